import Derived.Test.YtfbjellaijdgbaaDoorU06d
import Derived.Test.YtfbjellaijdgbaaDoorXPm
import Derived.Test.YtfbjellaijdgbaaDoorV06n
set_option linter.unusedVariables false
set_option linter.unusedSimpArgs false
set_option maxRecDepth 10000
namespace Go.Proofs
open Go X RowKit
/-! ### the next view, in plain Lean -/
def keepF (ms drop : List Pr) : List Pr := ms.filter fun p => decide (p ∉ drop)
def nextL (ms drop add : List Pr) : List Pr := add.foldl takeF (keepF ms drop)
structure Nv where (e g n : Int) (ms : List Pr)
def Nv.err (e : Int) : Nv := ⟨e, 0, 0, []⟩
def nextF (v : Vw) (drop add : List Pr) : Nv :=
  if v.ok = false then .err 1 else if v.n = 4294967295 then .err 2 else
  if ¬ ((cntM v.ms (nextL v.ms drop add) : Int) ≥ v.maj) then .err 17 else if 8 < (nextL v.ms drop add).length then .err 11 else ⟨0, v.g, v.n + 1, nextL v.ms drop add⟩
abbrev Nv.V (x : Nv) (p : Sl) : Value := .tuple #[.agg #[.int .u8 x.g, .int .u32 x.n, slV p x.ms.length], .int .i64 x.e]
abbrev Nv.M (x : Nv) (m : Mem) (p : Sl) : Prop := MSrc m 2 (slV p x.ms.length) x.ms.length (x.ms.flatMap Pr.row)
theorem nd_idx {l : List Pr} (h : (l.map Pr.n).Nodup) {i : Nat} (hi : i < l.length) {n : Int} (he : l[i].n = n) : idxN l n = some i := by
  rw [idxN, List.findIdx?_eq_some_iff_getElem]
  refine ⟨hi, by simp [he], fun k hk => ?_⟩
  intro hb
  have h2 : l[k].n = l[i].n := by rw [he]; simpa using hb
  have h3 := List.pairwise_iff_getElem.1 h k i (by simp; omega) (by simpa using hi) hk
  simp only [List.getElem_map] at h3
  exact h3 h2
theorem nd_take {l : List Pr} {p : Pr} (h : (l.map Pr.n).Nodup) : ((takeF l p).map Pr.n).Nodup := by
  unfold takeF
  split
  · split
    · rename_i i hi
      obtain ⟨h1, h2, -⟩ := List.findIdx?_eq_some_iff_getElem.1 hi
      have h2 : l[i].n = p.n := by simpa using h2
      have e : (l.set i p).map Pr.n = l.map Pr.n := by
        rw [List.map_set]
        apply List.ext_getElem (by simp)
        intro k h3 h4
        rw [List.getElem_set]
        split
        · rename_i hk; subst hk; simp [h2]
        · rfl
      rw [e]; exact h
    · rename_i hi
      have hi := List.findIdx?_eq_none_iff.1 hi
      rw [List.map_append, List.nodup_append]
      refine ⟨h, by simp, fun a ha b hb => ?_⟩
      simp only [List.map_cons, List.map_nil, List.mem_singleton] at hb
      subst hb
      obtain ⟨x, hx, rfl⟩ := List.mem_map.1 ha
      have := hi x hx
      simpa using this
  · exact h
theorem nd_keep {l d : List Pr} (h : (l.map Pr.n).Nodup) : ((keepF l d).map Pr.n).Nodup := h.sublist (List.filter_sublist.map _)
theorem nd_fold : ∀ {a l : List Pr}, (l.map Pr.n).Nodup → ((a.foldl takeF l).map Pr.n).Nodup
  | [], _, h => h
  | p :: a, _, h => nd_fold (a := a) (nd_take h)
theorem take_len (l : List Pr) (p : Pr) : (takeF l p).length ≤ l.length + 1 := by
  unfold takeF
  split
  · split
    · simp
    · simp
  · omega
theorem fold_len : ∀ (a l : List Pr), (a.foldl takeF l).length ≤ l.length + a.length
  | [], l => by simp
  | p :: a, l => by
    have h1 := fold_len a (takeF l p)
    have h2 := take_len l p
    simp only [List.foldl_cons, List.length_cons]; omega
theorem keep_len (l d : List Pr) : (keepF l d).length ≤ l.length := List.length_filter_le _ _
abbrev prR (q : Option Addr) (k c : Nat) (l : List Pr) : Asn := slA (.slice q k c) k (l.flatMap Pr.row) 46 2
set_option maxHeartbeats 1000000 in
theorem c_rNext (v : Vw) (hr : ∀ p ∈ v.ms, 0 ≤ p.n) (hn : 0 ≤ v.n ∧ v.n ≤ 4294967295) (dq : Sl) (drop : List Pr) (hd : drop.length ≤ 1000) (aq : Sl) (add : List Pr) (ha : add.length ≤ 1000) :
    Ctr Tryd.prog 10 #[.agg v.row.toArray, slV dq drop.length, slV aq add.length] (fun m => VwM m v ∧ MSrc m 2 (slV dq drop.length) drop.length (drop.flatMap Pr.row) ∧ MSrc m 2 (slV aq add.length) add.length (add.flatMap Pr.row)) []
      (fun p : Sl => (nextF v drop add).V p) (fun p m => (nextF v drop add).M m p) (fun _ => []) := by
  refine Ctr.mk fun w F m C hp => x_rNext _ _ _ _ _ _ _ _ _ _ _ w _ fun w1 L2 h1 g1 => ?_
  obtain ⟨hv, hdm, ham⟩ := hp
  refine (c_rRight v hr hn.1).call (As := []) (C.hidL h1 g1) hv fun _ m1 w4 hk hm1 _ C => ⟨_, rfl, hk, ?_⟩
  replace hv := MSrc.mono hv hm1
  replace hdm := hdm.mono hm1
  replace ham := ham.mono hm1
  cases hok : v.ok with
  | false =>
    rw [if_pos (by decide)]
    have e : nextF v drop add = .err 1 := by rw [nextF, if_pos hok]
    rw [e]
    exact fun w92 h92 => Ctr.ret (m' := m1) (L := []) (none, 0) rfl (.nil ..) (C.hid0 h92)
  | true =>
  rw [if_neg (by decide)]
  have hms : v.ms.length ≤ 8 ∧ (v.ms.map Pr.n).Nodup := by
    have := hok
    simp only [Vw.ok, decide_eq_true_eq] at this
    exact ⟨this.2.2.2.1, this.2.2.2.2.2⟩
  by_cases hmx : v.n = 4294967295
  · rw [if_pos (by simp [hmx])]
    have e : nextF v drop add = .err 2 := by rw [nextF, if_neg (by simp [hok]), if_pos hmx]
    rw [e]
    exact fun w92 h92 => Ctr.ret (m' := m1) (L := []) (none, 0) rfl (.nil ..) (C.hid0 h92)
  rw [if_neg (by simp [hmx])]
  have hw1 : IntKind.wrap .u32 (v.n + 1) = v.n + 1 := w_u32 (by omega) (by omega)
  rw [hw1]
  intro w6 L7 h6 g6
  refine ⟨fun i g n q k c w' L' => ∃ (j : Nat) (m' : Mem), i = j ∧ j ≤ v.ms.length ∧ g = v.g ∧ n = v.n + 1 ∧ k = (keepF (v.ms.take j) drop).length ∧ m1.le m' ∧ Ctx F m w w' L' m' [prR q k c (keepF (v.ms.take j) drop)], fun i _ _ _ _ _ _ => ((v.ms.length : Int) - i).toNat, ⟨0, m1, rfl, by omega, rfl, rfl, rfl, Mem.le_refl _, (C.hidL h6 g6).slNil⟩, ?_⟩
  clear C
  rintro i g n q k c w16 L17 _ ⟨j, m', rfl, hj, rfl, rfl, rfl, hm', D⟩
  by_cases hjl : j < v.ms.length
  · rw [if_pos (by simpa using hjl)]
    refine ⟨by omega, by simpa using hjl, ?_⟩
    obtain ⟨a, ha1, hc⟩ := (MSrc.mono hv hm').elem pr_len hjl
    have ha1 : v.q.1 = some a := ha1
    rw [ha1, onSome_some, Int.toNat_natCast]
    refine ⟨_, _, D.cells hc, D.cellsL hc, ?_⟩
    have e : IntKind.wrap .i64 ((j : Int) + 1) = ((j + 1 : Nat) : Int) := by rw [w_i64 (by omega) (by omega)]; omega
    have hst : keepF (v.ms.take (j + 1)) drop = keepF (v.ms.take j) drop ++ (if v.ms[j] ∈ drop then [] else [v.ms[j]]) := by
      rw [List.take_succ_eq_append_getElem hjl, keepF, List.filter_append]
      congr 1
      by_cases h : v.ms[j] ∈ drop <;> simp [h]
    refine (c_rRank dq drop v.ms[j] (by omega)).call (As := [prR q _ c (keepF (v.ms.take j) drop)]) D (hdm.mono hm') fun r m2 w77 hk hm2 hr2 D => ⟨_, rfl, hk, ?_⟩
    by_cases hin : v.ms[j] ∈ drop
    · have : ¬ r < 0 := fun h => hr2.1 h hin
      rw [if_neg (by simpa using this), e]
      rw [if_pos hin, List.append_nil] at hst
      refine ⟨rfl, rfl, ⟨j + 1, m2, rfl, hjl, rfl, rfl, by rw [hst], hm'.le_trans hm2, by rw [hst]; exact D⟩, Nat.le_of_eq (by show ((v.ms.length : Int) - ((j + 1 : Nat) : Int)).toNat + 1 = ((v.ms.length : Int) - (j : Int)).toNat; omega)⟩
    · have := hr2.2 hin
      rw [if_pos (by simpa using this), e]
      rw [if_neg hin] at hst
      have hc2 := MCells.mono hc hm2
      refine ⟨_, D.memFact hc2 (facts_nil _ _), by omega, by simpa using hjl, ?_⟩
      rw [onSome_some]
      refine ⟨_, _, List.mem_singleton.2 rfl, fun w83 L84 h83 g83 => ?_⟩
      have D1 := ((D.hidL h83 g83).alloc v.ms[j].row 46).swap
      have hcl : Cells _ ⟨w83.heap.size, 0, none⟩ v.ms[j].row := ((D.hidL h83 g83).alloc v.ms[j].row 46).blkCells (o := 0) fun k v e => by simpa using e
      have hkl := keep_len (v.ms.take j) drop
      rw [List.length_take] at hkl
      obtain ⟨q2, c2, w88, hr8, hkk, D2⟩ := D1.app2 (P := Tryd.prog) (bytes := 4) (t := 23) (t2 := 23) 23 (by kernel_rfl) (.some ⟨w83.heap.size, 0, none⟩ 1 1 v.ms[j].row rfl hcl) (by unfold maxLen; omega) (by omega) (pr_one _)
      refine ⟨D1.memFact hc2 (facts_nil _ _), q2, _, c2, w88, hr8, hkk, D2.memFact hc2 (facts_nil _ _), fun w89 L90 h89 g89 => ⟨rfl, rfl, ?_⟩⟩
      have e2 : (keepF (v.ms.take (j + 1)) drop).flatMap Pr.row = (keepF (v.ms.take j) drop).flatMap Pr.row ++ v.ms[j].row := by rw [hst, List.flatMap_append]; simp
      have e3 : (keepF (v.ms.take j) drop).length + 1 = (keepF (v.ms.take (j + 1)) drop).length := by rw [hst]; simp
      rw [e3] at D2 ⊢
      refine ⟨⟨j + 1, m2, rfl, hjl, rfl, rfl, rfl, hm'.le_trans hm2, ?_⟩, Nat.le_of_eq (by show ((v.ms.length : Int) - ((j + 1 : Nat) : Int)).toNat + 1 = ((v.ms.length : Int) - (j : Int)).toNat; omega)⟩
      rw [prR, e2]
      exact (D2.pk [0] [1] rfl).hidL h89 g89
  rw [if_neg (by simpa using hjl)]
  have hj2 : j = v.ms.length := by omega
  subst hj2
  rw [List.take_length] at D
  have hkl := keep_len v.ms drop
  refine ⟨fun i g n q k c w' L' => ∃ (j : Nat) (m' : Mem), i = j ∧ j ≤ add.length ∧ g = v.g ∧ n = v.n + 1 ∧ k = (nextL v.ms drop (add.take j)).length ∧ m1.le m' ∧ Ctx F m w w' L' m' [prR q k c (nextL v.ms drop (add.take j))], fun i _ _ _ _ _ _ => ((add.length : Int) - i).toNat, ⟨0, m', rfl, by omega, rfl, rfl, by rw [List.take_length]; rfl, hm', by rw [List.take_length]; exact D⟩, ?_⟩
  clear D hm' m' hjl hj
  rintro i g n q k c w26 L27 _ ⟨j, m', rfl, hj, rfl, rfl, rfl, hm', D⟩
  have hcl := fold_len (add.take j) (keepF v.ms drop)
  have hcur : (nextL v.ms drop (add.take j)).length ≤ 2000 := by rw [List.length_take] at hcl; unfold nextL; omega
  have hnd : ((nextL v.ms drop (add.take j)).map Pr.n).Nodup := nd_fold (nd_keep hms.2)
  by_cases hjl : j < add.length
  rotate_left
  · rw [if_neg (by simpa using hjl)]
    have hj2 : j = add.length := by omega
    subst hj2
    rw [List.take_length] at D hcur ⊢
    obtain ⟨m3, hm3, hs, D⟩ := D.slShare
    refine (c_rQuorum v (by omega) (q, c) (nextL v.ms drop add) (by omega)).call (As := []) D ⟨MSrc.mono hv (hm'.le_trans hm3), hs⟩ fun b m4 w29 hk hm4 hb D => ⟨_, rfl, hk, ?_⟩
    subst hb
    have e0 : nextF v drop add = if ¬ ((cntM v.ms (nextL v.ms drop add) : Int) ≥ v.maj) then .err 17 else if 8 < (nextL v.ms drop add).length then .err 11 else ⟨0, v.g, v.n + 1, nextL v.ms drop add⟩ := by rw [nextF, if_neg (by simp [hok]), if_neg hmx]
    by_cases hq : (cntM v.ms (nextL v.ms drop add) : Int) ≥ v.maj
    · rw [if_neg (by simp [hq])]
      rw [if_neg (by simpa using hq)] at e0
      by_cases h8 : 8 < (nextL v.ms drop add).length
      · rw [if_pos (by simp; omega)]
        rw [if_pos h8] at e0
        rw [e0]
        exact fun w92 h92 => Ctr.ret (m' := m4) (L := []) (none, 0) rfl (.nil ..) (D.hid0 h92)
      · rw [if_neg (by simp; omega)]
        rw [if_neg h8] at e0
        rw [e0]
        exact fun w92 h92 => Ctr.ret (m' := m4) (L := []) (q, c) rfl (hs.mono hm4) (D.hid0 h92)
    · rw [if_pos (by simp; omega)]
      rw [if_pos hq] at e0
      rw [e0]
      exact fun w92 h92 => Ctr.ret (m' := m4) (L := []) (none, 0) rfl (.nil ..) (D.hid0 h92)
  rw [if_pos (by simpa using hjl)]
  obtain ⟨a, ha1, hc⟩ := (ham.mono hm').elem pr_len hjl
  have ha1 : aq.1 = some a := ha1
  have hst : nextL v.ms drop (add.take (j + 1)) = takeF (nextL v.ms drop (add.take j)) add[j] := by
    rw [List.take_succ_eq_append_getElem hjl, nextL, nextL, List.foldl_append]; rfl
  generalize hcu : nextL v.ms drop (add.take j) = cur at *
  generalize add[j] = p at *
  refine ⟨fun t i w' L' => ∃ k : Nat, i = k ∧ k ≤ cur.length ∧ ((t = -1 ∧ ∀ x ∈ cur.take k, (x.n == p.n) = false) ∨ ∃ (u : Nat) (h : u < cur.length), t = u ∧ cur[u].n = p.n) ∧ Ctx F m w w' L' m' [prR q cur.length c cur], fun _ i _ => ((cur.length : Int) - i).toNat, ⟨0, rfl, by omega, .inl ⟨rfl, by simp⟩, D⟩, ?_⟩
  clear D
  rintro t i w38 L39 _ ⟨k, rfl, hk, ht, D⟩
  by_cases hkl : k < cur.length
  · rw [if_pos (by simpa using hkl)]
    refine ⟨by omega, by simpa using hkl, ?_⟩
    have hsc := D.slCells
    have hne : cur.flatMap Pr.row ≠ [] := fun e0 => by
      have h := congrArg List.length e0
      rw [flat_len pr_len] at h
      simp at h; omega
    cases q with
    | none => exact absurd (hsc.2 rfl) hne
    | some qa =>
    rw [onSome_some, Int.toNat_natCast]
    have hcc := cells_elem pr_len (hsc.1 qa rfl).1 k hkl
    refine ⟨_, hcc 0 _ rfl, by rw [addr_block, addr_block]; exact (hsc.1 qa rfl).2 hne, by omega, by omega, ?_⟩
    rw [ha1, onSome_some, Int.toNat_natCast]
    refine ⟨_, D.cells hc 0 _ rfl, by rw [addr_block]; exact D.cellsL hc, ?_⟩
    have e : IntKind.wrap .i64 ((k : Int) + 1) = ((k + 1 : Nat) : Int) := by rw [w_i64 (by omega) (by omega)]; omega
    by_cases he : cur[k].n = p.n
    · rw [if_pos (by simp [he]), e]
      exact fun w71 L72 h71 g71 => ⟨rfl, rfl, rfl, ⟨k + 1, rfl, hkl, .inr ⟨k, hkl, rfl, he⟩, D.hidL h71 g71⟩, Nat.le_of_eq (by show ((cur.length : Int) - ((k + 1 : Nat) : Int)).toNat + 1 = ((cur.length : Int) - (k : Int)).toNat; omega)⟩
    · rw [if_neg (by simp [he]), e]
      refine fun w71 L72 h71 g71 => ⟨rfl, rfl, rfl, ⟨k + 1, rfl, hkl, ?_, D.hidL h71 g71⟩, Nat.le_of_eq (by show ((cur.length : Int) - ((k + 1 : Nat) : Int)).toNat + 1 = ((cur.length : Int) - (k : Int)).toNat; omega)⟩
      rcases ht with ⟨h1, h2⟩ | h
      · refine .inl ⟨h1, fun x hx => ?_⟩
        rw [List.take_succ_eq_append_getElem hkl, List.mem_append, List.mem_singleton] at hx
        rcases hx with hx | rfl
        · exact h2 x hx
        · simpa using he
      · exact .inr h
  rw [if_neg (by simpa using hkl)]
  have hk2 : k = cur.length := by omega
  subst hk2
  rw [List.take_length] at ht
  refine ⟨by omega, by simpa using hjl, ?_⟩
  rw [ha1, onSome_some, Int.toNat_natCast]
  refine ⟨_, _, D.cells hc, D.cellsL hc, ?_⟩
  have e : IntKind.wrap .i64 ((j : Int) + 1) = ((j + 1 : Nat) : Int) := by rw [w_i64 (by omega) (by omega)]; omega
  have hmes : ((add.length : Int) - ((j + 1 : Nat) : Int)).toNat + 1 = ((add.length : Int) - (j : Int)).toNat := by omega
  refine D.gives (c_rRightP p) fun w44 k44 D => ⟨_, rfl, k44, ?_⟩
  cases hpo : p.ok with
  | false =>
    rw [if_pos (by decide), e]
    have e2 : takeF cur p = cur := by rw [takeF, hpo]; rfl
    rw [e2] at hst
    exact ⟨rfl, rfl, ⟨j + 1, m', rfl, hjl, rfl, rfl, by rw [hst], hm', by rw [hst]; exact D⟩, Nat.le_of_eq hmes⟩
  | true =>
  rw [if_neg (by decide)]
  rcases ht with ⟨rfl, ht⟩ | ⟨u, hu, rfl, hun⟩
  · rw [if_neg (by decide)]
    have hi : idxN cur p.n = none := List.findIdx?_eq_none_iff.2 ht
    have e2 : takeF cur p = cur ++ [p] := by rw [takeF, hpo, hi]; rfl
    rw [e2] at hst
    refine ⟨_, D.memFact hc (facts_nil _ _), by omega, by simpa using hjl, ?_⟩
    rw [onSome_some]
    refine ⟨_, _, List.mem_singleton.2 rfl, fun w50 L51 h50 g50 => ?_⟩
    have D1 := ((D.hidL h50 g50).alloc p.row 46).swap
    have hcl : Cells _ ⟨w50.heap.size, 0, none⟩ p.row := ((D.hidL h50 g50).alloc p.row 46).blkCells (o := 0) fun k v e => by simpa using e
    obtain ⟨q2, c2, w55, hr8, hkk, D2⟩ := D1.app2 (P := Tryd.prog) (bytes := 4) (t := 23) (t2 := 23) 23 (by kernel_rfl) (.some ⟨w50.heap.size, 0, none⟩ 1 1 p.row rfl hcl) (by unfold maxLen; omega) (by omega) (pr_one _)
    refine ⟨D1.memFact hc (facts_nil _ _), q2, _, c2, w55, hr8, hkk, D2.memFact hc (facts_nil _ _), fun w56 L57 h56 g56 => ⟨rfl, rfl, ?_⟩⟩
    rw [e]
    refine ⟨⟨j + 1, m', rfl, hjl, rfl, rfl, by rw [hst]; simp, hm', ?_⟩, Nat.le_of_eq hmes⟩
    have e3 : (cur ++ [p]).flatMap Pr.row = cur.flatMap Pr.row ++ p.row := by rw [List.flatMap_append]; simp
    rw [hst, prR, e3]
    exact (D2.pk [0] [1] rfl).hidL h56 g56
  · rw [if_pos (by simp)]
    have hi : idxN cur p.n = some u := nd_idx hnd hu hun
    have e2 : takeF cur p = cur.set u p := by rw [takeF, hpo, hi]; rfl
    rw [e2] at hst
    refine ⟨_, D.memFact hc (facts_nil _ _), by omega, by simpa using hjl, ?_⟩
    rw [onSome_some]
    refine ⟨_, _, List.mem_singleton.2 rfl, by omega, by omega, ?_⟩
    have hfl : (cur.flatMap Pr.row).length = cur.length * 2 := flat_len pr_len cur
    obtain ⟨a3, ha3, -⟩ := D.slPut (u * 2) (.int .u8 p.n) [.int .u16 p.l] (by rw [hfl]; show u * 2 + 2 ≤ _; omega)
    subst ha3
    rw [onSome_some]
    intro w63 L64 h63 g63
    obtain ⟨a4, ha4, hsp, hth, hnl, D1⟩ := (D.hidL h63 g63).slPut (u * 2) (.int .u8 p.n) [.int .u16 p.l] (by rw [hfl]; show u * 2 + 2 ≤ _; omega)
    injection ha4 with ha4; subst ha4
    rw [Int.toNat_natCast]
    have hsp2 : (a3.add (u * 2)).spot = none := by obtain ⟨b, o, s⟩ := a3; simp only at hsp; subst hsp; rw [Addr.add_mid]
    have hblk : (a3.add (u * 2)).block = a3.block := by obtain ⟨b, o, s⟩ := a3; simp only at hsp; subst hsp; rw [Addr.add_mid]
    have hoff : (a3.add (u * 2)).off = a3.off + u * 2 := by obtain ⟨b, o, s⟩ := a3; simp only at hsp; subst hsp; rw [Addr.add_mid]
    rw [hsp2, hblk, hoff, e]
    have hput := flat_put pr_len (vs := [.int .u8 p.n, .int .u16 p.l]) (o := 0) (b := p) cur u hu (by simp) rfl
    rw [Nat.add_zero] at hput
    rw [hput] at D1
    refine ⟨rfl, hth, hnl, rfl, rfl, ⟨j + 1, m', rfl, hjl, rfl, rfl, by rw [hst]; simp, hm', ?_⟩, Nat.le_of_eq hmes⟩
    rw [hst, prR]
    exact D1
end Go.Proofs
