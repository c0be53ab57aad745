import Derived.Test.YtgpjjmpjddpocaaDoorU03v
import Derived.Test.YtgpjjmpjddpocaaDoorV03c
set_option linter.unusedVariables false
set_option linter.unusedSimpArgs false
set_option maxRecDepth 10000
namespace Go.Proofs
open Go X RowKit
theorem MSrc.drop {m : Mem} {sz : Nat} {q : Option Addr} {n c : Nat} {cs : List Value} (h : MSrc m sz (.slice q n c) n cs) {k : Nat} (hk : k ≤ n) (hc : n ≤ c) : MSrc m sz (.slice (cutA q c k sz) (n - k) (c - k)) (n - k) (cs.drop (k * sz)) := by
  have hl := h.len
  refine MSrc.mk (by rw [List.length_drop, hl, Nat.sub_mul]) (fun a ha => ?_) (fun hn => ?_)
  · by_cases hck : c = k
    · have : cs.drop (k * sz) = [] := List.drop_eq_nil_of_le (by rw [hl]; exact Nat.mul_le_mul_right _ (by omega))
      rw [this]; intro j v hj; simp at hj
    rw [cutA, if_neg hck] at ha
    cases q with
    | none => cases ha
    | some b =>
      simp only [Option.map_some, Option.some.injEq] at ha
      subst ha
      by_cases hn : n = 0
      · subst hn
        have : cs = [] := List.eq_nil_of_length_eq_zero (by simpa using hl)
        subst this; intro j v hj; simp at hj
      have hcells : MCells m b cs := by
        cases h with
        | nil => exact absurd rfl hn
        | row a n c news h0 hl hc => exact hc
      intro j v hj
      rw [Addr.add_add]
      exact hcells _ _ (by rw [← hj, List.getElem?_drop])
  · by_cases hck : c = k
    · omega
    rw [cutA, if_neg hck] at hn
    cases q with
    | none => have := h.none_len; omega
    | some b => cases hn
theorem c_EqualP (q q' : Sl) (l l' : List Pt) (hb : l.length ≤ 140737488355328) : Ctr Tryd.prog 31 #[slV q l.length, slV q' l'.length] (fun m => MSrc m 5 (slV q l.length) l.length (l.flatMap Pt.row) ∧ MSrc m 5 (slV q' l'.length) l'.length (l'.flatMap Pt.row)) [] (fun _ : Unit => .bool (decide (l = l'))) (fun _ _ => True) (fun _ => []) := by
  refine Ctr.mk fun w F m C hp => x_EqualP _ _ _ _ _ _ w _ ?_
  obtain ⟨h1, h2⟩ := hp
  by_cases hl : l.length = l'.length
  rotate_left
  · rw [if_pos (by simp; omega)]
    exact Ctr.ret () (by rw [decide_eq_false (fun h => hl (by rw [h]))]) trivial C
  rw [if_neg (by simp [hl])]
  refine ⟨fun i w' _ => ∃ j : Nat, i = j ∧ j ≤ l.length ∧ l.take j = l'.take j ∧ Ctx F m w w' [] m [], fun i _ => (l.length - i).toNat, ⟨0, rfl, by omega, rfl, C⟩, ?_⟩
  clear C
  rintro i w4 L5 _ ⟨j, rfl, hj, hjt, D⟩
  by_cases hjl : j < l.length
  · rw [if_pos (by simpa using hjl)]
    obtain ⟨a1, ha1, hc1⟩ := h1.elem pt_len hjl
    obtain ⟨a2, ha2, hc2⟩ := h2.elem pt_len (show j < l'.length by omega)
    refine ⟨by omega, by simpa using hjl, ?_⟩
    rw [ha1, onSome_some]
    refine ⟨_, _, _, _, _, D.cells hc1, by omega, by omega, ?_⟩
    rw [ha2, onSome_some]
    refine ⟨_, _, _, _, _, D.cells hc2, ?_⟩
    rw [pt_eq]
    by_cases he : l[j] = l'[j]
    · rw [if_neg (by simp [he])]
      intro w18 h18
      have e : IntKind.wrap .i64 ((j : Int) + 1) = ((j + 1 : Nat) : Int) := by rw [w_i64 (by omega) (by omega)]; omega
      rw [e]
      refine ⟨⟨j + 1, rfl, hjl, ?_, D.hid0 h18⟩, Nat.le_of_eq (by show ((l.length : Int) - ((j + 1 : Nat) : Int)).toNat + 1 = ((l.length : Int) - (j : Int)).toNat; omega)⟩
      rw [List.take_succ_eq_append_getElem hjl, List.take_succ_eq_append_getElem (by omega : j < l'.length), hjt, he]
    · rw [if_pos (by simp [he])]
      intro w19 h19
      refine Ctr.ret () ?_ trivial (D.hid0 h19)
      rw [decide_eq_false (fun h => he (by simp only [h]))]
  · rw [if_neg (by simpa using hjl)]
    have hj2 : j = l.length := by omega
    rw [hj2, List.take_length, hl, List.take_length] at hjt
    exact Ctr.ret () (by rw [decide_eq_true hjt]) trivial D
theorem c_pSame (q q' : Sl) (l l' : List Pt) (hb : l.length ≤ 140737488355328) : Ctr Tryd.prog 23 #[slV q l.length, slV q' l'.length] (fun m => MSrc m 5 (slV q l.length) l.length (l.flatMap Pt.row) ∧ MSrc m 5 (slV q' l'.length) l'.length (l'.flatMap Pt.row)) [] (fun _ : Unit => .bool (decide (l = l'))) (fun _ _ => True) (fun _ => []) := by
  refine Ctr.mk fun w F m C hp => x_pSame _ _ _ _ _ _ w _ ?_
  exact (c_EqualP q q' l l' hb).call (As := []) C hp fun _ m2 w2 hk hm _ C => ⟨_, rfl, hk.size, Ctr.ret () rfl trivial C⟩
theorem rs_eq (a b : Rs) (h : a = b) : ((a.c == b.c) && (a.v == b.v)) = true := by
  subst h
  have : (a.v == a.v) = true := (ba_eq _ _).2 rfl
  rw [this]; simp
theorem c_RefRes' (r : Rs) : Gives Tryd.prog 20 #[.agg r.row.toArray] (.agg r.row.toArray) := c_RefRes r.c r.v
theorem c_Res' (r : Rs) : Gives Tryd.prog 16 #[.agg r.row.toArray] (.agg r.row.toArray) := c_Res3 r.c r.v
theorem b30 : appB Tryd.prog 30 30 23 5 48 = true := by kernel_rfl
theorem blk2 {m0 : Mem} {w0 w' : World} {L : List Nat} {m : Mem} {A : Asn} {As : List Asn} {b : Nat} {p : Pt} (D : Ctx [] m0 w0 w' L m (A :: blk b p.row 23 :: As)) : Cells w' ⟨b, 0, none⟩ p.row := D.swap.blkCells (o := 0) fun k v e => by simpa using e
theorem l_PartTells (w : World) (hT : Tab w) (p : Pt) (a b : Rs) (q : Option Addr) (c : Nat) (l : List Pt) (hp : PtIn p) (ha : a.v.size ≤ 281474976710656) (hb : b.v.size ≤ 281474976710656) (hs : MSrc (memOf w) 5 (.slice q l.length c) l.length (l.flatMap Pt.row)) (hl : l.length * 48 ≤ 140737488351232) :
    Calls Tryd.prog 5 #[.agg p.row.toArray, .agg a.row.toArray, .agg b.row.toArray, .slice q l.length c] w (LawR w) := by
  refine x_PartTells _ _ _ _ _ _ _ _ _ _ _ _ w _ fun w1 L2 h1 g1 => ?_
  have C := (lawStart w).hidL h1 g1
  have hA := C.newShare p.row 23 (0, 0)
  have shp : ∀ (m : Mem) (b : Nat), MSrc (m.plus b p.row) 5 (.slice (some ⟨b, 0, none⟩) 1 1) 1 ([p].flatMap Pt.row) := fun m b => by
    have : MSrc (m.plus b p.row) 5 (.slice (some ⟨b, 0, none⟩) 1 1) 1 p.row := MSrc.mk rfl (fun a ha => by injection ha with ha; subst ha; exact Mem.plus_cells _ _ _ _ _ fun j v hj => by rw [Nat.zero_add]; exact hj) (fun h => by cases h)
    simpa using this
  refine (c_Light3 (some ⟨w1.heap.size, 0, none⟩, 1) [p]).call (As := []) hA.1 (shp _ _) fun b1 m1 w4 hk hm1 _ C => ⟨b1, rfl, hk, ?_⟩
  by_cases hb1 : ((!b1) || decide ((IntKind.wrap .i64 (((a.v.size : Nat) : Int) + ((b.v.size : Nat) : Int))) > 5000)) = true
  · rw [if_neg (by rw [hb1]; decide)]
    exact c_knows C hT fun w7 m2 hk _ C => ⟨_, rfl, hk, rfl, Ctx.at_ C⟩
  rw [if_pos (by rw [Bool.eq_false_iff.2 hb1]; rfl)]
  replace hs := (hs.mono hA.2).mono hm1
  refine (c_Light3 (q, c) l).call (As := []) C hs fun b2 m2 w10 hk hm2 _ C => ⟨b2, rfl, hk, ?_⟩
  by_cases hb2 : (false || (!b2)) = true
  · rw [if_pos hb2]
    exact c_knows C hT fun w7 m2 hk _ C => ⟨_, rfl, hk, rfl, Ctx.at_ C⟩
  rw [if_neg hb2]
  replace hs := hs.mono hm2
  have hll : l.length ≤ 140737488355328 := by omega
  have hmx : ∀ n, n ≤ 140737488355328 → n ≤ maxLen := fun n h => by unfold maxLen; omega
  refine ⟨fun q' n' c' w' L' => ∃ m' : Mem, n' = l.length + 1 ∧ n' ≤ c' ∧ MSrc m' 5 (.slice q' n' c') n' ((l ++ [p]).flatMap Pt.row) ∧ m2.le m' ∧ Ctx [] (memOf w) w w' L' m' [], ⟨[], facts_nil _ _, ?_, ?_⟩, ?_⟩
  · intro w14 L15 h14 g14
    have D0 : Ctx [] (memOf w) w _ L15 m2 [slA (.slice (some ⟨w14.heap.size, 0, none⟩) 0 0) 0 [] 23 5] := ((C.hidL h14 g14).newDrop [] 23).slNil
    refine ⟨facts_nil _ _, ?_, facts_nil _ _, ?_⟩
    · obtain ⟨q1, c1, w19, hr, hk, D1⟩ := D0.app2 (P := Tryd.prog) (bytes := 48) 30 b30 (D0.src hs) (hmx _ (by omega)) (by omega) (flat_one pt_one l)
      rw [Nat.zero_add] at hr D1
      refine ⟨q1, l.length, c1, w19, hr, hk, facts_nil _ _, facts_nil _ _, ?_⟩
      have D2 := (D1.alloc p.row 23).swap
      have hc : Cells _ ⟨w19.heap.size, 0, none⟩ p.row := D2.swap.blkCells (o := 0) fun k v e => by simpa using e
      obtain ⟨q2, c2, w23, hr2, hk2, D3⟩ := D2.app2 (P := Tryd.prog) (bytes := 48) 30 b30 (.some ⟨w19.heap.size, 0, none⟩ 1 1 p.row rfl hc) (hmx _ (by omega)) (by omega) (pt_one _)
      obtain ⟨hcap, _, _⟩ := D3.slCap
      obtain ⟨m3, hm3, hs3, D4⟩ := D3.slShare
      exact ⟨q2, _, c2, w23, hr2, hk2, facts_nil _ _, rfl, rfl, rfl, m3, rfl, hcap, by simpa using hs3, hm3, D4.pk [] [0] rfl⟩
    · have D1 := (D0.alloc p.row 23).swap
      obtain ⟨q1, c1, w19, hr, hk, D2⟩ := D1.app2 (P := Tryd.prog) (bytes := 48) 30 b30 (D1.src hs) (hmx _ (by omega)) (by omega) (flat_one pt_one l)
      rw [Nat.zero_add] at hr D2
      refine ⟨q1, l.length, c1, w19, hr, hk, facts_nil _ _, ?_⟩
      obtain ⟨q2, c2, w23, hr2, hk2, D3⟩ := D2.app2 (P := Tryd.prog) (bytes := 48) 30 b30 (.some ⟨_, 0, none⟩ 1 1 p.row rfl (blk2 D2)) (hmx _ (by omega)) (by omega) (pt_one _)
      obtain ⟨hcap, _, _⟩ := D3.slCap
      obtain ⟨m3, hm3, hs3, D4⟩ := D3.slShare
      exact ⟨q2, _, c2, w23, hr2, hk2, facts_nil _ _, rfl, rfl, rfl, m3, rfl, hcap, by simpa using hs3, hm3, D4.pk [] [0] rfl⟩
  · intro w32 L33 h32 g32
    have DA := (C.hidL h32 g32).alloc p.row 23
    have D1 : Ctx [] (memOf w) w _ L33 m2 [slA (.slice (some ⟨(w32.alloc (.cells p.row.toArray 23)).heap.size, 0, none⟩) 0 0) 0 [] 23 5, blk w32.heap.size p.row 23] := (DA.newDrop [] 23).slNil
    refine ⟨facts_nil _ _, facts_nil _ _, ?_⟩
    obtain ⟨q1, c1, w19, hr, hk, D2⟩ := D1.app2 (P := Tryd.prog) (bytes := 48) 30 b30 (D1.src hs) (hmx _ (by omega)) (by omega) (flat_one pt_one l)
    rw [Nat.zero_add] at hr D2
    refine ⟨q1, l.length, c1, w19, hr, hk, facts_nil _ _, ?_⟩
    obtain ⟨q2, c2, w23, hr2, hk2, D3⟩ := D2.app2 (P := Tryd.prog) (bytes := 48) 30 b30 (.some ⟨_, 0, none⟩ 1 1 p.row rfl (blk2 D2)) (hmx _ (by omega)) (by omega) (pt_one _)
    obtain ⟨hcap, _, _⟩ := D3.slCap
    obtain ⟨m3, hm3, hs3, D4⟩ := D3.slShare
    exact ⟨q2, _, c2, w23, hr2, hk2, facts_nil _ _, rfl, rfl, rfl, m3, rfl, hcap, by simpa using hs3, hm3, D4.pk [] [0] rfl⟩
  clear C
  rintro q' n' c' w45 L46 _ ⟨m3, rfl, hcap, hs', hm3, C⟩
  replace hs := hs.mono hm3
  have hle : (l ++ [p]).length = l.length + 1 := by simp
  refine ⟨[], facts_nil _ _, fun w48 L49 h48 g48 => ?_⟩
  refine (C.hidL h48 g48).gives (c_Part p) fun w51 k51 C => ⟨_, _, _, _, _, rfl, k51, facts_nil _ _, [], facts_nil _ _, (fun _ h => h), ?_⟩
  refine ctx_givesT C hT (c_Show p hp) fun w60 k60 C => ⟨_, rfl, k60, facts_nil _ _, [], facts_nil _ _, (fun _ h => h), ?_⟩
  refine C.gives (c_rShow p hp) fun w65 k65 C => ⟨_, rfl, k65, facts_nil _ _, [], facts_nil _ _, (fun _ h => h), ?_⟩
  rw [if_pos (by rw [toBA_beq]; simp)]
  refine C.gives (c_Res' a) fun wa ka C => ⟨_, _, rfl, ka, facts_nil _ _, ?_⟩
  refine C.gives (c_Res' b) fun wb kb C => ⟨_, _, rfl, kb, facts_nil _ _, ?_⟩
  refine C.gives (c_Join a b ha hb) fun wc kc C => ⟨_, _, rfl, kc, facts_nil _ _, ?_⟩
  refine C.gives (c_RefRes' (joinR a b)) fun wd kd C => ⟨_, _, rfl, kd, facts_nil _ _, ?_⟩
  refine C.gives (c_rJoin a b ha hb) fun we ke C => ⟨_, _, rfl, ke, facts_nil _ _, ?_⟩
  rw [rs_eq (joinR a b) (joinR a b) rfl, if_pos (by rfl)]
  have hl48 : l.length * 48 ≤ 140737488355328 := by omega
  have hl49 : (l ++ [p]).length * 48 ≤ 140737488355328 := by rw [hle]; omega
  refine (c_Parts (q, c) l hl48).call (As := []) C hs fun q1 m4 wf hk hm4 s1 C => ⟨q1.1, _, q1.2, rfl, hk, facts_nil _ _, ?_⟩
  refine (c_Parts (q, c) l hl48).call (As := []) C (hs.mono hm4) fun q2 m5 wg hk hm5 s2 C => ⟨q2.1, _, q2.2, rfl, hk, facts_nil _ _, ?_⟩
  refine (c_pSame q1 q2 l l hll).call (As := []) C ⟨s1.mono hm5, s2⟩ fun _ m6 wh hk hm6 _ C => ⟨_, rfl, hk, facts_nil _ _, ?_⟩
  rw [if_pos (by simp)]
  have hs6 := ((hs.mono hm4).mono hm5).mono hm6
  have hs6' := ((hs'.mono hm4).mono hm5).mono hm6
  refine (c_Parts (q, c) l hl48).call (As := []) C hs6 fun q3 m7 wi hk hm7 s3 C => ⟨q3.1, _, q3.2, rfl, hk, facts_nil _ _, ?_⟩
  have e4' : (Value.slice q' (l.length + 1) c') = slV (q', c') (l ++ [p]).length := by rw [hle]
  rw [e4']
  refine (c_Parts (q', c') (l ++ [p]) hl49).call (As := []) C (by rw [hle]; exact hs6'.mono hm7) fun q4 m8 wj hk hm8 s4 C => ?_
  have e4 : slV q4 (l ++ [p]).length = .slice q4.1 (l.length + 1) q4.2 := by rw [hle]
  refine ⟨q4.1, l.length + 1, q4.2, by rw [e4], hk, facts_nil _ _, ?_⟩
  have hdiff : decide (l = l ++ [p]) = false := by
    rw [decide_eq_false_iff_not]; intro h
    have := congrArg List.length h
    rw [hle] at this; omega
  rw [← e4]
  refine (c_pSame q3 q4 l (l ++ [p]) hll).call (As := []) C ⟨s3.mono hm8, s4⟩ fun _ m9 wk hk hm9 _ C => ⟨_, rfl, hk, facts_nil _ _, ?_⟩
  rw [hdiff, if_pos (by rfl)]
  refine ⟨by omega, by omega, by omega, by omega, ?_⟩
  rw [Int.toNat_natCast]
  have hd : MSrc m9 5 (slV (cutA q' c' l.length 5, c' - l.length) [p].length) [p].length ([p].flatMap Pt.row) := by
    have h1 := MSrc.drop (((hs6'.mono hm7).mono hm8).mono hm9) (k := l.length) (by omega) hcap
    have e1 : ((l ++ [p]).flatMap Pt.row).drop (l.length * 5) = [p].flatMap Pt.row := by
      rw [List.flatMap_append, ← flat_len pt_len l, List.drop_left]
    rw [e1] at h1
    have e2 : l.length + 1 - l.length = 1 := by omega
    rw [e2] at h1
    exact h1
  have e5 : l.length + 1 - l.length = [p].length := by simp
  rw [e5]
  refine (c_Parts (cutA q' c' l.length 5, c' - l.length) [p] (by simp)).call (As := []) C hd fun q5 m10 wl hk hm10 s5 C => ⟨q5.1, _, q5.2, rfl, hk, facts_nil _ _, ?_⟩
  have hs10 := ((hs6.mono hm7).mono hm8).mono (hm9.le_trans hm10)
  refine (c_Parts (q, c) l hl48).call (As := []) C hs10 fun q6 m11 wm hk hm11 s6 C => ⟨q6.1, _, q6.2, rfl, hk, facts_nil _ _, ?_⟩
  refine (c_pSame q5 q6 [p] l (by simp)).call (As := []) C ⟨s5.mono hm11, s6⟩ fun _ m12 wn hk hm12 _ C => ⟨_, rfl, hk, facts_nil _ _, ?_⟩
  refine (c_r3Same (cutA q' c' l.length 5, c' - l.length) (q, c) [p] l (by simp)).call (As := []) C ⟨(hd.mono hm10).mono (hm11.le_trans hm12), hs10.mono (hm11.le_trans hm12)⟩ fun _ m13 wo hk hm13 _ C => ⟨_, rfl, hk, facts_nil _ _, ?_⟩
  rw [if_pos (by simp)]
  exact c_knows C hT fun w42 m5 hk _ C => ⟨_, rfl, hk, facts_nil _ _, rfl, Ctx.at_ C⟩
end Go.Proofs
