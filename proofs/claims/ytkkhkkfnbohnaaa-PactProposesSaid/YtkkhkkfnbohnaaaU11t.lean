import Derived.Test.YtkkhkkfnbohnaaaU11s
set_option linter.unusedVariables false
set_option linter.unusedSimpArgs false
set_option maxRecDepth 10000
namespace Go.Proofs
open Go X RowKit
abbrev zA (z0 b : Nat) : Asn := blk z0 [.pointer (some ⟨b, 0, none⟩)] 59
abbrev msA (z0 b mp : Nat) (x : Pp) : List Asn := [zA z0 b, ppB b x mp, gtA mp x.got]
section
variable {F0 : List Nat} {m0 : Mem} {w0 w : World} {L : List Nat} {m : Mem} {As : List Asn}
theorem msF {z0 b mp : Nat} {x : Pp} (C : Ctx F0 m0 w0 w L m (zA z0 b :: ppB b x mp :: As)) : FactsW [(⟨z0, 0, none⟩, [.pointer (some ⟨b, 0, none⟩)]), (⟨b, 5, none⟩, [.map (some mp)])] w L :=
  C.blkFact1 0 _ rfl (C.swap.blkFact1 5 _ rfl (facts_nil _ _))
end
theorem c_Missing1 (z0 b mp : Nat) (x : Pp) (p : Pr) : Ctr Try.prog 65 #[.agg p.row.toArray, .pointer (some ⟨z0, 0, none⟩)] noMem (msA z0 b mp x) (fun _ : Unit => .bool (decide (p ∈ x.got))) (fun _ _ => True) (fun _ => msA z0 b mp x) := by
  refine Ctr.mk fun w F m C _ => x_Missing1 _ _ _ w _ ⟨_, msF C, some ⟨b, 0, none⟩, by simp, ?_⟩
  rw [onSome_some]
  refine ⟨some mp, by simp [Addr.add_mid], fun w5 L6 h5 g5 => ?_⟩
  have C2 := C.hidL h5 g5
  exact ⟨_, w5, got_look (C2.pm [2, 0, 1] rfl) p, kept_refl _ _, msF C2, Ctr.ret () rfl trivial C2⟩
abbrev slP (q : Sl) (l : List Pr) : Asn := slA (slV q l.length) l.length (l.flatMap Pr.row) 67 2
abbrev delF (z0 : Nat) : Value := .func (.func 65) #[] #[.pointer (some ⟨z0, 0, none⟩)]
theorem sl_some {F0 : List Nat} {m0 : Mem} {w0 w : World} {L : List Nat} {m : Mem} {As : List Asn} {q : Sl} {l : List Pr} {n : Nat} (C : Ctx F0 m0 w0 w L m (slA (slV q n) n (l.flatMap Pr.row) 67 2 :: As)) (h : 0 < l.length) : ∃ a, q.1 = some a ∧ Cells w a (l.flatMap Pr.row) ∧ a.block ∉ L := by
  have hc := C.slCells
  have hfl := flat_len pr_len l
  have hne : l.flatMap Pr.row ≠ [] := fun e => by rw [e] at hfl; simp at hfl; omega
  cases hq : q.1 with
  | none => exact absurd (hc.2 hq) hne
  | some a => exact ⟨a, rfl, (hc.1 a hq).1, (hc.1 a hq).2 hne⟩
theorem c_IndexFunc (z0 b mp : Nat) (x : Pp) (q : Sl) (l : List Pr) (hl : l.length ≤ 1000000) : Ctr Try.prog 83 #[slV q l.length, delF z0] noMem (slP q l :: msA z0 b mp x) (fun r : Int => .int .i64 r)
    (fun r _ => (r = -1 ∧ ∀ p ∈ l, p ∉ x.got) ∨ ∃ j : Nat, r = j ∧ j < l.length ∧ (∀ p ∈ l.take j, p ∉ x.got) ∧ ∀ p, l[j]? = some p → p ∈ x.got) (fun _ => slP q l :: msA z0 b mp x) := by
  refine Ctr.mk fun w F m C _ => x_IndexFunc _ _ _ _ w _ ?_
  refine ⟨fun i w' _ => ∃ (j : Nat) (m' : Mem), i = j ∧ j ≤ l.length ∧ (∀ p ∈ l.take j, p ∉ x.got) ∧ m.le m' ∧ Ctx F m w w' [] m' (slP q l :: msA z0 b mp x), fun i _ => ((l.length : Int) - i).toNat, ⟨0, m, rfl, by omega, by simp, Mem.le_refl _, C⟩, ?_⟩
  clear C
  rintro i w4 L5 _ ⟨j, m', rfl, hj, hn, hm', D⟩
  by_cases hjl : j < l.length
  rotate_left
  · rw [if_neg (by simpa using hjl)]
    have hj2 : j = l.length := by omega
    rw [hj2, List.take_length] at hn
    exact Ctr.ret (-1) rfl (.inl ⟨rfl, hn⟩) D
  rw [if_pos (by simpa using hjl)]
  obtain ⟨a, ha, hc, _⟩ := sl_some D (by omega)
  refine ⟨by omega, by simpa using hjl, ?_⟩
  rw [ha, onSome_some, Int.toNat_natCast]
  refine ⟨_, _, cells_elem pr_len hc j hjl, ?_⟩
  refine (c_Missing1 z0 b mp x l[j]).call (As := [slP q l]) (D.pm [1, 2, 3, 0] rfl) trivial fun _ m2 w10 hk hm2 _ C => ⟨_, rfl, hk.size, ?_⟩
  have E : Ctx F m w w10 [] m2 (slP q l :: msA z0 b mp x) := Ctx.pm (As := msA z0 b mp x ++ [slP q l]) C [3, 0, 1, 2] rfl
  by_cases hg : l[j] ∈ x.got
  · rw [if_pos (by simp [hg])]
    refine Ctr.ret (m' := m2) (L := []) (j : Int) rfl (.inr ⟨j, rfl, hjl, hn, fun p hp => ?_⟩) E
    rw [List.getElem?_eq_getElem hjl] at hp
    injection hp with hp; subst hp; exact hg
  · rw [if_neg (by simp [hg])]
    have e : IntKind.wrap .i64 ((j : Int) + 1) = ((j + 1 : Nat) : Int) := by rw [w_i64 (by omega) (by omega)]; omega
    rw [e]
    refine ⟨⟨j + 1, m2, rfl, hjl, fun p hp => ?_, hm'.le_trans hm2, E⟩, Nat.le_of_eq (by show ((l.length : Int) - ((j + 1 : Nat) : Int)).toNat + 1 = ((l.length : Int) - (j : Int)).toNat; omega)⟩
    rw [List.take_succ_eq_append_getElem hjl] at hp
    rcases List.mem_append.1 hp with hp | hp
    · exact hn p hp
    · simp only [List.mem_singleton] at hp; subst hp; exact hg
theorem zero67 : ∀ i z, Try.prog.info? 67 = some i → i.zero = some z → ∀ u ∈ z.cells, oneC u = true := by
  intro i z hi hz u hu
  have h : ((Try.prog.info? 67).bind (·.zero)) = some (.agg #[.int .u8 0, .int .u16 0]) := by kernel_rfl
  rw [hi] at h
  have : i.zero = some (.agg #[.int .u8 0, .int .u16 0]) := h
  rw [hz] at this; injection this with this; subst this
  simp [Value.cells] at hu
  rcases hu with rfl | rfl <;> rfl
def keepP (x : Pp) (p : Pr) : Bool := !decide (p ∈ x.got)
theorem c_DeleteFunc (z0 b mp : Nat) (x : Pp) (q : Sl) (l : List Pr) (hl : l.length ≤ 1000000) : Ctr Try.prog 63 #[slV q l.length, delF z0] noMem (slP q l :: msA z0 b mp x) (fun r : Sl => slV r (l.filter (keepP x)).length)
    (fun _ _ => True) (fun r => slP r (l.filter (keepP x)) :: msA z0 b mp x) := by
  refine Ctr.mk fun w F m C _ => x_DeleteFunc _ _ _ _ w _ ?_
  refine (c_IndexFunc z0 b mp x q l hl).call (As := []) C trivial fun r m1 w2 hk hm1 hr C => ⟨_, rfl, hk.size, ?_⟩
  replace C : Ctx F m w w2 [] m1 (slP q l :: msA z0 b mp x) := C
  rcases hr with ⟨rfl, hall⟩ | ⟨j0, rfl, hj0, hbef, hat⟩
  · rw [if_pos (by decide)]
    have e : l.filter (keepP x) = l := List.filter_eq_self.2 fun p hp => by simp [keepP, hall p hp]
    rw [e]
    exact Ctr.ret (m' := m1) (L := []) q rfl trivial C
  rw [if_neg (by simp)]
  have hlast : l[j0] ∈ x.got := hat _ (List.getElem?_eq_getElem hj0)
  refine ⟨fun i j w' L' => ∃ (ni nj : Nat) (cur : List Pr) (m' : Mem), i = ni ∧ j = nj ∧ ni < nj ∧ nj ≤ l.length ∧ cur.length = l.length ∧ cur.take ni = (l.take nj).filter (keepP x) ∧ cur.drop nj = l.drop nj ∧ m.le m' ∧ Ctx F m w w' [] m' (slA (slV q l.length) l.length (cur.flatMap Pr.row) 67 2 :: msA z0 b mp x), fun _ j _ => ((l.length : Int) - j).toNat,
    ⟨j0, j0 + 1, l, m1, rfl, by rw [w_i64 (by omega) (by omega)]; try rfl, by omega, hj0, rfl, ?_, rfl, hm1, C⟩, ?_⟩
  · rw [List.take_succ_eq_append_getElem hj0, List.filter_append]
    have h1 : (l.take j0).filter (keepP x) = l.take j0 := List.filter_eq_self.2 fun p hp => by simp [keepP, hbef p hp]
    have h2 : [l[j0]].filter (keepP x) = [] := by simp [keepP, hlast]
    rw [h1, h2, List.append_nil]
  clear C
  rintro i j w8 L9 _ ⟨ni, nj, cur, m', rfl, rfl, hij, hj, hcl, hck, hcd, hm', D⟩
  have hcap := D.slCap
  by_cases hjl : nj < l.length
  rotate_left
  · rw [if_neg (by simpa using hjl)]
    have hj2 : nj = l.length := by omega
    rw [hj2, List.take_length] at hck
    obtain ⟨w10, hrun, hkk, E⟩ := Ctx.slClear (P := Try.prog) (t := 43) (ty := 0) (bytes := 4) (by kernel_rfl) (by decide) zero67 D ni (by omega)
    refine ⟨by omega, by omega, w10, by rw [Int.toNat_natCast]; exact hrun, hkk.size, by omega, by omega, ?_⟩
    have e1 : (cur.flatMap Pr.row).take (ni * 2) = (l.filter (keepP x)).flatMap Pr.row := by rw [flat_take pr_len, hck]
    have e2 : ni = (l.filter (keepP x)).length := by
      have := congrArg List.length hck
      rw [List.length_take] at this; omega
    rw [e1] at E
    rw [cutA_zero, Int.toNat_natCast]
    rw [e2] at E ⊢
    exact Ctr.ret (m' := m') (L := []) q rfl trivial E
  rw [if_pos (by simpa using hjl)]
  obtain ⟨a, ha, hc, _⟩ := sl_some D (by omega)
  have hjc : nj < cur.length := by omega
  have hcj : cur[nj] = l[nj] := by
    have h1 : (cur.drop nj)[0]? = (l.drop nj)[0]? := by rw [hcd]
    simp only [List.getElem?_drop, Nat.add_zero, List.getElem?_eq_getElem hjc, List.getElem?_eq_getElem hjl, Option.some.injEq] at h1
    exact h1
  have hce := cells_elem pr_len hc nj hjc
  rw [hcj] at hce
  refine ⟨by omega, by simpa using hjl, ?_⟩
  rw [ha, onSome_some, Int.toNat_natCast]
  refine ⟨_, _, hce, fun w14 L15 h14 g14 => ?_⟩
  refine (c_Missing1 z0 b mp x l[nj]).call (As := [slA (slV q l.length) l.length (cur.flatMap Pr.row) 67 2]) ((D.hidL h14 g14).pm [1, 2, 3, 0] rfl) trivial fun _ m2 w17 hk hm2 _ C => ⟨_, rfl, hk, ?_⟩
  have E : Ctx F m w w17 L15 m2 (slA (slV q l.length) l.length (cur.flatMap Pr.row) 67 2 :: msA z0 b mp x) := Ctx.pm (As := msA z0 b mp x ++ [slA (slV q l.length) l.length (cur.flatMap Pr.row) 67 2]) C [3, 0, 1, 2] rfl
  have e : IntKind.wrap .i64 ((nj : Int) + 1) = ((nj + 1 : Nat) : Int) := by rw [w_i64 (by omega) (by omega)]; omega
  have hme : Nat.le (((l.length : Int) - ((nj + 1 : Nat) : Int)).toNat + 1) ((l.length : Int) - (nj : Int)).toNat := Nat.le_of_eq (by omega)
  have hft : (l.take (nj + 1)).filter (keepP x) = (l.take nj).filter (keepP x) ++ if l[nj] ∈ x.got then [] else [l[nj]] := by
    rw [List.take_succ_eq_append_getElem hjl, List.filter_append]
    congr 1
    by_cases hg : l[nj] ∈ x.got <;> simp [keepP, hg]
  by_cases hg : l[nj] ∈ x.got
  · rw [if_neg (by simp [hg]), e]
    rw [if_pos hg, List.append_nil] at hft
    refine ⟨⟨ni, nj + 1, cur, m2, rfl, rfl, by omega, hjl, hcl, by rw [hft]; exact hck, ?_, hm'.le_trans hm2, E.noL⟩, hme⟩
    have := congrArg (List.drop 1) hcd
    simpa [List.drop_drop, Nat.add_comm] using this
  · rw [if_pos (by simp [hg]), e]
    rw [if_neg hg] at hft
    have hic : ni < cur.length := by omega
    have hfl := flat_len pr_len cur
    obtain ⟨a2, ha2, hs2, hth, hnl, G⟩ := E.slPut (ni * 2) (.int .u8 l[nj].n) [.int .u16 l[nj].l] (by rw [hfl]; simp; omega)
    have e2 : a2 = a := by
      have : q.1 = some a2 := ha2
      rw [ha] at this; injection this with this; exact this.symm
    subst e2
    have hput : splice (cur.flatMap Pr.row) (ni * 2) [.int .u8 l[nj].n, .int .u16 l[nj].l] = (cur.set ni l[nj]).flatMap Pr.row := by
      have := flat_put pr_len (vs := l[nj].row) (o := 0) (b := l[nj]) cur ni hic (by simp) (by simp [splice])
      simpa using this
    rw [hput] at G
    have hadd : (a2.add (ni * 2)).spot = none ∧ (a2.add (ni * 2)).block = a2.block ∧ (a2.add (ni * 2)).off = a2.off + ni * 2 := by
      obtain ⟨ab, ao, asp⟩ := a2
      simp only at hs2; subst hs2
      rw [Addr.add_mid]; exact ⟨rfl, rfl, rfl⟩
    have e3 : IntKind.wrap .i64 ((ni : Int) + 1) = ((ni + 1 : Nat) : Int) := by rw [w_i64 (by omega) (by omega)]; omega
    refine ⟨by omega, by omega, ?_⟩
    rw [onSome_some, Int.toNat_natCast, hadd.1, hadd.2.1, hadd.2.2, e3]
    refine ⟨rfl, hth, hnl, ⟨ni + 1, nj + 1, cur.set ni l[nj], m2, rfl, rfl, by omega, hjl, by simpa using hcl, ?_, ?_, hm'.le_trans hm2, ?_⟩, hme⟩
    · rw [hft, ← hck, List.take_succ_eq_append_getElem (by simpa using hic), List.take_set, List.set_eq_of_length_le (by simp; omega)]
      simp
    · rw [List.drop_set_of_lt (by omega)]
      have := congrArg (List.drop 1) hcd
      simpa [List.drop_drop, Nat.add_comm] using this
    · have ha3 : (q.1, q.2) = q := rfl
      have : slV q l.length = .slice (some a2) l.length q.2 := by rw [slV, ha]
      rw [this]
      exact G.noL
theorem c_ClonePrO (q : Sl) (l : List Pr) (hl : l.length ≤ 1000000) : Ctr Try.prog 64 #[slV q l.length] (fun m => MSrc m 2 (slV q l.length) l.length (l.flatMap Pr.row)) [] (fun p : Sl => slV p l.length) (fun _ _ => True) (fun p => [slP p l]) := by
  obtain ⟨q1, q2⟩ := q
  refine Ctr.mk fun w F m C hp => x_ClonePr q1 _ q2 w _ ?_
  cases q1 with
  | none =>
    rw [if_pos (show (none : Option Addr).isNone = true from rfl)]
    obtain ⟨h0, h1⟩ := hp.none_len
    have hl0 : l = [] := List.eq_nil_of_length_eq_zero h0
    subst hl0
    exact Ctr.ret (m' := m) (L := []) (none, 0) rfl trivial C.slNil
  | some a =>
    rw [if_neg (by simp)]
    have C1 : Ctx F m w _ [] m [slA (.slice (some ⟨w.heap.size, 0, none⟩) 0 0) 0 [] 67 2] := (C.newDrop [] 67).slNil
    obtain ⟨q1, c1, w4, hr, hk, C2⟩ := C1.app2 (P := Try.prog) (bytes := 4) (t := 43) (t2 := 43) 43 (by kernel_rfl) (C1.src hp) (by unfold maxLen; omega) (by omega) (flat_one pr_one l)
    rw [List.nil_append, Nat.zero_add] at C2
    rw [Nat.zero_add] at hr
    refine ⟨q1, l.length, c1, w4, hr, hk.size, ?_⟩
    exact Ctr.ret (m' := m) (L := []) (q1, c1) rfl trivial C2
theorem c_Missing (b mp : Nat) (x : Pp) : Ctr Try.prog 42 #[.pointer (some ⟨b, 0, none⟩)] (fun m => PpM m x) (ppA b mp x) (fun q : Sl => slV q (missE x.er).length) (fun q m => MSrc m 2 (slV q (missE x.er).length) (missE x.er).length ((missE x.er).flatMap Pr.row)) (fun _ => ppA b mp x) := by
  refine Ctr.mk fun w F m C hx => x_Missing _ w _ ?_
  have C0 : Ctx F m w _ [] m (msA w.heap.size b mp x) := C.alloc [.pointer (some ⟨b, 0, none⟩)] 59
  refine ⟨some ⟨b, 0, none⟩, C0.blkCell (j := 0) rfl, ?_⟩
  refine (c_PnoneB b mp x).call (As := [zA w.heap.size b, gtA mp x.got]) (C0.pm [1, 0, 2] rfl) trivial fun _ m1 w3 hk hm _ C => ⟨_, rfl, hk.size, ?_⟩
  have C1 : Ctx F m w w3 [] m1 (msA w.heap.size b mp x) := Ctx.pm (As := [ppB b x mp, zA w.heap.size b, gtA mp x.got]) C [1, 0, 2] rfl
  rw [if_pos (by decide)]
  refine ⟨some ⟨b, 0, none⟩, C1.blkCell (j := 0) rfl, ?_⟩
  rw [onSome_some]
  refine ⟨x.ph, by rw [Addr.add_mid]; exact C1.swap.blkCell (j := 4) rfl, ?_⟩
  by_cases h2 : x.ph = 2
  · rw [if_pos (by simp [h2])]
    have e : missE x.er = [] := by simp [missE, Pp.er, h2]
    rw [e]
    exact Ctr.ret (m' := m1) (L := []) (none, 0) rfl (.nil ..) C1.drop
  rw [if_neg (by simp [h2])]
  refine ⟨some ⟨b, 0, none⟩, C1.blkCell (j := 0) rfl, ?_⟩
  rw [onSome_some]
  refine ⟨x.vw.q.1, x.vw.ms.length, x.vw.q.2, by rw [Addr.add_mid, Addr.add_mid]; exact C1.swap.blkCell (j := 2) rfl, ?_⟩
  refine (c_ClonePrO x.vw.q x.vw.ms hx.vl).call (As := msA w.heap.size b mp x) C1 (MSrc.mono hx.vw hm) fun p m2 w14 hk hm2 _ C => ⟨_, _, _, rfl, hk.size, ?_⟩
  refine (c_DeleteFunc w.heap.size b mp x p x.vw.ms hx.vl).call (As := []) C trivial fun r m3 w19 hk hm3 _ C => ⟨_, _, _, rfl, hk.size, ?_⟩
  have e : missE x.er = x.vw.ms.filter (keepP x) := by
    show (if x.ph = 2 then [] else x.vw.ms.filter _) = _
    rw [if_neg h2]
    rfl
  rw [e]
  obtain ⟨m4, hm4, hs, D⟩ := Ctx.slShare (As := msA w.heap.size b mp x) C
  exact Ctr.ret (m' := m4) (L := []) r rfl hs D.drop
end Go.Proofs
