import Derived.Test.YtfhjpjkecjlmjaaU08h
set_option linter.unusedVariables false
set_option linter.unusedSimpArgs false
set_option maxRecDepth 10000
namespace Go.Proofs
open Go X RowKit
/-! ### the document's bag -/
abbrev refB (b : Nat) (v : Value) (k : Int) : Asn := blk b [v, .int .i64 k] 58
abbrev refR (q : Option Addr) (c : Nat) (l : List Pr) : Asn := slA (.slice q l.length c) l.length (rows l) 34 6
def refA (b : Nat) (k : Int) (rs : List Pr) : Asn := Asn.ex fun x : Option Addr × Nat => Asn.all [refB b (.slice x.1 rs.length x.2) k, refR x.1 x.2 rs]
def BySrc (m : Mem) (r : Pr) : Prop := MSrc m 1 (.slice r.q r.p.bs.length r.c) r.p.bs.length (byV r.p.bs)
section
variable {F0 : List Nat} {m0 : Mem} {w0 w : World} {L : List Nat} {m : Mem} {As : List Asn}
theorem refO {b : Nat} {k : Int} {rs : List Pr} (C : Ctx F0 m0 w0 w L m (refA b k rs :: As)) : ∃ q c, Ctx F0 m0 w0 w L m (refB b (.slice q rs.length c) k :: refR q c rs :: As) := by
  obtain ⟨⟨q, c⟩, C⟩ := C.ex
  exact ⟨q, c, C.all⟩
theorem refI {b : Nat} {k : Int} {rs : List Pr} {q : Option Addr} {c : Nat} (C : Ctx F0 m0 w0 w L m (refB b (.slice q rs.length c) k :: refR q c rs :: As)) : Ctx F0 m0 w0 w L m (refA b k rs :: As) :=
  Ctx.exI (q, c) (Ctx.allI C)
/-- a part of an owned slice, as what is read -/
theorem slPart {q : Option Addr} {c : Nat} {rs : List Pr} {ty : TypeId} (C : Ctx F0 m0 w0 w L m (slA (.slice q rs.length c) rs.length (rows rs) ty 6 :: As)) (lo hi : Nat) (h1 : lo ≤ hi) (h2 : hi ≤ rs.length) (c2 : Nat) :
    Src w 6 (.slice (cutA q c lo 6) (hi - lo) c2) (hi - lo) (rows ((rs.take hi).drop lo)) := by
  by_cases h0 : hi - lo = 0
  · have : (rs.take hi).drop lo = [] := List.drop_eq_nil_of_le (by rw [List.length_take]; omega)
    rw [this, h0]; exact .none ..
  · obtain ⟨a, rfl⟩ := slice_some C (rows_ne (i := lo) (by omega))
    have hc := (C.slCells.1 a rfl).1
    have hcap := C.slCap
    have e : cutA (some a) c lo 6 = some (a.add (lo * 6)) := by unfold cutA; rw [if_neg (by omega)]; rfl
    rw [e]
    refine .some _ _ _ _ ?_ fun j v hj => ?_
    · rw [rows_len, List.length_drop, List.length_take]; congr 1; omega
    · rw [Addr.add_add]
      refine hc _ _ ?_
      have e2 : rows ((rs.take hi).drop lo) = ((rows rs).take (hi * 6)).drop (lo * 6) := by
        unfold rows; rw [flat_take row_len, flat_drop row_len]
      rw [e2, List.getElem?_drop, List.getElem?_take] at hj
      split at hj
      · exact hj
      · cases hj
end
theorem r_New (k : Int) : Ctr Try.prog 21 #[.int .i64 k] noMem [] (fun b : Nat => .pointer (some ⟨b, 0, none⟩)) (fun _ _ => True) (fun b => [refA b (min (max k 0) 2000) []]) := by
  refine Ctr.mk fun w F m C _ => x_gemotref08_New k w _ ?_
  have e : (if 2000 < (if 0 > k then 0 else k) then 2000 else (if 0 > k then 0 else k)) = min (max k 0) 2000 := by
    split <;> (try split) <;> omega
  rw [e]
  exact Ctr.ret w.heap.size rfl trivial (refI (q := none) (c := 0) ((C.slNil (q := none) (ty := 34) (sz := 6)).alloc _ 58))
theorem r_there (b : Nat) (q : Option Addr) (n c : Nat) (k i : Int) : Ctr Try.prog 39 #[.pointer (some ⟨b, 0, none⟩), .int .i64 i] noMem [refB b (.slice q n c) k] (fun _ : Unit => .bool (decide (0 ≤ i ∧ i < n))) (fun _ _ => True) (fun _ => [refB b (.slice q n c) k]) := by
  refine Ctr.mk fun w F m C _ => x_gemotref08_Bag_there _ i w _ ?_
  by_cases h : 0 ≤ i
  · rw [if_pos (by simpa using h)]
    refine ⟨q, n, c, C.blkCell (j := 0) rfl, Ctr.ret () (by simp [h]) trivial C⟩
  · rw [if_neg (by simpa using h)]
    exact Ctr.ret () (by simp [h]) trivial C
theorem r_PutFull (b : Nat) (v : Option Addr × Nat × Nat) (k : Int) (p : Pc) (q : Option Addr) (c : Nat) (h : (v.2.1 : Int) ≥ k) :
    Ctr Try.prog 31 #[.pointer (some ⟨b, 0, none⟩), p.V q c] noMem [refB b (.slice v.1 v.2.1 v.2.2) k] (fun _ : Unit => .int .i64 11) (fun _ _ => True) (fun x => [refB b (.slice v.1 v.2.1 v.2.2) k]) := by
  refine Ctr.mk fun w F m C hp => x_gemotref08_Bag_Put _ _ _ _ _ _ _ _ _ w _ ?_
  refine ⟨_, _, _, C.blkCell (j := 0) rfl, k, C.blkCell (j := 1) rfl, ?_⟩
  rw [if_pos (by simpa using h)]
  exact fun w1 h1 => Ctr.ret () rfl trivial (C.hid0 h1)
theorem r_PutOk (b : Nat) (k : Int) (hk2 : k ≤ 2000) (rs : List Pr) (qb : Option Addr) (cb : Nat) (p : Pc) (q : Option Addr) (c : Nat) (hs : p.bs.length ≤ 1000000) (hfull : (rs.length : Int) < k) :
    Ctr Try.prog 31 #[.pointer (some ⟨b, 0, none⟩), p.V q c] (fun m => MSrc m 1 (.slice q p.bs.length c) p.bs.length (byV p.bs)) [refB b (.slice qb rs.length cb) k, refR qb cb rs]
      (fun _ : Option Addr × Nat => .int .i64 0) (fun x m => BySrc m ⟨p, x.1, x.2⟩) (fun x => [refA b k (rs ++ [(⟨p, x.1, x.2⟩ : Pr)])]) := by
  refine Ctr.mk fun w F m C hp => x_gemotref08_Bag_Put _ _ _ _ _ _ _ _ _ w _ ?_
  refine ⟨_, _, _, C.blkCell (j := 0) rfl, k, C.blkCell (j := 1) rfl, ?_⟩
  rw [if_neg (by simpa using hfull)]
  refine ⟨[(⟨b, 0, none⟩, [.slice qb rs.length cb])], C.blkFact1 0 _ rfl (facts_nil _ _), qb, rs.length, cb, List.mem_cons_self, fun w9 L10 h9 g9 => ?_⟩
  replace C := C.hidL h9 g9
  have C0 := C.newDrop [] 5
  refine ⟨C0.blkFact1 0 _ rfl (facts_nil _ _), ?_⟩
  have C1 := C0.slNil (q := some ⟨w9.heap.size, 0, none⟩) (ty := 5) (sz := 1)
  obtain ⟨q1, c1, w14, hr, hk, C2⟩ := C1.app (P := Try.prog) (bytes := 1) (t := 32) (t2 := 32) 32 (by kernel_rfl) (C1.src hp) (by omega) (byV_one p.bs)
  rw [Nat.zero_add] at hr C2
  have C3 : Ctx F m w w14 L10 m (slB q1 c1 p.bs :: [refB b (.slice qb rs.length cb) k, refR qb cb rs]) := C2
  refine ⟨q1, p.bs.length, c1, w14, hr, hk, C3.swap.blkFact1 0 _ rfl (facts_nil _ _), ?_⟩
  have C4 := C3.alloc (Pr.row ⟨p, q1, c1⟩) 34
  refine ⟨(C4.swap.drop.swap).drop.swap.drop.blkFact1 0 _ rfl (facts_nil _ _) |> fun _ => ?_, ?_⟩
  · exact (C4.perm ((List.Perm.cons _ (List.Perm.swap _ _ _)).trans (List.Perm.swap _ _ _))).blkFact1 0 _ rfl (facts_nil _ _)
  have hcell : Cells (w14.alloc (.cells (Pr.row ⟨p, q1, c1⟩).toArray 34)) ⟨w14.heap.size, 0, none⟩ (Pr.row ⟨p, q1, c1⟩) := C4.blkCells fun j v e => by rw [Nat.zero_add]; exact e
  have C5 : Ctx F m w _ L10 m (refR qb cb rs :: [slB q1 c1 p.bs, refB b (.slice qb rs.length cb) k]) := (C4.drop).third
  obtain ⟨q2, c2, w18, hr2, hk2', C6⟩ := C5.app (P := Try.prog) (bytes := 64) (t := 27) (t2 := 27) 27 (by kernel_rfl) (.some ⟨w14.heap.size, 0, none⟩ 1 1 (Pr.row ⟨p, q1, c1⟩) rfl hcell) (by omega) (row_one _)
  have C7 := C6.third
  refine ⟨q2, rs.length + 1, c2, w18, hr2, hk2', C7.blkFact1 0 _ rfl (facts_nil _ _), rfl, C7.there 0 1 (by simp), C7.blkAt.2, ?_⟩
  have C8 := (C7.store 0 [.slice q2 (rs.length + 1) c2] (by simp)).third
  obtain ⟨m', hm', hs', C9⟩ := C8.slShare
  refine ⟨(q1, c1), m', L10, rfl, hs', refI (q := q2) (c := c2) ?_⟩
  have e1 : rows rs ++ Pr.row ⟨p, q1, c1⟩ = rows (rs ++ [⟨p, q1, c1⟩]) := by rw [rows_append]; simp [rows]
  rw [e1] at C9
  have e3 : (rs ++ [(⟨p, q1, c1⟩ : Pr)]).length = rs.length + 1 := by simp
  show Ctx _ _ _ _ _ _ [refB b (.slice q2 (rs ++ [(⟨p, q1, c1⟩ : Pr)]).length c2) k, slA (.slice q2 (rs ++ [(⟨p, q1, c1⟩ : Pr)]).length c2) (rs ++ [(⟨p, q1, c1⟩ : Pr)]).length _ 34 6]
  rw [e3]
  exact C9
theorem r_PutB (b : Nat) (k : Int) (hk2 : k ≤ 2000) (rs : List Pr) (p : Pc) (q : Option Addr) (c : Nat) (hs : p.bs.length ≤ 1000000) :
    Ctr Try.prog 31 #[.pointer (some ⟨b, 0, none⟩), p.V q c] (fun m => MSrc m 1 (.slice q p.bs.length c) p.bs.length (byV p.bs)) [refA b k rs]
      (fun _ : Option Addr × Nat => .int .i64 (if (rs.length : Int) ≥ k then 11 else 0)) (fun x m => (rs.length : Int) ≥ k ∨ BySrc m ⟨p, x.1, x.2⟩) (fun x => [refA b k (if (rs.length : Int) ≥ k then rs else rs ++ [(⟨p, x.1, x.2⟩ : Pr)])]) := by
  refine Ctr.mk fun w F m C hp => ?_
  obtain ⟨qb, cb, C⟩ := refO C
  by_cases h : (rs.length : Int) ≥ k
  · refine (r_PutFull b (qb, rs.length, cb) k p q c h).calls (As := [refR qb cb rs]) C trivial fun _ m1 w1 _ _ _ C => ?_
    exact ⟨(none, 0), m1, [], by rw [if_pos h], .inl h, by rw [if_pos h]; exact refI C⟩
  · refine (r_PutOk b k hk2 rs qb cb p q c hs (by omega)).calls (As := []) C hp fun x m1 w1 _ _ hx C => ?_
    exact ⟨x, m1, [], by rw [if_neg h], .inr hx, by rw [if_neg h]; exact C⟩
theorem r_LookNo (b : Nat) (k : Int) (rs : List Pr) (i : Int) (h : ¬ (0 ≤ i ∧ i < rs.length)) :
    Ctr Try.prog 32 #[.pointer (some ⟨b, 0, none⟩), .int .i64 i] noMem [refA b k rs] (fun _ : Unit => .tuple #[Pc.V ⟨0, 0, 0, 0, [], false⟩ none 0, .int .i64 3]) (fun _ _ => True) (fun _ => [refA b k rs]) := by
  refine Ctr.mk fun w F m C hp => x_gemotref08_Bag_Look _ i w _ fun w1 L1 h1 g1 => ?_
  obtain ⟨qb, cb, C⟩ := refO (C.hidL h1 g1)
  refine (r_there b qb rs.length cb k i).call C trivial fun _ m1 w4 hk hm _ C => ⟨_, rfl, hk, ?_⟩
  rw [if_pos (by simp; omega)]
  exact fun w2 h2 => Ctr.ret () rfl trivial (refI (C.hid0 h2))
theorem r_Look (b : Nat) (k : Int) (rs : List Pr) (i : Nat) (hi : i < rs.length) :
    Ctr Try.prog 32 #[.pointer (some ⟨b, 0, none⟩), .int .i64 i] noMem [refA b k rs] (fun _ : Unit => .tuple #[rs[i].p.V rs[i].q rs[i].c, .int .i64 0]) (fun _ _ => True) (fun _ => [refA b k rs]) := by
  refine Ctr.mk fun w F m C hp => x_gemotref08_Bag_Look _ i w _ fun w1 L1 h1 g1 => ?_
  obtain ⟨qb, cb, C⟩ := refO (C.hidL h1 g1)
  refine (r_there b qb rs.length cb k i).call C trivial fun _ m1 w4 hk hm _ C => ⟨_, rfl, hk, ?_⟩
  rw [if_neg (by simp; omega)]
  obtain ⟨a, rfl⟩ := slice_some C.swap (rows_ne hi)
  refine ⟨_, _, _, C.blkCell (j := 0) rfl, C.blkAt.2, by omega, by omega, ?_⟩
  rw [onSome_some]
  have hc := (C.swap.slCells.1 a rfl)
  refine ⟨_, _, _, _, _, _, _, _, cells_elem row_len hc.1 i hi, by rw [addr_block]; exact hc.2 (rows_ne hi), fun w18 h18 => ?_⟩
  exact Ctr.ret () rfl trivial (refI (C.hid0 h18))
theorem r_TakeNo (b : Nat) (k : Int) (rs : List Pr) (i : Int) (h : ¬ (0 ≤ i ∧ i < rs.length)) :
    Ctr Try.prog 33 #[.pointer (some ⟨b, 0, none⟩), .int .i64 i] noMem [refA b k rs] (fun _ : Unit => .tuple #[Pc.V ⟨0, 0, 0, 0, [], false⟩ none 0, .int .i64 3]) (fun _ _ => True) (fun _ => [refA b k rs]) := by
  refine Ctr.mk fun w F m C hp => x_gemotref08_Bag_Take _ i w _ fun w1 L1 h1 g1 => ?_
  obtain ⟨qb, cb, C⟩ := refO (C.hidL h1 g1)
  refine (r_there b qb rs.length cb k i).call C trivial fun _ m1 w4 hk hm _ C => ⟨_, rfl, hk, ?_⟩
  rw [if_pos (by simp; omega)]
  exact fun w2 h2 => Ctr.ret () rfl trivial (refI (C.hid0 h2))
theorem r_Take (b : Nat) (k : Int) (rs : List Pr) (i : Nat) (hi : i < rs.length) (hn : rs.length ≤ 2000) :
    Ctr Try.prog 33 #[.pointer (some ⟨b, 0, none⟩), .int .i64 i] noMem [refA b k rs] (fun _ : Unit => .tuple #[rs[i].p.V rs[i].q rs[i].c, .int .i64 0]) (fun _ _ => True) (fun _ => [refA b k (rs.eraseIdx i)]) := by
  refine Ctr.mk fun w F m C hp => x_gemotref08_Bag_Take _ i w _ fun w1 L1 h1 g1 => ?_
  obtain ⟨qb, cb, C⟩ := refO (C.hidL h1 g1)
  refine (r_there b qb rs.length cb k i).call C trivial fun _ m1 w4 hk hm _ C => ⟨_, rfl, hk, ?_⟩
  rw [if_neg (by simp; omega)]
  obtain ⟨a, rfl⟩ := slice_some C.swap (rows_ne hi)
  have hcap := Ctx.slCap C.swap
  refine ⟨_, _, _, C.blkCell (j := 0) rfl, C.blkAt.2, by omega, by omega, ?_⟩
  rw [onSome_some]
  have hc := (C.swap.slCells.1 a rfl)
  refine ⟨_, _, _, _, _, _, _, _, cells_elem row_len hc.1 i hi, by rw [addr_block]; exact hc.2 (rows_ne hi), ?_⟩
  have e : IntKind.wrap .i64 ((i : Int) + 1) = ((i + 1 : Nat) : Int) := by rw [w_i64 (by omega) (by omega)]; omega
  rw [e]
  simp only [Int.toNat_natCast]
  refine ⟨[(⟨b, 0, none⟩, [.slice (some a) rs.length cb])], C.blkFact1 0 _ rfl (facts_nil _ _), some a, rs.length, cb, List.mem_cons_self, by omega, by omega, some a, rs.length, cb, List.mem_cons_self, by omega, by omega, fun w25 L26 h25 g25 => ?_⟩
  replace C := C.hidL h25 g25
  have C0 := C.newDrop [] 34
  refine ⟨C0.blkFact1 0 _ rfl (facts_nil _ _), ?_⟩
  have C1 := C0.slNil (q := some ⟨w25.heap.size, 0, none⟩) (ty := 34) (sz := 6)
  have s1 := slPart (C0.swap) 0 i (by omega) (by omega) cb
  obtain ⟨q2, c2, w30, hr, hk2, C2⟩ := C1.app (P := Try.prog) (bytes := 64) (t := 27) (t2 := 27) 27 (by kernel_rfl) s1 (by omega) (rows_one _)
  rw [Nat.sub_zero, Nat.zero_add] at hr C2
  rw [List.nil_append, List.drop_zero] at C2
  refine ⟨q2, i, c2, w30, hr, hk2, C2.swap.blkFact1 0 _ rfl (facts_nil _ _), ?_⟩
  have s2 := slPart (C2.third) (i + 1) rs.length (by omega) (by omega) (cb - (i + 1))
  obtain ⟨q3, c3, w34, hr3, hk3, C3⟩ := C2.app (P := Try.prog) (bytes := 64) (t := 27) (t2 := 27) 27 (by kernel_rfl) s2 (by omega) (rows_one _)
  have C4 := C3.swap
  refine ⟨q3, i + (rs.length - (i + 1)), c3, w34, hr3, hk3, C4.blkFact1 0 _ rfl (facts_nil _ _), rfl, C4.there 0 1 (by simp), C4.blkAt.2, fun w35 h35 => ?_⟩
  have C5 := ((C4.store 0 [.slice q3 (i + (rs.length - (i + 1))) c3] (by simp)).hid0 h35).third.drop
  have e1 : rows (rs.take i) ++ rows ((rs.take rs.length).drop (i + 1)) = rows (rs.eraseIdx i) := by
    rw [← rows_append, List.take_of_length_le (Nat.le_refl _), ← List.eraseIdx_eq_take_drop_succ]
  have e2 : i + (rs.length - (i + 1)) = (rs.eraseIdx i).length := by rw [List.length_eraseIdx, if_pos hi]; omega
  rw [e1, e2] at C5
  exact ⟨(), m1, [], by trivial, trivial, refI C5⟩
theorem r_All (b : Nat) (k : Int) (rs : List Pr) : Ctr Try.prog 36 #[.pointer (some ⟨b, 0, none⟩)] noMem [refA b k rs] (fun x : Option Addr × Nat => .slice x.1 rs.length x.2) (fun _ _ => True) (fun x => [refR x.1 x.2 rs, refA b k []]) := by
  refine Ctr.mk fun w F m C _ => x_gemotref08_Bag_All _ w _ ?_
  obtain ⟨qb, cb, C⟩ := refO C
  refine ⟨qb, rs.length, cb, C.blkCell (j := 0) rfl, rfl, C.there 0 1 (by simp), ?_⟩
  have C2 := C.store 0 [.slice none 0 0] (by simp)
  exact Ctr.ret (qb, cb) rfl trivial ((refI (q := none) (c := 0) (C2.slNil (q := none) (ty := 34) (sz := 6)).swap).swap)
end Go.Proofs
