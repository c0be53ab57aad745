import Derived.Test.YtfhjpjkecjlmjaaU08a
import Derived.Test.YtfhjpjkecjlmjaaXList
set_option linter.unusedVariables false
set_option linter.unusedSimpArgs false
set_option maxRecDepth 10000
namespace Go.Proofs
open Go X RowKit
/-- a parcel in memory: with its bytes' place -/
structure Pr where (p : Pc) (q : Option Addr) (c : Nat)
def Pr.row (r : Pr) : List Value := r.p.row r.q r.c
def rows (rs : List Pr) : List Value := rs.flatMap Pr.row
theorem row_len (r : Pr) : r.row.length = 6 := rfl
theorem rows_len (rs : List Pr) : (rows rs).length = rs.length * 6 := flat_len row_len rs
theorem rows_append (a b : List Pr) : rows (a ++ b) = rows a ++ rows b := by simp [rows]
theorem row_one (r : Pr) : ∀ u ∈ r.row, oneC u = true := by
  intro u h
  simp only [Pr.row, Pc.row, List.mem_cons, List.not_mem_nil, or_false] at h
  rcases h with rfl | rfl | rfl | rfl | rfl | rfl <;> rfl
theorem rows_one (rs : List Pr) : ∀ u ∈ rows rs, oneC u = true := flat_one row_one rs
abbrev rowsA (q : Option Addr) (c : Nat) (rs : List Pr) : Asn := slA (.slice q rs.length c) rs.length (rows rs) 39 6
abbrev Pr.own (r : Pr) : Asn := slB r.q r.c r.p.bs
abbrev bytesAs (rs : List Pr) : List Asn := rs.map Pr.own
/-- a bag: its pieces -/
def bagA (b : Nat) (k : Int) (rs : List Pr) : Asn := Asn.ex fun x : Option Addr × Nat => Asn.all (bagB b (.slice x.1 rs.length x.2) k :: rowsA x.1 x.2 rs :: bytesAs rs)
section
variable {F0 : List Nat} {m0 : Mem} {w0 w : World} {L : List Nat} {m : Mem} {As : List Asn}
theorem bagO {b : Nat} {k : Int} {rs : List Pr} (C : Ctx F0 m0 w0 w L m (bagA b k rs :: As)) : ∃ q c, Ctx F0 m0 w0 w L m (bagB b (.slice q rs.length c) k :: rowsA q c rs :: (bytesAs rs ++ As)) := by
  obtain ⟨⟨q, c⟩, C⟩ := C.ex
  exact ⟨q, c, C.all⟩
theorem bagI {b : Nat} {k : Int} {rs : List Pr} {q : Option Addr} {c : Nat} (C : Ctx F0 m0 w0 w L m (bagB b (.slice q rs.length c) k :: rowsA q c rs :: (bytesAs rs ++ As))) : Ctx F0 m0 w0 w L m (bagA b k rs :: As) :=
  Ctx.exI (q, c) (Ctx.allI C)
end
theorem c_New (k : Int) : Ctr Try.prog 9 #[.int .i64 k] noMem [] (fun b : Nat => .pointer (some ⟨b, 0, none⟩)) (fun _ _ => True) (fun b => [bagA b (min (max k 0) 2000) []]) := by
  refine Ctr.mk fun w F m C _ => x_bag_New k w _ ?_
  have e : (if 2000 < (if 0 > k then 0 else k) then 2000 else (if 0 > k then 0 else k)) = min (max k 0) 2000 := by
    split <;> (try split) <;> omega
  rw [e]
  exact Ctr.ret w.heap.size rfl trivial (bagI (q := none) (c := 0) ((C.slNil (q := none) (ty := 39) (sz := 6)).alloc _ 65))
theorem c_PutFull (b : Nat) (v : Option Addr × Nat × Nat) (k : Int) (p : Pc) (q : Option Addr) (c : Nat) (h : (v.2.1 : Int) ≥ k) :
    Ctr Try.prog 10 #[.pointer (some ⟨b, 0, none⟩), p.V q c] noMem [bagB b (.slice v.1 v.2.1 v.2.2) k] (fun _ : Unit => .int .i64 11) (fun _ _ => True) (fun x => [bagB b (.slice v.1 v.2.1 v.2.2) k]) := by
  refine Ctr.mk fun w F m C hp => x_bag_Bag_Put _ _ _ _ _ _ _ _ _ w _ fun w1 L1 h1 g1 => ?_
  replace C := C.hidL h1 g1
  refine (c_none b _ ⟨_, _, _, rfl⟩ k true 65).call C trivial fun _ m1 w4 hk hm _ C => ⟨_, rfl, hk, ?_⟩
  rw [if_neg (by simp)]
  refine ⟨[(⟨b, 1, none⟩, [.int .i64 k])], C.blkFact1 1 _ rfl (facts_nil _ _), k, List.mem_cons_self, fun w8 L9 h8 g8 => ?_⟩
  replace C := C.hidL h8 g8
  refine (c_len b _ _ _ _ 65).call C trivial fun _ m2 w11 hk hm2 _ C => ⟨_, rfl, hk, C.blkFact1 1 _ rfl (facts_nil _ _), ?_⟩
  rw [if_pos (by simpa using h)]
  exact Ctr.ret () rfl trivial C
theorem c_PutOk (b : Nat) (k : Int) (hk2 : k ≤ 2000) (rs : List Pr) (qb : Option Addr) (cb : Nat) (p : Pc) (q : Option Addr) (c : Nat) (hs : p.bs.length ≤ 1000000) (hfull : (rs.length : Int) < k) :
    Ctr Try.prog 10 #[.pointer (some ⟨b, 0, none⟩), p.V q c] (fun m => MSrc m 1 (.slice q p.bs.length c) p.bs.length (byV p.bs)) [bagB b (.slice qb rs.length cb) k, rowsA qb cb rs]
      (fun _ : Option Addr × Option Addr × Nat => .int .i64 0) (fun _ _ => True)
      (fun x => [bagB b (.slice x.2.1 (rs ++ [(⟨p, x.1, p.bs.length⟩ : Pr)]).length x.2.2) k, rowsA x.2.1 x.2.2 (rs ++ [(⟨p, x.1, p.bs.length⟩ : Pr)]), slB x.1 p.bs.length p.bs]) := by
  refine Ctr.mk fun w F m C hp => x_bag_Bag_Put _ _ _ _ _ _ _ _ _ w _ fun w1 L1 h1 g1 => ?_
  replace C := C.hidL h1 g1
  refine (c_none b _ ⟨_, _, _, rfl⟩ k true 65).call C trivial fun _ m1 w4 hk hm _ C => ⟨_, rfl, hk, ?_⟩
  rw [if_neg (by simp)]
  refine ⟨[(⟨b, 1, none⟩, [.int .i64 k])], C.blkFact1 1 _ rfl (facts_nil _ _), k, List.mem_cons_self, fun w8 L9 h8 g8 => ?_⟩
  replace C := C.hidL h8 g8
  refine (c_len b qb rs.length cb _ 65).call C trivial fun _ m2 w11 hk hm2 _ C => ⟨_, rfl, hk, C.blkFact1 1 _ rfl (facts_nil _ _), ?_⟩
  rw [if_neg (by simpa using hfull)]
  refine ⟨[(⟨b, 0, none⟩, [.slice qb rs.length cb])], C.blkFact1 0 _ rfl (facts_nil _ _), qb, rs.length, cb, List.mem_cons_self, fun w17 L18 h17 g17 => ?_⟩
  replace C := C.hidL h17 g17
  refine (c_apart p q c hs).call C ((hp.mono hm).mono hm2) fun x m3 w20 hk hm3 _ C => ⟨_, _, _, _, x, p.bs.length, p.bs.length, _, rfl, hk, ?_⟩
  have C' : Ctx F m w w20 L18 m3 [bagB b (.slice qb rs.length cb) k, rowsA qb cb rs, slB x p.bs.length p.bs] := C.perm ((List.Perm.swap _ _ _).trans (List.Perm.cons _ (List.Perm.swap _ _ _)))
  refine ⟨C'.blkFact1 0 _ rfl (facts_nil _ _), ?_⟩
  have hkA := alloc_keptL C' (.cells (Pr.row ⟨p, x, p.bs.length⟩).toArray 39)
  have C2 := (C'.alloc (Pr.row ⟨p, x, p.bs.length⟩) 39)
  have hf2 := (C2.swap).blkFact1 0 _ rfl (facts_nil _ _)
  refine ⟨hf2, ?_⟩
  have C3 := C2.third
  have hcell : Cells (w20.alloc (.cells (Pr.row ⟨p, x, p.bs.length⟩).toArray 39)) ⟨w20.heap.size, 0, none⟩ (Pr.row ⟨p, x, p.bs.length⟩) := C2.blkCells fun j v e => by rw [Nat.zero_add]; exact e
  obtain ⟨q2, c2, w32, hr, hkk, C4⟩ := C3.app (P := Try.prog) (bytes := 64) (t := 60) (t2 := 60) 60 (by kernel_rfl) (.some ⟨w20.heap.size, 0, none⟩ 1 1 (Pr.row ⟨p, x, p.bs.length⟩) rfl hcell) (by omega) (row_one _)
  refine ⟨q2, rs.length + 1, c2, w32, hr, hkk, ?_⟩
  have C5 := (C4.swap.drop).swap
  refine ⟨C5.blkFact1 0 _ rfl (facts_nil _ _), rfl, C5.there 0 1 (by simp), C5.blkAt.2, ?_⟩
  have C6 := C5.store 0 [.slice q2 (rs.length + 1) c2] (by simp)
  have e1 : rows rs ++ Pr.row ⟨p, x, p.bs.length⟩ = rows (rs ++ [⟨p, x, p.bs.length⟩]) := by rw [rows_append]; simp [rows]
  have e3 : rs.length + 1 = (rs ++ [(⟨p, x, p.bs.length⟩ : Pr)]).length := by simp
  have e4 : slA (.slice q2 (rs.length + 1) c2) (rs.length + 1) (rows (rs ++ [(⟨p, x, p.bs.length⟩ : Pr)])) 39 6 = rowsA q2 c2 (rs ++ [(⟨p, x, p.bs.length⟩ : Pr)]) := by unfold rowsA; rw [e3]
  have e5 : bagB b (.slice q2 (rs.length + 1) c2) k = bagB b (.slice q2 (rs ++ [(⟨p, x, p.bs.length⟩ : Pr)]).length c2) k := by rw [e3]
  rw [e1, e4] at C6
  refine Ctr.ret (m' := m3) (L := L18) (x, q2, c2) rfl trivial ?_
  show Ctx _ _ _ _ _ _ (bagB b (.slice q2 (rs ++ [(⟨p, x, p.bs.length⟩ : Pr)]).length c2) k :: _)
  rw [← e5]
  exact C6
theorem c_LookNo (b : Nat) (q : Option Addr) (n c : Nat) (k : Int) (i : Int) (h : i < 0 ∨ (n : Int) ≤ i) :
    Ctr Try.prog 15 #[.pointer (some ⟨b, 0, none⟩), .int .i64 i] noMem [bagB b (.slice q n c) k] (fun _ : Unit => .tuple #[Pc.V ⟨0, 0, 0, 0, [], false⟩ none 0, .int .i64 3]) (fun _ _ => True) (fun _ => [bagB b (.slice q n c) k]) := by
  refine Ctr.mk fun w F m C _ => x_bag_Bag_Look _ i w _ fun w1 L1 h1 g1 => ?_
  replace C := C.hidL h1 g1
  refine (c_find_no b q n c k i h).call C trivial fun _ m1 w4 hk hm _ C => ⟨_, _, rfl, hk, ?_⟩
  rw [if_pos (by decide)]
  exact fun w2 h2 => Ctr.ret () rfl trivial (C.hid0 h2)
theorem slice_some {q : Option Addr} {n c : Nat} {cs : List Value} {ty : TypeId} {sz : Nat} {F0 : List Nat} {m0 : Mem} {w0 w : World} {L : List Nat} {m : Mem} {As : List Asn} (C : Ctx F0 m0 w0 w L m (slA (.slice q n c) n cs ty sz :: As)) (h : cs ≠ []) : ∃ a, q = some a := by
  cases q with
  | none => exact absurd (C.slCells.2 rfl) h
  | some a => exact ⟨a, rfl⟩
theorem rows_ne {rs : List Pr} {i : Nat} (h : i < rs.length) : rows rs ≠ [] := fun e => by have := rows_len rs; rw [e] at this; simp at this; omega
theorem c_Look (b : Nat) (k : Int) (rs : List Pr) (q : Option Addr) (c : Nat) (i : Nat) (hi : i < rs.length) (hs : rs[i].p.bs.length ≤ 1000000) :
    Ctr Try.prog 15 #[.pointer (some ⟨b, 0, none⟩), .int .i64 i] noMem [bagB b (.slice q rs.length c) k, rowsA q c rs, rs[i].own]
      (fun x : Option Addr => .tuple #[rs[i].p.V x rs[i].p.bs.length, .int .i64 0]) (fun _ _ => True) (fun x => [slB x rs[i].p.bs.length rs[i].p.bs, bagB b (.slice q rs.length c) k, rowsA q c rs, rs[i].own]) := by
  refine Ctr.mk fun w F m C _ => x_bag_Bag_Look _ i w _ fun w1 L1 h1 g1 => ?_
  replace C := C.hidL h1 g1
  obtain ⟨a, rfl⟩ := slice_some C.swap (rows_ne hi)
  refine (c_find b a rs.length c k i (by omega) (by omega)).call C trivial fun _ m1 w4 hk hm _ C => ⟨_, _, rfl, hk, ?_⟩
  rw [if_neg (by decide), onSome_some]
  have hc := (C.swap.slCells.1 a rfl)
  refine ⟨_, _, _, _, _, _, _, _, cells_elem row_len hc.1 i hi, by rw [addr_block]; exact hc.2 (rows_ne hi), ?_⟩
  have C2 : Ctx F m w w4 L1 m1 ([] ++ rs[i].own :: [bagB b (.slice (some a) rs.length c) k, rowsA (some a) c rs]) := C.third
  refine (c_apart rs[i].p rs[i].q rs[i].c hs).callL C2 (fun F' hF _ => slLend hF) fun x w17 hk _ C => ⟨_, _, _, _, _, _, _, _, rfl, hk, fun w26 h26 => ?_⟩
  have C3 := (C.hid0 h26)
  exact Ctr.ret x rfl trivial (C3.perm (List.Perm.cons _ ((List.Perm.swap _ _ _).trans (List.Perm.cons _ (List.Perm.swap _ _ _)))))
theorem rows_erase (rs : List Pr) (i : Nat) : (rows rs).take (i * 6) ++ (rows rs).drop ((i + 1) * 6) = rows (rs.eraseIdx i) := by
  unfold rows
  rw [flat_take row_len, flat_drop row_len, List.eraseIdx_eq_take_drop_succ, List.flatMap_append]
theorem zero39 : ∀ i z, Try.prog.info? 39 = some i → i.zero = some z → ∀ u ∈ z.cells, oneC u = true := by
  have h : (match Try.prog.info? 39 with | some i => (match i.zero with | some z => z.cells.toList.all oneC | none => true) | none => true) = true := by kernel_rfl
  intro i z hi hz u hu
  rw [hi] at h
  simp only [hz] at h
  exact List.all_eq_true.1 h u (by simpa using hu)
theorem c_Delete (rs : List Pr) (q : Option Addr) (c : Nat) (i : Nat) (hi : i < rs.length) (hn : rs.length ≤ 2000) :
    Ctr Try.prog 29 #[.slice q rs.length c, .int .i64 i, .int .i64 ((i + 1 : Nat) : Int)] noMem [rowsA q c rs] (fun _ : Unit => .slice q (rs.length - 1) c) (fun _ _ => True) (fun _ => [rowsA q c (rs.eraseIdx i)]) := by
  refine Ctr.mk fun w F m C _ => x_Delete _ _ _ _ _ w _ ?_
  have hcap := C.slCap
  refine ⟨by omega, by omega, by omega, by omega, by omega, by omega, ?_⟩
  rw [if_neg (by simp; omega)]
  refine ⟨[], facts_nil _ _, by omega, by omega, by omega, by omega, fun w2 h2 => ?_⟩
  replace C := C.hid0 h2
  obtain ⟨w6, w7, r1, s1, r2, s2, C⟩ := C.del (P := Try.prog) (t := 60) (bytes := 64) (by kernel_rfl) zero39 (rows_one rs) i hi (by omega)
  simp only [Int.toNat_natCast]
  refine ⟨q, rs.length - 1, c, w6, r1, s1, by omega, by omega, by omega, by omega, w7, r2, s2, ?_⟩
  rw [rows_erase] at C
  have e : rs.length - 1 = (rs.eraseIdx i).length := by rw [List.length_eraseIdx, if_pos hi]
  unfold rowsA
  rw [← e]
  exact Ctr.ret () rfl trivial C
theorem c_Take (b : Nat) (k : Int) (rs : List Pr) (q : Option Addr) (c : Nat) (i : Nat) (hi : i < rs.length) (hs : rs[i].p.bs.length ≤ 1000000) (hn : rs.length ≤ 2000) :
    Ctr Try.prog 12 #[.pointer (some ⟨b, 0, none⟩), .int .i64 i] noMem [bagB b (.slice q rs.length c) k, rowsA q c rs, rs[i].own]
      (fun x : Option Addr => .tuple #[rs[i].p.V x rs[i].p.bs.length, .int .i64 0]) (fun _ _ => True) (fun x => [bagB b (.slice q (rs.eraseIdx i).length c) k, rowsA q c (rs.eraseIdx i), slB x rs[i].p.bs.length rs[i].p.bs]) := by
  refine Ctr.mk fun w F m C _ => x_bag_Bag_Take _ i w _ fun w1 L1 h1 g1 => ?_
  replace C := C.hidL h1 g1
  refine (c_Look b k rs q c i hi hs).call C trivial fun x m1 w4 hk hm _ C => ⟨_, _, _, _, _, _, _, _, _, rfl, hk, ?_⟩
  rw [if_pos (by decide)]
  have C2 := C.swap
  refine ⟨_, _, _, C2.blkCell (j := 0) rfl, C2.blkAt.2, fun w18 L19 h18 g18 => ?_⟩
  have C3 := (C2.hidL h18 g18).third
  have e : IntKind.wrap .i64 ((i : Int) + 1) = ((i + 1 : Nat) : Int) := by rw [w_i64 (by omega) (by omega)]; omega
  rw [e]
  refine (c_Delete rs q c i hi hn).call C3 trivial fun _ m2 w21 hk hm2 _ C => ⟨_, _, _, rfl, hk, ?_⟩
  have C4 := C.swap
  refine ⟨rfl, C4.there 0 1 (by simp), C4.blkAt.2, fun w25 h25 => ?_⟩
  have C5 := (C4.store 0 [.slice q (rs.length - 1) c] (by simp)).hid0 h25
  have e2 : rs.length - 1 = (rs.eraseIdx i).length := by rw [List.length_eraseIdx, if_pos hi]
  rw [e2] at C5
  have C6 := (C5.perm (Bs := [rs[i].own, bagB b (.slice q (rs.eraseIdx i).length c) k, rowsA q c (rs.eraseIdx i), slB x rs[i].p.bs.length rs[i].p.bs]) (by
    refine List.Perm.trans (List.Perm.cons _ (List.Perm.cons _ (List.Perm.swap _ _ _))) ?_
    exact (List.Perm.cons _ (List.Perm.swap _ _ _)).trans (List.Perm.swap _ _ _))).drop
  exact Ctr.ret x rfl trivial C6
theorem c_TakeNo (b : Nat) (q : Option Addr) (n c : Nat) (k : Int) (i : Int) (h : i < 0 ∨ (n : Int) ≤ i) :
    Ctr Try.prog 12 #[.pointer (some ⟨b, 0, none⟩), .int .i64 i] noMem [bagB b (.slice q n c) k] (fun _ : Unit => .tuple #[Pc.V ⟨0, 0, 0, 0, [], false⟩ none 0, .int .i64 3]) (fun _ _ => True) (fun _ => [bagB b (.slice q n c) k]) := by
  refine Ctr.mk fun w F m C _ => x_bag_Bag_Take _ i w _ fun w1 L1 h1 g1 => ?_
  replace C := C.hidL h1 g1
  refine (c_LookNo b q n c k i h).call C trivial fun _ m1 w4 hk hm _ C => ⟨_, _, _, _, _, _, _, _, _, rfl, hk, ?_⟩
  rw [if_neg (by decide)]
  exact fun w2 h2 => Ctr.ret () rfl trivial (C.hid0 h2)
theorem c_Len (b : Nat) (q : Option Addr) (n c : Nat) (k : Int) : Ctr Try.prog 23 #[.pointer (some ⟨b, 0, none⟩)] noMem [bagB b (.slice q n c) k] (fun _ : Unit => .int .i64 n) (fun _ _ => True) (fun _ => [bagB b (.slice q n c) k]) := by
  refine Ctr.mk fun w F m C _ => x_bag_Bag_Len _ w _ ?_
  refine (c_none b _ ⟨_, _, _, rfl⟩ k true 65).call C trivial fun _ m' w2 hk hm _ C => ⟨_, rfl, hk.size, ?_⟩
  rw [if_neg (by simp)]
  refine (c_len b q n c _ 65).call C trivial fun _ m'' w5 hk hm _ C => ⟨_, rfl, hk.size, ?_⟩
  exact Ctr.ret () rfl trivial C
theorem c_All (b : Nat) (q : Option Addr) (n c : Nat) (k : Int) : Ctr Try.prog 24 #[.pointer (some ⟨b, 0, none⟩)] noMem [bagB b (.slice q n c) k] (fun _ : Unit => .slice q n c) (fun _ _ => True) (fun _ => [bagB b (.slice none 0 0) k]) := by
  refine Ctr.mk fun w F m C _ => x_bag_Bag_All _ w _ ?_
  refine (c_none b _ ⟨_, _, _, rfl⟩ k true 65).call C trivial fun _ m' w2 hk hm _ C => ⟨_, rfl, hk.size, ?_⟩
  rw [if_neg (by simp)]
  refine ⟨q, n, c, C.blkCell (j := 0) rfl, rfl, C.there 0 1 (by simp), ?_⟩
  exact Ctr.ret () rfl trivial (C.store 0 [.slice none 0 0] (by simp))
end Go.Proofs
