import Derived.Test.YtjphfelmaingjaaGreatUwkb
import Derived.Test.YtjphfelmaingjaaGreatVwkc
import Derived.Test.YtjphfelmaingjaaGreatXFn
import Derived.Test.YtjphfelmaingjaaGreatProg
set_option linter.unusedVariables false
set_option linter.unusedSimpArgs false
set_option maxRecDepth 10000
namespace Go.Proofs
open Go X RowKit
/-! ### the program's readers, piece by piece -/
theorem and1 (v : Nat) (h : v < 18446744073709551616) : (BitVec.ofInt 64 (v : Int) &&& BitVec.ofInt 64 1).toNat = v % 2 := by
  rw [BitVec.ofInt_natCast, BitVec.toNat_and, BitVec.toNat_ofNat, Nat.mod_eq_of_lt h]
  have : (BitVec.ofInt 64 1).toNat = 1 := rfl
  rw [this, Nat.and_one_is_mod]
theorem w_i64_hi {n : Int} (h1 : 9223372036854775808 ≤ n) (h2 : n < 18446744073709551616) : IntKind.wrap .i64 n = n - 18446744073709551616 := by
  simp [IntKind.wrap, IntKind.bits, IntKind.signed]
  split <;> omega
theorem zag_eq (v : Nat) (h : v < 18446744073709551616) : IntKind.wrap .i64 ((((BitVec.ofInt 64 (IntKind.i64.wrap ((v : Int).fdiv 2)) ^^^ BitVec.ofInt 64 (IntKind.i64.wrap (0 - IntKind.i64.wrap (IntKind.u64.wrap ((BitVec.ofInt 64 (v : Int) &&& BitVec.ofInt 64 1).toNat : Int))))).toNat) : Nat) : Int) = zagN v := by
  have e0 : (v : Int).fdiv 2 = ((v / 2 : Nat) : Int) := by rw [Int.fdiv_eq_ediv_of_nonneg _ (by decide)]; omega
  rw [and1 v h, e0, w_i64 (n := ((v / 2 : Nat) : Int)) (by omega) (by omega), w_u64 (by omega) (by omega), w_i64 (n := ((v % 2 : Nat) : Int)) (by omega) (by omega), w_i64 (n := 0 - ((v % 2 : Nat) : Int)) (by omega) (by omega)]
  have e : ((2 ^ 64 : Nat) : Int) = 18446744073709551616 := rfl
  unfold zagN
  by_cases h2 : v % 2 = 1
  · rw [if_pos h2, h2]
    have e2 : BitVec.ofInt 64 ((v / 2 : Nat) : Int) ^^^ BitVec.ofInt 64 (0 - ((1 : Nat) : Int)) = ~~~ (BitVec.ofInt 64 ((v / 2 : Nat) : Int)) := by rw [BitVec.not_def, BitVec.xor_comm]; rfl
    rw [e2, BitVec.toNat_not, BitVec.toNat_ofInt, e]
    have e3 : (((v / 2 : Nat) : Int) % 18446744073709551616).toNat = v / 2 := by omega
    rw [e3, w_i64_hi (by omega) (by omega)]
    omega
  · rw [if_neg h2]
    have h0 : v % 2 = 0 := by omega
    rw [h0]
    have e2 : BitVec.ofInt 64 ((v / 2 : Nat) : Int) ^^^ BitVec.ofInt 64 (0 - ((0 : Nat) : Int)) = BitVec.ofInt 64 ((v / 2 : Nat) : Int) := by
      have : BitVec.ofInt 64 (0 - ((0 : Nat) : Int)) = 0#64 := rfl
      rw [this, BitVec.xor_zero]
    rw [e2, BitVec.toNat_ofInt, e, w_i64 (by omega) (by omega)]
    omega
theorem c_Zag (v : Nat) (h : v < 18446744073709551616) : Gives Tryz.prog 172 #[.int .u64 (v : Int)] (.int .i64 (zagN v)) := fun w => x_Zag _ w _ ⟨by rw [zag_eq v h], below_refl _ _⟩
abbrev RdC (f : FuncId) {α : Type} (V : α → Value) (g : St → α × St) : Prop := ∀ (b : Nat) (r : Rd), Ctr Tryz.prog f #[.pointer (some ⟨b, 0, none⟩)] (fun m => r.ok m) [rA b r] (fun _ : Rd => V (g r.st).1) (fun r' m => r'.ok m ∧ r'.st = (g r.st).2) (fun r' => [rA b r'])
theorem c_RI : RdC 158 (fun n : Int => .int .i64 n) iS := by
  refine fun b r => Ctr.mk fun w F m C hr => x_RI _ w _ ?_
  refine (c_RU b r 18446744073709551615 (by decide)).call (As := []) C hr fun r1 m1 w2 hk hm1 p1 C => ⟨_, rfl, hk.size, ?_⟩
  have hlt := uS_lt 18446744073709551615 r.st (by decide)
  refine C.gives (c_Zag (uS 18446744073709551615 r.st).1 (by omega)) fun w5 k5 C => ⟨_, rfl, k5.size, ?_⟩
  exact Ctr.ret (m' := m1) (L := []) r1 rfl p1 C
theorem c_GetPr : RdC 95 (fun p : Pr => .agg p.row.toArray) prS := fun b r => c_GetProc b r
theorem c_pGet : RdC 136 (fun p : Pt => .agg p.row.toArray) ptS := by
  refine fun b r => Ctr.mk fun w F m C hr => x_pGet _ w _ fun w1 L2 h1 g1 => ?_
  refine (c_RB b r).call (As := []) (C.hidL h1 g1) hr fun r1 m1 w4 hk hm1 p1 C => ⟨_, rfl, hk, fun w6 L7 h6 g6 => ?_⟩
  refine (c_RB b r1).call (As := []) (C.hidL h6 g6) p1.1 fun r2 m2 w9 hk hm2 p2 C => ⟨_, rfl, hk, fun w11 L12 h11 g11 => ?_⟩
  refine (c_RText b r2 255 (by decide)).call (As := []) (C.hidL h11 g11) p2.1 fun r3 m3 w14 hk hm3 p3 C => ⟨_, rfl, hk, fun w16 L17 h16 g16 => ?_⟩
  refine (c_RText b r3 255 (by decide)).call (As := []) (C.hidL h16 g16) p3.1 fun r4 m4 w19 hk hm4 p4 C => ⟨_, rfl, hk, fun w21 L22 h21 g21 => ?_⟩
  refine (c_RI b r4).call (As := []) (C.hidL h21 g21) p4.1 fun r5 m5 w24 hk hm5 p5 C => ⟨_, rfl, hk, fun w26 h26 => ?_⟩
  exact Ctr.ret (m' := m5) (L := []) r5 (by simp only [ptS]; rw [← p1.2, ← p2.2, ← p3.2, ← p4.2]) ⟨p5.1, by simp only [ptS]; rw [← p1.2, ← p2.2, ← p3.2, ← p4.2, p5.2]⟩ (C.hid0 h26)
theorem c_GetRes : RdC 88 (fun x : Rs => .agg x.row.toArray) resS := by
  refine fun b r => Ctr.mk fun w F m C hr => x_GetRes _ w _ fun w1 L2 h1 g1 => ?_
  refine (c_RB b r).call (As := []) (C.hidL h1 g1) hr fun r1 m1 w4 hk hm1 p1 C => ⟨_, rfl, hk, ?_⟩
  refine (c_RText b r1 1000 (by decide)).call (As := []) C p1.1 fun r2 m2 w7 hk hm2 p2 C => ⟨_, rfl, hk, fun w9 h9 => ?_⟩
  exact Ctr.ret (m' := m2) (L := []) r2 (by simp only [resS]; rw [← p1.2]) ⟨p2.1, by simp only [resS]; rw [← p1.2, p2.2]⟩ (C.hid0 h9)
theorem b_one (c : UInt8) : (((c.toNat : Nat) : Int) == 1) = (c == 1) := by
  rw [Bool.eq_iff_iff]; simp only [beq_iff_eq]
  constructor
  · intro h; apply UInt8.toNat_inj.1; show c.toNat = 1; omega
  · intro h; rw [h]; rfl
theorem c_getWrite : RdC 160 (fun x : Wr => .agg x.row.toArray) wrS := by
  refine fun b r => Ctr.mk fun w F m C hr => x_getWrite _ w _ fun w1 L2 h1 g1 => ?_
  refine (c_RText b r 255 (by decide)).call (As := []) (C.hidL h1 g1) hr fun r1 m1 w4 hk hm1 p1 C => ⟨_, rfl, hk, fun w6 L7 h6 g6 => ?_⟩
  refine (c_RText b r1 255 (by decide)).call (As := []) (C.hidL h6 g6) p1.1 fun r2 m2 w9 hk hm2 p2 C => ⟨_, rfl, hk, fun w11 L12 h11 g11 => ?_⟩
  refine (c_RB b r2).call (As := []) (C.hidL h11 g11) p2.1 fun r3 m3 w14 hk hm3 p3 C => ⟨_, rfl, hk, ?_⟩
  rw [b_one]
  by_cases h : (bS r2.st).1.toNat > 1
  · rw [if_pos (by simp only [decide_eq_true_eq]; omega)]
    refine (c_RFail6 b r3).call (As := []) C trivial fun _ m4 w18 hk hm4 _ C => ⟨rfl, hk, fun w19 h19 => ?_⟩
    refine Ctr.ret (m' := m4) (L := []) ⟨(none, 0), [], (failS r3.st 6).2⟩ (by simp only [wrS]; rw [← p1.2, ← p2.2]; rfl) ⟨okNil _ _ _, ?_⟩ (C.hid0 h19)
    simp only [wrS]; rw [← p1.2, ← p2.2, flagS]; simp only [if_pos h]; rw [← p3.2]; rfl
  · rw [if_neg (by simp only [decide_eq_true_eq]; omega)]
    refine fun w16 h16 => Ctr.ret (m' := m3) (L := []) r3 (by simp only [wrS]; rw [← p1.2, ← p2.2]; rfl) ⟨p3.1, ?_⟩ (C.hid0 h16)
    simp only [wrS]; rw [← p1.2, ← p2.2, flagS]; simp only [if_neg h]; exact p3.2
/-! ### lists -/
theorem c_someP (b : Nat) (r : Rd) (n : Nat) (hn : n ≤ 1000) : Ctr Tryz.prog 135 #[.pointer (some ⟨b, 0, none⟩), .int .i64 (n : Int), .func (.func 136) #[] #[]] (fun m => r.ok m) [rA b r] (fun p : Sl × Rd => slV p.1 (someS ptS n r.st).1.length) (fun p m => MSrc m 5 (slV p.1 (someS ptS n r.st).1.length) (someS ptS n r.st).1.length ((someS ptS n r.st).1.flatMap Pt.row) ∧ (someS ptS n r.st).1.length ≤ p.1.2 ∧ p.2.ok m ∧ p.2.st = (someS ptS n r.st).2) (fun p => [rA b p.2]) := by
  refine Ctr.mk fun w F m C hr => x_someP _ _ w _ ?_
  generalize hT : someS ptS n r.st = T
  refine ⟨fun q k c i w' L' => ∃ (j : Nat) (r' : Rd) (m' : Mem) (pre : List Pt), i = j ∧ j ≤ n ∧ k = pre.length ∧ pre.length = j ∧ r'.ok m' ∧ (pre ++ (someS ptS (n - j) r'.st).1, (someS ptS (n - j) r'.st).2) = T ∧ Ctx F m w w' L' m' [slA (.slice q pre.length c) pre.length (pre.flatMap Pt.row) 138 5, rA b r'], fun _ _ _ i _ => ((n : Int) - i).toNat, ⟨0, r, m, [], rfl, by omega, rfl, rfl, hr, hT, C.slNil⟩, ?_⟩
  clear C
  rintro q k c i w7 L8 _ ⟨j, r', m', pre, rfl, hj, rfl, hpl, hr', he, C⟩
  have fin : ∀ (r2 : Rd) (m2 : Mem) (w2 : World) (L2 : List Nat), r2.ok m2 → (pre, r2.st) = T → Ctx F m w w2 L2 m2 [slA (.slice q pre.length c) pre.length (pre.flatMap Pt.row) 138 5, rA b r2] → ∃ (p : Sl × Rd) (m' : Mem) (L : List Nat), Ending.returned (Value.slice q pre.length c) = .returned (slV p.1 T.1.length) ∧ (MSrc m' 5 (slV p.1 T.1.length) T.1.length (T.1.flatMap Pt.row) ∧ T.1.length ≤ p.1.2 ∧ p.2.ok m' ∧ p.2.st = T.2) ∧ Ctx F m w w2 L m' [rA b p.2] := fun r2 m2 w2 L2 h1 h2 C => by
    subst h2
    have hc := C.slCap.1
    obtain ⟨m3, hm3, hs, D⟩ := C.slShare
    exact ⟨((q, c), r2), m3, L2, rfl, ⟨hs, hc, h1.mono hm3, rfl⟩, D⟩
  by_cases hjn : j < n
  rotate_left
  · rw [if_neg (by simp only [decide_eq_true_eq]; omega)]
    have h0 : n - j = 0 := by omega
    simp only [h0, someS, List.append_nil] at he
    exact fin r' m' w7 L8 hr' he C
  rw [if_pos (by simp only [decide_eq_true_eq]; omega)]
  have h1 : n - j = (n - (j + 1)) + 1 := by omega
  refine (c_pGet b r').call (As := [_]) C.swap hr' fun r2 m2 w10 hk hm2 p2 C => ⟨_, _, _, _, _, rfl, hk.size, fun w16 L17 h16 g16 => ?_⟩
  refine (c_RErr b r2).call (As := [_]) (C.noL.hidL h16 g16) trivial fun _ m3 w19 hk hm3 _ C => ⟨_, rfl, hk, ?_⟩
  rw [h1] at he
  simp only [someS] at he
  have e2 : r2.e = (ptS r'.st).2.2 := by rw [← p2.2]; rfl
  by_cases hz : r2.e = 0
  rotate_left
  · rw [if_pos (by simp [hz])]
    rw [if_pos (by rw [← e2]; exact hz), List.append_nil, ← p2.2] at he
    exact fin r2 m3 w19 L17 (p2.1.mono hm3) he C.swap
  rw [if_neg (by simp [hz])]
  rw [if_neg (by rw [← e2]; simpa using hz), ← p2.2] at he
  generalize (ptS r'.st).1 = x at he ⊢
  have D0 := (C.swap.alloc x.row 138).swap
  have hcl : Cells _ ⟨w19.heap.size, 0, none⟩ x.row := (C.swap.alloc x.row 138).blkCells (o := 0) fun k v e => by simpa using e
  obtain ⟨q2, c2, w25, ha, hkk, D2⟩ := Ctx.app2 (P := Tryz.prog) (bytes := 48) (t := 52) (t2 := 52) D0 52 (by kernel_rfl) (.some ⟨w19.heap.size, 0, none⟩ 1 1 x.row rfl hcl) (by unfold maxLen; omega) (by omega) (pt_one _)
  have e1 : (pre ++ [x]).length = pre.length + 1 := by simp
  have e3 : (pre ++ [x]).flatMap Pt.row = pre.flatMap Pt.row ++ x.row := by simp
  have e : IntKind.wrap .i64 ((j : Int) + 1) = ((j + 1 : Nat) : Int) := by rw [w_i64 (by omega) (by omega)]; omega
  refine ⟨q2, _, c2, w25, ha, hkk, ⟨j + 1, r2, m3, pre ++ [x], e, hjn, e1.symm, by rw [e1, hpl], p2.1.mono hm3, ?_, ?_⟩, ?_⟩
  · rw [← he, List.append_assoc]; rfl
  · rw [← e3, ← e1] at D2
    exact D2.pk [0, 2] [1] rfl
  · rw [e]; exact Nat.le_of_eq (by show ((n : Int) - ((j + 1 : Nat) : Int)).toNat + 1 = ((n : Int) - (j : Int)).toNat; omega)
theorem c_pGetAll (b : Nat) (r : Rd) : Ctr Tryz.prog 87 #[.pointer (some ⟨b, 0, none⟩)] (fun m => r.ok m) [rA b r] (fun p : Sl × Rd => slV p.1 (ptsS r.st).1.length) (fun p m => MSrc m 5 (slV p.1 (ptsS r.st).1.length) (ptsS r.st).1.length ((ptsS r.st).1.flatMap Pt.row) ∧ (ptsS r.st).1.length ≤ p.1.2 ∧ p.2.ok m ∧ p.2.st = (ptsS r.st).2) (fun p => [rA b p.2]) := by
  refine Ctr.mk fun w F m C hr => x_pGetAll _ w _ ?_
  refine (c_RB b r).call (As := []) C hr fun r1 m1 w2 hk hm1 p1 C => ⟨_, rfl, hk.size, ?_⟩
  have hlt := bS_lt r.st
  rw [w_i64 (by omega) (by omega)]
  refine (c_someP b r1 (bS r.st).1.toNat (by omega)).call (As := []) C p1.1 fun p m2 w5 hk hm2 p2 C => ⟨_, _, _, rfl, hk.size, ?_⟩
  rw [p1.2] at p2 ⊢
  exact Ctr.ret (m' := m2) (L := []) p rfl p2 C
theorem c_someW (b : Nat) (r : Rd) (n : Nat) (hn : n ≤ 1000) : Ctr Tryz.prog 159 #[.pointer (some ⟨b, 0, none⟩), .int .i64 (n : Int), .func (.func 160) #[] #[]] (fun m => r.ok m) [rA b r] (fun p : Sl × Rd => slV p.1 (someS wrS n r.st).1.length) (fun p m => MSrc m 3 (slV p.1 (someS wrS n r.st).1.length) (someS wrS n r.st).1.length ((someS wrS n r.st).1.flatMap Wr.row) ∧ (someS wrS n r.st).1.length ≤ p.1.2 ∧ p.2.ok m ∧ p.2.st = (someS wrS n r.st).2) (fun p => [rA b p.2]) := by
  refine Ctr.mk fun w F m C hr => x_someW _ _ w _ ?_
  generalize hT : someS wrS n r.st = T
  refine ⟨fun q k c i w' L' => ∃ (j : Nat) (r' : Rd) (m' : Mem) (pre : List Wr), i = j ∧ j ≤ n ∧ k = pre.length ∧ pre.length = j ∧ r'.ok m' ∧ (pre ++ (someS wrS (n - j) r'.st).1, (someS wrS (n - j) r'.st).2) = T ∧ Ctx F m w w' L' m' [slA (.slice q pre.length c) pre.length (pre.flatMap Wr.row) 214 3, rA b r'], fun _ _ _ i _ => ((n : Int) - i).toNat, ⟨0, r, m, [], rfl, by omega, rfl, rfl, hr, hT, C.slNil⟩, ?_⟩
  clear C
  rintro q k c i w7 L8 _ ⟨j, r', m', pre, rfl, hj, rfl, hpl, hr', he, C⟩
  have fin : ∀ (r2 : Rd) (m2 : Mem) (w2 : World) (L2 : List Nat), r2.ok m2 → (pre, r2.st) = T → Ctx F m w w2 L2 m2 [slA (.slice q pre.length c) pre.length (pre.flatMap Wr.row) 214 3, rA b r2] → ∃ (p : Sl × Rd) (m' : Mem) (L : List Nat), Ending.returned (Value.slice q pre.length c) = .returned (slV p.1 T.1.length) ∧ (MSrc m' 3 (slV p.1 T.1.length) T.1.length (T.1.flatMap Wr.row) ∧ T.1.length ≤ p.1.2 ∧ p.2.ok m' ∧ p.2.st = T.2) ∧ Ctx F m w w2 L m' [rA b p.2] := fun r2 m2 w2 L2 h1 h2 C => by
    subst h2
    have hc := C.slCap.1
    obtain ⟨m3, hm3, hs, D⟩ := C.slShare
    exact ⟨((q, c), r2), m3, L2, rfl, ⟨hs, hc, h1.mono hm3, rfl⟩, D⟩
  by_cases hjn : j < n
  rotate_left
  · rw [if_neg (by simp only [decide_eq_true_eq]; omega)]
    have h0 : n - j = 0 := by omega
    simp only [h0, someS, List.append_nil] at he
    exact fin r' m' w7 L8 hr' he C
  rw [if_pos (by simp only [decide_eq_true_eq]; omega)]
  have h1 : n - j = (n - (j + 1)) + 1 := by omega
  refine (c_getWrite b r').call (As := [_]) C.swap hr' fun r2 m2 w10 hk hm2 p2 C => ⟨_, _, _, rfl, hk.size, fun w16 L17 h16 g16 => ?_⟩
  refine (c_RErr b r2).call (As := [_]) (C.noL.hidL h16 g16) trivial fun _ m3 w19 hk hm3 _ C => ⟨_, rfl, hk, ?_⟩
  rw [h1] at he
  simp only [someS] at he
  have e2 : r2.e = (wrS r'.st).2.2 := by rw [← p2.2]; rfl
  by_cases hz : r2.e = 0
  rotate_left
  · rw [if_pos (by simp [hz])]
    rw [if_pos (by rw [← e2]; exact hz), List.append_nil, ← p2.2] at he
    exact fin r2 m3 w19 L17 (p2.1.mono hm3) he C.swap
  rw [if_neg (by simp [hz])]
  rw [if_neg (by rw [← e2]; simpa using hz), ← p2.2] at he
  generalize (wrS r'.st).1 = x at he ⊢
  have D0 := (C.swap.alloc x.row 214).swap
  have hcl : Cells _ ⟨w19.heap.size, 0, none⟩ x.row := (C.swap.alloc x.row 214).blkCells (o := 0) fun k v e => by simpa using e
  obtain ⟨q2, c2, w25, ha, hkk, D2⟩ := Ctx.app2 (P := Tryz.prog) (bytes := 40) (t := 140) (t2 := 140) D0 140 (by kernel_rfl) (.some ⟨w19.heap.size, 0, none⟩ 1 1 x.row rfl hcl) (by unfold maxLen; omega) (by omega) (wr_one _)
  have e1 : (pre ++ [x]).length = pre.length + 1 := by simp
  have e3 : (pre ++ [x]).flatMap Wr.row = pre.flatMap Wr.row ++ x.row := by simp
  have e : IntKind.wrap .i64 ((j : Int) + 1) = ((j + 1 : Nat) : Int) := by rw [w_i64 (by omega) (by omega)]; omega
  refine ⟨q2, _, c2, w25, ha, hkk, ⟨j + 1, r2, m3, pre ++ [x], e, hjn, e1.symm, by rw [e1, hpl], p2.1.mono hm3, ?_, ?_⟩, ?_⟩
  · rw [← he, List.append_assoc]; rfl
  · rw [← e3, ← e1] at D2
    exact D2.pk [0, 2] [1] rfl
  · rw [e]; exact Nat.le_of_eq (by show ((n : Int) - ((j + 1 : Nat) : Int)).toNat + 1 = ((n : Int) - (j : Int)).toNat; omega)
/-! ### identities -/
theorem c_GetID : RdC 85 (fun x : I => x.V) idS := by
  refine fun b r => Ctr.mk fun w F m C hr => x_GetID _ w _ fun w1 L2 h1 g1 => ?_
  refine (c_GetProc b r).call (As := []) (C.hidL h1 g1) hr fun r1 m1 w4 hk hm1 p1 C => ⟨_, _, rfl, hk, fun w7 L8 h7 g7 => ?_⟩
  refine (c_RU b r1 4294967295 (by decide)).call (As := []) (C.hidL h7 g7) p1.1 fun r2 m2 w10 hk hm2 p2 C => ⟨_, rfl, hk, fun w12 L13 h12 g12 => ?_⟩
  refine (c_RB b r2).call (As := []) (C.hidL h12 g12) p2.1 fun r3 m3 w15 hk hm3 p3 C => ⟨_, rfl, hk, ?_⟩
  have hlt := uS_lt 4294967295 r1.st (by decide)
  have hd := bS_lt r2.st
  rw [w_u32 (by omega) (by omega)]
  have hH : idH r.st = (⟨((procS r.st).1.1.toNat : Nat), ((procS r.st).1.2 : Nat), ((uS 4294967295 r1.st).1 : Nat), ((bS r2.st).1.toNat : Nat), 0, 0, 0, 0, 0, 0⟩, r3.st) := by
    simp only [idH]; rw [← p1.2, ← p2.2, ← p3.2]
  generalize ((procS r.st).1.1.toNat : Int) = xn at hH ⊢
  generalize ((procS r.st).1.2 : Int) = xl at hH ⊢
  generalize ((uS 4294967295 r1.st).1 : Int) = xs at hH ⊢
  generalize (bS r2.st).1.toNat = D at hH hd ⊢
  have hI : idS r.st = if (D : Int) > 3 then (⟨xn, xl, xs, D, 0, 0, 0, 0, 0, 0⟩, r3.st) else stS D 0 ⟨xn, xl, xs, D, 0, 0, 0, 0, 0, 0⟩ r3.st := by
    rw [idS, hH]; simp only [Int.toNat_natCast]
  by_cases h3 : (D : Int) > 3
  · rw [if_pos (by simpa using h3)]
    rw [if_pos h3] at hI
    exact fun w52 h52 => Ctr.ret (m' := m3) (L := []) r3 (by rw [hI]) ⟨p3.1, by rw [hI]⟩ (C.hid0 h52)
  rw [if_neg (by simpa using h3)]
  rw [if_neg h3] at hI
  intro w17 L18 h17 g17
  refine (c_steps ⟨xn, xl, xs, D, 0, 0, 0, 0, 0, 0⟩ ⟨by show (0 : Int) ≤ D; omega, by show (D : Int) < 256; omega⟩).call (As := [_]) (C.hidL h17 g17) trivial fun a0 m0 w20 hk hm0 _ C => ⟨_, _, _, rfl, hk, ?_⟩
  have hlen : (stL ⟨xn, xl, xs, D, 0, 0, 0, 0, 0, 0⟩).length = D := by rw [stL, List.length_take]; simp; omega
  rw [hlen]
  replace C : Ctx F m w w20 L18 m0 [rA b r3] := C
  refine ⟨fun i n l s d g0 i0 g1 i1 g2 i2 w' L' => ∃ (j : Nat) (x : I) (r' : Rd) (m' : Mem), i = j ∧ j ≤ D ∧ n = x.n ∧ l = x.l ∧ s = x.s ∧ d = x.d ∧ g0 = x.g0 ∧ i0 = x.i0 ∧ g1 = x.g1 ∧ i1 = x.i1 ∧ g2 = x.g2 ∧ i2 = x.i2 ∧ r'.ok m' ∧ stS (D - j) j x r'.st = idS r.st ∧ Ctx F m w w' L' m' [rA b r'], fun i _ _ _ _ _ _ _ _ _ _ _ => ((D : Int) - i).toNat, ⟨0, ⟨xn, xl, xs, D, 0, 0, 0, 0, 0, 0⟩, r3, m0, rfl, by omega, rfl, rfl, rfl, rfl, rfl, rfl, rfl, rfl, rfl, rfl, p3.1.mono hm0, hI.symm, C⟩, ?_⟩
  clear C hI hH
  rintro i n l s d g0 i0 g1 i1 g2 i2 wa La _ ⟨j, x, r', m', rfl, hj, rfl, rfl, rfl, rfl, rfl, rfl, rfl, rfl, rfl, rfl, hr', hst, C⟩
  by_cases hjd : j < D
  rotate_left
  · rw [if_neg (by simp only [decide_eq_true_eq]; omega)]
    have h0 : D - j = 0 := by omega
    rw [h0, stS] at hst
    exact fun w39 h39 => Ctr.ret (m' := m') (L := []) r' (by rw [← hst]) ⟨hr', by rw [← hst]⟩ (C.hid0 h39)
  rw [if_pos (by simp only [decide_eq_true_eq]; omega)]
  have hs1 : D - j = (D - (j + 1)) + 1 := by omega
  refine (c_RB b r').call (As := []) C hr' fun r5 m5 w41 hk hm5 p5 C => ⟨_, rfl, hk, ?_⟩
  refine (c_RB b r5).call (As := []) C p5.1 fun r6 m6 w44 hk hm6 p6 C => ⟨_, rfl, hk, by omega, by omega, ?_⟩
  rw [hs1, stS, ← p5.2, ← p6.2] at hst
  have e : IntKind.wrap .i64 ((j : Int) + 1) = ((j + 1 : Nat) : Int) := by rw [w_i64 (by omega) (by omega)]; omega
  rw [e]
  have hdec : Nat.le ((((D : Int) - ((j + 1 : Nat) : Int)).toNat) + 1) (((D : Int) - (j : Int)).toNat) := Nat.le_of_eq (by omega)
  refine ⟨⟨fun h wb Lb hb gb => ⟨rfl, ?_, hdec⟩, fun h wb Lb hb gb => ⟨rfl, ?_, hdec⟩⟩, fun h wb Lb hb gb => ⟨rfl, ?_, hdec⟩⟩
  · obtain rfl : j = 0 := by omega
    exact ⟨1, x.put 0 ((bS r'.st).1.toNat : Nat) ((bS r5.st).1.toNat : Nat), r6, m6, rfl, by omega, rfl, rfl, rfl, rfl, rfl, rfl, rfl, rfl, rfl, rfl, p6.1, hst, C.hidL hb gb⟩
  · obtain rfl : j = 1 := by omega
    exact ⟨2, x.put 1 ((bS r'.st).1.toNat : Nat) ((bS r5.st).1.toNat : Nat), r6, m6, rfl, by omega, rfl, rfl, rfl, rfl, rfl, rfl, rfl, rfl, rfl, rfl, p6.1, hst, C.hidL hb gb⟩
  · obtain rfl : j = 2 := by omega
    exact ⟨3, x.put 2 ((bS r'.st).1.toNat : Nat) ((bS r5.st).1.toNat : Nat), r6, m6, rfl, by omega, rfl, rfl, rfl, rfl, rfl, rfl, rfl, rfl, rfl, rfl, p6.1, hst, C.hidL hb gb⟩
end Go.Proofs
namespace Go.Proofs
open Go X RowKit
/-! ### views and entries, as the program reads them -/
theorem okE_step {α : Type} {g : St → α × St} (hg : Dead g) (k : Nat) (s : St) (hn : (g s).2.2 ≠ 0 → (g s).2.1 = []) (pre : List α) : okE (pre ++ (someS g (k + 1) s).1, (someS g (k + 1) s).2) = okE (pre ++ [(g s).1] ++ (someS g k (g s).2).1, (someS g k (g s).2).2) := by
  rw [someS]
  by_cases h : (g s).2.2 = 0
  · rw [if_neg (by simpa using h), List.append_assoc]; rfl
  · rw [if_pos h, some_dead hg k h (hn h)]
    simp only [okE]; rw [if_pos h, if_pos h]
theorem someS_len {α : Type} (g : St → α × St) : ∀ (n : Nat) (s : St), (someS g n s).1.length ≤ n
  | 0, s => Nat.le_refl _
  | n + 1, s => by
    rw [someS]; split
    · exact Nat.zero_le _
    · have := someS_len g n (g s).2
      simp only [List.length_cons]; omega
theorem okE_len {α : Type} (p : List α × St) : (okE p).1.length ≤ p.1.length := by
  unfold okE; split
  · exact Nat.zero_le _
  · exact Nat.le_refl _
theorem ptsS_len (s : St) : (ptsS s).1.length ≤ 255 := by
  have := someS_len ptS (bS s).1.toNat (bS s).2
  have := bS_lt s
  show (someS ptS (bS s).1.toNat (bS s).2).1.length ≤ 255
  omega
theorem wrsS_len (s : St) : (wrsS s).1.length ≤ 255 := by
  have := someS_len wrS (bS s).1.toNat (bS s).2
  have := bS_lt s
  show (someS wrS (bS s).1.toNat (bS s).2).1.length ≤ 255
  omega
theorem prsS_len (s : St) : (prsS s).1.length ≤ 255 := by
  have h1 := someS_len prS (bS s).1.toNat (bS s).2
  have h2 := bS_lt s
  have h3 := okE_len (someS prS (bS s).1.toNat (bS s).2)
  show (okE (someS prS (bS s).1.toNat (bS s).2)).1.length ≤ 255
  omega
theorem evsS_len (s : St) : (evsS s).1.length ≤ 400 := by
  have h1 := someS_len evS (uS 400 s).1 (uS 400 s).2
  have h2 := uS_lt 400 s (by decide)
  have h3 := okE_len (someS evS (uS 400 s).1 (uS 400 s).2)
  show (okE (someS evS (uS 400 s).1 (uS 400 s).2)).1.length ≤ 400
  omega
theorem rd_canon {m : Mem} {r : Rd} (h : r.ok m) : r.st.2 ≠ 0 → r.st.1 = [] := fun he => h.2.1 he
theorem okE_err {α : Type} {l : List α} {s : St} (h : s.2 ≠ 0) : okE (l, s) = ([], s) := if_pos h
theorem okE_ok {α : Type} {l : List α} {s : St} (h : s.2 = 0) : okE (l, s) = (l, s) := if_neg (fun hc => hc h)
theorem c_vGet (b : Nat) (r : Rd) : Ctr Tryz.prog 89 #[.pointer (some ⟨b, 0, none⟩)] (fun m => r.ok m) [rA b r] (fun p : Sl × Rd => .agg (Vw.row ⟨(vwS r.st).1.1, (vwS r.st).1.2.1, p.1, (vwS r.st).1.2.2⟩).toArray) (fun p m => MSrc m 2 (slV p.1 (vwS r.st).1.2.2.length) (vwS r.st).1.2.2.length ((vwS r.st).1.2.2.flatMap Pr.row) ∧ (vwS r.st).1.2.2.length ≤ p.1.2 ∧ p.2.ok m ∧ p.2.st = (vwS r.st).2) (fun p => [rA b p.2]) := by
  refine Ctr.mk fun w F m C hr => x_vGet _ w _ fun w1 L2 h1 g1 => ?_
  refine (c_RB b r).call (As := []) (C.hidL h1 g1) hr fun r1 m1 w4 hk hm1 p1 C => ⟨_, rfl, hk, fun w6 L7 h6 g6 => ?_⟩
  refine (c_RU b r1 4294967295 (by decide)).call (As := []) (C.hidL h6 g6) p1.1 fun r2 m2 w9 hk hm2 p2 C => ⟨_, rfl, hk, fun w11 L12 h11 g11 => ?_⟩
  refine (c_RB b r2).call (As := []) (C.hidL h11 g11) p2.1 fun r3 m3 w14 hk hm3 p3 C => ⟨_, rfl, hk, ?_⟩
  have hlt := uS_lt 4294967295 r1.st (by decide)
  have hD := bS_lt r2.st
  rw [w_u32 (by omega) (by omega)]
  have hV : vwS r.st = if (prsS r2.st).2.2 ≠ 0 then (((0 : Int), (0 : Int), ([] : List Pr)), (prsS r2.st).2) else (((((bS r.st).1.toNat : Nat) : Int), (((uS 4294967295 r1.st).1 : Nat) : Int), (prsS r2.st).1), (prsS r2.st).2) := by
    simp only [vwS]; rw [← p1.2, ← p2.2]
  have hT : okE (someS prS (bS r2.st).1.toNat r3.st) = prsS r2.st := by rw [prsS, p3.2]
  generalize prsS r2.st = T at hV hT
  generalize ((bS r.st).1.toNat : Int) = g at hV ⊢
  generalize ((uS 4294967295 r1.st).1 : Int) = n at hV ⊢
  generalize (bS r2.st).1.toNat = D at hT hD ⊢
  generalize vwS r.st = V at hV ⊢
  refine ⟨fun i g' n' q k c w' L' => ∃ (j : Nat) (r' : Rd) (m' : Mem) (pre : List Pr), i = j ∧ j ≤ D ∧ g' = g ∧ n' = n ∧ k = pre.length ∧ pre.length = j ∧ r'.ok m' ∧ okE (pre ++ (someS prS (D - j) r'.st).1, (someS prS (D - j) r'.st).2) = T ∧ Ctx F m w w' L' m' [slA (.slice q pre.length c) pre.length (pre.flatMap Pr.row) 47 2, rA b r'], fun i _ _ _ _ _ _ => ((D : Int) - i).toNat, ⟨0, r3, m3, [], rfl, by omega, rfl, rfl, rfl, rfl, p3.1, hT, C.slNil⟩, ?_⟩
  clear C hT
  rintro i g' n' q k c w7 L8 _ ⟨j, r', m', pre, rfl, hj, rfl, rfl, rfl, hpl, hr', he, C⟩
  have finE : ∀ (w2 : World) (L2 : List Nat) (m2 : Mem), m'.le m2 → r'.e ≠ 0 → Ctx F m w w2 L2 m2 [slA (.slice q pre.length c) pre.length (pre.flatMap Pr.row) 47 2, rA b r'] → ∃ (p : Sl × Rd) (m' : Mem) (L : List Nat), Ending.returned (.agg #[.int .u8 0, .int .u32 0, .slice none 0 0]) = .returned (.agg (Vw.row ⟨V.1.1, V.1.2.1, p.1, V.1.2.2⟩).toArray) ∧ (MSrc m' 2 (slV p.1 V.1.2.2.length) V.1.2.2.length (V.1.2.2.flatMap Pr.row) ∧ V.1.2.2.length ≤ p.1.2 ∧ p.2.ok m' ∧ p.2.st = V.2) ∧ Ctx F m w w2 L m' [rA b p.2] := fun w2 L2 m2 hm hz C => by
    have hz' : r'.st.2 ≠ 0 := hz
    rw [some_dead dead_pr _ hz' (rd_canon hr' hz'), okE_err hz'] at he
    rw [← he, if_pos hz'] at hV
    subst hV
    exact ⟨((none, 0), r'), m2, L2, rfl, ⟨.nil .., Nat.le_refl _, hr'.mono hm, rfl⟩, C.pk [1] [0] rfl⟩
  have finK : ∀ (w2 : World) (L2 : List Nat) (m2 : Mem), m'.le m2 → r'.e = 0 → j = D → Ctx F m w w2 L2 m2 [slA (.slice q pre.length c) pre.length (pre.flatMap Pr.row) 47 2, rA b r'] → ∃ (p : Sl × Rd) (m' : Mem) (L : List Nat), Ending.returned (.agg #[.int .u8 g', .int .u32 n', .slice q pre.length c]) = .returned (.agg (Vw.row ⟨V.1.1, V.1.2.1, p.1, V.1.2.2⟩).toArray) ∧ (MSrc m' 2 (slV p.1 V.1.2.2.length) V.1.2.2.length (V.1.2.2.flatMap Pr.row) ∧ V.1.2.2.length ≤ p.1.2 ∧ p.2.ok m' ∧ p.2.st = V.2) ∧ Ctx F m w w2 L m' [rA b p.2] := fun w2 L2 m2 hm hz hjD C => by
    have hz' : r'.st.2 = 0 := hz
    have h0 : D - j = 0 := by omega
    simp only [h0, someS, List.append_nil] at he
    rw [okE_ok hz'] at he
    rw [← he, if_neg (fun hc => hc hz')] at hV
    subst hV
    have hc := C.slCap.1
    obtain ⟨m3, hm3, hs, D⟩ := C.slShare
    exact ⟨((q, c), r'), m3, L2, rfl, ⟨hs, hc, (hr'.mono hm).mono hm3, rfl⟩, D⟩
  by_cases hjn : j < D
  rotate_left
  · rw [if_neg (by simp only [decide_eq_true_eq]; omega)]
    refine (c_RErr b r').call (As := [_]) C.swap trivial fun _ m2 w27 hk hm2 _ C => ⟨_, rfl, hk, ?_⟩
    by_cases hz : r'.e = 0
    · rw [if_neg (by simp [hz])]
      exact fun w29 h29 => finK w29 [] m2 hm2 hz (by omega) (C.swap.hid0 h29)
    · rw [if_pos (by simp [hz])]
      exact fun w30 h30 => finE w30 [] m2 hm2 hz (C.swap.hid0 h30)
  rw [if_pos (by simp only [decide_eq_true_eq]; omega)]
  refine (c_RErr b r').call (As := [_]) C.swap trivial fun _ m2 w32 hk hm2 _ C => ⟨_, rfl, hk, ?_⟩
  by_cases hz : r'.e = 0
  rotate_left
  · rw [if_pos (by simp [hz])]
    refine (c_RErr b r').call (As := [_]) C trivial fun _ m3 w48 hk hm3 _ C => ⟨_, rfl, hk, ?_⟩
    rw [if_pos (by simp [hz])]
    exact fun w51 h51 => finE w51 [] m3 (hm2.le_trans hm3) hz (C.swap.hid0 h51)
  rw [if_neg (by simp [hz])]
  refine ⟨[], facts_nil _ _, fun w35 L36 h35 g35 => ?_⟩
  have h1 : D - j = (D - (j + 1)) + 1 := by omega
  refine (c_GetPr b r').call (As := [_]) (C.hidL h35 g35) (hr'.mono hm2) fun r2 m3 w38 hk hm3 p2 C => ⟨_, _, rfl, hk, facts_nil _ _, facts_nil _ _, ?_⟩
  rw [h1, okE_step dead_pr _ _ (by rw [← p2.2]; exact rd_canon p2.1), ← p2.2] at he
  generalize (prS r'.st).1 = x at he ⊢
  have D0 := (C.swap.alloc x.row 47).swap
  have hcl : Cells _ ⟨w38.heap.size, 0, none⟩ x.row := (C.swap.alloc x.row 47).blkCells (o := 0) fun k v e => by simpa using e
  obtain ⟨q2, c2, w25, ha, hkk, D2⟩ := Ctx.app2 (P := Tryz.prog) (bytes := 4) (t := 54) (t2 := 54) D0 54 (by kernel_rfl) (.some ⟨w38.heap.size, 0, none⟩ 1 1 x.row rfl hcl) (by unfold maxLen; omega) (by omega) (pr_one _)
  have e1 : (pre ++ [x]).length = pre.length + 1 := by simp
  have e3 : (pre ++ [x]).flatMap Pr.row = pre.flatMap Pr.row ++ x.row := by simp
  have e : IntKind.wrap .u8 ((j : Int) + 1) = ((j + 1 : Nat) : Int) := by rw [w_u8 (by omega) (by omega)]; omega
  refine ⟨q2, _, c2, w25, ha, hkk, fun w45 L46 h45 g45 => ⟨rfl, ⟨j + 1, r2, m3, pre ++ [x], e, hjn, rfl, rfl, e1.symm, by rw [e1, hpl], p2.1, he, ?_⟩, ?_⟩⟩
  · rw [← e3, ← e1] at D2
    exact (D2.pk [0, 2] [1] rfl).hidL h45 g45
  · rw [e]; exact Nat.le_of_eq (by show ((D : Int) - ((j + 1 : Nat) : Int)).toNat + 1 = ((D : Int) - (j : Int)).toNat; omega)
/-! ### entries -/
theorem c_eGet (b : Nat) (r : Rd) : Ctr Tryz.prog 139 #[.pointer (some ⟨b, 0, none⟩)] (fun m => r.ok m) [rA b r] (fun p : En × Rd => .agg p.1.row.toArray) (fun p m => EnM m p.1 ∧ EnC p.1 ∧ p.1.er = (evS r.st).1 ∧ p.2.ok m ∧ p.2.st = (evS r.st).2) (fun p => [rA b p.2]) := by
  refine Ctr.mk fun w F m C hr => x_eGet _ w _ fun w1 L2 h1 g1 => ?_
  refine (c_RB b r).call (As := []) (C.hidL h1 g1) hr fun r1 m1 w4 hk hm1 p1 C => ⟨_, rfl, hk, fun w6 L7 h6 g6 => ?_⟩
  refine (c_RErr b r1).call (As := []) (C.hidL h6 g6) trivial fun _ m2 w9 hk hm2 _ C => ⟨_, rfl, hk, ?_⟩
  have q1 := p1.1.mono hm2
  have hE : evS r.st = if r1.st.2 ≠ 0 then (Ev.zero 0, r1.st) else if (bS r.st).1.toNat = 3 then evK 3 r1.st else if (bS r.st).1.toNat = 0 then evC 0 r1.st else if (bS r.st).1.toNat = 1 then evBk 1 r1.st else if (bS r.st).1.toNat = 2 then evKl 2 r1.st else (Ev.zero ((bS r.st).1.toNat : Nat), failS r1.st 6) := by
    simp only [evS]; rw [← p1.2]
  have hK := bS_lt r.st
  generalize (bS r.st).1.toNat = K at hE hK ⊢
  generalize evS r.st = E at hE ⊢
  have nM : ∀ (m : Mem) (e : En), e.pq = (none, 0) → e.ps = [] → e.wq = (none, 0) → e.ws = [] → EnM m e ∧ EnC e := fun m e h1 h2 h3 h4 => by
    obtain ⟨kd, id, fl, pq, ps, rc, rv, wq, ws, vn, vl⟩ := e
    cases h1; cases h2; cases h3; cases h4
    exact ⟨⟨.nil .., .nil .., Nat.zero_le _, Nat.zero_le _⟩, ⟨Nat.le_refl _, Nat.le_refl _⟩⟩
  by_cases hz : r1.e = 0
  rotate_left
  · rw [if_pos (by simp [hz])]
    rw [if_pos (show r1.st.2 ≠ 0 from hz)] at hE
    subst hE
    have := nM m2 ⟨0, I.zero, 0, (none, 0), [], 0, ByteArray.mk #[], (none, 0), [], 0, 0⟩ rfl rfl rfl rfl
    exact fun w122 h122 => Ctr.ret (m' := m2) (L := []) (⟨0, I.zero, 0, (none, 0), [], 0, ByteArray.mk #[], (none, 0), [], 0, 0⟩, r1) rfl ⟨this.1, this.2, rfl, q1, rfl⟩ (C.hid0 h122)
  rw [if_neg (by simp [hz])]
  rw [if_neg (show ¬ r1.st.2 ≠ 0 from fun h => h hz)] at hE
  by_cases k3 : K = 3
  · subst k3
    rw [if_pos (by rfl)]
    rw [if_pos rfl] at hE
    refine (c_GetID b r1).call (As := []) C q1 fun r2 m3 w81 hk hm3 p2 C => ⟨_, _, _, _, _, _, _, _, _, _, rfl, hk, fun w92 L93 h92 g92 => ?_⟩
    refine (c_RU b r2 4294967295 (by decide)).call (As := []) (C.hidL h92 g92) p2.1 fun r3 m4 w95 hk hm4 p3 C => ⟨_, rfl, hk, fun w97 L98 h97 g97 => ?_⟩
    refine (c_pGetAll b r3).call (As := []) (C.hidL h97 g97) p3.1 fun p m5 w100 hk hm5 p4 C => ⟨_, _, _, rfl, hk, ?_⟩
    rw [if_pos (by rfl)]
    intro w105 L106 h105 g105
    refine (c_GetRes b p.2).call (As := []) (C.hidL h105 g105) p4.2.2.1 fun r5 m6 w108 hk hm6 p5 C => ⟨_, _, rfl, hk, fun w111 L112 h111 g111 => ?_⟩
    refine (c_RB b r5).call (As := []) (C.hidL h111 g111) p5.1 fun r6 m7 w114 hk hm7 p6 C => ⟨_, rfl, hk, ?_⟩
    have hlt := uS_lt 4294967295 r2.st (by decide)
    have hw := bS_lt r5.st
    rw [w_u32 (by omega) (by omega), w_i64 (by omega) (by omega)]
    refine (c_someW b r6 (bS r5.st).1.toNat (by omega)).call (As := []) C p6.1 fun q m8 w117 hk hm8 p7 C => ⟨_, _, _, rfl, hk, fun w121 h121 => ?_⟩
    have hws : wrsS r5.st = someS wrS (bS r5.st).1.toNat r6.st := by rw [wrsS, p6.2]
    rw [← hws] at p7 ⊢
    have hpl := ptsS_len r3.st
    have hwl := wrsS_len r5.st
    refine Ctr.ret (m' := m8) (L := []) (⟨3, (idS r1.st).1, ((uS 4294967295 r2.st).1 : Nat), p.1, (ptsS r3.st).1, (resS p.2.st).1.c, (resS p.2.st).1.v, q.1, (wrsS r5.st).1, 0, 0⟩, q.2) rfl ⟨⟨((p4.1.mono hm6).mono hm7).mono hm8, p7.1, by show (ptsS r3.st).1.length ≤ _; omega, by show (wrsS r5.st).1.length ≤ _; omega⟩, ⟨p4.2.1, p7.2.1⟩, ?_, p7.2.2.1, ?_⟩ (C.hid0 h121)
    · subst hE; simp only [evK, evC]; rw [← p2.2, ← p3.2, ← p4.2.2.2, ← p5.2]; rfl
    · subst hE; simp only [evK, evC]; rw [← p2.2, ← p3.2, ← p4.2.2.2, ← p5.2]; exact p7.2.2.2
  rw [if_neg (by simp only [beq_iff_eq]; omega)]
  rw [if_neg k3] at hE
  by_cases k0 : K = 0
  · subst k0
    rw [if_pos (by rfl)]
    rw [if_pos rfl] at hE
    refine (c_GetID b r1).call (As := []) C q1 fun r2 m3 w81 hk hm3 p2 C => ⟨_, _, _, _, _, _, _, _, _, _, rfl, hk, fun w92 L93 h92 g92 => ?_⟩
    refine (c_RU b r2 4294967295 (by decide)).call (As := []) (C.hidL h92 g92) p2.1 fun r3 m4 w95 hk hm4 p3 C => ⟨_, rfl, hk, fun w97 L98 h97 g97 => ?_⟩
    refine (c_pGetAll b r3).call (As := []) (C.hidL h97 g97) p3.1 fun p m5 w100 hk hm5 p4 C => ⟨_, _, _, rfl, hk, ?_⟩
    rw [if_neg (by decide)]
    have hlt := uS_lt 4294967295 r2.st (by decide)
    rw [w_u32 (by omega) (by omega)]
    have hpl := ptsS_len r3.st
    refine fun w104 h104 => Ctr.ret (m' := m5) (L := []) (⟨0, (idS r1.st).1, ((uS 4294967295 r2.st).1 : Nat), p.1, (ptsS r3.st).1, 0, ByteArray.mk #[], (none, 0), [], 0, 0⟩, p.2) rfl ⟨⟨p4.1, .nil .., by show (ptsS r3.st).1.length ≤ _; omega, Nat.zero_le _⟩, ⟨p4.2.1, Nat.le_refl _⟩, ?_, p4.2.2.1, ?_⟩ (C.hid0 h104)
    · subst hE; simp only [evC]; rw [← p2.2, ← p3.2]; rfl
    · subst hE; simp only [evC]; rw [← p2.2, ← p3.2]; exact p4.2.2.2
  rw [if_neg (by simp only [beq_iff_eq]; omega)]
  rw [if_neg k0] at hE
  by_cases k1 : K = 1
  · subst k1
    rw [if_pos (by rfl)]
    rw [if_pos rfl] at hE
    refine (c_GetID b r1).call (As := []) C q1 fun r2 m3 w81 hk hm3 p2 C => ⟨_, _, _, _, _, _, _, _, _, _, rfl, hk, fun w92 L93 h92 g92 => ?_⟩
    refine (c_GetRes b r2).call (As := []) (C.hidL h92 g92) p2.1 fun r5 m6 w108 hk hm6 p5 C => ⟨_, _, rfl, hk, fun w37 h37 => ?_⟩
    have := nM m6 ⟨1, (idS r1.st).1, 0, (none, 0), [], (resS r2.st).1.c, (resS r2.st).1.v, (none, 0), [], 0, 0⟩ rfl rfl rfl rfl
    refine Ctr.ret (m' := m6) (L := []) (⟨1, (idS r1.st).1, 0, (none, 0), [], (resS r2.st).1.c, (resS r2.st).1.v, (none, 0), [], 0, 0⟩, r5) rfl ⟨this.1, this.2, ?_, p5.1, ?_⟩ (C.hid0 h37)
    · subst hE; simp only [evBk]; rw [← p2.2]; rfl
    · subst hE; simp only [evBk]; rw [← p2.2]; exact p5.2
  rw [if_neg (by simp only [beq_iff_eq]; omega)]
  rw [if_neg k1] at hE
  by_cases k2 : K = 2
  · subst k2
    rw [if_pos (by rfl)]
    rw [if_pos rfl] at hE
    refine (c_GetProc b r1).call (As := []) C q1 fun r2 m3 w15 hk hm3 p2 C => ⟨_, _, rfl, hk, fun w18 h18 => ?_⟩
    have := nM m3 ⟨2, I.zero, 0, (none, 0), [], 0, ByteArray.mk #[], (none, 0), [], ((procS r1.st).1.1.toNat : Nat), ((procS r1.st).1.2 : Nat)⟩ rfl rfl rfl rfl
    refine Ctr.ret (m' := m3) (L := []) (⟨2, I.zero, 0, (none, 0), [], 0, ByteArray.mk #[], (none, 0), [], ((procS r1.st).1.1.toNat : Nat), ((procS r1.st).1.2 : Nat)⟩, r2) rfl ⟨this.1, this.2, ?_, p2.1, ?_⟩ (C.hid0 h18)
    · subst hE; rfl
    · subst hE; exact p2.2
  rw [if_neg (by simp only [beq_iff_eq]; omega)]
  rw [if_neg k2] at hE
  refine (c_RFail6 b r1).call (As := []) C trivial fun _ m3 w12 hk hm3 _ C => ⟨rfl, hk, fun w13 h13 => ?_⟩
  subst hE
  have := nM m3 ⟨(K : Nat), I.zero, 0, (none, 0), [], 0, ByteArray.mk #[], (none, 0), [], 0, 0⟩ rfl rfl rfl rfl
  exact Ctr.ret (m' := m3) (L := []) (⟨(K : Nat), I.zero, 0, (none, 0), [], 0, ByteArray.mk #[], (none, 0), [], 0, 0⟩, ⟨(none, 0), [], (failS r1.st 6).2⟩) rfl ⟨this.1, this.2, rfl, okNil _ _ _, rfl⟩ (C.hid0 h13)
def EsC (m : Mem) (q : Sl) (l : List En) : Prop := EsM m q l ∧ ∀ e ∈ l, EnC e
theorem EsC.mono {m m' : Mem} {q : Sl} {l : List En} (h : EsC m q l) (hm : m.le m') : EsC m' q l := ⟨h.1.mono hm, h.2⟩
theorem escNil (m : Mem) : EsC m (none, 0) [] := ⟨esNil m, by simp⟩
theorem c_someE (b : Nat) (r : Rd) (n : Nat) (hn : n ≤ 1000) : Ctr Tryz.prog 138 #[.pointer (some ⟨b, 0, none⟩), .int .i64 (n : Int), .func (.func 139) #[] #[]] (fun m => r.ok m) [rA b r] (fun p : Sl × List En × Rd => slV p.1 p.2.1.length) (fun p m => EsC m p.1 p.2.1 ∧ p.2.1.map En.er = (someS evS n r.st).1 ∧ p.2.2.ok m ∧ p.2.2.st = (someS evS n r.st).2) (fun p => [rA b p.2.2]) := by
  refine Ctr.mk fun w F m C hr => x_someE _ _ w _ ?_
  generalize hT : someS evS n r.st = T
  refine ⟨fun q k c i w' L' => ∃ (j : Nat) (r' : Rd) (m' : Mem) (pre : List En), i = j ∧ j ≤ n ∧ k = pre.length ∧ pre.length = j ∧ r'.ok m' ∧ (∀ e ∈ pre, EnM m' e ∧ EnC e) ∧ (pre.map En.er ++ (someS evS (n - j) r'.st).1, (someS evS (n - j) r'.st).2) = T ∧ Ctx F m w w' L' m' [slA (.slice q pre.length c) pre.length (pre.flatMap En.row) 142 18, rA b r'], fun _ _ _ i _ => ((n : Int) - i).toNat, ⟨0, r, m, [], rfl, by omega, rfl, rfl, hr, by simp, hT, C.slNil⟩, ?_⟩
  clear C
  rintro q k c i w7 L8 _ ⟨j, r', m', pre, rfl, hj, rfl, hpl, hr', hpr, he, C⟩
  have fin : ∀ (r2 : Rd) (m2 : Mem) (w2 : World) (L2 : List Nat), m'.le m2 → r2.ok m2 → (pre.map En.er, r2.st) = T → Ctx F m w w2 L2 m2 [slA (.slice q pre.length c) pre.length (pre.flatMap En.row) 142 18, rA b r2] → ∃ (p : Sl × List En × Rd) (m' : Mem) (L : List Nat), Ending.returned (Value.slice q pre.length c) = .returned (slV p.1 p.2.1.length) ∧ (EsC m' p.1 p.2.1 ∧ p.2.1.map En.er = T.1 ∧ p.2.2.ok m' ∧ p.2.2.st = T.2) ∧ Ctx F m w w2 L m' [rA b p.2.2] := fun r2 m2 w2 L2 hm h1 h2 C => by
    subst h2
    obtain ⟨m3, hm3, hs, D⟩ := C.slShare
    exact ⟨((q, c), pre, r2), m3, L2, rfl, ⟨⟨⟨hs, fun e h => ((hpr e h).1.mono hm).mono hm3⟩, fun e h => (hpr e h).2⟩, rfl, h1.mono hm3, rfl⟩, D⟩
  by_cases hjn : j < n
  rotate_left
  · rw [if_neg (by simp only [decide_eq_true_eq]; omega)]
    have h0 : n - j = 0 := by omega
    simp only [h0, someS, List.append_nil] at he
    exact fin r' m' w7 L8 (fun _ _ h => h) hr' he C
  rw [if_pos (by simp only [decide_eq_true_eq]; omega)]
  have h1 : n - j = (n - (j + 1)) + 1 := by omega
  refine (c_eGet b r').call (As := [_]) C.swap hr' fun p m2 w10 hk hm2 p2 C => ⟨_, _, _, _, _, _, _, _, _, _, _, _, _, _, _, _, _, _, _, _, _, _, rfl, hk.size, fun w16 L17 h16 g16 => ?_⟩
  obtain ⟨x, r2⟩ := p
  obtain ⟨hxm, hxc, hx, hok, hst⟩ := p2
  simp only at hxm hxc hx hok hst C ⊢
  refine (c_RErr b r2).call (As := [_]) (C.noL.hidL h16 g16) trivial fun _ m3 w19 hk hm3 _ C => ⟨_, rfl, hk, ?_⟩
  rw [h1] at he
  simp only [someS] at he
  have e2 : r2.e = (evS r'.st).2.2 := by rw [← hst]; rfl
  by_cases hz : r2.e = 0
  rotate_left
  · rw [if_pos (by simp [hz])]
    rw [if_pos (by rw [← e2]; exact hz), List.append_nil, ← hst] at he
    exact fin r2 m3 w19 L17 (hm2.le_trans hm3) (hok.mono hm3) he C.swap
  rw [if_neg (by simp [hz])]
  rw [if_neg (by rw [← e2]; simpa using hz), ← hst, ← hx] at he
  have D0 := (C.swap.alloc x.row 142).swap
  have hcl : Cells _ ⟨w19.heap.size, 0, none⟩ x.row := (C.swap.alloc x.row 142).blkCells (o := 0) fun k v e => by simpa using e
  obtain ⟨q2, c2, w25, ha, hkk, D2⟩ := Ctx.app2 (P := Tryz.prog) (bytes := 400) (t := 57) (t2 := 57) D0 57 (by kernel_rfl) (.some ⟨w19.heap.size, 0, none⟩ 1 1 x.row rfl hcl) (by unfold maxLen; omega) (by omega) (en_one _)
  have e1 : (pre ++ [x]).length = pre.length + 1 := by simp
  have e3 : (pre ++ [x]).flatMap En.row = pre.flatMap En.row ++ x.row := by simp
  have e : IntKind.wrap .i64 ((j : Int) + 1) = ((j + 1 : Nat) : Int) := by rw [w_i64 (by omega) (by omega)]; omega
  refine ⟨q2, _, c2, w25, ha, hkk, ⟨j + 1, r2, m3, pre ++ [x], e, hjn, e1.symm, by rw [e1, hpl], hok.mono hm3, ?_, ?_, ?_⟩, ?_⟩
  · intro y hy
    rcases List.mem_append.1 hy with hy | hy
    · exact ⟨((hpr y hy).1.mono hm2).mono hm3, (hpr y hy).2⟩
    · simp only [List.mem_singleton] at hy; subst hy; exact ⟨hxm.mono hm3, hxc⟩
  · rw [← he, List.map_append, List.append_assoc]; rfl
  · rw [← e3, ← e1] at D2
    exact D2.pk [0, 2] [1] rfl
  · rw [e]; exact Nat.le_of_eq (by show ((n : Int) - ((j + 1 : Nat) : Int)).toNat + 1 = ((n : Int) - (j : Int)).toNat; omega)
theorem c_eGetAll (b : Nat) (r : Rd) : Ctr Tryz.prog 90 #[.pointer (some ⟨b, 0, none⟩)] (fun m => r.ok m) [rA b r] (fun p : Sl × List En × Rd => slV p.1 p.2.1.length) (fun p m => EsC m p.1 p.2.1 ∧ p.2.1.map En.er = (evsS r.st).1 ∧ p.2.2.ok m ∧ p.2.2.st = (evsS r.st).2) (fun p => [rA b p.2.2]) := by
  refine Ctr.mk fun w F m C hr => x_eGetAll _ w _ ?_
  refine (c_RU b r 400 (by decide)).call (As := []) C hr fun r1 m1 w2 hk hm1 p1 C => ⟨_, rfl, hk.size, ?_⟩
  have hlt := uS_lt 400 r.st (by decide)
  rw [w_i64 (by omega) (by omega)]
  refine (c_someE b r1 (uS 400 r.st).1 (by omega)).call (As := []) C p1.1 fun p m2 w5 hk hm2 p2 C => ⟨_, _, _, rfl, hk.size, ?_⟩
  obtain ⟨q, l, r2⟩ := p
  obtain ⟨g1, g2, g3, g4⟩ := p2
  simp only at g1 g2 g3 g4 C ⊢
  have hE : evsS r.st = okE (l.map En.er, r2.st) := by rw [evsS, ← p1.2, g2, g4]
  refine (c_RErr b r2).call (As := []) C trivial fun _ m3 w10 hk hm3 _ C => ⟨_, rfl, hk.size, ?_⟩
  by_cases hz : r2.e = 0
  · rw [if_neg (by simp [hz])]
    rw [okE_ok (show r2.st.2 = 0 from hz)] at hE
    exact Ctr.ret (m' := m3) (L := []) (q, l, r2) rfl ⟨g1.mono hm3, by rw [hE], g3.mono hm3, by rw [hE]⟩ C
  · rw [if_pos (by simp [hz])]
    rw [okE_err (show r2.st.2 ≠ 0 from hz)] at hE
    exact Ctr.ret (m' := m3) (L := []) ((none, 0), [], r2) rfl ⟨escNil _, by rw [hE]; rfl, g3.mono hm3, by rw [hE]⟩ C
/-! ### members -/
theorem c_someM (b : Nat) (r : Rd) (n : Nat) (hn : n ≤ 1000) : Ctr Tryz.prog 141 #[.agg #[.pointer (some ⟨b, 0, none⟩)], .int .i64 (n : Int), .func (.func 95) #[] #[]] (fun m => r.ok m) [rA b r] (fun p : Sl × Rd => slV p.1 (okE (someS prS n r.st)).1.length) (fun p m => MSrc m 2 (slV p.1 (okE (someS prS n r.st)).1.length) (okE (someS prS n r.st)).1.length ((okE (someS prS n r.st)).1.flatMap Pr.row) ∧ (okE (someS prS n r.st)).1.length ≤ p.1.2 ∧ p.2.ok m ∧ p.2.st = (okE (someS prS n r.st)).2) (fun p => [rA b p.2]) := by
  refine Ctr.mk fun w F m C hr => x_someM _ _ w _ fun w1 L2 h1 g1 => ?_
  generalize hT : okE (someS prS n r.st) = T
  replace C := C.hidL h1 g1
  refine ⟨fun q k c i w' L' => ∃ (j : Nat) (r' : Rd) (m' : Mem) (pre : List Pr), i = j ∧ j ≤ n ∧ k = pre.length ∧ pre.length = j ∧ r'.ok m' ∧ (0 < j → r'.e = 0) ∧ okE (pre ++ (someS prS (n - j) r'.st).1, (someS prS (n - j) r'.st).2) = T ∧ Ctx F m w w' L' m' [slA (.slice q pre.length c) pre.length (pre.flatMap Pr.row) 47 2, rA b r'], fun _ _ _ i _ => ((n : Int) - i).toNat, ⟨0, r, m, [], rfl, by omega, rfl, rfl, hr, fun h => absurd h (by omega), hT, C.slNil⟩, ?_⟩
  clear C
  rintro q k c i w9 L10 _ ⟨j, r', m', pre, rfl, hj, rfl, hpl, hr', hj0, he, C⟩
  by_cases hjn : j < n
  rotate_left
  · rw [if_neg (by simp only [decide_eq_true_eq]; omega)]
    have h0 : n - j = 0 := by omega
    simp only [h0, someS, List.append_nil] at he
    have hT1 : T.1 = pre := by
      by_cases hz : r'.e = 0
      · rw [← he, okE_ok (show r'.st.2 = 0 from hz)]
      · have : j = 0 := by
          rcases Nat.eq_zero_or_pos j with h | h
          · exact h
          · exact absurd (hj0 h) hz
        have hp0 : pre = [] := List.eq_nil_of_length_eq_zero (by omega)
        rw [← he, okE_err (show r'.st.2 ≠ 0 from hz), hp0]
    have hT2 : T.2 = r'.st := by rw [← he]; unfold okE; split <;> rfl
    rw [hT1, hT2]
    have hc := C.slCap.1
    obtain ⟨m3, hm3, hs, D⟩ := C.slShare
    exact Ctr.ret (m' := m3) (L := L10) ((q, c), r') rfl ⟨hs, hc, hr'.mono hm3, rfl⟩ D
  rw [if_pos (by simp only [decide_eq_true_eq]; omega)]
  have h1 : n - j = (n - (j + 1)) + 1 := by omega
  refine (c_GetPr b r').call (As := [_]) C.swap hr' fun r2 m2 w12 hk hm2 p2 C => ⟨_, _, rfl, hk, ?_⟩
  rw [h1, okE_step dead_pr _ _ (by rw [← p2.2]; exact rd_canon p2.1), ← p2.2] at he
  generalize (prS r'.st).1 = x at he ⊢
  have D0 := (C.swap.alloc x.row 47).swap
  have hcl : Cells _ ⟨w12.heap.size, 0, none⟩ x.row := (C.swap.alloc x.row 47).blkCells (o := 0) fun k v e => by simpa using e
  obtain ⟨q2, c2, w18, ha, hkk, D2⟩ := Ctx.app2 (P := Tryz.prog) (bytes := 4) (t := 54) (t2 := 54) D0 54 (by kernel_rfl) (.some ⟨w12.heap.size, 0, none⟩ 1 1 x.row rfl hcl) (by unfold maxLen; omega) (by omega) (pr_one _)
  have e1 : (pre ++ [x]).length = pre.length + 1 := by simp
  have e3 : (pre ++ [x]).flatMap Pr.row = pre.flatMap Pr.row ++ x.row := by simp
  have e : IntKind.wrap .i64 ((j : Int) + 1) = ((j + 1 : Nat) : Int) := by rw [w_i64 (by omega) (by omega)]; omega
  rw [← e3, ← e1] at D2
  replace D2 := D2.pk [2, 0] [1] rfl
  refine ⟨q2, _, c2, w18, ha, hkk, ?_⟩
  refine (c_RErr b r2).call (As := [_]) D2 trivial fun _ m3 w20 hk hm3 _ C => ⟨_, rfl, hk, ?_⟩
  by_cases hz : r2.e = 0
  · rw [if_neg (by simp [hz])]
    refine ⟨rfl, ⟨j + 1, r2, m3, pre ++ [x], e, hjn, e1.symm, by rw [e1, hpl], p2.1.mono hm3, fun _ => hz, he, C.swap⟩, ?_⟩
    rw [e]; exact Nat.le_of_eq (by show ((n : Int) - ((j + 1 : Nat) : Int)).toNat + 1 = ((n : Int) - (j : Int)).toNat; omega)
  · rw [if_pos (by simp [hz])]
    have hz' : r2.st.2 ≠ 0 := hz
    rw [some_dead dead_pr _ hz' (rd_canon p2.1 hz'), okE_err hz'] at he
    subst he
    exact Ctr.ret (m' := m3) (L := L10) ((none, 0), r2) rfl ⟨.nil .., Nat.le_refl _, p2.1.mono hm3, rfl⟩ (C.pk [0] [1] rfl)
end Go.Proofs
namespace Go.Proofs
open Go X RowKit
/-! ### messages, as they are read -/
def Mv.z (k : Int) : Mv := ⟨k, 0, 0, 0, 0, 0, 0, 0, 0, I.zero, [], 0, ByteArray.mk #[], 0, 0, [], 0, 0, false, [], [], []⟩
def getL (x : Mv) (c : Int) (s : St) : Mv × St :=
  if c = 103 then ({ x with gr := ((bS s).1.toNat : Nat) }, (bS s).2)
  else if c = 105 then ({ x with id := (idS s).1 }, (idS s).2)
  else if c = 102 then ({ x with fl := ((uS 4294967295 s).1 : Nat) }, (uS 4294967295 s).2)
  else if c = 112 then ({ x with ps := (ptsS s).1 }, (ptsS s).2)
  else if c = 114 then ({ x with rc := (resS s).1.c, rv := (resS s).1.v }, (resS s).2)
  else if c = 118 then ({ x with vg := (vwS s).1.1, vn := (vwS s).1.2.1, vm := (vwS s).1.2.2 }, (vwS s).2)
  else if c = 99 then ({ x with co := ((bS s).1.toNat : Nat) }, (bS s).2)
  else if c = 110 then ({ x with nn := ((uS 4294967295 s).1 : Nat) }, (uS 4294967295 s).2)
  else if c = 97 then ({ x with fr := ((uS 4294967295 s).1 : Nat) }, (uS 4294967295 s).2)
  else if c = 107 then ({ x with cm := ((uS 4294967295 s).1 : Nat) }, (uS 4294967295 s).2)
  else if c = 101 then ({ x with es := (evsS s).1 }, (evsS s).2)
  else if c = 98 then ({ x with ba := ((uS M64n s).1 : Nat) }, (uS M64n s).2)
  else if c = 104 then ({ x with has := (flagS s).1 }, (flagS s).2)
  else if c = 120 then ({ x with ac := ((uS M64n s).1 : Nat) }, (uS M64n s).2)
  else if c = 109 then ({ x with ms := (prsS s).1, ts := (evsS (prsS s).2).1 }, (evsS (prsS s).2).2)
  else if c = 115 then ({ x with pn := ((procS s).1.1.toNat : Nat), pl := ((procS s).1.2 : Nat) }, (procS s).2)
  else (x, s)
def foldG : List UInt8 → Mv → St → Mv × St
  | [], x, s => (x, s)
  | c :: l, x, s => foldG l (getL x ((c.toNat : Nat) : Int) s).1 (getL x ((c.toNat : Nat) : Int) s).2
def msgH (a : Mv × St) (k : Int) : Mv × St := if k = 8 ∧ a.1.has = true then foldG [120, 109] a.1 a.2 else a
def msgG (k : Int) (s : St) : Mv × St := msgH (foldG (fldS k) (Mv.z k) s) k
section
variable {F0 : List Nat} {m0 m : Mem} {w0 w : World} {L : List Nat} {b bm : Nat} {r : Rd} {x : Mg}
theorem mgPut (C : Ctx F0 m0 w0 w L m [rA b r, blk bm x.row 59]) (o : Nat) (vs : List Value) (h : o + vs.length ≤ 31) (y : Mg) (e : splice x.row o vs = y.row) : Ctx F0 m0 w0 (w.setCells bm o vs) L m [rA b r, blk bm y.row 59] := by
  have := (C.swap.store o vs h).swap
  rw [e] at this; exact this
theorem mgThere (C : Ctx F0 m0 w0 w L m [rA b r, blk bm x.row 59]) (o n : Nat) (h : o + n ≤ 31) : World.there w bm o n := C.swap.there o n h
theorem mgNot (C : Ctx F0 m0 w0 w L m [rA b r, blk bm x.row 59]) : bm ∉ L := C.swap.blkAt.2
end
theorem c_rdword (b : Nat) (r : Rd) : Ctr Tryz.prog 86 #[.agg #[.pointer (some ⟨b, 0, none⟩)]] (fun m => r.ok m) [rA b r] (fun _ : Rd => .int .u32 ((uS 4294967295 r.st).1 : Int)) (fun r' m => r'.ok m ∧ r'.st = (uS 4294967295 r.st).2) (fun r' => [rA b r']) := by
  refine Ctr.mk fun w F m C hr => x_rdword _ w _ fun w1 L2 h1 g1 => ?_
  have hlt := uS_lt 4294967295 r.st (by decide)
  exact (c_RU b r 4294967295 (by decide)).call (As := []) (C.hidL h1 g1) hr fun r1 m2 w4 hk hm h1 C => ⟨_, rfl, hk, Ctr.ret (m' := m2) (L := L2) r1 (by rw [w_u32 (by omega) (by omega)]) h1 C⟩
def rndS (s : St) : St := (uS M64n (uS 4294967295 (bS s).2).2).2
def Mg.rnd (x : Mg) (s : St) : Mg := { x with gr := ((bS s).1.toNat : Nat), nn := ((uS 4294967295 (bS s).2).1 : Nat), ba := ((uS M64n (uS 4294967295 (bS s).2).2).1 : Nat) }
theorem c_rdround (b bm : Nat) (r : Rd) (x : Mg) : Ctr Tryz.prog 91 #[.agg #[.pointer (some ⟨b, 0, none⟩)], .pointer (some ⟨bm, 0, none⟩)] (fun m => r.ok m) [rA b r, blk bm x.row 59] (fun _ : Rd => .tuple #[]) (fun r' m => r'.ok m ∧ r'.st = rndS r.st) (fun r' => [rA b r', blk bm (x.rnd r.st).row 59]) := by
  refine Ctr.mk fun w F m C hr => x_rdround _ _ w _ ⟨[], facts_nil _ _, fun w2 L3 h2 g2 => ?_⟩
  refine (c_RB b r).call (As := [_]) (C.hidL h2 g2) hr fun r1 m1 w5 hk hm1 p1 C => ⟨_, rfl, hk, facts_nil _ _, ?_⟩
  refine (c_rdword b r1).call (As := [_]) C p1.1 fun r2 m2 w8 hk hm2 p2 C => ⟨_, rfl, hk, facts_nil _ _, ?_⟩
  refine (c_rdwide b r2).call (As := [_]) C p2.1 fun r3 m3 w11 hk hm3 p3 C => ⟨_, rfl, hk, facts_nil _ _, rfl, ?_⟩
  replace C : Ctx F m w w11 L3 m3 [rA b r3, blk bm x.row 59] := C
  have C1 := mgPut C 1 [.int .u8 ((bS r.st).1.toNat : Int)] (Nat.le_of_ble_eq_true rfl) { x with gr := ((bS r.st).1.toNat : Nat) } rfl
  have C2 := mgPut C1 3 [.int .u32 ((uS 4294967295 r1.st).1 : Int)] (Nat.le_of_ble_eq_true rfl) { x with gr := ((bS r.st).1.toNat : Nat), nn := ((uS 4294967295 r1.st).1 : Nat) } rfl
  have C3 := mgPut C2 7 [.int .u64 ((uS M64n r2.st).1 : Int)] (Nat.le_of_ble_eq_true rfl) { x with gr := ((bS r.st).1.toNat : Nat), nn := ((uS 4294967295 r1.st).1 : Nat), ba := ((uS M64n r2.st).1 : Nat) } rfl
  refine ⟨mgThere C 1 1 (by decide), mgNot C, facts_nil _ _, rfl, mgThere C1 3 1 (by decide), mgNot C1, facts_nil _ _, rfl, mgThere C2 7 1 (by decide), mgNot C2, ?_⟩
  refine Ctr.ret (m' := m3) (L := L3) r3 rfl ⟨p3.1, by rw [rndS, ← p1.2, ← p2.2]; exact p3.2⟩ ?_
  rw [Mg.rnd, ← p1.2, ← p2.2]; exact C3
structure ValM (m : Mem) (s : St) (p : Sl × Sl × List En × Rd) : Prop where
  mm : MSrc m 2 (slV p.1 (prsS s).1.length) (prsS s).1.length ((prsS s).1.flatMap Pr.row)
  mc : (prsS s).1.length ≤ p.1.2
  t : EsC m p.2.1 p.2.2.1
  e : p.2.2.1.map En.er = (evsS (prsS s).2).1
  ok : p.2.2.2.ok m
  st : p.2.2.2.st = (evsS (prsS s).2).2
theorem c_rdvalue (b bm : Nat) (r : Rd) (x : Mg) : Ctr Tryz.prog 94 #[.agg #[.pointer (some ⟨b, 0, none⟩)], .pointer (some ⟨bm, 0, none⟩)] (fun m => r.ok m) [rA b r, blk bm x.row 59] (fun _ : Sl × Sl × List En × Rd => .tuple #[]) (fun p m => ValM m r.st p) (fun p => [rA b p.2.2.2, blk bm (Mg.row { x with mq := p.1, ms := (prsS r.st).1, tq := p.2.1, ts := p.2.2.1 }) 59]) := by
  refine Ctr.mk fun w F m C hr => x_rdvalue _ _ w _ ⟨[], facts_nil _ _, fun w2 L3 h2 g2 => ?_⟩
  refine (c_RB b r).call (As := [_]) (C.hidL h2 g2) hr fun r1 m1 w5 hk hm1 p1 C => ⟨_, rfl, hk, facts_nil _ _, ?_⟩
  have hlt := bS_lt r.st
  rw [w_i64 (by omega) (by omega)]
  refine (c_someM b r1 (bS r.st).1.toNat (by omega)).call (As := [_]) C p1.1 fun p m2 w8 hk hm2 p2 C => ⟨_, _, _, rfl, hk, facts_nil _ _, rfl, ?_⟩
  obtain ⟨q, r2⟩ := p
  have hp : okE (someS prS (bS r.st).1.toNat r1.st) = prsS r.st := by rw [prsS, p1.2]
  rw [hp] at p2 ⊢
  replace C : Ctx F m w w8 L3 m2 [rA b r2, blk bm x.row 59] := C
  have C1 := mgPut C 28 [slV q (prsS r.st).1.length] (Nat.le_of_ble_eq_true rfl) { x with mq := q, ms := (prsS r.st).1 } rfl
  refine ⟨mgThere C 28 1 (by decide), mgNot C, ?_⟩
  refine (c_eGetAll b r2).call (As := [_]) C1 p2.2.2.1 fun p m3 w13 hk hm3 p3 C => ⟨_, _, _, rfl, hk, rfl, ?_⟩
  obtain ⟨tq, ts, r3⟩ := p
  replace C : Ctx F m w w13 L3 m3 [rA b r3, blk bm (Mg.row { x with mq := q, ms := (prsS r.st).1 }) 59] := C
  have C2 := mgPut C 30 [slV tq ts.length] (Nat.le_of_ble_eq_true rfl) { x with mq := q, ms := (prsS r.st).1, tq := tq, ts := ts } rfl
  refine ⟨mgThere C 30 1 (by decide), mgNot C, ?_⟩
  have hst : r2.st = (prsS r.st).2 := p2.2.2.2
  rw [hst] at p3
  exact Ctr.ret (m' := m3) (L := L3) (q, tq, ts, r3) rfl ⟨p2.1.mono hm3, p2.2.1, p3.1, p3.2.1, p3.2.2.1, p3.2.2.2⟩ C2
theorem es_len {m : Mem} {q : Sl} {l : List En} {s : St} (h : l.map En.er = (evsS s).1) : l.length ≤ 100000 := by
  have h1 := evsS_len s
  have h2 := congrArg List.length h
  rw [List.length_map] at h2
  omega
abbrev RdM (b bm : Nat) (r : Rd) (k : Int) : Prop := Ctr Tryz.prog 36 #[.agg #[.pointer (some ⟨b, 0, none⟩)], .pointer (some ⟨bm, 0, none⟩)] (fun m => r.ok m) [rA b r, blk bm (Mg.z k).row 59] (fun _ : Mg × Rd => .bool (decide (k ≤ 13))) (fun p m => MgM m p.1 ∧ MgC p.1 ∧ p.1.er = (msgG k r.st).1 ∧ p.2.ok m ∧ p.2.st = (msgG k r.st).2) (fun p => [rA b p.2, blk bm p.1.row 59])
theorem vwS_len (s : St) : (vwS s).1.2.2.length ≤ 255 := by
  have h := prsS_len (uS 4294967295 (bS s).2).2
  simp only [vwS]
  split
  · exact Nat.zero_le _
  · exact h
theorem c_rdmsg_0 (b bm : Nat) (r : Rd) : RdM b bm r 0 := by
  refine Ctr.mk fun w F m C hr => x_rdmsg _ _ w _ ⟨0, C.swap.blkCell (j := 0) rfl, ?_⟩
  repeat (first | rw [if_pos (by decide)] | rw [if_neg (by decide)])
  intro wa La ha ga
  replace C := C.hidL ha ga
  refine (c_RB b r).call (As := [_]) C hr fun r1 m1 w1 hk hm1 p1 C => ⟨_, rfl, hk, rfl, ?_⟩
  replace C : Ctx F m w w1 La m1 [rA b r1, blk bm (⟨0, 0, 0, 0, 0, 0, 0, 0, 0, I.zero, (none, 0), [], 0, ByteArray.mk #[], 0, 0, (none, 0), [], 0, 0, false, (none, 0), [], (none, 0), [], (none, 0), []⟩ : Mg).row 59] := C
  have C1 := mgPut C 1 [.int .u8 (((bS r.st).1.toNat : Nat) : Int)] (Nat.le_of_ble_eq_true rfl) (⟨0, (((bS r.st).1.toNat : Nat) : Int), 0, 0, 0, 0, 0, 0, 0, I.zero, (none, 0), [], 0, ByteArray.mk #[], 0, 0, (none, 0), [], 0, 0, false, (none, 0), [], (none, 0), [], (none, 0), []⟩ : Mg) rfl
  refine ⟨mgThere C 1 1 (by decide), mgNot C, ?_⟩
  replace C := C1; clear C1
  refine (c_GetID b r1).call (As := [_]) C p1.1 fun r2 m2 w2 hk hm2 p2 C => ⟨_, _, _, _, _, _, _, _, _, _, rfl, hk, rfl, ?_⟩
  replace C : Ctx F m w w2 La m2 [rA b r2, blk bm (⟨0, (((bS r.st).1.toNat : Nat) : Int), 0, 0, 0, 0, 0, 0, 0, I.zero, (none, 0), [], 0, ByteArray.mk #[], 0, 0, (none, 0), [], 0, 0, false, (none, 0), [], (none, 0), [], (none, 0), []⟩ : Mg).row 59] := C
  have C1 := mgPut C 9 (I.row (idS r1.st).1) (Nat.le_of_ble_eq_true rfl) (⟨0, (((bS r.st).1.toNat : Nat) : Int), 0, 0, 0, 0, 0, 0, 0, (idS r1.st).1, (none, 0), [], 0, ByteArray.mk #[], 0, 0, (none, 0), [], 0, 0, false, (none, 0), [], (none, 0), [], (none, 0), []⟩ : Mg) rfl
  refine ⟨mgThere C 9 10 (by decide), mgNot C, ?_⟩
  replace C := C1; clear C1
  refine (c_rdword b r2).call (As := [_]) C p2.1 fun r3 m3 w3 hk hm3 p3 C => ⟨_, rfl, hk, rfl, ?_⟩
  replace C : Ctx F m w w3 La m3 [rA b r3, blk bm (⟨0, (((bS r.st).1.toNat : Nat) : Int), 0, 0, 0, 0, 0, 0, 0, (idS r1.st).1, (none, 0), [], 0, ByteArray.mk #[], 0, 0, (none, 0), [], 0, 0, false, (none, 0), [], (none, 0), [], (none, 0), []⟩ : Mg).row 59] := C
  have C1 := mgPut C 6 [.int .u32 (((uS 4294967295 r2.st).1 : Nat) : Int)] (Nat.le_of_ble_eq_true rfl) (⟨0, (((bS r.st).1.toNat : Nat) : Int), 0, 0, 0, 0, (((uS 4294967295 r2.st).1 : Nat) : Int), 0, 0, (idS r1.st).1, (none, 0), [], 0, ByteArray.mk #[], 0, 0, (none, 0), [], 0, 0, false, (none, 0), [], (none, 0), [], (none, 0), []⟩ : Mg) rfl
  refine ⟨mgThere C 6 1 (by decide), mgNot C, ?_⟩
  replace C := C1; clear C1
  refine (c_pGetAll b r3).call (As := [_]) C p3.1 fun p m4 w4 hk hm4 p4 C => ⟨_, _, _, rfl, hk, rfl, ?_⟩
  obtain ⟨pq, rp⟩ := p
  obtain ⟨pM, pC, pO, pS⟩ := p4
  replace C : Ctx F m w w4 La m4 [rA b rp, blk bm (⟨0, (((bS r.st).1.toNat : Nat) : Int), 0, 0, 0, 0, (((uS 4294967295 r2.st).1 : Nat) : Int), 0, 0, (idS r1.st).1, (none, 0), [], 0, ByteArray.mk #[], 0, 0, (none, 0), [], 0, 0, false, (none, 0), [], (none, 0), [], (none, 0), []⟩ : Mg).row 59] := C
  have C1 := mgPut C 19 [slV pq (ptsS r3.st).1.length] (Nat.le_of_ble_eq_true rfl) (⟨0, (((bS r.st).1.toNat : Nat) : Int), 0, 0, 0, 0, (((uS 4294967295 r2.st).1 : Nat) : Int), 0, 0, (idS r1.st).1, pq, (ptsS r3.st).1, 0, ByteArray.mk #[], 0, 0, (none, 0), [], 0, 0, false, (none, 0), [], (none, 0), [], (none, 0), []⟩ : Mg) rfl
  refine ⟨mgThere C 19 1 (by decide), mgNot C, ?_⟩
  replace C := C1; clear C1
  have pl := ptsS_len r3.st
  have hM : ((⟨0, (((bS r.st).1.toNat : Nat) : Int), 0, 0, 0, 0, (((uS 4294967295 r2.st).1 : Nat) : Int), 0, 0, (idS r1.st).1, pq, (ptsS r3.st).1, 0, ByteArray.mk #[], 0, 0, (none, 0), [], 0, 0, false, (none, 0), [], (none, 0), [], (none, 0), []⟩ : Mg).er, rp.st) = msgG 0 r.st := by
    simp only [Mg.er]
    rw [pS, p3.2, p2.2, p1.2]
    rfl
  refine Ctr.ret (m' := m4) (L := La) ((⟨0, (((bS r.st).1.toNat : Nat) : Int), 0, 0, 0, 0, (((uS 4294967295 r2.st).1 : Nat) : Int), 0, 0, (idS r1.st).1, pq, (ptsS r3.st).1, 0, ByteArray.mk #[], 0, 0, (none, 0), [], 0, 0, false, (none, 0), [], (none, 0), [], (none, 0), []⟩ : Mg), rp) rfl ⟨⟨pM, .nil .., .nil .., esNil _, esNil _, Nat.le_trans pl (by decide), Nat.zero_le _, Nat.zero_le _, Nat.zero_le _, Nat.zero_le _⟩, ⟨pC, Nat.le_refl _, Nat.le_refl _, (fun _ h => nomatch h), (fun _ h => nomatch h)⟩, ?_, pO, ?_⟩ C
  · rw [← hM]
  · rw [← hM]
theorem c_rdmsg_1 (b bm : Nat) (r : Rd) : RdM b bm r 1 := by
  refine Ctr.mk fun w F m C hr => x_rdmsg _ _ w _ ⟨1, C.swap.blkCell (j := 0) rfl, ?_⟩
  repeat (first | rw [if_pos (by decide)] | rw [if_neg (by decide)])
  intro wa La ha ga
  replace C := C.hidL ha ga
  refine (c_GetID b r).call (As := [_]) C hr fun r1 m1 w1 hk hm1 p1 C => ⟨_, _, _, _, _, _, _, _, _, _, rfl, hk, rfl, ?_⟩
  replace C : Ctx F m w w1 La m1 [rA b r1, blk bm (⟨1, 0, 0, 0, 0, 0, 0, 0, 0, I.zero, (none, 0), [], 0, ByteArray.mk #[], 0, 0, (none, 0), [], 0, 0, false, (none, 0), [], (none, 0), [], (none, 0), []⟩ : Mg).row 59] := C
  have C1 := mgPut C 9 (I.row (idS r.st).1) (Nat.le_of_ble_eq_true rfl) (⟨1, 0, 0, 0, 0, 0, 0, 0, 0, (idS r.st).1, (none, 0), [], 0, ByteArray.mk #[], 0, 0, (none, 0), [], 0, 0, false, (none, 0), [], (none, 0), [], (none, 0), []⟩ : Mg) rfl
  refine ⟨mgThere C 9 10 (by decide), mgNot C, ?_⟩
  replace C := C1; clear C1
  refine (c_GetRes b r1).call (As := [_]) C p1.1 fun r2 m2 w2 hk hm2 p2 C => ⟨_, _, rfl, hk, rfl, ?_⟩
  replace C : Ctx F m w w2 La m2 [rA b r2, blk bm (⟨1, 0, 0, 0, 0, 0, 0, 0, 0, (idS r.st).1, (none, 0), [], 0, ByteArray.mk #[], 0, 0, (none, 0), [], 0, 0, false, (none, 0), [], (none, 0), [], (none, 0), []⟩ : Mg).row 59] := C
  have C1 := mgPut C 20 [.int .u8 (resS r1.st).1.c, .string (resS r1.st).1.v] (Nat.le_of_ble_eq_true rfl) (⟨1, 0, 0, 0, 0, 0, 0, 0, 0, (idS r.st).1, (none, 0), [], (resS r1.st).1.c, (resS r1.st).1.v, 0, 0, (none, 0), [], 0, 0, false, (none, 0), [], (none, 0), [], (none, 0), []⟩ : Mg) rfl
  refine ⟨mgThere C 20 2 (by decide), mgNot C, ?_⟩
  replace C := C1; clear C1
  refine (c_vGet b r2).call (As := [_]) C p2.1 fun p m3 w3 hk hm3 p3 C => ⟨_, _, _, _, _, rfl, hk, rfl, ?_⟩
  obtain ⟨vq, rv⟩ := p
  obtain ⟨vM, vC, vO, vS⟩ := p3
  replace C : Ctx F m w w3 La m3 [rA b rv, blk bm (⟨1, 0, 0, 0, 0, 0, 0, 0, 0, (idS r.st).1, (none, 0), [], (resS r1.st).1.c, (resS r1.st).1.v, 0, 0, (none, 0), [], 0, 0, false, (none, 0), [], (none, 0), [], (none, 0), []⟩ : Mg).row 59] := C
  have vl : (vwS r2.st).1.2.2.length ≤ 255 := vwS_len r2.st
  have C1 := mgPut C 22 (Vw.row ⟨(vwS r2.st).1.1, (vwS r2.st).1.2.1, vq, (vwS r2.st).1.2.2⟩) (Nat.le_of_ble_eq_true rfl) (⟨1, 0, 0, 0, 0, 0, 0, 0, 0, (idS r.st).1, (none, 0), [], (resS r1.st).1.c, (resS r1.st).1.v, (vwS r2.st).1.1, (vwS r2.st).1.2.1, vq, (vwS r2.st).1.2.2, 0, 0, false, (none, 0), [], (none, 0), [], (none, 0), []⟩ : Mg) rfl
  refine ⟨mgThere C 22 3 (by decide), mgNot C, ?_⟩
  replace C := C1; clear C1
  have hM : ((⟨1, 0, 0, 0, 0, 0, 0, 0, 0, (idS r.st).1, (none, 0), [], (resS r1.st).1.c, (resS r1.st).1.v, (vwS r2.st).1.1, (vwS r2.st).1.2.1, vq, (vwS r2.st).1.2.2, 0, 0, false, (none, 0), [], (none, 0), [], (none, 0), []⟩ : Mg).er, rv.st) = msgG 1 r.st := by
    simp only [Mg.er]
    rw [vS, p2.2, p1.2]
    rfl
  refine Ctr.ret (m' := m3) (L := La) ((⟨1, 0, 0, 0, 0, 0, 0, 0, 0, (idS r.st).1, (none, 0), [], (resS r1.st).1.c, (resS r1.st).1.v, (vwS r2.st).1.1, (vwS r2.st).1.2.1, vq, (vwS r2.st).1.2.2, 0, 0, false, (none, 0), [], (none, 0), [], (none, 0), []⟩ : Mg), rv) rfl ⟨⟨.nil .., vM, .nil .., esNil _, esNil _, Nat.zero_le _, Nat.le_trans vl (by decide), Nat.zero_le _, Nat.zero_le _, Nat.zero_le _⟩, ⟨Nat.le_refl _, vC, Nat.le_refl _, (fun _ h => nomatch h), (fun _ h => nomatch h)⟩, ?_, vO, ?_⟩ C
  · rw [← hM]
  · rw [← hM]
theorem c_rdmsg_2 (b bm : Nat) (r : Rd) : RdM b bm r 2 := by
  refine Ctr.mk fun w F m C hr => x_rdmsg _ _ w _ ⟨2, C.swap.blkCell (j := 0) rfl, ?_⟩
  repeat (first | rw [if_pos (by decide)] | rw [if_neg (by decide)])
  intro wa La ha ga
  replace C := C.hidL ha ga
  refine (c_GetID b r).call (As := [_]) C hr fun r1 m1 w1 hk hm1 p1 C => ⟨_, _, _, _, _, _, _, _, _, _, rfl, hk, rfl, ?_⟩
  replace C : Ctx F m w w1 La m1 [rA b r1, blk bm (⟨2, 0, 0, 0, 0, 0, 0, 0, 0, I.zero, (none, 0), [], 0, ByteArray.mk #[], 0, 0, (none, 0), [], 0, 0, false, (none, 0), [], (none, 0), [], (none, 0), []⟩ : Mg).row 59] := C
  have C1 := mgPut C 9 (I.row (idS r.st).1) (Nat.le_of_ble_eq_true rfl) (⟨2, 0, 0, 0, 0, 0, 0, 0, 0, (idS r.st).1, (none, 0), [], 0, ByteArray.mk #[], 0, 0, (none, 0), [], 0, 0, false, (none, 0), [], (none, 0), [], (none, 0), []⟩ : Mg) rfl
  refine ⟨mgThere C 9 10 (by decide), mgNot C, ?_⟩
  replace C := C1; clear C1
  refine (c_RB b r1).call (As := [_]) C p1.1 fun r2 m2 w2 hk hm2 p2 C => ⟨_, rfl, hk, rfl, ?_⟩
  replace C : Ctx F m w w2 La m2 [rA b r2, blk bm (⟨2, 0, 0, 0, 0, 0, 0, 0, 0, (idS r.st).1, (none, 0), [], 0, ByteArray.mk #[], 0, 0, (none, 0), [], 0, 0, false, (none, 0), [], (none, 0), [], (none, 0), []⟩ : Mg).row 59] := C
  have C1 := mgPut C 2 [.int .u8 (((bS r1.st).1.toNat : Nat) : Int)] (Nat.le_of_ble_eq_true rfl) (⟨2, 0, (((bS r1.st).1.toNat : Nat) : Int), 0, 0, 0, 0, 0, 0, (idS r.st).1, (none, 0), [], 0, ByteArray.mk #[], 0, 0, (none, 0), [], 0, 0, false, (none, 0), [], (none, 0), [], (none, 0), []⟩ : Mg) rfl
  refine ⟨mgThere C 2 1 (by decide), mgNot C, ?_⟩
  replace C := C1; clear C1
  have hM : ((⟨2, 0, (((bS r1.st).1.toNat : Nat) : Int), 0, 0, 0, 0, 0, 0, (idS r.st).1, (none, 0), [], 0, ByteArray.mk #[], 0, 0, (none, 0), [], 0, 0, false, (none, 0), [], (none, 0), [], (none, 0), []⟩ : Mg).er, r2.st) = msgG 2 r.st := by
    simp only [Mg.er]
    rw [p2.2, p1.2]
    rfl
  refine Ctr.ret (m' := m2) (L := La) ((⟨2, 0, (((bS r1.st).1.toNat : Nat) : Int), 0, 0, 0, 0, 0, 0, (idS r.st).1, (none, 0), [], 0, ByteArray.mk #[], 0, 0, (none, 0), [], 0, 0, false, (none, 0), [], (none, 0), [], (none, 0), []⟩ : Mg), r2) rfl ⟨⟨.nil .., .nil .., .nil .., esNil _, esNil _, Nat.zero_le _, Nat.zero_le _, Nat.zero_le _, Nat.zero_le _, Nat.zero_le _⟩, ⟨Nat.le_refl _, Nat.le_refl _, Nat.le_refl _, (fun _ h => nomatch h), (fun _ h => nomatch h)⟩, ?_, p2.1, ?_⟩ C
  · rw [← hM]
  · rw [← hM]
theorem c_rdmsg_3 (b bm : Nat) (r : Rd) : RdM b bm r 3 := by
  refine Ctr.mk fun w F m C hr => x_rdmsg _ _ w _ ⟨3, C.swap.blkCell (j := 0) rfl, ?_⟩
  repeat (first | rw [if_pos (by decide)] | rw [if_neg (by decide)])
  refine ⟨[], facts_nil _ _, fun wa La ha ga => ?_⟩
  replace C := C.hidL ha ga
  refine (c_RB b r).call (As := [_]) C hr fun r1 m1 w1 hk hm1 p1 C => ⟨_, rfl, hk, facts_nil _ _, ?_⟩
  refine (c_rdword b r1).call (As := [_]) C p1.1 fun r2 m2 w2 hk hm2 p2 C => ⟨_, rfl, hk, facts_nil _ _, ?_⟩
  refine (c_rdword b r2).call (As := [_]) C p2.1 fun r3 m3 w3 hk hm3 p3 C => ⟨_, rfl, hk, facts_nil _ _, rfl, ?_⟩
  replace C : Ctx F m w w3 La m3 [rA b r3, blk bm (⟨3, 0, 0, 0, 0, 0, 0, 0, 0, I.zero, (none, 0), [], 0, ByteArray.mk #[], 0, 0, (none, 0), [], 0, 0, false, (none, 0), [], (none, 0), [], (none, 0), []⟩ : Mg).row 59] := C
  have C1 := mgPut C 1 [.int .u8 (((bS r.st).1.toNat : Nat) : Int)] (Nat.le_of_ble_eq_true rfl) (⟨3, (((bS r.st).1.toNat : Nat) : Int), 0, 0, 0, 0, 0, 0, 0, I.zero, (none, 0), [], 0, ByteArray.mk #[], 0, 0, (none, 0), [], 0, 0, false, (none, 0), [], (none, 0), [], (none, 0), []⟩ : Mg) rfl
  refine ⟨mgThere C 1 1 (by decide), mgNot C, facts_nil _ _, rfl, ?_⟩
  replace C := C1; clear C1
  have C1 := mgPut C 3 [.int .u32 (((uS 4294967295 r1.st).1 : Nat) : Int)] (Nat.le_of_ble_eq_true rfl) (⟨3, (((bS r.st).1.toNat : Nat) : Int), 0, (((uS 4294967295 r1.st).1 : Nat) : Int), 0, 0, 0, 0, 0, I.zero, (none, 0), [], 0, ByteArray.mk #[], 0, 0, (none, 0), [], 0, 0, false, (none, 0), [], (none, 0), [], (none, 0), []⟩ : Mg) rfl
  refine ⟨mgThere C 3 1 (by decide), mgNot C, facts_nil _ _, rfl, ?_⟩
  replace C := C1; clear C1
  have C1 := mgPut C 4 [.int .u32 (((uS 4294967295 r2.st).1 : Nat) : Int)] (Nat.le_of_ble_eq_true rfl) (⟨3, (((bS r.st).1.toNat : Nat) : Int), 0, (((uS 4294967295 r1.st).1 : Nat) : Int), (((uS 4294967295 r2.st).1 : Nat) : Int), 0, 0, 0, 0, I.zero, (none, 0), [], 0, ByteArray.mk #[], 0, 0, (none, 0), [], 0, 0, false, (none, 0), [], (none, 0), [], (none, 0), []⟩ : Mg) rfl
  refine ⟨mgThere C 4 1 (by decide), mgNot C, ?_⟩
  replace C := C1; clear C1
  refine ⟨3, C.swap.blkCell (j := 0) rfl, mgNot C, ?_⟩
  repeat (first | rw [if_pos (by decide)] | rw [if_neg (by decide)])
  refine (c_rdword b r3).call (As := [_]) C p3.1 fun r4 m4 w4 hk hm4 p4 C => ⟨_, rfl, hk, rfl, ?_⟩
  replace C : Ctx F m w w4 La m4 [rA b r4, blk bm (⟨3, (((bS r.st).1.toNat : Nat) : Int), 0, (((uS 4294967295 r1.st).1 : Nat) : Int), (((uS 4294967295 r2.st).1 : Nat) : Int), 0, 0, 0, 0, I.zero, (none, 0), [], 0, ByteArray.mk #[], 0, 0, (none, 0), [], 0, 0, false, (none, 0), [], (none, 0), [], (none, 0), []⟩ : Mg).row 59] := C
  have C1 := mgPut C 5 [.int .u32 (((uS 4294967295 r3.st).1 : Nat) : Int)] (Nat.le_of_ble_eq_true rfl) (⟨3, (((bS r.st).1.toNat : Nat) : Int), 0, (((uS 4294967295 r1.st).1 : Nat) : Int), (((uS 4294967295 r2.st).1 : Nat) : Int), (((uS 4294967295 r3.st).1 : Nat) : Int), 0, 0, 0, I.zero, (none, 0), [], 0, ByteArray.mk #[], 0, 0, (none, 0), [], 0, 0, false, (none, 0), [], (none, 0), [], (none, 0), []⟩ : Mg) rfl
  refine ⟨mgThere C 5 1 (by decide), mgNot C, ?_⟩
  replace C := C1; clear C1
  refine (c_eGetAll b r4).call (As := [_]) C p4.1 fun p m5 w5 hk hm5 p5 C => ⟨_, _, _, rfl, hk, rfl, ?_⟩
  obtain ⟨eq, es, re⟩ := p
  obtain ⟨eM, eE, eO, eS⟩ := p5
  replace C : Ctx F m w w5 La m5 [rA b re, blk bm (⟨3, (((bS r.st).1.toNat : Nat) : Int), 0, (((uS 4294967295 r1.st).1 : Nat) : Int), (((uS 4294967295 r2.st).1 : Nat) : Int), (((uS 4294967295 r3.st).1 : Nat) : Int), 0, 0, 0, I.zero, (none, 0), [], 0, ByteArray.mk #[], 0, 0, (none, 0), [], 0, 0, false, (none, 0), [], (none, 0), [], (none, 0), []⟩ : Mg).row 59] := C
  have C1 := mgPut C 29 [slV eq es.length] (Nat.le_of_ble_eq_true rfl) (⟨3, (((bS r.st).1.toNat : Nat) : Int), 0, (((uS 4294967295 r1.st).1 : Nat) : Int), (((uS 4294967295 r2.st).1 : Nat) : Int), (((uS 4294967295 r3.st).1 : Nat) : Int), 0, 0, 0, I.zero, (none, 0), [], 0, ByteArray.mk #[], 0, 0, (none, 0), [], 0, 0, false, (none, 0), [], eq, es, (none, 0), []⟩ : Mg) rfl
  refine ⟨mgThere C 29 1 (by decide), mgNot C, ?_⟩
  replace C := C1; clear C1
  have el := es_len (m := m) (q := eq) eE
  have hM : ((⟨3, (((bS r.st).1.toNat : Nat) : Int), 0, (((uS 4294967295 r1.st).1 : Nat) : Int), (((uS 4294967295 r2.st).1 : Nat) : Int), (((uS 4294967295 r3.st).1 : Nat) : Int), 0, 0, 0, I.zero, (none, 0), [], 0, ByteArray.mk #[], 0, 0, (none, 0), [], 0, 0, false, (none, 0), [], eq, es, (none, 0), []⟩ : Mg).er, re.st) = msgG 3 r.st := by
    simp only [Mg.er]
    rw [eE, eS, p4.2, p3.2, p2.2, p1.2]
    rfl
  refine Ctr.ret (m' := m5) (L := La) ((⟨3, (((bS r.st).1.toNat : Nat) : Int), 0, (((uS 4294967295 r1.st).1 : Nat) : Int), (((uS 4294967295 r2.st).1 : Nat) : Int), (((uS 4294967295 r3.st).1 : Nat) : Int), 0, 0, 0, I.zero, (none, 0), [], 0, ByteArray.mk #[], 0, 0, (none, 0), [], 0, 0, false, (none, 0), [], eq, es, (none, 0), []⟩ : Mg), re) rfl ⟨⟨.nil .., .nil .., .nil .., eM.1, esNil _, Nat.zero_le _, Nat.zero_le _, Nat.zero_le _, el, Nat.zero_le _⟩, ⟨Nat.le_refl _, Nat.le_refl _, Nat.le_refl _, eM.2, (fun _ h => nomatch h)⟩, ?_, eO, ?_⟩ C
  · rw [← hM]
  · rw [← hM]
theorem c_rdmsg_4 (b bm : Nat) (r : Rd) : RdM b bm r 4 := by
  refine Ctr.mk fun w F m C hr => x_rdmsg _ _ w _ ⟨4, C.swap.blkCell (j := 0) rfl, ?_⟩
  repeat (first | rw [if_pos (by decide)] | rw [if_neg (by decide)])
  refine ⟨[], facts_nil _ _, fun wa La ha ga => ?_⟩
  replace C := C.hidL ha ga
  refine (c_RB b r).call (As := [_]) C hr fun r1 m1 w1 hk hm1 p1 C => ⟨_, rfl, hk, facts_nil _ _, ?_⟩
  refine (c_rdword b r1).call (As := [_]) C p1.1 fun r2 m2 w2 hk hm2 p2 C => ⟨_, rfl, hk, facts_nil _ _, ?_⟩
  refine (c_rdword b r2).call (As := [_]) C p2.1 fun r3 m3 w3 hk hm3 p3 C => ⟨_, rfl, hk, facts_nil _ _, rfl, ?_⟩
  replace C : Ctx F m w w3 La m3 [rA b r3, blk bm (⟨4, 0, 0, 0, 0, 0, 0, 0, 0, I.zero, (none, 0), [], 0, ByteArray.mk #[], 0, 0, (none, 0), [], 0, 0, false, (none, 0), [], (none, 0), [], (none, 0), []⟩ : Mg).row 59] := C
  have C1 := mgPut C 1 [.int .u8 (((bS r.st).1.toNat : Nat) : Int)] (Nat.le_of_ble_eq_true rfl) (⟨4, (((bS r.st).1.toNat : Nat) : Int), 0, 0, 0, 0, 0, 0, 0, I.zero, (none, 0), [], 0, ByteArray.mk #[], 0, 0, (none, 0), [], 0, 0, false, (none, 0), [], (none, 0), [], (none, 0), []⟩ : Mg) rfl
  refine ⟨mgThere C 1 1 (by decide), mgNot C, facts_nil _ _, rfl, ?_⟩
  replace C := C1; clear C1
  have C1 := mgPut C 3 [.int .u32 (((uS 4294967295 r1.st).1 : Nat) : Int)] (Nat.le_of_ble_eq_true rfl) (⟨4, (((bS r.st).1.toNat : Nat) : Int), 0, (((uS 4294967295 r1.st).1 : Nat) : Int), 0, 0, 0, 0, 0, I.zero, (none, 0), [], 0, ByteArray.mk #[], 0, 0, (none, 0), [], 0, 0, false, (none, 0), [], (none, 0), [], (none, 0), []⟩ : Mg) rfl
  refine ⟨mgThere C 3 1 (by decide), mgNot C, facts_nil _ _, rfl, ?_⟩
  replace C := C1; clear C1
  have C1 := mgPut C 4 [.int .u32 (((uS 4294967295 r2.st).1 : Nat) : Int)] (Nat.le_of_ble_eq_true rfl) (⟨4, (((bS r.st).1.toNat : Nat) : Int), 0, (((uS 4294967295 r1.st).1 : Nat) : Int), (((uS 4294967295 r2.st).1 : Nat) : Int), 0, 0, 0, 0, I.zero, (none, 0), [], 0, ByteArray.mk #[], 0, 0, (none, 0), [], 0, 0, false, (none, 0), [], (none, 0), [], (none, 0), []⟩ : Mg) rfl
  refine ⟨mgThere C 4 1 (by decide), mgNot C, ?_⟩
  replace C := C1; clear C1
  refine ⟨4, C.swap.blkCell (j := 0) rfl, mgNot C, ?_⟩
  repeat (first | rw [if_pos (by decide)] | rw [if_neg (by decide)])
  have hM : ((⟨4, (((bS r.st).1.toNat : Nat) : Int), 0, (((uS 4294967295 r1.st).1 : Nat) : Int), (((uS 4294967295 r2.st).1 : Nat) : Int), 0, 0, 0, 0, I.zero, (none, 0), [], 0, ByteArray.mk #[], 0, 0, (none, 0), [], 0, 0, false, (none, 0), [], (none, 0), [], (none, 0), []⟩ : Mg).er, r3.st) = msgG 4 r.st := by
    simp only [Mg.er]
    rw [p3.2, p2.2, p1.2]
    rfl
  refine Ctr.ret (m' := m3) (L := La) ((⟨4, (((bS r.st).1.toNat : Nat) : Int), 0, (((uS 4294967295 r1.st).1 : Nat) : Int), (((uS 4294967295 r2.st).1 : Nat) : Int), 0, 0, 0, 0, I.zero, (none, 0), [], 0, ByteArray.mk #[], 0, 0, (none, 0), [], 0, 0, false, (none, 0), [], (none, 0), [], (none, 0), []⟩ : Mg), r3) rfl ⟨⟨.nil .., .nil .., .nil .., esNil _, esNil _, Nat.zero_le _, Nat.zero_le _, Nat.zero_le _, Nat.zero_le _, Nat.zero_le _⟩, ⟨Nat.le_refl _, Nat.le_refl _, Nat.le_refl _, (fun _ h => nomatch h), (fun _ h => nomatch h)⟩, ?_, p3.1, ?_⟩ C
  · rw [← hM]
  · rw [← hM]
theorem c_rdmsg_5 (b bm : Nat) (r : Rd) : RdM b bm r 5 := by
  refine Ctr.mk fun w F m C hr => x_rdmsg _ _ w _ ⟨5, C.swap.blkCell (j := 0) rfl, ?_⟩
  repeat (first | rw [if_pos (by decide)] | rw [if_neg (by decide)])
  intro wa La ha ga
  replace C := C.hidL ha ga
  refine (c_rdround b bm r _).call (As := []) C hr fun r1 m1 w1 hk hm1 p1 C => ⟨rfl, hk, ?_⟩
  replace C : Ctx F m w w1 La m1 [rA b r1, blk bm (⟨5, (((bS r.st).1.toNat : Nat) : Int), 0, (((uS 4294967295 (bS r.st).2).1 : Nat) : Int), 0, 0, 0, (((uS M64n (uS 4294967295 (bS r.st).2).2).1 : Nat) : Int), 0, I.zero, (none, 0), [], 0, ByteArray.mk #[], 0, 0, (none, 0), [], 0, 0, false, (none, 0), [], (none, 0), [], (none, 0), []⟩ : Mg).row 59] := C
  have hM : ((⟨5, (((bS r.st).1.toNat : Nat) : Int), 0, (((uS 4294967295 (bS r.st).2).1 : Nat) : Int), 0, 0, 0, (((uS M64n (uS 4294967295 (bS r.st).2).2).1 : Nat) : Int), 0, I.zero, (none, 0), [], 0, ByteArray.mk #[], 0, 0, (none, 0), [], 0, 0, false, (none, 0), [], (none, 0), [], (none, 0), []⟩ : Mg).er, r1.st) = msgG 5 r.st := by
    simp only [Mg.er]
    rw [p1.2]
    rfl
  refine Ctr.ret (m' := m1) (L := La) ((⟨5, (((bS r.st).1.toNat : Nat) : Int), 0, (((uS 4294967295 (bS r.st).2).1 : Nat) : Int), 0, 0, 0, (((uS M64n (uS 4294967295 (bS r.st).2).2).1 : Nat) : Int), 0, I.zero, (none, 0), [], 0, ByteArray.mk #[], 0, 0, (none, 0), [], 0, 0, false, (none, 0), [], (none, 0), [], (none, 0), []⟩ : Mg), r1) rfl ⟨⟨.nil .., .nil .., .nil .., esNil _, esNil _, Nat.zero_le _, Nat.zero_le _, Nat.zero_le _, Nat.zero_le _, Nat.zero_le _⟩, ⟨Nat.le_refl _, Nat.le_refl _, Nat.le_refl _, (fun _ h => nomatch h), (fun _ h => nomatch h)⟩, ?_, p1.1, ?_⟩ C
  · rw [← hM]
  · rw [← hM]
theorem c_rdmsg_6 (b bm : Nat) (r : Rd) : RdM b bm r 6 := by
  refine Ctr.mk fun w F m C hr => x_rdmsg _ _ w _ ⟨6, C.swap.blkCell (j := 0) rfl, ?_⟩
  repeat (first | rw [if_pos (by decide)] | rw [if_neg (by decide)])
  intro wa La ha ga
  replace C := C.hidL ha ga
  refine (c_rdround b bm r _).call (As := []) C hr fun r1 m1 w1 hk hm1 p1 C => ⟨rfl, hk, ?_⟩
  replace C : Ctx F m w w1 La m1 [rA b r1, blk bm (⟨6, (((bS r.st).1.toNat : Nat) : Int), 0, (((uS 4294967295 (bS r.st).2).1 : Nat) : Int), 0, 0, 0, (((uS M64n (uS 4294967295 (bS r.st).2).2).1 : Nat) : Int), 0, I.zero, (none, 0), [], 0, ByteArray.mk #[], 0, 0, (none, 0), [], 0, 0, false, (none, 0), [], (none, 0), [], (none, 0), []⟩ : Mg).row 59] := C
  have hM : ((⟨6, (((bS r.st).1.toNat : Nat) : Int), 0, (((uS 4294967295 (bS r.st).2).1 : Nat) : Int), 0, 0, 0, (((uS M64n (uS 4294967295 (bS r.st).2).2).1 : Nat) : Int), 0, I.zero, (none, 0), [], 0, ByteArray.mk #[], 0, 0, (none, 0), [], 0, 0, false, (none, 0), [], (none, 0), [], (none, 0), []⟩ : Mg).er, r1.st) = msgG 6 r.st := by
    simp only [Mg.er]
    rw [p1.2]
    rfl
  refine Ctr.ret (m' := m1) (L := La) ((⟨6, (((bS r.st).1.toNat : Nat) : Int), 0, (((uS 4294967295 (bS r.st).2).1 : Nat) : Int), 0, 0, 0, (((uS M64n (uS 4294967295 (bS r.st).2).2).1 : Nat) : Int), 0, I.zero, (none, 0), [], 0, ByteArray.mk #[], 0, 0, (none, 0), [], 0, 0, false, (none, 0), [], (none, 0), [], (none, 0), []⟩ : Mg), r1) rfl ⟨⟨.nil .., .nil .., .nil .., esNil _, esNil _, Nat.zero_le _, Nat.zero_le _, Nat.zero_le _, Nat.zero_le _, Nat.zero_le _⟩, ⟨Nat.le_refl _, Nat.le_refl _, Nat.le_refl _, (fun _ h => nomatch h), (fun _ h => nomatch h)⟩, ?_, p1.1, ?_⟩ C
  · rw [← hM]
  · rw [← hM]
theorem c_rdmsg_7 (b bm : Nat) (r : Rd) : RdM b bm r 7 := by
  refine Ctr.mk fun w F m C hr => x_rdmsg _ _ w _ ⟨7, C.swap.blkCell (j := 0) rfl, ?_⟩
  repeat (first | rw [if_pos (by decide)] | rw [if_neg (by decide)])
  intro wa La ha ga
  replace C := C.hidL ha ga
  refine (c_rdround b bm r _).call (As := []) C hr fun r1 m1 w1 hk hm1 p1 C => ⟨rfl, hk, ?_⟩
  replace C : Ctx F m w w1 La m1 [rA b r1, blk bm (⟨7, (((bS r.st).1.toNat : Nat) : Int), 0, (((uS 4294967295 (bS r.st).2).1 : Nat) : Int), 0, 0, 0, (((uS M64n (uS 4294967295 (bS r.st).2).2).1 : Nat) : Int), 0, I.zero, (none, 0), [], 0, ByteArray.mk #[], 0, 0, (none, 0), [], 0, 0, false, (none, 0), [], (none, 0), [], (none, 0), []⟩ : Mg).row 59] := C
  have hM : ((⟨7, (((bS r.st).1.toNat : Nat) : Int), 0, (((uS 4294967295 (bS r.st).2).1 : Nat) : Int), 0, 0, 0, (((uS M64n (uS 4294967295 (bS r.st).2).2).1 : Nat) : Int), 0, I.zero, (none, 0), [], 0, ByteArray.mk #[], 0, 0, (none, 0), [], 0, 0, false, (none, 0), [], (none, 0), [], (none, 0), []⟩ : Mg).er, r1.st) = msgG 7 r.st := by
    simp only [Mg.er]
    rw [p1.2]
    rfl
  refine Ctr.ret (m' := m1) (L := La) ((⟨7, (((bS r.st).1.toNat : Nat) : Int), 0, (((uS 4294967295 (bS r.st).2).1 : Nat) : Int), 0, 0, 0, (((uS M64n (uS 4294967295 (bS r.st).2).2).1 : Nat) : Int), 0, I.zero, (none, 0), [], 0, ByteArray.mk #[], 0, 0, (none, 0), [], 0, 0, false, (none, 0), [], (none, 0), [], (none, 0), []⟩ : Mg), r1) rfl ⟨⟨.nil .., .nil .., .nil .., esNil _, esNil _, Nat.zero_le _, Nat.zero_le _, Nat.zero_le _, Nat.zero_le _, Nat.zero_le _⟩, ⟨Nat.le_refl _, Nat.le_refl _, Nat.le_refl _, (fun _ h => nomatch h), (fun _ h => nomatch h)⟩, ?_, p1.1, ?_⟩ C
  · rw [← hM]
  · rw [← hM]
theorem c_rdmsg_9 (b bm : Nat) (r : Rd) : RdM b bm r 9 := by
  refine Ctr.mk fun w F m C hr => x_rdmsg _ _ w _ ⟨9, C.swap.blkCell (j := 0) rfl, ?_⟩
  repeat (first | rw [if_pos (by decide)] | rw [if_neg (by decide)])
  intro wa La ha ga
  replace C := C.hidL ha ga
  refine (c_rdround b bm r _).call (As := []) C hr fun r1 m1 w1 hk hm1 p1 C => ⟨rfl, hk, ?_⟩
  replace C : Ctx F m w w1 La m1 [rA b r1, blk bm (⟨9, (((bS r.st).1.toNat : Nat) : Int), 0, (((uS 4294967295 (bS r.st).2).1 : Nat) : Int), 0, 0, 0, (((uS M64n (uS 4294967295 (bS r.st).2).2).1 : Nat) : Int), 0, I.zero, (none, 0), [], 0, ByteArray.mk #[], 0, 0, (none, 0), [], 0, 0, false, (none, 0), [], (none, 0), [], (none, 0), []⟩ : Mg).row 59] := C
  refine (c_rdvalue b bm r1 _).call (As := []) C p1.1 fun p m2 w2 hk hm2 p2 C => ⟨rfl, hk, ?_⟩
  obtain ⟨mq, tq, ts, rt⟩ := p
  obtain ⟨mM, mC, tM, tE, tO, tS⟩ := p2
  replace C : Ctx F m w w2 La m2 [rA b rt, blk bm (⟨9, (((bS r.st).1.toNat : Nat) : Int), 0, (((uS 4294967295 (bS r.st).2).1 : Nat) : Int), 0, 0, 0, (((uS M64n (uS 4294967295 (bS r.st).2).2).1 : Nat) : Int), 0, I.zero, (none, 0), [], 0, ByteArray.mk #[], 0, 0, (none, 0), [], 0, 0, false, mq, (prsS r1.st).1, (none, 0), [], tq, ts⟩ : Mg).row 59] := C
  have ml := prsS_len r1.st
  have tl := es_len (m := m) (q := tq) tE
  have hM : ((⟨9, (((bS r.st).1.toNat : Nat) : Int), 0, (((uS 4294967295 (bS r.st).2).1 : Nat) : Int), 0, 0, 0, (((uS M64n (uS 4294967295 (bS r.st).2).2).1 : Nat) : Int), 0, I.zero, (none, 0), [], 0, ByteArray.mk #[], 0, 0, (none, 0), [], 0, 0, false, mq, (prsS r1.st).1, (none, 0), [], tq, ts⟩ : Mg).er, rt.st) = msgG 9 r.st := by
    simp only [Mg.er]
    rw [tE, tS, p1.2]
    rfl
  refine Ctr.ret (m' := m2) (L := La) ((⟨9, (((bS r.st).1.toNat : Nat) : Int), 0, (((uS 4294967295 (bS r.st).2).1 : Nat) : Int), 0, 0, 0, (((uS M64n (uS 4294967295 (bS r.st).2).2).1 : Nat) : Int), 0, I.zero, (none, 0), [], 0, ByteArray.mk #[], 0, 0, (none, 0), [], 0, 0, false, mq, (prsS r1.st).1, (none, 0), [], tq, ts⟩ : Mg), rt) rfl ⟨⟨.nil .., .nil .., mM, esNil _, tM.1, Nat.zero_le _, Nat.zero_le _, Nat.le_trans ml (by decide), Nat.zero_le _, tl⟩, ⟨Nat.le_refl _, Nat.le_refl _, mC, (fun _ h => nomatch h), tM.2⟩, ?_, tO, ?_⟩ C
  · rw [← hM]
  · rw [← hM]
theorem c_rdmsg_10 (b bm : Nat) (r : Rd) : RdM b bm r 10 := by
  refine Ctr.mk fun w F m C hr => x_rdmsg _ _ w _ ⟨10, C.swap.blkCell (j := 0) rfl, ?_⟩
  repeat (first | rw [if_pos (by decide)] | rw [if_neg (by decide)])
  intro wa La ha ga
  replace C := C.hidL ha ga
  refine (c_vGet b r).call (As := [_]) C hr fun p m1 w1 hk hm1 p1 C => ⟨_, _, _, _, _, rfl, hk, rfl, ?_⟩
  obtain ⟨vq, rv⟩ := p
  obtain ⟨vM, vC, vO, vS⟩ := p1
  replace C : Ctx F m w w1 La m1 [rA b rv, blk bm (⟨10, 0, 0, 0, 0, 0, 0, 0, 0, I.zero, (none, 0), [], 0, ByteArray.mk #[], 0, 0, (none, 0), [], 0, 0, false, (none, 0), [], (none, 0), [], (none, 0), []⟩ : Mg).row 59] := C
  have vl : (vwS r.st).1.2.2.length ≤ 255 := vwS_len r.st
  have C1 := mgPut C 22 (Vw.row ⟨(vwS r.st).1.1, (vwS r.st).1.2.1, vq, (vwS r.st).1.2.2⟩) (Nat.le_of_ble_eq_true rfl) (⟨10, 0, 0, 0, 0, 0, 0, 0, 0, I.zero, (none, 0), [], 0, ByteArray.mk #[], (vwS r.st).1.1, (vwS r.st).1.2.1, vq, (vwS r.st).1.2.2, 0, 0, false, (none, 0), [], (none, 0), [], (none, 0), []⟩ : Mg) rfl
  refine ⟨mgThere C 22 3 (by decide), mgNot C, ?_⟩
  replace C := C1; clear C1
  refine (c_eGetAll b rv).call (As := [_]) C vO fun p m2 w2 hk hm2 p2 C => ⟨_, _, _, rfl, hk, rfl, ?_⟩
  replace vM := vM.mono hm2
  obtain ⟨eq, es, re⟩ := p
  obtain ⟨eM, eE, eO, eS⟩ := p2
  replace C : Ctx F m w w2 La m2 [rA b re, blk bm (⟨10, 0, 0, 0, 0, 0, 0, 0, 0, I.zero, (none, 0), [], 0, ByteArray.mk #[], (vwS r.st).1.1, (vwS r.st).1.2.1, vq, (vwS r.st).1.2.2, 0, 0, false, (none, 0), [], (none, 0), [], (none, 0), []⟩ : Mg).row 59] := C
  have C1 := mgPut C 29 [slV eq es.length] (Nat.le_of_ble_eq_true rfl) (⟨10, 0, 0, 0, 0, 0, 0, 0, 0, I.zero, (none, 0), [], 0, ByteArray.mk #[], (vwS r.st).1.1, (vwS r.st).1.2.1, vq, (vwS r.st).1.2.2, 0, 0, false, (none, 0), [], eq, es, (none, 0), []⟩ : Mg) rfl
  refine ⟨mgThere C 29 1 (by decide), mgNot C, ?_⟩
  replace C := C1; clear C1
  have el := es_len (m := m) (q := eq) eE
  have hM : ((⟨10, 0, 0, 0, 0, 0, 0, 0, 0, I.zero, (none, 0), [], 0, ByteArray.mk #[], (vwS r.st).1.1, (vwS r.st).1.2.1, vq, (vwS r.st).1.2.2, 0, 0, false, (none, 0), [], eq, es, (none, 0), []⟩ : Mg).er, re.st) = msgG 10 r.st := by
    simp only [Mg.er]
    rw [eE, eS, vS]
    rfl
  refine Ctr.ret (m' := m2) (L := La) ((⟨10, 0, 0, 0, 0, 0, 0, 0, 0, I.zero, (none, 0), [], 0, ByteArray.mk #[], (vwS r.st).1.1, (vwS r.st).1.2.1, vq, (vwS r.st).1.2.2, 0, 0, false, (none, 0), [], eq, es, (none, 0), []⟩ : Mg), re) rfl ⟨⟨.nil .., vM, .nil .., eM.1, esNil _, Nat.zero_le _, Nat.le_trans vl (by decide), Nat.zero_le _, el, Nat.zero_le _⟩, ⟨Nat.le_refl _, vC, Nat.le_refl _, eM.2, (fun _ h => nomatch h)⟩, ?_, eO, ?_⟩ C
  · rw [← hM]
  · rw [← hM]
theorem c_rdmsg_11 (b bm : Nat) (r : Rd) : RdM b bm r 11 := by
  refine Ctr.mk fun w F m C hr => x_rdmsg _ _ w _ ⟨11, C.swap.blkCell (j := 0) rfl, ?_⟩
  repeat (first | rw [if_pos (by decide)] | rw [if_neg (by decide)])
  intro wa La ha ga
  replace C := C.hidL ha ga
  refine (c_RB b r).call (As := [_]) C hr fun r1 m1 w1 hk hm1 p1 C => ⟨_, rfl, hk, rfl, ?_⟩
  replace C : Ctx F m w w1 La m1 [rA b r1, blk bm (⟨11, 0, 0, 0, 0, 0, 0, 0, 0, I.zero, (none, 0), [], 0, ByteArray.mk #[], 0, 0, (none, 0), [], 0, 0, false, (none, 0), [], (none, 0), [], (none, 0), []⟩ : Mg).row 59] := C
  have C1 := mgPut C 1 [.int .u8 (((bS r.st).1.toNat : Nat) : Int)] (Nat.le_of_ble_eq_true rfl) (⟨11, (((bS r.st).1.toNat : Nat) : Int), 0, 0, 0, 0, 0, 0, 0, I.zero, (none, 0), [], 0, ByteArray.mk #[], 0, 0, (none, 0), [], 0, 0, false, (none, 0), [], (none, 0), [], (none, 0), []⟩ : Mg) rfl
  refine ⟨mgThere C 1 1 (by decide), mgNot C, ?_⟩
  replace C := C1; clear C1
  refine (c_GetProc b r1).call (As := [_]) C p1.1 fun r2 m2 w2 hk hm2 p2 C => ⟨_, _, rfl, hk, rfl, ?_⟩
  replace C : Ctx F m w w2 La m2 [rA b r2, blk bm (⟨11, (((bS r.st).1.toNat : Nat) : Int), 0, 0, 0, 0, 0, 0, 0, I.zero, (none, 0), [], 0, ByteArray.mk #[], 0, 0, (none, 0), [], 0, 0, false, (none, 0), [], (none, 0), [], (none, 0), []⟩ : Mg).row 59] := C
  have C1 := mgPut C 25 [.int .u8 (((procS r1.st).1.1.toNat : Nat) : Int), .int .u16 (((procS r1.st).1.2 : Nat) : Int)] (Nat.le_of_ble_eq_true rfl) (⟨11, (((bS r.st).1.toNat : Nat) : Int), 0, 0, 0, 0, 0, 0, 0, I.zero, (none, 0), [], 0, ByteArray.mk #[], 0, 0, (none, 0), [], (((procS r1.st).1.1.toNat : Nat) : Int), (((procS r1.st).1.2 : Nat) : Int), false, (none, 0), [], (none, 0), [], (none, 0), []⟩ : Mg) rfl
  refine ⟨mgThere C 25 2 (by decide), mgNot C, ?_⟩
  replace C := C1; clear C1
  have hM : ((⟨11, (((bS r.st).1.toNat : Nat) : Int), 0, 0, 0, 0, 0, 0, 0, I.zero, (none, 0), [], 0, ByteArray.mk #[], 0, 0, (none, 0), [], (((procS r1.st).1.1.toNat : Nat) : Int), (((procS r1.st).1.2 : Nat) : Int), false, (none, 0), [], (none, 0), [], (none, 0), []⟩ : Mg).er, r2.st) = msgG 11 r.st := by
    simp only [Mg.er]
    rw [p2.2, p1.2]
    rfl
  refine Ctr.ret (m' := m2) (L := La) ((⟨11, (((bS r.st).1.toNat : Nat) : Int), 0, 0, 0, 0, 0, 0, 0, I.zero, (none, 0), [], 0, ByteArray.mk #[], 0, 0, (none, 0), [], (((procS r1.st).1.1.toNat : Nat) : Int), (((procS r1.st).1.2 : Nat) : Int), false, (none, 0), [], (none, 0), [], (none, 0), []⟩ : Mg), r2) rfl ⟨⟨.nil .., .nil .., .nil .., esNil _, esNil _, Nat.zero_le _, Nat.zero_le _, Nat.zero_le _, Nat.zero_le _, Nat.zero_le _⟩, ⟨Nat.le_refl _, Nat.le_refl _, Nat.le_refl _, (fun _ h => nomatch h), (fun _ h => nomatch h)⟩, ?_, p2.1, ?_⟩ C
  · rw [← hM]
  · rw [← hM]
theorem c_rdmsg_12 (b bm : Nat) (r : Rd) : RdM b bm r 12 := by
  refine Ctr.mk fun w F m C hr => x_rdmsg _ _ w _ ⟨12, C.swap.blkCell (j := 0) rfl, ?_⟩
  repeat (first | rw [if_pos (by decide)] | rw [if_neg (by decide)])
  intro wa La ha ga
  replace C := C.hidL ha ga
  refine (c_RB b r).call (As := [_]) C hr fun r1 m1 w1 hk hm1 p1 C => ⟨_, rfl, hk, rfl, ?_⟩
  replace C : Ctx F m w w1 La m1 [rA b r1, blk bm (⟨12, 0, 0, 0, 0, 0, 0, 0, 0, I.zero, (none, 0), [], 0, ByteArray.mk #[], 0, 0, (none, 0), [], 0, 0, false, (none, 0), [], (none, 0), [], (none, 0), []⟩ : Mg).row 59] := C
  have C1 := mgPut C 1 [.int .u8 (((bS r.st).1.toNat : Nat) : Int)] (Nat.le_of_ble_eq_true rfl) (⟨12, (((bS r.st).1.toNat : Nat) : Int), 0, 0, 0, 0, 0, 0, 0, I.zero, (none, 0), [], 0, ByteArray.mk #[], 0, 0, (none, 0), [], 0, 0, false, (none, 0), [], (none, 0), [], (none, 0), []⟩ : Mg) rfl
  refine ⟨mgThere C 1 1 (by decide), mgNot C, ?_⟩
  replace C := C1; clear C1
  refine (c_GetProc b r1).call (As := [_]) C p1.1 fun r2 m2 w2 hk hm2 p2 C => ⟨_, _, rfl, hk, rfl, ?_⟩
  replace C : Ctx F m w w2 La m2 [rA b r2, blk bm (⟨12, (((bS r.st).1.toNat : Nat) : Int), 0, 0, 0, 0, 0, 0, 0, I.zero, (none, 0), [], 0, ByteArray.mk #[], 0, 0, (none, 0), [], 0, 0, false, (none, 0), [], (none, 0), [], (none, 0), []⟩ : Mg).row 59] := C
  have C1 := mgPut C 25 [.int .u8 (((procS r1.st).1.1.toNat : Nat) : Int), .int .u16 (((procS r1.st).1.2 : Nat) : Int)] (Nat.le_of_ble_eq_true rfl) (⟨12, (((bS r.st).1.toNat : Nat) : Int), 0, 0, 0, 0, 0, 0, 0, I.zero, (none, 0), [], 0, ByteArray.mk #[], 0, 0, (none, 0), [], (((procS r1.st).1.1.toNat : Nat) : Int), (((procS r1.st).1.2 : Nat) : Int), false, (none, 0), [], (none, 0), [], (none, 0), []⟩ : Mg) rfl
  refine ⟨mgThere C 25 2 (by decide), mgNot C, ?_⟩
  replace C := C1; clear C1
  have hM : ((⟨12, (((bS r.st).1.toNat : Nat) : Int), 0, 0, 0, 0, 0, 0, 0, I.zero, (none, 0), [], 0, ByteArray.mk #[], 0, 0, (none, 0), [], (((procS r1.st).1.1.toNat : Nat) : Int), (((procS r1.st).1.2 : Nat) : Int), false, (none, 0), [], (none, 0), [], (none, 0), []⟩ : Mg).er, r2.st) = msgG 12 r.st := by
    simp only [Mg.er]
    rw [p2.2, p1.2]
    rfl
  refine Ctr.ret (m' := m2) (L := La) ((⟨12, (((bS r.st).1.toNat : Nat) : Int), 0, 0, 0, 0, 0, 0, 0, I.zero, (none, 0), [], 0, ByteArray.mk #[], 0, 0, (none, 0), [], (((procS r1.st).1.1.toNat : Nat) : Int), (((procS r1.st).1.2 : Nat) : Int), false, (none, 0), [], (none, 0), [], (none, 0), []⟩ : Mg), r2) rfl ⟨⟨.nil .., .nil .., .nil .., esNil _, esNil _, Nat.zero_le _, Nat.zero_le _, Nat.zero_le _, Nat.zero_le _, Nat.zero_le _⟩, ⟨Nat.le_refl _, Nat.le_refl _, Nat.le_refl _, (fun _ h => nomatch h), (fun _ h => nomatch h)⟩, ?_, p2.1, ?_⟩ C
  · rw [← hM]
  · rw [← hM]
theorem c_rdmsg_13 (b bm : Nat) (r : Rd) : RdM b bm r 13 := by
  refine Ctr.mk fun w F m C hr => x_rdmsg _ _ w _ ⟨13, C.swap.blkCell (j := 0) rfl, ?_⟩
  repeat (first | rw [if_pos (by decide)] | rw [if_neg (by decide)])
  intro wa La ha ga
  replace C := C.hidL ha ga
  refine (c_RB b r).call (As := [_]) C hr fun r1 m1 w1 hk hm1 p1 C => ⟨_, rfl, hk, rfl, ?_⟩
  replace C : Ctx F m w w1 La m1 [rA b r1, blk bm (⟨13, 0, 0, 0, 0, 0, 0, 0, 0, I.zero, (none, 0), [], 0, ByteArray.mk #[], 0, 0, (none, 0), [], 0, 0, false, (none, 0), [], (none, 0), [], (none, 0), []⟩ : Mg).row 59] := C
  have C1 := mgPut C 1 [.int .u8 (((bS r.st).1.toNat : Nat) : Int)] (Nat.le_of_ble_eq_true rfl) (⟨13, (((bS r.st).1.toNat : Nat) : Int), 0, 0, 0, 0, 0, 0, 0, I.zero, (none, 0), [], 0, ByteArray.mk #[], 0, 0, (none, 0), [], 0, 0, false, (none, 0), [], (none, 0), [], (none, 0), []⟩ : Mg) rfl
  refine ⟨mgThere C 1 1 (by decide), mgNot C, ?_⟩
  replace C := C1; clear C1
  refine (c_GetProc b r1).call (As := [_]) C p1.1 fun r2 m2 w2 hk hm2 p2 C => ⟨_, _, rfl, hk, rfl, ?_⟩
  replace C : Ctx F m w w2 La m2 [rA b r2, blk bm (⟨13, (((bS r.st).1.toNat : Nat) : Int), 0, 0, 0, 0, 0, 0, 0, I.zero, (none, 0), [], 0, ByteArray.mk #[], 0, 0, (none, 0), [], 0, 0, false, (none, 0), [], (none, 0), [], (none, 0), []⟩ : Mg).row 59] := C
  have C1 := mgPut C 25 [.int .u8 (((procS r1.st).1.1.toNat : Nat) : Int), .int .u16 (((procS r1.st).1.2 : Nat) : Int)] (Nat.le_of_ble_eq_true rfl) (⟨13, (((bS r.st).1.toNat : Nat) : Int), 0, 0, 0, 0, 0, 0, 0, I.zero, (none, 0), [], 0, ByteArray.mk #[], 0, 0, (none, 0), [], (((procS r1.st).1.1.toNat : Nat) : Int), (((procS r1.st).1.2 : Nat) : Int), false, (none, 0), [], (none, 0), [], (none, 0), []⟩ : Mg) rfl
  refine ⟨mgThere C 25 2 (by decide), mgNot C, ?_⟩
  replace C := C1; clear C1
  have hM : ((⟨13, (((bS r.st).1.toNat : Nat) : Int), 0, 0, 0, 0, 0, 0, 0, I.zero, (none, 0), [], 0, ByteArray.mk #[], 0, 0, (none, 0), [], (((procS r1.st).1.1.toNat : Nat) : Int), (((procS r1.st).1.2 : Nat) : Int), false, (none, 0), [], (none, 0), [], (none, 0), []⟩ : Mg).er, r2.st) = msgG 13 r.st := by
    simp only [Mg.er]
    rw [p2.2, p1.2]
    rfl
  refine Ctr.ret (m' := m2) (L := La) ((⟨13, (((bS r.st).1.toNat : Nat) : Int), 0, 0, 0, 0, 0, 0, 0, I.zero, (none, 0), [], 0, ByteArray.mk #[], 0, 0, (none, 0), [], (((procS r1.st).1.1.toNat : Nat) : Int), (((procS r1.st).1.2 : Nat) : Int), false, (none, 0), [], (none, 0), [], (none, 0), []⟩ : Mg), r2) rfl ⟨⟨.nil .., .nil .., .nil .., esNil _, esNil _, Nat.zero_le _, Nat.zero_le _, Nat.zero_le _, Nat.zero_le _, Nat.zero_le _⟩, ⟨Nat.le_refl _, Nat.le_refl _, Nat.le_refl _, (fun _ h => nomatch h), (fun _ h => nomatch h)⟩, ?_, p2.1, ?_⟩ C
  · rw [← hM]
  · rw [← hM]
theorem c_rdmsg_8t (b bm : Nat) (r : Rd) (hH : (flagS (evsS (rndS r.st)).2).1 = true) : RdM b bm r 8 := by
  refine Ctr.mk fun w F m C hr => x_rdmsg _ _ w _ ⟨8, C.swap.blkCell (j := 0) rfl, ?_⟩
  repeat (first | rw [if_pos (by decide)] | rw [if_neg (by decide)])
  intro wa La ha ga
  replace C := C.hidL ha ga
  refine (c_rdround b bm r _).call (As := []) C hr fun r1 m1 w1 hk hm1 p1 C => ⟨rfl, hk, ?_⟩
  replace C : Ctx F m w w1 La m1 [rA b r1, blk bm (⟨8, (((bS r.st).1.toNat : Nat) : Int), 0, (((uS 4294967295 (bS r.st).2).1 : Nat) : Int), 0, 0, 0, (((uS M64n (uS 4294967295 (bS r.st).2).2).1 : Nat) : Int), 0, I.zero, (none, 0), [], 0, ByteArray.mk #[], 0, 0, (none, 0), [], 0, 0, false, (none, 0), [], (none, 0), [], (none, 0), []⟩ : Mg).row 59] := C
  refine (c_eGetAll b r1).call (As := [_]) C p1.1 fun p m2 w2 hk hm2 p2 C => ⟨_, _, _, rfl, hk, rfl, ?_⟩
  obtain ⟨eq, es, re⟩ := p
  obtain ⟨eM, eE, eO, eS⟩ := p2
  replace C : Ctx F m w w2 La m2 [rA b re, blk bm (⟨8, (((bS r.st).1.toNat : Nat) : Int), 0, (((uS 4294967295 (bS r.st).2).1 : Nat) : Int), 0, 0, 0, (((uS M64n (uS 4294967295 (bS r.st).2).2).1 : Nat) : Int), 0, I.zero, (none, 0), [], 0, ByteArray.mk #[], 0, 0, (none, 0), [], 0, 0, false, (none, 0), [], (none, 0), [], (none, 0), []⟩ : Mg).row 59] := C
  have C1 := mgPut C 29 [slV eq es.length] (Nat.le_of_ble_eq_true rfl) (⟨8, (((bS r.st).1.toNat : Nat) : Int), 0, (((uS 4294967295 (bS r.st).2).1 : Nat) : Int), 0, 0, 0, (((uS M64n (uS 4294967295 (bS r.st).2).2).1 : Nat) : Int), 0, I.zero, (none, 0), [], 0, ByteArray.mk #[], 0, 0, (none, 0), [], 0, 0, false, (none, 0), [], eq, es, (none, 0), []⟩ : Mg) rfl
  refine ⟨mgThere C 29 1 (by decide), mgNot C, ?_⟩
  replace C := C1; clear C1
  have el := es_len (m := m) (q := eq) eE
  refine (c_rdflag b re).call (As := [_]) C eO fun r3 m3 w3 hk hm3 p3 C => ⟨_, rfl, hk, rfl, ?_⟩
  replace eM := eM.mono hm3
  replace C : Ctx F m w w3 La m3 [rA b r3, blk bm (⟨8, (((bS r.st).1.toNat : Nat) : Int), 0, (((uS 4294967295 (bS r.st).2).1 : Nat) : Int), 0, 0, 0, (((uS M64n (uS 4294967295 (bS r.st).2).2).1 : Nat) : Int), 0, I.zero, (none, 0), [], 0, ByteArray.mk #[], 0, 0, (none, 0), [], 0, 0, false, (none, 0), [], eq, es, (none, 0), []⟩ : Mg).row 59] := C
  have C1 := mgPut C 27 [.bool (flagS re.st).1] (Nat.le_of_ble_eq_true rfl) (⟨8, (((bS r.st).1.toNat : Nat) : Int), 0, (((uS 4294967295 (bS r.st).2).1 : Nat) : Int), 0, 0, 0, (((uS M64n (uS 4294967295 (bS r.st).2).2).1 : Nat) : Int), 0, I.zero, (none, 0), [], 0, ByteArray.mk #[], 0, 0, (none, 0), [], 0, 0, (flagS re.st).1, (none, 0), [], eq, es, (none, 0), []⟩ : Mg) rfl
  refine ⟨mgThere C 27 1 (by decide), mgNot C, ?_⟩
  replace C := C1; clear C1
  have hh0 : (flagS re.st).1 = true := by rw [eS, p1.2]; exact hH
  refine ⟨_, C.swap.blkCell (j := 27) rfl, mgNot C, ?_⟩
  rw [if_pos hh0]
  refine (c_rdwide b r3).call (As := [_]) C p3.1 fun r4 m4 w4 hk hm4 p4 C => ⟨_, rfl, hk, rfl, ?_⟩
  replace eM := eM.mono hm4
  replace C : Ctx F m w w4 La m4 [rA b r4, blk bm (⟨8, (((bS r.st).1.toNat : Nat) : Int), 0, (((uS 4294967295 (bS r.st).2).1 : Nat) : Int), 0, 0, 0, (((uS M64n (uS 4294967295 (bS r.st).2).2).1 : Nat) : Int), 0, I.zero, (none, 0), [], 0, ByteArray.mk #[], 0, 0, (none, 0), [], 0, 0, (flagS re.st).1, (none, 0), [], eq, es, (none, 0), []⟩ : Mg).row 59] := C
  have C1 := mgPut C 8 [.int .u64 (((uS M64n r3.st).1 : Nat) : Int)] (Nat.le_of_ble_eq_true rfl) (⟨8, (((bS r.st).1.toNat : Nat) : Int), 0, (((uS 4294967295 (bS r.st).2).1 : Nat) : Int), 0, 0, 0, (((uS M64n (uS 4294967295 (bS r.st).2).2).1 : Nat) : Int), (((uS M64n r3.st).1 : Nat) : Int), I.zero, (none, 0), [], 0, ByteArray.mk #[], 0, 0, (none, 0), [], 0, 0, (flagS re.st).1, (none, 0), [], eq, es, (none, 0), []⟩ : Mg) rfl
  refine ⟨mgThere C 8 1 (by decide), mgNot C, ?_⟩
  replace C := C1; clear C1
  refine (c_rdvalue b bm r4 _).call (As := []) C p4.1 fun p m5 w5 hk hm5 p5 C => ⟨rfl, hk, ?_⟩
  replace eM := eM.mono hm5
  obtain ⟨mq, tq, ts, rt⟩ := p
  obtain ⟨mM, mC, tM, tE, tO, tS⟩ := p5
  replace C : Ctx F m w w5 La m5 [rA b rt, blk bm (⟨8, (((bS r.st).1.toNat : Nat) : Int), 0, (((uS 4294967295 (bS r.st).2).1 : Nat) : Int), 0, 0, 0, (((uS M64n (uS 4294967295 (bS r.st).2).2).1 : Nat) : Int), (((uS M64n r3.st).1 : Nat) : Int), I.zero, (none, 0), [], 0, ByteArray.mk #[], 0, 0, (none, 0), [], 0, 0, (flagS re.st).1, mq, (prsS r4.st).1, eq, es, tq, ts⟩ : Mg).row 59] := C
  have ml := prsS_len r4.st
  have tl := es_len (m := m) (q := tq) tE
  have hM : ((⟨8, (((bS r.st).1.toNat : Nat) : Int), 0, (((uS 4294967295 (bS r.st).2).1 : Nat) : Int), 0, 0, 0, (((uS M64n (uS 4294967295 (bS r.st).2).2).1 : Nat) : Int), (((uS M64n r3.st).1 : Nat) : Int), I.zero, (none, 0), [], 0, ByteArray.mk #[], 0, 0, (none, 0), [], 0, 0, (flagS re.st).1, mq, (prsS r4.st).1, eq, es, tq, ts⟩ : Mg).er, rt.st) = msgG 8 r.st := by
    simp only [Mg.er]
    rw [tE, tS, p4.2, p3.2, eE, eS, p1.2]
    have h8 : msgG 8 r.st = msgH (foldG (fldS 8) (Mv.z 8) r.st) 8 := rfl
    have hx : (foldG (fldS 8) (Mv.z 8) r.st).1.has = (flagS (evsS (rndS r.st)).2).1 := rfl
    rw [h8, msgH, if_pos ⟨rfl, hx.trans hH⟩]
    rfl
  refine Ctr.ret (m' := m5) (L := La) ((⟨8, (((bS r.st).1.toNat : Nat) : Int), 0, (((uS 4294967295 (bS r.st).2).1 : Nat) : Int), 0, 0, 0, (((uS M64n (uS 4294967295 (bS r.st).2).2).1 : Nat) : Int), (((uS M64n r3.st).1 : Nat) : Int), I.zero, (none, 0), [], 0, ByteArray.mk #[], 0, 0, (none, 0), [], 0, 0, (flagS re.st).1, mq, (prsS r4.st).1, eq, es, tq, ts⟩ : Mg), rt) rfl ⟨⟨.nil .., .nil .., mM, eM.1, tM.1, Nat.zero_le _, Nat.zero_le _, Nat.le_trans ml (by decide), el, tl⟩, ⟨Nat.le_refl _, Nat.le_refl _, mC, eM.2, tM.2⟩, ?_, tO, ?_⟩ C
  · rw [← hM]
  · rw [← hM]
theorem c_rdmsg_8f (b bm : Nat) (r : Rd) (hH : (flagS (evsS (rndS r.st)).2).1 = false) : RdM b bm r 8 := by
  refine Ctr.mk fun w F m C hr => x_rdmsg _ _ w _ ⟨8, C.swap.blkCell (j := 0) rfl, ?_⟩
  repeat (first | rw [if_pos (by decide)] | rw [if_neg (by decide)])
  intro wa La ha ga
  replace C := C.hidL ha ga
  refine (c_rdround b bm r _).call (As := []) C hr fun r1 m1 w1 hk hm1 p1 C => ⟨rfl, hk, ?_⟩
  replace C : Ctx F m w w1 La m1 [rA b r1, blk bm (⟨8, (((bS r.st).1.toNat : Nat) : Int), 0, (((uS 4294967295 (bS r.st).2).1 : Nat) : Int), 0, 0, 0, (((uS M64n (uS 4294967295 (bS r.st).2).2).1 : Nat) : Int), 0, I.zero, (none, 0), [], 0, ByteArray.mk #[], 0, 0, (none, 0), [], 0, 0, false, (none, 0), [], (none, 0), [], (none, 0), []⟩ : Mg).row 59] := C
  refine (c_eGetAll b r1).call (As := [_]) C p1.1 fun p m2 w2 hk hm2 p2 C => ⟨_, _, _, rfl, hk, rfl, ?_⟩
  obtain ⟨eq, es, re⟩ := p
  obtain ⟨eM, eE, eO, eS⟩ := p2
  replace C : Ctx F m w w2 La m2 [rA b re, blk bm (⟨8, (((bS r.st).1.toNat : Nat) : Int), 0, (((uS 4294967295 (bS r.st).2).1 : Nat) : Int), 0, 0, 0, (((uS M64n (uS 4294967295 (bS r.st).2).2).1 : Nat) : Int), 0, I.zero, (none, 0), [], 0, ByteArray.mk #[], 0, 0, (none, 0), [], 0, 0, false, (none, 0), [], (none, 0), [], (none, 0), []⟩ : Mg).row 59] := C
  have C1 := mgPut C 29 [slV eq es.length] (Nat.le_of_ble_eq_true rfl) (⟨8, (((bS r.st).1.toNat : Nat) : Int), 0, (((uS 4294967295 (bS r.st).2).1 : Nat) : Int), 0, 0, 0, (((uS M64n (uS 4294967295 (bS r.st).2).2).1 : Nat) : Int), 0, I.zero, (none, 0), [], 0, ByteArray.mk #[], 0, 0, (none, 0), [], 0, 0, false, (none, 0), [], eq, es, (none, 0), []⟩ : Mg) rfl
  refine ⟨mgThere C 29 1 (by decide), mgNot C, ?_⟩
  replace C := C1; clear C1
  have el := es_len (m := m) (q := eq) eE
  refine (c_rdflag b re).call (As := [_]) C eO fun r3 m3 w3 hk hm3 p3 C => ⟨_, rfl, hk, rfl, ?_⟩
  replace eM := eM.mono hm3
  replace C : Ctx F m w w3 La m3 [rA b r3, blk bm (⟨8, (((bS r.st).1.toNat : Nat) : Int), 0, (((uS 4294967295 (bS r.st).2).1 : Nat) : Int), 0, 0, 0, (((uS M64n (uS 4294967295 (bS r.st).2).2).1 : Nat) : Int), 0, I.zero, (none, 0), [], 0, ByteArray.mk #[], 0, 0, (none, 0), [], 0, 0, false, (none, 0), [], eq, es, (none, 0), []⟩ : Mg).row 59] := C
  have C1 := mgPut C 27 [.bool (flagS re.st).1] (Nat.le_of_ble_eq_true rfl) (⟨8, (((bS r.st).1.toNat : Nat) : Int), 0, (((uS 4294967295 (bS r.st).2).1 : Nat) : Int), 0, 0, 0, (((uS M64n (uS 4294967295 (bS r.st).2).2).1 : Nat) : Int), 0, I.zero, (none, 0), [], 0, ByteArray.mk #[], 0, 0, (none, 0), [], 0, 0, (flagS re.st).1, (none, 0), [], eq, es, (none, 0), []⟩ : Mg) rfl
  refine ⟨mgThere C 27 1 (by decide), mgNot C, ?_⟩
  replace C := C1; clear C1
  have hh0 : (flagS re.st).1 = false := by rw [eS, p1.2]; exact hH
  refine ⟨_, C.swap.blkCell (j := 27) rfl, mgNot C, ?_⟩
  rw [if_neg (show ¬ ((flagS re.st).1 = true) by rw [hh0]; decide)]
  have hM : ((⟨8, (((bS r.st).1.toNat : Nat) : Int), 0, (((uS 4294967295 (bS r.st).2).1 : Nat) : Int), 0, 0, 0, (((uS M64n (uS 4294967295 (bS r.st).2).2).1 : Nat) : Int), 0, I.zero, (none, 0), [], 0, ByteArray.mk #[], 0, 0, (none, 0), [], 0, 0, (flagS re.st).1, (none, 0), [], eq, es, (none, 0), []⟩ : Mg).er, r3.st) = msgG 8 r.st := by
    simp only [Mg.er]
    rw [p3.2, eE, eS, p1.2]
    have h8 : msgG 8 r.st = msgH (foldG (fldS 8) (Mv.z 8) r.st) 8 := rfl
    have hx : (foldG (fldS 8) (Mv.z 8) r.st).1.has = (flagS (evsS (rndS r.st)).2).1 := rfl
    rw [h8, msgH, if_neg (fun h => by rw [hx, hH] at h; exact absurd h.2 (by decide))]
    rfl
  refine Ctr.ret (m' := m3) (L := La) ((⟨8, (((bS r.st).1.toNat : Nat) : Int), 0, (((uS 4294967295 (bS r.st).2).1 : Nat) : Int), 0, 0, 0, (((uS M64n (uS 4294967295 (bS r.st).2).2).1 : Nat) : Int), 0, I.zero, (none, 0), [], 0, ByteArray.mk #[], 0, 0, (none, 0), [], 0, 0, (flagS re.st).1, (none, 0), [], eq, es, (none, 0), []⟩ : Mg), r3) rfl ⟨⟨.nil .., .nil .., .nil .., eM.1, esNil _, Nat.zero_le _, Nat.zero_le _, Nat.zero_le _, el, Nat.zero_le _⟩, ⟨Nat.le_refl _, Nat.le_refl _, Nat.le_refl _, eM.2, (fun _ h => nomatch h)⟩, ?_, p3.1, ?_⟩ C
  · rw [← hM]
  · rw [← hM]
theorem c_rdmsg_8 (b bm : Nat) (r : Rd) : RdM b bm r 8 := by
  cases h : (flagS (evsS (rndS r.st)).2).1
  · exact c_rdmsg_8f b bm r h
  · exact c_rdmsg_8t b bm r h
theorem mz_M (m : Mem) (k : Int) : MgM m (Mg.z k) ∧ MgC (Mg.z k) := ⟨⟨.nil .., .nil .., .nil .., esNil _, esNil _, Nat.zero_le _, Nat.zero_le _, Nat.zero_le _, Nat.zero_le _, Nat.zero_le _⟩, ⟨Nat.le_refl _, Nat.le_refl _, Nat.le_refl _, (fun _ h => nomatch h), (fun _ h => nomatch h)⟩⟩
theorem c_rdmsg_x (b bm : Nat) (r : Rd) (k : Int) (hk : 13 < k) : RdM b bm r k := by
  refine Ctr.mk fun w F m C hr => x_rdmsg _ _ w _ ⟨k, C.swap.blkCell (j := 0) rfl, ?_⟩
  repeat (rw [if_neg (by simp only [beq_iff_eq]; omega)])
  intro wa ha
  have hM : msgG k r.st = ((Mg.z k).er, r.st) := by
    rw [msgG, fldSo (by omega), foldG, msgH, if_neg (by omega)]; rfl
  refine Ctr.ret (m' := m) (L := []) (Mg.z k, r) (by rw [decide_eq_false (by omega)]) ⟨(mz_M m k).1, (mz_M m k).2, by rw [hM], hr, by rw [hM]⟩ (C.hid0 ha)
theorem c_rdmsg (b bm : Nat) (r : Rd) (k : Int) (h0 : 0 ≤ k) : RdM b bm r k := by
  have hk : k = 0 ∨ k = 1 ∨ k = 2 ∨ k = 3 ∨ k = 4 ∨ k = 5 ∨ k = 6 ∨ k = 7 ∨ k = 8 ∨ k = 9 ∨ k = 10 ∨ k = 11 ∨ k = 12 ∨ k = 13 ∨ 13 < k := by omega
  rcases hk with rfl | rfl | rfl | rfl | rfl | rfl | rfl | rfl | rfl | rfl | rfl | rfl | rfl | rfl | h
  · exact c_rdmsg_0 b bm r
  · exact c_rdmsg_1 b bm r
  · exact c_rdmsg_2 b bm r
  · exact c_rdmsg_3 b bm r
  · exact c_rdmsg_4 b bm r
  · exact c_rdmsg_5 b bm r
  · exact c_rdmsg_6 b bm r
  · exact c_rdmsg_7 b bm r
  · exact c_rdmsg_8 b bm r
  · exact c_rdmsg_9 b bm r
  · exact c_rdmsg_10 b bm r
  · exact c_rdmsg_11 b bm r
  · exact c_rdmsg_12 b bm r
  · exact c_rdmsg_13 b bm r
  · exact c_rdmsg_x b bm r k h
end Go.Proofs
namespace Go.Proofs
open Go X RowKit
/-! ### what is read lies in its ranges -/
theorem nat_in {n k : Nat} (h : n < k) : 0 ≤ ((n : Nat) : Int) ∧ ((n : Nat) : Int) < (k : Int) := by omega
theorem b_in (s : St) : 0 ≤ (((bS s).1.toNat : Nat) : Int) ∧ (((bS s).1.toNat : Nat) : Int) < 256 := nat_in (bS_lt s)
theorem u32_in (s : St) : 0 ≤ (((uS 4294967295 s).1 : Nat) : Int) ∧ (((uS 4294967295 s).1 : Nat) : Int) < 4294967296 := nat_in (k := 4294967296) (by have := uS_lt 4294967295 s (by decide); omega)
theorem u16_in (s : St) : 0 ≤ (((uS 65535 s).1 : Nat) : Int) ∧ (((uS 65535 s).1 : Nat) : Int) < 65536 := nat_in (k := 65536) (by have := uS_lt 65535 s (by decide); omega)
theorem u64_in (s : St) : 0 ≤ (((uS M64n s).1 : Nat) : Int) ∧ (((uS M64n s).1 : Nat) : Int) < 18446744073709551616 := nat_in (k := 18446744073709551616) (by have : (uS M64n s).1 ≤ 18446744073709551615 := uS_lt 18446744073709551615 s (by decide); omega)
theorem textS_len (most : Nat) (hm : most < 18446744073709551616) (s : St) : (textS most s).1.length ≤ most := by
  have h := uS_lt most s hm
  simp only [textS]
  split
  · exact Nat.zero_le _
  · split
    · exact Nat.zero_le _
    · simp only [List.length_take]; omega
theorem tx_in (most : Nat) (hm : most ≤ 281474976710656) (s : St) : (toBA (textS most s).1).size ≤ 281474976710656 := by
  have h := textS_len most (by omega) s
  rw [toBA_size]; omega
theorem zag_in {v : Nat} (h : v < 18446744073709551616) : -9223372036854775808 ≤ zagN v ∧ zagN v ≤ 9223372036854775807 := by
  unfold zagN; split <;> omega
theorem put_in {x : I} (hx : x.In) (i : Nat) {g j : Int} (hg : 0 ≤ g ∧ g < 256) (hj : 0 ≤ j ∧ j < 256) : (x.put i g j).In := by
  unfold I.put
  split
  · exact ⟨hx.n, hx.l, hx.s, hx.d, hg, hj, hx.g1, hx.i1, hx.g2, hx.i2⟩
  · split
    · exact ⟨hx.n, hx.l, hx.s, hx.d, hx.g0, hx.i0, hg, hj, hx.g2, hx.i2⟩
    · exact ⟨hx.n, hx.l, hx.s, hx.d, hx.g0, hx.i0, hx.g1, hx.i1, hg, hj⟩
theorem stS_in : ∀ (k i : Nat) (x : I) (s : St), x.In → (stS k i x s).1.In
  | 0, _, x, s, h => h
  | k + 1, i, x, s, h => stS_in k (i + 1) _ _ (put_in h i (b_in s) (b_in (bS s).2))
theorem idH_in (s : St) : (idH s).1.In := by
  have h0 : 0 ≤ (0 : Int) ∧ (0 : Int) < 256 := by decide
  exact ⟨b_in s, u16_in (bS s).2, u32_in _, b_in _, h0, h0, h0, h0, h0, h0⟩
theorem idS_in (s : St) : (idS s).1.In := by
  unfold idS; split
  · exact idH_in s
  · exact stS_in _ _ _ _ (idH_in s)
theorem ptS_in (s : St) : PtIn (ptS s).1 := ⟨b_in s, b_in _, zag_in (by have : (uS M64n (textS 255 (textS 255 (bS (bS s).2).2).2).2).1 ≤ 18446744073709551615 := uS_lt 18446744073709551615 _ (by decide); omega), tx_in 255 (by decide) _, tx_in 255 (by decide) _⟩
theorem prS_in (s : St) : PrW (prS s).1 := ⟨b_in s, u16_in (bS s).2⟩
theorem someS_all {α : Type} {P : α → Prop} {g : St → α × St} (h : ∀ s, P (g s).1) : ∀ (n : Nat) (s : St), ∀ x ∈ (someS g n s).1, P x
  | 0, s, x, hx => by cases hx
  | n + 1, s, x, hx => by
    rw [someS] at hx
    split at hx
    · cases hx
    · rcases List.mem_cons.1 hx with rfl | hx
      · exact h s
      · exact someS_all h n _ x hx
theorem okE_all {α : Type} {P : α → Prop} {p : List α × St} (h : ∀ x ∈ p.1, P x) : ∀ x ∈ (okE p).1, P x := by
  unfold okE; split
  · intro x hx; cases hx
  · exact h
theorem z8 : 0 ≤ (0 : Int) ∧ (0 : Int) < 256 := by decide
theorem z16 : 0 ≤ (0 : Int) ∧ (0 : Int) < 65536 := by decide
theorem z32 : 0 ≤ (0 : Int) ∧ (0 : Int) < 4294967296 := by decide
theorem z64 : 0 ≤ (0 : Int) ∧ (0 : Int) < 18446744073709551616 := by decide
theorem zeroI_in : I.zero.In := ⟨z8, z16, z32, z8, z8, z8, z8, z8, z8, z8⟩
theorem zeroE_in (k : Int) (hk : 0 ≤ k ∧ k < 256) : EvIn (Ev.zero k) := by
  exact ⟨hk, zeroI_in, z32, by simp [Ev.zero], z8, Nat.zero_le _, z8, z16⟩
theorem ptsS_in (s : St) : ∀ p ∈ (ptsS s).1, PtIn p := someS_all ptS_in _ _
theorem prsS_in (s : St) : ∀ p ∈ (prsS s).1, PrW p := okE_all (someS_all prS_in _ _)
theorem evC_in (k : Int) (hk : 0 ≤ k ∧ k < 256) (s : St) : EvIn (evC k s).1 := { zeroE_in k hk with id := idS_in _, fl := u32_in _, ps := ptsS_in _ }
theorem evS_in (s : St) : EvIn (evS s).1 := by
  unfold evS
  simp only
  split
  · exact zeroE_in 0 (by decide)
  · split
    · exact { evC_in 3 (by decide) (bS s).2 with rc := b_in _, rv := tx_in 1000 (by decide) _ }
    · split
      · exact evC_in 0 (by decide) _
      · split
        · exact { zeroE_in 1 (by decide) with id := idS_in _, rc := b_in _, rv := tx_in 1000 (by decide) _ }
        · split
          · exact { zeroE_in 2 (by decide) with vn := b_in _, vl := u16_in _ }
          · exact zeroE_in _ (b_in s)
theorem evsS_in (s : St) : ∀ e ∈ (evsS s).1, EvIn e := okE_all (someS_all evS_in _ _)
theorem vwS_in (s : St) : (0 ≤ (vwS s).1.1 ∧ (vwS s).1.1 < 256) ∧ (0 ≤ (vwS s).1.2.1 ∧ (vwS s).1.2.1 < 4294967296) ∧ ∀ p ∈ (vwS s).1.2.2, PrW p := by
  simp only [vwS]
  split
  · exact ⟨z8, z32, by simp⟩
  · exact ⟨b_in s, u32_in _, prsS_in _⟩
theorem prw_n {l : List Pr} (h : ∀ p ∈ l, PrW p) : ∀ p ∈ l, 0 ≤ p.n := fun p hp => (h p hp).n.1
theorem mz_in (k : Int) (hk : 0 ≤ k ∧ k < 256) : MvF (Mv.z k) := by
  exact ⟨⟨zeroI_in, by simp [Mv.z], by simp [Mv.z], by simp [Mv.z], by simp [Mv.z], by simp [Mv.z], z8, z32.1, z32, hk, z64, z64⟩, z8, z32, z32, z64, z8, z8, z32.2, z32.2, by simp [Mv.z], by simp [Mv.z], z8, z16⟩
theorem u32_64 (s : St) : 0 ≤ (((uS 4294967295 s).1 : Nat) : Int) ∧ (((uS 4294967295 s).1 : Nat) : Int) < 18446744073709551616 := by have := u32_in s; omega
theorem getL_in {x : Mv} (h : MvF x) (c : Int) (s : St) : MvF (getL x c s).1 := by
  have hv := vwS_in s
  unfold getL
  by_cases h103 : c = 103
  · rw [if_pos h103]; exact { h with gr := b_in s }
  rw [if_neg h103]
  by_cases h105 : c = 105
  · rw [if_pos h105]; exact { h with id := idS_in s }
  rw [if_neg h105]
  by_cases h102 : c = 102
  · rw [if_pos h102]; exact { h with fl := u32_in s }
  rw [if_neg h102]
  by_cases h112 : c = 112
  · rw [if_pos h112]; exact { h with ps := ptsS_in s }
  rw [if_neg h112]
  by_cases h114 : c = 114
  · rw [if_pos h114]; exact { h with rc := b_in s }
  rw [if_neg h114]
  by_cases h118 : c = 118
  · rw [if_pos h118]; exact { h with vg := hv.1, vn := hv.2.1.1, vn32 := hv.2.1.2, vm := prw_n hv.2.2, vmW := hv.2.2 }
  rw [if_neg h118]
  by_cases h99 : c = 99
  · rw [if_pos h99]; exact { h with co := b_in s }
  rw [if_neg h99]
  by_cases h110 : c = 110
  · rw [if_pos h110]; exact { h with nn := u32_64 s, nn32 := (u32_in s).2 }
  rw [if_neg h110]
  by_cases h97 : c = 97
  · rw [if_pos h97]; exact { h with fr := u32_in s }
  rw [if_neg h97]
  by_cases h107 : c = 107
  · rw [if_pos h107]; exact { h with cm := u32_in s }
  rw [if_neg h107]
  by_cases h101 : c = 101
  · rw [if_pos h101]; exact { h with es := evsS_in s }
  rw [if_neg h101]
  by_cases h98 : c = 98
  · rw [if_pos h98]; exact { h with ba := u64_in s }
  rw [if_neg h98]
  by_cases h104 : c = 104
  · rw [if_pos h104]; exact { h with }
  rw [if_neg h104]
  by_cases h120 : c = 120
  · rw [if_pos h120]; exact { h with ac := u64_in s }
  rw [if_neg h120]
  by_cases h109 : c = 109
  · rw [if_pos h109]; exact { h with ms := prw_n (prsS_in s), msW := prsS_in s, ts := evsS_in _ }
  rw [if_neg h109]
  by_cases h115 : c = 115
  · rw [if_pos h115]; exact { h with pn := b_in s, pl := u16_in _ }
  rw [if_neg h115]
  exact h
theorem foldG_in : ∀ (l : List UInt8) (x : Mv) (s : St), MvF x → MvF (foldG l x s).1
  | [], x, s, h => h
  | c :: l, x, s, h => foldG_in l _ _ (getL_in h _ s)
theorem msgG_in (k : Int) (hk : 0 ≤ k ∧ k < 256) (s : St) : MvF (msgG k s).1 := by
  unfold msgG msgH
  split
  · exact foldG_in _ _ _ (foldG_in _ _ _ (mz_in k hk))
  · exact foldG_in _ _ _ (mz_in k hk)
/-! ### a message out of bytes -/
def rdE (a : Mv × St) : Mv × Int := if endS a.2 ≠ 0 then (Mv.z 0, endS a.2) else if a.1.right = true then (a.1, 0) else (Mv.z 0, 6)
def rdS (l : List UInt8) : Mv × Int :=
  if l.length > 524288 then (Mv.z 0, 5)
  else if (bS (l, 0)).2.2 ≠ 0 ∨ (bS (l, 0)).1.toNat > 13 then (Mv.z 0, 6)
  else rdE (msgG (((bS (l, 0)).1.toNat : Nat) : Int) (bS (l, 0)).2)
theorem rdE_err {a : Mv × St} (h : endS a.2 ≠ 0) : rdE a = (Mv.z 0, endS a.2) := if_pos h
theorem rdE_ok {a : Mv × St} (h : endS a.2 = 0) (h2 : a.1.right = true) : rdE a = (a.1, 0) := by rw [rdE, if_neg (fun hc => hc h), if_pos h2]
theorem rdE_no {a : Mv × St} (h : endS a.2 = 0) (h2 : ¬ a.1.right = true) : rdE a = (Mv.z 0, 6) := by rw [rdE, if_neg (fun hc => hc h), if_neg h2]
theorem rdS_in (l : List UInt8) : MvF (rdS l).1 := by
  unfold rdS
  split
  · exact mz_in 0 (by decide)
  · split
    · exact mz_in 0 (by decide)
    · unfold rdE
      split
      · exact mz_in 0 (by decide)
      · split
        · exact msgG_in _ (b_in _) _
        · exact mz_in 0 (by decide)
theorem c_Read7 (q : Sl) (l : List UInt8) (hl : l.length ≤ 100000000) : Ctr Tryz.prog 10 #[slV q l.length] (fun m => bsM m q l) [] (fun p : Mg => .tuple #[.agg p.row.toArray, .int .i64 (rdS l).2]) (fun p m => MgM m p ∧ MgC p ∧ p.er = (rdS l).1) (fun _ => []) := by
  refine Ctr.mk fun w F m C hs => x_Read7 _ _ _ w _ ?_
  have zero : ∀ (m2 : Mem) (w2 : World) (e : Int), rdS l = (Mv.z 0, e) → Ctx F m w w2 [] m2 [] → ∃ (p : Mg) (m' : Mem) (L : List Nat), Ending.returned (.tuple #[.agg (Mg.z 0).row.toArray, .int .i64 e]) = .returned (.tuple #[.agg p.row.toArray, .int .i64 (rdS l).2]) ∧ (MgM m' p ∧ MgC p ∧ p.er = (rdS l).1) ∧ Ctx F m w w2 L m' [] := fun m2 w2 e h C => by
    rw [h]; exact ⟨Mg.z 0, m2, [], rfl, ⟨(mz_M m2 0).1, (mz_M m2 0).2, rfl⟩, C⟩
  by_cases hbig : l.length > 524288
  · rw [if_pos (by simp only [decide_eq_true_eq]; omega)]
    exact fun w110 h110 => zero m w110 5 (by rw [rdS, if_pos hbig]) (C.hid0 h110)
  rw [if_neg (by simp only [decide_eq_true_eq]; omega)]
  intro w1 L2 h1 g1
  refine (c_Read1 q l hl).call (As := []) (C.hidL h1 g1) hs fun p m1 w4 hk hm1 p1 C => ⟨_, rfl, hk, fun w6 L7 h6 g6 => ?_⟩
  obtain ⟨b, r⟩ := p
  obtain ⟨hr, hst⟩ := p1
  simp only at hr hst C ⊢
  refine (c_RB b r).call (As := []) (C.hidL h6 g6) hr fun r1 m2 w9 hk hm2 p2 C => ⟨_, rfl, hk, trivial, ?_⟩
  have D := C.alloc (Mg.z 0).row 59
  refine ⟨D.there 0 31 (by decide), D.blkAt.2, ?_⟩
  have D1 := D.store 0 (Mg.z (((bS r.st).1.toNat : Nat) : Int)).row (Nat.le_of_ble_eq_true rfl)
  replace D1 : Ctx F m w _ L7 m2 [blk w9.heap.size (Mg.z (((bS r.st).1.toNat : Nat) : Int)).row 59, rA b r1] := D1
  replace D1 := D1.swap
  generalize hK : (bS r.st).1.toNat = K at D1 ⊢
  have hK256 : K < 256 := by rw [← hK]; exact bS_lt _
  refine (c_RErr b r1).call (As := [_]) D1 trivial fun _ m3 w12 hk hm3 _ C => ⟨_, rfl, hk, ?_⟩
  have hS : rdS l = if r1.e ≠ 0 ∨ K > 13 then (Mv.z 0, 6) else rdE (msgG (K : Int) r1.st) := by
    rw [rdS, if_neg hbig, ← hst, hK, ← p2.2]; rfl
  by_cases he : r1.e = 0
  rotate_left
  · rw [if_neg (by simp [he])]
    exact fun w14 h14 => zero m3 w14 6 (by rw [hS, if_pos (.inl he)]) (Ctx.pk (C.hid0 h14) [] [0, 1] rfl)
  rw [if_pos (by simp [he])]
  replace C : Ctx F m w w12 L7 m3 [rA b r1, blk w9.heap.size (Mg.z (K : Int)).row 59] := C
  refine (c_rdmsg b w9.heap.size r1 (K : Int) (by omega)).call (As := []) C (p2.1.mono hm3) fun p m4 w16 hk hm4 p4 C => ⟨_, rfl, hk, ?_⟩
  by_cases h13 : K ≤ 13
  rotate_left
  · rw [if_pos (by rw [decide_eq_false (by omega)]; rfl)]
    exact fun w109 h109 => zero m4 w109 6 (by rw [hS, if_pos (.inr (by omega))]) (Ctx.pk (C.hid0 h109) [] [0, 1] rfl)
  rw [if_neg (by rw [decide_eq_true (by omega)]; decide)]
  rw [if_neg (by omega)] at hS
  obtain ⟨x, r2⟩ := p
  obtain ⟨xM, xC, xE, xO, xS⟩ := p4
  simp only at xM xC xE xO xS C ⊢
  have hG : msgG (K : Int) r1.st = (x.er, r2.st) := by rw [xE, xS]
  rw [hG] at hS
  have xI : MvF x.er := by rw [xE]; exact msgG_in _ ⟨by omega, by omega⟩ _
  refine (c_REnd b r2).call (As := [_]) C trivial fun _ m5 w19 hk hm5 _ C => ⟨_, rfl, hk, ?_⟩
  by_cases hend : endS r2.st = 0
  rotate_left
  · rw [if_pos (by simp [hend])]
    exact fun w108 h108 => zero m5 w108 (endS r2.st) (by rw [hS, rdE_err hend]) (Ctx.pk (C.hid0 h108) [] [0, 1] rfl)
  rw [if_neg (by simp [hend])]
  replace C : Ctx F m w w19 L7 m5 [rA b r2, blk w9.heap.size x.row 59] := C
  refine ⟨_, _, _, _, _, _, _, _, _, _, _, _, _, _, _, _, _, _, _, _, _, _, _, _, _, _, _, _, _, _, _, _, _, _, _, _, _, _, _, _, _, C.swap.blkCells (o := 0) (vs := x.row) (fun j v e => by simpa using e), mgNot C, ?_⟩
  refine (c_mRight x xI.toMvIn).call (As := [_, _]) C (xM.mono hm5) fun _ m6 w63 hk hm6 _ C => ⟨_, rfl, hk, ?_⟩
  by_cases hrt : x.er.right = true
  rotate_left
  · rw [if_pos (by rw [Bool.eq_false_iff.2 hrt]; rfl)]
    exact fun w107 h107 => zero m6 w107 6 (by rw [hS, rdE_no hend hrt]) (Ctx.pk (C.hid0 h107) [] [0, 1] rfl)
  rw [if_neg (by rw [hrt]; decide)]
  replace C : Ctx F m w w63 L7 m6 [rA b r2, blk w9.heap.size x.row 59] := C
  refine ⟨_, _, _, _, _, _, _, _, _, _, _, _, _, _, _, _, _, _, _, _, _, _, _, _, _, _, _, _, _, _, _, _, _, _, _, _, _, _, _, _, _, C.swap.blkCells (o := 0) (vs := x.row) (fun j v e => by simpa using e), mgNot C, fun w106 h106 => ?_⟩
  rw [rdE_ok hend hrt] at hS
  rw [hS]
  exact ⟨x, m6, [], rfl, ⟨(xM.mono hm5).mono hm6, xC, rfl⟩, Ctx.pk (C.hid0 h106) [] [0, 1] rfl⟩
end Go.Proofs
namespace Go.Proofs
open Go X RowKit
/-! ### the document's readers, piece by piece -/
/-! ### identities -/
theorem put_d (x : I) (i : Nat) (g j : Int) : (x.put i g j).d = x.d := by
  unfold I.put; split
  · rfl
  · split <;> rfl
end Go.Proofs
namespace Go.Proofs
open Go X RowKit
/-! ### the document's reader of entries -/
theorem some_okstep {α : Type} {g : St → α × St} (k : Nat) (s : St) (h : (g s).2.2 = 0) : someS g (k + 1) s = ((g s).1 :: (someS g k (g s).2).1, (someS g k (g s).2).2) := by
  rw [someS, if_neg (fun hc => hc h)]
end Go.Proofs
namespace Go.Proofs
open Go X RowKit
/-! ### the document's reader of messages -/
theorem getL_kd (x : Mv) (c : Int) (s : St) : (getL x c s).1.kd = x.kd := by
  unfold getL
  by_cases h103 : c = 103
  · rw [if_pos h103]
  rw [if_neg h103]
  by_cases h105 : c = 105
  · rw [if_pos h105]
  rw [if_neg h105]
  by_cases h102 : c = 102
  · rw [if_pos h102]
  rw [if_neg h102]
  by_cases h112 : c = 112
  · rw [if_pos h112]
  rw [if_neg h112]
  by_cases h114 : c = 114
  · rw [if_pos h114]
  rw [if_neg h114]
  by_cases h118 : c = 118
  · rw [if_pos h118]
  rw [if_neg h118]
  by_cases h99 : c = 99
  · rw [if_pos h99]
  rw [if_neg h99]
  by_cases h110 : c = 110
  · rw [if_pos h110]
  rw [if_neg h110]
  by_cases h97 : c = 97
  · rw [if_pos h97]
  rw [if_neg h97]
  by_cases h107 : c = 107
  · rw [if_pos h107]
  rw [if_neg h107]
  by_cases h101 : c = 101
  · rw [if_pos h101]
  rw [if_neg h101]
  by_cases h98 : c = 98
  · rw [if_pos h98]
  rw [if_neg h98]
  by_cases h104 : c = 104
  · rw [if_pos h104]
  rw [if_neg h104]
  by_cases h120 : c = 120
  · rw [if_pos h120]
  rw [if_neg h120]
  by_cases h109 : c = 109
  · rw [if_pos h109]
  rw [if_neg h109]
  by_cases h115 : c = 115
  · rw [if_pos h115]
  rw [if_neg h115]
end Go.Proofs
namespace Go.Proofs
open Go X RowKit
/-! ### conversions: their slices have room -/
theorem c_PartsC (q : Sl) (l : List Pt) (hl : l.length * 48 ≤ 140737488355328) : Ctr Tryz.prog 24 #[slV q l.length] (fun m => MSrc m 5 (slV q l.length) l.length (l.flatMap Pt.row)) [] (fun p : Sl => slV p l.length) (fun p m => MSrc m 5 (slV p l.length) l.length (l.flatMap Pt.row) ∧ l.length ≤ p.2) (fun _ => []) := by
  refine Ctr.mk fun w F m C hp => x_Parts _ _ _ w _ ?_
  refine ⟨fun p k c i w' _ => ∃ (j : Nat) (m' : Mem), i = j ∧ j = k ∧ j ≤ l.length ∧ m.le m' ∧ Ctx F m w w' [] m' [slA (.slice p j c) j ((l.take j).flatMap Pt.row) 138 5], fun _ _ _ i _ => (l.length - i).toNat, ⟨0, m, rfl, rfl, by omega, Mem.le_refl _, C.slNil⟩, ?_⟩
  clear C
  rintro p k c i w7 L8 _ ⟨j, m', rfl, rfl, hj, hm, D⟩
  by_cases hjl : j < l.length
  · rw [if_pos (by simpa using hjl)]
    refine ⟨by omega, by simpa using hjl, ?_⟩
    obtain ⟨a, ha, hc⟩ := (hp.mono hm).elem pt_len hjl
    have ha : q.1 = some a := ha
    rw [ha, onSome_some]
    refine ⟨_, _, _, _, _, D.cells hc, ?_⟩
    refine D.gives (c_Part l[j]) fun w16 k16 D => ⟨_, _, _, _, _, rfl, k16.size, ?_⟩
    have D1 := (D.alloc l[j].row 138).swap
    have hcl : Cells _ ⟨w16.heap.size, 0, none⟩ l[j].row := (D.alloc l[j].row 138).blkCells (o := 0) fun k v e => by simpa using e
    obtain ⟨q2, c2, w25, hr, hkk, D2⟩ := D1.app2 (P := Tryz.prog) (bytes := 48) (t := 52) (t2 := 52) 52 (by kernel_rfl) (.some ⟨w16.heap.size, 0, none⟩ 1 1 l[j].row rfl hcl) (by unfold maxLen; omega) (by omega) (pt_one _)
    have e : IntKind.wrap .i64 ((j : Int) + 1) = ((j + 1 : Nat) : Int) := by rw [w_i64 (by omega) (by omega)]; omega
    refine ⟨q2, j + 1, c2, w25, hr, hkk.size, ?_⟩
    rw [e]
    refine ⟨⟨j + 1, m', rfl, rfl, hjl, hm, ?_⟩, Nat.le_of_eq (by show ((l.length : Int) - ((j + 1 : Nat) : Int)).toNat + 1 = ((l.length : Int) - (j : Int)).toNat; omega)⟩
    have e2 : (l.take (j + 1)).flatMap Pt.row = (l.take j).flatMap Pt.row ++ l[j].row := by rw [List.take_succ_eq_append_getElem hjl, List.flatMap_append]; simp
    rw [e2]
    exact Ctx.noL (D2.pk [0] [1] rfl)
  · rw [if_neg (by simpa using hjl)]
    have hj2 : j = l.length := by omega
    subst hj2
    rw [List.take_length] at D
    have hcap := D.slCap.1
    obtain ⟨m2, hm2, hs, D2⟩ := D.slShare
    exact Ctr.ret (m' := m2) (L := []) (p, c) rfl ⟨hs, hcap⟩ D2.noL
theorem c_OwnWC (q : Sl) (l : List Wr) (hl : l.length * 40 ≤ 140737488355328) : Ctr Tryz.prog 123 #[slV q l.length] (fun m => MSrc m 3 (slV q l.length) l.length (l.flatMap Wr.row)) [] (fun p : Sl => slV p l.length) (fun p m => MSrc m 3 (slV p l.length) l.length (l.flatMap Wr.row) ∧ l.length ≤ p.2) (fun _ => []) := by
  refine Ctr.mk fun w F m C hp => x_OwnW _ _ _ w _ ?_
  refine ⟨fun p k c i w' _ => ∃ (j : Nat) (m' : Mem), i = j ∧ j = k ∧ j ≤ l.length ∧ m.le m' ∧ Ctx F m w w' [] m' [slA (.slice p j c) j ((l.take j).flatMap Wr.row) 214 3], fun _ _ _ i _ => (l.length - i).toNat, ⟨0, m, rfl, rfl, by omega, Mem.le_refl _, C.slNil⟩, ?_⟩
  clear C
  rintro p k c i w7 L8 _ ⟨j, m', rfl, rfl, hj, hm, D⟩
  by_cases hjl : j < l.length
  · rw [if_pos (by simpa using hjl)]
    obtain ⟨a, ha, hc⟩ := (hp.mono hm).elem wr_len hjl
    have ha : q.1 = some a := ha
    have hfw : ∀ {w' As}, Ctx F m w w' [] m' As → FactsW [((a.add (j * 3)).add 0, [.string l[j].key]), ((a.add (j * 3)).add 1, [.string l[j].val]), ((a.add (j * 3)).add 2, [.bool l[j].has])] w' [] := fun D =>
      D.memFact (mcells_part hc 0 _ (fun k v e => by match k, e with | 0, e => exact e)) (D.memFact (mcells_part hc 1 _ (fun k v e => by match k, e with | 0, e => exact e)) (D.memFact (mcells_part hc 2 _ (fun k v e => by match k, e with | 0, e => exact e)) (facts_nil _ _)))
    refine ⟨_, hfw D, by omega, by simpa using hjl, ?_⟩
    rw [ha, onSome_some]
    refine ⟨l[j].key, by rw [Int.toNat_natCast]; simp, by omega, by simpa using hjl, ?_⟩
    rw [onSome_some]
    refine ⟨l[j].val, by rw [Int.toNat_natCast]; simp, by omega, by simpa using hjl, ?_⟩
    rw [onSome_some]
    refine ⟨l[j].has, by rw [Int.toNat_natCast]; simp, fun w16 h16 => ?_⟩
    replace D := D.hid0 h16
    have D1 := (D.alloc l[j].row 214).swap
    have hcl : Cells _ ⟨w16.heap.size, 0, none⟩ l[j].row := (D.alloc l[j].row 214).blkCells (o := 0) fun k v e => by simpa using e
    obtain ⟨q2, c2, w25, hr, hkk, D2⟩ := D1.app2 (P := Tryz.prog) (bytes := 40) (t := 140) (t2 := 140) 140 (by kernel_rfl) (.some ⟨w16.heap.size, 0, none⟩ 1 1 l[j].row rfl hcl) (by unfold maxLen; omega) (by omega) (wr_one _)
    have e : IntKind.wrap .i64 ((j : Int) + 1) = ((j + 1 : Nat) : Int) := by rw [w_i64 (by omega) (by omega)]; omega
    refine ⟨hfw D1, q2, j + 1, c2, w25, hr, hkk.size, hfw D2, ?_⟩
    rw [e]
    refine ⟨⟨j + 1, m', rfl, rfl, hjl, hm, ?_⟩, Nat.le_of_eq (by show ((l.length : Int) - ((j + 1 : Nat) : Int)).toNat + 1 = ((l.length : Int) - (j : Int)).toNat; omega)⟩
    have e2 : (l.take (j + 1)).flatMap Wr.row = (l.take j).flatMap Wr.row ++ l[j].row := by rw [List.take_succ_eq_append_getElem hjl, List.flatMap_append]; simp
    rw [e2]
    exact Ctx.noL (D2.pk [0] [1] rfl)
  · rw [if_neg (by simpa using hjl)]
    have hj2 : j = l.length := by omega
    subst hj2
    rw [List.take_length] at D
    have hcap := D.slCap.1
    obtain ⟨m2, hm2, hs, D2⟩ := D.slShare
    exact Ctr.ret (m' := m2) (L := []) (p, c) rfl ⟨hs, hcap⟩ D2.noL
theorem c_ProcsC (q : Sl) (l : List Pr) (hl : l.length * 4 ≤ 140737488355328) : Ctr Tryz.prog 28 #[slV q l.length] (fun m => MSrc m 2 (slV q l.length) l.length (l.flatMap Pr.row)) [] (fun p : Sl => slV p l.length) (fun p m => MSrc m 2 (slV p l.length) l.length (l.flatMap Pr.row) ∧ l.length ≤ p.2) (fun _ => []) := by
  refine Ctr.mk fun w F m C hp => x_Procs _ _ _ w _ ?_
  refine ⟨fun p k c i w' _ => ∃ (j : Nat) (m' : Mem), i = j ∧ j = k ∧ j ≤ l.length ∧ m.le m' ∧ Ctx F m w w' [] m' [slA (.slice p j c) j ((l.take j).flatMap Pr.row) 47 2], fun _ _ _ i _ => (l.length - i).toNat, ⟨0, m, rfl, rfl, by omega, Mem.le_refl _, C.slNil⟩, ?_⟩
  clear C
  rintro p k c i w7 L8 _ ⟨j, m', rfl, rfl, hj, hm, D⟩
  by_cases hjl : j < l.length
  · rw [if_pos (by simpa using hjl)]
    refine ⟨by omega, by simpa using hjl, ?_⟩
    obtain ⟨a, ha, hc⟩ := (hp.mono hm).elem pr_len hjl
    have ha : q.1 = some a := ha
    rw [ha, onSome_some]
    refine ⟨_, _, D.cells hc, ?_⟩
    refine D.gives (c_ProcP l[j]) fun w16 k16 D => ⟨_, _, rfl, k16.size, ?_⟩
    have D1 := (D.alloc l[j].row 47).swap
    have hcl : Cells _ ⟨w16.heap.size, 0, none⟩ l[j].row := (D.alloc l[j].row 47).blkCells (o := 0) fun k v e => by simpa using e
    obtain ⟨q2, c2, w25, hr, hkk, D2⟩ := D1.app2 (P := Tryz.prog) (bytes := 4) (t := 54) (t2 := 54) 54 (by kernel_rfl) (.some ⟨w16.heap.size, 0, none⟩ 1 1 l[j].row rfl hcl) (by unfold maxLen; omega) (by omega) (pr_one _)
    have e : IntKind.wrap .i64 ((j : Int) + 1) = ((j + 1 : Nat) : Int) := by rw [w_i64 (by omega) (by omega)]; omega
    refine ⟨q2, j + 1, c2, w25, hr, hkk.size, ?_⟩
    rw [e]
    refine ⟨⟨j + 1, m', rfl, rfl, hjl, hm, ?_⟩, Nat.le_of_eq (by show ((l.length : Int) - ((j + 1 : Nat) : Int)).toNat + 1 = ((l.length : Int) - (j : Int)).toNat; omega)⟩
    have e2 : (l.take (j + 1)).flatMap Pr.row = (l.take j).flatMap Pr.row ++ l[j].row := by rw [List.take_succ_eq_append_getElem hjl, List.flatMap_append]; simp
    rw [e2]
    exact Ctx.noL (D2.pk [0] [1] rfl)
  · rw [if_neg (by simpa using hjl)]
    have hj2 : j = l.length := by omega
    subst hj2
    rw [List.take_length] at D
    have hcap := D.slCap.1
    obtain ⟨m2, hm2, hs, D2⟩ := D.slShare
    exact Ctr.ret (m' := m2) (L := []) (p, c) rfl ⟨hs, hcap⟩ D2.noL
theorem c_OwnEC (e : En) : Ctr Tryz.prog 70 #[.agg e.row.toArray] (fun m => EnM m e) [] (fun f : En => .agg f.row.toArray) (fun f m => EnM m f ∧ f.er = e.er ∧ EnC f) (fun _ => []) := by
  refine Ctr.mk fun w F m C he => x_OwnE _ _ _ _ _ _ _ _ _ _ _ _ _ _ _ _ _ _ _ _ _ _ w _ ⟨[], facts_nil _ _, fun w2 L3 h2 g2 => ?_⟩
  refine (C.hidL h2 g2).gives (c_ID e.id) fun w5 k5 C => ⟨_, _, _, _, _, _, _, _, _, _, rfl, k5, facts_nil _ _, ?_⟩
  refine (c_PartsC e.pq e.ps (by have := he.pl; omega)).call (As := []) C he.p fun p m1 w17 hk hm1 hp C => ⟨_, _, _, rfl, hk, facts_nil _ _, ?_⟩
  refine C.gives (c_Res e.rc e.rv) fun w22 k22 C => ⟨_, _, rfl, k22, facts_nil _ _, ?_⟩
  refine (c_OwnWC e.wq e.ws (by have := he.wl; omega)).call (As := []) C (he.w.mono hm1) fun q m2 w26 hk hm2 hq C => ⟨_, _, _, rfl, hk, facts_nil _ _, ?_⟩
  refine C.gives (c_Proc e.vn e.vl) fun w31 k31 C => ⟨_, _, rfl, k31, facts_nil _ _, fun w34 h34 => ?_⟩
  exact Ctr.ret (m' := m2) (L := []) { e with pq := p, wq := q } rfl ⟨⟨hp.1.mono hm2, hq.1, he.pl, he.wl⟩, rfl, hp.2, hq.2⟩ (C.hid0 h34)
theorem c_OwnsC (q : Sl) (l : List En) (hl : l.length ≤ 100000) : Ctr Tryz.prog 29 #[slV q l.length] (fun m => EsM m q l) [] (fun f : Sl × List En => slV f.1 f.2.length) (fun f m => EsC m f.1 f.2 ∧ f.2.map En.er = l.map En.er) (fun _ => []) := by
  refine Ctr.mk fun w F m C hp => x_Owns _ _ _ w _ ?_
  obtain ⟨hp, he⟩ := hp
  refine ⟨fun p k c i w' _ => ∃ (j : Nat) (m' : Mem) (fs : List En), i = j ∧ k = fs.length ∧ j ≤ l.length ∧ m.le m' ∧ fs.map En.er = (l.take j).map En.er ∧ (∀ e ∈ fs, EnM m' e ∧ EnC e) ∧ Ctx F m w w' [] m' [slA (.slice p fs.length c) fs.length (fs.flatMap En.row) 142 18], fun _ _ _ i _ => (l.length - i).toNat, ⟨0, m, [], rfl, rfl, by omega, Mem.le_refl _, rfl, by simp, C.slNil⟩, ?_⟩
  clear C
  rintro p k c i w7 L8 _ ⟨j, m', fs, rfl, rfl, hj, hm, her, hfs, D⟩
  by_cases hjl : j < l.length
  rotate_left
  · rw [if_neg (by simpa using hjl)]
    have hj2 : j = l.length := by omega
    rw [hj2, List.take_length] at her
    obtain ⟨m2, hm2, hs, D2⟩ := D.slShare
    exact Ctr.ret (m' := m2) (L := []) ((p, c), fs) rfl ⟨⟨⟨hs, fun e h => (hfs e h).1.mono hm2⟩, fun e h => (hfs e h).2⟩, her⟩ D2.noL
  rw [if_pos (by simpa using hjl)]
  refine ⟨by omega, by simpa using hjl, ?_⟩
  have hfl : fs.length = j := by have := congrArg List.length her; simp at this; omega
  obtain ⟨a, ha, hc⟩ := (hp.mono hm).elem en_len hjl
  have ha : q.1 = some a := ha
  rw [ha, onSome_some]
  refine ⟨_, _, _, _, _, _, _, _, _, _, _, _, _, _, _, _, _, _, _, _, _, _, by rw [Int.toNat_natCast]; exact D.cells hc, ?_⟩
  refine (c_OwnEC l[j]).call (As := [_]) D ((he _ (List.getElem_mem hjl)).mono hm) fun f m2 w33 hk hm2 hf D => ⟨_, _, _, _, _, _, _, _, _, _, _, _, _, _, _, _, _, _, _, _, _, _, rfl, hk.size, ?_⟩
  have D0 := (D.alloc f.row 142).swap
  have hcl : Cells _ ⟨w33.heap.size, 0, none⟩ f.row := (D.alloc f.row 142).blkCells (o := 0) fun k v e => by simpa using e
  obtain ⟨q2, c2, w67, hr, hkk, D2⟩ := Ctx.app2 (P := Tryz.prog) (bytes := 400) (t := 57) (t2 := 57) D0 57 (by kernel_rfl) (.some ⟨w33.heap.size, 0, none⟩ 1 1 f.row rfl hcl) (by unfold maxLen; omega) (by omega) (en_one _)
  have e1 : (fs ++ [f]).length = fs.length + 1 := by simp
  have e2 : (fs ++ [f]).flatMap En.row = fs.flatMap En.row ++ f.row := by simp
  have e : IntKind.wrap .i64 ((j : Int) + 1) = ((j + 1 : Nat) : Int) := by rw [w_i64 (by omega) (by omega)]; omega
  refine ⟨q2, _, c2, w67, hr, hkk.size, ?_⟩
  rw [e]
  refine ⟨⟨j + 1, m2, fs ++ [f], rfl, e1.symm, hjl, hm.le_trans hm2, ?_, ?_, ?_⟩, Nat.le_of_eq (by show ((l.length : Int) - ((j + 1 : Nat) : Int)).toNat + 1 = ((l.length : Int) - (j : Int)).toNat; omega)⟩
  · rw [List.take_succ_eq_append_getElem hjl, List.map_append, List.map_append, her]; simp [hf.2.1]
  · intro y hy
    rcases List.mem_append.1 hy with hy | hy
    · exact ⟨(hfs y hy).1.mono hm2, (hfs y hy).2⟩
    · simp only [List.mem_singleton] at hy; subst hy; exact ⟨hf.1, hf.2.2⟩
  · rw [← e2, ← e1] at D2
    exact Ctx.noL (D2.pk [0] [1] rfl)
theorem c_Own6C (v : Vw) (hl : v.ms.length ≤ 1000000) : Ctr Tryz.prog 26 #[.agg v.row.toArray] (fun m => VwM m v) [] (fun p : Sl => .agg (Vw.row { v with q := p }).toArray) (fun p m => VwM m { v with q := p } ∧ v.ms.length ≤ p.2) (fun _ => []) := by
  refine Ctr.mk fun w F m C hv => x_Own6 _ _ _ _ _ w _ ⟨[], facts_nil _ _, fun w2 L3 h2 g2 => ?_⟩
  refine (c_ProcsC v.q v.ms (by omega)).call (As := []) (C.hidL h2 g2) hv fun p m1 w5 hk hm1 hp C => ⟨_, _, _, rfl, hk, facts_nil _ _, fun w9 h9 => ?_⟩
  exact Ctr.ret (m' := m1) (L := []) p rfl hp (C.hid0 h9)
theorem c_OwnMC (x : Mg) : Ctr Tryz.prog 8 #[.agg x.row.toArray] (fun m => MgM m x) [] (fun y : Mg => .agg y.row.toArray) (fun y m => MgM m y ∧ y.er = x.er ∧ MgC y) (fun _ => []) := by
  refine Ctr.mk fun w F m C hx => x_OwnM _ _ _ _ _ _ _ _ _ _ _ _ _ _ _ _ _ _ _ _ _ _ _ _ _ _ _ _ _ _ _ _ _ _ _ _ _ _ _ _ _ w _ ⟨[], facts_nil _ _, fun w2 L3 h2 g2 => ?_⟩
  refine (C.hidL h2 g2).gives (c_ID x.id) fun w5 k5 C => ⟨_, _, _, _, _, _, _, _, _, _, rfl, k5, facts_nil _ _, ?_⟩
  refine (c_PartsC x.pq x.ps (by have := hx.pl; omega)).call (As := []) C hx.p fun p1 m1 w17 hk hm1 hp1 C => ⟨_, _, _, rfl, hk, facts_nil _ _, ?_⟩
  refine C.gives (c_Res x.rc x.rv) fun w22 k22 C => ⟨_, _, rfl, k22, facts_nil _ _, ?_⟩
  refine (c_Own6C ⟨x.vg, x.vn, x.vq, x.vm⟩ hx.vl).call (As := []) C (hx.mono hm1).v fun p2 m2 w26 hk hm2 hp2 C => ⟨_, _, _, _, _, rfl, hk, facts_nil _ _, ?_⟩
  refine C.gives (c_Proc x.pn x.pl) fun w33 k33 C => ⟨_, _, rfl, k33, facts_nil _ _, ?_⟩
  refine (c_ProcsC x.mq x.ms (by have := hx.ml; omega)).call (As := []) C ((hx.mono hm1).mono hm2).mm fun p3 m3 w37 hk hm3 hp3 C => ⟨_, _, _, rfl, hk, facts_nil _ _, ?_⟩
  refine (c_OwnsC x.eq x.es hx.el).call (As := []) C (((hx.mono hm1).mono hm2).mono hm3).e fun p4 m4 w42 hk hm4 hp4 C => ⟨_, _, _, rfl, hk, facts_nil _ _, ?_⟩
  refine (c_OwnsC x.tq x.ts hx.tl).call (As := []) C ((((hx.mono hm1).mono hm2).mono hm3).mono hm4).t fun p5 m5 w47 hk hm5 hp5 C => ⟨_, _, _, rfl, hk, facts_nil _ _, fun w51 h51 => ?_⟩
  refine Ctr.ret (m' := m5) (L := []) { x with pq := p1, vq := p2, mq := p3, eq := p4.1, es := p4.2, tq := p5.1, ts := p5.2 } rfl ⟨⟨(((hp1.1.mono hm2).mono hm3).mono hm4).mono hm5, ((hp2.1.mono hm3).mono hm4).mono hm5, (hp3.1.mono hm4).mono hm5, hp4.1.1.mono hm5, hp5.1.1, hx.pl, hx.vl, hx.ml, by have := lenEq hp4.2; have := hx.el; show p4.2.length ≤ _; omega, by have := lenEq hp5.2; have := hx.tl; show p5.2.length ≤ _; omega⟩, ?_, ⟨hp1.2, hp2.2, hp3.2, hp4.1.2, hp5.1.2⟩⟩ (C.hid0 h51)
  simp only [Mg.er, hp4.2, hp5.2]
/-! ### bytes of messages that may be -/
theorem c_BytesR (x : Mg) (hi : MvF x.er) (hc : MgC x) (hl : x.er.right = true → (msgB x.er).length ≤ 1000000000) : Ctr Tryz.prog 7 #[.agg x.row.toArray] (fun m => MgM m x) [] (fun q : Sl => .tuple #[slV q (byS x.er).1.length, .int .i64 (byS x.er).2]) (fun _ _ => True) (fun q => [ow q (byS x.er).1]) := by
  refine Ctr.mk fun w F m C hs => x_Bytes _ _ _ _ _ _ _ _ _ _ _ _ _ _ _ _ _ _ _ _ _ _ _ _ _ _ _ _ _ _ _ _ _ _ _ _ _ _ _ _ _ w _ fun w1 L2 h1 g1 => ?_
  refine (c_mRight x hi.toMvIn).call (As := []) (C.hidL h1 g1) hs fun _ m1 w4 hk hm1 _ C => ⟨_, rfl, hk, ?_⟩
  replace hs := hs.mono hm1
  by_cases hr : x.er.right = true
  rotate_left
  · rw [byS, if_neg hr, Bool.eq_false_iff.2 hr, if_pos (by decide)]
    exact Ctr.ret (r := fun q : Sl => .tuple #[slV q 0, .int .i64 1]) (post := fun _ _ => True) (Bs := fun q : Sl => [ow q []]) (none, 0) rfl trivial C.slNil
  rw [byS, if_pos hr, hr, if_neg (by decide)]
  replace hl := hl hr
  simp only [msgB, List.length_append, List.length_singleton] at hl
  have D : Ctx F m w (w4.alloc (.cells #[.slice none 0 0] 79)) L2 m1 (wA w4.heap.size (none, 0) []) := Ctx.pm (C.alloc [.slice none 0 0] 79).slNil [1, 0] rfl
  refine ⟨[], facts_nil _ _, fun w7 L8 h7 g7 => ?_⟩
  refine (c_WBi w4.heap.size (none, 0) [] x.kd hi.kd (by decide)).call (As := []) (D.hidL h7 g7) trivial fun v2 m2 w10 hk hm2 _ C => ⟨rfl, hk, ?_⟩
  rw [List.nil_append] at C
  refine (c_Wmsg w4.heap.size v2 [u8 x.kd] x hi hc (by simp) (by simp only [List.length_singleton]; omega)).call (As := []) C (hs.mono hm2) fun v3 m3 w12 hk hm3 _ C => ⟨rfl, hk, ?_⟩
  refine (c_WBytes w4.heap.size v3 _ (by simp only [List.length_append, List.length_singleton]; omega)).call (As := []) C trivial fun q m4 w14 hk hm4 _ C => ⟨_, _, _, rfl, hk, ?_⟩
  exact Ctr.ret (r := fun q : Sl => .tuple #[slV q (msgB x.er).length, .int .i64 0]) (post := fun _ _ => True) (Bs := fun q : Sl => [ow q (msgB x.er)]) q rfl trivial (Ctx.pk C [0] [1, 2] rfl)
end Go.Proofs
