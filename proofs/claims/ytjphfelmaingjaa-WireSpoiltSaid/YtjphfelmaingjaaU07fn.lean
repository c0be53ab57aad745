import Derived.Test.YtjphfelmaingjaaU07fl
import Derived.Test.YtjphfelmaingjaaV07fl
import Derived.Test.YtjphfelmaingjaaP07f
import Derived.Test.YtjphfelmaingjaaV07fo
import Derived.Laws.IdiomStrings
set_option linter.unusedVariables false
set_option linter.unusedSimpArgs false
set_option maxRecDepth 10000
namespace Go.Proofs
open Go X RowKit
/-! ### the sums -/
theorem ofI (x : Int) : BitVec.ofInt 32 (IntKind.u32.wrap x) = BitVec.ofInt 32 x := by
  apply BitVec.eq_of_toNat_eq
  rw [BitVec.toNat_ofInt, BitVec.toNat_ofInt]
  have : IntKind.u32.wrap x = x % 4294967296 := rfl
  rw [this]
  congr 1
  exact Int.emod_emod_of_dvd x (by decide)
theorem ofI_nat (n : Nat) : BitVec.ofInt 32 (n : Int) = BitVec.ofNat 32 n := by
  apply BitVec.eq_of_toNat_eq
  rw [BitVec.toNat_ofInt, BitVec.toNat_ofNat]; rfl
theorem ofI_self (s : BitVec 32) : BitVec.ofInt 32 (s.toNat : Int) = s := by rw [ofI_nat]; simp
theorem wrap32 (s : BitVec 32) : IntKind.wrap .u32 ((s.toNat : Nat) : Int) = (s.toNat : Int) := by
  have := s.isLt
  exact w_u32 (by omega) (by omega)
theorem dbl32 (s : BitVec 32) : BitVec.ofInt 32 ((s.toNat : Int) * 2) = s <<< 1 := by
  have : (s.toNat : Int) * 2 = ((s.toNat * 2 : Nat) : Int) := by omega
  rw [this, ofI_nat]
  apply BitVec.eq_of_toNat_eq
  rw [BitVec.toNat_ofNat, BitVec.toNat_shiftLeft, Nat.shiftLeft_eq]
theorem msb_div (s : BitVec 32) : s.toNat / 2147483648 = if s.msb then 1 else 0 := by
  have := s.isLt
  by_cases h : s.msb = true
  · rw [if_pos h]
    have := BitVec.msb_eq_true_iff_two_mul_ge.1 h
    omega
  · rw [if_neg h]
    have := BitVec.msb_eq_false_iff_two_mul_lt.1 (by simpa using h)
    omega
theorem step_sum (s : BitVec 32) : IntKind.wrap .u32 ((((BitVec.ofInt 32 (IntKind.u32.wrap ((s.toNat : Int) * 2)) ^^^ BitVec.ofInt 32 (IntKind.u32.wrap ↑(BitVec.ofInt 32 79764919 &&& BitVec.ofInt 32 (IntKind.u32.wrap (0 - (s.toNat : Int).fdiv 2147483648))).toNat)).toNat) : Nat) : Int) = ((stepZ s).toNat : Int) := by
  rw [wrap32, ofI, ofI, ofI, dbl32, ofI_self]
  have e : (s.toNat : Int).fdiv 2147483648 = ((s.toNat / 2147483648 : Nat) : Int) := by rw [Int.fdiv_eq_ediv_of_nonneg _ (by decide)]; rfl
  rw [e, msb_div]
  unfold stepZ
  cases s.msb <;> rfl
theorem step_ref (s : BitVec 32) (x : Bool) (h : x = s.msb) : IntKind.wrap .u32 ((s.toNat : Int) * 2) = ((refStep s x).toNat : Int) := by
  have e : refStep s x = s <<< 1 := by rw [refStep, h]; simp
  rw [e, ← dbl32, BitVec.toNat_ofInt]
  have : IntKind.u32.wrap ((s.toNat : Int) * 2) = ((s.toNat : Int) * 2) % 4294967296 := rfl
  rw [this]
  have h0 : 0 ≤ ((s.toNat : Int) * 2) % 4294967296 := by omega
  exact (Int.toNat_of_nonneg h0).symm
theorem step_ref1 (s : BitVec 32) (x : Bool) (h : x ≠ s.msb) : IntKind.wrap .u32 ((((BitVec.ofInt 32 (IntKind.u32.wrap ((s.toNat : Int) * 2)) ^^^ BitVec.ofInt 32 79764919).toNat) : Nat) : Int) = ((refStep s x).toNat : Int) := by
  rw [wrap32, ofI, dbl32]
  have e : refStep s x = s <<< 1 ^^^ 0x04c11db7#32 := by rw [refStep, if_pos (by simpa using h)]
  rw [e]; rfl
/-- the sum of bytes -/
def sumB (l : List UInt8) : BitVec 32 := ~~~ (regZ onesZ l)
def sum4 (l : List UInt8) : List UInt8 := [UInt8.ofNat ((sumB l).toNat / 16777216), UInt8.ofNat ((sumB l).toNat / 65536), UInt8.ofNat ((sumB l).toNat / 256), UInt8.ofNat (sumB l).toNat]
def sumd (l : List UInt8) : List UInt8 := l ++ sum4 l
theorem not_ones (s : BitVec 32) : onesZ ^^^ s = ~~~ s := by rw [BitVec.not_def]; rfl
theorem reg_take {l : List UInt8} {j : Nat} (hj : j < l.length) : regZ onesZ (l.take (j + 1)) = byZ (regZ onesZ (l.take j)) l[j] := by
  rw [List.take_succ_eq_append_getElem hj, regZ_app]; rfl
theorem by24 (c : UInt8) : BitVec.ofInt 32 (IntKind.u32.wrap (IntKind.u32.wrap (c.toNat : Int) * 16777216)) = byW c <<< 24 := by
  have := c.toNat_lt
  rw [ofI, w_u32 (n := (c.toNat : Int)) (by omega) (by omega)]
  have : (c.toNat : Int) * 16777216 = ((c.toNat * 16777216 : Nat) : Int) := by omega
  rw [this, ofI_nat]
  apply BitVec.eq_of_toNat_eq
  rw [BitVec.toNat_ofNat, BitVec.toNat_shiftLeft, Nat.shiftLeft_eq, byW, BitVec.toNat_ofNat]; omega
theorem itZ_succ (k : Nat) (s : BitVec 32) : itZ (k + 1) s = stepZ (itZ k s) := by rw [itZ_add]; rfl
theorem c_SumG (q : Sl) (l : List UInt8) (As : List Asn) (hl : l.length ≤ 140737488355300) (hcell : ∀ {F0 : List Nat} {m0 m : Mem} {w0 w : World} {L : List Nat}, Ctx F0 m0 w0 w L m As → ∀ j (hj : j < l.length), ∃ a, q.1 = some a ∧ World.cell? w (a.add (j * 1)) = some (.int .u8 (l[j].toNat : Int))) : Ctr Try.prog 97 #[slV q l.length] noMem As (fun _ : Unit => .int .u32 ((sumB l).toNat : Int)) (fun _ _ => True) (fun _ => As) := by
  refine Ctr.mk fun w F m C _ => x_Sum _ _ _ w _ ?_
  refine ⟨fun n i w' _ => ∃ j : Nat, i = j ∧ j ≤ l.length ∧ n = ((regZ onesZ (l.take j)).toNat : Int) ∧ Ctx F m w w' [] m As, fun _ i _ => ((l.length : Int) - i).toNat, ⟨0, rfl, by omega, rfl, C⟩, ?_⟩
  clear C
  rintro n i w5 L6 _ ⟨j, rfl, hj, rfl, C⟩
  by_cases hjl : j < l.length
  rotate_left
  · rw [if_neg (by simpa using hjl)]
    have : l.take j = l := List.take_of_length_le (by omega)
    rw [this]
    refine Ctr.ret () ?_ trivial C
    rw [ofI_self, wrap32]
    have : BitVec.ofInt 32 4294967295 = onesZ := rfl
    rw [this, not_ones]; rfl
  rw [if_pos (by simpa using hjl)]
  obtain ⟨a, ha, hc⟩ := hcell C j hjl
  refine ⟨by omega, by omega, ?_⟩
  rw [ha, onSome_some]
  refine ⟨_, by rw [Int.toNat_natCast]; exact hc, ?_⟩
  have hrt := reg_take hjl
  generalize l[j] = c at hrt
  generalize regZ onesZ (l.take j) = s at hrt ⊢
  rw [by24, ofI_self, wrap32]
  refine ⟨fun n i w' _ => ∃ k : Nat, i = k ∧ k ≤ 8 ∧ n = ((itZ k (s ^^^ byW c <<< 24)).toNat : Int) ∧ Ctx F m w w' [] m As, fun _ i _ => (8 - i).toNat, ⟨0, rfl, by omega, rfl, C⟩, ?_⟩
  clear C
  rintro n i w13 L14 _ ⟨k, rfl, hk, rfl, C⟩
  by_cases hk8 : k < 8
  · rw [if_pos (by simp only [decide_eq_true_eq]; omega)]
    have e1 : IntKind.wrap .i64 ((k : Int) + 1) = ((k + 1 : Nat) : Int) := by rw [w_i64 (by omega) (by omega)]; omega
    rw [step_sum, ← itZ_succ, e1]
    refine ⟨⟨k + 1, rfl, hk8, rfl, C⟩, Nat.le_of_eq (by show (8 - ((k + 1 : Nat) : Int)).toNat + 1 = (8 - (k : Int)).toNat; omega)⟩
  · rw [if_neg (by simp only [decide_eq_true_eq]; omega)]
    have e1 : IntKind.wrap .i64 ((j : Int) + 1) = ((j + 1 : Nat) : Int) := by rw [w_i64 (by omega) (by omega)]; omega
    have e8 : k = 8 := by omega
    subst e8
    rw [e1]
    refine ⟨⟨j + 1, rfl, hjl, by rw [hrt]; rfl, C⟩, Nat.le_of_eq (by show ((l.length : Int) - ((j + 1 : Nat) : Int)).toNat + 1 = ((l.length : Int) - (j : Int)).toNat; omega)⟩
theorem slA_cell {q : Sl} {l : List UInt8} {F0 : List Nat} {m0 m : Mem} {w0 w : World} {L : List Nat} (C : Ctx F0 m0 w0 w L m [ow q l]) (j : Nat) (hj : j < l.length) : ∃ a, q.1 = some a ∧ World.cell? w (a.add (j * 1)) = some (.int .u8 (l[j].toNat : Int)) := by
  obtain ⟨q1, c⟩ := q
  have hs := C.slSrc
  generalize hn : l.length = n at hs
  generalize hcs : byV l = cs at hs
  cases hs with
  | none => omega
  | some a m c news h1 h2 => exact ⟨a, rfl, by rw [Nat.mul_one]; exact h2 j _ (by subst hcs; simp [byV, hj])⟩
theorem c_Sum (q : Sl) (l : List UInt8) (hl : l.length ≤ 140737488355300) : Ctr Try.prog 97 #[slV q l.length] noMem [ow q l] (fun _ : Unit => .int .u32 ((sumB l).toNat : Int)) (fun _ _ => True) (fun _ => [ow q l]) := c_SumG q l _ hl slA_cell
theorem bit_eq (c : UInt8) (s : BitVec 32) (j : Nat) (hj : j < 8) : (((IntKind.u32.wrap ((IntKind.u32.wrap (c.toNat : Int)).tdiv (IntKind.u32.wrap (1 * 2 ^ min (IntKind.u64.wrap (j : Int)).toNat 32)))).tmod 2) != (IntKind.wrap .u32 ((s.toNat : Int).tdiv 2147483648))) = (bitB c j != s.msb) := by
  have := c.toNat_lt
  have hp : (1 : Int) * 2 ^ min (IntKind.u64.wrap (j : Int)).toNat 32 = ((2 ^ j : Nat) : Int) := by
    rw [w_u64 (by omega) (by omega), Int.toNat_natCast, Nat.min_eq_left (by omega), Int.one_mul]; simp
  have h2 : 2 ^ j ≤ 128 := Nat.pow_le_pow_right (n := 2) (by omega) (show j ≤ 7 by omega)
  unfold bitB
  rw [hp]
  generalize 2 ^ j = y at h2 ⊢
  rw [w_u32 (n := (c.toNat : Int)) (by omega) (by omega), w_u32 (n := (y : Int)) (by omega) (by omega)]
  have e1 : ((c.toNat : Nat) : Int).tdiv (y : Int) = ((c.toNat / y : Nat) : Int) := rfl
  have h3 : c.toNat / y ≤ c.toNat := Nat.div_le_self _ _
  rw [e1]
  generalize c.toNat / y = x at h3 ⊢
  rw [w_u32 (n := (x : Int)) (by omega) (by omega)]
  have e2 : ((x : Nat) : Int).tmod 2 = ((x % 2 : Nat) : Int) := rfl
  have e3 : ((s.toNat : Nat) : Int).tdiv 2147483648 = ((s.toNat / 2147483648 : Nat) : Int) := rfl
  rw [e2, e3, msb_div]
  have h4 : x % 2 < 2 := Nat.mod_lt _ (by omega)
  generalize x % 2 = z at h4 ⊢
  have hz : z = 0 ∨ z = 1 := by omega
  rcases hz with rfl | rfl <;> cases s.msb <;> rfl
def refK (c : UInt8) : Nat → BitVec 32 → BitVec 32
  | 0, s => s
  | k + 1, s => refStep (refK c k s) (bitB c (7 - k))
theorem refK_8 (c : UInt8) (s : BitVec 32) : refK c 8 s = byZ s c := (byZ_bits s c).symm
theorem c_r1Sum (q : Sl) (l : List UInt8) (hl : l.length ≤ 140737488355300) : Ctr Try.prog 72 #[slV q l.length] (fun m => bsM m q l) [] (fun _ : Unit => .int .u32 ((sumB l).toNat : Int)) (fun _ _ => True) (fun _ => []) := by
  refine Ctr.mk fun w F m C h => x_r1Sum _ _ _ w _ ?_
  refine ⟨fun n i w' _ => ∃ j : Nat, i = j ∧ j ≤ l.length ∧ n = ((regZ onesZ (l.take j)).toNat : Int) ∧ Ctx F m w w' [] m [], fun _ i _ => ((l.length : Int) - i).toNat, ⟨0, rfl, by omega, rfl, C⟩, ?_⟩
  clear C
  rintro n i w5 L6 _ ⟨j, rfl, hj, rfl, C⟩
  by_cases hjl : j < l.length
  rotate_left
  · rw [if_neg (by simpa using hjl)]
    have : l.take j = l := List.take_of_length_le (by omega)
    rw [this]
    refine Ctr.ret () ?_ trivial C
    have hlt := (regZ onesZ l).isLt
    rw [w_u32 (by omega) (by omega), sumB, BitVec.toNat_not]
    congr 2; omega
  rw [if_pos (by simpa using hjl)]
  obtain ⟨a, ha, hc⟩ := bs_cell h hjl
  have hrt := reg_take hjl
  generalize l[j] = c at hrt hc
  generalize regZ onesZ (l.take j) = s at hrt ⊢
  refine ⟨fun n i w' _ => ∃ k : Nat, i = 7 - (k : Int) ∧ k ≤ 8 ∧ n = ((refK c k s).toNat : Int) ∧ Ctx F m w w' [] m [], fun _ i _ => (i + 1).toNat, ⟨0, rfl, by omega, rfl, C⟩, ?_⟩
  clear C
  rintro n i w11 L12 _ ⟨k, rfl, hk, rfl, C⟩
  by_cases hk8 : k < 8
  · rw [if_pos (by simp only [decide_eq_true_eq]; omega)]
    refine ⟨by omega, by omega, ?_⟩
    rw [ha, onSome_some]
    refine ⟨_, by rw [Int.toNat_natCast]; exact C.cell hc, ?_⟩
    have e7 : (7 : Int) - (k : Int) = ((7 - k : Nat) : Int) := by omega
    rw [e7]
    have h2 : 2 ^ (7 - k) ≤ 2 ^ 7 := Nat.pow_le_pow_right (by omega) (by omega)
    have h20 : 0 < 2 ^ (7 - k) := Nat.pow_pos (by omega)
    refine ⟨by rw [w_u64 (by omega) (by omega)]; omega, ?_, ?_⟩
    · have hp : (1 : Int) * 2 ^ min (IntKind.u64.wrap ((7 - k : Nat) : Int)).toNat 32 = ((2 ^ (7 - k) : Nat) : Int) := by
        rw [w_u64 (by omega) (by omega), Int.toNat_natCast, Nat.min_eq_left (by omega), Int.one_mul]; simp
      rw [hp, w_u32 (by omega) (by omega)]; omega
    rw [bit_eq c _ _ (by omega)]
    have e1 : IntKind.wrap .i64 (((7 - k : Nat) : Int) - 1) = 7 - ((k + 1 : Nat) : Int) := by rw [w_i64 (by omega) (by omega)]; omega
    rw [e1]
    have hmeas : Nat.le (((7 - ((k + 1 : Nat) : Int)) + 1).toNat + 1) ((((7 - k : Nat) : Int)) + 1).toNat := Nat.le_of_eq (by omega)
    by_cases hb : bitB c (7 - k) = (refK c k s).msb
    · rw [if_neg (by simpa using hb)]
      rw [step_ref _ _ hb]
      exact ⟨⟨k + 1, rfl, hk8, rfl, C⟩, hmeas⟩
    · rw [if_pos (by simpa using hb)]
      rw [step_ref1 _ _ hb]
      exact ⟨⟨k + 1, rfl, hk8, rfl, C⟩, hmeas⟩
  · rw [if_neg (by simp only [decide_eq_true_eq]; omega)]
    have e1 : IntKind.wrap .i64 ((j : Int) + 1) = ((j + 1 : Nat) : Int) := by rw [w_i64 (by omega) (by omega)]; omega
    have e8 : k = 8 := by omega
    subst e8
    rw [e1, refK_8]
    refine ⟨⟨j + 1, rfl, hjl, by rw [hrt], C⟩, Nat.le_of_eq (by show ((l.length : Int) - ((j + 1 : Nat) : Int)).toNat + 1 = ((l.length : Int) - (j : Int)).toNat; omega)⟩
theorem sum4V (l : List UInt8) : [Value.int .u8 (IntKind.wrap .u8 (((sumB l).toNat : Int).fdiv 16777216)), .int .u8 (IntKind.wrap .u8 (((sumB l).toNat : Int).fdiv 65536)), .int .u8 (IntKind.wrap .u8 (((sumB l).toNat : Int).fdiv 256)), .int .u8 (IntKind.wrap .u8 ((sumB l).toNat : Int))] = byV (sum4 l) := by
  have hf : ∀ (n d : Nat), IntKind.wrap .u8 ((n : Int).fdiv (d : Int)) = ((UInt8.ofNat (n / d)).toNat : Int) := fun n d => by
    rw [Int.fdiv_eq_ediv_of_nonneg _ (by omega)]
    have : ((n : Int) / (d : Int)) = ((n / d : Nat) : Int) := rfl
    rw [this]
    simp [IntKind.wrap, IntKind.bits, IntKind.signed]
  have h0 : IntKind.wrap .u8 ((sumB l).toNat : Int) = ((UInt8.ofNat (sumB l).toNat).toNat : Int) := by simp [IntKind.wrap, IntKind.bits, IntKind.signed]
  have h1 : IntKind.wrap .u8 (((sumB l).toNat : Int).fdiv 16777216) = _ := hf (sumB l).toNat 16777216
  have h2 : IntKind.wrap .u8 (((sumB l).toNat : Int).fdiv 65536) = _ := hf (sumB l).toNat 65536
  have h3 : IntKind.wrap .u8 (((sumB l).toNat : Int).fdiv 256) = _ := hf (sumB l).toNat 256
  rw [h1, h2, h3, h0]; rfl
/-- bytes, and their sum behind them -/
theorem c_summed (q : Sl) (l : List UInt8) (hl : l.length ≤ 140737488355300) : Ctr Try.prog 57 #[slV q l.length] noMem [ow q l] (fun q : Sl => slV q (sumd l).length) (fun _ _ => True) (fun q => [ow q (sumd l)]) := by
  refine Ctr.mk fun w F m C _ => x_summed _ _ _ w _ ?_
  refine (c_Sum q l hl).call (As := []) C trivial fun _ m1 w2 hk hm _ C => ⟨_, rfl, hk.size, ?_⟩
  have C' : Ctx F m w w2 [] m1 [ow q l] := C
  rw [sum4V]
  have D3 : Ctx F m w (w2.alloc (.cells (byV (sum4 l)).toArray 5)) [] m1 [ow (some ⟨w2.heap.size, 0, none⟩, 4) (sum4 l), ow q l] := Ctx.slNew (cs := byV (sum4 l)) (n := 4) rfl (by unfold maxLen; omega) C'
  obtain ⟨q4, c4, w9, hr, hk4, D5⟩ := ow_app D3.swap (t2 := 66) (by kernel_rfl) (x := slV (some ⟨w2.heap.size, 0, none⟩, 4) 4) (k := sum4 l) D3.slSrc (by show l.length + 4 ≤ _; omega)
  refine ⟨q4, _, c4, w9, hr, hk4.size, Ctr.ret (m' := m1) (L := []) (q4, c4) (by rw [sumd, List.length_append]) trivial (D5.pk [0] [1] rfl)⟩
theorem c_CloneB (q : Sl) (l : List UInt8) (hl : l.length ≤ 100000000) : Ctr Try.prog 65 #[slV q l.length] (fun m => bsM m q l) [] (fun q : Sl => slV q l.length) (fun _ _ => True) (fun q => [ow q l]) := by
  refine Ctr.mk fun w F m C h => x_CloneB _ _ _ w _ ?_
  obtain ⟨q1, c1⟩ := q
  cases q1 with
  | none =>
    have h0 : l = [] := List.eq_nil_of_length_eq_zero h.none_len.1
    subst h0
    rw [if_pos (by rfl)]
    exact Ctr.ret (m' := m) (L := []) (none, 0) rfl trivial C.slNil
  | some a =>
    rw [if_neg (by simp)]
    have D : Ctx F m w (w.alloc (.cells #[] 5)) [] m [ow (some ⟨w.heap.size, 0, none⟩, 0) []] := Ctx.slNew (cs := byV []) (n := 0) rfl (by unfold maxLen; omega) C
    obtain ⟨q2, c2, w7, hr, hk2, D2⟩ := ow_app D (t2 := 66) (by kernel_rfl) (x := slV (some a, c1) l.length) (k := l) (D.src h) (by simp; omega)
    simp only [List.length_nil, Nat.zero_add, List.nil_append] at hr D2
    exact ⟨q2, l.length, c2, w7, hr, hk2.size, Ctr.ret (m' := m) (L := []) (q2, c2) rfl trivial D2⟩
theorem c_bEqual (q p : Sl) (l k : List UInt8) : Ctr Try.prog 64 #[slV q l.length, slV p k.length] (fun m => bsM m p k) [ow q l] (fun _ : Unit => .bool (decide (l = k))) (fun _ _ => True) (fun _ => [ow q l]) := by
  refine Ctr.mk fun w F m C h => x_bEqual _ _ _ _ _ _ w _ ?_
  have h1 := run_str (P := Try.prog) (e := 5) Try.underlying66 Try.underlying5 Try.underlying9 C.slSrc ⟨_, _, rfl⟩
  have h2 := run_str (P := Try.prog) (e := 5) Try.underlying66 Try.underlying5 Try.underlying9 (C.src h) ⟨_, _, rfl⟩
  refine ⟨_, _, h1, Nat.le_refl _, _, _, h2, Nat.le_refl _, Ctr.ret () ?_ trivial C⟩
  rw [toBA_list, toBA_list]
  congr 2
  by_cases h : l = k
  · subst h; simp
  · simp [h]
theorem c_r7Summed (q : Sl) (l : List UInt8) (hl : l.length ≤ 140737488355300) : Ctr Try.prog 63 #[slV q l.length] (fun m => bsM m q l) [] (fun q : Sl => slV q (sumd l).length) (fun _ _ => True) (fun q => [ow q (sumd l)]) := by
  refine Ctr.mk fun w F m C h => x_r7Summed _ _ _ w _ ?_
  refine (c_r1Sum q l hl).call (As := []) C h fun _ m1 w2 hk hm _ C => ⟨_, rfl, hk.size, ?_⟩
  have D : Ctx F m w (w2.alloc (.cells #[] 5)) [] m1 [ow (some ⟨w2.heap.size, 0, none⟩, 0) []] := Ctx.slNew (cs := byV []) (n := 0) rfl (by unfold maxLen; omega) C
  obtain ⟨q2, c2, w7, hr, hk2, D2⟩ := ow_app D (t2 := 66) (by kernel_rfl) (x := slV q l.length) (k := l) (D.src (h.mono hm)) (by simp; omega)
  simp only [List.length_nil, Nat.zero_add, List.nil_append] at hr D2
  refine ⟨q2, l.length, c2, w7, hr, hk2.size, ?_⟩
  rw [sum4V]
  have D3 : Ctx F m w (w7.alloc (.cells (byV (sum4 l)).toArray 5)) [] m1 [ow (some ⟨w7.heap.size, 0, none⟩, 4) (sum4 l), ow (q2, c2) l] := Ctx.slNew (cs := byV (sum4 l)) (n := 4) rfl (by unfold maxLen; omega) D2
  have D4 := D3.swap
  obtain ⟨q4, c4, w9, hr, hk4, D5⟩ := ow_app D4 (t2 := 66) (by kernel_rfl) (x := slV (some ⟨w7.heap.size, 0, none⟩, 4) 4) (k := sum4 l) D3.slSrc (by show l.length + 4 ≤ _; omega)
  refine ⟨q4, _, c4, w9, hr, hk4.size, Ctr.ret (m' := m1) (L := []) (q4, c4) (by rw [sumd, List.length_append]) trivial (D5.pk [0] [1] rfl)⟩
end Go.Proofs
namespace Go.Proofs
open Go X RowKit
/-! ### packets -/
theorem kept_refl (L : List Nat) (w : World) : Kept L w w := ⟨Nat.le_refl _, fun _ _ => rfl⟩
structure Pk where (fn fl tn tl : Int) (sq ak : Nat) (has : Bool) (q : Sl) (body : List UInt8)
@[reducible] def Pk.row (p : Pk) : List Value := [.int .u8 p.fn, .int .u16 p.fl, .int .u8 p.tn, .int .u16 p.tl, .int .u64 (p.sq : Int), .int .u64 (p.ak : Int), .bool p.has, slV p.q p.body.length]
structure Pe where (fn fl tn tl : Int) (sq ak : Nat) (has : Bool) (body : List UInt8) deriving DecidableEq
def Pk.er (p : Pk) : Pe := ⟨p.fn, p.fl, p.tn, p.tl, p.sq, p.ak, p.has, p.body⟩
structure PeIn (p : Pe) : Prop where
  fn : 0 ≤ p.fn ∧ p.fn < 256
  fl : 0 ≤ p.fl ∧ p.fl < 65536
  tn : 0 ≤ p.tn ∧ p.tn < 256
  tl : 0 ≤ p.tl ∧ p.tl < 65536
  sq : p.sq < 18446744073709551616
  ak : p.ak < 18446744073709551616
  b : p.body.length ≤ 140737488351232
theorem ow_app0 {F0 : List Nat} {m0 m : Mem} {w0 w : World} {L : List Nat} {As : List Asn} {q p : Sl} {l : List UInt8} (C : Ctx F0 m0 w0 w L m (ow q [] :: As)) (h : bsM m p l) (hl : l.length ≤ 140737488355328) :
    ∃ q2 c2 w', (Builtin.append_ #[66, 66] 66 #[.slice q.1 0 q.2, slV p l.length]).run Try.prog w = .ok (.slice q2 l.length c2) w' ∧ Kept L w w' ∧ Ctx F0 m0 w0 w' L m (ow (q2, c2) l :: As) := by
  obtain ⟨q2, c2, w7, hr, hk2, D2⟩ := ow_app C (t2 := 66) (by kernel_rfl) (x := slV p l.length) (k := l) (C.src h) (by simp; omega)
  simp only [List.length_nil, Nat.zero_add, List.nil_append] at hr D2
  exact ⟨q2, c2, w7, hr, hk2, D2⟩
theorem ow_new {F0 : List Nat} {m0 m : Mem} {w0 w : World} {L : List Nat} {As : List Asn} (C : Ctx F0 m0 w0 w L m As) : Ctx F0 m0 w0 (w.alloc (.cells #[] 5)) L m (ow (some ⟨w.heap.size, 0, none⟩, 0) [] :: As) := Ctx.slNew (cs := byV []) (n := 0) rfl (by unfold maxLen; omega) C
theorem ow_two {F0 : List Nat} {m0 m : Mem} {w0 w : World} {L : List Nat} {As : List Asn} {q p : Sl} {l k : List UInt8} (C : Ctx F0 m0 w0 w L m (ow q l :: ow p k :: As)) (hl : l.length + k.length ≤ 140737488355328) :
    ∃ q2 c2 w', (Builtin.append_ #[66, 66] 66 #[.slice q.1 l.length q.2, slV p k.length]).run Try.prog w = .ok (.slice q2 (l ++ k).length c2) w' ∧ Kept L w w' ∧ Ctx F0 m0 w0 w' L m (ow (q2, c2) (l ++ k) :: As) := by
  have hs := C.swap.slSrc
  obtain ⟨q2, c2, w7, hr, hk2, D2⟩ := ow_app C (t2 := 66) (by kernel_rfl) (x := slV p k.length) (k := k) hs hl
  exact ⟨q2, c2, w7, by rw [hr, List.length_append], hk2, D2.swap.drop⟩
/-- a string as bytes, to be read -/
theorem ba_push (a b : Array UInt8) : (⟨a ++ b⟩ : ByteArray).size = a.size + b.size := by show (a ++ b).size = _; simp
theorem toBA_size (l : List UInt8) : (toBA l).size = l.length := by rw [← data_len]; simp [toBA]
theorem toBA_data (l : List UInt8) : (toBA l).data.toList = l := by simp [toBA]
theorem bytes_of {F0 : List Nat} {m0 m : Mem} {w0 w : World} {L : List Nat} {As : List Asn} (C : Ctx F0 m0 w0 w L m As) (l : List UInt8) :
    ∃ q c w' m', (convert 9 66 (.string (toBA l))).run Try.prog w = .ok (.slice q l.length c) w' ∧ Kept L w w' ∧ m.le m' ∧ bsM m' (q, c) l ∧ Ctx F0 m0 w0 w' L m' As := by
  have hr := run_bytes_of_string (P := Try.prog) w 9 66 5 (toBA l) Try.underlying9 Try.underlying66 Try.underlying5
  generalize hcap : grownCap w (toBA l).size 0 5 = cap at hr
  rw [toBA_size] at hr
  have hrow : bytesRow (toBA l) cap = (byV l ++ List.replicate (cap - l.length) (Value.int .u8 0)).toArray := by
    rw [bytesRow, toBA_size]
    apply Array.ext'
    simp [byV, toBA]
  rw [hrow] at hr
  have hn := C.drew.newShare (byV l ++ List.replicate (cap - l.length) (Value.int .u8 0)) 5 ((byV l ++ List.replicate (cap - l.length) (Value.int .u8 0)).toArray.size, (byV l ++ List.replicate (cap - l.length) (Value.int .u8 0)).toArray.size + 1)
  refine ⟨_, _, _, _, hr, ⟨?_, ?_⟩, hn.2, MSrc.mk (by rw [byV_len]; omega) (fun a ha => ?_) (fun h => by cases h), hn.1⟩
  · show w.heap.size ≤ (w.heap.push _).size; simp
  · exact fun x hx => heap_alloc_old w.drew _ (C.loc x hx).2
  · injection ha with ha; subst ha
    refine Mem.plus_cells _ _ _ _ _ fun j v hj => ?_
    have hjl := (List.getElem?_eq_some_iff.1 hj).1
    rw [Nat.zero_add, List.getElem?_append_left hjl]; exact hj
theorem c_Packet (p : Pk) (hl : p.body.length ≤ 140737488355328) : Ctr Try.prog 19 #[.agg p.row.toArray] (fun m => bsM m p.q p.body) [] (fun q : Sl => .agg (Pk.row { p with q := q }).toArray) (fun q m => bsM m q p.body) (fun _ => []) := by
  refine Ctr.mk fun w F m C h => x_Packet _ _ _ _ _ _ _ _ _ _ w _ ⟨[], facts_nil _ _, fun w2 L3 h2 g2 => ?_, fun w2 L3 h2 g2 => ?_⟩
  · refine (C.hidL h2 g2).gives (c_Proc p.fn p.fl) fun w5 k5 C => ⟨_, _, rfl, k5, facts_nil _ _, ?_, facts_nil _ _, ?_⟩
    · refine C.gives (c_Proc p.tn p.tl) fun w9 k9 C => ⟨_, _, rfl, k9, facts_nil _ _, facts_nil _ _, ?_⟩
      obtain ⟨q2, c2, w', hr, hk, D⟩ := ow_app0 (ow_new C) h (by omega)
      obtain ⟨m2, hm2, hs, D⟩ := D.slShare
      exact ⟨q2, _, c2, w', hr, hk, facts_nil _ _, fun w16 h16 => Ctr.ret (m' := m2) (L := []) (q2, c2) rfl hs (D.hid0 h16)⟩
    · refine (ow_new C).gives (c_Proc p.tn p.tl) fun w9 k9 C => ⟨_, _, rfl, k9, facts_nil _ _, ?_⟩
      obtain ⟨q2, c2, w', hr, hk, D⟩ := ow_app0 C h (by omega)
      obtain ⟨m2, hm2, hs, D⟩ := D.slShare
      exact ⟨q2, _, c2, w', hr, hk, facts_nil _ _, fun w16 h16 => Ctr.ret (m' := m2) (L := []) (q2, c2) rfl hs (D.hid0 h16)⟩
  · refine ⟨facts_nil _ _, ?_⟩
    refine (ow_new (C.hidL h2 g2)).gives (c_Proc p.fn p.fl) fun w5 k5 C => ⟨_, _, rfl, k5, facts_nil _ _, ?_⟩
    refine C.gives (c_Proc p.tn p.tl) fun w9 k9 C => ⟨_, _, rfl, k9, facts_nil _ _, ?_⟩
    obtain ⟨q2, c2, w', hr, hk, D⟩ := ow_app0 C h (by omega)
    obtain ⟨m2, hm2, hs, D⟩ := D.slShare
    exact ⟨q2, _, c2, w', hr, hk, facts_nil _ _, fun w16 h16 => Ctr.ret (m' := m2) (L := []) (q2, c2) rfl hs (D.hid0 h16)⟩
theorem pe_eq (a b : Pk) : decide (a.er = b.er) = (((a.fn == b.fn) && (a.fl == b.fl)) && (((((true && ((a.tn == b.tn) && (a.tl == b.tl))) && ((a.sq : Int) == (b.sq : Int))) && ((a.ak : Int) == (b.ak : Int))) && (a.has == b.has)) && decide (a.body = b.body))) := by
  rw [Bool.eq_iff_iff, decide_eq_true_eq]
  simp only [Bool.and_eq_true, beq_iff_eq, decide_eq_true_eq, Pk.er, Pe.mk.injEq, true_and, Int.natCast_inj]
  constructor
  · rintro ⟨h1, h2, h3, h4, h5, h6, h7, h8⟩
    exact ⟨⟨h1, h2⟩, ⟨⟨⟨⟨h3, h4⟩, h5⟩, h6⟩, h7⟩, h8⟩
  · rintro ⟨⟨h1, h2⟩, ⟨⟨⟨⟨h3, h4⟩, h5⟩, h6⟩, h7⟩, h8⟩
    exact ⟨h1, h2, h3, h4, h5, h6, h7, h8⟩
theorem c_samePacket (a b : Pk) : Ctr Try.prog 24 #[.agg a.row.toArray, .agg b.row.toArray] (fun m => bsM m a.q a.body ∧ bsM m b.q b.body) [] (fun _ : Unit => .bool (decide (a.er = b.er))) (fun _ _ => True) (fun _ => []) := by
  refine Ctr.mk fun w F m C h => x_samePacket _ _ _ _ _ _ _ _ _ _ _ _ _ _ _ _ _ _ _ _ w _ ⟨[], facts_nil _ _, fun w2 L3 h2 g2 => ?_⟩
  refine (C.hidL h2 g2).gives (c_RefProc b.fn b.fl) fun w5 k5 C => ⟨_, _, rfl, k5, facts_nil _ _, [], facts_nil _ _, fun _ h => h, ?_⟩
  have he := pe_eq a b
  by_cases h1 : ((a.fn == b.fn) && (a.fl == b.fl)) = true
  rotate_left
  · have h1' := Bool.eq_false_iff.2 h1
    rw [h1', Bool.false_and] at he
    rw [h1', if_neg (by decide)]
    exact ⟨[], facts_nil _ _, fun _ h => h, Ctr.ret () (by rw [he]) trivial C, Ctr.ret () (by rw [he]) trivial C⟩
  rw [h1, Bool.true_and] at he
  rw [h1, if_pos (by decide)]
  refine C.gives (c_RefProc b.tn b.tl) fun w13 k13 C => ⟨_, _, rfl, k13, facts_nil _ _, [], facts_nil _ _, fun _ h => h, ?_⟩
  have ha := run_str (P := Try.prog) (e := 5) Try.underlying66 Try.underlying5 Try.underlying9 (C.src h.1) ⟨_, _, rfl⟩
  have hb := run_str (P := Try.prog) (e := 5) Try.underlying66 Try.underlying5 Try.underlying9 (C.src h.2) ⟨_, _, rfl⟩
  by_cases h2 : ((((true && ((a.tn == b.tn) && (a.tl == b.tl))) && ((a.sq : Int) == (b.sq : Int))) && ((a.ak : Int) == (b.ak : Int))) && (a.has == b.has)) = true
  rotate_left
  · have h2' := Bool.eq_false_iff.2 h2
    rw [h2', Bool.false_and] at he
    rw [h2', if_neg (by decide), if_neg (by decide)]
    exact ⟨Ctr.ret () (by rw [he]) trivial C, Ctr.ret () (by rw [he]) trivial C⟩
  rw [h2, Bool.true_and] at he
  rw [h2, if_pos (by decide), if_pos (by decide)]
  refine ⟨⟨_, _, ha, kept_refl _ _, facts_nil _ _, _, _, hb, kept_refl _ _, facts_nil _ _, Ctr.ret () (by rw [he, toBA_beq, Bool.true_and]) trivial C⟩, _, _, hb, kept_refl _ _, facts_nil _ _, _, _, ha, kept_refl _ _, facts_nil _ _, Ctr.ret () (by rw [he, toBA_beq, Bool.true_and]) trivial C⟩
/-! ### a packet as bytes -/
def Pe.bad (p : Pe) : Bool := ((!(rightP p.fn p.fl)) || (!(rightP p.tn p.tl))) || ((!p.has) && decide (p.body.length > 0))
def frB (p : Pe) : List UInt8 := ((((putP p.fn p.fl ++ putP p.tn p.tl) ++ putU p.sq) ++ putU p.ak) ++ [flagB p.has]) ++ (if p.has then putU p.body.length ++ p.body else [])
def frS (p : Pe) : List UInt8 × Int := if p.bad then ([], 1) else if (sumd (frB p)).length > 524288 then ([], 5) else (sumd (frB p), 0)
theorem putP_12 {n l : Int} (hl : 0 ≤ l ∧ l < 65536) : (putP n l).length ≤ 12 := by
  have := putU_10 (n := l.toNat) (by omega)
  simp only [putP, List.length_cons]; omega
theorem len_sumd (l : List UInt8) : (sumd l).length = l.length + 4 := by rw [sumd, List.length_append]; rfl
theorem c_Frame (p : Pk) (hi : PeIn p.er) : Ctr Try.prog 18 #[.agg p.row.toArray] (fun m => bsM m p.q p.body) [] (fun q : Sl => .tuple #[slV q (frS p.er).1.length, .int .i64 (frS p.er).2]) (fun _ _ => True) (fun q => [ow q (frS p.er).1]) := by
  refine Ctr.mk fun w F m C h => x_Frame _ _ _ _ _ _ _ _ _ _ w _ fun w1 L2 h1 g1 => ?_
  have l1 := putP_12 (n := p.fn) hi.fl
  have l2 := putP_12 (n := p.tn) hi.tl
  have l3 := putU_10 hi.sq
  have l4 := putU_10 hi.ak
  have hb := hi.b
  replace l1 : (putP p.fn p.fl).length ≤ 12 := l1
  replace l2 : (putP p.tn p.tl).length ≤ 12 := l2
  replace l3 : (putU p.sq).length ≤ 10 := l3
  replace l4 : (putU p.ak).length ≤ 10 := l4
  replace hb : p.body.length ≤ 140737488351232 := hb
  refine (C.hidL h1 g1).gives (c_Proc_Right p.fn p.fl) fun w4 k4 C => ⟨_, rfl, k4, ?_⟩
  have hbad : p.er.bad = (((!(rightP p.fn p.fl)) || (!(rightP p.tn p.tl))) || ((!p.has) && decide (p.body.length > 0))) := rfl
  have bad : p.er.bad = true → ∀ {w' L'}, Ctx F m w w' L' m [] → ∃ i m' L, Ending.returned (.tuple #[.slice none 0 0, .int .i64 1]) = .returned (.tuple #[slV i (frS p.er).1.length, .int .i64 (frS p.er).2]) ∧ True ∧ Ctx F m w w' L m' [ow i (frS p.er).1] := fun hb w' L' C => by
    have e : frS p.er = ([], 1) := by rw [frS, if_pos hb]
    rw [e]
    exact Ctr.ret (m' := m) (L := L') (r := fun q : Sl => .tuple #[slV q 0, .int .i64 1]) (post := fun _ _ => True) (Bs := fun q : Sl => [ow q []]) (none, 0) rfl trivial C.slNil
  by_cases r1 : rightP p.fn p.fl = true
  rotate_left
  · have r1' := Bool.eq_false_iff.2 r1
    rw [r1'] at hbad ⊢
    rw [if_neg (by decide)]
    exact bad hbad C
  rw [r1] at hbad ⊢
  rw [if_pos (by decide)]
  refine C.gives (c_Proc_Right p.tn p.tl) fun w7 k7 C => ⟨_, rfl, k7, ?_⟩
  have hc : ((false || (!(rightP p.tn p.tl))) || ((!p.has) && decide (((p.body.length : Nat) : Int) > 0))) = p.er.bad := by
    rw [hbad]
    have : decide (((p.body.length : Nat) : Int) > 0) = decide (p.body.length > 0) := decide_eq_decide.2 (by omega)
    rw [this]; rfl
  rw [hc]
  by_cases hbd : p.er.bad = true
  · rw [if_pos hbd]; exact bad hbd C
  rw [if_neg hbd]
  clear bad hc hbad
  have D : Ctx F m w (w7.alloc (.cells #[.slice none 0 0] 119)) L2 m (wA w7.heap.size (none, 0) []) := Ctx.pm (C.alloc [.slice none 0 0] 119).slNil [1, 0] rfl
  refine ⟨[], facts_nil _ _, fun w10 L11 h10 g10 => ?_⟩
  refine (c_PutProc w7.heap.size (none, 0) [] p.fn p.fl hi.fn hi.fl (by decide)).call (As := []) (D.hidL h10 g10) trivial fun v1 m1 w13 hk hm1 _ C => ⟨rfl, hk, [], facts_nil _ _, fun w15 L16 h15 g15 => ?_⟩
  refine (c_PutProc w7.heap.size v1 _ p.tn p.tl hi.tn hi.tl (by rw [List.nil_append]; omega)).call (As := []) (C.hidL h15 g15) trivial fun v2 m2 w18 hk hm2 _ C => ⟨rfl, hk, [], facts_nil _ _, fun w20 L21 h20 g20 => ?_⟩
  refine (c_WU w7.heap.size v2 _ p.sq hi.sq (by simp only [List.length_append, List.length_nil]; omega)).call (As := []) (C.hidL h20 g20) trivial fun v3 m3 w23 hk hm3 _ C => ⟨rfl, hk, [], facts_nil _ _, fun w25 L26 h25 g25 => ?_⟩
  refine (c_WU w7.heap.size v3 _ p.ak hi.ak (by simp only [List.length_append, List.length_nil]; omega)).call (As := []) (C.hidL h25 g25) trivial fun v4 m4 w28 hk hm4 _ C => ⟨rfl, hk, ?_⟩
  refine (c_Wflag w7.heap.size v4 _ p.has (by simp only [List.length_append, List.length_nil]; omega)).call (As := []) C trivial fun v5 m5 w30 hk hm5 _ C => ⟨rfl, hk, ?_⟩
  rw [List.nil_append] at C
  have hfl : [flagB p.has].length = 1 := rfl
  have fin : ∀ {m' : Mem} {w' : World} {L' : List Nat} {q2 : Sl}, Ctx F m w w' L' m' (ow q2 (sumd (frB p.er)) :: wA w7.heap.size v5 (frB p.er)) → False → True := fun _ _ => trivial
  by_cases hh : p.has = true
  · rw [if_pos hh]
    refine ⟨[], facts_nil _ _, fun w42 L43 h42 g42 => ?_⟩
    have C0 := C.hidL h42 g42
    have ha := run_str (P := Try.prog) (e := 5) Try.underlying66 Try.underlying5 Try.underlying9 (C0.src (((((h.mono hm1).mono hm2).mono hm3).mono hm4).mono hm5)) ⟨_, _, rfl⟩
    refine ⟨_, _, ha, kept_refl _ _, facts_nil _ _, ?_⟩
    refine (c_WText w7.heap.size v5 _ (toBA p.body) (by rw [toBA_size]; omega) (by rw [toBA_size]; simp only [List.length_append]; omega)).call (As := []) C0 trivial fun v6 m6 w47 hk hm6 _ C => ⟨rfl, hk, facts_nil _ _, ?_⟩
    rw [toBA_size, toBA_data] at C
    have e : ((((putP p.fn p.fl ++ putP p.tn p.tl) ++ putU p.sq) ++ putU p.ak) ++ [flagB p.has]) ++ (putU p.body.length ++ p.body) = frB p.er := by
      rw [frB]; congr 1; exact (if_pos hh).symm
    rw [e] at C
    have hlen : (frB p.er).length ≤ 140737488355000 := by
      rw [← e]
      have := putU_10 (n := p.body.length) (by omega)
      simp only [List.length_append]; omega
    refine (c_WBytes w7.heap.size _ (frB p.er) (by omega)).call (As := []) C trivial fun q7 m7 w49 hk hm7 _ C => ⟨_, _, _, rfl, hk, ?_⟩
    refine (c_summed q7 (frB p.er) (by omega)).call (As := wA w7.heap.size _ (frB p.er)) C trivial fun q8 m8 w54 hk hm8 _ C => ⟨_, _, _, rfl, hk, ?_⟩
    by_cases hbig : (sumd (frB p.er)).length > 524288
    · rw [if_pos (by simp only [decide_eq_true_eq]; omega)]
      have e5 : frS p.er = ([], 5) := by rw [frS, if_neg hbd, if_pos hbig]
      rw [e5]
      exact Ctr.ret (r := fun q : Sl => .tuple #[slV q 0, .int .i64 5]) (post := fun _ _ => True) (Bs := fun q : Sl => [ow q []]) (none, 0) rfl trivial (Ctx.slNil (Ctx.pk C [] [0, 1, 2] rfl))
    · rw [if_neg (by simp only [decide_eq_true_eq]; omega)]
      have e5 : frS p.er = (sumd (frB p.er), 0) := by rw [frS, if_neg hbd, if_neg hbig]
      rw [e5]
      exact Ctr.ret (r := fun q : Sl => .tuple #[slV q (sumd (frB p.er)).length, .int .i64 0]) (post := fun _ _ => True) (Bs := fun q : Sl => [ow q (sumd (frB p.er))]) _ rfl trivial (Ctx.pk C [0] [1, 2] rfl)
  · rw [if_neg hh]
    have e : ((((putP p.fn p.fl ++ putP p.tn p.tl) ++ putU p.sq) ++ putU p.ak) ++ [flagB p.has]) = frB p.er := by
      have : (if p.er.has then putU p.er.body.length ++ p.er.body else []) = [] := if_neg hh
      rw [frB, this, List.append_nil]; rfl
    rw [e] at C
    have hlen : (frB p.er).length ≤ 140737488355000 := by
      rw [← e]
      simp only [List.length_append]; omega
    refine (c_WBytes w7.heap.size _ (frB p.er) (by omega)).call (As := []) C trivial fun q7 m7 w49 hk hm7 _ C => ⟨_, _, _, rfl, hk, ?_⟩
    refine (c_summed q7 (frB p.er) (by omega)).call (As := wA w7.heap.size _ (frB p.er)) C trivial fun q8 m8 w54 hk hm8 _ C => ⟨_, _, _, rfl, hk, ?_⟩
    by_cases hbig : (sumd (frB p.er)).length > 524288
    · rw [if_pos (by simp only [decide_eq_true_eq]; omega)]
      have e5 : frS p.er = ([], 5) := by rw [frS, if_neg hbd, if_pos hbig]
      rw [e5]
      exact Ctr.ret (r := fun q : Sl => .tuple #[slV q 0, .int .i64 5]) (post := fun _ _ => True) (Bs := fun q : Sl => [ow q []]) (none, 0) rfl trivial (Ctx.slNil (Ctx.pk C [] [0, 1, 2] rfl))
    · rw [if_neg (by simp only [decide_eq_true_eq]; omega)]
      have e5 : frS p.er = (sumd (frB p.er), 0) := by rw [frS, if_neg hbd, if_neg hbig]
      rw [e5]
      exact Ctr.ret (r := fun q : Sl => .tuple #[slV q (sumd (frB p.er)).length, .int .i64 0]) (post := fun _ _ => True) (Bs := fun q : Sl => [ow q (sumd (frB p.er))]) _ rfl trivial (Ctx.pk C [0] [1, 2] rfl)
theorem c_r7Frame (p : Pk) (hi : PeIn p.er) (hb : p.body.length ≤ 1000000) : Ctr Try.prog 20 #[.agg p.row.toArray] (fun m => bsM m p.q p.body) [] (fun q : Sl => .tuple #[slV q (frS p.er).1.length, .int .i64 (frS p.er).2]) (fun _ _ => True) (fun q => [ow q (frS p.er).1]) := by
  refine Ctr.mk fun w F m C h => x_r7Frame _ _ _ _ _ _ _ _ _ _ w _ fun w1 L2 h1 g1 => ?_
  have l1 := putP_12 (n := p.fn) hi.fl
  have l2 := putP_12 (n := p.tn) hi.tl
  have l3 := putU_10 hi.sq
  have l4 := putU_10 hi.ak
  replace l1 : (putP p.fn p.fl).length ≤ 12 := l1
  replace l2 : (putP p.tn p.tl).length ≤ 12 := l2
  replace l3 : (putU p.sq).length ≤ 10 := l3
  replace l4 : (putU p.ak).length ≤ 10 := l4
  refine (C.hidL h1 g1).gives (c_ref_RightProc p.fn p.fl) fun w4 k4 C => ⟨_, rfl, k4, ?_⟩
  have hbad : p.er.bad = (((!(rightP p.fn p.fl)) || (!(rightP p.tn p.tl))) || ((!p.has) && decide (p.body.length > 0))) := rfl
  have bad : p.er.bad = true → ∀ {w' L'}, Ctx F m w w' L' m [] → ∃ i m' L, Ending.returned (.tuple #[.slice none 0 0, .int .i64 1]) = .returned (.tuple #[slV i (frS p.er).1.length, .int .i64 (frS p.er).2]) ∧ True ∧ Ctx F m w w' L m' [ow i (frS p.er).1] := fun hb w' L' C => by
    have e : frS p.er = ([], 1) := by rw [frS, if_pos hb]
    rw [e]
    exact Ctr.ret (m' := m) (L := L') (r := fun q : Sl => .tuple #[slV q 0, .int .i64 1]) (post := fun _ _ => True) (Bs := fun q : Sl => [ow q []]) (none, 0) rfl trivial C.slNil
  by_cases r1 : rightP p.fn p.fl = true
  rotate_left
  · have r1' := Bool.eq_false_iff.2 r1
    rw [r1'] at hbad ⊢
    rw [if_neg (by decide)]
    exact bad hbad C
  rw [r1] at hbad ⊢
  rw [if_pos (by decide)]
  refine C.gives (c_ref_RightProc p.tn p.tl) fun w7 k7 C => ⟨_, rfl, k7, ?_⟩
  have hc : ((false || (!(rightP p.tn p.tl))) || ((!p.has) && decide (((p.body.length : Nat) : Int) > 0))) = p.er.bad := by
    rw [hbad]
    have : decide (((p.body.length : Nat) : Int) > 0) = decide (p.body.length > 0) := decide_eq_decide.2 (by omega)
    rw [this]; rfl
  rw [hc]
  by_cases hbd : p.er.bad = true
  · rw [if_pos hbd]; exact bad hbd C
  rw [if_neg hbd]
  clear bad hc hbad
  refine ⟨[], facts_nil _ _, fun w10 L11 h10 g10 => ?_⟩
  refine (c_r2PutProc p.fn p.fl hi.fn hi.fl).call (As := []) (C.hidL h10 g10) trivial fun q1 m1 w13 hk hm1 _ C => ⟨_, _, _, rfl, hk, facts_nil _ _, ?_⟩
  refine (c_r2PutProc p.tn p.tl hi.tn hi.tl).call (As := [_]) C trivial fun q2 m2 w18 hk hm2 _ C => ⟨_, _, _, rfl, hk, facts_nil _ _, ?_⟩
  obtain ⟨q3, c3, w25, hr, hk, C⟩ := ow_two (Ctx.swap C) (by omega)
  refine ⟨q3, _, c3, w25, hr, hk, facts_nil _ _, [], facts_nil _ _, fun w27 L28 h27 g27 => ?_⟩
  refine (c_r1Put p.sq hi.sq).call (As := [_]) (C.hidL h27 g27) trivial fun q4 m4 w30 hk hm4 _ C => ⟨_, _, _, rfl, hk, facts_nil _ _, ?_⟩
  obtain ⟨q5, c5, w37, hr, hk, C⟩ := ow_two (Ctx.swap C) (by simp only [List.length_append]; omega)
  refine ⟨q5, _, c5, w37, hr, hk, facts_nil _ _, ?_⟩
  refine (c_r1Put p.ak hi.ak).call (As := [_]) C trivial fun q6 m6 w39 hk hm6 _ C => ⟨_, _, _, rfl, hk, facts_nil _ _, ?_⟩
  obtain ⟨q7, c7, w46, hr, hk, C⟩ := ow_two (Ctx.swap C) (by simp only [List.length_append]; omega)
  refine ⟨q7, _, c7, w46, hr, hk, facts_nil _ _, ?_⟩
  refine C.gives (c_r7flag p.has) fun w48 k48 C => ⟨_, rfl, k48, ?_⟩
  have D : Ctx F m w (w48.alloc (.cells #[.int .u8 ((flagB p.has).toNat : Int)] 5)) L28 m6 (ow (some ⟨w48.heap.size, 0, none⟩, 1) [flagB p.has] :: _) := Ctx.slNew (cs := byV [flagB p.has]) (n := 1) rfl (by unfold maxLen; omega) C
  obtain ⟨q8, c8, w53, hr, hk, C⟩ := ow_two D.swap (by simp only [List.length_append, List.length_singleton]; omega)
  refine ⟨q8, _, c8, w53, hr, hk, ?_⟩
  by_cases hh : p.has = true
  · rw [if_pos hh]
    have ha := run_str (P := Try.prog) (e := 5) Try.underlying66 Try.underlying5 Try.underlying9 (C.src ((((h.mono hm1).mono hm2).mono hm4).mono hm6)) ⟨_, _, rfl⟩
    refine ⟨_, _, ha, kept_refl _ _, ?_⟩
    refine (c_r1Text (toBA p.body) (by rw [toBA_size]; omega)).call (As := [_]) C trivial fun q9 m9 w62 hk hm9 _ C => ⟨_, _, _, rfl, hk, ?_⟩
    rw [toBA_size, toBA_data] at C ⊢
    have := putU_10 (n := p.body.length) (by omega)
    obtain ⟨q10, c10, w69, hr, hk, C⟩ := ow_two (Ctx.swap C) (by simp only [List.length_append, List.length_singleton]; omega)
    refine ⟨q10, _, c10, w69, hr, hk, ?_⟩
    have e : ((((putP p.fn p.fl ++ putP p.tn p.tl) ++ putU p.sq) ++ putU p.ak) ++ [flagB p.has]) ++ (putU p.body.length ++ p.body) = frB p.er := by
      rw [frB]; congr 1; exact (if_pos hh).symm
    rw [e] at C ⊢
    have hlen : (frB p.er).length ≤ 2000000 := by
      rw [← e]
      simp only [List.length_append, List.length_singleton]; omega
    obtain ⟨m10, hm10, hs, C⟩ := Ctx.slShare C
    refine (c_r7Summed _ (frB p.er) (by omega)).call (As := []) C hs fun q11 m11 w71 hk hm11 _ C => ⟨_, _, _, rfl, hk, ?_⟩
    by_cases hbig : (sumd (frB p.er)).length > 524288
    · rw [if_pos (by simp only [decide_eq_true_eq]; omega)]
      have e5 : frS p.er = ([], 5) := by rw [frS, if_neg hbd, if_pos hbig]
      rw [e5]
      exact Ctr.ret (r := fun q : Sl => .tuple #[slV q 0, .int .i64 5]) (post := fun _ _ => True) (Bs := fun q : Sl => [ow q []]) (none, 0) rfl trivial (Ctx.slNil (Ctx.pk C [] [0] rfl))
    · rw [if_neg (by simp only [decide_eq_true_eq]; omega)]
      have e5 : frS p.er = (sumd (frB p.er), 0) := by rw [frS, if_neg hbd, if_neg hbig]
      rw [e5]
      exact Ctr.ret (r := fun q : Sl => .tuple #[slV q (sumd (frB p.er)).length, .int .i64 0]) (post := fun _ _ => True) (Bs := fun q : Sl => [ow q (sumd (frB p.er))]) _ rfl trivial (Ctx.pk C [0] [] rfl)
  · rw [if_neg hh]
    have e : ((((putP p.fn p.fl ++ putP p.tn p.tl) ++ putU p.sq) ++ putU p.ak) ++ [flagB p.has]) = frB p.er := by
      have : (if p.er.has then putU p.er.body.length ++ p.er.body else []) = [] := if_neg hh
      rw [frB, this, List.append_nil]; rfl
    rw [e] at C ⊢
    have hlen : (frB p.er).length ≤ 2000000 := by
      rw [← e]
      simp only [List.length_append, List.length_singleton]; omega
    obtain ⟨m10, hm10, hs, C⟩ := Ctx.slShare C
    refine (c_r7Summed _ (frB p.er) (by omega)).call (As := []) C hs fun q11 m11 w71 hk hm11 _ C => ⟨_, _, _, rfl, hk, ?_⟩
    by_cases hbig : (sumd (frB p.er)).length > 524288
    · rw [if_pos (by simp only [decide_eq_true_eq]; omega)]
      have e5 : frS p.er = ([], 5) := by rw [frS, if_neg hbd, if_pos hbig]
      rw [e5]
      exact Ctr.ret (r := fun q : Sl => .tuple #[slV q 0, .int .i64 5]) (post := fun _ _ => True) (Bs := fun q : Sl => [ow q []]) (none, 0) rfl trivial (Ctx.slNil (Ctx.pk C [] [0] rfl))
    · rw [if_neg (by simp only [decide_eq_true_eq]; omega)]
      have e5 : frS p.er = (sumd (frB p.er), 0) := by rw [frS, if_neg hbd, if_neg hbig]
      rw [e5]
      exact Ctr.ret (r := fun q : Sl => .tuple #[slV q (sumd (frB p.er)).length, .int .i64 0]) (post := fun _ _ => True) (Bs := fun q : Sl => [ow q (sumd (frB p.er))]) _ rfl trivial (Ctx.pk C [0] [] rfl)
end Go.Proofs
