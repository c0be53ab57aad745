namespace Go.Proofs
/-! ### sums of bytes: a register of 32 bits -/
def stepZ (s : BitVec 32) : BitVec 32 := (s <<< 1) ^^^ (if s.msb then 0x04c11db7#32 else 0#32)
def itZ : Nat → BitVec 32 → BitVec 32
  | 0, s => s
  | k + 1, s => itZ k (stepZ s)
theorem itZ_add (a b : Nat) (s : BitVec 32) : itZ (a + b) s = itZ b (itZ a s) := by
  induction a generalizing s with
  | zero => simp [itZ]
  | succ a ih => rw [Nat.succ_add]; exact ih _
theorem stepZ_xor (a b : BitVec 32) : stepZ (a ^^^ b) = stepZ a ^^^ stepZ b := by
  unfold stepZ
  rw [BitVec.msb_xor, BitVec.shiftLeft_xor_distrib]
  cases a.msb <;> cases b.msb <;> simp
  all_goals (ext i; simp; try (cases (a <<< 1)[i] <;> cases (b <<< 1)[i] <;> rfl))
  all_goals (try (generalize (79764919#32)[i] = z; cases z <;> simp))
theorem itZ_xor (k : Nat) (a b : BitVec 32) : itZ k (a ^^^ b) = itZ k a ^^^ itZ k b := by
  induction k generalizing a b with
  | zero => rfl
  | succ k ih => show itZ k (stepZ _) = _; rw [stepZ_xor, ih]; rfl
theorem stepZ_zero {a : BitVec 32} (h : stepZ a = 0#32) : a = 0#32 := by
  unfold stepZ at h
  cases hm : a.msb
  · rw [hm] at h
    simp only [Bool.false_eq_true, if_false, BitVec.xor_zero] at h
    have hm' : a.toNat < 2 ^ 31 := by rw [BitVec.msb_eq_false_iff_two_mul_lt] at hm; omega
    have h2 := congrArg BitVec.toNat h
    rw [BitVec.toNat_shiftLeft, Nat.shiftLeft_eq, Nat.mod_eq_of_lt (by omega)] at h2
    apply BitVec.eq_of_toNat_eq
    have h3 : a.toNat * 2 = 0 := by simpa using h2
    show a.toNat = 0
    omega
  · rw [hm] at h
    have h0 := congrArg (fun x => x.getLsbD 0) h
    simp at h0
theorem itZ_zero {k : Nat} {a : BitVec 32} (h : itZ k a = 0#32) : a = 0#32 := by
  induction k generalizing a with
  | zero => exact h
  | succ k ih => exact stepZ_zero (ih h)
theorem itZ_inj {k : Nat} {a b : BitVec 32} (h : itZ k a = itZ k b) : a = b := by
  have : itZ k (a ^^^ b) = 0#32 := by rw [itZ_xor, h, BitVec.xor_self]
  have := itZ_zero this
  have h3 : a ^^^ b ^^^ b = 0#32 ^^^ b := by rw [this]
  rwa [BitVec.xor_assoc, BitVec.xor_self, BitVec.xor_zero, BitVec.zero_xor] at h3
def byW (c : UInt8) : BitVec 32 := BitVec.ofNat 32 c.toNat
def byZ (s : BitVec 32) (c : UInt8) : BitVec 32 := itZ 8 (s ^^^ (byW c <<< 24))
def regZ (s : BitVec 32) (l : List UInt8) : BitVec 32 := l.foldl byZ s
theorem regZ_app (s : BitVec 32) (a b : List UInt8) : regZ s (a ++ b) = regZ (regZ s a) b := List.foldl_append
theorem regZ_inj {s t : BitVec 32} {l : List UInt8} (h : regZ s l = regZ t l) : s = t := by
  induction l generalizing s t with
  | nil => exact h
  | cons c l ih =>
    have := itZ_inj (ih h)
    have h3 : s ^^^ byW c <<< 24 ^^^ byW c <<< 24 = t ^^^ byW c <<< 24 ^^^ byW c <<< 24 := by rw [this]
    rwa [BitVec.xor_assoc, BitVec.xor_self, BitVec.xor_zero, BitVec.xor_assoc, BitVec.xor_self, BitVec.xor_zero] at h3
theorem step_low (c : UInt8) (j : Nat) (hj : j ≤ 23) : stepZ (byW c <<< j) = byW c <<< (j + 1) := by
  unfold stepZ
  have hm : (byW c <<< j).msb = false := by
    rw [BitVec.msb_eq_false_iff_two_mul_lt, BitVec.toNat_shiftLeft, Nat.shiftLeft_eq]
    have h1 : (byW c).toNat < 256 := by
      rw [byW, BitVec.toNat_ofNat]; have := c.toNat_lt; omega
    have h2 : 2 ^ j ≤ 2 ^ 23 := Nat.pow_le_pow_right (by omega) hj
    have h3 : (byW c).toNat * 2 ^ j < 256 * 2 ^ 23 := by
      have := Nat.mul_le_mul (Nat.le_of_lt_succ h1 : (byW c).toNat ≤ 255) h2
      omega
    rw [Nat.mod_eq_of_lt (by omega)]; omega
  rw [hm]
  simp only [Bool.false_eq_true, if_false, BitVec.xor_zero]
  rw [← BitVec.shiftLeft_add]
theorem it_low (c : UInt8) (k j : Nat) (hj : j + k ≤ 24) : itZ k (byW c <<< j) = byW c <<< (j + k) := by
  induction k generalizing j with
  | zero => rfl
  | succ k ih => show itZ k (stepZ _) = _; rw [step_low c j (by omega), ih _ (by omega)]; congr 1; omega
/-- four bytes as a word -/
def word4 (a b c d : UInt8) : BitVec 32 := byW a <<< 24 ^^^ byW b <<< 16 ^^^ byW c <<< 8 ^^^ byW d
theorem reg4 (s : BitVec 32) (a b c d : UInt8) : regZ s [a, b, c, d] = itZ 32 (s ^^^ word4 a b c d) := by
  show byZ (byZ (byZ (byZ s a) b) c) d = _
  unfold byZ word4
  have e : ∀ x : BitVec 32, itZ 32 x = itZ 8 (itZ 8 (itZ 8 (itZ 8 x))) := fun x => by
    rw [← itZ_add, ← itZ_add, ← itZ_add]
  rw [e]
  have e1 : s ^^^ (byW a <<< 24 ^^^ byW b <<< 16 ^^^ byW c <<< 8 ^^^ byW d) = s ^^^ byW a <<< 24 ^^^ byW b <<< 16 ^^^ byW c <<< 8 ^^^ byW d <<< 0 := by
    simp [BitVec.xor_assoc]
  rw [e1]
  have h0 : itZ 8 (s ^^^ byW a <<< 24 ^^^ byW b <<< 16 ^^^ byW c <<< 8 ^^^ byW d <<< 0) = itZ 8 (s ^^^ byW a <<< 24) ^^^ byW b <<< 24 ^^^ byW c <<< 16 ^^^ byW d <<< 8 := by
    rw [itZ_xor, itZ_xor, itZ_xor, it_low b 8 16 (by omega), it_low c 8 8 (by omega), it_low d 8 0 (by omega)]
  rw [h0]
  have h1 : ∀ y, itZ 8 (y ^^^ byW b <<< 24 ^^^ byW c <<< 16 ^^^ byW d <<< 8) = itZ 8 (y ^^^ byW b <<< 24) ^^^ byW c <<< 24 ^^^ byW d <<< 16 := fun y => by
    rw [itZ_xor, itZ_xor, it_low c 8 16 (by omega), it_low d 8 8 (by omega)]
  rw [h1]
  have h2 : ∀ y, itZ 8 (y ^^^ byW c <<< 24 ^^^ byW d <<< 16) = itZ 8 (y ^^^ byW c <<< 24) ^^^ byW d <<< 24 := fun y => by
    rw [itZ_xor, it_low d 8 16 (by omega)]
  rw [h2]
def onesZ : BitVec 32 := 0xffffffff#32
/-- a body, and its sum behind it: the whole stands at one value -/
theorem reg_sum {s : BitVec 32} {a b c d : UInt8} : regZ s [a, b, c, d] = itZ 32 onesZ ↔ word4 a b c d = ~~~ s := by
  rw [reg4]
  constructor
  · intro h
    have h1 := itZ_inj h
    have h2 : s ^^^ (s ^^^ word4 a b c d) = s ^^^ onesZ := by rw [h1]
    rw [← BitVec.xor_assoc, BitVec.xor_self, BitVec.zero_xor] at h2
    rw [h2, BitVec.not_def, BitVec.xor_comm]; rfl
  · intro h
    rw [h]; congr 1
    rw [BitVec.not_def, BitVec.xor_comm, BitVec.xor_assoc, BitVec.xor_self]
    simp [onesZ]
theorem word4_xor (a b c d a' b' c' d' : UInt8) : word4 (a ^^^ a') (b ^^^ b') (c ^^^ c') (d ^^^ d') = word4 a b c d ^^^ word4 a' b' c' d' := by
  have e : ∀ x y : UInt8, byW (x ^^^ y) = byW x ^^^ byW y := fun x y => by
    unfold byW
    apply BitVec.eq_of_toNat_eq
    rw [BitVec.toNat_xor, BitVec.toNat_ofNat, BitVec.toNat_ofNat, BitVec.toNat_ofNat, UInt8.toNat_xor]
    have := x.toNat_lt
    have := y.toNat_lt
    have h3 : x.toNat ^^^ y.toNat < 2 ^ 8 := Nat.xor_lt_two_pow (by omega) (by omega)
    rw [Nat.mod_eq_of_lt (by omega), Nat.mod_eq_of_lt (by omega), Nat.mod_eq_of_lt (by omega)]
  unfold word4
  rw [e, e, e, e, BitVec.shiftLeft_xor_distrib, BitVec.shiftLeft_xor_distrib, BitVec.shiftLeft_xor_distrib]
  generalize byW a <<< 24 = p1
  generalize byW a' <<< 24 = p2
  generalize byW b <<< 16 = p3
  generalize byW b' <<< 16 = p4
  generalize byW c <<< 8 = p5
  generalize byW c' <<< 8 = p6
  generalize byW d = p7
  generalize byW d' = p8
  ext i
  simp only [BitVec.getElem_xor]
  cases p1[i] <;> cases p2[i] <;> cases p3[i] <;> cases p4[i] <;> cases p5[i] <;> cases p6[i] <;> cases p7[i] <;> cases p8[i] <;> rfl
/-- a burst of four bytes is seen -/
theorem burst (s : BitVec 32) (u v : List UInt8) (a b c d a' b' c' d' : UInt8) (hm : word4 a' b' c' d' ≠ 0#32) :
    regZ s (u ++ [a ^^^ a', b ^^^ b', c ^^^ c', d ^^^ d'] ++ v) ≠ regZ s (u ++ [a, b, c, d] ++ v) := by
  intro h
  rw [regZ_app, regZ_app, regZ_app, regZ_app] at h
  have h := regZ_inj h
  rw [reg4, reg4, word4_xor] at h
  have h := itZ_inj h
  generalize regZ s u = x at h
  generalize word4 a b c d = y at h
  apply hm
  have h2 : (x ^^^ y) ^^^ ((x ^^^ y) ^^^ word4 a' b' c' d') = (x ^^^ y) ^^^ (x ^^^ y) := by
    congr 1
    rw [BitVec.xor_assoc]; exact h
  rwa [← BitVec.xor_assoc, BitVec.xor_self, BitVec.zero_xor] at h2
end Go.Proofs
namespace Go.Proofs
def refStep (s : BitVec 32) (bit : Bool) : BitVec 32 := (s <<< 1) ^^^ (if bit != s.msb then 0x04c11db7#32 else 0#32)
def topZ (b : Bool) : BitVec 32 := if b then 0x80000000#32 else 0#32
theorem refStep_eq (s : BitVec 32) (b : Bool) : refStep s b = stepZ (s ^^^ topZ b) := by
  unfold refStep stepZ
  rw [BitVec.msb_xor, BitVec.shiftLeft_xor_distrib]
  have h : (topZ b) <<< 1 = 0#32 := by cases b <;> rfl
  rw [h, BitVec.xor_zero]
  cases b <;> cases s.msb <;> rfl
/-- bit j of a byte -/
def bitB (c : UInt8) (j : Nat) : Bool := decide (c.toNat / 2 ^ j % 2 = 1)
theorem byZ_bits (s : BitVec 32) (c : UInt8) : byZ s c = refStep (refStep (refStep (refStep (refStep (refStep (refStep (refStep s (bitB c 7)) (bitB c 6)) (bitB c 5)) (bitB c 4)) (bitB c 3)) (bitB c 2)) (bitB c 1)) (bitB c 0) := by
  simp only [refStep_eq]
  have hz : stepZ 0#32 = 0#32 := rfl
  -- the byte as bits at its place
  have hc : byW c <<< 24 = topZ (bitB c 7) ^^^ (topZ (bitB c 6) >>> 1) ^^^ (topZ (bitB c 5) >>> 2) ^^^ (topZ (bitB c 4) >>> 3) ^^^ (topZ (bitB c 3) >>> 4) ^^^ (topZ (bitB c 2) >>> 5) ^^^ (topZ (bitB c 1) >>> 6) ^^^ (topZ (bitB c 0) >>> 7) := by
    have : ∀ n : Fin 256, byW (UInt8.ofNat n.val) <<< 24 = topZ (bitB (UInt8.ofNat n.val) 7) ^^^ (topZ (bitB (UInt8.ofNat n.val) 6) >>> 1) ^^^ (topZ (bitB (UInt8.ofNat n.val) 5) >>> 2) ^^^ (topZ (bitB (UInt8.ofNat n.val) 4) >>> 3) ^^^ (topZ (bitB (UInt8.ofNat n.val) 3) >>> 4) ^^^ (topZ (bitB (UInt8.ofNat n.val) 2) >>> 5) ^^^ (topZ (bitB (UInt8.ofNat n.val) 1) >>> 6) ^^^ (topZ (bitB (UInt8.ofNat n.val) 0) >>> 7) := by decide +kernel
    have h := this ⟨c.toNat, c.toNat_lt⟩
    have e : UInt8.ofNat c.toNat = c := UInt8.ofNat_toNat
    simpa only [e] using h
  have sh : ∀ (b : Bool) (k : Nat), k < 8 → stepZ (topZ b >>> (k + 1)) = topZ b >>> k := by
    intro b k hk
    have : ∀ (b : Bool) (k : Fin 8), stepZ (topZ b >>> (k.val + 1)) = topZ b >>> k.val := by decide +kernel
    exact this b ⟨k, hk⟩
  unfold byZ
  rw [hc]
  have sx : ∀ x y, stepZ (x ^^^ y) = stepZ x ^^^ stepZ y := stepZ_xor
  have z0 : ∀ b, topZ b >>> 0 = topZ b := fun b => by cases b <;> rfl
  show stepZ (stepZ (stepZ (stepZ (stepZ (stepZ (stepZ (stepZ (s ^^^ _)))))))) = _
  simp only [sx]
  have s1 : ∀ b, stepZ (topZ b >>> 1) = topZ b := fun b => by rw [sh b 0 (by omega), z0]
  have s2 : ∀ b, stepZ (topZ b >>> 2) = topZ b >>> 1 := fun b => sh b 1 (by omega)
  have s3 : ∀ b, stepZ (topZ b >>> 3) = topZ b >>> 2 := fun b => sh b 2 (by omega)
  have s4 : ∀ b, stepZ (topZ b >>> 4) = topZ b >>> 3 := fun b => sh b 3 (by omega)
  have s5 : ∀ b, stepZ (topZ b >>> 5) = topZ b >>> 4 := fun b => sh b 4 (by omega)
  have s6 : ∀ b, stepZ (topZ b >>> 6) = topZ b >>> 5 := fun b => sh b 5 (by omega)
  have s7 : ∀ b, stepZ (topZ b >>> 7) = topZ b >>> 6 := fun b => sh b 6 (by omega)
  simp only [s1, s2, s3, s4, s5, s6, s7, BitVec.xor_assoc]
end Go.Proofs
namespace Go.Proofs
theorem xor_add {a b i : Nat} (h : b < 2 ^ i) : (2 ^ i * a) ^^^ b = 2 ^ i * a + b := by
  apply Nat.eq_of_testBit_eq
  intro j
  rw [Nat.testBit_xor, Nat.testBit_two_pow_mul_add _ h, Nat.testBit_two_pow_mul]
  by_cases hj : j < i
  · rw [if_pos hj]; have : ¬ j ≥ i := by omega
    simp [this]
  · rw [if_neg hj]; have : j ≥ i := by omega
    have h2 : b < 2 ^ j := Nat.lt_of_lt_of_le h (Nat.pow_le_pow_right (by omega) this)
    simp [this, Nat.testBit_lt_two_pow h2]
theorem word4_nat (a b c d : UInt8) : (word4 a b c d).toNat = a.toNat * 16777216 + b.toNat * 65536 + c.toNat * 256 + d.toNat := by
  have h1 := a.toNat_lt
  have h2 := b.toNat_lt
  have h3 := c.toNat_lt
  have h4 := d.toNat_lt
  unfold word4 byW
  simp only [BitVec.toNat_xor, BitVec.toNat_shiftLeft, BitVec.toNat_ofNat, Nat.shiftLeft_eq]
  rw [Nat.mod_eq_of_lt (show a.toNat < 2 ^ 32 by omega), Nat.mod_eq_of_lt (show b.toNat < 2 ^ 32 by omega), Nat.mod_eq_of_lt (show c.toNat < 2 ^ 32 by omega), Nat.mod_eq_of_lt (show d.toNat < 2 ^ 32 by omega)]
  rw [Nat.mod_eq_of_lt (show a.toNat * 2 ^ 24 < 2 ^ 32 by omega), Nat.mod_eq_of_lt (show b.toNat * 2 ^ 16 < 2 ^ 32 by omega), Nat.mod_eq_of_lt (show c.toNat * 2 ^ 8 < 2 ^ 32 by omega)]
  have e1 : a.toNat * 2 ^ 24 ^^^ b.toNat * 2 ^ 16 = 2 ^ 24 * a.toNat + b.toNat * 2 ^ 16 := by rw [Nat.mul_comm a.toNat]; exact xor_add (by omega)
  rw [e1]
  have e2 : (2 ^ 24 * a.toNat + b.toNat * 2 ^ 16) ^^^ c.toNat * 2 ^ 8 = 2 ^ 16 * (2 ^ 8 * a.toNat + b.toNat) + c.toNat * 2 ^ 8 := by
    have : 2 ^ 24 * a.toNat + b.toNat * 2 ^ 16 = 2 ^ 16 * (2 ^ 8 * a.toNat + b.toNat) := by omega
    rw [this]; exact xor_add (by omega)
  rw [e2]
  have e3 : (2 ^ 16 * (2 ^ 8 * a.toNat + b.toNat) + c.toNat * 2 ^ 8) ^^^ d.toNat = 2 ^ 8 * (2 ^ 16 * a.toNat + 2 ^ 8 * b.toNat + c.toNat) + d.toNat := by
    have : 2 ^ 16 * (2 ^ 8 * a.toNat + b.toNat) + c.toNat * 2 ^ 8 = 2 ^ 8 * (2 ^ 16 * a.toNat + 2 ^ 8 * b.toNat + c.toNat) := by omega
    rw [this]; exact xor_add (by omega)
  rw [e3]; omega
theorem word4_zero {a b c d : UInt8} (h : word4 a b c d = 0#32) : a = 0 ∧ b = 0 ∧ c = 0 ∧ d = 0 := by
  have h1 := word4_nat a b c d
  rw [h] at h1
  have h1 : 0 = a.toNat * 16777216 + b.toNat * 65536 + c.toNat * 256 + d.toNat := h1
  have z : ∀ x : UInt8, x.toNat = 0 → x = 0 := fun x hx => UInt8.toNat_inj.1 hx
  exact ⟨z a (by omega), z b (by omega), z c (by omega), z d (by omega)⟩
theorem word4_of (s : BitVec 32) : word4 (UInt8.ofNat (s.toNat / 16777216)) (UInt8.ofNat (s.toNat / 65536)) (UInt8.ofNat (s.toNat / 256)) (UInt8.ofNat s.toNat) = s := by
  apply BitVec.eq_of_toNat_eq
  rw [word4_nat]
  have h := s.isLt
  have e : ∀ n : Nat, (UInt8.ofNat n).toNat = n % 256 := fun n => rfl
  rw [e, e, e, e]; omega
end Go.Proofs
