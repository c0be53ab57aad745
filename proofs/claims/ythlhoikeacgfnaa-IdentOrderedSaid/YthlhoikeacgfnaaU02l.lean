import Derived.Test.YthlhoikeacgfnaaU02k
set_option linter.unusedVariables false
set_option linter.unusedSimpArgs false
set_option maxRecDepth 100000
namespace Go.Proofs
open Go X RowKit
theorem stepHid {w w1 : World} {L : List Nat} (A : At w.heap.size w w1 L) {Φ : World → List Nat → Prop} (h : ∀ w2 L2, At w.heap.size w w2 L2 → Φ w2 L2) : ∀ w2 : World, ∀ L2 : List Nat, Hid L w1 w2 → NewL w.heap.size L w1 w2 L2 → Φ w2 L2 :=
  fun w2 L2 h1 h2 => h w2 L2 (at_hid A (Nat.le_refl _) h1 h2)
theorem stepID {w w1 : World} {L : List Nat} (A : At w.heap.size w w1 L) (x : I) {Φ : Int → Int → Int → Int → Int → Int → Int → Int → Int → Int → World → Prop} (h : ∀ w2, At w.heap.size w w2 L → Φ x.n x.l x.s x.d x.g0 x.i0 x.g1 x.i1 x.g2 x.i2 w2) :
    CallX Try.prog 9 #[x.V] w1 fun e w2 => ∃ n7 : Int, ∃ n8 : Int, ∃ n9 : Int, ∃ n10 : Int, ∃ n11 : Int, ∃ n12 : Int, ∃ n13 : Int, ∃ n14 : Int, ∃ n15 : Int, ∃ n16 : Int, e = .returned (.agg #[.int .u8 n7, .int .u16 n8, .int .u32 n9, .int .u8 n10, .int .u8 n11, .int .u8 n12, .int .u8 n13, .int .u8 n14, .int .u8 n15, .int .u8 n16]) ∧
      Kept L w1 w2 ∧ FactsW [] w2 L ∧ Φ n7 n8 n9 n10 n11 n12 n13 n14 n15 n16 w2 :=
  (c_ID x).call fun w2 h2 => ⟨_, _, _, _, _, _, _, _, _, _, rfl, at_kept A h2, facts_nil _ _, h w2 (at_call A (Nat.le_refl _) h2)⟩
theorem c_IdentOrdered (a b c : I) (ha : a.In) (hb : b.In) (hc : c.In) : Gives Try.prog 5 #[a.V, b.V, c.V] (.bool true) := by
  intro w
  refine x_gemotlaw02_IdentOrdered _ _ _ _ _ _ _ _ _ _ _ _ _ _ _ _ _ _ _ _ _ _ _ _ _ _ _ _ _ _ w _ ?_
  refine ⟨fun n7 n8 n9 n10 n11 n12 n13 n14 n15 n16 n19 n20 n21 n22 n23 n24 n25 n26 n27 n28 n31 n32 n33 n34 n35 n36 n37 n38 n39 n40 w' L' =>
    (⟨n7, n8, n9, n10, n11, n12, n13, n14, n15, n16⟩ : I) = a ∧ (⟨n19, n20, n21, n22, n23, n24, n25, n26, n27, n28⟩ : I) = b ∧ (⟨n31, n32, n33, n34, n35, n36, n37, n38, n39, n40⟩ : I) = c ∧ At w.heap.size w w' L', ?_, ?_⟩
  · refine ⟨[], facts_nil _ _, ?_⟩
    have A0 : At w.heap.size w w [] := at_same w
    repeat' first
      | (refine stepHid (by assumption) fun w2 L2 A2 => ?_)
      | (refine stepID (by assumption) a fun w2 A2 => ?_)
      | (refine stepID (by assumption) b fun w2 A2 => ?_)
      | (refine stepID (by assumption) c fun w2 A2 => ?_)
      | exact ⟨rfl, rfl, rfl, rfl, rfl, rfl, by assumption⟩
      | refine ⟨?_, ?_⟩
  · rintro n7 n8 n9 n10 n11 n12 n13 n14 n15 n16 n19 n20 n21 n22 n23 n24 n25 n26 n27 n28 n31 n32 n33 n34 n35 n36 n37 n38 n39 n40 w0 L0 _ ⟨e1, e2, e3, A⟩
    obtain rfl : n7 = a.n := by rw [← e1]
    obtain rfl : n8 = a.l := by rw [← e1]
    obtain rfl : n9 = a.s := by rw [← e1]
    obtain rfl : n10 = a.d := by rw [← e1]
    obtain rfl : n11 = a.g0 := by rw [← e1]
    obtain rfl : n12 = a.i0 := by rw [← e1]
    obtain rfl : n13 = a.g1 := by rw [← e1]
    obtain rfl : n14 = a.i1 := by rw [← e1]
    obtain rfl : n15 = a.g2 := by rw [← e1]
    obtain rfl : n16 = a.i2 := by rw [← e1]
    clear e1
    obtain rfl : n19 = b.n := by rw [← e2]
    obtain rfl : n20 = b.l := by rw [← e2]
    obtain rfl : n21 = b.s := by rw [← e2]
    obtain rfl : n22 = b.d := by rw [← e2]
    obtain rfl : n23 = b.g0 := by rw [← e2]
    obtain rfl : n24 = b.i0 := by rw [← e2]
    obtain rfl : n25 = b.g1 := by rw [← e2]
    obtain rfl : n26 = b.i1 := by rw [← e2]
    obtain rfl : n27 = b.g2 := by rw [← e2]
    obtain rfl : n28 = b.i2 := by rw [← e2]
    clear e2
    obtain rfl : n31 = c.n := by rw [← e3]
    obtain rfl : n32 = c.l := by rw [← e3]
    obtain rfl : n33 = c.s := by rw [← e3]
    obtain rfl : n34 = c.d := by rw [← e3]
    obtain rfl : n35 = c.g0 := by rw [← e3]
    obtain rfl : n36 = c.i0 := by rw [← e3]
    obtain rfl : n37 = c.g1 := by rw [← e3]
    obtain rfl : n38 = c.i1 := by rw [← e3]
    obtain rfl : n39 = c.g2 := by rw [← e3]
    obtain rfl : n40 = c.i2 := by rw [← e3]
    clear e3
    have hxy := cmp_num a b ha hb
    have hyz := cmp_num b c hb hc
    have hyx := cmp_num b a hb ha
    have hxz := cmp_num a c ha hc
    have hzy := cmp_num c b hc hb
    have call : ∀ {f : FuncId} {args : Array Value} {V : Value} {w1 : World} {R : Ending → World → Prop}, Gives Try.prog f args V → At w.heap.size w w1 L0 → (∀ w2, Kept L0 w1 w2 → At w.heap.size w w2 L0 → R (.returned V) w2) → CallX Try.prog f args w1 R := fun g A h =>
      g.call fun w2 h2 => h w2 (at_kept A h2) (at_call A (Nat.le_refl _) h2)
    refine call (c_Right a ha) A fun w1 k1 A => ⟨_, rfl, k1, ?_⟩
    cases hra : a.right with
    | false =>
      rw [if_neg (by decide)]
      exact call c_knows A fun w2 k2 A => ⟨true, rfl, k2, rfl, A.bel⟩
    | true =>
    rw [if_pos (by decide)]
    refine call (c_Right b hb) A fun w1 k1 A => ⟨_, rfl, k1, ?_⟩
    cases hrb : b.right with
    | false =>
      rw [if_neg (by decide)]
      exact call c_knows A fun w2 k2 A => ⟨true, rfl, k2, rfl, A.bel⟩
    | true =>
    rw [if_pos (by decide)]
    refine call (c_Right c hc) A fun w1 k1 A => ⟨_, rfl, k1, ?_⟩
    cases hrc : c.right with
    | false =>
      rw [if_neg (by decide)]
      exact call c_knows A fun w2 k2 A => ⟨true, rfl, k2, rfl, A.bel⟩
    | true =>
    rw [if_pos (by decide)]
    refine call c_knows A fun w1 k1 A => ⟨true, rfl, k1, ?_⟩
    rw [if_neg (by decide)]
    refine call (c_Compare a b ha hb) A fun w1 k1 A => ⟨_, rfl, k1, ?_⟩
    refine call (c_Compare b c hb hc) A fun w1 k1 A => ⟨_, rfl, k1, ?_⟩
    rw [i_eqd, hxy, hyz]
    have ab : cmp2 a.num b.num = 0 ↔ a = b := by rw [cmp2_zero]; exact ⟨num_inj ha hb, fun h => by rw [h]⟩
    rw [if_pos (by by_cases h : a = b <;> simp [h, ab, cmp2_self])]
    refine call (c_Compare b a hb ha) A fun w1 k1 A => ⟨_, rfl, k1, ?_⟩
    rw [hyx]
    have hneg : cmp2 b.num a.num = IntKind.wrap .i64 (0 - cmp2 a.num b.num) := by
      rcases Int.lt_trichotomy a.num b.num with h | h | h
      · rw [cmp2_lt h, cmp2_gt h]; rfl
      · rw [h, cmp2_self]; rfl
      · rw [cmp2_gt h, cmp2_lt h]; rfl
    rw [if_pos (by rw [hneg]; simp)]
    -- the rest
    have tail : ∀ w1 : World, At w.heap.size w w1 L0 → CallX Try.prog 27 #[a.V, c.V] w1 fun e w2 => ∃ u : Bool, e = .returned (.bool u) ∧ Kept L0 w1 w2 ∧
        if ((!u) == false) = true then CallX Try.prog 27 #[b.V, c.V] w2 fun e w3 => ∃ u : Bool, e = .returned (.bool u) ∧ Kept L0 w2 w3 ∧
          if ((false || u) == false) = true then CallX Try.prog 23 #[c.V, b.V] w3 fun e w4 => ∃ n : Int, e = .returned (.int .i64 n) ∧ Kept L0 w3 w4 ∧ (Ending.returned (.bool ((false || decide (n > 0)) || decide (cmp2 a.num b.num < 0))) = .returned (.bool true) ∧ Below w.heap.size w w4)
          else (Ending.returned (.bool (true || decide (cmp2 a.num b.num < 0))) = .returned (.bool true) ∧ Below w.heap.size w w3)
        else (Ending.returned (.bool (true || decide (cmp2 a.num b.num < 0))) = .returned (.bool true) ∧ Below w.heap.size w w2) := by
      intro w1 A
      refine call (c_under a c ha) A fun w2 k2 A => ⟨_, rfl, k2, ?_⟩
      by_cases hu : upK 4 a c = c
      rotate_left
      · rw [if_neg (by simp [hu])]; exact ⟨rfl, A.bel⟩
      rw [if_pos (by simp [hu])]
      refine call (c_under b c hb) A fun w3 k3 A => ⟨_, rfl, k3, ?_⟩
      by_cases hv : upK 4 b c = c
      · rw [if_neg (by simp [hv])]; exact ⟨rfl, A.bel⟩
      rw [if_pos (by simp [hv])]
      refine call (c_Compare c b hc hb) A fun w4 k4 A => ⟨_, rfl, k4, ?_, A.bel⟩
      rw [hzy]
      have hua := (under_iff hra hrc ha hc).1 hu
      have hub : ¬ UnderP b c := fun h => hv ((under_iff hrb hrc hb hc).2 h)
      rcases Int.lt_trichotomy c.num b.num with h | h | h
      · have := under_ahead ha hb hc (right_rt hra) (right_rt hrb) (right_rt hrc) hua hub h
        rw [cmp2_lt this]; simp
      · exact absurd (num_inj hc hb h ▸ under_self b) hub
      · rw [cmp2_gt h]; simp
    by_cases hle : cmp2 a.num b.num ≤ 0 ∧ cmp2 b.num c.num ≤ 0
    · rw [if_pos (by simp [hle.1, hle.2])]
      refine call (c_Compare a c ha hc) A fun w1 k1 A => ⟨_, rfl, k1, ?_⟩
      rw [hxz]
      have h1 : a.num ≤ b.num := by
        rcases Int.lt_or_le b.num a.num with h | h
        · rw [cmp2_gt h] at hle; omega
        · exact h
      have h2 : b.num ≤ c.num := by
        rcases Int.lt_or_le c.num b.num with h | h
        · rw [cmp2_gt h] at hle; omega
        · exact h
      have h3 : ¬ cmp2 a.num c.num > 0 := by
        unfold cmp2; split
        · omega
        · split <;> omega
      rw [if_neg (by simpa using h3)]
      exact tail _ A
    · rw [if_neg (by simp only [Bool.and_eq_true, decide_eq_true_eq, beq_iff_eq]; exact hle)]
      exact tail _ A
end Go.Proofs
