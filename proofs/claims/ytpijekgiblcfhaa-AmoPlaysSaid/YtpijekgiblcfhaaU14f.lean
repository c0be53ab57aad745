import Derived.Test.YtpijekgiblcfhaaU14d
import Derived.Test.YtpijekgiblcfhaaV14m1
set_option linter.unusedVariables false
set_option linter.unusedSimpArgs false
namespace Go.Proofs
open Go X RowKit
theorem c_ref_RightProc (n l : Int) : Gives Try.prog 55 #[PV n l] (.bool (rightP n l)) := by
  intro w
  exact x_gemotref02_RightProc n l w _ fun w1 h1 => ⟨rfl, hid_below h1 (by simp) (Nat.le_refl _)⟩
theorem c_ref_Right (x : I) (hx : x.In) : Gives Try.prog 48 #[x.V] (.bool x.right) := by
  intro w
  refine x_gemotref02_Right _ _ _ _ _ _ _ _ _ _ w _ fun w1 L h1 h2 => ?_
  have A := at_start h1 h2
  refine (c_ref_RightProc x.n x.l).call fun w4 h4 => ⟨_, rfl, at_kept A h4, ?_⟩
  have A4 := at_call A (Nat.le_refl _) h4
  have hw : IntKind.i64.wrap x.d = x.d := w_i64 (by have := hx.d; omega) (by have := hx.d; omega)
  rw [hw, head1, not_step', not_step', not_step']
  unfold I.right
  generalize (rightP x.n x.l && decide (1 ≤ x.s) && decide (x.s ≤ 1048576) && decide (x.d ≤ 3)) = b0
  generalize stepIn 0 x.d x.g0 x.i0 = b1
  generalize stepIn 1 x.d x.g1 x.i1 = b2
  generalize stepIn 2 x.d x.g2 x.i2 = b3
  cases b0
  · exact ⟨rfl, A4.bel⟩
  cases b1
  · exact ⟨rfl, A4.bel⟩
  cases b2
  · exact ⟨rfl, A4.bel⟩
  cases b3
  · exact ⟨rfl, A4.bel⟩
  · exact ⟨rfl, A4.bel⟩
def cmp2 (a b : Int) : Int := if a < b then -1 else if a > b then 1 else 0
def orL : List Int → Int
  | [] => 0
  | x :: r => if x ≠ 0 then x else orL r
theorem c_number (a b : Int) : Gives Try.prog 86 #[.int .i64 a, .int .i64 b] (.int .i64 (cmp2 a b)) := by
  intro w
  refine x_gemotref02_number a b w _ ?_
  unfold cmp2
  by_cases h1 : a < b
  · simp only [h1, decide_true, if_true]; exact ⟨trivial, below_refl _ _⟩
  · by_cases h2 : a > b
    · simp only [h1, h2, decide_true, decide_false, if_true, if_false, Bool.false_eq_true]; exact ⟨trivial, below_refl _ _⟩
    · simp only [h1, h2, decide_true, decide_false, if_true, if_false, Bool.false_eq_true]; exact ⟨trivial, below_refl _ _⟩
theorem c_ref_CompareProcs (a0 a1 b0 b1 : Int) (h0 : 0 ≤ a0 ∧ a0 < 256) (h1 : 0 ≤ b0 ∧ b0 < 256) (h2 : 0 ≤ a1 ∧ a1 < 65536) (h3 : 0 ≤ b1 ∧ b1 < 65536) :
    Gives Try.prog 85 #[PV a0 a1, PV b0 b1] (.int .i64 (orL [cmp2 a0 b0, cmp2 a1 b1])) := by
  intro w
  refine x_gemotref02_CompareProcs a0 a1 b0 b1 w _ ?_
  rw [w_i64 (by omega) (by omega), w_i64 (by omega) (by omega), w_i64 (by omega) (by omega), w_i64 (by omega) (by omega)]
  by_cases he : a0 = b0
  · rw [if_neg (by simp [he])]
    intro w1 L g1 g2
    have A := at_start g1 g2
    refine (c_number a1 b1).call fun w4 h4 => ⟨_, rfl, at_kept A h4, ?_, (at_call A (Nat.le_refl _) h4).bel⟩
    subst he
    simp only [orL, cmp2]; split <;> split <;> first | omega | (split <;> simp_all) | simp_all
  · rw [if_pos (by simpa using he)]
    intro w1 L g1 g2
    have A := at_start g1 g2
    refine (c_number a0 b0).call fun w4 h4 => ⟨_, rfl, at_kept A h4, ?_, (at_call A (Nat.le_refl _) h4).bel⟩
    have : cmp2 a0 b0 ≠ 0 := by unfold cmp2; split <;> (try split) <;> omega
    simp only [orL, if_pos this]
def I.k (x : I) : Nat := (if 3 < x.d then 3 else x.d).toNat
def cmpS (s t : Int × Int) : Int := orL [cmp2 s.1 t.1, cmp2 s.2 t.2]
def I.steps (x : I) : List (Int × Int) := [(x.g0, x.i0), (x.g1, x.i1), (x.g2, x.i2)]
def I.cmp (x y : I) : Int := orL [orL [cmp2 x.n y.n, cmp2 x.l y.l], cmp2 x.s y.s, orL (List.zipWith cmpS (x.steps.take (min x.k y.k)) (y.steps.take (min x.k y.k))), cmp2 x.d y.d, orL (List.zipWith cmpS x.steps y.steps)]
theorem cmp2_zero (a b : Int) : cmp2 a b = 0 ↔ a = b := by unfold cmp2; split <;> (try split) <;> omega
theorem cmp2_self (a : Int) : cmp2 a a = 0 := (cmp2_zero a a).2 rfl
theorem leaf1 {w w4 : World} {L : List Nat} (A : At w.heap.size w w4 L) (a b V : Int) (hv : cmp2 a b = V) :
    CallX Try.prog 86 #[.int .i64 a, .int .i64 b] w4 fun e w' => ∃ n : Int, e = .returned (.int .i64 n) ∧ Kept L w4 w' ∧ (Ending.returned (.int .i64 n) = .returned (.int .i64 V) ∧ Bel w.heap.size w w') :=
  (c_number a b).call fun w' h => ⟨_, rfl, at_kept A h, by rw [hv], (at_call A (Nat.le_refl _) h).bel⟩
theorem leaf2 {w w4 : World} {L : List Nat} (A : At w.heap.size w w4 L) (a b V : Int) (hv : cmp2 a b = V) :
    ∃ F : Facts, FactsW F w4 L ∧ ∀ w5 : World, ∀ L5 : List Nat, Hid L w4 w5 → NewL w.heap.size L w4 w5 L5 →
      CallX Try.prog 86 #[.int .i64 a, .int .i64 b] w5 fun e w' => ∃ n : Int, e = .returned (.int .i64 n) ∧ Kept L5 w5 w' ∧ FactsW F w' L5 ∧ (Ending.returned (.int .i64 n) = .returned (.int .i64 V) ∧ Bel w.heap.size w w') :=
  ⟨[], facts_nil _ _, fun w5 L5 h5 hL => by
    have A5 := at_hid A (Nat.le_refl _) h5 hL
    exact (c_number a b).call fun w' h => ⟨_, rfl, at_kept A5 h, facts_nil _ _, by rw [hv], (at_call A5 (Nat.le_refl _) h).bel⟩⟩
theorem leaf3 {w w4 : World} {L : List Nat} (A : At w.heap.size w w4 L) (a b V : Int) (hv : cmp2 a b = V) :
    ∀ w5 : World, ∀ L5 : List Nat, Hid L w4 w5 → NewL w.heap.size L w4 w5 L5 →
      CallX Try.prog 86 #[.int .i64 a, .int .i64 b] w5 fun e w' => ∃ n : Int, e = .returned (.int .i64 n) ∧ Kept L5 w5 w' ∧ (Ending.returned (.int .i64 n) = .returned (.int .i64 V) ∧ Bel w.heap.size w w') := fun w5 L5 h5 hL => by
  have A5 := at_hid A (Nat.le_refl _) h5 hL
  exact (c_number a b).call fun w' h => ⟨_, rfl, at_kept A5 h, by rw [hv], (at_call A5 (Nat.le_refl _) h).bel⟩
theorem leaf4 {w w4 : World} {L : List Nat} (A : At w.heap.size w w4 L) (a V : Int) (hv : a = V) :
    ∀ w5 : World, Hid L w4 w5 → (Ending.returned (.int .i64 a) = .returned (.int .i64 V) ∧ Bel w.heap.size w w5) := fun w5 h5 => ⟨by rw [hv], at_end A (Nat.le_refl _) h5⟩
theorem leaf5 {w w4 : World} {L : List Nat} (A : At w.heap.size w w4 L) (a V : Int) (hv : a = V) :
    Ending.returned (.int .i64 a) = .returned (.int .i64 V) ∧ Bel w.heap.size w w4 := ⟨by rw [hv], A.bel⟩
theorem cmp_steps (x y : I) (hx : x.In) (hy : y.In) : orL (List.zipWith cmpS (x.steps.take (min x.k y.k)) (y.steps.take (min x.k y.k))) =
    if 0 < x.d ∧ 0 < y.d then (if cmpS (x.g0, x.i0) (y.g0, y.i0) ≠ 0 then cmpS (x.g0, x.i0) (y.g0, y.i0) else
      if 1 < x.d ∧ 1 < y.d then (if cmpS (x.g1, x.i1) (y.g1, y.i1) ≠ 0 then cmpS (x.g1, x.i1) (y.g1, y.i1) else
        if 2 < x.d ∧ 2 < y.d then cmpS (x.g2, x.i2) (y.g2, y.i2) else 0) else 0) else 0 := by
  have hd := hx.d
  have he := hy.d
  have hk : min x.k y.k = 0 ∧ ¬ (0 < x.d ∧ 0 < y.d) ∨ min x.k y.k = 1 ∧ (0 < x.d ∧ 0 < y.d) ∧ ¬ (1 < x.d ∧ 1 < y.d) ∨ min x.k y.k = 2 ∧ (0 < x.d ∧ 0 < y.d) ∧ (1 < x.d ∧ 1 < y.d) ∧ ¬ (2 < x.d ∧ 2 < y.d) ∨ min x.k y.k = 3 ∧ (0 < x.d ∧ 0 < y.d) ∧ (1 < x.d ∧ 1 < y.d) ∧ (2 < x.d ∧ 2 < y.d) := by
    unfold I.k; split <;> split <;> omega
  rcases hk with ⟨h, h0⟩ | ⟨h, h0, h1⟩ | ⟨h, h0, h1, h2⟩ | ⟨h, h0, h1, h2⟩
  · rw [h, if_neg h0]; rfl
  · rw [h, if_pos h0, if_neg h1]; rfl
  · rw [h, if_pos h0, if_pos h1, if_neg h2]; rfl
  · rw [h, if_pos h0, if_pos h1, if_pos h2]
    show (if cmpS (x.g0, x.i0) (y.g0, y.i0) ≠ 0 then _ else (if cmpS (x.g1, x.i1) (y.g1, y.i1) ≠ 0 then _ else (if cmpS (x.g2, x.i2) (y.g2, y.i2) ≠ 0 then cmpS (x.g2, x.i2) (y.g2, y.i2) else 0))) = _
    split
    · rfl
    · split
      · rfl
      · split
        · rfl
        · rename_i h; simpa using Eq.symm (by simpa using h)
theorem ite_i {c : Prop} [Decidable c] {p q : Prop} (h1 : c → p) (h2 : ¬ c → q) : if c then p else q := by
  by_cases h : c
  · rw [if_pos h]; exact h1 h
  · rw [if_neg h]; exact h2 h
theorem c_ref_Compare (x y : I) (hx : x.In) (hy : y.In) : Gives Try.prog 69 #[x.V, y.V] (.int .i64 (x.cmp y)) := by
  intro w
  refine x_gemotref02_Compare _ _ _ _ _ _ _ _ _ _ _ _ _ _ _ _ _ _ _ _ w _ fun w1 L h1 h2 => ?_
  have A := at_start h1 h2
  refine (c_ref_CompareProcs x.n x.l y.n y.l hx.n hy.n hx.l hy.l).call fun w4 h4 => ⟨_, rfl, at_kept A h4, ?_⟩
  have A4 := at_call A (Nat.le_refl _) h4
  have hxs := hx.s; have hxd := hx.d; have hx4 := hx.g0; have hx5 := hx.i0; have hx6 := hx.g1; have hx7 := hx.i1; have hx8 := hx.g2; have hx9 := hx.i2
  have hys := hy.s; have hyd := hy.d; have hy4 := hy.g0; have hy5 := hy.i0; have hy6 := hy.g1; have hy7 := hy.i1; have hy8 := hy.g2; have hy9 := hy.i2
  rw [w_i64 (n := x.s) (by omega) (by omega), w_i64 (n := y.s) (by omega) (by omega), w_i64 (n := x.d) (by omega) (by omega), w_i64 (n := y.d) (by omega) (by omega), w_i64 (n := x.g0) (by omega) (by omega), w_i64 (n := y.g0) (by omega) (by omega), w_i64 (n := x.i0) (by omega) (by omega), w_i64 (n := y.i0) (by omega) (by omega), w_i64 (n := x.g1) (by omega) (by omega), w_i64 (n := y.g1) (by omega) (by omega), w_i64 (n := x.i1) (by omega) (by omega), w_i64 (n := y.i1) (by omega) (by omega), w_i64 (n := x.g2) (by omega) (by omega), w_i64 (n := y.g2) (by omega) (by omega), w_i64 (n := x.i2) (by omega) (by omega), w_i64 (n := y.i2) (by omega) (by omega)]
  clear hxs hxd hx4 hx5 hx6 hx7 hx8 hx9 hys hyd hy4 hy5 hy6 hy7 hy8 hy9
  obtain ⟨V, hV⟩ : ∃ V, V = x.cmp y := ⟨_, rfl⟩
  rw [← hV]
  unfold I.cmp at hV
  rw [cmp_steps x y hx hy] at hV
  clear hx hy h1 h2 A h4
  simp only [bne_iff_ne, ne_eq, Bool.true_and, Bool.and_eq_true, decide_eq_true_eq]
  simp only [I.steps, List.zipWith, cmpS] at hV
  generalize orL [cmp2 x.n y.n, cmp2 x.l y.l] = c0 at hV ⊢
  repeat' (refine ite_i (fun _ => ?_) (fun _ => ?_))
  all_goals first
    | refine leaf2 A4 _ _ _ ?_
    | refine leaf1 A4 _ _ _ ?_
    | refine leaf3 A4 _ _ _ ?_
    | refine leaf4 A4 _ _ ?_
    | refine leaf5 A4 _ _ ?_
  all_goals (rw [hV]; clear hV A4)
  all_goals simp_all [orL, cmp2_zero, cmp2_self]
  all_goals (intros; omega)
end Go.Proofs
