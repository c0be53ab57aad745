import Derived.Test.YthlhoikeacgfnaaV02a
import Derived.Test.YthlhoikeacgfnaaXUse
set_option linter.unusedVariables false
namespace Go.Proofs
open Go X RowKit
/-- an identifier -/
structure I where (n l s d g0 i0 g1 i1 g2 i2 : Int)
@[reducible] def I.V (x : I) : Value := .agg #[.int .u8 x.n, .int .u16 x.l, .int .u32 x.s, .int .u8 x.d, .int .u8 x.g0, .int .u8 x.i0, .int .u8 x.g1, .int .u8 x.i1, .int .u8 x.g2, .int .u8 x.i2]
def I.zero : I := ⟨0, 0, 0, 0, 0, 0, 0, 0, 0, 0⟩
structure I.In (x : I) : Prop where
  n : 0 ≤ x.n ∧ x.n < 256
  l : 0 ≤ x.l ∧ x.l < 65536
  s : 0 ≤ x.s ∧ x.s < 4294967296
  d : 0 ≤ x.d ∧ x.d < 256
  g0 : 0 ≤ x.g0 ∧ x.g0 < 256
  i0 : 0 ≤ x.i0 ∧ x.i0 < 256
  g1 : 0 ≤ x.g1 ∧ x.g1 < 256
  i1 : 0 ≤ x.i1 ∧ x.i1 < 256
  g2 : 0 ≤ x.g2 ∧ x.g2 < 256
  i2 : 0 ≤ x.i2 ∧ x.i2 < 256
@[reducible] def PV (n l : Int) : Value := .agg #[.int .u8 n, .int .u16 l]
def rightP (n l : Int) : Bool := decide (n < 16) && decide (l ≥ 1)
def stepIn (j d g i : Int) : Bool := (decide (j < d) && decide (g < 4)) || (decide (j ≥ d) && (decide (g = 0) && decide (i = 0)))
def I.right (x : I) : Bool := rightP x.n x.l && decide (1 ≤ x.s) && decide (x.s ≤ 1048576) && decide (x.d ≤ 3) && stepIn 0 x.d x.g0 x.i0 && stepIn 1 x.d x.g1 x.i1 && stepIn 2 x.d x.g2 x.i2

theorem c_Proc_Right (n l : Int) : Gives Try.prog 20 #[PV n l] (.bool (rightP n l)) := by
  intro w
  refine x_ident_Proc_Right n l w _ fun w1 h1 => ⟨?_, hid_below h1 (by simp) (Nat.le_refl _)⟩
  have : (l > 0) ↔ (l ≥ 1) := by omega
  simp only [rightP, this]
theorem c_ref_RightProc (n l : Int) : Gives Try.prog 21 #[PV n l] (.bool (rightP n l)) := by
  intro w
  exact x_gemotref02_RightProc n l w _ fun w1 h1 => ⟨rfl, hid_below h1 (by simp) (Nat.le_refl _)⟩
theorem not_step {j d g i : Int} : ((decide (j < d) && decide (g ≥ 4)) || ((!decide (j < d)) && (!((g == 0) && (i == 0))))) = !stepIn j d g i := by
  unfold stepIn
  by_cases h : j < d
  · have h' : ¬ j ≥ d := by omega
    simp only [h, h', decide_true, decide_false, Bool.true_and, Bool.not_true, Bool.false_and, Bool.or_false]
    by_cases hg : g < 4
    · have : ¬ g ≥ 4 := by omega
      simp [hg, this]
    · have : g ≥ 4 := by omega
      simp [hg, this]
  · have h' : j ≥ d := by omega
    simp only [h, h', decide_true, decide_false, Bool.false_and, Bool.not_false, Bool.true_and, Bool.false_or]
    by_cases hg : g = 0 <;> by_cases hi : i = 0 <;> simp [hg, hi]
theorem not_step' {j d g i : Int} : ((decide (j < d) && decide (g ≥ 4)) || (decide (j ≥ d) && (!((g == 0) && (i == 0))))) = !stepIn j d g i := by
  rw [← not_step]
  have : decide (j ≥ d) = !decide (j < d) := by
    by_cases h : j < d
    · have h' : ¬ j ≥ d := by omega
      simp [h, h']
    · have h' : j ≥ d := by omega
      simp [h, h']
  rw [this]
theorem head1 (x : I) : ((((!(rightP x.n x.l)) || decide (x.s < 1)) || decide (x.s > 1048576)) || decide (x.d > 3)) = !(rightP x.n x.l && decide (1 ≤ x.s) && decide (x.s ≤ 1048576) && decide (x.d ≤ 3)) := by
  have h1 : decide (x.s < 1) = !decide (1 ≤ x.s) := by rw [← decide_not]; congr 1; exact propext (by omega)
  have h2 : decide (x.s > 1048576) = !decide (x.s ≤ 1048576) := by rw [← decide_not]; congr 1; exact propext (by omega)
  have h3 : decide (x.d > 3) = !decide (x.d ≤ 3) := by rw [← decide_not]; congr 1; exact propext (by omega)
  rw [h1, h2, h3]; simp [Bool.not_and]
theorem c_Right (x : I) (hx : x.In) : Gives Try.prog 17 #[x.V] (.bool x.right) := by
  intro w
  refine x_ident_ID_Right _ _ _ _ _ _ _ _ _ _ w _ fun w1 L h1 h2 => ?_
  have A := at_start h1 h2
  refine (c_Proc_Right x.n x.l).call fun w4 h4 => ⟨_, rfl, at_kept A h4, ?_⟩
  have A4 := at_call A (Nat.le_refl _) h4
  have hw : IntKind.i64.wrap x.d = x.d := w_i64 (by have := hx.d; omega) (by have := hx.d; omega)
  have hs : (x.s == 0) = decide (x.s < 1) := by
    have := hx.s
    rw [show (x.s == 0) = decide (x.s = 0) from rfl]; congr 1; exact propext (by omega)
  rw [hw, hs, head1, not_step, not_step, not_step]
  unfold I.right
  generalize (rightP x.n x.l && decide (1 ≤ x.s) && decide (x.s ≤ 1048576) && decide (x.d ≤ 3)) = b0
  generalize stepIn 0 x.d x.g0 x.i0 = b1
  generalize stepIn 1 x.d x.g1 x.i1 = b2
  generalize stepIn 2 x.d x.g2 x.i2 = b3
  cases b0
  · exact ⟨rfl, A4.bel⟩
  cases b1
  · exact fun w9 h9 => ⟨rfl, at_end A4 (Nat.le_refl _) h9⟩
  cases b2
  · exact fun w9 h9 => ⟨rfl, at_end A4 (Nat.le_refl _) h9⟩
  cases b3
  · exact fun w9 h9 => ⟨rfl, at_end A4 (Nat.le_refl _) h9⟩
  · exact fun w9 h9 => ⟨rfl, at_end A4 (Nat.le_refl _) h9⟩
theorem c_ref_Right (x : I) (hx : x.In) : Gives Try.prog 18 #[x.V] (.bool x.right) := by
  intro w
  refine x_gemotref02_Right _ _ _ _ _ _ _ _ _ _ w _ fun w1 L h1 h2 => ?_
  have A := at_start h1 h2
  refine (c_ref_RightProc x.n x.l).call fun w4 h4 => ⟨_, rfl, at_kept A h4, ?_⟩
  have A4 := at_call A (Nat.le_refl _) h4
  have hw : IntKind.i64.wrap x.d = x.d := w_i64 (by have := hx.d; omega) (by have := hx.d; omega)
  rw [hw, head1, not_step', not_step', not_step']
  unfold I.right
  generalize (rightP x.n x.l && decide (1 ≤ x.s) && decide (x.s ≤ 1048576) && decide (x.d ≤ 3)) = b0
  generalize stepIn 0 x.d x.g0 x.i0 = b1
  generalize stepIn 1 x.d x.g1 x.i1 = b2
  generalize stepIn 2 x.d x.g2 x.i2 = b3
  cases b0
  · exact ⟨rfl, A4.bel⟩
  cases b1
  · exact ⟨rfl, A4.bel⟩
  cases b2
  · exact ⟨rfl, A4.bel⟩
  cases b3
  · exact ⟨rfl, A4.bel⟩
  · exact ⟨rfl, A4.bel⟩

/-- a child, a parent, a root -/
def I.child (x : I) (b c : Int) : I × Int :=
  if (!x.right || decide (b ≥ 4)) = true then (.zero, 1) else if x.d = 3 then (.zero, 18)
  else if x.d = 0 then ({ x with d := 1, g0 := b, i0 := c }, 0) else if x.d = 1 then ({ x with d := 2, g1 := b, i1 := c }, 0) else ({ x with d := 3, g2 := b, i2 := c }, 0)
def I.parent (x : I) : I × Int :=
  if (!x.right) = true then (.zero, 1) else if x.d = 0 then (.zero, 3)
  else if x.d = 1 then ({ x with d := 0, g0 := 0, i0 := 0 }, 0) else if x.d = 2 then ({ x with d := 1, g1 := 0, i1 := 0 }, 0) else ({ x with d := 2, g2 := 0, i2 := 0 }, 0)
def I.root (x : I) : I := ⟨x.n, x.l, x.s, 0, 0, 0, 0, 0, 0, 0⟩
theorem I.right_d {x : I} (h : x.right = true) : x.d ≤ 3 := by
  simp only [I.right, Bool.and_eq_true, decide_eq_true_eq] at h
  omega
theorem c_Child (x : I) (hx : x.In) (b c : Int) : Gives Try.prog 8 #[x.V, .int .u8 b, .int .u8 c] (.tuple #[(x.child b c).1.V, .int .i64 (x.child b c).2]) := by
  intro w
  refine x_ident_Child _ _ _ _ _ _ _ _ _ _ b c w _ fun w1 L h1 h2 => ?_
  have A := at_start h1 h2
  refine (c_Right x hx).call fun w4 h4 => ⟨_, rfl, at_kept A h4, ?_⟩
  have A4 := at_call A (Nat.le_refl _) h4
  have E : ∀ {V : Value} {V'}, V = V' → ∀ w9, X.Hid L w4 w9 → Ending.returned V = .returned V' ∧ Bel w.heap.size w w9 := fun hv w9 h9 => ⟨by rw [hv], at_end A4 (Nat.le_refl _) h9⟩
  unfold I.child
  split
  · exact E rfl
  · rename_i hr
    have hd := I.right_d (x := x) (by simp only [Bool.or_eq_true, not_or] at hr; simpa using hr.1)
    have hd0 := hx.d
    split
    · rename_i h3
      have h3 : x.d = 3 := by simpa using h3
      rw [if_pos h3]
      exact E rfl
    · rename_i h3
      have h3 : ¬ x.d = 3 := by simpa using h3
      rw [if_neg h3]
      refine ⟨by omega, by omega, ⟨fun h0 => ?_, fun h0 => ?_⟩, fun h0 => ?_⟩
      · rw [if_pos h0, h0]; exact E rfl
      · rw [if_neg (by omega), if_pos h0, h0]; exact E rfl
      · rw [if_neg (by omega), if_neg (by omega), h0]; exact E rfl
theorem c_Parent (x : I) (hx : x.In) : Gives Try.prog 11 #[x.V] (.tuple #[x.parent.1.V, .int .i64 x.parent.2]) := by
  intro w
  refine x_ident_Parent _ _ _ _ _ _ _ _ _ _ w _ fun w1 L h1 h2 => ?_
  have A := at_start h1 h2
  refine (c_Right x hx).call fun w4 h4 => ⟨_, rfl, at_kept A h4, ?_⟩
  have A4 := at_call A (Nat.le_refl _) h4
  have E : ∀ {V : Value} {V'}, V = V' → ∀ w9, X.Hid L w4 w9 → Ending.returned V = .returned V' ∧ Bel w.heap.size w w9 := fun hv w9 h9 => ⟨by rw [hv], at_end A4 (Nat.le_refl _) h9⟩
  unfold I.parent
  split
  · exact E rfl
  · rename_i hr
    have hd := I.right_d (x := x) (by simpa using hr)
    have hd0 := hx.d
    split
    · rename_i h3
      have h3 : x.d = 0 := by simpa using h3
      rw [if_pos h3]
      exact E rfl
    · rename_i h3
      have h3 : ¬ x.d = 0 := by simpa using h3
      rw [if_neg h3, w_u8 (by omega) (by omega)]
      refine ⟨by omega, by omega, ⟨fun h0 => ?_, fun h0 => ?_⟩, fun h0 => ?_⟩
      · rw [if_pos (by omega), h0]; exact E rfl
      · rw [if_neg (by omega), if_pos (by omega), h0]; exact E rfl
      · rw [if_neg (by omega), if_neg (by omega), h0]; exact E rfl
theorem c_Root (x : I) : Gives Try.prog 15 #[x.V] x.root.V := fun w =>
  x_ident_Root _ _ _ _ _ _ _ _ _ _ w _ fun w1 h1 => ⟨rfl, hid_below h1 (by simp) (Nat.le_refl _)⟩
theorem c_ref_Root (x : I) : Gives Try.prog 16 #[x.V] x.root.V := fun w =>
  x_gemotref02_Root _ _ _ _ _ _ _ _ _ _ w _ fun w1 h1 => ⟨rfl, hid_below h1 (by simp) (Nat.le_refl _)⟩
end Go.Proofs
