import Derived.Test.YtamnhlkaknjcaaaV09a
import Derived.Test.YtamnhlkaknjcaaaXUse
set_option linter.unusedVariables false
namespace Go.Proofs
open Go X RowKit
/-- an identifier -/
structure I where (n l s d g0 i0 g1 i1 g2 i2 : Int)
@[reducible] def I.V (x : I) : Value := .agg #[.int .u8 x.n, .int .u16 x.l, .int .u32 x.s, .int .u8 x.d, .int .u8 x.g0, .int .u8 x.i0, .int .u8 x.g1, .int .u8 x.i1, .int .u8 x.g2, .int .u8 x.i2]
def I.zero : I := ⟨0, 0, 0, 0, 0, 0, 0, 0, 0, 0⟩
structure I.In (x : I) : Prop where
  n : 0 ≤ x.n ∧ x.n < 256
  l : 0 ≤ x.l ∧ x.l < 65536
  s : 0 ≤ x.s ∧ x.s < 4294967296
  d : 0 ≤ x.d ∧ x.d < 256
  g0 : 0 ≤ x.g0 ∧ x.g0 < 256
  i0 : 0 ≤ x.i0 ∧ x.i0 < 256
  g1 : 0 ≤ x.g1 ∧ x.g1 < 256
  i1 : 0 ≤ x.i1 ∧ x.i1 < 256
  g2 : 0 ≤ x.g2 ∧ x.g2 < 256
  i2 : 0 ≤ x.i2 ∧ x.i2 < 256
@[reducible] def PV (n l : Int) : Value := .agg #[.int .u8 n, .int .u16 l]
def rightP (n l : Int) : Bool := decide (n < 16) && decide (l ≥ 1)
def stepIn (j d g i : Int) : Bool := (decide (j < d) && decide (g < 4)) || (decide (j ≥ d) && (decide (g = 0) && decide (i = 0)))
def I.right (x : I) : Bool := rightP x.n x.l && decide (1 ≤ x.s) && decide (x.s ≤ 1048576) && decide (x.d ≤ 3) && stepIn 0 x.d x.g0 x.i0 && stepIn 1 x.d x.g1 x.i1 && stepIn 2 x.d x.g2 x.i2

theorem not_step {j d g i : Int} : ((decide (j < d) && decide (g ≥ 4)) || ((!decide (j < d)) && (!((g == 0) && (i == 0))))) = !stepIn j d g i := by
  unfold stepIn
  by_cases h : j < d
  · have h' : ¬ j ≥ d := by omega
    simp only [h, h', decide_true, decide_false, Bool.true_and, Bool.not_true, Bool.false_and, Bool.or_false]
    by_cases hg : g < 4
    · have : ¬ g ≥ 4 := by omega
      simp [hg, this]
    · have : g ≥ 4 := by omega
      simp [hg, this]
  · have h' : j ≥ d := by omega
    simp only [h, h', decide_true, decide_false, Bool.false_and, Bool.not_false, Bool.true_and, Bool.false_or]
    by_cases hg : g = 0 <;> by_cases hi : i = 0 <;> simp [hg, hi]
theorem not_step' {j d g i : Int} : ((decide (j < d) && decide (g ≥ 4)) || (decide (j ≥ d) && (!((g == 0) && (i == 0))))) = !stepIn j d g i := by
  rw [← not_step]
  have : decide (j ≥ d) = !decide (j < d) := by
    by_cases h : j < d
    · have h' : ¬ j ≥ d := by omega
      simp [h, h']
    · have h' : j ≥ d := by omega
      simp [h, h']
  rw [this]
theorem head1 (x : I) : ((((!(rightP x.n x.l)) || decide (x.s < 1)) || decide (x.s > 1048576)) || decide (x.d > 3)) = !(rightP x.n x.l && decide (1 ≤ x.s) && decide (x.s ≤ 1048576) && decide (x.d ≤ 3)) := by
  have h1 : decide (x.s < 1) = !decide (1 ≤ x.s) := by rw [← decide_not]; congr 1; exact propext (by omega)
  have h2 : decide (x.s > 1048576) = !decide (x.s ≤ 1048576) := by rw [← decide_not]; congr 1; exact propext (by omega)
  have h3 : decide (x.d > 3) = !decide (x.d ≤ 3) := by rw [← decide_not]; congr 1; exact propext (by omega)
  rw [h1, h2, h3]; simp [Bool.not_and]
/-- a child, a parent, a root -/
def I.child (x : I) (b c : Int) : I × Int :=
  if (!x.right || decide (b ≥ 4)) = true then (.zero, 1) else if x.d = 3 then (.zero, 18)
  else if x.d = 0 then ({ x with d := 1, g0 := b, i0 := c }, 0) else if x.d = 1 then ({ x with d := 2, g1 := b, i1 := c }, 0) else ({ x with d := 3, g2 := b, i2 := c }, 0)
def I.parent (x : I) : I × Int :=
  if (!x.right) = true then (.zero, 1) else if x.d = 0 then (.zero, 3)
  else if x.d = 1 then ({ x with d := 0, g0 := 0, i0 := 0 }, 0) else if x.d = 2 then ({ x with d := 1, g1 := 0, i1 := 0 }, 0) else ({ x with d := 2, g2 := 0, i2 := 0 }, 0)
def I.root (x : I) : I := ⟨x.n, x.l, x.s, 0, 0, 0, 0, 0, 0, 0⟩
theorem I.right_d {x : I} (h : x.right = true) : x.d ≤ 3 := by
  simp only [I.right, Bool.and_eq_true, decide_eq_true_eq] at h
  omega
end Go.Proofs
