import Derived.Test.YtpijekgiblcfhaaV14m1
import Derived.Test.YtpijekgiblcfhaaXIter
set_option linter.unusedVariables false
set_option linter.unusedSimpArgs false
set_option maxRecDepth 10000
namespace Go.Proofs
open Go X RowKit
/-- an identifier -/
structure I where (n l s d g0 i0 g1 i1 g2 i2 : Int)
@[reducible] def I.V (x : I) : Value := .agg #[.int .u8 x.n, .int .u16 x.l, .int .u32 x.s, .int .u8 x.d, .int .u8 x.g0, .int .u8 x.i0, .int .u8 x.g1, .int .u8 x.i1, .int .u8 x.g2, .int .u8 x.i2]
def I.zero : I := ⟨0, 0, 0, 0, 0, 0, 0, 0, 0, 0⟩
structure I.In (x : I) : Prop where
  n : 0 ≤ x.n ∧ x.n < 256
  l : 0 ≤ x.l ∧ x.l < 65536
  s : 0 ≤ x.s ∧ x.s < 4294967296
  d : 0 ≤ x.d ∧ x.d < 256
  g0 : 0 ≤ x.g0 ∧ x.g0 < 256
  i0 : 0 ≤ x.i0 ∧ x.i0 < 256
  g1 : 0 ≤ x.g1 ∧ x.g1 < 256
  i1 : 0 ≤ x.i1 ∧ x.i1 < 256
  g2 : 0 ≤ x.g2 ∧ x.g2 < 256
  i2 : 0 ≤ x.i2 ∧ x.i2 < 256
@[reducible] def PV (n l : Int) : Value := .agg #[.int .u8 n, .int .u16 l]
def rightP (n l : Int) : Bool := decide (n < 16) && decide (l ≥ 1)
def stepIn (j d g i : Int) : Bool := (decide (j < d) && decide (g < 4)) || (decide (j ≥ d) && (decide (g = 0) && decide (i = 0)))
def I.right (x : I) : Bool := rightP x.n x.l && decide (1 ≤ x.s) && decide (x.s ≤ 1048576) && decide (x.d ≤ 3) && stepIn 0 x.d x.g0 x.i0 && stepIn 1 x.d x.g1 x.i1 && stepIn 2 x.d x.g2 x.i2

theorem c_Proc_Right (n l : Int) : Gives Try.prog 52 #[PV n l] (.bool (rightP n l)) := by
  intro w
  refine x_ident_Proc_Right n l w _ fun w1 h1 => ⟨?_, hid_below h1 (by simp) (Nat.le_refl _)⟩
  have : (l > 0) ↔ (l ≥ 1) := by omega
  simp only [rightP, this]
theorem not_step {j d g i : Int} : ((decide (j < d) && decide (g ≥ 4)) || ((!decide (j < d)) && (!((g == 0) && (i == 0))))) = !stepIn j d g i := by
  unfold stepIn
  by_cases h : j < d
  · have h' : ¬ j ≥ d := by omega
    simp only [h, h', decide_true, decide_false, Bool.true_and, Bool.not_true, Bool.false_and, Bool.or_false]
    by_cases hg : g < 4
    · have : ¬ g ≥ 4 := by omega
      simp [hg, this]
    · have : g ≥ 4 := by omega
      simp [hg, this]
  · have h' : j ≥ d := by omega
    simp only [h, h', decide_true, decide_false, Bool.false_and, Bool.not_false, Bool.true_and, Bool.false_or]
    by_cases hg : g = 0 <;> by_cases hi : i = 0 <;> simp [hg, hi]
theorem not_step' {j d g i : Int} : ((decide (j < d) && decide (g ≥ 4)) || (decide (j ≥ d) && (!((g == 0) && (i == 0))))) = !stepIn j d g i := by
  rw [← not_step]
  have : decide (j ≥ d) = !decide (j < d) := by
    by_cases h : j < d
    · have h' : ¬ j ≥ d := by omega
      simp [h, h']
    · have h' : j ≥ d := by omega
      simp [h, h']
  rw [this]
theorem head1 (x : I) : ((((!(rightP x.n x.l)) || decide (x.s < 1)) || decide (x.s > 1048576)) || decide (x.d > 3)) = !(rightP x.n x.l && decide (1 ≤ x.s) && decide (x.s ≤ 1048576) && decide (x.d ≤ 3)) := by
  have h1 : decide (x.s < 1) = !decide (1 ≤ x.s) := by rw [← decide_not]; congr 1; exact propext (by omega)
  have h2 : decide (x.s > 1048576) = !decide (x.s ≤ 1048576) := by rw [← decide_not]; congr 1; exact propext (by omega)
  have h3 : decide (x.d > 3) = !decide (x.d ≤ 3) := by rw [← decide_not]; congr 1; exact propext (by omega)
  rw [h1, h2, h3]; simp [Bool.not_and]
theorem c_Right (x : I) (hx : x.In) : Gives Try.prog 47 #[x.V] (.bool x.right) := by
  intro w
  refine x_ident_ID_Right _ _ _ _ _ _ _ _ _ _ w _ fun w1 L h1 h2 => ?_
  have A := at_start h1 h2
  refine (c_Proc_Right x.n x.l).call fun w4 h4 => ⟨_, rfl, at_kept A h4, ?_⟩
  have A4 := at_call A (Nat.le_refl _) h4
  have hw : IntKind.i64.wrap x.d = x.d := w_i64 (by have := hx.d; omega) (by have := hx.d; omega)
  have hs : (x.s == 0) = decide (x.s < 1) := by
    have := hx.s
    rw [show (x.s == 0) = decide (x.s = 0) from rfl]; congr 1; exact propext (by omega)
  rw [hw, hs, head1, not_step, not_step, not_step]
  unfold I.right
  generalize (rightP x.n x.l && decide (1 ≤ x.s) && decide (x.s ≤ 1048576) && decide (x.d ≤ 3)) = b0
  generalize stepIn 0 x.d x.g0 x.i0 = b1
  generalize stepIn 1 x.d x.g1 x.i1 = b2
  generalize stepIn 2 x.d x.g2 x.i2 = b3
  cases b0
  · exact ⟨rfl, A4.bel⟩
  cases b1
  · exact fun w9 h9 => ⟨rfl, at_end A4 (Nat.le_refl _) h9⟩
  cases b2
  · exact fun w9 h9 => ⟨rfl, at_end A4 (Nat.le_refl _) h9⟩
  cases b3
  · exact fun w9 h9 => ⟨rfl, at_end A4 (Nat.le_refl _) h9⟩
  · exact fun w9 h9 => ⟨rfl, at_end A4 (Nat.le_refl _) h9⟩
theorem c_num (n : Int) : Gives Try.prog 20 #[.int .i64 n] (.int .i64 n) := fun w => x_gemotlaw14_num n w _ ⟨rfl, below_refl _ _⟩
theorem c_Proc (n l : Int) : Gives Try.prog 41 #[PV n l] (PV n l) := fun w => x_gemotlaw02_Proc n l w _ fun w1 h1 => ⟨rfl, hid_below h1 (by simp) (Nat.le_refl _)⟩
theorem c_ID (x : I) : Gives Try.prog 17 #[x.V] x.V := by
  intro w
  refine x_gemotlaw02_ID _ _ _ _ _ _ _ _ _ _ w _ ⟨[], facts_nil _ _, ?_, ?_⟩
  all_goals
    intro w2 L h1 h2
    have A := at_start h1 h2
    refine (c_Proc x.n x.l).call fun w5 h5 => ⟨_, _, rfl, at_kept A h5, facts_nil _ _, [], facts_nil _ _, [], facts_nil _ _, [], facts_nil _ _, fun w11 h11 => ⟨rfl, ?_⟩⟩
    exact at_end (at_call A (Nat.le_refl _) h5) (Nat.le_refl _) h11

theorem c_Res (c : Int) (s : ByteArray) : Gives Try.prog 24 #[.agg #[.int .u8 c, .string s]] (.agg #[.int .u8 c, .string s]) := fun w => x_gemotlaw03_Res c s w _ fun w1 h1 => ⟨rfl, hid_below h1 (by simp) (Nat.le_refl _)⟩
/-! ### a table -/
instance : DecidableEq I := fun a b => decidable_of_iff (a.n = b.n ∧ a.l = b.l ∧ a.s = b.s ∧ a.d = b.d ∧ a.g0 = b.g0 ∧ a.i0 = b.i0 ∧ a.g1 = b.g1 ∧ a.i1 = b.i1 ∧ a.g2 = b.g2 ∧ a.i2 = b.i2) (by cases a; cases b; simp)
theorem I.ext' {a b : I} (h : a.n = b.n ∧ a.l = b.l ∧ a.s = b.s ∧ a.d = b.d ∧ a.g0 = b.g0 ∧ a.i0 = b.i0 ∧ a.g1 = b.g1 ∧ a.i1 = b.i1 ∧ a.g2 = b.g2 ∧ a.i2 = b.i2) : a = b := by cases a; cases b; simp_all
theorem key54 : KeyT Try.prog 54 I.V := by
  refine keyAgg Try.underlying54 (fun x => ⟨_, rfl⟩) (fun x => by kernel_rfl) (fun x y => ⟨((x.n == y.n) && (x.l == y.l)) && ((x.s == y.s) && ((x.d == y.d) && (((x.g0 == y.g0) && (x.i0 == y.i0)) && (((x.g1 == y.g1) && (x.i1 == y.i1)) && ((x.g2 == y.g2) && (x.i2 == y.i2)))))), by kernel_rfl, ?_⟩) (fun x => by simp [Instr.sameBits])
  simp only [Bool.and_eq_true, beq_iff_eq]
  constructor
  · rintro ⟨⟨h1, h2⟩, h3, h4, ⟨h5, h6⟩, ⟨h7, h8⟩, h9, h10⟩
    exact I.ext' ⟨h1, h2, h3, h4, h5, h6, h7, h8, h9, h10⟩
  · rintro rfl; exact ⟨⟨rfl, rfl⟩, rfl, rfl, ⟨rfl, rfl⟩, ⟨rfl, rfl⟩, rfl, rfl⟩
abbrev pkV (p : Int × Int) : Value := PV p.1 p.2
theorem key50 : KeyT Try.prog 50 pkV := by
  refine keyAgg Try.underlying50 (fun x => ⟨_, rfl⟩) (fun x => by kernel_rfl) (fun x y => ⟨(x.1 == y.1) && (x.2 == y.2), by kernel_rfl, ?_⟩) (fun x => by simp [Instr.sameBits])
  simp only [Bool.and_eq_true, beq_iff_eq]
  exact ⟨fun h => Prod.ext h.1 h.2, fun h => by rw [h]; exact ⟨rfl, rfl⟩⟩
end Go.Proofs
