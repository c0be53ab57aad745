import Derived.Test.YtdlfcgkjjlkmgaaV15m1
import Derived.Test.YtdlfcgkjjlkmgaaXUse
import Derived.Test.YtdlfcgkjjlkmgaaXSep
import Derived.Lib.LazyBuf
import Derived.Laws.IdiomCopy
set_option linter.unusedVariables false
set_option maxRecDepth 10000
set_option linter.unusedSimpArgs false
namespace Go.Proofs
open Go X RowKit
/-- an identifier -/
structure I where (n l s d g0 i0 g1 i1 g2 i2 : Int)
@[reducible] def I.V (x : I) : Value := .agg #[.int .u8 x.n, .int .u16 x.l, .int .u32 x.s, .int .u8 x.d, .int .u8 x.g0, .int .u8 x.i0, .int .u8 x.g1, .int .u8 x.i1, .int .u8 x.g2, .int .u8 x.i2]
def I.zero : I := ⟨0, 0, 0, 0, 0, 0, 0, 0, 0, 0⟩
structure I.In (x : I) : Prop where
  n : 0 ≤ x.n ∧ x.n < 256
  l : 0 ≤ x.l ∧ x.l < 65536
  s : 0 ≤ x.s ∧ x.s < 4294967296
  d : 0 ≤ x.d ∧ x.d < 256
  g0 : 0 ≤ x.g0 ∧ x.g0 < 256
  i0 : 0 ≤ x.i0 ∧ x.i0 < 256
  g1 : 0 ≤ x.g1 ∧ x.g1 < 256
  i1 : 0 ≤ x.i1 ∧ x.i1 < 256
  g2 : 0 ≤ x.g2 ∧ x.g2 < 256
  i2 : 0 ≤ x.i2 ∧ x.i2 < 256
@[reducible] def PV (n l : Int) : Value := .agg #[.int .u8 n, .int .u16 l]
def rightP (n l : Int) : Bool := decide (n < 16) && decide (l ≥ 1)
def stepIn (j d g i : Int) : Bool := (decide (j < d) && decide (g < 4)) || (decide (j ≥ d) && (decide (g = 0) && decide (i = 0)))
def I.right (x : I) : Bool := rightP x.n x.l && decide (1 ≤ x.s) && decide (x.s ≤ 1048576) && decide (x.d ≤ 3) && stepIn 0 x.d x.g0 x.i0 && stepIn 1 x.d x.g1 x.i1 && stepIn 2 x.d x.g2 x.i2

theorem c_Proc_Right (n l : Int) : Gives Try.prog 62 #[PV n l] (.bool (rightP n l)) := by
  intro w
  refine x_ident_Proc_Right n l w _ fun w1 h1 => ⟨?_, hid_below h1 (by simp) (Nat.le_refl _)⟩
  have : (l > 0) ↔ (l ≥ 1) := by omega
  simp only [rightP, this]
theorem c_ref_RightProc (n l : Int) : Gives Try.prog 54 #[PV n l] (.bool (rightP n l)) := by
  intro w
  exact x_gemotref02_RightProc n l w _ fun w1 h1 => ⟨rfl, hid_below h1 (by simp) (Nat.le_refl _)⟩
theorem not_step {j d g i : Int} : ((decide (j < d) && decide (g ≥ 4)) || ((!decide (j < d)) && (!((g == 0) && (i == 0))))) = !stepIn j d g i := by
  unfold stepIn
  by_cases h : j < d
  · have h' : ¬ j ≥ d := by omega
    simp only [h, h', decide_true, decide_false, Bool.true_and, Bool.not_true, Bool.false_and, Bool.or_false]
    by_cases hg : g < 4
    · have : ¬ g ≥ 4 := by omega
      simp [hg, this]
    · have : g ≥ 4 := by omega
      simp [hg, this]
  · have h' : j ≥ d := by omega
    simp only [h, h', decide_true, decide_false, Bool.false_and, Bool.not_false, Bool.true_and, Bool.false_or]
    by_cases hg : g = 0 <;> by_cases hi : i = 0 <;> simp [hg, hi]
theorem not_step' {j d g i : Int} : ((decide (j < d) && decide (g ≥ 4)) || (decide (j ≥ d) && (!((g == 0) && (i == 0))))) = !stepIn j d g i := by
  rw [← not_step]
  have : decide (j ≥ d) = !decide (j < d) := by
    by_cases h : j < d
    · have h' : ¬ j ≥ d := by omega
      simp [h, h']
    · have h' : j ≥ d := by omega
      simp [h, h']
  rw [this]
theorem head1 (x : I) : ((((!(rightP x.n x.l)) || decide (x.s < 1)) || decide (x.s > 1048576)) || decide (x.d > 3)) = !(rightP x.n x.l && decide (1 ≤ x.s) && decide (x.s ≤ 1048576) && decide (x.d ≤ 3)) := by
  have h1 : decide (x.s < 1) = !decide (1 ≤ x.s) := by rw [← decide_not]; congr 1; exact propext (by omega)
  have h2 : decide (x.s > 1048576) = !decide (x.s ≤ 1048576) := by rw [← decide_not]; congr 1; exact propext (by omega)
  have h3 : decide (x.d > 3) = !decide (x.d ≤ 3) := by rw [← decide_not]; congr 1; exact propext (by omega)
  rw [h1, h2, h3]; simp [Bool.not_and]
theorem c_Right (x : I) (hx : x.In) : Gives Try.prog 50 #[x.V] (.bool x.right) := by
  intro w
  refine x_ident_ID_Right _ _ _ _ _ _ _ _ _ _ w _ fun w1 L h1 h2 => ?_
  have A := at_start h1 h2
  refine (c_Proc_Right x.n x.l).call fun w4 h4 => ⟨_, rfl, at_kept A h4, ?_⟩
  have A4 := at_call A (Nat.le_refl _) h4
  have hw : IntKind.i64.wrap x.d = x.d := w_i64 (by have := hx.d; omega) (by have := hx.d; omega)
  have hs : (x.s == 0) = decide (x.s < 1) := by
    have := hx.s
    rw [show (x.s == 0) = decide (x.s = 0) from rfl]; congr 1; exact propext (by omega)
  rw [hw, hs, head1, not_step, not_step, not_step]
  unfold I.right
  generalize (rightP x.n x.l && decide (1 ≤ x.s) && decide (x.s ≤ 1048576) && decide (x.d ≤ 3)) = b0
  generalize stepIn 0 x.d x.g0 x.i0 = b1
  generalize stepIn 1 x.d x.g1 x.i1 = b2
  generalize stepIn 2 x.d x.g2 x.i2 = b3
  cases b0
  · exact ⟨rfl, A4.bel⟩
  cases b1
  · exact fun w9 h9 => ⟨rfl, at_end A4 (Nat.le_refl _) h9⟩
  cases b2
  · exact fun w9 h9 => ⟨rfl, at_end A4 (Nat.le_refl _) h9⟩
  cases b3
  · exact fun w9 h9 => ⟨rfl, at_end A4 (Nat.le_refl _) h9⟩
  · exact fun w9 h9 => ⟨rfl, at_end A4 (Nat.le_refl _) h9⟩
theorem c_ref_Right (x : I) (hx : x.In) : Gives Try.prog 32 #[x.V] (.bool x.right) := by
  intro w
  refine x_gemotref02_Right _ _ _ _ _ _ _ _ _ _ w _ fun w1 L h1 h2 => ?_
  have A := at_start h1 h2
  refine (c_ref_RightProc x.n x.l).call fun w4 h4 => ⟨_, rfl, at_kept A h4, ?_⟩
  have A4 := at_call A (Nat.le_refl _) h4
  have hw : IntKind.i64.wrap x.d = x.d := w_i64 (by have := hx.d; omega) (by have := hx.d; omega)
  rw [hw, head1, not_step', not_step', not_step']
  unfold I.right
  generalize (rightP x.n x.l && decide (1 ≤ x.s) && decide (x.s ≤ 1048576) && decide (x.d ≤ 3)) = b0
  generalize stepIn 0 x.d x.g0 x.i0 = b1
  generalize stepIn 1 x.d x.g1 x.i1 = b2
  generalize stepIn 2 x.d x.g2 x.i2 = b3
  cases b0
  · exact ⟨rfl, A4.bel⟩
  cases b1
  · exact ⟨rfl, A4.bel⟩
  cases b2
  · exact ⟨rfl, A4.bel⟩
  cases b3
  · exact ⟨rfl, A4.bel⟩
  · exact ⟨rfl, A4.bel⟩

/-- a child, a parent, a root -/
def I.child (x : I) (b c : Int) : I × Int :=
  if (!x.right || decide (b ≥ 4)) = true then (.zero, 1) else if x.d = 3 then (.zero, 18)
  else if x.d = 0 then ({ x with d := 1, g0 := b, i0 := c }, 0) else if x.d = 1 then ({ x with d := 2, g1 := b, i1 := c }, 0) else ({ x with d := 3, g2 := b, i2 := c }, 0)
def I.parent (x : I) : I × Int :=
  if (!x.right) = true then (.zero, 1) else if x.d = 0 then (.zero, 3)
  else if x.d = 1 then ({ x with d := 0, g0 := 0, i0 := 0 }, 0) else if x.d = 2 then ({ x with d := 1, g1 := 0, i1 := 0 }, 0) else ({ x with d := 2, g2 := 0, i2 := 0 }, 0)
def I.root (x : I) : I := ⟨x.n, x.l, x.s, 0, 0, 0, 0, 0, 0, 0⟩
theorem I.right_d {x : I} (h : x.right = true) : x.d ≤ 3 := by
  simp only [I.right, Bool.and_eq_true, decide_eq_true_eq] at h
  omega
theorem c_Child (x : I) (hx : x.In) (b c : Int) : Gives Try.prog 30 #[x.V, .int .u8 b, .int .u8 c] (.tuple #[(x.child b c).1.V, .int .i64 (x.child b c).2]) := by
  intro w
  refine x_ident_Child _ _ _ _ _ _ _ _ _ _ b c w _ fun w1 L h1 h2 => ?_
  have A := at_start h1 h2
  refine (c_Right x hx).call fun w4 h4 => ⟨_, rfl, at_kept A h4, ?_⟩
  have A4 := at_call A (Nat.le_refl _) h4
  have E : ∀ {V : Value} {V'}, V = V' → ∀ w9, X.Hid L w4 w9 → Ending.returned V = .returned V' ∧ Bel w.heap.size w w9 := fun hv w9 h9 => ⟨by rw [hv], at_end A4 (Nat.le_refl _) h9⟩
  unfold I.child
  split
  · exact E rfl
  · rename_i hr
    have hd := I.right_d (x := x) (by simp only [Bool.or_eq_true, not_or] at hr; simpa using hr.1)
    have hd0 := hx.d
    split
    · rename_i h3
      have h3 : x.d = 3 := by simpa using h3
      rw [if_pos h3]
      exact E rfl
    · rename_i h3
      have h3 : ¬ x.d = 3 := by simpa using h3
      rw [if_neg h3]
      refine ⟨by omega, by omega, ⟨fun h0 => ?_, fun h0 => ?_⟩, fun h0 => ?_⟩
      · rw [if_pos h0, h0]; exact E rfl
      · rw [if_neg (by omega), if_pos h0, h0]; exact E rfl
      · rw [if_neg (by omega), if_neg (by omega), h0]; exact E rfl
end Go.Proofs
namespace Go.Proofs
open Go X RowKit
theorem c_Proc (n l : Int) : Gives Try.prog 46 #[PV n l] (PV n l) := fun w => x_gemotlaw02_Proc n l w _ fun w1 h1 => ⟨rfl, hid_below h1 (by simp) (Nat.le_refl _)⟩
theorem c_RefProc (n l : Int) : Gives Try.prog 44 #[PV n l] (PV n l) := fun w => x_gemotlaw02_RefProc n l w _ fun w1 h1 => ⟨rfl, hid_below h1 (by simp) (Nat.le_refl _)⟩

theorem c_ID (x : I) : Gives Try.prog 17 #[x.V] x.V := by
  intro w
  refine x_gemotlaw02_ID _ _ _ _ _ _ _ _ _ _ w _ ⟨[], facts_nil _ _, ?_, ?_⟩
  all_goals
    intro w2 L h1 h2
    have A := at_start h1 h2
    refine (c_Proc x.n x.l).call fun w5 h5 => ⟨_, _, rfl, at_kept A h5, facts_nil _ _, [], facts_nil _ _, [], facts_nil _ _, [], facts_nil _ _, fun w11 h11 => ⟨rfl, ?_⟩⟩
    exact at_end (at_call A (Nat.le_refl _) h5) (Nat.le_refl _) h11

theorem c_RefID (x : I) : Gives Try.prog 13 #[x.V] x.V := by
  intro w
  refine x_gemotlaw02_RefID _ _ _ _ _ _ _ _ _ _ w _ ⟨[], facts_nil _ _, ?_, ?_⟩
  all_goals
    intro w2 L h1 h2
    have A := at_start h1 h2
    refine (c_RefProc x.n x.l).call fun w5 h5 => ⟨_, _, rfl, at_kept A h5, facts_nil _ _, [], facts_nil _ _, [], facts_nil _ _, [], facts_nil _ _, fun w11 h11 => ⟨rfl, ?_⟩⟩
    exact at_end (at_call A (Nat.le_refl _) h5) (Nat.le_refl _) h11

theorem c_ref_Child (x : I) (hx : x.In) (b c : Int) : Gives Try.prog 45 #[x.V, .int .u8 b, .int .u8 c] (.tuple #[(x.child b c).1.V, .int .i64 (x.child b c).2]) := by
  intro w
  refine x_gemotref02_Child _ _ _ _ _ _ _ _ _ _ b c w _ fun w1 L h1 h2 => ?_
  have A := at_start h1 h2
  refine (c_ref_Right x hx).call fun w4 h4 => ⟨_, rfl, at_kept A h4, ?_⟩
  have A4 := at_call A (Nat.le_refl _) h4
  have E : ∀ {V : Value} {V'}, V = V' → ∀ w9, X.Hid L w4 w9 → Ending.returned V = .returned V' ∧ Bel w.heap.size w w9 := fun hv w9 h9 => ⟨by rw [hv], at_end A4 (Nat.le_refl _) h9⟩
  unfold I.child
  split
  · exact E rfl
  · rename_i hr
    have hd := I.right_d (x := x) (by simp only [Bool.or_eq_true, not_or] at hr; simpa using hr.1)
    have hd0 := hx.d
    split
    · rename_i h3
      have h3 : x.d = 3 := by simpa using h3
      rw [if_pos h3]
      exact E rfl
    · rename_i h3
      have h3 : ¬ x.d = 3 := by simpa using h3
      rw [if_neg h3]
      refine ⟨by omega, by omega, ⟨fun h0 => ?_, fun h0 => ?_⟩, fun h0 => ?_⟩
      · rw [if_pos h0, h0]; exact E rfl
      · rw [if_neg (by omega), if_pos h0, h0]; exact E rfl
      · rw [if_neg (by omega), if_neg (by omega), h0]; exact E rfl
end Go.Proofs
namespace Go.Proofs
open Go X RowKit
def cmp2 (a b : Int) : Int := if a < b then -1 else if a > b then 1 else 0
def orL : List Int → Int
  | [] => 0
  | x :: r => if x ≠ 0 then x else orL r
theorem c_number (a b : Int) : Gives Try.prog 56 #[.int .i64 a, .int .i64 b] (.int .i64 (cmp2 a b)) := by
  intro w
  refine x_gemotref02_number a b w _ ?_
  unfold cmp2
  by_cases h1 : a < b
  · simp only [h1, decide_true, if_true]; exact ⟨trivial, below_refl _ _⟩
  · by_cases h2 : a > b
    · simp only [h1, h2, decide_true, decide_false, if_true, if_false, Bool.false_eq_true]; exact ⟨trivial, below_refl _ _⟩
    · simp only [h1, h2, decide_true, decide_false, if_true, if_false, Bool.false_eq_true]; exact ⟨trivial, below_refl _ _⟩
theorem ne_self (a : Int) : (a != a) = false := by simp
theorem c_nan8 (a : Int) : Gives Try.prog 82 #[.int .u8 a] (.bool false) := fun w => x_cmp_isNaN_uint8 a w _ ⟨by rw [ne_self], below_refl _ _⟩
theorem c_nan16 (a : Int) : Gives Try.prog 93 #[.int .u16 a] (.bool false) := fun w => x_cmp_isNaN_uint16 a w _ ⟨by rw [ne_self], below_refl _ _⟩
theorem c_nan32 (a : Int) : Gives Try.prog 81 #[.int .u32 a] (.bool false) := fun w => x_cmp_isNaN_uint32 a w _ ⟨by rw [ne_self], below_refl _ _⟩
theorem c_cmp8 (a b : Int) : Gives Try.prog 75 #[.int .u8 a, .int .u8 b] (.int .i64 (cmp2 a b)) := by
  intro w
  refine x_cmp_Compare_uint8 a b w _ ?_
  refine (c_nan8 a).call fun w2 h2 => ⟨_, rfl, h2.size, ?_⟩
  refine (c_nan8 b).call fun w5 h5 => ⟨_, rfl, h5.size, ?_⟩
  have hb := below_trans h2 (below_mono h5 h2.size)
  unfold cmp2
  by_cases h1 : a < b
  · simp only [h1, decide_true, if_true, Bool.false_eq_true, if_false]; exact ⟨trivial, hb⟩
  · by_cases h3 : a > b
    · simp only [h1, h3, decide_true, decide_false, if_true, if_false, Bool.false_eq_true]; exact ⟨trivial, hb⟩
    · simp only [h1, h3, decide_true, decide_false, if_true, if_false, Bool.false_eq_true]; exact ⟨trivial, hb⟩
theorem c_cmp16 (a b : Int) : Gives Try.prog 80 #[.int .u16 a, .int .u16 b] (.int .i64 (cmp2 a b)) := by
  intro w
  refine x_cmp_Compare_uint16 a b w _ ?_
  refine (c_nan16 a).call fun w2 h2 => ⟨_, rfl, h2.size, ?_⟩
  refine (c_nan16 b).call fun w5 h5 => ⟨_, rfl, h5.size, ?_⟩
  have hb := below_trans h2 (below_mono h5 h2.size)
  unfold cmp2
  by_cases h1 : a < b
  · simp only [h1, decide_true, if_true, Bool.false_eq_true, if_false]; exact ⟨trivial, hb⟩
  · by_cases h3 : a > b
    · simp only [h1, h3, decide_true, decide_false, if_true, if_false, Bool.false_eq_true]; exact ⟨trivial, hb⟩
    · simp only [h1, h3, decide_true, decide_false, if_true, if_false, Bool.false_eq_true]; exact ⟨trivial, hb⟩
theorem c_cmp32 (a b : Int) : Gives Try.prog 72 #[.int .u32 a, .int .u32 b] (.int .i64 (cmp2 a b)) := by
  intro w
  refine x_cmp_Compare_uint32 a b w _ ?_
  refine (c_nan32 a).call fun w2 h2 => ⟨_, rfl, h2.size, ?_⟩
  refine (c_nan32 b).call fun w5 h5 => ⟨_, rfl, h5.size, ?_⟩
  have hb := below_trans h2 (below_mono h5 h2.size)
  unfold cmp2
  by_cases h1 : a < b
  · simp only [h1, decide_true, if_true, Bool.false_eq_true, if_false]; exact ⟨trivial, hb⟩
  · by_cases h3 : a > b
    · simp only [h1, h3, decide_true, decide_false, if_true, if_false, Bool.false_eq_true]; exact ⟨trivial, hb⟩
    · simp only [h1, h3, decide_true, decide_false, if_true, if_false, Bool.false_eq_true]; exact ⟨trivial, hb⟩
theorem orL_drop (l : List Int) (k : Nat) (hk : k < l.length) : orL (l.drop k) = if l[k] ≠ 0 then l[k] else orL (l.drop (k + 1)) := by
  rw [List.drop_eq_getElem_cons hk]; rfl
theorem c_Or (p : Addr) (l : List Int) (w : World) (cap : Nat) (hl : l.length < 1000000) (h : ∀ (j : Nat) (hj : j < l.length), w.cell? (p.add j) = some (.int .i64 l[j])) :
    GivesAt Try.prog 70 #[.slice (some p) l.length cap] w (.int .i64 (orL l)) := by
  refine x_cmp_Or_int (some p) l.length cap w _ ⟨fun n w' _ => ∃ k : Nat, n = k ∧ k ≤ l.length ∧ w' = w ∧ orL l = orL (l.drop k), fun n _ => ((l.length : Int) - n).toNat, ⟨0, rfl, by omega, rfl, rfl⟩, ?_⟩
  rintro n w4 L5 _ ⟨k, rfl, hk, rfl, ho⟩
  by_cases hlt : k < l.length
  · rw [if_pos (by simpa using hlt)]
    refine ⟨by omega, by omega, ?_⟩
    rw [onSome_some]
    refine ⟨l[k], ?_, ?_⟩
    · have := h k hlt
      simpa using this
    · rw [orL_drop l k hlt] at ho
      by_cases hz : l[k] = 0
      · have e1 : (l[k] != 0) = false := by simp [hz]
        rw [e1, if_neg (by simp)]
        have e2 : IntKind.wrap .i64 ((k : Int) + 1) = ((k + 1 : Nat) : Int) := by rw [w_i64 (by omega) (by omega)]; omega
        rw [e2]
        refine ⟨⟨k + 1, rfl, hlt, rfl, by rw [ho, if_neg (by simp [hz])]⟩, ?_⟩
        show ((l.length : Int) - ((k + 1 : Nat) : Int)).toNat + 1 ≤ ((l.length : Int) - (k : Int)).toNat
        omega
      · have e1 : (l[k] != 0) = true := by simp [hz]
        rw [e1, if_pos rfl]
        exact ⟨by rw [ho, if_pos hz], below_refl _ _⟩
  · rw [if_neg (by simpa using hlt)]
    have : l.drop k = [] := List.drop_eq_nil_of_le (by omega)
    exact ⟨by rw [ho, this]; rfl, below_refl _ _⟩
theorem new_cell (w : World) (cs : Array Value) (ty : TypeId) (j : Nat) : (w.alloc (.cells cs ty)).cell? (Addr.add ⟨w.heap.size, 0, none⟩ j) = cs[j]? := by
  have hh : (w.alloc (.cells cs ty)).heap = w.heap.push (.cells cs ty) := rfl
  have ha : (Addr.add ⟨w.heap.size, 0, none⟩ j) = ⟨w.heap.size, j, none⟩ := by
    simp only [Addr.add]; split
    · rename_i h; rw [h]
    · simp
  rw [ha]
  simp only [World.cell?, hh, Array.getElem?_push_size]
  rfl
theorem alloc_below (n : Nat) (w : World) (o : Obj) (hn : n ≤ w.heap.size) : Bel n w (w.alloc o) :=
  have hh : (w.alloc o).heap = w.heap.push o := rfl
  ⟨rfl, rfl, rfl, by rw [hh, Array.size_push]; omega, Nat.le_refl _, fun k hk => by rw [hh, Array.getElem?_push, if_neg (by omega)]⟩
/-- Or of a new slice -/
theorem c_OrNew (w : World) (l : List Int) (ty : TypeId) (hl : l.length < 1000000) : GivesAt Try.prog 70 #[.slice (some ⟨w.heap.size, 0, none⟩) l.length l.length] (w.alloc (.cells (l.map (.int .i64)).toArray ty)) (.int .i64 (orL l)) :=
  c_Or _ l _ _ hl fun j hj => by rw [new_cell]; simp [hj]
theorem at_alloc {n : Nat} {w wk : World} {L : List Nat} (a : At n w wk L) (hw : n ≤ w.heap.size) (o : Obj) : At n w (wk.alloc o) L :=
  at_call a hw (alloc_below _ _ _ (Nat.le_refl _))
theorem alloc_kept {n : Nat} {w wk : World} {L : List Nat} (a : At n w wk L) (o : Obj) : Kept L wk (wk.alloc o) := at_kept a (alloc_below _ _ _ (Nat.le_refl _))
theorem c_CompareProcs (a0 a1 b0 b1 : Int) : Gives Try.prog 71 #[PV a0 a1, PV b0 b1] (.int .i64 (orL [cmp2 a0 b0, cmp2 a1 b1])) := by
  intro w
  refine x_ident_CompareProcs a0 a1 b0 b1 w _ ⟨[], facts_nil _ _, fun w2 L h1 h2 => ?_⟩
  have A := at_start h1 h2
  refine (c_cmp8 a0 b0).call fun w5 h5 => ⟨_, rfl, at_kept A h5, facts_nil _ _, ?_⟩
  replace A := at_call A (Nat.le_refl _) h5
  refine (c_cmp16 a1 b1).call fun w8 h8 => ⟨_, rfl, at_kept A h8, facts_nil _ _, facts_nil _ _, ?_⟩
  replace A := at_alloc (at_call A (Nat.le_refl _) h8) (Nat.le_refl _)
  refine (c_OrNew w8 [cmp2 a0 b0, cmp2 a1 b1] 3 (by simp)).call fun w11 h11 => ⟨_, rfl, at_kept (A _) h11, facts_nil _ _, rfl, ?_⟩
  exact (at_call (A _) (Nat.le_refl _) h11).bel
@[reducible] def SV2 (g i : Int) : Value := .agg #[.int .u8 g, .int .u8 i]
theorem c_compareSteps (a0 a1 b0 b1 : Int) : Gives Try.prog 74 #[SV2 a0 a1, SV2 b0 b1] (.int .i64 (orL [cmp2 a0 b0, cmp2 a1 b1])) := by
  intro w
  refine x_ident_compareSteps a0 a1 b0 b1 w _ ⟨[], facts_nil _ _, fun w2 L h1 h2 => ?_⟩
  have A := at_start h1 h2
  refine (c_cmp8 a0 b0).call fun w5 h5 => ⟨_, rfl, at_kept A h5, facts_nil _ _, ?_⟩
  replace A := at_call A (Nat.le_refl _) h5
  refine (c_cmp8 a1 b1).call fun w8 h8 => ⟨_, rfl, at_kept A h8, facts_nil _ _, facts_nil _ _, ?_⟩
  replace A := at_alloc (at_call A (Nat.le_refl _) h8) (Nat.le_refl _)
  refine (c_OrNew w8 [cmp2 a0 b0, cmp2 a1 b1] 3 (by simp)).call fun w11 h11 => ⟨_, rfl, at_kept (A _) h11, facts_nil _ _, rfl, ?_⟩
  exact (at_call (A _) (Nat.le_refl _) h11).bel
theorem c_ref_CompareProcs (a0 a1 b0 b1 : Int) (h0 : 0 ≤ a0 ∧ a0 < 256) (h1 : 0 ≤ b0 ∧ b0 < 256) (h2 : 0 ≤ a1 ∧ a1 < 65536) (h3 : 0 ≤ b1 ∧ b1 < 65536) :
    Gives Try.prog 55 #[PV a0 a1, PV b0 b1] (.int .i64 (orL [cmp2 a0 b0, cmp2 a1 b1])) := by
  intro w
  refine x_gemotref02_CompareProcs a0 a1 b0 b1 w _ ?_
  rw [w_i64 (by omega) (by omega), w_i64 (by omega) (by omega), w_i64 (by omega) (by omega), w_i64 (by omega) (by omega)]
  by_cases he : a0 = b0
  · rw [if_neg (by simp [he])]
    intro w1 L g1 g2
    have A := at_start g1 g2
    refine (c_number a1 b1).call fun w4 h4 => ⟨_, rfl, at_kept A h4, ?_, (at_call A (Nat.le_refl _) h4).bel⟩
    subst he
    simp only [orL, cmp2]; split <;> split <;> first | omega | (split <;> simp_all) | simp_all
  · rw [if_pos (by simpa using he)]
    intro w1 L g1 g2
    have A := at_start g1 g2
    refine (c_number a0 b0).call fun w4 h4 => ⟨_, rfl, at_kept A h4, ?_, (at_call A (Nat.le_refl _) h4).bel⟩
    have : cmp2 a0 b0 ≠ 0 := by unfold cmp2; split <;> (try split) <;> omega
    simp only [orL, if_pos this]
end Go.Proofs
namespace Go.Proofs
open Go X RowKit
/-- the steps that count -/
def I.k (x : I) : Nat := (if 3 < x.d then 3 else x.d).toNat
def I.path (x : I) : List Value := [.int .u8 x.g0, .int .u8 x.i0, .int .u8 x.g1, .int .u8 x.i1, .int .u8 x.g2, .int .u8 x.i2]
theorem cells_new (w : World) (vs : List Value) (ty : TypeId) : Cells (w.alloc (.cells vs.toArray ty)) ⟨w.heap.size, 0, none⟩ vs := fun j v hj => by
  rw [new_cell]; simpa using hj
theorem cells_below {n : Nat} {w w' : World} (h : Bel n w w') {a : Addr} {vs : List Value} (ha : a.block < n) (hc : Cells w a vs) : Cells w' a vs := fun j v hj => by
  rw [below_cell h (by rw [addr_block]; exact ha)]; exact hc j v hj
theorem there_new (w : World) (vs : List Value) (ty : TypeId) (n : Nat) (hn : n ≤ vs.length) : World.there (w.alloc (.cells vs.toArray ty)) w.heap.size 0 n := fun j hj => by
  have hh : (w.alloc (.cells vs.toArray ty)).heap = w.heap.push (.cells vs.toArray ty) := rfl
  constructor
  · simp only [World.cell?, hh, Array.getElem?_push_size]
    simp; omega
  · simp only [World.frozen?, hh, Array.getElem?_push_size]
    simp
theorem bel_setCells {B b : Nat} {w w' : World} (h : B ≤ b) (hn : B ≤ w'.heap.size) (vs : List Value) (o : Nat) (hb : Bel B w w') : Bel B w (w'.setCells b o vs) :=
  below_trans hb (hid_below (setCells_hid w' b o vs) (fun i hi => by simp only [List.mem_singleton] at hi; omega) hn)
theorem c_steps (x : I) (hx : x.In) (w : World) : Calls Try.prog 69 #[x.V] w fun e w' => ∃ b, e = .returned (.slice (some ⟨b, 0, none⟩) x.k 3) ∧ w.heap.size ≤ b ∧ b < w'.heap.size ∧ Bel w.heap.size w w' ∧ Cells w' ⟨b, 0, none⟩ x.path := by
  refine x_ident_ID_steps _ _ _ _ _ _ _ _ _ _ w _ fun w1 L h1 h2 => ?_
  have A := at_start h1 h2
  have hd := hx.d
  have ht := there_new w1 [.int .u8 0, .int .u8 0, .int .u8 0, .int .u8 0, .int .u8 0, .int .u8 0] 51 6 (by simp)
  refine ⟨rfl, ht, fun hm => by have := (A.loc _ hm).2; omega, ?_, ?_, w1.heap.size, ?_, A.bel.size, ?_, ?_, ?_⟩
  · rw [w_i64 (by omega) (by omega)]; split <;> omega
  · rw [w_i64 (by omega) (by omega)]; split <;> omega
  · rw [w_i64 (by omega) (by omega)]; rfl
  · have hh : (w1.alloc (.cells #[.int .u8 0, .int .u8 0, .int .u8 0, .int .u8 0, .int .u8 0, .int .u8 0] 51)).heap.size = w1.heap.size + 1 := by simp
    have := (bel_setCells (B := w1.heap.size) (b := w1.heap.size) (Nat.le_refl _) (by rw [hh]; omega) [.int .u8 x.g0, .int .u8 x.i0, .int .u8 x.g1, .int .u8 x.i1, .int .u8 x.g2, .int .u8 x.i2] 0 (below_refl _ (w1.alloc (.cells #[.int .u8 0, .int .u8 0, .int .u8 0, .int .u8 0, .int .u8 0, .int .u8 0] 51)))).size
    omega
  · exact below_trans A.bel (bel_setCells (B := w.heap.size) A.bel.size (by have := A.bel.size; simp; omega) _ _ (alloc_below _ _ _ A.bel.size))
  · intro j v hj
    have hlt : j < 6 := by
      have := (List.getElem?_eq_some_iff.1 hj).1
      simpa [I.path] using this
    rw [Addr.add_mid, World.cell?_setCells_in _ _ _ _ (fun i hi => (ht i (by simpa using hi)).1) j (by simpa using hlt)]
    rw [← hj]; exact (List.getElem?_eq_getElem _).symm

def cmpS (s t : Int × Int) : Int := orL [cmp2 s.1 t.1, cmp2 s.2 t.2]
theorem lf_at {w w4 : World} {L : List Nat} (hb : Bel w.heap.size w w4) (hl : LF w.heap.size w4 L) : At w.heap.size w w4 L := ⟨hb, fun b h => ⟨(hl b h).2, (hl b h).1⟩⟩
theorem c_CompareFunc (p q : Addr) (A B : List (Int × Int)) (hAB : B.length = A.length) (hl : A.length < 1000000) (ca cb : Nat) (w : World) (hp : p.block < w.heap.size) (hq : q.block < w.heap.size)
    (hA : ∀ (j : Nat) (hj : j < A.length), Cells w (p.add (j * 2)) [.int .u8 A[j].1, .int .u8 A[j].2]) (hB : ∀ (j : Nat) (hj : j < B.length), Cells w (q.add (j * 2)) [.int .u8 B[j].1, .int .u8 B[j].2]) :
    GivesAt Try.prog 73 #[.slice (some p) A.length ca, .slice (some q) A.length cb, .func (.func 74) #[] #[]] w (.int .i64 (orL (List.zipWith cmpS A B))) := by
  have hz : (List.zipWith cmpS A B).length = A.length := by rw [List.length_zipWith, hAB, Nat.min_self]
  refine x_slices_CompareFunc_ident_Step_ident_Step_ident_Step_ident_Step (some p) A.length ca (some q) A.length cb w _ ⟨fun n w' _ => ∃ k : Nat, n = k ∧ k ≤ A.length ∧ Bel w.heap.size w w' ∧ orL (List.zipWith cmpS A B) = orL ((List.zipWith cmpS A B).drop k), fun n _ => ((A.length : Int) - n).toNat, ⟨0, rfl, by omega, below_refl _ _, rfl⟩, ?_⟩
  rintro n w4 L5 hLF ⟨k, rfl, hk, hb, ho⟩
  have At0 := lf_at hb hLF
  by_cases hlt : k < A.length
  · rw [if_pos (by simpa using hlt)]
    refine ⟨by omega, by omega, ?_⟩
    rw [onSome_some]
    refine ⟨A[k].1, A[k].2, by rw [Int.toNat_natCast]; exact cells_below hb (by rw [addr_block]; exact hp) (hA k hlt), ?_⟩
    rw [if_neg (by simp; omega)]
    refine ⟨by omega, by omega, ?_⟩
    rw [onSome_some]
    refine ⟨(B[k]'(by omega)).1, (B[k]'(by omega)).2, by rw [Int.toNat_natCast]; exact cells_below hb (by rw [addr_block]; exact hq) (hB k (by omega)), ?_⟩
    intro w12 L13 h12 hL
    have A1 : At w.heap.size w w12 L13 := ⟨below_trans hb (hid_below h12 (by simp) hb.size), fun b h => ⟨(hL b h).2.1, (hL b h).1⟩⟩
    refine (c_compareSteps _ _ _ _).call fun w15 h15 => ⟨_, rfl, at_kept A1 h15, ?_⟩
    have A2 := at_call A1 (Nat.le_refl _) h15
    rw [orL_drop _ k (by omega)] at ho
    have hg : (List.zipWith cmpS A B)[k]'(by omega) = orL [cmp2 A[k].1 (B[k]'(by omega)).1, cmp2 A[k].2 (B[k]'(by omega)).2] := by rw [List.getElem_zipWith]; rfl
    rw [hg] at ho
    generalize orL [cmp2 A[k].1 (B[k]'(by omega)).1, cmp2 A[k].2 (B[k]'(by omega)).2] = r at ho ⊢
    by_cases hr : r = 0
    · rw [if_neg (by simp [hr])]
      have e2 : IntKind.wrap .i64 ((k : Int) + 1) = ((k + 1 : Nat) : Int) := by rw [w_i64 (by omega) (by omega)]; omega
      rw [e2]
      refine ⟨⟨k + 1, rfl, hlt, A2.bel, by rw [ho, if_neg (by simp [hr])]⟩, ?_⟩
      show ((A.length : Int) - ((k + 1 : Nat) : Int)).toNat + 1 ≤ ((A.length : Int) - (k : Int)).toNat
      omega
    · rw [if_pos (by simpa using hr)]
      exact ⟨by rw [ho, if_pos hr], A2.bel⟩
  · rw [if_neg (by simpa using hlt), if_neg (by simp)]
    have : (List.zipWith cmpS A B).drop k = [] := List.drop_eq_nil_of_le (by omega)
    exact ⟨by rw [ho, this]; rfl, hb⟩
end Go.Proofs
namespace Go.Proofs
open Go X RowKit
theorem facts_below {F : Facts} {u u' : World} (h : FactsW F u []) (hb : Bel u.heap.size u u') : FactsW F u' [] := fun ad vs hm => by
  obtain ⟨h1, h2, h3⟩ := h ad vs hm
  exact ⟨cells_below hb h2 h1, Nat.lt_of_lt_of_le h2 hb.size, h3⟩
theorem facts_cons {F : Facts} {u : World} {ad : Addr} {vs : List Value} (h1 : Cells u ad vs) (h2 : ad.block < u.heap.size) (h : FactsW F u []) : FactsW ((ad, vs) :: F) u [] := fun a v hm => by
  rcases List.mem_cons.1 hm with e | hm
  · injection e with e1 e2
    subst e1; subst e2
    exact ⟨h1, h2, by simp⟩
  · exact h a v hm
def I.row (x : I) : List Value := [.int .u8 x.n, .int .u16 x.l, .int .u32 x.s, .int .u8 x.d, .int .u8 x.g0, .int .u8 x.i0, .int .u8 x.g1, .int .u8 x.i1, .int .u8 x.g2, .int .u8 x.i2]
def I.steps (x : I) : List (Int × Int) := [(x.g0, x.i0), (x.g1, x.i1), (x.g2, x.i2)]
def I.cmp (x y : I) : Int := orL [orL [cmp2 x.n y.n, cmp2 x.l y.l], cmp2 x.s y.s, orL (List.zipWith cmpS (x.steps.take (min x.k y.k)) (y.steps.take (min x.k y.k))), cmp2 x.d y.d, orL (List.zipWith cmpS x.steps y.steps)]
theorem cells_sub {w : World} {b o : Nat} {vs : List Value} (h : Cells w ⟨b, o, none⟩ vs) (k : Nat) (us : List Value) (hu : ∀ j v, us[j]? = some v → vs[k + j]? = some v) : Cells w ⟨b, o + k, none⟩ us := fun j v hj => by
  have := h (k + j) v (hu j v hj)
  rw [Addr.add_mid] at this ⊢
  rwa [Nat.add_assoc]
theorem k_le (x : I) (hx : x.In) : x.k ≤ 3 := by
  have := hx.d
  unfold I.k; split <;> omega
theorem path_steps (x : I) {w : World} {b o : Nat} (h : Cells w ⟨b, o, none⟩ x.path) (j : Nat) (hj : j < x.steps.length) : Cells w ((⟨b, o, none⟩ : Addr).add (j * 2)) [.int .u8 x.steps[j].1, .int .u8 x.steps[j].2] := by
  rw [Addr.add_mid]
  refine cells_sub h (j * 2) _ fun i v hi => ?_
  have h3 : j < 3 := by simpa [I.steps] using hj
  have hi2 : i < 2 := by
    have := (List.getElem?_eq_some_iff.1 hi).1
    simpa using this
  match j, h3, i, hi2 with
  | 0, _, 0, _ => exact hi
  | 0, _, 1, _ => exact hi
  | 1, _, 0, _ => exact hi
  | 1, _, 1, _ => exact hi
  | 2, _, 0, _ => exact hi
  | 2, _, 1, _ => exact hi
theorem c_Compare (x y : I) (hx : x.In) (hy : y.In) : Gives Try.prog 61 #[x.V, y.V] (.int .i64 (x.cmp y)) := by
  intro w
  refine x_ident_Compare _ _ _ _ _ _ _ _ _ _ _ _ _ _ _ _ _ _ _ _ w _ ?_
  have ca : Cells (w.alloc (.cells x.row.toArray 53)) ⟨w.heap.size, 0, none⟩ x.row := cells_new w x.row 53
  have sa : (w.alloc (.cells x.row.toArray 53)).heap.size = w.heap.size + 1 := by simp
  generalize hW1 : w.alloc (.cells x.row.toArray 53) = W1 at ca sa
  have hW1' : (w.alloc (.cells #[.int .u8 x.n, .int .u16 x.l, .int .u32 x.s, .int .u8 x.d, .int .u8 x.g0, .int .u8 x.i0, .int .u8 x.g1, .int .u8 x.i1, .int .u8 x.g2, .int .u8 x.i2] 53)) = W1 := hW1
  rw [hW1']
  have b1 : Bel w.heap.size w W1 := by rw [← hW1]; exact alloc_below _ _ _ (Nat.le_refl _)
  have cb : Cells (W1.alloc (.cells y.row.toArray 53)) ⟨W1.heap.size, 0, none⟩ y.row := cells_new W1 y.row 53
  have sb : (W1.alloc (.cells y.row.toArray 53)).heap.size = W1.heap.size + 1 := by simp
  have b2 : Bel W1.heap.size W1 (W1.alloc (.cells y.row.toArray 53)) := alloc_below _ _ _ (Nat.le_refl _)
  generalize hW2 : W1.alloc (.cells y.row.toArray 53) = W2 at cb sb b2
  have hW2' : (W1.alloc (.cells #[.int .u8 y.n, .int .u16 y.l, .int .u32 y.s, .int .u8 y.d, .int .u8 y.g0, .int .u8 y.i0, .int .u8 y.g1, .int .u8 y.i1, .int .u8 y.g2, .int .u8 y.i2] 53)) = W2 := hW2
  rw [hW2']
  have ca2 : Cells W2 ⟨w.heap.size, 0, none⟩ x.row := cells_below b2 (by show w.heap.size < _; omega) ca
  have F1 : FactsW [(⟨w.heap.size, 0, none⟩, x.row), (⟨W1.heap.size, 0, none⟩, y.row)] W2 [] :=
    facts_cons ca2 (by show w.heap.size < _; omega) (facts_cons cb (by show W1.heap.size < _; omega) (facts_nil _ _))
  refine ⟨_, F1, x.n, x.l, x.s, x.d, x.g0, x.i0, x.g1, x.i1, x.g2, x.i2, by simp [I.row], y.n, y.l, y.s, y.d, y.g0, y.i0, y.g1, y.i1, y.g2, y.i2, by simp [I.row], ?_⟩
  intro w22 h22
  have B22 : Bel W2.heap.size W2 w22 := hid_below h22 (by simp) (Nat.le_refl _)
  have F22 := facts_below F1 B22
  refine ⟨(c_steps x hx w22).mono ?_⟩
  rintro e w24 ⟨p, rfl, hp1, hp2, hb24, hcp⟩
  refine ⟨some ⟨p, 0, none⟩, x.k, 3, rfl, hb24.size, facts_below F22 hb24, ?_⟩
  refine ⟨(c_steps y hy w24).mono ?_⟩
  rintro e w29 ⟨q, rfl, hq1, hq2, hb29, hcq⟩
  have F29 := facts_below (facts_below F22 hb24) hb29
  refine ⟨some ⟨q, 0, none⟩, y.k, 3, rfl, hb29.size, F29, ?_⟩
  have xa := F29 _ _ (List.mem_cons_self)
  have ya := F29 _ _ (List.mem_cons_of_mem _ (List.mem_cons_self))
  have G29 : FactsW [(⟨w.heap.size, 0, none⟩, [.int .u8 x.n, .int .u16 x.l]), (⟨W1.heap.size, 0, none⟩, [.int .u8 y.n, .int .u16 y.l]), (⟨w.heap.size, 0 + 2, none⟩, [.int .u32 x.s]), (⟨W1.heap.size, 0 + 2, none⟩, [.int .u32 y.s]), (⟨w.heap.size, 0 + 3, none⟩, [.int .u8 x.d]), (⟨W1.heap.size, 0 + 3, none⟩, [.int .u8 y.d])] w29 [] := by
    have h2 : ∀ (k : Nat) (v0 v1 : Value) (r : List Value), r[k + 0]? = some v0 → r[k + 1]? = some v1 → ∀ j v, [v0, v1][j]? = some v → r[k + j]? = some v := by
      intro k v0 v1 r e0 e1 j v hj
      rcases j with _ | _ | j
      · rw [e0]; exact hj
      · rw [e1]; exact hj
      · simp at hj
    have h1 : ∀ (k : Nat) (v0 : Value) (r : List Value), r[k + 0]? = some v0 → ∀ j v, [v0][j]? = some v → r[k + j]? = some v := by
      intro k v0 r e0 j v hj
      rcases j with _ | j
      · rw [e0]; exact hj
      · simp at hj
    exact facts_cons (cells_sub xa.1 0 _ (h2 0 _ _ _ rfl rfl)) xa.2.1 (facts_cons (cells_sub ya.1 0 _ (h2 0 _ _ _ rfl rfl)) ya.2.1 (facts_cons (cells_sub xa.1 2 _ (h1 2 _ _ rfl)) xa.2.1 (facts_cons (cells_sub ya.1 2 _ (h1 2 _ _ rfl)) ya.2.1
      (facts_cons (cells_sub xa.1 3 _ (h1 3 _ _ rfl)) xa.2.1 (facts_cons (cells_sub ya.1 3 _ (h1 3 _ _ rfl)) ya.2.1 (facts_nil _ _))))))
  have e2 : Bel w.heap.size w W2 := below_trans b1 (below_mono b2 b1.size)
  have e22 := below_trans e2 (below_mono B22 e2.size)
  have e24 := below_trans e22 (below_mono hb24 e22.size)
  have e29 := below_trans e24 (below_mono hb29 e24.size)
  refine ⟨[(⟨w.heap.size, 0, none⟩, [.int .u8 x.n, .int .u16 x.l]), (⟨W1.heap.size, 0, none⟩, [.int .u8 y.n, .int .u16 y.l]), (⟨w.heap.size, 0 + 2, none⟩, [.int .u32 x.s]), (⟨W1.heap.size, 0 + 2, none⟩, [.int .u32 y.s]), (⟨w.heap.size, 0 + 3, none⟩, [.int .u8 x.d]), (⟨W1.heap.size, 0 + 3, none⟩, [.int .u8 y.d])], ?_, x.n, x.l, by simp, y.n, y.l, by simp, x.s, by simp, y.s, by simp, ?_⟩
  · exact G29
  have kx := k_le x hx
  have ky := k_le y hy
  refine ⟨by split <;> omega, by split <;> omega, by split <;> omega, by split <;> omega, x.d, by simp, y.d, by simp, ?_⟩
  generalize hG : ([(⟨w.heap.size, 0, none⟩, [.int .u8 x.n, .int .u16 x.l]), (⟨W1.heap.size, 0, none⟩, [.int .u8 y.n, .int .u16 y.l]), (⟨w.heap.size, 0 + 2, none⟩, [.int .u32 x.s]), (⟨W1.heap.size, 0 + 2, none⟩, [.int .u32 y.s]), (⟨w.heap.size, 0 + 3, none⟩, [.int .u8 x.d]), (⟨W1.heap.size, 0 + 3, none⟩, [.int .u8 y.d])] : Facts) = G at G29 ⊢
  intro w42 h42
  have B42 : Bel w29.heap.size w29 w42 := hid_below h42 (by simp) (Nat.le_refl _)
  have e42 := below_trans e29 (below_mono B42 e29.size)
  have G42 := facts_below G29 B42
  refine (c_CompareProcs x.n x.l y.n y.l).call fun w44 h44 => ⟨_, rfl, h44.size, facts_below G42 h44, ?_⟩
  have e44 := below_trans e42 (below_mono h44 e42.size)
  have G44 := facts_below G42 h44
  refine (c_cmp32 x.s y.s).call fun w47 h47 => ⟨_, rfl, h47.size, facts_below G44 h47, ?_⟩
  have e47 := below_trans e44 (below_mono h47 e44.size)
  have G47 := facts_below G44 h47
  have q42 : Bel w29.heap.size w29 w47 := below_trans B42 (below_trans (below_mono h44 B42.size) (below_mono h47 (Nat.le_trans B42.size h44.size)))
  have q24 : Bel w24.heap.size w24 w47 := below_trans hb29 (below_mono q42 hb29.size)
  have P47 := cells_below q24 (a := ⟨p, 0, none⟩) hp2 hcp
  have Q47 := cells_below q42 (a := ⟨q, 0, none⟩) hq2 hcq
  have hm : ((if (y.k : Int) < (x.k : Int) then (y.k : Int) else (x.k : Int))).toNat = (x.steps.take (min x.k y.k)).length := by
    rw [List.length_take]
    show _ = min (min x.k y.k) 3
    split <;> omega
  have hml : (y.steps.take (min x.k y.k)).length = (x.steps.take (min x.k y.k)).length := by
    rw [List.length_take, List.length_take]; rfl
  rw [hm]
  have hx3 : x.steps.length = 3 := rfl
  have hy3 : y.steps.length = 3 := rfl
  refine (c_CompareFunc ⟨p, 0, none⟩ ⟨q, 0, none⟩ (x.steps.take (min x.k y.k)) (y.steps.take (min x.k y.k)) hml (by rw [List.length_take]; omega) 3 3 w47 (Nat.lt_of_lt_of_le hp2 q24.size) (Nat.lt_of_lt_of_le hq2 q42.size)
    (fun j hj => by rw [List.getElem_take]; exact path_steps x P47 j _) (fun j hj => by rw [List.getElem_take]; exact path_steps y Q47 j _)).call fun w50 h50 => ⟨_, rfl, h50.size, facts_below G47 h50, ?_⟩
  have e50 := below_trans e47 (below_mono h50 e47.size)
  have G50 := facts_below G47 h50
  refine (c_cmp8 x.d y.d).call fun w53 h53 => ⟨_, rfl, h53.size, facts_below G50 h53, ?_⟩
  have e53 := below_trans e50 (below_mono h53 e50.size)
  have G53 := facts_below G50 h53
  have r53 : Bel w29.heap.size w29 w53 := below_trans q42 (below_trans (below_mono h50 q42.size) (below_mono h53 (Nat.le_trans q42.size h50.size)))
  have X53 := cells_below r53 (a := ⟨w.heap.size, 0, none⟩) xa.2.1 xa.1
  have Y53 := cells_below r53 (a := ⟨W1.heap.size, 0, none⟩) ya.2.1 ya.1
  have px : Cells w53 ⟨w.heap.size, 0 + 4, none⟩ x.path := cells_sub X53 4 _ fun j v hj => by
    rcases j with _ | _ | _ | _ | _ | _ | j <;> first | exact hj | simp [I.path] at hj
  have py : Cells w53 ⟨W1.heap.size, 0 + 4, none⟩ y.path := cells_sub Y53 4 _ fun j v hj => by
    rcases j with _ | _ | _ | _ | _ | _ | j <;> first | exact hj | simp [I.path] at hj
  refine (c_CompareFunc ⟨w.heap.size, 0 + 4, none⟩ ⟨W1.heap.size, 0 + 4, none⟩ x.steps y.steps rfl (by rw [hx3]; omega) 3 3 w53 (Nat.lt_of_lt_of_le xa.2.1 r53.size) (Nat.lt_of_lt_of_le ya.2.1 r53.size)
    (fun j hj => path_steps x px j _) (fun j hj => path_steps y py j _)).call fun w56 h56 => ⟨_, rfl, h56.size, facts_below G53 h56, ?_⟩
  have e56 := below_trans e53 (below_mono h56 e53.size)
  have G56 := facts_below G53 h56
  have ba := alloc_below w56.heap.size w56 (.cells #[.int .i64 (orL [cmp2 x.n y.n, cmp2 x.l y.l]), .int .i64 (cmp2 x.s y.s), .int .i64 (orL (List.zipWith cmpS (x.steps.take (min x.k y.k)) (y.steps.take (min x.k y.k)))), .int .i64 (cmp2 x.d y.d), .int .i64 (orL (List.zipWith cmpS x.steps y.steps))] 3) (Nat.le_refl _)
  refine ⟨facts_below G56 ba, ?_⟩
  refine (c_OrNew w56 [orL [cmp2 x.n y.n, cmp2 x.l y.l], cmp2 x.s y.s, orL (List.zipWith cmpS (x.steps.take (min x.k y.k)) (y.steps.take (min x.k y.k))), cmp2 x.d y.d, orL (List.zipWith cmpS x.steps y.steps)] 3 (by simp)).call fun w59 h59 => ⟨_, rfl, h59.size, facts_below (facts_below G56 ba) h59, rfl, ?_⟩
  exact below_trans e56 (below_trans (below_mono ba e56.size) (below_mono h59 (Nat.le_trans e56.size ba.size)))
end Go.Proofs
namespace Go.Proofs
open Go X RowKit
theorem cmp2_zero (a b : Int) : cmp2 a b = 0 ↔ a = b := by unfold cmp2; split <;> (try split) <;> omega
theorem cmp2_self (a : Int) : cmp2 a a = 0 := (cmp2_zero a a).2 rfl
theorem leaf1 {w w4 : World} {L : List Nat} (A : At w.heap.size w w4 L) (a b V : Int) (hv : cmp2 a b = V) :
    CallX Try.prog 56 #[.int .i64 a, .int .i64 b] w4 fun e w' => ∃ n : Int, e = .returned (.int .i64 n) ∧ Kept L w4 w' ∧ (Ending.returned (.int .i64 n) = .returned (.int .i64 V) ∧ Bel w.heap.size w w') :=
  (c_number a b).call fun w' h => ⟨_, rfl, at_kept A h, by rw [hv], (at_call A (Nat.le_refl _) h).bel⟩
theorem leaf2 {w w4 : World} {L : List Nat} (A : At w.heap.size w w4 L) (a b V : Int) (hv : cmp2 a b = V) :
    ∃ F : Facts, FactsW F w4 L ∧ ∀ w5 : World, ∀ L5 : List Nat, Hid L w4 w5 → NewL w.heap.size L w4 w5 L5 →
      CallX Try.prog 56 #[.int .i64 a, .int .i64 b] w5 fun e w' => ∃ n : Int, e = .returned (.int .i64 n) ∧ Kept L5 w5 w' ∧ FactsW F w' L5 ∧ (Ending.returned (.int .i64 n) = .returned (.int .i64 V) ∧ Bel w.heap.size w w') :=
  ⟨[], facts_nil _ _, fun w5 L5 h5 hL => by
    have A5 := at_hid A (Nat.le_refl _) h5 hL
    exact (c_number a b).call fun w' h => ⟨_, rfl, at_kept A5 h, facts_nil _ _, by rw [hv], (at_call A5 (Nat.le_refl _) h).bel⟩⟩
theorem leaf3 {w w4 : World} {L : List Nat} (A : At w.heap.size w w4 L) (a b V : Int) (hv : cmp2 a b = V) :
    ∀ w5 : World, ∀ L5 : List Nat, Hid L w4 w5 → NewL w.heap.size L w4 w5 L5 →
      CallX Try.prog 56 #[.int .i64 a, .int .i64 b] w5 fun e w' => ∃ n : Int, e = .returned (.int .i64 n) ∧ Kept L5 w5 w' ∧ (Ending.returned (.int .i64 n) = .returned (.int .i64 V) ∧ Bel w.heap.size w w') := fun w5 L5 h5 hL => by
  have A5 := at_hid A (Nat.le_refl _) h5 hL
  exact (c_number a b).call fun w' h => ⟨_, rfl, at_kept A5 h, by rw [hv], (at_call A5 (Nat.le_refl _) h).bel⟩
theorem leaf4 {w w4 : World} {L : List Nat} (A : At w.heap.size w w4 L) (a V : Int) (hv : a = V) :
    ∀ w5 : World, Hid L w4 w5 → (Ending.returned (.int .i64 a) = .returned (.int .i64 V) ∧ Bel w.heap.size w w5) := fun w5 h5 => ⟨by rw [hv], at_end A (Nat.le_refl _) h5⟩
theorem leaf5 {w w4 : World} {L : List Nat} (A : At w.heap.size w w4 L) (a V : Int) (hv : a = V) :
    Ending.returned (.int .i64 a) = .returned (.int .i64 V) ∧ Bel w.heap.size w w4 := ⟨by rw [hv], A.bel⟩
theorem cmp_steps (x y : I) (hx : x.In) (hy : y.In) : orL (List.zipWith cmpS (x.steps.take (min x.k y.k)) (y.steps.take (min x.k y.k))) =
    if 0 < x.d ∧ 0 < y.d then (if cmpS (x.g0, x.i0) (y.g0, y.i0) ≠ 0 then cmpS (x.g0, x.i0) (y.g0, y.i0) else
      if 1 < x.d ∧ 1 < y.d then (if cmpS (x.g1, x.i1) (y.g1, y.i1) ≠ 0 then cmpS (x.g1, x.i1) (y.g1, y.i1) else
        if 2 < x.d ∧ 2 < y.d then cmpS (x.g2, x.i2) (y.g2, y.i2) else 0) else 0) else 0 := by
  have hd := hx.d
  have he := hy.d
  have hk : min x.k y.k = 0 ∧ ¬ (0 < x.d ∧ 0 < y.d) ∨ min x.k y.k = 1 ∧ (0 < x.d ∧ 0 < y.d) ∧ ¬ (1 < x.d ∧ 1 < y.d) ∨ min x.k y.k = 2 ∧ (0 < x.d ∧ 0 < y.d) ∧ (1 < x.d ∧ 1 < y.d) ∧ ¬ (2 < x.d ∧ 2 < y.d) ∨ min x.k y.k = 3 ∧ (0 < x.d ∧ 0 < y.d) ∧ (1 < x.d ∧ 1 < y.d) ∧ (2 < x.d ∧ 2 < y.d) := by
    unfold I.k; split <;> split <;> omega
  rcases hk with ⟨h, h0⟩ | ⟨h, h0, h1⟩ | ⟨h, h0, h1, h2⟩ | ⟨h, h0, h1, h2⟩
  · rw [h, if_neg h0]; rfl
  · rw [h, if_pos h0, if_neg h1]; rfl
  · rw [h, if_pos h0, if_pos h1, if_neg h2]; rfl
  · rw [h, if_pos h0, if_pos h1, if_pos h2]
    show (if cmpS (x.g0, x.i0) (y.g0, y.i0) ≠ 0 then _ else (if cmpS (x.g1, x.i1) (y.g1, y.i1) ≠ 0 then _ else (if cmpS (x.g2, x.i2) (y.g2, y.i2) ≠ 0 then cmpS (x.g2, x.i2) (y.g2, y.i2) else 0))) = _
    split
    · rfl
    · split
      · rfl
      · split
        · rfl
        · rename_i h; simpa using Eq.symm (by simpa using h)

theorem ite_i {c : Prop} [Decidable c] {p q : Prop} (h1 : c → p) (h2 : ¬ c → q) : if c then p else q := by
  by_cases h : c
  · rw [if_pos h]; exact h1 h
  · rw [if_neg h]; exact h2 h
theorem c_ref_Compare (x y : I) (hx : x.In) (hy : y.In) : Gives Try.prog 35 #[x.V, y.V] (.int .i64 (x.cmp y)) := by
  intro w
  refine x_gemotref02_Compare _ _ _ _ _ _ _ _ _ _ _ _ _ _ _ _ _ _ _ _ w _ fun w1 L h1 h2 => ?_
  have A := at_start h1 h2
  refine (c_ref_CompareProcs x.n x.l y.n y.l hx.n hy.n hx.l hy.l).call fun w4 h4 => ⟨_, rfl, at_kept A h4, ?_⟩
  have A4 := at_call A (Nat.le_refl _) h4
  have hxs := hx.s; have hxd := hx.d; have hx4 := hx.g0; have hx5 := hx.i0; have hx6 := hx.g1; have hx7 := hx.i1; have hx8 := hx.g2; have hx9 := hx.i2
  have hys := hy.s; have hyd := hy.d; have hy4 := hy.g0; have hy5 := hy.i0; have hy6 := hy.g1; have hy7 := hy.i1; have hy8 := hy.g2; have hy9 := hy.i2
  rw [w_i64 (n := x.s) (by omega) (by omega), w_i64 (n := y.s) (by omega) (by omega), w_i64 (n := x.d) (by omega) (by omega), w_i64 (n := y.d) (by omega) (by omega), w_i64 (n := x.g0) (by omega) (by omega), w_i64 (n := y.g0) (by omega) (by omega), w_i64 (n := x.i0) (by omega) (by omega), w_i64 (n := y.i0) (by omega) (by omega), w_i64 (n := x.g1) (by omega) (by omega), w_i64 (n := y.g1) (by omega) (by omega), w_i64 (n := x.i1) (by omega) (by omega), w_i64 (n := y.i1) (by omega) (by omega), w_i64 (n := x.g2) (by omega) (by omega), w_i64 (n := y.g2) (by omega) (by omega), w_i64 (n := x.i2) (by omega) (by omega), w_i64 (n := y.i2) (by omega) (by omega)]
  clear hxs hxd hx4 hx5 hx6 hx7 hx8 hx9 hys hyd hy4 hy5 hy6 hy7 hy8 hy9
  obtain ⟨V, hV⟩ : ∃ V, V = x.cmp y := ⟨_, rfl⟩
  rw [← hV]
  unfold I.cmp at hV
  rw [cmp_steps x y hx hy] at hV
  clear hx hy h1 h2 A h4
  simp only [bne_iff_ne, ne_eq, Bool.true_and, Bool.and_eq_true, decide_eq_true_eq]
  simp only [I.steps, List.zipWith, cmpS] at hV
  generalize orL [cmp2 x.n y.n, cmp2 x.l y.l] = c0 at hV ⊢
  repeat' (refine ite_i (fun _ => ?_) (fun _ => ?_))
  all_goals first
    | refine leaf2 A4 _ _ _ ?_
    | refine leaf1 A4 _ _ _ ?_
    | refine leaf3 A4 _ _ _ ?_
    | refine leaf4 A4 _ _ ?_
    | refine leaf5 A4 _ _ ?_
  all_goals (rw [hV]; clear hV A4)
  all_goals simp_all [orL, cmp2_zero, cmp2_self]
  all_goals (intros; omega)

end Go.Proofs
namespace Go.Proofs
open Go X RowKit
theorem I.ext' {a b : I} (h : a.n = b.n ∧ a.l = b.l ∧ a.s = b.s ∧ a.d = b.d ∧ a.g0 = b.g0 ∧ a.i0 = b.i0 ∧ a.g1 = b.g1 ∧ a.i1 = b.i1 ∧ a.g2 = b.g2 ∧ a.i2 = b.i2) : a = b := by cases a; cases b; simp_all
/-! ### the order of identifiers is that of numbers -/
def szI : List Int → Int
  | [] => 1
  | B :: r => B * szI r
def pkI : List Int → List Int → Int
  | _ :: Bs, d :: ds => d * szI Bs + pkI Bs ds
  | _, _ => 0
def InI : List Int → List Int → Prop
  | B :: Bs, d :: ds => (0 ≤ d ∧ d < B) ∧ InI Bs ds
  | [], [] => True
  | _, _ => False
theorem pk_in : ∀ {Bs ds : List Int}, InI Bs ds → 0 ≤ pkI Bs ds ∧ pkI Bs ds < szI Bs
  | [], [], _ => by simp [pkI, szI]
  | B :: Bs, d :: ds, h => by
    obtain ⟨⟨h0, h1⟩, h2⟩ := h
    obtain ⟨i0, i1⟩ := pk_in h2
    have hs : 0 < szI Bs := by omega
    simp only [pkI, szI]
    have a : 0 ≤ d * szI Bs := Int.mul_nonneg h0 (by omega)
    have b : (d + 1) * szI Bs ≤ B * szI Bs := Int.mul_le_mul_of_nonneg_right (by omega) (by omega)
    have c : (d + 1) * szI Bs = d * szI Bs + szI Bs := by rw [Int.add_mul, Int.one_mul]
    omega
  | [], _ :: _, h => by cases h
  | _ :: _, [], h => by cases h
theorem cmp2_lt {a b : Int} (h : a < b) : cmp2 a b = -1 := by unfold cmp2; rw [if_pos h]
theorem cmp2_gt {a b : Int} (h : b < a) : cmp2 a b = 1 := by unfold cmp2; rw [if_neg (by omega), if_pos (by omega)]
theorem pk_cmp : ∀ {Bs xs ys : List Int}, InI Bs xs → InI Bs ys → cmp2 (pkI Bs xs) (pkI Bs ys) = orL (List.zipWith cmp2 xs ys)
  | [], [], [], _, _ => by simp [pkI, orL, cmp2]
  | B :: Bs, x :: xs, y :: ys, hx, hy => by
    have ih := pk_cmp hx.2 hy.2
    obtain ⟨i0, i1⟩ := pk_in hx.2
    obtain ⟨j0, j1⟩ := pk_in hy.2
    simp only [pkI, List.zipWith, orL]
    have key : ∀ {u v : Int}, u < v → u * szI Bs + szI Bs ≤ v * szI Bs := fun {u v} h => by
      have b : (u + 1) * szI Bs ≤ v * szI Bs := Int.mul_le_mul_of_nonneg_right (by omega) (by omega)
      have c : (u + 1) * szI Bs = u * szI Bs + szI Bs := by rw [Int.add_mul, Int.one_mul]
      omega
    rcases Int.lt_trichotomy x y with h | h | h
    · have := key h
      rw [cmp2_lt h, if_pos (by decide), cmp2_lt (by omega)]
    · subst h
      rw [cmp2_self, if_neg (by decide), ← ih]
      unfold cmp2
      have e1 : (x * szI Bs + pkI Bs xs < x * szI Bs + pkI Bs ys) ↔ (pkI Bs xs < pkI Bs ys) := by omega
      have e2 : (x * szI Bs + pkI Bs xs > x * szI Bs + pkI Bs ys) ↔ (pkI Bs xs > pkI Bs ys) := by omega
      simp only [e1, e2]
    · have := key h
      rw [cmp2_gt h, if_pos (by decide), cmp2_gt (by omega)]
  | [], [], _ :: _, _, h => by cases h
  | [], _ :: _, _, h, _ => by cases h
  | _ :: _, [], _, h, _ => by cases h
  | _ :: _, _ :: _, [], _, h => by cases h
/-- a step that counts, as one number -/
def eI (j d g i : Int) : Int := if j < d then 1 + g * 256 + i else 0
def I.dig (x : I) : List Int := [x.n, x.l, x.s, eI 0 x.d x.g0 x.i0, eI 1 x.d x.g1 x.i1, eI 2 x.d x.g2 x.i2, x.d, x.g0, x.i0, x.g1, x.i1, x.g2, x.i2]
def basI : List Int := [256, 65536, 4294967296, 65537, 65537, 65537, 256, 256, 256, 256, 256, 256, 256]
def I.num (x : I) : Int := pkI basI x.dig
theorem I.In.dig {x : I} (h : x.In) : InI basI x.dig := by
  have := h.n; have := h.l; have := h.s; have := h.d; have := h.g0; have := h.i0; have := h.g1; have := h.i1; have := h.g2; have := h.i2
  simp only [InI, basI, I.dig, eI, and_true]
  refine ⟨by omega, by omega, by omega, ?_, ?_, ?_, by omega, by omega, by omega, by omega, by omega, by omega, by omega⟩
  all_goals split <;> omega
theorem cmpS_e (g i g' i' : Int) (h1 : 0 ≤ i ∧ i < 256) (h2 : 0 ≤ i' ∧ i' < 256) : cmp2 (1 + g * 256 + i) (1 + g' * 256 + i') = cmpS (g, i) (g', i') := by
  simp only [cmpS, orL]
  rcases Int.lt_trichotomy g g' with h | h | h
  · rw [cmp2_lt h, if_pos (by decide), cmp2_lt (by omega)]
  · subst h
    rw [cmp2_self, if_neg (by decide)]
    unfold cmp2
    split <;> split <;> first | omega | rfl | (split <;> first | omega | rfl | simp_all) | simp_all
  · rw [cmp2_gt h, if_pos (by decide), cmp2_gt (by omega)]
def o2 (a b : Int) : Int := if a ≠ 0 then a else b
theorem o2_assoc (a b c : Int) : o2 (o2 a b) c = o2 a (o2 b c) := by
  unfold o2
  by_cases h : a = 0
  · subst h; simp
  · simp [h]
theorem o2_zero (a : Int) : o2 a 0 = a := by unfold o2; by_cases h : a = 0 <;> simp [h]
theorem zero_o2 (a : Int) : o2 0 a = a := by simp [o2]
theorem orL_cons (x : Int) (r : List Int) : orL (x :: r) = o2 x (orL r) := rfl
theorem orL_nil : orL [] = 0 := rfl
theorem o2_neg (r : Int) : o2 (-1) r = -1 := rfl
theorem o2_one (r : Int) : o2 1 r = 1 := rfl
theorem step_e {j d d' g i g' i' F A rest : Int} (h1 : 0 ≤ i ∧ i < 256) (h2 : 0 ≤ i' ∧ i' < 256) (hg : 0 ≤ g ∧ 0 ≤ g') (hF : ¬ (j < d ∨ j < d') → F = 0) (hr : o2 F (o2 (cmp2 d d') A) = rest) :
    o2 (if j < d ∧ j < d' then (if cmpS (g, i) (g', i') ≠ 0 then cmpS (g, i) (g', i') else F) else 0) (o2 (cmp2 d d') A) = o2 (cmp2 (eI j d g i) (eI j d' g' i')) rest := by
  by_cases hd : j < d
  · by_cases hd' : j < d'
    · rw [if_pos ⟨hd, hd'⟩, eI, eI, if_pos hd, if_pos hd', cmpS_e g i g' i' h1 h2, ← hr]
      exact o2_assoc _ _ _
    · rw [if_neg (by omega), eI, eI, if_pos hd, if_neg hd', cmp2_gt (by omega : (0 : Int) < 1 + g * 256 + i), cmp2_gt (by omega : d' < d), zero_o2, o2_one, o2_one]
  · by_cases hd' : j < d'
    · rw [if_neg (by omega), eI, eI, if_neg hd, if_pos hd', cmp2_lt (by omega : (0 : Int) < 1 + g' * 256 + i'), cmp2_lt (by omega : d < d'), zero_o2, o2_neg, o2_neg]
    · rw [if_neg (by omega), eI, eI, if_neg hd, if_neg hd', cmp2_self, zero_o2, zero_o2, ← hr, hF (by omega), zero_o2]
theorem cmp_dig (x y : I) (hx : x.In) (hy : y.In) : x.cmp y = orL (List.zipWith cmp2 x.dig y.dig) := by
  unfold I.cmp
  rw [cmp_steps x y hx hy]
  simp only [I.steps, List.zipWith, I.dig, orL_cons, orL_nil, o2_zero, o2_assoc]
  congr 3
  have e : ∀ g i g' i' : Int, cmpS (g, i) (g', i') = o2 (cmp2 g g') (cmp2 i i') := fun g i g' i' => by simp only [cmpS, orL_cons, orL_nil, o2_zero]
  have eA : ∀ r, o2 (cmpS (x.g0, x.i0) (y.g0, y.i0)) r = o2 (cmp2 x.g0 y.g0) (o2 (cmp2 x.i0 y.i0) r) := fun r => by rw [e, o2_assoc]
  have eB : ∀ r, o2 (cmpS (x.g1, x.i1) (y.g1, y.i1)) r = o2 (cmp2 x.g1 y.g1) (o2 (cmp2 x.i1 y.i1) r) := fun r => by rw [e, o2_assoc]
  rw [eA, eB, e x.g2]
  generalize o2 (cmp2 x.g0 y.g0) (o2 (cmp2 x.i0 y.i0) (o2 (cmp2 x.g1 y.g1) (o2 (cmp2 x.i1 y.i1) (o2 (cmp2 x.g2 y.g2) (cmp2 x.i2 y.i2))))) = A
  refine step_e hx.i0 hy.i0 ⟨hx.g0.1, hy.g0.1⟩ (fun h => if_neg (by omega)) ?_
  refine step_e hx.i1 hy.i1 ⟨hx.g1.1, hy.g1.1⟩ (fun h => if_neg (by omega)) ?_
  have e2 : (if 2 < x.d ∧ 2 < y.d then cmpS (x.g2, x.i2) (y.g2, y.i2) else 0) = (if 2 < x.d ∧ 2 < y.d then (if cmpS (x.g2, x.i2) (y.g2, y.i2) ≠ 0 then cmpS (x.g2, x.i2) (y.g2, y.i2) else 0) else 0) := by
    split
    · by_cases h : cmpS (x.g2, x.i2) (y.g2, y.i2) = 0 <;> simp [h]
    · rfl
  rw [← e x.g2 x.i2 y.g2 y.i2, e2]
  refine step_e hx.i2 hy.i2 ⟨hx.g2.1, hy.g2.1⟩ (fun h => rfl) ?_
  rw [zero_o2]
theorem cmp_num (x y : I) (hx : x.In) (hy : y.In) : x.cmp y = cmp2 x.num y.num := by
  rw [cmp_dig x y hx hy, I.num, I.num, pk_cmp hx.dig hy.dig]
theorem pk_inj : ∀ {Bs xs ys : List Int}, InI Bs xs → InI Bs ys → pkI Bs xs = pkI Bs ys → xs = ys
  | [], [], [], _, _, _ => rfl
  | B :: Bs, x :: xs, y :: ys, hx, hy, h => by
    have hc := pk_cmp hx hy
    rw [h, cmp2_self] at hc
    simp only [List.zipWith, orL] at hc
    by_cases hxy : x = y
    · subst hxy
      rw [pk_inj hx.2 hy.2 (by simp only [pkI] at h; omega)]
    · have : cmp2 x y ≠ 0 := fun e => hxy ((cmp2_zero _ _).1 e)
      rw [if_pos this] at hc
      exact absurd hc.symm this
  | [], [], _ :: _, _, h, _ => by cases h
  | [], _ :: _, _, h, _, _ => by cases h
  | _ :: _, [], _, h, _, _ => by cases h
  | _ :: _, _ :: _, [], _, h, _ => by cases h
theorem num_inj {x y : I} (hx : x.In) (hy : y.In) (h : x.num = y.num) : x = y := by
  have := pk_inj hx.dig hy.dig h
  simp only [I.dig, List.cons.injEq] at this
  obtain ⟨h1, h2, h3, _, _, _, h4, h5, h6, h7, h8, h9, h10, _⟩ := this
  exact I.ext' ⟨h1, h2, h3, h4, h5, h6, h7, h8, h9, h10⟩
end Go.Proofs
