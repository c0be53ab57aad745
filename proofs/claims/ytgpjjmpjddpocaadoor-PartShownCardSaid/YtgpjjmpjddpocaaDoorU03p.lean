import Derived.Test.YtgpjjmpjddpocaaDoorV03a
import Derived.Test.YtgpjjmpjddpocaaDoorXSub
import Derived.Test.YtgpjjmpjddpocaaDoorXElems
import Derived.Test.YtgpjjmpjddpocaaDoorXStr
import Derived.Test.YtgpjjmpjddpocaaDoorXList
import Derived.Test.YtgpjjmpjddpocaaDoorXPm
set_option linter.unusedVariables false
set_option linter.unusedSimpArgs false
set_option maxRecDepth 10000
namespace Go.Proofs
open Go X RowKit
abbrev Sl := Option Addr × Nat
abbrev slV (p : Sl) (n : Nat) : Value := .slice p.1 n p.2
structure Pt where (g : Int) (k : Int) (key : ByteArray) (val : ByteArray) (n : Int)
@[reducible] def Pt.row (p : Pt) : List Value := [.int .u8 p.g, .int .u8 p.k, .string p.key, .string p.val, .int .i64 p.n]
theorem pt_len (p : Pt) : p.row.length = 5 := rfl
theorem pt_one (x : Pt) : ∀ u ∈ x.row, oneC u = true := by intro u h; simp [Pt.row] at h; rcases h with rfl | rfl | rfl | rfl | rfl <;> rfl
theorem pt_ext {a b : Pt} (h : a.g = b.g ∧ a.k = b.k ∧ a.key = b.key ∧ a.val = b.val ∧ a.n = b.n) : a = b := by cases a; cases b; simp_all
instance : DecidableEq Pt := fun a b => decidable_of_iff (a.g = b.g ∧ a.k = b.k ∧ a.key = b.key ∧ a.val = b.val ∧ a.n = b.n) ⟨pt_ext, fun h => by subst h; exact ⟨rfl, rfl, rfl, rfl, rfl⟩⟩
/-! ### which parts, and which continuations may be -/
theorem toL_data (s : ByteArray) : s.toList = s.data.toList := toBA_list s.data.toList
theorem emp_eq (s : ByteArray) : (s.toList == (ByteArray.mk #[]).toList) = decide (s.size = 0) := by
  rw [toL_data, toL_data, Bool.eq_iff_iff]
  simp only [beq_iff_eq, decide_eq_true_eq]
  show s.data.toList = [] ↔ s.data.size = 0
  rw [← Array.length_toList]
  exact List.length_eq_zero_iff.symm
def Pt.fits (p : Pt) : Bool :=
  if p.k = 1 then decide (((p.val.size : Nat) : Int) ≤ 64) && (p.n == 0)
  else if p.k = 2 ∨ p.k = 3 then decide (p.val.size = 0) && decide (p.n ≥ 0)
  else if p.k = 0 ∨ p.k = 4 then decide (p.val.size = 0) && (p.n == 0) else false
def Pt.right (p : Pt) : Bool := ((decide (p.g < 4) && !decide (p.key.size = 0)) && decide (((p.key.size : Nat) : Int) ≤ 16)) && p.fits
theorem c_fits (p : Pt) : Gives Tryd.prog 25 #[.agg p.row.toArray] (.bool p.fits) := by
  intro w
  refine x_part_Part_fits _ _ _ _ _ w _ ?_
  have key : ∀ b, b = p.fits → ∀ w1 : World, Hid [] w w1 → (Ending.returned (.bool b) = Ending.returned (.bool p.fits) ∧ Bel w.heap.size w w1) := fun b hb w1 h1 => ⟨by rw [hb], hid_below h1 (by simp) (Nat.le_refl _)⟩
  simp only [emp_eq]
  (repeat' split) <;> (refine key _ ?_; simp_all [Pt.fits])
theorem c_PRight (p : Pt) : Gives Tryd.prog 7 #[.agg p.row.toArray] (.bool p.right) := by
  intro w
  refine x_part_Part_Right _ _ _ _ _ w _ ?_
  rw [emp_eq]
  by_cases h : ((decide (p.g < 4) && !decide (p.key.size = 0)) && decide (((p.key.size : Nat) : Int) ≤ 16)) = true
  · rw [if_pos (by rw [h]; rfl)]
    intro w2 L3 h2 g2
    have A := at_start h2 g2
    refine (c_fits p).call fun w5 b5 => ⟨_, rfl, at_kept A b5, by rw [Pt.right, h], (at_call A (Nat.le_refl _) b5).bel⟩
  · rw [if_neg (by simpa using h)]
    intro w1 h1
    refine ⟨by rw [Pt.right, Bool.eq_false_iff.2 h]; rfl, hid_below h1 (by simp) (Nat.le_refl _)⟩
theorem c_notRight (p : Pt) : Gives Tryd.prog 29 #[.agg p.row.toArray] (.bool (!p.right)) := by
  intro w
  refine x_part_Right_1 _ _ _ _ _ w _ fun w1 L2 h1 g1 => ?_
  have A := at_start h1 g1
  exact (c_PRight p).call fun w5 b5 => ⟨_, rfl, at_kept A b5, rfl, (at_call A (Nat.le_refl _) b5).bel⟩
def rightL (l : List Pt) : Bool := (decide (1 ≤ l.length) && decide (l.length ≤ 4)) && l.all Pt.right
theorem c_IndexF (q : Sl) (l : List Pt) (hl : l.length * 48 ≤ 140737488355328) : Ctr Tryd.prog 34 #[slV q l.length, .func (.func 29) #[] #[]] (fun m => MSrc m 5 (slV q l.length) l.length (l.flatMap Pt.row)) [] (fun i : Int => .int .i64 i) (fun i m => decide (i ≥ 0) = !(l.all Pt.right)) (fun _ => []) := by
  refine Ctr.mk fun w F m C hp => x_IndexF _ _ _ w _ ?_
  refine ⟨fun i w' _ => ∃ j : Nat, i = j ∧ j ≤ l.length ∧ (l.take j).all Pt.right = true ∧ Ctx F m w w' [] m [], fun i _ => (l.length - i).toNat, ⟨0, rfl, by omega, rfl, C⟩, ?_⟩
  clear C
  rintro i w4 L5 _ ⟨j, rfl, hj, hjt, D⟩
  by_cases hjl : j < l.length
  · rw [if_pos (by simpa using hjl)]
    obtain ⟨a, ha, hc⟩ := hp.elem pt_len hjl
    have ha : q.1 = some a := ha
    refine ⟨by omega, by simpa using hjl, ?_⟩
    rw [ha, onSome_some]
    refine ⟨_, _, _, _, _, D.cells hc, ?_⟩
    refine D.gives (c_notRight l[j]) fun w13 k13 D => ⟨_, rfl, k13.size, ?_⟩
    by_cases hr : l[j].right = true
    · rw [if_neg (by simp [hr])]
      have e : IntKind.wrap .i64 ((j : Int) + 1) = ((j + 1 : Nat) : Int) := by rw [w_i64 (by omega) (by omega)]; omega
      rw [e]
      refine ⟨⟨j + 1, rfl, hjl, ?_, D⟩, Nat.le_of_eq (by show ((l.length : Int) - ((j + 1 : Nat) : Int)).toNat + 1 = ((l.length : Int) - (j : Int)).toNat; omega)⟩
      rw [List.take_succ_eq_append_getElem hjl, List.all_append, hjt]; simp [hr]
    · rw [if_pos (by simp [hr])]
      refine Ctr.ret (j : Int) rfl ?_ D
      have : l.all Pt.right = false := by rw [Bool.eq_false_iff]; intro h; exact hr (List.all_eq_true.1 h _ (List.getElem_mem hjl))
      rw [this]; simp
  · rw [if_neg (by simpa using hjl)]
    have hj2 : j = l.length := by omega
    rw [hj2, List.take_length] at hjt
    exact Ctr.ret (-1) rfl (by rw [hjt]; rfl) D
theorem c_partRight (q : Sl) (l : List Pt) (hl : l.length * 48 ≤ 140737488355328) : Ctr Tryd.prog 13 #[slV q l.length] (fun m => MSrc m 5 (slV q l.length) l.length (l.flatMap Pt.row)) [] (fun _ : Unit => .bool (rightL l)) (fun _ m => True) (fun _ => []) := by
  refine Ctr.mk fun w F m C hp => x_part_Right _ _ _ w _ ?_
  by_cases h : (decide (((l.length : Nat) : Int) < 1) || decide (((l.length : Nat) : Int) > 4)) = true
  · rw [if_pos h]
    refine Ctr.ret () ?_ trivial C
    have : rightL l = false := by
      simp only [Bool.or_eq_true, decide_eq_true_eq] at h
      rw [rightL, Bool.eq_false_iff]; intro hh
      simp only [Bool.and_eq_true, decide_eq_true_eq] at hh
      omega
    rw [this]
  · rw [if_neg h]
    refine ⟨x_ContainsF _ _ _ w _ ?_⟩
    refine (c_IndexF q l hl).call (As := []) C hp fun i m2 w4 hk hm hi C => ⟨i, rfl, hk.size, ?_⟩
    refine ⟨_, rfl, hk.size, Ctr.ret () ?_ trivial C⟩
    rw [hi, Bool.not_not, rightL]
    have : (decide (1 ≤ l.length) && decide (l.length ≤ 4)) = true := by
      simp only [Bool.or_eq_true, decide_eq_true_eq, not_or] at h
      simp; omega
    rw [this, Bool.true_and]
end Go.Proofs
