import Derived.Test.YtdmiblfckigjoaaDoorU05a
import Derived.Test.YtdmiblfckigjoaaDoorV05b
set_option linter.unusedVariables false
set_option linter.unusedSimpArgs false
set_option maxRecDepth 10000
namespace Go.Proofs
open Go X RowKit
/-! ### which parts, and which continuations may be -/
theorem toL_data (s : ByteArray) : s.toList = s.data.toList := toBA_list s.data.toList
theorem emp_eq (s : ByteArray) : (s.toList == (ByteArray.mk #[]).toList) = decide (s.size = 0) := by
  rw [toL_data, toL_data, Bool.eq_iff_iff]
  simp only [beq_iff_eq, decide_eq_true_eq]
  show s.data.toList = [] ↔ s.data.size = 0
  rw [← Array.length_toList]
  exact List.length_eq_zero_iff.symm
def Pt.fits (p : Pt) : Bool :=
  if p.k = 1 then decide (((p.val.size : Nat) : Int) ≤ 64) && (p.n == 0)
  else if p.k = 2 ∨ p.k = 3 then decide (p.val.size = 0) && decide (p.n ≥ 0)
  else if p.k = 0 ∨ p.k = 4 then decide (p.val.size = 0) && (p.n == 0) else false
def Pt.right (p : Pt) : Bool := ((decide (p.g < 4) && !decide (p.key.size = 0)) && decide (((p.key.size : Nat) : Int) ≤ 16)) && p.fits
theorem c_fits (p : Pt) : Gives Tryd.prog 69 #[.agg p.row.toArray] (.bool p.fits) := by
  intro w
  refine x_part_Part_fits _ _ _ _ _ w _ ?_
  have key : ∀ b, b = p.fits → ∀ w1 : World, Hid [] w w1 → (Ending.returned (.bool b) = Ending.returned (.bool p.fits) ∧ Bel w.heap.size w w1) := fun b hb w1 h1 => ⟨by rw [hb], hid_below h1 (by simp) (Nat.le_refl _)⟩
  simp only [emp_eq]
  (repeat' split) <;> (refine key _ ?_; simp_all [Pt.fits])
theorem c_PRight (p : Pt) : Gives Tryd.prog 64 #[.agg p.row.toArray] (.bool p.right) := by
  intro w
  refine x_part_Part_Right _ _ _ _ _ w _ ?_
  rw [emp_eq]
  by_cases h : ((decide (p.g < 4) && !decide (p.key.size = 0)) && decide (((p.key.size : Nat) : Int) ≤ 16)) = true
  · rw [if_pos (by rw [h]; rfl)]
    intro w2 L3 h2 g2
    have A := at_start h2 g2
    refine (c_fits p).call fun w5 b5 => ⟨_, rfl, at_kept A b5, by rw [Pt.right, h], (at_call A (Nat.le_refl _) b5).bel⟩
  · rw [if_neg (by simpa using h)]
    intro w1 h1
    refine ⟨by rw [Pt.right, Bool.eq_false_iff.2 h]; rfl, hid_below h1 (by simp) (Nat.le_refl _)⟩
theorem c_notRight (p : Pt) : Gives Tryd.prog 63 #[.agg p.row.toArray] (.bool (!p.right)) := by
  intro w
  refine x_part_Right_1 _ _ _ _ _ w _ fun w1 L2 h1 g1 => ?_
  have A := at_start h1 g1
  exact (c_PRight p).call fun w5 b5 => ⟨_, rfl, at_kept A b5, rfl, (at_call A (Nat.le_refl _) b5).bel⟩
def rightL (l : List Pt) : Bool := (decide (1 ≤ l.length) && decide (l.length ≤ 4)) && l.all Pt.right
theorem c_IndexF (q : Sl) (l : List Pt) (hl : l.length * 48 ≤ 140737488355328) : Ctr Tryd.prog 68 #[slV q l.length, .func (.func 63) #[] #[]] (fun m => MSrc m 5 (slV q l.length) l.length (l.flatMap Pt.row)) [] (fun i : Int => .int .i64 i) (fun i m => decide (i ≥ 0) = !(l.all Pt.right)) (fun _ => []) := by
  refine Ctr.mk fun w F m C hp => x_IndexF _ _ _ w _ ?_
  refine ⟨fun i w' _ => ∃ j : Nat, i = j ∧ j ≤ l.length ∧ (l.take j).all Pt.right = true ∧ Ctx F m w w' [] m [], fun i _ => (l.length - i).toNat, ⟨0, rfl, by omega, rfl, C⟩, ?_⟩
  clear C
  rintro i w4 L5 _ ⟨j, rfl, hj, hjt, D⟩
  by_cases hjl : j < l.length
  · rw [if_pos (by simpa using hjl)]
    obtain ⟨a, ha, hc⟩ := hp.elem pt_len hjl
    have ha : q.1 = some a := ha
    refine ⟨by omega, by simpa using hjl, ?_⟩
    rw [ha, onSome_some]
    refine ⟨_, _, _, _, _, D.cells hc, ?_⟩
    refine D.gives (c_notRight l[j]) fun w13 k13 D => ⟨_, rfl, k13.size, ?_⟩
    by_cases hr : l[j].right = true
    · rw [if_neg (by simp [hr])]
      have e : IntKind.wrap .i64 ((j : Int) + 1) = ((j + 1 : Nat) : Int) := by rw [w_i64 (by omega) (by omega)]; omega
      rw [e]
      refine ⟨⟨j + 1, rfl, hjl, ?_, D⟩, Nat.le_of_eq (by show ((l.length : Int) - ((j + 1 : Nat) : Int)).toNat + 1 = ((l.length : Int) - (j : Int)).toNat; omega)⟩
      rw [List.take_succ_eq_append_getElem hjl, List.all_append, hjt]; simp [hr]
    · rw [if_pos (by simp [hr])]
      refine Ctr.ret (j : Int) rfl ?_ D
      have : l.all Pt.right = false := by rw [Bool.eq_false_iff]; intro h; exact hr (List.all_eq_true.1 h _ (List.getElem_mem hjl))
      rw [this]; simp
  · rw [if_neg (by simpa using hjl)]
    have hj2 : j = l.length := by omega
    rw [hj2, List.take_length] at hjt
    exact Ctr.ret (-1) rfl (by rw [hjt]; rfl) D
theorem c_partRight (q : Sl) (l : List Pt) (hl : l.length * 48 ≤ 140737488355328) : Ctr Tryd.prog 56 #[slV q l.length] (fun m => MSrc m 5 (slV q l.length) l.length (l.flatMap Pt.row)) [] (fun _ : Unit => .bool (rightL l)) (fun _ m => True) (fun _ => []) := by
  refine Ctr.mk fun w F m C hp => x_part_Right _ _ _ w _ ?_
  by_cases h : (decide (((l.length : Nat) : Int) < 1) || decide (((l.length : Nat) : Int) > 4)) = true
  · rw [if_pos h]
    refine Ctr.ret () ?_ trivial C
    have : rightL l = false := by
      simp only [Bool.or_eq_true, decide_eq_true_eq] at h
      rw [rightL, Bool.eq_false_iff]; intro hh
      simp only [Bool.and_eq_true, decide_eq_true_eq] at hh
      omega
    rw [this]
  · rw [if_neg h]
    refine ⟨x_ContainsF _ _ _ w _ ?_⟩
    refine (c_IndexF q l hl).call (As := []) C hp fun i m2 w4 hk hm hi C => ⟨i, rfl, hk.size, ?_⟩
    refine ⟨_, rfl, hk.size, Ctr.ret () ?_ trivial C⟩
    rw [hi, Bool.not_not, rightL]
    have : (decide (1 ≤ l.length) && decide (l.length ≤ 4)) = true := by
      simp only [Bool.or_eq_true, decide_eq_true_eq, not_or] at h
      simp; omega
    rw [this, Bool.true_and]
theorem fits_bool (p : Pt) (hk : 0 ≤ p.k) : (((((((decide (p.g < 4) && decide (p.k ≤ 4)) && decide ((((p.key.size) : Nat) : Int) ≥ 1)) && decide ((((p.key.size) : Nat) : Int) ≤ 16)) && decide ((((p.val.size) : Nat) : Int) ≤ 64)) && ((p.k == 1) || decide (p.val.size = 0))) && decide (p.n ≥ 0)) && (((p.k == 2) || (p.k == 3)) || (p.n == 0))) = p.right := by
  rw [Bool.eq_iff_iff]
  simp only [Pt.right, Pt.fits, Bool.and_eq_true, Bool.or_eq_true, decide_eq_true_eq, beq_iff_eq, Bool.not_eq_true', decide_eq_false_iff_not]
  by_cases h1 : p.k = 1
  · rw [if_pos h1]; simp only [Bool.and_eq_true, decide_eq_true_eq, beq_iff_eq]; omega
  rw [if_neg h1]
  by_cases h2 : p.k = 2 ∨ p.k = 3
  · rw [if_pos h2]; simp only [Bool.and_eq_true, decide_eq_true_eq, beq_iff_eq]; omega
  rw [if_neg h2]
  by_cases h3 : p.k = 0 ∨ p.k = 4
  · rw [if_pos h3]; simp only [Bool.and_eq_true, decide_eq_true_eq, beq_iff_eq]; omega
  rw [if_neg h3]
  simp only [Bool.false_eq_true, and_false, iff_false]; omega
theorem c_r3Right (p : Pt) (hk : 0 ≤ p.k) : Gives Tryd.prog 65 #[.agg p.row.toArray] (.bool p.right) := by
  intro w
  refine x_r3Right _ _ _ _ _ w _ fun w1 h1 => ⟨?_, hid_below h1 (by simp) (Nat.le_refl _)⟩
  rw [emp_eq, fits_bool p hk]
theorem c_r3RightAll (q : Sl) (l : List Pt) (hl : l.length * 48 ≤ 140737488355328) (hk : ∀ p ∈ l, 0 ≤ p.k) : Ctr Tryd.prog 57 #[slV q l.length] (fun m => MSrc m 5 (slV q l.length) l.length (l.flatMap Pt.row)) [] (fun _ : Unit => .bool (rightL l)) (fun _ m => True) (fun _ => []) := by
  refine Ctr.mk fun w F m C hp => x_r3RightAll _ _ _ w _ ?_
  refine ⟨fun i w' _ => ∃ j : Nat, i = j ∧ j ≤ l.length ∧ (l.take j).all Pt.right = true ∧ Ctx F m w w' [] m [], fun i _ => (l.length - i).toNat, ⟨0, rfl, by omega, rfl, C⟩, ?_⟩
  clear C
  rintro i w4 L5 _ ⟨j, rfl, hj, hjt, D⟩
  by_cases hjl : j < l.length ∧ j < 10
  · rw [if_pos (by simp; omega)]
    obtain ⟨hjl, h10⟩ := hjl
    obtain ⟨a, ha, hc⟩ := hp.elem pt_len hjl
    have ha : q.1 = some a := ha
    refine ⟨by omega, by simpa using hjl, ?_⟩
    rw [ha, onSome_some]
    refine ⟨_, _, _, _, _, D.cells hc, ?_⟩
    refine D.gives (c_r3Right l[j] (hk _ (List.getElem_mem hjl))) fun w13 k13 D => ⟨_, rfl, k13.size, ?_⟩
    by_cases hr : l[j].right = true
    · rw [if_neg (by simp [hr])]
      have e : IntKind.wrap .i64 ((j : Int) + 1) = ((j + 1 : Nat) : Int) := by rw [w_i64 (by omega) (by omega)]; omega
      rw [e]
      refine ⟨⟨j + 1, rfl, hjl, ?_, D⟩, Nat.le_of_eq (by show ((l.length : Int) - ((j + 1 : Nat) : Int)).toNat + 1 = ((l.length : Int) - (j : Int)).toNat; omega)⟩
      rw [List.take_succ_eq_append_getElem hjl, List.all_append, hjt]; simp [hr]
    · rw [if_pos (by simp [hr])]
      refine Ctr.ret () ?_ trivial D
      have : l.all Pt.right = false := by rw [Bool.eq_false_iff]; intro h; exact hr (List.all_eq_true.1 h _ (List.getElem_mem hjl))
      rw [rightL, this, Bool.and_false]
  · rw [if_neg (by simp; omega)]
    refine Ctr.ret () ?_ trivial D
    by_cases hj2 : j = l.length
    · rw [hj2, List.take_length] at hjt
      rw [rightL, hjt, Bool.and_true]
      congr 2
      rw [Bool.eq_iff_iff]; simp; omega
    · have h2 : ¬ l.length ≤ 4 := by omega
      rw [rightL]
      have h3 : ¬ ((l.length : Nat) : Int) ≤ 4 := by omega
      simp [h2, h3]
def rightP (n l : Int) : Bool := decide (n < 16) && decide (l ≥ 1)
def stepIn (j d g i : Int) : Bool := (decide (j < d) && decide (g < 4)) || (decide (j ≥ d) && (decide (g = 0) && decide (i = 0)))
def I.right (x : I) : Bool := rightP x.n x.l && decide (1 ≤ x.s) && decide (x.s ≤ 1048576) && decide (x.d ≤ 3) && stepIn 0 x.d x.g0 x.i0 && stepIn 1 x.d x.g1 x.i1 && stepIn 2 x.d x.g2 x.i2

theorem c_Proc_Right (n l : Int) : Gives Tryd.prog 31 #[PV n l] (.bool (rightP n l)) := by
  intro w
  refine x_ProcRight n l w _ fun w1 h1 => ⟨?_, hid_below h1 (by simp) (Nat.le_refl _)⟩
  have : (l > 0) ↔ (l ≥ 1) := by omega
  simp only [rightP, this]
theorem c_ref_RightProc (n l : Int) : Gives Tryd.prog 36 #[PV n l] (.bool (rightP n l)) := by
  intro w
  exact x_rRightProc n l w _ fun w1 h1 => ⟨rfl, hid_below h1 (by simp) (Nat.le_refl _)⟩
theorem not_step {j d g i : Int} : ((decide (j < d) && decide (g ≥ 4)) || ((!decide (j < d)) && (!((g == 0) && (i == 0))))) = !stepIn j d g i := by
  unfold stepIn
  by_cases h : j < d
  · have h' : ¬ j ≥ d := by omega
    simp only [h, h', decide_true, decide_false, Bool.true_and, Bool.not_true, Bool.false_and, Bool.or_false]
    by_cases hg : g < 4
    · have : ¬ g ≥ 4 := by omega
      simp [hg, this]
    · have : g ≥ 4 := by omega
      simp [hg, this]
  · have h' : j ≥ d := by omega
    simp only [h, h', decide_true, decide_false, Bool.false_and, Bool.not_false, Bool.true_and, Bool.false_or]
    by_cases hg : g = 0 <;> by_cases hi : i = 0 <;> simp [hg, hi]
theorem not_step' {j d g i : Int} : ((decide (j < d) && decide (g ≥ 4)) || (decide (j ≥ d) && (!((g == 0) && (i == 0))))) = !stepIn j d g i := by
  rw [← not_step]
  have : decide (j ≥ d) = !decide (j < d) := by
    by_cases h : j < d
    · have h' : ¬ j ≥ d := by omega
      simp [h, h']
    · have h' : j ≥ d := by omega
      simp [h, h']
  rw [this]
theorem head1 (x : I) : ((((!(rightP x.n x.l)) || decide (x.s < 1)) || decide (x.s > 1048576)) || decide (x.d > 3)) = !(rightP x.n x.l && decide (1 ≤ x.s) && decide (x.s ≤ 1048576) && decide (x.d ≤ 3)) := by
  have h1 : decide (x.s < 1) = !decide (1 ≤ x.s) := by rw [← decide_not]; congr 1; exact propext (by omega)
  have h2 : decide (x.s > 1048576) = !decide (x.s ≤ 1048576) := by rw [← decide_not]; congr 1; exact propext (by omega)
  have h3 : decide (x.d > 3) = !decide (x.d ≤ 3) := by rw [← decide_not]; congr 1; exact propext (by omega)
  rw [h1, h2, h3]; simp [Bool.not_and]
theorem c_Right (x : I) (hx : x.In) : Gives Tryd.prog 29 #[x.V] (.bool x.right) := by
  intro w
  refine x_IDRight _ _ _ _ _ _ _ _ _ _ w _ fun w1 L h1 h2 => ?_
  have A := at_start h1 h2
  refine (c_Proc_Right x.n x.l).call fun w4 h4 => ⟨_, rfl, at_kept A h4, ?_⟩
  have A4 := at_call A (Nat.le_refl _) h4
  have hw : IntKind.i64.wrap x.d = x.d := w_i64 (by have := hx.d; omega) (by have := hx.d; omega)
  have hs : (x.s == 0) = decide (x.s < 1) := by
    have := hx.s
    rw [show (x.s == 0) = decide (x.s = 0) from rfl]; congr 1; exact propext (by omega)
  rw [hw, hs, head1, not_step, not_step, not_step]
  unfold I.right
  generalize (rightP x.n x.l && decide (1 ≤ x.s) && decide (x.s ≤ 1048576) && decide (x.d ≤ 3)) = b0
  generalize stepIn 0 x.d x.g0 x.i0 = b1
  generalize stepIn 1 x.d x.g1 x.i1 = b2
  generalize stepIn 2 x.d x.g2 x.i2 = b3
  cases b0
  · exact ⟨rfl, A4.bel⟩
  cases b1
  · exact fun w9 h9 => ⟨rfl, at_end A4 (Nat.le_refl _) h9⟩
  cases b2
  · exact fun w9 h9 => ⟨rfl, at_end A4 (Nat.le_refl _) h9⟩
  cases b3
  · exact fun w9 h9 => ⟨rfl, at_end A4 (Nat.le_refl _) h9⟩
  · exact fun w9 h9 => ⟨rfl, at_end A4 (Nat.le_refl _) h9⟩
theorem c_ref_Right (x : I) (hx : x.In) : Gives Tryd.prog 34 #[x.V] (.bool x.right) := by
  intro w
  refine x_r2Right _ _ _ _ _ _ _ _ _ _ w _ fun w1 L h1 h2 => ?_
  have A := at_start h1 h2
  refine (c_ref_RightProc x.n x.l).call fun w4 h4 => ⟨_, rfl, at_kept A h4, ?_⟩
  have A4 := at_call A (Nat.le_refl _) h4
  have hw : IntKind.i64.wrap x.d = x.d := w_i64 (by have := hx.d; omega) (by have := hx.d; omega)
  rw [hw, head1, not_step', not_step', not_step']
  unfold I.right
  generalize (rightP x.n x.l && decide (1 ≤ x.s) && decide (x.s ≤ 1048576) && decide (x.d ≤ 3)) = b0
  generalize stepIn 0 x.d x.g0 x.i0 = b1
  generalize stepIn 1 x.d x.g1 x.i1 = b2
  generalize stepIn 2 x.d x.g2 x.i2 = b3
  cases b0
  · exact ⟨rfl, A4.bel⟩
  cases b1
  · exact ⟨rfl, A4.bel⟩
  cases b2
  · exact ⟨rfl, A4.bel⟩
  cases b3
  · exact ⟨rfl, A4.bel⟩
  · exact ⟨rfl, A4.bel⟩

end Go.Proofs
