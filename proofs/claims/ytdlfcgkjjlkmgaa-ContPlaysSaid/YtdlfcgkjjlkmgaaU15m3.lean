import Derived.Test.YtdlfcgkjjlkmgaaV15m1
import Derived.Test.YtdlfcgkjjlkmgaaXSub
import Derived.Test.YtdlfcgkjjlkmgaaXElems
import Derived.Test.YtdlfcgkjjlkmgaaXStr
import Derived.Test.YtdlfcgkjjlkmgaaXList
import Derived.Test.YtdlfcgkjjlkmgaaXPm
import Derived.Test.YtdlfcgkjjlkmgaaV15m2
set_option linter.unusedVariables false
set_option linter.unusedSimpArgs false
set_option maxRecDepth 10000
namespace Go.Proofs
open Go X RowKit
abbrev Sl := Option Addr × Nat
abbrev slV (p : Sl) (n : Nat) : Value := .slice p.1 n p.2
structure Pt where (g : Int) (k : Int) (key : ByteArray) (val : ByteArray) (n : Int)
@[reducible] def Pt.row (p : Pt) : List Value := [.int .u8 p.g, .int .u8 p.k, .string p.key, .string p.val, .int .i64 p.n]
theorem pt_len (p : Pt) : p.row.length = 5 := rfl
theorem pt_one (x : Pt) : ∀ u ∈ x.row, oneC u = true := by intro u h; simp [Pt.row] at h; rcases h with rfl | rfl | rfl | rfl | rfl <;> rfl
theorem pt_ext {a b : Pt} (h : a.g = b.g ∧ a.k = b.k ∧ a.key = b.key ∧ a.val = b.val ∧ a.n = b.n) : a = b := by cases a; cases b; simp_all
instance : DecidableEq Pt := fun a b => decidable_of_iff (a.g = b.g ∧ a.k = b.k ∧ a.key = b.key ∧ a.val = b.val ∧ a.n = b.n) ⟨pt_ext, fun h => by subst h; exact ⟨rfl, rfl, rfl, rfl, rfl⟩⟩
theorem c_ClonePs (q : Sl) (l : List Pt) (hl : l.length * 48 ≤ 140737488355328) : Ctr Try.prog 53 #[slV q l.length] (fun m => MSrc m 5 (slV q l.length) l.length (l.flatMap Pt.row)) [] (fun p : Sl => slV p l.length) (fun p m => MSrc m 5 (slV p l.length) l.length (l.flatMap Pt.row)) (fun _ => []) := by
  obtain ⟨q1, q2⟩ := q
  refine Ctr.mk fun w F m C hp => x_ClonePs q1 _ q2 w _ ?_
  cases q1 with
  | none =>
    rw [if_pos (show (none : Option Addr).isNone = true from rfl)]
    obtain ⟨h0, h1⟩ := hp.none_len
    rw [h0, h1]
    exact Ctr.ret (none, 0) rfl (.nil ..) C
  | some a =>
    rw [if_neg (by simp)]
    have C1 : Ctx F m w _ [] m [slA (.slice (some ⟨w.heap.size, 0, none⟩) 0 0) 0 [] 57 5] := (C.newDrop [] 57).slNil
    obtain ⟨q1, c1, w4, hr, hk, C2⟩ := C1.app2 (P := Try.prog) (bytes := 48) (t := 58) (t2 := 58) 58 (by kernel_rfl) (C1.src hp) (by unfold maxLen; omega) (by omega) (flat_one pt_one l)
    rw [List.nil_append, Nat.zero_add] at C2
    rw [Nat.zero_add] at hr
    refine ⟨q1, l.length, c1, w4, hr, hk.size, ?_⟩
    obtain ⟨m', hm, hs, C3⟩ := C2.slShare
    exact Ctr.ret (m' := m') (L := []) (q1, c1) rfl hs C3

/-! ### which parts, and which continuations may be -/
theorem toL_data (s : ByteArray) : s.toList = s.data.toList := toBA_list s.data.toList
theorem emp_eq (s : ByteArray) : (s.toList == (ByteArray.mk #[]).toList) = decide (s.size = 0) := by
  rw [toL_data, toL_data, Bool.eq_iff_iff]
  simp only [beq_iff_eq, decide_eq_true_eq]
  show s.data.toList = [] ↔ s.data.size = 0
  rw [← Array.length_toList]
  exact List.length_eq_zero_iff.symm
def Pt.fits (p : Pt) : Bool :=
  if p.k = 1 then decide (((p.val.size : Nat) : Int) ≤ 64) && (p.n == 0)
  else if p.k = 2 ∨ p.k = 3 then decide (p.val.size = 0) && decide (p.n ≥ 0)
  else if p.k = 0 ∨ p.k = 4 then decide (p.val.size = 0) && (p.n == 0) else false
def Pt.right (p : Pt) : Bool := ((decide (p.g < 4) && !decide (p.key.size = 0)) && decide (((p.key.size : Nat) : Int) ≤ 16)) && p.fits
theorem c_fits (p : Pt) : Gives Try.prog 63 #[.agg p.row.toArray] (.bool p.fits) := by
  intro w
  refine x_part_Part_fits _ _ _ _ _ w _ ?_
  have key : ∀ b, b = p.fits → ∀ w1 : World, Hid [] w w1 → (Ending.returned (.bool b) = Ending.returned (.bool p.fits) ∧ Bel w.heap.size w w1) := fun b hb w1 h1 => ⟨by rw [hb], hid_below h1 (by simp) (Nat.le_refl _)⟩
  simp only [emp_eq]
  (repeat' split) <;> (refine key _ ?_; simp_all [Pt.fits])
theorem c_PRight (p : Pt) : Gives Try.prog 51 #[.agg p.row.toArray] (.bool p.right) := by
  intro w
  refine x_part_Part_Right _ _ _ _ _ w _ ?_
  rw [emp_eq]
  by_cases h : ((decide (p.g < 4) && !decide (p.key.size = 0)) && decide (((p.key.size : Nat) : Int) ≤ 16)) = true
  · rw [if_pos (by rw [h]; rfl)]
    intro w2 L3 h2 g2
    have A := at_start h2 g2
    refine (c_fits p).call fun w5 b5 => ⟨_, rfl, at_kept A b5, by rw [Pt.right, h], (at_call A (Nat.le_refl _) b5).bel⟩
  · rw [if_neg (by simpa using h)]
    intro w1 h1
    refine ⟨by rw [Pt.right, Bool.eq_false_iff.2 h]; rfl, hid_below h1 (by simp) (Nat.le_refl _)⟩
theorem c_notRight (p : Pt) : Gives Try.prog 65 #[.agg p.row.toArray] (.bool (!p.right)) := by
  intro w
  refine x_part_Right_1 _ _ _ _ _ w _ fun w1 L2 h1 g1 => ?_
  have A := at_start h1 g1
  exact (c_PRight p).call fun w5 b5 => ⟨_, rfl, at_kept A b5, rfl, (at_call A (Nat.le_refl _) b5).bel⟩
def rightL (l : List Pt) : Bool := (decide (1 ≤ l.length) && decide (l.length ≤ 4)) && l.all Pt.right
theorem c_IndexF (q : Sl) (l : List Pt) (hl : l.length * 48 ≤ 140737488355328) : Ctr Try.prog 76 #[slV q l.length, .func (.func 65) #[] #[]] (fun m => MSrc m 5 (slV q l.length) l.length (l.flatMap Pt.row)) [] (fun i : Int => .int .i64 i) (fun i m => decide (i ≥ 0) = !(l.all Pt.right)) (fun _ => []) := by
  refine Ctr.mk fun w F m C hp => x_IndexF _ _ _ w _ ?_
  refine ⟨fun i w' _ => ∃ j : Nat, i = j ∧ j ≤ l.length ∧ (l.take j).all Pt.right = true ∧ Ctx F m w w' [] m [], fun i _ => (l.length - i).toNat, ⟨0, rfl, by omega, rfl, C⟩, ?_⟩
  clear C
  rintro i w4 L5 _ ⟨j, rfl, hj, hjt, D⟩
  by_cases hjl : j < l.length
  · rw [if_pos (by simpa using hjl)]
    obtain ⟨a, ha, hc⟩ := hp.elem pt_len hjl
    have ha : q.1 = some a := ha
    refine ⟨by omega, by simpa using hjl, ?_⟩
    rw [ha, onSome_some]
    refine ⟨_, _, _, _, _, D.cells hc, ?_⟩
    refine D.gives (c_notRight l[j]) fun w13 k13 D => ⟨_, rfl, k13.size, ?_⟩
    by_cases hr : l[j].right = true
    · rw [if_neg (by simp [hr])]
      have e : IntKind.wrap .i64 ((j : Int) + 1) = ((j + 1 : Nat) : Int) := by rw [w_i64 (by omega) (by omega)]; omega
      rw [e]
      refine ⟨⟨j + 1, rfl, hjl, ?_, D⟩, Nat.le_of_eq (by show ((l.length : Int) - ((j + 1 : Nat) : Int)).toNat + 1 = ((l.length : Int) - (j : Int)).toNat; omega)⟩
      rw [List.take_succ_eq_append_getElem hjl, List.all_append, hjt]; simp [hr]
    · rw [if_pos (by simp [hr])]
      refine Ctr.ret (j : Int) rfl ?_ D
      have : l.all Pt.right = false := by rw [Bool.eq_false_iff]; intro h; exact hr (List.all_eq_true.1 h _ (List.getElem_mem hjl))
      rw [this]; simp
  · rw [if_neg (by simpa using hjl)]
    have hj2 : j = l.length := by omega
    rw [hj2, List.take_length] at hjt
    exact Ctr.ret (-1) rfl (by rw [hjt]; rfl) D
theorem c_partRight (q : Sl) (l : List Pt) (hl : l.length * 48 ≤ 140737488355328) : Ctr Try.prog 52 #[slV q l.length] (fun m => MSrc m 5 (slV q l.length) l.length (l.flatMap Pt.row)) [] (fun _ : Unit => .bool (rightL l)) (fun _ m => True) (fun _ => []) := by
  refine Ctr.mk fun w F m C hp => x_part_Right _ _ _ w _ ?_
  by_cases h : (decide (((l.length : Nat) : Int) < 1) || decide (((l.length : Nat) : Int) > 4)) = true
  · rw [if_pos h]
    refine Ctr.ret () ?_ trivial C
    have : rightL l = false := by
      simp only [Bool.or_eq_true, decide_eq_true_eq] at h
      rw [rightL, Bool.eq_false_iff]; intro hh
      simp only [Bool.and_eq_true, decide_eq_true_eq] at hh
      omega
    rw [this]
  · rw [if_neg h]
    refine ⟨x_ContainsF _ _ _ w _ ?_⟩
    refine (c_IndexF q l hl).call (As := []) C hp fun i m2 w4 hk hm hi C => ⟨i, rfl, hk.size, ?_⟩
    refine ⟨_, rfl, hk.size, Ctr.ret () ?_ trivial C⟩
    rw [hi, Bool.not_not, rightL]
    have : (decide (1 ≤ l.length) && decide (l.length ≤ 4)) = true := by
      simp only [Bool.or_eq_true, decide_eq_true_eq, not_or] at h
      simp; omega
    rw [this, Bool.true_and]
end Go.Proofs
namespace Go.Proofs
open Go X RowKit
/-! ### the document's parts -/
theorem fits_bool (p : Pt) (hk : 0 ≤ p.k) : (((((((decide (p.g < 4) && decide (p.k ≤ 4)) && decide ((((p.key.size) : Nat) : Int) ≥ 1)) && decide ((((p.key.size) : Nat) : Int) ≤ 16)) && decide ((((p.val.size) : Nat) : Int) ≤ 64)) && ((p.k == 1) || decide (p.val.size = 0))) && decide (p.n ≥ 0)) && (((p.k == 2) || (p.k == 3)) || (p.n == 0))) = p.right := by
  rw [Bool.eq_iff_iff]
  simp only [Pt.right, Pt.fits, Bool.and_eq_true, Bool.or_eq_true, decide_eq_true_eq, beq_iff_eq, Bool.not_eq_true', decide_eq_false_iff_not]
  by_cases h1 : p.k = 1
  · rw [if_pos h1]; simp only [Bool.and_eq_true, decide_eq_true_eq, beq_iff_eq]; omega
  rw [if_neg h1]
  by_cases h2 : p.k = 2 ∨ p.k = 3
  · rw [if_pos h2]; simp only [Bool.and_eq_true, decide_eq_true_eq, beq_iff_eq]; omega
  rw [if_neg h2]
  by_cases h3 : p.k = 0 ∨ p.k = 4
  · rw [if_pos h3]; simp only [Bool.and_eq_true, decide_eq_true_eq, beq_iff_eq]; omega
  rw [if_neg h3]
  simp only [Bool.false_eq_true, and_false, iff_false]; omega
theorem c_r3Right (p : Pt) (hk : 0 ≤ p.k) : Gives Try.prog 33 #[.agg p.row.toArray] (.bool p.right) := by
  intro w
  refine x_r3Right _ _ _ _ _ w _ fun w1 h1 => ⟨?_, hid_below h1 (by simp) (Nat.le_refl _)⟩
  rw [emp_eq, fits_bool p hk]
theorem c_r3RightAll (q : Sl) (l : List Pt) (hl : l.length * 48 ≤ 140737488355328) (hk : ∀ p ∈ l, 0 ≤ p.k) : Ctr Try.prog 34 #[slV q l.length] (fun m => MSrc m 5 (slV q l.length) l.length (l.flatMap Pt.row)) [] (fun _ : Unit => .bool (rightL l)) (fun _ m => True) (fun _ => []) := by
  refine Ctr.mk fun w F m C hp => x_r3RightAll _ _ _ w _ ?_
  refine ⟨fun i w' _ => ∃ j : Nat, i = j ∧ j ≤ l.length ∧ (l.take j).all Pt.right = true ∧ Ctx F m w w' [] m [], fun i _ => (l.length - i).toNat, ⟨0, rfl, by omega, rfl, C⟩, ?_⟩
  clear C
  rintro i w4 L5 _ ⟨j, rfl, hj, hjt, D⟩
  by_cases hjl : j < l.length ∧ j < 10
  · rw [if_pos (by simp; omega)]
    obtain ⟨hjl, h10⟩ := hjl
    obtain ⟨a, ha, hc⟩ := hp.elem pt_len hjl
    have ha : q.1 = some a := ha
    refine ⟨by omega, by simpa using hjl, ?_⟩
    rw [ha, onSome_some]
    refine ⟨_, _, _, _, _, D.cells hc, ?_⟩
    refine D.gives (c_r3Right l[j] (hk _ (List.getElem_mem hjl))) fun w13 k13 D => ⟨_, rfl, k13.size, ?_⟩
    by_cases hr : l[j].right = true
    · rw [if_neg (by simp [hr])]
      have e : IntKind.wrap .i64 ((j : Int) + 1) = ((j + 1 : Nat) : Int) := by rw [w_i64 (by omega) (by omega)]; omega
      rw [e]
      refine ⟨⟨j + 1, rfl, hjl, ?_, D⟩, Nat.le_of_eq (by show ((l.length : Int) - ((j + 1 : Nat) : Int)).toNat + 1 = ((l.length : Int) - (j : Int)).toNat; omega)⟩
      rw [List.take_succ_eq_append_getElem hjl, List.all_append, hjt]; simp [hr]
    · rw [if_pos (by simp [hr])]
      refine Ctr.ret () ?_ trivial D
      have : l.all Pt.right = false := by rw [Bool.eq_false_iff]; intro h; exact hr (List.all_eq_true.1 h _ (List.getElem_mem hjl))
      rw [rightL, this, Bool.and_false]
  · rw [if_neg (by simp; omega)]
    refine Ctr.ret () ?_ trivial D
    by_cases hj2 : j = l.length
    · rw [hj2, List.take_length] at hjt
      rw [rightL, hjt, Bool.and_true]
      congr 2
      rw [Bool.eq_iff_iff]; simp; omega
    · have h2 : ¬ l.length ≤ 4 := by omega
      rw [rightL]
      have h3 : ¬ ((l.length : Nat) : Int) ≤ 4 := by omega
      simp [h2, h3]
theorem ba_eq (a b : ByteArray) : (a == b) = true ↔ a = b := by
  obtain ⟨a⟩ := a
  obtain ⟨b⟩ := b
  constructor
  · intro h
    have : (a == b) = true := h
    rw [beq_iff_eq.1 this]
  · intro h
    injection h with h; subst h
    show (a == a) = true
    simp
theorem pt_eq (a b : Pt) : ((a.g == b.g) && ((a.k == b.k) && ((a.key == b.key) && ((a.val == b.val) && (a.n == b.n))))) = decide (a = b) := by
  rw [Bool.eq_iff_iff, decide_eq_true_eq]
  simp only [Bool.and_eq_true, beq_iff_eq, ba_eq]
  exact ⟨fun h => pt_ext h, fun h => by subst h; exact ⟨rfl, rfl, rfl, rfl, rfl⟩⟩
theorem c_Part (p : Pt) : Gives Try.prog 40 #[.agg p.row.toArray] (.agg p.row.toArray) := fun w => x_Part _ _ _ _ _ w _ fun w1 h1 => ⟨rfl, hid_below h1 (by simp) (Nat.le_refl _)⟩
theorem c_RefPart (p : Pt) : Gives Try.prog 37 #[.agg p.row.toArray] (.agg p.row.toArray) := fun w => x_RefPart _ _ _ _ _ w _ fun w1 h1 => ⟨rfl, hid_below h1 (by simp) (Nat.le_refl _)⟩
theorem c_Res3 (c : Int) (v : ByteArray) : Gives Try.prog 42 #[.agg #[.int .u8 c, .string v]] (.agg #[.int .u8 c, .string v]) := fun w => x_Res3 _ _ w _ fun w1 h1 => ⟨rfl, hid_below h1 (by simp) (Nat.le_refl _)⟩
theorem c_RefRes (c : Int) (v : ByteArray) : Gives Try.prog 39 #[.agg #[.int .u8 c, .string v]] (.agg #[.int .u8 c, .string v]) := fun w => x_RefRes _ _ w _ fun w1 h1 => ⟨rfl, hid_below h1 (by simp) (Nat.le_refl _)⟩
/-! ### lists -/
theorem c_r3Same (q q' : Sl) (l l' : List Pt) (hb : l.length ≤ 140737488355328) : Ctr Try.prog 47 #[slV q l.length, slV q' l'.length] (fun m => MSrc m 5 (slV q l.length) l.length (l.flatMap Pt.row) ∧ MSrc m 5 (slV q' l'.length) l'.length (l'.flatMap Pt.row)) [] (fun _ : Unit => .bool (decide (l = l'))) (fun _ _ => True) (fun _ => []) := by
  refine Ctr.mk fun w F m C hp => x_r3Same _ _ _ _ _ _ w _ ?_
  obtain ⟨h1, h2⟩ := hp
  by_cases hl : l.length = l'.length
  rotate_left
  · rw [if_pos (by simp; omega)]
    exact Ctr.ret () (by rw [decide_eq_false (fun h => hl (by rw [h]))]) trivial C
  rw [if_neg (by simp [hl])]
  refine ⟨fun i w' _ => ∃ j : Nat, i = j ∧ j ≤ l.length ∧ l.take j = l'.take j ∧ Ctx F m w w' [] m [], fun i _ => (l.length - i).toNat, ⟨0, rfl, by omega, rfl, C⟩, ?_⟩
  clear C
  rintro i w4 L5 _ ⟨j, rfl, hj, hjt, D⟩
  by_cases hjl : j < l.length
  · rw [if_pos (by simpa using hjl)]
    obtain ⟨a1, ha1, hc1⟩ := h1.elem pt_len hjl
    obtain ⟨a2, ha2, hc2⟩ := h2.elem pt_len (show j < l'.length by omega)
    refine ⟨by omega, by simpa using hjl, ?_⟩
    rw [ha1, onSome_some]
    refine ⟨_, _, _, _, _, D.cells hc1, by omega, by omega, ?_⟩
    rw [ha2, onSome_some]
    refine ⟨_, _, _, _, _, D.cells hc2, ?_⟩
    rw [pt_eq]
    by_cases he : l[j] = l'[j]
    · rw [if_neg (by simp [he])]
      intro w18 h18
      have e : IntKind.wrap .i64 ((j : Int) + 1) = ((j + 1 : Nat) : Int) := by rw [w_i64 (by omega) (by omega)]; omega
      rw [e]
      refine ⟨⟨j + 1, rfl, hjl, ?_, D.hid0 h18⟩, Nat.le_of_eq (by show ((l.length : Int) - ((j + 1 : Nat) : Int)).toNat + 1 = ((l.length : Int) - (j : Int)).toNat; omega)⟩
      rw [List.take_succ_eq_append_getElem hjl, List.take_succ_eq_append_getElem (by omega : j < l'.length), hjt, he]
    · rw [if_pos (by simp [he])]
      intro w19 h19
      refine Ctr.ret () ?_ trivial (D.hid0 h19)
      rw [decide_eq_false (fun h => he (by simp only [h]))]
  · rw [if_neg (by simpa using hjl)]
    have hj2 : j = l.length := by omega
    rw [hj2, List.take_length, hl, List.take_length] at hjt
    exact Ctr.ret () (by rw [decide_eq_true hjt]) trivial D
theorem c_Parts (q : Sl) (l : List Pt) (hl : l.length * 48 ≤ 140737488355328) : Ctr Try.prog 41 #[slV q l.length] (fun m => MSrc m 5 (slV q l.length) l.length (l.flatMap Pt.row)) [] (fun p : Sl => slV p l.length) (fun p m => MSrc m 5 (slV p l.length) l.length (l.flatMap Pt.row)) (fun _ => []) := by
  refine Ctr.mk fun w F m C hp => x_Parts _ _ _ w _ ?_
  refine ⟨fun p k c i w' _ => ∃ (j : Nat) (m' : Mem), i = j ∧ j = k ∧ j ≤ l.length ∧ m.le m' ∧ Ctx F m w w' [] m' [slA (.slice p j c) j ((l.take j).flatMap Pt.row) 57 5], fun _ _ _ i _ => (l.length - i).toNat, ⟨0, m, rfl, rfl, by omega, Mem.le_refl _, C.slNil⟩, ?_⟩
  clear C
  rintro p k c i w7 L8 _ ⟨j, m', rfl, rfl, hj, hm, D⟩
  by_cases hjl : j < l.length
  · rw [if_pos (by simpa using hjl)]
    refine ⟨by omega, by simpa using hjl, ?_⟩
    obtain ⟨a, ha, hc⟩ := (hp.mono hm).elem pt_len hjl
    have ha : q.1 = some a := ha
    rw [ha, onSome_some]
    refine ⟨_, _, _, _, _, D.cells hc, ?_⟩
    refine D.gives (c_Part l[j]) fun w16 k16 D => ⟨_, _, _, _, _, rfl, k16.size, ?_⟩
    have D1 := (D.alloc l[j].row 57).swap
    have hcl : Cells _ ⟨w16.heap.size, 0, none⟩ l[j].row := (D.alloc l[j].row 57).blkCells (o := 0) fun k v e => by simpa using e
    obtain ⟨q2, c2, w25, hr, hkk, D2⟩ := D1.app2 (P := Try.prog) (bytes := 48) (t := 58) (t2 := 58) 58 (by kernel_rfl) (.some ⟨w16.heap.size, 0, none⟩ 1 1 l[j].row rfl hcl) (by unfold maxLen; omega) (by omega) (pt_one _)
    have e : IntKind.wrap .i64 ((j : Int) + 1) = ((j + 1 : Nat) : Int) := by rw [w_i64 (by omega) (by omega)]; omega
    refine ⟨q2, j + 1, c2, w25, hr, hkk.size, ?_⟩
    rw [e]
    refine ⟨⟨j + 1, m', rfl, rfl, hjl, hm, ?_⟩, Nat.le_of_eq (by show ((l.length : Int) - ((j + 1 : Nat) : Int)).toNat + 1 = ((l.length : Int) - (j : Int)).toNat; omega)⟩
    have e2 : (l.take (j + 1)).flatMap Pt.row = (l.take j).flatMap Pt.row ++ l[j].row := by rw [List.take_succ_eq_append_getElem hjl, List.flatMap_append]; simp
    rw [e2]
    exact Ctx.noL (D2.pk [0] [1] rfl)
  · rw [if_neg (by simpa using hjl)]
    have hj2 : j = l.length := by omega
    subst hj2
    rw [List.take_length] at D
    obtain ⟨m2, hm2, hs, D2⟩ := D.slShare
    exact Ctr.ret (m' := m2) (L := []) (p, c) rfl hs D2.noL
theorem c_RefParts (q : Sl) (l : List Pt) (hl : l.length * 48 ≤ 140737488355328) : Ctr Try.prog 38 #[slV q l.length] (fun m => MSrc m 5 (slV q l.length) l.length (l.flatMap Pt.row)) [] (fun p : Sl => slV p l.length) (fun p m => MSrc m 5 (slV p l.length) l.length (l.flatMap Pt.row)) (fun _ => []) := by
  refine Ctr.mk fun w F m C hp => x_RefParts _ _ _ w _ ?_
  refine ⟨fun p k c i w' _ => ∃ (j : Nat) (m' : Mem), i = j ∧ j = k ∧ j ≤ l.length ∧ m.le m' ∧ Ctx F m w w' [] m' [slA (.slice p j c) j ((l.take j).flatMap Pt.row) 35 5], fun _ _ _ i _ => (l.length - i).toNat, ⟨0, m, rfl, rfl, by omega, Mem.le_refl _, C.slNil⟩, ?_⟩
  clear C
  rintro p k c i w7 L8 _ ⟨j, m', rfl, rfl, hj, hm, D⟩
  by_cases hjl : j < l.length
  · rw [if_pos (by simpa using hjl)]
    refine ⟨by omega, by simpa using hjl, ?_⟩
    obtain ⟨a, ha, hc⟩ := (hp.mono hm).elem pt_len hjl
    have ha : q.1 = some a := ha
    rw [ha, onSome_some]
    refine ⟨_, _, _, _, _, D.cells hc, ?_⟩
    refine D.gives (c_RefPart l[j]) fun w16 k16 D => ⟨_, _, _, _, _, rfl, k16.size, ?_⟩
    have D1 := (D.alloc l[j].row 35).swap
    have hcl : Cells _ ⟨w16.heap.size, 0, none⟩ l[j].row := (D.alloc l[j].row 35).blkCells (o := 0) fun k v e => by simpa using e
    obtain ⟨q2, c2, w25, hr, hkk, D2⟩ := D1.app2 (P := Try.prog) (bytes := 48) (t := 36) (t2 := 36) 36 (by kernel_rfl) (.some ⟨w16.heap.size, 0, none⟩ 1 1 l[j].row rfl hcl) (by unfold maxLen; omega) (by omega) (pt_one _)
    have e : IntKind.wrap .i64 ((j : Int) + 1) = ((j + 1 : Nat) : Int) := by rw [w_i64 (by omega) (by omega)]; omega
    refine ⟨q2, j + 1, c2, w25, hr, hkk.size, ?_⟩
    rw [e]
    refine ⟨⟨j + 1, m', rfl, rfl, hjl, hm, ?_⟩, Nat.le_of_eq (by show ((l.length : Int) - ((j + 1 : Nat) : Int)).toNat + 1 = ((l.length : Int) - (j : Int)).toNat; omega)⟩
    have e2 : (l.take (j + 1)).flatMap Pt.row = (l.take j).flatMap Pt.row ++ l[j].row := by rw [List.take_succ_eq_append_getElem hjl, List.flatMap_append]; simp
    rw [e2]
    exact Ctx.noL (D2.pk [0] [1] rfl)
  · rw [if_neg (by simpa using hjl)]
    have hj2 : j = l.length := by omega
    subst hj2
    rw [List.take_length] at D
    obtain ⟨m2, hm2, hs, D2⟩ := D.slShare
    exact Ctr.ret (m' := m2) (L := []) (p, c) rfl hs D2.noL
theorem mcells_part {m : Mem} {a : Addr} {cs : List Value} (h : MCells m a cs) (o : Nat) (us : List Value) (hu : ∀ j v, us[j]? = some v → cs[o + j]? = some v) : MCells m (a.add o) us := fun j v e => by
  rw [Addr.add_add]; exact h _ _ (hu j v e)
structure Wr where (key : ByteArray) (val : ByteArray) (has : Bool)
@[reducible] def Wr.row (p : Wr) : List Value := [.string p.key, .string p.val, .bool p.has]
theorem wr_len (p : Wr) : p.row.length = 3 := rfl
theorem wr_one (x : Wr) : ∀ u ∈ x.row, oneC u = true := by intro u h; simp [Wr.row] at h; rcases h with rfl | rfl | rfl <;> rfl
theorem wr_ext {a b : Wr} (h : a.key = b.key ∧ a.val = b.val ∧ a.has = b.has) : a = b := by cases a; cases b; simp_all
instance : DecidableEq Wr := fun a b => decidable_of_iff (a.key = b.key ∧ a.val = b.val ∧ a.has = b.has) ⟨wr_ext, fun h => by subst h; exact ⟨rfl, rfl, rfl⟩⟩
theorem c_OwnW (q : Sl) (l : List Wr) (hl : l.length * 48 ≤ 140737488355328) : Ctr Try.prog 43 #[slV q l.length] (fun m => MSrc m 3 (slV q l.length) l.length (l.flatMap Wr.row)) [] (fun p : Sl => slV p l.length) (fun p m => MSrc m 3 (slV p l.length) l.length (l.flatMap Wr.row)) (fun _ => []) := by
  refine Ctr.mk fun w F m C hp => x_OwnW _ _ _ w _ ?_
  refine ⟨fun p k c i w' _ => ∃ (j : Nat) (m' : Mem), i = j ∧ j = k ∧ j ≤ l.length ∧ m.le m' ∧ Ctx F m w w' [] m' [slA (.slice p j c) j ((l.take j).flatMap Wr.row) 60 3], fun _ _ _ i _ => (l.length - i).toNat, ⟨0, m, rfl, rfl, by omega, Mem.le_refl _, C.slNil⟩, ?_⟩
  clear C
  rintro p k c i w7 L8 _ ⟨j, m', rfl, rfl, hj, hm, D⟩
  by_cases hjl : j < l.length
  · rw [if_pos (by simpa using hjl)]
    obtain ⟨a, ha, hc⟩ := (hp.mono hm).elem wr_len hjl
    have ha : q.1 = some a := ha
    have hfw : ∀ {w' As}, Ctx F m w w' [] m' As → FactsW [((a.add (j * 3)).add 0, [.string l[j].key]), ((a.add (j * 3)).add 1, [.string l[j].val]), ((a.add (j * 3)).add 2, [.bool l[j].has])] w' [] := fun D =>
      D.memFact (mcells_part hc 0 _ (fun k v e => by match k, e with | 0, e => exact e)) (D.memFact (mcells_part hc 1 _ (fun k v e => by match k, e with | 0, e => exact e)) (D.memFact (mcells_part hc 2 _ (fun k v e => by match k, e with | 0, e => exact e)) (facts_nil _ _)))
    refine ⟨_, hfw D, by omega, by simpa using hjl, ?_⟩
    rw [ha, onSome_some]
    refine ⟨l[j].key, by rw [Int.toNat_natCast]; simp, by omega, by simpa using hjl, ?_⟩
    rw [onSome_some]
    refine ⟨l[j].val, by rw [Int.toNat_natCast]; simp, by omega, by simpa using hjl, ?_⟩
    rw [onSome_some]
    refine ⟨l[j].has, by rw [Int.toNat_natCast]; simp, fun w16 h16 => ?_⟩
    replace D := D.hid0 h16
    have D1 := (D.alloc l[j].row 60).swap
    have hcl : Cells _ ⟨w16.heap.size, 0, none⟩ l[j].row := (D.alloc l[j].row 60).blkCells (o := 0) fun k v e => by simpa using e
    obtain ⟨q2, c2, w25, hr, hkk, D2⟩ := D1.app2 (P := Try.prog) (bytes := 48) (t := 104) (t2 := 104) 104 (by kernel_rfl) (.some ⟨w16.heap.size, 0, none⟩ 1 1 l[j].row rfl hcl) (by unfold maxLen; omega) (by omega) (wr_one _)
    have e : IntKind.wrap .i64 ((j : Int) + 1) = ((j + 1 : Nat) : Int) := by rw [w_i64 (by omega) (by omega)]; omega
    refine ⟨hfw D1, q2, j + 1, c2, w25, hr, hkk.size, hfw D2, ?_⟩
    rw [e]
    refine ⟨⟨j + 1, m', rfl, rfl, hjl, hm, ?_⟩, Nat.le_of_eq (by show ((l.length : Int) - ((j + 1 : Nat) : Int)).toNat + 1 = ((l.length : Int) - (j : Int)).toNat; omega)⟩
    have e2 : (l.take (j + 1)).flatMap Wr.row = (l.take j).flatMap Wr.row ++ l[j].row := by rw [List.take_succ_eq_append_getElem hjl, List.flatMap_append]; simp
    rw [e2]
    exact Ctx.noL (D2.pk [0] [1] rfl)
  · rw [if_neg (by simpa using hjl)]
    have hj2 : j = l.length := by omega
    subst hj2
    rw [List.take_length] at D
    obtain ⟨m2, hm2, hs, D2⟩ := D.slShare
    exact Ctr.ret (m' := m2) (L := []) (p, c) rfl hs D2.noL
end Go.Proofs
