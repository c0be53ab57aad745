import Derived.Test.YtdmiblfckigjoaaDoorV05a
import Derived.Test.YtdmiblfckigjoaaDoorXIter
import Derived.Test.YtdmiblfckigjoaaDoorXSub
import Derived.Test.YtdmiblfckigjoaaDoorXElems
import Derived.Test.YtdmiblfckigjoaaDoorXSmall
import Derived.Test.YtdmiblfckigjoaaDoorXClear
import Derived.Test.YtdmiblfckigjoaaDoorXSized
set_option linter.unusedVariables false
set_option linter.unusedSimpArgs false
set_option maxRecDepth 10000
namespace Go.Proofs
open Go X RowKit
abbrev noMem : Mem → Prop := fun _ => True
abbrev Sl := Option Addr × Nat
abbrev slV (p : Sl) (n : Nat) : Value := .slice p.1 n p.2
theorem ba_eq (a b : ByteArray) : (a == b) = true ↔ a = b := by
  obtain ⟨a⟩ := a
  obtain ⟨b⟩ := b
  constructor
  · intro h
    have : (a == b) = true := h
    rw [beq_iff_eq.1 this]
  · intro h
    injection h with h; subst h
    show (a == a) = true
    simp
structure Pt where (g k : Int) (key val : ByteArray) (n : Int)
@[reducible] def Pt.row (p : Pt) : List Value := [.int .u8 p.g, .int .u8 p.k, .string p.key, .string p.val, .int .i64 p.n]
theorem pt_len (p : Pt) : p.row.length = 5 := rfl
theorem pt_one (x : Pt) : ∀ u ∈ x.row, oneC u = true := by intro u h; simp [Pt.row] at h; rcases h with rfl | rfl | rfl | rfl | rfl <;> rfl
theorem pt_ext {a b : Pt} (h : a.g = b.g ∧ a.k = b.k ∧ a.key = b.key ∧ a.val = b.val ∧ a.n = b.n) : a = b := by cases a; cases b; simp_all
instance : DecidableEq Pt := fun a b => decidable_of_iff (a.g = b.g ∧ a.k = b.k ∧ a.key = b.key ∧ a.val = b.val ∧ a.n = b.n) ⟨pt_ext, fun h => by subst h; exact ⟨rfl, rfl, rfl, rfl, rfl⟩⟩
theorem pt_eq (a b : Pt) : ((a.g == b.g) && ((a.k == b.k) && ((a.key == b.key) && ((a.val == b.val) && (a.n == b.n))))) = decide (a = b) := by
  rw [Bool.eq_iff_iff, decide_eq_true_eq]
  simp only [Bool.and_eq_true, beq_iff_eq, ba_eq]
  exact ⟨fun h => pt_ext h, fun h => by subst h; exact ⟨rfl, rfl, rfl, rfl, rfl⟩⟩
structure Wr where (key val : ByteArray) (has : Bool)
@[reducible] def Wr.row (p : Wr) : List Value := [.string p.key, .string p.val, .bool p.has]
theorem wr_len (p : Wr) : p.row.length = 3 := rfl
theorem wr_one (x : Wr) : ∀ u ∈ x.row, oneC u = true := by intro u h; simp [Wr.row] at h; rcases h with rfl | rfl | rfl <;> rfl
theorem wr_ext {a b : Wr} (h : a.key = b.key ∧ a.val = b.val ∧ a.has = b.has) : a = b := by cases a; cases b; simp_all
instance : DecidableEq Wr := fun a b => decidable_of_iff (a.key = b.key ∧ a.val = b.val ∧ a.has = b.has) ⟨wr_ext, fun h => by subst h; exact ⟨rfl, rfl, rfl⟩⟩
theorem wr_eq (a b : Wr) : ((a.key == b.key) && ((a.val == b.val) && (a.has == b.has))) = decide (a = b) := by
  rw [Bool.eq_iff_iff, decide_eq_true_eq]
  simp only [Bool.and_eq_true, beq_iff_eq, ba_eq]
  exact ⟨fun h => wr_ext h, fun h => by subst h; exact ⟨rfl, rfl, rfl⟩⟩
theorem c_Part (p : Pt) : Gives Tryd.prog 55 #[.agg p.row.toArray] (.agg p.row.toArray) := fun w => x_Part _ _ _ _ _ w _ fun w1 h1 => ⟨rfl, hid_below h1 (by simp) (Nat.le_refl _)⟩
theorem c_EqualP (q q' : Sl) (l l' : List Pt) (hb : l.length ≤ 140737488355328) : Ctr Tryd.prog 58 #[slV q l.length, slV q' l'.length] (fun m => MSrc m 5 (slV q l.length) l.length (l.flatMap Pt.row) ∧ MSrc m 5 (slV q' l'.length) l'.length (l'.flatMap Pt.row)) [] (fun _ : Unit => .bool (decide (l = l'))) (fun _ _ => True) (fun _ => []) := by
  refine Ctr.mk fun w F m C hp => x_EqualP _ _ _ _ _ _ w _ ?_
  obtain ⟨h1, h2⟩ := hp
  by_cases hl : l.length = l'.length
  rotate_left
  · rw [if_pos (by simp; omega)]
    exact Ctr.ret () (by rw [decide_eq_false (fun h => hl (by rw [h]))]) trivial C
  rw [if_neg (by simp [hl])]
  refine ⟨fun i w' _ => ∃ j : Nat, i = j ∧ j ≤ l.length ∧ l.take j = l'.take j ∧ Ctx F m w w' [] m [], fun i _ => (l.length - i).toNat, ⟨0, rfl, by omega, rfl, C⟩, ?_⟩
  clear C
  rintro i w4 L5 _ ⟨j, rfl, hj, hjt, D⟩
  by_cases hjl : j < l.length
  · rw [if_pos (by simpa using hjl)]
    obtain ⟨a1, ha1, hc1⟩ := h1.elem pt_len hjl
    obtain ⟨a2, ha2, hc2⟩ := h2.elem pt_len (show j < l'.length by omega)
    refine ⟨by omega, by simpa using hjl, ?_⟩
    rw [ha1, onSome_some]
    refine ⟨_, _, _, _, _, D.cells hc1, by omega, by omega, ?_⟩
    rw [ha2, onSome_some]
    refine ⟨_, _, _, _, _, D.cells hc2, ?_⟩
    rw [pt_eq]
    by_cases he : l[j] = l'[j]
    · rw [if_neg (by simp [he])]
      intro w18 h18
      have e : IntKind.wrap .i64 ((j : Int) + 1) = ((j + 1 : Nat) : Int) := by rw [w_i64 (by omega) (by omega)]; omega
      rw [e]
      refine ⟨⟨j + 1, rfl, hjl, ?_, D.hid0 h18⟩, Nat.le_of_eq (by show ((l.length : Int) - ((j + 1 : Nat) : Int)).toNat + 1 = ((l.length : Int) - (j : Int)).toNat; omega)⟩
      rw [List.take_succ_eq_append_getElem hjl, List.take_succ_eq_append_getElem (by omega : j < l'.length), hjt, he]
    · rw [if_pos (by simp [he])]
      intro w19 h19
      refine Ctr.ret () ?_ trivial (D.hid0 h19)
      rw [decide_eq_false (fun h => he (by simp only [h]))]
  · rw [if_neg (by simpa using hjl)]
    have hj2 : j = l.length := by omega
    rw [hj2, List.take_length, hl, List.take_length] at hjt
    exact Ctr.ret () (by rw [decide_eq_true hjt]) trivial D
theorem c_r3Same (q q' : Sl) (l l' : List Pt) (hb : l.length ≤ 140737488355328) : Ctr Tryd.prog 41 #[slV q l.length, slV q' l'.length] (fun m => MSrc m 5 (slV q l.length) l.length (l.flatMap Pt.row) ∧ MSrc m 5 (slV q' l'.length) l'.length (l'.flatMap Pt.row)) [] (fun _ : Unit => .bool (decide (l = l'))) (fun _ _ => True) (fun _ => []) := by
  refine Ctr.mk fun w F m C hp => x_r3Same _ _ _ _ _ _ w _ ?_
  obtain ⟨h1, h2⟩ := hp
  by_cases hl : l.length = l'.length
  rotate_left
  · rw [if_pos (by simp; omega)]
    exact Ctr.ret () (by rw [decide_eq_false (fun h => hl (by rw [h]))]) trivial C
  rw [if_neg (by simp [hl])]
  refine ⟨fun i w' _ => ∃ j : Nat, i = j ∧ j ≤ l.length ∧ l.take j = l'.take j ∧ Ctx F m w w' [] m [], fun i _ => (l.length - i).toNat, ⟨0, rfl, by omega, rfl, C⟩, ?_⟩
  clear C
  rintro i w4 L5 _ ⟨j, rfl, hj, hjt, D⟩
  by_cases hjl : j < l.length
  · rw [if_pos (by simpa using hjl)]
    obtain ⟨a1, ha1, hc1⟩ := h1.elem pt_len hjl
    obtain ⟨a2, ha2, hc2⟩ := h2.elem pt_len (show j < l'.length by omega)
    refine ⟨by omega, by simpa using hjl, ?_⟩
    rw [ha1, onSome_some]
    refine ⟨_, _, _, _, _, D.cells hc1, by omega, by omega, ?_⟩
    rw [ha2, onSome_some]
    refine ⟨_, _, _, _, _, D.cells hc2, ?_⟩
    rw [pt_eq]
    by_cases he : l[j] = l'[j]
    · rw [if_neg (by simp [he])]
      intro w18 h18
      have e : IntKind.wrap .i64 ((j : Int) + 1) = ((j + 1 : Nat) : Int) := by rw [w_i64 (by omega) (by omega)]; omega
      rw [e]
      refine ⟨⟨j + 1, rfl, hjl, ?_, D.hid0 h18⟩, Nat.le_of_eq (by show ((l.length : Int) - ((j + 1 : Nat) : Int)).toNat + 1 = ((l.length : Int) - (j : Int)).toNat; omega)⟩
      rw [List.take_succ_eq_append_getElem hjl, List.take_succ_eq_append_getElem (by omega : j < l'.length), hjt, he]
    · rw [if_pos (by simp [he])]
      intro w19 h19
      refine Ctr.ret () ?_ trivial (D.hid0 h19)
      rw [decide_eq_false (fun h => he (by simp only [h]))]
  · rw [if_neg (by simpa using hjl)]
    have hj2 : j = l.length := by omega
    rw [hj2, List.take_length, hl, List.take_length] at hjt
    exact Ctr.ret () (by rw [decide_eq_true hjt]) trivial D
theorem c_EqualW (q q' : Sl) (l l' : List Wr) (hb : l.length ≤ 140737488355328) : Ctr Tryd.prog 40 #[slV q l.length, slV q' l'.length] (fun m => MSrc m 3 (slV q l.length) l.length (l.flatMap Wr.row) ∧ MSrc m 3 (slV q' l'.length) l'.length (l'.flatMap Wr.row)) [] (fun _ : Unit => .bool (decide (l = l'))) (fun _ _ => True) (fun _ => []) := by
  refine Ctr.mk fun w F m C hp => x_EqualW _ _ _ _ _ _ w _ ?_
  obtain ⟨h1, h2⟩ := hp
  by_cases hl : l.length = l'.length
  rotate_left
  · rw [if_pos (by simp; omega)]
    exact Ctr.ret () (by rw [decide_eq_false (fun h => hl (by rw [h]))]) trivial C
  rw [if_neg (by simp [hl])]
  refine ⟨fun i w' _ => ∃ j : Nat, i = j ∧ j ≤ l.length ∧ l.take j = l'.take j ∧ Ctx F m w w' [] m [], fun i _ => (l.length - i).toNat, ⟨0, rfl, by omega, rfl, C⟩, ?_⟩
  clear C
  rintro i w4 L5 _ ⟨j, rfl, hj, hjt, D⟩
  by_cases hjl : j < l.length
  · rw [if_pos (by simpa using hjl)]
    obtain ⟨a1, ha1, hc1⟩ := h1.elem wr_len hjl
    obtain ⟨a2, ha2, hc2⟩ := h2.elem wr_len (show j < l'.length by omega)
    refine ⟨by omega, by simpa using hjl, ?_⟩
    rw [ha1, onSome_some]
    refine ⟨_, _, _, D.cells hc1, by omega, by omega, ?_⟩
    rw [ha2, onSome_some]
    refine ⟨_, _, _, D.cells hc2, ?_⟩
    rw [wr_eq]
    by_cases he : l[j] = l'[j]
    · rw [if_neg (by simp [he])]
      intro w18 h18
      have e : IntKind.wrap .i64 ((j : Int) + 1) = ((j + 1 : Nat) : Int) := by rw [w_i64 (by omega) (by omega)]; omega
      rw [e]
      refine ⟨⟨j + 1, rfl, hjl, ?_, D.hid0 h18⟩, Nat.le_of_eq (by show ((l.length : Int) - ((j + 1 : Nat) : Int)).toNat + 1 = ((l.length : Int) - (j : Int)).toNat; omega)⟩
      rw [List.take_succ_eq_append_getElem hjl, List.take_succ_eq_append_getElem (by omega : j < l'.length), hjt, he]
    · rw [if_pos (by simp [he])]
      intro w19 h19
      refine Ctr.ret () ?_ trivial (D.hid0 h19)
      rw [decide_eq_false (fun h => he (by simp only [h]))]
  · rw [if_neg (by simpa using hjl)]
    have hj2 : j = l.length := by omega
    rw [hj2, List.take_length, hl, List.take_length] at hjt
    exact Ctr.ret () (by rw [decide_eq_true hjt]) trivial D
theorem c_r4Same (q q' : Sl) (l l' : List Wr) (hb : l.length ≤ 140737488355328) : Ctr Tryd.prog 42 #[slV q l.length, slV q' l'.length] (fun m => MSrc m 3 (slV q l.length) l.length (l.flatMap Wr.row) ∧ MSrc m 3 (slV q' l'.length) l'.length (l'.flatMap Wr.row)) [] (fun _ : Unit => .bool (decide (l = l'))) (fun _ _ => True) (fun _ => []) := by
  refine Ctr.mk fun w F m C hp => x_r4Same _ _ _ _ _ _ w _ ?_
  obtain ⟨h1, h2⟩ := hp
  by_cases hl : l.length = l'.length
  rotate_left
  · rw [if_pos (by simp; omega)]
    exact Ctr.ret () (by rw [decide_eq_false (fun h => hl (by rw [h]))]) trivial C
  rw [if_neg (by simp [hl])]
  refine ⟨fun i w' _ => ∃ j : Nat, i = j ∧ j ≤ l.length ∧ l.take j = l'.take j ∧ Ctx F m w w' [] m [], fun i _ => (l.length - i).toNat, ⟨0, rfl, by omega, rfl, C⟩, ?_⟩
  clear C
  rintro i w4 L5 _ ⟨j, rfl, hj, hjt, D⟩
  by_cases hjl : j < l.length
  · rw [if_pos (by simpa using hjl)]
    obtain ⟨a1, ha1, hc1⟩ := h1.elem wr_len hjl
    obtain ⟨a2, ha2, hc2⟩ := h2.elem wr_len (show j < l'.length by omega)
    refine ⟨by omega, by simpa using hjl, ?_⟩
    rw [ha1, onSome_some]
    refine ⟨_, _, _, D.cells hc1, by omega, by omega, ?_⟩
    rw [ha2, onSome_some]
    refine ⟨_, _, _, D.cells hc2, ?_⟩
    rw [wr_eq]
    by_cases he : l[j] = l'[j]
    · rw [if_neg (by simp [he])]
      intro w18 h18
      have e : IntKind.wrap .i64 ((j : Int) + 1) = ((j + 1 : Nat) : Int) := by rw [w_i64 (by omega) (by omega)]; omega
      rw [e]
      refine ⟨⟨j + 1, rfl, hjl, ?_, D.hid0 h18⟩, Nat.le_of_eq (by show ((l.length : Int) - ((j + 1 : Nat) : Int)).toNat + 1 = ((l.length : Int) - (j : Int)).toNat; omega)⟩
      rw [List.take_succ_eq_append_getElem hjl, List.take_succ_eq_append_getElem (by omega : j < l'.length), hjt, he]
    · rw [if_pos (by simp [he])]
      intro w19 h19
      refine Ctr.ret () ?_ trivial (D.hid0 h19)
      rw [decide_eq_false (fun h => he (by simp only [h]))]
  · rw [if_neg (by simpa using hjl)]
    have hj2 : j = l.length := by omega
    rw [hj2, List.take_length, hl, List.take_length] at hjt
    exact Ctr.ret () (by rw [decide_eq_true hjt]) trivial D
theorem c_CloneP (q : Sl) (l : List Pt) (hl : l.length * 48 ≤ 140737488355328) : Ctr Tryd.prog 37 #[slV q l.length] (fun m => MSrc m 5 (slV q l.length) l.length (l.flatMap Pt.row)) [] (fun p : Sl => slV p l.length) (fun p m => MSrc m 5 (slV p l.length) l.length (l.flatMap Pt.row)) (fun _ => []) := by
  obtain ⟨q1, q2⟩ := q
  refine Ctr.mk fun w F m C hp => x_CloneP q1 _ q2 w _ ?_
  cases q1 with
  | none =>
    rw [if_pos (show (none : Option Addr).isNone = true from rfl)]
    obtain ⟨h0, h1⟩ := hp.none_len
    rw [h0, h1]
    exact Ctr.ret (none, 0) rfl (.nil ..) C
  | some a =>
    rw [if_neg (by simp)]
    have C1 : Ctx F m w _ [] m [slA (.slice (some ⟨w.heap.size, 0, none⟩) 0 0) 0 [] 56 5] := (C.newDrop [] 56).slNil
    obtain ⟨q1, c1, w4, hr, hk, C2⟩ := C1.app2 (P := Tryd.prog) (bytes := 48) (t := 45) (t2 := 45) 45 (by kernel_rfl) (C1.src hp) (by unfold maxLen; omega) (by omega) (flat_one pt_one l)
    rw [List.nil_append, Nat.zero_add] at C2
    rw [Nat.zero_add] at hr
    refine ⟨q1, l.length, c1, w4, hr, hk.size, ?_⟩
    obtain ⟨m', hm, hs, C3⟩ := C2.slShare
    exact Ctr.ret (m' := m') (L := []) (q1, c1) rfl hs C3
theorem c_CloneW (q : Sl) (l : List Wr) (hl : l.length * 40 ≤ 140737488355328) : Ctr Tryd.prog 38 #[slV q l.length] (fun m => MSrc m 3 (slV q l.length) l.length (l.flatMap Wr.row)) [] (fun p : Sl => slV p l.length) (fun p m => MSrc m 3 (slV p l.length) l.length (l.flatMap Wr.row)) (fun _ => []) := by
  obtain ⟨q1, q2⟩ := q
  refine Ctr.mk fun w F m C hp => x_CloneW q1 _ q2 w _ ?_
  cases q1 with
  | none =>
    rw [if_pos (show (none : Option Addr).isNone = true from rfl)]
    obtain ⟨h0, h1⟩ := hp.none_len
    rw [h0, h1]
    exact Ctr.ret (none, 0) rfl (.nil ..) C
  | some a =>
    rw [if_neg (by simp)]
    have C1 : Ctx F m w _ [] m [slA (.slice (some ⟨w.heap.size, 0, none⟩) 0 0) 0 [] 58 3] := (C.newDrop [] 58).slNil
    obtain ⟨q1, c1, w4, hr, hk, C2⟩ := C1.app2 (P := Tryd.prog) (bytes := 40) (t := 47) (t2 := 47) 47 (by kernel_rfl) (C1.src hp) (by unfold maxLen; omega) (by omega) (flat_one wr_one l)
    rw [List.nil_append, Nat.zero_add] at C2
    rw [Nat.zero_add] at hr
    refine ⟨q1, l.length, c1, w4, hr, hk.size, ?_⟩
    obtain ⟨m', hm, hs, C3⟩ := C2.slShare
    exact Ctr.ret (m' := m') (L := []) (q1, c1) rfl hs C3
theorem c_Parts (q : Sl) (l : List Pt) (hl : l.length * 48 ≤ 140737488355328) : Ctr Tryd.prog 22 #[slV q l.length] (fun m => MSrc m 5 (slV q l.length) l.length (l.flatMap Pt.row)) [] (fun p : Sl => slV p l.length) (fun p m => MSrc m 5 (slV p l.length) l.length (l.flatMap Pt.row)) (fun _ => []) := by
  refine Ctr.mk fun w F m C hp => x_Parts _ _ _ w _ ?_
  refine ⟨fun p k c i w' _ => ∃ (j : Nat) (m' : Mem), i = j ∧ j = k ∧ j ≤ l.length ∧ m.le m' ∧ Ctx F m w w' [] m' [slA (.slice p j c) j ((l.take j).flatMap Pt.row) 56 5], fun _ _ _ i _ => (l.length - i).toNat, ⟨0, m, rfl, rfl, by omega, Mem.le_refl _, C.slNil⟩, ?_⟩
  clear C
  rintro p k c i w7 L8 _ ⟨j, m', rfl, rfl, hj, hm, D⟩
  by_cases hjl : j < l.length
  · rw [if_pos (by simpa using hjl)]
    refine ⟨by omega, by simpa using hjl, ?_⟩
    obtain ⟨a, ha, hc⟩ := (hp.mono hm).elem pt_len hjl
    have ha : q.1 = some a := ha
    rw [ha, onSome_some]
    refine ⟨_, _, _, _, _, D.cells hc, ?_⟩
    refine D.gives (c_Part l[j]) fun w16 k16 D => ⟨_, _, _, _, _, rfl, k16.size, ?_⟩
    have D1 := (D.alloc l[j].row 56).swap
    have hcl : Cells _ ⟨w16.heap.size, 0, none⟩ l[j].row := (D.alloc l[j].row 56).blkCells (o := 0) fun k v e => by simpa using e
    obtain ⟨q2, c2, w25, hr, hkk, D2⟩ := D1.app2 (P := Tryd.prog) (bytes := 48) (t := 45) (t2 := 45) 45 (by kernel_rfl) (.some ⟨w16.heap.size, 0, none⟩ 1 1 l[j].row rfl hcl) (by unfold maxLen; omega) (by omega) (pt_one _)
    have e : IntKind.wrap .i64 ((j : Int) + 1) = ((j + 1 : Nat) : Int) := by rw [w_i64 (by omega) (by omega)]; omega
    refine ⟨q2, j + 1, c2, w25, hr, hkk.size, ?_⟩
    rw [e]
    refine ⟨⟨j + 1, m', rfl, rfl, hjl, hm, ?_⟩, Nat.le_of_eq (by show ((l.length : Int) - ((j + 1 : Nat) : Int)).toNat + 1 = ((l.length : Int) - (j : Int)).toNat; omega)⟩
    have e2 : (l.take (j + 1)).flatMap Pt.row = (l.take j).flatMap Pt.row ++ l[j].row := by rw [List.take_succ_eq_append_getElem hjl, List.flatMap_append]; simp
    rw [e2]
    exact Ctx.noL (D2.pk [0] [1] rfl)
  · rw [if_neg (by simpa using hjl)]
    have hj2 : j = l.length := by omega
    subst hj2
    rw [List.take_length] at D
    obtain ⟨m2, hm2, hs, D2⟩ := D.slShare
    exact Ctr.ret (m' := m2) (L := []) (p, c) rfl hs D2.noL
theorem mcells_part {m : Mem} {a : Addr} {cs : List Value} (h : MCells m a cs) (o : Nat) (us : List Value) (hu : ∀ j v, us[j]? = some v → cs[o + j]? = some v) : MCells m (a.add o) us := fun j v e => by
  rw [Addr.add_add]; exact h _ _ (hu j v e)
theorem c_OwnW (q : Sl) (l : List Wr) (hl : l.length * 40 ≤ 140737488355328) : Ctr Tryd.prog 24 #[slV q l.length] (fun m => MSrc m 3 (slV q l.length) l.length (l.flatMap Wr.row)) [] (fun p : Sl => slV p l.length) (fun p m => MSrc m 3 (slV p l.length) l.length (l.flatMap Wr.row)) (fun _ => []) := by
  refine Ctr.mk fun w F m C hp => x_OwnW _ _ _ w _ ?_
  refine ⟨fun p k c i w' _ => ∃ (j : Nat) (m' : Mem), i = j ∧ j = k ∧ j ≤ l.length ∧ m.le m' ∧ Ctx F m w w' [] m' [slA (.slice p j c) j ((l.take j).flatMap Wr.row) 58 3], fun _ _ _ i _ => (l.length - i).toNat, ⟨0, m, rfl, rfl, by omega, Mem.le_refl _, C.slNil⟩, ?_⟩
  clear C
  rintro p k c i w7 L8 _ ⟨j, m', rfl, rfl, hj, hm, D⟩
  by_cases hjl : j < l.length
  · rw [if_pos (by simpa using hjl)]
    obtain ⟨a, ha, hc⟩ := (hp.mono hm).elem wr_len hjl
    have ha : q.1 = some a := ha
    have hfw : ∀ {w' As}, Ctx F m w w' [] m' As → FactsW [((a.add (j * 3)).add 0, [.string l[j].key]), ((a.add (j * 3)).add 1, [.string l[j].val]), ((a.add (j * 3)).add 2, [.bool l[j].has])] w' [] := fun D =>
      D.memFact (mcells_part hc 0 _ (fun k v e => by match k, e with | 0, e => exact e)) (D.memFact (mcells_part hc 1 _ (fun k v e => by match k, e with | 0, e => exact e)) (D.memFact (mcells_part hc 2 _ (fun k v e => by match k, e with | 0, e => exact e)) (facts_nil _ _)))
    refine ⟨_, hfw D, by omega, by simpa using hjl, ?_⟩
    rw [ha, onSome_some]
    refine ⟨l[j].key, by rw [Int.toNat_natCast]; simp, by omega, by simpa using hjl, ?_⟩
    rw [onSome_some]
    refine ⟨l[j].val, by rw [Int.toNat_natCast]; simp, by omega, by simpa using hjl, ?_⟩
    rw [onSome_some]
    refine ⟨l[j].has, by rw [Int.toNat_natCast]; simp, fun w16 h16 => ?_⟩
    replace D := D.hid0 h16
    have D1 := (D.alloc l[j].row 58).swap
    have hcl : Cells _ ⟨w16.heap.size, 0, none⟩ l[j].row := (D.alloc l[j].row 58).blkCells (o := 0) fun k v e => by simpa using e
    obtain ⟨q2, c2, w25, hr, hkk, D2⟩ := D1.app2 (P := Tryd.prog) (bytes := 40) (t := 47) (t2 := 47) 47 (by kernel_rfl) (.some ⟨w16.heap.size, 0, none⟩ 1 1 l[j].row rfl hcl) (by unfold maxLen; omega) (by omega) (wr_one _)
    have e : IntKind.wrap .i64 ((j : Int) + 1) = ((j + 1 : Nat) : Int) := by rw [w_i64 (by omega) (by omega)]; omega
    refine ⟨hfw D1, q2, j + 1, c2, w25, hr, hkk.size, hfw D2, ?_⟩
    rw [e]
    refine ⟨⟨j + 1, m', rfl, rfl, hjl, hm, ?_⟩, Nat.le_of_eq (by show ((l.length : Int) - ((j + 1 : Nat) : Int)).toNat + 1 = ((l.length : Int) - (j : Int)).toNat; omega)⟩
    have e2 : (l.take (j + 1)).flatMap Wr.row = (l.take j).flatMap Wr.row ++ l[j].row := by rw [List.take_succ_eq_append_getElem hjl, List.flatMap_append]; simp
    rw [e2]
    exact Ctx.noL (D2.pk [0] [1] rfl)
  · rw [if_neg (by simpa using hjl)]
    have hj2 : j = l.length := by omega
    subst hj2
    rw [List.take_length] at D
    obtain ⟨m2, hm2, hs, D2⟩ := D.slShare
    exact Ctr.ret (m' := m2) (L := []) (p, c) rfl hs D2.noL
/-- an identifier -/
structure I where (n l s d g0 i0 g1 i1 g2 i2 : Int)
@[reducible] def I.V (x : I) : Value := .agg #[.int .u8 x.n, .int .u16 x.l, .int .u32 x.s, .int .u8 x.d, .int .u8 x.g0, .int .u8 x.i0, .int .u8 x.g1, .int .u8 x.i1, .int .u8 x.g2, .int .u8 x.i2]
def I.zero : I := ⟨0, 0, 0, 0, 0, 0, 0, 0, 0, 0⟩
structure I.In (x : I) : Prop where
  n : 0 ≤ x.n ∧ x.n < 256
  l : 0 ≤ x.l ∧ x.l < 65536
  s : 0 ≤ x.s ∧ x.s < 4294967296
  d : 0 ≤ x.d ∧ x.d < 256
  g0 : 0 ≤ x.g0 ∧ x.g0 < 256
  i0 : 0 ≤ x.i0 ∧ x.i0 < 256
  g1 : 0 ≤ x.g1 ∧ x.g1 < 256
  i1 : 0 ≤ x.i1 ∧ x.i1 < 256
  g2 : 0 ≤ x.g2 ∧ x.g2 < 256
  i2 : 0 ≤ x.i2 ∧ x.i2 < 256
@[reducible] def PV (n l : Int) : Value := .agg #[.int .u8 n, .int .u16 l]
@[reducible] def I.row (x : I) : List Value := [.int .u8 x.n, .int .u16 x.l, .int .u32 x.s, .int .u8 x.d, .int .u8 x.g0, .int .u8 x.i0, .int .u8 x.g1, .int .u8 x.i1, .int .u8 x.g2, .int .u8 x.i2]
theorem I.ext' {a b : I} (h : a.n = b.n ∧ a.l = b.l ∧ a.s = b.s ∧ a.d = b.d ∧ a.g0 = b.g0 ∧ a.i0 = b.i0 ∧ a.g1 = b.g1 ∧ a.i1 = b.i1 ∧ a.g2 = b.g2 ∧ a.i2 = b.i2) : a = b := by cases a; cases b; simp_all
instance : DecidableEq I := fun a b => decidable_of_iff (a.n = b.n ∧ a.l = b.l ∧ a.s = b.s ∧ a.d = b.d ∧ a.g0 = b.g0 ∧ a.i0 = b.i0 ∧ a.g1 = b.g1 ∧ a.i1 = b.i1 ∧ a.g2 = b.g2 ∧ a.i2 = b.i2) (by cases a; cases b; simp)
theorem i_eqd (a d : I) : (((a.n == d.n) && (a.l == d.l)) && ((a.s == d.s) && ((a.d == d.d) && (((a.g0 == d.g0) && (a.i0 == d.i0)) && (((a.g1 == d.g1) && (a.i1 == d.i1)) && ((a.g2 == d.g2) && (a.i2 == d.i2))))))) = decide (a = d) := by
  rw [Bool.eq_iff_iff, decide_eq_true_eq]
  simp only [Bool.and_eq_true, beq_iff_eq]
  constructor
  · rintro ⟨⟨h1, h2⟩, h3, h4, ⟨h5, h6⟩, ⟨h7, h8⟩, h9, h10⟩
    exact I.ext' ⟨h1, h2, h3, h4, h5, h6, h7, h8, h9, h10⟩
  · rintro rfl; simp
theorem c_Proc (n l : Int) : Gives Tryd.prog 25 #[PV n l] (PV n l) := fun w => x_gemotlaw02_Proc n l w _ fun w1 h1 => ⟨rfl, hid_below h1 (by simp) (Nat.le_refl _)⟩
theorem c_ID (x : I) : Gives Tryd.prog 21 #[x.V] x.V := by
  intro w
  refine x_gemotlaw02_ID _ _ _ _ _ _ _ _ _ _ w _ ⟨[], facts_nil _ _, ?_, ?_⟩
  all_goals
    intro w2 L h1 h2
    have A := at_start h1 h2
    refine (c_Proc x.n x.l).call fun w5 h5 => ⟨_, _, rfl, at_kept A h5, facts_nil _ _, [], facts_nil _ _, [], facts_nil _ _, [], facts_nil _ _, fun w11 h11 => ⟨rfl, ?_⟩⟩
    exact at_end (at_call A (Nat.le_refl _) h5) (Nat.le_refl _) h11
theorem c_Res (c : Int) (s : ByteArray) : Gives Tryd.prog 23 #[.agg #[.int .u8 c, .string s]] (.agg #[.int .u8 c, .string s]) := fun w => x_gemotlaw03_Res c s w _ fun w1 h1 => ⟨rfl, hid_below h1 (by simp) (Nat.le_refl _)⟩
/-! ### entries -/
structure En where (kd : Int) (id : I) (fl : Int) (pq : Sl) (ps : List Pt) (rc : Int) (rv : ByteArray) (wq : Sl) (ws : List Wr) (vn vl : Int)
@[reducible] def En.row (e : En) : List Value := [.int .u8 e.kd, .int .u8 e.id.n, .int .u16 e.id.l, .int .u32 e.id.s, .int .u8 e.id.d, .int .u8 e.id.g0, .int .u8 e.id.i0, .int .u8 e.id.g1, .int .u8 e.id.i1, .int .u8 e.id.g2, .int .u8 e.id.i2, .int .u32 e.fl, slV e.pq e.ps.length, .int .u8 e.rc, .string e.rv, slV e.wq e.ws.length, .int .u8 e.vn, .int .u16 e.vl]
theorem en_len (e : En) : e.row.length = 18 := rfl
/-- an entry, wherever its lists lie -/
structure Ev where (kd : Int) (id : I) (fl : Int) (ps : List Pt) (rc : Int) (rv : ByteArray) (ws : List Wr) (vn vl : Int)
def En.er (e : En) : Ev := ⟨e.kd, e.id, e.fl, e.ps, e.rc, e.rv, e.ws, e.vn, e.vl⟩
theorem ev_ext {a b : Ev} (h : a.kd = b.kd ∧ a.id = b.id ∧ a.fl = b.fl ∧ a.ps = b.ps ∧ a.rc = b.rc ∧ a.rv = b.rv ∧ a.ws = b.ws ∧ a.vn = b.vn ∧ a.vl = b.vl) : a = b := by cases a; cases b; simp_all
instance : DecidableEq Ev := fun a b => decidable_of_iff (a.kd = b.kd ∧ a.id = b.id ∧ a.fl = b.fl ∧ a.ps = b.ps ∧ a.rc = b.rc ∧ a.rv = b.rv ∧ a.ws = b.ws ∧ a.vn = b.vn ∧ a.vl = b.vl) ⟨ev_ext, fun h => by subst h; exact ⟨rfl, rfl, rfl, rfl, rfl, rfl, rfl, rfl, rfl⟩⟩
structure EnM (m : Mem) (e : En) : Prop where
  p : MSrc m 5 (slV e.pq e.ps.length) e.ps.length (e.ps.flatMap Pt.row)
  w : MSrc m 3 (slV e.wq e.ws.length) e.ws.length (e.ws.flatMap Wr.row)
  pl : e.ps.length ≤ 1000000
  wl : e.ws.length ≤ 1000000
theorem EnM.mono {m m' : Mem} {e : En} (h : EnM m e) (hm : m.le m') : EnM m' e := ⟨h.p.mono hm, h.w.mono hm, h.pl, h.wl⟩
theorem c_OwnE (e : En) : Ctr Tryd.prog 8 #[.agg e.row.toArray] (fun m => EnM m e) [] (fun f : En => .agg f.row.toArray) (fun f m => EnM m f ∧ f.er = e.er) (fun _ => []) := by
  refine Ctr.mk fun w F m C he => x_OwnE _ _ _ _ _ _ _ _ _ _ _ _ _ _ _ _ _ _ _ _ _ _ w _ ⟨[], facts_nil _ _, fun w2 L3 h2 g2 => ?_⟩
  refine (C.hidL h2 g2).gives (c_ID e.id) fun w5 k5 C => ⟨_, _, _, _, _, _, _, _, _, _, rfl, k5, facts_nil _ _, ?_⟩
  refine (c_Parts e.pq e.ps (by have := he.pl; omega)).call (As := []) C he.p fun p m1 w17 hk hm1 hp C => ⟨_, _, _, rfl, hk, facts_nil _ _, ?_⟩
  refine C.gives (c_Res e.rc e.rv) fun w22 k22 C => ⟨_, _, rfl, k22, facts_nil _ _, ?_⟩
  refine (c_OwnW e.wq e.ws (by have := he.wl; omega)).call (As := []) C (he.w.mono hm1) fun q m2 w26 hk hm2 hq C => ⟨_, _, _, rfl, hk, facts_nil _ _, ?_⟩
  refine C.gives (c_Proc e.vn e.vl) fun w31 k31 C => ⟨_, _, rfl, k31, facts_nil _ _, fun w34 h34 => ?_⟩
  exact Ctr.ret (m' := m2) (L := []) { e with pq := p, wq := q } rfl ⟨⟨hp.mono hm2, hq, he.pl, he.wl⟩, rfl⟩ (C.hid0 h34)
theorem c_pSame (q q' : Sl) (l l' : List Pt) (hb : l.length ≤ 140737488355328) : Ctr Tryd.prog 39 #[slV q l.length, slV q' l'.length] (fun m => MSrc m 5 (slV q l.length) l.length (l.flatMap Pt.row) ∧ MSrc m 5 (slV q' l'.length) l'.length (l'.flatMap Pt.row)) [] (fun _ : Unit => .bool (decide (l = l'))) (fun _ _ => True) (fun _ => []) := by
  refine Ctr.mk fun w F m C hp => x_pSame _ _ _ _ _ _ w _ ?_
  exact (c_EqualP q q' l l' hb).call (As := []) C hp fun _ m1 w2 hk hm _ C => ⟨_, rfl, hk.size, Ctr.ret () rfl trivial C⟩
theorem ev_eq (a b : En) : (decide (a.er = b.er)) = (((a.kd == b.kd) && decide (a.id = b.id)) && (a.fl == b.fl) && decide (a.ps = b.ps) && ((a.rc == b.rc) && (a.rv == b.rv)) && decide (a.ws = b.ws) && ((a.vn == b.vn) && (a.vl == b.vl))) := by
  rw [Bool.eq_iff_iff, decide_eq_true_eq]
  simp only [Bool.and_eq_true, beq_iff_eq, ba_eq, decide_eq_true_eq]
  constructor
  · intro h
    have h' := h
    simp only [En.er, Ev.mk.injEq] at h'
    obtain ⟨h1, h2, h3, h4, h5, h6, h7, h8, h9⟩ := h'
    exact ⟨⟨⟨⟨⟨⟨h1, h2⟩, h3⟩, h4⟩, h5, h6⟩, h7⟩, h8, h9⟩
  · rintro ⟨⟨⟨⟨⟨⟨h1, h2⟩, h3⟩, h4⟩, h5, h6⟩, h7⟩, h8, h9⟩
    exact ev_ext ⟨h1, h2, h3, h4, h5, h6, h7, h8, h9⟩
theorem c_eSame (a b : En) : Ctr Tryd.prog 12 #[.agg a.row.toArray, .agg b.row.toArray] (fun m => EnM m a ∧ EnM m b) [] (fun _ : Unit => .bool (decide (a.er = b.er))) (fun _ _ => True) (fun _ => []) := by
  refine Ctr.mk fun w F m C hp => x_eSame _ _ _ _ _ _ _ _ _ _ _ _ _ _ _ _ _ _ _ _ _ _ _ _ _ _ _ _ _ _ _ _ _ _ _ _ _ _ _ _ _ _ _ _ w _ ?_
  obtain ⟨ha, hb⟩ := hp
  rw [ev_eq, i_eqd]
  by_cases h1 : ((a.kd == b.kd) && decide (a.id = b.id) && (a.fl == b.fl)) = true
  rotate_left
  · have h1' : ((a.kd == b.kd) && decide (a.id = b.id) && (a.fl == b.fl)) = false := by simpa using h1
    rw [if_neg (by rw [h1']; decide)]
    intro w1 h1w
    exact Ctr.ret () (by rw [h1']; simp) trivial (C.hid0 h1w)
  rw [if_pos (by rw [h1]; decide)]
  intro w2 L3 h2 g2
  refine (c_pSame a.pq b.pq a.ps b.ps (by have := ha.pl; omega)).call (As := []) (C.hidL h2 g2) ⟨ha.p, hb.p⟩ fun _ m1 w5 hk hm1 _ C => ⟨_, rfl, hk, ?_⟩
  by_cases h3 : ((true && decide (a.ps = b.ps)) && ((a.rc == b.rc) && (a.rv == b.rv))) = true
  rotate_left
  · have h3' : ((true && decide (a.ps = b.ps)) && ((a.rc == b.rc) && (a.rv == b.rv))) = false := by simpa using h3
    rw [if_neg (by rw [h3']; decide)]
    rw [Bool.true_and] at h3'
    exact Ctr.ret () (by rw [h1, Bool.true_and, h3']; simp) trivial C
  rw [if_pos (by rw [h3]; decide)]
  refine (c_EqualW a.wq b.wq a.ws b.ws (by have := ha.wl; omega)).call (As := []) C ⟨ha.w.mono hm1, hb.w.mono hm1⟩ fun _ m2 w8 hk hm2 _ C => ⟨_, rfl, hk, ?_⟩
  exact Ctr.ret () (by rw [h1, h3]) trivial C
theorem c_r5Same (a b : En) : Ctr Tryd.prog 13 #[.agg a.row.toArray, .agg b.row.toArray] (fun m => EnM m a ∧ EnM m b) [] (fun _ : Unit => .bool (decide (a.er = b.er))) (fun _ _ => True) (fun _ => []) := by
  refine Ctr.mk fun w F m C hp => x_r5Same _ _ _ _ _ _ _ _ _ _ _ _ _ _ _ _ _ _ _ _ _ _ _ _ _ _ _ _ _ _ _ _ _ _ _ _ _ _ _ _ _ _ _ _ w _ ?_
  obtain ⟨ha, hb⟩ := hp
  rw [ev_eq, i_eqd]
  by_cases h1 : ((a.kd == b.kd) && decide (a.id = b.id) && (a.fl == b.fl)) = true
  rotate_left
  · have h1' : ((a.kd == b.kd) && decide (a.id = b.id) && (a.fl == b.fl)) = false := by simpa using h1
    rw [if_neg (by rw [h1']; decide)]
    intro w1 h1w
    exact Ctr.ret () (by rw [h1']; simp) trivial (C.hid0 h1w)
  rw [if_pos (by rw [h1]; decide)]
  intro w2 L3 h2 g2
  refine (c_r3Same a.pq b.pq a.ps b.ps (by have := ha.pl; omega)).call (As := []) (C.hidL h2 g2) ⟨ha.p, hb.p⟩ fun _ m1 w5 hk hm1 _ C => ⟨_, rfl, hk, ?_⟩
  by_cases h3 : ((true && decide (a.ps = b.ps)) && ((a.rc == b.rc) && (a.rv == b.rv))) = true
  rotate_left
  · have h3' : ((true && decide (a.ps = b.ps)) && ((a.rc == b.rc) && (a.rv == b.rv))) = false := by simpa using h3
    rw [if_neg (by rw [h3']; decide)]
    rw [Bool.true_and] at h3'
    exact Ctr.ret () (by rw [h1, Bool.true_and, h3']; simp) trivial C
  rw [if_pos (by rw [h3]; decide)]
  refine (c_r4Same a.wq b.wq a.ws b.ws (by have := ha.wl; omega)).call (As := []) C ⟨ha.w.mono hm1, hb.w.mono hm1⟩ fun _ m2 w8 hk hm2 _ C => ⟨_, rfl, hk, ?_⟩
  exact Ctr.ret () (by rw [h1, h3]) trivial C
theorem c_eClone (e : En) : Ctr Tryd.prog 11 #[.agg e.row.toArray] (fun m => EnM m e) [] (fun f : En => .agg f.row.toArray) (fun f m => EnM m f ∧ f.er = e.er) (fun _ => []) := by
  refine Ctr.mk fun w F m C he => x_eClone _ _ _ _ _ _ _ _ _ _ _ _ _ _ _ _ _ _ _ _ _ _ w _ ⟨[], facts_nil _ _, fun w2 L3 h2 g2 => ?_⟩
  refine (c_CloneP e.pq e.ps (by have := he.pl; omega)).call (As := []) (C.hidL h2 g2) he.p fun p m1 w5 hk hm1 hp C => ⟨_, _, _, rfl, hk, facts_nil _ _, ?_⟩
  refine (c_CloneW e.wq e.ws (by have := he.wl; omega)).call (As := []) C (he.w.mono hm1) fun q m2 w10 hk hm2 hq C => ⟨_, _, _, rfl, hk, facts_nil _ _, fun w14 h14 => ?_⟩
  exact Ctr.ret (m' := m2) (L := []) { e with pq := p, wq := q } rfl ⟨⟨hp.mono hm2, hq, he.pl, he.wl⟩, rfl⟩ (C.hid0 h14)
theorem mnI (c : Int) (k : Nat) (hc : 0 ≤ c) : 0 ≤ (if c < (k : Int) then c else (k : Int)) ∧ (if c < (k : Int) then c else (k : Int)) ≤ c ∧ (if c < (k : Int) then c else (k : Int)) ≤ k := by split <;> omega
theorem c_Light3 (q : Sl) (l : List Pt) : Ctr Tryd.prog 20 #[slV q l.length] (fun m => MSrc m 5 (slV q l.length) l.length (l.flatMap Pt.row)) [] (fun b : Bool => .bool b) (fun _ _ => True) (fun _ => []) := by
  refine Ctr.mk fun w F m C hp => x_Light3 _ _ _ w _ ?_
  refine ⟨fun n i w' _ => ∃ j : Nat, i = j ∧ j ≤ 300 ∧ -9000 ≤ n ∧ n ≤ 3000 ∧ Ctx F m w w' [] m [], fun _ i _ => (300 - i).toNat, ⟨0, rfl, by omega, by omega, by omega, C⟩, ?_⟩
  clear C
  rintro n i w5 L6 _ ⟨j, rfl, hj, h1, h2, D⟩
  by_cases hg : ((decide ((j : Int) < ((l.length : Nat) : Int)) && decide ((j : Int) < 300)) && decide (n ≥ 0)) = true
  · rw [if_pos hg]
    simp only [Bool.and_eq_true, decide_eq_true_eq] at hg
    have hjl : j < l.length := by omega
    obtain ⟨a, ha, hc⟩ := hp.elem pt_len hjl
    refine ⟨by omega, by omega, ?_⟩
    rw [ha, onSome_some]
    have hcc := D.cells hc
    rw [Int.toNat_natCast]
    refine ⟨_, hcc 2 _ rfl, by omega, by omega, ?_⟩
    rw [onSome_some]
    refine ⟨_, hcc 3 _ rfl, fun w11 h11 => ?_⟩
    obtain ⟨a1, a2, _⟩ := mnI 4000 l[j].key.size (by omega)
    obtain ⟨b1, b2, _⟩ := mnI 4000 l[j].val.size (by omega)
    generalize (if (4000 : Int) < ((l[j].key.size : Nat) : Int) then (4000 : Int) else ((l[j].key.size : Nat) : Int)) = x at a1 a2 ⊢
    generalize (if (4000 : Int) < ((l[j].val.size : Nat) : Int) then (4000 : Int) else ((l[j].val.size : Nat) : Int)) = y at b1 b2 ⊢
    rw [w_i64 (n := n - 3) (by omega) (by omega), w_i64 (n := n - 3 - x) (by omega) (by omega), w_i64 (n := n - 3 - x - y) (by omega) (by omega), w_i64 (n := (j : Int) + 1) (by omega) (by omega)]
    exact ⟨⟨j + 1, by omega, by omega, by omega, by omega, D.hid0 h11⟩, Nat.le_of_eq (by show (300 - ((j : Int) + 1)).toNat + 1 = (300 - (j : Int)).toNat; omega)⟩
  · rw [if_neg hg]
    exact Ctr.ret (decide (n ≥ 0)) rfl trivial D
structure EnM0 (m : Mem) (e : En) : Prop where
  p : MSrc m 5 (slV e.pq e.ps.length) e.ps.length (e.ps.flatMap Pt.row)
  w : MSrc m 3 (slV e.wq e.ws.length) e.ws.length (e.ws.flatMap Wr.row)
theorem EnM0.mono {m m' : Mem} {e : En} (h : EnM0 m e) (hm : m.le m') : EnM0 m' e := ⟨h.p.mono hm, h.w.mono hm⟩
theorem c_Light5 (q : Sl) (l : List En) : Ctr Tryd.prog 6 #[slV q l.length] (fun m => MSrc m 18 (slV q l.length) l.length (l.flatMap En.row) ∧ ∀ e ∈ l, EnM0 m e) [] (fun b : Bool => .bool b) (fun b _ => b = true → l.length ≤ 150 ∧ ∀ e ∈ l, e.ps.length < 200 ∧ e.ws.length ≤ 300) (fun _ => []) := by
  refine Ctr.mk fun w F m C hp => x_Light5 _ _ _ w _ ?_
  obtain ⟨hp, he⟩ := hp
  refine ⟨fun n i w' _ => ∃ j : Nat, ∃ m' : Mem, i = j ∧ j ≤ 200 ∧ j ≤ l.length ∧ -10000000 ≤ n ∧ n ≤ 6000 ∧ m.le m' ∧ (0 ≤ n → ∀ e ∈ l.take j, e.ps.length < 200 ∧ e.ws.length ≤ 300) ∧ Ctx F m w w' [] m' [], fun _ i _ => (200 - i).toNat, ⟨0, m, rfl, by omega, by omega, by omega, by omega, Mem.le_refl _, by simp, C⟩, ?_⟩
  clear C
  rintro n i w5 L6 _ ⟨j, m', rfl, hj, hjl0, h1, h2, hm', hok, D⟩
  by_cases hg : ((decide ((j : Int) < ((l.length : Nat) : Int)) && decide ((j : Int) < 200)) && decide (n ≥ 0)) = true
  rotate_left
  · rw [if_neg hg]
    refine Ctr.ret (decide (n ≥ 0) && decide (((l.length : Nat) : Int) ≤ 150)) rfl (fun hb => ?_) D
    simp only [Bool.and_eq_true, decide_eq_true_eq] at hb hg
    refine ⟨by omega, ?_⟩
    have := hok (by omega)
    rwa [show j = l.length by omega, List.take_length] at this
  rw [if_pos hg]
  simp only [Bool.and_eq_true, decide_eq_true_eq] at hg
  have hjl : j < l.length := by omega
  obtain ⟨a, ha, hc⟩ := (hp.mono hm').elem en_len hjl
  refine ⟨by omega, by omega, ?_⟩
  rw [ha, onSome_some]
  have hem := (he _ (List.getElem_mem hjl)).mono hm'
  generalize he0 : l[j] = e at hc hem
  refine ⟨_, _, _, _, _, _, _, _, _, _, _, _, _, _, _, _, _, _, _, _, _, _, by rw [Int.toNat_natCast]; exact D.cells hc, fun w30 L31 h30 g30 => ?_⟩
  refine (c_Light3 e.pq e.ps).call (As := []) (D.hidL h30 g30) hem.p fun b3 m2 w33 hk hm2 _ D => ⟨_, rfl, hk, ?_⟩
  by_cases hbad : ((!b3) || decide (((e.ws.length : Nat) : Int) > 300)) = true
  · rw [if_pos hbad]
    exact Ctr.ret false rfl (by simp) D
  rw [if_neg hbad]
  simp only [Bool.or_eq_true, decide_eq_true_eq, not_or] at hbad
  have hwl : e.ws.length ≤ 300 := by omega
  obtain ⟨a1, a2, _⟩ := mnI 7000 e.rv.size (by omega)
  have b12 : 0 ≤ (if (200 : Int) < ((e.ps.length : Nat) : Int) then (200 : Int) else ((e.ps.length : Nat) : Int)) ∧ (if (200 : Int) < ((e.ps.length : Nat) : Int) then (200 : Int) else ((e.ps.length : Nat) : Int)) ≤ 200 ∧ ((if (200 : Int) < ((e.ps.length : Nat) : Int) then (200 : Int) else ((e.ps.length : Nat) : Int)) < 200 → e.ps.length < 200) := by
    split <;> omega
  obtain ⟨b1, b2, b3'⟩ := b12
  generalize (if (7000 : Int) < ((e.rv.size : Nat) : Int) then (7000 : Int) else ((e.rv.size : Nat) : Int)) = x at a1 a2 ⊢
  generalize (if (200 : Int) < ((e.ps.length : Nat) : Int) then (200 : Int) else ((e.ps.length : Nat) : Int)) = y at b1 b2 b3' ⊢
  rw [w_i64 (n := n - 10) (by omega) (by omega), w_i64 (n := n - 10 - x) (by omega) (by omega), w_i64 (n := 30 * y) (by omega) (by omega), w_i64 (n := n - 10 - x - 30 * y) (by omega) (by omega)]
  refine ⟨fun n' i' w' L' => ∃ k : Nat, i' = k ∧ k ≤ e.ws.length ∧ -20000 - 20000 * (k : Int) ≤ n' ∧ n' ≤ n - 10 - 30 * y ∧ Ctx F m w w' L' m2 [], fun _ i _ => ((e.ws.length : Int) - i).toNat, ⟨0, rfl, by omega, by omega, by omega, D⟩, ?_⟩
  clear D
  rintro n' i' w39 L40 _ ⟨k, rfl, hk1, hk2, hk3, D⟩
  by_cases hkl : k < e.ws.length
  rotate_left
  · rw [if_neg (by simpa using hkl), w_i64 (n := (j : Int) + 1) (by omega) (by omega)]
    refine ⟨⟨j + 1, m2, by omega, by omega, by omega, by omega, by omega, hm'.le_trans hm2, fun h0 e' h => ?_, D.noL⟩, Nat.le_of_eq (by show (200 - ((j : Int) + 1)).toNat + 1 = (200 - (j : Int)).toNat; omega)⟩
    rw [List.take_succ_eq_append_getElem hjl, he0] at h
    rcases List.mem_append.1 h with h | h
    · exact hok (by omega) e' h
    · simp only [List.mem_singleton] at h; subst h
      exact ⟨b3' (by omega), hwl⟩
  rw [if_pos (by simpa using hkl)]
  obtain ⟨p, hp1, hc1⟩ := (hem.w.mono hm2).elem wr_len hkl
  refine ⟨by omega, by omega, ?_⟩
  have hcc := D.cells hc1
  have hnl := D.cellsL hc1
  rw [hp1, onSome_some, Int.toNat_natCast]
  refine ⟨_, hcc 0 _ rfl, by rw [addr_block]; exact hnl, by omega, by omega, ?_⟩
  rw [onSome_some]
  refine ⟨_, hcc 1 _ rfl, by simpa using hnl, fun w45 L46 h45 g45 => ⟨rfl, ?_⟩⟩
  obtain ⟨c1, c2, _⟩ := mnI 7000 e.ws[k].key.size (by omega)
  obtain ⟨d1, d2, _⟩ := mnI 7000 e.ws[k].val.size (by omega)
  generalize (if (7000 : Int) < ((e.ws[k].key.size : Nat) : Int) then (7000 : Int) else ((e.ws[k].key.size : Nat) : Int)) = x' at c1 c2 ⊢
  generalize (if (7000 : Int) < ((e.ws[k].val.size : Nat) : Int) then (7000 : Int) else ((e.ws[k].val.size : Nat) : Int)) = y' at d1 d2 ⊢
  rw [w_i64 (n := n' - 1) (by omega) (by omega), w_i64 (n := n' - 1 - x') (by omega) (by omega), w_i64 (n := n' - 1 - x' - y') (by omega) (by omega), w_i64 (n := (k : Int) + 1) (by omega) (by omega)]
  exact ⟨⟨k + 1, by omega, by omega, by omega, by omega, D.hidL h45 g45⟩, Nat.le_of_eq (by show ((e.ws.length : Int) - ((k : Int) + 1)).toNat + 1 = ((e.ws.length : Int) - (k : Int)).toNat; omega)⟩
theorem c_RefPart (p : Pt) : Gives Tryd.prog 59 #[.agg p.row.toArray] (.agg p.row.toArray) := fun w => x_RefPart _ _ _ _ _ w _ fun w1 h1 => ⟨rfl, hid_below h1 (by simp) (Nat.le_refl _)⟩
theorem c_RefParts (q : Sl) (l : List Pt) (hl : l.length * 48 ≤ 140737488355328) : Ctr Tryd.prog 44 #[slV q l.length] (fun m => MSrc m 5 (slV q l.length) l.length (l.flatMap Pt.row)) [] (fun p : Sl => slV p l.length) (fun p m => MSrc m 5 (slV p l.length) l.length (l.flatMap Pt.row)) (fun _ => []) := by
  refine Ctr.mk fun w F m C hp => x_RefParts _ _ _ w _ ?_
  refine ⟨fun p k c i w' _ => ∃ (j : Nat) (m' : Mem), i = j ∧ j = k ∧ j ≤ l.length ∧ m.le m' ∧ Ctx F m w w' [] m' [slA (.slice p j c) j ((l.take j).flatMap Pt.row) 94 5], fun _ _ _ i _ => (l.length - i).toNat, ⟨0, m, rfl, rfl, by omega, Mem.le_refl _, C.slNil⟩, ?_⟩
  clear C
  rintro p k c i w7 L8 _ ⟨j, m', rfl, rfl, hj, hm, D⟩
  by_cases hjl : j < l.length
  · rw [if_pos (by simpa using hjl)]
    refine ⟨by omega, by simpa using hjl, ?_⟩
    obtain ⟨a, ha, hc⟩ := (hp.mono hm).elem pt_len hjl
    have ha : q.1 = some a := ha
    rw [ha, onSome_some]
    refine ⟨_, _, _, _, _, D.cells hc, ?_⟩
    refine D.gives (c_RefPart l[j]) fun w16 k16 D => ⟨_, _, _, _, _, rfl, k16.size, ?_⟩
    have D1 := (D.alloc l[j].row 94).swap
    have hcl : Cells _ ⟨w16.heap.size, 0, none⟩ l[j].row := (D.alloc l[j].row 94).blkCells (o := 0) fun k v e => by simpa using e
    obtain ⟨q2, c2, w25, hr, hkk, D2⟩ := D1.app2 (P := Tryd.prog) (bytes := 48) (t := 31) (t2 := 31) 31 (by kernel_rfl) (.some ⟨w16.heap.size, 0, none⟩ 1 1 l[j].row rfl hcl) (by unfold maxLen; omega) (by omega) (pt_one _)
    have e : IntKind.wrap .i64 ((j : Int) + 1) = ((j + 1 : Nat) : Int) := by rw [w_i64 (by omega) (by omega)]; omega
    refine ⟨q2, j + 1, c2, w25, hr, hkk.size, ?_⟩
    rw [e]
    refine ⟨⟨j + 1, m', rfl, rfl, hjl, hm, ?_⟩, Nat.le_of_eq (by show ((l.length : Int) - ((j + 1 : Nat) : Int)).toNat + 1 = ((l.length : Int) - (j : Int)).toNat; omega)⟩
    have e2 : (l.take (j + 1)).flatMap Pt.row = (l.take j).flatMap Pt.row ++ l[j].row := by rw [List.take_succ_eq_append_getElem hjl, List.flatMap_append]; simp
    rw [e2]
    exact Ctx.noL (D2.pk [0] [1] rfl)
  · rw [if_neg (by simpa using hjl)]
    have hj2 : j = l.length := by omega
    subst hj2
    rw [List.take_length] at D
    obtain ⟨m2, hm2, hs, D2⟩ := D.slShare
    exact Ctr.ret (m' := m2) (L := []) (p, c) rfl hs D2.noL
theorem c_Ref4 (q : Sl) (l : List Wr) (hl : l.length * 40 ≤ 140737488355328) : Ctr Tryd.prog 46 #[slV q l.length] (fun m => MSrc m 3 (slV q l.length) l.length (l.flatMap Wr.row)) [] (fun p : Sl => slV p l.length) (fun p m => MSrc m 3 (slV p l.length) l.length (l.flatMap Wr.row)) (fun _ => []) := by
  refine Ctr.mk fun w F m C hp => x_Ref4 _ _ _ w _ ?_
  refine ⟨fun p k c i w' _ => ∃ (j : Nat) (m' : Mem), i = j ∧ j = k ∧ j ≤ l.length ∧ m.le m' ∧ Ctx F m w w' [] m' [slA (.slice p j c) j ((l.take j).flatMap Wr.row) 69 3], fun _ _ _ i _ => (l.length - i).toNat, ⟨0, m, rfl, rfl, by omega, Mem.le_refl _, C.slNil⟩, ?_⟩
  clear C
  rintro p k c i w7 L8 _ ⟨j, m', rfl, rfl, hj, hm, D⟩
  by_cases hjl : j < l.length
  · rw [if_pos (by simpa using hjl)]
    obtain ⟨a, ha, hc⟩ := (hp.mono hm).elem wr_len hjl
    have ha : q.1 = some a := ha
    have hfw : ∀ {w' As}, Ctx F m w w' [] m' As → FactsW [((a.add (j * 3)).add 0, [.string l[j].key]), ((a.add (j * 3)).add 1, [.string l[j].val]), ((a.add (j * 3)).add 2, [.bool l[j].has])] w' [] := fun D =>
      D.memFact (mcells_part hc 0 _ (fun k v e => by match k, e with | 0, e => exact e)) (D.memFact (mcells_part hc 1 _ (fun k v e => by match k, e with | 0, e => exact e)) (D.memFact (mcells_part hc 2 _ (fun k v e => by match k, e with | 0, e => exact e)) (facts_nil _ _)))
    refine ⟨_, hfw D, by omega, by simpa using hjl, ?_⟩
    rw [ha, onSome_some]
    refine ⟨l[j].key, by rw [Int.toNat_natCast]; simp, by omega, by simpa using hjl, ?_⟩
    rw [onSome_some]
    refine ⟨l[j].val, by rw [Int.toNat_natCast]; simp, by omega, by simpa using hjl, ?_⟩
    rw [onSome_some]
    refine ⟨l[j].has, by rw [Int.toNat_natCast]; simp, fun w16 h16 => ?_⟩
    replace D := D.hid0 h16
    have D1 := (D.alloc l[j].row 69).swap
    have hcl : Cells _ ⟨w16.heap.size, 0, none⟩ l[j].row := (D.alloc l[j].row 69).blkCells (o := 0) fun k v e => by simpa using e
    obtain ⟨q2, c2, w25, hr, hkk, D2⟩ := D1.app2 (P := Tryd.prog) (bytes := 40) (t := 34) (t2 := 34) 34 (by kernel_rfl) (.some ⟨w16.heap.size, 0, none⟩ 1 1 l[j].row rfl hcl) (by unfold maxLen; omega) (by omega) (wr_one _)
    have e : IntKind.wrap .i64 ((j : Int) + 1) = ((j + 1 : Nat) : Int) := by rw [w_i64 (by omega) (by omega)]; omega
    refine ⟨hfw D1, q2, j + 1, c2, w25, hr, hkk.size, hfw D2, ?_⟩
    rw [e]
    refine ⟨⟨j + 1, m', rfl, rfl, hjl, hm, ?_⟩, Nat.le_of_eq (by show ((l.length : Int) - ((j + 1 : Nat) : Int)).toNat + 1 = ((l.length : Int) - (j : Int)).toNat; omega)⟩
    have e2 : (l.take (j + 1)).flatMap Wr.row = (l.take j).flatMap Wr.row ++ l[j].row := by rw [List.take_succ_eq_append_getElem hjl, List.flatMap_append]; simp
    rw [e2]
    exact Ctx.noL (D2.pk [0] [1] rfl)
  · rw [if_neg (by simpa using hjl)]
    have hj2 : j = l.length := by omega
    subst hj2
    rw [List.take_length] at D
    obtain ⟨m2, hm2, hs, D2⟩ := D.slShare
    exact Ctr.ret (m' := m2) (L := []) (p, c) rfl hs D2.noL
theorem c_RefProc (n l : Int) : Gives Tryd.prog 47 #[PV n l] (PV n l) := fun w => x_RefProc n l w _ fun w1 h1 => ⟨rfl, hid_below h1 (by simp) (Nat.le_refl _)⟩
theorem c_RefRes (c : Int) (s : ByteArray) : Gives Tryd.prog 45 #[.agg #[.int .u8 c, .string s]] (.agg #[.int .u8 c, .string s]) := fun w => x_RefRes c s w _ fun w1 h1 => ⟨rfl, hid_below h1 (by simp) (Nat.le_refl _)⟩
theorem c_RefID (x : I) : Gives Tryd.prog 43 #[x.V] x.V := by
  intro w
  refine x_RefID _ _ _ _ _ _ _ _ _ _ w _ ⟨[], facts_nil _ _, ?_, ?_⟩
  all_goals
    intro w2 L h1 h2
    have A := at_start h1 h2
    refine (c_RefProc x.n x.l).call fun w5 h5 => ⟨_, _, rfl, at_kept A h5, facts_nil _ _, [], facts_nil _ _, [], facts_nil _ _, [], facts_nil _ _, fun w11 h11 => ⟨rfl, ?_⟩⟩
    exact at_end (at_call A (Nat.le_refl _) h5) (Nat.le_refl _) h11
theorem c_Ref5 (e : En) : Ctr Tryd.prog 14 #[.agg e.row.toArray] (fun m => EnM m e) [] (fun f : En => .agg f.row.toArray) (fun f m => EnM m f ∧ f.er = e.er) (fun _ => []) := by
  refine Ctr.mk fun w F m C he => x_Ref5 _ _ _ _ _ _ _ _ _ _ _ _ _ _ _ _ _ _ _ _ _ _ w _ ⟨[], facts_nil _ _, fun w2 L3 h2 g2 => ?_⟩
  refine (C.hidL h2 g2).gives (c_RefID e.id) fun w5 k5 C => ⟨_, _, _, _, _, _, _, _, _, _, rfl, k5, facts_nil _ _, ?_⟩
  refine (c_RefParts e.pq e.ps (by have := he.pl; omega)).call (As := []) C he.p fun p m1 w17 hk hm1 hp C => ⟨_, _, _, rfl, hk, facts_nil _ _, ?_⟩
  refine C.gives (c_RefRes e.rc e.rv) fun w22 k22 C => ⟨_, _, rfl, k22, facts_nil _ _, ?_⟩
  refine (c_Ref4 e.wq e.ws (by have := he.wl; omega)).call (As := []) C (he.w.mono hm1) fun q m2 w26 hk hm2 hq C => ⟨_, _, _, rfl, hk, facts_nil _ _, ?_⟩
  refine C.gives (c_RefProc e.vn e.vl) fun w31 k31 C => ⟨_, _, rfl, k31, facts_nil _ _, fun w34 h34 => ?_⟩
  exact Ctr.ret (m' := m2) (L := []) { e with pq := p, wq := q } rfl ⟨⟨hp.mono hm2, hq, he.pl, he.wl⟩, rfl⟩ (C.hid0 h34)
end Go.Proofs
