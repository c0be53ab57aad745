import Derived.Test.YtgpjjmpjddpocaaDoorU03p
set_option linter.unusedVariables false
set_option linter.unusedSimpArgs false
set_option maxRecDepth 10000
namespace Go.Proofs
open Go X RowKit
/-! ### the document's parts -/
theorem fits_bool (p : Pt) (hk : 0 ≤ p.k) : (((((((decide (p.g < 4) && decide (p.k ≤ 4)) && decide ((((p.key.size) : Nat) : Int) ≥ 1)) && decide ((((p.key.size) : Nat) : Int) ≤ 16)) && decide ((((p.val.size) : Nat) : Int) ≤ 64)) && ((p.k == 1) || decide (p.val.size = 0))) && decide (p.n ≥ 0)) && (((p.k == 2) || (p.k == 3)) || (p.n == 0))) = p.right := by
  rw [Bool.eq_iff_iff]
  simp only [Pt.right, Pt.fits, Bool.and_eq_true, Bool.or_eq_true, decide_eq_true_eq, beq_iff_eq, Bool.not_eq_true', decide_eq_false_iff_not]
  by_cases h1 : p.k = 1
  · rw [if_pos h1]; simp only [Bool.and_eq_true, decide_eq_true_eq, beq_iff_eq]; omega
  rw [if_neg h1]
  by_cases h2 : p.k = 2 ∨ p.k = 3
  · rw [if_pos h2]; simp only [Bool.and_eq_true, decide_eq_true_eq, beq_iff_eq]; omega
  rw [if_neg h2]
  by_cases h3 : p.k = 0 ∨ p.k = 4
  · rw [if_pos h3]; simp only [Bool.and_eq_true, decide_eq_true_eq, beq_iff_eq]; omega
  rw [if_neg h3]
  simp only [Bool.false_eq_true, and_false, iff_false]; omega
theorem c_r3Right (p : Pt) (hk : 0 ≤ p.k) : Gives Tryd.prog 12 #[.agg p.row.toArray] (.bool p.right) := by
  intro w
  refine x_r3Right _ _ _ _ _ w _ fun w1 h1 => ⟨?_, hid_below h1 (by simp) (Nat.le_refl _)⟩
  rw [emp_eq, fits_bool p hk]
theorem c_r3RightAll (q : Sl) (l : List Pt) (hl : l.length * 48 ≤ 140737488355328) (hk : ∀ p ∈ l, 0 ≤ p.k) : Ctr Tryd.prog 15 #[slV q l.length] (fun m => MSrc m 5 (slV q l.length) l.length (l.flatMap Pt.row)) [] (fun _ : Unit => .bool (rightL l)) (fun _ m => True) (fun _ => []) := by
  refine Ctr.mk fun w F m C hp => x_r3RightAll _ _ _ w _ ?_
  refine ⟨fun i w' _ => ∃ j : Nat, i = j ∧ j ≤ l.length ∧ (l.take j).all Pt.right = true ∧ Ctx F m w w' [] m [], fun i _ => (l.length - i).toNat, ⟨0, rfl, by omega, rfl, C⟩, ?_⟩
  clear C
  rintro i w4 L5 _ ⟨j, rfl, hj, hjt, D⟩
  by_cases hjl : j < l.length ∧ j < 10
  · rw [if_pos (by simp; omega)]
    obtain ⟨hjl, h10⟩ := hjl
    obtain ⟨a, ha, hc⟩ := hp.elem pt_len hjl
    have ha : q.1 = some a := ha
    refine ⟨by omega, by simpa using hjl, ?_⟩
    rw [ha, onSome_some]
    refine ⟨_, _, _, _, _, D.cells hc, ?_⟩
    refine D.gives (c_r3Right l[j] (hk _ (List.getElem_mem hjl))) fun w13 k13 D => ⟨_, rfl, k13.size, ?_⟩
    by_cases hr : l[j].right = true
    · rw [if_neg (by simp [hr])]
      have e : IntKind.wrap .i64 ((j : Int) + 1) = ((j + 1 : Nat) : Int) := by rw [w_i64 (by omega) (by omega)]; omega
      rw [e]
      refine ⟨⟨j + 1, rfl, hjl, ?_, D⟩, Nat.le_of_eq (by show ((l.length : Int) - ((j + 1 : Nat) : Int)).toNat + 1 = ((l.length : Int) - (j : Int)).toNat; omega)⟩
      rw [List.take_succ_eq_append_getElem hjl, List.all_append, hjt]; simp [hr]
    · rw [if_pos (by simp [hr])]
      refine Ctr.ret () ?_ trivial D
      have : l.all Pt.right = false := by rw [Bool.eq_false_iff]; intro h; exact hr (List.all_eq_true.1 h _ (List.getElem_mem hjl))
      rw [rightL, this, Bool.and_false]
  · rw [if_neg (by simp; omega)]
    refine Ctr.ret () ?_ trivial D
    by_cases hj2 : j = l.length
    · rw [hj2, List.take_length] at hjt
      rw [rightL, hjt, Bool.and_true]
      congr 2
      rw [Bool.eq_iff_iff]; simp; omega
    · have h2 : ¬ l.length ≤ 4 := by omega
      rw [rightL]
      have h3 : ¬ ((l.length : Nat) : Int) ≤ 4 := by omega
      simp [h2, h3]
theorem ba_eq (a b : ByteArray) : (a == b) = true ↔ a = b := by
  obtain ⟨a⟩ := a
  obtain ⟨b⟩ := b
  constructor
  · intro h
    have : (a == b) = true := h
    rw [beq_iff_eq.1 this]
  · intro h
    injection h with h; subst h
    show (a == a) = true
    simp
theorem pt_eq (a b : Pt) : ((a.g == b.g) && ((a.k == b.k) && ((a.key == b.key) && ((a.val == b.val) && (a.n == b.n))))) = decide (a = b) := by
  rw [Bool.eq_iff_iff, decide_eq_true_eq]
  simp only [Bool.and_eq_true, beq_iff_eq, ba_eq]
  exact ⟨fun h => pt_ext h, fun h => by subst h; exact ⟨rfl, rfl, rfl, rfl, rfl⟩⟩
theorem c_Part (p : Pt) : Gives Tryd.prog 6 #[.agg p.row.toArray] (.agg p.row.toArray) := fun w => x_Part _ _ _ _ _ w _ fun w1 h1 => ⟨rfl, hid_below h1 (by simp) (Nat.le_refl _)⟩
theorem c_Res3 (c : Int) (v : ByteArray) : Gives Tryd.prog 16 #[.agg #[.int .u8 c, .string v]] (.agg #[.int .u8 c, .string v]) := fun w => x_Res3 _ _ w _ fun w1 h1 => ⟨rfl, hid_below h1 (by simp) (Nat.le_refl _)⟩
theorem c_RefRes (c : Int) (v : ByteArray) : Gives Tryd.prog 20 #[.agg #[.int .u8 c, .string v]] (.agg #[.int .u8 c, .string v]) := fun w => x_RefRes _ _ w _ fun w1 h1 => ⟨rfl, hid_below h1 (by simp) (Nat.le_refl _)⟩
/-! ### lists -/
theorem c_r3Same (q q' : Sl) (l l' : List Pt) (hb : l.length ≤ 140737488355328) : Ctr Tryd.prog 24 #[slV q l.length, slV q' l'.length] (fun m => MSrc m 5 (slV q l.length) l.length (l.flatMap Pt.row) ∧ MSrc m 5 (slV q' l'.length) l'.length (l'.flatMap Pt.row)) [] (fun _ : Unit => .bool (decide (l = l'))) (fun _ _ => True) (fun _ => []) := by
  refine Ctr.mk fun w F m C hp => x_r3Same _ _ _ _ _ _ w _ ?_
  obtain ⟨h1, h2⟩ := hp
  by_cases hl : l.length = l'.length
  rotate_left
  · rw [if_pos (by simp; omega)]
    exact Ctr.ret () (by rw [decide_eq_false (fun h => hl (by rw [h]))]) trivial C
  rw [if_neg (by simp [hl])]
  refine ⟨fun i w' _ => ∃ j : Nat, i = j ∧ j ≤ l.length ∧ l.take j = l'.take j ∧ Ctx F m w w' [] m [], fun i _ => (l.length - i).toNat, ⟨0, rfl, by omega, rfl, C⟩, ?_⟩
  clear C
  rintro i w4 L5 _ ⟨j, rfl, hj, hjt, D⟩
  by_cases hjl : j < l.length
  · rw [if_pos (by simpa using hjl)]
    obtain ⟨a1, ha1, hc1⟩ := h1.elem pt_len hjl
    obtain ⟨a2, ha2, hc2⟩ := h2.elem pt_len (show j < l'.length by omega)
    refine ⟨by omega, by simpa using hjl, ?_⟩
    rw [ha1, onSome_some]
    refine ⟨_, _, _, _, _, D.cells hc1, by omega, by omega, ?_⟩
    rw [ha2, onSome_some]
    refine ⟨_, _, _, _, _, D.cells hc2, ?_⟩
    rw [pt_eq]
    by_cases he : l[j] = l'[j]
    · rw [if_neg (by simp [he])]
      intro w18 h18
      have e : IntKind.wrap .i64 ((j : Int) + 1) = ((j + 1 : Nat) : Int) := by rw [w_i64 (by omega) (by omega)]; omega
      rw [e]
      refine ⟨⟨j + 1, rfl, hjl, ?_, D.hid0 h18⟩, Nat.le_of_eq (by show ((l.length : Int) - ((j + 1 : Nat) : Int)).toNat + 1 = ((l.length : Int) - (j : Int)).toNat; omega)⟩
      rw [List.take_succ_eq_append_getElem hjl, List.take_succ_eq_append_getElem (by omega : j < l'.length), hjt, he]
    · rw [if_pos (by simp [he])]
      intro w19 h19
      refine Ctr.ret () ?_ trivial (D.hid0 h19)
      rw [decide_eq_false (fun h => he (by simp only [h]))]
  · rw [if_neg (by simpa using hjl)]
    have hj2 : j = l.length := by omega
    rw [hj2, List.take_length, hl, List.take_length] at hjt
    exact Ctr.ret () (by rw [decide_eq_true hjt]) trivial D
theorem c_Parts (q : Sl) (l : List Pt) (hl : l.length * 48 ≤ 140737488355328) : Ctr Tryd.prog 14 #[slV q l.length] (fun m => MSrc m 5 (slV q l.length) l.length (l.flatMap Pt.row)) [] (fun p : Sl => slV p l.length) (fun p m => MSrc m 5 (slV p l.length) l.length (l.flatMap Pt.row)) (fun _ => []) := by
  refine Ctr.mk fun w F m C hp => x_Parts _ _ _ w _ ?_
  refine ⟨fun p k c i w' _ => ∃ (j : Nat) (m' : Mem), i = j ∧ j = k ∧ j ≤ l.length ∧ m.le m' ∧ Ctx F m w w' [] m' [slA (.slice p j c) j ((l.take j).flatMap Pt.row) 24 5], fun _ _ _ i _ => (l.length - i).toNat, ⟨0, m, rfl, rfl, by omega, Mem.le_refl _, C.slNil⟩, ?_⟩
  clear C
  rintro p k c i w7 L8 _ ⟨j, m', rfl, rfl, hj, hm, D⟩
  by_cases hjl : j < l.length
  · rw [if_pos (by simpa using hjl)]
    refine ⟨by omega, by simpa using hjl, ?_⟩
    obtain ⟨a, ha, hc⟩ := (hp.mono hm).elem pt_len hjl
    have ha : q.1 = some a := ha
    rw [ha, onSome_some]
    refine ⟨_, _, _, _, _, D.cells hc, ?_⟩
    refine D.gives (c_Part l[j]) fun w16 k16 D => ⟨_, _, _, _, _, rfl, k16.size, ?_⟩
    have D1 := (D.alloc l[j].row 24).swap
    have hcl : Cells _ ⟨w16.heap.size, 0, none⟩ l[j].row := (D.alloc l[j].row 24).blkCells (o := 0) fun k v e => by simpa using e
    obtain ⟨q2, c2, w25, hr, hkk, D2⟩ := D1.app2 (P := Tryd.prog) (bytes := 48) (t := 36) (t2 := 36) 36 (by kernel_rfl) (.some ⟨w16.heap.size, 0, none⟩ 1 1 l[j].row rfl hcl) (by unfold maxLen; omega) (by omega) (pt_one _)
    have e : IntKind.wrap .i64 ((j : Int) + 1) = ((j + 1 : Nat) : Int) := by rw [w_i64 (by omega) (by omega)]; omega
    refine ⟨q2, j + 1, c2, w25, hr, hkk.size, ?_⟩
    rw [e]
    refine ⟨⟨j + 1, m', rfl, rfl, hjl, hm, ?_⟩, Nat.le_of_eq (by show ((l.length : Int) - ((j + 1 : Nat) : Int)).toNat + 1 = ((l.length : Int) - (j : Int)).toNat; omega)⟩
    have e2 : (l.take (j + 1)).flatMap Pt.row = (l.take j).flatMap Pt.row ++ l[j].row := by rw [List.take_succ_eq_append_getElem hjl, List.flatMap_append]; simp
    rw [e2]
    exact Ctx.noL (D2.pk [0] [1] rfl)
  · rw [if_neg (by simpa using hjl)]
    have hj2 : j = l.length := by omega
    subst hj2
    rw [List.take_length] at D
    obtain ⟨m2, hm2, hs, D2⟩ := D.slShare
    exact Ctr.ret (m' := m2) (L := []) (p, c) rfl hs D2.noL
theorem mcells_part {m : Mem} {a : Addr} {cs : List Value} (h : MCells m a cs) (o : Nat) (us : List Value) (hu : ∀ j v, us[j]? = some v → cs[o + j]? = some v) : MCells m (a.add o) us := fun j v e => by
  rw [Addr.add_add]; exact h _ _ (hu j v e)
structure Wr where (key : ByteArray) (val : ByteArray) (has : Bool)
@[reducible] def Wr.row (p : Wr) : List Value := [.string p.key, .string p.val, .bool p.has]
theorem wr_len (p : Wr) : p.row.length = 3 := rfl
theorem wr_one (x : Wr) : ∀ u ∈ x.row, oneC u = true := by intro u h; simp [Wr.row] at h; rcases h with rfl | rfl | rfl <;> rfl
theorem wr_ext {a b : Wr} (h : a.key = b.key ∧ a.val = b.val ∧ a.has = b.has) : a = b := by cases a; cases b; simp_all
instance : DecidableEq Wr := fun a b => decidable_of_iff (a.key = b.key ∧ a.val = b.val ∧ a.has = b.has) ⟨wr_ext, fun h => by subst h; exact ⟨rfl, rfl, rfl⟩⟩
end Go.Proofs
