import Derived.Test.YtjphfelmaingjaaU07m1
import Derived.Test.YtjphfelmaingjaaV07m2
import Derived.Test.YtjphfelmaingjaaXKey
import Derived.Test.YtjphfelmaingjaaXClear
set_option linter.unusedVariables false
set_option linter.unusedSimpArgs false
set_option maxRecDepth 10000
namespace Go.Proofs
open Go X RowKit
structure Pr where (n : Int) (l : Int)
@[reducible] def Pr.row (p : Pr) : List Value := [.int .u8 p.n, .int .u16 p.l]
theorem pr_len (p : Pr) : p.row.length = 2 := rfl
theorem pr_one (x : Pr) : ∀ u ∈ x.row, oneC u = true := by intro u h; simp [Pr.row] at h; rcases h with rfl | rfl <;> rfl
theorem pr_ext {a b : Pr} (h : a.n = b.n ∧ a.l = b.l) : a = b := by cases a; cases b; simp_all
instance : DecidableEq Pr := fun a b => decidable_of_iff (a.n = b.n ∧ a.l = b.l) ⟨pr_ext, fun h => by subst h; exact ⟨rfl, rfl⟩⟩
theorem pr_eq (a b : Pr) : ((a.n == b.n) && (a.l == b.l)) = decide (a = b) := by
  rw [Bool.eq_iff_iff, decide_eq_true_eq]
  simp only [Bool.and_eq_true, beq_iff_eq]
  exact ⟨fun h => pr_ext h, fun h => by subst h; exact ⟨rfl, rfl⟩⟩
theorem c_ProcP (p : Pr) : Gives Try.prog 31 #[.agg p.row.toArray] (.agg p.row.toArray) := c_Proc p.n p.l
theorem c_Procs (q : Sl) (l : List Pr) (hl : l.length * 4 ≤ 140737488355328) : Ctr Try.prog 32 #[slV q l.length] (fun m => MSrc m 2 (slV q l.length) l.length (l.flatMap Pr.row)) [] (fun p : Sl => slV p l.length) (fun p m => MSrc m 2 (slV p l.length) l.length (l.flatMap Pr.row)) (fun _ => []) := by
  refine Ctr.mk fun w F m C hp => x_Procs _ _ _ w _ ?_
  refine ⟨fun p k c i w' _ => ∃ (j : Nat) (m' : Mem), i = j ∧ j = k ∧ j ≤ l.length ∧ m.le m' ∧ Ctx F m w w' [] m' [slA (.slice p j c) j ((l.take j).flatMap Pr.row) 43 2], fun _ _ _ i _ => (l.length - i).toNat, ⟨0, m, rfl, rfl, by omega, Mem.le_refl _, C.slNil⟩, ?_⟩
  clear C
  rintro p k c i w7 L8 _ ⟨j, m', rfl, rfl, hj, hm, D⟩
  by_cases hjl : j < l.length
  · rw [if_pos (by simpa using hjl)]
    refine ⟨by omega, by simpa using hjl, ?_⟩
    obtain ⟨a, ha, hc⟩ := (hp.mono hm).elem pr_len hjl
    have ha : q.1 = some a := ha
    rw [ha, onSome_some]
    refine ⟨_, _, D.cells hc, ?_⟩
    refine D.gives (c_ProcP l[j]) fun w16 k16 D => ⟨_, _, rfl, k16.size, ?_⟩
    have D1 := (D.alloc l[j].row 43).swap
    have hcl : Cells _ ⟨w16.heap.size, 0, none⟩ l[j].row := (D.alloc l[j].row 43).blkCells (o := 0) fun k v e => by simpa using e
    obtain ⟨q2, c2, w25, hr, hkk, D2⟩ := D1.app2 (P := Try.prog) (bytes := 4) (t := 50) (t2 := 50) 50 (by kernel_rfl) (.some ⟨w16.heap.size, 0, none⟩ 1 1 l[j].row rfl hcl) (by unfold maxLen; omega) (by omega) (pr_one _)
    have e : IntKind.wrap .i64 ((j : Int) + 1) = ((j + 1 : Nat) : Int) := by rw [w_i64 (by omega) (by omega)]; omega
    refine ⟨q2, j + 1, c2, w25, hr, hkk.size, ?_⟩
    rw [e]
    refine ⟨⟨j + 1, m', rfl, rfl, hjl, hm, ?_⟩, Nat.le_of_eq (by show ((l.length : Int) - ((j + 1 : Nat) : Int)).toNat + 1 = ((l.length : Int) - (j : Int)).toNat; omega)⟩
    have e2 : (l.take (j + 1)).flatMap Pr.row = (l.take j).flatMap Pr.row ++ l[j].row := by rw [List.take_succ_eq_append_getElem hjl, List.flatMap_append]; simp
    rw [e2]
    exact Ctx.noL (D2.pk [0] [1] rfl)
  · rw [if_neg (by simpa using hjl)]
    have hj2 : j = l.length := by omega
    subst hj2
    rw [List.take_length] at D
    obtain ⟨m2, hm2, hs, D2⟩ := D.slShare
    exact Ctr.ret (m' := m2) (L := []) (p, c) rfl hs D2.noL
theorem c_EqualPr (q q' : Sl) (l l' : List Pr) (hb : l.length ≤ 140737488355328) : Ctr Try.prog 41 #[slV q l.length, slV q' l'.length] (fun m => MSrc m 2 (slV q l.length) l.length (l.flatMap Pr.row) ∧ MSrc m 2 (slV q' l'.length) l'.length (l'.flatMap Pr.row)) [] (fun _ : Unit => .bool (decide (l = l'))) (fun _ _ => True) (fun _ => []) := by
  refine Ctr.mk fun w F m C hp => x_EqualPr _ _ _ _ _ _ w _ ?_
  obtain ⟨h1, h2⟩ := hp
  by_cases hl : l.length = l'.length
  rotate_left
  · rw [if_pos (by simp; omega)]
    exact Ctr.ret () (by rw [decide_eq_false (fun h => hl (by rw [h]))]) trivial C
  rw [if_neg (by simp [hl])]
  refine ⟨fun i w' _ => ∃ j : Nat, i = j ∧ j ≤ l.length ∧ l.take j = l'.take j ∧ Ctx F m w w' [] m [], fun i _ => (l.length - i).toNat, ⟨0, rfl, by omega, rfl, C⟩, ?_⟩
  clear C
  rintro i w4 L5 _ ⟨j, rfl, hj, hjt, D⟩
  by_cases hjl : j < l.length
  · rw [if_pos (by simpa using hjl)]
    obtain ⟨a1, ha1, hc1⟩ := h1.elem pr_len hjl
    obtain ⟨a2, ha2, hc2⟩ := h2.elem pr_len (show j < l'.length by omega)
    refine ⟨by omega, by simpa using hjl, ?_⟩
    rw [ha1, onSome_some]
    refine ⟨_, _, D.cells hc1, by omega, by omega, ?_⟩
    rw [ha2, onSome_some]
    refine ⟨_, _, D.cells hc2, ?_⟩
    rw [pr_eq]
    by_cases he : l[j] = l'[j]
    · rw [if_neg (by simp [he])]
      intro w18 h18
      have e : IntKind.wrap .i64 ((j : Int) + 1) = ((j + 1 : Nat) : Int) := by rw [w_i64 (by omega) (by omega)]; omega
      rw [e]
      refine ⟨⟨j + 1, rfl, hjl, ?_, D.hid0 h18⟩, Nat.le_of_eq (by show ((l.length : Int) - ((j + 1 : Nat) : Int)).toNat + 1 = ((l.length : Int) - (j : Int)).toNat; omega)⟩
      rw [List.take_succ_eq_append_getElem hjl, List.take_succ_eq_append_getElem (by omega : j < l'.length), hjt, he]
    · rw [if_pos (by simp [he])]
      intro w19 h19
      refine Ctr.ret () ?_ trivial (D.hid0 h19)
      rw [decide_eq_false (fun h => he (by simp only [h]))]
  · rw [if_neg (by simpa using hjl)]
    have hj2 : j = l.length := by omega
    rw [hj2, List.take_length, hl, List.take_length] at hjt
    exact Ctr.ret () (by rw [decide_eq_true hjt]) trivial D
theorem c_SameProcs (q q' : Sl) (l l' : List Pr) (hb : l.length ≤ 140737488355328) : Ctr Try.prog 45 #[slV q l.length, slV q' l'.length] (fun m => MSrc m 2 (slV q l.length) l.length (l.flatMap Pr.row) ∧ MSrc m 2 (slV q' l'.length) l'.length (l'.flatMap Pr.row)) [] (fun _ : Unit => .bool (decide (l = l'))) (fun _ _ => True) (fun _ => []) := by
  refine Ctr.mk fun w F m C hp => x_SameProcs _ _ _ _ _ _ w _ ?_
  obtain ⟨h1, h2⟩ := hp
  by_cases hl : l.length = l'.length
  rotate_left
  · rw [if_pos (by simp; omega)]
    exact Ctr.ret () (by rw [decide_eq_false (fun h => hl (by rw [h]))]) trivial C
  rw [if_neg (by simp [hl])]
  refine ⟨fun i w' _ => ∃ j : Nat, i = j ∧ j ≤ l.length ∧ l.take j = l'.take j ∧ Ctx F m w w' [] m [], fun i _ => (l.length - i).toNat, ⟨0, rfl, by omega, rfl, C⟩, ?_⟩
  clear C
  rintro i w4 L5 _ ⟨j, rfl, hj, hjt, D⟩
  by_cases hjl : j < l.length
  · rw [if_pos (by simpa using hjl)]
    obtain ⟨a1, ha1, hc1⟩ := h1.elem pr_len hjl
    obtain ⟨a2, ha2, hc2⟩ := h2.elem pr_len (show j < l'.length by omega)
    refine ⟨by omega, by simpa using hjl, ?_⟩
    rw [ha1, onSome_some]
    refine ⟨_, _, D.cells hc1, by omega, by omega, ?_⟩
    rw [ha2, onSome_some]
    refine ⟨_, _, D.cells hc2, ?_⟩
    rw [pr_eq]
    by_cases he : l[j] = l'[j]
    · rw [if_neg (by simp [he])]
      intro w18 h18
      have e : IntKind.wrap .i64 ((j : Int) + 1) = ((j + 1 : Nat) : Int) := by rw [w_i64 (by omega) (by omega)]; omega
      rw [e]
      refine ⟨⟨j + 1, rfl, hjl, ?_, D.hid0 h18⟩, Nat.le_of_eq (by show ((l.length : Int) - ((j + 1 : Nat) : Int)).toNat + 1 = ((l.length : Int) - (j : Int)).toNat; omega)⟩
      rw [List.take_succ_eq_append_getElem hjl, List.take_succ_eq_append_getElem (by omega : j < l'.length), hjt, he]
    · rw [if_pos (by simp [he])]
      intro w19 h19
      refine Ctr.ret () ?_ trivial (D.hid0 h19)
      rw [decide_eq_false (fun h => he (by simp only [h]))]
  · rw [if_neg (by simpa using hjl)]
    have hj2 : j = l.length := by omega
    rw [hj2, List.take_length, hl, List.take_length] at hjt
    exact Ctr.ret () (by rw [decide_eq_true hjt]) trivial D
theorem en_one (x : En) : ∀ u ∈ x.row, oneC u = true := by intro u h; simp [En.row] at h; rcases h with rfl | rfl | rfl | rfl | rfl | rfl | rfl | rfl | rfl | rfl | rfl | rfl | rfl | rfl | rfl | rfl | rfl | rfl <;> rfl
def EsM (m : Mem) (q : Sl) (l : List En) : Prop := MSrc m 18 (slV q l.length) l.length (l.flatMap En.row) ∧ ∀ e ∈ l, EnM m e
theorem EsM.mono {m m' : Mem} {q : Sl} {l : List En} (h : EsM m q l) (hm : m.le m') : EsM m' q l := ⟨h.1.mono hm, fun e he => (h.2 e he).mono hm⟩
theorem c_Owns (q : Sl) (l : List En) (hl : l.length ≤ 100000) : Ctr Try.prog 33 #[slV q l.length] (fun m => EsM m q l) [] (fun f : Sl × List En => slV f.1 f.2.length) (fun f m => EsM m f.1 f.2 ∧ f.2.map En.er = l.map En.er) (fun _ => []) := by
  refine Ctr.mk fun w F m C hp => x_Owns _ _ _ w _ ?_
  obtain ⟨hp, he⟩ := hp
  refine ⟨fun p k c i w' _ => ∃ (j : Nat) (m' : Mem) (fs : List En), i = j ∧ k = fs.length ∧ j ≤ l.length ∧ m.le m' ∧ fs.map En.er = (l.take j).map En.er ∧ (∀ e ∈ fs, EnM m' e) ∧ Ctx F m w w' [] m' [slA (.slice p fs.length c) fs.length (fs.flatMap En.row) 157 18], fun _ _ _ i _ => (l.length - i).toNat, ⟨0, m, [], rfl, rfl, by omega, Mem.le_refl _, rfl, by simp, C.slNil⟩, ?_⟩
  clear C
  rintro p k c i w7 L8 _ ⟨j, m', fs, rfl, rfl, hj, hm, her, hfs, D⟩
  by_cases hjl : j < l.length
  rotate_left
  · rw [if_neg (by simpa using hjl)]
    have hj2 : j = l.length := by omega
    rw [hj2, List.take_length] at her
    obtain ⟨m2, hm2, hs, D2⟩ := D.slShare
    exact Ctr.ret (m' := m2) (L := []) ((p, c), fs) rfl ⟨⟨hs, fun e h => (hfs e h).mono hm2⟩, her⟩ D2.noL
  rw [if_pos (by simpa using hjl)]
  refine ⟨by omega, by simpa using hjl, ?_⟩
  have hfl : fs.length = j := by have := congrArg List.length her; simp at this; omega
  obtain ⟨a, ha, hc⟩ := (hp.mono hm).elem en_len hjl
  have ha : q.1 = some a := ha
  rw [ha, onSome_some]
  refine ⟨_, _, _, _, _, _, _, _, _, _, _, _, _, _, _, _, _, _, _, _, _, _, by rw [Int.toNat_natCast]; exact D.cells hc, ?_⟩
  refine (c_OwnE l[j]).call (As := [_]) D ((he _ (List.getElem_mem hjl)).mono hm) fun f m2 w33 hk hm2 hf D => ⟨_, _, _, _, _, _, _, _, _, _, _, _, _, _, _, _, _, _, _, _, _, _, rfl, hk.size, ?_⟩
  have D0 := (D.alloc f.row 157).swap
  have hcl : Cells _ ⟨w33.heap.size, 0, none⟩ f.row := (D.alloc f.row 157).blkCells (o := 0) fun k v e => by simpa using e
  obtain ⟨q2, c2, w67, hr, hkk, D2⟩ := Ctx.app2 (P := Try.prog) (bytes := 400) (t := 53) (t2 := 53) D0 53 (by kernel_rfl) (.some ⟨w33.heap.size, 0, none⟩ 1 1 f.row rfl hcl) (by unfold maxLen; omega) (by omega) (en_one _)
  have e1 : (fs ++ [f]).length = fs.length + 1 := by simp
  have e2 : (fs ++ [f]).flatMap En.row = fs.flatMap En.row ++ f.row := by simp
  have e : IntKind.wrap .i64 ((j : Int) + 1) = ((j + 1 : Nat) : Int) := by rw [w_i64 (by omega) (by omega)]; omega
  refine ⟨q2, _, c2, w67, hr, hkk.size, ?_⟩
  rw [e]
  refine ⟨⟨j + 1, m2, fs ++ [f], rfl, e1.symm, hjl, hm.le_trans hm2, ?_, ?_, ?_⟩, Nat.le_of_eq (by show ((l.length : Int) - ((j + 1 : Nat) : Int)).toNat + 1 = ((l.length : Int) - (j : Int)).toNat; omega)⟩
  · rw [List.take_succ_eq_append_getElem hjl, List.map_append, List.map_append, her]; simp [hf.2]
  · intro y hy
    rcases List.mem_append.1 hy with hy | hy
    · exact (hfs y hy).mono hm2
    · simp only [List.mem_singleton] at hy; subst hy; exact hf.1
  · rw [← e2, ← e1] at D2
    exact Ctx.noL (D2.pk [0] [1] rfl)
theorem c_rSameAll (q q' : Sl) (l l' : List En) (hb : l.length ≤ 1000000) : Ctr Try.prog 46 #[slV q l.length, slV q' l'.length] (fun m => EsM m q l ∧ EsM m q' l') [] (fun _ : Unit => .bool (decide (l.map En.er = l'.map En.er))) (fun _ _ => True) (fun _ => []) := by
  refine Ctr.mk fun w F m C hp => x_rSameAll _ _ _ _ _ _ w _ ?_
  obtain ⟨⟨h1, g1⟩, ⟨h2, g2⟩⟩ := hp
  by_cases hl : l.length = l'.length
  rotate_left
  · rw [if_pos (by simp; omega)]
    exact Ctr.ret () (by rw [decide_eq_false (fun h => hl (by simpa using congrArg List.length h))]) trivial C
  rw [if_neg (by simp [hl])]
  refine ⟨fun i w' _ => ∃ (j : Nat) (m' : Mem), i = j ∧ j ≤ l.length ∧ m.le m' ∧ (l.take j).map En.er = (l'.take j).map En.er ∧ Ctx F m w w' [] m' [], fun i _ => (l.length - i).toNat, ⟨0, m, rfl, by omega, Mem.le_refl _, rfl, C⟩, ?_⟩
  clear C
  rintro i w4 L5 _ ⟨j, m', rfl, hj, hm, hjt, D⟩
  by_cases hjl : j < l.length
  rotate_left
  · rw [if_neg (by simpa using hjl)]
    have hj2 : j = l.length := by omega
    rw [hj2, List.take_length, hl, List.take_length] at hjt
    exact Ctr.ret () (by rw [decide_eq_true hjt]) trivial D
  rw [if_pos (by simpa using hjl)]
  obtain ⟨a1, ha1, hc1⟩ := (h1.mono hm).elem en_len hjl
  obtain ⟨a2, ha2, hc2⟩ := (h2.mono hm).elem en_len (show j < l'.length by omega)
  refine ⟨_, D.memFact hc1 (D.memFact hc2 (facts_nil _ _)), by omega, by simpa using hjl, ?_⟩
  rw [ha1, onSome_some]
  refine ⟨_, _, _, _, _, _, _, _, _, _, _, _, _, _, _, _, _, _, _, _, _, _, by rw [Int.toNat_natCast]; exact List.mem_cons_self, by omega, by omega, ?_⟩
  rw [ha2, onSome_some]
  refine ⟨_, _, _, _, _, _, _, _, _, _, _, _, _, _, _, _, _, _, _, _, _, _, by rw [Int.toNat_natCast]; exact List.mem_cons_of_mem _ List.mem_cons_self, fun w53 h53 => ?_⟩
  replace D := D.hid0 h53

  refine (c_r5Same l[j] (l'[j]'(by omega))).call (As := []) D ⟨(g1 _ (List.getElem_mem hjl)).mono hm, (g2 _ (List.getElem_mem (by omega))).mono hm⟩ fun _ m2 w55 hk hm2 _ D => ⟨_, rfl, hk.size, ?_⟩
  by_cases he : l[j].er = (l'[j]'(by omega)).er
  · rw [if_neg (by simp [he])]
    have e : IntKind.wrap .i64 ((j : Int) + 1) = ((j + 1 : Nat) : Int) := by rw [w_i64 (by omega) (by omega)]; omega
    rw [e]
    refine ⟨⟨j + 1, m2, rfl, hjl, hm.le_trans hm2, ?_, D.noL⟩, Nat.le_of_eq (by show ((l.length : Int) - ((j + 1 : Nat) : Int)).toNat + 1 = ((l.length : Int) - (j : Int)).toNat; omega)⟩
    rw [List.take_succ_eq_append_getElem hjl, List.take_succ_eq_append_getElem (by omega : j < l'.length), List.map_append, List.map_append, hjt]; simp [he]
  · rw [if_pos (by simp [he])]
    refine Ctr.ret () ?_ trivial D
    rw [decide_eq_false (fun h => he ?_)]
    have := congrArg (fun z => z[j]?) h
    simpa [hjl, show j < l'.length by omega] using this
theorem c_EqualFuncE (q q' : Sl) (l l' : List En) (hb : l.length ≤ 1000000) : Ctr Try.prog 94 #[slV q l.length, slV q' l'.length, .func (.func 95) #[] #[]] (fun m => EsM m q l ∧ EsM m q' l') [] (fun _ : Unit => .bool (decide (l.map En.er = l'.map En.er))) (fun _ _ => True) (fun _ => []) := by
  refine Ctr.mk fun w F m C hp => x_EqualFuncE _ _ _ _ _ _ w _ ?_
  obtain ⟨⟨h1, g1⟩, ⟨h2, g2⟩⟩ := hp
  by_cases hl : l.length = l'.length
  rotate_left
  · rw [if_pos (by simp; omega)]
    exact Ctr.ret () (by rw [decide_eq_false (fun h => hl (by simpa using congrArg List.length h))]) trivial C
  rw [if_neg (by simp [hl])]
  refine ⟨fun i w' _ => ∃ (j : Nat) (m' : Mem), i = j ∧ j ≤ l.length ∧ m.le m' ∧ (l.take j).map En.er = (l'.take j).map En.er ∧ Ctx F m w w' [] m' [], fun i _ => (l.length - i).toNat, ⟨0, m, rfl, by omega, Mem.le_refl _, rfl, C⟩, ?_⟩
  clear C
  rintro i w4 L5 _ ⟨j, m', rfl, hj, hm, hjt, D⟩
  by_cases hjl : j < l.length
  rotate_left
  · rw [if_neg (by simpa using hjl)]
    have hj2 : j = l.length := by omega
    rw [hj2, List.take_length, hl, List.take_length] at hjt
    exact Ctr.ret () (by rw [decide_eq_true hjt]) trivial D
  rw [if_pos (by simpa using hjl)]
  obtain ⟨a1, ha1, hc1⟩ := (h1.mono hm).elem en_len hjl
  obtain ⟨a2, ha2, hc2⟩ := (h2.mono hm).elem en_len (show j < l'.length by omega)
  refine ⟨by omega, by simpa using hjl, ?_⟩
  rw [ha1, onSome_some]
  refine ⟨_, _, _, _, _, _, _, _, _, _, _, _, _, _, _, _, _, _, _, _, _, _, by rw [Int.toNat_natCast]; exact D.cells hc1, by omega, by omega, ?_⟩
  rw [ha2, onSome_some]
  refine ⟨_, _, _, _, _, _, _, _, _, _, _, _, _, _, _, _, _, _, _, _, _, _, by rw [Int.toNat_natCast]; exact D.cells hc2, fun w53 L53 h53 g53 => ?_⟩
  replace D := D.hidL h53 g53

  refine (c_eSame l[j] (l'[j]'(by omega))).call (As := []) D ⟨(g1 _ (List.getElem_mem hjl)).mono hm, (g2 _ (List.getElem_mem (by omega))).mono hm⟩ fun _ m2 w55 hk hm2 _ D => ⟨_, rfl, hk, ?_⟩
  by_cases he : l[j].er = (l'[j]'(by omega)).er
  · rw [if_neg (by simp [he])]
    have e : IntKind.wrap .i64 ((j : Int) + 1) = ((j + 1 : Nat) : Int) := by rw [w_i64 (by omega) (by omega)]; omega
    rw [e]
    refine ⟨⟨j + 1, m2, rfl, hjl, hm.le_trans hm2, ?_, D.noL⟩, Nat.le_of_eq (by show ((l.length : Int) - ((j + 1 : Nat) : Int)).toNat + 1 = ((l.length : Int) - (j : Int)).toNat; omega)⟩
    rw [List.take_succ_eq_append_getElem hjl, List.take_succ_eq_append_getElem (by omega : j < l'.length), List.map_append, List.map_append, hjt]; simp [he]
  · rw [if_pos (by simp [he])]
    refine Ctr.ret () ?_ trivial D
    rw [decide_eq_false (fun h => he ?_)]
    have := congrArg (fun z => z[j]?) h
    simpa [hjl, show j < l'.length by omega] using this
theorem c_eSameAll (q q' : Sl) (l l' : List En) (hb : l.length ≤ 1000000) : Ctr Try.prog 42 #[slV q l.length, slV q' l'.length] (fun m => EsM m q l ∧ EsM m q' l') [] (fun _ : Unit => .bool (decide (l.map En.er = l'.map En.er))) (fun _ _ => True) (fun _ => []) := by
  refine Ctr.mk fun w F m C hp => x_eSameAll _ _ _ _ _ _ w _ ?_
  exact (c_EqualFuncE q q' l l' hb).call (As := []) C hp fun _ m1 w2 hk hm _ C => ⟨_, rfl, hk.size, Ctr.ret () rfl trivial C⟩
/-! ### nobody, and those that nobody made -/
/-! ### views -/
structure Vw where (g n : Int) (q : Sl) (ms : List Pr)
@[reducible] def Vw.row (v : Vw) : List Value := [.int .u8 v.g, .int .u32 v.n, slV v.q v.ms.length]
def VwM (m : Mem) (v : Vw) : Prop := MSrc m 2 (slV v.q v.ms.length) v.ms.length (v.ms.flatMap Pr.row)
def Pr.ok (p : Pr) : Bool := decide (p.n < 16) && decide (p.l > 0)
/-- all may be, no node twice -/
abbrev okL (l : List Pr) : Prop := (∀ p ∈ l, p.ok = true) ∧ (l.map Pr.n).Nodup
def Vw.ok (v : Vw) : Bool := decide (v.g < 4 ∧ v.n ≠ 0 ∧ v.ms.length ≠ 0 ∧ v.ms.length ≤ 8 ∧ okL v.ms)
def metB (l : List Pr) (k : Int) : Bool := (l.map Pr.n).any (· == k)
def metL (l : List Pr) : List Value := [.bool (metB l 0), .bool (metB l 1), .bool (metB l 2), .bool (metB l 3), .bool (metB l 4), .bool (metB l 5), .bool (metB l 6), .bool (metB l 7), .bool (metB l 8), .bool (metB l 9), .bool (metB l 10), .bool (metB l 11), .bool (metB l 12), .bool (metB l 13), .bool (metB l 14), .bool (metB l 15)]
theorem metL_get (l : List Pr) {k : Int} (h0 : 0 ≤ k) (h1 : k < 16) : (metL l)[k.toNat]? = some (.bool (metB l k)) := by
  obtain ⟨i, rfl⟩ := Int.eq_ofNat_of_zero_le h0
  have hi : i < 16 := by omega
  match i, hi with
  | 0, _ | 1, _ | 2, _ | 3, _ | 4, _ | 5, _ | 6, _ | 7, _ | 8, _ | 9, _ | 10, _ | 11, _ | 12, _ | 13, _ | 14, _ | 15, _ => rfl
  | k + 16, h => exact absurd h (by omega)
theorem metL_put (l : List Pr) (p : Pr) (h0 : 0 ≤ p.n) (h1 : p.n < 16) : splice (metL l) p.n.toNat [.bool true] = metL (l ++ [p]) := by
  have key : ∀ i : Int, metB (l ++ [p]) i = (metB l i || (p.n == i)) := by intro i; simp [metB]
  obtain ⟨i, hk⟩ := Int.eq_ofNat_of_zero_le h0
  have hi : i < 16 := by omega
  simp only [metL, key, hk]
  match i, hi with
  | 0, _ | 1, _ | 2, _ | 3, _ | 4, _ | 5, _ | 6, _ | 7, _ | 8, _ | 9, _ | 10, _ | 11, _ | 12, _ | 13, _ | 14, _ | 15, _ => simp [splice]
  | k + 16, h => exact absurd h (by omega)
theorem okL_snoc {l : List Pr} {p : Pr} : okL (l ++ [p]) ↔ okL l ∧ p.ok = true ∧ metB l p.n = false := by
  have e : metB l p.n = false ↔ p.n ∉ l.map Pr.n := by
    rw [← Bool.not_eq_true, metB, List.any_eq_true]
    constructor
    · intro h hm; exact h ⟨_, hm, by simp⟩
    · rintro h ⟨x, hx, he⟩; exact h (by rw [← beq_iff_eq.1 he]; exact hx)
  rw [e]
  simp only [okL, List.mem_append, List.mem_singleton, List.map_append, List.map_cons, List.map_nil, List.nodup_append]
  constructor
  · rintro ⟨h1, h2, _, h3⟩
    exact ⟨⟨fun x hx => h1 x (.inl hx), h2⟩, h1 p (.inr rfl), fun hm => h3 p.n hm p.n (by simp) rfl⟩
  · rintro ⟨⟨h1, h2⟩, h3, h4⟩
    refine ⟨fun x hx => by rcases hx with hx | rfl; exact h1 x hx; exact h3, h2, by simp, fun a ha b hb hab => ?_⟩
    have hb : b = p.n := by simpa using hb
    subst hab; subst hb; exact h4 ha
theorem okL_take {l : List Pr} (h : okL l) (j : Nat) : okL (l.take j) := ⟨fun p hp => h.1 p (List.mem_of_mem_take hp), by
  rw [List.map_take]; exact h.2.sublist (List.take_sublist _ _)⟩
theorem c_pRight (p : Pr) : Gives Try.prog 52 #[.agg p.row.toArray] (.bool p.ok) := fun w => x_ProcRight _ _ w _ fun w1 h1 => ⟨rfl, hid_below h1 (by simp) (Nat.le_refl _)⟩
theorem c_rRightP (p : Pr) : Gives Try.prog 51 #[.agg p.row.toArray] (.bool p.ok) := fun w => x_rRightProc _ _ w _ fun w1 h1 => ⟨by
  have : decide (p.l ≥ 1) = decide (p.l > 0) := decide_eq_decide.2 (by omega)
  rw [this]; rfl, hid_below h1 (by simp) (Nat.le_refl _)⟩
/-! ### views -/
theorem c_vRight (v : Vw) (hr : ∀ p ∈ v.ms, 0 ≤ p.n) : Ctr Try.prog 86 #[.agg v.row.toArray] (fun m => VwM m v) [] (fun _ : Unit => .bool v.ok) (fun _ _ => True) (fun _ => []) := by
  refine Ctr.mk fun w F m C hv => x_vRight _ _ _ _ _ w _ ?_
  by_cases hg : (((decide (v.g ≥ 4) || (v.n == 0)) || (((v.ms.length : Nat) : Int) == 0)) || decide (((v.ms.length : Nat) : Int) > 8)) = true
  · rw [if_pos hg]
    intro w17 h17
    refine Ctr.ret () ?_ trivial (C.hid0 h17)
    have : v.ok = false := by
      simp only [Bool.or_eq_true, decide_eq_true_eq, beq_iff_eq] at hg
      simp only [Vw.ok, decide_eq_false_iff_not]
      rintro ⟨h1, h2, h3, h4, _⟩; omega
    rw [this]
  rw [if_neg hg]
  have hg' : v.g < 4 ∧ v.n ≠ 0 ∧ v.ms.length ≠ 0 ∧ v.ms.length ≤ 8 := by
    simp only [Bool.or_eq_true, decide_eq_true_eq, beq_iff_eq, not_or] at hg; omega
  have hok : v.ok = decide (okL v.ms) := by
    simp only [Vw.ok]
    congr 1
    exact propext ⟨fun h => h.2.2.2.2, fun h => ⟨hg'.1, hg'.2.1, hg'.2.2.1, hg'.2.2.2, h⟩⟩
  refine fun w1 L2 h1 g1 => ?_
  have C1 := (C.hidL h1 g1).alloc (metL []) 178
  refine ⟨fun i w' L' => ∃ j : Nat, i = j ∧ j ≤ v.ms.length ∧ okL (v.ms.take j) ∧ Ctx F m w w' L' m [blk w1.heap.size (metL (v.ms.take j)) 178], fun i _ => ((v.ms.length : Int) - i).toNat, ⟨0, rfl, by omega, ⟨by simp, by simp⟩, C1⟩, ?_⟩
  clear C C1
  rintro i w6 L7 _ ⟨j, rfl, hj, hjo, D⟩
  have bad : okL v.ms → ∀ {w' L'}, okL v.ms → Ctx F m w w' L' m [blk w1.heap.size (metL (v.ms.take j)) 178] → True := fun _ _ _ _ _ => trivial
  by_cases hjl : j < v.ms.length
  rotate_left
  · rw [if_neg (by simpa using hjl)]
    have hj2 : j = v.ms.length := by omega
    rw [hj2, List.take_length] at hjo
    exact Ctr.ret () (by rw [hok, decide_eq_true hjo]) trivial D.drop
  rw [if_pos (by simpa using hjl)]
  obtain ⟨a, ha, hc⟩ := hv.elem pr_len hjl
  have ha : v.q.1 = some a := ha
  refine ⟨by omega, by simpa using hjl, ?_⟩
  rw [ha, onSome_some, Int.toNat_natCast]
  have hr0 := hr _ (List.getElem_mem hjl)
  refine ⟨_, _, D.cells hc, D.cellsL hc, fun w11 L12 h11 g11 => ?_⟩
  have hsn : okL (v.ms.take (j + 1)) ↔ okL (v.ms.take j) ∧ v.ms[j].ok = true ∧ metB (v.ms.take j) v.ms[j].n = false := by
    rw [List.take_succ_eq_append_getElem hjl]; exact okL_snoc
  have no : ¬ (v.ms[j].ok = true ∧ metB (v.ms.take j) v.ms[j].n = false) → v.ok = false := fun h => by
    rw [hok, decide_eq_false]
    exact fun ho => h (hsn.1 (okL_take ho (j + 1))).2
  have hst : v.ms.take (j + 1) = v.ms.take j ++ [v.ms[j]] := List.take_succ_eq_append_getElem hjl
  generalize v.ms[j] = p at hc hr0 no hsn hst
  refine (D.hidL h11 g11).gives (c_pRight p) fun w14 k14 D => ⟨_, rfl, k14, ?_⟩
  cases hpo : p.ok with
  | false =>
    rw [if_neg (by decide)]
    exact Ctr.ret () (by rw [no (by simp [hpo])]) trivial D.drop
  | true =>
  rw [if_pos (by decide)]
  have h16 : p.n < 16 := by simp only [Pr.ok, Bool.and_eq_true, decide_eq_true_eq] at hpo; exact hpo.1
  refine ⟨hr0, h16, metB (v.ms.take j) p.n, ?_, by rw [addr_block]; exact D.blkAt.2, ?_⟩
  · rw [Nat.mul_one, Addr.add_mid]
    exact D.blkCell (j := 0 + p.n.toNat) (by rw [Nat.zero_add]; exact metL_get _ hr0 h16)
  cases hmb : metB (v.ms.take j) p.n with
  | true =>
    rw [if_pos (by decide)]
    exact Ctr.ret () (by rw [no (by simp [hmb])]) trivial D.drop
  | false =>
  rw [if_neg (by decide), Nat.mul_one, Addr.add_mid]
  have hk : p.n.toNat < 16 := by omega
  have hlen : 0 + p.n.toNat + 1 ≤ (metL (v.ms.take j)).length := by show 0 + p.n.toNat + 1 ≤ 16; omega
  have e : IntKind.wrap .i64 ((j : Int) + 1) = ((j + 1 : Nat) : Int) := by rw [w_i64 (by omega) (by omega)]; omega
  refine ⟨hr0, h16, rfl, D.there _ _ hlen, D.blkAt.2, rfl, ⟨j + 1, e, hjl, hsn.2 ⟨hjo, hpo, hmb⟩, ?_⟩, Nat.le_of_eq (by rw [e]; show ((v.ms.length : Int) - ((j + 1 : Nat) : Int)).toNat + 1 = ((v.ms.length : Int) - (j : Int)).toNat; omega)⟩
  have E := D.store (0 + p.n.toNat) [.bool true] hlen
  rw [Nat.zero_add, metL_put _ p hr0 h16, ← hst] at E
  rw [Nat.zero_add]
  exact E
theorem c_Own6 (v : Vw) (hl : v.ms.length ≤ 1000000) : Ctr Try.prog 30 #[.agg v.row.toArray] (fun m => VwM m v) [] (fun p : Sl => .agg (Vw.row { v with q := p }).toArray) (fun p m => VwM m { v with q := p }) (fun _ => []) := by
  refine Ctr.mk fun w F m C hv => x_Own6 _ _ _ _ _ w _ ⟨[], facts_nil _ _, fun w2 L3 h2 g2 => ?_⟩
  refine (c_Procs v.q v.ms (by omega)).call (As := []) (C.hidL h2 g2) hv fun p m1 w5 hk hm1 hp C => ⟨_, _, _, rfl, hk, facts_nil _ _, fun w9 h9 => ?_⟩
  exact Ctr.ret (m' := m1) (L := []) p rfl hp (C.hid0 h9)
theorem c_rRight (v : Vw) (hr : ∀ p ∈ v.ms, 0 ≤ p.n) (hn : 0 ≤ v.n) : Ctr Try.prog 91 #[.agg v.row.toArray] (fun m => VwM m v) [] (fun _ : Unit => .bool v.ok) (fun _ _ => True) (fun _ => []) := by
  refine Ctr.mk fun w F m C hv => x_rRight _ _ _ _ _ w _ ?_
  by_cases hg : (((decide (v.g ≥ 4) || decide (v.n < 1)) || decide (((v.ms.length : Nat) : Int) < 1)) || decide (((v.ms.length : Nat) : Int) > 8)) = true
  · rw [if_pos hg]
    intro w17 h17
    refine Ctr.ret () ?_ trivial (C.hid0 h17)
    have : v.ok = false := by
      simp only [Bool.or_eq_true, decide_eq_true_eq] at hg
      simp only [Vw.ok, decide_eq_false_iff_not]
      rintro ⟨h1, h2, h3, h4, _⟩; omega
    rw [this]
  rw [if_neg hg]
  have hg' : v.g < 4 ∧ v.n ≠ 0 ∧ v.ms.length ≠ 0 ∧ v.ms.length ≤ 8 := by
    simp only [Bool.or_eq_true, decide_eq_true_eq, not_or] at hg; omega
  have hok : v.ok = decide (okL v.ms) := by
    simp only [Vw.ok]
    congr 1
    exact propext ⟨fun h => h.2.2.2.2, fun h => ⟨hg'.1, hg'.2.1, hg'.2.2.1, hg'.2.2.2, h⟩⟩
  refine fun w1 L2 h1 g1 => ?_
  refine ⟨fun i w' L' => ∃ j : Nat, i = j ∧ j ≤ v.ms.length ∧ okL (v.ms.take j) ∧ Ctx F m w w' L' m [], fun i _ => ((v.ms.length : Int) - i).toNat, ⟨0, rfl, by omega, ⟨by simp, by simp⟩, C.hidL h1 g1⟩, ?_⟩
  clear C
  rintro i w6 L7 _ ⟨j, rfl, hj, hjo, D⟩
  by_cases hjl : j < v.ms.length
  rotate_left
  · rw [if_neg (by simpa using hjl)]
    have hj2 : j = v.ms.length := by omega
    rw [hj2, List.take_length] at hjo
    exact Ctr.ret () (by rw [hok, decide_eq_true hjo]) trivial D
  rw [if_pos (by simpa using hjl)]
  obtain ⟨a, ha, hc⟩ := hv.elem pr_len hjl
  have ha : v.q.1 = some a := ha
  refine ⟨by omega, by simpa using hjl, ?_⟩
  rw [ha, onSome_some, Int.toNat_natCast]
  refine ⟨_, _, D.cells hc, D.cellsL hc, ?_⟩
  have hsn : okL (v.ms.take (j + 1)) ↔ okL (v.ms.take j) ∧ v.ms[j].ok = true ∧ metB (v.ms.take j) v.ms[j].n = false := by
    rw [List.take_succ_eq_append_getElem hjl]; exact okL_snoc
  have no : ¬ (v.ms[j].ok = true ∧ metB (v.ms.take j) v.ms[j].n = false) → v.ok = false := fun h => by
    rw [hok, decide_eq_false]
    exact fun ho => h (hsn.1 (okL_take ho (j + 1))).2
  refine D.gives (c_rRightP v.ms[j]) fun w12 k12 D => ⟨_, rfl, k12, ?_⟩
  cases hpo : v.ms[j].ok with
  | false =>
    rw [if_pos (by decide)]
    exact Ctr.ret () (by rw [no (by simp [hpo])]) trivial D
  | true =>
  rw [if_neg (by decide)]
  refine ⟨fun i w' L' => ∃ k : Nat, i = k ∧ k ≤ j ∧ metB (v.ms.take k) v.ms[j].n = false ∧ Ctx F m w w' L' m [], fun i _ => ((j : Int) - i).toNat, ⟨0, rfl, by omega, rfl, D⟩, ?_⟩
  clear D
  rintro i w17 L18 _ ⟨k, rfl, hk, hkm, D⟩
  by_cases hkj : k < j
  rotate_left
  · rw [if_neg (by simpa using hkj)]
    have hk2 : k = j := by omega
    subst hk2
    have e : IntKind.wrap .i64 ((k : Int) + 1) = ((k + 1 : Nat) : Int) := by rw [w_i64 (by omega) (by omega)]; omega
    rw [e]
    exact ⟨rfl, ⟨k + 1, rfl, hjl, hsn.2 ⟨hjo, hpo, hkm⟩, D⟩, Nat.le_of_eq (by show ((v.ms.length : Int) - ((k + 1 : Nat) : Int)).toNat + 1 = ((v.ms.length : Int) - (k : Int)).toNat; omega)⟩
  rw [if_pos (by simpa using hkj)]
  have hkl : k < v.ms.length := by omega
  obtain ⟨a2, ha2, hc2⟩ := hv.elem pr_len hkl
  have e2 : a2 = a := by
    have : v.q.1 = some a2 := ha2
    rw [ha] at this; injection this with this; exact this.symm
  subst e2
  refine ⟨by omega, by omega, ?_⟩
  rw [onSome_some, Int.toNat_natCast]
  refine ⟨_, D.cells hc2 0 _ rfl, by rw [addr_block]; exact D.cellsL hc2, by omega, by omega, ?_⟩
  rw [onSome_some]
  refine ⟨_, D.cells hc 0 _ rfl, by rw [addr_block]; exact D.cellsL hc, ?_⟩
  have hmk : metB (v.ms.take (k + 1)) v.ms[j].n = (v.ms[k].n == v.ms[j].n) := by
    rw [List.take_succ_eq_append_getElem hkl]
    simp only [metB, List.map_append, List.any_append] at hkm ⊢
    rw [hkm]; simp
  by_cases he : v.ms[k].n = v.ms[j].n
  · rw [if_pos (by simp [he])]
    refine fun w25 h25 => Ctr.ret (m' := m) (L := []) () ?_ trivial (D.hid0 h25)
    rw [no]
    rintro ⟨_, h⟩
    have h3 : metB (v.ms.take j) v.ms[j].n = true := by
      rw [metB, List.any_eq_true]
      refine ⟨v.ms[k].n, List.mem_map.2 ⟨v.ms[k], ?_, rfl⟩, by simp [he]⟩
      exact List.mem_take_iff_getElem.2 ⟨k, by omega, rfl⟩
    rw [h3] at h; cases h
  · rw [if_neg (by simp [he])]
    have e : IntKind.wrap .i64 ((k : Int) + 1) = ((k + 1 : Nat) : Int) := by rw [w_i64 (by omega) (by omega)]; omega
    rw [e]
    exact fun w23 L24 h23 g23 => ⟨rfl, ⟨k + 1, rfl, hkj, by rw [hmk]; simp [he], D.hidL h23 g23⟩, Nat.le_of_eq (by show ((j : Int) - ((k + 1 : Nat) : Int)).toNat + 1 = ((j : Int) - (k : Int)).toNat; omega)⟩

end Go.Proofs
