import Derived.Test.YtjphfelmaingjaaU07fa
import Derived.Test.YtjphfelmaingjaaV07fa
import Derived.Test.YtjphfelmaingjaaXKey
import Derived.Test.YtjphfelmaingjaaXClear
import Derived.Test.YtjphfelmaingjaaV07fc
set_option linter.unusedVariables false
set_option linter.unusedSimpArgs false
set_option maxRecDepth 10000
namespace Go.Proofs
open Go X RowKit
structure Pr where (n : Int) (l : Int)
@[reducible] def Pr.row (p : Pr) : List Value := [.int .u8 p.n, .int .u16 p.l]
theorem pr_len (p : Pr) : p.row.length = 2 := rfl
theorem pr_one (x : Pr) : ∀ u ∈ x.row, oneC u = true := by intro u h; simp [Pr.row] at h; rcases h with rfl | rfl <;> rfl
theorem pr_ext {a b : Pr} (h : a.n = b.n ∧ a.l = b.l) : a = b := by cases a; cases b; simp_all
instance : DecidableEq Pr := fun a b => decidable_of_iff (a.n = b.n ∧ a.l = b.l) ⟨pr_ext, fun h => by subst h; exact ⟨rfl, rfl⟩⟩
theorem pr_eq (a b : Pr) : ((a.n == b.n) && (a.l == b.l)) = decide (a = b) := by
  rw [Bool.eq_iff_iff, decide_eq_true_eq]
  simp only [Bool.and_eq_true, beq_iff_eq]
  exact ⟨fun h => pr_ext h, fun h => by subst h; exact ⟨rfl, rfl⟩⟩
theorem c_ProcP (p : Pr) : Gives Try.prog 31 #[.agg p.row.toArray] (.agg p.row.toArray) := c_Proc p.n p.l
theorem c_Procs (q : Sl) (l : List Pr) (hl : l.length * 4 ≤ 140737488355328) : Ctr Try.prog 32 #[slV q l.length] (fun m => MSrc m 2 (slV q l.length) l.length (l.flatMap Pr.row)) [] (fun p : Sl => slV p l.length) (fun p m => MSrc m 2 (slV p l.length) l.length (l.flatMap Pr.row)) (fun _ => []) := by
  refine Ctr.mk fun w F m C hp => x_Procs _ _ _ w _ ?_
  refine ⟨fun p k c i w' _ => ∃ (j : Nat) (m' : Mem), i = j ∧ j = k ∧ j ≤ l.length ∧ m.le m' ∧ Ctx F m w w' [] m' [slA (.slice p j c) j ((l.take j).flatMap Pr.row) 43 2], fun _ _ _ i _ => (l.length - i).toNat, ⟨0, m, rfl, rfl, by omega, Mem.le_refl _, C.slNil⟩, ?_⟩
  clear C
  rintro p k c i w7 L8 _ ⟨j, m', rfl, rfl, hj, hm, D⟩
  by_cases hjl : j < l.length
  · rw [if_pos (by simpa using hjl)]
    refine ⟨by omega, by simpa using hjl, ?_⟩
    obtain ⟨a, ha, hc⟩ := (hp.mono hm).elem pr_len hjl
    have ha : q.1 = some a := ha
    rw [ha, onSome_some]
    refine ⟨_, _, D.cells hc, ?_⟩
    refine D.gives (c_ProcP l[j]) fun w16 k16 D => ⟨_, _, rfl, k16.size, ?_⟩
    have D1 := (D.alloc l[j].row 43).swap
    have hcl : Cells _ ⟨w16.heap.size, 0, none⟩ l[j].row := (D.alloc l[j].row 43).blkCells (o := 0) fun k v e => by simpa using e
    obtain ⟨q2, c2, w25, hr, hkk, D2⟩ := D1.app2 (P := Try.prog) (bytes := 4) (t := 50) (t2 := 50) 50 (by kernel_rfl) (.some ⟨w16.heap.size, 0, none⟩ 1 1 l[j].row rfl hcl) (by unfold maxLen; omega) (by omega) (pr_one _)
    have e : IntKind.wrap .i64 ((j : Int) + 1) = ((j + 1 : Nat) : Int) := by rw [w_i64 (by omega) (by omega)]; omega
    refine ⟨q2, j + 1, c2, w25, hr, hkk.size, ?_⟩
    rw [e]
    refine ⟨⟨j + 1, m', rfl, rfl, hjl, hm, ?_⟩, Nat.le_of_eq (by show ((l.length : Int) - ((j + 1 : Nat) : Int)).toNat + 1 = ((l.length : Int) - (j : Int)).toNat; omega)⟩
    have e2 : (l.take (j + 1)).flatMap Pr.row = (l.take j).flatMap Pr.row ++ l[j].row := by rw [List.take_succ_eq_append_getElem hjl, List.flatMap_append]; simp
    rw [e2]
    exact Ctx.noL (D2.pk [0] [1] rfl)
  · rw [if_neg (by simpa using hjl)]
    have hj2 : j = l.length := by omega
    subst hj2
    rw [List.take_length] at D
    obtain ⟨m2, hm2, hs, D2⟩ := D.slShare
    exact Ctr.ret (m' := m2) (L := []) (p, c) rfl hs D2.noL
theorem c_EqualPr (q q' : Sl) (l l' : List Pr) (hb : l.length ≤ 140737488355328) : Ctr Try.prog 41 #[slV q l.length, slV q' l'.length] (fun m => MSrc m 2 (slV q l.length) l.length (l.flatMap Pr.row) ∧ MSrc m 2 (slV q' l'.length) l'.length (l'.flatMap Pr.row)) [] (fun _ : Unit => .bool (decide (l = l'))) (fun _ _ => True) (fun _ => []) := by
  refine Ctr.mk fun w F m C hp => x_EqualPr _ _ _ _ _ _ w _ ?_
  obtain ⟨h1, h2⟩ := hp
  by_cases hl : l.length = l'.length
  rotate_left
  · rw [if_pos (by simp; omega)]
    exact Ctr.ret () (by rw [decide_eq_false (fun h => hl (by rw [h]))]) trivial C
  rw [if_neg (by simp [hl])]
  refine ⟨fun i w' _ => ∃ j : Nat, i = j ∧ j ≤ l.length ∧ l.take j = l'.take j ∧ Ctx F m w w' [] m [], fun i _ => (l.length - i).toNat, ⟨0, rfl, by omega, rfl, C⟩, ?_⟩
  clear C
  rintro i w4 L5 _ ⟨j, rfl, hj, hjt, D⟩
  by_cases hjl : j < l.length
  · rw [if_pos (by simpa using hjl)]
    obtain ⟨a1, ha1, hc1⟩ := h1.elem pr_len hjl
    obtain ⟨a2, ha2, hc2⟩ := h2.elem pr_len (show j < l'.length by omega)
    refine ⟨by omega, by simpa using hjl, ?_⟩
    rw [ha1, onSome_some]
    refine ⟨_, _, D.cells hc1, by omega, by omega, ?_⟩
    rw [ha2, onSome_some]
    refine ⟨_, _, D.cells hc2, ?_⟩
    rw [pr_eq]
    by_cases he : l[j] = l'[j]
    · rw [if_neg (by simp [he])]
      intro w18 h18
      have e : IntKind.wrap .i64 ((j : Int) + 1) = ((j + 1 : Nat) : Int) := by rw [w_i64 (by omega) (by omega)]; omega
      rw [e]
      refine ⟨⟨j + 1, rfl, hjl, ?_, D.hid0 h18⟩, Nat.le_of_eq (by show ((l.length : Int) - ((j + 1 : Nat) : Int)).toNat + 1 = ((l.length : Int) - (j : Int)).toNat; omega)⟩
      rw [List.take_succ_eq_append_getElem hjl, List.take_succ_eq_append_getElem (by omega : j < l'.length), hjt, he]
    · rw [if_pos (by simp [he])]
      intro w19 h19
      refine Ctr.ret () ?_ trivial (D.hid0 h19)
      rw [decide_eq_false (fun h => he (by simp only [h]))]
  · rw [if_neg (by simpa using hjl)]
    have hj2 : j = l.length := by omega
    rw [hj2, List.take_length, hl, List.take_length] at hjt
    exact Ctr.ret () (by rw [decide_eq_true hjt]) trivial D
theorem c_SameProcs (q q' : Sl) (l l' : List Pr) (hb : l.length ≤ 140737488355328) : Ctr Try.prog 45 #[slV q l.length, slV q' l'.length] (fun m => MSrc m 2 (slV q l.length) l.length (l.flatMap Pr.row) ∧ MSrc m 2 (slV q' l'.length) l'.length (l'.flatMap Pr.row)) [] (fun _ : Unit => .bool (decide (l = l'))) (fun _ _ => True) (fun _ => []) := by
  refine Ctr.mk fun w F m C hp => x_SameProcs _ _ _ _ _ _ w _ ?_
  obtain ⟨h1, h2⟩ := hp
  by_cases hl : l.length = l'.length
  rotate_left
  · rw [if_pos (by simp; omega)]
    exact Ctr.ret () (by rw [decide_eq_false (fun h => hl (by rw [h]))]) trivial C
  rw [if_neg (by simp [hl])]
  refine ⟨fun i w' _ => ∃ j : Nat, i = j ∧ j ≤ l.length ∧ l.take j = l'.take j ∧ Ctx F m w w' [] m [], fun i _ => (l.length - i).toNat, ⟨0, rfl, by omega, rfl, C⟩, ?_⟩
  clear C
  rintro i w4 L5 _ ⟨j, rfl, hj, hjt, D⟩
  by_cases hjl : j < l.length
  · rw [if_pos (by simpa using hjl)]
    obtain ⟨a1, ha1, hc1⟩ := h1.elem pr_len hjl
    obtain ⟨a2, ha2, hc2⟩ := h2.elem pr_len (show j < l'.length by omega)
    refine ⟨by omega, by simpa using hjl, ?_⟩
    rw [ha1, onSome_some]
    refine ⟨_, _, D.cells hc1, by omega, by omega, ?_⟩
    rw [ha2, onSome_some]
    refine ⟨_, _, D.cells hc2, ?_⟩
    rw [pr_eq]
    by_cases he : l[j] = l'[j]
    · rw [if_neg (by simp [he])]
      intro w18 h18
      have e : IntKind.wrap .i64 ((j : Int) + 1) = ((j + 1 : Nat) : Int) := by rw [w_i64 (by omega) (by omega)]; omega
      rw [e]
      refine ⟨⟨j + 1, rfl, hjl, ?_, D.hid0 h18⟩, Nat.le_of_eq (by show ((l.length : Int) - ((j + 1 : Nat) : Int)).toNat + 1 = ((l.length : Int) - (j : Int)).toNat; omega)⟩
      rw [List.take_succ_eq_append_getElem hjl, List.take_succ_eq_append_getElem (by omega : j < l'.length), hjt, he]
    · rw [if_pos (by simp [he])]
      intro w19 h19
      refine Ctr.ret () ?_ trivial (D.hid0 h19)
      rw [decide_eq_false (fun h => he (by simp only [h]))]
  · rw [if_neg (by simpa using hjl)]
    have hj2 : j = l.length := by omega
    rw [hj2, List.take_length, hl, List.take_length] at hjt
    exact Ctr.ret () (by rw [decide_eq_true hjt]) trivial D
theorem en_one (x : En) : ∀ u ∈ x.row, oneC u = true := by intro u h; simp [En.row] at h; rcases h with rfl | rfl | rfl | rfl | rfl | rfl | rfl | rfl | rfl | rfl | rfl | rfl | rfl | rfl | rfl | rfl | rfl | rfl <;> rfl
def EsM (m : Mem) (q : Sl) (l : List En) : Prop := MSrc m 18 (slV q l.length) l.length (l.flatMap En.row) ∧ ∀ e ∈ l, EnM m e
theorem EsM.mono {m m' : Mem} {q : Sl} {l : List En} (h : EsM m q l) (hm : m.le m') : EsM m' q l := ⟨h.1.mono hm, fun e he => (h.2 e he).mono hm⟩
theorem c_Owns (q : Sl) (l : List En) (hl : l.length ≤ 100000) : Ctr Try.prog 33 #[slV q l.length] (fun m => EsM m q l) [] (fun f : Sl × List En => slV f.1 f.2.length) (fun f m => EsM m f.1 f.2 ∧ f.2.map En.er = l.map En.er) (fun _ => []) := by
  refine Ctr.mk fun w F m C hp => x_Owns _ _ _ w _ ?_
  obtain ⟨hp, he⟩ := hp
  refine ⟨fun p k c i w' _ => ∃ (j : Nat) (m' : Mem) (fs : List En), i = j ∧ k = fs.length ∧ j ≤ l.length ∧ m.le m' ∧ fs.map En.er = (l.take j).map En.er ∧ (∀ e ∈ fs, EnM m' e) ∧ Ctx F m w w' [] m' [slA (.slice p fs.length c) fs.length (fs.flatMap En.row) 157 18], fun _ _ _ i _ => (l.length - i).toNat, ⟨0, m, [], rfl, rfl, by omega, Mem.le_refl _, rfl, by simp, C.slNil⟩, ?_⟩
  clear C
  rintro p k c i w7 L8 _ ⟨j, m', fs, rfl, rfl, hj, hm, her, hfs, D⟩
  by_cases hjl : j < l.length
  rotate_left
  · rw [if_neg (by simpa using hjl)]
    have hj2 : j = l.length := by omega
    rw [hj2, List.take_length] at her
    obtain ⟨m2, hm2, hs, D2⟩ := D.slShare
    exact Ctr.ret (m' := m2) (L := []) ((p, c), fs) rfl ⟨⟨hs, fun e h => (hfs e h).mono hm2⟩, her⟩ D2.noL
  rw [if_pos (by simpa using hjl)]
  refine ⟨by omega, by simpa using hjl, ?_⟩
  have hfl : fs.length = j := by have := congrArg List.length her; simp at this; omega
  obtain ⟨a, ha, hc⟩ := (hp.mono hm).elem en_len hjl
  have ha : q.1 = some a := ha
  rw [ha, onSome_some]
  refine ⟨_, _, _, _, _, _, _, _, _, _, _, _, _, _, _, _, _, _, _, _, _, _, by rw [Int.toNat_natCast]; exact D.cells hc, ?_⟩
  refine (c_OwnE l[j]).call (As := [_]) D ((he _ (List.getElem_mem hjl)).mono hm) fun f m2 w33 hk hm2 hf D => ⟨_, _, _, _, _, _, _, _, _, _, _, _, _, _, _, _, _, _, _, _, _, _, rfl, hk.size, ?_⟩
  have D0 := (D.alloc f.row 157).swap
  have hcl : Cells _ ⟨w33.heap.size, 0, none⟩ f.row := (D.alloc f.row 157).blkCells (o := 0) fun k v e => by simpa using e
  obtain ⟨q2, c2, w67, hr, hkk, D2⟩ := Ctx.app2 (P := Try.prog) (bytes := 400) (t := 53) (t2 := 53) D0 53 (by kernel_rfl) (.some ⟨w33.heap.size, 0, none⟩ 1 1 f.row rfl hcl) (by unfold maxLen; omega) (by omega) (en_one _)
  have e1 : (fs ++ [f]).length = fs.length + 1 := by simp
  have e2 : (fs ++ [f]).flatMap En.row = fs.flatMap En.row ++ f.row := by simp
  have e : IntKind.wrap .i64 ((j : Int) + 1) = ((j + 1 : Nat) : Int) := by rw [w_i64 (by omega) (by omega)]; omega
  refine ⟨q2, _, c2, w67, hr, hkk.size, ?_⟩
  rw [e]
  refine ⟨⟨j + 1, m2, fs ++ [f], rfl, e1.symm, hjl, hm.le_trans hm2, ?_, ?_, ?_⟩, Nat.le_of_eq (by show ((l.length : Int) - ((j + 1 : Nat) : Int)).toNat + 1 = ((l.length : Int) - (j : Int)).toNat; omega)⟩
  · rw [List.take_succ_eq_append_getElem hjl, List.map_append, List.map_append, her]; simp [hf.2]
  · intro y hy
    rcases List.mem_append.1 hy with hy | hy
    · exact (hfs y hy).mono hm2
    · simp only [List.mem_singleton] at hy; subst hy; exact hf.1
  · rw [← e2, ← e1] at D2
    exact Ctx.noL (D2.pk [0] [1] rfl)
theorem c_rSameAll (q q' : Sl) (l l' : List En) (hb : l.length ≤ 1000000) : Ctr Try.prog 46 #[slV q l.length, slV q' l'.length] (fun m => EsM m q l ∧ EsM m q' l') [] (fun _ : Unit => .bool (decide (l.map En.er = l'.map En.er))) (fun _ _ => True) (fun _ => []) := by
  refine Ctr.mk fun w F m C hp => x_rSameAll _ _ _ _ _ _ w _ ?_
  obtain ⟨⟨h1, g1⟩, ⟨h2, g2⟩⟩ := hp
  by_cases hl : l.length = l'.length
  rotate_left
  · rw [if_pos (by simp; omega)]
    exact Ctr.ret () (by rw [decide_eq_false (fun h => hl (by simpa using congrArg List.length h))]) trivial C
  rw [if_neg (by simp [hl])]
  refine ⟨fun i w' _ => ∃ (j : Nat) (m' : Mem), i = j ∧ j ≤ l.length ∧ m.le m' ∧ (l.take j).map En.er = (l'.take j).map En.er ∧ Ctx F m w w' [] m' [], fun i _ => (l.length - i).toNat, ⟨0, m, rfl, by omega, Mem.le_refl _, rfl, C⟩, ?_⟩
  clear C
  rintro i w4 L5 _ ⟨j, m', rfl, hj, hm, hjt, D⟩
  by_cases hjl : j < l.length
  rotate_left
  · rw [if_neg (by simpa using hjl)]
    have hj2 : j = l.length := by omega
    rw [hj2, List.take_length, hl, List.take_length] at hjt
    exact Ctr.ret () (by rw [decide_eq_true hjt]) trivial D
  rw [if_pos (by simpa using hjl)]
  obtain ⟨a1, ha1, hc1⟩ := (h1.mono hm).elem en_len hjl
  obtain ⟨a2, ha2, hc2⟩ := (h2.mono hm).elem en_len (show j < l'.length by omega)
  refine ⟨_, D.memFact hc1 (D.memFact hc2 (facts_nil _ _)), by omega, by simpa using hjl, ?_⟩
  rw [ha1, onSome_some]
  refine ⟨_, _, _, _, _, _, _, _, _, _, _, _, _, _, _, _, _, _, _, _, _, _, by rw [Int.toNat_natCast]; exact List.mem_cons_self, by omega, by omega, ?_⟩
  rw [ha2, onSome_some]
  refine ⟨_, _, _, _, _, _, _, _, _, _, _, _, _, _, _, _, _, _, _, _, _, _, by rw [Int.toNat_natCast]; exact List.mem_cons_of_mem _ List.mem_cons_self, fun w53 h53 => ?_⟩
  replace D := D.hid0 h53

  refine (c_r5Same l[j] (l'[j]'(by omega))).call (As := []) D ⟨(g1 _ (List.getElem_mem hjl)).mono hm, (g2 _ (List.getElem_mem (by omega))).mono hm⟩ fun _ m2 w55 hk hm2 _ D => ⟨_, rfl, hk.size, ?_⟩
  by_cases he : l[j].er = (l'[j]'(by omega)).er
  · rw [if_neg (by simp [he])]
    have e : IntKind.wrap .i64 ((j : Int) + 1) = ((j + 1 : Nat) : Int) := by rw [w_i64 (by omega) (by omega)]; omega
    rw [e]
    refine ⟨⟨j + 1, m2, rfl, hjl, hm.le_trans hm2, ?_, D.noL⟩, Nat.le_of_eq (by show ((l.length : Int) - ((j + 1 : Nat) : Int)).toNat + 1 = ((l.length : Int) - (j : Int)).toNat; omega)⟩
    rw [List.take_succ_eq_append_getElem hjl, List.take_succ_eq_append_getElem (by omega : j < l'.length), List.map_append, List.map_append, hjt]; simp [he]
  · rw [if_pos (by simp [he])]
    refine Ctr.ret () ?_ trivial D
    rw [decide_eq_false (fun h => he ?_)]
    have := congrArg (fun z => z[j]?) h
    simpa [hjl, show j < l'.length by omega] using this
theorem c_EqualFuncE (q q' : Sl) (l l' : List En) (hb : l.length ≤ 1000000) : Ctr Try.prog 94 #[slV q l.length, slV q' l'.length, .func (.func 95) #[] #[]] (fun m => EsM m q l ∧ EsM m q' l') [] (fun _ : Unit => .bool (decide (l.map En.er = l'.map En.er))) (fun _ _ => True) (fun _ => []) := by
  refine Ctr.mk fun w F m C hp => x_EqualFuncE _ _ _ _ _ _ w _ ?_
  obtain ⟨⟨h1, g1⟩, ⟨h2, g2⟩⟩ := hp
  by_cases hl : l.length = l'.length
  rotate_left
  · rw [if_pos (by simp; omega)]
    exact Ctr.ret () (by rw [decide_eq_false (fun h => hl (by simpa using congrArg List.length h))]) trivial C
  rw [if_neg (by simp [hl])]
  refine ⟨fun i w' _ => ∃ (j : Nat) (m' : Mem), i = j ∧ j ≤ l.length ∧ m.le m' ∧ (l.take j).map En.er = (l'.take j).map En.er ∧ Ctx F m w w' [] m' [], fun i _ => (l.length - i).toNat, ⟨0, m, rfl, by omega, Mem.le_refl _, rfl, C⟩, ?_⟩
  clear C
  rintro i w4 L5 _ ⟨j, m', rfl, hj, hm, hjt, D⟩
  by_cases hjl : j < l.length
  rotate_left
  · rw [if_neg (by simpa using hjl)]
    have hj2 : j = l.length := by omega
    rw [hj2, List.take_length, hl, List.take_length] at hjt
    exact Ctr.ret () (by rw [decide_eq_true hjt]) trivial D
  rw [if_pos (by simpa using hjl)]
  obtain ⟨a1, ha1, hc1⟩ := (h1.mono hm).elem en_len hjl
  obtain ⟨a2, ha2, hc2⟩ := (h2.mono hm).elem en_len (show j < l'.length by omega)
  refine ⟨by omega, by simpa using hjl, ?_⟩
  rw [ha1, onSome_some]
  refine ⟨_, _, _, _, _, _, _, _, _, _, _, _, _, _, _, _, _, _, _, _, _, _, by rw [Int.toNat_natCast]; exact D.cells hc1, by omega, by omega, ?_⟩
  rw [ha2, onSome_some]
  refine ⟨_, _, _, _, _, _, _, _, _, _, _, _, _, _, _, _, _, _, _, _, _, _, by rw [Int.toNat_natCast]; exact D.cells hc2, fun w53 L53 h53 g53 => ?_⟩
  replace D := D.hidL h53 g53

  refine (c_eSame l[j] (l'[j]'(by omega))).call (As := []) D ⟨(g1 _ (List.getElem_mem hjl)).mono hm, (g2 _ (List.getElem_mem (by omega))).mono hm⟩ fun _ m2 w55 hk hm2 _ D => ⟨_, rfl, hk, ?_⟩
  by_cases he : l[j].er = (l'[j]'(by omega)).er
  · rw [if_neg (by simp [he])]
    have e : IntKind.wrap .i64 ((j : Int) + 1) = ((j + 1 : Nat) : Int) := by rw [w_i64 (by omega) (by omega)]; omega
    rw [e]
    refine ⟨⟨j + 1, m2, rfl, hjl, hm.le_trans hm2, ?_, D.noL⟩, Nat.le_of_eq (by show ((l.length : Int) - ((j + 1 : Nat) : Int)).toNat + 1 = ((l.length : Int) - (j : Int)).toNat; omega)⟩
    rw [List.take_succ_eq_append_getElem hjl, List.take_succ_eq_append_getElem (by omega : j < l'.length), List.map_append, List.map_append, hjt]; simp [he]
  · rw [if_pos (by simp [he])]
    refine Ctr.ret () ?_ trivial D
    rw [decide_eq_false (fun h => he ?_)]
    have := congrArg (fun z => z[j]?) h
    simpa [hjl, show j < l'.length by omega] using this
theorem c_eSameAll (q q' : Sl) (l l' : List En) (hb : l.length ≤ 1000000) : Ctr Try.prog 42 #[slV q l.length, slV q' l'.length] (fun m => EsM m q l ∧ EsM m q' l') [] (fun _ : Unit => .bool (decide (l.map En.er = l'.map En.er))) (fun _ _ => True) (fun _ => []) := by
  refine Ctr.mk fun w F m C hp => x_eSameAll _ _ _ _ _ _ w _ ?_
  exact (c_EqualFuncE q q' l l' hb).call (As := []) C hp fun _ m1 w2 hk hm _ C => ⟨_, rfl, hk.size, Ctr.ret () rfl trivial C⟩
/-! ### nobody, and those that nobody made -/
/-! ### views -/
structure Vw where (g n : Int) (q : Sl) (ms : List Pr)
@[reducible] def Vw.row (v : Vw) : List Value := [.int .u8 v.g, .int .u32 v.n, slV v.q v.ms.length]
def VwM (m : Mem) (v : Vw) : Prop := MSrc m 2 (slV v.q v.ms.length) v.ms.length (v.ms.flatMap Pr.row)
def Pr.ok (p : Pr) : Bool := decide (p.n < 16) && decide (p.l > 0)
/-- all may be, no node twice -/
abbrev okL (l : List Pr) : Prop := (∀ p ∈ l, p.ok = true) ∧ (l.map Pr.n).Nodup
def Vw.ok (v : Vw) : Bool := decide (v.g < 4 ∧ v.n ≠ 0 ∧ v.ms.length ≠ 0 ∧ v.ms.length ≤ 8 ∧ okL v.ms)
def metB (l : List Pr) (k : Int) : Bool := (l.map Pr.n).any (· == k)
def metL (l : List Pr) : List Value := [.bool (metB l 0), .bool (metB l 1), .bool (metB l 2), .bool (metB l 3), .bool (metB l 4), .bool (metB l 5), .bool (metB l 6), .bool (metB l 7), .bool (metB l 8), .bool (metB l 9), .bool (metB l 10), .bool (metB l 11), .bool (metB l 12), .bool (metB l 13), .bool (metB l 14), .bool (metB l 15)]
theorem metL_get (l : List Pr) {k : Int} (h0 : 0 ≤ k) (h1 : k < 16) : (metL l)[k.toNat]? = some (.bool (metB l k)) := by
  obtain ⟨i, rfl⟩ := Int.eq_ofNat_of_zero_le h0
  have hi : i < 16 := by omega
  match i, hi with
  | 0, _ | 1, _ | 2, _ | 3, _ | 4, _ | 5, _ | 6, _ | 7, _ | 8, _ | 9, _ | 10, _ | 11, _ | 12, _ | 13, _ | 14, _ | 15, _ => rfl
  | k + 16, h => exact absurd h (by omega)
theorem metL_put (l : List Pr) (p : Pr) (h0 : 0 ≤ p.n) (h1 : p.n < 16) : splice (metL l) p.n.toNat [.bool true] = metL (l ++ [p]) := by
  have key : ∀ i : Int, metB (l ++ [p]) i = (metB l i || (p.n == i)) := by intro i; simp [metB]
  obtain ⟨i, hk⟩ := Int.eq_ofNat_of_zero_le h0
  have hi : i < 16 := by omega
  simp only [metL, key, hk]
  match i, hi with
  | 0, _ | 1, _ | 2, _ | 3, _ | 4, _ | 5, _ | 6, _ | 7, _ | 8, _ | 9, _ | 10, _ | 11, _ | 12, _ | 13, _ | 14, _ | 15, _ => simp [splice]
  | k + 16, h => exact absurd h (by omega)
theorem okL_snoc {l : List Pr} {p : Pr} : okL (l ++ [p]) ↔ okL l ∧ p.ok = true ∧ metB l p.n = false := by
  have e : metB l p.n = false ↔ p.n ∉ l.map Pr.n := by
    rw [← Bool.not_eq_true, metB, List.any_eq_true]
    constructor
    · intro h hm; exact h ⟨_, hm, by simp⟩
    · rintro h ⟨x, hx, he⟩; exact h (by rw [← beq_iff_eq.1 he]; exact hx)
  rw [e]
  simp only [okL, List.mem_append, List.mem_singleton, List.map_append, List.map_cons, List.map_nil, List.nodup_append]
  constructor
  · rintro ⟨h1, h2, _, h3⟩
    exact ⟨⟨fun x hx => h1 x (.inl hx), h2⟩, h1 p (.inr rfl), fun hm => h3 p.n hm p.n (by simp) rfl⟩
  · rintro ⟨⟨h1, h2⟩, h3, h4⟩
    refine ⟨fun x hx => by rcases hx with hx | rfl; exact h1 x hx; exact h3, h2, by simp, fun a ha b hb hab => ?_⟩
    have hb : b = p.n := by simpa using hb
    subst hab; subst hb; exact h4 ha
theorem okL_take {l : List Pr} (h : okL l) (j : Nat) : okL (l.take j) := ⟨fun p hp => h.1 p (List.mem_of_mem_take hp), by
  rw [List.map_take]; exact h.2.sublist (List.take_sublist _ _)⟩
theorem c_pRight (p : Pr) : Gives Try.prog 52 #[.agg p.row.toArray] (.bool p.ok) := fun w => x_ProcRight _ _ w _ fun w1 h1 => ⟨rfl, hid_below h1 (by simp) (Nat.le_refl _)⟩
theorem c_rRightP (p : Pr) : Gives Try.prog 51 #[.agg p.row.toArray] (.bool p.ok) := fun w => x_rRightProc _ _ w _ fun w1 h1 => ⟨by
  have : decide (p.l ≥ 1) = decide (p.l > 0) := decide_eq_decide.2 (by omega)
  rw [this]; rfl, hid_below h1 (by simp) (Nat.le_refl _)⟩
/-! ### views -/
theorem c_vRight (v : Vw) (hr : ∀ p ∈ v.ms, 0 ≤ p.n) : Ctr Try.prog 86 #[.agg v.row.toArray] (fun m => VwM m v) [] (fun _ : Unit => .bool v.ok) (fun _ _ => True) (fun _ => []) := by
  refine Ctr.mk fun w F m C hv => x_vRight _ _ _ _ _ w _ ?_
  by_cases hg : (((decide (v.g ≥ 4) || (v.n == 0)) || (((v.ms.length : Nat) : Int) == 0)) || decide (((v.ms.length : Nat) : Int) > 8)) = true
  · rw [if_pos hg]
    intro w17 h17
    refine Ctr.ret () ?_ trivial (C.hid0 h17)
    have : v.ok = false := by
      simp only [Bool.or_eq_true, decide_eq_true_eq, beq_iff_eq] at hg
      simp only [Vw.ok, decide_eq_false_iff_not]
      rintro ⟨h1, h2, h3, h4, _⟩; omega
    rw [this]
  rw [if_neg hg]
  have hg' : v.g < 4 ∧ v.n ≠ 0 ∧ v.ms.length ≠ 0 ∧ v.ms.length ≤ 8 := by
    simp only [Bool.or_eq_true, decide_eq_true_eq, beq_iff_eq, not_or] at hg; omega
  have hok : v.ok = decide (okL v.ms) := by
    simp only [Vw.ok]
    congr 1
    exact propext ⟨fun h => h.2.2.2.2, fun h => ⟨hg'.1, hg'.2.1, hg'.2.2.1, hg'.2.2.2, h⟩⟩
  refine fun w1 L2 h1 g1 => ?_
  have C1 := (C.hidL h1 g1).alloc (metL []) 178
  refine ⟨fun i w' L' => ∃ j : Nat, i = j ∧ j ≤ v.ms.length ∧ okL (v.ms.take j) ∧ Ctx F m w w' L' m [blk w1.heap.size (metL (v.ms.take j)) 178], fun i _ => ((v.ms.length : Int) - i).toNat, ⟨0, rfl, by omega, ⟨by simp, by simp⟩, C1⟩, ?_⟩
  clear C C1
  rintro i w6 L7 _ ⟨j, rfl, hj, hjo, D⟩
  have bad : okL v.ms → ∀ {w' L'}, okL v.ms → Ctx F m w w' L' m [blk w1.heap.size (metL (v.ms.take j)) 178] → True := fun _ _ _ _ _ => trivial
  by_cases hjl : j < v.ms.length
  rotate_left
  · rw [if_neg (by simpa using hjl)]
    have hj2 : j = v.ms.length := by omega
    rw [hj2, List.take_length] at hjo
    exact Ctr.ret () (by rw [hok, decide_eq_true hjo]) trivial D.drop
  rw [if_pos (by simpa using hjl)]
  obtain ⟨a, ha, hc⟩ := hv.elem pr_len hjl
  have ha : v.q.1 = some a := ha
  refine ⟨by omega, by simpa using hjl, ?_⟩
  rw [ha, onSome_some, Int.toNat_natCast]
  have hr0 := hr _ (List.getElem_mem hjl)
  refine ⟨_, _, D.cells hc, D.cellsL hc, fun w11 L12 h11 g11 => ?_⟩
  have hsn : okL (v.ms.take (j + 1)) ↔ okL (v.ms.take j) ∧ v.ms[j].ok = true ∧ metB (v.ms.take j) v.ms[j].n = false := by
    rw [List.take_succ_eq_append_getElem hjl]; exact okL_snoc
  have no : ¬ (v.ms[j].ok = true ∧ metB (v.ms.take j) v.ms[j].n = false) → v.ok = false := fun h => by
    rw [hok, decide_eq_false]
    exact fun ho => h (hsn.1 (okL_take ho (j + 1))).2
  have hst : v.ms.take (j + 1) = v.ms.take j ++ [v.ms[j]] := List.take_succ_eq_append_getElem hjl
  generalize v.ms[j] = p at hc hr0 no hsn hst
  refine (D.hidL h11 g11).gives (c_pRight p) fun w14 k14 D => ⟨_, rfl, k14, ?_⟩
  cases hpo : p.ok with
  | false =>
    rw [if_neg (by decide)]
    exact Ctr.ret () (by rw [no (by simp [hpo])]) trivial D.drop
  | true =>
  rw [if_pos (by decide)]
  have h16 : p.n < 16 := by simp only [Pr.ok, Bool.and_eq_true, decide_eq_true_eq] at hpo; exact hpo.1
  refine ⟨hr0, h16, metB (v.ms.take j) p.n, ?_, by rw [addr_block]; exact D.blkAt.2, ?_⟩
  · rw [Nat.mul_one, Addr.add_mid]
    exact D.blkCell (j := 0 + p.n.toNat) (by rw [Nat.zero_add]; exact metL_get _ hr0 h16)
  cases hmb : metB (v.ms.take j) p.n with
  | true =>
    rw [if_pos (by decide)]
    exact Ctr.ret () (by rw [no (by simp [hmb])]) trivial D.drop
  | false =>
  rw [if_neg (by decide), Nat.mul_one, Addr.add_mid]
  have hk : p.n.toNat < 16 := by omega
  have hlen : 0 + p.n.toNat + 1 ≤ (metL (v.ms.take j)).length := by show 0 + p.n.toNat + 1 ≤ 16; omega
  have e : IntKind.wrap .i64 ((j : Int) + 1) = ((j + 1 : Nat) : Int) := by rw [w_i64 (by omega) (by omega)]; omega
  refine ⟨hr0, h16, rfl, D.there _ _ hlen, D.blkAt.2, rfl, ⟨j + 1, e, hjl, hsn.2 ⟨hjo, hpo, hmb⟩, ?_⟩, Nat.le_of_eq (by rw [e]; show ((v.ms.length : Int) - ((j + 1 : Nat) : Int)).toNat + 1 = ((v.ms.length : Int) - (j : Int)).toNat; omega)⟩
  have E := D.store (0 + p.n.toNat) [.bool true] hlen
  rw [Nat.zero_add, metL_put _ p hr0 h16, ← hst] at E
  rw [Nat.zero_add]
  exact E
theorem c_Own6 (v : Vw) (hl : v.ms.length ≤ 1000000) : Ctr Try.prog 30 #[.agg v.row.toArray] (fun m => VwM m v) [] (fun p : Sl => .agg (Vw.row { v with q := p }).toArray) (fun p m => VwM m { v with q := p }) (fun _ => []) := by
  refine Ctr.mk fun w F m C hv => x_Own6 _ _ _ _ _ w _ ⟨[], facts_nil _ _, fun w2 L3 h2 g2 => ?_⟩
  refine (c_Procs v.q v.ms (by omega)).call (As := []) (C.hidL h2 g2) hv fun p m1 w5 hk hm1 hp C => ⟨_, _, _, rfl, hk, facts_nil _ _, fun w9 h9 => ?_⟩
  exact Ctr.ret (m' := m1) (L := []) p rfl hp (C.hid0 h9)
theorem c_rRight (v : Vw) (hr : ∀ p ∈ v.ms, 0 ≤ p.n) (hn : 0 ≤ v.n) : Ctr Try.prog 91 #[.agg v.row.toArray] (fun m => VwM m v) [] (fun _ : Unit => .bool v.ok) (fun _ _ => True) (fun _ => []) := by
  refine Ctr.mk fun w F m C hv => x_rRight _ _ _ _ _ w _ ?_
  by_cases hg : (((decide (v.g ≥ 4) || decide (v.n < 1)) || decide (((v.ms.length : Nat) : Int) < 1)) || decide (((v.ms.length : Nat) : Int) > 8)) = true
  · rw [if_pos hg]
    intro w17 h17
    refine Ctr.ret () ?_ trivial (C.hid0 h17)
    have : v.ok = false := by
      simp only [Bool.or_eq_true, decide_eq_true_eq] at hg
      simp only [Vw.ok, decide_eq_false_iff_not]
      rintro ⟨h1, h2, h3, h4, _⟩; omega
    rw [this]
  rw [if_neg hg]
  have hg' : v.g < 4 ∧ v.n ≠ 0 ∧ v.ms.length ≠ 0 ∧ v.ms.length ≤ 8 := by
    simp only [Bool.or_eq_true, decide_eq_true_eq, not_or] at hg; omega
  have hok : v.ok = decide (okL v.ms) := by
    simp only [Vw.ok]
    congr 1
    exact propext ⟨fun h => h.2.2.2.2, fun h => ⟨hg'.1, hg'.2.1, hg'.2.2.1, hg'.2.2.2, h⟩⟩
  refine fun w1 L2 h1 g1 => ?_
  refine ⟨fun i w' L' => ∃ j : Nat, i = j ∧ j ≤ v.ms.length ∧ okL (v.ms.take j) ∧ Ctx F m w w' L' m [], fun i _ => ((v.ms.length : Int) - i).toNat, ⟨0, rfl, by omega, ⟨by simp, by simp⟩, C.hidL h1 g1⟩, ?_⟩
  clear C
  rintro i w6 L7 _ ⟨j, rfl, hj, hjo, D⟩
  by_cases hjl : j < v.ms.length
  rotate_left
  · rw [if_neg (by simpa using hjl)]
    have hj2 : j = v.ms.length := by omega
    rw [hj2, List.take_length] at hjo
    exact Ctr.ret () (by rw [hok, decide_eq_true hjo]) trivial D
  rw [if_pos (by simpa using hjl)]
  obtain ⟨a, ha, hc⟩ := hv.elem pr_len hjl
  have ha : v.q.1 = some a := ha
  refine ⟨by omega, by simpa using hjl, ?_⟩
  rw [ha, onSome_some, Int.toNat_natCast]
  refine ⟨_, _, D.cells hc, D.cellsL hc, ?_⟩
  have hsn : okL (v.ms.take (j + 1)) ↔ okL (v.ms.take j) ∧ v.ms[j].ok = true ∧ metB (v.ms.take j) v.ms[j].n = false := by
    rw [List.take_succ_eq_append_getElem hjl]; exact okL_snoc
  have no : ¬ (v.ms[j].ok = true ∧ metB (v.ms.take j) v.ms[j].n = false) → v.ok = false := fun h => by
    rw [hok, decide_eq_false]
    exact fun ho => h (hsn.1 (okL_take ho (j + 1))).2
  refine D.gives (c_rRightP v.ms[j]) fun w12 k12 D => ⟨_, rfl, k12, ?_⟩
  cases hpo : v.ms[j].ok with
  | false =>
    rw [if_pos (by decide)]
    exact Ctr.ret () (by rw [no (by simp [hpo])]) trivial D
  | true =>
  rw [if_neg (by decide)]
  refine ⟨fun i w' L' => ∃ k : Nat, i = k ∧ k ≤ j ∧ metB (v.ms.take k) v.ms[j].n = false ∧ Ctx F m w w' L' m [], fun i _ => ((j : Int) - i).toNat, ⟨0, rfl, by omega, rfl, D⟩, ?_⟩
  clear D
  rintro i w17 L18 _ ⟨k, rfl, hk, hkm, D⟩
  by_cases hkj : k < j
  rotate_left
  · rw [if_neg (by simpa using hkj)]
    have hk2 : k = j := by omega
    subst hk2
    have e : IntKind.wrap .i64 ((k : Int) + 1) = ((k + 1 : Nat) : Int) := by rw [w_i64 (by omega) (by omega)]; omega
    rw [e]
    exact ⟨rfl, ⟨k + 1, rfl, hjl, hsn.2 ⟨hjo, hpo, hkm⟩, D⟩, Nat.le_of_eq (by show ((v.ms.length : Int) - ((k + 1 : Nat) : Int)).toNat + 1 = ((v.ms.length : Int) - (k : Int)).toNat; omega)⟩
  rw [if_pos (by simpa using hkj)]
  have hkl : k < v.ms.length := by omega
  obtain ⟨a2, ha2, hc2⟩ := hv.elem pr_len hkl
  have e2 : a2 = a := by
    have : v.q.1 = some a2 := ha2
    rw [ha] at this; injection this with this; exact this.symm
  subst e2
  refine ⟨by omega, by omega, ?_⟩
  rw [onSome_some, Int.toNat_natCast]
  refine ⟨_, D.cells hc2 0 _ rfl, by rw [addr_block]; exact D.cellsL hc2, by omega, by omega, ?_⟩
  rw [onSome_some]
  refine ⟨_, D.cells hc 0 _ rfl, by rw [addr_block]; exact D.cellsL hc, ?_⟩
  have hmk : metB (v.ms.take (k + 1)) v.ms[j].n = (v.ms[k].n == v.ms[j].n) := by
    rw [List.take_succ_eq_append_getElem hkl]
    simp only [metB, List.map_append, List.any_append] at hkm ⊢
    rw [hkm]; simp
  by_cases he : v.ms[k].n = v.ms[j].n
  · rw [if_pos (by simp [he])]
    refine fun w25 h25 => Ctr.ret (m' := m) (L := []) () ?_ trivial (D.hid0 h25)
    rw [no]
    rintro ⟨_, h⟩
    have h3 : metB (v.ms.take j) v.ms[j].n = true := by
      rw [metB, List.any_eq_true]
      refine ⟨v.ms[k].n, List.mem_map.2 ⟨v.ms[k], ?_, rfl⟩, by simp [he]⟩
      exact List.mem_take_iff_getElem.2 ⟨k, by omega, rfl⟩
    rw [h3] at h; cases h
  · rw [if_neg (by simp [he])]
    have e : IntKind.wrap .i64 ((k : Int) + 1) = ((k + 1 : Nat) : Int) := by rw [w_i64 (by omega) (by omega)]; omega
    rw [e]
    exact fun w23 L24 h23 g23 => ⟨rfl, ⟨k + 1, rfl, hkj, by rw [hmk]; simp [he], D.hidL h23 g23⟩, Nat.le_of_eq (by show ((j : Int) - ((k + 1 : Nat) : Int)).toNat + 1 = ((j : Int) - (k : Int)).toNat; omega)⟩

end Go.Proofs
namespace Go.Proofs
open Go X RowKit
/-! ### messages -/
structure Mg where (kd gr co nn fr cm fl ba ac : Int) (id : I) (pq : Sl) (ps : List Pt) (rc : Int) (rv : ByteArray) (vg vn : Int) (vq : Sl) (vm : List Pr) (pn pl : Int) (has : Bool) (mq : Sl) (ms : List Pr) (eq : Sl) (es : List En) (tq : Sl) (ts : List En)
@[reducible] def Mg.row (x : Mg) : List Value := [.int .u8 x.kd, .int .u8 x.gr, .int .u8 x.co, .int .u32 x.nn, .int .u32 x.fr, .int .u32 x.cm, .int .u32 x.fl, .int .u64 x.ba, .int .u64 x.ac, .int .u8 x.id.n, .int .u16 x.id.l, .int .u32 x.id.s, .int .u8 x.id.d, .int .u8 x.id.g0, .int .u8 x.id.i0, .int .u8 x.id.g1, .int .u8 x.id.i1, .int .u8 x.id.g2, .int .u8 x.id.i2, slV x.pq x.ps.length, .int .u8 x.rc, .string x.rv, .int .u8 x.vg, .int .u32 x.vn, slV x.vq x.vm.length, .int .u8 x.pn, .int .u16 x.pl, .bool x.has, slV x.mq x.ms.length, slV x.eq x.es.length, slV x.tq x.ts.length]
theorem mg_len (x : Mg) : x.row.length = 31 := rfl
/-- a message, wherever its lists lie -/
structure Mv where (kd gr co nn fr cm fl ba ac : Int) (id : I) (ps : List Pt) (rc : Int) (rv : ByteArray) (vg vn : Int) (vm : List Pr) (pn pl : Int) (has : Bool) (ms : List Pr) (es ts : List Ev)
def Mg.er (x : Mg) : Mv := ⟨x.kd, x.gr, x.co, x.nn, x.fr, x.cm, x.fl, x.ba, x.ac, x.id, x.ps, x.rc, x.rv, x.vg, x.vn, x.vm, x.pn, x.pl, x.has, x.ms, x.es.map En.er, x.ts.map En.er⟩
theorem mv_ext {a b : Mv} (h : a.kd = b.kd ∧ a.gr = b.gr ∧ a.co = b.co ∧ a.nn = b.nn ∧ a.fr = b.fr ∧ a.cm = b.cm ∧ a.fl = b.fl ∧ a.ba = b.ba ∧ a.ac = b.ac ∧ a.id = b.id ∧ a.ps = b.ps ∧ a.rc = b.rc ∧ a.rv = b.rv ∧ a.vg = b.vg ∧ a.vn = b.vn ∧ a.vm = b.vm ∧ a.pn = b.pn ∧ a.pl = b.pl ∧ a.has = b.has ∧ a.ms = b.ms ∧ a.es = b.es ∧ a.ts = b.ts) : a = b := by cases a; cases b; simp_all
instance : DecidableEq Mv := fun a b => decidable_of_iff (a.kd = b.kd ∧ a.gr = b.gr ∧ a.co = b.co ∧ a.nn = b.nn ∧ a.fr = b.fr ∧ a.cm = b.cm ∧ a.fl = b.fl ∧ a.ba = b.ba ∧ a.ac = b.ac ∧ a.id = b.id ∧ a.ps = b.ps ∧ a.rc = b.rc ∧ a.rv = b.rv ∧ a.vg = b.vg ∧ a.vn = b.vn ∧ a.vm = b.vm ∧ a.pn = b.pn ∧ a.pl = b.pl ∧ a.has = b.has ∧ a.ms = b.ms ∧ a.es = b.es ∧ a.ts = b.ts) ⟨mv_ext, fun h => by subst h; simp⟩
structure MgM (m : Mem) (x : Mg) : Prop where
  p : MSrc m 5 (slV x.pq x.ps.length) x.ps.length (x.ps.flatMap Pt.row)
  v : MSrc m 2 (slV x.vq x.vm.length) x.vm.length (x.vm.flatMap Pr.row)
  mm : MSrc m 2 (slV x.mq x.ms.length) x.ms.length (x.ms.flatMap Pr.row)
  e : EsM m x.eq x.es
  t : EsM m x.tq x.ts
  pl : x.ps.length ≤ 2932031007402
  vl : x.vm.length ≤ 1000000
  ml : x.ms.length ≤ 1000000
  el : x.es.length ≤ 100000
  tl : x.ts.length ≤ 100000
theorem MgM.mono {m m' : Mem} {x : Mg} (h : MgM m x) (hm : m.le m') : MgM m' x := ⟨h.p.mono hm, h.v.mono hm, h.mm.mono hm, h.e.mono hm, h.t.mono hm, h.pl, h.vl, h.ml, h.el, h.tl⟩
structure MvIn (x : Mv) : Prop where
  id : x.id.In
  ps : ∀ p ∈ x.ps, PtIn p
  vm : ∀ p ∈ x.vm, 0 ≤ p.n
  ms : ∀ p ∈ x.ms, 0 ≤ p.n
  es : ∀ e ∈ x.es, EvIn e
  ts : ∀ e ∈ x.ts, EvIn e
  gr : 0 ≤ x.gr ∧ x.gr < 256
  vn : 0 ≤ x.vn
  fr : 0 ≤ x.fr ∧ x.fr < 4294967296
  kd : 0 ≤ x.kd ∧ x.kd < 256
  nn : 0 ≤ x.nn ∧ x.nn < 18446744073709551616
  ba : 0 ≤ x.ba ∧ x.ba < 18446744073709551616
theorem nilS (m : Mem) (k c : Nat) : MSrc m k (.slice none 0 c) 0 [] := .nil ..
theorem esNil (m : Mem) : EsM m (none, 0) [] := ⟨.nil .., by simp⟩
/-! ### entries that may be -/
def allE (l : List Ev) (g : Int) : Bool := decide (l.length ≤ 400) && l.all (·.right g)
theorem c_all1 (e : En) (z0 : Addr) (g : Int) (hi : EvIn e.er) : Ctr Try.prog 115 #[.agg e.row.toArray, .pointer (some z0)] (fun m => EnM m e ∧ m z0 = some (.int .u8 g)) [] (fun _ : Unit => .bool (!e.er.right g)) (fun _ _ => True) (fun _ => []) :=
  Ctr.mk fun w F m C hp => x_all1 _ _ _ _ _ _ _ _ _ _ _ _ _ _ _ _ _ _ _ _ _ _ _ w _ ⟨g, C.cell hp.2, fun w2 L3 h2 g2 => (c_eRight e g hi).call (As := []) (C.hidL h2 g2) hp.1 fun _ m2 w5 hk hm _ C => ⟨_, rfl, hk, Ctr.ret () rfl trivial C⟩⟩
theorem c_IndexE (q : Sl) (l : List En) (z0 : Addr) (g : Int) (hl : l.length ≤ 100000) (hi : ∀ e ∈ l, EvIn e.er) : Ctr Try.prog 130 #[slV q l.length, .func (.func 115) #[] #[.pointer (some z0)]] (fun m => EsM m q l ∧ m z0 = some (.int .u8 g)) [] (fun i : Int => .int .i64 i) (fun i m => decide (i ≥ 0) = !(l.all fun e => e.er.right g)) (fun _ => []) := by
  refine Ctr.mk fun w F m C hp => x_IndexE _ _ _ _ w _ ?_
  refine ⟨fun i w' _ => ∃ (j : Nat) (m' : Mem), i = j ∧ j ≤ l.length ∧ m.le m' ∧ ((l.take j).all fun e => e.er.right g) = true ∧ Ctx F m w w' [] m' [], fun i _ => (l.length - i).toNat, ⟨0, m, rfl, by omega, Mem.le_refl _, rfl, C⟩, ?_⟩
  clear C
  rintro i w4 L5 _ ⟨j, m', rfl, hj, hm, hjt, D⟩
  by_cases hjl : j < l.length
  · rw [if_pos (by simpa using hjl)]
    obtain ⟨a, ha, hc⟩ := (hp.1.1.mono hm).elem en_len hjl
    have ha : q.1 = some a := ha
    have he := (hp.1.2 _ (List.getElem_mem hjl)).mono hm
    have hie := hi _ (List.getElem_mem hjl)
    have ht : (l.take (j + 1)).all (fun e => e.er.right g) = ((l.take j).all (fun e => e.er.right g) && l[j].er.right g) := by rw [List.take_succ_eq_append_getElem hjl, List.all_append]; simp
    have hin : l[j] ∈ l := List.getElem_mem hjl
    generalize l[j] = x at hc he hie ht hin
    refine ⟨by omega, by simpa using hjl, ?_⟩
    rw [ha, onSome_some]
    refine ⟨_, _, _, _, _, _, _, _, _, _, _, _, _, _, _, _, _, _, _, _, _, _, by rw [Int.toNat_natCast]; exact D.cells hc, ?_⟩
    refine (c_all1 x z0 g hie).call (As := []) D ⟨he, hm _ _ hp.2⟩ fun _ m2 w13 hk hm2 _ D => ⟨_, rfl, hk.size, ?_⟩
    by_cases hr : x.er.right g = true
    · rw [if_neg (by simp [hr])]
      have e : IntKind.wrap .i64 ((j : Int) + 1) = ((j + 1 : Nat) : Int) := by rw [w_i64 (by omega) (by omega)]; omega
      rw [e]
      refine ⟨⟨j + 1, m2, rfl, hjl, hm.le_trans hm2, by rw [ht, hjt, hr]; rfl, D⟩, Nat.le_of_eq (by show ((l.length : Int) - ((j + 1 : Nat) : Int)).toNat + 1 = ((l.length : Int) - (j : Int)).toNat; omega)⟩
    · rw [if_pos (by simp [hr])]
      refine Ctr.ret (j : Int) rfl ?_ D
      have : (l.all fun e => e.er.right g) = false := by rw [Bool.eq_false_iff]; intro h; exact hr (List.all_eq_true.1 h _ hin)
      rw [this]; simp
  · rw [if_neg (by simpa using hjl)]
    have hj2 : j = l.length := by omega
    rw [hj2, List.take_length] at hjt
    exact Ctr.ret (-1) rfl (by rw [hjt]; rfl) D
theorem c_all (q : Sl) (l : List En) (g : Int) (hl : l.length ≤ 100000) (hi : ∀ e ∈ l, EvIn e.er) : Ctr Try.prog 87 #[slV q l.length, .int .u8 g] (fun m => EsM m q l) [] (fun _ : Unit => .bool (allE (l.map En.er) g)) (fun _ _ => True) (fun _ => []) := by
  refine Ctr.mk fun w F m C hp => x_all _ _ _ _ w _ ?_
  have hlen : (l.map En.er).length = l.length := by simp
  have hall : (l.map En.er).all (·.right g) = l.all (fun e => e.er.right g) := by rw [List.all_map]; rfl
  by_cases h : l.length ≤ 400
  · rw [if_pos (by rw [decide_eq_true (show ((l.length : Nat) : Int) ≤ 400 by omega)]; rfl)]
    obtain ⟨C1, hm1⟩ := C.newShare [.int .u8 g] 5 (0, 0)
    have hz : (m.plus w.heap.size [.int .u8 g]) ⟨w.heap.size, 0, none⟩ = some (.int .u8 g) := by simp [Mem.plus]
    refine ⟨x_ContainsE _ _ _ _ _ _ ?_⟩
    refine (c_IndexE q l _ g hl hi).call (As := []) C1 ⟨hp.mono hm1, hz⟩ fun i m2 w4 hk hm hi2 C => ⟨i, rfl, hk.size, ?_⟩
    refine ⟨_, rfl, hk.size, Ctr.ret () ?_ trivial C⟩
    rw [hi2, Bool.not_not, allE, hlen, hall, decide_eq_true h]
  · rw [if_neg (by rw [decide_eq_false (show ¬ ((l.length : Nat) : Int) ≤ 400 by omega)]; decide)]
    refine Ctr.ret () ?_ trivial (C.newDrop _ _)
    rw [allE, hlen, decide_eq_false h]; rfl
theorem c_vSame (a b : Vw) (hl : a.ms.length ≤ 1000000) : Ctr Try.prog 40 #[.agg a.row.toArray, .agg b.row.toArray] (fun m => VwM m a ∧ VwM m b) [] (fun _ : Unit => .bool (((a.g == b.g) && (a.n == b.n)) && decide (a.ms = b.ms))) (fun _ _ => True) (fun _ => []) := by
  refine Ctr.mk fun w F m C hp => x_vSame _ _ _ _ _ _ _ _ _ _ w _ ?_
  by_cases h : ((a.g == b.g) && (a.n == b.n)) = true
  · rw [if_pos (by rw [h]; rfl)]
    intro w2 L3 h2 g2
    refine (c_EqualPr a.q b.q a.ms b.ms (by omega)).call (As := []) (C.hidL h2 g2) ⟨hp.1, hp.2⟩ fun _ m2 w5 hk hm _ C => ⟨_, rfl, hk, Ctr.ret () (by rw [h]) trivial C⟩
  · rw [if_neg (by simpa using h)]
    intro w1 h1
    exact Ctr.ret () (by rw [Bool.eq_false_iff.2 h]; rfl) trivial (C.hid0 h1)
theorem c_r6Same (a b : Vw) (hl : a.ms.length ≤ 1000000) : Ctr Try.prog 44 #[.agg a.row.toArray, .agg b.row.toArray] (fun m => VwM m a ∧ VwM m b) [] (fun _ : Unit => .bool (((a.g == b.g) && (a.n == b.n)) && decide (a.ms = b.ms))) (fun _ _ => True) (fun _ => []) := by
  refine Ctr.mk fun w F m C hp => x_r6Same _ _ _ _ _ _ _ _ _ _ w _ ?_
  by_cases h : ((a.g == b.g) && (a.n == b.n)) = true
  · rw [if_pos (by rw [h]; rfl)]
    intro w2 L3 h2 g2
    refine (c_SameProcs a.q b.q a.ms b.ms (by omega)).call (As := []) (C.hidL h2 g2) ⟨hp.1, hp.2⟩ fun _ m2 w5 hk hm _ C => ⟨_, rfl, hk, Ctr.ret () (by rw [h]) trivial C⟩
  · rw [if_neg (by simpa using h)]
    intro w1 h1
    exact Ctr.ret () (by rw [Bool.eq_false_iff.2 h]; rfl) trivial (C.hid0 h1)
def Mv.askM (x : Mv) : Bool := x.id.right && decide (x.fl < x.id.s) && rightL x.ps && (match x.ps with | [] => false | p :: _ => p.g == x.gr) && decide ((x.ps.length : Int) + x.id.d ≤ 4)
def vwOk (g n : Int) (l : List Pr) : Bool := Vw.ok ⟨g, n, (none, 0), l⟩
def Mv.val (x : Mv) : Bool := vwOk 0 1 x.ms && allE x.ts x.gr
def Mv.resR (x : Mv) : Bool := Rs.right ⟨x.rc, x.rv⟩
def prOk (n l : Int) : Bool := Pr.ok ⟨n, l⟩
theorem c_mAsked (x : Mg) (hi : MvIn x.er) : Ctr Try.prog 83 #[.agg x.row.toArray] (fun m => MgM m x) [] (fun _ : Unit => .bool x.er.askM) (fun _ _ => True) (fun _ => []) := by
  refine Ctr.mk fun w F m C hx => x_mAsked _ _ _ _ _ _ _ _ _ _ _ _ _ _ _ _ _ _ _ _ _ _ _ _ _ _ _ _ _ _ _ _ _ _ _ _ _ _ _ _ _ w _ ⟨[], facts_nil _ _, fun w2 L3 h2 g2 => ?_⟩
  refine (C.hidL h2 g2).gives (c_Right x.id hi.id) fun w5 k5 C => ⟨_, rfl, k5, facts_nil _ _, [], facts_nil _ _, (fun _ h => h), ?_⟩
  by_cases h1 : (x.id.right && decide (x.fl < x.id.s)) = true
  rotate_left
  · rw [if_neg (by intro h; apply h1; simpa using h)]
    refine ⟨[], facts_nil _ _, (fun _ h => h), [], facts_nil _ _, (fun _ h => h), Ctr.ret () ?_ trivial C⟩
    have : (x.er.id.right && decide (x.er.fl < x.er.id.s)) = false := Bool.eq_false_iff.2 h1
    rw [Mv.askM, this]; rfl
  rw [if_pos (by rw [h1]; rfl)]
  have h1' : (x.er.id.right && decide (x.er.fl < x.er.id.s)) = true := h1
  refine (c_partRight x.pq x.ps (by have := hx.pl; omega)).call (As := []) C hx.p fun _ m2 w14 hk hm2 _ C => ⟨_, rfl, hk, facts_nil _ _, ?_⟩
  by_cases hl : rightL x.ps = true
  rotate_left
  · refine ⟨[], facts_nil _ _, (fun _ h => h), ?_⟩
    rw [if_neg (by simpa using hl)]
    refine ⟨[], facts_nil _ _, (fun _ h => h), Ctr.ret () ?_ trivial C⟩
    have : rightL x.er.ps = false := Bool.eq_false_iff.2 hl
    rw [Mv.askM, h1', this]; rfl
  have hl0 : 1 ≤ x.ps.length ∧ x.ps.length ≤ 4 := by
    simp only [rightL, Bool.and_eq_true, decide_eq_true_eq] at hl; exact hl.1
  obtain ⟨a, ha, hc⟩ := (hx.p.mono hm2).elem pt_len (i := 0) (by omega)
  have ha : x.pq.1 = some a := ha
  refine ⟨_, C.memFact (mcells_part hc 0 [.int .u8 x.ps[0].g] (fun k v e => by match k, e with | 0, e => exact e)) (facts_nil _ _), (fun _ h => by cases h), ?_⟩
  rw [if_pos (by rw [hl]; rfl)]
  refine ⟨by omega, by omega, ?_⟩
  rw [ha, onSome_some]
  refine ⟨_, List.mem_cons_self, ?_⟩
  have hd : 0 ≤ x.id.d ∧ x.id.d ≤ 3 := right_d hi.id (by simp only [Bool.and_eq_true] at h1; exact h1.1)
  rw [w_i64 (n := x.id.d) (by omega) (by omega), w_i64 (n := _ + x.id.d) (by omega) (by omega)]
  refine Ctr.ret () ?_ trivial C
  obtain ⟨p, l, hpl⟩ : ∃ p l, x.ps = p :: l := by
    cases hps : x.ps with
    | nil => rw [hps] at hl0; simp at hl0
    | cons p l => exact ⟨p, l, rfl⟩
  have h2 : rightL x.er.ps = true := hl
  have h3 : x.er.ps = p :: l := hpl
  rw [Mv.askM, h1', h2, h3]
  have e1 : x.ps[0].g = p.g := by simp [hpl]
  rw [e1, hpl]; rfl
theorem vm_vw {m : Mem} {x : Mg} (h : MgM m x) : VwM m ⟨x.vg, x.vn, x.vq, x.vm⟩ := h.v
theorem c_mValue (x : Mg) (hi : MvIn x.er) (hx0 : x.ts.length ≤ 100000) : Ctr Try.prog 88 #[.agg x.row.toArray] (fun m => MgM m x) [] (fun _ : Unit => .bool x.er.val) (fun _ _ => True) (fun _ => []) := by
  refine Ctr.mk fun w F m C hx => x_mValue _ _ _ _ _ _ _ _ _ _ _ _ _ _ _ _ _ _ _ _ _ _ _ _ _ _ _ _ _ _ _ _ _ _ _ _ _ _ _ _ _ w _ fun w1 L2 h1 g1 => ?_
  refine (c_vRight ⟨0, 1, x.mq, x.ms⟩ hi.ms).call (As := []) (C.hidL h1 g1) hx.mm fun _ m2 w4 hk hm2 _ C => ⟨_, rfl, hk, ?_⟩
  by_cases hv : Vw.ok ⟨0, 1, x.mq, x.ms⟩ = true
  · rw [if_pos (by rw [hv]; rfl)]
    refine (c_all x.tq x.ts x.gr hx0 (fun e he => hi.ts _ (List.mem_map_of_mem he))).call (As := []) C (hx.t.mono hm2) fun _ m3 w7 hk hm3 _ C => ⟨_, rfl, hk, Ctr.ret () ?_ trivial C⟩
    have : vwOk 0 1 x.er.ms = true := hv
    rw [Mv.val, this]; rfl
  · rw [if_neg (by simpa using hv)]
    refine Ctr.ret () ?_ trivial C
    have : vwOk 0 1 x.er.ms = false := Bool.eq_false_iff.2 hv
    rw [Mv.val, this]; rfl
def Mv.fieldsP (x : Mv) : Bool :=
  if x.kd = 0 then x.askM
  else if x.kd = 1 then (x.id.right && x.resR && vwOk x.vg x.vn x.vm)
  else if x.kd = 2 then x.id.right
  else if x.kd = 3 then (decide (x.nn > 0) && decide (x.fr ≤ 400) && decide (x.cm ≤ 400) && decide (x.fr + (x.es.length : Int) ≤ 400) && allE x.es x.gr)
  else if x.kd = 4 then (decide (x.nn > 0) && decide (x.fr ≤ 400))
  else if x.kd = 5 then (decide (x.nn > 0) && decide (x.ba > 0))
  else if x.kd = 6 then (decide (x.nn > 0) && decide (x.ba > 0))
  else if x.kd = 7 then (decide (x.nn > 0) && decide (x.ba > 0))
  else if x.kd = 8 then (decide (x.nn > 0) && decide (x.ba > 0) && allE x.es x.gr && (!x.has || (decide (x.ac > 0) && x.val)))
  else if x.kd = 9 then (decide (x.nn > 0) && decide (x.ba > 0) && x.val)
  else if x.kd = 10 then (vwOk x.vg x.vn x.vm && allE x.es x.vg)
  else if x.kd = 11 then prOk x.pn x.pl
  else if x.kd = 12 then prOk x.pn x.pl
  else if x.kd = 13 then prOk x.pn x.pl
  else false
def Mv.onlyP (x : Mv) : Mv :=
  if x.kd = 0 then ⟨x.kd, x.gr, 0, 0, 0, 0, x.fl, 0, 0, x.id, x.ps, 0, ByteArray.mk #[], 0, 0, [], 0, 0, false, [], [], []⟩
  else if x.kd = 1 then ⟨x.kd, 0, 0, 0, 0, 0, 0, 0, 0, x.id, [], x.rc, x.rv, x.vg, x.vn, x.vm, 0, 0, false, [], [], []⟩
  else if x.kd = 2 then ⟨x.kd, 0, x.co, 0, 0, 0, 0, 0, 0, x.id, [], 0, ByteArray.mk #[], 0, 0, [], 0, 0, false, [], [], []⟩
  else if x.kd = 3 then ⟨x.kd, x.gr, 0, x.nn, x.fr, x.cm, 0, 0, 0, I.zero, [], 0, ByteArray.mk #[], 0, 0, [], 0, 0, false, [], x.es, []⟩
  else if x.kd = 4 then ⟨x.kd, x.gr, 0, x.nn, x.fr, 0, 0, 0, 0, I.zero, [], 0, ByteArray.mk #[], 0, 0, [], 0, 0, false, [], [], []⟩
  else if x.kd = 5 then ⟨x.kd, x.gr, 0, x.nn, 0, 0, 0, x.ba, 0, I.zero, [], 0, ByteArray.mk #[], 0, 0, [], 0, 0, false, [], [], []⟩
  else if x.kd = 6 then ⟨x.kd, x.gr, 0, x.nn, 0, 0, 0, x.ba, 0, I.zero, [], 0, ByteArray.mk #[], 0, 0, [], 0, 0, false, [], [], []⟩
  else if x.kd = 7 then ⟨x.kd, x.gr, 0, x.nn, 0, 0, 0, x.ba, 0, I.zero, [], 0, ByteArray.mk #[], 0, 0, [], 0, 0, false, [], [], []⟩
  else if x.kd = 8 then (if x.has then ⟨x.kd, x.gr, 0, x.nn, 0, 0, 0, x.ba, x.ac, I.zero, [], 0, ByteArray.mk #[], 0, 0, [], 0, 0, x.has, x.ms, x.es, x.ts⟩ else ⟨x.kd, x.gr, 0, x.nn, 0, 0, 0, x.ba, 0, I.zero, [], 0, ByteArray.mk #[], 0, 0, [], 0, 0, false, [], x.es, []⟩)
  else if x.kd = 9 then ⟨x.kd, x.gr, 0, x.nn, 0, 0, 0, x.ba, 0, I.zero, [], 0, ByteArray.mk #[], 0, 0, [], 0, 0, false, x.ms, [], x.ts⟩
  else if x.kd = 10 then ⟨x.kd, 0, 0, 0, 0, 0, 0, 0, 0, I.zero, [], 0, ByteArray.mk #[], x.vg, x.vn, x.vm, 0, 0, false, [], x.es, []⟩
  else if x.kd = 11 then ⟨x.kd, x.gr, 0, 0, 0, 0, 0, 0, 0, I.zero, [], 0, ByteArray.mk #[], 0, 0, [], x.pn, x.pl, false, [], [], []⟩
  else if x.kd = 12 then ⟨x.kd, x.gr, 0, 0, 0, 0, 0, 0, 0, I.zero, [], 0, ByteArray.mk #[], 0, 0, [], x.pn, x.pl, false, [], [], []⟩
  else if x.kd = 13 then ⟨x.kd, x.gr, 0, 0, 0, 0, 0, 0, 0, I.zero, [], 0, ByteArray.mk #[], 0, 0, [], x.pn, x.pl, false, [], [], []⟩
  else ⟨x.kd, x.gr, 0, 0, 0, 0, 0, 0, 0, I.zero, [], 0, ByteArray.mk #[], 0, 0, [], 0, 0, false, [], [], []⟩
theorem fP0 {x : Mv} (h : x.kd = 0) : x.fieldsP = x.askM := by rw [Mv.fieldsP, if_pos h]
theorem oP0 {x : Mv} (h : x.kd = 0) : x.onlyP = ⟨x.kd, x.gr, 0, 0, 0, 0, x.fl, 0, 0, x.id, x.ps, 0, ByteArray.mk #[], 0, 0, [], 0, 0, false, [], [], []⟩ := by rw [Mv.onlyP, if_pos h]
theorem fP1 {x : Mv} (h : x.kd = 1) : x.fieldsP = (x.id.right && x.resR && vwOk x.vg x.vn x.vm) := by rw [Mv.fieldsP, if_neg (by omega), if_pos h]
theorem oP1 {x : Mv} (h : x.kd = 1) : x.onlyP = ⟨x.kd, 0, 0, 0, 0, 0, 0, 0, 0, x.id, [], x.rc, x.rv, x.vg, x.vn, x.vm, 0, 0, false, [], [], []⟩ := by rw [Mv.onlyP, if_neg (by omega), if_pos h]
theorem fP2 {x : Mv} (h : x.kd = 2) : x.fieldsP = x.id.right := by rw [Mv.fieldsP, if_neg (by omega), if_neg (by omega), if_pos h]
theorem oP2 {x : Mv} (h : x.kd = 2) : x.onlyP = ⟨x.kd, 0, x.co, 0, 0, 0, 0, 0, 0, x.id, [], 0, ByteArray.mk #[], 0, 0, [], 0, 0, false, [], [], []⟩ := by rw [Mv.onlyP, if_neg (by omega), if_neg (by omega), if_pos h]
theorem fP3 {x : Mv} (h : x.kd = 3) : x.fieldsP = (decide (x.nn > 0) && decide (x.fr ≤ 400) && decide (x.cm ≤ 400) && decide (x.fr + (x.es.length : Int) ≤ 400) && allE x.es x.gr) := by rw [Mv.fieldsP, if_neg (by omega), if_neg (by omega), if_neg (by omega), if_pos h]
theorem oP3 {x : Mv} (h : x.kd = 3) : x.onlyP = ⟨x.kd, x.gr, 0, x.nn, x.fr, x.cm, 0, 0, 0, I.zero, [], 0, ByteArray.mk #[], 0, 0, [], 0, 0, false, [], x.es, []⟩ := by rw [Mv.onlyP, if_neg (by omega), if_neg (by omega), if_neg (by omega), if_pos h]
theorem fP4 {x : Mv} (h : x.kd = 4) : x.fieldsP = (decide (x.nn > 0) && decide (x.fr ≤ 400)) := by rw [Mv.fieldsP, if_neg (by omega), if_neg (by omega), if_neg (by omega), if_neg (by omega), if_pos h]
theorem oP4 {x : Mv} (h : x.kd = 4) : x.onlyP = ⟨x.kd, x.gr, 0, x.nn, x.fr, 0, 0, 0, 0, I.zero, [], 0, ByteArray.mk #[], 0, 0, [], 0, 0, false, [], [], []⟩ := by rw [Mv.onlyP, if_neg (by omega), if_neg (by omega), if_neg (by omega), if_neg (by omega), if_pos h]
theorem fP5 {x : Mv} (h : x.kd = 5) : x.fieldsP = (decide (x.nn > 0) && decide (x.ba > 0)) := by rw [Mv.fieldsP, if_neg (by omega), if_neg (by omega), if_neg (by omega), if_neg (by omega), if_neg (by omega), if_pos h]
theorem oP5 {x : Mv} (h : x.kd = 5) : x.onlyP = ⟨x.kd, x.gr, 0, x.nn, 0, 0, 0, x.ba, 0, I.zero, [], 0, ByteArray.mk #[], 0, 0, [], 0, 0, false, [], [], []⟩ := by rw [Mv.onlyP, if_neg (by omega), if_neg (by omega), if_neg (by omega), if_neg (by omega), if_neg (by omega), if_pos h]
theorem fP6 {x : Mv} (h : x.kd = 6) : x.fieldsP = (decide (x.nn > 0) && decide (x.ba > 0)) := by rw [Mv.fieldsP, if_neg (by omega), if_neg (by omega), if_neg (by omega), if_neg (by omega), if_neg (by omega), if_neg (by omega), if_pos h]
theorem oP6 {x : Mv} (h : x.kd = 6) : x.onlyP = ⟨x.kd, x.gr, 0, x.nn, 0, 0, 0, x.ba, 0, I.zero, [], 0, ByteArray.mk #[], 0, 0, [], 0, 0, false, [], [], []⟩ := by rw [Mv.onlyP, if_neg (by omega), if_neg (by omega), if_neg (by omega), if_neg (by omega), if_neg (by omega), if_neg (by omega), if_pos h]
theorem fP7 {x : Mv} (h : x.kd = 7) : x.fieldsP = (decide (x.nn > 0) && decide (x.ba > 0)) := by rw [Mv.fieldsP, if_neg (by omega), if_neg (by omega), if_neg (by omega), if_neg (by omega), if_neg (by omega), if_neg (by omega), if_neg (by omega), if_pos h]
theorem oP7 {x : Mv} (h : x.kd = 7) : x.onlyP = ⟨x.kd, x.gr, 0, x.nn, 0, 0, 0, x.ba, 0, I.zero, [], 0, ByteArray.mk #[], 0, 0, [], 0, 0, false, [], [], []⟩ := by rw [Mv.onlyP, if_neg (by omega), if_neg (by omega), if_neg (by omega), if_neg (by omega), if_neg (by omega), if_neg (by omega), if_neg (by omega), if_pos h]
theorem fP8 {x : Mv} (h : x.kd = 8) : x.fieldsP = (decide (x.nn > 0) && decide (x.ba > 0) && allE x.es x.gr && (!x.has || (decide (x.ac > 0) && x.val))) := by rw [Mv.fieldsP, if_neg (by omega), if_neg (by omega), if_neg (by omega), if_neg (by omega), if_neg (by omega), if_neg (by omega), if_neg (by omega), if_neg (by omega), if_pos h]
theorem oP8 {x : Mv} (h : x.kd = 8) : x.onlyP = (if x.has then ⟨x.kd, x.gr, 0, x.nn, 0, 0, 0, x.ba, x.ac, I.zero, [], 0, ByteArray.mk #[], 0, 0, [], 0, 0, x.has, x.ms, x.es, x.ts⟩ else ⟨x.kd, x.gr, 0, x.nn, 0, 0, 0, x.ba, 0, I.zero, [], 0, ByteArray.mk #[], 0, 0, [], 0, 0, false, [], x.es, []⟩) := by rw [Mv.onlyP, if_neg (by omega), if_neg (by omega), if_neg (by omega), if_neg (by omega), if_neg (by omega), if_neg (by omega), if_neg (by omega), if_neg (by omega), if_pos h]
theorem fP9 {x : Mv} (h : x.kd = 9) : x.fieldsP = (decide (x.nn > 0) && decide (x.ba > 0) && x.val) := by rw [Mv.fieldsP, if_neg (by omega), if_neg (by omega), if_neg (by omega), if_neg (by omega), if_neg (by omega), if_neg (by omega), if_neg (by omega), if_neg (by omega), if_neg (by omega), if_pos h]
theorem oP9 {x : Mv} (h : x.kd = 9) : x.onlyP = ⟨x.kd, x.gr, 0, x.nn, 0, 0, 0, x.ba, 0, I.zero, [], 0, ByteArray.mk #[], 0, 0, [], 0, 0, false, x.ms, [], x.ts⟩ := by rw [Mv.onlyP, if_neg (by omega), if_neg (by omega), if_neg (by omega), if_neg (by omega), if_neg (by omega), if_neg (by omega), if_neg (by omega), if_neg (by omega), if_neg (by omega), if_pos h]
theorem fP10 {x : Mv} (h : x.kd = 10) : x.fieldsP = (vwOk x.vg x.vn x.vm && allE x.es x.vg) := by rw [Mv.fieldsP, if_neg (by omega), if_neg (by omega), if_neg (by omega), if_neg (by omega), if_neg (by omega), if_neg (by omega), if_neg (by omega), if_neg (by omega), if_neg (by omega), if_neg (by omega), if_pos h]
theorem oP10 {x : Mv} (h : x.kd = 10) : x.onlyP = ⟨x.kd, 0, 0, 0, 0, 0, 0, 0, 0, I.zero, [], 0, ByteArray.mk #[], x.vg, x.vn, x.vm, 0, 0, false, [], x.es, []⟩ := by rw [Mv.onlyP, if_neg (by omega), if_neg (by omega), if_neg (by omega), if_neg (by omega), if_neg (by omega), if_neg (by omega), if_neg (by omega), if_neg (by omega), if_neg (by omega), if_neg (by omega), if_pos h]
theorem fP11 {x : Mv} (h : x.kd = 11) : x.fieldsP = prOk x.pn x.pl := by rw [Mv.fieldsP, if_neg (by omega), if_neg (by omega), if_neg (by omega), if_neg (by omega), if_neg (by omega), if_neg (by omega), if_neg (by omega), if_neg (by omega), if_neg (by omega), if_neg (by omega), if_neg (by omega), if_pos h]
theorem oP11 {x : Mv} (h : x.kd = 11) : x.onlyP = ⟨x.kd, x.gr, 0, 0, 0, 0, 0, 0, 0, I.zero, [], 0, ByteArray.mk #[], 0, 0, [], x.pn, x.pl, false, [], [], []⟩ := by rw [Mv.onlyP, if_neg (by omega), if_neg (by omega), if_neg (by omega), if_neg (by omega), if_neg (by omega), if_neg (by omega), if_neg (by omega), if_neg (by omega), if_neg (by omega), if_neg (by omega), if_neg (by omega), if_pos h]
theorem fP12 {x : Mv} (h : x.kd = 12) : x.fieldsP = prOk x.pn x.pl := by rw [Mv.fieldsP, if_neg (by omega), if_neg (by omega), if_neg (by omega), if_neg (by omega), if_neg (by omega), if_neg (by omega), if_neg (by omega), if_neg (by omega), if_neg (by omega), if_neg (by omega), if_neg (by omega), if_neg (by omega), if_pos h]
theorem oP12 {x : Mv} (h : x.kd = 12) : x.onlyP = ⟨x.kd, x.gr, 0, 0, 0, 0, 0, 0, 0, I.zero, [], 0, ByteArray.mk #[], 0, 0, [], x.pn, x.pl, false, [], [], []⟩ := by rw [Mv.onlyP, if_neg (by omega), if_neg (by omega), if_neg (by omega), if_neg (by omega), if_neg (by omega), if_neg (by omega), if_neg (by omega), if_neg (by omega), if_neg (by omega), if_neg (by omega), if_neg (by omega), if_neg (by omega), if_pos h]
theorem fP13 {x : Mv} (h : x.kd = 13) : x.fieldsP = prOk x.pn x.pl := by rw [Mv.fieldsP, if_neg (by omega), if_neg (by omega), if_neg (by omega), if_neg (by omega), if_neg (by omega), if_neg (by omega), if_neg (by omega), if_neg (by omega), if_neg (by omega), if_neg (by omega), if_neg (by omega), if_neg (by omega), if_neg (by omega), if_pos h]
theorem oP13 {x : Mv} (h : x.kd = 13) : x.onlyP = ⟨x.kd, x.gr, 0, 0, 0, 0, 0, 0, 0, I.zero, [], 0, ByteArray.mk #[], 0, 0, [], x.pn, x.pl, false, [], [], []⟩ := by rw [Mv.onlyP, if_neg (by omega), if_neg (by omega), if_neg (by omega), if_neg (by omega), if_neg (by omega), if_neg (by omega), if_neg (by omega), if_neg (by omega), if_neg (by omega), if_neg (by omega), if_neg (by omega), if_neg (by omega), if_neg (by omega), if_pos h]
theorem fPo {x : Mv} (h : ¬ (0 ≤ x.kd ∧ x.kd ≤ 13)) : x.fieldsP = false := by rw [Mv.fieldsP, if_neg (by omega), if_neg (by omega), if_neg (by omega), if_neg (by omega), if_neg (by omega), if_neg (by omega), if_neg (by omega), if_neg (by omega), if_neg (by omega), if_neg (by omega), if_neg (by omega), if_neg (by omega), if_neg (by omega), if_neg (by omega)]
theorem oPo {x : Mv} (h : ¬ (0 ≤ x.kd ∧ x.kd ≤ 13)) : x.onlyP = ⟨x.kd, x.gr, 0, 0, 0, 0, 0, 0, 0, I.zero, [], 0, ByteArray.mk #[], 0, 0, [], 0, 0, false, [], [], []⟩ := by rw [Mv.onlyP, if_neg (by omega), if_neg (by omega), if_neg (by omega), if_neg (by omega), if_neg (by omega), if_neg (by omega), if_neg (by omega), if_neg (by omega), if_neg (by omega), if_neg (by omega), if_neg (by omega), if_neg (by omega), if_neg (by omega), if_neg (by omega)]
@[reducible] def Mg.o0 (x : Mg) : Mg := ⟨x.kd, x.gr, 0, 0, 0, 0, x.fl, 0, 0, x.id, x.pq, x.ps, 0, ByteArray.mk #[], 0, 0, (none, 0), [], 0, 0, false, (none, 0), [], (none, 0), [], (none, 0), []⟩
theorem oM0 {m : Mem} {x : Mg} (hx : MgM m x) : MgM m x.o0 := ⟨hx.p, .nil .., .nil .., esNil m, esNil m, hx.pl, Nat.zero_le _, Nat.zero_le _, Nat.zero_le _, Nat.zero_le _⟩
@[reducible] def Mg.o1 (x : Mg) : Mg := ⟨x.kd, 0, 0, 0, 0, 0, 0, 0, 0, x.id, (none, 0), [], x.rc, x.rv, x.vg, x.vn, x.vq, x.vm, 0, 0, false, (none, 0), [], (none, 0), [], (none, 0), []⟩
theorem oM1 {m : Mem} {x : Mg} (hx : MgM m x) : MgM m x.o1 := ⟨.nil .., hx.v, .nil .., esNil m, esNil m, Nat.zero_le _, hx.vl, Nat.zero_le _, Nat.zero_le _, Nat.zero_le _⟩
@[reducible] def Mg.o2 (x : Mg) : Mg := ⟨x.kd, 0, x.co, 0, 0, 0, 0, 0, 0, x.id, (none, 0), [], 0, ByteArray.mk #[], 0, 0, (none, 0), [], 0, 0, false, (none, 0), [], (none, 0), [], (none, 0), []⟩
theorem oM2 {m : Mem} {x : Mg} (hx : MgM m x) : MgM m x.o2 := ⟨.nil .., .nil .., .nil .., esNil m, esNil m, Nat.zero_le _, Nat.zero_le _, Nat.zero_le _, Nat.zero_le _, Nat.zero_le _⟩
@[reducible] def Mg.o3 (x : Mg) : Mg := ⟨x.kd, x.gr, 0, x.nn, x.fr, x.cm, 0, 0, 0, I.zero, (none, 0), [], 0, ByteArray.mk #[], 0, 0, (none, 0), [], 0, 0, false, (none, 0), [], x.eq, x.es, (none, 0), []⟩
theorem oM3 {m : Mem} {x : Mg} (hx : MgM m x) : MgM m x.o3 := ⟨.nil .., .nil .., .nil .., hx.e, esNil m, Nat.zero_le _, Nat.zero_le _, Nat.zero_le _, hx.el, Nat.zero_le _⟩
@[reducible] def Mg.o4 (x : Mg) : Mg := ⟨x.kd, x.gr, 0, x.nn, x.fr, 0, 0, 0, 0, I.zero, (none, 0), [], 0, ByteArray.mk #[], 0, 0, (none, 0), [], 0, 0, false, (none, 0), [], (none, 0), [], (none, 0), []⟩
theorem oM4 {m : Mem} {x : Mg} (hx : MgM m x) : MgM m x.o4 := ⟨.nil .., .nil .., .nil .., esNil m, esNil m, Nat.zero_le _, Nat.zero_le _, Nat.zero_le _, Nat.zero_le _, Nat.zero_le _⟩
@[reducible] def Mg.o5 (x : Mg) : Mg := ⟨x.kd, x.gr, 0, x.nn, 0, 0, 0, x.ba, 0, I.zero, (none, 0), [], 0, ByteArray.mk #[], 0, 0, (none, 0), [], 0, 0, false, (none, 0), [], (none, 0), [], (none, 0), []⟩
theorem oM5 {m : Mem} {x : Mg} (hx : MgM m x) : MgM m x.o5 := ⟨.nil .., .nil .., .nil .., esNil m, esNil m, Nat.zero_le _, Nat.zero_le _, Nat.zero_le _, Nat.zero_le _, Nat.zero_le _⟩
@[reducible] def Mg.o8t (x : Mg) : Mg := ⟨x.kd, x.gr, 0, x.nn, 0, 0, 0, x.ba, x.ac, I.zero, (none, 0), [], 0, ByteArray.mk #[], 0, 0, (none, 0), [], 0, 0, x.has, x.mq, x.ms, x.eq, x.es, x.tq, x.ts⟩
theorem oM8t {m : Mem} {x : Mg} (hx : MgM m x) : MgM m x.o8t := ⟨.nil .., .nil .., hx.mm, hx.e, hx.t, Nat.zero_le _, Nat.zero_le _, hx.ml, hx.el, hx.tl⟩
@[reducible] def Mg.o8f (x : Mg) : Mg := ⟨x.kd, x.gr, 0, x.nn, 0, 0, 0, x.ba, 0, I.zero, (none, 0), [], 0, ByteArray.mk #[], 0, 0, (none, 0), [], 0, 0, false, (none, 0), [], x.eq, x.es, (none, 0), []⟩
theorem oM8f {m : Mem} {x : Mg} (hx : MgM m x) : MgM m x.o8f := ⟨.nil .., .nil .., .nil .., hx.e, esNil m, Nat.zero_le _, Nat.zero_le _, Nat.zero_le _, hx.el, Nat.zero_le _⟩
@[reducible] def Mg.o9 (x : Mg) : Mg := ⟨x.kd, x.gr, 0, x.nn, 0, 0, 0, x.ba, 0, I.zero, (none, 0), [], 0, ByteArray.mk #[], 0, 0, (none, 0), [], 0, 0, false, x.mq, x.ms, (none, 0), [], x.tq, x.ts⟩
theorem oM9 {m : Mem} {x : Mg} (hx : MgM m x) : MgM m x.o9 := ⟨.nil .., .nil .., hx.mm, esNil m, hx.t, Nat.zero_le _, Nat.zero_le _, hx.ml, Nat.zero_le _, hx.tl⟩
@[reducible] def Mg.o10 (x : Mg) : Mg := ⟨x.kd, 0, 0, 0, 0, 0, 0, 0, 0, I.zero, (none, 0), [], 0, ByteArray.mk #[], x.vg, x.vn, x.vq, x.vm, 0, 0, false, (none, 0), [], x.eq, x.es, (none, 0), []⟩
theorem oM10 {m : Mem} {x : Mg} (hx : MgM m x) : MgM m x.o10 := ⟨.nil .., hx.v, .nil .., hx.e, esNil m, Nat.zero_le _, hx.vl, Nat.zero_le _, hx.el, Nat.zero_le _⟩
@[reducible] def Mg.o11 (x : Mg) : Mg := ⟨x.kd, x.gr, 0, 0, 0, 0, 0, 0, 0, I.zero, (none, 0), [], 0, ByteArray.mk #[], 0, 0, (none, 0), [], x.pn, x.pl, false, (none, 0), [], (none, 0), [], (none, 0), []⟩
theorem oM11 {m : Mem} {x : Mg} (hx : MgM m x) : MgM m x.o11 := ⟨.nil .., .nil .., .nil .., esNil m, esNil m, Nat.zero_le _, Nat.zero_le _, Nat.zero_le _, Nat.zero_le _, Nat.zero_le _⟩
@[reducible] def Mg.oo (x : Mg) : Mg := ⟨x.kd, x.gr, 0, 0, 0, 0, 0, 0, 0, I.zero, (none, 0), [], 0, ByteArray.mk #[], 0, 0, (none, 0), [], 0, 0, false, (none, 0), [], (none, 0), [], (none, 0), []⟩
theorem oMo {m : Mem} {x : Mg} (hx : MgM m x) : MgM m x.oo := ⟨.nil .., .nil .., .nil .., esNil m, esNil m, Nat.zero_le _, Nat.zero_le _, Nat.zero_le _, Nat.zero_le _, Nat.zero_le _⟩
theorem wrapFr {x : Mg} (hi : MvIn x.er) (hl : x.es.length ≤ 100000) : IntKind.wrap .i64 (IntKind.wrap .i64 x.fr + ((x.es.length : Nat) : Int)) = x.fr + ((x.es.length : Nat) : Int) := by
  have h : 0 ≤ x.fr ∧ x.fr < 4294967296 := hi.fr
  rw [w_i64 (n := x.fr) (by omega) (by omega), w_i64 (n := x.fr + _) (by omega) (by omega)]
theorem c_mFields (x : Mg) (hi : MvIn x.er) : Ctr Try.prog 34 #[.agg x.row.toArray] (fun m => MgM m x) [] (fun _ : Unit => .bool x.er.fieldsP) (fun _ _ => True) (fun _ => []) := by
  refine Ctr.mk fun w F m C hx => x_mFields _ _ _ _ _ _ _ _ _ _ _ _ _ _ _ _ _ _ _ _ _ _ _ _ _ _ _ _ _ _ _ _ _ _ _ _ _ _ _ _ _ w _ ?_
  have cA := c_mAsked x hi
  have cV := c_mValue x hi hx.tl
  have cI := c_Right x.id hi.id
  have cR := c_ResRight ⟨x.rc, x.rv⟩
  have cW := c_vRight ⟨x.vg, x.vn, x.vq, x.vm⟩ hi.vm
  have cE := fun g => c_all x.eq x.es g hx.el (fun e he => hi.es _ (List.mem_map_of_mem he))
  have cP := c_pRight ⟨x.pn, x.pl⟩
  have hv := vm_vw hx
  have hee := hx.e
  have hlen : (x.es.map En.er).length = x.es.length := by simp
  rw [wrapFr hi hx.el]
  clear hi
  obtain hk | hk | hk | hk | hk | hk | hk | hk | hk | hk | hk | hk | hk | hk | hk : x.kd = 0 ∨ x.kd = 1 ∨ x.kd = 2 ∨ x.kd = 3 ∨ x.kd = 4 ∨ x.kd = 5 ∨ x.kd = 6 ∨ x.kd = 7 ∨ x.kd = 8 ∨ x.kd = 9 ∨ x.kd = 10 ∨ x.kd = 11 ∨ x.kd = 12 ∨ x.kd = 13 ∨ ¬ (0 ≤ x.kd ∧ x.kd ≤ 13) := by omega
  all_goals (obtain ⟨kd, gr, co, nn, fr, cm, fl, ba, ac, id, pq, ps, rc, rv, vg, vn, vq, vm, pn, pl, has, mq, ms, eq, es, tq, ts⟩ := x)
  all_goals (try (replace hk : kd = _ := hk))
  all_goals (try subst hk)
  all_goals (dsimp only)
  · repeat (first | rw [if_pos (by decide)] | rw [if_neg (by decide)])
    intro w1 L2 h1 g1
    exact cA.call (As := []) (C.hidL h1 g1) hx fun _ m2 w5 hk hm _ C => ⟨_, rfl, hk, Ctr.ret () (by rw [fP0 rfl]) trivial C⟩
  · repeat (first | rw [if_pos (by decide)] | rw [if_neg (by decide)])
    intro w1 L2 h1 g1
    refine (C.hidL h1 g1).gives cI fun w5 k5 C => ⟨_, rfl, k5, ?_⟩
    by_cases b1 : id.right = true
    rotate_left
    · rw [if_neg (by simpa using b1)]
      refine Ctr.ret () ?_ trivial C
      rw [fP1 rfl]
      show _ = Ending.returned (.bool (id.right && _ && _))
      rw [Bool.eq_false_iff.2 b1]; rfl
    rw [if_pos (by rw [b1]; rfl)]
    refine C.gives cR fun w6 k6 C => ⟨_, rfl, k6, ?_⟩
    by_cases b2 : Rs.right ⟨rc, rv⟩ = true
    rotate_left
    · rw [if_neg (by simpa using b2)]
      refine Ctr.ret () ?_ trivial C
      rw [fP1 rfl]
      show _ = Ending.returned (.bool (_ && Rs.right ⟨rc, rv⟩ && _))
      rw [Bool.eq_false_iff.2 b2]; simp
    rw [if_pos (by rw [b2]; rfl)]
    refine cW.call (As := []) C hv fun _ m2 w7 hk hm _ C => ⟨_, rfl, hk, Ctr.ret () ?_ trivial C⟩
    rw [fP1 rfl]
    show _ = Ending.returned (.bool (id.right && Rs.right ⟨rc, rv⟩ && _))
    rw [b1, b2]; rfl
  · repeat (first | rw [if_pos (by decide)] | rw [if_neg (by decide)])
    intro w1 L2 h1 g1
    exact (C.hidL h1 g1).gives cI fun w5 k5 C => ⟨_, rfl, k5, Ctr.ret () (by rw [fP2 rfl]; rfl) trivial C⟩
  · repeat (first | rw [if_pos (by decide)] | rw [if_neg (by decide)])
    by_cases b1 : (((decide (nn > 0) && decide (fr ≤ 400)) && decide (cm ≤ 400)) && decide (fr + ((es.length : Nat) : Int) ≤ 400)) = true
    · rw [if_pos (by rw [b1]; rfl)]
      intro w1 L2 h1 g1
      refine (cE gr).call (As := []) (C.hidL h1 g1) hee fun _ m2 w7 hk hm _ C => ⟨_, rfl, hk, Ctr.ret () ?_ trivial C⟩
      rw [fP3 rfl]
      show _ = Ending.returned (.bool ((((decide (nn > 0) && decide (fr ≤ 400)) && decide (cm ≤ 400)) && decide (fr + (((es.map En.er).length : Nat) : Int) ≤ 400)) && allE (es.map En.er) gr))
      rw [hlen, b1]
    · rw [if_neg (by simpa using b1)]
      intro w1 h1
      refine Ctr.ret () ?_ trivial (C.hid0 h1)
      rw [fP3 rfl]
      show _ = Ending.returned (.bool ((((decide (nn > 0) && decide (fr ≤ 400)) && decide (cm ≤ 400)) && decide (fr + (((es.map En.er).length : Nat) : Int) ≤ 400)) && allE (es.map En.er) gr))
      rw [hlen, Bool.eq_false_iff.2 b1]; rfl
  · repeat (first | rw [if_pos (by decide)] | rw [if_neg (by decide)])
    intro w1 h1
    exact Ctr.ret () (by rw [fP4 rfl]; rfl) trivial (C.hid0 h1)
  · repeat (first | rw [if_pos (by decide)] | rw [if_neg (by decide)])
    intro w1 h1
    exact Ctr.ret () (by rw [fP5 rfl]; rfl) trivial (C.hid0 h1)
  · repeat (first | rw [if_pos (by decide)] | rw [if_neg (by decide)])
    intro w1 h1
    exact Ctr.ret () (by rw [fP6 rfl]; rfl) trivial (C.hid0 h1)
  · repeat (first | rw [if_pos (by decide)] | rw [if_neg (by decide)])
    intro w1 h1
    exact Ctr.ret () (by rw [fP7 rfl]; rfl) trivial (C.hid0 h1)
  · repeat (first | rw [if_pos (by decide)] | rw [if_neg (by decide)])
    by_cases b1 : (decide (nn > 0) && decide (ba > 0)) = true
    rotate_left
    · rw [if_neg (by simpa using b1)]
      intro w1 h1
      refine Ctr.ret () ?_ trivial (C.hid0 h1)
      rw [fP8 rfl]
      show _ = Ending.returned (.bool ((decide (nn > 0) && decide (ba > 0)) && _ && _))
      rw [Bool.eq_false_iff.2 b1]; rfl
    rw [if_pos (by rw [b1]; rfl)]
    intro w1 L2 h1 g1
    refine (cE gr).call (As := []) (C.hidL h1 g1) hee fun _ m2 w7 hk hm _ C => ⟨_, rfl, hk, ?_⟩
    by_cases b2 : allE (es.map En.er) gr = true
    rotate_left
    · rw [if_neg (by simpa using b2)]
      refine Ctr.ret () ?_ trivial C
      rw [fP8 rfl]
      show _ = Ending.returned (.bool ((decide (nn > 0) && decide (ba > 0)) && allE (es.map En.er) gr && _))
      rw [Bool.eq_false_iff.2 b2]; simp
    rw [if_pos (by rw [b2]; rfl)]
    have e8 : ∀ b : Bool, (!has || (decide (ac > 0) && Mv.val (Mg.er ⟨8, gr, co, nn, fr, cm, fl, ba, ac, id, pq, ps, rc, rv, vg, vn, vq, vm, pn, pl, has, mq, ms, eq, es, tq, ts⟩))) = b → Ending.returned (Value.bool b) = Ending.returned (.bool (Mv.fieldsP (Mg.er ⟨8, gr, co, nn, fr, cm, fl, ba, ac, id, pq, ps, rc, rv, vg, vn, vq, vm, pn, pl, has, mq, ms, eq, es, tq, ts⟩))) := fun b h => by
      rw [fP8 rfl]
      show _ = Ending.returned (.bool ((decide (nn > 0) && decide (ba > 0)) && allE (es.map En.er) gr && (!has || (decide (ac > 0) && Mv.val _))))
      rw [b1, b2, h]; rfl
    cases has with
    | false =>
      rw [if_neg (by decide)]
      exact Ctr.ret () (e8 true rfl) trivial C
    | true =>
      rw [if_pos (by decide)]
      by_cases b3 : decide (ac > 0) = true
      · rw [if_pos (by rw [b3]; rfl)]
        refine cV.call (As := []) C (hx.mono hm) fun _ m3 w8 hk hm3 _ C => ⟨_, rfl, hk, Ctr.ret () (e8 _ ?_) trivial C⟩
        rw [b3]; simp
      · rw [if_neg (by simpa using b3)]
        refine Ctr.ret () (e8 _ ?_) trivial C
        rw [Bool.eq_false_iff.2 b3]; rfl
  · repeat (first | rw [if_pos (by decide)] | rw [if_neg (by decide)])
    by_cases b1 : (decide (nn > 0) && decide (ba > 0)) = true
    · rw [if_pos (by rw [b1]; rfl)]
      intro w1 L2 h1 g1
      refine cV.call (As := []) (C.hidL h1 g1) hx fun _ m3 w8 hk hm3 _ C => ⟨_, rfl, hk, Ctr.ret () ?_ trivial C⟩
      rw [fP9 rfl]
      show _ = Ending.returned (.bool ((decide (nn > 0) && decide (ba > 0)) && _))
      rw [b1]
    · rw [if_neg (by simpa using b1)]
      intro w1 h1
      refine Ctr.ret () ?_ trivial (C.hid0 h1)
      rw [fP9 rfl]
      show _ = Ending.returned (.bool ((decide (nn > 0) && decide (ba > 0)) && _))
      rw [Bool.eq_false_iff.2 b1]; rfl
  · repeat (first | rw [if_pos (by decide)] | rw [if_neg (by decide)])
    intro w1 L2 h1 g1
    refine cW.call (As := []) (C.hidL h1 g1) hv fun _ m2 w7 hk hm _ C => ⟨_, rfl, hk, ?_⟩
    by_cases b1 : Vw.ok ⟨vg, vn, vq, vm⟩ = true
    · rw [if_pos (by rw [b1]; rfl)]
      refine (cE vg).call (As := []) C (hee.mono hm) fun _ m2 w7 hk hm _ C => ⟨_, rfl, hk, Ctr.ret () ?_ trivial C⟩
      rw [fP10 rfl]
      show _ = Ending.returned (.bool (Vw.ok ⟨vg, vn, vq, vm⟩ && allE (es.map En.er) vg))
      rw [b1]
    · rw [if_neg (by simpa using b1)]
      refine Ctr.ret () ?_ trivial C
      rw [fP10 rfl]
      show _ = Ending.returned (.bool (Vw.ok ⟨vg, vn, vq, vm⟩ && allE (es.map En.er) vg))
      rw [Bool.eq_false_iff.2 b1]; rfl
  · repeat (first | rw [if_pos (by decide)] | rw [if_neg (by decide)])
    intro w1 L2 h1 g1
    exact (C.hidL h1 g1).gives cP fun w5 k5 C => ⟨_, rfl, k5, Ctr.ret () (by rw [fP11 rfl]; rfl) trivial C⟩
  · repeat (first | rw [if_pos (by decide)] | rw [if_neg (by decide)])
    intro w1 L2 h1 g1
    exact (C.hidL h1 g1).gives cP fun w5 k5 C => ⟨_, rfl, k5, Ctr.ret () (by rw [fP12 rfl]; rfl) trivial C⟩
  · repeat (first | rw [if_pos (by decide)] | rw [if_neg (by decide)])
    intro w1 L2 h1 g1
    exact (C.hidL h1 g1).gives cP fun w5 k5 C => ⟨_, rfl, k5, Ctr.ret () (by rw [fP13 rfl]; rfl) trivial C⟩
  · have n0 : ¬ ((kd == 0) = true) := by intro h; rw [beq_iff_eq] at h; subst h; exact hk (by show (0 : Int) ≤ 0 ∧ (0 : Int) ≤ 13; decide)
    have n1 : ¬ ((kd == 1) = true) := by intro h; rw [beq_iff_eq] at h; subst h; exact hk (by show (0 : Int) ≤ 1 ∧ (1 : Int) ≤ 13; decide)
    have n2 : ¬ ((kd == 2) = true) := by intro h; rw [beq_iff_eq] at h; subst h; exact hk (by show (0 : Int) ≤ 2 ∧ (2 : Int) ≤ 13; decide)
    have n3 : ¬ ((kd == 3) = true) := by intro h; rw [beq_iff_eq] at h; subst h; exact hk (by show (0 : Int) ≤ 3 ∧ (3 : Int) ≤ 13; decide)
    have n4 : ¬ ((kd == 4) = true) := by intro h; rw [beq_iff_eq] at h; subst h; exact hk (by show (0 : Int) ≤ 4 ∧ (4 : Int) ≤ 13; decide)
    have n5 : ¬ ((kd == 5) = true) := by intro h; rw [beq_iff_eq] at h; subst h; exact hk (by show (0 : Int) ≤ 5 ∧ (5 : Int) ≤ 13; decide)
    have n6 : ¬ ((kd == 6) = true) := by intro h; rw [beq_iff_eq] at h; subst h; exact hk (by show (0 : Int) ≤ 6 ∧ (6 : Int) ≤ 13; decide)
    have n7 : ¬ ((kd == 7) = true) := by intro h; rw [beq_iff_eq] at h; subst h; exact hk (by show (0 : Int) ≤ 7 ∧ (7 : Int) ≤ 13; decide)
    have n8 : ¬ ((kd == 8) = true) := by intro h; rw [beq_iff_eq] at h; subst h; exact hk (by show (0 : Int) ≤ 8 ∧ (8 : Int) ≤ 13; decide)
    have n9 : ¬ ((kd == 9) = true) := by intro h; rw [beq_iff_eq] at h; subst h; exact hk (by show (0 : Int) ≤ 9 ∧ (9 : Int) ≤ 13; decide)
    have n10 : ¬ ((kd == 10) = true) := by intro h; rw [beq_iff_eq] at h; subst h; exact hk (by show (0 : Int) ≤ 10 ∧ (10 : Int) ≤ 13; decide)
    have n11 : ¬ ((kd == 11) = true) := by intro h; rw [beq_iff_eq] at h; subst h; exact hk (by show (0 : Int) ≤ 11 ∧ (11 : Int) ≤ 13; decide)
    have n12 : ¬ ((kd == 12) = true) := by intro h; rw [beq_iff_eq] at h; subst h; exact hk (by show (0 : Int) ≤ 12 ∧ (12 : Int) ≤ 13; decide)
    have n13 : ¬ ((kd == 13) = true) := by intro h; rw [beq_iff_eq] at h; subst h; exact hk (by show (0 : Int) ≤ 13 ∧ (13 : Int) ≤ 13; decide)
    rw [if_neg n0, if_neg n1, if_neg n2, if_neg n3, if_neg n4, if_neg n5, if_neg n6, if_neg n7, if_neg n8, if_neg n9, if_neg n10, if_neg n11, if_neg n12, if_neg n13]
    intro w1 h1
    exact Ctr.ret () (by rw [fPo hk]) trivial (C.hid0 h1)
theorem c_mOnly (x : Mg) : Ctr Try.prog 35 #[.agg x.row.toArray] (fun m => MgM m x) [] (fun y : Mg => .agg y.row.toArray) (fun y m => MgM m y ∧ y.er = x.er.onlyP) (fun _ => []) := by
  refine Ctr.mk fun w F m C hx => x_mOnly _ _ _ _ _ _ _ _ _ _ _ _ _ _ _ _ _ _ _ _ _ _ _ _ _ _ _ _ _ _ _ _ _ _ _ _ _ _ _ _ _ w _ ?_
  obtain hk | hk | hk | hk | hk | hk | hk | hk | hk | hk | hk | hk | hk | hk | hk : x.kd = 0 ∨ x.kd = 1 ∨ x.kd = 2 ∨ x.kd = 3 ∨ x.kd = 4 ∨ x.kd = 5 ∨ x.kd = 6 ∨ x.kd = 7 ∨ x.kd = 8 ∨ x.kd = 9 ∨ x.kd = 10 ∨ x.kd = 11 ∨ x.kd = 12 ∨ x.kd = 13 ∨ ¬ (0 ≤ x.kd ∧ x.kd ≤ 13) := by omega
  all_goals (obtain ⟨kd, gr, co, nn, fr, cm, fl, ba, ac, id, pq, ps, rc, rv, vg, vn, vq, vm, pn, pl, has, mq, ms, eq, es, tq, ts⟩ := x)
  all_goals (try (replace hk : kd = _ := hk))
  all_goals (try subst hk)
  all_goals (dsimp only)
  · repeat (first | rw [if_pos (by decide)] | rw [if_neg (by decide)])
    exact ⟨[], facts_nil _ _, fun w1 h1 => Ctr.ret (m' := m) (L := []) (Mg.o0 _) rfl ⟨oM0 hx, by rw [oP0 rfl]; rfl⟩ (C.hid0 h1)⟩
  · repeat (first | rw [if_pos (by decide)] | rw [if_neg (by decide)])
    exact fun w1 h1 => Ctr.ret (m' := m) (L := []) (Mg.o1 _) rfl ⟨oM1 hx, by rw [oP1 rfl]; rfl⟩ (C.hid0 h1)
  · repeat (first | rw [if_pos (by decide)] | rw [if_neg (by decide)])
    exact fun w1 h1 => Ctr.ret (m' := m) (L := []) (Mg.o2 _) rfl ⟨oM2 hx, by rw [oP2 rfl]; rfl⟩ (C.hid0 h1)
  · repeat (first | rw [if_pos (by decide)] | rw [if_neg (by decide)])
    exact ⟨[], facts_nil _ _, ⟨[], facts_nil _ _, fun w1 h1 => Ctr.ret (m' := m) (L := []) (Mg.o3 _) rfl ⟨oM3 hx, by rw [oP3 rfl]; rfl⟩ (C.hid0 h1)⟩⟩
  · repeat (first | rw [if_pos (by decide)] | rw [if_neg (by decide)])
    exact ⟨[], facts_nil _ _, fun w1 h1 => Ctr.ret (m' := m) (L := []) (Mg.o4 _) rfl ⟨oM4 hx, by rw [oP4 rfl]; rfl⟩ (C.hid0 h1)⟩
  · repeat (first | rw [if_pos (by decide)] | rw [if_neg (by decide)])
    exact ⟨[], facts_nil _ _, fun w1 h1 => Ctr.ret (m' := m) (L := []) (Mg.o5 _) rfl ⟨oM5 hx, by rw [oP5 rfl]; rfl⟩ (C.hid0 h1)⟩
  · repeat (first | rw [if_pos (by decide)] | rw [if_neg (by decide)])
    exact ⟨[], facts_nil _ _, fun w1 h1 => Ctr.ret (m' := m) (L := []) (Mg.o5 _) rfl ⟨oM5 hx, by rw [oP6 rfl]; rfl⟩ (C.hid0 h1)⟩
  · repeat (first | rw [if_pos (by decide)] | rw [if_neg (by decide)])
    exact ⟨[], facts_nil _ _, fun w1 h1 => Ctr.ret (m' := m) (L := []) (Mg.o5 _) rfl ⟨oM5 hx, by rw [oP7 rfl]; rfl⟩ (C.hid0 h1)⟩
  · repeat (first | rw [if_pos (by decide)] | rw [if_neg (by decide)])
    refine ⟨[], facts_nil _ _, ?_⟩
    cases has with
    | true =>
      rw [if_pos rfl]
      exact ⟨[], facts_nil _ _, [], facts_nil _ _, fun w1 h1 => Ctr.ret (m' := m) (L := []) (Mg.o8t _) rfl ⟨oM8t hx, by rw [oP8 rfl]; rfl⟩ (C.hid0 h1)⟩
    | false =>
      rw [if_neg (by decide)]
      exact ⟨[], facts_nil _ _, fun w1 h1 => Ctr.ret (m' := m) (L := []) (Mg.o8f _) rfl ⟨oM8f hx, by rw [oP8 rfl]; rfl⟩ (C.hid0 h1)⟩
  · repeat (first | rw [if_pos (by decide)] | rw [if_neg (by decide)])
    exact ⟨[], facts_nil _ _, ⟨[], facts_nil _ _, fun w1 h1 => Ctr.ret (m' := m) (L := []) (Mg.o9 _) rfl ⟨oM9 hx, by rw [oP9 rfl]; rfl⟩ (C.hid0 h1)⟩⟩
  · repeat (first | rw [if_pos (by decide)] | rw [if_neg (by decide)])
    exact fun w1 h1 => Ctr.ret (m' := m) (L := []) (Mg.o10 _) rfl ⟨oM10 hx, by rw [oP10 rfl]; rfl⟩ (C.hid0 h1)
  · repeat (first | rw [if_pos (by decide)] | rw [if_neg (by decide)])
    exact fun w1 h1 => Ctr.ret (m' := m) (L := []) (Mg.o11 _) rfl ⟨oM11 hx, by rw [oP11 rfl]; rfl⟩ (C.hid0 h1)
  · repeat (first | rw [if_pos (by decide)] | rw [if_neg (by decide)])
    exact fun w1 h1 => Ctr.ret (m' := m) (L := []) (Mg.o11 _) rfl ⟨oM11 hx, by rw [oP12 rfl]; rfl⟩ (C.hid0 h1)
  · repeat (first | rw [if_pos (by decide)] | rw [if_neg (by decide)])
    exact fun w1 h1 => Ctr.ret (m' := m) (L := []) (Mg.o11 _) rfl ⟨oM11 hx, by rw [oP13 rfl]; rfl⟩ (C.hid0 h1)
  · have n0 : ¬ ((kd == 0) = true) := by intro h; rw [beq_iff_eq] at h; subst h; exact hk (by show (0 : Int) ≤ 0 ∧ (0 : Int) ≤ 13; decide)
    have n1 : ¬ ((kd == 1) = true) := by intro h; rw [beq_iff_eq] at h; subst h; exact hk (by show (0 : Int) ≤ 1 ∧ (1 : Int) ≤ 13; decide)
    have n2 : ¬ ((kd == 2) = true) := by intro h; rw [beq_iff_eq] at h; subst h; exact hk (by show (0 : Int) ≤ 2 ∧ (2 : Int) ≤ 13; decide)
    have n3 : ¬ ((kd == 3) = true) := by intro h; rw [beq_iff_eq] at h; subst h; exact hk (by show (0 : Int) ≤ 3 ∧ (3 : Int) ≤ 13; decide)
    have n4 : ¬ ((kd == 4) = true) := by intro h; rw [beq_iff_eq] at h; subst h; exact hk (by show (0 : Int) ≤ 4 ∧ (4 : Int) ≤ 13; decide)
    have n5 : ¬ ((kd == 5) = true) := by intro h; rw [beq_iff_eq] at h; subst h; exact hk (by show (0 : Int) ≤ 5 ∧ (5 : Int) ≤ 13; decide)
    have n6 : ¬ ((kd == 6) = true) := by intro h; rw [beq_iff_eq] at h; subst h; exact hk (by show (0 : Int) ≤ 6 ∧ (6 : Int) ≤ 13; decide)
    have n7 : ¬ ((kd == 7) = true) := by intro h; rw [beq_iff_eq] at h; subst h; exact hk (by show (0 : Int) ≤ 7 ∧ (7 : Int) ≤ 13; decide)
    have n8 : ¬ ((kd == 8) = true) := by intro h; rw [beq_iff_eq] at h; subst h; exact hk (by show (0 : Int) ≤ 8 ∧ (8 : Int) ≤ 13; decide)
    have n9 : ¬ ((kd == 9) = true) := by intro h; rw [beq_iff_eq] at h; subst h; exact hk (by show (0 : Int) ≤ 9 ∧ (9 : Int) ≤ 13; decide)
    have n10 : ¬ ((kd == 10) = true) := by intro h; rw [beq_iff_eq] at h; subst h; exact hk (by show (0 : Int) ≤ 10 ∧ (10 : Int) ≤ 13; decide)
    have n11 : ¬ ((kd == 11) = true) := by intro h; rw [beq_iff_eq] at h; subst h; exact hk (by show (0 : Int) ≤ 11 ∧ (11 : Int) ≤ 13; decide)
    have n12 : ¬ ((kd == 12) = true) := by intro h; rw [beq_iff_eq] at h; subst h; exact hk (by show (0 : Int) ≤ 12 ∧ (12 : Int) ≤ 13; decide)
    have n13 : ¬ ((kd == 13) = true) := by intro h; rw [beq_iff_eq] at h; subst h; exact hk (by show (0 : Int) ≤ 13 ∧ (13 : Int) ≤ 13; decide)
    repeat (first | rw [if_neg n0] | rw [if_neg n1] | rw [if_neg n2] | rw [if_neg n3] | rw [if_neg n4] | rw [if_neg n5] | rw [if_neg n6] | rw [if_neg n7] | rw [if_neg n8] | rw [if_neg n9] | rw [if_neg n10] | rw [if_neg n11] | rw [if_neg n12] | rw [if_neg n13])
    exact fun w1 h1 => Ctr.ret (m' := m) (L := []) (Mg.oo _) rfl ⟨oMo hx, by rw [oPo hk]; rfl⟩ (C.hid0 h1)
end Go.Proofs
namespace Go.Proofs
open Go X RowKit
/-! ### two messages held against each other -/
theorem er_no {a b : Mg} {c : Bool} (h : ¬ c = true) (hc : a.er = b.er → c = true) : decide (a.er = b.er) = false := decide_eq_false (fun e => h (hc e))
theorem lenEq {l l' : List En} (h : l.map En.er = l'.map En.er) : l.length = l'.length := by simpa using congrArg List.length h
theorem c_mSame (a b : Mg) : Ctr Try.prog 12 #[.agg a.row.toArray, .agg b.row.toArray] (fun m => MgM m a ∧ MgM m b) [] (fun _ : Unit => .bool (decide (a.er = b.er))) (fun _ _ => True) (fun _ => []) := by
  refine Ctr.mk fun w F m C hp => x_mSame _ _ _ _ _ _ _ _ _ _ _ _ _ _ _ _ _ _ _ _ _ _ _ _ _ _ _ _ _ _ _ _ _ _ _ _ _ _ _ _ _ _ _ _ _ _ _ _ _ _ _ _ _ _ _ _ _ _ _ _ _ _ _ _ _ _ _ _ _ _ _ _ _ _ _ _ _ _ _ _ _ _ w _ fun w1 L2 h1 g1 => ?_
  obtain ⟨ha, hb⟩ := hp
  refine (c_pSame a.pq b.pq a.ps b.ps (by have := ha.pl; omega)).call (As := []) (C.hidL h1 g1) ⟨ha.p, hb.p⟩ fun _ m1 w4 hk hm _ C => ⟨_, rfl, hk, ?_⟩
  replace ha := ha.mono hm; replace hb := hb.mono hm
  by_cases n_ps : decide (a.ps = b.ps) = true
  rotate_left
  · rw [if_neg (by rw [Bool.eq_false_iff.2 n_ps]; decide)]
    refine Ctr.ret () ?_ trivial C
    rw [er_no n_ps (fun h => by have e : a.ps = b.ps := congrArg Mv.ps h; exact decide_eq_true e)]; simp only [Bool.false_and]
  rw [if_pos (by rw [n_ps]; rfl)]
  refine (c_vSame ⟨a.vg, a.vn, a.vq, a.vm⟩ ⟨b.vg, b.vn, b.vq, b.vm⟩ ha.vl).call (As := []) C ⟨ha.v, hb.v⟩ fun _ m1 w7 hk hm _ C => ⟨_, rfl, hk, ?_⟩
  replace ha := ha.mono hm; replace hb := hb.mono hm
  by_cases n_v : ((a.vg == b.vg) && (a.vn == b.vn) && decide (a.vm = b.vm)) = true
  rotate_left
  · rw [if_neg (by rw [Bool.eq_false_iff.2 n_v]; decide)]
    refine Ctr.ret () ?_ trivial C
    rw [er_no n_v (fun h => by have e1 : a.vg = b.vg := congrArg Mv.vg h; have e2 : a.vn = b.vn := congrArg Mv.vn h; have e3 : a.vm = b.vm := congrArg Mv.vm h; rw [e1, e2, e3]; simp)]; simp only [Bool.false_and]
  rw [if_pos (by rw [n_v]; rfl)]
  refine (c_EqualPr a.mq b.mq a.ms b.ms (by have := ha.ml; omega)).call (As := []) C ⟨ha.mm, hb.mm⟩ fun _ m1 w7 hk hm _ C => ⟨_, rfl, hk, ?_⟩
  replace ha := ha.mono hm; replace hb := hb.mono hm
  by_cases n_ms : decide (a.ms = b.ms) = true
  rotate_left
  · rw [if_neg (by rw [Bool.eq_false_iff.2 n_ms]; decide)]
    refine Ctr.ret () ?_ trivial C
    rw [er_no n_ms (fun h => by have e : a.ms = b.ms := congrArg Mv.ms h; exact decide_eq_true e)]; simp only [Bool.false_and]
  rw [if_pos (by rw [n_ms]; rfl)]
  refine (c_eSameAll a.eq b.eq a.es b.es (by have := ha.el; omega)).call (As := []) C ⟨ha.e, hb.e⟩ fun _ m1 w7 hk hm _ C => ⟨_, rfl, hk, ?_⟩
  replace ha := ha.mono hm; replace hb := hb.mono hm
  by_cases n_es : decide (a.es.map En.er = b.es.map En.er) = true
  rotate_left
  · rw [if_neg (by rw [Bool.eq_false_iff.2 n_es]; decide)]
    refine Ctr.ret () ?_ trivial C
    rw [er_no n_es (fun h => by have e : a.es.map En.er = b.es.map En.er := congrArg Mv.es h; exact decide_eq_true e)]; simp only [Bool.false_and]
  rw [if_pos (by rw [n_es]; rfl)]
  refine (c_eSameAll a.tq b.tq a.ts b.ts (by have := ha.tl; omega)).call (As := []) C ⟨ha.t, hb.t⟩ fun _ m1 w7 hk hm _ C => ⟨_, rfl, hk, ?_⟩
  refine Ctr.ret () ?_ trivial C
  by_cases n_ts : decide (a.ts.map En.er = b.ts.map En.er) = true
  rotate_left
  · rw [er_no n_ts (fun h => by have e : a.ts.map En.er = b.ts.map En.er := congrArg Mv.ts h; exact decide_eq_true e), Bool.eq_false_iff.2 n_ts]; simp only [Bool.false_and, Bool.and_false, Bool.true_and]
  by_cases n_kd : (a.kd == b.kd) = true
  rotate_left
  · rw [er_no n_kd (fun h => by have e := congrArg Mv.kd h; exact beq_iff_eq.2 e), Bool.eq_false_iff.2 n_kd]; simp only [Bool.false_and, Bool.and_false, Bool.true_and]
  by_cases n_gr : (a.gr == b.gr) = true
  rotate_left
  · rw [er_no n_gr (fun h => by have e := congrArg Mv.gr h; exact beq_iff_eq.2 e), Bool.eq_false_iff.2 n_gr]; simp only [Bool.false_and, Bool.and_false, Bool.true_and]
  by_cases n_co : (a.co == b.co) = true
  rotate_left
  · rw [er_no n_co (fun h => by have e := congrArg Mv.co h; exact beq_iff_eq.2 e), Bool.eq_false_iff.2 n_co]; simp only [Bool.false_and, Bool.and_false, Bool.true_and]
  by_cases n_nn : (a.nn == b.nn) = true
  rotate_left
  · rw [er_no n_nn (fun h => by have e := congrArg Mv.nn h; exact beq_iff_eq.2 e), Bool.eq_false_iff.2 n_nn]; simp only [Bool.false_and, Bool.and_false, Bool.true_and]
  by_cases n_fr : (a.fr == b.fr) = true
  rotate_left
  · rw [er_no n_fr (fun h => by have e := congrArg Mv.fr h; exact beq_iff_eq.2 e), Bool.eq_false_iff.2 n_fr]; simp only [Bool.false_and, Bool.and_false, Bool.true_and]
  by_cases n_cm : (a.cm == b.cm) = true
  rotate_left
  · rw [er_no n_cm (fun h => by have e := congrArg Mv.cm h; exact beq_iff_eq.2 e), Bool.eq_false_iff.2 n_cm]; simp only [Bool.false_and, Bool.and_false, Bool.true_and]
  by_cases n_fl : (a.fl == b.fl) = true
  rotate_left
  · rw [er_no n_fl (fun h => by have e := congrArg Mv.fl h; exact beq_iff_eq.2 e), Bool.eq_false_iff.2 n_fl]; simp only [Bool.false_and, Bool.and_false, Bool.true_and]
  by_cases n_ba : (a.ba == b.ba) = true
  rotate_left
  · rw [er_no n_ba (fun h => by have e := congrArg Mv.ba h; exact beq_iff_eq.2 e), Bool.eq_false_iff.2 n_ba]; simp only [Bool.false_and, Bool.and_false, Bool.true_and]
  by_cases n_ac : (a.ac == b.ac) = true
  rotate_left
  · rw [er_no n_ac (fun h => by have e := congrArg Mv.ac h; exact beq_iff_eq.2 e), Bool.eq_false_iff.2 n_ac]; simp only [Bool.false_and, Bool.and_false, Bool.true_and]
  by_cases n_id : (((a.id.n == b.id.n) && (a.id.l == b.id.l)) && ((a.id.s == b.id.s) && ((a.id.d == b.id.d) && (((a.id.g0 == b.id.g0) && (a.id.i0 == b.id.i0)) && (((a.id.g1 == b.id.g1) && (a.id.i1 == b.id.i1)) && ((a.id.g2 == b.id.g2) && (a.id.i2 == b.id.i2))))))) = true
  rotate_left
  · rw [er_no n_id (fun h => by have e : a.id = b.id := congrArg Mv.id h; rw [i_eqd]; exact decide_eq_true e), Bool.eq_false_iff.2 n_id]; simp only [Bool.false_and, Bool.and_false, Bool.true_and]
  by_cases n_res : ((a.rc == b.rc) && (a.rv == b.rv)) = true
  rotate_left
  · rw [er_no n_res (fun h => by have e1 : a.rc = b.rc := congrArg Mv.rc h; have e2 : a.rv = b.rv := congrArg Mv.rv h; rw [Bool.and_eq_true]; exact ⟨beq_iff_eq.2 e1, (ba_eq _ _).2 e2⟩), Bool.eq_false_iff.2 n_res]; simp only [Bool.false_and, Bool.and_false, Bool.true_and]
  by_cases n_proc : ((a.pn == b.pn) && (a.pl == b.pl)) = true
  rotate_left
  · rw [er_no n_proc (fun h => by have e1 : a.pn = b.pn := congrArg Mv.pn h; have e2 : a.pl = b.pl := congrArg Mv.pl h; rw [Bool.and_eq_true]; exact ⟨beq_iff_eq.2 e1, beq_iff_eq.2 e2⟩), Bool.eq_false_iff.2 n_proc]; simp only [Bool.false_and, Bool.and_false, Bool.true_and]
  by_cases n_has : (a.has == b.has) = true
  rotate_left
  · rw [er_no n_has (fun h => by have e := congrArg Mv.has h; exact beq_iff_eq.2 e), Bool.eq_false_iff.2 n_has]; simp only [Bool.false_and, Bool.and_false, Bool.true_and]
  have e : a.er = b.er := by
    exact mv_ext ⟨beq_iff_eq.1 n_kd, beq_iff_eq.1 n_gr, beq_iff_eq.1 n_co, beq_iff_eq.1 n_nn, beq_iff_eq.1 n_fr, beq_iff_eq.1 n_cm, beq_iff_eq.1 n_fl, beq_iff_eq.1 n_ba, beq_iff_eq.1 n_ac, by rw [i_eqd] at n_id; exact of_decide_eq_true n_id, of_decide_eq_true n_ps, by rw [Bool.and_eq_true] at n_res; exact beq_iff_eq.1 n_res.1, by rw [Bool.and_eq_true] at n_res; exact (ba_eq _ _).1 n_res.2, by simp only [Bool.and_eq_true, beq_iff_eq] at n_v; exact n_v.1.1, by simp only [Bool.and_eq_true, beq_iff_eq] at n_v; exact n_v.1.2, by simp only [Bool.and_eq_true, decide_eq_true_eq] at n_v; exact n_v.2, by rw [Bool.and_eq_true] at n_proc; exact beq_iff_eq.1 n_proc.1, by rw [Bool.and_eq_true] at n_proc; exact beq_iff_eq.1 n_proc.2, by exact beq_iff_eq.1 n_has, of_decide_eq_true n_ms, of_decide_eq_true n_es, of_decide_eq_true n_ts⟩
  rw [decide_eq_true e, n_ts, n_kd, n_gr, n_co, n_nn, n_fr, n_cm, n_fl, n_ba, n_ac, n_id, n_res, n_proc, n_has]; rfl
theorem c_r7Same (a b : Mg) : Ctr Try.prog 13 #[.agg a.row.toArray, .agg b.row.toArray] (fun m => MgM m a ∧ MgM m b) [] (fun _ : Unit => .bool (decide (a.er = b.er))) (fun _ _ => True) (fun _ => []) := by
  refine Ctr.mk fun w F m C hp => x_r7Same _ _ _ _ _ _ _ _ _ _ _ _ _ _ _ _ _ _ _ _ _ _ _ _ _ _ _ _ _ _ _ _ _ _ _ _ _ _ _ _ _ _ _ _ _ _ _ _ _ _ _ _ _ _ _ _ _ _ _ _ _ _ _ _ _ _ _ _ _ _ _ _ _ _ _ _ _ _ _ _ _ _ w _ fun w1 L2 h1 g1 => ?_
  obtain ⟨ha, hb⟩ := hp
  replace C := (C.hidL h1 g1).alloc b.row 40
  refine ⟨b.kd, C.blkCell (j := 0) rfl, C.blkAt.2, ?_⟩
  by_cases n_kd : (a.kd == b.kd) = true
  rotate_left
  · rw [if_neg (by rw [Bool.eq_false_iff.2 n_kd]; decide)]
    refine Ctr.ret (m' := _) (L := _) () ?_ trivial C.drop
    rw [er_no n_kd (fun h => by have e := congrArg Mv.kd h; exact beq_iff_eq.2 e)]
  rw [if_pos (by rw [n_kd]; rfl)]
  refine ⟨b.gr, C.blkCell (j := 1) rfl, C.blkAt.2, ?_⟩
  by_cases n_gr : (a.gr == b.gr) = true
  rotate_left
  · rw [if_neg (by rw [Bool.eq_false_iff.2 n_gr]; decide)]
    refine Ctr.ret (m' := _) (L := _) () ?_ trivial C.drop
    rw [er_no n_gr (fun h => by have e := congrArg Mv.gr h; exact beq_iff_eq.2 e)]
  rw [if_pos (by rw [n_gr]; rfl)]
  refine ⟨b.co, C.blkCell (j := 2) rfl, C.blkAt.2, ?_⟩
  by_cases n_co : (a.co == b.co) = true
  rotate_left
  · rw [if_neg (by rw [Bool.eq_false_iff.2 n_co]; decide)]
    refine Ctr.ret (m' := _) (L := _) () ?_ trivial C.drop
    rw [er_no n_co (fun h => by have e := congrArg Mv.co h; exact beq_iff_eq.2 e)]
  rw [if_pos (by rw [n_co]; rfl)]
  refine ⟨b.nn, C.blkCell (j := 3) rfl, C.blkAt.2, ?_⟩
  by_cases n_nn : (a.nn == b.nn) = true
  rotate_left
  · rw [if_neg (by rw [Bool.eq_false_iff.2 n_nn]; decide)]
    refine Ctr.ret (m' := _) (L := _) () ?_ trivial C.drop
    rw [er_no n_nn (fun h => by have e := congrArg Mv.nn h; exact beq_iff_eq.2 e)]
  rw [if_pos (by rw [n_nn]; rfl)]
  refine ⟨b.fr, C.blkCell (j := 4) rfl, C.blkAt.2, ?_⟩
  by_cases n_fr : (a.fr == b.fr) = true
  rotate_left
  · rw [if_neg (by rw [Bool.eq_false_iff.2 n_fr]; decide)]
    refine Ctr.ret (m' := _) (L := _) () ?_ trivial C.drop
    rw [er_no n_fr (fun h => by have e := congrArg Mv.fr h; exact beq_iff_eq.2 e)]
  rw [if_pos (by rw [n_fr]; rfl)]
  refine ⟨b.cm, C.blkCell (j := 5) rfl, C.blkAt.2, ?_⟩
  by_cases n_cm : (a.cm == b.cm) = true
  rotate_left
  · rw [if_neg (by rw [Bool.eq_false_iff.2 n_cm]; decide)]
    refine Ctr.ret (m' := _) (L := _) () ?_ trivial C.drop
    rw [er_no n_cm (fun h => by have e := congrArg Mv.cm h; exact beq_iff_eq.2 e)]
  rw [if_pos (by rw [n_cm]; rfl)]
  refine ⟨b.fl, C.blkCell (j := 6) rfl, C.blkAt.2, ?_⟩
  by_cases n_fl : (a.fl == b.fl) = true
  rotate_left
  · rw [if_neg (by rw [Bool.eq_false_iff.2 n_fl]; decide)]
    refine Ctr.ret (m' := _) (L := _) () ?_ trivial C.drop
    rw [er_no n_fl (fun h => by have e := congrArg Mv.fl h; exact beq_iff_eq.2 e)]
  rw [if_pos (by rw [n_fl]; rfl)]
  refine ⟨b.ba, C.blkCell (j := 7) rfl, C.blkAt.2, ?_⟩
  by_cases n_ba : (a.ba == b.ba) = true
  rotate_left
  · rw [if_neg (by rw [Bool.eq_false_iff.2 n_ba]; decide)]
    refine Ctr.ret (m' := _) (L := _) () ?_ trivial C.drop
    rw [er_no n_ba (fun h => by have e := congrArg Mv.ba h; exact beq_iff_eq.2 e)]
  rw [if_pos (by rw [n_ba]; rfl)]
  refine ⟨b.ac, C.blkCell (j := 8) rfl, C.blkAt.2, ?_⟩
  by_cases n_ac : (a.ac == b.ac) = true
  rotate_left
  · rw [if_neg (by rw [Bool.eq_false_iff.2 n_ac]; decide)]
    refine Ctr.ret (m' := _) (L := _) () ?_ trivial C.drop
    rw [er_no n_ac (fun h => by have e := congrArg Mv.ac h; exact beq_iff_eq.2 e)]
  rw [if_pos (by rw [n_ac]; rfl)]
  refine ⟨_, _, _, _, _, _, _, _, _, _, C.blkCells (o := 9) (fun j v h => by rcases j with _ | _ | _ | _ | _ | _ | _ | _ | _ | _ | j <;> first | exact h | (simp at h)), C.blkAt.2, ?_⟩
  by_cases n_id : (((a.id.n == b.id.n) && (a.id.l == b.id.l)) && ((a.id.s == b.id.s) && ((a.id.d == b.id.d) && (((a.id.g0 == b.id.g0) && (a.id.i0 == b.id.i0)) && (((a.id.g1 == b.id.g1) && (a.id.i1 == b.id.i1)) && ((a.id.g2 == b.id.g2) && (a.id.i2 == b.id.i2))))))) = true
  rotate_left
  · rw [if_neg (by rw [Bool.eq_false_iff.2 n_id]; decide)]
    refine Ctr.ret (m' := _) (L := _) () ?_ trivial C.drop
    rw [er_no n_id (fun h => by have e : a.id = b.id := congrArg Mv.id h; rw [i_eqd]; exact decide_eq_true e)]
  rw [if_pos (by rw [n_id]; rfl)]
  refine ⟨b.pq.1, b.ps.length, b.pq.2, C.blkCell (j := 19) rfl, C.blkAt.2, ?_⟩
  refine (c_r3Same a.pq b.pq a.ps b.ps (by have := ha.pl; omega)).call (As := [_]) C ⟨ha.p, hb.p⟩ fun _ m1 w4 hk hm _ C => ⟨_, rfl, hk, ?_⟩
  replace ha := ha.mono hm; replace hb := hb.mono hm
  by_cases n_ps : decide (a.ps = b.ps) = true
  rotate_left
  · rw [if_neg (by rw [Bool.eq_false_iff.2 n_ps]; decide)]
    refine Ctr.ret (m' := _) (L := _) () ?_ trivial C.drop
    rw [er_no n_ps (fun h => by have e : a.ps = b.ps := congrArg Mv.ps h; exact decide_eq_true e)]
  rw [if_pos (by rw [n_ps]; rfl)]
  refine ⟨_, _, C.blkCells (o := 20) (fun j v h => by rcases j with _ | _ | j <;> first | exact h | (simp at h)), C.blkAt.2, ?_⟩
  by_cases n_res : ((a.rc == b.rc) && (a.rv == b.rv)) = true
  rotate_left
  · rw [if_neg (by rw [Bool.eq_false_iff.2 n_res]; decide)]
    refine Ctr.ret (m' := _) (L := _) () ?_ trivial C.drop
    rw [er_no n_res (fun h => by have e1 : a.rc = b.rc := congrArg Mv.rc h; have e2 : a.rv = b.rv := congrArg Mv.rv h; rw [Bool.and_eq_true]; exact ⟨beq_iff_eq.2 e1, (ba_eq _ _).2 e2⟩)]
  rw [if_pos (by rw [n_res]; rfl)]
  refine ⟨b.vg, b.vn, b.vq.1, b.vm.length, b.vq.2, C.blkCells (o := 22) (fun j v h => by rcases j with _ | _ | _ | j <;> first | exact h | (simp at h)), C.blkAt.2, ?_⟩
  refine (c_r6Same ⟨a.vg, a.vn, a.vq, a.vm⟩ ⟨b.vg, b.vn, b.vq, b.vm⟩ ha.vl).call (As := [_]) C ⟨ha.v, hb.v⟩ fun _ m1 w7 hk hm _ C => ⟨_, rfl, hk, ?_⟩
  replace ha := ha.mono hm; replace hb := hb.mono hm
  by_cases n_v : ((a.vg == b.vg) && (a.vn == b.vn) && decide (a.vm = b.vm)) = true
  rotate_left
  · rw [if_neg (by rw [Bool.eq_false_iff.2 n_v]; decide)]
    refine Ctr.ret (m' := _) (L := _) () ?_ trivial C.drop
    rw [er_no n_v (fun h => by have e1 : a.vg = b.vg := congrArg Mv.vg h; have e2 : a.vn = b.vn := congrArg Mv.vn h; have e3 : a.vm = b.vm := congrArg Mv.vm h; rw [e1, e2, e3]; simp)]
  rw [if_pos (by rw [n_v]; rfl)]
  refine ⟨_, _, C.blkCells (o := 25) (fun j v h => by rcases j with _ | _ | j <;> first | exact h | (simp at h)), C.blkAt.2, ?_⟩
  by_cases n_proc : ((a.pn == b.pn) && (a.pl == b.pl)) = true
  rotate_left
  · rw [if_neg (by rw [Bool.eq_false_iff.2 n_proc]; decide)]
    refine Ctr.ret (m' := _) (L := _) () ?_ trivial C.drop
    rw [er_no n_proc (fun h => by have e1 : a.pn = b.pn := congrArg Mv.pn h; have e2 : a.pl = b.pl := congrArg Mv.pl h; rw [Bool.and_eq_true]; exact ⟨beq_iff_eq.2 e1, beq_iff_eq.2 e2⟩)]
  rw [if_pos (by rw [n_proc]; rfl)]
  refine ⟨b.has, C.blkCell (j := 27) rfl, C.blkAt.2, ?_⟩
  by_cases n_has : (a.has == b.has) = true
  rotate_left
  · rw [if_neg (by rw [Bool.eq_false_iff.2 n_has]; decide)]
    refine Ctr.ret (m' := _) (L := _) () ?_ trivial C.drop
    rw [er_no n_has (fun h => by have e := congrArg Mv.has h; exact beq_iff_eq.2 e)]
  rw [if_pos (by rw [n_has]; rfl)]
  refine ⟨b.mq.1, b.ms.length, b.mq.2, C.blkCell (j := 28) rfl, C.blkAt.2, ?_⟩
  refine (c_SameProcs a.mq b.mq a.ms b.ms (by have := ha.ml; omega)).call (As := [_]) C ⟨ha.mm, hb.mm⟩ fun _ m1 w7 hk hm _ C => ⟨_, rfl, hk, ?_⟩
  replace ha := ha.mono hm; replace hb := hb.mono hm
  by_cases n_ms : decide (a.ms = b.ms) = true
  rotate_left
  · rw [if_neg (by rw [Bool.eq_false_iff.2 n_ms]; decide)]
    refine Ctr.ret (m' := _) (L := _) () ?_ trivial C.drop
    rw [er_no n_ms (fun h => by have e : a.ms = b.ms := congrArg Mv.ms h; exact decide_eq_true e)]
  rw [if_pos (by rw [n_ms]; rfl)]
  refine ⟨b.eq.1, b.es.length, b.eq.2, C.blkCell (j := 29) rfl, C.blkAt.2, ?_⟩
  refine (c_rSameAll a.eq b.eq a.es b.es (by have := ha.el; omega)).call (As := [_]) C ⟨ha.e, hb.e⟩ fun _ m1 w7 hk hm _ C => ⟨_, rfl, hk, ?_⟩
  replace ha := ha.mono hm; replace hb := hb.mono hm
  by_cases n_es : decide (a.es.map En.er = b.es.map En.er) = true
  rotate_left
  · rw [if_neg (by rw [Bool.eq_false_iff.2 n_es]; decide)]
    refine Ctr.ret (m' := _) (L := _) () ?_ trivial C.drop
    rw [er_no n_es (fun h => by have e : a.es.map En.er = b.es.map En.er := congrArg Mv.es h; exact decide_eq_true e)]
  rw [if_pos (by rw [n_es]; rfl)]
  refine ⟨b.tq.1, b.ts.length, b.tq.2, C.blkCell (j := 30) rfl, C.blkAt.2, ?_⟩
  refine (c_rSameAll a.tq b.tq a.ts b.ts (by have := ha.tl; omega)).call (As := [_]) C ⟨ha.t, hb.t⟩ fun _ m1 w7 hk hm _ C => ⟨_, rfl, hk, ?_⟩
  refine Ctr.ret (m' := _) (L := _) () ?_ trivial C.drop
  by_cases n_ts : decide (a.ts.map En.er = b.ts.map En.er) = true
  rotate_left
  · rw [er_no n_ts (fun h => by have e : a.ts.map En.er = b.ts.map En.er := congrArg Mv.ts h; exact decide_eq_true e), Bool.eq_false_iff.2 n_ts]; rfl
  have e : a.er = b.er := by
    exact mv_ext ⟨beq_iff_eq.1 n_kd, beq_iff_eq.1 n_gr, beq_iff_eq.1 n_co, beq_iff_eq.1 n_nn, beq_iff_eq.1 n_fr, beq_iff_eq.1 n_cm, beq_iff_eq.1 n_fl, beq_iff_eq.1 n_ba, beq_iff_eq.1 n_ac, by rw [i_eqd] at n_id; exact of_decide_eq_true n_id, of_decide_eq_true n_ps, by rw [Bool.and_eq_true] at n_res; exact beq_iff_eq.1 n_res.1, by rw [Bool.and_eq_true] at n_res; exact (ba_eq _ _).1 n_res.2, by simp only [Bool.and_eq_true, beq_iff_eq] at n_v; exact n_v.1.1, by simp only [Bool.and_eq_true, beq_iff_eq] at n_v; exact n_v.1.2, by simp only [Bool.and_eq_true, decide_eq_true_eq] at n_v; exact n_v.2, by rw [Bool.and_eq_true] at n_proc; exact beq_iff_eq.1 n_proc.1, by rw [Bool.and_eq_true] at n_proc; exact beq_iff_eq.1 n_proc.2, by exact beq_iff_eq.1 n_has, of_decide_eq_true n_ms, of_decide_eq_true n_es, of_decide_eq_true n_ts⟩
  rw [decide_eq_true e, n_ts]; rfl
def Mv.right (x : Mv) : Bool := decide (x.gr < 4) && x.fieldsP && decide (x = x.onlyP)
theorem c_mRight (x : Mg) (hi : MvIn x.er) : Ctr Try.prog 10 #[.agg x.row.toArray] (fun m => MgM m x) [] (fun _ : Unit => .bool x.er.right) (fun _ _ => True) (fun _ => []) := by
  refine Ctr.mk fun w F m C hx => x_mRight _ _ _ _ _ _ _ _ _ _ _ _ _ _ _ _ _ _ _ _ _ _ _ _ _ _ _ _ _ _ _ _ _ _ _ _ _ _ _ _ _ w _ ⟨[], facts_nil _ _, ?_⟩
  by_cases hg : decide (x.gr < 4) = true
  rotate_left
  · rw [if_neg (by rw [Bool.eq_false_iff.2 hg]; decide)]
    refine ⟨[], facts_nil _ _, (fun _ h => h), fun w4 h4 => Ctr.ret () ?_ trivial (C.hid0 h4)⟩
    have : decide (x.er.gr < 4) = false := Bool.eq_false_iff.2 hg
    rw [Mv.right, this]; rfl
  rw [if_pos (by rw [hg]; rfl)]
  intro w5 L6 h5 g5
  have hg' : decide (x.er.gr < 4) = true := hg
  refine (c_mFields x hi).call (As := []) (C.hidL h5 g5) hx fun _ m1 w8 hk hm _ C => ⟨_, rfl, hk, facts_nil _ _, [], facts_nil _ _, (fun _ h => h), ?_⟩
  by_cases hf : x.er.fieldsP = true
  rotate_left
  · rw [if_neg (by rw [Bool.eq_false_iff.2 hf]; decide)]
    refine Ctr.ret () ?_ trivial C
    rw [Mv.right, hg', Bool.eq_false_iff.2 hf]; rfl
  rw [if_pos (by rw [hf]; rfl)]
  refine (c_mOnly x).call (As := []) C (hx.mono hm) fun y m2 w13 hk hm2 hy C => ⟨_, _, _, _, _, _, _, _, _, _, _, _, _, _, _, _, _, _, _, _, _, _, _, _, _, _, _, _, _, _, _, _, _, _, _, _, _, _, _, _, _, rfl, hk, facts_nil _ _, ?_⟩
  refine (c_mSame x y).call (As := []) C ⟨(hx.mono hm).mono hm2, hy.1⟩ fun _ m3 w56 hk hm3 _ C => ⟨_, rfl, hk, facts_nil _ _, Ctr.ret () ?_ trivial C⟩
  rw [Mv.right, hg', hf, hy.2]; rfl
theorem c_OwnM (x : Mg) : Ctr Try.prog 9 #[.agg x.row.toArray] (fun m => MgM m x) [] (fun y : Mg => .agg y.row.toArray) (fun y m => MgM m y ∧ y.er = x.er) (fun _ => []) := by
  refine Ctr.mk fun w F m C hx => x_OwnM _ _ _ _ _ _ _ _ _ _ _ _ _ _ _ _ _ _ _ _ _ _ _ _ _ _ _ _ _ _ _ _ _ _ _ _ _ _ _ _ _ w _ ⟨[], facts_nil _ _, fun w2 L3 h2 g2 => ?_⟩
  refine (C.hidL h2 g2).gives (c_ID x.id) fun w5 k5 C => ⟨_, _, _, _, _, _, _, _, _, _, rfl, k5, facts_nil _ _, ?_⟩
  refine (c_Parts x.pq x.ps (by have := hx.pl; omega)).call (As := []) C hx.p fun p1 m1 w17 hk hm1 hp1 C => ⟨_, _, _, rfl, hk, facts_nil _ _, ?_⟩
  refine C.gives (c_Res x.rc x.rv) fun w22 k22 C => ⟨_, _, rfl, k22, facts_nil _ _, ?_⟩
  refine (c_Own6 ⟨x.vg, x.vn, x.vq, x.vm⟩ hx.vl).call (As := []) C (hx.mono hm1).v fun p2 m2 w26 hk hm2 hp2 C => ⟨_, _, _, _, _, rfl, hk, facts_nil _ _, ?_⟩
  refine C.gives (c_Proc x.pn x.pl) fun w33 k33 C => ⟨_, _, rfl, k33, facts_nil _ _, ?_⟩
  refine (c_Procs x.mq x.ms (by have := hx.ml; omega)).call (As := []) C ((hx.mono hm1).mono hm2).mm fun p3 m3 w37 hk hm3 hp3 C => ⟨_, _, _, rfl, hk, facts_nil _ _, ?_⟩
  refine (c_Owns x.eq x.es hx.el).call (As := []) C (((hx.mono hm1).mono hm2).mono hm3).e fun p4 m4 w42 hk hm4 hp4 C => ⟨_, _, _, rfl, hk, facts_nil _ _, ?_⟩
  refine (c_Owns x.tq x.ts hx.tl).call (As := []) C ((((hx.mono hm1).mono hm2).mono hm3).mono hm4).t fun p5 m5 w47 hk hm5 hp5 C => ⟨_, _, _, rfl, hk, facts_nil _ _, fun w51 h51 => ?_⟩
  refine Ctr.ret (m' := m5) (L := []) { x with pq := p1, vq := p2, mq := p3, eq := p4.1, es := p4.2, tq := p5.1, ts := p5.2 } rfl ⟨⟨(((hp1.mono hm2).mono hm3).mono hm4).mono hm5, ((hp2.mono hm3).mono hm4).mono hm5, (hp3.mono hm4).mono hm5, hp4.1.mono hm5, hp5.1, hx.pl, hx.vl, hx.ml, by have := lenEq hp4.2; have := hx.el; show p4.2.length ≤ _; omega, by have := lenEq hp5.2; have := hx.tl; show p5.2.length ≤ _; omega⟩, ?_⟩ (C.hid0 h51)
  simp only [Mg.er, hp4.2, hp5.2]
/-- what is asked of a message's memory ahead of Light -/
structure MgM0 (m : Mem) (x : Mg) : Prop where
  p : MSrc m 5 (slV x.pq x.ps.length) x.ps.length (x.ps.flatMap Pt.row)
  v : MSrc m 2 (slV x.vq x.vm.length) x.vm.length (x.vm.flatMap Pr.row)
  mm : MSrc m 2 (slV x.mq x.ms.length) x.ms.length (x.ms.flatMap Pr.row)
  e : MSrc m 18 (slV x.eq x.es.length) x.es.length (x.es.flatMap En.row) ∧ ∀ e ∈ x.es, EnM0 m e
  t : MSrc m 18 (slV x.tq x.ts.length) x.ts.length (x.ts.flatMap En.row) ∧ ∀ e ∈ x.ts, EnM0 m e
  pl : x.ps.length ≤ 2932031007402
theorem MgM0.mono {m m' : Mem} {x : Mg} (h : MgM0 m x) (hm : m.le m') : MgM0 m' x := ⟨h.p.mono hm, h.v.mono hm, h.mm.mono hm, ⟨h.e.1.mono hm, fun e he => (h.e.2 e he).mono hm⟩, ⟨h.t.1.mono hm, fun e he => (h.t.2 e he).mono hm⟩, h.pl⟩
def ltE (l : List En) : Prop := l.length ≤ 150 ∧ ∀ e ∈ l, e.ps.length < 200 ∧ e.ws.length ≤ 300
structure Mg.lt (x : Mg) : Prop where
  v : x.vm.length ≤ 40
  m : x.ms.length ≤ 40
  rv : x.rv.size ≤ 2000
  e : ltE x.es
  t : ltE x.ts
theorem c_Light7 (x : Mg) : Ctr Try.prog 7 #[.agg x.row.toArray] (fun m => MgM0 m x) [] (fun b : Bool => .bool b) (fun b _ => b = true → x.lt) (fun _ => []) := by
  refine Ctr.mk fun w F m C hx => x_Light7 _ _ _ _ _ _ _ _ _ _ _ _ _ _ _ _ _ _ _ _ _ _ _ _ _ _ _ _ _ _ _ _ _ _ _ _ _ _ _ _ _ w _ fun w1 L2 h1 g1 => ?_
  refine (c_Light3 x.pq x.ps).call (As := []) (C.hidL h1 g1) hx.p fun b3 m1 w4 hk hm1 _ C => ⟨_, rfl, hk, ?_⟩
  by_cases hb : ((((b3 && decide (((x.rv.size : Nat) : Int) ≤ 2000)) && decide (((x.vm.length : Nat) : Int) ≤ 40)) && decide (((x.ms.length : Nat) : Int) ≤ 40))) = true
  rotate_left
  · rw [if_neg (by rw [Bool.eq_false_iff.2 hb]; decide)]
    exact Ctr.ret false rfl (fun h => by cases h) C
  rw [if_pos (by rw [hb]; rfl)]
  simp only [Bool.and_eq_true, decide_eq_true_eq] at hb
  refine (c_Light5 x.eq x.es).call (As := []) C (hx.mono hm1).e fun b4 m2 w7 hk hm2 h4 C => ⟨_, rfl, hk, ?_⟩
  cases b4 with
  | false =>
    rw [if_neg (by decide)]
    exact Ctr.ret false rfl (fun h => by cases h) C
  | true =>
    rw [if_pos (by decide)]
    refine (c_Light5 x.tq x.ts).call (As := []) C ((hx.mono hm1).mono hm2).t fun b5 m3 w10 hk hm3 h5 C => ⟨_, rfl, hk, ?_⟩
    refine Ctr.ret b5 (by cases b5 <;> rfl) (fun h => ⟨by omega, by omega, by omega, h4 rfl, h5 h⟩) C
end Go.Proofs
