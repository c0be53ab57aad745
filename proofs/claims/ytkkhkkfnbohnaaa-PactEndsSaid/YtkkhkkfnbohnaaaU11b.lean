import Derived.Test.YtkkhkkfnbohnaaaU11a
import Derived.Test.YtkkhkkfnbohnaaaV11b
set_option linter.unusedVariables false
set_option linter.unusedSimpArgs false
set_option maxRecDepth 10000
namespace Go.Proofs
open Go X RowKit
structure Pr where (n : Int) (l : Int)
@[reducible] def Pr.row (p : Pr) : List Value := [.int .u8 p.n, .int .u16 p.l]
theorem pr_len (p : Pr) : p.row.length = 2 := rfl
theorem pr_one (x : Pr) : ∀ u ∈ x.row, oneC u = true := by intro u h; simp [Pr.row] at h; rcases h with rfl | rfl <;> rfl
theorem pr_ext {a b : Pr} (h : a.n = b.n ∧ a.l = b.l) : a = b := by cases a; cases b; simp_all
instance : DecidableEq Pr := fun a b => decidable_of_iff (a.n = b.n ∧ a.l = b.l) ⟨pr_ext, fun h => by subst h; exact ⟨rfl, rfl⟩⟩
theorem pr_eq (a b : Pr) : ((a.n == b.n) && (a.l == b.l)) = decide (a = b) := by
  rw [Bool.eq_iff_iff, decide_eq_true_eq]
  simp only [Bool.and_eq_true, beq_iff_eq]
  exact ⟨fun h => pr_ext h, fun h => by subst h; exact ⟨rfl, rfl⟩⟩
theorem c_ProcP (p : Pr) : Gives Try.prog 27 #[.agg p.row.toArray] (.agg p.row.toArray) := c_Proc p.n p.l
theorem c_RefProcP (p : Pr) : Gives Try.prog 62 #[.agg p.row.toArray] (.agg p.row.toArray) := c_RefProc p.n p.l
theorem c_Procs (q : Sl) (l : List Pr) (hl : l.length * 4 ≤ 140737488355328) : Ctr Try.prog 31 #[slV q l.length] (fun m => MSrc m 2 (slV q l.length) l.length (l.flatMap Pr.row)) [] (fun p : Sl => slV p l.length) (fun p m => MSrc m 2 (slV p l.length) l.length (l.flatMap Pr.row)) (fun _ => []) := by
  refine Ctr.mk fun w F m C hp => x_Procs _ _ _ w _ ?_
  refine ⟨fun p k c i w' _ => ∃ (j : Nat) (m' : Mem), i = j ∧ j = k ∧ j ≤ l.length ∧ m.le m' ∧ Ctx F m w w' [] m' [slA (.slice p j c) j ((l.take j).flatMap Pr.row) 67 2], fun _ _ _ i _ => (l.length - i).toNat, ⟨0, m, rfl, rfl, by omega, Mem.le_refl _, C.slNil⟩, ?_⟩
  clear C
  rintro p k c i w7 L8 _ ⟨j, m', rfl, rfl, hj, hm, D⟩
  by_cases hjl : j < l.length
  · rw [if_pos (by simpa using hjl)]
    refine ⟨by omega, by simpa using hjl, ?_⟩
    obtain ⟨a, ha, hc⟩ := (hp.mono hm).elem pr_len hjl
    have ha : q.1 = some a := ha
    rw [ha, onSome_some]
    refine ⟨_, _, D.cells hc, ?_⟩
    refine D.gives (c_ProcP l[j]) fun w16 k16 D => ⟨_, _, rfl, k16.size, ?_⟩
    have D1 := (D.alloc l[j].row 67).swap
    have hcl : Cells _ ⟨w16.heap.size, 0, none⟩ l[j].row := (D.alloc l[j].row 67).blkCells (o := 0) fun k v e => by simpa using e
    obtain ⟨q2, c2, w25, hr, hkk, D2⟩ := D1.app2 (P := Try.prog) (bytes := 4) (t := 43) (t2 := 43) 43 (by kernel_rfl) (.some ⟨w16.heap.size, 0, none⟩ 1 1 l[j].row rfl hcl) (by unfold maxLen; omega) (by omega) (pr_one _)
    have e : IntKind.wrap .i64 ((j : Int) + 1) = ((j + 1 : Nat) : Int) := by rw [w_i64 (by omega) (by omega)]; omega
    refine ⟨q2, j + 1, c2, w25, hr, hkk.size, ?_⟩
    rw [e]
    refine ⟨⟨j + 1, m', rfl, rfl, hjl, hm, ?_⟩, Nat.le_of_eq (by show ((l.length : Int) - ((j + 1 : Nat) : Int)).toNat + 1 = ((l.length : Int) - (j : Int)).toNat; omega)⟩
    have e2 : (l.take (j + 1)).flatMap Pr.row = (l.take j).flatMap Pr.row ++ l[j].row := by rw [List.take_succ_eq_append_getElem hjl, List.flatMap_append]; simp
    rw [e2]
    exact Ctx.noL (D2.pk [0] [1] rfl)
  · rw [if_neg (by simpa using hjl)]
    have hj2 : j = l.length := by omega
    subst hj2
    rw [List.take_length] at D
    obtain ⟨m2, hm2, hs, D2⟩ := D.slShare
    exact Ctr.ret (m' := m2) (L := []) (p, c) rfl hs D2.noL
theorem c_RefProcs (q : Sl) (l : List Pr) (hl : l.length * 4 ≤ 140737488355328) : Ctr Try.prog 41 #[slV q l.length] (fun m => MSrc m 2 (slV q l.length) l.length (l.flatMap Pr.row)) [] (fun p : Sl => slV p l.length) (fun p m => MSrc m 2 (slV p l.length) l.length (l.flatMap Pr.row)) (fun _ => []) := by
  refine Ctr.mk fun w F m C hp => x_RefProcs _ _ _ w _ ?_
  refine ⟨fun p k c i w' _ => ∃ (j : Nat) (m' : Mem), i = j ∧ j = k ∧ j ≤ l.length ∧ m.le m' ∧ Ctx F m w w' [] m' [slA (.slice p j c) j ((l.take j).flatMap Pr.row) 38 2], fun _ _ _ i _ => (l.length - i).toNat, ⟨0, m, rfl, rfl, by omega, Mem.le_refl _, C.slNil⟩, ?_⟩
  clear C
  rintro p k c i w7 L8 _ ⟨j, m', rfl, rfl, hj, hm, D⟩
  by_cases hjl : j < l.length
  · rw [if_pos (by simpa using hjl)]
    refine ⟨by omega, by simpa using hjl, ?_⟩
    obtain ⟨a, ha, hc⟩ := (hp.mono hm).elem pr_len hjl
    have ha : q.1 = some a := ha
    rw [ha, onSome_some]
    refine ⟨_, _, D.cells hc, ?_⟩
    refine D.gives (c_RefProcP l[j]) fun w16 k16 D => ⟨_, _, rfl, k16.size, ?_⟩
    have D1 := (D.alloc l[j].row 38).swap
    have hcl : Cells _ ⟨w16.heap.size, 0, none⟩ l[j].row := (D.alloc l[j].row 38).blkCells (o := 0) fun k v e => by simpa using e
    obtain ⟨q2, c2, w25, hr, hkk, D2⟩ := D1.app2 (P := Try.prog) (bytes := 4) (t := 30) (t2 := 30) 30 (by kernel_rfl) (.some ⟨w16.heap.size, 0, none⟩ 1 1 l[j].row rfl hcl) (by unfold maxLen; omega) (by omega) (pr_one _)
    have e : IntKind.wrap .i64 ((j : Int) + 1) = ((j + 1 : Nat) : Int) := by rw [w_i64 (by omega) (by omega)]; omega
    refine ⟨q2, j + 1, c2, w25, hr, hkk.size, ?_⟩
    rw [e]
    refine ⟨⟨j + 1, m', rfl, rfl, hjl, hm, ?_⟩, Nat.le_of_eq (by show ((l.length : Int) - ((j + 1 : Nat) : Int)).toNat + 1 = ((l.length : Int) - (j : Int)).toNat; omega)⟩
    have e2 : (l.take (j + 1)).flatMap Pr.row = (l.take j).flatMap Pr.row ++ l[j].row := by rw [List.take_succ_eq_append_getElem hjl, List.flatMap_append]; simp
    rw [e2]
    exact Ctx.noL (D2.pk [0] [1] rfl)
  · rw [if_neg (by simpa using hjl)]
    have hj2 : j = l.length := by omega
    subst hj2
    rw [List.take_length] at D
    obtain ⟨m2, hm2, hs, D2⟩ := D.slShare
    exact Ctr.ret (m' := m2) (L := []) (p, c) rfl hs D2.noL
theorem c_ClonePr (q : Sl) (l : List Pr) (hl : l.length * 4 ≤ 140737488355328) : Ctr Try.prog 64 #[slV q l.length] (fun m => MSrc m 2 (slV q l.length) l.length (l.flatMap Pr.row)) [] (fun p : Sl => slV p l.length) (fun p m => MSrc m 2 (slV p l.length) l.length (l.flatMap Pr.row)) (fun _ => []) := by
  obtain ⟨q1, q2⟩ := q
  refine Ctr.mk fun w F m C hp => x_ClonePr q1 _ q2 w _ ?_
  cases q1 with
  | none =>
    rw [if_pos (show (none : Option Addr).isNone = true from rfl)]
    obtain ⟨h0, h1⟩ := hp.none_len
    rw [h0, h1]
    exact Ctr.ret (none, 0) rfl (.nil ..) C
  | some a =>
    rw [if_neg (by simp)]
    have C1 : Ctx F m w _ [] m [slA (.slice (some ⟨w.heap.size, 0, none⟩) 0 0) 0 [] 67 2] := (C.newDrop [] 67).slNil
    obtain ⟨q1, c1, w4, hr, hk, C2⟩ := C1.app2 (P := Try.prog) (bytes := 4) (t := 43) (t2 := 43) 43 (by kernel_rfl) (C1.src hp) (by unfold maxLen; omega) (by omega) (flat_one pr_one l)
    rw [List.nil_append, Nat.zero_add] at C2
    rw [Nat.zero_add] at hr
    refine ⟨q1, l.length, c1, w4, hr, hk.size, ?_⟩
    obtain ⟨m', hm, hs, C3⟩ := C2.slShare
    exact Ctr.ret (m' := m') (L := []) (q1, c1) rfl hs C3
theorem c_EqualPr (q q' : Sl) (l l' : List Pr) (hb : l.length ≤ 140737488355328) : Ctr Try.prog 68 #[slV q l.length, slV q' l'.length] (fun m => MSrc m 2 (slV q l.length) l.length (l.flatMap Pr.row) ∧ MSrc m 2 (slV q' l'.length) l'.length (l'.flatMap Pr.row)) [] (fun _ : Unit => .bool (decide (l = l'))) (fun _ _ => True) (fun _ => []) := by
  refine Ctr.mk fun w F m C hp => x_EqualPr _ _ _ _ _ _ w _ ?_
  obtain ⟨h1, h2⟩ := hp
  by_cases hl : l.length = l'.length
  rotate_left
  · rw [if_pos (by simp; omega)]
    exact Ctr.ret () (by rw [decide_eq_false (fun h => hl (by rw [h]))]) trivial C
  rw [if_neg (by simp [hl])]
  refine ⟨fun i w' _ => ∃ j : Nat, i = j ∧ j ≤ l.length ∧ l.take j = l'.take j ∧ Ctx F m w w' [] m [], fun i _ => (l.length - i).toNat, ⟨0, rfl, by omega, rfl, C⟩, ?_⟩
  clear C
  rintro i w4 L5 _ ⟨j, rfl, hj, hjt, D⟩
  by_cases hjl : j < l.length
  · rw [if_pos (by simpa using hjl)]
    obtain ⟨a1, ha1, hc1⟩ := h1.elem pr_len hjl
    obtain ⟨a2, ha2, hc2⟩ := h2.elem pr_len (show j < l'.length by omega)
    refine ⟨by omega, by simpa using hjl, ?_⟩
    rw [ha1, onSome_some]
    refine ⟨_, _, D.cells hc1, by omega, by omega, ?_⟩
    rw [ha2, onSome_some]
    refine ⟨_, _, D.cells hc2, ?_⟩
    rw [pr_eq]
    by_cases he : l[j] = l'[j]
    · rw [if_neg (by simp [he])]
      intro w18 h18
      have e : IntKind.wrap .i64 ((j : Int) + 1) = ((j + 1 : Nat) : Int) := by rw [w_i64 (by omega) (by omega)]; omega
      rw [e]
      refine ⟨⟨j + 1, rfl, hjl, ?_, D.hid0 h18⟩, Nat.le_of_eq (by show ((l.length : Int) - ((j + 1 : Nat) : Int)).toNat + 1 = ((l.length : Int) - (j : Int)).toNat; omega)⟩
      rw [List.take_succ_eq_append_getElem hjl, List.take_succ_eq_append_getElem (by omega : j < l'.length), hjt, he]
    · rw [if_pos (by simp [he])]
      intro w19 h19
      refine Ctr.ret () ?_ trivial (D.hid0 h19)
      rw [decide_eq_false (fun h => he (by simp only [h]))]
  · rw [if_neg (by simpa using hjl)]
    have hj2 : j = l.length := by omega
    rw [hj2, List.take_length, hl, List.take_length] at hjt
    exact Ctr.ret () (by rw [decide_eq_true hjt]) trivial D
theorem c_SameProcs (q q' : Sl) (l l' : List Pr) (hb : l.length ≤ 140737488355328) : Ctr Try.prog 40 #[slV q l.length, slV q' l'.length] (fun m => MSrc m 2 (slV q l.length) l.length (l.flatMap Pr.row) ∧ MSrc m 2 (slV q' l'.length) l'.length (l'.flatMap Pr.row)) [] (fun _ : Unit => .bool (decide (l = l'))) (fun _ _ => True) (fun _ => []) := by
  refine Ctr.mk fun w F m C hp => x_SameProcs _ _ _ _ _ _ w _ ?_
  obtain ⟨h1, h2⟩ := hp
  by_cases hl : l.length = l'.length
  rotate_left
  · rw [if_pos (by simp; omega)]
    exact Ctr.ret () (by rw [decide_eq_false (fun h => hl (by rw [h]))]) trivial C
  rw [if_neg (by simp [hl])]
  refine ⟨fun i w' _ => ∃ j : Nat, i = j ∧ j ≤ l.length ∧ l.take j = l'.take j ∧ Ctx F m w w' [] m [], fun i _ => (l.length - i).toNat, ⟨0, rfl, by omega, rfl, C⟩, ?_⟩
  clear C
  rintro i w4 L5 _ ⟨j, rfl, hj, hjt, D⟩
  by_cases hjl : j < l.length
  · rw [if_pos (by simpa using hjl)]
    obtain ⟨a1, ha1, hc1⟩ := h1.elem pr_len hjl
    obtain ⟨a2, ha2, hc2⟩ := h2.elem pr_len (show j < l'.length by omega)
    refine ⟨by omega, by simpa using hjl, ?_⟩
    rw [ha1, onSome_some]
    refine ⟨_, _, D.cells hc1, by omega, by omega, ?_⟩
    rw [ha2, onSome_some]
    refine ⟨_, _, D.cells hc2, ?_⟩
    rw [pr_eq]
    by_cases he : l[j] = l'[j]
    · rw [if_neg (by simp [he])]
      intro w18 h18
      have e : IntKind.wrap .i64 ((j : Int) + 1) = ((j + 1 : Nat) : Int) := by rw [w_i64 (by omega) (by omega)]; omega
      rw [e]
      refine ⟨⟨j + 1, rfl, hjl, ?_, D.hid0 h18⟩, Nat.le_of_eq (by show ((l.length : Int) - ((j + 1 : Nat) : Int)).toNat + 1 = ((l.length : Int) - (j : Int)).toNat; omega)⟩
      rw [List.take_succ_eq_append_getElem hjl, List.take_succ_eq_append_getElem (by omega : j < l'.length), hjt, he]
    · rw [if_pos (by simp [he])]
      intro w19 h19
      refine Ctr.ret () ?_ trivial (D.hid0 h19)
      rw [decide_eq_false (fun h => he (by simp only [h]))]
  · rw [if_neg (by simpa using hjl)]
    have hj2 : j = l.length := by omega
    rw [hj2, List.take_length, hl, List.take_length] at hjt
    exact Ctr.ret () (by rw [decide_eq_true hjt]) trivial D
theorem en_one (x : En) : ∀ u ∈ x.row, oneC u = true := by intro u h; simp [En.row] at h; rcases h with rfl | rfl | rfl | rfl | rfl | rfl | rfl | rfl | rfl | rfl | rfl | rfl | rfl | rfl | rfl | rfl | rfl | rfl <;> rfl
def EsM (m : Mem) (q : Sl) (l : List En) : Prop := MSrc m 18 (slV q l.length) l.length (l.flatMap En.row) ∧ ∀ e ∈ l, EnM m e
theorem EsM.mono {m m' : Mem} {q : Sl} {l : List En} (h : EsM m q l) (hm : m.le m') : EsM m' q l := ⟨h.1.mono hm, fun e he => (h.2 e he).mono hm⟩
theorem c_Owns (q : Sl) (l : List En) (hl : l.length ≤ 100000) : Ctr Try.prog 28 #[slV q l.length] (fun m => EsM m q l) [] (fun f : Sl × List En => slV f.1 f.2.length) (fun f m => EsM m f.1 f.2 ∧ f.2.map En.er = l.map En.er) (fun _ => []) := by
  refine Ctr.mk fun w F m C hp => x_Owns _ _ _ w _ ?_
  obtain ⟨hp, he⟩ := hp
  refine ⟨fun p k c i w' _ => ∃ (j : Nat) (m' : Mem) (fs : List En), i = j ∧ k = fs.length ∧ j ≤ l.length ∧ m.le m' ∧ fs.map En.er = (l.take j).map En.er ∧ (∀ e ∈ fs, EnM m' e) ∧ Ctx F m w w' [] m' [slA (.slice p fs.length c) fs.length (fs.flatMap En.row) 127 18], fun _ _ _ i _ => (l.length - i).toNat, ⟨0, m, [], rfl, rfl, by omega, Mem.le_refl _, rfl, by simp, C.slNil⟩, ?_⟩
  clear C
  rintro p k c i w7 L8 _ ⟨j, m', fs, rfl, rfl, hj, hm, her, hfs, D⟩
  by_cases hjl : j < l.length
  rotate_left
  · rw [if_neg (by simpa using hjl)]
    have hj2 : j = l.length := by omega
    rw [hj2, List.take_length] at her
    obtain ⟨m2, hm2, hs, D2⟩ := D.slShare
    exact Ctr.ret (m' := m2) (L := []) ((p, c), fs) rfl ⟨⟨hs, fun e h => (hfs e h).mono hm2⟩, her⟩ D2.noL
  rw [if_pos (by simpa using hjl)]
  refine ⟨by omega, by simpa using hjl, ?_⟩
  have hfl : fs.length = j := by have := congrArg List.length her; simp at this; omega
  obtain ⟨a, ha, hc⟩ := (hp.mono hm).elem en_len hjl
  have ha : q.1 = some a := ha
  rw [ha, onSome_some]
  refine ⟨_, _, _, _, _, _, _, _, _, _, _, _, _, _, _, _, _, _, _, _, _, _, by rw [Int.toNat_natCast]; exact D.cells hc, ?_⟩
  refine (c_OwnE l[j]).call (As := [_]) D ((he _ (List.getElem_mem hjl)).mono hm) fun f m2 w33 hk hm2 hf D => ⟨_, _, _, _, _, _, _, _, _, _, _, _, _, _, _, _, _, _, _, _, _, _, rfl, hk.size, ?_⟩
  have D0 := (D.alloc f.row 127).swap
  have hcl : Cells _ ⟨w33.heap.size, 0, none⟩ f.row := (D.alloc f.row 127).blkCells (o := 0) fun k v e => by simpa using e
  obtain ⟨q2, c2, w67, hr, hkk, D2⟩ := Ctx.app2 (P := Try.prog) (bytes := 400) (t := 44) (t2 := 44) D0 44 (by kernel_rfl) (.some ⟨w33.heap.size, 0, none⟩ 1 1 f.row rfl hcl) (by unfold maxLen; omega) (by omega) (en_one _)
  have e1 : (fs ++ [f]).length = fs.length + 1 := by simp
  have e2 : (fs ++ [f]).flatMap En.row = fs.flatMap En.row ++ f.row := by simp
  have e : IntKind.wrap .i64 ((j : Int) + 1) = ((j + 1 : Nat) : Int) := by rw [w_i64 (by omega) (by omega)]; omega
  refine ⟨q2, _, c2, w67, hr, hkk.size, ?_⟩
  rw [e]
  refine ⟨⟨j + 1, m2, fs ++ [f], rfl, e1.symm, hjl, hm.le_trans hm2, ?_, ?_, ?_⟩, Nat.le_of_eq (by show ((l.length : Int) - ((j + 1 : Nat) : Int)).toNat + 1 = ((l.length : Int) - (j : Int)).toNat; omega)⟩
  · rw [List.take_succ_eq_append_getElem hjl, List.map_append, List.map_append, her]; simp [hf.2]
  · intro y hy
    rcases List.mem_append.1 hy with hy | hy
    · exact (hfs y hy).mono hm2
    · simp only [List.mem_singleton] at hy; subst hy; exact hf.1
  · rw [← e2, ← e1] at D2
    exact Ctx.noL (D2.pk [0] [1] rfl)
theorem c_Refs (q : Sl) (l : List En) (hl : l.length ≤ 100000) : Ctr Try.prog 51 #[slV q l.length] (fun m => EsM m q l) [] (fun f : Sl × List En => slV f.1 f.2.length) (fun f m => EsM m f.1 f.2 ∧ f.2.map En.er = l.map En.er) (fun _ => []) := by
  refine Ctr.mk fun w F m C hp => x_Refs _ _ _ w _ ?_
  obtain ⟨hp, he⟩ := hp
  refine ⟨fun p k c i w' _ => ∃ (j : Nat) (m' : Mem) (fs : List En), i = j ∧ k = fs.length ∧ j ≤ l.length ∧ m.le m' ∧ fs.map En.er = (l.take j).map En.er ∧ (∀ e ∈ fs, EnM m' e) ∧ Ctx F m w w' [] m' [slA (.slice p fs.length c) fs.length (fs.flatMap En.row) 137 18], fun _ _ _ i _ => (l.length - i).toNat, ⟨0, m, [], rfl, rfl, by omega, Mem.le_refl _, rfl, by simp, C.slNil⟩, ?_⟩
  clear C
  rintro p k c i w7 L8 _ ⟨j, m', fs, rfl, rfl, hj, hm, her, hfs, D⟩
  by_cases hjl : j < l.length
  rotate_left
  · rw [if_neg (by simpa using hjl)]
    have hj2 : j = l.length := by omega
    rw [hj2, List.take_length] at her
    obtain ⟨m2, hm2, hs, D2⟩ := D.slShare
    exact Ctr.ret (m' := m2) (L := []) ((p, c), fs) rfl ⟨⟨hs, fun e h => (hfs e h).mono hm2⟩, her⟩ D2.noL
  rw [if_pos (by simpa using hjl)]
  refine ⟨by omega, by simpa using hjl, ?_⟩
  have hfl : fs.length = j := by have := congrArg List.length her; simp at this; omega
  obtain ⟨a, ha, hc⟩ := (hp.mono hm).elem en_len hjl
  have ha : q.1 = some a := ha
  rw [ha, onSome_some]
  refine ⟨_, _, _, _, _, _, _, _, _, _, _, _, _, _, _, _, _, _, _, _, _, _, by rw [Int.toNat_natCast]; exact D.cells hc, ?_⟩
  refine (c_Ref5 l[j]).call (As := [_]) D ((he _ (List.getElem_mem hjl)).mono hm) fun f m2 w33 hk hm2 hf D => ⟨_, _, _, _, _, _, _, _, _, _, _, _, _, _, _, _, _, _, _, _, _, _, rfl, hk.size, ?_⟩
  have D0 := (D.alloc f.row 137).swap
  have hcl : Cells _ ⟨w33.heap.size, 0, none⟩ f.row := (D.alloc f.row 137).blkCells (o := 0) fun k v e => by simpa using e
  obtain ⟨q2, c2, w67, hr, hkk, D2⟩ := Ctx.app2 (P := Try.prog) (bytes := 400) (t := 31) (t2 := 31) D0 31 (by kernel_rfl) (.some ⟨w33.heap.size, 0, none⟩ 1 1 f.row rfl hcl) (by unfold maxLen; omega) (by omega) (en_one _)
  have e1 : (fs ++ [f]).length = fs.length + 1 := by simp
  have e2 : (fs ++ [f]).flatMap En.row = fs.flatMap En.row ++ f.row := by simp
  have e : IntKind.wrap .i64 ((j : Int) + 1) = ((j + 1 : Nat) : Int) := by rw [w_i64 (by omega) (by omega)]; omega
  refine ⟨q2, _, c2, w67, hr, hkk.size, ?_⟩
  rw [e]
  refine ⟨⟨j + 1, m2, fs ++ [f], rfl, e1.symm, hjl, hm.le_trans hm2, ?_, ?_, ?_⟩, Nat.le_of_eq (by show ((l.length : Int) - ((j + 1 : Nat) : Int)).toNat + 1 = ((l.length : Int) - (j : Int)).toNat; omega)⟩
  · rw [List.take_succ_eq_append_getElem hjl, List.map_append, List.map_append, her]; simp [hf.2]
  · intro y hy
    rcases List.mem_append.1 hy with hy | hy
    · exact (hfs y hy).mono hm2
    · simp only [List.mem_singleton] at hy; subst hy; exact hf.1
  · rw [← e2, ← e1] at D2
    exact Ctx.noL (D2.pk [0] [1] rfl)
theorem c_clones (q : Sl) (l : List En) (hl : l.length ≤ 100000) : Ctr Try.prog 56 #[slV q l.length] (fun m => EsM m q l) [] (fun f : Sl × List En => slV f.1 f.2.length) (fun f m => EsM m f.1 f.2 ∧ f.2.map En.er = l.map En.er) (fun _ => []) := by
  refine Ctr.mk fun w F m C hp => x_clones _ _ _ w _ ?_
  obtain ⟨hp, he⟩ := hp
  refine ⟨fun p k c i w' _ => ∃ (j : Nat) (m' : Mem) (fs : List En), i = j ∧ k = fs.length ∧ j ≤ l.length ∧ m.le m' ∧ fs.map En.er = (l.take j).map En.er ∧ (∀ e ∈ fs, EnM m' e) ∧ Ctx F m w w' [] m' [slA (.slice p fs.length c) fs.length (fs.flatMap En.row) 127 18], fun _ _ _ i _ => (l.length - i).toNat, ⟨0, m, [], rfl, rfl, by omega, Mem.le_refl _, rfl, by simp, C.slNil⟩, ?_⟩
  clear C
  rintro p k c i w7 L8 _ ⟨j, m', fs, rfl, rfl, hj, hm, her, hfs, D⟩
  by_cases hjl : j < l.length
  rotate_left
  · rw [if_neg (by simpa using hjl)]
    have hj2 : j = l.length := by omega
    rw [hj2, List.take_length] at her
    obtain ⟨m2, hm2, hs, D2⟩ := D.slShare
    exact Ctr.ret (m' := m2) (L := []) ((p, c), fs) rfl ⟨⟨hs, fun e h => (hfs e h).mono hm2⟩, her⟩ D2.noL
  rw [if_pos (by simpa using hjl)]
  refine ⟨by omega, by simpa using hjl, ?_⟩
  have hfl : fs.length = j := by have := congrArg List.length her; simp at this; omega
  obtain ⟨a, ha, hc⟩ := (hp.mono hm).elem en_len hjl
  have ha : q.1 = some a := ha
  rw [ha, onSome_some]
  refine ⟨_, _, _, _, _, _, _, _, _, _, _, _, _, _, _, _, _, _, _, _, _, _, by rw [Int.toNat_natCast]; exact D.cells hc, fun w32 L33 h32 g32 => ?_⟩
  refine (c_eClone l[j]).call (As := [_]) (D.hidL h32 g32) ((he _ (List.getElem_mem hjl)).mono hm) fun f m2 w33 hk hm2 hf D => ⟨_, _, _, _, _, _, _, _, _, _, _, _, _, _, _, _, _, _, _, _, _, _, rfl, hk, ?_⟩
  have D0 := (D.alloc f.row 127).swap
  have hcl : Cells _ ⟨w33.heap.size, 0, none⟩ f.row := (D.alloc f.row 127).blkCells (o := 0) fun k v e => by simpa using e
  obtain ⟨q2, c2, w67, hr, hkk, D2⟩ := Ctx.app2 (P := Try.prog) (bytes := 400) (t := 44) (t2 := 44) D0 44 (by kernel_rfl) (.some ⟨w33.heap.size, 0, none⟩ 1 1 f.row rfl hcl) (by unfold maxLen; omega) (by omega) (en_one _)
  have e1 : (fs ++ [f]).length = fs.length + 1 := by simp
  have e2 : (fs ++ [f]).flatMap En.row = fs.flatMap En.row ++ f.row := by simp
  have e : IntKind.wrap .i64 ((j : Int) + 1) = ((j + 1 : Nat) : Int) := by rw [w_i64 (by omega) (by omega)]; omega
  refine ⟨q2, _, c2, w67, hr, hkk, ?_⟩
  rw [e]
  refine ⟨⟨j + 1, m2, fs ++ [f], rfl, e1.symm, hjl, hm.le_trans hm2, ?_, ?_, ?_⟩, Nat.le_of_eq (by show ((l.length : Int) - ((j + 1 : Nat) : Int)).toNat + 1 = ((l.length : Int) - (j : Int)).toNat; omega)⟩
  · rw [List.take_succ_eq_append_getElem hjl, List.map_append, List.map_append, her]; simp [hf.2]
  · intro y hy
    rcases List.mem_append.1 hy with hy | hy
    · exact (hfs y hy).mono hm2
    · simp only [List.mem_singleton] at hy; subst hy; exact hf.1
  · rw [← e2, ← e1] at D2
    exact Ctx.noL (D2.pk [0] [1] rfl)
theorem c_rSameAll (q q' : Sl) (l l' : List En) (hb : l.length ≤ 1000000) : Ctr Try.prog 50 #[slV q l.length, slV q' l'.length] (fun m => EsM m q l ∧ EsM m q' l') [] (fun _ : Unit => .bool (decide (l.map En.er = l'.map En.er))) (fun _ _ => True) (fun _ => []) := by
  refine Ctr.mk fun w F m C hp => x_rSameAll _ _ _ _ _ _ w _ ?_
  obtain ⟨⟨h1, g1⟩, ⟨h2, g2⟩⟩ := hp
  by_cases hl : l.length = l'.length
  rotate_left
  · rw [if_pos (by simp; omega)]
    exact Ctr.ret () (by rw [decide_eq_false (fun h => hl (by simpa using congrArg List.length h))]) trivial C
  rw [if_neg (by simp [hl])]
  refine ⟨fun i w' _ => ∃ (j : Nat) (m' : Mem), i = j ∧ j ≤ l.length ∧ m.le m' ∧ (l.take j).map En.er = (l'.take j).map En.er ∧ Ctx F m w w' [] m' [], fun i _ => (l.length - i).toNat, ⟨0, m, rfl, by omega, Mem.le_refl _, rfl, C⟩, ?_⟩
  clear C
  rintro i w4 L5 _ ⟨j, m', rfl, hj, hm, hjt, D⟩
  by_cases hjl : j < l.length
  rotate_left
  · rw [if_neg (by simpa using hjl)]
    have hj2 : j = l.length := by omega
    rw [hj2, List.take_length, hl, List.take_length] at hjt
    exact Ctr.ret () (by rw [decide_eq_true hjt]) trivial D
  rw [if_pos (by simpa using hjl)]
  obtain ⟨a1, ha1, hc1⟩ := (h1.mono hm).elem en_len hjl
  obtain ⟨a2, ha2, hc2⟩ := (h2.mono hm).elem en_len (show j < l'.length by omega)
  refine ⟨_, D.memFact hc1 (D.memFact hc2 (facts_nil _ _)), by omega, by simpa using hjl, ?_⟩
  rw [ha1, onSome_some]
  refine ⟨_, _, _, _, _, _, _, _, _, _, _, _, _, _, _, _, _, _, _, _, _, _, by rw [Int.toNat_natCast]; exact List.mem_cons_self, by omega, by omega, ?_⟩
  rw [ha2, onSome_some]
  refine ⟨_, _, _, _, _, _, _, _, _, _, _, _, _, _, _, _, _, _, _, _, _, _, by rw [Int.toNat_natCast]; exact List.mem_cons_of_mem _ List.mem_cons_self, fun w53 h53 => ?_⟩
  replace D := D.hid0 h53

  refine (c_r5Same l[j] (l'[j]'(by omega))).call (As := []) D ⟨(g1 _ (List.getElem_mem hjl)).mono hm, (g2 _ (List.getElem_mem (by omega))).mono hm⟩ fun _ m2 w55 hk hm2 _ D => ⟨_, rfl, hk.size, ?_⟩
  by_cases he : l[j].er = (l'[j]'(by omega)).er
  · rw [if_neg (by simp [he])]
    have e : IntKind.wrap .i64 ((j : Int) + 1) = ((j + 1 : Nat) : Int) := by rw [w_i64 (by omega) (by omega)]; omega
    rw [e]
    refine ⟨⟨j + 1, m2, rfl, hjl, hm.le_trans hm2, ?_, D⟩, Nat.le_of_eq (by show ((l.length : Int) - ((j + 1 : Nat) : Int)).toNat + 1 = ((l.length : Int) - (j : Int)).toNat; omega)⟩
    rw [List.take_succ_eq_append_getElem hjl, List.take_succ_eq_append_getElem (by omega : j < l'.length), List.map_append, List.map_append, hjt]; simp [he]
  · rw [if_pos (by simp [he])]
    refine Ctr.ret () ?_ trivial D
    rw [decide_eq_false (fun h => he ?_)]
    have := congrArg (fun z => z[j]?) h
    simpa [hjl, show j < l'.length by omega] using this
/-! ### values -/
structure Vl where (mq : Sl) (ms : List Pr) (tq : Sl) (ts : List En)
@[reducible] def Vl.row (v : Vl) : List Value := [slV v.mq v.ms.length, slV v.tq v.ts.length]
structure VlM (m : Mem) (v : Vl) : Prop where
  pm : MSrc m 2 (slV v.mq v.ms.length) v.ms.length (v.ms.flatMap Pr.row)
  t : EsM m v.tq v.ts
  ml : v.ms.length ≤ 100000
  tl : v.ts.length ≤ 100000
theorem VlM.mono {m m' : Mem} {v : Vl} (h : VlM m v) (hm : m.le m') : VlM m' v := ⟨h.pm.mono hm, h.t.mono hm, h.ml, h.tl⟩
/-- a value, wherever its lists lie -/
def Vl.er (v : Vl) : List Pr × List Ev := (v.ms, v.ts.map En.er)
theorem vl_len (v : Vl) : v.row.length = 2 := rfl
theorem er_tl {v u : Vl} (h : v.er = u.er) : v.ts.length = u.ts.length := by simpa [Vl.er] using congrArg (fun x => x.2.length) h
theorem c_OwnV (v : Vl) : Ctr Try.prog 14 #[.agg v.row.toArray] (fun m => VlM m v) [] (fun u : Vl => .agg u.row.toArray) (fun u m => VlM m u ∧ u.er = v.er) (fun _ => []) := by
  refine Ctr.mk fun w F m C hv => x_OwnV _ _ _ _ _ _ w _ ⟨[], facts_nil _ _, fun w2 L3 h2 g2 => ?_⟩
  refine (c_Procs v.mq v.ms (by have := hv.ml; omega)).call (As := []) (C.hidL h2 g2) hv.pm fun p m1 w5 hk hm1 hp C => ⟨_, _, _, rfl, hk, facts_nil _ _, ?_⟩
  refine (c_Owns v.tq v.ts hv.tl).call (As := []) C (hv.t.mono hm1) fun f m2 w10 hk hm2 hf C => ⟨_, _, _, rfl, hk, facts_nil _ _, fun w14 h14 => ?_⟩
  have hl : f.2.length = v.ts.length := by simpa using congrArg List.length hf.2
  exact Ctr.ret (m' := m2) (L := []) ⟨p, v.ms, f.1, f.2⟩ rfl ⟨⟨hp.mono hm2, hf.1, hv.ml, by show f.2.length ≤ _; rw [hl]; exact hv.tl⟩, by show (v.ms, f.2.map En.er) = _; rw [hf.2]; rfl⟩ (C.hid0 h14)
theorem c_RefV (v : Vl) : Ctr Try.prog 19 #[.agg v.row.toArray] (fun m => VlM m v) [] (fun u : Vl => .agg u.row.toArray) (fun u m => VlM m u ∧ u.er = v.er) (fun _ => []) := by
  refine Ctr.mk fun w F m C hv => x_RefV _ _ _ _ _ _ w _ ⟨[], facts_nil _ _, fun w2 L3 h2 g2 => ?_⟩
  refine (c_RefProcs v.mq v.ms (by have := hv.ml; omega)).call (As := []) (C.hidL h2 g2) hv.pm fun p m1 w5 hk hm1 hp C => ⟨_, _, _, rfl, hk, facts_nil _ _, ?_⟩
  refine (c_Refs v.tq v.ts hv.tl).call (As := []) C (hv.t.mono hm1) fun f m2 w10 hk hm2 hf C => ⟨_, _, _, rfl, hk, facts_nil _ _, fun w14 h14 => ?_⟩
  have hl : f.2.length = v.ts.length := by simpa using congrArg List.length hf.2
  exact Ctr.ret (m' := m2) (L := []) ⟨p, v.ms, f.1, f.2⟩ rfl ⟨⟨hp.mono hm2, hf.1, hv.ml, by show f.2.length ≤ _; rw [hl]; exact hv.tl⟩, by show (v.ms, f.2.map En.er) = _; rw [hf.2]; rfl⟩ (C.hid0 h14)
theorem c_cloneV (v : Vl) : Ctr Try.prog 49 #[.agg v.row.toArray] (fun m => VlM m v) [] (fun u : Vl => .agg u.row.toArray) (fun u m => VlM m u ∧ u.er = v.er) (fun _ => []) := by
  refine Ctr.mk fun w F m C hv => x_cloneV _ _ _ _ _ _ w _ ⟨[], facts_nil _ _, fun w2 L3 h2 g2 => ?_⟩
  refine (c_ClonePr v.mq v.ms (by have := hv.ml; omega)).call (As := []) (C.hidL h2 g2) hv.pm fun p m1 w5 hk hm1 hp C => ⟨_, _, _, rfl, hk, facts_nil _ _, ?_⟩
  refine (c_clones v.tq v.ts hv.tl).call (As := []) C (hv.t.mono hm1) fun f m2 w10 hk hm2 hf C => ⟨_, _, _, rfl, hk, facts_nil _ _, fun w14 h14 => ?_⟩
  have hl : f.2.length = v.ts.length := by simpa using congrArg List.length hf.2
  exact Ctr.ret (m' := m2) (L := []) ⟨p, v.ms, f.1, f.2⟩ rfl ⟨⟨hp.mono hm2, hf.1, hv.ml, by show f.2.length ≤ _; rw [hl]; exact hv.tl⟩, by show (v.ms, f.2.map En.er) = _; rw [hf.2]; rfl⟩ (C.hid0 h14)
theorem c_rSameV (a b : Vl) : Ctr Try.prog 18 #[.agg a.row.toArray, .agg b.row.toArray] (fun m => VlM m a ∧ VlM m b) [] (fun _ : Unit => .bool (decide (a.er = b.er))) (fun _ _ => True) (fun _ => []) := by
  refine Ctr.mk fun w F m C hv => x_rSameV _ _ _ _ _ _ _ _ _ _ _ _ w _ fun w1 L2 h1 g1 => ?_
  obtain ⟨ha, hb⟩ := hv
  refine (c_SameProcs a.mq b.mq a.ms b.ms (by have := ha.ml; omega)).call (As := []) (C.hidL h1 g1) ⟨ha.pm, hb.pm⟩ fun _ m1 w4 hk hm1 _ C => ⟨_, rfl, hk, ?_⟩
  by_cases hms : a.ms = b.ms
  · rw [if_pos (by simp [hms])]
    refine (c_rSameAll a.tq b.tq a.ts b.ts (by have := ha.tl; omega)).call (As := []) C ⟨ha.t.mono hm1, hb.t.mono hm1⟩ fun _ m2 w7 hk hm2 _ C => ⟨_, rfl, hk, ?_⟩
    exact Ctr.ret () (by simp [Vl.er, hms]) trivial C
  · rw [if_neg (by simp [hms])]
    exact Ctr.ret () (by rw [decide_eq_false]; intro h; exact hms (congrArg Prod.fst h)) trivial C
end Go.Proofs
