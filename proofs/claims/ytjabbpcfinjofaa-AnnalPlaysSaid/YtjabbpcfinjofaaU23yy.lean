import Derived.Test.YtjabbpcfinjofaaU23uu
import Derived.Test.YtjabbpcfinjofaaXFn
import Derived.Test.YtjabbpcfinjofaaProg
set_option linter.unusedVariables false
set_option linter.unusedSimpArgs false
set_option maxRecDepth 10000
set_option maxRecDepth 100000
namespace Go.Proofs
open Go X RowKit
/-! ### as the document has it -/
theorem pr_eq (a b : Pr) : ((a.n == b.n) && (a.l == b.l)) = decide (a = b) := by
  rw [Bool.eq_iff_iff, decide_eq_true_eq]
  simp only [Bool.and_eq_true, beq_iff_eq]
  exact ⟨fun h => pr_ext h, fun h => by subst h; exact ⟨rfl, rfl⟩⟩
theorem c_RefPart (p : Pt) : Gives Try.prog 66 #[.agg p.row.toArray] (.agg p.row.toArray) := fun w => x_RefPart _ _ _ _ _ w _ fun w1 h1 => ⟨rfl, hid_below h1 (by simp) (Nat.le_refl _)⟩
theorem c_RefParts (q : Sl) (l : List Pt) (hl : l.length * 48 ≤ 140737488355328) : Ctr Try.prog 42 #[slV q l.length] (fun m => MSrc m 5 (slV q l.length) l.length (l.flatMap Pt.row)) [] (fun p : Sl => slV p l.length) (fun p m => MSrc m 5 (slV p l.length) l.length (l.flatMap Pt.row)) (fun _ => []) := by
  refine Ctr.mk fun w F m C hp => x_RefParts _ _ _ w _ ?_
  refine ⟨fun p k c i w' _ => ∃ (j : Nat) (m' : Mem), i = j ∧ j = k ∧ j ≤ l.length ∧ m.le m' ∧ Ctx F m w w' [] m' [slA (.slice p j c) j ((l.take j).flatMap Pt.row) 150 5], fun _ _ _ i _ => (l.length - i).toNat, ⟨0, m, rfl, rfl, by omega, Mem.le_refl _, C.slNil⟩, ?_⟩
  clear C
  rintro p k c i w7 L8 _ ⟨j, m', rfl, rfl, hj, hm, D⟩
  by_cases hjl : j < l.length
  · rw [if_pos (by simpa using hjl)]
    refine ⟨by omega, by simpa using hjl, ?_⟩
    obtain ⟨a, ha, hc⟩ := (hp.mono hm).elem pt_len hjl
    have ha : q.1 = some a := ha
    rw [ha, onSome_some]
    refine ⟨_, _, _, _, _, D.cells hc, ?_⟩
    refine D.gives (c_RefPart l[j]) fun w16 k16 D => ⟨_, _, _, _, _, rfl, k16.size, ?_⟩
    have D1 := (D.alloc l[j].row 150).swap
    have hcl : Cells _ ⟨w16.heap.size, 0, none⟩ l[j].row := (D.alloc l[j].row 150).blkCells (o := 0) fun k v e => by simpa using e
    obtain ⟨q2, c2, w25, hr, hkk, D2⟩ := D1.app2 (P := Try.prog) (bytes := 48) (t := 36) (t2 := 36) 36 (by kernel_rfl) (.some ⟨w16.heap.size, 0, none⟩ 1 1 l[j].row rfl hcl) (by unfold maxLen; omega) (by omega) (pt_one _)
    have e : IntKind.wrap .i64 ((j : Int) + 1) = ((j + 1 : Nat) : Int) := by rw [w_i64 (by omega) (by omega)]; omega
    refine ⟨q2, j + 1, c2, w25, hr, hkk.size, ?_⟩
    rw [e]
    refine ⟨⟨j + 1, m', rfl, rfl, hjl, hm, ?_⟩, Nat.le_of_eq (by show ((l.length : Int) - ((j + 1 : Nat) : Int)).toNat + 1 = ((l.length : Int) - (j : Int)).toNat; omega)⟩
    have e2 : (l.take (j + 1)).flatMap Pt.row = (l.take j).flatMap Pt.row ++ l[j].row := by rw [List.take_succ_eq_append_getElem hjl, List.flatMap_append]; simp
    rw [e2]
    exact Ctx.noL (D2.pk [0] [1] rfl)
  · rw [if_neg (by simpa using hjl)]
    have hj2 : j = l.length := by omega
    subst hj2
    rw [List.take_length] at D
    obtain ⟨m2, hm2, hs, D2⟩ := D.slShare
    exact Ctr.ret (m' := m2) (L := []) (p, c) rfl hs D2.noL
theorem c_Ref4 (q : Sl) (l : List Wr) (hl : l.length * 40 ≤ 140737488355328) : Ctr Try.prog 75 #[slV q l.length] (fun m => MSrc m 3 (slV q l.length) l.length (l.flatMap Wr.row)) [] (fun p : Sl => slV p l.length) (fun p m => MSrc m 3 (slV p l.length) l.length (l.flatMap Wr.row)) (fun _ => []) := by
  refine Ctr.mk fun w F m C hp => x_Ref4 _ _ _ w _ ?_
  refine ⟨fun p k c i w' _ => ∃ (j : Nat) (m' : Mem), i = j ∧ j = k ∧ j ≤ l.length ∧ m.le m' ∧ Ctx F m w w' [] m' [slA (.slice p j c) j ((l.take j).flatMap Wr.row) 152 3], fun _ _ _ i _ => (l.length - i).toNat, ⟨0, m, rfl, rfl, by omega, Mem.le_refl _, C.slNil⟩, ?_⟩
  clear C
  rintro p k c i w7 L8 _ ⟨j, m', rfl, rfl, hj, hm, D⟩
  by_cases hjl : j < l.length
  · rw [if_pos (by simpa using hjl)]
    obtain ⟨a, ha, hc⟩ := (hp.mono hm).elem wr_len hjl
    have ha : q.1 = some a := ha
    have hfw : ∀ {w' As}, Ctx F m w w' [] m' As → FactsW [((a.add (j * 3)).add 0, [.string l[j].key]), ((a.add (j * 3)).add 1, [.string l[j].val]), ((a.add (j * 3)).add 2, [.bool l[j].has])] w' [] := fun D =>
      D.memFact (mcells_part hc 0 _ (fun k v e => by match k, e with | 0, e => exact e)) (D.memFact (mcells_part hc 1 _ (fun k v e => by match k, e with | 0, e => exact e)) (D.memFact (mcells_part hc 2 _ (fun k v e => by match k, e with | 0, e => exact e)) (facts_nil _ _)))
    refine ⟨_, hfw D, by omega, by simpa using hjl, ?_⟩
    rw [ha, onSome_some]
    refine ⟨l[j].key, by rw [Int.toNat_natCast]; simp, by omega, by simpa using hjl, ?_⟩
    rw [onSome_some]
    refine ⟨l[j].val, by rw [Int.toNat_natCast]; simp, by omega, by simpa using hjl, ?_⟩
    rw [onSome_some]
    refine ⟨l[j].has, by rw [Int.toNat_natCast]; simp, fun w16 h16 => ?_⟩
    replace D := D.hid0 h16
    have D1 := (D.alloc l[j].row 152).swap
    have hcl : Cells _ ⟨w16.heap.size, 0, none⟩ l[j].row := (D.alloc l[j].row 152).blkCells (o := 0) fun k v e => by simpa using e
    obtain ⟨q2, c2, w25, hr, hkk, D2⟩ := D1.app2 (P := Try.prog) (bytes := 40) (t := 50) (t2 := 50) 50 (by kernel_rfl) (.some ⟨w16.heap.size, 0, none⟩ 1 1 l[j].row rfl hcl) (by unfold maxLen; omega) (by omega) (wr_one _)
    have e : IntKind.wrap .i64 ((j : Int) + 1) = ((j + 1 : Nat) : Int) := by rw [w_i64 (by omega) (by omega)]; omega
    refine ⟨hfw D1, q2, j + 1, c2, w25, hr, hkk.size, hfw D2, ?_⟩
    rw [e]
    refine ⟨⟨j + 1, m', rfl, rfl, hjl, hm, ?_⟩, Nat.le_of_eq (by show ((l.length : Int) - ((j + 1 : Nat) : Int)).toNat + 1 = ((l.length : Int) - (j : Int)).toNat; omega)⟩
    have e2 : (l.take (j + 1)).flatMap Wr.row = (l.take j).flatMap Wr.row ++ l[j].row := by rw [List.take_succ_eq_append_getElem hjl, List.flatMap_append]; simp
    rw [e2]
    exact Ctx.noL (D2.pk [0] [1] rfl)
  · rw [if_neg (by simpa using hjl)]
    have hj2 : j = l.length := by omega
    subst hj2
    rw [List.take_length] at D
    obtain ⟨m2, hm2, hs, D2⟩ := D.slShare
    exact Ctr.ret (m' := m2) (L := []) (p, c) rfl hs D2.noL
theorem c_RefProc (n l : Int) : Gives Try.prog 43 #[PV n l] (PV n l) := fun w => x_RefProc n l w _ fun w1 h1 => ⟨rfl, hid_below h1 (by simp) (Nat.le_refl _)⟩
theorem c_RefRes (c : Int) (s : ByteArray) : Gives Try.prog 44 #[.agg #[.int .u8 c, .string s]] (.agg #[.int .u8 c, .string s]) := fun w => x_RefRes c s w _ fun w1 h1 => ⟨rfl, hid_below h1 (by simp) (Nat.le_refl _)⟩
theorem c_RefID (x : I) : Gives Try.prog 41 #[x.V] x.V := by
  intro w
  refine x_RefID _ _ _ _ _ _ _ _ _ _ w _ ⟨[], facts_nil _ _, ?_, ?_⟩
  all_goals
    intro w2 L h1 h2
    have A := at_start h1 h2
    refine (c_RefProc x.n x.l).call fun w5 h5 => ⟨_, _, rfl, at_kept A h5, facts_nil _ _, [], facts_nil _ _, [], facts_nil _ _, [], facts_nil _ _, fun w11 h11 => ⟨rfl, ?_⟩⟩
    exact at_end (at_call A (Nat.le_refl _) h5) (Nat.le_refl _) h11
theorem c_Ref5 (e : En) : Ctr Try.prog 69 #[.agg e.row.toArray] (fun m => EnM m e) [] (fun f : En => .agg f.row.toArray) (fun f m => EnM m f ∧ f.er = e.er) (fun _ => []) := by
  refine Ctr.mk fun w F m C he => x_Ref5 _ _ _ _ _ _ _ _ _ _ _ _ _ _ _ _ _ _ _ _ _ _ w _ ⟨[], facts_nil _ _, fun w2 L3 h2 g2 => ?_⟩
  refine (C.hidL h2 g2).gives (c_RefID e.id) fun w5 k5 C => ⟨_, _, _, _, _, _, _, _, _, _, rfl, k5, facts_nil _ _, ?_⟩
  refine (c_RefParts e.pq e.ps (by have := he.pl; omega)).call (As := []) C he.p fun p m1 w17 hk hm1 hp C => ⟨_, _, _, rfl, hk, facts_nil _ _, ?_⟩
  refine C.gives (c_RefRes e.rc e.rv) fun w22 k22 C => ⟨_, _, rfl, k22, facts_nil _ _, ?_⟩
  refine (c_Ref4 e.wq e.ws (by have := he.wl; omega)).call (As := []) C (he.w.mono hm1) fun q m2 w26 hk hm2 hq C => ⟨_, _, _, rfl, hk, facts_nil _ _, ?_⟩
  refine C.gives (c_RefProc e.vn e.vl) fun w31 k31 C => ⟨_, _, rfl, k31, facts_nil _ _, fun w34 h34 => ?_⟩
  exact Ctr.ret (m' := m2) (L := []) { e with pq := p, wq := q } rfl ⟨⟨hp.mono hm2, hq, he.pl, he.wl⟩, rfl⟩ (C.hid0 h34)
theorem c_RefProcP (p : Pr) : Gives Try.prog 43 #[.agg p.row.toArray] (.agg p.row.toArray) := c_RefProc p.n p.l
theorem c_RefProcs (q : Sl) (l : List Pr) (hl : l.length * 4 ≤ 140737488355328) : Ctr Try.prog 68 #[slV q l.length] (fun m => MSrc m 2 (slV q l.length) l.length (l.flatMap Pr.row)) [] (fun p : Sl => slV p l.length) (fun p m => MSrc m 2 (slV p l.length) l.length (l.flatMap Pr.row)) (fun _ => []) := by
  refine Ctr.mk fun w F m C hp => x_RefProcs _ _ _ w _ ?_
  refine ⟨fun p k c i w' _ => ∃ (j : Nat) (m' : Mem), i = j ∧ j = k ∧ j ≤ l.length ∧ m.le m' ∧ Ctx F m w w' [] m' [slA (.slice p j c) j ((l.take j).flatMap Pr.row) 29 2], fun _ _ _ i _ => (l.length - i).toNat, ⟨0, m, rfl, rfl, by omega, Mem.le_refl _, C.slNil⟩, ?_⟩
  clear C
  rintro p k c i w7 L8 _ ⟨j, m', rfl, rfl, hj, hm, D⟩
  by_cases hjl : j < l.length
  · rw [if_pos (by simpa using hjl)]
    refine ⟨by omega, by simpa using hjl, ?_⟩
    obtain ⟨a, ha, hc⟩ := (hp.mono hm).elem pr_len hjl
    have ha : q.1 = some a := ha
    rw [ha, onSome_some]
    refine ⟨_, _, D.cells hc, ?_⟩
    refine D.gives (c_RefProcP l[j]) fun w16 k16 D => ⟨_, _, rfl, k16.size, ?_⟩
    have D1 := (D.alloc l[j].row 29).swap
    have hcl : Cells _ ⟨w16.heap.size, 0, none⟩ l[j].row := (D.alloc l[j].row 29).blkCells (o := 0) fun k v e => by simpa using e
    obtain ⟨q2, c2, w25, hr, hkk, D2⟩ := D1.app2 (P := Try.prog) (bytes := 4) (t := 43) (t2 := 43) 43 (by kernel_rfl) (.some ⟨w16.heap.size, 0, none⟩ 1 1 l[j].row rfl hcl) (by unfold maxLen; omega) (by omega) (pr_one _)
    have e : IntKind.wrap .i64 ((j : Int) + 1) = ((j + 1 : Nat) : Int) := by rw [w_i64 (by omega) (by omega)]; omega
    refine ⟨q2, j + 1, c2, w25, hr, hkk.size, ?_⟩
    rw [e]
    refine ⟨⟨j + 1, m', rfl, rfl, hjl, hm, ?_⟩, Nat.le_of_eq (by show ((l.length : Int) - ((j + 1 : Nat) : Int)).toNat + 1 = ((l.length : Int) - (j : Int)).toNat; omega)⟩
    have e2 : (l.take (j + 1)).flatMap Pr.row = (l.take j).flatMap Pr.row ++ l[j].row := by rw [List.take_succ_eq_append_getElem hjl, List.flatMap_append]; simp
    rw [e2]
    exact Ctx.noL (D2.pk [0] [1] rfl)
  · rw [if_neg (by simpa using hjl)]
    have hj2 : j = l.length := by omega
    subst hj2
    rw [List.take_length] at D
    obtain ⟨m2, hm2, hs, D2⟩ := D.slShare
    exact Ctr.ret (m' := m2) (L := []) (p, c) rfl hs D2.noL
theorem c_SameProcs (q q' : Sl) (l l' : List Pr) (hb : l.length ≤ 140737488355328) : Ctr Try.prog 67 #[slV q l.length, slV q' l'.length] (fun m => MSrc m 2 (slV q l.length) l.length (l.flatMap Pr.row) ∧ MSrc m 2 (slV q' l'.length) l'.length (l'.flatMap Pr.row)) [] (fun _ : Unit => .bool (decide (l = l'))) (fun _ _ => True) (fun _ => []) := by
  refine Ctr.mk fun w F m C hp => x_SameProcs _ _ _ _ _ _ w _ ?_
  obtain ⟨h1, h2⟩ := hp
  by_cases hl : l.length = l'.length
  rotate_left
  · rw [if_pos (by simp; omega)]
    exact Ctr.ret () (by rw [decide_eq_false (fun h => hl (by rw [h]))]) trivial C
  rw [if_neg (by simp [hl])]
  refine ⟨fun i w' _ => ∃ j : Nat, i = j ∧ j ≤ l.length ∧ l.take j = l'.take j ∧ Ctx F m w w' [] m [], fun i _ => (l.length - i).toNat, ⟨0, rfl, by omega, rfl, C⟩, ?_⟩
  clear C
  rintro i w4 L5 _ ⟨j, rfl, hj, hjt, D⟩
  by_cases hjl : j < l.length
  · rw [if_pos (by simpa using hjl)]
    obtain ⟨a1, ha1, hc1⟩ := h1.elem pr_len hjl
    obtain ⟨a2, ha2, hc2⟩ := h2.elem pr_len (show j < l'.length by omega)
    refine ⟨by omega, by simpa using hjl, ?_⟩
    rw [ha1, onSome_some]
    refine ⟨_, _, D.cells hc1, by omega, by omega, ?_⟩
    rw [ha2, onSome_some]
    refine ⟨_, _, D.cells hc2, ?_⟩
    rw [pr_eq]
    by_cases he : l[j] = l'[j]
    · rw [if_neg (by simp [he])]
      intro w18 h18
      have e : IntKind.wrap .i64 ((j : Int) + 1) = ((j + 1 : Nat) : Int) := by rw [w_i64 (by omega) (by omega)]; omega
      rw [e]
      refine ⟨⟨j + 1, rfl, hjl, ?_, D.hid0 h18⟩, Nat.le_of_eq (by show ((l.length : Int) - ((j + 1 : Nat) : Int)).toNat + 1 = ((l.length : Int) - (j : Int)).toNat; omega)⟩
      rw [List.take_succ_eq_append_getElem hjl, List.take_succ_eq_append_getElem (by omega : j < l'.length), hjt, he]
    · rw [if_pos (by simp [he])]
      intro w19 h19
      refine Ctr.ret () ?_ trivial (D.hid0 h19)
      rw [decide_eq_false (fun h => he (by simp only [h]))]
  · rw [if_neg (by simpa using hjl)]
    have hj2 : j = l.length := by omega
    rw [hj2, List.take_length, hl, List.take_length] at hjt
    exact Ctr.ret () (by rw [decide_eq_true hjt]) trivial D
def EsM (m : Mem) (q : Sl) (l : List En) : Prop := MSrc m 18 (slV q l.length) l.length (l.flatMap En.row) ∧ ∀ e ∈ l, EnM m e
theorem EsM.mono {m m' : Mem} {q : Sl} {l : List En} (h : EsM m q l) (hm : m.le m') : EsM m' q l := ⟨h.1.mono hm, fun e he => (h.2 e he).mono hm⟩
theorem c_Refs (q : Sl) (l : List En) (hl : l.length ≤ 100000) : Ctr Try.prog 48 #[slV q l.length] (fun m => EsM m q l) [] (fun f : Sl × List En => slV f.1 f.2.length) (fun f m => EsM m f.1 f.2 ∧ f.2.map En.er = l.map En.er) (fun _ => []) := by
  refine Ctr.mk fun w F m C hp => x_Refs _ _ _ w _ ?_
  obtain ⟨hp, he⟩ := hp
  refine ⟨fun p k c i w' _ => ∃ (j : Nat) (m' : Mem) (fs : List En), i = j ∧ k = fs.length ∧ j ≤ l.length ∧ m.le m' ∧ fs.map En.er = (l.take j).map En.er ∧ (∀ e ∈ fs, EnM m' e) ∧ Ctx F m w w' [] m' [slA (.slice p fs.length c) fs.length (fs.flatMap En.row) 52 18], fun _ _ _ i _ => (l.length - i).toNat, ⟨0, m, [], rfl, rfl, by omega, Mem.le_refl _, rfl, by simp, C.slNil⟩, ?_⟩
  clear C
  rintro p k c i w7 L8 _ ⟨j, m', fs, rfl, rfl, hj, hm, her, hfs, D⟩
  by_cases hjl : j < l.length
  rotate_left
  · rw [if_neg (by simpa using hjl)]
    have hj2 : j = l.length := by omega
    rw [hj2, List.take_length] at her
    obtain ⟨m2, hm2, hs, D2⟩ := D.slShare
    exact Ctr.ret (m' := m2) (L := []) ((p, c), fs) rfl ⟨⟨hs, fun e h => (hfs e h).mono hm2⟩, her⟩ D2.noL
  rw [if_pos (by simpa using hjl)]
  refine ⟨by omega, by simpa using hjl, ?_⟩
  have hfl : fs.length = j := by have := congrArg List.length her; simp at this; omega
  obtain ⟨a, ha, hc⟩ := (hp.mono hm).elem en_len hjl
  have ha : q.1 = some a := ha
  rw [ha, onSome_some]
  refine ⟨_, _, _, _, _, _, _, _, _, _, _, _, _, _, _, _, _, _, _, _, _, _, by rw [Int.toNat_natCast]; exact D.cells hc, ?_⟩
  refine (c_Ref5 l[j]).call (As := [_]) D ((he _ (List.getElem_mem hjl)).mono hm) fun f m2 w33 hk hm2 hf D => ⟨_, _, _, _, _, _, _, _, _, _, _, _, _, _, _, _, _, _, _, _, _, _, rfl, hk.size, ?_⟩
  have D0 := (D.alloc f.row 52).swap
  have hcl : Cells _ ⟨w33.heap.size, 0, none⟩ f.row := (D.alloc f.row 52).blkCells (o := 0) fun k v e => by simpa using e
  obtain ⟨q2, c2, w67, hr, hkk, D2⟩ := Ctx.app2 (P := Try.prog) (bytes := 400) (t := 65) (t2 := 65) D0 65 (by kernel_rfl) (.some ⟨w33.heap.size, 0, none⟩ 1 1 f.row rfl hcl) (by unfold maxLen; omega) (by omega) (en_one _)
  have e1 : (fs ++ [f]).length = fs.length + 1 := by simp
  have e2 : (fs ++ [f]).flatMap En.row = fs.flatMap En.row ++ f.row := by simp
  have e : IntKind.wrap .i64 ((j : Int) + 1) = ((j + 1 : Nat) : Int) := by rw [w_i64 (by omega) (by omega)]; omega
  refine ⟨q2, _, c2, w67, hr, hkk.size, ?_⟩
  rw [e]
  refine ⟨⟨j + 1, m2, fs ++ [f], rfl, e1.symm, hjl, hm.le_trans hm2, ?_, ?_, ?_⟩, Nat.le_of_eq (by show ((l.length : Int) - ((j + 1 : Nat) : Int)).toNat + 1 = ((l.length : Int) - (j : Int)).toNat; omega)⟩
  · rw [List.take_succ_eq_append_getElem hjl, List.map_append, List.map_append, her]; simp [hf.2]
  · intro y hy
    rcases List.mem_append.1 hy with hy | hy
    · exact (hfs y hy).mono hm2
    · simp only [List.mem_singleton] at hy; subst hy; exact hf.1
  · rw [← e2, ← e1] at D2
    exact Ctx.noL (D2.pk [0] [1] rfl)
theorem c_SameAll (q q' : Sl) (l l' : List En) (hb : l.length ≤ 1000000) : Ctr Try.prog 47 #[slV q l.length, slV q' l'.length] (fun m => EsM m q l ∧ EsM m q' l') [] (fun _ : Unit => .bool (decide (l.map En.er = l'.map En.er))) (fun _ _ => True) (fun _ => []) := by
  refine Ctr.mk fun w F m C hp => x_SameAll _ _ _ _ _ _ w _ ?_
  obtain ⟨⟨h1, g1⟩, ⟨h2, g2⟩⟩ := hp
  by_cases hl : l.length = l'.length
  rotate_left
  · rw [if_pos (by simp; omega)]
    exact Ctr.ret () (by rw [decide_eq_false (fun h => hl (by simpa using congrArg List.length h))]) trivial C
  rw [if_neg (by simp [hl])]
  refine ⟨fun i w' _ => ∃ (j : Nat) (m' : Mem), i = j ∧ j ≤ l.length ∧ m.le m' ∧ (l.take j).map En.er = (l'.take j).map En.er ∧ Ctx F m w w' [] m' [], fun i _ => (l.length - i).toNat, ⟨0, m, rfl, by omega, Mem.le_refl _, rfl, C⟩, ?_⟩
  clear C
  rintro i w4 L5 _ ⟨j, m', rfl, hj, hm, hjt, D⟩
  by_cases hjl : j < l.length
  rotate_left
  · rw [if_neg (by simpa using hjl)]
    have hj2 : j = l.length := by omega
    rw [hj2, List.take_length, hl, List.take_length] at hjt
    exact Ctr.ret () (by rw [decide_eq_true hjt]) trivial D
  rw [if_pos (by simpa using hjl)]
  obtain ⟨a1, ha1, hc1⟩ := (h1.mono hm).elem en_len hjl
  obtain ⟨a2, ha2, hc2⟩ := (h2.mono hm).elem en_len (show j < l'.length by omega)
  refine ⟨_, D.memFact hc1 (D.memFact hc2 (facts_nil _ _)), by omega, by simpa using hjl, ?_⟩
  rw [ha1, onSome_some]
  refine ⟨_, _, _, _, _, _, _, _, _, _, _, _, _, _, _, _, _, _, _, _, _, _, by rw [Int.toNat_natCast]; exact List.mem_cons_self, by omega, by omega, ?_⟩
  rw [ha2, onSome_some]
  refine ⟨_, _, _, _, _, _, _, _, _, _, _, _, _, _, _, _, _, _, _, _, _, _, by rw [Int.toNat_natCast]; exact List.mem_cons_of_mem _ List.mem_cons_self, fun w53 h53 => ?_⟩
  replace D := D.hid0 h53

  refine (c_r5Same l[j] (l'[j]'(by omega))).call (As := []) D ⟨(g1 _ (List.getElem_mem hjl)).mono hm, (g2 _ (List.getElem_mem (by omega))).mono hm⟩ fun _ m2 w55 hk hm2 _ D => ⟨_, rfl, hk.size, ?_⟩
  by_cases he : l[j].er = (l'[j]'(by omega)).er
  · rw [if_neg (by simp [he])]
    have e : IntKind.wrap .i64 ((j : Int) + 1) = ((j + 1 : Nat) : Int) := by rw [w_i64 (by omega) (by omega)]; omega
    rw [e]
    refine ⟨⟨j + 1, m2, rfl, hjl, hm.le_trans hm2, ?_, D.noL⟩, Nat.le_of_eq (by show ((l.length : Int) - ((j + 1 : Nat) : Int)).toNat + 1 = ((l.length : Int) - (j : Int)).toNat; omega)⟩
    rw [List.take_succ_eq_append_getElem hjl, List.take_succ_eq_append_getElem (by omega : j < l'.length), List.map_append, List.map_append, hjt]; simp [he]
  · rw [if_pos (by simp [he])]
    refine Ctr.ret () ?_ trivial D
    rw [decide_eq_false (fun h => he ?_)]
    have := congrArg (fun z => z[j]?) h
    simpa [hjl, show j < l'.length by omega] using this
theorem c_Ref6 (v : Vw) (hl : v.ps.length * 4 ≤ 140737488355328) : Ctr Try.prog 46 #[.agg v.row.toArray] (fun m => v.M m) [] (fun p : Sl => .agg (v.at_ p).row.toArray) (fun p m => (v.at_ p).M m) (fun _ => []) := by
  refine Ctr.mk fun w F m C hv => x_Ref6 _ _ _ _ _ w _ ⟨[], facts_nil _ _, fun w2 L3 h2 g2 => ?_⟩
  refine (c_RefProcs v.q v.ps hl).call (As := []) (C.hidL h2 g2) hv fun p m1 w5 hk hm1 hp C => ⟨_, _, _, rfl, hk, facts_nil _ _, fun w9 h9 => ?_⟩
  exact Ctr.ret (m' := m1) (L := []) p rfl hp (C.hid0 h9)
/-- views that are the same -/
theorem c_r6Same (a b : Vw) (hl : a.ps.length ≤ 140737488355328) (he : a.g = b.g ∧ a.n = b.n ∧ a.ps = b.ps) : Ctr Try.prog 45 #[.agg a.row.toArray, .agg b.row.toArray] (fun m => a.M m ∧ b.M m) [] (fun _ : Unit => .bool true) (fun _ _ => True) (fun _ => []) := by
  refine Ctr.mk fun w F m C hp => x_r6Same _ _ _ _ _ _ _ _ _ _ w _ ?_
  rw [if_pos (by simp [he.1, he.2.1])]
  intro w2 L3 h2 g2
  refine (c_SameProcs a.q b.q a.ps b.ps hl).call (As := []) (C.hidL h2 g2) ⟨hp.1, hp.2⟩ fun _ m1 w5 hk hm1 _ C => ⟨_, rfl, hk, ?_⟩
  exact Ctr.ret () (by simp [he.2.2]) trivial C
end Go.Proofs
/- The verification conditions of this seat's functions, as the engine has them: printed by a program of the bench; checked by the kernel. -/
namespace Go.Proofs
open Go
abbrev fn_AnnalPlays : Nat := 4
theorem x_AnnalPlays (a : Option Addr) (al ac : Nat) (w : World) (R : Ending → World → Prop) (h :
  X.CallX Try.prog 6 #[(.slice (a) al ac)] w fun e1 w2 =>
   ∃ b3 : Bool, (e1 = .returned (.bool b3)) ∧
   ((w).heap.size ≤ (w2).heap.size) ∧
   if ((!b3) == false) = true then
    X.CallX Try.prog 7 #[] w2 fun e7 w8 =>
     ∃ b9 : Bool, (e7 = .returned (.bool b9)) ∧
     ((w2).heap.size ≤ (w8).heap.size) ∧
     if (false || (!b9)) = true then
      X.CallX Try.prog 7 #[] w8 fun e199 w200 =>
       ∃ b201 : Bool, (e199 = .returned (.bool b201)) ∧
       ((w8).heap.size ≤ (w200).heap.size) ∧
       R (.returned (.bool b201)) w200
     else
      X.CallX Try.prog 8 #[] w8 fun e10 w11 =>
       ∃ q12 : Option Addr, (e10 = .returned (.pointer (q12))) ∧
       ((w8).heap.size ≤ (w11).heap.size) ∧
       ∃ x13 : Int → World → List Nat → Prop, ∃ x14 : Int → World → Nat, (x13 0 (w11.alloc (.cells #[(.slice none 0 0), (.slice none 0 0), (.slice none 0 0), (.slice none 0 0), (.slice none 0 0), (.slice none 0 0), (.slice none 0 0), (.slice none 0 0), (.int .i64 0)] 68)) []) ∧
       ∀ n15 : Int, ∀ w16 : World, ∀ L17 : List Nat, (X.LF (w).heap.size w16 L17) →
       (x13 n15 w16 L17) →
       if (decide (n15 < ((al : Nat) : Int))) = true then
        ∃ x18 : X.Facts, (X.FactsW x18 w16 []) ∧
        ((0 : Int) ≤ n15) ∧
        (n15 < ((al : Nat) : Int)) ∧
        X.onSome (a) fun p19 =>
        ∃ n20 : Int, ∃ n21 : Int, ∃ n22 : Int, ∃ n23 : Int, ∃ n24 : Int, ∃ n25 : Int, ∃ n26 : Int, ∃ n27 : Int, ∃ n28 : Int, ∃ n29 : Int, ∃ n30 : Int, ∃ n31 : Int, ∃ n32 : Int, ∃ n33 : Int, ∃ n34 : Int, ∃ n35 : Int, ∃ q36 : Option Addr, ∃ k37 : Nat, ∃ k38 : Nat, ∃ n39 : Int, ∃ n40 : Int, ∃ n41 : Int, ∃ n42 : Int, ∃ n43 : Int, ∃ n44 : Int, ∃ n45 : Int, ∃ n46 : Int, ∃ n47 : Int, ∃ n48 : Int, ∃ n49 : Int, ∃ n50 : Int, ∃ n51 : Int, ∃ n52 : Int, ∃ n53 : Int, ∃ n54 : Int, ∃ s55 : ByteArray, ∃ n56 : Int, ∃ n57 : Int, ∃ n58 : Int, ∃ n59 : Int, ∃ n60 : Int, ∃ n61 : Int, ∃ n62 : Int, ∃ n63 : Int, ∃ n64 : Int, ∃ n65 : Int, ∃ n66 : Int, ∃ n67 : Int, ∃ n68 : Int, ∃ s69 : ByteArray, ∃ n70 : Int, ∃ n71 : Int, ∃ q72 : Option Addr, ∃ k73 : Nat, ∃ k74 : Nat, ∃ n75 : Int, ∃ n76 : Int, ∃ n77 : Int, ∃ n78 : Int, ∃ q79 : Option Addr, ∃ k80 : Nat, ∃ k81 : Nat, ∃ n82 : Int, ∃ n83 : Int, ∃ n84 : Int, ∃ n85 : Int, ∃ n86 : Int, ∃ n87 : Int, ∃ n88 : Int, ∃ n89 : Int, ∃ n90 : Int, ∃ n91 : Int, ∃ n92 : Int, ∃ n93 : Int, ∃ q94 : Option Addr, ∃ k95 : Nat, ∃ k96 : Nat, ∃ n97 : Int, ∃ s98 : ByteArray, ∃ q99 : Option Addr, ∃ k100 : Nat, ∃ k101 : Nat, ∃ n102 : Int, ∃ n103 : Int, (((p19.add ((n15).toNat * 74)), [(.int .i64 n20), (.int .i64 n21), (.int .u8 n22), (.int .u8 n23), (.int .u16 n24), (.int .u32 n25), (.int .u8 n26), (.int .u8 n27), (.int .u8 n28), (.int .u8 n29), (.int .u8 n30), (.int .u8 n31), (.int .u8 n32), (.int .u8 n33), (.int .i64 n34), (.int .i64 n35), (.slice (q36) k37 k38), (.int .u8 n39), (.int .u16 n40), (.int .u32 n41), (.int .u8 n42), (.int .u8 n43), (.int .u8 n44), (.int .u8 n45), (.int .u8 n46), (.int .u8 n47), (.int .u8 n48), (.int .u8 n49), (.int .i64 n50), (.int .i64 n51), (.int .i64 n52), (.int .i64 n53), (.int .u8 n54), (.string s55), (.int .u8 n56), (.int .u16 n57), (.int .u8 n58), (.int .u16 n59), (.int .u32 n60), (.int .u8 n61), (.int .u8 n62), (.int .u8 n63), (.int .u8 n64), (.int .u8 n65), (.int .u8 n66), (.int .u8 n67), (.int .u8 n68), (.string s69), (.int .u8 n70), (.int .u32 n71), (.slice (q72) k73 k74), (.int .u8 n75), (.int .u16 n76), (.int .u8 n77), (.int .u32 n78), (.slice (q79) k80 k81), (.int .u8 n82), (.int .u8 n83), (.int .u16 n84), (.int .u32 n85), (.int .u8 n86), (.int .u8 n87), (.int .u8 n88), (.int .u8 n89), (.int .u8 n90), (.int .u8 n91), (.int .u8 n92), (.int .u32 n93), (.slice (q94) k95 k96), (.int .u8 n97), (.string s98), (.slice (q99) k100 k101), (.int .u8 n102), (.int .u16 n103)]) ∈ x18) ∧
        ((0 : Int) ≤ n15) ∧
        (n15 < ((al : Nat) : Int)) ∧
        X.onSome (a) fun p104 =>
        ∃ n105 : Int, ∃ n106 : Int, ∃ n107 : Int, ∃ n108 : Int, ∃ n109 : Int, ∃ n110 : Int, ∃ n111 : Int, ∃ n112 : Int, ∃ n113 : Int, ∃ n114 : Int, ∃ n115 : Int, ∃ n116 : Int, ∃ n117 : Int, ∃ n118 : Int, ∃ n119 : Int, ∃ n120 : Int, ∃ q121 : Option Addr, ∃ k122 : Nat, ∃ k123 : Nat, ∃ n124 : Int, ∃ n125 : Int, ∃ n126 : Int, ∃ n127 : Int, ∃ n128 : Int, ∃ n129 : Int, ∃ n130 : Int, ∃ n131 : Int, ∃ n132 : Int, ∃ n133 : Int, ∃ n134 : Int, ∃ n135 : Int, ∃ n136 : Int, ∃ n137 : Int, ∃ n138 : Int, ∃ n139 : Int, ∃ s140 : ByteArray, ∃ n141 : Int, ∃ n142 : Int, ∃ n143 : Int, ∃ n144 : Int, ∃ n145 : Int, ∃ n146 : Int, ∃ n147 : Int, ∃ n148 : Int, ∃ n149 : Int, ∃ n150 : Int, ∃ n151 : Int, ∃ n152 : Int, ∃ n153 : Int, ∃ s154 : ByteArray, ∃ n155 : Int, ∃ n156 : Int, ∃ q157 : Option Addr, ∃ k158 : Nat, ∃ k159 : Nat, ∃ n160 : Int, ∃ n161 : Int, ∃ n162 : Int, ∃ n163 : Int, ∃ q164 : Option Addr, ∃ k165 : Nat, ∃ k166 : Nat, ∃ n167 : Int, ∃ n168 : Int, ∃ n169 : Int, ∃ n170 : Int, ∃ n171 : Int, ∃ n172 : Int, ∃ n173 : Int, ∃ n174 : Int, ∃ n175 : Int, ∃ n176 : Int, ∃ n177 : Int, ∃ n178 : Int, ∃ q179 : Option Addr, ∃ k180 : Nat, ∃ k181 : Nat, ∃ n182 : Int, ∃ s183 : ByteArray, ∃ q184 : Option Addr, ∃ k185 : Nat, ∃ k186 : Nat, ∃ n187 : Int, ∃ n188 : Int, (((p104.add ((n15).toNat * 74)), [(.int .i64 n105), (.int .i64 n106), (.int .u8 n107), (.int .u8 n108), (.int .u16 n109), (.int .u32 n110), (.int .u8 n111), (.int .u8 n112), (.int .u8 n113), (.int .u8 n114), (.int .u8 n115), (.int .u8 n116), (.int .u8 n117), (.int .u8 n118), (.int .i64 n119), (.int .i64 n120), (.slice (q121) k122 k123), (.int .u8 n124), (.int .u16 n125), (.int .u32 n126), (.int .u8 n127), (.int .u8 n128), (.int .u8 n129), (.int .u8 n130), (.int .u8 n131), (.int .u8 n132), (.int .u8 n133), (.int .u8 n134), (.int .i64 n135), (.int .i64 n136), (.int .i64 n137), (.int .i64 n138), (.int .u8 n139), (.string s140), (.int .u8 n141), (.int .u16 n142), (.int .u8 n143), (.int .u16 n144), (.int .u32 n145), (.int .u8 n146), (.int .u8 n147), (.int .u8 n148), (.int .u8 n149), (.int .u8 n150), (.int .u8 n151), (.int .u8 n152), (.int .u8 n153), (.string s154), (.int .u8 n155), (.int .u32 n156), (.slice (q157) k158 k159), (.int .u8 n160), (.int .u16 n161), (.int .u8 n162), (.int .u32 n163), (.slice (q164) k165 k166), (.int .u8 n167), (.int .u8 n168), (.int .u16 n169), (.int .u32 n170), (.int .u8 n171), (.int .u8 n172), (.int .u8 n173), (.int .u8 n174), (.int .u8 n175), (.int .u8 n176), (.int .u8 n177), (.int .u32 n178), (.slice (q179) k180 k181), (.int .u8 n182), (.string s183), (.slice (q184) k185 k186), (.int .u8 n187), (.int .u16 n188)]) ∈ x18) ∧
        ∀ w189 : World, (X.Hid [] w16 w189) →
        X.CallX Try.prog 10 #[(.pointer (q12)), (.agg #[(.int .i64 n20), (.int .i64 n21), (.int .u8 n22), (.int .u8 n23), (.int .u16 n24), (.int .u32 n25), (.int .u8 n26), (.int .u8 n27), (.int .u8 n28), (.int .u8 n29), (.int .u8 n30), (.int .u8 n31), (.int .u8 n32), (.int .u8 n33), (.int .i64 n34), (.int .i64 n35), (.slice (q36) k37 k38), (.int .u8 n39), (.int .u16 n40), (.int .u32 n41), (.int .u8 n42), (.int .u8 n43), (.int .u8 n44), (.int .u8 n45), (.int .u8 n46), (.int .u8 n47), (.int .u8 n48), (.int .u8 n49), (.int .i64 n50), (.int .i64 n51), (.int .i64 n52), (.int .i64 n53), (.int .u8 n54), (.string s55), (.int .u8 n56), (.int .u16 n57), (.int .u8 n58), (.int .u16 n59), (.int .u32 n60), (.int .u8 n61), (.int .u8 n62), (.int .u8 n63), (.int .u8 n64), (.int .u8 n65), (.int .u8 n66), (.int .u8 n67), (.int .u8 n68), (.string s69), (.int .u8 n70), (.int .u32 n71), (.slice (q72) k73 k74), (.int .u8 n75), (.int .u16 n76), (.int .u8 n77), (.int .u32 n78), (.slice (q79) k80 k81), (.int .u8 n82), (.int .u8 n83), (.int .u16 n84), (.int .u32 n85), (.int .u8 n86), (.int .u8 n87), (.int .u8 n88), (.int .u8 n89), (.int .u8 n90), (.int .u8 n91), (.int .u8 n92), (.int .u32 n93), (.slice (q94) k95 k96), (.int .u8 n97), (.string s98), (.slice (q99) k100 k101), (.int .u8 n102), (.int .u16 n103)])] w189 fun e190 w191 =>
         ∃ b192 : Bool, (e190 = .returned (.bool b192)) ∧
         ((w189).heap.size ≤ (w191).heap.size) ∧
         (X.FactsW x18 w191 []) ∧
         X.CallX Try.prog 13 #[(.pointer (some ⟨(w11).heap.size, 0, none⟩)), (.agg #[(.int .i64 n105), (.int .i64 n106), (.int .u8 n107), (.int .u8 n108), (.int .u16 n109), (.int .u32 n110), (.int .u8 n111), (.int .u8 n112), (.int .u8 n113), (.int .u8 n114), (.int .u8 n115), (.int .u8 n116), (.int .u8 n117), (.int .u8 n118), (.int .i64 n119), (.int .i64 n120), (.slice (q121) k122 k123), (.int .u8 n124), (.int .u16 n125), (.int .u32 n126), (.int .u8 n127), (.int .u8 n128), (.int .u8 n129), (.int .u8 n130), (.int .u8 n131), (.int .u8 n132), (.int .u8 n133), (.int .u8 n134), (.int .i64 n135), (.int .i64 n136), (.int .i64 n137), (.int .i64 n138), (.int .u8 n139), (.string s140), (.int .u8 n141), (.int .u16 n142), (.int .u8 n143), (.int .u16 n144), (.int .u32 n145), (.int .u8 n146), (.int .u8 n147), (.int .u8 n148), (.int .u8 n149), (.int .u8 n150), (.int .u8 n151), (.int .u8 n152), (.int .u8 n153), (.string s154), (.int .u8 n155), (.int .u32 n156), (.slice (q157) k158 k159), (.int .u8 n160), (.int .u16 n161), (.int .u8 n162), (.int .u32 n163), (.slice (q164) k165 k166), (.int .u8 n167), (.int .u8 n168), (.int .u16 n169), (.int .u32 n170), (.int .u8 n171), (.int .u8 n172), (.int .u8 n173), (.int .u8 n174), (.int .u8 n175), (.int .u8 n176), (.int .u8 n177), (.int .u32 n178), (.slice (q179) k180 k181), (.int .u8 n182), (.string s183), (.slice (q184) k185 k186), (.int .u8 n187), (.int .u16 n188)])] w191 fun e193 w194 =>
          ∃ b195 : Bool, (e193 = .returned (.bool b195)) ∧
          ((w191).heap.size ≤ (w194).heap.size) ∧
          (X.FactsW x18 w194 []) ∧
          if ((!(b192 == b195)) == false) = true then
           X.CallX Try.prog 14 #[(.pointer (q12)), (.pointer (some ⟨(w11).heap.size, 0, none⟩))] w194 fun e196 w197 =>
            ∃ b198 : Bool, (e196 = .returned (.bool b198)) ∧
            ((w194).heap.size ≤ (w197).heap.size) ∧
            (X.FactsW x18 w197 []) ∧
            if (false || (!b198)) = true then
             R (.returned (.bool false)) w197
            else
             (x13 (IntKind.wrap .i64 (n15 + 1)) w197 []) ∧
             Nat.le ((x14 (IntKind.wrap .i64 (n15 + 1)) w197) + 1) (x14 n15 w16)
          else
           R (.returned (.bool false)) w194
       else
        R (.returned (.bool true)) w16
   else
    X.CallX Try.prog 7 #[] w2 fun e4 w5 =>
     ∃ b6 : Bool, (e4 = .returned (.bool b6)) ∧
     ((w2).heap.size ≤ (w5).heap.size) ∧
     R (.returned (.bool b6)) w5) :
    Calls Try.prog 4 #[.slice a al ac] w R :=
  X.calls_of { isLoc := [], sym := [], loops := [(6, .inv [(5, .int .i64)] [] true)], joins := [] } Try.func4 (by kernel_rfl) h
end Go.Proofs
namespace Go.Proofs
open Go X RowKit
theorem partFact {w : World} {L : List Nat} {a : Addr} {cs : List Value} (hc : Cells w a cs) (hnl : a.block ∉ L) (o : Nat) (v : Value) (vs : List Value) (h : ∀ k u, (v :: vs)[k]? = some u → cs[o + k]? = some u) {F : Facts} (kF : FactsW F w L) : FactsW ((a.add o, v :: vs) :: F) w L := by
  have hc2 := cells_part hc o (v :: vs) h
  have h0 := hc2 0 v rfl
  have hlt := World.block_lt_of_cell? w _ h0
  rw [addr_block] at hlt
  exact factsMore hc2 hlt (by rw [addr_block]; exact hnl) kF
section
variable {F0 : List Nat} {m0 : Mem} {w0 w : World} {L : List Nat} {m : Mem} {f : Fa} {r : Ra} {b c : Nat}
theorem rr (C : Ctx F0 m0 w0 w L m (f.as b ++ r.as c)) : Ctx F0 m0 w0 w L m (r.as c) := (C.perm List.perm_append_comm).left
theorem fh (C : Ctx F0 m0 w0 w L m (f.as b ++ r.as c)) : FactsW [(⟨c, 0, none⟩, [slV r.sb r.B.length]), (⟨c, 1, none⟩, [slV r.se r.E.length]), (⟨c, 2, none⟩, [slV r.st r.T.length]), (⟨c, 3, none⟩, [slV r.ss r.S.length]), (⟨c, 8, none⟩, [.int .i64 r.sp])] w L :=
  (rr C).blkFact1 0 _ rfl ((rr C).blkFact1 1 _ rfl ((rr C).blkFact1 2 _ rfl ((rr C).blkFact1 3 _ rfl ((rr C).blkFact1 8 _ rfl (facts_nil _ _)))))
end
def bgF (a : Addr) (v : Bg) (F : Facts) : Facts := (a.add 0, v.id.row) :: (a.add 10, [.int .u8 v.gr]) :: (a.add 11, [.int .i64 v.mo]) :: (a.add 12, [.int .i64 v.at_]) :: (a.add 13, [slV v.pq v.ps.length]) :: F
theorem bgFact {w : World} {L : List Nat} {a : Addr} {v : Bg} (hc : Cells w a v.row) (hnl : a.block ∉ L) {F : Facts} (kF : FactsW F w L) : FactsW (bgF a v F) w L :=
  partFact hc hnl 0 _ _ (fun k u e => by match k, e with | 0, e => exact e | 1, e => exact e | 2, e => exact e | 3, e => exact e | 4, e => exact e | 5, e => exact e | 6, e => exact e | 7, e => exact e | 8, e => exact e | 9, e => exact e)
    (partFact hc hnl 10 _ _ (fun k u e => by match k, e with | 0, e => exact e) (partFact hc hnl 11 _ _ (fun k u e => by match k, e with | 0, e => exact e) (partFact hc hnl 12 _ _ (fun k u e => by match k, e with | 0, e => exact e) (partFact hc hnl 13 _ _ (fun k u e => by match k, e with | 0, e => exact e) kF))))
theorem c_Order4 (b : Nat) (f : Fa) : Ctr Try.prog 9 #[.pointer (some ⟨b, 0, none⟩), .int .u8 4] noMem (f.as b) (fun _ : Unit => .slice none 0 0) (fun _ _ => True) (fun _ => f.as b) := by
  refine Ctr.mk fun w F m C _ => x_annal_Annal_Order _ _ w _ ?_
  refine (c_none b f.an rfl).call (As := f.rs) C trivial fun _ m1 w2 hk hm _ C => ⟨_, rfl, hk.size, ?_⟩
  rw [if_pos (by decide)]
  exact Ctr.ret (m' := m1) () rfl trivial C
theorem ordP {F0 : List Nat} {m0 : Mem} {w0 : World} (b c : Nat) (f : Fa) (r : Ra) (g : Nat) (hg : g < 4) : ∃ Bs : List Asn,
    (∀ {w : World} {L : List Nat} {m : Mem}, Ctx F0 m0 w0 w L m (f.as b ++ r.as c) → Ctx F0 m0 w0 w L m (ensR (r.p g) (r.o g) :: Bs)) ∧
    (∀ {w : World} {L : List Nat} {m : Mem}, Ctx F0 m0 w0 w L m (ensR (r.p g) (r.o g) :: Bs) → Ctx F0 m0 w0 w L m (f.as b ++ r.as c)) := by
  match g, hg with
  | 0, _ => exact ⟨_, fun C => C.pm [10, 0, 1, 2, 3, 4, 5, 6, 7, 8, 9, 11, 12, 13] rfl, fun C => C.pm [1, 2, 3, 4, 5, 6, 7, 8, 9, 10, 0, 11, 12, 13] rfl⟩
  | 1, _ => exact ⟨_, fun C => C.pm [11, 0, 1, 2, 3, 4, 5, 6, 7, 8, 9, 10, 12, 13] rfl, fun C => C.pm [1, 2, 3, 4, 5, 6, 7, 8, 9, 10, 11, 0, 12, 13] rfl⟩
  | 2, _ => exact ⟨_, fun C => C.pm [12, 0, 1, 2, 3, 4, 5, 6, 7, 8, 9, 10, 11, 13] rfl, fun C => C.pm [1, 2, 3, 4, 5, 6, 7, 8, 9, 10, 11, 12, 0, 13] rfl⟩
  | 3, _ => exact ⟨_, fun C => C.pm [13, 0, 1, 2, 3, 4, 5, 6, 7, 8, 9, 10, 11, 12] rfl, fun C => C.pm [1, 2, 3, 4, 5, 6, 7, 8, 9, 10, 11, 12, 13, 0] rfl⟩
def tdF (a : Addr) (v : Td) (F : Facts) : Facts := (a.add 0, v.f.row) :: (a.add 2, v.id.row) :: (a.add 12, [.int .u8 v.rc, .string v.rv]) :: (a.add 14, v.v.row) :: F
theorem tdFact {w : World} {L : List Nat} {a : Addr} {v : Td} (hc : Cells w a v.row) (hnl : a.block ∉ L) {F : Facts} (kF : FactsW F w L) : FactsW (tdF a v F) w L :=
  partFact hc hnl 0 _ _ (fun k u e => by match k, e with | 0, e => exact e | 1, e => exact e)
    (partFact hc hnl 2 _ _ (fun k u e => by match k, e with | 0, e => exact e | 1, e => exact e | 2, e => exact e | 3, e => exact e | 4, e => exact e | 5, e => exact e | 6, e => exact e | 7, e => exact e | 8, e => exact e | 9, e => exact e) (partFact hc hnl 12 _ _ (fun k u e => by match k, e with | 0, e => exact e | 1, e => exact e) (partFact hc hnl 14 _ _ (fun k u e => by match k, e with | 0, e => exact e | 1, e => exact e | 2, e => exact e) kF)))
def stF (a : Addr) (v : St) (F : Facts) : Facts := (a.add 0, v.w.row) :: (a.add 2, v.v.row) :: F
theorem stFact {w : World} {L : List Nat} {a : Addr} {v : St} (hc : Cells w a v.row) (hnl : a.block ∉ L) {F : Facts} (kF : FactsW F w L) : FactsW (stF a v F) w L :=
  partFact hc hnl 0 _ _ (fun k u e => by match k, e with | 0, e => exact e | 1, e => exact e) (partFact hc hnl 2 _ _ (fun k u e => by match k, e with | 0, e => exact e | 1, e => exact e | 2, e => exact e) kF)
set_option maxHeartbeats 4000000 in
theorem c_same (b c : Nat) (f : Fa) (r : Ra) (hf : f.er.few) (hE : f.er = r.er) (pB : ∀ v ∈ f.B.l, v.ps.length * 48 ≤ 140737488355328) (pT : ∀ v ∈ f.T.l, v.v.ps.length * 48 ≤ 140737488355328) (pS : ∀ v ∈ f.S.l, v.v.ps.length * 48 ≤ 140737488355328) :
    Ctr Try.prog 14 #[.pointer (some ⟨b, 0, none⟩), .pointer (some ⟨c, 0, none⟩)] (fun m => f.M m ∧ r.M m) (f.as b ++ r.as c) (fun _ : Unit => .bool true) (fun _ _ => True) (fun _ => f.as b ++ r.as c) := by
  refine Ctr.mk fun w F m C hp => x_same _ _ w _ ?_
  obtain ⟨hM, hR⟩ := hp
  obtain ⟨hfw, hfo⟩ := hf.fa
  refine (c_Begins b f pB hfw).call (As := r.as c) C hM fun ib m1 w2 hk hm1 hbs C => ⟨_, _, _, rfl, hk.size, ?_⟩
  refine (c_Ends b f hfw).call (As := r.as c) C (hM.mono hm1) fun qe m2 w7 hk hm2 hes C => ⟨_, _, _, rfl, hk.size, ?_⟩
  have hm02 := hm1.le_trans hm2
  refine (c_Tolds b f pT hfw).call (As := r.as c) C (hM.mono hm02) fun it m3 w12 hk hm3 hts C => ⟨_, _, _, rfl, hk.size, ?_⟩
  have hm03 := hm02.le_trans hm3
  refine (c_Sats b f pS hfw).call (As := r.as c) C (hM.mono hm03) fun is m4 w17 hk hm4 hss C => ⟨_, _, _, rfl, hk.size, ?_⟩
  have hm04 := hm03.le_trans hm4
  obtain ⟨qb, lb⟩ := ib
  obtain ⟨qt, lt⟩ := it
  obtain ⟨qs, ls⟩ := is
  simp only at hbs hts hss ⊢
  have eB : lb.map Bg.er = r.B.map Bg.er := by rw [hbs.2.2]; exact congrArg Fv.B hE
  have eE : f.E.l = r.E := congrArg Fv.E hE
  have eT : lt.map Td.er = r.T.map Td.er := by rw [hts.2.2]; exact congrArg Fv.T hE
  have eS : ls.map St.er = r.S.map St.er := by rw [hss.2.2]; exact congrArg Fv.S hE
  have eo : ∀ g, (f.o g).map En.er = (r.o g).map En.er := fun g => congrFun (congrArg Fv.o hE) g
  have esp : f.sp = r.sp := congrArg Fv.sp hE
  have nB : lb.length = r.B.length := by simpa using congrArg List.length eB
  have nT : lt.length = r.T.length := by simpa using congrArg List.length eT
  have nS : ls.length = r.S.length := by simpa using congrArg List.length eS
  have nE : f.E.l.length = r.E.length := by rw [eE]
  have hbM := hbs.1.mono (hm2.le_trans (hm3.le_trans hm4))
  have hbV : ∀ v ∈ lb, v.M m4 := fun v hv => MSrc.mono (hbs.2.1 v hv) (hm2.le_trans (hm3.le_trans hm4))
  have heM := hes.mono (hm3.le_trans hm4)
  have htM := hts.1.mono hm4
  have htV : ∀ v ∈ lt, v.v.M m4 := fun v hv => MSrc.mono (hts.2.1 v hv) hm4
  have hsM := hss.1
  have hsV := hss.2.1
  replace hM := hM.mono hm04
  replace hR := hR.mono hm04
  simp only [Addr.add_mid, Nat.zero_add]
  refine ⟨_, fh C.noL, r.sb.1, r.B.length, r.sb.2, by simp, ?_⟩
  rw [if_pos (by simp [nB])]
  refine ⟨r.se.1, r.E.length, r.se.2, by simp, ?_⟩
  rw [if_pos (by simp [nE])]
  refine ⟨r.st.1, r.T.length, r.st.2, by simp, ?_⟩
  rw [if_pos (by simp [nT])]
  refine ⟨r.ss.1, r.S.length, r.ss.2, by simp, ?_⟩
  rw [if_pos (by simp [nS])]
  refine ⟨r.sp, by simp, fun w51 h51 => ?_⟩
  refine (c_Splits b f.an rfl).call (As := f.rs ++ r.as c) (C.noL.hid0 h51) trivial fun _ m5 w53 hk hm5 _ C => ⟨_, rfl, hk.size, fh (Ctx.noL C), ?_⟩
  have C : Ctx F m w w53 _ m5 (f.as b ++ r.as c) := C
  rw [if_neg (by simp [esp])]
  -- what has begun
  refine ⟨fun i w' L' => ∃ (j : Nat) (m' : Mem), i = j ∧ j ≤ lb.length ∧ m5.le m' ∧ Ctx F m w w' [] m' (f.as b ++ r.as c), fun i _ => ((lb.length : Int) - i).toNat, ⟨0, m5, rfl, by omega, Mem.le_refl _, C.noL⟩, ?_⟩
  clear C
  rintro i w58 L59 _ ⟨j, m6, rfl, hj, hm6, C⟩
  have hm46 := hm5.le_trans hm6
  by_cases hjl : j < lb.length
  · rw [if_pos (by simpa using hjl)]
    have hjr : j < r.B.length := by omega
    obtain ⟨a, ha, hc⟩ := (hbM.mono hm46).elem bg_len hjl
    have ha : qb.1 = some a := ha
    obtain ⟨a2, ha2, hc2, hnl2⟩ := own_elem bg_len (by decide) ((rr C).swap) hjr
    have hx : lb[j].er = r.B[j].er := by
      have := congrArg (fun z => z[j]?) eB
      simpa [hjl, hjr] using this
    have hvm := (hbV _ (List.getElem_mem hjl))
    have hrm := (hR.b _ (List.getElem_mem hjr))
    have fb : ∀ {w' m'}, m6.le m' → Ctx F m w w' [] m' (f.as b ++ r.as c) → FactsW (bgF (a.add (j * 14)) lb[j] (bgF (a2.add (j * 14)) r.B[j] [(⟨c, 0, none⟩, [slV r.sb r.B.length])])) w' [] := fun {w' m'} hle C => by
      obtain ⟨a3, ha3, hc3, hnl3⟩ := own_elem bg_len (by decide) ((rr C).swap) hjr
      rw [ha2] at ha3; injection ha3 with ha3; subst ha3
      exact bgFact (C.cells (fun k v e => hle _ _ (hc k v e))) (by simp) (bgFact hc3 (by simp) ((rr C).blkFact1 0 _ rfl (facts_nil _ _)))
    have f0 := fb (Mem.le_refl _) C
    have hvb : lb[j].ps.length * 48 ≤ 140737488355328 := by
      have : lb[j].er ∈ f.B.l.map Bg.er := by rw [← hbs.2.2]; exact List.mem_map.2 ⟨_, List.getElem_mem hjl, rfl⟩
      obtain ⟨v', h1, h2⟩ := List.mem_map.1 this
      have e : v'.ps = lb[j].ps := by have := congrArg (fun z : Bg => z.ps) h2; exact this
      rw [← e]; exact pB v' h1
    generalize lb[j] = v at hx hvm hvb fb hc f0
    generalize r.B[j] = u at hx hrm fb hc2 f0
    have hid : v.id = u.id := by have := congrArg (fun z : Bg => z.id) hx; exact this
    have hgr : v.gr = u.gr := by have := congrArg (fun z : Bg => z.gr) hx; exact this
    have hmo : v.mo = u.mo := by have := congrArg (fun z : Bg => z.mo) hx; exact this
    have hat : v.at_ = u.at_ := by have := congrArg (fun z : Bg => z.at_) hx; exact this
    have hps : v.ps = u.ps := by have := congrArg (fun z : Bg => z.ps) hx; exact this
    refine ⟨_, f0, by omega, by simpa using hjl, ?_⟩
    rw [ha, onSome_some]
    refine ⟨v.id.n, v.id.l, v.id.s, v.id.d, v.id.g0, v.id.i0, v.id.g1, v.id.i1, v.id.g2, v.id.i2, by simp [bgF], r.sb.1, r.B.length, r.sb.2, by simp [bgF], by omega, by omega, ?_⟩
    rw [ha2, onSome_some]
    refine ⟨u.id.n, u.id.l, u.id.s, u.id.d, u.id.g0, u.id.i0, u.id.g1, u.id.i1, u.id.g2, u.id.i2, by simp [bgF], fun w333 h333 => ?_⟩
    refine (C.hid0 h333).gives (c_RefID v.id) fun w335 k335 C => ⟨_, _, _, _, _, _, _, _, _, _, rfl, k335.size, fb (Mem.le_refl _) C, _, fb (Mem.le_refl _) C, fun _ h => h, ?_⟩
    rw [if_pos (by simp [hid])]
    refine ⟨by omega, by simpa using hjl, ?_⟩
    rw [onSome_some]
    refine ⟨v.gr, by simp [bgF], r.sb.1, r.B.length, r.sb.2, by simp [bgF], by omega, by omega, ?_⟩
    rw [ha2, onSome_some]
    refine ⟨u.gr, by simp [bgF], ?_⟩
    rw [if_pos (by simp [hgr])]
    refine ⟨by omega, by simpa using hjl, ?_⟩
    rw [onSome_some]
    refine ⟨v.mo, by simp [bgF], r.sb.1, r.B.length, r.sb.2, by simp [bgF], by omega, by omega, ?_⟩
    rw [ha2, onSome_some]
    refine ⟨u.mo, by simp [bgF], ?_⟩
    rw [if_pos (by simp [hmo])]
    refine ⟨by omega, by simpa using hjl, ?_⟩
    rw [onSome_some]
    refine ⟨v.at_, by simp [bgF], r.sb.1, r.B.length, r.sb.2, by simp [bgF], by omega, by omega, ?_⟩
    rw [ha2, onSome_some]
    refine ⟨u.at_, by simp [bgF], ?_⟩
    rw [if_pos (by simp [hat])]
    refine ⟨by omega, by simpa using hjl, ?_⟩
    rw [onSome_some]
    refine ⟨v.pq.1, v.ps.length, v.pq.2, by simp [bgF], r.sb.1, r.B.length, r.sb.2, by simp [bgF], by omega, by omega, ?_⟩
    rw [ha2, onSome_some]
    refine ⟨u.pq.1, u.ps.length, u.pq.2, by simp [bgF], ?_⟩
    refine (c_RefParts v.pq v.ps hvb).call (As := f.as b ++ r.as c) C (MSrc.mono hvm hm46) fun p m7 w393 hk hm7 hp C => ⟨_, _, _, rfl, hk.size, fb hm7 C, ?_⟩
    refine (c_r3Same p u.pq v.ps u.ps (by omega)).call (As := f.as b ++ r.as c) C ⟨hp, MSrc.mono hrm (hm46.le_trans hm7)⟩ fun _ m8 w398 hk hm8 _ C => ⟨_, rfl, hk.size, fb (hm7.le_trans hm8) C, ?_⟩
    rw [if_neg (by simp [hps])]
    have e : IntKind.wrap .i64 ((j : Int) + 1) = ((j + 1 : Nat) : Int) := by
      have h1 := hfw.b
      have h2 : lb.length = f.B.l.length := by simpa using congrArg List.length hbs.2.2
      rw [w_i64 (by omega) (by omega)]; omega
    rw [e]
    exact ⟨⟨j + 1, m8, rfl, hjl, hm6.le_trans (hm7.le_trans hm8), C⟩, Nat.le_of_eq (by show ((lb.length : Int) - ((j + 1 : Nat) : Int)).toNat + 1 = ((lb.length : Int) - (j : Int)).toNat; omega)⟩
  rw [if_neg (by simpa using hjl)]
  -- what has ended
  refine ⟨fun i w' L' => ∃ (j : Nat) (m' : Mem), i = j ∧ j ≤ f.E.l.length ∧ m6.le m' ∧ Ctx F m w w' [] m' (f.as b ++ r.as c), fun i _ => ((f.E.l.length : Int) - i).toNat, ⟨0, m6, rfl, by omega, Mem.le_refl _, C⟩, ?_⟩
  clear C hjl hj
  rintro i w63 L64 _ ⟨j, m7, rfl, hj, hm7, C⟩
  have hm47 := hm46.le_trans hm7
  by_cases hjl : j < f.E.l.length
  · rw [if_pos (by simpa using hjl)]
    have hjr : j < r.E.length := by omega
    obtain ⟨a, ha, hc⟩ := (heM.mono hm47).elem ed_len hjl
    have ha : qe.1 = some a := ha
    obtain ⟨a2, ha2, hc2, hnl2⟩ := own_elem ed_len (by decide) ((rr C).third) hjr
    have hx : f.E.l[j] = r.E[j] := by
      have := congrArg (fun z => z[j]?) eE
      simpa [hjl, hjr] using this
    have fb : ∀ {w' m'}, m7.le m' → Ctx F m w w' [] m' (f.as b ++ r.as c) → FactsW [(a.add (j * 17), f.E.l[j].row), (a2.add (j * 17), r.E[j].row), (⟨c, 1, none⟩, [slV r.se r.E.length])] w' [] := fun {w' m'} hle C =>
      C.memFact (fun k v e => hle _ _ (hc k v e)) (own_fact ed_len (by decide) ((rr C).third) hjr ha2 ((rr C).blkFact1 1 _ rfl (facts_nil _ _)))
    have f0 := fb (Mem.le_refl _) C
    generalize f.E.l[j] = v at hx fb hc f0
    generalize r.E[j] = u at hx fb hc2 f0
    subst hx
    refine ⟨_, f0, by omega, by simpa using hjl, ?_⟩
    rw [ha, onSome_some]
    refine ⟨v.id.n, v.id.l, v.id.s, v.id.d, v.id.g0, v.id.i0, v.id.g1, v.id.i1, v.id.g2, v.id.i2, v.gr, v.mo, v.bg, v.at_, v.co, v.rc, v.rv, by simp, r.se.1, r.E.length, r.se.2, by simp, by omega, by omega, ?_⟩
    rw [ha2, onSome_some]
    refine ⟨v.id.n, v.id.l, v.id.s, v.id.d, v.id.g0, v.id.i0, v.id.g1, v.id.i1, v.id.g2, v.id.i2, v.gr, v.mo, v.bg, v.at_, v.co, v.rc, v.rv, by simp, fun w287 h287 => ?_⟩
    refine (c_lEnd v).call (As := f.as b ++ r.as c) (C.hid0 h287) trivial fun _ m8 w289 hk hm8 _ C => ⟨_, _, _, _, _, _, _, _, _, _, _, _, _, _, _, _, _, rfl, hk.size, fb hm8 C, ?_⟩
    rw [if_neg (by simp; exact (ba_eq _ _).2 rfl)]
    have e : IntKind.wrap .i64 ((j : Int) + 1) = ((j + 1 : Nat) : Int) := by
      have h1 := hfw.e
      rw [w_i64 (by omega) (by omega)]; omega
    rw [e]
    exact ⟨⟨j + 1, m8, rfl, hjl, hm7.le_trans hm8, C⟩, Nat.le_of_eq (by show ((f.E.l.length : Int) - ((j + 1 : Nat) : Int)).toNat + 1 = ((f.E.l.length : Int) - (j : Int)).toNat; omega)⟩
  rw [if_neg (by simpa using hjl)]
  refine ⟨fun i w' L' => ∃ (j : Nat) (m' : Mem), i = j ∧ j ≤ lt.length ∧ m6.le m' ∧ Ctx F m w w' [] m' (f.as b ++ r.as c), fun i _ => ((lt.length : Int) - i).toNat, ⟨0, m7, rfl, by omega, hm7, C⟩, ?_⟩
  clear C hjl hj
  rintro i w68 L69 _ ⟨j, mt, rfl, hj, hmn, C⟩
  have hm4n := hm46.le_trans hmn
  by_cases hjl : j < lt.length
  · rw [if_pos (by simpa using hjl)]
    have hjr : j < r.T.length := by omega
    obtain ⟨a, ha, hc⟩ := (htM.mono hm4n).elem td_len hjl
    have ha : qt.1 = some a := ha
    obtain ⟨a2, ha2, hc2, hnl2⟩ := own_elem td_len (by decide) ((rr C).pm [3, 0, 1, 2, 4, 5, 6, 7, 8] rfl) hjr
    have hx : lt[j].er = r.T[j].er := by
      have := congrArg (fun z => z[j]?) eT
      simpa [hjl, hjr] using this
    have hvm := (htV _ (List.getElem_mem hjl))
    have hrm := (hR.t _ (List.getElem_mem hjr))
    have fb : ∀ {w' m'}, mt.le m' → Ctx F m w w' [] m' (f.as b ++ r.as c) → FactsW (tdF (a.add (j * 17)) lt[j] (tdF (a2.add (j * 17)) r.T[j] [(⟨c, 2, none⟩, [slV r.st r.T.length])])) w' [] := fun {w' m'} hle C => by
      obtain ⟨a3, ha3, hc3, hnl3⟩ := own_elem td_len (by decide) ((rr C).pm [3, 0, 1, 2, 4, 5, 6, 7, 8] rfl) hjr
      rw [ha2] at ha3; injection ha3 with ha3; subst ha3
      exact tdFact (C.cells (fun k v e => hle _ _ (hc k v e))) (by simp) (tdFact hc3 (by simp) ((rr C).blkFact1 2 _ rfl (facts_nil _ _)))
    have f0 := fb (Mem.le_refl _) C
    have hvb : lt[j].v.ps.length * 48 ≤ 140737488355328 := by
      have : lt[j].er ∈ f.T.l.map Td.er := by rw [← hts.2.2]; exact List.mem_map.2 ⟨_, List.getElem_mem hjl, rfl⟩
      obtain ⟨v', h1, h2⟩ := List.mem_map.1 this
      have e : v'.v.ps = lt[j].v.ps := by have := congrArg (fun z : Td => z.v.ps) h2; exact this
      rw [← e]; exact pT v' h1
    have hll : lt.length = f.T.l.length := by simpa using congrArg List.length hts.2.2
    generalize lt[j] = v at hx hvm hvb fb hc f0
    generalize r.T[j] = u at hx hrm fb hc2 f0
    have hvg : v.v.g = u.v.g := by have := congrArg (fun z : Td => z.v.g) hx; exact this
    have hvn : v.v.n = u.v.n := by have := congrArg (fun z : Td => z.v.n) hx; exact this
    have hvp : v.v.ps = u.v.ps := by have := congrArg (fun z : Td => z.v.ps) hx; exact this
    refine ⟨_, f0, by omega, by simpa using hjl, ?_⟩
    have hff : v.f = u.f := by have := congrArg (fun z : Td => z.f) hx; exact this
    have hid : v.id = u.id := by have := congrArg (fun z : Td => z.id) hx; exact this
    have hrc : v.rc = u.rc := by have := congrArg (fun z : Td => z.rc) hx; exact this
    have hrv : v.rv = u.rv := by have := congrArg (fun z : Td => z.rv) hx; exact this
    rw [ha, onSome_some]
    refine ⟨v.f.n, v.f.l, by simp [tdF], r.st.1, r.T.length, r.st.2, by simp [tdF], by omega, by omega, ?_⟩
    rw [ha2, onSome_some]
    refine ⟨u.f.n, u.f.l, by simp [tdF], fun w155 h155 => ?_⟩
    refine (C.hid0 h155).gives (c_RefProc v.f.n v.f.l) fun w157 k157 C => ⟨_, _, rfl, k157.size, fb (Mem.le_refl _) C, _, fb (Mem.le_refl _) C, fun _ h => h, ?_⟩
    rw [if_pos (by simp [hff])]
    refine ⟨by omega, by simpa using hjl, ?_⟩
    rw [onSome_some]
    refine ⟨v.id.n, v.id.l, v.id.s, v.id.d, v.id.g0, v.id.i0, v.id.g1, v.id.i1, v.id.g2, v.id.i2, by simp [tdF], r.st.1, r.T.length, r.st.2, by simp [tdF], by omega, by omega, ?_⟩
    rw [ha2, onSome_some]
    refine ⟨u.id.n, u.id.l, u.id.s, u.id.d, u.id.g0, u.id.i0, u.id.g1, u.id.i1, u.id.g2, u.id.i2, by simp [tdF], ?_⟩
    refine C.gives (c_RefID v.id) fun w192 k192 C => ⟨_, _, _, _, _, _, _, _, _, _, rfl, k192.size, fb (Mem.le_refl _) C, _, fb (Mem.le_refl _) C, fun _ h => h, ?_⟩
    rw [if_pos (by simp [hid])]
    refine ⟨by omega, by simpa using hjl, ?_⟩
    rw [onSome_some]
    refine ⟨v.rc, v.rv, by simp [tdF], r.st.1, r.T.length, r.st.2, by simp [tdF], by omega, by omega, ?_⟩
    rw [ha2, onSome_some]
    refine ⟨u.rc, u.rv, by simp [tdF], ?_⟩
    refine C.gives (c_RefRes v.rc v.rv) fun w217 k217 C => ⟨_, _, rfl, k217.size, fb (Mem.le_refl _) C, _, fb (Mem.le_refl _) C, fun _ h => h, ?_⟩
    rw [if_pos (by simp [hrc, hrv]; exact (ba_eq _ _).2 rfl)]
    refine ⟨by omega, by simpa using hjl, ?_⟩
    rw [onSome_some]
    refine ⟨v.v.g, v.v.n, v.v.q.1, v.v.ps.length, v.v.q.2, by simp [tdF], r.st.1, r.T.length, r.st.2, by simp [tdF], by omega, by omega, ?_⟩
    rw [ha2, onSome_some]
    refine ⟨u.v.g, u.v.n, u.v.q.1, u.v.ps.length, u.v.q.2, by simp [tdF], ?_⟩
    refine (c_Ref6 v.v (by omega)).call (As := f.as b ++ r.as c) C (MSrc.mono hvm hm4n) fun p m8 w238 hk hm8 hp C => ⟨_, _, _, _, _, rfl, hk.size, fb hm8 C, ?_⟩
    refine (c_r6Same (v.v.at_ p) u.v (show v.v.ps.length ≤ _ by omega) ⟨hvg, hvn, hvp⟩).call (As := f.as b ++ r.as c) C ⟨hp, MSrc.mono hrm (hm4n.le_trans hm8)⟩ fun _ m9 w245 hk hm9 _ C => ⟨_, rfl, hk.size, fb (hm8.le_trans hm9) C, ?_⟩
    rw [if_neg (by simp)]
    have e : IntKind.wrap .i64 ((j : Int) + 1) = ((j + 1 : Nat) : Int) := by
      have h1 := hfw.t
      rw [w_i64 (by omega) (by omega)]; omega
    rw [e]
    exact ⟨⟨j + 1, m9, rfl, hjl, hmn.le_trans (hm8.le_trans hm9), C⟩, Nat.le_of_eq (by show ((lt.length : Int) - ((j + 1 : Nat) : Int)).toNat + 1 = ((lt.length : Int) - (j : Int)).toNat; omega)⟩
  rw [if_neg (by simpa using hjl)]
  refine ⟨fun i w' L' => ∃ (j : Nat) (m' : Mem), i = j ∧ j ≤ ls.length ∧ m6.le m' ∧ Ctx F m w w' [] m' (f.as b ++ r.as c), fun i _ => ((ls.length : Int) - i).toNat, ⟨0, mt, rfl, by omega, hmn, C⟩, ?_⟩
  clear C hjl hj
  rintro i w68 L69 _ ⟨j, ms, rfl, hj, hmn, C⟩
  have hm4n := hm46.le_trans hmn
  by_cases hjl : j < ls.length
  · rw [if_pos (by simpa using hjl)]
    have hjr : j < r.S.length := by omega
    obtain ⟨a, ha, hc⟩ := (hsM.mono hm4n).elem st_len hjl
    have ha : qs.1 = some a := ha
    obtain ⟨a2, ha2, hc2, hnl2⟩ := own_elem st_len (by decide) ((rr C).pm [4, 0, 1, 2, 3, 5, 6, 7, 8] rfl) hjr
    have hx : ls[j].er = r.S[j].er := by
      have := congrArg (fun z => z[j]?) eS
      simpa [hjl, hjr] using this
    have hvm := (hsV _ (List.getElem_mem hjl))
    have hrm := (hR.s _ (List.getElem_mem hjr))
    have fb : ∀ {w' m'}, ms.le m' → Ctx F m w w' [] m' (f.as b ++ r.as c) → FactsW (stF (a.add (j * 5)) ls[j] (stF (a2.add (j * 5)) r.S[j] [(⟨c, 3, none⟩, [slV r.ss r.S.length])])) w' [] := fun {w' m'} hle C => by
      obtain ⟨a3, ha3, hc3, hnl3⟩ := own_elem st_len (by decide) ((rr C).pm [4, 0, 1, 2, 3, 5, 6, 7, 8] rfl) hjr
      rw [ha2] at ha3; injection ha3 with ha3; subst ha3
      exact stFact (C.cells (fun k v e => hle _ _ (hc k v e))) (by simp) (stFact hc3 (by simp) ((rr C).blkFact1 3 _ rfl (facts_nil _ _)))
    have f0 := fb (Mem.le_refl _) C
    have hvb : ls[j].v.ps.length * 48 ≤ 140737488355328 := by
      have : ls[j].er ∈ f.S.l.map St.er := by rw [← hss.2.2]; exact List.mem_map.2 ⟨_, List.getElem_mem hjl, rfl⟩
      obtain ⟨v', h1, h2⟩ := List.mem_map.1 this
      have e : v'.v.ps = ls[j].v.ps := by have := congrArg (fun z : St => z.v.ps) h2; exact this
      rw [← e]; exact pS v' h1
    have hll : ls.length = f.S.l.length := by simpa using congrArg List.length hss.2.2
    generalize ls[j] = v at hx hvm hvb fb hc f0
    generalize r.S[j] = u at hx hrm fb hc2 f0
    have hvg : v.v.g = u.v.g := by have := congrArg (fun z : St => z.v.g) hx; exact this
    have hvn : v.v.n = u.v.n := by have := congrArg (fun z : St => z.v.n) hx; exact this
    have hvp : v.v.ps = u.v.ps := by have := congrArg (fun z : St => z.v.ps) hx; exact this
    refine ⟨_, f0, by omega, by simpa using hjl, ?_⟩
    have hww : v.w = u.w := by have := congrArg (fun z : St => z.w) hx; exact this
    rw [ha, onSome_some]
    refine ⟨v.w.n, v.w.l, by simp [stF], r.ss.1, r.S.length, r.ss.2, by simp [stF], by omega, by omega, ?_⟩
    rw [ha2, onSome_some]
    refine ⟨u.w.n, u.w.l, by simp [stF], fun w113 h113 => ?_⟩
    refine (C.hid0 h113).gives (c_RefProc v.w.n v.w.l) fun w115 k115 C => ⟨_, _, rfl, k115.size, fb (Mem.le_refl _) C, _, fb (Mem.le_refl _) C, fun _ h => h, ?_⟩
    rw [if_pos (by simp [hww])]
    refine ⟨by omega, by simpa using hjl, ?_⟩
    rw [onSome_some]
    refine ⟨v.v.g, v.v.n, v.v.q.1, v.v.ps.length, v.v.q.2, by simp [stF], r.ss.1, r.S.length, r.ss.2, by simp [stF], by omega, by omega, ?_⟩
    rw [ha2, onSome_some]
    refine ⟨u.v.g, u.v.n, u.v.q.1, u.v.ps.length, u.v.q.2, by simp [stF], ?_⟩
    refine (c_Ref6 v.v (by omega)).call (As := f.as b ++ r.as c) C (MSrc.mono hvm hm4n) fun p m8 w238 hk hm8 hp C => ⟨_, _, _, _, _, rfl, hk.size, fb hm8 C, ?_⟩
    refine (c_r6Same (v.v.at_ p) u.v (show v.v.ps.length ≤ _ by omega) ⟨hvg, hvn, hvp⟩).call (As := f.as b ++ r.as c) C ⟨hp, MSrc.mono hrm (hm4n.le_trans hm8)⟩ fun _ m9 w245 hk hm9 _ C => ⟨_, rfl, hk.size, fb (hm8.le_trans hm9) C, ?_⟩
    rw [if_neg (by simp)]
    have e : IntKind.wrap .i64 ((j : Int) + 1) = ((j + 1 : Nat) : Int) := by
      have h1 := hfw.s
      rw [w_i64 (by omega) (by omega)]; omega
    rw [e]
    exact ⟨⟨j + 1, m9, rfl, hjl, hmn.le_trans (hm8.le_trans hm9), C⟩, Nat.le_of_eq (by show ((ls.length : Int) - ((j + 1 : Nat) : Int)).toNat + 1 = ((ls.length : Int) - (j : Int)).toNat; omega)⟩
  rw [if_neg (by simpa using hjl)]
  refine ⟨fun i w' L' => ∃ (j : Nat) (m' : Mem), i = j ∧ j ≤ 4 ∧ m6.le m' ∧ Ctx F m w w' [] m' (f.as b ++ r.as c), fun i _ => ((4 : Int) - i).toNat, ⟨0, ms, rfl, by omega, hmn, C⟩, ?_⟩
  clear C hjl hj
  rintro i w78 L79 _ ⟨j, mo, rfl, hj, hmo, C⟩
  have hm4o := hm46.le_trans hmo
  by_cases hj4 : j < 4
  rotate_left
  · rw [if_neg (by simp; omega)]
    exact (c_Order4 b f).call (As := r.as c) C trivial fun _ m8 w81 hk hm8 _ C => ⟨_, _, _, rfl, hk.size, Ctr.ret (m' := m8) () rfl trivial C⟩
  rw [if_pos (by simp; omega)]
  have fo : ∀ {w' m'}, Ctx F m w w' [] m' (f.as b ++ r.as c) → FactsW [(⟨c, 4 + j, none⟩, [slV (r.p j) (r.o j).length])] w' [] := fun C => (rr C).blkFact1 (4 + j) _ (ra_cell r j hj4) (facts_nil _ _)
  refine ⟨_, fo C, by omega, by omega, (r.p j).1, (r.o j).length, (r.p j).2, by simp, fun w89 h89 => ?_⟩
  rw [w_u8 (n := (j : Int)) (by omega) (by omega)]
  refine (c_Order b f.an j hj4 (hfo j)).call (As := f.rs ++ r.as c) (C.hid0 h89) (hM.mono hm4o).an fun io m8 w91 hk hm8 hio C => ?_
  obtain ⟨m9, hm9, hs9, C⟩ := Ctx.slShare (Ctx.swap C)
  have C : Ctx F m w w91 [] m9 (f.as b ++ r.as c) := C
  have hil : io.2.length = (f.o j).length := by simpa using congrArg List.length hio.1
  have hfj := hfo j
  refine ⟨_, _, _, rfl, hk.size, fo C, ?_⟩
  refine (c_Refs io.1 io.2 (by omega)).call (As := f.as b ++ r.as c) C ⟨hs9, fun e he => (hio.2 e he).mono hm9⟩ fun y m10 w96 hk hm10 hy C => ⟨_, _, _, rfl, hk.size, fo C, ?_⟩
  have hyl : y.2.length = io.2.length := by simpa using congrArg List.length hy.2
  obtain ⟨Bs, op, bk⟩ := ordP (F0 := F) (m0 := m) (w0 := w) b c f r j hj4
  refine (c_SameAll y.1 (r.p j) y.2 (r.o j) (by omega)).callL (op C) (fun F' hF hle => ⟨hy.1.mono hle, slLend hF, fun e he => ((hR.e j e he).mono (hm4o.le_trans (hm8.le_trans (hm9.le_trans hm10)))).mono hle⟩) fun _ w101 hk _ C => ⟨_, rfl, hk.size, ?_⟩
  rw [if_neg (by rw [hy.2, hio.1]; simp [eo j])]
  have e : IntKind.wrap .i64 ((j : Int) + 1) = ((j + 1 : Nat) : Int) := by rw [w_i64 (by omega) (by omega)]; omega
  rw [e]
  exact ⟨⟨j + 1, m10, rfl, hj4, hmo.le_trans (hm8.le_trans (hm9.le_trans hm10)), bk C⟩, Nat.le_of_eq (by show ((4 : Int) - ((j + 1 : Nat) : Int)).toNat + 1 = ((4 : Int) - (j : Int)).toNat; omega)⟩
end Go.Proofs
namespace Go.Proofs
open Go X RowKit
structure Kp (z : Fv) (j : Nat) : Prop where
  b : z.B.length ≤ j
  e : z.E.length ≤ j
  t : z.T.length ≤ j
  s : z.S.length ≤ j
  o : ∀ k, (z.o k).length ≤ j
  sp : 0 ≤ z.sp ∧ z.sp ≤ j
  pB : ∀ v ∈ z.B, v.ps.length * 48 ≤ 140737488355328
  pT : ∀ v ∈ z.T, v.v.ps.length * 48 ≤ 140737488355328
  pS : ∀ v ∈ z.S, v.v.ps.length * 48 ≤ 140737488355328
theorem Kp.up {z : Fv} {j : Nat} (h : Kp z j) : Kp z (j + 1) := ⟨by have := h.b; omega, by have := h.e; omega, by have := h.t; omega, by have := h.s; omega, fun k => by have := h.o k; omega, by have := h.sp; omega, h.pB, h.pT, h.pS⟩
theorem Kp.few {z : Fv} {j : Nat} (h : Kp z j) (hj : j ≤ 1000) : z.few := ⟨by have := h.b; omega, by have := h.e; omega, by have := h.t; omega, by have := h.s; omega, fun k => by have := h.o k; omega, by have := h.sp; omega⟩
theorem Kp.do {z : Fv} {j : Nat} (h : Kp z j) {a : Ac} (ha : a.okA) : Kp (doV z a).2 (j + 1) := by
  have u := h.up
  have ht := ha.lt.t
  have hs := ha.lt.s
  unfold doV
  split
  · unfold beginV; split
    · exact u
    · exact ⟨by have := h.b; simp; omega, u.e, u.t, u.s, u.o, u.sp, fun v hv => by
        rcases List.mem_append.1 hv with hv | hv
        · exact h.pB v hv
        · simp at hv; subst hv; exact ha.b, u.pT, u.pS⟩
  · split
    · unfold endV; split
      · exact u
      · exact ⟨u.b, by have := h.e; simp; omega, u.t, u.s, u.o, u.sp, u.pB, u.pT, u.pS⟩
    · split
      · unfold commitV; split
        · exact u
        · split
          · exact ⟨u.b, u.e, u.t, u.s, fun k => by
              show (updE z.o _ _ k).length ≤ _
              unfold updE; split
              · have := h.o a.g.toNat; simp; omega
              · exact u.o k, u.sp, u.pB, u.pT, u.pS⟩
          · split
            · split
              · exact u
              · exact ⟨u.b, u.e, u.t, u.s, u.o, by have := h.sp; show 0 ≤ z.sp + 1 ∧ z.sp + 1 ≤ _; omega, u.pB, u.pT, u.pS⟩
            · exact u
      · split
        · unfold tellV; split
          · exact u
          · exact ⟨u.b, u.e, by have := h.t; simp; omega, u.s, u.o, u.sp, u.pB, fun v hv => by
              rcases List.mem_append.1 hv with hv | hv
              · exact h.pT v hv
              · simp at hv; subst hv; show a.t.v.ps.length * 48 ≤ _; omega, u.pS⟩
        · split
          · unfold sitV; split
            · exact u
            · exact ⟨u.b, u.e, u.t, by have := h.s; simp; omega, u.o, u.sp, u.pB, u.pT, fun v hv => by
                rcases List.mem_append.1 hv with hv | hv
                · exact h.pS v hv
                · simp at hv; subst hv; show a.s.v.ps.length * 48 ≤ _; omega⟩
          · exact u
def fa0 : Fa := ⟨⟨none, (none, 0), []⟩, ⟨none, (none, 0), []⟩, ⟨none, (none, 0), []⟩, ⟨none, (none, 0), []⟩, fun _ => [], 0⟩
def ra0 : Ra := ⟨(none, 0), (none, 0), (none, 0), (none, 0), [], [], [], [], fun _ => (none, 0), fun _ => [], 0⟩
section
variable {F0 : List Nat} {m0 : Mem} {w0 w : World} {L : List Nat} {m : Mem} {b : Nat} {As : List Asn}
theorem fa0I (C : Ctx F0 m0 w0 w L m (anA b an0 :: As)) : Ctx F0 m0 w0 w L m (fa0.as b ++ As) := by
  have C1 : Ctx F0 m0 w0 w L m (rS fa0.S :: anA b an0 :: As) := Ctx.allI (As := anA b an0 :: As) (Ctx.slNil (q := none) (ty := 128) (sz := 5) C)
  have C2 : Ctx F0 m0 w0 w L m (rT fa0.T :: rS fa0.S :: anA b an0 :: As) := Ctx.allI (As := rS fa0.S :: anA b an0 :: As) (Ctx.slNil (q := none) (ty := 124) (sz := 17) C1)
  have C3 : Ctx F0 m0 w0 w L m (rE fa0.E :: rT fa0.T :: rS fa0.S :: anA b an0 :: As) := Ctx.allI (As := rT fa0.T :: rS fa0.S :: anA b an0 :: As) (Ctx.slNil (q := none) (ty := 116) (sz := 17) C2)
  have C4 : Ctx F0 m0 w0 w L m (rB fa0.B :: rE fa0.E :: rT fa0.T :: rS fa0.S :: anA b an0 :: As) := Ctx.allI (As := rE fa0.E :: rT fa0.T :: rS fa0.S :: anA b an0 :: As) (Ctx.slNil (q := none) (ty := 112) (sz := 14) C3)
  exact C4.perm (List.perm_middle (l₁ := [rB fa0.B, rE fa0.E, rT fa0.T, rS fa0.S]))
theorem ra0I (C : Ctx F0 m0 w0 w L m As) : Ctx F0 m0 w0 (w.alloc (.cells #[.slice none 0 0, .slice none 0 0, .slice none 0 0, .slice none 0 0, .slice none 0 0, .slice none 0 0, .slice none 0 0, .slice none 0 0, .int .i64 0] 68)) L m (ra0.as w.heap.size ++ As) := by
  have D := C.alloc ra0.cells 68
  have D1 := Ctx.slNil (q := none) (ty := 38) (sz := 14) (Ctx.slNil (q := none) (ty := 42) (sz := 17) (Ctx.slNil (q := none) (ty := 47) (sz := 17) (Ctx.slNil (q := none) (ty := 49) (sz := 5) (Ctx.slNil (q := none) (ty := 52) (sz := 18) (Ctx.slNil (q := none) (ty := 52) (sz := 18) (Ctx.slNil (q := none) (ty := 52) (sz := 18) (Ctx.slNil (q := none) (ty := 52) (sz := 18) D)))))))
  exact D1.perm (List.perm_middle (l₁ := [_, _, _, _, _, _, _, _]))
end
theorem l_AnnalPlays (w : World) (q : Sl) (l : List Ac) (hm : MSrc (memOf w) 74 (slV q l.length) l.length (l.flatMap Ac.row)) (hA : ∀ a ∈ l, AcM (memOf w) a) (hB : ∀ a ∈ l, a.b.ps.length * 48 ≤ 140737488355328 ∧ (-9223372036854775808 ≤ a.at_ ∧ a.at_ < 9223372036854775808) ∧ 0 ≤ a.g) :
    Calls Try.prog 4 #[slV q l.length] w (LawR w) := by
  refine x_AnnalPlays _ _ _ w _ ?_
  have C := lawStart w
  refine (c_Light q l).call (As := []) C ⟨hm, hA⟩ fun v m1 w2 hk hm1 hv C => ⟨_, rfl, hk.size, ?_⟩
  by_cases hg : ((!v) == false) = true
  rotate_left
  · rw [if_neg hg]
    exact c_knows.call (As := []) C trivial fun _ m2 w5 hk hm2 _ C => ⟨_, rfl, hk.size, rfl, C.at_⟩
  rw [if_pos hg]
  have hlt := hv (by simpa using hg)
  refine c_knows.call (As := []) C trivial fun _ m2 w8 hk hm2 _ C => ⟨_, rfl, hk.size, ?_⟩
  rw [if_neg (by decide)]
  refine c_New.call (As := []) C trivial fun b m3 w11 hk hm3 _ C => ⟨_, rfl, hk.size, ?_⟩
  have C0 := (fa0I (As := []) C).left
  have C1 := ra0I C0.noL
  have C2 : Ctx [] (memOf w) w _ [] m3 (fa0.as b ++ ra0.as w11.heap.size) := C1.perm List.perm_append_comm
  clear C C0 C1
  generalize w11.heap.size = c at *
  have hm03 := hm1.le_trans (hm2.le_trans hm3)
  have k0 : Kp fa0.er 0 := ⟨by simp [Fa.er, fa0], by simp [Fa.er, fa0], by simp [Fa.er, fa0], by simp [Fa.er, fa0], by simp [Fa.er, fa0], by simp [Fa.er, fa0], by simp [Fa.er, fa0], by simp [Fa.er, fa0], by simp [Fa.er, fa0]⟩
  have f0 : fa0.M m3 := ⟨by simp [fa0], by simp [fa0], by simp [fa0], by simp [fa0], fun _ => rfl, fun _ => rfl, fun _ => rfl, fun _ => rfl⟩
  have r0 : ra0.M m3 := ⟨by simp [ra0], by simp [ra0], by simp [ra0], by simp [ra0]⟩
  refine ⟨fun i w' L' => ∃ (j : Nat) (f : Fa) (r : Ra) (m' : Mem), i = j ∧ j ≤ l.length ∧ m3.le m' ∧ f.er = r.er ∧ f.M m' ∧ r.M m' ∧ Kp f.er j ∧ Ctx [] (memOf w) w w' [] m' (f.as b ++ r.as c), fun i _ => ((l.length : Int) - i).toNat, ⟨0, fa0, ra0, m3, rfl, by omega, Mem.le_refl _, rfl, f0, r0, k0, C2⟩, ?_⟩
  clear C2
  rintro i w16 L17 _ ⟨j, f, r, m4, rfl, hj, hm4, hE, hf, hr, hk, C⟩
  by_cases hjl : j < l.length
  rotate_left
  · rw [if_neg (by simpa using hjl)]
    exact ⟨rfl, C.at_⟩
  rw [if_pos (by simpa using hjl)]
  have hm04 := hm03.le_trans hm4
  obtain ⟨a0, ha0, hc⟩ := (hm.mono hm04).elem ac_len hjl
  have ha0 : q.1 = some a0 := ha0
  have hmem := List.getElem_mem hjl
  have ham := (hA _ hmem).mono hm04
  obtain ⟨b1, b2, b3⟩ := hB _ hmem
  have hok : Ac.okA l[j] := ⟨hlt.2 _ hmem, b1, b2, b3⟩
  have fx : ∀ {w' m' As}, m4.le m' → Ctx [] (memOf w) w w' [] m' As → FactsW [(a0.add (j * 74), l[j].row)] w' [] := fun hle C => C.memFact (fun k v e => hle _ _ (hc k v e)) (facts_nil _ _)
  have f0 := fx (Mem.le_refl _) C
  have hl80 := hlt.1
  generalize l[j] = a at hok ham fx f0
  refine ⟨_, f0, by omega, by simpa using hjl, ?_⟩
  rw [ha0, onSome_some]
  refine ⟨_, _, _, _, _, _, _, _, _, _, _, _, _, _, _, _, _, _, _, _, _, _, _, _, _, _, _, _, _, _, _, _, _, _, _, _, _, _, _, _, _, _, _, _, _, _, _, _, _, _, _, _, _, _, _, _, _, _, _, _, _, _, _, _, _, _, _, _, _, _, _, _, _, _, _, _, _, _, _, _, _, _, _, _, List.mem_singleton.2 (by rw [Int.toNat_natCast]), by omega, by simpa using hjl, ?_⟩
  rw [onSome_some]
  refine ⟨_, _, _, _, _, _, _, _, _, _, _, _, _, _, _, _, _, _, _, _, _, _, _, _, _, _, _, _, _, _, _, _, _, _, _, _, _, _, _, _, _, _, _, _, _, _, _, _, _, _, _, _, _, _, _, _, _, _, _, _, _, _, _, _, _, _, _, _, _, _, _, _, _, _, _, _, _, _, _, _, _, _, _, _, List.mem_singleton.2 (by rw [Int.toNat_natCast]), fun w189 h189 => ?_⟩
  refine (c_DoA b f a hok (hk.few (by omega))).call (As := r.as c) (C.hid0 h189) ⟨hf, ham⟩ fun f2 m5 w191 hk5 hm5 hf2 C => ⟨_, rfl, hk5.size, fx hm5 C, ?_⟩
  refine (c_Play c r a hok (by rw [← hE]; exact hk.few (by omega))).call (As := f2.as b) (C.perm List.perm_append_comm) ⟨hr.mono hm5, ham.mono hm5⟩ fun r2 m6 w194 hk6 hm6 hr2 C => ⟨_, rfl, hk6.size, fx (hm5.le_trans hm6) C, ?_⟩
  rw [if_pos (by rw [hE]; simp)]
  have hE2 : f2.er = r2.er := by rw [hf2.2, hr2.2, hE]
  have hk2 : Kp f2.er (j + 1) := by rw [hf2.2]; exact hk.do hok
  have pB : ∀ v ∈ f2.B.l, v.ps.length * 48 ≤ 140737488355328 := fun v hv => hk2.pB v.er (List.mem_map.2 ⟨v, hv, rfl⟩)
  have pT : ∀ v ∈ f2.T.l, v.v.ps.length * 48 ≤ 140737488355328 := fun v hv => hk2.pT v.er (List.mem_map.2 ⟨v, hv, rfl⟩)
  have pS : ∀ v ∈ f2.S.l, v.v.ps.length * 48 ≤ 140737488355328 := fun v hv => hk2.pS v.er (List.mem_map.2 ⟨v, hv, rfl⟩)
  refine call0 (c_same b c f2 r2 (hk2.few (by omega)) hE2 pB pT pS) (C.perm List.perm_append_comm) ⟨hf2.1.mono hm6, hr2.1⟩ fun _ m7 w197 hk7 hm7 _ C => ⟨_, rfl, hk7.size, fx (hm5.le_trans (hm6.le_trans hm7)) C, ?_⟩
  rw [if_neg (by decide)]
  have e : IntKind.wrap .i64 ((j : Int) + 1) = ((j + 1 : Nat) : Int) := by rw [w_i64 (by omega) (by omega)]; omega
  rw [e]
  exact ⟨⟨j + 1, f2, r2, m7, rfl, hjl, hm4.le_trans (hm5.le_trans (hm6.le_trans hm7)), hE2, hf2.1.mono (hm6.le_trans hm7), hr2.1.mono hm7, hk2, C.noL⟩, Nat.le_of_eq (by show ((l.length : Int) - ((j + 1 : Nat) : Int)).toNat + 1 = ((l.length : Int) - (j : Int)).toNat; omega)⟩
end Go.Proofs
