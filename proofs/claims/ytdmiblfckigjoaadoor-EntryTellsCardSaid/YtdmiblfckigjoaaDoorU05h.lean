import Derived.Test.YtdmiblfckigjoaaDoorU05g
set_option linter.unusedVariables false
set_option linter.unusedSimpArgs false
set_option maxRecDepth 10000
namespace Go.Proofs
open Go X RowKit
/-! ### lists of entries -/
theorem en_one (x : En) : ∀ u ∈ x.row, oneC u = true := by
  intro u h; simp only [En.row, List.mem_cons, List.not_mem_nil, or_false] at h
  rcases h with rfl | rfl | rfl | rfl | rfl | rfl | rfl | rfl | rfl | rfl | rfl | rfl | rfl | rfl | rfl | rfl | rfl | rfl <;> rfl
structure ElM (m : Mem) (q : Sl) (l : List En) : Prop where
  s : MSrc m 18 (slV q l.length) l.length (l.flatMap En.row)
  e : ∀ x ∈ l, EnM m x
theorem ElM.mono {m m' : Mem} {q : Sl} {l : List En} (h : ElM m q l) (hm : m.le m') : ElM m' q l := ⟨h.s.mono hm, fun x hx => (h.e x hx).mono hm⟩
theorem c_Owns (q : Sl) (l : List En) (hl : l.length ≤ 100000) : Ctr Tryd.prog 18 #[slV q l.length] (fun m => ElM m q l) [] (fun r : Sl × List En => slV r.1 r.2.length) (fun r m => ElM m r.1 r.2 ∧ r.2.map En.er = l.map En.er) (fun _ => []) := by
  refine Ctr.mk fun w F m C hp => x_Owns _ _ _ w _ ?_
  refine ⟨fun p k c i w' _ => ∃ (j : Nat) (m' : Mem) (t : List En), i = j ∧ k = t.length ∧ j = t.length ∧ j ≤ l.length ∧ m.le m' ∧ t.map En.er = (l.take j).map En.er ∧ (∀ x ∈ t, EnM m' x) ∧ Ctx F m w w' [] m' [slA (.slice p t.length c) t.length (t.flatMap En.row) 49 18], fun _ _ _ i _ => (l.length - i).toNat, ⟨0, m, [], rfl, rfl, rfl, by omega, Mem.le_refl _, rfl, by simp, C.slNil⟩, ?_⟩
  clear C
  rintro p k c i w7 L8 _ ⟨j, m', t, rfl, rfl, hjt, hj, hm, hte, htm, D⟩
  by_cases hjl : j < l.length
  · rw [if_pos (by simpa using hjl)]
    refine ⟨by omega, by simpa using hjl, ?_⟩
    obtain ⟨a, ha, hc⟩ := (hp.s.mono hm).elem en_len hjl
    have ha : q.1 = some a := ha
    rw [ha, onSome_some]
    have hej : EnM m' l[j] := (hp.e _ (List.getElem_mem hjl)).mono hm
    generalize hl0 : l[j] = e0 at hc hej
    refine ⟨_, _, _, _, _, _, _, _, _, _, _, _, _, _, _, _, _, _, _, _, _, _,  by rw [Int.toNat_natCast]; exact D.cells hc, ?_⟩
    refine (c_OwnE e0).call (As := [_]) D hej fun f m2 w16 hk hm2 hf D => ⟨_, _, _, _, _, _, _, _, _, _, _, _, _, _, _, _, _, _, _, _, _, _, rfl, hk.size, ?_⟩
    have D1 := (D.alloc f.row 49).swap
    have hcl : Cells _ ⟨w16.heap.size, 0, none⟩ f.row := (D.alloc f.row 49).blkCells (o := 0) fun k v e => by simpa using e
    obtain ⟨q2, c2, w25, hr, hkk, D2⟩ := D1.app2 (P := Tryd.prog) (bytes := 160) (t := 65) (t2 := 65) 65 (by kernel_rfl) (.some ⟨w16.heap.size, 0, none⟩ 1 1 f.row rfl hcl) (by unfold maxLen; omega) (by omega) (en_one _)
    have e : IntKind.wrap .i64 ((j : Int) + 1) = ((j + 1 : Nat) : Int) := by rw [w_i64 (by omega) (by omega)]; omega
    refine ⟨q2, t.length + 1, c2, w25, hr, hkk.size, ?_⟩
    rw [e]
    have e2 : (t ++ [f]).flatMap En.row = t.flatMap En.row ++ f.row := by rw [List.flatMap_append]; simp
    refine ⟨⟨j + 1, m2, t ++ [f], rfl, by simp, by simp [hjt], hjl, hm.le_trans hm2, ?_, ?_, ?_⟩, Nat.le_of_eq (by show ((l.length : Int) - ((j + 1 : Nat) : Int)).toNat + 1 = ((l.length : Int) - (j : Int)).toNat; omega)⟩
    · rw [List.take_succ_eq_append_getElem hjl, List.map_append, List.map_append, hte, hl0]; simp [hf.2]
    · intro x hx
      rcases List.mem_append.1 hx with hx | hx
      · exact (htm x hx).mono hm2
      · simp only [List.mem_singleton] at hx; subst hx; exact hf.1
    · rw [e2, List.length_append, List.length_singleton]
      exact Ctx.noL (D2.pk [0] [1] rfl)
  · rw [if_neg (by simpa using hjl)]
    have hj2 : j = l.length := by omega
    rw [hj2, List.take_length] at hte
    obtain ⟨m2, hm2, hs, D2⟩ := D.slShare
    exact Ctr.ret (m' := m2) (L := []) ((p, c), t) rfl ⟨⟨hs, fun x hx => (htm x hx).mono hm2⟩, hte⟩ D2.noL
theorem ers_len {l l' : List En} (h : l.map En.er = l'.map En.er) : l.length = l'.length := by simpa using congrArg List.length h
theorem c_EqualFuncE (q q' : Sl) (l l' : List En) (hb : l.length ≤ 100000) : Ctr Tryd.prog 54 #[slV q l.length, slV q' l'.length, .func (.func 12) #[] #[]] (fun m => ElM m q l ∧ ElM m q' l') [] (fun _ : Unit => .bool (decide (l.map En.er = l'.map En.er))) (fun _ _ => True) (fun _ => []) := by
  refine Ctr.mk fun w F m C hp => x_EqualFuncE _ _ _ _ _ _ w _ ?_
  obtain ⟨h1, h2⟩ := hp
  by_cases hl : l.length = l'.length
  rotate_left
  · rw [if_pos (by simp; omega)]
    exact Ctr.ret () (by rw [decide_eq_false (fun h => hl (ers_len h))]) trivial C
  rw [if_neg (by simp [hl])]
  refine ⟨fun i w' _ => ∃ (j : Nat) (m' : Mem), i = j ∧ j ≤ l.length ∧ m.le m' ∧ (l.take j).map En.er = (l'.take j).map En.er ∧ Ctx F m w w' [] m' [], fun i _ => (l.length - i).toNat, ⟨0, m, rfl, by omega, Mem.le_refl _, rfl, C⟩, ?_⟩
  clear C
  rintro i w4 L5 _ ⟨j, m', rfl, hj, hm, hjt, D⟩
  by_cases hjl : j < l.length
  · rw [if_pos (by simpa using hjl)]
    have hjl' : j < l'.length := by omega
    obtain ⟨a1, ha1, hc1⟩ := (h1.s.mono hm).elem en_len hjl
    obtain ⟨a2, ha2, hc2⟩ := (h2.s.mono hm).elem en_len hjl'
    have e1 : EnM m' l[j] := (h1.e _ (List.getElem_mem hjl)).mono hm
    have e2 : EnM m' l'[j] := (h2.e _ (List.getElem_mem hjl')).mono hm
    have er1 : (l.map En.er)[j]? = some l[j].er := by simp [hjl]
    have er2 : (l'.map En.er)[j]? = some l'[j].er := by simp [hjl']
    have ht1 : (l.take (j + 1)).map En.er = (l.take j).map En.er ++ [l[j].er] := by rw [List.take_succ_eq_append_getElem hjl, List.map_append]; rfl
    have ht2 : (l'.take (j + 1)).map En.er = (l'.take j).map En.er ++ [l'[j].er] := by rw [List.take_succ_eq_append_getElem hjl', List.map_append]; rfl
    generalize l[j] = x at hc1 e1 er1 ht1
    generalize l'[j] = y at hc2 e2 er2 ht2
    have ha1 : q.1 = some a1 := ha1
    have ha2 : q'.1 = some a2 := ha2
    refine ⟨by omega, by omega, ?_⟩
    rw [ha1, onSome_some]
    refine ⟨_, _, _, _, _, _, _, _, _, _, _, _, _, _, _, _, _, _, _, _, _, _,  by rw [Int.toNat_natCast]; exact D.cells hc1, by omega, by omega, ?_⟩
    rw [ha2, onSome_some]
    refine ⟨_, _, _, _, _, _, _, _, _, _, _, _, _, _, _, _, _, _, _, _, _, _,  by rw [Int.toNat_natCast]; exact D.cells hc2, fun w52 L53 h52 g52 => ?_⟩
    refine (c_eSame x y).call (As := []) (D.hidL h52 g52) ⟨e1, e2⟩ fun _ m2 w55 hk hm2 _ D => ⟨_, rfl, hk, ?_⟩
    by_cases he : x.er = y.er
    · rw [if_neg (by simp [he])]
      have e : IntKind.wrap .i64 ((j : Int) + 1) = ((j + 1 : Nat) : Int) := by rw [w_i64 (by omega) (by omega)]; omega
      rw [e]
      refine ⟨⟨j + 1, m2, rfl, hjl, hm.le_trans hm2, ?_, D.noL⟩, Nat.le_of_eq (by show ((l.length : Int) - ((j + 1 : Nat) : Int)).toNat + 1 = ((l.length : Int) - (j : Int)).toNat; omega)⟩
      rw [ht1, ht2, hjt, he]
    · rw [if_pos (by simp [he])]
      refine Ctr.ret () ?_ trivial D
      rw [decide_eq_false (fun h => he (by rw [h] at er1; exact Option.some.inj (er1.symm.trans er2)))]
  · rw [if_neg (by simpa using hjl)]
    have hj2 : j = l.length := by omega
    rw [hj2, List.take_length, hl, List.take_length] at hjt
    exact Ctr.ret () (by rw [decide_eq_true hjt]) trivial D
theorem c_eSameAll (q q' : Sl) (l l' : List En) (hb : l.length ≤ 100000) : Ctr Tryd.prog 17 #[slV q l.length, slV q' l'.length] (fun m => ElM m q l ∧ ElM m q' l') [] (fun _ : Unit => .bool (decide (l.map En.er = l'.map En.er))) (fun _ _ => True) (fun _ => []) := by
  refine Ctr.mk fun w F m C hp => x_eSameAll _ _ _ _ _ _ w _ ?_
  exact (c_EqualFuncE q q' l l' hb).call (As := []) C hp fun _ m1 w2 hk hm _ C => ⟨_, rfl, hk.size, Ctr.ret () rfl trivial C⟩
theorem c_rSameAll (q q' : Sl) (l l' : List En) (hb : l.length ≤ 100000) : Ctr Tryd.prog 19 #[slV q l.length, slV q' l'.length] (fun m => ElM m q l ∧ ElM m q' l') [] (fun _ : Unit => .bool (decide (l.map En.er = l'.map En.er))) (fun _ _ => True) (fun _ => []) := by
  refine Ctr.mk fun w F m C hp => x_rSameAll _ _ _ _ _ _ w _ ?_
  obtain ⟨h1, h2⟩ := hp
  by_cases hl : l.length = l'.length
  rotate_left
  · rw [if_pos (by simp; omega)]
    exact Ctr.ret () (by rw [decide_eq_false (fun h => hl (ers_len h))]) trivial C
  rw [if_neg (by simp [hl])]
  refine ⟨fun i w' _ => ∃ (j : Nat) (m' : Mem), i = j ∧ j ≤ l.length ∧ m.le m' ∧ (l.take j).map En.er = (l'.take j).map En.er ∧ Ctx F m w w' [] m' [], fun i _ => (l.length - i).toNat, ⟨0, m, rfl, by omega, Mem.le_refl _, rfl, C⟩, ?_⟩
  clear C
  rintro i w4 L5 _ ⟨j, m', rfl, hj, hm, hjt, D⟩
  by_cases hjl : j < l.length
  · rw [if_pos (by simpa using hjl)]
    have hjl' : j < l'.length := by omega
    obtain ⟨a1, ha1, hc1⟩ := (h1.s.mono hm).elem en_len hjl
    obtain ⟨a2, ha2, hc2⟩ := (h2.s.mono hm).elem en_len hjl'
    have e1 : EnM m' l[j] := (h1.e _ (List.getElem_mem hjl)).mono hm
    have e2 : EnM m' l'[j] := (h2.e _ (List.getElem_mem hjl')).mono hm
    have er1 : (l.map En.er)[j]? = some l[j].er := by simp [hjl]
    have er2 : (l'.map En.er)[j]? = some l'[j].er := by simp [hjl']
    have ht1 : (l.take (j + 1)).map En.er = (l.take j).map En.er ++ [l[j].er] := by rw [List.take_succ_eq_append_getElem hjl, List.map_append]; rfl
    have ht2 : (l'.take (j + 1)).map En.er = (l'.take j).map En.er ++ [l'[j].er] := by rw [List.take_succ_eq_append_getElem hjl', List.map_append]; rfl
    generalize l[j] = x at hc1 e1 er1 ht1
    generalize l'[j] = y at hc2 e2 er2 ht2
    have ha1 : q.1 = some a1 := ha1
    have ha2 : q'.1 = some a2 := ha2
    refine ⟨_, D.memFact hc1 (D.memFact hc2 (facts_nil _ _)), by omega, by omega, ?_⟩
    rw [ha1, onSome_some]
    refine ⟨_, _, _, _, _, _, _, _, _, _, _, _, _, _, _, _, _, _, _, _, _, _,  by rw [Int.toNat_natCast]; exact List.mem_cons_self, by omega, by omega, ?_⟩
    rw [ha2, onSome_some]
    refine ⟨_, _, _, _, _, _, _, _, _, _, _, _, _, _, _, _, _, _, _, _, _, _,  by rw [Int.toNat_natCast]; exact List.mem_cons_of_mem _ List.mem_cons_self, fun w52 h52 => ?_⟩
    refine (c_r5Same x y).call (As := []) (D.hid0 h52) ⟨e1, e2⟩ fun _ m2 w55 hk hm2 _ D => ⟨_, rfl, hk.size, ?_⟩
    by_cases he : x.er = y.er
    · rw [if_neg (by simp [he])]
      have e : IntKind.wrap .i64 ((j : Int) + 1) = ((j + 1 : Nat) : Int) := by rw [w_i64 (by omega) (by omega)]; omega
      rw [e]
      refine ⟨⟨j + 1, m2, rfl, hjl, hm.le_trans hm2, ?_, D.noL⟩, Nat.le_of_eq (by show ((l.length : Int) - ((j + 1 : Nat) : Int)).toNat + 1 = ((l.length : Int) - (j : Int)).toNat; omega)⟩
      rw [ht1, ht2, hjt, he]
    · rw [if_pos (by simp [he])]
      refine Ctr.ret () ?_ trivial D
      rw [decide_eq_false (fun h => he (by rw [h] at er1; exact Option.some.inj (er1.symm.trans er2)))]
  · rw [if_neg (by simpa using hjl)]
    have hj2 : j = l.length := by omega
    rw [hj2, List.take_length, hl, List.take_length] at hjt
    exact Ctr.ret () (by rw [decide_eq_true hjt]) trivial D
/-- EntryTells -/
theorem l_EntryTells (w : World) (hT : Tab w) (a b : En) (hA : EnM0 (memOf w) a) (hB : EnM0 (memOf w) b) (hia : EvIn a.er) (hib : EvIn b.er) : Calls Tryd.prog 5 #[.agg a.row.toArray, .agg b.row.toArray] w (LawR w) := by
  refine x_EntryTells _ _ _ _ _ _ _ _ _ _ _ _ _ _ _ _ _ _ _ _ _ _ _ _ _ _ _ _ _ _ _ _ _ _ _ _ _ _ _ _ _ _ _ _ w _ fun w1 L2 h1 g1 => ?_
  have two : ∀ x y : En, [x, y].flatMap En.row = x.row ++ y.row := fun x y => by simp
  have src : ∀ (m : Mem) (k : Nat) (x y : En), MSrc (m.plus k (x.row ++ y.row)) 18 (.slice (some ⟨k, 0, none⟩) 2 2) 2 ([x, y].flatMap En.row) := fun m k x y => by
    rw [two]
    exact MSrc.mk rfl (fun a ha => by injection ha with ha; subst ha; exact Mem.plus_cells _ _ _ _ _ fun j v hj => by rw [Nat.zero_add]; exact hj) (fun h => by cases h)
  have src1 : ∀ (m : Mem) (k : Nat) (x y : En), MSrc (m.plus k (x.row ++ y.row)) 18 (.slice (some ⟨k, 0, none⟩) 1 2) 1 ([x].flatMap En.row) := fun m k x y => by
    have : [x].flatMap En.row = x.row := by simp
    rw [this]
    exact MSrc.mk rfl (fun a ha => by injection ha with ha; subst ha; exact Mem.plus_cells _ _ _ _ _ fun j v hj => by rw [Nat.zero_add]; rw [List.getElem?_append_left (List.getElem?_eq_some_iff.1 hj).1]; exact hj) (fun h => by cases h)
  obtain ⟨C, hmm⟩ := ((lawStart w).hidL h1 g1).newShare (a.row ++ b.row) 36 (0, 0)
  refine (c_Light5 (some ⟨w1.heap.size, 0, none⟩, 2) [a, b]).call (As := []) C ⟨src _ _ _ _, fun e' he' => by
    rcases List.mem_cons.1 he' with h | h
    · rw [h]; exact hA.mono hmm
    · rw [List.mem_singleton.1 h]; exact hB.mono hmm⟩ fun bb m1 w4 hk hm1 hb C => ⟨bb, rfl, hk, ?_⟩
  cases bb with
  | false =>
    rw [if_pos (by rfl)]
    exact c_knows C hT fun w43 hk C => ⟨_, rfl, hk, rfl, Ctx.at_ C⟩
  | true =>
    rw [if_neg (by simp)]
    obtain ⟨-, hb⟩ := hb rfl
    obtain ⟨hpa, hwa⟩ := hb a (by simp)
    obtain ⟨hpb, hwb⟩ := hb b (by simp)
    have hA1 : EnM m1 a := ⟨(hA.p.mono hmm).mono hm1, (hA.w.mono hmm).mono hm1, by omega, by omega⟩
    have hB1 : EnM m1 b := ⟨(hB.p.mono hmm).mono hm1, (hB.w.mono hmm).mono hm1, by omega, by omega⟩
    obtain ⟨Cl, hml⟩ := C.newShare (a.row ++ b.row) 36 (0, 0)
    have hsl := src m1 w4.heap.size a b
    have hs1 := src1 m1 w4.heap.size a b
    generalize m1.plus w4.heap.size (a.row ++ b.row) = m2 at Cl hml hsl hs1
    obtain ⟨Cm, hmm2⟩ := Cl.newShare (b.row ++ a.row) 36 (0, 0)
    have hsm := src m2 (w4.alloc (.cells (a.row ++ b.row).toArray 36 (0, 0))).heap.size b a
    generalize hkm : (w4.alloc (.cells (a.row ++ b.row).toArray 36 (0, 0))).heap.size = km at Cm hmm2 hsm
    generalize m2.plus km (b.row ++ a.row) = m3 at Cm hmm2 hsm
    replace hsl := hsl.mono hmm2
    replace hs1 := hs1.mono hmm2
    have hA3 := (hA1.mono hml).mono hmm2
    have hB3 := (hB1.mono hml).mono hmm2
    have hLl : ElM m3 (some ⟨w4.heap.size, 0, none⟩, 2) [a, b] := ⟨hsl, fun x hx => by
      rcases List.mem_cons.1 hx with h | h
      · rw [h]; exact hA3
      · rw [List.mem_singleton.1 h]; exact hB3⟩
    have hLm : ElM m3 (some ⟨km, 0, none⟩, 2) [b, a] := ⟨hsm, fun x hx => by
      rcases List.mem_cons.1 hx with h | h
      · rw [h]; exact hB3
      · rw [List.mem_singleton.1 h]; exact hA3⟩
    have hL1 : ElM m3 (some ⟨w4.heap.size, 0, none⟩, 2) [a] := ⟨hs1, fun x hx => by rw [List.mem_singleton.1 hx]; exact hA3⟩
    refine ⟨[], facts_nil _ _, fun w7 L8 h7 g7 => ?_⟩
    refine (c_OwnE a).call (As := []) (Cm.hidL h7 g7) hA3 fun f m4 w10 hk hm4 hf C => ⟨_, _, _, _, _, _, _, _, _, _, _, _, _, _, _, _, _, _, _, _, _, _, rfl, hk, facts_nil _ _, [], facts_nil _ _, (fun _ h => h), ?_⟩
    have hfp : f.ps = a.ps := congrArg Ev.ps hf.2
    refine ctx_reads C hT (c_eShow f (by rw [hf.2]; exact hia) (by rw [hfp]; omega)) hf.1 fun w36 hk C => ⟨_, rfl, hk, facts_nil _ _, [], facts_nil _ _, (fun _ h => h), ?_⟩
    refine ctx_reads C hT (c_r5Show a hia (by omega)) (hA3.mono hm4) fun w41 hk C => ⟨_, rfl, hk, facts_nil _ _, [], facts_nil _ _, (fun _ h => h), ?_⟩
    rw [hf.2, if_pos (by simp)]
    refine (c_OwnE a).call (As := []) C (hA3.mono hm4) fun f1 m5 w46 hk hm5 hf1 C => ⟨_, _, _, _, _, _, _, _, _, _, _, _, _, _, _, _, _, _, _, _, _, _, rfl, hk, facts_nil _ _, ?_⟩
    refine (c_OwnE b).call (As := []) C ((hB3.mono hm4).mono hm5) fun f2 m6 w70 hk hm6 hf2 C => ⟨_, _, _, _, _, _, _, _, _, _, _, _, _, _, _, _, _, _, _, _, _, _, rfl, hk, facts_nil _ _, ?_⟩
    refine (c_eSame f1 f2).call (As := []) C ⟨hf1.1.mono hm6, hf2.1⟩ fun _ m7 w94 hk hm7 _ C => ⟨_, rfl, hk, facts_nil _ _, ?_⟩
    have hm37 : m3.le m7 := ((hm4.le_trans hm5).le_trans hm6).le_trans hm7
    refine (c_r5Same a b).call (As := []) C ⟨hA3.mono hm37, hB3.mono hm37⟩ fun _ m8 w97 hk hm8 _ C => ⟨_, rfl, hk, facts_nil _ _, ?_⟩
    rw [hf1.2, hf2.2, if_pos (by simp)]
    have hm38 := hm37.le_trans hm8
    refine (c_Owns (some ⟨w4.heap.size, 0, none⟩, 2) [a, b] (by show 2 ≤ 100000; decide)).call (As := []) C (hLl.mono hm38) fun r1 m9 w100 hk hm9 hr1 C => ⟨r1.1.1, _, r1.1.2, rfl, hk, facts_nil _ _, ?_⟩
    subst hkm
    refine (c_Owns (some ⟨_, 0, none⟩, 2) [b, a] (by show 2 ≤ 100000; decide)).call (As := []) C ((hLm.mono hm38).mono hm9) fun r2 m10 w105 hk hm10 hr2 C => ⟨r2.1.1, _, r2.1.2, rfl, hk, facts_nil _ _, ?_⟩
    refine (c_eSameAll r1.1 r2.1 r1.2 r2.2 (by rw [ers_len hr1.2]; show 2 ≤ 100000; decide)).call (As := []) C ⟨hr1.1.mono hm10, hr2.1⟩ fun _ m11 w110 hk hm11 _ C => ⟨_, rfl, hk, facts_nil _ _, ?_⟩
    have hm311 := ((hm38.le_trans hm9).le_trans hm10).le_trans hm11
    refine (c_rSameAll (some ⟨w4.heap.size, 0, none⟩, 2) (some ⟨_, 0, none⟩, 2) [a, b] [b, a] (by show 2 ≤ 100000; decide)).call (As := []) C ⟨hLl.mono hm311, hLm.mono hm311⟩ fun _ m12 w113 hk hm12 _ C => ⟨_, rfl, hk, facts_nil _ _, ?_⟩
    rw [hr1.2, hr2.2, if_pos (by simp)]
    refine ⟨by omega, by omega, ?_⟩
    have hm312 := hm311.le_trans hm12
    refine (c_Owns (some ⟨w4.heap.size, 0, none⟩, 2) [a, b] (by show 2 ≤ 100000; decide)).call (As := []) C (hLl.mono hm312) fun r3 m13 w116 hk hm13 hr3 C => ⟨r3.1.1, _, r3.1.2, rfl, hk, facts_nil _ _, ?_⟩
    rw [cutA_zero]
    refine (c_Owns (some ⟨w4.heap.size, 0, none⟩, 2) [a] (by show 1 ≤ 100000; decide)).call (As := []) C ((hL1.mono hm312).mono hm13) fun r4 m14 w121 hk hm14 hr4 C => ⟨r4.1.1, _, r4.1.2, rfl, hk, facts_nil _ _, ?_⟩
    refine (c_eSameAll r3.1 r4.1 r3.2 r4.2 (by rw [ers_len hr3.2]; show 2 ≤ 100000; decide)).call (As := []) C ⟨hr3.1.mono hm14, hr4.1⟩ fun _ m15 w126 hk hm15 _ C => ⟨_, rfl, hk, facts_nil _ _, ?_⟩
    rw [hr3.2, hr4.2, decide_eq_false (fun h => by simpa using congrArg List.length h), if_pos (by rfl)]
    exact c_knows C hT fun w129 hk C => ⟨_, rfl, hk, facts_nil _ _, rfl, Ctx.at_ C⟩
end Go.Proofs
