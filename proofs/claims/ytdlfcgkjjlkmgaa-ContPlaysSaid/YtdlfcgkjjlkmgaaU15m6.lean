import Derived.Test.YtdlfcgkjjlkmgaaU15m5
import Derived.Test.YtdlfcgkjjlkmgaaV15m2
set_option linter.unusedVariables false
set_option linter.unusedSimpArgs false
set_option maxRecDepth 10000
namespace Go.Proofs
open Go X RowKit Go.Sort
theorem CtM.mono {m m' : Mem} {x : Ct} (h : CtM m x) (hm : m.le m') : CtM m' x := ⟨h.1.mono hm, h.2⟩
theorem share_src {m : Mem} {b : Nat} {vs : List Value} {k : Nat} (hk : vs.length = 1 * k) : MSrc (m.plus b vs) k (.slice (some ⟨b, 0, none⟩) 1 1) 1 vs :=
  MSrc.mk hk (fun a ha => by injection ha with ha; subst ha; exact Mem.plus_cells _ _ _ _ _ fun j v hj => by rw [Nat.zero_add]; exact hj) (fun h => by cases h)
/-- the program's continuation of the document's -/
theorem c_OwnC (x : Ct) : Ctr Try.prog 12 #[x.V] (fun m => CtM m x) [] (fun q : Sl => ({ x with q := q } : Ct).V) (fun q m => CtM m { x with q := q }) (fun _ => []) := by
  refine Ctr.mk fun w F m C hp => x_OwnC _ _ _ _ _ _ _ _ _ _ _ _ _ _ _ _ _ _ _ _ _ _ _ _ w _ ?_
  have hw1 : ([⟨x.ok, x.ov, x.oh⟩] : List Wr).length * 48 ≤ 140737488355328 := by simp
  refine ⟨[], facts_nil _ _, ?_, ?_⟩
  · intro w0 L0 h0 g0
    replace C := C.hidL h0 g0
    refine C.gives (c_ID x.id.1) fun w1 k C => ⟨_, _, _, _, _, _, _, _, _, _, rfl, k, facts_nil _ _, [], facts_nil _ _, (fun _ h => nomatch h), ?_⟩
    refine ⟨?_, ?_⟩
    · refine C.gives (c_Part x.first) fun w2 k C => ⟨_, _, _, _, _, rfl, k, facts_nil _ _, [], facts_nil _ _, (fun _ h => nomatch h), ?_⟩
      refine ⟨?_, ?_⟩
      · refine (c_Parts x.q x.rest hp.2).call (As := []) C (hp.1.mono (Mem.le_refl _)) fun q6 m4 w3 hk hm5 hq7 C => ⟨q6.1, _, q6.2, rfl, hk, facts_nil _ _, [], facts_nil _ _, (fun _ h => nomatch h), ?_⟩
        refine ⟨?_, ?_⟩
        · refine C.gives (c_Res3 x.rc x.rv) fun w8 k C => ⟨_, _, rfl, k, facts_nil _ _, [], facts_nil _ _, (fun _ h => nomatch h), ?_⟩
          refine ⟨facts_nil _ _, [], facts_nil _ _, (fun _ h => nomatch h), ?_⟩
          have hA9 := (C.newShare [.string x.ok, .string x.ov, .bool x.oh] 40 (0, 0)).2
          replace C := (C.newShare [.string x.ok, .string x.ov, .bool x.oh] 40 (0, 0)).1
          refine (c_OwnW (some ⟨w8.heap.size, 0, none⟩, 1) [⟨x.ok, x.ov, x.oh⟩] hw1).call (As := []) C (share_src rfl) fun q13 m11 w10 hk hm12 hs14 C => ?_
          obtain ⟨a, ha, hc⟩ := hs14.elem (i := 0) wr_len (by simp)
          have ha : q13.1 = some a := ha
          have hc : MCells m11 (a.add 0) [.string x.ok, .string x.ov, .bool x.oh] := by simpa using hc
          refine ⟨q13.1, 1, q13.2, rfl, hk, facts_nil _ _, _, C.memFact hc (facts_nil _ _), (fun _ h => nomatch h), by decide, by decide, ?_⟩
          rw [ha, onSome_some]
          refine ⟨x.ok, x.ov, x.oh, List.mem_cons_self, fun w9 h9 => ?_⟩
          exact Ctr.ret q6 rfl ⟨hq7.mono (hA9.le_trans hm12), hp.2⟩ (C.hid0 h9)
        · refine ⟨facts_nil _ _, [], facts_nil _ _, (fun _ h => nomatch h), ?_⟩
          have hA15 := (C.newShare [.string x.ok, .string x.ov, .bool x.oh] 40 (0, 0)).2
          replace C := (C.newShare [.string x.ok, .string x.ov, .bool x.oh] 40 (0, 0)).1
          refine C.gives (c_Res3 x.rc x.rv) fun w16 k C => ⟨_, _, rfl, k, facts_nil _ _, [], facts_nil _ _, (fun _ h => nomatch h), ?_⟩
          refine (c_OwnW (some ⟨w3.heap.size, 0, none⟩, 1) [⟨x.ok, x.ov, x.oh⟩] hw1).call (As := []) C (share_src rfl) fun q20 m18 w17 hk hm19 hs21 C => ?_
          obtain ⟨a, ha, hc⟩ := hs21.elem (i := 0) wr_len (by simp)
          have ha : q20.1 = some a := ha
          have hc : MCells m18 (a.add 0) [.string x.ok, .string x.ov, .bool x.oh] := by simpa using hc
          refine ⟨q20.1, 1, q20.2, rfl, hk, facts_nil _ _, _, C.memFact hc (facts_nil _ _), (fun _ h => nomatch h), by decide, by decide, ?_⟩
          rw [ha, onSome_some]
          refine ⟨x.ok, x.ov, x.oh, List.mem_cons_self, fun w9 h9 => ?_⟩
          exact Ctr.ret q6 rfl ⟨hq7.mono (hA15.le_trans hm19), hp.2⟩ (C.hid0 h9)
      · refine ⟨facts_nil _ _, [], facts_nil _ _, (fun _ h => nomatch h), ?_⟩
        have hA22 := (C.newShare [.string x.ok, .string x.ov, .bool x.oh] 40 (0, 0)).2
        replace C := (C.newShare [.string x.ok, .string x.ov, .bool x.oh] 40 (0, 0)).1
        refine (c_Parts x.q x.rest hp.2).call (As := []) C (hp.1.mono ((Mem.le_refl _).le_trans hA22)) fun q26 m24 w23 hk hm25 hq27 C => ⟨q26.1, _, q26.2, rfl, hk, facts_nil _ _, [], facts_nil _ _, (fun _ h => nomatch h), ?_⟩
        refine C.gives (c_Res3 x.rc x.rv) fun w28 k C => ⟨_, _, rfl, k, facts_nil _ _, [], facts_nil _ _, (fun _ h => nomatch h), ?_⟩
        refine (c_OwnW (some ⟨w2.heap.size, 0, none⟩, 1) [⟨x.ok, x.ov, x.oh⟩] hw1).call (As := []) C ((share_src rfl).mono hm25) fun q32 m30 w29 hk hm31 hs33 C => ?_
        obtain ⟨a, ha, hc⟩ := hs33.elem (i := 0) wr_len (by simp)
        have ha : q32.1 = some a := ha
        have hc : MCells m30 (a.add 0) [.string x.ok, .string x.ov, .bool x.oh] := by simpa using hc
        refine ⟨q32.1, 1, q32.2, rfl, hk, facts_nil _ _, _, C.memFact hc (facts_nil _ _), (fun _ h => nomatch h), by decide, by decide, ?_⟩
        rw [ha, onSome_some]
        refine ⟨x.ok, x.ov, x.oh, List.mem_cons_self, fun w9 h9 => ?_⟩
        exact Ctr.ret q26 rfl ⟨hq27.mono hm31, hp.2⟩ (C.hid0 h9)
    · refine ⟨facts_nil _ _, [], facts_nil _ _, (fun _ h => nomatch h), ?_⟩
      have hA34 := (C.newShare [.string x.ok, .string x.ov, .bool x.oh] 40 (0, 0)).2
      replace C := (C.newShare [.string x.ok, .string x.ov, .bool x.oh] 40 (0, 0)).1
      refine C.gives (c_Part x.first) fun w35 k C => ⟨_, _, _, _, _, rfl, k, facts_nil _ _, [], facts_nil _ _, (fun _ h => nomatch h), ?_⟩
      refine (c_Parts x.q x.rest hp.2).call (As := []) C (hp.1.mono ((Mem.le_refl _).le_trans hA34)) fun q39 m37 w36 hk hm38 hq40 C => ⟨q39.1, _, q39.2, rfl, hk, facts_nil _ _, [], facts_nil _ _, (fun _ h => nomatch h), ?_⟩
      refine C.gives (c_Res3 x.rc x.rv) fun w41 k C => ⟨_, _, rfl, k, facts_nil _ _, [], facts_nil _ _, (fun _ h => nomatch h), ?_⟩
      refine (c_OwnW (some ⟨w1.heap.size, 0, none⟩, 1) [⟨x.ok, x.ov, x.oh⟩] hw1).call (As := []) C ((share_src rfl).mono hm38) fun q45 m43 w42 hk hm44 hs46 C => ?_
      obtain ⟨a, ha, hc⟩ := hs46.elem (i := 0) wr_len (by simp)
      have ha : q45.1 = some a := ha
      have hc : MCells m43 (a.add 0) [.string x.ok, .string x.ov, .bool x.oh] := by simpa using hc
      refine ⟨q45.1, 1, q45.2, rfl, hk, facts_nil _ _, _, C.memFact hc (facts_nil _ _), (fun _ h => nomatch h), by decide, by decide, ?_⟩
      rw [ha, onSome_some]
      refine ⟨x.ok, x.ov, x.oh, List.mem_cons_self, fun w9 h9 => ?_⟩
      exact Ctr.ret q39 rfl ⟨hq40.mono hm44, hp.2⟩ (C.hid0 h9)
  · intro w0 L0 h0 g0
    replace C := C.hidL h0 g0
    refine ⟨facts_nil _ _, [], facts_nil _ _, (fun _ h => nomatch h), ?_⟩
    have hA47 := (C.newShare [.string x.ok, .string x.ov, .bool x.oh] 40 (0, 0)).2
    replace C := (C.newShare [.string x.ok, .string x.ov, .bool x.oh] 40 (0, 0)).1
    refine C.gives (c_ID x.id.1) fun w48 k C => ⟨_, _, _, _, _, _, _, _, _, _, rfl, k, facts_nil _ _, [], facts_nil _ _, (fun _ h => nomatch h), ?_⟩
    refine C.gives (c_Part x.first) fun w49 k C => ⟨_, _, _, _, _, rfl, k, facts_nil _ _, [], facts_nil _ _, (fun _ h => nomatch h), ?_⟩
    refine (c_Parts x.q x.rest hp.2).call (As := []) C (hp.1.mono ((Mem.le_refl _).le_trans hA47)) fun q53 m51 w50 hk hm52 hq54 C => ⟨q53.1, _, q53.2, rfl, hk, facts_nil _ _, [], facts_nil _ _, (fun _ h => nomatch h), ?_⟩
    refine C.gives (c_Res3 x.rc x.rv) fun w55 k C => ⟨_, _, rfl, k, facts_nil _ _, [], facts_nil _ _, (fun _ h => nomatch h), ?_⟩
    refine (c_OwnW (some ⟨w0.heap.size, 0, none⟩, 1) [⟨x.ok, x.ov, x.oh⟩] hw1).call (As := []) C ((share_src rfl).mono hm52) fun q59 m57 w56 hk hm58 hs60 C => ?_
    obtain ⟨a, ha, hc⟩ := hs60.elem (i := 0) wr_len (by simp)
    have ha : q59.1 = some a := ha
    have hc : MCells m57 (a.add 0) [.string x.ok, .string x.ov, .bool x.oh] := by simpa using hc
    refine ⟨q59.1, 1, q59.2, rfl, hk, facts_nil _ _, _, C.memFact hc (facts_nil _ _), (fun _ h => nomatch h), by decide, by decide, ?_⟩
    rw [ha, onSome_some]
    refine ⟨x.ok, x.ov, x.oh, List.mem_cons_self, fun w9 h9 => ?_⟩
    exact Ctr.ret q53 rfl ⟨hq54.mono hm58, hp.2⟩ (C.hid0 h9)
/-- the document's continuation of the program's -/
theorem c_RefC (x : Ct) : Ctr Try.prog 11 #[x.V] (fun m => CtM m x) [] (fun q : Sl => ({ x with q := q } : Ct).V) (fun q m => CtM m { x with q := q }) (fun _ => []) := by
  refine Ctr.mk fun w F m C hp => x_RefC _ _ _ _ _ _ _ _ _ _ _ _ _ _ _ _ _ _ _ _ _ _ _ _ w _ ?_
  refine ⟨[], facts_nil _ _, fun w2 L3 h2 g2 => ?_⟩
  refine (C.hidL h2 g2).gives (c_RefID x.id.1) fun w5 k5 C => ⟨_, _, _, _, _, _, _, _, _, _, rfl, k5, facts_nil _ _, ?_⟩
  refine C.gives (c_RefPart x.first) fun w17 k17 C => ⟨_, _, _, _, _, rfl, k17, facts_nil _ _, ?_⟩
  refine (c_RefParts x.q x.rest hp.2).call (As := []) C hp.1 fun q m2 w24 hk hm hq C => ⟨q.1, _, q.2, rfl, hk, facts_nil _ _, ?_⟩
  refine C.gives (c_RefRes x.rc x.rv) fun w29 k29 C => ⟨_, _, rfl, k29, facts_nil _ _, fun w32 h32 => ?_⟩
  exact Ctr.ret q rfl ⟨hq, hp.2⟩ (C.hid0 h32)
end Go.Proofs
namespace Go.Proofs
open Go X RowKit Go.Sort
theorem ct_ext {a b : Ct} (h : a.id = b.id ∧ a.first = b.first ∧ a.q = b.q ∧ a.rest = b.rest ∧ a.rc = b.rc ∧ a.rv = b.rv ∧ a.ok = b.ok ∧ a.ov = b.ov ∧ a.oh = b.oh ∧ a.floor = b.floor) : a = b := by cases a; cases b; simp_all
instance : DecidableEq Ct := fun a b => decidable_of_iff (a.id = b.id ∧ a.first = b.first ∧ a.q = b.q ∧ a.rest = b.rest ∧ a.rc = b.rc ∧ a.rv = b.rv ∧ a.ok = b.ok ∧ a.ov = b.ov ∧ a.oh = b.oh ∧ a.floor = b.floor) ⟨ct_ext, fun h => by subst h; exact ⟨rfl, rfl, rfl, rfl, rfl, rfl, rfl, rfl, rfl, rfl⟩⟩
theorem er_eq (a b : Ct) : a.er = b.er ↔ (a.id = b.id ∧ a.first = b.first ∧ a.rest = b.rest ∧ a.rc = b.rc ∧ a.rv = b.rv ∧ a.ok = b.ok ∧ a.ov = b.ov ∧ a.oh = b.oh ∧ a.floor = b.floor) := by
  constructor
  · intro h
    unfold Ct.er at h
    injection h with h1 h2 h3 h4 h5 h6 h7 h8 h9 h10
    exact ⟨h1, h2, h4, h5, h6, h7, h8, h9, h10⟩
  · rintro ⟨h1, h2, h4, h5, h6, h7, h8, h9, h10⟩
    exact ct_ext ⟨h1, h2, rfl, h4, h5, h6, h7, h8, h9, h10⟩
theorem c_num (n : Int) : Gives Try.prog 14 #[.int .i64 n] (.int .i64 n) := fun w => x_gemotlaw15_num n w _ ⟨rfl, below_refl _ _⟩
theorem c_rNew (g : Int) (hg : g < 4) : Ctr Try.prog 7 #[.int .u8 g] noMem [] (fun b : Nat => .pointer (some ⟨b, 0, none⟩)) (fun _ _ => True) (fun b => [rtA b g []]) := by
  refine Ctr.mk fun w F m C _ => x_rNew _ w _ ?_
  rw [if_neg (by simp; omega)]
  have C1 : Ctx F m w _ [] m [tsA (none, 0) []] := Ctx.slNil (q := none) (ty := 42) (sz := 22) C
  have C2 := C1.alloc [.int .u8 g, .slice none 0 0] 80
  exact Ctr.ret (m' := m) (L := []) w.heap.size rfl trivial (rtI (none, 0) C2)
theorem c_New0 (g : Int) (hg : ¬ g < 4) : Gives Try.prog 6 #[.int .u8 g] (.pointer none) := fun w => x_cont_New _ w _ (by rw [if_pos (by simp; omega)]; exact ⟨rfl, below_refl _ _⟩)
theorem c_rNew0 (g : Int) (hg : ¬ g < 4) : Gives Try.prog 7 #[.int .u8 g] (.pointer none) := fun w => x_rNew _ w _ (by rw [if_pos (by simp; omega)]; exact ⟨rfl, below_refl _ _⟩)
theorem c_rSame (x y : Ct) : Ctr Try.prog 19 #[x.V, y.V] (fun m => CtM m x ∧ CtM m y) [] (fun _ : Unit => .bool (decide (x.er = y.er))) (fun _ _ => True) (fun _ => []) := by
  refine Ctr.mk fun w F m C hp => x_rSame _ _ _ _ _ _ _ _ _ _ _ _ _ _ _ _ _ _ _ _ _ _ _ _ _ _ _ _ _ _ _ _ _ _ _ _ _ _ _ _ _ _ _ _ _ _ _ _ w _ ?_
  obtain ⟨h1, h2⟩ := hp
  have hb : x.rest.length ≤ 140737488355328 := by have := h1.2; omega
  rw [i_eq, pt_eq]
  by_cases h : (decide (x.id.1 = y.id.1) && decide (x.first = y.first)) = true
  · rw [if_pos (by rw [h]; rfl)]
    intro w2 L3 h2' g2
    refine (c_r3Same x.q y.q x.rest y.rest hb).call (As := []) (C.hidL h2' g2) ⟨h1.1, h2.1⟩ fun _ m2 w5 hk hm _ C => ⟨_, rfl, hk, ?_⟩
    refine Ctr.ret () ?_ trivial C
    congr 2
    rw [Bool.eq_iff_iff, decide_eq_true_eq, er_eq]
    simp only [Bool.and_eq_true, decide_eq_true_eq, beq_iff_eq, ba_eq] at h ⊢
    constructor
    · rintro ⟨⟨⟨⟨_, a1⟩, a2, a3⟩, a4, a5, a6⟩, a7⟩
      exact ⟨Subtype.ext h.1, h.2, a1, a2, a3, a4, a5, a6, a7⟩
    · rintro ⟨_, _, a1, a2, a3, a4, a5, a6, a7⟩
      exact ⟨⟨⟨⟨trivial, a1⟩, a2, a3⟩, a4, a5, a6⟩, a7⟩
  · rw [if_neg (by simpa using h)]
    intro w1 hw1
    refine Ctr.ret () ?_ trivial (C.hid0 hw1)
    congr 2
    rw [decide_eq_false]
    · simp
    · intro he
      rw [er_eq] at he
      apply h
      rw [he.1, he.2.1]; simp
theorem c_rSameAll (p p' : Sl) (l l' : List Ct) (hb : l.length ≤ 1000000) : Ctr Try.prog 22 #[slV p l.length, slV p' l'.length] (fun m => (∀ x ∈ l, CtM m x) ∧ ∀ x ∈ l', CtM m x) [tsA p l, tsA p' l'] (fun _ : Unit => .bool (decide (l.map Ct.er = l'.map Ct.er))) (fun _ _ => True) (fun _ => [tsA p l, tsA p' l']) := by
  refine Ctr.mk fun w F m C hp => x_rSameAll _ _ _ _ _ _ w _ ?_
  obtain ⟨g1, g2⟩ := hp
  by_cases hl : l.length = l'.length
  rotate_left
  · rw [if_pos (by simp; omega)]
    exact Ctr.ret () (by rw [decide_eq_false (fun h => hl (by simpa using congrArg List.length h))]) trivial C
  rw [if_neg (by simp [hl])]
  refine ⟨fun i w' _ => ∃ (j : Nat) (m' : Mem), i = j ∧ j ≤ l.length ∧ m.le m' ∧ (l.take j).map Ct.er = (l'.take j).map Ct.er ∧ Ctx F m w w' [] m' [tsA p l, tsA p' l'], fun i _ => (l.length - i).toNat, ⟨0, m, rfl, by omega, Mem.le_refl _, rfl, C⟩, ?_⟩
  clear C
  rintro i w4 L5 _ ⟨j, m', rfl, hj, hm, hjt, D⟩
  by_cases hjl : j < l.length
  rotate_left
  · rw [if_neg (by simpa using hjl)]
    have hj2 : j = l.length := by omega
    rw [hj2, List.take_length, hl, List.take_length] at hjt
    exact Ctr.ret () (by rw [decide_eq_true hjt]) trivial D
  rw [if_pos (by simpa using hjl)]
  have hjl' : j < l'.length := by omega
  obtain ⟨a1, ha1, hc1, hb1⟩ := ts_elem D hjl
  obtain ⟨a2, ha2, hc2, hb2⟩ := ts_elem D.swap hjl'
  obtain ⟨p1, p2⟩ := p
  obtain ⟨q1, q2⟩ := p'
  simp only at ha1 ha2
  subst ha1; subst ha2
  have hfw : FactsW [(a1.add (j * 22), cC l[j]), (a2.add (j * 22), cC l'[j])] w4 [] :=
    D.slFact (j * 22) _ _ (fun k v h => flat_at cC_len _ _ hjl _ _ h) (D.swap.slFact (j * 22) _ _ (fun k v h => flat_at cC_len _ _ hjl' _ _ h) (facts_nil _ _))
  refine ⟨_, hfw, by omega, by simpa using hjl, ?_⟩
  rw [onSome_some]
  refine ⟨_, _, _, _, _, _, _, _, _, _, _, _, _, _, _, _, _, _, _, _, _, _, _, _, by rw [Int.toNat_natCast]; exact List.mem_cons_self, by omega, by omega, ?_⟩
  rw [onSome_some]
  refine ⟨_, _, _, _, _, _, _, _, _, _, _, _, _, _, _, _, _, _, _, _, _, _, _, _, by rw [Int.toNat_natCast]; exact List.mem_cons_of_mem _ List.mem_cons_self, fun w57 h57 => ?_⟩
  refine (c_rSame l[j] l'[j]).call (As := [tsA (some a1, p2) l, tsA (some a2, q2) l']) (D.hid0 h57) ⟨(g1 _ (List.getElem_mem hjl)).mono hm, (g2 _ (List.getElem_mem hjl')).mono hm⟩ fun _ m2 w59 hk hm2 _ D => ⟨_, rfl, hk.size, ?_⟩
  by_cases he : l[j].er = l'[j].er
  · rw [if_neg (by simp [he])]
    rw [w1n j (by omega)]
    refine ⟨⟨j + 1, m2, rfl, hjl, hm.le_trans hm2, ?_, D⟩, Nat.le_of_eq (by show ((l.length : Int) - ((j + 1 : Nat) : Int)).toNat + 1 = ((l.length : Int) - (j : Int)).toNat; omega)⟩
    rw [List.take_succ_eq_append_getElem hjl, List.take_succ_eq_append_getElem hjl', List.map_append, List.map_append, hjt]; simp [he]
  · rw [if_pos (by simp [he])]
    refine Ctr.ret () ?_ trivial D
    rw [decide_eq_false (fun h => he ?_)]
    have := congrArg (fun z => z[j]?) h
    simpa [hjl, hjl'] using this
theorem c_RefsC (p : Sl) (l : List Ct) (hb : l.length ≤ 100000) : Ctr Try.prog 23 #[slV p l.length] (fun m => ∀ x ∈ l, CtM m x) [slA (slV p l.length) l.length (l.flatMap cC) 62 22] (fun f : Sl × List Ct => slV f.1 f.2.length) (fun f m => f.2.map Ct.er = l.map Ct.er ∧ ∀ x ∈ f.2, CtM m x) (fun f => [tsA f.1 f.2]) := by
  refine Ctr.mk fun w F m C hp => x_RefsC _ _ _ w _ ?_
  refine ⟨fun q k c i w' _ => ∃ (j : Nat) (m' : Mem) (fs : List Ct), i = j ∧ k = fs.length ∧ j ≤ l.length ∧ m.le m' ∧ fs.map Ct.er = (l.take j).map Ct.er ∧ (∀ e ∈ fs, CtM m' e) ∧ Ctx F m w w' [] m' [tsA (q, c) fs, slA (slV p l.length) l.length (l.flatMap cC) 62 22], fun _ _ _ i _ => (l.length - i).toNat, ⟨0, m, [], rfl, rfl, by omega, Mem.le_refl _, rfl, by simp, C.slNil⟩, ?_⟩
  clear C
  rintro q k c i w7 L8 _ ⟨j, m', fs, rfl, rfl, hj, hm, her, hfs, D⟩
  by_cases hjl : j < l.length
  rotate_left
  · rw [if_neg (by simpa using hjl)]
    have hj2 : j = l.length := by omega
    rw [hj2, List.take_length] at her
    exact Ctr.ret (m' := m') (L := []) ((q, c), fs) rfl ⟨her, hfs⟩ (D.pk [0] [1] rfl)
  rw [if_pos (by simpa using hjl)]
  refine ⟨by omega, by simpa using hjl, ?_⟩
  have hfl : fs.length = j := by have := congrArg List.length her; simp at this; omega
  have hc := D.swap.slCells
  have hne : l.flatMap cC ≠ [] := fun e => by
    have := flat_len cC_len l
    rw [e] at this
    simp at this; omega
  cases hpp : p.1 with
  | none => exact absurd (hc.2 hpp) hne
  | some a =>
    obtain ⟨h1, h2⟩ := hc.1 a hpp
    rw [onSome_some]
    refine ⟨_, _, _, _, _, _, _, _, _, _, _, _, _, _, _, _, _, _, _, _, _, _, _, _, by rw [Int.toNat_natCast]; exact cells_elem cC_len h1 j hjl, ?_⟩
    refine (c_RefC l[j]).call (As := [tsA (q, c) fs, slA (slV p l.length) l.length (l.flatMap cC) 62 22]) D ((hp _ (List.getElem_mem hjl)).mono hm) fun q2 m2 w35 hk hm2 hq C => ⟨_, _, _, _, _, _, _, _, _, _, _, _, _, _, _, _, _, _, _, _, _, _, _, _, rfl, hk.size, ?_⟩
    replace C : Ctx F m w w35 [] m2 [tsA (q, c) fs, slA (slV p l.length) l.length (l.flatMap cC) 62 22] := C
    have D0 := (C.alloc (cC { l[j] with q := q2 }) 42).swap
    have hcl : Cells _ ⟨w35.heap.size, 0, none⟩ (cC { l[j] with q := q2 }) := (C.alloc (cC { l[j] with q := q2 }) 42).blkCells (o := 0) fun k v e => by simpa using e
    obtain ⟨q3, c3, w63, hr, hkk, D2⟩ := app_one { l[j] with q := q2 } (by omega) D0 hcl
    refine ⟨q3, _, c3, w63, hr, hkk.size, ?_⟩
    rw [w1n j (by omega)]
    refine ⟨⟨j + 1, m2, fs ++ [({ l[j] with q := q2 } : Ct)], rfl, rfl, hjl, hm.le_trans hm2, ?_, ?_, by exact D2.pk [0, 2] [1] rfl⟩, Nat.le_of_eq (by show ((l.length : Int) - ((j + 1 : Nat) : Int)).toNat + 1 = ((l.length : Int) - (j : Int)).toNat; omega)⟩
    · rw [List.take_succ_eq_append_getElem hjl, List.map_append, List.map_append, her]; simp [Ct.er]
    · intro y hy
      rcases List.mem_append.1 hy with hy | hy
      · exact (hfs y hy).mono hm2
      · simp only [List.mem_singleton] at hy; subst hy; exact hq
/-- what the law makes -/
def oneK (n : Nat) (hn : n < 100000) : Ct := ⟨⟨⟨1, 1, n + 1, 0, 0, 0, 0, 0, 0, 0⟩, by constructor <;> simp <;> omega⟩, ⟨0, 3, ByteArray.mk #[97], ByteArray.mk #[], 5⟩, (none, 0), [⟨1, 2, ByteArray.mk #[98], ByteArray.mk #[], 5⟩], 0, ByteArray.mk #[], ByteArray.mk #[], ByteArray.mk #[], false, 0⟩
end Go.Proofs
namespace Go.Proofs
open Go X RowKit Go.Sort
/-! ### the two tables agree -/
section
variable {α β : Type} [DecidableEq α]
theorem mem_fnd' {x : α} {v : β} : ∀ {l : List (α × β)}, (l.map (·.1)).Nodup → (x, v) ∈ l → fnd x l = some v
  | (k, u) :: l, hn, h => by
    simp only [List.map_cons, List.nodup_cons] at hn
    rw [fnd]
    rcases List.mem_cons.1 h with e | h2
    · injection e with e1 e2; subst e1; subst e2; rw [if_pos rfl]
    · by_cases hx : x = k
      · subst hx; exact absurd (List.mem_map.2 ⟨_, h2, rfl⟩) hn.1
      · rw [if_neg hx]; exact mem_fnd' hn.2 h2
theorem mdel_filter {x : α} : ∀ {l : List (α × β)}, (l.map (·.1)).Nodup → X.mdel x l = l.filter (fun y => !decide (y.1 = x))
  | [], _ => rfl
  | (k, u) :: l, hn => by
    simp only [List.map_cons, List.nodup_cons] at hn
    rw [X.mdel]
    by_cases hx : x = k
    · subst hx
      rw [if_pos rfl, List.filter_cons_of_neg (by simp)]
      symm
      refine List.filter_eq_self.2 fun y hy => ?_
      have : ¬ y.1 = x := fun e => hn.1 (e ▸ List.mem_map.2 ⟨y, hy, rfl⟩)
      simpa using this
    · rw [if_neg hx, List.filter_cons_of_pos (by simpa using Ne.symm hx), mdel_filter hn.2]
end
section
variable {g : Int} (hg : 0 ≤ g ∧ g < 256)
abbrev kd (x : Ct) : J := chJ x.id g hg
abbrev pr (x : Ct) : J × Ct := (chJ x.id g hg, x.er)
structure Rel (l : List (J × Ct)) (L : List Ct) : Prop where
  nd : (l.map Prod.fst).Nodup
  perm : (l.map erP).Perm (L.map (pr hg))
  srt : L.Pairwise fun x y => (kd hg x).1.num < (kd hg y).1.num
  ok : ∀ x ∈ L, (x.id.1.child g 0).2 = 0
variable {hg} {l : List (J × Ct)} {L : List Ct}
theorem rel0 : Rel hg [] [] := ⟨by simp, .nil, .nil, by simp⟩
theorem Rel.keys (h : Rel hg l L) : (l.map Prod.fst).Perm (L.map (kd hg)) := by
  have := h.perm.map Prod.fst
  simpa [erP, Function.comp_def] using this
theorem Rel.len (h : Rel hg l L) : l.length = L.length := by have := h.keys.length_eq; simpa using this
theorem Rel.ndL (h : Rel hg l L) : (L.map (kd hg)).Nodup := h.keys.nodup_iff.1 h.nd
theorem isCh_iff {d : J} {x : Ct} (hx : (x.id.1.child g 0).2 = 0) : isCh g d x = decide (kd hg x = d) := by
  rw [isCh, hx, Bool.eq_iff_iff]
  simp only [beq_self_eq_true, Bool.true_and, decide_eq_true_eq]
  exact ⟨fun h => Subtype.ext h, fun h => congrArg Subtype.val h⟩
theorem Rel.lt (h : Rel hg l L) (d : J) : L.findIdx (isCh g d) < L.length ↔ d ∈ L.map (kd hg) := by
  rw [List.findIdx_lt_length]
  constructor
  · rintro ⟨x, hx, hc⟩
    rw [isCh_iff (hg := hg) (h.ok x hx), decide_eq_true_eq] at hc
    exact List.mem_map.2 ⟨x, hx, hc⟩
  · intro hm
    obtain ⟨x, hx, hc⟩ := List.mem_map.1 hm
    exact ⟨x, hx, by rw [isCh_iff (hg := hg) (h.ok x hx), decide_eq_true_eq]; exact hc⟩
theorem Rel.some (h : Rel hg l L) (d : J) : (fnd d l).isSome = decide (L.findIdx (isCh g d) < L.length) := by
  have hm : d ∈ l.map Prod.fst ↔ L.findIdx (isCh g d) < L.length := by rw [h.lt]; exact h.keys.mem_iff
  cases hf : fnd d l with
  | none =>
    have := fnd_none.1 hf
    rw [decide_eq_false (fun e => this (hm.2 e))]; rfl
  | some u =>
    have : d ∈ l.map Prod.fst := List.mem_map.2 ⟨_, fnd_mem hf, rfl⟩
    rw [decide_eq_true (hm.1 this)]; rfl
theorem Rel.of (h : Rel hg l L) {x : Ct} (hx : x ∈ L) : (ctOf l (kd hg x)).er = x.er := by
  have : pr hg x ∈ l.map erP := h.perm.mem_iff.2 (List.mem_map.2 ⟨x, hx, rfl⟩)
  obtain ⟨y, hy, he⟩ := List.mem_map.1 this
  have he1 : y.1 = kd hg x := congrArg Prod.fst he
  have he2 : y.2.er = x.er := congrArg Prod.snd he
  have hf : fnd (kd hg x) l = Option.some y.2 := mem_fnd' h.nd (by rw [← he1]; exact hy)
  rw [ctOf, hf]; exact he2
theorem Rel.at_ (h : Rel hg l L) (d : J) (hk : L.findIdx (isCh g d) < L.length) : (ctOf l d).er = (L[L.findIdx (isCh g d)]).er := by
  have hp := List.findIdx_getElem (p := isCh g d) (xs := L) (w := hk)
  rw [isCh_iff (hg := hg) (h.ok _ (List.getElem_mem hk)), decide_eq_true_eq] at hp
  have := h.of (List.getElem_mem hk)
  rwa [hp] at this
theorem Rel.rows (h : Rel hg l L) : (rowsC l).map Ct.er = L.map Ct.er := by
  have hs : sortBy cmpJ (l.map Prod.fst) = L.map (kd hg) := by
    refine sorted_one totJ ((sortBy_perm _ _).trans h.keys) (sortBy_sorted _ swoJ _) ?_
    refine List.Pairwise.map _ (R := fun x y => (kd hg x).1.num < (kd hg y).1.num) (fun x y hxy => ?_) h.srt
    have : ¬ ltOf cmpJ (kd hg y) (kd hg x) = true := by rw [lt_num, decide_eq_true_eq]; omega
    simp only [ltOf, decide_eq_true_eq] at this
    omega
  rw [rowsC, hs, List.map_map, List.map_map]
  exact List.map_congr_left fun x hx => h.of hx
/-! taken out -/
theorem rtakeL_filter (h : Rel hg l L) (d : J) : rtakeL g L d = L.filter fun y => !decide (kd hg y = d) := by
  have key : ∀ (L : List Ct), (L.map (kd hg)).Nodup → (∀ x ∈ L, (x.id.1.child g 0).2 = 0) → rtakeL g L d = L.filter fun y => !decide (kd hg y = d) := by
    intro L
    induction L with
    | nil => intro _ _; rfl
    | cons x L ih =>
      intro hn ho
      simp only [List.map_cons, List.nodup_cons] at hn
      have hx := isCh_iff (hg := hg) (d := d) (ho x (by simp))
      have ih := ih hn.2 (fun y hy => ho y (by simp [hy]))
      by_cases hc : kd hg x = d
      · rw [decide_eq_true hc] at hx
        have e : rtakeL g (x :: L) d = L := by simp [rtakeL, List.findIdx_cons, hx]
        rw [e, List.filter_cons_of_neg (by simp [hc])]
        symm
        refine List.filter_eq_self.2 fun y hy => ?_
        have : ¬ kd hg y = d := fun e2 => hn.1 (by rw [hc, ← e2]; exact List.mem_map.2 ⟨y, hy, rfl⟩)
        simp [this]
      · rw [decide_eq_false hc] at hx
        rw [List.filter_cons_of_pos (by simp [hc]), ← ih]
        simp only [rtakeL, List.findIdx_cons, hx, cond_false, List.length_cons, Nat.add_lt_add_iff_right, List.take_succ_cons, List.drop_succ_cons]
        split <;> simp
  exact key L h.ndL h.ok
theorem Rel.take (h : Rel hg l L) (d : J) : (takeF l d).1.er = (rtakeF g L d).1.er ∧ (takeF l d).2 = (rtakeF g L d).2 ∧ Rel hg (takeL l d) (rtakeL g L d) := by
  have hs := h.some d
  by_cases hk : L.findIdx (isCh g d) < L.length
  · rw [decide_eq_true hk] at hs
    have e1 : takeF l d = (ctOf l d, true) := if_pos hs
    have e2 : rtakeF g L d = (L[L.findIdx (isCh g d)], true) := dif_pos hk
    have e3 : takeL l d = X.mdel d l := if_pos hs
    rw [e1, e2, e3]
    refine ⟨h.at_ d hk, rfl, ?_, ?_, ?_, ?_⟩
    · exact mdel_nodup h.nd
    · rw [mdel_filter h.nd, rtakeL_filter h d]
      have := h.perm.filter (fun y => !decide (y.1 = d))
      rw [List.filter_map, List.filter_map] at this
      exact this
    · rw [rtakeL_filter h d]; exact h.srt.filter _
    · rw [rtakeL_filter h d]; exact fun x hx => h.ok x (List.mem_filter.1 hx).1
  · rw [decide_eq_false hk] at hs
    have e1 : takeF l d = (Ct.zero, false) := if_neg (by rw [hs]; decide)
    have e2 : rtakeF g L d = (Ct.zero, false) := dif_neg hk
    have e3 : takeL l d = l := if_neg (by rw [hs]; decide)
    have e4 : rtakeL g L d = L := if_neg hk
    rw [e1, e2, e3, e4]
    exact ⟨rfl, rfl, h⟩
theorem ins_perm (d : J) (x : Ct) (L : List Ct) : (insC g L d x).Perm (x :: L) := by
  rw [insC, List.append_assoc]
  refine (List.perm_middle (l₁ := L.take (L.findIdx (notBef g d))) (l₂ := L.drop (L.findIdx (notBef g d))) (a := x)).trans ?_
  rw [List.take_append_drop]
theorem ins_cons (d : J) (x y : Ct) (L : List Ct) : insC g (y :: L) d x = if notBef g d y = true then x :: y :: L else y :: insC g L d x := by
  unfold insC
  rw [List.findIdx_cons]
  cases notBef g d y <;> simp
theorem ins_srt (x : Ct) : ∀ {L : List Ct}, (L.Pairwise fun x y => (kd hg x).1.num < (kd hg y).1.num) → kd hg x ∉ L.map (kd hg) → (insC g L (kd hg x) x).Pairwise fun x y => (kd hg x).1.num < (kd hg y).1.num
  | [], _, _ => by simp [insC]
  | y :: L, h, hd => by
    have hy := List.pairwise_cons.1 h
    simp only [List.map_cons, List.mem_cons, not_or] at hd
    rw [ins_cons]
    have hn : notBef g (kd hg x) y = !decide ((kd hg y).1.num < (kd hg x).1.num) := rfl
    by_cases hl : (kd hg y).1.num < (kd hg x).1.num
    · rw [if_neg (by rw [hn]; simp [hl])]
      refine List.pairwise_cons.2 ⟨fun z hz => ?_, ins_srt x hy.2 hd.2⟩
      rcases List.mem_cons.1 ((ins_perm _ _ _).mem_iff.1 hz) with e | hz
      · rw [e]; exact hl
      · exact hy.1 z hz
    · rw [if_pos (by rw [hn]; simp [hl])]
      have hne : (kd hg x).1.num ≠ (kd hg y).1.num := fun e => hd.1 (Subtype.ext (num_inj (kd hg x).2 (kd hg y).2 e))
      have hxy : (kd hg x).1.num < (kd hg y).1.num := by omega
      refine List.pairwise_cons.2 ⟨fun z hz => ?_, h⟩
      rcases List.mem_cons.1 hz with e | hz
      · rw [e]; exact hxy
      · have := hy.1 z hz; omega
theorem Rel.addE (h : Rel hg l L) (x : Ct) : addF g hg l x = raddF g hg L x := by
  unfold addF raddF
  split
  · split
    · rw [h.some, h.len]
      by_cases hk : L.findIdx (isCh g (chJ x.id g hg)) < L.length
      · rw [if_pos (by simpa using hk), if_pos hk]
      · rw [if_neg (by simpa using hk), if_neg hk]
    · rfl
  · rfl
theorem Rel.add (h : Rel hg l L) (x x2 : Ct) (hx : x2.er = x.er) (q : Sl) : Rel hg (addL g hg l x q) (raddL g hg L x2) := by
  have hid : x2.id = x.id := ((er_eq x2 x).1 hx).1
  have hright : x2.right = x.right := by
    have := (er_eq x2 x).1 hx
    unfold Ct.right; rw [this.1, this.2.1, this.2.2.1]
  have he : raddF g hg L x2 = raddF g hg L x := by unfold raddF; rw [hright, hid]
  unfold addL raddL
  rw [h.addE x, he]
  split
  rotate_left
  · exact h
  rename_i h0
  have hno : ¬ L.findIdx (isCh g (chJ x.id g hg)) < L.length ∧ (x.id.1.child g 0).2 = 0 := by
    unfold raddF at h0
    split at h0
    · split at h0
      · split at h0
        · cases h0
        · exact ⟨by assumption, by assumption⟩
      · exact absurd h0 (by assumption)
    · cases h0
  have hnk : kd hg x2 ∉ L.map (kd hg) := fun hm => hno.1 ((h.lt _).2 (by rw [← hid]; exact hm))
  have hkk : chJ x2.id g hg = chJ x.id g hg := by rw [hid]
  have hnl : chJ x.id g hg ∉ l.map (·.1) := fun hm => hnk (by show chJ x2.id g hg ∈ _; rw [hkk]; exact h.keys.mem_iff.1 hm)
  refine ⟨mput_nodup h.nd, ?_, ?_, ?_⟩
  · rw [mput_out hnl, hkk]
    have e1 : (l ++ [(chJ x.id g hg, { x with q := q })]).map erP = l.map erP ++ [pr hg x2] := by
      rw [List.map_append]
      have : erP (chJ x.id g hg, { x with q := q }) = pr hg x2 := by
        unfold erP pr; rw [hkk, hx]; rfl
      simp [this]
    rw [e1]
    refine (List.perm_append_comm.trans (h.perm.cons _)).trans ?_
    exact ((ins_perm (chJ x.id g hg) x2 L).map (pr hg)).symm
  · exact ins_srt x2 h.srt hnk
  · intro y hy
    rcases List.mem_cons.1 ((ins_perm _ _ _).mem_iff.1 hy) with e | hy
    · rw [e, hid]; exact hno.2
    · exact h.ok y hy
theorem Rel.clone {l' : List (J × Ct)} (h : Rel hg l L) (hp : (l'.map erP).Perm (l.map erP)) : Rel hg l' L := by
  refine ⟨?_, hp.trans h.perm, h.srt, h.ok⟩
  have : (l'.map Prod.fst).Perm (l.map Prod.fst) := by
    have := hp.map Prod.fst
    simpa [erP, Function.comp_def] using this
  exact this.nodup_iff.2 h.nd
end
end Go.Proofs
namespace Go.Proofs
open Go X RowKit Go.Sort
theorem mnI (c : Int) (k : Nat) (hc : 0 ≤ c) : 0 ≤ (if c < (k : Int) then c else (k : Int)) ∧ (if c < (k : Int) then c else (k : Int)) ≤ c ∧ (if c < (k : Int) then c else (k : Int)) ≤ k := by split <;> omega
theorem c_Light3 (q : Sl) (l : List Pt) : Ctr Try.prog 27 #[slV q l.length] (fun m => MSrc m 5 (slV q l.length) l.length (l.flatMap Pt.row)) [] (fun b : Bool => .bool b) (fun _ _ => True) (fun _ => []) := by
  refine Ctr.mk fun w F m C hp => x_Light3 _ _ _ w _ ?_
  refine ⟨fun n i w' _ => ∃ j : Nat, i = j ∧ j ≤ 300 ∧ -9000 ≤ n ∧ n ≤ 3000 ∧ Ctx F m w w' [] m [], fun _ i _ => (300 - i).toNat, ⟨0, rfl, by omega, by omega, by omega, C⟩, ?_⟩
  clear C
  rintro n i w5 L6 _ ⟨j, rfl, hj, h1, h2, D⟩
  by_cases hg : ((decide ((j : Int) < ((l.length : Nat) : Int)) && decide ((j : Int) < 300)) && decide (n ≥ 0)) = true
  · rw [if_pos hg]
    simp only [Bool.and_eq_true, decide_eq_true_eq] at hg
    have hjl : j < l.length := by omega
    obtain ⟨a, ha, hc⟩ := hp.elem pt_len hjl
    refine ⟨by omega, by omega, ?_⟩
    rw [ha, onSome_some]
    have hcc := D.cells hc
    rw [Int.toNat_natCast]
    refine ⟨_, hcc 2 _ rfl, by omega, by omega, ?_⟩
    rw [onSome_some]
    refine ⟨_, hcc 3 _ rfl, fun w11 h11 => ?_⟩
    obtain ⟨a1, a2, _⟩ := mnI 4000 l[j].key.size (by omega)
    obtain ⟨b1, b2, _⟩ := mnI 4000 l[j].val.size (by omega)
    generalize (if (4000 : Int) < ((l[j].key.size : Nat) : Int) then (4000 : Int) else ((l[j].key.size : Nat) : Int)) = x at a1 a2 ⊢
    generalize (if (4000 : Int) < ((l[j].val.size : Nat) : Int) then (4000 : Int) else ((l[j].val.size : Nat) : Int)) = y at b1 b2 ⊢
    rw [w_i64 (n := n - 3) (by omega) (by omega), w_i64 (n := n - 3 - x) (by omega) (by omega), w_i64 (n := n - 3 - x - y) (by omega) (by omega), w_i64 (n := (j : Int) + 1) (by omega) (by omega)]
    exact ⟨⟨j + 1, by omega, by omega, by omega, by omega, D.hid0 h11⟩, Nat.le_of_eq (by show (300 - ((j : Int) + 1)).toNat + 1 = (300 - (j : Int)).toNat; omega)⟩
  · rw [if_neg hg]
    exact Ctr.ret (decide (n ≥ 0)) rfl trivial D
theorem c_Light15 (x : Ct) : Ctr Try.prog 5 #[x.V] (fun m => CtM m x) [] (fun b : Bool => .bool b) (fun _ _ => True) (fun _ => []) := by
  refine Ctr.mk fun w F m C hp => x_Light15 _ _ _ _ _ _ _ _ _ _ _ _ _ _ _ _ _ _ _ _ _ _ _ _ w _ fun w1 L2 h1 g1 => ?_
  refine (c_Light3 x.q x.rest).call (As := []) (C.hidL h1 g1) hp.1 fun b m2 w4 hk hm _ C => ⟨b, rfl, hk, ?_⟩
  cases b with
  | true =>
    rw [if_pos (by rfl)]
    have hA := C.newShare x.first.row 35 (0, 0)
    refine (c_Light3 (some ⟨w4.heap.size, 0, none⟩, 1) [x.first]).call (As := []) hA.1 (by
      have : MSrc (m2.plus w4.heap.size x.first.row) 5 (.slice (some ⟨w4.heap.size, 0, none⟩) 1 1) 1 x.first.row := share_src rfl
      simpa using this) fun b m3 w7 hk hm3 _ C => ⟨b, rfl, hk, ?_⟩
    exact Ctr.ret _ rfl trivial C
  | false =>
    rw [if_neg (by decide)]
    exact Ctr.ret _ rfl trivial C
theorem wrap_one (n : Nat) (hn : n < 100000) : IntKind.wrap .u32 (IntKind.wrap .i64 ((n : Int) + 1)) = (n : Int) + 1 := by rw [w_i64 (by omega) (by omega), w_u32 (by omega) (by omega)]
theorem c_one (n : Nat) (hn : n < 100000) : Ctr Try.prog 9 #[.int .i64 n] noMem [] (fun q : Sl => ({ oneK n hn with q := q } : Ct).V) (fun q m => CtM m { oneK n hn with q := q }) (fun _ => []) := by
  refine Ctr.mk fun w F m C _ => x_one _ w _ fun w1 L2 h1 g1 w3 h3 => ?_
  rw [wrap_one n hn]
  have hA := (C.hidL h1 g1).newShare (Pt.row ⟨1, 2, ByteArray.mk #[98], ByteArray.mk #[], 5⟩) 57 (0, 0)
  refine Ctr.ret (m' := m.plus w1.heap.size (Pt.row ⟨1, 2, ByteArray.mk #[98], ByteArray.mk #[], 5⟩)) (L := []) (some ⟨w1.heap.size, 0, none⟩, 1) rfl ⟨?_, by simp [oneK]⟩ (hA.1.hid0 h3)
  exact share_src (m := m) (b := w1.heap.size) (vs := Pt.row ⟨1, 2, ByteArray.mk #[98], ByteArray.mk #[], 5⟩) rfl
theorem one_right (n : Nat) (hn : n < 100000) : (oneK n hn).right = true ∨ True := .inr trivial
theorem h0 : (0 : Int) ≤ 0 ∧ (0 : Int) < 256 := by omega
theorem one_add : addF 0 h0 [] (oneK 0 (by omega)) = (chJ (oneK 0 (by omega)).id 0 h0, 0) := by
  have h1 : (oneK 0 (by omega)).right = true := by decide +kernel
  have h2 : ((oneK 0 (by omega)).id.1.child 0 0).2 = 0 := by decide +kernel
  rw [addF, if_pos h1, if_pos h2]; rfl
theorem c_knows : Ctr Try.prog 4 #[] noMem [] (fun _ : Unit => .bool true) (fun _ _ => True) (fun _ => []) := by
  refine Ctr.mk fun w F m C _ => x_knows w _ ?_
  refine (c_New 0 (by omega)).call (As := []) C trivial fun y m1 w2 hk hm _ C => ⟨_, rfl, hk.size, ?_⟩
  obtain ⟨b, mr⟩ := y
  replace C : Ctx F m w w2 [] m1 [ctB b 0 mr, ctM mr []] := C
  refine (c_one 0 (by omega)).call (As := [ctB b 0 mr, ctM mr []]) C trivial fun q m2 w5 hk hm2 hq C => ⟨_, _, _, _, _, _, _, _, _, _, _, _, _, _, _, _, _, _, _, _, _, _, _, _, rfl, hk.size, ?_⟩
  replace C : Ctx F m w w5 [] m2 [ctB b 0 mr, ctM mr []] := C
  refine (c_Add b mr 0 h0 [] (by simp) { oneK 0 (by omega) with q := q }).call (As := []) C hq fun q2 m3 w31 hk hm3 hq2 C => ⟨_, _, _, _, _, _, _, _, _, _, _, rfl, hk.size, fun w43 L44 h43 g43 => ?_⟩
  have ha : addF 0 h0 [] { oneK 0 (by omega) with q := q } = (chJ (oneK 0 (by omega)).id 0 h0, 0) := one_add
  have hl : addL 0 h0 [] { oneK 0 (by omega) with q := q } q2 = [(chJ (oneK 0 (by omega)).id 0 h0, { oneK 0 (by omega) with q := q2 })] := by
    rw [addL, ha, if_pos rfl]; rfl
  rw [hl] at C
  have ha1 := congrArg Prod.fst ha
  have ha2 := congrArg Prod.snd ha
  simp only at ha1 ha2
  rw [ha2, ha1]
  have hf : fnd (chJ (oneK 0 (by omega)).id 0 h0) [(chJ (oneK 0 (by omega)).id 0 h0, ({ oneK 0 (by omega) with q := q2 } : Ct))] = some { oneK 0 (by omega) with q := q2 } := by rw [fnd, if_pos rfl]
  have ht : takeF [(chJ (oneK 0 (by omega)).id 0 h0, ({ oneK 0 (by omega) with q := q2 } : Ct))] (chJ (oneK 0 (by omega)).id 0 h0) = ({ oneK 0 (by omega) with q := q2 }, true) := by
    rw [takeF, if_pos (by rw [hf]; rfl), ctOf, hf]; rfl
  have htl : takeL [(chJ (oneK 0 (by omega)).id 0 h0, ({ oneK 0 (by omega) with q := q2 } : Ct))] (chJ (oneK 0 (by omega)).id 0 h0) = [] := by
    rw [takeL, if_pos (by rw [hf]; rfl), X.mdel, if_pos rfl]
  refine (c_Take b mr 0 _ (chJ (oneK 0 (by omega)).id 0 h0)).call (As := []) (C.hidL h43 g43) trivial fun _ m4 w46 hk hm4 _ C => ?_
  rw [htl] at C
  rw [ht]
  refine ⟨_, _, _, _, _, _, _, _, _, _, _, _, _, _, _, _, _, _, _, _, _, _, _, _, _, rfl, hk, fun w72 L73 h72 g72 => ?_⟩
  refine (c_Take b mr 0 _ (chJ (oneK 0 (by omega)).id 0 h0)).call (As := []) (C.hidL h72 g72) trivial fun _ m5 w75 hk hm5 _ C => ?_
  refine ⟨_, _, _, _, _, _, _, _, _, _, _, _, _, _, _, _, _, _, _, _, _, _, _, _, _, rfl, hk, fun w101 L102 h101 g101 => ?_⟩
  refine (C.hidL h101 g101).gives (c_num 0) fun w104 k104 C => ⟨_, rfl, k104, ?_⟩
  rw [if_pos (by rfl)]
  refine (c_Len b mr 0 []).call (As := []) C trivial fun _ m6 w107 hk hm6 _ C => ⟨_, rfl, hk, ?_⟩
  exact Ctr.ret () rfl trivial (C.pk [] [0, 1] rfl)
end Go.Proofs
namespace Go.Proofs
open Go X RowKit Go.Sort
/-- an act -/
structure Ac where (kd : Int) (c : Ct) (d : J)
def Ac.row (a : Ac) : List Value := [.int .i64 a.kd] ++ cC a.c ++ jR a.d
theorem ac_len (a : Ac) : a.row.length = 33 := rfl
theorem mput_mem {α β : Type} [DecidableEq α] {x : α} {v : β} : ∀ {l : List (α × β)} {y : α × β}, y ∈ X.mput x v l → y = (x, v) ∨ y ∈ l
  | [], y, h => by simp [X.mput] at h; exact .inl h
  | (k, u) :: l, y, h => by
    rw [X.mput] at h
    split at h
    · rename_i hx
      rcases List.mem_cons.1 h with h | h
      · left; rw [h, hx]
      · right; simp [h]
    · rcases List.mem_cons.1 h with h | h
      · right; simp [h]
      · rcases mput_mem h with h | h
        · exact .inl h
        · right; simp [h]
section
variable {g : Int} (hg : 0 ≤ g ∧ g < 256)
/-- the two tables agree, and can be read -/
structure Inv (m : Mem) (l : List (J × Ct)) (L : List Ct) (k : Nat) : Prop where
  rel : Rel hg l L
  ml : ∀ y ∈ l, CtM m y.2
  mL : ∀ x ∈ L, CtM m x
  len : L.length ≤ k
variable {hg}
theorem Inv.mono {m m' : Mem} {l : List (J × Ct)} {L : List Ct} {k k' : Nat} (h : Inv hg m l L k) (hm : m.le m') (hk : k ≤ k') : Inv hg m' l L k' := ⟨h.rel, fun y hy => (h.ml y hy).mono hm, fun x hx => (h.mL x hx).mono hm, Nat.le_trans h.len hk⟩
theorem Inv.add {m m' : Mem} {l : List (J × Ct)} {L : List Ct} {k : Nat} (h : Inv hg m l L k) (x x2 : Ct) (he : x2.er = x.er) (q : Sl) (hm : m.le m') (hq : CtM m' { x with q := q }) (hx2 : CtM m' x2) : Inv hg m' (addL g hg l x q) (raddL g hg L x2) (k + 1) := by
  have h1 := h.rel.add x x2 he q
  refine ⟨h1, fun y hy => ?_, fun y hy => ?_, ?_⟩
  · rw [addL] at hy
    split at hy
    · rcases mput_mem hy with e | hy
      · rw [e]; exact hq
      · exact (h.ml y hy).mono hm
    · exact (h.ml y hy).mono hm
  · rw [raddL] at hy
    split at hy
    · rcases List.mem_cons.1 ((ins_perm _ _ _).mem_iff.1 hy) with e | hy
      · rw [e]; exact hx2
      · exact (h.mL y hy).mono hm
    · exact (h.mL y hy).mono hm
  · rw [raddL]
    have := h.len
    split
    · rw [(ins_perm _ _ _).length_eq]; simp; omega
    · omega
theorem rtake_mem {L : List Ct} {d : J} {y : Ct} (hy : y ∈ rtakeL g L d) : y ∈ L := by
  rw [rtakeL] at hy
  split at hy
  · rcases List.mem_append.1 hy with hy | hy
    · exact List.mem_of_mem_take hy
    · exact List.mem_of_mem_drop hy
  · exact hy
theorem rtake_len (L : List Ct) (d : J) : (rtakeL g L d).length ≤ L.length := by
  rw [rtakeL]; split
  · simp; omega
  · exact Nat.le_refl _
theorem Inv.take {m m' : Mem} {l : List (J × Ct)} {L : List Ct} {k : Nat} (h : Inv hg m l L k) (d : J) (hm : m.le m') : Inv hg m' (takeL l d) (rtakeL g L d) (k + 1) := by
  refine ⟨(h.rel.take d).2.2, fun y hy => ?_, fun y hy => (h.mL y (rtake_mem hy)).mono hm, ?_⟩
  · rw [takeL] at hy
    split at hy
    · exact (h.ml y (mdel_sub.mem hy)).mono hm
    · exact (h.ml y hy).mono hm
  · have := h.len
    have := rtake_len (g := g) L d
    omega
theorem Inv.clone {m m' : Mem} {l l' : List (J × Ct)} {L : List Ct} {k : Nat} (h : Inv hg m l L k) (hm : m.le m') (hp : (l'.map erP).Perm (l.map erP)) (hl : ∀ y ∈ l', CtM m' y.2) : Inv hg m' l' L (k + 1) :=
  ⟨h.rel.clone hp, hl, fun x hx => (h.mL x hx).mono hm, Nat.le_trans h.len (by omega)⟩
theorem zero_M (m : Mem) : CtM m Ct.zero := ⟨.nil .., by simp [Ct.zero]⟩
theorem Inv.takeM {m : Mem} {l : List (J × Ct)} {L : List Ct} {k : Nat} (h : Inv hg m l L k) (d : J) : CtM m (takeF l d).1 ∧ CtM m (rtakeF g L d).1 := by
  constructor
  · rw [takeF]; split
    · rw [ctOf]
      cases hf : fnd d l with
      | none => exact zero_M m
      | some x => exact h.ml _ (fnd_mem hf)
    · exact zero_M m
  · rw [rtakeF]; split
    · exact h.mL _ (List.getElem_mem _)
    · exact zero_M m
theorem Inv.allM {m : Mem} {l : List (J × Ct)} {L : List Ct} {k : Nat} (h : Inv hg m l L k) : ∀ d ∈ l.map Prod.fst, CtM m (ctOf l d) := by
  intro d _
  rw [ctOf]
  cases hf : fnd d l with
  | none => exact zero_M m
  | some x => exact h.ml _ (fnd_mem hf)
end
theorem l_ContPlays (w : World) (g : Int) (hg : 0 ≤ g ∧ g < 256) (n : Int) (q : Option Addr) (c : Nat) (l : List Ac) (hs : MSrc (memOf w) 33 (.slice q l.length c) l.length (l.flatMap Ac.row)) (hM : ∀ a ∈ l, CtM (memOf w) a.c ∧ CtIn a.c) :
    Calls Try.prog 3 #[.int .u8 g, .int .i64 n, .slice q l.length c] w (LawR w) := by
  refine x_ContPlays _ _ _ _ _ w _ ?_
  have C := lawStart w
  by_cases h60 : l.length > 60
  · rw [if_neg (by simp; omega)]
    exact c_knows.call (As := []) C trivial fun _ m2 w2 hk _ _ C => ⟨_, rfl, hk.size, rfl, Ctx.at_ C⟩
  rw [if_pos (by simp; omega)]
  refine c_knows.call (As := []) C trivial fun _ m0 w5 hk hm0 _ C => ⟨_, rfl, hk.size, ?_⟩
  rw [if_neg (by decide)]
  -- are all short?
  refine ⟨fun i w' _ => ∃ (j : Nat) (m : Mem), i = j ∧ j ≤ l.length ∧ m0.le m ∧ Ctx [] (memOf w) w w' [] m [], fun i _ => (l.length - i).toNat, ⟨0, m0, rfl, by omega, Mem.le_refl _, C⟩, ?_⟩
  clear C
  rintro i w10 L11 _ ⟨j, m1, rfl, hj, hm1, C⟩
  by_cases hjl : j < l.length
  · rw [if_pos (by simpa using hjl)]
    refine ⟨by omega, by simpa using hjl, ?_⟩
    obtain ⟨pa, rfl, hcell⟩ := ((hs.mono hm0).mono hm1).elem ac_len hjl
    rw [onSome_some]
    have hcc : Cells w10 ((pa.add (j * 33)).add 1) (cC l[j].c) := cells_part (C.cells hcell) 1 _ (fun k v e => by
      have hlt := (List.getElem?_eq_some_iff.1 e).1
      have h22 : (cC l[j].c).length = 22 := rfl
      show ([Value.int .i64 l[j].kd] ++ cC l[j].c ++ jR l[j].d)[1 + k]? = _
      rw [List.append_assoc, List.getElem?_append_right (by simp), List.getElem?_append_left (by simp; omega)]
      simpa using e)
    refine ⟨_, _, _, _, _, _, _, _, _, _, _, _, _, _, _, _, _, _, _, _, _, _, _, _, by rw [Int.toNat_natCast]; exact hcc, ?_⟩
    refine (c_Light15 l[j].c).call (As := []) C (((hM _ (List.getElem_mem hjl)).1.mono hm0).mono hm1) fun b m2 w14 hk hm2 _ C => ⟨b, rfl, hk.size, ?_⟩
    cases b with
    | false => rw [if_pos (by rfl)]; exact ⟨rfl, Ctx.at_ C⟩
    | true =>
      rw [if_neg (by decide), w1n j (by omega)]
      exact ⟨⟨j + 1, m2, rfl, hjl, hm1.le_trans hm2, C⟩, Nat.le_of_eq (by show ((l.length : Int) - ((j + 1 : Nat) : Int)).toNat + 1 = ((l.length : Int) - (j : Int)).toNat; omega)⟩
  rw [if_neg (by simpa using hjl)]
  replace hs := (hs.mono hm0).mono hm1
  replace hM : ∀ a ∈ l, CtM m1 a.c ∧ CtIn a.c := fun a ha => ⟨((hM a ha).1.mono hm0).mono hm1, (hM a ha).2⟩
  clear hm0 hjl hj
  by_cases hg4 : g < 4
  rotate_left
  · refine C.gives (c_New0 g hg4) fun w13 k13 C => ⟨_, rfl, k13.size, ?_⟩
    refine C.gives (c_rNew0 g hg4) fun w16 k16 C => ⟨_, rfl, k16.size, ?_⟩
    rw [if_neg (by decide)]
    refine ⟨fun _ w' _ => Ctx [] (memOf w) w w' [] m1 [], fun _ _ => 0, C, ?_⟩
    clear C
    intro n20 w21 L22 _ C
    rw [if_neg (by simp)]
    refine ⟨fun _ _ w' _ => Ctx [] (memOf w) w w' [] m1 [], fun _ _ _ => 0, C, ?_⟩
    clear C
    intro q25 n26 w27 L28 _ C
    rw [if_neg (by simp)]
    exact ⟨rfl, Ctx.at_ C⟩
  refine (c_New g hg4).call (As := []) C trivial fun y m2 w13 hk hm2 _ C => ⟨_, rfl, hk.size, ?_⟩
  obtain ⟨b, mr⟩ := y
  replace C : Ctx [] (memOf w) w w13 [] m2 [ctB b g mr, ctM mr []] := C
  refine (c_rNew g hg4).call (As := [ctB b g mr, ctM mr []]) C trivial fun br m3 w16 hk hm3 _ C => ⟨_, rfl, hk.size, ?_⟩
  replace C : Ctx [] (memOf w) w w16 [] m3 [rtA br g [], ctB b g mr, ctM mr []] := C
  rw [if_neg (by simp)]
  replace hs := (hs.mono hm2).mono hm3
  replace hM : ∀ a ∈ l, CtM m3 a.c ∧ CtIn a.c := fun a ha => ⟨((hM a ha).1.mono hm2).mono hm3, (hM a ha).2⟩
  clear hm1 hm2 hk
  have hn1 : -65 ≤ n.tmod 66 ∧ n.tmod 66 ≤ 65 := by
    have h1 := Int.tmod_lt_of_pos n (by decide : (0 : Int) < 66)
    have h2 := Int.tmod_lt_of_pos (-n) (by decide : (0 : Int) < 66)
    rw [Int.neg_tmod] at h2
    omega
  rw [w_i64 (by omega) (by omega)]
  have hn2 : 0 ≤ (n.tmod 66 + 66).tmod 66 ∧ (n.tmod 66 + 66).tmod 66 ≤ 65 := by
    have h1 := Int.tmod_lt_of_pos (n.tmod 66 + 66) (by decide : (0 : Int) < 66)
    have h2 := Int.tmod_nonneg (a := n.tmod 66 + 66) 66 (by omega)
    omega
  generalize (n.tmod 66 + 66).tmod 66 = N at hn2 ⊢
  -- those that are in at first
  refine ⟨fun i w' _ => ∃ (j : Nat) (lt : List (J × Ct)) (L : List Ct) (m : Mem), i = j ∧ (j : Int) ≤ N ∧ Inv hg m lt L j ∧ m3.le m ∧ Ctx [] (memOf w) w w' [] m [rtA br g L, ctB b g mr, ctM mr lt], fun i _ => (N - i).toNat,
    ⟨0, [], [], m3, rfl, by omega, ⟨rel0, by simp, by simp, by simp⟩, Mem.le_refl _, C⟩, ?_⟩
  clear C
  rintro i w21 L22 _ ⟨j, lt, L, m, rfl, hj, hI, hm, C⟩
  by_cases hjN : (j : Int) < N
  · rw [if_pos (by simpa using hjN)]
    have e100 : IntKind.wrap .i64 (100 + (j : Int)) = ((100 + j : Nat) : Int) := by rw [w_i64 (by omega) (by omega)]; omega
    rw [e100]
    have hll : L.length ≤ 100000 := by have := hI.len; omega
    refine (c_one (100 + j) (by omega)).call (As := [rtA br g L, ctB b g mr, ctM mr lt]) C trivial fun q1 m4 wa hk hm4 hq1 C => ⟨_, _, _, _, _, _, _, _, _, _, _, _, _, _, _, _, _, _, _, _, _, _, _, _, rfl, hk.size, ?_⟩
    replace C : Ctx [] (memOf w) w wa [] m4 [rtA br g L, ctB b g mr, ctM mr lt] := C
    refine (c_Add b mr g hg lt (by rw [hI.rel.len]; exact hll) { oneK (100 + j) (by omega) with q := q1 }).call (As := [rtA br g L]) (C.pm [1, 2, 0] rfl) hq1 fun q2 m5 wb hk hm5 hq2 C => ⟨_, _, _, _, _, _, _, _, _, _, _, rfl, hk.size, ?_⟩
    refine (c_one (100 + j) (by omega)).call (As := [ctB b g mr, ctM mr (addL g hg lt { oneK (100 + j) (by omega) with q := q1 } q2), rtA br g L]) C trivial fun q3 m6 wc hk hm6 hq3 C => ⟨_, _, _, _, _, _, _, _, _, _, _, _, _, _, _, _, _, _, _, _, _, _, _, _, rfl, hk.size, ?_⟩
    refine (c_RefC { oneK (100 + j) (by omega) with q := q3 }).call (As := [ctB b g mr, ctM mr (addL g hg lt { oneK (100 + j) (by omega) with q := q1 } q2), rtA br g L]) C hq3 fun q4 m7 wd hk hm7 hq4 C => ⟨_, _, _, _, _, _, _, _, _, _, _, _, _, _, _, _, _, _, _, _, _, _, _, _, rfl, hk.size, ?_⟩
    replace C : Ctx [] (memOf w) w wd [] m7 [ctB b g mr, ctM mr (addL g hg lt { oneK (100 + j) (by omega) with q := q1 } q2), rtA br g L] := C
    refine (c_rAdd br g hg L hll { oneK (100 + j) (by omega) with q := q4 } ⟨by simp [oneK], by simp [oneK]⟩).call (As := [ctB b g mr, ctM mr (addL g hg lt { oneK (100 + j) (by omega) with q := q1 } q2)]) (C.pm [2, 0, 1] rfl) hq4 fun _ m8 we hk hm8 _ C => ⟨_, _, _, _, _, _, _, _, _, _, _, rfl, hk.size, ?_⟩
    rw [w1n j (by omega)]
    have hm48 := ((hm4.le_trans hm5).le_trans hm6).le_trans (hm7.le_trans hm8)
    refine ⟨⟨j + 1, _, _, m8, rfl, by omega, hI.add { oneK (100 + j) (by omega) with q := q1 } { oneK (100 + j) (by omega) with q := q4 } rfl q2 hm48 (hq2.mono ((hm6.le_trans hm7).le_trans hm8)) (hq4.mono hm8), hm.le_trans hm48, C⟩, Nat.le_of_eq (by show (N - ((j + 1 : Nat) : Int)).toNat + 1 = (N - (j : Int)).toNat; omega)⟩
  rw [if_neg (by simpa using hjN)]
  replace hs := hs.mono hm
  replace hM : ∀ a ∈ l, CtM m a.c ∧ CtIn a.c := fun a ha => ⟨(hM a ha).1.mono hm, (hM a ha).2⟩
  replace hI := hI.mono (Mem.le_refl _) (show j ≤ 65 by omega)
  clear hm hm3 hjN hj
  -- the acts
  refine ⟨fun qt i w' _ => ∃ (b mr i' : Nat) (lt : List (J × Ct)) (L : List Ct) (m' : Mem), qt = some ⟨b, 0, none⟩ ∧ i = i' ∧ i' ≤ l.length ∧ Inv hg m' lt L (65 + i') ∧ m.le m' ∧ Ctx [] (memOf w) w w' [] m' [rtA br g L, ctB b g mr, ctM mr lt], fun _ i _ => (l.length - i).toNat,
    ⟨b, mr, 0, lt, L, m, rfl, rfl, by omega, hI, Mem.le_refl _, C⟩, ?_⟩
  clear C hI
  clear lt L
  rintro qt i w27 L28 _ ⟨b, mr, i, lt, L, m', rfl, rfl, hi, hI, hm, C⟩
  by_cases hlt : i < l.length
  rotate_left
  · rw [if_neg (by simpa using hlt)]
    exact ⟨rfl, Ctx.at_ C⟩
  rw [if_pos (by simpa using hlt)]
  refine ⟨by omega, by simpa using hlt, ?_⟩
  obtain ⟨pa, rfl, hcell⟩ := (hs.mono hm).elem ac_len hlt
  rw [onSome_some]
  have hcc : Cells w27 (pa.add (i * 33)) ([.int .i64 l[i].kd] ++ cC l[i].c ++ jR l[i].d) := C.cells hcell
  refine ⟨_, _, _, _, _, _, _, _, _, _, _, _, _, _, _, _, _, _, _, _, _, _, _, _, _, _, _, _, _, _, _, _, _, _, _, by rw [Int.toNat_natCast]; exact hcc, ?_⟩
  clear hcell hcc
  have hcM := (hM _ (List.getElem_mem hlt)).1.mono hm
  have hcIn := (hM _ (List.getElem_mem hlt)).2
  have hll : L.length ≤ 100000 := by have := hI.len; omega
  generalize ea : l[i] = a at hcM hcIn ⊢
  clear ea
  refine ⟨fun qt bo _ _ _ _ _ _ _ _ _ _ _ _ _ _ _ _ _ _ _ _ _ _ _ _ _ d0 d1 d2 d3 d4 d5 d6 d7 d8 d9 w' L' => ∃ (b mr : Nat) (lt : List (J × Ct)) (L : List Ct) (d : J) (m' : Mem), qt = some ⟨b, 0, none⟩ ∧ bo = true ∧ d.1 = ⟨d0, d1, d2, d3, d4, d5, d6, d7, d8, d9⟩ ∧ Inv hg m' lt L (65 + (i + 1)) ∧ m.le m' ∧ Ctx [] (memOf w) w w' L' m' [rtA br g L, ctB b g mr, ctM mr lt], ?_, ?_⟩
  · by_cases k0 : a.kd = 0
    · rw [if_pos (by simp [k0]), if_pos (by simp [k0])]
      intro wa La ha ga
      refine (c_OwnC a.c).call (As := [rtA br g L, ctB b g mr, ctM mr lt]) (C.hidL ha ga) hcM fun q1 m4 wb hk hm4 hq1 C => ⟨_, _, _, _, _, _, _, _, _, _, _, _, _, _, _, _, _, _, _, _, _, _, _, _, rfl, hk, ?_⟩
      replace C : Ctx [] (memOf w) w wb La m4 [rtA br g L, ctB b g mr, ctM mr lt] := C
      refine (c_Add b mr g hg lt (by rw [hI.rel.len]; exact hll) { a.c with q := q1 }).call (As := [rtA br g L]) (C.pm [1, 2, 0] rfl) hq1 fun q2 m5 wc hk hm5 hq2 C => ⟨_, _, _, _, _, _, _, _, _, _, _, rfl, hk, fun wd Ld hd gd => ?_⟩
      replace C : Ctx [] (memOf w) w wc La m5 [ctB b g mr, ctM mr (addL g hg lt { a.c with q := q1 } q2), rtA br g L] := C
      refine (c_rAdd br g hg L hll a.c hcIn).call (As := [ctB b g mr, ctM mr (addL g hg lt { a.c with q := q1 } q2)]) ((C.hidL hd gd).pm [2, 0, 1] rfl) (hcM.mono (hm4.le_trans hm5)) fun _ m6 we hk hm6 _ C => ⟨_, _, _, _, _, _, _, _, _, _, _, rfl, hk, [], facts_nil _ _, fun wf Lf hf gf => ?_⟩
      have hae : addF g hg lt { a.c with q := q1 } = raddF g hg L a.c := hI.rel.addE { a.c with q := q1 }
      rw [hae]
      refine (C.hidL hf gf).gives (c_RefID _) fun wg kg C => ⟨_, _, _, _, _, _, _, _, _, _, rfl, kg, facts_nil _ _, ?_⟩
      rw [i_eq, if_pos (by simp)]
      refine C.gives (c_num _) fun wh kh C => ⟨_, rfl, kh, facts_nil _ _, ?_⟩
      have hm46 := (hm4.le_trans hm5).le_trans hm6
      exact ⟨b, mr, _, _, a.d, m6, rfl, by simp, rfl, hI.add { a.c with q := q1 } a.c rfl q2 hm46 (hq2.mono hm6) (hcM.mono hm46), hm.le_trans hm46, C⟩
    rw [if_neg (by simp [k0])]
    by_cases k1 : a.kd = 1
    · rw [if_pos (by simp [k1])]
      intro wa La ha ga
      refine (c_OwnC a.c).call (As := [rtA br g L, ctB b g mr, ctM mr lt]) (C.hidL ha ga) hcM fun q1 m4 wb hk hm4 hq1 C => ⟨_, _, _, _, _, _, _, _, _, _, _, _, _, _, _, _, _, _, _, _, _, _, _, _, rfl, hk, ?_⟩
      replace C : Ctx [] (memOf w) w wb La m4 [rtA br g L, ctB b g mr, ctM mr lt] := C
      refine (c_Add b mr g hg lt (by rw [hI.rel.len]; exact hll) { a.c with q := q1 }).call (As := [rtA br g L]) (C.pm [1, 2, 0] rfl) hq1 fun q2 m5 wc hk hm5 hq2 C => ⟨_, _, _, _, _, _, _, _, _, _, _, rfl, hk, fun wd Ld hd gd => ?_⟩
      replace C : Ctx [] (memOf w) w wc La m5 [ctB b g mr, ctM mr (addL g hg lt { a.c with q := q1 } q2), rtA br g L] := C
      refine (c_rAdd br g hg L hll a.c hcIn).call (As := [ctB b g mr, ctM mr (addL g hg lt { a.c with q := q1 } q2)]) ((C.hidL hd gd).pm [2, 0, 1] rfl) (hcM.mono (hm4.le_trans hm5)) fun _ m6 we hk hm6 _ C => ⟨_, _, _, _, _, _, _, _, _, _, _, rfl, hk, [], facts_nil _ _, fun wf Lf hf gf => ?_⟩
      have hae : addF g hg lt { a.c with q := q1 } = raddF g hg L a.c := hI.rel.addE { a.c with q := q1 }
      rw [hae]
      refine (C.hidL hf gf).gives (c_RefID _) fun wg kg C => ⟨_, _, _, _, _, _, _, _, _, _, rfl, kg, facts_nil _ _, ?_⟩
      rw [i_eq, if_pos (by simp)]
      refine C.gives (c_num _) fun wh kh C => ⟨_, rfl, kh, facts_nil _ _, ?_⟩
      have hm46 := (hm4.le_trans hm5).le_trans hm6
      exact ⟨b, mr, _, _, a.d, m6, rfl, by simp, rfl, hI.add { a.c with q := q1 } a.c rfl q2 hm46 (hq2.mono hm6) (hcM.mono hm46), hm.le_trans hm46, C⟩
    rw [if_neg (by simp [k1])]
    by_cases k2 : a.kd = 2
    · rw [if_pos (by simp [k2]), if_pos (by simp [k2]), if_neg (by simp [k2])]
      intro wa La ha ga
      refine (C.hidL ha ga).gives (c_ID a.d.1) fun wb kb C => ⟨_, _, _, _, _, _, _, _, _, _, rfl, kb, ?_⟩
      refine (c_Take b mr g lt a.d).call (As := [rtA br g L]) (C.pm [1, 2, 0] rfl) trivial fun _ m5 wc hk hm5 _ C => ⟨_, _, _, _, _, _, _, _, _, _, _, _, _, _, _, _, _, _, _, _, _, _, _, _, _, rfl, hk, fun wd Ld hd gd => ?_⟩
      replace C : Ctx [] (memOf w) w wc La m5 [ctB b g mr, ctM mr (takeL lt a.d), rtA br g L] := C
      refine (c_rTake br g L a.d hll).call (As := [ctB b g mr, ctM mr (takeL lt a.d)]) ((C.hidL hd gd).pm [2, 0, 1] rfl) trivial fun _ m6 we hk hm6 _ C => ⟨_, _, _, _, _, _, _, _, _, _, _, _, _, _, _, _, _, _, _, _, _, _, _, _, _, rfl, hk, [], facts_nil _ _, fun wf Lf hf gf => ?_⟩
      have hI6 := hI.mono (hm5.le_trans hm6) (Nat.le_refl _)
      obtain ⟨t1, t2⟩ := hI6.takeM a.d
      obtain ⟨e1, e2, _⟩ := hI6.rel.take a.d
      refine (c_RefC (takeF lt a.d).1).call (As := [rtA br g (rtakeL g L a.d), ctB b g mr, ctM mr (takeL lt a.d)]) (C.hidL hf gf) t1 fun q7 m7 wg hk hm7 hq7 C => ⟨_, _, _, _, _, _, _, _, _, _, _, _, _, _, _, _, _, _, _, _, _, _, _, _, rfl, hk, facts_nil _ _, ?_⟩
      refine (c_rSame { (takeF lt a.d).1 with q := q7 } (rtakeF g L a.d).1).call (As := [rtA br g (rtakeL g L a.d), ctB b g mr, ctM mr (takeL lt a.d)]) C ⟨hq7, t2.mono hm7⟩ fun _ m8 wh hk hm8 _ C => ⟨_, rfl, hk, facts_nil _ _, ?_⟩
      have e3 : ({ (takeF lt a.d).1 with q := q7 } : Ct).er = (rtakeF g L a.d).1.er := e1
      exact ⟨b, mr, _, _, a.d, m8, rfl, by rw [decide_eq_true e3, e2]; simp, rfl, hI6.take a.d (hm7.le_trans hm8), (hm.le_trans (hm5.le_trans hm6)).le_trans (hm7.le_trans hm8), C⟩
    rw [if_neg (by simp [k2])]
    by_cases k3 : a.kd = 3
    · rw [if_pos (by simp [k3]), if_pos (by simp [k3])]
      intro w0 L0 h0w g0
      obtain ⟨p, C⟩ := rtO (C.hidL h0w g0)
      replace C : Ctx [] (memOf w) w w0 L0 m' (rtAs br g L p ++ [ctB b g mr, ctM mr lt]) := C
      refine (c_rTChild br g L p a.c).call (As := [ctB b g mr, ctM mr lt]) C trivial fun _ m4 w1 hk hm4 _ C => ⟨_, _, _, _, _, _, _, _, _, _, _, rfl, hk, ?_⟩
      replace C : Ctx [] (memOf w) w w1 L0 m4 [rtA br g L, ctB b g mr, ctM mr lt] := rtI p C
      replace hI := hI.mono hm4 (Nat.le_refl _)
      replace hm := hm.le_trans hm4
      intro wa La ha ga
      refine (C.hidL ha ga).gives (c_ID (chJ a.c.id g hg).1) fun wb kb C => ⟨_, _, _, _, _, _, _, _, _, _, rfl, kb, ?_⟩
      refine (c_Take b mr g lt (chJ a.c.id g hg)).call (As := [rtA br g L]) (C.pm [1, 2, 0] rfl) trivial fun _ m5 wc hk hm5 _ C => ⟨_, _, _, _, _, _, _, _, _, _, _, _, _, _, _, _, _, _, _, _, _, _, _, _, _, rfl, hk, fun wd Ld hd gd => ?_⟩
      replace C : Ctx [] (memOf w) w wc La m5 [ctB b g mr, ctM mr (takeL lt (chJ a.c.id g hg)), rtA br g L] := C
      refine (c_rTake br g L (chJ a.c.id g hg) hll).call (As := [ctB b g mr, ctM mr (takeL lt (chJ a.c.id g hg))]) ((C.hidL hd gd).pm [2, 0, 1] rfl) trivial fun _ m6 we hk hm6 _ C => ⟨_, _, _, _, _, _, _, _, _, _, _, _, _, _, _, _, _, _, _, _, _, _, _, _, _, rfl, hk, [], facts_nil _ _, fun wf Lf hf gf => ?_⟩
      have hI6 := hI.mono (hm5.le_trans hm6) (Nat.le_refl _)
      obtain ⟨t1, t2⟩ := hI6.takeM (chJ a.c.id g hg)
      obtain ⟨e1, e2, _⟩ := hI6.rel.take (chJ a.c.id g hg)
      refine (c_RefC (takeF lt (chJ a.c.id g hg)).1).call (As := [rtA br g (rtakeL g L (chJ a.c.id g hg)), ctB b g mr, ctM mr (takeL lt (chJ a.c.id g hg))]) (C.hidL hf gf) t1 fun q7 m7 wg hk hm7 hq7 C => ⟨_, _, _, _, _, _, _, _, _, _, _, _, _, _, _, _, _, _, _, _, _, _, _, _, rfl, hk, facts_nil _ _, ?_⟩
      refine (c_rSame { (takeF lt (chJ a.c.id g hg)).1 with q := q7 } (rtakeF g L (chJ a.c.id g hg)).1).call (As := [rtA br g (rtakeL g L (chJ a.c.id g hg)), ctB b g mr, ctM mr (takeL lt (chJ a.c.id g hg))]) C ⟨hq7, t2.mono hm7⟩ fun _ m8 wh hk hm8 _ C => ⟨_, rfl, hk, facts_nil _ _, ?_⟩
      have e3 : ({ (takeF lt (chJ a.c.id g hg)).1 with q := q7 } : Ct).er = (rtakeF g L (chJ a.c.id g hg)).1.er := e1
      exact ⟨b, mr, _, _, (chJ a.c.id g hg), m8, rfl, by rw [decide_eq_true e3, e2]; simp, rfl, hI6.take (chJ a.c.id g hg) (hm7.le_trans hm8), (hm.le_trans (hm5.le_trans hm6)).le_trans (hm7.le_trans hm8), C⟩
    rw [if_neg (by simp [k3])]
    by_cases k4 : a.kd = 4
    · rw [if_pos (by simp [k4])]
      intro wa La ha ga
      refine (c_CloneT b mr g hg4 lt hI.rel.nd).call (As := [rtA br g L]) ((C.hidL ha ga).pm [1, 2, 0] rfl) hI.ml fun y m4 wb hk hm4 hy C => ⟨_, rfl, hk, ?_⟩
      obtain ⟨⟨b', mr'⟩, l'⟩ := y
      replace C : Ctx [] (memOf w) w wb La m4 [ctB b' g mr', ctM mr' l', ctB b g mr, ctM mr lt, rtA br g L] := C
      exact ⟨b', mr', l', L, a.d, m4, rfl, rfl, rfl, hI.clone hm4 hy.1 hy.2, hm.le_trans hm4, C.pk [4, 0, 1] [2, 3] rfl⟩
    rw [if_neg (by simp [k4])]
    intro wa La ha ga
    exact ⟨b, mr, lt, L, a.d, m', rfl, rfl, rfl, hI.mono (Mem.le_refl _) (by omega), hm, C.hidL ha ga⟩
  clear C hI hll
  clear lt L
  rintro qt bo _ _ _ _ _ _ _ _ _ _ _ _ _ _ _ _ _ _ _ _ _ _ _ _ _ d0 d1 d2 d3 d4 d5 d6 d7 d8 d9 w1 L1 _ ⟨b, mr, lt, L, d, m6, rfl, rfl, hd, hI, hm6, C⟩
  have hdV : jV d = .agg #[.int .u8 d0, .int .u16 d1, .int .u32 d2, .int .u8 d3, .int .u8 d4, .int .u8 d5, .int .u8 d6, .int .u8 d7, .int .u8 d8, .int .u8 d9] := by show d.1.V = _; rw [hd]
  have hll : L.length ≤ 100000 := by have := hI.len; omega
  obtain ⟨p, C⟩ := rtO C
  replace C : Ctx [] (memOf w) w w1 L1 m6 [rtB br g L p, tsA p L, ctB b g mr, ctM mr lt] := C
  have hfw : ∀ {w' L' m'} {As : List Asn}, Ctx [] (memOf w) w w' L' m' (rtB br g L p :: As) → FactsW [(⟨br, 1, none⟩, [slV p L.length])] w' L' := fun C => C.blkFact1 1 _ rfl (facts_nil _ _)
  refine ⟨_, hfw C, ?_⟩
  rw [if_pos (by decide), onSome_some]
  refine ⟨p.1, L.length, p.2, by simp [Addr.add_mid], fun wa La ha ga => ?_⟩
  refine (c_Len b mr g lt).call (As := [rtB br g L p, tsA p L]) ((C.hidL ha ga).pm [2, 3, 0, 1] rfl) trivial fun _ m7 wb hk hm7 _ C => ⟨_, rfl, hk, ?_⟩
  replace C : Ctx [] (memOf w) w wb La m7 [ctB b g mr, ctM mr lt, rtB br g L p, tsA p L] := C
  have hI7 := hI.mono hm7 (Nat.le_refl _)
  refine ⟨hfw (C.pm [2, 3, 0, 1] rfl), _, hfw (C.pm [2, 3, 0, 1] rfl), (fun _ h => h), ?_⟩
  rw [if_pos (by rw [hI.rel.len]; simp), onSome_some]
  refine ⟨p.1, L.length, p.2, by simp [Addr.add_mid], ?_⟩
  refine (c_All b mr g lt (by rw [hI.rel.len]; omega)).call (As := [rtB br g L p, tsA p L]) C hI7.allM fun y m8 wc hk hm8 hy C => ?_
  obtain ⟨⟨q1, c1⟩, ys⟩ := y
  replace C : Ctx [] (memOf w) w wc La m8 [slA (.slice q1 ys.length c1) ys.length (ys.flatMap cC) 62 22, ctB b g mr, ctM mr lt, rtB br g L p, tsA p L] := C
  refine ⟨q1, ys.length, c1, rfl, hk, hfw (C.pm [3, 4, 0, 1, 2] rfl), _, hfw (C.pm [3, 4, 0, 1, 2] rfl), (fun _ h => h), ?_⟩
  have hyl : ys.length = L.length := by
    have := congrArg List.length hy.1
    rw [hI.rel.rows] at this
    simpa using this
  refine (c_RefsC (q1, c1) ys (by omega)).call (As := [ctB b g mr, ctM mr lt, rtB br g L p, tsA p L]) C hy.2 fun y m9 wd hk hm9 hz C => ?_
  obtain ⟨⟨q2, c2⟩, zs⟩ := y
  replace C : Ctx [] (memOf w) w wd La m9 [tsA (q2, c2) zs, ctB b g mr, ctM mr lt, rtB br g L p, tsA p L] := C
  refine ⟨q2, zs.length, c2, rfl, hk, hfw (C.pm [3, 4, 0, 1, 2] rfl), _, hfw (C.pm [3, 4, 0, 1, 2] rfl), (fun _ h => h), ?_⟩
  have hzl : zs.length = L.length := by
    have := congrArg List.length hz.1
    simp at this; omega
  have hI9 := hI7.mono (hm8.le_trans hm9) (Nat.le_refl _)
  refine (c_rSameAll (q2, c2) p zs L (by omega)).call (As := [ctB b g mr, ctM mr lt, rtB br g L p]) (C.pm [0, 4, 1, 2, 3] rfl) ⟨hz.2, hI9.mL⟩ fun _ m10 we hk hm10 _ C => ⟨_, rfl, hk, ?_⟩
  replace C : Ctx [] (memOf w) w we La m10 [tsA (q2, c2) zs, tsA p L, ctB b g mr, ctM mr lt, rtB br g L p] := C
  refine ⟨hfw (C.pm [4, 0, 1, 2, 3] rfl), _, hfw (C.pm [4, 0, 1, 2, 3] rfl), (fun _ h => h), ?_⟩
  have hsame : zs.map Ct.er = L.map Ct.er := by rw [hz.1, hy.1, hI.rel.rows]
  rw [if_pos (by rw [decide_eq_true hsame]; rfl)]
  replace C : Ctx [] (memOf w) w we La m10 [rtB br g L p, tsA p L, ctB b g mr, ctM mr lt] := C.pk [4, 1, 2, 3] [0] rfl
  rw [← hdV]
  refine C.gives (c_ID d.1) fun wf kf C => ⟨_, _, _, _, _, _, _, _, _, _, rfl, kf, hfw C, ?_⟩
  refine (c_Has b mr g lt d).call (As := [rtB br g L p, tsA p L]) (C.pm [2, 3, 0, 1] rfl) trivial fun _ m11 wg hk hm11 _ C => ⟨_, rfl, hk, hfw (Ctx.pm C [2, 3, 0, 1] rfl), ?_⟩
  replace C : Ctx [] (memOf w) w wg La m11 [ctB b g mr, ctM mr lt, rtB br g L p, tsA p L] := C
  refine (c_rFind br g L p d hll).call (As := [ctB b g mr, ctM mr lt]) (C.pm [2, 3, 0, 1] rfl) trivial fun _ m12 wh hk hm12 _ C => ⟨_, rfl, hk, hfw C, ?_⟩
  replace C : Ctx [] (memOf w) w wh La m12 [rtB br g L p, tsA p L, ctB b g mr, ctM mr lt] := C
  have hfin : ((fnd d lt).isSome == decide (findV g L d ≥ 0)) = true := by
    rw [hI.rel.some, findV]
    by_cases hk : L.findIdx (isCh g d) < L.length
    · rw [if_pos hk]; simp [hk]
    · rw [if_neg hk]; simp [hk]
  rw [if_neg (by rw [hfin]; decide), w1n i (by omega)]
  refine ⟨⟨b, mr, i + 1, lt, L, m12, rfl, rfl, hlt, hI9.mono ((hm10.le_trans hm11).le_trans hm12) (Nat.le_refl _), ((hm6.le_trans hm7).le_trans (hm8.le_trans hm9)).le_trans ((hm10.le_trans hm11).le_trans hm12), Ctx.noL (rtI p C)⟩, Nat.le_of_eq (by show ((l.length : Int) - ((i + 1 : Nat) : Int)).toNat + 1 = ((l.length : Int) - (i : Int)).toNat; omega)⟩
end Go.Proofs
