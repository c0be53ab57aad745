import Derived.Test.YtfbjellaijdgbaaDoorXSound
set_option linter.unusedVariables false
set_option linter.unusedSimpArgs false
/- The engine, part 9: code is sound. -/
namespace Go.X
open Go
section
variable {P : Program} {B : Nat} {H : Hints}

/-! ### a loop's head -/
theorem look_setLocs (locs : List (Nat × List Ty)) (vs : List Value) (l : List (Nat × Blk)) (i : Nat) :
    look (setLocs locs vs l) i = (look l i).map fun bk => ⟨(chunk locs vs i).getD bk.cells, bk.ty⟩ := by
  induction l with
  | nil => rfl
  | cons x r ih =>
    obtain ⟨j, b⟩ := x
    simp only [setLocs, look]
    by_cases h : j = i
    · subst h; simp
    · simp [h, ih]
theorem look_headLoc (D : List Nat) (l : List (Nat × Blk)) (i : Nat) : look (headLoc D l) i = if D.contains i then none else look l i := by
  induction l with
  | nil => simp [headLoc, look]
  | cons x r ih =>
    obtain ⟨j, b⟩ := x
    simp only [headLoc, List.filter_cons] at ih ⊢
    by_cases hj : D.contains j = true
    · simp only [hj, Bool.not_true, Bool.false_eq_true, if_false, ih, look]
      by_cases h : j = i
      · subst h; rw [if_pos hj, if_pos hj]
      · rw [if_neg h]
    · have hj' : D.contains j = false := by simpa using hj
      simp only [hj', Bool.not_false, if_true, look]
      by_cases h : j = i
      · subst h; rw [if_pos rfl, if_neg hj, if_pos rfl]
      · simp only [h, if_false]; exact ih
theorem chunk_nil_iff (locs : List (Nat × List Ty)) (vs : List Value) (i : Nat) : (chunk locs [] i).isSome = (chunk locs vs i).isSome := by
  induction locs generalizing vs with
  | nil => rfl
  | cons x r ih =>
    obtain ⟨j, ts⟩ := x
    simp only [chunk]
    by_cases h : j = i
    · simp [h]
    · simp only [h, if_false, List.drop_nil]; exact ih _
theorem chunk_get {s : St} : ∀ (locs : List (Nat × List Ty)) (vs c : List Value) (i : Nat), getCells s locs = some vs → chunk locs vs i = some c → ∃ bk, look s.loc i = some bk ∧ bk.cells = c := by
  intro locs
  induction locs with
  | nil => intro vs c i _ h; cases h
  | cons x r ih =>
    obtain ⟨j, ts⟩ := x
    intro vs c i hg hc
    simp only [getCells] at hg
    cases hb : look s.loc j with
    | none => rw [hb] at hg; cases hg
    | some bk =>
      rw [hb] at hg
      simp only at hg
      split at hg
      · rename_i hl
        cases hr : getCells s r with
        | none => rw [hr] at hg; cases hg
        | some v2 =>
          rw [hr] at hg
          injection hg with hg
          subst hg
          simp only [chunk] at hc
          by_cases h : j = i
          · subst h
            rw [if_pos rfl] at hc
            injection hc with hc
            refine ⟨bk, hb, ?_⟩
            rw [← hc, ← hl]
            exact (List.take_left).symm
          · rw [if_neg h, ← hl, List.drop_left] at hc
            exact ih v2 c i hr hc
      · cases hg

/-- the locals of the head are still what they were, but for those that are named -/
def Stands (s' : St) (l : List (Nat × Blk)) (locs : List (Nat × List Ty)) : Prop :=
  ∀ i bk, look l i = some bk → ∃ bk', look s'.loc i = some bk' ∧ bk'.ty = bk.ty ∧ (chunk locs [] i = none → bk'.cells = bk.cells)
theorem stand_elim {s' : St} {locs : List (Nat × List Ty)} {p : Prop} : ∀ {l : List (Nat × Blk)}, stand s' l locs p → Stands s' l locs ∧ p := by
  intro l
  induction l with
  | nil => intro h; exact ⟨fun i bk hb => (by cases hb), h⟩
  | cons x r ih =>
    obtain ⟨i, bk⟩ := x
    intro h
    simp only [stand] at h
    cases hb : look s'.loc i with
    | none => rw [hb] at h; exact h.elim
    | some bk' =>
      rw [hb] at h
      simp only at h
      split at h
      · rename_i ht
        cases hc : chunk locs [] i with
        | some c =>
          rw [hc] at h
          obtain ⟨h1, h2⟩ := ih h
          refine ⟨fun j b hj => ?_, h2⟩
          simp only [look] at hj
          split at hj
          · rename_i e
            subst e
            injection hj with hj
            subst hj
            exact ⟨bk', hb, ht, fun e => by rw [hc] at e; cases e⟩
          · exact h1 j b hj
        | none =>
          rw [hc] at h
          obtain ⟨he, h⟩ := h
          obtain ⟨h1, h2⟩ := ih h
          refine ⟨fun j b hj => ?_, h2⟩
          simp only [look] at hj
          split at hj
          · rename_i e
            subst e
            injection hj with hj
            subst hj
            exact ⟨bk', hb, ht, fun _ => he⟩
          · exact h1 j b hj
      · exact h.elim
theorem Stands.refl (s : St) (D : List Nat) (locs : List (Nat × List Ty)) : Stands s (headLoc D s.loc) locs := by
  intro i bk hb
  rw [look_headLoc] at hb
  split at hb
  · cases hb
  · exact ⟨bk, hb, rfl, fun _ => rfl⟩

theorem setAll_RV {bs : Nat → Nat} {a : Act} {s : St} (hs : ∀ j, RV bs a.tmps (sget s.fr j) (a.tmps.getD j undef)) : ∀ (slots : List (Nat × Ty)) (vs rest : List Value) (fr : List SV), getVals s slots = some vs →
    (∀ j x, fr[j]? = some x → RV bs a.tmps x (a.tmps.getD j undef)) → ∀ j x, (setAll slots (vs ++ rest) fr)[j]? = some x → RV bs a.tmps x (a.tmps.getD j undef) := by
  intro slots
  induction slots with
  | nil =>
    intro vs rest fr hg hfr j x hx
    cases vs with
    | nil => cases rest <;> exact hfr j x hx
    | cons v vs => cases hg
  | cons y r ih =>
    obtain ⟨i, t⟩ := y
    intro vs rest fr hg hfr j x hx
    simp only [getVals] at hg
    have hsi := hs i
    split at hg
    · rename_i v hv
      cases hr : getVals s r with
      | none => rw [hr] at hg; cases hg
      | some v2 =>
        rw [hr] at hg
        injection hg with hg
        subst hg
        simp only [List.cons_append, setAll] at hx
        refine ih v2 rest _ hr (fun j x hx => ?_) j x hx
        rw [List.getElem?_set] at hx
        split at hx
        · rename_i e
          subst e
          split at hx
          · injection hx with hx
            subst hx
            rw [hv] at hsi
            exact hsi
          · cases hx
        · exact hfr j x hx
    · cases hg
theorem setAll_length : ∀ (slots : List (Nat × Ty)) (vs : List Value) (fr : List SV), (setAll slots vs fr).length = fr.length := by
  intro slots
  induction slots with
  | nil => intro vs fr; cases vs <;> rfl
  | cons x r ih =>
    intro vs fr
    cases vs with
    | nil => rfl
    | cons v vs => obtain ⟨i, t⟩ := x; simp [setAll, ih]
theorem junkAll_length (D : List Nat) : ∀ (l : List SV) (k : Nat), (junkAll D k l).length = l.length := by
  intro l
  induction l with
  | nil => intro k; rfl
  | cons x r ih => intro k; simp [junkAll, ih]
theorem junkAll_get (D : List Nat) : ∀ (l : List SV) (k j : Nat) (x : SV), (junkAll D k l)[j]? = some x → x = .junk ∨ (D.contains (k + j) = false ∧ ∃ y, l[j]? = some (.b y) ∧ x = .b y ∧ ∀ i off, y = .loc i off → D.contains i = false) := by
  intro l
  induction l with
  | nil => intro k j x h; cases h
  | cons y r ih =>
    intro k j x h
    cases j with
    | zero =>
      simp only [junkAll, List.getElem?_cons_zero, Option.some.injEq] at h
      by_cases hk : D.contains k = true
      · rw [if_pos hk] at h; exact .inl h.symm
      · rw [if_neg hk] at h
        have hk' : D.contains (k + 0) = false := by simpa using hk
        cases y with
        | junk => exact .inl h.symm
        | gd s w x => exact .inl h.symm
        | b y =>
          cases y with
          | v v => exact .inr ⟨hk', .v v, rfl, h.symm, fun i off e => by cases e⟩
          | loc i off =>
            simp only at h
            split at h
            · exact .inl h.symm
            · rename_i hi
              exact .inr ⟨hk', .loc i off, rfl, h.symm, fun i' off' e => by injection e with e1 e2; subst e1; simpa using hi⟩
    | succ j =>
      simp only [junkAll, List.getElem?_cons_succ] at h
      rcases ih (k + 1) j x h with h1 | ⟨h1, y', h2, h3⟩
      · exact .inl h1
      · exact .inr ⟨by rw [show k + (j + 1) = k + 1 + j by omega]; exact h1, y', by simpa using h2, h3⟩
theorem getVals_length {s : St} : ∀ {slots : List (Nat × Ty)} {vs : List Value}, getVals s slots = some vs → vs.length = slots.length := by
  intro slots
  induction slots with
  | nil => intro vs h; injection h with h; subst h; rfl
  | cons x r ih =>
    obtain ⟨j, t⟩ := x
    intro vs h
    simp only [getVals] at h
    split at h
    · cases hr : getVals s r with
      | none => rw [hr] at h; cases h
      | some v2 => rw [hr] at h; injection h with h; subst h; simp [ih hr]
    · cases h

theorem head_inv {bs0 bs' : Nat → Nat} {s s' : St} {a0 a' : Act} {w0 w' : World} {D : List Nat} {slots : List (Nat × Ty)} {locs : List (Nat × List Ty)} {v1 v2 : List Value} {L : List Nat}
    (h0 : Inv bs0 B s a0 w0) (h' : Inv bs' B s' a' w') (hag : Agree D a0 a') (hbs : ∀ i, i ∉ D → bs' i = bs0 i) (hst : Stands s' (headLoc D s.loc) locs)
    (hv1 : getVals s' slots = some v1) (hv2 : getCells s' locs = some v2) (hL : ∀ i b, look s'.loc i = some b → bs' i ∈ L) (hLF : LF B w' L) :
    Inv bs' B (headSt s D slots locs (v1 ++ v2) w' L) a' w' := by
  have hdrop : (v1 ++ v2).drop slots.length = v2 := by rw [← getVals_length hv1]; exact List.drop_left
  have hlk : ∀ i b, look (headSt s D slots locs (v1 ++ v2) w' L).loc i = some b → ∃ bk', look s'.loc i = some bk' ∧ bk'.ty = b.ty ∧ bk'.cells = b.cells := by
    intro i b hb
    simp only [headSt, hdrop, look_setLocs] at hb
    cases hl : look (headLoc D s.loc) i with
    | none => rw [hl] at hb; cases hb
    | some bk =>
      rw [hl] at hb
      injection hb with hb
      subst hb
      obtain ⟨bk', g1, g2, g3⟩ := hst i bk hl
      refine ⟨bk', g1, g2, ?_⟩
      cases hc : chunk locs v2 i with
      | some c =>
        obtain ⟨bk2, e1, e2⟩ := chunk_get locs v2 c i hv2 hc
        rw [g1] at e1
        injection e1 with e1
        subst e1
        simpa using e2
      | none =>
        have : chunk locs [] i = none := by
          have := chunk_nil_iff locs v2 i
          rw [hc] at this
          cases h : chunk locs [] i with
          | none => rfl
          | some c => rw [h] at this; cases this
        simpa using g3 this
  refine ⟨h'.defers, ?_, ?_, ?_, ?_, Hid.refl _ _, fun _ => rfl, ?_, Nat.le_trans h'.base h'.hid.size, ?_⟩
  · simp only [headSt, setAll_length, junkAll_length]
    rw [hag.1, h0.size]
  · refine setAll_RV h'.sget_ slots v1 v2 _ hv1 ?_
    intro j x hx
    rcases junkAll_get D s.fr 0 j x hx with rfl | ⟨hj, y, hy, rfl, hloc⟩
    · trivial
    · rw [Nat.zero_add] at hj
      have hr := h0.slots j _ hy
      have he := hag.2 j (by simpa using hj)
      simp only [RV] at hr ⊢
      rw [he, hr]
      cases y with
      | v v => rfl
      | loc i off =>
        have := hbs i (by simpa using hloc i off rfl)
        simp [B0.real, this]
  · intro i b hb
    obtain ⟨bk', g1, g2, g3⟩ := hlk i b hb
    obtain ⟨e1, e2, _⟩ := h'.blk i bk' g1
    refine ⟨by rw [e1, g2, g3], e2, .inl ?_⟩
    simp only [headSt]
    cases hl : headLoc D s.loc with
    | nil => simp only [headSt, hl, setLocs, look] at hb; cases hb
    | cons x r => exact hL i bk' g1
  · intro i j b c hb hc hne
    obtain ⟨b', g1, _⟩ := hlk i b hb
    obtain ⟨c', g2, _⟩ := hlk j c hc
    exact h'.inj i j b' c' g1 g2 hne
  · intro _ i b hb
    obtain ⟨bk', g1, _⟩ := hlk i b hb
    simp only [headSt]
    cases hl : headLoc D s.loc with
    | nil => simp only [headSt, hl, setLocs, look] at hb; cases hb
    | cons x r => exact hL i bk' g1
  · intro b hb
    simp only [headSt] at hb ⊢
    cases hl : headLoc D s.loc with
    | nil => rw [hl] at hb; cases hb
    | cons x r => rw [hl] at hb; exact hLF b hb

theorem setIns_RV {bs : Nat → Nat} {a : Act} {s : St} (hs : ∀ j, RV bs a.tmps (sget s.fr j) (a.tmps.getD j undef)) : ∀ (ins : List (Nat × TypeId)) (fr : List SV) (p : Prop), inst s ins p →
    (∀ j x, fr[j]? = some x → RV bs a.tmps x (a.tmps.getD j undef)) → p ∧ ∀ j x, (setIns ins fr)[j]? = some x → RV bs a.tmps x (a.tmps.getD j undef) := by
  intro ins
  induction ins with
  | nil => intro fr p h hfr; exact ⟨h, hfr⟩
  | cons y r ih =>
    obtain ⟨i, t⟩ := y
    intro fr p h hfr
    simp only [inst] at h
    have hsi := hs i
    split at h
    · rename_i i' off he
      split at h
      · rename_i e1
        split at h
        · rename_i e2
          subst e1; subst e2
          rw [he] at hsi
          refine ih _ p h fun j x hx => ?_
          rw [List.getElem?_set] at hx
          split at hx
          · rename_i e
            subst e
            split at hx
            · injection hx with hx
              subst hx
              exact hsi
            · cases hx
          · exact hfr j x hx
        · exact h.elim
      · exact h.elim
    · exact h.elim
theorem setIns_length : ∀ (ins : List (Nat × TypeId)) (fr : List SV), (setIns ins fr).length = fr.length := by
  intro ins
  induction ins with
  | nil => intro fr; rfl
  | cons y r ih => obtain ⟨i, t⟩ := y; intro fr; simp only [setIns, ih, List.length_set]
theorem inst_elim {s : St} : ∀ {ins : List (Nat × TypeId)} {p : Prop}, inst s ins p → p ∧ inst s ins True := by
  intro ins
  induction ins with
  | nil => intro p h; exact ⟨h, trivial⟩
  | cons y r ih =>
    obtain ⟨i, t⟩ := y
    intro p h
    simp only [inst] at h ⊢
    split at h
    · split at h
      · split at h
        · rename_i h1 h2; rw [if_pos h1, if_pos h2]; exact ih h
        · exact h.elim
      · exact h.elim
    · exact h.elim
theorem head_invJ {bs0 bs' : Nat → Nat} {s s' : St} {a0 a' : Act} {w0 w' : World} {D : List Nat} {slots : List (Nat × Ty)} {locs : List (Nat × List Ty)} {ins : List (Nat × TypeId)} {v1 v2 : List Value} {L : List Nat}
    (h0 : Inv bs0 B s a0 w0) (h' : Inv bs' B s' a' w') (hag : Agree D a0 a') (hbs : ∀ i, i ∉ D → bs' i = bs0 i) (hin : inst s' ins True) (hst : Stands s' (headLocJ D s.loc ins) locs)
    (hv1 : getVals s' slots = some v1) (hv2 : getCells s' locs = some v2) (hL : ∀ i b, look s'.loc i = some b → bs' i ∈ L) (hLF : LF B w' L) :
    Inv bs' B (headStJ s D slots locs ins (v1 ++ v2) w' L) a' w' := by
  have hdrop : (v1 ++ v2).drop slots.length = v2 := by rw [← getVals_length hv1]; exact List.drop_left
  have hlk : ∀ i b, look (headStJ s D slots locs ins (v1 ++ v2) w' L).loc i = some b → ∃ bk', look s'.loc i = some bk' ∧ bk'.ty = b.ty ∧ bk'.cells = b.cells := by
    intro i b hb
    simp only [headStJ, hdrop, look_setLocs] at hb
    cases hl : look (headLocJ D s.loc ins) i with
    | none => rw [hl] at hb; cases hb
    | some bk =>
      rw [hl] at hb
      injection hb with hb
      subst hb
      obtain ⟨bk', g1, g2, g3⟩ := hst i bk hl
      refine ⟨bk', g1, g2, ?_⟩
      cases hc : chunk locs v2 i with
      | some c =>
        obtain ⟨bk2, e1, e2⟩ := chunk_get locs v2 c i hv2 hc
        rw [g1] at e1
        injection e1 with e1
        subst e1
        simpa using e2
      | none =>
        have : chunk locs [] i = none := by
          have := chunk_nil_iff locs v2 i
          rw [hc] at this
          cases h : chunk locs [] i with
          | none => rfl
          | some c => rw [h] at this; cases this
        simpa using g3 this
  refine ⟨h'.defers, ?_, ?_, ?_, ?_, Hid.refl _ _, fun _ => rfl, ?_, Nat.le_trans h'.base h'.hid.size, ?_⟩
  · simp only [headStJ, setIns_length, setAll_length, junkAll_length]
    rw [hag.1, h0.size]
  · refine (setIns_RV h'.sget_ ins _ True hin ?_).2
    refine setAll_RV h'.sget_ slots v1 v2 _ hv1 ?_
    intro j x hx
    rcases junkAll_get D s.fr 0 j x hx with rfl | ⟨hj, y, hy, rfl, hloc⟩
    · trivial
    · rw [Nat.zero_add] at hj
      have hr := h0.slots j _ hy
      have he := hag.2 j (by simpa using hj)
      simp only [RV] at hr ⊢
      rw [he, hr]
      cases y with
      | v v => rfl
      | loc i off =>
        have := hbs i (by simpa using hloc i off rfl)
        simp [B0.real, this]
  · intro i b hb
    obtain ⟨bk', g1, g2, g3⟩ := hlk i b hb
    obtain ⟨e1, e2, _⟩ := h'.blk i bk' g1
    refine ⟨by rw [e1, g2, g3], e2, .inl ?_⟩
    simp only [headStJ]
    cases hl : headLocJ D s.loc ins with
    | nil => simp only [headStJ, hl, setLocs, look] at hb; cases hb
    | cons x r => exact hL i bk' g1
  · intro i j b c hb hc hne
    obtain ⟨b', g1, _⟩ := hlk i b hb
    obtain ⟨c', g2, _⟩ := hlk j c hc
    exact h'.inj i j b' c' g1 g2 hne
  · intro _ i b hb
    obtain ⟨bk', g1, _⟩ := hlk i b hb
    simp only [headStJ]
    cases hl : headLocJ D s.loc ins with
    | nil => simp only [headStJ, hl, setLocs, look] at hb; cases hb
    | cons x r => exact hL i bk' g1
  · intro b hb
    simp only [headStJ] at hb ⊢
    cases hl : headLocJ D s.loc ins with
    | nil => rw [hl] at hb; cases hb
    | cons x r => rw [hl] at hb; exact hLF b hb

/-- what a piece of code leaves -/
def Post (bs0 : Nat → Nat) (D : List Nat) (B : Nat) (a0 : Act) (Q : Exit → St → Prop) (e : Exit) (a : Act) (w : World) : Prop :=
  (∃ bs s, Q e s ∧ Inv bs B s a w ∧ ∀ i, i ∉ D → bs i = bs0 i) ∧ Agree D a0 a
theorem Post.mono {bs0 D B a0 Q Q' e a w} (h : Post bs0 D B a0 Q e a w) (hq : ∀ s, Q e s → Q' e s) : Post bs0 D B a0 Q' e a w :=
  ⟨let ⟨bs, s, h1, h2⟩ := h.1; ⟨bs, s, hq s h1, h2⟩, h.2⟩
theorem Post.trans {bs0 bs1 D D1 D2 B a0 a1 Q e a w} (h : Post bs1 D2 B a1 Q e a w) (hb : ∀ i, i ∉ D1 → bs1 i = bs0 i) (hag : Agree D1 a0 a1) (h1 : ∀ j, j ∈ D1 → j ∈ D) (h2 : ∀ j, j ∈ D2 → j ∈ D) : Post bs0 D B a0 Q e a w :=
  ⟨let ⟨bs, s, g1, g2, g3⟩ := h.1; ⟨bs, s, g1, g2, fun i hi => (g3 i (fun e => hi (h2 i e))).trans (hb i (fun e => hi (h1 i e)))⟩, (hag.mono h1).trans (h.2.mono h2)⟩

theorem app2_elim {β : Type} {ts : List Ty} {f : Arrs ts β} {vs : Option (List Value)} {k : β → Prop} (h : app2 ts f vs k) : ∃ l b, vs = some l ∧ appTys ts f l = some b ∧ k b := by
  unfold app2 at h
  cases vs with
  | none => exact h.elim
  | some l =>
    simp only at h
    cases hb : appTys ts f l with
    | none => rw [hb] at h; exact h.elim
    | some b => rw [hb] at h; exact ⟨l, b, rfl, hb, h⟩
theorem appTy_some {β : Type} {t : Ty} {f : Arr t β} {v : Value} {b : β} (h : appTy t f v = some b) {p : Value → Prop} (hp : allTy t p) : p v := by
  cases t <;> cases v <;> simp only [appTy] at h <;> first | (cases h; done) | skip
  case int.int k k' n => split at h; · rename_i e; subst e; exact hp n
                         · cases h
  all_goals first | exact hp _ | exact hp _ _ _
theorem appTys_some {β : Type} : ∀ {ts : List Ty} {f : Arrs ts β} {vs : List Value} {b : β}, appTys ts f vs = some b → ∀ {p : List Value → Prop}, allTys ts p → p vs := by
  intro ts
  induction ts with
  | nil =>
    intro f vs b h p hp
    cases vs with
    | nil => exact hp
    | cons v vs => cases h
  | cons t ts ih =>
    intro f vs b h p hp
    cases vs with
    | nil => cases h
    | cons v vs =>
      simp only [appTys] at h
      cases hg : appTy t f v with
      | none => rw [hg] at h; cases h
      | some g =>
        rw [hg] at h
        exact ih h (appTy_some hg hp)

theorem appTy_other {β γ : Type} {t : Ty} {f : Arr t β} {v : Value} {b : β} (h : appTy t f v = some b) (g : Arr t γ) : ∃ c, appTy t g v = some c := by
  cases t <;> cases v <;> simp only [appTy] at h ⊢ <;> first | (cases h; done) | skip
  case int.int k k' n => split at h; · rename_i e; exact ⟨_, if_pos e⟩
                         · cases h
  all_goals exact ⟨_, rfl⟩
theorem appTys_other {β γ : Type} : ∀ {ts : List Ty} {f : Arrs ts β} {vs : List Value} {b : β}, appTys ts f vs = some b → ∀ (g : Arrs ts γ), ∃ c, appTys ts g vs = some c := by
  intro ts
  induction ts with
  | nil =>
    intro f vs b h g
    cases vs with
    | nil => exact ⟨g, rfl⟩
    | cons v vs => cases h
  | cons t ts ih =>
    intro f vs b h g
    cases vs with
    | nil => cases h
    | cons v vs =>
      simp only [appTys] at h ⊢
      cases hf : appTy t f v with
      | none => rw [hf] at h; cases h
      | some f2 =>
        rw [hf] at h
        obtain ⟨g2, hg⟩ := appTy_other hf g
        rw [hg]
        exact ih h g2
theorem den_sound (c : Code) : ∀ {s : St} {Q : Exit → St → Prop} {bs : Nat → Nat} {a : Act} {w : World}, den P B H c s Q → Inv bs B s a w → c.wp P (Post bs (dsts c) B a Q) a w := by
  induction c with
  | skip => intro s Q bs a w h hi; exact wp_skip ⟨⟨bs, s, h, hi, fun _ _ => rfl⟩, Agree.refl _ _⟩
  | ret => intro s Q bs a w h hi; exact wp_ret ⟨⟨bs, s, h, hi, fun _ _ => rfl⟩, Agree.refl _ _⟩
  | exit id => intro s Q bs a w h hi; exact wp_exit ⟨⟨bs, s, h, hi, fun _ _ => rfl⟩, Agree.refl _ _⟩
  | region id ops draw =>
    intro s Q bs a w h hi
    cases draw with
    | true =>
      simp only [den] at h
      split at h
      · rename_i slots locs ins hj
        obtain ⟨I, hf, hround⟩ := h
        refine wp_mono (denDraw_sound (D := dsts (.region id ops true)) (fun o ho d hd => List.mem_filterMap.2 ⟨o, ho, hd⟩) (fun i hi => hi) hf hi) ?_
        rintro e a1 w1 ⟨rfl, ⟨bs1, s1, hq, hi1, hb⟩, hag⟩
        obtain ⟨L2, hst, hL3, hL4⟩ := sync_sound hq hi1
        obtain ⟨hst, hin⟩ := inst_elim hst
        obtain ⟨hst, hI2⟩ := stand_elim hst
        obtain ⟨l2, p2, hv2, hp2, hpw2⟩ := app2_elim hI2
        obtain ⟨u1, u2, f1, f2, rfl⟩ : ∃ v1 v2, getVals s1 slots = some v1 ∧ getCells s1 locs = some v2 ∧ l2 = v1 ++ v2 := by
          cases h1 : getVals s1 slots with
          | none => rw [h1] at hv2; cases hv2
          | some v1 =>
            cases h2 : getCells s1 locs with
            | none => rw [h1, h2] at hv2; cases hv2
            | some v2 => rw [h1, h2] at hv2; injection hv2 with hv2; exact ⟨v1, v2, rfl, rfl, hv2.symm⟩
        have hr := appTys_some hp2 hround w1 (Lof L2) hL4 (by unfold app2; simp only [hp2]; exact hpw2)
        exact ⟨⟨bs1, _, hr, head_invJ hi hi1 hag hb hin hst f1 f2 hL3 hL4, hb⟩, hag⟩
      · refine wp_mono (denDraw_sound (D := dsts (.region id ops true)) (fun o ho d hd => List.mem_filterMap.2 ⟨o, ho, hd⟩) (fun i hi => hi) h hi) ?_
        rintro e a' w' ⟨rfl, h1, h2⟩
        exact ⟨h1, h2⟩
    | false =>
      refine wp_region_list ?_
      refine wpList_mono' ?_ _ _ _ (denOps_sound (D := dsts (.region id ops false)) ops.toList (fun o ho d hd => List.mem_filterMap.2 ⟨o, ho, hd⟩) h hi)
      rintro e a' w' ⟨rfl, h1, h2⟩
      exact ⟨h1, h2⟩
  | seq x y ihx ihy =>
    intro s Q bs a w h hi
    refine wp_seq (wp_mono (ihx h hi) ?_)
    rintro e a1 w1 ⟨⟨bs1, s1, hq, hi1, hb⟩, hag⟩
    have h1 : ∀ j, j ∈ dsts x → j ∈ dsts (x.seq y) := fun j hj => List.mem_append_left _ hj
    have h2 : ∀ j, j ∈ dsts y → j ∈ dsts (x.seq y) := fun j hj => List.mem_append_right _ hj
    cases e with
    | normal => exact wp_mono (ihy hq hi1) fun e a2 w2 hp => hp.trans hb hag h1 h2
    | _ => exact ⟨⟨bs1, s1, hq, hi1, fun i hin => hb i (fun e => hin (h1 i e))⟩, hag.mono h1⟩
  | cond x t e iht ihe =>
    intro s Q bs a w h hi
    simp only [den] at h
    split at h
    · rename_i b hb
      have hv : a.eval x = .bool b := by
        have := hi.ov_ (g := none) (x := x) (y := .v (.bool b)) trivial (by simp [ov, hb])
        exact this
      have h1 : ∀ j, j ∈ dsts t → j ∈ dsts (.cond x t e) := fun j hj => List.mem_append_left _ hj
      have h2 : ∀ j, j ∈ dsts e → j ∈ dsts (.cond x t e) := fun j hj => List.mem_append_right _ hj
      refine wp_cond hv ?_
      cases b with
      | true =>
        rw [if_pos rfl] at h ⊢
        exact wp_mono (iht h hi) fun e a' w' hp => hp.trans (fun _ _ => rfl) (Agree.refl _ _) (fun j hj => hj) h1
      | false =>
        rw [if_neg (by simp)] at h ⊢
        exact wp_mono (ihe h hi) fun e a' w' hp => hp.trans (fun _ _ => rfl) (Agree.refl _ _) (fun j hj => hj) h2
    · exact h.elim
  | block id c ih =>
    intro s Q bs a w h hi
    simp only [den] at h
    split at h
    · rename_i slots locs hj
      obtain ⟨I, hf, hround⟩ := h
      refine wp_block (wp_mono (ih hf hi) ?_)
      rintro e a1 w1 ⟨⟨bs1, s1, hq, hi1, hb⟩, hag⟩
      have key : (sync B s1 fun w2 L2 => stand s1 (headLoc (dsts c) s.loc) locs (app2 _ I ((getVals s1 slots).bind fun a => (getCells s1 locs).map (a ++ ·)) fun p => p w2 (Lof L2))) → Post bs (dsts c) B a Q .normal a1 w1 := by
        intro hq
        obtain ⟨L2, hst, hL3, hL4⟩ := sync_sound hq hi1
        obtain ⟨hst, hI2⟩ := stand_elim hst
        obtain ⟨l2, p2, hv2, hp2, hpw2⟩ := app2_elim hI2
        obtain ⟨u1, u2, f1, f2, rfl⟩ : ∃ v1 v2, getVals s1 slots = some v1 ∧ getCells s1 locs = some v2 ∧ l2 = v1 ++ v2 := by
          cases h1 : getVals s1 slots with
          | none => rw [h1] at hv2; cases hv2
          | some v1 =>
            cases h2 : getCells s1 locs with
            | none => rw [h1, h2] at hv2; cases hv2
            | some v2 => rw [h1, h2] at hv2; injection hv2 with hv2; exact ⟨v1, v2, rfl, rfl, hv2.symm⟩
        have hr := appTys_some hp2 hround w1 (Lof L2) hL4 (by unfold app2; simp only [hp2]; exact hpw2)
        exact ⟨⟨bs1, _, hr, head_inv hi hi1 hag hb hst f1 f2 hL3 hL4, hb⟩, hag⟩
      cases e with
      | exit i =>
        simp only [Exit.inBlock]
        split
        · rename_i e; simp only [e, if_true] at hq; exact key hq
        · rename_i e; simp only [e, if_false] at hq; exact ⟨⟨bs1, s1, hq, hi1, hb⟩, hag⟩
      | normal => exact key hq
      | _ => exact ⟨⟨bs1, s1, hq, hi1, hb⟩, hag⟩
    · refine wp_block (wp_mono (ih h hi) ?_)
      rintro e a1 w1 ⟨⟨bs1, s1, hq, hi1, hb⟩, hag⟩
      cases e with
      | exit i =>
        simp only [Exit.inBlock]
        split
        · rename_i e; simp only [e, if_true] at hq; exact ⟨⟨bs1, s1, hq, hi1, hb⟩, hag⟩
        · rename_i e; simp only [e, if_false] at hq; exact ⟨⟨bs1, s1, hq, hi1, hb⟩, hag⟩
      | _ => exact ⟨⟨bs1, s1, hq, hi1, hb⟩, hag⟩
  | loop c ih =>
    intro s Q bs a w h hi
    simp only [den] at h
    split at h
    · rename_i n hn
      refine wp_loop_rounds n ?_
      clear hn
      have key : ∀ (n : Nat) {s bs1 a1 w1}, rounds (den P B H c) Q n s → Inv bs1 B s a1 w1 → (∀ i, i ∉ dsts c → bs1 i = bs i) → Agree (dsts c) a a1 → Code.rounds P c (Post bs (dsts c) B a Q) n a1 w1 := by
        intro n
        induction n with
        | zero => intro s bs1 a1 w1 h _ _ _; exact h.elim
        | succ n ihn =>
          intro s bs1 a1 w1 h hi1 hb hag
          rw [rounds_succ]
          refine wp_mono (ih h hi1) ?_
          rintro e a2 w2 ⟨⟨bs2, s2, hq, hi2, hb2⟩, hag2⟩
          have hb' : ∀ i, i ∉ dsts c → bs2 i = bs i := fun i hin => (hb2 i hin).trans (hb i hin)
          cases e with
          | normal => exact ihn hq hi2 hb' (hag.trans hag2)
          | _ => exact ⟨⟨bs2, s2, hq, hi2, hb'⟩, hag.trans hag2⟩
      exact key n h hi (fun _ _ => rfl) (Agree.refl _ _)
    · rename_i slots locs wr hn
      obtain ⟨L1, ⟨I, μ, hI, hround⟩, hL1, hL2⟩ := sync_sound h hi
      obtain ⟨v0, p0, hv0, hp0, hpw⟩ := app2_elim hI
      obtain ⟨v1, v2, e1, e2, rfl⟩ : ∃ v1 v2, getVals s slots = some v1 ∧ getCells s locs = some v2 ∧ v0 = v1 ++ v2 := by
        cases h1 : getVals s slots with
        | none => rw [h1] at hv0; cases hv0
        | some v1 =>
          cases h2 : getCells s locs with
          | none => rw [h1, h2] at hv0; cases hv0
          | some v2 => rw [h1, h2] at hv0; injection hv0 with hv0; exact ⟨v1, v2, rfl, rfl, hv0.symm⟩
      -- the semantic invariant
      let J : Nat → Act → World → Prop := fun n a1 w1 => ∃ (bs1 : Nat → Nat) (vs : List Value) (L : List Nat) (p : World → List Nat → Prop) (m : World → Nat),
        Inv bs1 B (headSt s (dsts c) slots locs vs w1 L) a1 w1 ∧ LF B w1 L ∧ appTys _ I vs = some p ∧ p w1 L ∧ appTys _ μ vs = some m ∧ n = m w1 ∧ (∀ i, i ∉ dsts c → bs1 i = bs i) ∧ Agree (dsts c) a a1
      have hm : ∃ m, appTys _ μ (v1 ++ v2) = some m := appTys_other hp0 μ
      obtain ⟨m0, hm0⟩ := hm
      refine wp_loop_ghost J (m0 w) ⟨bs, v1 ++ v2, Lof L1, p0, m0, head_inv hi hi (Agree.refl _ _) (fun _ _ => rfl) (Stands.refl s _ _) e1 e2 hL1 hL2, hL2, hp0, hpw, hm0, rfl, fun _ _ => rfl, Agree.refl _ _⟩ ?_
      rintro n a1 w1 ⟨bs1, vs, L, p, m, hi1, hLF, hp, hpw1, hm, rfl, hb, hag⟩
      have hr := appTys_some hp hround w1 L hLF (by unfold app2; simp only [hp]; exact hpw1)
      refine wp_mono (ih hr hi1) ?_
      rintro e a2 w2 ⟨⟨bs2, s2, hq, hi2, hb2⟩, hag2⟩
      have hb' : ∀ i, i ∉ dsts c → bs2 i = bs i := fun i hin => (hb2 i hin).trans (hb i hin)
      cases e with
      | normal =>
        obtain ⟨L2, hst, hL3, hL4⟩ := sync_sound hq hi2
        obtain ⟨hst, hI2, hmu⟩ := stand_elim hst
        obtain ⟨l2, p2, hv2, hp2, hpw2⟩ := app2_elim hI2
        obtain ⟨l2', m2, hv2', hm2, hmu⟩ := app2_elim hmu
        rw [hv2] at hv2'
        injection hv2' with hv2'
        subst hv2'
        obtain ⟨_, m', hv3, hm', hlt⟩ := app2_elim hmu
        injection hv3 with hv3
        subst hv3
        rw [hm] at hm'
        injection hm' with hm'
        subst hm'
        obtain ⟨u1, u2, f1, f2, rfl⟩ : ∃ v1 v2, getVals s2 slots = some v1 ∧ getCells s2 locs = some v2 ∧ l2 = v1 ++ v2 := by
          cases h1 : getVals s2 slots with
          | none => rw [h1] at hv2; cases hv2
          | some v1 =>
            cases h2 : getCells s2 locs with
            | none => rw [h1, h2] at hv2; cases hv2
            | some v2 => rw [h1, h2] at hv2; injection hv2 with hv2; exact ⟨v1, v2, rfl, rfl, hv2.symm⟩
        refine ⟨m2 w2, hlt, bs2, u1 ++ u2, Lof L2, p2, m2, ?_, hL4, hp2, hpw2, hm2, rfl, hb', hag.trans hag2⟩
        exact head_inv hi hi2 (hag.trans hag2) hb' hst f1 f2 hL3 hL4
      | _ => exact ⟨⟨bs2, s2, hq, hi2, hb'⟩, hag.trans hag2⟩
    · exact h.elim
  | _ => intro s Q bs a w h hi; exact h.elim
end
end Go.X
