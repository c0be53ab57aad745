import Derived.Test.YtfbjellaijdgbaaDoorXSound0
set_option linter.unusedVariables false
set_option linter.unusedSimpArgs false
/- The engine, part 9b: regions whose order the tape draws are sound. -/
namespace Go.X
open Go
section
variable {P : Program} {bs bs0 : Nat → Nat} {B : Nat} {s : St} {a a0 : Act} {w : World} {H : Hints} {ops : Array Oper} {o : Oper} {Q : Exit → Act → World → Prop} {g : Option (Nat × Bool)} {next : St → Prop}
  {K : List Nat} {m : Option Facts} {S : World → Prop} {F : Facts}

theorem look_filter (l : List (Nat × Blk)) (i : Nat) : look (l.filter fun p => K.contains p.1) i = if K.contains i then look l i else none := by
  induction l with
  | nil => simp [look]
  | cons x r ih =>
    obtain ⟨j, b⟩ := x
    simp only [List.filter_cons]
    by_cases hj : K.contains j = true
    · simp only [hj, if_true, look]
      by_cases h : j = i
      · subst h; rw [if_pos rfl, if_pos rfl, if_pos hj]
      · rw [if_neg h, if_neg h]; exact ih
    · have hj' : K.contains j = false := by simpa using hj
      simp only [hj', Bool.false_eq_true, if_false, look]
      rw [ih]
      by_cases h : j = i
      · subst h; rw [if_neg hj, if_neg hj]
      · rw [if_neg h]

theorem floatStep_sound (h : floatStep P H m K g o s next) (hi : Inv bs B s a w) (hg : GH g a.tmps)
    (hS1 : ∀ w', S w' → ∀ i b, look (restr K s).loc i = some b → w'.heap[bs i]? = some (.cells b.cells.toArray b.ty (0, 0)))
    (hS2 : isLd o = true → ∀ t ad k, ldM P m s t ad k → ∃ v, k v ∧ ∀ w', S w' → (Instr.loadAt t (.pointer (some ad))).run P w' = .ok v w') :
    ∃ x : B0, next (setb s o x) ∧ ∀ w', S w' → (execOp a.eval o).run P w' = .ok (.value (x.real bs)) w' := by
  unfold floatStep at h
  split at h
  · rename_i x hx
    exact ⟨x, h, fun w' hw => spec_sound (s := restr K s) ⟨hi.sget_, hS1 w' hw⟩ hg hx⟩
  · split at h
    · rename_i t x hop
      split at h
      · rename_i p hx
        obtain ⟨ad, rfl, hk⟩ := onSome_elim h
        obtain ⟨v, hn, hr⟩ := hS2 (by simp [isLd, hop]) _ _ _ hk
        have he : a.eval x = .pointer (some ad) := hi.ov_ hg hx
        refine ⟨.v v, hn, fun w' hw => ?_⟩
        simp only [execOp, hop, he]
        rw [Sem.run_bind, hr w' hw]; rfl
      · exact h.elim
    · split at h
      · obtain ⟨x, hn, hr⟩ := genP_sound h hi hg
        exact ⟨x, hn, fun w' _ => hr w'⟩
      · exact h.elim

theorem gSlot_none (h : gSlot ops o = some none) : o.guard = none := by
  unfold gSlot at h
  split at h
  · assumption
  · rename_i j want hg
    cases hd : (ops[j]?).bind (·.dst) with
    | none => rw [hd] at h; cases h
    | some d => rw [hd] at h; cases h
theorem gSlot_some {gs : Nat} {want : Bool} (h : gSlot ops o = some (some (gs, want))) : ∃ j, o.guard = some (j, want) ∧ (ops[j]?).bind (·.dst) = some gs := by
  unfold gSlot at h
  split at h
  · cases h
  · rename_i j want' hg
    cases hd : (ops[j]?).bind (·.dst) with
    | none => rw [hd] at h; cases h
    | some d =>
      rw [hd] at h
      simp only [Option.map_some, Option.some.injEq, Prod.mk.injEq] at h
      obtain ⟨rfl, rfl⟩ := h
      exact ⟨j, hg, hd⟩

theorem denFloat_sound (h : denFloat P H m K ops o s next) (hi : Inv bs B s a w)
    (hS1 : ∀ w', S w' → ∀ i b, look (restr K s).loc i = some b → w'.heap[bs i]? = some (.cells b.cells.toArray b.ty (0, 0)))
    (hS2 : isLd o = true → ∀ t ad k, ldM P m s t ad k → ∃ v, k v ∧ ∀ w', S w' → (Instr.loadAt t (.pointer (some ad))).run P w' = .ok v w') :
    ∃ v s', next s' ∧ YieldsIf P ops S o v a ∧ Inv bs B s' (a.put o.dst v) w ∧ s'.loc = s.loc ∧ s'.u = s.u ∧ s'.L = s.L := by
  unfold denFloat at h
  split at h
  · exact h.elim
  · rename_i hgs
    obtain ⟨x, hn, hr⟩ := floatStep_sound (g := none) h hi trivial hS1 hS2
    exact ⟨_, _, hn, .inl ⟨by simp [Region.wanted, gSlot_none hgs], hr⟩, hi.putB o.dst x _ rfl, rfl, rfl, rfl⟩
  · rename_i gs want hgs
    obtain ⟨j, hg, hd⟩ := gSlot_some hgs
    have hw := wanted_iff (a := a) hg hd
    split at h
    · rename_i x hx
      split at h
      · exact h.elim
      rename_i hds
      by_cases hq : a.tmps.getD gs undef = .bool want
      · refine ⟨_, _, h, .inl ⟨hw.2 hq, fun w' hw' => spec_sound (s := restr K s) (g := some (gs, want)) ⟨hi.sget_, hS1 w' hw'⟩ hq hx⟩, hi.put o.dst _ _ fun d hd' => ⟨fun _ => rfl, fun hn => ?_⟩, rfl, rfl, rfl⟩
        rw [getD_set] at hn
        split at hn
        · rename_i hc
          exact absurd (by rw [hd', hc.1]) hds
        · exact absurd hq hn
      · refine ⟨undef, _, h, .inr ⟨by simpa using fun e => hq (hw.1 e), rfl⟩, hi.put o.dst _ _ fun d hd' => ⟨fun hn => ?_, fun _ => rfl⟩, rfl, rfl, rfl⟩
        rw [getD_set] at hn
        split at hn
        · cases hn
        · exact absurd hn hq
    · obtain ⟨s', hi', hl, hu, hL, ⟨hq, hk⟩ | ⟨hq, hk⟩⟩ := guardIf_sound hi h
      · obtain ⟨x, hn, hr⟩ := floatStep_sound (g := some (gs, want)) hk hi' hq (by simpa only [restr, hl] using hS1) (by
          intro hld t ad k hk
          refine hS2 hld t ad k ?_
          cases m with
          | none => simpa only [ldM, ldVC, hu, hL] using hk
          | some F => exact hk)
        exact ⟨_, _, hn, .inl ⟨hw.2 hq, hr⟩, hi'.putB o.dst x _ rfl, hl, hu, hL⟩
      · exact ⟨undef, _, hk, .inr ⟨by simpa using fun e => hq (hw.1 e), rfl⟩, hi'.putB o.dst (.v undef) undef rfl, hl, hu, hL⟩

/-! ### events -/
theorem sync_mono {k k' : World → Option (List Nat) → Prop} (hk : ∀ w L, k w L → k' w L) (h : sync B s k) : sync B s k' := by
  unfold sync at h ⊢
  split at h
  · split at h
    · exact fun w hw => hk _ _ (h w hw)
    · exact fun w L hw hn => hk _ _ (h w L hw hn)
  · split at h
    · exact hk _ _ h
    · exact hk _ _ h
theorem exTy_mono {t : Ty} {p q : Value → Prop} (hpq : ∀ v, p v → q v) (h : exTy t p) : exTy t q := by
  cases t <;> simp only [exTy] at h ⊢
  case slice => obtain ⟨x, y, z, h⟩ := h; exact ⟨x, y, z, hpq _ h⟩
  all_goals (obtain ⟨x, h⟩ := h; exact ⟨x, hpq _ h⟩)
theorem exTys_mono {ts : List Ty} : ∀ {p q : List Value → Prop}, (∀ v, p v → q v) → exTys ts p → exTys ts q := by
  induction ts with
  | nil => intro p q hpq h; exact hpq _ h
  | cons t ts ih => intro p q hpq h; exact exTy_mono (fun v => ih fun vs => hpq _) h
theorem exOne_mono {t : TypeId} {p q : Value → Prop} (hpq : ∀ v, p v → q v) (h : exOne P t p) : exOne P t q := by
  unfold exOne at h ⊢
  by_cases ha : aggT P t = true
  · rw [if_pos ha] at h ⊢
    exact exTys_mono (fun vs => hpq _) h
  · rw [if_neg ha] at h ⊢
    cases hu : P.underlying t with
    | none => simp only [hu] at h
    | some d => simp only [hu] at h ⊢; exact exTy_mono hpq h
theorem exMany_mono {ts : List TypeId} : ∀ {p q : List Value → Prop}, (∀ v, p v → q v) → exMany P ts p → exMany P ts q := by
  induction ts with
  | nil => intro p q hpq h; exact hpq _ h
  | cons t ts ih => intro p q hpq h; exact exOne_mono (fun v => ih fun vs => hpq _) h
theorem exVal_mono {t : TypeId} {p q : Value → Prop} (hpq : ∀ v, p v → q v) (h : exVal P t p) : exVal P t q := by
  unfold exVal at h ⊢
  split at h
  · exact exMany_mono (fun vs => hpq _) h
  · exact exOne_mono hpq h
  · exact h
theorem keptL_mono {L : Option (List Nat)} {w w' : World} {p q : Prop} (hpq : p → q) (h : keptL L w w' p) : keptL L w w' q := by
  cases L with
  | none => exact ⟨h.1, hpq h.2⟩
  | some l => exact ⟨h.1, hpq h.2⟩
theorem newOp_mono {nx nx' : St → Prop} (hn : ∀ v w L, nx (setev s o v w L) → nx' (setev s o v w L)) (h : newOp P B g o s nx) : newOp P B g o s nx' := by
  unfold newOp at h ⊢
  by_cases hall : (o.op.operands.toList.all fun x => (val g s.fr x).isSome) = true
  · rw [if_pos hall] at h ⊢
    refine sync_mono (fun w L hk => ?_) h
    cases hv : nev P (execOp (ρ_ g s) o) w with
    | none => simp only [hv] at hk
    | some r =>
      obtain ⟨n, w2⟩ := r
      cases n <;> simp only [hv] at hk ⊢
      exact hn _ _ _ hk
  · rw [if_neg hall] at h
    exact h.elim
theorem exShape_mono {p q : Value → Prop} (hpq : ∀ v, p v → q v) (h : exShape P H o p) : exShape P H o q := by
  unfold exShape at h ⊢
  cases hop : o.op <;> simp only [hop] at h ⊢
  case range => obtain ⟨x, h⟩ := h; exact ⟨x, hpq _ h⟩
  case next => obtain ⟨x, y, h⟩ := h; exact ⟨x, y, hpq _ h⟩
  case entry => exact exMany_mono (fun vs => hpq _) h
  all_goals exact exVal_mono hpq h
theorem rawOp_mono {nx nx' : St → Prop} (hn : ∀ v w L, nx (setev s o v w L) → nx' (setev s o v w L)) (h : rawOp P B H g o s nx) : rawOp P B H g o s nx' := by
  unfold rawOp at h ⊢
  by_cases hall : (o.op.operands.toList.all fun x => (val g s.fr x).isSome) = true
  · rw [if_pos hall] at h ⊢
    cases hv : semV (ρ_ g s) o with
    | some sem =>
      simp only [hv] at h ⊢
      refine sync_mono (fun w L hk => exShape_mono (fun v hk => ?_) hk) h
      obtain ⟨w2, h1, h2⟩ := hk
      exact ⟨w2, h1, keptL_mono (hn _ _ _) h2⟩
    | none =>
      simp only [hv] at h ⊢
      cases hu : semU (ρ_ g s) o with
      | some sem =>
        simp only [hu] at h ⊢
        refine sync_mono (fun w L hk => ?_) h
        obtain ⟨w2, h1, h2⟩ := hk
        exact ⟨w2, h1, keptL_mono (hn _ _ _) h2⟩
      | none => simp only [hu] at h
  · rw [if_neg hall] at h
    exact h.elim
theorem callOp_mono {nx nx' : St → Prop} (hn : ∀ v w L, nx (setev s o v w L) → nx' (setev s o v w L)) (h : callOp P B g o s nx) : callOp P B g o s nx' := by
  unfold callOp at h ⊢
  by_cases hall : (o.op.operands.toList.all fun x => (val g s.fr x).isSome) = true
  · rw [if_pos hall] at h ⊢
    cases hv : pev P (execOp (ρ_ g s) o) with
    | none => simp only [hv] at h
    | some n =>
      cases n <;> simp only [hv] at h ⊢
      refine sync_mono (fun w L hk => ⟨hk.h.mono fun e w2 he => exVal_mono (fun v hk => ?_) he⟩) h
      exact ⟨hk.1, keptL_mono (hn _ _ _) hk.2⟩
  · rw [if_neg hall] at h
    exact h.elim

/-- what an event leaves -/
def EvRes (N : Prop) (bs0 : Nat → Nat) (K : List Nat) (F : Facts) (B : Nat) (s0 : St) (dst : Option Nat) (a0 : Act) (next : St → Prop) (a : Act) (w : World) : Prop :=
  (∃ bs s, next s ∧ Inv bs B s a w ∧ (N → FactsIn F s) ∧ (N → ∀ i, K.contains i = true → look s.loc i = look s0.loc i) ∧ ∀ i, i ∉ dst.toList → bs i = bs0 i) ∧ Agree dst.toList a0 a

theorem evStep_sound {N : Prop} {late : Bool} (hN : N → late = false) (h : evStep P B H F K late g o s next) (hi : Inv bs B s a w) (hg : GH g a.tmps) (hF : N → FactsIn F s) : o.wp P a w (EvRes N bs K F B s o.dst a next) Q := by
  have lift : ∀ {nx : St → Prop}, (∀ s', nx s' → s'.loc = s.loc ∧ (N → FactsIn F s') ∧ next s') → o.wp P a w (Res bs o.dst B nx) Q → o.wp P a w (EvRes N bs K F B s o.dst a next) Q := fun {nx} hnx hw =>
    Oper.wp_mono (fun a' w' ⟨⟨bs', s', h1, h2, h3⟩, h4⟩ => by
      obtain ⟨g1, g2, g3⟩ := hnx s' h1
      exact ⟨⟨bs', s', g3, h2, g2, fun _ i _ => by rw [g1], fun i hin => h3 i (fun e => hin (by simp [e]))⟩, h4⟩) (wp_dst hw)
  have L1 : ∀ v w L, fIf late (FactsIn F (setev s o v w L)) (next (setev s o v w L)) → (setev s o v w L).loc = s.loc ∧ (N → FactsIn F (setev s o v w L)) ∧ next (setev s o v w L) := fun v w L h => ⟨rfl, fun n => (fIf_elim h).1 (hN n), (fIf_elim h).2⟩
  have hnew : newOp P B g o s (fun s' => fIf late (FactsIn F s') (next s')) → (∀ cs b, o.op ≠ .select cs b) → o.wp P a w (EvRes N bs K F B s o.dst a next) Q := fun h hs =>
    lift (nx := fun s' => s'.loc = s.loc ∧ (N → FactsIn F s') ∧ next s') (fun s' h => h) (newOp_sound (newOp_mono L1 h) hi hg hs)
  have hraw : rawOp P B H g o s (fun s' => fIf late (FactsIn F s') (next s')) → (∀ cs b, o.op ≠ .select cs b) → o.wp P a w (EvRes N bs K F B s o.dst a next) Q := fun h hs =>
    lift (nx := fun s' => s'.loc = s.loc ∧ (N → FactsIn F s') ∧ next s') (fun s' h => h) (rawOp_sound (rawOp_mono L1 h) hi hg hs)
  have hcall : callOp P B g o s (fun s' => fIf late (FactsIn F s') (next s')) → (∀ cs b, o.op ≠ .select cs b) → o.wp P a w (EvRes N bs K F B s o.dst a next) Q := fun h hs =>
    lift (nx := fun s' => s'.loc = s.loc ∧ (N → FactsIn F s') ∧ next s') (fun s' h => h) (callOp_sound (callOp_mono L1 h) hi hg hs)
  have hK : ∀ {i : Nat} {b : Blk}, ¬ (K.contains i = true) → ∀ j, K.contains j = true → look (upd s.loc i b) j = look s.loc j := fun {i b} hn j hj => by
    rw [look_upd, if_neg (fun e => hn (by rw [e]; exact hj))]
  unfold evStep at h
  simp only at h
  split at h
  · rename_i t hop
    have hs : ∀ cs b, o.op ≠ .select cs b := fun cs b e => by rw [hop] at e; cases e
    split at h
    · rename_i z hz
      split at h
      · rename_i hl
        split at h
        · exact h.elim
        rename_i hnk
        have hr : (execOp a.eval o).run P w = .ok (.value (.pointer (some ⟨w.heap.size, 0, none⟩))) (w.alloc (.cells z.cells.toList.toArray t)) := by
          cases hq : P.info? t with
          | none => simp [hq] at hz
          | some i =>
            have : i.zero = some z := by simpa [hq] using hz
            simp [execOp, hop, Instr.alloc, zeroValue, typeInfo, hq, this, newVar, newRow]
        exact wp_value hr ⟨⟨_, _, h, hi.allocL_ (o.dst.getD 0) z.cells.toList t o.dst, hF, fun _ => hK hnk, fun i hin => has_dst hl i (fun e => hin (by simp [e]))⟩, Agree.of_put (v := _) rfl⟩
      · exact hnew h hs
    · exact h.elim
  · rename_i t x hop
    have hs : ∀ cs b, o.op ≠ .select cs b := fun cs b e => by rw [hop] at e; cases e
    split at h
    · rename_i v hv
      split at h
      · rename_i hl
        split at h
        · exact h.elim
        rename_i hnk
        have hr : (execOp a.eval o).run P w = .ok (.value (.pointer (some ⟨w.heap.size, 0, none⟩))) (w.alloc (.cells v.cells.toList.toArray t)) := by
          simp [execOp, hop, hi.val_ hg hv, Instr.box, newVar, newRow]
        exact wp_value hr ⟨⟨_, _, h, hi.allocL_ (o.dst.getD 0) v.cells.toList t o.dst, hF, fun _ => hK hnk, fun i hin => has_dst hl i (fun e => hin (by simp [e]))⟩, Agree.of_put (v := _) rfl⟩
      · exact hnew h hs
    · exact h.elim
  · rename_i hop; exact hnew h (fun cs b e => by rw [hop] at e; cases e)
  · rename_i hop; exact hnew h (fun cs b e => by rw [hop] at e; cases e)
  · rename_i t x y hop
    have hs : ∀ cs b, o.op ≠ .select cs b := fun cs b e => by rw [hop] at e; cases e
    split at h
    · rename_i i off v hx hy
      split at h
      · rename_i bk hb
        split at h
        · rename_i hc
          simp only [Bool.and_eq_true, beq_iff_eq, decide_eq_true_eq, Bool.not_eq_true'] at hc
          obtain ⟨⟨⟨hz, hfit⟩, h1⟩, hnk⟩ := hc
          have he : a.eval x = .pointer (some ⟨bs i, off, none⟩) := hi.ov_ hg hx
          have hr : (execOp a.eval o).run P w = .ok .skip (w.setRow (bs i) (splice bk.cells off v.cells.toList).toArray) := by
            simp only [execOp, hop, he, hi.val_ hg hy]
            rw [Sem.run_bind, run_storeAt_row (hi.blk i bk hb).1 hz hfit h1]
            rfl
          exact wp_skip_ hr ⟨⟨bs, _, h, (hi.storeL hb _).putB o.dst (.v undef) undef rfl, hF, fun hn => hK (by rw [hN hn, Bool.false_or] at hnk; simpa using hnk), fun _ _ => rfl⟩, Agree.of_put (v := _) rfl⟩
        · exact h.elim
      · exact h.elim
    · rename_i p v hx hy
      -- the public store: by 'gen'
      have hgen : gen P B H g o s (fun s' => s'.loc = s.loc ∧ (N → FactsIn F s') ∧ next s') := by
        unfold gen
        rw [if_neg (by simp [isP, hop])]
        simp only [hop, hx, hy]
        unfold onSome at h ⊢
        cases p with
        | none => exact h
        | some ad =>
          simp only at h ⊢
          split at h
          · rename_i hc
            rw [if_pos hc]
            refine sync_mono (fun w L ⟨h1, h2, h3⟩ => ⟨h1, h2, ?_⟩) h
            cases L with
            | none => exact ⟨rfl, fun n => (fIf_elim h3).1 (hN n), (fIf_elim h3).2⟩
            | some l => exact ⟨h3.1, rfl, fun n => (fIf_elim h3.2).1 (hN n), (fIf_elim h3.2).2⟩
          · exact h.elim
      exact lift (nx := fun s' => s'.loc = s.loc ∧ (N → FactsIn F s') ∧ next s') (fun s' h => h) (gen_sound hgen hi hg)
    · exact h.elim
  · rename_i hop; exact hraw h (fun cs b e => by rw [hop] at e; cases e)
  · rename_i hop; exact hcall h (fun cs b e => by rw [hop] at e; cases e)
  · refine hraw h (fun cs b e => ?_)
    unfold rawOp at h
    split at h
    · simp [semV, semU, e] at h
    · exact h

theorem denEv_sound {N : Prop} {late : Bool} (hN : N → late = false) (h : denEv P B H F K late ops o s next) (hi : Inv bs B s a w) (hF : N → FactsIn F s) :
    if Region.wanted o (yielded ops a.tmps) = true then o.wp P a w (EvRes N bs K F B s o.dst a next) Q else EvRes N bs K F B s o.dst a next (a.put o.dst undef) w := by
  unfold denEv at h
  split at h
  · exact h.elim
  · rename_i hgs
    rw [if_pos (by simp [Region.wanted, gSlot_none hgs])]
    exact evStep_sound (g := none) hN h hi trivial hF
  · rename_i gs want hgs
    obtain ⟨j, hg, hd⟩ := gSlot_some hgs
    have hw := wanted_iff (a := a) hg hd
    obtain ⟨s', hi', hl, hu, hL, ⟨hq, hk⟩ | ⟨hq, hk⟩⟩ := guardIf_sound hi h
    · rw [if_pos (hw.2 hq)]
      have hF' : N → FactsIn F s' := by unfold FactsIn at hF ⊢; rw [hu, hL]; exact hF
      have := evStep_sound (Q := Q) (g := some (gs, want)) hN hk hi' hq hF'
      exact Oper.wp_mono (fun a' w' ⟨⟨bs', s2, g1, g2, g3, g4, g5⟩, g6⟩ => ⟨⟨bs', s2, g1, g2, g3, fun hn i hK => (g4 hn i hK).trans (by rw [hl]), g5⟩, g6⟩) this
    · rw [if_neg (fun e => hq (hw.1 e))]
      have hF' : N → FactsIn F s' := by unfold FactsIn at hF ⊢; rw [hu, hL]; exact hF
      exact ⟨⟨bs, _, hk, hi'.putB o.dst (.v undef) undef rfl, hF', fun _ _ _ => by rw [← hl], fun _ _ => rfl⟩, Agree.of_put (v := undef) rfl⟩

theorem testBit_bitsOf {l : List Nat} {j : Nat} : (bitsOf l).testBit j = l.contains j := by
  induction l with
  | nil => simp [bitsOf]
  | cons i l ih =>
    rw [bitsOf, Nat.testBit_or, Nat.testBit_two_pow, ih, List.contains_cons]
    by_cases h : i = j
    · subst h; simp
    · have : ¬ j = i := fun e => h e.symm
      simp [h, this]
theorem inM_bits {l : List Nat} {m : Nat} (h : inM (bitsOf l) m = true) : ∀ j, j ∈ l → m.testBit j = true := fun j hj => by
  have h1 : bitsOf l &&& m = bitsOf l := by simpa [inM] using h
  have h2 : (bitsOf l).testBit j = true := by rw [testBit_bitsOf]; simpa using hj
  rw [← h1, Nat.testBit_and] at h2
  simp only [Bool.and_eq_true] at h2
  exact h2.2
theorem bits_inM {l : List Nat} {m : Nat} (h : ∀ j, j ∈ l → m.testBit j = true) : inM (bitsOf l) m = true := by
  have : bitsOf l &&& m = bitsOf l := by
    apply Nat.eq_of_testBit_eq
    intro j
    rw [Nat.testBit_and, testBit_bitsOf]
    by_cases hj : j ∈ l
    · simp [hj, h j hj]
    · simp [hj]
  simp [inM, this]
/-- the numbers say what the list says -/
structure RelM (ops : Array Oper) (m : Nat) (listed : Array Bool) : Prop where
  size : listed.size = ops.size
  bit : ∀ i, i < ops.size → listed.getD i true = m.testBit i
  out : ∀ i, ops.size ≤ i → m.testBit i = false
theorem RelM.bitF {m : Nat} {listed : Array Bool} (h : RelM ops m listed) (i : Nat) : listed.getD i false = m.testBit i := by
  rcases Nat.lt_or_ge i ops.size with hi | hi
  · rw [← h.bit i hi]
    have : i < listed.size := by rw [h.size]; exact hi
    simp [this]
  · rw [h.out i hi]
    have : ¬ i < listed.size := by rw [h.size]; omega
    simp [this]
theorem RelM.set {m : Nat} {listed : Array Bool} (h : RelM ops m listed) {i : Nat} (hi : i < ops.size) : RelM ops (m ||| 2 ^ i) (listed.setIfInBounds i true) := by
  refine ⟨by simp [h.size], fun j hj => ?_, fun j hj => ?_⟩
  · rw [Nat.testBit_or, Nat.testBit_two_pow, ← h.bit j hj]
    by_cases e : i = j
    · subst e
      have : i < listed.size := by rw [h.size]; exact hi
      simp [this]
    · rw [getD_set_ne true e]; simp [e]
  · rw [Nat.testBit_or, Nat.testBit_two_pow, h.out j hj]
    have : ¬ i = j := by omega
    simp [this]
theorem RelM.start : RelM ops 0 (Array.replicate ops.size false) := by
  refine ⟨by simp, fun i hi => ?_, fun i _ => by simp⟩
  rw [Array.getD_eq_getD_getElem?]; simp [hi]
theorem drop_cons {ops : Array Oper} {i : Nat} {o : Oper} {r : List Oper} (h : ops.toList.drop i = o :: r) : ops[i]? = some o ∧ ops.toList.drop (i + 1) = r := by
  have h1 : (ops.toList.drop i)[0]? = some o := by rw [h]; rfl
  rw [List.getElem?_drop, Nat.add_zero, Array.getElem?_toList] at h1
  refine ⟨h1, ?_⟩
  have := congrArg (List.drop 1) h
  rw [List.drop_drop] at this
  simpa using this
theorem mem_depL {o : Oper} {i : Nat} : i ∈ depL o ↔ ∃ e ∈ o.after, Region.binds .any e = true ∧ e.on = i := by
  unfold depL
  simp only [List.mem_map, List.mem_filter, Array.mem_toList_iff]
  constructor
  · rintro ⟨e, ⟨h1, h2⟩, h3⟩; exact ⟨e, h1, h2, h3⟩
  · rintro ⟨e, h1, h2, h3⟩; exact ⟨e, ⟨h1, h2⟩, h3⟩
theorem mem_confL {i : Nat} {o : Oper} : ∀ {j : Nat} {l : List Oper}, ops.toList.drop j = l → ∀ {x : Nat} {ox : Oper}, j ≤ x → ops[x]? = some ox → x ≠ i → o.apart ops ox = false → i ∉ depL ox → x ∈ confL ops i o j l
  | j, [], h, x, ox, hx, hox, _, _, _ => by
    have := (Array.getElem?_eq_some_iff.1 hox).1
    have h2 := congrArg List.length h
    simp at h2; omega
  | j, oj :: r, h, x, ox, hx, hox, h1, h2, h3 => by
    obtain ⟨g1, g2⟩ := drop_cons h
    unfold confL
    by_cases e : j = x
    · subst e
      rw [g1] at hox; injection hox with hox; subst hox
      have : (j == i || o.apart ops oj || (depL oj).contains i) = false := by
        simp only [Bool.or_eq_false_iff]
        exact ⟨⟨by simpa using h1, h2⟩, by simpa using h3⟩
      rw [this]; simp
    · have := mem_confL g2 (x := x) (by omega) hox h1 h2 h3
      split
      · exact this
      · exact List.mem_cons_of_mem _ this
/-- which may come up, off the tables -/
theorem mem_readyM {m : Nat} {listed : Array Bool} (hr : RelM ops m listed) {x : Nat} : ∀ {i : Nat} {l : List Oper}, ops.toList.drop i = l → (x ∈ readyM m i (tabsGo ops i l) ↔ i ≤ x ∧ x ∈ Region.ready .any ops listed)
  | i, [], h => by
    simp only [tabsGo, readyM, List.not_mem_nil, false_iff, not_and]
    intro hx hm
    obtain ⟨_, o, ho, _⟩ := mem_ready.1 hm
    have := (Array.getElem?_eq_some_iff.1 ho).1
    have h2 := congrArg List.length h
    simp at h2; omega
  | i, o :: r, h => by
    obtain ⟨g1, g2⟩ := drop_cons h
    have ih := mem_readyM hr (x := x) g2
    have hi := (Array.getElem?_eq_some_iff.1 g1).1
    have key : (!(m.testBit i) && inM (bitsOf (depL o)) m) = true ↔ i ∈ Region.ready .any ops listed := by
      rw [mem_ready, hr.bit i hi, Bool.and_eq_true, Bool.not_eq_true']
      constructor
      · rintro ⟨h1, h2⟩
        refine ⟨h1, o, g1, fun e he hb => ?_⟩
        rw [hr.bitF]
        exact inM_bits h2 _ (mem_depL.2 ⟨e, he, hb, rfl⟩)
      · rintro ⟨h1, o', ho', h2⟩
        rw [g1] at ho'; injection ho' with ho'; subst ho'
        refine ⟨h1, bits_inM fun j hj => ?_⟩
        obtain ⟨e, he, hb, rfl⟩ := mem_depL.1 hj
        rw [← hr.bitF]; exact h2 e he hb
    simp only [tabsGo, readyM]
    by_cases hc : (!(m.testBit i) && inM (bitsOf (depL o)) m) = true
    · rw [if_pos hc, List.mem_cons, ih]
      constructor
      · rintro (rfl | ⟨h1, h2⟩)
        · exact ⟨Nat.le_refl _, key.1 hc⟩
        · exact ⟨by omega, h2⟩
      · rintro ⟨h1, h2⟩
        by_cases e : x = i
        · exact .inl e
        · exact .inr ⟨by omega, h2⟩
    · rw [if_neg hc, ih]
      constructor
      · rintro ⟨h1, h2⟩; exact ⟨by omega, h2⟩
      · rintro ⟨h1, h2⟩
        refine ⟨?_, h2⟩
        have : x ≠ i := fun e => hc (key.2 (by rw [← e]; exact h2))
        omega
theorem readyM_iff {m : Nat} {listed : Array Bool} (hr : RelM ops m listed) {x : Nat} : x ∈ readyM m 0 (tabs ops) ↔ x ∈ Region.ready .any ops listed := by
  unfold tabs
  rw [mem_readyM hr (l := ops.toList) (by simp)]; simp
theorem readyM_nil {m : Nat} {listed : Array Bool} (hr : RelM ops m listed) (h : readyM m 0 (tabs ops) = []) : Region.ready .any ops listed = [] :=
  List.eq_nil_iff_forall_not_mem.2 fun x hx => by have := (readyM_iff hr).2 hx; rw [h] at this; cases this
theorem pickF_go {sk : Bool} {kn : List (Option (Nat × Bool))} {m : Nat} {listed : Array Bool} (hr : RelM ops m listed) {j : Nat} : ∀ {i : Nat} {l : List Oper}, ops.toList.drop i = l → pickF P sk kn H K ops m s i l (tabsGo ops i l) = some (j, o) →
    j ∈ Region.ready .any ops listed ∧ ops[j]? = some o ∧ Region.free .any ops listed j = true ∧ ∃ sk, isF P sk (has H.sym o.dst) (kOf K o) (gOf ops o) s o = true
  | i, [], h, hp => by simp [tabsGo, pickF] at hp
  | i, o' :: r, h, hp => by
    obtain ⟨g1, g2⟩ := drop_cons h
    simp only [tabsGo, pickF] at hp
    split at hp
    · rename_i hc
      injection hp with hp
      injection hp with hp1 hp2
      subst hp1; subst hp2
      simp only [Bool.and_eq_true, Bool.not_eq_true'] at hc
      obtain ⟨⟨⟨c1, c2⟩, c3⟩, c4⟩ := hc
      have hi := (Array.getElem?_eq_some_iff.1 g1).1
      refine ⟨mem_ready.2 ⟨by rw [hr.bit i hi]; exact c1, o', g1, fun e he hb => by rw [hr.bitF]; exact inM_bits c2 _ (mem_depL.2 ⟨e, he, hb, rfl⟩)⟩, g1, ?_, _, c4⟩
      unfold Region.free
      rw [g1]
      simp only [List.all_eq_true, List.mem_range, Bool.or_eq_true, beq_iff_eq]
      intro x hx
      by_cases hxi : x = i
      · exact .inl (.inl hxi)
      by_cases hl : listed.getD x true = true
      · exact .inl (.inr hl)
      right
      have hox : ops[x]? = some ops[x] := Array.getElem?_eq_getElem hx
      rw [hox]
      simp only [Bool.or_eq_true]
      by_cases hd : i ∈ depL ops[x]
      · left
        obtain ⟨e, he, hb, hon⟩ := mem_depL.1 hd
        exact Array.any_eq_true'.2 ⟨e, he, by simp [hb, hon]⟩
      · right
        cases ha : o'.apart ops ops[x] with
        | true => rfl
        | false =>
          have hm := mem_confL (ops := ops) (i := i) (o := o') (j := 0) (l := ops.toList) (by simp) (x := x) (by omega) hox hxi ha hd
          have := inM_bits c3 _ hm
          rw [hr.bit x hx] at hl
          exact absurd this hl
    · exact pickF_go hr g2 hp
theorem pickF_some {sk : Bool} {kn : List (Option (Nat × Bool))} {m : Nat} {listed : Array Bool} (hr : RelM ops m listed) {i : Nat} (h : pickF P sk kn H K ops m s 0 ops.toList (tabs ops) = some (i, o)) : i ∈ Region.ready .any ops listed ∧ ops[i]? = some o ∧ Region.free .any ops listed i = true ∧ ∃ sk, isF P sk (has H.sym o.dst) (kOf K o) (gOf ops o) s o = true :=
  pickF_go hr (by simp) h

/-- no late one has come up -/
def noLate (late : Nat → Bool) (listed : Array Bool) : Prop := ∀ j, late j = true → listed.getD j false = false
theorem noLate_set {late : Nat → Bool} {listed : Array Bool} {j : Nat} (h : noLate late listed) (hj : late j = false) : noLate late (listed.setIfInBounds j true) := fun k hk => by
  rw [getD_set_ne false (fun e => by rw [e, hk] at hj; cases hj)]; exact h k hk
theorem noLate_of_set {late : Nat → Bool} {listed : Array Bool} {j : Nat} (h : noLate late (listed.setIfInBounds j true)) : noLate late listed := fun k hk => by
  have := h k hk
  by_cases hj : j = k
  · subst hj
    rw [Array.getD_eq_getD_getElem?, Array.getElem?_setIfInBounds] at this
    by_cases hl : j < listed.size
    · simp [hl] at this
    · simp [hl]
  · rw [getD_set_ne false hj] at this; exact this
/-! ### orders: what holds behind each operation but the late ones -/
def wpAnyL (P : Program) (md : Region.Mode) (ops : Array Oper) (Q : Exit → Act → World → Prop) (S : World → Prop) (late : Nat → Bool) : Nat → Array Bool → Act → World → Prop
  | 0, listed, a, w => Region.ready md ops listed = [] ∧ Q .normal a w
  | fuel + 1, listed, a, w => (Region.ready md ops listed = [] → Q .normal a w) ∧
    ∀ i ∈ Region.ready md ops listed, wpOp P ops Q i (fun a' w' => (late i = false → noLate late listed → S w → S w') ∧ wpAnyL P md ops Q S late fuel (listed.setIfInBounds i true) a' w') a w
theorem wpAny_of_late {md : Region.Mode} {Q : Exit → Act → World → Prop} {late : Nat → Bool} : ∀ (fuel : Nat) (listed : Array Bool) (a : Act) (w : World), wpAnyL P md ops Q S late fuel listed a w → wpAny P md ops Q fuel listed a w
  | 0, _, _, _, h => h
  | fuel + 1, _, _, _, h => ⟨h.1, fun i hi => wpOp_mono (fun a' w' h' => wpAny_of_late fuel _ a' w' h'.2) (h.2 i hi)⟩
/-- an operation is taken first: it yields its value wherever T holds; T holds as long as it has not come up -/
theorem wpAnyL_first {md : Region.Mode} {Q : Exit → Act → World → Prop} {T : World → Prop} {late : Nat → Bool} {i : Nat} {oi : Oper} {v : Value} (hi : ops[i]? = some oi) (hsel : ∀ (j : Nat) (o : Oper) cs b, ops[j]? = some o → o.op ≠ .select cs b)
    (hQ : ∀ c a w, Q (.panic c) (a.put oi.dst v) w → Q (.panic c) a w)
    (h0 : late i = false) (hT : (∀ w, T w) ∨ ((∀ w, S w → T w) ∧ (∀ w, T w → S w) ∧ ∀ j oj, ops[j]? = some oj → late j = true → ∃ e, e ∈ oj.after ∧ Region.binds md e = true ∧ e.on = i)) :
    ∀ (fuel : Nat) (listed : Array Bool) (a : Act) (w : World),
      (∀ j oj, ops[j]? = some oj → j ≠ i → listed.getD j true = false → (∀ e ∈ oj.after, Region.binds md e = true → e.on ≠ i) → oi.apart ops oj = true) →
      i ∈ Region.ready md ops listed → YieldsIf P ops T oi v a → T w → ((∀ w, T w) ∨ noLate late listed) →
      wpAnyL P md ops Q S late fuel (listed.setIfInBounds i true) (a.put oi.dst v) w → wpAnyL P md ops Q S late (fuel + 1) listed a w := by
  intro fuel
  induction fuel with
  | zero =>
    intro listed a w _ hr hy hTw hnl H
    refine ⟨fun h => (by rw [h] at hr; cases hr), fun j hj => ?_⟩
    by_cases hji : j = i
    · subst hji; exact hy.wpOp hi hTw ⟨fun _ _ h => h, H⟩
    · have := ready_mono hj hji
      rw [H.1] at this
      cases this
  | succ fuel ih =>
    intro listed a w hfree hr hy hTw hnl H
    refine ⟨fun h => (by rw [h] at hr; cases hr), fun j hj => ?_⟩
    by_cases hji : j = i
    · subst hji; exact hy.wpOp hi hTw ⟨fun _ _ h => h, H⟩
    · obtain ⟨hjun, oj, hoj, hall⟩ := mem_ready.1 hj
      have h1 := H.2 j (ready_mono hj hji)
      have hnot : ∀ e ∈ oj.after, Region.binds md e = true → e.on ≠ i := fun e he hb heq => by
        have h2 := hall e he hb
        have h0 := (mem_ready.1 hr).1
        rw [heq] at h2
        rcases Nat.lt_or_ge i listed.size with h' | h'
        · simp [h'] at h0 h2; rw [h0] at h2; cases h2
        · simp [Array.getElem?_eq_none h'] at h2
      have h2 := wpOp_putIf hoj (hfree j oj hoj hji hjun hnot) (fun cs b => hsel i oi cs b hi) (fun cs b => hsel j oj cs b hoj) hQ hy h1
      have hfree' : ∀ k ok, ops[k]? = some ok → k ≠ i → (listed.setIfInBounds j true).getD k true = false →
          (∀ e ∈ ok.after, Region.binds md e = true → e.on ≠ i) → oi.apart ops ok = true := fun k ok hk hki hun hno => by
        refine hfree k ok hk hki ?_ hno
        by_cases hjk : j = k
        · subst hjk; exact hjun
        · rw [getD_set_ne true hjk] at hun; exact hun
      refine wpOp_mono (fun a' w' h3 => ?_) h2
      obtain ⟨y3, s3, k3⟩ := h3
      have hTS : T w' ∧ ((∀ w, T w) ∨ noLate late (listed.setIfInBounds j true)) := by
        rcases hT with hT | ⟨t1, t2, t3⟩
        · exact ⟨hT _, .inl hT⟩
        · have hl : late j = false := by
            cases hlj : late j with
            | false => rfl
            | true =>
              obtain ⟨e, he, hb, hon⟩ := t3 j oj hoj hlj
              exact absurd hon (hnot e he hb)
          rcases hnl with hnl | hnl
          · exact ⟨hnl _, .inl hnl⟩
          · exact ⟨t1 _ (s3 hl (noLate_set hnl h0) (t2 _ hTw)), .inr (noLate_set hnl hl)⟩
      refine ⟨fun h1 h2 h3 => s3 h1 (noLate_set h2 h0) h3, ih (listed.setIfInBounds j true) a' w' hfree' (ready_mono hr (Ne.symm hji)) y3 hTS.1 hTS.2 ?_⟩
      rw [Array.setIfInBounds_comm _ _ hji]
      exact k3
/-- what holds may be more, from here on -/
theorem wpAnyL_weak {md : Region.Mode} {Q : Exit → Act → World → Prop} {S S' : World → Prop} {late : Nat → Bool} (hS : ∀ w, S' w → S w) :
    ∀ (fuel : Nat) (listed : Array Bool) (a : Act) (w : World), (noLate late listed → S' w) → wpAnyL P md ops Q S' late fuel listed a w → wpAnyL P md ops Q S late fuel listed a w
  | 0, _, _, _, _, h => h
  | fuel + 1, listed, a, w, hw, h => ⟨h.1, fun i hi => wpOp_mono (fun a' w' h' => ⟨fun h1 h2 _ => hS _ (h'.1 h1 h2 (hw h2)), wpAnyL_weak hS fuel _ a' w' (fun hn => by
      have hl : late i = false := by
        cases hli : late i with
        | false => rfl
        | true =>
          have h5 := hn i hli
          have hjs : i < listed.size := by
            have := (mem_ready.1 hi).1
            rcases Nat.lt_or_ge i listed.size with h' | h'
            · exact h'
            · simp [Array.getElem?_eq_none h'] at this
          simp [hjs] at h5
      exact h'.1 hl (noLate_of_set hn) (hw (noLate_of_set hn))) h'.2⟩) (h.2 i hi)⟩
theorem kOf_ld {K : List Nat} (h : isLd o = true) : kOf K o = K := by simp [kOf, h]
theorem kOf_nl {K : List Nat} (h : isLd o = false) : kOf K o = [] := by simp [kOf, h]
/-- is there a load that has not come up? -/
def needL (ops : Array Oper) (listed : Array Bool) : Prop := ∃ (k : Nat) (ok : Oper), ops[k]? = some ok ∧ isLd ok = true ∧ listed.getD k true = false
theorem needL_set {listed : Array Bool} {j : Nat} (h : needL ops (listed.setIfInBounds j true)) : needL ops listed := by
  obtain ⟨k, ok, h1, h2, h3⟩ := h
  refine ⟨k, ok, h1, h2, ?_⟩
  by_cases hj : j = k
  · subst hj
    rw [Array.getD_eq_getD_getElem?, Array.getElem?_setIfInBounds] at h3
    by_cases hl : j < listed.size
    · simp [hl] at h3
    · simp [hl] at h3
  · rw [getD_set_ne true hj] at h3; exact h3
theorem lateB_spec {j k : Nat} {oj ok : Oper} (hj : ops[j]? = some oj) (h : lateB ops j = true) (hk : ops[k]? = some ok) (hl : isLd ok = true) : ∃ e, e ∈ oj.after ∧ Region.binds .any e = true ∧ e.on = k := by
  unfold lateB at h
  rw [hj] at h
  simp only [Bool.and_eq_true, List.all_eq_true, List.mem_range] at h
  have := h.2 k (Array.getElem?_eq_some_iff.1 hk).1
  rw [hk] at this
  simp only [hl, Bool.not_true, Bool.false_or] at this
  obtain ⟨e, he, hb⟩ := Array.any_eq_true'.1 this
  simp only [Bool.and_eq_true, beq_iff_eq] at hb
  exact ⟨e, he, hb.1, hb.2⟩
/-- behind a late one no load is left -/
theorem late_need {listed : Array Bool} {j : Nat} (hr : j ∈ Region.ready .any ops listed) (h : needL ops (listed.setIfInBounds j true)) : lateB ops j = false := by
  cases hl : lateB ops j with
  | false => rfl
  | true =>
    obtain ⟨_, oj, hoj, hall⟩ := mem_ready.1 hr
    obtain ⟨k, ok, h1, h2, h3⟩ := needL_set h
    obtain ⟨e, he, hb, rfl⟩ := lateB_spec hoj hl h1 h2
    have h4 := hall e he hb
    rcases Nat.lt_or_ge e.on listed.size with h' | h'
    · simp [h'] at h3 h4; rw [h3] at h4; cases h4
    · simp [Array.getElem?_eq_none h'] at h4
theorem late_turns {j : Nat} {oj : Oper} (hj : ops[j]? = some oj) (h : turns oj = false) : lateB ops j = false := by
  unfold lateB; rw [hj]; simp [h]
theorem spec_turns {sym : Bool} {x : B0} (h : spec P sym g s o = some x) : turns o = false := by
  unfold turns
  split
  · rename_i hop; simp [spec, hop] at h
  · rename_i hop; simp [spec, hop] at h
  · rename_i hop; simp [spec, hop] at h
  · rename_i hop; simp [spec, hop] at h
  · rename_i b _ _ hop
    cases b <;> first | rfl | (simp [spec, hop] at h; done)
  · rename_i c hnb hop
    obtain ⟨callee, args, ats⟩ := c
    cases callee with
    | builtin b => exact absurd rfl (fun e => hnb b args ats e)
    | _ => simp [spec, hop] at h
  · rfl
theorem isF_turns {sk sym : Bool} (h : isF P sk sym K g s o = true) : turns o = false := by
  unfold isF at h
  split at h
  · rename_i hop; simp [turns, hop]
  · simp only [Bool.or_eq_true] at h
    rcases h with (h | h) | h
    rotate_left 2
    · simp only [Bool.and_eq_true] at h
      replace h := h.2
      unfold skipB at h
      split at h
      · split at h
        · simp only [Bool.and_eq_true, Bool.not_eq_true'] at h; exact h.1
        · simpa using h
        · simpa using h
        · cases h
      · cases h
    · unfold isP at h
      split at h
      all_goals first
        | (rename_i hop; simp [turns, hop]; done)
        | (cases h; done)
    · cases hs : spec P sym g (restr K s) o with
      | none => rw [hs] at h; cases h
      | some x => exact spec_turns hs
theorem not_ld_run {K : List Nat} (h : isLd o = false) {t : TypeId} {x : Operand} (he : o.op = .load t x) : False := by
  simp [isLd, he] at h

/-- what holds in every world of the region -/
def SM (bs0 : Nat → Nat) (s0 : St) (K : List Nat) (w0 : World) : Option Facts → World → Prop
  | none, w => w = w0
  | some F, w => (∀ ad vs, (ad, vs) ∈ F → Cells w ad vs) ∧ ∀ i b, K.contains i = true → look s0.loc i = some b → w.heap[bs0 i]? = some (.cells b.cells.toArray b.ty (0, 0))

theorem ldF_run {t : TypeId} {ad : Addr} {k : Value → Prop} (h : ldF P F t ad k) :
    ∃ v, k v ∧ ∀ w', (∀ ad vs, (ad, vs) ∈ F → Cells w' ad vs) → (Instr.loadAt t (.pointer (some ad))).run P w' = .ok v w' := by
  unfold ldF at h
  simp only [Instr.loadAt, Instr.sureAddr, Sem.run_bind, Sem.run_pure, Result.andThen_ok]
  split at h
  · rename_i ha
    split at h
    · rename_i hz
      simp only [beq_iff_eq] at hz
      obtain ⟨vs, hl, hc, hk⟩ := exTys_elim h
      exact ⟨_, hk, fun w' hw => run_loadVar_cells ha hz ad vs hl (fun j v hj => hw _ _ hc j v hj)⟩
    · exact h.elim
  · rename_i ha
    split at h
    · rename_i d hd
      obtain ⟨v, hc, hk⟩ := exTy_elim h
      refine ⟨v, hk, fun w' hw => run_loadVar_one (by rw [hd]; rfl) (by simpa using ha) ad v ?_⟩
      have := hw _ _ hc 0 v rfl
      simpa [Addr.add] using this
    · exact h.elim

def lateM (m : Option Facts) (ops : Array Oper) : Nat → Bool := match m with
  | none => fun _ => false
  | some _ => lateB ops
theorem denAny_sound (hns : Region.noSelect ops = true) {s0 : St} {w0 : World} {D : List Nat} {k : St → Prop} (hD : ∀ o ∈ ops.toList, ∀ d, o.dst = some d → d ∈ D) :
    ∀ (n : Nat) {kn : List (Option (Nat × Bool))} {m : Option Facts} {mask : Nat} {listed : Array Bool} {bs s a w}, RelM ops mask listed → (∀ i, K.contains i = true → m ≠ none → i ∉ D) → denAny P B H K ops (tabs ops) n kn m mask s k → Inv bs B s a w → (∀ F, m = some F → noLate (lateB ops) listed → FactsIn F s) → (needL ops listed → noLate (lateB ops) listed) → (m = none → w = w0) →
      (m = none ∨ noLate (lateB ops) listed → ∀ i, K.contains i = true → look s.loc i = look s0.loc i) → (∀ i, i ∉ D → bs i = bs0 i) → (m = none → bs = bs0) → Agree D a0 a →
      wpAnyL P .any ops (fun e a' w' => e = .normal ∧ Left bs0 D B a0 k a' w') (SM bs0 s0 K w0 m) (lateM m ops) n listed a w := by
  intro n
  induction n with
  | zero =>
    intro kn m mask listed bs s a w hrel hKD h hi hF hI hm hl hb hb0 ha
    unfold denAny at h
    split at h
    · rename_i hr
      exact ⟨readyM_nil hrel hr, rfl, ⟨bs, s, h, hi, hb⟩, ha⟩
    · exact h.elim
  | succ n ih =>
    intro kn m mask listed bs s a w hrel hKD h hi hF hI hm hl hb hb0 ha
    have hSw : (m = none ∨ noLate (lateB ops) listed) → SM bs0 s0 K w0 m w := by
      intro hneed
      cases m with
      | none => exact hm rfl
      | some F =>
        have hneed : noLate (lateB ops) listed := by rcases hneed with e | e; cases e; exact e
        refine ⟨fun ad vs hin j v hj => ?_, fun i b hK hb' => ?_⟩
        · obtain ⟨h1, h2, h3⟩ := hF F rfl hneed ad vs hin
          exact hi.cell (h1 j v hj) (by rw [addr_block]; exact h3)
        · have := (hi.blk i b (by rw [hl (.inr hneed) i hK]; exact hb')).1
          rw [hb i (hKD i hK (by simp))] at this
          exact this
    unfold denAny at h
    split at h
    · rename_i i o hp
      simp only [norm_eq, fNat_eq] at h
      obtain ⟨h1, h2, h3, _, hisF⟩ := pickF_some hrel hp
      have hrel2 : RelM ops (mask ||| 2 ^ i) (listed.setIfInBounds i true) := hrel.set (Array.getElem?_eq_some_iff.1 h2).1
      have hlt : lateB ops i = false := late_turns h2 (isF_turns hisF)
      have hltM : lateM m ops i = false := by cases m with
        | none => rfl
        | some F => exact hlt
      have hmem : o ∈ ops.toList := by
        rw [← Array.getElem?_toList] at h2
        exact List.mem_of_getElem? h2
      have fin : ∀ {T : World → Prop} {v : Value} {s' : St}, YieldsIf P ops T o v a → denAny P B H K ops (tabs ops) n kn m (mask ||| 2 ^ i) s' k → Inv bs B s' (a.put o.dst v) w → s'.loc = s.loc → s'.u = s.u → s'.L = s.L → T w →
          ((∀ w, T w) ∨ ((∀ w, SM bs0 s0 K w0 m w → T w) ∧ (∀ w, T w → SM bs0 s0 K w0 m w) ∧ ∀ j oj, ops[j]? = some oj → lateM m ops j = true → ∃ e, e ∈ oj.after ∧ Region.binds .any e = true ∧ e.on = i)) →
          ((∀ w, T w) ∨ noLate (lateM m ops) listed) →
          wpAnyL P .any ops (fun e a' w' => e = .normal ∧ Left bs0 D B a0 k a' w') (SM bs0 s0 K w0 m) (lateM m ops) (n + 1) listed a w := by
        intro T v s' hy hn hi' hloc hu hL hTw hT hnl
        refine wpAnyL_first h2 (Region.noSelect_spec hns) (fun c a w hq => by cases hq.1) hltM hT n listed a w (Region.free_spec h2 h3) h1 hy hTw hnl ?_
        refine ih hrel2 hKD hn hi' (fun F hF' hnd => ?_) (fun hnd => noLate_set (hI (needL_set hnd)) hlt) hm (fun hc i hi => by rw [hloc]; exact hl (hc.imp id noLate_of_set) i hi) hb hb0 (ha.trans ((Agree.of_put (v := v) rfl).mono fun j hj => hD o hmem j (by simpa using hj)))
        have := hF F hF' (noLate_of_set hnd)
        unfold FactsIn FactsW at this ⊢
        rw [hu, hL]
        exact this
      by_cases hm0 : m = none
      · -- the world stands all through
        have hww : w = w0 := hm hm0
        obtain ⟨v, s', hn, hy, hi', hloc, hu, hL⟩ := denFloat_sound (S := fun w' => w' = w) h hi
          (fun w' hw' i b hb' => by
            rw [hw']
            simp only [restr, look_filter] at hb'
            split at hb'
            · exact (hi.blk i b hb').1
            · cases hb')
          (by
            intro _ t ad k hk
            subst hm0
            obtain ⟨v, hr, hk⟩ := ld_sound hi hk
            exact ⟨v, hk, fun w' hw' => by rw [hw']; exact hr⟩)
        refine fin hy hn hi' hloc hu hL rfl (.inr ⟨fun w' hw' => ?_, fun w' hw' => ?_, fun j oj hoj hlj => ?_⟩) (.inr fun j hj => ?_)
        · subst hm0; exact (show w' = w0 from hw').trans hww.symm
        · subst hm0; exact (show w' = w from hw').trans hww
        · subst hm0; cases hlj
        · subst hm0; cases hj
      obtain ⟨F, hmF⟩ : ∃ F, m = some F := by cases m with
        | none => exact absurd rfl hm0
        | some F => exact ⟨F, rfl⟩
      subst hmF
      cases hld : isLd o with
      | false =>
        rw [kOf_nl hld] at h
        obtain ⟨v, s', hn, hy, hi', hloc, hu, hL⟩ := denFloat_sound (S := fun _ => True) h hi
          (fun w' hw' i b hb' => by
            simp only [restr, look_filter] at hb'
            rw [if_neg (by simp)] at hb'; cases hb')
          (fun e => by rw [hld] at e; cases e)
        exact fin hy hn hi' hloc hu hL trivial (.inl fun _ => trivial) (.inl fun _ => trivial)
      | true =>
        have hneed : needL ops listed := ⟨i, o, h2, hld, (mem_ready.1 h1).1⟩
        rw [kOf_ld hld] at h
        obtain ⟨v, s', hn, hy, hi', hloc, hu, hL⟩ := denFloat_sound (S := SM bs0 s0 K w0 (some F)) h hi
          (by
            intro w' hw' i b hb'
            simp only [restr, look_filter] at hb'
            split at hb'
            · rename_i hK
              rw [hb i (hKD i hK (by simp))]
              exact hw'.2 i b hK (by rw [← hl (.inr (hI hneed)) i hK]; exact hb')
            · cases hb')
          (by
            intro _ t ad k hk
            obtain ⟨v, hk, hr⟩ := ldF_run hk
            exact ⟨v, hk, fun w' hw' => hr w' hw'.1⟩)
        exact fin hy hn hi' hloc hu hL (hSw (.inr (hI hneed))) (.inr ⟨fun _ h => h, fun _ h => h, fun j oj hoj hlj => lateB_spec hoj hlj h2 hld⟩) (.inr (hI hneed))
    · split at h
      · rename_i hr
        exact ⟨fun _ => ⟨rfl, ⟨bs, s, h, hi, hb⟩, ha⟩, by rw [readyM_nil hrel hr]; simp⟩
      · rename_i x r hr
        split at h
        · rename_i F hpk0
          refine ⟨fun h0 => ?_, fun j hj => ?_⟩
          · have := (readyM_iff hrel (x := x)).1 (by rw [hr]; simp)
            rw [h0] at this; cases this
          have h := allB_elim h j (by rw [← hr]; exact (readyM_iff hrel).2 hj)
          split at h
          · rename_i o ho
            simp only [norm_eq, fNat_eq] at h
            have hrel2 : RelM ops (mask ||| 2 ^ j) (listed.setIfInBounds j true) := hrel.set (Array.getElem?_eq_some_iff.1 ho).1
            have hmem : o ∈ ops.toList := by
              rw [← Array.getElem?_toList] at ho
              exact List.mem_of_getElem? ho
            have hE := denEv_sound (N := lateB ops j = false ∧ noLate (lateB ops) listed) (Q := fun e a' w' => e = .normal ∧ Left bs0 D B a0 k a' w') (fun hn => hn.1) h hi (fun hn => hF F rfl hn.2)
            have step : ∀ a' w', EvRes (lateB ops j = false ∧ noLate (lateB ops) listed) bs K F B s o.dst a (fun s' => extF (needB (mask ||| 2 ^ j) 0 ops.toList) F s' fun F1 => denAny P B H K ops (tabs ops) n (gOf ops o :: kn) (some F1) (mask ||| 2 ^ j) s' k) a' w' →
                (lateM (some F) ops j = false → noLate (lateM (some F) ops) listed → SM bs0 s0 K w0 (some F) w → SM bs0 s0 K w0 (some F) w') ∧ wpAnyL P .any ops (fun e a' w' => e = .normal ∧ Left bs0 D B a0 k a' w') (SM bs0 s0 K w0 (some F)) (lateM (some F) ops) n (listed.setIfInBounds j true) a' w' := by
              rintro a' w' ⟨⟨bs', s', g1, g2, g3, g4, g5⟩, g6⟩
              have hbs' : ∀ i, i ∉ D → bs' i = bs0 i := fun i hin => (g5 i (fun e => hin (hD o hmem i (by simpa using e)))).trans (hb i hin)
              have hlx : lateB ops j = false ∧ noLate (lateB ops) listed → ∀ i, K.contains i = true → look s'.loc i = look s0.loc i := fun hc i hK => (g4 hc i hK).trans (hl (.inr hc.2) i hK)
              have hjl : noLate (lateB ops) (listed.setIfInBounds j true) → listed.getD j false = false → True := fun _ _ => trivial
              have hlj : noLate (lateB ops) (listed.setIfInBounds j true) → lateB ops j = false := fun hnd => by
                cases hlj : lateB ops j with
                | false => rfl
                | true =>
                  have h5 := hnd j hlj
                  have hjs : j < listed.size := by
                    have := (mem_ready.1 hj).1
                    rcases Nat.lt_or_ge j listed.size with h' | h'
                    · exact h'
                    · simp [Array.getElem?_eq_none h'] at this
                  simp [hjs] at h5
              have hloc : lateB ops j = false ∧ noLate (lateB ops) listed → ∀ i b, K.contains i = true → look s0.loc i = some b → w'.heap[bs0 i]? = some (.cells b.cells.toArray b.ty (0, 0)) := fun hc i b hK hb' => by
                have := (g2.blk i b (by rw [hlx hc i hK]; exact hb')).1
                rw [hbs' i (hKD i hK (by simp))] at this
                exact this
              have hcells : ∀ {F : Facts}, FactsIn F s' → ∀ ad vs, (ad, vs) ∈ F → Cells w' ad vs := fun hF ad vs hin j v hj => by
                obtain ⟨q1, q2, q3⟩ := hF ad vs hin
                exact g2.cell (q1 j v hj) (by rw [addr_block]; exact q3)
              have hgo : ∀ (F1 : Facts), (noLate (lateB ops) (listed.setIfInBounds j true) → FactsIn F1 s') → denAny P B H K ops (tabs ops) n (gOf ops o :: kn) (some F1) (mask ||| 2 ^ j) s' k →
                  wpAnyL P .any ops (fun e a' w' => e = .normal ∧ Left bs0 D B a0 k a' w') (SM bs0 s0 K w0 (some F1)) (lateM (some F1) ops) n (listed.setIfInBounds j true) a' w' := fun F1 hF1 hd =>
                ih hrel2 (fun i hK _ => hKD i hK (by simp)) hd g2 (fun F' hF' hnd => by injection hF' with hF'; subst hF'; exact hF1 hnd)
                  (fun hnd => noLate_set (hI (needL_set hnd)) (late_need hj hnd)) (fun e => by cases e) (fun hc => hlx ((hc.resolve_left (by simp)) |> fun hnd => ⟨hlj hnd, noLate_of_set hnd⟩)) hbs' (fun e => by cases e) (ha.trans (g6.mono fun j hj => hD o hmem j (by simpa using hj)))
              refine ⟨fun hlt hnl hS => ⟨hcells (g3 ⟨hlt, hnl⟩), hloc ⟨hlt, hnl⟩⟩, ?_⟩
              unfold extF at g1
              split at g1
              · obtain ⟨F1, hF1, hsub, hd⟩ := g1
                exact wpAnyL_weak (S' := SM bs0 s0 K w0 (some F1)) (fun w hw => ⟨fun ad vs hin => hw.1 ad vs (hsub _ hin), hw.2⟩) n _ _ _ (fun hnd => ⟨hcells hF1, hloc ⟨hlj hnd, noLate_of_set hnd⟩⟩) (hgo F1 (fun _ => hF1) hd)
              · exact hgo F (fun hnd => g3 ⟨hlj hnd, noLate_of_set hnd⟩) g1
            unfold wpOp
            simp only [ho]
            by_cases hw : Region.wanted o (yielded ops a.tmps) = true
            · rw [if_pos hw] at hE ⊢
              exact .inl (Oper.wp_mono step hE)
            · rw [if_neg hw] at hE ⊢
              exact step _ _ hE
          · exact h.elim
        · exact h.elim

theorem Inv.drawn_ (hi : Inv bs B s a w) : Inv bs B { s with dirty := true } a { w with drawn := w.drawn + 1 } :=
  ⟨hi.defers, hi.size, hi.slots, hi.blk, hi.inj, ⟨hi.hid.os, hi.hid.tape, hi.hid.output, hi.hid.size, by have := hi.hid.drawn; simp; omega, hi.hid.block⟩, fun e => (by cases e), fun e => (by cases e), hi.base, hi.llt⟩

theorem denDraw_sound {id : Nat} {k : St → Prop} {D : List Nat} (hD : ∀ o ∈ ops.toList, ∀ d, o.dst = some d → d ∈ D) (hD' : ∀ i, i ∈ D → i ∈ ops.toList.filterMap (·.dst)) (h : denDraw P B H id ops s k) (hi : Inv bs B s a w) :
    (Code.region id ops true).wp P (fun e a' w' => e = .normal ∧ Left bs D B a k a' w') a w := by
  unfold denDraw at h
  have hno : noLate (lateB ops) (Array.replicate ops.size false) := fun j _ => by
    rw [Array.getD_eq_getD_getElem?]
    by_cases hj : j < ops.size
    · simp [hj]
    · simp [hj]
  split at h
  · rename_i hc
    simp only [Bool.and_eq_true] at hc
    rw [fTab_eq] at h
    split at h
    · refine wp_region_any hc.1 (wpAny_of_late _ _ _ _ (denAny_sound (m := none) (s0 := s) (w0 := { w with drawn := w.drawn + 1 }) hc.2 hD _ RelM.start (fun i _ hn => absurd rfl hn) h hi.drawn_ (fun F e => by cases e) (fun _ => hno) (fun _ => rfl) (fun _ _ _ => rfl) (fun _ _ => rfl) (fun _ => rfl) (Agree.refl _ _)))
    · obtain ⟨F, hF, h⟩ := h
      refine wp_region_any hc.1 (wpAny_of_late _ _ _ _ (denAny_sound (m := some F) (s0 := s) (w0 := { w with drawn := w.drawn + 1 }) hc.2 hD _ RelM.start ?_ h hi.drawn_ (fun F' e _ => by injection e with e; subst e; exact hF) (fun _ => hno) (fun e => by cases e) (fun _ _ _ => rfl) (fun _ _ => rfl) (fun e => by cases e) (Agree.refl _ _)))
      intro i hK _ hin
      have h3 := List.mem_filterMap.1 (hD' i hin)
      obtain ⟨o, ho, hd⟩ := h3
      simp at hK
      exact hK.2.2 o (by simpa using ho) hd
  · exact h.elim
end
end Go.X
