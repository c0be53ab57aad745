import Derived.Test.YthlhoikeacgfnaaXSound0
/- The engine, part 9b: regions whose order the tape draws are sound. -/
namespace Go.X
open Go
section
variable {P : Program} {bs bs0 : Nat → Nat} {B : Nat} {s : St} {a a0 : Act} {w : World} {H : Hints} {ops : Array Oper} {o : Oper} {Q : Exit → Act → World → Prop} {g : Option (Nat × Bool)} {next : St → Prop}
  {K : List Nat} {m : Option Facts} {S : World → Prop} {F : Facts}

theorem look_filter (l : List (Nat × Blk)) (i : Nat) : look (l.filter fun p => K.contains p.1) i = if K.contains i then look l i else none := by
  induction l with
  | nil => simp [look]
  | cons x r ih =>
    obtain ⟨j, b⟩ := x
    simp only [List.filter_cons]
    by_cases hj : K.contains j = true
    · simp only [hj, if_true, look]
      by_cases h : j = i
      · subst h; rw [if_pos rfl, if_pos rfl, if_pos hj]
      · rw [if_neg h, if_neg h]; exact ih
    · have hj' : K.contains j = false := by simpa using hj
      simp only [hj', Bool.false_eq_true, if_false, look]
      rw [ih]
      by_cases h : j = i
      · subst h; rw [if_neg hj, if_neg hj]
      · rw [if_neg h]

theorem floatStep_sound (h : floatStep P H m K g o s next) (hi : Inv bs B s a w) (hg : GH g a.tmps)
    (hS1 : ∀ w', S w' → ∀ i b, look (restr K s).loc i = some b → w'.heap[bs i]? = some (.cells b.cells.toArray b.ty (0, 0)))
    (hS2 : ∀ t ad k, ldM P m s t ad k → ∃ v, k v ∧ ∀ w', S w' → (Instr.loadAt t (.pointer (some ad))).run P w' = .ok v w') :
    ∃ x : B0, next (setb s o x) ∧ ∀ w', S w' → (execOp a.eval o).run P w' = .ok (.value (x.real bs)) w' := by
  unfold floatStep at h
  split at h
  · rename_i x hx
    exact ⟨x, h, fun w' hw => spec_sound (s := restr K s) ⟨hi.sget_, hS1 w' hw⟩ hg hx⟩
  · split at h
    · rename_i t x hop
      split at h
      · rename_i p hx
        obtain ⟨ad, rfl, hk⟩ := onSome_elim h
        obtain ⟨v, hn, hr⟩ := hS2 _ _ _ hk
        have he : a.eval x = .pointer (some ad) := hi.ov_ hg hx
        refine ⟨.v v, hn, fun w' hw => ?_⟩
        simp only [execOp, hop, he]
        rw [Sem.run_bind, hr w' hw]; rfl
      · exact h.elim
    · split at h
      · obtain ⟨x, hn, hr⟩ := genP_sound h hi hg
        exact ⟨x, hn, fun w' _ => hr w'⟩
      · exact h.elim

theorem gSlot_none (h : gSlot ops o = some none) : o.guard = none := by
  unfold gSlot at h
  split at h
  · assumption
  · rename_i j want hg
    cases hd : (ops[j]?).bind (·.dst) with
    | none => rw [hd] at h; cases h
    | some d => rw [hd] at h; cases h
theorem gSlot_some {gs : Nat} {want : Bool} (h : gSlot ops o = some (some (gs, want))) : ∃ j, o.guard = some (j, want) ∧ (ops[j]?).bind (·.dst) = some gs := by
  unfold gSlot at h
  split at h
  · cases h
  · rename_i j want' hg
    cases hd : (ops[j]?).bind (·.dst) with
    | none => rw [hd] at h; cases h
    | some d =>
      rw [hd] at h
      simp only [Option.map_some, Option.some.injEq, Prod.mk.injEq] at h
      obtain ⟨rfl, rfl⟩ := h
      exact ⟨j, hg, hd⟩

theorem denFloat_sound (h : denFloat P H m K ops o s next) (hi : Inv bs B s a w)
    (hS1 : ∀ w', S w' → ∀ i b, look (restr K s).loc i = some b → w'.heap[bs i]? = some (.cells b.cells.toArray b.ty (0, 0)))
    (hS2 : ∀ t ad k, ldM P m s t ad k → ∃ v, k v ∧ ∀ w', S w' → (Instr.loadAt t (.pointer (some ad))).run P w' = .ok v w') :
    ∃ v s', next s' ∧ YieldsIf P ops S o v a ∧ Inv bs B s' (a.put o.dst v) w ∧ s'.loc = s.loc ∧ s'.u = s.u ∧ s'.L = s.L := by
  unfold denFloat at h
  split at h
  · exact h.elim
  · rename_i hgs
    obtain ⟨x, hn, hr⟩ := floatStep_sound (g := none) h hi trivial hS1 hS2
    exact ⟨_, _, hn, .inl ⟨by simp [Region.wanted, gSlot_none hgs], hr⟩, hi.putB o.dst x _ rfl, rfl, rfl, rfl⟩
  · rename_i gs want hgs
    obtain ⟨j, hg, hd⟩ := gSlot_some hgs
    have hw := wanted_iff (a := a) hg hd
    split at h
    · rename_i x hx
      split at h
      · exact h.elim
      rename_i hds
      by_cases hq : a.tmps.getD gs undef = .bool want
      · refine ⟨_, _, h, .inl ⟨hw.2 hq, fun w' hw' => spec_sound (s := restr K s) (g := some (gs, want)) ⟨hi.sget_, hS1 w' hw'⟩ hq hx⟩, hi.put o.dst _ _ fun d hd' => ⟨fun _ => rfl, fun hn => ?_⟩, rfl, rfl, rfl⟩
        rw [getD_set] at hn
        split at hn
        · rename_i hc
          exact absurd (by rw [hd', hc.1]) hds
        · exact absurd hq hn
      · refine ⟨undef, _, h, .inr ⟨by simpa using fun e => hq (hw.1 e), rfl⟩, hi.put o.dst _ _ fun d hd' => ⟨fun hn => ?_, fun _ => rfl⟩, rfl, rfl, rfl⟩
        rw [getD_set] at hn
        split at hn
        · cases hn
        · exact absurd hn hq
    · obtain ⟨s', hi', hl, hu, hL, ⟨hq, hk⟩ | ⟨hq, hk⟩⟩ := guardIf_sound hi h
      · obtain ⟨x, hn, hr⟩ := floatStep_sound (g := some (gs, want)) hk hi' hq (by simpa only [restr, hl] using hS1) (by
          intro t ad k hk
          refine hS2 t ad k ?_
          cases m with
          | none => simpa only [ldM, ldVC, hu, hL] using hk
          | some F => exact hk)
        exact ⟨_, _, hn, .inl ⟨hw.2 hq, hr⟩, hi'.putB o.dst x _ rfl, hl, hu, hL⟩
      · exact ⟨undef, _, hk, .inr ⟨by simpa using fun e => hq (hw.1 e), rfl⟩, hi'.putB o.dst (.v undef) undef rfl, hl, hu, hL⟩

/-! ### events -/
theorem sync_mono {k k' : World → Option (List Nat) → Prop} (hk : ∀ w L, k w L → k' w L) (h : sync B s k) : sync B s k' := by
  unfold sync at h ⊢
  split at h
  · split at h
    · exact fun w hw => hk _ _ (h w hw)
    · exact fun w L hw hn => hk _ _ (h w L hw hn)
  · split at h
    · exact hk _ _ h
    · exact hk _ _ h
theorem exTy_mono {t : Ty} {p q : Value → Prop} (hpq : ∀ v, p v → q v) (h : exTy t p) : exTy t q := by
  cases t <;> simp only [exTy] at h ⊢
  case slice => obtain ⟨x, y, z, h⟩ := h; exact ⟨x, y, z, hpq _ h⟩
  all_goals (obtain ⟨x, h⟩ := h; exact ⟨x, hpq _ h⟩)
theorem exTys_mono {ts : List Ty} : ∀ {p q : List Value → Prop}, (∀ v, p v → q v) → exTys ts p → exTys ts q := by
  induction ts with
  | nil => intro p q hpq h; exact hpq _ h
  | cons t ts ih => intro p q hpq h; exact exTy_mono (fun v => ih fun vs => hpq _) h
theorem exOne_mono {t : TypeId} {p q : Value → Prop} (hpq : ∀ v, p v → q v) (h : exOne P t p) : exOne P t q := by
  unfold exOne at h ⊢
  by_cases ha : aggT P t = true
  · rw [if_pos ha] at h ⊢
    exact exTys_mono (fun vs => hpq _) h
  · rw [if_neg ha] at h ⊢
    cases hu : P.underlying t with
    | none => simp only [hu] at h
    | some d => simp only [hu] at h ⊢; exact exTy_mono hpq h
theorem exMany_mono {ts : List TypeId} : ∀ {p q : List Value → Prop}, (∀ v, p v → q v) → exMany P ts p → exMany P ts q := by
  induction ts with
  | nil => intro p q hpq h; exact hpq _ h
  | cons t ts ih => intro p q hpq h; exact exOne_mono (fun v => ih fun vs => hpq _) h
theorem exVal_mono {t : TypeId} {p q : Value → Prop} (hpq : ∀ v, p v → q v) (h : exVal P t p) : exVal P t q := by
  unfold exVal at h ⊢
  split at h
  · exact exMany_mono (fun vs => hpq _) h
  · exact exOne_mono hpq h
  · exact h
theorem keptL_mono {L : Option (List Nat)} {w w' : World} {p q : Prop} (hpq : p → q) (h : keptL L w w' p) : keptL L w w' q := by
  cases L with
  | none => exact ⟨h.1, hpq h.2⟩
  | some l => exact ⟨h.1, hpq h.2⟩
theorem newOp_mono {nx nx' : St → Prop} (hn : ∀ v w L, nx (setev s o v w L) → nx' (setev s o v w L)) (h : newOp P B g o s nx) : newOp P B g o s nx' := by
  unfold newOp at h ⊢
  by_cases hall : (o.op.operands.toList.all fun x => (val g s.fr x).isSome) = true
  · rw [if_pos hall] at h ⊢
    refine sync_mono (fun w L hk => ?_) h
    cases hv : nev P (execOp (ρ_ g s) o) w with
    | none => simp only [hv] at hk
    | some r =>
      obtain ⟨n, w2⟩ := r
      cases n <;> simp only [hv] at hk ⊢
      exact hn _ _ _ hk
  · rw [if_neg hall] at h
    exact h.elim
theorem rawOp_mono {nx nx' : St → Prop} (hn : ∀ v w L, nx (setev s o v w L) → nx' (setev s o v w L)) (h : rawOp P B g o s nx) : rawOp P B g o s nx' := by
  unfold rawOp at h ⊢
  by_cases hall : (o.op.operands.toList.all fun x => (val g s.fr x).isSome) = true
  · rw [if_pos hall] at h ⊢
    cases hv : semV (ρ_ g s) o with
    | some sem =>
      simp only [hv] at h ⊢
      refine sync_mono (fun w L hk => exVal_mono (fun v hk => ?_) hk) h
      obtain ⟨w2, h1, h2⟩ := hk
      exact ⟨w2, h1, keptL_mono (hn _ _ _) h2⟩
    | none =>
      simp only [hv] at h ⊢
      cases hu : semU (ρ_ g s) o with
      | some sem =>
        simp only [hu] at h ⊢
        refine sync_mono (fun w L hk => ?_) h
        obtain ⟨w2, h1, h2⟩ := hk
        exact ⟨w2, h1, keptL_mono (hn _ _ _) h2⟩
      | none => simp only [hu] at h
  · rw [if_neg hall] at h
    exact h.elim
theorem callOp_mono {nx nx' : St → Prop} (hn : ∀ v w L, nx (setev s o v w L) → nx' (setev s o v w L)) (h : callOp P B g o s nx) : callOp P B g o s nx' := by
  unfold callOp at h ⊢
  by_cases hall : (o.op.operands.toList.all fun x => (val g s.fr x).isSome) = true
  · rw [if_pos hall] at h ⊢
    cases hv : pev P (execOp (ρ_ g s) o) with
    | none => simp only [hv] at h
    | some n =>
      cases n <;> simp only [hv] at h ⊢
      refine sync_mono (fun w L hk => ⟨hk.h.mono fun e w2 he => exVal_mono (fun v hk => ?_) he⟩) h
      exact ⟨hk.1, keptL_mono (hn _ _ _) hk.2⟩
  · rw [if_neg hall] at h
    exact h.elim

/-- what an event leaves -/
def EvRes (bs0 : Nat → Nat) (K : List Nat) (F : Facts) (B : Nat) (s0 : St) (dst : Option Nat) (a0 : Act) (next : St → Prop) (a : Act) (w : World) : Prop :=
  (∃ bs s, next s ∧ Inv bs B s a w ∧ FactsIn F s ∧ (∀ i, K.contains i = true → look s.loc i = look s0.loc i) ∧ ∀ i, i ∉ dst.toList → bs i = bs0 i) ∧ Agree dst.toList a0 a

theorem evStep_sound (h : evStep P B H F K g o s next) (hi : Inv bs B s a w) (hg : GH g a.tmps) (hF : FactsIn F s) : o.wp P a w (EvRes bs K F B s o.dst a next) Q := by
  have lift : ∀ {nx : St → Prop}, (∀ s', nx s' → s'.loc = s.loc ∧ FactsIn F s' ∧ next s') → o.wp P a w (Res bs o.dst B nx) Q → o.wp P a w (EvRes bs K F B s o.dst a next) Q := fun {nx} hnx hw =>
    Oper.wp_mono (fun a' w' ⟨⟨bs', s', h1, h2, h3⟩, h4⟩ => by
      obtain ⟨g1, g2, g3⟩ := hnx s' h1
      exact ⟨⟨bs', s', g3, h2, g2, fun i _ => by rw [g1], fun i hin => h3 i (fun e => hin (by simp [e]))⟩, h4⟩) (wp_dst hw)
  have L1 : ∀ v w L, (FactsIn F (setev s o v w L) ∧ next (setev s o v w L)) → (setev s o v w L).loc = s.loc ∧ FactsIn F (setev s o v w L) ∧ next (setev s o v w L) := fun v w L h => ⟨rfl, h⟩
  have hnew : newOp P B g o s (fun s' => FactsIn F s' ∧ next s') → (∀ cs b, o.op ≠ .select cs b) → o.wp P a w (EvRes bs K F B s o.dst a next) Q := fun h hs =>
    lift (nx := fun s' => s'.loc = s.loc ∧ FactsIn F s' ∧ next s') (fun s' h => h) (newOp_sound (newOp_mono L1 h) hi hg hs)
  have hraw : rawOp P B g o s (fun s' => FactsIn F s' ∧ next s') → (∀ cs b, o.op ≠ .select cs b) → o.wp P a w (EvRes bs K F B s o.dst a next) Q := fun h hs =>
    lift (nx := fun s' => s'.loc = s.loc ∧ FactsIn F s' ∧ next s') (fun s' h => h) (rawOp_sound (rawOp_mono L1 h) hi hg hs)
  have hcall : callOp P B g o s (fun s' => FactsIn F s' ∧ next s') → (∀ cs b, o.op ≠ .select cs b) → o.wp P a w (EvRes bs K F B s o.dst a next) Q := fun h hs =>
    lift (nx := fun s' => s'.loc = s.loc ∧ FactsIn F s' ∧ next s') (fun s' h => h) (callOp_sound (callOp_mono L1 h) hi hg hs)
  have hK : ∀ {i : Nat} {b : Blk}, ¬ (K.contains i = true) → ∀ j, K.contains j = true → look (upd s.loc i b) j = look s.loc j := fun {i b} hn j hj => by
    rw [look_upd, if_neg (fun e => hn (by rw [e]; exact hj))]
  unfold evStep at h
  simp only at h
  split at h
  · rename_i t hop
    have hs : ∀ cs b, o.op ≠ .select cs b := fun cs b e => by rw [hop] at e; cases e
    split at h
    · rename_i z hz
      split at h
      · rename_i hl
        split at h
        · exact h.elim
        rename_i hnk
        have hr : (execOp a.eval o).run P w = .ok (.value (.pointer (some ⟨w.heap.size, 0, none⟩))) (w.alloc (.cells z.cells.toList.toArray t)) := by
          cases hq : P.info? t with
          | none => simp [hq] at hz
          | some i =>
            have : i.zero = some z := by simpa [hq] using hz
            simp [execOp, hop, Instr.alloc, zeroValue, typeInfo, hq, this, newVar, newRow]
        exact wp_value hr ⟨⟨_, _, h, hi.allocL_ (o.dst.getD 0) z.cells.toList t o.dst, hF, hK hnk, fun i hin => has_dst hl i (fun e => hin (by simp [e]))⟩, Agree.of_put (v := _) rfl⟩
      · exact hnew h hs
    · exact h.elim
  · rename_i t x hop
    have hs : ∀ cs b, o.op ≠ .select cs b := fun cs b e => by rw [hop] at e; cases e
    split at h
    · rename_i v hv
      split at h
      · rename_i hl
        split at h
        · exact h.elim
        rename_i hnk
        have hr : (execOp a.eval o).run P w = .ok (.value (.pointer (some ⟨w.heap.size, 0, none⟩))) (w.alloc (.cells v.cells.toList.toArray t)) := by
          simp [execOp, hop, hi.val_ hg hv, Instr.box, newVar, newRow]
        exact wp_value hr ⟨⟨_, _, h, hi.allocL_ (o.dst.getD 0) v.cells.toList t o.dst, hF, hK hnk, fun i hin => has_dst hl i (fun e => hin (by simp [e]))⟩, Agree.of_put (v := _) rfl⟩
      · exact hnew h hs
    · exact h.elim
  · rename_i hop; exact hnew h (fun cs b e => by rw [hop] at e; cases e)
  · rename_i hop; exact hnew h (fun cs b e => by rw [hop] at e; cases e)
  · rename_i t x y hop
    have hs : ∀ cs b, o.op ≠ .select cs b := fun cs b e => by rw [hop] at e; cases e
    split at h
    · rename_i i off v hx hy
      split at h
      · rename_i bk hb
        split at h
        · rename_i hc
          simp only [Bool.and_eq_true, beq_iff_eq, decide_eq_true_eq, Bool.not_eq_true'] at hc
          obtain ⟨⟨⟨hz, hfit⟩, h1⟩, hnk⟩ := hc
          have he : a.eval x = .pointer (some ⟨bs i, off, none⟩) := hi.ov_ hg hx
          have hr : (execOp a.eval o).run P w = .ok .skip (w.setRow (bs i) (splice bk.cells off v.cells.toList).toArray) := by
            simp only [execOp, hop, he, hi.val_ hg hy]
            rw [Sem.run_bind, run_storeAt_row (hi.blk i bk hb).1 hz hfit h1]
            rfl
          exact wp_skip_ hr ⟨⟨bs, _, h, (hi.storeL hb _).putB o.dst (.v undef) undef rfl, hF, hK (by rw [hnk]; exact Bool.false_ne_true), fun _ _ => rfl⟩, Agree.of_put (v := _) rfl⟩
        · exact h.elim
      · exact h.elim
    · rename_i p v hx hy
      -- the public store: by 'gen'
      have hgen : gen P B H g o s (fun s' => s'.loc = s.loc ∧ FactsIn F s' ∧ next s') := by
        unfold gen
        rw [if_neg (by simp [isP, hop])]
        simp only [hop, hx, hy]
        unfold onSome at h ⊢
        cases p with
        | none => exact h
        | some ad =>
          simp only at h ⊢
          split at h
          · rename_i hc
            rw [if_pos hc]
            refine sync_mono (fun w L ⟨h1, h2, h3⟩ => ⟨h1, h2, ?_⟩) h
            cases L with
            | none => exact ⟨rfl, h3⟩
            | some l => exact ⟨h3.1, rfl, h3.2⟩
          · exact h.elim
      exact lift (nx := fun s' => s'.loc = s.loc ∧ FactsIn F s' ∧ next s') (fun s' h => h) (gen_sound hgen hi hg)
    · exact h.elim
  · rename_i hop; exact hraw h (fun cs b e => by rw [hop] at e; cases e)
  · rename_i hop; exact hcall h (fun cs b e => by rw [hop] at e; cases e)
  · refine hraw h (fun cs b e => ?_)
    unfold rawOp at h
    split at h
    · simp [semV, semU, e] at h
    · exact h

theorem denEv_sound (h : denEv P B H F K ops o s next) (hi : Inv bs B s a w) (hF : FactsIn F s) :
    if Region.wanted o (yielded ops a.tmps) = true then o.wp P a w (EvRes bs K F B s o.dst a next) Q else EvRes bs K F B s o.dst a next (a.put o.dst undef) w := by
  unfold denEv at h
  split at h
  · exact h.elim
  · rename_i hgs
    rw [if_pos (by simp [Region.wanted, gSlot_none hgs])]
    exact evStep_sound (g := none) h hi trivial hF
  · rename_i gs want hgs
    obtain ⟨j, hg, hd⟩ := gSlot_some hgs
    have hw := wanted_iff (a := a) hg hd
    obtain ⟨s', hi', hl, hu, hL, ⟨hq, hk⟩ | ⟨hq, hk⟩⟩ := guardIf_sound hi h
    · rw [if_pos (hw.2 hq)]
      have hF' : FactsIn F s' := by unfold FactsIn at hF ⊢; rw [hu, hL]; exact hF
      have := evStep_sound (Q := Q) (g := some (gs, want)) hk hi' hq hF'
      exact Oper.wp_mono (fun a' w' ⟨⟨bs', s2, g1, g2, g3, g4, g5⟩, g6⟩ => ⟨⟨bs', s2, g1, g2, g3, fun i hK => (g4 i hK).trans (by rw [hl]), g5⟩, g6⟩) this
    · rw [if_neg (fun e => hq (hw.1 e))]
      have hF' : FactsIn F s' := by unfold FactsIn at hF ⊢; rw [hu, hL]; exact hF
      exact ⟨⟨bs, _, hk, hi'.putB o.dst (.v undef) undef rfl, hF', fun _ _ => by rw [← hl], fun _ _ => rfl⟩, Agree.of_put (v := undef) rfl⟩

theorem pickF_some {listed : Array Bool} {l : List Nat} {i : Nat} (h : pickF P H K ops listed s l = some (i, o)) : i ∈ l ∧ ops[i]? = some o ∧ Region.free .any ops listed i = true := by
  induction l with
  | nil => cases h
  | cons x r ih =>
    unfold pickF at h
    split at h
    · rename_i o' ho
      split at h
      · rename_i hc
        simp only [Bool.and_eq_true] at hc
        injection h with h
        injection h with h1 h2
        subst h1; subst h2
        exact ⟨by simp, ho, hc.2⟩
      · obtain ⟨h1, h2⟩ := ih h
        exact ⟨List.mem_cons_of_mem _ h1, h2⟩
    · cases h

/-- what holds in every world of the region -/
def SM (bs0 : Nat → Nat) (s0 : St) (K : List Nat) (w0 : World) : Option Facts → World → Prop
  | none, w => w = w0
  | some F, w => (∀ ad vs, (ad, vs) ∈ F → Cells w ad vs) ∧ ∀ i b, K.contains i = true → look s0.loc i = some b → w.heap[bs0 i]? = some (.cells b.cells.toArray b.ty (0, 0))

theorem ldF_run {t : TypeId} {ad : Addr} {k : Value → Prop} (h : ldF P F t ad k) :
    ∃ v, k v ∧ ∀ w', (∀ ad vs, (ad, vs) ∈ F → Cells w' ad vs) → (Instr.loadAt t (.pointer (some ad))).run P w' = .ok v w' := by
  unfold ldF at h
  simp only [Instr.loadAt, Instr.sureAddr, Sem.run_bind, Sem.run_pure, Result.andThen_ok]
  split at h
  · rename_i ha
    split at h
    · rename_i hz
      simp only [beq_iff_eq] at hz
      obtain ⟨vs, hl, hc, hk⟩ := exTys_elim h
      exact ⟨_, hk, fun w' hw => run_loadVar_cells ha hz ad vs hl (fun j v hj => hw _ _ hc j v hj)⟩
    · exact h.elim
  · rename_i ha
    split at h
    · rename_i d hd
      obtain ⟨v, hc, hk⟩ := exTy_elim h
      refine ⟨v, hk, fun w' hw => run_loadVar_one (by rw [hd]; rfl) (by simpa using ha) ad v ?_⟩
      have := hw _ _ hc 0 v rfl
      simpa [Addr.add] using this
    · exact h.elim

theorem denAny_sound (hns : Region.noSelect ops = true) {s0 : St} {w0 : World} {D : List Nat} {k : St → Prop} (hD : ∀ o ∈ ops.toList, ∀ d, o.dst = some d → d ∈ D) (hKD : ∀ i, K.contains i = true → m ≠ none → i ∉ D) :
    ∀ (n : Nat) {listed : Array Bool} {bs s a w}, denAny P B H m K ops n listed s k → Inv bs B s a w → (∀ F, m = some F → FactsIn F s) → (m = none → w = w0) →
      (∀ i, K.contains i = true → look s.loc i = look s0.loc i) → (∀ i, i ∉ D → bs i = bs0 i) → (m = none → bs = bs0) → Agree D a0 a →
      wpAnyH P .any ops (fun e a' w' => e = .normal ∧ Left bs0 D B a0 k a' w') (SM bs0 s0 K w0 m) n listed a w := by
  intro n
  induction n with
  | zero =>
    intro listed bs s a w h hi hF hm hl hb hb0 ha
    unfold denAny at h
    split at h
    · rename_i hr
      exact ⟨hr, rfl, ⟨bs, s, h, hi, hb⟩, ha⟩
    · exact h.elim
  | succ n ih =>
    intro listed bs s a w h hi hF hm hl hb hb0 ha
    have hSw : SM bs0 s0 K w0 m w := by
      cases m with
      | none => exact hm rfl
      | some F =>
        refine ⟨fun ad vs hin j v hj => ?_, fun i b hK hb' => ?_⟩
        · obtain ⟨h1, h2, h3⟩ := hF F rfl ad vs hin
          exact hi.cell (h1 j v hj) (by rw [addr_block]; exact h3)
        · have := (hi.blk i b (by rw [hl i hK]; exact hb')).1
          rw [hb i (hKD i hK (by simp))] at this
          exact this
    unfold denAny at h
    split at h
    · rename_i i o hp
      simp only [norm_eq] at h
      obtain ⟨h1, h2, h3⟩ := pickF_some hp
      have hmem : o ∈ ops.toList := by
        rw [← Array.getElem?_toList] at h2
        exact List.mem_of_getElem? h2
      obtain ⟨v, s', hn, hy, hi', hloc, hu, hL⟩ := denFloat_sound (S := SM bs0 s0 K w0 m) h hi
        (by
          intro w' hw' i b hb'
          simp only [restr, look_filter] at hb'
          split at hb'
          · rename_i hK
            cases m with
            | none => rw [show w' = w by rw [hm rfl]; exact hw']; exact (hi.blk i b hb').1
            | some F =>
              rw [hb i (hKD i hK (by simp))]
              exact hw'.2 i b hK (by rw [← hl i hK]; exact hb')
          · cases hb')
        (by
          intro t ad k hk
          cases m with
          | none =>
            obtain ⟨v, hr, hk⟩ := ld_sound hi hk
            exact ⟨v, hk, fun w' hw' => by rw [show w' = w by rw [hm rfl]; exact hw']; exact hr⟩
          | some F =>
            obtain ⟨v, hk, hr⟩ := ldF_run hk
            exact ⟨v, hk, fun w' hw' => hr w' hw'.1⟩)
      refine wpAnyH_take h2 hns h3 (by simpa using h1) (fun c a w hq => by cases hq.1) hy hSw ?_
      refine ih hn hi' (fun F hF' => ?_) hm (fun i hi => by rw [hloc]; exact hl i hi) hb hb0 (ha.trans ((Agree.of_put (v := v) rfl).mono fun j hj => hD o hmem j (by simpa using hj)))
      have := hF F hF'
      unfold FactsIn FactsW at this ⊢
      rw [hu, hL]
      exact this
    · split at h
      · rename_i hr
        exact wpAnyH_done hr ⟨rfl, ⟨bs, s, h, hi, hb⟩, ha⟩ _
      · rename_i x r hr
        split at h
        · rename_i F
          refine wpAnyH_all hr (by simp) fun j hj => ?_
          have h := allB_elim h j hj
          split at h
          · rename_i o ho
            simp only [norm_eq] at h
            have hmem : o ∈ ops.toList := by
              rw [← Array.getElem?_toList] at ho
              exact List.mem_of_getElem? ho
            have hE := denEv_sound (Q := fun e a' w' => e = .normal ∧ Left bs0 D B a0 k a' w') h hi (hF F rfl)
            have step : ∀ a' w', EvRes bs K F B s o.dst a (fun s' => denAny P B H (some F) K ops n (listed.setIfInBounds j true) s' k) a' w' →
                SM bs0 s0 K w0 (some F) w' ∧ wpAnyH P .any ops (fun e a' w' => e = .normal ∧ Left bs0 D B a0 k a' w') (SM bs0 s0 K w0 (some F)) n (listed.setIfInBounds j true) a' w' := by
              rintro a' w' ⟨⟨bs', s', g1, g2, g3, g4, g5⟩, g6⟩
              have hbs' : ∀ i, i ∉ D → bs' i = bs0 i := fun i hin => (g5 i (fun e => hin (hD o hmem i (by simpa using e)))).trans (hb i hin)
              have hl' : ∀ i, K.contains i = true → look s'.loc i = look s0.loc i := fun i hK => (g4 i hK).trans (hl i hK)
              refine ⟨⟨fun ad vs hin j v hj => ?_, fun i b hK hb' => ?_⟩, ih g1 g2 (fun F' hF' => by injection hF' with hF'; subst hF'; exact g3) (fun e => by cases e) hl' hbs' (fun e => by cases e) (ha.trans (g6.mono fun j hj => hD o hmem j (by simpa using hj)))⟩
              · obtain ⟨h1, h2, h3⟩ := g3 ad vs hin
                exact g2.cell (h1 j v hj) (by rw [addr_block]; exact h3)
              · have := (g2.blk i b (by rw [hl' i hK]; exact hb')).1
                rw [hbs' i (hKD i hK (by simp))] at this
                exact this
            unfold wpOp
            simp only [ho]
            by_cases hw : Region.wanted o (yielded ops a.tmps) = true
            · rw [if_pos hw] at hE ⊢
              exact .inl (Oper.wp_mono step hE)
            · rw [if_neg hw] at hE ⊢
              exact step _ _ hE
          · exact h.elim
        · exact h.elim

theorem Inv.drawn_ (hi : Inv bs B s a w) : Inv bs B { s with dirty := true } a { w with drawn := w.drawn + 1 } :=
  ⟨hi.defers, hi.size, hi.slots, hi.blk, hi.inj, ⟨hi.hid.os, hi.hid.tape, hi.hid.output, hi.hid.size, hi.hid.block⟩, fun e => (by cases e), fun e => (by cases e), hi.base, hi.llt⟩

theorem denDraw_sound {id : Nat} {k : St → Prop} {D : List Nat} (hD : ∀ o ∈ ops.toList, ∀ d, o.dst = some d → d ∈ D) (hD' : ∀ i, i ∈ D → i ∈ ops.toList.filterMap (·.dst)) (h : denDraw P B H id ops s k) (hi : Inv bs B s a w) :
    (Code.region id ops true).wp P (fun e a' w' => e = .normal ∧ Left bs D B a k a' w') a w := by
  unfold denDraw at h
  split at h
  · rename_i hc
    simp only [Bool.and_eq_true] at hc
    split at h
    · refine wp_region_held hc.1 (denAny_sound (m := none) (s0 := s) (w0 := { w with drawn := w.drawn + 1 }) hc.2 hD (fun i _ hn => absurd rfl hn) _ h hi.drawn_ (fun F e => by cases e) (fun _ => rfl) (fun _ _ => rfl) (fun _ _ => rfl) (fun _ => rfl) (Agree.refl _ _))
    · obtain ⟨F, hF, h⟩ := h
      refine wp_region_held hc.1 (denAny_sound (m := some F) (s0 := s) (w0 := { w with drawn := w.drawn + 1 }) hc.2 hD ?_ _ h hi.drawn_ (fun F' e => by injection e with e; subst e; exact hF) (fun e => by cases e) (fun _ _ => rfl) (fun _ _ => rfl) (fun e => by cases e) (Agree.refl _ _))
      intro i hK _ hin
      have h3 := List.mem_filterMap.1 (hD' i hin)
      obtain ⟨o, ho, hd⟩ := h3
      simp at hK
      exact hK.2.2 o (by simpa using ho) hd
  · exact h.elim
end
end Go.X
