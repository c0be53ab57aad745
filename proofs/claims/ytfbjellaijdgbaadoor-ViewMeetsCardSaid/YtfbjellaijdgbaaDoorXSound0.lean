import Derived.Test.YtfbjellaijdgbaaDoorXCode
set_option linter.unusedVariables false
set_option linter.unusedSimpArgs false
/- The engine, part 8: 'den' is sound. -/
namespace Go.X
open Go
section
variable {P : Program} {bs bs0 : Nat → Nat} {B : Nat} {s : St} {a a0 : Act} {w : World} {H : Hints} {ops : Array Oper} {o : Oper} {Q : Exit → Act → World → Prop}

def Agree (D : List Nat) (a0 a : Act) : Prop := a.tmps.size = a0.tmps.size ∧ ∀ j, j ∉ D → a.tmps.getD j undef = a0.tmps.getD j undef
theorem Agree.refl (D : List Nat) (a : Act) : Agree D a a := ⟨rfl, fun _ _ => rfl⟩
theorem Agree.trans {D : List Nat} {a b c : Act} (h : Agree D a b) (k : Agree D b c) : Agree D a c := ⟨k.1.trans h.1, fun j hj => (k.2 j hj).trans (h.2 j hj)⟩
theorem Agree.mono {D D' : List Nat} {a b : Act} (h : Agree D a b) (hd : ∀ j, j ∈ D → j ∈ D') : Agree D' a b := ⟨h.1, fun j hj => h.2 j (fun e => hj (hd j e))⟩
theorem Agree.of_put {a a' : Act} {dst : Option Nat} {v : Value} (h : a'.tmps = (a.put dst v).tmps) : Agree dst.toList a a' := by
  cases dst with
  | none => exact ⟨by rw [h]; rfl, fun j _ => by rw [h]; rfl⟩
  | some d =>
    refine ⟨by rw [h]; simp [Act.put], fun j hj => ?_⟩
    rw [h]
    simp only [Act.put, getD_set]
    rw [if_neg (fun e => hj (by simp [e.1]))]

theorem upon_dst {K : Act → World → Prop} {r : Result Next} (h : o.upon P a K Q r) : o.upon P a (fun a' w' => K a' w' ∧ Agree o.dst.toList a a') Q r := by
  cases r with
  | halt x w' => cases x <;> exact h
  | ok n w' =>
    cases n with
    | value v => exact ⟨h, Agree.of_put (v := v) rfl⟩
    | skip => exact ⟨h, Agree.of_put (v := undef) rfl⟩
    | defer d =>
      refine ⟨h, Agree.of_put (v := undef) ?_⟩
      cases o.dst <;> rfl
    | enter f args =>
      refine Calls.mono h fun e w'' he => ?_
      cases e with
      | returned v => exact ⟨he, Agree.of_put (v := v) rfl⟩
      | panicked c => exact he
      | outgrown => exact he
    | row row args => exact Rows.mono h fun v w'' he => ⟨he, Agree.of_put (v := v) rfl⟩
    | _ => exact h
theorem wp_dst {K : Act → World → Prop} (h : o.wp P a w K Q) : o.wp P a w (fun a' w' => K a' w' ∧ Agree o.dst.toList a a') Q := upon_dst h

/-- what a step leaves: a state of the continuation, the slots outside D as they were -/
def Left (bs0 : Nat → Nat) (D : List Nat) (B : Nat) (a0 : Act) (next : St → Prop) (a : Act) (w : World) : Prop :=
  (∃ bs s, next s ∧ Inv bs B s a w ∧ ∀ i, i ∉ D → bs i = bs0 i) ∧ Agree D a0 a

theorem Inv.frame_ {fr : List SV} (hi : Inv bs B s a w) (hl : fr.length = s.fr.length) (h : ∀ (j : Nat) (x : SV), fr[j]? = some x → RV bs a.tmps x (a.tmps.getD j undef)) : Inv bs B { s with fr := fr } a w :=
  ⟨hi.defers, hi.size.trans hl.symm, h, hi.blk, hi.inj, hi.hid, hi.cleanw, hi.cleanl, hi.base, hi.llt⟩
theorem Inv.refine_ {gs : Nat} {b : Bool} (hi : Inv bs B s a w) (h : a.tmps.getD gs undef = .bool b) : Inv bs B (refine s gs b) a w := by
  refine hi.frame_ (by simp) fun j x hx => ?_
  rw [List.getElem?_set] at hx
  split at hx
  · rename_i e
    subst e
    split at hx
    · injection hx with hx
      subst hx
      exact h
    · cases hx
  · rw [List.getElem?_map] at hx
    cases hy : s.fr[j]? with
    | none => rw [hy] at hx; cases hx
    | some y =>
      rw [hy] at hx
      injection hx with hx
      subst hx
      have hr := hi.slots j y hy
      cases y with
      | b z => exact hr
      | junk => trivial
      | gd g2 w2 z =>
        show RV bs a.tmps (if g2 = gs then (if w2 = b then .b z else .b (.v undef)) else .gd g2 w2 z) _
        by_cases e1 : g2 = gs
        · subst e1
          rw [if_pos rfl]
          by_cases e2 : w2 = b
          · subst e2
            rw [if_pos rfl]
            exact hr.1 h
          · rw [if_neg e2]
            exact hr.2 (fun e => e2 (by rw [h] at e; injection e with e; exact e.symm))
        · rw [if_neg e1]
          exact hr
theorem guardIf_sound {n gs : Nat} {want : Bool} {k1 k0 : St → Prop} (hi : Inv bs B s a w) (h : guardIf s n gs want k1 k0) :
    ∃ s', Inv bs B s' a w ∧ s'.loc = s.loc ∧ s'.u = s.u ∧ s'.L = s.L ∧ ((a.tmps.getD gs undef = .bool want ∧ k1 s') ∨ (a.tmps.getD gs undef ≠ .bool want ∧ k0 s')) := by
  have leaf : ∀ {s' : St} {t : Bool} {gs : Nat} {want : Bool} {k1 k0 : St → Prop}, Inv bs B s' a w → a.tmps.getD gs undef = .bool t → (if (t == want) = true then norm (refine s' gs want) k1 else norm (refine s' gs (!want)) k0) →
      ∃ s2, Inv bs B s2 a w ∧ s2.loc = s'.loc ∧ s2.u = s'.u ∧ s2.L = s'.L ∧ ((a.tmps.getD gs undef = .bool want ∧ k1 s2) ∨ (a.tmps.getD gs undef ≠ .bool want ∧ k0 s2)) := by
    intro s' t gs want k1 k0 hi ht h
    simp only [norm_eq] at h
    split at h
    · rename_i e
      have : t = want := by simpa using e
      subst this
      exact ⟨_, hi.refine_ ht, rfl, rfl, rfl, .inl ⟨ht, h⟩⟩
    · rename_i e
      have e' : t ≠ want := by simpa using e
      have : t = !want := by cases t <;> cases want <;> simp_all
      subst this
      exact ⟨_, hi.refine_ ht, rfl, rfl, rfl, .inr ⟨by rw [ht]; intro e2; injection e2 with e2; exact e' e2, h⟩⟩
  induction n generalizing gs want k1 k0 with
  | zero => exact h.elim
  | succ n ih =>
    unfold guardIf at h
    have hr := hi.sget_ gs
    split at h
    · rename_i t hg
      rw [hg] at hr
      exact leaf hi hr h
    · rename_i g2 w2 t hg
      rw [hg] at hr
      obtain ⟨s', hi', hl, hu, hL, ⟨h1, hk⟩ | ⟨h1, hk⟩⟩ := ih h
      · obtain ⟨s2, g1, g2, g3, g4, g5⟩ := leaf hi' (hr.1 h1) hk
        exact ⟨s2, g1, g2.trans hl, g3.trans hu, g4.trans hL, g5⟩
      · have ht : a.tmps.getD gs undef = undef := hr.2 h1
        rw [norm_eq] at hk
        refine ⟨_, hi'.frame_ (fr := s'.fr.set gs (.b (.v undef))) (by simp) fun j x hx => ?_, hl, hu, hL, .inr ⟨fun e => (by rw [ht] at e; cases e), hk⟩⟩
        rw [List.getElem?_set] at hx
        split at hx
        · rename_i e
          subst e
          split at hx
          · injection hx with hx
            subst hx
            exact ht
          · cases hx
        · exact hi'.slots j x hx
    · rename_i xs hg
      rw [hg] at hr
      rw [norm_eq] at h
      exact ⟨s, hi, rfl, rfl, rfl, .inr ⟨fun e => (by rw [show a.tmps.getD gs undef = .tuple xs from hr] at e; cases e), h⟩⟩
    · rename_i g2 w2 xs hg
      rw [hg] at hr
      rw [norm_eq] at h
      refine ⟨s, hi, rfl, rfl, rfl, .inr ⟨fun e => ?_, h⟩⟩
      by_cases hq : a.tmps.getD g2 undef = .bool w2
      · have := hr.1 hq; rw [this] at e; cases e
      · have := hr.2 hq; rw [this] at e; cases e
    · exact h.elim

theorem wanted_iff {j gs : Nat} {want : Bool} (hg : o.guard = some (j, want)) (hd : (ops[j]?).bind (·.dst) = some gs) : Region.wanted o (yielded ops a.tmps) = true ↔ a.tmps.getD gs undef = .bool want := by
  simp only [Region.wanted, hg, yielded, hd, Option.bind_some, Array.getD_eq_getD_getElem?]
  cases ht : a.tmps[gs]? with
  | none =>
    simp only [Option.getD_none]
    constructor
    · intro h; cases want <;> simp at h
    · intro h; cases h
  | some v =>
    simp only [Option.getD_some]
    cases v <;> simp

theorem denOp_sound {next : St → Prop} (h : denOp P B H ops o s next) (hi : Inv bs B s a w) :
    if Region.wanted o (yielded ops a.tmps) = true then o.wp P a w (Left bs o.dst.toList B a next) Q else Left bs o.dst.toList B a next (a.put o.dst undef) w := by
  have lift : ∀ {Q}, o.wp P a w (Res bs o.dst B next) Q → o.wp P a w (Left bs o.dst.toList B a next) Q := fun {Q} hw =>
    Oper.wp_mono (fun a' w' ⟨⟨bs', s', h1, h2, h3⟩, h4⟩ => ⟨⟨bs', s', h1, h2, fun i hin => h3 i (fun e => hin (by simp [e]))⟩, h4⟩) (wp_dst hw)
  unfold denOp at h
  split at h
  · rename_i hg
    rw [if_pos (by simp [Region.wanted, hg])]
    split at h
    · rename_i x hx
      exact lift (setb_sound hi (spec_sound (g := none) hi.toW trivial hx) h)
    · exact lift (gen_sound (g := none) h hi trivial)
  · rename_i j want hg
    split at h
    · exact h.elim
    · rename_i gs hd
      have hw := wanted_iff (a := a) hg hd
      split at h
      · rename_i x hx
        split at h
        · exact h.elim
        rename_i hds
        by_cases hq : a.tmps.getD gs undef = .bool want
        · rw [if_pos (hw.2 hq)]
          refine lift (wp_value (spec_sound (g := some (gs, want)) hi.toW hq hx) ⟨bs, _, h, hi.put o.dst _ _ fun d hd' => ?_, fun _ _ => rfl⟩)
          refine ⟨fun _ => rfl, fun hn => ?_⟩
          rw [getD_set] at hn
          split at hn
          · rename_i hc
            exact absurd (by rw [hd', hc.1]) hds
          · exact absurd hq hn
        · rw [if_neg (fun e => hq (hw.1 e))]
          refine ⟨⟨bs, _, h, hi.put o.dst _ _ fun d hd' => ?_, fun _ _ => rfl⟩, Agree.of_put (v := undef) rfl⟩
          refine ⟨fun hn => ?_, fun _ => rfl⟩
          rw [getD_set] at hn
          split at hn
          · cases hn
          · exact absurd hn hq
      · obtain ⟨s', hi', _, _, _, ⟨hq, hk⟩ | ⟨hq, hk⟩⟩ := guardIf_sound hi h
        · rw [if_pos (hw.2 hq)]
          exact lift (gen_sound (g := some (gs, want)) hk hi' hq)
        · rw [if_neg (fun e => hq (hw.1 e))]
          exact ⟨⟨bs, _, hk, hi'.putB o.dst (.v undef) undef rfl, fun _ _ => rfl⟩, Agree.of_put (v := undef) rfl⟩

end
end Go.X
