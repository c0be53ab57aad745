import Derived.Test.YtfbjellaijdgbaaDoorXDrawS
set_option linter.unusedVariables false
set_option linter.unusedSimpArgs false
/- The engine, part 9: regions are sound. -/
namespace Go.X
open Go
section
variable {P : Program} {bs bs0 : Nat → Nat} {B : Nat} {s : St} {a a0 : Act} {w : World} {H : Hints} {ops : Array Oper} {o : Oper} {Q : Exit → Act → World → Prop}
theorem upon_mono' {K : Act → World → Prop} {Q Q' : Exit → Act → World → Prop} (hq : ∀ e a w, Q e a w → Q' e a w) {r : Result Next} (h : o.upon P a K Q r) : o.upon P a K Q' r := by
  cases r with
  | halt x w' => cases x <;> first | exact hq _ _ _ h | exact h
  | ok n w' =>
    cases n with
    | enter f args =>
      refine Calls.mono h fun e w'' he => ?_
      cases e with
      | returned v => exact he
      | panicked c => exact hq _ _ _ he
      | outgrown => obtain ⟨x, y, he⟩ := he; exact ⟨x, y, hq _ _ _ he⟩
    | _ => exact h
theorem wpList_mono' {Q Q' : Exit → Act → World → Prop} (hq : ∀ e a w, Q e a w → Q' e a w) : ∀ (l : List Oper) (a : Act) (w : World), wpList P ops Q l a w → wpList P ops Q' l a w
  | [], a, w, h => hq _ _ _ h
  | o :: r, a, w, h => by
    unfold wpList at h ⊢
    split
    · rename_i hw
      rw [if_pos hw] at h
      rcases h with h | ⟨h1, x, y, h2⟩
      · exact .inl (Oper.wp_mono (fun a' w' => wpList_mono' hq r a' w') (upon_mono' hq h))
      · exact .inr ⟨h1, x, y, hq _ _ _ h2⟩
    · rename_i hw
      rw [if_neg hw] at h
      exact wpList_mono' hq r _ _ h
theorem denOps_sound {D : List Nat} {k : St → Prop} : ∀ (l : List Oper) {bs s a w}, (∀ o ∈ l, ∀ d, o.dst = some d → d ∈ D) → denOps P B H ops l s k → Inv bs B s a w →
    wpList P ops (fun e a' w' => e = .normal ∧ Left bs D B a k a' w') l a w := by
  intro l
  induction l with
  | nil => intro bs s a w _ h hi; exact ⟨rfl, ⟨bs, s, h, hi, fun _ _ => rfl⟩, Agree.refl _ _⟩
  | cons o r ih =>
    intro bs s a w hD h hi
    unfold denOps at h
    simp only [norm_eq] at h
    have h1 := denOp_sound (Q := fun e a' w' => e = .normal ∧ Left bs D B a k a' w') h hi
    have step : ∀ a1 w1, Left bs o.dst.toList B a (fun s' => denOps P B H ops r s' k) a1 w1 → wpList P ops (fun e a' w' => e = .normal ∧ Left bs D B a k a' w') r a1 w1 := by
      rintro a1 w1 ⟨⟨bs1, s1, hk, hi1, hb⟩, hag⟩
      have h2 := ih (fun o ho => hD o (List.mem_cons_of_mem _ ho)) hk hi1
      have hsub : ∀ j, j ∈ o.dst.toList → j ∈ D := fun j hj => hD o (by simp) j (by simpa using hj)
      refine wpList_mono' ?_ r a1 w1 h2
      rintro e a' w' ⟨rfl, ⟨bs2, s2, g1, g2, g3⟩, hag2⟩
      exact ⟨rfl, ⟨bs2, s2, g1, g2, fun i hn => (g3 i hn).trans (hb i (fun e => hn (hsub i e)))⟩, (hag.mono hsub).trans hag2⟩
    unfold wpList
    by_cases hw : Region.wanted o (yielded ops a.tmps) = true
    · rw [if_pos hw] at h1 ⊢
      exact .inl (Oper.wp_mono step h1)
    · rw [if_neg hw] at h1 ⊢
      exact step _ _ h1
end
end Go.X
