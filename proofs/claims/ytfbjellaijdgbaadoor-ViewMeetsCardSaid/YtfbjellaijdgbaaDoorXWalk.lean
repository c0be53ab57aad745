import Derived.Test.YtfbjellaijdgbaaDoorXIter
set_option linter.unusedVariables false
set_option linter.unusedSimpArgs false
/- The engine, part: a walk over a map that takes note of what it met. -/
namespace Go.X
open Go RowKit
/-- what a loop over a map has met, in its order -/
structure Walked {γ : Type} (zs ys : List (γ × Nat)) (seen : Array Nat) : Prop where
  eq : ys.map Prod.snd = seen.toList
  sub : ∀ y, y ∈ ys → y ∈ zs
  nd : seen.toList.Nodup
section
variable {γ : Type} {zs ys : List (γ × Nat)} {seen : Array Nat}
theorem Walked.nil (zs : List (γ × Nat)) : Walked zs [] #[] := ⟨rfl, by simp, by simp⟩
theorem Walked.push (h : Walked zs ys seen) {i : Nat} (hi : i < zs.length) (hn : zs[i].2 ∉ seen) : Walked zs (ys ++ [zs[i]]) (seen.push zs[i].2) := by
  refine ⟨by simp [h.eq], fun y hy => ?_, ?_⟩
  · rcases List.mem_append.1 hy with hy | hy
    · exact h.sub y hy
    · simp only [List.mem_singleton] at hy; subst hy; exact List.getElem_mem hi
  · rw [Array.toList_push]
    refine List.nodup_append.2 ⟨h.nd, by simp, fun x hx c hc e => ?_⟩
    simp only [List.mem_singleton] at hc
    subst hc; subst e
    exact hn (by simpa using hx)
theorem Walked.len (h : Walked zs ys seen) : seen.size ≤ zs.length := by
  have := nodup_le _ (zs.map Prod.snd) h.nd (fun s hs => by
    rw [← h.eq] at hs
    obtain ⟨y, hy, rfl⟩ := List.mem_map.1 hs
    exact List.mem_map.2 ⟨y, h.sub y hy, rfl⟩)
  simpa using this
theorem Walked.size (h : Walked zs ys seen) : ys.length = seen.size := by
  have := congrArg List.length h.eq
  simpa using this
theorem nodup_perm {δ : Type} [DecidableEq δ] : ∀ {l l' : List δ}, l.Nodup → l'.Nodup → (∀ x, x ∈ l ↔ x ∈ l') → l.Perm l'
  | [], l', _, _, h => by
    have : l' = [] := List.eq_nil_iff_forall_not_mem.2 fun x hx => by have := (h x).2 hx; cases this
    rw [this]
  | a :: l, l', h1, h2, h => by
    have ha : a ∈ l' := (h a).1 (by simp)
    have h3 : (l'.erase a).Nodup := h2.erase a
    have h4 := nodup_perm (l := l) (l' := l'.erase a) (List.nodup_cons.1 h1).2 h3 (fun x => by
      rw [h2.mem_erase_iff]
      constructor
      · intro hx
        exact ⟨fun e => (List.nodup_cons.1 h1).1 (e ▸ hx), (h x).1 (by simp [hx])⟩
      · rintro ⟨hx, hx'⟩
        rcases List.mem_cons.1 ((h x).2 hx') with e | e
        · exact absurd e hx
        · exact e)
    exact (h4.cons a).trans (List.perm_cons_erase ha).symm
theorem Walked.perm (h : Walked zs ys seen) (hz : (zs.map Prod.snd).Nodup) (hall : ∀ z, z ∈ zs → z.2 ∈ seen) : (ys.map Prod.fst).Perm (zs.map Prod.fst) := by
  have hp : (ys.map Prod.snd).Perm (zs.map Prod.snd) := nodup_perm (by rw [h.eq]; exact h.nd) hz fun x => by
    rw [h.eq]
    constructor
    · intro hx
      rw [← h.eq] at hx
      obtain ⟨y, hy, rfl⟩ := List.mem_map.1 hx
      exact List.mem_map.2 ⟨y, h.sub y hy, rfl⟩
    · intro hx
      obtain ⟨z, hz, rfl⟩ := List.mem_map.1 hx
      have := hall z hz
      simpa using this
  -- the stamps name the elements
  have key : ∀ {us vs : List (γ × Nat)}, (us.map Prod.snd).Perm (vs.map Prod.snd) → (vs.map Prod.snd).Nodup → (∀ u, u ∈ us → u ∈ vs) → us.Perm vs := by
    intro us
    induction us with
    | nil =>
      intro vs hp _ _
      have : vs = [] := by
        have := hp.length_eq
        simpa using this.symm
      rw [this]
    | cons u us ih =>
      intro vs hp hn hs
      have hu : u ∈ vs := hs u (by simp)
      obtain ⟨a, b, rfl⟩ := List.append_of_mem hu
      have hn1 : ((u :: us).map Prod.snd).Nodup := hp.nodup_iff.2 hn
      have hp2 : (us.map Prod.snd).Perm ((a ++ b).map Prod.snd) := by
        have : ((a ++ u :: b).map Prod.snd).Perm (u.2 :: (a ++ b).map Prod.snd) := (List.perm_middle (l₁ := a) (l₂ := b) (a := u)).map Prod.snd
        exact (hp.trans this).cons_inv
      have hn2 : ((a ++ b).map Prod.snd).Nodup := hp2.nodup_iff.1 (List.nodup_cons.1 hn1).2
      have hs2 : ∀ x, x ∈ us → x ∈ a ++ b := fun x hx => by
        have hx1 := hs x (by simp [hx])
        simp only [List.mem_append, List.mem_cons] at hx1 ⊢
        rcases hx1 with h | h | h
        · exact .inl h
        · subst h
          exact absurd (List.mem_map.2 ⟨x, hx, rfl⟩) (List.nodup_cons.1 hn1).1
        · exact .inr h
      exact ((ih hp2 hn2 hs2).cons u).trans List.perm_middle.symm
  exact (key hp hz h.sub).map Prod.fst
end
end Go.X
