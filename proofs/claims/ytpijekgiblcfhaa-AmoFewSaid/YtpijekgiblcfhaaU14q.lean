import Derived.Test.YtpijekgiblcfhaaXMap
set_option linter.unusedVariables false
set_option linter.unusedSimpArgs false
set_option maxRecDepth 10000
namespace Go.Proofs
open Go X RowKit
theorem nodup_of_keys {α β : Type} {l : List (α × β)} (h : (l.map (·.1)).Nodup) : l.Nodup := List.Pairwise.of_map (·.1) (fun a b h e => h (by rw [e])) h
section
variable {α β : Type} [DecidableEq α]
theorem mem_fnd' {x : α} {v : β} : ∀ {l : List (α × β)}, (l.map (·.1)).Nodup → (x, v) ∈ l → fnd x l = some v
  | (k, u) :: l, hn, h => by
    simp only [List.map_cons, List.nodup_cons] at hn
    rw [fnd]
    rcases List.mem_cons.1 h with e | h2
    · injection e with e1 e2; subst e1; subst e2; rw [if_pos rfl]
    · by_cases hx : x = k
      · subst hx; exact absurd (List.mem_map.2 ⟨_, h2, rfl⟩) hn.1
      · rw [if_neg hx]; exact mem_fnd' hn.2 h2
theorem fnd_perm {l l' : List (α × β)} (h : l.Perm l') (hn : (l.map (·.1)).Nodup) (x : α) : fnd x l = fnd x l' := by
  have hn' : (l'.map (·.1)).Nodup := (h.map _).nodup_iff.1 hn
  cases hf : fnd x l with
  | some v => exact (mem_fnd' hn' (h.mem_iff.1 (fnd_mem hf))).symm
  | none =>
    cases hf' : fnd x l' with
    | none => rfl
    | some v => rw [mem_fnd' hn (h.mem_iff.2 (fnd_mem hf'))] at hf; cases hf
theorem mdel_filter {x : α} : ∀ {l : List (α × β)}, (l.map (·.1)).Nodup → X.mdel x l = l.filter (fun y => !decide (y.1 = x))
  | [], _ => rfl
  | (k, u) :: l, hn => by
    simp only [List.map_cons, List.nodup_cons] at hn
    rw [X.mdel]
    by_cases hx : x = k
    · subst hx
      rw [if_pos rfl, List.filter_cons_of_neg (by simp)]
      symm
      refine List.filter_eq_self.2 fun y hy => ?_
      have : ¬ y.1 = x := fun e => hn.1 (e ▸ List.mem_map.2 ⟨y, hy, rfl⟩)
      simpa using this
    · rw [if_neg hx, List.filter_cons_of_pos (by simpa using Ne.symm hx), mdel_filter hn.2]
theorem mput_perm {x : α} {v : β} : ∀ {l : List (α × β)}, (X.mput x v l).Perm ((x, v) :: X.mdel x l)
  | [] => .refl _
  | (k, u) :: l => by
    rw [X.mput, X.mdel]
    by_cases hx : x = k
    · subst hx; rw [if_pos rfl, if_pos rfl]
    · rw [if_neg hx, if_neg hx]
      exact (mput_perm.cons _).trans (.swap ..)
theorem mdel_perm {x : α} {v : β} : ∀ {l : List (α × β)}, (x, v) ∈ l → (l.map (·.1)).Nodup → l.Perm ((x, v) :: X.mdel x l)
  | (k, u) :: l, h, hn => by
    simp only [List.map_cons, List.nodup_cons] at hn
    rw [X.mdel]
    rcases List.mem_cons.1 h with e | h2
    · injection e with e1 e2; subst e1; subst e2; rw [if_pos rfl]
    · by_cases hx : x = k
      · subst hx; exact absurd (List.mem_map.2 ⟨_, h2, rfl⟩) hn.1
      · rw [if_neg hx]
        exact ((mdel_perm h2 hn.2).cons _).trans (.swap ..)
theorem sub_perm [DecidableEq β] : ∀ {l l' : List (α × β)}, l.Nodup → (∀ x ∈ l, x ∈ l') → l.length = l'.length → l.Perm l'
  | [], l', _, _, h => by
    have : l' = [] := List.eq_nil_of_length_eq_zero h.symm
    subst this; exact .refl _
  | a :: l, l', hn, hs, h => by
    have hn' := List.nodup_cons.1 hn
    have ha := hs a List.mem_cons_self
    have h1 : l.Perm (l'.erase a) := sub_perm hn'.2 (fun x hx => (List.mem_erase_of_ne (fun (e : x = a) => hn'.1 (e ▸ hx))).2 (hs x (List.mem_cons_of_mem _ hx))) (by
      have := List.length_erase_of_mem ha
      simp only [List.length_cons] at h; omega)
    exact (h1.cons a).trans (List.perm_cons_erase ha).symm
end
end Go.Proofs
