import Derived.Test.YtfbjellaijdgbaaDoorXStr
set_option linter.unusedVariables false
set_option linter.unusedSimpArgs false
/- The engine, part 21: slices of structs in the arguments. -/
namespace Go.X
open Go RowKit
theorem mcells_flat {α : Type} {f : α → List Value} {k : Nat} (h0 : 0 < k) (hk : ∀ a, (f a).length = k) {m : Mem} {a : Addr} {l : List α} (h : ∀ i (hi : i < l.length), MCells m (a.add (i * k)) (f l[i])) : MCells m a (l.flatMap f) := fun t v ht => by
  have hl := flat_len hk l
  have htl := (List.getElem?_eq_some_iff.1 ht).1
  have hi : t / k < l.length := by rw [Nat.div_lt_iff_lt_mul h0]; omega
  have hj : t % k < k := Nat.mod_lt _ h0
  have hjl : t % k < (f l[t / k]).length := by rw [hk]; exact hj
  have e : t / k * k + t % k = t := by rw [Nat.mul_comm]; exact Nat.div_add_mod t k
  have h1 := flat_at hk l (t / k) hi (t % k) _ (List.getElem?_eq_getElem hjl)
  rw [e, ht] at h1
  have h2 := h (t / k) hi (t % k) _ (List.getElem?_eq_getElem hjl)
  rw [Addr.add_add, e] at h2
  rw [h2]; exact h1.symm
/-- a slice of structs: each element opened -/
theorem trod_list {H : Type} {enc : TypeId × Value → H} {P : Program} {w : World} {sp : Nat → Bool} {held : Bool} {fuel : Nat} {t e : TypeId} {cs : List Value} {x : DataW H × List MemPlace}
    (ht : P.underlying t = some (.slice e)) {k : Nat} (hc : P.cellsOf e = k) (h0 : 0 < k) (h : DataW.trod enc P w 0 sp held fuel t cs = some x)
    {α : Type} {f : α → List Value} (hk : ∀ a, (f a).length = k) {φ : α → Prop} (hop : ∀ g ec y, DataW.trod enc P w 0 sp held g e ec = some y → ∃ a : α, ec = f a ∧ φ a) :
    ∃ q c, ∃ l : List α, cs = [.slice q l.length c] ∧ l.length ≤ maxLen ∧ MSrc (memOf w) k (.slice q l.length c) l.length (l.flatMap f) ∧ ∀ a ∈ l, φ a := by
  obtain ⟨q, n, c, g, rfl, hm, hn, hel⟩ := trod_elems ht h
  cases q with
  | none =>
    obtain rfl := hn rfl
    exact ⟨none, c, [], rfl, by simp [maxLen], .nil .., by simp⟩
  | some pa =>
    obtain ⟨l, hl, hp⟩ := exists_list (p := fun i (a : α) => MCells (memOf w) (pa.add (i * k)) (f a) ∧ φ a) (n := n) fun i hi => by
      obtain ⟨ec, y, h1, h2, h3⟩ := hel pa rfl i hi
      obtain ⟨a, rfl, ha⟩ := hop _ _ _ h3
      rw [hc] at h2
      exact ⟨a, h2, ha⟩
    subst hl
    refine ⟨some pa, c, l, rfl, hm, MSrc.mk (flat_len hk l) (fun a ha => ?_) (fun h => by cases h), fun a ha => ?_⟩
    · injection ha with ha; subst ha
      exact mcells_flat h0 hk fun i hi => (hp i hi).1
    · obtain ⟨i, hi, rfl⟩ := List.getElem_of_mem ha
      exact (hp i hi).2
end Go.X
