import Derived.Test.YtjphfelmaingjaaGreatXStr
set_option linter.unusedVariables false
set_option linter.unusedSimpArgs false
/- The engine, part 21: slices of structs in the arguments. -/
namespace Go.X
open Go RowKit
theorem mcells_flat {α : Type} {f : α → List Value} {k : Nat} (h0 : 0 < k) (hk : ∀ a, (f a).length = k) {m : Mem} {a : Addr} {l : List α} (h : ∀ i (hi : i < l.length), MCells m (a.add (i * k)) (f l[i])) : MCells m a (l.flatMap f) := fun t v ht => by
  have hl := flat_len hk l
  have htl := (List.getElem?_eq_some_iff.1 ht).1
  have hi : t / k < l.length := by rw [Nat.div_lt_iff_lt_mul h0]; omega
  have hj : t % k < k := Nat.mod_lt _ h0
  have hjl : t % k < (f l[t / k]).length := by rw [hk]; exact hj
  have e : t / k * k + t % k = t := by rw [Nat.mul_comm]; exact Nat.div_add_mod t k
  have h1 := flat_at hk l (t / k) hi (t % k) _ (List.getElem?_eq_getElem hjl)
  rw [e, ht] at h1
  have h2 := h (t / k) hi (t % k) _ (List.getElem?_eq_getElem hjl)
  rw [Addr.add_add, e] at h2
  rw [h2]; exact h1.symm
end Go.X
