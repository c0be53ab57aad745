import Derived.Test.YtjphfelmaingjaaGreatXPm
set_option linter.unusedVariables false
set_option linter.unusedSimpArgs false
/- The engine, part 24: parts of owned slices; elements written. -/
namespace Go.X
open Go RowKit
section
variable {F0 : List Nat} {m0 : Mem} {w0 w : World} {L : List Nat} {m : Mem} {As : List Asn} {q : Option Addr} {n c : Nat} {cs : List Value} {ty : TypeId} {sz : Nat}
end
section
variable {α : Type} {f : α → List Value} {k : Nat}
end
section
variable {P : Program} {F0 : List Nat} {m0 : Mem} {w0 w : World} {L : List Nat} {m : Mem} {As : List Asn}
theorem Ctx.app2 {v : Value} {n : Nat} {cs : List Value} {e : TypeId} {sz bytes : Nat} (C : Ctx F0 m0 w0 w L m (slA v n cs e sz :: As))
    {t t2 : TypeId} (ty : TypeId) (hB : appB P t t2 e sz bytes = true) {x : Value} {k : Nat} {news : List Value} (hs : Src w sz x k news) (h63 : n + k ≤ maxLen) (h48 : (n + k) * bytes ≤ 140737488355328) (hone : ∀ u ∈ news, oneC u = true) :
    ∃ q cap w', (Builtin.append_ #[t, t2] ty #[v, x]).run P w = .ok (.slice q (n + k) cap) w' ∧ Kept L w w' ∧ Ctx F0 m0 w0 w' L m (slA (.slice q (n + k) cap) (n + k) (cs ++ news) e sz :: As) := by
  simp only [appB, Bool.and_eq_true] at hB
  obtain ⟨⟨h1, h2⟩, h3⟩ := hB
  split at h1
  · rename_i e' he
    have : e' = e := by simpa using h1
    subst this
    split at h3
    · rename_i i hi
      simp only [Bool.and_eq_true, beq_iff_eq, decide_eq_true_eq] at h3
      obtain ⟨⟨g1, g2⟩, g3⟩ := h3
      split at g3
      · rename_i z hz
        have hle : (n + k) * i.bytes ≤ (n + k) * bytes := Nat.mul_le_mul_left _ g2
        exact C.append he h2 hi hz g1 (by simpa using g3) hs h63 (by omega) hone
      · cases g3
    · cases h3
  · cases h1
end
end Go.X
