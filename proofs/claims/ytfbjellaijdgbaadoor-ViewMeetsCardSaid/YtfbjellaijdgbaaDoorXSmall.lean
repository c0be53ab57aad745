import Derived.Test.YtfbjellaijdgbaaDoorXSized
set_option linter.unusedVariables false
set_option linter.unusedSimpArgs false
/- The engine, part: strings of arguments are within a machine's reach. -/
namespace Go.X
open Go RowKit Go.ChangeShapes Go.WideShapes Go.ChangeAt
theorem small_str {H : Type} {enc : TypeId × Value → H} {P : Program} {w : World} {sp : Nat → Bool} {held : Bool} {fuel : Nat} {t : TypeId} {s : ByteArray} {x : DataW H × List MemPlace} (ht : P.underlying t = some .string)
    (h : DataW.trod enc P w 0 sp held fuel t [.string s] = some x) (hs : Small P t x.1) : s.size ≤ reachBytes := by
  obtain ⟨s', e, rfl, _⟩ := DataW.trod_string ht h
  injection e with e _
  injection e with e
  subst e
  have := hs s.data.toList.length (by simp [DataW.weights])
  simpa using this
end Go.X
