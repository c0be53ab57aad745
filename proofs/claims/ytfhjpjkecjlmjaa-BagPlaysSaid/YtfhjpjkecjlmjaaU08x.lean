import Derived.Test.YtfhjpjkecjlmjaaU08y
import Derived.Test.YtfhjpjkecjlmjaaU08h
import Derived.Test.YtfhjpjkecjlmjaaXElems
set_option linter.unusedVariables false
set_option maxRecDepth 100000
namespace Go.Proofs.Ytfhjpjkecjlmjaa
open Go X RowKit Go.ChangeShapes Go.WideShapes Go.ChangeAt Go.Proofs
theorem open_Acts {H : Type} {enc : TypeId × Value → H} {W : World} {sp : Nat → Bool} {fuel : Nat} {cs : List Value} {x : DataW H × List MemPlace} (h : DataW.trod enc Try.prog W 0 sp true fuel 22 cs = some x) :
    ∃ q c, ∃ l : List Act, cs = [.slice q l.length c] ∧ l.length ≤ maxLen ∧ Acts (memOf W) q c l := by
  obtain ⟨q, c, l, e, hm, hs, ha⟩ := trod_list Try.underlying22 (k := 10) (by kernel_rfl) (by omega) h acrow_len
    (φ := fun a : Act => MSrc (memOf W) 1 (.slice a.q a.p.bs.length a.c) a.p.bs.length (byV a.p.bs) ∧ (0 ≤ a.mask ∧ a.mask < 4294967296) ∧ (-9223372036854775808 ≤ a.i ∧ a.i < 9223372036854775808))
    (fun g ec y hy => by
      obtain ⟨a, q, c, e, h1, h2⟩ := open_Ac hy
      exact ⟨⟨a.kd, a.i, a.at_, a.mask, a.p, q, c⟩, e, h2, h1.mask, h1.i⟩)
  exact ⟨q, c, l, e, hm, hs, fun a h => (ha a h).1, fun a h => (ha a h).2.1, fun a h => (ha a h).2.2⟩
end Go.Proofs.Ytfhjpjkecjlmjaa
