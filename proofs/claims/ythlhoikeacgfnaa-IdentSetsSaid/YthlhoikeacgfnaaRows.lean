/-
  No cell of these rows narrows 'for every input' (looked for: loops, veiled, ifaces, maps, wideKeys, modest, calm, conditions, laid).
  DERIVED. THE GIVEN ROWS OF THIS SEAT. 5 by the template 'for every input the law returns true; each argument reads behind the call as it read before'; 0 by the template 'total and deterministic' (their statements: YthlhoikeacgfnaaTotals.lean).
  GIVEN WITH THE SEED: the statements are not yours to turn. If you find one false, say at which input.
  Laid BY PROGRAM, IN A SANDBOX (cutbox-rows.mjs): the forced cells as the released guide's own fill.sh prints them over the translation c260bb5bbc26bade… (all of the seat's roots in one cut). By AI agents, Wed Nov 11 2026. No macro, syntax, notation, axiom, sorry.
-/
import Derived.Test.YthlhoikeacgfnaaChecked
import GoSem.Claim
import GoSem.ClaimJoined
import GoSem.ClaimMapViews
import Derived.JoinedTies
import Derived.KernelRfl
namespace Go.Proofs.Ythlhoikeacgfnaa
/- THE CELL 'sum', in the pinned program and in every row, IS THE sha256 OF THE DUMP (.gsa) THAT YthlhoikeacgfnaaProg.lean LOADS. Nothing in Lean hashes anything: it is a label: what it is worth is what the hold of that sum in a sandbox is worth. -/
noncomputable def Try.pinned : Pinned := { name := "ythlhoikeacgfnaa", sum := "c260bb5bbc26badeb26443f0b563fb1b882f8b754dad796263a1434162e6e7dd", checked := Try.checked }
namespace Rows
def none {H : Type} : Left H := { results := [], args := [] }

/-- 'gemotlaw02.IdentSteps': WHATEVER THE INPUT: true; the input reads as it did. -/
def identStepsSpec : ChangeSpec := { name := "identSteps", fn := fun _ => fun
  | [d1, d2, d3] => { results := [.lit (.bool true)], args := [d1, d2, d3] }
  | _ => none }
def identStepsRow : OpenClaim := { program := "ythlhoikeacgfnaa", sum := "c260bb5bbc26badeb26443f0b563fb1b882f8b754dad796263a1434162e6e7dd", func := "gemot/gemotlaw02.IdentSteps", spec := "identSteps", plainKeys := false, apart := false }
def IdentStepsSaid : Prop := identStepsRow.holds Try.pinned (OpenSpec.ofChange identStepsSpec)

/-- ITS FALSE NEIGHBOUR: 'it returns false'. Refute it at one input. -/
def identStepsWrong : ChangeSpec := { name := "identSteps", fn := fun _ => fun
  | [d1, d2, d3] => { results := [.lit (.bool false)], args := [d1, d2, d3] }
  | _ => none }
def IdentStepsWrongFalsely : Prop := identStepsRow.holds Try.pinned (OpenSpec.ofChange identStepsWrong)

/-- 'gemotlaw02.IdentOrders': WHATEVER THE INPUT: true; the input reads as it did. -/
def identOrdersSpec : ChangeSpec := { name := "identOrders", fn := fun _ => fun
  | [d1, d2] => { results := [.lit (.bool true)], args := [d1, d2] }
  | _ => none }
def identOrdersRow : OpenClaim := { program := "ythlhoikeacgfnaa", sum := "c260bb5bbc26badeb26443f0b563fb1b882f8b754dad796263a1434162e6e7dd", func := "gemot/gemotlaw02.IdentOrders", spec := "identOrders", unfollowed := true, recurses := true, plainKeys := false, apart := false }
def IdentOrdersSaid : Prop := identOrdersRow.holds Try.pinned (OpenSpec.ofChange identOrdersSpec)

/-- ITS FALSE NEIGHBOUR: 'it returns false'. Refute it at one input. -/
def identOrdersWrong : ChangeSpec := { name := "identOrders", fn := fun _ => fun
  | [d1, d2] => { results := [.lit (.bool false)], args := [d1, d2] }
  | _ => none }
def IdentOrdersWrongFalsely : Prop := identOrdersRow.holds Try.pinned (OpenSpec.ofChange identOrdersWrong)

/-- 'gemotlaw02.IdentOrdered': WHATEVER THE INPUT: true; the input reads as it did. -/
def identOrderedSpec : ChangeSpec := { name := "identOrdered", fn := fun _ => fun
  | [d1, d2, d3] => { results := [.lit (.bool true)], args := [d1, d2, d3] }
  | _ => none }
def identOrderedRow : OpenClaim := { program := "ythlhoikeacgfnaa", sum := "c260bb5bbc26badeb26443f0b563fb1b882f8b754dad796263a1434162e6e7dd", func := "gemot/gemotlaw02.IdentOrdered", spec := "identOrdered", unfollowed := true, recurses := true, plainKeys := false, apart := false }
def IdentOrderedSaid : Prop := identOrderedRow.holds Try.pinned (OpenSpec.ofChange identOrderedSpec)

/-- ITS FALSE NEIGHBOUR: 'it returns false'. Refute it at one input. -/
def identOrderedWrong : ChangeSpec := { name := "identOrdered", fn := fun _ => fun
  | [d1, d2, d3] => { results := [.lit (.bool false)], args := [d1, d2, d3] }
  | _ => none }
def IdentOrderedWrongFalsely : Prop := identOrderedRow.holds Try.pinned (OpenSpec.ofChange identOrderedWrong)

/-- 'gemotlaw02.IdentNil': WHATEVER THE INPUT: true; the input reads as it did. -/
def identNilSpec : ChangeSpec := { name := "identNil", fn := fun _ => fun
  | [d] => { results := [.lit (.bool true)], args := [d] }
  | _ => none }
def identNilRow : OpenClaim := { program := "ythlhoikeacgfnaa", sum := "c260bb5bbc26badeb26443f0b563fb1b882f8b754dad796263a1434162e6e7dd", func := "gemot/gemotlaw02.IdentNil", spec := "identNil", unfollowed := true, recurses := true, plainKeys := false, apart := false }
def IdentNilSaid : Prop := identNilRow.holds Try.pinned (OpenSpec.ofChange identNilSpec)

/-- ITS FALSE NEIGHBOUR: 'it returns false'. Refute it at one input. -/
def identNilWrong : ChangeSpec := { name := "identNil", fn := fun _ => fun
  | [d] => { results := [.lit (.bool false)], args := [d] }
  | _ => none }
def IdentNilWrongFalsely : Prop := identNilRow.holds Try.pinned (OpenSpec.ofChange identNilWrong)

/-- 'gemotlaw02.IdentSets': WHATEVER THE INPUT: true; the input reads as it did. -/
def identSetsSpec : ChangeSpec := { name := "identSets", fn := fun _ => fun
  | [d1, d2] => { results := [.lit (.bool true)], args := [d1, d2] }
  | _ => none }
def identSetsRow : OpenClaim := { program := "ythlhoikeacgfnaa", sum := "c260bb5bbc26badeb26443f0b563fb1b882f8b754dad796263a1434162e6e7dd", func := "gemot/gemotlaw02.IdentSets", spec := "identSets", unfollowed := true, recurses := true, plainKeys := false, apart := false }
def IdentSetsSaid : Prop := identSetsRow.holds Try.pinned (OpenSpec.ofChange identSetsSpec)

/-- ITS FALSE NEIGHBOUR: 'it returns false'. Refute it at one input. -/
def identSetsWrong : ChangeSpec := { name := "identSets", fn := fun _ => fun
  | [d1, d2] => { results := [.lit (.bool false)], args := [d1, d2] }
  | _ => none }
def IdentSetsWrongFalsely : Prop := identSetsRow.holds Try.pinned (OpenSpec.ofChange identSetsWrong)

/- THE SECOND FORM. 'bulk': how many values and letters a reading holds, each counted each time it is reached (what is shared counts as often as it is met; a slice's spare places count too). A statement '..UptoSaid' is the law's where the arguments, and the package variables that the reading takes, are together of bulk at most 1048576: NARROWER than '..Said'. Prove '..Said' where nothing that the law and all that it calls make is longer than what came in: it says more and counts as full. Else prove '..UptoSaid'. A law counts once. -/
mutual
def uptoBulk {H : Type} : DataW H → Nat
  | .lit (.string bytes) => bytes.length + 1
  | .lit _ => 1
  | .nil => 1
  | .ptr d => uptoBulk d + 1
  | .slice elems spare => uptoBulkAll elems + uptoBulkAll spare + 1
  | .agg parts => uptoBulkAll parts + 1
  | .iface _ d => uptoBulk d + 1
  | .map entries => uptoBulkEntries entries + 1
  | .held _ => 1
def uptoBulkAll {H : Type} : List (DataW H) → Nat
  | [] => 0
  | d :: r => uptoBulk d + uptoBulkAll r
def uptoBulkEntries {H : Type} : List (Lit × DataW H) → Nat
  | [] => 0
  | x :: r => uptoBulkEntry x + uptoBulkEntries r
def uptoBulkEntry {H : Type} : Lit × DataW H → Nat
  | (.string bytes, d) => bytes.length + uptoBulk d + 1
  | (_, d) => uptoBulk d + 1
 end
def uptoSmall : (H : Type) → List (DataW H) → Bool := fun _ ds => decide (uptoBulkAll ds ≤ 1048576)
def OpenSpec.upto (s : _root_.Go.ChangeSpec) : _root_.Go.OpenSpec := { _root_.Go.OpenSpec.ofChange s with cond := some uptoSmall }

/-- 'gemotlaw02.IdentSteps', WHERE WHAT IT READS IS OF BULK AT MOST 1048576: true; the input reads as it did. -/
def identStepsUptoRow : OpenClaim := { program := "ythlhoikeacgfnaa", sum := "c260bb5bbc26badeb26443f0b563fb1b882f8b754dad796263a1434162e6e7dd", func := "gemot/gemotlaw02.IdentSteps", spec := "identSteps", plainKeys := false, apart := false, narrowed := true }
def IdentStepsUptoSaid : Prop := identStepsUptoRow.holds Try.pinned (OpenSpec.upto identStepsSpec)

/-- 'gemotlaw02.IdentOrders', WHERE WHAT IT READS IS OF BULK AT MOST 1048576: true; the input reads as it did. -/
def identOrdersUptoRow : OpenClaim := { program := "ythlhoikeacgfnaa", sum := "c260bb5bbc26badeb26443f0b563fb1b882f8b754dad796263a1434162e6e7dd", func := "gemot/gemotlaw02.IdentOrders", spec := "identOrders", unfollowed := true, recurses := true, plainKeys := false, apart := false, narrowed := true }
def IdentOrdersUptoSaid : Prop := identOrdersUptoRow.holds Try.pinned (OpenSpec.upto identOrdersSpec)

/-- 'gemotlaw02.IdentOrdered', WHERE WHAT IT READS IS OF BULK AT MOST 1048576: true; the input reads as it did. -/
def identOrderedUptoRow : OpenClaim := { program := "ythlhoikeacgfnaa", sum := "c260bb5bbc26badeb26443f0b563fb1b882f8b754dad796263a1434162e6e7dd", func := "gemot/gemotlaw02.IdentOrdered", spec := "identOrdered", unfollowed := true, recurses := true, plainKeys := false, apart := false, narrowed := true }
def IdentOrderedUptoSaid : Prop := identOrderedUptoRow.holds Try.pinned (OpenSpec.upto identOrderedSpec)

/-- 'gemotlaw02.IdentNil', WHERE WHAT IT READS IS OF BULK AT MOST 1048576: true; the input reads as it did. -/
def identNilUptoRow : OpenClaim := { program := "ythlhoikeacgfnaa", sum := "c260bb5bbc26badeb26443f0b563fb1b882f8b754dad796263a1434162e6e7dd", func := "gemot/gemotlaw02.IdentNil", spec := "identNil", unfollowed := true, recurses := true, plainKeys := false, apart := false, narrowed := true }
def IdentNilUptoSaid : Prop := identNilUptoRow.holds Try.pinned (OpenSpec.upto identNilSpec)

/-- 'gemotlaw02.IdentSets', WHERE WHAT IT READS IS OF BULK AT MOST 1048576: true; the input reads as it did. -/
def identSetsUptoRow : OpenClaim := { program := "ythlhoikeacgfnaa", sum := "c260bb5bbc26badeb26443f0b563fb1b882f8b754dad796263a1434162e6e7dd", func := "gemot/gemotlaw02.IdentSets", spec := "identSets", unfollowed := true, recurses := true, plainKeys := false, apart := false, narrowed := true }
def IdentSetsUptoSaid : Prop := identSetsUptoRow.holds Try.pinned (OpenSpec.upto identSetsSpec)

end Rows
end Go.Proofs.Ythlhoikeacgfnaa
