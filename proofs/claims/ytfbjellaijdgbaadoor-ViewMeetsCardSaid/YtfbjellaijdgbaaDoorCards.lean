/-
  DERIVED. GIVEN WITH THE SEED: THE CARDS: each row of YtfbjellaijdgbaaDoorRows.lean that lists a variable, with what it lists TIED to the program's text (the seventh form; the later family's looks); each row that meets fmt, with fmt's text TOLD by the authors' own Lean function (tested against real Go, not proved from fmt's source: count such statements apart). THE CARD IS WHAT COUNTS. Prove the row's statement (the work); the ties are given (YtfbjellaijdgbaaDoorTie.lean); close each card by the builder's one call (the guide's Derived/Test/ToyasCard.lean, 'card_holds'). Laid BY PROGRAM, IN A SANDBOX (cutbox-door.mjs). By AI agents, Wed Nov 11 2026. No macro, syntax, notation, axiom, sorry.
-/
import Derived.Test.YtfbjellaijdgbaaDoorRows
import GoSem.ClaimSeven
namespace Go.Proofs.YtfbjellaijdgbaaDoor
namespace Rows

/-- THE TIED CARD OF 'gemotlaw06.ViewNexts'. -/
def viewNextsCard : Claim7 := { stood := { row := viewNextsRow, standIns := [], harness := (true, "d7cecf545bd781875a0d79f22c4ba84e6b8275a34798a5cafd3ee4d57d6d7496"), looks := false }, kinds := [], alts := [], laidByText := true, laidKinds := [.data, .data, .data], laidTests := true, laidLooks := .later }
def ViewNextsCardSaid : Prop := Claim7.holds Tryd.pinned (.plain (OpenSpec.ofChange viewNextsSpec)) viewNextsCard

/-- THE TIED CARD OF 'gemotlaw06.ViewMeets'. -/
def viewMeetsCard : Claim7 := { stood := { row := viewMeetsRow, standIns := [], harness := (true, "d7cecf545bd781875a0d79f22c4ba84e6b8275a34798a5cafd3ee4d57d6d7496"), looks := false }, kinds := [], alts := [], laidByText := true, laidKinds := [.data, .data, .data], laidTests := true, laidLooks := .later }
def ViewMeetsCardSaid : Prop := Claim7.holds Tryd.pinned (.plain (OpenSpec.ofChange viewMeetsSpec)) viewMeetsCard

/-- THE SECOND FORM's CARD OF 'gemotlaw06.ViewNexts'. -/
def viewNextsUptoCard : Claim7 := { stood := { row := viewNextsUptoRow, standIns := [], harness := (true, "d7cecf545bd781875a0d79f22c4ba84e6b8275a34798a5cafd3ee4d57d6d7496"), looks := false }, kinds := [], alts := [], laidByText := true, laidKinds := [.data, .data, .data], laidTests := true, laidLooks := .later }
def ViewNextsUptoCardSaid : Prop := Claim7.holds Tryd.pinned (.plain (OpenSpec.upto viewNextsSpec)) viewNextsUptoCard

/-- THE SECOND FORM's CARD OF 'gemotlaw06.ViewMeets'. -/
def viewMeetsUptoCard : Claim7 := { stood := { row := viewMeetsUptoRow, standIns := [], harness := (true, "d7cecf545bd781875a0d79f22c4ba84e6b8275a34798a5cafd3ee4d57d6d7496"), looks := false }, kinds := [], alts := [], laidByText := true, laidKinds := [.data, .data, .data], laidTests := true, laidLooks := .later }
def ViewMeetsUptoCardSaid : Prop := Claim7.holds Tryd.pinned (.plain (OpenSpec.upto viewMeetsSpec)) viewMeetsUptoCard
end Rows
end Go.Proofs.YtfbjellaijdgbaaDoor
