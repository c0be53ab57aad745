/-
  DERIVED. GIVEN WITH THE SEED: THE CARDS: each row of YtgpjjmpjddpocaaDoorRows.lean that lists a variable, with what it lists TIED to the program's text (the seventh form; the later family's looks); each row that meets fmt, with fmt's text TOLD by the authors' own Lean function (tested against real Go, not proved from fmt's source: count such statements apart). THE CARD IS WHAT COUNTS. Prove the row's statement (the work); the ties are given (YtgpjjmpjddpocaaDoorTie.lean); close each card by the builder's one call (the guide's Derived/Test/ToyasCard.lean, 'card_holds'). Laid BY PROGRAM, IN A SANDBOX (cutbox-door.mjs). By AI agents, Wed Nov 11 2026. No macro, syntax, notation, axiom, sorry.
-/
import Derived.Test.YtgpjjmpjddpocaaDoorRows
import GoSem.ClaimSeven
namespace Go.Proofs.YtgpjjmpjddpocaaDoor
namespace Rows

/-- THE TIED CARD OF 'gemotlaw03.PartShown'. -/
def partShownCard : Claim7 := { stood := { row := partShownRow, standIns := [], harness := (true, "5cd4582d261f57d72b28af772104a9649a9af4223555dcbca5318bd4d8b422f0"), looks := false }, kinds := [], alts := [], laidByText := true, laidKinds := [.data, .data, .data], laidTests := true, laidLooks := .later }
def PartShownCardSaid : Prop := Claim7.holds Tryd.pinned (.plain (OpenSpec.ofChange partShownSpec)) partShownCard

/-- THE TIED CARD OF 'gemotlaw03.PartRights'. -/
def partRightsCard : Claim7 := { stood := { row := partRightsRow, standIns := [], harness := (true, "5cd4582d261f57d72b28af772104a9649a9af4223555dcbca5318bd4d8b422f0"), looks := false }, kinds := [], alts := [], laidByText := true, laidKinds := [.data, .data, .data], laidTests := true, laidLooks := .later }
def PartRightsCardSaid : Prop := Claim7.holds Tryd.pinned (.plain (OpenSpec.ofChange partRightsSpec)) partRightsCard

/-- THE TIED CARD OF 'gemotlaw03.PartTells'. -/
def partTellsCard : Claim7 := { stood := { row := partTellsRow, standIns := [], harness := (true, "5cd4582d261f57d72b28af772104a9649a9af4223555dcbca5318bd4d8b422f0"), looks := false }, kinds := [], alts := [], laidByText := true, laidKinds := [.data, .data, .data], laidTests := true, laidLooks := .later }
def PartTellsCardSaid : Prop := Claim7.holds Tryd.pinned (.plain (OpenSpec.ofChange partTellsSpec)) partTellsCard

/-- THE SECOND FORM's CARD OF 'gemotlaw03.PartShown'. -/
def partShownUptoCard : Claim7 := { stood := { row := partShownUptoRow, standIns := [], harness := (true, "5cd4582d261f57d72b28af772104a9649a9af4223555dcbca5318bd4d8b422f0"), looks := false }, kinds := [], alts := [], laidByText := true, laidKinds := [.data, .data, .data], laidTests := true, laidLooks := .later }
def PartShownUptoCardSaid : Prop := Claim7.holds Tryd.pinned (.plain (OpenSpec.upto partShownSpec)) partShownUptoCard

/-- THE SECOND FORM's CARD OF 'gemotlaw03.PartRights'. -/
def partRightsUptoCard : Claim7 := { stood := { row := partRightsUptoRow, standIns := [], harness := (true, "5cd4582d261f57d72b28af772104a9649a9af4223555dcbca5318bd4d8b422f0"), looks := false }, kinds := [], alts := [], laidByText := true, laidKinds := [.data, .data, .data], laidTests := true, laidLooks := .later }
def PartRightsUptoCardSaid : Prop := Claim7.holds Tryd.pinned (.plain (OpenSpec.upto partRightsSpec)) partRightsUptoCard

/-- THE SECOND FORM's CARD OF 'gemotlaw03.PartTells'. -/
def partTellsUptoCard : Claim7 := { stood := { row := partTellsUptoRow, standIns := [], harness := (true, "5cd4582d261f57d72b28af772104a9649a9af4223555dcbca5318bd4d8b422f0"), looks := false }, kinds := [], alts := [], laidByText := true, laidKinds := [.data, .data, .data], laidTests := true, laidLooks := .later }
def PartTellsUptoCardSaid : Prop := Claim7.holds Tryd.pinned (.plain (OpenSpec.upto partTellsSpec)) partTellsUptoCard
end Rows
end Go.Proofs.YtgpjjmpjddpocaaDoor
