/-
  DERIVED. GIVEN WITH THE SEED: THE CARDS: each row of YtdmiblfckigjoaaDoorRows.lean that lists a variable, with what it lists TIED to the program's text (the seventh form; the later family's looks); each row that meets fmt, with fmt's text TOLD by the authors' own Lean function (tested against real Go, not proved from fmt's source: count such statements apart). THE CARD IS WHAT COUNTS. Prove the row's statement (the work); the ties are given (YtdmiblfckigjoaaDoorTie.lean); close each card by the builder's one call (the guide's Derived/Test/ToyasCard.lean, 'card_holds'). Laid BY PROGRAM, IN A SANDBOX (cutbox-door.mjs). By AI agents, Wed Nov 11 2026. No macro, syntax, notation, axiom, sorry.
-/
import Derived.Test.YtdmiblfckigjoaaDoorRows
import GoSem.ClaimSeven
namespace Go.Proofs.YtdmiblfckigjoaaDoor
namespace Rows

/-- THE TIED CARD OF 'gemotlaw05.EntryRights'. -/
def entryRightsCard : Claim7 := { stood := { row := entryRightsRow, standIns := [], harness := (true, "400499927fa1320192eb432468d914ca8f6931506bce58d0099862a142f2968e"), looks := false }, kinds := [], alts := [], laidByText := true, laidKinds := [.data, .data, .data], laidTests := true, laidLooks := .later }
def EntryRightsCardSaid : Prop := Claim7.holds Tryd.pinned (.plain (OpenSpec.ofChange entryRightsSpec)) entryRightsCard

/-- THE TIED CARD OF 'gemotlaw05.EntryApart'. -/
def entryApartCard : Claim7 := { stood := { row := entryApartRow, standIns := [], harness := (true, "400499927fa1320192eb432468d914ca8f6931506bce58d0099862a142f2968e"), looks := false }, kinds := [], alts := [], laidByText := true, laidKinds := [.data, .data, .data], laidTests := true, laidLooks := .later }
def EntryApartCardSaid : Prop := Claim7.holds Tryd.pinned (.plain (OpenSpec.ofChange entryApartSpec)) entryApartCard

/-- THE TIED CARD OF 'gemotlaw05.EntryTells'. -/
def entryTellsCard : Claim7 := { stood := { row := entryTellsRow, standIns := [], harness := (true, "400499927fa1320192eb432468d914ca8f6931506bce58d0099862a142f2968e"), looks := false }, kinds := [], alts := [], laidByText := true, laidKinds := [.data, .data, .data], laidTests := true, laidLooks := .later }
def EntryTellsCardSaid : Prop := Claim7.holds Tryd.pinned (.plain (OpenSpec.ofChange entryTellsSpec)) entryTellsCard

/-- THE SECOND FORM's CARD OF 'gemotlaw05.EntryRights'. -/
def entryRightsUptoCard : Claim7 := { stood := { row := entryRightsUptoRow, standIns := [], harness := (true, "400499927fa1320192eb432468d914ca8f6931506bce58d0099862a142f2968e"), looks := false }, kinds := [], alts := [], laidByText := true, laidKinds := [.data, .data, .data], laidTests := true, laidLooks := .later }
def EntryRightsUptoCardSaid : Prop := Claim7.holds Tryd.pinned (.plain (OpenSpec.upto entryRightsSpec)) entryRightsUptoCard

/-- THE SECOND FORM's CARD OF 'gemotlaw05.EntryApart'. -/
def entryApartUptoCard : Claim7 := { stood := { row := entryApartUptoRow, standIns := [], harness := (true, "400499927fa1320192eb432468d914ca8f6931506bce58d0099862a142f2968e"), looks := false }, kinds := [], alts := [], laidByText := true, laidKinds := [.data, .data, .data], laidTests := true, laidLooks := .later }
def EntryApartUptoCardSaid : Prop := Claim7.holds Tryd.pinned (.plain (OpenSpec.upto entryApartSpec)) entryApartUptoCard

/-- THE SECOND FORM's CARD OF 'gemotlaw05.EntryTells'. -/
def entryTellsUptoCard : Claim7 := { stood := { row := entryTellsUptoRow, standIns := [], harness := (true, "400499927fa1320192eb432468d914ca8f6931506bce58d0099862a142f2968e"), looks := false }, kinds := [], alts := [], laidByText := true, laidKinds := [.data, .data, .data], laidTests := true, laidLooks := .later }
def EntryTellsUptoCardSaid : Prop := Claim7.holds Tryd.pinned (.plain (OpenSpec.upto entryTellsSpec)) entryTellsUptoCard
end Rows
end Go.Proofs.YtdmiblfckigjoaaDoor
