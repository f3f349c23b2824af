/-
  DERIVED. GIVEN WITH THE SEED: THE CARDS: each row of YthnokpghgeppdaaGreatDoorRows.lean that lists a variable, with what it lists TIED to the program's text (the seventh form; the later family's looks); each row that meets fmt, with fmt's text TOLD by the authors' own Lean function (tested against real Go, not proved from fmt's source: count such statements apart). THE CARD IS WHAT COUNTS. Prove the row's statement (the work); the ties are given (YthnokpghgeppdaaGreatDoorTie.lean); close each card by the builder's one call (the guide's Derived/Test/ToyasCard.lean, 'card_holds'). Laid BY PROGRAM, IN A SANDBOX (cutbox-door.mjs). By AI agents, Wed Nov 11 2026. No macro, syntax, notation, axiom, sorry.
-/
import Derived.Test.YthnokpghgeppdaaGreatDoorRows
import GoSem.ClaimSeven
namespace Go.Proofs.YthnokpghgeppdaaGreatDoor
namespace Rows

/-- THE TIED CARD OF 'greenbeltlaw41.EditTells'. -/
def editTellsCard : Claim7 := { stood := { row := editTellsRow, standIns := [], harness := (true, "cc93c16548e4d06e5a50b45202d544dc0301064b46860f08ff056d5e27825bb6"), looks := true }, kinds := [], alts := [], laidByText := true, laidKinds := [.data, .data, .data, .data, .listed, .data, .data, .pinned], laidTests := true, laidLooks := .later }
def EditTellsCardSaid : Prop := Claim7.holds Tryz.pinned (.plain (OpenSpec.ofChange editTellsSpec)) editTellsCard

/-- THE TIED CARD OF 'greenbeltlaw41.EditDiffs'. -/
def editDiffsCard : Claim7 := { stood := { row := editDiffsRow, standIns := [], harness := (true, "cc93c16548e4d06e5a50b45202d544dc0301064b46860f08ff056d5e27825bb6"), looks := true }, kinds := [], alts := [], laidByText := true, laidKinds := [.data, .data, .data, .data, .listed, .data, .data, .pinned], laidTests := true, laidLooks := .later }
def EditDiffsCardSaid : Prop := Claim7.holds Tryz.pinned (.plain (OpenSpec.ofChange editDiffsSpec)) editDiffsCard

/-- THE TIED CARD OF 'greenbeltlaw41.EditPrints'. -/
def editPrintsCard : Claim7 := { stood := { row := editPrintsRow, standIns := [], harness := (true, "cc93c16548e4d06e5a50b45202d544dc0301064b46860f08ff056d5e27825bb6"), looks := true }, kinds := [], alts := [], laidByText := true, laidKinds := [.data, .data, .data, .data, .listed, .data, .data, .pinned], laidTests := true, laidLooks := .later }
def EditPrintsCardSaid : Prop := Claim7.holds Tryz.pinned (.plain (OpenSpec.ofChange editPrintsSpec)) editPrintsCard

/-- THE TIED CARD OF 'greenbeltlaw41.EditCommutes'. -/
def editCommutesCard : Claim7 := { stood := { row := editCommutesRow, standIns := [], harness := (true, "cc93c16548e4d06e5a50b45202d544dc0301064b46860f08ff056d5e27825bb6"), looks := true }, kinds := [], alts := [], laidByText := true, laidKinds := [.data, .data, .data, .data, .listed, .data, .data, .pinned], laidTests := true, laidLooks := .later }
def EditCommutesCardSaid : Prop := Claim7.holds Tryz.pinned (.plain (OpenSpec.ofChange editCommutesSpec)) editCommutesCard

/-- THE SECOND FORM's CARD OF 'greenbeltlaw41.EditTells'. -/
def editTellsUptoCard : Claim7 := { stood := { row := editTellsUptoRow, standIns := [], harness := (true, "cc93c16548e4d06e5a50b45202d544dc0301064b46860f08ff056d5e27825bb6"), looks := true }, kinds := [], alts := [], laidByText := true, laidKinds := [.data, .data, .data, .data, .listed, .data, .data, .pinned], laidTests := true, laidLooks := .later }
def EditTellsUptoCardSaid : Prop := Claim7.holds Tryz.pinned (.plain (OpenSpec.upto editTellsSpec)) editTellsUptoCard

/-- THE SECOND FORM's CARD OF 'greenbeltlaw41.EditDiffs'. -/
def editDiffsUptoCard : Claim7 := { stood := { row := editDiffsUptoRow, standIns := [], harness := (true, "cc93c16548e4d06e5a50b45202d544dc0301064b46860f08ff056d5e27825bb6"), looks := true }, kinds := [], alts := [], laidByText := true, laidKinds := [.data, .data, .data, .data, .listed, .data, .data, .pinned], laidTests := true, laidLooks := .later }
def EditDiffsUptoCardSaid : Prop := Claim7.holds Tryz.pinned (.plain (OpenSpec.upto editDiffsSpec)) editDiffsUptoCard

/-- THE SECOND FORM's CARD OF 'greenbeltlaw41.EditPrints'. -/
def editPrintsUptoCard : Claim7 := { stood := { row := editPrintsUptoRow, standIns := [], harness := (true, "cc93c16548e4d06e5a50b45202d544dc0301064b46860f08ff056d5e27825bb6"), looks := true }, kinds := [], alts := [], laidByText := true, laidKinds := [.data, .data, .data, .data, .listed, .data, .data, .pinned], laidTests := true, laidLooks := .later }
def EditPrintsUptoCardSaid : Prop := Claim7.holds Tryz.pinned (.plain (OpenSpec.upto editPrintsSpec)) editPrintsUptoCard

/-- THE SECOND FORM's CARD OF 'greenbeltlaw41.EditCommutes'. -/
def editCommutesUptoCard : Claim7 := { stood := { row := editCommutesUptoRow, standIns := [], harness := (true, "cc93c16548e4d06e5a50b45202d544dc0301064b46860f08ff056d5e27825bb6"), looks := true }, kinds := [], alts := [], laidByText := true, laidKinds := [.data, .data, .data, .data, .listed, .data, .data, .pinned], laidTests := true, laidLooks := .later }
def EditCommutesUptoCardSaid : Prop := Claim7.holds Tryz.pinned (.plain (OpenSpec.upto editCommutesSpec)) editCommutesUptoCard
end Rows
end Go.Proofs.YthnokpghgeppdaaGreatDoor
