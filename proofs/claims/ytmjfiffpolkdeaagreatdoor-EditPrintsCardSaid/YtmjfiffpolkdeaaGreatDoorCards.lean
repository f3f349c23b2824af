/-
  DERIVED. GIVEN WITH THE SEED: THE CARDS: each row of YtmjfiffpolkdeaaGreatDoorRows.lean that lists a variable, with what it lists TIED to the program's text (the seventh form; the later family's looks); each row that meets fmt, with fmt's text TOLD by the authors' own Lean function (tested against real Go, not proved from fmt's source: count such statements apart). THE CARD IS WHAT COUNTS. Prove the row's statement (the work); the ties are given (YtmjfiffpolkdeaaGreatDoorTie.lean); close each card by the builder's one call (the guide's Derived/Test/ToyasCard.lean, 'card_holds'). Laid BY PROGRAM, IN A SANDBOX (cutbox-door.mjs). By AI agents, Wed Nov 11 2026. No macro, syntax, notation, axiom, sorry.
-/
import Derived.Test.YtmjfiffpolkdeaaGreatDoorRows
import GoSem.ClaimSeven
namespace Go.Proofs.YtmjfiffpolkdeaaGreatDoor
namespace Rows

/-- THE TIED CARD OF 'greenbeltlaw41.EditPrints'. -/
def editPrintsCard : Claim7 := { stood := { row := editPrintsRow, standIns := [], harness := (true, "b1d17b9ff737a9bcac3d5d17549b7028a40da261621518bc26498b0365fe246c"), looks := true }, kinds := [], alts := [], laidByText := true, laidKinds := [.data, .data, .data, .data, .listed, .data, .data, .pinned], laidTests := true, laidLooks := .later }
def EditPrintsCardSaid : Prop := Claim7.holds Tryz.pinned (.plain (OpenSpec.ofChange editPrintsSpec)) editPrintsCard

/-- THE SECOND FORM's CARD OF 'greenbeltlaw41.EditPrints'. -/
def editPrintsUptoCard : Claim7 := { stood := { row := editPrintsUptoRow, standIns := [], harness := (true, "b1d17b9ff737a9bcac3d5d17549b7028a40da261621518bc26498b0365fe246c"), looks := true }, kinds := [], alts := [], laidByText := true, laidKinds := [.data, .data, .data, .data, .listed, .data, .data, .pinned], laidTests := true, laidLooks := .later }
def EditPrintsUptoCardSaid : Prop := Claim7.holds Tryz.pinned (.plain (OpenSpec.upto editPrintsSpec)) editPrintsUptoCard
end Rows
end Go.Proofs.YtmjfiffpolkdeaaGreatDoor
