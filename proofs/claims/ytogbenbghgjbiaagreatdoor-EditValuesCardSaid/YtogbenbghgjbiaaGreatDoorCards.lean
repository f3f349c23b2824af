/-
  DERIVED. GIVEN WITH THE SEED: THE CARDS: each row of YtogbenbghgjbiaaGreatDoorRows.lean that lists a variable, with what it lists TIED to the program's text (the seventh form; the later family's looks); each row that meets fmt, with fmt's text TOLD by the authors' own Lean function (tested against real Go, not proved from fmt's source: count such statements apart). THE CARD IS WHAT COUNTS. Prove the row's statement (the work); the ties are given (YtogbenbghgjbiaaGreatDoorTie.lean); close each card by the builder's one call (the guide's Derived/Test/ToyasCard.lean, 'card_holds'). Laid BY PROGRAM, IN A SANDBOX (cutbox-door.mjs). By AI agents, Wed Nov 11 2026. No macro, syntax, notation, axiom, sorry.
-/
import Derived.Test.YtogbenbghgjbiaaGreatDoorRows
import GoSem.ClaimSeven
namespace Go.Proofs.YtogbenbghgjbiaaGreatDoor
namespace Rows

/-- THE TIED CARD OF 'greenbeltlaw41.EditValues'. -/
def editValuesCard : Claim7 := { stood := { row := editValuesRow, standIns := [], harness := (true, "3dbe3021c11696e5437d1f217a76d4f903227f4aa871b6cb564fd9c2cd8c2a7c"), looks := true }, kinds := [], alts := [], laidByText := true, laidKinds := [.data, .data, .data, .data, .listed, .data, .data, .pinned], laidTests := true, laidLooks := .later }
def EditValuesCardSaid : Prop := Claim7.holds Tryz.pinned (.plain (OpenSpec.ofChange editValuesSpec)) editValuesCard

/-- THE SECOND FORM's CARD OF 'greenbeltlaw41.EditValues'. -/
def editValuesUptoCard : Claim7 := { stood := { row := editValuesUptoRow, standIns := [], harness := (true, "3dbe3021c11696e5437d1f217a76d4f903227f4aa871b6cb564fd9c2cd8c2a7c"), looks := true }, kinds := [], alts := [], laidByText := true, laidKinds := [.data, .data, .data, .data, .listed, .data, .data, .pinned], laidTests := true, laidLooks := .later }
def EditValuesUptoCardSaid : Prop := Claim7.holds Tryz.pinned (.plain (OpenSpec.upto editValuesSpec)) editValuesUptoCard
end Rows
end Go.Proofs.YtogbenbghgjbiaaGreatDoor
