/-
  DERIVED. GIVEN WITH THE SEED: THE CARDS: each row of YtpabacdeogeehaaGreatDoorRows.lean that lists a variable, with what it lists TIED to the program's text (the seventh form; the later family's looks); each row that meets fmt, with fmt's text TOLD by the authors' own Lean function (tested against real Go, not proved from fmt's source: count such statements apart). THE CARD IS WHAT COUNTS. Prove the row's statement (the work); the ties are given (YtpabacdeogeehaaGreatDoorTie.lean); close each card by the builder's one call (the guide's Derived/Test/ToyasCard.lean, 'card_holds'). Laid BY PROGRAM, IN A SANDBOX (cutbox-door.mjs). By AI agents, Wed Nov 11 2026. No macro, syntax, notation, axiom, sorry.
-/
import Derived.Test.YtpabacdeogeehaaGreatDoorRows
import GoSem.ClaimSeven
namespace Go.Proofs.YtpabacdeogeehaaGreatDoor
namespace Rows

/-- THE TIED CARD OF 'greenbeltlaw44.FactValues'. -/
def factValuesCard : Claim7 := { stood := { row := factValuesRow, standIns := [], harness := (true, "4c8b3a37d7e326e9b64eb5f59a7107cdfc3fca8f4422af2a7fc15b32a7e60078"), looks := true }, kinds := [], alts := [], laidByText := true, laidKinds := [.data, .data, .data, .sentinel, .sentinel], laidTests := true, laidLooks := .later }
def FactValuesCardSaid : Prop := Claim7.holds Tryz.pinned (.plain (OpenSpec.ofChange factValuesSpec)) factValuesCard

/-- THE SECOND FORM's CARD OF 'greenbeltlaw44.FactValues'. -/
def factValuesUptoCard : Claim7 := { stood := { row := factValuesUptoRow, standIns := [], harness := (true, "4c8b3a37d7e326e9b64eb5f59a7107cdfc3fca8f4422af2a7fc15b32a7e60078"), looks := true }, kinds := [], alts := [], laidByText := true, laidKinds := [.data, .data, .data, .sentinel, .sentinel], laidTests := true, laidLooks := .later }
def FactValuesUptoCardSaid : Prop := Claim7.holds Tryz.pinned (.plain (OpenSpec.upto factValuesSpec)) factValuesUptoCard
end Rows
end Go.Proofs.YtpabacdeogeehaaGreatDoor
