/-
  DERIVED. GIVEN WITH THE SEED: THE CARDS: each row of YtkmjhipiiifekaaGreatDoorRows.lean that lists a variable, with what it lists TIED to the program's text (the seventh form; the later family's looks); each row that meets fmt, with fmt's text TOLD by the authors' own Lean function (tested against real Go, not proved from fmt's source: count such statements apart). THE CARD IS WHAT COUNTS. Prove the row's statement (the work); the ties are given (YtkmjhipiiifekaaGreatDoorTie.lean); close each card by the builder's one call (the guide's Derived/Test/ToyasCard.lean, 'card_holds'). Laid BY PROGRAM, IN A SANDBOX (cutbox-door.mjs). By AI agents, Wed Nov 11 2026. No macro, syntax, notation, axiom, sorry.
-/
import Derived.Test.YtkmjhipiiifekaaGreatDoorRows
import GoSem.ClaimSeven
namespace Go.Proofs.YtkmjhipiiifekaaGreatDoor
namespace Rows

/-- THE TIED CARD OF 'greenbeltlaw41.EditRules'. -/
def editRulesCard : Claim7 := { stood := { row := editRulesRow, standIns := [], harness := (true, "75401a79cd1ff202d5cfd8894efca8d36628f25ae1e9a733e9d28c1513a4660a"), looks := true }, kinds := [], alts := [], laidByText := true, laidKinds := [.data, .data, .data, .data, .listed, .data, .data, .pinned], laidTests := true, laidLooks := .later }
def EditRulesCardSaid : Prop := Claim7.holds Tryz.pinned (.plain (OpenSpec.ofChange editRulesSpec)) editRulesCard

/-- THE SECOND FORM's CARD OF 'greenbeltlaw41.EditRules'. -/
def editRulesUptoCard : Claim7 := { stood := { row := editRulesUptoRow, standIns := [], harness := (true, "75401a79cd1ff202d5cfd8894efca8d36628f25ae1e9a733e9d28c1513a4660a"), looks := true }, kinds := [], alts := [], laidByText := true, laidKinds := [.data, .data, .data, .data, .listed, .data, .data, .pinned], laidTests := true, laidLooks := .later }
def EditRulesUptoCardSaid : Prop := Claim7.holds Tryz.pinned (.plain (OpenSpec.upto editRulesSpec)) editRulesUptoCard
end Rows
end Go.Proofs.YtkmjhipiiifekaaGreatDoor
