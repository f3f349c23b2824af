/-
  DERIVED. GIVEN WITH THE SEED: THE CARDS: each row of YtffencjoddkghaaGreatDoorRows.lean that lists a variable, with what it lists TIED to the program's text (the seventh form; the later family's looks); each row that meets fmt, with fmt's text TOLD by the authors' own Lean function (tested against real Go, not proved from fmt's source: count such statements apart). THE CARD IS WHAT COUNTS. Prove the row's statement (the work); the ties are given (YtffencjoddkghaaGreatDoorTie.lean); close each card by the builder's one call (the guide's Derived/Test/ToyasCard.lean, 'card_holds'). Laid BY PROGRAM, IN A SANDBOX (cutbox-door.mjs). By AI agents, Wed Nov 11 2026. No macro, syntax, notation, axiom, sorry.
-/
import Derived.Test.YtffencjoddkghaaGreatDoorRows
import GoSem.ClaimSeven
namespace Go.Proofs.YtffencjoddkghaaGreatDoor
namespace Rows

/-- THE TIED CARD OF 'greenbeltlaw15.SyntaxTells'. -/
def syntaxTellsCard : Claim7 := { stood := { row := syntaxTellsRow, standIns := [], harness := (true, "808b1baaab06890156bf9594850e24f5baf562363ce7a6119ef76d48d3ae3efc"), looks := true }, kinds := [], alts := [], laidByText := true, laidKinds := [.data, .data, .data, .listed, .data, .data], laidTests := true, laidLooks := .later }
def SyntaxTellsCardSaid : Prop := Claim7.holds Tryz.pinned (.plain (OpenSpec.ofChange syntaxTellsSpec)) syntaxTellsCard

/-- THE TIED CARD OF 'greenbeltlaw15.SyntaxParentheses'. -/
def syntaxParenthesesCard : Claim7 := { stood := { row := syntaxParenthesesRow, standIns := [], harness := (true, "808b1baaab06890156bf9594850e24f5baf562363ce7a6119ef76d48d3ae3efc"), looks := true }, kinds := [], alts := [], laidByText := true, laidKinds := [.data, .data, .data, .listed, .data, .data], laidTests := true, laidLooks := .later }
def SyntaxParenthesesCardSaid : Prop := Claim7.holds Tryz.pinned (.plain (OpenSpec.ofChange syntaxParenthesesSpec)) syntaxParenthesesCard

/-- THE TIED CARD OF 'greenbeltlaw15.SyntaxPrints'. -/
def syntaxPrintsCard : Claim7 := { stood := { row := syntaxPrintsRow, standIns := [], harness := (true, "808b1baaab06890156bf9594850e24f5baf562363ce7a6119ef76d48d3ae3efc"), looks := true }, kinds := [], alts := [], laidByText := true, laidKinds := [.data, .data, .data, .listed, .data, .data], laidTests := true, laidLooks := .later }
def SyntaxPrintsCardSaid : Prop := Claim7.holds Tryz.pinned (.plain (OpenSpec.ofChange syntaxPrintsSpec)) syntaxPrintsCard

/-- THE TIED CARD OF 'greenbeltlaw15.SyntaxBack'. -/
def syntaxBackCard : Claim7 := { stood := { row := syntaxBackRow, standIns := [], harness := (true, "808b1baaab06890156bf9594850e24f5baf562363ce7a6119ef76d48d3ae3efc"), looks := true }, kinds := [], alts := [], laidByText := true, laidKinds := [.data, .data, .data, .listed, .data, .data], laidTests := true, laidLooks := .later }
def SyntaxBackCardSaid : Prop := Claim7.holds Tryz.pinned (.plain (OpenSpec.ofChange syntaxBackSpec)) syntaxBackCard

/-- THE TIED CARD OF 'greenbeltlaw15.SyntaxOrder'. -/
def syntaxOrderCard : Claim7 := { stood := { row := syntaxOrderRow, standIns := [], harness := (true, "808b1baaab06890156bf9594850e24f5baf562363ce7a6119ef76d48d3ae3efc"), looks := true }, kinds := [], alts := [], laidByText := true, laidKinds := [.data, .data, .data, .listed, .data, .data], laidTests := true, laidLooks := .later }
def SyntaxOrderCardSaid : Prop := Claim7.holds Tryz.pinned (.plain (OpenSpec.ofChange syntaxOrderSpec)) syntaxOrderCard

/-- THE TIED CARD OF 'greenbeltlaw15.SyntaxCanonical'. -/
def syntaxCanonicalCard : Claim7 := { stood := { row := syntaxCanonicalRow, standIns := [], harness := (true, "808b1baaab06890156bf9594850e24f5baf562363ce7a6119ef76d48d3ae3efc"), looks := true }, kinds := [], alts := [], laidByText := true, laidKinds := [.data, .data, .data, .listed, .data, .data], laidTests := true, laidLooks := .later }
def SyntaxCanonicalCardSaid : Prop := Claim7.holds Tryz.pinned (.plain (OpenSpec.ofChange syntaxCanonicalSpec)) syntaxCanonicalCard

/-- THE SECOND FORM's CARD OF 'greenbeltlaw15.SyntaxTells'. -/
def syntaxTellsUptoCard : Claim7 := { stood := { row := syntaxTellsUptoRow, standIns := [], harness := (true, "808b1baaab06890156bf9594850e24f5baf562363ce7a6119ef76d48d3ae3efc"), looks := true }, kinds := [], alts := [], laidByText := true, laidKinds := [.data, .data, .data, .listed, .data, .data], laidTests := true, laidLooks := .later }
def SyntaxTellsUptoCardSaid : Prop := Claim7.holds Tryz.pinned (.plain (OpenSpec.upto syntaxTellsSpec)) syntaxTellsUptoCard

/-- THE SECOND FORM's CARD OF 'greenbeltlaw15.SyntaxParentheses'. -/
def syntaxParenthesesUptoCard : Claim7 := { stood := { row := syntaxParenthesesUptoRow, standIns := [], harness := (true, "808b1baaab06890156bf9594850e24f5baf562363ce7a6119ef76d48d3ae3efc"), looks := true }, kinds := [], alts := [], laidByText := true, laidKinds := [.data, .data, .data, .listed, .data, .data], laidTests := true, laidLooks := .later }
def SyntaxParenthesesUptoCardSaid : Prop := Claim7.holds Tryz.pinned (.plain (OpenSpec.upto syntaxParenthesesSpec)) syntaxParenthesesUptoCard

/-- THE SECOND FORM's CARD OF 'greenbeltlaw15.SyntaxPrints'. -/
def syntaxPrintsUptoCard : Claim7 := { stood := { row := syntaxPrintsUptoRow, standIns := [], harness := (true, "808b1baaab06890156bf9594850e24f5baf562363ce7a6119ef76d48d3ae3efc"), looks := true }, kinds := [], alts := [], laidByText := true, laidKinds := [.data, .data, .data, .listed, .data, .data], laidTests := true, laidLooks := .later }
def SyntaxPrintsUptoCardSaid : Prop := Claim7.holds Tryz.pinned (.plain (OpenSpec.upto syntaxPrintsSpec)) syntaxPrintsUptoCard

/-- THE SECOND FORM's CARD OF 'greenbeltlaw15.SyntaxBack'. -/
def syntaxBackUptoCard : Claim7 := { stood := { row := syntaxBackUptoRow, standIns := [], harness := (true, "808b1baaab06890156bf9594850e24f5baf562363ce7a6119ef76d48d3ae3efc"), looks := true }, kinds := [], alts := [], laidByText := true, laidKinds := [.data, .data, .data, .listed, .data, .data], laidTests := true, laidLooks := .later }
def SyntaxBackUptoCardSaid : Prop := Claim7.holds Tryz.pinned (.plain (OpenSpec.upto syntaxBackSpec)) syntaxBackUptoCard

/-- THE SECOND FORM's CARD OF 'greenbeltlaw15.SyntaxOrder'. -/
def syntaxOrderUptoCard : Claim7 := { stood := { row := syntaxOrderUptoRow, standIns := [], harness := (true, "808b1baaab06890156bf9594850e24f5baf562363ce7a6119ef76d48d3ae3efc"), looks := true }, kinds := [], alts := [], laidByText := true, laidKinds := [.data, .data, .data, .listed, .data, .data], laidTests := true, laidLooks := .later }
def SyntaxOrderUptoCardSaid : Prop := Claim7.holds Tryz.pinned (.plain (OpenSpec.upto syntaxOrderSpec)) syntaxOrderUptoCard

/-- THE SECOND FORM's CARD OF 'greenbeltlaw15.SyntaxCanonical'. -/
def syntaxCanonicalUptoCard : Claim7 := { stood := { row := syntaxCanonicalUptoRow, standIns := [], harness := (true, "808b1baaab06890156bf9594850e24f5baf562363ce7a6119ef76d48d3ae3efc"), looks := true }, kinds := [], alts := [], laidByText := true, laidKinds := [.data, .data, .data, .listed, .data, .data], laidTests := true, laidLooks := .later }
def SyntaxCanonicalUptoCardSaid : Prop := Claim7.holds Tryz.pinned (.plain (OpenSpec.upto syntaxCanonicalSpec)) syntaxCanonicalUptoCard
end Rows
end Go.Proofs.YtffencjoddkghaaGreatDoor
