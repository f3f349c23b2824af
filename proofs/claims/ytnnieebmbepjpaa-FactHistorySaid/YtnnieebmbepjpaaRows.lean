/-
  No cell of these rows narrows 'for every input' (looked for: loops, veiled, ifaces, maps, wideKeys, modest, calm, conditions, laid).
  DERIVED. THE GIVEN ROWS OF THIS SEAT. 4 by the template 'for every input the law returns true; each argument reads behind the call as it read before'; 0 by the template 'total and deterministic' (their statements: YtnnieebmbepjpaaTotals.lean).
  GIVEN WITH THE SEED: the statements are not yours to turn. If you find one false, say at which input.
  Laid BY PROGRAM, IN A SANDBOX (cutbox-rows.mjs): the forced cells as the released guide's own fill.sh prints them over the translation abbabe4a88783afe… (all of the seat's roots in one cut). By AI agents, Wed Nov 11 2026. No macro, syntax, notation, axiom, sorry.
-/
import Derived.Test.YtnnieebmbepjpaaChecked
import GoSem.Claim
import GoSem.ClaimJoined
import GoSem.ClaimMapViews
import Derived.JoinedTies
import Derived.KernelRfl
namespace Go.Proofs.Ytnnieebmbepjpaa
/- THE CELL 'sum', in the pinned program and in every row, IS THE sha256 OF THE DUMP (.gsa) THAT YtnnieebmbepjpaaProg.lean LOADS. Nothing in Lean hashes anything: it is a label: what it is worth is what the hold of that sum in a sandbox is worth. -/
noncomputable def Try.pinned : Pinned := { name := "ytnnieebmbepjpaa", sum := "abbabe4a88783afeb93076e2fe4782dc1239deb4e8e8e3ad6bc090c1b34d973b", checked := Try.checked }
namespace Rows
def none {H : Type} : Left H := { results := [], args := [] }

/-- 'greenbeltlaw44.FactTells': WHATEVER THE INPUT: true; the input reads as it did. -/
def factTellsSpec : ChangeSpec := { name := "factTells", fn := fun _ => fun
  | [d1, d2, d3, d4, d5, d6] => { results := [.lit (.bool true)], args := [d1, d2, d3, d4, d5, d6] }
  | _ => none }
def factTellsRow : OpenClaim := { program := "ytnnieebmbepjpaa", sum := "abbabe4a88783afeb93076e2fe4782dc1239deb4e8e8e3ad6bc090c1b34d973b", func := "greenbelt/greenbeltlaw44.FactTells", spec := "factTells", unfollowed := true, recurses := true, apart := false }
def FactTellsSaid : Prop := factTellsRow.holds Try.pinned (OpenSpec.ofChange factTellsSpec)

/-- ITS FALSE NEIGHBOUR: 'it returns false'. Refute it at one input. -/
def factTellsWrong : ChangeSpec := { name := "factTells", fn := fun _ => fun
  | [d1, d2, d3, d4, d5, d6] => { results := [.lit (.bool false)], args := [d1, d2, d3, d4, d5, d6] }
  | _ => none }
def FactTellsWrongFalsely : Prop := factTellsRow.holds Try.pinned (OpenSpec.ofChange factTellsWrong)

/-- 'greenbeltlaw44.FactKeeps': WHATEVER THE INPUT: true; the input reads as it did. -/
def factKeepsSpec : ChangeSpec := { name := "factKeeps", fn := fun _ => fun
  | [d1, d2, d3, d4, d5] => { results := [.lit (.bool true)], args := [d1, d2, d3, d4, d5] }
  | _ => none }
def factKeepsRow : OpenClaim := { program := "ytnnieebmbepjpaa", sum := "abbabe4a88783afeb93076e2fe4782dc1239deb4e8e8e3ad6bc090c1b34d973b", func := "greenbelt/greenbeltlaw44.FactKeeps", spec := "factKeeps", unfollowed := true, recurses := true, apart := false }
def FactKeepsSaid : Prop := factKeepsRow.holds Try.pinned (OpenSpec.ofChange factKeepsSpec)

/-- ITS FALSE NEIGHBOUR: 'it returns false'. Refute it at one input. -/
def factKeepsWrong : ChangeSpec := { name := "factKeeps", fn := fun _ => fun
  | [d1, d2, d3, d4, d5] => { results := [.lit (.bool false)], args := [d1, d2, d3, d4, d5] }
  | _ => none }
def FactKeepsWrongFalsely : Prop := factKeepsRow.holds Try.pinned (OpenSpec.ofChange factKeepsWrong)

/-- 'greenbeltlaw44.FactHistory': WHATEVER THE INPUT: true; the input reads as it did. -/
def factHistorySpec : ChangeSpec := { name := "factHistory", fn := fun _ => fun
  | [d1, d2, d3, d4] => { results := [.lit (.bool true)], args := [d1, d2, d3, d4] }
  | _ => none }
def factHistoryRow : OpenClaim := { program := "ytnnieebmbepjpaa", sum := "abbabe4a88783afeb93076e2fe4782dc1239deb4e8e8e3ad6bc090c1b34d973b", func := "greenbelt/greenbeltlaw44.FactHistory", spec := "factHistory", unfollowed := true, recurses := true, apart := false }
def FactHistorySaid : Prop := factHistoryRow.holds Try.pinned (OpenSpec.ofChange factHistorySpec)

/-- ITS FALSE NEIGHBOUR: 'it returns false'. Refute it at one input. -/
def factHistoryWrong : ChangeSpec := { name := "factHistory", fn := fun _ => fun
  | [d1, d2, d3, d4] => { results := [.lit (.bool false)], args := [d1, d2, d3, d4] }
  | _ => none }
def FactHistoryWrongFalsely : Prop := factHistoryRow.holds Try.pinned (OpenSpec.ofChange factHistoryWrong)

/-- 'greenbeltlaw44.FactCorrects': WHATEVER THE INPUT: true; the input reads as it did. -/
def factCorrectsSpec : ChangeSpec := { name := "factCorrects", fn := fun _ => fun
  | [d1, d2, d3, d4, d5] => { results := [.lit (.bool true)], args := [d1, d2, d3, d4, d5] }
  | _ => none }
def factCorrectsRow : OpenClaim := { program := "ytnnieebmbepjpaa", sum := "abbabe4a88783afeb93076e2fe4782dc1239deb4e8e8e3ad6bc090c1b34d973b", func := "greenbelt/greenbeltlaw44.FactCorrects", spec := "factCorrects", unfollowed := true, recurses := true, apart := false }
def FactCorrectsSaid : Prop := factCorrectsRow.holds Try.pinned (OpenSpec.ofChange factCorrectsSpec)

/-- ITS FALSE NEIGHBOUR: 'it returns false'. Refute it at one input. -/
def factCorrectsWrong : ChangeSpec := { name := "factCorrects", fn := fun _ => fun
  | [d1, d2, d3, d4, d5] => { results := [.lit (.bool false)], args := [d1, d2, d3, d4, d5] }
  | _ => none }
def FactCorrectsWrongFalsely : Prop := factCorrectsRow.holds Try.pinned (OpenSpec.ofChange factCorrectsWrong)

/- THE SECOND FORM. 'bulk': how many values and letters a reading holds, each counted each time it is reached (what is shared counts as often as it is met; a slice's spare places count too). A statement '..UptoSaid' is the law's where the arguments, and the package variables that the reading takes, are together of bulk at most 1048576: NARROWER than '..Said'. Prove '..Said' where nothing that the law and all that it calls make is longer than what came in: it says more and counts as full. Else prove '..UptoSaid'. A law counts once. -/
mutual
def uptoBulk {H : Type} : DataW H → Nat
  | .lit (.string bytes) => bytes.length + 1
  | .lit _ => 1
  | .nil => 1
  | .ptr d => uptoBulk d + 1
  | .slice elems spare => uptoBulkAll elems + uptoBulkAll spare + 1
  | .agg parts => uptoBulkAll parts + 1
  | .iface _ d => uptoBulk d + 1
  | .map entries => uptoBulkEntries entries + 1
  | .held _ => 1
def uptoBulkAll {H : Type} : List (DataW H) → Nat
  | [] => 0
  | d :: r => uptoBulk d + uptoBulkAll r
def uptoBulkEntries {H : Type} : List (Lit × DataW H) → Nat
  | [] => 0
  | x :: r => uptoBulkEntry x + uptoBulkEntries r
def uptoBulkEntry {H : Type} : Lit × DataW H → Nat
  | (.string bytes, d) => bytes.length + uptoBulk d + 1
  | (_, d) => uptoBulk d + 1
 end
def uptoSmall : (H : Type) → List (DataW H) → Bool := fun _ ds => decide (uptoBulkAll ds ≤ 1048576)
def OpenSpec.upto (s : _root_.Go.ChangeSpec) : _root_.Go.OpenSpec := { _root_.Go.OpenSpec.ofChange s with cond := some uptoSmall }

/-- 'greenbeltlaw44.FactTells', WHERE WHAT IT READS IS OF BULK AT MOST 1048576: true; the input reads as it did. -/
def factTellsUptoRow : OpenClaim := { program := "ytnnieebmbepjpaa", sum := "abbabe4a88783afeb93076e2fe4782dc1239deb4e8e8e3ad6bc090c1b34d973b", func := "greenbelt/greenbeltlaw44.FactTells", spec := "factTells", unfollowed := true, recurses := true, apart := false, narrowed := true }
def FactTellsUptoSaid : Prop := factTellsUptoRow.holds Try.pinned (OpenSpec.upto factTellsSpec)

/-- 'greenbeltlaw44.FactKeeps', WHERE WHAT IT READS IS OF BULK AT MOST 1048576: true; the input reads as it did. -/
def factKeepsUptoRow : OpenClaim := { program := "ytnnieebmbepjpaa", sum := "abbabe4a88783afeb93076e2fe4782dc1239deb4e8e8e3ad6bc090c1b34d973b", func := "greenbelt/greenbeltlaw44.FactKeeps", spec := "factKeeps", unfollowed := true, recurses := true, apart := false, narrowed := true }
def FactKeepsUptoSaid : Prop := factKeepsUptoRow.holds Try.pinned (OpenSpec.upto factKeepsSpec)

/-- 'greenbeltlaw44.FactHistory', WHERE WHAT IT READS IS OF BULK AT MOST 1048576: true; the input reads as it did. -/
def factHistoryUptoRow : OpenClaim := { program := "ytnnieebmbepjpaa", sum := "abbabe4a88783afeb93076e2fe4782dc1239deb4e8e8e3ad6bc090c1b34d973b", func := "greenbelt/greenbeltlaw44.FactHistory", spec := "factHistory", unfollowed := true, recurses := true, apart := false, narrowed := true }
def FactHistoryUptoSaid : Prop := factHistoryUptoRow.holds Try.pinned (OpenSpec.upto factHistorySpec)

/-- 'greenbeltlaw44.FactCorrects', WHERE WHAT IT READS IS OF BULK AT MOST 1048576: true; the input reads as it did. -/
def factCorrectsUptoRow : OpenClaim := { program := "ytnnieebmbepjpaa", sum := "abbabe4a88783afeb93076e2fe4782dc1239deb4e8e8e3ad6bc090c1b34d973b", func := "greenbelt/greenbeltlaw44.FactCorrects", spec := "factCorrects", unfollowed := true, recurses := true, apart := false, narrowed := true }
def FactCorrectsUptoSaid : Prop := factCorrectsUptoRow.holds Try.pinned (OpenSpec.upto factCorrectsSpec)

end Rows
end Go.Proofs.Ytnnieebmbepjpaa
