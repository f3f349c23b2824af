/-
  NARROWER THAN 'FOR EVERY INPUT', by the rows' own cells (each row's printed sentence says how): ExprTurns: loops · ExprCircles: loops.
  DERIVED. THE GIVEN ROWS OF THIS SEAT. 3 by the template 'for every input the law returns true; each argument reads behind the call as it read before'; 0 by the template 'total and deterministic' (their statements: YtconjkgifdfhdabTotals.lean).
  GIVEN WITH THE SEED: the statements are not yours to turn. If you find one false, say at which input.
  Laid BY PROGRAM, IN A SANDBOX (cutbox-rows.mjs): the forced cells as the released guide's own fill.sh prints them over the translation 6108317d6f74ced2… (all of the seat's roots in one cut). By AI agents, Wed Nov 11 2026. No macro, syntax, notation, axiom, sorry.
-/
import Derived.Test.YtconjkgifdfhdabChecked
import GoSem.Claim
import GoSem.ClaimJoined
import GoSem.ClaimMapViews
import Derived.JoinedTies
import Derived.KernelRfl
namespace Go.Proofs.Ytconjkgifdfhdab
/- THE CELL 'sum', in the pinned program and in every row, IS THE sha256 OF THE DUMP (.gsa) THAT YtconjkgifdfhdabProg.lean LOADS. Nothing in Lean hashes anything: it is a label: what it is worth is what the hold of that sum in a sandbox is worth. -/
noncomputable def Try.pinned : Pinned := { name := "ytconjkgifdfhdab", sum := "6108317d6f74ced2f0b046c8f3ce78c4117abf8977307ce1102a6a3b390447f9", checked := Try.checked }
namespace Rows
def none {H : Type} : Left H := { results := [], args := [] }

/-- 'greenbeltlaw17.ExprComputes': WHATEVER THE INPUT: true; the input reads as it did. -/
def exprComputesSpec : ChangeSpec := { name := "exprComputes", fn := fun _ => fun
  | [d1, d2, d3] => { results := [.lit (.bool true)], args := [d1, d2, d3] }
  | _ => none }
def exprComputesRow : OpenClaim := { program := "ytconjkgifdfhdab", sum := "6108317d6f74ced2f0b046c8f3ce78c4117abf8977307ce1102a6a3b390447f9", func := "greenbelt/greenbeltlaw17.ExprComputes", spec := "exprComputes", unfollowed := true, recurses := true, apart := false }
def ExprComputesSaid : Prop := exprComputesRow.holds Try.pinned (OpenSpec.ofChange exprComputesSpec)

/-- ITS FALSE NEIGHBOUR: 'it returns false'. Refute it at one input. -/
def exprComputesWrong : ChangeSpec := { name := "exprComputes", fn := fun _ => fun
  | [d1, d2, d3] => { results := [.lit (.bool false)], args := [d1, d2, d3] }
  | _ => none }
def ExprComputesWrongFalsely : Prop := exprComputesRow.holds Try.pinned (OpenSpec.ofChange exprComputesWrong)

/-- 'greenbeltlaw17.ExprTurns': WHATEVER THE INPUT: true; the input reads as it did. -/
def exprTurnsSpec : ChangeSpec := { name := "exprTurns", fn := fun _ => fun
  | [d1, d2, d3, d4, d5] => { results := [.lit (.bool true)], args := [d1, d2, d3, d4, d5] }
  | _ => none }
def exprTurnsRow : OpenClaim := { program := "ytconjkgifdfhdab", sum := "6108317d6f74ced2f0b046c8f3ce78c4117abf8977307ce1102a6a3b390447f9", func := "greenbelt/greenbeltlaw17.ExprTurns", spec := "exprTurns", unfollowed := true, recurses := true, loops := true, apart := false }
def ExprTurnsSaid : Prop := exprTurnsRow.holds Try.pinned (OpenSpec.ofChange exprTurnsSpec)

/-- ITS FALSE NEIGHBOUR: 'it returns false'. Refute it at one input. -/
def exprTurnsWrong : ChangeSpec := { name := "exprTurns", fn := fun _ => fun
  | [d1, d2, d3, d4, d5] => { results := [.lit (.bool false)], args := [d1, d2, d3, d4, d5] }
  | _ => none }
def ExprTurnsWrongFalsely : Prop := exprTurnsRow.holds Try.pinned (OpenSpec.ofChange exprTurnsWrong)

/-- 'greenbeltlaw17.ExprCircles': WHATEVER THE INPUT: true; the input reads as it did. -/
def exprCirclesSpec : ChangeSpec := { name := "exprCircles", fn := fun _ => fun
  | [d1, d2, d3, d4] => { results := [.lit (.bool true)], args := [d1, d2, d3, d4] }
  | _ => none }
def exprCirclesRow : OpenClaim := { program := "ytconjkgifdfhdab", sum := "6108317d6f74ced2f0b046c8f3ce78c4117abf8977307ce1102a6a3b390447f9", func := "greenbelt/greenbeltlaw17.ExprCircles", spec := "exprCircles", unfollowed := true, recurses := true, loops := true, apart := false }
def ExprCirclesSaid : Prop := exprCirclesRow.holds Try.pinned (OpenSpec.ofChange exprCirclesSpec)

/-- ITS FALSE NEIGHBOUR: 'it returns false'. Refute it at one input. -/
def exprCirclesWrong : ChangeSpec := { name := "exprCircles", fn := fun _ => fun
  | [d1, d2, d3, d4] => { results := [.lit (.bool false)], args := [d1, d2, d3, d4] }
  | _ => none }
def ExprCirclesWrongFalsely : Prop := exprCirclesRow.holds Try.pinned (OpenSpec.ofChange exprCirclesWrong)

/- THE SECOND FORM. 'bulk': how many values and letters a reading holds, each counted each time it is reached (what is shared counts as often as it is met; a slice's spare places count too). A statement '..UptoSaid' is the law's where the arguments, and the package variables that the reading takes, are together of bulk at most 1048576: NARROWER than '..Said'. Prove '..Said' where nothing that the law and all that it calls make is longer than what came in: it says more and counts as full. Else prove '..UptoSaid'. A law counts once. -/
mutual
def uptoBulk {H : Type} : DataW H → Nat
  | .lit (.string bytes) => bytes.length + 1
  | .lit _ => 1
  | .nil => 1
  | .ptr d => uptoBulk d + 1
  | .slice elems spare => uptoBulkAll elems + uptoBulkAll spare + 1
  | .agg parts => uptoBulkAll parts + 1
  | .iface _ d => uptoBulk d + 1
  | .map entries => uptoBulkEntries entries + 1
  | .held _ => 1
def uptoBulkAll {H : Type} : List (DataW H) → Nat
  | [] => 0
  | d :: r => uptoBulk d + uptoBulkAll r
def uptoBulkEntries {H : Type} : List (Lit × DataW H) → Nat
  | [] => 0
  | x :: r => uptoBulkEntry x + uptoBulkEntries r
def uptoBulkEntry {H : Type} : Lit × DataW H → Nat
  | (.string bytes, d) => bytes.length + uptoBulk d + 1
  | (_, d) => uptoBulk d + 1
 end
def uptoSmall : (H : Type) → List (DataW H) → Bool := fun _ ds => decide (uptoBulkAll ds ≤ 1048576)
def OpenSpec.upto (s : _root_.Go.ChangeSpec) : _root_.Go.OpenSpec := { _root_.Go.OpenSpec.ofChange s with cond := some uptoSmall }

/-- 'greenbeltlaw17.ExprComputes', WHERE WHAT IT READS IS OF BULK AT MOST 1048576: true; the input reads as it did. -/
def exprComputesUptoRow : OpenClaim := { program := "ytconjkgifdfhdab", sum := "6108317d6f74ced2f0b046c8f3ce78c4117abf8977307ce1102a6a3b390447f9", func := "greenbelt/greenbeltlaw17.ExprComputes", spec := "exprComputes", unfollowed := true, recurses := true, apart := false, narrowed := true }
def ExprComputesUptoSaid : Prop := exprComputesUptoRow.holds Try.pinned (OpenSpec.upto exprComputesSpec)

/-- 'greenbeltlaw17.ExprTurns', WHERE WHAT IT READS IS OF BULK AT MOST 1048576: true; the input reads as it did. -/
def exprTurnsUptoRow : OpenClaim := { program := "ytconjkgifdfhdab", sum := "6108317d6f74ced2f0b046c8f3ce78c4117abf8977307ce1102a6a3b390447f9", func := "greenbelt/greenbeltlaw17.ExprTurns", spec := "exprTurns", unfollowed := true, recurses := true, loops := true, apart := false, narrowed := true }
def ExprTurnsUptoSaid : Prop := exprTurnsUptoRow.holds Try.pinned (OpenSpec.upto exprTurnsSpec)

/-- 'greenbeltlaw17.ExprCircles', WHERE WHAT IT READS IS OF BULK AT MOST 1048576: true; the input reads as it did. -/
def exprCirclesUptoRow : OpenClaim := { program := "ytconjkgifdfhdab", sum := "6108317d6f74ced2f0b046c8f3ce78c4117abf8977307ce1102a6a3b390447f9", func := "greenbelt/greenbeltlaw17.ExprCircles", spec := "exprCircles", unfollowed := true, recurses := true, loops := true, apart := false, narrowed := true }
def ExprCirclesUptoSaid : Prop := exprCirclesUptoRow.holds Try.pinned (OpenSpec.upto exprCirclesSpec)

end Rows
end Go.Proofs.Ytconjkgifdfhdab
