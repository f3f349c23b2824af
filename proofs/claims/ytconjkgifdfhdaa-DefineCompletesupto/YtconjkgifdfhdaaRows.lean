/-
  NARROWER THAN 'FOR EVERY INPUT', by the rows' own cells (each row's printed sentence says how): DefineTells: loops · DefineOrders: loops · DefineCircles: loops · DefineDepends: loops · DefineCompletes: loops · ExprReplaces: loops.
  DERIVED. THE GIVEN ROWS OF THIS SEAT. 6 by the template 'for every input the law returns true; each argument reads behind the call as it read before'; 0 by the template 'total and deterministic' (their statements: YtconjkgifdfhdaaTotals.lean).
  GIVEN WITH THE SEED: the statements are not yours to turn. If you find one false, say at which input.
  Laid BY PROGRAM, IN A SANDBOX (cutbox-rows.mjs): the forced cells as the released guide's own fill.sh prints them over the translation 0cf637bde5553eef… (all of the seat's roots in one cut). By AI agents, Wed Nov 11 2026. No macro, syntax, notation, axiom, sorry.
-/
import Derived.Test.YtconjkgifdfhdaaChecked
import GoSem.Claim
import GoSem.ClaimJoined
import GoSem.ClaimMapViews
import Derived.JoinedTies
import Derived.KernelRfl
namespace Go.Proofs.Ytconjkgifdfhdaa
/- THE CELL 'sum', in the pinned program and in every row, IS THE sha256 OF THE DUMP (.gsa) THAT YtconjkgifdfhdaaProg.lean LOADS. Nothing in Lean hashes anything: it is a label: what it is worth is what the hold of that sum in a sandbox is worth. -/
noncomputable def Try.pinned : Pinned := { name := "ytconjkgifdfhdaa", sum := "0cf637bde5553eef30307120ce6b16ecf797a3cce0d5f755a8713fdd36d06d0b", checked := Try.checked }
namespace Rows
def none {H : Type} : Left H := { results := [], args := [] }

/-- 'greenbeltlaw16.DefineTells': WHATEVER THE INPUT: true; the input reads as it did. -/
def defineTellsSpec : ChangeSpec := { name := "defineTells", fn := fun _ => fun
  | [d1, d2] => { results := [.lit (.bool true)], args := [d1, d2] }
  | _ => none }
def defineTellsRow : OpenClaim := { program := "ytconjkgifdfhdaa", sum := "0cf637bde5553eef30307120ce6b16ecf797a3cce0d5f755a8713fdd36d06d0b", func := "greenbelt/greenbeltlaw16.DefineTells", spec := "defineTells", unfollowed := true, recurses := true, loops := true, apart := false }
def DefineTellsSaid : Prop := defineTellsRow.holds Try.pinned (OpenSpec.ofChange defineTellsSpec)

/-- ITS FALSE NEIGHBOUR: 'it returns false'. Refute it at one input. -/
def defineTellsWrong : ChangeSpec := { name := "defineTells", fn := fun _ => fun
  | [d1, d2] => { results := [.lit (.bool false)], args := [d1, d2] }
  | _ => none }
def DefineTellsWrongFalsely : Prop := defineTellsRow.holds Try.pinned (OpenSpec.ofChange defineTellsWrong)

/-- 'greenbeltlaw16.DefineOrders': WHATEVER THE INPUT: true; the input reads as it did. -/
def defineOrdersSpec : ChangeSpec := { name := "defineOrders", fn := fun _ => fun
  | [d] => { results := [.lit (.bool true)], args := [d] }
  | _ => none }
def defineOrdersRow : OpenClaim := { program := "ytconjkgifdfhdaa", sum := "0cf637bde5553eef30307120ce6b16ecf797a3cce0d5f755a8713fdd36d06d0b", func := "greenbelt/greenbeltlaw16.DefineOrders", spec := "defineOrders", unfollowed := true, recurses := true, loops := true, apart := false }
def DefineOrdersSaid : Prop := defineOrdersRow.holds Try.pinned (OpenSpec.ofChange defineOrdersSpec)

/-- ITS FALSE NEIGHBOUR: 'it returns false'. Refute it at one input. -/
def defineOrdersWrong : ChangeSpec := { name := "defineOrders", fn := fun _ => fun
  | [d] => { results := [.lit (.bool false)], args := [d] }
  | _ => none }
def DefineOrdersWrongFalsely : Prop := defineOrdersRow.holds Try.pinned (OpenSpec.ofChange defineOrdersWrong)

/-- 'greenbeltlaw16.DefineCircles': WHATEVER THE INPUT: true; the input reads as it did. -/
def defineCirclesSpec : ChangeSpec := { name := "defineCircles", fn := fun _ => fun
  | [d] => { results := [.lit (.bool true)], args := [d] }
  | _ => none }
def defineCirclesRow : OpenClaim := { program := "ytconjkgifdfhdaa", sum := "0cf637bde5553eef30307120ce6b16ecf797a3cce0d5f755a8713fdd36d06d0b", func := "greenbelt/greenbeltlaw16.DefineCircles", spec := "defineCircles", unfollowed := true, recurses := true, loops := true, apart := false }
def DefineCirclesSaid : Prop := defineCirclesRow.holds Try.pinned (OpenSpec.ofChange defineCirclesSpec)

/-- ITS FALSE NEIGHBOUR: 'it returns false'. Refute it at one input. -/
def defineCirclesWrong : ChangeSpec := { name := "defineCircles", fn := fun _ => fun
  | [d] => { results := [.lit (.bool false)], args := [d] }
  | _ => none }
def DefineCirclesWrongFalsely : Prop := defineCirclesRow.holds Try.pinned (OpenSpec.ofChange defineCirclesWrong)

/-- 'greenbeltlaw16.DefineDepends': WHATEVER THE INPUT: true; the input reads as it did. -/
def defineDependsSpec : ChangeSpec := { name := "defineDepends", fn := fun _ => fun
  | [d1, d2] => { results := [.lit (.bool true)], args := [d1, d2] }
  | _ => none }
def defineDependsRow : OpenClaim := { program := "ytconjkgifdfhdaa", sum := "0cf637bde5553eef30307120ce6b16ecf797a3cce0d5f755a8713fdd36d06d0b", func := "greenbelt/greenbeltlaw16.DefineDepends", spec := "defineDepends", unfollowed := true, recurses := true, loops := true, apart := false }
def DefineDependsSaid : Prop := defineDependsRow.holds Try.pinned (OpenSpec.ofChange defineDependsSpec)

/-- ITS FALSE NEIGHBOUR: 'it returns false'. Refute it at one input. -/
def defineDependsWrong : ChangeSpec := { name := "defineDepends", fn := fun _ => fun
  | [d1, d2] => { results := [.lit (.bool false)], args := [d1, d2] }
  | _ => none }
def DefineDependsWrongFalsely : Prop := defineDependsRow.holds Try.pinned (OpenSpec.ofChange defineDependsWrong)

/-- 'greenbeltlaw16.DefineCompletes': WHATEVER THE INPUT: true; the input reads as it did. -/
def defineCompletesSpec : ChangeSpec := { name := "defineCompletes", fn := fun _ => fun
  | [d] => { results := [.lit (.bool true)], args := [d] }
  | _ => none }
def defineCompletesRow : OpenClaim := { program := "ytconjkgifdfhdaa", sum := "0cf637bde5553eef30307120ce6b16ecf797a3cce0d5f755a8713fdd36d06d0b", func := "greenbelt/greenbeltlaw16.DefineCompletes", spec := "defineCompletes", unfollowed := true, recurses := true, loops := true, apart := false }
def DefineCompletesSaid : Prop := defineCompletesRow.holds Try.pinned (OpenSpec.ofChange defineCompletesSpec)

/-- ITS FALSE NEIGHBOUR: 'it returns false'. Refute it at one input. -/
def defineCompletesWrong : ChangeSpec := { name := "defineCompletes", fn := fun _ => fun
  | [d] => { results := [.lit (.bool false)], args := [d] }
  | _ => none }
def DefineCompletesWrongFalsely : Prop := defineCompletesRow.holds Try.pinned (OpenSpec.ofChange defineCompletesWrong)

/-- 'greenbeltlaw17.ExprReplaces': WHATEVER THE INPUT: true; the input reads as it did. -/
def exprReplacesSpec : ChangeSpec := { name := "exprReplaces", fn := fun _ => fun
  | [d1, d2, d3, d4, d5] => { results := [.lit (.bool true)], args := [d1, d2, d3, d4, d5] }
  | _ => none }
def exprReplacesRow : OpenClaim := { program := "ytconjkgifdfhdaa", sum := "0cf637bde5553eef30307120ce6b16ecf797a3cce0d5f755a8713fdd36d06d0b", func := "greenbelt/greenbeltlaw17.ExprReplaces", spec := "exprReplaces", unfollowed := true, recurses := true, loops := true, apart := false }
def ExprReplacesSaid : Prop := exprReplacesRow.holds Try.pinned (OpenSpec.ofChange exprReplacesSpec)

/-- ITS FALSE NEIGHBOUR: 'it returns false'. Refute it at one input. -/
def exprReplacesWrong : ChangeSpec := { name := "exprReplaces", fn := fun _ => fun
  | [d1, d2, d3, d4, d5] => { results := [.lit (.bool false)], args := [d1, d2, d3, d4, d5] }
  | _ => none }
def ExprReplacesWrongFalsely : Prop := exprReplacesRow.holds Try.pinned (OpenSpec.ofChange exprReplacesWrong)

/- THE SECOND FORM. 'bulk': how many values and letters a reading holds, each counted each time it is reached (what is shared counts as often as it is met; a slice's spare places count too). A statement '..UptoSaid' is the law's where the arguments, and the package variables that the reading takes, are together of bulk at most 1048576: NARROWER than '..Said'. Prove '..Said' where nothing that the law and all that it calls make is longer than what came in: it says more and counts as full. Else prove '..UptoSaid'. A law counts once. -/
mutual
def uptoBulk {H : Type} : DataW H → Nat
  | .lit (.string bytes) => bytes.length + 1
  | .lit _ => 1
  | .nil => 1
  | .ptr d => uptoBulk d + 1
  | .slice elems spare => uptoBulkAll elems + uptoBulkAll spare + 1
  | .agg parts => uptoBulkAll parts + 1
  | .iface _ d => uptoBulk d + 1
  | .map entries => uptoBulkEntries entries + 1
  | .held _ => 1
def uptoBulkAll {H : Type} : List (DataW H) → Nat
  | [] => 0
  | d :: r => uptoBulk d + uptoBulkAll r
def uptoBulkEntries {H : Type} : List (Lit × DataW H) → Nat
  | [] => 0
  | x :: r => uptoBulkEntry x + uptoBulkEntries r
def uptoBulkEntry {H : Type} : Lit × DataW H → Nat
  | (.string bytes, d) => bytes.length + uptoBulk d + 1
  | (_, d) => uptoBulk d + 1
 end
def uptoSmall : (H : Type) → List (DataW H) → Bool := fun _ ds => decide (uptoBulkAll ds ≤ 1048576)
def OpenSpec.upto (s : _root_.Go.ChangeSpec) : _root_.Go.OpenSpec := { _root_.Go.OpenSpec.ofChange s with cond := some uptoSmall }

/-- 'greenbeltlaw16.DefineTells', WHERE WHAT IT READS IS OF BULK AT MOST 1048576: true; the input reads as it did. -/
def defineTellsUptoRow : OpenClaim := { program := "ytconjkgifdfhdaa", sum := "0cf637bde5553eef30307120ce6b16ecf797a3cce0d5f755a8713fdd36d06d0b", func := "greenbelt/greenbeltlaw16.DefineTells", spec := "defineTells", unfollowed := true, recurses := true, loops := true, apart := false, narrowed := true }
def DefineTellsUptoSaid : Prop := defineTellsUptoRow.holds Try.pinned (OpenSpec.upto defineTellsSpec)

/-- 'greenbeltlaw16.DefineOrders', WHERE WHAT IT READS IS OF BULK AT MOST 1048576: true; the input reads as it did. -/
def defineOrdersUptoRow : OpenClaim := { program := "ytconjkgifdfhdaa", sum := "0cf637bde5553eef30307120ce6b16ecf797a3cce0d5f755a8713fdd36d06d0b", func := "greenbelt/greenbeltlaw16.DefineOrders", spec := "defineOrders", unfollowed := true, recurses := true, loops := true, apart := false, narrowed := true }
def DefineOrdersUptoSaid : Prop := defineOrdersUptoRow.holds Try.pinned (OpenSpec.upto defineOrdersSpec)

/-- 'greenbeltlaw16.DefineCircles', WHERE WHAT IT READS IS OF BULK AT MOST 1048576: true; the input reads as it did. -/
def defineCirclesUptoRow : OpenClaim := { program := "ytconjkgifdfhdaa", sum := "0cf637bde5553eef30307120ce6b16ecf797a3cce0d5f755a8713fdd36d06d0b", func := "greenbelt/greenbeltlaw16.DefineCircles", spec := "defineCircles", unfollowed := true, recurses := true, loops := true, apart := false, narrowed := true }
def DefineCirclesUptoSaid : Prop := defineCirclesUptoRow.holds Try.pinned (OpenSpec.upto defineCirclesSpec)

/-- 'greenbeltlaw16.DefineDepends', WHERE WHAT IT READS IS OF BULK AT MOST 1048576: true; the input reads as it did. -/
def defineDependsUptoRow : OpenClaim := { program := "ytconjkgifdfhdaa", sum := "0cf637bde5553eef30307120ce6b16ecf797a3cce0d5f755a8713fdd36d06d0b", func := "greenbelt/greenbeltlaw16.DefineDepends", spec := "defineDepends", unfollowed := true, recurses := true, loops := true, apart := false, narrowed := true }
def DefineDependsUptoSaid : Prop := defineDependsUptoRow.holds Try.pinned (OpenSpec.upto defineDependsSpec)

/-- 'greenbeltlaw16.DefineCompletes', WHERE WHAT IT READS IS OF BULK AT MOST 1048576: true; the input reads as it did. -/
def defineCompletesUptoRow : OpenClaim := { program := "ytconjkgifdfhdaa", sum := "0cf637bde5553eef30307120ce6b16ecf797a3cce0d5f755a8713fdd36d06d0b", func := "greenbelt/greenbeltlaw16.DefineCompletes", spec := "defineCompletes", unfollowed := true, recurses := true, loops := true, apart := false, narrowed := true }
def DefineCompletesUptoSaid : Prop := defineCompletesUptoRow.holds Try.pinned (OpenSpec.upto defineCompletesSpec)

/-- 'greenbeltlaw17.ExprReplaces', WHERE WHAT IT READS IS OF BULK AT MOST 1048576: true; the input reads as it did. -/
def exprReplacesUptoRow : OpenClaim := { program := "ytconjkgifdfhdaa", sum := "0cf637bde5553eef30307120ce6b16ecf797a3cce0d5f755a8713fdd36d06d0b", func := "greenbelt/greenbeltlaw17.ExprReplaces", spec := "exprReplaces", unfollowed := true, recurses := true, loops := true, apart := false, narrowed := true }
def ExprReplacesUptoSaid : Prop := exprReplacesUptoRow.holds Try.pinned (OpenSpec.upto exprReplacesSpec)

end Rows
end Go.Proofs.Ytconjkgifdfhdaa
