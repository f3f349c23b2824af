/-
  NARROWER THAN 'FOR EVERY INPUT', by the rows' own cells (each row's printed sentence says how): ReopenExactly: loops · ReopenAgain: loops · ReopenPut: loops.
  DERIVED. THE GIVEN ROWS OF THIS SEAT. 3 by the template 'for every input the law returns true; each argument reads behind the call as it read before'; 0 by the template 'total and deterministic' (their statements: YtenljipeggacjaaTotals.lean).
  GIVEN WITH THE SEED: the statements are not yours to turn. If you find one false, say at which input.
  Laid BY PROGRAM, IN A SANDBOX (cutbox-rows.mjs): the forced cells as the released guide's own fill.sh prints them over the translation e97a4cc6850ccd0f… (all of the seat's roots in one cut). By AI agents, Wed Nov 11 2026. No macro, syntax, notation, axiom, sorry.
-/
import Derived.Test.YtenljipeggacjaaChecked
import GoSem.Claim
import GoSem.ClaimJoined
import GoSem.ClaimMapViews
import Derived.JoinedTies
import Derived.KernelRfl
namespace Go.Proofs.Ytenljipeggacjaa
/- THE CELL 'sum', in the pinned program and in every row, IS THE sha256 OF THE DUMP (.gsa) THAT YtenljipeggacjaaProg.lean LOADS. Nothing in Lean hashes anything: it is a label: what it is worth is what the hold of that sum in a sandbox is worth. -/
noncomputable def Try.pinned : Pinned := { name := "ytenljipeggacjaa", sum := "e97a4cc6850ccd0fd5cea59449e313cfda482288274d70a343b4c569fd18f196", checked := Try.checked }
namespace Rows
def none {H : Type} : Left H := { results := [], args := [] }

/-- 'greenbeltlaw45.ReopenExactly': WHATEVER THE INPUT: true; the input reads as it did. -/
def reopenExactlySpec : ChangeSpec := { name := "reopenExactly", fn := fun _ => fun
  | [d1, d2, d3] => { results := [.lit (.bool true)], args := [d1, d2, d3] }
  | _ => none }
def reopenExactlyRow : OpenClaim := { program := "ytenljipeggacjaa", sum := "e97a4cc6850ccd0fd5cea59449e313cfda482288274d70a343b4c569fd18f196", func := "greenbelt/greenbeltlaw45.ReopenExactly", spec := "reopenExactly", unfollowed := true, recurses := true, loops := true, apart := false }
def ReopenExactlySaid : Prop := reopenExactlyRow.holds Try.pinned (OpenSpec.ofChange reopenExactlySpec)

/-- ITS FALSE NEIGHBOUR: 'it returns false'. Refute it at one input. -/
def reopenExactlyWrong : ChangeSpec := { name := "reopenExactly", fn := fun _ => fun
  | [d1, d2, d3] => { results := [.lit (.bool false)], args := [d1, d2, d3] }
  | _ => none }
def ReopenExactlyWrongFalsely : Prop := reopenExactlyRow.holds Try.pinned (OpenSpec.ofChange reopenExactlyWrong)

/-- 'greenbeltlaw45.ReopenAgain': WHATEVER THE INPUT: true; the input reads as it did. -/
def reopenAgainSpec : ChangeSpec := { name := "reopenAgain", fn := fun _ => fun
  | [d1, d2, d3] => { results := [.lit (.bool true)], args := [d1, d2, d3] }
  | _ => none }
def reopenAgainRow : OpenClaim := { program := "ytenljipeggacjaa", sum := "e97a4cc6850ccd0fd5cea59449e313cfda482288274d70a343b4c569fd18f196", func := "greenbelt/greenbeltlaw45.ReopenAgain", spec := "reopenAgain", unfollowed := true, recurses := true, loops := true, apart := false }
def ReopenAgainSaid : Prop := reopenAgainRow.holds Try.pinned (OpenSpec.ofChange reopenAgainSpec)

/-- ITS FALSE NEIGHBOUR: 'it returns false'. Refute it at one input. -/
def reopenAgainWrong : ChangeSpec := { name := "reopenAgain", fn := fun _ => fun
  | [d1, d2, d3] => { results := [.lit (.bool false)], args := [d1, d2, d3] }
  | _ => none }
def ReopenAgainWrongFalsely : Prop := reopenAgainRow.holds Try.pinned (OpenSpec.ofChange reopenAgainWrong)

/-- 'greenbeltlaw45.ReopenPut': WHATEVER THE INPUT: true; the input reads as it did. -/
def reopenPutSpec : ChangeSpec := { name := "reopenPut", fn := fun _ => fun
  | [d1, d2, d3, d4] => { results := [.lit (.bool true)], args := [d1, d2, d3, d4] }
  | _ => none }
def reopenPutRow : OpenClaim := { program := "ytenljipeggacjaa", sum := "e97a4cc6850ccd0fd5cea59449e313cfda482288274d70a343b4c569fd18f196", func := "greenbelt/greenbeltlaw45.ReopenPut", spec := "reopenPut", unfollowed := true, recurses := true, loops := true, apart := false }
def ReopenPutSaid : Prop := reopenPutRow.holds Try.pinned (OpenSpec.ofChange reopenPutSpec)

/-- ITS FALSE NEIGHBOUR: 'it returns false'. Refute it at one input. -/
def reopenPutWrong : ChangeSpec := { name := "reopenPut", fn := fun _ => fun
  | [d1, d2, d3, d4] => { results := [.lit (.bool false)], args := [d1, d2, d3, d4] }
  | _ => none }
def ReopenPutWrongFalsely : Prop := reopenPutRow.holds Try.pinned (OpenSpec.ofChange reopenPutWrong)

/- THE SECOND FORM. 'bulk': how many values and letters a reading holds, each counted each time it is reached (what is shared counts as often as it is met; a slice's spare places count too). A statement '..UptoSaid' is the law's where the arguments, and the package variables that the reading takes, are together of bulk at most 1048576: NARROWER than '..Said'. Prove '..Said' where nothing that the law and all that it calls make is longer than what came in: it says more and counts as full. Else prove '..UptoSaid'. A law counts once. -/
mutual
def uptoBulk {H : Type} : DataW H → Nat
  | .lit (.string bytes) => bytes.length + 1
  | .lit _ => 1
  | .nil => 1
  | .ptr d => uptoBulk d + 1
  | .slice elems spare => uptoBulkAll elems + uptoBulkAll spare + 1
  | .agg parts => uptoBulkAll parts + 1
  | .iface _ d => uptoBulk d + 1
  | .map entries => uptoBulkEntries entries + 1
  | .held _ => 1
def uptoBulkAll {H : Type} : List (DataW H) → Nat
  | [] => 0
  | d :: r => uptoBulk d + uptoBulkAll r
def uptoBulkEntries {H : Type} : List (Lit × DataW H) → Nat
  | [] => 0
  | x :: r => uptoBulkEntry x + uptoBulkEntries r
def uptoBulkEntry {H : Type} : Lit × DataW H → Nat
  | (.string bytes, d) => bytes.length + uptoBulk d + 1
  | (_, d) => uptoBulk d + 1
 end
def uptoSmall : (H : Type) → List (DataW H) → Bool := fun _ ds => decide (uptoBulkAll ds ≤ 1048576)
def OpenSpec.upto (s : _root_.Go.ChangeSpec) : _root_.Go.OpenSpec := { _root_.Go.OpenSpec.ofChange s with cond := some uptoSmall }

/-- 'greenbeltlaw45.ReopenExactly', WHERE WHAT IT READS IS OF BULK AT MOST 1048576: true; the input reads as it did. -/
def reopenExactlyUptoRow : OpenClaim := { program := "ytenljipeggacjaa", sum := "e97a4cc6850ccd0fd5cea59449e313cfda482288274d70a343b4c569fd18f196", func := "greenbelt/greenbeltlaw45.ReopenExactly", spec := "reopenExactly", unfollowed := true, recurses := true, loops := true, apart := false, narrowed := true }
def ReopenExactlyUptoSaid : Prop := reopenExactlyUptoRow.holds Try.pinned (OpenSpec.upto reopenExactlySpec)

/-- 'greenbeltlaw45.ReopenAgain', WHERE WHAT IT READS IS OF BULK AT MOST 1048576: true; the input reads as it did. -/
def reopenAgainUptoRow : OpenClaim := { program := "ytenljipeggacjaa", sum := "e97a4cc6850ccd0fd5cea59449e313cfda482288274d70a343b4c569fd18f196", func := "greenbelt/greenbeltlaw45.ReopenAgain", spec := "reopenAgain", unfollowed := true, recurses := true, loops := true, apart := false, narrowed := true }
def ReopenAgainUptoSaid : Prop := reopenAgainUptoRow.holds Try.pinned (OpenSpec.upto reopenAgainSpec)

/-- 'greenbeltlaw45.ReopenPut', WHERE WHAT IT READS IS OF BULK AT MOST 1048576: true; the input reads as it did. -/
def reopenPutUptoRow : OpenClaim := { program := "ytenljipeggacjaa", sum := "e97a4cc6850ccd0fd5cea59449e313cfda482288274d70a343b4c569fd18f196", func := "greenbelt/greenbeltlaw45.ReopenPut", spec := "reopenPut", unfollowed := true, recurses := true, loops := true, apart := false, narrowed := true }
def ReopenPutUptoSaid : Prop := reopenPutUptoRow.holds Try.pinned (OpenSpec.upto reopenPutSpec)

end Rows
end Go.Proofs.Ytenljipeggacjaa
