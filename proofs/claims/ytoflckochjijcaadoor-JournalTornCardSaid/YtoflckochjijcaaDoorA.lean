/- printed by journal.py -/
import Derived.Test.YtoflckochjijcaaDoorEvThree
import Derived.Test.YtoflckochjijcaaDoorEwOne
import Derived.Test.YtoflckochjijcaaDoorProg
set_option linter.all false
namespace Go.Proofs.YtoflckochjijcaaDoor
open Go Go.RowKit Go.Eng Go.EV
structure disk_file where
  now : (List UInt8)
  last : (List UInt8)
  deriving Inhabited, DecidableEq
def enc_disk_file (x : disk_file) : List V := [.str x.now, .str x.last]
structure disk_sector where
  file : Int
  number : Int
  deriving Inhabited, DecidableEq
def enc_disk_sector (x : disk_sector) : List V := [.int .i64 x.file, .int .i64 x.number]
structure greenbeltref03_Op where
  Kind : Int
  S : (List UInt8)
  N : Int
  Keep : (List Int)
  deriving Inhabited, DecidableEq
def enc_greenbeltref03_Op (x : greenbeltref03_Op) : List V := [.int .i64 x.Kind, .str x.S, .int .i64 x.N, .vs 1 (List.map EV.encI x.Keep)]
abbrev oS (l : List (disk_sector × Bool)) : EV.Obj := .map (encM (fun e => V.agg (enc_disk_sector e)) V.bool l)
abbrev oF (l : List (Int × disk_file)) : EV.Obj := .map (encM (V.int .i64) (fun e => V.agg (enc_disk_file e)) l)
abbrev oQ (l : List disk_sector) : EV.Obj := .row 78 2 0 (List.map enc_disk_sector l)
abbrev iI (x : Int) : V := .int .i64 x
abbrev pO : V := .ptr 1000000 0 0
abbrev kD : List Nat := [1000000, 1000001, 1000002, 1000003]
abbrev rD : List (Nat × Nat) := [(1000000, 1000000), (1000001, 1000001), (1000002, 1000002), (1000003, 1000003)]
theorem vw2 {F : Heap} {a b : V} : ViewL F [a, b] [a, b] := .cons (.same _) (.cons (.same _) .nil)
theorem vw3 {F : Heap} {a b c : V} : ViewL F [a, b, c] [a, b, c] := .cons (.same _) vw2
theorem mL {α : Type} {l r : List α} {x : α} (i : Nat) (h : l[i]? = some x) : x ∈ l ++ r := List.mem_append_left _ (List.mem_of_getElem? h)
abbrev bD (k : Nat) (n : Nat) (t : List V) : EV.Obj := .box 64 (.mp 1000001 :: .sl 2 k n 0 n :: .mp 1000003 :: t)
abbrev dH (b : EV.Obj) (f : List (Int × disk_file)) (q : List disk_sector) (s : List (disk_sector × Bool)) : Heap := [(1000000, b), (1000001, oF f), (1000002, oQ q), (1000003, oS s)]
end Go.Proofs.YtoflckochjijcaaDoor
