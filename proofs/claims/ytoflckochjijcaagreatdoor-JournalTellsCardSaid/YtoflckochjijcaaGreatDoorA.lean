/- printed by journal.py -/
import Derived.Test.YtoflckochjijcaaGreatDoorEvThree
import Derived.Test.YtoflckochjijcaaGreatDoorEwOne
import Derived.Test.YtoflckochjijcaaGreatDoorProg
set_option linter.all false
namespace Go.Proofs.YtoflckochjijcaaGreatDoor
open Go Go.RowKit Go.Eng Go.EV
structure disk_file where
  now : (List UInt8)
  last : (List UInt8)
  deriving Inhabited, DecidableEq
def enc_disk_file (x : disk_file) : List V := [.str x.now, .str x.last]
structure disk_sector where
  file : Int
  number : Int
  deriving Inhabited, DecidableEq
def enc_disk_sector (x : disk_sector) : List V := [.int .i64 x.file, .int .i64 x.number]
structure greenbeltref03_Op where
  Kind : Int
  S : (List UInt8)
  N : Int
  Keep : (List Int)
  deriving Inhabited, DecidableEq
def enc_greenbeltref03_Op (x : greenbeltref03_Op) : List V := [.int .i64 x.Kind, .str x.S, .int .i64 x.N, .vs 1 (List.map EV.encI x.Keep)]
structure greenbeltref02_File where
  Number : Int
  Now : (List UInt8)
  Last : (List UInt8)
  deriving Inhabited, DecidableEq
def enc_greenbeltref02_File (x : greenbeltref02_File) : List V := [.int .i64 x.Number, .str x.Now, .str x.Last]
structure greenbeltref02_Sector where
  F : Int
  N : Int
  deriving Inhabited, DecidableEq
def enc_greenbeltref02_Sector (x : greenbeltref02_Sector) : List V := [.int .i64 x.F, .int .i64 x.N]
end Go.Proofs.YtoflckochjijcaaGreatDoor
