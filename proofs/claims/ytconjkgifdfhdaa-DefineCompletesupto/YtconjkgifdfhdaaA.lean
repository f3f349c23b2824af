/- printed by expr.py -/
import Derived.Test.YtconjkgifdfhdaaEwOne
import Derived.Test.YtconjkgifdfhdaaProg
set_option linter.all false
namespace Go.Proofs.Ytconjkgifdfhdaa
open Go Go.RowKit Go.Eng Go.EV
structure Expr where
  Op : Int
  N : Int
  S : (List UInt8)
  Key : (List UInt8)
  Args : (List Expr)
instance : Inhabited Expr := ⟨⟨0, 0, [], [], []⟩⟩
mutual
def enc0_Expr : Expr → List V
  | ⟨a0, a1, a2, a3, a4⟩ => [.int .i64 a0, .int .i64 a1, .str a2, .str a3, .vs 5 (encs_Expr a4)]
def encs_Expr : List Expr → List (List V)
  | [] => []
  | x :: r => enc0_Expr x :: encs_Expr r
end
def enc_Expr (x : Expr) : List V := [.int .i64 x.Op, .int .i64 x.N, .str x.S, .str x.Key, .vs 5 (encs_Expr x.Args)]
theorem enc0_Expr_eq (x : Expr) : enc0_Expr x = enc_Expr x := by cases x; rw [enc0_Expr]; rfl
theorem encs_Expr_eq : ∀ l : List Expr, encs_Expr l = l.map enc_Expr
  | [] => by rw [encs_Expr]; rfl
  | x :: r => by rw [encs_Expr, enc0_Expr_eq, encs_Expr_eq r]; rfl
structure Def where
  Name : (List UInt8)
  Body : Expr
  deriving Inhabited
def enc_Def (x : Def) : List V := [.str x.Name, .int .i64 x.Body.Op, .int .i64 x.Body.N, .str x.Body.S, .str x.Body.Key, .vs 5 (encs_Expr x.Body.Args)]
structure Entry where
  Name : (List UInt8)
  N : Int
  deriving Inhabited, DecidableEq
def enc_Entry (x : Entry) : List V := [.str x.Name, .int .i64 x.N]
structure Table where
  Name : (List UInt8)
  Rows : (List Entry)
  Else : Int
  deriving Inhabited, DecidableEq
def enc_Table (x : Table) : List V := [.str x.Name, .vs 2 (List.map enc_Entry x.Rows), .int .i64 x.Else]
structure Point where
  X : Int
  Y : Int
  deriving Inhabited, DecidableEq
def enc_Point (x : Point) : List V := [.int .i64 x.X, .int .i64 x.Y]
structure Zone where
  Name : (List UInt8)
  Overlay : Bool
  Corners : (List Point)
  deriving Inhabited, DecidableEq
def enc_Zone (x : Zone) : List V := [.str x.Name, .bool x.Overlay, .vs 2 (List.map enc_Point x.Corners)]
structure Plane where
  Side : Int
  Base : Int
  Num : Int
  Den : Int
  deriving Inhabited, DecidableEq
def enc_Plane (x : Plane) : List V := [.int .i64 x.Side, .int .i64 x.Base, .int .i64 x.Num, .int .i64 x.Den]
structure Rule where
  Name : (List UInt8)
  Zones : (List (List UInt8))
  Except : (List (List UInt8))
  From : Int
  Until : Int
  Grace : Int
  Vary : Bool
  Kind : Int
  Test : Expr
  Plane : Plane
  Uses : Int
  Other : Int
  N : Int
  deriving Inhabited
def enc_Rule (x : Rule) : List V := [.str x.Name, .vs 1 (List.map EV.encS x.Zones), .vs 1 (List.map EV.encS x.Except), .int .i64 x.From, .int .i64 x.Until, .int .i64 x.Grace, .bool x.Vary, .int .i64 x.Kind, .int .i64 x.Test.Op, .int .i64 x.Test.N, .str x.Test.S, .str x.Test.Key, .vs 5 (encs_Expr x.Test.Args), .int .i64 x.Plane.Side, .int .i64 x.Plane.Base, .int .i64 x.Plane.Num, .int .i64 x.Plane.Den, .int .i64 x.Uses, .int .i64 x.Other, .int .i64 x.N]
structure Cap where
  Name : (List UInt8)
  Load : Int
  Limit : Int
  Corners : (List Point)
  deriving Inhabited, DecidableEq
def enc_Cap (x : Cap) : List V := [.str x.Name, .int .i64 x.Load, .int .i64 x.Limit, .vs 2 (List.map enc_Point x.Corners)]
structure Point3 where
  X : Int
  Y : Int
  Z_ : Int
  deriving Inhabited, DecidableEq
def enc_Point3 (x : Point3) : List V := [.int .i64 x.X, .int .i64 x.Y, .int .i64 x.Z_]
structure View where
  Name : (List UInt8)
  Eye : Point3
  Least : Int
  Targets : (List Point3)
  deriving Inhabited, DecidableEq
def enc_View (x : View) : List V := [.str x.Name, .int .i64 x.Eye.X, .int .i64 x.Eye.Y, .int .i64 x.Eye.Z_, .int .i64 x.Least, .vs 3 (List.map enc_Point3 x.Targets)]
structure Plan where
  Defs : (List Def)
  Tables : (List Table)
  Zones : (List Zone)
  Rules : (List Rule)
  Caps : (List Cap)
  Views : (List View)
  Sun : (List Point3)
  Hours : Int
  deriving Inhabited
def enc_Plan (x : Plan) : List V := [.vs 6 (List.map enc_Def x.Defs), .vs 3 (List.map enc_Table x.Tables), .vs 3 (List.map enc_Zone x.Zones), .vs 20 (List.map enc_Rule x.Rules), .vs 4 (List.map enc_Cap x.Caps), .vs 6 (List.map enc_View x.Views), .vs 3 (List.map enc_Point3 x.Sun), .int .i64 x.Hours]
end Go.Proofs.Ytconjkgifdfhdaa
