/- printed by gen2.py -/
import Derived.Test.YtconjkgifdfhdaaE
import Derived.Test.YtconjkgifdfhdaaSD
import Derived.Test.YtconjkgifdfhdaaSPartA
set_option linter.all false
set_option maxRecDepth 100000
namespace Go.Proofs.Ytconjkgifdfhdaa
open Go Go.RowKit Go.Eng Go.EV
variable [Fuel]

theorem ws_slices_ContainsFunc_4 (nF : Nat) (ih_slices_IndexFunc_6 : ∀ (s : (List Expr)) (c_2 : (List (List UInt8))) (c_1_Defs : (List Def)) (c_1_Tables : (List Table)) (c_1_Zones : (List Zone)) (c_1_Rules : (List Rule)) (c_1_Caps : (List Cap)) (c_1_Views : (List View)) (c_1_Sun : (List Point3)) (c_1_Hours : Int) (r : Int × (List (List UInt8)) × (List Def) × (List Table) × (List Zone) × (List Rule) × (List Cap) × (List View) × (List Point3) × Int), s_slices_IndexFunc_6 nF s c_2 c_1_Defs c_1_Tables c_1_Zones c_1_Rules c_1_Caps c_1_Views c_1_Sun c_1_Hours = some r → FnA Try.prog 84 [.vs 5 (encs_Expr s), .fn 64 [] [.ptr 1000000 0 0, .ptr 1000002 0 0, .ptr 1000003 0 0]] [(1000000, .box 34 [.sl 1 1000001 ((c_2).length) 0 ((c_2).length)]), (1000001, .row 9 1 0 (mS c_2)), (1000002, .box 30 [.vs 6 (mM enc_Def c_1_Defs), .vs 3 (mM enc_Table c_1_Tables), .vs 3 (mM enc_Zone c_1_Zones), .vs 20 (mM enc_Rule c_1_Rules), .vs 4 (mM enc_Cap c_1_Caps), .vs 6 (mM enc_View c_1_Views), .vs 3 (mM enc_Point3 c_1_Sun), .int .i64 c_1_Hours]), (1000003, .box 54 [.fn 64 [] [.ptr 1000000 0 0, .ptr 1000002 0 0, .ptr 1000003 0 0]])] (.int .i64 r.1) [(1000001, .row 9 1 0 (mS r.2.1)), (1000000, .box 34 [.sl 1 1000001 ((r.2.1).length) 0 ((r.2.1).length)]), (1000002, .box 30 [.vs 6 (mM enc_Def r.2.2.1), .vs 3 (mM enc_Table r.2.2.2.1), .vs 3 (mM enc_Zone r.2.2.2.2.1), .vs 20 (mM enc_Rule r.2.2.2.2.2.1), .vs 4 (mM enc_Cap r.2.2.2.2.2.2.1), .vs 6 (mM enc_View r.2.2.2.2.2.2.2.1), .vs 3 (mM enc_Point3 r.2.2.2.2.2.2.2.2.1), .int .i64 r.2.2.2.2.2.2.2.2.2]), (1000003, .box 54 [.fn 64 [] [.ptr 1000000 0 0, .ptr 1000002 0 0, .ptr 1000003 0 0]])]) (ih_slices_ContainsFunc_4 : ∀ (s : (List Expr)) (c_2 : (List (List UInt8))) (c_1_Defs : (List Def)) (c_1_Tables : (List Table)) (c_1_Zones : (List Zone)) (c_1_Rules : (List Rule)) (c_1_Caps : (List Cap)) (c_1_Views : (List View)) (c_1_Sun : (List Point3)) (c_1_Hours : Int) (r : Bool × (List (List UInt8)) × (List Def) × (List Table) × (List Zone) × (List Rule) × (List Cap) × (List View) × (List Point3) × Int), s_slices_ContainsFunc_4 nF s c_2 c_1_Defs c_1_Tables c_1_Zones c_1_Rules c_1_Caps c_1_Views c_1_Sun c_1_Hours = some r → FnA Try.prog 70 [.vs 5 (encs_Expr s), .fn 64 [] [.ptr 1000000 0 0, .ptr 1000002 0 0, .ptr 1000003 0 0]] [(1000000, .box 34 [.sl 1 1000001 ((c_2).length) 0 ((c_2).length)]), (1000001, .row 9 1 0 (mS c_2)), (1000002, .box 30 [.vs 6 (mM enc_Def c_1_Defs), .vs 3 (mM enc_Table c_1_Tables), .vs 3 (mM enc_Zone c_1_Zones), .vs 20 (mM enc_Rule c_1_Rules), .vs 4 (mM enc_Cap c_1_Caps), .vs 6 (mM enc_View c_1_Views), .vs 3 (mM enc_Point3 c_1_Sun), .int .i64 c_1_Hours]), (1000003, .box 54 [.fn 64 [] [.ptr 1000000 0 0, .ptr 1000002 0 0, .ptr 1000003 0 0]])] (.bool r.1) [(1000001, .row 9 1 0 (mS r.2.1)), (1000000, .box 34 [.sl 1 1000001 ((r.2.1).length) 0 ((r.2.1).length)]), (1000002, .box 30 [.vs 6 (mM enc_Def r.2.2.1), .vs 3 (mM enc_Table r.2.2.2.1), .vs 3 (mM enc_Zone r.2.2.2.2.1), .vs 20 (mM enc_Rule r.2.2.2.2.2.1), .vs 4 (mM enc_Cap r.2.2.2.2.2.2.1), .vs 6 (mM enc_View r.2.2.2.2.2.2.2.1), .vs 3 (mM enc_Point3 r.2.2.2.2.2.2.2.2.1), .int .i64 r.2.2.2.2.2.2.2.2.2]), (1000003, .box 54 [.fn 64 [] [.ptr 1000000 0 0, .ptr 1000002 0 0, .ptr 1000003 0 0]])]) (ih_expr_Check_1 : ∀ (e : Expr) (a1 : (List (List UInt8))) (a2_Defs : (List Def)) (a2_Tables : (List Table)) (a2_Zones : (List Zone)) (a2_Rules : (List Rule)) (a2_Caps : (List Cap)) (a2_Views : (List View)) (a2_Sun : (List Point3)) (a2_Hours : Int) (r : Bool × (List (List UInt8)) × (List Def) × (List Table) × (List Zone) × (List Rule) × (List Cap) × (List View) × (List Point3) × Int), s_expr_Check_1 nF e a1 a2_Defs a2_Tables a2_Zones a2_Rules a2_Caps a2_Views a2_Sun a2_Hours = some r → FnA Try.prog 64 [.agg (enc_Expr e), .ptr 1000000 0 0, .ptr 1000002 0 0, .ptr 1000003 0 0] [(1000000, .box 34 [.sl 1 1000001 ((a1).length) 0 ((a1).length)]), (1000001, .row 9 1 0 (mS a1)), (1000002, .box 30 [.vs 6 (mM enc_Def a2_Defs), .vs 3 (mM enc_Table a2_Tables), .vs 3 (mM enc_Zone a2_Zones), .vs 20 (mM enc_Rule a2_Rules), .vs 4 (mM enc_Cap a2_Caps), .vs 6 (mM enc_View a2_Views), .vs 3 (mM enc_Point3 a2_Sun), .int .i64 a2_Hours]), (1000003, .box 54 [.fn 64 [] [.ptr 1000000 0 0, .ptr 1000002 0 0, .ptr 1000003 0 0]])] (.bool r.1) [(1000001, .row 9 1 0 (mS r.2.1)), (1000000, .box 34 [.sl 1 1000001 ((r.2.1).length) 0 ((r.2.1).length)]), (1000002, .box 30 [.vs 6 (mM enc_Def r.2.2.1), .vs 3 (mM enc_Table r.2.2.2.1), .vs 3 (mM enc_Zone r.2.2.2.2.1), .vs 20 (mM enc_Rule r.2.2.2.2.2.1), .vs 4 (mM enc_Cap r.2.2.2.2.2.2.1), .vs 6 (mM enc_View r.2.2.2.2.2.2.2.1), .vs 3 (mM enc_Point3 r.2.2.2.2.2.2.2.2.1), .int .i64 r.2.2.2.2.2.2.2.2.2]), (1000003, .box 54 [.fn 64 [] [.ptr 1000000 0 0, .ptr 1000002 0 0, .ptr 1000003 0 0]])]) (s : (List Expr)) (c_2 : (List (List UInt8))) (c_1_Defs : (List Def)) (c_1_Tables : (List Table)) (c_1_Zones : (List Zone)) (c_1_Rules : (List Rule)) (c_1_Caps : (List Cap)) (c_1_Views : (List View)) (c_1_Sun : (List Point3)) (c_1_Hours : Int) (r : Bool × (List (List UInt8)) × (List Def) × (List Table) × (List Zone) × (List Rule) × (List Cap) × (List View) × (List Point3) × Int) (hs : s_slices_ContainsFunc_4 (nF + 1) s c_2 c_1_Defs c_1_Tables c_1_Zones c_1_Rules c_1_Caps c_1_Views c_1_Sun c_1_Hours = some r) : FnA Try.prog 70 [.vs 5 (encs_Expr s), .fn 64 [] [.ptr 1000000 0 0, .ptr 1000002 0 0, .ptr 1000003 0 0]] [(1000000, .box 34 [.sl 1 1000001 ((c_2).length) 0 ((c_2).length)]), (1000001, .row 9 1 0 (mS c_2)), (1000002, .box 30 [.vs 6 (mM enc_Def c_1_Defs), .vs 3 (mM enc_Table c_1_Tables), .vs 3 (mM enc_Zone c_1_Zones), .vs 20 (mM enc_Rule c_1_Rules), .vs 4 (mM enc_Cap c_1_Caps), .vs 6 (mM enc_View c_1_Views), .vs 3 (mM enc_Point3 c_1_Sun), .int .i64 c_1_Hours]), (1000003, .box 54 [.fn 64 [] [.ptr 1000000 0 0, .ptr 1000002 0 0, .ptr 1000003 0 0]])] (.bool r.1) [(1000001, .row 9 1 0 (mS r.2.1)), (1000000, .box 34 [.sl 1 1000001 ((r.2.1).length) 0 ((r.2.1).length)]), (1000002, .box 30 [.vs 6 (mM enc_Def r.2.2.1), .vs 3 (mM enc_Table r.2.2.2.1), .vs 3 (mM enc_Zone r.2.2.2.2.1), .vs 20 (mM enc_Rule r.2.2.2.2.2.1), .vs 4 (mM enc_Cap r.2.2.2.2.2.2.1), .vs 6 (mM enc_View r.2.2.2.2.2.2.2.1), .vs 3 (mM enc_Point3 r.2.2.2.2.2.2.2.2.1), .int .i64 r.2.2.2.2.2.2.2.2.2]), (1000003, .box 54 [.fn 64 [] [.ptr 1000000 0 0, .ptr 1000002 0 0, .ptr 1000003 0 0]])] := by
 refine fnA_of_wp (N := 9) Try.func70 rfl rfl rfl fun cK0 => ?_
 rw [s_slices_ContainsFunc_4] at hs
 refine v_same (ρ' := [(0, .vs 5 (encs_Expr s)), (1, .fn 64 [] [.ptr 1000000 0 0, .ptr 1000002 0 0, .ptr 1000003 0 0])]) rfl rfl ?_
 refine vS (vT (oR 1 [(4, .bool false)] kr ?_))
 refine oN (nT (vS (vT (oR 2 [(6, .fn 64 [] [.ptr 1000000 0 0, .ptr 1000002 0 0, .ptr 1000003 0 0]), (5, .vs 5 (encs_Expr s))] kr ?_))))
 obtain ⟨y1, c1, hs⟩ := bS hs
 refine o_loc (F := [(1000000, .box 34 [.sl 1 1000001 ((c_2).length) 0 ((c_2).length)]), (1000001, .row 9 1 0 (mS c_2)), (1000002, .box 30 [.vs 6 (mM enc_Def c_1_Defs), .vs 3 (mM enc_Table c_1_Tables), .vs 3 (mM enc_Zone c_1_Zones), .vs 20 (mM enc_Rule c_1_Rules), .vs 4 (mM enc_Cap c_1_Caps), .vs 6 (mM enc_View c_1_Views), .vs 3 (mM enc_Point3 c_1_Sun), .int .i64 c_1_Hours]), (1000003, .box 54 [.fn 64 [] [.ptr 1000000 0 0, .ptr 1000002 0 0, .ptr 1000003 0 0]])]) (F' := [(1000001, .row 9 1 0 (mS y1.2.1)), (1000000, .box 34 [.sl 1 1000001 ((y1.2.1).length) 0 ((y1.2.1).length)]), (1000002, .box 30 [.vs 6 (mM enc_Def y1.2.2.1), .vs 3 (mM enc_Table y1.2.2.2.1), .vs 3 (mM enc_Zone y1.2.2.2.2.1), .vs 20 (mM enc_Rule y1.2.2.2.2.2.1), .vs 4 (mM enc_Cap y1.2.2.2.2.2.2.1), .vs 6 (mM enc_View y1.2.2.2.2.2.2.2.1), .vs 3 (mM enc_Point3 y1.2.2.2.2.2.2.2.2.1), .int .i64 y1.2.2.2.2.2.2.2.2.2]), (1000003, .box 54 [.fn 64 [] [.ptr 1000000 0 0, .ptr 1000002 0 0, .ptr 1000003 0 0]])]) (v := .int .i64 y1.1) [1000000, 1000001, 1000002, 1000003] kr kr rfl kr (loc_g (R := []) [.vs 5 (encs_Expr s), .fn 64 [] [.ptr 1000000 0 0, .ptr 1000002 0 0, .ptr 1000003 0 0]] [(1000000, 1000000), (1000001, 1000001), (1000002, 1000002), (1000003, 1000003)] (callV_func hbv84 kr) (ih_slices_IndexFunc_6 s c_2 c_1_Defs c_1_Tables c_1_Zones c_1_Rules c_1_Caps c_1_Views c_1_Sun c_1_Hours _ c1) (.cons (.same _) (.cons (.same _) (.nil))) kr kr kr kr kr kr kr kr) kr ?_
 refine oR 2 [(4, .bool (decide (y1.1 ≥ 0))), (8, .bool (decide (y1.1 ≥ 0)))] kr ?_
 refine oN (nT (v_ret ?_))
 obtain rfl := si hs
 exact fin_ret kr kr kr
theorem ws_expr_Check_1 (nF : Nat) (ih_slices_IndexFunc_6 : ∀ (s : (List Expr)) (c_2 : (List (List UInt8))) (c_1_Defs : (List Def)) (c_1_Tables : (List Table)) (c_1_Zones : (List Zone)) (c_1_Rules : (List Rule)) (c_1_Caps : (List Cap)) (c_1_Views : (List View)) (c_1_Sun : (List Point3)) (c_1_Hours : Int) (r : Int × (List (List UInt8)) × (List Def) × (List Table) × (List Zone) × (List Rule) × (List Cap) × (List View) × (List Point3) × Int), s_slices_IndexFunc_6 nF s c_2 c_1_Defs c_1_Tables c_1_Zones c_1_Rules c_1_Caps c_1_Views c_1_Sun c_1_Hours = some r → FnA Try.prog 84 [.vs 5 (encs_Expr s), .fn 64 [] [.ptr 1000000 0 0, .ptr 1000002 0 0, .ptr 1000003 0 0]] [(1000000, .box 34 [.sl 1 1000001 ((c_2).length) 0 ((c_2).length)]), (1000001, .row 9 1 0 (mS c_2)), (1000002, .box 30 [.vs 6 (mM enc_Def c_1_Defs), .vs 3 (mM enc_Table c_1_Tables), .vs 3 (mM enc_Zone c_1_Zones), .vs 20 (mM enc_Rule c_1_Rules), .vs 4 (mM enc_Cap c_1_Caps), .vs 6 (mM enc_View c_1_Views), .vs 3 (mM enc_Point3 c_1_Sun), .int .i64 c_1_Hours]), (1000003, .box 54 [.fn 64 [] [.ptr 1000000 0 0, .ptr 1000002 0 0, .ptr 1000003 0 0]])] (.int .i64 r.1) [(1000001, .row 9 1 0 (mS r.2.1)), (1000000, .box 34 [.sl 1 1000001 ((r.2.1).length) 0 ((r.2.1).length)]), (1000002, .box 30 [.vs 6 (mM enc_Def r.2.2.1), .vs 3 (mM enc_Table r.2.2.2.1), .vs 3 (mM enc_Zone r.2.2.2.2.1), .vs 20 (mM enc_Rule r.2.2.2.2.2.1), .vs 4 (mM enc_Cap r.2.2.2.2.2.2.1), .vs 6 (mM enc_View r.2.2.2.2.2.2.2.1), .vs 3 (mM enc_Point3 r.2.2.2.2.2.2.2.2.1), .int .i64 r.2.2.2.2.2.2.2.2.2]), (1000003, .box 54 [.fn 64 [] [.ptr 1000000 0 0, .ptr 1000002 0 0, .ptr 1000003 0 0]])]) (ih_slices_ContainsFunc_4 : ∀ (s : (List Expr)) (c_2 : (List (List UInt8))) (c_1_Defs : (List Def)) (c_1_Tables : (List Table)) (c_1_Zones : (List Zone)) (c_1_Rules : (List Rule)) (c_1_Caps : (List Cap)) (c_1_Views : (List View)) (c_1_Sun : (List Point3)) (c_1_Hours : Int) (r : Bool × (List (List UInt8)) × (List Def) × (List Table) × (List Zone) × (List Rule) × (List Cap) × (List View) × (List Point3) × Int), s_slices_ContainsFunc_4 nF s c_2 c_1_Defs c_1_Tables c_1_Zones c_1_Rules c_1_Caps c_1_Views c_1_Sun c_1_Hours = some r → FnA Try.prog 70 [.vs 5 (encs_Expr s), .fn 64 [] [.ptr 1000000 0 0, .ptr 1000002 0 0, .ptr 1000003 0 0]] [(1000000, .box 34 [.sl 1 1000001 ((c_2).length) 0 ((c_2).length)]), (1000001, .row 9 1 0 (mS c_2)), (1000002, .box 30 [.vs 6 (mM enc_Def c_1_Defs), .vs 3 (mM enc_Table c_1_Tables), .vs 3 (mM enc_Zone c_1_Zones), .vs 20 (mM enc_Rule c_1_Rules), .vs 4 (mM enc_Cap c_1_Caps), .vs 6 (mM enc_View c_1_Views), .vs 3 (mM enc_Point3 c_1_Sun), .int .i64 c_1_Hours]), (1000003, .box 54 [.fn 64 [] [.ptr 1000000 0 0, .ptr 1000002 0 0, .ptr 1000003 0 0]])] (.bool r.1) [(1000001, .row 9 1 0 (mS r.2.1)), (1000000, .box 34 [.sl 1 1000001 ((r.2.1).length) 0 ((r.2.1).length)]), (1000002, .box 30 [.vs 6 (mM enc_Def r.2.2.1), .vs 3 (mM enc_Table r.2.2.2.1), .vs 3 (mM enc_Zone r.2.2.2.2.1), .vs 20 (mM enc_Rule r.2.2.2.2.2.1), .vs 4 (mM enc_Cap r.2.2.2.2.2.2.1), .vs 6 (mM enc_View r.2.2.2.2.2.2.2.1), .vs 3 (mM enc_Point3 r.2.2.2.2.2.2.2.2.1), .int .i64 r.2.2.2.2.2.2.2.2.2]), (1000003, .box 54 [.fn 64 [] [.ptr 1000000 0 0, .ptr 1000002 0 0, .ptr 1000003 0 0]])]) (ih_expr_Check_1 : ∀ (e : Expr) (a1 : (List (List UInt8))) (a2_Defs : (List Def)) (a2_Tables : (List Table)) (a2_Zones : (List Zone)) (a2_Rules : (List Rule)) (a2_Caps : (List Cap)) (a2_Views : (List View)) (a2_Sun : (List Point3)) (a2_Hours : Int) (r : Bool × (List (List UInt8)) × (List Def) × (List Table) × (List Zone) × (List Rule) × (List Cap) × (List View) × (List Point3) × Int), s_expr_Check_1 nF e a1 a2_Defs a2_Tables a2_Zones a2_Rules a2_Caps a2_Views a2_Sun a2_Hours = some r → FnA Try.prog 64 [.agg (enc_Expr e), .ptr 1000000 0 0, .ptr 1000002 0 0, .ptr 1000003 0 0] [(1000000, .box 34 [.sl 1 1000001 ((a1).length) 0 ((a1).length)]), (1000001, .row 9 1 0 (mS a1)), (1000002, .box 30 [.vs 6 (mM enc_Def a2_Defs), .vs 3 (mM enc_Table a2_Tables), .vs 3 (mM enc_Zone a2_Zones), .vs 20 (mM enc_Rule a2_Rules), .vs 4 (mM enc_Cap a2_Caps), .vs 6 (mM enc_View a2_Views), .vs 3 (mM enc_Point3 a2_Sun), .int .i64 a2_Hours]), (1000003, .box 54 [.fn 64 [] [.ptr 1000000 0 0, .ptr 1000002 0 0, .ptr 1000003 0 0]])] (.bool r.1) [(1000001, .row 9 1 0 (mS r.2.1)), (1000000, .box 34 [.sl 1 1000001 ((r.2.1).length) 0 ((r.2.1).length)]), (1000002, .box 30 [.vs 6 (mM enc_Def r.2.2.1), .vs 3 (mM enc_Table r.2.2.2.1), .vs 3 (mM enc_Zone r.2.2.2.2.1), .vs 20 (mM enc_Rule r.2.2.2.2.2.1), .vs 4 (mM enc_Cap r.2.2.2.2.2.2.1), .vs 6 (mM enc_View r.2.2.2.2.2.2.2.1), .vs 3 (mM enc_Point3 r.2.2.2.2.2.2.2.2.1), .int .i64 r.2.2.2.2.2.2.2.2.2]), (1000003, .box 54 [.fn 64 [] [.ptr 1000000 0 0, .ptr 1000002 0 0, .ptr 1000003 0 0]])]) (e : Expr) (a1 : (List (List UInt8))) (a2_Defs : (List Def)) (a2_Tables : (List Table)) (a2_Zones : (List Zone)) (a2_Rules : (List Rule)) (a2_Caps : (List Cap)) (a2_Views : (List View)) (a2_Sun : (List Point3)) (a2_Hours : Int) (r : Bool × (List (List UInt8)) × (List Def) × (List Table) × (List Zone) × (List Rule) × (List Cap) × (List View) × (List Point3) × Int) (hs : s_expr_Check_1 (nF + 1) e a1 a2_Defs a2_Tables a2_Zones a2_Rules a2_Caps a2_Views a2_Sun a2_Hours = some r) : FnA Try.prog 64 [.agg (enc_Expr e), .ptr 1000000 0 0, .ptr 1000002 0 0, .ptr 1000003 0 0] [(1000000, .box 34 [.sl 1 1000001 ((a1).length) 0 ((a1).length)]), (1000001, .row 9 1 0 (mS a1)), (1000002, .box 30 [.vs 6 (mM enc_Def a2_Defs), .vs 3 (mM enc_Table a2_Tables), .vs 3 (mM enc_Zone a2_Zones), .vs 20 (mM enc_Rule a2_Rules), .vs 4 (mM enc_Cap a2_Caps), .vs 6 (mM enc_View a2_Views), .vs 3 (mM enc_Point3 a2_Sun), .int .i64 a2_Hours]), (1000003, .box 54 [.fn 64 [] [.ptr 1000000 0 0, .ptr 1000002 0 0, .ptr 1000003 0 0]])] (.bool r.1) [(1000001, .row 9 1 0 (mS r.2.1)), (1000000, .box 34 [.sl 1 1000001 ((r.2.1).length) 0 ((r.2.1).length)]), (1000002, .box 30 [.vs 6 (mM enc_Def r.2.2.1), .vs 3 (mM enc_Table r.2.2.2.1), .vs 3 (mM enc_Zone r.2.2.2.2.1), .vs 20 (mM enc_Rule r.2.2.2.2.2.1), .vs 4 (mM enc_Cap r.2.2.2.2.2.2.1), .vs 6 (mM enc_View r.2.2.2.2.2.2.2.1), .vs 3 (mM enc_Point3 r.2.2.2.2.2.2.2.2.1), .int .i64 r.2.2.2.2.2.2.2.2.2]), (1000003, .box 54 [.fn 64 [] [.ptr 1000000 0 0, .ptr 1000002 0 0, .ptr 1000003 0 0]])] := by
 refine fnA_of_wp (N := 33) Try.func64 rfl rfl rfl fun cK0 => ?_
 rw [s_expr_Check_1] at hs
 refine v_same (ρ' := [(0, .agg (enc_Expr e)), (1, .ptr 1000000 0 0), (2, .ptr 1000002 0 0), (3, .ptr 1000003 0 0)]) rfl rfl ?_
 refine vS (vT (o_runh 2 [(5, .bool false), (4, .ptr 4 0 0)] [(4, .box 44 (enc_Expr e)), (1000000, .box 34 [.sl 1 1000001 ((a1).length) 0 ((a1).length)]), (1000001, .row 9 1 0 (mS a1)), (1000002, .box 30 [.vs 6 (mM enc_Def a2_Defs), .vs 3 (mM enc_Table a2_Tables), .vs 3 (mM enc_Zone a2_Zones), .vs 20 (mM enc_Rule a2_Rules), .vs 4 (mM enc_Cap a2_Caps), .vs 6 (mM enc_View a2_Views), .vs 3 (mM enc_Point3 a2_Sun), .int .i64 a2_Hours]), (1000003, .box 54 [.fn 64 [] [.ptr 1000000 0 0, .ptr 1000002 0 0, .ptr 1000003 0 0]])] kr ?_))
 refine oN (nT (vS (vS (vT (oR 2 [(7, .int .i64 e.Op), (6, .ptr 4 0 0)] kr ?_)))))
 refine oN (nT (vB (vS (vT (oR 2 [(8, .bool (decide (e.Op = 1))), (9, .bool (decide (e.Op = 1)))] kr ?_)))))
 refine oN (nT ?_)
 refine v_cond (decide (e.Op = 1)) kr (fun h1 => ?_) (fun h1 => ?_)
 ·replace hs := bif_t h1 hs
  refine vS (vT (oR 3 [(12, .str e.S), (11, .ptr 4 0 2), (10, .sl 1 1000001 ((a1).length) 0 ((a1).length))] kr ?_))
  obtain ⟨y1, c1, hs⟩ := bS hs
  refine o_loc (F := [(1000001, .row 9 1 0 (mS a1))]) (F' := [(1000001, .row 9 1 0 (mS a1))]) (v := .bool y1) [1000001] kr kr rfl kr (loc_gcallB (vs := [.sl 1 1000001 ((a1).length) 0 ((a1).length), .str e.S]) (R := [(1000001, .row 9 1 0 (mS a1))]) (callV_func hbv65 kr) (w_slices_Contains_2 a1 e.S _ c1) (.cons (.row (t := 9) (fz := 0) kr (by first | (simp only [List.length_map, List.length_set, cpyT_length]; done) | rfl)) (.cons (.same _) (.nil))) kr kr kr) kr ?_
  refine oR 2 [(5, .bool (!y1)), (14, .bool (!y1))] kr ?_
  refine oN (nT (v_ret (rB (rT ?_))))
  obtain rfl := si hs
  exact fin_ret kr kr kr
 ·replace hs := bif_f h1 hs
  refine vS (vT (oR 2 [(15, .bool (decide (e.Op = 2))), (16, .bool (decide (e.Op = 2)))] kr ?_))
  refine oN (nT ?_)
  refine v_cond (decide (e.Op = 2)) kr (fun h2 => ?_) (fun h2 => ?_)
  ·replace hs := bif_t h2 hs
   refine vS (vT (oR 3 [(19, .fn 67 [] [.ptr 4 0 0]), (18, .vs 3 (mM enc_Table a2_Tables)), (17, .ptr 1000002 0 1)] kr ?_))
   obtain ⟨y2, c2, hs⟩ := bS hs
   refine o_loc (F := [(4, .box 44 (enc_Expr e))]) (F' := [(4, .box 44 [.int .i64 y2.2.1, .int .i64 y2.2.2.1, .str y2.2.2.2.1, .str y2.2.2.2.2.1, .vs 5 (encs_Expr y2.2.2.2.2.2)])]) (v := .bool y2.1) [4] kr kr rfl kr (loc_g (R := []) [.vs 3 (mM enc_Table a2_Tables), .fn 67 [] [.ptr 4 0 0]] [(1000000, 4)] (callV_func hbv66 kr) (w_slices_ContainsFunc_2 a2_Tables e.Op e.N e.S e.Key e.Args _ c2) (.cons (.same _) (.cons (.same _) (.nil))) kr kr kr kr kr kr kr kr) kr ?_
   refine oR 2 [(5, .bool (!y2.1)), (21, .bool (!y2.1))] kr ?_
   refine oN (nT (v_ret (rB (rT ?_))))
   obtain rfl := si hs
   exact fin_ret kr kr kr
  ·replace hs := bif_f h2 hs
   refine vS (vT (oR 2 [(22, .bool (decide (e.Op = 3))), (23, .bool (decide (e.Op = 3)))] kr ?_))
   refine oN (nT ?_)
   refine v_cond (decide (e.Op = 3)) kr (fun h3 => ?_) (fun h3 => ?_)
   ·replace hs := bif_t h3 hs
    refine vS (vT (oR 3 [(26, .fn 69 [] [.ptr 4 0 0]), (25, .vs 3 (mM enc_Zone a2_Zones)), (24, .ptr 1000002 0 2)] kr ?_))
    obtain ⟨y3, c3, hs⟩ := bS hs
    refine o_loc (F := [(4, .box 44 (enc_Expr e))]) (F' := [(4, .box 44 [.int .i64 y3.2.1, .int .i64 y3.2.2.1, .str y3.2.2.2.1, .str y3.2.2.2.2.1, .vs 5 (encs_Expr y3.2.2.2.2.2)])]) (v := .bool y3.1) [4] kr kr rfl kr (loc_g (R := []) [.vs 3 (mM enc_Zone a2_Zones), .fn 69 [] [.ptr 4 0 0]] [(1000000, 4)] (callV_func hbv68 kr) (w_slices_ContainsFunc_3 a2_Zones e.Op e.N e.S e.Key e.Args _ c3) (.cons (.same _) (.cons (.same _) (.nil))) kr kr kr kr kr kr kr kr) kr ?_
    refine oR 2 [(5, .bool (!y3.1)), (28, .bool (!y3.1))] kr ?_
    refine oN (nT (v_ret (rB (rT ?_))))
    obtain rfl := si hs
    exact fin_ret kr kr kr
   ·replace hs := bif_f h3 hs
    refine vK (nB (nT (vS (vT (oR 3 [(31, .fn 64 [] [.ptr 1000000 0 0, .ptr 1000002 0 0, .ptr 1000003 0 0]), (30, .vs 5 (encs_Expr e.Args)), (29, .ptr 4 0 4)] kr ?_)))))
    obtain ⟨y4, c4, hs⟩ := bS hs
    refine o_loc (F := [(1000000, .box 34 [.sl 1 1000001 ((a1).length) 0 ((a1).length)]), (1000001, .row 9 1 0 (mS a1)), (1000002, .box 30 [.vs 6 (mM enc_Def a2_Defs), .vs 3 (mM enc_Table a2_Tables), .vs 3 (mM enc_Zone a2_Zones), .vs 20 (mM enc_Rule a2_Rules), .vs 4 (mM enc_Cap a2_Caps), .vs 6 (mM enc_View a2_Views), .vs 3 (mM enc_Point3 a2_Sun), .int .i64 a2_Hours]), (1000003, .box 54 [.fn 64 [] [.ptr 1000000 0 0, .ptr 1000002 0 0, .ptr 1000003 0 0]])]) (F' := [(1000001, .row 9 1 0 (mS y4.2.1)), (1000000, .box 34 [.sl 1 1000001 ((y4.2.1).length) 0 ((y4.2.1).length)]), (1000002, .box 30 [.vs 6 (mM enc_Def y4.2.2.1), .vs 3 (mM enc_Table y4.2.2.2.1), .vs 3 (mM enc_Zone y4.2.2.2.2.1), .vs 20 (mM enc_Rule y4.2.2.2.2.2.1), .vs 4 (mM enc_Cap y4.2.2.2.2.2.2.1), .vs 6 (mM enc_View y4.2.2.2.2.2.2.2.1), .vs 3 (mM enc_Point3 y4.2.2.2.2.2.2.2.2.1), .int .i64 y4.2.2.2.2.2.2.2.2.2]), (1000003, .box 54 [.fn 64 [] [.ptr 1000000 0 0, .ptr 1000002 0 0, .ptr 1000003 0 0]])]) (v := .bool y4.1) [1000000, 1000001, 1000002, 1000003] kr kr rfl kr (loc_g (R := []) [.vs 5 (encs_Expr e.Args), .fn 64 [] [.ptr 1000000 0 0, .ptr 1000002 0 0, .ptr 1000003 0 0]] [(1000000, 1000000), (1000001, 1000001), (1000002, 1000002), (1000003, 1000003)] (callV_func hbv70 kr) (ih_slices_ContainsFunc_4 e.Args a1 a2_Defs a2_Tables a2_Zones a2_Rules a2_Caps a2_Views a2_Sun a2_Hours _ c4) (.cons (.same _) (.cons (.same _) (.nil))) kr kr kr kr kr kr kr kr) kr ?_
    refine oR 1 [(5, .bool y4.1)] kr ?_
    refine oN (nT (v_ret ?_))
    obtain rfl := si hs
    exact fin_ret kr kr kr
theorem wr_expr_Check_1 : ∀ nF : Nat, (∀ (s : (List Expr)) (c_2 : (List (List UInt8))) (c_1_Defs : (List Def)) (c_1_Tables : (List Table)) (c_1_Zones : (List Zone)) (c_1_Rules : (List Rule)) (c_1_Caps : (List Cap)) (c_1_Views : (List View)) (c_1_Sun : (List Point3)) (c_1_Hours : Int) (r : Int × (List (List UInt8)) × (List Def) × (List Table) × (List Zone) × (List Rule) × (List Cap) × (List View) × (List Point3) × Int), s_slices_IndexFunc_6 nF s c_2 c_1_Defs c_1_Tables c_1_Zones c_1_Rules c_1_Caps c_1_Views c_1_Sun c_1_Hours = some r → FnA Try.prog 84 [.vs 5 (encs_Expr s), .fn 64 [] [.ptr 1000000 0 0, .ptr 1000002 0 0, .ptr 1000003 0 0]] [(1000000, .box 34 [.sl 1 1000001 ((c_2).length) 0 ((c_2).length)]), (1000001, .row 9 1 0 (mS c_2)), (1000002, .box 30 [.vs 6 (mM enc_Def c_1_Defs), .vs 3 (mM enc_Table c_1_Tables), .vs 3 (mM enc_Zone c_1_Zones), .vs 20 (mM enc_Rule c_1_Rules), .vs 4 (mM enc_Cap c_1_Caps), .vs 6 (mM enc_View c_1_Views), .vs 3 (mM enc_Point3 c_1_Sun), .int .i64 c_1_Hours]), (1000003, .box 54 [.fn 64 [] [.ptr 1000000 0 0, .ptr 1000002 0 0, .ptr 1000003 0 0]])] (.int .i64 r.1) [(1000001, .row 9 1 0 (mS r.2.1)), (1000000, .box 34 [.sl 1 1000001 ((r.2.1).length) 0 ((r.2.1).length)]), (1000002, .box 30 [.vs 6 (mM enc_Def r.2.2.1), .vs 3 (mM enc_Table r.2.2.2.1), .vs 3 (mM enc_Zone r.2.2.2.2.1), .vs 20 (mM enc_Rule r.2.2.2.2.2.1), .vs 4 (mM enc_Cap r.2.2.2.2.2.2.1), .vs 6 (mM enc_View r.2.2.2.2.2.2.2.1), .vs 3 (mM enc_Point3 r.2.2.2.2.2.2.2.2.1), .int .i64 r.2.2.2.2.2.2.2.2.2]), (1000003, .box 54 [.fn 64 [] [.ptr 1000000 0 0, .ptr 1000002 0 0, .ptr 1000003 0 0]])]) ∧ (∀ (s : (List Expr)) (c_2 : (List (List UInt8))) (c_1_Defs : (List Def)) (c_1_Tables : (List Table)) (c_1_Zones : (List Zone)) (c_1_Rules : (List Rule)) (c_1_Caps : (List Cap)) (c_1_Views : (List View)) (c_1_Sun : (List Point3)) (c_1_Hours : Int) (r : Bool × (List (List UInt8)) × (List Def) × (List Table) × (List Zone) × (List Rule) × (List Cap) × (List View) × (List Point3) × Int), s_slices_ContainsFunc_4 nF s c_2 c_1_Defs c_1_Tables c_1_Zones c_1_Rules c_1_Caps c_1_Views c_1_Sun c_1_Hours = some r → FnA Try.prog 70 [.vs 5 (encs_Expr s), .fn 64 [] [.ptr 1000000 0 0, .ptr 1000002 0 0, .ptr 1000003 0 0]] [(1000000, .box 34 [.sl 1 1000001 ((c_2).length) 0 ((c_2).length)]), (1000001, .row 9 1 0 (mS c_2)), (1000002, .box 30 [.vs 6 (mM enc_Def c_1_Defs), .vs 3 (mM enc_Table c_1_Tables), .vs 3 (mM enc_Zone c_1_Zones), .vs 20 (mM enc_Rule c_1_Rules), .vs 4 (mM enc_Cap c_1_Caps), .vs 6 (mM enc_View c_1_Views), .vs 3 (mM enc_Point3 c_1_Sun), .int .i64 c_1_Hours]), (1000003, .box 54 [.fn 64 [] [.ptr 1000000 0 0, .ptr 1000002 0 0, .ptr 1000003 0 0]])] (.bool r.1) [(1000001, .row 9 1 0 (mS r.2.1)), (1000000, .box 34 [.sl 1 1000001 ((r.2.1).length) 0 ((r.2.1).length)]), (1000002, .box 30 [.vs 6 (mM enc_Def r.2.2.1), .vs 3 (mM enc_Table r.2.2.2.1), .vs 3 (mM enc_Zone r.2.2.2.2.1), .vs 20 (mM enc_Rule r.2.2.2.2.2.1), .vs 4 (mM enc_Cap r.2.2.2.2.2.2.1), .vs 6 (mM enc_View r.2.2.2.2.2.2.2.1), .vs 3 (mM enc_Point3 r.2.2.2.2.2.2.2.2.1), .int .i64 r.2.2.2.2.2.2.2.2.2]), (1000003, .box 54 [.fn 64 [] [.ptr 1000000 0 0, .ptr 1000002 0 0, .ptr 1000003 0 0]])]) ∧ (∀ (e : Expr) (a1 : (List (List UInt8))) (a2_Defs : (List Def)) (a2_Tables : (List Table)) (a2_Zones : (List Zone)) (a2_Rules : (List Rule)) (a2_Caps : (List Cap)) (a2_Views : (List View)) (a2_Sun : (List Point3)) (a2_Hours : Int) (r : Bool × (List (List UInt8)) × (List Def) × (List Table) × (List Zone) × (List Rule) × (List Cap) × (List View) × (List Point3) × Int), s_expr_Check_1 nF e a1 a2_Defs a2_Tables a2_Zones a2_Rules a2_Caps a2_Views a2_Sun a2_Hours = some r → FnA Try.prog 64 [.agg (enc_Expr e), .ptr 1000000 0 0, .ptr 1000002 0 0, .ptr 1000003 0 0] [(1000000, .box 34 [.sl 1 1000001 ((a1).length) 0 ((a1).length)]), (1000001, .row 9 1 0 (mS a1)), (1000002, .box 30 [.vs 6 (mM enc_Def a2_Defs), .vs 3 (mM enc_Table a2_Tables), .vs 3 (mM enc_Zone a2_Zones), .vs 20 (mM enc_Rule a2_Rules), .vs 4 (mM enc_Cap a2_Caps), .vs 6 (mM enc_View a2_Views), .vs 3 (mM enc_Point3 a2_Sun), .int .i64 a2_Hours]), (1000003, .box 54 [.fn 64 [] [.ptr 1000000 0 0, .ptr 1000002 0 0, .ptr 1000003 0 0]])] (.bool r.1) [(1000001, .row 9 1 0 (mS r.2.1)), (1000000, .box 34 [.sl 1 1000001 ((r.2.1).length) 0 ((r.2.1).length)]), (1000002, .box 30 [.vs 6 (mM enc_Def r.2.2.1), .vs 3 (mM enc_Table r.2.2.2.1), .vs 3 (mM enc_Zone r.2.2.2.2.1), .vs 20 (mM enc_Rule r.2.2.2.2.2.1), .vs 4 (mM enc_Cap r.2.2.2.2.2.2.1), .vs 6 (mM enc_View r.2.2.2.2.2.2.2.1), .vs 3 (mM enc_Point3 r.2.2.2.2.2.2.2.2.1), .int .i64 r.2.2.2.2.2.2.2.2.2]), (1000003, .box 54 [.fn 64 [] [.ptr 1000000 0 0, .ptr 1000002 0 0, .ptr 1000003 0 0]])])
 | 0 => ⟨fun s c_2 c_1_Defs c_1_Tables c_1_Zones c_1_Rules c_1_Caps c_1_Views c_1_Sun c_1_Hours r hs => (by rw [s_slices_IndexFunc_6] at hs; cases hs), fun s c_2 c_1_Defs c_1_Tables c_1_Zones c_1_Rules c_1_Caps c_1_Views c_1_Sun c_1_Hours r hs => (by rw [s_slices_ContainsFunc_4] at hs; cases hs), fun e a1 a2_Defs a2_Tables a2_Zones a2_Rules a2_Caps a2_Views a2_Sun a2_Hours r hs => (by rw [s_expr_Check_1] at hs; cases hs)⟩
 | nF + 1 => ⟨fun s c_2 c_1_Defs c_1_Tables c_1_Zones c_1_Rules c_1_Caps c_1_Views c_1_Sun c_1_Hours r hs => ws_slices_IndexFunc_6 nF (wr_expr_Check_1 nF).1 (wr_expr_Check_1 nF).2.1 (wr_expr_Check_1 nF).2.2 s c_2 c_1_Defs c_1_Tables c_1_Zones c_1_Rules c_1_Caps c_1_Views c_1_Sun c_1_Hours r hs, fun s c_2 c_1_Defs c_1_Tables c_1_Zones c_1_Rules c_1_Caps c_1_Views c_1_Sun c_1_Hours r hs => ws_slices_ContainsFunc_4 nF (wr_expr_Check_1 nF).1 (wr_expr_Check_1 nF).2.1 (wr_expr_Check_1 nF).2.2 s c_2 c_1_Defs c_1_Tables c_1_Zones c_1_Rules c_1_Caps c_1_Views c_1_Sun c_1_Hours r hs, fun e a1 a2_Defs a2_Tables a2_Zones a2_Rules a2_Caps a2_Views a2_Sun a2_Hours r hs => ws_expr_Check_1 nF (wr_expr_Check_1 nF).1 (wr_expr_Check_1 nF).2.1 (wr_expr_Check_1 nF).2.2 e a1 a2_Defs a2_Tables a2_Zones a2_Rules a2_Caps a2_Views a2_Sun a2_Hours r hs⟩
theorem w_expr_Check_1 (nF : Nat) (e : Expr) (a1 : (List (List UInt8))) (a2_Defs : (List Def)) (a2_Tables : (List Table)) (a2_Zones : (List Zone)) (a2_Rules : (List Rule)) (a2_Caps : (List Cap)) (a2_Views : (List View)) (a2_Sun : (List Point3)) (a2_Hours : Int) (r : Bool × (List (List UInt8)) × (List Def) × (List Table) × (List Zone) × (List Rule) × (List Cap) × (List View) × (List Point3) × Int) (hs : s_expr_Check_1 nF e a1 a2_Defs a2_Tables a2_Zones a2_Rules a2_Caps a2_Views a2_Sun a2_Hours = some r) : FnA Try.prog 64 [.agg (enc_Expr e), .ptr 1000000 0 0, .ptr 1000002 0 0, .ptr 1000003 0 0] [(1000000, .box 34 [.sl 1 1000001 ((a1).length) 0 ((a1).length)]), (1000001, .row 9 1 0 (mS a1)), (1000002, .box 30 [.vs 6 (mM enc_Def a2_Defs), .vs 3 (mM enc_Table a2_Tables), .vs 3 (mM enc_Zone a2_Zones), .vs 20 (mM enc_Rule a2_Rules), .vs 4 (mM enc_Cap a2_Caps), .vs 6 (mM enc_View a2_Views), .vs 3 (mM enc_Point3 a2_Sun), .int .i64 a2_Hours]), (1000003, .box 54 [.fn 64 [] [.ptr 1000000 0 0, .ptr 1000002 0 0, .ptr 1000003 0 0]])] (.bool r.1) [(1000001, .row 9 1 0 (mS r.2.1)), (1000000, .box 34 [.sl 1 1000001 ((r.2.1).length) 0 ((r.2.1).length)]), (1000002, .box 30 [.vs 6 (mM enc_Def r.2.2.1), .vs 3 (mM enc_Table r.2.2.2.1), .vs 3 (mM enc_Zone r.2.2.2.2.1), .vs 20 (mM enc_Rule r.2.2.2.2.2.1), .vs 4 (mM enc_Cap r.2.2.2.2.2.2.1), .vs 6 (mM enc_View r.2.2.2.2.2.2.2.1), .vs 3 (mM enc_Point3 r.2.2.2.2.2.2.2.2.1), .int .i64 r.2.2.2.2.2.2.2.2.2]), (1000003, .box 54 [.fn 64 [] [.ptr 1000000 0 0, .ptr 1000002 0 0, .ptr 1000003 0 0]])] := (wr_expr_Check_1 nF).2.2 e a1 a2_Defs a2_Tables a2_Zones a2_Rules a2_Caps a2_Views a2_Sun a2_Hours r hs
theorem w_expr_Check (p_Defs : (List Def)) (p_Tables : (List Table)) (p_Zones : (List Zone)) (p_Rules : (List Rule)) (p_Caps : (List Cap)) (p_Views : (List View)) (p_Sun : (List Point3)) (p_Hours : Int) (measures : (List (List UInt8))) (e : Expr) (r : Int) (hs : s_expr_Check p_Defs p_Tables p_Zones p_Rules p_Caps p_Views p_Sun p_Hours measures e = some r) : FnA Try.prog 50 [.agg [.vs 6 (mM enc_Def p_Defs), .vs 3 (mM enc_Table p_Tables), .vs 3 (mM enc_Zone p_Zones), .vs 20 (mM enc_Rule p_Rules), .vs 4 (mM enc_Cap p_Caps), .vs 6 (mM enc_View p_Views), .vs 3 (mM enc_Point3 p_Sun), .int .i64 p_Hours], .vs 1 (mS measures), .agg (enc_Expr e)] [] (.int .i64 r) [] := by
 refine fnA_of_wp (N := 33) Try.func50 rfl rfl rfl fun cK0 => ?_
 unfold s_expr_Check at hs
 refine v_same (ρ' := [(0, .agg [.vs 6 (mM enc_Def p_Defs), .vs 3 (mM enc_Table p_Tables), .vs 3 (mM enc_Zone p_Zones), .vs 20 (mM enc_Rule p_Rules), .vs 4 (mM enc_Cap p_Caps), .vs 6 (mM enc_View p_Views), .vs 3 (mM enc_Point3 p_Sun), .int .i64 p_Hours]), (1, .vs 1 (mS measures)), (2, .agg (enc_Expr e))]) rfl rfl ?_
 refine vS (vT (o_runh 3 [(6, .int .i64 0), (5, .ptr 5 0 0), (3, .ptr 3 0 0)] [(5, .box 44 (enc_Expr e)), (3, .box 30 [.vs 6 (mM enc_Def p_Defs), .vs 3 (mM enc_Table p_Tables), .vs 3 (mM enc_Zone p_Zones), .vs 20 (mM enc_Rule p_Rules), .vs 4 (mM enc_Cap p_Caps), .vs 6 (mM enc_View p_Views), .vs 3 (mM enc_Point3 p_Sun), .int .i64 p_Hours])] kr ?_))
 refine oN (nT (vS (vS (vT (oR 1 [(11, .agg (enc_Expr e))] kr ?_)))))
 obtain ⟨y1, c1, hs⟩ := bS hs
 refine oP (v := .bool y1) kr kr (loc_gcall0 (callV_func hbv30 kr) (w_expr_Right e _ c1) kr) ?_
 refine oR 1 [(13, .bool (!y1))] kr ?_
 refine oN (nT ?_)
 refine v_cond (!y1) kr (fun h1 => ?_) (fun h1 => ?_)
 ·replace hs := bif_t h1 hs
  refine vS (vT (oR 1 [(6, .int .i64 1)] kr ?_))
  refine oN (nT (v_ret (rT ?_)))
  obtain rfl := si hs
  exact fin_ret kr kr kr
 ·replace hs := bif_f h1 hs
  refine vK (nT (vS (vT (oR 1 [(14, .vs 1 (mS measures))] kr ?_))))
  obtain ⟨y2, c2, hs⟩ := bS hs
  refine o_loc (F := []) (F' := [(3001500, .row 9 1 0 (mS y2))]) (v := .sl 1 3001500 ((y2).length) 0 ((y2).length)) [] kr kr rfl kr (loc_g (R := []) [.vs 1 (mS measures)] [(5, 3001500)] (callV_func hbv63 kr) (w_slices_Clone measures _ c2) (.cons (.same _) (.nil)) kr kr kr kr kr kr kr kr) kr ?_
  refine o_runh 2 [(7, .ptr 7 0 0)] [(7, .box 34 [.sl 1 3001500 ((y2).length) 0 ((y2).length)]), (3001500, .row 9 1 0 (mS y2)), (5, .box 44 (enc_Expr e)), (3, .box 30 [.vs 6 (mM enc_Def p_Defs), .vs 3 (mM enc_Table p_Tables), .vs 3 (mM enc_Zone p_Zones), .vs 20 (mM enc_Rule p_Rules), .vs 4 (mM enc_Cap p_Caps), .vs 6 (mM enc_View p_Views), .vs 3 (mM enc_Point3 p_Sun), .int .i64 p_Hours])] kr ?_
  refine oN (nT (vS (vS (vT (oR 2 [(17, .vs 6 (mM enc_Def p_Defs)), (16, .ptr 3 0 0)] kr ?_)))))
  refine oP (v := .int .i64 (List.length p_Defs : Int)) kr kr (loc_lenVs (sz := 6) (els := (mM enc_Def p_Defs)) kr kr (List.length_map ..)) ?_
  refine oR 1 [(19, .int .i64 0)] kr ?_
  refine oN (nT ?_)
  obtain ⟨z1, hs, hk1⟩ := bS hs
  refine v_join (S := (List (List UInt8))) (fun u => u = z1) (fun u => [(3, .ptr 3 0 0), (5, .ptr 5 0 0), (7, .ptr 7 0 0)]) (fun u => [(7, .box 34 [.sl 1 3001500 ((u).length) 0 ((u).length)]), (3001500, .row 9 1 0 (mS u)), (5, .box 44 (enc_Expr e)), (3, .box 30 [.vs 6 (mM enc_Def p_Defs), .vs 3 (mM enc_Table p_Tables), .vs 3 (mM enc_Zone p_Zones), .vs 20 (mM enc_Rule p_Rules), .vs 4 (mM enc_Cap p_Caps), .vs 6 (mM enc_View p_Views), .vs 3 (mM enc_Point3 p_Sun), .int .i64 p_Hours])]) ?_ (fun v1 hz => ?_)
  ·refine vB ?_
   refine v_fuel (S := Int × (List (List UInt8))) (fun u => [(3, .ptr 3 0 0), (5, .ptr 5 0 0), (7, .ptr 7 0 0), (17, .vs 6 (mM enc_Def p_Defs)), (18, .int .i64 (List.length p_Defs : Int)), (19, .int .i64 u.1)]) (fun u => [(7, .box 34 [.sl 1 3001500 ((u.2).length) 0 ((u.2).length)]), (3001500, .row 9 1 0 (mS u.2)), (5, .box 44 (enc_Expr e)), (3, .box 30 [.vs 6 (mM enc_Def p_Defs), .vs 3 (mM enc_Table p_Tables), .vs 3 (mM enc_Zone p_Zones), .vs 20 (mM enc_Rule p_Rules), .vs 4 (mM enc_Cap p_Caps), .vs 6 (mM enc_View p_Views), .vs 3 (mM enc_Point3 p_Sun), .int .i64 p_Hours])]) (s_expr_Check_L1 p_Defs) (fun _ => rfl) KK (0, y2) hs (cut_of [3, 5, 7, 17, 18, 19] [7, 3001500, 5, 3] kr kr kr) (fun K1 q1 hs => ?_)
   rw [s_expr_Check_L1] at hs
   show WpV cK0 Try.prog none 33 _ _ [(3, .ptr 3 0 0), (5, .ptr 5 0 0), (7, .ptr 7 0 0), (17, .vs 6 (mM enc_Def p_Defs)), (18, .int .i64 (List.length p_Defs : Int)), (19, .int .i64 q1.1)] [(7, .box 34 [.sl 1 3001500 ((q1.2).length) 0 ((q1.2).length)]), (3001500, .row 9 1 0 (mS q1.2)), (5, .box 44 (enc_Expr e)), (3, .box 30 [.vs 6 (mM enc_Def p_Defs), .vs 3 (mM enc_Table p_Tables), .vs 3 (mM enc_Zone p_Zones), .vs 20 (mM enc_Rule p_Rules), .vs 4 (mM enc_Cap p_Caps), .vs 6 (mM enc_View p_Views), .vs 3 (mM enc_Point3 p_Sun), .int .i64 p_Hours])] []
   refine vS (vT (oR 1 [(20, .bool (decide (q1.1 < (List.length p_Defs : Int))))] kr ?_))
   refine oN (nT (vS ?_))
   refine v_cond (decide (q1.1 < (List.length p_Defs : Int))) kr (fun h2 => ?_) (fun h2 => ?_)
   ·replace hs := bif_t h2 hs
    refine vK (nT (vS (vB (vS (vT ?_)))))
    obtain ⟨x1, g1, hs⟩ := bS hs; obtain ⟨g1a, g1b, g1c⟩ := idx_some g1
    refine oP (v := .vp (enc_Def x1) 0) kr kr (loc_indexVs (e := 46) (sz := 6) (k := .i64) (els := (mM enc_Def p_Defs)) (cs := (enc_Def x1)) kr kr kr g1a (by rw [g1c]; exact map_get _ (by omega))) ?_
    refine o_runh 3 [(9, .ptr 9 0 0), (22, .agg (enc_Def x1))] [(9, .box 46 [.str x1.Name, .int .i64 x1.Body.Op, .int .i64 x1.Body.N, .str x1.Body.S, .str x1.Body.Key, .vs 5 (encs_Expr x1.Body.Args)]), (7, .box 34 [.sl 1 3001500 ((q1.2).length) 0 ((q1.2).length)]), (3001500, .row 9 1 0 (mS q1.2)), (5, .box 44 (enc_Expr e)), (3, .box 30 [.vs 6 (mM enc_Def p_Defs), .vs 3 (mM enc_Table p_Tables), .vs 3 (mM enc_Zone p_Zones), .vs 20 (mM enc_Rule p_Rules), .vs 4 (mM enc_Cap p_Caps), .vs 6 (mM enc_View p_Views), .vs 3 (mM enc_Point3 p_Sun), .int .i64 p_Hours])] kr ?_
    refine oN (nT (vT (o_runh 4 [(26, .sl 1 26 1 0 1), (25, .str x1.Name), (24, .ptr 9 0 0), (23, .sl 1 3001500 ((q1.2).length) 0 ((q1.2).length))] [(26, .row 9 1 0 (mS [x1.Name])), (9, .box 46 [.str x1.Name, .int .i64 x1.Body.Op, .int .i64 x1.Body.N, .str x1.Body.S, .str x1.Body.Key, .vs 5 (encs_Expr x1.Body.Args)]), (7, .box 34 [.sl 1 3001500 ((q1.2).length) 0 ((q1.2).length)]), (3001500, .row 9 1 0 (mS q1.2)), (5, .box 44 (enc_Expr e)), (3, .box 30 [.vs 6 (mM enc_Def p_Defs), .vs 3 (mM enc_Table p_Tables), .vs 3 (mM enc_Zone p_Zones), .vs 20 (mM enc_Rule p_Rules), .vs 4 (mM enc_Cap p_Caps), .vs 6 (mM enc_View p_Views), .vs 3 (mM enc_Point3 p_Sun), .int .i64 p_Hours])] kr ?_)))
    obtain ⟨_, g2, hs⟩ := bS hs; replace g2 := grd_some g2
    refine o_loc (F := [(3001500, .row 9 1 0 (mS q1.2)), (26, .row 9 1 0 (mS [x1.Name]))]) (F' := [(3001500, .row 9 1 0 (mS (q1.2 ++ [x1.Name]))), (26, .row 9 1 0 (mS [x1.Name]))]) (v := .sl 1 3001500 (((q1.2 ++ [x1.Name])).length) 0 (((q1.2 ++ [x1.Name])).length)) [3001500, 26] kr kr rfl kr (loc_appendT (e := 9) (sz := 1) (bytes := 16) (L := (q1.2).length) (els := (mS q1.2)) (ys := (mS [x1.Name])) kr kr (by first | exact List.length_map .. | rfl) (.sl (t := 9) (fz := 0) (ys := (mS [x1.Name])) kr kr) (map_ones EV.encS (fun _ => rfl) _) (map_lens EV.encS (fun _ => rfl) _) kr (by first | exact (List.map_append ..).symm | rfl | simp only [List.map_nil, List.nil_append]) (List.length_map ..) g2 (by omega)) kr ?_
    refine o_runh 1 [] [(3001500, .row 9 1 0 (mS (q1.2 ++ [x1.Name]))), (26, .row 9 1 0 (mS [x1.Name])), (9, .box 46 [.str x1.Name, .int .i64 x1.Body.Op, .int .i64 x1.Body.N, .str x1.Body.S, .str x1.Body.Key, .vs 5 (encs_Expr x1.Body.Args)]), (7, .box 34 [.sl 1 3001500 (((q1.2 ++ [x1.Name])).length) 0 (((q1.2 ++ [x1.Name])).length)]), (5, .box 44 (enc_Expr e)), (3, .box 30 [.vs 6 (mM enc_Def p_Defs), .vs 3 (mM enc_Table p_Tables), .vs 3 (mM enc_Zone p_Zones), .vs 20 (mM enc_Rule p_Rules), .vs 4 (mM enc_Cap p_Caps), .vs 6 (mM enc_View p_Views), .vs 3 (mM enc_Point3 p_Sun), .int .i64 p_Hours])] kr ?_
    refine oN (nB (nT (vT (oR 2 [(19, .int .i64 (w64 (q1.1 + 1))), (28, .int .i64 (w64 (q1.1 + 1)))] kr ?_))))
    refine oN (nrm_fuel ((w64 (q1.1 + 1)), (q1.2 ++ [x1.Name])) hs ?_)
    exact cut_of [3, 5, 7, 17, 18, 19] [7, 3001500, 5, 3] kr kr kr
   ·replace hs := bif_f h2 hs
    refine v_exit (exit_thenV (exit_fuel ?_))
    refine exit_blkV ?_
    obtain rfl := si hs
    refine nrm_join q1.2 rfl ?_
    exact cut_of [3, 5, 7] [7, 3001500, 5, 3] kr kr kr
  ·subst hz; clear hs; have hs := hk1; clear hk1
   refine nT (vS (vT (o_runh 1 [(10, .ptr 10 0 0)] [(10, .box 54 [.nilf]), (7, .box 34 [.sl 1 3001500 ((v1).length) 0 ((v1).length)]), (3001500, .row 9 1 0 (mS v1)), (5, .box 44 (enc_Expr e)), (3, .box 30 [.vs 6 (mM enc_Def p_Defs), .vs 3 (mM enc_Table p_Tables), .vs 3 (mM enc_Zone p_Zones), .vs 20 (mM enc_Rule p_Rules), .vs 4 (mM enc_Cap p_Caps), .vs 6 (mM enc_View p_Views), .vs 3 (mM enc_Point3 p_Sun), .int .i64 p_Hours])] kr ?_)))
   refine oN (nT (vS (vT (o_runh 2 [(29, .fn 64 [] [.ptr 7 0 0, .ptr 3 0 0, .ptr 10 0 0])] [(10, .box 54 [.fn 64 [] [.ptr 7 0 0, .ptr 3 0 0, .ptr 10 0 0]]), (7, .box 34 [.sl 1 3001500 ((v1).length) 0 ((v1).length)]), (3001500, .row 9 1 0 (mS v1)), (5, .box 44 (enc_Expr e)), (3, .box 30 [.vs 6 (mM enc_Def p_Defs), .vs 3 (mM enc_Table p_Tables), .vs 3 (mM enc_Zone p_Zones), .vs 20 (mM enc_Rule p_Rules), .vs 4 (mM enc_Cap p_Caps), .vs 6 (mM enc_View p_Views), .vs 3 (mM enc_Point3 p_Sun), .int .i64 p_Hours])] kr ?_))))
   refine oN (nT (vS (vS (vT (oR 2 [(31, .agg (enc_Expr e)), (30, .fn 64 [] [.ptr 7 0 0, .ptr 3 0 0, .ptr 10 0 0])] kr ?_)))))
   obtain ⟨y3, c3, hs⟩ := bS hs
   refine o_loc (F := [(7, .box 34 [.sl 1 3001500 ((v1).length) 0 ((v1).length)]), (3001500, .row 9 1 0 (mS v1)), (3, .box 30 [.vs 6 (mM enc_Def p_Defs), .vs 3 (mM enc_Table p_Tables), .vs 3 (mM enc_Zone p_Zones), .vs 20 (mM enc_Rule p_Rules), .vs 4 (mM enc_Cap p_Caps), .vs 6 (mM enc_View p_Views), .vs 3 (mM enc_Point3 p_Sun), .int .i64 p_Hours]), (10, .box 54 [.fn 64 [] [.ptr 7 0 0, .ptr 3 0 0, .ptr 10 0 0]])]) (F' := [(3001500, .row 9 1 0 (mS y3.2.1)), (7, .box 34 [.sl 1 3001500 ((y3.2.1).length) 0 ((y3.2.1).length)]), (3, .box 30 [.vs 6 (mM enc_Def y3.2.2.1), .vs 3 (mM enc_Table y3.2.2.2.1), .vs 3 (mM enc_Zone y3.2.2.2.2.1), .vs 20 (mM enc_Rule y3.2.2.2.2.2.1), .vs 4 (mM enc_Cap y3.2.2.2.2.2.2.1), .vs 6 (mM enc_View y3.2.2.2.2.2.2.2.1), .vs 3 (mM enc_Point3 y3.2.2.2.2.2.2.2.2.1), .int .i64 y3.2.2.2.2.2.2.2.2.2]), (10, .box 54 [.fn 64 [] [.ptr 7 0 0, .ptr 3 0 0, .ptr 10 0 0]])]) (v := .bool y3.1) [7, 3001500, 3, 10] kr kr rfl kr (loc_g (R := []) [.agg (enc_Expr e), .ptr 7 0 0, .ptr 3 0 0, .ptr 10 0 0] [(1000000, 7), (1000001, 3001500), (1000002, 3), (1000003, 10)] (callV_val (first := []) (caps := [.ptr 7 0 0, .ptr 3 0 0, .ptr 10 0 0]) hbv64 kr kr) (w_expr_Check_1 KK e v1 p_Defs p_Tables p_Zones p_Rules p_Caps p_Views p_Sun p_Hours _ c3) (.cons (.same _) (.cons (.same _) (.cons (.same _) (.cons (.same _) (.nil))))) kr kr kr kr kr kr kr kr) kr ?_
   refine oN (nT ?_)
   refine v_cond y3.1 kr (fun h3 => ?_) (fun h3 => ?_)
   ·replace hs := bif_t h3 hs
    refine vS (vT (oR 1 [(6, .int .i64 15)] kr ?_))
    refine oN (nT (v_ret (rT ?_)))
    obtain rfl := si hs
    exact fin_ret kr kr kr
   ·replace hs := bif_f h3 hs
    refine vK (nT (vS (vT (oR 1 [(6, .int .i64 0)] kr ?_))))
    refine oN (nT (v_ret ?_))
    obtain rfl := si hs
    exact fin_ret kr kr kr
theorem w_greenbeltlaw17_small  (r : Bool) (hs : s_greenbeltlaw17_small  = some r) : FnA Try.prog 26 [] [] (.bool r) [] := by
 refine fnA_of_wp (N := 92) Try.func26 rfl rfl rfl fun cK0 => ?_
 unfold s_greenbeltlaw17_small at hs
 refine v_same (ρ' := []) rfl rfl ?_
 refine vS (vT (oR 1 [(0, .bool false)] kr ?_))
 refine oN (nT (vS (vT (oR 1 [(6, .agg [.int .i64 3, .int .i64 0, .str ([99, 111, 114, 101] : List UInt8), .str [], .nils])] kr ?_))))
 obtain ⟨y1, c1, hs⟩ := bS hs
 refine oP (v := .agg (enc_Expr y1)) kr kr (loc_gcall0 (callV_func hbv48 kr) (w_greenbeltlaw17_num 30 _ c1) kr) ?_
 obtain ⟨y2, c2, hs⟩ := bS hs
 refine oP (v := .agg (enc_Expr y2)) kr kr (loc_gcall0 (callV_func hbv48 kr) (w_greenbeltlaw17_num 12 _ c2) kr) ?_
 refine o_loc (F := []) (F' := [(9, .row 44 5 0 (encs_Expr [(Expr.mk 3 0 ([99, 111, 114, 101] : List UInt8) [] []), y1, y2]))]) (v := .sl 5 9 3 0 3) [] kr kr rfl kr (loc_buildSliceW (e := 44) (sz := 5) (els := [[.int .i64 3, .int .i64 0, .str ([99, 111, 114, 101] : List UInt8), .str [], .nils], (enc_Expr y1), (enc_Expr y2)]) (els2 := [[.int .i64 3, .int .i64 0, .str ([99, 111, 114, 101] : List UInt8), .str [], .vs 5 []], (enc_Expr y1), (enc_Expr y2)]) (fl := [.int .i64 3, .int .i64 0, .str ([99, 111, 114, 101] : List UInt8), .str [], .nils, .int .i64 y1.Op, .int .i64 y1.N, .str y1.S, .str y1.Key, .vs 5 (encs_Expr y1.Args), .int .i64 y2.Op, .int .i64 y2.N, .str y2.S, .str y2.Key, .vs 5 (encs_Expr y2.Args)]) (fl2 := [.int .i64 3, .int .i64 0, .str ([99, 111, 114, 101] : List UInt8), .str [], .vs 5 [], .int .i64 y1.Op, .int .i64 y1.N, .str y1.S, .str y1.Key, .vs 5 (encs_Expr y1.Args), .int .i64 y2.Op, .int .i64 y2.N, .str y2.S, .str y2.Key, .vs 5 (encs_Expr y2.Args)]) kr kr kr kr kr (wk_same (wk_same (wk_same (wk_same (wk_nils (wk_same (wk_same (wk_same (wk_same (wk_same (wk_same (wk_same (wk_same (wk_same (wk_same wk_nil))))))))))))))) kr kr (Eq.trans kr (encs_Expr_eq _).symm)) kr ?_
 obtain ⟨y3, c3, hs⟩ := bS hs
 refine o_to _ [(9, .row 44 5 (((encs_Expr [(Expr.mk 3 0 ([99, 111, 114, 101] : List UInt8) [] []), y1, y2])).length) (encs_Expr [(Expr.mk 3 0 ([99, 111, 114, 101] : List UInt8) [] []), y1, y2]))] (cut_freeze (F := [(9, .row 44 5 0 (encs_Expr [(Expr.mk 3 0 ([99, 111, 114, 101] : List UInt8) [] []), y1, y2]))]) [9] rfl kr kr) ?_
 refine o_loc (F := [(9, .row 44 5 (((encs_Expr [(Expr.mk 3 0 ([99, 111, 114, 101] : List UInt8) [] []), y1, y2])).length) (encs_Expr [(Expr.mk 3 0 ([99, 111, 114, 101] : List UInt8) [] []), y1, y2]))]) (F' := [(9, .row 44 5 (((encs_Expr [(Expr.mk 3 0 ([99, 111, 114, 101] : List UInt8) [] []), y1, y2])).length) (encs_Expr [(Expr.mk 3 0 ([99, 111, 114, 101] : List UInt8) [] []), y1, y2]))]) (v := .agg (enc_Expr y3)) [9] kr kr rfl kr (loc_g (R := [(9, .row 44 5 (((encs_Expr [(Expr.mk 3 0 ([99, 111, 114, 101] : List UInt8) [] []), y1, y2])).length) (encs_Expr [(Expr.mk 3 0 ([99, 111, 114, 101] : List UInt8) [] []), y1, y2]))]) [.int .i64 16, .sl 5 9 3 0 3] [] (callV_func hbv47 kr) (w_greenbeltlaw17_op 16 [(Expr.mk 3 0 ([99, 111, 114, 101] : List UInt8) [] []), y1, y2] _ c3) (.cons (.same _) (.cons (.row (t := 44) (fz := (((encs_Expr [(Expr.mk 3 0 ([99, 111, 114, 101] : List UInt8) [] []), y1, y2])).length)) kr (by first | (simp only [encs_Expr_eq, List.length_map, List.length_set, cpyT_length]; done) | rfl)) (.nil))) kr kr kr kr kr kr kr kr) kr ?_
 refine o_runh 3 [(13, .agg [.str ([99, 111, 114, 101] : List UInt8), .bool false, .nils]), (12, .sl 6 12 1 0 1), (11, .agg [.str ([116, 97, 108, 108] : List UInt8), .int .i64 y3.Op, .int .i64 y3.N, .str y3.S, .str y3.Key, .vs 5 (encs_Expr y3.Args)])] [(12, .row 46 6 0 (mM enc_Def [(Def.mk ([116, 97, 108, 108] : List UInt8) y3)])), (9, .row 44 5 (((encs_Expr [(Expr.mk 3 0 ([99, 111, 114, 101] : List UInt8) [] []), y1, y2])).length) (encs_Expr [(Expr.mk 3 0 ([99, 111, 114, 101] : List UInt8) [] []), y1, y2]))] kr ?_
 refine o_loc (F := []) (F' := [(14, .row 87 3 0 (mM enc_Zone [(Zone.mk ([99, 111, 114, 101] : List UInt8) false [])]))]) (v := .sl 3 14 1 0 1) [] kr kr rfl kr (loc_buildSliceW (e := 87) (sz := 3) (els := [[.str ([99, 111, 114, 101] : List UInt8), .bool false, .nils]]) (els2 := [[.str ([99, 111, 114, 101] : List UInt8), .bool false, .vs 2 []]]) (fl := [.str ([99, 111, 114, 101] : List UInt8), .bool false, .nils]) (fl2 := [.str ([99, 111, 114, 101] : List UInt8), .bool false, .vs 2 []]) kr kr kr kr kr (wk_same (wk_same (wk_nils wk_nil))) kr kr kr) kr ?_
 refine o_runh 3 [(1, .ptr 1 0 0), (15, .agg [.sl 6 12 1 0 1, .nils, .sl 3 14 1 0 1, .nils, .nils, .nils, .nils, .int .i64 0])] [(1, .box 30 [.sl 6 12 1 0 1, .nils, .sl 3 14 1 0 1, .nils, .nils, .nils, .nils, .int .i64 0]), (14, .row 87 3 0 (mM enc_Zone [(Zone.mk ([99, 111, 114, 101] : List UInt8) false [])])), (12, .row 46 6 0 (mM enc_Def [(Def.mk ([116, 97, 108, 108] : List UInt8) y3)])), (9, .row 44 5 (((encs_Expr [(Expr.mk 3 0 ([99, 111, 114, 101] : List UInt8) [] []), y1, y2])).length) (encs_Expr [(Expr.mk 3 0 ([99, 111, 114, 101] : List UInt8) [] []), y1, y2]))] kr ?_
 refine oN (nT (vS (vT (o_runh 4 [(2, .sl 2 18 2 0 2), (18, .sl 2 18 2 0 2), (17, .agg [.str ([97, 114, 101, 97] : List UInt8), .int .i64 200]), (16, .agg [.str ([104, 101, 105, 103, 104, 116] : List UInt8), .int .i64 14])] [(18, .row 56 2 0 (mM enc_Entry [(Entry.mk ([104, 101, 105, 103, 104, 116] : List UInt8) 14), (Entry.mk ([97, 114, 101, 97] : List UInt8) 200)])), (1, .box 30 [.sl 6 12 1 0 1, .nils, .sl 3 14 1 0 1, .nils, .nils, .nils, .nils, .int .i64 0]), (14, .row 87 3 0 (mM enc_Zone [(Zone.mk ([99, 111, 114, 101] : List UInt8) false [])])), (12, .row 46 6 0 (mM enc_Def [(Def.mk ([116, 97, 108, 108] : List UInt8) y3)])), (9, .row 44 5 (((encs_Expr [(Expr.mk 3 0 ([99, 111, 114, 101] : List UInt8) [] []), y1, y2])).length) (encs_Expr [(Expr.mk 3 0 ([99, 111, 114, 101] : List UInt8) [] []), y1, y2]))] kr ?_))))
 refine oN (nT (vS (vT ?_)))
 obtain ⟨y4, c4, hs⟩ := bS hs
 refine oP (v := .agg (enc_Expr y4)) kr kr (loc_gcall0 (callV_func hbv48 kr) (w_greenbeltlaw17_num 0 _ c4) kr) ?_
 obtain ⟨y5, c5, hs⟩ := bS hs
 refine oP (v := .agg (enc_Expr y5)) kr kr (loc_gcall0 (callV_func hbv48 kr) (w_greenbeltlaw17_num 7 _ c5) kr) ?_
 refine o_loc (F := []) (F' := [(21, .row 44 5 0 (encs_Expr [y4, y5]))]) (v := .sl 5 21 2 0 2) [] kr kr rfl kr (loc_buildSliceW (e := 44) (sz := 5) (els := [(enc_Expr y4), (enc_Expr y5)]) (els2 := [(enc_Expr y4), (enc_Expr y5)]) (fl := [.int .i64 y4.Op, .int .i64 y4.N, .str y4.S, .str y4.Key, .vs 5 (encs_Expr y4.Args), .int .i64 y5.Op, .int .i64 y5.N, .str y5.S, .str y5.Key, .vs 5 (encs_Expr y5.Args)]) (fl2 := [.int .i64 y4.Op, .int .i64 y4.N, .str y4.S, .str y4.Key, .vs 5 (encs_Expr y4.Args), .int .i64 y5.Op, .int .i64 y5.N, .str y5.S, .str y5.Key, .vs 5 (encs_Expr y5.Args)]) kr kr kr kr kr (wk_same (wk_same (wk_same (wk_same (wk_same (wk_same (wk_same (wk_same (wk_same (wk_same wk_nil)))))))))) kr kr (Eq.trans kr (encs_Expr_eq _).symm)) kr ?_
 obtain ⟨y6, c6, hs⟩ := bS hs
 refine o_to _ [(21, .row 44 5 (((encs_Expr [y4, y5])).length) (encs_Expr [y4, y5])), (18, .row 56 2 0 (mM enc_Entry [(Entry.mk ([104, 101, 105, 103, 104, 116] : List UInt8) 14), (Entry.mk ([97, 114, 101, 97] : List UInt8) 200)])), (1, .box 30 [.sl 6 12 1 0 1, .nils, .sl 3 14 1 0 1, .nils, .nils, .nils, .nils, .int .i64 0]), (14, .row 87 3 0 (mM enc_Zone [(Zone.mk ([99, 111, 114, 101] : List UInt8) false [])])), (12, .row 46 6 0 (mM enc_Def [(Def.mk ([116, 97, 108, 108] : List UInt8) y3)])), (9, .row 44 5 (((encs_Expr [(Expr.mk 3 0 ([99, 111, 114, 101] : List UInt8) [] []), y1, y2])).length) (encs_Expr [(Expr.mk 3 0 ([99, 111, 114, 101] : List UInt8) [] []), y1, y2]))] (cut_freeze (F := [(21, .row 44 5 0 (encs_Expr [y4, y5]))]) [21] rfl kr kr) ?_
 refine o_loc (F := [(21, .row 44 5 (((encs_Expr [y4, y5])).length) (encs_Expr [y4, y5]))]) (F' := [(21, .row 44 5 (((encs_Expr [y4, y5])).length) (encs_Expr [y4, y5]))]) (v := .agg (enc_Expr y6)) [21] kr kr rfl kr (loc_g (R := [(21, .row 44 5 (((encs_Expr [y4, y5])).length) (encs_Expr [y4, y5]))]) [.int .i64 5, .sl 5 21 2 0 2] [] (callV_func hbv47 kr) (w_greenbeltlaw17_op 5 [y4, y5] _ c6) (.cons (.same _) (.cons (.row (t := 44) (fz := (((encs_Expr [y4, y5])).length)) kr (by first | (simp only [encs_Expr_eq, List.length_map, List.length_set, cpyT_length]; done) | rfl)) (.nil))) kr kr kr kr kr kr kr kr) kr ?_
 refine o_runh 2 [(3, .ptr 3 0 0)] [(3, .box 44 (enc_Expr y6)), (21, .row 44 5 (((encs_Expr [y4, y5])).length) (encs_Expr [y4, y5])), (18, .row 56 2 0 (mM enc_Entry [(Entry.mk ([104, 101, 105, 103, 104, 116] : List UInt8) 14), (Entry.mk ([97, 114, 101, 97] : List UInt8) 200)])), (1, .box 30 [.sl 6 12 1 0 1, .nils, .sl 3 14 1 0 1, .nils, .nils, .nils, .nils, .int .i64 0]), (14, .row 87 3 0 (mM enc_Zone [(Zone.mk ([99, 111, 114, 101] : List UInt8) false [])])), (12, .row 46 6 0 (mM enc_Def [(Def.mk ([116, 97, 108, 108] : List UInt8) y3)])), (9, .row 44 5 (((encs_Expr [(Expr.mk 3 0 ([99, 111, 114, 101] : List UInt8) [] []), y1, y2])).length) (encs_Expr [(Expr.mk 3 0 ([99, 111, 114, 101] : List UInt8) [] []), y1, y2]))] kr ?_
 refine oN (nT (vS ?_))
 obtain ⟨z1, hs, hk1⟩ := bS hs
 refine v_join (S := Bool) (fun u => u = z1) (fun u => [(1, .ptr 1 0 0), (2, .sl 2 18 (([(Entry.mk ([104, 101, 105, 103, 104, 116] : List UInt8) 14), (Entry.mk ([97, 114, 101, 97] : List UInt8) 200)]).length) 0 (([(Entry.mk ([104, 101, 105, 103, 104, 116] : List UInt8) 14), (Entry.mk ([97, 114, 101, 97] : List UInt8) 200)]).length)), (3, .ptr 3 0 0), (4, .bool u)]) (fun u => [(3, .box 44 (enc_Expr y6)), (18, .row 56 2 0 (mM enc_Entry [(Entry.mk ([104, 101, 105, 103, 104, 116] : List UInt8) 14), (Entry.mk ([97, 114, 101, 97] : List UInt8) 200)])), (1, .box 30 [.sl 6 12 (([(Def.mk ([116, 97, 108, 108] : List UInt8) y3)]).length) 0 (([(Def.mk ([116, 97, 108, 108] : List UInt8) y3)]).length), .nils, .sl 3 14 (([(Zone.mk ([99, 111, 114, 101] : List UInt8) false [])]).length) 0 (([(Zone.mk ([99, 111, 114, 101] : List UInt8) false [])]).length), .nils, .nils, .nils, .nils, .int .i64 0]), (14, .row 87 3 0 (mM enc_Zone [(Zone.mk ([99, 111, 114, 101] : List UInt8) false [])])), (12, .row 46 6 0 (mM enc_Def [(Def.mk ([116, 97, 108, 108] : List UInt8) y3)]))]) ?_ (fun v1 hz => ?_)
 ·refine v_draw mixedH kr ?_
  refine d_runh 3 0 [(25, .sl 1 25 1 0 1), (24, .sl 2 18 2 0 2), (23, .agg [.sl 6 12 1 0 1, .nils, .sl 3 14 1 0 1, .nils, .nils, .nils, .nils, .int .i64 0])] [(25, .row 9 1 0 (mS [([99, 111, 114, 101] : List UInt8)])), (3, .box 44 (enc_Expr y6)), (21, .row 44 5 (((encs_Expr [y4, y5])).length) (encs_Expr [y4, y5])), (18, .row 56 2 0 (mM enc_Entry [(Entry.mk ([104, 101, 105, 103, 104, 116] : List UInt8) 14), (Entry.mk ([97, 114, 101, 97] : List UInt8) 200)])), (1, .box 30 [.sl 6 12 1 0 1, .nils, .sl 3 14 1 0 1, .nils, .nils, .nils, .nils, .int .i64 0]), (14, .row 87 3 0 (mM enc_Zone [(Zone.mk ([99, 111, 114, 101] : List UInt8) false [])])), (12, .row 46 6 0 (mM enc_Def [(Def.mk ([116, 97, 108, 108] : List UInt8) y3)])), (9, .row 44 5 (((encs_Expr [(Expr.mk 3 0 ([99, 111, 114, 101] : List UInt8) [] []), y1, y2])).length) (encs_Expr [(Expr.mk 3 0 ([99, 111, 114, 101] : List UInt8) [] []), y1, y2]))] [⟨2, [25], []⟩, ⟨1, [], []⟩, ⟨0, [], [1]⟩] kr kr ?_
  obtain ⟨y7, c7, hs⟩ := bS hs
  refine d_pure (v := .agg (enc_Expr y7)) 3 rfl rfl rfl rfl kr kr (loc_gcall0 (callV_func hbv49 kr) (w_greenbeltlaw17_name ([104, 101, 105, 103, 104, 116] : List UInt8) _ c7) kr) ?_
  obtain ⟨y8, c8, hs⟩ := bS hs
  refine d_pure (v := .agg (enc_Expr y8)) 4 rfl rfl rfl rfl kr kr (loc_gcall0 (callV_func hbv49 kr) (w_greenbeltlaw17_name ([116, 97, 108, 108] : List UInt8) _ c8) kr) ?_
  refine d_loc (F := []) (R := []) (F' := [(28, .row 44 5 0 (encs_Expr [y7, y8]))]) (v := .sl 5 28 2 0 2) 5 [] [] rfl rfl rfl rfl kr kr kr kr kr kr kr kr (loc_buildSliceW (e := 44) (sz := 5) (els := [(enc_Expr y7), (enc_Expr y8)]) (els2 := [(enc_Expr y7), (enc_Expr y8)]) (fl := [.int .i64 y7.Op, .int .i64 y7.N, .str y7.S, .str y7.Key, .vs 5 (encs_Expr y7.Args), .int .i64 y8.Op, .int .i64 y8.N, .str y8.S, .str y8.Key, .vs 5 (encs_Expr y8.Args)]) (fl2 := [.int .i64 y7.Op, .int .i64 y7.N, .str y7.S, .str y7.Key, .vs 5 (encs_Expr y7.Args), .int .i64 y8.Op, .int .i64 y8.N, .str y8.S, .str y8.Key, .vs 5 (encs_Expr y8.Args)]) kr kr kr kr kr (wk_same (wk_same (wk_same (wk_same (wk_same (wk_same (wk_same (wk_same (wk_same (wk_same wk_nil)))))))))) kr kr (Eq.trans kr (encs_Expr_eq _).symm)) ?_
  obtain ⟨y9, c9, hs⟩ := bS hs
  refine d_loc (F := [(28, .row 44 5 0 (encs_Expr [y7, y8]))]) (R := []) (F' := [(28, .row 44 5 (((encs_Expr [y7, y8])).length) (encs_Expr [y7, y8]))]) (v := .agg (enc_Expr y9)) 6 [28] [] rfl rfl rfl rfl kr kr kr kr kr kr kr kr (loc_frz (Fa := []) (R := [(28, .row 44 5 0 (encs_Expr [y7, y8]))]) (F2 := [(28, .row 44 5 (((encs_Expr [y7, y8])).length) (encs_Expr [y7, y8]))]) (F1 := [(28, .row 44 5 (((encs_Expr [y7, y8])).length) (encs_Expr [y7, y8]))]) kr (loc_g (R := [(28, .row 44 5 (((encs_Expr [y7, y8])).length) (encs_Expr [y7, y8]))]) [.int .i64 12, .sl 5 28 2 0 2] [] (callV_func hbv47 kr) (w_greenbeltlaw17_op 12 [y7, y8] _ c9) (.cons (.same _) (.cons (.row (t := 44) (fz := (((encs_Expr [y7, y8])).length)) kr (by first | (simp only [encs_Expr_eq, List.length_map, List.length_set, cpyT_length]; done) | rfl)) (.nil))) kr kr kr kr kr kr kr kr)) ?_
  obtain ⟨y10, c10, hs⟩ := bS hs
  refine d_loc (F := []) (R := [(12, .row 46 6 0 (mM enc_Def [(Def.mk ([116, 97, 108, 108] : List UInt8) y3)])), (14, .row 87 3 0 (mM enc_Zone [(Zone.mk ([99, 111, 114, 101] : List UInt8) false [])])), (18, .row 56 2 0 (mM enc_Entry [(Entry.mk ([104, 101, 105, 103, 104, 116] : List UInt8) 14), (Entry.mk ([97, 114, 101, 97] : List UInt8) 200)])), (25, .row 9 1 0 (mS [([99, 111, 114, 101] : List UInt8)]))]) (F' := []) (v := .int .i64 y10) 7 [] [12, 14, 18, 25] rfl rfl rfl rfl kr kr kr kr kr kr kr kr (loc_gcallB (vs := [.agg [.sl 6 12 1 0 1, .nils, .sl 3 14 1 0 1, .nils, .nils, .nils, .nils, .int .i64 0], .sl 2 18 2 0 2, .sl 1 25 1 0 1, .agg (enc_Expr y9)]) (R := [(12, .row 46 6 0 (mM enc_Def [(Def.mk ([116, 97, 108, 108] : List UInt8) y3)])), (14, .row 87 3 0 (mM enc_Zone [(Zone.mk ([99, 111, 114, 101] : List UInt8) false [])])), (18, .row 56 2 0 (mM enc_Entry [(Entry.mk ([104, 101, 105, 103, 104, 116] : List UInt8) 14), (Entry.mk ([97, 114, 101, 97] : List UInt8) 200)])), (25, .row 9 1 0 (mS [([99, 111, 114, 101] : List UInt8)]))]) (callV_func hbv32 kr) (w_expr_Eval [(Def.mk ([116, 97, 108, 108] : List UInt8) y3)] [] [(Zone.mk ([99, 111, 114, 101] : List UInt8) false [])] [] [] [] [] 0 [(Entry.mk ([104, 101, 105, 103, 104, 116] : List UInt8) 14), (Entry.mk ([97, 114, 101, 97] : List UInt8) 200)] [([99, 111, 114, 101] : List UInt8)] y9 _ c10) (.cons (.agg (.cons (.row (t := 46) (fz := 0) kr (by first | (simp only [List.length_map, List.length_set, cpyT_length]; done) | rfl)) (.cons (.nils _) (.cons (.row (t := 87) (fz := 0) kr (by first | (simp only [List.length_map, List.length_set, cpyT_length]; done) | rfl)) (.cons (.nils _) (.cons (.nils _) (.cons (.nils _) (.cons (.nils _) (.cons (.same _) (.nil)))))))))) (.cons (.row (t := 56) (fz := 0) kr (by first | (simp only [List.length_map, List.length_set, cpyT_length]; done) | rfl)) (.cons (.row (t := 9) (fz := 0) kr (by first | (simp only [List.length_map, List.length_set, cpyT_length]; done) | rfl)) (.cons (.same _) (.nil))))) kr kr kr) ?_
  refine d_runs 2 8 [(32, .bool (decide (y10 = 1))), (31, .bool (decide (y10 = 1)))] (pfp 2 9) kr kr ?_
  cases h1 : ((decide (y10 = 1)))
  ·replace hs := bif_f h1 hs
   refine d_runs 10 10 [(4, .bool false), (41, .bool false), (40, .no), (39, .no), (38, .no), (37, .no), (36, .no), (35, .no), (34, .no), (33, .no)] (pfp 10 19) kr kr ?_
   refine d_nil kr ?_
   obtain rfl := si hs
   refine nrm_join false rfl ?_
   exact Cut.trans (cut_eq 2 (v := .sl 2 18 2 0 2) (v' := .sl 2 18 (([(Entry.mk ([104, 101, 105, 103, 104, 116] : List UInt8) 14), (Entry.mk ([97, 114, 101, 97] : List UInt8) 200)]).length) 0 (([(Entry.mk ([104, 101, 105, 103, 104, 116] : List UInt8) 14), (Entry.mk ([97, 114, 101, 97] : List UInt8) 200)]).length)) kr (by first | rfl | simp only [List.length_set, cpyT_length])) (Cut.trans (cut_same (H1 := [(28, .row 44 5 (((encs_Expr [y7, y8])).length) (encs_Expr [y7, y8])), (25, .row 9 1 0 (mS [([99, 111, 114, 101] : List UInt8)])), (3, .box 44 (enc_Expr y6)), (21, .row 44 5 (((encs_Expr [y4, y5])).length) (encs_Expr [y4, y5])), (18, .row 56 2 0 (mM enc_Entry [(Entry.mk ([104, 101, 105, 103, 104, 116] : List UInt8) 14), (Entry.mk ([97, 114, 101, 97] : List UInt8) 200)])), (1, .box 30 [.sl 6 12 1 0 1, .nils, .sl 3 14 1 0 1, .nils, .nils, .nils, .nils, .int .i64 0]), (14, .row 87 3 0 (mM enc_Zone [(Zone.mk ([99, 111, 114, 101] : List UInt8) false [])])), (12, .row 46 6 0 (mM enc_Def [(Def.mk ([116, 97, 108, 108] : List UInt8) y3)])), (9, .row 44 5 (((encs_Expr [(Expr.mk 3 0 ([99, 111, 114, 101] : List UInt8) [] []), y1, y2])).length) (encs_Expr [(Expr.mk 3 0 ([99, 111, 114, 101] : List UInt8) [] []), y1, y2]))]) rfl kr) (Cut.trans (cut_same (H1 := [(28, .row 44 5 (((encs_Expr [y7, y8])).length) (encs_Expr [y7, y8])), (25, .row 9 1 0 (mS [([99, 111, 114, 101] : List UInt8)])), (3, .box 44 (enc_Expr y6)), (21, .row 44 5 (((encs_Expr [y4, y5])).length) (encs_Expr [y4, y5])), (18, .row 56 2 0 (mM enc_Entry [(Entry.mk ([104, 101, 105, 103, 104, 116] : List UInt8) 14), (Entry.mk ([97, 114, 101, 97] : List UInt8) 200)])), (1, .box 30 [.sl 6 12 (([(Def.mk ([116, 97, 108, 108] : List UInt8) y3)]).length) 0 (([(Def.mk ([116, 97, 108, 108] : List UInt8) y3)]).length), .nils, .sl 3 14 (([(Zone.mk ([99, 111, 114, 101] : List UInt8) false [])]).length) 0 (([(Zone.mk ([99, 111, 114, 101] : List UInt8) false [])]).length), .nils, .nils, .nils, .nils, .int .i64 0]), (14, .row 87 3 0 (mM enc_Zone [(Zone.mk ([99, 111, 114, 101] : List UInt8) false [])])), (12, .row 46 6 0 (mM enc_Def [(Def.mk ([116, 97, 108, 108] : List UInt8) y3)])), (9, .row 44 5 (((encs_Expr [(Expr.mk 3 0 ([99, 111, 114, 101] : List UInt8) [] []), y1, y2])).length) (encs_Expr [(Expr.mk 3 0 ([99, 111, 114, 101] : List UInt8) [] []), y1, y2]))]) rfl (by first | (simp only [List.length_set, cpyT_length]; done) | rfl)) (cut_of [1, 2, 3, 4] [3, 18, 1, 14, 12] kr kr kr)))
  ·replace hs := bif_t h1 hs
   refine d_runs 2 10 [(34, .sl 2 18 2 0 2), (33, .agg [.sl 6 12 1 0 1, .nils, .sl 3 14 1 0 1, .nils, .nils, .nils, .nils, .int .i64 0])] [⟨11, [], []⟩, ⟨10, [], [1]⟩] kr kr ?_
   obtain ⟨y11, c11, hs⟩ := bS hs
   refine d_pure (v := .agg (enc_Expr y11)) 12 rfl rfl rfl rfl kr kr (loc_gcall0 (callV_func hbv49 kr) (w_greenbeltlaw17_name ([104, 101, 105, 103, 104, 116] : List UInt8) _ c11) kr) ?_
   obtain ⟨y12, c12, hs⟩ := bS hs
   refine d_pure (v := .agg (enc_Expr y12)) 13 rfl rfl rfl rfl kr kr (loc_gcall0 (callV_func hbv49 kr) (w_greenbeltlaw17_name ([116, 97, 108, 108] : List UInt8) _ c12) kr) ?_
   refine d_loc (F := []) (R := []) (F' := [(37, .row 44 5 0 (encs_Expr [y11, y12]))]) (v := .sl 5 37 2 0 2) 14 [] [] rfl rfl rfl rfl kr kr kr kr kr kr kr kr (loc_buildSliceW (e := 44) (sz := 5) (els := [(enc_Expr y11), (enc_Expr y12)]) (els2 := [(enc_Expr y11), (enc_Expr y12)]) (fl := [.int .i64 y11.Op, .int .i64 y11.N, .str y11.S, .str y11.Key, .vs 5 (encs_Expr y11.Args), .int .i64 y12.Op, .int .i64 y12.N, .str y12.S, .str y12.Key, .vs 5 (encs_Expr y12.Args)]) (fl2 := [.int .i64 y11.Op, .int .i64 y11.N, .str y11.S, .str y11.Key, .vs 5 (encs_Expr y11.Args), .int .i64 y12.Op, .int .i64 y12.N, .str y12.S, .str y12.Key, .vs 5 (encs_Expr y12.Args)]) kr kr kr kr kr (wk_same (wk_same (wk_same (wk_same (wk_same (wk_same (wk_same (wk_same (wk_same (wk_same wk_nil)))))))))) kr kr (Eq.trans kr (encs_Expr_eq _).symm)) ?_
   obtain ⟨y13, c13, hs⟩ := bS hs
   refine d_loc (F := [(37, .row 44 5 0 (encs_Expr [y11, y12]))]) (R := []) (F' := [(37, .row 44 5 (((encs_Expr [y11, y12])).length) (encs_Expr [y11, y12]))]) (v := .agg (enc_Expr y13)) 15 [37] [] rfl rfl rfl rfl kr kr kr kr kr kr kr kr (loc_frz (Fa := []) (R := [(37, .row 44 5 0 (encs_Expr [y11, y12]))]) (F2 := [(37, .row 44 5 (((encs_Expr [y11, y12])).length) (encs_Expr [y11, y12]))]) (F1 := [(37, .row 44 5 (((encs_Expr [y11, y12])).length) (encs_Expr [y11, y12]))]) kr (loc_g (R := [(37, .row 44 5 (((encs_Expr [y11, y12])).length) (encs_Expr [y11, y12]))]) [.int .i64 12, .sl 5 37 2 0 2] [] (callV_func hbv47 kr) (w_greenbeltlaw17_op 12 [y11, y12] _ c13) (.cons (.same _) (.cons (.row (t := 44) (fz := (((encs_Expr [y11, y12])).length)) kr (by first | (simp only [encs_Expr_eq, List.length_map, List.length_set, cpyT_length]; done) | rfl)) (.nil))) kr kr kr kr kr kr kr kr)) ?_
   obtain ⟨y14, c14, hs⟩ := bS hs
   refine d_loc (F := []) (R := [(12, .row 46 6 0 (mM enc_Def [(Def.mk ([116, 97, 108, 108] : List UInt8) y3)])), (14, .row 87 3 0 (mM enc_Zone [(Zone.mk ([99, 111, 114, 101] : List UInt8) false [])])), (18, .row 56 2 0 (mM enc_Entry [(Entry.mk ([104, 101, 105, 103, 104, 116] : List UInt8) 14), (Entry.mk ([97, 114, 101, 97] : List UInt8) 200)]))]) (F' := []) (v := .int .i64 y14) 16 [] [12, 14, 18] rfl rfl rfl rfl kr kr kr kr kr kr kr kr (loc_gcallB (vs := [.agg [.sl 6 12 1 0 1, .nils, .sl 3 14 1 0 1, .nils, .nils, .nils, .nils, .int .i64 0], .sl 2 18 2 0 2, .nils, .agg (enc_Expr y13)]) (R := [(12, .row 46 6 0 (mM enc_Def [(Def.mk ([116, 97, 108, 108] : List UInt8) y3)])), (14, .row 87 3 0 (mM enc_Zone [(Zone.mk ([99, 111, 114, 101] : List UInt8) false [])])), (18, .row 56 2 0 (mM enc_Entry [(Entry.mk ([104, 101, 105, 103, 104, 116] : List UInt8) 14), (Entry.mk ([97, 114, 101, 97] : List UInt8) 200)]))]) (callV_func hbv32 kr) (w_expr_Eval [(Def.mk ([116, 97, 108, 108] : List UInt8) y3)] [] [(Zone.mk ([99, 111, 114, 101] : List UInt8) false [])] [] [] [] [] 0 [(Entry.mk ([104, 101, 105, 103, 104, 116] : List UInt8) 14), (Entry.mk ([97, 114, 101, 97] : List UInt8) 200)] [] y13 _ c14) (.cons (.agg (.cons (.row (t := 46) (fz := 0) kr (by first | (simp only [List.length_map, List.length_set, cpyT_length]; done) | rfl)) (.cons (.nils _) (.cons (.row (t := 87) (fz := 0) kr (by first | (simp only [List.length_map, List.length_set, cpyT_length]; done) | rfl)) (.cons (.nils _) (.cons (.nils _) (.cons (.nils _) (.cons (.nils _) (.cons (.same _) (.nil)))))))))) (.cons (.row (t := 56) (fz := 0) kr (by first | (simp only [List.length_map, List.length_set, cpyT_length]; done) | rfl)) (.cons (.nils _) (.cons (.same _) (.nil))))) kr kr kr) ?_
   refine d_runs 3 17 [(4, .bool (decide (y14 = 0))), (41, .bool (decide (y14 = 0))), (40, .bool (decide (y14 = 0)))] (pfp 3 19) kr kr ?_
   refine d_nil kr ?_
   obtain rfl := si hs
   refine nrm_join (decide (y14 = 0)) rfl ?_
   exact Cut.trans (cut_eq 2 (v := .sl 2 18 2 0 2) (v' := .sl 2 18 (([(Entry.mk ([104, 101, 105, 103, 104, 116] : List UInt8) 14), (Entry.mk ([97, 114, 101, 97] : List UInt8) 200)]).length) 0 (([(Entry.mk ([104, 101, 105, 103, 104, 116] : List UInt8) 14), (Entry.mk ([97, 114, 101, 97] : List UInt8) 200)]).length)) kr (by first | rfl | simp only [List.length_set, cpyT_length])) (Cut.trans (cut_same (H1 := [(37, .row 44 5 (((encs_Expr [y11, y12])).length) (encs_Expr [y11, y12])), (28, .row 44 5 (((encs_Expr [y7, y8])).length) (encs_Expr [y7, y8])), (25, .row 9 1 0 (mS [([99, 111, 114, 101] : List UInt8)])), (3, .box 44 (enc_Expr y6)), (21, .row 44 5 (((encs_Expr [y4, y5])).length) (encs_Expr [y4, y5])), (18, .row 56 2 0 (mM enc_Entry [(Entry.mk ([104, 101, 105, 103, 104, 116] : List UInt8) 14), (Entry.mk ([97, 114, 101, 97] : List UInt8) 200)])), (1, .box 30 [.sl 6 12 1 0 1, .nils, .sl 3 14 1 0 1, .nils, .nils, .nils, .nils, .int .i64 0]), (14, .row 87 3 0 (mM enc_Zone [(Zone.mk ([99, 111, 114, 101] : List UInt8) false [])])), (12, .row 46 6 0 (mM enc_Def [(Def.mk ([116, 97, 108, 108] : List UInt8) y3)])), (9, .row 44 5 (((encs_Expr [(Expr.mk 3 0 ([99, 111, 114, 101] : List UInt8) [] []), y1, y2])).length) (encs_Expr [(Expr.mk 3 0 ([99, 111, 114, 101] : List UInt8) [] []), y1, y2]))]) rfl kr) (Cut.trans (cut_same (H1 := [(37, .row 44 5 (((encs_Expr [y11, y12])).length) (encs_Expr [y11, y12])), (28, .row 44 5 (((encs_Expr [y7, y8])).length) (encs_Expr [y7, y8])), (25, .row 9 1 0 (mS [([99, 111, 114, 101] : List UInt8)])), (3, .box 44 (enc_Expr y6)), (21, .row 44 5 (((encs_Expr [y4, y5])).length) (encs_Expr [y4, y5])), (18, .row 56 2 0 (mM enc_Entry [(Entry.mk ([104, 101, 105, 103, 104, 116] : List UInt8) 14), (Entry.mk ([97, 114, 101, 97] : List UInt8) 200)])), (1, .box 30 [.sl 6 12 (([(Def.mk ([116, 97, 108, 108] : List UInt8) y3)]).length) 0 (([(Def.mk ([116, 97, 108, 108] : List UInt8) y3)]).length), .nils, .sl 3 14 (([(Zone.mk ([99, 111, 114, 101] : List UInt8) false [])]).length) 0 (([(Zone.mk ([99, 111, 114, 101] : List UInt8) false [])]).length), .nils, .nils, .nils, .nils, .int .i64 0]), (14, .row 87 3 0 (mM enc_Zone [(Zone.mk ([99, 111, 114, 101] : List UInt8) false [])])), (12, .row 46 6 0 (mM enc_Def [(Def.mk ([116, 97, 108, 108] : List UInt8) y3)])), (9, .row 44 5 (((encs_Expr [(Expr.mk 3 0 ([99, 111, 114, 101] : List UInt8) [] []), y1, y2])).length) (encs_Expr [(Expr.mk 3 0 ([99, 111, 114, 101] : List UInt8) [] []), y1, y2]))]) rfl (by first | (simp only [List.length_set, cpyT_length]; done) | rfl)) (cut_of [1, 2, 3, 4] [3, 18, 1, 14, 12] kr kr kr)))
 ·subst hz; clear hs; have hs := hk1; clear hk1
  refine nT (vS ?_)
  obtain ⟨z2, hs, hk2⟩ := bS hs
  refine v_join (S := Bool) (fun u => u = z2) (fun u => [(1, .ptr 1 0 0), (4, .bool v1), (5, .bool u)]) (fun u => [(1, .box 30 [.sl 6 12 (([(Def.mk ([116, 97, 108, 108] : List UInt8) y3)]).length) 0 (([(Def.mk ([116, 97, 108, 108] : List UInt8) y3)]).length), .nils, .sl 3 14 (([(Zone.mk ([99, 111, 114, 101] : List UInt8) false [])]).length) 0 (([(Zone.mk ([99, 111, 114, 101] : List UInt8) false [])]).length), .nils, .nils, .nils, .nils, .int .i64 0]), (14, .row 87 3 0 (mM enc_Zone [(Zone.mk ([99, 111, 114, 101] : List UInt8) false [])])), (12, .row 46 6 0 (mM enc_Def [(Def.mk ([116, 97, 108, 108] : List UInt8) y3)]))]) ?_ (fun v2 hz => ?_)
  ·refine v_draw mixedH kr ?_
   refine d_runs 2 0 [(43, .sl 2 18 (([(Entry.mk ([104, 101, 105, 103, 104, 116] : List UInt8) 14), (Entry.mk ([97, 114, 101, 97] : List UInt8) 200)]).length) 0 (([(Entry.mk ([104, 101, 105, 103, 104, 116] : List UInt8) 14), (Entry.mk ([97, 114, 101, 97] : List UInt8) 200)]).length)), (42, .agg [.sl 6 12 (([(Def.mk ([116, 97, 108, 108] : List UInt8) y3)]).length) 0 (([(Def.mk ([116, 97, 108, 108] : List UInt8) y3)]).length), .nils, .sl 3 14 (([(Zone.mk ([99, 111, 114, 101] : List UInt8) false [])]).length) 0 (([(Zone.mk ([99, 111, 114, 101] : List UInt8) false [])]).length), .nils, .nils, .nils, .nils, .int .i64 0])] [⟨1, [], []⟩, ⟨0, [], [1]⟩] kr kr ?_
   obtain ⟨y15, c15, hs⟩ := bS hs
   refine d_pure (v := .agg (enc_Expr y15)) 2 rfl rfl rfl rfl kr kr (loc_gcall0 (callV_func hbv49 kr) (w_greenbeltlaw17_name ([97, 114, 101, 97] : List UInt8) _ c15) kr) ?_
   obtain ⟨y16, c16, hs⟩ := bS hs
   refine d_pure (v := .agg (enc_Expr y16)) 3 rfl rfl rfl rfl kr kr (loc_gcall0 (callV_func hbv48 kr) (w_greenbeltlaw17_num 0 _ c16) kr) ?_
   refine d_loc (F := []) (R := []) (F' := [(46, .row 44 5 0 (encs_Expr [y15, y16]))]) (v := .sl 5 46 2 0 2) 4 [] [] rfl rfl rfl rfl kr kr kr kr kr kr kr kr (loc_buildSliceW (e := 44) (sz := 5) (els := [(enc_Expr y15), (enc_Expr y16)]) (els2 := [(enc_Expr y15), (enc_Expr y16)]) (fl := [.int .i64 y15.Op, .int .i64 y15.N, .str y15.S, .str y15.Key, .vs 5 (encs_Expr y15.Args), .int .i64 y16.Op, .int .i64 y16.N, .str y16.S, .str y16.Key, .vs 5 (encs_Expr y16.Args)]) (fl2 := [.int .i64 y15.Op, .int .i64 y15.N, .str y15.S, .str y15.Key, .vs 5 (encs_Expr y15.Args), .int .i64 y16.Op, .int .i64 y16.N, .str y16.S, .str y16.Key, .vs 5 (encs_Expr y16.Args)]) kr kr kr kr kr (wk_same (wk_same (wk_same (wk_same (wk_same (wk_same (wk_same (wk_same (wk_same (wk_same wk_nil)))))))))) kr kr (Eq.trans kr (encs_Expr_eq _).symm)) ?_
   obtain ⟨y17, c17, hs⟩ := bS hs
   refine d_loc (F := [(46, .row 44 5 0 (encs_Expr [y15, y16]))]) (R := []) (F' := [(46, .row 44 5 (((encs_Expr [y15, y16])).length) (encs_Expr [y15, y16]))]) (v := .agg (enc_Expr y17)) 5 [46] [] rfl rfl rfl rfl kr kr kr kr kr kr kr kr (loc_frz (Fa := []) (R := [(46, .row 44 5 0 (encs_Expr [y15, y16]))]) (F2 := [(46, .row 44 5 (((encs_Expr [y15, y16])).length) (encs_Expr [y15, y16]))]) (F1 := [(46, .row 44 5 (((encs_Expr [y15, y16])).length) (encs_Expr [y15, y16]))]) kr (loc_g (R := [(46, .row 44 5 (((encs_Expr [y15, y16])).length) (encs_Expr [y15, y16]))]) [.int .i64 7, .sl 5 46 2 0 2] [] (callV_func hbv47 kr) (w_greenbeltlaw17_op 7 [y15, y16] _ c17) (.cons (.same _) (.cons (.row (t := 44) (fz := (((encs_Expr [y15, y16])).length)) kr (by first | (simp only [encs_Expr_eq, List.length_map, List.length_set, cpyT_length]; done) | rfl)) (.nil))) kr kr kr kr kr kr kr kr)) ?_
   obtain ⟨y18, c18, hs⟩ := bS hs
   refine d_loc (F := []) (R := [(12, .row 46 6 0 (mM enc_Def [(Def.mk ([116, 97, 108, 108] : List UInt8) y3)])), (14, .row 87 3 0 (mM enc_Zone [(Zone.mk ([99, 111, 114, 101] : List UInt8) false [])])), (18, .row 56 2 0 (mM enc_Entry [(Entry.mk ([104, 101, 105, 103, 104, 116] : List UInt8) 14), (Entry.mk ([97, 114, 101, 97] : List UInt8) 200)]))]) (F' := []) (v := .int .i64 y18) 6 [] [12, 14, 18] rfl rfl rfl rfl kr kr kr kr kr kr kr kr (loc_gcallB (vs := [.agg [.sl 6 12 (([(Def.mk ([116, 97, 108, 108] : List UInt8) y3)]).length) 0 (([(Def.mk ([116, 97, 108, 108] : List UInt8) y3)]).length), .nils, .sl 3 14 (([(Zone.mk ([99, 111, 114, 101] : List UInt8) false [])]).length) 0 (([(Zone.mk ([99, 111, 114, 101] : List UInt8) false [])]).length), .nils, .nils, .nils, .nils, .int .i64 0], .sl 2 18 (([(Entry.mk ([104, 101, 105, 103, 104, 116] : List UInt8) 14), (Entry.mk ([97, 114, 101, 97] : List UInt8) 200)]).length) 0 (([(Entry.mk ([104, 101, 105, 103, 104, 116] : List UInt8) 14), (Entry.mk ([97, 114, 101, 97] : List UInt8) 200)]).length), .nils, .agg (enc_Expr y17)]) (R := [(12, .row 46 6 0 (mM enc_Def [(Def.mk ([116, 97, 108, 108] : List UInt8) y3)])), (14, .row 87 3 0 (mM enc_Zone [(Zone.mk ([99, 111, 114, 101] : List UInt8) false [])])), (18, .row 56 2 0 (mM enc_Entry [(Entry.mk ([104, 101, 105, 103, 104, 116] : List UInt8) 14), (Entry.mk ([97, 114, 101, 97] : List UInt8) 200)]))]) (callV_func hbv32 kr) (w_expr_Eval [(Def.mk ([116, 97, 108, 108] : List UInt8) y3)] [] [(Zone.mk ([99, 111, 114, 101] : List UInt8) false [])] [] [] [] [] 0 [(Entry.mk ([104, 101, 105, 103, 104, 116] : List UInt8) 14), (Entry.mk ([97, 114, 101, 97] : List UInt8) 200)] [] y17 _ c18) (.cons (.agg (.cons (.row (t := 46) (fz := 0) kr (by first | (simp only [List.length_map, List.length_set, cpyT_length]; done) | rfl)) (.cons (.nils _) (.cons (.row (t := 87) (fz := 0) kr (by first | (simp only [List.length_map, List.length_set, cpyT_length]; done) | rfl)) (.cons (.nils _) (.cons (.nils _) (.cons (.nils _) (.cons (.nils _) (.cons (.same _) (.nil)))))))))) (.cons (.row (t := 56) (fz := 0) kr (by first | (simp only [List.length_map, List.length_set, cpyT_length]; done) | rfl)) (.cons (.nils _) (.cons (.same _) (.nil))))) kr kr kr) ?_
   refine d_runs 2 7 [(50, .bool (decide (y18 = 0))), (49, .bool (decide (y18 = 0)))] (pfp 2 8) kr kr ?_
   cases h2 : ((decide (y18 = 0)))
   ·replace hs := bif_f h2 hs
    refine d_runs 20 9 [(5, .bool false), (69, .bool false), (68, .no), (67, .no), (66, .no), (65, .no), (64, .no), (63, .no), (62, .no), (61, .no), (60, .bool false), (59, .bool false), (58, .no), (57, .no), (56, .no), (55, .no), (54, .no), (53, .no), (52, .no), (51, .no)] (pfp 20 28) kr kr ?_
    refine d_nil kr ?_
    obtain rfl := si hs
    refine nrm_join false rfl ?_
    exact cut_of [1, 4, 5] [1, 14, 12] kr kr kr
   ·replace hs := bif_t h2 hs
    refine d_runs 3 9 [(53, .agg (enc_Expr y6)), (52, .sl 2 18 (([(Entry.mk ([104, 101, 105, 103, 104, 116] : List UInt8) 14), (Entry.mk ([97, 114, 101, 97] : List UInt8) 200)]).length) 0 (([(Entry.mk ([104, 101, 105, 103, 104, 116] : List UInt8) 14), (Entry.mk ([97, 114, 101, 97] : List UInt8) 200)]).length)), (51, .agg [.sl 6 12 (([(Def.mk ([116, 97, 108, 108] : List UInt8) y3)]).length) 0 (([(Def.mk ([116, 97, 108, 108] : List UInt8) y3)]).length), .nils, .sl 3 14 (([(Zone.mk ([99, 111, 114, 101] : List UInt8) false [])]).length) 0 (([(Zone.mk ([99, 111, 114, 101] : List UInt8) false [])]).length), .nils, .nils, .nils, .nils, .int .i64 0])] [⟨11, [], [3]⟩, ⟨10, [], []⟩, ⟨9, [], [1]⟩] kr kr ?_
    obtain ⟨y19, c19, hs⟩ := bS hs
    refine d_pure (v := .agg (enc_Expr y19)) 12 rfl rfl rfl rfl kr kr (loc_gcall0 (callV_func hbv48 kr) (w_greenbeltlaw17_num 2 _ c19) kr) ?_
    refine d_loc (F := []) (R := []) (F' := [(55, .row 44 5 0 (encs_Expr [y6, y19]))]) (v := .sl 5 55 2 0 2) 13 [] [] rfl rfl rfl rfl kr kr kr kr kr kr kr kr (loc_buildSliceW (e := 44) (sz := 5) (els := [(enc_Expr y6), (enc_Expr y19)]) (els2 := [(enc_Expr y6), (enc_Expr y19)]) (fl := [.int .i64 y6.Op, .int .i64 y6.N, .str y6.S, .str y6.Key, .vs 5 (encs_Expr y6.Args), .int .i64 y19.Op, .int .i64 y19.N, .str y19.S, .str y19.Key, .vs 5 (encs_Expr y19.Args)]) (fl2 := [.int .i64 y6.Op, .int .i64 y6.N, .str y6.S, .str y6.Key, .vs 5 (encs_Expr y6.Args), .int .i64 y19.Op, .int .i64 y19.N, .str y19.S, .str y19.Key, .vs 5 (encs_Expr y19.Args)]) kr kr kr kr kr (wk_same (wk_same (wk_same (wk_same (wk_same (wk_same (wk_same (wk_same (wk_same (wk_same wk_nil)))))))))) kr kr (Eq.trans kr (encs_Expr_eq _).symm)) ?_
    obtain ⟨y20, c20, hs⟩ := bS hs
    refine d_loc (F := [(55, .row 44 5 0 (encs_Expr [y6, y19]))]) (R := []) (F' := [(55, .row 44 5 (((encs_Expr [y6, y19])).length) (encs_Expr [y6, y19]))]) (v := .agg (enc_Expr y20)) 14 [55] [] rfl rfl rfl rfl kr kr kr kr kr kr kr kr (loc_frz (Fa := []) (R := [(55, .row 44 5 0 (encs_Expr [y6, y19]))]) (F2 := [(55, .row 44 5 (((encs_Expr [y6, y19])).length) (encs_Expr [y6, y19]))]) (F1 := [(55, .row 44 5 (((encs_Expr [y6, y19])).length) (encs_Expr [y6, y19]))]) kr (loc_g (R := [(55, .row 44 5 (((encs_Expr [y6, y19])).length) (encs_Expr [y6, y19]))]) [.int .i64 7, .sl 5 55 2 0 2] [] (callV_func hbv47 kr) (w_greenbeltlaw17_op 7 [y6, y19] _ c20) (.cons (.same _) (.cons (.row (t := 44) (fz := (((encs_Expr [y6, y19])).length)) kr (by first | (simp only [encs_Expr_eq, List.length_map, List.length_set, cpyT_length]; done) | rfl)) (.nil))) kr kr kr kr kr kr kr kr)) ?_
    obtain ⟨y21, c21, hs⟩ := bS hs
    refine d_loc (F := []) (R := [(12, .row 46 6 0 (mM enc_Def [(Def.mk ([116, 97, 108, 108] : List UInt8) y3)])), (14, .row 87 3 0 (mM enc_Zone [(Zone.mk ([99, 111, 114, 101] : List UInt8) false [])])), (18, .row 56 2 0 (mM enc_Entry [(Entry.mk ([104, 101, 105, 103, 104, 116] : List UInt8) 14), (Entry.mk ([97, 114, 101, 97] : List UInt8) 200)]))]) (F' := []) (v := .int .i64 y21) 15 [] [12, 14, 18] rfl rfl rfl rfl kr kr kr kr kr kr kr kr (loc_gcallB (vs := [.agg [.sl 6 12 (([(Def.mk ([116, 97, 108, 108] : List UInt8) y3)]).length) 0 (([(Def.mk ([116, 97, 108, 108] : List UInt8) y3)]).length), .nils, .sl 3 14 (([(Zone.mk ([99, 111, 114, 101] : List UInt8) false [])]).length) 0 (([(Zone.mk ([99, 111, 114, 101] : List UInt8) false [])]).length), .nils, .nils, .nils, .nils, .int .i64 0], .sl 2 18 (([(Entry.mk ([104, 101, 105, 103, 104, 116] : List UInt8) 14), (Entry.mk ([97, 114, 101, 97] : List UInt8) 200)]).length) 0 (([(Entry.mk ([104, 101, 105, 103, 104, 116] : List UInt8) 14), (Entry.mk ([97, 114, 101, 97] : List UInt8) 200)]).length), .nils, .agg (enc_Expr y20)]) (R := [(12, .row 46 6 0 (mM enc_Def [(Def.mk ([116, 97, 108, 108] : List UInt8) y3)])), (14, .row 87 3 0 (mM enc_Zone [(Zone.mk ([99, 111, 114, 101] : List UInt8) false [])])), (18, .row 56 2 0 (mM enc_Entry [(Entry.mk ([104, 101, 105, 103, 104, 116] : List UInt8) 14), (Entry.mk ([97, 114, 101, 97] : List UInt8) 200)]))]) (callV_func hbv32 kr) (w_expr_Eval [(Def.mk ([116, 97, 108, 108] : List UInt8) y3)] [] [(Zone.mk ([99, 111, 114, 101] : List UInt8) false [])] [] [] [] [] 0 [(Entry.mk ([104, 101, 105, 103, 104, 116] : List UInt8) 14), (Entry.mk ([97, 114, 101, 97] : List UInt8) 200)] [] y20 _ c21) (.cons (.agg (.cons (.row (t := 46) (fz := 0) kr (by first | (simp only [List.length_map, List.length_set, cpyT_length]; done) | rfl)) (.cons (.nils _) (.cons (.row (t := 87) (fz := 0) kr (by first | (simp only [List.length_map, List.length_set, cpyT_length]; done) | rfl)) (.cons (.nils _) (.cons (.nils _) (.cons (.nils _) (.cons (.nils _) (.cons (.same _) (.nil)))))))))) (.cons (.row (t := 56) (fz := 0) kr (by first | (simp only [List.length_map, List.length_set, cpyT_length]; done) | rfl)) (.cons (.nils _) (.cons (.same _) (.nil))))) kr kr kr) ?_
    refine d_runs 3 16 [(60, .bool (decide (y21 = (-4)))), (59, .bool (decide (y21 = (-4)))), (58, .bool (decide (y21 = (-4))))] (pfp 3 18) kr kr ?_
    cases h3 : ((decide (y21 = (-4))))
    ·replace hs := bif_f h3 hs
     refine d_runs 10 19 [(5, .bool false), (69, .bool false), (68, .no), (67, .no), (66, .no), (65, .no), (64, .no), (63, .no), (62, .no), (61, .no)] (pfp 10 28) kr kr ?_
     refine d_nil kr ?_
     obtain rfl := si hs
     refine nrm_join false rfl ?_
     exact cut_of [1, 4, 5] [1, 14, 12] kr kr kr
    ·replace hs := bif_t h3 hs
     refine d_runs 3 19 [(63, .agg (enc_Expr y6)), (62, .sl 2 18 (([(Entry.mk ([104, 101, 105, 103, 104, 116] : List UInt8) 14), (Entry.mk ([97, 114, 101, 97] : List UInt8) 200)]).length) 0 (([(Entry.mk ([104, 101, 105, 103, 104, 116] : List UInt8) 14), (Entry.mk ([97, 114, 101, 97] : List UInt8) 200)]).length)), (61, .agg [.sl 6 12 (([(Def.mk ([116, 97, 108, 108] : List UInt8) y3)]).length) 0 (([(Def.mk ([116, 97, 108, 108] : List UInt8) y3)]).length), .nils, .sl 3 14 (([(Zone.mk ([99, 111, 114, 101] : List UInt8) false [])]).length) 0 (([(Zone.mk ([99, 111, 114, 101] : List UInt8) false [])]).length), .nils, .nils, .nils, .nils, .int .i64 0])] [⟨21, [], [3]⟩, ⟨20, [], []⟩, ⟨19, [], [1]⟩] kr kr ?_
     obtain ⟨y22, c22, hs⟩ := bS hs
     refine d_pure (v := .agg (enc_Expr y22)) 22 rfl rfl rfl rfl kr kr (loc_gcall0 (callV_func hbv48 kr) (w_greenbeltlaw17_num 2 _ c22) kr) ?_
     refine d_loc (F := []) (R := []) (F' := [(65, .row 44 5 0 (encs_Expr [y6, y22]))]) (v := .sl 5 65 2 0 2) 23 [] [] rfl rfl rfl rfl kr kr kr kr kr kr kr kr (loc_buildSliceW (e := 44) (sz := 5) (els := [(enc_Expr y6), (enc_Expr y22)]) (els2 := [(enc_Expr y6), (enc_Expr y22)]) (fl := [.int .i64 y6.Op, .int .i64 y6.N, .str y6.S, .str y6.Key, .vs 5 (encs_Expr y6.Args), .int .i64 y22.Op, .int .i64 y22.N, .str y22.S, .str y22.Key, .vs 5 (encs_Expr y22.Args)]) (fl2 := [.int .i64 y6.Op, .int .i64 y6.N, .str y6.S, .str y6.Key, .vs 5 (encs_Expr y6.Args), .int .i64 y22.Op, .int .i64 y22.N, .str y22.S, .str y22.Key, .vs 5 (encs_Expr y22.Args)]) kr kr kr kr kr (wk_same (wk_same (wk_same (wk_same (wk_same (wk_same (wk_same (wk_same (wk_same (wk_same wk_nil)))))))))) kr kr (Eq.trans kr (encs_Expr_eq _).symm)) ?_
     obtain ⟨y23, c23, hs⟩ := bS hs
     refine d_loc (F := [(65, .row 44 5 0 (encs_Expr [y6, y22]))]) (R := []) (F' := [(65, .row 44 5 (((encs_Expr [y6, y22])).length) (encs_Expr [y6, y22]))]) (v := .agg (enc_Expr y23)) 24 [65] [] rfl rfl rfl rfl kr kr kr kr kr kr kr kr (loc_frz (Fa := []) (R := [(65, .row 44 5 0 (encs_Expr [y6, y22]))]) (F2 := [(65, .row 44 5 (((encs_Expr [y6, y22])).length) (encs_Expr [y6, y22]))]) (F1 := [(65, .row 44 5 (((encs_Expr [y6, y22])).length) (encs_Expr [y6, y22]))]) kr (loc_g (R := [(65, .row 44 5 (((encs_Expr [y6, y22])).length) (encs_Expr [y6, y22]))]) [.int .i64 8, .sl 5 65 2 0 2] [] (callV_func hbv47 kr) (w_greenbeltlaw17_op 8 [y6, y22] _ c23) (.cons (.same _) (.cons (.row (t := 44) (fz := (((encs_Expr [y6, y22])).length)) kr (by first | (simp only [encs_Expr_eq, List.length_map, List.length_set, cpyT_length]; done) | rfl)) (.nil))) kr kr kr kr kr kr kr kr)) ?_
     obtain ⟨y24, c24, hs⟩ := bS hs
     refine d_loc (F := []) (R := [(12, .row 46 6 0 (mM enc_Def [(Def.mk ([116, 97, 108, 108] : List UInt8) y3)])), (14, .row 87 3 0 (mM enc_Zone [(Zone.mk ([99, 111, 114, 101] : List UInt8) false [])])), (18, .row 56 2 0 (mM enc_Entry [(Entry.mk ([104, 101, 105, 103, 104, 116] : List UInt8) 14), (Entry.mk ([97, 114, 101, 97] : List UInt8) 200)]))]) (F' := []) (v := .int .i64 y24) 25 [] [12, 14, 18] rfl rfl rfl rfl kr kr kr kr kr kr kr kr (loc_gcallB (vs := [.agg [.sl 6 12 (([(Def.mk ([116, 97, 108, 108] : List UInt8) y3)]).length) 0 (([(Def.mk ([116, 97, 108, 108] : List UInt8) y3)]).length), .nils, .sl 3 14 (([(Zone.mk ([99, 111, 114, 101] : List UInt8) false [])]).length) 0 (([(Zone.mk ([99, 111, 114, 101] : List UInt8) false [])]).length), .nils, .nils, .nils, .nils, .int .i64 0], .sl 2 18 (([(Entry.mk ([104, 101, 105, 103, 104, 116] : List UInt8) 14), (Entry.mk ([97, 114, 101, 97] : List UInt8) 200)]).length) 0 (([(Entry.mk ([104, 101, 105, 103, 104, 116] : List UInt8) 14), (Entry.mk ([97, 114, 101, 97] : List UInt8) 200)]).length), .nils, .agg (enc_Expr y23)]) (R := [(12, .row 46 6 0 (mM enc_Def [(Def.mk ([116, 97, 108, 108] : List UInt8) y3)])), (14, .row 87 3 0 (mM enc_Zone [(Zone.mk ([99, 111, 114, 101] : List UInt8) false [])])), (18, .row 56 2 0 (mM enc_Entry [(Entry.mk ([104, 101, 105, 103, 104, 116] : List UInt8) 14), (Entry.mk ([97, 114, 101, 97] : List UInt8) 200)]))]) (callV_func hbv32 kr) (w_expr_Eval [(Def.mk ([116, 97, 108, 108] : List UInt8) y3)] [] [(Zone.mk ([99, 111, 114, 101] : List UInt8) false [])] [] [] [] [] 0 [(Entry.mk ([104, 101, 105, 103, 104, 116] : List UInt8) 14), (Entry.mk ([97, 114, 101, 97] : List UInt8) 200)] [] y23 _ c24) (.cons (.agg (.cons (.row (t := 46) (fz := 0) kr (by first | (simp only [List.length_map, List.length_set, cpyT_length]; done) | rfl)) (.cons (.nils _) (.cons (.row (t := 87) (fz := 0) kr (by first | (simp only [List.length_map, List.length_set, cpyT_length]; done) | rfl)) (.cons (.nils _) (.cons (.nils _) (.cons (.nils _) (.cons (.nils _) (.cons (.same _) (.nil)))))))))) (.cons (.row (t := 56) (fz := 0) kr (by first | (simp only [List.length_map, List.length_set, cpyT_length]; done) | rfl)) (.cons (.nils _) (.cons (.same _) (.nil))))) kr kr kr) ?_
     refine d_runs 3 26 [(5, .bool (decide (y24 = 1))), (69, .bool (decide (y24 = 1))), (68, .bool (decide (y24 = 1)))] (pfp 3 28) kr kr ?_
     refine d_nil kr ?_
     obtain rfl := si hs
     refine nrm_join (decide (y24 = 1)) rfl ?_
     exact cut_of [1, 4, 5] [1, 14, 12] kr kr kr
  ·subst hz; clear hs; have hs := hk2; clear hk2
   refine nT (vS ?_)
   obtain ⟨z3, hs, hk3⟩ := bS hs
   refine v_join (S := Bool) (fun u => u = z3) (fun u => [(0, .bool u)]) (fun u => []) ?_ (fun v3 hz => ?_)
   ·refine v_draw mixedH kr ?_
    refine d_runs 2 0 [(71, .bool v1), (70, .bool v1)] (pfp 2 1) kr kr ?_
    cases h4 : (v1)
    ·replace hs := bif_f h4 hs
     refine d_runs 21 2 [(0, .bool false), (91, .bool false), (90, .no), (89, .no), (88, .no), (87, .bool false), (86, .bool false), (85, .no), (84, .no), (83, .no), (82, .no), (81, .bool false), (80, .bool false), (79, .no), (78, .no), (77, .no), (76, .no), (75, .no), (74, .bool false), (73, .bool false), (72, .no)] (pfp 21 22) kr kr ?_
     refine d_nil kr ?_
     obtain rfl := si hs
     refine nrm_join false rfl ?_
     exact cut_of [0] [] kr kr kr
    ·replace hs := bif_t h4 hs
     refine d_runs 3 2 [(74, .bool v2), (73, .bool v2), (72, .bool v2)] (pfp 3 4) kr kr ?_
     cases h5 : (v2)
     ·replace hs := bif_f h5 hs
      refine d_runs 18 5 [(0, .bool false), (91, .bool false), (90, .no), (89, .no), (88, .no), (87, .bool false), (86, .bool false), (85, .no), (84, .no), (83, .no), (82, .no), (81, .bool false), (80, .bool false), (79, .no), (78, .no), (77, .no), (76, .no), (75, .no)] (pfp 18 22) kr kr ?_
      refine d_nil kr ?_
      obtain rfl := si hs
      refine nrm_join false rfl ?_
      exact cut_of [0] [] kr kr kr
     ·replace hs := bif_t h5 hs
      refine d_runh 2 5 [(76, .sl 1 76 1 0 1), (75, .agg [.sl 6 12 (([(Def.mk ([116, 97, 108, 108] : List UInt8) y3)]).length) 0 (([(Def.mk ([116, 97, 108, 108] : List UInt8) y3)]).length), .nils, .sl 3 14 (([(Zone.mk ([99, 111, 114, 101] : List UInt8) false [])]).length) 0 (([(Zone.mk ([99, 111, 114, 101] : List UInt8) false [])]).length), .nils, .nils, .nils, .nils, .int .i64 0])] [(76, .row 9 1 0 (mS [([104, 101, 105, 103, 104, 116] : List UInt8)])), (1, .box 30 [.sl 6 12 (([(Def.mk ([116, 97, 108, 108] : List UInt8) y3)]).length) 0 (([(Def.mk ([116, 97, 108, 108] : List UInt8) y3)]).length), .nils, .sl 3 14 (([(Zone.mk ([99, 111, 114, 101] : List UInt8) false [])]).length) 0 (([(Zone.mk ([99, 111, 114, 101] : List UInt8) false [])]).length), .nils, .nils, .nils, .nils, .int .i64 0]), (14, .row 87 3 0 (mM enc_Zone [(Zone.mk ([99, 111, 114, 101] : List UInt8) false [])])), (12, .row 46 6 0 (mM enc_Def [(Def.mk ([116, 97, 108, 108] : List UInt8) y3)]))] [⟨6, [76], []⟩, ⟨5, [], [1]⟩] kr kr ?_
      obtain ⟨y25, c25, hs⟩ := bS hs
      refine d_pure (v := .agg (enc_Expr y25)) 7 rfl rfl rfl rfl kr kr (loc_gcall0 (callV_func hbv49 kr) (w_greenbeltlaw17_name ([104, 101, 105, 103, 104, 116] : List UInt8) _ c25) kr) ?_
      obtain ⟨y26, c26, hs⟩ := bS hs
      refine d_loc (F := []) (R := [(12, .row 46 6 0 (mM enc_Def [(Def.mk ([116, 97, 108, 108] : List UInt8) y3)])), (14, .row 87 3 0 (mM enc_Zone [(Zone.mk ([99, 111, 114, 101] : List UInt8) false [])])), (76, .row 9 1 0 (mS [([104, 101, 105, 103, 104, 116] : List UInt8)]))]) (F' := []) (v := .int .i64 y26) 8 [] [12, 14, 76] rfl rfl rfl rfl kr kr kr kr kr kr kr kr (loc_gcallB (vs := [.agg [.sl 6 12 (([(Def.mk ([116, 97, 108, 108] : List UInt8) y3)]).length) 0 (([(Def.mk ([116, 97, 108, 108] : List UInt8) y3)]).length), .nils, .sl 3 14 (([(Zone.mk ([99, 111, 114, 101] : List UInt8) false [])]).length) 0 (([(Zone.mk ([99, 111, 114, 101] : List UInt8) false [])]).length), .nils, .nils, .nils, .nils, .int .i64 0], .sl 1 76 1 0 1, .agg (enc_Expr y25)]) (R := [(12, .row 46 6 0 (mM enc_Def [(Def.mk ([116, 97, 108, 108] : List UInt8) y3)])), (14, .row 87 3 0 (mM enc_Zone [(Zone.mk ([99, 111, 114, 101] : List UInt8) false [])])), (76, .row 9 1 0 (mS [([104, 101, 105, 103, 104, 116] : List UInt8)]))]) (callV_func hbv50 kr) (w_expr_Check [(Def.mk ([116, 97, 108, 108] : List UInt8) y3)] [] [(Zone.mk ([99, 111, 114, 101] : List UInt8) false [])] [] [] [] [] 0 [([104, 101, 105, 103, 104, 116] : List UInt8)] y25 _ c26) (.cons (.agg (.cons (.row (t := 46) (fz := 0) kr (by first | (simp only [List.length_map, List.length_set, cpyT_length]; done) | rfl)) (.cons (.nils _) (.cons (.row (t := 87) (fz := 0) kr (by first | (simp only [List.length_map, List.length_set, cpyT_length]; done) | rfl)) (.cons (.nils _) (.cons (.nils _) (.cons (.nils _) (.cons (.nils _) (.cons (.same _) (.nil)))))))))) (.cons (.row (t := 9) (fz := 0) kr (by first | (simp only [List.length_map, List.length_set, cpyT_length]; done) | rfl)) (.cons (.same _) (.nil)))) kr kr kr) ?_
      refine d_runs 3 9 [(81, .bool (decide (y26 = 0))), (80, .bool (decide (y26 = 0))), (79, .bool (decide (y26 = 0)))] (pfp 3 11) kr kr ?_
      cases h6 : ((decide (y26 = 0)))
      ·replace hs := bif_f h6 hs
       refine d_runs 11 12 [(0, .bool false), (91, .bool false), (90, .no), (89, .no), (88, .no), (87, .bool false), (86, .bool false), (85, .no), (84, .no), (83, .no), (82, .no)] (pfp 11 22) kr kr ?_
       refine d_nil kr ?_
       obtain rfl := si hs
       refine nrm_join false rfl ?_
       exact cut_of [0] [] kr kr kr
      ·replace hs := bif_t h6 hs
       refine d_runs 1 12 [(82, .agg [.sl 6 12 (([(Def.mk ([116, 97, 108, 108] : List UInt8) y3)]).length) 0 (([(Def.mk ([116, 97, 108, 108] : List UInt8) y3)]).length), .nils, .sl 3 14 (([(Zone.mk ([99, 111, 114, 101] : List UInt8) false [])]).length) 0 (([(Zone.mk ([99, 111, 114, 101] : List UInt8) false [])]).length), .nils, .nils, .nils, .nils, .int .i64 0])] [⟨12, [], [1]⟩] kr kr ?_
       obtain ⟨y27, c27, hs⟩ := bS hs
       refine d_pure (v := .agg (enc_Expr y27)) 13 rfl rfl rfl rfl kr kr (loc_gcall0 (callV_func hbv49 kr) (w_greenbeltlaw17_name ([104, 101, 105, 103, 104, 116] : List UInt8) _ c27) kr) ?_
       obtain ⟨y28, c28, hs⟩ := bS hs
       refine d_loc (F := []) (R := [(12, .row 46 6 0 (mM enc_Def [(Def.mk ([116, 97, 108, 108] : List UInt8) y3)])), (14, .row 87 3 0 (mM enc_Zone [(Zone.mk ([99, 111, 114, 101] : List UInt8) false [])]))]) (F' := []) (v := .int .i64 y28) 14 [] [12, 14] rfl rfl rfl rfl kr kr kr kr kr kr kr kr (loc_gcallB (vs := [.agg [.sl 6 12 (([(Def.mk ([116, 97, 108, 108] : List UInt8) y3)]).length) 0 (([(Def.mk ([116, 97, 108, 108] : List UInt8) y3)]).length), .nils, .sl 3 14 (([(Zone.mk ([99, 111, 114, 101] : List UInt8) false [])]).length) 0 (([(Zone.mk ([99, 111, 114, 101] : List UInt8) false [])]).length), .nils, .nils, .nils, .nils, .int .i64 0], .nils, .agg (enc_Expr y27)]) (R := [(12, .row 46 6 0 (mM enc_Def [(Def.mk ([116, 97, 108, 108] : List UInt8) y3)])), (14, .row 87 3 0 (mM enc_Zone [(Zone.mk ([99, 111, 114, 101] : List UInt8) false [])]))]) (callV_func hbv50 kr) (w_expr_Check [(Def.mk ([116, 97, 108, 108] : List UInt8) y3)] [] [(Zone.mk ([99, 111, 114, 101] : List UInt8) false [])] [] [] [] [] 0 [] y27 _ c28) (.cons (.agg (.cons (.row (t := 46) (fz := 0) kr (by first | (simp only [List.length_map, List.length_set, cpyT_length]; done) | rfl)) (.cons (.nils _) (.cons (.row (t := 87) (fz := 0) kr (by first | (simp only [List.length_map, List.length_set, cpyT_length]; done) | rfl)) (.cons (.nils _) (.cons (.nils _) (.cons (.nils _) (.cons (.nils _) (.cons (.same _) (.nil)))))))))) (.cons (.nils _) (.cons (.same _) (.nil)))) kr kr kr) ?_
       refine d_runs 3 15 [(87, .bool (decide (y28 = 15))), (86, .bool (decide (y28 = 15))), (85, .bool (decide (y28 = 15)))] (pfp 3 17) kr kr ?_
       cases h7 : ((decide (y28 = 15)))
       ·replace hs := bif_f h7 hs
        refine d_runs 5 18 [(0, .bool false), (91, .bool false), (90, .no), (89, .no), (88, .no)] (pfp 5 22) kr kr ?_
        refine d_nil kr ?_
        obtain rfl := si hs
        refine nrm_join false rfl ?_
        exact cut_of [0] [] kr kr kr
       ·replace hs := bif_t h7 hs
        obtain ⟨y29, c29, hs⟩ := bS hs
        refine d_loc (F := []) (R := []) (F' := []) (v := .agg (enc_Expr y29)) 18 [] [] rfl rfl rfl rfl kr kr kr kr kr kr kr kr (loc_g (R := []) [.int .i64 15, .nils] [] (callV_func hbv47 kr) (w_greenbeltlaw17_op 15 [] _ c29) (.cons (.same _) (.cons (.nils _) (.nil))) kr kr kr kr kr kr kr kr) ?_
        obtain ⟨y30, c30, hs⟩ := bS hs
        refine d_pure (v := .bool y30) 19 rfl rfl rfl rfl kr kr (loc_gcall0 (callV_func hbv30 kr) (w_expr_Right y29 _ c30) kr) ?_
        refine d_runs 3 20 [(0, .bool (!y30)), (91, .bool (!y30)), (90, .bool (!y30))] (pfp 3 22) kr kr ?_
        refine d_nil kr ?_
        obtain rfl := si hs
        refine nrm_join (!y30) rfl ?_
        exact cut_of [0] [] kr kr kr
   ·subst hz; clear hs; have hs := hk3; clear hk3
    refine nT (v_ret ?_)
    obtain rfl := si hs
    exact fin_ret kr kr kr
theorem ws_greenbeltlaw17_nodes (nF : Nat) (ih_greenbeltlaw17_nodes : ∀ (e : Expr) (most : Int) (levels : Int) (r : Int), s_greenbeltlaw17_nodes nF e most levels = some r → FnA Try.prog 31 [.agg (enc_Expr e), .int .i64 most, .int .i64 levels] [] (.int .i64 r) []) (e : Expr) (most : Int) (levels : Int) (r : Int) (hs : s_greenbeltlaw17_nodes (nF + 1) e most levels = some r) : FnA Try.prog 31 [.agg (enc_Expr e), .int .i64 most, .int .i64 levels] [] (.int .i64 r) [] := by
 refine fnA_of_wp (N := 39) Try.func31 rfl rfl rfl fun cK0 => ?_
 rw [s_greenbeltlaw17_nodes] at hs
 refine v_same (ρ' := [(0, .agg (enc_Expr e)), (1, .int .i64 most), (2, .int .i64 levels)]) rfl rfl ?_
 refine vS (vT (o_runh 2 [(6, .int .i64 0), (3, .ptr 3 0 0)] [(3, .box 44 (enc_Expr e))] kr ?_))
 refine oN (nT (vS (vT (oR 1 [(7, .int .i64 1)] kr ?_))))
 refine oN (nT (vS (vS (vT (oR 2 [(10, .bool (decide (levels < 1))), (9, .int .i64 levels)] kr ?_)))))
 refine oN (nT ?_)
 refine v_cond (decide (levels < 1)) kr (fun h1 => ?_) (fun h1 => ?_)
 ·replace hs := bif_t h1 hs
  refine vS (vT (oR 3 [(6, .int .i64 (w64 (most + 1))), (12, .int .i64 (w64 (most + 1))), (11, .int .i64 most)] kr ?_))
  refine oN (nT (v_ret (rT ?_)))
  obtain rfl := si hs
  exact fin_ret kr kr kr
 ·replace hs := bif_f h1 hs
  refine vK (nT (vS (vS (vT (oR 1 [(8, .int .i64 0)] kr ?_)))))
  refine oN (nT ?_)
  obtain ⟨z1, hs, hk1⟩ := bS hs
  refine v_join (S := Int) (fun u => u = z1) (fun u => [(7, .int .i64 u)]) (fun u => []) ?_ (fun v1 hz => ?_)
  ·refine vB ?_
   refine v_fuel (S := Int × Int) (fun u => [(1, .int .i64 most), (2, .int .i64 levels), (3, .ptr 3 0 0), (7, .int .i64 u.1), (8, .int .i64 u.2)]) (fun u => [(3, .box 44 (enc_Expr e))]) (s_greenbeltlaw17_nodes_L1 (s_greenbeltlaw17_nodes nF) e most levels) (fun _ => rfl) KK (1, 0) hs (cut_of [1, 2, 3, 7, 8] [3] kr kr kr) (fun K1 q1 hs => ?_)
   rw [s_greenbeltlaw17_nodes_L1] at hs
   show WpV cK0 Try.prog none 39 _ _ [(1, .int .i64 most), (2, .int .i64 levels), (3, .ptr 3 0 0), (7, .int .i64 q1.1), (8, .int .i64 q1.2)] [(3, .box 44 (enc_Expr e))] []
   refine vS (vS ?_)
   obtain ⟨z2, hs, hk2⟩ := bS hs
   refine v_join (S := Bool) (fun u => u = z2) (fun u => [(1, .int .i64 most), (2, .int .i64 levels), (3, .ptr 3 0 0), (7, .int .i64 q1.1), (8, .int .i64 q1.2), (22, .bool u)]) (fun u => [(3, .box 44 (enc_Expr e))]) ?_ (fun v2 hz => ?_)
   ·refine vT (oR 3 [(15, .vs 5 (encs_Expr e.Args)), (14, .ptr 3 0 4), (13, .int .i64 q1.2)] kr ?_)
    refine oP (v := .int .i64 (List.length e.Args : Int)) kr kr (loc_lenVs (sz := 5) (els := (encs_Expr e.Args)) kr kr (by rw [encs_Expr_eq, List.length_map])) ?_
    refine oR 2 [(18, .bool (decide (q1.2 < (List.length e.Args : Int)))), (17, .bool (decide (q1.2 < (List.length e.Args : Int))))] kr ?_
    cases h2 : ((decide (q1.2 < (List.length e.Args : Int))))
    ·replace hs := bif_f h2 hs
     refine oR 4 [(22, .bool false), (21, .no), (20, .no), (19, .no)] kr ?_
     refine oN ?_
     obtain rfl := si hs
     refine nrm_join false rfl ?_
     exact cut_of [1, 2, 3, 7, 8, 22] [3] kr kr kr
    ·replace hs := bif_t h2 hs
     refine oR 4 [(22, .bool (decide (q1.1 ≤ most))), (21, .bool (decide (q1.1 ≤ most))), (20, .int .i64 most), (19, .int .i64 q1.1)] kr ?_
     refine oN ?_
     obtain rfl := si hs
     refine nrm_join (decide (q1.1 ≤ most)) rfl ?_
     exact cut_of [1, 2, 3, 7, 8, 22] [3] kr kr kr
   ·subst hz; clear hs; have hs := hk2; clear hk2
    refine nT ?_
    refine v_cond v2 kr (fun h3 => ?_) (fun h3 => ?_)
    ·replace hs := bif_t h3 hs
     refine vK (nT (vS (vB (vT (oR 4 [(28, .int .i64 q1.2), (27, .vs 5 (encs_Expr e.Args)), (26, .ptr 3 0 4), (25, .int .i64 q1.1)] kr ?_)))))
     obtain ⟨x1, g1, hs⟩ := bS hs; obtain ⟨g1a, g1b, g1c⟩ := idx_some g1
     refine oP (v := .vp (enc_Expr x1) 0) kr kr (loc_indexVs (e := 44) (sz := 5) (k := .i64) (els := (encs_Expr e.Args)) (cs := (enc_Expr x1)) kr kr kr g1a (by rw [g1c, encs_Expr_eq]; exact map_get _ (by omega))) ?_
     refine oR 6 [(35, .int .i64 (w64 (levels - 1))), (34, .int .i64 levels), (33, .int .i64 (w64 (most - q1.1))), (32, .int .i64 q1.1), (31, .int .i64 most), (30, .agg (enc_Expr x1))] kr ?_
     obtain ⟨y1, c1, hs⟩ := bS hs
     refine oP (v := .int .i64 y1) kr kr (loc_gcall0 (callV_func hbv31 kr) (ih_greenbeltlaw17_nodes x1 (w64 (most - q1.1)) (w64 (levels - 1)) _ c1) kr) ?_
     refine oR 2 [(7, .int .i64 (w64 (q1.1 + y1))), (37, .int .i64 (w64 (q1.1 + y1)))] kr ?_
     refine oN (nB (nT (vT (oR 3 [(8, .int .i64 (w64 (q1.2 + 1))), (24, .int .i64 (w64 (q1.2 + 1))), (23, .int .i64 q1.2)] kr ?_))))
     refine oN (nrm_fuel ((w64 (q1.1 + y1)), (w64 (q1.2 + 1))) hs ?_)
     exact cut_of [1, 2, 3, 7, 8] [3] kr kr kr
    ·replace hs := bif_f h3 hs
     refine v_exit (exit_thenV (exit_fuel ?_))
     refine exit_blkV ?_
     obtain rfl := si hs
     refine nrm_join q1.1 rfl ?_
     exact cut_of [7] [] kr kr kr
  ·subst hz; clear hs; have hs := hk1; clear hk1
   refine nT (vS (vT (oR 2 [(6, .int .i64 v1), (38, .int .i64 v1)] kr ?_)))
   refine oN (nT (v_ret ?_))
   obtain rfl := si hs
   exact fin_ret kr kr kr
theorem wr_greenbeltlaw17_nodes : ∀ nF : Nat, (∀ (e : Expr) (most : Int) (levels : Int) (r : Int), s_greenbeltlaw17_nodes nF e most levels = some r → FnA Try.prog 31 [.agg (enc_Expr e), .int .i64 most, .int .i64 levels] [] (.int .i64 r) [])
 | 0 => fun e most levels r hs => (by rw [s_greenbeltlaw17_nodes] at hs; cases hs)
 | nF + 1 => fun e most levels r hs => ws_greenbeltlaw17_nodes nF (wr_greenbeltlaw17_nodes nF) e most levels r hs
theorem w_greenbeltlaw17_nodes (nF : Nat) (e : Expr) (most : Int) (levels : Int) (r : Int) (hs : s_greenbeltlaw17_nodes nF e most levels = some r) : FnA Try.prog 31 [.agg (enc_Expr e), .int .i64 most, .int .i64 levels] [] (.int .i64 r) [] := (wr_greenbeltlaw17_nodes nF) e most levels r hs
theorem w_greenbeltlaw17_light (e : Expr) (r : Bool) (hs : s_greenbeltlaw17_light e = some r) : FnA Try.prog 28 [.agg (enc_Expr e)] [] (.bool r) [] := by
 refine fnA_of_wp (N := 6) Try.func28 rfl rfl rfl fun cK0 => ?_
 unfold s_greenbeltlaw17_light at hs
 refine v_same (ρ' := [(0, .agg (enc_Expr e))]) rfl rfl ?_
 refine vS (vT (o_runh 2 [(2, .bool false), (1, .ptr 1 0 0)] [(1, .box 44 (enc_Expr e))] kr ?_))
 refine oN (nT (vS (vT (oR 1 [(3, .agg (enc_Expr e))] kr ?_))))
 obtain ⟨y1, c1, hs⟩ := bS hs
 refine oP (v := .int .i64 y1) kr kr (loc_gcall0 (callV_func hbv31 kr) (w_greenbeltlaw17_nodes KK e 100 20 _ c1) kr) ?_
 refine oR 2 [(2, .bool (decide (y1 ≤ 100))), (5, .bool (decide (y1 ≤ 100)))] kr ?_
 refine oN (nT (v_ret ?_))
 obtain rfl := si hs
 exact fin_ret kr kr kr
theorem w_greenbeltlaw17_few (p : Plan) (r : Bool) (hs : s_greenbeltlaw17_few p = some r) : FnA Try.prog 27 [.agg (enc_Plan p)] [] (.bool r) [] := by
 refine fnA_of_wp (N := 59) Try.func27 rfl rfl rfl fun cK0 => ?_
 unfold s_greenbeltlaw17_few at hs
 refine v_same (ρ' := [(0, .agg (enc_Plan p))]) rfl rfl ?_
 refine vS (vT (o_runh 2 [(2, .bool false), (1, .ptr 1 0 0)] [(1, .box 30 (enc_Plan p))] kr ?_))
 refine oN (nT (vS (vS (vT (oR 1 [(3, .int .i64 0)] kr ?_)))))
 refine oN (nT ?_)
 obtain ⟨z1, hs, hk1⟩ := bS hs
 refine v_join (S := Unit) (fun u => z1 = .inr u) (fun u => [(1, .ptr 1 0 0)]) (fun u => [(1, .box 30 (enc_Plan p))]) ?_ (fun v1 hz => ?_)
 ·refine vB ?_
  refine v_fuel (S := Int) (fun u => [(1, .ptr 1 0 0), (3, .int .i64 u)]) (fun u => [(1, .box 30 (enc_Plan p))]) (s_greenbeltlaw17_few_L1 p) (fun _ => rfl) KK 0 hs (cut_of [1, 3] [1] kr kr kr) (fun K1 q1 hs => ?_)
  rw [s_greenbeltlaw17_few_L1] at hs
  show WpV cK0 Try.prog none 59 _ _ [(1, .ptr 1 0 0), (3, .int .i64 q1)] [(1, .box 30 (enc_Plan p))] []
  refine vS (vS ?_)
  obtain ⟨z2, hs, hk2⟩ := bS hs
  refine v_join (S := Bool) (fun u => u = z2) (fun u => [(1, .ptr 1 0 0), (3, .int .i64 q1), (13, .bool u)]) (fun u => [(1, .box 30 (enc_Plan p))]) ?_ (fun v2 hz => ?_)
  ·refine vT (oR 3 [(7, .vs 6 (mM enc_Def p.Defs)), (6, .ptr 1 0 0), (5, .int .i64 q1)] kr ?_)
   refine oP (v := .int .i64 (List.length p.Defs : Int)) kr kr (loc_lenVs (sz := 6) (els := (mM enc_Def p.Defs)) kr kr (List.length_map ..)) ?_
   refine oR 2 [(10, .bool (decide (q1 < (List.length p.Defs : Int)))), (9, .bool (decide (q1 < (List.length p.Defs : Int))))] kr ?_
   cases h1 : ((decide (q1 < (List.length p.Defs : Int))))
   ·replace hs := bif_f h1 hs
    refine oR 3 [(13, .bool false), (12, .no), (11, .no)] kr ?_
    refine oN ?_
    obtain rfl := si hs
    refine nrm_join false rfl ?_
    exact cut_of [1, 3, 13] [1] kr kr kr
   ·replace hs := bif_t h1 hs
    refine oR 3 [(13, .bool (decide (q1 < 13))), (12, .bool (decide (q1 < 13))), (11, .int .i64 q1)] kr ?_
    refine oN ?_
    obtain rfl := si hs
    refine nrm_join (decide (q1 < 13)) rfl ?_
    exact cut_of [1, 3, 13] [1] kr kr kr
  ·subst hz; clear hs; have hs := hk2; clear hk2
   refine nT ?_
   refine v_cond v2 kr (fun h2 => ?_) (fun h2 => ?_)
   ·replace hs := bif_t h2 hs
    refine vK (nT (vS (vB (vS (vT (oR 3 [(18, .int .i64 q1), (17, .vs 6 (mM enc_Def p.Defs)), (16, .ptr 1 0 0)] kr ?_))))))
    obtain ⟨x1, g1, hs⟩ := bS hs; obtain ⟨g1a, g1b, g1c⟩ := idx_some g1
    refine oP (v := .vp (enc_Def x1) 0) kr kr (loc_indexVs (e := 46) (sz := 6) (k := .i64) (els := (mM enc_Def p.Defs)) (cs := (enc_Def x1)) kr kr kr g1a (by rw [g1c]; exact map_get _ (by omega))) ?_
    refine oR 2 [(21, .agg (enc_Expr x1.Body)), (20, .vp (enc_Def x1) 1)] kr ?_
    obtain ⟨y1, c1, hs⟩ := bS hs
    refine oP (v := .bool y1) kr kr (loc_gcall0 (callV_func hbv28 kr) (w_greenbeltlaw17_light x1.Body _ c1) kr) ?_
    refine oR 1 [(23, .bool (!y1))] kr ?_
    refine oN (nT ?_)
    refine v_cond (!y1) kr (fun h3 => ?_) (fun h3 => ?_)
    ·replace hs := bif_t h3 hs
     refine vS (vT (oR 1 [(2, .bool false)] kr ?_))
     refine oN (nT (v_ret (rB (rT (ret_fuel ?_)))))
     refine rB (ret_join ?_)
     refine rT ?_
     obtain rfl := si hs
     replace hs := hk1
     obtain rfl := si hs
     exact fin_ret kr kr kr
    ·replace hs := bif_f h3 hs
     refine vK (nB (nT (vT (oR 3 [(3, .int .i64 (w64 (q1 + 1))), (15, .int .i64 (w64 (q1 + 1))), (14, .int .i64 q1)] kr ?_))))
     refine oN (nrm_fuel (w64 (q1 + 1)) hs ?_)
     exact cut_of [1, 3] [1] kr kr kr
   ·replace hs := bif_f h2 hs
    refine v_exit (exit_thenV (exit_fuel ?_))
    refine exit_blkV ?_
    obtain rfl := si hs
    refine nrm_join () rfl ?_
    exact cut_of [1] [1] kr kr kr
 ·subst hz; clear hs; have hs := hk1; clear hk1
  refine nT (vS (vS (vT (oR 1 [(4, .int .i64 0)] kr ?_))))
  refine oN (nT ?_)
  obtain ⟨z3, hs, hk3⟩ := bS hs
  refine v_join (S := Unit) (fun u => z3 = .inr u) (fun u => [(1, .ptr 1 0 0)]) (fun u => [(1, .box 30 (enc_Plan p))]) ?_ (fun v3 hz => ?_)
  ·refine vB ?_
   refine v_fuel (S := Int) (fun u => [(1, .ptr 1 0 0), (4, .int .i64 u)]) (fun u => [(1, .box 30 (enc_Plan p))]) (s_greenbeltlaw17_few_L2 p) (fun _ => rfl) KK 0 hs (cut_of [1, 4] [1] kr kr kr) (fun K2 q2 hs => ?_)
   rw [s_greenbeltlaw17_few_L2] at hs
   show WpV cK0 Try.prog none 59 _ _ [(1, .ptr 1 0 0), (4, .int .i64 q2)] [(1, .box 30 (enc_Plan p))] []
   refine vS (vS ?_)
   obtain ⟨z4, hs, hk4⟩ := bS hs
   refine v_join (S := Bool) (fun u => u = z4) (fun u => [(1, .ptr 1 0 0), (4, .int .i64 q2), (32, .bool u)]) (fun u => [(1, .box 30 (enc_Plan p))]) ?_ (fun v4 hz => ?_)
   ·refine vT (oR 3 [(26, .vs 3 (mM enc_Table p.Tables)), (25, .ptr 1 0 1), (24, .int .i64 q2)] kr ?_)
    refine oP (v := .int .i64 (List.length p.Tables : Int)) kr kr (loc_lenVs (sz := 3) (els := (mM enc_Table p.Tables)) kr kr (List.length_map ..)) ?_
    refine oR 2 [(29, .bool (decide (q2 < (List.length p.Tables : Int)))), (28, .bool (decide (q2 < (List.length p.Tables : Int))))] kr ?_
    cases h4 : ((decide (q2 < (List.length p.Tables : Int))))
    ·replace hs := bif_f h4 hs
     refine oR 3 [(32, .bool false), (31, .no), (30, .no)] kr ?_
     refine oN ?_
     obtain rfl := si hs
     refine nrm_join false rfl ?_
     exact cut_of [1, 4, 32] [1] kr kr kr
    ·replace hs := bif_t h4 hs
     refine oR 3 [(32, .bool (decide (q2 < 6))), (31, .bool (decide (q2 < 6))), (30, .int .i64 q2)] kr ?_
     refine oN ?_
     obtain rfl := si hs
     refine nrm_join (decide (q2 < 6)) rfl ?_
     exact cut_of [1, 4, 32] [1] kr kr kr
   ·subst hz; clear hs; have hs := hk4; clear hk4
    refine nT ?_
    refine v_cond v4 kr (fun h5 => ?_) (fun h5 => ?_)
    ·replace hs := bif_t h5 hs
     refine vK (nT (vS (vB (vS (vT (oR 3 [(37, .int .i64 q2), (36, .vs 3 (mM enc_Table p.Tables)), (35, .ptr 1 0 1)] kr ?_))))))
     obtain ⟨x2, g2, hs⟩ := bS hs; obtain ⟨g2a, g2b, g2c⟩ := idx_some g2
     refine oP (v := .vp (enc_Table x2) 0) kr kr (loc_indexVs (e := 90) (sz := 3) (k := .i64) (els := (mM enc_Table p.Tables)) (cs := (enc_Table x2)) kr kr kr g2a (by rw [g2c]; exact map_get _ (by omega))) ?_
     refine oR 2 [(40, .vs 2 (mM enc_Entry x2.Rows)), (39, .vp (enc_Table x2) 1)] kr ?_
     refine oP (v := .int .i64 (List.length x2.Rows : Int)) kr kr (loc_lenVs (sz := 2) (els := (mM enc_Entry x2.Rows)) kr kr (List.length_map ..)) ?_
     refine oR 1 [(42, .bool (decide ((List.length x2.Rows : Int) > 10)))] kr ?_
     refine oN (nT ?_)
     refine v_cond (decide ((List.length x2.Rows : Int) > 10)) kr (fun h6 => ?_) (fun h6 => ?_)
     ·replace hs := bif_t h6 hs
      refine vS (vT (oR 1 [(2, .bool false)] kr ?_))
      refine oN (nT (v_ret (rB (rT (ret_fuel ?_)))))
      refine rB (ret_join ?_)
      refine rT ?_
      obtain rfl := si hs
      replace hs := hk3
      obtain rfl := si hs
      exact fin_ret kr kr kr
     ·replace hs := bif_f h6 hs
      refine vK (nB (nT (vT (oR 3 [(4, .int .i64 (w64 (q2 + 1))), (34, .int .i64 (w64 (q2 + 1))), (33, .int .i64 q2)] kr ?_))))
      refine oN (nrm_fuel (w64 (q2 + 1)) hs ?_)
      exact cut_of [1, 4] [1] kr kr kr
    ·replace hs := bif_f h5 hs
     refine v_exit (exit_thenV (exit_fuel ?_))
     refine exit_blkV ?_
     obtain rfl := si hs
     refine nrm_join () rfl ?_
     exact cut_of [1] [1] kr kr kr
  ·subst hz; clear hs; have hs := hk3; clear hk3
   refine nT (vS ?_)
   obtain ⟨z5, hs, hk5⟩ := bS hs
   refine v_join (S := Bool) (fun u => u = z5) (fun u => [(2, .bool u)]) (fun u => []) ?_ (fun v5 hz => ?_)
   ·refine vT (oR 2 [(44, .vs 6 (mM enc_Def p.Defs)), (43, .ptr 1 0 0)] kr ?_)
    refine oP (v := .int .i64 (List.length p.Defs : Int)) kr kr (loc_lenVs (sz := 6) (els := (mM enc_Def p.Defs)) kr kr (List.length_map ..)) ?_
    refine oR 2 [(47, .bool (decide ((List.length p.Defs : Int) ≤ 12))), (46, .bool (decide ((List.length p.Defs : Int) ≤ 12)))] kr ?_
    cases h7 : ((decide ((List.length p.Defs : Int) ≤ 12)))
    ·replace hs := bif_f h7 hs
     refine oR 12 [(2, .bool false), (58, .bool false), (57, .no), (56, .no), (55, .no), (54, .no), (53, .bool false), (52, .bool false), (51, .no), (50, .no), (49, .no), (48, .no)] kr ?_
     refine oN ?_
     obtain rfl := si hs
     refine nrm_join false rfl ?_
     exact cut_of [2] [] kr kr kr
    ·replace hs := bif_t h7 hs
     refine oR 2 [(49, .vs 3 (mM enc_Table p.Tables)), (48, .ptr 1 0 1)] kr ?_
     refine oP (v := .int .i64 (List.length p.Tables : Int)) kr kr (loc_lenVs (sz := 3) (els := (mM enc_Table p.Tables)) kr kr (List.length_map ..)) ?_
     refine oR 3 [(53, .bool (decide ((List.length p.Tables : Int) ≤ 5))), (52, .bool (decide ((List.length p.Tables : Int) ≤ 5))), (51, .bool (decide ((List.length p.Tables : Int) ≤ 5)))] kr ?_
     cases h8 : ((decide ((List.length p.Tables : Int) ≤ 5)))
     ·replace hs := bif_f h8 hs
      refine oR 6 [(2, .bool false), (58, .bool false), (57, .no), (56, .no), (55, .no), (54, .no)] kr ?_
      refine oN ?_
      obtain rfl := si hs
      refine nrm_join false rfl ?_
      exact cut_of [2] [] kr kr kr
     ·replace hs := bif_t h8 hs
      refine oR 2 [(55, .vs 3 (mM enc_Zone p.Zones)), (54, .ptr 1 0 2)] kr ?_
      refine oP (v := .int .i64 (List.length p.Zones : Int)) kr kr (loc_lenVs (sz := 3) (els := (mM enc_Zone p.Zones)) kr kr (List.length_map ..)) ?_
      refine oR 3 [(2, .bool (decide ((List.length p.Zones : Int) ≤ 10))), (58, .bool (decide ((List.length p.Zones : Int) ≤ 10))), (57, .bool (decide ((List.length p.Zones : Int) ≤ 10)))] kr ?_
      refine oN ?_
      obtain rfl := si hs
      refine nrm_join (decide ((List.length p.Zones : Int) ≤ 10)) rfl ?_
      exact cut_of [2] [] kr kr kr
   ·subst hz; clear hs; have hs := hk5; clear hk5
    refine nT (v_ret ?_)
    obtain rfl := si hs
    exact fin_ret kr kr kr
theorem w_greenbeltref16_Measures  (r : (List (List UInt8))) (hs : s_greenbeltref16_Measures  = some r) : FnA Try.prog 16 [] [] (.vs 1 (mS r)) [] := by
 refine fnA_of_wp (N := 2) Try.func16 rfl rfl rfl fun cK0 => ?_
 unfold s_greenbeltref16_Measures at hs
 refine v_same (ρ' := []) rfl rfl ?_
 refine vS (vT (oR 1 [(0, .nils)] kr ?_))
 refine oN (nT (vS (vT (o_runh 2 [(0, .sl 1 1 9 0 9), (1, .sl 1 1 9 0 9)] [(1, .row 9 1 0 (mS [([97, 114, 101, 97] : List UInt8), ([99, 111, 118, 101, 114] : List UInt8), ([102, 108, 111, 111, 114] : List UInt8), ([102, 108, 111, 111, 114, 115] : List UInt8), ([104, 101, 105, 103, 104, 116] : List UInt8), ([104, 111, 109, 101, 115] : List UInt8), ([114, 117, 110, 111, 102, 102] : List UInt8), ([115, 101, 116, 98, 97, 99, 107] : List UInt8), ([116, 114, 97, 102, 102, 105, 99] : List UInt8)]))] kr ?_))))
 refine oN (nT (v_to _ [(1, .row 9 1 (((mS [([97, 114, 101, 97] : List UInt8), ([99, 111, 118, 101, 114] : List UInt8), ([102, 108, 111, 111, 114] : List UInt8), ([102, 108, 111, 111, 114, 115] : List UInt8), ([104, 101, 105, 103, 104, 116] : List UInt8), ([104, 111, 109, 101, 115] : List UInt8), ([114, 117, 110, 111, 102, 102] : List UInt8), ([115, 101, 116, 98, 97, 99, 107] : List UInt8), ([116, 114, 97, 102, 102, 105, 99] : List UInt8)])).length) (mS [([97, 114, 101, 97] : List UInt8), ([99, 111, 118, 101, 114] : List UInt8), ([102, 108, 111, 111, 114] : List UInt8), ([102, 108, 111, 111, 114, 115] : List UInt8), ([104, 101, 105, 103, 104, 116] : List UInt8), ([104, 111, 109, 101, 115] : List UInt8), ([114, 117, 110, 111, 102, 102] : List UInt8), ([115, 101, 116, 98, 97, 99, 107] : List UInt8), ([116, 114, 97, 102, 102, 105, 99] : List UInt8)]))] (cut_freeze (F := [(1, .row 9 1 0 (mS [([97, 114, 101, 97] : List UInt8), ([99, 111, 118, 101, 114] : List UInt8), ([102, 108, 111, 111, 114] : List UInt8), ([102, 108, 111, 111, 114, 115] : List UInt8), ([104, 101, 105, 103, 104, 116] : List UInt8), ([104, 111, 109, 101, 115] : List UInt8), ([114, 117, 110, 111, 102, 102] : List UInt8), ([115, 101, 116, 98, 97, 99, 107] : List UInt8), ([116, 114, 97, 102, 102, 105, 99] : List UInt8)]))]) [1] rfl kr kr) ?_))
 refine v_to ((0, .vs 1 (mS [([97, 114, 101, 97] : List UInt8), ([99, 111, 118, 101, 114] : List UInt8), ([102, 108, 111, 111, 114] : List UInt8), ([102, 108, 111, 111, 114, 115] : List UInt8), ([104, 101, 105, 103, 104, 116] : List UInt8), ([104, 111, 109, 101, 115] : List UInt8), ([114, 117, 110, 111, 102, 102] : List UInt8), ([115, 101, 116, 98, 97, 99, 107] : List UInt8), ([116, 114, 97, 102, 102, 105, 99] : List UInt8)])) :: _) _ (cut_view (R := [(1, .row 9 1 (((mS [([97, 114, 101, 97] : List UInt8), ([99, 111, 118, 101, 114] : List UInt8), ([102, 108, 111, 111, 114] : List UInt8), ([102, 108, 111, 111, 114, 115] : List UInt8), ([104, 101, 105, 103, 104, 116] : List UInt8), ([104, 111, 109, 101, 115] : List UInt8), ([114, 117, 110, 111, 102, 102] : List UInt8), ([115, 101, 116, 98, 97, 99, 107] : List UInt8), ([116, 114, 97, 102, 102, 105, 99] : List UInt8)])).length) (mS [([97, 114, 101, 97] : List UInt8), ([99, 111, 118, 101, 114] : List UInt8), ([102, 108, 111, 111, 114] : List UInt8), ([102, 108, 111, 111, 114, 115] : List UInt8), ([104, 101, 105, 103, 104, 116] : List UInt8), ([104, 111, 109, 101, 115] : List UInt8), ([114, 117, 110, 111, 102, 102] : List UInt8), ([115, 101, 116, 98, 97, 99, 107] : List UInt8), ([116, 114, 97, 102, 102, 105, 99] : List UInt8)]))]) (ks := [1]) kr kr (.row (t := 9) (fz := (((mS [([97, 114, 101, 97] : List UInt8), ([99, 111, 118, 101, 114] : List UInt8), ([102, 108, 111, 111, 114] : List UInt8), ([102, 108, 111, 111, 114, 115] : List UInt8), ([104, 101, 105, 103, 104, 116] : List UInt8), ([104, 111, 109, 101, 115] : List UInt8), ([114, 117, 110, 111, 102, 102] : List UInt8), ([115, 101, 116, 98, 97, 99, 107] : List UInt8), ([116, 114, 97, 102, 102, 105, 99] : List UInt8)])).length)) kr (by first | (simp only [List.length_map, List.length_set, cpyT_length]; done) | rfl))) ?_
 refine v_ret ?_
 obtain rfl := si hs
 exact fin_ret kr kr kr
theorem w_greenbeltref16_Has (l : (List (List UInt8))) (s : (List UInt8)) (r : Bool) (hs : s_greenbeltref16_Has l s = some r) : FnA Try.prog 46 [.vs 1 (mS l), .str s] [] (.bool r) [] := by
 refine fnA_of_wp (N := 18) Try.func46 rfl rfl rfl fun cK0 => ?_
 unfold s_greenbeltref16_Has at hs
 refine v_same (ρ' := [(0, .vs 1 (mS l)), (1, .str s)]) rfl rfl ?_
 refine vS (vT (oR 1 [(4, .bool false)] kr ?_))
 refine oN (nT (vS (vS (vT (oR 1 [(5, .int .i64 0)] kr ?_)))))
 refine oN (nT ?_)
 obtain ⟨z1, hs, hk1⟩ := bS hs
 refine v_join (S := Unit) (fun u => z1 = .inr u) (fun u => []) (fun u => []) ?_ (fun v1 hz => ?_)
 ·refine vB ?_
  refine v_fuel (S := Int) (fun u => [(0, .vs 1 (mS l)), (1, .str s), (5, .int .i64 u)]) (fun u => []) (s_greenbeltref16_Has_L1 l s) (fun _ => rfl) KK 0 hs (cut_of [0, 1, 5] [] kr kr kr) (fun K1 q1 hs => ?_)
  rw [s_greenbeltref16_Has_L1] at hs
  show WpV cK0 Try.prog none 18 _ _ [(0, .vs 1 (mS l)), (1, .str s), (5, .int .i64 q1)] [] []
  refine vS (vS (vT (oR 2 [(7, .vs 1 (mS l)), (6, .int .i64 q1)] kr ?_)))
  refine oP (v := .int .i64 (List.length l : Int)) kr kr (loc_lenVs (sz := 1) (els := (mS l)) kr kr (List.length_map ..)) ?_
  refine oR 1 [(9, .bool (decide (q1 < (List.length l : Int))))] kr ?_
  refine oN (nT ?_)
  refine v_cond (decide (q1 < (List.length l : Int))) kr (fun h1 => ?_) (fun h1 => ?_)
  ·replace hs := bif_t h1 hs
   refine vK (nT (vS (vB (vS (vT (oR 2 [(13, .int .i64 q1), (12, .vs 1 (mS l))] kr ?_))))))
   obtain ⟨x1, g1, hs⟩ := bS hs; obtain ⟨g1a, g1b, g1c⟩ := idx_some g1
   refine oP (v := .vp [.str x1] 0) kr kr (loc_indexVs (e := 9) (sz := 1) (k := .i64) (els := (mS l)) (cs := (EV.encS x1)) kr kr kr g1a (by rw [g1c]; exact map_get _ (by omega))) ?_
   refine oR 3 [(17, .bool (decide (x1 = s))), (16, .str s), (15, .str x1)] kr ?_
   refine oN (nT ?_)
   refine v_cond (decide (x1 = s)) kr (fun h2 => ?_) (fun h2 => ?_)
   ·replace hs := bif_t h2 hs
    refine vS (vT (oR 1 [(4, .bool true)] kr ?_))
    refine oN (nT (v_ret (rB (rT (ret_fuel ?_)))))
    refine rB (ret_join ?_)
    refine rT ?_
    obtain rfl := si hs
    replace hs := hk1
    obtain rfl := si hs
    exact fin_ret kr kr kr
   ·replace hs := bif_f h2 hs
    refine vK (nB (nT (vT (oR 3 [(5, .int .i64 (w64 (q1 + 1))), (11, .int .i64 (w64 (q1 + 1))), (10, .int .i64 q1)] kr ?_))))
    refine oN (nrm_fuel (w64 (q1 + 1)) hs ?_)
    exact cut_of [0, 1, 5] [] kr kr kr
  ·replace hs := bif_f h1 hs
   refine v_exit (exit_thenV (exit_fuel ?_))
   refine exit_blkV ?_
   obtain rfl := si hs
   refine nrm_join () rfl ?_
   exact cut_of [] [] kr kr kr
 ·subst hz; clear hs; have hs := hk1; clear hk1
  refine nT (vS (vT (oR 1 [(4, .bool false)] kr ?_)))
  refine oN (nT (v_ret ?_))
  obtain rfl := si hs
  exact fin_ret kr kr kr
theorem w_greenbeltref16_twice (p : Plan) (r : Bool) (hs : s_greenbeltref16_twice p = some r) : FnA Try.prog 38 [.agg (enc_Plan p)] [] (.bool r) [] := by
 refine fnA_of_wp (N := 38) Try.func38 rfl rfl rfl fun cK0 => ?_
 unfold s_greenbeltref16_twice at hs
 refine v_same (ρ' := [(0, .agg (enc_Plan p))]) rfl rfl ?_
 refine vS (vT (o_runh 2 [(2, .bool false), (1, .ptr 1 0 0)] [(1, .box 30 (enc_Plan p))] kr ?_))
 refine oN (nT (vS (vS (vT (oR 1 [(3, .int .i64 0)] kr ?_)))))
 refine oN (nT ?_)
 obtain ⟨z1, hs, hk1⟩ := bS hs
 refine v_join (S := Unit) (fun u => z1 = .inr u) (fun u => []) (fun u => []) ?_ (fun v1 hz => ?_)
 ·refine vB ?_
  refine v_fuel (S := Int) (fun u => [(1, .ptr 1 0 0), (3, .int .i64 u)]) (fun u => [(1, .box 30 (enc_Plan p))]) (s_greenbeltref16_twice_L1 p) (fun _ => rfl) KK 0 hs (cut_of [1, 3] [1] kr kr kr) (fun K1 q1 hs => ?_)
  rw [s_greenbeltref16_twice_L1] at hs
  show WpV cK0 Try.prog none 38 _ _ [(1, .ptr 1 0 0), (3, .int .i64 q1)] [(1, .box 30 (enc_Plan p))] []
  refine vS (vS (vT (oR 3 [(7, .vs 6 (mM enc_Def p.Defs)), (6, .ptr 1 0 0), (5, .int .i64 q1)] kr ?_)))
  refine oP (v := .int .i64 (List.length p.Defs : Int)) kr kr (loc_lenVs (sz := 6) (els := (mM enc_Def p.Defs)) kr kr (List.length_map ..)) ?_
  refine oR 1 [(9, .bool (decide (q1 < (List.length p.Defs : Int))))] kr ?_
  refine oN (nT ?_)
  refine v_cond (decide (q1 < (List.length p.Defs : Int))) kr (fun h1 => ?_) (fun h1 => ?_)
  ·replace hs := bif_t h1 hs
   refine vK (nT (vS (vB (vS (vS (vT (oR 1 [(4, .int .i64 0)] kr ?_)))))))
   refine oN (nT ?_)
   obtain ⟨z2, hs, hk2⟩ := bS hs
   refine v_join (S := Unit) (fun u => z2 = .inr u) (fun u => [(1, .ptr 1 0 0), (3, .int .i64 q1)]) (fun u => [(1, .box 30 (enc_Plan p))]) ?_ (fun v2 hz => ?_)
   ·refine vB ?_
    refine v_fuel (S := Int) (fun u => [(1, .ptr 1 0 0), (3, .int .i64 q1), (4, .int .i64 u)]) (fun u => [(1, .box 30 (enc_Plan p))]) (s_greenbeltref16_twice_L2 p q1) (fun _ => rfl) KK 0 hs (cut_of [1, 3, 4] [1] kr kr kr) (fun K2 q2 hs => ?_)
    rw [s_greenbeltref16_twice_L2] at hs
    show WpV cK0 Try.prog none 38 _ _ [(1, .ptr 1 0 0), (3, .int .i64 q1), (4, .int .i64 q2)] [(1, .box 30 (enc_Plan p))] []
    refine vS (vS (vT (oR 3 [(14, .bool (decide (q2 < q1))), (13, .int .i64 q1), (12, .int .i64 q2)] kr ?_)))
    refine oN (nT ?_)
    refine v_cond (decide (q2 < q1)) kr (fun h2 => ?_) (fun h2 => ?_)
    ·replace hs := bif_t h2 hs
     refine vK (nT (vS (vB (vS (v_draw mixedH kr ?_)))))
     refine d_runs 3 0 [(19, .int .i64 q2), (18, .vs 6 (mM enc_Def p.Defs)), (17, .ptr 1 0 0)] [⟨2, [], []⟩, ⟨1, [], [1]⟩, ⟨0, [], []⟩] kr kr ?_
     obtain ⟨x1, g1, hs⟩ := bS hs; obtain ⟨g1a, g1b, g1c⟩ := idx_some g1
     refine d_pure (v := .vp (enc_Def x1) 0) 3 rfl rfl rfl rfl kr kr (loc_indexVs (e := 46) (sz := 6) (k := .i64) (els := (mM enc_Def p.Defs)) (cs := (enc_Def x1)) kr kr kr g1a (by rw [g1c]; exact map_get _ (by omega))) ?_
     refine d_runs 5 4 [(25, .int .i64 q1), (24, .vs 6 (mM enc_Def p.Defs)), (23, .ptr 1 0 0), (22, .str x1.Name), (21, .vp (enc_Def x1) 0)] [⟨8, [], []⟩, ⟨7, [], [1]⟩, ⟨6, [], []⟩, ⟨5, [], []⟩, ⟨4, [], []⟩] kr kr ?_
     obtain ⟨x2, g2, hs⟩ := bS hs; obtain ⟨g2a, g2b, g2c⟩ := idx_some g2
     refine d_pure (v := .vp (enc_Def x2) 0) 9 rfl rfl rfl rfl kr kr (loc_indexVs (e := 46) (sz := 6) (k := .i64) (els := (mM enc_Def p.Defs)) (cs := (enc_Def x2)) kr kr kr g2a (by rw [g2c]; exact map_get _ (by omega))) ?_
     refine d_runs 3 10 [(29, .bool (decide (x1.Name = x2.Name))), (28, .str x2.Name), (27, .vp (enc_Def x2) 0)] (pfp 3 12) kr kr ?_
     refine d_nil kr ?_
     refine nT ?_
     refine v_cond (decide (x1.Name = x2.Name)) kr (fun h3 => ?_) (fun h3 => ?_)
     ·replace hs := bif_t h3 hs
      refine vS (vT (oR 1 [(2, .bool true)] kr ?_))
      refine oN (nT (v_ret (rB (rT (ret_fuel ?_)))))
      refine rB (ret_join ?_)
      refine rT (rB (rT (ret_fuel ?_)))
      refine rB (ret_join ?_)
      refine rT ?_
      obtain rfl := si hs
      replace hs := hk2
      obtain rfl := si hs
      replace hs := hk1
      obtain rfl := si hs
      exact fin_ret kr kr kr
     ·replace hs := bif_f h3 hs
      refine vK (nB (nT (vT (oR 3 [(4, .int .i64 (w64 (q2 + 1))), (16, .int .i64 (w64 (q2 + 1))), (15, .int .i64 q2)] kr ?_))))
      refine oN (nrm_fuel (w64 (q2 + 1)) hs ?_)
      exact cut_of [1, 3, 4] [1] kr kr kr
    ·replace hs := bif_f h2 hs
     refine v_exit (exit_thenV (exit_fuel ?_))
     refine exit_blkV ?_
     obtain rfl := si hs
     refine nrm_join () rfl ?_
     exact cut_of [1, 3] [1] kr kr kr
   ·subst hz; clear hs; have hs := hk2; clear hk2
    refine nT (vS (v_draw mixedH kr ?_))
    obtain ⟨y1, c1, hs⟩ := bS hs
    refine d_pure (v := .vs 1 (mS y1)) 0 rfl rfl rfl rfl kr kr (loc_gcall0 (callV_func hbv16 kr) (w_greenbeltref16_Measures  _ c1) kr) ?_
    refine d_runs 3 1 [(33, .int .i64 q1), (32, .vs 6 (mM enc_Def p.Defs)), (31, .ptr 1 0 0)] [⟨3, [], []⟩, ⟨2, [], [1]⟩, ⟨1, [], []⟩] kr kr ?_
    obtain ⟨x3, g3, hs⟩ := bS hs; obtain ⟨g3a, g3b, g3c⟩ := idx_some g3
    refine d_pure (v := .vp (enc_Def x3) 0) 4 rfl rfl rfl rfl kr kr (loc_indexVs (e := 46) (sz := 6) (k := .i64) (els := (mM enc_Def p.Defs)) (cs := (enc_Def x3)) kr kr kr g3a (by rw [g3c]; exact map_get _ (by omega))) ?_
    refine d_runs 2 5 [(36, .str x3.Name), (35, .vp (enc_Def x3) 0)] (pfp 2 6) kr kr ?_
    obtain ⟨y2, c2, hs⟩ := bS hs
    refine d_pure (v := .bool y2) 7 rfl rfl rfl rfl kr kr (loc_gcall0 (callV_func hbv46 kr) (w_greenbeltref16_Has y1 x3.Name _ c2) kr) ?_
    refine d_nil kr ?_
    refine nT ?_
    refine v_cond y2 kr (fun h4 => ?_) (fun h4 => ?_)
    ·replace hs := bif_t h4 hs
     refine vS (vT (oR 1 [(2, .bool true)] kr ?_))
     refine oN (nT (v_ret (rB (rT (ret_fuel ?_)))))
     refine rB (ret_join ?_)
     refine rT ?_
     obtain rfl := si hs
     replace hs := hk1
     obtain rfl := si hs
     exact fin_ret kr kr kr
    ·replace hs := bif_f h4 hs
     refine vK (nB (nT (vT (oR 3 [(3, .int .i64 (w64 (q1 + 1))), (11, .int .i64 (w64 (q1 + 1))), (10, .int .i64 q1)] kr ?_))))
     refine oN (nrm_fuel (w64 (q1 + 1)) hs ?_)
     exact cut_of [1, 3] [1] kr kr kr
  ·replace hs := bif_f h1 hs
   refine v_exit (exit_thenV (exit_fuel ?_))
   refine exit_blkV ?_
   obtain rfl := si hs
   refine nrm_join () rfl ?_
   exact cut_of [] [] kr kr kr
 ·subst hz; clear hs; have hs := hk1; clear hk1
  refine nT (vS (vT (oR 1 [(2, .bool false)] kr ?_)))
  refine oN (nT (v_ret ?_))
  obtain rfl := si hs
  exact fin_ret kr kr kr
theorem w_greenbeltref16_With (l : (List (List UInt8))) (s : (List UInt8)) (r : (List (List UInt8))) (hs : s_greenbeltref16_With l s = some r) : FnA Try.prog 45 [.vs 1 (mS l), .str s] [] (.vs 1 (mS r)) [] := by
 refine fnA_of_wp (N := 38) Try.func45 rfl rfl rfl fun cK0 => ?_
 unfold s_greenbeltref16_With at hs
 refine v_same (ρ' := [(0, .vs 1 (mS l)), (1, .str s)]) rfl rfl ?_
 refine vS (vT (oR 1 [(4, .nils)] kr ?_))
 refine oN (nT (vS (vS (vT (oR 2 [(8, .str s), (7, .vs 1 (mS l))] kr ?_)))))
 obtain ⟨y1, c1, hs⟩ := bS hs
 refine oP (v := .bool y1) kr kr (loc_gcall0 (callV_func hbv46 kr) (w_greenbeltref16_Has l s _ c1) kr) ?_
 refine oN (nT ?_)
 refine v_cond y1 kr (fun h1 => ?_) (fun h1 => ?_)
 ·replace hs := bif_t h1 hs
  refine vS (vT (oR 2 [(4, .vs 1 (mS l)), (10, .vs 1 (mS l))] kr ?_))
  refine oN (nT (v_ret (rT ?_)))
  obtain rfl := si hs
  exact fin_ret kr kr kr
 ·replace hs := bif_f h1 hs
  refine vK (nT (vS (vT (oR 1 [(5, .int .i64 0)] kr ?_))))
  refine oN (nT (vS ?_))
  obtain ⟨z1, hs, hk1⟩ := bS hs
  refine v_join (S := Int) (fun u => u = z1) (fun u => [(0, .vs 1 (mS l)), (1, .str s), (5, .int .i64 u)]) (fun u => []) ?_ (fun v1 hz => ?_)
  ·refine vB ?_
   refine v_fuel (S := Int) (fun u => [(0, .vs 1 (mS l)), (1, .str s), (5, .int .i64 u)]) (fun u => []) (s_greenbeltref16_With_L1 l s) (fun _ => rfl) KK 0 hs (cut_of [0, 1, 5] [] kr kr kr) (fun K1 q1 hs => ?_)
   rw [s_greenbeltref16_With_L1] at hs
   show WpV cK0 Try.prog none 38 _ _ [(0, .vs 1 (mS l)), (1, .str s), (5, .int .i64 q1)] [] []
   refine vS (vS ?_)
   obtain ⟨z2, hs, hk2⟩ := bS hs
   refine v_join (S := Bool) (fun u => u = z2) (fun u => [(0, .vs 1 (mS l)), (1, .str s), (5, .int .i64 q1), (22, .bool u)]) (fun u => []) ?_ (fun v2 hz => ?_)
   ·refine vT (oR 2 [(12, .vs 1 (mS l)), (11, .int .i64 q1)] kr ?_)
    refine oP (v := .int .i64 (List.length l : Int)) kr kr (loc_lenVs (sz := 1) (els := (mS l)) kr kr (List.length_map ..)) ?_
    refine oR 2 [(15, .bool (decide (q1 < (List.length l : Int)))), (14, .bool (decide (q1 < (List.length l : Int))))] kr ?_
    cases h2 : ((decide (q1 < (List.length l : Int))))
    ·replace hs := bif_f h2 hs
     refine oR 7 [(22, .bool false), (21, .no), (20, .no), (19, .no), (18, .no), (17, .no), (16, .no)] kr ?_
     refine oN ?_
     obtain rfl := si hs
     refine nrm_join false rfl ?_
     exact cut_of [0, 1, 5, 22] [] kr kr kr
    ·replace hs := bif_t h2 hs
     refine oR 2 [(17, .int .i64 q1), (16, .vs 1 (mS l))] kr ?_
     obtain ⟨x1, g1, hs⟩ := bS hs; obtain ⟨g1a, g1b, g1c⟩ := idx_some g1
     refine oP (v := .vp [.str x1] 0) kr kr (loc_indexVs (e := 9) (sz := 1) (k := .i64) (els := (mS l)) (cs := (EV.encS x1)) kr kr kr g1a (by rw [g1c]; exact map_get _ (by omega))) ?_
     refine oR 4 [(22, .bool (Op.bytesLess x1 s)), (21, .bool (Op.bytesLess x1 s)), (20, .str s), (19, .str x1)] kr ?_
     refine oN ?_
     obtain rfl := si hs
     refine nrm_join (Op.bytesLess x1 s) rfl ?_
     exact cut_of [0, 1, 5, 22] [] kr kr kr
   ·subst hz; clear hs; have hs := hk2; clear hk2
    refine nT ?_
    refine v_cond v2 kr (fun h3 => ?_) (fun h3 => ?_)
    ·replace hs := bif_t h3 hs
     refine vK (nT (vB (vT (oR 3 [(5, .int .i64 (w64 (q1 + 1))), (24, .int .i64 (w64 (q1 + 1))), (23, .int .i64 q1)] kr ?_))))
     refine oN (nB (nrm_fuel (w64 (q1 + 1)) hs ?_))
     exact cut_of [0, 1, 5] [] kr kr kr
    ·replace hs := bif_f h3 hs
     refine v_exit (exit_thenV (exit_fuel ?_))
     refine exit_blkV ?_
     obtain rfl := si hs
     refine nrm_join q1 rfl ?_
     exact cut_of [0, 1, 5] [] kr kr kr
  ·subst hz; clear hs; have hs := hk1; clear hk1
   refine nT (vS (vT (oR 1 [(6, .nils)] kr ?_)))
   refine oN (nT (vS (v_to _ _ (cut_nilRow 6 2000006 9 1 rfl kr kr) ?_)))
   refine v_draw mixedH kr ?_
   refine d_runs 3 0 [(27, .int .i64 v1), (26, .vs 1 (mS l)), (25, .sl 1 2000006 0 0 0)] (pfp 3 2) kr kr ?_
   obtain ⟨x2, g2, hs⟩ := bS hs; obtain ⟨g2a, g2b, g2c, g2d⟩ := cut_some g2
   refine d_pure (v := .vs 1 (List.map EV.encS x2)) 3 rfl rfl rfl rfl kr kr (loc_sliceVsT (e := 9) (sz := 1) (l := 0) (h := v1) (els := (List.map EV.encS l)) kr kr rfl ⟨.i64, by kernel_rfl⟩ g2a g2b (by simpa only [List.length_map] using g2c) (by rw [g2d, List.map_drop, List.map_take])) ?_
   obtain ⟨_, g3, hs⟩ := bS hs; replace g3 := grd_some g3
   refine d_loc (F := [(2000006, .row 9 1 0 (mS []))]) (R := []) (F' := [(2000006, .row 9 1 0 (mS x2))]) (v := .sl 1 2000006 ((x2).length) 0 ((x2).length)) 4 [2000006] [] rfl rfl rfl rfl kr kr kr kr kr kr kr kr (loc_appendT (e := 9) (sz := 1) (bytes := 16) (L := 0) (els := (mS [])) (ys := (mS x2)) kr kr (by first | exact List.length_map .. | rfl) (by have := Src.vs (sz := 1) (R := []) (mS x2); exact this) (map_ones EV.encS (fun _ => rfl) _) (map_lens EV.encS (fun _ => rfl) _) kr (by first | exact (List.map_append ..).symm | rfl | simp only [List.map_nil, List.nil_append]) (List.length_map ..) g3 (by omega)) ?_
   refine d_runh 2 5 [(31, .sl 1 31 1 0 1), (30, .str s)] [(31, .row 9 1 0 (mS [s])), (2000006, .row 9 1 0 (mS x2))] [⟨6, [31], []⟩, ⟨5, [], []⟩] kr kr ?_
   obtain ⟨_, g4, hs⟩ := bS hs; replace g4 := grd_some g4
   refine d_loc (F := [(2000006, .row 9 1 0 (mS x2))]) (R := [(31, .row 9 1 0 (mS [s]))]) (F' := [(2000006, .row 9 1 0 (mS (x2 ++ [s])))]) (v := .sl 1 2000006 (((x2 ++ [s])).length) 0 (((x2 ++ [s])).length)) 7 [2000006] [31] rfl rfl rfl rfl kr kr kr kr kr kr kr kr (loc_appendT (e := 9) (sz := 1) (bytes := 16) (L := (x2).length) (els := (mS x2)) (ys := (mS [s])) kr kr (by first | exact List.length_map .. | rfl) (.sl (t := 9) (fz := 0) (ys := (mS [s])) kr kr) (map_ones EV.encS (fun _ => rfl) _) (map_lens EV.encS (fun _ => rfl) _) kr (by first | exact (List.map_append ..).symm | rfl | simp only [List.map_nil, List.nil_append]) (List.length_map ..) g4 (by omega)) ?_
   refine d_runs 2 8 [(34, .int .i64 v1), (33, .vs 1 (mS l))] (pfp 2 9) kr kr ?_
   obtain ⟨x3, g5, hs⟩ := bS hs; obtain ⟨g5a, g5b, g5c, g5d⟩ := cut_some g5
   refine d_pure (v := .vs 1 (List.map EV.encS x3)) 10 rfl rfl rfl rfl kr kr (loc_sliceVsT (e := 9) (sz := 1) (l := v1) (h := (List.length l : Int)) (els := (List.map EV.encS l)) kr kr ⟨.i64, by kernel_rfl⟩ (by simp only [bndV, List.length_map]) g5a g5b (by simpa only [List.length_map] using g5c) (by rw [g5d, List.map_drop, List.map_take])) ?_
   obtain ⟨_, g6, hs⟩ := bS hs; replace g6 := grd_some g6
   refine d_loc (F := [(2000006, .row 9 1 0 (mS (x2 ++ [s])))]) (R := []) (F' := [(2000006, .row 9 1 0 (mS ((x2 ++ [s]) ++ x3)))]) (v := .sl 1 2000006 ((((x2 ++ [s]) ++ x3)).length) 0 ((((x2 ++ [s]) ++ x3)).length)) 11 [2000006] [] rfl rfl rfl rfl kr kr kr kr kr kr kr kr (loc_appendT (e := 9) (sz := 1) (bytes := 16) (L := ((x2 ++ [s])).length) (els := (mS (x2 ++ [s]))) (ys := (mS x3)) kr kr (by first | exact List.length_map .. | rfl) (by have := Src.vs (sz := 1) (R := []) (mS x3); exact this) (map_ones EV.encS (fun _ => rfl) _) (map_lens EV.encS (fun _ => rfl) _) kr (by first | exact (List.map_append ..).symm | rfl | simp only [List.map_nil, List.nil_append]) (List.length_map ..) g6 (by omega)) ?_
   refine d_runs 1 12 [(6, .sl 1 2000006 ((((x2 ++ [s]) ++ x3)).length) 0 ((((x2 ++ [s]) ++ x3)).length))] (pfp 1 12) kr kr ?_
   refine d_nil kr ?_
   refine nT (vS (vT (oR 2 [(4, .sl 1 2000006 ((((x2 ++ [s]) ++ x3)).length) 0 ((((x2 ++ [s]) ++ x3)).length)), (37, .sl 1 2000006 ((((x2 ++ [s]) ++ x3)).length) 0 ((((x2 ++ [s]) ++ x3)).length))] kr ?_)))
   refine oN (nT (v_to _ [(2000006, .row 9 1 (((mS ((x2 ++ [s]) ++ x3))).length) (mS ((x2 ++ [s]) ++ x3))), (31, .row 9 1 0 (mS [s]))] (cut_freeze (F := [(2000006, .row 9 1 0 (mS ((x2 ++ [s]) ++ x3)))]) [2000006] rfl kr kr) ?_))
   refine v_to ((4, .vs 1 (mS ((x2 ++ [s]) ++ x3))) :: _) _ (cut_view (R := [(2000006, .row 9 1 (((mS ((x2 ++ [s]) ++ x3))).length) (mS ((x2 ++ [s]) ++ x3)))]) (ks := [2000006]) kr kr (.row (t := 9) (fz := (((mS ((x2 ++ [s]) ++ x3))).length)) kr (by first | (simp only [List.length_map, List.length_set, cpyT_length]; done) | rfl))) ?_
   refine v_ret ?_
   obtain rfl := si hs
   exact fin_ret kr kr kr
theorem ws_greenbeltref16_Names (nF : Nat) (ih_greenbeltref16_Names : ∀ (e : Expr) (r : (List (List UInt8))), s_greenbeltref16_Names nF e = some r → FnA Try.prog 18 [.agg (enc_Expr e)] [] (.vs 1 (mS r)) []) (e : Expr) (r : (List (List UInt8))) (hs : s_greenbeltref16_Names (nF + 1) e = some r) : FnA Try.prog 18 [.agg (enc_Expr e)] [] (.vs 1 (mS r)) [] := by
 refine fnA_of_wp (N := 40) Try.func18 rfl rfl rfl fun cK0 => ?_
 rw [s_greenbeltref16_Names] at hs
 refine v_same (ρ' := [(0, .agg (enc_Expr e))]) rfl rfl ?_
 refine vS (vT (o_runh 2 [(2, .nils), (1, .ptr 1 0 0)] [(1, .box 44 (enc_Expr e))] kr ?_))
 refine oN (nT (vS (vT (oR 1 [(3, .nils)] kr ?_))))
 refine oN (nT (vS (vS (vT (oR 3 [(9, .bool (decide (e.Op = 1))), (8, .int .i64 e.Op), (7, .ptr 1 0 0)] kr ?_)))))
 refine oN (nT ?_)
 obtain ⟨z1, hs, hk1⟩ := bS hs
 refine v_join (S := (List (List UInt8))) (fun u => u = z1) (fun u => [(1, .ptr 1 0 0), (3, .vs 1 (mS u))]) (fun u => [(1, .box 44 (enc_Expr e))]) ?_ (fun v1 hz => ?_)
 ·refine v_cond (decide (e.Op = 1)) kr (fun h1 => ?_) (fun h1 => ?_)
  ·replace hs := bif_t h1 hs
   refine vT (oR 3 [(12, .str e.S), (11, .ptr 1 0 2), (10, .nils)] kr ?_)
   obtain ⟨y1, c1, hs⟩ := bS hs
   refine o_loc (F := []) (F' := []) (v := .vs 1 (mS y1)) [] kr kr rfl kr (loc_g (R := []) [.nils, .str e.S] [] (callV_func hbv45 kr) (w_greenbeltref16_With [] e.S _ c1) (.cons (.nils _) (.cons (.same _) (.nil))) kr kr kr kr kr kr kr kr) kr ?_
   refine oR 1 [(3, .vs 1 (mS y1))] kr ?_
   refine oN ?_
   obtain rfl := si hs
   refine nrm_join y1 rfl ?_
   exact cut_of [1, 3] [1] kr kr kr
  ·replace hs := bif_f h1 hs
   refine vK ?_
   obtain rfl := si hs
   refine nrm_join [] rfl ?_
   exact Cut.trans (cut_view (t := 3) (v := .vs 1 []) [] [] rfl rfl (.nils 1)) (cut_of [1, 3] [1] kr kr kr)
 ·subst hz; clear hs; have hs := hk1; clear hk1
  refine nT (vS (vS (vT (oR 1 [(4, .int .i64 0)] kr ?_))))
  refine oN (nT ?_)
  obtain ⟨z2, hs, hk2⟩ := bS hs
  refine v_join (S := (List (List UInt8))) (fun u => u = z2) (fun u => [(3, .vs 1 (mS u))]) (fun u => []) ?_ (fun v2 hz => ?_)
  ·refine vB ?_
   refine v_fuel (S := (List (List UInt8)) × Int) (fun u => [(1, .ptr 1 0 0), (3, .vs 1 (mS u.1)), (4, .int .i64 u.2)]) (fun u => [(1, .box 44 (enc_Expr e))]) (s_greenbeltref16_Names_L1 (s_greenbeltref16_Names nF) e) (fun _ => rfl) KK (v1, 0) hs (cut_of [1, 3, 4] [1] kr kr kr) (fun K1 q1 hs => ?_)
   rw [s_greenbeltref16_Names_L1] at hs
   show WpV cK0 Try.prog none 40 _ _ [(1, .ptr 1 0 0), (3, .vs 1 (mS q1.1)), (4, .int .i64 q1.2)] [(1, .box 44 (enc_Expr e))] []
   refine vS (vS (vT (oR 3 [(16, .vs 5 (encs_Expr e.Args)), (15, .ptr 1 0 4), (14, .int .i64 q1.2)] kr ?_)))
   refine oP (v := .int .i64 (List.length e.Args : Int)) kr kr (loc_lenVs (sz := 5) (els := (encs_Expr e.Args)) kr kr (by rw [encs_Expr_eq, List.length_map])) ?_
   refine oR 1 [(18, .bool (decide (q1.2 < (List.length e.Args : Int))))] kr ?_
   refine oN (nT ?_)
   refine v_cond (decide (q1.2 < (List.length e.Args : Int))) kr (fun h2 => ?_) (fun h2 => ?_)
   ·replace hs := bif_t h2 hs
    refine vK (nT (vS (vB (vS (vT (oR 3 [(23, .int .i64 q1.2), (22, .vs 5 (encs_Expr e.Args)), (21, .ptr 1 0 4)] kr ?_))))))
    obtain ⟨x1, g1, hs⟩ := bS hs; obtain ⟨g1a, g1b, g1c⟩ := idx_some g1
    refine oP (v := .vp (enc_Expr x1) 0) kr kr (loc_indexVs (e := 44) (sz := 5) (k := .i64) (els := (encs_Expr e.Args)) (cs := (enc_Expr x1)) kr kr kr g1a (by rw [g1c, encs_Expr_eq]; exact map_get _ (by omega))) ?_
    refine oR 1 [(25, .agg (enc_Expr x1))] kr ?_
    obtain ⟨y2, c2, hs⟩ := bS hs
    refine oP (v := .vs 1 (mS y2)) kr kr (loc_gcall0 (callV_func hbv18 kr) (ih_greenbeltref16_Names x1 _ c2) kr) ?_
    refine oR 1 [(5, .vs 1 (mS y2))] kr ?_
    refine oN (nT (vS (vT (oR 1 [(6, .int .i64 0)] kr ?_))))
    refine oN (nT ?_)
    obtain ⟨z3, hs, hk3⟩ := bS hs
    refine v_join (S := (List (List UInt8))) (fun u => u = z3) (fun u => [(1, .ptr 1 0 0), (3, .vs 1 (mS u)), (4, .int .i64 q1.2)]) (fun u => [(1, .box 44 (enc_Expr e))]) ?_ (fun v3 hz => ?_)
    ·refine vB ?_
     refine v_fuel (S := (List (List UInt8)) × Int) (fun u => [(1, .ptr 1 0 0), (3, .vs 1 (mS u.1)), (4, .int .i64 q1.2), (5, .vs 1 (mS y2)), (6, .int .i64 u.2)]) (fun u => [(1, .box 44 (enc_Expr e))]) (s_greenbeltref16_Names_L2 y2) (fun _ => rfl) KK (q1.1, 0) hs (cut_of [1, 3, 4, 5, 6] [1] kr kr kr) (fun K2 q2 hs => ?_)
     rw [s_greenbeltref16_Names_L2] at hs
     show WpV cK0 Try.prog none 40 _ _ [(1, .ptr 1 0 0), (3, .vs 1 (mS q2.1)), (4, .int .i64 q1.2), (5, .vs 1 (mS y2)), (6, .int .i64 q2.2)] [(1, .box 44 (enc_Expr e))] []
     refine vS (vS (vT (oR 2 [(28, .vs 1 (mS y2)), (27, .int .i64 q2.2)] kr ?_)))
     refine oP (v := .int .i64 (List.length y2 : Int)) kr kr (loc_lenVs (sz := 1) (els := (mS y2)) kr kr (List.length_map ..)) ?_
     refine oR 1 [(30, .bool (decide (q2.2 < (List.length y2 : Int))))] kr ?_
     refine oN (nT ?_)
     refine v_cond (decide (q2.2 < (List.length y2 : Int))) kr (fun h3 => ?_) (fun h3 => ?_)
     ·replace hs := bif_t h3 hs
      refine vK (nT (vS (vB (vT (oR 3 [(35, .int .i64 q2.2), (34, .vs 1 (mS y2)), (33, .vs 1 (mS q2.1))] kr ?_)))))
      obtain ⟨x2, g2, hs⟩ := bS hs; obtain ⟨g2a, g2b, g2c⟩ := idx_some g2
      refine oP (v := .vp [.str x2] 0) kr kr (loc_indexVs (e := 9) (sz := 1) (k := .i64) (els := (mS y2)) (cs := (EV.encS x2)) kr kr kr g2a (by rw [g2c]; exact map_get _ (by omega))) ?_
      refine oR 1 [(37, .str x2)] kr ?_
      obtain ⟨y3, c3, hs⟩ := bS hs
      refine oP (v := .vs 1 (mS y3)) kr kr (loc_gcall0 (callV_func hbv45 kr) (w_greenbeltref16_With q2.1 x2 _ c3) kr) ?_
      refine oR 1 [(3, .vs 1 (mS y3))] kr ?_
      refine oN (nB (nT (vT (oR 3 [(6, .int .i64 (w64 (q2.2 + 1))), (32, .int .i64 (w64 (q2.2 + 1))), (31, .int .i64 q2.2)] kr ?_))))
      refine oN (nrm_fuel (y3, (w64 (q2.2 + 1))) hs ?_)
      exact cut_of [1, 3, 4, 5, 6] [1] kr kr kr
     ·replace hs := bif_f h3 hs
      refine v_exit (exit_thenV (exit_fuel ?_))
      refine exit_blkV ?_
      obtain rfl := si hs
      refine nrm_join q2.1 rfl ?_
      exact cut_of [1, 3, 4] [1] kr kr kr
    ·subst hz; clear hs; have hs := hk3; clear hk3
     refine nB (nT (vT (oR 3 [(4, .int .i64 (w64 (q1.2 + 1))), (20, .int .i64 (w64 (q1.2 + 1))), (19, .int .i64 q1.2)] kr ?_)))
     refine oN (nrm_fuel (v3, (w64 (q1.2 + 1))) hs ?_)
     exact cut_of [1, 3, 4] [1] kr kr kr
   ·replace hs := bif_f h2 hs
    refine v_exit (exit_thenV (exit_fuel ?_))
    refine exit_blkV ?_
    obtain rfl := si hs
    refine nrm_join q1.1 rfl ?_
    exact cut_of [3] [] kr kr kr
  ·subst hz; clear hs; have hs := hk2; clear hk2
   refine nT (vS (vT (oR 2 [(2, .vs 1 (mS v2)), (39, .vs 1 (mS v2))] kr ?_)))
   refine oN (nT (v_ret ?_))
   obtain rfl := si hs
   exact fin_ret kr kr kr
theorem wr_greenbeltref16_Names : ∀ nF : Nat, (∀ (e : Expr) (r : (List (List UInt8))), s_greenbeltref16_Names nF e = some r → FnA Try.prog 18 [.agg (enc_Expr e)] [] (.vs 1 (mS r)) [])
 | 0 => fun e r hs => (by rw [s_greenbeltref16_Names] at hs; cases hs)
 | nF + 1 => fun e r hs => ws_greenbeltref16_Names nF (wr_greenbeltref16_Names nF) e r hs
theorem w_greenbeltref16_Names (nF : Nat) (e : Expr) (r : (List (List UInt8))) (hs : s_greenbeltref16_Names nF e = some r) : FnA Try.prog 18 [.agg (enc_Expr e)] [] (.vs 1 (mS r)) [] := (wr_greenbeltref16_Names nF) e r hs
theorem w_greenbeltref16_uses (p : Plan) (r : (List (List Bool))) (hs : s_greenbeltref16_uses p = some r) : FnA Try.prog 39 [.agg (enc_Plan p)] [] (.vs 1 (List.map (encL 1 EV.encB) r)) [] := by
 refine fnA_of_wp (N := 49) Try.func39 rfl rfl rfl fun cK0 => ?_
 unfold s_greenbeltref16_uses at hs
 refine v_same (ρ' := [(0, .agg (enc_Plan p))]) rfl rfl ?_
 refine vS (vT (o_runh 2 [(2, .nils), (1, .ptr 1 0 0)] [(1, .box 30 (enc_Plan p))] kr ?_))
 refine oN (nT (vS (vT (oR 1 [(3, .nils)] kr ?_))))
 refine oN (nT (vS (vS (vT (oR 1 [(4, .int .i64 0)] kr ?_)))))
 refine oN (nT ?_)
 obtain ⟨z1, hs, hk1⟩ := bS hs
 refine v_join (S := (List (List Bool))) (fun u => u = z1) (fun u => [(3, .sl 1 2000044 ((u).length) 0 ((u).length))]) (fun u => [(2000044, .row 74 1 0 (List.map (encL 1 EV.encB) u))]) ?_ (fun v1 hz => ?_)
 ·refine vB ?_
  refine v_fuel (S := Int × (List (List Bool))) (fun u => [(1, .ptr 1 0 0), (3, .sl 1 2000044 ((u.2).length) 0 ((u.2).length)), (4, .int .i64 u.1)]) (fun u => [(1, .box 30 (enc_Plan p)), (2000044, .row 74 1 0 (List.map (encL 1 EV.encB) u.2))]) (s_greenbeltref16_uses_L1 p) (fun _ => rfl) KK (0, []) hs (Cut.trans (cut_nilRow 3 2000044 74 1 rfl kr kr) (cut_of [1, 3, 4] [1, 2000044] kr kr kr)) (fun K1 q1 hs => ?_)
  rw [s_greenbeltref16_uses_L1] at hs
  show WpV cK0 Try.prog none 49 _ _ [(1, .ptr 1 0 0), (3, .sl 1 2000044 ((q1.2).length) 0 ((q1.2).length)), (4, .int .i64 q1.1)] [(1, .box 30 (enc_Plan p)), (2000044, .row 74 1 0 (List.map (encL 1 EV.encB) q1.2))] []
  refine vS (vS (vT (oR 3 [(10, .vs 6 (mM enc_Def p.Defs)), (9, .ptr 1 0 0), (8, .int .i64 q1.1)] kr ?_)))
  refine oP (v := .int .i64 (List.length p.Defs : Int)) kr kr (loc_lenVs (sz := 6) (els := (mM enc_Def p.Defs)) kr kr (List.length_map ..)) ?_
  refine oR 1 [(12, .bool (decide (q1.1 < (List.length p.Defs : Int))))] kr ?_
  refine oN (nT ?_)
  refine v_cond (decide (q1.1 < (List.length p.Defs : Int))) kr (fun h1 => ?_) (fun h1 => ?_)
  ·replace hs := bif_t h1 hs
   refine vK (nT (vS (vB (vS (vT (oR 3 [(17, .int .i64 q1.1), (16, .vs 6 (mM enc_Def p.Defs)), (15, .ptr 1 0 0)] kr ?_))))))
   obtain ⟨x1, g1, hs⟩ := bS hs; obtain ⟨g1a, g1b, g1c⟩ := idx_some g1
   refine oP (v := .vp (enc_Def x1) 0) kr kr (loc_indexVs (e := 46) (sz := 6) (k := .i64) (els := (mM enc_Def p.Defs)) (cs := (enc_Def x1)) kr kr kr g1a (by rw [g1c]; exact map_get _ (by omega))) ?_
   refine oR 2 [(20, .agg (enc_Expr x1.Body)), (19, .vp (enc_Def x1) 1)] kr ?_
   obtain ⟨y1, c1, hs⟩ := bS hs
   refine oP (v := .vs 1 (mS y1)) kr kr (loc_gcall0 (callV_func hbv18 kr) (w_greenbeltref16_Names KK x1.Body _ c1) kr) ?_
   refine oR 1 [(5, .vs 1 (mS y1))] kr ?_
   refine oN (nT (vS (vT (oR 2 [(23, .vs 6 (mM enc_Def p.Defs)), (22, .ptr 1 0 0)] kr ?_))))
   refine oP (v := .int .i64 (List.length p.Defs : Int)) kr kr (loc_lenVs (sz := 6) (els := (mM enc_Def p.Defs)) kr kr (List.length_map ..)) ?_
   obtain ⟨⟨g2a, g2b, g2c⟩, hs⟩ := bG hs
   refine o_loc (F := []) (F' := [(25, .row 4 1 0 (mB (List.replicate (Int.toNat (List.length p.Defs : Int)) (false : Bool))))]) (v := .sl 1 25 (((List.replicate (Int.toNat (List.length p.Defs : Int)) (false : Bool))).length) 0 (((List.replicate (Int.toNat (List.length p.Defs : Int)) (false : Bool))).length)) [] kr kr rfl kr (loc_makeSliceT (L := ((List.replicate (Int.toNat (List.length p.Defs : Int)) (false : Bool))).length) (e := 4) (sz := 1) (bytes := 1) (q := (List.length p.Defs : Int)) (k := .i64) (k2 := .i64) (cs := [.bool false]) (cs2 := [.bool false]) kr kr kr kr kr g2a g2b g2c (List.map_replicate (f := EV.encB)).symm (List.length_replicate ..) (fun _ _ h => h)) kr ?_
   refine oR 1 [(6, .sl 1 25 (((List.replicate (Int.toNat (List.length p.Defs : Int)) (false : Bool))).length) 0 (((List.replicate (Int.toNat (List.length p.Defs : Int)) (false : Bool))).length))] kr ?_
   refine oN (nT (vS (vS (vT (oR 1 [(7, .int .i64 0)] kr ?_)))))
   refine oN (nT ?_)
   obtain ⟨z2, hs, hk2⟩ := bS hs
   refine v_join (S := (List Bool)) (fun u => u = z2) (fun u => [(1, .ptr 1 0 0), (3, .sl 1 2000044 ((q1.2).length) 0 ((q1.2).length)), (4, .int .i64 q1.1), (6, .sl 1 25 ((u).length) 0 ((u).length))]) (fun u => [(25, .row 4 1 0 (mB u)), (1, .box 30 (enc_Plan p)), (2000044, .row 74 1 0 (List.map (encL 1 EV.encB) q1.2))]) ?_ (fun v2 hz => ?_)
   ·refine vB ?_
    refine v_fuel (S := Int × (List Bool)) (fun u => [(1, .ptr 1 0 0), (3, .sl 1 2000044 ((q1.2).length) 0 ((q1.2).length)), (4, .int .i64 q1.1), (5, .vs 1 (mS y1)), (6, .sl 1 25 ((u.2).length) 0 ((u.2).length)), (7, .int .i64 u.1)]) (fun u => [(25, .row 4 1 0 (mB u.2)), (1, .box 30 (enc_Plan p)), (2000044, .row 74 1 0 (List.map (encL 1 EV.encB) q1.2))]) (s_greenbeltref16_uses_L2 p y1) (fun _ => rfl) KK (0, (List.replicate (Int.toNat (List.length p.Defs : Int)) (false : Bool))) hs (cut_of [1, 3, 4, 5, 6, 7] [25, 1, 2000044] kr kr kr) (fun K2 q2 hs => ?_)
    rw [s_greenbeltref16_uses_L2] at hs
    show WpV cK0 Try.prog none 49 _ _ [(1, .ptr 1 0 0), (3, .sl 1 2000044 ((q1.2).length) 0 ((q1.2).length)), (4, .int .i64 q1.1), (5, .vs 1 (mS y1)), (6, .sl 1 25 ((q2.2).length) 0 ((q2.2).length)), (7, .int .i64 q2.1)] [(25, .row 4 1 0 (mB q2.2)), (1, .box 30 (enc_Plan p)), (2000044, .row 74 1 0 (List.map (encL 1 EV.encB) q1.2))] []
    refine vS (vS (vT (oR 3 [(28, .vs 6 (mM enc_Def p.Defs)), (27, .ptr 1 0 0), (26, .int .i64 q2.1)] kr ?_)))
    refine oP (v := .int .i64 (List.length p.Defs : Int)) kr kr (loc_lenVs (sz := 6) (els := (mM enc_Def p.Defs)) kr kr (List.length_map ..)) ?_
    refine oR 1 [(30, .bool (decide (q2.1 < (List.length p.Defs : Int))))] kr ?_
    refine oN (nT ?_)
    refine v_cond (decide (q2.1 < (List.length p.Defs : Int))) kr (fun h2 => ?_) (fun h2 => ?_)
    ·replace hs := bif_t h2 hs
     refine vK (nT (vS (vB (vT (oR 6 [(38, .int .i64 q2.1), (37, .vs 6 (mM enc_Def p.Defs)), (36, .ptr 1 0 0), (35, .vs 1 (mS y1)), (34, .int .i64 q2.1), (33, .sl 1 25 ((q2.2).length) 0 ((q2.2).length))] kr ?_)))))
     obtain ⟨x2, g3, hs⟩ := bS hs; obtain ⟨g3a, g3b, g3c⟩ := idx_some g3
     refine oP (v := .vp (enc_Def x2) 0) kr kr (loc_indexVs (e := 46) (sz := 6) (k := .i64) (els := (mM enc_Def p.Defs)) (cs := (enc_Def x2)) kr kr kr g3a (by rw [g3c]; exact map_get _ (by omega))) ?_
     refine oR 2 [(41, .str x2.Name), (40, .vp (enc_Def x2) 0)] kr ?_
     obtain ⟨y2, c2, hs⟩ := bS hs
     refine oP (v := .bool y2) kr kr (loc_gcall0 (callV_func hbv46 kr) (w_greenbeltref16_Has y1 x2.Name _ c2) kr) ?_
     obtain ⟨⟨g4a, g4b⟩, hs⟩ := bG hs
     refine oP (v := .ptr 25 ((q2.2).length) ((Int.toNat q2.1) * 1 + 0)) kr kr (loc_indexRowT (e := 4) (sz := 1) (kk := 25) (L := (q2.2).length) (n := (q2.2).length) (k := .i64) (i := q2.1) kr kr kr g4a g4b) ?_
     obtain ⟨e1, he1, hs⟩ := bE hs
     refine o_loc (F := [(25, .row 4 1 0 (mB q2.2))]) (F' := [(25, .row 4 1 0 (mB (List.set q2.2 (Int.toNat q2.1) y2)))]) (v := .no) [25] kr kr rfl kr (loc_storeRowT (L := (q2.2).length) (off := (Int.toNat q2.1) * 1 + 0) (els := (mB q2.2)) (cs := [.bool e1]) (c' := [.bool y2]) (Int.toNat q2.1) 0 kr (by first | (simp only [List.length_map, List.length_set, cpyT_length]; done) | rfl) rfl (by rw [← he1]; exact map_get _ (by first | omega | (simp only [List.length_set, cpyT_length]; omega))) (by first | exact Nat.zero_le _ | omega) kr kr kr kr kr kr List.map_set.symm) kr ?_
     refine oN (nB (nT (vT (oR 3 [(7, .int .i64 (w64 (q2.1 + 1))), (32, .int .i64 (w64 (q2.1 + 1))), (31, .int .i64 q2.1)] kr ?_))))
     refine oN (nrm_fuel ((w64 (q2.1 + 1)), (List.set q2.2 (Int.toNat q2.1) y2)) hs ?_)
     exact Cut.trans (cut_eq 6 (v := .sl 1 25 ((q2.2).length) 0 ((q2.2).length)) (v' := .sl 1 25 (((List.set q2.2 (Int.toNat q2.1) y2)).length) 0 (((List.set q2.2 (Int.toNat q2.1) y2)).length)) kr (by first | rfl | simp only [List.length_set, cpyT_length])) (cut_of [1, 3, 4, 5, 6, 7] [25, 1, 2000044] kr kr kr)
    ·replace hs := bif_f h2 hs
     refine v_exit (exit_thenV (exit_fuel ?_))
     refine exit_blkV ?_
     obtain rfl := si hs
     refine nrm_join q2.2 rfl ?_
     exact cut_of [1, 3, 4, 6] [25, 1, 2000044] kr kr kr
   ·subst hz; clear hs; have hs := hk2; clear hk2
    refine nT (vT (oR 2 [(45, .sl 1 25 ((v2).length) 0 ((v2).length)), (44, .sl 1 2000044 ((q1.2).length) 0 ((q1.2).length))] kr ?_))
    refine o_to _ [(25, .row 4 1 (((mB v2)).length) (mB v2)), (1, .box 30 (enc_Plan p)), (2000044, .row 74 1 0 (List.map (encL 1 EV.encB) q1.2))] (cut_freeze (F := [(25, .row 4 1 0 (mB v2))]) [25] rfl kr kr) ?_
    refine o_to ((45, .vs 1 (mB v2)) :: _) _ (cut_view (R := [(25, .row 4 1 (((mB v2)).length) (mB v2))]) (ks := [25]) kr kr (.row (t := 4) (fz := (((mB v2)).length)) kr (by first | (simp only [List.length_map, List.length_set, cpyT_length]; done) | rfl))) ?_
    refine o_runh 1 [(46, .sl 1 46 1 0 1)] [(46, .row 74 1 0 (List.map (encL 1 EV.encB) [v2])), (25, .row 4 1 (((mB v2)).length) (mB v2)), (1, .box 30 (enc_Plan p)), (2000044, .row 74 1 0 (List.map (encL 1 EV.encB) q1.2))] kr ?_
    obtain ⟨_, g5, hs⟩ := bS hs; replace g5 := grd_some g5
    refine o_loc (F := [(2000044, .row 74 1 0 (List.map (encL 1 EV.encB) q1.2)), (46, .row 74 1 0 (List.map (encL 1 EV.encB) [v2]))]) (F' := [(2000044, .row 74 1 0 (List.map (encL 1 EV.encB) (q1.2 ++ [v2]))), (46, .row 74 1 0 (List.map (encL 1 EV.encB) [v2]))]) (v := .sl 1 2000044 (((q1.2 ++ [v2])).length) 0 (((q1.2 ++ [v2])).length)) [2000044, 46] kr kr rfl kr (loc_appendT (e := 74) (sz := 1) (bytes := 24) (L := (q1.2).length) (els := (List.map (encL 1 EV.encB) q1.2)) (ys := (List.map (encL 1 EV.encB) [v2])) kr kr (by first | exact List.length_map .. | rfl) (.sl (t := 74) (fz := 0) (ys := (List.map (encL 1 EV.encB) [v2])) kr kr) (map_ones (encL 1 EV.encB) (fun _ => rfl) _) (map_lens (encL 1 EV.encB) (fun _ => rfl) _) kr (by first | exact (List.map_append ..).symm | rfl | simp only [List.map_nil, List.nil_append]) (List.length_map ..) g5 (by omega)) kr ?_
    refine oR 1 [(3, .sl 1 2000044 (((q1.2 ++ [v2])).length) 0 (((q1.2 ++ [v2])).length))] kr ?_
    refine oN (nB (nT (vT (oR 3 [(4, .int .i64 (w64 (q1.1 + 1))), (14, .int .i64 (w64 (q1.1 + 1))), (13, .int .i64 q1.1)] kr ?_))))
    refine oN (nrm_fuel ((w64 (q1.1 + 1)), (q1.2 ++ [v2])) hs ?_)
    exact cut_of [1, 3, 4] [1, 2000044] kr kr kr
  ·replace hs := bif_f h1 hs
   refine v_exit (exit_thenV (exit_fuel ?_))
   refine exit_blkV ?_
   obtain rfl := si hs
   refine nrm_join q1.2 rfl ?_
   exact cut_of [3] [2000044] kr kr kr
 ·subst hz; clear hs; have hs := hk1; clear hk1
  refine nT (vS (vT (oR 2 [(2, .sl 1 2000044 ((v1).length) 0 ((v1).length)), (48, .sl 1 2000044 ((v1).length) 0 ((v1).length))] kr ?_)))
  refine oN (nT (v_to _ [(2000044, .row 74 1 (((List.map (encL 1 EV.encB) v1)).length) (List.map (encL 1 EV.encB) v1))] (cut_freeze (F := [(2000044, .row 74 1 0 (List.map (encL 1 EV.encB) v1))]) [2000044] rfl kr kr) ?_))
  refine v_to ((2, .vs 1 (List.map (encL 1 EV.encB) v1)) :: _) _ (cut_view (R := [(2000044, .row 74 1 (((List.map (encL 1 EV.encB) v1)).length) (List.map (encL 1 EV.encB) v1))]) (ks := [2000044]) kr kr (.row (t := 74) (fz := (((List.map (encL 1 EV.encB) v1)).length)) kr (by first | (simp only [List.length_map, List.length_set, cpyT_length]; done) | rfl))) ?_
  refine v_ret ?_
  obtain rfl := si hs
  exact fin_ret kr kr kr
theorem w_greenbeltref16_back (use : (List (List Bool))) (to : Int) (most : Int) (r : (List (List Bool))) (hs : s_greenbeltref16_back use to most = some r) : FnA Try.prog 58 [.vs 1 (List.map (encL 1 EV.encB) use), .int .i64 to, .int .i64 most] [] (.vs 1 (List.map (encL 1 EV.encB) r)) [] := by
 refine fnA_of_wp (N := 72) Try.func58 rfl rfl rfl fun cK0 => ?_
 unfold s_greenbeltref16_back at hs
 refine v_same (ρ' := [(0, .vs 1 (List.map (encL 1 EV.encB) use)), (1, .int .i64 to), (2, .int .i64 most)]) rfl rfl ?_
 refine vS (vT (oR 1 [(6, .nils)] kr ?_))
 refine oN (nT (vS (vT (oR 1 [(13, .vs 1 (List.map (encL 1 EV.encB) use))] kr ?_))))
 refine oP (v := .int .i64 (List.length use : Int)) kr kr (loc_lenVs (sz := 1) (els := (List.map (encL 1 EV.encB) use)) kr kr (List.length_map ..)) ?_
 obtain ⟨⟨g1a, g1b, g1c⟩, hs⟩ := bG hs
 refine o_loc (F := []) (F' := [(15, .row 4 1 0 (mB (List.replicate (Int.toNat (List.length use : Int)) (false : Bool))))]) (v := .sl 1 15 (((List.replicate (Int.toNat (List.length use : Int)) (false : Bool))).length) 0 (((List.replicate (Int.toNat (List.length use : Int)) (false : Bool))).length)) [] kr kr rfl kr (loc_makeSliceT (L := ((List.replicate (Int.toNat (List.length use : Int)) (false : Bool))).length) (e := 4) (sz := 1) (bytes := 1) (q := (List.length use : Int)) (k := .i64) (k2 := .i64) (cs := [.bool false]) (cs2 := [.bool false]) kr kr kr kr kr g1a g1b g1c (List.map_replicate (f := EV.encB)).symm (List.length_replicate ..) (fun _ _ h => h)) kr ?_
 refine oR 1 [(7, .sl 1 15 (((List.replicate (Int.toNat (List.length use : Int)) (false : Bool))).length) 0 (((List.replicate (Int.toNat (List.length use : Int)) (false : Bool))).length))] kr ?_
 refine oN (nT (vS (vT (oR 2 [(17, .int .i64 to), (16, .sl 1 15 (((List.replicate (Int.toNat (List.length use : Int)) (false : Bool))).length) 0 (((List.replicate (Int.toNat (List.length use : Int)) (false : Bool))).length))] kr ?_))))
 obtain ⟨⟨g2a, g2b⟩, hs⟩ := bG hs
 refine oP (v := .ptr 15 (((List.replicate (Int.toNat (List.length use : Int)) (false : Bool))).length) ((Int.toNat to) * 1 + 0)) kr kr (loc_indexRowT (e := 4) (sz := 1) (kk := 15) (L := ((List.replicate (Int.toNat (List.length use : Int)) (false : Bool))).length) (n := ((List.replicate (Int.toNat (List.length use : Int)) (false : Bool))).length) (k := .i64) (i := to) kr kr kr g2a g2b) ?_
 obtain ⟨e1, he1, hs⟩ := bE hs
 refine o_loc (F := [(15, .row 4 1 0 (mB (List.replicate (Int.toNat (List.length use : Int)) (false : Bool))))]) (F' := [(15, .row 4 1 0 (mB (List.set (List.replicate (Int.toNat (List.length use : Int)) (false : Bool)) (Int.toNat to) true)))]) (v := .no) [15] kr kr rfl kr (loc_storeRowT (L := ((List.replicate (Int.toNat (List.length use : Int)) (false : Bool))).length) (off := (Int.toNat to) * 1 + 0) (els := (mB (List.replicate (Int.toNat (List.length use : Int)) (false : Bool)))) (cs := [.bool e1]) (c' := [.bool true]) (Int.toNat to) 0 kr (by first | (simp only [List.length_map, List.length_set, cpyT_length]; done) | rfl) rfl (by rw [← he1]; exact map_get _ (by first | omega | (simp only [List.length_set, cpyT_length]; omega))) (by first | exact Nat.zero_le _ | omega) kr kr kr kr kr kr List.map_set.symm) kr ?_
 refine oN (nT (vS (vT (oR 1 [(19, .sl 1 15 (((List.replicate (Int.toNat (List.length use : Int)) (false : Bool))).length) 0 (((List.replicate (Int.toNat (List.length use : Int)) (false : Bool))).length))] kr ?_))))
 refine o_to _ [(15, .row 4 1 (((mB (List.set (List.replicate (Int.toNat (List.length use : Int)) (false : Bool)) (Int.toNat to) true))).length) (mB (List.set (List.replicate (Int.toNat (List.length use : Int)) (false : Bool)) (Int.toNat to) true)))] (cut_freeze (F := [(15, .row 4 1 0 (mB (List.set (List.replicate (Int.toNat (List.length use : Int)) (false : Bool)) (Int.toNat to) true)))]) [15] rfl kr kr) ?_
 refine o_to ((19, .vs 1 (mB (List.set (List.replicate (Int.toNat (List.length use : Int)) (false : Bool)) (Int.toNat to) true))) :: _) _ (cut_view (R := [(15, .row 4 1 (((mB (List.set (List.replicate (Int.toNat (List.length use : Int)) (false : Bool)) (Int.toNat to) true))).length) (mB (List.set (List.replicate (Int.toNat (List.length use : Int)) (false : Bool)) (Int.toNat to) true)))]) (ks := [15]) kr kr (.row (t := 4) (fz := (((mB (List.set (List.replicate (Int.toNat (List.length use : Int)) (false : Bool)) (Int.toNat to) true))).length)) kr (by first | (simp only [List.length_map, List.length_set, cpyT_length]; done) | rfl))) ?_
 refine o_runh 2 [(8, .sl 1 20 1 0 1), (20, .sl 1 20 1 0 1)] [(20, .row 74 1 0 (List.map (encL 1 EV.encB) [(List.set (List.replicate (Int.toNat (List.length use : Int)) (false : Bool)) (Int.toNat to) true)])), (15, .row 4 1 (((mB (List.set (List.replicate (Int.toNat (List.length use : Int)) (false : Bool)) (Int.toNat to) true))).length) (mB (List.set (List.replicate (Int.toNat (List.length use : Int)) (false : Bool)) (Int.toNat to) true)))] kr ?_
 refine oN (nT (vS (vS (vT (oR 1 [(9, .int .i64 1)] kr ?_)))))
 refine oN (nT ?_)
 obtain ⟨z1, hs, hk1⟩ := bS hs
 refine v_join (S := (List (List Bool))) (fun u => u = z1) (fun u => [(8, .sl 1 20 ((u).length) 0 ((u).length))]) (fun u => [(20, .row 74 1 0 (List.map (encL 1 EV.encB) u))]) ?_ (fun v1 hz => ?_)
 ·refine vB ?_
  refine v_fuel (S := Int × (List (List Bool))) (fun u => [(0, .vs 1 (List.map (encL 1 EV.encB) use)), (2, .int .i64 most), (8, .sl 1 20 ((u.2).length) 0 ((u.2).length)), (9, .int .i64 u.1)]) (fun u => [(20, .row 74 1 0 (List.map (encL 1 EV.encB) u.2))]) (s_greenbeltref16_back_L1 use most) (fun _ => rfl) KK (1, [(List.set (List.replicate (Int.toNat (List.length use : Int)) (false : Bool)) (Int.toNat to) true)]) hs (Cut.trans (cut_eq 8 (v := .sl 1 20 1 0 1) (v' := .sl 1 20 (([(List.set (List.replicate (Int.toNat (List.length use : Int)) (false : Bool)) (Int.toNat to) true)]).length) 0 (([(List.set (List.replicate (Int.toNat (List.length use : Int)) (false : Bool)) (Int.toNat to) true)]).length)) kr (by first | rfl | simp only [List.length_set, cpyT_length])) (cut_of [0, 2, 8, 9] [20] kr kr kr)) (fun K1 q1 hs => ?_)
  rw [s_greenbeltref16_back_L1] at hs
  show WpV cK0 Try.prog none 72 _ _ [(0, .vs 1 (List.map (encL 1 EV.encB) use)), (2, .int .i64 most), (8, .sl 1 20 ((q1.2).length) 0 ((q1.2).length)), (9, .int .i64 q1.1)] [(20, .row 74 1 0 (List.map (encL 1 EV.encB) q1.2))] []
  refine vS (vS (vT (oR 3 [(23, .bool (decide (q1.1 ≤ most))), (22, .int .i64 most), (21, .int .i64 q1.1)] kr ?_)))
  refine oN (nT ?_)
  refine v_cond (decide (q1.1 ≤ most)) kr (fun h1 => ?_) (fun h1 => ?_)
  ·replace hs := bif_t h1 hs
   refine vK (nT (vS (vB (vS (vT (oR 1 [(26, .vs 1 (List.map (encL 1 EV.encB) use))] kr ?_))))))
   refine oP (v := .int .i64 (List.length use : Int)) kr kr (loc_lenVs (sz := 1) (els := (List.map (encL 1 EV.encB) use)) kr kr (List.length_map ..)) ?_
   obtain ⟨⟨g3a, g3b, g3c⟩, hs⟩ := bG hs
   refine o_loc (F := []) (F' := [(28, .row 4 1 0 (mB (List.replicate (Int.toNat (List.length use : Int)) (false : Bool))))]) (v := .sl 1 28 (((List.replicate (Int.toNat (List.length use : Int)) (false : Bool))).length) 0 (((List.replicate (Int.toNat (List.length use : Int)) (false : Bool))).length)) [] kr kr rfl kr (loc_makeSliceT (L := ((List.replicate (Int.toNat (List.length use : Int)) (false : Bool))).length) (e := 4) (sz := 1) (bytes := 1) (q := (List.length use : Int)) (k := .i64) (k2 := .i64) (cs := [.bool false]) (cs2 := [.bool false]) kr kr kr kr kr g3a g3b g3c (List.map_replicate (f := EV.encB)).symm (List.length_replicate ..) (fun _ _ h => h)) kr ?_
   refine oR 1 [(10, .sl 1 28 (((List.replicate (Int.toNat (List.length use : Int)) (false : Bool))).length) 0 (((List.replicate (Int.toNat (List.length use : Int)) (false : Bool))).length))] kr ?_
   refine oN (nT (vS (vS (vT (oR 1 [(11, .int .i64 0)] kr ?_)))))
   refine oN (nT ?_)
   obtain ⟨z2, hs, hk2⟩ := bS hs
   refine v_join (S := (List Bool)) (fun u => u = z2) (fun u => [(0, .vs 1 (List.map (encL 1 EV.encB) use)), (2, .int .i64 most), (8, .sl 1 20 ((q1.2).length) 0 ((q1.2).length)), (9, .int .i64 q1.1), (10, .sl 1 28 ((u).length) 0 ((u).length))]) (fun u => [(28, .row 4 1 0 (mB u)), (20, .row 74 1 0 (List.map (encL 1 EV.encB) q1.2))]) ?_ (fun v2 hz => ?_)
   ·refine vB ?_
    refine v_fuel (S := Int × (List Bool)) (fun u => [(0, .vs 1 (List.map (encL 1 EV.encB) use)), (2, .int .i64 most), (8, .sl 1 20 ((q1.2).length) 0 ((q1.2).length)), (9, .int .i64 q1.1), (10, .sl 1 28 ((u.2).length) 0 ((u.2).length)), (11, .int .i64 u.1)]) (fun u => [(28, .row 4 1 0 (mB u.2)), (20, .row 74 1 0 (List.map (encL 1 EV.encB) q1.2))]) (s_greenbeltref16_back_L2 use q1) (fun _ => rfl) KK (0, (List.replicate (Int.toNat (List.length use : Int)) (false : Bool))) hs (cut_of [0, 2, 8, 9, 10, 11] [28, 20] kr kr kr) (fun K2 q2 hs => ?_)
    rw [s_greenbeltref16_back_L2] at hs
    show WpV cK0 Try.prog none 72 _ _ [(0, .vs 1 (List.map (encL 1 EV.encB) use)), (2, .int .i64 most), (8, .sl 1 20 ((q1.2).length) 0 ((q1.2).length)), (9, .int .i64 q1.1), (10, .sl 1 28 ((q2.2).length) 0 ((q2.2).length)), (11, .int .i64 q2.1)] [(28, .row 4 1 0 (mB q2.2)), (20, .row 74 1 0 (List.map (encL 1 EV.encB) q1.2))] []
    refine vS (vS (vT (oR 2 [(30, .vs 1 (List.map (encL 1 EV.encB) use)), (29, .int .i64 q2.1)] kr ?_)))
    refine oP (v := .int .i64 (List.length use : Int)) kr kr (loc_lenVs (sz := 1) (els := (List.map (encL 1 EV.encB) use)) kr kr (List.length_map ..)) ?_
    refine oR 1 [(32, .bool (decide (q2.1 < (List.length use : Int))))] kr ?_
    refine oN (nT ?_)
    refine v_cond (decide (q2.1 < (List.length use : Int))) kr (fun h2 => ?_) (fun h2 => ?_)
    ·replace hs := bif_t h2 hs
     refine vK (nT (vS (vB (vS (vT (oR 1 [(12, .int .i64 0)] kr ?_))))))
     refine oN (nT ?_)
     obtain ⟨z3, hs, hk3⟩ := bS hs
     refine v_join (S := (List Bool)) (fun u => u = z3) (fun u => [(0, .vs 1 (List.map (encL 1 EV.encB) use)), (2, .int .i64 most), (8, .sl 1 20 ((q1.2).length) 0 ((q1.2).length)), (9, .int .i64 q1.1), (10, .sl 1 28 ((u).length) 0 ((u).length)), (11, .int .i64 q2.1)]) (fun u => [(28, .row 4 1 0 (mB u)), (20, .row 74 1 0 (List.map (encL 1 EV.encB) q1.2))]) ?_ (fun v3 hz => ?_)
     ·refine vB ?_
      refine v_fuel (S := Int × (List Bool)) (fun u => [(0, .vs 1 (List.map (encL 1 EV.encB) use)), (2, .int .i64 most), (8, .sl 1 20 ((q1.2).length) 0 ((q1.2).length)), (9, .int .i64 q1.1), (10, .sl 1 28 ((u.2).length) 0 ((u.2).length)), (11, .int .i64 q2.1), (12, .int .i64 u.1)]) (fun u => [(28, .row 4 1 0 (mB u.2)), (20, .row 74 1 0 (List.map (encL 1 EV.encB) q1.2))]) (s_greenbeltref16_back_L3 use q1 q2) (fun _ => rfl) KK (0, q2.2) hs (cut_of [0, 2, 8, 9, 10, 11, 12] [28, 20] kr kr kr) (fun K3 q3 hs => ?_)
      rw [s_greenbeltref16_back_L3] at hs
      show WpV cK0 Try.prog none 72 _ _ [(0, .vs 1 (List.map (encL 1 EV.encB) use)), (2, .int .i64 most), (8, .sl 1 20 ((q1.2).length) 0 ((q1.2).length)), (9, .int .i64 q1.1), (10, .sl 1 28 ((q3.2).length) 0 ((q3.2).length)), (11, .int .i64 q2.1), (12, .int .i64 q3.1)] [(28, .row 4 1 0 (mB q3.2)), (20, .row 74 1 0 (List.map (encL 1 EV.encB) q1.2))] []
      refine vS (vS (vT (oR 2 [(36, .vs 1 (List.map (encL 1 EV.encB) use)), (35, .int .i64 q3.1)] kr ?_)))
      refine oP (v := .int .i64 (List.length use : Int)) kr kr (loc_lenVs (sz := 1) (els := (List.map (encL 1 EV.encB) use)) kr kr (List.length_map ..)) ?_
      refine oR 1 [(38, .bool (decide (q3.1 < (List.length use : Int))))] kr ?_
      refine oN (nT ?_)
      refine v_cond (decide (q3.1 < (List.length use : Int))) kr (fun h3 => ?_) (fun h3 => ?_)
      ·replace hs := bif_t h3 hs
       refine vK (nT (vS (vB ?_)))
       obtain ⟨z4, hs, hk4⟩ := bS hs
       refine v_join (S := (List Bool)) (fun u => u = z4) (fun u => [(0, .vs 1 (List.map (encL 1 EV.encB) use)), (2, .int .i64 most), (8, .sl 1 20 ((q1.2).length) 0 ((q1.2).length)), (9, .int .i64 q1.1), (10, .sl 1 28 ((u).length) 0 ((u).length)), (11, .int .i64 q2.1), (12, .int .i64 q3.1)]) (fun u => [(28, .row 4 1 0 (mB u)), (20, .row 74 1 0 (List.map (encL 1 EV.encB) q1.2))]) ?_ (fun v4 hz => ?_)
       ·refine vT (oR 4 [(44, .int .i64 q2.1), (43, .sl 1 28 ((q3.2).length) 0 ((q3.2).length)), (42, .int .i64 q2.1), (41, .sl 1 28 ((q3.2).length) 0 ((q3.2).length))] kr ?_)
        obtain ⟨⟨g4a, g4b⟩, hs⟩ := bG hs
        refine oP (v := .ptr 28 ((q3.2).length) ((Int.toNat q2.1) * 1 + 0)) kr kr (loc_indexRowT (e := 4) (sz := 1) (kk := 28) (L := (q3.2).length) (n := (q3.2).length) (k := .i64) (i := q2.1) kr kr kr g4a g4b) ?_
        obtain ⟨e2, he2, hs⟩ := bE hs
        refine o_loc (F := [(28, .row 4 1 0 (mB q3.2))]) (F' := [(28, .row 4 1 0 (mB q3.2))]) (v := .bool e2) [28] kr kr rfl kr (loc_loadRow (L := (q3.2).length) (off := (Int.toNat q2.1) * 1 + 0) (els := (mB q3.2)) (cs := [.bool e2]) (Int.toNat q2.1) 0 kr (by first | (simp only [List.length_map, List.length_set, cpyT_length]; done) | rfl) rfl (by rw [← he2]; exact map_get _ (by first | omega | (simp only [List.length_set, cpyT_length]; omega))) kr) kr ?_
        refine oR 1 [(47, .bool e2)] kr ?_
        cases h4 : (e2)
        ·replace hs := bif_f h4 hs
         refine oR 2 [(49, .int .i64 q2.1), (48, .vs 1 (List.map (encL 1 EV.encB) use))] kr ?_
         obtain ⟨x1, g5, hs⟩ := bS hs; obtain ⟨g5a, g5b, g5c⟩ := idx_some g5
         refine oP (v := .vp [.vs 1 (mB x1)] 0) kr kr (loc_indexVs (e := 74) (sz := 1) (k := .i64) (els := (List.map (encL 1 EV.encB) use)) (cs := ((encL 1 EV.encB) x1)) kr kr kr g5a (by rw [g5c]; exact map_get _ (by omega))) ?_
         refine oR 2 [(52, .int .i64 q3.1), (51, .vs 1 (mB x1))] kr ?_
         obtain ⟨x2, g6, hs⟩ := bS hs; obtain ⟨g6a, g6b, g6c⟩ := idx_some g6
         refine oP (v := .vp [.bool x2] 0) kr kr (loc_indexVs (e := 4) (sz := 1) (k := .i64) (els := (mB x1)) (cs := (EV.encB x2)) kr kr kr g6a (by rw [g6c]; exact map_get _ (by omega))) ?_
         refine oR 2 [(55, .bool x2), (54, .bool x2)] kr ?_
         cases h5 : (x2)
         ·replace hs := bif_f h5 hs
          refine oR 10 [(65, .bool false), (64, .bool false), (63, .no), (62, .no), (61, .no), (60, .no), (59, .no), (58, .no), (57, .no), (56, .no)] kr ?_
          obtain ⟨⟨g7a, g7b⟩, hs⟩ := bG hs
          refine oP (v := .ptr 28 ((q3.2).length) ((Int.toNat q2.1) * 1 + 0)) kr kr (loc_indexRowT (e := 4) (sz := 1) (kk := 28) (L := (q3.2).length) (n := (q3.2).length) (k := .i64) (i := q2.1) kr kr kr g7a g7b) ?_
          obtain ⟨e3, he3, hs⟩ := bE hs
          refine o_loc (F := [(28, .row 4 1 0 (mB q3.2))]) (F' := [(28, .row 4 1 0 (mB (List.set q3.2 (Int.toNat q2.1) false)))]) (v := .no) [28] kr kr rfl kr (loc_storeRowT (L := (q3.2).length) (off := (Int.toNat q2.1) * 1 + 0) (els := (mB q3.2)) (cs := [.bool e3]) (c' := [.bool false]) (Int.toNat q2.1) 0 kr (by first | (simp only [List.length_map, List.length_set, cpyT_length]; done) | rfl) rfl (by rw [← he3]; exact map_get _ (by first | omega | (simp only [List.length_set, cpyT_length]; omega))) (by first | exact Nat.zero_le _ | omega) kr kr kr kr kr kr List.map_set.symm) kr ?_
          refine oN ?_
          obtain rfl := si hs
          refine nrm_join (List.set q3.2 (Int.toNat q2.1) false) rfl ?_
          exact Cut.trans (cut_eq 10 (v := .sl 1 28 ((q3.2).length) 0 ((q3.2).length)) (v' := .sl 1 28 (((List.set q3.2 (Int.toNat q2.1) false)).length) 0 (((List.set q3.2 (Int.toNat q2.1) false)).length)) kr (by first | rfl | simp only [List.length_set, cpyT_length])) (cut_of [0, 2, 8, 9, 10, 11, 12] [28, 20] kr kr kr)
         ·replace hs := bif_t h5 hs
          refine oR 3 [(58, .int .i64 (w64 (q1.1 - 1))), (57, .int .i64 q1.1), (56, .sl 1 20 ((q1.2).length) 0 ((q1.2).length))] kr ?_
          obtain ⟨⟨g8a, g8b⟩, hs⟩ := bG hs
          refine oP (v := .ptr 20 ((q1.2).length) ((Int.toNat (w64 (q1.1 - 1))) * 1 + 0)) kr kr (loc_indexRowT (e := 74) (sz := 1) (kk := 20) (L := (q1.2).length) (n := (q1.2).length) (k := .i64) (i := (w64 (q1.1 - 1))) kr kr kr g8a g8b) ?_
          obtain ⟨e4, he4, hs⟩ := bE hs
          refine o_loc (F := [(20, .row 74 1 0 (List.map (encL 1 EV.encB) q1.2))]) (F' := [(20, .row 74 1 0 (List.map (encL 1 EV.encB) q1.2))]) (v := .vs 1 (mB e4)) [20] kr kr rfl kr (loc_loadRow (L := (q1.2).length) (off := (Int.toNat (w64 (q1.1 - 1))) * 1 + 0) (els := (List.map (encL 1 EV.encB) q1.2)) (cs := [.vs 1 (mB e4)]) (Int.toNat (w64 (q1.1 - 1))) 0 kr (by first | (simp only [List.length_map, List.length_set, cpyT_length]; done) | rfl) rfl (by rw [← he4]; exact map_get _ (by first | omega | (simp only [List.length_set, cpyT_length]; omega))) kr) kr ?_
          refine oR 1 [(61, .int .i64 q3.1)] kr ?_
          obtain ⟨x3, g9, hs⟩ := bS hs; obtain ⟨g9a, g9b, g9c⟩ := idx_some g9
          refine oP (v := .vp [.bool x3] 0) kr kr (loc_indexVs (e := 4) (sz := 1) (k := .i64) (els := (mB e4)) (cs := (EV.encB x3)) kr kr kr g9a (by rw [g9c]; exact map_get _ (by omega))) ?_
          refine oR 3 [(65, .bool x3), (64, .bool x3), (63, .bool x3)] kr ?_
          obtain ⟨⟨g10a, g10b⟩, hs⟩ := bG hs
          refine oP (v := .ptr 28 ((q3.2).length) ((Int.toNat q2.1) * 1 + 0)) kr kr (loc_indexRowT (e := 4) (sz := 1) (kk := 28) (L := (q3.2).length) (n := (q3.2).length) (k := .i64) (i := q2.1) kr kr kr g10a g10b) ?_
          obtain ⟨e5, he5, hs⟩ := bE hs
          refine o_loc (F := [(28, .row 4 1 0 (mB q3.2))]) (F' := [(28, .row 4 1 0 (mB (List.set q3.2 (Int.toNat q2.1) x3)))]) (v := .no) [28] kr kr rfl kr (loc_storeRowT (L := (q3.2).length) (off := (Int.toNat q2.1) * 1 + 0) (els := (mB q3.2)) (cs := [.bool e5]) (c' := [.bool x3]) (Int.toNat q2.1) 0 kr (by first | (simp only [List.length_map, List.length_set, cpyT_length]; done) | rfl) rfl (by rw [← he5]; exact map_get _ (by first | omega | (simp only [List.length_set, cpyT_length]; omega))) (by first | exact Nat.zero_le _ | omega) kr kr kr kr kr kr List.map_set.symm) kr ?_
          refine oN ?_
          obtain rfl := si hs
          refine nrm_join (List.set q3.2 (Int.toNat q2.1) x3) rfl ?_
          exact Cut.trans (cut_eq 10 (v := .sl 1 28 ((q3.2).length) 0 ((q3.2).length)) (v' := .sl 1 28 (((List.set q3.2 (Int.toNat q2.1) x3)).length) 0 (((List.set q3.2 (Int.toNat q2.1) x3)).length)) kr (by first | rfl | simp only [List.length_set, cpyT_length])) (cut_of [0, 2, 8, 9, 10, 11, 12] [28, 20] kr kr kr)
        ·replace hs := bif_t h4 hs
         refine oR 18 [(65, .bool true), (64, .no), (63, .no), (62, .no), (61, .no), (60, .no), (59, .no), (58, .no), (57, .no), (56, .no), (55, .no), (54, .no), (53, .no), (52, .no), (51, .no), (50, .no), (49, .no), (48, .no)] kr ?_
         obtain ⟨⟨g11a, g11b⟩, hs⟩ := bG hs
         refine oP (v := .ptr 28 ((q3.2).length) ((Int.toNat q2.1) * 1 + 0)) kr kr (loc_indexRowT (e := 4) (sz := 1) (kk := 28) (L := (q3.2).length) (n := (q3.2).length) (k := .i64) (i := q2.1) kr kr kr g11a g11b) ?_
         obtain ⟨e6, he6, hs⟩ := bE hs
         refine o_loc (F := [(28, .row 4 1 0 (mB q3.2))]) (F' := [(28, .row 4 1 0 (mB (List.set q3.2 (Int.toNat q2.1) true)))]) (v := .no) [28] kr kr rfl kr (loc_storeRowT (L := (q3.2).length) (off := (Int.toNat q2.1) * 1 + 0) (els := (mB q3.2)) (cs := [.bool e6]) (c' := [.bool true]) (Int.toNat q2.1) 0 kr (by first | (simp only [List.length_map, List.length_set, cpyT_length]; done) | rfl) rfl (by rw [← he6]; exact map_get _ (by first | omega | (simp only [List.length_set, cpyT_length]; omega))) (by first | exact Nat.zero_le _ | omega) kr kr kr kr kr kr List.map_set.symm) kr ?_
         refine oN ?_
         obtain rfl := si hs
         refine nrm_join (List.set q3.2 (Int.toNat q2.1) true) rfl ?_
         exact Cut.trans (cut_eq 10 (v := .sl 1 28 ((q3.2).length) 0 ((q3.2).length)) (v' := .sl 1 28 (((List.set q3.2 (Int.toNat q2.1) true)).length) 0 (((List.set q3.2 (Int.toNat q2.1) true)).length)) kr (by first | rfl | simp only [List.length_set, cpyT_length])) (cut_of [0, 2, 8, 9, 10, 11, 12] [28, 20] kr kr kr)
       ·subst hz; clear hs; have hs := hk4; clear hk4
        refine nB (nT (vT (oR 3 [(12, .int .i64 (w64 (q3.1 + 1))), (40, .int .i64 (w64 (q3.1 + 1))), (39, .int .i64 q3.1)] kr ?_)))
        refine oN (nrm_fuel ((w64 (q3.1 + 1)), v4) hs ?_)
        exact cut_of [0, 2, 8, 9, 10, 11, 12] [28, 20] kr kr kr
      ·replace hs := bif_f h3 hs
       refine v_exit (exit_thenV (exit_fuel ?_))
       refine exit_blkV ?_
       obtain rfl := si hs
       refine nrm_join q3.2 rfl ?_
       exact cut_of [0, 2, 8, 9, 10, 11] [28, 20] kr kr kr
     ·subst hz; clear hs; have hs := hk3; clear hk3
      refine nB (nT (vT (oR 3 [(11, .int .i64 (w64 (q2.1 + 1))), (34, .int .i64 (w64 (q2.1 + 1))), (33, .int .i64 q2.1)] kr ?_)))
      refine oN (nrm_fuel ((w64 (q2.1 + 1)), v3) hs ?_)
      exact cut_of [0, 2, 8, 9, 10, 11] [28, 20] kr kr kr
    ·replace hs := bif_f h2 hs
     refine v_exit (exit_thenV (exit_fuel ?_))
     refine exit_blkV ?_
     obtain rfl := si hs
     refine nrm_join q2.2 rfl ?_
     exact cut_of [0, 2, 8, 9, 10] [28, 20] kr kr kr
   ·subst hz; clear hs; have hs := hk2; clear hk2
    refine nT (vT (oR 2 [(68, .sl 1 28 ((v2).length) 0 ((v2).length)), (67, .sl 1 20 ((q1.2).length) 0 ((q1.2).length))] kr ?_))
    refine o_to _ [(28, .row 4 1 (((mB v2)).length) (mB v2)), (20, .row 74 1 0 (List.map (encL 1 EV.encB) q1.2))] (cut_freeze (F := [(28, .row 4 1 0 (mB v2))]) [28] rfl kr kr) ?_
    refine o_to ((68, .vs 1 (mB v2)) :: _) _ (cut_view (R := [(28, .row 4 1 (((mB v2)).length) (mB v2))]) (ks := [28]) kr kr (.row (t := 4) (fz := (((mB v2)).length)) kr (by first | (simp only [List.length_map, List.length_set, cpyT_length]; done) | rfl))) ?_
    refine o_runh 1 [(69, .sl 1 69 1 0 1)] [(69, .row 74 1 0 (List.map (encL 1 EV.encB) [v2])), (28, .row 4 1 (((mB v2)).length) (mB v2)), (20, .row 74 1 0 (List.map (encL 1 EV.encB) q1.2))] kr ?_
    obtain ⟨_, g12, hs⟩ := bS hs; replace g12 := grd_some g12
    refine o_loc (F := [(20, .row 74 1 0 (List.map (encL 1 EV.encB) q1.2)), (69, .row 74 1 0 (List.map (encL 1 EV.encB) [v2]))]) (F' := [(20, .row 74 1 0 (List.map (encL 1 EV.encB) (q1.2 ++ [v2]))), (69, .row 74 1 0 (List.map (encL 1 EV.encB) [v2]))]) (v := .sl 1 20 (((q1.2 ++ [v2])).length) 0 (((q1.2 ++ [v2])).length)) [20, 69] kr kr rfl kr (loc_appendT (e := 74) (sz := 1) (bytes := 24) (L := (q1.2).length) (els := (List.map (encL 1 EV.encB) q1.2)) (ys := (List.map (encL 1 EV.encB) [v2])) kr kr (by first | exact List.length_map .. | rfl) (.sl (t := 74) (fz := 0) (ys := (List.map (encL 1 EV.encB) [v2])) kr kr) (map_ones (encL 1 EV.encB) (fun _ => rfl) _) (map_lens (encL 1 EV.encB) (fun _ => rfl) _) kr (by first | exact (List.map_append ..).symm | rfl | simp only [List.map_nil, List.nil_append]) (List.length_map ..) g12 (by omega)) kr ?_
    refine oR 1 [(8, .sl 1 20 (((q1.2 ++ [v2])).length) 0 (((q1.2 ++ [v2])).length))] kr ?_
    refine oN (nB (nT (vT (oR 3 [(9, .int .i64 (w64 (q1.1 + 1))), (25, .int .i64 (w64 (q1.1 + 1))), (24, .int .i64 q1.1)] kr ?_))))
    refine oN (nrm_fuel ((w64 (q1.1 + 1)), (q1.2 ++ [v2])) hs ?_)
    exact cut_of [0, 2, 8, 9] [20] kr kr kr
  ·replace hs := bif_f h1 hs
   refine v_exit (exit_thenV (exit_fuel ?_))
   refine exit_blkV ?_
   obtain rfl := si hs
   refine nrm_join q1.2 rfl ?_
   exact cut_of [8] [20] kr kr kr
 ·subst hz; clear hs; have hs := hk1; clear hk1
  refine nT (vS (vT (oR 2 [(6, .sl 1 20 ((v1).length) 0 ((v1).length)), (71, .sl 1 20 ((v1).length) 0 ((v1).length))] kr ?_)))
  refine oN (nT (v_to _ [(20, .row 74 1 (((List.map (encL 1 EV.encB) v1)).length) (List.map (encL 1 EV.encB) v1))] (cut_freeze (F := [(20, .row 74 1 0 (List.map (encL 1 EV.encB) v1))]) [20] rfl kr kr) ?_))
  refine v_to ((6, .vs 1 (List.map (encL 1 EV.encB) v1)) :: _) _ (cut_view (R := [(20, .row 74 1 (((List.map (encL 1 EV.encB) v1)).length) (List.map (encL 1 EV.encB) v1))]) (ks := [20]) kr kr (.row (t := 74) (fz := (((List.map (encL 1 EV.encB) v1)).length)) kr (by first | (simp only [List.length_map, List.length_set, cpyT_length]; done) | rfl))) ?_
  refine v_ret ?_
  obtain rfl := si hs
  exact fin_ret kr kr kr
theorem w_greenbeltref16_circle (p : Plan) (use : (List (List Bool))) (r : (List (List UInt8))) (hs : s_greenbeltref16_circle p use = some r) : FnA Try.prog 40 [.agg (enc_Plan p), .vs 1 (List.map (encL 1 EV.encB) use)] [] (.vs 1 (mS r)) [] := by
 refine fnA_of_wp (N := 139) Try.func40 rfl rfl rfl fun cK0 => ?_
 unfold s_greenbeltref16_circle at hs
 refine v_same (ρ' := [(0, .agg (enc_Plan p)), (1, .vs 1 (List.map (encL 1 EV.encB) use))]) rfl rfl ?_
 refine vS (vT (o_runh 2 [(4, .nils), (2, .ptr 2 0 0)] [(2, .box 30 (enc_Plan p))] kr ?_))
 refine oN (nT (vS (vT (oR 1 [(16, .vs 1 (List.map (encL 1 EV.encB) use))] kr ?_))))
 refine oP (v := .int .i64 (List.length use : Int)) kr kr (loc_lenVs (sz := 1) (els := (List.map (encL 1 EV.encB) use)) kr kr (List.length_map ..)) ?_
 refine oR 2 [(5, .int .i64 (w64 ((List.length use : Int) + 1))), (18, .int .i64 (w64 ((List.length use : Int) + 1)))] kr ?_
 refine oN (nT (vS (vT (oR 1 [(6, .int .i64 (-1))] kr ?_))))
 refine oN (nT (vS (vS (vT (oR 1 [(7, .int .i64 0)] kr ?_)))))
 refine oN (nT ?_)
 obtain ⟨z1, hs, hk1⟩ := bS hs
 refine v_join (S := Int × Int) (fun u => u = z1) (fun u => [(1, .vs 1 (List.map (encL 1 EV.encB) use)), (2, .ptr 2 0 0), (5, .int .i64 u.1), (6, .int .i64 u.2)]) (fun u => [(2, .box 30 (enc_Plan p))]) ?_ (fun v1 hz => ?_)
 ·refine vB ?_
  refine v_fuel (S := Int × Int × Int) (fun u => [(1, .vs 1 (List.map (encL 1 EV.encB) use)), (2, .ptr 2 0 0), (5, .int .i64 u.1), (6, .int .i64 u.2.1), (7, .int .i64 u.2.2)]) (fun u => [(2, .box 30 (enc_Plan p))]) (s_greenbeltref16_circle_L1 p use) (fun _ => rfl) KK ((w64 ((List.length use : Int) + 1)), (-1), 0) hs (cut_of [1, 2, 5, 6, 7] [2] kr kr kr) (fun K1 q1 hs => ?_)
  rw [s_greenbeltref16_circle_L1] at hs
  show WpV cK0 Try.prog none 139 _ _ [(1, .vs 1 (List.map (encL 1 EV.encB) use)), (2, .ptr 2 0 0), (5, .int .i64 q1.1), (6, .int .i64 q1.2.1), (7, .int .i64 q1.2.2)] [(2, .box 30 (enc_Plan p))] []
  refine vS (vS (vT (oR 2 [(20, .vs 1 (List.map (encL 1 EV.encB) use)), (19, .int .i64 q1.2.2)] kr ?_)))
  refine oP (v := .int .i64 (List.length use : Int)) kr kr (loc_lenVs (sz := 1) (els := (List.map (encL 1 EV.encB) use)) kr kr (List.length_map ..)) ?_
  refine oR 1 [(22, .bool (decide (q1.2.2 < (List.length use : Int))))] kr ?_
  refine oN (nT ?_)
  refine v_cond (decide (q1.2.2 < (List.length use : Int))) kr (fun h1 => ?_) (fun h1 => ?_)
  ·replace hs := bif_t h1 hs
   refine vK (nT (vS (vB (vS (vT (oR 3 [(27, .vs 1 (List.map (encL 1 EV.encB) use)), (26, .int .i64 q1.2.2), (25, .vs 1 (List.map (encL 1 EV.encB) use))] kr ?_))))))
   refine oP (v := .int .i64 (List.length use : Int)) kr kr (loc_lenVs (sz := 1) (els := (List.map (encL 1 EV.encB) use)) kr kr (List.length_map ..)) ?_
   obtain ⟨y1, c1, hs⟩ := bS hs
   refine oP (v := .vs 1 (List.map (encL 1 EV.encB) y1)) kr kr (loc_gcall0 (callV_func hbv58 kr) (w_greenbeltref16_back use q1.2.2 (List.length use : Int) _ c1) kr) ?_
   refine oR 1 [(8, .vs 1 (List.map (encL 1 EV.encB) y1))] kr ?_
   refine oN (nT (vS (vT (oR 1 [(9, .int .i64 1)] kr ?_))))
   refine oN (nT ?_)
   obtain ⟨z2, hs, hk2⟩ := bS hs
   refine v_join (S := Int × Int) (fun u => u = z2) (fun u => [(1, .vs 1 (List.map (encL 1 EV.encB) use)), (2, .ptr 2 0 0), (5, .int .i64 u.1), (6, .int .i64 u.2), (7, .int .i64 q1.2.2)]) (fun u => [(2, .box 30 (enc_Plan p))]) ?_ (fun v2 hz => ?_)
   ·refine vB ?_
    refine v_fuel (S := Int × Int × Int) (fun u => [(1, .vs 1 (List.map (encL 1 EV.encB) use)), (2, .ptr 2 0 0), (5, .int .i64 u.1), (6, .int .i64 u.2.1), (7, .int .i64 q1.2.2), (8, .vs 1 (List.map (encL 1 EV.encB) y1)), (9, .int .i64 u.2.2)]) (fun u => [(2, .box 30 (enc_Plan p))]) (s_greenbeltref16_circle_L2 p y1 q1) (fun _ => rfl) KK (q1.1, q1.2.1, 1) hs (cut_of [1, 2, 5, 6, 7, 8, 9] [2] kr kr kr) (fun K2 q2 hs => ?_)
    rw [s_greenbeltref16_circle_L2] at hs
    show WpV cK0 Try.prog none 139 _ _ [(1, .vs 1 (List.map (encL 1 EV.encB) use)), (2, .ptr 2 0 0), (5, .int .i64 q2.1), (6, .int .i64 q2.2.1), (7, .int .i64 q1.2.2), (8, .vs 1 (List.map (encL 1 EV.encB) y1)), (9, .int .i64 q2.2.2)] [(2, .box 30 (enc_Plan p))] []
    refine vS (vS ?_)
    obtain ⟨z3, hs, hk3⟩ := bS hs
    refine v_join (S := Bool) (fun u => u = z3) (fun u => [(1, .vs 1 (List.map (encL 1 EV.encB) use)), (2, .ptr 2 0 0), (5, .int .i64 q2.1), (6, .int .i64 q2.2.1), (7, .int .i64 q1.2.2), (8, .vs 1 (List.map (encL 1 EV.encB) y1)), (9, .int .i64 q2.2.2), (38, .bool u)]) (fun u => [(2, .box 30 (enc_Plan p))]) ?_ (fun v3 hz => ?_)
    ·refine vT (oR 2 [(31, .vs 1 (List.map (encL 1 EV.encB) y1)), (30, .int .i64 q2.2.2)] kr ?_)
     refine oP (v := .int .i64 (List.length y1 : Int)) kr kr (loc_lenVs (sz := 1) (els := (List.map (encL 1 EV.encB) y1)) kr kr (List.length_map ..)) ?_
     refine oR 2 [(34, .bool (decide (q2.2.2 < (List.length y1 : Int)))), (33, .bool (decide (q2.2.2 < (List.length y1 : Int))))] kr ?_
     cases h2 : ((decide (q2.2.2 < (List.length y1 : Int))))
     ·replace hs := bif_f h2 hs
      refine oR 4 [(38, .bool false), (37, .no), (36, .no), (35, .no)] kr ?_
      refine oN ?_
      obtain rfl := si hs
      refine nrm_join false rfl ?_
      exact cut_of [1, 2, 5, 6, 7, 8, 9, 38] [2] kr kr kr
     ·replace hs := bif_t h2 hs
      refine oR 4 [(38, .bool (decide (q2.2.2 ≤ q2.1))), (37, .bool (decide (q2.2.2 ≤ q2.1))), (36, .int .i64 q2.1), (35, .int .i64 q2.2.2)] kr ?_
      refine oN ?_
      obtain rfl := si hs
      refine nrm_join (decide (q2.2.2 ≤ q2.1)) rfl ?_
      exact cut_of [1, 2, 5, 6, 7, 8, 9, 38] [2] kr kr kr
    ·subst hz; clear hs; have hs := hk3; clear hk3
     refine nT ?_
     refine v_cond v3 kr (fun h3 => ?_) (fun h3 => ?_)
     ·replace hs := bif_t h3 hs
      refine vK (nT (vS (vB (vS ?_))))
      obtain ⟨z4, hs, hk4⟩ := bS hs
      refine v_join (S := Bool) (fun u => u = z4) (fun u => [(1, .vs 1 (List.map (encL 1 EV.encB) use)), (2, .ptr 2 0 0), (5, .int .i64 q2.1), (6, .int .i64 q2.2.1), (7, .int .i64 q1.2.2), (8, .vs 1 (List.map (encL 1 EV.encB) y1)), (9, .int .i64 q2.2.2), (68, .bool u)]) (fun u => [(2, .box 30 (enc_Plan p))]) ?_ (fun v4 hz => ?_)
      ·refine v_draw mixedH kr ?_
       refine d_runs 2 0 [(42, .int .i64 q2.2.2), (41, .vs 1 (List.map (encL 1 EV.encB) y1))] (pfp 2 1) kr kr ?_
       obtain ⟨x1, g1, hs⟩ := bS hs; obtain ⟨g1a, g1b, g1c⟩ := idx_some g1
       refine d_pure (v := .vp [.vs 1 (mB x1)] 0) 2 rfl rfl rfl rfl kr kr (loc_indexVs (e := 74) (sz := 1) (k := .i64) (els := (List.map (encL 1 EV.encB) y1)) (cs := ((encL 1 EV.encB) x1)) kr kr kr g1a (by rw [g1c]; exact map_get _ (by omega))) ?_
       refine d_runs 2 3 [(45, .int .i64 q1.2.2), (44, .vs 1 (mB x1))] (pfp 2 4) kr kr ?_
       obtain ⟨x2, g2, hs⟩ := bS hs; obtain ⟨g2a, g2b, g2c⟩ := idx_some g2
       refine d_pure (v := .vp [.bool x2] 0) 5 rfl rfl rfl rfl kr kr (loc_indexVs (e := 4) (sz := 1) (k := .i64) (els := (mB x1)) (cs := (EV.encB x2)) kr kr kr g2a (by rw [g2c]; exact map_get _ (by omega))) ?_
       refine d_runs 2 6 [(48, .bool x2), (47, .bool x2)] (pfp 2 7) kr kr ?_
       cases h4 : (x2)
       ·replace hs := bif_f h4 hs
        refine d_runs 20 8 [(68, .bool false), (67, .no), (66, .no), (65, .no), (64, .no), (63, .no), (62, .no), (61, .no), (60, .no), (59, .no), (58, .no), (57, .no), (56, .no), (55, .no), (54, .no), (53, .no), (52, .no), (51, .no), (50, .no), (49, .no)] (pfp 20 27) kr kr ?_
        refine d_nil kr ?_
        obtain rfl := si hs
        refine nrm_join false rfl ?_
        exact cut_of [1, 2, 5, 6, 7, 8, 9, 68] [2] kr kr kr
       ·replace hs := bif_t h4 hs
        refine d_runs 4 8 [(52, .bool (decide (q2.2.2 < q2.1))), (51, .bool (decide (q2.2.2 < q2.1))), (50, .int .i64 q2.1), (49, .int .i64 q2.2.2)] (pfp 4 11) kr kr ?_
        cases h5 : ((decide (q2.2.2 < q2.1)))
        ·replace hs := bif_f h5 hs
         refine d_runs 3 12 [(55, .int .i64 q1.2.2), (54, .vs 6 (mM enc_Def p.Defs)), (53, .ptr 2 0 0)] [⟨14, [], []⟩, ⟨13, [], [2]⟩, ⟨12, [], []⟩] kr kr ?_
         obtain ⟨x3, g3, hs⟩ := bS hs; obtain ⟨g3a, g3b, g3c⟩ := idx_some g3
         refine d_pure (v := .vp (enc_Def x3) 0) 15 rfl rfl rfl rfl kr kr (loc_indexVs (e := 46) (sz := 6) (k := .i64) (els := (mM enc_Def p.Defs)) (cs := (enc_Def x3)) kr kr kr g3a (by rw [g3c]; exact map_get _ (by omega))) ?_
         refine d_runs 6 16 [(62, .int .i64 (max q2.2.1 0)), (61, .int .i64 q2.2.1), (60, .vs 6 (mM enc_Def p.Defs)), (59, .ptr 2 0 0), (58, .str x3.Name), (57, .vp (enc_Def x3) 0)] [⟨21, [], []⟩, ⟨20, [], []⟩, ⟨19, [], [2]⟩, ⟨18, [], []⟩, ⟨17, [], []⟩, ⟨16, [], []⟩] kr kr ?_
         obtain ⟨x4, g4, hs⟩ := bS hs; obtain ⟨g4a, g4b, g4c⟩ := idx_some g4
         refine d_pure (v := .vp (enc_Def x4) 0) 22 rfl rfl rfl rfl kr kr (loc_indexVs (e := 46) (sz := 6) (k := .i64) (els := (mM enc_Def p.Defs)) (cs := (enc_Def x4)) kr kr kr g4a (by rw [g4c]; exact map_get _ (by omega))) ?_
         refine d_runs 5 23 [(68, .bool (Op.bytesLess x3.Name x4.Name)), (67, .bool (Op.bytesLess x3.Name x4.Name)), (66, .bool (Op.bytesLess x3.Name x4.Name)), (65, .str x4.Name), (64, .vp (enc_Def x4) 0)] (pfp 5 27) kr kr ?_
         refine d_nil kr ?_
         obtain rfl := si hs
         refine nrm_join (Op.bytesLess x3.Name x4.Name) rfl ?_
         exact cut_of [1, 2, 5, 6, 7, 8, 9, 68] [2] kr kr kr
        ·replace hs := bif_t h5 hs
         refine d_runs 16 12 [(68, .bool true), (67, .bool true), (66, .no), (65, .no), (64, .no), (63, .no), (62, .no), (61, .no), (60, .no), (59, .no), (58, .no), (57, .no), (56, .no), (55, .no), (54, .no), (53, .no)] (pfp 16 27) kr kr ?_
         refine d_nil kr ?_
         obtain rfl := si hs
         refine nrm_join true rfl ?_
         exact cut_of [1, 2, 5, 6, 7, 8, 9, 68] [2] kr kr kr
      ·subst hz; clear hs; have hs := hk4; clear hk4
       refine nT ?_
       obtain ⟨z5, hs, hk5⟩ := bS hs
       refine v_join (S := Int × Int) (fun u => u = z5) (fun u => [(1, .vs 1 (List.map (encL 1 EV.encB) use)), (2, .ptr 2 0 0), (5, .int .i64 u.1), (6, .int .i64 u.2), (7, .int .i64 q1.2.2), (8, .vs 1 (List.map (encL 1 EV.encB) y1)), (9, .int .i64 q2.2.2)]) (fun u => [(2, .box 30 (enc_Plan p))]) ?_ (fun v5 hz => ?_)
       ·refine v_cond v4 kr (fun h6 => ?_) (fun h6 => ?_)
        ·replace hs := bif_t h6 hs
         refine vS (vT (oR 2 [(5, .int .i64 q2.2.2), (69, .int .i64 q2.2.2)] kr ?_))
         refine oN (nT (vT (oR 2 [(6, .int .i64 q1.2.2), (70, .int .i64 q1.2.2)] kr ?_)))
         refine oN ?_
         obtain rfl := si hs
         refine nrm_join (q2.2.2, q1.2.2) rfl ?_
         exact cut_of [1, 2, 5, 6, 7, 8, 9] [2] kr kr kr
        ·replace hs := bif_f h6 hs
         refine vK ?_
         obtain rfl := si hs
         refine nrm_join (q2.1, q2.2.1) rfl ?_
         exact cut_of [1, 2, 5, 6, 7, 8, 9] [2] kr kr kr
       ·subst hz; clear hs; have hs := hk5; clear hk5
        refine nB (nT (vT (oR 3 [(9, .int .i64 (w64 (q2.2.2 + 1))), (40, .int .i64 (w64 (q2.2.2 + 1))), (39, .int .i64 q2.2.2)] kr ?_)))
        refine oN (nrm_fuel (v5.1, v5.2, (w64 (q2.2.2 + 1))) hs ?_)
        exact cut_of [1, 2, 5, 6, 7, 8, 9] [2] kr kr kr
     ·replace hs := bif_f h3 hs
      refine v_exit (exit_thenV (exit_fuel ?_))
      refine exit_blkV ?_
      obtain rfl := si hs
      refine nrm_join (q2.1, q2.2.1) rfl ?_
      exact cut_of [1, 2, 5, 6, 7] [2] kr kr kr
   ·subst hz; clear hs; have hs := hk2; clear hk2
    refine nB (nT (vT (oR 3 [(7, .int .i64 (w64 (q1.2.2 + 1))), (24, .int .i64 (w64 (q1.2.2 + 1))), (23, .int .i64 q1.2.2)] kr ?_)))
    refine oN (nrm_fuel (v2.1, v2.2, (w64 (q1.2.2 + 1))) hs ?_)
    exact cut_of [1, 2, 5, 6, 7] [2] kr kr kr
  ·replace hs := bif_f h1 hs
   refine v_exit (exit_thenV (exit_fuel ?_))
   refine exit_blkV ?_
   obtain rfl := si hs
   refine nrm_join (q1.1, q1.2.1) rfl ?_
   exact cut_of [1, 2, 5, 6] [2] kr kr kr
 ·subst hz; clear hs; have hs := hk1; clear hk1
  refine nT (vS (vS (vT (oR 2 [(72, .bool (decide (v1.2 < 0))), (71, .int .i64 v1.2)] kr ?_))))
  refine oN (nT ?_)
  refine v_cond (decide (v1.2 < 0)) kr (fun h7 => ?_) (fun h7 => ?_)
  ·replace hs := bif_t h7 hs
   refine vS (vT (oR 1 [(4, .nils)] kr ?_))
   refine oN (nT (v_to ((4, .vs 1 (mS [])) :: _) _ (cut_view (R := []) (ks := []) kr kr (.nils 1)) ?_))
   refine v_ret (rT ?_)
   obtain rfl := si hs
   exact fin_ret kr kr kr
  ·replace hs := bif_f h7 hs
   refine vK (nT (vS (vT (oR 3 [(75, .int .i64 v1.1), (74, .int .i64 v1.2), (73, .vs 1 (List.map (encL 1 EV.encB) use))] kr ?_))))
   obtain ⟨y2, c2, hs⟩ := bS hs
   refine oP (v := .vs 1 (List.map (encL 1 EV.encB) y2)) kr kr (loc_gcall0 (callV_func hbv58 kr) (w_greenbeltref16_back use v1.2 v1.1 _ c2) kr) ?_
   refine oR 1 [(10, .vs 1 (List.map (encL 1 EV.encB) y2))] kr ?_
   refine oN (nT (vS (vT (oR 2 [(11, .int .i64 v1.2), (77, .int .i64 v1.2)] kr ?_))))
   refine oN (nT (vS (vT (oR 1 [(12, .nils)] kr ?_))))
   refine oN (nT (vS (vS (vT (oR 3 [(13, .int .i64 (w64 (v1.1 - 1))), (79, .int .i64 (w64 (v1.1 - 1))), (78, .int .i64 v1.1)] kr ?_)))))
   refine oN (nT ?_)
   obtain ⟨z6, hs, hk6⟩ := bS hs
   refine v_join (S := (List (List UInt8))) (fun u => u = z6) (fun u => [(12, .sl 1 2000084 ((u).length) 0 ((u).length))]) (fun u => [(2000084, .row 9 1 0 (mS u))]) ?_ (fun v6 hz => ?_)
   ·refine vB ?_
    refine v_fuel (S := Int × Int × (List (List UInt8))) (fun u => [(1, .vs 1 (List.map (encL 1 EV.encB) use)), (2, .ptr 2 0 0), (10, .vs 1 (List.map (encL 1 EV.encB) y2)), (11, .int .i64 u.1), (12, .sl 1 2000084 ((u.2.2).length) 0 ((u.2.2).length)), (13, .int .i64 u.2.1)]) (fun u => [(2, .box 30 (enc_Plan p)), (2000084, .row 9 1 0 (mS u.2.2))]) (s_greenbeltref16_circle_L3 p use y2) (fun _ => rfl) KK (v1.2, (w64 (v1.1 - 1)), []) hs (Cut.trans (cut_nilRow 12 2000084 9 1 rfl kr kr) (cut_of [1, 2, 10, 11, 12, 13] [2, 2000084] kr kr kr)) (fun K3 q3 hs => ?_)
    rw [s_greenbeltref16_circle_L3] at hs
    show WpV cK0 Try.prog none 139 _ _ [(1, .vs 1 (List.map (encL 1 EV.encB) use)), (2, .ptr 2 0 0), (10, .vs 1 (List.map (encL 1 EV.encB) y2)), (11, .int .i64 q3.1), (12, .sl 1 2000084 ((q3.2.2).length) 0 ((q3.2.2).length)), (13, .int .i64 q3.2.1)] [(2, .box 30 (enc_Plan p)), (2000084, .row 9 1 0 (mS q3.2.2))] []
    refine vS (vS (vT (oR 2 [(81, .bool (decide (q3.2.1 ≥ 0))), (80, .int .i64 q3.2.1)] kr ?_)))
    refine oN (nT ?_)
    refine v_cond (decide (q3.2.1 ≥ 0)) kr (fun h8 => ?_) (fun h8 => ?_)
    ·replace hs := bif_t h8 hs
     refine vK (nT (vS (vB (vS (vT (oR 4 [(87, .int .i64 q3.1), (86, .vs 6 (mM enc_Def p.Defs)), (85, .ptr 2 0 0), (84, .sl 1 2000084 ((q3.2.2).length) 0 ((q3.2.2).length))] kr ?_))))))
     obtain ⟨x5, g5, hs⟩ := bS hs; obtain ⟨g5a, g5b, g5c⟩ := idx_some g5
     refine oP (v := .vp (enc_Def x5) 0) kr kr (loc_indexVs (e := 46) (sz := 6) (k := .i64) (els := (mM enc_Def p.Defs)) (cs := (enc_Def x5)) kr kr kr g5a (by rw [g5c]; exact map_get _ (by omega))) ?_
     refine o_runh 3 [(91, .sl 1 91 1 0 1), (90, .str x5.Name), (89, .vp (enc_Def x5) 0)] [(91, .row 9 1 0 (mS [x5.Name])), (2, .box 30 (enc_Plan p)), (2000084, .row 9 1 0 (mS q3.2.2))] kr ?_
     obtain ⟨_, g6, hs⟩ := bS hs; replace g6 := grd_some g6
     refine o_loc (F := [(2000084, .row 9 1 0 (mS q3.2.2)), (91, .row 9 1 0 (mS [x5.Name]))]) (F' := [(2000084, .row 9 1 0 (mS (q3.2.2 ++ [x5.Name]))), (91, .row 9 1 0 (mS [x5.Name]))]) (v := .sl 1 2000084 (((q3.2.2 ++ [x5.Name])).length) 0 (((q3.2.2 ++ [x5.Name])).length)) [2000084, 91] kr kr rfl kr (loc_appendT (e := 9) (sz := 1) (bytes := 16) (L := (q3.2.2).length) (els := (mS q3.2.2)) (ys := (mS [x5.Name])) kr kr (by first | exact List.length_map .. | rfl) (.sl (t := 9) (fz := 0) (ys := (mS [x5.Name])) kr kr) (map_ones EV.encS (fun _ => rfl) _) (map_lens EV.encS (fun _ => rfl) _) kr (by first | exact (List.map_append ..).symm | rfl | simp only [List.map_nil, List.nil_append]) (List.length_map ..) g6 (by omega)) kr ?_
     refine oR 1 [(12, .sl 1 2000084 (((q3.2.2 ++ [x5.Name])).length) 0 (((q3.2.2 ++ [x5.Name])).length))] kr ?_
     refine oN (nT (vS (vT (oR 1 [(14, .int .i64 (-1))] kr ?_))))
     refine oN (nT (vS (vS (vT (oR 1 [(15, .int .i64 0)] kr ?_)))))
     refine oN (nT ?_)
     obtain ⟨z7, hs, hk7⟩ := bS hs
     refine v_join (S := Int) (fun u => u = z7) (fun u => [(1, .vs 1 (List.map (encL 1 EV.encB) use)), (2, .ptr 2 0 0), (10, .vs 1 (List.map (encL 1 EV.encB) y2)), (12, .sl 1 2000084 (((q3.2.2 ++ [x5.Name])).length) 0 (((q3.2.2 ++ [x5.Name])).length)), (13, .int .i64 q3.2.1), (14, .int .i64 u)]) (fun u => [(2000084, .row 9 1 0 (mS (q3.2.2 ++ [x5.Name]))), (2, .box 30 (enc_Plan p))]) ?_ (fun v7 hz => ?_)
     ·refine vB ?_
      refine v_fuel (S := Int × Int) (fun u => [(1, .vs 1 (List.map (encL 1 EV.encB) use)), (2, .ptr 2 0 0), (10, .vs 1 (List.map (encL 1 EV.encB) y2)), (11, .int .i64 q3.1), (12, .sl 1 2000084 (((q3.2.2 ++ [x5.Name])).length) 0 (((q3.2.2 ++ [x5.Name])).length)), (13, .int .i64 q3.2.1), (14, .int .i64 u.1), (15, .int .i64 u.2)]) (fun u => [(2000084, .row 9 1 0 (mS (q3.2.2 ++ [x5.Name]))), (2, .box 30 (enc_Plan p))]) (s_greenbeltref16_circle_L4 p use y2 q3) (fun _ => rfl) KK ((-1), 0) hs (cut_of [1, 2, 10, 11, 12, 13, 14, 15] [2000084, 2] kr kr kr) (fun K4 q4 hs => ?_)
      rw [s_greenbeltref16_circle_L4] at hs
      show WpV cK0 Try.prog none 139 _ _ [(1, .vs 1 (List.map (encL 1 EV.encB) use)), (2, .ptr 2 0 0), (10, .vs 1 (List.map (encL 1 EV.encB) y2)), (11, .int .i64 q3.1), (12, .sl 1 2000084 (((q3.2.2 ++ [x5.Name])).length) 0 (((q3.2.2 ++ [x5.Name])).length)), (13, .int .i64 q3.2.1), (14, .int .i64 q4.1), (15, .int .i64 q4.2)] [(2000084, .row 9 1 0 (mS (q3.2.2 ++ [x5.Name]))), (2, .box 30 (enc_Plan p))] []
      refine vS (vS (vT (oR 2 [(94, .vs 1 (List.map (encL 1 EV.encB) use)), (93, .int .i64 q4.2)] kr ?_)))
      refine oP (v := .int .i64 (List.length use : Int)) kr kr (loc_lenVs (sz := 1) (els := (List.map (encL 1 EV.encB) use)) kr kr (List.length_map ..)) ?_
      refine oR 1 [(96, .bool (decide (q4.2 < (List.length use : Int))))] kr ?_
      refine oN (nT ?_)
      refine v_cond (decide (q4.2 < (List.length use : Int))) kr (fun h9 => ?_) (fun h9 => ?_)
      ·replace hs := bif_t h9 hs
       refine vK (nT (vS (vB (vS ?_))))
       obtain ⟨z8, hs, hk8⟩ := bS hs
       refine v_join (S := Bool) (fun u => u = z8) (fun u => [(1, .vs 1 (List.map (encL 1 EV.encB) use)), (2, .ptr 2 0 0), (10, .vs 1 (List.map (encL 1 EV.encB) y2)), (11, .int .i64 q3.1), (12, .sl 1 2000084 (((q3.2.2 ++ [x5.Name])).length) 0 (((q3.2.2 ++ [x5.Name])).length)), (13, .int .i64 q3.2.1), (14, .int .i64 q4.1), (15, .int .i64 q4.2), (134, .bool u)]) (fun u => [(2000084, .row 9 1 0 (mS (q3.2.2 ++ [x5.Name]))), (2, .box 30 (enc_Plan p))]) ?_ (fun v8 hz => ?_)
       ·refine v_draw mixedH kr ?_
        refine d_runs 2 0 [(100, .int .i64 q3.1), (99, .vs 1 (List.map (encL 1 EV.encB) use))] (pfp 2 1) kr kr ?_
        obtain ⟨x6, g7, hs⟩ := bS hs; obtain ⟨g7a, g7b, g7c⟩ := idx_some g7
        refine d_pure (v := .vp [.vs 1 (mB x6)] 0) 2 rfl rfl rfl rfl kr kr (loc_indexVs (e := 74) (sz := 1) (k := .i64) (els := (List.map (encL 1 EV.encB) use)) (cs := ((encL 1 EV.encB) x6)) kr kr kr g7a (by rw [g7c]; exact map_get _ (by omega))) ?_
        refine d_runs 2 3 [(103, .int .i64 q4.2), (102, .vs 1 (mB x6))] (pfp 2 4) kr kr ?_
        obtain ⟨x7, g8, hs⟩ := bS hs; obtain ⟨g8a, g8b, g8c⟩ := idx_some g8
        refine d_pure (v := .vp [.bool x7] 0) 5 rfl rfl rfl rfl kr kr (loc_indexVs (e := 4) (sz := 1) (k := .i64) (els := (mB x6)) (cs := (EV.encB x7)) kr kr kr g8a (by rw [g8c]; exact map_get _ (by omega))) ?_
        refine d_runs 2 6 [(106, .bool x7), (105, .bool x7)] (pfp 2 7) kr kr ?_
        cases h10 : (x7)
        ·replace hs := bif_f h10 hs
         refine d_runs 28 8 [(134, .bool false), (133, .no), (132, .no), (131, .no), (130, .no), (129, .no), (128, .no), (127, .no), (126, .no), (125, .no), (124, .no), (123, .no), (122, .no), (121, .no), (120, .no), (119, .no), (118, .no), (117, .no), (116, .no), (115, .bool false), (114, .bool false), (113, .no), (112, .no), (111, .no), (110, .no), (109, .no), (108, .no), (107, .no)] (pfp 28 35) kr kr ?_
         refine d_nil kr ?_
         obtain rfl := si hs
         refine nrm_join false rfl ?_
         exact cut_of [1, 2, 10, 11, 12, 13, 14, 15, 134] [2000084, 2] kr kr kr
        ·replace hs := bif_t h10 hs
         refine d_runs 2 8 [(108, .int .i64 q3.2.1), (107, .vs 1 (List.map (encL 1 EV.encB) y2))] (pfp 2 9) kr kr ?_
         obtain ⟨x8, g9, hs⟩ := bS hs; obtain ⟨g9a, g9b, g9c⟩ := idx_some g9
         refine d_pure (v := .vp [.vs 1 (mB x8)] 0) 10 rfl rfl rfl rfl kr kr (loc_indexVs (e := 74) (sz := 1) (k := .i64) (els := (List.map (encL 1 EV.encB) y2)) (cs := ((encL 1 EV.encB) x8)) kr kr kr g9a (by rw [g9c]; exact map_get _ (by omega))) ?_
         refine d_runs 2 11 [(111, .int .i64 q4.2), (110, .vs 1 (mB x8))] (pfp 2 12) kr kr ?_
         obtain ⟨x9, g10, hs⟩ := bS hs; obtain ⟨g10a, g10b, g10c⟩ := idx_some g10
         refine d_pure (v := .vp [.bool x9] 0) 13 rfl rfl rfl rfl kr kr (loc_indexVs (e := 4) (sz := 1) (k := .i64) (els := (mB x8)) (cs := (EV.encB x9)) kr kr kr g10a (by rw [g10c]; exact map_get _ (by omega))) ?_
         refine d_runs 3 14 [(115, .bool x9), (114, .bool x9), (113, .bool x9)] (pfp 3 16) kr kr ?_
         cases h11 : (x9)
         ·replace hs := bif_f h11 hs
          refine d_runs 19 17 [(134, .bool false), (133, .no), (132, .no), (131, .no), (130, .no), (129, .no), (128, .no), (127, .no), (126, .no), (125, .no), (124, .no), (123, .no), (122, .no), (121, .no), (120, .no), (119, .no), (118, .no), (117, .no), (116, .no)] (pfp 19 35) kr kr ?_
          refine d_nil kr ?_
          obtain rfl := si hs
          refine nrm_join false rfl ?_
          exact cut_of [1, 2, 10, 11, 12, 13, 14, 15, 134] [2000084, 2] kr kr kr
         ·replace hs := bif_t h11 hs
          refine d_runs 3 17 [(118, .bool (decide (q4.1 < 0))), (117, .bool (decide (q4.1 < 0))), (116, .int .i64 q4.1)] (pfp 3 19) kr kr ?_
          cases h12 : ((decide (q4.1 < 0)))
          ·replace hs := bif_f h12 hs
           refine d_runs 3 20 [(121, .int .i64 q4.2), (120, .vs 6 (mM enc_Def p.Defs)), (119, .ptr 2 0 0)] [⟨22, [], []⟩, ⟨21, [], [2]⟩, ⟨20, [], []⟩] kr kr ?_
           obtain ⟨x10, g11, hs⟩ := bS hs; obtain ⟨g11a, g11b, g11c⟩ := idx_some g11
           refine d_pure (v := .vp (enc_Def x10) 0) 23 rfl rfl rfl rfl kr kr (loc_indexVs (e := 46) (sz := 6) (k := .i64) (els := (mM enc_Def p.Defs)) (cs := (enc_Def x10)) kr kr kr g11a (by rw [g11c]; exact map_get _ (by omega))) ?_
           refine d_runs 6 24 [(128, .int .i64 (max q4.1 0)), (127, .int .i64 q4.1), (126, .vs 6 (mM enc_Def p.Defs)), (125, .ptr 2 0 0), (124, .str x10.Name), (123, .vp (enc_Def x10) 0)] [⟨29, [], []⟩, ⟨28, [], []⟩, ⟨27, [], [2]⟩, ⟨26, [], []⟩, ⟨25, [], []⟩, ⟨24, [], []⟩] kr kr ?_
           obtain ⟨x11, g12, hs⟩ := bS hs; obtain ⟨g12a, g12b, g12c⟩ := idx_some g12
           refine d_pure (v := .vp (enc_Def x11) 0) 30 rfl rfl rfl rfl kr kr (loc_indexVs (e := 46) (sz := 6) (k := .i64) (els := (mM enc_Def p.Defs)) (cs := (enc_Def x11)) kr kr kr g12a (by rw [g12c]; exact map_get _ (by omega))) ?_
           refine d_runs 5 31 [(134, .bool (Op.bytesLess x10.Name x11.Name)), (133, .bool (Op.bytesLess x10.Name x11.Name)), (132, .bool (Op.bytesLess x10.Name x11.Name)), (131, .str x11.Name), (130, .vp (enc_Def x11) 0)] (pfp 5 35) kr kr ?_
           refine d_nil kr ?_
           obtain rfl := si hs
           refine nrm_join (Op.bytesLess x10.Name x11.Name) rfl ?_
           exact cut_of [1, 2, 10, 11, 12, 13, 14, 15, 134] [2000084, 2] kr kr kr
          ·replace hs := bif_t h12 hs
           refine d_runs 16 20 [(134, .bool true), (133, .bool true), (132, .no), (131, .no), (130, .no), (129, .no), (128, .no), (127, .no), (126, .no), (125, .no), (124, .no), (123, .no), (122, .no), (121, .no), (120, .no), (119, .no)] (pfp 16 35) kr kr ?_
           refine d_nil kr ?_
           obtain rfl := si hs
           refine nrm_join true rfl ?_
           exact cut_of [1, 2, 10, 11, 12, 13, 14, 15, 134] [2000084, 2] kr kr kr
       ·subst hz; clear hs; have hs := hk8; clear hk8
        refine nT ?_
        obtain ⟨z9, hs, hk9⟩ := bS hs
        refine v_join (S := Int) (fun u => u = z9) (fun u => [(1, .vs 1 (List.map (encL 1 EV.encB) use)), (2, .ptr 2 0 0), (10, .vs 1 (List.map (encL 1 EV.encB) y2)), (11, .int .i64 q3.1), (12, .sl 1 2000084 (((q3.2.2 ++ [x5.Name])).length) 0 (((q3.2.2 ++ [x5.Name])).length)), (13, .int .i64 q3.2.1), (14, .int .i64 u), (15, .int .i64 q4.2)]) (fun u => [(2000084, .row 9 1 0 (mS (q3.2.2 ++ [x5.Name]))), (2, .box 30 (enc_Plan p))]) ?_ (fun v9 hz => ?_)
        ·refine v_cond v8 kr (fun h13 => ?_) (fun h13 => ?_)
         ·replace hs := bif_t h13 hs
          refine vT (oR 2 [(14, .int .i64 q4.2), (135, .int .i64 q4.2)] kr ?_)
          refine oN ?_
          obtain rfl := si hs
          refine nrm_join q4.2 rfl ?_
          exact cut_of [1, 2, 10, 11, 12, 13, 14, 15] [2000084, 2] kr kr kr
         ·replace hs := bif_f h13 hs
          refine vK ?_
          obtain rfl := si hs
          refine nrm_join q4.1 rfl ?_
          exact cut_of [1, 2, 10, 11, 12, 13, 14, 15] [2000084, 2] kr kr kr
        ·subst hz; clear hs; have hs := hk9; clear hk9
         refine nB (nT (vT (oR 3 [(15, .int .i64 (w64 (q4.2 + 1))), (98, .int .i64 (w64 (q4.2 + 1))), (97, .int .i64 q4.2)] kr ?_)))
         refine oN (nrm_fuel (v9, (w64 (q4.2 + 1))) hs ?_)
         exact cut_of [1, 2, 10, 11, 12, 13, 14, 15] [2000084, 2] kr kr kr
      ·replace hs := bif_f h9 hs
       refine v_exit (exit_thenV (exit_fuel ?_))
       refine exit_blkV ?_
       obtain rfl := si hs
       refine nrm_join q4.1 rfl ?_
       exact cut_of [1, 2, 10, 12, 13, 14] [2000084, 2] kr kr kr
     ·subst hz; clear hs; have hs := hk7; clear hk7
      refine nT (vT (oR 3 [(11, .int .i64 (max v7 0)), (137, .int .i64 (max v7 0)), (136, .int .i64 v7)] kr ?_))
      refine oN (nB (nT (vT (oR 3 [(13, .int .i64 (w64 (q3.2.1 - 1))), (83, .int .i64 (w64 (q3.2.1 - 1))), (82, .int .i64 q3.2.1)] kr ?_))))
      refine oN (nrm_fuel ((max v7 0), (w64 (q3.2.1 - 1)), (q3.2.2 ++ [x5.Name])) hs ?_)
      exact cut_of [1, 2, 10, 11, 12, 13] [2, 2000084] kr kr kr
    ·replace hs := bif_f h8 hs
     refine v_exit (exit_thenV (exit_fuel ?_))
     refine exit_blkV ?_
     obtain rfl := si hs
     refine nrm_join q3.2.2 rfl ?_
     exact cut_of [12] [2000084] kr kr kr
   ·subst hz; clear hs; have hs := hk6; clear hk6
    refine nT (vS (vT (oR 2 [(4, .sl 1 2000084 ((v6).length) 0 ((v6).length)), (138, .sl 1 2000084 ((v6).length) 0 ((v6).length))] kr ?_)))
    refine oN (nT (v_to _ [(2000084, .row 9 1 (((mS v6)).length) (mS v6))] (cut_freeze (F := [(2000084, .row 9 1 0 (mS v6))]) [2000084] rfl kr kr) ?_))
    refine v_to ((4, .vs 1 (mS v6)) :: _) _ (cut_view (R := [(2000084, .row 9 1 (((mS v6)).length) (mS v6))]) (ks := [2000084]) kr kr (.row (t := 9) (fz := (((mS v6)).length)) kr (by first | (simp only [List.length_map, List.length_set, cpyT_length]; done) | rfl))) ?_
    refine v_ret ?_
    obtain rfl := si hs
    exact fin_ret kr kr kr
theorem w_greenbeltref16_ready (p : Plan) (use : (List (List Bool))) (done : (List Bool)) (r : Int) (hs : s_greenbeltref16_ready p use done = some r) : FnA Try.prog 41 [.agg (enc_Plan p), .vs 1 (List.map (encL 1 EV.encB) use), .vs 1 (mB done)] [] (.int .i64 r) [] := by
 refine fnA_of_wp (N := 68) Try.func41 rfl rfl rfl fun cK0 => ?_
 unfold s_greenbeltref16_ready at hs
 refine v_same (ρ' := [(0, .agg (enc_Plan p)), (1, .vs 1 (List.map (encL 1 EV.encB) use)), (2, .vs 1 (mB done))]) rfl rfl ?_
 refine vS (vT (o_runh 2 [(6, .int .i64 0), (3, .ptr 3 0 0)] [(3, .box 30 (enc_Plan p))] kr ?_))
 refine oN (nT (vS (vT (oR 1 [(7, .int .i64 (-1))] kr ?_))))
 refine oN (nT (vS (vS (vT (oR 1 [(8, .int .i64 0)] kr ?_)))))
 refine oN (nT ?_)
 obtain ⟨z1, hs, hk1⟩ := bS hs
 refine v_join (S := Int) (fun u => u = z1) (fun u => [(7, .int .i64 u)]) (fun u => []) ?_ (fun v1 hz => ?_)
 ·refine vB ?_
  refine v_fuel (S := Int × Int) (fun u => [(1, .vs 1 (List.map (encL 1 EV.encB) use)), (2, .vs 1 (mB done)), (3, .ptr 3 0 0), (7, .int .i64 u.1), (8, .int .i64 u.2)]) (fun u => [(3, .box 30 (enc_Plan p))]) (s_greenbeltref16_ready_L1 p use done) (fun _ => rfl) KK ((-1), 0) hs (cut_of [1, 2, 3, 7, 8] [3] kr kr kr) (fun K1 q1 hs => ?_)
  rw [s_greenbeltref16_ready_L1] at hs
  show WpV cK0 Try.prog none 68 _ _ [(1, .vs 1 (List.map (encL 1 EV.encB) use)), (2, .vs 1 (mB done)), (3, .ptr 3 0 0), (7, .int .i64 q1.1), (8, .int .i64 q1.2)] [(3, .box 30 (enc_Plan p))] []
  refine vS (vS (vT (oR 2 [(12, .vs 1 (List.map (encL 1 EV.encB) use)), (11, .int .i64 q1.2)] kr ?_)))
  refine oP (v := .int .i64 (List.length use : Int)) kr kr (loc_lenVs (sz := 1) (els := (List.map (encL 1 EV.encB) use)) kr kr (List.length_map ..)) ?_
  refine oR 1 [(14, .bool (decide (q1.2 < (List.length use : Int))))] kr ?_
  refine oN (nT ?_)
  refine v_cond (decide (q1.2 < (List.length use : Int))) kr (fun h1 => ?_) (fun h1 => ?_)
  ·replace hs := bif_t h1 hs
   refine vK (nT (vS (vB (vS (vT (oR 2 [(18, .int .i64 q1.2), (17, .vs 1 (mB done))] kr ?_))))))
   obtain ⟨x1, g1, hs⟩ := bS hs; obtain ⟨g1a, g1b, g1c⟩ := idx_some g1
   refine oP (v := .vp [.bool x1] 0) kr kr (loc_indexVs (e := 4) (sz := 1) (k := .i64) (els := (mB done)) (cs := (EV.encB x1)) kr kr kr g1a (by rw [g1c]; exact map_get _ (by omega))) ?_
   refine oR 3 [(9, .bool (!x1)), (21, .bool (!x1)), (20, .bool x1)] kr ?_
   refine oN (nT (vS (vS (vT (oR 1 [(10, .int .i64 0)] kr ?_)))))
   refine oN (nT ?_)
   obtain ⟨z2, hs, hk2⟩ := bS hs
   refine v_join (S := Bool) (fun u => u = z2) (fun u => [(1, .vs 1 (List.map (encL 1 EV.encB) use)), (2, .vs 1 (mB done)), (3, .ptr 3 0 0), (7, .int .i64 q1.1), (8, .int .i64 q1.2), (9, .bool u)]) (fun u => [(3, .box 30 (enc_Plan p))]) ?_ (fun v2 hz => ?_)
   ·refine vB ?_
    refine v_fuel (S := Bool × Int) (fun u => [(1, .vs 1 (List.map (encL 1 EV.encB) use)), (2, .vs 1 (mB done)), (3, .ptr 3 0 0), (7, .int .i64 q1.1), (8, .int .i64 q1.2), (9, .bool u.1), (10, .int .i64 u.2)]) (fun u => [(3, .box 30 (enc_Plan p))]) (s_greenbeltref16_ready_L2 use done q1) (fun _ => rfl) KK ((!x1), 0) hs (cut_of [1, 2, 3, 7, 8, 9, 10] [3] kr kr kr) (fun K2 q2 hs => ?_)
    rw [s_greenbeltref16_ready_L2] at hs
    show WpV cK0 Try.prog none 68 _ _ [(1, .vs 1 (List.map (encL 1 EV.encB) use)), (2, .vs 1 (mB done)), (3, .ptr 3 0 0), (7, .int .i64 q1.1), (8, .int .i64 q1.2), (9, .bool q2.1), (10, .int .i64 q2.2)] [(3, .box 30 (enc_Plan p))] []
    refine vS (vS (vT (oR 2 [(23, .vs 1 (List.map (encL 1 EV.encB) use)), (22, .int .i64 q2.2)] kr ?_)))
    refine oP (v := .int .i64 (List.length use : Int)) kr kr (loc_lenVs (sz := 1) (els := (List.map (encL 1 EV.encB) use)) kr kr (List.length_map ..)) ?_
    refine oR 1 [(25, .bool (decide (q2.2 < (List.length use : Int))))] kr ?_
    refine oN (nT ?_)
    refine v_cond (decide (q2.2 < (List.length use : Int))) kr (fun h2 => ?_) (fun h2 => ?_)
    ·replace hs := bif_t h2 hs
     refine vK (nT (vS (vB ?_)))
     obtain ⟨z3, hs, hk3⟩ := bS hs
     refine v_join (S := Bool) (fun u => u = z3) (fun u => [(1, .vs 1 (List.map (encL 1 EV.encB) use)), (2, .vs 1 (mB done)), (3, .ptr 3 0 0), (7, .int .i64 q1.1), (8, .int .i64 q1.2), (9, .bool u), (10, .int .i64 q2.2)]) (fun u => [(3, .box 30 (enc_Plan p))]) ?_ (fun v3 hz => ?_)
     ·refine vT (oR 2 [(29, .bool q2.1), (28, .bool q2.1)] kr ?_)
      cases h3 : (q2.1)
      ·replace hs := bif_f h3 hs
       refine oR 16 [(9, .bool false), (44, .bool false), (43, .no), (42, .no), (41, .no), (40, .no), (39, .no), (38, .no), (37, .no), (36, .no), (35, .no), (34, .no), (33, .no), (32, .no), (31, .no), (30, .no)] kr ?_
       refine oN ?_
       obtain rfl := si hs
       refine nrm_join false rfl ?_
       exact cut_of [1, 2, 3, 7, 8, 9, 10] [3] kr kr kr
      ·replace hs := bif_t h3 hs
       refine oR 2 [(31, .int .i64 q2.2), (30, .vs 1 (mB done))] kr ?_
       obtain ⟨x2, g2, hs⟩ := bS hs; obtain ⟨g2a, g2b, g2c⟩ := idx_some g2
       refine oP (v := .vp [.bool x2] 0) kr kr (loc_indexVs (e := 4) (sz := 1) (k := .i64) (els := (mB done)) (cs := (EV.encB x2)) kr kr kr g2a (by rw [g2c]; exact map_get _ (by omega))) ?_
       refine oR 2 [(34, .bool x2), (33, .bool x2)] kr ?_
       cases h4 : (x2)
       ·replace hs := bif_f h4 hs
        refine oR 2 [(36, .int .i64 q1.2), (35, .vs 1 (List.map (encL 1 EV.encB) use))] kr ?_
        obtain ⟨x3, g3, hs⟩ := bS hs; obtain ⟨g3a, g3b, g3c⟩ := idx_some g3
        refine oP (v := .vp [.vs 1 (mB x3)] 0) kr kr (loc_indexVs (e := 74) (sz := 1) (k := .i64) (els := (List.map (encL 1 EV.encB) use)) (cs := ((encL 1 EV.encB) x3)) kr kr kr g3a (by rw [g3c]; exact map_get _ (by omega))) ?_
        refine oR 2 [(39, .int .i64 q2.2), (38, .vs 1 (mB x3))] kr ?_
        obtain ⟨x4, g4, hs⟩ := bS hs; obtain ⟨g4a, g4b, g4c⟩ := idx_some g4
        refine oP (v := .vp [.bool x4] 0) kr kr (loc_indexVs (e := 4) (sz := 1) (k := .i64) (els := (mB x3)) (cs := (EV.encB x4)) kr kr kr g4a (by rw [g4c]; exact map_get _ (by omega))) ?_
        refine oR 5 [(9, .bool (!x4)), (44, .bool (!x4)), (43, .bool (!x4)), (42, .bool (!x4)), (41, .bool x4)] kr ?_
        refine oN ?_
        obtain rfl := si hs
        refine nrm_join (!x4) rfl ?_
        exact cut_of [1, 2, 3, 7, 8, 9, 10] [3] kr kr kr
       ·replace hs := bif_t h4 hs
        refine oR 11 [(9, .bool true), (44, .bool true), (43, .bool true), (42, .no), (41, .no), (40, .no), (39, .no), (38, .no), (37, .no), (36, .no), (35, .no)] kr ?_
        refine oN ?_
        obtain rfl := si hs
        refine nrm_join true rfl ?_
        exact cut_of [1, 2, 3, 7, 8, 9, 10] [3] kr kr kr
     ·subst hz; clear hs; have hs := hk3; clear hk3
      refine nB (nT (vT (oR 3 [(10, .int .i64 (w64 (q2.2 + 1))), (27, .int .i64 (w64 (q2.2 + 1))), (26, .int .i64 q2.2)] kr ?_)))
      refine oN (nrm_fuel (v3, (w64 (q2.2 + 1))) hs ?_)
      exact cut_of [1, 2, 3, 7, 8, 9, 10] [3] kr kr kr
    ·replace hs := bif_f h2 hs
     refine v_exit (exit_thenV (exit_fuel ?_))
     refine exit_blkV ?_
     obtain rfl := si hs
     refine nrm_join q2.1 rfl ?_
     exact cut_of [1, 2, 3, 7, 8, 9] [3] kr kr kr
   ·subst hz; clear hs; have hs := hk2; clear hk2
    refine nT (vS ?_)
    obtain ⟨z4, hs, hk4⟩ := bS hs
    refine v_join (S := Bool) (fun u => u = z4) (fun u => [(1, .vs 1 (List.map (encL 1 EV.encB) use)), (2, .vs 1 (mB done)), (3, .ptr 3 0 0), (7, .int .i64 q1.1), (8, .int .i64 q1.2), (65, .bool u)]) (fun u => [(3, .box 30 (enc_Plan p))]) ?_ (fun v4 hz => ?_)
    ·refine v_draw mixedH kr ?_
     refine d_runs 2 0 [(46, .bool v2), (45, .bool v2)] (pfp 2 1) kr kr ?_
     cases h5 : (v2)
     ·replace hs := bif_f h5 hs
      refine d_runs 19 2 [(65, .bool false), (64, .no), (63, .no), (62, .no), (61, .no), (60, .no), (59, .no), (58, .no), (57, .no), (56, .no), (55, .no), (54, .no), (53, .no), (52, .no), (51, .no), (50, .no), (49, .no), (48, .no), (47, .no)] (pfp 19 20) kr kr ?_
      refine d_nil kr ?_
      obtain rfl := si hs
      refine nrm_join false rfl ?_
      exact cut_of [1, 2, 3, 7, 8, 65] [3] kr kr kr
     ·replace hs := bif_t h5 hs
      refine d_runs 3 2 [(49, .bool (decide (q1.1 < 0))), (48, .bool (decide (q1.1 < 0))), (47, .int .i64 q1.1)] (pfp 3 4) kr kr ?_
      cases h6 : ((decide (q1.1 < 0)))
      ·replace hs := bif_f h6 hs
       refine d_runs 3 5 [(52, .int .i64 q1.2), (51, .vs 6 (mM enc_Def p.Defs)), (50, .ptr 3 0 0)] [⟨7, [], []⟩, ⟨6, [], [3]⟩, ⟨5, [], []⟩] kr kr ?_
       obtain ⟨x5, g5, hs⟩ := bS hs; obtain ⟨g5a, g5b, g5c⟩ := idx_some g5
       refine d_pure (v := .vp (enc_Def x5) 0) 8 rfl rfl rfl rfl kr kr (loc_indexVs (e := 46) (sz := 6) (k := .i64) (els := (mM enc_Def p.Defs)) (cs := (enc_Def x5)) kr kr kr g5a (by rw [g5c]; exact map_get _ (by omega))) ?_
       refine d_runs 6 9 [(59, .int .i64 (max q1.1 0)), (58, .int .i64 q1.1), (57, .vs 6 (mM enc_Def p.Defs)), (56, .ptr 3 0 0), (55, .str x5.Name), (54, .vp (enc_Def x5) 0)] [⟨14, [], []⟩, ⟨13, [], []⟩, ⟨12, [], [3]⟩, ⟨11, [], []⟩, ⟨10, [], []⟩, ⟨9, [], []⟩] kr kr ?_
       obtain ⟨x6, g6, hs⟩ := bS hs; obtain ⟨g6a, g6b, g6c⟩ := idx_some g6
       refine d_pure (v := .vp (enc_Def x6) 0) 15 rfl rfl rfl rfl kr kr (loc_indexVs (e := 46) (sz := 6) (k := .i64) (els := (mM enc_Def p.Defs)) (cs := (enc_Def x6)) kr kr kr g6a (by rw [g6c]; exact map_get _ (by omega))) ?_
       refine d_runs 5 16 [(65, .bool (Op.bytesLess x5.Name x6.Name)), (64, .bool (Op.bytesLess x5.Name x6.Name)), (63, .bool (Op.bytesLess x5.Name x6.Name)), (62, .str x6.Name), (61, .vp (enc_Def x6) 0)] (pfp 5 20) kr kr ?_
       refine d_nil kr ?_
       obtain rfl := si hs
       refine nrm_join (Op.bytesLess x5.Name x6.Name) rfl ?_
       exact cut_of [1, 2, 3, 7, 8, 65] [3] kr kr kr
      ·replace hs := bif_t h6 hs
       refine d_runs 16 5 [(65, .bool true), (64, .bool true), (63, .no), (62, .no), (61, .no), (60, .no), (59, .no), (58, .no), (57, .no), (56, .no), (55, .no), (54, .no), (53, .no), (52, .no), (51, .no), (50, .no)] (pfp 16 20) kr kr ?_
       refine d_nil kr ?_
       obtain rfl := si hs
       refine nrm_join true rfl ?_
       exact cut_of [1, 2, 3, 7, 8, 65] [3] kr kr kr
    ·subst hz; clear hs; have hs := hk4; clear hk4
     refine nT ?_
     obtain ⟨z5, hs, hk5⟩ := bS hs
     refine v_join (S := Int) (fun u => u = z5) (fun u => [(1, .vs 1 (List.map (encL 1 EV.encB) use)), (2, .vs 1 (mB done)), (3, .ptr 3 0 0), (7, .int .i64 u), (8, .int .i64 q1.2)]) (fun u => [(3, .box 30 (enc_Plan p))]) ?_ (fun v5 hz => ?_)
     ·refine v_cond v4 kr (fun h7 => ?_) (fun h7 => ?_)
      ·replace hs := bif_t h7 hs
       refine vT (oR 2 [(7, .int .i64 q1.2), (66, .int .i64 q1.2)] kr ?_)
       refine oN ?_
       obtain rfl := si hs
       refine nrm_join q1.2 rfl ?_
       exact cut_of [1, 2, 3, 7, 8] [3] kr kr kr
      ·replace hs := bif_f h7 hs
       refine vK ?_
       obtain rfl := si hs
       refine nrm_join q1.1 rfl ?_
       exact cut_of [1, 2, 3, 7, 8] [3] kr kr kr
     ·subst hz; clear hs; have hs := hk5; clear hk5
      refine nB (nT (vT (oR 3 [(8, .int .i64 (w64 (q1.2 + 1))), (16, .int .i64 (w64 (q1.2 + 1))), (15, .int .i64 q1.2)] kr ?_)))
      refine oN (nrm_fuel (v5, (w64 (q1.2 + 1))) hs ?_)
      exact cut_of [1, 2, 3, 7, 8] [3] kr kr kr
  ·replace hs := bif_f h1 hs
   refine v_exit (exit_thenV (exit_fuel ?_))
   refine exit_blkV ?_
   obtain rfl := si hs
   refine nrm_join q1.1 rfl ?_
   exact cut_of [7] [] kr kr kr
 ·subst hz; clear hs; have hs := hk1; clear hk1
  refine nT (vS (vT (oR 2 [(6, .int .i64 v1), (67, .int .i64 v1)] kr ?_)))
  refine oN (nT (v_ret ?_))
  obtain rfl := si hs
  exact fin_ret kr kr kr
theorem w_greenbeltref16_Order (p : Plan) (r : (List Int) × (List (List UInt8)) × Int) (hs : s_greenbeltref16_Order p = some r) : FnA Try.prog 12 [.agg (enc_Plan p)] [] (.tup [.vs 1 (mI r.1), .vs 1 (mS r.2.1), .int .i64 r.2.2]) [] := by
 refine fnA_of_wp (N := 44) Try.func12 rfl rfl rfl fun cK0 => ?_
 unfold s_greenbeltref16_Order at hs
 refine v_same (ρ' := [(0, .agg (enc_Plan p))]) rfl rfl ?_
 refine vS (vT (o_runh 4 [(4, .int .i64 0), (3, .nils), (2, .nils), (1, .ptr 1 0 0)] [(1, .box 30 (enc_Plan p))] kr ?_))
 refine oN (nT (vS (vS (vT (oR 1 [(11, .agg (enc_Plan p))] kr ?_)))))
 obtain ⟨y1, c1, hs⟩ := bS hs
 refine oP (v := .bool y1) kr kr (loc_gcall0 (callV_func hbv38 kr) (w_greenbeltref16_twice p _ c1) kr) ?_
 refine oN (nT ?_)
 refine v_cond y1 kr (fun h1 => ?_) (fun h1 => ?_)
 ·replace hs := bif_t h1 hs
  refine vS (vT (oR 3 [(4, .int .i64 5), (3, .nils), (2, .nils)] kr ?_))
  refine oN (nT (v_to ((2, .vs 1 (mI [])) :: _) _ (cut_view (R := []) (ks := []) kr kr (.nils 1)) ?_))
  refine v_to ((3, .vs 1 (mS [])) :: _) _ (cut_view (R := []) (ks := []) kr kr (.nils 1)) ?_
  refine v_ret (rT ?_)
  obtain rfl := si hs
  exact fin_ret kr kr kr
 ·replace hs := bif_f h1 hs
  refine vK (nT (vS (vT (oR 1 [(13, .agg (enc_Plan p))] kr ?_))))
  obtain ⟨y2, c2, hs⟩ := bS hs
  refine oP (v := .vs 1 (List.map (encL 1 EV.encB) y2)) kr kr (loc_gcall0 (callV_func hbv39 kr) (w_greenbeltref16_uses p _ c2) kr) ?_
  refine oR 1 [(5, .vs 1 (List.map (encL 1 EV.encB) y2))] kr ?_
  refine oN (nT (vS (vT (oR 2 [(16, .vs 1 (List.map (encL 1 EV.encB) y2)), (15, .agg (enc_Plan p))] kr ?_))))
  obtain ⟨y3, c3, hs⟩ := bS hs
  refine oP (v := .vs 1 (mS y3)) kr kr (loc_gcall0 (callV_func hbv40 kr) (w_greenbeltref16_circle p y2 _ c3) kr) ?_
  refine oR 1 [(6, .vs 1 (mS y3))] kr ?_
  refine oN (nT (vS (vS (vT (oR 1 [(18, .vs 1 (mS y3))] kr ?_)))))
  refine oP (v := .int .i64 (List.length y3 : Int)) kr kr (loc_lenVs (sz := 1) (els := (mS y3)) kr kr (List.length_map ..)) ?_
  refine oR 1 [(20, .bool (decide ((List.length y3 : Int) > 0)))] kr ?_
  refine oN (nT ?_)
  refine v_cond (decide ((List.length y3 : Int) > 0)) kr (fun h2 => ?_) (fun h2 => ?_)
  ·replace hs := bif_t h2 hs
   refine vS (vT (oR 4 [(4, .int .i64 16), (3, .vs 1 (mS y3)), (2, .nils), (21, .vs 1 (mS y3))] kr ?_))
   refine oN (nT (v_to ((2, .vs 1 (mI [])) :: _) _ (cut_view (R := []) (ks := []) kr kr (.nils 1)) ?_))
   refine v_ret (rT ?_)
   obtain rfl := si hs
   exact fin_ret kr kr kr
  ·replace hs := bif_f h2 hs
   refine vK (nT (vS (vT (oR 1 [(22, .vs 1 (List.map (encL 1 EV.encB) y2))] kr ?_))))
   refine oP (v := .int .i64 (List.length y2 : Int)) kr kr (loc_lenVs (sz := 1) (els := (List.map (encL 1 EV.encB) y2)) kr kr (List.length_map ..)) ?_
   obtain ⟨⟨g1a, g1b, g1c⟩, hs⟩ := bG hs
   refine o_loc (F := []) (F' := [(24, .row 4 1 0 (mB (List.replicate (Int.toNat (List.length y2 : Int)) (false : Bool))))]) (v := .sl 1 24 (((List.replicate (Int.toNat (List.length y2 : Int)) (false : Bool))).length) 0 (((List.replicate (Int.toNat (List.length y2 : Int)) (false : Bool))).length)) [] kr kr rfl kr (loc_makeSliceT (L := ((List.replicate (Int.toNat (List.length y2 : Int)) (false : Bool))).length) (e := 4) (sz := 1) (bytes := 1) (q := (List.length y2 : Int)) (k := .i64) (k2 := .i64) (cs := [.bool false]) (cs2 := [.bool false]) kr kr kr kr kr g1a g1b g1c (List.map_replicate (f := EV.encB)).symm (List.length_replicate ..) (fun _ _ h => h)) kr ?_
   refine oR 1 [(7, .sl 1 24 (((List.replicate (Int.toNat (List.length y2 : Int)) (false : Bool))).length) 0 (((List.replicate (Int.toNat (List.length y2 : Int)) (false : Bool))).length))] kr ?_
   refine oN (nT (vS (vT (oR 1 [(8, .nils)] kr ?_))))
   refine oN (nT (vS (vS (vT (oR 1 [(9, .int .i64 0)] kr ?_)))))
   refine oN (nT ?_)
   obtain ⟨z1, hs, hk1⟩ := bS hs
   refine v_join (S := (List Int)) (fun u => u = z1) (fun u => [(8, .sl 1 2000039 ((u).length) 0 ((u).length))]) (fun u => [(2000039, .row 3 1 0 (mI u))]) ?_ (fun v1 hz => ?_)
   ·refine vB ?_
    refine v_fuel (S := Int × (List Bool) × (List Int)) (fun u => [(1, .ptr 1 0 0), (5, .vs 1 (List.map (encL 1 EV.encB) y2)), (7, .sl 1 24 ((u.2.1).length) 0 ((u.2.1).length)), (8, .sl 1 2000039 ((u.2.2).length) 0 ((u.2.2).length)), (9, .int .i64 u.1)]) (fun u => [(24, .row 4 1 0 (mB u.2.1)), (1, .box 30 (enc_Plan p)), (2000039, .row 3 1 0 (mI u.2.2))]) (s_greenbeltref16_Order_L1 p y2) (fun _ => rfl) KK (0, (List.replicate (Int.toNat (List.length y2 : Int)) (false : Bool)), []) hs (Cut.trans (cut_nilRow 8 2000039 3 1 rfl kr kr) (cut_of [1, 5, 7, 8, 9] [24, 1, 2000039] kr kr kr)) (fun K1 q1 hs => ?_)
    rw [s_greenbeltref16_Order_L1] at hs
    show WpV cK0 Try.prog none 44 _ _ [(1, .ptr 1 0 0), (5, .vs 1 (List.map (encL 1 EV.encB) y2)), (7, .sl 1 24 ((q1.2.1).length) 0 ((q1.2.1).length)), (8, .sl 1 2000039 ((q1.2.2).length) 0 ((q1.2.2).length)), (9, .int .i64 q1.1)] [(24, .row 4 1 0 (mB q1.2.1)), (1, .box 30 (enc_Plan p)), (2000039, .row 3 1 0 (mI q1.2.2))] []
    refine vS (vS (vT (oR 2 [(26, .vs 1 (List.map (encL 1 EV.encB) y2)), (25, .int .i64 q1.1)] kr ?_)))
    refine oP (v := .int .i64 (List.length y2 : Int)) kr kr (loc_lenVs (sz := 1) (els := (List.map (encL 1 EV.encB) y2)) kr kr (List.length_map ..)) ?_
    refine oR 1 [(28, .bool (decide (q1.1 < (List.length y2 : Int))))] kr ?_
    refine oN (nT ?_)
    refine v_cond (decide (q1.1 < (List.length y2 : Int))) kr (fun h3 => ?_) (fun h3 => ?_)
    ·replace hs := bif_t h3 hs
     refine vK (nT (vS (vB (vS (vT (oR 3 [(33, .sl 1 24 ((q1.2.1).length) 0 ((q1.2.1).length)), (32, .vs 1 (List.map (encL 1 EV.encB) y2)), (31, .agg (enc_Plan p))] kr ?_))))))
     obtain ⟨y4, c4, hs⟩ := bS hs
     refine o_loc (F := [(24, .row 4 1 0 (mB q1.2.1))]) (F' := [(24, .row 4 1 0 (mB q1.2.1))]) (v := .int .i64 y4) [24] kr kr rfl kr (loc_gcallB (vs := [.agg (enc_Plan p), .vs 1 (List.map (encL 1 EV.encB) y2), .sl 1 24 ((q1.2.1).length) 0 ((q1.2.1).length)]) (R := [(24, .row 4 1 0 (mB q1.2.1))]) (callV_func hbv41 kr) (w_greenbeltref16_ready p y2 q1.2.1 _ c4) (.cons (.same _) (.cons (.same _) (.cons (.row (t := 4) (fz := 0) kr (by first | (simp only [List.length_map, List.length_set, cpyT_length]; done) | rfl)) (.nil)))) kr kr kr) kr ?_
     refine oR 2 [(10, .int .i64 (max y4 0)), (35, .int .i64 (max y4 0))] kr ?_
     refine oN (nT (vS (vT (oR 2 [(37, .int .i64 (max y4 0)), (36, .sl 1 24 ((q1.2.1).length) 0 ((q1.2.1).length))] kr ?_))))
     obtain ⟨⟨g2a, g2b⟩, hs⟩ := bG hs
     refine oP (v := .ptr 24 ((q1.2.1).length) ((Int.toNat (max y4 0)) * 1 + 0)) kr kr (loc_indexRowT (e := 4) (sz := 1) (kk := 24) (L := (q1.2.1).length) (n := (q1.2.1).length) (k := .i64) (i := (max y4 0)) kr kr kr g2a g2b) ?_
     obtain ⟨e1, he1, hs⟩ := bE hs
     refine o_loc (F := [(24, .row 4 1 0 (mB q1.2.1))]) (F' := [(24, .row 4 1 0 (mB (List.set q1.2.1 (Int.toNat (max y4 0)) true)))]) (v := .no) [24] kr kr rfl kr (loc_storeRowT (L := (q1.2.1).length) (off := (Int.toNat (max y4 0)) * 1 + 0) (els := (mB q1.2.1)) (cs := [.bool e1]) (c' := [.bool true]) (Int.toNat (max y4 0)) 0 kr (by first | (simp only [List.length_map, List.length_set, cpyT_length]; done) | rfl) rfl (by rw [← he1]; exact map_get _ (by first | omega | (simp only [List.length_set, cpyT_length]; omega))) (by first | exact Nat.zero_le _ | omega) kr kr kr kr kr kr List.map_set.symm) kr ?_
     refine oN (nT (vT (o_runh 3 [(41, .sl 1 41 1 0 1), (40, .int .i64 (max y4 0)), (39, .sl 1 2000039 ((q1.2.2).length) 0 ((q1.2.2).length))] [(41, .row 3 1 0 (mI [(max y4 0)])), (24, .row 4 1 0 (mB (List.set q1.2.1 (Int.toNat (max y4 0)) true))), (1, .box 30 (enc_Plan p)), (2000039, .row 3 1 0 (mI q1.2.2))] kr ?_)))
     obtain ⟨_, g3, hs⟩ := bS hs; replace g3 := grd_some g3
     refine o_loc (F := [(2000039, .row 3 1 0 (mI q1.2.2)), (41, .row 3 1 0 (mI [(max y4 0)]))]) (F' := [(2000039, .row 3 1 0 (mI (q1.2.2 ++ [(max y4 0)]))), (41, .row 3 1 0 (mI [(max y4 0)]))]) (v := .sl 1 2000039 (((q1.2.2 ++ [(max y4 0)])).length) 0 (((q1.2.2 ++ [(max y4 0)])).length)) [2000039, 41] kr kr rfl kr (loc_appendT (e := 3) (sz := 1) (bytes := 8) (L := (q1.2.2).length) (els := (mI q1.2.2)) (ys := (mI [(max y4 0)])) kr kr (by first | exact List.length_map .. | rfl) (.sl (t := 3) (fz := 0) (ys := (mI [(max y4 0)])) kr kr) (map_ones EV.encI (fun _ => rfl) _) (map_lens EV.encI (fun _ => rfl) _) kr (by first | exact (List.map_append ..).symm | rfl | simp only [List.map_nil, List.nil_append]) (List.length_map ..) g3 (by omega)) kr ?_
     refine oR 1 [(8, .sl 1 2000039 (((q1.2.2 ++ [(max y4 0)])).length) 0 (((q1.2.2 ++ [(max y4 0)])).length))] kr ?_
     refine oN (nB (nT (vT (oR 3 [(9, .int .i64 (w64 (q1.1 + 1))), (30, .int .i64 (w64 (q1.1 + 1))), (29, .int .i64 q1.1)] kr ?_))))
     refine oN (nrm_fuel ((w64 (q1.1 + 1)), (List.set q1.2.1 (Int.toNat (max y4 0)) true), (q1.2.2 ++ [(max y4 0)])) hs ?_)
     exact Cut.trans (cut_eq 7 (v := .sl 1 24 ((q1.2.1).length) 0 ((q1.2.1).length)) (v' := .sl 1 24 (((List.set q1.2.1 (Int.toNat (max y4 0)) true)).length) 0 (((List.set q1.2.1 (Int.toNat (max y4 0)) true)).length)) kr (by first | rfl | simp only [List.length_set, cpyT_length])) (cut_of [1, 5, 7, 8, 9] [24, 1, 2000039] kr kr kr)
    ·replace hs := bif_f h3 hs
     refine v_exit (exit_thenV (exit_fuel ?_))
     refine exit_blkV ?_
     obtain rfl := si hs
     refine nrm_join q1.2.2 rfl ?_
     exact cut_of [8] [2000039] kr kr kr
   ·subst hz; clear hs; have hs := hk1; clear hk1
    refine nT (vS (vT (oR 4 [(4, .int .i64 0), (3, .nils), (2, .sl 1 2000039 ((v1).length) 0 ((v1).length)), (43, .sl 1 2000039 ((v1).length) 0 ((v1).length))] kr ?_)))
    refine oN (nT (v_to _ [(2000039, .row 3 1 (((mI v1)).length) (mI v1))] (cut_freeze (F := [(2000039, .row 3 1 0 (mI v1))]) [2000039] rfl kr kr) ?_))
    refine v_to ((2, .vs 1 (mI v1)) :: _) _ (cut_view (R := [(2000039, .row 3 1 (((mI v1)).length) (mI v1))]) (ks := [2000039]) kr kr (.row (t := 3) (fz := (((mI v1)).length)) kr (by first | (simp only [List.length_map, List.length_set, cpyT_length]; done) | rfl))) ?_
    refine v_to ((3, .vs 1 (mS [])) :: _) _ (cut_view (R := []) (ks := []) kr kr (.nils 1)) ?_
    refine v_ret ?_
    obtain rfl := si hs
    exact fin_ret kr kr kr
theorem ws_greenbeltlaw17_put (nF : Nat) (ih_greenbeltlaw17_put : ∀ (e : Expr) (s : (List UInt8)) (by_ : Expr) (r : Expr), s_greenbeltlaw17_put nF e s by_ = some r → FnA Try.prog 29 [.agg (enc_Expr e), .str s, .agg (enc_Expr by_)] [] (.agg (enc_Expr r)) []) (e : Expr) (s : (List UInt8)) (by_ : Expr) (r : Expr) (hs : s_greenbeltlaw17_put (nF + 1) e s by_ = some r) : FnA Try.prog 29 [.agg (enc_Expr e), .str s, .agg (enc_Expr by_)] [] (.agg (enc_Expr r)) [] := by
 refine fnA_of_wp (N := 48) Try.func29 rfl rfl rfl fun cK0 => ?_
 rw [s_greenbeltlaw17_put] at hs
 refine v_same (ρ' := [(0, .agg (enc_Expr e)), (1, .str s), (2, .agg (enc_Expr by_))]) rfl rfl ?_
 refine vS (vT (o_runh 3 [(6, .ptr 6 0 0), (5, .ptr 5 0 0), (3, .ptr 3 0 0)] [(6, .box 44 [.int .i64 0, .int .i64 0, .str [], .str [], .nils]), (5, .box 44 (enc_Expr by_)), (3, .box 44 (enc_Expr e))] kr ?_))
 refine oN (nT (vS (vS ?_)))
 obtain ⟨z1, hs, hk1⟩ := bS hs
 refine v_join (S := Bool) (fun u => u = z1) (fun u => [(1, .str s), (3, .ptr 3 0 0), (5, .ptr 5 0 0), (6, .ptr 6 0 0), (23, .bool u)]) (fun u => [(6, .box 44 [.int .i64 0, .int .i64 0, .str [], .str [], .nils]), (5, .box 44 (enc_Expr by_)), (3, .box 44 (enc_Expr e))]) ?_ (fun v1 hz => ?_)
 ·refine vT (oR 4 [(12, .bool (decide (e.Op = 1))), (11, .bool (decide (e.Op = 1))), (10, .int .i64 e.Op), (9, .ptr 3 0 0)] kr ?_)
  cases h1 : ((decide (e.Op = 1)))
  ·replace hs := bif_f h1 hs
   refine oR 11 [(23, .bool false), (22, .no), (21, .no), (20, .no), (19, .no), (18, .bool false), (17, .bool false), (16, .no), (15, .no), (14, .no), (13, .no)] kr ?_
   refine oN ?_
   obtain rfl := si hs
   refine nrm_join false rfl ?_
   exact cut_of [1, 3, 5, 6, 23] [6, 5, 3] kr kr kr
  ·replace hs := bif_t h1 hs
   refine oR 6 [(18, .bool (decide (e.S = s))), (17, .bool (decide (e.S = s))), (16, .bool (decide (e.S = s))), (15, .str s), (14, .str e.S), (13, .ptr 3 0 2)] kr ?_
   cases h2 : ((decide (e.S = s)))
   ·replace hs := bif_f h2 hs
    refine oR 5 [(23, .bool false), (22, .no), (21, .no), (20, .no), (19, .no)] kr ?_
    refine oN ?_
    obtain rfl := si hs
    refine nrm_join false rfl ?_
    exact cut_of [1, 3, 5, 6, 23] [6, 5, 3] kr kr kr
   ·replace hs := bif_t h2 hs
    refine oR 2 [(20, .vs 5 (encs_Expr e.Args)), (19, .ptr 3 0 4)] kr ?_
    refine oP (v := .int .i64 (List.length e.Args : Int)) kr kr (loc_lenVs (sz := 5) (els := (encs_Expr e.Args)) kr kr (by rw [encs_Expr_eq, List.length_map])) ?_
    refine oR 2 [(23, .bool (decide ((List.length e.Args : Int) = 0))), (22, .bool (decide ((List.length e.Args : Int) = 0)))] kr ?_
    refine oN ?_
    obtain rfl := si hs
    refine nrm_join (decide ((List.length e.Args : Int) = 0)) rfl ?_
    exact cut_of [1, 3, 5, 6, 23] [6, 5, 3] kr kr kr
 ·subst hz; clear hs; have hs := hk1; clear hk1
  refine nT ?_
  refine v_cond v1 kr (fun h3 => ?_) (fun h3 => ?_)
  ·replace hs := bif_t h3 hs
   refine vS (vT (o_runh 2 [(24, .agg (enc_Expr by_))] [(6, .box 44 (enc_Expr by_)), (5, .box 44 (enc_Expr by_)), (3, .box 44 (enc_Expr e))] kr ?_))
   refine oN (nT (v_ret (rT ?_)))
   obtain rfl := si hs
   exact fin_ret kr kr kr
  ·replace hs := bif_f h3 hs
   refine vK (nT (vS (vT (o_runh 3 [(7, .ptr 7 0 0), (25, .agg (enc_Expr e))] [(7, .box 44 (enc_Expr e)), (6, .box 44 [.int .i64 0, .int .i64 0, .str [], .str [], .nils]), (5, .box 44 (enc_Expr by_)), (3, .box 44 (enc_Expr e))] kr ?_))))
   refine oN (nT (vS (vT (o_runh 2 [(26, .ptr 7 0 4)] [(7, .box 44 [.int .i64 e.Op, .int .i64 e.N, .str e.S, .str e.Key, .nils]), (6, .box 44 [.int .i64 0, .int .i64 0, .str [], .str [], .nils]), (5, .box 44 (enc_Expr by_)), (3, .box 44 (enc_Expr e))] kr ?_))))
   refine oN (nT (vS (vS (vT (oR 1 [(8, .int .i64 0)] kr ?_)))))
   refine oN (nT ?_)
   obtain ⟨z2, hs, hk2⟩ := bS hs
   refine v_join (S := (List Expr)) (fun u => u = z2) (fun u => [(6, .ptr 6 0 0), (7, .ptr 7 0 0)]) (fun u => [(7, .box 44 [.int .i64 e.Op, .int .i64 e.N, .str e.S, .str e.Key, .sl 5 2700452 ((u).length) 0 ((u).length)]), (6, .box 44 [.int .i64 0, .int .i64 0, .str [], .str [], .nils]), (2700452, .row 44 5 0 (encs_Expr u))]) ?_ (fun v2 hz => ?_)
   ·refine vB ?_
    refine v_fuel (S := Int × (List Expr)) (fun u => [(1, .str s), (3, .ptr 3 0 0), (5, .ptr 5 0 0), (6, .ptr 6 0 0), (7, .ptr 7 0 0), (8, .int .i64 u.1)]) (fun u => [(7, .box 44 [.int .i64 e.Op, .int .i64 e.N, .str e.S, .str e.Key, .sl 5 2700452 ((u.2).length) 0 ((u.2).length)]), (6, .box 44 [.int .i64 0, .int .i64 0, .str [], .str [], .nils]), (5, .box 44 (enc_Expr by_)), (3, .box 44 (enc_Expr e)), (2700452, .row 44 5 0 (encs_Expr u.2))]) (s_greenbeltlaw17_put_L1 (s_greenbeltlaw17_put nF) e s by_) (fun _ => rfl) KK (0, []) hs (Cut.trans (cut_nilBox 7 4 2700452 44 5 (t := 44) (cs := [.int .i64 e.Op, .int .i64 e.N, .str e.S, .str e.Key, .nils]) (cs' := [.int .i64 e.Op, .int .i64 e.N, .str e.S, .str e.Key, .sl 5 2700452 0 0 0]) (H1 := [(2700452, .row 44 5 0 (encs_Expr [])), (7, .box 44 [.int .i64 e.Op, .int .i64 e.N, .str e.S, .str e.Key, .sl 5 2700452 0 0 0]), (6, .box 44 [.int .i64 0, .int .i64 0, .str [], .str [], .nils]), (5, .box 44 (enc_Expr by_)), (3, .box 44 (enc_Expr e))]) kr kr kr kr kr kr) (cut_of [1, 3, 5, 6, 7, 8] [7, 6, 5, 3, 2700452] kr kr kr)) (fun K1 q1 hs => ?_)
    rw [s_greenbeltlaw17_put_L1] at hs
    show WpV cK0 Try.prog none 48 _ _ [(1, .str s), (3, .ptr 3 0 0), (5, .ptr 5 0 0), (6, .ptr 6 0 0), (7, .ptr 7 0 0), (8, .int .i64 q1.1)] [(7, .box 44 [.int .i64 e.Op, .int .i64 e.N, .str e.S, .str e.Key, .sl 5 2700452 ((q1.2).length) 0 ((q1.2).length)]), (6, .box 44 [.int .i64 0, .int .i64 0, .str [], .str [], .nils]), (5, .box 44 (enc_Expr by_)), (3, .box 44 (enc_Expr e)), (2700452, .row 44 5 0 (encs_Expr q1.2))] []
    refine vS (vS (vT (oR 3 [(29, .vs 5 (encs_Expr e.Args)), (28, .ptr 3 0 4), (27, .int .i64 q1.1)] kr ?_)))
    refine oP (v := .int .i64 (List.length e.Args : Int)) kr kr (loc_lenVs (sz := 5) (els := (encs_Expr e.Args)) kr kr (by rw [encs_Expr_eq, List.length_map])) ?_
    refine oR 1 [(31, .bool (decide (q1.1 < (List.length e.Args : Int))))] kr ?_
    refine oN (nT ?_)
    refine v_cond (decide (q1.1 < (List.length e.Args : Int))) kr (fun h4 => ?_) (fun h4 => ?_)
    ·replace hs := bif_t h4 hs
     refine vK (nT (vS (vB (v_draw mixedH kr ?_))))
     refine d_runs 5 0 [(38, .int .i64 q1.1), (37, .vs 5 (encs_Expr e.Args)), (36, .ptr 3 0 4), (35, .sl 5 2700452 ((q1.2).length) 0 ((q1.2).length)), (34, .ptr 7 0 4)] [⟨4, [], []⟩, ⟨3, [], [3]⟩, ⟨2, [], []⟩, ⟨1, [], [7]⟩, ⟨0, [], []⟩] kr kr ?_
     obtain ⟨x1, g1, hs⟩ := bS hs; obtain ⟨g1a, g1b, g1c⟩ := idx_some g1
     refine d_pure (v := .vp (enc_Expr x1) 0) 5 rfl rfl rfl rfl kr kr (loc_indexVs (e := 44) (sz := 5) (k := .i64) (els := (encs_Expr e.Args)) (cs := (enc_Expr x1)) kr kr kr g1a (by rw [g1c, encs_Expr_eq]; exact map_get _ (by omega))) ?_
     refine d_runs 3 6 [(42, .agg (enc_Expr by_)), (41, .str s), (40, .agg (enc_Expr x1))] [⟨8, [], [5]⟩, ⟨7, [], []⟩, ⟨6, [], []⟩] kr kr ?_
     obtain ⟨y1, c1, hs⟩ := bS hs
     refine d_pure (v := .agg (enc_Expr y1)) 9 rfl rfl rfl rfl kr kr (loc_gcall0 (callV_func hbv29 kr) (ih_greenbeltlaw17_put x1 s by_ _ c1) kr) ?_
     refine d_loc (F := []) (R := []) (F' := [(44, .row 44 5 0 (encs_Expr [y1]))]) (v := .sl 5 44 1 0 1) 10 [] [] rfl rfl rfl rfl kr kr kr kr kr kr kr kr (loc_buildSliceW (e := 44) (sz := 5) (els := [(enc_Expr y1)]) (els2 := [(enc_Expr y1)]) (fl := (enc_Expr y1)) (fl2 := (enc_Expr y1)) kr kr kr kr kr (wk_same (wk_same (wk_same (wk_same (wk_same wk_nil))))) kr kr (Eq.trans kr (encs_Expr_eq _).symm)) ?_
     obtain ⟨_, g2, hs⟩ := bS hs; replace g2 := grd_some g2
     refine d_loc (F := [(2700452, .row 44 5 0 (encs_Expr q1.2))]) (R := [(44, .row 44 5 0 (encs_Expr [y1]))]) (F' := [(2700452, .row 44 5 0 (encs_Expr (q1.2 ++ [y1])))]) (v := .sl 5 2700452 (((q1.2 ++ [y1])).length) 0 (((q1.2 ++ [y1])).length)) 11 [2700452] [44] rfl rfl rfl rfl kr kr kr kr kr kr kr kr (loc_appendT (e := 44) (sz := 5) (bytes := 72) (L := (q1.2).length) (els := (encs_Expr q1.2)) (ys := (encs_Expr [y1])) kr kr (by first | rfl | rw [encs_Expr_eq, List.length_map]) (.sl (t := 44) (fz := 0) (ys := (encs_Expr [y1])) kr kr) (by rw [encs_Expr_eq]; exact map_ones enc_Expr (fun _ => rfl) _) (by rw [encs_Expr_eq]; exact map_lens enc_Expr (fun _ => rfl) _) kr (by first | rfl | rw [encs_Expr_eq, encs_Expr_eq, encs_Expr_eq, List.map_append]) (by rw [encs_Expr_eq, List.length_map]) g2 (by omega)) ?_
     refine d_runh 2 12 [(46, .ptr 7 0 4)] [(7, .box 44 [.int .i64 e.Op, .int .i64 e.N, .str e.S, .str e.Key, .sl 5 2700452 (((q1.2 ++ [y1])).length) 0 (((q1.2 ++ [y1])).length)]), (2700452, .row 44 5 0 (encs_Expr (q1.2 ++ [y1]))), (44, .row 44 5 0 (encs_Expr [y1])), (6, .box 44 [.int .i64 0, .int .i64 0, .str [], .str [], .nils]), (5, .box 44 (enc_Expr by_)), (3, .box 44 (enc_Expr e))] [⟨13, [7], []⟩, ⟨12, [], []⟩] kr kr ?_
     refine d_nil kr ?_
     refine nB (nT (vT (oR 3 [(8, .int .i64 (w64 (q1.1 + 1))), (33, .int .i64 (w64 (q1.1 + 1))), (32, .int .i64 q1.1)] kr ?_)))
     refine oN (nrm_fuel ((w64 (q1.1 + 1)), (q1.2 ++ [y1])) hs ?_)
     exact cut_of [1, 3, 5, 6, 7, 8] [7, 6, 5, 3, 2700452] kr kr kr
    ·replace hs := bif_f h4 hs
     refine v_exit (exit_thenV (exit_fuel ?_))
     refine exit_blkV ?_
     obtain rfl := si hs
     refine nrm_join q1.2 rfl ?_
     exact cut_of [6, 7] [7, 6, 2700452] kr kr kr
   ·subst hz; clear hs; have hs := hk2; clear hk2
    refine nT (vS (vT (o_runh 2 [(47, .agg [.int .i64 e.Op, .int .i64 e.N, .str e.S, .str e.Key, .sl 5 2700452 ((v2).length) 0 ((v2).length)])] [(7, .box 44 [.int .i64 e.Op, .int .i64 e.N, .str e.S, .str e.Key, .sl 5 2700452 ((v2).length) 0 ((v2).length)]), (6, .box 44 [.int .i64 e.Op, .int .i64 e.N, .str e.S, .str e.Key, .sl 5 2700452 ((v2).length) 0 ((v2).length)]), (2700452, .row 44 5 0 (encs_Expr v2))] kr ?_)))
    refine oN (nT (v_to _ [(2700452, .row 44 5 (((encs_Expr v2)).length) (encs_Expr v2)), (7, .box 44 [.int .i64 e.Op, .int .i64 e.N, .str e.S, .str e.Key, .sl 5 2700452 ((v2).length) 0 ((v2).length)]), (6, .box 44 [.int .i64 e.Op, .int .i64 e.N, .str e.S, .str e.Key, .sl 5 2700452 ((v2).length) 0 ((v2).length)])] (cut_freeze (F := [(2700452, .row 44 5 0 (encs_Expr v2))]) [2700452] rfl kr kr) ?_))
    refine v_to _ [(6, .box 44 [.int .i64 e.Op, .int .i64 e.N, .str e.S, .str e.Key, .vs 5 (encs_Expr v2)]), (2700452, .row 44 5 (((encs_Expr v2)).length) (encs_Expr v2)), (7, .box 44 [.int .i64 e.Op, .int .i64 e.N, .str e.S, .str e.Key, .sl 5 2700452 ((v2).length) 0 ((v2).length)])] (cut_box (k := 6) (t := 44) (cs := [.int .i64 e.Op, .int .i64 e.N, .str e.S, .str e.Key, .sl 5 2700452 ((v2).length) 0 ((v2).length)]) (cs' := [.int .i64 e.Op, .int .i64 e.N, .str e.S, .str e.Key, .vs 5 (encs_Expr v2)]) [(2700452, .row 44 5 (((encs_Expr v2)).length) (encs_Expr v2))] [2700452] kr kr kr (.cons (.same _) (.cons (.same _) (.cons (.same _) (.cons (.same _) (.cons (.row (t := 44) (fz := (((encs_Expr v2)).length)) kr (by first | (simp only [encs_Expr_eq, List.length_map, List.length_set, cpyT_length]; done) | rfl)) (.nil)))))) kr) ?_
    refine v_ret ?_
    obtain rfl := si hs
    exact fin_ret kr kr kr
theorem wr_greenbeltlaw17_put : ∀ nF : Nat, (∀ (e : Expr) (s : (List UInt8)) (by_ : Expr) (r : Expr), s_greenbeltlaw17_put nF e s by_ = some r → FnA Try.prog 29 [.agg (enc_Expr e), .str s, .agg (enc_Expr by_)] [] (.agg (enc_Expr r)) [])
 | 0 => fun e s by_ r hs => (by rw [s_greenbeltlaw17_put] at hs; cases hs)
 | nF + 1 => fun e s by_ r hs => ws_greenbeltlaw17_put nF (wr_greenbeltlaw17_put nF) e s by_ r hs
theorem w_greenbeltlaw17_put (nF : Nat) (e : Expr) (s : (List UInt8)) (by_ : Expr) (r : Expr) (hs : s_greenbeltlaw17_put nF e s by_ = some r) : FnA Try.prog 29 [.agg (enc_Expr e), .str s, .agg (enc_Expr by_)] [] (.agg (enc_Expr r)) [] := (wr_greenbeltlaw17_put nF) e s by_ r hs
theorem w_expr_Eval_2 (p : Plan) (measures : (List Entry)) (zones : (List (List UInt8))) (e : Expr) (r : Int) (hs : s_expr_Eval_2 p measures zones e = some r) : FnA Try.prog 32 [.agg (enc_Plan p), .vs 2 (mM enc_Entry measures), .vs 1 (mS zones), .agg (enc_Expr e)] [] (.int .i64 r) [] := by
 refine fnA_of_wp (N := 24) Try.func32 rfl rfl rfl fun cK0 => ?_
 unfold s_expr_Eval_2 at hs
 refine v_same (ρ' := [(0, .agg (enc_Plan p)), (1, .vs 2 (mM enc_Entry measures)), (2, .vs 1 (mS zones)), (3, .agg (enc_Expr e))]) rfl rfl ?_
 refine vS (vT (o_runh 3 [(8, .int .i64 0), (7, .ptr 7 0 0), (4, .ptr 4 0 0)] [(7, .box 44 (enc_Expr e)), (4, .box 30 (enc_Plan p))] kr ?_))
 refine oN (nT (vS (vS (vT (oR 1 [(11, .agg (enc_Expr e))] kr ?_)))))
 obtain ⟨y1, c1, hs⟩ := bS hs
 refine oP (v := .bool y1) kr kr (loc_gcall0 (callV_func hbv30 kr) (w_expr_Right e _ c1) kr) ?_
 refine oR 1 [(13, .bool (!y1))] kr ?_
 refine oN (nT ?_)
 refine v_cond (!y1) kr (fun h1 => ?_) (fun h1 => ?_)
 ·replace hs := bif_t h1 hs
  refine vS (vT (oR 1 [(8, .int .i64 0)] kr ?_))
  refine oN (nT (v_ret (rT ?_)))
  obtain rfl := si hs
  exact fin_ret kr kr kr
 ·replace hs := bif_f h1 hs
  refine vK (nT (vS (vT (oR 3 [(17, .vs 1 (mS zones)), (16, .vs 2 (mM enc_Entry measures)), (15, .agg (enc_Plan p))] kr ?_))))
  obtain ⟨y2, c2, hs⟩ := bS hs
  refine o_loc (F := []) (F' := [(3001800, .map (encM V.str (V.int .i64) y2.2.2.2))]) (v := .tup [.agg (enc_Plan y2.1 ++ [.mp 3001800, .vs 1 (mS y2.2.1)]), .vs 1 (mI y2.2.2.1)]) [] kr kr rfl kr (loc_g (R := []) [.agg (enc_Plan p), .vs 2 (mM enc_Entry measures), .vs 1 (mS zones)] [(20, 3001800)] (callV_func hbv52 kr) (w_expr_prepare p measures zones _ c2) (.cons (.same _) (.cons (.same _) (.cons (.same _) (.nil)))) kr kr kr kr kr kr kr kr) kr ?_
  refine o_runh 6 [(10, .vs 1 (mI y2.2.2.1)), (9, .ptr 9 0 0), (20, .vs 1 (mI y2.2.2.1)), (19, .agg (enc_Plan y2.1 ++ [.mp 3001800, .vs 1 (mS y2.2.1)])), (14, .tup [.agg (enc_Plan y2.1 ++ [.mp 3001800, .vs 1 (mS y2.2.1)]), .vs 1 (mI y2.2.2.1)])] [(9, .box 94 (enc_Plan y2.1 ++ [.mp 3001800, .vs 1 (mS y2.2.1)])), (3001800, .map (encM V.str (V.int .i64) y2.2.2.2)), (7, .box 44 (enc_Expr e)), (4, .box 30 (enc_Plan p))] kr ?_
  refine oN (nT (vS (vT (oR 2 [(22, .agg (enc_Expr e)), (21, .agg (enc_Plan y2.1 ++ [.mp 3001800, .vs 1 (mS y2.2.1)]))] kr ?_))))
  obtain ⟨y3, c3, hs⟩ := bS hs
  refine o_loc (F := [(3001800, .map (encM V.str (V.int .i64) y2.2.2.2))]) (F' := [(3001800, .map (encM V.str (V.int .i64) y2.2.2.2))]) (v := .int .i64 y3) [3001800] kr kr rfl kr (loc_g (R := []) [.agg (enc_Plan y2.1 ++ [.mp 3001800, .vs 1 (mS y2.2.1)]), .agg (enc_Expr e)] [(1000000, 3001800)] (callV_func hbv53 kr) (w_expr_context_value KK y2.1 y2.2.2.2 y2.2.1 e _ c3) (.cons (.same _) (.cons (.same _) (.nil))) kr kr kr kr kr kr kr kr) kr ?_
  refine oR 1 [(8, .int .i64 y3)] kr ?_
  refine oN (nT (v_ret ?_))
  obtain rfl := si hs
  exact fin_ret kr kr kr
theorem w_greenbeltlaw17_ExprReplaces (p : Plan) (measures : (List Entry)) (zones : (List (List UInt8))) (e : Expr) (k : Int) (r : Bool) (hs : s_greenbeltlaw17_ExprReplaces p measures zones e k = some r) : FnA Try.prog 8 [.agg (enc_Plan p), .vs 2 (mM enc_Entry measures), .vs 1 (mS zones), .agg (enc_Expr e), .int .i64 k] [] (.bool r) [] := by
 refine fnA_of_wp (N := 160) Try.func8 rfl rfl rfl fun cK0 => ?_
 unfold s_greenbeltlaw17_ExprReplaces at hs
 refine v_same (ρ' := [(0, .agg (enc_Plan p)), (1, .vs 2 (mM enc_Entry measures)), (2, .vs 1 (mS zones)), (3, .agg (enc_Expr e)), (4, .int .i64 k)]) rfl rfl ?_
 refine vS (vT (o_runh 3 [(10, .bool false), (8, .ptr 8 0 0), (5, .ptr 5 0 0)] [(8, .box 44 (enc_Expr e)), (5, .box 30 (enc_Plan p))] kr ?_))
 refine oN (nT (vS (vT ?_)))
 obtain ⟨y1, c1, hs⟩ := bS hs
 refine oP (v := .bool y1) kr kr (loc_gcall0 (callV_func hbv26 kr) (w_greenbeltlaw17_small  _ c1) kr) ?_
 refine oR 1 [(11, .bool y1)] kr ?_
 refine oN (nT (vS (vS ?_)))
 obtain ⟨z1, hs, hk1⟩ := bS hs
 refine v_join (S := Bool) (fun u => u = z1) (fun u => [(1, .vs 2 (mM enc_Entry measures)), (2, .vs 1 (mS zones)), (4, .int .i64 k), (5, .ptr 5 0 0), (8, .ptr 8 0 0), (11, .bool y1), (52, .bool u)]) (fun u => [(8, .box 44 (enc_Expr e)), (5, .box 30 (enc_Plan p))]) ?_ (fun v1 hz => ?_)
 ·refine vT (oR 1 [(24, .agg (enc_Plan p))] kr ?_)
  obtain ⟨y2, c2, hs⟩ := bS hs
  refine oP (v := .bool y2) kr kr (loc_gcall0 (callV_func hbv27 kr) (w_greenbeltlaw17_few p _ c2) kr) ?_
  refine oR 2 [(27, .bool (!y2)), (26, .bool (!y2))] kr ?_
  cases h1 : ((!y2))
  ·replace hs := bif_f h1 hs
   refine oR 1 [(28, .vs 2 (mM enc_Entry measures))] kr ?_
   refine oP (v := .int .i64 (List.length measures : Int)) kr kr (loc_lenVs (sz := 2) (els := (mM enc_Entry measures)) kr kr (List.length_map ..)) ?_
   refine oR 3 [(32, .bool (decide ((List.length measures : Int) > 20))), (31, .bool (decide ((List.length measures : Int) > 20))), (30, .bool (decide ((List.length measures : Int) > 20)))] kr ?_
   cases h2 : ((decide ((List.length measures : Int) > 20)))
   ·replace hs := bif_f h2 hs
    refine oR 1 [(33, .vs 1 (mS zones))] kr ?_
    refine oP (v := .int .i64 (List.length zones : Int)) kr kr (loc_lenVs (sz := 1) (els := (mS zones)) kr kr (List.length_map ..)) ?_
    refine oR 3 [(37, .bool (decide ((List.length zones : Int) > 20))), (36, .bool (decide ((List.length zones : Int) > 20))), (35, .bool (decide ((List.length zones : Int) > 20)))] kr ?_
    cases h3 : ((decide ((List.length zones : Int) > 20)))
    ·replace hs := bif_f h3 hs
     refine oR 1 [(38, .agg (enc_Expr e))] kr ?_
     obtain ⟨y3, c3, hs⟩ := bS hs
     refine oP (v := .bool y3) kr kr (loc_gcall0 (callV_func hbv28 kr) (w_greenbeltlaw17_light e _ c3) kr) ?_
     refine oR 3 [(42, .bool (!y3)), (41, .bool (!y3)), (40, .bool (!y3))] kr ?_
     cases h4 : ((!y3))
     ·replace hs := bif_f h4 hs
      refine oR 4 [(46, .bool (decide (k < 0))), (45, .bool (decide (k < 0))), (44, .bool (decide (k < 0))), (43, .int .i64 k)] kr ?_
      cases h5 : ((decide (k < 0)))
      ·replace hs := bif_f h5 hs
       refine oR 3 [(49, .vs 6 (mM enc_Def p.Defs)), (48, .ptr 5 0 0), (47, .int .i64 k)] kr ?_
       refine oP (v := .int .i64 (List.length p.Defs : Int)) kr kr (loc_lenVs (sz := 6) (els := (mM enc_Def p.Defs)) kr kr (List.length_map ..)) ?_
       refine oR 2 [(52, .bool (decide (k ≥ (List.length p.Defs : Int)))), (51, .bool (decide (k ≥ (List.length p.Defs : Int))))] kr ?_
       refine oN ?_
       obtain rfl := si hs
       refine nrm_join (decide (k ≥ (List.length p.Defs : Int))) rfl ?_
       exact cut_of [1, 2, 4, 5, 8, 11, 52] [8, 5] kr kr kr
      ·replace hs := bif_t h5 hs
       refine oR 6 [(52, .bool true), (51, .no), (50, .no), (49, .no), (48, .no), (47, .no)] kr ?_
       refine oN ?_
       obtain rfl := si hs
       refine nrm_join true rfl ?_
       exact cut_of [1, 2, 4, 5, 8, 11, 52] [8, 5] kr kr kr
     ·replace hs := bif_t h4 hs
      refine oR 10 [(52, .bool true), (51, .no), (50, .no), (49, .no), (48, .no), (47, .no), (46, .bool true), (45, .bool true), (44, .no), (43, .no)] kr ?_
      refine oN ?_
      obtain rfl := si hs
      refine nrm_join true rfl ?_
      exact cut_of [1, 2, 4, 5, 8, 11, 52] [8, 5] kr kr kr
    ·replace hs := bif_t h3 hs
     refine oR 15 [(52, .bool true), (51, .no), (50, .no), (49, .no), (48, .no), (47, .no), (46, .bool true), (45, .bool true), (44, .no), (43, .no), (42, .bool true), (41, .bool true), (40, .no), (39, .no), (38, .no)] kr ?_
     refine oN ?_
     obtain rfl := si hs
     refine nrm_join true rfl ?_
     exact cut_of [1, 2, 4, 5, 8, 11, 52] [8, 5] kr kr kr
   ·replace hs := bif_t h2 hs
    refine oR 20 [(52, .bool true), (51, .no), (50, .no), (49, .no), (48, .no), (47, .no), (46, .bool true), (45, .bool true), (44, .no), (43, .no), (42, .bool true), (41, .bool true), (40, .no), (39, .no), (38, .no), (37, .bool true), (36, .bool true), (35, .no), (34, .no), (33, .no)] kr ?_
    refine oN ?_
    obtain rfl := si hs
    refine nrm_join true rfl ?_
    exact cut_of [1, 2, 4, 5, 8, 11, 52] [8, 5] kr kr kr
  ·replace hs := bif_t h1 hs
   refine oR 25 [(52, .bool true), (51, .no), (50, .no), (49, .no), (48, .no), (47, .no), (46, .bool true), (45, .bool true), (44, .no), (43, .no), (42, .bool true), (41, .bool true), (40, .no), (39, .no), (38, .no), (37, .bool true), (36, .bool true), (35, .no), (34, .no), (33, .no), (32, .bool true), (31, .bool true), (30, .no), (29, .no), (28, .no)] kr ?_
   refine oN ?_
   obtain rfl := si hs
   refine nrm_join true rfl ?_
   exact cut_of [1, 2, 4, 5, 8, 11, 52] [8, 5] kr kr kr
 ·subst hz; clear hs; have hs := hk1; clear hk1
  refine nT ?_
  refine v_cond v1 kr (fun h6 => ?_) (fun h6 => ?_)
  ·replace hs := bif_t h6 hs
   refine vS (vT (oR 2 [(10, .bool y1), (53, .bool y1)] kr ?_))
   refine oN (nT (v_ret (rT ?_)))
   obtain rfl := si hs
   exact fin_ret kr kr kr
  ·replace hs := bif_f h6 hs
   refine vK (nT (vS (vT (oR 1 [(55, .agg (enc_Plan p))] kr ?_))))
   obtain ⟨y4, c4, hs⟩ := bS hs
   refine oP (v := .tup [.vs 1 (mI y4.1), .vs 1 (mS y4.2.1), .int .i64 y4.2.2]) kr kr (loc_gcall0 (callV_func hbv12 kr) (w_greenbeltref16_Order p _ c4) kr) ?_
   refine oR 7 [(14, .int .i64 y4.2.2), (13, .vs 1 (mS y4.2.1)), (12, .vs 1 (mI y4.1)), (59, .int .i64 y4.2.2), (58, .vs 1 (mS y4.2.1)), (57, .vs 1 (mI y4.1)), (54, .tup [.vs 1 (mI y4.1), .vs 1 (mS y4.2.1), .int .i64 y4.2.2])] kr ?_
   refine oN (nT (vS (vT (oR 3 [(62, .int .i64 k), (61, .vs 6 (mM enc_Def p.Defs)), (60, .ptr 5 0 0)] kr ?_))))
   obtain ⟨x1, g1, hs⟩ := bS hs; obtain ⟨g1a, g1b, g1c⟩ := idx_some g1
   refine oP (v := .vp (enc_Def x1) 0) kr kr (loc_indexVs (e := 46) (sz := 6) (k := .i64) (els := (mM enc_Def p.Defs)) (cs := (enc_Def x1)) kr kr kr g1a (by rw [g1c]; exact map_get _ (by omega))) ?_
   refine o_runh 3 [(15, .ptr 15 0 0), (64, .agg (enc_Def x1))] [(15, .box 46 [.str x1.Name, .int .i64 x1.Body.Op, .int .i64 x1.Body.N, .str x1.Body.S, .str x1.Body.Key, .vs 5 (encs_Expr x1.Body.Args)]), (8, .box 44 (enc_Expr e)), (5, .box 30 (enc_Plan p))] kr ?_
   refine oN (nT (vS (vS (vT (oR 1 [(16, .int .i64 0)] kr ?_)))))
   refine oN (nT ?_)
   obtain ⟨z2, hs, hk2⟩ := bS hs
   refine v_join (S := Unit) (fun u => z2 = .inr u) (fun u => [(1, .vs 2 (mM enc_Entry measures)), (2, .vs 1 (mS zones)), (4, .int .i64 k), (5, .ptr 5 0 0), (8, .ptr 8 0 0), (11, .bool y1), (14, .int .i64 y4.2.2), (15, .ptr 15 0 0)]) (fun u => [(15, .box 46 [.str x1.Name, .int .i64 x1.Body.Op, .int .i64 x1.Body.N, .str x1.Body.S, .str x1.Body.Key, .vs 5 (encs_Expr x1.Body.Args)]), (8, .box 44 (enc_Expr e)), (5, .box 30 (enc_Plan p))]) ?_ (fun v2 hz => ?_)
   ·refine vB ?_
    refine v_fuel (S := Int) (fun u => [(1, .vs 2 (mM enc_Entry measures)), (2, .vs 1 (mS zones)), (4, .int .i64 k), (5, .ptr 5 0 0), (8, .ptr 8 0 0), (11, .bool y1), (14, .int .i64 y4.2.2), (15, .ptr 15 0 0), (16, .int .i64 u)]) (fun u => [(15, .box 46 [.str x1.Name, .int .i64 x1.Body.Op, .int .i64 x1.Body.N, .str x1.Body.S, .str x1.Body.Key, .vs 5 (encs_Expr x1.Body.Args)]), (8, .box 44 (enc_Expr e)), (5, .box 30 (enc_Plan p))]) (s_greenbeltlaw17_ExprReplaces_L1 measures y1 x1) (fun _ => rfl) KK 0 hs (cut_of [1, 2, 4, 5, 8, 11, 14, 15, 16] [15, 8, 5] kr kr kr) (fun K1 q1 hs => ?_)
    rw [s_greenbeltlaw17_ExprReplaces_L1] at hs
    show WpV cK0 Try.prog none 160 _ _ [(1, .vs 2 (mM enc_Entry measures)), (2, .vs 1 (mS zones)), (4, .int .i64 k), (5, .ptr 5 0 0), (8, .ptr 8 0 0), (11, .bool y1), (14, .int .i64 y4.2.2), (15, .ptr 15 0 0), (16, .int .i64 q1)] [(15, .box 46 [.str x1.Name, .int .i64 x1.Body.Op, .int .i64 x1.Body.N, .str x1.Body.S, .str x1.Body.Key, .vs 5 (encs_Expr x1.Body.Args)]), (8, .box 44 (enc_Expr e)), (5, .box 30 (enc_Plan p))] []
    refine vS (vS (vT (oR 2 [(66, .vs 2 (mM enc_Entry measures)), (65, .int .i64 q1)] kr ?_)))
    refine oP (v := .int .i64 (List.length measures : Int)) kr kr (loc_lenVs (sz := 2) (els := (mM enc_Entry measures)) kr kr (List.length_map ..)) ?_
    refine oR 1 [(68, .bool (decide (q1 < (List.length measures : Int))))] kr ?_
    refine oN (nT ?_)
    refine v_cond (decide (q1 < (List.length measures : Int))) kr (fun h7 => ?_) (fun h7 => ?_)
    ·replace hs := bif_t h7 hs
     refine vK (nT (vS (vB (vS (v_draw mixedH kr ?_)))))
     refine d_runs 2 0 [(72, .int .i64 q1), (71, .vs 2 (mM enc_Entry measures))] (pfp 2 1) kr kr ?_
     obtain ⟨x2, g2, hs⟩ := bS hs; obtain ⟨g2a, g2b, g2c⟩ := idx_some g2
     refine d_pure (v := .vp (enc_Entry x2) 0) 2 rfl rfl rfl rfl kr kr (loc_indexVs (e := 56) (sz := 2) (k := .i64) (els := (mM enc_Entry measures)) (cs := (enc_Entry x2)) kr kr kr g2a (by rw [g2c]; exact map_get _ (by omega))) ?_
     refine d_runs 5 3 [(78, .bool (decide (x2.Name = x1.Name))), (77, .str x1.Name), (76, .ptr 15 0 0), (75, .str x2.Name), (74, .vp (enc_Entry x2) 0)] [⟨7, [], []⟩, ⟨6, [], [15]⟩, ⟨5, [], []⟩, ⟨4, [], []⟩, ⟨3, [], []⟩] kr kr ?_
     refine d_nil kr ?_
     refine nT ?_
     refine v_cond (decide (x2.Name = x1.Name)) kr (fun h8 => ?_) (fun h8 => ?_)
     ·replace hs := bif_t h8 hs
      refine vS (vT (oR 2 [(10, .bool y1), (79, .bool y1)] kr ?_))
      refine oN (nT (v_ret (rB (rT (ret_fuel ?_)))))
      refine rB (ret_join ?_)
      refine rT ?_
      obtain rfl := si hs
      replace hs := hk2
      obtain rfl := si hs
      exact fin_ret kr kr kr
     ·replace hs := bif_f h8 hs
      refine vK (nB (nT (vT (oR 3 [(16, .int .i64 (w64 (q1 + 1))), (70, .int .i64 (w64 (q1 + 1))), (69, .int .i64 q1)] kr ?_))))
      refine oN (nrm_fuel (w64 (q1 + 1)) hs ?_)
      exact cut_of [1, 2, 4, 5, 8, 11, 14, 15, 16] [15, 8, 5] kr kr kr
    ·replace hs := bif_f h7 hs
     refine v_exit (exit_thenV (exit_fuel ?_))
     refine exit_blkV ?_
     obtain rfl := si hs
     refine nrm_join () rfl ?_
     exact cut_of [1, 2, 4, 5, 8, 11, 14, 15] [15, 8, 5] kr kr kr
   ·subst hz; clear hs; have hs := hk2; clear hk2
    refine nT (vS (vT (oR 5 [(84, .agg (enc_Expr x1.Body)), (83, .ptr 15 0 1), (82, .str x1.Name), (81, .ptr 15 0 0), (80, .agg (enc_Expr e))] kr ?_)))
    obtain ⟨y5, c5, hs⟩ := bS hs
    refine oP (v := .agg (enc_Expr y5)) kr kr (loc_gcall0 (callV_func hbv29 kr) (w_greenbeltlaw17_put KK e x1.Name x1.Body _ c5) kr) ?_
    refine o_runh 2 [(17, .ptr 17 0 0)] [(17, .box 44 (enc_Expr y5)), (15, .box 46 [.str x1.Name, .int .i64 x1.Body.Op, .int .i64 x1.Body.N, .str x1.Body.S, .str x1.Body.Key, .vs 5 (encs_Expr x1.Body.Args)]), (8, .box 44 (enc_Expr e)), (5, .box 30 (enc_Plan p))] kr ?_
    refine oN (nT (vS (vS ?_)))
    obtain ⟨z3, hs, hk3⟩ := bS hs
    refine v_join (S := Bool) (fun u => u = z3) (fun u => [(1, .vs 2 (mM enc_Entry measures)), (2, .vs 1 (mS zones)), (4, .int .i64 k), (5, .ptr 5 0 0), (8, .ptr 8 0 0), (11, .bool y1), (15, .ptr 15 0 0), (17, .ptr 17 0 0), (102, .bool u)]) (fun u => [(17, .box 44 (enc_Expr y5)), (15, .box 46 [.str x1.Name, .int .i64 x1.Body.Op, .int .i64 x1.Body.N, .str x1.Body.S, .str x1.Body.Key, .vs 5 (encs_Expr x1.Body.Args)]), (8, .box 44 (enc_Expr e)), (5, .box 30 (enc_Plan p))]) ?_ (fun v3 hz => ?_)
    ·refine vT (oR 3 [(88, .bool (!(decide (y4.2.2 = 0)))), (87, .bool (!(decide (y4.2.2 = 0)))), (86, .int .i64 y4.2.2)] kr ?_)
     cases h9 : ((!(decide (y4.2.2 = 0))))
     ·replace hs := bif_f h9 hs
      refine oR 1 [(89, .agg (enc_Expr e))] kr ?_
      obtain ⟨y6, c6, hs⟩ := bS hs
      refine oP (v := .bool y6) kr kr (loc_gcall0 (callV_func hbv30 kr) (w_expr_Right e _ c6) kr) ?_
      refine oR 3 [(93, .bool (!y6)), (92, .bool (!y6)), (91, .bool (!y6))] kr ?_
      cases h10 : ((!y6))
      ·replace hs := bif_f h10 hs
       refine oR 1 [(94, .agg (enc_Expr y5))] kr ?_
       obtain ⟨y7, c7, hs⟩ := bS hs
       refine oP (v := .bool y7) kr kr (loc_gcall0 (callV_func hbv30 kr) (w_expr_Right y5 _ c7) kr) ?_
       refine oR 3 [(98, .bool (!y7)), (97, .bool (!y7)), (96, .bool (!y7))] kr ?_
       cases h11 : ((!y7))
       ·replace hs := bif_f h11 hs
        refine oR 1 [(99, .agg (enc_Expr y5))] kr ?_
        obtain ⟨y8, c8, hs⟩ := bS hs
        refine oP (v := .int .i64 y8) kr kr (loc_gcall0 (callV_func hbv31 kr) (w_greenbeltlaw17_nodes KK y5 5000 20 _ c8) kr) ?_
        refine oR 2 [(102, .bool (decide (y8 > 5000))), (101, .bool (decide (y8 > 5000)))] kr ?_
        refine oN ?_
        obtain rfl := si hs
        refine nrm_join (decide (y8 > 5000)) rfl ?_
        exact cut_of [1, 2, 4, 5, 8, 11, 15, 17, 102] [17, 15, 8, 5] kr kr kr
       ·replace hs := bif_t h11 hs
        refine oR 4 [(102, .bool true), (101, .no), (100, .no), (99, .no)] kr ?_
        refine oN ?_
        obtain rfl := si hs
        refine nrm_join true rfl ?_
        exact cut_of [1, 2, 4, 5, 8, 11, 15, 17, 102] [17, 15, 8, 5] kr kr kr
      ·replace hs := bif_t h10 hs
       refine oR 9 [(102, .bool true), (101, .no), (100, .no), (99, .no), (98, .bool true), (97, .bool true), (96, .no), (95, .no), (94, .no)] kr ?_
       refine oN ?_
       obtain rfl := si hs
       refine nrm_join true rfl ?_
       exact cut_of [1, 2, 4, 5, 8, 11, 15, 17, 102] [17, 15, 8, 5] kr kr kr
     ·replace hs := bif_t h9 hs
      refine oR 14 [(102, .bool true), (101, .no), (100, .no), (99, .no), (98, .bool true), (97, .bool true), (96, .no), (95, .no), (94, .no), (93, .bool true), (92, .bool true), (91, .no), (90, .no), (89, .no)] kr ?_
      refine oN ?_
      obtain rfl := si hs
      refine nrm_join true rfl ?_
      exact cut_of [1, 2, 4, 5, 8, 11, 15, 17, 102] [17, 15, 8, 5] kr kr kr
    ·subst hz; clear hs; have hs := hk3; clear hk3
     refine nT ?_
     refine v_cond v3 kr (fun h12 => ?_) (fun h12 => ?_)
     ·replace hs := bif_t h12 hs
      refine vS (vT (oR 2 [(10, .bool y1), (103, .bool y1)] kr ?_))
      refine oN (nT (v_ret (rT ?_)))
      obtain rfl := si hs
      exact fin_ret kr kr kr
     ·replace hs := bif_f h12 hs
      refine vK (nT (vS (vT (oR 4 [(107, .agg (enc_Expr e)), (106, .vs 1 (mS zones)), (105, .vs 2 (mM enc_Entry measures)), (104, .agg (enc_Plan p))] kr ?_))))
      obtain ⟨y9, c9, hs⟩ := bS hs
      refine oP (v := .int .i64 y9) kr kr (loc_gcall0 (callV_func hbv32 kr) (w_expr_Eval_2 p measures zones e _ c9) kr) ?_
      refine oR 1 [(18, .int .i64 y9)] kr ?_
      refine oN (nT (vS (vS (vT (oR 4 [(112, .agg (enc_Expr y5)), (111, .vs 1 (mS zones)), (110, .vs 2 (mM enc_Entry measures)), (109, .agg (enc_Plan p))] kr ?_)))))
      obtain ⟨y10, c10, hs⟩ := bS hs
      refine oP (v := .int .i64 y10) kr kr (loc_gcall0 (callV_func hbv32 kr) (w_expr_Eval_2 p measures zones y5 _ c10) kr) ?_
      refine oR 2 [(115, .bool (!(decide (y10 = y9)))), (114, .int .i64 y9)] kr ?_
      refine oN (nT ?_)
      refine v_cond (!(decide (y10 = y9))) kr (fun h13 => ?_) (fun h13 => ?_)
      ·replace hs := bif_t h13 hs
       refine vS (vT (oR 1 [(10, .bool false)] kr ?_))
       refine oN (nT (v_ret (rT ?_)))
       obtain rfl := si hs
       exact fin_ret kr kr kr
      ·replace hs := bif_f h13 hs
       refine vK (nT (vS (vT (o_runh 3 [(19, .ptr 19 0 0), (116, .agg (enc_Plan p))] [(19, .box 30 (enc_Plan p)), (17, .box 44 (enc_Expr y5)), (15, .box 46 [.str x1.Name, .int .i64 x1.Body.Op, .int .i64 x1.Body.N, .str x1.Body.S, .str x1.Body.Key, .vs 5 (encs_Expr x1.Body.Args)]), (8, .box 44 (enc_Expr e)), (5, .box 30 (enc_Plan p))] kr ?_))))
       refine oN (nT (vS (vT (o_runh 2 [(117, .ptr 19 0 0)] [(19, .box 30 [.nils, .vs 3 (mM enc_Table p.Tables), .vs 3 (mM enc_Zone p.Zones), .vs 20 (mM enc_Rule p.Rules), .vs 4 (mM enc_Cap p.Caps), .vs 6 (mM enc_View p.Views), .vs 3 (mM enc_Point3 p.Sun), .int .i64 p.Hours]), (17, .box 44 (enc_Expr y5)), (15, .box 46 [.str x1.Name, .int .i64 x1.Body.Op, .int .i64 x1.Body.N, .str x1.Body.S, .str x1.Body.Key, .vs 5 (encs_Expr x1.Body.Args)]), (8, .box 44 (enc_Expr e)), (5, .box 30 (enc_Plan p))] kr ?_))))
       refine oN (nT (vS (vS (vT (oR 1 [(20, .int .i64 0)] kr ?_)))))
       refine oN (nT ?_)
       obtain ⟨z4, hs, hk4⟩ := bS hs
       refine v_join (S := (List Def)) (fun u => u = z4) (fun u => [(1, .vs 2 (mM enc_Entry measures)), (2, .vs 1 (mS zones)), (8, .ptr 8 0 0), (11, .bool y1), (18, .int .i64 y9), (19, .ptr 19 0 0)]) (fun u => [(19, .box 30 [.sl 6 2000145 ((u).length) 0 ((u).length), .vs 3 (mM enc_Table p.Tables), .vs 3 (mM enc_Zone p.Zones), .vs 20 (mM enc_Rule p.Rules), .vs 4 (mM enc_Cap p.Caps), .vs 6 (mM enc_View p.Views), .vs 3 (mM enc_Point3 p.Sun), .int .i64 p.Hours]), (8, .box 44 (enc_Expr e)), (2000145, .row 46 6 0 (mM enc_Def u))]) ?_ (fun v4 hz => ?_)
       ·refine vB ?_
        refine v_fuel (S := Int × (List Def)) (fun u => [(1, .vs 2 (mM enc_Entry measures)), (2, .vs 1 (mS zones)), (4, .int .i64 k), (5, .ptr 5 0 0), (8, .ptr 8 0 0), (11, .bool y1), (15, .ptr 15 0 0), (18, .int .i64 y9), (19, .ptr 19 0 0), (20, .int .i64 u.1)]) (fun u => [(19, .box 30 [.sl 6 2000145 ((u.2).length) 0 ((u.2).length), .vs 3 (mM enc_Table p.Tables), .vs 3 (mM enc_Zone p.Zones), .vs 20 (mM enc_Rule p.Rules), .vs 4 (mM enc_Cap p.Caps), .vs 6 (mM enc_View p.Views), .vs 3 (mM enc_Point3 p.Sun), .int .i64 p.Hours]), (15, .box 46 [.str x1.Name, .int .i64 x1.Body.Op, .int .i64 x1.Body.N, .str x1.Body.S, .str x1.Body.Key, .vs 5 (encs_Expr x1.Body.Args)]), (8, .box 44 (enc_Expr e)), (5, .box 30 (enc_Plan p)), (2000145, .row 46 6 0 (mM enc_Def u.2))]) (s_greenbeltlaw17_ExprReplaces_L2 p k x1) (fun _ => rfl) KK (0, []) hs (Cut.trans (cut_nilBox 19 0 2000145 46 6 (t := 30) (cs := [.nils, .vs 3 (mM enc_Table p.Tables), .vs 3 (mM enc_Zone p.Zones), .vs 20 (mM enc_Rule p.Rules), .vs 4 (mM enc_Cap p.Caps), .vs 6 (mM enc_View p.Views), .vs 3 (mM enc_Point3 p.Sun), .int .i64 p.Hours]) (cs' := [.sl 6 2000145 0 0 0, .vs 3 (mM enc_Table p.Tables), .vs 3 (mM enc_Zone p.Zones), .vs 20 (mM enc_Rule p.Rules), .vs 4 (mM enc_Cap p.Caps), .vs 6 (mM enc_View p.Views), .vs 3 (mM enc_Point3 p.Sun), .int .i64 p.Hours]) (H1 := [(2000145, .row 46 6 0 (mM enc_Def [])), (19, .box 30 [.sl 6 2000145 0 0 0, .vs 3 (mM enc_Table p.Tables), .vs 3 (mM enc_Zone p.Zones), .vs 20 (mM enc_Rule p.Rules), .vs 4 (mM enc_Cap p.Caps), .vs 6 (mM enc_View p.Views), .vs 3 (mM enc_Point3 p.Sun), .int .i64 p.Hours]), (17, .box 44 (enc_Expr y5)), (15, .box 46 [.str x1.Name, .int .i64 x1.Body.Op, .int .i64 x1.Body.N, .str x1.Body.S, .str x1.Body.Key, .vs 5 (encs_Expr x1.Body.Args)]), (8, .box 44 (enc_Expr e)), (5, .box 30 (enc_Plan p))]) kr kr kr kr kr kr) (cut_of [1, 2, 4, 5, 8, 11, 15, 18, 19, 20] [19, 15, 8, 5, 2000145] kr kr kr)) (fun K2 q2 hs => ?_)
        rw [s_greenbeltlaw17_ExprReplaces_L2] at hs
        show WpV cK0 Try.prog none 160 _ _ [(1, .vs 2 (mM enc_Entry measures)), (2, .vs 1 (mS zones)), (4, .int .i64 k), (5, .ptr 5 0 0), (8, .ptr 8 0 0), (11, .bool y1), (15, .ptr 15 0 0), (18, .int .i64 y9), (19, .ptr 19 0 0), (20, .int .i64 q2.1)] [(19, .box 30 [.sl 6 2000145 ((q2.2).length) 0 ((q2.2).length), .vs 3 (mM enc_Table p.Tables), .vs 3 (mM enc_Zone p.Zones), .vs 20 (mM enc_Rule p.Rules), .vs 4 (mM enc_Cap p.Caps), .vs 6 (mM enc_View p.Views), .vs 3 (mM enc_Point3 p.Sun), .int .i64 p.Hours]), (15, .box 46 [.str x1.Name, .int .i64 x1.Body.Op, .int .i64 x1.Body.N, .str x1.Body.S, .str x1.Body.Key, .vs 5 (encs_Expr x1.Body.Args)]), (8, .box 44 (enc_Expr e)), (5, .box 30 (enc_Plan p)), (2000145, .row 46 6 0 (mM enc_Def q2.2))] []
        refine vS (vS (vT (oR 3 [(120, .vs 6 (mM enc_Def p.Defs)), (119, .ptr 5 0 0), (118, .int .i64 q2.1)] kr ?_)))
        refine oP (v := .int .i64 (List.length p.Defs : Int)) kr kr (loc_lenVs (sz := 6) (els := (mM enc_Def p.Defs)) kr kr (List.length_map ..)) ?_
        refine oR 1 [(122, .bool (decide (q2.1 < (List.length p.Defs : Int))))] kr ?_
        refine oN (nT ?_)
        refine v_cond (decide (q2.1 < (List.length p.Defs : Int))) kr (fun h14 => ?_) (fun h14 => ?_)
        ·replace hs := bif_t h14 hs
         refine vK (nT (vS (vB (vS (vT (oR 3 [(127, .int .i64 q2.1), (126, .vs 6 (mM enc_Def p.Defs)), (125, .ptr 5 0 0)] kr ?_))))))
         obtain ⟨x3, g3, hs⟩ := bS hs; obtain ⟨g3a, g3b, g3c⟩ := idx_some g3
         refine oP (v := .vp (enc_Def x3) 0) kr kr (loc_indexVs (e := 46) (sz := 6) (k := .i64) (els := (mM enc_Def p.Defs)) (cs := (enc_Def x3)) kr kr kr g3a (by rw [g3c]; exact map_get _ (by omega))) ?_
         refine o_runh 3 [(21, .ptr 21 0 0), (129, .agg (enc_Def x3))] [(21, .box 46 [.str x3.Name, .int .i64 x3.Body.Op, .int .i64 x3.Body.N, .str x3.Body.S, .str x3.Body.Key, .vs 5 (encs_Expr x3.Body.Args)]), (19, .box 30 [.sl 6 2000145 ((q2.2).length) 0 ((q2.2).length), .vs 3 (mM enc_Table p.Tables), .vs 3 (mM enc_Zone p.Zones), .vs 20 (mM enc_Rule p.Rules), .vs 4 (mM enc_Cap p.Caps), .vs 6 (mM enc_View p.Views), .vs 3 (mM enc_Point3 p.Sun), .int .i64 p.Hours]), (15, .box 46 [.str x1.Name, .int .i64 x1.Body.Op, .int .i64 x1.Body.N, .str x1.Body.S, .str x1.Body.Key, .vs 5 (encs_Expr x1.Body.Args)]), (8, .box 44 (enc_Expr e)), (5, .box 30 (enc_Plan p)), (2000145, .row 46 6 0 (mM enc_Def q2.2))] kr ?_
         refine oN (nT (vS (vS (vT (oR 3 [(132, .bool (!(decide (q2.1 = k)))), (131, .int .i64 k), (130, .int .i64 q2.1)] kr ?_)))))
         refine oN (nT ?_)
         obtain ⟨z5, hs, hk5⟩ := bS hs
         refine v_join (S := Int × Int × (List UInt8) × (List UInt8) × (List Expr)) (fun u => u = z5) (fun u => [(1, .vs 2 (mM enc_Entry measures)), (2, .vs 1 (mS zones)), (4, .int .i64 k), (5, .ptr 5 0 0), (8, .ptr 8 0 0), (11, .bool y1), (15, .ptr 15 0 0), (18, .int .i64 y9), (19, .ptr 19 0 0), (20, .int .i64 q2.1), (21, .ptr 21 0 0)]) (fun u => [(21, .box 46 [.str x3.Name, .int .i64 u.1, .int .i64 u.2.1, .str u.2.2.1, .str u.2.2.2.1, .vs 5 (encs_Expr u.2.2.2.2)]), (19, .box 30 [.sl 6 2000145 ((q2.2).length) 0 ((q2.2).length), .vs 3 (mM enc_Table p.Tables), .vs 3 (mM enc_Zone p.Zones), .vs 20 (mM enc_Rule p.Rules), .vs 4 (mM enc_Cap p.Caps), .vs 6 (mM enc_View p.Views), .vs 3 (mM enc_Point3 p.Sun), .int .i64 p.Hours]), (15, .box 46 [.str x1.Name, .int .i64 x1.Body.Op, .int .i64 x1.Body.N, .str x1.Body.S, .str x1.Body.Key, .vs 5 (encs_Expr x1.Body.Args)]), (8, .box 44 (enc_Expr e)), (5, .box 30 (enc_Plan p)), (2000145, .row 46 6 0 (mM enc_Def q2.2))]) ?_ (fun v5 hz => ?_)
         ·refine v_cond (!(decide (q2.1 = k))) kr (fun h15 => ?_) (fun h15 => ?_)
          ·replace hs := bif_t h15 hs
           refine vS (vT (oR 6 [(138, .agg (enc_Expr x1.Body)), (137, .ptr 15 0 1), (136, .str x1.Name), (135, .ptr 15 0 0), (134, .agg (enc_Expr x3.Body)), (133, .ptr 21 0 1)] kr ?_))
           obtain ⟨y11, c11, hs⟩ := bS hs
           refine oP (v := .agg (enc_Expr y11)) kr kr (loc_gcall0 (callV_func hbv29 kr) (w_greenbeltlaw17_put KK x3.Body x1.Name x1.Body _ c11) kr) ?_
           refine o_runh 2 [(22, .ptr 22 0 0)] [(22, .box 44 (enc_Expr y11)), (21, .box 46 [.str x3.Name, .int .i64 x3.Body.Op, .int .i64 x3.Body.N, .str x3.Body.S, .str x3.Body.Key, .vs 5 (encs_Expr x3.Body.Args)]), (19, .box 30 [.sl 6 2000145 ((q2.2).length) 0 ((q2.2).length), .vs 3 (mM enc_Table p.Tables), .vs 3 (mM enc_Zone p.Zones), .vs 20 (mM enc_Rule p.Rules), .vs 4 (mM enc_Cap p.Caps), .vs 6 (mM enc_View p.Views), .vs 3 (mM enc_Point3 p.Sun), .int .i64 p.Hours]), (15, .box 46 [.str x1.Name, .int .i64 x1.Body.Op, .int .i64 x1.Body.N, .str x1.Body.S, .str x1.Body.Key, .vs 5 (encs_Expr x1.Body.Args)]), (8, .box 44 (enc_Expr e)), (5, .box 30 (enc_Plan p)), (2000145, .row 46 6 0 (mM enc_Def q2.2))] kr ?_
           refine oN (nT (vS (vT (oR 1 [(140, .agg (enc_Expr y11))] kr ?_))))
           obtain ⟨y12, c12, hs⟩ := bS hs
           refine oP (v := .bool y12) kr kr (loc_gcall0 (callV_func hbv30 kr) (w_expr_Right y11 _ c12) kr) ?_
           refine oN (nT ?_)
           refine v_cond y12 kr (fun h16 => ?_) (fun h16 => ?_)
           ·replace hs := bif_t h16 hs
            refine vT (o_runh 3 [(143, .ptr 21 0 1), (142, .agg (enc_Expr y11))] [(22, .box 44 (enc_Expr y11)), (21, .box 46 [.str x3.Name, .int .i64 y11.Op, .int .i64 y11.N, .str y11.S, .str y11.Key, .vs 5 (encs_Expr y11.Args)]), (19, .box 30 [.sl 6 2000145 ((q2.2).length) 0 ((q2.2).length), .vs 3 (mM enc_Table p.Tables), .vs 3 (mM enc_Zone p.Zones), .vs 20 (mM enc_Rule p.Rules), .vs 4 (mM enc_Cap p.Caps), .vs 6 (mM enc_View p.Views), .vs 3 (mM enc_Point3 p.Sun), .int .i64 p.Hours]), (15, .box 46 [.str x1.Name, .int .i64 x1.Body.Op, .int .i64 x1.Body.N, .str x1.Body.S, .str x1.Body.Key, .vs 5 (encs_Expr x1.Body.Args)]), (8, .box 44 (enc_Expr e)), (5, .box 30 (enc_Plan p)), (2000145, .row 46 6 0 (mM enc_Def q2.2))] kr ?_)
            refine oN ?_
            obtain rfl := si hs
            refine nrm_join (y11.Op, y11.N, y11.S, y11.Key, y11.Args) rfl ?_
            exact cut_of [1, 2, 4, 5, 8, 11, 15, 18, 19, 20, 21] [21, 19, 15, 8, 5, 2000145] kr kr kr
           ·replace hs := bif_f h16 hs
            refine vK ?_
            obtain rfl := si hs
            refine nrm_join (x3.Body.Op, x3.Body.N, x3.Body.S, x3.Body.Key, x3.Body.Args) rfl ?_
            exact cut_of [1, 2, 4, 5, 8, 11, 15, 18, 19, 20, 21] [21, 19, 15, 8, 5, 2000145] kr kr kr
          ·replace hs := bif_f h15 hs
           refine vK ?_
           obtain rfl := si hs
           refine nrm_join (x3.Body.Op, x3.Body.N, x3.Body.S, x3.Body.Key, x3.Body.Args) rfl ?_
           exact cut_of [1, 2, 4, 5, 8, 11, 15, 18, 19, 20, 21] [21, 19, 15, 8, 5, 2000145] kr kr kr
         ·subst hz; clear hs; have hs := hk5; clear hk5
          refine nT (vT (o_runh 4 [(147, .sl 6 147 1 0 1), (146, .agg [.str x3.Name, .int .i64 v5.1, .int .i64 v5.2.1, .str v5.2.2.1, .str v5.2.2.2.1, .vs 5 (encs_Expr v5.2.2.2.2)]), (145, .sl 6 2000145 ((q2.2).length) 0 ((q2.2).length)), (144, .ptr 19 0 0)] [(147, .row 46 6 0 (mM enc_Def [(Def.mk x3.Name (Expr.mk v5.1 v5.2.1 v5.2.2.1 v5.2.2.2.1 v5.2.2.2.2))])), (21, .box 46 [.str x3.Name, .int .i64 v5.1, .int .i64 v5.2.1, .str v5.2.2.1, .str v5.2.2.2.1, .vs 5 (encs_Expr v5.2.2.2.2)]), (19, .box 30 [.sl 6 2000145 ((q2.2).length) 0 ((q2.2).length), .vs 3 (mM enc_Table p.Tables), .vs 3 (mM enc_Zone p.Zones), .vs 20 (mM enc_Rule p.Rules), .vs 4 (mM enc_Cap p.Caps), .vs 6 (mM enc_View p.Views), .vs 3 (mM enc_Point3 p.Sun), .int .i64 p.Hours]), (15, .box 46 [.str x1.Name, .int .i64 x1.Body.Op, .int .i64 x1.Body.N, .str x1.Body.S, .str x1.Body.Key, .vs 5 (encs_Expr x1.Body.Args)]), (8, .box 44 (enc_Expr e)), (5, .box 30 (enc_Plan p)), (2000145, .row 46 6 0 (mM enc_Def q2.2))] kr ?_))
          obtain ⟨_, g4, hs⟩ := bS hs; replace g4 := grd_some g4
          refine o_loc (F := [(2000145, .row 46 6 0 (mM enc_Def q2.2)), (147, .row 46 6 0 (mM enc_Def [(Def.mk x3.Name (Expr.mk v5.1 v5.2.1 v5.2.2.1 v5.2.2.2.1 v5.2.2.2.2))]))]) (F' := [(2000145, .row 46 6 0 (mM enc_Def (q2.2 ++ [(Def.mk x3.Name (Expr.mk v5.1 v5.2.1 v5.2.2.1 v5.2.2.2.1 v5.2.2.2.2))]))), (147, .row 46 6 0 (mM enc_Def [(Def.mk x3.Name (Expr.mk v5.1 v5.2.1 v5.2.2.1 v5.2.2.2.1 v5.2.2.2.2))]))]) (v := .sl 6 2000145 (((q2.2 ++ [(Def.mk x3.Name (Expr.mk v5.1 v5.2.1 v5.2.2.1 v5.2.2.2.1 v5.2.2.2.2))])).length) 0 (((q2.2 ++ [(Def.mk x3.Name (Expr.mk v5.1 v5.2.1 v5.2.2.1 v5.2.2.2.1 v5.2.2.2.2))])).length)) [2000145, 147] kr kr rfl kr (loc_appendT (e := 46) (sz := 6) (bytes := 88) (L := (q2.2).length) (els := (mM enc_Def q2.2)) (ys := (mM enc_Def [(Def.mk x3.Name (Expr.mk v5.1 v5.2.1 v5.2.2.1 v5.2.2.2.1 v5.2.2.2.2))])) kr kr (by first | exact List.length_map .. | rfl) (.sl (t := 46) (fz := 0) (ys := (mM enc_Def [(Def.mk x3.Name (Expr.mk v5.1 v5.2.1 v5.2.2.1 v5.2.2.2.1 v5.2.2.2.2))])) kr kr) (map_ones enc_Def (fun _ => rfl) _) (map_lens enc_Def (fun _ => rfl) _) kr (by first | exact (List.map_append ..).symm | rfl | simp only [List.map_nil, List.nil_append]) (List.length_map ..) g4 (by omega)) kr ?_
          refine o_runh 2 [(149, .ptr 19 0 0)] [(2000145, .row 46 6 0 (mM enc_Def (q2.2 ++ [(Def.mk x3.Name (Expr.mk v5.1 v5.2.1 v5.2.2.1 v5.2.2.2.1 v5.2.2.2.2))]))), (147, .row 46 6 0 (mM enc_Def [(Def.mk x3.Name (Expr.mk v5.1 v5.2.1 v5.2.2.1 v5.2.2.2.1 v5.2.2.2.2))])), (21, .box 46 [.str x3.Name, .int .i64 v5.1, .int .i64 v5.2.1, .str v5.2.2.1, .str v5.2.2.2.1, .vs 5 (encs_Expr v5.2.2.2.2)]), (19, .box 30 [.sl 6 2000145 (((q2.2 ++ [(Def.mk x3.Name (Expr.mk v5.1 v5.2.1 v5.2.2.1 v5.2.2.2.1 v5.2.2.2.2))])).length) 0 (((q2.2 ++ [(Def.mk x3.Name (Expr.mk v5.1 v5.2.1 v5.2.2.1 v5.2.2.2.1 v5.2.2.2.2))])).length), .vs 3 (mM enc_Table p.Tables), .vs 3 (mM enc_Zone p.Zones), .vs 20 (mM enc_Rule p.Rules), .vs 4 (mM enc_Cap p.Caps), .vs 6 (mM enc_View p.Views), .vs 3 (mM enc_Point3 p.Sun), .int .i64 p.Hours]), (15, .box 46 [.str x1.Name, .int .i64 x1.Body.Op, .int .i64 x1.Body.N, .str x1.Body.S, .str x1.Body.Key, .vs 5 (encs_Expr x1.Body.Args)]), (8, .box 44 (enc_Expr e)), (5, .box 30 (enc_Plan p))] kr ?_
          refine oN (nB (nT (vT (oR 3 [(20, .int .i64 (w64 (q2.1 + 1))), (124, .int .i64 (w64 (q2.1 + 1))), (123, .int .i64 q2.1)] kr ?_))))
          refine oN (nrm_fuel ((w64 (q2.1 + 1)), (q2.2 ++ [(Def.mk x3.Name (Expr.mk v5.1 v5.2.1 v5.2.2.1 v5.2.2.2.1 v5.2.2.2.2))])) hs ?_)
          exact cut_of [1, 2, 4, 5, 8, 11, 15, 18, 19, 20] [19, 15, 8, 5, 2000145] kr kr kr
        ·replace hs := bif_f h14 hs
         refine v_exit (exit_thenV (exit_fuel ?_))
         refine exit_blkV ?_
         obtain rfl := si hs
         refine nrm_join q2.2 rfl ?_
         exact cut_of [1, 2, 8, 11, 18, 19] [19, 8, 2000145] kr kr kr
       ·subst hz; clear hs; have hs := hk4; clear hk4
        refine nT (vS ?_)
        obtain ⟨z6, hs, hk6⟩ := bS hs
        refine v_join (S := Bool) (fun u => u = z6) (fun u => [(10, .bool u)]) (fun u => []) ?_ (fun v6 hz => ?_)
        ·refine vT (oR 2 [(151, .bool y1), (150, .bool y1)] kr ?_)
         cases h17 : (y1)
         ·replace hs := bif_f h17 hs
          refine oR 9 [(10, .bool false), (159, .bool false), (158, .no), (157, .no), (156, .no), (155, .no), (154, .no), (153, .no), (152, .no)] kr ?_
          refine oN ?_
          obtain rfl := si hs
          refine nrm_join false rfl ?_
          exact cut_of [10] [] kr kr kr
         ·replace hs := bif_t h17 hs
          refine oR 4 [(155, .agg (enc_Expr e)), (154, .vs 1 (mS zones)), (153, .vs 2 (mM enc_Entry measures)), (152, .agg [.sl 6 2000145 ((v4).length) 0 ((v4).length), .vs 3 (mM enc_Table p.Tables), .vs 3 (mM enc_Zone p.Zones), .vs 20 (mM enc_Rule p.Rules), .vs 4 (mM enc_Cap p.Caps), .vs 6 (mM enc_View p.Views), .vs 3 (mM enc_Point3 p.Sun), .int .i64 p.Hours])] kr ?_
          obtain ⟨y13, c13, hs⟩ := bS hs
          refine o_loc (F := [(2000145, .row 46 6 0 (mM enc_Def v4))]) (F' := [(2000145, .row 46 6 0 (mM enc_Def v4))]) (v := .int .i64 y13) [2000145] kr kr rfl kr (loc_gcallB (vs := [.agg [.sl 6 2000145 ((v4).length) 0 ((v4).length), .vs 3 (mM enc_Table p.Tables), .vs 3 (mM enc_Zone p.Zones), .vs 20 (mM enc_Rule p.Rules), .vs 4 (mM enc_Cap p.Caps), .vs 6 (mM enc_View p.Views), .vs 3 (mM enc_Point3 p.Sun), .int .i64 p.Hours], .vs 2 (mM enc_Entry measures), .vs 1 (mS zones), .agg (enc_Expr e)]) (R := [(2000145, .row 46 6 0 (mM enc_Def v4))]) (callV_func hbv32 kr) (w_expr_Eval v4 p.Tables p.Zones p.Rules p.Caps p.Views p.Sun p.Hours measures zones e _ c13) (.cons (.agg (.cons (.row (t := 46) (fz := 0) kr (by first | (simp only [List.length_map, List.length_set, cpyT_length]; done) | rfl)) (.cons (.same _) (.cons (.same _) (.cons (.same _) (.cons (.same _) (.cons (.same _) (.cons (.same _) (.cons (.same _) (.nil)))))))))) (.cons (.same _) (.cons (.same _) (.cons (.same _) (.nil))))) kr kr kr) kr ?_
          refine oR 4 [(10, .bool (decide (y13 = y9))), (159, .bool (decide (y13 = y9))), (158, .bool (decide (y13 = y9))), (157, .int .i64 y9)] kr ?_
          refine oN ?_
          obtain rfl := si hs
          refine nrm_join (decide (y13 = y9)) rfl ?_
          exact cut_of [10] [] kr kr kr
        ·subst hz; clear hs; have hs := hk6; clear hk6
         refine nT (v_ret ?_)
         obtain rfl := si hs
         exact fin_ret kr kr kr
end Go.Proofs.Ytconjkgifdfhdaa
