/- printed by gen2.py -/
import Derived.Test.YtconjkgifdfhdabE
import Derived.Test.YtconjkgifdfhdabSD
import Derived.Test.YtconjkgifdfhdabSPartB
set_option linter.all false
set_option maxRecDepth 100000
namespace Go.Proofs.Ytconjkgifdfhdab
open Go Go.RowKit Go.Eng Go.EV
variable [Fuel]

theorem w_expr_Check (p_Defs : (List Def)) (p_Tables : (List Table)) (p_Zones : (List Zone)) (p_Rules : (List Rule)) (p_Caps : (List Cap)) (p_Views : (List View)) (p_Sun : (List Point3)) (p_Hours : Int) (measures : (List (List UInt8))) (e : Expr) (r : Int) (hs : s_expr_Check p_Defs p_Tables p_Zones p_Rules p_Caps p_Views p_Sun p_Hours measures e = some r) : FnA Try.prog 16 [.agg [.vs 6 (List.map enc_Def p_Defs), .vs 3 (List.map enc_Table p_Tables), .vs 3 (List.map enc_Zone p_Zones), .vs 20 (List.map enc_Rule p_Rules), .vs 4 (List.map enc_Cap p_Caps), .vs 6 (List.map enc_View p_Views), .vs 3 (List.map enc_Point3 p_Sun), .int .i64 p_Hours], .vs 1 (List.map EV.encS measures), .agg (enc_Expr e)] [] (.int .i64 r) [] := by
 refine fnA_of_wp (N := 33) Try.func16 rfl rfl rfl fun cK0 => ?_
 unfold s_expr_Check at hs
 refine v_same (ρ' := [(0, .agg [.vs 6 (List.map enc_Def p_Defs), .vs 3 (List.map enc_Table p_Tables), .vs 3 (List.map enc_Zone p_Zones), .vs 20 (List.map enc_Rule p_Rules), .vs 4 (List.map enc_Cap p_Caps), .vs 6 (List.map enc_View p_Views), .vs 3 (List.map enc_Point3 p_Sun), .int .i64 p_Hours]), (1, .vs 1 (List.map EV.encS measures)), (2, .agg (enc_Expr e))]) rfl rfl ?_
 refine v_seq (vr_text (o_runh 3 [(6, .int .i64 0), (5, .ptr 5 0 0), (3, .ptr 3 0 0)] [(5, .box 34 [.int .i64 e.Op, .int .i64 e.N, .str e.S, .str e.Key, .vs 5 (encs_Expr e.Args)]), (3, .box 31 [.vs 6 (List.map enc_Def p_Defs), .vs 3 (List.map enc_Table p_Tables), .vs 3 (List.map enc_Zone p_Zones), .vs 20 (List.map enc_Rule p_Rules), .vs 4 (List.map enc_Cap p_Caps), .vs 6 (List.map enc_View p_Views), .vs 3 (List.map enc_Point3 p_Sun), .int .i64 p_Hours])] (by kernel_rfl) ?_))
 refine ov_nil (nrm_thenV (v_seq (v_seq (vr_text (o_runs 1 [(11, .agg (enc_Expr e))] (by kernel_rfl) ?_)))))
 obtain ⟨y1, c1, hs⟩ := bind_some hs
 refine o_pure (v := .bool y1) (by kernel_rfl) (by kernel_rfl) (loc_gcall0 (callV_func hbv15 (by kernel_rfl)) (w_expr_Right e _ c1) (by kernel_rfl)) ?_
 refine o_runs 1 [(13, .bool (!y1))] (by kernel_rfl) ?_
 refine ov_nil (nrm_thenV ?_)
 refine v_cond (!y1) (by kernel_rfl) (fun h1 => ?_) (fun h1 => ?_)
 ·replace hs := bif_t h1 hs
  refine v_seq (vr_text (o_runs 1 [(6, .int .i64 1)] (by kernel_rfl) ?_))
  refine ov_nil (nrm_thenV (v_ret (ret_thenV ?_)))
  obtain rfl := si hs
  exact fin_ret (by kernel_rfl) (by kernel_rfl) (by kernel_rfl)
 ·replace hs := bif_f h1 hs
  refine v_skip (nrm_thenV (v_seq (vr_text (o_runs 1 [(14, .vs 1 (List.map EV.encS measures))] (by kernel_rfl) ?_))))
  obtain ⟨y2, c2, hs⟩ := bind_some hs
  refine o_loc (F := []) (F' := [(3001500, .row 9 1 0 (List.map EV.encS y2))]) (v := .sl 1 3001500 ((y2).length) 0 ((y2).length)) [] (by kernel_rfl) (by kernel_rfl) rfl (by kernel_rfl) (loc_g (R := []) [.vs 1 (List.map EV.encS measures)] [(5, 3001500)] (callV_func hbv25 (by kernel_rfl)) (w_slices_Clone measures _ c2) (.cons (.same _) (.nil)) (by kernel_rfl) (by kernel_rfl) (by kernel_rfl) (by kernel_rfl) (by kernel_rfl) (by kernel_rfl) (by kernel_rfl) (by kernel_rfl)) (by kernel_rfl) ?_
  refine o_runh 2 [(7, .ptr 7 0 0)] [(7, .box 40 [.sl 1 3001500 ((y2).length) 0 ((y2).length)]), (3001500, .row 9 1 0 (List.map EV.encS y2)), (5, .box 34 [.int .i64 e.Op, .int .i64 e.N, .str e.S, .str e.Key, .vs 5 (encs_Expr e.Args)]), (3, .box 31 [.vs 6 (List.map enc_Def p_Defs), .vs 3 (List.map enc_Table p_Tables), .vs 3 (List.map enc_Zone p_Zones), .vs 20 (List.map enc_Rule p_Rules), .vs 4 (List.map enc_Cap p_Caps), .vs 6 (List.map enc_View p_Views), .vs 3 (List.map enc_Point3 p_Sun), .int .i64 p_Hours])] (by kernel_rfl) ?_
  refine ov_nil (nrm_thenV (v_seq (v_seq (vr_text (o_runs 2 [(17, .vs 6 (List.map enc_Def p_Defs)), (16, .ptr 3 0 0)] (by kernel_rfl) ?_)))))
  refine o_pure (v := .int .i64 (List.length p_Defs : Int)) (by kernel_rfl) (by kernel_rfl) (loc_lenVs (sz := 6) (els := (List.map enc_Def p_Defs)) (by kernel_rfl) (by kernel_rfl) (List.length_map ..)) ?_
  refine o_runs 1 [(19, .int .i64 0)] (by kernel_rfl) ?_
  refine ov_nil (nrm_thenV ?_)
  obtain ⟨z1, hs, hk1⟩ := bind_some hs
  refine v_join (S := (List (List UInt8))) (fun u => u = z1) (fun u => [(3, .ptr 3 0 0), (5, .ptr 5 0 0), (7, .ptr 7 0 0)]) (fun u => [(7, .box 40 [.sl 1 3001500 ((u).length) 0 ((u).length)]), (3001500, .row 9 1 0 (List.map EV.encS u)), (5, .box 34 [.int .i64 e.Op, .int .i64 e.N, .str e.S, .str e.Key, .vs 5 (encs_Expr e.Args)]), (3, .box 31 [.vs 6 (List.map enc_Def p_Defs), .vs 3 (List.map enc_Table p_Tables), .vs 3 (List.map enc_Zone p_Zones), .vs 20 (List.map enc_Rule p_Rules), .vs 4 (List.map enc_Cap p_Caps), .vs 6 (List.map enc_View p_Views), .vs 3 (List.map enc_Point3 p_Sun), .int .i64 p_Hours])]) ?_ (fun v1 hz => ?_)
  ·refine v_block ?_
   refine v_fuel (S := Int × (List (List UInt8))) (fun u => [(3, .ptr 3 0 0), (5, .ptr 5 0 0), (7, .ptr 7 0 0), (17, .vs 6 (List.map enc_Def p_Defs)), (18, .int .i64 (List.length p_Defs : Int)), (19, .int .i64 u.1)]) (fun u => [(7, .box 40 [.sl 1 3001500 ((u.2).length) 0 ((u.2).length)]), (3001500, .row 9 1 0 (List.map EV.encS u.2)), (5, .box 34 [.int .i64 e.Op, .int .i64 e.N, .str e.S, .str e.Key, .vs 5 (encs_Expr e.Args)]), (3, .box 31 [.vs 6 (List.map enc_Def p_Defs), .vs 3 (List.map enc_Table p_Tables), .vs 3 (List.map enc_Zone p_Zones), .vs 20 (List.map enc_Rule p_Rules), .vs 4 (List.map enc_Cap p_Caps), .vs 6 (List.map enc_View p_Views), .vs 3 (List.map enc_Point3 p_Sun), .int .i64 p_Hours])]) (s_expr_Check_L1 p_Defs) (fun _ => rfl) KK (0, y2) hs (cut_of [3, 5, 7, 17, 18, 19] [7, 3001500, 5, 3] (by kernel_rfl) (by kernel_rfl) (by kernel_rfl)) (fun K1 q1 hs => ?_)
   rw [s_expr_Check_L1] at hs
   show WpV cK0 Try.prog none 33 _ _ [(3, .ptr 3 0 0), (5, .ptr 5 0 0), (7, .ptr 7 0 0), (17, .vs 6 (List.map enc_Def p_Defs)), (18, .int .i64 (List.length p_Defs : Int)), (19, .int .i64 q1.1)] [(7, .box 40 [.sl 1 3001500 ((q1.2).length) 0 ((q1.2).length)]), (3001500, .row 9 1 0 (List.map EV.encS q1.2)), (5, .box 34 [.int .i64 e.Op, .int .i64 e.N, .str e.S, .str e.Key, .vs 5 (encs_Expr e.Args)]), (3, .box 31 [.vs 6 (List.map enc_Def p_Defs), .vs 3 (List.map enc_Table p_Tables), .vs 3 (List.map enc_Zone p_Zones), .vs 20 (List.map enc_Rule p_Rules), .vs 4 (List.map enc_Cap p_Caps), .vs 6 (List.map enc_View p_Views), .vs 3 (List.map enc_Point3 p_Sun), .int .i64 p_Hours])] []
   refine v_seq (vr_text (o_runs 1 [(20, .bool (decide (q1.1 < (List.length p_Defs : Int))))] (by kernel_rfl) ?_))
   refine ov_nil (nrm_thenV (v_seq ?_))
   refine v_cond (decide (q1.1 < (List.length p_Defs : Int))) (by kernel_rfl) (fun h2 => ?_) (fun h2 => ?_)
   ·replace hs := bif_t h2 hs
    refine v_skip (nrm_thenV (v_seq (v_block (v_seq (vr_text ?_)))))
    obtain ⟨x1, g1, hs⟩ := bind_some hs; obtain ⟨g1a, g1b, g1c⟩ := idx_some g1
    refine o_pure (v := .vp (enc_Def x1) 0) (by kernel_rfl) (by kernel_rfl) (loc_indexVs (e := 52) (sz := 6) (k := .i64) (els := (List.map enc_Def p_Defs)) (cs := (enc_Def x1)) (by kernel_rfl) (by kernel_rfl) (by kernel_rfl) g1a (by rw [g1c]; exact map_get _ (by omega))) ?_
    refine o_runh 3 [(9, .ptr 9 0 0), (22, .agg (enc_Def x1))] [(9, .box 52 [.str x1.Name, .int .i64 x1.Body.Op, .int .i64 x1.Body.N, .str x1.Body.S, .str x1.Body.Key, .vs 5 (encs_Expr x1.Body.Args)]), (7, .box 40 [.sl 1 3001500 ((q1.2).length) 0 ((q1.2).length)]), (3001500, .row 9 1 0 (List.map EV.encS q1.2)), (5, .box 34 [.int .i64 e.Op, .int .i64 e.N, .str e.S, .str e.Key, .vs 5 (encs_Expr e.Args)]), (3, .box 31 [.vs 6 (List.map enc_Def p_Defs), .vs 3 (List.map enc_Table p_Tables), .vs 3 (List.map enc_Zone p_Zones), .vs 20 (List.map enc_Rule p_Rules), .vs 4 (List.map enc_Cap p_Caps), .vs 6 (List.map enc_View p_Views), .vs 3 (List.map enc_Point3 p_Sun), .int .i64 p_Hours])] (by kernel_rfl) ?_
    refine ov_nil (nrm_thenV (vr_text (o_runh 4 [(26, .sl 1 26 1 0 1), (25, .str x1.Name), (24, .ptr 9 0 0), (23, .sl 1 3001500 ((q1.2).length) 0 ((q1.2).length))] [(26, .row 9 1 0 (List.map EV.encS [x1.Name])), (9, .box 52 [.str x1.Name, .int .i64 x1.Body.Op, .int .i64 x1.Body.N, .str x1.Body.S, .str x1.Body.Key, .vs 5 (encs_Expr x1.Body.Args)]), (7, .box 40 [.sl 1 3001500 ((q1.2).length) 0 ((q1.2).length)]), (3001500, .row 9 1 0 (List.map EV.encS q1.2)), (5, .box 34 [.int .i64 e.Op, .int .i64 e.N, .str e.S, .str e.Key, .vs 5 (encs_Expr e.Args)]), (3, .box 31 [.vs 6 (List.map enc_Def p_Defs), .vs 3 (List.map enc_Table p_Tables), .vs 3 (List.map enc_Zone p_Zones), .vs 20 (List.map enc_Rule p_Rules), .vs 4 (List.map enc_Cap p_Caps), .vs 6 (List.map enc_View p_Views), .vs 3 (List.map enc_Point3 p_Sun), .int .i64 p_Hours])] (by kernel_rfl) ?_)))
    obtain ⟨_, g2, hs⟩ := bind_some hs; replace g2 := grd_some g2
    refine o_loc (F := [(3001500, .row 9 1 0 (List.map EV.encS q1.2)), (26, .row 9 1 0 (List.map EV.encS [x1.Name]))]) (F' := [(3001500, .row 9 1 0 (List.map EV.encS (q1.2 ++ [x1.Name]))), (26, .row 9 1 0 (List.map EV.encS [x1.Name]))]) (v := .sl 1 3001500 (((q1.2 ++ [x1.Name])).length) 0 (((q1.2 ++ [x1.Name])).length)) [3001500, 26] (by kernel_rfl) (by kernel_rfl) rfl (by kernel_rfl) (loc_appendT (e := 9) (sz := 1) (bytes := 16) (L := (q1.2).length) (els := (List.map EV.encS q1.2)) (ys := (List.map EV.encS [x1.Name])) (by kernel_rfl) (by kernel_rfl) (by first | exact List.length_map .. | rfl) (.sl (t := 9) (fz := 0) (ys := (List.map EV.encS [x1.Name])) (by kernel_rfl) (by kernel_rfl)) (map_ones EV.encS (fun _ => rfl) _) (map_lens EV.encS (fun _ => rfl) _) (by kernel_rfl) (by first | exact (List.map_append ..).symm | rfl | simp only [List.map_nil, List.nil_append]) (List.length_map ..) g2 (by omega)) (by kernel_rfl) ?_
    refine o_runh 1 [] [(3001500, .row 9 1 0 (List.map EV.encS (q1.2 ++ [x1.Name]))), (26, .row 9 1 0 (List.map EV.encS [x1.Name])), (9, .box 52 [.str x1.Name, .int .i64 x1.Body.Op, .int .i64 x1.Body.N, .str x1.Body.S, .str x1.Body.Key, .vs 5 (encs_Expr x1.Body.Args)]), (7, .box 40 [.sl 1 3001500 (((q1.2 ++ [x1.Name])).length) 0 (((q1.2 ++ [x1.Name])).length)]), (5, .box 34 [.int .i64 e.Op, .int .i64 e.N, .str e.S, .str e.Key, .vs 5 (encs_Expr e.Args)]), (3, .box 31 [.vs 6 (List.map enc_Def p_Defs), .vs 3 (List.map enc_Table p_Tables), .vs 3 (List.map enc_Zone p_Zones), .vs 20 (List.map enc_Rule p_Rules), .vs 4 (List.map enc_Cap p_Caps), .vs 6 (List.map enc_View p_Views), .vs 3 (List.map enc_Point3 p_Sun), .int .i64 p_Hours])] (by kernel_rfl) ?_
    refine ov_nil (nrm_blkV (nrm_thenV (vr_text (o_runs 2 [(19, .int .i64 (w64 (q1.1 + 1))), (28, .int .i64 (w64 (q1.1 + 1)))] (by kernel_rfl) ?_))))
    refine ov_nil (nrm_fuel ((w64 (q1.1 + 1)), (q1.2 ++ [x1.Name])) hs ?_)
    exact cut_of [3, 5, 7, 17, 18, 19] [7, 3001500, 5, 3] (by kernel_rfl) (by kernel_rfl) (by kernel_rfl)
   ·replace hs := bif_f h2 hs
    refine v_exit (exit_thenV (exit_fuel ?_))
    refine exit_blkV ?_
    obtain rfl := si hs
    refine nrm_join q1.2 rfl ?_
    exact cut_of [3, 5, 7] [7, 3001500, 5, 3] (by kernel_rfl) (by kernel_rfl) (by kernel_rfl)
  ·subst hz; clear hs; have hs := hk1; clear hk1
   refine nrm_thenV (v_seq (vr_text (o_runh 1 [(10, .ptr 10 0 0)] [(10, .box 42 [.nilf]), (7, .box 40 [.sl 1 3001500 ((v1).length) 0 ((v1).length)]), (3001500, .row 9 1 0 (List.map EV.encS v1)), (5, .box 34 [.int .i64 e.Op, .int .i64 e.N, .str e.S, .str e.Key, .vs 5 (encs_Expr e.Args)]), (3, .box 31 [.vs 6 (List.map enc_Def p_Defs), .vs 3 (List.map enc_Table p_Tables), .vs 3 (List.map enc_Zone p_Zones), .vs 20 (List.map enc_Rule p_Rules), .vs 4 (List.map enc_Cap p_Caps), .vs 6 (List.map enc_View p_Views), .vs 3 (List.map enc_Point3 p_Sun), .int .i64 p_Hours])] (by kernel_rfl) ?_)))
   refine ov_nil (nrm_thenV (v_seq (vr_text (o_runh 2 [(29, .fn 26 [] [.ptr 7 0 0, .ptr 3 0 0, .ptr 10 0 0])] [(10, .box 42 [.fn 26 [] [.ptr 7 0 0, .ptr 3 0 0, .ptr 10 0 0]]), (7, .box 40 [.sl 1 3001500 ((v1).length) 0 ((v1).length)]), (3001500, .row 9 1 0 (List.map EV.encS v1)), (5, .box 34 [.int .i64 e.Op, .int .i64 e.N, .str e.S, .str e.Key, .vs 5 (encs_Expr e.Args)]), (3, .box 31 [.vs 6 (List.map enc_Def p_Defs), .vs 3 (List.map enc_Table p_Tables), .vs 3 (List.map enc_Zone p_Zones), .vs 20 (List.map enc_Rule p_Rules), .vs 4 (List.map enc_Cap p_Caps), .vs 6 (List.map enc_View p_Views), .vs 3 (List.map enc_Point3 p_Sun), .int .i64 p_Hours])] (by kernel_rfl) ?_))))
   refine ov_nil (nrm_thenV (v_seq (v_seq (vr_text (o_runs 2 [(31, .agg (enc_Expr e)), (30, .fn 26 [] [.ptr 7 0 0, .ptr 3 0 0, .ptr 10 0 0])] (by kernel_rfl) ?_)))))
   obtain ⟨y3, c3, hs⟩ := bind_some hs
   refine o_loc (F := [(7, .box 40 [.sl 1 3001500 ((v1).length) 0 ((v1).length)]), (3001500, .row 9 1 0 (List.map EV.encS v1)), (3, .box 31 [.vs 6 (List.map enc_Def p_Defs), .vs 3 (List.map enc_Table p_Tables), .vs 3 (List.map enc_Zone p_Zones), .vs 20 (List.map enc_Rule p_Rules), .vs 4 (List.map enc_Cap p_Caps), .vs 6 (List.map enc_View p_Views), .vs 3 (List.map enc_Point3 p_Sun), .int .i64 p_Hours]), (10, .box 42 [.fn 26 [] [.ptr 7 0 0, .ptr 3 0 0, .ptr 10 0 0]])]) (F' := [(3001500, .row 9 1 0 (List.map EV.encS y3.2.1)), (7, .box 40 [.sl 1 3001500 ((y3.2.1).length) 0 ((y3.2.1).length)]), (3, .box 31 [.vs 6 (List.map enc_Def y3.2.2.1), .vs 3 (List.map enc_Table y3.2.2.2.1), .vs 3 (List.map enc_Zone y3.2.2.2.2.1), .vs 20 (List.map enc_Rule y3.2.2.2.2.2.1), .vs 4 (List.map enc_Cap y3.2.2.2.2.2.2.1), .vs 6 (List.map enc_View y3.2.2.2.2.2.2.2.1), .vs 3 (List.map enc_Point3 y3.2.2.2.2.2.2.2.2.1), .int .i64 y3.2.2.2.2.2.2.2.2.2]), (10, .box 42 [.fn 26 [] [.ptr 7 0 0, .ptr 3 0 0, .ptr 10 0 0]])]) (v := .bool y3.1) [7, 3001500, 3, 10] (by kernel_rfl) (by kernel_rfl) rfl (by kernel_rfl) (loc_g (R := []) [.agg (enc_Expr e), .ptr 7 0 0, .ptr 3 0 0, .ptr 10 0 0] [(1000000, 7), (1000001, 3001500), (1000002, 3), (1000003, 10)] (callV_val (first := []) (caps := [.ptr 7 0 0, .ptr 3 0 0, .ptr 10 0 0]) hbv26 (by kernel_rfl) (by kernel_rfl)) (w_expr_Check_1 KK e v1 p_Defs p_Tables p_Zones p_Rules p_Caps p_Views p_Sun p_Hours _ c3) (.cons (.same _) (.cons (.same _) (.cons (.same _) (.cons (.same _) (.nil))))) (by kernel_rfl) (by kernel_rfl) (by kernel_rfl) (by kernel_rfl) (by kernel_rfl) (by kernel_rfl) (by kernel_rfl) (by kernel_rfl)) (by kernel_rfl) ?_
   refine ov_nil (nrm_thenV ?_)
   refine v_cond y3.1 (by kernel_rfl) (fun h3 => ?_) (fun h3 => ?_)
   ·replace hs := bif_t h3 hs
    refine v_seq (vr_text (o_runs 1 [(6, .int .i64 15)] (by kernel_rfl) ?_))
    refine ov_nil (nrm_thenV (v_ret (ret_thenV ?_)))
    obtain rfl := si hs
    exact fin_ret (by kernel_rfl) (by kernel_rfl) (by kernel_rfl)
   ·replace hs := bif_f h3 hs
    refine v_skip (nrm_thenV (v_seq (vr_text (o_runs 1 [(6, .int .i64 0)] (by kernel_rfl) ?_))))
    refine ov_nil (nrm_thenV (v_ret ?_))
    obtain rfl := si hs
    exact fin_ret (by kernel_rfl) (by kernel_rfl) (by kernel_rfl)
theorem w_greenbeltlaw17_small  (r : Bool) (hs : s_greenbeltlaw17_small  = some r) : FnA Try.prog 6 [] [] (.bool r) [] := by
 refine fnA_of_wp (N := 92) Try.func6 rfl rfl rfl fun cK0 => ?_
 unfold s_greenbeltlaw17_small at hs
 refine v_same (ρ' := []) rfl rfl ?_
 refine v_seq (vr_text (o_runs 1 [(0, .bool false)] (by kernel_rfl) ?_))
 refine ov_nil (nrm_thenV (v_seq (vr_text (o_runs 1 [(6, .agg [.int .i64 3, .int .i64 0, .str ([99, 111, 114, 101] : List UInt8), .str [], .nils])] (by kernel_rfl) ?_))))
 obtain ⟨y1, c1, hs⟩ := bind_some hs
 refine o_pure (v := .agg (enc_Expr y1)) (by kernel_rfl) (by kernel_rfl) (loc_gcall0 (callV_func hbv7 (by kernel_rfl)) (w_greenbeltlaw17_num 30 _ c1) (by kernel_rfl)) ?_
 obtain ⟨y2, c2, hs⟩ := bind_some hs
 refine o_pure (v := .agg (enc_Expr y2)) (by kernel_rfl) (by kernel_rfl) (loc_gcall0 (callV_func hbv7 (by kernel_rfl)) (w_greenbeltlaw17_num 12 _ c2) (by kernel_rfl)) ?_
 refine o_loc (F := []) (F' := [(9, .row 34 5 0 (encs_Expr [(Expr.mk 3 0 ([99, 111, 114, 101] : List UInt8) [] []), y1, y2]))]) (v := .sl 5 9 3 0 3) [] (by kernel_rfl) (by kernel_rfl) rfl (by kernel_rfl) (loc_buildSliceW (e := 34) (sz := 5) (els := [[.int .i64 3, .int .i64 0, .str ([99, 111, 114, 101] : List UInt8), .str [], .nils], [.int .i64 y1.Op, .int .i64 y1.N, .str y1.S, .str y1.Key, .vs 5 (encs_Expr y1.Args)], [.int .i64 y2.Op, .int .i64 y2.N, .str y2.S, .str y2.Key, .vs 5 (encs_Expr y2.Args)]]) (els2 := [[.int .i64 3, .int .i64 0, .str ([99, 111, 114, 101] : List UInt8), .str [], .vs 5 []], [.int .i64 y1.Op, .int .i64 y1.N, .str y1.S, .str y1.Key, .vs 5 (encs_Expr y1.Args)], [.int .i64 y2.Op, .int .i64 y2.N, .str y2.S, .str y2.Key, .vs 5 (encs_Expr y2.Args)]]) (fl := [.int .i64 3, .int .i64 0, .str ([99, 111, 114, 101] : List UInt8), .str [], .nils, .int .i64 y1.Op, .int .i64 y1.N, .str y1.S, .str y1.Key, .vs 5 (encs_Expr y1.Args), .int .i64 y2.Op, .int .i64 y2.N, .str y2.S, .str y2.Key, .vs 5 (encs_Expr y2.Args)]) (fl2 := [.int .i64 3, .int .i64 0, .str ([99, 111, 114, 101] : List UInt8), .str [], .vs 5 [], .int .i64 y1.Op, .int .i64 y1.N, .str y1.S, .str y1.Key, .vs 5 (encs_Expr y1.Args), .int .i64 y2.Op, .int .i64 y2.N, .str y2.S, .str y2.Key, .vs 5 (encs_Expr y2.Args)]) (by kernel_rfl) (by kernel_rfl) (by kernel_rfl) (by kernel_rfl) (by kernel_rfl) (wk_same (wk_same (wk_same (wk_same (wk_nils (wk_same (wk_same (wk_same (wk_same (wk_same (wk_same (wk_same (wk_same (wk_same (wk_same wk_nil))))))))))))))) (by kernel_rfl) (by kernel_rfl) (Eq.trans (by kernel_rfl) (encs_Expr_eq _).symm)) (by kernel_rfl) ?_
 obtain ⟨y3, c3, hs⟩ := bind_some hs
 refine o_to _ [(9, .row 34 5 (((encs_Expr [(Expr.mk 3 0 ([99, 111, 114, 101] : List UInt8) [] []), y1, y2])).length) (encs_Expr [(Expr.mk 3 0 ([99, 111, 114, 101] : List UInt8) [] []), y1, y2]))] (cut_freeze (F := [(9, .row 34 5 0 (encs_Expr [(Expr.mk 3 0 ([99, 111, 114, 101] : List UInt8) [] []), y1, y2]))]) [9] rfl (by kernel_rfl) (by kernel_rfl)) ?_
 refine o_loc (F := [(9, .row 34 5 (((encs_Expr [(Expr.mk 3 0 ([99, 111, 114, 101] : List UInt8) [] []), y1, y2])).length) (encs_Expr [(Expr.mk 3 0 ([99, 111, 114, 101] : List UInt8) [] []), y1, y2]))]) (F' := [(9, .row 34 5 (((encs_Expr [(Expr.mk 3 0 ([99, 111, 114, 101] : List UInt8) [] []), y1, y2])).length) (encs_Expr [(Expr.mk 3 0 ([99, 111, 114, 101] : List UInt8) [] []), y1, y2]))]) (v := .agg (enc_Expr y3)) [9] (by kernel_rfl) (by kernel_rfl) rfl (by kernel_rfl) (loc_g (R := [(9, .row 34 5 (((encs_Expr [(Expr.mk 3 0 ([99, 111, 114, 101] : List UInt8) [] []), y1, y2])).length) (encs_Expr [(Expr.mk 3 0 ([99, 111, 114, 101] : List UInt8) [] []), y1, y2]))]) [.int .i64 16, .sl 5 9 3 0 3] [] (callV_func hbv9 (by kernel_rfl)) (w_greenbeltlaw17_op 16 [(Expr.mk 3 0 ([99, 111, 114, 101] : List UInt8) [] []), y1, y2] _ c3) (.cons (.same _) (.cons (.row (t := 34) (fz := (((encs_Expr [(Expr.mk 3 0 ([99, 111, 114, 101] : List UInt8) [] []), y1, y2])).length)) (by kernel_rfl) (by first | (simp only [List.length_map, List.length_set, cpyT_length]; done) | rfl)) (.nil))) (by kernel_rfl) (by kernel_rfl) (by kernel_rfl) (by kernel_rfl) (by kernel_rfl) (by kernel_rfl) (by kernel_rfl) (by kernel_rfl)) (by kernel_rfl) ?_
 refine o_runh 3 [(13, .agg [.str ([99, 111, 114, 101] : List UInt8), .bool false, .nils]), (12, .sl 6 12 1 0 1), (11, .agg [.str ([116, 97, 108, 108] : List UInt8), .int .i64 y3.Op, .int .i64 y3.N, .str y3.S, .str y3.Key, .vs 5 (encs_Expr y3.Args)])] [(12, .row 52 6 0 (List.map enc_Def [(Def.mk ([116, 97, 108, 108] : List UInt8) y3)])), (9, .row 34 5 (((encs_Expr [(Expr.mk 3 0 ([99, 111, 114, 101] : List UInt8) [] []), y1, y2])).length) (encs_Expr [(Expr.mk 3 0 ([99, 111, 114, 101] : List UInt8) [] []), y1, y2]))] (by kernel_rfl) ?_
 refine o_loc (F := []) (F' := [(14, .row 60 3 0 (List.map enc_Zone [(Zone.mk ([99, 111, 114, 101] : List UInt8) false [])]))]) (v := .sl 3 14 1 0 1) [] (by kernel_rfl) (by kernel_rfl) rfl (by kernel_rfl) (loc_buildSliceW (e := 60) (sz := 3) (els := [[.str ([99, 111, 114, 101] : List UInt8), .bool false, .nils]]) (els2 := [[.str ([99, 111, 114, 101] : List UInt8), .bool false, .vs 2 []]]) (fl := [.str ([99, 111, 114, 101] : List UInt8), .bool false, .nils]) (fl2 := [.str ([99, 111, 114, 101] : List UInt8), .bool false, .vs 2 []]) (by kernel_rfl) (by kernel_rfl) (by kernel_rfl) (by kernel_rfl) (by kernel_rfl) (wk_same (wk_same (wk_nils wk_nil))) (by kernel_rfl) (by kernel_rfl) (by kernel_rfl)) (by kernel_rfl) ?_
 refine o_runh 3 [(1, .ptr 1 0 0), (15, .agg [.sl 6 12 1 0 1, .nils, .sl 3 14 1 0 1, .nils, .nils, .nils, .nils, .int .i64 0])] [(1, .box 31 [.sl 6 12 1 0 1, .nils, .sl 3 14 1 0 1, .nils, .nils, .nils, .nils, .int .i64 0]), (14, .row 60 3 0 (List.map enc_Zone [(Zone.mk ([99, 111, 114, 101] : List UInt8) false [])])), (12, .row 52 6 0 (List.map enc_Def [(Def.mk ([116, 97, 108, 108] : List UInt8) y3)])), (9, .row 34 5 (((encs_Expr [(Expr.mk 3 0 ([99, 111, 114, 101] : List UInt8) [] []), y1, y2])).length) (encs_Expr [(Expr.mk 3 0 ([99, 111, 114, 101] : List UInt8) [] []), y1, y2]))] (by kernel_rfl) ?_
 refine ov_nil (nrm_thenV (v_seq (vr_text (o_runh 4 [(2, .sl 2 18 2 0 2), (18, .sl 2 18 2 0 2), (17, .agg [.str ([97, 114, 101, 97] : List UInt8), .int .i64 200]), (16, .agg [.str ([104, 101, 105, 103, 104, 116] : List UInt8), .int .i64 14])] [(18, .row 44 2 0 (List.map enc_Entry [(Entry.mk ([104, 101, 105, 103, 104, 116] : List UInt8) 14), (Entry.mk ([97, 114, 101, 97] : List UInt8) 200)])), (1, .box 31 [.sl 6 12 1 0 1, .nils, .sl 3 14 1 0 1, .nils, .nils, .nils, .nils, .int .i64 0]), (14, .row 60 3 0 (List.map enc_Zone [(Zone.mk ([99, 111, 114, 101] : List UInt8) false [])])), (12, .row 52 6 0 (List.map enc_Def [(Def.mk ([116, 97, 108, 108] : List UInt8) y3)])), (9, .row 34 5 (((encs_Expr [(Expr.mk 3 0 ([99, 111, 114, 101] : List UInt8) [] []), y1, y2])).length) (encs_Expr [(Expr.mk 3 0 ([99, 111, 114, 101] : List UInt8) [] []), y1, y2]))] (by kernel_rfl) ?_))))
 refine ov_nil (nrm_thenV (v_seq (vr_text ?_)))
 obtain ⟨y4, c4, hs⟩ := bind_some hs
 refine o_pure (v := .agg (enc_Expr y4)) (by kernel_rfl) (by kernel_rfl) (loc_gcall0 (callV_func hbv7 (by kernel_rfl)) (w_greenbeltlaw17_num 0 _ c4) (by kernel_rfl)) ?_
 obtain ⟨y5, c5, hs⟩ := bind_some hs
 refine o_pure (v := .agg (enc_Expr y5)) (by kernel_rfl) (by kernel_rfl) (loc_gcall0 (callV_func hbv7 (by kernel_rfl)) (w_greenbeltlaw17_num 7 _ c5) (by kernel_rfl)) ?_
 refine o_loc (F := []) (F' := [(21, .row 34 5 0 (encs_Expr [y4, y5]))]) (v := .sl 5 21 2 0 2) [] (by kernel_rfl) (by kernel_rfl) rfl (by kernel_rfl) (loc_buildSliceW (e := 34) (sz := 5) (els := [[.int .i64 y4.Op, .int .i64 y4.N, .str y4.S, .str y4.Key, .vs 5 (encs_Expr y4.Args)], [.int .i64 y5.Op, .int .i64 y5.N, .str y5.S, .str y5.Key, .vs 5 (encs_Expr y5.Args)]]) (els2 := [[.int .i64 y4.Op, .int .i64 y4.N, .str y4.S, .str y4.Key, .vs 5 (encs_Expr y4.Args)], [.int .i64 y5.Op, .int .i64 y5.N, .str y5.S, .str y5.Key, .vs 5 (encs_Expr y5.Args)]]) (fl := [.int .i64 y4.Op, .int .i64 y4.N, .str y4.S, .str y4.Key, .vs 5 (encs_Expr y4.Args), .int .i64 y5.Op, .int .i64 y5.N, .str y5.S, .str y5.Key, .vs 5 (encs_Expr y5.Args)]) (fl2 := [.int .i64 y4.Op, .int .i64 y4.N, .str y4.S, .str y4.Key, .vs 5 (encs_Expr y4.Args), .int .i64 y5.Op, .int .i64 y5.N, .str y5.S, .str y5.Key, .vs 5 (encs_Expr y5.Args)]) (by kernel_rfl) (by kernel_rfl) (by kernel_rfl) (by kernel_rfl) (by kernel_rfl) (wk_same (wk_same (wk_same (wk_same (wk_same (wk_same (wk_same (wk_same (wk_same (wk_same wk_nil)))))))))) (by kernel_rfl) (by kernel_rfl) (Eq.trans (by kernel_rfl) (encs_Expr_eq _).symm)) (by kernel_rfl) ?_
 obtain ⟨y6, c6, hs⟩ := bind_some hs
 refine o_to _ [(21, .row 34 5 (((encs_Expr [y4, y5])).length) (encs_Expr [y4, y5])), (18, .row 44 2 0 (List.map enc_Entry [(Entry.mk ([104, 101, 105, 103, 104, 116] : List UInt8) 14), (Entry.mk ([97, 114, 101, 97] : List UInt8) 200)])), (1, .box 31 [.sl 6 12 1 0 1, .nils, .sl 3 14 1 0 1, .nils, .nils, .nils, .nils, .int .i64 0]), (14, .row 60 3 0 (List.map enc_Zone [(Zone.mk ([99, 111, 114, 101] : List UInt8) false [])])), (12, .row 52 6 0 (List.map enc_Def [(Def.mk ([116, 97, 108, 108] : List UInt8) y3)])), (9, .row 34 5 (((encs_Expr [(Expr.mk 3 0 ([99, 111, 114, 101] : List UInt8) [] []), y1, y2])).length) (encs_Expr [(Expr.mk 3 0 ([99, 111, 114, 101] : List UInt8) [] []), y1, y2]))] (cut_freeze (F := [(21, .row 34 5 0 (encs_Expr [y4, y5]))]) [21] rfl (by kernel_rfl) (by kernel_rfl)) ?_
 refine o_loc (F := [(21, .row 34 5 (((encs_Expr [y4, y5])).length) (encs_Expr [y4, y5]))]) (F' := [(21, .row 34 5 (((encs_Expr [y4, y5])).length) (encs_Expr [y4, y5]))]) (v := .agg (enc_Expr y6)) [21] (by kernel_rfl) (by kernel_rfl) rfl (by kernel_rfl) (loc_g (R := [(21, .row 34 5 (((encs_Expr [y4, y5])).length) (encs_Expr [y4, y5]))]) [.int .i64 5, .sl 5 21 2 0 2] [] (callV_func hbv9 (by kernel_rfl)) (w_greenbeltlaw17_op 5 [y4, y5] _ c6) (.cons (.same _) (.cons (.row (t := 34) (fz := (((encs_Expr [y4, y5])).length)) (by kernel_rfl) (by first | (simp only [List.length_map, List.length_set, cpyT_length]; done) | rfl)) (.nil))) (by kernel_rfl) (by kernel_rfl) (by kernel_rfl) (by kernel_rfl) (by kernel_rfl) (by kernel_rfl) (by kernel_rfl) (by kernel_rfl)) (by kernel_rfl) ?_
 refine o_runh 2 [(3, .ptr 3 0 0)] [(3, .box 34 [.int .i64 y6.Op, .int .i64 y6.N, .str y6.S, .str y6.Key, .vs 5 (encs_Expr y6.Args)]), (21, .row 34 5 (((encs_Expr [y4, y5])).length) (encs_Expr [y4, y5])), (18, .row 44 2 0 (List.map enc_Entry [(Entry.mk ([104, 101, 105, 103, 104, 116] : List UInt8) 14), (Entry.mk ([97, 114, 101, 97] : List UInt8) 200)])), (1, .box 31 [.sl 6 12 1 0 1, .nils, .sl 3 14 1 0 1, .nils, .nils, .nils, .nils, .int .i64 0]), (14, .row 60 3 0 (List.map enc_Zone [(Zone.mk ([99, 111, 114, 101] : List UInt8) false [])])), (12, .row 52 6 0 (List.map enc_Def [(Def.mk ([116, 97, 108, 108] : List UInt8) y3)])), (9, .row 34 5 (((encs_Expr [(Expr.mk 3 0 ([99, 111, 114, 101] : List UInt8) [] []), y1, y2])).length) (encs_Expr [(Expr.mk 3 0 ([99, 111, 114, 101] : List UInt8) [] []), y1, y2]))] (by kernel_rfl) ?_
 refine ov_nil (nrm_thenV (v_seq ?_))
 obtain ⟨z1, hs, hk1⟩ := bind_some hs
 refine v_join (S := Bool) (fun u => u = z1) (fun u => [(1, .ptr 1 0 0), (2, .sl 2 18 (([(Entry.mk ([104, 101, 105, 103, 104, 116] : List UInt8) 14), (Entry.mk ([97, 114, 101, 97] : List UInt8) 200)]).length) 0 (([(Entry.mk ([104, 101, 105, 103, 104, 116] : List UInt8) 14), (Entry.mk ([97, 114, 101, 97] : List UInt8) 200)]).length)), (3, .ptr 3 0 0), (4, .bool u)]) (fun u => [(3, .box 34 [.int .i64 y6.Op, .int .i64 y6.N, .str y6.S, .str y6.Key, .vs 5 (encs_Expr y6.Args)]), (18, .row 44 2 0 (List.map enc_Entry [(Entry.mk ([104, 101, 105, 103, 104, 116] : List UInt8) 14), (Entry.mk ([97, 114, 101, 97] : List UInt8) 200)])), (1, .box 31 [.sl 6 12 (([(Def.mk ([116, 97, 108, 108] : List UInt8) y3)]).length) 0 (([(Def.mk ([116, 97, 108, 108] : List UInt8) y3)]).length), .nils, .sl 3 14 (([(Zone.mk ([99, 111, 114, 101] : List UInt8) false [])]).length) 0 (([(Zone.mk ([99, 111, 114, 101] : List UInt8) false [])]).length), .nils, .nils, .nils, .nils, .int .i64 0]), (14, .row 60 3 0 (List.map enc_Zone [(Zone.mk ([99, 111, 114, 101] : List UInt8) false [])])), (12, .row 52 6 0 (List.map enc_Def [(Def.mk ([116, 97, 108, 108] : List UInt8) y3)]))]) ?_ (fun v1 hz => ?_)
 ·refine v_draw mixedH (by kernel_rfl) ?_
  refine d_runh 3 0 [(25, .sl 1 25 1 0 1), (24, .sl 2 18 2 0 2), (23, .agg [.sl 6 12 1 0 1, .nils, .sl 3 14 1 0 1, .nils, .nils, .nils, .nils, .int .i64 0])] [(25, .row 9 1 0 (List.map EV.encS [([99, 111, 114, 101] : List UInt8)])), (3, .box 34 [.int .i64 y6.Op, .int .i64 y6.N, .str y6.S, .str y6.Key, .vs 5 (encs_Expr y6.Args)]), (21, .row 34 5 (((encs_Expr [y4, y5])).length) (encs_Expr [y4, y5])), (18, .row 44 2 0 (List.map enc_Entry [(Entry.mk ([104, 101, 105, 103, 104, 116] : List UInt8) 14), (Entry.mk ([97, 114, 101, 97] : List UInt8) 200)])), (1, .box 31 [.sl 6 12 1 0 1, .nils, .sl 3 14 1 0 1, .nils, .nils, .nils, .nils, .int .i64 0]), (14, .row 60 3 0 (List.map enc_Zone [(Zone.mk ([99, 111, 114, 101] : List UInt8) false [])])), (12, .row 52 6 0 (List.map enc_Def [(Def.mk ([116, 97, 108, 108] : List UInt8) y3)])), (9, .row 34 5 (((encs_Expr [(Expr.mk 3 0 ([99, 111, 114, 101] : List UInt8) [] []), y1, y2])).length) (encs_Expr [(Expr.mk 3 0 ([99, 111, 114, 101] : List UInt8) [] []), y1, y2]))] [⟨2, [25], []⟩, ⟨1, [], []⟩, ⟨0, [], [1]⟩] (by kernel_rfl) (by kernel_rfl) ?_
  obtain ⟨y7, c7, hs⟩ := bind_some hs
  refine d_pure (v := .agg (enc_Expr y7)) 3 rfl rfl rfl rfl (by kernel_rfl) (by kernel_rfl) (loc_gcall0 (callV_func hbv14 (by kernel_rfl)) (w_greenbeltlaw17_name ([104, 101, 105, 103, 104, 116] : List UInt8) _ c7) (by kernel_rfl)) ?_
  obtain ⟨y8, c8, hs⟩ := bind_some hs
  refine d_pure (v := .agg (enc_Expr y8)) 4 rfl rfl rfl rfl (by kernel_rfl) (by kernel_rfl) (loc_gcall0 (callV_func hbv14 (by kernel_rfl)) (w_greenbeltlaw17_name ([116, 97, 108, 108] : List UInt8) _ c8) (by kernel_rfl)) ?_
  refine d_loc (F := []) (R := []) (F' := [(28, .row 34 5 0 (encs_Expr [y7, y8]))]) (v := .sl 5 28 2 0 2) 5 [] [] rfl rfl rfl rfl (by kernel_rfl) (by kernel_rfl) (by kernel_rfl) (by kernel_rfl) (by kernel_rfl) (by kernel_rfl) (by kernel_rfl) (by kernel_rfl) (loc_buildSliceW (e := 34) (sz := 5) (els := [[.int .i64 y7.Op, .int .i64 y7.N, .str y7.S, .str y7.Key, .vs 5 (encs_Expr y7.Args)], [.int .i64 y8.Op, .int .i64 y8.N, .str y8.S, .str y8.Key, .vs 5 (encs_Expr y8.Args)]]) (els2 := [[.int .i64 y7.Op, .int .i64 y7.N, .str y7.S, .str y7.Key, .vs 5 (encs_Expr y7.Args)], [.int .i64 y8.Op, .int .i64 y8.N, .str y8.S, .str y8.Key, .vs 5 (encs_Expr y8.Args)]]) (fl := [.int .i64 y7.Op, .int .i64 y7.N, .str y7.S, .str y7.Key, .vs 5 (encs_Expr y7.Args), .int .i64 y8.Op, .int .i64 y8.N, .str y8.S, .str y8.Key, .vs 5 (encs_Expr y8.Args)]) (fl2 := [.int .i64 y7.Op, .int .i64 y7.N, .str y7.S, .str y7.Key, .vs 5 (encs_Expr y7.Args), .int .i64 y8.Op, .int .i64 y8.N, .str y8.S, .str y8.Key, .vs 5 (encs_Expr y8.Args)]) (by kernel_rfl) (by kernel_rfl) (by kernel_rfl) (by kernel_rfl) (by kernel_rfl) (wk_same (wk_same (wk_same (wk_same (wk_same (wk_same (wk_same (wk_same (wk_same (wk_same wk_nil)))))))))) (by kernel_rfl) (by kernel_rfl) (Eq.trans (by kernel_rfl) (encs_Expr_eq _).symm)) ?_
  obtain ⟨y9, c9, hs⟩ := bind_some hs
  refine d_loc (F := [(28, .row 34 5 0 (encs_Expr [y7, y8]))]) (R := []) (F' := [(28, .row 34 5 (((encs_Expr [y7, y8])).length) (encs_Expr [y7, y8]))]) (v := .agg (enc_Expr y9)) 6 [28] [] rfl rfl rfl rfl (by kernel_rfl) (by kernel_rfl) (by kernel_rfl) (by kernel_rfl) (by kernel_rfl) (by kernel_rfl) (by kernel_rfl) (by kernel_rfl) (loc_frz (Fa := []) (R := [(28, .row 34 5 0 (encs_Expr [y7, y8]))]) (F2 := [(28, .row 34 5 (((encs_Expr [y7, y8])).length) (encs_Expr [y7, y8]))]) (F1 := [(28, .row 34 5 (((encs_Expr [y7, y8])).length) (encs_Expr [y7, y8]))]) (by kernel_rfl) (loc_g (R := [(28, .row 34 5 (((encs_Expr [y7, y8])).length) (encs_Expr [y7, y8]))]) [.int .i64 12, .sl 5 28 2 0 2] [] (callV_func hbv9 (by kernel_rfl)) (w_greenbeltlaw17_op 12 [y7, y8] _ c9) (.cons (.same _) (.cons (.row (t := 34) (fz := (((encs_Expr [y7, y8])).length)) (by kernel_rfl) (by first | (simp only [List.length_map, List.length_set, cpyT_length]; done) | rfl)) (.nil))) (by kernel_rfl) (by kernel_rfl) (by kernel_rfl) (by kernel_rfl) (by kernel_rfl) (by kernel_rfl) (by kernel_rfl) (by kernel_rfl))) ?_
  obtain ⟨y10, c10, hs⟩ := bind_some hs
  refine d_loc (F := []) (R := [(12, .row 52 6 0 (List.map enc_Def [(Def.mk ([116, 97, 108, 108] : List UInt8) y3)])), (14, .row 60 3 0 (List.map enc_Zone [(Zone.mk ([99, 111, 114, 101] : List UInt8) false [])])), (18, .row 44 2 0 (List.map enc_Entry [(Entry.mk ([104, 101, 105, 103, 104, 116] : List UInt8) 14), (Entry.mk ([97, 114, 101, 97] : List UInt8) 200)])), (25, .row 9 1 0 (List.map EV.encS [([99, 111, 114, 101] : List UInt8)]))]) (F' := []) (v := .int .i64 y10) 7 [] [12, 14, 18, 25] rfl rfl rfl rfl (by kernel_rfl) (by kernel_rfl) (by kernel_rfl) (by kernel_rfl) (by kernel_rfl) (by kernel_rfl) (by kernel_rfl) (by kernel_rfl) (loc_gcallB (vs := [.agg [.sl 6 12 1 0 1, .nils, .sl 3 14 1 0 1, .nils, .nils, .nils, .nils, .int .i64 0], .sl 2 18 2 0 2, .sl 1 25 1 0 1, .agg (enc_Expr y9)]) (R := [(12, .row 52 6 0 (List.map enc_Def [(Def.mk ([116, 97, 108, 108] : List UInt8) y3)])), (14, .row 60 3 0 (List.map enc_Zone [(Zone.mk ([99, 111, 114, 101] : List UInt8) false [])])), (18, .row 44 2 0 (List.map enc_Entry [(Entry.mk ([104, 101, 105, 103, 104, 116] : List UInt8) 14), (Entry.mk ([97, 114, 101, 97] : List UInt8) 200)])), (25, .row 9 1 0 (List.map EV.encS [([99, 111, 114, 101] : List UInt8)]))]) (callV_func hbv8 (by kernel_rfl)) (w_expr_Eval [(Def.mk ([116, 97, 108, 108] : List UInt8) y3)] [] [(Zone.mk ([99, 111, 114, 101] : List UInt8) false [])] [] [] [] [] 0 [(Entry.mk ([104, 101, 105, 103, 104, 116] : List UInt8) 14), (Entry.mk ([97, 114, 101, 97] : List UInt8) 200)] [([99, 111, 114, 101] : List UInt8)] y9 _ c10) (.cons (.agg (.cons (.row (t := 52) (fz := 0) (by kernel_rfl) (by first | (simp only [List.length_map, List.length_set, cpyT_length]; done) | rfl)) (.cons (.nils _) (.cons (.row (t := 60) (fz := 0) (by kernel_rfl) (by first | (simp only [List.length_map, List.length_set, cpyT_length]; done) | rfl)) (.cons (.nils _) (.cons (.nils _) (.cons (.nils _) (.cons (.nils _) (.cons (.same _) (.nil)))))))))) (.cons (.row (t := 44) (fz := 0) (by kernel_rfl) (by first | (simp only [List.length_map, List.length_set, cpyT_length]; done) | rfl)) (.cons (.row (t := 9) (fz := 0) (by kernel_rfl) (by first | (simp only [List.length_map, List.length_set, cpyT_length]; done) | rfl)) (.cons (.same _) (.nil))))) (by kernel_rfl) (by kernel_rfl) (by kernel_rfl)) ?_
  refine d_runs 2 8 [(32, .bool (decide (y10 = 1))), (31, .bool (decide (y10 = 1)))] (pfp 2 9) (by kernel_rfl) (by kernel_rfl) ?_
  cases h1 : ((decide (y10 = 1)))
  ·replace hs := bif_f h1 hs
   refine d_runs 10 10 [(4, .bool false), (41, .bool false), (40, .no), (39, .no), (38, .no), (37, .no), (36, .no), (35, .no), (34, .no), (33, .no)] (pfp 10 19) (by kernel_rfl) (by kernel_rfl) ?_
   refine d_nil (by kernel_rfl) ?_
   obtain rfl := si hs
   refine nrm_join false rfl ?_
   exact Cut.trans (cut_eq 2 (v := .sl 2 18 2 0 2) (v' := .sl 2 18 (([(Entry.mk ([104, 101, 105, 103, 104, 116] : List UInt8) 14), (Entry.mk ([97, 114, 101, 97] : List UInt8) 200)]).length) 0 (([(Entry.mk ([104, 101, 105, 103, 104, 116] : List UInt8) 14), (Entry.mk ([97, 114, 101, 97] : List UInt8) 200)]).length)) (by kernel_rfl) (by first | rfl | simp only [List.length_set, cpyT_length])) (Cut.trans (cut_same (H1 := [(28, .row 34 5 (((encs_Expr [y7, y8])).length) (encs_Expr [y7, y8])), (25, .row 9 1 0 (List.map EV.encS [([99, 111, 114, 101] : List UInt8)])), (3, .box 34 [.int .i64 y6.Op, .int .i64 y6.N, .str y6.S, .str y6.Key, .vs 5 (encs_Expr y6.Args)]), (21, .row 34 5 (((encs_Expr [y4, y5])).length) (encs_Expr [y4, y5])), (18, .row 44 2 0 (List.map enc_Entry [(Entry.mk ([104, 101, 105, 103, 104, 116] : List UInt8) 14), (Entry.mk ([97, 114, 101, 97] : List UInt8) 200)])), (1, .box 31 [.sl 6 12 1 0 1, .nils, .sl 3 14 1 0 1, .nils, .nils, .nils, .nils, .int .i64 0]), (14, .row 60 3 0 (List.map enc_Zone [(Zone.mk ([99, 111, 114, 101] : List UInt8) false [])])), (12, .row 52 6 0 (List.map enc_Def [(Def.mk ([116, 97, 108, 108] : List UInt8) y3)])), (9, .row 34 5 (((encs_Expr [(Expr.mk 3 0 ([99, 111, 114, 101] : List UInt8) [] []), y1, y2])).length) (encs_Expr [(Expr.mk 3 0 ([99, 111, 114, 101] : List UInt8) [] []), y1, y2]))]) rfl (by kernel_rfl)) (Cut.trans (cut_same (H1 := [(28, .row 34 5 (((encs_Expr [y7, y8])).length) (encs_Expr [y7, y8])), (25, .row 9 1 0 (List.map EV.encS [([99, 111, 114, 101] : List UInt8)])), (3, .box 34 [.int .i64 y6.Op, .int .i64 y6.N, .str y6.S, .str y6.Key, .vs 5 (encs_Expr y6.Args)]), (21, .row 34 5 (((encs_Expr [y4, y5])).length) (encs_Expr [y4, y5])), (18, .row 44 2 0 (List.map enc_Entry [(Entry.mk ([104, 101, 105, 103, 104, 116] : List UInt8) 14), (Entry.mk ([97, 114, 101, 97] : List UInt8) 200)])), (1, .box 31 [.sl 6 12 (([(Def.mk ([116, 97, 108, 108] : List UInt8) y3)]).length) 0 (([(Def.mk ([116, 97, 108, 108] : List UInt8) y3)]).length), .nils, .sl 3 14 (([(Zone.mk ([99, 111, 114, 101] : List UInt8) false [])]).length) 0 (([(Zone.mk ([99, 111, 114, 101] : List UInt8) false [])]).length), .nils, .nils, .nils, .nils, .int .i64 0]), (14, .row 60 3 0 (List.map enc_Zone [(Zone.mk ([99, 111, 114, 101] : List UInt8) false [])])), (12, .row 52 6 0 (List.map enc_Def [(Def.mk ([116, 97, 108, 108] : List UInt8) y3)])), (9, .row 34 5 (((encs_Expr [(Expr.mk 3 0 ([99, 111, 114, 101] : List UInt8) [] []), y1, y2])).length) (encs_Expr [(Expr.mk 3 0 ([99, 111, 114, 101] : List UInt8) [] []), y1, y2]))]) rfl (by first | (simp only [List.length_set, cpyT_length]; done) | rfl)) (cut_of [1, 2, 3, 4] [3, 18, 1, 14, 12] (by kernel_rfl) (by kernel_rfl) (by kernel_rfl))))
  ·replace hs := bif_t h1 hs
   refine d_runs 2 10 [(34, .sl 2 18 2 0 2), (33, .agg [.sl 6 12 1 0 1, .nils, .sl 3 14 1 0 1, .nils, .nils, .nils, .nils, .int .i64 0])] [⟨11, [], []⟩, ⟨10, [], [1]⟩] (by kernel_rfl) (by kernel_rfl) ?_
   obtain ⟨y11, c11, hs⟩ := bind_some hs
   refine d_pure (v := .agg (enc_Expr y11)) 12 rfl rfl rfl rfl (by kernel_rfl) (by kernel_rfl) (loc_gcall0 (callV_func hbv14 (by kernel_rfl)) (w_greenbeltlaw17_name ([104, 101, 105, 103, 104, 116] : List UInt8) _ c11) (by kernel_rfl)) ?_
   obtain ⟨y12, c12, hs⟩ := bind_some hs
   refine d_pure (v := .agg (enc_Expr y12)) 13 rfl rfl rfl rfl (by kernel_rfl) (by kernel_rfl) (loc_gcall0 (callV_func hbv14 (by kernel_rfl)) (w_greenbeltlaw17_name ([116, 97, 108, 108] : List UInt8) _ c12) (by kernel_rfl)) ?_
   refine d_loc (F := []) (R := []) (F' := [(37, .row 34 5 0 (encs_Expr [y11, y12]))]) (v := .sl 5 37 2 0 2) 14 [] [] rfl rfl rfl rfl (by kernel_rfl) (by kernel_rfl) (by kernel_rfl) (by kernel_rfl) (by kernel_rfl) (by kernel_rfl) (by kernel_rfl) (by kernel_rfl) (loc_buildSliceW (e := 34) (sz := 5) (els := [[.int .i64 y11.Op, .int .i64 y11.N, .str y11.S, .str y11.Key, .vs 5 (encs_Expr y11.Args)], [.int .i64 y12.Op, .int .i64 y12.N, .str y12.S, .str y12.Key, .vs 5 (encs_Expr y12.Args)]]) (els2 := [[.int .i64 y11.Op, .int .i64 y11.N, .str y11.S, .str y11.Key, .vs 5 (encs_Expr y11.Args)], [.int .i64 y12.Op, .int .i64 y12.N, .str y12.S, .str y12.Key, .vs 5 (encs_Expr y12.Args)]]) (fl := [.int .i64 y11.Op, .int .i64 y11.N, .str y11.S, .str y11.Key, .vs 5 (encs_Expr y11.Args), .int .i64 y12.Op, .int .i64 y12.N, .str y12.S, .str y12.Key, .vs 5 (encs_Expr y12.Args)]) (fl2 := [.int .i64 y11.Op, .int .i64 y11.N, .str y11.S, .str y11.Key, .vs 5 (encs_Expr y11.Args), .int .i64 y12.Op, .int .i64 y12.N, .str y12.S, .str y12.Key, .vs 5 (encs_Expr y12.Args)]) (by kernel_rfl) (by kernel_rfl) (by kernel_rfl) (by kernel_rfl) (by kernel_rfl) (wk_same (wk_same (wk_same (wk_same (wk_same (wk_same (wk_same (wk_same (wk_same (wk_same wk_nil)))))))))) (by kernel_rfl) (by kernel_rfl) (Eq.trans (by kernel_rfl) (encs_Expr_eq _).symm)) ?_
   obtain ⟨y13, c13, hs⟩ := bind_some hs
   refine d_loc (F := [(37, .row 34 5 0 (encs_Expr [y11, y12]))]) (R := []) (F' := [(37, .row 34 5 (((encs_Expr [y11, y12])).length) (encs_Expr [y11, y12]))]) (v := .agg (enc_Expr y13)) 15 [37] [] rfl rfl rfl rfl (by kernel_rfl) (by kernel_rfl) (by kernel_rfl) (by kernel_rfl) (by kernel_rfl) (by kernel_rfl) (by kernel_rfl) (by kernel_rfl) (loc_frz (Fa := []) (R := [(37, .row 34 5 0 (encs_Expr [y11, y12]))]) (F2 := [(37, .row 34 5 (((encs_Expr [y11, y12])).length) (encs_Expr [y11, y12]))]) (F1 := [(37, .row 34 5 (((encs_Expr [y11, y12])).length) (encs_Expr [y11, y12]))]) (by kernel_rfl) (loc_g (R := [(37, .row 34 5 (((encs_Expr [y11, y12])).length) (encs_Expr [y11, y12]))]) [.int .i64 12, .sl 5 37 2 0 2] [] (callV_func hbv9 (by kernel_rfl)) (w_greenbeltlaw17_op 12 [y11, y12] _ c13) (.cons (.same _) (.cons (.row (t := 34) (fz := (((encs_Expr [y11, y12])).length)) (by kernel_rfl) (by first | (simp only [List.length_map, List.length_set, cpyT_length]; done) | rfl)) (.nil))) (by kernel_rfl) (by kernel_rfl) (by kernel_rfl) (by kernel_rfl) (by kernel_rfl) (by kernel_rfl) (by kernel_rfl) (by kernel_rfl))) ?_
   obtain ⟨y14, c14, hs⟩ := bind_some hs
   refine d_loc (F := []) (R := [(12, .row 52 6 0 (List.map enc_Def [(Def.mk ([116, 97, 108, 108] : List UInt8) y3)])), (14, .row 60 3 0 (List.map enc_Zone [(Zone.mk ([99, 111, 114, 101] : List UInt8) false [])])), (18, .row 44 2 0 (List.map enc_Entry [(Entry.mk ([104, 101, 105, 103, 104, 116] : List UInt8) 14), (Entry.mk ([97, 114, 101, 97] : List UInt8) 200)]))]) (F' := []) (v := .int .i64 y14) 16 [] [12, 14, 18] rfl rfl rfl rfl (by kernel_rfl) (by kernel_rfl) (by kernel_rfl) (by kernel_rfl) (by kernel_rfl) (by kernel_rfl) (by kernel_rfl) (by kernel_rfl) (loc_gcallB (vs := [.agg [.sl 6 12 1 0 1, .nils, .sl 3 14 1 0 1, .nils, .nils, .nils, .nils, .int .i64 0], .sl 2 18 2 0 2, .nils, .agg (enc_Expr y13)]) (R := [(12, .row 52 6 0 (List.map enc_Def [(Def.mk ([116, 97, 108, 108] : List UInt8) y3)])), (14, .row 60 3 0 (List.map enc_Zone [(Zone.mk ([99, 111, 114, 101] : List UInt8) false [])])), (18, .row 44 2 0 (List.map enc_Entry [(Entry.mk ([104, 101, 105, 103, 104, 116] : List UInt8) 14), (Entry.mk ([97, 114, 101, 97] : List UInt8) 200)]))]) (callV_func hbv8 (by kernel_rfl)) (w_expr_Eval [(Def.mk ([116, 97, 108, 108] : List UInt8) y3)] [] [(Zone.mk ([99, 111, 114, 101] : List UInt8) false [])] [] [] [] [] 0 [(Entry.mk ([104, 101, 105, 103, 104, 116] : List UInt8) 14), (Entry.mk ([97, 114, 101, 97] : List UInt8) 200)] [] y13 _ c14) (.cons (.agg (.cons (.row (t := 52) (fz := 0) (by kernel_rfl) (by first | (simp only [List.length_map, List.length_set, cpyT_length]; done) | rfl)) (.cons (.nils _) (.cons (.row (t := 60) (fz := 0) (by kernel_rfl) (by first | (simp only [List.length_map, List.length_set, cpyT_length]; done) | rfl)) (.cons (.nils _) (.cons (.nils _) (.cons (.nils _) (.cons (.nils _) (.cons (.same _) (.nil)))))))))) (.cons (.row (t := 44) (fz := 0) (by kernel_rfl) (by first | (simp only [List.length_map, List.length_set, cpyT_length]; done) | rfl)) (.cons (.nils _) (.cons (.same _) (.nil))))) (by kernel_rfl) (by kernel_rfl) (by kernel_rfl)) ?_
   refine d_runs 3 17 [(4, .bool (decide (y14 = 0))), (41, .bool (decide (y14 = 0))), (40, .bool (decide (y14 = 0)))] (pfp 3 19) (by kernel_rfl) (by kernel_rfl) ?_
   refine d_nil (by kernel_rfl) ?_
   obtain rfl := si hs
   refine nrm_join (decide (y14 = 0)) rfl ?_
   exact Cut.trans (cut_eq 2 (v := .sl 2 18 2 0 2) (v' := .sl 2 18 (([(Entry.mk ([104, 101, 105, 103, 104, 116] : List UInt8) 14), (Entry.mk ([97, 114, 101, 97] : List UInt8) 200)]).length) 0 (([(Entry.mk ([104, 101, 105, 103, 104, 116] : List UInt8) 14), (Entry.mk ([97, 114, 101, 97] : List UInt8) 200)]).length)) (by kernel_rfl) (by first | rfl | simp only [List.length_set, cpyT_length])) (Cut.trans (cut_same (H1 := [(37, .row 34 5 (((encs_Expr [y11, y12])).length) (encs_Expr [y11, y12])), (28, .row 34 5 (((encs_Expr [y7, y8])).length) (encs_Expr [y7, y8])), (25, .row 9 1 0 (List.map EV.encS [([99, 111, 114, 101] : List UInt8)])), (3, .box 34 [.int .i64 y6.Op, .int .i64 y6.N, .str y6.S, .str y6.Key, .vs 5 (encs_Expr y6.Args)]), (21, .row 34 5 (((encs_Expr [y4, y5])).length) (encs_Expr [y4, y5])), (18, .row 44 2 0 (List.map enc_Entry [(Entry.mk ([104, 101, 105, 103, 104, 116] : List UInt8) 14), (Entry.mk ([97, 114, 101, 97] : List UInt8) 200)])), (1, .box 31 [.sl 6 12 1 0 1, .nils, .sl 3 14 1 0 1, .nils, .nils, .nils, .nils, .int .i64 0]), (14, .row 60 3 0 (List.map enc_Zone [(Zone.mk ([99, 111, 114, 101] : List UInt8) false [])])), (12, .row 52 6 0 (List.map enc_Def [(Def.mk ([116, 97, 108, 108] : List UInt8) y3)])), (9, .row 34 5 (((encs_Expr [(Expr.mk 3 0 ([99, 111, 114, 101] : List UInt8) [] []), y1, y2])).length) (encs_Expr [(Expr.mk 3 0 ([99, 111, 114, 101] : List UInt8) [] []), y1, y2]))]) rfl (by kernel_rfl)) (Cut.trans (cut_same (H1 := [(37, .row 34 5 (((encs_Expr [y11, y12])).length) (encs_Expr [y11, y12])), (28, .row 34 5 (((encs_Expr [y7, y8])).length) (encs_Expr [y7, y8])), (25, .row 9 1 0 (List.map EV.encS [([99, 111, 114, 101] : List UInt8)])), (3, .box 34 [.int .i64 y6.Op, .int .i64 y6.N, .str y6.S, .str y6.Key, .vs 5 (encs_Expr y6.Args)]), (21, .row 34 5 (((encs_Expr [y4, y5])).length) (encs_Expr [y4, y5])), (18, .row 44 2 0 (List.map enc_Entry [(Entry.mk ([104, 101, 105, 103, 104, 116] : List UInt8) 14), (Entry.mk ([97, 114, 101, 97] : List UInt8) 200)])), (1, .box 31 [.sl 6 12 (([(Def.mk ([116, 97, 108, 108] : List UInt8) y3)]).length) 0 (([(Def.mk ([116, 97, 108, 108] : List UInt8) y3)]).length), .nils, .sl 3 14 (([(Zone.mk ([99, 111, 114, 101] : List UInt8) false [])]).length) 0 (([(Zone.mk ([99, 111, 114, 101] : List UInt8) false [])]).length), .nils, .nils, .nils, .nils, .int .i64 0]), (14, .row 60 3 0 (List.map enc_Zone [(Zone.mk ([99, 111, 114, 101] : List UInt8) false [])])), (12, .row 52 6 0 (List.map enc_Def [(Def.mk ([116, 97, 108, 108] : List UInt8) y3)])), (9, .row 34 5 (((encs_Expr [(Expr.mk 3 0 ([99, 111, 114, 101] : List UInt8) [] []), y1, y2])).length) (encs_Expr [(Expr.mk 3 0 ([99, 111, 114, 101] : List UInt8) [] []), y1, y2]))]) rfl (by first | (simp only [List.length_set, cpyT_length]; done) | rfl)) (cut_of [1, 2, 3, 4] [3, 18, 1, 14, 12] (by kernel_rfl) (by kernel_rfl) (by kernel_rfl))))
 ·subst hz; clear hs; have hs := hk1; clear hk1
  refine nrm_thenV (v_seq ?_)
  obtain ⟨z2, hs, hk2⟩ := bind_some hs
  refine v_join (S := Bool) (fun u => u = z2) (fun u => [(1, .ptr 1 0 0), (4, .bool v1), (5, .bool u)]) (fun u => [(1, .box 31 [.sl 6 12 (([(Def.mk ([116, 97, 108, 108] : List UInt8) y3)]).length) 0 (([(Def.mk ([116, 97, 108, 108] : List UInt8) y3)]).length), .nils, .sl 3 14 (([(Zone.mk ([99, 111, 114, 101] : List UInt8) false [])]).length) 0 (([(Zone.mk ([99, 111, 114, 101] : List UInt8) false [])]).length), .nils, .nils, .nils, .nils, .int .i64 0]), (14, .row 60 3 0 (List.map enc_Zone [(Zone.mk ([99, 111, 114, 101] : List UInt8) false [])])), (12, .row 52 6 0 (List.map enc_Def [(Def.mk ([116, 97, 108, 108] : List UInt8) y3)]))]) ?_ (fun v2 hz => ?_)
  ·refine v_draw mixedH (by kernel_rfl) ?_
   refine d_runs 2 0 [(43, .sl 2 18 (([(Entry.mk ([104, 101, 105, 103, 104, 116] : List UInt8) 14), (Entry.mk ([97, 114, 101, 97] : List UInt8) 200)]).length) 0 (([(Entry.mk ([104, 101, 105, 103, 104, 116] : List UInt8) 14), (Entry.mk ([97, 114, 101, 97] : List UInt8) 200)]).length)), (42, .agg [.sl 6 12 (([(Def.mk ([116, 97, 108, 108] : List UInt8) y3)]).length) 0 (([(Def.mk ([116, 97, 108, 108] : List UInt8) y3)]).length), .nils, .sl 3 14 (([(Zone.mk ([99, 111, 114, 101] : List UInt8) false [])]).length) 0 (([(Zone.mk ([99, 111, 114, 101] : List UInt8) false [])]).length), .nils, .nils, .nils, .nils, .int .i64 0])] [⟨1, [], []⟩, ⟨0, [], [1]⟩] (by kernel_rfl) (by kernel_rfl) ?_
   obtain ⟨y15, c15, hs⟩ := bind_some hs
   refine d_pure (v := .agg (enc_Expr y15)) 2 rfl rfl rfl rfl (by kernel_rfl) (by kernel_rfl) (loc_gcall0 (callV_func hbv14 (by kernel_rfl)) (w_greenbeltlaw17_name ([97, 114, 101, 97] : List UInt8) _ c15) (by kernel_rfl)) ?_
   obtain ⟨y16, c16, hs⟩ := bind_some hs
   refine d_pure (v := .agg (enc_Expr y16)) 3 rfl rfl rfl rfl (by kernel_rfl) (by kernel_rfl) (loc_gcall0 (callV_func hbv7 (by kernel_rfl)) (w_greenbeltlaw17_num 0 _ c16) (by kernel_rfl)) ?_
   refine d_loc (F := []) (R := []) (F' := [(46, .row 34 5 0 (encs_Expr [y15, y16]))]) (v := .sl 5 46 2 0 2) 4 [] [] rfl rfl rfl rfl (by kernel_rfl) (by kernel_rfl) (by kernel_rfl) (by kernel_rfl) (by kernel_rfl) (by kernel_rfl) (by kernel_rfl) (by kernel_rfl) (loc_buildSliceW (e := 34) (sz := 5) (els := [[.int .i64 y15.Op, .int .i64 y15.N, .str y15.S, .str y15.Key, .vs 5 (encs_Expr y15.Args)], [.int .i64 y16.Op, .int .i64 y16.N, .str y16.S, .str y16.Key, .vs 5 (encs_Expr y16.Args)]]) (els2 := [[.int .i64 y15.Op, .int .i64 y15.N, .str y15.S, .str y15.Key, .vs 5 (encs_Expr y15.Args)], [.int .i64 y16.Op, .int .i64 y16.N, .str y16.S, .str y16.Key, .vs 5 (encs_Expr y16.Args)]]) (fl := [.int .i64 y15.Op, .int .i64 y15.N, .str y15.S, .str y15.Key, .vs 5 (encs_Expr y15.Args), .int .i64 y16.Op, .int .i64 y16.N, .str y16.S, .str y16.Key, .vs 5 (encs_Expr y16.Args)]) (fl2 := [.int .i64 y15.Op, .int .i64 y15.N, .str y15.S, .str y15.Key, .vs 5 (encs_Expr y15.Args), .int .i64 y16.Op, .int .i64 y16.N, .str y16.S, .str y16.Key, .vs 5 (encs_Expr y16.Args)]) (by kernel_rfl) (by kernel_rfl) (by kernel_rfl) (by kernel_rfl) (by kernel_rfl) (wk_same (wk_same (wk_same (wk_same (wk_same (wk_same (wk_same (wk_same (wk_same (wk_same wk_nil)))))))))) (by kernel_rfl) (by kernel_rfl) (Eq.trans (by kernel_rfl) (encs_Expr_eq _).symm)) ?_
   obtain ⟨y17, c17, hs⟩ := bind_some hs
   refine d_loc (F := [(46, .row 34 5 0 (encs_Expr [y15, y16]))]) (R := []) (F' := [(46, .row 34 5 (((encs_Expr [y15, y16])).length) (encs_Expr [y15, y16]))]) (v := .agg (enc_Expr y17)) 5 [46] [] rfl rfl rfl rfl (by kernel_rfl) (by kernel_rfl) (by kernel_rfl) (by kernel_rfl) (by kernel_rfl) (by kernel_rfl) (by kernel_rfl) (by kernel_rfl) (loc_frz (Fa := []) (R := [(46, .row 34 5 0 (encs_Expr [y15, y16]))]) (F2 := [(46, .row 34 5 (((encs_Expr [y15, y16])).length) (encs_Expr [y15, y16]))]) (F1 := [(46, .row 34 5 (((encs_Expr [y15, y16])).length) (encs_Expr [y15, y16]))]) (by kernel_rfl) (loc_g (R := [(46, .row 34 5 (((encs_Expr [y15, y16])).length) (encs_Expr [y15, y16]))]) [.int .i64 7, .sl 5 46 2 0 2] [] (callV_func hbv9 (by kernel_rfl)) (w_greenbeltlaw17_op 7 [y15, y16] _ c17) (.cons (.same _) (.cons (.row (t := 34) (fz := (((encs_Expr [y15, y16])).length)) (by kernel_rfl) (by first | (simp only [List.length_map, List.length_set, cpyT_length]; done) | rfl)) (.nil))) (by kernel_rfl) (by kernel_rfl) (by kernel_rfl) (by kernel_rfl) (by kernel_rfl) (by kernel_rfl) (by kernel_rfl) (by kernel_rfl))) ?_
   obtain ⟨y18, c18, hs⟩ := bind_some hs
   refine d_loc (F := []) (R := [(12, .row 52 6 0 (List.map enc_Def [(Def.mk ([116, 97, 108, 108] : List UInt8) y3)])), (14, .row 60 3 0 (List.map enc_Zone [(Zone.mk ([99, 111, 114, 101] : List UInt8) false [])])), (18, .row 44 2 0 (List.map enc_Entry [(Entry.mk ([104, 101, 105, 103, 104, 116] : List UInt8) 14), (Entry.mk ([97, 114, 101, 97] : List UInt8) 200)]))]) (F' := []) (v := .int .i64 y18) 6 [] [12, 14, 18] rfl rfl rfl rfl (by kernel_rfl) (by kernel_rfl) (by kernel_rfl) (by kernel_rfl) (by kernel_rfl) (by kernel_rfl) (by kernel_rfl) (by kernel_rfl) (loc_gcallB (vs := [.agg [.sl 6 12 (([(Def.mk ([116, 97, 108, 108] : List UInt8) y3)]).length) 0 (([(Def.mk ([116, 97, 108, 108] : List UInt8) y3)]).length), .nils, .sl 3 14 (([(Zone.mk ([99, 111, 114, 101] : List UInt8) false [])]).length) 0 (([(Zone.mk ([99, 111, 114, 101] : List UInt8) false [])]).length), .nils, .nils, .nils, .nils, .int .i64 0], .sl 2 18 (([(Entry.mk ([104, 101, 105, 103, 104, 116] : List UInt8) 14), (Entry.mk ([97, 114, 101, 97] : List UInt8) 200)]).length) 0 (([(Entry.mk ([104, 101, 105, 103, 104, 116] : List UInt8) 14), (Entry.mk ([97, 114, 101, 97] : List UInt8) 200)]).length), .nils, .agg (enc_Expr y17)]) (R := [(12, .row 52 6 0 (List.map enc_Def [(Def.mk ([116, 97, 108, 108] : List UInt8) y3)])), (14, .row 60 3 0 (List.map enc_Zone [(Zone.mk ([99, 111, 114, 101] : List UInt8) false [])])), (18, .row 44 2 0 (List.map enc_Entry [(Entry.mk ([104, 101, 105, 103, 104, 116] : List UInt8) 14), (Entry.mk ([97, 114, 101, 97] : List UInt8) 200)]))]) (callV_func hbv8 (by kernel_rfl)) (w_expr_Eval [(Def.mk ([116, 97, 108, 108] : List UInt8) y3)] [] [(Zone.mk ([99, 111, 114, 101] : List UInt8) false [])] [] [] [] [] 0 [(Entry.mk ([104, 101, 105, 103, 104, 116] : List UInt8) 14), (Entry.mk ([97, 114, 101, 97] : List UInt8) 200)] [] y17 _ c18) (.cons (.agg (.cons (.row (t := 52) (fz := 0) (by kernel_rfl) (by first | (simp only [List.length_map, List.length_set, cpyT_length]; done) | rfl)) (.cons (.nils _) (.cons (.row (t := 60) (fz := 0) (by kernel_rfl) (by first | (simp only [List.length_map, List.length_set, cpyT_length]; done) | rfl)) (.cons (.nils _) (.cons (.nils _) (.cons (.nils _) (.cons (.nils _) (.cons (.same _) (.nil)))))))))) (.cons (.row (t := 44) (fz := 0) (by kernel_rfl) (by first | (simp only [List.length_map, List.length_set, cpyT_length]; done) | rfl)) (.cons (.nils _) (.cons (.same _) (.nil))))) (by kernel_rfl) (by kernel_rfl) (by kernel_rfl)) ?_
   refine d_runs 2 7 [(50, .bool (decide (y18 = 0))), (49, .bool (decide (y18 = 0)))] (pfp 2 8) (by kernel_rfl) (by kernel_rfl) ?_
   cases h2 : ((decide (y18 = 0)))
   ·replace hs := bif_f h2 hs
    refine d_runs 20 9 [(5, .bool false), (69, .bool false), (68, .no), (67, .no), (66, .no), (65, .no), (64, .no), (63, .no), (62, .no), (61, .no), (60, .bool false), (59, .bool false), (58, .no), (57, .no), (56, .no), (55, .no), (54, .no), (53, .no), (52, .no), (51, .no)] (pfp 20 28) (by kernel_rfl) (by kernel_rfl) ?_
    refine d_nil (by kernel_rfl) ?_
    obtain rfl := si hs
    refine nrm_join false rfl ?_
    exact cut_of [1, 4, 5] [1, 14, 12] (by kernel_rfl) (by kernel_rfl) (by kernel_rfl)
   ·replace hs := bif_t h2 hs
    refine d_runs 3 9 [(53, .agg (enc_Expr y6)), (52, .sl 2 18 (([(Entry.mk ([104, 101, 105, 103, 104, 116] : List UInt8) 14), (Entry.mk ([97, 114, 101, 97] : List UInt8) 200)]).length) 0 (([(Entry.mk ([104, 101, 105, 103, 104, 116] : List UInt8) 14), (Entry.mk ([97, 114, 101, 97] : List UInt8) 200)]).length)), (51, .agg [.sl 6 12 (([(Def.mk ([116, 97, 108, 108] : List UInt8) y3)]).length) 0 (([(Def.mk ([116, 97, 108, 108] : List UInt8) y3)]).length), .nils, .sl 3 14 (([(Zone.mk ([99, 111, 114, 101] : List UInt8) false [])]).length) 0 (([(Zone.mk ([99, 111, 114, 101] : List UInt8) false [])]).length), .nils, .nils, .nils, .nils, .int .i64 0])] [⟨11, [], [3]⟩, ⟨10, [], []⟩, ⟨9, [], [1]⟩] (by kernel_rfl) (by kernel_rfl) ?_
    obtain ⟨y19, c19, hs⟩ := bind_some hs
    refine d_pure (v := .agg (enc_Expr y19)) 12 rfl rfl rfl rfl (by kernel_rfl) (by kernel_rfl) (loc_gcall0 (callV_func hbv7 (by kernel_rfl)) (w_greenbeltlaw17_num 2 _ c19) (by kernel_rfl)) ?_
    refine d_loc (F := []) (R := []) (F' := [(55, .row 34 5 0 (encs_Expr [y6, y19]))]) (v := .sl 5 55 2 0 2) 13 [] [] rfl rfl rfl rfl (by kernel_rfl) (by kernel_rfl) (by kernel_rfl) (by kernel_rfl) (by kernel_rfl) (by kernel_rfl) (by kernel_rfl) (by kernel_rfl) (loc_buildSliceW (e := 34) (sz := 5) (els := [[.int .i64 y6.Op, .int .i64 y6.N, .str y6.S, .str y6.Key, .vs 5 (encs_Expr y6.Args)], [.int .i64 y19.Op, .int .i64 y19.N, .str y19.S, .str y19.Key, .vs 5 (encs_Expr y19.Args)]]) (els2 := [[.int .i64 y6.Op, .int .i64 y6.N, .str y6.S, .str y6.Key, .vs 5 (encs_Expr y6.Args)], [.int .i64 y19.Op, .int .i64 y19.N, .str y19.S, .str y19.Key, .vs 5 (encs_Expr y19.Args)]]) (fl := [.int .i64 y6.Op, .int .i64 y6.N, .str y6.S, .str y6.Key, .vs 5 (encs_Expr y6.Args), .int .i64 y19.Op, .int .i64 y19.N, .str y19.S, .str y19.Key, .vs 5 (encs_Expr y19.Args)]) (fl2 := [.int .i64 y6.Op, .int .i64 y6.N, .str y6.S, .str y6.Key, .vs 5 (encs_Expr y6.Args), .int .i64 y19.Op, .int .i64 y19.N, .str y19.S, .str y19.Key, .vs 5 (encs_Expr y19.Args)]) (by kernel_rfl) (by kernel_rfl) (by kernel_rfl) (by kernel_rfl) (by kernel_rfl) (wk_same (wk_same (wk_same (wk_same (wk_same (wk_same (wk_same (wk_same (wk_same (wk_same wk_nil)))))))))) (by kernel_rfl) (by kernel_rfl) (Eq.trans (by kernel_rfl) (encs_Expr_eq _).symm)) ?_
    obtain ⟨y20, c20, hs⟩ := bind_some hs
    refine d_loc (F := [(55, .row 34 5 0 (encs_Expr [y6, y19]))]) (R := []) (F' := [(55, .row 34 5 (((encs_Expr [y6, y19])).length) (encs_Expr [y6, y19]))]) (v := .agg (enc_Expr y20)) 14 [55] [] rfl rfl rfl rfl (by kernel_rfl) (by kernel_rfl) (by kernel_rfl) (by kernel_rfl) (by kernel_rfl) (by kernel_rfl) (by kernel_rfl) (by kernel_rfl) (loc_frz (Fa := []) (R := [(55, .row 34 5 0 (encs_Expr [y6, y19]))]) (F2 := [(55, .row 34 5 (((encs_Expr [y6, y19])).length) (encs_Expr [y6, y19]))]) (F1 := [(55, .row 34 5 (((encs_Expr [y6, y19])).length) (encs_Expr [y6, y19]))]) (by kernel_rfl) (loc_g (R := [(55, .row 34 5 (((encs_Expr [y6, y19])).length) (encs_Expr [y6, y19]))]) [.int .i64 7, .sl 5 55 2 0 2] [] (callV_func hbv9 (by kernel_rfl)) (w_greenbeltlaw17_op 7 [y6, y19] _ c20) (.cons (.same _) (.cons (.row (t := 34) (fz := (((encs_Expr [y6, y19])).length)) (by kernel_rfl) (by first | (simp only [List.length_map, List.length_set, cpyT_length]; done) | rfl)) (.nil))) (by kernel_rfl) (by kernel_rfl) (by kernel_rfl) (by kernel_rfl) (by kernel_rfl) (by kernel_rfl) (by kernel_rfl) (by kernel_rfl))) ?_
    obtain ⟨y21, c21, hs⟩ := bind_some hs
    refine d_loc (F := []) (R := [(12, .row 52 6 0 (List.map enc_Def [(Def.mk ([116, 97, 108, 108] : List UInt8) y3)])), (14, .row 60 3 0 (List.map enc_Zone [(Zone.mk ([99, 111, 114, 101] : List UInt8) false [])])), (18, .row 44 2 0 (List.map enc_Entry [(Entry.mk ([104, 101, 105, 103, 104, 116] : List UInt8) 14), (Entry.mk ([97, 114, 101, 97] : List UInt8) 200)]))]) (F' := []) (v := .int .i64 y21) 15 [] [12, 14, 18] rfl rfl rfl rfl (by kernel_rfl) (by kernel_rfl) (by kernel_rfl) (by kernel_rfl) (by kernel_rfl) (by kernel_rfl) (by kernel_rfl) (by kernel_rfl) (loc_gcallB (vs := [.agg [.sl 6 12 (([(Def.mk ([116, 97, 108, 108] : List UInt8) y3)]).length) 0 (([(Def.mk ([116, 97, 108, 108] : List UInt8) y3)]).length), .nils, .sl 3 14 (([(Zone.mk ([99, 111, 114, 101] : List UInt8) false [])]).length) 0 (([(Zone.mk ([99, 111, 114, 101] : List UInt8) false [])]).length), .nils, .nils, .nils, .nils, .int .i64 0], .sl 2 18 (([(Entry.mk ([104, 101, 105, 103, 104, 116] : List UInt8) 14), (Entry.mk ([97, 114, 101, 97] : List UInt8) 200)]).length) 0 (([(Entry.mk ([104, 101, 105, 103, 104, 116] : List UInt8) 14), (Entry.mk ([97, 114, 101, 97] : List UInt8) 200)]).length), .nils, .agg (enc_Expr y20)]) (R := [(12, .row 52 6 0 (List.map enc_Def [(Def.mk ([116, 97, 108, 108] : List UInt8) y3)])), (14, .row 60 3 0 (List.map enc_Zone [(Zone.mk ([99, 111, 114, 101] : List UInt8) false [])])), (18, .row 44 2 0 (List.map enc_Entry [(Entry.mk ([104, 101, 105, 103, 104, 116] : List UInt8) 14), (Entry.mk ([97, 114, 101, 97] : List UInt8) 200)]))]) (callV_func hbv8 (by kernel_rfl)) (w_expr_Eval [(Def.mk ([116, 97, 108, 108] : List UInt8) y3)] [] [(Zone.mk ([99, 111, 114, 101] : List UInt8) false [])] [] [] [] [] 0 [(Entry.mk ([104, 101, 105, 103, 104, 116] : List UInt8) 14), (Entry.mk ([97, 114, 101, 97] : List UInt8) 200)] [] y20 _ c21) (.cons (.agg (.cons (.row (t := 52) (fz := 0) (by kernel_rfl) (by first | (simp only [List.length_map, List.length_set, cpyT_length]; done) | rfl)) (.cons (.nils _) (.cons (.row (t := 60) (fz := 0) (by kernel_rfl) (by first | (simp only [List.length_map, List.length_set, cpyT_length]; done) | rfl)) (.cons (.nils _) (.cons (.nils _) (.cons (.nils _) (.cons (.nils _) (.cons (.same _) (.nil)))))))))) (.cons (.row (t := 44) (fz := 0) (by kernel_rfl) (by first | (simp only [List.length_map, List.length_set, cpyT_length]; done) | rfl)) (.cons (.nils _) (.cons (.same _) (.nil))))) (by kernel_rfl) (by kernel_rfl) (by kernel_rfl)) ?_
    refine d_runs 3 16 [(60, .bool (decide (y21 = (-4)))), (59, .bool (decide (y21 = (-4)))), (58, .bool (decide (y21 = (-4))))] (pfp 3 18) (by kernel_rfl) (by kernel_rfl) ?_
    cases h3 : ((decide (y21 = (-4))))
    ·replace hs := bif_f h3 hs
     refine d_runs 10 19 [(5, .bool false), (69, .bool false), (68, .no), (67, .no), (66, .no), (65, .no), (64, .no), (63, .no), (62, .no), (61, .no)] (pfp 10 28) (by kernel_rfl) (by kernel_rfl) ?_
     refine d_nil (by kernel_rfl) ?_
     obtain rfl := si hs
     refine nrm_join false rfl ?_
     exact cut_of [1, 4, 5] [1, 14, 12] (by kernel_rfl) (by kernel_rfl) (by kernel_rfl)
    ·replace hs := bif_t h3 hs
     refine d_runs 3 19 [(63, .agg (enc_Expr y6)), (62, .sl 2 18 (([(Entry.mk ([104, 101, 105, 103, 104, 116] : List UInt8) 14), (Entry.mk ([97, 114, 101, 97] : List UInt8) 200)]).length) 0 (([(Entry.mk ([104, 101, 105, 103, 104, 116] : List UInt8) 14), (Entry.mk ([97, 114, 101, 97] : List UInt8) 200)]).length)), (61, .agg [.sl 6 12 (([(Def.mk ([116, 97, 108, 108] : List UInt8) y3)]).length) 0 (([(Def.mk ([116, 97, 108, 108] : List UInt8) y3)]).length), .nils, .sl 3 14 (([(Zone.mk ([99, 111, 114, 101] : List UInt8) false [])]).length) 0 (([(Zone.mk ([99, 111, 114, 101] : List UInt8) false [])]).length), .nils, .nils, .nils, .nils, .int .i64 0])] [⟨21, [], [3]⟩, ⟨20, [], []⟩, ⟨19, [], [1]⟩] (by kernel_rfl) (by kernel_rfl) ?_
     obtain ⟨y22, c22, hs⟩ := bind_some hs
     refine d_pure (v := .agg (enc_Expr y22)) 22 rfl rfl rfl rfl (by kernel_rfl) (by kernel_rfl) (loc_gcall0 (callV_func hbv7 (by kernel_rfl)) (w_greenbeltlaw17_num 2 _ c22) (by kernel_rfl)) ?_
     refine d_loc (F := []) (R := []) (F' := [(65, .row 34 5 0 (encs_Expr [y6, y22]))]) (v := .sl 5 65 2 0 2) 23 [] [] rfl rfl rfl rfl (by kernel_rfl) (by kernel_rfl) (by kernel_rfl) (by kernel_rfl) (by kernel_rfl) (by kernel_rfl) (by kernel_rfl) (by kernel_rfl) (loc_buildSliceW (e := 34) (sz := 5) (els := [[.int .i64 y6.Op, .int .i64 y6.N, .str y6.S, .str y6.Key, .vs 5 (encs_Expr y6.Args)], [.int .i64 y22.Op, .int .i64 y22.N, .str y22.S, .str y22.Key, .vs 5 (encs_Expr y22.Args)]]) (els2 := [[.int .i64 y6.Op, .int .i64 y6.N, .str y6.S, .str y6.Key, .vs 5 (encs_Expr y6.Args)], [.int .i64 y22.Op, .int .i64 y22.N, .str y22.S, .str y22.Key, .vs 5 (encs_Expr y22.Args)]]) (fl := [.int .i64 y6.Op, .int .i64 y6.N, .str y6.S, .str y6.Key, .vs 5 (encs_Expr y6.Args), .int .i64 y22.Op, .int .i64 y22.N, .str y22.S, .str y22.Key, .vs 5 (encs_Expr y22.Args)]) (fl2 := [.int .i64 y6.Op, .int .i64 y6.N, .str y6.S, .str y6.Key, .vs 5 (encs_Expr y6.Args), .int .i64 y22.Op, .int .i64 y22.N, .str y22.S, .str y22.Key, .vs 5 (encs_Expr y22.Args)]) (by kernel_rfl) (by kernel_rfl) (by kernel_rfl) (by kernel_rfl) (by kernel_rfl) (wk_same (wk_same (wk_same (wk_same (wk_same (wk_same (wk_same (wk_same (wk_same (wk_same wk_nil)))))))))) (by kernel_rfl) (by kernel_rfl) (Eq.trans (by kernel_rfl) (encs_Expr_eq _).symm)) ?_
     obtain ⟨y23, c23, hs⟩ := bind_some hs
     refine d_loc (F := [(65, .row 34 5 0 (encs_Expr [y6, y22]))]) (R := []) (F' := [(65, .row 34 5 (((encs_Expr [y6, y22])).length) (encs_Expr [y6, y22]))]) (v := .agg (enc_Expr y23)) 24 [65] [] rfl rfl rfl rfl (by kernel_rfl) (by kernel_rfl) (by kernel_rfl) (by kernel_rfl) (by kernel_rfl) (by kernel_rfl) (by kernel_rfl) (by kernel_rfl) (loc_frz (Fa := []) (R := [(65, .row 34 5 0 (encs_Expr [y6, y22]))]) (F2 := [(65, .row 34 5 (((encs_Expr [y6, y22])).length) (encs_Expr [y6, y22]))]) (F1 := [(65, .row 34 5 (((encs_Expr [y6, y22])).length) (encs_Expr [y6, y22]))]) (by kernel_rfl) (loc_g (R := [(65, .row 34 5 (((encs_Expr [y6, y22])).length) (encs_Expr [y6, y22]))]) [.int .i64 8, .sl 5 65 2 0 2] [] (callV_func hbv9 (by kernel_rfl)) (w_greenbeltlaw17_op 8 [y6, y22] _ c23) (.cons (.same _) (.cons (.row (t := 34) (fz := (((encs_Expr [y6, y22])).length)) (by kernel_rfl) (by first | (simp only [List.length_map, List.length_set, cpyT_length]; done) | rfl)) (.nil))) (by kernel_rfl) (by kernel_rfl) (by kernel_rfl) (by kernel_rfl) (by kernel_rfl) (by kernel_rfl) (by kernel_rfl) (by kernel_rfl))) ?_
     obtain ⟨y24, c24, hs⟩ := bind_some hs
     refine d_loc (F := []) (R := [(12, .row 52 6 0 (List.map enc_Def [(Def.mk ([116, 97, 108, 108] : List UInt8) y3)])), (14, .row 60 3 0 (List.map enc_Zone [(Zone.mk ([99, 111, 114, 101] : List UInt8) false [])])), (18, .row 44 2 0 (List.map enc_Entry [(Entry.mk ([104, 101, 105, 103, 104, 116] : List UInt8) 14), (Entry.mk ([97, 114, 101, 97] : List UInt8) 200)]))]) (F' := []) (v := .int .i64 y24) 25 [] [12, 14, 18] rfl rfl rfl rfl (by kernel_rfl) (by kernel_rfl) (by kernel_rfl) (by kernel_rfl) (by kernel_rfl) (by kernel_rfl) (by kernel_rfl) (by kernel_rfl) (loc_gcallB (vs := [.agg [.sl 6 12 (([(Def.mk ([116, 97, 108, 108] : List UInt8) y3)]).length) 0 (([(Def.mk ([116, 97, 108, 108] : List UInt8) y3)]).length), .nils, .sl 3 14 (([(Zone.mk ([99, 111, 114, 101] : List UInt8) false [])]).length) 0 (([(Zone.mk ([99, 111, 114, 101] : List UInt8) false [])]).length), .nils, .nils, .nils, .nils, .int .i64 0], .sl 2 18 (([(Entry.mk ([104, 101, 105, 103, 104, 116] : List UInt8) 14), (Entry.mk ([97, 114, 101, 97] : List UInt8) 200)]).length) 0 (([(Entry.mk ([104, 101, 105, 103, 104, 116] : List UInt8) 14), (Entry.mk ([97, 114, 101, 97] : List UInt8) 200)]).length), .nils, .agg (enc_Expr y23)]) (R := [(12, .row 52 6 0 (List.map enc_Def [(Def.mk ([116, 97, 108, 108] : List UInt8) y3)])), (14, .row 60 3 0 (List.map enc_Zone [(Zone.mk ([99, 111, 114, 101] : List UInt8) false [])])), (18, .row 44 2 0 (List.map enc_Entry [(Entry.mk ([104, 101, 105, 103, 104, 116] : List UInt8) 14), (Entry.mk ([97, 114, 101, 97] : List UInt8) 200)]))]) (callV_func hbv8 (by kernel_rfl)) (w_expr_Eval [(Def.mk ([116, 97, 108, 108] : List UInt8) y3)] [] [(Zone.mk ([99, 111, 114, 101] : List UInt8) false [])] [] [] [] [] 0 [(Entry.mk ([104, 101, 105, 103, 104, 116] : List UInt8) 14), (Entry.mk ([97, 114, 101, 97] : List UInt8) 200)] [] y23 _ c24) (.cons (.agg (.cons (.row (t := 52) (fz := 0) (by kernel_rfl) (by first | (simp only [List.length_map, List.length_set, cpyT_length]; done) | rfl)) (.cons (.nils _) (.cons (.row (t := 60) (fz := 0) (by kernel_rfl) (by first | (simp only [List.length_map, List.length_set, cpyT_length]; done) | rfl)) (.cons (.nils _) (.cons (.nils _) (.cons (.nils _) (.cons (.nils _) (.cons (.same _) (.nil)))))))))) (.cons (.row (t := 44) (fz := 0) (by kernel_rfl) (by first | (simp only [List.length_map, List.length_set, cpyT_length]; done) | rfl)) (.cons (.nils _) (.cons (.same _) (.nil))))) (by kernel_rfl) (by kernel_rfl) (by kernel_rfl)) ?_
     refine d_runs 3 26 [(5, .bool (decide (y24 = 1))), (69, .bool (decide (y24 = 1))), (68, .bool (decide (y24 = 1)))] (pfp 3 28) (by kernel_rfl) (by kernel_rfl) ?_
     refine d_nil (by kernel_rfl) ?_
     obtain rfl := si hs
     refine nrm_join (decide (y24 = 1)) rfl ?_
     exact cut_of [1, 4, 5] [1, 14, 12] (by kernel_rfl) (by kernel_rfl) (by kernel_rfl)
  ·subst hz; clear hs; have hs := hk2; clear hk2
   refine nrm_thenV (v_seq ?_)
   obtain ⟨z3, hs, hk3⟩ := bind_some hs
   refine v_join (S := Bool) (fun u => u = z3) (fun u => [(0, .bool u)]) (fun u => []) ?_ (fun v3 hz => ?_)
   ·refine v_draw mixedH (by kernel_rfl) ?_
    refine d_runs 2 0 [(71, .bool v1), (70, .bool v1)] (pfp 2 1) (by kernel_rfl) (by kernel_rfl) ?_
    cases h4 : (v1)
    ·replace hs := bif_f h4 hs
     refine d_runs 21 2 [(0, .bool false), (91, .bool false), (90, .no), (89, .no), (88, .no), (87, .bool false), (86, .bool false), (85, .no), (84, .no), (83, .no), (82, .no), (81, .bool false), (80, .bool false), (79, .no), (78, .no), (77, .no), (76, .no), (75, .no), (74, .bool false), (73, .bool false), (72, .no)] (pfp 21 22) (by kernel_rfl) (by kernel_rfl) ?_
     refine d_nil (by kernel_rfl) ?_
     obtain rfl := si hs
     refine nrm_join false rfl ?_
     exact cut_of [0] [] (by kernel_rfl) (by kernel_rfl) (by kernel_rfl)
    ·replace hs := bif_t h4 hs
     refine d_runs 3 2 [(74, .bool v2), (73, .bool v2), (72, .bool v2)] (pfp 3 4) (by kernel_rfl) (by kernel_rfl) ?_
     cases h5 : (v2)
     ·replace hs := bif_f h5 hs
      refine d_runs 18 5 [(0, .bool false), (91, .bool false), (90, .no), (89, .no), (88, .no), (87, .bool false), (86, .bool false), (85, .no), (84, .no), (83, .no), (82, .no), (81, .bool false), (80, .bool false), (79, .no), (78, .no), (77, .no), (76, .no), (75, .no)] (pfp 18 22) (by kernel_rfl) (by kernel_rfl) ?_
      refine d_nil (by kernel_rfl) ?_
      obtain rfl := si hs
      refine nrm_join false rfl ?_
      exact cut_of [0] [] (by kernel_rfl) (by kernel_rfl) (by kernel_rfl)
     ·replace hs := bif_t h5 hs
      refine d_runh 2 5 [(76, .sl 1 76 1 0 1), (75, .agg [.sl 6 12 (([(Def.mk ([116, 97, 108, 108] : List UInt8) y3)]).length) 0 (([(Def.mk ([116, 97, 108, 108] : List UInt8) y3)]).length), .nils, .sl 3 14 (([(Zone.mk ([99, 111, 114, 101] : List UInt8) false [])]).length) 0 (([(Zone.mk ([99, 111, 114, 101] : List UInt8) false [])]).length), .nils, .nils, .nils, .nils, .int .i64 0])] [(76, .row 9 1 0 (List.map EV.encS [([104, 101, 105, 103, 104, 116] : List UInt8)])), (1, .box 31 [.sl 6 12 (([(Def.mk ([116, 97, 108, 108] : List UInt8) y3)]).length) 0 (([(Def.mk ([116, 97, 108, 108] : List UInt8) y3)]).length), .nils, .sl 3 14 (([(Zone.mk ([99, 111, 114, 101] : List UInt8) false [])]).length) 0 (([(Zone.mk ([99, 111, 114, 101] : List UInt8) false [])]).length), .nils, .nils, .nils, .nils, .int .i64 0]), (14, .row 60 3 0 (List.map enc_Zone [(Zone.mk ([99, 111, 114, 101] : List UInt8) false [])])), (12, .row 52 6 0 (List.map enc_Def [(Def.mk ([116, 97, 108, 108] : List UInt8) y3)]))] [⟨6, [76], []⟩, ⟨5, [], [1]⟩] (by kernel_rfl) (by kernel_rfl) ?_
      obtain ⟨y25, c25, hs⟩ := bind_some hs
      refine d_pure (v := .agg (enc_Expr y25)) 7 rfl rfl rfl rfl (by kernel_rfl) (by kernel_rfl) (loc_gcall0 (callV_func hbv14 (by kernel_rfl)) (w_greenbeltlaw17_name ([104, 101, 105, 103, 104, 116] : List UInt8) _ c25) (by kernel_rfl)) ?_
      obtain ⟨y26, c26, hs⟩ := bind_some hs
      refine d_loc (F := []) (R := [(12, .row 52 6 0 (List.map enc_Def [(Def.mk ([116, 97, 108, 108] : List UInt8) y3)])), (14, .row 60 3 0 (List.map enc_Zone [(Zone.mk ([99, 111, 114, 101] : List UInt8) false [])])), (76, .row 9 1 0 (List.map EV.encS [([104, 101, 105, 103, 104, 116] : List UInt8)]))]) (F' := []) (v := .int .i64 y26) 8 [] [12, 14, 76] rfl rfl rfl rfl (by kernel_rfl) (by kernel_rfl) (by kernel_rfl) (by kernel_rfl) (by kernel_rfl) (by kernel_rfl) (by kernel_rfl) (by kernel_rfl) (loc_gcallB (vs := [.agg [.sl 6 12 (([(Def.mk ([116, 97, 108, 108] : List UInt8) y3)]).length) 0 (([(Def.mk ([116, 97, 108, 108] : List UInt8) y3)]).length), .nils, .sl 3 14 (([(Zone.mk ([99, 111, 114, 101] : List UInt8) false [])]).length) 0 (([(Zone.mk ([99, 111, 114, 101] : List UInt8) false [])]).length), .nils, .nils, .nils, .nils, .int .i64 0], .sl 1 76 1 0 1, .agg (enc_Expr y25)]) (R := [(12, .row 52 6 0 (List.map enc_Def [(Def.mk ([116, 97, 108, 108] : List UInt8) y3)])), (14, .row 60 3 0 (List.map enc_Zone [(Zone.mk ([99, 111, 114, 101] : List UInt8) false [])])), (76, .row 9 1 0 (List.map EV.encS [([104, 101, 105, 103, 104, 116] : List UInt8)]))]) (callV_func hbv16 (by kernel_rfl)) (w_expr_Check [(Def.mk ([116, 97, 108, 108] : List UInt8) y3)] [] [(Zone.mk ([99, 111, 114, 101] : List UInt8) false [])] [] [] [] [] 0 [([104, 101, 105, 103, 104, 116] : List UInt8)] y25 _ c26) (.cons (.agg (.cons (.row (t := 52) (fz := 0) (by kernel_rfl) (by first | (simp only [List.length_map, List.length_set, cpyT_length]; done) | rfl)) (.cons (.nils _) (.cons (.row (t := 60) (fz := 0) (by kernel_rfl) (by first | (simp only [List.length_map, List.length_set, cpyT_length]; done) | rfl)) (.cons (.nils _) (.cons (.nils _) (.cons (.nils _) (.cons (.nils _) (.cons (.same _) (.nil)))))))))) (.cons (.row (t := 9) (fz := 0) (by kernel_rfl) (by first | (simp only [List.length_map, List.length_set, cpyT_length]; done) | rfl)) (.cons (.same _) (.nil)))) (by kernel_rfl) (by kernel_rfl) (by kernel_rfl)) ?_
      refine d_runs 3 9 [(81, .bool (decide (y26 = 0))), (80, .bool (decide (y26 = 0))), (79, .bool (decide (y26 = 0)))] (pfp 3 11) (by kernel_rfl) (by kernel_rfl) ?_
      cases h6 : ((decide (y26 = 0)))
      ·replace hs := bif_f h6 hs
       refine d_runs 11 12 [(0, .bool false), (91, .bool false), (90, .no), (89, .no), (88, .no), (87, .bool false), (86, .bool false), (85, .no), (84, .no), (83, .no), (82, .no)] (pfp 11 22) (by kernel_rfl) (by kernel_rfl) ?_
       refine d_nil (by kernel_rfl) ?_
       obtain rfl := si hs
       refine nrm_join false rfl ?_
       exact cut_of [0] [] (by kernel_rfl) (by kernel_rfl) (by kernel_rfl)
      ·replace hs := bif_t h6 hs
       refine d_runs 1 12 [(82, .agg [.sl 6 12 (([(Def.mk ([116, 97, 108, 108] : List UInt8) y3)]).length) 0 (([(Def.mk ([116, 97, 108, 108] : List UInt8) y3)]).length), .nils, .sl 3 14 (([(Zone.mk ([99, 111, 114, 101] : List UInt8) false [])]).length) 0 (([(Zone.mk ([99, 111, 114, 101] : List UInt8) false [])]).length), .nils, .nils, .nils, .nils, .int .i64 0])] [⟨12, [], [1]⟩] (by kernel_rfl) (by kernel_rfl) ?_
       obtain ⟨y27, c27, hs⟩ := bind_some hs
       refine d_pure (v := .agg (enc_Expr y27)) 13 rfl rfl rfl rfl (by kernel_rfl) (by kernel_rfl) (loc_gcall0 (callV_func hbv14 (by kernel_rfl)) (w_greenbeltlaw17_name ([104, 101, 105, 103, 104, 116] : List UInt8) _ c27) (by kernel_rfl)) ?_
       obtain ⟨y28, c28, hs⟩ := bind_some hs
       refine d_loc (F := []) (R := [(12, .row 52 6 0 (List.map enc_Def [(Def.mk ([116, 97, 108, 108] : List UInt8) y3)])), (14, .row 60 3 0 (List.map enc_Zone [(Zone.mk ([99, 111, 114, 101] : List UInt8) false [])]))]) (F' := []) (v := .int .i64 y28) 14 [] [12, 14] rfl rfl rfl rfl (by kernel_rfl) (by kernel_rfl) (by kernel_rfl) (by kernel_rfl) (by kernel_rfl) (by kernel_rfl) (by kernel_rfl) (by kernel_rfl) (loc_gcallB (vs := [.agg [.sl 6 12 (([(Def.mk ([116, 97, 108, 108] : List UInt8) y3)]).length) 0 (([(Def.mk ([116, 97, 108, 108] : List UInt8) y3)]).length), .nils, .sl 3 14 (([(Zone.mk ([99, 111, 114, 101] : List UInt8) false [])]).length) 0 (([(Zone.mk ([99, 111, 114, 101] : List UInt8) false [])]).length), .nils, .nils, .nils, .nils, .int .i64 0], .nils, .agg (enc_Expr y27)]) (R := [(12, .row 52 6 0 (List.map enc_Def [(Def.mk ([116, 97, 108, 108] : List UInt8) y3)])), (14, .row 60 3 0 (List.map enc_Zone [(Zone.mk ([99, 111, 114, 101] : List UInt8) false [])]))]) (callV_func hbv16 (by kernel_rfl)) (w_expr_Check [(Def.mk ([116, 97, 108, 108] : List UInt8) y3)] [] [(Zone.mk ([99, 111, 114, 101] : List UInt8) false [])] [] [] [] [] 0 [] y27 _ c28) (.cons (.agg (.cons (.row (t := 52) (fz := 0) (by kernel_rfl) (by first | (simp only [List.length_map, List.length_set, cpyT_length]; done) | rfl)) (.cons (.nils _) (.cons (.row (t := 60) (fz := 0) (by kernel_rfl) (by first | (simp only [List.length_map, List.length_set, cpyT_length]; done) | rfl)) (.cons (.nils _) (.cons (.nils _) (.cons (.nils _) (.cons (.nils _) (.cons (.same _) (.nil)))))))))) (.cons (.nils _) (.cons (.same _) (.nil)))) (by kernel_rfl) (by kernel_rfl) (by kernel_rfl)) ?_
       refine d_runs 3 15 [(87, .bool (decide (y28 = 15))), (86, .bool (decide (y28 = 15))), (85, .bool (decide (y28 = 15)))] (pfp 3 17) (by kernel_rfl) (by kernel_rfl) ?_
       cases h7 : ((decide (y28 = 15)))
       ·replace hs := bif_f h7 hs
        refine d_runs 5 18 [(0, .bool false), (91, .bool false), (90, .no), (89, .no), (88, .no)] (pfp 5 22) (by kernel_rfl) (by kernel_rfl) ?_
        refine d_nil (by kernel_rfl) ?_
        obtain rfl := si hs
        refine nrm_join false rfl ?_
        exact cut_of [0] [] (by kernel_rfl) (by kernel_rfl) (by kernel_rfl)
       ·replace hs := bif_t h7 hs
        obtain ⟨y29, c29, hs⟩ := bind_some hs
        refine d_loc (F := []) (R := []) (F' := []) (v := .agg (enc_Expr y29)) 18 [] [] rfl rfl rfl rfl (by kernel_rfl) (by kernel_rfl) (by kernel_rfl) (by kernel_rfl) (by kernel_rfl) (by kernel_rfl) (by kernel_rfl) (by kernel_rfl) (loc_g (R := []) [.int .i64 15, .nils] [] (callV_func hbv9 (by kernel_rfl)) (w_greenbeltlaw17_op 15 [] _ c29) (.cons (.same _) (.cons (.nils _) (.nil))) (by kernel_rfl) (by kernel_rfl) (by kernel_rfl) (by kernel_rfl) (by kernel_rfl) (by kernel_rfl) (by kernel_rfl) (by kernel_rfl)) ?_
        obtain ⟨y30, c30, hs⟩ := bind_some hs
        refine d_pure (v := .bool y30) 19 rfl rfl rfl rfl (by kernel_rfl) (by kernel_rfl) (loc_gcall0 (callV_func hbv15 (by kernel_rfl)) (w_expr_Right y29 _ c30) (by kernel_rfl)) ?_
        refine d_runs 3 20 [(0, .bool (!y30)), (91, .bool (!y30)), (90, .bool (!y30))] (pfp 3 22) (by kernel_rfl) (by kernel_rfl) ?_
        refine d_nil (by kernel_rfl) ?_
        obtain rfl := si hs
        refine nrm_join (!y30) rfl ?_
        exact cut_of [0] [] (by kernel_rfl) (by kernel_rfl) (by kernel_rfl)
   ·subst hz; clear hs; have hs := hk3; clear hk3
    refine nrm_thenV (v_ret ?_)
    obtain rfl := si hs
    exact fin_ret (by kernel_rfl) (by kernel_rfl) (by kernel_rfl)
theorem w_expr_Eval_2 (p : Plan) (measures : (List Entry)) (zones : (List (List UInt8))) (e : Expr) (r : Int) (hs : s_expr_Eval_2 p measures zones e = some r) : FnA Try.prog 8 [.agg (enc_Plan p), .vs 2 (List.map enc_Entry measures), .vs 1 (List.map EV.encS zones), .agg (enc_Expr e)] [] (.int .i64 r) [] := by
 refine fnA_of_wp (N := 24) Try.func8 rfl rfl rfl fun cK0 => ?_
 unfold s_expr_Eval_2 at hs
 refine v_same (ρ' := [(0, .agg (enc_Plan p)), (1, .vs 2 (List.map enc_Entry measures)), (2, .vs 1 (List.map EV.encS zones)), (3, .agg (enc_Expr e))]) rfl rfl ?_
 refine v_seq (vr_text (o_runh 3 [(8, .int .i64 0), (7, .ptr 7 0 0), (4, .ptr 4 0 0)] [(7, .box 34 [.int .i64 e.Op, .int .i64 e.N, .str e.S, .str e.Key, .vs 5 (encs_Expr e.Args)]), (4, .box 31 [.vs 6 (List.map enc_Def p.Defs), .vs 3 (List.map enc_Table p.Tables), .vs 3 (List.map enc_Zone p.Zones), .vs 20 (List.map enc_Rule p.Rules), .vs 4 (List.map enc_Cap p.Caps), .vs 6 (List.map enc_View p.Views), .vs 3 (List.map enc_Point3 p.Sun), .int .i64 p.Hours])] (by kernel_rfl) ?_))
 refine ov_nil (nrm_thenV (v_seq (v_seq (vr_text (o_runs 1 [(11, .agg (enc_Expr e))] (by kernel_rfl) ?_)))))
 obtain ⟨y1, c1, hs⟩ := bind_some hs
 refine o_pure (v := .bool y1) (by kernel_rfl) (by kernel_rfl) (loc_gcall0 (callV_func hbv15 (by kernel_rfl)) (w_expr_Right e _ c1) (by kernel_rfl)) ?_
 refine o_runs 1 [(13, .bool (!y1))] (by kernel_rfl) ?_
 refine ov_nil (nrm_thenV ?_)
 refine v_cond (!y1) (by kernel_rfl) (fun h1 => ?_) (fun h1 => ?_)
 ·replace hs := bif_t h1 hs
  refine v_seq (vr_text (o_runs 1 [(8, .int .i64 0)] (by kernel_rfl) ?_))
  refine ov_nil (nrm_thenV (v_ret (ret_thenV ?_)))
  obtain rfl := si hs
  exact fin_ret (by kernel_rfl) (by kernel_rfl) (by kernel_rfl)
 ·replace hs := bif_f h1 hs
  refine v_skip (nrm_thenV (v_seq (vr_text (o_runs 3 [(17, .vs 1 (List.map EV.encS zones)), (16, .vs 2 (List.map enc_Entry measures)), (15, .agg (enc_Plan p))] (by kernel_rfl) ?_))))
  obtain ⟨y2, c2, hs⟩ := bind_some hs
  refine o_loc (F := []) (F' := [(3001800, .map (encM V.str (V.int .i64) y2.2.2.2))]) (v := .tup [.agg [.vs 6 (List.map enc_Def y2.1.Defs), .vs 3 (List.map enc_Table y2.1.Tables), .vs 3 (List.map enc_Zone y2.1.Zones), .vs 20 (List.map enc_Rule y2.1.Rules), .vs 4 (List.map enc_Cap y2.1.Caps), .vs 6 (List.map enc_View y2.1.Views), .vs 3 (List.map enc_Point3 y2.1.Sun), .int .i64 y2.1.Hours, .mp 3001800, .vs 1 (List.map EV.encS y2.2.1)], .vs 1 (List.map EV.encI y2.2.2.1)]) [] (by kernel_rfl) (by kernel_rfl) rfl (by kernel_rfl) (loc_g (R := []) [.agg (enc_Plan p), .vs 2 (List.map enc_Entry measures), .vs 1 (List.map EV.encS zones)] [(20, 3001800)] (callV_func hbv17 (by kernel_rfl)) (w_expr_prepare p measures zones _ c2) (.cons (.same _) (.cons (.same _) (.cons (.same _) (.nil)))) (by kernel_rfl) (by kernel_rfl) (by kernel_rfl) (by kernel_rfl) (by kernel_rfl) (by kernel_rfl) (by kernel_rfl) (by kernel_rfl)) (by kernel_rfl) ?_
  refine o_runh 6 [(10, .vs 1 (List.map EV.encI y2.2.2.1)), (9, .ptr 9 0 0), (20, .vs 1 (List.map EV.encI y2.2.2.1)), (19, .agg [.vs 6 (List.map enc_Def y2.1.Defs), .vs 3 (List.map enc_Table y2.1.Tables), .vs 3 (List.map enc_Zone y2.1.Zones), .vs 20 (List.map enc_Rule y2.1.Rules), .vs 4 (List.map enc_Cap y2.1.Caps), .vs 6 (List.map enc_View y2.1.Views), .vs 3 (List.map enc_Point3 y2.1.Sun), .int .i64 y2.1.Hours, .mp 3001800, .vs 1 (List.map EV.encS y2.2.1)]), (14, .tup [.agg [.vs 6 (List.map enc_Def y2.1.Defs), .vs 3 (List.map enc_Table y2.1.Tables), .vs 3 (List.map enc_Zone y2.1.Zones), .vs 20 (List.map enc_Rule y2.1.Rules), .vs 4 (List.map enc_Cap y2.1.Caps), .vs 6 (List.map enc_View y2.1.Views), .vs 3 (List.map enc_Point3 y2.1.Sun), .int .i64 y2.1.Hours, .mp 3001800, .vs 1 (List.map EV.encS y2.2.1)], .vs 1 (List.map EV.encI y2.2.2.1)])] [(9, .box 63 [.vs 6 (List.map enc_Def y2.1.Defs), .vs 3 (List.map enc_Table y2.1.Tables), .vs 3 (List.map enc_Zone y2.1.Zones), .vs 20 (List.map enc_Rule y2.1.Rules), .vs 4 (List.map enc_Cap y2.1.Caps), .vs 6 (List.map enc_View y2.1.Views), .vs 3 (List.map enc_Point3 y2.1.Sun), .int .i64 y2.1.Hours, .mp 3001800, .vs 1 (List.map EV.encS y2.2.1)]), (3001800, .map (encM V.str (V.int .i64) y2.2.2.2)), (7, .box 34 [.int .i64 e.Op, .int .i64 e.N, .str e.S, .str e.Key, .vs 5 (encs_Expr e.Args)]), (4, .box 31 [.vs 6 (List.map enc_Def p.Defs), .vs 3 (List.map enc_Table p.Tables), .vs 3 (List.map enc_Zone p.Zones), .vs 20 (List.map enc_Rule p.Rules), .vs 4 (List.map enc_Cap p.Caps), .vs 6 (List.map enc_View p.Views), .vs 3 (List.map enc_Point3 p.Sun), .int .i64 p.Hours])] (by kernel_rfl) ?_
  refine ov_nil (nrm_thenV (v_seq (vr_text (o_runs 2 [(22, .agg (enc_Expr e)), (21, .agg [.vs 6 (List.map enc_Def y2.1.Defs), .vs 3 (List.map enc_Table y2.1.Tables), .vs 3 (List.map enc_Zone y2.1.Zones), .vs 20 (List.map enc_Rule y2.1.Rules), .vs 4 (List.map enc_Cap y2.1.Caps), .vs 6 (List.map enc_View y2.1.Views), .vs 3 (List.map enc_Point3 y2.1.Sun), .int .i64 y2.1.Hours, .mp 3001800, .vs 1 (List.map EV.encS y2.2.1)])] (by kernel_rfl) ?_))))
  obtain ⟨y3, c3, hs⟩ := bind_some hs
  refine o_loc (F := [(3001800, .map (encM V.str (V.int .i64) y2.2.2.2))]) (F' := [(3001800, .map (encM V.str (V.int .i64) y2.2.2.2))]) (v := .int .i64 y3) [3001800] (by kernel_rfl) (by kernel_rfl) rfl (by kernel_rfl) (loc_g (R := []) [.agg [.vs 6 (List.map enc_Def y2.1.Defs), .vs 3 (List.map enc_Table y2.1.Tables), .vs 3 (List.map enc_Zone y2.1.Zones), .vs 20 (List.map enc_Rule y2.1.Rules), .vs 4 (List.map enc_Cap y2.1.Caps), .vs 6 (List.map enc_View y2.1.Views), .vs 3 (List.map enc_Point3 y2.1.Sun), .int .i64 y2.1.Hours, .mp 3001800, .vs 1 (List.map EV.encS y2.2.1)], .agg (enc_Expr e)] [(1000000, 3001800)] (callV_func hbv18 (by kernel_rfl)) (w_expr_context_value KK y2.1 y2.2.2.2 y2.2.1 e _ c3) (.cons (.same _) (.cons (.same _) (.nil))) (by kernel_rfl) (by kernel_rfl) (by kernel_rfl) (by kernel_rfl) (by kernel_rfl) (by kernel_rfl) (by kernel_rfl) (by kernel_rfl)) (by kernel_rfl) ?_
  refine o_runs 1 [(8, .int .i64 y3)] (by kernel_rfl) ?_
  refine ov_nil (nrm_thenV (v_ret ?_))
  obtain rfl := si hs
  exact fin_ret (by kernel_rfl) (by kernel_rfl) (by kernel_rfl)
theorem w_greenbeltlaw17_ExprComputes (a : Int) (b : Int) (c : Int) (r : Bool) (hs : s_greenbeltlaw17_ExprComputes a b c = some r) : FnA Try.prog 3 [.int .i64 a, .int .i64 b, .int .i64 c] [] (.bool r) [] := by
 refine fnA_of_wp (N := 290) Try.func3 rfl rfl rfl fun cK0 => ?_
 unfold s_greenbeltlaw17_ExprComputes at hs
 refine v_same (ρ' := [(0, .int .i64 a), (1, .int .i64 b), (2, .int .i64 c)]) rfl rfl ?_
 refine v_seq (vr_text (o_runs 1 [(6, .bool false)] (by kernel_rfl) ?_))
 refine ov_nil (nrm_thenV (v_seq (vr_text ?_)))
 obtain ⟨y1, c1, hs⟩ := bind_some hs
 refine o_pure (v := .bool y1) (by kernel_rfl) (by kernel_rfl) (loc_gcall0 (callV_func hbv6 (by kernel_rfl)) (w_greenbeltlaw17_small  _ c1) (by kernel_rfl)) ?_
 refine o_runs 1 [(7, .bool y1)] (by kernel_rfl) ?_
 refine ov_nil (nrm_thenV (v_seq (vr_text (o_runh 3 [(8, .ptr 8 0 0), (25, .agg [.nils, .nils, .nils, .nils, .nils, .nils, .nils, .int .i64 0])] [(8, .box 31 [.nils, .nils, .nils, .nils, .nils, .nils, .nils, .int .i64 0])] (by kernel_rfl) ?_))))
 refine ov_nil (nrm_thenV (v_seq (vr_text (o_runs 1 [(26, .int .i64 a)] (by kernel_rfl) ?_))))
 obtain ⟨y2, c2, hs⟩ := bind_some hs
 refine o_pure (v := .agg (enc_Expr y2)) (by kernel_rfl) (by kernel_rfl) (loc_gcall0 (callV_func hbv7 (by kernel_rfl)) (w_greenbeltlaw17_num a _ c2) (by kernel_rfl)) ?_
 refine o_runh 2 [(9, .ptr 9 0 0)] [(9, .box 34 [.int .i64 y2.Op, .int .i64 y2.N, .str y2.S, .str y2.Key, .vs 5 (encs_Expr y2.Args)]), (8, .box 31 [.nils, .nils, .nils, .nils, .nils, .nils, .nils, .int .i64 0])] (by kernel_rfl) ?_
 refine ov_nil (nrm_thenV (v_seq (vr_text (o_runs 1 [(28, .int .i64 b)] (by kernel_rfl) ?_))))
 obtain ⟨y3, c3, hs⟩ := bind_some hs
 refine o_pure (v := .agg (enc_Expr y3)) (by kernel_rfl) (by kernel_rfl) (loc_gcall0 (callV_func hbv7 (by kernel_rfl)) (w_greenbeltlaw17_num b _ c3) (by kernel_rfl)) ?_
 refine o_runh 2 [(10, .ptr 10 0 0)] [(10, .box 34 [.int .i64 y3.Op, .int .i64 y3.N, .str y3.S, .str y3.Key, .vs 5 (encs_Expr y3.Args)]), (9, .box 34 [.int .i64 y2.Op, .int .i64 y2.N, .str y2.S, .str y2.Key, .vs 5 (encs_Expr y2.Args)]), (8, .box 31 [.nils, .nils, .nils, .nils, .nils, .nils, .nils, .int .i64 0])] (by kernel_rfl) ?_
 refine ov_nil (nrm_thenV (v_seq (v_draw mixedH (by kernel_rfl) ?_)))
 refine d_runs 3 0 [(32, .agg (enc_Expr y3)), (31, .agg (enc_Expr y2)), (30, .agg [.nils, .nils, .nils, .nils, .nils, .nils, .nils, .int .i64 0])] [⟨2, [], [10]⟩, ⟨1, [], [9]⟩, ⟨0, [], [8]⟩] (by kernel_rfl) (by kernel_rfl) ?_
 refine d_loc (F := []) (R := []) (F' := [(33, .row 34 5 0 (encs_Expr [y2, y3]))]) (v := .sl 5 33 2 0 2) 3 [] [] rfl rfl rfl rfl (by kernel_rfl) (by kernel_rfl) (by kernel_rfl) (by kernel_rfl) (by kernel_rfl) (by kernel_rfl) (by kernel_rfl) (by kernel_rfl) (loc_buildSliceW (e := 34) (sz := 5) (els := [[.int .i64 y2.Op, .int .i64 y2.N, .str y2.S, .str y2.Key, .vs 5 (encs_Expr y2.Args)], [.int .i64 y3.Op, .int .i64 y3.N, .str y3.S, .str y3.Key, .vs 5 (encs_Expr y3.Args)]]) (els2 := [[.int .i64 y2.Op, .int .i64 y2.N, .str y2.S, .str y2.Key, .vs 5 (encs_Expr y2.Args)], [.int .i64 y3.Op, .int .i64 y3.N, .str y3.S, .str y3.Key, .vs 5 (encs_Expr y3.Args)]]) (fl := [.int .i64 y2.Op, .int .i64 y2.N, .str y2.S, .str y2.Key, .vs 5 (encs_Expr y2.Args), .int .i64 y3.Op, .int .i64 y3.N, .str y3.S, .str y3.Key, .vs 5 (encs_Expr y3.Args)]) (fl2 := [.int .i64 y2.Op, .int .i64 y2.N, .str y2.S, .str y2.Key, .vs 5 (encs_Expr y2.Args), .int .i64 y3.Op, .int .i64 y3.N, .str y3.S, .str y3.Key, .vs 5 (encs_Expr y3.Args)]) (by kernel_rfl) (by kernel_rfl) (by kernel_rfl) (by kernel_rfl) (by kernel_rfl) (wk_same (wk_same (wk_same (wk_same (wk_same (wk_same (wk_same (wk_same (wk_same (wk_same wk_nil)))))))))) (by kernel_rfl) (by kernel_rfl) (Eq.trans (by kernel_rfl) (encs_Expr_eq _).symm)) ?_
 obtain ⟨y4, c4, hs⟩ := bind_some hs
 refine d_loc (F := [(33, .row 34 5 0 (encs_Expr [y2, y3]))]) (R := []) (F' := [(33, .row 34 5 (((encs_Expr [y2, y3])).length) (encs_Expr [y2, y3]))]) (v := .agg (enc_Expr y4)) 4 [33] [] rfl rfl rfl rfl (by kernel_rfl) (by kernel_rfl) (by kernel_rfl) (by kernel_rfl) (by kernel_rfl) (by kernel_rfl) (by kernel_rfl) (by kernel_rfl) (loc_frz (Fa := []) (R := [(33, .row 34 5 0 (encs_Expr [y2, y3]))]) (F2 := [(33, .row 34 5 (((encs_Expr [y2, y3])).length) (encs_Expr [y2, y3]))]) (F1 := [(33, .row 34 5 (((encs_Expr [y2, y3])).length) (encs_Expr [y2, y3]))]) (by kernel_rfl) (loc_g (R := [(33, .row 34 5 (((encs_Expr [y2, y3])).length) (encs_Expr [y2, y3]))]) [.int .i64 7, .sl 5 33 2 0 2] [] (callV_func hbv9 (by kernel_rfl)) (w_greenbeltlaw17_op 7 [y2, y3] _ c4) (.cons (.same _) (.cons (.row (t := 34) (fz := (((encs_Expr [y2, y3])).length)) (by kernel_rfl) (by first | (simp only [List.length_map, List.length_set, cpyT_length]; done) | rfl)) (.nil))) (by kernel_rfl) (by kernel_rfl) (by kernel_rfl) (by kernel_rfl) (by kernel_rfl) (by kernel_rfl) (by kernel_rfl) (by kernel_rfl))) ?_
 obtain ⟨y5, c5, hs⟩ := bind_some hs
 refine d_loc (F := []) (R := []) (F' := []) (v := .int .i64 y5) 5 [] [] rfl rfl rfl rfl (by kernel_rfl) (by kernel_rfl) (by kernel_rfl) (by kernel_rfl) (by kernel_rfl) (by kernel_rfl) (by kernel_rfl) (by kernel_rfl) (loc_gcallB (vs := [.agg [.nils, .nils, .nils, .nils, .nils, .nils, .nils, .int .i64 0], .nils, .nils, .agg (enc_Expr y4)]) (R := []) (callV_func hbv8 (by kernel_rfl)) (w_expr_Eval_2 (Plan.mk [] [] [] [] [] [] [] 0) [] [] y4 _ c5) (.cons (.agg (.cons (.nils _) (.cons (.nils _) (.cons (.nils _) (.cons (.nils _) (.cons (.nils _) (.cons (.nils _) (.cons (.nils _) (.cons (.same _) (.nil)))))))))) (.cons (.nils _) (.cons (.nils _) (.cons (.same _) (.nil))))) (by kernel_rfl) (by kernel_rfl) (by kernel_rfl)) ?_
 refine d_runs 1 6 [(11, .int .i64 y5)] (pfp 1 6) (by kernel_rfl) (by kernel_rfl) ?_
 refine d_nil (by kernel_rfl) ?_
 refine nrm_thenV (v_seq (v_draw mixedH (by kernel_rfl) ?_))
 refine d_runs 3 0 [(38, .agg (enc_Expr y3)), (37, .agg (enc_Expr y2)), (36, .agg [.nils, .nils, .nils, .nils, .nils, .nils, .nils, .int .i64 0])] [⟨2, [], [10]⟩, ⟨1, [], [9]⟩, ⟨0, [], [8]⟩] (by kernel_rfl) (by kernel_rfl) ?_
 refine d_loc (F := []) (R := []) (F' := [(39, .row 34 5 0 (encs_Expr [y2, y3]))]) (v := .sl 5 39 2 0 2) 3 [] [] rfl rfl rfl rfl (by kernel_rfl) (by kernel_rfl) (by kernel_rfl) (by kernel_rfl) (by kernel_rfl) (by kernel_rfl) (by kernel_rfl) (by kernel_rfl) (loc_buildSliceW (e := 34) (sz := 5) (els := [[.int .i64 y2.Op, .int .i64 y2.N, .str y2.S, .str y2.Key, .vs 5 (encs_Expr y2.Args)], [.int .i64 y3.Op, .int .i64 y3.N, .str y3.S, .str y3.Key, .vs 5 (encs_Expr y3.Args)]]) (els2 := [[.int .i64 y2.Op, .int .i64 y2.N, .str y2.S, .str y2.Key, .vs 5 (encs_Expr y2.Args)], [.int .i64 y3.Op, .int .i64 y3.N, .str y3.S, .str y3.Key, .vs 5 (encs_Expr y3.Args)]]) (fl := [.int .i64 y2.Op, .int .i64 y2.N, .str y2.S, .str y2.Key, .vs 5 (encs_Expr y2.Args), .int .i64 y3.Op, .int .i64 y3.N, .str y3.S, .str y3.Key, .vs 5 (encs_Expr y3.Args)]) (fl2 := [.int .i64 y2.Op, .int .i64 y2.N, .str y2.S, .str y2.Key, .vs 5 (encs_Expr y2.Args), .int .i64 y3.Op, .int .i64 y3.N, .str y3.S, .str y3.Key, .vs 5 (encs_Expr y3.Args)]) (by kernel_rfl) (by kernel_rfl) (by kernel_rfl) (by kernel_rfl) (by kernel_rfl) (wk_same (wk_same (wk_same (wk_same (wk_same (wk_same (wk_same (wk_same (wk_same (wk_same wk_nil)))))))))) (by kernel_rfl) (by kernel_rfl) (Eq.trans (by kernel_rfl) (encs_Expr_eq _).symm)) ?_
 obtain ⟨y6, c6, hs⟩ := bind_some hs
 refine d_loc (F := [(39, .row 34 5 0 (encs_Expr [y2, y3]))]) (R := []) (F' := [(39, .row 34 5 (((encs_Expr [y2, y3])).length) (encs_Expr [y2, y3]))]) (v := .agg (enc_Expr y6)) 4 [39] [] rfl rfl rfl rfl (by kernel_rfl) (by kernel_rfl) (by kernel_rfl) (by kernel_rfl) (by kernel_rfl) (by kernel_rfl) (by kernel_rfl) (by kernel_rfl) (loc_frz (Fa := []) (R := [(39, .row 34 5 0 (encs_Expr [y2, y3]))]) (F2 := [(39, .row 34 5 (((encs_Expr [y2, y3])).length) (encs_Expr [y2, y3]))]) (F1 := [(39, .row 34 5 (((encs_Expr [y2, y3])).length) (encs_Expr [y2, y3]))]) (by kernel_rfl) (loc_g (R := [(39, .row 34 5 (((encs_Expr [y2, y3])).length) (encs_Expr [y2, y3]))]) [.int .i64 8, .sl 5 39 2 0 2] [] (callV_func hbv9 (by kernel_rfl)) (w_greenbeltlaw17_op 8 [y2, y3] _ c6) (.cons (.same _) (.cons (.row (t := 34) (fz := (((encs_Expr [y2, y3])).length)) (by kernel_rfl) (by first | (simp only [List.length_map, List.length_set, cpyT_length]; done) | rfl)) (.nil))) (by kernel_rfl) (by kernel_rfl) (by kernel_rfl) (by kernel_rfl) (by kernel_rfl) (by kernel_rfl) (by kernel_rfl) (by kernel_rfl))) ?_
 obtain ⟨y7, c7, hs⟩ := bind_some hs
 refine d_loc (F := []) (R := []) (F' := []) (v := .int .i64 y7) 5 [] [] rfl rfl rfl rfl (by kernel_rfl) (by kernel_rfl) (by kernel_rfl) (by kernel_rfl) (by kernel_rfl) (by kernel_rfl) (by kernel_rfl) (by kernel_rfl) (loc_gcallB (vs := [.agg [.nils, .nils, .nils, .nils, .nils, .nils, .nils, .int .i64 0], .nils, .nils, .agg (enc_Expr y6)]) (R := []) (callV_func hbv8 (by kernel_rfl)) (w_expr_Eval_2 (Plan.mk [] [] [] [] [] [] [] 0) [] [] y6 _ c7) (.cons (.agg (.cons (.nils _) (.cons (.nils _) (.cons (.nils _) (.cons (.nils _) (.cons (.nils _) (.cons (.nils _) (.cons (.nils _) (.cons (.same _) (.nil)))))))))) (.cons (.nils _) (.cons (.nils _) (.cons (.same _) (.nil))))) (by kernel_rfl) (by kernel_rfl) (by kernel_rfl)) ?_
 refine d_runs 1 6 [(12, .int .i64 y7)] (pfp 1 6) (by kernel_rfl) (by kernel_rfl) ?_
 refine d_nil (by kernel_rfl) ?_
 refine nrm_thenV (v_seq (v_seq ?_))
 obtain ⟨z1, hs, hk1⟩ := bind_some hs
 refine v_join (S := Bool) (fun u => u = z1) (fun u => [(0, .int .i64 a), (1, .int .i64 b), (2, .int .i64 c), (7, .bool y1), (8, .ptr 8 0 0), (9, .ptr 9 0 0), (10, .ptr 10 0 0), (11, .int .i64 y5), (12, .int .i64 y7), (51, .bool u)]) (fun u => [(10, .box 34 [.int .i64 y3.Op, .int .i64 y3.N, .str y3.S, .str y3.Key, .vs 5 (encs_Expr y3.Args)]), (9, .box 34 [.int .i64 y2.Op, .int .i64 y2.N, .str y2.S, .str y2.Key, .vs 5 (encs_Expr y2.Args)]), (8, .box 31 [.nils, .nils, .nils, .nils, .nils, .nils, .nils, .int .i64 0])]) ?_ (fun v1 hz => ?_)
 ·refine vr_text (o_runs 3 [(44, .bool (decide (b = 0))), (43, .bool (decide (b = 0))), (42, .int .i64 b)] (by kernel_rfl) ?_)
  cases h1 : ((decide (b = 0)))
  ·replace hs := bif_f h1 hs
   refine o_runs 7 [(51, .bool false), (50, .no), (49, .no), (48, .no), (47, .no), (46, .no), (45, .no)] (by kernel_rfl) ?_
   refine ov_nil ?_
   obtain rfl := si hs
   refine nrm_join false rfl ?_
   exact cut_of [0, 1, 2, 7, 8, 9, 10, 11, 12, 51] [10, 9, 8] (by kernel_rfl) (by kernel_rfl) (by kernel_rfl)
  ·replace hs := bif_t h1 hs
   refine o_runs 3 [(47, .bool (!(decide (y5 = 0)))), (46, .bool (!(decide (y5 = 0)))), (45, .int .i64 y5)] (by kernel_rfl) ?_
   cases h2 : ((!(decide (y5 = 0))))
   ·replace hs := bif_f h2 hs
    refine o_runs 4 [(51, .bool (!(decide (y7 = 0)))), (50, .bool (!(decide (y7 = 0)))), (49, .bool (!(decide (y7 = 0)))), (48, .int .i64 y7)] (by kernel_rfl) ?_
    refine ov_nil ?_
    obtain rfl := si hs
    refine nrm_join (!(decide (y7 = 0))) rfl ?_
    exact cut_of [0, 1, 2, 7, 8, 9, 10, 11, 12, 51] [10, 9, 8] (by kernel_rfl) (by kernel_rfl) (by kernel_rfl)
   ·replace hs := bif_t h2 hs
    refine o_runs 4 [(51, .bool true), (50, .bool true), (49, .no), (48, .no)] (by kernel_rfl) ?_
    refine ov_nil ?_
    obtain rfl := si hs
    refine nrm_join true rfl ?_
    exact cut_of [0, 1, 2, 7, 8, 9, 10, 11, 12, 51] [10, 9, 8] (by kernel_rfl) (by kernel_rfl) (by kernel_rfl)
 ·subst hz; clear hs; have hs := hk1; clear hk1
  refine nrm_thenV ?_
  refine v_cond v1 (by kernel_rfl) (fun h3 => ?_) (fun h3 => ?_)
  ·replace hs := bif_t h3 hs
   refine v_seq (vr_text (o_runs 1 [(6, .bool false)] (by kernel_rfl) ?_))
   refine ov_nil (nrm_thenV (v_ret (ret_thenV ?_)))
   obtain rfl := si hs
   exact fin_ret (by kernel_rfl) (by kernel_rfl) (by kernel_rfl)
  ·replace hs := bif_f h3 hs
   refine v_skip (nrm_thenV (v_seq (v_seq ?_)))
   obtain ⟨z2, hs, hk2⟩ := bind_some hs
   refine v_join (S := Bool) (fun u => u = z2) (fun u => [(0, .int .i64 a), (1, .int .i64 b), (2, .int .i64 c), (7, .bool y1), (8, .ptr 8 0 0), (9, .ptr 9 0 0), (10, .ptr 10 0 0), (91, .bool u)]) (fun u => [(10, .box 34 [.int .i64 y3.Op, .int .i64 y3.N, .str y3.S, .str y3.Key, .vs 5 (encs_Expr y3.Args)]), (9, .box 34 [.int .i64 y2.Op, .int .i64 y2.N, .str y2.S, .str y2.Key, .vs 5 (encs_Expr y2.Args)]), (8, .box 31 [.nils, .nils, .nils, .nils, .nils, .nils, .nils, .int .i64 0])]) ?_ (fun v2 hz => ?_)
   ·refine vr_text (o_runs 3 [(54, .bool (!(decide (b = 0)))), (53, .bool (!(decide (b = 0)))), (52, .int .i64 b)] (by kernel_rfl) ?_)
    cases h4 : ((!(decide (b = 0))))
    ·replace hs := bif_f h4 hs
     refine o_runs 37 [(91, .bool false), (90, .no), (89, .no), (88, .no), (87, .no), (86, .no), (85, .no), (84, .no), (83, .no), (82, .no), (81, .no), (80, .no), (79, .no), (78, .no), (77, .no), (76, .no), (75, .no), (74, .no), (73, .no), (72, .no), (71, .no), (70, .no), (69, .no), (68, .no), (67, .no), (66, .no), (65, .no), (64, .no), (63, .no), (62, .no), (61, .no), (60, .no), (59, .no), (58, .no), (57, .no), (56, .no), (55, .no)] (by kernel_rfl) ?_
     refine ov_nil ?_
     obtain rfl := si hs
     refine nrm_join false rfl ?_
     exact cut_of [0, 1, 2, 7, 8, 9, 10, 91] [10, 9, 8] (by kernel_rfl) (by kernel_rfl) (by kernel_rfl)
    ·replace hs := bif_t h4 hs
     refine o_runs 8 [(62, .bool (!(decide ((w64 ((w64 (b * y5)) + y7)) = a)))), (61, .bool (!(decide ((w64 ((w64 (b * y5)) + y7)) = a)))), (60, .int .i64 a), (59, .int .i64 (w64 ((w64 (b * y5)) + y7))), (58, .int .i64 y7), (57, .int .i64 (w64 (b * y5))), (56, .int .i64 y5), (55, .int .i64 b)] (by kernel_rfl) ?_
     cases h5 : ((!(decide ((w64 ((w64 (b * y5)) + y7)) = a))))
     ·replace hs := bif_f h5 hs
      refine o_runs 3 [(65, .bool (!(decide (y7 = 0)))), (64, .bool (!(decide (y7 = 0)))), (63, .int .i64 y7)] (by kernel_rfl) ?_
      cases h6 : ((!(decide (y7 = 0))))
      ·replace hs := bif_f h6 hs
       refine o_runs 11 [(76, .bool (decide (b > 0))), (75, .bool (decide (b > 0))), (74, .int .i64 b), (73, .bool false), (72, .bool false), (71, .bool false), (70, .no), (69, .no), (68, .no), (67, .no), (66, .no)] (by kernel_rfl) ?_
       cases h7 : ((decide (b > 0)))
       ·replace hs := bif_f h7 hs
        refine o_runs 9 [(85, .bool (decide (b < 0))), (84, .bool (decide (b < 0))), (83, .int .i64 b), (82, .bool false), (81, .bool false), (80, .bool false), (79, .no), (78, .no), (77, .no)] (by kernel_rfl) ?_
        cases h8 : ((decide (b < 0)))
        ·replace hs := bif_f h8 hs
         refine o_runs 6 [(91, .bool false), (90, .bool false), (89, .bool false), (88, .no), (87, .no), (86, .no)] (by kernel_rfl) ?_
         refine ov_nil ?_
         obtain rfl := si hs
         refine nrm_join false rfl ?_
         exact cut_of [0, 1, 2, 7, 8, 9, 10, 91] [10, 9, 8] (by kernel_rfl) (by kernel_rfl) (by kernel_rfl)
        ·replace hs := bif_t h8 hs
         refine o_runs 6 [(91, .bool (decide (y7 ≤ b))), (90, .bool (decide (y7 ≤ b))), (89, .bool (decide (y7 ≤ b))), (88, .bool (decide (y7 ≤ b))), (87, .int .i64 b), (86, .int .i64 y7)] (by kernel_rfl) ?_
         refine ov_nil ?_
         obtain rfl := si hs
         refine nrm_join (decide (y7 ≤ b)) rfl ?_
         exact cut_of [0, 1, 2, 7, 8, 9, 10, 91] [10, 9, 8] (by kernel_rfl) (by kernel_rfl) (by kernel_rfl)
       ·replace hs := bif_t h7 hs
        refine o_runs 6 [(82, .bool (decide (y7 ≥ b))), (81, .bool (decide (y7 ≥ b))), (80, .bool (decide (y7 ≥ b))), (79, .bool (decide (y7 ≥ b))), (78, .int .i64 b), (77, .int .i64 y7)] (by kernel_rfl) ?_
        cases h9 : ((decide (y7 ≥ b)))
        ·replace hs := bif_f h9 hs
         refine o_runs 3 [(85, .bool (decide (b < 0))), (84, .bool (decide (b < 0))), (83, .int .i64 b)] (by kernel_rfl) ?_
         cases h10 : ((decide (b < 0)))
         ·replace hs := bif_f h10 hs
          refine o_runs 6 [(91, .bool false), (90, .bool false), (89, .bool false), (88, .no), (87, .no), (86, .no)] (by kernel_rfl) ?_
          refine ov_nil ?_
          obtain rfl := si hs
          refine nrm_join false rfl ?_
          exact cut_of [0, 1, 2, 7, 8, 9, 10, 91] [10, 9, 8] (by kernel_rfl) (by kernel_rfl) (by kernel_rfl)
         ·replace hs := bif_t h10 hs
          refine o_runs 6 [(91, .bool (decide (y7 ≤ b))), (90, .bool (decide (y7 ≤ b))), (89, .bool (decide (y7 ≤ b))), (88, .bool (decide (y7 ≤ b))), (87, .int .i64 b), (86, .int .i64 y7)] (by kernel_rfl) ?_
          refine ov_nil ?_
          obtain rfl := si hs
          refine nrm_join (decide (y7 ≤ b)) rfl ?_
          exact cut_of [0, 1, 2, 7, 8, 9, 10, 91] [10, 9, 8] (by kernel_rfl) (by kernel_rfl) (by kernel_rfl)
        ·replace hs := bif_t h9 hs
         refine o_runs 9 [(91, .bool true), (90, .bool true), (89, .no), (88, .no), (87, .no), (86, .no), (85, .no), (84, .no), (83, .no)] (by kernel_rfl) ?_
         refine ov_nil ?_
         obtain rfl := si hs
         refine nrm_join true rfl ?_
         exact cut_of [0, 1, 2, 7, 8, 9, 10, 91] [10, 9, 8] (by kernel_rfl) (by kernel_rfl) (by kernel_rfl)
      ·replace hs := bif_t h6 hs
       refine o_runs 8 [(73, .bool (!((decide (y7 < 0)) == (decide (b < 0))))), (72, .bool (!((decide (y7 < 0)) == (decide (b < 0))))), (71, .bool (!((decide (y7 < 0)) == (decide (b < 0))))), (70, .bool (!((decide (y7 < 0)) == (decide (b < 0))))), (69, .bool (decide (b < 0))), (68, .int .i64 b), (67, .bool (decide (y7 < 0))), (66, .int .i64 y7)] (by kernel_rfl) ?_
       cases h11 : ((!((decide (y7 < 0)) == (decide (b < 0)))))
       ·replace hs := bif_f h11 hs
        refine o_runs 3 [(76, .bool (decide (b > 0))), (75, .bool (decide (b > 0))), (74, .int .i64 b)] (by kernel_rfl) ?_
        cases h12 : ((decide (b > 0)))
        ·replace hs := bif_f h12 hs
         refine o_runs 9 [(85, .bool (decide (b < 0))), (84, .bool (decide (b < 0))), (83, .int .i64 b), (82, .bool false), (81, .bool false), (80, .bool false), (79, .no), (78, .no), (77, .no)] (by kernel_rfl) ?_
         cases h13 : ((decide (b < 0)))
         ·replace hs := bif_f h13 hs
          refine o_runs 6 [(91, .bool false), (90, .bool false), (89, .bool false), (88, .no), (87, .no), (86, .no)] (by kernel_rfl) ?_
          refine ov_nil ?_
          obtain rfl := si hs
          refine nrm_join false rfl ?_
          exact cut_of [0, 1, 2, 7, 8, 9, 10, 91] [10, 9, 8] (by kernel_rfl) (by kernel_rfl) (by kernel_rfl)
         ·replace hs := bif_t h13 hs
          refine o_runs 6 [(91, .bool (decide (y7 ≤ b))), (90, .bool (decide (y7 ≤ b))), (89, .bool (decide (y7 ≤ b))), (88, .bool (decide (y7 ≤ b))), (87, .int .i64 b), (86, .int .i64 y7)] (by kernel_rfl) ?_
          refine ov_nil ?_
          obtain rfl := si hs
          refine nrm_join (decide (y7 ≤ b)) rfl ?_
          exact cut_of [0, 1, 2, 7, 8, 9, 10, 91] [10, 9, 8] (by kernel_rfl) (by kernel_rfl) (by kernel_rfl)
        ·replace hs := bif_t h12 hs
         refine o_runs 6 [(82, .bool (decide (y7 ≥ b))), (81, .bool (decide (y7 ≥ b))), (80, .bool (decide (y7 ≥ b))), (79, .bool (decide (y7 ≥ b))), (78, .int .i64 b), (77, .int .i64 y7)] (by kernel_rfl) ?_
         cases h14 : ((decide (y7 ≥ b)))
         ·replace hs := bif_f h14 hs
          refine o_runs 3 [(85, .bool (decide (b < 0))), (84, .bool (decide (b < 0))), (83, .int .i64 b)] (by kernel_rfl) ?_
          cases h15 : ((decide (b < 0)))
          ·replace hs := bif_f h15 hs
           refine o_runs 6 [(91, .bool false), (90, .bool false), (89, .bool false), (88, .no), (87, .no), (86, .no)] (by kernel_rfl) ?_
           refine ov_nil ?_
           obtain rfl := si hs
           refine nrm_join false rfl ?_
           exact cut_of [0, 1, 2, 7, 8, 9, 10, 91] [10, 9, 8] (by kernel_rfl) (by kernel_rfl) (by kernel_rfl)
          ·replace hs := bif_t h15 hs
           refine o_runs 6 [(91, .bool (decide (y7 ≤ b))), (90, .bool (decide (y7 ≤ b))), (89, .bool (decide (y7 ≤ b))), (88, .bool (decide (y7 ≤ b))), (87, .int .i64 b), (86, .int .i64 y7)] (by kernel_rfl) ?_
           refine ov_nil ?_
           obtain rfl := si hs
           refine nrm_join (decide (y7 ≤ b)) rfl ?_
           exact cut_of [0, 1, 2, 7, 8, 9, 10, 91] [10, 9, 8] (by kernel_rfl) (by kernel_rfl) (by kernel_rfl)
         ·replace hs := bif_t h14 hs
          refine o_runs 9 [(91, .bool true), (90, .bool true), (89, .no), (88, .no), (87, .no), (86, .no), (85, .no), (84, .no), (83, .no)] (by kernel_rfl) ?_
          refine ov_nil ?_
          obtain rfl := si hs
          refine nrm_join true rfl ?_
          exact cut_of [0, 1, 2, 7, 8, 9, 10, 91] [10, 9, 8] (by kernel_rfl) (by kernel_rfl) (by kernel_rfl)
       ·replace hs := bif_t h11 hs
        refine o_runs 18 [(91, .bool true), (90, .bool true), (89, .no), (88, .no), (87, .no), (86, .no), (85, .no), (84, .no), (83, .no), (82, .bool true), (81, .bool true), (80, .no), (79, .no), (78, .no), (77, .no), (76, .no), (75, .no), (74, .no)] (by kernel_rfl) ?_
        refine ov_nil ?_
        obtain rfl := si hs
        refine nrm_join true rfl ?_
        exact cut_of [0, 1, 2, 7, 8, 9, 10, 91] [10, 9, 8] (by kernel_rfl) (by kernel_rfl) (by kernel_rfl)
     ·replace hs := bif_t h5 hs
      refine o_runs 29 [(91, .bool true), (90, .bool true), (89, .no), (88, .no), (87, .no), (86, .no), (85, .no), (84, .no), (83, .no), (82, .bool true), (81, .bool true), (80, .no), (79, .no), (78, .no), (77, .no), (76, .no), (75, .no), (74, .no), (73, .bool true), (72, .bool true), (71, .no), (70, .no), (69, .no), (68, .no), (67, .no), (66, .no), (65, .no), (64, .no), (63, .no)] (by kernel_rfl) ?_
      refine ov_nil ?_
      obtain rfl := si hs
      refine nrm_join true rfl ?_
      exact cut_of [0, 1, 2, 7, 8, 9, 10, 91] [10, 9, 8] (by kernel_rfl) (by kernel_rfl) (by kernel_rfl)
   ·subst hz; clear hs; have hs := hk2; clear hk2
    refine nrm_thenV ?_
    refine v_cond v2 (by kernel_rfl) (fun h16 => ?_) (fun h16 => ?_)
    ·replace hs := bif_t h16 hs
     refine v_seq (vr_text (o_runs 1 [(6, .bool false)] (by kernel_rfl) ?_))
     refine ov_nil (nrm_thenV (v_ret (ret_thenV ?_)))
     obtain rfl := si hs
     exact fin_ret (by kernel_rfl) (by kernel_rfl) (by kernel_rfl)
    ·replace hs := bif_f h16 hs
     refine v_skip (nrm_thenV (v_seq ?_))
     obtain ⟨z3, hs, hk3⟩ := bind_some hs
     refine v_join (S := Bool) (fun u => u = z3) (fun u => [(0, .int .i64 a), (1, .int .i64 b), (2, .int .i64 c), (7, .bool y1), (8, .ptr 8 0 0), (9, .ptr 9 0 0), (10, .ptr 10 0 0), (13, .bool u)]) (fun u => [(10, .box 34 [.int .i64 y3.Op, .int .i64 y3.N, .str y3.S, .str y3.Key, .vs 5 (encs_Expr y3.Args)]), (9, .box 34 [.int .i64 y2.Op, .int .i64 y2.N, .str y2.S, .str y2.Key, .vs 5 (encs_Expr y2.Args)]), (8, .box 31 [.nils, .nils, .nils, .nils, .nils, .nils, .nils, .int .i64 0])]) ?_ (fun v3 hz => ?_)
     ·refine v_draw mixedH (by kernel_rfl) ?_
      refine d_runs 3 0 [(94, .agg (enc_Expr y3)), (93, .agg (enc_Expr y2)), (92, .agg [.nils, .nils, .nils, .nils, .nils, .nils, .nils, .int .i64 0])] [⟨2, [], [10]⟩, ⟨1, [], [9]⟩, ⟨0, [], [8]⟩] (by kernel_rfl) (by kernel_rfl) ?_
      refine d_loc (F := []) (R := []) (F' := [(95, .row 34 5 0 (encs_Expr [y2, y3]))]) (v := .sl 5 95 2 0 2) 3 [] [] rfl rfl rfl rfl (by kernel_rfl) (by kernel_rfl) (by kernel_rfl) (by kernel_rfl) (by kernel_rfl) (by kernel_rfl) (by kernel_rfl) (by kernel_rfl) (loc_buildSliceW (e := 34) (sz := 5) (els := [[.int .i64 y2.Op, .int .i64 y2.N, .str y2.S, .str y2.Key, .vs 5 (encs_Expr y2.Args)], [.int .i64 y3.Op, .int .i64 y3.N, .str y3.S, .str y3.Key, .vs 5 (encs_Expr y3.Args)]]) (els2 := [[.int .i64 y2.Op, .int .i64 y2.N, .str y2.S, .str y2.Key, .vs 5 (encs_Expr y2.Args)], [.int .i64 y3.Op, .int .i64 y3.N, .str y3.S, .str y3.Key, .vs 5 (encs_Expr y3.Args)]]) (fl := [.int .i64 y2.Op, .int .i64 y2.N, .str y2.S, .str y2.Key, .vs 5 (encs_Expr y2.Args), .int .i64 y3.Op, .int .i64 y3.N, .str y3.S, .str y3.Key, .vs 5 (encs_Expr y3.Args)]) (fl2 := [.int .i64 y2.Op, .int .i64 y2.N, .str y2.S, .str y2.Key, .vs 5 (encs_Expr y2.Args), .int .i64 y3.Op, .int .i64 y3.N, .str y3.S, .str y3.Key, .vs 5 (encs_Expr y3.Args)]) (by kernel_rfl) (by kernel_rfl) (by kernel_rfl) (by kernel_rfl) (by kernel_rfl) (wk_same (wk_same (wk_same (wk_same (wk_same (wk_same (wk_same (wk_same (wk_same (wk_same wk_nil)))))))))) (by kernel_rfl) (by kernel_rfl) (Eq.trans (by kernel_rfl) (encs_Expr_eq _).symm)) ?_
      obtain ⟨y8, c8, hs⟩ := bind_some hs
      refine d_loc (F := [(95, .row 34 5 0 (encs_Expr [y2, y3]))]) (R := []) (F' := [(95, .row 34 5 (((encs_Expr [y2, y3])).length) (encs_Expr [y2, y3]))]) (v := .agg (enc_Expr y8)) 4 [95] [] rfl rfl rfl rfl (by kernel_rfl) (by kernel_rfl) (by kernel_rfl) (by kernel_rfl) (by kernel_rfl) (by kernel_rfl) (by kernel_rfl) (by kernel_rfl) (loc_frz (Fa := []) (R := [(95, .row 34 5 0 (encs_Expr [y2, y3]))]) (F2 := [(95, .row 34 5 (((encs_Expr [y2, y3])).length) (encs_Expr [y2, y3]))]) (F1 := [(95, .row 34 5 (((encs_Expr [y2, y3])).length) (encs_Expr [y2, y3]))]) (by kernel_rfl) (loc_g (R := [(95, .row 34 5 (((encs_Expr [y2, y3])).length) (encs_Expr [y2, y3]))]) [.int .i64 4, .sl 5 95 2 0 2] [] (callV_func hbv9 (by kernel_rfl)) (w_greenbeltlaw17_op 4 [y2, y3] _ c8) (.cons (.same _) (.cons (.row (t := 34) (fz := (((encs_Expr [y2, y3])).length)) (by kernel_rfl) (by first | (simp only [List.length_map, List.length_set, cpyT_length]; done) | rfl)) (.nil))) (by kernel_rfl) (by kernel_rfl) (by kernel_rfl) (by kernel_rfl) (by kernel_rfl) (by kernel_rfl) (by kernel_rfl) (by kernel_rfl))) ?_
      obtain ⟨y9, c9, hs⟩ := bind_some hs
      refine d_loc (F := []) (R := []) (F' := []) (v := .int .i64 y9) 5 [] [] rfl rfl rfl rfl (by kernel_rfl) (by kernel_rfl) (by kernel_rfl) (by kernel_rfl) (by kernel_rfl) (by kernel_rfl) (by kernel_rfl) (by kernel_rfl) (loc_gcallB (vs := [.agg [.nils, .nils, .nils, .nils, .nils, .nils, .nils, .int .i64 0], .nils, .nils, .agg (enc_Expr y8)]) (R := []) (callV_func hbv8 (by kernel_rfl)) (w_expr_Eval_2 (Plan.mk [] [] [] [] [] [] [] 0) [] [] y8 _ c9) (.cons (.agg (.cons (.nils _) (.cons (.nils _) (.cons (.nils _) (.cons (.nils _) (.cons (.nils _) (.cons (.nils _) (.cons (.nils _) (.cons (.same _) (.nil)))))))))) (.cons (.nils _) (.cons (.nils _) (.cons (.same _) (.nil))))) (by kernel_rfl) (by kernel_rfl) (by kernel_rfl)) ?_
      refine d_runs 5 6 [(102, .bool (decide (y9 = (w64 (a + b))))), (101, .bool (decide (y9 = (w64 (a + b))))), (100, .int .i64 (w64 (a + b))), (99, .int .i64 b), (98, .int .i64 a)] (pfp 5 10) (by kernel_rfl) (by kernel_rfl) ?_
      cases h17 : ((decide (y9 = (w64 (a + b)))))
      ·replace hs := bif_f h17 hs
       refine d_runs 34 11 [(13, .bool false), (135, .bool false), (134, .no), (133, .no), (132, .no), (131, .no), (130, .no), (129, .no), (128, .no), (127, .no), (126, .bool false), (125, .bool false), (124, .no), (123, .no), (122, .no), (121, .no), (120, .no), (119, .no), (118, .no), (117, .no), (116, .no), (115, .no), (114, .bool false), (113, .bool false), (112, .no), (111, .no), (110, .no), (109, .no), (108, .no), (107, .no), (106, .no), (105, .no), (104, .no), (103, .no)] (pfp 34 44) (by kernel_rfl) (by kernel_rfl) ?_
       refine d_nil (by kernel_rfl) ?_
       obtain rfl := si hs
       refine nrm_join false rfl ?_
       exact cut_of [0, 1, 2, 7, 8, 9, 10, 13] [10, 9, 8] (by kernel_rfl) (by kernel_rfl) (by kernel_rfl)
      ·replace hs := bif_t h17 hs
       refine d_runs 3 11 [(105, .agg (enc_Expr y3)), (104, .agg (enc_Expr y2)), (103, .agg [.nils, .nils, .nils, .nils, .nils, .nils, .nils, .int .i64 0])] [⟨13, [], [10]⟩, ⟨12, [], [9]⟩, ⟨11, [], [8]⟩] (by kernel_rfl) (by kernel_rfl) ?_
       refine d_loc (F := []) (R := []) (F' := [(106, .row 34 5 0 (encs_Expr [y2, y3]))]) (v := .sl 5 106 2 0 2) 14 [] [] rfl rfl rfl rfl (by kernel_rfl) (by kernel_rfl) (by kernel_rfl) (by kernel_rfl) (by kernel_rfl) (by kernel_rfl) (by kernel_rfl) (by kernel_rfl) (loc_buildSliceW (e := 34) (sz := 5) (els := [[.int .i64 y2.Op, .int .i64 y2.N, .str y2.S, .str y2.Key, .vs 5 (encs_Expr y2.Args)], [.int .i64 y3.Op, .int .i64 y3.N, .str y3.S, .str y3.Key, .vs 5 (encs_Expr y3.Args)]]) (els2 := [[.int .i64 y2.Op, .int .i64 y2.N, .str y2.S, .str y2.Key, .vs 5 (encs_Expr y2.Args)], [.int .i64 y3.Op, .int .i64 y3.N, .str y3.S, .str y3.Key, .vs 5 (encs_Expr y3.Args)]]) (fl := [.int .i64 y2.Op, .int .i64 y2.N, .str y2.S, .str y2.Key, .vs 5 (encs_Expr y2.Args), .int .i64 y3.Op, .int .i64 y3.N, .str y3.S, .str y3.Key, .vs 5 (encs_Expr y3.Args)]) (fl2 := [.int .i64 y2.Op, .int .i64 y2.N, .str y2.S, .str y2.Key, .vs 5 (encs_Expr y2.Args), .int .i64 y3.Op, .int .i64 y3.N, .str y3.S, .str y3.Key, .vs 5 (encs_Expr y3.Args)]) (by kernel_rfl) (by kernel_rfl) (by kernel_rfl) (by kernel_rfl) (by kernel_rfl) (wk_same (wk_same (wk_same (wk_same (wk_same (wk_same (wk_same (wk_same (wk_same (wk_same wk_nil)))))))))) (by kernel_rfl) (by kernel_rfl) (Eq.trans (by kernel_rfl) (encs_Expr_eq _).symm)) ?_
       obtain ⟨y10, c10, hs⟩ := bind_some hs
       refine d_loc (F := [(106, .row 34 5 0 (encs_Expr [y2, y3]))]) (R := []) (F' := [(106, .row 34 5 (((encs_Expr [y2, y3])).length) (encs_Expr [y2, y3]))]) (v := .agg (enc_Expr y10)) 15 [106] [] rfl rfl rfl rfl (by kernel_rfl) (by kernel_rfl) (by kernel_rfl) (by kernel_rfl) (by kernel_rfl) (by kernel_rfl) (by kernel_rfl) (by kernel_rfl) (loc_frz (Fa := []) (R := [(106, .row 34 5 0 (encs_Expr [y2, y3]))]) (F2 := [(106, .row 34 5 (((encs_Expr [y2, y3])).length) (encs_Expr [y2, y3]))]) (F1 := [(106, .row 34 5 (((encs_Expr [y2, y3])).length) (encs_Expr [y2, y3]))]) (by kernel_rfl) (loc_g (R := [(106, .row 34 5 (((encs_Expr [y2, y3])).length) (encs_Expr [y2, y3]))]) [.int .i64 5, .sl 5 106 2 0 2] [] (callV_func hbv9 (by kernel_rfl)) (w_greenbeltlaw17_op 5 [y2, y3] _ c10) (.cons (.same _) (.cons (.row (t := 34) (fz := (((encs_Expr [y2, y3])).length)) (by kernel_rfl) (by first | (simp only [List.length_map, List.length_set, cpyT_length]; done) | rfl)) (.nil))) (by kernel_rfl) (by kernel_rfl) (by kernel_rfl) (by kernel_rfl) (by kernel_rfl) (by kernel_rfl) (by kernel_rfl) (by kernel_rfl))) ?_
       obtain ⟨y11, c11, hs⟩ := bind_some hs
       refine d_loc (F := []) (R := []) (F' := []) (v := .int .i64 y11) 16 [] [] rfl rfl rfl rfl (by kernel_rfl) (by kernel_rfl) (by kernel_rfl) (by kernel_rfl) (by kernel_rfl) (by kernel_rfl) (by kernel_rfl) (by kernel_rfl) (loc_gcallB (vs := [.agg [.nils, .nils, .nils, .nils, .nils, .nils, .nils, .int .i64 0], .nils, .nils, .agg (enc_Expr y10)]) (R := []) (callV_func hbv8 (by kernel_rfl)) (w_expr_Eval_2 (Plan.mk [] [] [] [] [] [] [] 0) [] [] y10 _ c11) (.cons (.agg (.cons (.nils _) (.cons (.nils _) (.cons (.nils _) (.cons (.nils _) (.cons (.nils _) (.cons (.nils _) (.cons (.nils _) (.cons (.same _) (.nil)))))))))) (.cons (.nils _) (.cons (.nils _) (.cons (.same _) (.nil))))) (by kernel_rfl) (by kernel_rfl) (by kernel_rfl)) ?_
       refine d_runs 6 17 [(114, .bool (decide (y11 = (w64 (a - b))))), (113, .bool (decide (y11 = (w64 (a - b))))), (112, .bool (decide (y11 = (w64 (a - b))))), (111, .int .i64 (w64 (a - b))), (110, .int .i64 b), (109, .int .i64 a)] (pfp 6 22) (by kernel_rfl) (by kernel_rfl) ?_
       cases h18 : ((decide (y11 = (w64 (a - b)))))
       ·replace hs := bif_f h18 hs
        refine d_runs 22 23 [(13, .bool false), (135, .bool false), (134, .no), (133, .no), (132, .no), (131, .no), (130, .no), (129, .no), (128, .no), (127, .no), (126, .bool false), (125, .bool false), (124, .no), (123, .no), (122, .no), (121, .no), (120, .no), (119, .no), (118, .no), (117, .no), (116, .no), (115, .no)] (pfp 22 44) (by kernel_rfl) (by kernel_rfl) ?_
        refine d_nil (by kernel_rfl) ?_
        obtain rfl := si hs
        refine nrm_join false rfl ?_
        exact cut_of [0, 1, 2, 7, 8, 9, 10, 13] [10, 9, 8] (by kernel_rfl) (by kernel_rfl) (by kernel_rfl)
       ·replace hs := bif_t h18 hs
        refine d_runs 3 23 [(117, .agg (enc_Expr y3)), (116, .agg (enc_Expr y2)), (115, .agg [.nils, .nils, .nils, .nils, .nils, .nils, .nils, .int .i64 0])] [⟨25, [], [10]⟩, ⟨24, [], [9]⟩, ⟨23, [], [8]⟩] (by kernel_rfl) (by kernel_rfl) ?_
        refine d_loc (F := []) (R := []) (F' := [(118, .row 34 5 0 (encs_Expr [y2, y3]))]) (v := .sl 5 118 2 0 2) 26 [] [] rfl rfl rfl rfl (by kernel_rfl) (by kernel_rfl) (by kernel_rfl) (by kernel_rfl) (by kernel_rfl) (by kernel_rfl) (by kernel_rfl) (by kernel_rfl) (loc_buildSliceW (e := 34) (sz := 5) (els := [[.int .i64 y2.Op, .int .i64 y2.N, .str y2.S, .str y2.Key, .vs 5 (encs_Expr y2.Args)], [.int .i64 y3.Op, .int .i64 y3.N, .str y3.S, .str y3.Key, .vs 5 (encs_Expr y3.Args)]]) (els2 := [[.int .i64 y2.Op, .int .i64 y2.N, .str y2.S, .str y2.Key, .vs 5 (encs_Expr y2.Args)], [.int .i64 y3.Op, .int .i64 y3.N, .str y3.S, .str y3.Key, .vs 5 (encs_Expr y3.Args)]]) (fl := [.int .i64 y2.Op, .int .i64 y2.N, .str y2.S, .str y2.Key, .vs 5 (encs_Expr y2.Args), .int .i64 y3.Op, .int .i64 y3.N, .str y3.S, .str y3.Key, .vs 5 (encs_Expr y3.Args)]) (fl2 := [.int .i64 y2.Op, .int .i64 y2.N, .str y2.S, .str y2.Key, .vs 5 (encs_Expr y2.Args), .int .i64 y3.Op, .int .i64 y3.N, .str y3.S, .str y3.Key, .vs 5 (encs_Expr y3.Args)]) (by kernel_rfl) (by kernel_rfl) (by kernel_rfl) (by kernel_rfl) (by kernel_rfl) (wk_same (wk_same (wk_same (wk_same (wk_same (wk_same (wk_same (wk_same (wk_same (wk_same wk_nil)))))))))) (by kernel_rfl) (by kernel_rfl) (Eq.trans (by kernel_rfl) (encs_Expr_eq _).symm)) ?_
        obtain ⟨y12, c12, hs⟩ := bind_some hs
        refine d_loc (F := [(118, .row 34 5 0 (encs_Expr [y2, y3]))]) (R := []) (F' := [(118, .row 34 5 (((encs_Expr [y2, y3])).length) (encs_Expr [y2, y3]))]) (v := .agg (enc_Expr y12)) 27 [118] [] rfl rfl rfl rfl (by kernel_rfl) (by kernel_rfl) (by kernel_rfl) (by kernel_rfl) (by kernel_rfl) (by kernel_rfl) (by kernel_rfl) (by kernel_rfl) (loc_frz (Fa := []) (R := [(118, .row 34 5 0 (encs_Expr [y2, y3]))]) (F2 := [(118, .row 34 5 (((encs_Expr [y2, y3])).length) (encs_Expr [y2, y3]))]) (F1 := [(118, .row 34 5 (((encs_Expr [y2, y3])).length) (encs_Expr [y2, y3]))]) (by kernel_rfl) (loc_g (R := [(118, .row 34 5 (((encs_Expr [y2, y3])).length) (encs_Expr [y2, y3]))]) [.int .i64 6, .sl 5 118 2 0 2] [] (callV_func hbv9 (by kernel_rfl)) (w_greenbeltlaw17_op 6 [y2, y3] _ c12) (.cons (.same _) (.cons (.row (t := 34) (fz := (((encs_Expr [y2, y3])).length)) (by kernel_rfl) (by first | (simp only [List.length_map, List.length_set, cpyT_length]; done) | rfl)) (.nil))) (by kernel_rfl) (by kernel_rfl) (by kernel_rfl) (by kernel_rfl) (by kernel_rfl) (by kernel_rfl) (by kernel_rfl) (by kernel_rfl))) ?_
        obtain ⟨y13, c13, hs⟩ := bind_some hs
        refine d_loc (F := []) (R := []) (F' := []) (v := .int .i64 y13) 28 [] [] rfl rfl rfl rfl (by kernel_rfl) (by kernel_rfl) (by kernel_rfl) (by kernel_rfl) (by kernel_rfl) (by kernel_rfl) (by kernel_rfl) (by kernel_rfl) (loc_gcallB (vs := [.agg [.nils, .nils, .nils, .nils, .nils, .nils, .nils, .int .i64 0], .nils, .nils, .agg (enc_Expr y12)]) (R := []) (callV_func hbv8 (by kernel_rfl)) (w_expr_Eval_2 (Plan.mk [] [] [] [] [] [] [] 0) [] [] y12 _ c13) (.cons (.agg (.cons (.nils _) (.cons (.nils _) (.cons (.nils _) (.cons (.nils _) (.cons (.nils _) (.cons (.nils _) (.cons (.nils _) (.cons (.same _) (.nil)))))))))) (.cons (.nils _) (.cons (.nils _) (.cons (.same _) (.nil))))) (by kernel_rfl) (by kernel_rfl) (by kernel_rfl)) ?_
        refine d_runs 6 29 [(126, .bool (decide (y13 = (w64 (a * b))))), (125, .bool (decide (y13 = (w64 (a * b))))), (124, .bool (decide (y13 = (w64 (a * b))))), (123, .int .i64 (w64 (a * b))), (122, .int .i64 b), (121, .int .i64 a)] (pfp 6 34) (by kernel_rfl) (by kernel_rfl) ?_
        cases h19 : ((decide (y13 = (w64 (a * b)))))
        ·replace hs := bif_f h19 hs
         refine d_runs 10 35 [(13, .bool false), (135, .bool false), (134, .no), (133, .no), (132, .no), (131, .no), (130, .no), (129, .no), (128, .no), (127, .no)] (pfp 10 44) (by kernel_rfl) (by kernel_rfl) ?_
         refine d_nil (by kernel_rfl) ?_
         obtain rfl := si hs
         refine nrm_join false rfl ?_
         exact cut_of [0, 1, 2, 7, 8, 9, 10, 13] [10, 9, 8] (by kernel_rfl) (by kernel_rfl) (by kernel_rfl)
        ·replace hs := bif_t h19 hs
         refine d_runs 2 35 [(128, .agg (enc_Expr y2)), (127, .agg [.nils, .nils, .nils, .nils, .nils, .nils, .nils, .int .i64 0])] [⟨36, [], [9]⟩, ⟨35, [], [8]⟩] (by kernel_rfl) (by kernel_rfl) ?_
         refine d_loc (F := []) (R := []) (F' := [(129, .row 34 5 0 (encs_Expr [y2]))]) (v := .sl 5 129 1 0 1) 37 [] [] rfl rfl rfl rfl (by kernel_rfl) (by kernel_rfl) (by kernel_rfl) (by kernel_rfl) (by kernel_rfl) (by kernel_rfl) (by kernel_rfl) (by kernel_rfl) (loc_buildSliceW (e := 34) (sz := 5) (els := [[.int .i64 y2.Op, .int .i64 y2.N, .str y2.S, .str y2.Key, .vs 5 (encs_Expr y2.Args)]]) (els2 := [[.int .i64 y2.Op, .int .i64 y2.N, .str y2.S, .str y2.Key, .vs 5 (encs_Expr y2.Args)]]) (fl := [.int .i64 y2.Op, .int .i64 y2.N, .str y2.S, .str y2.Key, .vs 5 (encs_Expr y2.Args)]) (fl2 := [.int .i64 y2.Op, .int .i64 y2.N, .str y2.S, .str y2.Key, .vs 5 (encs_Expr y2.Args)]) (by kernel_rfl) (by kernel_rfl) (by kernel_rfl) (by kernel_rfl) (by kernel_rfl) (wk_same (wk_same (wk_same (wk_same (wk_same wk_nil))))) (by kernel_rfl) (by kernel_rfl) (Eq.trans (by kernel_rfl) (encs_Expr_eq _).symm)) ?_
         obtain ⟨y14, c14, hs⟩ := bind_some hs
         refine d_loc (F := [(129, .row 34 5 0 (encs_Expr [y2]))]) (R := []) (F' := [(129, .row 34 5 (((encs_Expr [y2])).length) (encs_Expr [y2]))]) (v := .agg (enc_Expr y14)) 38 [129] [] rfl rfl rfl rfl (by kernel_rfl) (by kernel_rfl) (by kernel_rfl) (by kernel_rfl) (by kernel_rfl) (by kernel_rfl) (by kernel_rfl) (by kernel_rfl) (loc_frz (Fa := []) (R := [(129, .row 34 5 0 (encs_Expr [y2]))]) (F2 := [(129, .row 34 5 (((encs_Expr [y2])).length) (encs_Expr [y2]))]) (F1 := [(129, .row 34 5 (((encs_Expr [y2])).length) (encs_Expr [y2]))]) (by kernel_rfl) (loc_g (R := [(129, .row 34 5 (((encs_Expr [y2])).length) (encs_Expr [y2]))]) [.int .i64 9, .sl 5 129 1 0 1] [] (callV_func hbv9 (by kernel_rfl)) (w_greenbeltlaw17_op 9 [y2] _ c14) (.cons (.same _) (.cons (.row (t := 34) (fz := (((encs_Expr [y2])).length)) (by kernel_rfl) (by first | (simp only [List.length_map, List.length_set, cpyT_length]; done) | rfl)) (.nil))) (by kernel_rfl) (by kernel_rfl) (by kernel_rfl) (by kernel_rfl) (by kernel_rfl) (by kernel_rfl) (by kernel_rfl) (by kernel_rfl))) ?_
         obtain ⟨y15, c15, hs⟩ := bind_some hs
         refine d_loc (F := []) (R := []) (F' := []) (v := .int .i64 y15) 39 [] [] rfl rfl rfl rfl (by kernel_rfl) (by kernel_rfl) (by kernel_rfl) (by kernel_rfl) (by kernel_rfl) (by kernel_rfl) (by kernel_rfl) (by kernel_rfl) (loc_gcallB (vs := [.agg [.nils, .nils, .nils, .nils, .nils, .nils, .nils, .int .i64 0], .nils, .nils, .agg (enc_Expr y14)]) (R := []) (callV_func hbv8 (by kernel_rfl)) (w_expr_Eval_2 (Plan.mk [] [] [] [] [] [] [] 0) [] [] y14 _ c15) (.cons (.agg (.cons (.nils _) (.cons (.nils _) (.cons (.nils _) (.cons (.nils _) (.cons (.nils _) (.cons (.nils _) (.cons (.nils _) (.cons (.same _) (.nil)))))))))) (.cons (.nils _) (.cons (.nils _) (.cons (.same _) (.nil))))) (by kernel_rfl) (by kernel_rfl) (by kernel_rfl)) ?_
         refine d_runs 5 40 [(13, .bool (decide (y15 = (w64 (0 - a))))), (135, .bool (decide (y15 = (w64 (0 - a))))), (134, .bool (decide (y15 = (w64 (0 - a))))), (133, .int .i64 (w64 (0 - a))), (132, .int .i64 a)] (pfp 5 44) (by kernel_rfl) (by kernel_rfl) ?_
         refine d_nil (by kernel_rfl) ?_
         obtain rfl := si hs
         refine nrm_join (decide (y15 = (w64 (0 - a)))) rfl ?_
         exact cut_of [0, 1, 2, 7, 8, 9, 10, 13] [10, 9, 8] (by kernel_rfl) (by kernel_rfl) (by kernel_rfl)
     ·subst hz; clear hs; have hs := hk3; clear hk3
      refine nrm_thenV (v_seq (v_draw mixedH (by kernel_rfl) ?_))
      refine d_runs 3 0 [(138, .agg (enc_Expr y3)), (137, .agg (enc_Expr y2)), (136, .agg [.nils, .nils, .nils, .nils, .nils, .nils, .nils, .int .i64 0])] [⟨2, [], [10]⟩, ⟨1, [], [9]⟩, ⟨0, [], [8]⟩] (by kernel_rfl) (by kernel_rfl) ?_
      refine d_loc (F := []) (R := []) (F' := [(139, .row 34 5 0 (encs_Expr [y2, y3]))]) (v := .sl 5 139 2 0 2) 3 [] [] rfl rfl rfl rfl (by kernel_rfl) (by kernel_rfl) (by kernel_rfl) (by kernel_rfl) (by kernel_rfl) (by kernel_rfl) (by kernel_rfl) (by kernel_rfl) (loc_buildSliceW (e := 34) (sz := 5) (els := [[.int .i64 y2.Op, .int .i64 y2.N, .str y2.S, .str y2.Key, .vs 5 (encs_Expr y2.Args)], [.int .i64 y3.Op, .int .i64 y3.N, .str y3.S, .str y3.Key, .vs 5 (encs_Expr y3.Args)]]) (els2 := [[.int .i64 y2.Op, .int .i64 y2.N, .str y2.S, .str y2.Key, .vs 5 (encs_Expr y2.Args)], [.int .i64 y3.Op, .int .i64 y3.N, .str y3.S, .str y3.Key, .vs 5 (encs_Expr y3.Args)]]) (fl := [.int .i64 y2.Op, .int .i64 y2.N, .str y2.S, .str y2.Key, .vs 5 (encs_Expr y2.Args), .int .i64 y3.Op, .int .i64 y3.N, .str y3.S, .str y3.Key, .vs 5 (encs_Expr y3.Args)]) (fl2 := [.int .i64 y2.Op, .int .i64 y2.N, .str y2.S, .str y2.Key, .vs 5 (encs_Expr y2.Args), .int .i64 y3.Op, .int .i64 y3.N, .str y3.S, .str y3.Key, .vs 5 (encs_Expr y3.Args)]) (by kernel_rfl) (by kernel_rfl) (by kernel_rfl) (by kernel_rfl) (by kernel_rfl) (wk_same (wk_same (wk_same (wk_same (wk_same (wk_same (wk_same (wk_same (wk_same (wk_same wk_nil)))))))))) (by kernel_rfl) (by kernel_rfl) (Eq.trans (by kernel_rfl) (encs_Expr_eq _).symm)) ?_
      obtain ⟨y16, c16, hs⟩ := bind_some hs
      refine d_loc (F := [(139, .row 34 5 0 (encs_Expr [y2, y3]))]) (R := []) (F' := [(139, .row 34 5 (((encs_Expr [y2, y3])).length) (encs_Expr [y2, y3]))]) (v := .agg (enc_Expr y16)) 4 [139] [] rfl rfl rfl rfl (by kernel_rfl) (by kernel_rfl) (by kernel_rfl) (by kernel_rfl) (by kernel_rfl) (by kernel_rfl) (by kernel_rfl) (by kernel_rfl) (loc_frz (Fa := []) (R := [(139, .row 34 5 0 (encs_Expr [y2, y3]))]) (F2 := [(139, .row 34 5 (((encs_Expr [y2, y3])).length) (encs_Expr [y2, y3]))]) (F1 := [(139, .row 34 5 (((encs_Expr [y2, y3])).length) (encs_Expr [y2, y3]))]) (by kernel_rfl) (loc_g (R := [(139, .row 34 5 (((encs_Expr [y2, y3])).length) (encs_Expr [y2, y3]))]) [.int .i64 10, .sl 5 139 2 0 2] [] (callV_func hbv9 (by kernel_rfl)) (w_greenbeltlaw17_op 10 [y2, y3] _ c16) (.cons (.same _) (.cons (.row (t := 34) (fz := (((encs_Expr [y2, y3])).length)) (by kernel_rfl) (by first | (simp only [List.length_map, List.length_set, cpyT_length]; done) | rfl)) (.nil))) (by kernel_rfl) (by kernel_rfl) (by kernel_rfl) (by kernel_rfl) (by kernel_rfl) (by kernel_rfl) (by kernel_rfl) (by kernel_rfl))) ?_
      obtain ⟨y17, c17, hs⟩ := bind_some hs
      refine d_loc (F := []) (R := []) (F' := []) (v := .int .i64 y17) 5 [] [] rfl rfl rfl rfl (by kernel_rfl) (by kernel_rfl) (by kernel_rfl) (by kernel_rfl) (by kernel_rfl) (by kernel_rfl) (by kernel_rfl) (by kernel_rfl) (loc_gcallB (vs := [.agg [.nils, .nils, .nils, .nils, .nils, .nils, .nils, .int .i64 0], .nils, .nils, .agg (enc_Expr y16)]) (R := []) (callV_func hbv8 (by kernel_rfl)) (w_expr_Eval_2 (Plan.mk [] [] [] [] [] [] [] 0) [] [] y16 _ c17) (.cons (.agg (.cons (.nils _) (.cons (.nils _) (.cons (.nils _) (.cons (.nils _) (.cons (.nils _) (.cons (.nils _) (.cons (.nils _) (.cons (.same _) (.nil)))))))))) (.cons (.nils _) (.cons (.nils _) (.cons (.same _) (.nil))))) (by kernel_rfl) (by kernel_rfl) (by kernel_rfl)) ?_
      refine d_runs 1 6 [(14, .int .i64 y17)] (pfp 1 6) (by kernel_rfl) (by kernel_rfl) ?_
      refine d_nil (by kernel_rfl) ?_
      refine nrm_thenV (v_seq (v_draw mixedH (by kernel_rfl) ?_))
      refine d_runs 3 0 [(144, .agg (enc_Expr y3)), (143, .agg (enc_Expr y2)), (142, .agg [.nils, .nils, .nils, .nils, .nils, .nils, .nils, .int .i64 0])] [⟨2, [], [10]⟩, ⟨1, [], [9]⟩, ⟨0, [], [8]⟩] (by kernel_rfl) (by kernel_rfl) ?_
      refine d_loc (F := []) (R := []) (F' := [(145, .row 34 5 0 (encs_Expr [y2, y3]))]) (v := .sl 5 145 2 0 2) 3 [] [] rfl rfl rfl rfl (by kernel_rfl) (by kernel_rfl) (by kernel_rfl) (by kernel_rfl) (by kernel_rfl) (by kernel_rfl) (by kernel_rfl) (by kernel_rfl) (loc_buildSliceW (e := 34) (sz := 5) (els := [[.int .i64 y2.Op, .int .i64 y2.N, .str y2.S, .str y2.Key, .vs 5 (encs_Expr y2.Args)], [.int .i64 y3.Op, .int .i64 y3.N, .str y3.S, .str y3.Key, .vs 5 (encs_Expr y3.Args)]]) (els2 := [[.int .i64 y2.Op, .int .i64 y2.N, .str y2.S, .str y2.Key, .vs 5 (encs_Expr y2.Args)], [.int .i64 y3.Op, .int .i64 y3.N, .str y3.S, .str y3.Key, .vs 5 (encs_Expr y3.Args)]]) (fl := [.int .i64 y2.Op, .int .i64 y2.N, .str y2.S, .str y2.Key, .vs 5 (encs_Expr y2.Args), .int .i64 y3.Op, .int .i64 y3.N, .str y3.S, .str y3.Key, .vs 5 (encs_Expr y3.Args)]) (fl2 := [.int .i64 y2.Op, .int .i64 y2.N, .str y2.S, .str y2.Key, .vs 5 (encs_Expr y2.Args), .int .i64 y3.Op, .int .i64 y3.N, .str y3.S, .str y3.Key, .vs 5 (encs_Expr y3.Args)]) (by kernel_rfl) (by kernel_rfl) (by kernel_rfl) (by kernel_rfl) (by kernel_rfl) (wk_same (wk_same (wk_same (wk_same (wk_same (wk_same (wk_same (wk_same (wk_same (wk_same wk_nil)))))))))) (by kernel_rfl) (by kernel_rfl) (Eq.trans (by kernel_rfl) (encs_Expr_eq _).symm)) ?_
      obtain ⟨y18, c18, hs⟩ := bind_some hs
      refine d_loc (F := [(145, .row 34 5 0 (encs_Expr [y2, y3]))]) (R := []) (F' := [(145, .row 34 5 (((encs_Expr [y2, y3])).length) (encs_Expr [y2, y3]))]) (v := .agg (enc_Expr y18)) 4 [145] [] rfl rfl rfl rfl (by kernel_rfl) (by kernel_rfl) (by kernel_rfl) (by kernel_rfl) (by kernel_rfl) (by kernel_rfl) (by kernel_rfl) (by kernel_rfl) (loc_frz (Fa := []) (R := [(145, .row 34 5 0 (encs_Expr [y2, y3]))]) (F2 := [(145, .row 34 5 (((encs_Expr [y2, y3])).length) (encs_Expr [y2, y3]))]) (F1 := [(145, .row 34 5 (((encs_Expr [y2, y3])).length) (encs_Expr [y2, y3]))]) (by kernel_rfl) (loc_g (R := [(145, .row 34 5 (((encs_Expr [y2, y3])).length) (encs_Expr [y2, y3]))]) [.int .i64 11, .sl 5 145 2 0 2] [] (callV_func hbv9 (by kernel_rfl)) (w_greenbeltlaw17_op 11 [y2, y3] _ c18) (.cons (.same _) (.cons (.row (t := 34) (fz := (((encs_Expr [y2, y3])).length)) (by kernel_rfl) (by first | (simp only [List.length_map, List.length_set, cpyT_length]; done) | rfl)) (.nil))) (by kernel_rfl) (by kernel_rfl) (by kernel_rfl) (by kernel_rfl) (by kernel_rfl) (by kernel_rfl) (by kernel_rfl) (by kernel_rfl))) ?_
      obtain ⟨y19, c19, hs⟩ := bind_some hs
      refine d_loc (F := []) (R := []) (F' := []) (v := .int .i64 y19) 5 [] [] rfl rfl rfl rfl (by kernel_rfl) (by kernel_rfl) (by kernel_rfl) (by kernel_rfl) (by kernel_rfl) (by kernel_rfl) (by kernel_rfl) (by kernel_rfl) (loc_gcallB (vs := [.agg [.nils, .nils, .nils, .nils, .nils, .nils, .nils, .int .i64 0], .nils, .nils, .agg (enc_Expr y18)]) (R := []) (callV_func hbv8 (by kernel_rfl)) (w_expr_Eval_2 (Plan.mk [] [] [] [] [] [] [] 0) [] [] y18 _ c19) (.cons (.agg (.cons (.nils _) (.cons (.nils _) (.cons (.nils _) (.cons (.nils _) (.cons (.nils _) (.cons (.nils _) (.cons (.nils _) (.cons (.same _) (.nil)))))))))) (.cons (.nils _) (.cons (.nils _) (.cons (.same _) (.nil))))) (by kernel_rfl) (by kernel_rfl) (by kernel_rfl)) ?_
      refine d_runs 1 6 [(15, .int .i64 y19)] (pfp 1 6) (by kernel_rfl) (by kernel_rfl) ?_
      refine d_nil (by kernel_rfl) ?_
      refine nrm_thenV (v_seq (v_draw mixedH (by kernel_rfl) ?_))
      refine d_runs 3 0 [(150, .agg (enc_Expr y3)), (149, .agg (enc_Expr y2)), (148, .agg [.nils, .nils, .nils, .nils, .nils, .nils, .nils, .int .i64 0])] [⟨2, [], [10]⟩, ⟨1, [], [9]⟩, ⟨0, [], [8]⟩] (by kernel_rfl) (by kernel_rfl) ?_
      refine d_loc (F := []) (R := []) (F' := [(151, .row 34 5 0 (encs_Expr [y2, y3]))]) (v := .sl 5 151 2 0 2) 3 [] [] rfl rfl rfl rfl (by kernel_rfl) (by kernel_rfl) (by kernel_rfl) (by kernel_rfl) (by kernel_rfl) (by kernel_rfl) (by kernel_rfl) (by kernel_rfl) (loc_buildSliceW (e := 34) (sz := 5) (els := [[.int .i64 y2.Op, .int .i64 y2.N, .str y2.S, .str y2.Key, .vs 5 (encs_Expr y2.Args)], [.int .i64 y3.Op, .int .i64 y3.N, .str y3.S, .str y3.Key, .vs 5 (encs_Expr y3.Args)]]) (els2 := [[.int .i64 y2.Op, .int .i64 y2.N, .str y2.S, .str y2.Key, .vs 5 (encs_Expr y2.Args)], [.int .i64 y3.Op, .int .i64 y3.N, .str y3.S, .str y3.Key, .vs 5 (encs_Expr y3.Args)]]) (fl := [.int .i64 y2.Op, .int .i64 y2.N, .str y2.S, .str y2.Key, .vs 5 (encs_Expr y2.Args), .int .i64 y3.Op, .int .i64 y3.N, .str y3.S, .str y3.Key, .vs 5 (encs_Expr y3.Args)]) (fl2 := [.int .i64 y2.Op, .int .i64 y2.N, .str y2.S, .str y2.Key, .vs 5 (encs_Expr y2.Args), .int .i64 y3.Op, .int .i64 y3.N, .str y3.S, .str y3.Key, .vs 5 (encs_Expr y3.Args)]) (by kernel_rfl) (by kernel_rfl) (by kernel_rfl) (by kernel_rfl) (by kernel_rfl) (wk_same (wk_same (wk_same (wk_same (wk_same (wk_same (wk_same (wk_same (wk_same (wk_same wk_nil)))))))))) (by kernel_rfl) (by kernel_rfl) (Eq.trans (by kernel_rfl) (encs_Expr_eq _).symm)) ?_
      obtain ⟨y20, c20, hs⟩ := bind_some hs
      refine d_loc (F := [(151, .row 34 5 0 (encs_Expr [y2, y3]))]) (R := []) (F' := [(151, .row 34 5 (((encs_Expr [y2, y3])).length) (encs_Expr [y2, y3]))]) (v := .agg (enc_Expr y20)) 4 [151] [] rfl rfl rfl rfl (by kernel_rfl) (by kernel_rfl) (by kernel_rfl) (by kernel_rfl) (by kernel_rfl) (by kernel_rfl) (by kernel_rfl) (by kernel_rfl) (loc_frz (Fa := []) (R := [(151, .row 34 5 0 (encs_Expr [y2, y3]))]) (F2 := [(151, .row 34 5 (((encs_Expr [y2, y3])).length) (encs_Expr [y2, y3]))]) (F1 := [(151, .row 34 5 (((encs_Expr [y2, y3])).length) (encs_Expr [y2, y3]))]) (by kernel_rfl) (loc_g (R := [(151, .row 34 5 (((encs_Expr [y2, y3])).length) (encs_Expr [y2, y3]))]) [.int .i64 12, .sl 5 151 2 0 2] [] (callV_func hbv9 (by kernel_rfl)) (w_greenbeltlaw17_op 12 [y2, y3] _ c20) (.cons (.same _) (.cons (.row (t := 34) (fz := (((encs_Expr [y2, y3])).length)) (by kernel_rfl) (by first | (simp only [List.length_map, List.length_set, cpyT_length]; done) | rfl)) (.nil))) (by kernel_rfl) (by kernel_rfl) (by kernel_rfl) (by kernel_rfl) (by kernel_rfl) (by kernel_rfl) (by kernel_rfl) (by kernel_rfl))) ?_
      obtain ⟨y21, c21, hs⟩ := bind_some hs
      refine d_loc (F := []) (R := []) (F' := []) (v := .int .i64 y21) 5 [] [] rfl rfl rfl rfl (by kernel_rfl) (by kernel_rfl) (by kernel_rfl) (by kernel_rfl) (by kernel_rfl) (by kernel_rfl) (by kernel_rfl) (by kernel_rfl) (loc_gcallB (vs := [.agg [.nils, .nils, .nils, .nils, .nils, .nils, .nils, .int .i64 0], .nils, .nils, .agg (enc_Expr y20)]) (R := []) (callV_func hbv8 (by kernel_rfl)) (w_expr_Eval_2 (Plan.mk [] [] [] [] [] [] [] 0) [] [] y20 _ c21) (.cons (.agg (.cons (.nils _) (.cons (.nils _) (.cons (.nils _) (.cons (.nils _) (.cons (.nils _) (.cons (.nils _) (.cons (.nils _) (.cons (.same _) (.nil)))))))))) (.cons (.nils _) (.cons (.nils _) (.cons (.same _) (.nil))))) (by kernel_rfl) (by kernel_rfl) (by kernel_rfl)) ?_
      refine d_runs 1 6 [(16, .int .i64 y21)] (pfp 1 6) (by kernel_rfl) (by kernel_rfl) ?_
      refine d_nil (by kernel_rfl) ?_
      refine nrm_thenV (v_seq (v_draw mixedH (by kernel_rfl) ?_))
      refine d_runs 3 0 [(156, .agg (enc_Expr y2)), (155, .agg (enc_Expr y3)), (154, .agg [.nils, .nils, .nils, .nils, .nils, .nils, .nils, .int .i64 0])] [⟨2, [], [9]⟩, ⟨1, [], [10]⟩, ⟨0, [], [8]⟩] (by kernel_rfl) (by kernel_rfl) ?_
      refine d_loc (F := []) (R := []) (F' := [(157, .row 34 5 0 (encs_Expr [y3, y2]))]) (v := .sl 5 157 2 0 2) 3 [] [] rfl rfl rfl rfl (by kernel_rfl) (by kernel_rfl) (by kernel_rfl) (by kernel_rfl) (by kernel_rfl) (by kernel_rfl) (by kernel_rfl) (by kernel_rfl) (loc_buildSliceW (e := 34) (sz := 5) (els := [[.int .i64 y3.Op, .int .i64 y3.N, .str y3.S, .str y3.Key, .vs 5 (encs_Expr y3.Args)], [.int .i64 y2.Op, .int .i64 y2.N, .str y2.S, .str y2.Key, .vs 5 (encs_Expr y2.Args)]]) (els2 := [[.int .i64 y3.Op, .int .i64 y3.N, .str y3.S, .str y3.Key, .vs 5 (encs_Expr y3.Args)], [.int .i64 y2.Op, .int .i64 y2.N, .str y2.S, .str y2.Key, .vs 5 (encs_Expr y2.Args)]]) (fl := [.int .i64 y3.Op, .int .i64 y3.N, .str y3.S, .str y3.Key, .vs 5 (encs_Expr y3.Args), .int .i64 y2.Op, .int .i64 y2.N, .str y2.S, .str y2.Key, .vs 5 (encs_Expr y2.Args)]) (fl2 := [.int .i64 y3.Op, .int .i64 y3.N, .str y3.S, .str y3.Key, .vs 5 (encs_Expr y3.Args), .int .i64 y2.Op, .int .i64 y2.N, .str y2.S, .str y2.Key, .vs 5 (encs_Expr y2.Args)]) (by kernel_rfl) (by kernel_rfl) (by kernel_rfl) (by kernel_rfl) (by kernel_rfl) (wk_same (wk_same (wk_same (wk_same (wk_same (wk_same (wk_same (wk_same (wk_same (wk_same wk_nil)))))))))) (by kernel_rfl) (by kernel_rfl) (Eq.trans (by kernel_rfl) (encs_Expr_eq _).symm)) ?_
      obtain ⟨y22, c22, hs⟩ := bind_some hs
      refine d_loc (F := [(157, .row 34 5 0 (encs_Expr [y3, y2]))]) (R := []) (F' := [(157, .row 34 5 (((encs_Expr [y3, y2])).length) (encs_Expr [y3, y2]))]) (v := .agg (enc_Expr y22)) 4 [157] [] rfl rfl rfl rfl (by kernel_rfl) (by kernel_rfl) (by kernel_rfl) (by kernel_rfl) (by kernel_rfl) (by kernel_rfl) (by kernel_rfl) (by kernel_rfl) (loc_frz (Fa := []) (R := [(157, .row 34 5 0 (encs_Expr [y3, y2]))]) (F2 := [(157, .row 34 5 (((encs_Expr [y3, y2])).length) (encs_Expr [y3, y2]))]) (F1 := [(157, .row 34 5 (((encs_Expr [y3, y2])).length) (encs_Expr [y3, y2]))]) (by kernel_rfl) (loc_g (R := [(157, .row 34 5 (((encs_Expr [y3, y2])).length) (encs_Expr [y3, y2]))]) [.int .i64 11, .sl 5 157 2 0 2] [] (callV_func hbv9 (by kernel_rfl)) (w_greenbeltlaw17_op 11 [y3, y2] _ c22) (.cons (.same _) (.cons (.row (t := 34) (fz := (((encs_Expr [y3, y2])).length)) (by kernel_rfl) (by first | (simp only [List.length_map, List.length_set, cpyT_length]; done) | rfl)) (.nil))) (by kernel_rfl) (by kernel_rfl) (by kernel_rfl) (by kernel_rfl) (by kernel_rfl) (by kernel_rfl) (by kernel_rfl) (by kernel_rfl))) ?_
      obtain ⟨y23, c23, hs⟩ := bind_some hs
      refine d_loc (F := []) (R := []) (F' := []) (v := .int .i64 y23) 5 [] [] rfl rfl rfl rfl (by kernel_rfl) (by kernel_rfl) (by kernel_rfl) (by kernel_rfl) (by kernel_rfl) (by kernel_rfl) (by kernel_rfl) (by kernel_rfl) (loc_gcallB (vs := [.agg [.nils, .nils, .nils, .nils, .nils, .nils, .nils, .int .i64 0], .nils, .nils, .agg (enc_Expr y22)]) (R := []) (callV_func hbv8 (by kernel_rfl)) (w_expr_Eval_2 (Plan.mk [] [] [] [] [] [] [] 0) [] [] y22 _ c23) (.cons (.agg (.cons (.nils _) (.cons (.nils _) (.cons (.nils _) (.cons (.nils _) (.cons (.nils _) (.cons (.nils _) (.cons (.nils _) (.cons (.same _) (.nil)))))))))) (.cons (.nils _) (.cons (.nils _) (.cons (.same _) (.nil))))) (by kernel_rfl) (by kernel_rfl) (by kernel_rfl)) ?_
      refine d_runs 1 6 [(17, .int .i64 y23)] (pfp 1 6) (by kernel_rfl) (by kernel_rfl) ?_
      refine d_nil (by kernel_rfl) ?_
      refine nrm_thenV (v_seq ?_)
      obtain ⟨z4, hs, hk4⟩ := bind_some hs
      refine v_join (S := Bool) (fun u => u = z4) (fun u => [(0, .int .i64 a), (1, .int .i64 b), (2, .int .i64 c), (7, .bool y1), (8, .ptr 8 0 0), (9, .ptr 9 0 0), (10, .ptr 10 0 0), (13, .bool v3), (18, .bool u)]) (fun u => [(10, .box 34 [.int .i64 y3.Op, .int .i64 y3.N, .str y3.S, .str y3.Key, .vs 5 (encs_Expr y3.Args)]), (9, .box 34 [.int .i64 y2.Op, .int .i64 y2.N, .str y2.S, .str y2.Key, .vs 5 (encs_Expr y2.Args)]), (8, .box 31 [.nils, .nils, .nils, .nils, .nils, .nils, .nils, .int .i64 0])]) ?_ (fun v4 hz => ?_)
      ·refine vr_text (o_runs 7 [(166, .bool ((decide (y17 = 1)) == (decide (a = b)))), (165, .bool ((decide (y17 = 1)) == (decide (a = b)))), (164, .bool (decide (a = b))), (163, .int .i64 b), (162, .int .i64 a), (161, .bool (decide (y17 = 1))), (160, .int .i64 y17)] (by kernel_rfl) ?_)
       cases h20 : (((decide (y17 = 1)) == (decide (a = b))))
       ·replace hs := bif_f h20 hs
        refine o_runs 23 [(18, .bool false), (188, .bool false), (187, .no), (186, .no), (185, .no), (184, .no), (183, .no), (182, .bool false), (181, .bool false), (180, .no), (179, .no), (178, .no), (177, .no), (176, .no), (175, .no), (174, .bool false), (173, .bool false), (172, .no), (171, .no), (170, .no), (169, .no), (168, .no), (167, .no)] (by kernel_rfl) ?_
        refine ov_nil ?_
        obtain rfl := si hs
        refine nrm_join false rfl ?_
        exact cut_of [0, 1, 2, 7, 8, 9, 10, 13, 18] [10, 9, 8] (by kernel_rfl) (by kernel_rfl) (by kernel_rfl)
       ·replace hs := bif_t h20 hs
        refine o_runs 8 [(174, .bool ((decide (y19 = 1)) == (decide (a < b)))), (173, .bool ((decide (y19 = 1)) == (decide (a < b)))), (172, .bool ((decide (y19 = 1)) == (decide (a < b)))), (171, .bool (decide (a < b))), (170, .int .i64 b), (169, .int .i64 a), (168, .bool (decide (y19 = 1))), (167, .int .i64 y19)] (by kernel_rfl) ?_
        cases h21 : (((decide (y19 = 1)) == (decide (a < b))))
        ·replace hs := bif_f h21 hs
         refine o_runs 15 [(18, .bool false), (188, .bool false), (187, .no), (186, .no), (185, .no), (184, .no), (183, .no), (182, .bool false), (181, .bool false), (180, .no), (179, .no), (178, .no), (177, .no), (176, .no), (175, .no)] (by kernel_rfl) ?_
         refine ov_nil ?_
         obtain rfl := si hs
         refine nrm_join false rfl ?_
         exact cut_of [0, 1, 2, 7, 8, 9, 10, 13, 18] [10, 9, 8] (by kernel_rfl) (by kernel_rfl) (by kernel_rfl)
        ·replace hs := bif_t h21 hs
         refine o_runs 8 [(182, .bool (decide ((w64 ((w64 (y17 + y19)) + y23)) = 1))), (181, .bool (decide ((w64 ((w64 (y17 + y19)) + y23)) = 1))), (180, .bool (decide ((w64 ((w64 (y17 + y19)) + y23)) = 1))), (179, .int .i64 (w64 ((w64 (y17 + y19)) + y23))), (178, .int .i64 y23), (177, .int .i64 (w64 (y17 + y19))), (176, .int .i64 y19), (175, .int .i64 y17)] (by kernel_rfl) ?_
         cases h22 : ((decide ((w64 ((w64 (y17 + y19)) + y23)) = 1)))
         ·replace hs := bif_f h22 hs
          refine o_runs 7 [(18, .bool false), (188, .bool false), (187, .no), (186, .no), (185, .no), (184, .no), (183, .no)] (by kernel_rfl) ?_
          refine ov_nil ?_
          obtain rfl := si hs
          refine nrm_join false rfl ?_
          exact cut_of [0, 1, 2, 7, 8, 9, 10, 13, 18] [10, 9, 8] (by kernel_rfl) (by kernel_rfl) (by kernel_rfl)
         ·replace hs := bif_t h22 hs
          refine o_runs 7 [(18, .bool (decide (y21 = (w64 (y17 + y19))))), (188, .bool (decide (y21 = (w64 (y17 + y19))))), (187, .bool (decide (y21 = (w64 (y17 + y19))))), (186, .int .i64 (w64 (y17 + y19))), (185, .int .i64 y19), (184, .int .i64 y17), (183, .int .i64 y21)] (by kernel_rfl) ?_
          refine ov_nil ?_
          obtain rfl := si hs
          refine nrm_join (decide (y21 = (w64 (y17 + y19)))) rfl ?_
          exact cut_of [0, 1, 2, 7, 8, 9, 10, 13, 18] [10, 9, 8] (by kernel_rfl) (by kernel_rfl) (by kernel_rfl)
      ·subst hz; clear hs; have hs := hk4; clear hk4
       refine nrm_thenV (v_seq (v_draw mixedH (by kernel_rfl) ?_))
       refine d_runs 3 0 [(191, .agg (enc_Expr y3)), (190, .agg (enc_Expr y2)), (189, .agg [.nils, .nils, .nils, .nils, .nils, .nils, .nils, .int .i64 0])] [⟨2, [], [10]⟩, ⟨1, [], [9]⟩, ⟨0, [], [8]⟩] (by kernel_rfl) (by kernel_rfl) ?_
       refine d_loc (F := []) (R := []) (F' := [(192, .row 34 5 0 (encs_Expr [y2, y3]))]) (v := .sl 5 192 2 0 2) 3 [] [] rfl rfl rfl rfl (by kernel_rfl) (by kernel_rfl) (by kernel_rfl) (by kernel_rfl) (by kernel_rfl) (by kernel_rfl) (by kernel_rfl) (by kernel_rfl) (loc_buildSliceW (e := 34) (sz := 5) (els := [[.int .i64 y2.Op, .int .i64 y2.N, .str y2.S, .str y2.Key, .vs 5 (encs_Expr y2.Args)], [.int .i64 y3.Op, .int .i64 y3.N, .str y3.S, .str y3.Key, .vs 5 (encs_Expr y3.Args)]]) (els2 := [[.int .i64 y2.Op, .int .i64 y2.N, .str y2.S, .str y2.Key, .vs 5 (encs_Expr y2.Args)], [.int .i64 y3.Op, .int .i64 y3.N, .str y3.S, .str y3.Key, .vs 5 (encs_Expr y3.Args)]]) (fl := [.int .i64 y2.Op, .int .i64 y2.N, .str y2.S, .str y2.Key, .vs 5 (encs_Expr y2.Args), .int .i64 y3.Op, .int .i64 y3.N, .str y3.S, .str y3.Key, .vs 5 (encs_Expr y3.Args)]) (fl2 := [.int .i64 y2.Op, .int .i64 y2.N, .str y2.S, .str y2.Key, .vs 5 (encs_Expr y2.Args), .int .i64 y3.Op, .int .i64 y3.N, .str y3.S, .str y3.Key, .vs 5 (encs_Expr y3.Args)]) (by kernel_rfl) (by kernel_rfl) (by kernel_rfl) (by kernel_rfl) (by kernel_rfl) (wk_same (wk_same (wk_same (wk_same (wk_same (wk_same (wk_same (wk_same (wk_same (wk_same wk_nil)))))))))) (by kernel_rfl) (by kernel_rfl) (Eq.trans (by kernel_rfl) (encs_Expr_eq _).symm)) ?_
       obtain ⟨y24, c24, hs⟩ := bind_some hs
       refine d_loc (F := [(192, .row 34 5 0 (encs_Expr [y2, y3]))]) (R := []) (F' := [(192, .row 34 5 (((encs_Expr [y2, y3])).length) (encs_Expr [y2, y3]))]) (v := .agg (enc_Expr y24)) 4 [192] [] rfl rfl rfl rfl (by kernel_rfl) (by kernel_rfl) (by kernel_rfl) (by kernel_rfl) (by kernel_rfl) (by kernel_rfl) (by kernel_rfl) (by kernel_rfl) (loc_frz (Fa := []) (R := [(192, .row 34 5 0 (encs_Expr [y2, y3]))]) (F2 := [(192, .row 34 5 (((encs_Expr [y2, y3])).length) (encs_Expr [y2, y3]))]) (F1 := [(192, .row 34 5 (((encs_Expr [y2, y3])).length) (encs_Expr [y2, y3]))]) (by kernel_rfl) (loc_g (R := [(192, .row 34 5 (((encs_Expr [y2, y3])).length) (encs_Expr [y2, y3]))]) [.int .i64 13, .sl 5 192 2 0 2] [] (callV_func hbv9 (by kernel_rfl)) (w_greenbeltlaw17_op 13 [y2, y3] _ c24) (.cons (.same _) (.cons (.row (t := 34) (fz := (((encs_Expr [y2, y3])).length)) (by kernel_rfl) (by first | (simp only [List.length_map, List.length_set, cpyT_length]; done) | rfl)) (.nil))) (by kernel_rfl) (by kernel_rfl) (by kernel_rfl) (by kernel_rfl) (by kernel_rfl) (by kernel_rfl) (by kernel_rfl) (by kernel_rfl))) ?_
       obtain ⟨y25, c25, hs⟩ := bind_some hs
       refine d_loc (F := []) (R := []) (F' := []) (v := .int .i64 y25) 5 [] [] rfl rfl rfl rfl (by kernel_rfl) (by kernel_rfl) (by kernel_rfl) (by kernel_rfl) (by kernel_rfl) (by kernel_rfl) (by kernel_rfl) (by kernel_rfl) (loc_gcallB (vs := [.agg [.nils, .nils, .nils, .nils, .nils, .nils, .nils, .int .i64 0], .nils, .nils, .agg (enc_Expr y24)]) (R := []) (callV_func hbv8 (by kernel_rfl)) (w_expr_Eval_2 (Plan.mk [] [] [] [] [] [] [] 0) [] [] y24 _ c25) (.cons (.agg (.cons (.nils _) (.cons (.nils _) (.cons (.nils _) (.cons (.nils _) (.cons (.nils _) (.cons (.nils _) (.cons (.nils _) (.cons (.same _) (.nil)))))))))) (.cons (.nils _) (.cons (.nils _) (.cons (.same _) (.nil))))) (by kernel_rfl) (by kernel_rfl) (by kernel_rfl)) ?_
       refine d_runs 1 6 [(19, .int .i64 y25)] (pfp 1 6) (by kernel_rfl) (by kernel_rfl) ?_
       refine d_nil (by kernel_rfl) ?_
       refine nrm_thenV (v_seq (v_draw mixedH (by kernel_rfl) ?_))
       refine d_runs 3 0 [(197, .agg (enc_Expr y3)), (196, .agg (enc_Expr y2)), (195, .agg [.nils, .nils, .nils, .nils, .nils, .nils, .nils, .int .i64 0])] [⟨2, [], [10]⟩, ⟨1, [], [9]⟩, ⟨0, [], [8]⟩] (by kernel_rfl) (by kernel_rfl) ?_
       refine d_loc (F := []) (R := []) (F' := [(198, .row 34 5 0 (encs_Expr [y2, y3]))]) (v := .sl 5 198 2 0 2) 3 [] [] rfl rfl rfl rfl (by kernel_rfl) (by kernel_rfl) (by kernel_rfl) (by kernel_rfl) (by kernel_rfl) (by kernel_rfl) (by kernel_rfl) (by kernel_rfl) (loc_buildSliceW (e := 34) (sz := 5) (els := [[.int .i64 y2.Op, .int .i64 y2.N, .str y2.S, .str y2.Key, .vs 5 (encs_Expr y2.Args)], [.int .i64 y3.Op, .int .i64 y3.N, .str y3.S, .str y3.Key, .vs 5 (encs_Expr y3.Args)]]) (els2 := [[.int .i64 y2.Op, .int .i64 y2.N, .str y2.S, .str y2.Key, .vs 5 (encs_Expr y2.Args)], [.int .i64 y3.Op, .int .i64 y3.N, .str y3.S, .str y3.Key, .vs 5 (encs_Expr y3.Args)]]) (fl := [.int .i64 y2.Op, .int .i64 y2.N, .str y2.S, .str y2.Key, .vs 5 (encs_Expr y2.Args), .int .i64 y3.Op, .int .i64 y3.N, .str y3.S, .str y3.Key, .vs 5 (encs_Expr y3.Args)]) (fl2 := [.int .i64 y2.Op, .int .i64 y2.N, .str y2.S, .str y2.Key, .vs 5 (encs_Expr y2.Args), .int .i64 y3.Op, .int .i64 y3.N, .str y3.S, .str y3.Key, .vs 5 (encs_Expr y3.Args)]) (by kernel_rfl) (by kernel_rfl) (by kernel_rfl) (by kernel_rfl) (by kernel_rfl) (wk_same (wk_same (wk_same (wk_same (wk_same (wk_same (wk_same (wk_same (wk_same (wk_same wk_nil)))))))))) (by kernel_rfl) (by kernel_rfl) (Eq.trans (by kernel_rfl) (encs_Expr_eq _).symm)) ?_
       obtain ⟨y26, c26, hs⟩ := bind_some hs
       refine d_loc (F := [(198, .row 34 5 0 (encs_Expr [y2, y3]))]) (R := []) (F' := [(198, .row 34 5 (((encs_Expr [y2, y3])).length) (encs_Expr [y2, y3]))]) (v := .agg (enc_Expr y26)) 4 [198] [] rfl rfl rfl rfl (by kernel_rfl) (by kernel_rfl) (by kernel_rfl) (by kernel_rfl) (by kernel_rfl) (by kernel_rfl) (by kernel_rfl) (by kernel_rfl) (loc_frz (Fa := []) (R := [(198, .row 34 5 0 (encs_Expr [y2, y3]))]) (F2 := [(198, .row 34 5 (((encs_Expr [y2, y3])).length) (encs_Expr [y2, y3]))]) (F1 := [(198, .row 34 5 (((encs_Expr [y2, y3])).length) (encs_Expr [y2, y3]))]) (by kernel_rfl) (loc_g (R := [(198, .row 34 5 (((encs_Expr [y2, y3])).length) (encs_Expr [y2, y3]))]) [.int .i64 14, .sl 5 198 2 0 2] [] (callV_func hbv9 (by kernel_rfl)) (w_greenbeltlaw17_op 14 [y2, y3] _ c26) (.cons (.same _) (.cons (.row (t := 34) (fz := (((encs_Expr [y2, y3])).length)) (by kernel_rfl) (by first | (simp only [List.length_map, List.length_set, cpyT_length]; done) | rfl)) (.nil))) (by kernel_rfl) (by kernel_rfl) (by kernel_rfl) (by kernel_rfl) (by kernel_rfl) (by kernel_rfl) (by kernel_rfl) (by kernel_rfl))) ?_
       obtain ⟨y27, c27, hs⟩ := bind_some hs
       refine d_loc (F := []) (R := []) (F' := []) (v := .int .i64 y27) 5 [] [] rfl rfl rfl rfl (by kernel_rfl) (by kernel_rfl) (by kernel_rfl) (by kernel_rfl) (by kernel_rfl) (by kernel_rfl) (by kernel_rfl) (by kernel_rfl) (loc_gcallB (vs := [.agg [.nils, .nils, .nils, .nils, .nils, .nils, .nils, .int .i64 0], .nils, .nils, .agg (enc_Expr y26)]) (R := []) (callV_func hbv8 (by kernel_rfl)) (w_expr_Eval_2 (Plan.mk [] [] [] [] [] [] [] 0) [] [] y26 _ c27) (.cons (.agg (.cons (.nils _) (.cons (.nils _) (.cons (.nils _) (.cons (.nils _) (.cons (.nils _) (.cons (.nils _) (.cons (.nils _) (.cons (.same _) (.nil)))))))))) (.cons (.nils _) (.cons (.nils _) (.cons (.same _) (.nil))))) (by kernel_rfl) (by kernel_rfl) (by kernel_rfl)) ?_
       refine d_runs 1 6 [(20, .int .i64 y27)] (pfp 1 6) (by kernel_rfl) (by kernel_rfl) ?_
       refine d_nil (by kernel_rfl) ?_
       refine nrm_thenV (v_seq (v_draw mixedH (by kernel_rfl) ?_))
       refine d_runs 2 0 [(202, .agg (enc_Expr y2)), (201, .agg [.nils, .nils, .nils, .nils, .nils, .nils, .nils, .int .i64 0])] [⟨1, [], [9]⟩, ⟨0, [], [8]⟩] (by kernel_rfl) (by kernel_rfl) ?_
       refine d_loc (F := []) (R := []) (F' := [(203, .row 34 5 0 (encs_Expr [y2]))]) (v := .sl 5 203 1 0 1) 2 [] [] rfl rfl rfl rfl (by kernel_rfl) (by kernel_rfl) (by kernel_rfl) (by kernel_rfl) (by kernel_rfl) (by kernel_rfl) (by kernel_rfl) (by kernel_rfl) (loc_buildSliceW (e := 34) (sz := 5) (els := [[.int .i64 y2.Op, .int .i64 y2.N, .str y2.S, .str y2.Key, .vs 5 (encs_Expr y2.Args)]]) (els2 := [[.int .i64 y2.Op, .int .i64 y2.N, .str y2.S, .str y2.Key, .vs 5 (encs_Expr y2.Args)]]) (fl := [.int .i64 y2.Op, .int .i64 y2.N, .str y2.S, .str y2.Key, .vs 5 (encs_Expr y2.Args)]) (fl2 := [.int .i64 y2.Op, .int .i64 y2.N, .str y2.S, .str y2.Key, .vs 5 (encs_Expr y2.Args)]) (by kernel_rfl) (by kernel_rfl) (by kernel_rfl) (by kernel_rfl) (by kernel_rfl) (wk_same (wk_same (wk_same (wk_same (wk_same wk_nil))))) (by kernel_rfl) (by kernel_rfl) (Eq.trans (by kernel_rfl) (encs_Expr_eq _).symm)) ?_
       obtain ⟨y28, c28, hs⟩ := bind_some hs
       refine d_loc (F := [(203, .row 34 5 0 (encs_Expr [y2]))]) (R := []) (F' := [(203, .row 34 5 (((encs_Expr [y2])).length) (encs_Expr [y2]))]) (v := .agg (enc_Expr y28)) 3 [203] [] rfl rfl rfl rfl (by kernel_rfl) (by kernel_rfl) (by kernel_rfl) (by kernel_rfl) (by kernel_rfl) (by kernel_rfl) (by kernel_rfl) (by kernel_rfl) (loc_frz (Fa := []) (R := [(203, .row 34 5 0 (encs_Expr [y2]))]) (F2 := [(203, .row 34 5 (((encs_Expr [y2])).length) (encs_Expr [y2]))]) (F1 := [(203, .row 34 5 (((encs_Expr [y2])).length) (encs_Expr [y2]))]) (by kernel_rfl) (loc_g (R := [(203, .row 34 5 (((encs_Expr [y2])).length) (encs_Expr [y2]))]) [.int .i64 15, .sl 5 203 1 0 1] [] (callV_func hbv9 (by kernel_rfl)) (w_greenbeltlaw17_op 15 [y2] _ c28) (.cons (.same _) (.cons (.row (t := 34) (fz := (((encs_Expr [y2])).length)) (by kernel_rfl) (by first | (simp only [List.length_map, List.length_set, cpyT_length]; done) | rfl)) (.nil))) (by kernel_rfl) (by kernel_rfl) (by kernel_rfl) (by kernel_rfl) (by kernel_rfl) (by kernel_rfl) (by kernel_rfl) (by kernel_rfl))) ?_
       obtain ⟨y29, c29, hs⟩ := bind_some hs
       refine d_loc (F := []) (R := []) (F' := []) (v := .int .i64 y29) 4 [] [] rfl rfl rfl rfl (by kernel_rfl) (by kernel_rfl) (by kernel_rfl) (by kernel_rfl) (by kernel_rfl) (by kernel_rfl) (by kernel_rfl) (by kernel_rfl) (loc_gcallB (vs := [.agg [.nils, .nils, .nils, .nils, .nils, .nils, .nils, .int .i64 0], .nils, .nils, .agg (enc_Expr y28)]) (R := []) (callV_func hbv8 (by kernel_rfl)) (w_expr_Eval_2 (Plan.mk [] [] [] [] [] [] [] 0) [] [] y28 _ c29) (.cons (.agg (.cons (.nils _) (.cons (.nils _) (.cons (.nils _) (.cons (.nils _) (.cons (.nils _) (.cons (.nils _) (.cons (.nils _) (.cons (.same _) (.nil)))))))))) (.cons (.nils _) (.cons (.nils _) (.cons (.same _) (.nil))))) (by kernel_rfl) (by kernel_rfl) (by kernel_rfl)) ?_
       refine d_runs 1 5 [(21, .int .i64 y29)] (pfp 1 5) (by kernel_rfl) (by kernel_rfl) ?_
       refine d_nil (by kernel_rfl) ?_
       refine nrm_thenV (v_seq ?_)
       obtain ⟨z5, hs, hk5⟩ := bind_some hs
       refine v_join (S := Bool) (fun u => u = z5) (fun u => [(0, .int .i64 a), (1, .int .i64 b), (2, .int .i64 c), (7, .bool y1), (8, .ptr 8 0 0), (9, .ptr 9 0 0), (10, .ptr 10 0 0), (13, .bool v3), (18, .bool v4), (22, .bool u)]) (fun u => [(10, .box 34 [.int .i64 y3.Op, .int .i64 y3.N, .str y3.S, .str y3.Key, .vs 5 (encs_Expr y3.Args)]), (9, .box 34 [.int .i64 y2.Op, .int .i64 y2.N, .str y2.S, .str y2.Key, .vs 5 (encs_Expr y2.Args)]), (8, .box 31 [.nils, .nils, .nils, .nils, .nils, .nils, .nils, .int .i64 0])]) ?_ (fun v5 hz => ?_)
       ·refine vr_text (o_runs 5 [(210, .bool (!(decide (a = 0)))), (209, .bool (!(decide (a = 0)))), (208, .int .i64 a), (207, .bool (decide (y25 = 1))), (206, .int .i64 y25)] (by kernel_rfl) ?_)
        cases h23 : ((!(decide (a = 0))))
        ·replace hs := bif_f h23 hs
         refine o_runs 5 [(215, .bool ((decide (y25 = 1)) == false)), (214, .bool ((decide (y25 = 1)) == false)), (213, .bool false), (212, .no), (211, .no)] (by kernel_rfl) ?_
         cases h24 : (((decide (y25 = 1)) == false))
         ·replace hs := bif_f h24 hs
          refine o_runs 39 [(22, .bool false), (253, .bool false), (252, .no), (251, .no), (250, .bool false), (249, .bool false), (248, .no), (247, .no), (246, .bool false), (245, .bool false), (244, .no), (243, .no), (242, .bool false), (241, .bool false), (240, .no), (239, .no), (238, .no), (237, .bool false), (236, .bool false), (235, .no), (234, .no), (233, .bool false), (232, .bool false), (231, .no), (230, .no), (229, .no), (228, .no), (227, .no), (226, .bool false), (225, .bool false), (224, .no), (223, .no), (222, .no), (221, .no), (220, .no), (219, .no), (218, .no), (217, .no), (216, .no)] (by kernel_rfl) ?_
          refine ov_nil ?_
          obtain rfl := si hs
          refine nrm_join false rfl ?_
          exact cut_of [0, 1, 2, 7, 8, 9, 10, 13, 18, 22] [10, 9, 8] (by kernel_rfl) (by kernel_rfl) (by kernel_rfl)
         ·replace hs := bif_t h24 hs
          refine o_runs 5 [(220, .bool (!(decide (a = 0)))), (219, .bool (!(decide (a = 0)))), (218, .int .i64 a), (217, .bool (decide (y27 = 1))), (216, .int .i64 y27)] (by kernel_rfl) ?_
          rw [h23]
          refine o_runs 6 [(226, .bool ((decide (y27 = 1)) == (!(decide (b = 0))))), (225, .bool ((decide (y27 = 1)) == (!(decide (b = 0))))), (224, .bool ((decide (y27 = 1)) == (!(decide (b = 0))))), (223, .bool (!(decide (b = 0)))), (222, .bool (!(decide (b = 0)))), (221, .int .i64 b)] (by kernel_rfl) ?_
          cases h25 : (((decide (y27 = 1)) == (!(decide (b = 0)))))
          ·replace hs := bif_f h25 hs
           refine o_runs 28 [(22, .bool false), (253, .bool false), (252, .no), (251, .no), (250, .bool false), (249, .bool false), (248, .no), (247, .no), (246, .bool false), (245, .bool false), (244, .no), (243, .no), (242, .bool false), (241, .bool false), (240, .no), (239, .no), (238, .no), (237, .bool false), (236, .bool false), (235, .no), (234, .no), (233, .bool false), (232, .bool false), (231, .no), (230, .no), (229, .no), (228, .no), (227, .no)] (by kernel_rfl) ?_
           refine ov_nil ?_
           obtain rfl := si hs
           refine nrm_join false rfl ?_
           exact cut_of [0, 1, 2, 7, 8, 9, 10, 13, 18, 22] [10, 9, 8] (by kernel_rfl) (by kernel_rfl) (by kernel_rfl)
          ·replace hs := bif_t h25 hs
           refine o_runs 7 [(233, .bool ((decide (y29 = 1)) == (decide (a = 0)))), (232, .bool ((decide (y29 = 1)) == (decide (a = 0)))), (231, .bool ((decide (y29 = 1)) == (decide (a = 0)))), (230, .bool (decide (a = 0))), (229, .int .i64 a), (228, .bool (decide (y29 = 1))), (227, .int .i64 y29)] (by kernel_rfl) ?_
           cases h26 : (((decide (y29 = 1)) == (decide (a = 0))))
           ·replace hs := bif_f h26 hs
            refine o_runs 21 [(22, .bool false), (253, .bool false), (252, .no), (251, .no), (250, .bool false), (249, .bool false), (248, .no), (247, .no), (246, .bool false), (245, .bool false), (244, .no), (243, .no), (242, .bool false), (241, .bool false), (240, .no), (239, .no), (238, .no), (237, .bool false), (236, .bool false), (235, .no), (234, .no)] (by kernel_rfl) ?_
            refine ov_nil ?_
            obtain rfl := si hs
            refine nrm_join false rfl ?_
            exact cut_of [0, 1, 2, 7, 8, 9, 10, 13, 18, 22] [10, 9, 8] (by kernel_rfl) (by kernel_rfl) (by kernel_rfl)
           ·replace hs := bif_t h26 hs
            refine o_runs 4 [(237, .bool (decide (y25 ≥ 0))), (236, .bool (decide (y25 ≥ 0))), (235, .bool (decide (y25 ≥ 0))), (234, .int .i64 y25)] (by kernel_rfl) ?_
            cases h27 : ((decide (y25 ≥ 0)))
            ·replace hs := bif_f h27 hs
             refine o_runs 17 [(22, .bool false), (253, .bool false), (252, .no), (251, .no), (250, .bool false), (249, .bool false), (248, .no), (247, .no), (246, .bool false), (245, .bool false), (244, .no), (243, .no), (242, .bool false), (241, .bool false), (240, .no), (239, .no), (238, .no)] (by kernel_rfl) ?_
             refine ov_nil ?_
             obtain rfl := si hs
             refine nrm_join false rfl ?_
             exact cut_of [0, 1, 2, 7, 8, 9, 10, 13, 18, 22] [10, 9, 8] (by kernel_rfl) (by kernel_rfl) (by kernel_rfl)
            ·replace hs := bif_t h27 hs
             refine o_runs 5 [(242, .bool (decide (y25 ≤ y27))), (241, .bool (decide (y25 ≤ y27))), (240, .bool (decide (y25 ≤ y27))), (239, .int .i64 y27), (238, .int .i64 y25)] (by kernel_rfl) ?_
             cases h28 : ((decide (y25 ≤ y27)))
             ·replace hs := bif_f h28 hs
              refine o_runs 12 [(22, .bool false), (253, .bool false), (252, .no), (251, .no), (250, .bool false), (249, .bool false), (248, .no), (247, .no), (246, .bool false), (245, .bool false), (244, .no), (243, .no)] (by kernel_rfl) ?_
              refine ov_nil ?_
              obtain rfl := si hs
              refine nrm_join false rfl ?_
              exact cut_of [0, 1, 2, 7, 8, 9, 10, 13, 18, 22] [10, 9, 8] (by kernel_rfl) (by kernel_rfl) (by kernel_rfl)
             ·replace hs := bif_t h28 hs
              refine o_runs 4 [(246, .bool (decide (y27 ≤ 1))), (245, .bool (decide (y27 ≤ 1))), (244, .bool (decide (y27 ≤ 1))), (243, .int .i64 y27)] (by kernel_rfl) ?_
              cases h29 : ((decide (y27 ≤ 1)))
              ·replace hs := bif_f h29 hs
               refine o_runs 8 [(22, .bool false), (253, .bool false), (252, .no), (251, .no), (250, .bool false), (249, .bool false), (248, .no), (247, .no)] (by kernel_rfl) ?_
               refine ov_nil ?_
               obtain rfl := si hs
               refine nrm_join false rfl ?_
               exact cut_of [0, 1, 2, 7, 8, 9, 10, 13, 18, 22] [10, 9, 8] (by kernel_rfl) (by kernel_rfl) (by kernel_rfl)
              ·replace hs := bif_t h29 hs
               refine o_runs 4 [(250, .bool (decide (y29 ≥ 0))), (249, .bool (decide (y29 ≥ 0))), (248, .bool (decide (y29 ≥ 0))), (247, .int .i64 y29)] (by kernel_rfl) ?_
               cases h30 : ((decide (y29 ≥ 0)))
               ·replace hs := bif_f h30 hs
                refine o_runs 4 [(22, .bool false), (253, .bool false), (252, .no), (251, .no)] (by kernel_rfl) ?_
                refine ov_nil ?_
                obtain rfl := si hs
                refine nrm_join false rfl ?_
                exact cut_of [0, 1, 2, 7, 8, 9, 10, 13, 18, 22] [10, 9, 8] (by kernel_rfl) (by kernel_rfl) (by kernel_rfl)
               ·replace hs := bif_t h30 hs
                refine o_runs 4 [(22, .bool (decide (y29 ≤ 1))), (253, .bool (decide (y29 ≤ 1))), (252, .bool (decide (y29 ≤ 1))), (251, .int .i64 y29)] (by kernel_rfl) ?_
                refine ov_nil ?_
                obtain rfl := si hs
                refine nrm_join (decide (y29 ≤ 1)) rfl ?_
                exact cut_of [0, 1, 2, 7, 8, 9, 10, 13, 18, 22] [10, 9, 8] (by kernel_rfl) (by kernel_rfl) (by kernel_rfl)
        ·replace hs := bif_t h23 hs
         refine o_runs 5 [(215, .bool ((decide (y25 = 1)) == (!(decide (b = 0))))), (214, .bool ((decide (y25 = 1)) == (!(decide (b = 0))))), (213, .bool (!(decide (b = 0)))), (212, .bool (!(decide (b = 0)))), (211, .int .i64 b)] (by kernel_rfl) ?_
         cases h31 : (((decide (y25 = 1)) == (!(decide (b = 0)))))
         ·replace hs := bif_f h31 hs
          refine o_runs 39 [(22, .bool false), (253, .bool false), (252, .no), (251, .no), (250, .bool false), (249, .bool false), (248, .no), (247, .no), (246, .bool false), (245, .bool false), (244, .no), (243, .no), (242, .bool false), (241, .bool false), (240, .no), (239, .no), (238, .no), (237, .bool false), (236, .bool false), (235, .no), (234, .no), (233, .bool false), (232, .bool false), (231, .no), (230, .no), (229, .no), (228, .no), (227, .no), (226, .bool false), (225, .bool false), (224, .no), (223, .no), (222, .no), (221, .no), (220, .no), (219, .no), (218, .no), (217, .no), (216, .no)] (by kernel_rfl) ?_
          refine ov_nil ?_
          obtain rfl := si hs
          refine nrm_join false rfl ?_
          exact cut_of [0, 1, 2, 7, 8, 9, 10, 13, 18, 22] [10, 9, 8] (by kernel_rfl) (by kernel_rfl) (by kernel_rfl)
         ·replace hs := bif_t h31 hs
          refine o_runs 5 [(220, .bool (!(decide (a = 0)))), (219, .bool (!(decide (a = 0)))), (218, .int .i64 a), (217, .bool (decide (y27 = 1))), (216, .int .i64 y27)] (by kernel_rfl) ?_
          rw [h23]
          refine o_runs 6 [(226, .bool ((decide (y27 = 1)) == true)), (225, .bool ((decide (y27 = 1)) == true)), (224, .bool ((decide (y27 = 1)) == true)), (223, .bool true), (222, .no), (221, .no)] (by kernel_rfl) ?_
          cases h32 : (((decide (y27 = 1)) == true))
          ·replace hs := bif_f h32 hs
           refine o_runs 28 [(22, .bool false), (253, .bool false), (252, .no), (251, .no), (250, .bool false), (249, .bool false), (248, .no), (247, .no), (246, .bool false), (245, .bool false), (244, .no), (243, .no), (242, .bool false), (241, .bool false), (240, .no), (239, .no), (238, .no), (237, .bool false), (236, .bool false), (235, .no), (234, .no), (233, .bool false), (232, .bool false), (231, .no), (230, .no), (229, .no), (228, .no), (227, .no)] (by kernel_rfl) ?_
           refine ov_nil ?_
           obtain rfl := si hs
           refine nrm_join false rfl ?_
           exact cut_of [0, 1, 2, 7, 8, 9, 10, 13, 18, 22] [10, 9, 8] (by kernel_rfl) (by kernel_rfl) (by kernel_rfl)
          ·replace hs := bif_t h32 hs
           refine o_runs 7 [(233, .bool ((decide (y29 = 1)) == (decide (a = 0)))), (232, .bool ((decide (y29 = 1)) == (decide (a = 0)))), (231, .bool ((decide (y29 = 1)) == (decide (a = 0)))), (230, .bool (decide (a = 0))), (229, .int .i64 a), (228, .bool (decide (y29 = 1))), (227, .int .i64 y29)] (by kernel_rfl) ?_
           cases h33 : (((decide (y29 = 1)) == (decide (a = 0))))
           ·replace hs := bif_f h33 hs
            refine o_runs 21 [(22, .bool false), (253, .bool false), (252, .no), (251, .no), (250, .bool false), (249, .bool false), (248, .no), (247, .no), (246, .bool false), (245, .bool false), (244, .no), (243, .no), (242, .bool false), (241, .bool false), (240, .no), (239, .no), (238, .no), (237, .bool false), (236, .bool false), (235, .no), (234, .no)] (by kernel_rfl) ?_
            refine ov_nil ?_
            obtain rfl := si hs
            refine nrm_join false rfl ?_
            exact cut_of [0, 1, 2, 7, 8, 9, 10, 13, 18, 22] [10, 9, 8] (by kernel_rfl) (by kernel_rfl) (by kernel_rfl)
           ·replace hs := bif_t h33 hs
            refine o_runs 4 [(237, .bool (decide (y25 ≥ 0))), (236, .bool (decide (y25 ≥ 0))), (235, .bool (decide (y25 ≥ 0))), (234, .int .i64 y25)] (by kernel_rfl) ?_
            cases h34 : ((decide (y25 ≥ 0)))
            ·replace hs := bif_f h34 hs
             refine o_runs 17 [(22, .bool false), (253, .bool false), (252, .no), (251, .no), (250, .bool false), (249, .bool false), (248, .no), (247, .no), (246, .bool false), (245, .bool false), (244, .no), (243, .no), (242, .bool false), (241, .bool false), (240, .no), (239, .no), (238, .no)] (by kernel_rfl) ?_
             refine ov_nil ?_
             obtain rfl := si hs
             refine nrm_join false rfl ?_
             exact cut_of [0, 1, 2, 7, 8, 9, 10, 13, 18, 22] [10, 9, 8] (by kernel_rfl) (by kernel_rfl) (by kernel_rfl)
            ·replace hs := bif_t h34 hs
             refine o_runs 5 [(242, .bool (decide (y25 ≤ y27))), (241, .bool (decide (y25 ≤ y27))), (240, .bool (decide (y25 ≤ y27))), (239, .int .i64 y27), (238, .int .i64 y25)] (by kernel_rfl) ?_
             cases h35 : ((decide (y25 ≤ y27)))
             ·replace hs := bif_f h35 hs
              refine o_runs 12 [(22, .bool false), (253, .bool false), (252, .no), (251, .no), (250, .bool false), (249, .bool false), (248, .no), (247, .no), (246, .bool false), (245, .bool false), (244, .no), (243, .no)] (by kernel_rfl) ?_
              refine ov_nil ?_
              obtain rfl := si hs
              refine nrm_join false rfl ?_
              exact cut_of [0, 1, 2, 7, 8, 9, 10, 13, 18, 22] [10, 9, 8] (by kernel_rfl) (by kernel_rfl) (by kernel_rfl)
             ·replace hs := bif_t h35 hs
              refine o_runs 4 [(246, .bool (decide (y27 ≤ 1))), (245, .bool (decide (y27 ≤ 1))), (244, .bool (decide (y27 ≤ 1))), (243, .int .i64 y27)] (by kernel_rfl) ?_
              cases h36 : ((decide (y27 ≤ 1)))
              ·replace hs := bif_f h36 hs
               refine o_runs 8 [(22, .bool false), (253, .bool false), (252, .no), (251, .no), (250, .bool false), (249, .bool false), (248, .no), (247, .no)] (by kernel_rfl) ?_
               refine ov_nil ?_
               obtain rfl := si hs
               refine nrm_join false rfl ?_
               exact cut_of [0, 1, 2, 7, 8, 9, 10, 13, 18, 22] [10, 9, 8] (by kernel_rfl) (by kernel_rfl) (by kernel_rfl)
              ·replace hs := bif_t h36 hs
               refine o_runs 4 [(250, .bool (decide (y29 ≥ 0))), (249, .bool (decide (y29 ≥ 0))), (248, .bool (decide (y29 ≥ 0))), (247, .int .i64 y29)] (by kernel_rfl) ?_
               cases h37 : ((decide (y29 ≥ 0)))
               ·replace hs := bif_f h37 hs
                refine o_runs 4 [(22, .bool false), (253, .bool false), (252, .no), (251, .no)] (by kernel_rfl) ?_
                refine ov_nil ?_
                obtain rfl := si hs
                refine nrm_join false rfl ?_
                exact cut_of [0, 1, 2, 7, 8, 9, 10, 13, 18, 22] [10, 9, 8] (by kernel_rfl) (by kernel_rfl) (by kernel_rfl)
               ·replace hs := bif_t h37 hs
                refine o_runs 4 [(22, .bool (decide (y29 ≤ 1))), (253, .bool (decide (y29 ≤ 1))), (252, .bool (decide (y29 ≤ 1))), (251, .int .i64 y29)] (by kernel_rfl) ?_
                refine ov_nil ?_
                obtain rfl := si hs
                refine nrm_join (decide (y29 ≤ 1)) rfl ?_
                exact cut_of [0, 1, 2, 7, 8, 9, 10, 13, 18, 22] [10, 9, 8] (by kernel_rfl) (by kernel_rfl) (by kernel_rfl)
       ·subst hz; clear hs; have hs := hk5; clear hk5
        refine nrm_thenV (v_seq (v_draw mixedH (by kernel_rfl) ?_))
        refine d_runs 4 0 [(257, .int .i64 c), (256, .agg (enc_Expr y3)), (255, .agg (enc_Expr y2)), (254, .agg [.nils, .nils, .nils, .nils, .nils, .nils, .nils, .int .i64 0])] [⟨3, [], []⟩, ⟨2, [], [10]⟩, ⟨1, [], [9]⟩, ⟨0, [], [8]⟩] (by kernel_rfl) (by kernel_rfl) ?_
        obtain ⟨y30, c30, hs⟩ := bind_some hs
        refine d_pure (v := .agg (enc_Expr y30)) 4 rfl rfl rfl rfl (by kernel_rfl) (by kernel_rfl) (loc_gcall0 (callV_func hbv7 (by kernel_rfl)) (w_greenbeltlaw17_num c _ c30) (by kernel_rfl)) ?_
        refine d_loc (F := []) (R := []) (F' := [(259, .row 34 5 0 (encs_Expr [y2, y3, y30]))]) (v := .sl 5 259 3 0 3) 5 [] [] rfl rfl rfl rfl (by kernel_rfl) (by kernel_rfl) (by kernel_rfl) (by kernel_rfl) (by kernel_rfl) (by kernel_rfl) (by kernel_rfl) (by kernel_rfl) (loc_buildSliceW (e := 34) (sz := 5) (els := [[.int .i64 y2.Op, .int .i64 y2.N, .str y2.S, .str y2.Key, .vs 5 (encs_Expr y2.Args)], [.int .i64 y3.Op, .int .i64 y3.N, .str y3.S, .str y3.Key, .vs 5 (encs_Expr y3.Args)], [.int .i64 y30.Op, .int .i64 y30.N, .str y30.S, .str y30.Key, .vs 5 (encs_Expr y30.Args)]]) (els2 := [[.int .i64 y2.Op, .int .i64 y2.N, .str y2.S, .str y2.Key, .vs 5 (encs_Expr y2.Args)], [.int .i64 y3.Op, .int .i64 y3.N, .str y3.S, .str y3.Key, .vs 5 (encs_Expr y3.Args)], [.int .i64 y30.Op, .int .i64 y30.N, .str y30.S, .str y30.Key, .vs 5 (encs_Expr y30.Args)]]) (fl := [.int .i64 y2.Op, .int .i64 y2.N, .str y2.S, .str y2.Key, .vs 5 (encs_Expr y2.Args), .int .i64 y3.Op, .int .i64 y3.N, .str y3.S, .str y3.Key, .vs 5 (encs_Expr y3.Args), .int .i64 y30.Op, .int .i64 y30.N, .str y30.S, .str y30.Key, .vs 5 (encs_Expr y30.Args)]) (fl2 := [.int .i64 y2.Op, .int .i64 y2.N, .str y2.S, .str y2.Key, .vs 5 (encs_Expr y2.Args), .int .i64 y3.Op, .int .i64 y3.N, .str y3.S, .str y3.Key, .vs 5 (encs_Expr y3.Args), .int .i64 y30.Op, .int .i64 y30.N, .str y30.S, .str y30.Key, .vs 5 (encs_Expr y30.Args)]) (by kernel_rfl) (by kernel_rfl) (by kernel_rfl) (by kernel_rfl) (by kernel_rfl) (wk_same (wk_same (wk_same (wk_same (wk_same (wk_same (wk_same (wk_same (wk_same (wk_same (wk_same (wk_same (wk_same (wk_same (wk_same wk_nil))))))))))))))) (by kernel_rfl) (by kernel_rfl) (Eq.trans (by kernel_rfl) (encs_Expr_eq _).symm)) ?_
        obtain ⟨y31, c31, hs⟩ := bind_some hs
        refine d_loc (F := [(259, .row 34 5 0 (encs_Expr [y2, y3, y30]))]) (R := []) (F' := [(259, .row 34 5 (((encs_Expr [y2, y3, y30])).length) (encs_Expr [y2, y3, y30]))]) (v := .agg (enc_Expr y31)) 6 [259] [] rfl rfl rfl rfl (by kernel_rfl) (by kernel_rfl) (by kernel_rfl) (by kernel_rfl) (by kernel_rfl) (by kernel_rfl) (by kernel_rfl) (by kernel_rfl) (loc_frz (Fa := []) (R := [(259, .row 34 5 0 (encs_Expr [y2, y3, y30]))]) (F2 := [(259, .row 34 5 (((encs_Expr [y2, y3, y30])).length) (encs_Expr [y2, y3, y30]))]) (F1 := [(259, .row 34 5 (((encs_Expr [y2, y3, y30])).length) (encs_Expr [y2, y3, y30]))]) (by kernel_rfl) (loc_g (R := [(259, .row 34 5 (((encs_Expr [y2, y3, y30])).length) (encs_Expr [y2, y3, y30]))]) [.int .i64 16, .sl 5 259 3 0 3] [] (callV_func hbv9 (by kernel_rfl)) (w_greenbeltlaw17_op 16 [y2, y3, y30] _ c31) (.cons (.same _) (.cons (.row (t := 34) (fz := (((encs_Expr [y2, y3, y30])).length)) (by kernel_rfl) (by first | (simp only [List.length_map, List.length_set, cpyT_length]; done) | rfl)) (.nil))) (by kernel_rfl) (by kernel_rfl) (by kernel_rfl) (by kernel_rfl) (by kernel_rfl) (by kernel_rfl) (by kernel_rfl) (by kernel_rfl))) ?_
        obtain ⟨y32, c32, hs⟩ := bind_some hs
        refine d_loc (F := []) (R := []) (F' := []) (v := .int .i64 y32) 7 [] [] rfl rfl rfl rfl (by kernel_rfl) (by kernel_rfl) (by kernel_rfl) (by kernel_rfl) (by kernel_rfl) (by kernel_rfl) (by kernel_rfl) (by kernel_rfl) (loc_gcallB (vs := [.agg [.nils, .nils, .nils, .nils, .nils, .nils, .nils, .int .i64 0], .nils, .nils, .agg (enc_Expr y31)]) (R := []) (callV_func hbv8 (by kernel_rfl)) (w_expr_Eval_2 (Plan.mk [] [] [] [] [] [] [] 0) [] [] y31 _ c32) (.cons (.agg (.cons (.nils _) (.cons (.nils _) (.cons (.nils _) (.cons (.nils _) (.cons (.nils _) (.cons (.nils _) (.cons (.nils _) (.cons (.same _) (.nil)))))))))) (.cons (.nils _) (.cons (.nils _) (.cons (.same _) (.nil))))) (by kernel_rfl) (by kernel_rfl) (by kernel_rfl)) ?_
        refine d_runs 1 8 [(23, .int .i64 y32)] (pfp 1 8) (by kernel_rfl) (by kernel_rfl) ?_
        refine d_nil (by kernel_rfl) ?_
        refine nrm_thenV (v_seq ?_)
        obtain ⟨z6, hs, hk6⟩ := bind_some hs
        refine v_join (S := Bool) (fun u => u = z6) (fun u => [(6, .bool u)]) (fun u => []) ?_ (fun v6 hz => ?_)
        ·refine vr_text (o_runs 2 [(263, .bool y1), (262, .bool y1)] (by kernel_rfl) ?_)
         cases h38 : (y1)
         ·replace hs := bif_f h38 hs
          refine o_runs 27 [(6, .bool false), (289, .bool false), (288, .no), (287, .no), (286, .no), (285, .no), (284, .no), (283, .no), (282, .no), (281, .no), (280, .no), (279, .no), (278, .no), (277, .no), (276, .no), (275, .no), (274, .no), (273, .no), (272, .bool false), (271, .bool false), (270, .no), (269, .bool false), (268, .bool false), (267, .no), (266, .bool false), (265, .bool false), (264, .no)] (by kernel_rfl) ?_
          refine ov_nil ?_
          obtain rfl := si hs
          refine nrm_join false rfl ?_
          exact cut_of [6] [] (by kernel_rfl) (by kernel_rfl) (by kernel_rfl)
         ·replace hs := bif_t h38 hs
          refine o_runs 3 [(266, .bool v3), (265, .bool v3), (264, .bool v3)] (by kernel_rfl) ?_
          cases h39 : (v3)
          ·replace hs := bif_f h39 hs
           refine o_runs 24 [(6, .bool false), (289, .bool false), (288, .no), (287, .no), (286, .no), (285, .no), (284, .no), (283, .no), (282, .no), (281, .no), (280, .no), (279, .no), (278, .no), (277, .no), (276, .no), (275, .no), (274, .no), (273, .no), (272, .bool false), (271, .bool false), (270, .no), (269, .bool false), (268, .bool false), (267, .no)] (by kernel_rfl) ?_
           refine ov_nil ?_
           obtain rfl := si hs
           refine nrm_join false rfl ?_
           exact cut_of [6] [] (by kernel_rfl) (by kernel_rfl) (by kernel_rfl)
          ·replace hs := bif_t h39 hs
           refine o_runs 3 [(269, .bool v4), (268, .bool v4), (267, .bool v4)] (by kernel_rfl) ?_
           cases h40 : (v4)
           ·replace hs := bif_f h40 hs
            refine o_runs 21 [(6, .bool false), (289, .bool false), (288, .no), (287, .no), (286, .no), (285, .no), (284, .no), (283, .no), (282, .no), (281, .no), (280, .no), (279, .no), (278, .no), (277, .no), (276, .no), (275, .no), (274, .no), (273, .no), (272, .bool false), (271, .bool false), (270, .no)] (by kernel_rfl) ?_
            refine ov_nil ?_
            obtain rfl := si hs
            refine nrm_join false rfl ?_
            exact cut_of [6] [] (by kernel_rfl) (by kernel_rfl) (by kernel_rfl)
           ·replace hs := bif_t h40 hs
            refine o_runs 3 [(272, .bool v5), (271, .bool v5), (270, .bool v5)] (by kernel_rfl) ?_
            cases h41 : (v5)
            ·replace hs := bif_f h41 hs
             refine o_runs 18 [(6, .bool false), (289, .bool false), (288, .no), (287, .no), (286, .no), (285, .no), (284, .no), (283, .no), (282, .no), (281, .no), (280, .no), (279, .no), (278, .no), (277, .no), (276, .no), (275, .no), (274, .no), (273, .no)] (by kernel_rfl) ?_
             refine ov_nil ?_
             obtain rfl := si hs
             refine nrm_join false rfl ?_
             exact cut_of [6] [] (by kernel_rfl) (by kernel_rfl) (by kernel_rfl)
            ·replace hs := bif_t h41 hs
             refine o_runs 3 [(275, .bool (!(decide (a = 0)))), (274, .bool (!(decide (a = 0)))), (273, .int .i64 a)] (by kernel_rfl) ?_
             cases h42 : ((!(decide (a = 0))))
             ·replace hs := bif_f h42 hs
              refine o_runs 8 [(283, .bool (decide (a = 0))), (282, .bool (decide (a = 0))), (281, .int .i64 a), (280, .bool false), (279, .bool false), (278, .no), (277, .no), (276, .no)] (by kernel_rfl) ?_
              cases h43 : ((decide (a = 0)))
              ·replace hs := bif_f h43 hs
               refine o_runs 7 [(6, .bool false), (289, .bool false), (288, .bool false), (287, .bool false), (286, .no), (285, .no), (284, .no)] (by kernel_rfl) ?_
               refine ov_nil ?_
               obtain rfl := si hs
               refine nrm_join false rfl ?_
               exact cut_of [6] [] (by kernel_rfl) (by kernel_rfl) (by kernel_rfl)
              ·replace hs := bif_t h43 hs
               refine o_runs 7 [(6, .bool (decide (y32 = c))), (289, .bool (decide (y32 = c))), (288, .bool (decide (y32 = c))), (287, .bool (decide (y32 = c))), (286, .bool (decide (y32 = c))), (285, .int .i64 c), (284, .int .i64 y32)] (by kernel_rfl) ?_
               refine ov_nil ?_
               obtain rfl := si hs
               refine nrm_join (decide (y32 = c)) rfl ?_
               exact cut_of [6] [] (by kernel_rfl) (by kernel_rfl) (by kernel_rfl)
             ·replace hs := bif_t h42 hs
              refine o_runs 5 [(280, .bool (decide (y32 = b))), (279, .bool (decide (y32 = b))), (278, .bool (decide (y32 = b))), (277, .int .i64 b), (276, .int .i64 y32)] (by kernel_rfl) ?_
              cases h44 : ((decide (y32 = b)))
              ·replace hs := bif_f h44 hs
               refine o_runs 3 [(283, .bool (decide (a = 0))), (282, .bool (decide (a = 0))), (281, .int .i64 a)] (by kernel_rfl) ?_
               cases h45 : ((decide (a = 0)))
               ·replace hs := bif_f h45 hs
                refine o_runs 7 [(6, .bool false), (289, .bool false), (288, .bool false), (287, .bool false), (286, .no), (285, .no), (284, .no)] (by kernel_rfl) ?_
                refine ov_nil ?_
                obtain rfl := si hs
                refine nrm_join false rfl ?_
                exact cut_of [6] [] (by kernel_rfl) (by kernel_rfl) (by kernel_rfl)
               ·replace hs := bif_t h45 hs
                refine o_runs 7 [(6, .bool (decide (y32 = c))), (289, .bool (decide (y32 = c))), (288, .bool (decide (y32 = c))), (287, .bool (decide (y32 = c))), (286, .bool (decide (y32 = c))), (285, .int .i64 c), (284, .int .i64 y32)] (by kernel_rfl) ?_
                refine ov_nil ?_
                obtain rfl := si hs
                refine nrm_join (decide (y32 = c)) rfl ?_
                exact cut_of [6] [] (by kernel_rfl) (by kernel_rfl) (by kernel_rfl)
              ·replace hs := bif_t h44 hs
               refine o_runs 10 [(6, .bool true), (289, .bool true), (288, .bool true), (287, .no), (286, .no), (285, .no), (284, .no), (283, .no), (282, .no), (281, .no)] (by kernel_rfl) ?_
               refine ov_nil ?_
               obtain rfl := si hs
               refine nrm_join true rfl ?_
               exact cut_of [6] [] (by kernel_rfl) (by kernel_rfl) (by kernel_rfl)
        ·subst hz; clear hs; have hs := hk6; clear hk6
         refine nrm_thenV (v_ret ?_)
         obtain rfl := si hs
         exact fin_ret (by kernel_rfl) (by kernel_rfl) (by kernel_rfl)
end Go.Proofs.Ytconjkgifdfhdab
