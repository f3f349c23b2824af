/- printed by gen2.py -/
import Derived.Test.YtconjkgifdfhdaaE
import Derived.Test.YtconjkgifdfhdaaSD
import Derived.Test.YtconjkgifdfhdaaSPartA
set_option linter.all false
set_option maxRecDepth 100000
namespace Go.Proofs.Ytconjkgifdfhdaa
open Go Go.RowKit Go.Eng Go.EV
variable [Fuel]

theorem w_define_Unknown (p : Plan) (r : (List (List UInt8))) (hs : s_define_Unknown p = some r) : FnA Try.prog 21 [.agg (enc_Plan p)] [] (.vs 1 (mS r)) [] := by
 refine fnA_of_wp (N := 66) Try.func21 rfl rfl rfl fun cK0 => ?_
 unfold s_define_Unknown at hs
 refine v_same (ρ' := [(0, .agg (enc_Plan p))]) rfl rfl ?_
 refine vS (vT (o_runh 2 [(2, .nils), (1, .ptr 1 0 0)] [(1, .box 30 (enc_Plan p))] kr ?_))
 refine oN (nT (vS (vT (o_runh 3 [(3, .ptr 3 0 0), (14, .mp 14)] [(3, .box 67 [.mp 14]), (14, .map (encM V.str V.bool [])), (1, .box 30 (enc_Plan p))] kr ?_))))
 refine oN (nT (vS (vS (vT (oR 2 [(16, .vs 6 (mM enc_Def p.Defs)), (15, .ptr 1 0 0)] kr ?_)))))
 refine oP (v := .int .i64 (List.length p.Defs : Int)) kr kr (loc_lenVs (sz := 6) (els := (mM enc_Def p.Defs)) kr kr (List.length_map ..)) ?_
 refine oR 1 [(18, .int .i64 0)] kr ?_
 refine oN (nT ?_)
 obtain ⟨z1, hs, hk1⟩ := bS hs
 refine v_join (S := (List ((List UInt8) × Bool))) (fun u => u = z1) (fun u => [(1, .ptr 1 0 0), (3, .ptr 3 0 0)]) (fun u => [(3, .box 67 [.mp 14]), (14, .map (encM V.str V.bool u)), (1, .box 30 (enc_Plan p))]) ?_ (fun v1 hz => ?_)
 ·refine vB ?_
  refine v_fuel (S := Int × (List ((List UInt8) × Bool))) (fun u => [(1, .ptr 1 0 0), (3, .ptr 3 0 0), (16, .vs 6 (mM enc_Def p.Defs)), (17, .int .i64 (List.length p.Defs : Int)), (18, .int .i64 u.1)]) (fun u => [(3, .box 67 [.mp 14]), (14, .map (encM V.str V.bool u.2)), (1, .box 30 (enc_Plan p))]) (s_define_Unknown_L1 p) (fun _ => rfl) KK (0, []) hs (cut_of [1, 3, 16, 17, 18] [3, 14, 1] kr kr kr) (fun K1 q1 hs => ?_)
  rw [s_define_Unknown_L1] at hs
  show WpV cK0 Try.prog none 66 _ _ [(1, .ptr 1 0 0), (3, .ptr 3 0 0), (16, .vs 6 (mM enc_Def p.Defs)), (17, .int .i64 (List.length p.Defs : Int)), (18, .int .i64 q1.1)] [(3, .box 67 [.mp 14]), (14, .map (encM V.str V.bool q1.2)), (1, .box 30 (enc_Plan p))] []
  refine vS (vT (oR 1 [(19, .bool (decide (q1.1 < (List.length p.Defs : Int))))] kr ?_))
  refine oN (nT (vS ?_))
  refine v_cond (decide (q1.1 < (List.length p.Defs : Int))) kr (fun h1 => ?_) (fun h1 => ?_)
  ·replace hs := bif_t h1 hs
   refine vK (nT (vS (vB (vS (vT ?_)))))
   obtain ⟨x1, g1, hs⟩ := bS hs; obtain ⟨g1a, g1b, g1c⟩ := idx_some g1
   refine oP (v := .vp (enc_Def x1) 0) kr kr (loc_indexVs (e := 46) (sz := 6) (k := .i64) (els := (mM enc_Def p.Defs)) (cs := (enc_Def x1)) kr kr kr g1a (by rw [g1c]; exact map_get _ (by omega))) ?_
   refine o_runh 3 [(5, .ptr 5 0 0), (21, .agg (enc_Def x1))] [(5, .box 46 [.str x1.Name, .int .i64 x1.Body.Op, .int .i64 x1.Body.N, .str x1.Body.S, .str x1.Body.Key, .vs 5 (encs_Expr x1.Body.Args)]), (3, .box 67 [.mp 14]), (14, .map (encM V.str V.bool q1.2)), (1, .box 30 (enc_Plan p))] kr ?_
   refine oN (nT (vS (vT (oR 2 [(23, .agg (enc_Expr x1.Body)), (22, .ptr 5 0 1)] kr ?_))))
   obtain ⟨y1, c1, hs⟩ := bS hs
   refine o_loc (F := []) (F' := [(3002400, .box 44 [.int .i64 y1.1, .int .i64 y1.2.1, .str y1.2.2.1, .str y1.2.2.2.1, .vs 5 (encs_Expr y1.2.2.2.2)])]) (v := .fn 59 [] [.ptr 3002400 0 0]) [] kr kr rfl kr (loc_g (R := []) [.agg (enc_Expr x1.Body)] [(1, 3002400)] (callV_func hbv42 kr) (w_define_names x1.Body _ c1) (.cons (.same _) (.nil)) kr kr kr kr kr kr kr kr) kr ?_
   refine oN (nT ?_)
   obtain ⟨z2, hs, hk2⟩ := bS hs
   refine v_join (S := (List ((List UInt8) × Bool))) (fun u => u = z2) (fun u => [(1, .ptr 1 0 0), (3, .ptr 3 0 0), (16, .vs 6 (mM enc_Def p.Defs)), (17, .int .i64 (List.length p.Defs : Int)), (18, .int .i64 q1.1)]) (fun u => [(3, .box 67 [.mp 14]), (14, .map (encM V.str V.bool u)), (1, .box 30 (enc_Plan p))]) ?_ (fun v2 hz => ?_)
   ·refine vB (v_to [(1, .ptr 1 0 0), (3, .ptr 3 0 0), (16, .vs 6 (mM enc_Def p.Defs)), (17, .int .i64 (List.length p.Defs : Int)), (18, .int .i64 q1.1), (24, .fn 59 [] [.ptr 3002400 0 0])] [(3002400, .box 44 [.int .i64 y1.1, .int .i64 y1.2.1, .str y1.2.2.1, .str y1.2.2.2.1, .vs 5 (encs_Expr y1.2.2.2.2)]), (3, .box 67 [.mp 14]), (14, .map (encM V.str V.bool q1.2)), (1, .box 30 (enc_Plan p))] (cut_of [1, 3, 16, 17, 18, 24] [3002400, 3, 14, 1] kr kr kr) ?_)
    refine v_rangeF (Sg := (List ((List UInt8) × Bool))) (enc := V.str) (val := (fun s : List UInt8 => Value.string ⟨s.toArray⟩)) (caps := [.ptr 3002400 0 0]) (F := [(3002400, .box 44 [.int .i64 y1.1, .int .i64 y1.2.1, .str y1.2.2.1, .str y1.2.2.2.1, .vs 5 (encs_Expr y1.2.2.2.2)])]) [3002400] (fun u => [(3002400, .box 44 [.int .i64 y1.1, .int .i64 y1.2.1, .str y1.2.2.1, .str y1.2.2.2.1, .vs 5 (encs_Expr y1.2.2.2.2)]), (3, .box 67 [.mp 14]), (14, .map (encM V.str V.bool u)), (1, .box 30 (enc_Plan p))]) s_define_Unknown_L2 q1.2 kr hbv59 (iter_names 3002400 (Expr.mk y1.1 y1.2.1 y1.2.2.1 y1.2.2.2.1 y1.2.2.2.2)) kr kr (fun _ _ _ => rfl) hs (fun _ => by kernel_rfl) kr (fun lR1 x2 xs1 q2 cR1 hs => ?_) (fun q2 hs => ?_)
    ·rw [s_define_Unknown_L2] at hs
     show WpV cR1 Try.prog (some lR1) 66 _ _ [(6, .str x2), (25, .str x2), (1, .ptr 1 0 0), (3, .ptr 3 0 0), (16, .vs 6 (mM enc_Def p.Defs)), (17, .int .i64 (List.length p.Defs : Int)), (18, .int .i64 q1.1), (24, .fn 59 [] [.ptr 3002400 0 0])] [(3002400, .box 44 [.int .i64 y1.1, .int .i64 y1.2.1, .str y1.2.2.1, .str y1.2.2.2.1, .vs 5 (encs_Expr y1.2.2.2.2)]), (3, .box 67 [.mp 14]), (14, .map (encM V.str V.bool q2)), (1, .box 30 (enc_Plan p))] []
     refine vB (vT (oR 2 [(27, .str x2), (26, .mp 14)] kr ?_))
     refine o_loc (F := [(14, .map (encM V.str V.bool q2))]) (F' := [(14, .map (encM V.str V.bool (mset x2 true q2)))]) (v := .no) [14] kr kr rfl kr (loc_mapUpdate (et := 4) (f := V.str) (g := V.bool) (l := q2) (a := x2) (c := true) kr kok9 kr kr kr kr kr) kr ?_
     refine oN (nB (nrm_round (mset x2 true q2) hs ?_))
     exact cut_of [] [3002400, 3, 14, 1] kr kr kr
    ·rw [s_define_Unknown_L2] at hs
     refine nB ?_
     obtain rfl := si hs
     refine nrm_join q2 rfl ?_
     exact cut_of [1, 3, 16, 17, 18] [3, 14, 1] kr kr kr
   ·subst hz; clear hs; have hs := hk2; clear hk2
    refine nB (nT (vT (oR 2 [(18, .int .i64 (w64 (q1.1 + 1))), (28, .int .i64 (w64 (q1.1 + 1)))] kr ?_)))
    refine oN (nrm_fuel ((w64 (q1.1 + 1)), v2) hs ?_)
    exact cut_of [1, 3, 16, 17, 18] [3, 14, 1] kr kr kr
  ·replace hs := bif_f h1 hs
   refine v_exit (exit_thenV (exit_fuel ?_))
   refine exit_blkV ?_
   obtain rfl := si hs
   refine nrm_join q1.2 rfl ?_
   exact cut_of [1, 3] [3, 14, 1] kr kr kr
 ·subst hz; clear hs; have hs := hk1; clear hk1
  refine nT (vS (vS (vT (oR 2 [(30, .vs 20 (mM enc_Rule p.Rules)), (29, .ptr 1 0 3)] kr ?_))))
  refine oP (v := .int .i64 (List.length p.Rules : Int)) kr kr (loc_lenVs (sz := 20) (els := (mM enc_Rule p.Rules)) kr kr (List.length_map ..)) ?_
  refine oR 1 [(32, .int .i64 0)] kr ?_
  refine oN (nT ?_)
  obtain ⟨z3, hs, hk3⟩ := bS hs
  refine v_join (S := (List ((List UInt8) × Bool))) (fun u => u = z3) (fun u => [(1, .ptr 1 0 0), (3, .ptr 3 0 0)]) (fun u => [(3, .box 67 [.mp 14]), (14, .map (encM V.str V.bool u)), (1, .box 30 (enc_Plan p))]) ?_ (fun v3 hz => ?_)
  ·refine vB ?_
   refine v_fuel (S := Int × (List ((List UInt8) × Bool))) (fun u => [(1, .ptr 1 0 0), (3, .ptr 3 0 0), (30, .vs 20 (mM enc_Rule p.Rules)), (31, .int .i64 (List.length p.Rules : Int)), (32, .int .i64 u.1)]) (fun u => [(3, .box 67 [.mp 14]), (14, .map (encM V.str V.bool u.2)), (1, .box 30 (enc_Plan p))]) (s_define_Unknown_L3 p) (fun _ => rfl) KK (0, v1) hs (cut_of [1, 3, 30, 31, 32] [3, 14, 1] kr kr kr) (fun K2 q3 hs => ?_)
   rw [s_define_Unknown_L3] at hs
   show WpV cK0 Try.prog none 66 _ _ [(1, .ptr 1 0 0), (3, .ptr 3 0 0), (30, .vs 20 (mM enc_Rule p.Rules)), (31, .int .i64 (List.length p.Rules : Int)), (32, .int .i64 q3.1)] [(3, .box 67 [.mp 14]), (14, .map (encM V.str V.bool q3.2)), (1, .box 30 (enc_Plan p))] []
   refine vS (vT (oR 1 [(33, .bool (decide (q3.1 < (List.length p.Rules : Int))))] kr ?_))
   refine oN (nT (vS ?_))
   refine v_cond (decide (q3.1 < (List.length p.Rules : Int))) kr (fun h2 => ?_) (fun h2 => ?_)
   ·replace hs := bif_t h2 hs
    refine vK (nT (vS (vB (vS (vT ?_)))))
    obtain ⟨x3, g2, hs⟩ := bS hs; obtain ⟨g2a, g2b, g2c⟩ := idx_some g2
    refine oP (v := .vp (enc_Rule x3) 0) kr kr (loc_indexVs (e := 66) (sz := 20) (k := .i64) (els := (mM enc_Rule p.Rules)) (cs := (enc_Rule x3)) kr kr kr g2a (by rw [g2c]; exact map_get _ (by omega))) ?_
    refine o_runh 3 [(8, .ptr 8 0 0), (35, .agg (enc_Rule x3))] [(8, .box 66 [.str x3.Name, .vs 1 (mS x3.Zones), .vs 1 (mS x3.Except), .int .i64 x3.From, .int .i64 x3.Until, .int .i64 x3.Grace, .bool x3.Vary, .int .i64 x3.Kind, .int .i64 x3.Test.Op, .int .i64 x3.Test.N, .str x3.Test.S, .str x3.Test.Key, .vs 5 (encs_Expr x3.Test.Args), .int .i64 x3.Plane.Side, .int .i64 x3.Plane.Base, .int .i64 x3.Plane.Num, .int .i64 x3.Plane.Den, .int .i64 x3.Uses, .int .i64 x3.Other, .int .i64 x3.N]), (3, .box 67 [.mp 14]), (14, .map (encM V.str V.bool q3.2)), (1, .box 30 (enc_Plan p))] kr ?_
    refine oN (nT (vS (vT (oR 2 [(37, .agg (enc_Expr x3.Test)), (36, .ptr 8 0 8)] kr ?_))))
    obtain ⟨y2, c2, hs⟩ := bS hs
    refine o_loc (F := []) (F' := [(3003800, .box 44 [.int .i64 y2.1, .int .i64 y2.2.1, .str y2.2.2.1, .str y2.2.2.2.1, .vs 5 (encs_Expr y2.2.2.2.2)])]) (v := .fn 59 [] [.ptr 3003800 0 0]) [] kr kr rfl kr (loc_g (R := []) [.agg (enc_Expr x3.Test)] [(1, 3003800)] (callV_func hbv42 kr) (w_define_names x3.Test _ c2) (.cons (.same _) (.nil)) kr kr kr kr kr kr kr kr) kr ?_
    refine oN (nT ?_)
    obtain ⟨z4, hs, hk4⟩ := bS hs
    refine v_join (S := (List ((List UInt8) × Bool))) (fun u => u = z4) (fun u => [(1, .ptr 1 0 0), (3, .ptr 3 0 0), (30, .vs 20 (mM enc_Rule p.Rules)), (31, .int .i64 (List.length p.Rules : Int)), (32, .int .i64 q3.1)]) (fun u => [(3, .box 67 [.mp 14]), (14, .map (encM V.str V.bool u)), (1, .box 30 (enc_Plan p))]) ?_ (fun v4 hz => ?_)
    ·refine vB (v_to [(1, .ptr 1 0 0), (3, .ptr 3 0 0), (30, .vs 20 (mM enc_Rule p.Rules)), (31, .int .i64 (List.length p.Rules : Int)), (32, .int .i64 q3.1), (38, .fn 59 [] [.ptr 3003800 0 0])] [(3003800, .box 44 [.int .i64 y2.1, .int .i64 y2.2.1, .str y2.2.2.1, .str y2.2.2.2.1, .vs 5 (encs_Expr y2.2.2.2.2)]), (3, .box 67 [.mp 14]), (14, .map (encM V.str V.bool q3.2)), (1, .box 30 (enc_Plan p))] (cut_of [1, 3, 30, 31, 32, 38] [3003800, 3, 14, 1] kr kr kr) ?_)
     refine v_rangeF (Sg := (List ((List UInt8) × Bool))) (enc := V.str) (val := (fun s : List UInt8 => Value.string ⟨s.toArray⟩)) (caps := [.ptr 3003800 0 0]) (F := [(3003800, .box 44 [.int .i64 y2.1, .int .i64 y2.2.1, .str y2.2.2.1, .str y2.2.2.2.1, .vs 5 (encs_Expr y2.2.2.2.2)])]) [3003800] (fun u => [(3003800, .box 44 [.int .i64 y2.1, .int .i64 y2.2.1, .str y2.2.2.1, .str y2.2.2.2.1, .vs 5 (encs_Expr y2.2.2.2.2)]), (3, .box 67 [.mp 14]), (14, .map (encM V.str V.bool u)), (1, .box 30 (enc_Plan p))]) s_define_Unknown_L4 q3.2 kr hbv59 (iter_names 3003800 (Expr.mk y2.1 y2.2.1 y2.2.2.1 y2.2.2.2.1 y2.2.2.2.2)) kr kr (fun _ _ _ => rfl) hs (fun _ => by kernel_rfl) kr (fun lR2 x4 xs2 q4 cR2 hs => ?_) (fun q4 hs => ?_)
     ·rw [s_define_Unknown_L4] at hs
      show WpV cR2 Try.prog (some lR2) 66 _ _ [(9, .str x4), (39, .str x4), (1, .ptr 1 0 0), (3, .ptr 3 0 0), (30, .vs 20 (mM enc_Rule p.Rules)), (31, .int .i64 (List.length p.Rules : Int)), (32, .int .i64 q3.1), (38, .fn 59 [] [.ptr 3003800 0 0])] [(3003800, .box 44 [.int .i64 y2.1, .int .i64 y2.2.1, .str y2.2.2.1, .str y2.2.2.2.1, .vs 5 (encs_Expr y2.2.2.2.2)]), (3, .box 67 [.mp 14]), (14, .map (encM V.str V.bool q4)), (1, .box 30 (enc_Plan p))] []
      refine vB (vT (oR 2 [(41, .str x4), (40, .mp 14)] kr ?_))
      refine o_loc (F := [(14, .map (encM V.str V.bool q4))]) (F' := [(14, .map (encM V.str V.bool (mset x4 true q4)))]) (v := .no) [14] kr kr rfl kr (loc_mapUpdate (et := 4) (f := V.str) (g := V.bool) (l := q4) (a := x4) (c := true) kr kok9 kr kr kr kr kr) kr ?_
      refine oN (nB (nrm_round (mset x4 true q4) hs ?_))
      exact cut_of [] [3003800, 3, 14, 1] kr kr kr
     ·rw [s_define_Unknown_L4] at hs
      refine nB ?_
      obtain rfl := si hs
      refine nrm_join q4 rfl ?_
      exact cut_of [1, 3, 30, 31, 32] [3, 14, 1] kr kr kr
    ·subst hz; clear hs; have hs := hk4; clear hk4
     refine nB (nT (vT (oR 2 [(32, .int .i64 (w64 (q3.1 + 1))), (42, .int .i64 (w64 (q3.1 + 1)))] kr ?_)))
     refine oN (nrm_fuel ((w64 (q3.1 + 1)), v4) hs ?_)
     exact cut_of [1, 3, 30, 31, 32] [3, 14, 1] kr kr kr
   ·replace hs := bif_f h2 hs
    refine v_exit (exit_thenV (exit_fuel ?_))
    refine exit_blkV ?_
    obtain rfl := si hs
    refine nrm_join q3.2 rfl ?_
    exact cut_of [1, 3] [3, 14, 1] kr kr kr
  ·subst hz; clear hs; have hs := hk3; clear hk3
   refine nT (vS (vS (vT (oR 2 [(44, .vs 6 (mM enc_Def p.Defs)), (43, .ptr 1 0 0)] kr ?_))))
   refine oP (v := .int .i64 (List.length p.Defs : Int)) kr kr (loc_lenVs (sz := 6) (els := (mM enc_Def p.Defs)) kr kr (List.length_map ..)) ?_
   refine oR 1 [(46, .int .i64 0)] kr ?_
   refine oN (nT ?_)
   obtain ⟨z5, hs, hk5⟩ := bS hs
   refine v_join (S := (List ((List UInt8) × Bool))) (fun u => u = z5) (fun u => [(3, .ptr 3 0 0)]) (fun u => [(3, .box 67 [.mp 14]), (14, .map (encM V.str V.bool u))]) ?_ (fun v5 hz => ?_)
   ·refine vB ?_
    refine v_fuel (S := Int × (List ((List UInt8) × Bool))) (fun u => [(3, .ptr 3 0 0), (44, .vs 6 (mM enc_Def p.Defs)), (45, .int .i64 (List.length p.Defs : Int)), (46, .int .i64 u.1)]) (fun u => [(3, .box 67 [.mp 14]), (14, .map (encM V.str V.bool u.2))]) (s_define_Unknown_L5 p) (fun _ => rfl) KK (0, v3) hs (cut_of [3, 44, 45, 46] [3, 14] kr kr kr) (fun K3 q5 hs => ?_)
    rw [s_define_Unknown_L5] at hs
    show WpV cK0 Try.prog none 66 _ _ [(3, .ptr 3 0 0), (44, .vs 6 (mM enc_Def p.Defs)), (45, .int .i64 (List.length p.Defs : Int)), (46, .int .i64 q5.1)] [(3, .box 67 [.mp 14]), (14, .map (encM V.str V.bool q5.2))] []
    refine vS (vT (oR 1 [(47, .bool (decide (q5.1 < (List.length p.Defs : Int))))] kr ?_))
    refine oN (nT (vS ?_))
    refine v_cond (decide (q5.1 < (List.length p.Defs : Int))) kr (fun h3 => ?_) (fun h3 => ?_)
    ·replace hs := bif_t h3 hs
     refine vK (nT (vS (vB (vS (vT ?_)))))
     obtain ⟨x5, g3, hs⟩ := bS hs; obtain ⟨g3a, g3b, g3c⟩ := idx_some g3
     refine oP (v := .vp (enc_Def x5) 0) kr kr (loc_indexVs (e := 46) (sz := 6) (k := .i64) (els := (mM enc_Def p.Defs)) (cs := (enc_Def x5)) kr kr kr g3a (by rw [g3c]; exact map_get _ (by omega))) ?_
     refine o_runh 3 [(11, .ptr 11 0 0), (49, .agg (enc_Def x5))] [(11, .box 46 [.str x5.Name, .int .i64 x5.Body.Op, .int .i64 x5.Body.N, .str x5.Body.S, .str x5.Body.Key, .vs 5 (encs_Expr x5.Body.Args)]), (3, .box 67 [.mp 14]), (14, .map (encM V.str V.bool q5.2))] kr ?_
     refine oN (nT (vT (oR 3 [(52, .str x5.Name), (51, .ptr 11 0 0), (50, .mp 14)] kr ?_)))
     refine o_loc (F := [(14, .map (encM V.str V.bool q5.2))]) (F' := [(14, .map (encM V.str V.bool (mdel x5.Name q5.2)))]) (v := .tup []) [14] kr kr rfl kr (loc_mapDelete (et := 4) (f := V.str) (g := V.bool) (l := q5.2) (a := x5.Name) kr kok9 kr kr) kr ?_
     refine oN (nB (nT (vT (oR 2 [(46, .int .i64 (w64 (q5.1 + 1))), (53, .int .i64 (w64 (q5.1 + 1)))] kr ?_))))
     refine oN (nrm_fuel ((w64 (q5.1 + 1)), (mdel x5.Name q5.2)) hs ?_)
     exact cut_of [3, 44, 45, 46] [3, 14] kr kr kr
    ·replace hs := bif_f h3 hs
     refine v_exit (exit_thenV (exit_fuel ?_))
     refine exit_blkV ?_
     obtain rfl := si hs
     refine nrm_join q5.2 rfl ?_
     exact cut_of [3] [3, 14] kr kr kr
   ·subst hz; clear hs; have hs := hk5; clear hk5
    refine nT (vS (vS (vT ?_)))
    obtain ⟨y3, c3, hs⟩ := bS hs
    refine oP (v := .vs 1 (mS y3)) kr kr (loc_gcall0 (callV_func hbv15 kr) (w_define_Measures  _ c3) kr) ?_
    refine oP (v := .int .i64 (List.length y3 : Int)) kr kr (loc_lenVs (sz := 1) (els := (mS y3)) kr kr (List.length_map ..)) ?_
    refine oR 1 [(56, .int .i64 0)] kr ?_
    refine oN (nT ?_)
    obtain ⟨z6, hs, hk6⟩ := bS hs
    refine v_join (S := (List ((List UInt8) × Bool))) (fun u => u = z6) (fun u => [(3, .ptr 3 0 0)]) (fun u => [(3, .box 67 [.mp 14]), (14, .map (encM V.str V.bool u))]) ?_ (fun v6 hz => ?_)
    ·refine vB ?_
     refine v_fuel (S := Int × (List ((List UInt8) × Bool))) (fun u => [(3, .ptr 3 0 0), (54, .vs 1 (mS y3)), (55, .int .i64 (List.length y3 : Int)), (56, .int .i64 u.1)]) (fun u => [(3, .box 67 [.mp 14]), (14, .map (encM V.str V.bool u.2))]) (s_define_Unknown_L6 y3) (fun _ => rfl) KK (0, v5) hs (cut_of [3, 54, 55, 56] [3, 14] kr kr kr) (fun K4 q6 hs => ?_)
     rw [s_define_Unknown_L6] at hs
     show WpV cK0 Try.prog none 66 _ _ [(3, .ptr 3 0 0), (54, .vs 1 (mS y3)), (55, .int .i64 (List.length y3 : Int)), (56, .int .i64 q6.1)] [(3, .box 67 [.mp 14]), (14, .map (encM V.str V.bool q6.2))] []
     refine vS (vT (oR 1 [(57, .bool (decide (q6.1 < (List.length y3 : Int))))] kr ?_))
     refine oN (nT (vS ?_))
     refine v_cond (decide (q6.1 < (List.length y3 : Int))) kr (fun h4 => ?_) (fun h4 => ?_)
     ·replace hs := bif_t h4 hs
      refine vK (nT (vS (vB (vS (vT ?_)))))
      obtain ⟨x6, g4, hs⟩ := bS hs; obtain ⟨g4a, g4b, g4c⟩ := idx_some g4
      refine oP (v := .vp [.str x6] 0) kr kr (loc_indexVs (e := 9) (sz := 1) (k := .i64) (els := (mS y3)) (cs := (EV.encS x6)) kr kr kr g4a (by rw [g4c]; exact map_get _ (by omega))) ?_
      refine oR 2 [(13, .str x6), (59, .str x6)] kr ?_
      refine oN (nT (vT (oR 2 [(61, .str x6), (60, .mp 14)] kr ?_)))
      refine o_loc (F := [(14, .map (encM V.str V.bool q6.2))]) (F' := [(14, .map (encM V.str V.bool (mdel x6 q6.2)))]) (v := .tup []) [14] kr kr rfl kr (loc_mapDelete (et := 4) (f := V.str) (g := V.bool) (l := q6.2) (a := x6) kr kok9 kr kr) kr ?_
      refine oN (nB (nT (vT (oR 2 [(56, .int .i64 (w64 (q6.1 + 1))), (62, .int .i64 (w64 (q6.1 + 1)))] kr ?_))))
      refine oN (nrm_fuel ((w64 (q6.1 + 1)), (mdel x6 q6.2)) hs ?_)
      exact cut_of [3, 54, 55, 56] [3, 14] kr kr kr
     ·replace hs := bif_f h4 hs
      refine v_exit (exit_thenV (exit_fuel ?_))
      refine exit_blkV ?_
      obtain rfl := si hs
      refine nrm_join q6.2 rfl ?_
      exact cut_of [3] [3, 14] kr kr kr
    ·subst hz; clear hs; have hs := hk6; clear hk6
     refine nT (vS (vT (oR 1 [(63, .mp 14)] kr ?_)))
     obtain ⟨y4, c4, hs⟩ := bS hs
     refine o_loc (F := [(14, .map (encM V.str V.bool v6))]) (F' := [(3006400, .box 67 [.mp 14]), (14, .map (encM V.str V.bool v6))]) (v := .fn 62 [] [.ptr 3006400 0 0]) [14] kr kr rfl kr (loc_g (R := []) [.mp 14] [(1000000, 14), (1, 3006400)] (callV_func hbv44 kr) (w_maps_Keys v6 _ c4) (.cons (.same _) (.nil)) kr kr kr kr kr kr kr kr) kr ?_
     obtain ⟨_, g5, hs⟩ := bS hs; replace g5 := grd_some g5
     refine o_loc (F := [(3006400, .box 67 [.mp 14]), (14, .map (encM V.str V.bool v6))]) (F' := [(3006400, .box 67 [.mp 14]), (14, .map (encM V.str V.bool v6))]) (v := .vs 1 (mS (sortKeys v6))) [3006400, 14] kr kr rfl kr (loc_g (R := []) [.fn 62 [] [.ptr 3006400 0 0]] [(1000000, 3006400), (1000001, 14)] (callV_func hbv43 kr) (w_sorted_keys v6 g5) (.cons (.same _) .nil) kr kr kr kr kr kr kr kr) kr ?_
     refine oR 1 [(2, .vs 1 (mS (sortKeys v6)))] kr ?_
     refine oN (nT (v_ret ?_))
     obtain rfl := si hs
     exact fin_ret kr kr kr
theorem w_greenbeltlaw16_small  (r : Bool) (hs : s_greenbeltlaw16_small  = some r) : FnA Try.prog 9 [] [] (.bool r) [] := by
 refine fnA_of_wp (N := 132) Try.func9 rfl rfl rfl fun cK0 => ?_
 unfold s_greenbeltlaw16_small at hs
 refine v_same (ρ' := []) rfl rfl ?_
 refine vS (vT (oR 1 [(0, .bool false)] kr ?_))
 refine oN (nT (vS (vT ?_)))
 obtain ⟨y1, c1, hs⟩ := bS hs
 refine oP (v := .agg (enc_Expr y1)) kr kr (loc_gcall0 (callV_func hbv33 kr) (w_greenbeltlaw16_name ([99] : List UInt8) _ c1) kr) ?_
 refine oR 1 [(18, .agg [.int .i64 0, .int .i64 1, .str [], .str [], .nils])] kr ?_
 refine o_loc (F := []) (F' := [(19, .row 44 5 0 (encs_Expr [y1, (Expr.mk 0 1 [] [] [])]))]) (v := .sl 5 19 2 0 2) [] kr kr rfl kr (loc_buildSliceW (e := 44) (sz := 5) (els := [(enc_Expr y1), [.int .i64 0, .int .i64 1, .str [], .str [], .nils]]) (els2 := [(enc_Expr y1), [.int .i64 0, .int .i64 1, .str [], .str [], .vs 5 []]]) (fl := [.int .i64 y1.Op, .int .i64 y1.N, .str y1.S, .str y1.Key, .vs 5 (encs_Expr y1.Args), .int .i64 0, .int .i64 1, .str [], .str [], .nils]) (fl2 := [.int .i64 y1.Op, .int .i64 y1.N, .str y1.S, .str y1.Key, .vs 5 (encs_Expr y1.Args), .int .i64 0, .int .i64 1, .str [], .str [], .vs 5 []]) kr kr kr kr kr (wk_same (wk_same (wk_same (wk_same (wk_same (wk_same (wk_same (wk_same (wk_same (wk_nils wk_nil)))))))))) kr kr (Eq.trans kr (encs_Expr_eq _).symm)) kr ?_
 refine oR 4 [(23, .agg [.str ([97] : List UInt8), .int .i64 0, .int .i64 2, .str [], .str [], .nils]), (22, .agg [.int .i64 0, .int .i64 2, .str [], .str [], .nils]), (21, .agg [.str ([98] : List UInt8), .int .i64 4, .int .i64 0, .str [], .str [], .sl 5 19 2 0 2]), (20, .agg [.int .i64 4, .int .i64 0, .str [], .str [], .sl 5 19 2 0 2])] kr ?_
 obtain ⟨y2, c2, hs⟩ := bS hs
 refine oP (v := .agg (enc_Expr y2)) kr kr (loc_gcall0 (callV_func hbv33 kr) (w_greenbeltlaw16_name ([97] : List UInt8) _ c2) kr) ?_
 refine oR 1 [(25, .agg [.str ([99] : List UInt8), .int .i64 y2.Op, .int .i64 y2.N, .str y2.S, .str y2.Key, .vs 5 (encs_Expr y2.Args)])] kr ?_
 refine o_to _ [(19, .row 44 5 (((encs_Expr [y1, (Expr.mk 0 1 [] [] [])])).length) (encs_Expr [y1, (Expr.mk 0 1 [] [] [])]))] (cut_freeze (F := [(19, .row 44 5 0 (encs_Expr [y1, (Expr.mk 0 1 [] [] [])]))]) [19] rfl kr kr) ?_
 refine o_to ((21, .agg [.str ([98] : List UInt8), .int .i64 4, .int .i64 0, .str [], .str [], .vs 5 (encs_Expr [y1, (Expr.mk 0 1 [] [] [])])]) :: _) _ (cut_view (R := [(19, .row 44 5 (((encs_Expr [y1, (Expr.mk 0 1 [] [] [])])).length) (encs_Expr [y1, (Expr.mk 0 1 [] [] [])]))]) (ks := [19]) kr kr (.agg (.cons (.same _) (.cons (.same _) (.cons (.same _) (.cons (.same _) (.cons (.same _) (.cons (.row (t := 44) (fz := (((encs_Expr [y1, (Expr.mk 0 1 [] [] [])])).length)) kr (by first | (simp only [encs_Expr_eq, List.length_map, List.length_set, cpyT_length]; done) | rfl)) (.nil))))))))) ?_
 refine o_loc (F := []) (F' := [(26, .row 46 6 0 (mM enc_Def [(Def.mk ([98] : List UInt8) (Expr.mk 4 0 [] [] [y1, (Expr.mk 0 1 [] [] [])])), (Def.mk ([97] : List UInt8) (Expr.mk 0 2 [] [] [])), (Def.mk ([99] : List UInt8) y2)]))]) (v := .sl 6 26 3 0 3) [] kr kr rfl kr (loc_buildSliceW (e := 46) (sz := 6) (els := [[.str ([98] : List UInt8), .int .i64 4, .int .i64 0, .str [], .str [], .vs 5 (encs_Expr [y1, (Expr.mk 0 1 [] [] [])])], [.str ([97] : List UInt8), .int .i64 0, .int .i64 2, .str [], .str [], .nils], [.str ([99] : List UInt8), .int .i64 y2.Op, .int .i64 y2.N, .str y2.S, .str y2.Key, .vs 5 (encs_Expr y2.Args)]]) (els2 := [[.str ([98] : List UInt8), .int .i64 4, .int .i64 0, .str [], .str [], .vs 5 (encs_Expr [y1, (Expr.mk 0 1 [] [] [])])], [.str ([97] : List UInt8), .int .i64 0, .int .i64 2, .str [], .str [], .vs 5 []], [.str ([99] : List UInt8), .int .i64 y2.Op, .int .i64 y2.N, .str y2.S, .str y2.Key, .vs 5 (encs_Expr y2.Args)]]) (fl := [.str ([98] : List UInt8), .int .i64 4, .int .i64 0, .str [], .str [], .vs 5 (encs_Expr [y1, (Expr.mk 0 1 [] [] [])]), .str ([97] : List UInt8), .int .i64 0, .int .i64 2, .str [], .str [], .nils, .str ([99] : List UInt8), .int .i64 y2.Op, .int .i64 y2.N, .str y2.S, .str y2.Key, .vs 5 (encs_Expr y2.Args)]) (fl2 := [.str ([98] : List UInt8), .int .i64 4, .int .i64 0, .str [], .str [], .vs 5 (encs_Expr [y1, (Expr.mk 0 1 [] [] [])]), .str ([97] : List UInt8), .int .i64 0, .int .i64 2, .str [], .str [], .vs 5 [], .str ([99] : List UInt8), .int .i64 y2.Op, .int .i64 y2.N, .str y2.S, .str y2.Key, .vs 5 (encs_Expr y2.Args)]) kr kr kr kr kr (wk_same (wk_same (wk_same (wk_same (wk_same (wk_same (wk_same (wk_same (wk_same (wk_same (wk_same (wk_nils (wk_same (wk_same (wk_same (wk_same (wk_same (wk_same wk_nil)))))))))))))))))) kr kr kr) kr ?_
 refine o_runh 3 [(1, .ptr 1 0 0), (27, .agg [.sl 6 26 3 0 3, .nils, .nils, .nils, .nils, .nils, .nils, .int .i64 0])] [(1, .box 30 [.sl 6 26 3 0 3, .nils, .nils, .nils, .nils, .nils, .nils, .int .i64 0]), (26, .row 46 6 0 (mM enc_Def [(Def.mk ([98] : List UInt8) (Expr.mk 4 0 [] [] [y1, (Expr.mk 0 1 [] [] [])])), (Def.mk ([97] : List UInt8) (Expr.mk 0 2 [] [] [])), (Def.mk ([99] : List UInt8) y2)])), (19, .row 44 5 (((encs_Expr [y1, (Expr.mk 0 1 [] [] [])])).length) (encs_Expr [y1, (Expr.mk 0 1 [] [] [])]))] kr ?_
 refine oN (nT (vS (vT ?_)))
 obtain ⟨y3, c3, hs⟩ := bS hs
 refine oP (v := .agg (enc_Expr y3)) kr kr (loc_gcall0 (callV_func hbv33 kr) (w_greenbeltlaw16_name ([98] : List UInt8) _ c3) kr) ?_
 refine oR 1 [(29, .agg [.str ([97] : List UInt8), .int .i64 y3.Op, .int .i64 y3.N, .str y3.S, .str y3.Key, .vs 5 (encs_Expr y3.Args)])] kr ?_
 obtain ⟨y4, c4, hs⟩ := bS hs
 refine oP (v := .agg (enc_Expr y4)) kr kr (loc_gcall0 (callV_func hbv33 kr) (w_greenbeltlaw16_name ([99] : List UInt8) _ c4) kr) ?_
 refine oR 1 [(31, .agg [.str ([98] : List UInt8), .int .i64 y4.Op, .int .i64 y4.N, .str y4.S, .str y4.Key, .vs 5 (encs_Expr y4.Args)])] kr ?_
 obtain ⟨y5, c5, hs⟩ := bS hs
 refine oP (v := .agg (enc_Expr y5)) kr kr (loc_gcall0 (callV_func hbv33 kr) (w_greenbeltlaw16_name ([98] : List UInt8) _ c5) kr) ?_
 refine o_runh 5 [(2, .ptr 2 0 0), (35, .agg [.sl 6 34 3 0 3, .nils, .nils, .nils, .nils, .nils, .nils, .int .i64 0]), (34, .sl 6 34 3 0 3), (33, .agg [.str ([99] : List UInt8), .int .i64 y5.Op, .int .i64 y5.N, .str y5.S, .str y5.Key, .vs 5 (encs_Expr y5.Args)])] [(2, .box 30 [.sl 6 34 3 0 3, .nils, .nils, .nils, .nils, .nils, .nils, .int .i64 0]), (34, .row 46 6 0 (mM enc_Def [(Def.mk ([97] : List UInt8) y3), (Def.mk ([98] : List UInt8) y4), (Def.mk ([99] : List UInt8) y5)])), (1, .box 30 [.sl 6 26 3 0 3, .nils, .nils, .nils, .nils, .nils, .nils, .int .i64 0]), (26, .row 46 6 0 (mM enc_Def [(Def.mk ([98] : List UInt8) (Expr.mk 4 0 [] [] [y1, (Expr.mk 0 1 [] [] [])])), (Def.mk ([97] : List UInt8) (Expr.mk 0 2 [] [] [])), (Def.mk ([99] : List UInt8) y2)])), (19, .row 44 5 (((encs_Expr [y1, (Expr.mk 0 1 [] [] [])])).length) (encs_Expr [y1, (Expr.mk 0 1 [] [] [])]))] kr ?_
 refine oN (nT (vS (vT (oR 1 [(37, .agg [.sl 6 26 3 0 3, .nils, .nils, .nils, .nils, .nils, .nils, .int .i64 0])] kr ?_))))
 obtain ⟨y6, c6, hs⟩ := bS hs
 refine o_to _ [(26, .row 46 6 (((mM enc_Def [(Def.mk ([98] : List UInt8) (Expr.mk 4 0 [] [] [y1, (Expr.mk 0 1 [] [] [])])), (Def.mk ([97] : List UInt8) (Expr.mk 0 2 [] [] [])), (Def.mk ([99] : List UInt8) y2)])).length) (mM enc_Def [(Def.mk ([98] : List UInt8) (Expr.mk 4 0 [] [] [y1, (Expr.mk 0 1 [] [] [])])), (Def.mk ([97] : List UInt8) (Expr.mk 0 2 [] [] [])), (Def.mk ([99] : List UInt8) y2)])), (2, .box 30 [.sl 6 34 3 0 3, .nils, .nils, .nils, .nils, .nils, .nils, .int .i64 0]), (34, .row 46 6 0 (mM enc_Def [(Def.mk ([97] : List UInt8) y3), (Def.mk ([98] : List UInt8) y4), (Def.mk ([99] : List UInt8) y5)])), (1, .box 30 [.sl 6 26 3 0 3, .nils, .nils, .nils, .nils, .nils, .nils, .int .i64 0]), (19, .row 44 5 (((encs_Expr [y1, (Expr.mk 0 1 [] [] [])])).length) (encs_Expr [y1, (Expr.mk 0 1 [] [] [])]))] (cut_freeze (F := [(26, .row 46 6 0 (mM enc_Def [(Def.mk ([98] : List UInt8) (Expr.mk 4 0 [] [] [y1, (Expr.mk 0 1 [] [] [])])), (Def.mk ([97] : List UInt8) (Expr.mk 0 2 [] [] [])), (Def.mk ([99] : List UInt8) y2)]))]) [26] rfl kr kr) ?_
 refine o_loc (F := [(26, .row 46 6 (((mM enc_Def [(Def.mk ([98] : List UInt8) (Expr.mk 4 0 [] [] [y1, (Expr.mk 0 1 [] [] [])])), (Def.mk ([97] : List UInt8) (Expr.mk 0 2 [] [] [])), (Def.mk ([99] : List UInt8) y2)])).length) (mM enc_Def [(Def.mk ([98] : List UInt8) (Expr.mk 4 0 [] [] [y1, (Expr.mk 0 1 [] [] [])])), (Def.mk ([97] : List UInt8) (Expr.mk 0 2 [] [] [])), (Def.mk ([99] : List UInt8) y2)]))]) (F' := [(26, .row 46 6 (((mM enc_Def [(Def.mk ([98] : List UInt8) (Expr.mk 4 0 [] [] [y1, (Expr.mk 0 1 [] [] [])])), (Def.mk ([97] : List UInt8) (Expr.mk 0 2 [] [] [])), (Def.mk ([99] : List UInt8) y2)])).length) (mM enc_Def [(Def.mk ([98] : List UInt8) (Expr.mk 4 0 [] [] [y1, (Expr.mk 0 1 [] [] [])])), (Def.mk ([97] : List UInt8) (Expr.mk 0 2 [] [] [])), (Def.mk ([99] : List UInt8) y2)]))]) (v := .tup [.vs 1 (mI y6.1), .vs 1 (mS y6.2.1), .int .i64 y6.2.2]) [26] kr kr rfl kr (loc_g (R := [(26, .row 46 6 (((mM enc_Def [(Def.mk ([98] : List UInt8) (Expr.mk 4 0 [] [] [y1, (Expr.mk 0 1 [] [] [])])), (Def.mk ([97] : List UInt8) (Expr.mk 0 2 [] [] [])), (Def.mk ([99] : List UInt8) y2)])).length) (mM enc_Def [(Def.mk ([98] : List UInt8) (Expr.mk 4 0 [] [] [y1, (Expr.mk 0 1 [] [] [])])), (Def.mk ([97] : List UInt8) (Expr.mk 0 2 [] [] [])), (Def.mk ([99] : List UInt8) y2)]))]) [.agg [.sl 6 26 3 0 3, .nils, .nils, .nils, .nils, .nils, .nils, .int .i64 0]] [] (callV_func hbv11 kr) (w_define_Order [(Def.mk ([98] : List UInt8) (Expr.mk 4 0 [] [] [y1, (Expr.mk 0 1 [] [] [])])), (Def.mk ([97] : List UInt8) (Expr.mk 0 2 [] [] [])), (Def.mk ([99] : List UInt8) y2)] [] [] [] [] [] [] 0 _ c6) (.cons (.agg (.cons (.row (t := 46) (fz := (((mM enc_Def [(Def.mk ([98] : List UInt8) (Expr.mk 4 0 [] [] [y1, (Expr.mk 0 1 [] [] [])])), (Def.mk ([97] : List UInt8) (Expr.mk 0 2 [] [] [])), (Def.mk ([99] : List UInt8) y2)])).length)) kr (by first | (simp only [List.length_map, List.length_set, cpyT_length]; done) | rfl)) (.cons (.nils _) (.cons (.nils _) (.cons (.nils _) (.cons (.nils _) (.cons (.nils _) (.cons (.nils _) (.cons (.same _) (.nil)))))))))) (.nil)) kr kr kr kr kr kr kr kr) kr ?_
 refine oR 7 [(5, .int .i64 y6.2.2), (4, .vs 1 (mS y6.2.1)), (3, .vs 1 (mI y6.1)), (41, .int .i64 y6.2.2), (40, .vs 1 (mS y6.2.1)), (39, .vs 1 (mI y6.1)), (36, .tup [.vs 1 (mI y6.1), .vs 1 (mS y6.2.1), .int .i64 y6.2.2])] kr ?_
 refine oN (nT (vS (vT (oR 1 [(43, .agg [.sl 6 34 3 0 3, .nils, .nils, .nils, .nils, .nils, .nils, .int .i64 0])] kr ?_))))
 obtain ⟨y7, c7, hs⟩ := bS hs
 refine o_to _ [(34, .row 46 6 (((mM enc_Def [(Def.mk ([97] : List UInt8) y3), (Def.mk ([98] : List UInt8) y4), (Def.mk ([99] : List UInt8) y5)])).length) (mM enc_Def [(Def.mk ([97] : List UInt8) y3), (Def.mk ([98] : List UInt8) y4), (Def.mk ([99] : List UInt8) y5)])), (26, .row 46 6 (((mM enc_Def [(Def.mk ([98] : List UInt8) (Expr.mk 4 0 [] [] [y1, (Expr.mk 0 1 [] [] [])])), (Def.mk ([97] : List UInt8) (Expr.mk 0 2 [] [] [])), (Def.mk ([99] : List UInt8) y2)])).length) (mM enc_Def [(Def.mk ([98] : List UInt8) (Expr.mk 4 0 [] [] [y1, (Expr.mk 0 1 [] [] [])])), (Def.mk ([97] : List UInt8) (Expr.mk 0 2 [] [] [])), (Def.mk ([99] : List UInt8) y2)])), (2, .box 30 [.sl 6 34 3 0 3, .nils, .nils, .nils, .nils, .nils, .nils, .int .i64 0]), (1, .box 30 [.sl 6 26 3 0 3, .nils, .nils, .nils, .nils, .nils, .nils, .int .i64 0]), (19, .row 44 5 (((encs_Expr [y1, (Expr.mk 0 1 [] [] [])])).length) (encs_Expr [y1, (Expr.mk 0 1 [] [] [])]))] (cut_freeze (F := [(34, .row 46 6 0 (mM enc_Def [(Def.mk ([97] : List UInt8) y3), (Def.mk ([98] : List UInt8) y4), (Def.mk ([99] : List UInt8) y5)]))]) [34] rfl kr kr) ?_
 refine o_loc (F := [(34, .row 46 6 (((mM enc_Def [(Def.mk ([97] : List UInt8) y3), (Def.mk ([98] : List UInt8) y4), (Def.mk ([99] : List UInt8) y5)])).length) (mM enc_Def [(Def.mk ([97] : List UInt8) y3), (Def.mk ([98] : List UInt8) y4), (Def.mk ([99] : List UInt8) y5)]))]) (F' := [(34, .row 46 6 (((mM enc_Def [(Def.mk ([97] : List UInt8) y3), (Def.mk ([98] : List UInt8) y4), (Def.mk ([99] : List UInt8) y5)])).length) (mM enc_Def [(Def.mk ([97] : List UInt8) y3), (Def.mk ([98] : List UInt8) y4), (Def.mk ([99] : List UInt8) y5)]))]) (v := .tup [.vs 1 (mI y7.1), .vs 1 (mS y7.2.1), .int .i64 y7.2.2]) [34] kr kr rfl kr (loc_g (R := [(34, .row 46 6 (((mM enc_Def [(Def.mk ([97] : List UInt8) y3), (Def.mk ([98] : List UInt8) y4), (Def.mk ([99] : List UInt8) y5)])).length) (mM enc_Def [(Def.mk ([97] : List UInt8) y3), (Def.mk ([98] : List UInt8) y4), (Def.mk ([99] : List UInt8) y5)]))]) [.agg [.sl 6 34 3 0 3, .nils, .nils, .nils, .nils, .nils, .nils, .int .i64 0]] [] (callV_func hbv11 kr) (w_define_Order [(Def.mk ([97] : List UInt8) y3), (Def.mk ([98] : List UInt8) y4), (Def.mk ([99] : List UInt8) y5)] [] [] [] [] [] [] 0 _ c7) (.cons (.agg (.cons (.row (t := 46) (fz := (((mM enc_Def [(Def.mk ([97] : List UInt8) y3), (Def.mk ([98] : List UInt8) y4), (Def.mk ([99] : List UInt8) y5)])).length)) kr (by first | (simp only [List.length_map, List.length_set, cpyT_length]; done) | rfl)) (.cons (.nils _) (.cons (.nils _) (.cons (.nils _) (.cons (.nils _) (.cons (.nils _) (.cons (.nils _) (.cons (.same _) (.nil)))))))))) (.nil)) kr kr kr kr kr kr kr kr) kr ?_
 refine oR 7 [(8, .int .i64 y7.2.2), (7, .vs 1 (mS y7.2.1)), (6, .vs 1 (mI y7.1)), (47, .int .i64 y7.2.2), (46, .vs 1 (mS y7.2.1)), (45, .vs 1 (mI y7.1)), (42, .tup [.vs 1 (mI y7.1), .vs 1 (mS y7.2.1), .int .i64 y7.2.2])] kr ?_
 refine oN (nT (vS (vT ?_)))
 obtain ⟨y8, c8, hs⟩ := bS hs
 refine oP (v := .agg (enc_Expr y8)) kr kr (loc_gcall0 (callV_func hbv33 kr) (w_greenbeltlaw16_name ([97] : List UInt8) _ c8) kr) ?_
 refine o_runh 3 [(52, .agg [.sl 6 51 1 0 1, .nils, .nils, .nils, .nils, .nils, .nils, .int .i64 0]), (51, .sl 6 51 1 0 1), (50, .agg [.str ([97] : List UInt8), .int .i64 y8.Op, .int .i64 y8.N, .str y8.S, .str y8.Key, .vs 5 (encs_Expr y8.Args)])] [(51, .row 46 6 0 (mM enc_Def [(Def.mk ([97] : List UInt8) y8)])), (34, .row 46 6 (((mM enc_Def [(Def.mk ([97] : List UInt8) y3), (Def.mk ([98] : List UInt8) y4), (Def.mk ([99] : List UInt8) y5)])).length) (mM enc_Def [(Def.mk ([97] : List UInt8) y3), (Def.mk ([98] : List UInt8) y4), (Def.mk ([99] : List UInt8) y5)])), (26, .row 46 6 (((mM enc_Def [(Def.mk ([98] : List UInt8) (Expr.mk 4 0 [] [] [y1, (Expr.mk 0 1 [] [] [])])), (Def.mk ([97] : List UInt8) (Expr.mk 0 2 [] [] [])), (Def.mk ([99] : List UInt8) y2)])).length) (mM enc_Def [(Def.mk ([98] : List UInt8) (Expr.mk 4 0 [] [] [y1, (Expr.mk 0 1 [] [] [])])), (Def.mk ([97] : List UInt8) (Expr.mk 0 2 [] [] [])), (Def.mk ([99] : List UInt8) y2)])), (2, .box 30 [.sl 6 34 3 0 3, .nils, .nils, .nils, .nils, .nils, .nils, .int .i64 0]), (1, .box 30 [.sl 6 26 3 0 3, .nils, .nils, .nils, .nils, .nils, .nils, .int .i64 0]), (19, .row 44 5 (((encs_Expr [y1, (Expr.mk 0 1 [] [] [])])).length) (encs_Expr [y1, (Expr.mk 0 1 [] [] [])]))] kr ?_
 obtain ⟨y9, c9, hs⟩ := bS hs
 refine o_to _ [(51, .row 46 6 (((mM enc_Def [(Def.mk ([97] : List UInt8) y8)])).length) (mM enc_Def [(Def.mk ([97] : List UInt8) y8)])), (34, .row 46 6 (((mM enc_Def [(Def.mk ([97] : List UInt8) y3), (Def.mk ([98] : List UInt8) y4), (Def.mk ([99] : List UInt8) y5)])).length) (mM enc_Def [(Def.mk ([97] : List UInt8) y3), (Def.mk ([98] : List UInt8) y4), (Def.mk ([99] : List UInt8) y5)])), (26, .row 46 6 (((mM enc_Def [(Def.mk ([98] : List UInt8) (Expr.mk 4 0 [] [] [y1, (Expr.mk 0 1 [] [] [])])), (Def.mk ([97] : List UInt8) (Expr.mk 0 2 [] [] [])), (Def.mk ([99] : List UInt8) y2)])).length) (mM enc_Def [(Def.mk ([98] : List UInt8) (Expr.mk 4 0 [] [] [y1, (Expr.mk 0 1 [] [] [])])), (Def.mk ([97] : List UInt8) (Expr.mk 0 2 [] [] [])), (Def.mk ([99] : List UInt8) y2)])), (2, .box 30 [.sl 6 34 3 0 3, .nils, .nils, .nils, .nils, .nils, .nils, .int .i64 0]), (1, .box 30 [.sl 6 26 3 0 3, .nils, .nils, .nils, .nils, .nils, .nils, .int .i64 0]), (19, .row 44 5 (((encs_Expr [y1, (Expr.mk 0 1 [] [] [])])).length) (encs_Expr [y1, (Expr.mk 0 1 [] [] [])]))] (cut_freeze (F := [(51, .row 46 6 0 (mM enc_Def [(Def.mk ([97] : List UInt8) y8)]))]) [51] rfl kr kr) ?_
 refine o_loc (F := [(51, .row 46 6 (((mM enc_Def [(Def.mk ([97] : List UInt8) y8)])).length) (mM enc_Def [(Def.mk ([97] : List UInt8) y8)]))]) (F' := [(51, .row 46 6 (((mM enc_Def [(Def.mk ([97] : List UInt8) y8)])).length) (mM enc_Def [(Def.mk ([97] : List UInt8) y8)]))]) (v := .tup [.vs 1 (mI y9.1), .vs 1 (mS y9.2.1), .int .i64 y9.2.2]) [51] kr kr rfl kr (loc_g (R := [(51, .row 46 6 (((mM enc_Def [(Def.mk ([97] : List UInt8) y8)])).length) (mM enc_Def [(Def.mk ([97] : List UInt8) y8)]))]) [.agg [.sl 6 51 1 0 1, .nils, .nils, .nils, .nils, .nils, .nils, .int .i64 0]] [] (callV_func hbv11 kr) (w_define_Order [(Def.mk ([97] : List UInt8) y8)] [] [] [] [] [] [] 0 _ c9) (.cons (.agg (.cons (.row (t := 46) (fz := (((mM enc_Def [(Def.mk ([97] : List UInt8) y8)])).length)) kr (by first | (simp only [List.length_map, List.length_set, cpyT_length]; done) | rfl)) (.cons (.nils _) (.cons (.nils _) (.cons (.nils _) (.cons (.nils _) (.cons (.nils _) (.cons (.nils _) (.cons (.same _) (.nil)))))))))) (.nil)) kr kr kr kr kr kr kr kr) kr ?_
 refine oR 7 [(11, .int .i64 y9.2.2), (10, .vs 1 (mS y9.2.1)), (9, .vs 1 (mI y9.1)), (56, .int .i64 y9.2.2), (55, .vs 1 (mS y9.2.1)), (54, .vs 1 (mI y9.1)), (48, .tup [.vs 1 (mI y9.1), .vs 1 (mS y9.2.1), .int .i64 y9.2.2])] kr ?_
 refine oN (nT (vS (vT (oR 2 [(59, .agg [.str ([104, 101, 105, 103, 104, 116] : List UInt8), .int .i64 0, .int .i64 3, .str [], .str [], .nils]), (58, .agg [.int .i64 0, .int .i64 3, .str [], .str [], .nils])] kr ?_))))
 refine o_loc (F := []) (F' := [(60, .row 46 6 0 (mM enc_Def [(Def.mk ([104, 101, 105, 103, 104, 116] : List UInt8) (Expr.mk 0 3 [] [] []))]))]) (v := .sl 6 60 1 0 1) [] kr kr rfl kr (loc_buildSliceW (e := 46) (sz := 6) (els := [[.str ([104, 101, 105, 103, 104, 116] : List UInt8), .int .i64 0, .int .i64 3, .str [], .str [], .nils]]) (els2 := [[.str ([104, 101, 105, 103, 104, 116] : List UInt8), .int .i64 0, .int .i64 3, .str [], .str [], .vs 5 []]]) (fl := [.str ([104, 101, 105, 103, 104, 116] : List UInt8), .int .i64 0, .int .i64 3, .str [], .str [], .nils]) (fl2 := [.str ([104, 101, 105, 103, 104, 116] : List UInt8), .int .i64 0, .int .i64 3, .str [], .str [], .vs 5 []]) kr kr kr kr kr (wk_same (wk_same (wk_same (wk_same (wk_same (wk_nils wk_nil)))))) kr kr kr) kr ?_
 refine oR 1 [(61, .agg [.sl 6 60 1 0 1, .nils, .nils, .nils, .nils, .nils, .nils, .int .i64 0])] kr ?_
 obtain ⟨y10, c10, hs⟩ := bS hs
 refine o_to _ [(60, .row 46 6 (((mM enc_Def [(Def.mk ([104, 101, 105, 103, 104, 116] : List UInt8) (Expr.mk 0 3 [] [] []))])).length) (mM enc_Def [(Def.mk ([104, 101, 105, 103, 104, 116] : List UInt8) (Expr.mk 0 3 [] [] []))])), (51, .row 46 6 (((mM enc_Def [(Def.mk ([97] : List UInt8) y8)])).length) (mM enc_Def [(Def.mk ([97] : List UInt8) y8)])), (34, .row 46 6 (((mM enc_Def [(Def.mk ([97] : List UInt8) y3), (Def.mk ([98] : List UInt8) y4), (Def.mk ([99] : List UInt8) y5)])).length) (mM enc_Def [(Def.mk ([97] : List UInt8) y3), (Def.mk ([98] : List UInt8) y4), (Def.mk ([99] : List UInt8) y5)])), (26, .row 46 6 (((mM enc_Def [(Def.mk ([98] : List UInt8) (Expr.mk 4 0 [] [] [y1, (Expr.mk 0 1 [] [] [])])), (Def.mk ([97] : List UInt8) (Expr.mk 0 2 [] [] [])), (Def.mk ([99] : List UInt8) y2)])).length) (mM enc_Def [(Def.mk ([98] : List UInt8) (Expr.mk 4 0 [] [] [y1, (Expr.mk 0 1 [] [] [])])), (Def.mk ([97] : List UInt8) (Expr.mk 0 2 [] [] [])), (Def.mk ([99] : List UInt8) y2)])), (2, .box 30 [.sl 6 34 3 0 3, .nils, .nils, .nils, .nils, .nils, .nils, .int .i64 0]), (1, .box 30 [.sl 6 26 3 0 3, .nils, .nils, .nils, .nils, .nils, .nils, .int .i64 0]), (19, .row 44 5 (((encs_Expr [y1, (Expr.mk 0 1 [] [] [])])).length) (encs_Expr [y1, (Expr.mk 0 1 [] [] [])]))] (cut_freeze (F := [(60, .row 46 6 0 (mM enc_Def [(Def.mk ([104, 101, 105, 103, 104, 116] : List UInt8) (Expr.mk 0 3 [] [] []))]))]) [60] rfl kr kr) ?_
 refine o_loc (F := [(60, .row 46 6 (((mM enc_Def [(Def.mk ([104, 101, 105, 103, 104, 116] : List UInt8) (Expr.mk 0 3 [] [] []))])).length) (mM enc_Def [(Def.mk ([104, 101, 105, 103, 104, 116] : List UInt8) (Expr.mk 0 3 [] [] []))]))]) (F' := [(60, .row 46 6 (((mM enc_Def [(Def.mk ([104, 101, 105, 103, 104, 116] : List UInt8) (Expr.mk 0 3 [] [] []))])).length) (mM enc_Def [(Def.mk ([104, 101, 105, 103, 104, 116] : List UInt8) (Expr.mk 0 3 [] [] []))]))]) (v := .tup [.vs 1 (mI y10.1), .vs 1 (mS y10.2.1), .int .i64 y10.2.2]) [60] kr kr rfl kr (loc_g (R := [(60, .row 46 6 (((mM enc_Def [(Def.mk ([104, 101, 105, 103, 104, 116] : List UInt8) (Expr.mk 0 3 [] [] []))])).length) (mM enc_Def [(Def.mk ([104, 101, 105, 103, 104, 116] : List UInt8) (Expr.mk 0 3 [] [] []))]))]) [.agg [.sl 6 60 1 0 1, .nils, .nils, .nils, .nils, .nils, .nils, .int .i64 0]] [] (callV_func hbv11 kr) (w_define_Order [(Def.mk ([104, 101, 105, 103, 104, 116] : List UInt8) (Expr.mk 0 3 [] [] []))] [] [] [] [] [] [] 0 _ c10) (.cons (.agg (.cons (.row (t := 46) (fz := (((mM enc_Def [(Def.mk ([104, 101, 105, 103, 104, 116] : List UInt8) (Expr.mk 0 3 [] [] []))])).length)) kr (by first | (simp only [List.length_map, List.length_set, cpyT_length]; done) | rfl)) (.cons (.nils _) (.cons (.nils _) (.cons (.nils _) (.cons (.nils _) (.cons (.nils _) (.cons (.nils _) (.cons (.same _) (.nil)))))))))) (.nil)) kr kr kr kr kr kr kr kr) kr ?_
 refine oR 7 [(14, .int .i64 y10.2.2), (13, .vs 1 (mS y10.2.1)), (12, .vs 1 (mI y10.1)), (65, .int .i64 y10.2.2), (64, .vs 1 (mS y10.2.1)), (63, .vs 1 (mI y10.1)), (57, .tup [.vs 1 (mI y10.1), .vs 1 (mS y10.2.1), .int .i64 y10.2.2])] kr ?_
 refine oN (nT (vS ?_))
 obtain ⟨z1, hs, hk1⟩ := bS hs
 refine v_join (S := Bool) (fun u => u = z1) (fun u => [(1, .ptr 1 0 0), (2, .ptr 2 0 0), (9, .vs 1 (mI y9.1)), (10, .vs 1 (mS y9.2.1)), (11, .int .i64 y9.2.2), (14, .int .i64 y10.2.2), (15, .bool u)]) (fun u => [(34, .row 46 6 (((mM enc_Def [(Def.mk ([97] : List UInt8) y3), (Def.mk ([98] : List UInt8) y4), (Def.mk ([99] : List UInt8) y5)])).length) (mM enc_Def [(Def.mk ([97] : List UInt8) y3), (Def.mk ([98] : List UInt8) y4), (Def.mk ([99] : List UInt8) y5)])), (26, .row 46 6 (((mM enc_Def [(Def.mk ([98] : List UInt8) (Expr.mk 4 0 [] [] [y1, (Expr.mk 0 1 [] [] [])])), (Def.mk ([97] : List UInt8) (Expr.mk 0 2 [] [] [])), (Def.mk ([99] : List UInt8) y2)])).length) (mM enc_Def [(Def.mk ([98] : List UInt8) (Expr.mk 4 0 [] [] [y1, (Expr.mk 0 1 [] [] [])])), (Def.mk ([97] : List UInt8) (Expr.mk 0 2 [] [] [])), (Def.mk ([99] : List UInt8) y2)])), (2, .box 30 [.sl 6 34 (([(Def.mk ([97] : List UInt8) y3), (Def.mk ([98] : List UInt8) y4), (Def.mk ([99] : List UInt8) y5)]).length) 0 (([(Def.mk ([97] : List UInt8) y3), (Def.mk ([98] : List UInt8) y4), (Def.mk ([99] : List UInt8) y5)]).length), .nils, .nils, .nils, .nils, .nils, .nils, .int .i64 0]), (1, .box 30 [.sl 6 26 (([(Def.mk ([98] : List UInt8) (Expr.mk 4 0 [] [] [y1, (Expr.mk 0 1 [] [] [])])), (Def.mk ([97] : List UInt8) (Expr.mk 0 2 [] [] [])), (Def.mk ([99] : List UInt8) y2)]).length) 0 (([(Def.mk ([98] : List UInt8) (Expr.mk 4 0 [] [] [y1, (Expr.mk 0 1 [] [] [])])), (Def.mk ([97] : List UInt8) (Expr.mk 0 2 [] [] [])), (Def.mk ([99] : List UInt8) y2)]).length), .nils, .nils, .nils, .nils, .nils, .nils, .int .i64 0])]) ?_ (fun v1 hz => ?_)
 ·refine vT (oR 3 [(68, .bool (decide (y6.2.2 = 0))), (67, .bool (decide (y6.2.2 = 0))), (66, .int .i64 y6.2.2)] kr ?_)
  cases h1 : ((decide (y6.2.2 = 0)))
  ·replace hs := bif_f h1 hs
   refine oR 24 [(15, .bool false), (91, .bool false), (90, .no), (89, .no), (88, .no), (87, .bool false), (86, .bool false), (85, .no), (84, .no), (83, .no), (82, .bool false), (81, .bool false), (80, .no), (79, .no), (78, .bool false), (77, .bool false), (76, .no), (75, .no), (74, .no), (73, .bool false), (72, .bool false), (71, .no), (70, .no), (69, .no)] kr ?_
   refine oN ?_
   obtain rfl := si hs
   refine nrm_join false rfl ?_
   exact Cut.trans (cut_same (H1 := [(60, .row 46 6 (((mM enc_Def [(Def.mk ([104, 101, 105, 103, 104, 116] : List UInt8) (Expr.mk 0 3 [] [] []))])).length) (mM enc_Def [(Def.mk ([104, 101, 105, 103, 104, 116] : List UInt8) (Expr.mk 0 3 [] [] []))])), (51, .row 46 6 (((mM enc_Def [(Def.mk ([97] : List UInt8) y8)])).length) (mM enc_Def [(Def.mk ([97] : List UInt8) y8)])), (34, .row 46 6 (((mM enc_Def [(Def.mk ([97] : List UInt8) y3), (Def.mk ([98] : List UInt8) y4), (Def.mk ([99] : List UInt8) y5)])).length) (mM enc_Def [(Def.mk ([97] : List UInt8) y3), (Def.mk ([98] : List UInt8) y4), (Def.mk ([99] : List UInt8) y5)])), (26, .row 46 6 (((mM enc_Def [(Def.mk ([98] : List UInt8) (Expr.mk 4 0 [] [] [y1, (Expr.mk 0 1 [] [] [])])), (Def.mk ([97] : List UInt8) (Expr.mk 0 2 [] [] [])), (Def.mk ([99] : List UInt8) y2)])).length) (mM enc_Def [(Def.mk ([98] : List UInt8) (Expr.mk 4 0 [] [] [y1, (Expr.mk 0 1 [] [] [])])), (Def.mk ([97] : List UInt8) (Expr.mk 0 2 [] [] [])), (Def.mk ([99] : List UInt8) y2)])), (2, .box 30 [.sl 6 34 3 0 3, .nils, .nils, .nils, .nils, .nils, .nils, .int .i64 0]), (1, .box 30 [.sl 6 26 3 0 3, .nils, .nils, .nils, .nils, .nils, .nils, .int .i64 0]), (19, .row 44 5 (((encs_Expr [y1, (Expr.mk 0 1 [] [] [])])).length) (encs_Expr [y1, (Expr.mk 0 1 [] [] [])]))]) rfl kr) (Cut.trans (cut_same (H1 := [(60, .row 46 6 (((mM enc_Def [(Def.mk ([104, 101, 105, 103, 104, 116] : List UInt8) (Expr.mk 0 3 [] [] []))])).length) (mM enc_Def [(Def.mk ([104, 101, 105, 103, 104, 116] : List UInt8) (Expr.mk 0 3 [] [] []))])), (51, .row 46 6 (((mM enc_Def [(Def.mk ([97] : List UInt8) y8)])).length) (mM enc_Def [(Def.mk ([97] : List UInt8) y8)])), (34, .row 46 6 (((mM enc_Def [(Def.mk ([97] : List UInt8) y3), (Def.mk ([98] : List UInt8) y4), (Def.mk ([99] : List UInt8) y5)])).length) (mM enc_Def [(Def.mk ([97] : List UInt8) y3), (Def.mk ([98] : List UInt8) y4), (Def.mk ([99] : List UInt8) y5)])), (26, .row 46 6 (((mM enc_Def [(Def.mk ([98] : List UInt8) (Expr.mk 4 0 [] [] [y1, (Expr.mk 0 1 [] [] [])])), (Def.mk ([97] : List UInt8) (Expr.mk 0 2 [] [] [])), (Def.mk ([99] : List UInt8) y2)])).length) (mM enc_Def [(Def.mk ([98] : List UInt8) (Expr.mk 4 0 [] [] [y1, (Expr.mk 0 1 [] [] [])])), (Def.mk ([97] : List UInt8) (Expr.mk 0 2 [] [] [])), (Def.mk ([99] : List UInt8) y2)])), (2, .box 30 [.sl 6 34 (([(Def.mk ([97] : List UInt8) y3), (Def.mk ([98] : List UInt8) y4), (Def.mk ([99] : List UInt8) y5)]).length) 0 (([(Def.mk ([97] : List UInt8) y3), (Def.mk ([98] : List UInt8) y4), (Def.mk ([99] : List UInt8) y5)]).length), .nils, .nils, .nils, .nils, .nils, .nils, .int .i64 0]), (1, .box 30 [.sl 6 26 (([(Def.mk ([98] : List UInt8) (Expr.mk 4 0 [] [] [y1, (Expr.mk 0 1 [] [] [])])), (Def.mk ([97] : List UInt8) (Expr.mk 0 2 [] [] [])), (Def.mk ([99] : List UInt8) y2)]).length) 0 (([(Def.mk ([98] : List UInt8) (Expr.mk 4 0 [] [] [y1, (Expr.mk 0 1 [] [] [])])), (Def.mk ([97] : List UInt8) (Expr.mk 0 2 [] [] [])), (Def.mk ([99] : List UInt8) y2)]).length), .nils, .nils, .nils, .nils, .nils, .nils, .int .i64 0]), (19, .row 44 5 (((encs_Expr [y1, (Expr.mk 0 1 [] [] [])])).length) (encs_Expr [y1, (Expr.mk 0 1 [] [] [])]))]) rfl (by first | (simp only [List.length_set, cpyT_length]; done) | rfl)) (cut_of [1, 2, 9, 10, 11, 14, 15] [34, 26, 2, 1] kr kr kr))
  ·replace hs := bif_t h1 hs
   refine o_runh 2 [(70, .sl 1 70 3 0 3), (69, .vs 1 (mI y6.1))] [(70, .row 3 1 0 (mI [1, 2, 0])), (60, .row 46 6 (((mM enc_Def [(Def.mk ([104, 101, 105, 103, 104, 116] : List UInt8) (Expr.mk 0 3 [] [] []))])).length) (mM enc_Def [(Def.mk ([104, 101, 105, 103, 104, 116] : List UInt8) (Expr.mk 0 3 [] [] []))])), (51, .row 46 6 (((mM enc_Def [(Def.mk ([97] : List UInt8) y8)])).length) (mM enc_Def [(Def.mk ([97] : List UInt8) y8)])), (34, .row 46 6 (((mM enc_Def [(Def.mk ([97] : List UInt8) y3), (Def.mk ([98] : List UInt8) y4), (Def.mk ([99] : List UInt8) y5)])).length) (mM enc_Def [(Def.mk ([97] : List UInt8) y3), (Def.mk ([98] : List UInt8) y4), (Def.mk ([99] : List UInt8) y5)])), (26, .row 46 6 (((mM enc_Def [(Def.mk ([98] : List UInt8) (Expr.mk 4 0 [] [] [y1, (Expr.mk 0 1 [] [] [])])), (Def.mk ([97] : List UInt8) (Expr.mk 0 2 [] [] [])), (Def.mk ([99] : List UInt8) y2)])).length) (mM enc_Def [(Def.mk ([98] : List UInt8) (Expr.mk 4 0 [] [] [y1, (Expr.mk 0 1 [] [] [])])), (Def.mk ([97] : List UInt8) (Expr.mk 0 2 [] [] [])), (Def.mk ([99] : List UInt8) y2)])), (2, .box 30 [.sl 6 34 3 0 3, .nils, .nils, .nils, .nils, .nils, .nils, .int .i64 0]), (1, .box 30 [.sl 6 26 3 0 3, .nils, .nils, .nils, .nils, .nils, .nils, .int .i64 0]), (19, .row 44 5 (((encs_Expr [y1, (Expr.mk 0 1 [] [] [])])).length) (encs_Expr [y1, (Expr.mk 0 1 [] [] [])]))] kr ?_
   obtain ⟨y11, c11, hs⟩ := bS hs
   refine o_loc (F := [(70, .row 3 1 0 (mI [1, 2, 0]))]) (F' := [(70, .row 3 1 0 (mI [1, 2, 0]))]) (v := .bool y11) [70] kr kr rfl kr (loc_gcallB (vs := [.vs 1 (mI y6.1), .sl 1 70 3 0 3]) (R := [(70, .row 3 1 0 (mI [1, 2, 0]))]) (callV_func hbv13 kr) (w_greenbeltref01_SameNums y6.1 [1, 2, 0] _ c11) (.cons (.same _) (.cons (.row (t := 3) (fz := 0) kr (by first | (simp only [List.length_map, List.length_set, cpyT_length]; done) | rfl)) (.nil))) kr kr kr) kr ?_
   refine oR 2 [(73, .bool y11), (72, .bool y11)] kr ?_
   cases h2 : (y11)
   ·replace hs := bif_f h2 hs
    refine oR 19 [(15, .bool false), (91, .bool false), (90, .no), (89, .no), (88, .no), (87, .bool false), (86, .bool false), (85, .no), (84, .no), (83, .no), (82, .bool false), (81, .bool false), (80, .no), (79, .no), (78, .bool false), (77, .bool false), (76, .no), (75, .no), (74, .no)] kr ?_
    refine oN ?_
    obtain rfl := si hs
    refine nrm_join false rfl ?_
    exact Cut.trans (cut_same (H1 := [(70, .row 3 1 0 (mI [1, 2, 0])), (60, .row 46 6 (((mM enc_Def [(Def.mk ([104, 101, 105, 103, 104, 116] : List UInt8) (Expr.mk 0 3 [] [] []))])).length) (mM enc_Def [(Def.mk ([104, 101, 105, 103, 104, 116] : List UInt8) (Expr.mk 0 3 [] [] []))])), (51, .row 46 6 (((mM enc_Def [(Def.mk ([97] : List UInt8) y8)])).length) (mM enc_Def [(Def.mk ([97] : List UInt8) y8)])), (34, .row 46 6 (((mM enc_Def [(Def.mk ([97] : List UInt8) y3), (Def.mk ([98] : List UInt8) y4), (Def.mk ([99] : List UInt8) y5)])).length) (mM enc_Def [(Def.mk ([97] : List UInt8) y3), (Def.mk ([98] : List UInt8) y4), (Def.mk ([99] : List UInt8) y5)])), (26, .row 46 6 (((mM enc_Def [(Def.mk ([98] : List UInt8) (Expr.mk 4 0 [] [] [y1, (Expr.mk 0 1 [] [] [])])), (Def.mk ([97] : List UInt8) (Expr.mk 0 2 [] [] [])), (Def.mk ([99] : List UInt8) y2)])).length) (mM enc_Def [(Def.mk ([98] : List UInt8) (Expr.mk 4 0 [] [] [y1, (Expr.mk 0 1 [] [] [])])), (Def.mk ([97] : List UInt8) (Expr.mk 0 2 [] [] [])), (Def.mk ([99] : List UInt8) y2)])), (2, .box 30 [.sl 6 34 3 0 3, .nils, .nils, .nils, .nils, .nils, .nils, .int .i64 0]), (1, .box 30 [.sl 6 26 3 0 3, .nils, .nils, .nils, .nils, .nils, .nils, .int .i64 0]), (19, .row 44 5 (((encs_Expr [y1, (Expr.mk 0 1 [] [] [])])).length) (encs_Expr [y1, (Expr.mk 0 1 [] [] [])]))]) rfl kr) (Cut.trans (cut_same (H1 := [(70, .row 3 1 0 (mI [1, 2, 0])), (60, .row 46 6 (((mM enc_Def [(Def.mk ([104, 101, 105, 103, 104, 116] : List UInt8) (Expr.mk 0 3 [] [] []))])).length) (mM enc_Def [(Def.mk ([104, 101, 105, 103, 104, 116] : List UInt8) (Expr.mk 0 3 [] [] []))])), (51, .row 46 6 (((mM enc_Def [(Def.mk ([97] : List UInt8) y8)])).length) (mM enc_Def [(Def.mk ([97] : List UInt8) y8)])), (34, .row 46 6 (((mM enc_Def [(Def.mk ([97] : List UInt8) y3), (Def.mk ([98] : List UInt8) y4), (Def.mk ([99] : List UInt8) y5)])).length) (mM enc_Def [(Def.mk ([97] : List UInt8) y3), (Def.mk ([98] : List UInt8) y4), (Def.mk ([99] : List UInt8) y5)])), (26, .row 46 6 (((mM enc_Def [(Def.mk ([98] : List UInt8) (Expr.mk 4 0 [] [] [y1, (Expr.mk 0 1 [] [] [])])), (Def.mk ([97] : List UInt8) (Expr.mk 0 2 [] [] [])), (Def.mk ([99] : List UInt8) y2)])).length) (mM enc_Def [(Def.mk ([98] : List UInt8) (Expr.mk 4 0 [] [] [y1, (Expr.mk 0 1 [] [] [])])), (Def.mk ([97] : List UInt8) (Expr.mk 0 2 [] [] [])), (Def.mk ([99] : List UInt8) y2)])), (2, .box 30 [.sl 6 34 (([(Def.mk ([97] : List UInt8) y3), (Def.mk ([98] : List UInt8) y4), (Def.mk ([99] : List UInt8) y5)]).length) 0 (([(Def.mk ([97] : List UInt8) y3), (Def.mk ([98] : List UInt8) y4), (Def.mk ([99] : List UInt8) y5)]).length), .nils, .nils, .nils, .nils, .nils, .nils, .int .i64 0]), (1, .box 30 [.sl 6 26 (([(Def.mk ([98] : List UInt8) (Expr.mk 4 0 [] [] [y1, (Expr.mk 0 1 [] [] [])])), (Def.mk ([97] : List UInt8) (Expr.mk 0 2 [] [] [])), (Def.mk ([99] : List UInt8) y2)]).length) 0 (([(Def.mk ([98] : List UInt8) (Expr.mk 4 0 [] [] [y1, (Expr.mk 0 1 [] [] [])])), (Def.mk ([97] : List UInt8) (Expr.mk 0 2 [] [] [])), (Def.mk ([99] : List UInt8) y2)]).length), .nils, .nils, .nils, .nils, .nils, .nils, .int .i64 0]), (19, .row 44 5 (((encs_Expr [y1, (Expr.mk 0 1 [] [] [])])).length) (encs_Expr [y1, (Expr.mk 0 1 [] [] [])]))]) rfl (by first | (simp only [List.length_set, cpyT_length]; done) | rfl)) (cut_of [1, 2, 9, 10, 11, 14, 15] [34, 26, 2, 1] kr kr kr))
   ·replace hs := bif_t h2 hs
    refine oR 1 [(74, .vs 1 (mS y6.2.1))] kr ?_
    refine oP (v := .int .i64 (List.length y6.2.1 : Int)) kr kr (loc_lenVs (sz := 1) (els := (mS y6.2.1)) kr kr (List.length_map ..)) ?_
    refine oR 3 [(78, .bool (decide ((List.length y6.2.1 : Int) = 0))), (77, .bool (decide ((List.length y6.2.1 : Int) = 0))), (76, .bool (decide ((List.length y6.2.1 : Int) = 0)))] kr ?_
    cases h3 : ((decide ((List.length y6.2.1 : Int) = 0)))
    ·replace hs := bif_f h3 hs
     refine oR 14 [(15, .bool false), (91, .bool false), (90, .no), (89, .no), (88, .no), (87, .bool false), (86, .bool false), (85, .no), (84, .no), (83, .no), (82, .bool false), (81, .bool false), (80, .no), (79, .no)] kr ?_
     refine oN ?_
     obtain rfl := si hs
     refine nrm_join false rfl ?_
     exact Cut.trans (cut_same (H1 := [(70, .row 3 1 0 (mI [1, 2, 0])), (60, .row 46 6 (((mM enc_Def [(Def.mk ([104, 101, 105, 103, 104, 116] : List UInt8) (Expr.mk 0 3 [] [] []))])).length) (mM enc_Def [(Def.mk ([104, 101, 105, 103, 104, 116] : List UInt8) (Expr.mk 0 3 [] [] []))])), (51, .row 46 6 (((mM enc_Def [(Def.mk ([97] : List UInt8) y8)])).length) (mM enc_Def [(Def.mk ([97] : List UInt8) y8)])), (34, .row 46 6 (((mM enc_Def [(Def.mk ([97] : List UInt8) y3), (Def.mk ([98] : List UInt8) y4), (Def.mk ([99] : List UInt8) y5)])).length) (mM enc_Def [(Def.mk ([97] : List UInt8) y3), (Def.mk ([98] : List UInt8) y4), (Def.mk ([99] : List UInt8) y5)])), (26, .row 46 6 (((mM enc_Def [(Def.mk ([98] : List UInt8) (Expr.mk 4 0 [] [] [y1, (Expr.mk 0 1 [] [] [])])), (Def.mk ([97] : List UInt8) (Expr.mk 0 2 [] [] [])), (Def.mk ([99] : List UInt8) y2)])).length) (mM enc_Def [(Def.mk ([98] : List UInt8) (Expr.mk 4 0 [] [] [y1, (Expr.mk 0 1 [] [] [])])), (Def.mk ([97] : List UInt8) (Expr.mk 0 2 [] [] [])), (Def.mk ([99] : List UInt8) y2)])), (2, .box 30 [.sl 6 34 3 0 3, .nils, .nils, .nils, .nils, .nils, .nils, .int .i64 0]), (1, .box 30 [.sl 6 26 3 0 3, .nils, .nils, .nils, .nils, .nils, .nils, .int .i64 0]), (19, .row 44 5 (((encs_Expr [y1, (Expr.mk 0 1 [] [] [])])).length) (encs_Expr [y1, (Expr.mk 0 1 [] [] [])]))]) rfl kr) (Cut.trans (cut_same (H1 := [(70, .row 3 1 0 (mI [1, 2, 0])), (60, .row 46 6 (((mM enc_Def [(Def.mk ([104, 101, 105, 103, 104, 116] : List UInt8) (Expr.mk 0 3 [] [] []))])).length) (mM enc_Def [(Def.mk ([104, 101, 105, 103, 104, 116] : List UInt8) (Expr.mk 0 3 [] [] []))])), (51, .row 46 6 (((mM enc_Def [(Def.mk ([97] : List UInt8) y8)])).length) (mM enc_Def [(Def.mk ([97] : List UInt8) y8)])), (34, .row 46 6 (((mM enc_Def [(Def.mk ([97] : List UInt8) y3), (Def.mk ([98] : List UInt8) y4), (Def.mk ([99] : List UInt8) y5)])).length) (mM enc_Def [(Def.mk ([97] : List UInt8) y3), (Def.mk ([98] : List UInt8) y4), (Def.mk ([99] : List UInt8) y5)])), (26, .row 46 6 (((mM enc_Def [(Def.mk ([98] : List UInt8) (Expr.mk 4 0 [] [] [y1, (Expr.mk 0 1 [] [] [])])), (Def.mk ([97] : List UInt8) (Expr.mk 0 2 [] [] [])), (Def.mk ([99] : List UInt8) y2)])).length) (mM enc_Def [(Def.mk ([98] : List UInt8) (Expr.mk 4 0 [] [] [y1, (Expr.mk 0 1 [] [] [])])), (Def.mk ([97] : List UInt8) (Expr.mk 0 2 [] [] [])), (Def.mk ([99] : List UInt8) y2)])), (2, .box 30 [.sl 6 34 (([(Def.mk ([97] : List UInt8) y3), (Def.mk ([98] : List UInt8) y4), (Def.mk ([99] : List UInt8) y5)]).length) 0 (([(Def.mk ([97] : List UInt8) y3), (Def.mk ([98] : List UInt8) y4), (Def.mk ([99] : List UInt8) y5)]).length), .nils, .nils, .nils, .nils, .nils, .nils, .int .i64 0]), (1, .box 30 [.sl 6 26 (([(Def.mk ([98] : List UInt8) (Expr.mk 4 0 [] [] [y1, (Expr.mk 0 1 [] [] [])])), (Def.mk ([97] : List UInt8) (Expr.mk 0 2 [] [] [])), (Def.mk ([99] : List UInt8) y2)]).length) 0 (([(Def.mk ([98] : List UInt8) (Expr.mk 4 0 [] [] [y1, (Expr.mk 0 1 [] [] [])])), (Def.mk ([97] : List UInt8) (Expr.mk 0 2 [] [] [])), (Def.mk ([99] : List UInt8) y2)]).length), .nils, .nils, .nils, .nils, .nils, .nils, .int .i64 0]), (19, .row 44 5 (((encs_Expr [y1, (Expr.mk 0 1 [] [] [])])).length) (encs_Expr [y1, (Expr.mk 0 1 [] [] [])]))]) rfl (by first | (simp only [List.length_set, cpyT_length]; done) | rfl)) (cut_of [1, 2, 9, 10, 11, 14, 15] [34, 26, 2, 1] kr kr kr))
    ·replace hs := bif_t h3 hs
     refine oR 4 [(82, .bool (decide (y7.2.2 = 16))), (81, .bool (decide (y7.2.2 = 16))), (80, .bool (decide (y7.2.2 = 16))), (79, .int .i64 y7.2.2)] kr ?_
     cases h4 : ((decide (y7.2.2 = 16)))
     ·replace hs := bif_f h4 hs
      refine oR 10 [(15, .bool false), (91, .bool false), (90, .no), (89, .no), (88, .no), (87, .bool false), (86, .bool false), (85, .no), (84, .no), (83, .no)] kr ?_
      refine oN ?_
      obtain rfl := si hs
      refine nrm_join false rfl ?_
      exact Cut.trans (cut_same (H1 := [(70, .row 3 1 0 (mI [1, 2, 0])), (60, .row 46 6 (((mM enc_Def [(Def.mk ([104, 101, 105, 103, 104, 116] : List UInt8) (Expr.mk 0 3 [] [] []))])).length) (mM enc_Def [(Def.mk ([104, 101, 105, 103, 104, 116] : List UInt8) (Expr.mk 0 3 [] [] []))])), (51, .row 46 6 (((mM enc_Def [(Def.mk ([97] : List UInt8) y8)])).length) (mM enc_Def [(Def.mk ([97] : List UInt8) y8)])), (34, .row 46 6 (((mM enc_Def [(Def.mk ([97] : List UInt8) y3), (Def.mk ([98] : List UInt8) y4), (Def.mk ([99] : List UInt8) y5)])).length) (mM enc_Def [(Def.mk ([97] : List UInt8) y3), (Def.mk ([98] : List UInt8) y4), (Def.mk ([99] : List UInt8) y5)])), (26, .row 46 6 (((mM enc_Def [(Def.mk ([98] : List UInt8) (Expr.mk 4 0 [] [] [y1, (Expr.mk 0 1 [] [] [])])), (Def.mk ([97] : List UInt8) (Expr.mk 0 2 [] [] [])), (Def.mk ([99] : List UInt8) y2)])).length) (mM enc_Def [(Def.mk ([98] : List UInt8) (Expr.mk 4 0 [] [] [y1, (Expr.mk 0 1 [] [] [])])), (Def.mk ([97] : List UInt8) (Expr.mk 0 2 [] [] [])), (Def.mk ([99] : List UInt8) y2)])), (2, .box 30 [.sl 6 34 3 0 3, .nils, .nils, .nils, .nils, .nils, .nils, .int .i64 0]), (1, .box 30 [.sl 6 26 3 0 3, .nils, .nils, .nils, .nils, .nils, .nils, .int .i64 0]), (19, .row 44 5 (((encs_Expr [y1, (Expr.mk 0 1 [] [] [])])).length) (encs_Expr [y1, (Expr.mk 0 1 [] [] [])]))]) rfl kr) (Cut.trans (cut_same (H1 := [(70, .row 3 1 0 (mI [1, 2, 0])), (60, .row 46 6 (((mM enc_Def [(Def.mk ([104, 101, 105, 103, 104, 116] : List UInt8) (Expr.mk 0 3 [] [] []))])).length) (mM enc_Def [(Def.mk ([104, 101, 105, 103, 104, 116] : List UInt8) (Expr.mk 0 3 [] [] []))])), (51, .row 46 6 (((mM enc_Def [(Def.mk ([97] : List UInt8) y8)])).length) (mM enc_Def [(Def.mk ([97] : List UInt8) y8)])), (34, .row 46 6 (((mM enc_Def [(Def.mk ([97] : List UInt8) y3), (Def.mk ([98] : List UInt8) y4), (Def.mk ([99] : List UInt8) y5)])).length) (mM enc_Def [(Def.mk ([97] : List UInt8) y3), (Def.mk ([98] : List UInt8) y4), (Def.mk ([99] : List UInt8) y5)])), (26, .row 46 6 (((mM enc_Def [(Def.mk ([98] : List UInt8) (Expr.mk 4 0 [] [] [y1, (Expr.mk 0 1 [] [] [])])), (Def.mk ([97] : List UInt8) (Expr.mk 0 2 [] [] [])), (Def.mk ([99] : List UInt8) y2)])).length) (mM enc_Def [(Def.mk ([98] : List UInt8) (Expr.mk 4 0 [] [] [y1, (Expr.mk 0 1 [] [] [])])), (Def.mk ([97] : List UInt8) (Expr.mk 0 2 [] [] [])), (Def.mk ([99] : List UInt8) y2)])), (2, .box 30 [.sl 6 34 (([(Def.mk ([97] : List UInt8) y3), (Def.mk ([98] : List UInt8) y4), (Def.mk ([99] : List UInt8) y5)]).length) 0 (([(Def.mk ([97] : List UInt8) y3), (Def.mk ([98] : List UInt8) y4), (Def.mk ([99] : List UInt8) y5)]).length), .nils, .nils, .nils, .nils, .nils, .nils, .int .i64 0]), (1, .box 30 [.sl 6 26 (([(Def.mk ([98] : List UInt8) (Expr.mk 4 0 [] [] [y1, (Expr.mk 0 1 [] [] [])])), (Def.mk ([97] : List UInt8) (Expr.mk 0 2 [] [] [])), (Def.mk ([99] : List UInt8) y2)]).length) 0 (([(Def.mk ([98] : List UInt8) (Expr.mk 4 0 [] [] [y1, (Expr.mk 0 1 [] [] [])])), (Def.mk ([97] : List UInt8) (Expr.mk 0 2 [] [] [])), (Def.mk ([99] : List UInt8) y2)]).length), .nils, .nils, .nils, .nils, .nils, .nils, .int .i64 0]), (19, .row 44 5 (((encs_Expr [y1, (Expr.mk 0 1 [] [] [])])).length) (encs_Expr [y1, (Expr.mk 0 1 [] [] [])]))]) rfl (by first | (simp only [List.length_set, cpyT_length]; done) | rfl)) (cut_of [1, 2, 9, 10, 11, 14, 15] [34, 26, 2, 1] kr kr kr))
     ·replace hs := bif_t h4 hs
      refine oR 1 [(83, .vs 1 (mI y7.1))] kr ?_
      refine oP (v := .int .i64 (List.length y7.1 : Int)) kr kr (loc_lenVs (sz := 1) (els := (mI y7.1)) kr kr (List.length_map ..)) ?_
      refine oR 3 [(87, .bool (decide ((List.length y7.1 : Int) = 0))), (86, .bool (decide ((List.length y7.1 : Int) = 0))), (85, .bool (decide ((List.length y7.1 : Int) = 0)))] kr ?_
      cases h5 : ((decide ((List.length y7.1 : Int) = 0)))
      ·replace hs := bif_f h5 hs
       refine oR 5 [(15, .bool false), (91, .bool false), (90, .no), (89, .no), (88, .no)] kr ?_
       refine oN ?_
       obtain rfl := si hs
       refine nrm_join false rfl ?_
       exact Cut.trans (cut_same (H1 := [(70, .row 3 1 0 (mI [1, 2, 0])), (60, .row 46 6 (((mM enc_Def [(Def.mk ([104, 101, 105, 103, 104, 116] : List UInt8) (Expr.mk 0 3 [] [] []))])).length) (mM enc_Def [(Def.mk ([104, 101, 105, 103, 104, 116] : List UInt8) (Expr.mk 0 3 [] [] []))])), (51, .row 46 6 (((mM enc_Def [(Def.mk ([97] : List UInt8) y8)])).length) (mM enc_Def [(Def.mk ([97] : List UInt8) y8)])), (34, .row 46 6 (((mM enc_Def [(Def.mk ([97] : List UInt8) y3), (Def.mk ([98] : List UInt8) y4), (Def.mk ([99] : List UInt8) y5)])).length) (mM enc_Def [(Def.mk ([97] : List UInt8) y3), (Def.mk ([98] : List UInt8) y4), (Def.mk ([99] : List UInt8) y5)])), (26, .row 46 6 (((mM enc_Def [(Def.mk ([98] : List UInt8) (Expr.mk 4 0 [] [] [y1, (Expr.mk 0 1 [] [] [])])), (Def.mk ([97] : List UInt8) (Expr.mk 0 2 [] [] [])), (Def.mk ([99] : List UInt8) y2)])).length) (mM enc_Def [(Def.mk ([98] : List UInt8) (Expr.mk 4 0 [] [] [y1, (Expr.mk 0 1 [] [] [])])), (Def.mk ([97] : List UInt8) (Expr.mk 0 2 [] [] [])), (Def.mk ([99] : List UInt8) y2)])), (2, .box 30 [.sl 6 34 3 0 3, .nils, .nils, .nils, .nils, .nils, .nils, .int .i64 0]), (1, .box 30 [.sl 6 26 3 0 3, .nils, .nils, .nils, .nils, .nils, .nils, .int .i64 0]), (19, .row 44 5 (((encs_Expr [y1, (Expr.mk 0 1 [] [] [])])).length) (encs_Expr [y1, (Expr.mk 0 1 [] [] [])]))]) rfl kr) (Cut.trans (cut_same (H1 := [(70, .row 3 1 0 (mI [1, 2, 0])), (60, .row 46 6 (((mM enc_Def [(Def.mk ([104, 101, 105, 103, 104, 116] : List UInt8) (Expr.mk 0 3 [] [] []))])).length) (mM enc_Def [(Def.mk ([104, 101, 105, 103, 104, 116] : List UInt8) (Expr.mk 0 3 [] [] []))])), (51, .row 46 6 (((mM enc_Def [(Def.mk ([97] : List UInt8) y8)])).length) (mM enc_Def [(Def.mk ([97] : List UInt8) y8)])), (34, .row 46 6 (((mM enc_Def [(Def.mk ([97] : List UInt8) y3), (Def.mk ([98] : List UInt8) y4), (Def.mk ([99] : List UInt8) y5)])).length) (mM enc_Def [(Def.mk ([97] : List UInt8) y3), (Def.mk ([98] : List UInt8) y4), (Def.mk ([99] : List UInt8) y5)])), (26, .row 46 6 (((mM enc_Def [(Def.mk ([98] : List UInt8) (Expr.mk 4 0 [] [] [y1, (Expr.mk 0 1 [] [] [])])), (Def.mk ([97] : List UInt8) (Expr.mk 0 2 [] [] [])), (Def.mk ([99] : List UInt8) y2)])).length) (mM enc_Def [(Def.mk ([98] : List UInt8) (Expr.mk 4 0 [] [] [y1, (Expr.mk 0 1 [] [] [])])), (Def.mk ([97] : List UInt8) (Expr.mk 0 2 [] [] [])), (Def.mk ([99] : List UInt8) y2)])), (2, .box 30 [.sl 6 34 (([(Def.mk ([97] : List UInt8) y3), (Def.mk ([98] : List UInt8) y4), (Def.mk ([99] : List UInt8) y5)]).length) 0 (([(Def.mk ([97] : List UInt8) y3), (Def.mk ([98] : List UInt8) y4), (Def.mk ([99] : List UInt8) y5)]).length), .nils, .nils, .nils, .nils, .nils, .nils, .int .i64 0]), (1, .box 30 [.sl 6 26 (([(Def.mk ([98] : List UInt8) (Expr.mk 4 0 [] [] [y1, (Expr.mk 0 1 [] [] [])])), (Def.mk ([97] : List UInt8) (Expr.mk 0 2 [] [] [])), (Def.mk ([99] : List UInt8) y2)]).length) 0 (([(Def.mk ([98] : List UInt8) (Expr.mk 4 0 [] [] [y1, (Expr.mk 0 1 [] [] [])])), (Def.mk ([97] : List UInt8) (Expr.mk 0 2 [] [] [])), (Def.mk ([99] : List UInt8) y2)]).length), .nils, .nils, .nils, .nils, .nils, .nils, .int .i64 0]), (19, .row 44 5 (((encs_Expr [y1, (Expr.mk 0 1 [] [] [])])).length) (encs_Expr [y1, (Expr.mk 0 1 [] [] [])]))]) rfl (by first | (simp only [List.length_set, cpyT_length]; done) | rfl)) (cut_of [1, 2, 9, 10, 11, 14, 15] [34, 26, 2, 1] kr kr kr))
      ·replace hs := bif_t h5 hs
       refine o_runh 2 [(89, .sl 1 89 2 0 2), (88, .vs 1 (mS y7.2.1))] [(89, .row 9 1 0 (mS [([98] : List UInt8), ([99] : List UInt8)])), (70, .row 3 1 0 (mI [1, 2, 0])), (60, .row 46 6 (((mM enc_Def [(Def.mk ([104, 101, 105, 103, 104, 116] : List UInt8) (Expr.mk 0 3 [] [] []))])).length) (mM enc_Def [(Def.mk ([104, 101, 105, 103, 104, 116] : List UInt8) (Expr.mk 0 3 [] [] []))])), (51, .row 46 6 (((mM enc_Def [(Def.mk ([97] : List UInt8) y8)])).length) (mM enc_Def [(Def.mk ([97] : List UInt8) y8)])), (34, .row 46 6 (((mM enc_Def [(Def.mk ([97] : List UInt8) y3), (Def.mk ([98] : List UInt8) y4), (Def.mk ([99] : List UInt8) y5)])).length) (mM enc_Def [(Def.mk ([97] : List UInt8) y3), (Def.mk ([98] : List UInt8) y4), (Def.mk ([99] : List UInt8) y5)])), (26, .row 46 6 (((mM enc_Def [(Def.mk ([98] : List UInt8) (Expr.mk 4 0 [] [] [y1, (Expr.mk 0 1 [] [] [])])), (Def.mk ([97] : List UInt8) (Expr.mk 0 2 [] [] [])), (Def.mk ([99] : List UInt8) y2)])).length) (mM enc_Def [(Def.mk ([98] : List UInt8) (Expr.mk 4 0 [] [] [y1, (Expr.mk 0 1 [] [] [])])), (Def.mk ([97] : List UInt8) (Expr.mk 0 2 [] [] [])), (Def.mk ([99] : List UInt8) y2)])), (2, .box 30 [.sl 6 34 3 0 3, .nils, .nils, .nils, .nils, .nils, .nils, .int .i64 0]), (1, .box 30 [.sl 6 26 3 0 3, .nils, .nils, .nils, .nils, .nils, .nils, .int .i64 0]), (19, .row 44 5 (((encs_Expr [y1, (Expr.mk 0 1 [] [] [])])).length) (encs_Expr [y1, (Expr.mk 0 1 [] [] [])]))] kr ?_
       obtain ⟨y12, c12, hs⟩ := bS hs
       refine o_loc (F := [(89, .row 9 1 0 (mS [([98] : List UInt8), ([99] : List UInt8)]))]) (F' := [(89, .row 9 1 0 (mS [([98] : List UInt8), ([99] : List UInt8)]))]) (v := .bool y12) [89] kr kr rfl kr (loc_gcallB (vs := [.vs 1 (mS y7.2.1), .sl 1 89 2 0 2]) (R := [(89, .row 9 1 0 (mS [([98] : List UInt8), ([99] : List UInt8)]))]) (callV_func hbv14 kr) (w_greenbeltref01_SameTexts y7.2.1 [([98] : List UInt8), ([99] : List UInt8)] _ c12) (.cons (.same _) (.cons (.row (t := 9) (fz := 0) kr (by first | (simp only [List.length_map, List.length_set, cpyT_length]; done) | rfl)) (.nil))) kr kr kr) kr ?_
       refine oR 2 [(15, .bool y12), (91, .bool y12)] kr ?_
       refine oN ?_
       obtain rfl := si hs
       refine nrm_join y12 rfl ?_
       exact Cut.trans (cut_same (H1 := [(89, .row 9 1 0 (mS [([98] : List UInt8), ([99] : List UInt8)])), (70, .row 3 1 0 (mI [1, 2, 0])), (60, .row 46 6 (((mM enc_Def [(Def.mk ([104, 101, 105, 103, 104, 116] : List UInt8) (Expr.mk 0 3 [] [] []))])).length) (mM enc_Def [(Def.mk ([104, 101, 105, 103, 104, 116] : List UInt8) (Expr.mk 0 3 [] [] []))])), (51, .row 46 6 (((mM enc_Def [(Def.mk ([97] : List UInt8) y8)])).length) (mM enc_Def [(Def.mk ([97] : List UInt8) y8)])), (34, .row 46 6 (((mM enc_Def [(Def.mk ([97] : List UInt8) y3), (Def.mk ([98] : List UInt8) y4), (Def.mk ([99] : List UInt8) y5)])).length) (mM enc_Def [(Def.mk ([97] : List UInt8) y3), (Def.mk ([98] : List UInt8) y4), (Def.mk ([99] : List UInt8) y5)])), (26, .row 46 6 (((mM enc_Def [(Def.mk ([98] : List UInt8) (Expr.mk 4 0 [] [] [y1, (Expr.mk 0 1 [] [] [])])), (Def.mk ([97] : List UInt8) (Expr.mk 0 2 [] [] [])), (Def.mk ([99] : List UInt8) y2)])).length) (mM enc_Def [(Def.mk ([98] : List UInt8) (Expr.mk 4 0 [] [] [y1, (Expr.mk 0 1 [] [] [])])), (Def.mk ([97] : List UInt8) (Expr.mk 0 2 [] [] [])), (Def.mk ([99] : List UInt8) y2)])), (2, .box 30 [.sl 6 34 3 0 3, .nils, .nils, .nils, .nils, .nils, .nils, .int .i64 0]), (1, .box 30 [.sl 6 26 3 0 3, .nils, .nils, .nils, .nils, .nils, .nils, .int .i64 0]), (19, .row 44 5 (((encs_Expr [y1, (Expr.mk 0 1 [] [] [])])).length) (encs_Expr [y1, (Expr.mk 0 1 [] [] [])]))]) rfl kr) (Cut.trans (cut_same (H1 := [(89, .row 9 1 0 (mS [([98] : List UInt8), ([99] : List UInt8)])), (70, .row 3 1 0 (mI [1, 2, 0])), (60, .row 46 6 (((mM enc_Def [(Def.mk ([104, 101, 105, 103, 104, 116] : List UInt8) (Expr.mk 0 3 [] [] []))])).length) (mM enc_Def [(Def.mk ([104, 101, 105, 103, 104, 116] : List UInt8) (Expr.mk 0 3 [] [] []))])), (51, .row 46 6 (((mM enc_Def [(Def.mk ([97] : List UInt8) y8)])).length) (mM enc_Def [(Def.mk ([97] : List UInt8) y8)])), (34, .row 46 6 (((mM enc_Def [(Def.mk ([97] : List UInt8) y3), (Def.mk ([98] : List UInt8) y4), (Def.mk ([99] : List UInt8) y5)])).length) (mM enc_Def [(Def.mk ([97] : List UInt8) y3), (Def.mk ([98] : List UInt8) y4), (Def.mk ([99] : List UInt8) y5)])), (26, .row 46 6 (((mM enc_Def [(Def.mk ([98] : List UInt8) (Expr.mk 4 0 [] [] [y1, (Expr.mk 0 1 [] [] [])])), (Def.mk ([97] : List UInt8) (Expr.mk 0 2 [] [] [])), (Def.mk ([99] : List UInt8) y2)])).length) (mM enc_Def [(Def.mk ([98] : List UInt8) (Expr.mk 4 0 [] [] [y1, (Expr.mk 0 1 [] [] [])])), (Def.mk ([97] : List UInt8) (Expr.mk 0 2 [] [] [])), (Def.mk ([99] : List UInt8) y2)])), (2, .box 30 [.sl 6 34 (([(Def.mk ([97] : List UInt8) y3), (Def.mk ([98] : List UInt8) y4), (Def.mk ([99] : List UInt8) y5)]).length) 0 (([(Def.mk ([97] : List UInt8) y3), (Def.mk ([98] : List UInt8) y4), (Def.mk ([99] : List UInt8) y5)]).length), .nils, .nils, .nils, .nils, .nils, .nils, .int .i64 0]), (1, .box 30 [.sl 6 26 (([(Def.mk ([98] : List UInt8) (Expr.mk 4 0 [] [] [y1, (Expr.mk 0 1 [] [] [])])), (Def.mk ([97] : List UInt8) (Expr.mk 0 2 [] [] [])), (Def.mk ([99] : List UInt8) y2)]).length) 0 (([(Def.mk ([98] : List UInt8) (Expr.mk 4 0 [] [] [y1, (Expr.mk 0 1 [] [] [])])), (Def.mk ([97] : List UInt8) (Expr.mk 0 2 [] [] [])), (Def.mk ([99] : List UInt8) y2)]).length), .nils, .nils, .nils, .nils, .nils, .nils, .int .i64 0]), (19, .row 44 5 (((encs_Expr [y1, (Expr.mk 0 1 [] [] [])])).length) (encs_Expr [y1, (Expr.mk 0 1 [] [] [])]))]) rfl (by first | (simp only [List.length_set, cpyT_length]; done) | rfl)) (cut_of [1, 2, 9, 10, 11, 14, 15] [34, 26, 2, 1] kr kr kr))
 ·subst hz; clear hs; have hs := hk1; clear hk1
  refine nT (vS ?_)
  obtain ⟨z2, hs, hk2⟩ := bS hs
  refine v_join (S := Bool) (fun u => u = z2) (fun u => [(1, .ptr 1 0 0), (2, .ptr 2 0 0), (15, .bool v1), (16, .bool u)]) (fun u => [(34, .row 46 6 (((mM enc_Def [(Def.mk ([97] : List UInt8) y3), (Def.mk ([98] : List UInt8) y4), (Def.mk ([99] : List UInt8) y5)])).length) (mM enc_Def [(Def.mk ([97] : List UInt8) y3), (Def.mk ([98] : List UInt8) y4), (Def.mk ([99] : List UInt8) y5)])), (26, .row 46 6 (((mM enc_Def [(Def.mk ([98] : List UInt8) (Expr.mk 4 0 [] [] [y1, (Expr.mk 0 1 [] [] [])])), (Def.mk ([97] : List UInt8) (Expr.mk 0 2 [] [] [])), (Def.mk ([99] : List UInt8) y2)])).length) (mM enc_Def [(Def.mk ([98] : List UInt8) (Expr.mk 4 0 [] [] [y1, (Expr.mk 0 1 [] [] [])])), (Def.mk ([97] : List UInt8) (Expr.mk 0 2 [] [] [])), (Def.mk ([99] : List UInt8) y2)])), (2, .box 30 [.sl 6 34 (([(Def.mk ([97] : List UInt8) y3), (Def.mk ([98] : List UInt8) y4), (Def.mk ([99] : List UInt8) y5)]).length) 0 (([(Def.mk ([97] : List UInt8) y3), (Def.mk ([98] : List UInt8) y4), (Def.mk ([99] : List UInt8) y5)]).length), .nils, .nils, .nils, .nils, .nils, .nils, .int .i64 0]), (1, .box 30 [.sl 6 26 (([(Def.mk ([98] : List UInt8) (Expr.mk 4 0 [] [] [y1, (Expr.mk 0 1 [] [] [])])), (Def.mk ([97] : List UInt8) (Expr.mk 0 2 [] [] [])), (Def.mk ([99] : List UInt8) y2)]).length) 0 (([(Def.mk ([98] : List UInt8) (Expr.mk 4 0 [] [] [y1, (Expr.mk 0 1 [] [] [])])), (Def.mk ([97] : List UInt8) (Expr.mk 0 2 [] [] [])), (Def.mk ([99] : List UInt8) y2)]).length), .nils, .nils, .nils, .nils, .nils, .nils, .int .i64 0])]) ?_ (fun v2 hz => ?_)
  ·refine vT (oR 3 [(94, .bool (decide (y9.2.2 = 16))), (93, .bool (decide (y9.2.2 = 16))), (92, .int .i64 y9.2.2)] kr ?_)
   cases h6 : ((decide (y9.2.2 = 16)))
   ·replace hs := bif_f h6 hs
    refine oR 19 [(16, .bool false), (112, .bool false), (111, .no), (110, .no), (109, .no), (108, .bool false), (107, .bool false), (106, .no), (105, .no), (104, .bool false), (103, .bool false), (102, .no), (101, .no), (100, .no), (99, .bool false), (98, .bool false), (97, .no), (96, .no), (95, .no)] kr ?_
    refine oN ?_
    obtain rfl := si hs
    refine nrm_join false rfl ?_
    exact cut_of [1, 2, 15, 16] [34, 26, 2, 1] kr kr kr
   ·replace hs := bif_t h6 hs
    refine oR 1 [(95, .vs 1 (mI y9.1))] kr ?_
    refine oP (v := .int .i64 (List.length y9.1 : Int)) kr kr (loc_lenVs (sz := 1) (els := (mI y9.1)) kr kr (List.length_map ..)) ?_
    refine oR 3 [(99, .bool (decide ((List.length y9.1 : Int) = 0))), (98, .bool (decide ((List.length y9.1 : Int) = 0))), (97, .bool (decide ((List.length y9.1 : Int) = 0)))] kr ?_
    cases h7 : ((decide ((List.length y9.1 : Int) = 0)))
    ·replace hs := bif_f h7 hs
     refine oR 14 [(16, .bool false), (112, .bool false), (111, .no), (110, .no), (109, .no), (108, .bool false), (107, .bool false), (106, .no), (105, .no), (104, .bool false), (103, .bool false), (102, .no), (101, .no), (100, .no)] kr ?_
     refine oN ?_
     obtain rfl := si hs
     refine nrm_join false rfl ?_
     exact cut_of [1, 2, 15, 16] [34, 26, 2, 1] kr kr kr
    ·replace hs := bif_t h7 hs
     refine o_runh 2 [(101, .sl 1 101 1 0 1), (100, .vs 1 (mS y9.2.1))] [(101, .row 9 1 0 (mS [([97] : List UInt8)])), (34, .row 46 6 (((mM enc_Def [(Def.mk ([97] : List UInt8) y3), (Def.mk ([98] : List UInt8) y4), (Def.mk ([99] : List UInt8) y5)])).length) (mM enc_Def [(Def.mk ([97] : List UInt8) y3), (Def.mk ([98] : List UInt8) y4), (Def.mk ([99] : List UInt8) y5)])), (26, .row 46 6 (((mM enc_Def [(Def.mk ([98] : List UInt8) (Expr.mk 4 0 [] [] [y1, (Expr.mk 0 1 [] [] [])])), (Def.mk ([97] : List UInt8) (Expr.mk 0 2 [] [] [])), (Def.mk ([99] : List UInt8) y2)])).length) (mM enc_Def [(Def.mk ([98] : List UInt8) (Expr.mk 4 0 [] [] [y1, (Expr.mk 0 1 [] [] [])])), (Def.mk ([97] : List UInt8) (Expr.mk 0 2 [] [] [])), (Def.mk ([99] : List UInt8) y2)])), (2, .box 30 [.sl 6 34 (([(Def.mk ([97] : List UInt8) y3), (Def.mk ([98] : List UInt8) y4), (Def.mk ([99] : List UInt8) y5)]).length) 0 (([(Def.mk ([97] : List UInt8) y3), (Def.mk ([98] : List UInt8) y4), (Def.mk ([99] : List UInt8) y5)]).length), .nils, .nils, .nils, .nils, .nils, .nils, .int .i64 0]), (1, .box 30 [.sl 6 26 (([(Def.mk ([98] : List UInt8) (Expr.mk 4 0 [] [] [y1, (Expr.mk 0 1 [] [] [])])), (Def.mk ([97] : List UInt8) (Expr.mk 0 2 [] [] [])), (Def.mk ([99] : List UInt8) y2)]).length) 0 (([(Def.mk ([98] : List UInt8) (Expr.mk 4 0 [] [] [y1, (Expr.mk 0 1 [] [] [])])), (Def.mk ([97] : List UInt8) (Expr.mk 0 2 [] [] [])), (Def.mk ([99] : List UInt8) y2)]).length), .nils, .nils, .nils, .nils, .nils, .nils, .int .i64 0])] kr ?_
     obtain ⟨y13, c13, hs⟩ := bS hs
     refine o_loc (F := [(101, .row 9 1 0 (mS [([97] : List UInt8)]))]) (F' := [(101, .row 9 1 0 (mS [([97] : List UInt8)]))]) (v := .bool y13) [101] kr kr rfl kr (loc_gcallB (vs := [.vs 1 (mS y9.2.1), .sl 1 101 1 0 1]) (R := [(101, .row 9 1 0 (mS [([97] : List UInt8)]))]) (callV_func hbv14 kr) (w_greenbeltref01_SameTexts y9.2.1 [([97] : List UInt8)] _ c13) (.cons (.same _) (.cons (.row (t := 9) (fz := 0) kr (by first | (simp only [List.length_map, List.length_set, cpyT_length]; done) | rfl)) (.nil))) kr kr kr) kr ?_
     refine oR 2 [(104, .bool y13), (103, .bool y13)] kr ?_
     cases h8 : (y13)
     ·replace hs := bif_f h8 hs
      refine oR 9 [(16, .bool false), (112, .bool false), (111, .no), (110, .no), (109, .no), (108, .bool false), (107, .bool false), (106, .no), (105, .no)] kr ?_
      refine oN ?_
      obtain rfl := si hs
      refine nrm_join false rfl ?_
      exact cut_of [1, 2, 15, 16] [34, 26, 2, 1] kr kr kr
     ·replace hs := bif_t h8 hs
      refine oR 4 [(108, .bool (decide (y10.2.2 = 5))), (107, .bool (decide (y10.2.2 = 5))), (106, .bool (decide (y10.2.2 = 5))), (105, .int .i64 y10.2.2)] kr ?_
      cases h9 : ((decide (y10.2.2 = 5)))
      ·replace hs := bif_f h9 hs
       refine oR 5 [(16, .bool false), (112, .bool false), (111, .no), (110, .no), (109, .no)] kr ?_
       refine oN ?_
       obtain rfl := si hs
       refine nrm_join false rfl ?_
       exact cut_of [1, 2, 15, 16] [34, 26, 2, 1] kr kr kr
      ·replace hs := bif_t h9 hs
       obtain ⟨y14, c14, hs⟩ := bS hs
       refine oP (v := .vs 1 (mS y14)) kr kr (loc_gcall0 (callV_func hbv15 kr) (w_define_Measures  _ c14) kr) ?_
       refine oP (v := .int .i64 (List.length y14 : Int)) kr kr (loc_lenVs (sz := 1) (els := (mS y14)) kr kr (List.length_map ..)) ?_
       refine oR 3 [(16, .bool (decide ((List.length y14 : Int) = 9))), (112, .bool (decide ((List.length y14 : Int) = 9))), (111, .bool (decide ((List.length y14 : Int) = 9)))] kr ?_
       refine oN ?_
       obtain rfl := si hs
       refine nrm_join (decide ((List.length y14 : Int) = 9)) rfl ?_
       exact cut_of [1, 2, 15, 16] [34, 26, 2, 1] kr kr kr
  ·subst hz; clear hs; have hs := hk2; clear hk2
   refine nT (vS ?_)
   obtain ⟨z3, hs, hk3⟩ := bS hs
   refine v_join (S := Bool) (fun u => u = z3) (fun u => [(0, .bool u)]) (fun u => []) ?_ (fun v3 hz => ?_)
   ·refine vT (oR 2 [(114, .bool v1), (113, .bool v1)] kr ?_)
    cases h10 : (v1)
    ·replace hs := bif_f h10 hs
     refine oR 18 [(0, .bool false), (131, .bool false), (130, .no), (129, .no), (128, .no), (127, .no), (126, .no), (125, .no), (124, .no), (123, .bool false), (122, .bool false), (121, .no), (120, .no), (119, .no), (118, .no), (117, .bool false), (116, .bool false), (115, .no)] kr ?_
     refine oN ?_
     obtain rfl := si hs
     refine nrm_join false rfl ?_
     exact cut_of [0] [] kr kr kr
    ·replace hs := bif_t h10 hs
     refine oR 3 [(117, .bool v2), (116, .bool v2), (115, .bool v2)] kr ?_
     cases h11 : (v2)
     ·replace hs := bif_f h11 hs
      refine oR 15 [(0, .bool false), (131, .bool false), (130, .no), (129, .no), (128, .no), (127, .no), (126, .no), (125, .no), (124, .no), (123, .bool false), (122, .bool false), (121, .no), (120, .no), (119, .no), (118, .no)] kr ?_
      refine oN ?_
      obtain rfl := si hs
      refine nrm_join false rfl ?_
      exact cut_of [0] [] kr kr kr
     ·replace hs := bif_t h11 hs
      refine oR 1 [(118, .agg [.sl 6 26 (([(Def.mk ([98] : List UInt8) (Expr.mk 4 0 [] [] [y1, (Expr.mk 0 1 [] [] [])])), (Def.mk ([97] : List UInt8) (Expr.mk 0 2 [] [] [])), (Def.mk ([99] : List UInt8) y2)]).length) 0 (([(Def.mk ([98] : List UInt8) (Expr.mk 4 0 [] [] [y1, (Expr.mk 0 1 [] [] [])])), (Def.mk ([97] : List UInt8) (Expr.mk 0 2 [] [] [])), (Def.mk ([99] : List UInt8) y2)]).length), .nils, .nils, .nils, .nils, .nils, .nils, .int .i64 0])] kr ?_
      obtain ⟨y15, c15, hs⟩ := bS hs
      refine o_loc (F := [(26, .row 46 6 (((mM enc_Def [(Def.mk ([98] : List UInt8) (Expr.mk 4 0 [] [] [y1, (Expr.mk 0 1 [] [] [])])), (Def.mk ([97] : List UInt8) (Expr.mk 0 2 [] [] [])), (Def.mk ([99] : List UInt8) y2)])).length) (mM enc_Def [(Def.mk ([98] : List UInt8) (Expr.mk 4 0 [] [] [y1, (Expr.mk 0 1 [] [] [])])), (Def.mk ([97] : List UInt8) (Expr.mk 0 2 [] [] [])), (Def.mk ([99] : List UInt8) y2)]))]) (F' := [(26, .row 46 6 (((mM enc_Def [(Def.mk ([98] : List UInt8) (Expr.mk 4 0 [] [] [y1, (Expr.mk 0 1 [] [] [])])), (Def.mk ([97] : List UInt8) (Expr.mk 0 2 [] [] [])), (Def.mk ([99] : List UInt8) y2)])).length) (mM enc_Def [(Def.mk ([98] : List UInt8) (Expr.mk 4 0 [] [] [y1, (Expr.mk 0 1 [] [] [])])), (Def.mk ([97] : List UInt8) (Expr.mk 0 2 [] [] [])), (Def.mk ([99] : List UInt8) y2)]))]) (v := .vs 1 (mS y15)) [26] kr kr rfl kr (loc_g (R := [(26, .row 46 6 (((mM enc_Def [(Def.mk ([98] : List UInt8) (Expr.mk 4 0 [] [] [y1, (Expr.mk 0 1 [] [] [])])), (Def.mk ([97] : List UInt8) (Expr.mk 0 2 [] [] [])), (Def.mk ([99] : List UInt8) y2)])).length) (mM enc_Def [(Def.mk ([98] : List UInt8) (Expr.mk 4 0 [] [] [y1, (Expr.mk 0 1 [] [] [])])), (Def.mk ([97] : List UInt8) (Expr.mk 0 2 [] [] [])), (Def.mk ([99] : List UInt8) y2)]))]) [.agg [.sl 6 26 (([(Def.mk ([98] : List UInt8) (Expr.mk 4 0 [] [] [y1, (Expr.mk 0 1 [] [] [])])), (Def.mk ([97] : List UInt8) (Expr.mk 0 2 [] [] [])), (Def.mk ([99] : List UInt8) y2)]).length) 0 (([(Def.mk ([98] : List UInt8) (Expr.mk 4 0 [] [] [y1, (Expr.mk 0 1 [] [] [])])), (Def.mk ([97] : List UInt8) (Expr.mk 0 2 [] [] [])), (Def.mk ([99] : List UInt8) y2)]).length), .nils, .nils, .nils, .nils, .nils, .nils, .int .i64 0], .str ([98] : List UInt8)] [] (callV_func hbv19 kr) (w_define_Reaches [(Def.mk ([98] : List UInt8) (Expr.mk 4 0 [] [] [y1, (Expr.mk 0 1 [] [] [])])), (Def.mk ([97] : List UInt8) (Expr.mk 0 2 [] [] [])), (Def.mk ([99] : List UInt8) y2)] [] [] [] [] [] [] 0 ([98] : List UInt8) _ c15) (.cons (.agg (.cons (.row (t := 46) (fz := (((mM enc_Def [(Def.mk ([98] : List UInt8) (Expr.mk 4 0 [] [] [y1, (Expr.mk 0 1 [] [] [])])), (Def.mk ([97] : List UInt8) (Expr.mk 0 2 [] [] [])), (Def.mk ([99] : List UInt8) y2)])).length)) kr (by first | (simp only [List.length_map, List.length_set, cpyT_length]; done) | rfl)) (.cons (.nils _) (.cons (.nils _) (.cons (.nils _) (.cons (.nils _) (.cons (.nils _) (.cons (.nils _) (.cons (.same _) (.nil)))))))))) (.cons (.same _) (.nil))) kr kr kr kr kr kr kr kr) kr ?_
      refine o_runh 1 [(120, .sl 1 120 2 0 2)] [(120, .row 9 1 0 (mS [([97] : List UInt8), ([99] : List UInt8)])), (26, .row 46 6 (((mM enc_Def [(Def.mk ([98] : List UInt8) (Expr.mk 4 0 [] [] [y1, (Expr.mk 0 1 [] [] [])])), (Def.mk ([97] : List UInt8) (Expr.mk 0 2 [] [] [])), (Def.mk ([99] : List UInt8) y2)])).length) (mM enc_Def [(Def.mk ([98] : List UInt8) (Expr.mk 4 0 [] [] [y1, (Expr.mk 0 1 [] [] [])])), (Def.mk ([97] : List UInt8) (Expr.mk 0 2 [] [] [])), (Def.mk ([99] : List UInt8) y2)])), (34, .row 46 6 (((mM enc_Def [(Def.mk ([97] : List UInt8) y3), (Def.mk ([98] : List UInt8) y4), (Def.mk ([99] : List UInt8) y5)])).length) (mM enc_Def [(Def.mk ([97] : List UInt8) y3), (Def.mk ([98] : List UInt8) y4), (Def.mk ([99] : List UInt8) y5)])), (2, .box 30 [.sl 6 34 (([(Def.mk ([97] : List UInt8) y3), (Def.mk ([98] : List UInt8) y4), (Def.mk ([99] : List UInt8) y5)]).length) 0 (([(Def.mk ([97] : List UInt8) y3), (Def.mk ([98] : List UInt8) y4), (Def.mk ([99] : List UInt8) y5)]).length), .nils, .nils, .nils, .nils, .nils, .nils, .int .i64 0]), (1, .box 30 [.sl 6 26 (([(Def.mk ([98] : List UInt8) (Expr.mk 4 0 [] [] [y1, (Expr.mk 0 1 [] [] [])])), (Def.mk ([97] : List UInt8) (Expr.mk 0 2 [] [] [])), (Def.mk ([99] : List UInt8) y2)]).length) 0 (([(Def.mk ([98] : List UInt8) (Expr.mk 4 0 [] [] [y1, (Expr.mk 0 1 [] [] [])])), (Def.mk ([97] : List UInt8) (Expr.mk 0 2 [] [] [])), (Def.mk ([99] : List UInt8) y2)]).length), .nils, .nils, .nils, .nils, .nils, .nils, .int .i64 0])] kr ?_
      obtain ⟨y16, c16, hs⟩ := bS hs
      refine o_loc (F := [(120, .row 9 1 0 (mS [([97] : List UInt8), ([99] : List UInt8)]))]) (F' := [(120, .row 9 1 0 (mS [([97] : List UInt8), ([99] : List UInt8)]))]) (v := .bool y16) [120] kr kr rfl kr (loc_gcallB (vs := [.vs 1 (mS y15), .sl 1 120 2 0 2]) (R := [(120, .row 9 1 0 (mS [([97] : List UInt8), ([99] : List UInt8)]))]) (callV_func hbv14 kr) (w_greenbeltref01_SameTexts y15 [([97] : List UInt8), ([99] : List UInt8)] _ c16) (.cons (.same _) (.cons (.row (t := 9) (fz := 0) kr (by first | (simp only [List.length_map, List.length_set, cpyT_length]; done) | rfl)) (.nil))) kr kr kr) kr ?_
      refine oR 2 [(123, .bool y16), (122, .bool y16)] kr ?_
      cases h12 : (y16)
      ·replace hs := bif_f h12 hs
       refine oR 9 [(0, .bool false), (131, .bool false), (130, .no), (129, .no), (128, .no), (127, .no), (126, .no), (125, .no), (124, .no)] kr ?_
       refine oN ?_
       obtain rfl := si hs
       refine nrm_join false rfl ?_
       exact cut_of [0] [] kr kr kr
      ·replace hs := bif_t h12 hs
       refine oR 2 [(125, .sl 6 34 (([(Def.mk ([97] : List UInt8) y3), (Def.mk ([98] : List UInt8) y4), (Def.mk ([99] : List UInt8) y5)]).length) 0 (([(Def.mk ([97] : List UInt8) y3), (Def.mk ([98] : List UInt8) y4), (Def.mk ([99] : List UInt8) y5)]).length)), (124, .ptr 2 0 0)] kr ?_
       refine o_to ((125, .vs 6 (mM enc_Def [(Def.mk ([97] : List UInt8) y3), (Def.mk ([98] : List UInt8) y4), (Def.mk ([99] : List UInt8) y5)])) :: _) _ (cut_view (R := [(34, .row 46 6 (((mM enc_Def [(Def.mk ([97] : List UInt8) y3), (Def.mk ([98] : List UInt8) y4), (Def.mk ([99] : List UInt8) y5)])).length) (mM enc_Def [(Def.mk ([97] : List UInt8) y3), (Def.mk ([98] : List UInt8) y4), (Def.mk ([99] : List UInt8) y5)]))]) (ks := [34]) kr kr (.row (t := 46) (fz := (((mM enc_Def [(Def.mk ([97] : List UInt8) y3), (Def.mk ([98] : List UInt8) y4), (Def.mk ([99] : List UInt8) y5)])).length)) kr (by first | (simp only [List.length_map, List.length_set, cpyT_length]; done) | rfl))) ?_
       obtain ⟨x1, g1, hs⟩ := bS hs; obtain ⟨g1a, g1b, g1c, g1d⟩ := cut_some g1
       refine oP (v := .vs 6 (List.map enc_Def x1)) kr kr (loc_sliceVsT (e := 46) (sz := 6) (l := 0) (h := 2) (els := (List.map enc_Def [(Def.mk ([97] : List UInt8) y3), (Def.mk ([98] : List UInt8) y4), (Def.mk ([99] : List UInt8) y5)])) kr kr rfl ⟨.i64, by kernel_rfl⟩ g1a g1b (by simpa only [List.length_map] using g1c) (by rw [g1d, List.map_drop, List.map_take])) ?_
       refine oR 1 [(127, .agg [.vs 6 (mM enc_Def x1), .nils, .nils, .nils, .nils, .nils, .nils, .int .i64 0])] kr ?_
       obtain ⟨y17, c17, hs⟩ := bS hs
       refine o_loc (F := []) (F' := []) (v := .vs 1 (mS y17)) [] kr kr rfl kr (loc_g (R := []) [.agg [.vs 6 (mM enc_Def x1), .nils, .nils, .nils, .nils, .nils, .nils, .int .i64 0]] [] (callV_func hbv21 kr) (w_define_Unknown (Plan.mk x1 [] [] [] [] [] [] 0) _ c17) (.cons (.agg (.cons (.same _) (.cons (.nils _) (.cons (.nils _) (.cons (.nils _) (.cons (.nils _) (.cons (.nils _) (.cons (.nils _) (.cons (.same _) (.nil)))))))))) (.nil)) kr kr kr kr kr kr kr kr) kr ?_
       refine o_runh 1 [(129, .sl 1 129 1 0 1)] [(129, .row 9 1 0 (mS [([99] : List UInt8)])), (120, .row 9 1 0 (mS [([97] : List UInt8), ([99] : List UInt8)])), (26, .row 46 6 (((mM enc_Def [(Def.mk ([98] : List UInt8) (Expr.mk 4 0 [] [] [y1, (Expr.mk 0 1 [] [] [])])), (Def.mk ([97] : List UInt8) (Expr.mk 0 2 [] [] [])), (Def.mk ([99] : List UInt8) y2)])).length) (mM enc_Def [(Def.mk ([98] : List UInt8) (Expr.mk 4 0 [] [] [y1, (Expr.mk 0 1 [] [] [])])), (Def.mk ([97] : List UInt8) (Expr.mk 0 2 [] [] [])), (Def.mk ([99] : List UInt8) y2)])), (34, .row 46 6 (((mM enc_Def [(Def.mk ([97] : List UInt8) y3), (Def.mk ([98] : List UInt8) y4), (Def.mk ([99] : List UInt8) y5)])).length) (mM enc_Def [(Def.mk ([97] : List UInt8) y3), (Def.mk ([98] : List UInt8) y4), (Def.mk ([99] : List UInt8) y5)])), (2, .box 30 [.sl 6 34 (([(Def.mk ([97] : List UInt8) y3), (Def.mk ([98] : List UInt8) y4), (Def.mk ([99] : List UInt8) y5)]).length) 0 (([(Def.mk ([97] : List UInt8) y3), (Def.mk ([98] : List UInt8) y4), (Def.mk ([99] : List UInt8) y5)]).length), .nils, .nils, .nils, .nils, .nils, .nils, .int .i64 0]), (1, .box 30 [.sl 6 26 (([(Def.mk ([98] : List UInt8) (Expr.mk 4 0 [] [] [y1, (Expr.mk 0 1 [] [] [])])), (Def.mk ([97] : List UInt8) (Expr.mk 0 2 [] [] [])), (Def.mk ([99] : List UInt8) y2)]).length) 0 (([(Def.mk ([98] : List UInt8) (Expr.mk 4 0 [] [] [y1, (Expr.mk 0 1 [] [] [])])), (Def.mk ([97] : List UInt8) (Expr.mk 0 2 [] [] [])), (Def.mk ([99] : List UInt8) y2)]).length), .nils, .nils, .nils, .nils, .nils, .nils, .int .i64 0])] kr ?_
       obtain ⟨y18, c18, hs⟩ := bS hs
       refine o_loc (F := [(129, .row 9 1 0 (mS [([99] : List UInt8)]))]) (F' := [(129, .row 9 1 0 (mS [([99] : List UInt8)]))]) (v := .bool y18) [129] kr kr rfl kr (loc_gcallB (vs := [.vs 1 (mS y17), .sl 1 129 1 0 1]) (R := [(129, .row 9 1 0 (mS [([99] : List UInt8)]))]) (callV_func hbv14 kr) (w_greenbeltref01_SameTexts y17 [([99] : List UInt8)] _ c18) (.cons (.same _) (.cons (.row (t := 9) (fz := 0) kr (by first | (simp only [List.length_map, List.length_set, cpyT_length]; done) | rfl)) (.nil))) kr kr kr) kr ?_
       refine oR 2 [(0, .bool y18), (131, .bool y18)] kr ?_
       refine oN ?_
       obtain rfl := si hs
       refine nrm_join y18 rfl ?_
       exact cut_of [0] [] kr kr kr
   ·subst hz; clear hs; have hs := hk3; clear hk3
    refine nT (v_ret ?_)
    obtain rfl := si hs
    exact fin_ret kr kr kr
theorem ws_greenbeltref16_Size (nF : Nat) (ih_greenbeltref16_Size : ∀ (e : Expr) (r : Int), s_greenbeltref16_Size nF e = some r → FnA Try.prog 34 [.agg (enc_Expr e)] [] (.int .i64 r) []) (e : Expr) (r : Int) (hs : s_greenbeltref16_Size (nF + 1) e = some r) : FnA Try.prog 34 [.agg (enc_Expr e)] [] (.int .i64 r) [] := by
 refine fnA_of_wp (N := 21) Try.func34 rfl rfl rfl fun cK0 => ?_
 rw [s_greenbeltref16_Size] at hs
 refine v_same (ρ' := [(0, .agg (enc_Expr e))]) rfl rfl ?_
 refine vS (vT (o_runh 2 [(2, .int .i64 0), (1, .ptr 1 0 0)] [(1, .box 44 (enc_Expr e))] kr ?_))
 refine oN (nT (vS (vT (oR 1 [(3, .int .i64 1)] kr ?_))))
 refine oN (nT (vS (vS (vT (oR 1 [(4, .int .i64 0)] kr ?_)))))
 refine oN (nT ?_)
 obtain ⟨z1, hs, hk1⟩ := bS hs
 refine v_join (S := Int) (fun u => u = z1) (fun u => [(3, .int .i64 u)]) (fun u => []) ?_ (fun v1 hz => ?_)
 ·refine vB ?_
  refine v_fuel (S := Int × Int) (fun u => [(1, .ptr 1 0 0), (3, .int .i64 u.1), (4, .int .i64 u.2)]) (fun u => [(1, .box 44 (enc_Expr e))]) (s_greenbeltref16_Size_L1 (s_greenbeltref16_Size nF) e) (fun _ => rfl) KK (1, 0) hs (cut_of [1, 3, 4] [1] kr kr kr) (fun K1 q1 hs => ?_)
  rw [s_greenbeltref16_Size_L1] at hs
  show WpV cK0 Try.prog none 21 _ _ [(1, .ptr 1 0 0), (3, .int .i64 q1.1), (4, .int .i64 q1.2)] [(1, .box 44 (enc_Expr e))] []
  refine vS (vS (vT (oR 3 [(7, .vs 5 (encs_Expr e.Args)), (6, .ptr 1 0 4), (5, .int .i64 q1.2)] kr ?_)))
  refine oP (v := .int .i64 (List.length e.Args : Int)) kr kr (loc_lenVs (sz := 5) (els := (encs_Expr e.Args)) kr kr (by rw [encs_Expr_eq, List.length_map])) ?_
  refine oR 1 [(9, .bool (decide (q1.2 < (List.length e.Args : Int))))] kr ?_
  refine oN (nT ?_)
  refine v_cond (decide (q1.2 < (List.length e.Args : Int))) kr (fun h1 => ?_) (fun h1 => ?_)
  ·replace hs := bif_t h1 hs
   refine vK (nT (vS (vB (vT (oR 4 [(15, .int .i64 q1.2), (14, .vs 5 (encs_Expr e.Args)), (13, .ptr 1 0 4), (12, .int .i64 q1.1)] kr ?_)))))
   obtain ⟨x1, g1, hs⟩ := bS hs; obtain ⟨g1a, g1b, g1c⟩ := idx_some g1
   refine oP (v := .vp (enc_Expr x1) 0) kr kr (loc_indexVs (e := 44) (sz := 5) (k := .i64) (els := (encs_Expr e.Args)) (cs := (enc_Expr x1)) kr kr kr g1a (by rw [g1c, encs_Expr_eq]; exact map_get _ (by omega))) ?_
   refine oR 1 [(17, .agg (enc_Expr x1))] kr ?_
   obtain ⟨y1, c1, hs⟩ := bS hs
   refine oP (v := .int .i64 y1) kr kr (loc_gcall0 (callV_func hbv34 kr) (ih_greenbeltref16_Size x1 _ c1) kr) ?_
   refine oR 2 [(3, .int .i64 (w64 (q1.1 + y1))), (19, .int .i64 (w64 (q1.1 + y1)))] kr ?_
   refine oN (nB (nT (vT (oR 3 [(4, .int .i64 (w64 (q1.2 + 1))), (11, .int .i64 (w64 (q1.2 + 1))), (10, .int .i64 q1.2)] kr ?_))))
   refine oN (nrm_fuel ((w64 (q1.1 + y1)), (w64 (q1.2 + 1))) hs ?_)
   exact cut_of [1, 3, 4] [1] kr kr kr
  ·replace hs := bif_f h1 hs
   refine v_exit (exit_thenV (exit_fuel ?_))
   refine exit_blkV ?_
   obtain rfl := si hs
   refine nrm_join q1.1 rfl ?_
   exact cut_of [3] [] kr kr kr
 ·subst hz; clear hs; have hs := hk1; clear hk1
  refine nT (vS (vT (oR 2 [(2, .int .i64 v1), (20, .int .i64 v1)] kr ?_)))
  refine oN (nT (v_ret ?_))
  obtain rfl := si hs
  exact fin_ret kr kr kr
theorem wr_greenbeltref16_Size : ∀ nF : Nat, (∀ (e : Expr) (r : Int), s_greenbeltref16_Size nF e = some r → FnA Try.prog 34 [.agg (enc_Expr e)] [] (.int .i64 r) [])
 | 0 => fun e r hs => (by rw [s_greenbeltref16_Size] at hs; cases hs)
 | nF + 1 => fun e r hs => ws_greenbeltref16_Size nF (wr_greenbeltref16_Size nF) e r hs
theorem w_greenbeltref16_Size (nF : Nat) (e : Expr) (r : Int) (hs : s_greenbeltref16_Size nF e = some r) : FnA Try.prog 34 [.agg (enc_Expr e)] [] (.int .i64 r) [] := (wr_greenbeltref16_Size nF) e r hs
theorem w_greenbeltref16_Few (p : Plan) (r : Bool) (hs : s_greenbeltref16_Few p = some r) : FnA Try.prog 10 [.agg (enc_Plan p)] [] (.bool r) [] := by
 refine fnA_of_wp (N := 55) Try.func10 rfl rfl rfl fun cK0 => ?_
 unfold s_greenbeltref16_Few at hs
 refine v_same (ρ' := [(0, .agg (enc_Plan p))]) rfl rfl ?_
 refine vS (vT (o_runh 2 [(2, .bool false), (1, .ptr 1 0 0)] [(1, .box 30 (enc_Plan p))] kr ?_))
 refine oN (nT (vS (vS ?_)))
 obtain ⟨z1, hs, hk1⟩ := bS hs
 refine v_join (S := Bool) (fun u => u = z1) (fun u => [(1, .ptr 1 0 0), (14, .bool u)]) (fun u => [(1, .box 30 (enc_Plan p))]) ?_ (fun v1 hz => ?_)
 ·refine vT (oR 2 [(6, .vs 6 (mM enc_Def p.Defs)), (5, .ptr 1 0 0)] kr ?_)
  refine oP (v := .int .i64 (List.length p.Defs : Int)) kr kr (loc_lenVs (sz := 6) (els := (mM enc_Def p.Defs)) kr kr (List.length_map ..)) ?_
  refine oR 2 [(9, .bool (decide ((List.length p.Defs : Int) > 20))), (8, .bool (decide ((List.length p.Defs : Int) > 20)))] kr ?_
  cases h1 : ((decide ((List.length p.Defs : Int) > 20)))
  ·replace hs := bif_f h1 hs
   refine oR 2 [(11, .vs 20 (mM enc_Rule p.Rules)), (10, .ptr 1 0 3)] kr ?_
   refine oP (v := .int .i64 (List.length p.Rules : Int)) kr kr (loc_lenVs (sz := 20) (els := (mM enc_Rule p.Rules)) kr kr (List.length_map ..)) ?_
   refine oR 2 [(14, .bool (decide ((List.length p.Rules : Int) > 20))), (13, .bool (decide ((List.length p.Rules : Int) > 20)))] kr ?_
   refine oN ?_
   obtain rfl := si hs
   refine nrm_join (decide ((List.length p.Rules : Int) > 20)) rfl ?_
   exact cut_of [1, 14] [1] kr kr kr
  ·replace hs := bif_t h1 hs
   refine oR 5 [(14, .bool true), (13, .no), (12, .no), (11, .no), (10, .no)] kr ?_
   refine oN ?_
   obtain rfl := si hs
   refine nrm_join true rfl ?_
   exact cut_of [1, 14] [1] kr kr kr
 ·subst hz; clear hs; have hs := hk1; clear hk1
  refine nT ?_
  refine v_cond v1 kr (fun h2 => ?_) (fun h2 => ?_)
  ·replace hs := bif_t h2 hs
   refine vS (vT (oR 1 [(2, .bool false)] kr ?_))
   refine oN (nT (v_ret (rT ?_)))
   obtain rfl := si hs
   exact fin_ret kr kr kr
  ·replace hs := bif_f h2 hs
   refine vK (nT (vS (vS (vT (oR 1 [(3, .int .i64 0)] kr ?_)))))
   refine oN (nT ?_)
   obtain ⟨z2, hs, hk2⟩ := bS hs
   refine v_join (S := Unit) (fun u => z2 = .inr u) (fun u => [(1, .ptr 1 0 0)]) (fun u => [(1, .box 30 (enc_Plan p))]) ?_ (fun v2 hz => ?_)
   ·refine vB ?_
    refine v_fuel (S := Int) (fun u => [(1, .ptr 1 0 0), (3, .int .i64 u)]) (fun u => [(1, .box 30 (enc_Plan p))]) (s_greenbeltref16_Few_L1 p) (fun _ => rfl) KK 0 hs (cut_of [1, 3] [1] kr kr kr) (fun K1 q1 hs => ?_)
    rw [s_greenbeltref16_Few_L1] at hs
    show WpV cK0 Try.prog none 55 _ _ [(1, .ptr 1 0 0), (3, .int .i64 q1)] [(1, .box 30 (enc_Plan p))] []
    refine vS (vS (vT (oR 3 [(17, .vs 6 (mM enc_Def p.Defs)), (16, .ptr 1 0 0), (15, .int .i64 q1)] kr ?_)))
    refine oP (v := .int .i64 (List.length p.Defs : Int)) kr kr (loc_lenVs (sz := 6) (els := (mM enc_Def p.Defs)) kr kr (List.length_map ..)) ?_
    refine oR 1 [(19, .bool (decide (q1 < (List.length p.Defs : Int))))] kr ?_
    refine oN (nT ?_)
    refine v_cond (decide (q1 < (List.length p.Defs : Int))) kr (fun h3 => ?_) (fun h3 => ?_)
    ·replace hs := bif_t h3 hs
     refine vK (nT (vS (vB (vS ?_))))
     obtain ⟨z3, hs, hk3⟩ := bS hs
     refine v_join (S := Bool) (fun u => u = z3) (fun u => [(1, .ptr 1 0 0), (3, .int .i64 q1), (39, .bool u)]) (fun u => [(1, .box 30 (enc_Plan p))]) ?_ (fun v3 hz => ?_)
     ·refine vT (oR 3 [(24, .int .i64 q1), (23, .vs 6 (mM enc_Def p.Defs)), (22, .ptr 1 0 0)] kr ?_)
      obtain ⟨x1, g1, hs⟩ := bS hs; obtain ⟨g1a, g1b, g1c⟩ := idx_some g1
      refine oP (v := .vp (enc_Def x1) 0) kr kr (loc_indexVs (e := 46) (sz := 6) (k := .i64) (els := (mM enc_Def p.Defs)) (cs := (enc_Def x1)) kr kr kr g1a (by rw [g1c]; exact map_get _ (by omega))) ?_
      refine oR 2 [(27, .agg (enc_Expr x1.Body)), (26, .vp (enc_Def x1) 1)] kr ?_
      obtain ⟨y1, c1, hs⟩ := bS hs
      refine oP (v := .int .i64 y1) kr kr (loc_gcall0 (callV_func hbv34 kr) (w_greenbeltref16_Size KK x1.Body _ c1) kr) ?_
      refine oR 2 [(30, .bool (decide (y1 > 60))), (29, .bool (decide (y1 > 60)))] kr ?_
      cases h4 : ((decide (y1 > 60)))
      ·replace hs := bif_f h4 hs
       refine oR 3 [(33, .int .i64 q1), (32, .vs 6 (mM enc_Def p.Defs)), (31, .ptr 1 0 0)] kr ?_
       obtain ⟨x2, g2, hs⟩ := bS hs; obtain ⟨g2a, g2b, g2c⟩ := idx_some g2
       refine oP (v := .vp (enc_Def x2) 0) kr kr (loc_indexVs (e := 46) (sz := 6) (k := .i64) (els := (mM enc_Def p.Defs)) (cs := (enc_Def x2)) kr kr kr g2a (by rw [g2c]; exact map_get _ (by omega))) ?_
       refine oR 5 [(39, .bool (decide ((List.length x2.Name : Int) > 100))), (38, .bool (decide ((List.length x2.Name : Int) > 100))), (37, .int .i64 (List.length x2.Name : Int)), (36, .str x2.Name), (35, .vp (enc_Def x2) 0)] kr ?_
       refine oN ?_
       obtain rfl := si hs
       refine nrm_join (decide ((List.length x2.Name : Int) > 100)) rfl ?_
       exact cut_of [1, 3, 39] [1] kr kr kr
      ·replace hs := bif_t h4 hs
       refine oR 9 [(39, .bool true), (38, .no), (37, .no), (36, .no), (35, .no), (34, .no), (33, .no), (32, .no), (31, .no)] kr ?_
       refine oN ?_
       obtain rfl := si hs
       refine nrm_join true rfl ?_
       exact cut_of [1, 3, 39] [1] kr kr kr
     ·subst hz; clear hs; have hs := hk3; clear hk3
      refine nT ?_
      refine v_cond v3 kr (fun h5 => ?_) (fun h5 => ?_)
      ·replace hs := bif_t h5 hs
       refine vS (vT (oR 1 [(2, .bool false)] kr ?_))
       refine oN (nT (v_ret (rB (rT (ret_fuel ?_)))))
       refine rB (ret_join ?_)
       refine rT ?_
       obtain rfl := si hs
       replace hs := hk2
       obtain rfl := si hs
       exact fin_ret kr kr kr
      ·replace hs := bif_f h5 hs
       refine vK (nB (nT (vT (oR 3 [(3, .int .i64 (w64 (q1 + 1))), (21, .int .i64 (w64 (q1 + 1))), (20, .int .i64 q1)] kr ?_))))
       refine oN (nrm_fuel (w64 (q1 + 1)) hs ?_)
       exact cut_of [1, 3] [1] kr kr kr
    ·replace hs := bif_f h3 hs
     refine v_exit (exit_thenV (exit_fuel ?_))
     refine exit_blkV ?_
     obtain rfl := si hs
     refine nrm_join () rfl ?_
     exact cut_of [1] [1] kr kr kr
   ·subst hz; clear hs; have hs := hk2; clear hk2
    refine nT (vS (vS (vT (oR 1 [(4, .int .i64 0)] kr ?_))))
    refine oN (nT ?_)
    obtain ⟨z4, hs, hk4⟩ := bS hs
    refine v_join (S := Unit) (fun u => z4 = .inr u) (fun u => []) (fun u => []) ?_ (fun v4 hz => ?_)
    ·refine vB ?_
     refine v_fuel (S := Int) (fun u => [(1, .ptr 1 0 0), (4, .int .i64 u)]) (fun u => [(1, .box 30 (enc_Plan p))]) (s_greenbeltref16_Few_L2 p) (fun _ => rfl) KK 0 hs (cut_of [1, 4] [1] kr kr kr) (fun K2 q2 hs => ?_)
     rw [s_greenbeltref16_Few_L2] at hs
     show WpV cK0 Try.prog none 55 _ _ [(1, .ptr 1 0 0), (4, .int .i64 q2)] [(1, .box 30 (enc_Plan p))] []
     refine vS (vS (vT (oR 3 [(42, .vs 20 (mM enc_Rule p.Rules)), (41, .ptr 1 0 3), (40, .int .i64 q2)] kr ?_)))
     refine oP (v := .int .i64 (List.length p.Rules : Int)) kr kr (loc_lenVs (sz := 20) (els := (mM enc_Rule p.Rules)) kr kr (List.length_map ..)) ?_
     refine oR 1 [(44, .bool (decide (q2 < (List.length p.Rules : Int))))] kr ?_
     refine oN (nT ?_)
     refine v_cond (decide (q2 < (List.length p.Rules : Int))) kr (fun h6 => ?_) (fun h6 => ?_)
     ·replace hs := bif_t h6 hs
      refine vK (nT (vS (vB (vS (vT (oR 3 [(49, .int .i64 q2), (48, .vs 20 (mM enc_Rule p.Rules)), (47, .ptr 1 0 3)] kr ?_))))))
      obtain ⟨x3, g3, hs⟩ := bS hs; obtain ⟨g3a, g3b, g3c⟩ := idx_some g3
      refine oP (v := .vp (enc_Rule x3) 0) kr kr (loc_indexVs (e := 66) (sz := 20) (k := .i64) (els := (mM enc_Rule p.Rules)) (cs := (enc_Rule x3)) kr kr kr g3a (by rw [g3c]; exact map_get _ (by omega))) ?_
      refine oR 2 [(52, .agg (enc_Expr x3.Test)), (51, .vp (enc_Rule x3) 8)] kr ?_
      obtain ⟨y2, c2, hs⟩ := bS hs
      refine oP (v := .int .i64 y2) kr kr (loc_gcall0 (callV_func hbv34 kr) (w_greenbeltref16_Size KK x3.Test _ c2) kr) ?_
      refine oR 1 [(54, .bool (decide (y2 > 60)))] kr ?_
      refine oN (nT ?_)
      refine v_cond (decide (y2 > 60)) kr (fun h7 => ?_) (fun h7 => ?_)
      ·replace hs := bif_t h7 hs
       refine vS (vT (oR 1 [(2, .bool false)] kr ?_))
       refine oN (nT (v_ret (rB (rT (ret_fuel ?_)))))
       refine rB (ret_join ?_)
       refine rT ?_
       obtain rfl := si hs
       replace hs := hk4
       obtain rfl := si hs
       exact fin_ret kr kr kr
      ·replace hs := bif_f h7 hs
       refine vK (nB (nT (vT (oR 3 [(4, .int .i64 (w64 (q2 + 1))), (46, .int .i64 (w64 (q2 + 1))), (45, .int .i64 q2)] kr ?_))))
       refine oN (nrm_fuel (w64 (q2 + 1)) hs ?_)
       exact cut_of [1, 4] [1] kr kr kr
     ·replace hs := bif_f h6 hs
      refine v_exit (exit_thenV (exit_fuel ?_))
      refine exit_blkV ?_
      obtain rfl := si hs
      refine nrm_join () rfl ?_
      exact cut_of [] [] kr kr kr
    ·subst hz; clear hs; have hs := hk4; clear hk4
     refine nT (vS (vT (oR 1 [(2, .bool true)] kr ?_)))
     refine oN (nT (v_ret ?_))
     obtain rfl := si hs
     exact fin_ret kr kr kr
theorem w_define_Order_2 (p : Plan) (r : (List Int) × (List (List UInt8)) × Int) (hs : s_define_Order_2 p = some r) : FnA Try.prog 11 [.agg (enc_Plan p)] [] (.tup [.vs 1 (mI r.1), .vs 1 (mS r.2.1), .int .i64 r.2.2]) [] := by
 refine fnA_of_wp (N := 47) Try.func11 rfl rfl rfl fun cK0 => ?_
 unfold s_define_Order_2 at hs
 refine v_same (ρ' := [(0, .agg (enc_Plan p))]) rfl rfl ?_
 refine vS (vT (o_runh 4 [(4, .int .i64 0), (3, .nils), (2, .nils), (1, .ptr 1 0 0)] [(1, .box 30 (enc_Plan p))] kr ?_))
 refine oN (nT (vS (vT (o_runh 2 [(5, .mp 12), (12, .mp 12)] [(12, .map (encM V.str V.bool [])), (1, .box 30 (enc_Plan p))] kr ?_))))
 refine oN (nT (vS (vS (vT ?_))))
 obtain ⟨y1, c1, hs⟩ := bS hs
 refine oP (v := .vs 1 (mS y1)) kr kr (loc_gcall0 (callV_func hbv15 kr) (w_define_Measures  _ c1) kr) ?_
 refine oP (v := .int .i64 (List.length y1 : Int)) kr kr (loc_lenVs (sz := 1) (els := (mS y1)) kr kr (List.length_map ..)) ?_
 refine oR 1 [(15, .int .i64 0)] kr ?_
 refine oN (nT ?_)
 obtain ⟨z1, hs, hk1⟩ := bS hs
 refine v_join (S := (List ((List UInt8) × Bool))) (fun u => u = z1) (fun u => [(1, .ptr 1 0 0), (5, .mp 12)]) (fun u => [(12, .map (encM V.str V.bool u)), (1, .box 30 (enc_Plan p))]) ?_ (fun v1 hz => ?_)
 ·refine vB ?_
  refine v_fuel (S := Int × (List ((List UInt8) × Bool))) (fun u => [(1, .ptr 1 0 0), (5, .mp 12), (13, .vs 1 (mS y1)), (14, .int .i64 (List.length y1 : Int)), (15, .int .i64 u.1)]) (fun u => [(12, .map (encM V.str V.bool u.2)), (1, .box 30 (enc_Plan p))]) (s_define_Order_2_L1 y1) (fun _ => rfl) KK (0, []) hs (cut_of [1, 5, 13, 14, 15] [12, 1] kr kr kr) (fun K1 q1 hs => ?_)
  rw [s_define_Order_2_L1] at hs
  show WpV cK0 Try.prog none 47 _ _ [(1, .ptr 1 0 0), (5, .mp 12), (13, .vs 1 (mS y1)), (14, .int .i64 (List.length y1 : Int)), (15, .int .i64 q1.1)] [(12, .map (encM V.str V.bool q1.2)), (1, .box 30 (enc_Plan p))] []
  refine vS (vT (oR 1 [(16, .bool (decide (q1.1 < (List.length y1 : Int))))] kr ?_))
  refine oN (nT (vS ?_))
  refine v_cond (decide (q1.1 < (List.length y1 : Int))) kr (fun h1 => ?_) (fun h1 => ?_)
  ·replace hs := bif_t h1 hs
   refine vK (nT (vS (vB (vS (vT ?_)))))
   obtain ⟨x1, g1, hs⟩ := bS hs; obtain ⟨g1a, g1b, g1c⟩ := idx_some g1
   refine oP (v := .vp [.str x1] 0) kr kr (loc_indexVs (e := 9) (sz := 1) (k := .i64) (els := (mS y1)) (cs := (EV.encS x1)) kr kr kr g1a (by rw [g1c]; exact map_get _ (by omega))) ?_
   refine oR 2 [(7, .str x1), (18, .str x1)] kr ?_
   refine oN (nT (vT (oR 2 [(20, .str x1), (19, .mp 12)] kr ?_)))
   refine o_loc (F := [(12, .map (encM V.str V.bool q1.2))]) (F' := [(12, .map (encM V.str V.bool (mset x1 true q1.2)))]) (v := .no) [12] kr kr rfl kr (loc_mapUpdate (et := 4) (f := V.str) (g := V.bool) (l := q1.2) (a := x1) (c := true) kr kok9 kr kr kr kr kr) kr ?_
   refine oN (nB (nT (vT (oR 2 [(15, .int .i64 (w64 (q1.1 + 1))), (21, .int .i64 (w64 (q1.1 + 1)))] kr ?_))))
   refine oN (nrm_fuel ((w64 (q1.1 + 1)), (mset x1 true q1.2)) hs ?_)
   exact cut_of [1, 5, 13, 14, 15] [12, 1] kr kr kr
  ·replace hs := bif_f h1 hs
   refine v_exit (exit_thenV (exit_fuel ?_))
   refine exit_blkV ?_
   obtain rfl := si hs
   refine nrm_join q1.2 rfl ?_
   exact cut_of [1, 5] [12, 1] kr kr kr
 ·subst hz; clear hs; have hs := hk1; clear hk1
  refine nT (vS (vS (vT (oR 2 [(23, .vs 6 (mM enc_Def p.Defs)), (22, .ptr 1 0 0)] kr ?_))))
  refine oP (v := .int .i64 (List.length p.Defs : Int)) kr kr (loc_lenVs (sz := 6) (els := (mM enc_Def p.Defs)) kr kr (List.length_map ..)) ?_
  refine oR 1 [(25, .int .i64 0)] kr ?_
  refine oN (nT ?_)
  obtain ⟨z2, hs, hk2⟩ := bS hs
  refine v_join (S := Unit) (fun u => z2 = .inr u) (fun u => [(1, .ptr 1 0 0)]) (fun u => [(1, .box 30 (enc_Plan p))]) ?_ (fun v2 hz => ?_)
  ·refine vB ?_
   refine v_fuel (S := Int × (List ((List UInt8) × Bool))) (fun u => [(1, .ptr 1 0 0), (5, .mp 12), (23, .vs 6 (mM enc_Def p.Defs)), (24, .int .i64 (List.length p.Defs : Int)), (25, .int .i64 u.1)]) (fun u => [(12, .map (encM V.str V.bool u.2)), (1, .box 30 (enc_Plan p))]) (s_define_Order_2_L2 p) (fun _ => rfl) KK (0, v1) hs (cut_of [1, 5, 23, 24, 25] [12, 1] kr kr kr) (fun K2 q2 hs => ?_)
   rw [s_define_Order_2_L2] at hs
   show WpV cK0 Try.prog none 47 _ _ [(1, .ptr 1 0 0), (5, .mp 12), (23, .vs 6 (mM enc_Def p.Defs)), (24, .int .i64 (List.length p.Defs : Int)), (25, .int .i64 q2.1)] [(12, .map (encM V.str V.bool q2.2)), (1, .box 30 (enc_Plan p))] []
   refine vS (vT (oR 1 [(26, .bool (decide (q2.1 < (List.length p.Defs : Int))))] kr ?_))
   refine oN (nT (vS ?_))
   refine v_cond (decide (q2.1 < (List.length p.Defs : Int))) kr (fun h2 => ?_) (fun h2 => ?_)
   ·replace hs := bif_t h2 hs
    refine vK (nT (vS (vB (vS (vT ?_)))))
    obtain ⟨x2, g2, hs⟩ := bS hs; obtain ⟨g2a, g2b, g2c⟩ := idx_some g2
    refine oP (v := .vp (enc_Def x2) 0) kr kr (loc_indexVs (e := 46) (sz := 6) (k := .i64) (els := (mM enc_Def p.Defs)) (cs := (enc_Def x2)) kr kr kr g2a (by rw [g2c]; exact map_get _ (by omega))) ?_
    refine o_runh 3 [(9, .ptr 9 0 0), (28, .agg (enc_Def x2))] [(9, .box 46 [.str x2.Name, .int .i64 x2.Body.Op, .int .i64 x2.Body.N, .str x2.Body.S, .str x2.Body.Key, .vs 5 (encs_Expr x2.Body.Args)]), (12, .map (encM V.str V.bool q2.2)), (1, .box 30 (enc_Plan p))] kr ?_
    refine oN (nT (vS (vS (vT (oR 3 [(31, .str x2.Name), (30, .ptr 9 0 0), (29, .mp 12)] kr ?_)))))
    refine o_loc (F := [(12, .map (encM V.str V.bool q2.2))]) (F' := [(12, .map (encM V.str V.bool q2.2))]) (v := .bool (Option.getD (mfind x2.Name q2.2) false)) [12] kr kr rfl kr (loc_lookup (et := 4) (f := V.str) (g := V.bool) (l := q2.2) (a := x2.Name) (z := false) (zv := .bool false) false kr kok9 kr (fun _ _ _ h => h) kr kr) kr ?_
    refine oN (nT ?_)
    refine v_cond (Option.getD (mfind x2.Name q2.2) false) kr (fun h3 => ?_) (fun h3 => ?_)
    ·replace hs := bif_t h3 hs
     refine vS (vT (oR 3 [(4, .int .i64 5), (3, .nils), (2, .nils)] kr ?_))
     refine oN (nT (v_to ((2, .vs 1 (mI [])) :: _) _ (cut_view (R := []) (ks := []) kr kr (.nils 1)) ?_))
     refine v_to ((3, .vs 1 (mS [])) :: _) _ (cut_view (R := []) (ks := []) kr kr (.nils 1)) ?_
     refine v_ret (rT (rB (rT (ret_fuel ?_))))
     refine rB (ret_join ?_)
     refine rT ?_
     obtain rfl := si hs
     replace hs := hk2
     obtain rfl := si hs
     exact fin_ret kr kr kr
    ·replace hs := bif_f h3 hs
     refine vK (nT (vT (oR 3 [(35, .str x2.Name), (34, .ptr 9 0 0), (33, .mp 12)] kr ?_)))
     refine o_loc (F := [(12, .map (encM V.str V.bool q2.2))]) (F' := [(12, .map (encM V.str V.bool (mset x2.Name true q2.2)))]) (v := .no) [12] kr kr rfl kr (loc_mapUpdate (et := 4) (f := V.str) (g := V.bool) (l := q2.2) (a := x2.Name) (c := true) kr kok9 kr kr kr kr kr) kr ?_
     refine oN (nB (nT (vT (oR 2 [(25, .int .i64 (w64 (q2.1 + 1))), (36, .int .i64 (w64 (q2.1 + 1)))] kr ?_))))
     refine oN (nrm_fuel ((w64 (q2.1 + 1)), (mset x2.Name true q2.2)) hs ?_)
     exact cut_of [1, 5, 23, 24, 25] [12, 1] kr kr kr
   ·replace hs := bif_f h2 hs
    refine v_exit (exit_thenV (exit_fuel ?_))
    refine exit_blkV ?_
    obtain rfl := si hs
    refine nrm_join () rfl ?_
    exact cut_of [1] [1] kr kr kr
  ·subst hz; clear hs; have hs := hk2; clear hk2
   refine nT (vS (vT (oR 2 [(38, .vs 6 (mM enc_Def p.Defs)), (37, .ptr 1 0 0)] kr ?_)))
   obtain ⟨y2, c2, hs⟩ := bS hs
   refine o_loc (F := []) (F' := [(3003900, .box 99 [.vs 6 (mM enc_Def y2.1), .vs 1 (List.map (encL 1 EV.encI) y2.2)])]) (v := .ptr 3003900 0 0) [] kr kr rfl kr (loc_g (R := []) [.vs 6 (mM enc_Def p.Defs)] [(31, 3003900)] (callV_func hbv35 kr) (w_define_newGraph p.Defs _ c2) (.cons (.same _) (.nil)) kr kr kr kr kr kr kr kr) kr ?_
   refine oR 1 [(10, .ptr 3003900 0 0)] kr ?_
   refine oN (nT (vS (vS (vT (oR 1 [(40, .ptr 3003900 0 0)] kr ?_)))))
   obtain ⟨y3, c3, hs⟩ := bS hs
   refine o_loc (F := [(3003900, .box 99 [.vs 6 (mM enc_Def y2.1), .vs 1 (List.map (encL 1 EV.encI) y2.2)])]) (F' := [(3003900, .box 99 [.vs 6 (mM enc_Def y3.2.1), .vs 1 (List.map (encL 1 EV.encI) y3.2.2)])]) (v := nz 1 (mS y3.1)) [3003900] kr kr rfl kr (loc_g (R := []) [.ptr 3003900 0 0] [(1000000, 3003900)] (callV_func hbv36 kr) (w_define_graph_smallest y2.1 y2.2 _ c3) (.cons (.same _) (.nil)) kr kr kr kr kr kr kr kr) kr ?_
   refine oR 1 [(11, nz 1 (mS y3.1))] kr ?_
   refine oN (nT (vS (vT (oR 1 [(42, nz 1 (mS y3.1))] kr ?_))))
   refine oP (v := .bool (!(List.isEmpty y3.1))) kr kr (loc_notNilZ (sz := 1) (els := (mS y3.1)) (b := (!(List.isEmpty y3.1))) kr kr kr (by cases (y3.1 : List _) <;> rfl)) ?_
   refine oN (nT ?_)
   refine v_cond (!(List.isEmpty y3.1)) kr (fun h4 => ?_) (fun h4 => ?_)
   ·replace hs := bif_t h4 hs
    refine vS (vT (oR 4 [(4, .int .i64 16), (3, nz 1 (mS y3.1)), (2, .nils), (44, nz 1 (mS y3.1))] kr ?_))
    refine oN (nT (v_to ((2, .vs 1 (mI [])) :: _) _ (cut_view (R := []) (ks := []) kr kr (.nils 1)) ?_))
    refine v_to ((3, .vs 1 (mS y3.1)) :: _) _ (cut_view (R := []) (ks := []) kr kr (.nz _ _)) ?_
    refine v_ret (rT ?_)
    obtain rfl := si hs
    exact fin_ret kr kr kr
   ·replace hs := bif_f h4 hs
    refine vK (nT (vS (vT (oR 1 [(45, .ptr 3003900 0 0)] kr ?_))))
    obtain ⟨y4, c4, hs⟩ := bS hs
    refine o_loc (F := [(3003900, .box 99 [.vs 6 (mM enc_Def y3.2.1), .vs 1 (List.map (encL 1 EV.encI) y3.2.2)])]) (F' := [(3003900, .box 99 [.vs 6 (mM enc_Def y4.2.1), .vs 1 (List.map (encL 1 EV.encI) y4.2.2)])]) (v := .vs 1 (mI y4.1)) [3003900] kr kr rfl kr (loc_g (R := []) [.ptr 3003900 0 0] [(1000000, 3003900)] (callV_func hbv37 kr) (w_define_graph_order y3.2.1 y3.2.2 _ c4) (.cons (.same _) (.nil)) kr kr kr kr kr kr kr kr) kr ?_
    refine oR 3 [(4, .int .i64 0), (3, .nils), (2, .vs 1 (mI y4.1))] kr ?_
    refine oN (nT (v_to ((3, .vs 1 (mS [])) :: _) _ (cut_view (R := []) (ks := []) kr kr (.nils 1)) ?_))
    refine v_ret ?_
    obtain rfl := si hs
    exact fin_ret kr kr kr
theorem w_greenbeltlaw16_has (l : (List (List UInt8))) (s : (List UInt8)) (r : Bool) (hs : s_greenbeltlaw16_has l s = some r) : FnA Try.prog 23 [.vs 1 (mS l), .str s] [] (.bool r) [] := by
 refine fnA_of_wp (N := 18) Try.func23 rfl rfl rfl fun cK0 => ?_
 unfold s_greenbeltlaw16_has at hs
 refine v_same (ρ' := [(0, .vs 1 (mS l)), (1, .str s)]) rfl rfl ?_
 refine vS (vT (oR 1 [(4, .bool false)] kr ?_))
 refine oN (nT (vS (vS (vT (oR 1 [(5, .int .i64 0)] kr ?_)))))
 refine oN (nT ?_)
 obtain ⟨z1, hs, hk1⟩ := bS hs
 refine v_join (S := Unit) (fun u => z1 = .inr u) (fun u => []) (fun u => []) ?_ (fun v1 hz => ?_)
 ·refine vB ?_
  refine v_fuel (S := Int) (fun u => [(0, .vs 1 (mS l)), (1, .str s), (5, .int .i64 u)]) (fun u => []) (s_greenbeltlaw16_has_L1 l s) (fun _ => rfl) KK 0 hs (cut_of [0, 1, 5] [] kr kr kr) (fun K1 q1 hs => ?_)
  rw [s_greenbeltlaw16_has_L1] at hs
  show WpV cK0 Try.prog none 18 _ _ [(0, .vs 1 (mS l)), (1, .str s), (5, .int .i64 q1)] [] []
  refine vS (vS (vT (oR 2 [(7, .vs 1 (mS l)), (6, .int .i64 q1)] kr ?_)))
  refine oP (v := .int .i64 (List.length l : Int)) kr kr (loc_lenVs (sz := 1) (els := (mS l)) kr kr (List.length_map ..)) ?_
  refine oR 1 [(9, .bool (decide (q1 < (List.length l : Int))))] kr ?_
  refine oN (nT ?_)
  refine v_cond (decide (q1 < (List.length l : Int))) kr (fun h1 => ?_) (fun h1 => ?_)
  ·replace hs := bif_t h1 hs
   refine vK (nT (vS (vB (vS (vT (oR 2 [(13, .int .i64 q1), (12, .vs 1 (mS l))] kr ?_))))))
   obtain ⟨x1, g1, hs⟩ := bS hs; obtain ⟨g1a, g1b, g1c⟩ := idx_some g1
   refine oP (v := .vp [.str x1] 0) kr kr (loc_indexVs (e := 9) (sz := 1) (k := .i64) (els := (mS l)) (cs := (EV.encS x1)) kr kr kr g1a (by rw [g1c]; exact map_get _ (by omega))) ?_
   refine oR 3 [(17, .bool (decide (x1 = s))), (16, .str s), (15, .str x1)] kr ?_
   refine oN (nT ?_)
   refine v_cond (decide (x1 = s)) kr (fun h2 => ?_) (fun h2 => ?_)
   ·replace hs := bif_t h2 hs
    refine vS (vT (oR 1 [(4, .bool true)] kr ?_))
    refine oN (nT (v_ret (rB (rT (ret_fuel ?_)))))
    refine rB (ret_join ?_)
    refine rT ?_
    obtain rfl := si hs
    replace hs := hk1
    obtain rfl := si hs
    exact fin_ret kr kr kr
   ·replace hs := bif_f h2 hs
    refine vK (nB (nT (vT (oR 3 [(5, .int .i64 (w64 (q1 + 1))), (11, .int .i64 (w64 (q1 + 1))), (10, .int .i64 q1)] kr ?_))))
    refine oN (nrm_fuel (w64 (q1 + 1)) hs ?_)
    exact cut_of [0, 1, 5] [] kr kr kr
  ·replace hs := bif_f h1 hs
   refine v_exit (exit_thenV (exit_fuel ?_))
   refine exit_blkV ?_
   obtain rfl := si hs
   refine nrm_join () rfl ?_
   exact cut_of [] [] kr kr kr
 ·subst hz; clear hs; have hs := hk1; clear hk1
  refine nT (vS (vT (oR 1 [(4, .bool false)] kr ?_)))
  refine oN (nT (v_ret ?_))
  obtain rfl := si hs
  exact fin_ret kr kr kr
theorem w_define_Unknown_2 (p_Defs : (List Def)) (p_Tables : (List Table)) (p_Zones : (List Zone)) (p_Rules : (List Rule)) (p_Caps : (List Cap)) (p_Views : (List View)) (p_Sun : (List Point3)) (p_Hours : Int) (r : (List (List UInt8))) (hs : s_define_Unknown_2 p_Defs p_Tables p_Zones p_Rules p_Caps p_Views p_Sun p_Hours = some r) : FnA Try.prog 21 [.agg [.vs 6 (mM enc_Def p_Defs), .vs 3 (mM enc_Table p_Tables), .vs 3 (mM enc_Zone p_Zones), .vs 20 (mM enc_Rule p_Rules), .vs 4 (mM enc_Cap p_Caps), .vs 6 (mM enc_View p_Views), .vs 3 (mM enc_Point3 p_Sun), .int .i64 p_Hours]] [] (.vs 1 (mS r)) [] := by
 refine fnA_of_wp (N := 66) Try.func21 rfl rfl rfl fun cK0 => ?_
 unfold s_define_Unknown_2 at hs
 refine v_same (ρ' := [(0, .agg [.vs 6 (mM enc_Def p_Defs), .vs 3 (mM enc_Table p_Tables), .vs 3 (mM enc_Zone p_Zones), .vs 20 (mM enc_Rule p_Rules), .vs 4 (mM enc_Cap p_Caps), .vs 6 (mM enc_View p_Views), .vs 3 (mM enc_Point3 p_Sun), .int .i64 p_Hours])]) rfl rfl ?_
 refine vS (vT (o_runh 2 [(2, .nils), (1, .ptr 1 0 0)] [(1, .box 30 [.vs 6 (mM enc_Def p_Defs), .vs 3 (mM enc_Table p_Tables), .vs 3 (mM enc_Zone p_Zones), .vs 20 (mM enc_Rule p_Rules), .vs 4 (mM enc_Cap p_Caps), .vs 6 (mM enc_View p_Views), .vs 3 (mM enc_Point3 p_Sun), .int .i64 p_Hours])] kr ?_))
 refine oN (nT (vS (vT (o_runh 3 [(3, .ptr 3 0 0), (14, .mp 14)] [(3, .box 67 [.mp 14]), (14, .map (encM V.str V.bool [])), (1, .box 30 [.vs 6 (mM enc_Def p_Defs), .vs 3 (mM enc_Table p_Tables), .vs 3 (mM enc_Zone p_Zones), .vs 20 (mM enc_Rule p_Rules), .vs 4 (mM enc_Cap p_Caps), .vs 6 (mM enc_View p_Views), .vs 3 (mM enc_Point3 p_Sun), .int .i64 p_Hours])] kr ?_))))
 refine oN (nT (vS (vS (vT (oR 2 [(16, .vs 6 (mM enc_Def p_Defs)), (15, .ptr 1 0 0)] kr ?_)))))
 refine oP (v := .int .i64 (List.length p_Defs : Int)) kr kr (loc_lenVs (sz := 6) (els := (mM enc_Def p_Defs)) kr kr (List.length_map ..)) ?_
 refine oR 1 [(18, .int .i64 0)] kr ?_
 refine oN (nT ?_)
 obtain ⟨z1, hs, hk1⟩ := bS hs
 refine v_join (S := (List ((List UInt8) × Bool))) (fun u => u = z1) (fun u => [(1, .ptr 1 0 0), (3, .ptr 3 0 0)]) (fun u => [(3, .box 67 [.mp 14]), (14, .map (encM V.str V.bool u)), (1, .box 30 [.vs 6 (mM enc_Def p_Defs), .vs 3 (mM enc_Table p_Tables), .vs 3 (mM enc_Zone p_Zones), .vs 20 (mM enc_Rule p_Rules), .vs 4 (mM enc_Cap p_Caps), .vs 6 (mM enc_View p_Views), .vs 3 (mM enc_Point3 p_Sun), .int .i64 p_Hours])]) ?_ (fun v1 hz => ?_)
 ·refine vB ?_
  refine v_fuel (S := Int × (List ((List UInt8) × Bool))) (fun u => [(1, .ptr 1 0 0), (3, .ptr 3 0 0), (16, .vs 6 (mM enc_Def p_Defs)), (17, .int .i64 (List.length p_Defs : Int)), (18, .int .i64 u.1)]) (fun u => [(3, .box 67 [.mp 14]), (14, .map (encM V.str V.bool u.2)), (1, .box 30 [.vs 6 (mM enc_Def p_Defs), .vs 3 (mM enc_Table p_Tables), .vs 3 (mM enc_Zone p_Zones), .vs 20 (mM enc_Rule p_Rules), .vs 4 (mM enc_Cap p_Caps), .vs 6 (mM enc_View p_Views), .vs 3 (mM enc_Point3 p_Sun), .int .i64 p_Hours])]) (s_define_Unknown_2_L1 p_Defs) (fun _ => rfl) KK (0, []) hs (cut_of [1, 3, 16, 17, 18] [3, 14, 1] kr kr kr) (fun K1 q1 hs => ?_)
  rw [s_define_Unknown_2_L1] at hs
  show WpV cK0 Try.prog none 66 _ _ [(1, .ptr 1 0 0), (3, .ptr 3 0 0), (16, .vs 6 (mM enc_Def p_Defs)), (17, .int .i64 (List.length p_Defs : Int)), (18, .int .i64 q1.1)] [(3, .box 67 [.mp 14]), (14, .map (encM V.str V.bool q1.2)), (1, .box 30 [.vs 6 (mM enc_Def p_Defs), .vs 3 (mM enc_Table p_Tables), .vs 3 (mM enc_Zone p_Zones), .vs 20 (mM enc_Rule p_Rules), .vs 4 (mM enc_Cap p_Caps), .vs 6 (mM enc_View p_Views), .vs 3 (mM enc_Point3 p_Sun), .int .i64 p_Hours])] []
  refine vS (vT (oR 1 [(19, .bool (decide (q1.1 < (List.length p_Defs : Int))))] kr ?_))
  refine oN (nT (vS ?_))
  refine v_cond (decide (q1.1 < (List.length p_Defs : Int))) kr (fun h1 => ?_) (fun h1 => ?_)
  ·replace hs := bif_t h1 hs
   refine vK (nT (vS (vB (vS (vT ?_)))))
   obtain ⟨x1, g1, hs⟩ := bS hs; obtain ⟨g1a, g1b, g1c⟩ := idx_some g1
   refine oP (v := .vp (enc_Def x1) 0) kr kr (loc_indexVs (e := 46) (sz := 6) (k := .i64) (els := (mM enc_Def p_Defs)) (cs := (enc_Def x1)) kr kr kr g1a (by rw [g1c]; exact map_get _ (by omega))) ?_
   refine o_runh 3 [(5, .ptr 5 0 0), (21, .agg (enc_Def x1))] [(5, .box 46 [.str x1.Name, .int .i64 x1.Body.Op, .int .i64 x1.Body.N, .str x1.Body.S, .str x1.Body.Key, .vs 5 (encs_Expr x1.Body.Args)]), (3, .box 67 [.mp 14]), (14, .map (encM V.str V.bool q1.2)), (1, .box 30 [.vs 6 (mM enc_Def p_Defs), .vs 3 (mM enc_Table p_Tables), .vs 3 (mM enc_Zone p_Zones), .vs 20 (mM enc_Rule p_Rules), .vs 4 (mM enc_Cap p_Caps), .vs 6 (mM enc_View p_Views), .vs 3 (mM enc_Point3 p_Sun), .int .i64 p_Hours])] kr ?_
   refine oN (nT (vS (vT (oR 2 [(23, .agg (enc_Expr x1.Body)), (22, .ptr 5 0 1)] kr ?_))))
   obtain ⟨y1, c1, hs⟩ := bS hs
   refine o_loc (F := []) (F' := [(3002400, .box 44 [.int .i64 y1.1, .int .i64 y1.2.1, .str y1.2.2.1, .str y1.2.2.2.1, .vs 5 (encs_Expr y1.2.2.2.2)])]) (v := .fn 59 [] [.ptr 3002400 0 0]) [] kr kr rfl kr (loc_g (R := []) [.agg (enc_Expr x1.Body)] [(1, 3002400)] (callV_func hbv42 kr) (w_define_names x1.Body _ c1) (.cons (.same _) (.nil)) kr kr kr kr kr kr kr kr) kr ?_
   refine oN (nT ?_)
   obtain ⟨z2, hs, hk2⟩ := bS hs
   refine v_join (S := (List ((List UInt8) × Bool))) (fun u => u = z2) (fun u => [(1, .ptr 1 0 0), (3, .ptr 3 0 0), (16, .vs 6 (mM enc_Def p_Defs)), (17, .int .i64 (List.length p_Defs : Int)), (18, .int .i64 q1.1)]) (fun u => [(3, .box 67 [.mp 14]), (14, .map (encM V.str V.bool u)), (1, .box 30 [.vs 6 (mM enc_Def p_Defs), .vs 3 (mM enc_Table p_Tables), .vs 3 (mM enc_Zone p_Zones), .vs 20 (mM enc_Rule p_Rules), .vs 4 (mM enc_Cap p_Caps), .vs 6 (mM enc_View p_Views), .vs 3 (mM enc_Point3 p_Sun), .int .i64 p_Hours])]) ?_ (fun v2 hz => ?_)
   ·refine vB (v_to [(1, .ptr 1 0 0), (3, .ptr 3 0 0), (16, .vs 6 (mM enc_Def p_Defs)), (17, .int .i64 (List.length p_Defs : Int)), (18, .int .i64 q1.1), (24, .fn 59 [] [.ptr 3002400 0 0])] [(3002400, .box 44 [.int .i64 y1.1, .int .i64 y1.2.1, .str y1.2.2.1, .str y1.2.2.2.1, .vs 5 (encs_Expr y1.2.2.2.2)]), (3, .box 67 [.mp 14]), (14, .map (encM V.str V.bool q1.2)), (1, .box 30 [.vs 6 (mM enc_Def p_Defs), .vs 3 (mM enc_Table p_Tables), .vs 3 (mM enc_Zone p_Zones), .vs 20 (mM enc_Rule p_Rules), .vs 4 (mM enc_Cap p_Caps), .vs 6 (mM enc_View p_Views), .vs 3 (mM enc_Point3 p_Sun), .int .i64 p_Hours])] (cut_of [1, 3, 16, 17, 18, 24] [3002400, 3, 14, 1] kr kr kr) ?_)
    refine v_rangeF (Sg := (List ((List UInt8) × Bool))) (enc := V.str) (val := (fun s : List UInt8 => Value.string ⟨s.toArray⟩)) (caps := [.ptr 3002400 0 0]) (F := [(3002400, .box 44 [.int .i64 y1.1, .int .i64 y1.2.1, .str y1.2.2.1, .str y1.2.2.2.1, .vs 5 (encs_Expr y1.2.2.2.2)])]) [3002400] (fun u => [(3002400, .box 44 [.int .i64 y1.1, .int .i64 y1.2.1, .str y1.2.2.1, .str y1.2.2.2.1, .vs 5 (encs_Expr y1.2.2.2.2)]), (3, .box 67 [.mp 14]), (14, .map (encM V.str V.bool u)), (1, .box 30 [.vs 6 (mM enc_Def p_Defs), .vs 3 (mM enc_Table p_Tables), .vs 3 (mM enc_Zone p_Zones), .vs 20 (mM enc_Rule p_Rules), .vs 4 (mM enc_Cap p_Caps), .vs 6 (mM enc_View p_Views), .vs 3 (mM enc_Point3 p_Sun), .int .i64 p_Hours])]) s_define_Unknown_2_L2 q1.2 kr hbv59 (iter_names 3002400 (Expr.mk y1.1 y1.2.1 y1.2.2.1 y1.2.2.2.1 y1.2.2.2.2)) kr kr (fun _ _ _ => rfl) hs (fun _ => by kernel_rfl) kr (fun lR1 x2 xs1 q2 cR1 hs => ?_) (fun q2 hs => ?_)
    ·rw [s_define_Unknown_2_L2] at hs
     show WpV cR1 Try.prog (some lR1) 66 _ _ [(6, .str x2), (25, .str x2), (1, .ptr 1 0 0), (3, .ptr 3 0 0), (16, .vs 6 (mM enc_Def p_Defs)), (17, .int .i64 (List.length p_Defs : Int)), (18, .int .i64 q1.1), (24, .fn 59 [] [.ptr 3002400 0 0])] [(3002400, .box 44 [.int .i64 y1.1, .int .i64 y1.2.1, .str y1.2.2.1, .str y1.2.2.2.1, .vs 5 (encs_Expr y1.2.2.2.2)]), (3, .box 67 [.mp 14]), (14, .map (encM V.str V.bool q2)), (1, .box 30 [.vs 6 (mM enc_Def p_Defs), .vs 3 (mM enc_Table p_Tables), .vs 3 (mM enc_Zone p_Zones), .vs 20 (mM enc_Rule p_Rules), .vs 4 (mM enc_Cap p_Caps), .vs 6 (mM enc_View p_Views), .vs 3 (mM enc_Point3 p_Sun), .int .i64 p_Hours])] []
     refine vB (vT (oR 2 [(27, .str x2), (26, .mp 14)] kr ?_))
     refine o_loc (F := [(14, .map (encM V.str V.bool q2))]) (F' := [(14, .map (encM V.str V.bool (mset x2 true q2)))]) (v := .no) [14] kr kr rfl kr (loc_mapUpdate (et := 4) (f := V.str) (g := V.bool) (l := q2) (a := x2) (c := true) kr kok9 kr kr kr kr kr) kr ?_
     refine oN (nB (nrm_round (mset x2 true q2) hs ?_))
     exact cut_of [] [3002400, 3, 14, 1] kr kr kr
    ·rw [s_define_Unknown_2_L2] at hs
     refine nB ?_
     obtain rfl := si hs
     refine nrm_join q2 rfl ?_
     exact cut_of [1, 3, 16, 17, 18] [3, 14, 1] kr kr kr
   ·subst hz; clear hs; have hs := hk2; clear hk2
    refine nB (nT (vT (oR 2 [(18, .int .i64 (w64 (q1.1 + 1))), (28, .int .i64 (w64 (q1.1 + 1)))] kr ?_)))
    refine oN (nrm_fuel ((w64 (q1.1 + 1)), v2) hs ?_)
    exact cut_of [1, 3, 16, 17, 18] [3, 14, 1] kr kr kr
  ·replace hs := bif_f h1 hs
   refine v_exit (exit_thenV (exit_fuel ?_))
   refine exit_blkV ?_
   obtain rfl := si hs
   refine nrm_join q1.2 rfl ?_
   exact cut_of [1, 3] [3, 14, 1] kr kr kr
 ·subst hz; clear hs; have hs := hk1; clear hk1
  refine nT (vS (vS (vT (oR 2 [(30, .vs 20 (mM enc_Rule p_Rules)), (29, .ptr 1 0 3)] kr ?_))))
  refine oP (v := .int .i64 (List.length p_Rules : Int)) kr kr (loc_lenVs (sz := 20) (els := (mM enc_Rule p_Rules)) kr kr (List.length_map ..)) ?_
  refine oR 1 [(32, .int .i64 0)] kr ?_
  refine oN (nT ?_)
  obtain ⟨z3, hs, hk3⟩ := bS hs
  refine v_join (S := (List ((List UInt8) × Bool))) (fun u => u = z3) (fun u => [(1, .ptr 1 0 0), (3, .ptr 3 0 0)]) (fun u => [(3, .box 67 [.mp 14]), (14, .map (encM V.str V.bool u)), (1, .box 30 [.vs 6 (mM enc_Def p_Defs), .vs 3 (mM enc_Table p_Tables), .vs 3 (mM enc_Zone p_Zones), .vs 20 (mM enc_Rule p_Rules), .vs 4 (mM enc_Cap p_Caps), .vs 6 (mM enc_View p_Views), .vs 3 (mM enc_Point3 p_Sun), .int .i64 p_Hours])]) ?_ (fun v3 hz => ?_)
  ·refine vB ?_
   refine v_fuel (S := Int × (List ((List UInt8) × Bool))) (fun u => [(1, .ptr 1 0 0), (3, .ptr 3 0 0), (30, .vs 20 (mM enc_Rule p_Rules)), (31, .int .i64 (List.length p_Rules : Int)), (32, .int .i64 u.1)]) (fun u => [(3, .box 67 [.mp 14]), (14, .map (encM V.str V.bool u.2)), (1, .box 30 [.vs 6 (mM enc_Def p_Defs), .vs 3 (mM enc_Table p_Tables), .vs 3 (mM enc_Zone p_Zones), .vs 20 (mM enc_Rule p_Rules), .vs 4 (mM enc_Cap p_Caps), .vs 6 (mM enc_View p_Views), .vs 3 (mM enc_Point3 p_Sun), .int .i64 p_Hours])]) (s_define_Unknown_2_L3 p_Rules) (fun _ => rfl) KK (0, v1) hs (cut_of [1, 3, 30, 31, 32] [3, 14, 1] kr kr kr) (fun K2 q3 hs => ?_)
   rw [s_define_Unknown_2_L3] at hs
   show WpV cK0 Try.prog none 66 _ _ [(1, .ptr 1 0 0), (3, .ptr 3 0 0), (30, .vs 20 (mM enc_Rule p_Rules)), (31, .int .i64 (List.length p_Rules : Int)), (32, .int .i64 q3.1)] [(3, .box 67 [.mp 14]), (14, .map (encM V.str V.bool q3.2)), (1, .box 30 [.vs 6 (mM enc_Def p_Defs), .vs 3 (mM enc_Table p_Tables), .vs 3 (mM enc_Zone p_Zones), .vs 20 (mM enc_Rule p_Rules), .vs 4 (mM enc_Cap p_Caps), .vs 6 (mM enc_View p_Views), .vs 3 (mM enc_Point3 p_Sun), .int .i64 p_Hours])] []
   refine vS (vT (oR 1 [(33, .bool (decide (q3.1 < (List.length p_Rules : Int))))] kr ?_))
   refine oN (nT (vS ?_))
   refine v_cond (decide (q3.1 < (List.length p_Rules : Int))) kr (fun h2 => ?_) (fun h2 => ?_)
   ·replace hs := bif_t h2 hs
    refine vK (nT (vS (vB (vS (vT ?_)))))
    obtain ⟨x3, g2, hs⟩ := bS hs; obtain ⟨g2a, g2b, g2c⟩ := idx_some g2
    refine oP (v := .vp (enc_Rule x3) 0) kr kr (loc_indexVs (e := 66) (sz := 20) (k := .i64) (els := (mM enc_Rule p_Rules)) (cs := (enc_Rule x3)) kr kr kr g2a (by rw [g2c]; exact map_get _ (by omega))) ?_
    refine o_runh 3 [(8, .ptr 8 0 0), (35, .agg (enc_Rule x3))] [(8, .box 66 [.str x3.Name, .vs 1 (mS x3.Zones), .vs 1 (mS x3.Except), .int .i64 x3.From, .int .i64 x3.Until, .int .i64 x3.Grace, .bool x3.Vary, .int .i64 x3.Kind, .int .i64 x3.Test.Op, .int .i64 x3.Test.N, .str x3.Test.S, .str x3.Test.Key, .vs 5 (encs_Expr x3.Test.Args), .int .i64 x3.Plane.Side, .int .i64 x3.Plane.Base, .int .i64 x3.Plane.Num, .int .i64 x3.Plane.Den, .int .i64 x3.Uses, .int .i64 x3.Other, .int .i64 x3.N]), (3, .box 67 [.mp 14]), (14, .map (encM V.str V.bool q3.2)), (1, .box 30 [.vs 6 (mM enc_Def p_Defs), .vs 3 (mM enc_Table p_Tables), .vs 3 (mM enc_Zone p_Zones), .vs 20 (mM enc_Rule p_Rules), .vs 4 (mM enc_Cap p_Caps), .vs 6 (mM enc_View p_Views), .vs 3 (mM enc_Point3 p_Sun), .int .i64 p_Hours])] kr ?_
    refine oN (nT (vS (vT (oR 2 [(37, .agg (enc_Expr x3.Test)), (36, .ptr 8 0 8)] kr ?_))))
    obtain ⟨y2, c2, hs⟩ := bS hs
    refine o_loc (F := []) (F' := [(3003800, .box 44 [.int .i64 y2.1, .int .i64 y2.2.1, .str y2.2.2.1, .str y2.2.2.2.1, .vs 5 (encs_Expr y2.2.2.2.2)])]) (v := .fn 59 [] [.ptr 3003800 0 0]) [] kr kr rfl kr (loc_g (R := []) [.agg (enc_Expr x3.Test)] [(1, 3003800)] (callV_func hbv42 kr) (w_define_names x3.Test _ c2) (.cons (.same _) (.nil)) kr kr kr kr kr kr kr kr) kr ?_
    refine oN (nT ?_)
    obtain ⟨z4, hs, hk4⟩ := bS hs
    refine v_join (S := (List ((List UInt8) × Bool))) (fun u => u = z4) (fun u => [(1, .ptr 1 0 0), (3, .ptr 3 0 0), (30, .vs 20 (mM enc_Rule p_Rules)), (31, .int .i64 (List.length p_Rules : Int)), (32, .int .i64 q3.1)]) (fun u => [(3, .box 67 [.mp 14]), (14, .map (encM V.str V.bool u)), (1, .box 30 [.vs 6 (mM enc_Def p_Defs), .vs 3 (mM enc_Table p_Tables), .vs 3 (mM enc_Zone p_Zones), .vs 20 (mM enc_Rule p_Rules), .vs 4 (mM enc_Cap p_Caps), .vs 6 (mM enc_View p_Views), .vs 3 (mM enc_Point3 p_Sun), .int .i64 p_Hours])]) ?_ (fun v4 hz => ?_)
    ·refine vB (v_to [(1, .ptr 1 0 0), (3, .ptr 3 0 0), (30, .vs 20 (mM enc_Rule p_Rules)), (31, .int .i64 (List.length p_Rules : Int)), (32, .int .i64 q3.1), (38, .fn 59 [] [.ptr 3003800 0 0])] [(3003800, .box 44 [.int .i64 y2.1, .int .i64 y2.2.1, .str y2.2.2.1, .str y2.2.2.2.1, .vs 5 (encs_Expr y2.2.2.2.2)]), (3, .box 67 [.mp 14]), (14, .map (encM V.str V.bool q3.2)), (1, .box 30 [.vs 6 (mM enc_Def p_Defs), .vs 3 (mM enc_Table p_Tables), .vs 3 (mM enc_Zone p_Zones), .vs 20 (mM enc_Rule p_Rules), .vs 4 (mM enc_Cap p_Caps), .vs 6 (mM enc_View p_Views), .vs 3 (mM enc_Point3 p_Sun), .int .i64 p_Hours])] (cut_of [1, 3, 30, 31, 32, 38] [3003800, 3, 14, 1] kr kr kr) ?_)
     refine v_rangeF (Sg := (List ((List UInt8) × Bool))) (enc := V.str) (val := (fun s : List UInt8 => Value.string ⟨s.toArray⟩)) (caps := [.ptr 3003800 0 0]) (F := [(3003800, .box 44 [.int .i64 y2.1, .int .i64 y2.2.1, .str y2.2.2.1, .str y2.2.2.2.1, .vs 5 (encs_Expr y2.2.2.2.2)])]) [3003800] (fun u => [(3003800, .box 44 [.int .i64 y2.1, .int .i64 y2.2.1, .str y2.2.2.1, .str y2.2.2.2.1, .vs 5 (encs_Expr y2.2.2.2.2)]), (3, .box 67 [.mp 14]), (14, .map (encM V.str V.bool u)), (1, .box 30 [.vs 6 (mM enc_Def p_Defs), .vs 3 (mM enc_Table p_Tables), .vs 3 (mM enc_Zone p_Zones), .vs 20 (mM enc_Rule p_Rules), .vs 4 (mM enc_Cap p_Caps), .vs 6 (mM enc_View p_Views), .vs 3 (mM enc_Point3 p_Sun), .int .i64 p_Hours])]) s_define_Unknown_2_L4 q3.2 kr hbv59 (iter_names 3003800 (Expr.mk y2.1 y2.2.1 y2.2.2.1 y2.2.2.2.1 y2.2.2.2.2)) kr kr (fun _ _ _ => rfl) hs (fun _ => by kernel_rfl) kr (fun lR2 x4 xs2 q4 cR2 hs => ?_) (fun q4 hs => ?_)
     ·rw [s_define_Unknown_2_L4] at hs
      show WpV cR2 Try.prog (some lR2) 66 _ _ [(9, .str x4), (39, .str x4), (1, .ptr 1 0 0), (3, .ptr 3 0 0), (30, .vs 20 (mM enc_Rule p_Rules)), (31, .int .i64 (List.length p_Rules : Int)), (32, .int .i64 q3.1), (38, .fn 59 [] [.ptr 3003800 0 0])] [(3003800, .box 44 [.int .i64 y2.1, .int .i64 y2.2.1, .str y2.2.2.1, .str y2.2.2.2.1, .vs 5 (encs_Expr y2.2.2.2.2)]), (3, .box 67 [.mp 14]), (14, .map (encM V.str V.bool q4)), (1, .box 30 [.vs 6 (mM enc_Def p_Defs), .vs 3 (mM enc_Table p_Tables), .vs 3 (mM enc_Zone p_Zones), .vs 20 (mM enc_Rule p_Rules), .vs 4 (mM enc_Cap p_Caps), .vs 6 (mM enc_View p_Views), .vs 3 (mM enc_Point3 p_Sun), .int .i64 p_Hours])] []
      refine vB (vT (oR 2 [(41, .str x4), (40, .mp 14)] kr ?_))
      refine o_loc (F := [(14, .map (encM V.str V.bool q4))]) (F' := [(14, .map (encM V.str V.bool (mset x4 true q4)))]) (v := .no) [14] kr kr rfl kr (loc_mapUpdate (et := 4) (f := V.str) (g := V.bool) (l := q4) (a := x4) (c := true) kr kok9 kr kr kr kr kr) kr ?_
      refine oN (nB (nrm_round (mset x4 true q4) hs ?_))
      exact cut_of [] [3003800, 3, 14, 1] kr kr kr
     ·rw [s_define_Unknown_2_L4] at hs
      refine nB ?_
      obtain rfl := si hs
      refine nrm_join q4 rfl ?_
      exact cut_of [1, 3, 30, 31, 32] [3, 14, 1] kr kr kr
    ·subst hz; clear hs; have hs := hk4; clear hk4
     refine nB (nT (vT (oR 2 [(32, .int .i64 (w64 (q3.1 + 1))), (42, .int .i64 (w64 (q3.1 + 1)))] kr ?_)))
     refine oN (nrm_fuel ((w64 (q3.1 + 1)), v4) hs ?_)
     exact cut_of [1, 3, 30, 31, 32] [3, 14, 1] kr kr kr
   ·replace hs := bif_f h2 hs
    refine v_exit (exit_thenV (exit_fuel ?_))
    refine exit_blkV ?_
    obtain rfl := si hs
    refine nrm_join q3.2 rfl ?_
    exact cut_of [1, 3] [3, 14, 1] kr kr kr
  ·subst hz; clear hs; have hs := hk3; clear hk3
   refine nT (vS (vS (vT (oR 2 [(44, .vs 6 (mM enc_Def p_Defs)), (43, .ptr 1 0 0)] kr ?_))))
   refine oP (v := .int .i64 (List.length p_Defs : Int)) kr kr (loc_lenVs (sz := 6) (els := (mM enc_Def p_Defs)) kr kr (List.length_map ..)) ?_
   refine oR 1 [(46, .int .i64 0)] kr ?_
   refine oN (nT ?_)
   obtain ⟨z5, hs, hk5⟩ := bS hs
   refine v_join (S := (List ((List UInt8) × Bool))) (fun u => u = z5) (fun u => [(3, .ptr 3 0 0)]) (fun u => [(3, .box 67 [.mp 14]), (14, .map (encM V.str V.bool u))]) ?_ (fun v5 hz => ?_)
   ·refine vB ?_
    refine v_fuel (S := Int × (List ((List UInt8) × Bool))) (fun u => [(3, .ptr 3 0 0), (44, .vs 6 (mM enc_Def p_Defs)), (45, .int .i64 (List.length p_Defs : Int)), (46, .int .i64 u.1)]) (fun u => [(3, .box 67 [.mp 14]), (14, .map (encM V.str V.bool u.2))]) (s_define_Unknown_2_L5 p_Defs) (fun _ => rfl) KK (0, v3) hs (cut_of [3, 44, 45, 46] [3, 14] kr kr kr) (fun K3 q5 hs => ?_)
    rw [s_define_Unknown_2_L5] at hs
    show WpV cK0 Try.prog none 66 _ _ [(3, .ptr 3 0 0), (44, .vs 6 (mM enc_Def p_Defs)), (45, .int .i64 (List.length p_Defs : Int)), (46, .int .i64 q5.1)] [(3, .box 67 [.mp 14]), (14, .map (encM V.str V.bool q5.2))] []
    refine vS (vT (oR 1 [(47, .bool (decide (q5.1 < (List.length p_Defs : Int))))] kr ?_))
    refine oN (nT (vS ?_))
    refine v_cond (decide (q5.1 < (List.length p_Defs : Int))) kr (fun h3 => ?_) (fun h3 => ?_)
    ·replace hs := bif_t h3 hs
     refine vK (nT (vS (vB (vS (vT ?_)))))
     obtain ⟨x5, g3, hs⟩ := bS hs; obtain ⟨g3a, g3b, g3c⟩ := idx_some g3
     refine oP (v := .vp (enc_Def x5) 0) kr kr (loc_indexVs (e := 46) (sz := 6) (k := .i64) (els := (mM enc_Def p_Defs)) (cs := (enc_Def x5)) kr kr kr g3a (by rw [g3c]; exact map_get _ (by omega))) ?_
     refine o_runh 3 [(11, .ptr 11 0 0), (49, .agg (enc_Def x5))] [(11, .box 46 [.str x5.Name, .int .i64 x5.Body.Op, .int .i64 x5.Body.N, .str x5.Body.S, .str x5.Body.Key, .vs 5 (encs_Expr x5.Body.Args)]), (3, .box 67 [.mp 14]), (14, .map (encM V.str V.bool q5.2))] kr ?_
     refine oN (nT (vT (oR 3 [(52, .str x5.Name), (51, .ptr 11 0 0), (50, .mp 14)] kr ?_)))
     refine o_loc (F := [(14, .map (encM V.str V.bool q5.2))]) (F' := [(14, .map (encM V.str V.bool (mdel x5.Name q5.2)))]) (v := .tup []) [14] kr kr rfl kr (loc_mapDelete (et := 4) (f := V.str) (g := V.bool) (l := q5.2) (a := x5.Name) kr kok9 kr kr) kr ?_
     refine oN (nB (nT (vT (oR 2 [(46, .int .i64 (w64 (q5.1 + 1))), (53, .int .i64 (w64 (q5.1 + 1)))] kr ?_))))
     refine oN (nrm_fuel ((w64 (q5.1 + 1)), (mdel x5.Name q5.2)) hs ?_)
     exact cut_of [3, 44, 45, 46] [3, 14] kr kr kr
    ·replace hs := bif_f h3 hs
     refine v_exit (exit_thenV (exit_fuel ?_))
     refine exit_blkV ?_
     obtain rfl := si hs
     refine nrm_join q5.2 rfl ?_
     exact cut_of [3] [3, 14] kr kr kr
   ·subst hz; clear hs; have hs := hk5; clear hk5
    refine nT (vS (vS (vT ?_)))
    obtain ⟨y3, c3, hs⟩ := bS hs
    refine oP (v := .vs 1 (mS y3)) kr kr (loc_gcall0 (callV_func hbv15 kr) (w_define_Measures  _ c3) kr) ?_
    refine oP (v := .int .i64 (List.length y3 : Int)) kr kr (loc_lenVs (sz := 1) (els := (mS y3)) kr kr (List.length_map ..)) ?_
    refine oR 1 [(56, .int .i64 0)] kr ?_
    refine oN (nT ?_)
    obtain ⟨z6, hs, hk6⟩ := bS hs
    refine v_join (S := (List ((List UInt8) × Bool))) (fun u => u = z6) (fun u => [(3, .ptr 3 0 0)]) (fun u => [(3, .box 67 [.mp 14]), (14, .map (encM V.str V.bool u))]) ?_ (fun v6 hz => ?_)
    ·refine vB ?_
     refine v_fuel (S := Int × (List ((List UInt8) × Bool))) (fun u => [(3, .ptr 3 0 0), (54, .vs 1 (mS y3)), (55, .int .i64 (List.length y3 : Int)), (56, .int .i64 u.1)]) (fun u => [(3, .box 67 [.mp 14]), (14, .map (encM V.str V.bool u.2))]) (s_define_Unknown_2_L6 y3) (fun _ => rfl) KK (0, v5) hs (cut_of [3, 54, 55, 56] [3, 14] kr kr kr) (fun K4 q6 hs => ?_)
     rw [s_define_Unknown_2_L6] at hs
     show WpV cK0 Try.prog none 66 _ _ [(3, .ptr 3 0 0), (54, .vs 1 (mS y3)), (55, .int .i64 (List.length y3 : Int)), (56, .int .i64 q6.1)] [(3, .box 67 [.mp 14]), (14, .map (encM V.str V.bool q6.2))] []
     refine vS (vT (oR 1 [(57, .bool (decide (q6.1 < (List.length y3 : Int))))] kr ?_))
     refine oN (nT (vS ?_))
     refine v_cond (decide (q6.1 < (List.length y3 : Int))) kr (fun h4 => ?_) (fun h4 => ?_)
     ·replace hs := bif_t h4 hs
      refine vK (nT (vS (vB (vS (vT ?_)))))
      obtain ⟨x6, g4, hs⟩ := bS hs; obtain ⟨g4a, g4b, g4c⟩ := idx_some g4
      refine oP (v := .vp [.str x6] 0) kr kr (loc_indexVs (e := 9) (sz := 1) (k := .i64) (els := (mS y3)) (cs := (EV.encS x6)) kr kr kr g4a (by rw [g4c]; exact map_get _ (by omega))) ?_
      refine oR 2 [(13, .str x6), (59, .str x6)] kr ?_
      refine oN (nT (vT (oR 2 [(61, .str x6), (60, .mp 14)] kr ?_)))
      refine o_loc (F := [(14, .map (encM V.str V.bool q6.2))]) (F' := [(14, .map (encM V.str V.bool (mdel x6 q6.2)))]) (v := .tup []) [14] kr kr rfl kr (loc_mapDelete (et := 4) (f := V.str) (g := V.bool) (l := q6.2) (a := x6) kr kok9 kr kr) kr ?_
      refine oN (nB (nT (vT (oR 2 [(56, .int .i64 (w64 (q6.1 + 1))), (62, .int .i64 (w64 (q6.1 + 1)))] kr ?_))))
      refine oN (nrm_fuel ((w64 (q6.1 + 1)), (mdel x6 q6.2)) hs ?_)
      exact cut_of [3, 54, 55, 56] [3, 14] kr kr kr
     ·replace hs := bif_f h4 hs
      refine v_exit (exit_thenV (exit_fuel ?_))
      refine exit_blkV ?_
      obtain rfl := si hs
      refine nrm_join q6.2 rfl ?_
      exact cut_of [3] [3, 14] kr kr kr
    ·subst hz; clear hs; have hs := hk6; clear hk6
     refine nT (vS (vT (oR 1 [(63, .mp 14)] kr ?_)))
     obtain ⟨y4, c4, hs⟩ := bS hs
     refine o_loc (F := [(14, .map (encM V.str V.bool v6))]) (F' := [(3006400, .box 67 [.mp 14]), (14, .map (encM V.str V.bool v6))]) (v := .fn 62 [] [.ptr 3006400 0 0]) [14] kr kr rfl kr (loc_g (R := []) [.mp 14] [(1000000, 14), (1, 3006400)] (callV_func hbv44 kr) (w_maps_Keys v6 _ c4) (.cons (.same _) (.nil)) kr kr kr kr kr kr kr kr) kr ?_
     obtain ⟨_, g5, hs⟩ := bS hs; replace g5 := grd_some g5
     refine o_loc (F := [(3006400, .box 67 [.mp 14]), (14, .map (encM V.str V.bool v6))]) (F' := [(3006400, .box 67 [.mp 14]), (14, .map (encM V.str V.bool v6))]) (v := .vs 1 (mS (sortKeys v6))) [3006400, 14] kr kr rfl kr (loc_g (R := []) [.fn 62 [] [.ptr 3006400 0 0]] [(1000000, 3006400), (1000001, 14)] (callV_func hbv43 kr) (w_sorted_keys v6 g5) (.cons (.same _) .nil) kr kr kr kr kr kr kr kr) kr ?_
     refine oR 1 [(2, .vs 1 (mS (sortKeys v6)))] kr ?_
     refine oN (nT (v_ret ?_))
     obtain rfl := si hs
     exact fin_ret kr kr kr
theorem w_greenbeltlaw16_DefineCompletes (p : Plan) (r : Bool) (hs : s_greenbeltlaw16_DefineCompletes p = some r) : FnA Try.prog 7 [.agg (enc_Plan p)] [] (.bool r) [] := by
 refine fnA_of_wp (N := 105) Try.func7 rfl rfl rfl fun cK0 => ?_
 unfold s_greenbeltlaw16_DefineCompletes at hs
 refine v_same (ρ' := [(0, .agg (enc_Plan p))]) rfl rfl ?_
 refine vS (vT (o_runh 2 [(2, .bool false), (1, .ptr 1 0 0)] [(1, .box 30 (enc_Plan p))] kr ?_))
 refine oN (nT (vS (vT ?_)))
 obtain ⟨y1, c1, hs⟩ := bS hs
 refine oP (v := .bool y1) kr kr (loc_gcall0 (callV_func hbv9 kr) (w_greenbeltlaw16_small  _ c1) kr) ?_
 refine oR 1 [(3, .bool y1)] kr ?_
 refine oN (nT (vS (vS (vT (oR 1 [(14, .agg (enc_Plan p))] kr ?_)))))
 obtain ⟨y2, c2, hs⟩ := bS hs
 refine oP (v := .bool y2) kr kr (loc_gcall0 (callV_func hbv10 kr) (w_greenbeltref16_Few p _ c2) kr) ?_
 refine oR 1 [(16, .bool (!y2))] kr ?_
 refine oN (nT ?_)
 refine v_cond (!y2) kr (fun h1 => ?_) (fun h1 => ?_)
 ·replace hs := bif_t h1 hs
  refine vS (vT (oR 2 [(2, .bool y1), (17, .bool y1)] kr ?_))
  refine oN (nT (v_ret (rT ?_)))
  obtain rfl := si hs
  exact fin_ret kr kr kr
 ·replace hs := bif_f h1 hs
  refine vK (nT (vS (vT (oR 1 [(18, .agg (enc_Plan p))] kr ?_))))
  obtain ⟨y3, c3, hs⟩ := bS hs
  refine oP (v := .vs 1 (mS y3)) kr kr (loc_gcall0 (callV_func hbv21 kr) (w_define_Unknown p _ c3) kr) ?_
  refine oR 1 [(4, .vs 1 (mS y3))] kr ?_
  refine oN (nT (vS (vT (o_runh 3 [(5, .ptr 5 0 0), (20, .agg (enc_Plan p))] [(5, .box 30 (enc_Plan p)), (1, .box 30 (enc_Plan p))] kr ?_))))
  refine oN (nT (vS (vT (o_runh 3 [(23, .vs 6 (mM enc_Def p.Defs)), (22, .ptr 1 0 0), (21, .sl 6 21 0 0 0)] [(21, .row 46 6 0 (mM enc_Def [])), (5, .box 30 (enc_Plan p)), (1, .box 30 (enc_Plan p))] kr ?_))))
  obtain ⟨_, g1, hs⟩ := bS hs; replace g1 := grd_some g1
  refine o_loc (F := [(21, .row 46 6 0 (mM enc_Def []))]) (F' := [(21, .row 46 6 0 (mM enc_Def p.Defs))]) (v := .sl 6 21 ((p.Defs).length) 0 ((p.Defs).length)) [21] kr kr rfl kr (loc_appendT (e := 46) (sz := 6) (bytes := 88) (L := 0) (els := (mM enc_Def [])) (ys := (mM enc_Def p.Defs)) kr kr (by first | exact List.length_map .. | rfl) (by have := Src.vs (sz := 6) (R := []) (mM enc_Def p.Defs); exact this) (map_ones enc_Def (fun _ => rfl) _) (map_lens enc_Def (fun _ => rfl) _) kr (by first | exact (List.map_append ..).symm | rfl | simp only [List.map_nil, List.nil_append]) (List.length_map ..) g1 (by omega)) kr ?_
  refine o_runh 2 [(25, .ptr 5 0 0)] [(21, .row 46 6 0 (mM enc_Def p.Defs)), (5, .box 30 [.sl 6 21 ((p.Defs).length) 0 ((p.Defs).length), .vs 3 (mM enc_Table p.Tables), .vs 3 (mM enc_Zone p.Zones), .vs 20 (mM enc_Rule p.Rules), .vs 4 (mM enc_Cap p.Caps), .vs 6 (mM enc_View p.Views), .vs 3 (mM enc_Point3 p.Sun), .int .i64 p.Hours]), (1, .box 30 (enc_Plan p))] kr ?_
  refine oN (nT (vS (vS (vT (oR 1 [(6, .int .i64 0)] kr ?_)))))
  refine oN (nT ?_)
  obtain ⟨z1, hs, hk1⟩ := bS hs
  refine v_join (S := (List Def)) (fun u => z1 = .inr u) (fun u => [(1, .ptr 1 0 0), (3, .bool y1), (5, .ptr 5 0 0)]) (fun u => [(21, .row 46 6 0 (mM enc_Def u)), (5, .box 30 [.sl 6 21 ((u).length) 0 ((u).length), .vs 3 (mM enc_Table p.Tables), .vs 3 (mM enc_Zone p.Zones), .vs 20 (mM enc_Rule p.Rules), .vs 4 (mM enc_Cap p.Caps), .vs 6 (mM enc_View p.Views), .vs 3 (mM enc_Point3 p.Sun), .int .i64 p.Hours]), (1, .box 30 (enc_Plan p))]) ?_ (fun v1 hz => ?_)
  ·refine vB ?_
   refine v_fuel (S := Int × (List Def)) (fun u => [(1, .ptr 1 0 0), (3, .bool y1), (4, .vs 1 (mS y3)), (5, .ptr 5 0 0), (6, .int .i64 u.1)]) (fun u => [(21, .row 46 6 0 (mM enc_Def u.2)), (5, .box 30 [.sl 6 21 ((u.2).length) 0 ((u.2).length), .vs 3 (mM enc_Table p.Tables), .vs 3 (mM enc_Zone p.Zones), .vs 20 (mM enc_Rule p.Rules), .vs 4 (mM enc_Cap p.Caps), .vs 6 (mM enc_View p.Views), .vs 3 (mM enc_Point3 p.Sun), .int .i64 p.Hours]), (1, .box 30 (enc_Plan p))]) (s_greenbeltlaw16_DefineCompletes_L1 y3) (fun _ => rfl) KK (0, p.Defs) hs (cut_of [1, 3, 4, 5, 6] [21, 5, 1] kr kr kr) (fun K1 q1 hs => ?_)
   rw [s_greenbeltlaw16_DefineCompletes_L1] at hs
   show WpV cK0 Try.prog none 105 _ _ [(1, .ptr 1 0 0), (3, .bool y1), (4, .vs 1 (mS y3)), (5, .ptr 5 0 0), (6, .int .i64 q1.1)] [(21, .row 46 6 0 (mM enc_Def q1.2)), (5, .box 30 [.sl 6 21 ((q1.2).length) 0 ((q1.2).length), .vs 3 (mM enc_Table p.Tables), .vs 3 (mM enc_Zone p.Zones), .vs 20 (mM enc_Rule p.Rules), .vs 4 (mM enc_Cap p.Caps), .vs 6 (mM enc_View p.Views), .vs 3 (mM enc_Point3 p.Sun), .int .i64 p.Hours]), (1, .box 30 (enc_Plan p))] []
   refine vS (vS (vT (oR 2 [(27, .vs 1 (mS y3)), (26, .int .i64 q1.1)] kr ?_)))
   refine oP (v := .int .i64 (List.length y3 : Int)) kr kr (loc_lenVs (sz := 1) (els := (mS y3)) kr kr (List.length_map ..)) ?_
   refine oR 1 [(29, .bool (decide (q1.1 < (List.length y3 : Int))))] kr ?_
   refine oN (nT ?_)
   refine v_cond (decide (q1.1 < (List.length y3 : Int))) kr (fun h2 => ?_) (fun h2 => ?_)
   ·replace hs := bif_t h2 hs
    refine vK (nT (vS (vB (vS (vS ?_)))))
    obtain ⟨z2, hs, hk2⟩ := bS hs
    refine v_join (S := Bool) (fun u => u = z2) (fun u => [(1, .ptr 1 0 0), (3, .bool y1), (4, .vs 1 (mS y3)), (5, .ptr 5 0 0), (6, .int .i64 q1.1), (53, .bool u)]) (fun u => [(21, .row 46 6 0 (mM enc_Def q1.2)), (5, .box 30 [.sl 6 21 ((q1.2).length) 0 ((q1.2).length), .vs 3 (mM enc_Table p.Tables), .vs 3 (mM enc_Zone p.Zones), .vs 20 (mM enc_Rule p.Rules), .vs 4 (mM enc_Cap p.Caps), .vs 6 (mM enc_View p.Views), .vs 3 (mM enc_Point3 p.Sun), .int .i64 p.Hours]), (1, .box 30 (enc_Plan p))]) ?_ (fun v2 hz => ?_)
    ·refine v_draw mixedH kr ?_
     refine d_runs 3 0 [(34, .bool (decide (q1.1 > 0))), (33, .bool (decide (q1.1 > 0))), (32, .int .i64 q1.1)] (pfp 3 2) kr kr ?_
     cases h3 : ((decide (q1.1 > 0)))
     ·replace hs := bif_f h3 hs
      refine d_runs 12 3 [(46, .bool false), (45, .bool false), (44, .no), (43, .no), (42, .no), (41, .no), (40, .no), (39, .no), (38, .no), (37, .no), (36, .no), (35, .no)] (pfp 12 14) kr kr ?_
      obtain ⟨y4, c4, hs⟩ := bS hs
      refine d_pure (v := .vs 1 (mS y4)) 15 rfl rfl rfl rfl kr kr (loc_gcall0 (callV_func hbv15 kr) (w_define_Measures  _ c4) kr) ?_
      refine d_runs 2 16 [(49, .int .i64 q1.1), (48, .vs 1 (mS y3))] (pfp 2 17) kr kr ?_
      obtain ⟨x1, g2, hs⟩ := bS hs; obtain ⟨g2a, g2b, g2c⟩ := idx_some g2
      refine d_pure (v := .vp [.str x1] 0) 18 rfl rfl rfl rfl kr kr (loc_indexVs (e := 9) (sz := 1) (k := .i64) (els := (mS y3)) (cs := (EV.encS x1)) kr kr kr g2a (by rw [g2c]; exact map_get _ (by omega))) ?_
      refine d_runs 1 19 [(51, .str x1)] (pfp 1 19) kr kr ?_
      obtain ⟨y5, c5, hs⟩ := bS hs
      refine d_pure (v := .bool y5) 20 rfl rfl rfl rfl kr kr (loc_gcall0 (callV_func hbv23 kr) (w_greenbeltlaw16_has y4 x1 _ c5) kr) ?_
      refine d_runs 1 21 [(53, .bool y5)] (pfp 1 21) kr kr ?_
      refine d_nil kr ?_
      obtain rfl := si hs
      refine nrm_join y5 rfl ?_
      exact cut_of [1, 3, 4, 5, 6, 53] [21, 5, 1] kr kr kr
     ·replace hs := bif_t h3 hs
      refine d_runs 3 3 [(37, .int .i64 (w64 (q1.1 - 1))), (36, .int .i64 q1.1), (35, .vs 1 (mS y3))] (pfp 3 5) kr kr ?_
      obtain ⟨x2, g3, hs⟩ := bS hs; obtain ⟨g3a, g3b, g3c⟩ := idx_some g3
      refine d_pure (v := .vp [.str x2] 0) 6 rfl rfl rfl rfl kr kr (loc_indexVs (e := 9) (sz := 1) (k := .i64) (els := (mS y3)) (cs := (EV.encS x2)) kr kr kr g3a (by rw [g3c]; exact map_get _ (by omega))) ?_
      refine d_runs 3 7 [(41, .int .i64 q1.1), (40, .vs 1 (mS y3)), (39, .str x2)] (pfp 3 9) kr kr ?_
      obtain ⟨x3, g4, hs⟩ := bS hs; obtain ⟨g4a, g4b, g4c⟩ := idx_some g4
      refine d_pure (v := .vp [.str x3] 0) 10 rfl rfl rfl rfl kr kr (loc_indexVs (e := 9) (sz := 1) (k := .i64) (els := (mS y3)) (cs := (EV.encS x3)) kr kr kr g4a (by rw [g4c]; exact map_get _ (by omega))) ?_
      refine d_runs 4 11 [(46, .bool (!(Op.bytesLess x2 x3))), (45, .bool (!(Op.bytesLess x2 x3))), (44, .bool (!(Op.bytesLess x2 x3))), (43, .str x3)] (pfp 4 14) kr kr ?_
      cases h4 : ((!(Op.bytesLess x2 x3)))
      ·replace hs := bif_f h4 hs
       obtain ⟨y6, c6, hs⟩ := bS hs
       refine d_pure (v := .vs 1 (mS y6)) 15 rfl rfl rfl rfl kr kr (loc_gcall0 (callV_func hbv15 kr) (w_define_Measures  _ c6) kr) ?_
       refine d_runs 2 16 [(49, .int .i64 q1.1), (48, .vs 1 (mS y3))] (pfp 2 17) kr kr ?_
       obtain ⟨x4, g5, hs⟩ := bS hs; obtain ⟨g5a, g5b, g5c⟩ := idx_some g5
       refine d_pure (v := .vp [.str x4] 0) 18 rfl rfl rfl rfl kr kr (loc_indexVs (e := 9) (sz := 1) (k := .i64) (els := (mS y3)) (cs := (EV.encS x4)) kr kr kr g5a (by rw [g5c]; exact map_get _ (by omega))) ?_
       refine d_runs 1 19 [(51, .str x4)] (pfp 1 19) kr kr ?_
       obtain ⟨y7, c7, hs⟩ := bS hs
       refine d_pure (v := .bool y7) 20 rfl rfl rfl rfl kr kr (loc_gcall0 (callV_func hbv23 kr) (w_greenbeltlaw16_has y6 x4 _ c7) kr) ?_
       refine d_runs 1 21 [(53, .bool y7)] (pfp 1 21) kr kr ?_
       refine d_nil kr ?_
       obtain rfl := si hs
       refine nrm_join y7 rfl ?_
       exact cut_of [1, 3, 4, 5, 6, 53] [21, 5, 1] kr kr kr
      ·replace hs := bif_t h4 hs
       refine d_runs 7 15 [(53, .bool true), (52, .no), (51, .no), (50, .no), (49, .no), (48, .no), (47, .no)] (pfp 7 21) kr kr ?_
       refine d_nil kr ?_
       obtain rfl := si hs
       refine nrm_join true rfl ?_
       exact cut_of [1, 3, 4, 5, 6, 53] [21, 5, 1] kr kr kr
    ·subst hz; clear hs; have hs := hk2; clear hk2
     refine nT ?_
     refine v_cond v2 kr (fun h5 => ?_) (fun h5 => ?_)
     ·replace hs := bif_t h5 hs
      refine vS (vT (oR 1 [(2, .bool false)] kr ?_))
      refine oN (nT (v_ret (rT (rB (rT (ret_fuel ?_))))))
      refine rB (ret_join ?_)
      refine rT ?_
      obtain rfl := si hs
      replace hs := hk1
      obtain rfl := si hs
      exact fin_ret kr kr kr
     ·replace hs := bif_f h5 hs
      refine vK (nT (v_draw mixedH kr ?_))
      refine d_runs 4 0 [(57, .int .i64 q1.1), (56, .vs 1 (mS y3)), (55, .sl 6 21 ((q1.2).length) 0 ((q1.2).length)), (54, .ptr 5 0 0)] [⟨3, [], []⟩, ⟨2, [], []⟩, ⟨1, [], [5]⟩, ⟨0, [], []⟩] kr kr ?_
      obtain ⟨x5, g6, hs⟩ := bS hs; obtain ⟨g6a, g6b, g6c⟩ := idx_some g6
      refine d_pure (v := .vp [.str x5] 0) 4 rfl rfl rfl rfl kr kr (loc_indexVs (e := 9) (sz := 1) (k := .i64) (els := (mS y3)) (cs := (EV.encS x5)) kr kr kr g6a (by rw [g6c]; exact map_get _ (by omega))) ?_
      refine d_runs 4 5 [(62, .agg [.str x5, .int .i64 0, .int .i64 q1.1, .str [], .str [], .nils]), (61, .agg [.int .i64 0, .int .i64 q1.1, .str [], .str [], .nils]), (60, .int .i64 q1.1), (59, .str x5)] (pfp 4 8) kr kr ?_
      refine d_loc (F := []) (R := []) (F' := [(63, .row 46 6 0 (mM enc_Def [(Def.mk x5 (Expr.mk 0 q1.1 [] [] []))]))]) (v := .sl 6 63 1 0 1) 9 [] [] rfl rfl rfl rfl kr kr kr kr kr kr kr kr (loc_buildSliceW (e := 46) (sz := 6) (els := [[.str x5, .int .i64 0, .int .i64 q1.1, .str [], .str [], .nils]]) (els2 := [[.str x5, .int .i64 0, .int .i64 q1.1, .str [], .str [], .vs 5 []]]) (fl := [.str x5, .int .i64 0, .int .i64 q1.1, .str [], .str [], .nils]) (fl2 := [.str x5, .int .i64 0, .int .i64 q1.1, .str [], .str [], .vs 5 []]) kr kr kr kr kr (wk_same (wk_same (wk_same (wk_same (wk_same (wk_nils wk_nil)))))) kr kr kr) ?_
      obtain ⟨_, g7, hs⟩ := bS hs; replace g7 := grd_some g7
      refine d_loc (F := [(21, .row 46 6 0 (mM enc_Def q1.2))]) (R := [(63, .row 46 6 0 (mM enc_Def [(Def.mk x5 (Expr.mk 0 q1.1 [] [] []))]))]) (F' := [(21, .row 46 6 0 (mM enc_Def (q1.2 ++ [(Def.mk x5 (Expr.mk 0 q1.1 [] [] []))])))]) (v := .sl 6 21 (((q1.2 ++ [(Def.mk x5 (Expr.mk 0 q1.1 [] [] []))])).length) 0 (((q1.2 ++ [(Def.mk x5 (Expr.mk 0 q1.1 [] [] []))])).length)) 10 [21] [63] rfl rfl rfl rfl kr kr kr kr kr kr kr kr (loc_appendT (e := 46) (sz := 6) (bytes := 88) (L := (q1.2).length) (els := (mM enc_Def q1.2)) (ys := (mM enc_Def [(Def.mk x5 (Expr.mk 0 q1.1 [] [] []))])) kr kr (by first | exact List.length_map .. | rfl) (.sl (t := 46) (fz := 0) (ys := (mM enc_Def [(Def.mk x5 (Expr.mk 0 q1.1 [] [] []))])) kr kr) (map_ones enc_Def (fun _ => rfl) _) (map_lens enc_Def (fun _ => rfl) _) kr (by first | exact (List.map_append ..).symm | rfl | simp only [List.map_nil, List.nil_append]) (List.length_map ..) g7 (by omega)) ?_
      refine d_runh 2 11 [(65, .ptr 5 0 0)] [(5, .box 30 [.sl 6 21 (((q1.2 ++ [(Def.mk x5 (Expr.mk 0 q1.1 [] [] []))])).length) 0 (((q1.2 ++ [(Def.mk x5 (Expr.mk 0 q1.1 [] [] []))])).length), .vs 3 (mM enc_Table p.Tables), .vs 3 (mM enc_Zone p.Zones), .vs 20 (mM enc_Rule p.Rules), .vs 4 (mM enc_Cap p.Caps), .vs 6 (mM enc_View p.Views), .vs 3 (mM enc_Point3 p.Sun), .int .i64 p.Hours]), (21, .row 46 6 0 (mM enc_Def (q1.2 ++ [(Def.mk x5 (Expr.mk 0 q1.1 [] [] []))]))), (63, .row 46 6 0 (mM enc_Def [(Def.mk x5 (Expr.mk 0 q1.1 [] [] []))])), (1, .box 30 (enc_Plan p))] [⟨12, [5], []⟩, ⟨11, [], []⟩] kr kr ?_
      refine d_nil kr ?_
      refine nB (nT (vT (oR 3 [(6, .int .i64 (w64 (q1.1 + 1))), (31, .int .i64 (w64 (q1.1 + 1))), (30, .int .i64 q1.1)] kr ?_)))
      refine oN (nrm_fuel ((w64 (q1.1 + 1)), (q1.2 ++ [(Def.mk x5 (Expr.mk 0 q1.1 [] [] []))])) hs ?_)
      exact cut_of [1, 3, 4, 5, 6] [21, 5, 1] kr kr kr
   ·replace hs := bif_f h2 hs
    refine v_exit (exit_thenV (exit_fuel ?_))
    refine exit_blkV ?_
    obtain rfl := si hs
    refine nrm_join q1.2 rfl ?_
    exact cut_of [1, 3, 5] [21, 5, 1] kr kr kr
  ·subst hz; clear hs; have hs := hk1; clear hk1
   refine nT (vS (vT (oR 1 [(67, .agg (enc_Plan p))] kr ?_)))
   obtain ⟨y8, c8, hs⟩ := bS hs
   refine oP (v := .tup [.vs 1 (mI y8.1), .vs 1 (mS y8.2.1), .int .i64 y8.2.2]) kr kr (loc_gcall0 (callV_func hbv11 kr) (w_define_Order_2 p _ c8) kr) ?_
   refine oR 7 [(9, .int .i64 y8.2.2), (8, .vs 1 (mS y8.2.1)), (7, .vs 1 (mI y8.1)), (71, .int .i64 y8.2.2), (70, .vs 1 (mS y8.2.1)), (69, .vs 1 (mI y8.1)), (66, .tup [.vs 1 (mI y8.1), .vs 1 (mS y8.2.1), .int .i64 y8.2.2])] kr ?_
   refine oN (nT (vS (vT (oR 1 [(73, .agg [.sl 6 21 ((v1).length) 0 ((v1).length), .vs 3 (mM enc_Table p.Tables), .vs 3 (mM enc_Zone p.Zones), .vs 20 (mM enc_Rule p.Rules), .vs 4 (mM enc_Cap p.Caps), .vs 6 (mM enc_View p.Views), .vs 3 (mM enc_Point3 p.Sun), .int .i64 p.Hours])] kr ?_))))
   obtain ⟨y9, c9, hs⟩ := bS hs
   refine o_to _ [(21, .row 46 6 (((mM enc_Def v1)).length) (mM enc_Def v1)), (5, .box 30 [.sl 6 21 ((v1).length) 0 ((v1).length), .vs 3 (mM enc_Table p.Tables), .vs 3 (mM enc_Zone p.Zones), .vs 20 (mM enc_Rule p.Rules), .vs 4 (mM enc_Cap p.Caps), .vs 6 (mM enc_View p.Views), .vs 3 (mM enc_Point3 p.Sun), .int .i64 p.Hours]), (1, .box 30 (enc_Plan p))] (cut_freeze (F := [(21, .row 46 6 0 (mM enc_Def v1))]) [21] rfl kr kr) ?_
   refine o_loc (F := [(21, .row 46 6 (((mM enc_Def v1)).length) (mM enc_Def v1))]) (F' := [(21, .row 46 6 (((mM enc_Def v1)).length) (mM enc_Def v1))]) (v := .tup [.vs 1 (mI y9.1), .vs 1 (mS y9.2.1), .int .i64 y9.2.2]) [21] kr kr rfl kr (loc_g (R := [(21, .row 46 6 (((mM enc_Def v1)).length) (mM enc_Def v1))]) [.agg [.sl 6 21 ((v1).length) 0 ((v1).length), .vs 3 (mM enc_Table p.Tables), .vs 3 (mM enc_Zone p.Zones), .vs 20 (mM enc_Rule p.Rules), .vs 4 (mM enc_Cap p.Caps), .vs 6 (mM enc_View p.Views), .vs 3 (mM enc_Point3 p.Sun), .int .i64 p.Hours]] [] (callV_func hbv11 kr) (w_define_Order v1 p.Tables p.Zones p.Rules p.Caps p.Views p.Sun p.Hours _ c9) (.cons (.agg (.cons (.row (t := 46) (fz := (((mM enc_Def v1)).length)) kr (by first | (simp only [List.length_map, List.length_set, cpyT_length]; done) | rfl)) (.cons (.same _) (.cons (.same _) (.cons (.same _) (.cons (.same _) (.cons (.same _) (.cons (.same _) (.cons (.same _) (.nil)))))))))) (.nil)) kr kr kr kr kr kr kr kr) kr ?_
   refine oR 7 [(12, .int .i64 y9.2.2), (11, .vs 1 (mS y9.2.1)), (10, .vs 1 (mI y9.1)), (77, .int .i64 y9.2.2), (76, .vs 1 (mS y9.2.1)), (75, .vs 1 (mI y9.1)), (72, .tup [.vs 1 (mI y9.1), .vs 1 (mS y9.2.1), .int .i64 y9.2.2])] kr ?_
   refine oN (nT (vS (vS ?_)))
   obtain ⟨z3, hs, hk3⟩ := bS hs
   refine v_join (S := Bool) (fun u => u = z3) (fun u => [(3, .bool y1), (5, .ptr 5 0 0), (8, .vs 1 (mS y8.2.1)), (9, .int .i64 y8.2.2), (11, .vs 1 (mS y9.2.1)), (12, .int .i64 y9.2.2), (87, .bool u)]) (fun u => [(21, .row 46 6 (((mM enc_Def v1)).length) (mM enc_Def v1)), (5, .box 30 [.sl 6 21 ((v1).length) 0 ((v1).length), .vs 3 (mM enc_Table p.Tables), .vs 3 (mM enc_Zone p.Zones), .vs 20 (mM enc_Rule p.Rules), .vs 4 (mM enc_Cap p.Caps), .vs 6 (mM enc_View p.Views), .vs 3 (mM enc_Point3 p.Sun), .int .i64 p.Hours])]) ?_ (fun v3 hz => ?_)
   ·refine vT (oR 3 [(80, .bool (decide (y9.2.2 = 0))), (79, .bool (decide (y9.2.2 = 0))), (78, .int .i64 y9.2.2)] kr ?_)
    cases h6 : ((decide (y9.2.2 = 0)))
    ·replace hs := bif_f h6 hs
     refine oR 7 [(87, .bool false), (86, .no), (85, .no), (84, .no), (83, .no), (82, .no), (81, .no)] kr ?_
     refine oN ?_
     obtain rfl := si hs
     refine nrm_join false rfl ?_
     exact cut_of [3, 5, 8, 9, 11, 12, 87] [21, 5] kr kr kr
    ·replace hs := bif_t h6 hs
     refine oR 1 [(81, .vs 1 (mI y9.1))] kr ?_
     refine oP (v := .int .i64 (List.length y9.1 : Int)) kr kr (loc_lenVs (sz := 1) (els := (mI y9.1)) kr kr (List.length_map ..)) ?_
     refine oR 5 [(87, .bool (!(decide ((List.length y9.1 : Int) = ((v1).length : Int))))), (86, .bool (!(decide ((List.length y9.1 : Int) = ((v1).length : Int))))), (85, .int .i64 ((v1).length : Int)), (84, .sl 6 21 ((v1).length) 0 ((v1).length)), (83, .ptr 5 0 0)] kr ?_
     refine oN ?_
     obtain rfl := si hs
     refine nrm_join (!(decide ((List.length y9.1 : Int) = ((v1).length : Int)))) rfl ?_
     exact cut_of [3, 5, 8, 9, 11, 12, 87] [21, 5] kr kr kr
   ·subst hz; clear hs; have hs := hk3; clear hk3
    refine nT ?_
    refine v_cond v3 kr (fun h7 => ?_) (fun h7 => ?_)
    ·replace hs := bif_t h7 hs
     refine vS (vT (oR 1 [(2, .bool false)] kr ?_))
     refine oN (nT (v_ret (rT ?_)))
     obtain rfl := si hs
     exact fin_ret kr kr kr
    ·replace hs := bif_f h7 hs
     refine vK (nT (vS ?_))
     obtain ⟨z4, hs, hk4⟩ := bS hs
     refine v_join (S := Bool) (fun u => u = z4) (fun u => [(2, .bool u)]) (fun u => []) ?_ (fun v4 hz => ?_)
     ·refine vT (oR 2 [(89, .bool y1), (88, .bool y1)] kr ?_)
      cases h8 : (y1)
      ·replace hs := bif_f h8 hs
       refine oR 16 [(2, .bool false), (104, .bool false), (103, .no), (102, .no), (101, .no), (100, .bool false), (99, .bool false), (98, .no), (97, .no), (96, .no), (95, .bool false), (94, .bool false), (93, .no), (92, .no), (91, .no), (90, .no)] kr ?_
       refine oN ?_
       obtain rfl := si hs
       refine nrm_join false rfl ?_
       exact cut_of [2] [] kr kr kr
      ·replace hs := bif_t h8 hs
       refine oR 1 [(90, .agg [.sl 6 21 ((v1).length) 0 ((v1).length), .vs 3 (mM enc_Table p.Tables), .vs 3 (mM enc_Zone p.Zones), .vs 20 (mM enc_Rule p.Rules), .vs 4 (mM enc_Cap p.Caps), .vs 6 (mM enc_View p.Views), .vs 3 (mM enc_Point3 p.Sun), .int .i64 p.Hours])] kr ?_
       obtain ⟨y10, c10, hs⟩ := bS hs
       refine o_loc (F := [(21, .row 46 6 (((mM enc_Def v1)).length) (mM enc_Def v1))]) (F' := [(21, .row 46 6 (((mM enc_Def v1)).length) (mM enc_Def v1))]) (v := .vs 1 (mS y10)) [21] kr kr rfl kr (loc_g (R := [(21, .row 46 6 (((mM enc_Def v1)).length) (mM enc_Def v1))]) [.agg [.sl 6 21 ((v1).length) 0 ((v1).length), .vs 3 (mM enc_Table p.Tables), .vs 3 (mM enc_Zone p.Zones), .vs 20 (mM enc_Rule p.Rules), .vs 4 (mM enc_Cap p.Caps), .vs 6 (mM enc_View p.Views), .vs 3 (mM enc_Point3 p.Sun), .int .i64 p.Hours]] [] (callV_func hbv21 kr) (w_define_Unknown_2 v1 p.Tables p.Zones p.Rules p.Caps p.Views p.Sun p.Hours _ c10) (.cons (.agg (.cons (.row (t := 46) (fz := (((mM enc_Def v1)).length)) kr (by first | (simp only [List.length_map, List.length_set, cpyT_length]; done) | rfl)) (.cons (.same _) (.cons (.same _) (.cons (.same _) (.cons (.same _) (.cons (.same _) (.cons (.same _) (.cons (.same _) (.nil)))))))))) (.nil)) kr kr kr kr kr kr kr kr) kr ?_
       refine oP (v := .int .i64 (List.length y10 : Int)) kr kr (loc_lenVs (sz := 1) (els := (mS y10)) kr kr (List.length_map ..)) ?_
       refine oR 3 [(95, .bool (decide ((List.length y10 : Int) = 0))), (94, .bool (decide ((List.length y10 : Int) = 0))), (93, .bool (decide ((List.length y10 : Int) = 0)))] kr ?_
       cases h9 : ((decide ((List.length y10 : Int) = 0)))
       ·replace hs := bif_f h9 hs
        refine oR 10 [(2, .bool false), (104, .bool false), (103, .no), (102, .no), (101, .no), (100, .bool false), (99, .bool false), (98, .no), (97, .no), (96, .no)] kr ?_
        refine oN ?_
        obtain rfl := si hs
        refine nrm_join false rfl ?_
        exact cut_of [2] [] kr kr kr
       ·replace hs := bif_t h9 hs
        refine oR 5 [(100, .bool (decide (y8.2.2 = y9.2.2))), (99, .bool (decide (y8.2.2 = y9.2.2))), (98, .bool (decide (y8.2.2 = y9.2.2))), (97, .int .i64 y9.2.2), (96, .int .i64 y8.2.2)] kr ?_
        cases h10 : ((decide (y8.2.2 = y9.2.2)))
        ·replace hs := bif_f h10 hs
         refine oR 5 [(2, .bool false), (104, .bool false), (103, .no), (102, .no), (101, .no)] kr ?_
         refine oN ?_
         obtain rfl := si hs
         refine nrm_join false rfl ?_
         exact cut_of [2] [] kr kr kr
        ·replace hs := bif_t h10 hs
         refine oR 2 [(102, .vs 1 (mS y9.2.1)), (101, .vs 1 (mS y8.2.1))] kr ?_
         obtain ⟨y11, c11, hs⟩ := bS hs
         refine oP (v := .bool y11) kr kr (loc_gcall0 (callV_func hbv14 kr) (w_greenbeltref01_SameTexts y8.2.1 y9.2.1 _ c11) kr) ?_
         refine oR 2 [(2, .bool y11), (104, .bool y11)] kr ?_
         refine oN ?_
         obtain rfl := si hs
         refine nrm_join y11 rfl ?_
         exact cut_of [2] [] kr kr kr
     ·subst hz; clear hs; have hs := hk4; clear hk4
      refine nT (v_ret ?_)
      obtain rfl := si hs
      exact fin_ret kr kr kr
end Go.Proofs.Ytconjkgifdfhdaa
