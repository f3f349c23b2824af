/- printed by gen2.py -/
import Derived.Test.YtenljipeggacjaaGreatE
import Derived.Test.YtenljipeggacjaaGreatSD
import Derived.Test.YtenljipeggacjaaGreatSPartA
set_option linter.all false
set_option maxRecDepth 100000
namespace Go.Proofs.YtenljipeggacjaaGreat
open Go Go.RowKit Go.Eng Go.EV
variable [Fuel]

theorem w_expr_prepare (p : Plan) (measures : (List Entry)) (zones : (List (List UInt8))) (r : Plan × (List (List UInt8)) × (List Int) × (List ((List UInt8) × Int))) (hs : s_expr_prepare p measures zones = some r) : FnA Tryz.prog 56 [.agg (enc_Plan p), .vs 2 (List.map enc_Entry measures), .vs 1 (List.map EV.encS zones)] [] (.tup [.agg [.vs 6 (List.map enc_Def r.1.Defs), .vs 3 (List.map enc_Table r.1.Tables), .vs 3 (List.map enc_Zone r.1.Zones), .vs 20 (List.map enc_Rule r.1.Rules), .vs 4 (List.map enc_Cap r.1.Caps), .vs 6 (List.map enc_View r.1.Views), .vs 3 (List.map enc_Point3 r.1.Sun), .int .i64 r.1.Hours, .mp 20, .vs 1 (List.map EV.encS r.2.1)], .vs 1 (List.map EV.encI r.2.2.1)]) [(20, .map (encM V.str (V.int .i64) r.2.2.2))] := by
 refine fnA_of_wp (N := 96) Tryz.func56 rfl rfl rfl fun cK0 => ?_
 unfold s_expr_prepare at hs
 refine v_same (ρ' := [(0, .agg (enc_Plan p)), (1, .vs 2 (List.map enc_Entry measures)), (2, .vs 1 (List.map EV.encS zones))]) rfl rfl ?_
 refine v_seq (vr_text (o_runh 3 [(7, .nils), (6, .ptr 6 0 0), (3, .ptr 3 0 0)] [(6, .box 90 [.nils, .nils, .nils, .nils, .nils, .nils, .nils, .int .i64 0, .nilm, .nils]), (3, .box 81 [.vs 6 (List.map enc_Def p.Defs), .vs 3 (List.map enc_Table p.Tables), .vs 3 (List.map enc_Zone p.Zones), .vs 20 (List.map enc_Rule p.Rules), .vs 4 (List.map enc_Cap p.Caps), .vs 6 (List.map enc_View p.Views), .vs 3 (List.map enc_Point3 p.Sun), .int .i64 p.Hours])] (by kernel_rfl) ?_))
 refine ov_nil (nrm_thenV (v_seq (vr_text (o_runh 6 [(8, .ptr 8 0 0), (22, .agg [.vs 6 (List.map enc_Def p.Defs), .vs 3 (List.map enc_Table p.Tables), .vs 3 (List.map enc_Zone p.Zones), .vs 20 (List.map enc_Rule p.Rules), .vs 4 (List.map enc_Cap p.Caps), .vs 6 (List.map enc_View p.Views), .vs 3 (List.map enc_Point3 p.Sun), .int .i64 p.Hours, .mp 20, .vs 1 (List.map EV.encS zones)]), (21, .vs 1 (List.map EV.encS zones)), (20, .mp 20), (19, .agg (enc_Plan p))] [(8, .box 90 [.vs 6 (List.map enc_Def p.Defs), .vs 3 (List.map enc_Table p.Tables), .vs 3 (List.map enc_Zone p.Zones), .vs 20 (List.map enc_Rule p.Rules), .vs 4 (List.map enc_Cap p.Caps), .vs 6 (List.map enc_View p.Views), .vs 3 (List.map enc_Point3 p.Sun), .int .i64 p.Hours, .mp 20, .vs 1 (List.map EV.encS zones)]), (20, .map (encM V.str (V.int .i64) [])), (6, .box 90 [.nils, .nils, .nils, .nils, .nils, .nils, .nils, .int .i64 0, .nilm, .nils]), (3, .box 81 [.vs 6 (List.map enc_Def p.Defs), .vs 3 (List.map enc_Table p.Tables), .vs 3 (List.map enc_Zone p.Zones), .vs 20 (List.map enc_Rule p.Rules), .vs 4 (List.map enc_Cap p.Caps), .vs 6 (List.map enc_View p.Views), .vs 3 (List.map enc_Point3 p.Sun), .int .i64 p.Hours])] (by kernel_rfl) ?_))))
 refine ov_nil (nrm_thenV (v_seq (vr_text (o_runh 2 [(9, .mp 23), (23, .mp 23)] [(23, .map (encM V.str V.bool [])), (8, .box 90 [.vs 6 (List.map enc_Def p.Defs), .vs 3 (List.map enc_Table p.Tables), .vs 3 (List.map enc_Zone p.Zones), .vs 20 (List.map enc_Rule p.Rules), .vs 4 (List.map enc_Cap p.Caps), .vs 6 (List.map enc_View p.Views), .vs 3 (List.map enc_Point3 p.Sun), .int .i64 p.Hours, .mp 20, .vs 1 (List.map EV.encS zones)]), (20, .map (encM V.str (V.int .i64) [])), (6, .box 90 [.nils, .nils, .nils, .nils, .nils, .nils, .nils, .int .i64 0, .nilm, .nils]), (3, .box 81 [.vs 6 (List.map enc_Def p.Defs), .vs 3 (List.map enc_Table p.Tables), .vs 3 (List.map enc_Zone p.Zones), .vs 20 (List.map enc_Rule p.Rules), .vs 4 (List.map enc_Cap p.Caps), .vs 6 (List.map enc_View p.Views), .vs 3 (List.map enc_Point3 p.Sun), .int .i64 p.Hours])] (by kernel_rfl) ?_))))
 refine ov_nil (nrm_thenV (v_seq (v_seq (vr_text (o_runs 1 [(24, .vs 2 (List.map enc_Entry measures))] (by kernel_rfl) ?_)))))
 refine o_pure (v := .int .i64 (List.length measures : Int)) (by kernel_rfl) (by kernel_rfl) (loc_lenVs (sz := 2) (els := (List.map enc_Entry measures)) (by kernel_rfl) (by kernel_rfl) (List.length_map ..)) ?_
 refine o_runs 1 [(26, .int .i64 0)] (by kernel_rfl) ?_
 refine ov_nil (nrm_thenV ?_)
 obtain ⟨z1, hs, hk1⟩ := bind_some hs
 refine v_join (S := (List ((List UInt8) × Bool)) × (List ((List UInt8) × Int))) (fun u => u = z1) (fun u => [(3, .ptr 3 0 0), (6, .ptr 6 0 0), (8, .ptr 8 0 0), (9, .mp 23)]) (fun u => [(23, .map (encM V.str V.bool u.1)), (8, .box 90 [.vs 6 (List.map enc_Def p.Defs), .vs 3 (List.map enc_Table p.Tables), .vs 3 (List.map enc_Zone p.Zones), .vs 20 (List.map enc_Rule p.Rules), .vs 4 (List.map enc_Cap p.Caps), .vs 6 (List.map enc_View p.Views), .vs 3 (List.map enc_Point3 p.Sun), .int .i64 p.Hours, .mp 20, .vs 1 (List.map EV.encS zones)]), (20, .map (encM V.str (V.int .i64) u.2)), (6, .box 90 [.nils, .nils, .nils, .nils, .nils, .nils, .nils, .int .i64 0, .nilm, .nils]), (3, .box 81 [.vs 6 (List.map enc_Def p.Defs), .vs 3 (List.map enc_Table p.Tables), .vs 3 (List.map enc_Zone p.Zones), .vs 20 (List.map enc_Rule p.Rules), .vs 4 (List.map enc_Cap p.Caps), .vs 6 (List.map enc_View p.Views), .vs 3 (List.map enc_Point3 p.Sun), .int .i64 p.Hours])]) ?_ (fun v1 hz => ?_)
 ·refine v_block ?_
  refine v_fuel (S := Int × (List ((List UInt8) × Bool)) × (List ((List UInt8) × Int))) (fun u => [(3, .ptr 3 0 0), (6, .ptr 6 0 0), (8, .ptr 8 0 0), (9, .mp 23), (24, .vs 2 (List.map enc_Entry measures)), (25, .int .i64 (List.length measures : Int)), (26, .int .i64 u.1)]) (fun u => [(23, .map (encM V.str V.bool u.2.1)), (8, .box 90 [.vs 6 (List.map enc_Def p.Defs), .vs 3 (List.map enc_Table p.Tables), .vs 3 (List.map enc_Zone p.Zones), .vs 20 (List.map enc_Rule p.Rules), .vs 4 (List.map enc_Cap p.Caps), .vs 6 (List.map enc_View p.Views), .vs 3 (List.map enc_Point3 p.Sun), .int .i64 p.Hours, .mp 20, .vs 1 (List.map EV.encS zones)]), (20, .map (encM V.str (V.int .i64) u.2.2)), (6, .box 90 [.nils, .nils, .nils, .nils, .nils, .nils, .nils, .int .i64 0, .nilm, .nils]), (3, .box 81 [.vs 6 (List.map enc_Def p.Defs), .vs 3 (List.map enc_Table p.Tables), .vs 3 (List.map enc_Zone p.Zones), .vs 20 (List.map enc_Rule p.Rules), .vs 4 (List.map enc_Cap p.Caps), .vs 6 (List.map enc_View p.Views), .vs 3 (List.map enc_Point3 p.Sun), .int .i64 p.Hours])]) (s_expr_prepare_L1 measures) (fun _ => rfl) KK (0, [], []) hs (cut_of [3, 6, 8, 9, 24, 25, 26] [23, 8, 20, 6, 3] (by kernel_rfl) (by kernel_rfl) (by kernel_rfl)) (fun K1 q1 hs => ?_)
  rw [s_expr_prepare_L1] at hs
  show WpV cK0 Tryz.prog none 96 _ _ [(3, .ptr 3 0 0), (6, .ptr 6 0 0), (8, .ptr 8 0 0), (9, .mp 23), (24, .vs 2 (List.map enc_Entry measures)), (25, .int .i64 (List.length measures : Int)), (26, .int .i64 q1.1)] [(23, .map (encM V.str V.bool q1.2.1)), (8, .box 90 [.vs 6 (List.map enc_Def p.Defs), .vs 3 (List.map enc_Table p.Tables), .vs 3 (List.map enc_Zone p.Zones), .vs 20 (List.map enc_Rule p.Rules), .vs 4 (List.map enc_Cap p.Caps), .vs 6 (List.map enc_View p.Views), .vs 3 (List.map enc_Point3 p.Sun), .int .i64 p.Hours, .mp 20, .vs 1 (List.map EV.encS zones)]), (20, .map (encM V.str (V.int .i64) q1.2.2)), (6, .box 90 [.nils, .nils, .nils, .nils, .nils, .nils, .nils, .int .i64 0, .nilm, .nils]), (3, .box 81 [.vs 6 (List.map enc_Def p.Defs), .vs 3 (List.map enc_Table p.Tables), .vs 3 (List.map enc_Zone p.Zones), .vs 20 (List.map enc_Rule p.Rules), .vs 4 (List.map enc_Cap p.Caps), .vs 6 (List.map enc_View p.Views), .vs 3 (List.map enc_Point3 p.Sun), .int .i64 p.Hours])] []
  refine v_seq (vr_text (o_runs 1 [(27, .bool (decide (q1.1 < (List.length measures : Int))))] (by kernel_rfl) ?_))
  refine ov_nil (nrm_thenV (v_seq ?_))
  refine v_cond (decide (q1.1 < (List.length measures : Int))) (by kernel_rfl) (fun h1 => ?_) (fun h1 => ?_)
  ·replace hs := bif_t h1 hs
   refine v_skip (nrm_thenV (v_seq (v_block (v_seq (vr_text ?_)))))
   obtain ⟨x1, g1, hs⟩ := bind_some hs; obtain ⟨g1a, g1b, g1c⟩ := idx_some g1
   refine o_pure (v := .vp (enc_Entry x1) 0) (by kernel_rfl) (by kernel_rfl) (loc_indexVs (e := 71) (sz := 2) (k := .i64) (els := (List.map enc_Entry measures)) (cs := (enc_Entry x1)) (by kernel_rfl) (by kernel_rfl) (by kernel_rfl) g1a (by rw [g1c]; exact map_get _ (by omega))) ?_
   refine o_runh 3 [(11, .ptr 11 0 0), (29, .agg (enc_Entry x1))] [(11, .box 71 [.str x1.Name, .int .i64 x1.N]), (23, .map (encM V.str V.bool q1.2.1)), (8, .box 90 [.vs 6 (List.map enc_Def p.Defs), .vs 3 (List.map enc_Table p.Tables), .vs 3 (List.map enc_Zone p.Zones), .vs 20 (List.map enc_Rule p.Rules), .vs 4 (List.map enc_Cap p.Caps), .vs 6 (List.map enc_View p.Views), .vs 3 (List.map enc_Point3 p.Sun), .int .i64 p.Hours, .mp 20, .vs 1 (List.map EV.encS zones)]), (20, .map (encM V.str (V.int .i64) q1.2.2)), (6, .box 90 [.nils, .nils, .nils, .nils, .nils, .nils, .nils, .int .i64 0, .nilm, .nils]), (3, .box 81 [.vs 6 (List.map enc_Def p.Defs), .vs 3 (List.map enc_Table p.Tables), .vs 3 (List.map enc_Zone p.Zones), .vs 20 (List.map enc_Rule p.Rules), .vs 4 (List.map enc_Cap p.Caps), .vs 6 (List.map enc_View p.Views), .vs 3 (List.map enc_Point3 p.Sun), .int .i64 p.Hours])] (by kernel_rfl) ?_
   refine ov_nil (nrm_thenV (v_seq (vr_text (o_runs 3 [(32, .str x1.Name), (31, .ptr 11 0 0), (30, .mp 23)] (by kernel_rfl) ?_))))
   refine o_loc (F := [(23, .map (encM V.str V.bool q1.2.1))]) (F' := [(23, .map (encM V.str V.bool q1.2.1))]) (v := .bool (Option.getD (mfind x1.Name q1.2.1) false)) [23] (by kernel_rfl) (by kernel_rfl) rfl (by kernel_rfl) (loc_lookup (et := 4) (f := V.str) (g := V.bool) (l := q1.2.1) (a := x1.Name) (z := false) (zv := .bool false) false (by kernel_rfl) kok9 (by kernel_rfl) (fun _ _ _ h => h) (by kernel_rfl) (by kernel_rfl)) (by kernel_rfl) ?_
   refine o_runs 1 [(34, .bool (!(Option.getD (mfind x1.Name q1.2.1) false)))] (by kernel_rfl) ?_
   refine ov_nil (nrm_thenV ?_)
   obtain ⟨z2, hs, hk2⟩ := bind_some hs
   refine v_join (S := (List ((List UInt8) × Bool)) × (List ((List UInt8) × Int))) (fun u => u = z2) (fun u => [(3, .ptr 3 0 0), (6, .ptr 6 0 0), (8, .ptr 8 0 0), (9, .mp 23), (24, .vs 2 (List.map enc_Entry measures)), (25, .int .i64 (List.length measures : Int)), (26, .int .i64 q1.1)]) (fun u => [(23, .map (encM V.str V.bool u.1)), (20, .map (encM V.str (V.int .i64) u.2)), (8, .box 90 [.vs 6 (List.map enc_Def p.Defs), .vs 3 (List.map enc_Table p.Tables), .vs 3 (List.map enc_Zone p.Zones), .vs 20 (List.map enc_Rule p.Rules), .vs 4 (List.map enc_Cap p.Caps), .vs 6 (List.map enc_View p.Views), .vs 3 (List.map enc_Point3 p.Sun), .int .i64 p.Hours, .mp 20, .vs 1 (List.map EV.encS zones)]), (6, .box 90 [.nils, .nils, .nils, .nils, .nils, .nils, .nils, .int .i64 0, .nilm, .nils]), (3, .box 81 [.vs 6 (List.map enc_Def p.Defs), .vs 3 (List.map enc_Table p.Tables), .vs 3 (List.map enc_Zone p.Zones), .vs 20 (List.map enc_Rule p.Rules), .vs 4 (List.map enc_Cap p.Caps), .vs 6 (List.map enc_View p.Views), .vs 3 (List.map enc_Point3 p.Sun), .int .i64 p.Hours])]) ?_ (fun v2 hz => ?_)
   ·refine v_cond (!(Option.getD (mfind x1.Name q1.2.1) false)) (by kernel_rfl) (fun h2 => ?_) (fun h2 => ?_)
    ·replace hs := bif_t h2 hs
     refine v_draw mixedH (by kernel_rfl) ?_
     refine d_runs 9 0 [(43, .int .i64 x1.N), (42, .ptr 11 0 1), (41, .str x1.Name), (40, .ptr 11 0 0), (39, .mp 23), (38, .str x1.Name), (37, .ptr 11 0 0), (36, .mp 20), (35, .ptr 8 0 8)] [⟨8, [], [11]⟩, ⟨7, [], []⟩, ⟨6, [], [11]⟩, ⟨5, [], []⟩, ⟨4, [], []⟩, ⟨3, [], [11]⟩, ⟨2, [], []⟩, ⟨1, [], [8]⟩, ⟨0, [], []⟩] (by kernel_rfl) (by kernel_rfl) ?_
     refine d_loc (F := [(20, .map (encM V.str (V.int .i64) q1.2.2))]) (R := []) (F' := [(20, .map (encM V.str (V.int .i64) (mset x1.Name x1.N q1.2.2)))]) (v := .no) 9 [20] [] rfl rfl rfl rfl (by kernel_rfl) (by kernel_rfl) (by kernel_rfl) (by kernel_rfl) (by kernel_rfl) (by kernel_rfl) (by kernel_rfl) (by kernel_rfl) (loc_mapUpdate (et := 3) (f := V.str) (g := (V.int .i64)) (l := q1.2.2) (a := x1.Name) (c := x1.N) (by kernel_rfl) kok9 (by kernel_rfl) (by kernel_rfl) (by kernel_rfl) (by kernel_rfl) (by kernel_rfl)) ?_
     refine d_loc (F := [(23, .map (encM V.str V.bool q1.2.1))]) (R := []) (F' := [(23, .map (encM V.str V.bool (mset x1.Name true q1.2.1)))]) (v := .no) 10 [23] [] rfl rfl rfl rfl (by kernel_rfl) (by kernel_rfl) (by kernel_rfl) (by kernel_rfl) (by kernel_rfl) (by kernel_rfl) (by kernel_rfl) (by kernel_rfl) (loc_mapUpdate (et := 4) (f := V.str) (g := V.bool) (l := q1.2.1) (a := x1.Name) (c := true) (by kernel_rfl) kok9 (by kernel_rfl) (by kernel_rfl) (by kernel_rfl) (by kernel_rfl) (by kernel_rfl)) ?_
     refine d_nil (by kernel_rfl) ?_
     obtain rfl := si hs
     refine nrm_join ((mset x1.Name true q1.2.1), (mset x1.Name x1.N q1.2.2)) rfl ?_
     exact cut_of [3, 6, 8, 9, 24, 25, 26] [23, 20, 8, 6, 3] (by kernel_rfl) (by kernel_rfl) (by kernel_rfl)
    ·replace hs := bif_f h2 hs
     refine v_skip ?_
     obtain rfl := si hs
     refine nrm_join (q1.2.1, q1.2.2) rfl ?_
     exact cut_of [3, 6, 8, 9, 24, 25, 26] [23, 20, 8, 6, 3] (by kernel_rfl) (by kernel_rfl) (by kernel_rfl)
   ·subst hz; clear hs; have hs := hk2; clear hk2
    refine nrm_blkV (nrm_thenV (vr_text (o_runs 2 [(26, .int .i64 (w64 (q1.1 + 1))), (44, .int .i64 (w64 (q1.1 + 1)))] (by kernel_rfl) ?_)))
    refine ov_nil (nrm_fuel ((w64 (q1.1 + 1)), v2.1, v2.2) hs ?_)
    exact cut_of [3, 6, 8, 9, 24, 25, 26] [23, 8, 20, 6, 3] (by kernel_rfl) (by kernel_rfl) (by kernel_rfl)
  ·replace hs := bif_f h1 hs
   refine v_exit (exit_thenV (exit_fuel ?_))
   refine exit_blkV ?_
   obtain rfl := si hs
   refine nrm_join (q1.2.1, q1.2.2) rfl ?_
   exact cut_of [3, 6, 8, 9] [23, 8, 20, 6, 3] (by kernel_rfl) (by kernel_rfl) (by kernel_rfl)
 ·subst hz; clear hs; have hs := hk1; clear hk1
  refine nrm_thenV (v_seq (vr_text (o_runs 2 [(46, .vs 6 (List.map enc_Def p.Defs)), (45, .ptr 3 0 0)] (by kernel_rfl) ?_)))
  refine o_pure (v := .int .i64 (List.length p.Defs : Int)) (by kernel_rfl) (by kernel_rfl) (loc_lenVs (sz := 6) (els := (List.map enc_Def p.Defs)) (by kernel_rfl) (by kernel_rfl) (List.length_map ..)) ?_
  obtain ⟨_, g2, hs⟩ := bind_some hs; obtain ⟨g2a, g2b, g2c⟩ := grd_some g2
  refine o_loc (F := []) (F' := [(48, .row 3 1 0 (List.map EV.encI (List.replicate (Int.toNat (List.length p.Defs : Int)) (0 : Int))))]) (v := .sl 1 48 (((List.replicate (Int.toNat (List.length p.Defs : Int)) (0 : Int))).length) 0 (((List.replicate (Int.toNat (List.length p.Defs : Int)) (0 : Int))).length)) [] (by kernel_rfl) (by kernel_rfl) rfl (by kernel_rfl) (loc_makeSliceT (L := ((List.replicate (Int.toNat (List.length p.Defs : Int)) (0 : Int))).length) (e := 3) (sz := 1) (bytes := 8) (q := (List.length p.Defs : Int)) (k := .i64) (k2 := .i64) (cs := [.int .i64 0]) (cs2 := [.int .i64 0]) (by kernel_rfl) (by kernel_rfl) (by kernel_rfl) (by kernel_rfl) (by kernel_rfl) g2a g2b g2c (List.map_replicate (f := EV.encI)).symm (List.length_replicate ..) (fun _ _ h => h)) (by kernel_rfl) ?_
  refine o_runs 1 [(12, .sl 1 48 (((List.replicate (Int.toNat (List.length p.Defs : Int)) (0 : Int))).length) 0 (((List.replicate (Int.toNat (List.length p.Defs : Int)) (0 : Int))).length))] (by kernel_rfl) ?_
  refine ov_nil (nrm_thenV (v_seq (vr_text (o_runs 1 [(50, .agg (enc_Plan p))] (by kernel_rfl) ?_))))
  obtain ⟨y1, c1, hs⟩ := bind_some hs
  refine o_pure (v := .tup [.vs 1 (List.map EV.encI y1.1), .nils, .int .i64 y1.2]) (by kernel_rfl) (by kernel_rfl) (loc_gcall0 (callV_func hbv68 (by kernel_rfl)) (w_define_Order p _ c1) (by kernel_rfl)) ?_
  refine o_runs 7 [(15, .int .i64 y1.2), (14, .nils), (13, .vs 1 (List.map EV.encI y1.1)), (54, .int .i64 y1.2), (53, .nils), (52, .vs 1 (List.map EV.encI y1.1)), (49, .tup [.vs 1 (List.map EV.encI y1.1), .nils, .int .i64 y1.2])] (by kernel_rfl) ?_
  refine ov_nil (nrm_thenV (v_seq (v_seq (vr_text (o_runs 2 [(56, .bool (!(decide (y1.2 = 0)))), (55, .int .i64 y1.2)] (by kernel_rfl) ?_)))))
  refine ov_nil (nrm_thenV ?_)
  refine v_cond (!(decide (y1.2 = 0))) (by kernel_rfl) (fun h3 => ?_) (fun h3 => ?_)
  ·replace hs := bif_t h3 hs
   refine v_seq (vr_text (o_runh 4 [(7, .sl 1 48 (((List.replicate (Int.toNat (List.length p.Defs : Int)) (0 : Int))).length) 0 (((List.replicate (Int.toNat (List.length p.Defs : Int)) (0 : Int))).length)), (58, .sl 1 48 (((List.replicate (Int.toNat (List.length p.Defs : Int)) (0 : Int))).length) 0 (((List.replicate (Int.toNat (List.length p.Defs : Int)) (0 : Int))).length)), (57, .agg [.vs 6 (List.map enc_Def p.Defs), .vs 3 (List.map enc_Table p.Tables), .vs 3 (List.map enc_Zone p.Zones), .vs 20 (List.map enc_Rule p.Rules), .vs 4 (List.map enc_Cap p.Caps), .vs 6 (List.map enc_View p.Views), .vs 3 (List.map enc_Point3 p.Sun), .int .i64 p.Hours, .mp 20, .vs 1 (List.map EV.encS zones)])] [(48, .row 3 1 0 (List.map EV.encI (List.replicate (Int.toNat (List.length p.Defs : Int)) (0 : Int)))), (23, .map (encM V.str V.bool v1.1)), (8, .box 90 [.vs 6 (List.map enc_Def p.Defs), .vs 3 (List.map enc_Table p.Tables), .vs 3 (List.map enc_Zone p.Zones), .vs 20 (List.map enc_Rule p.Rules), .vs 4 (List.map enc_Cap p.Caps), .vs 6 (List.map enc_View p.Views), .vs 3 (List.map enc_Point3 p.Sun), .int .i64 p.Hours, .mp 20, .vs 1 (List.map EV.encS zones)]), (20, .map (encM V.str (V.int .i64) v1.2)), (6, .box 90 [.vs 6 (List.map enc_Def p.Defs), .vs 3 (List.map enc_Table p.Tables), .vs 3 (List.map enc_Zone p.Zones), .vs 20 (List.map enc_Rule p.Rules), .vs 4 (List.map enc_Cap p.Caps), .vs 6 (List.map enc_View p.Views), .vs 3 (List.map enc_Point3 p.Sun), .int .i64 p.Hours, .mp 20, .vs 1 (List.map EV.encS zones)]), (3, .box 81 [.vs 6 (List.map enc_Def p.Defs), .vs 3 (List.map enc_Table p.Tables), .vs 3 (List.map enc_Zone p.Zones), .vs 20 (List.map enc_Rule p.Rules), .vs 4 (List.map enc_Cap p.Caps), .vs 6 (List.map enc_View p.Views), .vs 3 (List.map enc_Point3 p.Sun), .int .i64 p.Hours])] (by kernel_rfl) ?_))
   refine ov_nil (nrm_thenV (v_to _ [(48, .row 3 1 (((List.map EV.encI (List.replicate (Int.toNat (List.length p.Defs : Int)) (0 : Int)))).length) (List.map EV.encI (List.replicate (Int.toNat (List.length p.Defs : Int)) (0 : Int)))), (23, .map (encM V.str V.bool v1.1)), (8, .box 90 [.vs 6 (List.map enc_Def p.Defs), .vs 3 (List.map enc_Table p.Tables), .vs 3 (List.map enc_Zone p.Zones), .vs 20 (List.map enc_Rule p.Rules), .vs 4 (List.map enc_Cap p.Caps), .vs 6 (List.map enc_View p.Views), .vs 3 (List.map enc_Point3 p.Sun), .int .i64 p.Hours, .mp 20, .vs 1 (List.map EV.encS zones)]), (20, .map (encM V.str (V.int .i64) v1.2)), (6, .box 90 [.vs 6 (List.map enc_Def p.Defs), .vs 3 (List.map enc_Table p.Tables), .vs 3 (List.map enc_Zone p.Zones), .vs 20 (List.map enc_Rule p.Rules), .vs 4 (List.map enc_Cap p.Caps), .vs 6 (List.map enc_View p.Views), .vs 3 (List.map enc_Point3 p.Sun), .int .i64 p.Hours, .mp 20, .vs 1 (List.map EV.encS zones)]), (3, .box 81 [.vs 6 (List.map enc_Def p.Defs), .vs 3 (List.map enc_Table p.Tables), .vs 3 (List.map enc_Zone p.Zones), .vs 20 (List.map enc_Rule p.Rules), .vs 4 (List.map enc_Cap p.Caps), .vs 6 (List.map enc_View p.Views), .vs 3 (List.map enc_Point3 p.Sun), .int .i64 p.Hours])] (cut_freeze (F := [(48, .row 3 1 0 (List.map EV.encI (List.replicate (Int.toNat (List.length p.Defs : Int)) (0 : Int))))]) [48] rfl (by kernel_rfl) (by kernel_rfl)) ?_))
   refine v_to ((7, .vs 1 (List.map EV.encI (List.replicate (Int.toNat (List.length p.Defs : Int)) (0 : Int)))) :: _) _ (cut_view (R := [(48, .row 3 1 (((List.map EV.encI (List.replicate (Int.toNat (List.length p.Defs : Int)) (0 : Int)))).length) (List.map EV.encI (List.replicate (Int.toNat (List.length p.Defs : Int)) (0 : Int))))]) (ks := [48]) (by kernel_rfl) (by kernel_rfl) (.row (t := 3) (fz := (((List.map EV.encI (List.replicate (Int.toNat (List.length p.Defs : Int)) (0 : Int)))).length)) (by kernel_rfl) (by first | (simp only [List.length_map, List.length_set]; done) | rfl))) ?_
   refine v_ret (ret_thenV ?_)
   obtain rfl := si hs
   exact fin_ret (by kernel_rfl) (by kernel_rfl) (by kernel_rfl)
  ·replace hs := bif_f h3 hs
   refine v_skip (nrm_thenV (v_seq (v_seq (vr_text (o_runs 1 [(59, .vs 1 (List.map EV.encI y1.1))] (by kernel_rfl) ?_)))))
   refine o_pure (v := .int .i64 (List.length y1.1 : Int)) (by kernel_rfl) (by kernel_rfl) (loc_lenVs (sz := 1) (els := (List.map EV.encI y1.1)) (by kernel_rfl) (by kernel_rfl) (List.length_map ..)) ?_
   refine o_runs 1 [(61, .int .i64 0)] (by kernel_rfl) ?_
   refine ov_nil (nrm_thenV ?_)
   obtain ⟨z3, hs, hk3⟩ := bind_some hs
   refine v_join (S := (List Int) × (List ((List UInt8) × Int))) (fun u => u = z3) (fun u => [(6, .ptr 6 0 0), (8, .ptr 8 0 0), (12, .sl 1 48 ((u.1).length) 0 ((u.1).length))]) (fun u => [(48, .row 3 1 0 (List.map EV.encI u.1)), (8, .box 90 [.vs 6 (List.map enc_Def p.Defs), .vs 3 (List.map enc_Table p.Tables), .vs 3 (List.map enc_Zone p.Zones), .vs 20 (List.map enc_Rule p.Rules), .vs 4 (List.map enc_Cap p.Caps), .vs 6 (List.map enc_View p.Views), .vs 3 (List.map enc_Point3 p.Sun), .int .i64 p.Hours, .mp 20, .vs 1 (List.map EV.encS zones)]), (20, .map (encM V.str (V.int .i64) u.2)), (6, .box 90 [.nils, .nils, .nils, .nils, .nils, .nils, .nils, .int .i64 0, .nilm, .nils])]) ?_ (fun v3 hz => ?_)
   ·refine v_block ?_
    refine v_fuel (S := Int × (List Int) × (List ((List UInt8) × Int))) (fun u => [(3, .ptr 3 0 0), (6, .ptr 6 0 0), (8, .ptr 8 0 0), (9, .mp 23), (12, .sl 1 48 ((u.2.1).length) 0 ((u.2.1).length)), (59, .vs 1 (List.map EV.encI y1.1)), (60, .int .i64 (List.length y1.1 : Int)), (61, .int .i64 u.1)]) (fun u => [(48, .row 3 1 0 (List.map EV.encI u.2.1)), (23, .map (encM V.str V.bool v1.1)), (8, .box 90 [.vs 6 (List.map enc_Def p.Defs), .vs 3 (List.map enc_Table p.Tables), .vs 3 (List.map enc_Zone p.Zones), .vs 20 (List.map enc_Rule p.Rules), .vs 4 (List.map enc_Cap p.Caps), .vs 6 (List.map enc_View p.Views), .vs 3 (List.map enc_Point3 p.Sun), .int .i64 p.Hours, .mp 20, .vs 1 (List.map EV.encS zones)]), (20, .map (encM V.str (V.int .i64) u.2.2)), (6, .box 90 [.nils, .nils, .nils, .nils, .nils, .nils, .nils, .int .i64 0, .nilm, .nils]), (3, .box 81 [.vs 6 (List.map enc_Def p.Defs), .vs 3 (List.map enc_Table p.Tables), .vs 3 (List.map enc_Zone p.Zones), .vs 20 (List.map enc_Rule p.Rules), .vs 4 (List.map enc_Cap p.Caps), .vs 6 (List.map enc_View p.Views), .vs 3 (List.map enc_Point3 p.Sun), .int .i64 p.Hours])]) (s_expr_prepare_L2 p zones v1 y1) (fun _ => rfl) KK (0, (List.replicate (Int.toNat (List.length p.Defs : Int)) (0 : Int)), v1.2) hs (cut_of [3, 6, 8, 9, 12, 59, 60, 61] [48, 23, 8, 20, 6, 3] (by kernel_rfl) (by kernel_rfl) (by kernel_rfl)) (fun K2 q2 hs => ?_)
    rw [s_expr_prepare_L2] at hs
    show WpV cK0 Tryz.prog none 96 _ _ [(3, .ptr 3 0 0), (6, .ptr 6 0 0), (8, .ptr 8 0 0), (9, .mp 23), (12, .sl 1 48 ((q2.2.1).length) 0 ((q2.2.1).length)), (59, .vs 1 (List.map EV.encI y1.1)), (60, .int .i64 (List.length y1.1 : Int)), (61, .int .i64 q2.1)] [(48, .row 3 1 0 (List.map EV.encI q2.2.1)), (23, .map (encM V.str V.bool v1.1)), (8, .box 90 [.vs 6 (List.map enc_Def p.Defs), .vs 3 (List.map enc_Table p.Tables), .vs 3 (List.map enc_Zone p.Zones), .vs 20 (List.map enc_Rule p.Rules), .vs 4 (List.map enc_Cap p.Caps), .vs 6 (List.map enc_View p.Views), .vs 3 (List.map enc_Point3 p.Sun), .int .i64 p.Hours, .mp 20, .vs 1 (List.map EV.encS zones)]), (20, .map (encM V.str (V.int .i64) q2.2.2)), (6, .box 90 [.nils, .nils, .nils, .nils, .nils, .nils, .nils, .int .i64 0, .nilm, .nils]), (3, .box 81 [.vs 6 (List.map enc_Def p.Defs), .vs 3 (List.map enc_Table p.Tables), .vs 3 (List.map enc_Zone p.Zones), .vs 20 (List.map enc_Rule p.Rules), .vs 4 (List.map enc_Cap p.Caps), .vs 6 (List.map enc_View p.Views), .vs 3 (List.map enc_Point3 p.Sun), .int .i64 p.Hours])] []
    refine v_seq (vr_text (o_runs 1 [(62, .bool (decide (q2.1 < (List.length y1.1 : Int))))] (by kernel_rfl) ?_))
    refine ov_nil (nrm_thenV (v_seq ?_))
    refine v_cond (decide (q2.1 < (List.length y1.1 : Int))) (by kernel_rfl) (fun h4 => ?_) (fun h4 => ?_)
    ·replace hs := bif_t h4 hs
     refine v_skip (nrm_thenV (v_seq (v_block (v_seq (vr_text ?_)))))
     obtain ⟨x2, g3, hs⟩ := bind_some hs; obtain ⟨g3a, g3b, g3c⟩ := idx_some g3
     refine o_pure (v := .vp [.int .i64 x2] 0) (by kernel_rfl) (by kernel_rfl) (loc_indexVs (e := 3) (sz := 1) (k := .i64) (els := (List.map EV.encI y1.1)) (cs := (EV.encI x2)) (by kernel_rfl) (by kernel_rfl) (by kernel_rfl) g3a (by rw [g3c]; exact map_get _ (by omega))) ?_
     refine o_runs 2 [(17, .int .i64 x2), (64, .int .i64 x2)] (by kernel_rfl) ?_
     refine ov_nil (nrm_thenV (v_seq (vr_text (o_runs 3 [(67, .int .i64 x2), (66, .vs 6 (List.map enc_Def p.Defs)), (65, .ptr 3 0 0)] (by kernel_rfl) ?_))))
     obtain ⟨x3, g4, hs⟩ := bind_some hs; obtain ⟨g4a, g4b, g4c⟩ := idx_some g4
     refine o_pure (v := .vp (enc_Def x3) 0) (by kernel_rfl) (by kernel_rfl) (loc_indexVs (e := 106) (sz := 6) (k := .i64) (els := (List.map enc_Def p.Defs)) (cs := (enc_Def x3)) (by kernel_rfl) (by kernel_rfl) (by kernel_rfl) g4a (by rw [g4c]; exact map_get _ (by omega))) ?_
     refine o_runh 3 [(18, .ptr 18 0 0), (69, .agg (enc_Def x3))] [(18, .box 106 [.str x3.Name, .int .i64 x3.Body.Op, .int .i64 x3.Body.N, .str x3.Body.S, .str x3.Body.Key, .vs 5 (encs_Expr x3.Body.Args)]), (48, .row 3 1 0 (List.map EV.encI q2.2.1)), (23, .map (encM V.str V.bool v1.1)), (8, .box 90 [.vs 6 (List.map enc_Def p.Defs), .vs 3 (List.map enc_Table p.Tables), .vs 3 (List.map enc_Zone p.Zones), .vs 20 (List.map enc_Rule p.Rules), .vs 4 (List.map enc_Cap p.Caps), .vs 6 (List.map enc_View p.Views), .vs 3 (List.map enc_Point3 p.Sun), .int .i64 p.Hours, .mp 20, .vs 1 (List.map EV.encS zones)]), (20, .map (encM V.str (V.int .i64) q2.2.2)), (6, .box 90 [.nils, .nils, .nils, .nils, .nils, .nils, .nils, .int .i64 0, .nilm, .nils]), (3, .box 81 [.vs 6 (List.map enc_Def p.Defs), .vs 3 (List.map enc_Table p.Tables), .vs 3 (List.map enc_Zone p.Zones), .vs 20 (List.map enc_Rule p.Rules), .vs 4 (List.map enc_Cap p.Caps), .vs 6 (List.map enc_View p.Views), .vs 3 (List.map enc_Point3 p.Sun), .int .i64 p.Hours])] (by kernel_rfl) ?_
     refine ov_nil (nrm_thenV (v_seq (v_seq (vr_text (o_runs 2 [(71, .agg (enc_Expr x3.Body)), (70, .ptr 18 0 1)] (by kernel_rfl) ?_)))))
     obtain ⟨y2, c2, hs⟩ := bind_some hs
     refine o_pure (v := .bool y2) (by kernel_rfl) (by kernel_rfl) (loc_gcall0 (callV_func hbv31 (by kernel_rfl)) (w_expr_Right x3.Body _ c2) (by kernel_rfl)) ?_
     refine ov_nil (nrm_thenV ?_)
     obtain ⟨z4, hs, hk4⟩ := bind_some hs
     refine v_join (S := (List Int)) (fun u => u = z4) (fun u => [(3, .ptr 3 0 0), (6, .ptr 6 0 0), (8, .ptr 8 0 0), (9, .mp 23), (12, .sl 1 48 ((u).length) 0 ((u).length)), (17, .int .i64 x2), (18, .ptr 18 0 0), (59, .vs 1 (List.map EV.encI y1.1)), (60, .int .i64 (List.length y1.1 : Int)), (61, .int .i64 q2.1)]) (fun u => [(48, .row 3 1 0 (List.map EV.encI u)), (20, .map (encM V.str (V.int .i64) q2.2.2)), (18, .box 106 [.str x3.Name, .int .i64 x3.Body.Op, .int .i64 x3.Body.N, .str x3.Body.S, .str x3.Body.Key, .vs 5 (encs_Expr x3.Body.Args)]), (23, .map (encM V.str V.bool v1.1)), (8, .box 90 [.vs 6 (List.map enc_Def p.Defs), .vs 3 (List.map enc_Table p.Tables), .vs 3 (List.map enc_Zone p.Zones), .vs 20 (List.map enc_Rule p.Rules), .vs 4 (List.map enc_Cap p.Caps), .vs 6 (List.map enc_View p.Views), .vs 3 (List.map enc_Point3 p.Sun), .int .i64 p.Hours, .mp 20, .vs 1 (List.map EV.encS zones)]), (6, .box 90 [.nils, .nils, .nils, .nils, .nils, .nils, .nils, .int .i64 0, .nilm, .nils]), (3, .box 81 [.vs 6 (List.map enc_Def p.Defs), .vs 3 (List.map enc_Table p.Tables), .vs 3 (List.map enc_Zone p.Zones), .vs 20 (List.map enc_Rule p.Rules), .vs 4 (List.map enc_Cap p.Caps), .vs 6 (List.map enc_View p.Views), .vs 3 (List.map enc_Point3 p.Sun), .int .i64 p.Hours])]) ?_ (fun v4 hz => ?_)
     ·refine v_cond y2 (by kernel_rfl) (fun h5 => ?_) (fun h5 => ?_)
      ·replace hs := bif_t h5 hs
       refine vr_text (o_runs 5 [(77, .agg (enc_Expr x3.Body)), (76, .ptr 18 0 1), (75, .agg [.vs 6 (List.map enc_Def p.Defs), .vs 3 (List.map enc_Table p.Tables), .vs 3 (List.map enc_Zone p.Zones), .vs 20 (List.map enc_Rule p.Rules), .vs 4 (List.map enc_Cap p.Caps), .vs 6 (List.map enc_View p.Views), .vs 3 (List.map enc_Point3 p.Sun), .int .i64 p.Hours, .mp 20, .vs 1 (List.map EV.encS zones)]), (74, .int .i64 x2), (73, .sl 1 48 ((q2.2.1).length) 0 ((q2.2.1).length))] (by kernel_rfl) ?_)
       obtain ⟨y3, c3, hs⟩ := bind_some hs
       refine o_loc (F := [(20, .map (encM V.str (V.int .i64) q2.2.2))]) (F' := [(20, .map (encM V.str (V.int .i64) q2.2.2))]) (v := .int .i64 y3) [20] (by kernel_rfl) (by kernel_rfl) rfl (by kernel_rfl) (loc_g (R := []) [.agg [.vs 6 (List.map enc_Def p.Defs), .vs 3 (List.map enc_Table p.Tables), .vs 3 (List.map enc_Zone p.Zones), .vs 20 (List.map enc_Rule p.Rules), .vs 4 (List.map enc_Cap p.Caps), .vs 6 (List.map enc_View p.Views), .vs 3 (List.map enc_Point3 p.Sun), .int .i64 p.Hours, .mp 20, .vs 1 (List.map EV.encS zones)], .agg (enc_Expr x3.Body)] [(1000000, 20)] (callV_func hbv57 (by kernel_rfl)) (w_expr_context_value KK p q2.2.2 zones x3.Body _ c3) (.cons (.same _) (.cons (.same _) (.nil))) (by kernel_rfl) (by kernel_rfl) (by kernel_rfl) (by kernel_rfl) (by kernel_rfl) (by kernel_rfl) (by kernel_rfl) (by kernel_rfl)) (by kernel_rfl) ?_
       obtain ⟨_, g5, hs⟩ := bind_some hs; obtain ⟨g5a, g5b⟩ := grd_some g5
       refine o_pure (v := .ptr 48 ((q2.2.1).length) ((Int.toNat x2) * 1 + 0)) (by kernel_rfl) (by kernel_rfl) (loc_indexRowT (e := 3) (sz := 1) (kk := 48) (L := (q2.2.1).length) (n := (q2.2.1).length) (k := .i64) (i := x2) (by kernel_rfl) (by kernel_rfl) (by kernel_rfl) g5a g5b) ?_
       obtain ⟨e1, he1, hs⟩ := bind_some hs; replace he1 := Option.some.inj he1
       refine o_loc (F := [(48, .row 3 1 0 (List.map EV.encI q2.2.1))]) (F' := [(48, .row 3 1 0 (List.map EV.encI (List.set q2.2.1 (Int.toNat x2) y3)))]) (v := .no) [48] (by kernel_rfl) (by kernel_rfl) rfl (by kernel_rfl) (loc_storeRowT (L := (q2.2.1).length) (off := (Int.toNat x2) * 1 + 0) (els := (List.map EV.encI q2.2.1)) (cs := [.int .i64 e1]) (c' := [.int .i64 y3]) (Int.toNat x2) 0 (by kernel_rfl) (by first | (simp only [List.length_map, List.length_set]; done) | rfl) rfl (by rw [← he1]; exact map_get _ (by first | omega | (simp only [List.length_set]; omega))) (by first | exact Nat.zero_le _ | omega) (by kernel_rfl) (by kernel_rfl) (by kernel_rfl) (by kernel_rfl) (by kernel_rfl) (by kernel_rfl) List.map_set.symm) (by kernel_rfl) ?_
       refine ov_nil ?_
       obtain rfl := si hs
       refine nrm_join (List.set q2.2.1 (Int.toNat x2) y3) rfl ?_
       exact Cut.trans (cut_eq 12 (v := .sl 1 48 ((q2.2.1).length) 0 ((q2.2.1).length)) (v' := .sl 1 48 (((List.set q2.2.1 (Int.toNat x2) y3)).length) 0 (((List.set q2.2.1 (Int.toNat x2) y3)).length)) (by kernel_rfl) (by first | rfl | simp only [List.length_set])) (cut_of [3, 6, 8, 9, 12, 17, 18, 59, 60, 61] [48, 20, 18, 23, 8, 6, 3] (by kernel_rfl) (by kernel_rfl) (by kernel_rfl))
      ·replace hs := bif_f h5 hs
       refine v_skip ?_
       obtain rfl := si hs
       refine nrm_join q2.2.1 rfl ?_
       exact cut_of [3, 6, 8, 9, 12, 17, 18, 59, 60, 61] [48, 20, 18, 23, 8, 6, 3] (by kernel_rfl) (by kernel_rfl) (by kernel_rfl)
     ·subst hz; clear hs; have hs := hk4; clear hk4
      refine nrm_thenV (v_seq (vr_text (o_runs 3 [(82, .str x3.Name), (81, .ptr 18 0 0), (80, .mp 23)] (by kernel_rfl) ?_)))
      refine o_loc (F := [(23, .map (encM V.str V.bool v1.1))]) (F' := [(23, .map (encM V.str V.bool v1.1))]) (v := .bool (Option.getD (mfind x3.Name v1.1) false)) [23] (by kernel_rfl) (by kernel_rfl) rfl (by kernel_rfl) (loc_lookup (et := 4) (f := V.str) (g := V.bool) (l := v1.1) (a := x3.Name) (z := false) (zv := .bool false) false (by kernel_rfl) kok9 (by kernel_rfl) (fun _ _ _ h => h) (by kernel_rfl) (by kernel_rfl)) (by kernel_rfl) ?_
      refine o_runs 1 [(84, .bool (!(Option.getD (mfind x3.Name v1.1) false)))] (by kernel_rfl) ?_
      refine ov_nil (nrm_thenV ?_)
      obtain ⟨z5, hs, hk5⟩ := bind_some hs
      refine v_join (S := (List ((List UInt8) × Int))) (fun u => u = z5) (fun u => [(3, .ptr 3 0 0), (6, .ptr 6 0 0), (8, .ptr 8 0 0), (9, .mp 23), (12, .sl 1 48 ((v4).length) 0 ((v4).length)), (59, .vs 1 (List.map EV.encI y1.1)), (60, .int .i64 (List.length y1.1 : Int)), (61, .int .i64 q2.1)]) (fun u => [(20, .map (encM V.str (V.int .i64) u)), (23, .map (encM V.str V.bool v1.1)), (48, .row 3 1 0 (List.map EV.encI v4)), (8, .box 90 [.vs 6 (List.map enc_Def p.Defs), .vs 3 (List.map enc_Table p.Tables), .vs 3 (List.map enc_Zone p.Zones), .vs 20 (List.map enc_Rule p.Rules), .vs 4 (List.map enc_Cap p.Caps), .vs 6 (List.map enc_View p.Views), .vs 3 (List.map enc_Point3 p.Sun), .int .i64 p.Hours, .mp 20, .vs 1 (List.map EV.encS zones)]), (6, .box 90 [.nils, .nils, .nils, .nils, .nils, .nils, .nils, .int .i64 0, .nilm, .nils]), (3, .box 81 [.vs 6 (List.map enc_Def p.Defs), .vs 3 (List.map enc_Table p.Tables), .vs 3 (List.map enc_Zone p.Zones), .vs 20 (List.map enc_Rule p.Rules), .vs 4 (List.map enc_Cap p.Caps), .vs 6 (List.map enc_View p.Views), .vs 3 (List.map enc_Point3 p.Sun), .int .i64 p.Hours])]) ?_ (fun v5 hz => ?_)
      ·refine v_cond (!(Option.getD (mfind x3.Name v1.1) false)) (by kernel_rfl) (fun h6 => ?_) (fun h6 => ?_)
       ·replace hs := bif_t h6 hs
        refine v_draw mixedH (by kernel_rfl) ?_
        refine d_runs 6 0 [(90, .int .i64 x2), (89, .sl 1 48 ((v4).length) 0 ((v4).length)), (88, .str x3.Name), (87, .ptr 18 0 0), (86, .mp 20), (85, .ptr 8 0 8)] [⟨5, [], []⟩, ⟨4, [], []⟩, ⟨3, [], [18]⟩, ⟨2, [], []⟩, ⟨1, [], [8]⟩, ⟨0, [], []⟩] (by kernel_rfl) (by kernel_rfl) ?_
        obtain ⟨_, g6, hs⟩ := bind_some hs; obtain ⟨g6a, g6b⟩ := grd_some g6
        refine d_pure (v := .ptr 48 ((v4).length) ((Int.toNat x2) * 1 + 0)) 6 rfl rfl rfl rfl (by kernel_rfl) (by kernel_rfl) (loc_indexRowT (e := 3) (sz := 1) (kk := 48) (L := (v4).length) (n := (v4).length) (k := .i64) (i := x2) (by kernel_rfl) (by kernel_rfl) (by kernel_rfl) g6a g6b) ?_
        obtain ⟨e2, he2, hs⟩ := bind_some hs; replace he2 := Option.some.inj he2
        refine d_loc (F := []) (R := [(48, .row 3 1 0 (List.map EV.encI v4))]) (F' := []) (v := .int .i64 e2) 7 [] [48] rfl rfl rfl rfl (by kernel_rfl) (by kernel_rfl) (by kernel_rfl) (by kernel_rfl) (by kernel_rfl) (by kernel_rfl) (by kernel_rfl) (by kernel_rfl) (loc_loadRow (L := (v4).length) (off := (Int.toNat x2) * 1 + 0) (els := (List.map EV.encI v4)) (cs := [.int .i64 e2]) (Int.toNat x2) 0 (by kernel_rfl) (by first | (simp only [List.length_map, List.length_set]; done) | rfl) rfl (by rw [← he2]; exact map_get _ (by first | omega | (simp only [List.length_set]; omega))) (by kernel_rfl)) ?_
        refine d_loc (F := [(20, .map (encM V.str (V.int .i64) q2.2.2))]) (R := []) (F' := [(20, .map (encM V.str (V.int .i64) (mset x3.Name e2 q2.2.2)))]) (v := .no) 8 [20] [] rfl rfl rfl rfl (by kernel_rfl) (by kernel_rfl) (by kernel_rfl) (by kernel_rfl) (by kernel_rfl) (by kernel_rfl) (by kernel_rfl) (by kernel_rfl) (loc_mapUpdate (et := 3) (f := V.str) (g := (V.int .i64)) (l := q2.2.2) (a := x3.Name) (c := e2) (by kernel_rfl) kok9 (by kernel_rfl) (by kernel_rfl) (by kernel_rfl) (by kernel_rfl) (by kernel_rfl)) ?_
        refine d_nil (by kernel_rfl) ?_
        obtain rfl := si hs
        refine nrm_join (mset x3.Name e2 q2.2.2) rfl ?_
        exact cut_of [3, 6, 8, 9, 12, 59, 60, 61] [20, 23, 48, 8, 6, 3] (by kernel_rfl) (by kernel_rfl) (by kernel_rfl)
       ·replace hs := bif_f h6 hs
        refine v_skip ?_
        obtain rfl := si hs
        refine nrm_join q2.2.2 rfl ?_
        exact cut_of [3, 6, 8, 9, 12, 59, 60, 61] [20, 23, 48, 8, 6, 3] (by kernel_rfl) (by kernel_rfl) (by kernel_rfl)
      ·subst hz; clear hs; have hs := hk5; clear hk5
       refine nrm_blkV (nrm_thenV (vr_text (o_runs 2 [(61, .int .i64 (w64 (q2.1 + 1))), (93, .int .i64 (w64 (q2.1 + 1)))] (by kernel_rfl) ?_)))
       refine ov_nil (nrm_fuel ((w64 (q2.1 + 1)), v4, v5) hs ?_)
       exact cut_of [3, 6, 8, 9, 12, 59, 60, 61] [48, 23, 8, 20, 6, 3] (by kernel_rfl) (by kernel_rfl) (by kernel_rfl)
    ·replace hs := bif_f h4 hs
     refine v_exit (exit_thenV (exit_fuel ?_))
     refine exit_blkV ?_
     obtain rfl := si hs
     refine nrm_join (q2.2.1, q2.2.2) rfl ?_
     exact cut_of [6, 8, 12] [48, 8, 20, 6] (by kernel_rfl) (by kernel_rfl) (by kernel_rfl)
   ·subst hz; clear hs; have hs := hk3; clear hk3
    refine nrm_thenV (v_seq (vr_text (o_runh 4 [(7, .sl 1 48 ((v3.1).length) 0 ((v3.1).length)), (95, .sl 1 48 ((v3.1).length) 0 ((v3.1).length)), (94, .agg [.vs 6 (List.map enc_Def p.Defs), .vs 3 (List.map enc_Table p.Tables), .vs 3 (List.map enc_Zone p.Zones), .vs 20 (List.map enc_Rule p.Rules), .vs 4 (List.map enc_Cap p.Caps), .vs 6 (List.map enc_View p.Views), .vs 3 (List.map enc_Point3 p.Sun), .int .i64 p.Hours, .mp 20, .vs 1 (List.map EV.encS zones)])] [(48, .row 3 1 0 (List.map EV.encI v3.1)), (8, .box 90 [.vs 6 (List.map enc_Def p.Defs), .vs 3 (List.map enc_Table p.Tables), .vs 3 (List.map enc_Zone p.Zones), .vs 20 (List.map enc_Rule p.Rules), .vs 4 (List.map enc_Cap p.Caps), .vs 6 (List.map enc_View p.Views), .vs 3 (List.map enc_Point3 p.Sun), .int .i64 p.Hours, .mp 20, .vs 1 (List.map EV.encS zones)]), (20, .map (encM V.str (V.int .i64) v3.2)), (6, .box 90 [.vs 6 (List.map enc_Def p.Defs), .vs 3 (List.map enc_Table p.Tables), .vs 3 (List.map enc_Zone p.Zones), .vs 20 (List.map enc_Rule p.Rules), .vs 4 (List.map enc_Cap p.Caps), .vs 6 (List.map enc_View p.Views), .vs 3 (List.map enc_Point3 p.Sun), .int .i64 p.Hours, .mp 20, .vs 1 (List.map EV.encS zones)])] (by kernel_rfl) ?_)))
    refine ov_nil (nrm_thenV (v_to _ [(48, .row 3 1 (((List.map EV.encI v3.1)).length) (List.map EV.encI v3.1)), (8, .box 90 [.vs 6 (List.map enc_Def p.Defs), .vs 3 (List.map enc_Table p.Tables), .vs 3 (List.map enc_Zone p.Zones), .vs 20 (List.map enc_Rule p.Rules), .vs 4 (List.map enc_Cap p.Caps), .vs 6 (List.map enc_View p.Views), .vs 3 (List.map enc_Point3 p.Sun), .int .i64 p.Hours, .mp 20, .vs 1 (List.map EV.encS zones)]), (20, .map (encM V.str (V.int .i64) v3.2)), (6, .box 90 [.vs 6 (List.map enc_Def p.Defs), .vs 3 (List.map enc_Table p.Tables), .vs 3 (List.map enc_Zone p.Zones), .vs 20 (List.map enc_Rule p.Rules), .vs 4 (List.map enc_Cap p.Caps), .vs 6 (List.map enc_View p.Views), .vs 3 (List.map enc_Point3 p.Sun), .int .i64 p.Hours, .mp 20, .vs 1 (List.map EV.encS zones)])] (cut_freeze (F := [(48, .row 3 1 0 (List.map EV.encI v3.1))]) [48] rfl (by kernel_rfl) (by kernel_rfl)) ?_))
    refine v_to ((7, .vs 1 (List.map EV.encI v3.1)) :: _) _ (cut_view (R := [(48, .row 3 1 (((List.map EV.encI v3.1)).length) (List.map EV.encI v3.1))]) (ks := [48]) (by kernel_rfl) (by kernel_rfl) (.row (t := 3) (fz := (((List.map EV.encI v3.1)).length)) (by kernel_rfl) (by first | (simp only [List.length_map, List.length_set]; done) | rfl))) ?_
    refine v_ret ?_
    obtain rfl := si hs
    exact fin_ret (by kernel_rfl) (by kernel_rfl) (by kernel_rfl)
theorem w_expr_Eval (p : Plan) (measures : (List Entry)) (zones : (List (List UInt8))) (e : Expr) (r : Int) (hs : s_expr_Eval p measures zones e = some r) : FnA Tryz.prog 44 [.agg (enc_Plan p), .vs 2 (List.map enc_Entry measures), .vs 1 (List.map EV.encS zones), .agg (enc_Expr e)] [] (.int .i64 r) [] := by
 refine fnA_of_wp (N := 24) Tryz.func44 rfl rfl rfl fun cK0 => ?_
 unfold s_expr_Eval at hs
 refine v_same (ρ' := [(0, .agg (enc_Plan p)), (1, .vs 2 (List.map enc_Entry measures)), (2, .vs 1 (List.map EV.encS zones)), (3, .agg (enc_Expr e))]) rfl rfl ?_
 refine v_seq (vr_text (o_runh 3 [(8, .int .i64 0), (7, .ptr 7 0 0), (4, .ptr 4 0 0)] [(7, .box 28 [.int .i64 e.Op, .int .i64 e.N, .str e.S, .str e.Key, .vs 5 (encs_Expr e.Args)]), (4, .box 81 [.vs 6 (List.map enc_Def p.Defs), .vs 3 (List.map enc_Table p.Tables), .vs 3 (List.map enc_Zone p.Zones), .vs 20 (List.map enc_Rule p.Rules), .vs 4 (List.map enc_Cap p.Caps), .vs 6 (List.map enc_View p.Views), .vs 3 (List.map enc_Point3 p.Sun), .int .i64 p.Hours])] (by kernel_rfl) ?_))
 refine ov_nil (nrm_thenV (v_seq (v_seq (vr_text (o_runs 1 [(11, .agg (enc_Expr e))] (by kernel_rfl) ?_)))))
 obtain ⟨y1, c1, hs⟩ := bind_some hs
 refine o_pure (v := .bool y1) (by kernel_rfl) (by kernel_rfl) (loc_gcall0 (callV_func hbv31 (by kernel_rfl)) (w_expr_Right e _ c1) (by kernel_rfl)) ?_
 refine o_runs 1 [(13, .bool (!y1))] (by kernel_rfl) ?_
 refine ov_nil (nrm_thenV ?_)
 refine v_cond (!y1) (by kernel_rfl) (fun h1 => ?_) (fun h1 => ?_)
 ·replace hs := bif_t h1 hs
  refine v_seq (vr_text (o_runs 1 [(8, .int .i64 0)] (by kernel_rfl) ?_))
  refine ov_nil (nrm_thenV (v_ret (ret_thenV ?_)))
  obtain rfl := si hs
  exact fin_ret (by kernel_rfl) (by kernel_rfl) (by kernel_rfl)
 ·replace hs := bif_f h1 hs
  refine v_skip (nrm_thenV (v_seq (vr_text (o_runs 3 [(17, .vs 1 (List.map EV.encS zones)), (16, .vs 2 (List.map enc_Entry measures)), (15, .agg (enc_Plan p))] (by kernel_rfl) ?_))))
  obtain ⟨y2, c2, hs⟩ := bind_some hs
  refine o_loc (F := []) (F' := [(3001800, .map (encM V.str (V.int .i64) y2.2.2.2))]) (v := .tup [.agg [.vs 6 (List.map enc_Def y2.1.Defs), .vs 3 (List.map enc_Table y2.1.Tables), .vs 3 (List.map enc_Zone y2.1.Zones), .vs 20 (List.map enc_Rule y2.1.Rules), .vs 4 (List.map enc_Cap y2.1.Caps), .vs 6 (List.map enc_View y2.1.Views), .vs 3 (List.map enc_Point3 y2.1.Sun), .int .i64 y2.1.Hours, .mp 3001800, .vs 1 (List.map EV.encS y2.2.1)], .vs 1 (List.map EV.encI y2.2.2.1)]) [] (by kernel_rfl) (by kernel_rfl) rfl (by kernel_rfl) (loc_g (R := []) [.agg (enc_Plan p), .vs 2 (List.map enc_Entry measures), .vs 1 (List.map EV.encS zones)] [(20, 3001800)] (callV_func hbv56 (by kernel_rfl)) (w_expr_prepare p measures zones _ c2) (.cons (.same _) (.cons (.same _) (.cons (.same _) (.nil)))) (by kernel_rfl) (by kernel_rfl) (by kernel_rfl) (by kernel_rfl) (by kernel_rfl) (by kernel_rfl) (by kernel_rfl) (by kernel_rfl)) (by kernel_rfl) ?_
  refine o_runh 6 [(10, .vs 1 (List.map EV.encI y2.2.2.1)), (9, .ptr 9 0 0), (20, .vs 1 (List.map EV.encI y2.2.2.1)), (19, .agg [.vs 6 (List.map enc_Def y2.1.Defs), .vs 3 (List.map enc_Table y2.1.Tables), .vs 3 (List.map enc_Zone y2.1.Zones), .vs 20 (List.map enc_Rule y2.1.Rules), .vs 4 (List.map enc_Cap y2.1.Caps), .vs 6 (List.map enc_View y2.1.Views), .vs 3 (List.map enc_Point3 y2.1.Sun), .int .i64 y2.1.Hours, .mp 3001800, .vs 1 (List.map EV.encS y2.2.1)]), (14, .tup [.agg [.vs 6 (List.map enc_Def y2.1.Defs), .vs 3 (List.map enc_Table y2.1.Tables), .vs 3 (List.map enc_Zone y2.1.Zones), .vs 20 (List.map enc_Rule y2.1.Rules), .vs 4 (List.map enc_Cap y2.1.Caps), .vs 6 (List.map enc_View y2.1.Views), .vs 3 (List.map enc_Point3 y2.1.Sun), .int .i64 y2.1.Hours, .mp 3001800, .vs 1 (List.map EV.encS y2.2.1)], .vs 1 (List.map EV.encI y2.2.2.1)])] [(9, .box 90 [.vs 6 (List.map enc_Def y2.1.Defs), .vs 3 (List.map enc_Table y2.1.Tables), .vs 3 (List.map enc_Zone y2.1.Zones), .vs 20 (List.map enc_Rule y2.1.Rules), .vs 4 (List.map enc_Cap y2.1.Caps), .vs 6 (List.map enc_View y2.1.Views), .vs 3 (List.map enc_Point3 y2.1.Sun), .int .i64 y2.1.Hours, .mp 3001800, .vs 1 (List.map EV.encS y2.2.1)]), (3001800, .map (encM V.str (V.int .i64) y2.2.2.2)), (7, .box 28 [.int .i64 e.Op, .int .i64 e.N, .str e.S, .str e.Key, .vs 5 (encs_Expr e.Args)]), (4, .box 81 [.vs 6 (List.map enc_Def p.Defs), .vs 3 (List.map enc_Table p.Tables), .vs 3 (List.map enc_Zone p.Zones), .vs 20 (List.map enc_Rule p.Rules), .vs 4 (List.map enc_Cap p.Caps), .vs 6 (List.map enc_View p.Views), .vs 3 (List.map enc_Point3 p.Sun), .int .i64 p.Hours])] (by kernel_rfl) ?_
  refine ov_nil (nrm_thenV (v_seq (vr_text (o_runs 2 [(22, .agg (enc_Expr e)), (21, .agg [.vs 6 (List.map enc_Def y2.1.Defs), .vs 3 (List.map enc_Table y2.1.Tables), .vs 3 (List.map enc_Zone y2.1.Zones), .vs 20 (List.map enc_Rule y2.1.Rules), .vs 4 (List.map enc_Cap y2.1.Caps), .vs 6 (List.map enc_View y2.1.Views), .vs 3 (List.map enc_Point3 y2.1.Sun), .int .i64 y2.1.Hours, .mp 3001800, .vs 1 (List.map EV.encS y2.2.1)])] (by kernel_rfl) ?_))))
  obtain ⟨y3, c3, hs⟩ := bind_some hs
  refine o_loc (F := [(3001800, .map (encM V.str (V.int .i64) y2.2.2.2))]) (F' := [(3001800, .map (encM V.str (V.int .i64) y2.2.2.2))]) (v := .int .i64 y3) [3001800] (by kernel_rfl) (by kernel_rfl) rfl (by kernel_rfl) (loc_g (R := []) [.agg [.vs 6 (List.map enc_Def y2.1.Defs), .vs 3 (List.map enc_Table y2.1.Tables), .vs 3 (List.map enc_Zone y2.1.Zones), .vs 20 (List.map enc_Rule y2.1.Rules), .vs 4 (List.map enc_Cap y2.1.Caps), .vs 6 (List.map enc_View y2.1.Views), .vs 3 (List.map enc_Point3 y2.1.Sun), .int .i64 y2.1.Hours, .mp 3001800, .vs 1 (List.map EV.encS y2.2.1)], .agg (enc_Expr e)] [(1000000, 3001800)] (callV_func hbv57 (by kernel_rfl)) (w_expr_context_value KK y2.1 y2.2.2.2 y2.2.1 e _ c3) (.cons (.same _) (.cons (.same _) (.nil))) (by kernel_rfl) (by kernel_rfl) (by kernel_rfl) (by kernel_rfl) (by kernel_rfl) (by kernel_rfl) (by kernel_rfl) (by kernel_rfl)) (by kernel_rfl) ?_
  refine o_runs 1 [(8, .int .i64 y3)] (by kernel_rfl) ?_
  refine ov_nil (nrm_thenV (v_ret ?_))
  obtain rfl := si hs
  exact fin_ret (by kernel_rfl) (by kernel_rfl) (by kernel_rfl)
theorem w_reopen_value (f : Formula) (told : (List Asked)) (r : Int) (hs : s_reopen_value f told = some r) : FnA Tryz.prog 28 [.agg (enc_Formula f), .vs 4 (List.map enc_Asked told)] [] (.int .i64 r) [] := by
 refine fnA_of_wp (N := 30) Tryz.func28 rfl rfl rfl fun cK0 => ?_
 unfold s_reopen_value at hs
 refine v_same (ρ' := [(0, .agg (enc_Formula f)), (1, .vs 4 (List.map enc_Asked told))]) rfl rfl ?_
 refine v_seq (vr_text (o_runh 2 [(4, .int .i64 0), (2, .ptr 2 0 0)] [(2, .box 31 [.int .i64 f.Id, .int .i64 f.Day, .int .i64 f.Known, .int .i64 f.Body.Op, .int .i64 f.Body.N, .str f.Body.S, .str f.Body.Key, .vs 5 (encs_Expr f.Body.Args), .int .i64 f.Result, .vs 4 (List.map enc_Asked f.Asked)])] (by kernel_rfl) ?_))
 refine ov_nil (nrm_thenV (v_seq (vr_text (o_runs 1 [(5, .nils)] (by kernel_rfl) ?_))))
 refine ov_nil (nrm_thenV (v_seq (v_seq (vr_text (o_runs 1 [(8, .vs 4 (List.map enc_Asked told))] (by kernel_rfl) ?_)))))
 refine o_pure (v := .int .i64 (List.length told : Int)) (by kernel_rfl) (by kernel_rfl) (loc_lenVs (sz := 4) (els := (List.map enc_Asked told)) (by kernel_rfl) (by kernel_rfl) (List.length_map ..)) ?_
 refine o_runs 1 [(10, .int .i64 0)] (by kernel_rfl) ?_
 refine ov_nil (nrm_thenV ?_)
 obtain ⟨z1, hs, hk1⟩ := bind_some hs
 refine v_join (S := (List Entry)) (fun u => u = z1) (fun u => [(2, .ptr 2 0 0), (5, .sl 2 2000016 ((u).length) 0 ((u).length))]) (fun u => [(2, .box 31 [.int .i64 f.Id, .int .i64 f.Day, .int .i64 f.Known, .int .i64 f.Body.Op, .int .i64 f.Body.N, .str f.Body.S, .str f.Body.Key, .vs 5 (encs_Expr f.Body.Args), .int .i64 f.Result, .vs 4 (List.map enc_Asked f.Asked)]), (2000016, .row 71 2 0 (List.map enc_Entry u))]) ?_ (fun v1 hz => ?_)
 ·refine v_block ?_
  refine v_fuel (S := Int × (List Entry)) (fun u => [(2, .ptr 2 0 0), (5, .sl 2 2000016 ((u.2).length) 0 ((u.2).length)), (8, .vs 4 (List.map enc_Asked told)), (9, .int .i64 (List.length told : Int)), (10, .int .i64 u.1)]) (fun u => [(2, .box 31 [.int .i64 f.Id, .int .i64 f.Day, .int .i64 f.Known, .int .i64 f.Body.Op, .int .i64 f.Body.N, .str f.Body.S, .str f.Body.Key, .vs 5 (encs_Expr f.Body.Args), .int .i64 f.Result, .vs 4 (List.map enc_Asked f.Asked)]), (2000016, .row 71 2 0 (List.map enc_Entry u.2))]) (s_reopen_value_L1 told) (fun _ => rfl) KK (0, []) hs (Cut.trans (cut_nilRow 5 2000016 71 2 rfl (by kernel_rfl) (by kernel_rfl)) (cut_of [2, 5, 8, 9, 10] [2, 2000016] (by kernel_rfl) (by kernel_rfl) (by kernel_rfl))) (fun K1 q1 hs => ?_)
  rw [s_reopen_value_L1] at hs
  show WpV cK0 Tryz.prog none 30 _ _ [(2, .ptr 2 0 0), (5, .sl 2 2000016 ((q1.2).length) 0 ((q1.2).length)), (8, .vs 4 (List.map enc_Asked told)), (9, .int .i64 (List.length told : Int)), (10, .int .i64 q1.1)] [(2, .box 31 [.int .i64 f.Id, .int .i64 f.Day, .int .i64 f.Known, .int .i64 f.Body.Op, .int .i64 f.Body.N, .str f.Body.S, .str f.Body.Key, .vs 5 (encs_Expr f.Body.Args), .int .i64 f.Result, .vs 4 (List.map enc_Asked f.Asked)]), (2000016, .row 71 2 0 (List.map enc_Entry q1.2))] []
  refine v_seq (vr_text (o_runs 1 [(11, .bool (decide (q1.1 < (List.length told : Int))))] (by kernel_rfl) ?_))
  refine ov_nil (nrm_thenV (v_seq ?_))
  refine v_cond (decide (q1.1 < (List.length told : Int))) (by kernel_rfl) (fun h1 => ?_) (fun h1 => ?_)
  ·replace hs := bif_t h1 hs
   refine v_skip (nrm_thenV (v_seq (v_block (v_seq (vr_text ?_)))))
   obtain ⟨x1, g1, hs⟩ := bind_some hs; obtain ⟨g1a, g1b, g1c⟩ := idx_some g1
   refine o_pure (v := .vp (enc_Asked x1) 0) (by kernel_rfl) (by kernel_rfl) (loc_indexVs (e := 52) (sz := 4) (k := .i64) (els := (List.map enc_Asked told)) (cs := (enc_Asked x1)) (by kernel_rfl) (by kernel_rfl) (by kernel_rfl) g1a (by rw [g1c]; exact map_get _ (by omega))) ?_
   refine o_runh 3 [(7, .ptr 7 0 0), (13, .agg (enc_Asked x1))] [(7, .box 52 [.str x1.Key, .int .i64 x1.Day, .int .i64 x1.Value, .bool x1.There]), (2, .box 31 [.int .i64 f.Id, .int .i64 f.Day, .int .i64 f.Known, .int .i64 f.Body.Op, .int .i64 f.Body.N, .str f.Body.S, .str f.Body.Key, .vs 5 (encs_Expr f.Body.Args), .int .i64 f.Result, .vs 4 (List.map enc_Asked f.Asked)]), (2000016, .row 71 2 0 (List.map enc_Entry q1.2))] (by kernel_rfl) ?_
   refine ov_nil (nrm_thenV (v_seq (vr_text (o_runs 2 [(15, .bool x1.There), (14, .ptr 7 0 3)] (by kernel_rfl) ?_))))
   refine ov_nil (nrm_thenV ?_)
   obtain ⟨z2, hs, hk2⟩ := bind_some hs
   refine v_join (S := (List Entry)) (fun u => u = z2) (fun u => [(2, .ptr 2 0 0), (5, .sl 2 2000016 ((u).length) 0 ((u).length)), (8, .vs 4 (List.map enc_Asked told)), (9, .int .i64 (List.length told : Int)), (10, .int .i64 q1.1)]) (fun u => [(2000016, .row 71 2 0 (List.map enc_Entry u)), (2, .box 31 [.int .i64 f.Id, .int .i64 f.Day, .int .i64 f.Known, .int .i64 f.Body.Op, .int .i64 f.Body.N, .str f.Body.S, .str f.Body.Key, .vs 5 (encs_Expr f.Body.Args), .int .i64 f.Result, .vs 4 (List.map enc_Asked f.Asked)])]) ?_ (fun v2 hz => ?_)
   ·refine v_cond x1.There (by kernel_rfl) (fun h2 => ?_) (fun h2 => ?_)
    ·replace hs := bif_t h2 hs
     refine vr_text (o_runh 7 [(22, .sl 2 22 1 0 1), (21, .agg [.str x1.Key, .int .i64 x1.Value]), (20, .int .i64 x1.Value), (19, .ptr 7 0 2), (18, .str x1.Key), (17, .ptr 7 0 0), (16, .sl 2 2000016 ((q1.2).length) 0 ((q1.2).length))] [(22, .row 71 2 0 (List.map enc_Entry [(Entry.mk x1.Key x1.Value)])), (7, .box 52 [.str x1.Key, .int .i64 x1.Day, .int .i64 x1.Value, .bool x1.There]), (2, .box 31 [.int .i64 f.Id, .int .i64 f.Day, .int .i64 f.Known, .int .i64 f.Body.Op, .int .i64 f.Body.N, .str f.Body.S, .str f.Body.Key, .vs 5 (encs_Expr f.Body.Args), .int .i64 f.Result, .vs 4 (List.map enc_Asked f.Asked)]), (2000016, .row 71 2 0 (List.map enc_Entry q1.2))] (by kernel_rfl) ?_)
     obtain ⟨_, g2, hs⟩ := bind_some hs; replace g2 := grd_some g2
     refine o_loc (F := [(2000016, .row 71 2 0 (List.map enc_Entry q1.2)), (22, .row 71 2 0 (List.map enc_Entry [(Entry.mk x1.Key x1.Value)]))]) (F' := [(2000016, .row 71 2 0 (List.map enc_Entry (q1.2 ++ [(Entry.mk x1.Key x1.Value)]))), (22, .row 71 2 0 (List.map enc_Entry [(Entry.mk x1.Key x1.Value)]))]) (v := .sl 2 2000016 (((q1.2 ++ [(Entry.mk x1.Key x1.Value)])).length) 0 (((q1.2 ++ [(Entry.mk x1.Key x1.Value)])).length)) [2000016, 22] (by kernel_rfl) (by kernel_rfl) rfl (by kernel_rfl) (loc_appendT (e := 71) (sz := 2) (bytes := 24) (L := (q1.2).length) (els := (List.map enc_Entry q1.2)) (ys := (List.map enc_Entry [(Entry.mk x1.Key x1.Value)])) (by kernel_rfl) (by kernel_rfl) (by first | exact List.length_map .. | rfl) (.sl (t := 71) (fz := 0) (ys := (List.map enc_Entry [(Entry.mk x1.Key x1.Value)])) (by kernel_rfl) (by kernel_rfl)) (map_ones enc_Entry (fun _ => rfl) _) (map_lens enc_Entry (fun _ => rfl) _) (by kernel_rfl) (by first | exact (List.map_append ..).symm | rfl | simp only [List.map_nil, List.nil_append]) (List.length_map ..) g2 (by omega)) (by kernel_rfl) ?_
     refine o_runs 1 [(5, .sl 2 2000016 (((q1.2 ++ [(Entry.mk x1.Key x1.Value)])).length) 0 (((q1.2 ++ [(Entry.mk x1.Key x1.Value)])).length))] (by kernel_rfl) ?_
     refine ov_nil ?_
     obtain rfl := si hs
     refine nrm_join (q1.2 ++ [(Entry.mk x1.Key x1.Value)]) rfl ?_
     exact cut_of [2, 5, 8, 9, 10] [2000016, 2] (by kernel_rfl) (by kernel_rfl) (by kernel_rfl)
    ·replace hs := bif_f h2 hs
     refine v_skip ?_
     obtain rfl := si hs
     refine nrm_join q1.2 rfl ?_
     exact cut_of [2, 5, 8, 9, 10] [2000016, 2] (by kernel_rfl) (by kernel_rfl) (by kernel_rfl)
   ·subst hz; clear hs; have hs := hk2; clear hk2
    refine nrm_blkV (nrm_thenV (vr_text (o_runs 2 [(10, .int .i64 (w64 (q1.1 + 1))), (24, .int .i64 (w64 (q1.1 + 1)))] (by kernel_rfl) ?_)))
    refine ov_nil (nrm_fuel ((w64 (q1.1 + 1)), v2) hs ?_)
    exact cut_of [2, 5, 8, 9, 10] [2, 2000016] (by kernel_rfl) (by kernel_rfl) (by kernel_rfl)
  ·replace hs := bif_f h1 hs
   refine v_exit (exit_thenV (exit_fuel ?_))
   refine exit_blkV ?_
   obtain rfl := si hs
   refine nrm_join q1.2 rfl ?_
   exact cut_of [2, 5] [2, 2000016] (by kernel_rfl) (by kernel_rfl) (by kernel_rfl)
 ·subst hz; clear hs; have hs := hk1; clear hk1
  refine nrm_thenV (v_seq (vr_text (o_runs 4 [(28, .agg (enc_Expr f.Body)), (27, .ptr 2 0 3), (26, .sl 2 2000016 ((v1).length) 0 ((v1).length)), (25, .agg [.nils, .nils, .nils, .nils, .nils, .nils, .nils, .int .i64 0])] (by kernel_rfl) ?_)))
  obtain ⟨y1, c1, hs⟩ := bind_some hs
  refine o_loc (F := [(2000016, .row 71 2 0 (List.map enc_Entry v1))]) (F' := [(2000016, .row 71 2 0 (List.map enc_Entry v1))]) (v := .int .i64 y1) [2000016] (by kernel_rfl) (by kernel_rfl) rfl (by kernel_rfl) (loc_gcallB (vs := [.agg [.nils, .nils, .nils, .nils, .nils, .nils, .nils, .int .i64 0], .sl 2 2000016 ((v1).length) 0 ((v1).length), .nils, .agg (enc_Expr f.Body)]) (R := [(2000016, .row 71 2 0 (List.map enc_Entry v1))]) (callV_func hbv44 (by kernel_rfl)) (w_expr_Eval (Plan.mk [] [] [] [] [] [] [] 0) v1 [] f.Body _ c1) (.cons (.agg (.cons (.nils _) (.cons (.nils _) (.cons (.nils _) (.cons (.nils _) (.cons (.nils _) (.cons (.nils _) (.cons (.nils _) (.cons (.same _) (.nil)))))))))) (.cons (.row (t := 71) (fz := 0) (by kernel_rfl) (by first | (simp only [List.length_map, List.length_set]; done) | rfl)) (.cons (.nils _) (.cons (.same _) (.nil))))) (by kernel_rfl) (by kernel_rfl) (by kernel_rfl)) (by kernel_rfl) ?_
  refine o_runs 1 [(4, .int .i64 y1)] (by kernel_rfl) ?_
  refine ov_nil (nrm_thenV (v_ret ?_))
  obtain rfl := si hs
  exact fin_ret (by kernel_rfl) (by kernel_rfl) (by kernel_rfl)
theorem w_reopen_Make (base : (List Fact)) (f : Formula) (r : Formula × Int) (hs : s_reopen_Make base f = some r) : FnA Tryz.prog 6 [.vs 5 (List.map enc_Fact base), .agg (enc_Formula f)] [] (.tup [.agg (enc_Formula r.1), .int .i64 r.2]) [] := by
 refine fnA_of_wp (N := 27) Tryz.func6 rfl rfl rfl fun cK0 => ?_
 unfold s_reopen_Make at hs
 refine v_same (ρ' := [(0, .vs 5 (List.map enc_Fact base)), (1, .agg (enc_Formula f))]) rfl rfl ?_
 refine v_seq (vr_text (o_runh 3 [(5, .int .i64 0), (4, .ptr 4 0 0), (3, .ptr 3 0 0)] [(4, .box 31 [.int .i64 0, .int .i64 0, .int .i64 0, .int .i64 0, .int .i64 0, .str [], .str [], .nils, .int .i64 0, .nils]), (3, .box 31 [.int .i64 f.Id, .int .i64 f.Day, .int .i64 f.Known, .int .i64 f.Body.Op, .int .i64 f.Body.N, .str f.Body.S, .str f.Body.Key, .vs 5 (encs_Expr f.Body.Args), .int .i64 f.Result, .vs 4 (List.map enc_Asked f.Asked)])] (by kernel_rfl) ?_))
 refine ov_nil (nrm_thenV (v_seq (v_seq ?_)))
 obtain ⟨z1, hs, hk1⟩ := bind_some hs
 refine v_join (S := Bool) (fun u => u = z1) (fun u => [(0, .vs 5 (List.map enc_Fact base)), (3, .ptr 3 0 0), (4, .ptr 4 0 0), (13, .bool u)]) (fun u => [(4, .box 31 [.int .i64 0, .int .i64 0, .int .i64 0, .int .i64 0, .int .i64 0, .str [], .str [], .nils, .int .i64 0, .nils]), (3, .box 31 [.int .i64 f.Id, .int .i64 f.Day, .int .i64 f.Known, .int .i64 f.Body.Op, .int .i64 f.Body.N, .str f.Body.S, .str f.Body.Key, .vs 5 (encs_Expr f.Body.Args), .int .i64 f.Result, .vs 4 (List.map enc_Asked f.Asked)])]) ?_ (fun v1 hz => ?_)
 ·refine vr_text (o_runs 1 [(6, .vs 5 (List.map enc_Fact base))] (by kernel_rfl) ?_)
  obtain ⟨y1, c1, hs⟩ := bind_some hs
  refine o_pure (v := .bool y1) (by kernel_rfl) (by kernel_rfl) (loc_gcall0 (callV_func hbv27 (by kernel_rfl)) (w_fact_Right base _ c1) (by kernel_rfl)) ?_
  refine o_runs 2 [(9, .bool (!y1)), (8, .bool (!y1))] (by kernel_rfl) ?_
  cases h1 : ((!y1))
  ·replace hs := bif_f h1 hs
   refine o_runs 1 [(10, .agg (enc_Formula f))] (by kernel_rfl) ?_
   obtain ⟨y2, c2, hs⟩ := bind_some hs
   refine o_pure (v := .bool y2) (by kernel_rfl) (by kernel_rfl) (loc_gcall0 (callV_func hbv9 (by kernel_rfl)) (w_reopen_Right f _ c2) (by kernel_rfl)) ?_
   refine o_runs 2 [(13, .bool (!y2)), (12, .bool (!y2))] (by kernel_rfl) ?_
   refine ov_nil ?_
   obtain rfl := si hs
   refine nrm_join (!y2) rfl ?_
   exact cut_of [0, 3, 4, 13] [4, 3] (by kernel_rfl) (by kernel_rfl) (by kernel_rfl)
  ·replace hs := bif_t h1 hs
   refine o_runs 4 [(13, .bool true), (12, .no), (11, .no), (10, .no)] (by kernel_rfl) ?_
   refine ov_nil ?_
   obtain rfl := si hs
   refine nrm_join true rfl ?_
   exact cut_of [0, 3, 4, 13] [4, 3] (by kernel_rfl) (by kernel_rfl) (by kernel_rfl)
 ·subst hz; clear hs; have hs := hk1; clear hk1
  refine nrm_thenV ?_
  refine v_cond v1 (by kernel_rfl) (fun h2 => ?_) (fun h2 => ?_)
  ·replace hs := bif_t h2 hs
   refine v_seq (vr_text (o_runh 3 [(5, .int .i64 1), (14, .agg [.int .i64 0, .int .i64 0, .int .i64 0, .int .i64 0, .int .i64 0, .str [], .str [], .nils, .int .i64 0, .nils])] [(4, .box 31 [.int .i64 0, .int .i64 0, .int .i64 0, .int .i64 0, .int .i64 0, .str [], .str [], .nils, .int .i64 0, .nils]), (3, .box 31 [.int .i64 f.Id, .int .i64 f.Day, .int .i64 f.Known, .int .i64 f.Body.Op, .int .i64 f.Body.N, .str f.Body.S, .str f.Body.Key, .vs 5 (encs_Expr f.Body.Args), .int .i64 f.Result, .vs 4 (List.map enc_Asked f.Asked)])] (by kernel_rfl) ?_))
   refine ov_nil (nrm_thenV (v_to _ [(4, .box 31 [.int .i64 0, .int .i64 0, .int .i64 0, .int .i64 0, .int .i64 0, .str [], .str [], .vs 5 (encs_Expr []), .int .i64 0, .vs 4 (List.map enc_Asked [])]), (3, .box 31 [.int .i64 f.Id, .int .i64 f.Day, .int .i64 f.Known, .int .i64 f.Body.Op, .int .i64 f.Body.N, .str f.Body.S, .str f.Body.Key, .vs 5 (encs_Expr f.Body.Args), .int .i64 f.Result, .vs 4 (List.map enc_Asked f.Asked)])] (cut_box (k := 4) (t := 31) (cs := [.int .i64 0, .int .i64 0, .int .i64 0, .int .i64 0, .int .i64 0, .str [], .str [], .nils, .int .i64 0, .nils]) (cs' := [.int .i64 0, .int .i64 0, .int .i64 0, .int .i64 0, .int .i64 0, .str [], .str [], .vs 5 (encs_Expr []), .int .i64 0, .vs 4 (List.map enc_Asked [])]) [] [] (by kernel_rfl) (by kernel_rfl) (by kernel_rfl) (.cons (.same _) (.cons (.same _) (.cons (.same _) (.cons (.same _) (.cons (.same _) (.cons (.same _) (.cons (.same _) (.cons (.nils 5) (.cons (.same _) (.cons (.nils 4) (.nil))))))))))) (by kernel_rfl)) ?_))
   refine v_ret (ret_thenV ?_)
   obtain rfl := si hs
   exact fin_ret (by kernel_rfl) (by kernel_rfl) (by kernel_rfl)
  ·replace hs := bif_f h2 hs
   refine v_skip (nrm_thenV (v_seq (vr_text (o_runs 4 [(18, .int .i64 f.Known), (17, .ptr 3 0 2), (16, .agg (enc_Formula f)), (15, .vs 5 (List.map enc_Fact base))] (by kernel_rfl) ?_))))
   obtain ⟨y3, c3, hs⟩ := bind_some hs
   refine o_pure (v := .vs 4 (List.map enc_Asked y3)) (by kernel_rfl) (by kernel_rfl) (loc_gcall0 (callV_func hbv14 (by kernel_rfl)) (w_reopen_Ask base f f.Known _ c3) (by kernel_rfl)) ?_
   refine o_runh 2 [(20, .ptr 3 0 9)] [(4, .box 31 [.int .i64 0, .int .i64 0, .int .i64 0, .int .i64 0, .int .i64 0, .str [], .str [], .nils, .int .i64 0, .nils]), (3, .box 31 [.int .i64 f.Id, .int .i64 f.Day, .int .i64 f.Known, .int .i64 f.Body.Op, .int .i64 f.Body.N, .str f.Body.S, .str f.Body.Key, .vs 5 (encs_Expr f.Body.Args), .int .i64 f.Result, .vs 4 (List.map enc_Asked y3)])] (by kernel_rfl) ?_
   refine ov_nil (nrm_thenV (v_seq (vr_text (o_runs 3 [(23, .vs 4 (List.map enc_Asked y3)), (22, .ptr 3 0 9), (21, .agg [.int .i64 f.Id, .int .i64 f.Day, .int .i64 f.Known, .int .i64 f.Body.Op, .int .i64 f.Body.N, .str f.Body.S, .str f.Body.Key, .vs 5 (encs_Expr f.Body.Args), .int .i64 f.Result, .vs 4 (List.map enc_Asked y3)])] (by kernel_rfl) ?_))))
   obtain ⟨y4, c4, hs⟩ := bind_some hs
   refine o_pure (v := .int .i64 y4) (by kernel_rfl) (by kernel_rfl) (loc_gcall0 (callV_func hbv28 (by kernel_rfl)) (w_reopen_value (Formula.mk f.Id f.Day f.Known f.Body f.Result y3) y3 _ c4) (by kernel_rfl)) ?_
   refine o_runh 2 [(25, .ptr 3 0 8)] [(4, .box 31 [.int .i64 0, .int .i64 0, .int .i64 0, .int .i64 0, .int .i64 0, .str [], .str [], .nils, .int .i64 0, .nils]), (3, .box 31 [.int .i64 f.Id, .int .i64 f.Day, .int .i64 f.Known, .int .i64 f.Body.Op, .int .i64 f.Body.N, .str f.Body.S, .str f.Body.Key, .vs 5 (encs_Expr f.Body.Args), .int .i64 y4, .vs 4 (List.map enc_Asked y3)])] (by kernel_rfl) ?_
   refine ov_nil (nrm_thenV (v_seq (vr_text (o_runh 3 [(5, .int .i64 0), (26, .agg [.int .i64 f.Id, .int .i64 f.Day, .int .i64 f.Known, .int .i64 f.Body.Op, .int .i64 f.Body.N, .str f.Body.S, .str f.Body.Key, .vs 5 (encs_Expr f.Body.Args), .int .i64 y4, .vs 4 (List.map enc_Asked y3)])] [(4, .box 31 [.int .i64 f.Id, .int .i64 f.Day, .int .i64 f.Known, .int .i64 f.Body.Op, .int .i64 f.Body.N, .str f.Body.S, .str f.Body.Key, .vs 5 (encs_Expr f.Body.Args), .int .i64 y4, .vs 4 (List.map enc_Asked y3)]), (3, .box 31 [.int .i64 f.Id, .int .i64 f.Day, .int .i64 f.Known, .int .i64 f.Body.Op, .int .i64 f.Body.N, .str f.Body.S, .str f.Body.Key, .vs 5 (encs_Expr f.Body.Args), .int .i64 y4, .vs 4 (List.map enc_Asked y3)])] (by kernel_rfl) ?_))))
   refine ov_nil (nrm_thenV (v_ret ?_))
   obtain rfl := si hs
   exact fin_ret (by kernel_rfl) (by kernel_rfl) (by kernel_rfl)
theorem w_reopen_Make_2 (base : (List Fact)) (f_Id : Int) (f_Day : Int) (f_Known : Int) (f_Body_Op : Int) (f_Body_N : Int) (f_Body_S : (List UInt8)) (f_Body_Key : (List UInt8)) (f_Body_Args : (List Expr)) (f_Result : Int) (f_Asked : (List Asked)) (r : Formula × Int) (hs : s_reopen_Make_2 base f_Id f_Day f_Known f_Body_Op f_Body_N f_Body_S f_Body_Key f_Body_Args f_Result f_Asked = some r) : FnA Tryz.prog 6 [.vs 5 (List.map enc_Fact base), .agg [.int .i64 f_Id, .int .i64 f_Day, .int .i64 f_Known, .int .i64 f_Body_Op, .int .i64 f_Body_N, .str f_Body_S, .str f_Body_Key, .vs 5 (encs_Expr f_Body_Args), .int .i64 f_Result, .vs 4 (List.map enc_Asked f_Asked)]] [] (.tup [.agg (enc_Formula r.1), .int .i64 r.2]) [] := by
 refine fnA_of_wp (N := 27) Tryz.func6 rfl rfl rfl fun cK0 => ?_
 unfold s_reopen_Make_2 at hs
 refine v_same (ρ' := [(0, .vs 5 (List.map enc_Fact base)), (1, .agg [.int .i64 f_Id, .int .i64 f_Day, .int .i64 f_Known, .int .i64 f_Body_Op, .int .i64 f_Body_N, .str f_Body_S, .str f_Body_Key, .vs 5 (encs_Expr f_Body_Args), .int .i64 f_Result, .vs 4 (List.map enc_Asked f_Asked)])]) rfl rfl ?_
 refine v_seq (vr_text (o_runh 3 [(5, .int .i64 0), (4, .ptr 4 0 0), (3, .ptr 3 0 0)] [(4, .box 31 [.int .i64 0, .int .i64 0, .int .i64 0, .int .i64 0, .int .i64 0, .str [], .str [], .nils, .int .i64 0, .nils]), (3, .box 31 [.int .i64 f_Id, .int .i64 f_Day, .int .i64 f_Known, .int .i64 f_Body_Op, .int .i64 f_Body_N, .str f_Body_S, .str f_Body_Key, .vs 5 (encs_Expr f_Body_Args), .int .i64 f_Result, .vs 4 (List.map enc_Asked f_Asked)])] (by kernel_rfl) ?_))
 refine ov_nil (nrm_thenV (v_seq (v_seq ?_)))
 obtain ⟨z1, hs, hk1⟩ := bind_some hs
 refine v_join (S := Bool) (fun u => u = z1) (fun u => [(0, .vs 5 (List.map enc_Fact base)), (3, .ptr 3 0 0), (4, .ptr 4 0 0), (13, .bool u)]) (fun u => [(4, .box 31 [.int .i64 0, .int .i64 0, .int .i64 0, .int .i64 0, .int .i64 0, .str [], .str [], .nils, .int .i64 0, .nils]), (3, .box 31 [.int .i64 f_Id, .int .i64 f_Day, .int .i64 f_Known, .int .i64 f_Body_Op, .int .i64 f_Body_N, .str f_Body_S, .str f_Body_Key, .vs 5 (encs_Expr f_Body_Args), .int .i64 f_Result, .vs 4 (List.map enc_Asked f_Asked)])]) ?_ (fun v1 hz => ?_)
 ·refine vr_text (o_runs 1 [(6, .vs 5 (List.map enc_Fact base))] (by kernel_rfl) ?_)
  obtain ⟨y1, c1, hs⟩ := bind_some hs
  refine o_pure (v := .bool y1) (by kernel_rfl) (by kernel_rfl) (loc_gcall0 (callV_func hbv27 (by kernel_rfl)) (w_fact_Right base _ c1) (by kernel_rfl)) ?_
  refine o_runs 2 [(9, .bool (!y1)), (8, .bool (!y1))] (by kernel_rfl) ?_
  cases h1 : ((!y1))
  ·replace hs := bif_f h1 hs
   refine o_runs 1 [(10, .agg [.int .i64 f_Id, .int .i64 f_Day, .int .i64 f_Known, .int .i64 f_Body_Op, .int .i64 f_Body_N, .str f_Body_S, .str f_Body_Key, .vs 5 (encs_Expr f_Body_Args), .int .i64 f_Result, .vs 4 (List.map enc_Asked f_Asked)])] (by kernel_rfl) ?_
   obtain ⟨y2, c2, hs⟩ := bind_some hs
   refine o_pure (v := .bool y2) (by kernel_rfl) (by kernel_rfl) (loc_gcall0 (callV_func hbv9 (by kernel_rfl)) (w_reopen_Right (Formula.mk f_Id f_Day f_Known (Expr.mk f_Body_Op f_Body_N f_Body_S f_Body_Key f_Body_Args) f_Result f_Asked) _ c2) (by kernel_rfl)) ?_
   refine o_runs 2 [(13, .bool (!y2)), (12, .bool (!y2))] (by kernel_rfl) ?_
   refine ov_nil ?_
   obtain rfl := si hs
   refine nrm_join (!y2) rfl ?_
   exact cut_of [0, 3, 4, 13] [4, 3] (by kernel_rfl) (by kernel_rfl) (by kernel_rfl)
  ·replace hs := bif_t h1 hs
   refine o_runs 4 [(13, .bool true), (12, .no), (11, .no), (10, .no)] (by kernel_rfl) ?_
   refine ov_nil ?_
   obtain rfl := si hs
   refine nrm_join true rfl ?_
   exact cut_of [0, 3, 4, 13] [4, 3] (by kernel_rfl) (by kernel_rfl) (by kernel_rfl)
 ·subst hz; clear hs; have hs := hk1; clear hk1
  refine nrm_thenV ?_
  refine v_cond v1 (by kernel_rfl) (fun h2 => ?_) (fun h2 => ?_)
  ·replace hs := bif_t h2 hs
   refine v_seq (vr_text (o_runh 3 [(5, .int .i64 1), (14, .agg [.int .i64 0, .int .i64 0, .int .i64 0, .int .i64 0, .int .i64 0, .str [], .str [], .nils, .int .i64 0, .nils])] [(4, .box 31 [.int .i64 0, .int .i64 0, .int .i64 0, .int .i64 0, .int .i64 0, .str [], .str [], .nils, .int .i64 0, .nils]), (3, .box 31 [.int .i64 f_Id, .int .i64 f_Day, .int .i64 f_Known, .int .i64 f_Body_Op, .int .i64 f_Body_N, .str f_Body_S, .str f_Body_Key, .vs 5 (encs_Expr f_Body_Args), .int .i64 f_Result, .vs 4 (List.map enc_Asked f_Asked)])] (by kernel_rfl) ?_))
   refine ov_nil (nrm_thenV (v_to _ [(4, .box 31 [.int .i64 0, .int .i64 0, .int .i64 0, .int .i64 0, .int .i64 0, .str [], .str [], .vs 5 (encs_Expr []), .int .i64 0, .vs 4 (List.map enc_Asked [])]), (3, .box 31 [.int .i64 f_Id, .int .i64 f_Day, .int .i64 f_Known, .int .i64 f_Body_Op, .int .i64 f_Body_N, .str f_Body_S, .str f_Body_Key, .vs 5 (encs_Expr f_Body_Args), .int .i64 f_Result, .vs 4 (List.map enc_Asked f_Asked)])] (cut_box (k := 4) (t := 31) (cs := [.int .i64 0, .int .i64 0, .int .i64 0, .int .i64 0, .int .i64 0, .str [], .str [], .nils, .int .i64 0, .nils]) (cs' := [.int .i64 0, .int .i64 0, .int .i64 0, .int .i64 0, .int .i64 0, .str [], .str [], .vs 5 (encs_Expr []), .int .i64 0, .vs 4 (List.map enc_Asked [])]) [] [] (by kernel_rfl) (by kernel_rfl) (by kernel_rfl) (.cons (.same _) (.cons (.same _) (.cons (.same _) (.cons (.same _) (.cons (.same _) (.cons (.same _) (.cons (.same _) (.cons (.nils 5) (.cons (.same _) (.cons (.nils 4) (.nil))))))))))) (by kernel_rfl)) ?_))
   refine v_ret (ret_thenV ?_)
   obtain rfl := si hs
   exact fin_ret (by kernel_rfl) (by kernel_rfl) (by kernel_rfl)
  ·replace hs := bif_f h2 hs
   refine v_skip (nrm_thenV (v_seq (vr_text (o_runs 4 [(18, .int .i64 f_Known), (17, .ptr 3 0 2), (16, .agg [.int .i64 f_Id, .int .i64 f_Day, .int .i64 f_Known, .int .i64 f_Body_Op, .int .i64 f_Body_N, .str f_Body_S, .str f_Body_Key, .vs 5 (encs_Expr f_Body_Args), .int .i64 f_Result, .vs 4 (List.map enc_Asked f_Asked)]), (15, .vs 5 (List.map enc_Fact base))] (by kernel_rfl) ?_))))
   obtain ⟨y3, c3, hs⟩ := bind_some hs
   refine o_pure (v := .vs 4 (List.map enc_Asked y3)) (by kernel_rfl) (by kernel_rfl) (loc_gcall0 (callV_func hbv14 (by kernel_rfl)) (w_reopen_Ask base (Formula.mk f_Id f_Day f_Known (Expr.mk f_Body_Op f_Body_N f_Body_S f_Body_Key f_Body_Args) f_Result f_Asked) f_Known _ c3) (by kernel_rfl)) ?_
   refine o_runh 2 [(20, .ptr 3 0 9)] [(4, .box 31 [.int .i64 0, .int .i64 0, .int .i64 0, .int .i64 0, .int .i64 0, .str [], .str [], .nils, .int .i64 0, .nils]), (3, .box 31 [.int .i64 f_Id, .int .i64 f_Day, .int .i64 f_Known, .int .i64 f_Body_Op, .int .i64 f_Body_N, .str f_Body_S, .str f_Body_Key, .vs 5 (encs_Expr f_Body_Args), .int .i64 f_Result, .vs 4 (List.map enc_Asked y3)])] (by kernel_rfl) ?_
   refine ov_nil (nrm_thenV (v_seq (vr_text (o_runs 3 [(23, .vs 4 (List.map enc_Asked y3)), (22, .ptr 3 0 9), (21, .agg [.int .i64 f_Id, .int .i64 f_Day, .int .i64 f_Known, .int .i64 f_Body_Op, .int .i64 f_Body_N, .str f_Body_S, .str f_Body_Key, .vs 5 (encs_Expr f_Body_Args), .int .i64 f_Result, .vs 4 (List.map enc_Asked y3)])] (by kernel_rfl) ?_))))
   obtain ⟨y4, c4, hs⟩ := bind_some hs
   refine o_pure (v := .int .i64 y4) (by kernel_rfl) (by kernel_rfl) (loc_gcall0 (callV_func hbv28 (by kernel_rfl)) (w_reopen_value (Formula.mk f_Id f_Day f_Known (Expr.mk f_Body_Op f_Body_N f_Body_S f_Body_Key f_Body_Args) f_Result y3) y3 _ c4) (by kernel_rfl)) ?_
   refine o_runh 2 [(25, .ptr 3 0 8)] [(4, .box 31 [.int .i64 0, .int .i64 0, .int .i64 0, .int .i64 0, .int .i64 0, .str [], .str [], .nils, .int .i64 0, .nils]), (3, .box 31 [.int .i64 f_Id, .int .i64 f_Day, .int .i64 f_Known, .int .i64 f_Body_Op, .int .i64 f_Body_N, .str f_Body_S, .str f_Body_Key, .vs 5 (encs_Expr f_Body_Args), .int .i64 y4, .vs 4 (List.map enc_Asked y3)])] (by kernel_rfl) ?_
   refine ov_nil (nrm_thenV (v_seq (vr_text (o_runh 3 [(5, .int .i64 0), (26, .agg [.int .i64 f_Id, .int .i64 f_Day, .int .i64 f_Known, .int .i64 f_Body_Op, .int .i64 f_Body_N, .str f_Body_S, .str f_Body_Key, .vs 5 (encs_Expr f_Body_Args), .int .i64 y4, .vs 4 (List.map enc_Asked y3)])] [(4, .box 31 [.int .i64 f_Id, .int .i64 f_Day, .int .i64 f_Known, .int .i64 f_Body_Op, .int .i64 f_Body_N, .str f_Body_S, .str f_Body_Key, .vs 5 (encs_Expr f_Body_Args), .int .i64 y4, .vs 4 (List.map enc_Asked y3)]), (3, .box 31 [.int .i64 f_Id, .int .i64 f_Day, .int .i64 f_Known, .int .i64 f_Body_Op, .int .i64 f_Body_N, .str f_Body_S, .str f_Body_Key, .vs 5 (encs_Expr f_Body_Args), .int .i64 y4, .vs 4 (List.map enc_Asked y3)])] (by kernel_rfl) ?_))))
   refine ov_nil (nrm_thenV (v_ret ?_))
   obtain rfl := si hs
   exact fin_ret (by kernel_rfl) (by kernel_rfl) (by kernel_rfl)
theorem w_greenbeltref45_SameAsked (a : (List Asked)) (b : (List Asked)) (r : Bool) (hs : s_greenbeltref45_SameAsked a b = some r) : FnA Tryz.prog 13 [.vs 4 (List.map enc_Asked a), .vs 4 (List.map enc_Asked b)] [] (.bool r) [] := by
 refine fnA_of_wp (N := 26) Tryz.func13 rfl rfl rfl fun cK0 => ?_
 unfold s_greenbeltref45_SameAsked at hs
 refine v_same (ρ' := [(0, .vs 4 (List.map enc_Asked a)), (1, .vs 4 (List.map enc_Asked b))]) rfl rfl ?_
 refine v_seq (vr_text (o_runs 1 [(4, .bool false)] (by kernel_rfl) ?_))
 refine ov_nil (nrm_thenV (v_seq (v_seq (vr_text (o_runs 1 [(6, .vs 4 (List.map enc_Asked a))] (by kernel_rfl) ?_)))))
 refine o_pure (v := .int .i64 (List.length a : Int)) (by kernel_rfl) (by kernel_rfl) (loc_lenVs (sz := 4) (els := (List.map enc_Asked a)) (by kernel_rfl) (by kernel_rfl) (List.length_map ..)) ?_
 refine o_runs 1 [(8, .vs 4 (List.map enc_Asked b))] (by kernel_rfl) ?_
 refine o_pure (v := .int .i64 (List.length b : Int)) (by kernel_rfl) (by kernel_rfl) (loc_lenVs (sz := 4) (els := (List.map enc_Asked b)) (by kernel_rfl) (by kernel_rfl) (List.length_map ..)) ?_
 refine o_runs 1 [(10, .bool (!(decide ((List.length a : Int) = (List.length b : Int)))))] (by kernel_rfl) ?_
 refine ov_nil (nrm_thenV ?_)
 refine v_cond (!(decide ((List.length a : Int) = (List.length b : Int)))) (by kernel_rfl) (fun h1 => ?_) (fun h1 => ?_)
 ·replace hs := bif_t h1 hs
  refine v_seq (vr_text (o_runs 1 [(4, .bool false)] (by kernel_rfl) ?_))
  refine ov_nil (nrm_thenV (v_ret (ret_thenV ?_)))
  obtain rfl := si hs
  exact fin_ret (by kernel_rfl) (by kernel_rfl) (by kernel_rfl)
 ·replace hs := bif_f h1 hs
  refine v_skip (nrm_thenV (v_seq (v_seq (vr_text (o_runs 1 [(5, .int .i64 0)] (by kernel_rfl) ?_)))))
  refine ov_nil (nrm_thenV ?_)
  obtain ⟨z1, hs, hk1⟩ := bind_some hs
  refine v_join (S := Unit) (fun u => z1 = .inr u) (fun u => []) (fun u => []) ?_ (fun v1 hz => ?_)
  ·refine v_block ?_
   refine v_fuel (S := Int) (fun u => [(0, .vs 4 (List.map enc_Asked a)), (1, .vs 4 (List.map enc_Asked b)), (5, .int .i64 u)]) (fun u => []) (s_greenbeltref45_SameAsked_L1 a b) (fun _ => rfl) KK 0 hs (cut_of [0, 1, 5] [] (by kernel_rfl) (by kernel_rfl) (by kernel_rfl)) (fun K1 q1 hs => ?_)
   rw [s_greenbeltref45_SameAsked_L1] at hs
   show WpV cK0 Tryz.prog none 26 _ _ [(0, .vs 4 (List.map enc_Asked a)), (1, .vs 4 (List.map enc_Asked b)), (5, .int .i64 q1)] [] []
   refine v_seq (v_seq (vr_text (o_runs 2 [(12, .vs 4 (List.map enc_Asked a)), (11, .int .i64 q1)] (by kernel_rfl) ?_)))
   refine o_pure (v := .int .i64 (List.length a : Int)) (by kernel_rfl) (by kernel_rfl) (loc_lenVs (sz := 4) (els := (List.map enc_Asked a)) (by kernel_rfl) (by kernel_rfl) (List.length_map ..)) ?_
   refine o_runs 1 [(14, .bool (decide (q1 < (List.length a : Int))))] (by kernel_rfl) ?_
   refine ov_nil (nrm_thenV ?_)
   refine v_cond (decide (q1 < (List.length a : Int))) (by kernel_rfl) (fun h2 => ?_) (fun h2 => ?_)
   ·replace hs := bif_t h2 hs
    refine v_skip (nrm_thenV (v_seq (v_block (v_seq (v_draw mixedH (by kernel_rfl) ?_)))))
    refine d_runs 2 0 [(18, .int .i64 q1), (17, .vs 4 (List.map enc_Asked a))] (pfp 2 1) (by kernel_rfl) (by kernel_rfl) ?_
    obtain ⟨x1, g1, hs⟩ := bind_some hs; obtain ⟨g1a, g1b, g1c⟩ := idx_some g1
    refine d_pure (v := .vp (enc_Asked x1) 0) 2 rfl rfl rfl rfl (by kernel_rfl) (by kernel_rfl) (loc_indexVs (e := 52) (sz := 4) (k := .i64) (els := (List.map enc_Asked a)) (cs := (enc_Asked x1)) (by kernel_rfl) (by kernel_rfl) (by kernel_rfl) g1a (by rw [g1c]; exact map_get _ (by omega))) ?_
    refine d_runs 3 3 [(22, .int .i64 q1), (21, .vs 4 (List.map enc_Asked b)), (20, .agg (enc_Asked x1))] (pfp 3 5) (by kernel_rfl) (by kernel_rfl) ?_
    obtain ⟨x2, g2, hs⟩ := bind_some hs; obtain ⟨g2a, g2b, g2c⟩ := idx_some g2
    refine d_pure (v := .vp (enc_Asked x2) 0) 6 rfl rfl rfl rfl (by kernel_rfl) (by kernel_rfl) (loc_indexVs (e := 52) (sz := 4) (k := .i64) (els := (List.map enc_Asked b)) (cs := (enc_Asked x2)) (by kernel_rfl) (by kernel_rfl) (by kernel_rfl) g2a (by rw [g2c]; exact map_get _ (by omega))) ?_
    refine d_runs 2 7 [(25, .bool (!(decide (x1.Key = x2.Key) && (decide (x1.Day = x2.Day) && (decide (x1.Value = x2.Value) && ((x1.There == x2.There))))))), (24, .agg (enc_Asked x2))] (pfp 2 8) (by kernel_rfl) (by kernel_rfl) ?_
    refine d_nil (by kernel_rfl) ?_
    refine nrm_thenV ?_
    refine v_cond (!(decide (x1.Key = x2.Key) && (decide (x1.Day = x2.Day) && (decide (x1.Value = x2.Value) && ((x1.There == x2.There)))))) (by kernel_rfl) (fun h3 => ?_) (fun h3 => ?_)
    ·replace hs := bif_t h3 hs
     refine v_seq (vr_text (o_runs 1 [(4, .bool false)] (by kernel_rfl) ?_))
     refine ov_nil (nrm_thenV (v_ret (ret_blkV (ret_thenV (ret_fuel ?_)))))
     refine ret_blkV (ret_join ?_)
     refine ret_thenV ?_
     obtain rfl := si hs
     replace hs := hk1
     obtain rfl := si hs
     exact fin_ret (by kernel_rfl) (by kernel_rfl) (by kernel_rfl)
    ·replace hs := bif_f h3 hs
     refine v_skip (nrm_blkV (nrm_thenV (vr_text (o_runs 3 [(5, .int .i64 (w64 (q1 + 1))), (16, .int .i64 (w64 (q1 + 1))), (15, .int .i64 q1)] (by kernel_rfl) ?_))))
     refine ov_nil (nrm_fuel (w64 (q1 + 1)) hs ?_)
     exact cut_of [0, 1, 5] [] (by kernel_rfl) (by kernel_rfl) (by kernel_rfl)
   ·replace hs := bif_f h2 hs
    refine v_exit (exit_thenV (exit_fuel ?_))
    refine exit_blkV ?_
    obtain rfl := si hs
    refine nrm_join () rfl ?_
    exact cut_of [] [] (by kernel_rfl) (by kernel_rfl) (by kernel_rfl)
  ·subst hz; clear hs; have hs := hk1; clear hk1
   refine nrm_thenV (v_seq (vr_text (o_runs 1 [(4, .bool true)] (by kernel_rfl) ?_)))
   refine ov_nil (nrm_thenV (v_ret ?_))
   obtain rfl := si hs
   exact fin_ret (by kernel_rfl) (by kernel_rfl) (by kernel_rfl)
theorem w_reopen_Reopened_1 (f : Formula) (a1 : (List Fact)) (a2 : Int) (r : Bool × (List Fact) × Int) (hs : s_reopen_Reopened_1 f a1 a2 = some r) : FnA Tryz.prog 42 [.agg (enc_Formula f), .ptr 1000000 0 0, .ptr 1000001 0 0] [(1000000, .box 22 [.vs 5 (List.map enc_Fact a1)]), (1000001, .box 3 [.int .i64 a2])] (.bool r.1) [(1000000, .box 22 [.vs 5 (List.map enc_Fact r.2.1)]), (1000001, .box 3 [.int .i64 r.2.2])] := by
 refine fnA_of_wp (N := 18) Tryz.func42 rfl rfl rfl fun cK0 => ?_
 unfold s_reopen_Reopened_1 at hs
 refine v_same (ρ' := [(0, .agg (enc_Formula f)), (1, .ptr 1000000 0 0), (2, .ptr 1000001 0 0)]) rfl rfl ?_
 refine v_seq (vr_text (o_runh 2 [(4, .bool false), (3, .ptr 3 0 0)] [(3, .box 31 [.int .i64 f.Id, .int .i64 f.Day, .int .i64 f.Known, .int .i64 f.Body.Op, .int .i64 f.Body.N, .str f.Body.S, .str f.Body.Key, .vs 5 (encs_Expr f.Body.Args), .int .i64 f.Result, .vs 4 (List.map enc_Asked f.Asked)]), (1000000, .box 22 [.vs 5 (List.map enc_Fact a1)]), (1000001, .box 3 [.int .i64 a2])] (by kernel_rfl) ?_))
 refine ov_nil (nrm_thenV (v_seq ?_))
 obtain ⟨z1, hs, hk1⟩ := bind_some hs
 refine v_join (S := Bool) (fun u => u = z1) (fun u => [(4, .bool u)]) (fun u => [(1000000, .box 22 [.vs 5 (List.map enc_Fact a1)]), (1000001, .box 3 [.int .i64 a2])]) ?_ (fun v1 hz => ?_)
 ·refine v_draw mixedH (by kernel_rfl) ?_
  refine d_runs 1 0 [(5, .agg (enc_Formula f))] [⟨0, [], [3]⟩] (by kernel_rfl) (by kernel_rfl) ?_
  obtain ⟨y1, c1, hs⟩ := bind_some hs
  refine d_pure (v := .bool y1) 1 rfl rfl rfl rfl (by kernel_rfl) (by kernel_rfl) (loc_gcall0 (callV_func hbv9 (by kernel_rfl)) (w_reopen_Right f _ c1) (by kernel_rfl)) ?_
  refine d_runs 1 2 [(7, .bool y1)] (pfp 1 2) (by kernel_rfl) (by kernel_rfl) ?_
  cases h1 : (y1)
  ·replace hs := bif_f h1 hs
   refine d_runs 11 3 [(4, .bool false), (17, .bool false), (16, .no), (15, .no), (14, .no), (13, .no), (12, .no), (11, .no), (10, .no), (9, .no), (8, .no)] (pfp 11 13) (by kernel_rfl) (by kernel_rfl) ?_
   refine d_nil (by kernel_rfl) ?_
   obtain rfl := si hs
   refine nrm_join false rfl ?_
   exact cut_of [4] [1000000, 1000001] (by kernel_rfl) (by kernel_rfl) (by kernel_rfl)
  ·replace hs := bif_t h1 hs
   refine d_runs 4 3 [(11, .int .i64 a2), (10, .agg (enc_Formula f)), (9, .vs 5 (List.map enc_Fact a1)), (8, .agg (enc_Formula f))] [⟨6, [], [1000001]⟩, ⟨5, [], [3]⟩, ⟨4, [], [1000000]⟩, ⟨3, [], [3]⟩] (by kernel_rfl) (by kernel_rfl) ?_
   obtain ⟨y2, c2, hs⟩ := bind_some hs
   refine d_pure (v := .vs 4 (List.map enc_Asked y2)) 7 rfl rfl rfl rfl (by kernel_rfl) (by kernel_rfl) (loc_gcall0 (callV_func hbv14 (by kernel_rfl)) (w_reopen_Ask a1 f a2 _ c2) (by kernel_rfl)) ?_
   obtain ⟨y3, c3, hs⟩ := bind_some hs
   refine d_pure (v := .int .i64 y3) 8 rfl rfl rfl rfl (by kernel_rfl) (by kernel_rfl) (loc_gcall0 (callV_func hbv28 (by kernel_rfl)) (w_reopen_value f y2 _ c3) (by kernel_rfl)) ?_
   refine d_runs 5 9 [(4, .bool (!(decide (y3 = f.Result)))), (17, .bool (!(decide (y3 = f.Result)))), (16, .bool (!(decide (y3 = f.Result)))), (15, .int .i64 f.Result), (14, .ptr 3 0 8)] [⟨13, [], []⟩, ⟨12, [], []⟩, ⟨11, [], []⟩, ⟨10, [], [3]⟩, ⟨9, [], []⟩] (by kernel_rfl) (by kernel_rfl) ?_
   refine d_nil (by kernel_rfl) ?_
   obtain rfl := si hs
   refine nrm_join (!(decide (y3 = f.Result))) rfl ?_
   exact cut_of [4] [1000000, 1000001] (by kernel_rfl) (by kernel_rfl) (by kernel_rfl)
 ·subst hz; clear hs; have hs := hk1; clear hk1
  refine nrm_thenV (v_ret ?_)
  obtain rfl := si hs
  exact fin_ret (by kernel_rfl) (by kernel_rfl) (by kernel_rfl)
theorem w_reopen_which (l : (List Formula)) (c_1 : (List Fact)) (f : Int) (r : (List Int) × (List Fact) × Int) (hs : s_reopen_which l c_1 f = some r) : FnA Tryz.prog 40 [.vs 10 (List.map enc_Formula l), .fn 42 [] [.ptr 1000000 0 0, .ptr 1000001 0 0]] [(1000000, .box 22 [.vs 5 (List.map enc_Fact c_1)]), (1000001, .box 3 [.int .i64 f])] (.vs 1 (List.map EV.encI r.1)) [(1000000, .box 22 [.vs 5 (List.map enc_Fact r.2.1)]), (1000001, .box 3 [.int .i64 r.2.2])] := by
 refine fnA_of_wp (N := 24) Tryz.func40 rfl rfl rfl fun cK0 => ?_
 unfold s_reopen_which at hs
 refine v_same (ρ' := [(0, .vs 10 (List.map enc_Formula l)), (1, .fn 42 [] [.ptr 1000000 0 0, .ptr 1000001 0 0])]) rfl rfl ?_
 refine v_seq (vr_text (o_runs 1 [(4, .nils)] (by kernel_rfl) ?_))
 refine ov_nil (nrm_thenV (v_seq (vr_text (o_runs 1 [(5, .nils)] (by kernel_rfl) ?_))))
 refine ov_nil (nrm_thenV (v_seq (v_seq (vr_text (o_runs 1 [(8, .vs 10 (List.map enc_Formula l))] (by kernel_rfl) ?_)))))
 refine o_pure (v := .int .i64 (List.length l : Int)) (by kernel_rfl) (by kernel_rfl) (loc_lenVs (sz := 10) (els := (List.map enc_Formula l)) (by kernel_rfl) (by kernel_rfl) (List.length_map ..)) ?_
 refine o_runs 1 [(10, .int .i64 0)] (by kernel_rfl) ?_
 refine ov_nil (nrm_thenV ?_)
 obtain ⟨z1, hs, hk1⟩ := bind_some hs
 refine v_join (S := (List Fact) × Int × (List Int)) (fun u => u = z1) (fun u => [(5, .sl 1 2000018 ((u.2.2).length) 0 ((u.2.2).length))]) (fun u => [(1000000, .box 22 [.vs 5 (List.map enc_Fact u.1)]), (1000001, .box 3 [.int .i64 u.2.1]), (2000018, .row 3 1 0 (List.map EV.encI u.2.2))]) ?_ (fun v1 hz => ?_)
 ·refine v_block ?_
  refine v_fuel (S := Int × (List Fact) × Int × (List Int)) (fun u => [(1, .fn 42 [] [.ptr 1000000 0 0, .ptr 1000001 0 0]), (5, .sl 1 2000018 ((u.2.2.2).length) 0 ((u.2.2.2).length)), (8, .vs 10 (List.map enc_Formula l)), (9, .int .i64 (List.length l : Int)), (10, .int .i64 u.1)]) (fun u => [(1000000, .box 22 [.vs 5 (List.map enc_Fact u.2.1)]), (1000001, .box 3 [.int .i64 u.2.2.1]), (2000018, .row 3 1 0 (List.map EV.encI u.2.2.2))]) (s_reopen_which_L1 l) (fun _ => rfl) KK (0, c_1, f, []) hs (Cut.trans (cut_nilRow 5 2000018 3 1 rfl (by kernel_rfl) (by kernel_rfl)) (cut_of [1, 5, 8, 9, 10] [1000000, 1000001, 2000018] (by kernel_rfl) (by kernel_rfl) (by kernel_rfl))) (fun K1 q1 hs => ?_)
  rw [s_reopen_which_L1] at hs
  show WpV cK0 Tryz.prog none 24 _ _ [(1, .fn 42 [] [.ptr 1000000 0 0, .ptr 1000001 0 0]), (5, .sl 1 2000018 ((q1.2.2.2).length) 0 ((q1.2.2.2).length)), (8, .vs 10 (List.map enc_Formula l)), (9, .int .i64 (List.length l : Int)), (10, .int .i64 q1.1)] [(1000000, .box 22 [.vs 5 (List.map enc_Fact q1.2.1)]), (1000001, .box 3 [.int .i64 q1.2.2.1]), (2000018, .row 3 1 0 (List.map EV.encI q1.2.2.2))] []
  refine v_seq (vr_text (o_runs 1 [(11, .bool (decide (q1.1 < (List.length l : Int))))] (by kernel_rfl) ?_))
  refine ov_nil (nrm_thenV (v_seq ?_))
  refine v_cond (decide (q1.1 < (List.length l : Int))) (by kernel_rfl) (fun h1 => ?_) (fun h1 => ?_)
  ·replace hs := bif_t h1 hs
   refine v_skip (nrm_thenV (v_seq (v_block (v_seq (vr_text (o_runs 1 [(12, .int .i64 q1.1)] (by kernel_rfl) ?_))))))
   obtain ⟨x1, g1, hs⟩ := bind_some hs; obtain ⟨g1a, g1b, g1c⟩ := idx_some g1
   refine o_pure (v := .vp (enc_Formula x1) 0) (by kernel_rfl) (by kernel_rfl) (loc_indexVs (e := 31) (sz := 10) (k := .i64) (els := (List.map enc_Formula l)) (cs := (enc_Formula x1)) (by kernel_rfl) (by kernel_rfl) (by kernel_rfl) g1a (by rw [g1c]; exact map_get _ (by omega))) ?_
   refine o_runh 4 [(6, .int .i64 q1.1), (7, .ptr 7 0 0), (14, .agg (enc_Formula x1))] [(7, .box 31 [.int .i64 x1.Id, .int .i64 x1.Day, .int .i64 x1.Known, .int .i64 x1.Body.Op, .int .i64 x1.Body.N, .str x1.Body.S, .str x1.Body.Key, .vs 5 (encs_Expr x1.Body.Args), .int .i64 x1.Result, .vs 4 (List.map enc_Asked x1.Asked)]), (1000000, .box 22 [.vs 5 (List.map enc_Fact q1.2.1)]), (1000001, .box 3 [.int .i64 q1.2.2.1]), (2000018, .row 3 1 0 (List.map EV.encI q1.2.2.2))] (by kernel_rfl) ?_
   refine ov_nil (nrm_thenV (v_seq (vr_text (o_runs 2 [(16, .agg (enc_Formula x1)), (15, .fn 42 [] [.ptr 1000000 0 0, .ptr 1000001 0 0])] (by kernel_rfl) ?_))))
   obtain ⟨y1, c1, hs⟩ := bind_some hs
   refine o_loc (F := [(1000000, .box 22 [.vs 5 (List.map enc_Fact q1.2.1)]), (1000001, .box 3 [.int .i64 q1.2.2.1])]) (F' := [(1000000, .box 22 [.vs 5 (List.map enc_Fact y1.2.1)]), (1000001, .box 3 [.int .i64 y1.2.2])]) (v := .bool y1.1) [1000000, 1000001] (by kernel_rfl) (by kernel_rfl) rfl (by kernel_rfl) (loc_g (R := []) [.agg (enc_Formula x1), .ptr 1000000 0 0, .ptr 1000001 0 0] [(1000000, 1000000), (1000001, 1000001)] (callV_val (first := []) (caps := [.ptr 1000000 0 0, .ptr 1000001 0 0]) hbv42 (by kernel_rfl) (by kernel_rfl)) (w_reopen_Reopened_1 x1 q1.2.1 q1.2.2.1 _ c1) (.cons (.same _) (.cons (.same _) (.cons (.same _) (.nil)))) (by kernel_rfl) (by kernel_rfl) (by kernel_rfl) (by kernel_rfl) (by kernel_rfl) (by kernel_rfl) (by kernel_rfl) (by kernel_rfl)) (by kernel_rfl) ?_
   refine ov_nil (nrm_thenV ?_)
   obtain ⟨z2, hs, hk2⟩ := bind_some hs
   refine v_join (S := (List Int)) (fun u => u = z2) (fun u => [(1, .fn 42 [] [.ptr 1000000 0 0, .ptr 1000001 0 0]), (5, .sl 1 2000018 ((u).length) 0 ((u).length)), (8, .vs 10 (List.map enc_Formula l)), (9, .int .i64 (List.length l : Int)), (10, .int .i64 q1.1)]) (fun u => [(2000018, .row 3 1 0 (List.map EV.encI u)), (1000000, .box 22 [.vs 5 (List.map enc_Fact y1.2.1)]), (1000001, .box 3 [.int .i64 y1.2.2])]) ?_ (fun v2 hz => ?_)
   ·refine v_cond y1.1 (by kernel_rfl) (fun h2 => ?_) (fun h2 => ?_)
    ·replace hs := bif_t h2 hs
     refine vr_text (o_runh 3 [(20, .sl 1 20 1 0 1), (19, .int .i64 q1.1), (18, .sl 1 2000018 ((q1.2.2.2).length) 0 ((q1.2.2.2).length))] [(20, .row 3 1 0 (List.map EV.encI [q1.1])), (1000000, .box 22 [.vs 5 (List.map enc_Fact y1.2.1)]), (1000001, .box 3 [.int .i64 y1.2.2]), (7, .box 31 [.int .i64 x1.Id, .int .i64 x1.Day, .int .i64 x1.Known, .int .i64 x1.Body.Op, .int .i64 x1.Body.N, .str x1.Body.S, .str x1.Body.Key, .vs 5 (encs_Expr x1.Body.Args), .int .i64 x1.Result, .vs 4 (List.map enc_Asked x1.Asked)]), (2000018, .row 3 1 0 (List.map EV.encI q1.2.2.2))] (by kernel_rfl) ?_)
     obtain ⟨_, g2, hs⟩ := bind_some hs; replace g2 := grd_some g2
     refine o_loc (F := [(2000018, .row 3 1 0 (List.map EV.encI q1.2.2.2)), (20, .row 3 1 0 (List.map EV.encI [q1.1]))]) (F' := [(2000018, .row 3 1 0 (List.map EV.encI (q1.2.2.2 ++ [q1.1]))), (20, .row 3 1 0 (List.map EV.encI [q1.1]))]) (v := .sl 1 2000018 (((q1.2.2.2 ++ [q1.1])).length) 0 (((q1.2.2.2 ++ [q1.1])).length)) [2000018, 20] (by kernel_rfl) (by kernel_rfl) rfl (by kernel_rfl) (loc_appendT (e := 3) (sz := 1) (bytes := 8) (L := (q1.2.2.2).length) (els := (List.map EV.encI q1.2.2.2)) (ys := (List.map EV.encI [q1.1])) (by kernel_rfl) (by kernel_rfl) (by first | exact List.length_map .. | rfl) (.sl (t := 3) (fz := 0) (ys := (List.map EV.encI [q1.1])) (by kernel_rfl) (by kernel_rfl)) (map_ones EV.encI (fun _ => rfl) _) (map_lens EV.encI (fun _ => rfl) _) (by kernel_rfl) (by first | exact (List.map_append ..).symm | rfl | simp only [List.map_nil, List.nil_append]) (List.length_map ..) g2 (by omega)) (by kernel_rfl) ?_
     refine o_runs 1 [(5, .sl 1 2000018 (((q1.2.2.2 ++ [q1.1])).length) 0 (((q1.2.2.2 ++ [q1.1])).length))] (by kernel_rfl) ?_
     refine ov_nil ?_
     obtain rfl := si hs
     refine nrm_join (q1.2.2.2 ++ [q1.1]) rfl ?_
     exact cut_of [1, 5, 8, 9, 10] [2000018, 1000000, 1000001] (by kernel_rfl) (by kernel_rfl) (by kernel_rfl)
    ·replace hs := bif_f h2 hs
     refine v_skip ?_
     obtain rfl := si hs
     refine nrm_join q1.2.2.2 rfl ?_
     exact cut_of [1, 5, 8, 9, 10] [2000018, 1000000, 1000001] (by kernel_rfl) (by kernel_rfl) (by kernel_rfl)
   ·subst hz; clear hs; have hs := hk2; clear hk2
    refine nrm_blkV (nrm_thenV (vr_text (o_runs 2 [(10, .int .i64 (w64 (q1.1 + 1))), (22, .int .i64 (w64 (q1.1 + 1)))] (by kernel_rfl) ?_)))
    refine ov_nil (nrm_fuel ((w64 (q1.1 + 1)), y1.2.1, y1.2.2, v2) hs ?_)
    exact cut_of [1, 5, 8, 9, 10] [1000000, 1000001, 2000018] (by kernel_rfl) (by kernel_rfl) (by kernel_rfl)
  ·replace hs := bif_f h1 hs
   refine v_exit (exit_thenV (exit_fuel ?_))
   refine exit_blkV ?_
   obtain rfl := si hs
   refine nrm_join (q1.2.1, q1.2.2.1, q1.2.2.2) rfl ?_
   exact cut_of [5] [1000000, 1000001, 2000018] (by kernel_rfl) (by kernel_rfl) (by kernel_rfl)
 ·subst hz; clear hs; have hs := hk1; clear hk1
  refine nrm_thenV (v_seq (vr_text (o_runs 2 [(4, .sl 1 2000018 ((v1.2.2).length) 0 ((v1.2.2).length)), (23, .sl 1 2000018 ((v1.2.2).length) 0 ((v1.2.2).length))] (by kernel_rfl) ?_)))
  refine ov_nil (nrm_thenV (v_to _ [(2000018, .row 3 1 (((List.map EV.encI v1.2.2)).length) (List.map EV.encI v1.2.2)), (1000000, .box 22 [.vs 5 (List.map enc_Fact v1.1)]), (1000001, .box 3 [.int .i64 v1.2.1])] (cut_freeze (F := [(2000018, .row 3 1 0 (List.map EV.encI v1.2.2))]) [2000018] rfl (by kernel_rfl) (by kernel_rfl)) ?_))
  refine v_to ((4, .vs 1 (List.map EV.encI v1.2.2)) :: _) _ (cut_view (R := [(2000018, .row 3 1 (((List.map EV.encI v1.2.2)).length) (List.map EV.encI v1.2.2))]) (ks := [2000018]) (by kernel_rfl) (by kernel_rfl) (.row (t := 3) (fz := (((List.map EV.encI v1.2.2)).length)) (by kernel_rfl) (by first | (simp only [List.length_map, List.length_set]; done) | rfl))) ?_
  refine v_ret ?_
  obtain rfl := si hs
  exact fin_ret (by kernel_rfl) (by kernel_rfl) (by kernel_rfl)
theorem w_reopen_Reopened (base : (List Fact)) (l : (List Formula)) (known : Int) (r : (List Int)) (hs : s_reopen_Reopened base l known = some r) : FnA Tryz.prog 23 [.vs 5 (List.map enc_Fact base), .vs 10 (List.map enc_Formula l), .int .i64 known] [] (.vs 1 (List.map EV.encI r)) [] := by
 refine fnA_of_wp (N := 13) Tryz.func23 rfl rfl rfl fun cK0 => ?_
 unfold s_reopen_Reopened at hs
 refine v_same (ρ' := [(0, .vs 5 (List.map enc_Fact base)), (1, .vs 10 (List.map enc_Formula l)), (2, .int .i64 known)]) rfl rfl ?_
 refine v_seq (vr_text (o_runh 3 [(6, .nils), (5, .ptr 5 0 0), (3, .ptr 3 0 0)] [(5, .box 3 [.int .i64 known]), (3, .box 22 [.vs 5 (List.map enc_Fact base)])] (by kernel_rfl) ?_))
 refine ov_nil (nrm_thenV (v_seq (v_seq (vr_text (o_runs 1 [(7, .vs 5 (List.map enc_Fact base))] (by kernel_rfl) ?_)))))
 obtain ⟨y1, c1, hs⟩ := bind_some hs
 refine o_pure (v := .bool y1) (by kernel_rfl) (by kernel_rfl) (loc_gcall0 (callV_func hbv27 (by kernel_rfl)) (w_fact_Right base _ c1) (by kernel_rfl)) ?_
 refine o_runs 1 [(9, .bool (!y1))] (by kernel_rfl) ?_
 refine ov_nil (nrm_thenV ?_)
 refine v_cond (!y1) (by kernel_rfl) (fun h1 => ?_) (fun h1 => ?_)
 ·replace hs := bif_t h1 hs
  refine v_seq (vr_text (o_runs 1 [(6, .nils)] (by kernel_rfl) ?_))
  refine ov_nil (nrm_thenV (v_to ((6, .vs 1 (List.map EV.encI [])) :: _) _ (cut_view (R := []) (ks := []) (by kernel_rfl) (by kernel_rfl) (.nils 1)) ?_))
  refine v_ret (ret_thenV ?_)
  obtain rfl := si hs
  exact fin_ret (by kernel_rfl) (by kernel_rfl) (by kernel_rfl)
 ·replace hs := bif_f h1 hs
  refine v_skip (nrm_thenV (v_seq (vr_text (o_runs 2 [(11, .fn 42 [] [.ptr 3 0 0, .ptr 5 0 0]), (10, .vs 10 (List.map enc_Formula l))] (by kernel_rfl) ?_))))
  obtain ⟨y2, c2, hs⟩ := bind_some hs
  refine o_loc (F := [(3, .box 22 [.vs 5 (List.map enc_Fact base)]), (5, .box 3 [.int .i64 known])]) (F' := [(3, .box 22 [.vs 5 (List.map enc_Fact y2.2.1)]), (5, .box 3 [.int .i64 y2.2.2])]) (v := .vs 1 (List.map EV.encI y2.1)) [3, 5] (by kernel_rfl) (by kernel_rfl) rfl (by kernel_rfl) (loc_g (R := []) [.vs 10 (List.map enc_Formula l), .fn 42 [] [.ptr 3 0 0, .ptr 5 0 0]] [(1000000, 3), (1000001, 5)] (callV_func hbv40 (by kernel_rfl)) (w_reopen_which l base known _ c2) (.cons (.same _) (.cons (.same _) (.nil))) (by kernel_rfl) (by kernel_rfl) (by kernel_rfl) (by kernel_rfl) (by kernel_rfl) (by kernel_rfl) (by kernel_rfl) (by kernel_rfl)) (by kernel_rfl) ?_
  refine o_runs 1 [(6, .vs 1 (List.map EV.encI y2.1))] (by kernel_rfl) ?_
  refine ov_nil (nrm_thenV (v_ret ?_))
  obtain rfl := si hs
  exact fin_ret (by kernel_rfl) (by kernel_rfl) (by kernel_rfl)
theorem w_greenbeltref45_Ints (a : (List Int)) (b : (List Int)) (r : Bool) (hs : s_greenbeltref45_Ints a b = some r) : FnA Tryz.prog 20 [.vs 1 (List.map EV.encI a), .vs 1 (List.map EV.encI b)] [] (.bool r) [] := by
 refine fnA_of_wp (N := 26) Tryz.func20 rfl rfl rfl fun cK0 => ?_
 unfold s_greenbeltref45_Ints at hs
 refine v_same (ρ' := [(0, .vs 1 (List.map EV.encI a)), (1, .vs 1 (List.map EV.encI b))]) rfl rfl ?_
 refine v_seq (vr_text (o_runs 1 [(4, .bool false)] (by kernel_rfl) ?_))
 refine ov_nil (nrm_thenV (v_seq (v_seq (vr_text (o_runs 1 [(6, .vs 1 (List.map EV.encI a))] (by kernel_rfl) ?_)))))
 refine o_pure (v := .int .i64 (List.length a : Int)) (by kernel_rfl) (by kernel_rfl) (loc_lenVs (sz := 1) (els := (List.map EV.encI a)) (by kernel_rfl) (by kernel_rfl) (List.length_map ..)) ?_
 refine o_runs 1 [(8, .vs 1 (List.map EV.encI b))] (by kernel_rfl) ?_
 refine o_pure (v := .int .i64 (List.length b : Int)) (by kernel_rfl) (by kernel_rfl) (loc_lenVs (sz := 1) (els := (List.map EV.encI b)) (by kernel_rfl) (by kernel_rfl) (List.length_map ..)) ?_
 refine o_runs 1 [(10, .bool (!(decide ((List.length a : Int) = (List.length b : Int)))))] (by kernel_rfl) ?_
 refine ov_nil (nrm_thenV ?_)
 refine v_cond (!(decide ((List.length a : Int) = (List.length b : Int)))) (by kernel_rfl) (fun h1 => ?_) (fun h1 => ?_)
 ·replace hs := bif_t h1 hs
  refine v_seq (vr_text (o_runs 1 [(4, .bool false)] (by kernel_rfl) ?_))
  refine ov_nil (nrm_thenV (v_ret (ret_thenV ?_)))
  obtain rfl := si hs
  exact fin_ret (by kernel_rfl) (by kernel_rfl) (by kernel_rfl)
 ·replace hs := bif_f h1 hs
  refine v_skip (nrm_thenV (v_seq (v_seq (vr_text (o_runs 1 [(5, .int .i64 0)] (by kernel_rfl) ?_)))))
  refine ov_nil (nrm_thenV ?_)
  obtain ⟨z1, hs, hk1⟩ := bind_some hs
  refine v_join (S := Unit) (fun u => z1 = .inr u) (fun u => []) (fun u => []) ?_ (fun v1 hz => ?_)
  ·refine v_block ?_
   refine v_fuel (S := Int) (fun u => [(0, .vs 1 (List.map EV.encI a)), (1, .vs 1 (List.map EV.encI b)), (5, .int .i64 u)]) (fun u => []) (s_greenbeltref45_Ints_L1 a b) (fun _ => rfl) KK 0 hs (cut_of [0, 1, 5] [] (by kernel_rfl) (by kernel_rfl) (by kernel_rfl)) (fun K1 q1 hs => ?_)
   rw [s_greenbeltref45_Ints_L1] at hs
   show WpV cK0 Tryz.prog none 26 _ _ [(0, .vs 1 (List.map EV.encI a)), (1, .vs 1 (List.map EV.encI b)), (5, .int .i64 q1)] [] []
   refine v_seq (v_seq (vr_text (o_runs 2 [(12, .vs 1 (List.map EV.encI a)), (11, .int .i64 q1)] (by kernel_rfl) ?_)))
   refine o_pure (v := .int .i64 (List.length a : Int)) (by kernel_rfl) (by kernel_rfl) (loc_lenVs (sz := 1) (els := (List.map EV.encI a)) (by kernel_rfl) (by kernel_rfl) (List.length_map ..)) ?_
   refine o_runs 1 [(14, .bool (decide (q1 < (List.length a : Int))))] (by kernel_rfl) ?_
   refine ov_nil (nrm_thenV ?_)
   refine v_cond (decide (q1 < (List.length a : Int))) (by kernel_rfl) (fun h2 => ?_) (fun h2 => ?_)
   ·replace hs := bif_t h2 hs
    refine v_skip (nrm_thenV (v_seq (v_block (v_seq (v_draw mixedH (by kernel_rfl) ?_)))))
    refine d_runs 2 0 [(18, .int .i64 q1), (17, .vs 1 (List.map EV.encI a))] (pfp 2 1) (by kernel_rfl) (by kernel_rfl) ?_
    obtain ⟨x1, g1, hs⟩ := bind_some hs; obtain ⟨g1a, g1b, g1c⟩ := idx_some g1
    refine d_pure (v := .vp [.int .i64 x1] 0) 2 rfl rfl rfl rfl (by kernel_rfl) (by kernel_rfl) (loc_indexVs (e := 3) (sz := 1) (k := .i64) (els := (List.map EV.encI a)) (cs := (EV.encI x1)) (by kernel_rfl) (by kernel_rfl) (by kernel_rfl) g1a (by rw [g1c]; exact map_get _ (by omega))) ?_
    refine d_runs 3 3 [(22, .int .i64 q1), (21, .vs 1 (List.map EV.encI b)), (20, .int .i64 x1)] (pfp 3 5) (by kernel_rfl) (by kernel_rfl) ?_
    obtain ⟨x2, g2, hs⟩ := bind_some hs; obtain ⟨g2a, g2b, g2c⟩ := idx_some g2
    refine d_pure (v := .vp [.int .i64 x2] 0) 6 rfl rfl rfl rfl (by kernel_rfl) (by kernel_rfl) (loc_indexVs (e := 3) (sz := 1) (k := .i64) (els := (List.map EV.encI b)) (cs := (EV.encI x2)) (by kernel_rfl) (by kernel_rfl) (by kernel_rfl) g2a (by rw [g2c]; exact map_get _ (by omega))) ?_
    refine d_runs 2 7 [(25, .bool (!(decide (x1 = x2)))), (24, .int .i64 x2)] (pfp 2 8) (by kernel_rfl) (by kernel_rfl) ?_
    refine d_nil (by kernel_rfl) ?_
    refine nrm_thenV ?_
    refine v_cond (!(decide (x1 = x2))) (by kernel_rfl) (fun h3 => ?_) (fun h3 => ?_)
    ·replace hs := bif_t h3 hs
     refine v_seq (vr_text (o_runs 1 [(4, .bool false)] (by kernel_rfl) ?_))
     refine ov_nil (nrm_thenV (v_ret (ret_blkV (ret_thenV (ret_fuel ?_)))))
     refine ret_blkV (ret_join ?_)
     refine ret_thenV ?_
     obtain rfl := si hs
     replace hs := hk1
     obtain rfl := si hs
     exact fin_ret (by kernel_rfl) (by kernel_rfl) (by kernel_rfl)
    ·replace hs := bif_f h3 hs
     refine v_skip (nrm_blkV (nrm_thenV (vr_text (o_runs 3 [(5, .int .i64 (w64 (q1 + 1))), (16, .int .i64 (w64 (q1 + 1))), (15, .int .i64 q1)] (by kernel_rfl) ?_))))
     refine ov_nil (nrm_fuel (w64 (q1 + 1)) hs ?_)
     exact cut_of [0, 1, 5] [] (by kernel_rfl) (by kernel_rfl) (by kernel_rfl)
   ·replace hs := bif_f h2 hs
    refine v_exit (exit_thenV (exit_fuel ?_))
    refine exit_blkV ?_
    obtain rfl := si hs
    refine nrm_join () rfl ?_
    exact cut_of [] [] (by kernel_rfl) (by kernel_rfl) (by kernel_rfl)
  ·subst hz; clear hs; have hs := hk1; clear hk1
   refine nrm_thenV (v_seq (vr_text (o_runs 1 [(4, .bool true)] (by kernel_rfl) ?_)))
   refine ov_nil (nrm_thenV (v_ret ?_))
   obtain rfl := si hs
   exact fin_ret (by kernel_rfl) (by kernel_rfl) (by kernel_rfl)
theorem w_reopen_Stale (base : (List Fact)) (f : Formula) (known : Int) (r : (List (List UInt8))) (hs : s_reopen_Stale base f known = some r) : FnA Tryz.prog 17 [.vs 5 (List.map enc_Fact base), .agg (enc_Formula f), .int .i64 known] [] (.vs 1 (List.map EV.encS r)) [] := by
 refine fnA_of_wp (N := 33) Tryz.func17 rfl rfl rfl fun cK0 => ?_
 unfold s_reopen_Stale at hs
 refine v_same (ρ' := [(0, .vs 5 (List.map enc_Fact base)), (1, .agg (enc_Formula f)), (2, .int .i64 known)]) rfl rfl ?_
 refine v_seq (vr_text (o_runh 2 [(6, .nils), (4, .ptr 4 0 0)] [(4, .box 31 [.int .i64 f.Id, .int .i64 f.Day, .int .i64 f.Known, .int .i64 f.Body.Op, .int .i64 f.Body.N, .str f.Body.S, .str f.Body.Key, .vs 5 (encs_Expr f.Body.Args), .int .i64 f.Result, .vs 4 (List.map enc_Asked f.Asked)])] (by kernel_rfl) ?_))
 refine ov_nil (nrm_thenV (v_seq (vr_text (o_runs 1 [(7, .nils)] (by kernel_rfl) ?_))))
 refine ov_nil (nrm_thenV (v_seq (v_seq (vr_text (o_runs 2 [(11, .vs 4 (List.map enc_Asked f.Asked)), (10, .ptr 4 0 9)] (by kernel_rfl) ?_)))))
 refine o_pure (v := .int .i64 (List.length f.Asked : Int)) (by kernel_rfl) (by kernel_rfl) (loc_lenVs (sz := 4) (els := (List.map enc_Asked f.Asked)) (by kernel_rfl) (by kernel_rfl) (List.length_map ..)) ?_
 refine o_runs 1 [(13, .int .i64 0)] (by kernel_rfl) ?_
 refine ov_nil (nrm_thenV ?_)
 obtain ⟨z1, hs, hk1⟩ := bind_some hs
 refine v_join (S := (List (List UInt8))) (fun u => u = z1) (fun u => [(7, .sl 1 2000026 ((u).length) 0 ((u).length))]) (fun u => [(2000026, .row 9 1 0 (List.map EV.encS u))]) ?_ (fun v1 hz => ?_)
 ·refine v_block ?_
  refine v_fuel (S := Int × (List (List UInt8))) (fun u => [(0, .vs 5 (List.map enc_Fact base)), (2, .int .i64 known), (7, .sl 1 2000026 ((u.2).length) 0 ((u.2).length)), (11, .vs 4 (List.map enc_Asked f.Asked)), (12, .int .i64 (List.length f.Asked : Int)), (13, .int .i64 u.1)]) (fun u => [(2000026, .row 9 1 0 (List.map EV.encS u.2))]) (s_reopen_Stale_L1 base f known) (fun _ => rfl) KK (0, []) hs (Cut.trans (cut_nilRow 7 2000026 9 1 rfl (by kernel_rfl) (by kernel_rfl)) (cut_of [0, 2, 7, 11, 12, 13] [2000026] (by kernel_rfl) (by kernel_rfl) (by kernel_rfl))) (fun K1 q1 hs => ?_)
  rw [s_reopen_Stale_L1] at hs
  show WpV cK0 Tryz.prog none 33 _ _ [(0, .vs 5 (List.map enc_Fact base)), (2, .int .i64 known), (7, .sl 1 2000026 ((q1.2).length) 0 ((q1.2).length)), (11, .vs 4 (List.map enc_Asked f.Asked)), (12, .int .i64 (List.length f.Asked : Int)), (13, .int .i64 q1.1)] [(2000026, .row 9 1 0 (List.map EV.encS q1.2))] []
  refine v_seq (vr_text (o_runs 1 [(14, .bool (decide (q1.1 < (List.length f.Asked : Int))))] (by kernel_rfl) ?_))
  refine ov_nil (nrm_thenV (v_seq ?_))
  refine v_cond (decide (q1.1 < (List.length f.Asked : Int))) (by kernel_rfl) (fun h1 => ?_) (fun h1 => ?_)
  ·replace hs := bif_t h1 hs
   refine v_skip (nrm_thenV (v_seq (v_block (v_seq (vr_text ?_)))))
   obtain ⟨x1, g1, hs⟩ := bind_some hs; obtain ⟨g1a, g1b, g1c⟩ := idx_some g1
   refine o_pure (v := .vp (enc_Asked x1) 0) (by kernel_rfl) (by kernel_rfl) (loc_indexVs (e := 52) (sz := 4) (k := .i64) (els := (List.map enc_Asked f.Asked)) (cs := (enc_Asked x1)) (by kernel_rfl) (by kernel_rfl) (by kernel_rfl) g1a (by rw [g1c]; exact map_get _ (by omega))) ?_
   refine o_runh 3 [(9, .ptr 9 0 0), (16, .agg (enc_Asked x1))] [(9, .box 52 [.str x1.Key, .int .i64 x1.Day, .int .i64 x1.Value, .bool x1.There]), (2000026, .row 9 1 0 (List.map EV.encS q1.2))] (by kernel_rfl) ?_
   refine ov_nil (nrm_thenV (v_seq (v_draw mixedH (by kernel_rfl) ?_)))
   refine d_runs 6 0 [(22, .int .i64 known), (21, .int .i64 x1.Day), (20, .ptr 9 0 1), (19, .str x1.Key), (18, .ptr 9 0 0), (17, .vs 5 (List.map enc_Fact base))] [⟨5, [], []⟩, ⟨4, [], [9]⟩, ⟨3, [], []⟩, ⟨2, [], [9]⟩, ⟨1, [], []⟩, ⟨0, [], []⟩] (by kernel_rfl) (by kernel_rfl) ?_
   obtain ⟨y1, c1, hs⟩ := bind_some hs
   refine d_pure (v := .agg (enc_Asked y1)) 6 rfl rfl rfl rfl (by kernel_rfl) (by kernel_rfl) (loc_gcall0 (callV_func hbv34 (by kernel_rfl)) (w_reopen_look base x1.Key x1.Day known _ c1) (by kernel_rfl)) ?_
   refine d_runs 2 7 [(25, .bool (!(decide (y1.Key = x1.Key) && (decide (y1.Day = x1.Day) && (decide (y1.Value = x1.Value) && ((y1.There == x1.There))))))), (24, .agg (enc_Asked x1))] [⟨8, [], []⟩, ⟨7, [], [9]⟩] (by kernel_rfl) (by kernel_rfl) ?_
   refine d_nil (by kernel_rfl) ?_
   refine nrm_thenV ?_
   obtain ⟨z2, hs, hk2⟩ := bind_some hs
   refine v_join (S := (List (List UInt8))) (fun u => u = z2) (fun u => [(0, .vs 5 (List.map enc_Fact base)), (2, .int .i64 known), (7, .sl 1 2000026 ((u).length) 0 ((u).length)), (11, .vs 4 (List.map enc_Asked f.Asked)), (12, .int .i64 (List.length f.Asked : Int)), (13, .int .i64 q1.1)]) (fun u => [(2000026, .row 9 1 0 (List.map EV.encS u))]) ?_ (fun v2 hz => ?_)
   ·refine v_cond (!(decide (y1.Key = x1.Key) && (decide (y1.Day = x1.Day) && (decide (y1.Value = x1.Value) && ((y1.There == x1.There)))))) (by kernel_rfl) (fun h2 => ?_) (fun h2 => ?_)
    ·replace hs := bif_t h2 hs
     refine vr_text (o_runh 4 [(29, .sl 1 29 1 0 1), (28, .str x1.Key), (27, .ptr 9 0 0), (26, .sl 1 2000026 ((q1.2).length) 0 ((q1.2).length))] [(29, .row 9 1 0 (List.map EV.encS [x1.Key])), (9, .box 52 [.str x1.Key, .int .i64 x1.Day, .int .i64 x1.Value, .bool x1.There]), (2000026, .row 9 1 0 (List.map EV.encS q1.2))] (by kernel_rfl) ?_)
     obtain ⟨_, g2, hs⟩ := bind_some hs; replace g2 := grd_some g2
     refine o_loc (F := [(2000026, .row 9 1 0 (List.map EV.encS q1.2)), (29, .row 9 1 0 (List.map EV.encS [x1.Key]))]) (F' := [(2000026, .row 9 1 0 (List.map EV.encS (q1.2 ++ [x1.Key]))), (29, .row 9 1 0 (List.map EV.encS [x1.Key]))]) (v := .sl 1 2000026 (((q1.2 ++ [x1.Key])).length) 0 (((q1.2 ++ [x1.Key])).length)) [2000026, 29] (by kernel_rfl) (by kernel_rfl) rfl (by kernel_rfl) (loc_appendT (e := 9) (sz := 1) (bytes := 16) (L := (q1.2).length) (els := (List.map EV.encS q1.2)) (ys := (List.map EV.encS [x1.Key])) (by kernel_rfl) (by kernel_rfl) (by first | exact List.length_map .. | rfl) (.sl (t := 9) (fz := 0) (ys := (List.map EV.encS [x1.Key])) (by kernel_rfl) (by kernel_rfl)) (map_ones EV.encS (fun _ => rfl) _) (map_lens EV.encS (fun _ => rfl) _) (by kernel_rfl) (by first | exact (List.map_append ..).symm | rfl | simp only [List.map_nil, List.nil_append]) (List.length_map ..) g2 (by omega)) (by kernel_rfl) ?_
     refine o_runs 1 [(7, .sl 1 2000026 (((q1.2 ++ [x1.Key])).length) 0 (((q1.2 ++ [x1.Key])).length))] (by kernel_rfl) ?_
     refine ov_nil ?_
     obtain rfl := si hs
     refine nrm_join (q1.2 ++ [x1.Key]) rfl ?_
     exact cut_of [0, 2, 7, 11, 12, 13] [2000026] (by kernel_rfl) (by kernel_rfl) (by kernel_rfl)
    ·replace hs := bif_f h2 hs
     refine v_skip ?_
     obtain rfl := si hs
     refine nrm_join q1.2 rfl ?_
     exact cut_of [0, 2, 7, 11, 12, 13] [2000026] (by kernel_rfl) (by kernel_rfl) (by kernel_rfl)
   ·subst hz; clear hs; have hs := hk2; clear hk2
    refine nrm_blkV (nrm_thenV (vr_text (o_runs 2 [(13, .int .i64 (w64 (q1.1 + 1))), (31, .int .i64 (w64 (q1.1 + 1)))] (by kernel_rfl) ?_)))
    refine ov_nil (nrm_fuel ((w64 (q1.1 + 1)), v2) hs ?_)
    exact cut_of [0, 2, 7, 11, 12, 13] [2000026] (by kernel_rfl) (by kernel_rfl) (by kernel_rfl)
  ·replace hs := bif_f h1 hs
   refine v_exit (exit_thenV (exit_fuel ?_))
   refine exit_blkV ?_
   obtain rfl := si hs
   refine nrm_join q1.2 rfl ?_
   exact cut_of [7] [2000026] (by kernel_rfl) (by kernel_rfl) (by kernel_rfl)
 ·subst hz; clear hs; have hs := hk1; clear hk1
  refine nrm_thenV (v_seq (vr_text (o_runs 2 [(6, .sl 1 2000026 ((v1).length) 0 ((v1).length)), (32, .sl 1 2000026 ((v1).length) 0 ((v1).length))] (by kernel_rfl) ?_)))
  refine ov_nil (nrm_thenV (v_to _ [(2000026, .row 9 1 (((List.map EV.encS v1)).length) (List.map EV.encS v1))] (cut_freeze (F := [(2000026, .row 9 1 0 (List.map EV.encS v1))]) [2000026] rfl (by kernel_rfl) (by kernel_rfl)) ?_))
  refine v_to ((6, .vs 1 (List.map EV.encS v1)) :: _) _ (cut_view (R := [(2000026, .row 9 1 (((List.map EV.encS v1)).length) (List.map EV.encS v1))]) (ks := [2000026]) (by kernel_rfl) (by kernel_rfl) (.row (t := 9) (fz := (((List.map EV.encS v1)).length)) (by kernel_rfl) (by first | (simp only [List.length_map, List.length_set]; done) | rfl))) ?_
  refine v_ret ?_
  obtain rfl := si hs
  exact fin_ret (by kernel_rfl) (by kernel_rfl) (by kernel_rfl)
theorem w_reopen_Touched_1 (f : Formula) (a1 : (List Fact)) (a2 : Int) (r : Bool × (List Fact) × Int) (hs : s_reopen_Touched_1 f a1 a2 = some r) : FnA Tryz.prog 41 [.agg (enc_Formula f), .ptr 1000000 0 0, .ptr 1000001 0 0] [(1000000, .box 22 [.vs 5 (List.map enc_Fact a1)]), (1000001, .box 3 [.int .i64 a2])] (.bool r.1) [(1000000, .box 22 [.vs 5 (List.map enc_Fact r.2.1)]), (1000001, .box 3 [.int .i64 r.2.2])] := by
 refine fnA_of_wp (N := 11) Tryz.func41 rfl rfl rfl fun cK0 => ?_
 unfold s_reopen_Touched_1 at hs
 refine v_same (ρ' := [(0, .agg (enc_Formula f)), (1, .ptr 1000000 0 0), (2, .ptr 1000001 0 0)]) rfl rfl ?_
 refine v_seq (vr_text (o_runh 2 [(4, .bool false), (3, .ptr 3 0 0)] [(3, .box 31 [.int .i64 f.Id, .int .i64 f.Day, .int .i64 f.Known, .int .i64 f.Body.Op, .int .i64 f.Body.N, .str f.Body.S, .str f.Body.Key, .vs 5 (encs_Expr f.Body.Args), .int .i64 f.Result, .vs 4 (List.map enc_Asked f.Asked)]), (1000000, .box 22 [.vs 5 (List.map enc_Fact a1)]), (1000001, .box 3 [.int .i64 a2])] (by kernel_rfl) ?_))
 refine ov_nil (nrm_thenV (v_seq (vr_text (o_runs 3 [(7, .int .i64 a2), (6, .agg (enc_Formula f)), (5, .vs 5 (List.map enc_Fact a1))] (by kernel_rfl) ?_))))
 obtain ⟨y1, c1, hs⟩ := bind_some hs
 refine o_pure (v := .vs 1 (List.map EV.encS y1)) (by kernel_rfl) (by kernel_rfl) (loc_gcall0 (callV_func hbv17 (by kernel_rfl)) (w_reopen_Stale a1 f a2 _ c1) (by kernel_rfl)) ?_
 refine o_pure (v := .int .i64 (List.length y1 : Int)) (by kernel_rfl) (by kernel_rfl) (loc_lenVs (sz := 1) (els := (List.map EV.encS y1)) (by kernel_rfl) (by kernel_rfl) (List.length_map ..)) ?_
 refine o_runs 2 [(4, .bool (decide ((List.length y1 : Int) > 0))), (10, .bool (decide ((List.length y1 : Int) > 0)))] (by kernel_rfl) ?_
 refine ov_nil (nrm_thenV (v_ret ?_))
 obtain rfl := si hs
 exact fin_ret (by kernel_rfl) (by kernel_rfl) (by kernel_rfl)
theorem w_reopen_which_2 (l : (List Formula)) (c_1 : (List Fact)) (f : Int) (r : (List Int) × (List Fact) × Int) (hs : s_reopen_which_2 l c_1 f = some r) : FnA Tryz.prog 40 [.vs 10 (List.map enc_Formula l), .fn 41 [] [.ptr 1000000 0 0, .ptr 1000001 0 0]] [(1000000, .box 22 [.vs 5 (List.map enc_Fact c_1)]), (1000001, .box 3 [.int .i64 f])] (.vs 1 (List.map EV.encI r.1)) [(1000000, .box 22 [.vs 5 (List.map enc_Fact r.2.1)]), (1000001, .box 3 [.int .i64 r.2.2])] := by
 refine fnA_of_wp (N := 24) Tryz.func40 rfl rfl rfl fun cK0 => ?_
 unfold s_reopen_which_2 at hs
 refine v_same (ρ' := [(0, .vs 10 (List.map enc_Formula l)), (1, .fn 41 [] [.ptr 1000000 0 0, .ptr 1000001 0 0])]) rfl rfl ?_
 refine v_seq (vr_text (o_runs 1 [(4, .nils)] (by kernel_rfl) ?_))
 refine ov_nil (nrm_thenV (v_seq (vr_text (o_runs 1 [(5, .nils)] (by kernel_rfl) ?_))))
 refine ov_nil (nrm_thenV (v_seq (v_seq (vr_text (o_runs 1 [(8, .vs 10 (List.map enc_Formula l))] (by kernel_rfl) ?_)))))
 refine o_pure (v := .int .i64 (List.length l : Int)) (by kernel_rfl) (by kernel_rfl) (loc_lenVs (sz := 10) (els := (List.map enc_Formula l)) (by kernel_rfl) (by kernel_rfl) (List.length_map ..)) ?_
 refine o_runs 1 [(10, .int .i64 0)] (by kernel_rfl) ?_
 refine ov_nil (nrm_thenV ?_)
 obtain ⟨z1, hs, hk1⟩ := bind_some hs
 refine v_join (S := (List Fact) × Int × (List Int)) (fun u => u = z1) (fun u => [(5, .sl 1 2000018 ((u.2.2).length) 0 ((u.2.2).length))]) (fun u => [(1000000, .box 22 [.vs 5 (List.map enc_Fact u.1)]), (1000001, .box 3 [.int .i64 u.2.1]), (2000018, .row 3 1 0 (List.map EV.encI u.2.2))]) ?_ (fun v1 hz => ?_)
 ·refine v_block ?_
  refine v_fuel (S := Int × (List Fact) × Int × (List Int)) (fun u => [(1, .fn 41 [] [.ptr 1000000 0 0, .ptr 1000001 0 0]), (5, .sl 1 2000018 ((u.2.2.2).length) 0 ((u.2.2.2).length)), (8, .vs 10 (List.map enc_Formula l)), (9, .int .i64 (List.length l : Int)), (10, .int .i64 u.1)]) (fun u => [(1000000, .box 22 [.vs 5 (List.map enc_Fact u.2.1)]), (1000001, .box 3 [.int .i64 u.2.2.1]), (2000018, .row 3 1 0 (List.map EV.encI u.2.2.2))]) (s_reopen_which_2_L1 l) (fun _ => rfl) KK (0, c_1, f, []) hs (Cut.trans (cut_nilRow 5 2000018 3 1 rfl (by kernel_rfl) (by kernel_rfl)) (cut_of [1, 5, 8, 9, 10] [1000000, 1000001, 2000018] (by kernel_rfl) (by kernel_rfl) (by kernel_rfl))) (fun K1 q1 hs => ?_)
  rw [s_reopen_which_2_L1] at hs
  show WpV cK0 Tryz.prog none 24 _ _ [(1, .fn 41 [] [.ptr 1000000 0 0, .ptr 1000001 0 0]), (5, .sl 1 2000018 ((q1.2.2.2).length) 0 ((q1.2.2.2).length)), (8, .vs 10 (List.map enc_Formula l)), (9, .int .i64 (List.length l : Int)), (10, .int .i64 q1.1)] [(1000000, .box 22 [.vs 5 (List.map enc_Fact q1.2.1)]), (1000001, .box 3 [.int .i64 q1.2.2.1]), (2000018, .row 3 1 0 (List.map EV.encI q1.2.2.2))] []
  refine v_seq (vr_text (o_runs 1 [(11, .bool (decide (q1.1 < (List.length l : Int))))] (by kernel_rfl) ?_))
  refine ov_nil (nrm_thenV (v_seq ?_))
  refine v_cond (decide (q1.1 < (List.length l : Int))) (by kernel_rfl) (fun h1 => ?_) (fun h1 => ?_)
  ·replace hs := bif_t h1 hs
   refine v_skip (nrm_thenV (v_seq (v_block (v_seq (vr_text (o_runs 1 [(12, .int .i64 q1.1)] (by kernel_rfl) ?_))))))
   obtain ⟨x1, g1, hs⟩ := bind_some hs; obtain ⟨g1a, g1b, g1c⟩ := idx_some g1
   refine o_pure (v := .vp (enc_Formula x1) 0) (by kernel_rfl) (by kernel_rfl) (loc_indexVs (e := 31) (sz := 10) (k := .i64) (els := (List.map enc_Formula l)) (cs := (enc_Formula x1)) (by kernel_rfl) (by kernel_rfl) (by kernel_rfl) g1a (by rw [g1c]; exact map_get _ (by omega))) ?_
   refine o_runh 4 [(6, .int .i64 q1.1), (7, .ptr 7 0 0), (14, .agg (enc_Formula x1))] [(7, .box 31 [.int .i64 x1.Id, .int .i64 x1.Day, .int .i64 x1.Known, .int .i64 x1.Body.Op, .int .i64 x1.Body.N, .str x1.Body.S, .str x1.Body.Key, .vs 5 (encs_Expr x1.Body.Args), .int .i64 x1.Result, .vs 4 (List.map enc_Asked x1.Asked)]), (1000000, .box 22 [.vs 5 (List.map enc_Fact q1.2.1)]), (1000001, .box 3 [.int .i64 q1.2.2.1]), (2000018, .row 3 1 0 (List.map EV.encI q1.2.2.2))] (by kernel_rfl) ?_
   refine ov_nil (nrm_thenV (v_seq (vr_text (o_runs 2 [(16, .agg (enc_Formula x1)), (15, .fn 41 [] [.ptr 1000000 0 0, .ptr 1000001 0 0])] (by kernel_rfl) ?_))))
   obtain ⟨y1, c1, hs⟩ := bind_some hs
   refine o_loc (F := [(1000000, .box 22 [.vs 5 (List.map enc_Fact q1.2.1)]), (1000001, .box 3 [.int .i64 q1.2.2.1])]) (F' := [(1000000, .box 22 [.vs 5 (List.map enc_Fact y1.2.1)]), (1000001, .box 3 [.int .i64 y1.2.2])]) (v := .bool y1.1) [1000000, 1000001] (by kernel_rfl) (by kernel_rfl) rfl (by kernel_rfl) (loc_g (R := []) [.agg (enc_Formula x1), .ptr 1000000 0 0, .ptr 1000001 0 0] [(1000000, 1000000), (1000001, 1000001)] (callV_val (first := []) (caps := [.ptr 1000000 0 0, .ptr 1000001 0 0]) hbv41 (by kernel_rfl) (by kernel_rfl)) (w_reopen_Touched_1 x1 q1.2.1 q1.2.2.1 _ c1) (.cons (.same _) (.cons (.same _) (.cons (.same _) (.nil)))) (by kernel_rfl) (by kernel_rfl) (by kernel_rfl) (by kernel_rfl) (by kernel_rfl) (by kernel_rfl) (by kernel_rfl) (by kernel_rfl)) (by kernel_rfl) ?_
   refine ov_nil (nrm_thenV ?_)
   obtain ⟨z2, hs, hk2⟩ := bind_some hs
   refine v_join (S := (List Int)) (fun u => u = z2) (fun u => [(1, .fn 41 [] [.ptr 1000000 0 0, .ptr 1000001 0 0]), (5, .sl 1 2000018 ((u).length) 0 ((u).length)), (8, .vs 10 (List.map enc_Formula l)), (9, .int .i64 (List.length l : Int)), (10, .int .i64 q1.1)]) (fun u => [(2000018, .row 3 1 0 (List.map EV.encI u)), (1000000, .box 22 [.vs 5 (List.map enc_Fact y1.2.1)]), (1000001, .box 3 [.int .i64 y1.2.2])]) ?_ (fun v2 hz => ?_)
   ·refine v_cond y1.1 (by kernel_rfl) (fun h2 => ?_) (fun h2 => ?_)
    ·replace hs := bif_t h2 hs
     refine vr_text (o_runh 3 [(20, .sl 1 20 1 0 1), (19, .int .i64 q1.1), (18, .sl 1 2000018 ((q1.2.2.2).length) 0 ((q1.2.2.2).length))] [(20, .row 3 1 0 (List.map EV.encI [q1.1])), (1000000, .box 22 [.vs 5 (List.map enc_Fact y1.2.1)]), (1000001, .box 3 [.int .i64 y1.2.2]), (7, .box 31 [.int .i64 x1.Id, .int .i64 x1.Day, .int .i64 x1.Known, .int .i64 x1.Body.Op, .int .i64 x1.Body.N, .str x1.Body.S, .str x1.Body.Key, .vs 5 (encs_Expr x1.Body.Args), .int .i64 x1.Result, .vs 4 (List.map enc_Asked x1.Asked)]), (2000018, .row 3 1 0 (List.map EV.encI q1.2.2.2))] (by kernel_rfl) ?_)
     obtain ⟨_, g2, hs⟩ := bind_some hs; replace g2 := grd_some g2
     refine o_loc (F := [(2000018, .row 3 1 0 (List.map EV.encI q1.2.2.2)), (20, .row 3 1 0 (List.map EV.encI [q1.1]))]) (F' := [(2000018, .row 3 1 0 (List.map EV.encI (q1.2.2.2 ++ [q1.1]))), (20, .row 3 1 0 (List.map EV.encI [q1.1]))]) (v := .sl 1 2000018 (((q1.2.2.2 ++ [q1.1])).length) 0 (((q1.2.2.2 ++ [q1.1])).length)) [2000018, 20] (by kernel_rfl) (by kernel_rfl) rfl (by kernel_rfl) (loc_appendT (e := 3) (sz := 1) (bytes := 8) (L := (q1.2.2.2).length) (els := (List.map EV.encI q1.2.2.2)) (ys := (List.map EV.encI [q1.1])) (by kernel_rfl) (by kernel_rfl) (by first | exact List.length_map .. | rfl) (.sl (t := 3) (fz := 0) (ys := (List.map EV.encI [q1.1])) (by kernel_rfl) (by kernel_rfl)) (map_ones EV.encI (fun _ => rfl) _) (map_lens EV.encI (fun _ => rfl) _) (by kernel_rfl) (by first | exact (List.map_append ..).symm | rfl | simp only [List.map_nil, List.nil_append]) (List.length_map ..) g2 (by omega)) (by kernel_rfl) ?_
     refine o_runs 1 [(5, .sl 1 2000018 (((q1.2.2.2 ++ [q1.1])).length) 0 (((q1.2.2.2 ++ [q1.1])).length))] (by kernel_rfl) ?_
     refine ov_nil ?_
     obtain rfl := si hs
     refine nrm_join (q1.2.2.2 ++ [q1.1]) rfl ?_
     exact cut_of [1, 5, 8, 9, 10] [2000018, 1000000, 1000001] (by kernel_rfl) (by kernel_rfl) (by kernel_rfl)
    ·replace hs := bif_f h2 hs
     refine v_skip ?_
     obtain rfl := si hs
     refine nrm_join q1.2.2.2 rfl ?_
     exact cut_of [1, 5, 8, 9, 10] [2000018, 1000000, 1000001] (by kernel_rfl) (by kernel_rfl) (by kernel_rfl)
   ·subst hz; clear hs; have hs := hk2; clear hk2
    refine nrm_blkV (nrm_thenV (vr_text (o_runs 2 [(10, .int .i64 (w64 (q1.1 + 1))), (22, .int .i64 (w64 (q1.1 + 1)))] (by kernel_rfl) ?_)))
    refine ov_nil (nrm_fuel ((w64 (q1.1 + 1)), y1.2.1, y1.2.2, v2) hs ?_)
    exact cut_of [1, 5, 8, 9, 10] [1000000, 1000001, 2000018] (by kernel_rfl) (by kernel_rfl) (by kernel_rfl)
  ·replace hs := bif_f h1 hs
   refine v_exit (exit_thenV (exit_fuel ?_))
   refine exit_blkV ?_
   obtain rfl := si hs
   refine nrm_join (q1.2.1, q1.2.2.1, q1.2.2.2) rfl ?_
   exact cut_of [5] [1000000, 1000001, 2000018] (by kernel_rfl) (by kernel_rfl) (by kernel_rfl)
 ·subst hz; clear hs; have hs := hk1; clear hk1
  refine nrm_thenV (v_seq (vr_text (o_runs 2 [(4, .sl 1 2000018 ((v1.2.2).length) 0 ((v1.2.2).length)), (23, .sl 1 2000018 ((v1.2.2).length) 0 ((v1.2.2).length))] (by kernel_rfl) ?_)))
  refine ov_nil (nrm_thenV (v_to _ [(2000018, .row 3 1 (((List.map EV.encI v1.2.2)).length) (List.map EV.encI v1.2.2)), (1000000, .box 22 [.vs 5 (List.map enc_Fact v1.1)]), (1000001, .box 3 [.int .i64 v1.2.1])] (cut_freeze (F := [(2000018, .row 3 1 0 (List.map EV.encI v1.2.2))]) [2000018] rfl (by kernel_rfl) (by kernel_rfl)) ?_))
  refine v_to ((4, .vs 1 (List.map EV.encI v1.2.2)) :: _) _ (cut_view (R := [(2000018, .row 3 1 (((List.map EV.encI v1.2.2)).length) (List.map EV.encI v1.2.2))]) (ks := [2000018]) (by kernel_rfl) (by kernel_rfl) (.row (t := 3) (fz := (((List.map EV.encI v1.2.2)).length)) (by kernel_rfl) (by first | (simp only [List.length_map, List.length_set]; done) | rfl))) ?_
  refine v_ret ?_
  obtain rfl := si hs
  exact fin_ret (by kernel_rfl) (by kernel_rfl) (by kernel_rfl)
theorem w_reopen_Touched (base : (List Fact)) (l : (List Formula)) (known : Int) (r : (List Int)) (hs : s_reopen_Touched base l known = some r) : FnA Tryz.prog 21 [.vs 5 (List.map enc_Fact base), .vs 10 (List.map enc_Formula l), .int .i64 known] [] (.vs 1 (List.map EV.encI r)) [] := by
 refine fnA_of_wp (N := 10) Tryz.func21 rfl rfl rfl fun cK0 => ?_
 unfold s_reopen_Touched at hs
 refine v_same (ρ' := [(0, .vs 5 (List.map enc_Fact base)), (1, .vs 10 (List.map enc_Formula l)), (2, .int .i64 known)]) rfl rfl ?_
 refine v_seq (vr_text (o_runh 3 [(6, .nils), (5, .ptr 5 0 0), (3, .ptr 3 0 0)] [(5, .box 3 [.int .i64 known]), (3, .box 22 [.vs 5 (List.map enc_Fact base)])] (by kernel_rfl) ?_))
 refine ov_nil (nrm_thenV (v_seq (vr_text (o_runs 2 [(8, .fn 41 [] [.ptr 3 0 0, .ptr 5 0 0]), (7, .vs 10 (List.map enc_Formula l))] (by kernel_rfl) ?_))))
 obtain ⟨y1, c1, hs⟩ := bind_some hs
 refine o_loc (F := [(3, .box 22 [.vs 5 (List.map enc_Fact base)]), (5, .box 3 [.int .i64 known])]) (F' := [(3, .box 22 [.vs 5 (List.map enc_Fact y1.2.1)]), (5, .box 3 [.int .i64 y1.2.2])]) (v := .vs 1 (List.map EV.encI y1.1)) [3, 5] (by kernel_rfl) (by kernel_rfl) rfl (by kernel_rfl) (loc_g (R := []) [.vs 10 (List.map enc_Formula l), .fn 41 [] [.ptr 3 0 0, .ptr 5 0 0]] [(1000000, 3), (1000001, 5)] (callV_func hbv40 (by kernel_rfl)) (w_reopen_which_2 l base known _ c1) (.cons (.same _) (.cons (.same _) (.nil))) (by kernel_rfl) (by kernel_rfl) (by kernel_rfl) (by kernel_rfl) (by kernel_rfl) (by kernel_rfl) (by kernel_rfl) (by kernel_rfl)) (by kernel_rfl) ?_
 refine o_runs 1 [(6, .vs 1 (List.map EV.encI y1.1))] (by kernel_rfl) ?_
 refine ov_nil (nrm_thenV (v_ret ?_))
 obtain rfl := si hs
 exact fin_ret (by kernel_rfl) (by kernel_rfl) (by kernel_rfl)
theorem w_slices_Equal (s1 : (List Asked)) (s2 : (List Asked)) (r : Bool) (hs : s_slices_Equal s1 s2 = some r) : FnA Tryz.prog 33 [.vs 4 (List.map enc_Asked s1), .vs 4 (List.map enc_Asked s2)] [] (.bool r) [] := by
 refine fnA_of_wp (N := 26) Tryz.func33 rfl rfl rfl fun cK0 => ?_
 unfold s_slices_Equal at hs
 refine v_same (ρ' := [(0, .vs 4 (List.map enc_Asked s1)), (1, .vs 4 (List.map enc_Asked s2))]) rfl rfl ?_
 refine v_seq (vr_text (o_runs 1 [(4, .bool false)] (by kernel_rfl) ?_))
 refine ov_nil (nrm_thenV (v_seq (v_seq (vr_text (o_runs 1 [(6, .vs 4 (List.map enc_Asked s1))] (by kernel_rfl) ?_)))))
 refine o_pure (v := .int .i64 (List.length s1 : Int)) (by kernel_rfl) (by kernel_rfl) (loc_lenVs (sz := 4) (els := (List.map enc_Asked s1)) (by kernel_rfl) (by kernel_rfl) (List.length_map ..)) ?_
 refine o_runs 1 [(8, .vs 4 (List.map enc_Asked s2))] (by kernel_rfl) ?_
 refine o_pure (v := .int .i64 (List.length s2 : Int)) (by kernel_rfl) (by kernel_rfl) (loc_lenVs (sz := 4) (els := (List.map enc_Asked s2)) (by kernel_rfl) (by kernel_rfl) (List.length_map ..)) ?_
 refine o_runs 1 [(10, .bool (!(decide ((List.length s1 : Int) = (List.length s2 : Int)))))] (by kernel_rfl) ?_
 refine ov_nil (nrm_thenV ?_)
 refine v_cond (!(decide ((List.length s1 : Int) = (List.length s2 : Int)))) (by kernel_rfl) (fun h1 => ?_) (fun h1 => ?_)
 ·replace hs := bif_t h1 hs
  refine v_seq (vr_text (o_runs 1 [(4, .bool false)] (by kernel_rfl) ?_))
  refine ov_nil (nrm_thenV (v_ret (ret_thenV ?_)))
  obtain rfl := si hs
  exact fin_ret (by kernel_rfl) (by kernel_rfl) (by kernel_rfl)
 ·replace hs := bif_f h1 hs
  refine v_skip (nrm_thenV (v_seq (v_seq (vr_text (o_runs 1 [(11, .vs 4 (List.map enc_Asked s1))] (by kernel_rfl) ?_)))))
  refine o_pure (v := .int .i64 (List.length s1 : Int)) (by kernel_rfl) (by kernel_rfl) (loc_lenVs (sz := 4) (els := (List.map enc_Asked s1)) (by kernel_rfl) (by kernel_rfl) (List.length_map ..)) ?_
  refine o_runs 1 [(13, .int .i64 0)] (by kernel_rfl) ?_
  refine ov_nil (nrm_thenV ?_)
  obtain ⟨z1, hs, hk1⟩ := bind_some hs
  refine v_join (S := Unit) (fun u => z1 = .inr u) (fun u => []) (fun u => []) ?_ (fun v1 hz => ?_)
  ·refine v_block ?_
   refine v_fuel (S := Int) (fun u => [(0, .vs 4 (List.map enc_Asked s1)), (1, .vs 4 (List.map enc_Asked s2)), (12, .int .i64 (List.length s1 : Int)), (13, .int .i64 u)]) (fun u => []) (s_slices_Equal_L1 s1 s2) (fun _ => rfl) KK 0 hs (cut_of [0, 1, 12, 13] [] (by kernel_rfl) (by kernel_rfl) (by kernel_rfl)) (fun K1 q1 hs => ?_)
   rw [s_slices_Equal_L1] at hs
   show WpV cK0 Tryz.prog none 26 _ _ [(0, .vs 4 (List.map enc_Asked s1)), (1, .vs 4 (List.map enc_Asked s2)), (12, .int .i64 (List.length s1 : Int)), (13, .int .i64 q1)] [] []
   refine v_seq (vr_text (o_runs 1 [(14, .bool (decide (q1 < (List.length s1 : Int))))] (by kernel_rfl) ?_))
   refine ov_nil (nrm_thenV (v_seq ?_))
   refine v_cond (decide (q1 < (List.length s1 : Int))) (by kernel_rfl) (fun h2 => ?_) (fun h2 => ?_)
   ·replace hs := bif_t h2 hs
    refine v_skip (nrm_thenV (v_seq (v_block (v_seq (vr_text (o_runs 2 [(5, .int .i64 q1), (15, .int .i64 q1)] (by kernel_rfl) ?_))))))
    refine ov_nil (nrm_thenV (v_seq (v_draw mixedH (by kernel_rfl) ?_)))
    refine d_runs 2 0 [(17, .int .i64 q1), (16, .vs 4 (List.map enc_Asked s1))] (pfp 2 1) (by kernel_rfl) (by kernel_rfl) ?_
    obtain ⟨x1, g1, hs⟩ := bind_some hs; obtain ⟨g1a, g1b, g1c⟩ := idx_some g1
    refine d_pure (v := .vp (enc_Asked x1) 0) 2 rfl rfl rfl rfl (by kernel_rfl) (by kernel_rfl) (loc_indexVs (e := 52) (sz := 4) (k := .i64) (els := (List.map enc_Asked s1)) (cs := (enc_Asked x1)) (by kernel_rfl) (by kernel_rfl) (by kernel_rfl) g1a (by rw [g1c]; exact map_get _ (by omega))) ?_
    refine d_runs 3 3 [(21, .int .i64 q1), (20, .vs 4 (List.map enc_Asked s2)), (19, .agg (enc_Asked x1))] (pfp 3 5) (by kernel_rfl) (by kernel_rfl) ?_
    obtain ⟨x2, g2, hs⟩ := bind_some hs; obtain ⟨g2a, g2b, g2c⟩ := idx_some g2
    refine d_pure (v := .vp (enc_Asked x2) 0) 6 rfl rfl rfl rfl (by kernel_rfl) (by kernel_rfl) (loc_indexVs (e := 52) (sz := 4) (k := .i64) (els := (List.map enc_Asked s2)) (cs := (enc_Asked x2)) (by kernel_rfl) (by kernel_rfl) (by kernel_rfl) g2a (by rw [g2c]; exact map_get _ (by omega))) ?_
    refine d_runs 2 7 [(24, .bool (!(decide (x1.Key = x2.Key) && (decide (x1.Day = x2.Day) && (decide (x1.Value = x2.Value) && ((x1.There == x2.There))))))), (23, .agg (enc_Asked x2))] (pfp 2 8) (by kernel_rfl) (by kernel_rfl) ?_
    refine d_nil (by kernel_rfl) ?_
    refine nrm_thenV ?_
    refine v_cond (!(decide (x1.Key = x2.Key) && (decide (x1.Day = x2.Day) && (decide (x1.Value = x2.Value) && ((x1.There == x2.There)))))) (by kernel_rfl) (fun h3 => ?_) (fun h3 => ?_)
    ·replace hs := bif_t h3 hs
     refine v_seq (vr_text (o_runs 1 [(4, .bool false)] (by kernel_rfl) ?_))
     refine ov_nil (nrm_thenV (v_ret (ret_blkV (ret_thenV (ret_fuel ?_)))))
     refine ret_blkV (ret_join ?_)
     refine ret_thenV ?_
     obtain rfl := si hs
     replace hs := hk1
     obtain rfl := si hs
     exact fin_ret (by kernel_rfl) (by kernel_rfl) (by kernel_rfl)
    ·replace hs := bif_f h3 hs
     refine v_skip (nrm_blkV (nrm_thenV (vr_text (o_runs 2 [(13, .int .i64 (w64 (q1 + 1))), (25, .int .i64 (w64 (q1 + 1)))] (by kernel_rfl) ?_))))
     refine ov_nil (nrm_fuel (w64 (q1 + 1)) hs ?_)
     exact cut_of [0, 1, 12, 13] [] (by kernel_rfl) (by kernel_rfl) (by kernel_rfl)
   ·replace hs := bif_f h2 hs
    refine v_exit (exit_thenV (exit_fuel ?_))
    refine exit_blkV ?_
    obtain rfl := si hs
    refine nrm_join () rfl ?_
    exact cut_of [] [] (by kernel_rfl) (by kernel_rfl) (by kernel_rfl)
  ·subst hz; clear hs; have hs := hk1; clear hk1
   refine nrm_thenV (v_seq (vr_text (o_runs 1 [(4, .bool true)] (by kernel_rfl) ?_)))
   refine ov_nil (nrm_thenV (v_ret ?_))
   obtain rfl := si hs
   exact fin_ret (by kernel_rfl) (by kernel_rfl) (by kernel_rfl)
theorem w_reopen_Holds (base : (List Fact)) (f : Formula) (r : Bool) (hs : s_reopen_Holds base f = some r) : FnA Tryz.prog 11 [.vs 5 (List.map enc_Fact base), .agg (enc_Formula f)] [] (.bool r) [] := by
 refine fnA_of_wp (N := 29) Tryz.func11 rfl rfl rfl fun cK0 => ?_
 unfold s_reopen_Holds at hs
 refine v_same (ρ' := [(0, .vs 5 (List.map enc_Fact base)), (1, .agg (enc_Formula f))]) rfl rfl ?_
 refine v_seq (vr_text (o_runh 2 [(4, .bool false), (3, .ptr 3 0 0)] [(3, .box 31 [.int .i64 f.Id, .int .i64 f.Day, .int .i64 f.Known, .int .i64 f.Body.Op, .int .i64 f.Body.N, .str f.Body.S, .str f.Body.Key, .vs 5 (encs_Expr f.Body.Args), .int .i64 f.Result, .vs 4 (List.map enc_Asked f.Asked)])] (by kernel_rfl) ?_))
 refine ov_nil (nrm_thenV (v_seq (vr_text (o_runs 2 [(9, .agg (enc_Formula f)), (8, .vs 5 (List.map enc_Fact base))] (by kernel_rfl) ?_))))
 obtain ⟨y1, c1, hs⟩ := bind_some hs
 refine o_pure (v := .tup [.agg (enc_Formula y1.1), .int .i64 y1.2]) (by kernel_rfl) (by kernel_rfl) (loc_gcall0 (callV_func hbv6 (by kernel_rfl)) (w_reopen_Make base f _ c1) (by kernel_rfl)) ?_
 refine o_runh 6 [(6, .int .i64 y1.2), (5, .ptr 5 0 0), (12, .int .i64 y1.2), (11, .agg (enc_Formula y1.1)), (7, .tup [.agg (enc_Formula y1.1), .int .i64 y1.2])] [(5, .box 31 [.int .i64 y1.1.Id, .int .i64 y1.1.Day, .int .i64 y1.1.Known, .int .i64 y1.1.Body.Op, .int .i64 y1.1.Body.N, .str y1.1.Body.S, .str y1.1.Body.Key, .vs 5 (encs_Expr y1.1.Body.Args), .int .i64 y1.1.Result, .vs 4 (List.map enc_Asked y1.1.Asked)]), (3, .box 31 [.int .i64 f.Id, .int .i64 f.Day, .int .i64 f.Known, .int .i64 f.Body.Op, .int .i64 f.Body.N, .str f.Body.S, .str f.Body.Key, .vs 5 (encs_Expr f.Body.Args), .int .i64 f.Result, .vs 4 (List.map enc_Asked f.Asked)])] (by kernel_rfl) ?_
 refine ov_nil (nrm_thenV (v_seq ?_))
 obtain ⟨z1, hs, hk1⟩ := bind_some hs
 refine v_join (S := Bool) (fun u => u = z1) (fun u => [(4, .bool u)]) (fun u => []) ?_ (fun v1 hz => ?_)
 ·refine vr_text (o_runs 3 [(15, .bool (decide (y1.2 = 0))), (14, .bool (decide (y1.2 = 0))), (13, .int .i64 y1.2)] (by kernel_rfl) ?_)
  cases h1 : ((decide (y1.2 = 0)))
  ·replace hs := bif_f h1 hs
   refine o_runs 14 [(4, .bool false), (28, .bool false), (27, .no), (26, .no), (25, .no), (24, .no), (23, .no), (22, .bool false), (21, .bool false), (20, .no), (19, .no), (18, .no), (17, .no), (16, .no)] (by kernel_rfl) ?_
   refine ov_nil ?_
   obtain rfl := si hs
   refine nrm_join false rfl ?_
   exact cut_of [4] [] (by kernel_rfl) (by kernel_rfl) (by kernel_rfl)
  ·replace hs := bif_t h1 hs
   refine o_runs 7 [(22, .bool (decide (y1.1.Result = f.Result))), (21, .bool (decide (y1.1.Result = f.Result))), (20, .bool (decide (y1.1.Result = f.Result))), (19, .int .i64 f.Result), (18, .ptr 3 0 8), (17, .int .i64 y1.1.Result), (16, .ptr 5 0 8)] (by kernel_rfl) ?_
   cases h2 : ((decide (y1.1.Result = f.Result)))
   ·replace hs := bif_f h2 hs
    refine o_runs 7 [(4, .bool false), (28, .bool false), (27, .no), (26, .no), (25, .no), (24, .no), (23, .no)] (by kernel_rfl) ?_
    refine ov_nil ?_
    obtain rfl := si hs
    refine nrm_join false rfl ?_
    exact cut_of [4] [] (by kernel_rfl) (by kernel_rfl) (by kernel_rfl)
   ·replace hs := bif_t h2 hs
    refine o_runs 4 [(26, .vs 4 (List.map enc_Asked f.Asked)), (25, .ptr 3 0 9), (24, .vs 4 (List.map enc_Asked y1.1.Asked)), (23, .ptr 5 0 9)] (by kernel_rfl) ?_
    obtain ⟨y2, c2, hs⟩ := bind_some hs
    refine o_pure (v := .bool y2) (by kernel_rfl) (by kernel_rfl) (loc_gcall0 (callV_func hbv33 (by kernel_rfl)) (w_slices_Equal y1.1.Asked f.Asked _ c2) (by kernel_rfl)) ?_
    refine o_runs 2 [(4, .bool y2), (28, .bool y2)] (by kernel_rfl) ?_
    refine ov_nil ?_
    obtain rfl := si hs
    refine nrm_join y2 rfl ?_
    exact cut_of [4] [] (by kernel_rfl) (by kernel_rfl) (by kernel_rfl)
 ·subst hz; clear hs; have hs := hk1; clear hk1
  refine nrm_thenV (v_ret ?_)
  obtain rfl := si hs
  exact fin_ret (by kernel_rfl) (by kernel_rfl) (by kernel_rfl)
theorem w_greenbeltref45_Texts (a : (List (List UInt8))) (b : (List (List UInt8))) (r : Bool) (hs : s_greenbeltref45_Texts a b = some r) : FnA Tryz.prog 16 [.vs 1 (List.map EV.encS a), .vs 1 (List.map EV.encS b)] [] (.bool r) [] := by
 refine fnA_of_wp (N := 26) Tryz.func16 rfl rfl rfl fun cK0 => ?_
 unfold s_greenbeltref45_Texts at hs
 refine v_same (ρ' := [(0, .vs 1 (List.map EV.encS a)), (1, .vs 1 (List.map EV.encS b))]) rfl rfl ?_
 refine v_seq (vr_text (o_runs 1 [(4, .bool false)] (by kernel_rfl) ?_))
 refine ov_nil (nrm_thenV (v_seq (v_seq (vr_text (o_runs 1 [(6, .vs 1 (List.map EV.encS a))] (by kernel_rfl) ?_)))))
 refine o_pure (v := .int .i64 (List.length a : Int)) (by kernel_rfl) (by kernel_rfl) (loc_lenVs (sz := 1) (els := (List.map EV.encS a)) (by kernel_rfl) (by kernel_rfl) (List.length_map ..)) ?_
 refine o_runs 1 [(8, .vs 1 (List.map EV.encS b))] (by kernel_rfl) ?_
 refine o_pure (v := .int .i64 (List.length b : Int)) (by kernel_rfl) (by kernel_rfl) (loc_lenVs (sz := 1) (els := (List.map EV.encS b)) (by kernel_rfl) (by kernel_rfl) (List.length_map ..)) ?_
 refine o_runs 1 [(10, .bool (!(decide ((List.length a : Int) = (List.length b : Int)))))] (by kernel_rfl) ?_
 refine ov_nil (nrm_thenV ?_)
 refine v_cond (!(decide ((List.length a : Int) = (List.length b : Int)))) (by kernel_rfl) (fun h1 => ?_) (fun h1 => ?_)
 ·replace hs := bif_t h1 hs
  refine v_seq (vr_text (o_runs 1 [(4, .bool false)] (by kernel_rfl) ?_))
  refine ov_nil (nrm_thenV (v_ret (ret_thenV ?_)))
  obtain rfl := si hs
  exact fin_ret (by kernel_rfl) (by kernel_rfl) (by kernel_rfl)
 ·replace hs := bif_f h1 hs
  refine v_skip (nrm_thenV (v_seq (v_seq (vr_text (o_runs 1 [(5, .int .i64 0)] (by kernel_rfl) ?_)))))
  refine ov_nil (nrm_thenV ?_)
  obtain ⟨z1, hs, hk1⟩ := bind_some hs
  refine v_join (S := Unit) (fun u => z1 = .inr u) (fun u => []) (fun u => []) ?_ (fun v1 hz => ?_)
  ·refine v_block ?_
   refine v_fuel (S := Int) (fun u => [(0, .vs 1 (List.map EV.encS a)), (1, .vs 1 (List.map EV.encS b)), (5, .int .i64 u)]) (fun u => []) (s_greenbeltref45_Texts_L1 a b) (fun _ => rfl) KK 0 hs (cut_of [0, 1, 5] [] (by kernel_rfl) (by kernel_rfl) (by kernel_rfl)) (fun K1 q1 hs => ?_)
   rw [s_greenbeltref45_Texts_L1] at hs
   show WpV cK0 Tryz.prog none 26 _ _ [(0, .vs 1 (List.map EV.encS a)), (1, .vs 1 (List.map EV.encS b)), (5, .int .i64 q1)] [] []
   refine v_seq (v_seq (vr_text (o_runs 2 [(12, .vs 1 (List.map EV.encS a)), (11, .int .i64 q1)] (by kernel_rfl) ?_)))
   refine o_pure (v := .int .i64 (List.length a : Int)) (by kernel_rfl) (by kernel_rfl) (loc_lenVs (sz := 1) (els := (List.map EV.encS a)) (by kernel_rfl) (by kernel_rfl) (List.length_map ..)) ?_
   refine o_runs 1 [(14, .bool (decide (q1 < (List.length a : Int))))] (by kernel_rfl) ?_
   refine ov_nil (nrm_thenV ?_)
   refine v_cond (decide (q1 < (List.length a : Int))) (by kernel_rfl) (fun h2 => ?_) (fun h2 => ?_)
   ·replace hs := bif_t h2 hs
    refine v_skip (nrm_thenV (v_seq (v_block (v_seq (v_draw mixedH (by kernel_rfl) ?_)))))
    refine d_runs 2 0 [(18, .int .i64 q1), (17, .vs 1 (List.map EV.encS a))] (pfp 2 1) (by kernel_rfl) (by kernel_rfl) ?_
    obtain ⟨x1, g1, hs⟩ := bind_some hs; obtain ⟨g1a, g1b, g1c⟩ := idx_some g1
    refine d_pure (v := .vp [.str x1] 0) 2 rfl rfl rfl rfl (by kernel_rfl) (by kernel_rfl) (loc_indexVs (e := 9) (sz := 1) (k := .i64) (els := (List.map EV.encS a)) (cs := (EV.encS x1)) (by kernel_rfl) (by kernel_rfl) (by kernel_rfl) g1a (by rw [g1c]; exact map_get _ (by omega))) ?_
    refine d_runs 3 3 [(22, .int .i64 q1), (21, .vs 1 (List.map EV.encS b)), (20, .str x1)] (pfp 3 5) (by kernel_rfl) (by kernel_rfl) ?_
    obtain ⟨x2, g2, hs⟩ := bind_some hs; obtain ⟨g2a, g2b, g2c⟩ := idx_some g2
    refine d_pure (v := .vp [.str x2] 0) 6 rfl rfl rfl rfl (by kernel_rfl) (by kernel_rfl) (loc_indexVs (e := 9) (sz := 1) (k := .i64) (els := (List.map EV.encS b)) (cs := (EV.encS x2)) (by kernel_rfl) (by kernel_rfl) (by kernel_rfl) g2a (by rw [g2c]; exact map_get _ (by omega))) ?_
    refine d_runs 2 7 [(25, .bool (!(decide (x1 = x2)))), (24, .str x2)] (pfp 2 8) (by kernel_rfl) (by kernel_rfl) ?_
    refine d_nil (by kernel_rfl) ?_
    refine nrm_thenV ?_
    refine v_cond (!(decide (x1 = x2))) (by kernel_rfl) (fun h3 => ?_) (fun h3 => ?_)
    ·replace hs := bif_t h3 hs
     refine v_seq (vr_text (o_runs 1 [(4, .bool false)] (by kernel_rfl) ?_))
     refine ov_nil (nrm_thenV (v_ret (ret_blkV (ret_thenV (ret_fuel ?_)))))
     refine ret_blkV (ret_join ?_)
     refine ret_thenV ?_
     obtain rfl := si hs
     replace hs := hk1
     obtain rfl := si hs
     exact fin_ret (by kernel_rfl) (by kernel_rfl) (by kernel_rfl)
    ·replace hs := bif_f h3 hs
     refine v_skip (nrm_blkV (nrm_thenV (vr_text (o_runs 3 [(5, .int .i64 (w64 (q1 + 1))), (16, .int .i64 (w64 (q1 + 1))), (15, .int .i64 q1)] (by kernel_rfl) ?_))))
     refine ov_nil (nrm_fuel (w64 (q1 + 1)) hs ?_)
     exact cut_of [0, 1, 5] [] (by kernel_rfl) (by kernel_rfl) (by kernel_rfl)
   ·replace hs := bif_f h2 hs
    refine v_exit (exit_thenV (exit_fuel ?_))
    refine exit_blkV ?_
    obtain rfl := si hs
    refine nrm_join () rfl ?_
    exact cut_of [] [] (by kernel_rfl) (by kernel_rfl) (by kernel_rfl)
  ·subst hz; clear hs; have hs := hk1; clear hk1
   refine nrm_thenV (v_seq (vr_text (o_runs 1 [(4, .bool true)] (by kernel_rfl) ?_)))
   refine ov_nil (nrm_thenV (v_ret ?_))
   obtain rfl := si hs
   exact fin_ret (by kernel_rfl) (by kernel_rfl) (by kernel_rfl)
theorem w_greenbeltlaw45_small  (r : Bool) (hs : s_greenbeltlaw45_small  = some r) : FnA Tryz.prog 4 [] [] (.bool r) [] := by
 refine fnA_of_wp (N := 164) Tryz.func4 rfl rfl rfl fun cK0 => ?_
 unfold s_greenbeltlaw45_small at hs
 refine v_same (ρ' := []) rfl rfl ?_
 refine v_seq (vr_text (o_runs 1 [(0, .bool false)] (by kernel_rfl) ?_))
 refine ov_nil (nrm_thenV (v_seq (vr_text (o_runh 4 [(1, .sl 5 18 2 0 2), (18, .sl 5 18 2 0 2), (17, .agg [.str ([97, 114, 101, 97] : List UInt8), .int .i64 90, .int .i64 10, .int .i64 0, .int .i64 8]), (16, .agg [.str ([97, 114, 101, 97] : List UInt8), .int .i64 100, .int .i64 0, .int .i64 0, .int .i64 5])] [(18, .row 49 5 0 (List.map enc_Fact [(Fact.mk ([97, 114, 101, 97] : List UInt8) 100 0 0 5), (Fact.mk ([97, 114, 101, 97] : List UInt8) 90 10 0 8)]))] (by kernel_rfl) ?_))))
 refine ov_nil (nrm_thenV (v_seq (vr_text (o_runs 1 [(20, .sl 5 18 2 0 2)] (by kernel_rfl) ?_))))
 obtain ⟨y1, c1, hs⟩ := bind_some hs
 refine o_pure (v := .agg (enc_Expr y1)) (by kernel_rfl) (by kernel_rfl) (loc_gcall0 (callV_func hbv25 (by kernel_rfl)) (w_greenbeltlaw45_less ([97, 114, 101, 97] : List UInt8) 95 _ c1) (by kernel_rfl)) ?_
 refine o_runs 1 [(22, .agg [.int .i64 1, .int .i64 12, .int .i64 6, .int .i64 y1.Op, .int .i64 y1.N, .str y1.S, .str y1.Key, .vs 5 (encs_Expr y1.Args), .int .i64 0, .nils])] (by kernel_rfl) ?_
 obtain ⟨y2, c2, hs⟩ := bind_some hs
 refine o_to _ [(18, .row 49 5 (((List.map enc_Fact [(Fact.mk ([97, 114, 101, 97] : List UInt8) 100 0 0 5), (Fact.mk ([97, 114, 101, 97] : List UInt8) 90 10 0 8)])).length) (List.map enc_Fact [(Fact.mk ([97, 114, 101, 97] : List UInt8) 100 0 0 5), (Fact.mk ([97, 114, 101, 97] : List UInt8) 90 10 0 8)]))] (cut_freeze (F := [(18, .row 49 5 0 (List.map enc_Fact [(Fact.mk ([97, 114, 101, 97] : List UInt8) 100 0 0 5), (Fact.mk ([97, 114, 101, 97] : List UInt8) 90 10 0 8)]))]) [18] rfl (by kernel_rfl) (by kernel_rfl)) ?_
 refine o_loc (F := [(18, .row 49 5 (((List.map enc_Fact [(Fact.mk ([97, 114, 101, 97] : List UInt8) 100 0 0 5), (Fact.mk ([97, 114, 101, 97] : List UInt8) 90 10 0 8)])).length) (List.map enc_Fact [(Fact.mk ([97, 114, 101, 97] : List UInt8) 100 0 0 5), (Fact.mk ([97, 114, 101, 97] : List UInt8) 90 10 0 8)]))]) (F' := [(18, .row 49 5 (((List.map enc_Fact [(Fact.mk ([97, 114, 101, 97] : List UInt8) 100 0 0 5), (Fact.mk ([97, 114, 101, 97] : List UInt8) 90 10 0 8)])).length) (List.map enc_Fact [(Fact.mk ([97, 114, 101, 97] : List UInt8) 100 0 0 5), (Fact.mk ([97, 114, 101, 97] : List UInt8) 90 10 0 8)]))]) (v := .tup [.agg (enc_Formula y2.1), .int .i64 y2.2]) [18] (by kernel_rfl) (by kernel_rfl) rfl (by kernel_rfl) (loc_g (R := [(18, .row 49 5 (((List.map enc_Fact [(Fact.mk ([97, 114, 101, 97] : List UInt8) 100 0 0 5), (Fact.mk ([97, 114, 101, 97] : List UInt8) 90 10 0 8)])).length) (List.map enc_Fact [(Fact.mk ([97, 114, 101, 97] : List UInt8) 100 0 0 5), (Fact.mk ([97, 114, 101, 97] : List UInt8) 90 10 0 8)]))]) [.sl 5 18 2 0 2, .agg [.int .i64 1, .int .i64 12, .int .i64 6, .int .i64 y1.Op, .int .i64 y1.N, .str y1.S, .str y1.Key, .vs 5 (encs_Expr y1.Args), .int .i64 0, .nils]] [] (callV_func hbv6 (by kernel_rfl)) (w_reopen_Make [(Fact.mk ([97, 114, 101, 97] : List UInt8) 100 0 0 5), (Fact.mk ([97, 114, 101, 97] : List UInt8) 90 10 0 8)] (Formula.mk 1 12 6 y1 0 []) _ c2) (.cons (.row (t := 49) (fz := (((List.map enc_Fact [(Fact.mk ([97, 114, 101, 97] : List UInt8) 100 0 0 5), (Fact.mk ([97, 114, 101, 97] : List UInt8) 90 10 0 8)])).length)) (by kernel_rfl) (by first | (simp only [List.length_map, List.length_set]; done) | rfl)) (.cons (.agg (.cons (.same _) (.cons (.same _) (.cons (.same _) (.cons (.same _) (.cons (.same _) (.cons (.same _) (.cons (.same _) (.cons (.same _) (.cons (.same _) (.cons (.nils _) (.nil)))))))))))) (.nil))) (by kernel_rfl) (by kernel_rfl) (by kernel_rfl) (by kernel_rfl) (by kernel_rfl) (by kernel_rfl) (by kernel_rfl) (by kernel_rfl)) (by kernel_rfl) ?_
 refine o_runh 6 [(3, .int .i64 y2.2), (2, .ptr 2 0 0), (25, .int .i64 y2.2), (24, .agg (enc_Formula y2.1)), (19, .tup [.agg (enc_Formula y2.1), .int .i64 y2.2])] [(2, .box 31 [.int .i64 y2.1.Id, .int .i64 y2.1.Day, .int .i64 y2.1.Known, .int .i64 y2.1.Body.Op, .int .i64 y2.1.Body.N, .str y2.1.Body.S, .str y2.1.Body.Key, .vs 5 (encs_Expr y2.1.Body.Args), .int .i64 y2.1.Result, .vs 4 (List.map enc_Asked y2.1.Asked)]), (18, .row 49 5 (((List.map enc_Fact [(Fact.mk ([97, 114, 101, 97] : List UInt8) 100 0 0 5), (Fact.mk ([97, 114, 101, 97] : List UInt8) 90 10 0 8)])).length) (List.map enc_Fact [(Fact.mk ([97, 114, 101, 97] : List UInt8) 100 0 0 5), (Fact.mk ([97, 114, 101, 97] : List UInt8) 90 10 0 8)]))] (by kernel_rfl) ?_
 refine ov_nil (nrm_thenV (v_seq (vr_text (o_runs 1 [(27, .sl 5 18 2 0 2)] (by kernel_rfl) ?_))))
 obtain ⟨y3, c3, hs⟩ := bind_some hs
 refine o_pure (v := .agg (enc_Expr y3)) (by kernel_rfl) (by kernel_rfl) (loc_gcall0 (callV_func hbv25 (by kernel_rfl)) (w_greenbeltlaw45_less ([97, 114, 101, 97] : List UInt8) 120 _ c3) (by kernel_rfl)) ?_
 refine o_runs 1 [(29, .agg [.int .i64 2, .int .i64 12, .int .i64 6, .int .i64 y3.Op, .int .i64 y3.N, .str y3.S, .str y3.Key, .vs 5 (encs_Expr y3.Args), .int .i64 0, .nils])] (by kernel_rfl) ?_
 obtain ⟨y4, c4, hs⟩ := bind_some hs
 refine o_loc (F := [(18, .row 49 5 (((List.map enc_Fact [(Fact.mk ([97, 114, 101, 97] : List UInt8) 100 0 0 5), (Fact.mk ([97, 114, 101, 97] : List UInt8) 90 10 0 8)])).length) (List.map enc_Fact [(Fact.mk ([97, 114, 101, 97] : List UInt8) 100 0 0 5), (Fact.mk ([97, 114, 101, 97] : List UInt8) 90 10 0 8)]))]) (F' := [(18, .row 49 5 (((List.map enc_Fact [(Fact.mk ([97, 114, 101, 97] : List UInt8) 100 0 0 5), (Fact.mk ([97, 114, 101, 97] : List UInt8) 90 10 0 8)])).length) (List.map enc_Fact [(Fact.mk ([97, 114, 101, 97] : List UInt8) 100 0 0 5), (Fact.mk ([97, 114, 101, 97] : List UInt8) 90 10 0 8)]))]) (v := .tup [.agg (enc_Formula y4.1), .int .i64 y4.2]) [18] (by kernel_rfl) (by kernel_rfl) rfl (by kernel_rfl) (loc_g (R := [(18, .row 49 5 (((List.map enc_Fact [(Fact.mk ([97, 114, 101, 97] : List UInt8) 100 0 0 5), (Fact.mk ([97, 114, 101, 97] : List UInt8) 90 10 0 8)])).length) (List.map enc_Fact [(Fact.mk ([97, 114, 101, 97] : List UInt8) 100 0 0 5), (Fact.mk ([97, 114, 101, 97] : List UInt8) 90 10 0 8)]))]) [.sl 5 18 2 0 2, .agg [.int .i64 2, .int .i64 12, .int .i64 6, .int .i64 y3.Op, .int .i64 y3.N, .str y3.S, .str y3.Key, .vs 5 (encs_Expr y3.Args), .int .i64 0, .nils]] [] (callV_func hbv6 (by kernel_rfl)) (w_reopen_Make [(Fact.mk ([97, 114, 101, 97] : List UInt8) 100 0 0 5), (Fact.mk ([97, 114, 101, 97] : List UInt8) 90 10 0 8)] (Formula.mk 2 12 6 y3 0 []) _ c4) (.cons (.row (t := 49) (fz := (((List.map enc_Fact [(Fact.mk ([97, 114, 101, 97] : List UInt8) 100 0 0 5), (Fact.mk ([97, 114, 101, 97] : List UInt8) 90 10 0 8)])).length)) (by kernel_rfl) (by first | (simp only [List.length_map, List.length_set]; done) | rfl)) (.cons (.agg (.cons (.same _) (.cons (.same _) (.cons (.same _) (.cons (.same _) (.cons (.same _) (.cons (.same _) (.cons (.same _) (.cons (.same _) (.cons (.same _) (.cons (.nils _) (.nil)))))))))))) (.nil))) (by kernel_rfl) (by kernel_rfl) (by kernel_rfl) (by kernel_rfl) (by kernel_rfl) (by kernel_rfl) (by kernel_rfl) (by kernel_rfl)) (by kernel_rfl) ?_
 refine o_runh 6 [(5, .int .i64 y4.2), (4, .ptr 4 0 0), (32, .int .i64 y4.2), (31, .agg (enc_Formula y4.1)), (26, .tup [.agg (enc_Formula y4.1), .int .i64 y4.2])] [(4, .box 31 [.int .i64 y4.1.Id, .int .i64 y4.1.Day, .int .i64 y4.1.Known, .int .i64 y4.1.Body.Op, .int .i64 y4.1.Body.N, .str y4.1.Body.S, .str y4.1.Body.Key, .vs 5 (encs_Expr y4.1.Body.Args), .int .i64 y4.1.Result, .vs 4 (List.map enc_Asked y4.1.Asked)]), (18, .row 49 5 (((List.map enc_Fact [(Fact.mk ([97, 114, 101, 97] : List UInt8) 100 0 0 5), (Fact.mk ([97, 114, 101, 97] : List UInt8) 90 10 0 8)])).length) (List.map enc_Fact [(Fact.mk ([97, 114, 101, 97] : List UInt8) 100 0 0 5), (Fact.mk ([97, 114, 101, 97] : List UInt8) 90 10 0 8)])), (2, .box 31 [.int .i64 y2.1.Id, .int .i64 y2.1.Day, .int .i64 y2.1.Known, .int .i64 y2.1.Body.Op, .int .i64 y2.1.Body.N, .str y2.1.Body.S, .str y2.1.Body.Key, .vs 5 (encs_Expr y2.1.Body.Args), .int .i64 y2.1.Result, .vs 4 (List.map enc_Asked y2.1.Asked)])] (by kernel_rfl) ?_
 refine ov_nil (nrm_thenV (v_seq (vr_text (o_runs 1 [(34, .sl 5 18 2 0 2)] (by kernel_rfl) ?_))))
 obtain ⟨y5, c5, hs⟩ := bind_some hs
 refine o_pure (v := .agg (enc_Expr y5)) (by kernel_rfl) (by kernel_rfl) (loc_gcall0 (callV_func hbv25 (by kernel_rfl)) (w_greenbeltlaw45_less ([97, 114, 101, 97] : List UInt8) 95 _ c5) (by kernel_rfl)) ?_
 refine o_runs 1 [(36, .agg [.int .i64 3, .int .i64 9, .int .i64 6, .int .i64 y5.Op, .int .i64 y5.N, .str y5.S, .str y5.Key, .vs 5 (encs_Expr y5.Args), .int .i64 0, .nils])] (by kernel_rfl) ?_
 obtain ⟨y6, c6, hs⟩ := bind_some hs
 refine o_loc (F := [(18, .row 49 5 (((List.map enc_Fact [(Fact.mk ([97, 114, 101, 97] : List UInt8) 100 0 0 5), (Fact.mk ([97, 114, 101, 97] : List UInt8) 90 10 0 8)])).length) (List.map enc_Fact [(Fact.mk ([97, 114, 101, 97] : List UInt8) 100 0 0 5), (Fact.mk ([97, 114, 101, 97] : List UInt8) 90 10 0 8)]))]) (F' := [(18, .row 49 5 (((List.map enc_Fact [(Fact.mk ([97, 114, 101, 97] : List UInt8) 100 0 0 5), (Fact.mk ([97, 114, 101, 97] : List UInt8) 90 10 0 8)])).length) (List.map enc_Fact [(Fact.mk ([97, 114, 101, 97] : List UInt8) 100 0 0 5), (Fact.mk ([97, 114, 101, 97] : List UInt8) 90 10 0 8)]))]) (v := .tup [.agg (enc_Formula y6.1), .int .i64 y6.2]) [18] (by kernel_rfl) (by kernel_rfl) rfl (by kernel_rfl) (loc_g (R := [(18, .row 49 5 (((List.map enc_Fact [(Fact.mk ([97, 114, 101, 97] : List UInt8) 100 0 0 5), (Fact.mk ([97, 114, 101, 97] : List UInt8) 90 10 0 8)])).length) (List.map enc_Fact [(Fact.mk ([97, 114, 101, 97] : List UInt8) 100 0 0 5), (Fact.mk ([97, 114, 101, 97] : List UInt8) 90 10 0 8)]))]) [.sl 5 18 2 0 2, .agg [.int .i64 3, .int .i64 9, .int .i64 6, .int .i64 y5.Op, .int .i64 y5.N, .str y5.S, .str y5.Key, .vs 5 (encs_Expr y5.Args), .int .i64 0, .nils]] [] (callV_func hbv6 (by kernel_rfl)) (w_reopen_Make [(Fact.mk ([97, 114, 101, 97] : List UInt8) 100 0 0 5), (Fact.mk ([97, 114, 101, 97] : List UInt8) 90 10 0 8)] (Formula.mk 3 9 6 y5 0 []) _ c6) (.cons (.row (t := 49) (fz := (((List.map enc_Fact [(Fact.mk ([97, 114, 101, 97] : List UInt8) 100 0 0 5), (Fact.mk ([97, 114, 101, 97] : List UInt8) 90 10 0 8)])).length)) (by kernel_rfl) (by first | (simp only [List.length_map, List.length_set]; done) | rfl)) (.cons (.agg (.cons (.same _) (.cons (.same _) (.cons (.same _) (.cons (.same _) (.cons (.same _) (.cons (.same _) (.cons (.same _) (.cons (.same _) (.cons (.same _) (.cons (.nils _) (.nil)))))))))))) (.nil))) (by kernel_rfl) (by kernel_rfl) (by kernel_rfl) (by kernel_rfl) (by kernel_rfl) (by kernel_rfl) (by kernel_rfl) (by kernel_rfl)) (by kernel_rfl) ?_
 refine o_runh 6 [(7, .int .i64 y6.2), (6, .ptr 6 0 0), (39, .int .i64 y6.2), (38, .agg (enc_Formula y6.1)), (33, .tup [.agg (enc_Formula y6.1), .int .i64 y6.2])] [(6, .box 31 [.int .i64 y6.1.Id, .int .i64 y6.1.Day, .int .i64 y6.1.Known, .int .i64 y6.1.Body.Op, .int .i64 y6.1.Body.N, .str y6.1.Body.S, .str y6.1.Body.Key, .vs 5 (encs_Expr y6.1.Body.Args), .int .i64 y6.1.Result, .vs 4 (List.map enc_Asked y6.1.Asked)]), (18, .row 49 5 (((List.map enc_Fact [(Fact.mk ([97, 114, 101, 97] : List UInt8) 100 0 0 5), (Fact.mk ([97, 114, 101, 97] : List UInt8) 90 10 0 8)])).length) (List.map enc_Fact [(Fact.mk ([97, 114, 101, 97] : List UInt8) 100 0 0 5), (Fact.mk ([97, 114, 101, 97] : List UInt8) 90 10 0 8)])), (4, .box 31 [.int .i64 y4.1.Id, .int .i64 y4.1.Day, .int .i64 y4.1.Known, .int .i64 y4.1.Body.Op, .int .i64 y4.1.Body.N, .str y4.1.Body.S, .str y4.1.Body.Key, .vs 5 (encs_Expr y4.1.Body.Args), .int .i64 y4.1.Result, .vs 4 (List.map enc_Asked y4.1.Asked)]), (2, .box 31 [.int .i64 y2.1.Id, .int .i64 y2.1.Day, .int .i64 y2.1.Known, .int .i64 y2.1.Body.Op, .int .i64 y2.1.Body.N, .str y2.1.Body.S, .str y2.1.Body.Key, .vs 5 (encs_Expr y2.1.Body.Args), .int .i64 y2.1.Result, .vs 4 (List.map enc_Asked y2.1.Asked)])] (by kernel_rfl) ?_
 refine ov_nil (nrm_thenV (v_seq (vr_text (o_runs 2 [(41, .agg [.int .i64 0, .int .i64 1, .str [], .str [], .nils]), (40, .agg [.int .i64 1, .int .i64 0, .str ([104, 101, 105, 103, 104, 116] : List UInt8), .str [], .nils])] (by kernel_rfl) ?_))))
 refine o_loc (F := []) (F' := [(42, .row 28 5 0 (encs_Expr [(Expr.mk 1 0 ([104, 101, 105, 103, 104, 116] : List UInt8) [] []), (Expr.mk 0 1 [] [] [])]))]) (v := .sl 5 42 2 0 2) [] (by kernel_rfl) (by kernel_rfl) rfl (by kernel_rfl) (loc_buildSliceW (e := 28) (sz := 5) (els := [[.int .i64 1, .int .i64 0, .str ([104, 101, 105, 103, 104, 116] : List UInt8), .str [], .nils], [.int .i64 0, .int .i64 1, .str [], .str [], .nils]]) (els2 := [[.int .i64 1, .int .i64 0, .str ([104, 101, 105, 103, 104, 116] : List UInt8), .str [], .vs 5 []], [.int .i64 0, .int .i64 1, .str [], .str [], .vs 5 []]]) (fl := [.int .i64 1, .int .i64 0, .str ([104, 101, 105, 103, 104, 116] : List UInt8), .str [], .nils, .int .i64 0, .int .i64 1, .str [], .str [], .nils]) (fl2 := [.int .i64 1, .int .i64 0, .str ([104, 101, 105, 103, 104, 116] : List UInt8), .str [], .vs 5 [], .int .i64 0, .int .i64 1, .str [], .str [], .vs 5 []]) (by kernel_rfl) (by kernel_rfl) (by kernel_rfl) (by kernel_rfl) (by kernel_rfl) (wk_same (wk_same (wk_same (wk_same (wk_nils (wk_same (wk_same (wk_same (wk_same (wk_nils wk_nil)))))))))) (by kernel_rfl) (by kernel_rfl) (by kernel_rfl)) (by kernel_rfl) ?_
 refine o_runh 3 [(8, .ptr 8 0 0), (43, .agg [.int .i64 4, .int .i64 0, .str [], .str [], .sl 5 42 2 0 2])] [(8, .box 28 [.int .i64 4, .int .i64 0, .str [], .str [], .sl 5 42 2 0 2]), (42, .row 28 5 0 (encs_Expr [(Expr.mk 1 0 ([104, 101, 105, 103, 104, 116] : List UInt8) [] []), (Expr.mk 0 1 [] [] [])])), (6, .box 31 [.int .i64 y6.1.Id, .int .i64 y6.1.Day, .int .i64 y6.1.Known, .int .i64 y6.1.Body.Op, .int .i64 y6.1.Body.N, .str y6.1.Body.S, .str y6.1.Body.Key, .vs 5 (encs_Expr y6.1.Body.Args), .int .i64 y6.1.Result, .vs 4 (List.map enc_Asked y6.1.Asked)]), (18, .row 49 5 (((List.map enc_Fact [(Fact.mk ([97, 114, 101, 97] : List UInt8) 100 0 0 5), (Fact.mk ([97, 114, 101, 97] : List UInt8) 90 10 0 8)])).length) (List.map enc_Fact [(Fact.mk ([97, 114, 101, 97] : List UInt8) 100 0 0 5), (Fact.mk ([97, 114, 101, 97] : List UInt8) 90 10 0 8)])), (4, .box 31 [.int .i64 y4.1.Id, .int .i64 y4.1.Day, .int .i64 y4.1.Known, .int .i64 y4.1.Body.Op, .int .i64 y4.1.Body.N, .str y4.1.Body.S, .str y4.1.Body.Key, .vs 5 (encs_Expr y4.1.Body.Args), .int .i64 y4.1.Result, .vs 4 (List.map enc_Asked y4.1.Asked)]), (2, .box 31 [.int .i64 y2.1.Id, .int .i64 y2.1.Day, .int .i64 y2.1.Known, .int .i64 y2.1.Body.Op, .int .i64 y2.1.Body.N, .str y2.1.Body.S, .str y2.1.Body.Key, .vs 5 (encs_Expr y2.1.Body.Args), .int .i64 y2.1.Result, .vs 4 (List.map enc_Asked y2.1.Asked)])] (by kernel_rfl) ?_
 refine ov_nil (nrm_thenV (v_seq (vr_text (o_runs 3 [(47, .agg [.int .i64 4, .int .i64 0, .int .i64 0, .int .i64 4, .int .i64 0, .str [], .str [], .sl 5 42 2 0 2, .int .i64 0, .nils]), (46, .agg [.int .i64 4, .int .i64 0, .str [], .str [], .sl 5 42 2 0 2]), (45, .sl 5 18 2 0 2)] (by kernel_rfl) ?_))))
 obtain ⟨y7, c7, hs⟩ := bind_some hs
 refine o_to _ [(42, .row 28 5 (((encs_Expr [(Expr.mk 1 0 ([104, 101, 105, 103, 104, 116] : List UInt8) [] []), (Expr.mk 0 1 [] [] [])])).length) (encs_Expr [(Expr.mk 1 0 ([104, 101, 105, 103, 104, 116] : List UInt8) [] []), (Expr.mk 0 1 [] [] [])])), (8, .box 28 [.int .i64 4, .int .i64 0, .str [], .str [], .sl 5 42 2 0 2]), (6, .box 31 [.int .i64 y6.1.Id, .int .i64 y6.1.Day, .int .i64 y6.1.Known, .int .i64 y6.1.Body.Op, .int .i64 y6.1.Body.N, .str y6.1.Body.S, .str y6.1.Body.Key, .vs 5 (encs_Expr y6.1.Body.Args), .int .i64 y6.1.Result, .vs 4 (List.map enc_Asked y6.1.Asked)]), (18, .row 49 5 (((List.map enc_Fact [(Fact.mk ([97, 114, 101, 97] : List UInt8) 100 0 0 5), (Fact.mk ([97, 114, 101, 97] : List UInt8) 90 10 0 8)])).length) (List.map enc_Fact [(Fact.mk ([97, 114, 101, 97] : List UInt8) 100 0 0 5), (Fact.mk ([97, 114, 101, 97] : List UInt8) 90 10 0 8)])), (4, .box 31 [.int .i64 y4.1.Id, .int .i64 y4.1.Day, .int .i64 y4.1.Known, .int .i64 y4.1.Body.Op, .int .i64 y4.1.Body.N, .str y4.1.Body.S, .str y4.1.Body.Key, .vs 5 (encs_Expr y4.1.Body.Args), .int .i64 y4.1.Result, .vs 4 (List.map enc_Asked y4.1.Asked)]), (2, .box 31 [.int .i64 y2.1.Id, .int .i64 y2.1.Day, .int .i64 y2.1.Known, .int .i64 y2.1.Body.Op, .int .i64 y2.1.Body.N, .str y2.1.Body.S, .str y2.1.Body.Key, .vs 5 (encs_Expr y2.1.Body.Args), .int .i64 y2.1.Result, .vs 4 (List.map enc_Asked y2.1.Asked)])] (cut_freeze (F := [(42, .row 28 5 0 (encs_Expr [(Expr.mk 1 0 ([104, 101, 105, 103, 104, 116] : List UInt8) [] []), (Expr.mk 0 1 [] [] [])]))]) [42] rfl (by kernel_rfl) (by kernel_rfl)) ?_
 refine o_loc (F := [(18, .row 49 5 (((List.map enc_Fact [(Fact.mk ([97, 114, 101, 97] : List UInt8) 100 0 0 5), (Fact.mk ([97, 114, 101, 97] : List UInt8) 90 10 0 8)])).length) (List.map enc_Fact [(Fact.mk ([97, 114, 101, 97] : List UInt8) 100 0 0 5), (Fact.mk ([97, 114, 101, 97] : List UInt8) 90 10 0 8)])), (42, .row 28 5 (((encs_Expr [(Expr.mk 1 0 ([104, 101, 105, 103, 104, 116] : List UInt8) [] []), (Expr.mk 0 1 [] [] [])])).length) (encs_Expr [(Expr.mk 1 0 ([104, 101, 105, 103, 104, 116] : List UInt8) [] []), (Expr.mk 0 1 [] [] [])]))]) (F' := [(18, .row 49 5 (((List.map enc_Fact [(Fact.mk ([97, 114, 101, 97] : List UInt8) 100 0 0 5), (Fact.mk ([97, 114, 101, 97] : List UInt8) 90 10 0 8)])).length) (List.map enc_Fact [(Fact.mk ([97, 114, 101, 97] : List UInt8) 100 0 0 5), (Fact.mk ([97, 114, 101, 97] : List UInt8) 90 10 0 8)])), (42, .row 28 5 (((encs_Expr [(Expr.mk 1 0 ([104, 101, 105, 103, 104, 116] : List UInt8) [] []), (Expr.mk 0 1 [] [] [])])).length) (encs_Expr [(Expr.mk 1 0 ([104, 101, 105, 103, 104, 116] : List UInt8) [] []), (Expr.mk 0 1 [] [] [])]))]) (v := .tup [.agg (enc_Formula y7.1), .int .i64 y7.2]) [18, 42] (by kernel_rfl) (by kernel_rfl) rfl (by kernel_rfl) (loc_g (R := [(18, .row 49 5 (((List.map enc_Fact [(Fact.mk ([97, 114, 101, 97] : List UInt8) 100 0 0 5), (Fact.mk ([97, 114, 101, 97] : List UInt8) 90 10 0 8)])).length) (List.map enc_Fact [(Fact.mk ([97, 114, 101, 97] : List UInt8) 100 0 0 5), (Fact.mk ([97, 114, 101, 97] : List UInt8) 90 10 0 8)])), (42, .row 28 5 (((encs_Expr [(Expr.mk 1 0 ([104, 101, 105, 103, 104, 116] : List UInt8) [] []), (Expr.mk 0 1 [] [] [])])).length) (encs_Expr [(Expr.mk 1 0 ([104, 101, 105, 103, 104, 116] : List UInt8) [] []), (Expr.mk 0 1 [] [] [])]))]) [.sl 5 18 2 0 2, .agg [.int .i64 4, .int .i64 0, .int .i64 0, .int .i64 4, .int .i64 0, .str [], .str [], .sl 5 42 2 0 2, .int .i64 0, .nils]] [] (callV_func hbv6 (by kernel_rfl)) (w_reopen_Make_2 [(Fact.mk ([97, 114, 101, 97] : List UInt8) 100 0 0 5), (Fact.mk ([97, 114, 101, 97] : List UInt8) 90 10 0 8)] 4 0 0 4 0 [] [] [(Expr.mk 1 0 ([104, 101, 105, 103, 104, 116] : List UInt8) [] []), (Expr.mk 0 1 [] [] [])] 0 [] _ c7) (.cons (.row (t := 49) (fz := (((List.map enc_Fact [(Fact.mk ([97, 114, 101, 97] : List UInt8) 100 0 0 5), (Fact.mk ([97, 114, 101, 97] : List UInt8) 90 10 0 8)])).length)) (by kernel_rfl) (by first | (simp only [List.length_map, List.length_set]; done) | rfl)) (.cons (.agg (.cons (.same _) (.cons (.same _) (.cons (.same _) (.cons (.same _) (.cons (.same _) (.cons (.same _) (.cons (.same _) (.cons (.row (t := 28) (fz := (((encs_Expr [(Expr.mk 1 0 ([104, 101, 105, 103, 104, 116] : List UInt8) [] []), (Expr.mk 0 1 [] [] [])])).length)) (by kernel_rfl) (by first | (simp only [List.length_map, List.length_set]; done) | rfl)) (.cons (.same _) (.cons (.nils _) (.nil)))))))))))) (.nil))) (by kernel_rfl) (by kernel_rfl) (by kernel_rfl) (by kernel_rfl) (by kernel_rfl) (by kernel_rfl) (by kernel_rfl) (by kernel_rfl)) (by kernel_rfl) ?_
 refine o_runh 6 [(10, .int .i64 y7.2), (9, .ptr 9 0 0), (50, .int .i64 y7.2), (49, .agg (enc_Formula y7.1)), (44, .tup [.agg (enc_Formula y7.1), .int .i64 y7.2])] [(9, .box 31 [.int .i64 y7.1.Id, .int .i64 y7.1.Day, .int .i64 y7.1.Known, .int .i64 y7.1.Body.Op, .int .i64 y7.1.Body.N, .str y7.1.Body.S, .str y7.1.Body.Key, .vs 5 (encs_Expr y7.1.Body.Args), .int .i64 y7.1.Result, .vs 4 (List.map enc_Asked y7.1.Asked)]), (18, .row 49 5 (((List.map enc_Fact [(Fact.mk ([97, 114, 101, 97] : List UInt8) 100 0 0 5), (Fact.mk ([97, 114, 101, 97] : List UInt8) 90 10 0 8)])).length) (List.map enc_Fact [(Fact.mk ([97, 114, 101, 97] : List UInt8) 100 0 0 5), (Fact.mk ([97, 114, 101, 97] : List UInt8) 90 10 0 8)])), (42, .row 28 5 (((encs_Expr [(Expr.mk 1 0 ([104, 101, 105, 103, 104, 116] : List UInt8) [] []), (Expr.mk 0 1 [] [] [])])).length) (encs_Expr [(Expr.mk 1 0 ([104, 101, 105, 103, 104, 116] : List UInt8) [] []), (Expr.mk 0 1 [] [] [])])), (8, .box 28 [.int .i64 4, .int .i64 0, .str [], .str [], .sl 5 42 2 0 2]), (6, .box 31 [.int .i64 y6.1.Id, .int .i64 y6.1.Day, .int .i64 y6.1.Known, .int .i64 y6.1.Body.Op, .int .i64 y6.1.Body.N, .str y6.1.Body.S, .str y6.1.Body.Key, .vs 5 (encs_Expr y6.1.Body.Args), .int .i64 y6.1.Result, .vs 4 (List.map enc_Asked y6.1.Asked)]), (4, .box 31 [.int .i64 y4.1.Id, .int .i64 y4.1.Day, .int .i64 y4.1.Known, .int .i64 y4.1.Body.Op, .int .i64 y4.1.Body.N, .str y4.1.Body.S, .str y4.1.Body.Key, .vs 5 (encs_Expr y4.1.Body.Args), .int .i64 y4.1.Result, .vs 4 (List.map enc_Asked y4.1.Asked)]), (2, .box 31 [.int .i64 y2.1.Id, .int .i64 y2.1.Day, .int .i64 y2.1.Known, .int .i64 y2.1.Body.Op, .int .i64 y2.1.Body.N, .str y2.1.Body.S, .str y2.1.Body.Key, .vs 5 (encs_Expr y2.1.Body.Args), .int .i64 y2.1.Result, .vs 4 (List.map enc_Asked y2.1.Asked)])] (by kernel_rfl) ?_
 refine ov_nil (nrm_thenV (v_seq (vr_text (o_runs 2 [(53, .agg [.int .i64 0, .int .i64 (-1), .int .i64 0, .int .i64 0, .int .i64 0, .str [], .str [], .nils, .int .i64 0, .nils]), (52, .sl 5 18 2 0 2)] (by kernel_rfl) ?_))))
 obtain ⟨y8, c8, hs⟩ := bind_some hs
 refine o_loc (F := [(18, .row 49 5 (((List.map enc_Fact [(Fact.mk ([97, 114, 101, 97] : List UInt8) 100 0 0 5), (Fact.mk ([97, 114, 101, 97] : List UInt8) 90 10 0 8)])).length) (List.map enc_Fact [(Fact.mk ([97, 114, 101, 97] : List UInt8) 100 0 0 5), (Fact.mk ([97, 114, 101, 97] : List UInt8) 90 10 0 8)]))]) (F' := [(18, .row 49 5 (((List.map enc_Fact [(Fact.mk ([97, 114, 101, 97] : List UInt8) 100 0 0 5), (Fact.mk ([97, 114, 101, 97] : List UInt8) 90 10 0 8)])).length) (List.map enc_Fact [(Fact.mk ([97, 114, 101, 97] : List UInt8) 100 0 0 5), (Fact.mk ([97, 114, 101, 97] : List UInt8) 90 10 0 8)]))]) (v := .tup [.agg (enc_Formula y8.1), .int .i64 y8.2]) [18] (by kernel_rfl) (by kernel_rfl) rfl (by kernel_rfl) (loc_g (R := [(18, .row 49 5 (((List.map enc_Fact [(Fact.mk ([97, 114, 101, 97] : List UInt8) 100 0 0 5), (Fact.mk ([97, 114, 101, 97] : List UInt8) 90 10 0 8)])).length) (List.map enc_Fact [(Fact.mk ([97, 114, 101, 97] : List UInt8) 100 0 0 5), (Fact.mk ([97, 114, 101, 97] : List UInt8) 90 10 0 8)]))]) [.sl 5 18 2 0 2, .agg [.int .i64 0, .int .i64 (-1), .int .i64 0, .int .i64 0, .int .i64 0, .str [], .str [], .nils, .int .i64 0, .nils]] [] (callV_func hbv6 (by kernel_rfl)) (w_reopen_Make [(Fact.mk ([97, 114, 101, 97] : List UInt8) 100 0 0 5), (Fact.mk ([97, 114, 101, 97] : List UInt8) 90 10 0 8)] (Formula.mk 0 (-1) 0 (Expr.mk 0 0 [] [] []) 0 []) _ c8) (.cons (.row (t := 49) (fz := (((List.map enc_Fact [(Fact.mk ([97, 114, 101, 97] : List UInt8) 100 0 0 5), (Fact.mk ([97, 114, 101, 97] : List UInt8) 90 10 0 8)])).length)) (by kernel_rfl) (by first | (simp only [List.length_map, List.length_set]; done) | rfl)) (.cons (.agg (.cons (.same _) (.cons (.same _) (.cons (.same _) (.cons (.same _) (.cons (.same _) (.cons (.same _) (.cons (.same _) (.cons (.nils _) (.cons (.same _) (.cons (.nils _) (.nil)))))))))))) (.nil))) (by kernel_rfl) (by kernel_rfl) (by kernel_rfl) (by kernel_rfl) (by kernel_rfl) (by kernel_rfl) (by kernel_rfl) (by kernel_rfl)) (by kernel_rfl) ?_
 refine o_runh 6 [(12, .int .i64 y8.2), (11, .ptr 11 0 0), (56, .int .i64 y8.2), (55, .agg (enc_Formula y8.1)), (51, .tup [.agg (enc_Formula y8.1), .int .i64 y8.2])] [(11, .box 31 [.int .i64 y8.1.Id, .int .i64 y8.1.Day, .int .i64 y8.1.Known, .int .i64 y8.1.Body.Op, .int .i64 y8.1.Body.N, .str y8.1.Body.S, .str y8.1.Body.Key, .vs 5 (encs_Expr y8.1.Body.Args), .int .i64 y8.1.Result, .vs 4 (List.map enc_Asked y8.1.Asked)]), (18, .row 49 5 (((List.map enc_Fact [(Fact.mk ([97, 114, 101, 97] : List UInt8) 100 0 0 5), (Fact.mk ([97, 114, 101, 97] : List UInt8) 90 10 0 8)])).length) (List.map enc_Fact [(Fact.mk ([97, 114, 101, 97] : List UInt8) 100 0 0 5), (Fact.mk ([97, 114, 101, 97] : List UInt8) 90 10 0 8)])), (9, .box 31 [.int .i64 y7.1.Id, .int .i64 y7.1.Day, .int .i64 y7.1.Known, .int .i64 y7.1.Body.Op, .int .i64 y7.1.Body.N, .str y7.1.Body.S, .str y7.1.Body.Key, .vs 5 (encs_Expr y7.1.Body.Args), .int .i64 y7.1.Result, .vs 4 (List.map enc_Asked y7.1.Asked)]), (42, .row 28 5 (((encs_Expr [(Expr.mk 1 0 ([104, 101, 105, 103, 104, 116] : List UInt8) [] []), (Expr.mk 0 1 [] [] [])])).length) (encs_Expr [(Expr.mk 1 0 ([104, 101, 105, 103, 104, 116] : List UInt8) [] []), (Expr.mk 0 1 [] [] [])])), (8, .box 28 [.int .i64 4, .int .i64 0, .str [], .str [], .sl 5 42 2 0 2]), (6, .box 31 [.int .i64 y6.1.Id, .int .i64 y6.1.Day, .int .i64 y6.1.Known, .int .i64 y6.1.Body.Op, .int .i64 y6.1.Body.N, .str y6.1.Body.S, .str y6.1.Body.Key, .vs 5 (encs_Expr y6.1.Body.Args), .int .i64 y6.1.Result, .vs 4 (List.map enc_Asked y6.1.Asked)]), (4, .box 31 [.int .i64 y4.1.Id, .int .i64 y4.1.Day, .int .i64 y4.1.Known, .int .i64 y4.1.Body.Op, .int .i64 y4.1.Body.N, .str y4.1.Body.S, .str y4.1.Body.Key, .vs 5 (encs_Expr y4.1.Body.Args), .int .i64 y4.1.Result, .vs 4 (List.map enc_Asked y4.1.Asked)]), (2, .box 31 [.int .i64 y2.1.Id, .int .i64 y2.1.Day, .int .i64 y2.1.Known, .int .i64 y2.1.Body.Op, .int .i64 y2.1.Body.N, .str y2.1.Body.S, .str y2.1.Body.Key, .vs 5 (encs_Expr y2.1.Body.Args), .int .i64 y2.1.Result, .vs 4 (List.map enc_Asked y2.1.Asked)])] (by kernel_rfl) ?_
 refine ov_nil (nrm_thenV (v_seq ?_))
 obtain ⟨z1, hs, hk1⟩ := bind_some hs
 refine v_join (S := Bool) (fun u => u = z1) (fun u => [(1, .sl 5 18 (([(Fact.mk ([97, 114, 101, 97] : List UInt8) 100 0 0 5), (Fact.mk ([97, 114, 101, 97] : List UInt8) 90 10 0 8)]).length) 0 (([(Fact.mk ([97, 114, 101, 97] : List UInt8) 100 0 0 5), (Fact.mk ([97, 114, 101, 97] : List UInt8) 90 10 0 8)]).length)), (2, .ptr 2 0 0), (4, .ptr 4 0 0), (6, .ptr 6 0 0), (9, .ptr 9 0 0), (10, .int .i64 y7.2), (12, .int .i64 y8.2), (13, .bool u)]) (fun u => [(18, .row 49 5 (((List.map enc_Fact [(Fact.mk ([97, 114, 101, 97] : List UInt8) 100 0 0 5), (Fact.mk ([97, 114, 101, 97] : List UInt8) 90 10 0 8)])).length) (List.map enc_Fact [(Fact.mk ([97, 114, 101, 97] : List UInt8) 100 0 0 5), (Fact.mk ([97, 114, 101, 97] : List UInt8) 90 10 0 8)])), (9, .box 31 [.int .i64 y7.1.Id, .int .i64 y7.1.Day, .int .i64 y7.1.Known, .int .i64 y7.1.Body.Op, .int .i64 y7.1.Body.N, .str y7.1.Body.S, .str y7.1.Body.Key, .vs 5 (encs_Expr y7.1.Body.Args), .int .i64 y7.1.Result, .vs 4 (List.map enc_Asked y7.1.Asked)]), (6, .box 31 [.int .i64 y6.1.Id, .int .i64 y6.1.Day, .int .i64 y6.1.Known, .int .i64 y6.1.Body.Op, .int .i64 y6.1.Body.N, .str y6.1.Body.S, .str y6.1.Body.Key, .vs 5 (encs_Expr y6.1.Body.Args), .int .i64 y6.1.Result, .vs 4 (List.map enc_Asked y6.1.Asked)]), (4, .box 31 [.int .i64 y4.1.Id, .int .i64 y4.1.Day, .int .i64 y4.1.Known, .int .i64 y4.1.Body.Op, .int .i64 y4.1.Body.N, .str y4.1.Body.S, .str y4.1.Body.Key, .vs 5 (encs_Expr y4.1.Body.Args), .int .i64 y4.1.Result, .vs 4 (List.map enc_Asked y4.1.Asked)]), (2, .box 31 [.int .i64 y2.1.Id, .int .i64 y2.1.Day, .int .i64 y2.1.Known, .int .i64 y2.1.Body.Op, .int .i64 y2.1.Body.N, .str y2.1.Body.S, .str y2.1.Body.Key, .vs 5 (encs_Expr y2.1.Body.Args), .int .i64 y2.1.Result, .vs 4 (List.map enc_Asked y2.1.Asked)])]) ?_ (fun v1 hz => ?_)
 ·refine vr_text (o_runs 3 [(59, .bool (decide (y2.2 = 0))), (58, .bool (decide (y2.2 = 0))), (57, .int .i64 y2.2)] (by kernel_rfl) ?_)
  cases h1 : ((decide (y2.2 = 0)))
  ·replace hs := bif_f h1 hs
   refine o_runs 30 [(13, .bool false), (88, .bool false), (87, .no), (86, .no), (85, .bool false), (84, .bool false), (83, .no), (82, .no), (81, .no), (80, .bool false), (79, .bool false), (78, .no), (77, .no), (76, .bool false), (75, .bool false), (74, .no), (73, .no), (72, .no), (71, .no), (70, .no), (69, .bool false), (68, .bool false), (67, .no), (66, .no), (65, .no), (64, .bool false), (63, .bool false), (62, .no), (61, .no), (60, .no)] (by kernel_rfl) ?_
   refine ov_nil ?_
   obtain rfl := si hs
   refine nrm_join false rfl ?_
   exact Cut.trans (cut_eq 1 (v := .sl 5 18 2 0 2) (v' := .sl 5 18 (([(Fact.mk ([97, 114, 101, 97] : List UInt8) 100 0 0 5), (Fact.mk ([97, 114, 101, 97] : List UInt8) 90 10 0 8)]).length) 0 (([(Fact.mk ([97, 114, 101, 97] : List UInt8) 100 0 0 5), (Fact.mk ([97, 114, 101, 97] : List UInt8) 90 10 0 8)]).length)) (by kernel_rfl) (by first | rfl | simp only [List.length_set])) (cut_of [1, 2, 4, 6, 9, 10, 12, 13] [18, 9, 6, 4, 2] (by kernel_rfl) (by kernel_rfl) (by kernel_rfl))
  ·replace hs := bif_t h1 hs
   refine o_runs 5 [(64, .bool (decide (y2.1.Result = 0))), (63, .bool (decide (y2.1.Result = 0))), (62, .bool (decide (y2.1.Result = 0))), (61, .int .i64 y2.1.Result), (60, .ptr 2 0 8)] (by kernel_rfl) ?_
   cases h2 : ((decide (y2.1.Result = 0)))
   ·replace hs := bif_f h2 hs
    refine o_runs 25 [(13, .bool false), (88, .bool false), (87, .no), (86, .no), (85, .bool false), (84, .bool false), (83, .no), (82, .no), (81, .no), (80, .bool false), (79, .bool false), (78, .no), (77, .no), (76, .bool false), (75, .bool false), (74, .no), (73, .no), (72, .no), (71, .no), (70, .no), (69, .bool false), (68, .bool false), (67, .no), (66, .no), (65, .no)] (by kernel_rfl) ?_
    refine ov_nil ?_
    obtain rfl := si hs
    refine nrm_join false rfl ?_
    exact Cut.trans (cut_eq 1 (v := .sl 5 18 2 0 2) (v' := .sl 5 18 (([(Fact.mk ([97, 114, 101, 97] : List UInt8) 100 0 0 5), (Fact.mk ([97, 114, 101, 97] : List UInt8) 90 10 0 8)]).length) 0 (([(Fact.mk ([97, 114, 101, 97] : List UInt8) 100 0 0 5), (Fact.mk ([97, 114, 101, 97] : List UInt8) 90 10 0 8)]).length)) (by kernel_rfl) (by first | rfl | simp only [List.length_set])) (cut_of [1, 2, 4, 6, 9, 10, 12, 13] [18, 9, 6, 4, 2] (by kernel_rfl) (by kernel_rfl) (by kernel_rfl))
   ·replace hs := bif_t h2 hs
    refine o_runs 5 [(69, .bool (decide (y2.1.Id = 1))), (68, .bool (decide (y2.1.Id = 1))), (67, .bool (decide (y2.1.Id = 1))), (66, .int .i64 y2.1.Id), (65, .ptr 2 0 0)] (by kernel_rfl) ?_
    cases h3 : ((decide (y2.1.Id = 1)))
    ·replace hs := bif_f h3 hs
     refine o_runs 20 [(13, .bool false), (88, .bool false), (87, .no), (86, .no), (85, .bool false), (84, .bool false), (83, .no), (82, .no), (81, .no), (80, .bool false), (79, .bool false), (78, .no), (77, .no), (76, .bool false), (75, .bool false), (74, .no), (73, .no), (72, .no), (71, .no), (70, .no)] (by kernel_rfl) ?_
     refine ov_nil ?_
     obtain rfl := si hs
     refine nrm_join false rfl ?_
     exact Cut.trans (cut_eq 1 (v := .sl 5 18 2 0 2) (v' := .sl 5 18 (([(Fact.mk ([97, 114, 101, 97] : List UInt8) 100 0 0 5), (Fact.mk ([97, 114, 101, 97] : List UInt8) 90 10 0 8)]).length) 0 (([(Fact.mk ([97, 114, 101, 97] : List UInt8) 100 0 0 5), (Fact.mk ([97, 114, 101, 97] : List UInt8) 90 10 0 8)]).length)) (by kernel_rfl) (by first | rfl | simp only [List.length_set])) (cut_of [1, 2, 4, 6, 9, 10, 12, 13] [18, 9, 6, 4, 2] (by kernel_rfl) (by kernel_rfl) (by kernel_rfl))
    ·replace hs := bif_t h3 hs
     refine o_runh 4 [(73, .sl 4 73 1 0 1), (72, .agg [.str ([97, 114, 101, 97] : List UInt8), .int .i64 12, .int .i64 100, .bool true]), (71, .vs 4 (List.map enc_Asked y2.1.Asked)), (70, .ptr 2 0 9)] [(73, .row 52 4 0 (List.map enc_Asked [(Asked.mk ([97, 114, 101, 97] : List UInt8) 12 100 true)])), (11, .box 31 [.int .i64 y8.1.Id, .int .i64 y8.1.Day, .int .i64 y8.1.Known, .int .i64 y8.1.Body.Op, .int .i64 y8.1.Body.N, .str y8.1.Body.S, .str y8.1.Body.Key, .vs 5 (encs_Expr y8.1.Body.Args), .int .i64 y8.1.Result, .vs 4 (List.map enc_Asked y8.1.Asked)]), (18, .row 49 5 (((List.map enc_Fact [(Fact.mk ([97, 114, 101, 97] : List UInt8) 100 0 0 5), (Fact.mk ([97, 114, 101, 97] : List UInt8) 90 10 0 8)])).length) (List.map enc_Fact [(Fact.mk ([97, 114, 101, 97] : List UInt8) 100 0 0 5), (Fact.mk ([97, 114, 101, 97] : List UInt8) 90 10 0 8)])), (9, .box 31 [.int .i64 y7.1.Id, .int .i64 y7.1.Day, .int .i64 y7.1.Known, .int .i64 y7.1.Body.Op, .int .i64 y7.1.Body.N, .str y7.1.Body.S, .str y7.1.Body.Key, .vs 5 (encs_Expr y7.1.Body.Args), .int .i64 y7.1.Result, .vs 4 (List.map enc_Asked y7.1.Asked)]), (42, .row 28 5 (((encs_Expr [(Expr.mk 1 0 ([104, 101, 105, 103, 104, 116] : List UInt8) [] []), (Expr.mk 0 1 [] [] [])])).length) (encs_Expr [(Expr.mk 1 0 ([104, 101, 105, 103, 104, 116] : List UInt8) [] []), (Expr.mk 0 1 [] [] [])])), (8, .box 28 [.int .i64 4, .int .i64 0, .str [], .str [], .sl 5 42 2 0 2]), (6, .box 31 [.int .i64 y6.1.Id, .int .i64 y6.1.Day, .int .i64 y6.1.Known, .int .i64 y6.1.Body.Op, .int .i64 y6.1.Body.N, .str y6.1.Body.S, .str y6.1.Body.Key, .vs 5 (encs_Expr y6.1.Body.Args), .int .i64 y6.1.Result, .vs 4 (List.map enc_Asked y6.1.Asked)]), (4, .box 31 [.int .i64 y4.1.Id, .int .i64 y4.1.Day, .int .i64 y4.1.Known, .int .i64 y4.1.Body.Op, .int .i64 y4.1.Body.N, .str y4.1.Body.S, .str y4.1.Body.Key, .vs 5 (encs_Expr y4.1.Body.Args), .int .i64 y4.1.Result, .vs 4 (List.map enc_Asked y4.1.Asked)]), (2, .box 31 [.int .i64 y2.1.Id, .int .i64 y2.1.Day, .int .i64 y2.1.Known, .int .i64 y2.1.Body.Op, .int .i64 y2.1.Body.N, .str y2.1.Body.S, .str y2.1.Body.Key, .vs 5 (encs_Expr y2.1.Body.Args), .int .i64 y2.1.Result, .vs 4 (List.map enc_Asked y2.1.Asked)])] (by kernel_rfl) ?_
     obtain ⟨y9, c9, hs⟩ := bind_some hs
     refine o_loc (F := [(73, .row 52 4 0 (List.map enc_Asked [(Asked.mk ([97, 114, 101, 97] : List UInt8) 12 100 true)]))]) (F' := [(73, .row 52 4 0 (List.map enc_Asked [(Asked.mk ([97, 114, 101, 97] : List UInt8) 12 100 true)]))]) (v := .bool y9) [73] (by kernel_rfl) (by kernel_rfl) rfl (by kernel_rfl) (loc_gcallB (vs := [.vs 4 (List.map enc_Asked y2.1.Asked), .sl 4 73 1 0 1]) (R := [(73, .row 52 4 0 (List.map enc_Asked [(Asked.mk ([97, 114, 101, 97] : List UInt8) 12 100 true)]))]) (callV_func hbv13 (by kernel_rfl)) (w_greenbeltref45_SameAsked y2.1.Asked [(Asked.mk ([97, 114, 101, 97] : List UInt8) 12 100 true)] _ c9) (.cons (.same _) (.cons (.row (t := 52) (fz := 0) (by kernel_rfl) (by first | (simp only [List.length_map, List.length_set]; done) | rfl)) (.nil))) (by kernel_rfl) (by kernel_rfl) (by kernel_rfl)) (by kernel_rfl) ?_
     refine o_runs 2 [(76, .bool y9), (75, .bool y9)] (by kernel_rfl) ?_
     cases h4 : (y9)
     ·replace hs := bif_f h4 hs
      refine o_runs 13 [(13, .bool false), (88, .bool false), (87, .no), (86, .no), (85, .bool false), (84, .bool false), (83, .no), (82, .no), (81, .no), (80, .bool false), (79, .bool false), (78, .no), (77, .no)] (by kernel_rfl) ?_
      refine ov_nil ?_
      obtain rfl := si hs
      refine nrm_join false rfl ?_
      exact Cut.trans (cut_eq 1 (v := .sl 5 18 2 0 2) (v' := .sl 5 18 (([(Fact.mk ([97, 114, 101, 97] : List UInt8) 100 0 0 5), (Fact.mk ([97, 114, 101, 97] : List UInt8) 90 10 0 8)]).length) 0 (([(Fact.mk ([97, 114, 101, 97] : List UInt8) 100 0 0 5), (Fact.mk ([97, 114, 101, 97] : List UInt8) 90 10 0 8)]).length)) (by kernel_rfl) (by first | rfl | simp only [List.length_set])) (cut_of [1, 2, 4, 6, 9, 10, 12, 13] [18, 9, 6, 4, 2] (by kernel_rfl) (by kernel_rfl) (by kernel_rfl))
     ·replace hs := bif_t h4 hs
      refine o_runs 4 [(80, .bool (decide (y4.2 = 0))), (79, .bool (decide (y4.2 = 0))), (78, .bool (decide (y4.2 = 0))), (77, .int .i64 y4.2)] (by kernel_rfl) ?_
      cases h5 : ((decide (y4.2 = 0)))
      ·replace hs := bif_f h5 hs
       refine o_runs 9 [(13, .bool false), (88, .bool false), (87, .no), (86, .no), (85, .bool false), (84, .bool false), (83, .no), (82, .no), (81, .no)] (by kernel_rfl) ?_
       refine ov_nil ?_
       obtain rfl := si hs
       refine nrm_join false rfl ?_
       exact Cut.trans (cut_eq 1 (v := .sl 5 18 2 0 2) (v' := .sl 5 18 (([(Fact.mk ([97, 114, 101, 97] : List UInt8) 100 0 0 5), (Fact.mk ([97, 114, 101, 97] : List UInt8) 90 10 0 8)]).length) 0 (([(Fact.mk ([97, 114, 101, 97] : List UInt8) 100 0 0 5), (Fact.mk ([97, 114, 101, 97] : List UInt8) 90 10 0 8)]).length)) (by kernel_rfl) (by first | rfl | simp only [List.length_set])) (cut_of [1, 2, 4, 6, 9, 10, 12, 13] [18, 9, 6, 4, 2] (by kernel_rfl) (by kernel_rfl) (by kernel_rfl))
      ·replace hs := bif_t h5 hs
       refine o_runs 5 [(85, .bool (decide (y4.1.Result = 1))), (84, .bool (decide (y4.1.Result = 1))), (83, .bool (decide (y4.1.Result = 1))), (82, .int .i64 y4.1.Result), (81, .ptr 4 0 8)] (by kernel_rfl) ?_
       cases h6 : ((decide (y4.1.Result = 1)))
       ·replace hs := bif_f h6 hs
        refine o_runs 4 [(13, .bool false), (88, .bool false), (87, .no), (86, .no)] (by kernel_rfl) ?_
        refine ov_nil ?_
        obtain rfl := si hs
        refine nrm_join false rfl ?_
        exact Cut.trans (cut_eq 1 (v := .sl 5 18 2 0 2) (v' := .sl 5 18 (([(Fact.mk ([97, 114, 101, 97] : List UInt8) 100 0 0 5), (Fact.mk ([97, 114, 101, 97] : List UInt8) 90 10 0 8)]).length) 0 (([(Fact.mk ([97, 114, 101, 97] : List UInt8) 100 0 0 5), (Fact.mk ([97, 114, 101, 97] : List UInt8) 90 10 0 8)]).length)) (by kernel_rfl) (by first | rfl | simp only [List.length_set])) (cut_of [1, 2, 4, 6, 9, 10, 12, 13] [18, 9, 6, 4, 2] (by kernel_rfl) (by kernel_rfl) (by kernel_rfl))
       ·replace hs := bif_t h6 hs
        refine o_runs 4 [(13, .bool (decide (y6.2 = 0))), (88, .bool (decide (y6.2 = 0))), (87, .bool (decide (y6.2 = 0))), (86, .int .i64 y6.2)] (by kernel_rfl) ?_
        refine ov_nil ?_
        obtain rfl := si hs
        refine nrm_join (decide (y6.2 = 0)) rfl ?_
        exact Cut.trans (cut_eq 1 (v := .sl 5 18 2 0 2) (v' := .sl 5 18 (([(Fact.mk ([97, 114, 101, 97] : List UInt8) 100 0 0 5), (Fact.mk ([97, 114, 101, 97] : List UInt8) 90 10 0 8)]).length) 0 (([(Fact.mk ([97, 114, 101, 97] : List UInt8) 100 0 0 5), (Fact.mk ([97, 114, 101, 97] : List UInt8) 90 10 0 8)]).length)) (by kernel_rfl) (by first | rfl | simp only [List.length_set])) (cut_of [1, 2, 4, 6, 9, 10, 12, 13] [18, 9, 6, 4, 2] (by kernel_rfl) (by kernel_rfl) (by kernel_rfl))
 ·subst hz; clear hs; have hs := hk1; clear hk1
  refine nrm_thenV (v_seq ?_)
  obtain ⟨z2, hs, hk2⟩ := bind_some hs
  refine v_join (S := Bool) (fun u => u = z2) (fun u => [(1, .sl 5 18 (([(Fact.mk ([97, 114, 101, 97] : List UInt8) 100 0 0 5), (Fact.mk ([97, 114, 101, 97] : List UInt8) 90 10 0 8)]).length) 0 (([(Fact.mk ([97, 114, 101, 97] : List UInt8) 100 0 0 5), (Fact.mk ([97, 114, 101, 97] : List UInt8) 90 10 0 8)]).length)), (2, .ptr 2 0 0), (9, .ptr 9 0 0), (10, .int .i64 y7.2), (12, .int .i64 y8.2), (13, .bool v1), (14, .bool u)]) (fun u => [(18, .row 49 5 (((List.map enc_Fact [(Fact.mk ([97, 114, 101, 97] : List UInt8) 100 0 0 5), (Fact.mk ([97, 114, 101, 97] : List UInt8) 90 10 0 8)])).length) (List.map enc_Fact [(Fact.mk ([97, 114, 101, 97] : List UInt8) 100 0 0 5), (Fact.mk ([97, 114, 101, 97] : List UInt8) 90 10 0 8)])), (9, .box 31 [.int .i64 y7.1.Id, .int .i64 y7.1.Day, .int .i64 y7.1.Known, .int .i64 y7.1.Body.Op, .int .i64 y7.1.Body.N, .str y7.1.Body.S, .str y7.1.Body.Key, .vs 5 (encs_Expr y7.1.Body.Args), .int .i64 y7.1.Result, .vs 4 (List.map enc_Asked y7.1.Asked)]), (2, .box 31 [.int .i64 y2.1.Id, .int .i64 y2.1.Day, .int .i64 y2.1.Known, .int .i64 y2.1.Body.Op, .int .i64 y2.1.Body.N, .str y2.1.Body.S, .str y2.1.Body.Key, .vs 5 (encs_Expr y2.1.Body.Args), .int .i64 y2.1.Result, .vs 4 (List.map enc_Asked y2.1.Asked)])]) ?_ (fun v2 hz => ?_)
  ·refine vr_text (o_runh 3 [(91, .sl 10 91 1 0 1), (90, .agg (enc_Formula y2.1)), (89, .sl 5 18 (([(Fact.mk ([97, 114, 101, 97] : List UInt8) 100 0 0 5), (Fact.mk ([97, 114, 101, 97] : List UInt8) 90 10 0 8)]).length) 0 (([(Fact.mk ([97, 114, 101, 97] : List UInt8) 100 0 0 5), (Fact.mk ([97, 114, 101, 97] : List UInt8) 90 10 0 8)]).length))] [(91, .row 31 10 0 (List.map enc_Formula [y2.1])), (18, .row 49 5 (((List.map enc_Fact [(Fact.mk ([97, 114, 101, 97] : List UInt8) 100 0 0 5), (Fact.mk ([97, 114, 101, 97] : List UInt8) 90 10 0 8)])).length) (List.map enc_Fact [(Fact.mk ([97, 114, 101, 97] : List UInt8) 100 0 0 5), (Fact.mk ([97, 114, 101, 97] : List UInt8) 90 10 0 8)])), (9, .box 31 [.int .i64 y7.1.Id, .int .i64 y7.1.Day, .int .i64 y7.1.Known, .int .i64 y7.1.Body.Op, .int .i64 y7.1.Body.N, .str y7.1.Body.S, .str y7.1.Body.Key, .vs 5 (encs_Expr y7.1.Body.Args), .int .i64 y7.1.Result, .vs 4 (List.map enc_Asked y7.1.Asked)]), (6, .box 31 [.int .i64 y6.1.Id, .int .i64 y6.1.Day, .int .i64 y6.1.Known, .int .i64 y6.1.Body.Op, .int .i64 y6.1.Body.N, .str y6.1.Body.S, .str y6.1.Body.Key, .vs 5 (encs_Expr y6.1.Body.Args), .int .i64 y6.1.Result, .vs 4 (List.map enc_Asked y6.1.Asked)]), (4, .box 31 [.int .i64 y4.1.Id, .int .i64 y4.1.Day, .int .i64 y4.1.Known, .int .i64 y4.1.Body.Op, .int .i64 y4.1.Body.N, .str y4.1.Body.S, .str y4.1.Body.Key, .vs 5 (encs_Expr y4.1.Body.Args), .int .i64 y4.1.Result, .vs 4 (List.map enc_Asked y4.1.Asked)]), (2, .box 31 [.int .i64 y2.1.Id, .int .i64 y2.1.Day, .int .i64 y2.1.Known, .int .i64 y2.1.Body.Op, .int .i64 y2.1.Body.N, .str y2.1.Body.S, .str y2.1.Body.Key, .vs 5 (encs_Expr y2.1.Body.Args), .int .i64 y2.1.Result, .vs 4 (List.map enc_Asked y2.1.Asked)])] (by kernel_rfl) ?_)
   obtain ⟨y10, c10, hs⟩ := bind_some hs
   refine o_to _ [(91, .row 31 10 (((List.map enc_Formula [y2.1])).length) (List.map enc_Formula [y2.1])), (18, .row 49 5 (((List.map enc_Fact [(Fact.mk ([97, 114, 101, 97] : List UInt8) 100 0 0 5), (Fact.mk ([97, 114, 101, 97] : List UInt8) 90 10 0 8)])).length) (List.map enc_Fact [(Fact.mk ([97, 114, 101, 97] : List UInt8) 100 0 0 5), (Fact.mk ([97, 114, 101, 97] : List UInt8) 90 10 0 8)])), (9, .box 31 [.int .i64 y7.1.Id, .int .i64 y7.1.Day, .int .i64 y7.1.Known, .int .i64 y7.1.Body.Op, .int .i64 y7.1.Body.N, .str y7.1.Body.S, .str y7.1.Body.Key, .vs 5 (encs_Expr y7.1.Body.Args), .int .i64 y7.1.Result, .vs 4 (List.map enc_Asked y7.1.Asked)]), (6, .box 31 [.int .i64 y6.1.Id, .int .i64 y6.1.Day, .int .i64 y6.1.Known, .int .i64 y6.1.Body.Op, .int .i64 y6.1.Body.N, .str y6.1.Body.S, .str y6.1.Body.Key, .vs 5 (encs_Expr y6.1.Body.Args), .int .i64 y6.1.Result, .vs 4 (List.map enc_Asked y6.1.Asked)]), (4, .box 31 [.int .i64 y4.1.Id, .int .i64 y4.1.Day, .int .i64 y4.1.Known, .int .i64 y4.1.Body.Op, .int .i64 y4.1.Body.N, .str y4.1.Body.S, .str y4.1.Body.Key, .vs 5 (encs_Expr y4.1.Body.Args), .int .i64 y4.1.Result, .vs 4 (List.map enc_Asked y4.1.Asked)]), (2, .box 31 [.int .i64 y2.1.Id, .int .i64 y2.1.Day, .int .i64 y2.1.Known, .int .i64 y2.1.Body.Op, .int .i64 y2.1.Body.N, .str y2.1.Body.S, .str y2.1.Body.Key, .vs 5 (encs_Expr y2.1.Body.Args), .int .i64 y2.1.Result, .vs 4 (List.map enc_Asked y2.1.Asked)])] (cut_freeze (F := [(91, .row 31 10 0 (List.map enc_Formula [y2.1]))]) [91] rfl (by kernel_rfl) (by kernel_rfl)) ?_
   refine o_loc (F := [(18, .row 49 5 (((List.map enc_Fact [(Fact.mk ([97, 114, 101, 97] : List UInt8) 100 0 0 5), (Fact.mk ([97, 114, 101, 97] : List UInt8) 90 10 0 8)])).length) (List.map enc_Fact [(Fact.mk ([97, 114, 101, 97] : List UInt8) 100 0 0 5), (Fact.mk ([97, 114, 101, 97] : List UInt8) 90 10 0 8)])), (91, .row 31 10 (((List.map enc_Formula [y2.1])).length) (List.map enc_Formula [y2.1]))]) (F' := [(18, .row 49 5 (((List.map enc_Fact [(Fact.mk ([97, 114, 101, 97] : List UInt8) 100 0 0 5), (Fact.mk ([97, 114, 101, 97] : List UInt8) 90 10 0 8)])).length) (List.map enc_Fact [(Fact.mk ([97, 114, 101, 97] : List UInt8) 100 0 0 5), (Fact.mk ([97, 114, 101, 97] : List UInt8) 90 10 0 8)])), (91, .row 31 10 (((List.map enc_Formula [y2.1])).length) (List.map enc_Formula [y2.1]))]) (v := .vs 1 (List.map EV.encI y10)) [18, 91] (by kernel_rfl) (by kernel_rfl) rfl (by kernel_rfl) (loc_g (R := [(18, .row 49 5 (((List.map enc_Fact [(Fact.mk ([97, 114, 101, 97] : List UInt8) 100 0 0 5), (Fact.mk ([97, 114, 101, 97] : List UInt8) 90 10 0 8)])).length) (List.map enc_Fact [(Fact.mk ([97, 114, 101, 97] : List UInt8) 100 0 0 5), (Fact.mk ([97, 114, 101, 97] : List UInt8) 90 10 0 8)])), (91, .row 31 10 (((List.map enc_Formula [y2.1])).length) (List.map enc_Formula [y2.1]))]) [.sl 5 18 (([(Fact.mk ([97, 114, 101, 97] : List UInt8) 100 0 0 5), (Fact.mk ([97, 114, 101, 97] : List UInt8) 90 10 0 8)]).length) 0 (([(Fact.mk ([97, 114, 101, 97] : List UInt8) 100 0 0 5), (Fact.mk ([97, 114, 101, 97] : List UInt8) 90 10 0 8)]).length), .sl 10 91 1 0 1, .int .i64 7] [] (callV_func hbv23 (by kernel_rfl)) (w_reopen_Reopened [(Fact.mk ([97, 114, 101, 97] : List UInt8) 100 0 0 5), (Fact.mk ([97, 114, 101, 97] : List UInt8) 90 10 0 8)] [y2.1] 7 _ c10) (.cons (.row (t := 49) (fz := (((List.map enc_Fact [(Fact.mk ([97, 114, 101, 97] : List UInt8) 100 0 0 5), (Fact.mk ([97, 114, 101, 97] : List UInt8) 90 10 0 8)])).length)) (by kernel_rfl) (by first | (simp only [List.length_map, List.length_set]; done) | rfl)) (.cons (.row (t := 31) (fz := (((List.map enc_Formula [y2.1])).length)) (by kernel_rfl) (by first | (simp only [List.length_map, List.length_set]; done) | rfl)) (.cons (.same _) (.nil)))) (by kernel_rfl) (by kernel_rfl) (by kernel_rfl) (by kernel_rfl) (by kernel_rfl) (by kernel_rfl) (by kernel_rfl) (by kernel_rfl)) (by kernel_rfl) ?_
   refine o_pure (v := .int .i64 (List.length y10 : Int)) (by kernel_rfl) (by kernel_rfl) (loc_lenVs (sz := 1) (els := (List.map EV.encI y10)) (by kernel_rfl) (by kernel_rfl) (List.length_map ..)) ?_
   refine o_runs 2 [(95, .bool (decide ((List.length y10 : Int) = 0))), (94, .bool (decide ((List.length y10 : Int) = 0)))] (by kernel_rfl) ?_
   cases h7 : ((decide ((List.length y10 : Int) = 0)))
   ·replace hs := bif_f h7 hs
    refine o_runs 25 [(14, .bool false), (119, .bool false), (118, .no), (117, .no), (116, .no), (115, .no), (114, .no), (113, .bool false), (112, .bool false), (111, .no), (110, .no), (109, .no), (108, .no), (107, .no), (106, .no), (105, .no), (104, .bool false), (103, .bool false), (102, .no), (101, .no), (100, .no), (99, .no), (98, .no), (97, .no), (96, .no)] (by kernel_rfl) ?_
    refine ov_nil ?_
    obtain rfl := si hs
    refine nrm_join false rfl ?_
    exact cut_of [1, 2, 9, 10, 12, 13, 14] [18, 9, 2] (by kernel_rfl) (by kernel_rfl) (by kernel_rfl)
   ·replace hs := bif_t h7 hs
    refine o_runh 4 [(99, .sl 10 99 2 0 2), (98, .agg (enc_Formula y4.1)), (97, .agg (enc_Formula y2.1)), (96, .sl 5 18 (([(Fact.mk ([97, 114, 101, 97] : List UInt8) 100 0 0 5), (Fact.mk ([97, 114, 101, 97] : List UInt8) 90 10 0 8)]).length) 0 (([(Fact.mk ([97, 114, 101, 97] : List UInt8) 100 0 0 5), (Fact.mk ([97, 114, 101, 97] : List UInt8) 90 10 0 8)]).length))] [(99, .row 31 10 0 (List.map enc_Formula [y2.1, y4.1])), (18, .row 49 5 (((List.map enc_Fact [(Fact.mk ([97, 114, 101, 97] : List UInt8) 100 0 0 5), (Fact.mk ([97, 114, 101, 97] : List UInt8) 90 10 0 8)])).length) (List.map enc_Fact [(Fact.mk ([97, 114, 101, 97] : List UInt8) 100 0 0 5), (Fact.mk ([97, 114, 101, 97] : List UInt8) 90 10 0 8)])), (91, .row 31 10 (((List.map enc_Formula [y2.1])).length) (List.map enc_Formula [y2.1])), (9, .box 31 [.int .i64 y7.1.Id, .int .i64 y7.1.Day, .int .i64 y7.1.Known, .int .i64 y7.1.Body.Op, .int .i64 y7.1.Body.N, .str y7.1.Body.S, .str y7.1.Body.Key, .vs 5 (encs_Expr y7.1.Body.Args), .int .i64 y7.1.Result, .vs 4 (List.map enc_Asked y7.1.Asked)]), (6, .box 31 [.int .i64 y6.1.Id, .int .i64 y6.1.Day, .int .i64 y6.1.Known, .int .i64 y6.1.Body.Op, .int .i64 y6.1.Body.N, .str y6.1.Body.S, .str y6.1.Body.Key, .vs 5 (encs_Expr y6.1.Body.Args), .int .i64 y6.1.Result, .vs 4 (List.map enc_Asked y6.1.Asked)]), (4, .box 31 [.int .i64 y4.1.Id, .int .i64 y4.1.Day, .int .i64 y4.1.Known, .int .i64 y4.1.Body.Op, .int .i64 y4.1.Body.N, .str y4.1.Body.S, .str y4.1.Body.Key, .vs 5 (encs_Expr y4.1.Body.Args), .int .i64 y4.1.Result, .vs 4 (List.map enc_Asked y4.1.Asked)]), (2, .box 31 [.int .i64 y2.1.Id, .int .i64 y2.1.Day, .int .i64 y2.1.Known, .int .i64 y2.1.Body.Op, .int .i64 y2.1.Body.N, .str y2.1.Body.S, .str y2.1.Body.Key, .vs 5 (encs_Expr y2.1.Body.Args), .int .i64 y2.1.Result, .vs 4 (List.map enc_Asked y2.1.Asked)])] (by kernel_rfl) ?_
    obtain ⟨y11, c11, hs⟩ := bind_some hs
    refine o_to _ [(99, .row 31 10 (((List.map enc_Formula [y2.1, y4.1])).length) (List.map enc_Formula [y2.1, y4.1])), (18, .row 49 5 (((List.map enc_Fact [(Fact.mk ([97, 114, 101, 97] : List UInt8) 100 0 0 5), (Fact.mk ([97, 114, 101, 97] : List UInt8) 90 10 0 8)])).length) (List.map enc_Fact [(Fact.mk ([97, 114, 101, 97] : List UInt8) 100 0 0 5), (Fact.mk ([97, 114, 101, 97] : List UInt8) 90 10 0 8)])), (91, .row 31 10 (((List.map enc_Formula [y2.1])).length) (List.map enc_Formula [y2.1])), (9, .box 31 [.int .i64 y7.1.Id, .int .i64 y7.1.Day, .int .i64 y7.1.Known, .int .i64 y7.1.Body.Op, .int .i64 y7.1.Body.N, .str y7.1.Body.S, .str y7.1.Body.Key, .vs 5 (encs_Expr y7.1.Body.Args), .int .i64 y7.1.Result, .vs 4 (List.map enc_Asked y7.1.Asked)]), (6, .box 31 [.int .i64 y6.1.Id, .int .i64 y6.1.Day, .int .i64 y6.1.Known, .int .i64 y6.1.Body.Op, .int .i64 y6.1.Body.N, .str y6.1.Body.S, .str y6.1.Body.Key, .vs 5 (encs_Expr y6.1.Body.Args), .int .i64 y6.1.Result, .vs 4 (List.map enc_Asked y6.1.Asked)]), (4, .box 31 [.int .i64 y4.1.Id, .int .i64 y4.1.Day, .int .i64 y4.1.Known, .int .i64 y4.1.Body.Op, .int .i64 y4.1.Body.N, .str y4.1.Body.S, .str y4.1.Body.Key, .vs 5 (encs_Expr y4.1.Body.Args), .int .i64 y4.1.Result, .vs 4 (List.map enc_Asked y4.1.Asked)]), (2, .box 31 [.int .i64 y2.1.Id, .int .i64 y2.1.Day, .int .i64 y2.1.Known, .int .i64 y2.1.Body.Op, .int .i64 y2.1.Body.N, .str y2.1.Body.S, .str y2.1.Body.Key, .vs 5 (encs_Expr y2.1.Body.Args), .int .i64 y2.1.Result, .vs 4 (List.map enc_Asked y2.1.Asked)])] (cut_freeze (F := [(99, .row 31 10 0 (List.map enc_Formula [y2.1, y4.1]))]) [99] rfl (by kernel_rfl) (by kernel_rfl)) ?_
    refine o_loc (F := [(18, .row 49 5 (((List.map enc_Fact [(Fact.mk ([97, 114, 101, 97] : List UInt8) 100 0 0 5), (Fact.mk ([97, 114, 101, 97] : List UInt8) 90 10 0 8)])).length) (List.map enc_Fact [(Fact.mk ([97, 114, 101, 97] : List UInt8) 100 0 0 5), (Fact.mk ([97, 114, 101, 97] : List UInt8) 90 10 0 8)])), (99, .row 31 10 (((List.map enc_Formula [y2.1, y4.1])).length) (List.map enc_Formula [y2.1, y4.1]))]) (F' := [(18, .row 49 5 (((List.map enc_Fact [(Fact.mk ([97, 114, 101, 97] : List UInt8) 100 0 0 5), (Fact.mk ([97, 114, 101, 97] : List UInt8) 90 10 0 8)])).length) (List.map enc_Fact [(Fact.mk ([97, 114, 101, 97] : List UInt8) 100 0 0 5), (Fact.mk ([97, 114, 101, 97] : List UInt8) 90 10 0 8)])), (99, .row 31 10 (((List.map enc_Formula [y2.1, y4.1])).length) (List.map enc_Formula [y2.1, y4.1]))]) (v := .vs 1 (List.map EV.encI y11)) [18, 99] (by kernel_rfl) (by kernel_rfl) rfl (by kernel_rfl) (loc_g (R := [(18, .row 49 5 (((List.map enc_Fact [(Fact.mk ([97, 114, 101, 97] : List UInt8) 100 0 0 5), (Fact.mk ([97, 114, 101, 97] : List UInt8) 90 10 0 8)])).length) (List.map enc_Fact [(Fact.mk ([97, 114, 101, 97] : List UInt8) 100 0 0 5), (Fact.mk ([97, 114, 101, 97] : List UInt8) 90 10 0 8)])), (99, .row 31 10 (((List.map enc_Formula [y2.1, y4.1])).length) (List.map enc_Formula [y2.1, y4.1]))]) [.sl 5 18 (([(Fact.mk ([97, 114, 101, 97] : List UInt8) 100 0 0 5), (Fact.mk ([97, 114, 101, 97] : List UInt8) 90 10 0 8)]).length) 0 (([(Fact.mk ([97, 114, 101, 97] : List UInt8) 100 0 0 5), (Fact.mk ([97, 114, 101, 97] : List UInt8) 90 10 0 8)]).length), .sl 10 99 2 0 2, .int .i64 8] [] (callV_func hbv23 (by kernel_rfl)) (w_reopen_Reopened [(Fact.mk ([97, 114, 101, 97] : List UInt8) 100 0 0 5), (Fact.mk ([97, 114, 101, 97] : List UInt8) 90 10 0 8)] [y2.1, y4.1] 8 _ c11) (.cons (.row (t := 49) (fz := (((List.map enc_Fact [(Fact.mk ([97, 114, 101, 97] : List UInt8) 100 0 0 5), (Fact.mk ([97, 114, 101, 97] : List UInt8) 90 10 0 8)])).length)) (by kernel_rfl) (by first | (simp only [List.length_map, List.length_set]; done) | rfl)) (.cons (.row (t := 31) (fz := (((List.map enc_Formula [y2.1, y4.1])).length)) (by kernel_rfl) (by first | (simp only [List.length_map, List.length_set]; done) | rfl)) (.cons (.same _) (.nil)))) (by kernel_rfl) (by kernel_rfl) (by kernel_rfl) (by kernel_rfl) (by kernel_rfl) (by kernel_rfl) (by kernel_rfl) (by kernel_rfl)) (by kernel_rfl) ?_
    refine o_runh 1 [(101, .sl 1 101 1 0 1)] [(101, .row 3 1 0 (List.map EV.encI [0])), (18, .row 49 5 (((List.map enc_Fact [(Fact.mk ([97, 114, 101, 97] : List UInt8) 100 0 0 5), (Fact.mk ([97, 114, 101, 97] : List UInt8) 90 10 0 8)])).length) (List.map enc_Fact [(Fact.mk ([97, 114, 101, 97] : List UInt8) 100 0 0 5), (Fact.mk ([97, 114, 101, 97] : List UInt8) 90 10 0 8)])), (99, .row 31 10 (((List.map enc_Formula [y2.1, y4.1])).length) (List.map enc_Formula [y2.1, y4.1])), (91, .row 31 10 (((List.map enc_Formula [y2.1])).length) (List.map enc_Formula [y2.1])), (9, .box 31 [.int .i64 y7.1.Id, .int .i64 y7.1.Day, .int .i64 y7.1.Known, .int .i64 y7.1.Body.Op, .int .i64 y7.1.Body.N, .str y7.1.Body.S, .str y7.1.Body.Key, .vs 5 (encs_Expr y7.1.Body.Args), .int .i64 y7.1.Result, .vs 4 (List.map enc_Asked y7.1.Asked)]), (6, .box 31 [.int .i64 y6.1.Id, .int .i64 y6.1.Day, .int .i64 y6.1.Known, .int .i64 y6.1.Body.Op, .int .i64 y6.1.Body.N, .str y6.1.Body.S, .str y6.1.Body.Key, .vs 5 (encs_Expr y6.1.Body.Args), .int .i64 y6.1.Result, .vs 4 (List.map enc_Asked y6.1.Asked)]), (4, .box 31 [.int .i64 y4.1.Id, .int .i64 y4.1.Day, .int .i64 y4.1.Known, .int .i64 y4.1.Body.Op, .int .i64 y4.1.Body.N, .str y4.1.Body.S, .str y4.1.Body.Key, .vs 5 (encs_Expr y4.1.Body.Args), .int .i64 y4.1.Result, .vs 4 (List.map enc_Asked y4.1.Asked)]), (2, .box 31 [.int .i64 y2.1.Id, .int .i64 y2.1.Day, .int .i64 y2.1.Known, .int .i64 y2.1.Body.Op, .int .i64 y2.1.Body.N, .str y2.1.Body.S, .str y2.1.Body.Key, .vs 5 (encs_Expr y2.1.Body.Args), .int .i64 y2.1.Result, .vs 4 (List.map enc_Asked y2.1.Asked)])] (by kernel_rfl) ?_
    obtain ⟨y12, c12, hs⟩ := bind_some hs
    refine o_loc (F := [(101, .row 3 1 0 (List.map EV.encI [0]))]) (F' := [(101, .row 3 1 0 (List.map EV.encI [0]))]) (v := .bool y12) [101] (by kernel_rfl) (by kernel_rfl) rfl (by kernel_rfl) (loc_gcallB (vs := [.vs 1 (List.map EV.encI y11), .sl 1 101 1 0 1]) (R := [(101, .row 3 1 0 (List.map EV.encI [0]))]) (callV_func hbv20 (by kernel_rfl)) (w_greenbeltref45_Ints y11 [0] _ c12) (.cons (.same _) (.cons (.row (t := 3) (fz := 0) (by kernel_rfl) (by first | (simp only [List.length_map, List.length_set]; done) | rfl)) (.nil))) (by kernel_rfl) (by kernel_rfl) (by kernel_rfl)) (by kernel_rfl) ?_
    refine o_runs 2 [(104, .bool y12), (103, .bool y12)] (by kernel_rfl) ?_
    cases h8 : (y12)
    ·replace hs := bif_f h8 hs
     refine o_runs 16 [(14, .bool false), (119, .bool false), (118, .no), (117, .no), (116, .no), (115, .no), (114, .no), (113, .bool false), (112, .bool false), (111, .no), (110, .no), (109, .no), (108, .no), (107, .no), (106, .no), (105, .no)] (by kernel_rfl) ?_
     refine ov_nil ?_
     obtain rfl := si hs
     refine nrm_join false rfl ?_
     exact cut_of [1, 2, 9, 10, 12, 13, 14] [18, 9, 2] (by kernel_rfl) (by kernel_rfl) (by kernel_rfl)
    ·replace hs := bif_t h8 hs
     refine o_runh 4 [(108, .sl 10 108 2 0 2), (107, .agg (enc_Formula y4.1)), (106, .agg (enc_Formula y2.1)), (105, .sl 5 18 (([(Fact.mk ([97, 114, 101, 97] : List UInt8) 100 0 0 5), (Fact.mk ([97, 114, 101, 97] : List UInt8) 90 10 0 8)]).length) 0 (([(Fact.mk ([97, 114, 101, 97] : List UInt8) 100 0 0 5), (Fact.mk ([97, 114, 101, 97] : List UInt8) 90 10 0 8)]).length))] [(108, .row 31 10 0 (List.map enc_Formula [y2.1, y4.1])), (101, .row 3 1 0 (List.map EV.encI [0])), (18, .row 49 5 (((List.map enc_Fact [(Fact.mk ([97, 114, 101, 97] : List UInt8) 100 0 0 5), (Fact.mk ([97, 114, 101, 97] : List UInt8) 90 10 0 8)])).length) (List.map enc_Fact [(Fact.mk ([97, 114, 101, 97] : List UInt8) 100 0 0 5), (Fact.mk ([97, 114, 101, 97] : List UInt8) 90 10 0 8)])), (99, .row 31 10 (((List.map enc_Formula [y2.1, y4.1])).length) (List.map enc_Formula [y2.1, y4.1])), (91, .row 31 10 (((List.map enc_Formula [y2.1])).length) (List.map enc_Formula [y2.1])), (9, .box 31 [.int .i64 y7.1.Id, .int .i64 y7.1.Day, .int .i64 y7.1.Known, .int .i64 y7.1.Body.Op, .int .i64 y7.1.Body.N, .str y7.1.Body.S, .str y7.1.Body.Key, .vs 5 (encs_Expr y7.1.Body.Args), .int .i64 y7.1.Result, .vs 4 (List.map enc_Asked y7.1.Asked)]), (6, .box 31 [.int .i64 y6.1.Id, .int .i64 y6.1.Day, .int .i64 y6.1.Known, .int .i64 y6.1.Body.Op, .int .i64 y6.1.Body.N, .str y6.1.Body.S, .str y6.1.Body.Key, .vs 5 (encs_Expr y6.1.Body.Args), .int .i64 y6.1.Result, .vs 4 (List.map enc_Asked y6.1.Asked)]), (4, .box 31 [.int .i64 y4.1.Id, .int .i64 y4.1.Day, .int .i64 y4.1.Known, .int .i64 y4.1.Body.Op, .int .i64 y4.1.Body.N, .str y4.1.Body.S, .str y4.1.Body.Key, .vs 5 (encs_Expr y4.1.Body.Args), .int .i64 y4.1.Result, .vs 4 (List.map enc_Asked y4.1.Asked)]), (2, .box 31 [.int .i64 y2.1.Id, .int .i64 y2.1.Day, .int .i64 y2.1.Known, .int .i64 y2.1.Body.Op, .int .i64 y2.1.Body.N, .str y2.1.Body.S, .str y2.1.Body.Key, .vs 5 (encs_Expr y2.1.Body.Args), .int .i64 y2.1.Result, .vs 4 (List.map enc_Asked y2.1.Asked)])] (by kernel_rfl) ?_
     obtain ⟨y13, c13, hs⟩ := bind_some hs
     refine o_to _ [(108, .row 31 10 (((List.map enc_Formula [y2.1, y4.1])).length) (List.map enc_Formula [y2.1, y4.1])), (101, .row 3 1 0 (List.map EV.encI [0])), (18, .row 49 5 (((List.map enc_Fact [(Fact.mk ([97, 114, 101, 97] : List UInt8) 100 0 0 5), (Fact.mk ([97, 114, 101, 97] : List UInt8) 90 10 0 8)])).length) (List.map enc_Fact [(Fact.mk ([97, 114, 101, 97] : List UInt8) 100 0 0 5), (Fact.mk ([97, 114, 101, 97] : List UInt8) 90 10 0 8)])), (99, .row 31 10 (((List.map enc_Formula [y2.1, y4.1])).length) (List.map enc_Formula [y2.1, y4.1])), (91, .row 31 10 (((List.map enc_Formula [y2.1])).length) (List.map enc_Formula [y2.1])), (9, .box 31 [.int .i64 y7.1.Id, .int .i64 y7.1.Day, .int .i64 y7.1.Known, .int .i64 y7.1.Body.Op, .int .i64 y7.1.Body.N, .str y7.1.Body.S, .str y7.1.Body.Key, .vs 5 (encs_Expr y7.1.Body.Args), .int .i64 y7.1.Result, .vs 4 (List.map enc_Asked y7.1.Asked)]), (6, .box 31 [.int .i64 y6.1.Id, .int .i64 y6.1.Day, .int .i64 y6.1.Known, .int .i64 y6.1.Body.Op, .int .i64 y6.1.Body.N, .str y6.1.Body.S, .str y6.1.Body.Key, .vs 5 (encs_Expr y6.1.Body.Args), .int .i64 y6.1.Result, .vs 4 (List.map enc_Asked y6.1.Asked)]), (4, .box 31 [.int .i64 y4.1.Id, .int .i64 y4.1.Day, .int .i64 y4.1.Known, .int .i64 y4.1.Body.Op, .int .i64 y4.1.Body.N, .str y4.1.Body.S, .str y4.1.Body.Key, .vs 5 (encs_Expr y4.1.Body.Args), .int .i64 y4.1.Result, .vs 4 (List.map enc_Asked y4.1.Asked)]), (2, .box 31 [.int .i64 y2.1.Id, .int .i64 y2.1.Day, .int .i64 y2.1.Known, .int .i64 y2.1.Body.Op, .int .i64 y2.1.Body.N, .str y2.1.Body.S, .str y2.1.Body.Key, .vs 5 (encs_Expr y2.1.Body.Args), .int .i64 y2.1.Result, .vs 4 (List.map enc_Asked y2.1.Asked)])] (cut_freeze (F := [(108, .row 31 10 0 (List.map enc_Formula [y2.1, y4.1]))]) [108] rfl (by kernel_rfl) (by kernel_rfl)) ?_
     refine o_loc (F := [(18, .row 49 5 (((List.map enc_Fact [(Fact.mk ([97, 114, 101, 97] : List UInt8) 100 0 0 5), (Fact.mk ([97, 114, 101, 97] : List UInt8) 90 10 0 8)])).length) (List.map enc_Fact [(Fact.mk ([97, 114, 101, 97] : List UInt8) 100 0 0 5), (Fact.mk ([97, 114, 101, 97] : List UInt8) 90 10 0 8)])), (108, .row 31 10 (((List.map enc_Formula [y2.1, y4.1])).length) (List.map enc_Formula [y2.1, y4.1]))]) (F' := [(18, .row 49 5 (((List.map enc_Fact [(Fact.mk ([97, 114, 101, 97] : List UInt8) 100 0 0 5), (Fact.mk ([97, 114, 101, 97] : List UInt8) 90 10 0 8)])).length) (List.map enc_Fact [(Fact.mk ([97, 114, 101, 97] : List UInt8) 100 0 0 5), (Fact.mk ([97, 114, 101, 97] : List UInt8) 90 10 0 8)])), (108, .row 31 10 (((List.map enc_Formula [y2.1, y4.1])).length) (List.map enc_Formula [y2.1, y4.1]))]) (v := .vs 1 (List.map EV.encI y13)) [18, 108] (by kernel_rfl) (by kernel_rfl) rfl (by kernel_rfl) (loc_g (R := [(18, .row 49 5 (((List.map enc_Fact [(Fact.mk ([97, 114, 101, 97] : List UInt8) 100 0 0 5), (Fact.mk ([97, 114, 101, 97] : List UInt8) 90 10 0 8)])).length) (List.map enc_Fact [(Fact.mk ([97, 114, 101, 97] : List UInt8) 100 0 0 5), (Fact.mk ([97, 114, 101, 97] : List UInt8) 90 10 0 8)])), (108, .row 31 10 (((List.map enc_Formula [y2.1, y4.1])).length) (List.map enc_Formula [y2.1, y4.1]))]) [.sl 5 18 (([(Fact.mk ([97, 114, 101, 97] : List UInt8) 100 0 0 5), (Fact.mk ([97, 114, 101, 97] : List UInt8) 90 10 0 8)]).length) 0 (([(Fact.mk ([97, 114, 101, 97] : List UInt8) 100 0 0 5), (Fact.mk ([97, 114, 101, 97] : List UInt8) 90 10 0 8)]).length), .sl 10 108 2 0 2, .int .i64 8] [] (callV_func hbv21 (by kernel_rfl)) (w_reopen_Touched [(Fact.mk ([97, 114, 101, 97] : List UInt8) 100 0 0 5), (Fact.mk ([97, 114, 101, 97] : List UInt8) 90 10 0 8)] [y2.1, y4.1] 8 _ c13) (.cons (.row (t := 49) (fz := (((List.map enc_Fact [(Fact.mk ([97, 114, 101, 97] : List UInt8) 100 0 0 5), (Fact.mk ([97, 114, 101, 97] : List UInt8) 90 10 0 8)])).length)) (by kernel_rfl) (by first | (simp only [List.length_map, List.length_set]; done) | rfl)) (.cons (.row (t := 31) (fz := (((List.map enc_Formula [y2.1, y4.1])).length)) (by kernel_rfl) (by first | (simp only [List.length_map, List.length_set]; done) | rfl)) (.cons (.same _) (.nil)))) (by kernel_rfl) (by kernel_rfl) (by kernel_rfl) (by kernel_rfl) (by kernel_rfl) (by kernel_rfl) (by kernel_rfl) (by kernel_rfl)) (by kernel_rfl) ?_
     refine o_runh 1 [(110, .sl 1 110 2 0 2)] [(110, .row 3 1 0 (List.map EV.encI [0, 1])), (18, .row 49 5 (((List.map enc_Fact [(Fact.mk ([97, 114, 101, 97] : List UInt8) 100 0 0 5), (Fact.mk ([97, 114, 101, 97] : List UInt8) 90 10 0 8)])).length) (List.map enc_Fact [(Fact.mk ([97, 114, 101, 97] : List UInt8) 100 0 0 5), (Fact.mk ([97, 114, 101, 97] : List UInt8) 90 10 0 8)])), (108, .row 31 10 (((List.map enc_Formula [y2.1, y4.1])).length) (List.map enc_Formula [y2.1, y4.1])), (101, .row 3 1 0 (List.map EV.encI [0])), (99, .row 31 10 (((List.map enc_Formula [y2.1, y4.1])).length) (List.map enc_Formula [y2.1, y4.1])), (91, .row 31 10 (((List.map enc_Formula [y2.1])).length) (List.map enc_Formula [y2.1])), (9, .box 31 [.int .i64 y7.1.Id, .int .i64 y7.1.Day, .int .i64 y7.1.Known, .int .i64 y7.1.Body.Op, .int .i64 y7.1.Body.N, .str y7.1.Body.S, .str y7.1.Body.Key, .vs 5 (encs_Expr y7.1.Body.Args), .int .i64 y7.1.Result, .vs 4 (List.map enc_Asked y7.1.Asked)]), (6, .box 31 [.int .i64 y6.1.Id, .int .i64 y6.1.Day, .int .i64 y6.1.Known, .int .i64 y6.1.Body.Op, .int .i64 y6.1.Body.N, .str y6.1.Body.S, .str y6.1.Body.Key, .vs 5 (encs_Expr y6.1.Body.Args), .int .i64 y6.1.Result, .vs 4 (List.map enc_Asked y6.1.Asked)]), (4, .box 31 [.int .i64 y4.1.Id, .int .i64 y4.1.Day, .int .i64 y4.1.Known, .int .i64 y4.1.Body.Op, .int .i64 y4.1.Body.N, .str y4.1.Body.S, .str y4.1.Body.Key, .vs 5 (encs_Expr y4.1.Body.Args), .int .i64 y4.1.Result, .vs 4 (List.map enc_Asked y4.1.Asked)]), (2, .box 31 [.int .i64 y2.1.Id, .int .i64 y2.1.Day, .int .i64 y2.1.Known, .int .i64 y2.1.Body.Op, .int .i64 y2.1.Body.N, .str y2.1.Body.S, .str y2.1.Body.Key, .vs 5 (encs_Expr y2.1.Body.Args), .int .i64 y2.1.Result, .vs 4 (List.map enc_Asked y2.1.Asked)])] (by kernel_rfl) ?_
     obtain ⟨y14, c14, hs⟩ := bind_some hs
     refine o_loc (F := [(110, .row 3 1 0 (List.map EV.encI [0, 1]))]) (F' := [(110, .row 3 1 0 (List.map EV.encI [0, 1]))]) (v := .bool y14) [110] (by kernel_rfl) (by kernel_rfl) rfl (by kernel_rfl) (loc_gcallB (vs := [.vs 1 (List.map EV.encI y13), .sl 1 110 2 0 2]) (R := [(110, .row 3 1 0 (List.map EV.encI [0, 1]))]) (callV_func hbv20 (by kernel_rfl)) (w_greenbeltref45_Ints y13 [0, 1] _ c14) (.cons (.same _) (.cons (.row (t := 3) (fz := 0) (by kernel_rfl) (by first | (simp only [List.length_map, List.length_set]; done) | rfl)) (.nil))) (by kernel_rfl) (by kernel_rfl) (by kernel_rfl)) (by kernel_rfl) ?_
     refine o_runs 2 [(113, .bool y14), (112, .bool y14)] (by kernel_rfl) ?_
     cases h9 : (y14)
     ·replace hs := bif_f h9 hs
      refine o_runs 7 [(14, .bool false), (119, .bool false), (118, .no), (117, .no), (116, .no), (115, .no), (114, .no)] (by kernel_rfl) ?_
      refine ov_nil ?_
      obtain rfl := si hs
      refine nrm_join false rfl ?_
      exact cut_of [1, 2, 9, 10, 12, 13, 14] [18, 9, 2] (by kernel_rfl) (by kernel_rfl) (by kernel_rfl)
     ·replace hs := bif_t h9 hs
      refine o_runs 2 [(115, .agg (enc_Formula y6.1)), (114, .sl 5 18 (([(Fact.mk ([97, 114, 101, 97] : List UInt8) 100 0 0 5), (Fact.mk ([97, 114, 101, 97] : List UInt8) 90 10 0 8)]).length) 0 (([(Fact.mk ([97, 114, 101, 97] : List UInt8) 100 0 0 5), (Fact.mk ([97, 114, 101, 97] : List UInt8) 90 10 0 8)]).length))] (by kernel_rfl) ?_
      obtain ⟨y15, c15, hs⟩ := bind_some hs
      refine o_loc (F := [(18, .row 49 5 (((List.map enc_Fact [(Fact.mk ([97, 114, 101, 97] : List UInt8) 100 0 0 5), (Fact.mk ([97, 114, 101, 97] : List UInt8) 90 10 0 8)])).length) (List.map enc_Fact [(Fact.mk ([97, 114, 101, 97] : List UInt8) 100 0 0 5), (Fact.mk ([97, 114, 101, 97] : List UInt8) 90 10 0 8)]))]) (F' := [(18, .row 49 5 (((List.map enc_Fact [(Fact.mk ([97, 114, 101, 97] : List UInt8) 100 0 0 5), (Fact.mk ([97, 114, 101, 97] : List UInt8) 90 10 0 8)])).length) (List.map enc_Fact [(Fact.mk ([97, 114, 101, 97] : List UInt8) 100 0 0 5), (Fact.mk ([97, 114, 101, 97] : List UInt8) 90 10 0 8)]))]) (v := .vs 1 (List.map EV.encS y15)) [18] (by kernel_rfl) (by kernel_rfl) rfl (by kernel_rfl) (loc_g (R := [(18, .row 49 5 (((List.map enc_Fact [(Fact.mk ([97, 114, 101, 97] : List UInt8) 100 0 0 5), (Fact.mk ([97, 114, 101, 97] : List UInt8) 90 10 0 8)])).length) (List.map enc_Fact [(Fact.mk ([97, 114, 101, 97] : List UInt8) 100 0 0 5), (Fact.mk ([97, 114, 101, 97] : List UInt8) 90 10 0 8)]))]) [.sl 5 18 (([(Fact.mk ([97, 114, 101, 97] : List UInt8) 100 0 0 5), (Fact.mk ([97, 114, 101, 97] : List UInt8) 90 10 0 8)]).length) 0 (([(Fact.mk ([97, 114, 101, 97] : List UInt8) 100 0 0 5), (Fact.mk ([97, 114, 101, 97] : List UInt8) 90 10 0 8)]).length), .agg (enc_Formula y6.1), .int .i64 8] [] (callV_func hbv17 (by kernel_rfl)) (w_reopen_Stale [(Fact.mk ([97, 114, 101, 97] : List UInt8) 100 0 0 5), (Fact.mk ([97, 114, 101, 97] : List UInt8) 90 10 0 8)] y6.1 8 _ c15) (.cons (.row (t := 49) (fz := (((List.map enc_Fact [(Fact.mk ([97, 114, 101, 97] : List UInt8) 100 0 0 5), (Fact.mk ([97, 114, 101, 97] : List UInt8) 90 10 0 8)])).length)) (by kernel_rfl) (by first | (simp only [List.length_map, List.length_set]; done) | rfl)) (.cons (.same _) (.cons (.same _) (.nil)))) (by kernel_rfl) (by kernel_rfl) (by kernel_rfl) (by kernel_rfl) (by kernel_rfl) (by kernel_rfl) (by kernel_rfl) (by kernel_rfl)) (by kernel_rfl) ?_
      refine o_pure (v := .int .i64 (List.length y15 : Int)) (by kernel_rfl) (by kernel_rfl) (loc_lenVs (sz := 1) (els := (List.map EV.encS y15)) (by kernel_rfl) (by kernel_rfl) (List.length_map ..)) ?_
      refine o_runs 3 [(14, .bool (decide ((List.length y15 : Int) = 0))), (119, .bool (decide ((List.length y15 : Int) = 0))), (118, .bool (decide ((List.length y15 : Int) = 0)))] (by kernel_rfl) ?_
      refine ov_nil ?_
      obtain rfl := si hs
      refine nrm_join (decide ((List.length y15 : Int) = 0)) rfl ?_
      exact cut_of [1, 2, 9, 10, 12, 13, 14] [18, 9, 2] (by kernel_rfl) (by kernel_rfl) (by kernel_rfl)
  ·subst hz; clear hs; have hs := hk2; clear hk2
   refine nrm_thenV (v_seq ?_)
   obtain ⟨z3, hs, hk3⟩ := bind_some hs
   refine v_join (S := Bool) (fun u => u = z3) (fun u => [(1, .sl 5 18 (([(Fact.mk ([97, 114, 101, 97] : List UInt8) 100 0 0 5), (Fact.mk ([97, 114, 101, 97] : List UInt8) 90 10 0 8)]).length) 0 (([(Fact.mk ([97, 114, 101, 97] : List UInt8) 100 0 0 5), (Fact.mk ([97, 114, 101, 97] : List UInt8) 90 10 0 8)]).length)), (2, .ptr 2 0 0), (13, .bool v1), (14, .bool v2), (15, .bool u)]) (fun u => [(18, .row 49 5 (((List.map enc_Fact [(Fact.mk ([97, 114, 101, 97] : List UInt8) 100 0 0 5), (Fact.mk ([97, 114, 101, 97] : List UInt8) 90 10 0 8)])).length) (List.map enc_Fact [(Fact.mk ([97, 114, 101, 97] : List UInt8) 100 0 0 5), (Fact.mk ([97, 114, 101, 97] : List UInt8) 90 10 0 8)])), (2, .box 31 [.int .i64 y2.1.Id, .int .i64 y2.1.Day, .int .i64 y2.1.Known, .int .i64 y2.1.Body.Op, .int .i64 y2.1.Body.N, .str y2.1.Body.S, .str y2.1.Body.Key, .vs 5 (encs_Expr y2.1.Body.Args), .int .i64 y2.1.Result, .vs 4 (List.map enc_Asked y2.1.Asked)])]) ?_ (fun v3 hz => ?_)
   ·refine vr_text (o_runs 3 [(122, .bool (decide (y7.2 = 0))), (121, .bool (decide (y7.2 = 0))), (120, .int .i64 y7.2)] (by kernel_rfl) ?_)
    cases h10 : ((decide (y7.2 = 0)))
    ·replace hs := bif_f h10 hs
     refine o_runs 16 [(15, .bool false), (137, .bool false), (136, .no), (135, .no), (134, .bool false), (133, .bool false), (132, .no), (131, .no), (130, .no), (129, .no), (128, .no), (127, .bool false), (126, .bool false), (125, .no), (124, .no), (123, .no)] (by kernel_rfl) ?_
     refine ov_nil ?_
     obtain rfl := si hs
     refine nrm_join false rfl ?_
     exact cut_of [1, 2, 13, 14, 15] [18, 2] (by kernel_rfl) (by kernel_rfl) (by kernel_rfl)
    ·replace hs := bif_t h10 hs
     refine o_runs 5 [(127, .bool (decide (y7.1.Result = 1))), (126, .bool (decide (y7.1.Result = 1))), (125, .bool (decide (y7.1.Result = 1))), (124, .int .i64 y7.1.Result), (123, .ptr 9 0 8)] (by kernel_rfl) ?_
     cases h11 : ((decide (y7.1.Result = 1)))
     ·replace hs := bif_f h11 hs
      refine o_runs 11 [(15, .bool false), (137, .bool false), (136, .no), (135, .no), (134, .bool false), (133, .bool false), (132, .no), (131, .no), (130, .no), (129, .no), (128, .no)] (by kernel_rfl) ?_
      refine ov_nil ?_
      obtain rfl := si hs
      refine nrm_join false rfl ?_
      exact cut_of [1, 2, 13, 14, 15] [18, 2] (by kernel_rfl) (by kernel_rfl) (by kernel_rfl)
     ·replace hs := bif_t h11 hs
      refine o_runh 4 [(131, .sl 4 131 1 0 1), (130, .agg [.str ([104, 101, 105, 103, 104, 116] : List UInt8), .int .i64 0, .int .i64 0, .bool false]), (129, .vs 4 (List.map enc_Asked y7.1.Asked)), (128, .ptr 9 0 9)] [(131, .row 52 4 0 (List.map enc_Asked [(Asked.mk ([104, 101, 105, 103, 104, 116] : List UInt8) 0 0 false)])), (18, .row 49 5 (((List.map enc_Fact [(Fact.mk ([97, 114, 101, 97] : List UInt8) 100 0 0 5), (Fact.mk ([97, 114, 101, 97] : List UInt8) 90 10 0 8)])).length) (List.map enc_Fact [(Fact.mk ([97, 114, 101, 97] : List UInt8) 100 0 0 5), (Fact.mk ([97, 114, 101, 97] : List UInt8) 90 10 0 8)])), (9, .box 31 [.int .i64 y7.1.Id, .int .i64 y7.1.Day, .int .i64 y7.1.Known, .int .i64 y7.1.Body.Op, .int .i64 y7.1.Body.N, .str y7.1.Body.S, .str y7.1.Body.Key, .vs 5 (encs_Expr y7.1.Body.Args), .int .i64 y7.1.Result, .vs 4 (List.map enc_Asked y7.1.Asked)]), (2, .box 31 [.int .i64 y2.1.Id, .int .i64 y2.1.Day, .int .i64 y2.1.Known, .int .i64 y2.1.Body.Op, .int .i64 y2.1.Body.N, .str y2.1.Body.S, .str y2.1.Body.Key, .vs 5 (encs_Expr y2.1.Body.Args), .int .i64 y2.1.Result, .vs 4 (List.map enc_Asked y2.1.Asked)])] (by kernel_rfl) ?_
      obtain ⟨y16, c16, hs⟩ := bind_some hs
      refine o_loc (F := [(131, .row 52 4 0 (List.map enc_Asked [(Asked.mk ([104, 101, 105, 103, 104, 116] : List UInt8) 0 0 false)]))]) (F' := [(131, .row 52 4 0 (List.map enc_Asked [(Asked.mk ([104, 101, 105, 103, 104, 116] : List UInt8) 0 0 false)]))]) (v := .bool y16) [131] (by kernel_rfl) (by kernel_rfl) rfl (by kernel_rfl) (loc_gcallB (vs := [.vs 4 (List.map enc_Asked y7.1.Asked), .sl 4 131 1 0 1]) (R := [(131, .row 52 4 0 (List.map enc_Asked [(Asked.mk ([104, 101, 105, 103, 104, 116] : List UInt8) 0 0 false)]))]) (callV_func hbv13 (by kernel_rfl)) (w_greenbeltref45_SameAsked y7.1.Asked [(Asked.mk ([104, 101, 105, 103, 104, 116] : List UInt8) 0 0 false)] _ c16) (.cons (.same _) (.cons (.row (t := 52) (fz := 0) (by kernel_rfl) (by first | (simp only [List.length_map, List.length_set]; done) | rfl)) (.nil))) (by kernel_rfl) (by kernel_rfl) (by kernel_rfl)) (by kernel_rfl) ?_
      refine o_runs 2 [(134, .bool y16), (133, .bool y16)] (by kernel_rfl) ?_
      cases h12 : (y16)
      ·replace hs := bif_f h12 hs
       refine o_runs 4 [(15, .bool false), (137, .bool false), (136, .no), (135, .no)] (by kernel_rfl) ?_
       refine ov_nil ?_
       obtain rfl := si hs
       refine nrm_join false rfl ?_
       exact cut_of [1, 2, 13, 14, 15] [18, 2] (by kernel_rfl) (by kernel_rfl) (by kernel_rfl)
      ·replace hs := bif_t h12 hs
       refine o_runs 4 [(15, .bool (decide (y8.2 = 1))), (137, .bool (decide (y8.2 = 1))), (136, .bool (decide (y8.2 = 1))), (135, .int .i64 y8.2)] (by kernel_rfl) ?_
       refine ov_nil ?_
       obtain rfl := si hs
       refine nrm_join (decide (y8.2 = 1)) rfl ?_
       exact cut_of [1, 2, 13, 14, 15] [18, 2] (by kernel_rfl) (by kernel_rfl) (by kernel_rfl)
   ·subst hz; clear hs; have hs := hk3; clear hk3
    refine nrm_thenV (v_seq ?_)
    obtain ⟨z4, hs, hk4⟩ := bind_some hs
    refine v_join (S := Bool) (fun u => u = z4) (fun u => [(0, .bool u)]) (fun u => []) ?_ (fun v4 hz => ?_)
    ·refine vr_text (o_runs 2 [(139, .bool v1), (138, .bool v1)] (by kernel_rfl) ?_)
     cases h13 : (v1)
     ·replace hs := bif_f h13 hs
      refine o_runs 25 [(0, .bool false), (163, .bool false), (162, .no), (161, .no), (160, .no), (159, .no), (158, .no), (157, .bool false), (156, .bool false), (155, .no), (154, .no), (153, .no), (152, .no), (151, .no), (150, .bool false), (149, .bool false), (148, .no), (147, .no), (146, .no), (145, .bool false), (144, .bool false), (143, .no), (142, .bool false), (141, .bool false), (140, .no)] (by kernel_rfl) ?_
      refine ov_nil ?_
      obtain rfl := si hs
      refine nrm_join false rfl ?_
      exact cut_of [0] [] (by kernel_rfl) (by kernel_rfl) (by kernel_rfl)
     ·replace hs := bif_t h13 hs
      refine o_runs 3 [(142, .bool v2), (141, .bool v2), (140, .bool v2)] (by kernel_rfl) ?_
      cases h14 : (v2)
      ·replace hs := bif_f h14 hs
       refine o_runs 22 [(0, .bool false), (163, .bool false), (162, .no), (161, .no), (160, .no), (159, .no), (158, .no), (157, .bool false), (156, .bool false), (155, .no), (154, .no), (153, .no), (152, .no), (151, .no), (150, .bool false), (149, .bool false), (148, .no), (147, .no), (146, .no), (145, .bool false), (144, .bool false), (143, .no)] (by kernel_rfl) ?_
       refine ov_nil ?_
       obtain rfl := si hs
       refine nrm_join false rfl ?_
       exact cut_of [0] [] (by kernel_rfl) (by kernel_rfl) (by kernel_rfl)
      ·replace hs := bif_t h14 hs
       refine o_runs 3 [(145, .bool v3), (144, .bool v3), (143, .bool v3)] (by kernel_rfl) ?_
       cases h15 : (v3)
       ·replace hs := bif_f h15 hs
        refine o_runs 19 [(0, .bool false), (163, .bool false), (162, .no), (161, .no), (160, .no), (159, .no), (158, .no), (157, .bool false), (156, .bool false), (155, .no), (154, .no), (153, .no), (152, .no), (151, .no), (150, .bool false), (149, .bool false), (148, .no), (147, .no), (146, .no)] (by kernel_rfl) ?_
        refine ov_nil ?_
        obtain rfl := si hs
        refine nrm_join false rfl ?_
        exact cut_of [0] [] (by kernel_rfl) (by kernel_rfl) (by kernel_rfl)
       ·replace hs := bif_t h15 hs
        refine o_runs 2 [(147, .agg (enc_Formula y2.1)), (146, .sl 5 18 (([(Fact.mk ([97, 114, 101, 97] : List UInt8) 100 0 0 5), (Fact.mk ([97, 114, 101, 97] : List UInt8) 90 10 0 8)]).length) 0 (([(Fact.mk ([97, 114, 101, 97] : List UInt8) 100 0 0 5), (Fact.mk ([97, 114, 101, 97] : List UInt8) 90 10 0 8)]).length))] (by kernel_rfl) ?_
        obtain ⟨y17, c17, hs⟩ := bind_some hs
        refine o_loc (F := [(18, .row 49 5 (((List.map enc_Fact [(Fact.mk ([97, 114, 101, 97] : List UInt8) 100 0 0 5), (Fact.mk ([97, 114, 101, 97] : List UInt8) 90 10 0 8)])).length) (List.map enc_Fact [(Fact.mk ([97, 114, 101, 97] : List UInt8) 100 0 0 5), (Fact.mk ([97, 114, 101, 97] : List UInt8) 90 10 0 8)]))]) (F' := [(18, .row 49 5 (((List.map enc_Fact [(Fact.mk ([97, 114, 101, 97] : List UInt8) 100 0 0 5), (Fact.mk ([97, 114, 101, 97] : List UInt8) 90 10 0 8)])).length) (List.map enc_Fact [(Fact.mk ([97, 114, 101, 97] : List UInt8) 100 0 0 5), (Fact.mk ([97, 114, 101, 97] : List UInt8) 90 10 0 8)]))]) (v := .bool y17) [18] (by kernel_rfl) (by kernel_rfl) rfl (by kernel_rfl) (loc_gcallB (vs := [.sl 5 18 (([(Fact.mk ([97, 114, 101, 97] : List UInt8) 100 0 0 5), (Fact.mk ([97, 114, 101, 97] : List UInt8) 90 10 0 8)]).length) 0 (([(Fact.mk ([97, 114, 101, 97] : List UInt8) 100 0 0 5), (Fact.mk ([97, 114, 101, 97] : List UInt8) 90 10 0 8)]).length), .agg (enc_Formula y2.1)]) (R := [(18, .row 49 5 (((List.map enc_Fact [(Fact.mk ([97, 114, 101, 97] : List UInt8) 100 0 0 5), (Fact.mk ([97, 114, 101, 97] : List UInt8) 90 10 0 8)])).length) (List.map enc_Fact [(Fact.mk ([97, 114, 101, 97] : List UInt8) 100 0 0 5), (Fact.mk ([97, 114, 101, 97] : List UInt8) 90 10 0 8)]))]) (callV_func hbv11 (by kernel_rfl)) (w_reopen_Holds [(Fact.mk ([97, 114, 101, 97] : List UInt8) 100 0 0 5), (Fact.mk ([97, 114, 101, 97] : List UInt8) 90 10 0 8)] y2.1 _ c17) (.cons (.row (t := 49) (fz := (((List.map enc_Fact [(Fact.mk ([97, 114, 101, 97] : List UInt8) 100 0 0 5), (Fact.mk ([97, 114, 101, 97] : List UInt8) 90 10 0 8)])).length)) (by kernel_rfl) (by first | (simp only [List.length_map, List.length_set]; done) | rfl)) (.cons (.same _) (.nil))) (by kernel_rfl) (by kernel_rfl) (by kernel_rfl)) (by kernel_rfl) ?_
        refine o_runs 2 [(150, .bool y17), (149, .bool y17)] (by kernel_rfl) ?_
        cases h16 : (y17)
        ·replace hs := bif_f h16 hs
         refine o_runs 14 [(0, .bool false), (163, .bool false), (162, .no), (161, .no), (160, .no), (159, .no), (158, .no), (157, .bool false), (156, .bool false), (155, .no), (154, .no), (153, .no), (152, .no), (151, .no)] (by kernel_rfl) ?_
         refine ov_nil ?_
         obtain rfl := si hs
         refine nrm_join false rfl ?_
         exact cut_of [0] [] (by kernel_rfl) (by kernel_rfl) (by kernel_rfl)
        ·replace hs := bif_t h16 hs
         refine o_runs 1 [(151, .sl 5 18 (([(Fact.mk ([97, 114, 101, 97] : List UInt8) 100 0 0 5), (Fact.mk ([97, 114, 101, 97] : List UInt8) 90 10 0 8)]).length) 0 (([(Fact.mk ([97, 114, 101, 97] : List UInt8) 100 0 0 5), (Fact.mk ([97, 114, 101, 97] : List UInt8) 90 10 0 8)]).length))] (by kernel_rfl) ?_
         obtain ⟨y18, c18, hs⟩ := bind_some hs
         refine o_pure (v := .agg (enc_Expr y18)) (by kernel_rfl) (by kernel_rfl) (loc_gcall0 (callV_func hbv25 (by kernel_rfl)) (w_greenbeltlaw45_less ([97, 114, 101, 97] : List UInt8) 95 _ c18) (by kernel_rfl)) ?_
         refine o_runs 1 [(153, .agg [.int .i64 1, .int .i64 12, .int .i64 6, .int .i64 y18.Op, .int .i64 y18.N, .str y18.S, .str y18.Key, .vs 5 (encs_Expr y18.Args), .int .i64 0, .nils])] (by kernel_rfl) ?_
         obtain ⟨y19, c19, hs⟩ := bind_some hs
         refine o_loc (F := [(18, .row 49 5 (((List.map enc_Fact [(Fact.mk ([97, 114, 101, 97] : List UInt8) 100 0 0 5), (Fact.mk ([97, 114, 101, 97] : List UInt8) 90 10 0 8)])).length) (List.map enc_Fact [(Fact.mk ([97, 114, 101, 97] : List UInt8) 100 0 0 5), (Fact.mk ([97, 114, 101, 97] : List UInt8) 90 10 0 8)]))]) (F' := [(18, .row 49 5 (((List.map enc_Fact [(Fact.mk ([97, 114, 101, 97] : List UInt8) 100 0 0 5), (Fact.mk ([97, 114, 101, 97] : List UInt8) 90 10 0 8)])).length) (List.map enc_Fact [(Fact.mk ([97, 114, 101, 97] : List UInt8) 100 0 0 5), (Fact.mk ([97, 114, 101, 97] : List UInt8) 90 10 0 8)]))]) (v := .bool y19) [18] (by kernel_rfl) (by kernel_rfl) rfl (by kernel_rfl) (loc_gcallB (vs := [.sl 5 18 (([(Fact.mk ([97, 114, 101, 97] : List UInt8) 100 0 0 5), (Fact.mk ([97, 114, 101, 97] : List UInt8) 90 10 0 8)]).length) 0 (([(Fact.mk ([97, 114, 101, 97] : List UInt8) 100 0 0 5), (Fact.mk ([97, 114, 101, 97] : List UInt8) 90 10 0 8)]).length), .agg [.int .i64 1, .int .i64 12, .int .i64 6, .int .i64 y18.Op, .int .i64 y18.N, .str y18.S, .str y18.Key, .vs 5 (encs_Expr y18.Args), .int .i64 0, .nils]]) (R := [(18, .row 49 5 (((List.map enc_Fact [(Fact.mk ([97, 114, 101, 97] : List UInt8) 100 0 0 5), (Fact.mk ([97, 114, 101, 97] : List UInt8) 90 10 0 8)])).length) (List.map enc_Fact [(Fact.mk ([97, 114, 101, 97] : List UInt8) 100 0 0 5), (Fact.mk ([97, 114, 101, 97] : List UInt8) 90 10 0 8)]))]) (callV_func hbv11 (by kernel_rfl)) (w_reopen_Holds [(Fact.mk ([97, 114, 101, 97] : List UInt8) 100 0 0 5), (Fact.mk ([97, 114, 101, 97] : List UInt8) 90 10 0 8)] (Formula.mk 1 12 6 y18 0 []) _ c19) (.cons (.row (t := 49) (fz := (((List.map enc_Fact [(Fact.mk ([97, 114, 101, 97] : List UInt8) 100 0 0 5), (Fact.mk ([97, 114, 101, 97] : List UInt8) 90 10 0 8)])).length)) (by kernel_rfl) (by first | (simp only [List.length_map, List.length_set]; done) | rfl)) (.cons (.agg (.cons (.same _) (.cons (.same _) (.cons (.same _) (.cons (.same _) (.cons (.same _) (.cons (.same _) (.cons (.same _) (.cons (.same _) (.cons (.same _) (.cons (.nils _) (.nil)))))))))))) (.nil))) (by kernel_rfl) (by kernel_rfl) (by kernel_rfl)) (by kernel_rfl) ?_
         refine o_runs 3 [(157, .bool (!y19)), (156, .bool (!y19)), (155, .bool (!y19))] (by kernel_rfl) ?_
         cases h17 : ((!y19))
         ·replace hs := bif_f h17 hs
          refine o_runs 7 [(0, .bool false), (163, .bool false), (162, .no), (161, .no), (160, .no), (159, .no), (158, .no)] (by kernel_rfl) ?_
          refine ov_nil ?_
          obtain rfl := si hs
          refine nrm_join false rfl ?_
          exact cut_of [0] [] (by kernel_rfl) (by kernel_rfl) (by kernel_rfl)
         ·replace hs := bif_t h17 hs
          refine o_runs 2 [(159, .agg (enc_Formula y2.1)), (158, .sl 5 18 (([(Fact.mk ([97, 114, 101, 97] : List UInt8) 100 0 0 5), (Fact.mk ([97, 114, 101, 97] : List UInt8) 90 10 0 8)]).length) 0 (([(Fact.mk ([97, 114, 101, 97] : List UInt8) 100 0 0 5), (Fact.mk ([97, 114, 101, 97] : List UInt8) 90 10 0 8)]).length))] (by kernel_rfl) ?_
          obtain ⟨y20, c20, hs⟩ := bind_some hs
          refine o_loc (F := [(18, .row 49 5 (((List.map enc_Fact [(Fact.mk ([97, 114, 101, 97] : List UInt8) 100 0 0 5), (Fact.mk ([97, 114, 101, 97] : List UInt8) 90 10 0 8)])).length) (List.map enc_Fact [(Fact.mk ([97, 114, 101, 97] : List UInt8) 100 0 0 5), (Fact.mk ([97, 114, 101, 97] : List UInt8) 90 10 0 8)]))]) (F' := [(18, .row 49 5 (((List.map enc_Fact [(Fact.mk ([97, 114, 101, 97] : List UInt8) 100 0 0 5), (Fact.mk ([97, 114, 101, 97] : List UInt8) 90 10 0 8)])).length) (List.map enc_Fact [(Fact.mk ([97, 114, 101, 97] : List UInt8) 100 0 0 5), (Fact.mk ([97, 114, 101, 97] : List UInt8) 90 10 0 8)]))]) (v := .vs 1 (List.map EV.encS y20)) [18] (by kernel_rfl) (by kernel_rfl) rfl (by kernel_rfl) (loc_g (R := [(18, .row 49 5 (((List.map enc_Fact [(Fact.mk ([97, 114, 101, 97] : List UInt8) 100 0 0 5), (Fact.mk ([97, 114, 101, 97] : List UInt8) 90 10 0 8)])).length) (List.map enc_Fact [(Fact.mk ([97, 114, 101, 97] : List UInt8) 100 0 0 5), (Fact.mk ([97, 114, 101, 97] : List UInt8) 90 10 0 8)]))]) [.sl 5 18 (([(Fact.mk ([97, 114, 101, 97] : List UInt8) 100 0 0 5), (Fact.mk ([97, 114, 101, 97] : List UInt8) 90 10 0 8)]).length) 0 (([(Fact.mk ([97, 114, 101, 97] : List UInt8) 100 0 0 5), (Fact.mk ([97, 114, 101, 97] : List UInt8) 90 10 0 8)]).length), .agg (enc_Formula y2.1), .int .i64 8] [] (callV_func hbv17 (by kernel_rfl)) (w_reopen_Stale [(Fact.mk ([97, 114, 101, 97] : List UInt8) 100 0 0 5), (Fact.mk ([97, 114, 101, 97] : List UInt8) 90 10 0 8)] y2.1 8 _ c20) (.cons (.row (t := 49) (fz := (((List.map enc_Fact [(Fact.mk ([97, 114, 101, 97] : List UInt8) 100 0 0 5), (Fact.mk ([97, 114, 101, 97] : List UInt8) 90 10 0 8)])).length)) (by kernel_rfl) (by first | (simp only [List.length_map, List.length_set]; done) | rfl)) (.cons (.same _) (.cons (.same _) (.nil)))) (by kernel_rfl) (by kernel_rfl) (by kernel_rfl) (by kernel_rfl) (by kernel_rfl) (by kernel_rfl) (by kernel_rfl) (by kernel_rfl)) (by kernel_rfl) ?_
          refine o_runh 1 [(161, .sl 1 161 1 0 1)] [(161, .row 9 1 0 (List.map EV.encS [([97, 114, 101, 97] : List UInt8)])), (18, .row 49 5 (((List.map enc_Fact [(Fact.mk ([97, 114, 101, 97] : List UInt8) 100 0 0 5), (Fact.mk ([97, 114, 101, 97] : List UInt8) 90 10 0 8)])).length) (List.map enc_Fact [(Fact.mk ([97, 114, 101, 97] : List UInt8) 100 0 0 5), (Fact.mk ([97, 114, 101, 97] : List UInt8) 90 10 0 8)])), (2, .box 31 [.int .i64 y2.1.Id, .int .i64 y2.1.Day, .int .i64 y2.1.Known, .int .i64 y2.1.Body.Op, .int .i64 y2.1.Body.N, .str y2.1.Body.S, .str y2.1.Body.Key, .vs 5 (encs_Expr y2.1.Body.Args), .int .i64 y2.1.Result, .vs 4 (List.map enc_Asked y2.1.Asked)])] (by kernel_rfl) ?_
          obtain ⟨y21, c21, hs⟩ := bind_some hs
          refine o_loc (F := [(161, .row 9 1 0 (List.map EV.encS [([97, 114, 101, 97] : List UInt8)]))]) (F' := [(161, .row 9 1 0 (List.map EV.encS [([97, 114, 101, 97] : List UInt8)]))]) (v := .bool y21) [161] (by kernel_rfl) (by kernel_rfl) rfl (by kernel_rfl) (loc_gcallB (vs := [.vs 1 (List.map EV.encS y20), .sl 1 161 1 0 1]) (R := [(161, .row 9 1 0 (List.map EV.encS [([97, 114, 101, 97] : List UInt8)]))]) (callV_func hbv16 (by kernel_rfl)) (w_greenbeltref45_Texts y20 [([97, 114, 101, 97] : List UInt8)] _ c21) (.cons (.same _) (.cons (.row (t := 9) (fz := 0) (by kernel_rfl) (by first | (simp only [List.length_map, List.length_set]; done) | rfl)) (.nil))) (by kernel_rfl) (by kernel_rfl) (by kernel_rfl)) (by kernel_rfl) ?_
          refine o_runs 2 [(0, .bool y21), (163, .bool y21)] (by kernel_rfl) ?_
          refine ov_nil ?_
          obtain rfl := si hs
          refine nrm_join y21 rfl ?_
          exact cut_of [0] [] (by kernel_rfl) (by kernel_rfl) (by kernel_rfl)
    ·subst hz; clear hs; have hs := hk4; clear hk4
     refine nrm_thenV (v_ret ?_)
     obtain rfl := si hs
     exact fin_ret (by kernel_rfl) (by kernel_rfl) (by kernel_rfl)
theorem ws_greenbeltref16_Size (nF : Nat) (ih_greenbeltref16_Size : ∀ (e : Expr) (r : Int), s_greenbeltref16_Size nF e = some r → FnA Tryz.prog 26 [.agg (enc_Expr e)] [] (.int .i64 r) []) (e : Expr) (r : Int) (hs : s_greenbeltref16_Size (nF + 1) e = some r) : FnA Tryz.prog 26 [.agg (enc_Expr e)] [] (.int .i64 r) [] := by
 refine fnA_of_wp (N := 21) Tryz.func26 rfl rfl rfl fun cK0 => ?_
 rw [s_greenbeltref16_Size] at hs
 refine v_same (ρ' := [(0, .agg (enc_Expr e))]) rfl rfl ?_
 refine v_seq (vr_text (o_runh 2 [(2, .int .i64 0), (1, .ptr 1 0 0)] [(1, .box 28 [.int .i64 e.Op, .int .i64 e.N, .str e.S, .str e.Key, .vs 5 (encs_Expr e.Args)])] (by kernel_rfl) ?_))
 refine ov_nil (nrm_thenV (v_seq (vr_text (o_runs 1 [(3, .int .i64 1)] (by kernel_rfl) ?_))))
 refine ov_nil (nrm_thenV (v_seq (v_seq (vr_text (o_runs 1 [(4, .int .i64 0)] (by kernel_rfl) ?_)))))
 refine ov_nil (nrm_thenV ?_)
 obtain ⟨z1, hs, hk1⟩ := bind_some hs
 refine v_join (S := Int) (fun u => u = z1) (fun u => [(3, .int .i64 u)]) (fun u => []) ?_ (fun v1 hz => ?_)
 ·refine v_block ?_
  refine v_fuel (S := Int × Int) (fun u => [(1, .ptr 1 0 0), (3, .int .i64 u.1), (4, .int .i64 u.2)]) (fun u => [(1, .box 28 [.int .i64 e.Op, .int .i64 e.N, .str e.S, .str e.Key, .vs 5 (encs_Expr e.Args)])]) (s_greenbeltref16_Size_L1 (s_greenbeltref16_Size nF) e) (fun _ => rfl) KK (1, 0) hs (cut_of [1, 3, 4] [1] (by kernel_rfl) (by kernel_rfl) (by kernel_rfl)) (fun K1 q1 hs => ?_)
  rw [s_greenbeltref16_Size_L1] at hs
  show WpV cK0 Tryz.prog none 21 _ _ [(1, .ptr 1 0 0), (3, .int .i64 q1.1), (4, .int .i64 q1.2)] [(1, .box 28 [.int .i64 e.Op, .int .i64 e.N, .str e.S, .str e.Key, .vs 5 (encs_Expr e.Args)])] []
  refine v_seq (v_seq (vr_text (o_runs 3 [(7, .vs 5 (encs_Expr e.Args)), (6, .ptr 1 0 4), (5, .int .i64 q1.2)] (by kernel_rfl) ?_)))
  refine o_pure (v := .int .i64 (List.length e.Args : Int)) (by kernel_rfl) (by kernel_rfl) (loc_lenVs (sz := 5) (els := (encs_Expr e.Args)) (by kernel_rfl) (by kernel_rfl) (by rw [encs_Expr_eq, List.length_map])) ?_
  refine o_runs 1 [(9, .bool (decide (q1.2 < (List.length e.Args : Int))))] (by kernel_rfl) ?_
  refine ov_nil (nrm_thenV ?_)
  refine v_cond (decide (q1.2 < (List.length e.Args : Int))) (by kernel_rfl) (fun h1 => ?_) (fun h1 => ?_)
  ·replace hs := bif_t h1 hs
   refine v_skip (nrm_thenV (v_seq (v_block (vr_text (o_runs 4 [(15, .int .i64 q1.2), (14, .vs 5 (encs_Expr e.Args)), (13, .ptr 1 0 4), (12, .int .i64 q1.1)] (by kernel_rfl) ?_)))))
   obtain ⟨x1, g1, hs⟩ := bind_some hs; obtain ⟨g1a, g1b, g1c⟩ := idx_some g1
   refine o_pure (v := .vp (enc_Expr x1) 0) (by kernel_rfl) (by kernel_rfl) (loc_indexVs (e := 28) (sz := 5) (k := .i64) (els := (encs_Expr e.Args)) (cs := (enc_Expr x1)) (by kernel_rfl) (by kernel_rfl) (by kernel_rfl) g1a (by rw [g1c, encs_Expr_eq]; exact map_get _ (by omega))) ?_
   refine o_runs 1 [(17, .agg (enc_Expr x1))] (by kernel_rfl) ?_
   obtain ⟨y1, c1, hs⟩ := bind_some hs
   refine o_pure (v := .int .i64 y1) (by kernel_rfl) (by kernel_rfl) (loc_gcall0 (callV_func hbv26 (by kernel_rfl)) (ih_greenbeltref16_Size x1 _ c1) (by kernel_rfl)) ?_
   refine o_runs 2 [(3, .int .i64 (w64 (q1.1 + y1))), (19, .int .i64 (w64 (q1.1 + y1)))] (by kernel_rfl) ?_
   refine ov_nil (nrm_blkV (nrm_thenV (vr_text (o_runs 3 [(4, .int .i64 (w64 (q1.2 + 1))), (11, .int .i64 (w64 (q1.2 + 1))), (10, .int .i64 q1.2)] (by kernel_rfl) ?_))))
   refine ov_nil (nrm_fuel ((w64 (q1.1 + y1)), (w64 (q1.2 + 1))) hs ?_)
   exact cut_of [1, 3, 4] [1] (by kernel_rfl) (by kernel_rfl) (by kernel_rfl)
  ·replace hs := bif_f h1 hs
   refine v_exit (exit_thenV (exit_fuel ?_))
   refine exit_blkV ?_
   obtain rfl := si hs
   refine nrm_join q1.1 rfl ?_
   exact cut_of [3] [] (by kernel_rfl) (by kernel_rfl) (by kernel_rfl)
 ·subst hz; clear hs; have hs := hk1; clear hk1
  refine nrm_thenV (v_seq (vr_text (o_runs 2 [(2, .int .i64 v1), (20, .int .i64 v1)] (by kernel_rfl) ?_)))
  refine ov_nil (nrm_thenV (v_ret ?_))
  obtain rfl := si hs
  exact fin_ret (by kernel_rfl) (by kernel_rfl) (by kernel_rfl)
theorem wr_greenbeltref16_Size : ∀ nF : Nat, (∀ (e : Expr) (r : Int), s_greenbeltref16_Size nF e = some r → FnA Tryz.prog 26 [.agg (enc_Expr e)] [] (.int .i64 r) [])
 | 0 => fun e r hs => by rw [s_greenbeltref16_Size] at hs; cases hs
 | nF + 1 => fun e r hs => ws_greenbeltref16_Size nF (wr_greenbeltref16_Size nF) e r hs
theorem w_greenbeltref16_Size (nF : Nat) (e : Expr) (r : Int) (hs : s_greenbeltref16_Size nF e = some r) : FnA Tryz.prog 26 [.agg (enc_Expr e)] [] (.int .i64 r) [] := (wr_greenbeltref16_Size nF) e r hs
theorem w_greenbeltref45_Few (base : (List Fact)) (l : (List Formula)) (r : Bool) (hs : s_greenbeltref45_Few base l = some r) : FnA Tryz.prog 5 [.vs 5 (List.map enc_Fact base), .vs 10 (List.map enc_Formula l)] [] (.bool r) [] := by
 refine fnA_of_wp (N := 40) Tryz.func5 rfl rfl rfl fun cK0 => ?_
 unfold s_greenbeltref45_Few at hs
 refine v_same (ρ' := [(0, .vs 5 (List.map enc_Fact base)), (1, .vs 10 (List.map enc_Formula l))]) rfl rfl ?_
 refine v_seq (vr_text (o_runs 1 [(4, .bool false)] (by kernel_rfl) ?_))
 refine ov_nil (nrm_thenV (v_seq (v_seq (vr_text (o_runs 1 [(5, .int .i64 0)] (by kernel_rfl) ?_)))))
 refine ov_nil (nrm_thenV ?_)
 obtain ⟨z1, hs, hk1⟩ := bind_some hs
 refine v_join (S := Unit) (fun u => z1 = .inr u) (fun u => [(0, .vs 5 (List.map enc_Fact base)), (1, .vs 10 (List.map enc_Formula l))]) (fun u => []) ?_ (fun v1 hz => ?_)
 ·refine v_block ?_
  refine v_fuel (S := Int) (fun u => [(0, .vs 5 (List.map enc_Fact base)), (1, .vs 10 (List.map enc_Formula l)), (5, .int .i64 u)]) (fun u => []) (s_greenbeltref45_Few_L1 l) (fun _ => rfl) KK 0 hs (cut_of [0, 1, 5] [] (by kernel_rfl) (by kernel_rfl) (by kernel_rfl)) (fun K1 q1 hs => ?_)
  rw [s_greenbeltref45_Few_L1] at hs
  show WpV cK0 Tryz.prog none 40 _ _ [(0, .vs 5 (List.map enc_Fact base)), (1, .vs 10 (List.map enc_Formula l)), (5, .int .i64 q1)] [] []
  refine v_seq (v_seq ?_)
  obtain ⟨z2, hs, hk2⟩ := bind_some hs
  refine v_join (S := Bool) (fun u => u = z2) (fun u => [(0, .vs 5 (List.map enc_Fact base)), (1, .vs 10 (List.map enc_Formula l)), (5, .int .i64 q1), (13, .bool u)]) (fun u => []) ?_ (fun v2 hz => ?_)
  ·refine vr_text (o_runs 2 [(7, .vs 10 (List.map enc_Formula l)), (6, .int .i64 q1)] (by kernel_rfl) ?_)
   refine o_pure (v := .int .i64 (List.length l : Int)) (by kernel_rfl) (by kernel_rfl) (loc_lenVs (sz := 10) (els := (List.map enc_Formula l)) (by kernel_rfl) (by kernel_rfl) (List.length_map ..)) ?_
   refine o_runs 2 [(10, .bool (decide (q1 < (List.length l : Int)))), (9, .bool (decide (q1 < (List.length l : Int))))] (by kernel_rfl) ?_
   cases h1 : ((decide (q1 < (List.length l : Int))))
   ·replace hs := bif_f h1 hs
    refine o_runs 3 [(13, .bool false), (12, .no), (11, .no)] (by kernel_rfl) ?_
    refine ov_nil ?_
    obtain rfl := si hs
    refine nrm_join false rfl ?_
    exact cut_of [0, 1, 5, 13] [] (by kernel_rfl) (by kernel_rfl) (by kernel_rfl)
   ·replace hs := bif_t h1 hs
    refine o_runs 3 [(13, .bool (decide (q1 ≤ 8))), (12, .bool (decide (q1 ≤ 8))), (11, .int .i64 q1)] (by kernel_rfl) ?_
    refine ov_nil ?_
    obtain rfl := si hs
    refine nrm_join (decide (q1 ≤ 8)) rfl ?_
    exact cut_of [0, 1, 5, 13] [] (by kernel_rfl) (by kernel_rfl) (by kernel_rfl)
  ·subst hz; clear hs; have hs := hk2; clear hk2
   refine nrm_thenV ?_
   refine v_cond v2 (by kernel_rfl) (fun h2 => ?_) (fun h2 => ?_)
   ·replace hs := bif_t h2 hs
    refine v_skip (nrm_thenV (v_seq (v_block (v_seq ?_))))
    obtain ⟨z3, hs, hk3⟩ := bind_some hs
    refine v_join (S := Bool) (fun u => u = z3) (fun u => [(0, .vs 5 (List.map enc_Fact base)), (1, .vs 10 (List.map enc_Formula l)), (5, .int .i64 q1), (31, .bool u)]) (fun u => []) ?_ (fun v3 hz => ?_)
    ·refine vr_text (o_runs 2 [(17, .int .i64 q1), (16, .vs 10 (List.map enc_Formula l))] (by kernel_rfl) ?_)
     obtain ⟨x1, g1, hs⟩ := bind_some hs; obtain ⟨g1a, g1b, g1c⟩ := idx_some g1
     refine o_pure (v := .vp (enc_Formula x1) 0) (by kernel_rfl) (by kernel_rfl) (loc_indexVs (e := 31) (sz := 10) (k := .i64) (els := (List.map enc_Formula l)) (cs := (enc_Formula x1)) (by kernel_rfl) (by kernel_rfl) (by kernel_rfl) g1a (by rw [g1c]; exact map_get _ (by omega))) ?_
     refine o_runs 2 [(20, .agg (enc_Expr x1.Body)), (19, .vp (enc_Formula x1) 3)] (by kernel_rfl) ?_
     obtain ⟨y1, c1, hs⟩ := bind_some hs
     refine o_pure (v := .int .i64 y1) (by kernel_rfl) (by kernel_rfl) (loc_gcall0 (callV_func hbv26 (by kernel_rfl)) (w_greenbeltref16_Size KK x1.Body _ c1) (by kernel_rfl)) ?_
     refine o_runs 2 [(23, .bool (decide (y1 > 40))), (22, .bool (decide (y1 > 40)))] (by kernel_rfl) ?_
     cases h3 : ((decide (y1 > 40)))
     ·replace hs := bif_f h3 hs
      refine o_runs 2 [(25, .int .i64 q1), (24, .vs 10 (List.map enc_Formula l))] (by kernel_rfl) ?_
      obtain ⟨x2, g2, hs⟩ := bind_some hs; obtain ⟨g2a, g2b, g2c⟩ := idx_some g2
      refine o_pure (v := .vp (enc_Formula x2) 0) (by kernel_rfl) (by kernel_rfl) (loc_indexVs (e := 31) (sz := 10) (k := .i64) (els := (List.map enc_Formula l)) (cs := (enc_Formula x2)) (by kernel_rfl) (by kernel_rfl) (by kernel_rfl) g2a (by rw [g2c]; exact map_get _ (by omega))) ?_
      refine o_runs 2 [(28, .vs 4 (List.map enc_Asked x2.Asked)), (27, .vp (enc_Formula x2) 9)] (by kernel_rfl) ?_
      refine o_pure (v := .int .i64 (List.length x2.Asked : Int)) (by kernel_rfl) (by kernel_rfl) (loc_lenVs (sz := 4) (els := (List.map enc_Asked x2.Asked)) (by kernel_rfl) (by kernel_rfl) (List.length_map ..)) ?_
      refine o_runs 2 [(31, .bool (decide ((List.length x2.Asked : Int) > 20))), (30, .bool (decide ((List.length x2.Asked : Int) > 20)))] (by kernel_rfl) ?_
      refine ov_nil ?_
      obtain rfl := si hs
      refine nrm_join (decide ((List.length x2.Asked : Int) > 20)) rfl ?_
      exact cut_of [0, 1, 5, 31] [] (by kernel_rfl) (by kernel_rfl) (by kernel_rfl)
     ·replace hs := bif_t h3 hs
      refine o_runs 8 [(31, .bool true), (30, .no), (29, .no), (28, .no), (27, .no), (26, .no), (25, .no), (24, .no)] (by kernel_rfl) ?_
      refine ov_nil ?_
      obtain rfl := si hs
      refine nrm_join true rfl ?_
      exact cut_of [0, 1, 5, 31] [] (by kernel_rfl) (by kernel_rfl) (by kernel_rfl)
    ·subst hz; clear hs; have hs := hk3; clear hk3
     refine nrm_thenV ?_
     refine v_cond v3 (by kernel_rfl) (fun h4 => ?_) (fun h4 => ?_)
     ·replace hs := bif_t h4 hs
      refine v_seq (vr_text (o_runs 1 [(4, .bool false)] (by kernel_rfl) ?_))
      refine ov_nil (nrm_thenV (v_ret (ret_blkV (ret_thenV (ret_fuel ?_)))))
      refine ret_blkV (ret_join ?_)
      refine ret_thenV ?_
      obtain rfl := si hs
      replace hs := hk1
      obtain rfl := si hs
      exact fin_ret (by kernel_rfl) (by kernel_rfl) (by kernel_rfl)
     ·replace hs := bif_f h4 hs
      refine v_skip (nrm_blkV (nrm_thenV (vr_text (o_runs 3 [(5, .int .i64 (w64 (q1 + 1))), (15, .int .i64 (w64 (q1 + 1))), (14, .int .i64 q1)] (by kernel_rfl) ?_))))
      refine ov_nil (nrm_fuel (w64 (q1 + 1)) hs ?_)
      exact cut_of [0, 1, 5] [] (by kernel_rfl) (by kernel_rfl) (by kernel_rfl)
   ·replace hs := bif_f h2 hs
    refine v_exit (exit_thenV (exit_fuel ?_))
    refine exit_blkV ?_
    obtain rfl := si hs
    refine nrm_join () rfl ?_
    exact cut_of [0, 1] [] (by kernel_rfl) (by kernel_rfl) (by kernel_rfl)
 ·subst hz; clear hs; have hs := hk1; clear hk1
  refine nrm_thenV (v_seq ?_)
  obtain ⟨z4, hs, hk4⟩ := bind_some hs
  refine v_join (S := Bool) (fun u => u = z4) (fun u => [(4, .bool u)]) (fun u => []) ?_ (fun v4 hz => ?_)
  ·refine vr_text (o_runs 1 [(32, .vs 5 (List.map enc_Fact base))] (by kernel_rfl) ?_)
   refine o_pure (v := .int .i64 (List.length base : Int)) (by kernel_rfl) (by kernel_rfl) (loc_lenVs (sz := 5) (els := (List.map enc_Fact base)) (by kernel_rfl) (by kernel_rfl) (List.length_map ..)) ?_
   refine o_runs 2 [(35, .bool (decide ((List.length base : Int) ≤ 30))), (34, .bool (decide ((List.length base : Int) ≤ 30)))] (by kernel_rfl) ?_
   cases h5 : ((decide ((List.length base : Int) ≤ 30)))
   ·replace hs := bif_f h5 hs
    refine o_runs 5 [(4, .bool false), (39, .bool false), (38, .no), (37, .no), (36, .no)] (by kernel_rfl) ?_
    refine ov_nil ?_
    obtain rfl := si hs
    refine nrm_join false rfl ?_
    exact cut_of [4] [] (by kernel_rfl) (by kernel_rfl) (by kernel_rfl)
   ·replace hs := bif_t h5 hs
    refine o_runs 1 [(36, .vs 10 (List.map enc_Formula l))] (by kernel_rfl) ?_
    refine o_pure (v := .int .i64 (List.length l : Int)) (by kernel_rfl) (by kernel_rfl) (loc_lenVs (sz := 10) (els := (List.map enc_Formula l)) (by kernel_rfl) (by kernel_rfl) (List.length_map ..)) ?_
    refine o_runs 3 [(4, .bool (decide ((List.length l : Int) ≤ 8))), (39, .bool (decide ((List.length l : Int) ≤ 8))), (38, .bool (decide ((List.length l : Int) ≤ 8)))] (by kernel_rfl) ?_
    refine ov_nil ?_
    obtain rfl := si hs
    refine nrm_join (decide ((List.length l : Int) ≤ 8)) rfl ?_
    exact cut_of [4] [] (by kernel_rfl) (by kernel_rfl) (by kernel_rfl)
  ·subst hz; clear hs; have hs := hk4; clear hk4
   refine nrm_thenV (v_ret ?_)
   obtain rfl := si hs
   exact fin_ret (by kernel_rfl) (by kernel_rfl) (by kernel_rfl)
theorem w_greenbeltref44_Valid (f : Fact) (r : Bool) (hs : s_greenbeltref44_Valid f = some r) : FnA Tryz.prog 45 [.agg (enc_Fact f)] [] (.bool r) [] := by
 refine fnA_of_wp (N := 48) Tryz.func45 rfl rfl rfl fun cK0 => ?_
 unfold s_greenbeltref44_Valid at hs
 refine v_same (ρ' := [(0, .agg (enc_Fact f))]) rfl rfl ?_
 refine v_seq (vr_text (o_runh 2 [(2, .bool false), (1, .ptr 1 0 0)] [(1, .box 49 [.str f.Key, .int .i64 f.Value, .int .i64 f.From, .int .i64 f.Until, .int .i64 f.Known])] (by kernel_rfl) ?_))
 refine ov_nil (nrm_thenV (v_seq (v_seq ?_)))
 obtain ⟨z1, hs, hk1⟩ := bind_some hs
 refine v_join (S := Bool) (fun u => u = z1) (fun u => [(1, .ptr 1 0 0), (32, .bool u)]) (fun u => [(1, .box 49 [.str f.Key, .int .i64 f.Value, .int .i64 f.From, .int .i64 f.Until, .int .i64 f.Known])]) ?_ (fun v1 hz => ?_)
 ·refine vr_text (o_runs 5 [(7, .bool (decide ((List.length f.Key : Int) < 1))), (6, .bool (decide ((List.length f.Key : Int) < 1))), (5, .int .i64 (List.length f.Key : Int)), (4, .str f.Key), (3, .ptr 1 0 0)] (by kernel_rfl) ?_)
  cases h1 : ((decide ((List.length f.Key : Int) < 1)))
  ·replace hs := bif_f h1 hs
   refine o_runs 6 [(13, .bool (decide ((List.length f.Key : Int) > 20))), (12, .bool (decide ((List.length f.Key : Int) > 20))), (11, .bool (decide ((List.length f.Key : Int) > 20))), (10, .int .i64 (List.length f.Key : Int)), (9, .str f.Key), (8, .ptr 1 0 0)] (by kernel_rfl) ?_
   cases h2 : ((decide ((List.length f.Key : Int) > 20)))
   ·replace hs := bif_f h2 hs
    refine o_runs 5 [(18, .bool (decide (f.From < 0))), (17, .bool (decide (f.From < 0))), (16, .bool (decide (f.From < 0))), (15, .int .i64 f.From), (14, .ptr 1 0 2)] (by kernel_rfl) ?_
    cases h3 : ((decide (f.From < 0)))
    ·replace hs := bif_f h3 hs
     refine o_runs 5 [(23, .bool (decide (f.From > 1073741824))), (22, .bool (decide (f.From > 1073741824))), (21, .bool (decide (f.From > 1073741824))), (20, .int .i64 f.From), (19, .ptr 1 0 2)] (by kernel_rfl) ?_
     cases h4 : ((decide (f.From > 1073741824)))
     ·replace hs := bif_f h4 hs
      refine o_runs 5 [(28, .bool (decide (f.Known < 0))), (27, .bool (decide (f.Known < 0))), (26, .bool (decide (f.Known < 0))), (25, .int .i64 f.Known), (24, .ptr 1 0 4)] (by kernel_rfl) ?_
      cases h5 : ((decide (f.Known < 0)))
      ·replace hs := bif_f h5 hs
       refine o_runs 4 [(32, .bool (decide (f.Known > 1073741824))), (31, .bool (decide (f.Known > 1073741824))), (30, .int .i64 f.Known), (29, .ptr 1 0 4)] (by kernel_rfl) ?_
       refine ov_nil ?_
       obtain rfl := si hs
       refine nrm_join (decide (f.Known > 1073741824)) rfl ?_
       exact cut_of [1, 32] [1] (by kernel_rfl) (by kernel_rfl) (by kernel_rfl)
      ·replace hs := bif_t h5 hs
       refine o_runs 4 [(32, .bool true), (31, .no), (30, .no), (29, .no)] (by kernel_rfl) ?_
       refine ov_nil ?_
       obtain rfl := si hs
       refine nrm_join true rfl ?_
       exact cut_of [1, 32] [1] (by kernel_rfl) (by kernel_rfl) (by kernel_rfl)
     ·replace hs := bif_t h4 hs
      refine o_runs 9 [(32, .bool true), (31, .no), (30, .no), (29, .no), (28, .bool true), (27, .bool true), (26, .no), (25, .no), (24, .no)] (by kernel_rfl) ?_
      refine ov_nil ?_
      obtain rfl := si hs
      refine nrm_join true rfl ?_
      exact cut_of [1, 32] [1] (by kernel_rfl) (by kernel_rfl) (by kernel_rfl)
    ·replace hs := bif_t h3 hs
     refine o_runs 14 [(32, .bool true), (31, .no), (30, .no), (29, .no), (28, .bool true), (27, .bool true), (26, .no), (25, .no), (24, .no), (23, .bool true), (22, .bool true), (21, .no), (20, .no), (19, .no)] (by kernel_rfl) ?_
     refine ov_nil ?_
     obtain rfl := si hs
     refine nrm_join true rfl ?_
     exact cut_of [1, 32] [1] (by kernel_rfl) (by kernel_rfl) (by kernel_rfl)
   ·replace hs := bif_t h2 hs
    refine o_runs 19 [(32, .bool true), (31, .no), (30, .no), (29, .no), (28, .bool true), (27, .bool true), (26, .no), (25, .no), (24, .no), (23, .bool true), (22, .bool true), (21, .no), (20, .no), (19, .no), (18, .bool true), (17, .bool true), (16, .no), (15, .no), (14, .no)] (by kernel_rfl) ?_
    refine ov_nil ?_
    obtain rfl := si hs
    refine nrm_join true rfl ?_
    exact cut_of [1, 32] [1] (by kernel_rfl) (by kernel_rfl) (by kernel_rfl)
  ·replace hs := bif_t h1 hs
   refine o_runs 25 [(32, .bool true), (31, .no), (30, .no), (29, .no), (28, .bool true), (27, .bool true), (26, .no), (25, .no), (24, .no), (23, .bool true), (22, .bool true), (21, .no), (20, .no), (19, .no), (18, .bool true), (17, .bool true), (16, .no), (15, .no), (14, .no), (13, .bool true), (12, .bool true), (11, .no), (10, .no), (9, .no), (8, .no)] (by kernel_rfl) ?_
   refine ov_nil ?_
   obtain rfl := si hs
   refine nrm_join true rfl ?_
   exact cut_of [1, 32] [1] (by kernel_rfl) (by kernel_rfl) (by kernel_rfl)
 ·subst hz; clear hs; have hs := hk1; clear hk1
  refine nrm_thenV ?_
  refine v_cond v1 (by kernel_rfl) (fun h6 => ?_) (fun h6 => ?_)
  ·replace hs := bif_t h6 hs
   refine v_seq (vr_text (o_runs 1 [(2, .bool false)] (by kernel_rfl) ?_))
   refine ov_nil (nrm_thenV (v_ret (ret_thenV ?_)))
   obtain rfl := si hs
   exact fin_ret (by kernel_rfl) (by kernel_rfl) (by kernel_rfl)
  ·replace hs := bif_f h6 hs
   refine v_skip (nrm_thenV (v_seq ?_))
   obtain ⟨z2, hs, hk2⟩ := bind_some hs
   refine v_join (S := Bool) (fun u => u = z2) (fun u => [(2, .bool u)]) (fun u => []) ?_ (fun v2 hz => ?_)
   ·refine vr_text (o_runs 4 [(36, .bool (decide (f.Until = 0))), (35, .bool (decide (f.Until = 0))), (34, .int .i64 f.Until), (33, .ptr 1 0 3)] (by kernel_rfl) ?_)
    cases h7 : ((decide (f.Until = 0)))
    ·replace hs := bif_f h7 hs
     refine o_runs 6 [(42, .bool (decide (f.Until > f.From))), (41, .bool (decide (f.Until > f.From))), (40, .int .i64 f.From), (39, .ptr 1 0 2), (38, .int .i64 f.Until), (37, .ptr 1 0 3)] (by kernel_rfl) ?_
     cases h8 : ((decide (f.Until > f.From)))
     ·replace hs := bif_f h8 hs
      refine o_runs 6 [(2, .bool false), (47, .bool false), (46, .bool false), (45, .no), (44, .no), (43, .no)] (by kernel_rfl) ?_
      refine ov_nil ?_
      obtain rfl := si hs
      refine nrm_join false rfl ?_
      exact cut_of [2] [] (by kernel_rfl) (by kernel_rfl) (by kernel_rfl)
     ·replace hs := bif_t h8 hs
      refine o_runs 6 [(2, .bool (decide (f.Until ≤ 1073741824))), (47, .bool (decide (f.Until ≤ 1073741824))), (46, .bool (decide (f.Until ≤ 1073741824))), (45, .bool (decide (f.Until ≤ 1073741824))), (44, .int .i64 f.Until), (43, .ptr 1 0 3)] (by kernel_rfl) ?_
      refine ov_nil ?_
      obtain rfl := si hs
      refine nrm_join (decide (f.Until ≤ 1073741824)) rfl ?_
      exact cut_of [2] [] (by kernel_rfl) (by kernel_rfl) (by kernel_rfl)
    ·replace hs := bif_t h7 hs
     refine o_runs 12 [(2, .bool true), (47, .bool true), (46, .no), (45, .no), (44, .no), (43, .no), (42, .no), (41, .no), (40, .no), (39, .no), (38, .no), (37, .no)] (by kernel_rfl) ?_
     refine ov_nil ?_
     obtain rfl := si hs
     refine nrm_join true rfl ?_
     exact cut_of [2] [] (by kernel_rfl) (by kernel_rfl) (by kernel_rfl)
   ·subst hz; clear hs; have hs := hk2; clear hk2
    refine nrm_thenV (v_ret ?_)
    obtain rfl := si hs
    exact fin_ret (by kernel_rfl) (by kernel_rfl) (by kernel_rfl)
theorem w_greenbeltref44_Right (base : (List Fact)) (r : Bool) (hs : s_greenbeltref44_Right base = some r) : FnA Tryz.prog 29 [.vs 5 (List.map enc_Fact base)] [] (.bool r) [] := by
 refine fnA_of_wp (N := 35) Tryz.func29 rfl rfl rfl fun cK0 => ?_
 unfold s_greenbeltref44_Right at hs
 refine v_same (ρ' := [(0, .vs 5 (List.map enc_Fact base))]) rfl rfl ?_
 refine v_seq (vr_text (o_runs 1 [(2, .bool false)] (by kernel_rfl) ?_))
 refine ov_nil (nrm_thenV (v_seq (v_seq (vr_text (o_runs 1 [(4, .vs 5 (List.map enc_Fact base))] (by kernel_rfl) ?_)))))
 refine o_pure (v := .int .i64 (List.length base : Int)) (by kernel_rfl) (by kernel_rfl) (loc_lenVs (sz := 5) (els := (List.map enc_Fact base)) (by kernel_rfl) (by kernel_rfl) (List.length_map ..)) ?_
 refine o_runs 1 [(6, .bool (decide ((List.length base : Int) > 5000)))] (by kernel_rfl) ?_
 refine ov_nil (nrm_thenV ?_)
 refine v_cond (decide ((List.length base : Int) > 5000)) (by kernel_rfl) (fun h1 => ?_) (fun h1 => ?_)
 ·replace hs := bif_t h1 hs
  refine v_seq (vr_text (o_runs 1 [(2, .bool false)] (by kernel_rfl) ?_))
  refine ov_nil (nrm_thenV (v_ret (ret_thenV ?_)))
  obtain rfl := si hs
  exact fin_ret (by kernel_rfl) (by kernel_rfl) (by kernel_rfl)
 ·replace hs := bif_f h1 hs
  refine v_skip (nrm_thenV (v_seq (v_seq (vr_text (o_runs 1 [(3, .int .i64 0)] (by kernel_rfl) ?_)))))
  refine ov_nil (nrm_thenV ?_)
  obtain ⟨z1, hs, hk1⟩ := bind_some hs
  refine v_join (S := Unit) (fun u => z1 = .inr u) (fun u => []) (fun u => []) ?_ (fun v1 hz => ?_)
  ·refine v_block ?_
   refine v_fuel (S := Int) (fun u => [(0, .vs 5 (List.map enc_Fact base)), (3, .int .i64 u)]) (fun u => []) (s_greenbeltref44_Right_L1 base) (fun _ => rfl) KK 0 hs (cut_of [0, 3] [] (by kernel_rfl) (by kernel_rfl) (by kernel_rfl)) (fun K1 q1 hs => ?_)
   rw [s_greenbeltref44_Right_L1] at hs
   show WpV cK0 Tryz.prog none 35 _ _ [(0, .vs 5 (List.map enc_Fact base)), (3, .int .i64 q1)] [] []
   refine v_seq (v_seq (vr_text (o_runs 2 [(8, .vs 5 (List.map enc_Fact base)), (7, .int .i64 q1)] (by kernel_rfl) ?_)))
   refine o_pure (v := .int .i64 (List.length base : Int)) (by kernel_rfl) (by kernel_rfl) (loc_lenVs (sz := 5) (els := (List.map enc_Fact base)) (by kernel_rfl) (by kernel_rfl) (List.length_map ..)) ?_
   refine o_runs 1 [(10, .bool (decide (q1 < (List.length base : Int))))] (by kernel_rfl) ?_
   refine ov_nil (nrm_thenV ?_)
   refine v_cond (decide (q1 < (List.length base : Int))) (by kernel_rfl) (fun h2 => ?_) (fun h2 => ?_)
   ·replace hs := bif_t h2 hs
    refine v_skip (nrm_thenV (v_seq (v_block (v_seq (v_seq (vr_text (o_runs 2 [(14, .int .i64 q1), (13, .vs 5 (List.map enc_Fact base))] (by kernel_rfl) ?_)))))))
    obtain ⟨x1, g1, hs⟩ := bind_some hs; obtain ⟨g1a, g1b, g1c⟩ := idx_some g1
    refine o_pure (v := .vp (enc_Fact x1) 0) (by kernel_rfl) (by kernel_rfl) (loc_indexVs (e := 49) (sz := 5) (k := .i64) (els := (List.map enc_Fact base)) (cs := (enc_Fact x1)) (by kernel_rfl) (by kernel_rfl) (by kernel_rfl) g1a (by rw [g1c]; exact map_get _ (by omega))) ?_
    refine o_runs 1 [(16, .agg (enc_Fact x1))] (by kernel_rfl) ?_
    obtain ⟨y1, c1, hs⟩ := bind_some hs
    refine o_pure (v := .bool y1) (by kernel_rfl) (by kernel_rfl) (loc_gcall0 (callV_func hbv45 (by kernel_rfl)) (w_greenbeltref44_Valid x1 _ c1) (by kernel_rfl)) ?_
    refine o_runs 1 [(18, .bool (!y1))] (by kernel_rfl) ?_
    refine ov_nil (nrm_thenV ?_)
    refine v_cond (!y1) (by kernel_rfl) (fun h3 => ?_) (fun h3 => ?_)
    ·replace hs := bif_t h3 hs
     refine v_seq (vr_text (o_runs 1 [(2, .bool false)] (by kernel_rfl) ?_))
     refine ov_nil (nrm_thenV (v_ret (ret_thenV (ret_blkV (ret_thenV (ret_fuel ?_))))))
     refine ret_blkV (ret_join ?_)
     refine ret_thenV ?_
     obtain rfl := si hs
     replace hs := hk1
     obtain rfl := si hs
     exact fin_ret (by kernel_rfl) (by kernel_rfl) (by kernel_rfl)
    ·replace hs := bif_f h3 hs
     refine v_skip (nrm_thenV (v_seq ?_))
     obtain ⟨z2, hs, hk2⟩ := bind_some hs
     refine v_join (S := Bool) (fun u => u = z2) (fun u => [(0, .vs 5 (List.map enc_Fact base)), (3, .int .i64 q1), (34, .bool u)]) (fun u => []) ?_ (fun v2 hz => ?_)
     ·refine v_draw mixedH (by kernel_rfl) ?_
      refine d_runs 3 0 [(21, .bool (decide (q1 > 0))), (20, .bool (decide (q1 > 0))), (19, .int .i64 q1)] (pfp 3 2) (by kernel_rfl) (by kernel_rfl) ?_
      cases h4 : ((decide (q1 > 0)))
      ·replace hs := bif_f h4 hs
       refine d_runs 13 3 [(34, .bool false), (33, .no), (32, .no), (31, .no), (30, .no), (29, .no), (28, .no), (27, .no), (26, .no), (25, .no), (24, .no), (23, .no), (22, .no)] (pfp 13 15) (by kernel_rfl) (by kernel_rfl) ?_
       refine d_nil (by kernel_rfl) ?_
       obtain rfl := si hs
       refine nrm_join false rfl ?_
       exact cut_of [0, 3, 34] [] (by kernel_rfl) (by kernel_rfl) (by kernel_rfl)
      ·replace hs := bif_t h4 hs
       refine d_runs 2 3 [(23, .int .i64 q1), (22, .vs 5 (List.map enc_Fact base))] (pfp 2 4) (by kernel_rfl) (by kernel_rfl) ?_
       obtain ⟨x2, g2, hs⟩ := bind_some hs; obtain ⟨g2a, g2b, g2c⟩ := idx_some g2
       refine d_pure (v := .vp (enc_Fact x2) 0) 5 rfl rfl rfl rfl (by kernel_rfl) (by kernel_rfl) (loc_indexVs (e := 49) (sz := 5) (k := .i64) (els := (List.map enc_Fact base)) (cs := (enc_Fact x2)) (by kernel_rfl) (by kernel_rfl) (by kernel_rfl) g2a (by rw [g2c]; exact map_get _ (by omega))) ?_
       refine d_runs 5 6 [(29, .int .i64 (w64 (q1 - 1))), (28, .int .i64 q1), (27, .vs 5 (List.map enc_Fact base)), (26, .int .i64 x2.Known), (25, .vp (enc_Fact x2) 4)] (pfp 5 10) (by kernel_rfl) (by kernel_rfl) ?_
       obtain ⟨x3, g3, hs⟩ := bind_some hs; obtain ⟨g3a, g3b, g3c⟩ := idx_some g3
       refine d_pure (v := .vp (enc_Fact x3) 0) 11 rfl rfl rfl rfl (by kernel_rfl) (by kernel_rfl) (loc_indexVs (e := 49) (sz := 5) (k := .i64) (els := (List.map enc_Fact base)) (cs := (enc_Fact x3)) (by kernel_rfl) (by kernel_rfl) (by kernel_rfl) g3a (by rw [g3c]; exact map_get _ (by omega))) ?_
       refine d_runs 4 12 [(34, .bool (decide (x2.Known < x3.Known))), (33, .bool (decide (x2.Known < x3.Known))), (32, .int .i64 x3.Known), (31, .vp (enc_Fact x3) 4)] (pfp 4 15) (by kernel_rfl) (by kernel_rfl) ?_
       refine d_nil (by kernel_rfl) ?_
       obtain rfl := si hs
       refine nrm_join (decide (x2.Known < x3.Known)) rfl ?_
       exact cut_of [0, 3, 34] [] (by kernel_rfl) (by kernel_rfl) (by kernel_rfl)
     ·subst hz; clear hs; have hs := hk2; clear hk2
      refine nrm_thenV ?_
      refine v_cond v2 (by kernel_rfl) (fun h5 => ?_) (fun h5 => ?_)
      ·replace hs := bif_t h5 hs
       refine v_seq (vr_text (o_runs 1 [(2, .bool false)] (by kernel_rfl) ?_))
       refine ov_nil (nrm_thenV (v_ret (ret_blkV (ret_thenV (ret_fuel ?_)))))
       refine ret_blkV (ret_join ?_)
       refine ret_thenV ?_
       obtain rfl := si hs
       replace hs := hk1
       obtain rfl := si hs
       exact fin_ret (by kernel_rfl) (by kernel_rfl) (by kernel_rfl)
      ·replace hs := bif_f h5 hs
       refine v_skip (nrm_blkV (nrm_thenV (vr_text (o_runs 3 [(3, .int .i64 (w64 (q1 + 1))), (12, .int .i64 (w64 (q1 + 1))), (11, .int .i64 q1)] (by kernel_rfl) ?_))))
       refine ov_nil (nrm_fuel (w64 (q1 + 1)) hs ?_)
       exact cut_of [0, 3] [] (by kernel_rfl) (by kernel_rfl) (by kernel_rfl)
   ·replace hs := bif_f h2 hs
    refine v_exit (exit_thenV (exit_fuel ?_))
    refine exit_blkV ?_
    obtain rfl := si hs
    refine nrm_join () rfl ?_
    exact cut_of [] [] (by kernel_rfl) (by kernel_rfl) (by kernel_rfl)
  ·subst hz; clear hs; have hs := hk1; clear hk1
   refine nrm_thenV (v_seq (vr_text (o_runs 1 [(2, .bool true)] (by kernel_rfl) ?_)))
   refine ov_nil (nrm_thenV (v_ret ?_))
   obtain rfl := si hs
   exact fin_ret (by kernel_rfl) (by kernel_rfl) (by kernel_rfl)
end Go.Proofs.YtenljipeggacjaaGreat
