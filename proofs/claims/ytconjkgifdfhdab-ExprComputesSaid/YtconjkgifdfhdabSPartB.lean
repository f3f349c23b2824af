/- printed by gen2.py -/
import Derived.Test.YtconjkgifdfhdabE
import Derived.Test.YtconjkgifdfhdabSD
import Derived.Test.YtconjkgifdfhdabSPartA
set_option linter.all false
set_option maxRecDepth 100000
namespace Go.Proofs.Ytconjkgifdfhdab
open Go Go.RowKit Go.Eng Go.EV
variable [Fuel]

theorem w_expr_context_row_1 (t : Table) (a1_Op : Int) (a1_N : Int) (a1_S : (List UInt8)) (a1_Key : (List UInt8)) (a1_Args : (List Expr)) (r : Bool × Int × Int × (List UInt8) × (List UInt8) × (List Expr)) (hs : s_expr_context_row_1 t a1_Op a1_N a1_S a1_Key a1_Args = some r) : FnA Try.prog 50 [.agg (enc_Table t), .ptr 1000000 0 0] [(1000000, .box 34 [.int .i64 a1_Op, .int .i64 a1_N, .str a1_S, .str a1_Key, .vs 5 (encs_Expr a1_Args)])] (.bool r.1) [(1000000, .box 34 [.int .i64 r.2.1, .int .i64 r.2.2.1, .str r.2.2.2.1, .str r.2.2.2.2.1, .vs 5 (encs_Expr r.2.2.2.2.2)])] := by
 refine fnA_of_wp (N := 9) Try.func50 rfl rfl rfl fun cK0 => ?_
 unfold s_expr_context_row_1 at hs
 refine v_same (ρ' := [(0, .agg (enc_Table t)), (1, .ptr 1000000 0 0)]) rfl rfl ?_
 refine v_seq (vr_text (o_runh 2 [(3, .bool false), (2, .ptr 2 0 0)] [(2, .box 46 [.str t.Name, .vs 2 (List.map enc_Entry t.Rows), .int .i64 t.Else]), (1000000, .box 34 [.int .i64 a1_Op, .int .i64 a1_N, .str a1_S, .str a1_Key, .vs 5 (encs_Expr a1_Args)])] (by kernel_rfl) ?_))
 refine ov_nil (nrm_thenV (v_seq (vr_text (o_runs 6 [(3, .bool (decide (t.Name = a1_S))), (8, .bool (decide (t.Name = a1_S))), (7, .str a1_S), (6, .ptr 1000000 0 2), (5, .str t.Name), (4, .ptr 2 0 0)] (by kernel_rfl) ?_))))
 refine ov_nil (nrm_thenV (v_ret ?_))
 obtain rfl := si hs
 exact fin_ret (by kernel_rfl) (by kernel_rfl) (by kernel_rfl)
theorem w_slices_IndexFunc_2 (s : (List Table)) (t_Op : Int) (t_N : Int) (t_S : (List UInt8)) (t_Key : (List UInt8)) (t_Args : (List Expr)) (r : Int × Int × Int × (List UInt8) × (List UInt8) × (List Expr)) (hs : s_slices_IndexFunc_2 s t_Op t_N t_S t_Key t_Args = some r) : FnA Try.prog 43 [.vs 3 (List.map enc_Table s), .fn 50 [] [.ptr 1000000 0 0]] [(1000000, .box 34 [.int .i64 t_Op, .int .i64 t_N, .str t_S, .str t_Key, .vs 5 (encs_Expr t_Args)])] (.int .i64 r.1) [(1000000, .box 34 [.int .i64 r.2.1, .int .i64 r.2.2.1, .str r.2.2.2.1, .str r.2.2.2.2.1, .vs 5 (encs_Expr r.2.2.2.2.2)])] := by
 refine fnA_of_wp (N := 19) Try.func43 rfl rfl rfl fun cK0 => ?_
 unfold s_slices_IndexFunc_2 at hs
 refine v_same (ρ' := [(0, .vs 3 (List.map enc_Table s)), (1, .fn 50 [] [.ptr 1000000 0 0])]) rfl rfl ?_
 refine v_seq (vr_text (o_runs 1 [(4, .int .i64 0)] (by kernel_rfl) ?_))
 refine ov_nil (nrm_thenV (v_seq (v_seq (vr_text (o_runs 1 [(6, .vs 3 (List.map enc_Table s))] (by kernel_rfl) ?_)))))
 refine o_pure (v := .int .i64 (List.length s : Int)) (by kernel_rfl) (by kernel_rfl) (loc_lenVs (sz := 3) (els := (List.map enc_Table s)) (by kernel_rfl) (by kernel_rfl) (List.length_map ..)) ?_
 refine o_runs 1 [(8, .int .i64 0)] (by kernel_rfl) ?_
 refine ov_nil (nrm_thenV ?_)
 obtain ⟨z1, hs, hk1⟩ := bind_some hs
 refine v_join (S := Int × Int × (List UInt8) × (List UInt8) × (List Expr)) (fun u => z1 = .inr u) (fun u => []) (fun u => [(1000000, .box 34 [.int .i64 u.1, .int .i64 u.2.1, .str u.2.2.1, .str u.2.2.2.1, .vs 5 (encs_Expr u.2.2.2.2)])]) ?_ (fun v1 hz => ?_)
 ·refine v_block ?_
  refine v_fuel (S := Int × Int × Int × (List UInt8) × (List UInt8) × (List Expr)) (fun u => [(0, .vs 3 (List.map enc_Table s)), (1, .fn 50 [] [.ptr 1000000 0 0]), (7, .int .i64 (List.length s : Int)), (8, .int .i64 u.1)]) (fun u => [(1000000, .box 34 [.int .i64 u.2.1, .int .i64 u.2.2.1, .str u.2.2.2.1, .str u.2.2.2.2.1, .vs 5 (encs_Expr u.2.2.2.2.2)])]) (s_slices_IndexFunc_2_L1 s) (fun _ => rfl) KK (0, t_Op, t_N, t_S, t_Key, t_Args) hs (cut_of [0, 1, 7, 8] [1000000] (by kernel_rfl) (by kernel_rfl) (by kernel_rfl)) (fun K1 q1 hs => ?_)
  rw [s_slices_IndexFunc_2_L1] at hs
  show WpV cK0 Try.prog none 19 _ _ [(0, .vs 3 (List.map enc_Table s)), (1, .fn 50 [] [.ptr 1000000 0 0]), (7, .int .i64 (List.length s : Int)), (8, .int .i64 q1.1)] [(1000000, .box 34 [.int .i64 q1.2.1, .int .i64 q1.2.2.1, .str q1.2.2.2.1, .str q1.2.2.2.2.1, .vs 5 (encs_Expr q1.2.2.2.2.2)])] []
  refine v_seq (vr_text (o_runs 1 [(9, .bool (decide (q1.1 < (List.length s : Int))))] (by kernel_rfl) ?_))
  refine ov_nil (nrm_thenV (v_seq ?_))
  refine v_cond (decide (q1.1 < (List.length s : Int))) (by kernel_rfl) (fun h1 => ?_) (fun h1 => ?_)
  ·replace hs := bif_t h1 hs
   refine v_skip (nrm_thenV (v_seq (v_block (v_seq (vr_text (o_runs 2 [(5, .int .i64 q1.1), (10, .int .i64 q1.1)] (by kernel_rfl) ?_))))))
   refine ov_nil (nrm_thenV (v_seq (vr_text (o_runs 3 [(13, .int .i64 q1.1), (12, .vs 3 (List.map enc_Table s)), (11, .fn 50 [] [.ptr 1000000 0 0])] (by kernel_rfl) ?_))))
   obtain ⟨x1, g1, hs⟩ := bind_some hs; obtain ⟨g1a, g1b, g1c⟩ := idx_some g1
   refine o_pure (v := .vp (enc_Table x1) 0) (by kernel_rfl) (by kernel_rfl) (loc_indexVs (e := 46) (sz := 3) (k := .i64) (els := (List.map enc_Table s)) (cs := (enc_Table x1)) (by kernel_rfl) (by kernel_rfl) (by kernel_rfl) g1a (by rw [g1c]; exact map_get _ (by omega))) ?_
   refine o_runs 1 [(15, .agg (enc_Table x1))] (by kernel_rfl) ?_
   obtain ⟨y1, c1, hs⟩ := bind_some hs
   refine o_loc (F := [(1000000, .box 34 [.int .i64 q1.2.1, .int .i64 q1.2.2.1, .str q1.2.2.2.1, .str q1.2.2.2.2.1, .vs 5 (encs_Expr q1.2.2.2.2.2)])]) (F' := [(1000000, .box 34 [.int .i64 y1.2.1, .int .i64 y1.2.2.1, .str y1.2.2.2.1, .str y1.2.2.2.2.1, .vs 5 (encs_Expr y1.2.2.2.2.2)])]) (v := .bool y1.1) [1000000] (by kernel_rfl) (by kernel_rfl) rfl (by kernel_rfl) (loc_g (R := []) [.agg (enc_Table x1), .ptr 1000000 0 0] [(1000000, 1000000)] (callV_val (first := []) (caps := [.ptr 1000000 0 0]) hbv50 (by kernel_rfl) (by kernel_rfl)) (w_expr_context_row_1 x1 q1.2.1 q1.2.2.1 q1.2.2.2.1 q1.2.2.2.2.1 q1.2.2.2.2.2 _ c1) (.cons (.same _) (.cons (.same _) (.nil))) (by kernel_rfl) (by kernel_rfl) (by kernel_rfl) (by kernel_rfl) (by kernel_rfl) (by kernel_rfl) (by kernel_rfl) (by kernel_rfl)) (by kernel_rfl) ?_
   refine ov_nil (nrm_thenV ?_)
   refine v_cond y1.1 (by kernel_rfl) (fun h2 => ?_) (fun h2 => ?_)
   ·replace hs := bif_t h2 hs
    refine v_seq (vr_text (o_runs 2 [(4, .int .i64 q1.1), (17, .int .i64 q1.1)] (by kernel_rfl) ?_))
    refine ov_nil (nrm_thenV (v_ret (ret_blkV (ret_thenV (ret_fuel ?_)))))
    refine ret_blkV (ret_join ?_)
    refine ret_thenV ?_
    obtain rfl := si hs
    replace hs := hk1
    obtain rfl := si hs
    exact fin_ret (by kernel_rfl) (by kernel_rfl) (by kernel_rfl)
   ·replace hs := bif_f h2 hs
    refine v_skip (nrm_blkV (nrm_thenV (vr_text (o_runs 2 [(8, .int .i64 (w64 (q1.1 + 1))), (18, .int .i64 (w64 (q1.1 + 1)))] (by kernel_rfl) ?_))))
    refine ov_nil (nrm_fuel ((w64 (q1.1 + 1)), y1.2.1, y1.2.2.1, y1.2.2.2.1, y1.2.2.2.2.1, y1.2.2.2.2.2) hs ?_)
    exact cut_of [0, 1, 7, 8] [1000000] (by kernel_rfl) (by kernel_rfl) (by kernel_rfl)
  ·replace hs := bif_f h1 hs
   refine v_exit (exit_thenV (exit_fuel ?_))
   refine exit_blkV ?_
   obtain rfl := si hs
   refine nrm_join (q1.2.1, q1.2.2.1, q1.2.2.2.1, q1.2.2.2.2.1, q1.2.2.2.2.2) rfl ?_
   exact cut_of [] [1000000] (by kernel_rfl) (by kernel_rfl) (by kernel_rfl)
 ·subst hz; clear hs; have hs := hk1; clear hk1
  refine nrm_thenV (v_seq (vr_text (o_runs 1 [(4, .int .i64 (-1))] (by kernel_rfl) ?_)))
  refine ov_nil (nrm_thenV (v_ret ?_))
  obtain rfl := si hs
  exact fin_ret (by kernel_rfl) (by kernel_rfl) (by kernel_rfl)
theorem w_expr_context_row_2 (r_ : Entry) (a1_Op : Int) (a1_N : Int) (a1_S : (List UInt8)) (a1_Key : (List UInt8)) (a1_Args : (List Expr)) (r : Bool × Int × Int × (List UInt8) × (List UInt8) × (List Expr)) (hs : s_expr_context_row_2 r_ a1_Op a1_N a1_S a1_Key a1_Args = some r) : FnA Try.prog 52 [.agg (enc_Entry r_), .ptr 1000000 0 0] [(1000000, .box 34 [.int .i64 a1_Op, .int .i64 a1_N, .str a1_S, .str a1_Key, .vs 5 (encs_Expr a1_Args)])] (.bool r.1) [(1000000, .box 34 [.int .i64 r.2.1, .int .i64 r.2.2.1, .str r.2.2.2.1, .str r.2.2.2.2.1, .vs 5 (encs_Expr r.2.2.2.2.2)])] := by
 refine fnA_of_wp (N := 9) Try.func52 rfl rfl rfl fun cK0 => ?_
 unfold s_expr_context_row_2 at hs
 refine v_same (ρ' := [(0, .agg (enc_Entry r_)), (1, .ptr 1000000 0 0)]) rfl rfl ?_
 refine v_seq (vr_text (o_runh 2 [(3, .bool false), (2, .ptr 2 0 0)] [(2, .box 44 [.str r_.Name, .int .i64 r_.N]), (1000000, .box 34 [.int .i64 a1_Op, .int .i64 a1_N, .str a1_S, .str a1_Key, .vs 5 (encs_Expr a1_Args)])] (by kernel_rfl) ?_))
 refine ov_nil (nrm_thenV (v_seq (vr_text (o_runs 6 [(3, .bool (decide (r_.Name = a1_Key))), (8, .bool (decide (r_.Name = a1_Key))), (7, .str a1_Key), (6, .ptr 1000000 0 3), (5, .str r_.Name), (4, .ptr 2 0 0)] (by kernel_rfl) ?_))))
 refine ov_nil (nrm_thenV (v_ret ?_))
 obtain rfl := si hs
 exact fin_ret (by kernel_rfl) (by kernel_rfl) (by kernel_rfl)
theorem w_slices_IndexFunc_3 (s : (List Entry)) (r_Op : Int) (r_N : Int) (r_S : (List UInt8)) (r_Key : (List UInt8)) (r_Args : (List Expr)) (r : Int × Int × Int × (List UInt8) × (List UInt8) × (List Expr)) (hs : s_slices_IndexFunc_3 s r_Op r_N r_S r_Key r_Args = some r) : FnA Try.prog 51 [.vs 2 (List.map enc_Entry s), .fn 52 [] [.ptr 1000000 0 0]] [(1000000, .box 34 [.int .i64 r_Op, .int .i64 r_N, .str r_S, .str r_Key, .vs 5 (encs_Expr r_Args)])] (.int .i64 r.1) [(1000000, .box 34 [.int .i64 r.2.1, .int .i64 r.2.2.1, .str r.2.2.2.1, .str r.2.2.2.2.1, .vs 5 (encs_Expr r.2.2.2.2.2)])] := by
 refine fnA_of_wp (N := 19) Try.func51 rfl rfl rfl fun cK0 => ?_
 unfold s_slices_IndexFunc_3 at hs
 refine v_same (ρ' := [(0, .vs 2 (List.map enc_Entry s)), (1, .fn 52 [] [.ptr 1000000 0 0])]) rfl rfl ?_
 refine v_seq (vr_text (o_runs 1 [(4, .int .i64 0)] (by kernel_rfl) ?_))
 refine ov_nil (nrm_thenV (v_seq (v_seq (vr_text (o_runs 1 [(6, .vs 2 (List.map enc_Entry s))] (by kernel_rfl) ?_)))))
 refine o_pure (v := .int .i64 (List.length s : Int)) (by kernel_rfl) (by kernel_rfl) (loc_lenVs (sz := 2) (els := (List.map enc_Entry s)) (by kernel_rfl) (by kernel_rfl) (List.length_map ..)) ?_
 refine o_runs 1 [(8, .int .i64 0)] (by kernel_rfl) ?_
 refine ov_nil (nrm_thenV ?_)
 obtain ⟨z1, hs, hk1⟩ := bind_some hs
 refine v_join (S := Int × Int × (List UInt8) × (List UInt8) × (List Expr)) (fun u => z1 = .inr u) (fun u => []) (fun u => [(1000000, .box 34 [.int .i64 u.1, .int .i64 u.2.1, .str u.2.2.1, .str u.2.2.2.1, .vs 5 (encs_Expr u.2.2.2.2)])]) ?_ (fun v1 hz => ?_)
 ·refine v_block ?_
  refine v_fuel (S := Int × Int × Int × (List UInt8) × (List UInt8) × (List Expr)) (fun u => [(0, .vs 2 (List.map enc_Entry s)), (1, .fn 52 [] [.ptr 1000000 0 0]), (7, .int .i64 (List.length s : Int)), (8, .int .i64 u.1)]) (fun u => [(1000000, .box 34 [.int .i64 u.2.1, .int .i64 u.2.2.1, .str u.2.2.2.1, .str u.2.2.2.2.1, .vs 5 (encs_Expr u.2.2.2.2.2)])]) (s_slices_IndexFunc_3_L1 s) (fun _ => rfl) KK (0, r_Op, r_N, r_S, r_Key, r_Args) hs (cut_of [0, 1, 7, 8] [1000000] (by kernel_rfl) (by kernel_rfl) (by kernel_rfl)) (fun K1 q1 hs => ?_)
  rw [s_slices_IndexFunc_3_L1] at hs
  show WpV cK0 Try.prog none 19 _ _ [(0, .vs 2 (List.map enc_Entry s)), (1, .fn 52 [] [.ptr 1000000 0 0]), (7, .int .i64 (List.length s : Int)), (8, .int .i64 q1.1)] [(1000000, .box 34 [.int .i64 q1.2.1, .int .i64 q1.2.2.1, .str q1.2.2.2.1, .str q1.2.2.2.2.1, .vs 5 (encs_Expr q1.2.2.2.2.2)])] []
  refine v_seq (vr_text (o_runs 1 [(9, .bool (decide (q1.1 < (List.length s : Int))))] (by kernel_rfl) ?_))
  refine ov_nil (nrm_thenV (v_seq ?_))
  refine v_cond (decide (q1.1 < (List.length s : Int))) (by kernel_rfl) (fun h1 => ?_) (fun h1 => ?_)
  ·replace hs := bif_t h1 hs
   refine v_skip (nrm_thenV (v_seq (v_block (v_seq (vr_text (o_runs 2 [(5, .int .i64 q1.1), (10, .int .i64 q1.1)] (by kernel_rfl) ?_))))))
   refine ov_nil (nrm_thenV (v_seq (vr_text (o_runs 3 [(13, .int .i64 q1.1), (12, .vs 2 (List.map enc_Entry s)), (11, .fn 52 [] [.ptr 1000000 0 0])] (by kernel_rfl) ?_))))
   obtain ⟨x1, g1, hs⟩ := bind_some hs; obtain ⟨g1a, g1b, g1c⟩ := idx_some g1
   refine o_pure (v := .vp (enc_Entry x1) 0) (by kernel_rfl) (by kernel_rfl) (loc_indexVs (e := 44) (sz := 2) (k := .i64) (els := (List.map enc_Entry s)) (cs := (enc_Entry x1)) (by kernel_rfl) (by kernel_rfl) (by kernel_rfl) g1a (by rw [g1c]; exact map_get _ (by omega))) ?_
   refine o_runs 1 [(15, .agg (enc_Entry x1))] (by kernel_rfl) ?_
   obtain ⟨y1, c1, hs⟩ := bind_some hs
   refine o_loc (F := [(1000000, .box 34 [.int .i64 q1.2.1, .int .i64 q1.2.2.1, .str q1.2.2.2.1, .str q1.2.2.2.2.1, .vs 5 (encs_Expr q1.2.2.2.2.2)])]) (F' := [(1000000, .box 34 [.int .i64 y1.2.1, .int .i64 y1.2.2.1, .str y1.2.2.2.1, .str y1.2.2.2.2.1, .vs 5 (encs_Expr y1.2.2.2.2.2)])]) (v := .bool y1.1) [1000000] (by kernel_rfl) (by kernel_rfl) rfl (by kernel_rfl) (loc_g (R := []) [.agg (enc_Entry x1), .ptr 1000000 0 0] [(1000000, 1000000)] (callV_val (first := []) (caps := [.ptr 1000000 0 0]) hbv52 (by kernel_rfl) (by kernel_rfl)) (w_expr_context_row_2 x1 q1.2.1 q1.2.2.1 q1.2.2.2.1 q1.2.2.2.2.1 q1.2.2.2.2.2 _ c1) (.cons (.same _) (.cons (.same _) (.nil))) (by kernel_rfl) (by kernel_rfl) (by kernel_rfl) (by kernel_rfl) (by kernel_rfl) (by kernel_rfl) (by kernel_rfl) (by kernel_rfl)) (by kernel_rfl) ?_
   refine ov_nil (nrm_thenV ?_)
   refine v_cond y1.1 (by kernel_rfl) (fun h2 => ?_) (fun h2 => ?_)
   ·replace hs := bif_t h2 hs
    refine v_seq (vr_text (o_runs 2 [(4, .int .i64 q1.1), (17, .int .i64 q1.1)] (by kernel_rfl) ?_))
    refine ov_nil (nrm_thenV (v_ret (ret_blkV (ret_thenV (ret_fuel ?_)))))
    refine ret_blkV (ret_join ?_)
    refine ret_thenV ?_
    obtain rfl := si hs
    replace hs := hk1
    obtain rfl := si hs
    exact fin_ret (by kernel_rfl) (by kernel_rfl) (by kernel_rfl)
   ·replace hs := bif_f h2 hs
    refine v_skip (nrm_blkV (nrm_thenV (vr_text (o_runs 2 [(8, .int .i64 (w64 (q1.1 + 1))), (18, .int .i64 (w64 (q1.1 + 1)))] (by kernel_rfl) ?_))))
    refine ov_nil (nrm_fuel ((w64 (q1.1 + 1)), y1.2.1, y1.2.2.1, y1.2.2.2.1, y1.2.2.2.2.1, y1.2.2.2.2.2) hs ?_)
    exact cut_of [0, 1, 7, 8] [1000000] (by kernel_rfl) (by kernel_rfl) (by kernel_rfl)
  ·replace hs := bif_f h1 hs
   refine v_exit (exit_thenV (exit_fuel ?_))
   refine exit_blkV ?_
   obtain rfl := si hs
   refine nrm_join (q1.2.1, q1.2.2.1, q1.2.2.2.1, q1.2.2.2.2.1, q1.2.2.2.2.2) rfl ?_
   exact cut_of [] [1000000] (by kernel_rfl) (by kernel_rfl) (by kernel_rfl)
 ·subst hz; clear hs; have hs := hk1; clear hk1
  refine nrm_thenV (v_seq (vr_text (o_runs 1 [(4, .int .i64 (-1))] (by kernel_rfl) ?_)))
  refine ov_nil (nrm_thenV (v_ret ?_))
  obtain rfl := si hs
  exact fin_ret (by kernel_rfl) (by kernel_rfl) (by kernel_rfl)
theorem w_expr_context_row (c_plan : Plan) (c_known : (List ((List UInt8) × Int))) (c_zones : (List (List UInt8))) (e : Expr) (r : Int) (hs : s_expr_context_row c_plan c_known c_zones e = some r) : FnA Try.prog 34 [.agg [.vs 6 (List.map enc_Def c_plan.Defs), .vs 3 (List.map enc_Table c_plan.Tables), .vs 3 (List.map enc_Zone c_plan.Zones), .vs 20 (List.map enc_Rule c_plan.Rules), .vs 4 (List.map enc_Cap c_plan.Caps), .vs 6 (List.map enc_View c_plan.Views), .vs 3 (List.map enc_Point3 c_plan.Sun), .int .i64 c_plan.Hours, .mp 1000000, .vs 1 (List.map EV.encS c_zones)], .agg (enc_Expr e)] [(1000000, .map (encM V.str (V.int .i64) c_known))] (.int .i64 r) [(1000000, .map (encM V.str (V.int .i64) c_known))] := by
 refine fnA_of_wp (N := 35) Try.func34 rfl rfl rfl fun cK0 => ?_
 unfold s_expr_context_row at hs
 refine v_same (ρ' := [(0, .agg [.vs 6 (List.map enc_Def c_plan.Defs), .vs 3 (List.map enc_Table c_plan.Tables), .vs 3 (List.map enc_Zone c_plan.Zones), .vs 20 (List.map enc_Rule c_plan.Rules), .vs 4 (List.map enc_Cap c_plan.Caps), .vs 6 (List.map enc_View c_plan.Views), .vs 3 (List.map enc_Point3 c_plan.Sun), .int .i64 c_plan.Hours, .mp 1000000, .vs 1 (List.map EV.encS c_zones)]), (1, .agg (enc_Expr e))]) rfl rfl ?_
 refine v_seq (vr_text (o_runh 3 [(4, .int .i64 0), (3, .ptr 3 0 0), (2, .ptr 2 0 0)] [(3, .box 34 [.int .i64 e.Op, .int .i64 e.N, .str e.S, .str e.Key, .vs 5 (encs_Expr e.Args)]), (2, .box 63 [.vs 6 (List.map enc_Def c_plan.Defs), .vs 3 (List.map enc_Table c_plan.Tables), .vs 3 (List.map enc_Zone c_plan.Zones), .vs 20 (List.map enc_Rule c_plan.Rules), .vs 4 (List.map enc_Cap c_plan.Caps), .vs 6 (List.map enc_View c_plan.Views), .vs 3 (List.map enc_Point3 c_plan.Sun), .int .i64 c_plan.Hours, .mp 1000000, .vs 1 (List.map EV.encS c_zones)]), (1000000, .map (encM V.str (V.int .i64) c_known))] (by kernel_rfl) ?_))
 refine ov_nil (nrm_thenV (v_seq (vr_text (o_runs 4 [(11, .fn 50 [] [.ptr 3 0 0]), (10, .vs 3 (List.map enc_Table c_plan.Tables)), (9, .ptr 2 0 1), (8, .ptr 2 0 0)] (by kernel_rfl) ?_))))
 obtain ⟨y1, c1, hs⟩ := bind_some hs
 refine o_loc (F := [(3, .box 34 [.int .i64 e.Op, .int .i64 e.N, .str e.S, .str e.Key, .vs 5 (encs_Expr e.Args)])]) (F' := [(3, .box 34 [.int .i64 y1.2.1, .int .i64 y1.2.2.1, .str y1.2.2.2.1, .str y1.2.2.2.2.1, .vs 5 (encs_Expr y1.2.2.2.2.2)])]) (v := .int .i64 y1.1) [3] (by kernel_rfl) (by kernel_rfl) rfl (by kernel_rfl) (loc_g (R := []) [.vs 3 (List.map enc_Table c_plan.Tables), .fn 50 [] [.ptr 3 0 0]] [(1000000, 3)] (callV_func hbv43 (by kernel_rfl)) (w_slices_IndexFunc_2 c_plan.Tables e.Op e.N e.S e.Key e.Args _ c1) (.cons (.same _) (.cons (.same _) (.nil))) (by kernel_rfl) (by kernel_rfl) (by kernel_rfl) (by kernel_rfl) (by kernel_rfl) (by kernel_rfl) (by kernel_rfl) (by kernel_rfl)) (by kernel_rfl) ?_
 refine o_runs 1 [(5, .int .i64 y1.1)] (by kernel_rfl) ?_
 refine ov_nil (nrm_thenV (v_seq (v_seq (vr_text (o_runs 2 [(14, .bool (decide (y1.1 < 0))), (13, .int .i64 y1.1)] (by kernel_rfl) ?_)))))
 refine ov_nil (nrm_thenV ?_)
 refine v_cond (decide (y1.1 < 0)) (by kernel_rfl) (fun h1 => ?_) (fun h1 => ?_)
 ·replace hs := bif_t h1 hs
  refine v_seq (vr_text (o_runs 1 [(4, .int .i64 0)] (by kernel_rfl) ?_))
  refine ov_nil (nrm_thenV (v_ret (ret_thenV ?_)))
  obtain rfl := si hs
  exact fin_ret (by kernel_rfl) (by kernel_rfl) (by kernel_rfl)
 ·replace hs := bif_f h1 hs
  refine v_skip (nrm_thenV (v_seq (vr_text (o_runs 4 [(18, .int .i64 y1.1), (17, .vs 3 (List.map enc_Table c_plan.Tables)), (16, .ptr 2 0 1), (15, .ptr 2 0 0)] (by kernel_rfl) ?_))))
  obtain ⟨x1, g1, hs⟩ := bind_some hs; obtain ⟨g1a, g1b, g1c⟩ := idx_some g1
  refine o_pure (v := .vp (enc_Table x1) 0) (by kernel_rfl) (by kernel_rfl) (loc_indexVs (e := 46) (sz := 3) (k := .i64) (els := (List.map enc_Table c_plan.Tables)) (cs := (enc_Table x1)) (by kernel_rfl) (by kernel_rfl) (by kernel_rfl) g1a (by rw [g1c]; exact map_get _ (by omega))) ?_
  refine o_runh 3 [(6, .ptr 6 0 0), (20, .agg (enc_Table x1))] [(6, .box 46 [.str x1.Name, .vs 2 (List.map enc_Entry x1.Rows), .int .i64 x1.Else]), (3, .box 34 [.int .i64 y1.2.1, .int .i64 y1.2.2.1, .str y1.2.2.2.1, .str y1.2.2.2.2.1, .vs 5 (encs_Expr y1.2.2.2.2.2)]), (2, .box 63 [.vs 6 (List.map enc_Def c_plan.Defs), .vs 3 (List.map enc_Table c_plan.Tables), .vs 3 (List.map enc_Zone c_plan.Zones), .vs 20 (List.map enc_Rule c_plan.Rules), .vs 4 (List.map enc_Cap c_plan.Caps), .vs 6 (List.map enc_View c_plan.Views), .vs 3 (List.map enc_Point3 c_plan.Sun), .int .i64 c_plan.Hours, .mp 1000000, .vs 1 (List.map EV.encS c_zones)]), (1000000, .map (encM V.str (V.int .i64) c_known))] (by kernel_rfl) ?_
  refine ov_nil (nrm_thenV (v_seq (v_seq (vr_text (o_runs 3 [(23, .fn 52 [] [.ptr 3 0 0]), (22, .vs 2 (List.map enc_Entry x1.Rows)), (21, .ptr 6 0 1)] (by kernel_rfl) ?_)))))
  obtain ⟨y2, c2, hs⟩ := bind_some hs
  refine o_loc (F := [(3, .box 34 [.int .i64 y1.2.1, .int .i64 y1.2.2.1, .str y1.2.2.2.1, .str y1.2.2.2.2.1, .vs 5 (encs_Expr y1.2.2.2.2.2)])]) (F' := [(3, .box 34 [.int .i64 y2.2.1, .int .i64 y2.2.2.1, .str y2.2.2.2.1, .str y2.2.2.2.2.1, .vs 5 (encs_Expr y2.2.2.2.2.2)])]) (v := .int .i64 y2.1) [3] (by kernel_rfl) (by kernel_rfl) rfl (by kernel_rfl) (loc_g (R := []) [.vs 2 (List.map enc_Entry x1.Rows), .fn 52 [] [.ptr 3 0 0]] [(1000000, 3)] (callV_func hbv51 (by kernel_rfl)) (w_slices_IndexFunc_3 x1.Rows y1.2.1 y1.2.2.1 y1.2.2.2.1 y1.2.2.2.2.1 y1.2.2.2.2.2 _ c2) (.cons (.same _) (.cons (.same _) (.nil))) (by kernel_rfl) (by kernel_rfl) (by kernel_rfl) (by kernel_rfl) (by kernel_rfl) (by kernel_rfl) (by kernel_rfl) (by kernel_rfl)) (by kernel_rfl) ?_
  refine o_runs 1 [(7, .int .i64 y2.1)] (by kernel_rfl) ?_
  refine ov_nil (nrm_thenV (v_seq (vr_text (o_runs 2 [(26, .bool (decide (y2.1 ≥ 0))), (25, .int .i64 y2.1)] (by kernel_rfl) ?_))))
  refine ov_nil (nrm_thenV ?_)
  refine v_cond (decide (y2.1 ≥ 0)) (by kernel_rfl) (fun h2 => ?_) (fun h2 => ?_)
  ·replace hs := bif_t h2 hs
   refine v_seq (vr_text (o_runs 3 [(29, .int .i64 y2.1), (28, .vs 2 (List.map enc_Entry x1.Rows)), (27, .ptr 6 0 1)] (by kernel_rfl) ?_))
   obtain ⟨x2, g2, hs⟩ := bind_some hs; obtain ⟨g2a, g2b, g2c⟩ := idx_some g2
   refine o_pure (v := .vp (enc_Entry x2) 0) (by kernel_rfl) (by kernel_rfl) (loc_indexVs (e := 44) (sz := 2) (k := .i64) (els := (List.map enc_Entry x1.Rows)) (cs := (enc_Entry x2)) (by kernel_rfl) (by kernel_rfl) (by kernel_rfl) g2a (by rw [g2c]; exact map_get _ (by omega))) ?_
   refine o_runs 3 [(4, .int .i64 x2.N), (32, .int .i64 x2.N), (31, .vp (enc_Entry x2) 1)] (by kernel_rfl) ?_
   refine ov_nil (nrm_thenV (v_ret (ret_thenV ?_)))
   obtain rfl := si hs
   exact fin_ret (by kernel_rfl) (by kernel_rfl) (by kernel_rfl)
  ·replace hs := bif_f h2 hs
   refine v_skip (nrm_thenV (v_seq (vr_text (o_runs 3 [(4, .int .i64 x1.Else), (34, .int .i64 x1.Else), (33, .ptr 6 0 2)] (by kernel_rfl) ?_))))
   refine ov_nil (nrm_thenV (v_ret ?_))
   obtain rfl := si hs
   exact fin_ret (by kernel_rfl) (by kernel_rfl) (by kernel_rfl)
theorem w_slices_Index_2 (s : (List (List UInt8))) (v : (List UInt8)) (r : Int) (hs : s_slices_Index_2 s v = some r) : FnA Try.prog 42 [.vs 1 (List.map EV.encS s), .str v] [] (.int .i64 r) [] := by
 refine fnA_of_wp (N := 19) Try.func42 rfl rfl rfl fun cK0 => ?_
 unfold s_slices_Index_2 at hs
 refine v_same (ρ' := [(0, .vs 1 (List.map EV.encS s)), (1, .str v)]) rfl rfl ?_
 refine v_seq (vr_text (o_runs 1 [(4, .int .i64 0)] (by kernel_rfl) ?_))
 refine ov_nil (nrm_thenV (v_seq (v_seq (vr_text (o_runs 1 [(6, .vs 1 (List.map EV.encS s))] (by kernel_rfl) ?_)))))
 refine o_pure (v := .int .i64 (List.length s : Int)) (by kernel_rfl) (by kernel_rfl) (loc_lenVs (sz := 1) (els := (List.map EV.encS s)) (by kernel_rfl) (by kernel_rfl) (List.length_map ..)) ?_
 refine o_runs 1 [(8, .int .i64 0)] (by kernel_rfl) ?_
 refine ov_nil (nrm_thenV ?_)
 obtain ⟨z1, hs, hk1⟩ := bind_some hs
 refine v_join (S := Unit) (fun u => z1 = .inr u) (fun u => []) (fun u => []) ?_ (fun v1 hz => ?_)
 ·refine v_block ?_
  refine v_fuel (S := Int) (fun u => [(0, .vs 1 (List.map EV.encS s)), (1, .str v), (7, .int .i64 (List.length s : Int)), (8, .int .i64 u)]) (fun u => []) (s_slices_Index_2_L1 s v) (fun _ => rfl) KK 0 hs (cut_of [0, 1, 7, 8] [] (by kernel_rfl) (by kernel_rfl) (by kernel_rfl)) (fun K1 q1 hs => ?_)
  rw [s_slices_Index_2_L1] at hs
  show WpV cK0 Try.prog none 19 _ _ [(0, .vs 1 (List.map EV.encS s)), (1, .str v), (7, .int .i64 (List.length s : Int)), (8, .int .i64 q1)] [] []
  refine v_seq (vr_text (o_runs 1 [(9, .bool (decide (q1 < (List.length s : Int))))] (by kernel_rfl) ?_))
  refine ov_nil (nrm_thenV (v_seq ?_))
  refine v_cond (decide (q1 < (List.length s : Int))) (by kernel_rfl) (fun h1 => ?_) (fun h1 => ?_)
  ·replace hs := bif_t h1 hs
   refine v_skip (nrm_thenV (v_seq (v_block (v_seq (vr_text (o_runs 2 [(5, .int .i64 q1), (10, .int .i64 q1)] (by kernel_rfl) ?_))))))
   refine ov_nil (nrm_thenV (v_seq (vr_text (o_runs 3 [(13, .int .i64 q1), (12, .vs 1 (List.map EV.encS s)), (11, .str v)] (by kernel_rfl) ?_))))
   obtain ⟨x1, g1, hs⟩ := bind_some hs; obtain ⟨g1a, g1b, g1c⟩ := idx_some g1
   refine o_pure (v := .vp [.str x1] 0) (by kernel_rfl) (by kernel_rfl) (loc_indexVs (e := 9) (sz := 1) (k := .i64) (els := (List.map EV.encS s)) (cs := (EV.encS x1)) (by kernel_rfl) (by kernel_rfl) (by kernel_rfl) g1a (by rw [g1c]; exact map_get _ (by omega))) ?_
   refine o_runs 2 [(16, .bool (decide (v = x1))), (15, .str x1)] (by kernel_rfl) ?_
   refine ov_nil (nrm_thenV ?_)
   refine v_cond (decide (v = x1)) (by kernel_rfl) (fun h2 => ?_) (fun h2 => ?_)
   ·replace hs := bif_t h2 hs
    refine v_seq (vr_text (o_runs 2 [(4, .int .i64 q1), (17, .int .i64 q1)] (by kernel_rfl) ?_))
    refine ov_nil (nrm_thenV (v_ret (ret_blkV (ret_thenV (ret_fuel ?_)))))
    refine ret_blkV (ret_join ?_)
    refine ret_thenV ?_
    obtain rfl := si hs
    replace hs := hk1
    obtain rfl := si hs
    exact fin_ret (by kernel_rfl) (by kernel_rfl) (by kernel_rfl)
   ·replace hs := bif_f h2 hs
    refine v_skip (nrm_blkV (nrm_thenV (vr_text (o_runs 2 [(8, .int .i64 (w64 (q1 + 1))), (18, .int .i64 (w64 (q1 + 1)))] (by kernel_rfl) ?_))))
    refine ov_nil (nrm_fuel (w64 (q1 + 1)) hs ?_)
    exact cut_of [0, 1, 7, 8] [] (by kernel_rfl) (by kernel_rfl) (by kernel_rfl)
  ·replace hs := bif_f h1 hs
   refine v_exit (exit_thenV (exit_fuel ?_))
   refine exit_blkV ?_
   obtain rfl := si hs
   refine nrm_join () rfl ?_
   exact cut_of [] [] (by kernel_rfl) (by kernel_rfl) (by kernel_rfl)
 ·subst hz; clear hs; have hs := hk1; clear hk1
  refine nrm_thenV (v_seq (vr_text (o_runs 1 [(4, .int .i64 (-1))] (by kernel_rfl) ?_)))
  refine ov_nil (nrm_thenV (v_ret ?_))
  obtain rfl := si hs
  exact fin_ret (by kernel_rfl) (by kernel_rfl) (by kernel_rfl)
theorem w_slices_Contains_2 (s : (List (List UInt8))) (v : (List UInt8)) (r : Bool) (hs : s_slices_Contains_2 s v = some r) : FnA Try.prog 27 [.vs 1 (List.map EV.encS s), .str v] [] (.bool r) [] := by
 refine fnA_of_wp (N := 9) Try.func27 rfl rfl rfl fun cK0 => ?_
 unfold s_slices_Contains_2 at hs
 refine v_same (ρ' := [(0, .vs 1 (List.map EV.encS s)), (1, .str v)]) rfl rfl ?_
 refine v_seq (vr_text (o_runs 1 [(4, .bool false)] (by kernel_rfl) ?_))
 refine ov_nil (nrm_thenV (v_seq (vr_text (o_runs 2 [(6, .str v), (5, .vs 1 (List.map EV.encS s))] (by kernel_rfl) ?_))))
 obtain ⟨y1, c1, hs⟩ := bind_some hs
 refine o_pure (v := .int .i64 y1) (by kernel_rfl) (by kernel_rfl) (loc_gcall0 (callV_func hbv42 (by kernel_rfl)) (w_slices_Index_2 s v _ c1) (by kernel_rfl)) ?_
 refine o_runs 2 [(4, .bool (decide (y1 ≥ 0))), (8, .bool (decide (y1 ≥ 0)))] (by kernel_rfl) ?_
 refine ov_nil (nrm_thenV (v_ret ?_))
 obtain rfl := si hs
 exact fin_ret (by kernel_rfl) (by kernel_rfl) (by kernel_rfl)
theorem w_expr_bit (ok : Bool) (r : Int) (hs : s_expr_bit ok = some r) : FnA Try.prog 35 [.bool ok] [] (.int .i64 r) [] := by
 refine fnA_of_wp (N := 4) Try.func35 rfl rfl rfl fun cK0 => ?_
 unfold s_expr_bit at hs
 refine v_same (ρ' := [(0, .bool ok)]) rfl rfl ?_
 refine v_seq (vr_text (o_runs 1 [(2, .int .i64 0)] (by kernel_rfl) ?_))
 refine ov_nil (nrm_thenV (v_seq (v_seq (vr_text (o_runs 1 [(3, .bool ok)] (by kernel_rfl) ?_)))))
 refine ov_nil (nrm_thenV ?_)
 refine v_cond ok (by kernel_rfl) (fun h1 => ?_) (fun h1 => ?_)
 ·replace hs := bif_t h1 hs
  refine v_seq (vr_text (o_runs 1 [(2, .int .i64 1)] (by kernel_rfl) ?_))
  refine ov_nil (nrm_thenV (v_ret (ret_thenV ?_)))
  obtain rfl := si hs
  exact fin_ret (by kernel_rfl) (by kernel_rfl) (by kernel_rfl)
 ·replace hs := bif_f h1 hs
  refine v_skip (nrm_thenV (v_seq (vr_text (o_runs 1 [(2, .int .i64 0)] (by kernel_rfl) ?_))))
  refine ov_nil (nrm_thenV (v_ret ?_))
  obtain rfl := si hs
  exact fin_ret (by kernel_rfl) (by kernel_rfl) (by kernel_rfl)
theorem w_expr_quotient (a : Int) (b : Int) (r : Int) (hs : s_expr_quotient a b = some r) : FnA Try.prog 53 [.int .i64 a, .int .i64 b] [] (.int .i64 r) [] := by
 refine fnA_of_wp (N := 27) Try.func53 rfl rfl rfl fun cK0 => ?_
 unfold s_expr_quotient at hs
 refine v_same (ρ' := [(0, .int .i64 a), (1, .int .i64 b)]) rfl rfl ?_
 refine v_seq (vr_text (o_runs 1 [(4, .int .i64 0)] (by kernel_rfl) ?_))
 refine ov_nil (nrm_thenV (v_seq (v_seq (vr_text (o_runs 2 [(8, .bool (decide (b = 0))), (7, .int .i64 b)] (by kernel_rfl) ?_)))))
 refine ov_nil (nrm_thenV ?_)
 refine v_cond (decide (b = 0)) (by kernel_rfl) (fun h1 => ?_) (fun h1 => ?_)
 ·replace hs := bif_t h1 hs
  refine v_seq (vr_text (o_runs 1 [(4, .int .i64 0)] (by kernel_rfl) ?_))
  refine ov_nil (nrm_thenV (v_ret (ret_thenV ?_)))
  obtain rfl := si hs
  exact fin_ret (by kernel_rfl) (by kernel_rfl) (by kernel_rfl)
 ·replace hs := bif_f h1 hs
  refine v_skip (nrm_thenV (v_seq (vr_text (o_runs 2 [(10, .int .i64 b), (9, .int .i64 a)] (by kernel_rfl) ?_))))
  obtain ⟨_, g1, hs⟩ := bind_some hs; replace g1 := grd_some g1
  refine o_pure (v := .int .i64 (w64 (Int.tdiv a b))) (by kernel_rfl) (by kernel_rfl) (loc_div (k := .i64) (a := a) (b := b) (by simp) (by kernel_rfl) (by kernel_rfl) g1) ?_
  refine o_runs 1 [(5, .int .i64 (w64 (Int.tdiv a b)))] (by kernel_rfl) ?_
  refine ov_nil (nrm_thenV (v_seq (v_seq (vr_text (o_runs 2 [(13, .int .i64 b), (12, .int .i64 a)] (by kernel_rfl) ?_)))))
  obtain ⟨_, g2, hs⟩ := bind_some hs; replace g2 := grd_some g2
  refine o_pure (v := .int .i64 (Int.tmod a b)) (by kernel_rfl) (by kernel_rfl) (loc_div (k := .i64) (a := a) (b := b) (by simp) (by kernel_rfl) (by kernel_rfl) g2) ?_
  refine o_runs 1 [(6, .int .i64 (Int.tmod a b))] (by kernel_rfl) ?_
  refine ov_nil (nrm_thenV (v_seq ?_))
  obtain ⟨z1, hs, hk1⟩ := bind_some hs
  refine v_join (S := Bool) (fun u => u = z1) (fun u => [(5, .int .i64 (w64 (Int.tdiv a b))), (23, .bool u)]) (fun u => []) ?_ (fun v1 hz => ?_)
  ·refine vr_text (o_runs 3 [(17, .bool (!(decide ((Int.tmod a b) = 0)))), (16, .bool (!(decide ((Int.tmod a b) = 0)))), (15, .int .i64 (Int.tmod a b))] (by kernel_rfl) ?_)
   cases h2 : ((!(decide ((Int.tmod a b) = 0))))
   ·replace hs := bif_f h2 hs
    refine o_runs 6 [(23, .bool false), (22, .no), (21, .no), (20, .no), (19, .no), (18, .no)] (by kernel_rfl) ?_
    refine ov_nil ?_
    obtain rfl := si hs
    refine nrm_join false rfl ?_
    exact cut_of [5, 23] [] (by kernel_rfl) (by kernel_rfl) (by kernel_rfl)
   ·replace hs := bif_t h2 hs
    refine o_runs 6 [(23, .bool (!((decide ((Int.tmod a b) < 0)) == (decide (b < 0))))), (22, .bool (!((decide ((Int.tmod a b) < 0)) == (decide (b < 0))))), (21, .bool (decide (b < 0))), (20, .int .i64 b), (19, .bool (decide ((Int.tmod a b) < 0))), (18, .int .i64 (Int.tmod a b))] (by kernel_rfl) ?_
    refine ov_nil ?_
    obtain rfl := si hs
    refine nrm_join (!((decide ((Int.tmod a b) < 0)) == (decide (b < 0)))) rfl ?_
    exact cut_of [5, 23] [] (by kernel_rfl) (by kernel_rfl) (by kernel_rfl)
  ·subst hz; clear hs; have hs := hk1; clear hk1
   refine nrm_thenV ?_
   obtain ⟨z2, hs, hk2⟩ := bind_some hs
   refine v_join (S := Int) (fun u => u = z2) (fun u => [(5, .int .i64 u)]) (fun u => []) ?_ (fun v2 hz => ?_)
   ·refine v_cond v1 (by kernel_rfl) (fun h3 => ?_) (fun h3 => ?_)
    ·replace hs := bif_t h3 hs
     refine vr_text (o_runs 3 [(5, .int .i64 (w64 ((w64 (Int.tdiv a b)) - 1))), (25, .int .i64 (w64 ((w64 (Int.tdiv a b)) - 1))), (24, .int .i64 (w64 (Int.tdiv a b)))] (by kernel_rfl) ?_)
     refine ov_nil ?_
     obtain rfl := si hs
     refine nrm_join (w64 ((w64 (Int.tdiv a b)) - 1)) rfl ?_
     exact cut_of [5] [] (by kernel_rfl) (by kernel_rfl) (by kernel_rfl)
    ·replace hs := bif_f h3 hs
     refine v_skip ?_
     obtain rfl := si hs
     refine nrm_join (w64 (Int.tdiv a b)) rfl ?_
     exact cut_of [5] [] (by kernel_rfl) (by kernel_rfl) (by kernel_rfl)
   ·subst hz; clear hs; have hs := hk2; clear hk2
    refine nrm_thenV (v_seq (vr_text (o_runs 2 [(4, .int .i64 v2), (26, .int .i64 v2)] (by kernel_rfl) ?_)))
    refine ov_nil (nrm_thenV (v_ret ?_))
    obtain rfl := si hs
    exact fin_ret (by kernel_rfl) (by kernel_rfl) (by kernel_rfl)
theorem w_expr_binary (op : Int) (a : Int) (b : Int) (r : Int) (hs : s_expr_binary op a b = some r) : FnA Try.prog 36 [.int .i64 op, .int .i64 a, .int .i64 b] [] (.int .i64 r) [] := by
 refine fnA_of_wp (N := 73) Try.func36 rfl rfl rfl fun cK0 => ?_
 unfold s_expr_binary at hs
 refine v_same (ρ' := [(0, .int .i64 op), (1, .int .i64 a), (2, .int .i64 b)]) rfl rfl ?_
 refine v_seq (vr_text (o_runs 1 [(6, .int .i64 0)] (by kernel_rfl) ?_))
 refine ov_nil (nrm_thenV (v_seq (v_seq (vr_text (o_runs 1 [(7, .int .i64 op)] (by kernel_rfl) ?_)))))
 refine ov_nil (nrm_thenV (v_block (v_seq (vr_text (o_runs 2 [(8, .bool (decide (op = 4))), (9, .bool (decide (op = 4)))] (by kernel_rfl) ?_)))))
 refine ov_nil (nrm_thenV ?_)
 refine v_cond (decide (op = 4)) (by kernel_rfl) (fun h1 => ?_) (fun h1 => ?_)
 ·replace hs := bif_t h1 hs
  refine v_seq (vr_text (o_runs 4 [(6, .int .i64 (w64 (a + b))), (12, .int .i64 (w64 (a + b))), (11, .int .i64 b), (10, .int .i64 a)] (by kernel_rfl) ?_))
  refine ov_nil (nrm_thenV (v_ret (ret_blkV (ret_thenV ?_))))
  obtain rfl := si hs
  exact fin_ret (by kernel_rfl) (by kernel_rfl) (by kernel_rfl)
 ·replace hs := bif_f h1 hs
  refine v_seq (vr_text (o_runs 2 [(13, .bool (decide (op = 5))), (14, .bool (decide (op = 5)))] (by kernel_rfl) ?_))
  refine ov_nil (nrm_thenV ?_)
  refine v_cond (decide (op = 5)) (by kernel_rfl) (fun h2 => ?_) (fun h2 => ?_)
  ·replace hs := bif_t h2 hs
   refine v_seq (vr_text (o_runs 4 [(6, .int .i64 (w64 (a - b))), (17, .int .i64 (w64 (a - b))), (16, .int .i64 b), (15, .int .i64 a)] (by kernel_rfl) ?_))
   refine ov_nil (nrm_thenV (v_ret (ret_blkV (ret_thenV ?_))))
   obtain rfl := si hs
   exact fin_ret (by kernel_rfl) (by kernel_rfl) (by kernel_rfl)
  ·replace hs := bif_f h2 hs
   refine v_seq (vr_text (o_runs 2 [(18, .bool (decide (op = 6))), (19, .bool (decide (op = 6)))] (by kernel_rfl) ?_))
   refine ov_nil (nrm_thenV ?_)
   refine v_cond (decide (op = 6)) (by kernel_rfl) (fun h3 => ?_) (fun h3 => ?_)
   ·replace hs := bif_t h3 hs
    refine v_seq (vr_text (o_runs 4 [(6, .int .i64 (w64 (a * b))), (22, .int .i64 (w64 (a * b))), (21, .int .i64 b), (20, .int .i64 a)] (by kernel_rfl) ?_))
    refine ov_nil (nrm_thenV (v_ret (ret_blkV (ret_thenV ?_))))
    obtain rfl := si hs
    exact fin_ret (by kernel_rfl) (by kernel_rfl) (by kernel_rfl)
   ·replace hs := bif_f h3 hs
    refine v_seq (vr_text (o_runs 2 [(23, .bool (decide (op = 7))), (24, .bool (decide (op = 7)))] (by kernel_rfl) ?_))
    refine ov_nil (nrm_thenV ?_)
    refine v_cond (decide (op = 7)) (by kernel_rfl) (fun h4 => ?_) (fun h4 => ?_)
    ·replace hs := bif_t h4 hs
     refine v_seq (vr_text (o_runs 2 [(26, .int .i64 b), (25, .int .i64 a)] (by kernel_rfl) ?_))
     obtain ⟨y1, c1, hs⟩ := bind_some hs
     refine o_pure (v := .int .i64 y1) (by kernel_rfl) (by kernel_rfl) (loc_gcall0 (callV_func hbv53 (by kernel_rfl)) (w_expr_quotient a b _ c1) (by kernel_rfl)) ?_
     refine o_runs 1 [(6, .int .i64 y1)] (by kernel_rfl) ?_
     refine ov_nil (nrm_thenV (v_ret (ret_blkV (ret_thenV ?_))))
     obtain rfl := si hs
     exact fin_ret (by kernel_rfl) (by kernel_rfl) (by kernel_rfl)
    ·replace hs := bif_f h4 hs
     refine v_seq (vr_text (o_runs 2 [(28, .bool (decide (op = 8))), (29, .bool (decide (op = 8)))] (by kernel_rfl) ?_))
     refine ov_nil (nrm_thenV ?_)
     refine v_cond (decide (op = 8)) (by kernel_rfl) (fun h5 => ?_) (fun h5 => ?_)
     ·replace hs := bif_t h5 hs
      refine v_seq (v_seq (vr_text (o_runs 2 [(31, .bool (decide (b = 0))), (30, .int .i64 b)] (by kernel_rfl) ?_)))
      refine ov_nil (nrm_thenV ?_)
      refine v_cond (decide (b = 0)) (by kernel_rfl) (fun h6 => ?_) (fun h6 => ?_)
      ·replace hs := bif_t h6 hs
       refine v_seq (vr_text (o_runs 1 [(6, .int .i64 0)] (by kernel_rfl) ?_))
       refine ov_nil (nrm_thenV (v_ret (ret_thenV (ret_blkV (ret_thenV ?_)))))
       obtain rfl := si hs
       exact fin_ret (by kernel_rfl) (by kernel_rfl) (by kernel_rfl)
      ·replace hs := bif_f h6 hs
       refine v_skip (nrm_thenV (v_seq (vr_text (o_runs 3 [(34, .int .i64 b), (33, .int .i64 a), (32, .int .i64 a)] (by kernel_rfl) ?_))))
       obtain ⟨y2, c2, hs⟩ := bind_some hs
       refine o_pure (v := .int .i64 y2) (by kernel_rfl) (by kernel_rfl) (loc_gcall0 (callV_func hbv53 (by kernel_rfl)) (w_expr_quotient a b _ c2) (by kernel_rfl)) ?_
       refine o_runs 4 [(6, .int .i64 (w64 (a - (w64 (y2 * b))))), (38, .int .i64 (w64 (a - (w64 (y2 * b))))), (37, .int .i64 (w64 (y2 * b))), (36, .int .i64 b)] (by kernel_rfl) ?_
       refine ov_nil (nrm_thenV (v_ret (ret_blkV (ret_thenV ?_))))
       obtain rfl := si hs
       exact fin_ret (by kernel_rfl) (by kernel_rfl) (by kernel_rfl)
     ·replace hs := bif_f h5 hs
      refine v_seq (vr_text (o_runs 2 [(39, .bool (decide (op = 10))), (40, .bool (decide (op = 10)))] (by kernel_rfl) ?_))
      refine ov_nil (nrm_thenV ?_)
      refine v_cond (decide (op = 10)) (by kernel_rfl) (fun h7 => ?_) (fun h7 => ?_)
      ·replace hs := bif_t h7 hs
       refine v_seq (vr_text (o_runs 3 [(43, .bool (decide (a = b))), (42, .int .i64 b), (41, .int .i64 a)] (by kernel_rfl) ?_))
       obtain ⟨y3, c3, hs⟩ := bind_some hs
       refine o_pure (v := .int .i64 y3) (by kernel_rfl) (by kernel_rfl) (loc_gcall0 (callV_func hbv35 (by kernel_rfl)) (w_expr_bit (decide (a = b)) _ c3) (by kernel_rfl)) ?_
       refine o_runs 1 [(6, .int .i64 y3)] (by kernel_rfl) ?_
       refine ov_nil (nrm_thenV (v_ret (ret_blkV (ret_thenV ?_))))
       obtain rfl := si hs
       exact fin_ret (by kernel_rfl) (by kernel_rfl) (by kernel_rfl)
      ·replace hs := bif_f h7 hs
       refine v_seq (vr_text (o_runs 2 [(45, .bool (decide (op = 11))), (46, .bool (decide (op = 11)))] (by kernel_rfl) ?_))
       refine ov_nil (nrm_thenV ?_)
       refine v_cond (decide (op = 11)) (by kernel_rfl) (fun h8 => ?_) (fun h8 => ?_)
       ·replace hs := bif_t h8 hs
        refine v_seq (vr_text (o_runs 3 [(49, .bool (decide (a < b))), (48, .int .i64 b), (47, .int .i64 a)] (by kernel_rfl) ?_))
        obtain ⟨y4, c4, hs⟩ := bind_some hs
        refine o_pure (v := .int .i64 y4) (by kernel_rfl) (by kernel_rfl) (loc_gcall0 (callV_func hbv35 (by kernel_rfl)) (w_expr_bit (decide (a < b)) _ c4) (by kernel_rfl)) ?_
        refine o_runs 1 [(6, .int .i64 y4)] (by kernel_rfl) ?_
        refine ov_nil (nrm_thenV (v_ret (ret_blkV (ret_thenV ?_))))
        obtain rfl := si hs
        exact fin_ret (by kernel_rfl) (by kernel_rfl) (by kernel_rfl)
       ·replace hs := bif_f h8 hs
        refine v_seq (vr_text (o_runs 2 [(51, .bool (decide (op = 12))), (52, .bool (decide (op = 12)))] (by kernel_rfl) ?_))
        refine ov_nil (nrm_thenV ?_)
        refine v_cond (decide (op = 12)) (by kernel_rfl) (fun h9 => ?_) (fun h9 => ?_)
        ·replace hs := bif_t h9 hs
         refine v_seq (vr_text (o_runs 3 [(55, .bool (decide (a ≤ b))), (54, .int .i64 b), (53, .int .i64 a)] (by kernel_rfl) ?_))
         obtain ⟨y5, c5, hs⟩ := bind_some hs
         refine o_pure (v := .int .i64 y5) (by kernel_rfl) (by kernel_rfl) (loc_gcall0 (callV_func hbv35 (by kernel_rfl)) (w_expr_bit (decide (a ≤ b)) _ c5) (by kernel_rfl)) ?_
         refine o_runs 1 [(6, .int .i64 y5)] (by kernel_rfl) ?_
         refine ov_nil (nrm_thenV (v_ret (ret_blkV (ret_thenV ?_))))
         obtain rfl := si hs
         exact fin_ret (by kernel_rfl) (by kernel_rfl) (by kernel_rfl)
        ·replace hs := bif_f h9 hs
         refine v_seq (vr_text (o_runs 2 [(57, .bool (decide (op = 13))), (58, .bool (decide (op = 13)))] (by kernel_rfl) ?_))
         refine ov_nil (nrm_thenV ?_)
         refine v_cond (decide (op = 13)) (by kernel_rfl) (fun h10 => ?_) (fun h10 => ?_)
         ·replace hs := bif_t h10 hs
          refine v_seq ?_
          obtain ⟨z1, hs, hk1⟩ := bind_some hs
          refine v_join (S := Int) (fun u => u = z1) (fun u => [(6, .int .i64 u)]) (fun u => []) ?_ (fun v1 hz => ?_)
          ·refine vr_text (o_runs 3 [(61, .bool (!(decide (a = 0)))), (60, .bool (!(decide (a = 0)))), (59, .int .i64 a)] (by kernel_rfl) ?_)
           cases h11 : ((!(decide (a = 0))))
           ·replace hs := bif_f h11 hs
            refine o_runs 3 [(64, .bool false), (63, .no), (62, .no)] (by kernel_rfl) ?_
            obtain ⟨y6, c6, hs⟩ := bind_some hs
            refine o_pure (v := .int .i64 y6) (by kernel_rfl) (by kernel_rfl) (loc_gcall0 (callV_func hbv35 (by kernel_rfl)) (w_expr_bit false _ c6) (by kernel_rfl)) ?_
            refine o_runs 1 [(6, .int .i64 y6)] (by kernel_rfl) ?_
            refine ov_nil ?_
            obtain rfl := si hs
            refine nrm_join y6 rfl ?_
            exact cut_of [6] [] (by kernel_rfl) (by kernel_rfl) (by kernel_rfl)
           ·replace hs := bif_t h11 hs
            refine o_runs 3 [(64, .bool (!(decide (b = 0)))), (63, .bool (!(decide (b = 0)))), (62, .int .i64 b)] (by kernel_rfl) ?_
            obtain ⟨y7, c7, hs⟩ := bind_some hs
            refine o_pure (v := .int .i64 y7) (by kernel_rfl) (by kernel_rfl) (loc_gcall0 (callV_func hbv35 (by kernel_rfl)) (w_expr_bit (!(decide (b = 0))) _ c7) (by kernel_rfl)) ?_
            refine o_runs 1 [(6, .int .i64 y7)] (by kernel_rfl) ?_
            refine ov_nil ?_
            obtain rfl := si hs
            refine nrm_join y7 rfl ?_
            exact cut_of [6] [] (by kernel_rfl) (by kernel_rfl) (by kernel_rfl)
          ·subst hz; clear hs; have hs := hk1; clear hk1
           refine nrm_thenV (v_ret (ret_blkV (ret_thenV ?_)))
           obtain rfl := si hs
           exact fin_ret (by kernel_rfl) (by kernel_rfl) (by kernel_rfl)
         ·replace hs := bif_f h10 hs
          refine v_skip (nrm_blkV (nrm_thenV (v_seq ?_)))
          obtain ⟨z2, hs, hk2⟩ := bind_some hs
          refine v_join (S := Int) (fun u => u = z2) (fun u => [(6, .int .i64 u)]) (fun u => []) ?_ (fun v2 hz => ?_)
          ·refine vr_text (o_runs 3 [(68, .bool (!(decide (a = 0)))), (67, .bool (!(decide (a = 0)))), (66, .int .i64 a)] (by kernel_rfl) ?_)
           cases h12 : ((!(decide (a = 0))))
           ·replace hs := bif_f h12 hs
            refine o_runs 3 [(71, .bool (!(decide (b = 0)))), (70, .bool (!(decide (b = 0)))), (69, .int .i64 b)] (by kernel_rfl) ?_
            obtain ⟨y8, c8, hs⟩ := bind_some hs
            refine o_pure (v := .int .i64 y8) (by kernel_rfl) (by kernel_rfl) (loc_gcall0 (callV_func hbv35 (by kernel_rfl)) (w_expr_bit (!(decide (b = 0))) _ c8) (by kernel_rfl)) ?_
            refine o_runs 1 [(6, .int .i64 y8)] (by kernel_rfl) ?_
            refine ov_nil ?_
            obtain rfl := si hs
            refine nrm_join y8 rfl ?_
            exact cut_of [6] [] (by kernel_rfl) (by kernel_rfl) (by kernel_rfl)
           ·replace hs := bif_t h12 hs
            refine o_runs 3 [(71, .bool true), (70, .no), (69, .no)] (by kernel_rfl) ?_
            obtain ⟨y9, c9, hs⟩ := bind_some hs
            refine o_pure (v := .int .i64 y9) (by kernel_rfl) (by kernel_rfl) (loc_gcall0 (callV_func hbv35 (by kernel_rfl)) (w_expr_bit true _ c9) (by kernel_rfl)) ?_
            refine o_runs 1 [(6, .int .i64 y9)] (by kernel_rfl) ?_
            refine ov_nil ?_
            obtain rfl := si hs
            refine nrm_join y9 rfl ?_
            exact cut_of [6] [] (by kernel_rfl) (by kernel_rfl) (by kernel_rfl)
          ·subst hz; clear hs; have hs := hk2; clear hk2
           refine nrm_thenV (v_ret ?_)
           obtain rfl := si hs
           exact fin_ret (by kernel_rfl) (by kernel_rfl) (by kernel_rfl)
theorem ws_expr_context_value (nF : Nat) (ih_expr_context_value : ∀ (c_plan : Plan) (c_known : (List ((List UInt8) × Int))) (c_zones : (List (List UInt8))) (e : Expr) (r : Int), s_expr_context_value nF c_plan c_known c_zones e = some r → FnA Try.prog 18 [.agg [.vs 6 (List.map enc_Def c_plan.Defs), .vs 3 (List.map enc_Table c_plan.Tables), .vs 3 (List.map enc_Zone c_plan.Zones), .vs 20 (List.map enc_Rule c_plan.Rules), .vs 4 (List.map enc_Cap c_plan.Caps), .vs 6 (List.map enc_View c_plan.Views), .vs 3 (List.map enc_Point3 c_plan.Sun), .int .i64 c_plan.Hours, .mp 1000000, .vs 1 (List.map EV.encS c_zones)], .agg (enc_Expr e)] [(1000000, .map (encM V.str (V.int .i64) c_known))] (.int .i64 r) [(1000000, .map (encM V.str (V.int .i64) c_known))]) (c_plan : Plan) (c_known : (List ((List UInt8) × Int))) (c_zones : (List (List UInt8))) (e : Expr) (r : Int) (hs : s_expr_context_value (nF + 1) c_plan c_known c_zones e = some r) : FnA Try.prog 18 [.agg [.vs 6 (List.map enc_Def c_plan.Defs), .vs 3 (List.map enc_Table c_plan.Tables), .vs 3 (List.map enc_Zone c_plan.Zones), .vs 20 (List.map enc_Rule c_plan.Rules), .vs 4 (List.map enc_Cap c_plan.Caps), .vs 6 (List.map enc_View c_plan.Views), .vs 3 (List.map enc_Point3 c_plan.Sun), .int .i64 c_plan.Hours, .mp 1000000, .vs 1 (List.map EV.encS c_zones)], .agg (enc_Expr e)] [(1000000, .map (encM V.str (V.int .i64) c_known))] (.int .i64 r) [(1000000, .map (encM V.str (V.int .i64) c_known))] := by
 refine fnA_of_wp (N := 102) Try.func18 rfl rfl rfl fun cK0 => ?_
 rw [s_expr_context_value] at hs
 refine v_same (ρ' := [(0, .agg [.vs 6 (List.map enc_Def c_plan.Defs), .vs 3 (List.map enc_Table c_plan.Tables), .vs 3 (List.map enc_Zone c_plan.Zones), .vs 20 (List.map enc_Rule c_plan.Rules), .vs 4 (List.map enc_Cap c_plan.Caps), .vs 6 (List.map enc_View c_plan.Views), .vs 3 (List.map enc_Point3 c_plan.Sun), .int .i64 c_plan.Hours, .mp 1000000, .vs 1 (List.map EV.encS c_zones)]), (1, .agg (enc_Expr e))]) rfl rfl ?_
 refine v_seq (vr_text (o_runh 3 [(4, .int .i64 0), (3, .ptr 3 0 0), (2, .ptr 2 0 0)] [(3, .box 34 [.int .i64 e.Op, .int .i64 e.N, .str e.S, .str e.Key, .vs 5 (encs_Expr e.Args)]), (2, .box 63 [.vs 6 (List.map enc_Def c_plan.Defs), .vs 3 (List.map enc_Table c_plan.Tables), .vs 3 (List.map enc_Zone c_plan.Zones), .vs 20 (List.map enc_Rule c_plan.Rules), .vs 4 (List.map enc_Cap c_plan.Caps), .vs 6 (List.map enc_View c_plan.Views), .vs 3 (List.map enc_Point3 c_plan.Sun), .int .i64 c_plan.Hours, .mp 1000000, .vs 1 (List.map EV.encS c_zones)]), (1000000, .map (encM V.str (V.int .i64) c_known))] (by kernel_rfl) ?_))
 refine ov_nil (nrm_thenV (v_seq (vr_text (o_runs 1 [(5, .nils)] (by kernel_rfl) ?_))))
 refine ov_nil (nrm_thenV (v_seq (v_seq (vr_text (o_runs 2 [(9, .vs 5 (encs_Expr e.Args)), (8, .ptr 3 0 4)] (by kernel_rfl) ?_)))))
 refine o_pure (v := .int .i64 (List.length e.Args : Int)) (by kernel_rfl) (by kernel_rfl) (loc_lenVs (sz := 5) (els := (encs_Expr e.Args)) (by kernel_rfl) (by kernel_rfl) (by rw [encs_Expr_eq, List.length_map])) ?_
 refine o_runs 1 [(11, .int .i64 0)] (by kernel_rfl) ?_
 refine ov_nil (nrm_thenV ?_)
 obtain ⟨z1, hs, hk1⟩ := bind_some hs
 refine v_join (S := (List Int)) (fun u => u = z1) (fun u => [(2, .ptr 2 0 0), (3, .ptr 3 0 0), (5, .sl 1 2000035 ((u).length) 0 ((u).length))]) (fun u => [(3, .box 34 [.int .i64 e.Op, .int .i64 e.N, .str e.S, .str e.Key, .vs 5 (encs_Expr e.Args)]), (2, .box 63 [.vs 6 (List.map enc_Def c_plan.Defs), .vs 3 (List.map enc_Table c_plan.Tables), .vs 3 (List.map enc_Zone c_plan.Zones), .vs 20 (List.map enc_Rule c_plan.Rules), .vs 4 (List.map enc_Cap c_plan.Caps), .vs 6 (List.map enc_View c_plan.Views), .vs 3 (List.map enc_Point3 c_plan.Sun), .int .i64 c_plan.Hours, .mp 1000000, .vs 1 (List.map EV.encS c_zones)]), (1000000, .map (encM V.str (V.int .i64) c_known)), (2000035, .row 3 1 0 (List.map EV.encI u))]) ?_ (fun v1 hz => ?_)
 ·refine v_block ?_
  refine v_fuel (S := Int × (List Int)) (fun u => [(2, .ptr 2 0 0), (3, .ptr 3 0 0), (5, .sl 1 2000035 ((u.2).length) 0 ((u.2).length)), (9, .vs 5 (encs_Expr e.Args)), (10, .int .i64 (List.length e.Args : Int)), (11, .int .i64 u.1)]) (fun u => [(3, .box 34 [.int .i64 e.Op, .int .i64 e.N, .str e.S, .str e.Key, .vs 5 (encs_Expr e.Args)]), (2, .box 63 [.vs 6 (List.map enc_Def c_plan.Defs), .vs 3 (List.map enc_Table c_plan.Tables), .vs 3 (List.map enc_Zone c_plan.Zones), .vs 20 (List.map enc_Rule c_plan.Rules), .vs 4 (List.map enc_Cap c_plan.Caps), .vs 6 (List.map enc_View c_plan.Views), .vs 3 (List.map enc_Point3 c_plan.Sun), .int .i64 c_plan.Hours, .mp 1000000, .vs 1 (List.map EV.encS c_zones)]), (1000000, .map (encM V.str (V.int .i64) c_known)), (2000035, .row 3 1 0 (List.map EV.encI u.2))]) (s_expr_context_value_L1 (s_expr_context_value nF) c_plan c_known c_zones e) (fun _ => rfl) KK (0, []) hs (Cut.trans (cut_nilRow 5 2000035 3 1 rfl (by kernel_rfl) (by kernel_rfl)) (cut_of [2, 3, 5, 9, 10, 11] [3, 2, 1000000, 2000035] (by kernel_rfl) (by kernel_rfl) (by kernel_rfl))) (fun K1 q1 hs => ?_)
  rw [s_expr_context_value_L1] at hs
  show WpV cK0 Try.prog none 102 _ _ [(2, .ptr 2 0 0), (3, .ptr 3 0 0), (5, .sl 1 2000035 ((q1.2).length) 0 ((q1.2).length)), (9, .vs 5 (encs_Expr e.Args)), (10, .int .i64 (List.length e.Args : Int)), (11, .int .i64 q1.1)] [(3, .box 34 [.int .i64 e.Op, .int .i64 e.N, .str e.S, .str e.Key, .vs 5 (encs_Expr e.Args)]), (2, .box 63 [.vs 6 (List.map enc_Def c_plan.Defs), .vs 3 (List.map enc_Table c_plan.Tables), .vs 3 (List.map enc_Zone c_plan.Zones), .vs 20 (List.map enc_Rule c_plan.Rules), .vs 4 (List.map enc_Cap c_plan.Caps), .vs 6 (List.map enc_View c_plan.Views), .vs 3 (List.map enc_Point3 c_plan.Sun), .int .i64 c_plan.Hours, .mp 1000000, .vs 1 (List.map EV.encS c_zones)]), (1000000, .map (encM V.str (V.int .i64) c_known)), (2000035, .row 3 1 0 (List.map EV.encI q1.2))] []
  refine v_seq (vr_text (o_runs 1 [(12, .bool (decide (q1.1 < (List.length e.Args : Int))))] (by kernel_rfl) ?_))
  refine ov_nil (nrm_thenV (v_seq ?_))
  refine v_cond (decide (q1.1 < (List.length e.Args : Int))) (by kernel_rfl) (fun h1 => ?_) (fun h1 => ?_)
  ·replace hs := bif_t h1 hs
   refine v_skip (nrm_thenV (v_seq ?_))
   obtain ⟨z2, hs, hk2⟩ := bind_some hs
   refine v_join (S := (List Int)) (fun u => u = z2) (fun u => [(2, .ptr 2 0 0), (3, .ptr 3 0 0), (5, .sl 1 2000035 ((u).length) 0 ((u).length)), (9, .vs 5 (encs_Expr e.Args)), (10, .int .i64 (List.length e.Args : Int)), (11, .int .i64 q1.1)]) (fun u => [(2000035, .row 3 1 0 (List.map EV.encI u)), (3, .box 34 [.int .i64 e.Op, .int .i64 e.N, .str e.S, .str e.Key, .vs 5 (encs_Expr e.Args)]), (2, .box 63 [.vs 6 (List.map enc_Def c_plan.Defs), .vs 3 (List.map enc_Table c_plan.Tables), .vs 3 (List.map enc_Zone c_plan.Zones), .vs 20 (List.map enc_Rule c_plan.Rules), .vs 4 (List.map enc_Cap c_plan.Caps), .vs 6 (List.map enc_View c_plan.Views), .vs 3 (List.map enc_Point3 c_plan.Sun), .int .i64 c_plan.Hours, .mp 1000000, .vs 1 (List.map EV.encS c_zones)]), (1000000, .map (encM V.str (V.int .i64) c_known))]) ?_ (fun v2 hz => ?_)
   ·refine v_block (v_seq (vr_text (o_runs 1 [(13, .int .i64 q1.1)] (by kernel_rfl) ?_)))
    obtain ⟨x1, g1, hs⟩ := bind_some hs; obtain ⟨g1a, g1b, g1c⟩ := idx_some g1
    refine o_pure (v := .vp (enc_Expr x1) 0) (by kernel_rfl) (by kernel_rfl) (loc_indexVs (e := 34) (sz := 5) (k := .i64) (els := (encs_Expr e.Args)) (cs := (enc_Expr x1)) (by kernel_rfl) (by kernel_rfl) (by kernel_rfl) g1a (by rw [g1c, encs_Expr_eq]; exact map_get _ (by omega))) ?_
    refine o_runh 4 [(6, .int .i64 q1.1), (7, .ptr 7 0 0), (15, .agg (enc_Expr x1))] [(7, .box 34 [.int .i64 x1.Op, .int .i64 x1.N, .str x1.S, .str x1.Key, .vs 5 (encs_Expr x1.Args)]), (3, .box 34 [.int .i64 e.Op, .int .i64 e.N, .str e.S, .str e.Key, .vs 5 (encs_Expr e.Args)]), (2, .box 63 [.vs 6 (List.map enc_Def c_plan.Defs), .vs 3 (List.map enc_Table c_plan.Tables), .vs 3 (List.map enc_Zone c_plan.Zones), .vs 20 (List.map enc_Rule c_plan.Rules), .vs 4 (List.map enc_Cap c_plan.Caps), .vs 6 (List.map enc_View c_plan.Views), .vs 3 (List.map enc_Point3 c_plan.Sun), .int .i64 c_plan.Hours, .mp 1000000, .vs 1 (List.map EV.encS c_zones)]), (1000000, .map (encM V.str (V.int .i64) c_known)), (2000035, .row 3 1 0 (List.map EV.encI q1.2))] (by kernel_rfl) ?_
    refine ov_nil (nrm_thenV (v_seq (v_seq ?_)))
    obtain ⟨z3, hs, hk3⟩ := bind_some hs
    refine v_join (S := Bool) (fun u => u = z3) (fun u => [(2, .ptr 2 0 0), (3, .ptr 3 0 0), (5, .sl 1 2000035 ((q1.2).length) 0 ((q1.2).length)), (7, .ptr 7 0 0), (9, .vs 5 (encs_Expr e.Args)), (10, .int .i64 (List.length e.Args : Int)), (11, .int .i64 q1.1), (31, .bool u)]) (fun u => [(7, .box 34 [.int .i64 x1.Op, .int .i64 x1.N, .str x1.S, .str x1.Key, .vs 5 (encs_Expr x1.Args)]), (3, .box 34 [.int .i64 e.Op, .int .i64 e.N, .str e.S, .str e.Key, .vs 5 (encs_Expr e.Args)]), (2, .box 63 [.vs 6 (List.map enc_Def c_plan.Defs), .vs 3 (List.map enc_Table c_plan.Tables), .vs 3 (List.map enc_Zone c_plan.Zones), .vs 20 (List.map enc_Rule c_plan.Rules), .vs 4 (List.map enc_Cap c_plan.Caps), .vs 6 (List.map enc_View c_plan.Views), .vs 3 (List.map enc_Point3 c_plan.Sun), .int .i64 c_plan.Hours, .mp 1000000, .vs 1 (List.map EV.encS c_zones)]), (1000000, .map (encM V.str (V.int .i64) c_known)), (2000035, .row 3 1 0 (List.map EV.encI q1.2))]) ?_ (fun v3 hz => ?_)
    ·refine vr_text (o_runs 4 [(19, .bool (decide (e.Op = 16))), (18, .bool (decide (e.Op = 16))), (17, .int .i64 e.Op), (16, .ptr 3 0 0)] (by kernel_rfl) ?_)
     cases h2 : ((decide (e.Op = 16)))
     ·replace hs := bif_f h2 hs
      refine o_runs 12 [(31, .bool false), (30, .no), (29, .no), (28, .no), (27, .no), (26, .no), (25, .no), (24, .no), (23, .bool false), (22, .bool false), (21, .no), (20, .no)] (by kernel_rfl) ?_
      refine ov_nil ?_
      obtain rfl := si hs
      refine nrm_join false rfl ?_
      exact cut_of [2, 3, 5, 7, 9, 10, 11, 31] [7, 3, 2, 1000000, 2000035] (by kernel_rfl) (by kernel_rfl) (by kernel_rfl)
     ·replace hs := bif_t h2 hs
      refine o_runs 4 [(23, .bool (decide (q1.1 > 0))), (22, .bool (decide (q1.1 > 0))), (21, .bool (decide (q1.1 > 0))), (20, .int .i64 q1.1)] (by kernel_rfl) ?_
      cases h3 : ((decide (q1.1 > 0)))
      ·replace hs := bif_f h3 hs
       refine o_runs 8 [(31, .bool false), (30, .no), (29, .no), (28, .no), (27, .no), (26, .no), (25, .no), (24, .no)] (by kernel_rfl) ?_
       refine ov_nil ?_
       obtain rfl := si hs
       refine nrm_join false rfl ?_
       exact cut_of [2, 3, 5, 7, 9, 10, 11, 31] [7, 3, 2, 1000000, 2000035] (by kernel_rfl) (by kernel_rfl) (by kernel_rfl)
      ·replace hs := bif_t h3 hs
       refine o_runs 1 [(24, .sl 1 2000035 ((q1.2).length) 0 ((q1.2).length))] (by kernel_rfl) ?_
       obtain ⟨_, g2, hs⟩ := bind_some hs; obtain ⟨g2a, g2b⟩ := grd_some g2
       refine o_pure (v := .ptr 2000035 ((q1.2).length) ((Int.toNat 0) * 1 + 0)) (by kernel_rfl) (by kernel_rfl) (loc_indexRowT (e := 3) (sz := 1) (kk := 2000035) (L := (q1.2).length) (n := (q1.2).length) (k := .i64) (i := 0) (by kernel_rfl) (by kernel_rfl) (by kernel_rfl) g2a g2b) ?_
       obtain ⟨e1, he1, hs⟩ := bind_some hs; replace he1 := Option.some.inj he1
       refine o_loc (F := [(2000035, .row 3 1 0 (List.map EV.encI q1.2))]) (F' := [(2000035, .row 3 1 0 (List.map EV.encI q1.2))]) (v := .int .i64 e1) [2000035] (by kernel_rfl) (by kernel_rfl) rfl (by kernel_rfl) (loc_loadRow (L := (q1.2).length) (off := (Int.toNat 0) * 1 + 0) (els := (List.map EV.encI q1.2)) (cs := [.int .i64 e1]) (Int.toNat 0) 0 (by kernel_rfl) (by first | (simp only [List.length_map, List.length_set, cpyT_length]; done) | rfl) rfl (by rw [← he1]; exact map_get _ (by first | omega | (simp only [List.length_set, cpyT_length]; omega))) (by kernel_rfl)) (by kernel_rfl) ?_
       refine o_runs 5 [(31, .bool (!((!(decide (e1 = 0))) == (decide (q1.1 = 1))))), (30, .bool (!((!(decide (e1 = 0))) == (decide (q1.1 = 1))))), (29, .bool (decide (q1.1 = 1))), (28, .int .i64 q1.1), (27, .bool (!(decide (e1 = 0))))] (by kernel_rfl) ?_
       refine ov_nil ?_
       obtain rfl := si hs
       refine nrm_join (!((!(decide (e1 = 0))) == (decide (q1.1 = 1)))) rfl ?_
       exact cut_of [2, 3, 5, 7, 9, 10, 11, 31] [7, 3, 2, 1000000, 2000035] (by kernel_rfl) (by kernel_rfl) (by kernel_rfl)
    ·subst hz; clear hs; have hs := hk3; clear hk3
     refine nrm_thenV ?_
     refine v_cond v3 (by kernel_rfl) (fun h4 => ?_) (fun h4 => ?_)
     ·replace hs := bif_t h4 hs
      refine v_seq (vr_text (o_runh 2 [(33, .sl 1 33 1 0 1), (32, .sl 1 2000035 ((q1.2).length) 0 ((q1.2).length))] [(33, .row 3 1 0 (List.map EV.encI [0])), (7, .box 34 [.int .i64 x1.Op, .int .i64 x1.N, .str x1.S, .str x1.Key, .vs 5 (encs_Expr x1.Args)]), (3, .box 34 [.int .i64 e.Op, .int .i64 e.N, .str e.S, .str e.Key, .vs 5 (encs_Expr e.Args)]), (2, .box 63 [.vs 6 (List.map enc_Def c_plan.Defs), .vs 3 (List.map enc_Table c_plan.Tables), .vs 3 (List.map enc_Zone c_plan.Zones), .vs 20 (List.map enc_Rule c_plan.Rules), .vs 4 (List.map enc_Cap c_plan.Caps), .vs 6 (List.map enc_View c_plan.Views), .vs 3 (List.map enc_Point3 c_plan.Sun), .int .i64 c_plan.Hours, .mp 1000000, .vs 1 (List.map EV.encS c_zones)]), (1000000, .map (encM V.str (V.int .i64) c_known)), (2000035, .row 3 1 0 (List.map EV.encI q1.2))] (by kernel_rfl) ?_))
      obtain ⟨_, g3, hs⟩ := bind_some hs; replace g3 := grd_some g3
      refine o_loc (F := [(2000035, .row 3 1 0 (List.map EV.encI q1.2)), (33, .row 3 1 0 (List.map EV.encI [0]))]) (F' := [(2000035, .row 3 1 0 (List.map EV.encI (q1.2 ++ [0]))), (33, .row 3 1 0 (List.map EV.encI [0]))]) (v := .sl 1 2000035 (((q1.2 ++ [0])).length) 0 (((q1.2 ++ [0])).length)) [2000035, 33] (by kernel_rfl) (by kernel_rfl) rfl (by kernel_rfl) (loc_appendT (e := 3) (sz := 1) (bytes := 8) (L := (q1.2).length) (els := (List.map EV.encI q1.2)) (ys := (List.map EV.encI [0])) (by kernel_rfl) (by kernel_rfl) (by first | exact List.length_map .. | rfl) (.sl (t := 3) (fz := 0) (ys := (List.map EV.encI [0])) (by kernel_rfl) (by kernel_rfl)) (map_ones EV.encI (fun _ => rfl) _) (map_lens EV.encI (fun _ => rfl) _) (by kernel_rfl) (by first | exact (List.map_append ..).symm | rfl | simp only [List.map_nil, List.nil_append]) (List.length_map ..) g3 (by omega)) (by kernel_rfl) ?_
      refine o_runs 1 [(5, .sl 1 2000035 (((q1.2 ++ [0])).length) 0 (((q1.2 ++ [0])).length))] (by kernel_rfl) ?_
      refine ov_nil (nrm_thenV (v_exit (exit_thenV (exit_blkV ?_))))
      obtain rfl := si hs
      refine nrm_join (q1.2 ++ [0]) rfl ?_
      exact cut_of [2, 3, 5, 9, 10, 11] [2000035, 3, 2, 1000000] (by kernel_rfl) (by kernel_rfl) (by kernel_rfl)
     ·replace hs := bif_f h4 hs
      refine v_skip (nrm_thenV (vr_text (o_runs 3 [(37, .agg (enc_Expr x1)), (36, .agg [.vs 6 (List.map enc_Def c_plan.Defs), .vs 3 (List.map enc_Table c_plan.Tables), .vs 3 (List.map enc_Zone c_plan.Zones), .vs 20 (List.map enc_Rule c_plan.Rules), .vs 4 (List.map enc_Cap c_plan.Caps), .vs 6 (List.map enc_View c_plan.Views), .vs 3 (List.map enc_Point3 c_plan.Sun), .int .i64 c_plan.Hours, .mp 1000000, .vs 1 (List.map EV.encS c_zones)]), (35, .sl 1 2000035 ((q1.2).length) 0 ((q1.2).length))] (by kernel_rfl) ?_)))
      obtain ⟨y1, c1, hs⟩ := bind_some hs
      refine o_loc (F := [(1000000, .map (encM V.str (V.int .i64) c_known))]) (F' := [(1000000, .map (encM V.str (V.int .i64) c_known))]) (v := .int .i64 y1) [1000000] (by kernel_rfl) (by kernel_rfl) rfl (by kernel_rfl) (loc_g (R := []) [.agg [.vs 6 (List.map enc_Def c_plan.Defs), .vs 3 (List.map enc_Table c_plan.Tables), .vs 3 (List.map enc_Zone c_plan.Zones), .vs 20 (List.map enc_Rule c_plan.Rules), .vs 4 (List.map enc_Cap c_plan.Caps), .vs 6 (List.map enc_View c_plan.Views), .vs 3 (List.map enc_Point3 c_plan.Sun), .int .i64 c_plan.Hours, .mp 1000000, .vs 1 (List.map EV.encS c_zones)], .agg (enc_Expr x1)] [(1000000, 1000000)] (callV_func hbv18 (by kernel_rfl)) (ih_expr_context_value c_plan c_known c_zones x1 _ c1) (.cons (.same _) (.cons (.same _) (.nil))) (by kernel_rfl) (by kernel_rfl) (by kernel_rfl) (by kernel_rfl) (by kernel_rfl) (by kernel_rfl) (by kernel_rfl) (by kernel_rfl)) (by kernel_rfl) ?_
      refine o_runh 1 [(39, .sl 1 39 1 0 1)] [(39, .row 3 1 0 (List.map EV.encI [y1])), (1000000, .map (encM V.str (V.int .i64) c_known)), (7, .box 34 [.int .i64 x1.Op, .int .i64 x1.N, .str x1.S, .str x1.Key, .vs 5 (encs_Expr x1.Args)]), (3, .box 34 [.int .i64 e.Op, .int .i64 e.N, .str e.S, .str e.Key, .vs 5 (encs_Expr e.Args)]), (2, .box 63 [.vs 6 (List.map enc_Def c_plan.Defs), .vs 3 (List.map enc_Table c_plan.Tables), .vs 3 (List.map enc_Zone c_plan.Zones), .vs 20 (List.map enc_Rule c_plan.Rules), .vs 4 (List.map enc_Cap c_plan.Caps), .vs 6 (List.map enc_View c_plan.Views), .vs 3 (List.map enc_Point3 c_plan.Sun), .int .i64 c_plan.Hours, .mp 1000000, .vs 1 (List.map EV.encS c_zones)]), (2000035, .row 3 1 0 (List.map EV.encI q1.2))] (by kernel_rfl) ?_
      obtain ⟨_, g4, hs⟩ := bind_some hs; replace g4 := grd_some g4
      refine o_loc (F := [(2000035, .row 3 1 0 (List.map EV.encI q1.2)), (39, .row 3 1 0 (List.map EV.encI [y1]))]) (F' := [(2000035, .row 3 1 0 (List.map EV.encI (q1.2 ++ [y1]))), (39, .row 3 1 0 (List.map EV.encI [y1]))]) (v := .sl 1 2000035 (((q1.2 ++ [y1])).length) 0 (((q1.2 ++ [y1])).length)) [2000035, 39] (by kernel_rfl) (by kernel_rfl) rfl (by kernel_rfl) (loc_appendT (e := 3) (sz := 1) (bytes := 8) (L := (q1.2).length) (els := (List.map EV.encI q1.2)) (ys := (List.map EV.encI [y1])) (by kernel_rfl) (by kernel_rfl) (by first | exact List.length_map .. | rfl) (.sl (t := 3) (fz := 0) (ys := (List.map EV.encI [y1])) (by kernel_rfl) (by kernel_rfl)) (map_ones EV.encI (fun _ => rfl) _) (map_lens EV.encI (fun _ => rfl) _) (by kernel_rfl) (by first | exact (List.map_append ..).symm | rfl | simp only [List.map_nil, List.nil_append]) (List.length_map ..) g4 (by omega)) (by kernel_rfl) ?_
      refine o_runs 1 [(5, .sl 1 2000035 (((q1.2 ++ [y1])).length) 0 (((q1.2 ++ [y1])).length))] (by kernel_rfl) ?_
      refine ov_nil (nrm_blkV ?_)
      obtain rfl := si hs
      refine nrm_join (q1.2 ++ [y1]) rfl ?_
      exact cut_of [2, 3, 5, 9, 10, 11] [2000035, 3, 2, 1000000] (by kernel_rfl) (by kernel_rfl) (by kernel_rfl)
   ·subst hz; clear hs; have hs := hk2; clear hk2
    refine nrm_thenV (vr_text (o_runs 2 [(11, .int .i64 (w64 (q1.1 + 1))), (41, .int .i64 (w64 (q1.1 + 1)))] (by kernel_rfl) ?_))
    refine ov_nil (nrm_fuel ((w64 (q1.1 + 1)), v2) hs ?_)
    exact cut_of [2, 3, 5, 9, 10, 11] [3, 2, 1000000, 2000035] (by kernel_rfl) (by kernel_rfl) (by kernel_rfl)
  ·replace hs := bif_f h1 hs
   refine v_exit (exit_thenV (exit_fuel ?_))
   refine exit_blkV ?_
   obtain rfl := si hs
   refine nrm_join q1.2 rfl ?_
   exact cut_of [2, 3, 5] [3, 2, 1000000, 2000035] (by kernel_rfl) (by kernel_rfl) (by kernel_rfl)
 ·subst hz; clear hs; have hs := hk1; clear hk1
  refine nrm_thenV (v_seq (v_seq (vr_text (o_runs 2 [(43, .int .i64 e.Op), (42, .ptr 3 0 0)] (by kernel_rfl) ?_))))
  refine ov_nil (nrm_thenV (v_block (v_seq (vr_text (o_runs 2 [(44, .bool (decide (e.Op = 0))), (45, .bool (decide (e.Op = 0)))] (by kernel_rfl) ?_)))))
  refine ov_nil (nrm_thenV ?_)
  refine v_cond (decide (e.Op = 0)) (by kernel_rfl) (fun h5 => ?_) (fun h5 => ?_)
  ·replace hs := bif_t h5 hs
   refine v_seq (vr_text (o_runs 3 [(4, .int .i64 e.N), (47, .int .i64 e.N), (46, .ptr 3 0 1)] (by kernel_rfl) ?_))
   refine ov_nil (nrm_thenV (v_ret (ret_blkV (ret_thenV ?_))))
   obtain rfl := si hs
   exact fin_ret (by kernel_rfl) (by kernel_rfl) (by kernel_rfl)
  ·replace hs := bif_f h5 hs
   refine v_seq (vr_text (o_runs 2 [(48, .bool (decide (e.Op = 1))), (49, .bool (decide (e.Op = 1)))] (by kernel_rfl) ?_))
   refine ov_nil (nrm_thenV ?_)
   refine v_cond (decide (e.Op = 1)) (by kernel_rfl) (fun h6 => ?_) (fun h6 => ?_)
   ·replace hs := bif_t h6 hs
    refine v_seq (vr_text (o_runs 4 [(53, .str e.S), (52, .ptr 3 0 2), (51, .mp 1000000), (50, .ptr 2 0 8)] (by kernel_rfl) ?_))
    refine o_loc (F := [(1000000, .map (encM V.str (V.int .i64) c_known))]) (F' := [(1000000, .map (encM V.str (V.int .i64) c_known))]) (v := .int .i64 (Option.getD (mfind e.S c_known) 0)) [1000000] (by kernel_rfl) (by kernel_rfl) rfl (by kernel_rfl) (loc_lookup (et := 3) (f := V.str) (g := (V.int .i64)) (l := c_known) (a := e.S) (z := 0) (zv := .int .i64 0) false (by kernel_rfl) kok9 (by kernel_rfl) (fun _ _ _ h => h) (by kernel_rfl) (by kernel_rfl)) (by kernel_rfl) ?_
    refine o_runs 1 [(4, .int .i64 (Option.getD (mfind e.S c_known) 0))] (by kernel_rfl) ?_
    refine ov_nil (nrm_thenV (v_ret (ret_blkV (ret_thenV ?_))))
    obtain rfl := si hs
    exact fin_ret (by kernel_rfl) (by kernel_rfl) (by kernel_rfl)
   ·replace hs := bif_f h6 hs
    refine v_seq (vr_text (o_runs 2 [(55, .bool (decide (e.Op = 2))), (56, .bool (decide (e.Op = 2)))] (by kernel_rfl) ?_))
    refine ov_nil (nrm_thenV ?_)
    refine v_cond (decide (e.Op = 2)) (by kernel_rfl) (fun h7 => ?_) (fun h7 => ?_)
    ·replace hs := bif_t h7 hs
     refine v_seq (vr_text (o_runs 2 [(58, .agg (enc_Expr e)), (57, .agg [.vs 6 (List.map enc_Def c_plan.Defs), .vs 3 (List.map enc_Table c_plan.Tables), .vs 3 (List.map enc_Zone c_plan.Zones), .vs 20 (List.map enc_Rule c_plan.Rules), .vs 4 (List.map enc_Cap c_plan.Caps), .vs 6 (List.map enc_View c_plan.Views), .vs 3 (List.map enc_Point3 c_plan.Sun), .int .i64 c_plan.Hours, .mp 1000000, .vs 1 (List.map EV.encS c_zones)])] (by kernel_rfl) ?_))
     obtain ⟨y2, c2, hs⟩ := bind_some hs
     refine o_loc (F := [(1000000, .map (encM V.str (V.int .i64) c_known))]) (F' := [(1000000, .map (encM V.str (V.int .i64) c_known))]) (v := .int .i64 y2) [1000000] (by kernel_rfl) (by kernel_rfl) rfl (by kernel_rfl) (loc_g (R := []) [.agg [.vs 6 (List.map enc_Def c_plan.Defs), .vs 3 (List.map enc_Table c_plan.Tables), .vs 3 (List.map enc_Zone c_plan.Zones), .vs 20 (List.map enc_Rule c_plan.Rules), .vs 4 (List.map enc_Cap c_plan.Caps), .vs 6 (List.map enc_View c_plan.Views), .vs 3 (List.map enc_Point3 c_plan.Sun), .int .i64 c_plan.Hours, .mp 1000000, .vs 1 (List.map EV.encS c_zones)], .agg (enc_Expr e)] [(1000000, 1000000)] (callV_func hbv34 (by kernel_rfl)) (w_expr_context_row c_plan c_known c_zones e _ c2) (.cons (.same _) (.cons (.same _) (.nil))) (by kernel_rfl) (by kernel_rfl) (by kernel_rfl) (by kernel_rfl) (by kernel_rfl) (by kernel_rfl) (by kernel_rfl) (by kernel_rfl)) (by kernel_rfl) ?_
     refine o_runs 1 [(4, .int .i64 y2)] (by kernel_rfl) ?_
     refine ov_nil (nrm_thenV (v_ret (ret_blkV (ret_thenV ?_))))
     obtain rfl := si hs
     exact fin_ret (by kernel_rfl) (by kernel_rfl) (by kernel_rfl)
    ·replace hs := bif_f h7 hs
     refine v_seq (vr_text (o_runs 2 [(60, .bool (decide (e.Op = 3))), (61, .bool (decide (e.Op = 3)))] (by kernel_rfl) ?_))
     refine ov_nil (nrm_thenV ?_)
     refine v_cond (decide (e.Op = 3)) (by kernel_rfl) (fun h8 => ?_) (fun h8 => ?_)
     ·replace hs := bif_t h8 hs
      refine v_seq (vr_text (o_runs 4 [(65, .str e.S), (64, .ptr 3 0 2), (63, .vs 1 (List.map EV.encS c_zones)), (62, .ptr 2 0 9)] (by kernel_rfl) ?_))
      obtain ⟨y3, c3, hs⟩ := bind_some hs
      refine o_pure (v := .bool y3) (by kernel_rfl) (by kernel_rfl) (loc_gcall0 (callV_func hbv27 (by kernel_rfl)) (w_slices_Contains_2 c_zones e.S _ c3) (by kernel_rfl)) ?_
      obtain ⟨y4, c4, hs⟩ := bind_some hs
      refine o_pure (v := .int .i64 y4) (by kernel_rfl) (by kernel_rfl) (loc_gcall0 (callV_func hbv35 (by kernel_rfl)) (w_expr_bit y3 _ c4) (by kernel_rfl)) ?_
      refine o_runs 1 [(4, .int .i64 y4)] (by kernel_rfl) ?_
      refine ov_nil (nrm_thenV (v_ret (ret_blkV (ret_thenV ?_))))
      obtain rfl := si hs
      exact fin_ret (by kernel_rfl) (by kernel_rfl) (by kernel_rfl)
     ·replace hs := bif_f h8 hs
      refine v_seq (vr_text (o_runs 2 [(68, .bool (decide (e.Op = 9))), (69, .bool (decide (e.Op = 9)))] (by kernel_rfl) ?_))
      refine ov_nil (nrm_thenV ?_)
      refine v_cond (decide (e.Op = 9)) (by kernel_rfl) (fun h9 => ?_) (fun h9 => ?_)
      ·replace hs := bif_t h9 hs
       refine v_seq (vr_text (o_runs 1 [(70, .sl 1 2000035 ((v1).length) 0 ((v1).length))] (by kernel_rfl) ?_))
       obtain ⟨_, g5, hs⟩ := bind_some hs; obtain ⟨g5a, g5b⟩ := grd_some g5
       refine o_pure (v := .ptr 2000035 ((v1).length) ((Int.toNat 0) * 1 + 0)) (by kernel_rfl) (by kernel_rfl) (loc_indexRowT (e := 3) (sz := 1) (kk := 2000035) (L := (v1).length) (n := (v1).length) (k := .i64) (i := 0) (by kernel_rfl) (by kernel_rfl) (by kernel_rfl) g5a g5b) ?_
       obtain ⟨e2, he2, hs⟩ := bind_some hs; replace he2 := Option.some.inj he2
       refine o_loc (F := [(2000035, .row 3 1 0 (List.map EV.encI v1))]) (F' := [(2000035, .row 3 1 0 (List.map EV.encI v1))]) (v := .int .i64 e2) [2000035] (by kernel_rfl) (by kernel_rfl) rfl (by kernel_rfl) (loc_loadRow (L := (v1).length) (off := (Int.toNat 0) * 1 + 0) (els := (List.map EV.encI v1)) (cs := [.int .i64 e2]) (Int.toNat 0) 0 (by kernel_rfl) (by first | (simp only [List.length_map, List.length_set, cpyT_length]; done) | rfl) rfl (by rw [← he2]; exact map_get _ (by first | omega | (simp only [List.length_set, cpyT_length]; omega))) (by kernel_rfl)) (by kernel_rfl) ?_
       refine o_runs 2 [(4, .int .i64 (w64 (0 - e2))), (73, .int .i64 (w64 (0 - e2)))] (by kernel_rfl) ?_
       refine ov_nil (nrm_thenV (v_ret (ret_blkV (ret_thenV ?_))))
       obtain rfl := si hs
       exact fin_ret (by kernel_rfl) (by kernel_rfl) (by kernel_rfl)
      ·replace hs := bif_f h9 hs
       refine v_seq (vr_text (o_runs 2 [(74, .bool (decide (e.Op = 15))), (75, .bool (decide (e.Op = 15)))] (by kernel_rfl) ?_))
       refine ov_nil (nrm_thenV ?_)
       refine v_cond (decide (e.Op = 15)) (by kernel_rfl) (fun h10 => ?_) (fun h10 => ?_)
       ·replace hs := bif_t h10 hs
        refine v_seq (vr_text (o_runs 1 [(76, .sl 1 2000035 ((v1).length) 0 ((v1).length))] (by kernel_rfl) ?_))
        obtain ⟨_, g6, hs⟩ := bind_some hs; obtain ⟨g6a, g6b⟩ := grd_some g6
        refine o_pure (v := .ptr 2000035 ((v1).length) ((Int.toNat 0) * 1 + 0)) (by kernel_rfl) (by kernel_rfl) (loc_indexRowT (e := 3) (sz := 1) (kk := 2000035) (L := (v1).length) (n := (v1).length) (k := .i64) (i := 0) (by kernel_rfl) (by kernel_rfl) (by kernel_rfl) g6a g6b) ?_
        obtain ⟨e3, he3, hs⟩ := bind_some hs; replace he3 := Option.some.inj he3
        refine o_loc (F := [(2000035, .row 3 1 0 (List.map EV.encI v1))]) (F' := [(2000035, .row 3 1 0 (List.map EV.encI v1))]) (v := .int .i64 e3) [2000035] (by kernel_rfl) (by kernel_rfl) rfl (by kernel_rfl) (loc_loadRow (L := (v1).length) (off := (Int.toNat 0) * 1 + 0) (els := (List.map EV.encI v1)) (cs := [.int .i64 e3]) (Int.toNat 0) 0 (by kernel_rfl) (by first | (simp only [List.length_map, List.length_set, cpyT_length]; done) | rfl) rfl (by rw [← he3]; exact map_get _ (by first | omega | (simp only [List.length_set, cpyT_length]; omega))) (by kernel_rfl)) (by kernel_rfl) ?_
        refine o_runs 1 [(79, .bool (decide (e3 = 0)))] (by kernel_rfl) ?_
        obtain ⟨y5, c5, hs⟩ := bind_some hs
        refine o_pure (v := .int .i64 y5) (by kernel_rfl) (by kernel_rfl) (loc_gcall0 (callV_func hbv35 (by kernel_rfl)) (w_expr_bit (decide (e3 = 0)) _ c5) (by kernel_rfl)) ?_
        refine o_runs 1 [(4, .int .i64 y5)] (by kernel_rfl) ?_
        refine ov_nil (nrm_thenV (v_ret (ret_blkV (ret_thenV ?_))))
        obtain rfl := si hs
        exact fin_ret (by kernel_rfl) (by kernel_rfl) (by kernel_rfl)
       ·replace hs := bif_f h10 hs
        refine v_seq (vr_text (o_runs 2 [(81, .bool (decide (e.Op = 16))), (82, .bool (decide (e.Op = 16)))] (by kernel_rfl) ?_))
        refine ov_nil (nrm_thenV ?_)
        refine v_cond (decide (e.Op = 16)) (by kernel_rfl) (fun h11 => ?_) (fun h11 => ?_)
        ·replace hs := bif_t h11 hs
         refine v_seq (v_seq (vr_text (o_runs 1 [(83, .sl 1 2000035 ((v1).length) 0 ((v1).length))] (by kernel_rfl) ?_)))
         obtain ⟨_, g7, hs⟩ := bind_some hs; obtain ⟨g7a, g7b⟩ := grd_some g7
         refine o_pure (v := .ptr 2000035 ((v1).length) ((Int.toNat 0) * 1 + 0)) (by kernel_rfl) (by kernel_rfl) (loc_indexRowT (e := 3) (sz := 1) (kk := 2000035) (L := (v1).length) (n := (v1).length) (k := .i64) (i := 0) (by kernel_rfl) (by kernel_rfl) (by kernel_rfl) g7a g7b) ?_
         obtain ⟨e4, he4, hs⟩ := bind_some hs; replace he4 := Option.some.inj he4
         refine o_loc (F := [(2000035, .row 3 1 0 (List.map EV.encI v1))]) (F' := [(2000035, .row 3 1 0 (List.map EV.encI v1))]) (v := .int .i64 e4) [2000035] (by kernel_rfl) (by kernel_rfl) rfl (by kernel_rfl) (loc_loadRow (L := (v1).length) (off := (Int.toNat 0) * 1 + 0) (els := (List.map EV.encI v1)) (cs := [.int .i64 e4]) (Int.toNat 0) 0 (by kernel_rfl) (by first | (simp only [List.length_map, List.length_set, cpyT_length]; done) | rfl) rfl (by rw [← he4]; exact map_get _ (by first | omega | (simp only [List.length_set, cpyT_length]; omega))) (by kernel_rfl)) (by kernel_rfl) ?_
         refine o_runs 1 [(86, .bool (!(decide (e4 = 0))))] (by kernel_rfl) ?_
         refine ov_nil (nrm_thenV ?_)
         refine v_cond (!(decide (e4 = 0))) (by kernel_rfl) (fun h12 => ?_) (fun h12 => ?_)
         ·replace hs := bif_t h12 hs
          refine v_seq (vr_text (o_runs 1 [(87, .sl 1 2000035 ((v1).length) 0 ((v1).length))] (by kernel_rfl) ?_))
          obtain ⟨_, g8, hs⟩ := bind_some hs; obtain ⟨g8a, g8b⟩ := grd_some g8
          refine o_pure (v := .ptr 2000035 ((v1).length) ((Int.toNat 1) * 1 + 0)) (by kernel_rfl) (by kernel_rfl) (loc_indexRowT (e := 3) (sz := 1) (kk := 2000035) (L := (v1).length) (n := (v1).length) (k := .i64) (i := 1) (by kernel_rfl) (by kernel_rfl) (by kernel_rfl) g8a g8b) ?_
          obtain ⟨e5, he5, hs⟩ := bind_some hs; replace he5 := Option.some.inj he5
          refine o_loc (F := [(2000035, .row 3 1 0 (List.map EV.encI v1))]) (F' := [(2000035, .row 3 1 0 (List.map EV.encI v1))]) (v := .int .i64 e5) [2000035] (by kernel_rfl) (by kernel_rfl) rfl (by kernel_rfl) (loc_loadRow (L := (v1).length) (off := (Int.toNat 1) * 1 + 0) (els := (List.map EV.encI v1)) (cs := [.int .i64 e5]) (Int.toNat 1) 0 (by kernel_rfl) (by first | (simp only [List.length_map, List.length_set, cpyT_length]; done) | rfl) rfl (by rw [← he5]; exact map_get _ (by first | omega | (simp only [List.length_set, cpyT_length]; omega))) (by kernel_rfl)) (by kernel_rfl) ?_
          refine o_runs 1 [(4, .int .i64 e5)] (by kernel_rfl) ?_
          refine ov_nil (nrm_thenV (v_ret (ret_thenV (ret_blkV (ret_thenV ?_)))))
          obtain rfl := si hs
          exact fin_ret (by kernel_rfl) (by kernel_rfl) (by kernel_rfl)
         ·replace hs := bif_f h12 hs
          refine v_skip (nrm_thenV (v_seq (vr_text (o_runs 1 [(90, .sl 1 2000035 ((v1).length) 0 ((v1).length))] (by kernel_rfl) ?_))))
          obtain ⟨_, g9, hs⟩ := bind_some hs; obtain ⟨g9a, g9b⟩ := grd_some g9
          refine o_pure (v := .ptr 2000035 ((v1).length) ((Int.toNat 2) * 1 + 0)) (by kernel_rfl) (by kernel_rfl) (loc_indexRowT (e := 3) (sz := 1) (kk := 2000035) (L := (v1).length) (n := (v1).length) (k := .i64) (i := 2) (by kernel_rfl) (by kernel_rfl) (by kernel_rfl) g9a g9b) ?_
          obtain ⟨e6, he6, hs⟩ := bind_some hs; replace he6 := Option.some.inj he6
          refine o_loc (F := [(2000035, .row 3 1 0 (List.map EV.encI v1))]) (F' := [(2000035, .row 3 1 0 (List.map EV.encI v1))]) (v := .int .i64 e6) [2000035] (by kernel_rfl) (by kernel_rfl) rfl (by kernel_rfl) (loc_loadRow (L := (v1).length) (off := (Int.toNat 2) * 1 + 0) (els := (List.map EV.encI v1)) (cs := [.int .i64 e6]) (Int.toNat 2) 0 (by kernel_rfl) (by first | (simp only [List.length_map, List.length_set, cpyT_length]; done) | rfl) rfl (by rw [← he6]; exact map_get _ (by first | omega | (simp only [List.length_set, cpyT_length]; omega))) (by kernel_rfl)) (by kernel_rfl) ?_
          refine o_runs 1 [(4, .int .i64 e6)] (by kernel_rfl) ?_
          refine ov_nil (nrm_thenV (v_ret (ret_blkV (ret_thenV ?_))))
          obtain rfl := si hs
          exact fin_ret (by kernel_rfl) (by kernel_rfl) (by kernel_rfl)
        ·replace hs := bif_f h11 hs
         refine v_skip (nrm_blkV (nrm_thenV (v_seq (v_draw mixedH (by kernel_rfl) ?_))))
         refine d_runs 3 0 [(95, .sl 1 2000035 ((v1).length) 0 ((v1).length)), (94, .int .i64 e.Op), (93, .ptr 3 0 0)] [⟨2, [], []⟩, ⟨1, [], [3]⟩, ⟨0, [], []⟩] (by kernel_rfl) (by kernel_rfl) ?_
         obtain ⟨_, g10, hs⟩ := bind_some hs; obtain ⟨g10a, g10b⟩ := grd_some g10
         refine d_pure (v := .ptr 2000035 ((v1).length) ((Int.toNat 0) * 1 + 0)) 3 rfl rfl rfl rfl (by kernel_rfl) (by kernel_rfl) (loc_indexRowT (e := 3) (sz := 1) (kk := 2000035) (L := (v1).length) (n := (v1).length) (k := .i64) (i := 0) (by kernel_rfl) (by kernel_rfl) (by kernel_rfl) g10a g10b) ?_
         obtain ⟨e7, he7, hs⟩ := bind_some hs; replace he7 := Option.some.inj he7
         refine d_loc (F := []) (R := [(2000035, .row 3 1 0 (List.map EV.encI v1))]) (F' := []) (v := .int .i64 e7) 4 [] [2000035] rfl rfl rfl rfl (by kernel_rfl) (by kernel_rfl) (by kernel_rfl) (by kernel_rfl) (by kernel_rfl) (by kernel_rfl) (by kernel_rfl) (by kernel_rfl) (loc_loadRow (L := (v1).length) (off := (Int.toNat 0) * 1 + 0) (els := (List.map EV.encI v1)) (cs := [.int .i64 e7]) (Int.toNat 0) 0 (by kernel_rfl) (by first | (simp only [List.length_map, List.length_set, cpyT_length]; done) | rfl) rfl (by rw [← he7]; exact map_get _ (by first | omega | (simp only [List.length_set, cpyT_length]; omega))) (by kernel_rfl)) ?_
         refine d_runs 1 5 [(98, .sl 1 2000035 ((v1).length) 0 ((v1).length))] (pfp 1 5) (by kernel_rfl) (by kernel_rfl) ?_
         obtain ⟨_, g11, hs⟩ := bind_some hs; obtain ⟨g11a, g11b⟩ := grd_some g11
         refine d_pure (v := .ptr 2000035 ((v1).length) ((Int.toNat 1) * 1 + 0)) 6 rfl rfl rfl rfl (by kernel_rfl) (by kernel_rfl) (loc_indexRowT (e := 3) (sz := 1) (kk := 2000035) (L := (v1).length) (n := (v1).length) (k := .i64) (i := 1) (by kernel_rfl) (by kernel_rfl) (by kernel_rfl) g11a g11b) ?_
         obtain ⟨e8, he8, hs⟩ := bind_some hs; replace he8 := Option.some.inj he8
         refine d_loc (F := []) (R := [(2000035, .row 3 1 0 (List.map EV.encI v1))]) (F' := []) (v := .int .i64 e8) 7 [] [2000035] rfl rfl rfl rfl (by kernel_rfl) (by kernel_rfl) (by kernel_rfl) (by kernel_rfl) (by kernel_rfl) (by kernel_rfl) (by kernel_rfl) (by kernel_rfl) (loc_loadRow (L := (v1).length) (off := (Int.toNat 1) * 1 + 0) (els := (List.map EV.encI v1)) (cs := [.int .i64 e8]) (Int.toNat 1) 0 (by kernel_rfl) (by first | (simp only [List.length_map, List.length_set, cpyT_length]; done) | rfl) rfl (by rw [← he8]; exact map_get _ (by first | omega | (simp only [List.length_set, cpyT_length]; omega))) (by kernel_rfl)) ?_
         obtain ⟨y6, c6, hs⟩ := bind_some hs
         refine d_pure (v := .int .i64 y6) 8 rfl rfl rfl rfl (by kernel_rfl) (by kernel_rfl) (loc_gcall0 (callV_func hbv36 (by kernel_rfl)) (w_expr_binary e.Op e7 e8 _ c6) (by kernel_rfl)) ?_
         refine d_runs 1 9 [(4, .int .i64 y6)] (pfp 1 9) (by kernel_rfl) (by kernel_rfl) ?_
         refine d_nil (by kernel_rfl) ?_
         refine nrm_thenV (v_ret ?_)
         obtain rfl := si hs
         exact fin_ret (by kernel_rfl) (by kernel_rfl) (by kernel_rfl)
theorem wr_expr_context_value : ∀ nF : Nat, (∀ (c_plan : Plan) (c_known : (List ((List UInt8) × Int))) (c_zones : (List (List UInt8))) (e : Expr) (r : Int), s_expr_context_value nF c_plan c_known c_zones e = some r → FnA Try.prog 18 [.agg [.vs 6 (List.map enc_Def c_plan.Defs), .vs 3 (List.map enc_Table c_plan.Tables), .vs 3 (List.map enc_Zone c_plan.Zones), .vs 20 (List.map enc_Rule c_plan.Rules), .vs 4 (List.map enc_Cap c_plan.Caps), .vs 6 (List.map enc_View c_plan.Views), .vs 3 (List.map enc_Point3 c_plan.Sun), .int .i64 c_plan.Hours, .mp 1000000, .vs 1 (List.map EV.encS c_zones)], .agg (enc_Expr e)] [(1000000, .map (encM V.str (V.int .i64) c_known))] (.int .i64 r) [(1000000, .map (encM V.str (V.int .i64) c_known))])
 | 0 => fun c_plan c_known c_zones e r hs => (by rw [s_expr_context_value] at hs; cases hs)
 | nF + 1 => fun c_plan c_known c_zones e r hs => ws_expr_context_value nF (wr_expr_context_value nF) c_plan c_known c_zones e r hs
theorem w_expr_context_value (nF : Nat) (c_plan : Plan) (c_known : (List ((List UInt8) × Int))) (c_zones : (List (List UInt8))) (e : Expr) (r : Int) (hs : s_expr_context_value nF c_plan c_known c_zones e = some r) : FnA Try.prog 18 [.agg [.vs 6 (List.map enc_Def c_plan.Defs), .vs 3 (List.map enc_Table c_plan.Tables), .vs 3 (List.map enc_Zone c_plan.Zones), .vs 20 (List.map enc_Rule c_plan.Rules), .vs 4 (List.map enc_Cap c_plan.Caps), .vs 6 (List.map enc_View c_plan.Views), .vs 3 (List.map enc_Point3 c_plan.Sun), .int .i64 c_plan.Hours, .mp 1000000, .vs 1 (List.map EV.encS c_zones)], .agg (enc_Expr e)] [(1000000, .map (encM V.str (V.int .i64) c_known))] (.int .i64 r) [(1000000, .map (encM V.str (V.int .i64) c_known))] := (wr_expr_context_value nF) c_plan c_known c_zones e r hs
theorem w_expr_prepare (p : Plan) (measures : (List Entry)) (zones : (List (List UInt8))) (r : Plan × (List (List UInt8)) × (List Int) × (List ((List UInt8) × Int))) (hs : s_expr_prepare p measures zones = some r) : FnA Try.prog 17 [.agg (enc_Plan p), .vs 2 (List.map enc_Entry measures), .vs 1 (List.map EV.encS zones)] [] (.tup [.agg [.vs 6 (List.map enc_Def r.1.Defs), .vs 3 (List.map enc_Table r.1.Tables), .vs 3 (List.map enc_Zone r.1.Zones), .vs 20 (List.map enc_Rule r.1.Rules), .vs 4 (List.map enc_Cap r.1.Caps), .vs 6 (List.map enc_View r.1.Views), .vs 3 (List.map enc_Point3 r.1.Sun), .int .i64 r.1.Hours, .mp 20, .vs 1 (List.map EV.encS r.2.1)], .vs 1 (List.map EV.encI r.2.2.1)]) [(20, .map (encM V.str (V.int .i64) r.2.2.2))] := by
 refine fnA_of_wp (N := 96) Try.func17 rfl rfl rfl fun cK0 => ?_
 unfold s_expr_prepare at hs
 refine v_same (ρ' := [(0, .agg (enc_Plan p)), (1, .vs 2 (List.map enc_Entry measures)), (2, .vs 1 (List.map EV.encS zones))]) rfl rfl ?_
 refine v_seq (vr_text (o_runh 3 [(7, .nils), (6, .ptr 6 0 0), (3, .ptr 3 0 0)] [(6, .box 63 [.nils, .nils, .nils, .nils, .nils, .nils, .nils, .int .i64 0, .nilm, .nils]), (3, .box 31 [.vs 6 (List.map enc_Def p.Defs), .vs 3 (List.map enc_Table p.Tables), .vs 3 (List.map enc_Zone p.Zones), .vs 20 (List.map enc_Rule p.Rules), .vs 4 (List.map enc_Cap p.Caps), .vs 6 (List.map enc_View p.Views), .vs 3 (List.map enc_Point3 p.Sun), .int .i64 p.Hours])] (by kernel_rfl) ?_))
 refine ov_nil (nrm_thenV (v_seq (vr_text (o_runh 6 [(8, .ptr 8 0 0), (22, .agg [.vs 6 (List.map enc_Def p.Defs), .vs 3 (List.map enc_Table p.Tables), .vs 3 (List.map enc_Zone p.Zones), .vs 20 (List.map enc_Rule p.Rules), .vs 4 (List.map enc_Cap p.Caps), .vs 6 (List.map enc_View p.Views), .vs 3 (List.map enc_Point3 p.Sun), .int .i64 p.Hours, .mp 20, .vs 1 (List.map EV.encS zones)]), (21, .vs 1 (List.map EV.encS zones)), (20, .mp 20), (19, .agg (enc_Plan p))] [(8, .box 63 [.vs 6 (List.map enc_Def p.Defs), .vs 3 (List.map enc_Table p.Tables), .vs 3 (List.map enc_Zone p.Zones), .vs 20 (List.map enc_Rule p.Rules), .vs 4 (List.map enc_Cap p.Caps), .vs 6 (List.map enc_View p.Views), .vs 3 (List.map enc_Point3 p.Sun), .int .i64 p.Hours, .mp 20, .vs 1 (List.map EV.encS zones)]), (20, .map (encM V.str (V.int .i64) [])), (6, .box 63 [.nils, .nils, .nils, .nils, .nils, .nils, .nils, .int .i64 0, .nilm, .nils]), (3, .box 31 [.vs 6 (List.map enc_Def p.Defs), .vs 3 (List.map enc_Table p.Tables), .vs 3 (List.map enc_Zone p.Zones), .vs 20 (List.map enc_Rule p.Rules), .vs 4 (List.map enc_Cap p.Caps), .vs 6 (List.map enc_View p.Views), .vs 3 (List.map enc_Point3 p.Sun), .int .i64 p.Hours])] (by kernel_rfl) ?_))))
 refine ov_nil (nrm_thenV (v_seq (vr_text (o_runh 2 [(9, .mp 23), (23, .mp 23)] [(23, .map (encM V.str V.bool [])), (8, .box 63 [.vs 6 (List.map enc_Def p.Defs), .vs 3 (List.map enc_Table p.Tables), .vs 3 (List.map enc_Zone p.Zones), .vs 20 (List.map enc_Rule p.Rules), .vs 4 (List.map enc_Cap p.Caps), .vs 6 (List.map enc_View p.Views), .vs 3 (List.map enc_Point3 p.Sun), .int .i64 p.Hours, .mp 20, .vs 1 (List.map EV.encS zones)]), (20, .map (encM V.str (V.int .i64) [])), (6, .box 63 [.nils, .nils, .nils, .nils, .nils, .nils, .nils, .int .i64 0, .nilm, .nils]), (3, .box 31 [.vs 6 (List.map enc_Def p.Defs), .vs 3 (List.map enc_Table p.Tables), .vs 3 (List.map enc_Zone p.Zones), .vs 20 (List.map enc_Rule p.Rules), .vs 4 (List.map enc_Cap p.Caps), .vs 6 (List.map enc_View p.Views), .vs 3 (List.map enc_Point3 p.Sun), .int .i64 p.Hours])] (by kernel_rfl) ?_))))
 refine ov_nil (nrm_thenV (v_seq (v_seq (vr_text (o_runs 1 [(24, .vs 2 (List.map enc_Entry measures))] (by kernel_rfl) ?_)))))
 refine o_pure (v := .int .i64 (List.length measures : Int)) (by kernel_rfl) (by kernel_rfl) (loc_lenVs (sz := 2) (els := (List.map enc_Entry measures)) (by kernel_rfl) (by kernel_rfl) (List.length_map ..)) ?_
 refine o_runs 1 [(26, .int .i64 0)] (by kernel_rfl) ?_
 refine ov_nil (nrm_thenV ?_)
 obtain ⟨z1, hs, hk1⟩ := bind_some hs
 refine v_join (S := (List ((List UInt8) × Bool)) × (List ((List UInt8) × Int))) (fun u => u = z1) (fun u => [(3, .ptr 3 0 0), (6, .ptr 6 0 0), (8, .ptr 8 0 0), (9, .mp 23)]) (fun u => [(23, .map (encM V.str V.bool u.1)), (8, .box 63 [.vs 6 (List.map enc_Def p.Defs), .vs 3 (List.map enc_Table p.Tables), .vs 3 (List.map enc_Zone p.Zones), .vs 20 (List.map enc_Rule p.Rules), .vs 4 (List.map enc_Cap p.Caps), .vs 6 (List.map enc_View p.Views), .vs 3 (List.map enc_Point3 p.Sun), .int .i64 p.Hours, .mp 20, .vs 1 (List.map EV.encS zones)]), (20, .map (encM V.str (V.int .i64) u.2)), (6, .box 63 [.nils, .nils, .nils, .nils, .nils, .nils, .nils, .int .i64 0, .nilm, .nils]), (3, .box 31 [.vs 6 (List.map enc_Def p.Defs), .vs 3 (List.map enc_Table p.Tables), .vs 3 (List.map enc_Zone p.Zones), .vs 20 (List.map enc_Rule p.Rules), .vs 4 (List.map enc_Cap p.Caps), .vs 6 (List.map enc_View p.Views), .vs 3 (List.map enc_Point3 p.Sun), .int .i64 p.Hours])]) ?_ (fun v1 hz => ?_)
 ·refine v_block ?_
  refine v_fuel (S := Int × (List ((List UInt8) × Bool)) × (List ((List UInt8) × Int))) (fun u => [(3, .ptr 3 0 0), (6, .ptr 6 0 0), (8, .ptr 8 0 0), (9, .mp 23), (24, .vs 2 (List.map enc_Entry measures)), (25, .int .i64 (List.length measures : Int)), (26, .int .i64 u.1)]) (fun u => [(23, .map (encM V.str V.bool u.2.1)), (8, .box 63 [.vs 6 (List.map enc_Def p.Defs), .vs 3 (List.map enc_Table p.Tables), .vs 3 (List.map enc_Zone p.Zones), .vs 20 (List.map enc_Rule p.Rules), .vs 4 (List.map enc_Cap p.Caps), .vs 6 (List.map enc_View p.Views), .vs 3 (List.map enc_Point3 p.Sun), .int .i64 p.Hours, .mp 20, .vs 1 (List.map EV.encS zones)]), (20, .map (encM V.str (V.int .i64) u.2.2)), (6, .box 63 [.nils, .nils, .nils, .nils, .nils, .nils, .nils, .int .i64 0, .nilm, .nils]), (3, .box 31 [.vs 6 (List.map enc_Def p.Defs), .vs 3 (List.map enc_Table p.Tables), .vs 3 (List.map enc_Zone p.Zones), .vs 20 (List.map enc_Rule p.Rules), .vs 4 (List.map enc_Cap p.Caps), .vs 6 (List.map enc_View p.Views), .vs 3 (List.map enc_Point3 p.Sun), .int .i64 p.Hours])]) (s_expr_prepare_L1 measures) (fun _ => rfl) KK (0, [], []) hs (cut_of [3, 6, 8, 9, 24, 25, 26] [23, 8, 20, 6, 3] (by kernel_rfl) (by kernel_rfl) (by kernel_rfl)) (fun K1 q1 hs => ?_)
  rw [s_expr_prepare_L1] at hs
  show WpV cK0 Try.prog none 96 _ _ [(3, .ptr 3 0 0), (6, .ptr 6 0 0), (8, .ptr 8 0 0), (9, .mp 23), (24, .vs 2 (List.map enc_Entry measures)), (25, .int .i64 (List.length measures : Int)), (26, .int .i64 q1.1)] [(23, .map (encM V.str V.bool q1.2.1)), (8, .box 63 [.vs 6 (List.map enc_Def p.Defs), .vs 3 (List.map enc_Table p.Tables), .vs 3 (List.map enc_Zone p.Zones), .vs 20 (List.map enc_Rule p.Rules), .vs 4 (List.map enc_Cap p.Caps), .vs 6 (List.map enc_View p.Views), .vs 3 (List.map enc_Point3 p.Sun), .int .i64 p.Hours, .mp 20, .vs 1 (List.map EV.encS zones)]), (20, .map (encM V.str (V.int .i64) q1.2.2)), (6, .box 63 [.nils, .nils, .nils, .nils, .nils, .nils, .nils, .int .i64 0, .nilm, .nils]), (3, .box 31 [.vs 6 (List.map enc_Def p.Defs), .vs 3 (List.map enc_Table p.Tables), .vs 3 (List.map enc_Zone p.Zones), .vs 20 (List.map enc_Rule p.Rules), .vs 4 (List.map enc_Cap p.Caps), .vs 6 (List.map enc_View p.Views), .vs 3 (List.map enc_Point3 p.Sun), .int .i64 p.Hours])] []
  refine v_seq (vr_text (o_runs 1 [(27, .bool (decide (q1.1 < (List.length measures : Int))))] (by kernel_rfl) ?_))
  refine ov_nil (nrm_thenV (v_seq ?_))
  refine v_cond (decide (q1.1 < (List.length measures : Int))) (by kernel_rfl) (fun h1 => ?_) (fun h1 => ?_)
  ·replace hs := bif_t h1 hs
   refine v_skip (nrm_thenV (v_seq (v_block (v_seq (vr_text ?_)))))
   obtain ⟨x1, g1, hs⟩ := bind_some hs; obtain ⟨g1a, g1b, g1c⟩ := idx_some g1
   refine o_pure (v := .vp (enc_Entry x1) 0) (by kernel_rfl) (by kernel_rfl) (loc_indexVs (e := 44) (sz := 2) (k := .i64) (els := (List.map enc_Entry measures)) (cs := (enc_Entry x1)) (by kernel_rfl) (by kernel_rfl) (by kernel_rfl) g1a (by rw [g1c]; exact map_get _ (by omega))) ?_
   refine o_runh 3 [(11, .ptr 11 0 0), (29, .agg (enc_Entry x1))] [(11, .box 44 [.str x1.Name, .int .i64 x1.N]), (23, .map (encM V.str V.bool q1.2.1)), (8, .box 63 [.vs 6 (List.map enc_Def p.Defs), .vs 3 (List.map enc_Table p.Tables), .vs 3 (List.map enc_Zone p.Zones), .vs 20 (List.map enc_Rule p.Rules), .vs 4 (List.map enc_Cap p.Caps), .vs 6 (List.map enc_View p.Views), .vs 3 (List.map enc_Point3 p.Sun), .int .i64 p.Hours, .mp 20, .vs 1 (List.map EV.encS zones)]), (20, .map (encM V.str (V.int .i64) q1.2.2)), (6, .box 63 [.nils, .nils, .nils, .nils, .nils, .nils, .nils, .int .i64 0, .nilm, .nils]), (3, .box 31 [.vs 6 (List.map enc_Def p.Defs), .vs 3 (List.map enc_Table p.Tables), .vs 3 (List.map enc_Zone p.Zones), .vs 20 (List.map enc_Rule p.Rules), .vs 4 (List.map enc_Cap p.Caps), .vs 6 (List.map enc_View p.Views), .vs 3 (List.map enc_Point3 p.Sun), .int .i64 p.Hours])] (by kernel_rfl) ?_
   refine ov_nil (nrm_thenV (v_seq (vr_text (o_runs 3 [(32, .str x1.Name), (31, .ptr 11 0 0), (30, .mp 23)] (by kernel_rfl) ?_))))
   refine o_loc (F := [(23, .map (encM V.str V.bool q1.2.1))]) (F' := [(23, .map (encM V.str V.bool q1.2.1))]) (v := .bool (Option.getD (mfind x1.Name q1.2.1) false)) [23] (by kernel_rfl) (by kernel_rfl) rfl (by kernel_rfl) (loc_lookup (et := 4) (f := V.str) (g := V.bool) (l := q1.2.1) (a := x1.Name) (z := false) (zv := .bool false) false (by kernel_rfl) kok9 (by kernel_rfl) (fun _ _ _ h => h) (by kernel_rfl) (by kernel_rfl)) (by kernel_rfl) ?_
   refine o_runs 1 [(34, .bool (!(Option.getD (mfind x1.Name q1.2.1) false)))] (by kernel_rfl) ?_
   refine ov_nil (nrm_thenV ?_)
   obtain ⟨z2, hs, hk2⟩ := bind_some hs
   refine v_join (S := (List ((List UInt8) × Bool)) × (List ((List UInt8) × Int))) (fun u => u = z2) (fun u => [(3, .ptr 3 0 0), (6, .ptr 6 0 0), (8, .ptr 8 0 0), (9, .mp 23), (24, .vs 2 (List.map enc_Entry measures)), (25, .int .i64 (List.length measures : Int)), (26, .int .i64 q1.1)]) (fun u => [(23, .map (encM V.str V.bool u.1)), (20, .map (encM V.str (V.int .i64) u.2)), (8, .box 63 [.vs 6 (List.map enc_Def p.Defs), .vs 3 (List.map enc_Table p.Tables), .vs 3 (List.map enc_Zone p.Zones), .vs 20 (List.map enc_Rule p.Rules), .vs 4 (List.map enc_Cap p.Caps), .vs 6 (List.map enc_View p.Views), .vs 3 (List.map enc_Point3 p.Sun), .int .i64 p.Hours, .mp 20, .vs 1 (List.map EV.encS zones)]), (6, .box 63 [.nils, .nils, .nils, .nils, .nils, .nils, .nils, .int .i64 0, .nilm, .nils]), (3, .box 31 [.vs 6 (List.map enc_Def p.Defs), .vs 3 (List.map enc_Table p.Tables), .vs 3 (List.map enc_Zone p.Zones), .vs 20 (List.map enc_Rule p.Rules), .vs 4 (List.map enc_Cap p.Caps), .vs 6 (List.map enc_View p.Views), .vs 3 (List.map enc_Point3 p.Sun), .int .i64 p.Hours])]) ?_ (fun v2 hz => ?_)
   ·refine v_cond (!(Option.getD (mfind x1.Name q1.2.1) false)) (by kernel_rfl) (fun h2 => ?_) (fun h2 => ?_)
    ·replace hs := bif_t h2 hs
     refine v_draw mixedH (by kernel_rfl) ?_
     refine d_runs 9 0 [(43, .int .i64 x1.N), (42, .ptr 11 0 1), (41, .str x1.Name), (40, .ptr 11 0 0), (39, .mp 23), (38, .str x1.Name), (37, .ptr 11 0 0), (36, .mp 20), (35, .ptr 8 0 8)] [⟨8, [], [11]⟩, ⟨7, [], []⟩, ⟨6, [], [11]⟩, ⟨5, [], []⟩, ⟨4, [], []⟩, ⟨3, [], [11]⟩, ⟨2, [], []⟩, ⟨1, [], [8]⟩, ⟨0, [], []⟩] (by kernel_rfl) (by kernel_rfl) ?_
     refine d_loc (F := [(20, .map (encM V.str (V.int .i64) q1.2.2))]) (R := []) (F' := [(20, .map (encM V.str (V.int .i64) (mset x1.Name x1.N q1.2.2)))]) (v := .no) 9 [20] [] rfl rfl rfl rfl (by kernel_rfl) (by kernel_rfl) (by kernel_rfl) (by kernel_rfl) (by kernel_rfl) (by kernel_rfl) (by kernel_rfl) (by kernel_rfl) (loc_mapUpdate (et := 3) (f := V.str) (g := (V.int .i64)) (l := q1.2.2) (a := x1.Name) (c := x1.N) (by kernel_rfl) kok9 (by kernel_rfl) (by kernel_rfl) (by kernel_rfl) (by kernel_rfl) (by kernel_rfl)) ?_
     refine d_loc (F := [(23, .map (encM V.str V.bool q1.2.1))]) (R := []) (F' := [(23, .map (encM V.str V.bool (mset x1.Name true q1.2.1)))]) (v := .no) 10 [23] [] rfl rfl rfl rfl (by kernel_rfl) (by kernel_rfl) (by kernel_rfl) (by kernel_rfl) (by kernel_rfl) (by kernel_rfl) (by kernel_rfl) (by kernel_rfl) (loc_mapUpdate (et := 4) (f := V.str) (g := V.bool) (l := q1.2.1) (a := x1.Name) (c := true) (by kernel_rfl) kok9 (by kernel_rfl) (by kernel_rfl) (by kernel_rfl) (by kernel_rfl) (by kernel_rfl)) ?_
     refine d_nil (by kernel_rfl) ?_
     obtain rfl := si hs
     refine nrm_join ((mset x1.Name true q1.2.1), (mset x1.Name x1.N q1.2.2)) rfl ?_
     exact cut_of [3, 6, 8, 9, 24, 25, 26] [23, 20, 8, 6, 3] (by kernel_rfl) (by kernel_rfl) (by kernel_rfl)
    ·replace hs := bif_f h2 hs
     refine v_skip ?_
     obtain rfl := si hs
     refine nrm_join (q1.2.1, q1.2.2) rfl ?_
     exact cut_of [3, 6, 8, 9, 24, 25, 26] [23, 20, 8, 6, 3] (by kernel_rfl) (by kernel_rfl) (by kernel_rfl)
   ·subst hz; clear hs; have hs := hk2; clear hk2
    refine nrm_blkV (nrm_thenV (vr_text (o_runs 2 [(26, .int .i64 (w64 (q1.1 + 1))), (44, .int .i64 (w64 (q1.1 + 1)))] (by kernel_rfl) ?_)))
    refine ov_nil (nrm_fuel ((w64 (q1.1 + 1)), v2.1, v2.2) hs ?_)
    exact cut_of [3, 6, 8, 9, 24, 25, 26] [23, 8, 20, 6, 3] (by kernel_rfl) (by kernel_rfl) (by kernel_rfl)
  ·replace hs := bif_f h1 hs
   refine v_exit (exit_thenV (exit_fuel ?_))
   refine exit_blkV ?_
   obtain rfl := si hs
   refine nrm_join (q1.2.1, q1.2.2) rfl ?_
   exact cut_of [3, 6, 8, 9] [23, 8, 20, 6, 3] (by kernel_rfl) (by kernel_rfl) (by kernel_rfl)
 ·subst hz; clear hs; have hs := hk1; clear hk1
  refine nrm_thenV (v_seq (vr_text (o_runs 2 [(46, .vs 6 (List.map enc_Def p.Defs)), (45, .ptr 3 0 0)] (by kernel_rfl) ?_)))
  refine o_pure (v := .int .i64 (List.length p.Defs : Int)) (by kernel_rfl) (by kernel_rfl) (loc_lenVs (sz := 6) (els := (List.map enc_Def p.Defs)) (by kernel_rfl) (by kernel_rfl) (List.length_map ..)) ?_
  obtain ⟨_, g2, hs⟩ := bind_some hs; obtain ⟨g2a, g2b, g2c⟩ := grd_some g2
  refine o_loc (F := []) (F' := [(48, .row 3 1 0 (List.map EV.encI (List.replicate (Int.toNat (List.length p.Defs : Int)) (0 : Int))))]) (v := .sl 1 48 (((List.replicate (Int.toNat (List.length p.Defs : Int)) (0 : Int))).length) 0 (((List.replicate (Int.toNat (List.length p.Defs : Int)) (0 : Int))).length)) [] (by kernel_rfl) (by kernel_rfl) rfl (by kernel_rfl) (loc_makeSliceT (L := ((List.replicate (Int.toNat (List.length p.Defs : Int)) (0 : Int))).length) (e := 3) (sz := 1) (bytes := 8) (q := (List.length p.Defs : Int)) (k := .i64) (k2 := .i64) (cs := [.int .i64 0]) (cs2 := [.int .i64 0]) (by kernel_rfl) (by kernel_rfl) (by kernel_rfl) (by kernel_rfl) (by kernel_rfl) g2a g2b g2c (List.map_replicate (f := EV.encI)).symm (List.length_replicate ..) (fun _ _ h => h)) (by kernel_rfl) ?_
  refine o_runs 1 [(12, .sl 1 48 (((List.replicate (Int.toNat (List.length p.Defs : Int)) (0 : Int))).length) 0 (((List.replicate (Int.toNat (List.length p.Defs : Int)) (0 : Int))).length))] (by kernel_rfl) ?_
  refine ov_nil (nrm_thenV (v_seq (vr_text (o_runs 1 [(50, .agg (enc_Plan p))] (by kernel_rfl) ?_))))
  obtain ⟨y1, c1, hs⟩ := bind_some hs
  refine o_pure (v := .tup [.vs 1 (List.map EV.encI y1.1), .vs 1 (List.map EV.encS y1.2.1), .int .i64 y1.2.2]) (by kernel_rfl) (by kernel_rfl) (loc_gcall0 (callV_func hbv33 (by kernel_rfl)) (w_define_Order p _ c1) (by kernel_rfl)) ?_
  refine o_runs 7 [(15, .int .i64 y1.2.2), (14, .vs 1 (List.map EV.encS y1.2.1)), (13, .vs 1 (List.map EV.encI y1.1)), (54, .int .i64 y1.2.2), (53, .vs 1 (List.map EV.encS y1.2.1)), (52, .vs 1 (List.map EV.encI y1.1)), (49, .tup [.vs 1 (List.map EV.encI y1.1), .vs 1 (List.map EV.encS y1.2.1), .int .i64 y1.2.2])] (by kernel_rfl) ?_
  refine ov_nil (nrm_thenV (v_seq (v_seq (vr_text (o_runs 2 [(56, .bool (!(decide (y1.2.2 = 0)))), (55, .int .i64 y1.2.2)] (by kernel_rfl) ?_)))))
  refine ov_nil (nrm_thenV ?_)
  refine v_cond (!(decide (y1.2.2 = 0))) (by kernel_rfl) (fun h3 => ?_) (fun h3 => ?_)
  ·replace hs := bif_t h3 hs
   refine v_seq (vr_text (o_runh 4 [(7, .sl 1 48 (((List.replicate (Int.toNat (List.length p.Defs : Int)) (0 : Int))).length) 0 (((List.replicate (Int.toNat (List.length p.Defs : Int)) (0 : Int))).length)), (58, .sl 1 48 (((List.replicate (Int.toNat (List.length p.Defs : Int)) (0 : Int))).length) 0 (((List.replicate (Int.toNat (List.length p.Defs : Int)) (0 : Int))).length)), (57, .agg [.vs 6 (List.map enc_Def p.Defs), .vs 3 (List.map enc_Table p.Tables), .vs 3 (List.map enc_Zone p.Zones), .vs 20 (List.map enc_Rule p.Rules), .vs 4 (List.map enc_Cap p.Caps), .vs 6 (List.map enc_View p.Views), .vs 3 (List.map enc_Point3 p.Sun), .int .i64 p.Hours, .mp 20, .vs 1 (List.map EV.encS zones)])] [(48, .row 3 1 0 (List.map EV.encI (List.replicate (Int.toNat (List.length p.Defs : Int)) (0 : Int)))), (23, .map (encM V.str V.bool v1.1)), (8, .box 63 [.vs 6 (List.map enc_Def p.Defs), .vs 3 (List.map enc_Table p.Tables), .vs 3 (List.map enc_Zone p.Zones), .vs 20 (List.map enc_Rule p.Rules), .vs 4 (List.map enc_Cap p.Caps), .vs 6 (List.map enc_View p.Views), .vs 3 (List.map enc_Point3 p.Sun), .int .i64 p.Hours, .mp 20, .vs 1 (List.map EV.encS zones)]), (20, .map (encM V.str (V.int .i64) v1.2)), (6, .box 63 [.vs 6 (List.map enc_Def p.Defs), .vs 3 (List.map enc_Table p.Tables), .vs 3 (List.map enc_Zone p.Zones), .vs 20 (List.map enc_Rule p.Rules), .vs 4 (List.map enc_Cap p.Caps), .vs 6 (List.map enc_View p.Views), .vs 3 (List.map enc_Point3 p.Sun), .int .i64 p.Hours, .mp 20, .vs 1 (List.map EV.encS zones)]), (3, .box 31 [.vs 6 (List.map enc_Def p.Defs), .vs 3 (List.map enc_Table p.Tables), .vs 3 (List.map enc_Zone p.Zones), .vs 20 (List.map enc_Rule p.Rules), .vs 4 (List.map enc_Cap p.Caps), .vs 6 (List.map enc_View p.Views), .vs 3 (List.map enc_Point3 p.Sun), .int .i64 p.Hours])] (by kernel_rfl) ?_))
   refine ov_nil (nrm_thenV (v_to _ [(48, .row 3 1 (((List.map EV.encI (List.replicate (Int.toNat (List.length p.Defs : Int)) (0 : Int)))).length) (List.map EV.encI (List.replicate (Int.toNat (List.length p.Defs : Int)) (0 : Int)))), (23, .map (encM V.str V.bool v1.1)), (8, .box 63 [.vs 6 (List.map enc_Def p.Defs), .vs 3 (List.map enc_Table p.Tables), .vs 3 (List.map enc_Zone p.Zones), .vs 20 (List.map enc_Rule p.Rules), .vs 4 (List.map enc_Cap p.Caps), .vs 6 (List.map enc_View p.Views), .vs 3 (List.map enc_Point3 p.Sun), .int .i64 p.Hours, .mp 20, .vs 1 (List.map EV.encS zones)]), (20, .map (encM V.str (V.int .i64) v1.2)), (6, .box 63 [.vs 6 (List.map enc_Def p.Defs), .vs 3 (List.map enc_Table p.Tables), .vs 3 (List.map enc_Zone p.Zones), .vs 20 (List.map enc_Rule p.Rules), .vs 4 (List.map enc_Cap p.Caps), .vs 6 (List.map enc_View p.Views), .vs 3 (List.map enc_Point3 p.Sun), .int .i64 p.Hours, .mp 20, .vs 1 (List.map EV.encS zones)]), (3, .box 31 [.vs 6 (List.map enc_Def p.Defs), .vs 3 (List.map enc_Table p.Tables), .vs 3 (List.map enc_Zone p.Zones), .vs 20 (List.map enc_Rule p.Rules), .vs 4 (List.map enc_Cap p.Caps), .vs 6 (List.map enc_View p.Views), .vs 3 (List.map enc_Point3 p.Sun), .int .i64 p.Hours])] (cut_freeze (F := [(48, .row 3 1 0 (List.map EV.encI (List.replicate (Int.toNat (List.length p.Defs : Int)) (0 : Int))))]) [48] rfl (by kernel_rfl) (by kernel_rfl)) ?_))
   refine v_to ((7, .vs 1 (List.map EV.encI (List.replicate (Int.toNat (List.length p.Defs : Int)) (0 : Int)))) :: _) _ (cut_view (R := [(48, .row 3 1 (((List.map EV.encI (List.replicate (Int.toNat (List.length p.Defs : Int)) (0 : Int)))).length) (List.map EV.encI (List.replicate (Int.toNat (List.length p.Defs : Int)) (0 : Int))))]) (ks := [48]) (by kernel_rfl) (by kernel_rfl) (.row (t := 3) (fz := (((List.map EV.encI (List.replicate (Int.toNat (List.length p.Defs : Int)) (0 : Int)))).length)) (by kernel_rfl) (by first | (simp only [List.length_map, List.length_set, cpyT_length]; done) | rfl))) ?_
   refine v_ret (ret_thenV ?_)
   obtain rfl := si hs
   exact fin_ret (by kernel_rfl) (by kernel_rfl) (by kernel_rfl)
  ·replace hs := bif_f h3 hs
   refine v_skip (nrm_thenV (v_seq (v_seq (vr_text (o_runs 1 [(59, .vs 1 (List.map EV.encI y1.1))] (by kernel_rfl) ?_)))))
   refine o_pure (v := .int .i64 (List.length y1.1 : Int)) (by kernel_rfl) (by kernel_rfl) (loc_lenVs (sz := 1) (els := (List.map EV.encI y1.1)) (by kernel_rfl) (by kernel_rfl) (List.length_map ..)) ?_
   refine o_runs 1 [(61, .int .i64 0)] (by kernel_rfl) ?_
   refine ov_nil (nrm_thenV ?_)
   obtain ⟨z3, hs, hk3⟩ := bind_some hs
   refine v_join (S := (List Int) × (List ((List UInt8) × Int))) (fun u => u = z3) (fun u => [(6, .ptr 6 0 0), (8, .ptr 8 0 0), (12, .sl 1 48 ((u.1).length) 0 ((u.1).length))]) (fun u => [(48, .row 3 1 0 (List.map EV.encI u.1)), (8, .box 63 [.vs 6 (List.map enc_Def p.Defs), .vs 3 (List.map enc_Table p.Tables), .vs 3 (List.map enc_Zone p.Zones), .vs 20 (List.map enc_Rule p.Rules), .vs 4 (List.map enc_Cap p.Caps), .vs 6 (List.map enc_View p.Views), .vs 3 (List.map enc_Point3 p.Sun), .int .i64 p.Hours, .mp 20, .vs 1 (List.map EV.encS zones)]), (20, .map (encM V.str (V.int .i64) u.2)), (6, .box 63 [.nils, .nils, .nils, .nils, .nils, .nils, .nils, .int .i64 0, .nilm, .nils])]) ?_ (fun v3 hz => ?_)
   ·refine v_block ?_
    refine v_fuel (S := Int × (List Int) × (List ((List UInt8) × Int))) (fun u => [(3, .ptr 3 0 0), (6, .ptr 6 0 0), (8, .ptr 8 0 0), (9, .mp 23), (12, .sl 1 48 ((u.2.1).length) 0 ((u.2.1).length)), (59, .vs 1 (List.map EV.encI y1.1)), (60, .int .i64 (List.length y1.1 : Int)), (61, .int .i64 u.1)]) (fun u => [(48, .row 3 1 0 (List.map EV.encI u.2.1)), (23, .map (encM V.str V.bool v1.1)), (8, .box 63 [.vs 6 (List.map enc_Def p.Defs), .vs 3 (List.map enc_Table p.Tables), .vs 3 (List.map enc_Zone p.Zones), .vs 20 (List.map enc_Rule p.Rules), .vs 4 (List.map enc_Cap p.Caps), .vs 6 (List.map enc_View p.Views), .vs 3 (List.map enc_Point3 p.Sun), .int .i64 p.Hours, .mp 20, .vs 1 (List.map EV.encS zones)]), (20, .map (encM V.str (V.int .i64) u.2.2)), (6, .box 63 [.nils, .nils, .nils, .nils, .nils, .nils, .nils, .int .i64 0, .nilm, .nils]), (3, .box 31 [.vs 6 (List.map enc_Def p.Defs), .vs 3 (List.map enc_Table p.Tables), .vs 3 (List.map enc_Zone p.Zones), .vs 20 (List.map enc_Rule p.Rules), .vs 4 (List.map enc_Cap p.Caps), .vs 6 (List.map enc_View p.Views), .vs 3 (List.map enc_Point3 p.Sun), .int .i64 p.Hours])]) (s_expr_prepare_L2 p zones v1 y1) (fun _ => rfl) KK (0, (List.replicate (Int.toNat (List.length p.Defs : Int)) (0 : Int)), v1.2) hs (cut_of [3, 6, 8, 9, 12, 59, 60, 61] [48, 23, 8, 20, 6, 3] (by kernel_rfl) (by kernel_rfl) (by kernel_rfl)) (fun K2 q2 hs => ?_)
    rw [s_expr_prepare_L2] at hs
    show WpV cK0 Try.prog none 96 _ _ [(3, .ptr 3 0 0), (6, .ptr 6 0 0), (8, .ptr 8 0 0), (9, .mp 23), (12, .sl 1 48 ((q2.2.1).length) 0 ((q2.2.1).length)), (59, .vs 1 (List.map EV.encI y1.1)), (60, .int .i64 (List.length y1.1 : Int)), (61, .int .i64 q2.1)] [(48, .row 3 1 0 (List.map EV.encI q2.2.1)), (23, .map (encM V.str V.bool v1.1)), (8, .box 63 [.vs 6 (List.map enc_Def p.Defs), .vs 3 (List.map enc_Table p.Tables), .vs 3 (List.map enc_Zone p.Zones), .vs 20 (List.map enc_Rule p.Rules), .vs 4 (List.map enc_Cap p.Caps), .vs 6 (List.map enc_View p.Views), .vs 3 (List.map enc_Point3 p.Sun), .int .i64 p.Hours, .mp 20, .vs 1 (List.map EV.encS zones)]), (20, .map (encM V.str (V.int .i64) q2.2.2)), (6, .box 63 [.nils, .nils, .nils, .nils, .nils, .nils, .nils, .int .i64 0, .nilm, .nils]), (3, .box 31 [.vs 6 (List.map enc_Def p.Defs), .vs 3 (List.map enc_Table p.Tables), .vs 3 (List.map enc_Zone p.Zones), .vs 20 (List.map enc_Rule p.Rules), .vs 4 (List.map enc_Cap p.Caps), .vs 6 (List.map enc_View p.Views), .vs 3 (List.map enc_Point3 p.Sun), .int .i64 p.Hours])] []
    refine v_seq (vr_text (o_runs 1 [(62, .bool (decide (q2.1 < (List.length y1.1 : Int))))] (by kernel_rfl) ?_))
    refine ov_nil (nrm_thenV (v_seq ?_))
    refine v_cond (decide (q2.1 < (List.length y1.1 : Int))) (by kernel_rfl) (fun h4 => ?_) (fun h4 => ?_)
    ·replace hs := bif_t h4 hs
     refine v_skip (nrm_thenV (v_seq (v_block (v_seq (vr_text ?_)))))
     obtain ⟨x2, g3, hs⟩ := bind_some hs; obtain ⟨g3a, g3b, g3c⟩ := idx_some g3
     refine o_pure (v := .vp [.int .i64 x2] 0) (by kernel_rfl) (by kernel_rfl) (loc_indexVs (e := 3) (sz := 1) (k := .i64) (els := (List.map EV.encI y1.1)) (cs := (EV.encI x2)) (by kernel_rfl) (by kernel_rfl) (by kernel_rfl) g3a (by rw [g3c]; exact map_get _ (by omega))) ?_
     refine o_runs 2 [(17, .int .i64 x2), (64, .int .i64 x2)] (by kernel_rfl) ?_
     refine ov_nil (nrm_thenV (v_seq (vr_text (o_runs 3 [(67, .int .i64 x2), (66, .vs 6 (List.map enc_Def p.Defs)), (65, .ptr 3 0 0)] (by kernel_rfl) ?_))))
     obtain ⟨x3, g4, hs⟩ := bind_some hs; obtain ⟨g4a, g4b, g4c⟩ := idx_some g4
     refine o_pure (v := .vp (enc_Def x3) 0) (by kernel_rfl) (by kernel_rfl) (loc_indexVs (e := 52) (sz := 6) (k := .i64) (els := (List.map enc_Def p.Defs)) (cs := (enc_Def x3)) (by kernel_rfl) (by kernel_rfl) (by kernel_rfl) g4a (by rw [g4c]; exact map_get _ (by omega))) ?_
     refine o_runh 3 [(18, .ptr 18 0 0), (69, .agg (enc_Def x3))] [(18, .box 52 [.str x3.Name, .int .i64 x3.Body.Op, .int .i64 x3.Body.N, .str x3.Body.S, .str x3.Body.Key, .vs 5 (encs_Expr x3.Body.Args)]), (48, .row 3 1 0 (List.map EV.encI q2.2.1)), (23, .map (encM V.str V.bool v1.1)), (8, .box 63 [.vs 6 (List.map enc_Def p.Defs), .vs 3 (List.map enc_Table p.Tables), .vs 3 (List.map enc_Zone p.Zones), .vs 20 (List.map enc_Rule p.Rules), .vs 4 (List.map enc_Cap p.Caps), .vs 6 (List.map enc_View p.Views), .vs 3 (List.map enc_Point3 p.Sun), .int .i64 p.Hours, .mp 20, .vs 1 (List.map EV.encS zones)]), (20, .map (encM V.str (V.int .i64) q2.2.2)), (6, .box 63 [.nils, .nils, .nils, .nils, .nils, .nils, .nils, .int .i64 0, .nilm, .nils]), (3, .box 31 [.vs 6 (List.map enc_Def p.Defs), .vs 3 (List.map enc_Table p.Tables), .vs 3 (List.map enc_Zone p.Zones), .vs 20 (List.map enc_Rule p.Rules), .vs 4 (List.map enc_Cap p.Caps), .vs 6 (List.map enc_View p.Views), .vs 3 (List.map enc_Point3 p.Sun), .int .i64 p.Hours])] (by kernel_rfl) ?_
     refine ov_nil (nrm_thenV (v_seq (v_seq (vr_text (o_runs 2 [(71, .agg (enc_Expr x3.Body)), (70, .ptr 18 0 1)] (by kernel_rfl) ?_)))))
     obtain ⟨y2, c2, hs⟩ := bind_some hs
     refine o_pure (v := .bool y2) (by kernel_rfl) (by kernel_rfl) (loc_gcall0 (callV_func hbv15 (by kernel_rfl)) (w_expr_Right x3.Body _ c2) (by kernel_rfl)) ?_
     refine ov_nil (nrm_thenV ?_)
     obtain ⟨z4, hs, hk4⟩ := bind_some hs
     refine v_join (S := (List Int)) (fun u => u = z4) (fun u => [(3, .ptr 3 0 0), (6, .ptr 6 0 0), (8, .ptr 8 0 0), (9, .mp 23), (12, .sl 1 48 ((u).length) 0 ((u).length)), (17, .int .i64 x2), (18, .ptr 18 0 0), (59, .vs 1 (List.map EV.encI y1.1)), (60, .int .i64 (List.length y1.1 : Int)), (61, .int .i64 q2.1)]) (fun u => [(48, .row 3 1 0 (List.map EV.encI u)), (20, .map (encM V.str (V.int .i64) q2.2.2)), (18, .box 52 [.str x3.Name, .int .i64 x3.Body.Op, .int .i64 x3.Body.N, .str x3.Body.S, .str x3.Body.Key, .vs 5 (encs_Expr x3.Body.Args)]), (23, .map (encM V.str V.bool v1.1)), (8, .box 63 [.vs 6 (List.map enc_Def p.Defs), .vs 3 (List.map enc_Table p.Tables), .vs 3 (List.map enc_Zone p.Zones), .vs 20 (List.map enc_Rule p.Rules), .vs 4 (List.map enc_Cap p.Caps), .vs 6 (List.map enc_View p.Views), .vs 3 (List.map enc_Point3 p.Sun), .int .i64 p.Hours, .mp 20, .vs 1 (List.map EV.encS zones)]), (6, .box 63 [.nils, .nils, .nils, .nils, .nils, .nils, .nils, .int .i64 0, .nilm, .nils]), (3, .box 31 [.vs 6 (List.map enc_Def p.Defs), .vs 3 (List.map enc_Table p.Tables), .vs 3 (List.map enc_Zone p.Zones), .vs 20 (List.map enc_Rule p.Rules), .vs 4 (List.map enc_Cap p.Caps), .vs 6 (List.map enc_View p.Views), .vs 3 (List.map enc_Point3 p.Sun), .int .i64 p.Hours])]) ?_ (fun v4 hz => ?_)
     ·refine v_cond y2 (by kernel_rfl) (fun h5 => ?_) (fun h5 => ?_)
      ·replace hs := bif_t h5 hs
       refine vr_text (o_runs 5 [(77, .agg (enc_Expr x3.Body)), (76, .ptr 18 0 1), (75, .agg [.vs 6 (List.map enc_Def p.Defs), .vs 3 (List.map enc_Table p.Tables), .vs 3 (List.map enc_Zone p.Zones), .vs 20 (List.map enc_Rule p.Rules), .vs 4 (List.map enc_Cap p.Caps), .vs 6 (List.map enc_View p.Views), .vs 3 (List.map enc_Point3 p.Sun), .int .i64 p.Hours, .mp 20, .vs 1 (List.map EV.encS zones)]), (74, .int .i64 x2), (73, .sl 1 48 ((q2.2.1).length) 0 ((q2.2.1).length))] (by kernel_rfl) ?_)
       obtain ⟨y3, c3, hs⟩ := bind_some hs
       refine o_loc (F := [(20, .map (encM V.str (V.int .i64) q2.2.2))]) (F' := [(20, .map (encM V.str (V.int .i64) q2.2.2))]) (v := .int .i64 y3) [20] (by kernel_rfl) (by kernel_rfl) rfl (by kernel_rfl) (loc_g (R := []) [.agg [.vs 6 (List.map enc_Def p.Defs), .vs 3 (List.map enc_Table p.Tables), .vs 3 (List.map enc_Zone p.Zones), .vs 20 (List.map enc_Rule p.Rules), .vs 4 (List.map enc_Cap p.Caps), .vs 6 (List.map enc_View p.Views), .vs 3 (List.map enc_Point3 p.Sun), .int .i64 p.Hours, .mp 20, .vs 1 (List.map EV.encS zones)], .agg (enc_Expr x3.Body)] [(1000000, 20)] (callV_func hbv18 (by kernel_rfl)) (w_expr_context_value KK p q2.2.2 zones x3.Body _ c3) (.cons (.same _) (.cons (.same _) (.nil))) (by kernel_rfl) (by kernel_rfl) (by kernel_rfl) (by kernel_rfl) (by kernel_rfl) (by kernel_rfl) (by kernel_rfl) (by kernel_rfl)) (by kernel_rfl) ?_
       obtain ⟨_, g5, hs⟩ := bind_some hs; obtain ⟨g5a, g5b⟩ := grd_some g5
       refine o_pure (v := .ptr 48 ((q2.2.1).length) ((Int.toNat x2) * 1 + 0)) (by kernel_rfl) (by kernel_rfl) (loc_indexRowT (e := 3) (sz := 1) (kk := 48) (L := (q2.2.1).length) (n := (q2.2.1).length) (k := .i64) (i := x2) (by kernel_rfl) (by kernel_rfl) (by kernel_rfl) g5a g5b) ?_
       obtain ⟨e1, he1, hs⟩ := bind_some hs; replace he1 := Option.some.inj he1
       refine o_loc (F := [(48, .row 3 1 0 (List.map EV.encI q2.2.1))]) (F' := [(48, .row 3 1 0 (List.map EV.encI (List.set q2.2.1 (Int.toNat x2) y3)))]) (v := .no) [48] (by kernel_rfl) (by kernel_rfl) rfl (by kernel_rfl) (loc_storeRowT (L := (q2.2.1).length) (off := (Int.toNat x2) * 1 + 0) (els := (List.map EV.encI q2.2.1)) (cs := [.int .i64 e1]) (c' := [.int .i64 y3]) (Int.toNat x2) 0 (by kernel_rfl) (by first | (simp only [List.length_map, List.length_set, cpyT_length]; done) | rfl) rfl (by rw [← he1]; exact map_get _ (by first | omega | (simp only [List.length_set, cpyT_length]; omega))) (by first | exact Nat.zero_le _ | omega) (by kernel_rfl) (by kernel_rfl) (by kernel_rfl) (by kernel_rfl) (by kernel_rfl) (by kernel_rfl) List.map_set.symm) (by kernel_rfl) ?_
       refine ov_nil ?_
       obtain rfl := si hs
       refine nrm_join (List.set q2.2.1 (Int.toNat x2) y3) rfl ?_
       exact Cut.trans (cut_eq 12 (v := .sl 1 48 ((q2.2.1).length) 0 ((q2.2.1).length)) (v' := .sl 1 48 (((List.set q2.2.1 (Int.toNat x2) y3)).length) 0 (((List.set q2.2.1 (Int.toNat x2) y3)).length)) (by kernel_rfl) (by first | rfl | simp only [List.length_set, cpyT_length])) (cut_of [3, 6, 8, 9, 12, 17, 18, 59, 60, 61] [48, 20, 18, 23, 8, 6, 3] (by kernel_rfl) (by kernel_rfl) (by kernel_rfl))
      ·replace hs := bif_f h5 hs
       refine v_skip ?_
       obtain rfl := si hs
       refine nrm_join q2.2.1 rfl ?_
       exact cut_of [3, 6, 8, 9, 12, 17, 18, 59, 60, 61] [48, 20, 18, 23, 8, 6, 3] (by kernel_rfl) (by kernel_rfl) (by kernel_rfl)
     ·subst hz; clear hs; have hs := hk4; clear hk4
      refine nrm_thenV (v_seq (vr_text (o_runs 3 [(82, .str x3.Name), (81, .ptr 18 0 0), (80, .mp 23)] (by kernel_rfl) ?_)))
      refine o_loc (F := [(23, .map (encM V.str V.bool v1.1))]) (F' := [(23, .map (encM V.str V.bool v1.1))]) (v := .bool (Option.getD (mfind x3.Name v1.1) false)) [23] (by kernel_rfl) (by kernel_rfl) rfl (by kernel_rfl) (loc_lookup (et := 4) (f := V.str) (g := V.bool) (l := v1.1) (a := x3.Name) (z := false) (zv := .bool false) false (by kernel_rfl) kok9 (by kernel_rfl) (fun _ _ _ h => h) (by kernel_rfl) (by kernel_rfl)) (by kernel_rfl) ?_
      refine o_runs 1 [(84, .bool (!(Option.getD (mfind x3.Name v1.1) false)))] (by kernel_rfl) ?_
      refine ov_nil (nrm_thenV ?_)
      obtain ⟨z5, hs, hk5⟩ := bind_some hs
      refine v_join (S := (List ((List UInt8) × Int))) (fun u => u = z5) (fun u => [(3, .ptr 3 0 0), (6, .ptr 6 0 0), (8, .ptr 8 0 0), (9, .mp 23), (12, .sl 1 48 ((v4).length) 0 ((v4).length)), (59, .vs 1 (List.map EV.encI y1.1)), (60, .int .i64 (List.length y1.1 : Int)), (61, .int .i64 q2.1)]) (fun u => [(20, .map (encM V.str (V.int .i64) u)), (23, .map (encM V.str V.bool v1.1)), (48, .row 3 1 0 (List.map EV.encI v4)), (8, .box 63 [.vs 6 (List.map enc_Def p.Defs), .vs 3 (List.map enc_Table p.Tables), .vs 3 (List.map enc_Zone p.Zones), .vs 20 (List.map enc_Rule p.Rules), .vs 4 (List.map enc_Cap p.Caps), .vs 6 (List.map enc_View p.Views), .vs 3 (List.map enc_Point3 p.Sun), .int .i64 p.Hours, .mp 20, .vs 1 (List.map EV.encS zones)]), (6, .box 63 [.nils, .nils, .nils, .nils, .nils, .nils, .nils, .int .i64 0, .nilm, .nils]), (3, .box 31 [.vs 6 (List.map enc_Def p.Defs), .vs 3 (List.map enc_Table p.Tables), .vs 3 (List.map enc_Zone p.Zones), .vs 20 (List.map enc_Rule p.Rules), .vs 4 (List.map enc_Cap p.Caps), .vs 6 (List.map enc_View p.Views), .vs 3 (List.map enc_Point3 p.Sun), .int .i64 p.Hours])]) ?_ (fun v5 hz => ?_)
      ·refine v_cond (!(Option.getD (mfind x3.Name v1.1) false)) (by kernel_rfl) (fun h6 => ?_) (fun h6 => ?_)
       ·replace hs := bif_t h6 hs
        refine v_draw mixedH (by kernel_rfl) ?_
        refine d_runs 6 0 [(90, .int .i64 x2), (89, .sl 1 48 ((v4).length) 0 ((v4).length)), (88, .str x3.Name), (87, .ptr 18 0 0), (86, .mp 20), (85, .ptr 8 0 8)] [⟨5, [], []⟩, ⟨4, [], []⟩, ⟨3, [], [18]⟩, ⟨2, [], []⟩, ⟨1, [], [8]⟩, ⟨0, [], []⟩] (by kernel_rfl) (by kernel_rfl) ?_
        obtain ⟨_, g6, hs⟩ := bind_some hs; obtain ⟨g6a, g6b⟩ := grd_some g6
        refine d_pure (v := .ptr 48 ((v4).length) ((Int.toNat x2) * 1 + 0)) 6 rfl rfl rfl rfl (by kernel_rfl) (by kernel_rfl) (loc_indexRowT (e := 3) (sz := 1) (kk := 48) (L := (v4).length) (n := (v4).length) (k := .i64) (i := x2) (by kernel_rfl) (by kernel_rfl) (by kernel_rfl) g6a g6b) ?_
        obtain ⟨e2, he2, hs⟩ := bind_some hs; replace he2 := Option.some.inj he2
        refine d_loc (F := []) (R := [(48, .row 3 1 0 (List.map EV.encI v4))]) (F' := []) (v := .int .i64 e2) 7 [] [48] rfl rfl rfl rfl (by kernel_rfl) (by kernel_rfl) (by kernel_rfl) (by kernel_rfl) (by kernel_rfl) (by kernel_rfl) (by kernel_rfl) (by kernel_rfl) (loc_loadRow (L := (v4).length) (off := (Int.toNat x2) * 1 + 0) (els := (List.map EV.encI v4)) (cs := [.int .i64 e2]) (Int.toNat x2) 0 (by kernel_rfl) (by first | (simp only [List.length_map, List.length_set, cpyT_length]; done) | rfl) rfl (by rw [← he2]; exact map_get _ (by first | omega | (simp only [List.length_set, cpyT_length]; omega))) (by kernel_rfl)) ?_
        refine d_loc (F := [(20, .map (encM V.str (V.int .i64) q2.2.2))]) (R := []) (F' := [(20, .map (encM V.str (V.int .i64) (mset x3.Name e2 q2.2.2)))]) (v := .no) 8 [20] [] rfl rfl rfl rfl (by kernel_rfl) (by kernel_rfl) (by kernel_rfl) (by kernel_rfl) (by kernel_rfl) (by kernel_rfl) (by kernel_rfl) (by kernel_rfl) (loc_mapUpdate (et := 3) (f := V.str) (g := (V.int .i64)) (l := q2.2.2) (a := x3.Name) (c := e2) (by kernel_rfl) kok9 (by kernel_rfl) (by kernel_rfl) (by kernel_rfl) (by kernel_rfl) (by kernel_rfl)) ?_
        refine d_nil (by kernel_rfl) ?_
        obtain rfl := si hs
        refine nrm_join (mset x3.Name e2 q2.2.2) rfl ?_
        exact cut_of [3, 6, 8, 9, 12, 59, 60, 61] [20, 23, 48, 8, 6, 3] (by kernel_rfl) (by kernel_rfl) (by kernel_rfl)
       ·replace hs := bif_f h6 hs
        refine v_skip ?_
        obtain rfl := si hs
        refine nrm_join q2.2.2 rfl ?_
        exact cut_of [3, 6, 8, 9, 12, 59, 60, 61] [20, 23, 48, 8, 6, 3] (by kernel_rfl) (by kernel_rfl) (by kernel_rfl)
      ·subst hz; clear hs; have hs := hk5; clear hk5
       refine nrm_blkV (nrm_thenV (vr_text (o_runs 2 [(61, .int .i64 (w64 (q2.1 + 1))), (93, .int .i64 (w64 (q2.1 + 1)))] (by kernel_rfl) ?_)))
       refine ov_nil (nrm_fuel ((w64 (q2.1 + 1)), v4, v5) hs ?_)
       exact cut_of [3, 6, 8, 9, 12, 59, 60, 61] [48, 23, 8, 20, 6, 3] (by kernel_rfl) (by kernel_rfl) (by kernel_rfl)
    ·replace hs := bif_f h4 hs
     refine v_exit (exit_thenV (exit_fuel ?_))
     refine exit_blkV ?_
     obtain rfl := si hs
     refine nrm_join (q2.2.1, q2.2.2) rfl ?_
     exact cut_of [6, 8, 12] [48, 8, 20, 6] (by kernel_rfl) (by kernel_rfl) (by kernel_rfl)
   ·subst hz; clear hs; have hs := hk3; clear hk3
    refine nrm_thenV (v_seq (vr_text (o_runh 4 [(7, .sl 1 48 ((v3.1).length) 0 ((v3.1).length)), (95, .sl 1 48 ((v3.1).length) 0 ((v3.1).length)), (94, .agg [.vs 6 (List.map enc_Def p.Defs), .vs 3 (List.map enc_Table p.Tables), .vs 3 (List.map enc_Zone p.Zones), .vs 20 (List.map enc_Rule p.Rules), .vs 4 (List.map enc_Cap p.Caps), .vs 6 (List.map enc_View p.Views), .vs 3 (List.map enc_Point3 p.Sun), .int .i64 p.Hours, .mp 20, .vs 1 (List.map EV.encS zones)])] [(48, .row 3 1 0 (List.map EV.encI v3.1)), (8, .box 63 [.vs 6 (List.map enc_Def p.Defs), .vs 3 (List.map enc_Table p.Tables), .vs 3 (List.map enc_Zone p.Zones), .vs 20 (List.map enc_Rule p.Rules), .vs 4 (List.map enc_Cap p.Caps), .vs 6 (List.map enc_View p.Views), .vs 3 (List.map enc_Point3 p.Sun), .int .i64 p.Hours, .mp 20, .vs 1 (List.map EV.encS zones)]), (20, .map (encM V.str (V.int .i64) v3.2)), (6, .box 63 [.vs 6 (List.map enc_Def p.Defs), .vs 3 (List.map enc_Table p.Tables), .vs 3 (List.map enc_Zone p.Zones), .vs 20 (List.map enc_Rule p.Rules), .vs 4 (List.map enc_Cap p.Caps), .vs 6 (List.map enc_View p.Views), .vs 3 (List.map enc_Point3 p.Sun), .int .i64 p.Hours, .mp 20, .vs 1 (List.map EV.encS zones)])] (by kernel_rfl) ?_)))
    refine ov_nil (nrm_thenV (v_to _ [(48, .row 3 1 (((List.map EV.encI v3.1)).length) (List.map EV.encI v3.1)), (8, .box 63 [.vs 6 (List.map enc_Def p.Defs), .vs 3 (List.map enc_Table p.Tables), .vs 3 (List.map enc_Zone p.Zones), .vs 20 (List.map enc_Rule p.Rules), .vs 4 (List.map enc_Cap p.Caps), .vs 6 (List.map enc_View p.Views), .vs 3 (List.map enc_Point3 p.Sun), .int .i64 p.Hours, .mp 20, .vs 1 (List.map EV.encS zones)]), (20, .map (encM V.str (V.int .i64) v3.2)), (6, .box 63 [.vs 6 (List.map enc_Def p.Defs), .vs 3 (List.map enc_Table p.Tables), .vs 3 (List.map enc_Zone p.Zones), .vs 20 (List.map enc_Rule p.Rules), .vs 4 (List.map enc_Cap p.Caps), .vs 6 (List.map enc_View p.Views), .vs 3 (List.map enc_Point3 p.Sun), .int .i64 p.Hours, .mp 20, .vs 1 (List.map EV.encS zones)])] (cut_freeze (F := [(48, .row 3 1 0 (List.map EV.encI v3.1))]) [48] rfl (by kernel_rfl) (by kernel_rfl)) ?_))
    refine v_to ((7, .vs 1 (List.map EV.encI v3.1)) :: _) _ (cut_view (R := [(48, .row 3 1 (((List.map EV.encI v3.1)).length) (List.map EV.encI v3.1))]) (ks := [48]) (by kernel_rfl) (by kernel_rfl) (.row (t := 3) (fz := (((List.map EV.encI v3.1)).length)) (by kernel_rfl) (by first | (simp only [List.length_map, List.length_set, cpyT_length]; done) | rfl))) ?_
    refine v_ret ?_
    obtain rfl := si hs
    exact fin_ret (by kernel_rfl) (by kernel_rfl) (by kernel_rfl)
theorem w_expr_Eval (p_Defs : (List Def)) (p_Tables : (List Table)) (p_Zones : (List Zone)) (p_Rules : (List Rule)) (p_Caps : (List Cap)) (p_Views : (List View)) (p_Sun : (List Point3)) (p_Hours : Int) (measures : (List Entry)) (zones : (List (List UInt8))) (e : Expr) (r : Int) (hs : s_expr_Eval p_Defs p_Tables p_Zones p_Rules p_Caps p_Views p_Sun p_Hours measures zones e = some r) : FnA Try.prog 8 [.agg [.vs 6 (List.map enc_Def p_Defs), .vs 3 (List.map enc_Table p_Tables), .vs 3 (List.map enc_Zone p_Zones), .vs 20 (List.map enc_Rule p_Rules), .vs 4 (List.map enc_Cap p_Caps), .vs 6 (List.map enc_View p_Views), .vs 3 (List.map enc_Point3 p_Sun), .int .i64 p_Hours], .vs 2 (List.map enc_Entry measures), .vs 1 (List.map EV.encS zones), .agg (enc_Expr e)] [] (.int .i64 r) [] := by
 refine fnA_of_wp (N := 24) Try.func8 rfl rfl rfl fun cK0 => ?_
 unfold s_expr_Eval at hs
 refine v_same (ρ' := [(0, .agg [.vs 6 (List.map enc_Def p_Defs), .vs 3 (List.map enc_Table p_Tables), .vs 3 (List.map enc_Zone p_Zones), .vs 20 (List.map enc_Rule p_Rules), .vs 4 (List.map enc_Cap p_Caps), .vs 6 (List.map enc_View p_Views), .vs 3 (List.map enc_Point3 p_Sun), .int .i64 p_Hours]), (1, .vs 2 (List.map enc_Entry measures)), (2, .vs 1 (List.map EV.encS zones)), (3, .agg (enc_Expr e))]) rfl rfl ?_
 refine v_seq (vr_text (o_runh 3 [(8, .int .i64 0), (7, .ptr 7 0 0), (4, .ptr 4 0 0)] [(7, .box 34 [.int .i64 e.Op, .int .i64 e.N, .str e.S, .str e.Key, .vs 5 (encs_Expr e.Args)]), (4, .box 31 [.vs 6 (List.map enc_Def p_Defs), .vs 3 (List.map enc_Table p_Tables), .vs 3 (List.map enc_Zone p_Zones), .vs 20 (List.map enc_Rule p_Rules), .vs 4 (List.map enc_Cap p_Caps), .vs 6 (List.map enc_View p_Views), .vs 3 (List.map enc_Point3 p_Sun), .int .i64 p_Hours])] (by kernel_rfl) ?_))
 refine ov_nil (nrm_thenV (v_seq (v_seq (vr_text (o_runs 1 [(11, .agg (enc_Expr e))] (by kernel_rfl) ?_)))))
 obtain ⟨y1, c1, hs⟩ := bind_some hs
 refine o_pure (v := .bool y1) (by kernel_rfl) (by kernel_rfl) (loc_gcall0 (callV_func hbv15 (by kernel_rfl)) (w_expr_Right e _ c1) (by kernel_rfl)) ?_
 refine o_runs 1 [(13, .bool (!y1))] (by kernel_rfl) ?_
 refine ov_nil (nrm_thenV ?_)
 refine v_cond (!y1) (by kernel_rfl) (fun h1 => ?_) (fun h1 => ?_)
 ·replace hs := bif_t h1 hs
  refine v_seq (vr_text (o_runs 1 [(8, .int .i64 0)] (by kernel_rfl) ?_))
  refine ov_nil (nrm_thenV (v_ret (ret_thenV ?_)))
  obtain rfl := si hs
  exact fin_ret (by kernel_rfl) (by kernel_rfl) (by kernel_rfl)
 ·replace hs := bif_f h1 hs
  refine v_skip (nrm_thenV (v_seq (vr_text (o_runs 3 [(17, .vs 1 (List.map EV.encS zones)), (16, .vs 2 (List.map enc_Entry measures)), (15, .agg [.vs 6 (List.map enc_Def p_Defs), .vs 3 (List.map enc_Table p_Tables), .vs 3 (List.map enc_Zone p_Zones), .vs 20 (List.map enc_Rule p_Rules), .vs 4 (List.map enc_Cap p_Caps), .vs 6 (List.map enc_View p_Views), .vs 3 (List.map enc_Point3 p_Sun), .int .i64 p_Hours])] (by kernel_rfl) ?_))))
  obtain ⟨y2, c2, hs⟩ := bind_some hs
  refine o_loc (F := []) (F' := [(3001800, .map (encM V.str (V.int .i64) y2.2.2.2))]) (v := .tup [.agg [.vs 6 (List.map enc_Def y2.1.Defs), .vs 3 (List.map enc_Table y2.1.Tables), .vs 3 (List.map enc_Zone y2.1.Zones), .vs 20 (List.map enc_Rule y2.1.Rules), .vs 4 (List.map enc_Cap y2.1.Caps), .vs 6 (List.map enc_View y2.1.Views), .vs 3 (List.map enc_Point3 y2.1.Sun), .int .i64 y2.1.Hours, .mp 3001800, .vs 1 (List.map EV.encS y2.2.1)], .vs 1 (List.map EV.encI y2.2.2.1)]) [] (by kernel_rfl) (by kernel_rfl) rfl (by kernel_rfl) (loc_g (R := []) [.agg [.vs 6 (List.map enc_Def p_Defs), .vs 3 (List.map enc_Table p_Tables), .vs 3 (List.map enc_Zone p_Zones), .vs 20 (List.map enc_Rule p_Rules), .vs 4 (List.map enc_Cap p_Caps), .vs 6 (List.map enc_View p_Views), .vs 3 (List.map enc_Point3 p_Sun), .int .i64 p_Hours], .vs 2 (List.map enc_Entry measures), .vs 1 (List.map EV.encS zones)] [(20, 3001800)] (callV_func hbv17 (by kernel_rfl)) (w_expr_prepare (Plan.mk p_Defs p_Tables p_Zones p_Rules p_Caps p_Views p_Sun p_Hours) measures zones _ c2) (.cons (.same _) (.cons (.same _) (.cons (.same _) (.nil)))) (by kernel_rfl) (by kernel_rfl) (by kernel_rfl) (by kernel_rfl) (by kernel_rfl) (by kernel_rfl) (by kernel_rfl) (by kernel_rfl)) (by kernel_rfl) ?_
  refine o_runh 6 [(10, .vs 1 (List.map EV.encI y2.2.2.1)), (9, .ptr 9 0 0), (20, .vs 1 (List.map EV.encI y2.2.2.1)), (19, .agg [.vs 6 (List.map enc_Def y2.1.Defs), .vs 3 (List.map enc_Table y2.1.Tables), .vs 3 (List.map enc_Zone y2.1.Zones), .vs 20 (List.map enc_Rule y2.1.Rules), .vs 4 (List.map enc_Cap y2.1.Caps), .vs 6 (List.map enc_View y2.1.Views), .vs 3 (List.map enc_Point3 y2.1.Sun), .int .i64 y2.1.Hours, .mp 3001800, .vs 1 (List.map EV.encS y2.2.1)]), (14, .tup [.agg [.vs 6 (List.map enc_Def y2.1.Defs), .vs 3 (List.map enc_Table y2.1.Tables), .vs 3 (List.map enc_Zone y2.1.Zones), .vs 20 (List.map enc_Rule y2.1.Rules), .vs 4 (List.map enc_Cap y2.1.Caps), .vs 6 (List.map enc_View y2.1.Views), .vs 3 (List.map enc_Point3 y2.1.Sun), .int .i64 y2.1.Hours, .mp 3001800, .vs 1 (List.map EV.encS y2.2.1)], .vs 1 (List.map EV.encI y2.2.2.1)])] [(9, .box 63 [.vs 6 (List.map enc_Def y2.1.Defs), .vs 3 (List.map enc_Table y2.1.Tables), .vs 3 (List.map enc_Zone y2.1.Zones), .vs 20 (List.map enc_Rule y2.1.Rules), .vs 4 (List.map enc_Cap y2.1.Caps), .vs 6 (List.map enc_View y2.1.Views), .vs 3 (List.map enc_Point3 y2.1.Sun), .int .i64 y2.1.Hours, .mp 3001800, .vs 1 (List.map EV.encS y2.2.1)]), (3001800, .map (encM V.str (V.int .i64) y2.2.2.2)), (7, .box 34 [.int .i64 e.Op, .int .i64 e.N, .str e.S, .str e.Key, .vs 5 (encs_Expr e.Args)]), (4, .box 31 [.vs 6 (List.map enc_Def p_Defs), .vs 3 (List.map enc_Table p_Tables), .vs 3 (List.map enc_Zone p_Zones), .vs 20 (List.map enc_Rule p_Rules), .vs 4 (List.map enc_Cap p_Caps), .vs 6 (List.map enc_View p_Views), .vs 3 (List.map enc_Point3 p_Sun), .int .i64 p_Hours])] (by kernel_rfl) ?_
  refine ov_nil (nrm_thenV (v_seq (vr_text (o_runs 2 [(22, .agg (enc_Expr e)), (21, .agg [.vs 6 (List.map enc_Def y2.1.Defs), .vs 3 (List.map enc_Table y2.1.Tables), .vs 3 (List.map enc_Zone y2.1.Zones), .vs 20 (List.map enc_Rule y2.1.Rules), .vs 4 (List.map enc_Cap y2.1.Caps), .vs 6 (List.map enc_View y2.1.Views), .vs 3 (List.map enc_Point3 y2.1.Sun), .int .i64 y2.1.Hours, .mp 3001800, .vs 1 (List.map EV.encS y2.2.1)])] (by kernel_rfl) ?_))))
  obtain ⟨y3, c3, hs⟩ := bind_some hs
  refine o_loc (F := [(3001800, .map (encM V.str (V.int .i64) y2.2.2.2))]) (F' := [(3001800, .map (encM V.str (V.int .i64) y2.2.2.2))]) (v := .int .i64 y3) [3001800] (by kernel_rfl) (by kernel_rfl) rfl (by kernel_rfl) (loc_g (R := []) [.agg [.vs 6 (List.map enc_Def y2.1.Defs), .vs 3 (List.map enc_Table y2.1.Tables), .vs 3 (List.map enc_Zone y2.1.Zones), .vs 20 (List.map enc_Rule y2.1.Rules), .vs 4 (List.map enc_Cap y2.1.Caps), .vs 6 (List.map enc_View y2.1.Views), .vs 3 (List.map enc_Point3 y2.1.Sun), .int .i64 y2.1.Hours, .mp 3001800, .vs 1 (List.map EV.encS y2.2.1)], .agg (enc_Expr e)] [(1000000, 3001800)] (callV_func hbv18 (by kernel_rfl)) (w_expr_context_value KK y2.1 y2.2.2.2 y2.2.1 e _ c3) (.cons (.same _) (.cons (.same _) (.nil))) (by kernel_rfl) (by kernel_rfl) (by kernel_rfl) (by kernel_rfl) (by kernel_rfl) (by kernel_rfl) (by kernel_rfl) (by kernel_rfl)) (by kernel_rfl) ?_
  refine o_runs 1 [(8, .int .i64 y3)] (by kernel_rfl) ?_
  refine ov_nil (nrm_thenV (v_ret ?_))
  obtain rfl := si hs
  exact fin_ret (by kernel_rfl) (by kernel_rfl) (by kernel_rfl)
theorem w_slices_Clone (s : (List (List UInt8))) (r : (List (List UInt8))) (hs : s_slices_Clone s = some r) : FnA Try.prog 25 [.vs 1 (List.map EV.encS s)] [] (.sl 1 5 ((r).length) 0 ((r).length)) [(5, .row 9 1 0 (List.map EV.encS r))] := by
 refine fnA_of_wp (N := 8) Try.func25 rfl rfl rfl fun cK0 => ?_
 unfold s_slices_Clone at hs
 refine v_same (ρ' := [(0, .vs 1 (List.map EV.encS s))]) rfl rfl ?_
 refine v_seq (vr_text (o_runs 1 [(2, .nils)] (by kernel_rfl) ?_))
 refine ov_nil (nrm_thenV (v_seq (v_seq (vr_text (o_runs 1 [(3, .vs 1 (List.map EV.encS s))] (by kernel_rfl) ?_)))))
 replace hs := nd_some hs
 refine o_isNil (n := ((List.map EV.encS s)).length) (by kernel_rfl) (by kernel_rfl) (by kernel_rfl) (by kernel_rfl) (by kernel_rfl) (fun h1 => ?_) ?_
 ·replace hs := hs.1 (by simpa using h1)
  refine ov_nil (nrm_thenV (v_cond_t (by kernel_rfl) ?_))
  refine v_seq (vr_text (o_runs 1 [(2, .nils)] (by kernel_rfl) ?_))
  refine ov_nil (nrm_thenV (v_to _ _ (cut_nilRow 2 5 9 1 rfl (by kernel_rfl) (by kernel_rfl)) ?_))
  refine v_ret (ret_thenV ?_)
  obtain rfl := si hs
  exact fin_ret (by kernel_rfl) (by kernel_rfl) (by kernel_rfl)
 ·replace hs := hs.2
  refine ov_nil (nrm_thenV (v_cond_f (by kernel_rfl) ?_))
  refine v_skip (nrm_thenV (v_seq (vr_text (o_runh 2 [(6, .vs 1 (List.map EV.encS s)), (5, .sl 1 5 0 0 0)] [(5, .row 9 1 0 (List.map EV.encS []))] (by kernel_rfl) ?_))))
  obtain ⟨_, g1, hs⟩ := bind_some hs; replace g1 := grd_some g1
  refine o_loc (F := [(5, .row 9 1 0 (List.map EV.encS []))]) (F' := [(5, .row 9 1 0 (List.map EV.encS s))]) (v := .sl 1 5 ((s).length) 0 ((s).length)) [5] (by kernel_rfl) (by kernel_rfl) rfl (by kernel_rfl) (loc_appendT (e := 9) (sz := 1) (bytes := 16) (L := 0) (els := (List.map EV.encS [])) (ys := (List.map EV.encS s)) (by kernel_rfl) (by kernel_rfl) (by first | exact List.length_map .. | rfl) (by have := Src.vs (sz := 1) (R := []) (List.map EV.encS s); exact this) (map_ones EV.encS (fun _ => rfl) _) (map_lens EV.encS (fun _ => rfl) _) (by kernel_rfl) (by first | exact (List.map_append ..).symm | rfl | simp only [List.map_nil, List.nil_append]) (List.length_map ..) g1 (by omega)) (by kernel_rfl) ?_
  refine o_runs 1 [(2, .sl 1 5 ((s).length) 0 ((s).length))] (by kernel_rfl) ?_
  refine ov_nil (nrm_thenV (v_ret ?_))
  obtain rfl := si hs
  exact fin_ret (by kernel_rfl) (by kernel_rfl) (by kernel_rfl)
theorem w_expr_Check_1_1 (t : Table) (a1_Op : Int) (a1_N : Int) (a1_S : (List UInt8)) (a1_Key : (List UInt8)) (a1_Args : (List Expr)) (r : Bool × Int × Int × (List UInt8) × (List UInt8) × (List Expr)) (hs : s_expr_Check_1_1 t a1_Op a1_N a1_S a1_Key a1_Args = some r) : FnA Try.prog 29 [.agg (enc_Table t), .ptr 1000000 0 0] [(1000000, .box 34 [.int .i64 a1_Op, .int .i64 a1_N, .str a1_S, .str a1_Key, .vs 5 (encs_Expr a1_Args)])] (.bool r.1) [(1000000, .box 34 [.int .i64 r.2.1, .int .i64 r.2.2.1, .str r.2.2.2.1, .str r.2.2.2.2.1, .vs 5 (encs_Expr r.2.2.2.2.2)])] := by
 refine fnA_of_wp (N := 9) Try.func29 rfl rfl rfl fun cK0 => ?_
 unfold s_expr_Check_1_1 at hs
 refine v_same (ρ' := [(0, .agg (enc_Table t)), (1, .ptr 1000000 0 0)]) rfl rfl ?_
 refine v_seq (vr_text (o_runh 2 [(3, .bool false), (2, .ptr 2 0 0)] [(2, .box 46 [.str t.Name, .vs 2 (List.map enc_Entry t.Rows), .int .i64 t.Else]), (1000000, .box 34 [.int .i64 a1_Op, .int .i64 a1_N, .str a1_S, .str a1_Key, .vs 5 (encs_Expr a1_Args)])] (by kernel_rfl) ?_))
 refine ov_nil (nrm_thenV (v_seq (vr_text (o_runs 6 [(3, .bool (decide (t.Name = a1_S))), (8, .bool (decide (t.Name = a1_S))), (7, .str a1_S), (6, .ptr 1000000 0 2), (5, .str t.Name), (4, .ptr 2 0 0)] (by kernel_rfl) ?_))))
 refine ov_nil (nrm_thenV (v_ret ?_))
 obtain rfl := si hs
 exact fin_ret (by kernel_rfl) (by kernel_rfl) (by kernel_rfl)
theorem w_slices_IndexFunc_4 (s : (List Table)) (t_Op : Int) (t_N : Int) (t_S : (List UInt8)) (t_Key : (List UInt8)) (t_Args : (List Expr)) (r : Int × Int × Int × (List UInt8) × (List UInt8) × (List Expr)) (hs : s_slices_IndexFunc_4 s t_Op t_N t_S t_Key t_Args = some r) : FnA Try.prog 43 [.vs 3 (List.map enc_Table s), .fn 29 [] [.ptr 1000000 0 0]] [(1000000, .box 34 [.int .i64 t_Op, .int .i64 t_N, .str t_S, .str t_Key, .vs 5 (encs_Expr t_Args)])] (.int .i64 r.1) [(1000000, .box 34 [.int .i64 r.2.1, .int .i64 r.2.2.1, .str r.2.2.2.1, .str r.2.2.2.2.1, .vs 5 (encs_Expr r.2.2.2.2.2)])] := by
 refine fnA_of_wp (N := 19) Try.func43 rfl rfl rfl fun cK0 => ?_
 unfold s_slices_IndexFunc_4 at hs
 refine v_same (ρ' := [(0, .vs 3 (List.map enc_Table s)), (1, .fn 29 [] [.ptr 1000000 0 0])]) rfl rfl ?_
 refine v_seq (vr_text (o_runs 1 [(4, .int .i64 0)] (by kernel_rfl) ?_))
 refine ov_nil (nrm_thenV (v_seq (v_seq (vr_text (o_runs 1 [(6, .vs 3 (List.map enc_Table s))] (by kernel_rfl) ?_)))))
 refine o_pure (v := .int .i64 (List.length s : Int)) (by kernel_rfl) (by kernel_rfl) (loc_lenVs (sz := 3) (els := (List.map enc_Table s)) (by kernel_rfl) (by kernel_rfl) (List.length_map ..)) ?_
 refine o_runs 1 [(8, .int .i64 0)] (by kernel_rfl) ?_
 refine ov_nil (nrm_thenV ?_)
 obtain ⟨z1, hs, hk1⟩ := bind_some hs
 refine v_join (S := Int × Int × (List UInt8) × (List UInt8) × (List Expr)) (fun u => z1 = .inr u) (fun u => []) (fun u => [(1000000, .box 34 [.int .i64 u.1, .int .i64 u.2.1, .str u.2.2.1, .str u.2.2.2.1, .vs 5 (encs_Expr u.2.2.2.2)])]) ?_ (fun v1 hz => ?_)
 ·refine v_block ?_
  refine v_fuel (S := Int × Int × Int × (List UInt8) × (List UInt8) × (List Expr)) (fun u => [(0, .vs 3 (List.map enc_Table s)), (1, .fn 29 [] [.ptr 1000000 0 0]), (7, .int .i64 (List.length s : Int)), (8, .int .i64 u.1)]) (fun u => [(1000000, .box 34 [.int .i64 u.2.1, .int .i64 u.2.2.1, .str u.2.2.2.1, .str u.2.2.2.2.1, .vs 5 (encs_Expr u.2.2.2.2.2)])]) (s_slices_IndexFunc_4_L1 s) (fun _ => rfl) KK (0, t_Op, t_N, t_S, t_Key, t_Args) hs (cut_of [0, 1, 7, 8] [1000000] (by kernel_rfl) (by kernel_rfl) (by kernel_rfl)) (fun K1 q1 hs => ?_)
  rw [s_slices_IndexFunc_4_L1] at hs
  show WpV cK0 Try.prog none 19 _ _ [(0, .vs 3 (List.map enc_Table s)), (1, .fn 29 [] [.ptr 1000000 0 0]), (7, .int .i64 (List.length s : Int)), (8, .int .i64 q1.1)] [(1000000, .box 34 [.int .i64 q1.2.1, .int .i64 q1.2.2.1, .str q1.2.2.2.1, .str q1.2.2.2.2.1, .vs 5 (encs_Expr q1.2.2.2.2.2)])] []
  refine v_seq (vr_text (o_runs 1 [(9, .bool (decide (q1.1 < (List.length s : Int))))] (by kernel_rfl) ?_))
  refine ov_nil (nrm_thenV (v_seq ?_))
  refine v_cond (decide (q1.1 < (List.length s : Int))) (by kernel_rfl) (fun h1 => ?_) (fun h1 => ?_)
  ·replace hs := bif_t h1 hs
   refine v_skip (nrm_thenV (v_seq (v_block (v_seq (vr_text (o_runs 2 [(5, .int .i64 q1.1), (10, .int .i64 q1.1)] (by kernel_rfl) ?_))))))
   refine ov_nil (nrm_thenV (v_seq (vr_text (o_runs 3 [(13, .int .i64 q1.1), (12, .vs 3 (List.map enc_Table s)), (11, .fn 29 [] [.ptr 1000000 0 0])] (by kernel_rfl) ?_))))
   obtain ⟨x1, g1, hs⟩ := bind_some hs; obtain ⟨g1a, g1b, g1c⟩ := idx_some g1
   refine o_pure (v := .vp (enc_Table x1) 0) (by kernel_rfl) (by kernel_rfl) (loc_indexVs (e := 46) (sz := 3) (k := .i64) (els := (List.map enc_Table s)) (cs := (enc_Table x1)) (by kernel_rfl) (by kernel_rfl) (by kernel_rfl) g1a (by rw [g1c]; exact map_get _ (by omega))) ?_
   refine o_runs 1 [(15, .agg (enc_Table x1))] (by kernel_rfl) ?_
   obtain ⟨y1, c1, hs⟩ := bind_some hs
   refine o_loc (F := [(1000000, .box 34 [.int .i64 q1.2.1, .int .i64 q1.2.2.1, .str q1.2.2.2.1, .str q1.2.2.2.2.1, .vs 5 (encs_Expr q1.2.2.2.2.2)])]) (F' := [(1000000, .box 34 [.int .i64 y1.2.1, .int .i64 y1.2.2.1, .str y1.2.2.2.1, .str y1.2.2.2.2.1, .vs 5 (encs_Expr y1.2.2.2.2.2)])]) (v := .bool y1.1) [1000000] (by kernel_rfl) (by kernel_rfl) rfl (by kernel_rfl) (loc_g (R := []) [.agg (enc_Table x1), .ptr 1000000 0 0] [(1000000, 1000000)] (callV_val (first := []) (caps := [.ptr 1000000 0 0]) hbv29 (by kernel_rfl) (by kernel_rfl)) (w_expr_Check_1_1 x1 q1.2.1 q1.2.2.1 q1.2.2.2.1 q1.2.2.2.2.1 q1.2.2.2.2.2 _ c1) (.cons (.same _) (.cons (.same _) (.nil))) (by kernel_rfl) (by kernel_rfl) (by kernel_rfl) (by kernel_rfl) (by kernel_rfl) (by kernel_rfl) (by kernel_rfl) (by kernel_rfl)) (by kernel_rfl) ?_
   refine ov_nil (nrm_thenV ?_)
   refine v_cond y1.1 (by kernel_rfl) (fun h2 => ?_) (fun h2 => ?_)
   ·replace hs := bif_t h2 hs
    refine v_seq (vr_text (o_runs 2 [(4, .int .i64 q1.1), (17, .int .i64 q1.1)] (by kernel_rfl) ?_))
    refine ov_nil (nrm_thenV (v_ret (ret_blkV (ret_thenV (ret_fuel ?_)))))
    refine ret_blkV (ret_join ?_)
    refine ret_thenV ?_
    obtain rfl := si hs
    replace hs := hk1
    obtain rfl := si hs
    exact fin_ret (by kernel_rfl) (by kernel_rfl) (by kernel_rfl)
   ·replace hs := bif_f h2 hs
    refine v_skip (nrm_blkV (nrm_thenV (vr_text (o_runs 2 [(8, .int .i64 (w64 (q1.1 + 1))), (18, .int .i64 (w64 (q1.1 + 1)))] (by kernel_rfl) ?_))))
    refine ov_nil (nrm_fuel ((w64 (q1.1 + 1)), y1.2.1, y1.2.2.1, y1.2.2.2.1, y1.2.2.2.2.1, y1.2.2.2.2.2) hs ?_)
    exact cut_of [0, 1, 7, 8] [1000000] (by kernel_rfl) (by kernel_rfl) (by kernel_rfl)
  ·replace hs := bif_f h1 hs
   refine v_exit (exit_thenV (exit_fuel ?_))
   refine exit_blkV ?_
   obtain rfl := si hs
   refine nrm_join (q1.2.1, q1.2.2.1, q1.2.2.2.1, q1.2.2.2.2.1, q1.2.2.2.2.2) rfl ?_
   exact cut_of [] [1000000] (by kernel_rfl) (by kernel_rfl) (by kernel_rfl)
 ·subst hz; clear hs; have hs := hk1; clear hk1
  refine nrm_thenV (v_seq (vr_text (o_runs 1 [(4, .int .i64 (-1))] (by kernel_rfl) ?_)))
  refine ov_nil (nrm_thenV (v_ret ?_))
  obtain rfl := si hs
  exact fin_ret (by kernel_rfl) (by kernel_rfl) (by kernel_rfl)
theorem w_slices_ContainsFunc_2 (s : (List Table)) (t_Op : Int) (t_N : Int) (t_S : (List UInt8)) (t_Key : (List UInt8)) (t_Args : (List Expr)) (r : Bool × Int × Int × (List UInt8) × (List UInt8) × (List Expr)) (hs : s_slices_ContainsFunc_2 s t_Op t_N t_S t_Key t_Args = some r) : FnA Try.prog 28 [.vs 3 (List.map enc_Table s), .fn 29 [] [.ptr 1000000 0 0]] [(1000000, .box 34 [.int .i64 t_Op, .int .i64 t_N, .str t_S, .str t_Key, .vs 5 (encs_Expr t_Args)])] (.bool r.1) [(1000000, .box 34 [.int .i64 r.2.1, .int .i64 r.2.2.1, .str r.2.2.2.1, .str r.2.2.2.2.1, .vs 5 (encs_Expr r.2.2.2.2.2)])] := by
 refine fnA_of_wp (N := 9) Try.func28 rfl rfl rfl fun cK0 => ?_
 unfold s_slices_ContainsFunc_2 at hs
 refine v_same (ρ' := [(0, .vs 3 (List.map enc_Table s)), (1, .fn 29 [] [.ptr 1000000 0 0])]) rfl rfl ?_
 refine v_seq (vr_text (o_runs 1 [(4, .bool false)] (by kernel_rfl) ?_))
 refine ov_nil (nrm_thenV (v_seq (vr_text (o_runs 2 [(6, .fn 29 [] [.ptr 1000000 0 0]), (5, .vs 3 (List.map enc_Table s))] (by kernel_rfl) ?_))))
 obtain ⟨y1, c1, hs⟩ := bind_some hs
 refine o_loc (F := [(1000000, .box 34 [.int .i64 t_Op, .int .i64 t_N, .str t_S, .str t_Key, .vs 5 (encs_Expr t_Args)])]) (F' := [(1000000, .box 34 [.int .i64 y1.2.1, .int .i64 y1.2.2.1, .str y1.2.2.2.1, .str y1.2.2.2.2.1, .vs 5 (encs_Expr y1.2.2.2.2.2)])]) (v := .int .i64 y1.1) [1000000] (by kernel_rfl) (by kernel_rfl) rfl (by kernel_rfl) (loc_g (R := []) [.vs 3 (List.map enc_Table s), .fn 29 [] [.ptr 1000000 0 0]] [(1000000, 1000000)] (callV_func hbv43 (by kernel_rfl)) (w_slices_IndexFunc_4 s t_Op t_N t_S t_Key t_Args _ c1) (.cons (.same _) (.cons (.same _) (.nil))) (by kernel_rfl) (by kernel_rfl) (by kernel_rfl) (by kernel_rfl) (by kernel_rfl) (by kernel_rfl) (by kernel_rfl) (by kernel_rfl)) (by kernel_rfl) ?_
 refine o_runs 2 [(4, .bool (decide (y1.1 ≥ 0))), (8, .bool (decide (y1.1 ≥ 0)))] (by kernel_rfl) ?_
 refine ov_nil (nrm_thenV (v_ret ?_))
 obtain rfl := si hs
 exact fin_ret (by kernel_rfl) (by kernel_rfl) (by kernel_rfl)
theorem w_expr_Check_1_2 (z : Zone) (a1_Op : Int) (a1_N : Int) (a1_S : (List UInt8)) (a1_Key : (List UInt8)) (a1_Args : (List Expr)) (r : Bool × Int × Int × (List UInt8) × (List UInt8) × (List Expr)) (hs : s_expr_Check_1_2 z a1_Op a1_N a1_S a1_Key a1_Args = some r) : FnA Try.prog 31 [.agg (enc_Zone z), .ptr 1000000 0 0] [(1000000, .box 34 [.int .i64 a1_Op, .int .i64 a1_N, .str a1_S, .str a1_Key, .vs 5 (encs_Expr a1_Args)])] (.bool r.1) [(1000000, .box 34 [.int .i64 r.2.1, .int .i64 r.2.2.1, .str r.2.2.2.1, .str r.2.2.2.2.1, .vs 5 (encs_Expr r.2.2.2.2.2)])] := by
 refine fnA_of_wp (N := 9) Try.func31 rfl rfl rfl fun cK0 => ?_
 unfold s_expr_Check_1_2 at hs
 refine v_same (ρ' := [(0, .agg (enc_Zone z)), (1, .ptr 1000000 0 0)]) rfl rfl ?_
 refine v_seq (vr_text (o_runh 2 [(3, .bool false), (2, .ptr 2 0 0)] [(2, .box 60 [.str z.Name, .bool z.Overlay, .vs 2 (List.map enc_Point z.Corners)]), (1000000, .box 34 [.int .i64 a1_Op, .int .i64 a1_N, .str a1_S, .str a1_Key, .vs 5 (encs_Expr a1_Args)])] (by kernel_rfl) ?_))
 refine ov_nil (nrm_thenV (v_seq (vr_text (o_runs 6 [(3, .bool (decide (z.Name = a1_S))), (8, .bool (decide (z.Name = a1_S))), (7, .str a1_S), (6, .ptr 1000000 0 2), (5, .str z.Name), (4, .ptr 2 0 0)] (by kernel_rfl) ?_))))
 refine ov_nil (nrm_thenV (v_ret ?_))
 obtain rfl := si hs
 exact fin_ret (by kernel_rfl) (by kernel_rfl) (by kernel_rfl)
theorem w_slices_IndexFunc_5 (s : (List Zone)) (z_Op : Int) (z_N : Int) (z_S : (List UInt8)) (z_Key : (List UInt8)) (z_Args : (List Expr)) (r : Int × Int × Int × (List UInt8) × (List UInt8) × (List Expr)) (hs : s_slices_IndexFunc_5 s z_Op z_N z_S z_Key z_Args = some r) : FnA Try.prog 44 [.vs 3 (List.map enc_Zone s), .fn 31 [] [.ptr 1000000 0 0]] [(1000000, .box 34 [.int .i64 z_Op, .int .i64 z_N, .str z_S, .str z_Key, .vs 5 (encs_Expr z_Args)])] (.int .i64 r.1) [(1000000, .box 34 [.int .i64 r.2.1, .int .i64 r.2.2.1, .str r.2.2.2.1, .str r.2.2.2.2.1, .vs 5 (encs_Expr r.2.2.2.2.2)])] := by
 refine fnA_of_wp (N := 19) Try.func44 rfl rfl rfl fun cK0 => ?_
 unfold s_slices_IndexFunc_5 at hs
 refine v_same (ρ' := [(0, .vs 3 (List.map enc_Zone s)), (1, .fn 31 [] [.ptr 1000000 0 0])]) rfl rfl ?_
 refine v_seq (vr_text (o_runs 1 [(4, .int .i64 0)] (by kernel_rfl) ?_))
 refine ov_nil (nrm_thenV (v_seq (v_seq (vr_text (o_runs 1 [(6, .vs 3 (List.map enc_Zone s))] (by kernel_rfl) ?_)))))
 refine o_pure (v := .int .i64 (List.length s : Int)) (by kernel_rfl) (by kernel_rfl) (loc_lenVs (sz := 3) (els := (List.map enc_Zone s)) (by kernel_rfl) (by kernel_rfl) (List.length_map ..)) ?_
 refine o_runs 1 [(8, .int .i64 0)] (by kernel_rfl) ?_
 refine ov_nil (nrm_thenV ?_)
 obtain ⟨z1, hs, hk1⟩ := bind_some hs
 refine v_join (S := Int × Int × (List UInt8) × (List UInt8) × (List Expr)) (fun u => z1 = .inr u) (fun u => []) (fun u => [(1000000, .box 34 [.int .i64 u.1, .int .i64 u.2.1, .str u.2.2.1, .str u.2.2.2.1, .vs 5 (encs_Expr u.2.2.2.2)])]) ?_ (fun v1 hz => ?_)
 ·refine v_block ?_
  refine v_fuel (S := Int × Int × Int × (List UInt8) × (List UInt8) × (List Expr)) (fun u => [(0, .vs 3 (List.map enc_Zone s)), (1, .fn 31 [] [.ptr 1000000 0 0]), (7, .int .i64 (List.length s : Int)), (8, .int .i64 u.1)]) (fun u => [(1000000, .box 34 [.int .i64 u.2.1, .int .i64 u.2.2.1, .str u.2.2.2.1, .str u.2.2.2.2.1, .vs 5 (encs_Expr u.2.2.2.2.2)])]) (s_slices_IndexFunc_5_L1 s) (fun _ => rfl) KK (0, z_Op, z_N, z_S, z_Key, z_Args) hs (cut_of [0, 1, 7, 8] [1000000] (by kernel_rfl) (by kernel_rfl) (by kernel_rfl)) (fun K1 q1 hs => ?_)
  rw [s_slices_IndexFunc_5_L1] at hs
  show WpV cK0 Try.prog none 19 _ _ [(0, .vs 3 (List.map enc_Zone s)), (1, .fn 31 [] [.ptr 1000000 0 0]), (7, .int .i64 (List.length s : Int)), (8, .int .i64 q1.1)] [(1000000, .box 34 [.int .i64 q1.2.1, .int .i64 q1.2.2.1, .str q1.2.2.2.1, .str q1.2.2.2.2.1, .vs 5 (encs_Expr q1.2.2.2.2.2)])] []
  refine v_seq (vr_text (o_runs 1 [(9, .bool (decide (q1.1 < (List.length s : Int))))] (by kernel_rfl) ?_))
  refine ov_nil (nrm_thenV (v_seq ?_))
  refine v_cond (decide (q1.1 < (List.length s : Int))) (by kernel_rfl) (fun h1 => ?_) (fun h1 => ?_)
  ·replace hs := bif_t h1 hs
   refine v_skip (nrm_thenV (v_seq (v_block (v_seq (vr_text (o_runs 2 [(5, .int .i64 q1.1), (10, .int .i64 q1.1)] (by kernel_rfl) ?_))))))
   refine ov_nil (nrm_thenV (v_seq (vr_text (o_runs 3 [(13, .int .i64 q1.1), (12, .vs 3 (List.map enc_Zone s)), (11, .fn 31 [] [.ptr 1000000 0 0])] (by kernel_rfl) ?_))))
   obtain ⟨x1, g1, hs⟩ := bind_some hs; obtain ⟨g1a, g1b, g1c⟩ := idx_some g1
   refine o_pure (v := .vp (enc_Zone x1) 0) (by kernel_rfl) (by kernel_rfl) (loc_indexVs (e := 60) (sz := 3) (k := .i64) (els := (List.map enc_Zone s)) (cs := (enc_Zone x1)) (by kernel_rfl) (by kernel_rfl) (by kernel_rfl) g1a (by rw [g1c]; exact map_get _ (by omega))) ?_
   refine o_runs 1 [(15, .agg (enc_Zone x1))] (by kernel_rfl) ?_
   obtain ⟨y1, c1, hs⟩ := bind_some hs
   refine o_loc (F := [(1000000, .box 34 [.int .i64 q1.2.1, .int .i64 q1.2.2.1, .str q1.2.2.2.1, .str q1.2.2.2.2.1, .vs 5 (encs_Expr q1.2.2.2.2.2)])]) (F' := [(1000000, .box 34 [.int .i64 y1.2.1, .int .i64 y1.2.2.1, .str y1.2.2.2.1, .str y1.2.2.2.2.1, .vs 5 (encs_Expr y1.2.2.2.2.2)])]) (v := .bool y1.1) [1000000] (by kernel_rfl) (by kernel_rfl) rfl (by kernel_rfl) (loc_g (R := []) [.agg (enc_Zone x1), .ptr 1000000 0 0] [(1000000, 1000000)] (callV_val (first := []) (caps := [.ptr 1000000 0 0]) hbv31 (by kernel_rfl) (by kernel_rfl)) (w_expr_Check_1_2 x1 q1.2.1 q1.2.2.1 q1.2.2.2.1 q1.2.2.2.2.1 q1.2.2.2.2.2 _ c1) (.cons (.same _) (.cons (.same _) (.nil))) (by kernel_rfl) (by kernel_rfl) (by kernel_rfl) (by kernel_rfl) (by kernel_rfl) (by kernel_rfl) (by kernel_rfl) (by kernel_rfl)) (by kernel_rfl) ?_
   refine ov_nil (nrm_thenV ?_)
   refine v_cond y1.1 (by kernel_rfl) (fun h2 => ?_) (fun h2 => ?_)
   ·replace hs := bif_t h2 hs
    refine v_seq (vr_text (o_runs 2 [(4, .int .i64 q1.1), (17, .int .i64 q1.1)] (by kernel_rfl) ?_))
    refine ov_nil (nrm_thenV (v_ret (ret_blkV (ret_thenV (ret_fuel ?_)))))
    refine ret_blkV (ret_join ?_)
    refine ret_thenV ?_
    obtain rfl := si hs
    replace hs := hk1
    obtain rfl := si hs
    exact fin_ret (by kernel_rfl) (by kernel_rfl) (by kernel_rfl)
   ·replace hs := bif_f h2 hs
    refine v_skip (nrm_blkV (nrm_thenV (vr_text (o_runs 2 [(8, .int .i64 (w64 (q1.1 + 1))), (18, .int .i64 (w64 (q1.1 + 1)))] (by kernel_rfl) ?_))))
    refine ov_nil (nrm_fuel ((w64 (q1.1 + 1)), y1.2.1, y1.2.2.1, y1.2.2.2.1, y1.2.2.2.2.1, y1.2.2.2.2.2) hs ?_)
    exact cut_of [0, 1, 7, 8] [1000000] (by kernel_rfl) (by kernel_rfl) (by kernel_rfl)
  ·replace hs := bif_f h1 hs
   refine v_exit (exit_thenV (exit_fuel ?_))
   refine exit_blkV ?_
   obtain rfl := si hs
   refine nrm_join (q1.2.1, q1.2.2.1, q1.2.2.2.1, q1.2.2.2.2.1, q1.2.2.2.2.2) rfl ?_
   exact cut_of [] [1000000] (by kernel_rfl) (by kernel_rfl) (by kernel_rfl)
 ·subst hz; clear hs; have hs := hk1; clear hk1
  refine nrm_thenV (v_seq (vr_text (o_runs 1 [(4, .int .i64 (-1))] (by kernel_rfl) ?_)))
  refine ov_nil (nrm_thenV (v_ret ?_))
  obtain rfl := si hs
  exact fin_ret (by kernel_rfl) (by kernel_rfl) (by kernel_rfl)
theorem w_slices_ContainsFunc_3 (s : (List Zone)) (z_Op : Int) (z_N : Int) (z_S : (List UInt8)) (z_Key : (List UInt8)) (z_Args : (List Expr)) (r : Bool × Int × Int × (List UInt8) × (List UInt8) × (List Expr)) (hs : s_slices_ContainsFunc_3 s z_Op z_N z_S z_Key z_Args = some r) : FnA Try.prog 30 [.vs 3 (List.map enc_Zone s), .fn 31 [] [.ptr 1000000 0 0]] [(1000000, .box 34 [.int .i64 z_Op, .int .i64 z_N, .str z_S, .str z_Key, .vs 5 (encs_Expr z_Args)])] (.bool r.1) [(1000000, .box 34 [.int .i64 r.2.1, .int .i64 r.2.2.1, .str r.2.2.2.1, .str r.2.2.2.2.1, .vs 5 (encs_Expr r.2.2.2.2.2)])] := by
 refine fnA_of_wp (N := 9) Try.func30 rfl rfl rfl fun cK0 => ?_
 unfold s_slices_ContainsFunc_3 at hs
 refine v_same (ρ' := [(0, .vs 3 (List.map enc_Zone s)), (1, .fn 31 [] [.ptr 1000000 0 0])]) rfl rfl ?_
 refine v_seq (vr_text (o_runs 1 [(4, .bool false)] (by kernel_rfl) ?_))
 refine ov_nil (nrm_thenV (v_seq (vr_text (o_runs 2 [(6, .fn 31 [] [.ptr 1000000 0 0]), (5, .vs 3 (List.map enc_Zone s))] (by kernel_rfl) ?_))))
 obtain ⟨y1, c1, hs⟩ := bind_some hs
 refine o_loc (F := [(1000000, .box 34 [.int .i64 z_Op, .int .i64 z_N, .str z_S, .str z_Key, .vs 5 (encs_Expr z_Args)])]) (F' := [(1000000, .box 34 [.int .i64 y1.2.1, .int .i64 y1.2.2.1, .str y1.2.2.2.1, .str y1.2.2.2.2.1, .vs 5 (encs_Expr y1.2.2.2.2.2)])]) (v := .int .i64 y1.1) [1000000] (by kernel_rfl) (by kernel_rfl) rfl (by kernel_rfl) (loc_g (R := []) [.vs 3 (List.map enc_Zone s), .fn 31 [] [.ptr 1000000 0 0]] [(1000000, 1000000)] (callV_func hbv44 (by kernel_rfl)) (w_slices_IndexFunc_5 s z_Op z_N z_S z_Key z_Args _ c1) (.cons (.same _) (.cons (.same _) (.nil))) (by kernel_rfl) (by kernel_rfl) (by kernel_rfl) (by kernel_rfl) (by kernel_rfl) (by kernel_rfl) (by kernel_rfl) (by kernel_rfl)) (by kernel_rfl) ?_
 refine o_runs 2 [(4, .bool (decide (y1.1 ≥ 0))), (8, .bool (decide (y1.1 ≥ 0)))] (by kernel_rfl) ?_
 refine ov_nil (nrm_thenV (v_ret ?_))
 obtain rfl := si hs
 exact fin_ret (by kernel_rfl) (by kernel_rfl) (by kernel_rfl)
theorem ws_slices_IndexFunc_6 (nF : Nat) (ih_slices_IndexFunc_6 : ∀ (s : (List Expr)) (c_2 : (List (List UInt8))) (c_1_Defs : (List Def)) (c_1_Tables : (List Table)) (c_1_Zones : (List Zone)) (c_1_Rules : (List Rule)) (c_1_Caps : (List Cap)) (c_1_Views : (List View)) (c_1_Sun : (List Point3)) (c_1_Hours : Int) (r : Int × (List (List UInt8)) × (List Def) × (List Table) × (List Zone) × (List Rule) × (List Cap) × (List View) × (List Point3) × Int), s_slices_IndexFunc_6 nF s c_2 c_1_Defs c_1_Tables c_1_Zones c_1_Rules c_1_Caps c_1_Views c_1_Sun c_1_Hours = some r → FnA Try.prog 45 [.vs 5 (encs_Expr s), .fn 26 [] [.ptr 1000000 0 0, .ptr 1000002 0 0, .ptr 1000003 0 0]] [(1000000, .box 40 [.sl 1 1000001 ((c_2).length) 0 ((c_2).length)]), (1000001, .row 9 1 0 (List.map EV.encS c_2)), (1000002, .box 31 [.vs 6 (List.map enc_Def c_1_Defs), .vs 3 (List.map enc_Table c_1_Tables), .vs 3 (List.map enc_Zone c_1_Zones), .vs 20 (List.map enc_Rule c_1_Rules), .vs 4 (List.map enc_Cap c_1_Caps), .vs 6 (List.map enc_View c_1_Views), .vs 3 (List.map enc_Point3 c_1_Sun), .int .i64 c_1_Hours]), (1000003, .box 42 [.fn 26 [] [.ptr 1000000 0 0, .ptr 1000002 0 0, .ptr 1000003 0 0]])] (.int .i64 r.1) [(1000001, .row 9 1 0 (List.map EV.encS r.2.1)), (1000000, .box 40 [.sl 1 1000001 ((r.2.1).length) 0 ((r.2.1).length)]), (1000002, .box 31 [.vs 6 (List.map enc_Def r.2.2.1), .vs 3 (List.map enc_Table r.2.2.2.1), .vs 3 (List.map enc_Zone r.2.2.2.2.1), .vs 20 (List.map enc_Rule r.2.2.2.2.2.1), .vs 4 (List.map enc_Cap r.2.2.2.2.2.2.1), .vs 6 (List.map enc_View r.2.2.2.2.2.2.2.1), .vs 3 (List.map enc_Point3 r.2.2.2.2.2.2.2.2.1), .int .i64 r.2.2.2.2.2.2.2.2.2]), (1000003, .box 42 [.fn 26 [] [.ptr 1000000 0 0, .ptr 1000002 0 0, .ptr 1000003 0 0]])]) (ih_slices_ContainsFunc_4 : ∀ (s : (List Expr)) (c_2 : (List (List UInt8))) (c_1_Defs : (List Def)) (c_1_Tables : (List Table)) (c_1_Zones : (List Zone)) (c_1_Rules : (List Rule)) (c_1_Caps : (List Cap)) (c_1_Views : (List View)) (c_1_Sun : (List Point3)) (c_1_Hours : Int) (r : Bool × (List (List UInt8)) × (List Def) × (List Table) × (List Zone) × (List Rule) × (List Cap) × (List View) × (List Point3) × Int), s_slices_ContainsFunc_4 nF s c_2 c_1_Defs c_1_Tables c_1_Zones c_1_Rules c_1_Caps c_1_Views c_1_Sun c_1_Hours = some r → FnA Try.prog 32 [.vs 5 (encs_Expr s), .fn 26 [] [.ptr 1000000 0 0, .ptr 1000002 0 0, .ptr 1000003 0 0]] [(1000000, .box 40 [.sl 1 1000001 ((c_2).length) 0 ((c_2).length)]), (1000001, .row 9 1 0 (List.map EV.encS c_2)), (1000002, .box 31 [.vs 6 (List.map enc_Def c_1_Defs), .vs 3 (List.map enc_Table c_1_Tables), .vs 3 (List.map enc_Zone c_1_Zones), .vs 20 (List.map enc_Rule c_1_Rules), .vs 4 (List.map enc_Cap c_1_Caps), .vs 6 (List.map enc_View c_1_Views), .vs 3 (List.map enc_Point3 c_1_Sun), .int .i64 c_1_Hours]), (1000003, .box 42 [.fn 26 [] [.ptr 1000000 0 0, .ptr 1000002 0 0, .ptr 1000003 0 0]])] (.bool r.1) [(1000001, .row 9 1 0 (List.map EV.encS r.2.1)), (1000000, .box 40 [.sl 1 1000001 ((r.2.1).length) 0 ((r.2.1).length)]), (1000002, .box 31 [.vs 6 (List.map enc_Def r.2.2.1), .vs 3 (List.map enc_Table r.2.2.2.1), .vs 3 (List.map enc_Zone r.2.2.2.2.1), .vs 20 (List.map enc_Rule r.2.2.2.2.2.1), .vs 4 (List.map enc_Cap r.2.2.2.2.2.2.1), .vs 6 (List.map enc_View r.2.2.2.2.2.2.2.1), .vs 3 (List.map enc_Point3 r.2.2.2.2.2.2.2.2.1), .int .i64 r.2.2.2.2.2.2.2.2.2]), (1000003, .box 42 [.fn 26 [] [.ptr 1000000 0 0, .ptr 1000002 0 0, .ptr 1000003 0 0]])]) (ih_expr_Check_1 : ∀ (e : Expr) (a1 : (List (List UInt8))) (a2_Defs : (List Def)) (a2_Tables : (List Table)) (a2_Zones : (List Zone)) (a2_Rules : (List Rule)) (a2_Caps : (List Cap)) (a2_Views : (List View)) (a2_Sun : (List Point3)) (a2_Hours : Int) (r : Bool × (List (List UInt8)) × (List Def) × (List Table) × (List Zone) × (List Rule) × (List Cap) × (List View) × (List Point3) × Int), s_expr_Check_1 nF e a1 a2_Defs a2_Tables a2_Zones a2_Rules a2_Caps a2_Views a2_Sun a2_Hours = some r → FnA Try.prog 26 [.agg (enc_Expr e), .ptr 1000000 0 0, .ptr 1000002 0 0, .ptr 1000003 0 0] [(1000000, .box 40 [.sl 1 1000001 ((a1).length) 0 ((a1).length)]), (1000001, .row 9 1 0 (List.map EV.encS a1)), (1000002, .box 31 [.vs 6 (List.map enc_Def a2_Defs), .vs 3 (List.map enc_Table a2_Tables), .vs 3 (List.map enc_Zone a2_Zones), .vs 20 (List.map enc_Rule a2_Rules), .vs 4 (List.map enc_Cap a2_Caps), .vs 6 (List.map enc_View a2_Views), .vs 3 (List.map enc_Point3 a2_Sun), .int .i64 a2_Hours]), (1000003, .box 42 [.fn 26 [] [.ptr 1000000 0 0, .ptr 1000002 0 0, .ptr 1000003 0 0]])] (.bool r.1) [(1000001, .row 9 1 0 (List.map EV.encS r.2.1)), (1000000, .box 40 [.sl 1 1000001 ((r.2.1).length) 0 ((r.2.1).length)]), (1000002, .box 31 [.vs 6 (List.map enc_Def r.2.2.1), .vs 3 (List.map enc_Table r.2.2.2.1), .vs 3 (List.map enc_Zone r.2.2.2.2.1), .vs 20 (List.map enc_Rule r.2.2.2.2.2.1), .vs 4 (List.map enc_Cap r.2.2.2.2.2.2.1), .vs 6 (List.map enc_View r.2.2.2.2.2.2.2.1), .vs 3 (List.map enc_Point3 r.2.2.2.2.2.2.2.2.1), .int .i64 r.2.2.2.2.2.2.2.2.2]), (1000003, .box 42 [.fn 26 [] [.ptr 1000000 0 0, .ptr 1000002 0 0, .ptr 1000003 0 0]])]) (s : (List Expr)) (c_2 : (List (List UInt8))) (c_1_Defs : (List Def)) (c_1_Tables : (List Table)) (c_1_Zones : (List Zone)) (c_1_Rules : (List Rule)) (c_1_Caps : (List Cap)) (c_1_Views : (List View)) (c_1_Sun : (List Point3)) (c_1_Hours : Int) (r : Int × (List (List UInt8)) × (List Def) × (List Table) × (List Zone) × (List Rule) × (List Cap) × (List View) × (List Point3) × Int) (hs : s_slices_IndexFunc_6 (nF + 1) s c_2 c_1_Defs c_1_Tables c_1_Zones c_1_Rules c_1_Caps c_1_Views c_1_Sun c_1_Hours = some r) : FnA Try.prog 45 [.vs 5 (encs_Expr s), .fn 26 [] [.ptr 1000000 0 0, .ptr 1000002 0 0, .ptr 1000003 0 0]] [(1000000, .box 40 [.sl 1 1000001 ((c_2).length) 0 ((c_2).length)]), (1000001, .row 9 1 0 (List.map EV.encS c_2)), (1000002, .box 31 [.vs 6 (List.map enc_Def c_1_Defs), .vs 3 (List.map enc_Table c_1_Tables), .vs 3 (List.map enc_Zone c_1_Zones), .vs 20 (List.map enc_Rule c_1_Rules), .vs 4 (List.map enc_Cap c_1_Caps), .vs 6 (List.map enc_View c_1_Views), .vs 3 (List.map enc_Point3 c_1_Sun), .int .i64 c_1_Hours]), (1000003, .box 42 [.fn 26 [] [.ptr 1000000 0 0, .ptr 1000002 0 0, .ptr 1000003 0 0]])] (.int .i64 r.1) [(1000001, .row 9 1 0 (List.map EV.encS r.2.1)), (1000000, .box 40 [.sl 1 1000001 ((r.2.1).length) 0 ((r.2.1).length)]), (1000002, .box 31 [.vs 6 (List.map enc_Def r.2.2.1), .vs 3 (List.map enc_Table r.2.2.2.1), .vs 3 (List.map enc_Zone r.2.2.2.2.1), .vs 20 (List.map enc_Rule r.2.2.2.2.2.1), .vs 4 (List.map enc_Cap r.2.2.2.2.2.2.1), .vs 6 (List.map enc_View r.2.2.2.2.2.2.2.1), .vs 3 (List.map enc_Point3 r.2.2.2.2.2.2.2.2.1), .int .i64 r.2.2.2.2.2.2.2.2.2]), (1000003, .box 42 [.fn 26 [] [.ptr 1000000 0 0, .ptr 1000002 0 0, .ptr 1000003 0 0]])] := by
 refine fnA_of_wp (N := 19) Try.func45 rfl rfl rfl fun cK0 => ?_
 rw [s_slices_IndexFunc_6] at hs
 refine v_same (ρ' := [(0, .vs 5 (encs_Expr s)), (1, .fn 26 [] [.ptr 1000000 0 0, .ptr 1000002 0 0, .ptr 1000003 0 0])]) rfl rfl ?_
 refine v_seq (vr_text (o_runs 1 [(4, .int .i64 0)] (by kernel_rfl) ?_))
 refine ov_nil (nrm_thenV (v_seq (v_seq (vr_text (o_runs 1 [(6, .vs 5 (encs_Expr s))] (by kernel_rfl) ?_)))))
 refine o_pure (v := .int .i64 (List.length s : Int)) (by kernel_rfl) (by kernel_rfl) (loc_lenVs (sz := 5) (els := (encs_Expr s)) (by kernel_rfl) (by kernel_rfl) (by rw [encs_Expr_eq, List.length_map])) ?_
 refine o_runs 1 [(8, .int .i64 0)] (by kernel_rfl) ?_
 refine ov_nil (nrm_thenV ?_)
 obtain ⟨z1, hs, hk1⟩ := bind_some hs
 refine v_join (S := (List (List UInt8)) × (List Def) × (List Table) × (List Zone) × (List Rule) × (List Cap) × (List View) × (List Point3) × Int) (fun u => z1 = .inr u) (fun u => []) (fun u => [(1000000, .box 40 [.sl 1 1000001 ((u.1).length) 0 ((u.1).length)]), (1000001, .row 9 1 0 (List.map EV.encS u.1)), (1000002, .box 31 [.vs 6 (List.map enc_Def u.2.1), .vs 3 (List.map enc_Table u.2.2.1), .vs 3 (List.map enc_Zone u.2.2.2.1), .vs 20 (List.map enc_Rule u.2.2.2.2.1), .vs 4 (List.map enc_Cap u.2.2.2.2.2.1), .vs 6 (List.map enc_View u.2.2.2.2.2.2.1), .vs 3 (List.map enc_Point3 u.2.2.2.2.2.2.2.1), .int .i64 u.2.2.2.2.2.2.2.2]), (1000003, .box 42 [.fn 26 [] [.ptr 1000000 0 0, .ptr 1000002 0 0, .ptr 1000003 0 0]])]) ?_ (fun v1 hz => ?_)
 ·refine v_block ?_
  refine v_fuel (S := Int × (List (List UInt8)) × (List Def) × (List Table) × (List Zone) × (List Rule) × (List Cap) × (List View) × (List Point3) × Int) (fun u => [(0, .vs 5 (encs_Expr s)), (1, .fn 26 [] [.ptr 1000000 0 0, .ptr 1000002 0 0, .ptr 1000003 0 0]), (7, .int .i64 (List.length s : Int)), (8, .int .i64 u.1)]) (fun u => [(1000000, .box 40 [.sl 1 1000001 ((u.2.1).length) 0 ((u.2.1).length)]), (1000001, .row 9 1 0 (List.map EV.encS u.2.1)), (1000002, .box 31 [.vs 6 (List.map enc_Def u.2.2.1), .vs 3 (List.map enc_Table u.2.2.2.1), .vs 3 (List.map enc_Zone u.2.2.2.2.1), .vs 20 (List.map enc_Rule u.2.2.2.2.2.1), .vs 4 (List.map enc_Cap u.2.2.2.2.2.2.1), .vs 6 (List.map enc_View u.2.2.2.2.2.2.2.1), .vs 3 (List.map enc_Point3 u.2.2.2.2.2.2.2.2.1), .int .i64 u.2.2.2.2.2.2.2.2.2]), (1000003, .box 42 [.fn 26 [] [.ptr 1000000 0 0, .ptr 1000002 0 0, .ptr 1000003 0 0]])]) (s_slices_IndexFunc_6_L1 (s_expr_Check_1 nF) s) (fun _ => rfl) KK (0, c_2, c_1_Defs, c_1_Tables, c_1_Zones, c_1_Rules, c_1_Caps, c_1_Views, c_1_Sun, c_1_Hours) hs (cut_of [0, 1, 7, 8] [1000000, 1000001, 1000002, 1000003] (by kernel_rfl) (by kernel_rfl) (by kernel_rfl)) (fun K1 q1 hs => ?_)
  rw [s_slices_IndexFunc_6_L1] at hs
  show WpV cK0 Try.prog none 19 _ _ [(0, .vs 5 (encs_Expr s)), (1, .fn 26 [] [.ptr 1000000 0 0, .ptr 1000002 0 0, .ptr 1000003 0 0]), (7, .int .i64 (List.length s : Int)), (8, .int .i64 q1.1)] [(1000000, .box 40 [.sl 1 1000001 ((q1.2.1).length) 0 ((q1.2.1).length)]), (1000001, .row 9 1 0 (List.map EV.encS q1.2.1)), (1000002, .box 31 [.vs 6 (List.map enc_Def q1.2.2.1), .vs 3 (List.map enc_Table q1.2.2.2.1), .vs 3 (List.map enc_Zone q1.2.2.2.2.1), .vs 20 (List.map enc_Rule q1.2.2.2.2.2.1), .vs 4 (List.map enc_Cap q1.2.2.2.2.2.2.1), .vs 6 (List.map enc_View q1.2.2.2.2.2.2.2.1), .vs 3 (List.map enc_Point3 q1.2.2.2.2.2.2.2.2.1), .int .i64 q1.2.2.2.2.2.2.2.2.2]), (1000003, .box 42 [.fn 26 [] [.ptr 1000000 0 0, .ptr 1000002 0 0, .ptr 1000003 0 0]])] []
  refine v_seq (vr_text (o_runs 1 [(9, .bool (decide (q1.1 < (List.length s : Int))))] (by kernel_rfl) ?_))
  refine ov_nil (nrm_thenV (v_seq ?_))
  refine v_cond (decide (q1.1 < (List.length s : Int))) (by kernel_rfl) (fun h1 => ?_) (fun h1 => ?_)
  ·replace hs := bif_t h1 hs
   refine v_skip (nrm_thenV (v_seq (v_block (v_seq (vr_text (o_runs 2 [(5, .int .i64 q1.1), (10, .int .i64 q1.1)] (by kernel_rfl) ?_))))))
   refine ov_nil (nrm_thenV (v_seq (vr_text (o_runs 3 [(13, .int .i64 q1.1), (12, .vs 5 (encs_Expr s)), (11, .fn 26 [] [.ptr 1000000 0 0, .ptr 1000002 0 0, .ptr 1000003 0 0])] (by kernel_rfl) ?_))))
   obtain ⟨x1, g1, hs⟩ := bind_some hs; obtain ⟨g1a, g1b, g1c⟩ := idx_some g1
   refine o_pure (v := .vp (enc_Expr x1) 0) (by kernel_rfl) (by kernel_rfl) (loc_indexVs (e := 34) (sz := 5) (k := .i64) (els := (encs_Expr s)) (cs := (enc_Expr x1)) (by kernel_rfl) (by kernel_rfl) (by kernel_rfl) g1a (by rw [g1c, encs_Expr_eq]; exact map_get _ (by omega))) ?_
   refine o_runs 1 [(15, .agg (enc_Expr x1))] (by kernel_rfl) ?_
   obtain ⟨y1, c1, hs⟩ := bind_some hs
   refine o_loc (F := [(1000000, .box 40 [.sl 1 1000001 ((q1.2.1).length) 0 ((q1.2.1).length)]), (1000001, .row 9 1 0 (List.map EV.encS q1.2.1)), (1000002, .box 31 [.vs 6 (List.map enc_Def q1.2.2.1), .vs 3 (List.map enc_Table q1.2.2.2.1), .vs 3 (List.map enc_Zone q1.2.2.2.2.1), .vs 20 (List.map enc_Rule q1.2.2.2.2.2.1), .vs 4 (List.map enc_Cap q1.2.2.2.2.2.2.1), .vs 6 (List.map enc_View q1.2.2.2.2.2.2.2.1), .vs 3 (List.map enc_Point3 q1.2.2.2.2.2.2.2.2.1), .int .i64 q1.2.2.2.2.2.2.2.2.2]), (1000003, .box 42 [.fn 26 [] [.ptr 1000000 0 0, .ptr 1000002 0 0, .ptr 1000003 0 0]])]) (F' := [(1000001, .row 9 1 0 (List.map EV.encS y1.2.1)), (1000000, .box 40 [.sl 1 1000001 ((y1.2.1).length) 0 ((y1.2.1).length)]), (1000002, .box 31 [.vs 6 (List.map enc_Def y1.2.2.1), .vs 3 (List.map enc_Table y1.2.2.2.1), .vs 3 (List.map enc_Zone y1.2.2.2.2.1), .vs 20 (List.map enc_Rule y1.2.2.2.2.2.1), .vs 4 (List.map enc_Cap y1.2.2.2.2.2.2.1), .vs 6 (List.map enc_View y1.2.2.2.2.2.2.2.1), .vs 3 (List.map enc_Point3 y1.2.2.2.2.2.2.2.2.1), .int .i64 y1.2.2.2.2.2.2.2.2.2]), (1000003, .box 42 [.fn 26 [] [.ptr 1000000 0 0, .ptr 1000002 0 0, .ptr 1000003 0 0]])]) (v := .bool y1.1) [1000000, 1000001, 1000002, 1000003] (by kernel_rfl) (by kernel_rfl) rfl (by kernel_rfl) (loc_g (R := []) [.agg (enc_Expr x1), .ptr 1000000 0 0, .ptr 1000002 0 0, .ptr 1000003 0 0] [(1000000, 1000000), (1000001, 1000001), (1000002, 1000002), (1000003, 1000003)] (callV_val (first := []) (caps := [.ptr 1000000 0 0, .ptr 1000002 0 0, .ptr 1000003 0 0]) hbv26 (by kernel_rfl) (by kernel_rfl)) (ih_expr_Check_1 x1 q1.2.1 q1.2.2.1 q1.2.2.2.1 q1.2.2.2.2.1 q1.2.2.2.2.2.1 q1.2.2.2.2.2.2.1 q1.2.2.2.2.2.2.2.1 q1.2.2.2.2.2.2.2.2.1 q1.2.2.2.2.2.2.2.2.2 _ c1) (.cons (.same _) (.cons (.same _) (.cons (.same _) (.cons (.same _) (.nil))))) (by kernel_rfl) (by kernel_rfl) (by kernel_rfl) (by kernel_rfl) (by kernel_rfl) (by kernel_rfl) (by kernel_rfl) (by kernel_rfl)) (by kernel_rfl) ?_
   refine ov_nil (nrm_thenV ?_)
   refine v_cond y1.1 (by kernel_rfl) (fun h2 => ?_) (fun h2 => ?_)
   ·replace hs := bif_t h2 hs
    refine v_seq (vr_text (o_runs 2 [(4, .int .i64 q1.1), (17, .int .i64 q1.1)] (by kernel_rfl) ?_))
    refine ov_nil (nrm_thenV (v_ret (ret_blkV (ret_thenV (ret_fuel ?_)))))
    refine ret_blkV (ret_join ?_)
    refine ret_thenV ?_
    obtain rfl := si hs
    replace hs := hk1
    obtain rfl := si hs
    exact fin_ret (by kernel_rfl) (by kernel_rfl) (by kernel_rfl)
   ·replace hs := bif_f h2 hs
    refine v_skip (nrm_blkV (nrm_thenV (vr_text (o_runs 2 [(8, .int .i64 (w64 (q1.1 + 1))), (18, .int .i64 (w64 (q1.1 + 1)))] (by kernel_rfl) ?_))))
    refine ov_nil (nrm_fuel ((w64 (q1.1 + 1)), y1.2.1, y1.2.2.1, y1.2.2.2.1, y1.2.2.2.2.1, y1.2.2.2.2.2.1, y1.2.2.2.2.2.2.1, y1.2.2.2.2.2.2.2.1, y1.2.2.2.2.2.2.2.2.1, y1.2.2.2.2.2.2.2.2.2) hs ?_)
    exact cut_of [0, 1, 7, 8] [1000000, 1000001, 1000002, 1000003] (by kernel_rfl) (by kernel_rfl) (by kernel_rfl)
  ·replace hs := bif_f h1 hs
   refine v_exit (exit_thenV (exit_fuel ?_))
   refine exit_blkV ?_
   obtain rfl := si hs
   refine nrm_join (q1.2.1, q1.2.2.1, q1.2.2.2.1, q1.2.2.2.2.1, q1.2.2.2.2.2.1, q1.2.2.2.2.2.2.1, q1.2.2.2.2.2.2.2.1, q1.2.2.2.2.2.2.2.2.1, q1.2.2.2.2.2.2.2.2.2) rfl ?_
   exact cut_of [] [1000000, 1000001, 1000002, 1000003] (by kernel_rfl) (by kernel_rfl) (by kernel_rfl)
 ·subst hz; clear hs; have hs := hk1; clear hk1
  refine nrm_thenV (v_seq (vr_text (o_runs 1 [(4, .int .i64 (-1))] (by kernel_rfl) ?_)))
  refine ov_nil (nrm_thenV (v_ret ?_))
  obtain rfl := si hs
  exact fin_ret (by kernel_rfl) (by kernel_rfl) (by kernel_rfl)
theorem ws_slices_ContainsFunc_4 (nF : Nat) (ih_slices_IndexFunc_6 : ∀ (s : (List Expr)) (c_2 : (List (List UInt8))) (c_1_Defs : (List Def)) (c_1_Tables : (List Table)) (c_1_Zones : (List Zone)) (c_1_Rules : (List Rule)) (c_1_Caps : (List Cap)) (c_1_Views : (List View)) (c_1_Sun : (List Point3)) (c_1_Hours : Int) (r : Int × (List (List UInt8)) × (List Def) × (List Table) × (List Zone) × (List Rule) × (List Cap) × (List View) × (List Point3) × Int), s_slices_IndexFunc_6 nF s c_2 c_1_Defs c_1_Tables c_1_Zones c_1_Rules c_1_Caps c_1_Views c_1_Sun c_1_Hours = some r → FnA Try.prog 45 [.vs 5 (encs_Expr s), .fn 26 [] [.ptr 1000000 0 0, .ptr 1000002 0 0, .ptr 1000003 0 0]] [(1000000, .box 40 [.sl 1 1000001 ((c_2).length) 0 ((c_2).length)]), (1000001, .row 9 1 0 (List.map EV.encS c_2)), (1000002, .box 31 [.vs 6 (List.map enc_Def c_1_Defs), .vs 3 (List.map enc_Table c_1_Tables), .vs 3 (List.map enc_Zone c_1_Zones), .vs 20 (List.map enc_Rule c_1_Rules), .vs 4 (List.map enc_Cap c_1_Caps), .vs 6 (List.map enc_View c_1_Views), .vs 3 (List.map enc_Point3 c_1_Sun), .int .i64 c_1_Hours]), (1000003, .box 42 [.fn 26 [] [.ptr 1000000 0 0, .ptr 1000002 0 0, .ptr 1000003 0 0]])] (.int .i64 r.1) [(1000001, .row 9 1 0 (List.map EV.encS r.2.1)), (1000000, .box 40 [.sl 1 1000001 ((r.2.1).length) 0 ((r.2.1).length)]), (1000002, .box 31 [.vs 6 (List.map enc_Def r.2.2.1), .vs 3 (List.map enc_Table r.2.2.2.1), .vs 3 (List.map enc_Zone r.2.2.2.2.1), .vs 20 (List.map enc_Rule r.2.2.2.2.2.1), .vs 4 (List.map enc_Cap r.2.2.2.2.2.2.1), .vs 6 (List.map enc_View r.2.2.2.2.2.2.2.1), .vs 3 (List.map enc_Point3 r.2.2.2.2.2.2.2.2.1), .int .i64 r.2.2.2.2.2.2.2.2.2]), (1000003, .box 42 [.fn 26 [] [.ptr 1000000 0 0, .ptr 1000002 0 0, .ptr 1000003 0 0]])]) (ih_slices_ContainsFunc_4 : ∀ (s : (List Expr)) (c_2 : (List (List UInt8))) (c_1_Defs : (List Def)) (c_1_Tables : (List Table)) (c_1_Zones : (List Zone)) (c_1_Rules : (List Rule)) (c_1_Caps : (List Cap)) (c_1_Views : (List View)) (c_1_Sun : (List Point3)) (c_1_Hours : Int) (r : Bool × (List (List UInt8)) × (List Def) × (List Table) × (List Zone) × (List Rule) × (List Cap) × (List View) × (List Point3) × Int), s_slices_ContainsFunc_4 nF s c_2 c_1_Defs c_1_Tables c_1_Zones c_1_Rules c_1_Caps c_1_Views c_1_Sun c_1_Hours = some r → FnA Try.prog 32 [.vs 5 (encs_Expr s), .fn 26 [] [.ptr 1000000 0 0, .ptr 1000002 0 0, .ptr 1000003 0 0]] [(1000000, .box 40 [.sl 1 1000001 ((c_2).length) 0 ((c_2).length)]), (1000001, .row 9 1 0 (List.map EV.encS c_2)), (1000002, .box 31 [.vs 6 (List.map enc_Def c_1_Defs), .vs 3 (List.map enc_Table c_1_Tables), .vs 3 (List.map enc_Zone c_1_Zones), .vs 20 (List.map enc_Rule c_1_Rules), .vs 4 (List.map enc_Cap c_1_Caps), .vs 6 (List.map enc_View c_1_Views), .vs 3 (List.map enc_Point3 c_1_Sun), .int .i64 c_1_Hours]), (1000003, .box 42 [.fn 26 [] [.ptr 1000000 0 0, .ptr 1000002 0 0, .ptr 1000003 0 0]])] (.bool r.1) [(1000001, .row 9 1 0 (List.map EV.encS r.2.1)), (1000000, .box 40 [.sl 1 1000001 ((r.2.1).length) 0 ((r.2.1).length)]), (1000002, .box 31 [.vs 6 (List.map enc_Def r.2.2.1), .vs 3 (List.map enc_Table r.2.2.2.1), .vs 3 (List.map enc_Zone r.2.2.2.2.1), .vs 20 (List.map enc_Rule r.2.2.2.2.2.1), .vs 4 (List.map enc_Cap r.2.2.2.2.2.2.1), .vs 6 (List.map enc_View r.2.2.2.2.2.2.2.1), .vs 3 (List.map enc_Point3 r.2.2.2.2.2.2.2.2.1), .int .i64 r.2.2.2.2.2.2.2.2.2]), (1000003, .box 42 [.fn 26 [] [.ptr 1000000 0 0, .ptr 1000002 0 0, .ptr 1000003 0 0]])]) (ih_expr_Check_1 : ∀ (e : Expr) (a1 : (List (List UInt8))) (a2_Defs : (List Def)) (a2_Tables : (List Table)) (a2_Zones : (List Zone)) (a2_Rules : (List Rule)) (a2_Caps : (List Cap)) (a2_Views : (List View)) (a2_Sun : (List Point3)) (a2_Hours : Int) (r : Bool × (List (List UInt8)) × (List Def) × (List Table) × (List Zone) × (List Rule) × (List Cap) × (List View) × (List Point3) × Int), s_expr_Check_1 nF e a1 a2_Defs a2_Tables a2_Zones a2_Rules a2_Caps a2_Views a2_Sun a2_Hours = some r → FnA Try.prog 26 [.agg (enc_Expr e), .ptr 1000000 0 0, .ptr 1000002 0 0, .ptr 1000003 0 0] [(1000000, .box 40 [.sl 1 1000001 ((a1).length) 0 ((a1).length)]), (1000001, .row 9 1 0 (List.map EV.encS a1)), (1000002, .box 31 [.vs 6 (List.map enc_Def a2_Defs), .vs 3 (List.map enc_Table a2_Tables), .vs 3 (List.map enc_Zone a2_Zones), .vs 20 (List.map enc_Rule a2_Rules), .vs 4 (List.map enc_Cap a2_Caps), .vs 6 (List.map enc_View a2_Views), .vs 3 (List.map enc_Point3 a2_Sun), .int .i64 a2_Hours]), (1000003, .box 42 [.fn 26 [] [.ptr 1000000 0 0, .ptr 1000002 0 0, .ptr 1000003 0 0]])] (.bool r.1) [(1000001, .row 9 1 0 (List.map EV.encS r.2.1)), (1000000, .box 40 [.sl 1 1000001 ((r.2.1).length) 0 ((r.2.1).length)]), (1000002, .box 31 [.vs 6 (List.map enc_Def r.2.2.1), .vs 3 (List.map enc_Table r.2.2.2.1), .vs 3 (List.map enc_Zone r.2.2.2.2.1), .vs 20 (List.map enc_Rule r.2.2.2.2.2.1), .vs 4 (List.map enc_Cap r.2.2.2.2.2.2.1), .vs 6 (List.map enc_View r.2.2.2.2.2.2.2.1), .vs 3 (List.map enc_Point3 r.2.2.2.2.2.2.2.2.1), .int .i64 r.2.2.2.2.2.2.2.2.2]), (1000003, .box 42 [.fn 26 [] [.ptr 1000000 0 0, .ptr 1000002 0 0, .ptr 1000003 0 0]])]) (s : (List Expr)) (c_2 : (List (List UInt8))) (c_1_Defs : (List Def)) (c_1_Tables : (List Table)) (c_1_Zones : (List Zone)) (c_1_Rules : (List Rule)) (c_1_Caps : (List Cap)) (c_1_Views : (List View)) (c_1_Sun : (List Point3)) (c_1_Hours : Int) (r : Bool × (List (List UInt8)) × (List Def) × (List Table) × (List Zone) × (List Rule) × (List Cap) × (List View) × (List Point3) × Int) (hs : s_slices_ContainsFunc_4 (nF + 1) s c_2 c_1_Defs c_1_Tables c_1_Zones c_1_Rules c_1_Caps c_1_Views c_1_Sun c_1_Hours = some r) : FnA Try.prog 32 [.vs 5 (encs_Expr s), .fn 26 [] [.ptr 1000000 0 0, .ptr 1000002 0 0, .ptr 1000003 0 0]] [(1000000, .box 40 [.sl 1 1000001 ((c_2).length) 0 ((c_2).length)]), (1000001, .row 9 1 0 (List.map EV.encS c_2)), (1000002, .box 31 [.vs 6 (List.map enc_Def c_1_Defs), .vs 3 (List.map enc_Table c_1_Tables), .vs 3 (List.map enc_Zone c_1_Zones), .vs 20 (List.map enc_Rule c_1_Rules), .vs 4 (List.map enc_Cap c_1_Caps), .vs 6 (List.map enc_View c_1_Views), .vs 3 (List.map enc_Point3 c_1_Sun), .int .i64 c_1_Hours]), (1000003, .box 42 [.fn 26 [] [.ptr 1000000 0 0, .ptr 1000002 0 0, .ptr 1000003 0 0]])] (.bool r.1) [(1000001, .row 9 1 0 (List.map EV.encS r.2.1)), (1000000, .box 40 [.sl 1 1000001 ((r.2.1).length) 0 ((r.2.1).length)]), (1000002, .box 31 [.vs 6 (List.map enc_Def r.2.2.1), .vs 3 (List.map enc_Table r.2.2.2.1), .vs 3 (List.map enc_Zone r.2.2.2.2.1), .vs 20 (List.map enc_Rule r.2.2.2.2.2.1), .vs 4 (List.map enc_Cap r.2.2.2.2.2.2.1), .vs 6 (List.map enc_View r.2.2.2.2.2.2.2.1), .vs 3 (List.map enc_Point3 r.2.2.2.2.2.2.2.2.1), .int .i64 r.2.2.2.2.2.2.2.2.2]), (1000003, .box 42 [.fn 26 [] [.ptr 1000000 0 0, .ptr 1000002 0 0, .ptr 1000003 0 0]])] := by
 refine fnA_of_wp (N := 9) Try.func32 rfl rfl rfl fun cK0 => ?_
 rw [s_slices_ContainsFunc_4] at hs
 refine v_same (ρ' := [(0, .vs 5 (encs_Expr s)), (1, .fn 26 [] [.ptr 1000000 0 0, .ptr 1000002 0 0, .ptr 1000003 0 0])]) rfl rfl ?_
 refine v_seq (vr_text (o_runs 1 [(4, .bool false)] (by kernel_rfl) ?_))
 refine ov_nil (nrm_thenV (v_seq (vr_text (o_runs 2 [(6, .fn 26 [] [.ptr 1000000 0 0, .ptr 1000002 0 0, .ptr 1000003 0 0]), (5, .vs 5 (encs_Expr s))] (by kernel_rfl) ?_))))
 obtain ⟨y1, c1, hs⟩ := bind_some hs
 refine o_loc (F := [(1000000, .box 40 [.sl 1 1000001 ((c_2).length) 0 ((c_2).length)]), (1000001, .row 9 1 0 (List.map EV.encS c_2)), (1000002, .box 31 [.vs 6 (List.map enc_Def c_1_Defs), .vs 3 (List.map enc_Table c_1_Tables), .vs 3 (List.map enc_Zone c_1_Zones), .vs 20 (List.map enc_Rule c_1_Rules), .vs 4 (List.map enc_Cap c_1_Caps), .vs 6 (List.map enc_View c_1_Views), .vs 3 (List.map enc_Point3 c_1_Sun), .int .i64 c_1_Hours]), (1000003, .box 42 [.fn 26 [] [.ptr 1000000 0 0, .ptr 1000002 0 0, .ptr 1000003 0 0]])]) (F' := [(1000001, .row 9 1 0 (List.map EV.encS y1.2.1)), (1000000, .box 40 [.sl 1 1000001 ((y1.2.1).length) 0 ((y1.2.1).length)]), (1000002, .box 31 [.vs 6 (List.map enc_Def y1.2.2.1), .vs 3 (List.map enc_Table y1.2.2.2.1), .vs 3 (List.map enc_Zone y1.2.2.2.2.1), .vs 20 (List.map enc_Rule y1.2.2.2.2.2.1), .vs 4 (List.map enc_Cap y1.2.2.2.2.2.2.1), .vs 6 (List.map enc_View y1.2.2.2.2.2.2.2.1), .vs 3 (List.map enc_Point3 y1.2.2.2.2.2.2.2.2.1), .int .i64 y1.2.2.2.2.2.2.2.2.2]), (1000003, .box 42 [.fn 26 [] [.ptr 1000000 0 0, .ptr 1000002 0 0, .ptr 1000003 0 0]])]) (v := .int .i64 y1.1) [1000000, 1000001, 1000002, 1000003] (by kernel_rfl) (by kernel_rfl) rfl (by kernel_rfl) (loc_g (R := []) [.vs 5 (encs_Expr s), .fn 26 [] [.ptr 1000000 0 0, .ptr 1000002 0 0, .ptr 1000003 0 0]] [(1000000, 1000000), (1000001, 1000001), (1000002, 1000002), (1000003, 1000003)] (callV_func hbv45 (by kernel_rfl)) (ih_slices_IndexFunc_6 s c_2 c_1_Defs c_1_Tables c_1_Zones c_1_Rules c_1_Caps c_1_Views c_1_Sun c_1_Hours _ c1) (.cons (.same _) (.cons (.same _) (.nil))) (by kernel_rfl) (by kernel_rfl) (by kernel_rfl) (by kernel_rfl) (by kernel_rfl) (by kernel_rfl) (by kernel_rfl) (by kernel_rfl)) (by kernel_rfl) ?_
 refine o_runs 2 [(4, .bool (decide (y1.1 ≥ 0))), (8, .bool (decide (y1.1 ≥ 0)))] (by kernel_rfl) ?_
 refine ov_nil (nrm_thenV (v_ret ?_))
 obtain rfl := si hs
 exact fin_ret (by kernel_rfl) (by kernel_rfl) (by kernel_rfl)
theorem ws_expr_Check_1 (nF : Nat) (ih_slices_IndexFunc_6 : ∀ (s : (List Expr)) (c_2 : (List (List UInt8))) (c_1_Defs : (List Def)) (c_1_Tables : (List Table)) (c_1_Zones : (List Zone)) (c_1_Rules : (List Rule)) (c_1_Caps : (List Cap)) (c_1_Views : (List View)) (c_1_Sun : (List Point3)) (c_1_Hours : Int) (r : Int × (List (List UInt8)) × (List Def) × (List Table) × (List Zone) × (List Rule) × (List Cap) × (List View) × (List Point3) × Int), s_slices_IndexFunc_6 nF s c_2 c_1_Defs c_1_Tables c_1_Zones c_1_Rules c_1_Caps c_1_Views c_1_Sun c_1_Hours = some r → FnA Try.prog 45 [.vs 5 (encs_Expr s), .fn 26 [] [.ptr 1000000 0 0, .ptr 1000002 0 0, .ptr 1000003 0 0]] [(1000000, .box 40 [.sl 1 1000001 ((c_2).length) 0 ((c_2).length)]), (1000001, .row 9 1 0 (List.map EV.encS c_2)), (1000002, .box 31 [.vs 6 (List.map enc_Def c_1_Defs), .vs 3 (List.map enc_Table c_1_Tables), .vs 3 (List.map enc_Zone c_1_Zones), .vs 20 (List.map enc_Rule c_1_Rules), .vs 4 (List.map enc_Cap c_1_Caps), .vs 6 (List.map enc_View c_1_Views), .vs 3 (List.map enc_Point3 c_1_Sun), .int .i64 c_1_Hours]), (1000003, .box 42 [.fn 26 [] [.ptr 1000000 0 0, .ptr 1000002 0 0, .ptr 1000003 0 0]])] (.int .i64 r.1) [(1000001, .row 9 1 0 (List.map EV.encS r.2.1)), (1000000, .box 40 [.sl 1 1000001 ((r.2.1).length) 0 ((r.2.1).length)]), (1000002, .box 31 [.vs 6 (List.map enc_Def r.2.2.1), .vs 3 (List.map enc_Table r.2.2.2.1), .vs 3 (List.map enc_Zone r.2.2.2.2.1), .vs 20 (List.map enc_Rule r.2.2.2.2.2.1), .vs 4 (List.map enc_Cap r.2.2.2.2.2.2.1), .vs 6 (List.map enc_View r.2.2.2.2.2.2.2.1), .vs 3 (List.map enc_Point3 r.2.2.2.2.2.2.2.2.1), .int .i64 r.2.2.2.2.2.2.2.2.2]), (1000003, .box 42 [.fn 26 [] [.ptr 1000000 0 0, .ptr 1000002 0 0, .ptr 1000003 0 0]])]) (ih_slices_ContainsFunc_4 : ∀ (s : (List Expr)) (c_2 : (List (List UInt8))) (c_1_Defs : (List Def)) (c_1_Tables : (List Table)) (c_1_Zones : (List Zone)) (c_1_Rules : (List Rule)) (c_1_Caps : (List Cap)) (c_1_Views : (List View)) (c_1_Sun : (List Point3)) (c_1_Hours : Int) (r : Bool × (List (List UInt8)) × (List Def) × (List Table) × (List Zone) × (List Rule) × (List Cap) × (List View) × (List Point3) × Int), s_slices_ContainsFunc_4 nF s c_2 c_1_Defs c_1_Tables c_1_Zones c_1_Rules c_1_Caps c_1_Views c_1_Sun c_1_Hours = some r → FnA Try.prog 32 [.vs 5 (encs_Expr s), .fn 26 [] [.ptr 1000000 0 0, .ptr 1000002 0 0, .ptr 1000003 0 0]] [(1000000, .box 40 [.sl 1 1000001 ((c_2).length) 0 ((c_2).length)]), (1000001, .row 9 1 0 (List.map EV.encS c_2)), (1000002, .box 31 [.vs 6 (List.map enc_Def c_1_Defs), .vs 3 (List.map enc_Table c_1_Tables), .vs 3 (List.map enc_Zone c_1_Zones), .vs 20 (List.map enc_Rule c_1_Rules), .vs 4 (List.map enc_Cap c_1_Caps), .vs 6 (List.map enc_View c_1_Views), .vs 3 (List.map enc_Point3 c_1_Sun), .int .i64 c_1_Hours]), (1000003, .box 42 [.fn 26 [] [.ptr 1000000 0 0, .ptr 1000002 0 0, .ptr 1000003 0 0]])] (.bool r.1) [(1000001, .row 9 1 0 (List.map EV.encS r.2.1)), (1000000, .box 40 [.sl 1 1000001 ((r.2.1).length) 0 ((r.2.1).length)]), (1000002, .box 31 [.vs 6 (List.map enc_Def r.2.2.1), .vs 3 (List.map enc_Table r.2.2.2.1), .vs 3 (List.map enc_Zone r.2.2.2.2.1), .vs 20 (List.map enc_Rule r.2.2.2.2.2.1), .vs 4 (List.map enc_Cap r.2.2.2.2.2.2.1), .vs 6 (List.map enc_View r.2.2.2.2.2.2.2.1), .vs 3 (List.map enc_Point3 r.2.2.2.2.2.2.2.2.1), .int .i64 r.2.2.2.2.2.2.2.2.2]), (1000003, .box 42 [.fn 26 [] [.ptr 1000000 0 0, .ptr 1000002 0 0, .ptr 1000003 0 0]])]) (ih_expr_Check_1 : ∀ (e : Expr) (a1 : (List (List UInt8))) (a2_Defs : (List Def)) (a2_Tables : (List Table)) (a2_Zones : (List Zone)) (a2_Rules : (List Rule)) (a2_Caps : (List Cap)) (a2_Views : (List View)) (a2_Sun : (List Point3)) (a2_Hours : Int) (r : Bool × (List (List UInt8)) × (List Def) × (List Table) × (List Zone) × (List Rule) × (List Cap) × (List View) × (List Point3) × Int), s_expr_Check_1 nF e a1 a2_Defs a2_Tables a2_Zones a2_Rules a2_Caps a2_Views a2_Sun a2_Hours = some r → FnA Try.prog 26 [.agg (enc_Expr e), .ptr 1000000 0 0, .ptr 1000002 0 0, .ptr 1000003 0 0] [(1000000, .box 40 [.sl 1 1000001 ((a1).length) 0 ((a1).length)]), (1000001, .row 9 1 0 (List.map EV.encS a1)), (1000002, .box 31 [.vs 6 (List.map enc_Def a2_Defs), .vs 3 (List.map enc_Table a2_Tables), .vs 3 (List.map enc_Zone a2_Zones), .vs 20 (List.map enc_Rule a2_Rules), .vs 4 (List.map enc_Cap a2_Caps), .vs 6 (List.map enc_View a2_Views), .vs 3 (List.map enc_Point3 a2_Sun), .int .i64 a2_Hours]), (1000003, .box 42 [.fn 26 [] [.ptr 1000000 0 0, .ptr 1000002 0 0, .ptr 1000003 0 0]])] (.bool r.1) [(1000001, .row 9 1 0 (List.map EV.encS r.2.1)), (1000000, .box 40 [.sl 1 1000001 ((r.2.1).length) 0 ((r.2.1).length)]), (1000002, .box 31 [.vs 6 (List.map enc_Def r.2.2.1), .vs 3 (List.map enc_Table r.2.2.2.1), .vs 3 (List.map enc_Zone r.2.2.2.2.1), .vs 20 (List.map enc_Rule r.2.2.2.2.2.1), .vs 4 (List.map enc_Cap r.2.2.2.2.2.2.1), .vs 6 (List.map enc_View r.2.2.2.2.2.2.2.1), .vs 3 (List.map enc_Point3 r.2.2.2.2.2.2.2.2.1), .int .i64 r.2.2.2.2.2.2.2.2.2]), (1000003, .box 42 [.fn 26 [] [.ptr 1000000 0 0, .ptr 1000002 0 0, .ptr 1000003 0 0]])]) (e : Expr) (a1 : (List (List UInt8))) (a2_Defs : (List Def)) (a2_Tables : (List Table)) (a2_Zones : (List Zone)) (a2_Rules : (List Rule)) (a2_Caps : (List Cap)) (a2_Views : (List View)) (a2_Sun : (List Point3)) (a2_Hours : Int) (r : Bool × (List (List UInt8)) × (List Def) × (List Table) × (List Zone) × (List Rule) × (List Cap) × (List View) × (List Point3) × Int) (hs : s_expr_Check_1 (nF + 1) e a1 a2_Defs a2_Tables a2_Zones a2_Rules a2_Caps a2_Views a2_Sun a2_Hours = some r) : FnA Try.prog 26 [.agg (enc_Expr e), .ptr 1000000 0 0, .ptr 1000002 0 0, .ptr 1000003 0 0] [(1000000, .box 40 [.sl 1 1000001 ((a1).length) 0 ((a1).length)]), (1000001, .row 9 1 0 (List.map EV.encS a1)), (1000002, .box 31 [.vs 6 (List.map enc_Def a2_Defs), .vs 3 (List.map enc_Table a2_Tables), .vs 3 (List.map enc_Zone a2_Zones), .vs 20 (List.map enc_Rule a2_Rules), .vs 4 (List.map enc_Cap a2_Caps), .vs 6 (List.map enc_View a2_Views), .vs 3 (List.map enc_Point3 a2_Sun), .int .i64 a2_Hours]), (1000003, .box 42 [.fn 26 [] [.ptr 1000000 0 0, .ptr 1000002 0 0, .ptr 1000003 0 0]])] (.bool r.1) [(1000001, .row 9 1 0 (List.map EV.encS r.2.1)), (1000000, .box 40 [.sl 1 1000001 ((r.2.1).length) 0 ((r.2.1).length)]), (1000002, .box 31 [.vs 6 (List.map enc_Def r.2.2.1), .vs 3 (List.map enc_Table r.2.2.2.1), .vs 3 (List.map enc_Zone r.2.2.2.2.1), .vs 20 (List.map enc_Rule r.2.2.2.2.2.1), .vs 4 (List.map enc_Cap r.2.2.2.2.2.2.1), .vs 6 (List.map enc_View r.2.2.2.2.2.2.2.1), .vs 3 (List.map enc_Point3 r.2.2.2.2.2.2.2.2.1), .int .i64 r.2.2.2.2.2.2.2.2.2]), (1000003, .box 42 [.fn 26 [] [.ptr 1000000 0 0, .ptr 1000002 0 0, .ptr 1000003 0 0]])] := by
 refine fnA_of_wp (N := 33) Try.func26 rfl rfl rfl fun cK0 => ?_
 rw [s_expr_Check_1] at hs
 refine v_same (ρ' := [(0, .agg (enc_Expr e)), (1, .ptr 1000000 0 0), (2, .ptr 1000002 0 0), (3, .ptr 1000003 0 0)]) rfl rfl ?_
 refine v_seq (vr_text (o_runh 2 [(5, .bool false), (4, .ptr 4 0 0)] [(4, .box 34 [.int .i64 e.Op, .int .i64 e.N, .str e.S, .str e.Key, .vs 5 (encs_Expr e.Args)]), (1000000, .box 40 [.sl 1 1000001 ((a1).length) 0 ((a1).length)]), (1000001, .row 9 1 0 (List.map EV.encS a1)), (1000002, .box 31 [.vs 6 (List.map enc_Def a2_Defs), .vs 3 (List.map enc_Table a2_Tables), .vs 3 (List.map enc_Zone a2_Zones), .vs 20 (List.map enc_Rule a2_Rules), .vs 4 (List.map enc_Cap a2_Caps), .vs 6 (List.map enc_View a2_Views), .vs 3 (List.map enc_Point3 a2_Sun), .int .i64 a2_Hours]), (1000003, .box 42 [.fn 26 [] [.ptr 1000000 0 0, .ptr 1000002 0 0, .ptr 1000003 0 0]])] (by kernel_rfl) ?_))
 refine ov_nil (nrm_thenV (v_seq (v_seq (vr_text (o_runs 2 [(7, .int .i64 e.Op), (6, .ptr 4 0 0)] (by kernel_rfl) ?_)))))
 refine ov_nil (nrm_thenV (v_block (v_seq (vr_text (o_runs 2 [(8, .bool (decide (e.Op = 1))), (9, .bool (decide (e.Op = 1)))] (by kernel_rfl) ?_)))))
 refine ov_nil (nrm_thenV ?_)
 refine v_cond (decide (e.Op = 1)) (by kernel_rfl) (fun h1 => ?_) (fun h1 => ?_)
 ·replace hs := bif_t h1 hs
  refine v_seq (vr_text (o_runs 3 [(12, .str e.S), (11, .ptr 4 0 2), (10, .sl 1 1000001 ((a1).length) 0 ((a1).length))] (by kernel_rfl) ?_))
  obtain ⟨y1, c1, hs⟩ := bind_some hs
  refine o_loc (F := [(1000001, .row 9 1 0 (List.map EV.encS a1))]) (F' := [(1000001, .row 9 1 0 (List.map EV.encS a1))]) (v := .bool y1) [1000001] (by kernel_rfl) (by kernel_rfl) rfl (by kernel_rfl) (loc_gcallB (vs := [.sl 1 1000001 ((a1).length) 0 ((a1).length), .str e.S]) (R := [(1000001, .row 9 1 0 (List.map EV.encS a1))]) (callV_func hbv27 (by kernel_rfl)) (w_slices_Contains_2 a1 e.S _ c1) (.cons (.row (t := 9) (fz := 0) (by kernel_rfl) (by first | (simp only [List.length_map, List.length_set, cpyT_length]; done) | rfl)) (.cons (.same _) (.nil))) (by kernel_rfl) (by kernel_rfl) (by kernel_rfl)) (by kernel_rfl) ?_
  refine o_runs 2 [(5, .bool (!y1)), (14, .bool (!y1))] (by kernel_rfl) ?_
  refine ov_nil (nrm_thenV (v_ret (ret_blkV (ret_thenV ?_))))
  obtain rfl := si hs
  exact fin_ret (by kernel_rfl) (by kernel_rfl) (by kernel_rfl)
 ·replace hs := bif_f h1 hs
  refine v_seq (vr_text (o_runs 2 [(15, .bool (decide (e.Op = 2))), (16, .bool (decide (e.Op = 2)))] (by kernel_rfl) ?_))
  refine ov_nil (nrm_thenV ?_)
  refine v_cond (decide (e.Op = 2)) (by kernel_rfl) (fun h2 => ?_) (fun h2 => ?_)
  ·replace hs := bif_t h2 hs
   refine v_seq (vr_text (o_runs 3 [(19, .fn 29 [] [.ptr 4 0 0]), (18, .vs 3 (List.map enc_Table a2_Tables)), (17, .ptr 1000002 0 1)] (by kernel_rfl) ?_))
   obtain ⟨y2, c2, hs⟩ := bind_some hs
   refine o_loc (F := [(4, .box 34 [.int .i64 e.Op, .int .i64 e.N, .str e.S, .str e.Key, .vs 5 (encs_Expr e.Args)])]) (F' := [(4, .box 34 [.int .i64 y2.2.1, .int .i64 y2.2.2.1, .str y2.2.2.2.1, .str y2.2.2.2.2.1, .vs 5 (encs_Expr y2.2.2.2.2.2)])]) (v := .bool y2.1) [4] (by kernel_rfl) (by kernel_rfl) rfl (by kernel_rfl) (loc_g (R := []) [.vs 3 (List.map enc_Table a2_Tables), .fn 29 [] [.ptr 4 0 0]] [(1000000, 4)] (callV_func hbv28 (by kernel_rfl)) (w_slices_ContainsFunc_2 a2_Tables e.Op e.N e.S e.Key e.Args _ c2) (.cons (.same _) (.cons (.same _) (.nil))) (by kernel_rfl) (by kernel_rfl) (by kernel_rfl) (by kernel_rfl) (by kernel_rfl) (by kernel_rfl) (by kernel_rfl) (by kernel_rfl)) (by kernel_rfl) ?_
   refine o_runs 2 [(5, .bool (!y2.1)), (21, .bool (!y2.1))] (by kernel_rfl) ?_
   refine ov_nil (nrm_thenV (v_ret (ret_blkV (ret_thenV ?_))))
   obtain rfl := si hs
   exact fin_ret (by kernel_rfl) (by kernel_rfl) (by kernel_rfl)
  ·replace hs := bif_f h2 hs
   refine v_seq (vr_text (o_runs 2 [(22, .bool (decide (e.Op = 3))), (23, .bool (decide (e.Op = 3)))] (by kernel_rfl) ?_))
   refine ov_nil (nrm_thenV ?_)
   refine v_cond (decide (e.Op = 3)) (by kernel_rfl) (fun h3 => ?_) (fun h3 => ?_)
   ·replace hs := bif_t h3 hs
    refine v_seq (vr_text (o_runs 3 [(26, .fn 31 [] [.ptr 4 0 0]), (25, .vs 3 (List.map enc_Zone a2_Zones)), (24, .ptr 1000002 0 2)] (by kernel_rfl) ?_))
    obtain ⟨y3, c3, hs⟩ := bind_some hs
    refine o_loc (F := [(4, .box 34 [.int .i64 e.Op, .int .i64 e.N, .str e.S, .str e.Key, .vs 5 (encs_Expr e.Args)])]) (F' := [(4, .box 34 [.int .i64 y3.2.1, .int .i64 y3.2.2.1, .str y3.2.2.2.1, .str y3.2.2.2.2.1, .vs 5 (encs_Expr y3.2.2.2.2.2)])]) (v := .bool y3.1) [4] (by kernel_rfl) (by kernel_rfl) rfl (by kernel_rfl) (loc_g (R := []) [.vs 3 (List.map enc_Zone a2_Zones), .fn 31 [] [.ptr 4 0 0]] [(1000000, 4)] (callV_func hbv30 (by kernel_rfl)) (w_slices_ContainsFunc_3 a2_Zones e.Op e.N e.S e.Key e.Args _ c3) (.cons (.same _) (.cons (.same _) (.nil))) (by kernel_rfl) (by kernel_rfl) (by kernel_rfl) (by kernel_rfl) (by kernel_rfl) (by kernel_rfl) (by kernel_rfl) (by kernel_rfl)) (by kernel_rfl) ?_
    refine o_runs 2 [(5, .bool (!y3.1)), (28, .bool (!y3.1))] (by kernel_rfl) ?_
    refine ov_nil (nrm_thenV (v_ret (ret_blkV (ret_thenV ?_))))
    obtain rfl := si hs
    exact fin_ret (by kernel_rfl) (by kernel_rfl) (by kernel_rfl)
   ·replace hs := bif_f h3 hs
    refine v_skip (nrm_blkV (nrm_thenV (v_seq (vr_text (o_runs 3 [(31, .fn 26 [] [.ptr 1000000 0 0, .ptr 1000002 0 0, .ptr 1000003 0 0]), (30, .vs 5 (encs_Expr e.Args)), (29, .ptr 4 0 4)] (by kernel_rfl) ?_)))))
    obtain ⟨y4, c4, hs⟩ := bind_some hs
    refine o_loc (F := [(1000000, .box 40 [.sl 1 1000001 ((a1).length) 0 ((a1).length)]), (1000001, .row 9 1 0 (List.map EV.encS a1)), (1000002, .box 31 [.vs 6 (List.map enc_Def a2_Defs), .vs 3 (List.map enc_Table a2_Tables), .vs 3 (List.map enc_Zone a2_Zones), .vs 20 (List.map enc_Rule a2_Rules), .vs 4 (List.map enc_Cap a2_Caps), .vs 6 (List.map enc_View a2_Views), .vs 3 (List.map enc_Point3 a2_Sun), .int .i64 a2_Hours]), (1000003, .box 42 [.fn 26 [] [.ptr 1000000 0 0, .ptr 1000002 0 0, .ptr 1000003 0 0]])]) (F' := [(1000001, .row 9 1 0 (List.map EV.encS y4.2.1)), (1000000, .box 40 [.sl 1 1000001 ((y4.2.1).length) 0 ((y4.2.1).length)]), (1000002, .box 31 [.vs 6 (List.map enc_Def y4.2.2.1), .vs 3 (List.map enc_Table y4.2.2.2.1), .vs 3 (List.map enc_Zone y4.2.2.2.2.1), .vs 20 (List.map enc_Rule y4.2.2.2.2.2.1), .vs 4 (List.map enc_Cap y4.2.2.2.2.2.2.1), .vs 6 (List.map enc_View y4.2.2.2.2.2.2.2.1), .vs 3 (List.map enc_Point3 y4.2.2.2.2.2.2.2.2.1), .int .i64 y4.2.2.2.2.2.2.2.2.2]), (1000003, .box 42 [.fn 26 [] [.ptr 1000000 0 0, .ptr 1000002 0 0, .ptr 1000003 0 0]])]) (v := .bool y4.1) [1000000, 1000001, 1000002, 1000003] (by kernel_rfl) (by kernel_rfl) rfl (by kernel_rfl) (loc_g (R := []) [.vs 5 (encs_Expr e.Args), .fn 26 [] [.ptr 1000000 0 0, .ptr 1000002 0 0, .ptr 1000003 0 0]] [(1000000, 1000000), (1000001, 1000001), (1000002, 1000002), (1000003, 1000003)] (callV_func hbv32 (by kernel_rfl)) (ih_slices_ContainsFunc_4 e.Args a1 a2_Defs a2_Tables a2_Zones a2_Rules a2_Caps a2_Views a2_Sun a2_Hours _ c4) (.cons (.same _) (.cons (.same _) (.nil))) (by kernel_rfl) (by kernel_rfl) (by kernel_rfl) (by kernel_rfl) (by kernel_rfl) (by kernel_rfl) (by kernel_rfl) (by kernel_rfl)) (by kernel_rfl) ?_
    refine o_runs 1 [(5, .bool y4.1)] (by kernel_rfl) ?_
    refine ov_nil (nrm_thenV (v_ret ?_))
    obtain rfl := si hs
    exact fin_ret (by kernel_rfl) (by kernel_rfl) (by kernel_rfl)
theorem wr_expr_Check_1 : ∀ nF : Nat, (∀ (s : (List Expr)) (c_2 : (List (List UInt8))) (c_1_Defs : (List Def)) (c_1_Tables : (List Table)) (c_1_Zones : (List Zone)) (c_1_Rules : (List Rule)) (c_1_Caps : (List Cap)) (c_1_Views : (List View)) (c_1_Sun : (List Point3)) (c_1_Hours : Int) (r : Int × (List (List UInt8)) × (List Def) × (List Table) × (List Zone) × (List Rule) × (List Cap) × (List View) × (List Point3) × Int), s_slices_IndexFunc_6 nF s c_2 c_1_Defs c_1_Tables c_1_Zones c_1_Rules c_1_Caps c_1_Views c_1_Sun c_1_Hours = some r → FnA Try.prog 45 [.vs 5 (encs_Expr s), .fn 26 [] [.ptr 1000000 0 0, .ptr 1000002 0 0, .ptr 1000003 0 0]] [(1000000, .box 40 [.sl 1 1000001 ((c_2).length) 0 ((c_2).length)]), (1000001, .row 9 1 0 (List.map EV.encS c_2)), (1000002, .box 31 [.vs 6 (List.map enc_Def c_1_Defs), .vs 3 (List.map enc_Table c_1_Tables), .vs 3 (List.map enc_Zone c_1_Zones), .vs 20 (List.map enc_Rule c_1_Rules), .vs 4 (List.map enc_Cap c_1_Caps), .vs 6 (List.map enc_View c_1_Views), .vs 3 (List.map enc_Point3 c_1_Sun), .int .i64 c_1_Hours]), (1000003, .box 42 [.fn 26 [] [.ptr 1000000 0 0, .ptr 1000002 0 0, .ptr 1000003 0 0]])] (.int .i64 r.1) [(1000001, .row 9 1 0 (List.map EV.encS r.2.1)), (1000000, .box 40 [.sl 1 1000001 ((r.2.1).length) 0 ((r.2.1).length)]), (1000002, .box 31 [.vs 6 (List.map enc_Def r.2.2.1), .vs 3 (List.map enc_Table r.2.2.2.1), .vs 3 (List.map enc_Zone r.2.2.2.2.1), .vs 20 (List.map enc_Rule r.2.2.2.2.2.1), .vs 4 (List.map enc_Cap r.2.2.2.2.2.2.1), .vs 6 (List.map enc_View r.2.2.2.2.2.2.2.1), .vs 3 (List.map enc_Point3 r.2.2.2.2.2.2.2.2.1), .int .i64 r.2.2.2.2.2.2.2.2.2]), (1000003, .box 42 [.fn 26 [] [.ptr 1000000 0 0, .ptr 1000002 0 0, .ptr 1000003 0 0]])]) ∧ (∀ (s : (List Expr)) (c_2 : (List (List UInt8))) (c_1_Defs : (List Def)) (c_1_Tables : (List Table)) (c_1_Zones : (List Zone)) (c_1_Rules : (List Rule)) (c_1_Caps : (List Cap)) (c_1_Views : (List View)) (c_1_Sun : (List Point3)) (c_1_Hours : Int) (r : Bool × (List (List UInt8)) × (List Def) × (List Table) × (List Zone) × (List Rule) × (List Cap) × (List View) × (List Point3) × Int), s_slices_ContainsFunc_4 nF s c_2 c_1_Defs c_1_Tables c_1_Zones c_1_Rules c_1_Caps c_1_Views c_1_Sun c_1_Hours = some r → FnA Try.prog 32 [.vs 5 (encs_Expr s), .fn 26 [] [.ptr 1000000 0 0, .ptr 1000002 0 0, .ptr 1000003 0 0]] [(1000000, .box 40 [.sl 1 1000001 ((c_2).length) 0 ((c_2).length)]), (1000001, .row 9 1 0 (List.map EV.encS c_2)), (1000002, .box 31 [.vs 6 (List.map enc_Def c_1_Defs), .vs 3 (List.map enc_Table c_1_Tables), .vs 3 (List.map enc_Zone c_1_Zones), .vs 20 (List.map enc_Rule c_1_Rules), .vs 4 (List.map enc_Cap c_1_Caps), .vs 6 (List.map enc_View c_1_Views), .vs 3 (List.map enc_Point3 c_1_Sun), .int .i64 c_1_Hours]), (1000003, .box 42 [.fn 26 [] [.ptr 1000000 0 0, .ptr 1000002 0 0, .ptr 1000003 0 0]])] (.bool r.1) [(1000001, .row 9 1 0 (List.map EV.encS r.2.1)), (1000000, .box 40 [.sl 1 1000001 ((r.2.1).length) 0 ((r.2.1).length)]), (1000002, .box 31 [.vs 6 (List.map enc_Def r.2.2.1), .vs 3 (List.map enc_Table r.2.2.2.1), .vs 3 (List.map enc_Zone r.2.2.2.2.1), .vs 20 (List.map enc_Rule r.2.2.2.2.2.1), .vs 4 (List.map enc_Cap r.2.2.2.2.2.2.1), .vs 6 (List.map enc_View r.2.2.2.2.2.2.2.1), .vs 3 (List.map enc_Point3 r.2.2.2.2.2.2.2.2.1), .int .i64 r.2.2.2.2.2.2.2.2.2]), (1000003, .box 42 [.fn 26 [] [.ptr 1000000 0 0, .ptr 1000002 0 0, .ptr 1000003 0 0]])]) ∧ (∀ (e : Expr) (a1 : (List (List UInt8))) (a2_Defs : (List Def)) (a2_Tables : (List Table)) (a2_Zones : (List Zone)) (a2_Rules : (List Rule)) (a2_Caps : (List Cap)) (a2_Views : (List View)) (a2_Sun : (List Point3)) (a2_Hours : Int) (r : Bool × (List (List UInt8)) × (List Def) × (List Table) × (List Zone) × (List Rule) × (List Cap) × (List View) × (List Point3) × Int), s_expr_Check_1 nF e a1 a2_Defs a2_Tables a2_Zones a2_Rules a2_Caps a2_Views a2_Sun a2_Hours = some r → FnA Try.prog 26 [.agg (enc_Expr e), .ptr 1000000 0 0, .ptr 1000002 0 0, .ptr 1000003 0 0] [(1000000, .box 40 [.sl 1 1000001 ((a1).length) 0 ((a1).length)]), (1000001, .row 9 1 0 (List.map EV.encS a1)), (1000002, .box 31 [.vs 6 (List.map enc_Def a2_Defs), .vs 3 (List.map enc_Table a2_Tables), .vs 3 (List.map enc_Zone a2_Zones), .vs 20 (List.map enc_Rule a2_Rules), .vs 4 (List.map enc_Cap a2_Caps), .vs 6 (List.map enc_View a2_Views), .vs 3 (List.map enc_Point3 a2_Sun), .int .i64 a2_Hours]), (1000003, .box 42 [.fn 26 [] [.ptr 1000000 0 0, .ptr 1000002 0 0, .ptr 1000003 0 0]])] (.bool r.1) [(1000001, .row 9 1 0 (List.map EV.encS r.2.1)), (1000000, .box 40 [.sl 1 1000001 ((r.2.1).length) 0 ((r.2.1).length)]), (1000002, .box 31 [.vs 6 (List.map enc_Def r.2.2.1), .vs 3 (List.map enc_Table r.2.2.2.1), .vs 3 (List.map enc_Zone r.2.2.2.2.1), .vs 20 (List.map enc_Rule r.2.2.2.2.2.1), .vs 4 (List.map enc_Cap r.2.2.2.2.2.2.1), .vs 6 (List.map enc_View r.2.2.2.2.2.2.2.1), .vs 3 (List.map enc_Point3 r.2.2.2.2.2.2.2.2.1), .int .i64 r.2.2.2.2.2.2.2.2.2]), (1000003, .box 42 [.fn 26 [] [.ptr 1000000 0 0, .ptr 1000002 0 0, .ptr 1000003 0 0]])])
 | 0 => ⟨fun s c_2 c_1_Defs c_1_Tables c_1_Zones c_1_Rules c_1_Caps c_1_Views c_1_Sun c_1_Hours r hs => (by rw [s_slices_IndexFunc_6] at hs; cases hs), fun s c_2 c_1_Defs c_1_Tables c_1_Zones c_1_Rules c_1_Caps c_1_Views c_1_Sun c_1_Hours r hs => (by rw [s_slices_ContainsFunc_4] at hs; cases hs), fun e a1 a2_Defs a2_Tables a2_Zones a2_Rules a2_Caps a2_Views a2_Sun a2_Hours r hs => (by rw [s_expr_Check_1] at hs; cases hs)⟩
 | nF + 1 => ⟨fun s c_2 c_1_Defs c_1_Tables c_1_Zones c_1_Rules c_1_Caps c_1_Views c_1_Sun c_1_Hours r hs => ws_slices_IndexFunc_6 nF (wr_expr_Check_1 nF).1 (wr_expr_Check_1 nF).2.1 (wr_expr_Check_1 nF).2.2 s c_2 c_1_Defs c_1_Tables c_1_Zones c_1_Rules c_1_Caps c_1_Views c_1_Sun c_1_Hours r hs, fun s c_2 c_1_Defs c_1_Tables c_1_Zones c_1_Rules c_1_Caps c_1_Views c_1_Sun c_1_Hours r hs => ws_slices_ContainsFunc_4 nF (wr_expr_Check_1 nF).1 (wr_expr_Check_1 nF).2.1 (wr_expr_Check_1 nF).2.2 s c_2 c_1_Defs c_1_Tables c_1_Zones c_1_Rules c_1_Caps c_1_Views c_1_Sun c_1_Hours r hs, fun e a1 a2_Defs a2_Tables a2_Zones a2_Rules a2_Caps a2_Views a2_Sun a2_Hours r hs => ws_expr_Check_1 nF (wr_expr_Check_1 nF).1 (wr_expr_Check_1 nF).2.1 (wr_expr_Check_1 nF).2.2 e a1 a2_Defs a2_Tables a2_Zones a2_Rules a2_Caps a2_Views a2_Sun a2_Hours r hs⟩
theorem w_expr_Check_1 (nF : Nat) (e : Expr) (a1 : (List (List UInt8))) (a2_Defs : (List Def)) (a2_Tables : (List Table)) (a2_Zones : (List Zone)) (a2_Rules : (List Rule)) (a2_Caps : (List Cap)) (a2_Views : (List View)) (a2_Sun : (List Point3)) (a2_Hours : Int) (r : Bool × (List (List UInt8)) × (List Def) × (List Table) × (List Zone) × (List Rule) × (List Cap) × (List View) × (List Point3) × Int) (hs : s_expr_Check_1 nF e a1 a2_Defs a2_Tables a2_Zones a2_Rules a2_Caps a2_Views a2_Sun a2_Hours = some r) : FnA Try.prog 26 [.agg (enc_Expr e), .ptr 1000000 0 0, .ptr 1000002 0 0, .ptr 1000003 0 0] [(1000000, .box 40 [.sl 1 1000001 ((a1).length) 0 ((a1).length)]), (1000001, .row 9 1 0 (List.map EV.encS a1)), (1000002, .box 31 [.vs 6 (List.map enc_Def a2_Defs), .vs 3 (List.map enc_Table a2_Tables), .vs 3 (List.map enc_Zone a2_Zones), .vs 20 (List.map enc_Rule a2_Rules), .vs 4 (List.map enc_Cap a2_Caps), .vs 6 (List.map enc_View a2_Views), .vs 3 (List.map enc_Point3 a2_Sun), .int .i64 a2_Hours]), (1000003, .box 42 [.fn 26 [] [.ptr 1000000 0 0, .ptr 1000002 0 0, .ptr 1000003 0 0]])] (.bool r.1) [(1000001, .row 9 1 0 (List.map EV.encS r.2.1)), (1000000, .box 40 [.sl 1 1000001 ((r.2.1).length) 0 ((r.2.1).length)]), (1000002, .box 31 [.vs 6 (List.map enc_Def r.2.2.1), .vs 3 (List.map enc_Table r.2.2.2.1), .vs 3 (List.map enc_Zone r.2.2.2.2.1), .vs 20 (List.map enc_Rule r.2.2.2.2.2.1), .vs 4 (List.map enc_Cap r.2.2.2.2.2.2.1), .vs 6 (List.map enc_View r.2.2.2.2.2.2.2.1), .vs 3 (List.map enc_Point3 r.2.2.2.2.2.2.2.2.1), .int .i64 r.2.2.2.2.2.2.2.2.2]), (1000003, .box 42 [.fn 26 [] [.ptr 1000000 0 0, .ptr 1000002 0 0, .ptr 1000003 0 0]])] := (wr_expr_Check_1 nF).2.2 e a1 a2_Defs a2_Tables a2_Zones a2_Rules a2_Caps a2_Views a2_Sun a2_Hours r hs
end Go.Proofs.Ytconjkgifdfhdab
