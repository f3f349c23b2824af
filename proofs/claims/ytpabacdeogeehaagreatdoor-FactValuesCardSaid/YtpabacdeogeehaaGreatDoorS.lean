/- printed by gen2.py -/
import Derived.Test.YtpabacdeogeehaaGreatDoorE
import Derived.Test.YtpabacdeogeehaaGreatDoorSD
import Derived.Test.YtpabacdeogeehaaGreatDoorSPartA
set_option linter.all false
set_option maxRecDepth 100000
namespace Go.Proofs.YtpabacdeogeehaaGreatDoor
open Go Go.RowKit Go.Eng Go.EV
variable [Fuel]
variable {ob0 ob1 ob2 : Go.Obj} {u1 u2 : TypeId}

theorem w_expr_context_row_1 (t : Table) (a1_Op : Int) (a1_N : Int) (a1_S : (List UInt8)) (a1_Key : (List UInt8)) (a1_Args : (List Expr)) (r : Bool × Int × Int × (List UInt8) × (List UInt8) × (List Expr)) (hs : s_expr_context_row_1 t a1_Op a1_N a1_S a1_Key a1_Args = some r) : FnA Tryz.prog 66 [.agg (enc_Table t), .ptr 1000000 0 0] [(1000000, .box 34 [.int .i64 a1_Op, .int .i64 a1_N, .str a1_S, .str a1_Key, .vs 5 (encs_Expr a1_Args)])] (.bool r.1) [(1000000, .box 34 [.int .i64 r.2.1, .int .i64 r.2.2.1, .str r.2.2.2.1, .str r.2.2.2.2.1, .vs 5 (encs_Expr r.2.2.2.2.2)])] := by
 refine fnA_of_wp (N := 9) Tryz.func66 rfl rfl rfl fun cK0 => ?_
 unfold s_expr_context_row_1 at hs
 refine v_same (ρ' := [(0, .agg (enc_Table t)), (1, .ptr 1000000 0 0)]) rfl rfl ?_
 refine v_seq (vr_text (o_runh 2 [(3, .bool false), (2, .ptr 2 0 0)] [(2, .box 129 [.str t.Name, .vs 2 (List.map enc_Entry t.Rows), .int .i64 t.Else]), (1000000, .box 34 [.int .i64 a1_Op, .int .i64 a1_N, .str a1_S, .str a1_Key, .vs 5 (encs_Expr a1_Args)])] (by kernel_rfl) ?_))
 refine ov_nil (nrm_thenV (v_seq (vr_text (o_runs 6 [(3, .bool (decide (t.Name = a1_S))), (8, .bool (decide (t.Name = a1_S))), (7, .str a1_S), (6, .ptr 1000000 0 2), (5, .str t.Name), (4, .ptr 2 0 0)] (by kernel_rfl) ?_))))
 refine ov_nil (nrm_thenV (v_ret ?_))
 obtain rfl := si hs
 exact fin_ret (by kernel_rfl) (by kernel_rfl) (by kernel_rfl)
theorem w_slices_IndexFunc_2 (s : (List Table)) (t_Op : Int) (t_N : Int) (t_S : (List UInt8)) (t_Key : (List UInt8)) (t_Args : (List Expr)) (r : Int × Int × Int × (List UInt8) × (List UInt8) × (List Expr)) (hs : s_slices_IndexFunc_2 s t_Op t_N t_S t_Key t_Args = some r) : FnA Tryz.prog 65 [.vs 3 (List.map enc_Table s), .fn 66 [] [.ptr 1000000 0 0]] [(1000000, .box 34 [.int .i64 t_Op, .int .i64 t_N, .str t_S, .str t_Key, .vs 5 (encs_Expr t_Args)])] (.int .i64 r.1) [(1000000, .box 34 [.int .i64 r.2.1, .int .i64 r.2.2.1, .str r.2.2.2.1, .str r.2.2.2.2.1, .vs 5 (encs_Expr r.2.2.2.2.2)])] := by
 refine fnA_of_wp (N := 19) Tryz.func65 rfl rfl rfl fun cK0 => ?_
 unfold s_slices_IndexFunc_2 at hs
 refine v_same (ρ' := [(0, .vs 3 (List.map enc_Table s)), (1, .fn 66 [] [.ptr 1000000 0 0])]) rfl rfl ?_
 refine v_seq (vr_text (o_runs 1 [(4, .int .i64 0)] (by kernel_rfl) ?_))
 refine ov_nil (nrm_thenV (v_seq (v_seq (vr_text (o_runs 1 [(6, .vs 3 (List.map enc_Table s))] (by kernel_rfl) ?_)))))
 refine o_pure (v := .int .i64 (List.length s : Int)) (by kernel_rfl) (by kernel_rfl) (loc_lenVs (sz := 3) (els := (List.map enc_Table s)) (by kernel_rfl) (by kernel_rfl) (List.length_map ..)) ?_
 refine o_runs 1 [(8, .int .i64 0)] (by kernel_rfl) ?_
 refine ov_nil (nrm_thenV ?_)
 obtain ⟨z1, hs, hk1⟩ := bind_some hs
 refine v_join (S := Int × Int × (List UInt8) × (List UInt8) × (List Expr)) (fun u => z1 = .inr u) (fun u => []) (fun u => [(1000000, .box 34 [.int .i64 u.1, .int .i64 u.2.1, .str u.2.2.1, .str u.2.2.2.1, .vs 5 (encs_Expr u.2.2.2.2)])]) ?_ (fun v1 hz => ?_)
 ·refine v_block ?_
  refine v_fuel (S := Int × Int × Int × (List UInt8) × (List UInt8) × (List Expr)) (fun u => [(0, .vs 3 (List.map enc_Table s)), (1, .fn 66 [] [.ptr 1000000 0 0]), (7, .int .i64 (List.length s : Int)), (8, .int .i64 u.1)]) (fun u => [(1000000, .box 34 [.int .i64 u.2.1, .int .i64 u.2.2.1, .str u.2.2.2.1, .str u.2.2.2.2.1, .vs 5 (encs_Expr u.2.2.2.2.2)])]) (s_slices_IndexFunc_2_L1 s) (fun _ => rfl) KK (0, t_Op, t_N, t_S, t_Key, t_Args) hs (cut_of [0, 1, 7, 8] [1000000] (by kernel_rfl) (by kernel_rfl) (by kernel_rfl)) (fun K1 q1 hs => ?_)
  rw [s_slices_IndexFunc_2_L1] at hs
  show WpV cK0 Tryz.prog none 19 _ _ [(0, .vs 3 (List.map enc_Table s)), (1, .fn 66 [] [.ptr 1000000 0 0]), (7, .int .i64 (List.length s : Int)), (8, .int .i64 q1.1)] [(1000000, .box 34 [.int .i64 q1.2.1, .int .i64 q1.2.2.1, .str q1.2.2.2.1, .str q1.2.2.2.2.1, .vs 5 (encs_Expr q1.2.2.2.2.2)])] []
  refine v_seq (vr_text (o_runs 1 [(9, .bool (decide (q1.1 < (List.length s : Int))))] (by kernel_rfl) ?_))
  refine ov_nil (nrm_thenV (v_seq ?_))
  refine v_cond (decide (q1.1 < (List.length s : Int))) (by kernel_rfl) (fun h1 => ?_) (fun h1 => ?_)
  ·replace hs := bif_t h1 hs
   refine v_skip (nrm_thenV (v_seq (v_block (v_seq (vr_text (o_runs 2 [(5, .int .i64 q1.1), (10, .int .i64 q1.1)] (by kernel_rfl) ?_))))))
   refine ov_nil (nrm_thenV (v_seq (vr_text (o_runs 3 [(13, .int .i64 q1.1), (12, .vs 3 (List.map enc_Table s)), (11, .fn 66 [] [.ptr 1000000 0 0])] (by kernel_rfl) ?_))))
   obtain ⟨x1, g1, hs⟩ := bind_some hs; obtain ⟨g1a, g1b, g1c⟩ := idx_some g1
   refine o_pure (v := .vp (enc_Table x1) 0) (by kernel_rfl) (by kernel_rfl) (loc_indexVs (e := 129) (sz := 3) (k := .i64) (els := (List.map enc_Table s)) (cs := (enc_Table x1)) (by kernel_rfl) (by kernel_rfl) (by kernel_rfl) g1a (by rw [g1c]; exact map_get _ (by omega))) ?_
   refine o_runs 1 [(15, .agg (enc_Table x1))] (by kernel_rfl) ?_
   obtain ⟨y1, c1, hs⟩ := bind_some hs
   refine o_loc (F := [(1000000, .box 34 [.int .i64 q1.2.1, .int .i64 q1.2.2.1, .str q1.2.2.2.1, .str q1.2.2.2.2.1, .vs 5 (encs_Expr q1.2.2.2.2.2)])]) (F' := [(1000000, .box 34 [.int .i64 y1.2.1, .int .i64 y1.2.2.1, .str y1.2.2.2.1, .str y1.2.2.2.2.1, .vs 5 (encs_Expr y1.2.2.2.2.2)])]) (v := .bool y1.1) [1000000] (by kernel_rfl) (by kernel_rfl) rfl (by kernel_rfl) (loc_g (R := []) [.agg (enc_Table x1), .ptr 1000000 0 0] [(1000000, 1000000)] (callV_val (first := []) (caps := [.ptr 1000000 0 0]) hbv66 (by kernel_rfl) (by kernel_rfl)) (w_expr_context_row_1 x1 q1.2.1 q1.2.2.1 q1.2.2.2.1 q1.2.2.2.2.1 q1.2.2.2.2.2 _ c1) (.cons (.same _) (.cons (.same _) (.nil))) (by kernel_rfl) (by kernel_rfl) (by kernel_rfl) (by kernel_rfl) (by kernel_rfl) (by kernel_rfl) (by kernel_rfl) (by kernel_rfl)) (by kernel_rfl) ?_
   refine ov_nil (nrm_thenV ?_)
   refine v_cond y1.1 (by kernel_rfl) (fun h2 => ?_) (fun h2 => ?_)
   ·replace hs := bif_t h2 hs
    refine v_seq (vr_text (o_runs 2 [(4, .int .i64 q1.1), (17, .int .i64 q1.1)] (by kernel_rfl) ?_))
    refine ov_nil (nrm_thenV (v_ret (ret_blkV (ret_thenV (ret_fuel ?_)))))
    refine ret_blkV (ret_join ?_)
    refine ret_thenV ?_
    obtain rfl := si hs
    replace hs := hk1
    obtain rfl := si hs
    exact fin_ret (by kernel_rfl) (by kernel_rfl) (by kernel_rfl)
   ·replace hs := bif_f h2 hs
    refine v_skip (nrm_blkV (nrm_thenV (vr_text (o_runs 2 [(8, .int .i64 (w64 (q1.1 + 1))), (18, .int .i64 (w64 (q1.1 + 1)))] (by kernel_rfl) ?_))))
    refine ov_nil (nrm_fuel ((w64 (q1.1 + 1)), y1.2.1, y1.2.2.1, y1.2.2.2.1, y1.2.2.2.2.1, y1.2.2.2.2.2) hs ?_)
    exact cut_of [0, 1, 7, 8] [1000000] (by kernel_rfl) (by kernel_rfl) (by kernel_rfl)
  ·replace hs := bif_f h1 hs
   refine v_exit (exit_thenV (exit_fuel ?_))
   refine exit_blkV ?_
   obtain rfl := si hs
   refine nrm_join (q1.2.1, q1.2.2.1, q1.2.2.2.1, q1.2.2.2.2.1, q1.2.2.2.2.2) rfl ?_
   exact cut_of [] [1000000] (by kernel_rfl) (by kernel_rfl) (by kernel_rfl)
 ·subst hz; clear hs; have hs := hk1; clear hk1
  refine nrm_thenV (v_seq (vr_text (o_runs 1 [(4, .int .i64 (-1))] (by kernel_rfl) ?_)))
  refine ov_nil (nrm_thenV (v_ret ?_))
  obtain rfl := si hs
  exact fin_ret (by kernel_rfl) (by kernel_rfl) (by kernel_rfl)
theorem w_expr_context_row_2 (r_ : Entry) (a1_Op : Int) (a1_N : Int) (a1_S : (List UInt8)) (a1_Key : (List UInt8)) (a1_Args : (List Expr)) (r : Bool × Int × Int × (List UInt8) × (List UInt8) × (List Expr)) (hs : s_expr_context_row_2 r_ a1_Op a1_N a1_S a1_Key a1_Args = some r) : FnA Tryz.prog 68 [.agg (enc_Entry r_), .ptr 1000000 0 0] [(1000000, .box 34 [.int .i64 a1_Op, .int .i64 a1_N, .str a1_S, .str a1_Key, .vs 5 (encs_Expr a1_Args)])] (.bool r.1) [(1000000, .box 34 [.int .i64 r.2.1, .int .i64 r.2.2.1, .str r.2.2.2.1, .str r.2.2.2.2.1, .vs 5 (encs_Expr r.2.2.2.2.2)])] := by
 refine fnA_of_wp (N := 9) Tryz.func68 rfl rfl rfl fun cK0 => ?_
 unfold s_expr_context_row_2 at hs
 refine v_same (ρ' := [(0, .agg (enc_Entry r_)), (1, .ptr 1000000 0 0)]) rfl rfl ?_
 refine v_seq (vr_text (o_runh 2 [(3, .bool false), (2, .ptr 2 0 0)] [(2, .box 31 [.str r_.Name, .int .i64 r_.N]), (1000000, .box 34 [.int .i64 a1_Op, .int .i64 a1_N, .str a1_S, .str a1_Key, .vs 5 (encs_Expr a1_Args)])] (by kernel_rfl) ?_))
 refine ov_nil (nrm_thenV (v_seq (vr_text (o_runs 6 [(3, .bool (decide (r_.Name = a1_Key))), (8, .bool (decide (r_.Name = a1_Key))), (7, .str a1_Key), (6, .ptr 1000000 0 3), (5, .str r_.Name), (4, .ptr 2 0 0)] (by kernel_rfl) ?_))))
 refine ov_nil (nrm_thenV (v_ret ?_))
 obtain rfl := si hs
 exact fin_ret (by kernel_rfl) (by kernel_rfl) (by kernel_rfl)
theorem w_slices_IndexFunc_3 (s : (List Entry)) (r_Op : Int) (r_N : Int) (r_S : (List UInt8)) (r_Key : (List UInt8)) (r_Args : (List Expr)) (r : Int × Int × Int × (List UInt8) × (List UInt8) × (List Expr)) (hs : s_slices_IndexFunc_3 s r_Op r_N r_S r_Key r_Args = some r) : FnA Tryz.prog 67 [.vs 2 (List.map enc_Entry s), .fn 68 [] [.ptr 1000000 0 0]] [(1000000, .box 34 [.int .i64 r_Op, .int .i64 r_N, .str r_S, .str r_Key, .vs 5 (encs_Expr r_Args)])] (.int .i64 r.1) [(1000000, .box 34 [.int .i64 r.2.1, .int .i64 r.2.2.1, .str r.2.2.2.1, .str r.2.2.2.2.1, .vs 5 (encs_Expr r.2.2.2.2.2)])] := by
 refine fnA_of_wp (N := 19) Tryz.func67 rfl rfl rfl fun cK0 => ?_
 unfold s_slices_IndexFunc_3 at hs
 refine v_same (ρ' := [(0, .vs 2 (List.map enc_Entry s)), (1, .fn 68 [] [.ptr 1000000 0 0])]) rfl rfl ?_
 refine v_seq (vr_text (o_runs 1 [(4, .int .i64 0)] (by kernel_rfl) ?_))
 refine ov_nil (nrm_thenV (v_seq (v_seq (vr_text (o_runs 1 [(6, .vs 2 (List.map enc_Entry s))] (by kernel_rfl) ?_)))))
 refine o_pure (v := .int .i64 (List.length s : Int)) (by kernel_rfl) (by kernel_rfl) (loc_lenVs (sz := 2) (els := (List.map enc_Entry s)) (by kernel_rfl) (by kernel_rfl) (List.length_map ..)) ?_
 refine o_runs 1 [(8, .int .i64 0)] (by kernel_rfl) ?_
 refine ov_nil (nrm_thenV ?_)
 obtain ⟨z1, hs, hk1⟩ := bind_some hs
 refine v_join (S := Int × Int × (List UInt8) × (List UInt8) × (List Expr)) (fun u => z1 = .inr u) (fun u => []) (fun u => [(1000000, .box 34 [.int .i64 u.1, .int .i64 u.2.1, .str u.2.2.1, .str u.2.2.2.1, .vs 5 (encs_Expr u.2.2.2.2)])]) ?_ (fun v1 hz => ?_)
 ·refine v_block ?_
  refine v_fuel (S := Int × Int × Int × (List UInt8) × (List UInt8) × (List Expr)) (fun u => [(0, .vs 2 (List.map enc_Entry s)), (1, .fn 68 [] [.ptr 1000000 0 0]), (7, .int .i64 (List.length s : Int)), (8, .int .i64 u.1)]) (fun u => [(1000000, .box 34 [.int .i64 u.2.1, .int .i64 u.2.2.1, .str u.2.2.2.1, .str u.2.2.2.2.1, .vs 5 (encs_Expr u.2.2.2.2.2)])]) (s_slices_IndexFunc_3_L1 s) (fun _ => rfl) KK (0, r_Op, r_N, r_S, r_Key, r_Args) hs (cut_of [0, 1, 7, 8] [1000000] (by kernel_rfl) (by kernel_rfl) (by kernel_rfl)) (fun K1 q1 hs => ?_)
  rw [s_slices_IndexFunc_3_L1] at hs
  show WpV cK0 Tryz.prog none 19 _ _ [(0, .vs 2 (List.map enc_Entry s)), (1, .fn 68 [] [.ptr 1000000 0 0]), (7, .int .i64 (List.length s : Int)), (8, .int .i64 q1.1)] [(1000000, .box 34 [.int .i64 q1.2.1, .int .i64 q1.2.2.1, .str q1.2.2.2.1, .str q1.2.2.2.2.1, .vs 5 (encs_Expr q1.2.2.2.2.2)])] []
  refine v_seq (vr_text (o_runs 1 [(9, .bool (decide (q1.1 < (List.length s : Int))))] (by kernel_rfl) ?_))
  refine ov_nil (nrm_thenV (v_seq ?_))
  refine v_cond (decide (q1.1 < (List.length s : Int))) (by kernel_rfl) (fun h1 => ?_) (fun h1 => ?_)
  ·replace hs := bif_t h1 hs
   refine v_skip (nrm_thenV (v_seq (v_block (v_seq (vr_text (o_runs 2 [(5, .int .i64 q1.1), (10, .int .i64 q1.1)] (by kernel_rfl) ?_))))))
   refine ov_nil (nrm_thenV (v_seq (vr_text (o_runs 3 [(13, .int .i64 q1.1), (12, .vs 2 (List.map enc_Entry s)), (11, .fn 68 [] [.ptr 1000000 0 0])] (by kernel_rfl) ?_))))
   obtain ⟨x1, g1, hs⟩ := bind_some hs; obtain ⟨g1a, g1b, g1c⟩ := idx_some g1
   refine o_pure (v := .vp (enc_Entry x1) 0) (by kernel_rfl) (by kernel_rfl) (loc_indexVs (e := 31) (sz := 2) (k := .i64) (els := (List.map enc_Entry s)) (cs := (enc_Entry x1)) (by kernel_rfl) (by kernel_rfl) (by kernel_rfl) g1a (by rw [g1c]; exact map_get _ (by omega))) ?_
   refine o_runs 1 [(15, .agg (enc_Entry x1))] (by kernel_rfl) ?_
   obtain ⟨y1, c1, hs⟩ := bind_some hs
   refine o_loc (F := [(1000000, .box 34 [.int .i64 q1.2.1, .int .i64 q1.2.2.1, .str q1.2.2.2.1, .str q1.2.2.2.2.1, .vs 5 (encs_Expr q1.2.2.2.2.2)])]) (F' := [(1000000, .box 34 [.int .i64 y1.2.1, .int .i64 y1.2.2.1, .str y1.2.2.2.1, .str y1.2.2.2.2.1, .vs 5 (encs_Expr y1.2.2.2.2.2)])]) (v := .bool y1.1) [1000000] (by kernel_rfl) (by kernel_rfl) rfl (by kernel_rfl) (loc_g (R := []) [.agg (enc_Entry x1), .ptr 1000000 0 0] [(1000000, 1000000)] (callV_val (first := []) (caps := [.ptr 1000000 0 0]) hbv68 (by kernel_rfl) (by kernel_rfl)) (w_expr_context_row_2 x1 q1.2.1 q1.2.2.1 q1.2.2.2.1 q1.2.2.2.2.1 q1.2.2.2.2.2 _ c1) (.cons (.same _) (.cons (.same _) (.nil))) (by kernel_rfl) (by kernel_rfl) (by kernel_rfl) (by kernel_rfl) (by kernel_rfl) (by kernel_rfl) (by kernel_rfl) (by kernel_rfl)) (by kernel_rfl) ?_
   refine ov_nil (nrm_thenV ?_)
   refine v_cond y1.1 (by kernel_rfl) (fun h2 => ?_) (fun h2 => ?_)
   ·replace hs := bif_t h2 hs
    refine v_seq (vr_text (o_runs 2 [(4, .int .i64 q1.1), (17, .int .i64 q1.1)] (by kernel_rfl) ?_))
    refine ov_nil (nrm_thenV (v_ret (ret_blkV (ret_thenV (ret_fuel ?_)))))
    refine ret_blkV (ret_join ?_)
    refine ret_thenV ?_
    obtain rfl := si hs
    replace hs := hk1
    obtain rfl := si hs
    exact fin_ret (by kernel_rfl) (by kernel_rfl) (by kernel_rfl)
   ·replace hs := bif_f h2 hs
    refine v_skip (nrm_blkV (nrm_thenV (vr_text (o_runs 2 [(8, .int .i64 (w64 (q1.1 + 1))), (18, .int .i64 (w64 (q1.1 + 1)))] (by kernel_rfl) ?_))))
    refine ov_nil (nrm_fuel ((w64 (q1.1 + 1)), y1.2.1, y1.2.2.1, y1.2.2.2.1, y1.2.2.2.2.1, y1.2.2.2.2.2) hs ?_)
    exact cut_of [0, 1, 7, 8] [1000000] (by kernel_rfl) (by kernel_rfl) (by kernel_rfl)
  ·replace hs := bif_f h1 hs
   refine v_exit (exit_thenV (exit_fuel ?_))
   refine exit_blkV ?_
   obtain rfl := si hs
   refine nrm_join (q1.2.1, q1.2.2.1, q1.2.2.2.1, q1.2.2.2.2.1, q1.2.2.2.2.2) rfl ?_
   exact cut_of [] [1000000] (by kernel_rfl) (by kernel_rfl) (by kernel_rfl)
 ·subst hz; clear hs; have hs := hk1; clear hk1
  refine nrm_thenV (v_seq (vr_text (o_runs 1 [(4, .int .i64 (-1))] (by kernel_rfl) ?_)))
  refine ov_nil (nrm_thenV (v_ret ?_))
  obtain rfl := si hs
  exact fin_ret (by kernel_rfl) (by kernel_rfl) (by kernel_rfl)
theorem w_expr_context_row (c_plan : Plan) (c_known : (List ((List UInt8) × Int))) (c_zones : (List (List UInt8))) (e : Expr) (r : Int) (hs : s_expr_context_row c_plan c_known c_zones e = some r) : FnA Tryz.prog 37 [.agg [.vs 6 (List.map enc_Def c_plan.Defs), .vs 3 (List.map enc_Table c_plan.Tables), .vs 3 (List.map enc_Zone c_plan.Zones), .vs 20 (List.map enc_Rule c_plan.Rules), .vs 4 (List.map enc_Cap c_plan.Caps), .vs 6 (List.map enc_View c_plan.Views), .vs 3 (List.map enc_Point3 c_plan.Sun), .int .i64 c_plan.Hours, .mp 1000000, .vs 1 (List.map EV.encS c_zones)], .agg (enc_Expr e)] [(1000000, .map (encM V.str (V.int .i64) c_known))] (.int .i64 r) [(1000000, .map (encM V.str (V.int .i64) c_known))] := by
 refine fnA_of_wp (N := 35) Tryz.func37 rfl rfl rfl fun cK0 => ?_
 unfold s_expr_context_row at hs
 refine v_same (ρ' := [(0, .agg [.vs 6 (List.map enc_Def c_plan.Defs), .vs 3 (List.map enc_Table c_plan.Tables), .vs 3 (List.map enc_Zone c_plan.Zones), .vs 20 (List.map enc_Rule c_plan.Rules), .vs 4 (List.map enc_Cap c_plan.Caps), .vs 6 (List.map enc_View c_plan.Views), .vs 3 (List.map enc_Point3 c_plan.Sun), .int .i64 c_plan.Hours, .mp 1000000, .vs 1 (List.map EV.encS c_zones)]), (1, .agg (enc_Expr e))]) rfl rfl ?_
 refine v_seq (vr_text (o_runh 3 [(4, .int .i64 0), (3, .ptr 3 0 0), (2, .ptr 2 0 0)] [(3, .box 34 [.int .i64 e.Op, .int .i64 e.N, .str e.S, .str e.Key, .vs 5 (encs_Expr e.Args)]), (2, .box 69 [.vs 6 (List.map enc_Def c_plan.Defs), .vs 3 (List.map enc_Table c_plan.Tables), .vs 3 (List.map enc_Zone c_plan.Zones), .vs 20 (List.map enc_Rule c_plan.Rules), .vs 4 (List.map enc_Cap c_plan.Caps), .vs 6 (List.map enc_View c_plan.Views), .vs 3 (List.map enc_Point3 c_plan.Sun), .int .i64 c_plan.Hours, .mp 1000000, .vs 1 (List.map EV.encS c_zones)]), (1000000, .map (encM V.str (V.int .i64) c_known))] (by kernel_rfl) ?_))
 refine ov_nil (nrm_thenV (v_seq (vr_text (o_runs 4 [(11, .fn 66 [] [.ptr 3 0 0]), (10, .vs 3 (List.map enc_Table c_plan.Tables)), (9, .ptr 2 0 1), (8, .ptr 2 0 0)] (by kernel_rfl) ?_))))
 obtain ⟨y1, c1, hs⟩ := bind_some hs
 refine o_loc (F := [(3, .box 34 [.int .i64 e.Op, .int .i64 e.N, .str e.S, .str e.Key, .vs 5 (encs_Expr e.Args)])]) (F' := [(3, .box 34 [.int .i64 y1.2.1, .int .i64 y1.2.2.1, .str y1.2.2.2.1, .str y1.2.2.2.2.1, .vs 5 (encs_Expr y1.2.2.2.2.2)])]) (v := .int .i64 y1.1) [3] (by kernel_rfl) (by kernel_rfl) rfl (by kernel_rfl) (loc_g (R := []) [.vs 3 (List.map enc_Table c_plan.Tables), .fn 66 [] [.ptr 3 0 0]] [(1000000, 3)] (callV_func hbv65 (by kernel_rfl)) (w_slices_IndexFunc_2 c_plan.Tables e.Op e.N e.S e.Key e.Args _ c1) (.cons (.same _) (.cons (.same _) (.nil))) (by kernel_rfl) (by kernel_rfl) (by kernel_rfl) (by kernel_rfl) (by kernel_rfl) (by kernel_rfl) (by kernel_rfl) (by kernel_rfl)) (by kernel_rfl) ?_
 refine o_runs 1 [(5, .int .i64 y1.1)] (by kernel_rfl) ?_
 refine ov_nil (nrm_thenV (v_seq (v_seq (vr_text (o_runs 2 [(14, .bool (decide (y1.1 < 0))), (13, .int .i64 y1.1)] (by kernel_rfl) ?_)))))
 refine ov_nil (nrm_thenV ?_)
 refine v_cond (decide (y1.1 < 0)) (by kernel_rfl) (fun h1 => ?_) (fun h1 => ?_)
 ·replace hs := bif_t h1 hs
  refine v_seq (vr_text (o_runs 1 [(4, .int .i64 0)] (by kernel_rfl) ?_))
  refine ov_nil (nrm_thenV (v_ret (ret_thenV ?_)))
  obtain rfl := si hs
  exact fin_ret (by kernel_rfl) (by kernel_rfl) (by kernel_rfl)
 ·replace hs := bif_f h1 hs
  refine v_skip (nrm_thenV (v_seq (vr_text (o_runs 4 [(18, .int .i64 y1.1), (17, .vs 3 (List.map enc_Table c_plan.Tables)), (16, .ptr 2 0 1), (15, .ptr 2 0 0)] (by kernel_rfl) ?_))))
  obtain ⟨x1, g1, hs⟩ := bind_some hs; obtain ⟨g1a, g1b, g1c⟩ := idx_some g1
  refine o_pure (v := .vp (enc_Table x1) 0) (by kernel_rfl) (by kernel_rfl) (loc_indexVs (e := 129) (sz := 3) (k := .i64) (els := (List.map enc_Table c_plan.Tables)) (cs := (enc_Table x1)) (by kernel_rfl) (by kernel_rfl) (by kernel_rfl) g1a (by rw [g1c]; exact map_get _ (by omega))) ?_
  refine o_runh 3 [(6, .ptr 6 0 0), (20, .agg (enc_Table x1))] [(6, .box 129 [.str x1.Name, .vs 2 (List.map enc_Entry x1.Rows), .int .i64 x1.Else]), (3, .box 34 [.int .i64 y1.2.1, .int .i64 y1.2.2.1, .str y1.2.2.2.1, .str y1.2.2.2.2.1, .vs 5 (encs_Expr y1.2.2.2.2.2)]), (2, .box 69 [.vs 6 (List.map enc_Def c_plan.Defs), .vs 3 (List.map enc_Table c_plan.Tables), .vs 3 (List.map enc_Zone c_plan.Zones), .vs 20 (List.map enc_Rule c_plan.Rules), .vs 4 (List.map enc_Cap c_plan.Caps), .vs 6 (List.map enc_View c_plan.Views), .vs 3 (List.map enc_Point3 c_plan.Sun), .int .i64 c_plan.Hours, .mp 1000000, .vs 1 (List.map EV.encS c_zones)]), (1000000, .map (encM V.str (V.int .i64) c_known))] (by kernel_rfl) ?_
  refine ov_nil (nrm_thenV (v_seq (v_seq (vr_text (o_runs 3 [(23, .fn 68 [] [.ptr 3 0 0]), (22, .vs 2 (List.map enc_Entry x1.Rows)), (21, .ptr 6 0 1)] (by kernel_rfl) ?_)))))
  obtain ⟨y2, c2, hs⟩ := bind_some hs
  refine o_loc (F := [(3, .box 34 [.int .i64 y1.2.1, .int .i64 y1.2.2.1, .str y1.2.2.2.1, .str y1.2.2.2.2.1, .vs 5 (encs_Expr y1.2.2.2.2.2)])]) (F' := [(3, .box 34 [.int .i64 y2.2.1, .int .i64 y2.2.2.1, .str y2.2.2.2.1, .str y2.2.2.2.2.1, .vs 5 (encs_Expr y2.2.2.2.2.2)])]) (v := .int .i64 y2.1) [3] (by kernel_rfl) (by kernel_rfl) rfl (by kernel_rfl) (loc_g (R := []) [.vs 2 (List.map enc_Entry x1.Rows), .fn 68 [] [.ptr 3 0 0]] [(1000000, 3)] (callV_func hbv67 (by kernel_rfl)) (w_slices_IndexFunc_3 x1.Rows y1.2.1 y1.2.2.1 y1.2.2.2.1 y1.2.2.2.2.1 y1.2.2.2.2.2 _ c2) (.cons (.same _) (.cons (.same _) (.nil))) (by kernel_rfl) (by kernel_rfl) (by kernel_rfl) (by kernel_rfl) (by kernel_rfl) (by kernel_rfl) (by kernel_rfl) (by kernel_rfl)) (by kernel_rfl) ?_
  refine o_runs 1 [(7, .int .i64 y2.1)] (by kernel_rfl) ?_
  refine ov_nil (nrm_thenV (v_seq (vr_text (o_runs 2 [(26, .bool (decide (y2.1 ≥ 0))), (25, .int .i64 y2.1)] (by kernel_rfl) ?_))))
  refine ov_nil (nrm_thenV ?_)
  refine v_cond (decide (y2.1 ≥ 0)) (by kernel_rfl) (fun h2 => ?_) (fun h2 => ?_)
  ·replace hs := bif_t h2 hs
   refine v_seq (vr_text (o_runs 3 [(29, .int .i64 y2.1), (28, .vs 2 (List.map enc_Entry x1.Rows)), (27, .ptr 6 0 1)] (by kernel_rfl) ?_))
   obtain ⟨x2, g2, hs⟩ := bind_some hs; obtain ⟨g2a, g2b, g2c⟩ := idx_some g2
   refine o_pure (v := .vp (enc_Entry x2) 0) (by kernel_rfl) (by kernel_rfl) (loc_indexVs (e := 31) (sz := 2) (k := .i64) (els := (List.map enc_Entry x1.Rows)) (cs := (enc_Entry x2)) (by kernel_rfl) (by kernel_rfl) (by kernel_rfl) g2a (by rw [g2c]; exact map_get _ (by omega))) ?_
   refine o_runs 3 [(4, .int .i64 x2.N), (32, .int .i64 x2.N), (31, .vp (enc_Entry x2) 1)] (by kernel_rfl) ?_
   refine ov_nil (nrm_thenV (v_ret (ret_thenV ?_)))
   obtain rfl := si hs
   exact fin_ret (by kernel_rfl) (by kernel_rfl) (by kernel_rfl)
  ·replace hs := bif_f h2 hs
   refine v_skip (nrm_thenV (v_seq (vr_text (o_runs 3 [(4, .int .i64 x1.Else), (34, .int .i64 x1.Else), (33, .ptr 6 0 2)] (by kernel_rfl) ?_))))
   refine ov_nil (nrm_thenV (v_ret ?_))
   obtain rfl := si hs
   exact fin_ret (by kernel_rfl) (by kernel_rfl) (by kernel_rfl)
theorem w_slices_Index (s : (List (List UInt8))) (v : (List UInt8)) (r : Int) (hs : s_slices_Index s v = some r) : FnA Tryz.prog 69 [.vs 1 (List.map EV.encS s), .str v] [] (.int .i64 r) [] := by
 refine fnA_of_wp (N := 19) Tryz.func69 rfl rfl rfl fun cK0 => ?_
 unfold s_slices_Index at hs
 refine v_same (ρ' := [(0, .vs 1 (List.map EV.encS s)), (1, .str v)]) rfl rfl ?_
 refine v_seq (vr_text (o_runs 1 [(4, .int .i64 0)] (by kernel_rfl) ?_))
 refine ov_nil (nrm_thenV (v_seq (v_seq (vr_text (o_runs 1 [(6, .vs 1 (List.map EV.encS s))] (by kernel_rfl) ?_)))))
 refine o_pure (v := .int .i64 (List.length s : Int)) (by kernel_rfl) (by kernel_rfl) (loc_lenVs (sz := 1) (els := (List.map EV.encS s)) (by kernel_rfl) (by kernel_rfl) (List.length_map ..)) ?_
 refine o_runs 1 [(8, .int .i64 0)] (by kernel_rfl) ?_
 refine ov_nil (nrm_thenV ?_)
 obtain ⟨z1, hs, hk1⟩ := bind_some hs
 refine v_join (S := Unit) (fun u => z1 = .inr u) (fun u => []) (fun u => []) ?_ (fun v1 hz => ?_)
 ·refine v_block ?_
  refine v_fuel (S := Int) (fun u => [(0, .vs 1 (List.map EV.encS s)), (1, .str v), (7, .int .i64 (List.length s : Int)), (8, .int .i64 u)]) (fun u => []) (s_slices_Index_L1 s v) (fun _ => rfl) KK 0 hs (cut_of [0, 1, 7, 8] [] (by kernel_rfl) (by kernel_rfl) (by kernel_rfl)) (fun K1 q1 hs => ?_)
  rw [s_slices_Index_L1] at hs
  show WpV cK0 Tryz.prog none 19 _ _ [(0, .vs 1 (List.map EV.encS s)), (1, .str v), (7, .int .i64 (List.length s : Int)), (8, .int .i64 q1)] [] []
  refine v_seq (vr_text (o_runs 1 [(9, .bool (decide (q1 < (List.length s : Int))))] (by kernel_rfl) ?_))
  refine ov_nil (nrm_thenV (v_seq ?_))
  refine v_cond (decide (q1 < (List.length s : Int))) (by kernel_rfl) (fun h1 => ?_) (fun h1 => ?_)
  ·replace hs := bif_t h1 hs
   refine v_skip (nrm_thenV (v_seq (v_block (v_seq (vr_text (o_runs 2 [(5, .int .i64 q1), (10, .int .i64 q1)] (by kernel_rfl) ?_))))))
   refine ov_nil (nrm_thenV (v_seq (vr_text (o_runs 3 [(13, .int .i64 q1), (12, .vs 1 (List.map EV.encS s)), (11, .str v)] (by kernel_rfl) ?_))))
   obtain ⟨x1, g1, hs⟩ := bind_some hs; obtain ⟨g1a, g1b, g1c⟩ := idx_some g1
   refine o_pure (v := .vp [.str x1] 0) (by kernel_rfl) (by kernel_rfl) (loc_indexVs (e := 9) (sz := 1) (k := .i64) (els := (List.map EV.encS s)) (cs := (EV.encS x1)) (by kernel_rfl) (by kernel_rfl) (by kernel_rfl) g1a (by rw [g1c]; exact map_get _ (by omega))) ?_
   refine o_runs 2 [(16, .bool (decide (v = x1))), (15, .str x1)] (by kernel_rfl) ?_
   refine ov_nil (nrm_thenV ?_)
   refine v_cond (decide (v = x1)) (by kernel_rfl) (fun h2 => ?_) (fun h2 => ?_)
   ·replace hs := bif_t h2 hs
    refine v_seq (vr_text (o_runs 2 [(4, .int .i64 q1), (17, .int .i64 q1)] (by kernel_rfl) ?_))
    refine ov_nil (nrm_thenV (v_ret (ret_blkV (ret_thenV (ret_fuel ?_)))))
    refine ret_blkV (ret_join ?_)
    refine ret_thenV ?_
    obtain rfl := si hs
    replace hs := hk1
    obtain rfl := si hs
    exact fin_ret (by kernel_rfl) (by kernel_rfl) (by kernel_rfl)
   ·replace hs := bif_f h2 hs
    refine v_skip (nrm_blkV (nrm_thenV (vr_text (o_runs 2 [(8, .int .i64 (w64 (q1 + 1))), (18, .int .i64 (w64 (q1 + 1)))] (by kernel_rfl) ?_))))
    refine ov_nil (nrm_fuel (w64 (q1 + 1)) hs ?_)
    exact cut_of [0, 1, 7, 8] [] (by kernel_rfl) (by kernel_rfl) (by kernel_rfl)
  ·replace hs := bif_f h1 hs
   refine v_exit (exit_thenV (exit_fuel ?_))
   refine exit_blkV ?_
   obtain rfl := si hs
   refine nrm_join () rfl ?_
   exact cut_of [] [] (by kernel_rfl) (by kernel_rfl) (by kernel_rfl)
 ·subst hz; clear hs; have hs := hk1; clear hk1
  refine nrm_thenV (v_seq (vr_text (o_runs 1 [(4, .int .i64 (-1))] (by kernel_rfl) ?_)))
  refine ov_nil (nrm_thenV (v_ret ?_))
  obtain rfl := si hs
  exact fin_ret (by kernel_rfl) (by kernel_rfl) (by kernel_rfl)
theorem w_slices_Contains (s : (List (List UInt8))) (v : (List UInt8)) (r : Bool) (hs : s_slices_Contains s v = some r) : FnA Tryz.prog 39 [.vs 1 (List.map EV.encS s), .str v] [] (.bool r) [] := by
 refine fnA_of_wp (N := 9) Tryz.func39 rfl rfl rfl fun cK0 => ?_
 unfold s_slices_Contains at hs
 refine v_same (ρ' := [(0, .vs 1 (List.map EV.encS s)), (1, .str v)]) rfl rfl ?_
 refine v_seq (vr_text (o_runs 1 [(4, .bool false)] (by kernel_rfl) ?_))
 refine ov_nil (nrm_thenV (v_seq (vr_text (o_runs 2 [(6, .str v), (5, .vs 1 (List.map EV.encS s))] (by kernel_rfl) ?_))))
 obtain ⟨y1, c1, hs⟩ := bind_some hs
 refine o_pure (v := .int .i64 y1) (by kernel_rfl) (by kernel_rfl) (loc_gcall0 (callV_func hbv69 (by kernel_rfl)) (w_slices_Index s v _ c1) (by kernel_rfl)) ?_
 refine o_runs 2 [(4, .bool (decide (y1 ≥ 0))), (8, .bool (decide (y1 ≥ 0)))] (by kernel_rfl) ?_
 refine ov_nil (nrm_thenV (v_ret ?_))
 obtain rfl := si hs
 exact fin_ret (by kernel_rfl) (by kernel_rfl) (by kernel_rfl)
theorem w_expr_bit (ok : Bool) (r : Int) (hs : s_expr_bit ok = some r) : FnA Tryz.prog 38 [.bool ok] [] (.int .i64 r) [] := by
 refine fnA_of_wp (N := 4) Tryz.func38 rfl rfl rfl fun cK0 => ?_
 unfold s_expr_bit at hs
 refine v_same (ρ' := [(0, .bool ok)]) rfl rfl ?_
 refine v_seq (vr_text (o_runs 1 [(2, .int .i64 0)] (by kernel_rfl) ?_))
 refine ov_nil (nrm_thenV (v_seq (v_seq (vr_text (o_runs 1 [(3, .bool ok)] (by kernel_rfl) ?_)))))
 refine ov_nil (nrm_thenV ?_)
 refine v_cond ok (by kernel_rfl) (fun h1 => ?_) (fun h1 => ?_)
 ·replace hs := bif_t h1 hs
  refine v_seq (vr_text (o_runs 1 [(2, .int .i64 1)] (by kernel_rfl) ?_))
  refine ov_nil (nrm_thenV (v_ret (ret_thenV ?_)))
  obtain rfl := si hs
  exact fin_ret (by kernel_rfl) (by kernel_rfl) (by kernel_rfl)
 ·replace hs := bif_f h1 hs
  refine v_skip (nrm_thenV (v_seq (vr_text (o_runs 1 [(2, .int .i64 0)] (by kernel_rfl) ?_))))
  refine ov_nil (nrm_thenV (v_ret ?_))
  obtain rfl := si hs
  exact fin_ret (by kernel_rfl) (by kernel_rfl) (by kernel_rfl)
theorem w_expr_quotient (a : Int) (b : Int) (r : Int) (hs : s_expr_quotient a b = some r) : FnA Tryz.prog 70 [.int .i64 a, .int .i64 b] [] (.int .i64 r) [] := by
 refine fnA_of_wp (N := 27) Tryz.func70 rfl rfl rfl fun cK0 => ?_
 unfold s_expr_quotient at hs
 refine v_same (ρ' := [(0, .int .i64 a), (1, .int .i64 b)]) rfl rfl ?_
 refine v_seq (vr_text (o_runs 1 [(4, .int .i64 0)] (by kernel_rfl) ?_))
 refine ov_nil (nrm_thenV (v_seq (v_seq (vr_text (o_runs 2 [(8, .bool (decide (b = 0))), (7, .int .i64 b)] (by kernel_rfl) ?_)))))
 refine ov_nil (nrm_thenV ?_)
 refine v_cond (decide (b = 0)) (by kernel_rfl) (fun h1 => ?_) (fun h1 => ?_)
 ·replace hs := bif_t h1 hs
  refine v_seq (vr_text (o_runs 1 [(4, .int .i64 0)] (by kernel_rfl) ?_))
  refine ov_nil (nrm_thenV (v_ret (ret_thenV ?_)))
  obtain rfl := si hs
  exact fin_ret (by kernel_rfl) (by kernel_rfl) (by kernel_rfl)
 ·replace hs := bif_f h1 hs
  refine v_skip (nrm_thenV (v_seq (vr_text (o_runs 2 [(10, .int .i64 b), (9, .int .i64 a)] (by kernel_rfl) ?_))))
  obtain ⟨_, g1, hs⟩ := bind_some hs; replace g1 := grd_some g1
  refine o_pure (v := .int .i64 (w64 (Int.tdiv a b))) (by kernel_rfl) (by kernel_rfl) (loc_div (k := .i64) (a := a) (b := b) (by simp) (by kernel_rfl) (by kernel_rfl) g1) ?_
  refine o_runs 1 [(5, .int .i64 (w64 (Int.tdiv a b)))] (by kernel_rfl) ?_
  refine ov_nil (nrm_thenV (v_seq (v_seq (vr_text (o_runs 2 [(13, .int .i64 b), (12, .int .i64 a)] (by kernel_rfl) ?_)))))
  obtain ⟨_, g2, hs⟩ := bind_some hs; replace g2 := grd_some g2
  refine o_pure (v := .int .i64 (Int.tmod a b)) (by kernel_rfl) (by kernel_rfl) (loc_div (k := .i64) (a := a) (b := b) (by simp) (by kernel_rfl) (by kernel_rfl) g2) ?_
  refine o_runs 1 [(6, .int .i64 (Int.tmod a b))] (by kernel_rfl) ?_
  refine ov_nil (nrm_thenV (v_seq ?_))
  obtain ⟨z1, hs, hk1⟩ := bind_some hs
  refine v_join (S := Bool) (fun u => u = z1) (fun u => [(5, .int .i64 (w64 (Int.tdiv a b))), (23, .bool u)]) (fun u => []) ?_ (fun v1 hz => ?_)
  ·refine vr_text (o_runs 3 [(17, .bool (!(decide ((Int.tmod a b) = 0)))), (16, .bool (!(decide ((Int.tmod a b) = 0)))), (15, .int .i64 (Int.tmod a b))] (by kernel_rfl) ?_)
   cases h2 : ((!(decide ((Int.tmod a b) = 0))))
   ·replace hs := bif_f h2 hs
    refine o_runs 6 [(23, .bool false), (22, .no), (21, .no), (20, .no), (19, .no), (18, .no)] (by kernel_rfl) ?_
    refine ov_nil ?_
    obtain rfl := si hs
    refine nrm_join false rfl ?_
    exact cut_of [5, 23] [] (by kernel_rfl) (by kernel_rfl) (by kernel_rfl)
   ·replace hs := bif_t h2 hs
    refine o_runs 6 [(23, .bool (!((decide ((Int.tmod a b) < 0)) == (decide (b < 0))))), (22, .bool (!((decide ((Int.tmod a b) < 0)) == (decide (b < 0))))), (21, .bool (decide (b < 0))), (20, .int .i64 b), (19, .bool (decide ((Int.tmod a b) < 0))), (18, .int .i64 (Int.tmod a b))] (by kernel_rfl) ?_
    refine ov_nil ?_
    obtain rfl := si hs
    refine nrm_join (!((decide ((Int.tmod a b) < 0)) == (decide (b < 0)))) rfl ?_
    exact cut_of [5, 23] [] (by kernel_rfl) (by kernel_rfl) (by kernel_rfl)
  ·subst hz; clear hs; have hs := hk1; clear hk1
   refine nrm_thenV ?_
   obtain ⟨z2, hs, hk2⟩ := bind_some hs
   refine v_join (S := Int) (fun u => u = z2) (fun u => [(5, .int .i64 u)]) (fun u => []) ?_ (fun v2 hz => ?_)
   ·refine v_cond v1 (by kernel_rfl) (fun h3 => ?_) (fun h3 => ?_)
    ·replace hs := bif_t h3 hs
     refine vr_text (o_runs 3 [(5, .int .i64 (w64 ((w64 (Int.tdiv a b)) - 1))), (25, .int .i64 (w64 ((w64 (Int.tdiv a b)) - 1))), (24, .int .i64 (w64 (Int.tdiv a b)))] (by kernel_rfl) ?_)
     refine ov_nil ?_
     obtain rfl := si hs
     refine nrm_join (w64 ((w64 (Int.tdiv a b)) - 1)) rfl ?_
     exact cut_of [5] [] (by kernel_rfl) (by kernel_rfl) (by kernel_rfl)
    ·replace hs := bif_f h3 hs
     refine v_skip ?_
     obtain rfl := si hs
     refine nrm_join (w64 (Int.tdiv a b)) rfl ?_
     exact cut_of [5] [] (by kernel_rfl) (by kernel_rfl) (by kernel_rfl)
   ·subst hz; clear hs; have hs := hk2; clear hk2
    refine nrm_thenV (v_seq (vr_text (o_runs 2 [(4, .int .i64 v2), (26, .int .i64 v2)] (by kernel_rfl) ?_)))
    refine ov_nil (nrm_thenV (v_ret ?_))
    obtain rfl := si hs
    exact fin_ret (by kernel_rfl) (by kernel_rfl) (by kernel_rfl)
theorem w_expr_binary (op : Int) (a : Int) (b : Int) (r : Int) (hs : s_expr_binary op a b = some r) : FnA Tryz.prog 40 [.int .i64 op, .int .i64 a, .int .i64 b] [] (.int .i64 r) [] := by
 refine fnA_of_wp (N := 73) Tryz.func40 rfl rfl rfl fun cK0 => ?_
 unfold s_expr_binary at hs
 refine v_same (ρ' := [(0, .int .i64 op), (1, .int .i64 a), (2, .int .i64 b)]) rfl rfl ?_
 refine v_seq (vr_text (o_runs 1 [(6, .int .i64 0)] (by kernel_rfl) ?_))
 refine ov_nil (nrm_thenV (v_seq (v_seq (vr_text (o_runs 1 [(7, .int .i64 op)] (by kernel_rfl) ?_)))))
 refine ov_nil (nrm_thenV (v_block (v_seq (vr_text (o_runs 2 [(8, .bool (decide (op = 4))), (9, .bool (decide (op = 4)))] (by kernel_rfl) ?_)))))
 refine ov_nil (nrm_thenV ?_)
 refine v_cond (decide (op = 4)) (by kernel_rfl) (fun h1 => ?_) (fun h1 => ?_)
 ·replace hs := bif_t h1 hs
  refine v_seq (vr_text (o_runs 4 [(6, .int .i64 (w64 (a + b))), (12, .int .i64 (w64 (a + b))), (11, .int .i64 b), (10, .int .i64 a)] (by kernel_rfl) ?_))
  refine ov_nil (nrm_thenV (v_ret (ret_blkV (ret_thenV ?_))))
  obtain rfl := si hs
  exact fin_ret (by kernel_rfl) (by kernel_rfl) (by kernel_rfl)
 ·replace hs := bif_f h1 hs
  refine v_seq (vr_text (o_runs 2 [(13, .bool (decide (op = 5))), (14, .bool (decide (op = 5)))] (by kernel_rfl) ?_))
  refine ov_nil (nrm_thenV ?_)
  refine v_cond (decide (op = 5)) (by kernel_rfl) (fun h2 => ?_) (fun h2 => ?_)
  ·replace hs := bif_t h2 hs
   refine v_seq (vr_text (o_runs 4 [(6, .int .i64 (w64 (a - b))), (17, .int .i64 (w64 (a - b))), (16, .int .i64 b), (15, .int .i64 a)] (by kernel_rfl) ?_))
   refine ov_nil (nrm_thenV (v_ret (ret_blkV (ret_thenV ?_))))
   obtain rfl := si hs
   exact fin_ret (by kernel_rfl) (by kernel_rfl) (by kernel_rfl)
  ·replace hs := bif_f h2 hs
   refine v_seq (vr_text (o_runs 2 [(18, .bool (decide (op = 6))), (19, .bool (decide (op = 6)))] (by kernel_rfl) ?_))
   refine ov_nil (nrm_thenV ?_)
   refine v_cond (decide (op = 6)) (by kernel_rfl) (fun h3 => ?_) (fun h3 => ?_)
   ·replace hs := bif_t h3 hs
    refine v_seq (vr_text (o_runs 4 [(6, .int .i64 (w64 (a * b))), (22, .int .i64 (w64 (a * b))), (21, .int .i64 b), (20, .int .i64 a)] (by kernel_rfl) ?_))
    refine ov_nil (nrm_thenV (v_ret (ret_blkV (ret_thenV ?_))))
    obtain rfl := si hs
    exact fin_ret (by kernel_rfl) (by kernel_rfl) (by kernel_rfl)
   ·replace hs := bif_f h3 hs
    refine v_seq (vr_text (o_runs 2 [(23, .bool (decide (op = 7))), (24, .bool (decide (op = 7)))] (by kernel_rfl) ?_))
    refine ov_nil (nrm_thenV ?_)
    refine v_cond (decide (op = 7)) (by kernel_rfl) (fun h4 => ?_) (fun h4 => ?_)
    ·replace hs := bif_t h4 hs
     refine v_seq (vr_text (o_runs 2 [(26, .int .i64 b), (25, .int .i64 a)] (by kernel_rfl) ?_))
     obtain ⟨y1, c1, hs⟩ := bind_some hs
     refine o_pure (v := .int .i64 y1) (by kernel_rfl) (by kernel_rfl) (loc_gcall0 (callV_func hbv70 (by kernel_rfl)) (w_expr_quotient a b _ c1) (by kernel_rfl)) ?_
     refine o_runs 1 [(6, .int .i64 y1)] (by kernel_rfl) ?_
     refine ov_nil (nrm_thenV (v_ret (ret_blkV (ret_thenV ?_))))
     obtain rfl := si hs
     exact fin_ret (by kernel_rfl) (by kernel_rfl) (by kernel_rfl)
    ·replace hs := bif_f h4 hs
     refine v_seq (vr_text (o_runs 2 [(28, .bool (decide (op = 8))), (29, .bool (decide (op = 8)))] (by kernel_rfl) ?_))
     refine ov_nil (nrm_thenV ?_)
     refine v_cond (decide (op = 8)) (by kernel_rfl) (fun h5 => ?_) (fun h5 => ?_)
     ·replace hs := bif_t h5 hs
      refine v_seq (v_seq (vr_text (o_runs 2 [(31, .bool (decide (b = 0))), (30, .int .i64 b)] (by kernel_rfl) ?_)))
      refine ov_nil (nrm_thenV ?_)
      refine v_cond (decide (b = 0)) (by kernel_rfl) (fun h6 => ?_) (fun h6 => ?_)
      ·replace hs := bif_t h6 hs
       refine v_seq (vr_text (o_runs 1 [(6, .int .i64 0)] (by kernel_rfl) ?_))
       refine ov_nil (nrm_thenV (v_ret (ret_thenV (ret_blkV (ret_thenV ?_)))))
       obtain rfl := si hs
       exact fin_ret (by kernel_rfl) (by kernel_rfl) (by kernel_rfl)
      ·replace hs := bif_f h6 hs
       refine v_skip (nrm_thenV (v_seq (vr_text (o_runs 3 [(34, .int .i64 b), (33, .int .i64 a), (32, .int .i64 a)] (by kernel_rfl) ?_))))
       obtain ⟨y2, c2, hs⟩ := bind_some hs
       refine o_pure (v := .int .i64 y2) (by kernel_rfl) (by kernel_rfl) (loc_gcall0 (callV_func hbv70 (by kernel_rfl)) (w_expr_quotient a b _ c2) (by kernel_rfl)) ?_
       refine o_runs 4 [(6, .int .i64 (w64 (a - (w64 (y2 * b))))), (38, .int .i64 (w64 (a - (w64 (y2 * b))))), (37, .int .i64 (w64 (y2 * b))), (36, .int .i64 b)] (by kernel_rfl) ?_
       refine ov_nil (nrm_thenV (v_ret (ret_blkV (ret_thenV ?_))))
       obtain rfl := si hs
       exact fin_ret (by kernel_rfl) (by kernel_rfl) (by kernel_rfl)
     ·replace hs := bif_f h5 hs
      refine v_seq (vr_text (o_runs 2 [(39, .bool (decide (op = 10))), (40, .bool (decide (op = 10)))] (by kernel_rfl) ?_))
      refine ov_nil (nrm_thenV ?_)
      refine v_cond (decide (op = 10)) (by kernel_rfl) (fun h7 => ?_) (fun h7 => ?_)
      ·replace hs := bif_t h7 hs
       refine v_seq (vr_text (o_runs 3 [(43, .bool (decide (a = b))), (42, .int .i64 b), (41, .int .i64 a)] (by kernel_rfl) ?_))
       obtain ⟨y3, c3, hs⟩ := bind_some hs
       refine o_pure (v := .int .i64 y3) (by kernel_rfl) (by kernel_rfl) (loc_gcall0 (callV_func hbv38 (by kernel_rfl)) (w_expr_bit (decide (a = b)) _ c3) (by kernel_rfl)) ?_
       refine o_runs 1 [(6, .int .i64 y3)] (by kernel_rfl) ?_
       refine ov_nil (nrm_thenV (v_ret (ret_blkV (ret_thenV ?_))))
       obtain rfl := si hs
       exact fin_ret (by kernel_rfl) (by kernel_rfl) (by kernel_rfl)
      ·replace hs := bif_f h7 hs
       refine v_seq (vr_text (o_runs 2 [(45, .bool (decide (op = 11))), (46, .bool (decide (op = 11)))] (by kernel_rfl) ?_))
       refine ov_nil (nrm_thenV ?_)
       refine v_cond (decide (op = 11)) (by kernel_rfl) (fun h8 => ?_) (fun h8 => ?_)
       ·replace hs := bif_t h8 hs
        refine v_seq (vr_text (o_runs 3 [(49, .bool (decide (a < b))), (48, .int .i64 b), (47, .int .i64 a)] (by kernel_rfl) ?_))
        obtain ⟨y4, c4, hs⟩ := bind_some hs
        refine o_pure (v := .int .i64 y4) (by kernel_rfl) (by kernel_rfl) (loc_gcall0 (callV_func hbv38 (by kernel_rfl)) (w_expr_bit (decide (a < b)) _ c4) (by kernel_rfl)) ?_
        refine o_runs 1 [(6, .int .i64 y4)] (by kernel_rfl) ?_
        refine ov_nil (nrm_thenV (v_ret (ret_blkV (ret_thenV ?_))))
        obtain rfl := si hs
        exact fin_ret (by kernel_rfl) (by kernel_rfl) (by kernel_rfl)
       ·replace hs := bif_f h8 hs
        refine v_seq (vr_text (o_runs 2 [(51, .bool (decide (op = 12))), (52, .bool (decide (op = 12)))] (by kernel_rfl) ?_))
        refine ov_nil (nrm_thenV ?_)
        refine v_cond (decide (op = 12)) (by kernel_rfl) (fun h9 => ?_) (fun h9 => ?_)
        ·replace hs := bif_t h9 hs
         refine v_seq (vr_text (o_runs 3 [(55, .bool (decide (a ≤ b))), (54, .int .i64 b), (53, .int .i64 a)] (by kernel_rfl) ?_))
         obtain ⟨y5, c5, hs⟩ := bind_some hs
         refine o_pure (v := .int .i64 y5) (by kernel_rfl) (by kernel_rfl) (loc_gcall0 (callV_func hbv38 (by kernel_rfl)) (w_expr_bit (decide (a ≤ b)) _ c5) (by kernel_rfl)) ?_
         refine o_runs 1 [(6, .int .i64 y5)] (by kernel_rfl) ?_
         refine ov_nil (nrm_thenV (v_ret (ret_blkV (ret_thenV ?_))))
         obtain rfl := si hs
         exact fin_ret (by kernel_rfl) (by kernel_rfl) (by kernel_rfl)
        ·replace hs := bif_f h9 hs
         refine v_seq (vr_text (o_runs 2 [(57, .bool (decide (op = 13))), (58, .bool (decide (op = 13)))] (by kernel_rfl) ?_))
         refine ov_nil (nrm_thenV ?_)
         refine v_cond (decide (op = 13)) (by kernel_rfl) (fun h10 => ?_) (fun h10 => ?_)
         ·replace hs := bif_t h10 hs
          refine v_seq ?_
          obtain ⟨z1, hs, hk1⟩ := bind_some hs
          refine v_join (S := Int) (fun u => u = z1) (fun u => [(6, .int .i64 u)]) (fun u => []) ?_ (fun v1 hz => ?_)
          ·refine vr_text (o_runs 3 [(61, .bool (!(decide (a = 0)))), (60, .bool (!(decide (a = 0)))), (59, .int .i64 a)] (by kernel_rfl) ?_)
           cases h11 : ((!(decide (a = 0))))
           ·replace hs := bif_f h11 hs
            refine o_runs 3 [(64, .bool false), (63, .no), (62, .no)] (by kernel_rfl) ?_
            obtain ⟨y6, c6, hs⟩ := bind_some hs
            refine o_pure (v := .int .i64 y6) (by kernel_rfl) (by kernel_rfl) (loc_gcall0 (callV_func hbv38 (by kernel_rfl)) (w_expr_bit false _ c6) (by kernel_rfl)) ?_
            refine o_runs 1 [(6, .int .i64 y6)] (by kernel_rfl) ?_
            refine ov_nil ?_
            obtain rfl := si hs
            refine nrm_join y6 rfl ?_
            exact cut_of [6] [] (by kernel_rfl) (by kernel_rfl) (by kernel_rfl)
           ·replace hs := bif_t h11 hs
            refine o_runs 3 [(64, .bool (!(decide (b = 0)))), (63, .bool (!(decide (b = 0)))), (62, .int .i64 b)] (by kernel_rfl) ?_
            obtain ⟨y7, c7, hs⟩ := bind_some hs
            refine o_pure (v := .int .i64 y7) (by kernel_rfl) (by kernel_rfl) (loc_gcall0 (callV_func hbv38 (by kernel_rfl)) (w_expr_bit (!(decide (b = 0))) _ c7) (by kernel_rfl)) ?_
            refine o_runs 1 [(6, .int .i64 y7)] (by kernel_rfl) ?_
            refine ov_nil ?_
            obtain rfl := si hs
            refine nrm_join y7 rfl ?_
            exact cut_of [6] [] (by kernel_rfl) (by kernel_rfl) (by kernel_rfl)
          ·subst hz; clear hs; have hs := hk1; clear hk1
           refine nrm_thenV (v_ret (ret_blkV (ret_thenV ?_)))
           obtain rfl := si hs
           exact fin_ret (by kernel_rfl) (by kernel_rfl) (by kernel_rfl)
         ·replace hs := bif_f h10 hs
          refine v_skip (nrm_blkV (nrm_thenV (v_seq ?_)))
          obtain ⟨z2, hs, hk2⟩ := bind_some hs
          refine v_join (S := Int) (fun u => u = z2) (fun u => [(6, .int .i64 u)]) (fun u => []) ?_ (fun v2 hz => ?_)
          ·refine vr_text (o_runs 3 [(68, .bool (!(decide (a = 0)))), (67, .bool (!(decide (a = 0)))), (66, .int .i64 a)] (by kernel_rfl) ?_)
           cases h12 : ((!(decide (a = 0))))
           ·replace hs := bif_f h12 hs
            refine o_runs 3 [(71, .bool (!(decide (b = 0)))), (70, .bool (!(decide (b = 0)))), (69, .int .i64 b)] (by kernel_rfl) ?_
            obtain ⟨y8, c8, hs⟩ := bind_some hs
            refine o_pure (v := .int .i64 y8) (by kernel_rfl) (by kernel_rfl) (loc_gcall0 (callV_func hbv38 (by kernel_rfl)) (w_expr_bit (!(decide (b = 0))) _ c8) (by kernel_rfl)) ?_
            refine o_runs 1 [(6, .int .i64 y8)] (by kernel_rfl) ?_
            refine ov_nil ?_
            obtain rfl := si hs
            refine nrm_join y8 rfl ?_
            exact cut_of [6] [] (by kernel_rfl) (by kernel_rfl) (by kernel_rfl)
           ·replace hs := bif_t h12 hs
            refine o_runs 3 [(71, .bool true), (70, .no), (69, .no)] (by kernel_rfl) ?_
            obtain ⟨y9, c9, hs⟩ := bind_some hs
            refine o_pure (v := .int .i64 y9) (by kernel_rfl) (by kernel_rfl) (loc_gcall0 (callV_func hbv38 (by kernel_rfl)) (w_expr_bit true _ c9) (by kernel_rfl)) ?_
            refine o_runs 1 [(6, .int .i64 y9)] (by kernel_rfl) ?_
            refine ov_nil ?_
            obtain rfl := si hs
            refine nrm_join y9 rfl ?_
            exact cut_of [6] [] (by kernel_rfl) (by kernel_rfl) (by kernel_rfl)
          ·subst hz; clear hs; have hs := hk2; clear hk2
           refine nrm_thenV (v_ret ?_)
           obtain rfl := si hs
           exact fin_ret (by kernel_rfl) (by kernel_rfl) (by kernel_rfl)
theorem ws_expr_context_value (nF : Nat) (ih_expr_context_value : ∀ (c_plan : Plan) (c_known : (List ((List UInt8) × Int))) (c_zones : (List (List UInt8))) (e : Expr) (r : Int), s_expr_context_value nF c_plan c_known c_zones e = some r → FnA Tryz.prog 24 [.agg [.vs 6 (List.map enc_Def c_plan.Defs), .vs 3 (List.map enc_Table c_plan.Tables), .vs 3 (List.map enc_Zone c_plan.Zones), .vs 20 (List.map enc_Rule c_plan.Rules), .vs 4 (List.map enc_Cap c_plan.Caps), .vs 6 (List.map enc_View c_plan.Views), .vs 3 (List.map enc_Point3 c_plan.Sun), .int .i64 c_plan.Hours, .mp 1000000, .vs 1 (List.map EV.encS c_zones)], .agg (enc_Expr e)] [(1000000, .map (encM V.str (V.int .i64) c_known))] (.int .i64 r) [(1000000, .map (encM V.str (V.int .i64) c_known))]) (c_plan : Plan) (c_known : (List ((List UInt8) × Int))) (c_zones : (List (List UInt8))) (e : Expr) (r : Int) (hs : s_expr_context_value (nF + 1) c_plan c_known c_zones e = some r) : FnA Tryz.prog 24 [.agg [.vs 6 (List.map enc_Def c_plan.Defs), .vs 3 (List.map enc_Table c_plan.Tables), .vs 3 (List.map enc_Zone c_plan.Zones), .vs 20 (List.map enc_Rule c_plan.Rules), .vs 4 (List.map enc_Cap c_plan.Caps), .vs 6 (List.map enc_View c_plan.Views), .vs 3 (List.map enc_Point3 c_plan.Sun), .int .i64 c_plan.Hours, .mp 1000000, .vs 1 (List.map EV.encS c_zones)], .agg (enc_Expr e)] [(1000000, .map (encM V.str (V.int .i64) c_known))] (.int .i64 r) [(1000000, .map (encM V.str (V.int .i64) c_known))] := by
 refine fnA_of_wp (N := 102) Tryz.func24 rfl rfl rfl fun cK0 => ?_
 rw [s_expr_context_value] at hs
 refine v_same (ρ' := [(0, .agg [.vs 6 (List.map enc_Def c_plan.Defs), .vs 3 (List.map enc_Table c_plan.Tables), .vs 3 (List.map enc_Zone c_plan.Zones), .vs 20 (List.map enc_Rule c_plan.Rules), .vs 4 (List.map enc_Cap c_plan.Caps), .vs 6 (List.map enc_View c_plan.Views), .vs 3 (List.map enc_Point3 c_plan.Sun), .int .i64 c_plan.Hours, .mp 1000000, .vs 1 (List.map EV.encS c_zones)]), (1, .agg (enc_Expr e))]) rfl rfl ?_
 refine v_seq (vr_text (o_runh 3 [(4, .int .i64 0), (3, .ptr 3 0 0), (2, .ptr 2 0 0)] [(3, .box 34 [.int .i64 e.Op, .int .i64 e.N, .str e.S, .str e.Key, .vs 5 (encs_Expr e.Args)]), (2, .box 69 [.vs 6 (List.map enc_Def c_plan.Defs), .vs 3 (List.map enc_Table c_plan.Tables), .vs 3 (List.map enc_Zone c_plan.Zones), .vs 20 (List.map enc_Rule c_plan.Rules), .vs 4 (List.map enc_Cap c_plan.Caps), .vs 6 (List.map enc_View c_plan.Views), .vs 3 (List.map enc_Point3 c_plan.Sun), .int .i64 c_plan.Hours, .mp 1000000, .vs 1 (List.map EV.encS c_zones)]), (1000000, .map (encM V.str (V.int .i64) c_known))] (by kernel_rfl) ?_))
 refine ov_nil (nrm_thenV (v_seq (vr_text (o_runs 1 [(5, .nils)] (by kernel_rfl) ?_))))
 refine ov_nil (nrm_thenV (v_seq (v_seq (vr_text (o_runs 2 [(9, .vs 5 (encs_Expr e.Args)), (8, .ptr 3 0 4)] (by kernel_rfl) ?_)))))
 refine o_pure (v := .int .i64 (List.length e.Args : Int)) (by kernel_rfl) (by kernel_rfl) (loc_lenVs (sz := 5) (els := (encs_Expr e.Args)) (by kernel_rfl) (by kernel_rfl) (by rw [encs_Expr_eq, List.length_map])) ?_
 refine o_runs 1 [(11, .int .i64 0)] (by kernel_rfl) ?_
 refine ov_nil (nrm_thenV ?_)
 obtain ⟨z1, hs, hk1⟩ := bind_some hs
 refine v_join (S := (List Int)) (fun u => u = z1) (fun u => [(2, .ptr 2 0 0), (3, .ptr 3 0 0), (5, .sl 1 2000035 ((u).length) 0 ((u).length))]) (fun u => [(3, .box 34 [.int .i64 e.Op, .int .i64 e.N, .str e.S, .str e.Key, .vs 5 (encs_Expr e.Args)]), (2, .box 69 [.vs 6 (List.map enc_Def c_plan.Defs), .vs 3 (List.map enc_Table c_plan.Tables), .vs 3 (List.map enc_Zone c_plan.Zones), .vs 20 (List.map enc_Rule c_plan.Rules), .vs 4 (List.map enc_Cap c_plan.Caps), .vs 6 (List.map enc_View c_plan.Views), .vs 3 (List.map enc_Point3 c_plan.Sun), .int .i64 c_plan.Hours, .mp 1000000, .vs 1 (List.map EV.encS c_zones)]), (1000000, .map (encM V.str (V.int .i64) c_known)), (2000035, .row 3 1 0 (List.map EV.encI u))]) ?_ (fun v1 hz => ?_)
 ·refine v_block ?_
  refine v_fuel (S := Int × (List Int)) (fun u => [(2, .ptr 2 0 0), (3, .ptr 3 0 0), (5, .sl 1 2000035 ((u.2).length) 0 ((u.2).length)), (9, .vs 5 (encs_Expr e.Args)), (10, .int .i64 (List.length e.Args : Int)), (11, .int .i64 u.1)]) (fun u => [(3, .box 34 [.int .i64 e.Op, .int .i64 e.N, .str e.S, .str e.Key, .vs 5 (encs_Expr e.Args)]), (2, .box 69 [.vs 6 (List.map enc_Def c_plan.Defs), .vs 3 (List.map enc_Table c_plan.Tables), .vs 3 (List.map enc_Zone c_plan.Zones), .vs 20 (List.map enc_Rule c_plan.Rules), .vs 4 (List.map enc_Cap c_plan.Caps), .vs 6 (List.map enc_View c_plan.Views), .vs 3 (List.map enc_Point3 c_plan.Sun), .int .i64 c_plan.Hours, .mp 1000000, .vs 1 (List.map EV.encS c_zones)]), (1000000, .map (encM V.str (V.int .i64) c_known)), (2000035, .row 3 1 0 (List.map EV.encI u.2))]) (s_expr_context_value_L1 (s_expr_context_value nF) c_plan c_known c_zones e) (fun _ => rfl) KK (0, []) hs (Cut.trans (cut_nilRow 5 2000035 3 1 rfl (by kernel_rfl) (by kernel_rfl)) (cut_of [2, 3, 5, 9, 10, 11] [3, 2, 1000000, 2000035] (by kernel_rfl) (by kernel_rfl) (by kernel_rfl))) (fun K1 q1 hs => ?_)
  rw [s_expr_context_value_L1] at hs
  show WpV cK0 Tryz.prog none 102 _ _ [(2, .ptr 2 0 0), (3, .ptr 3 0 0), (5, .sl 1 2000035 ((q1.2).length) 0 ((q1.2).length)), (9, .vs 5 (encs_Expr e.Args)), (10, .int .i64 (List.length e.Args : Int)), (11, .int .i64 q1.1)] [(3, .box 34 [.int .i64 e.Op, .int .i64 e.N, .str e.S, .str e.Key, .vs 5 (encs_Expr e.Args)]), (2, .box 69 [.vs 6 (List.map enc_Def c_plan.Defs), .vs 3 (List.map enc_Table c_plan.Tables), .vs 3 (List.map enc_Zone c_plan.Zones), .vs 20 (List.map enc_Rule c_plan.Rules), .vs 4 (List.map enc_Cap c_plan.Caps), .vs 6 (List.map enc_View c_plan.Views), .vs 3 (List.map enc_Point3 c_plan.Sun), .int .i64 c_plan.Hours, .mp 1000000, .vs 1 (List.map EV.encS c_zones)]), (1000000, .map (encM V.str (V.int .i64) c_known)), (2000035, .row 3 1 0 (List.map EV.encI q1.2))] []
  refine v_seq (vr_text (o_runs 1 [(12, .bool (decide (q1.1 < (List.length e.Args : Int))))] (by kernel_rfl) ?_))
  refine ov_nil (nrm_thenV (v_seq ?_))
  refine v_cond (decide (q1.1 < (List.length e.Args : Int))) (by kernel_rfl) (fun h1 => ?_) (fun h1 => ?_)
  ·replace hs := bif_t h1 hs
   refine v_skip (nrm_thenV (v_seq ?_))
   obtain ⟨z2, hs, hk2⟩ := bind_some hs
   refine v_join (S := (List Int)) (fun u => u = z2) (fun u => [(2, .ptr 2 0 0), (3, .ptr 3 0 0), (5, .sl 1 2000035 ((u).length) 0 ((u).length)), (9, .vs 5 (encs_Expr e.Args)), (10, .int .i64 (List.length e.Args : Int)), (11, .int .i64 q1.1)]) (fun u => [(2000035, .row 3 1 0 (List.map EV.encI u)), (3, .box 34 [.int .i64 e.Op, .int .i64 e.N, .str e.S, .str e.Key, .vs 5 (encs_Expr e.Args)]), (2, .box 69 [.vs 6 (List.map enc_Def c_plan.Defs), .vs 3 (List.map enc_Table c_plan.Tables), .vs 3 (List.map enc_Zone c_plan.Zones), .vs 20 (List.map enc_Rule c_plan.Rules), .vs 4 (List.map enc_Cap c_plan.Caps), .vs 6 (List.map enc_View c_plan.Views), .vs 3 (List.map enc_Point3 c_plan.Sun), .int .i64 c_plan.Hours, .mp 1000000, .vs 1 (List.map EV.encS c_zones)]), (1000000, .map (encM V.str (V.int .i64) c_known))]) ?_ (fun v2 hz => ?_)
   ·refine v_block (v_seq (vr_text (o_runs 1 [(13, .int .i64 q1.1)] (by kernel_rfl) ?_)))
    obtain ⟨x1, g1, hs⟩ := bind_some hs; obtain ⟨g1a, g1b, g1c⟩ := idx_some g1
    refine o_pure (v := .vp (enc_Expr x1) 0) (by kernel_rfl) (by kernel_rfl) (loc_indexVs (e := 34) (sz := 5) (k := .i64) (els := (encs_Expr e.Args)) (cs := (enc_Expr x1)) (by kernel_rfl) (by kernel_rfl) (by kernel_rfl) g1a (by rw [g1c, encs_Expr_eq]; exact map_get _ (by omega))) ?_
    refine o_runh 4 [(6, .int .i64 q1.1), (7, .ptr 7 0 0), (15, .agg (enc_Expr x1))] [(7, .box 34 [.int .i64 x1.Op, .int .i64 x1.N, .str x1.S, .str x1.Key, .vs 5 (encs_Expr x1.Args)]), (3, .box 34 [.int .i64 e.Op, .int .i64 e.N, .str e.S, .str e.Key, .vs 5 (encs_Expr e.Args)]), (2, .box 69 [.vs 6 (List.map enc_Def c_plan.Defs), .vs 3 (List.map enc_Table c_plan.Tables), .vs 3 (List.map enc_Zone c_plan.Zones), .vs 20 (List.map enc_Rule c_plan.Rules), .vs 4 (List.map enc_Cap c_plan.Caps), .vs 6 (List.map enc_View c_plan.Views), .vs 3 (List.map enc_Point3 c_plan.Sun), .int .i64 c_plan.Hours, .mp 1000000, .vs 1 (List.map EV.encS c_zones)]), (1000000, .map (encM V.str (V.int .i64) c_known)), (2000035, .row 3 1 0 (List.map EV.encI q1.2))] (by kernel_rfl) ?_
    refine ov_nil (nrm_thenV (v_seq (v_seq ?_)))
    obtain ⟨z3, hs, hk3⟩ := bind_some hs
    refine v_join (S := Bool) (fun u => u = z3) (fun u => [(2, .ptr 2 0 0), (3, .ptr 3 0 0), (5, .sl 1 2000035 ((q1.2).length) 0 ((q1.2).length)), (7, .ptr 7 0 0), (9, .vs 5 (encs_Expr e.Args)), (10, .int .i64 (List.length e.Args : Int)), (11, .int .i64 q1.1), (31, .bool u)]) (fun u => [(7, .box 34 [.int .i64 x1.Op, .int .i64 x1.N, .str x1.S, .str x1.Key, .vs 5 (encs_Expr x1.Args)]), (3, .box 34 [.int .i64 e.Op, .int .i64 e.N, .str e.S, .str e.Key, .vs 5 (encs_Expr e.Args)]), (2, .box 69 [.vs 6 (List.map enc_Def c_plan.Defs), .vs 3 (List.map enc_Table c_plan.Tables), .vs 3 (List.map enc_Zone c_plan.Zones), .vs 20 (List.map enc_Rule c_plan.Rules), .vs 4 (List.map enc_Cap c_plan.Caps), .vs 6 (List.map enc_View c_plan.Views), .vs 3 (List.map enc_Point3 c_plan.Sun), .int .i64 c_plan.Hours, .mp 1000000, .vs 1 (List.map EV.encS c_zones)]), (1000000, .map (encM V.str (V.int .i64) c_known)), (2000035, .row 3 1 0 (List.map EV.encI q1.2))]) ?_ (fun v3 hz => ?_)
    ·refine vr_text (o_runs 4 [(19, .bool (decide (e.Op = 16))), (18, .bool (decide (e.Op = 16))), (17, .int .i64 e.Op), (16, .ptr 3 0 0)] (by kernel_rfl) ?_)
     cases h2 : ((decide (e.Op = 16)))
     ·replace hs := bif_f h2 hs
      refine o_runs 12 [(31, .bool false), (30, .no), (29, .no), (28, .no), (27, .no), (26, .no), (25, .no), (24, .no), (23, .bool false), (22, .bool false), (21, .no), (20, .no)] (by kernel_rfl) ?_
      refine ov_nil ?_
      obtain rfl := si hs
      refine nrm_join false rfl ?_
      exact cut_of [2, 3, 5, 7, 9, 10, 11, 31] [7, 3, 2, 1000000, 2000035] (by kernel_rfl) (by kernel_rfl) (by kernel_rfl)
     ·replace hs := bif_t h2 hs
      refine o_runs 4 [(23, .bool (decide (q1.1 > 0))), (22, .bool (decide (q1.1 > 0))), (21, .bool (decide (q1.1 > 0))), (20, .int .i64 q1.1)] (by kernel_rfl) ?_
      cases h3 : ((decide (q1.1 > 0)))
      ·replace hs := bif_f h3 hs
       refine o_runs 8 [(31, .bool false), (30, .no), (29, .no), (28, .no), (27, .no), (26, .no), (25, .no), (24, .no)] (by kernel_rfl) ?_
       refine ov_nil ?_
       obtain rfl := si hs
       refine nrm_join false rfl ?_
       exact cut_of [2, 3, 5, 7, 9, 10, 11, 31] [7, 3, 2, 1000000, 2000035] (by kernel_rfl) (by kernel_rfl) (by kernel_rfl)
      ·replace hs := bif_t h3 hs
       refine o_runs 1 [(24, .sl 1 2000035 ((q1.2).length) 0 ((q1.2).length))] (by kernel_rfl) ?_
       obtain ⟨_, g2, hs⟩ := bind_some hs; obtain ⟨g2a, g2b⟩ := grd_some g2
       refine o_pure (v := .ptr 2000035 ((q1.2).length) ((Int.toNat 0) * 1 + 0)) (by kernel_rfl) (by kernel_rfl) (loc_indexRowT (e := 3) (sz := 1) (kk := 2000035) (L := (q1.2).length) (n := (q1.2).length) (k := .i64) (i := 0) (by kernel_rfl) (by kernel_rfl) (by kernel_rfl) g2a g2b) ?_
       obtain ⟨e1, he1, hs⟩ := bind_some hs; replace he1 := Option.some.inj he1
       refine o_loc (F := [(2000035, .row 3 1 0 (List.map EV.encI q1.2))]) (F' := [(2000035, .row 3 1 0 (List.map EV.encI q1.2))]) (v := .int .i64 e1) [2000035] (by kernel_rfl) (by kernel_rfl) rfl (by kernel_rfl) (loc_loadRow (L := (q1.2).length) (off := (Int.toNat 0) * 1 + 0) (els := (List.map EV.encI q1.2)) (cs := [.int .i64 e1]) (Int.toNat 0) 0 (by kernel_rfl) (by first | (simp only [List.length_map, List.length_set]; done) | rfl) rfl (by rw [← he1]; exact map_get _ (by first | omega | (simp only [List.length_set]; omega))) (by kernel_rfl)) (by kernel_rfl) ?_
       refine o_runs 5 [(31, .bool (!((!(decide (e1 = 0))) == (decide (q1.1 = 1))))), (30, .bool (!((!(decide (e1 = 0))) == (decide (q1.1 = 1))))), (29, .bool (decide (q1.1 = 1))), (28, .int .i64 q1.1), (27, .bool (!(decide (e1 = 0))))] (by kernel_rfl) ?_
       refine ov_nil ?_
       obtain rfl := si hs
       refine nrm_join (!((!(decide (e1 = 0))) == (decide (q1.1 = 1)))) rfl ?_
       exact cut_of [2, 3, 5, 7, 9, 10, 11, 31] [7, 3, 2, 1000000, 2000035] (by kernel_rfl) (by kernel_rfl) (by kernel_rfl)
    ·subst hz; clear hs; have hs := hk3; clear hk3
     refine nrm_thenV ?_
     refine v_cond v3 (by kernel_rfl) (fun h4 => ?_) (fun h4 => ?_)
     ·replace hs := bif_t h4 hs
      refine v_seq (vr_text (o_runh 2 [(33, .sl 1 33 1 0 1), (32, .sl 1 2000035 ((q1.2).length) 0 ((q1.2).length))] [(33, .row 3 1 0 (List.map EV.encI [0])), (7, .box 34 [.int .i64 x1.Op, .int .i64 x1.N, .str x1.S, .str x1.Key, .vs 5 (encs_Expr x1.Args)]), (3, .box 34 [.int .i64 e.Op, .int .i64 e.N, .str e.S, .str e.Key, .vs 5 (encs_Expr e.Args)]), (2, .box 69 [.vs 6 (List.map enc_Def c_plan.Defs), .vs 3 (List.map enc_Table c_plan.Tables), .vs 3 (List.map enc_Zone c_plan.Zones), .vs 20 (List.map enc_Rule c_plan.Rules), .vs 4 (List.map enc_Cap c_plan.Caps), .vs 6 (List.map enc_View c_plan.Views), .vs 3 (List.map enc_Point3 c_plan.Sun), .int .i64 c_plan.Hours, .mp 1000000, .vs 1 (List.map EV.encS c_zones)]), (1000000, .map (encM V.str (V.int .i64) c_known)), (2000035, .row 3 1 0 (List.map EV.encI q1.2))] (by kernel_rfl) ?_))
      obtain ⟨_, g3, hs⟩ := bind_some hs; replace g3 := grd_some g3
      refine o_loc (F := [(2000035, .row 3 1 0 (List.map EV.encI q1.2)), (33, .row 3 1 0 (List.map EV.encI [0]))]) (F' := [(2000035, .row 3 1 0 (List.map EV.encI (q1.2 ++ [0]))), (33, .row 3 1 0 (List.map EV.encI [0]))]) (v := .sl 1 2000035 (((q1.2 ++ [0])).length) 0 (((q1.2 ++ [0])).length)) [2000035, 33] (by kernel_rfl) (by kernel_rfl) rfl (by kernel_rfl) (loc_appendT (e := 3) (sz := 1) (bytes := 8) (L := (q1.2).length) (els := (List.map EV.encI q1.2)) (ys := (List.map EV.encI [0])) (by kernel_rfl) (by kernel_rfl) (by first | exact List.length_map .. | rfl) (.sl (t := 3) (fz := 0) (ys := (List.map EV.encI [0])) (by kernel_rfl) (by kernel_rfl)) (map_ones EV.encI (fun _ => rfl) _) (map_lens EV.encI (fun _ => rfl) _) (by kernel_rfl) (by first | exact (List.map_append ..).symm | rfl | simp only [List.map_nil, List.nil_append]) (List.length_map ..) g3 (by omega)) (by kernel_rfl) ?_
      refine o_runs 1 [(5, .sl 1 2000035 (((q1.2 ++ [0])).length) 0 (((q1.2 ++ [0])).length))] (by kernel_rfl) ?_
      refine ov_nil (nrm_thenV (v_exit (exit_thenV (exit_blkV ?_))))
      obtain rfl := si hs
      refine nrm_join (q1.2 ++ [0]) rfl ?_
      exact cut_of [2, 3, 5, 9, 10, 11] [2000035, 3, 2, 1000000] (by kernel_rfl) (by kernel_rfl) (by kernel_rfl)
     ·replace hs := bif_f h4 hs
      refine v_skip (nrm_thenV (vr_text (o_runs 3 [(37, .agg (enc_Expr x1)), (36, .agg [.vs 6 (List.map enc_Def c_plan.Defs), .vs 3 (List.map enc_Table c_plan.Tables), .vs 3 (List.map enc_Zone c_plan.Zones), .vs 20 (List.map enc_Rule c_plan.Rules), .vs 4 (List.map enc_Cap c_plan.Caps), .vs 6 (List.map enc_View c_plan.Views), .vs 3 (List.map enc_Point3 c_plan.Sun), .int .i64 c_plan.Hours, .mp 1000000, .vs 1 (List.map EV.encS c_zones)]), (35, .sl 1 2000035 ((q1.2).length) 0 ((q1.2).length))] (by kernel_rfl) ?_)))
      obtain ⟨y1, c1, hs⟩ := bind_some hs
      refine o_loc (F := [(1000000, .map (encM V.str (V.int .i64) c_known))]) (F' := [(1000000, .map (encM V.str (V.int .i64) c_known))]) (v := .int .i64 y1) [1000000] (by kernel_rfl) (by kernel_rfl) rfl (by kernel_rfl) (loc_g (R := []) [.agg [.vs 6 (List.map enc_Def c_plan.Defs), .vs 3 (List.map enc_Table c_plan.Tables), .vs 3 (List.map enc_Zone c_plan.Zones), .vs 20 (List.map enc_Rule c_plan.Rules), .vs 4 (List.map enc_Cap c_plan.Caps), .vs 6 (List.map enc_View c_plan.Views), .vs 3 (List.map enc_Point3 c_plan.Sun), .int .i64 c_plan.Hours, .mp 1000000, .vs 1 (List.map EV.encS c_zones)], .agg (enc_Expr x1)] [(1000000, 1000000)] (callV_func hbv24 (by kernel_rfl)) (ih_expr_context_value c_plan c_known c_zones x1 _ c1) (.cons (.same _) (.cons (.same _) (.nil))) (by kernel_rfl) (by kernel_rfl) (by kernel_rfl) (by kernel_rfl) (by kernel_rfl) (by kernel_rfl) (by kernel_rfl) (by kernel_rfl)) (by kernel_rfl) ?_
      refine o_runh 1 [(39, .sl 1 39 1 0 1)] [(39, .row 3 1 0 (List.map EV.encI [y1])), (1000000, .map (encM V.str (V.int .i64) c_known)), (7, .box 34 [.int .i64 x1.Op, .int .i64 x1.N, .str x1.S, .str x1.Key, .vs 5 (encs_Expr x1.Args)]), (3, .box 34 [.int .i64 e.Op, .int .i64 e.N, .str e.S, .str e.Key, .vs 5 (encs_Expr e.Args)]), (2, .box 69 [.vs 6 (List.map enc_Def c_plan.Defs), .vs 3 (List.map enc_Table c_plan.Tables), .vs 3 (List.map enc_Zone c_plan.Zones), .vs 20 (List.map enc_Rule c_plan.Rules), .vs 4 (List.map enc_Cap c_plan.Caps), .vs 6 (List.map enc_View c_plan.Views), .vs 3 (List.map enc_Point3 c_plan.Sun), .int .i64 c_plan.Hours, .mp 1000000, .vs 1 (List.map EV.encS c_zones)]), (2000035, .row 3 1 0 (List.map EV.encI q1.2))] (by kernel_rfl) ?_
      obtain ⟨_, g4, hs⟩ := bind_some hs; replace g4 := grd_some g4
      refine o_loc (F := [(2000035, .row 3 1 0 (List.map EV.encI q1.2)), (39, .row 3 1 0 (List.map EV.encI [y1]))]) (F' := [(2000035, .row 3 1 0 (List.map EV.encI (q1.2 ++ [y1]))), (39, .row 3 1 0 (List.map EV.encI [y1]))]) (v := .sl 1 2000035 (((q1.2 ++ [y1])).length) 0 (((q1.2 ++ [y1])).length)) [2000035, 39] (by kernel_rfl) (by kernel_rfl) rfl (by kernel_rfl) (loc_appendT (e := 3) (sz := 1) (bytes := 8) (L := (q1.2).length) (els := (List.map EV.encI q1.2)) (ys := (List.map EV.encI [y1])) (by kernel_rfl) (by kernel_rfl) (by first | exact List.length_map .. | rfl) (.sl (t := 3) (fz := 0) (ys := (List.map EV.encI [y1])) (by kernel_rfl) (by kernel_rfl)) (map_ones EV.encI (fun _ => rfl) _) (map_lens EV.encI (fun _ => rfl) _) (by kernel_rfl) (by first | exact (List.map_append ..).symm | rfl | simp only [List.map_nil, List.nil_append]) (List.length_map ..) g4 (by omega)) (by kernel_rfl) ?_
      refine o_runs 1 [(5, .sl 1 2000035 (((q1.2 ++ [y1])).length) 0 (((q1.2 ++ [y1])).length))] (by kernel_rfl) ?_
      refine ov_nil (nrm_blkV ?_)
      obtain rfl := si hs
      refine nrm_join (q1.2 ++ [y1]) rfl ?_
      exact cut_of [2, 3, 5, 9, 10, 11] [2000035, 3, 2, 1000000] (by kernel_rfl) (by kernel_rfl) (by kernel_rfl)
   ·subst hz; clear hs; have hs := hk2; clear hk2
    refine nrm_thenV (vr_text (o_runs 2 [(11, .int .i64 (w64 (q1.1 + 1))), (41, .int .i64 (w64 (q1.1 + 1)))] (by kernel_rfl) ?_))
    refine ov_nil (nrm_fuel ((w64 (q1.1 + 1)), v2) hs ?_)
    exact cut_of [2, 3, 5, 9, 10, 11] [3, 2, 1000000, 2000035] (by kernel_rfl) (by kernel_rfl) (by kernel_rfl)
  ·replace hs := bif_f h1 hs
   refine v_exit (exit_thenV (exit_fuel ?_))
   refine exit_blkV ?_
   obtain rfl := si hs
   refine nrm_join q1.2 rfl ?_
   exact cut_of [2, 3, 5] [3, 2, 1000000, 2000035] (by kernel_rfl) (by kernel_rfl) (by kernel_rfl)
 ·subst hz; clear hs; have hs := hk1; clear hk1
  refine nrm_thenV (v_seq (v_seq (vr_text (o_runs 2 [(43, .int .i64 e.Op), (42, .ptr 3 0 0)] (by kernel_rfl) ?_))))
  refine ov_nil (nrm_thenV (v_block (v_seq (vr_text (o_runs 2 [(44, .bool (decide (e.Op = 0))), (45, .bool (decide (e.Op = 0)))] (by kernel_rfl) ?_)))))
  refine ov_nil (nrm_thenV ?_)
  refine v_cond (decide (e.Op = 0)) (by kernel_rfl) (fun h5 => ?_) (fun h5 => ?_)
  ·replace hs := bif_t h5 hs
   refine v_seq (vr_text (o_runs 3 [(4, .int .i64 e.N), (47, .int .i64 e.N), (46, .ptr 3 0 1)] (by kernel_rfl) ?_))
   refine ov_nil (nrm_thenV (v_ret (ret_blkV (ret_thenV ?_))))
   obtain rfl := si hs
   exact fin_ret (by kernel_rfl) (by kernel_rfl) (by kernel_rfl)
  ·replace hs := bif_f h5 hs
   refine v_seq (vr_text (o_runs 2 [(48, .bool (decide (e.Op = 1))), (49, .bool (decide (e.Op = 1)))] (by kernel_rfl) ?_))
   refine ov_nil (nrm_thenV ?_)
   refine v_cond (decide (e.Op = 1)) (by kernel_rfl) (fun h6 => ?_) (fun h6 => ?_)
   ·replace hs := bif_t h6 hs
    refine v_seq (vr_text (o_runs 4 [(53, .str e.S), (52, .ptr 3 0 2), (51, .mp 1000000), (50, .ptr 2 0 8)] (by kernel_rfl) ?_))
    refine o_loc (F := [(1000000, .map (encM V.str (V.int .i64) c_known))]) (F' := [(1000000, .map (encM V.str (V.int .i64) c_known))]) (v := .int .i64 (Option.getD (mfind e.S c_known) 0)) [1000000] (by kernel_rfl) (by kernel_rfl) rfl (by kernel_rfl) (loc_lookup (et := 3) (f := V.str) (g := (V.int .i64)) (l := c_known) (a := e.S) (z := 0) (zv := .int .i64 0) false (by kernel_rfl) kok9 (by kernel_rfl) (fun _ _ _ h => h) (by kernel_rfl) (by kernel_rfl)) (by kernel_rfl) ?_
    refine o_runs 1 [(4, .int .i64 (Option.getD (mfind e.S c_known) 0))] (by kernel_rfl) ?_
    refine ov_nil (nrm_thenV (v_ret (ret_blkV (ret_thenV ?_))))
    obtain rfl := si hs
    exact fin_ret (by kernel_rfl) (by kernel_rfl) (by kernel_rfl)
   ·replace hs := bif_f h6 hs
    refine v_seq (vr_text (o_runs 2 [(55, .bool (decide (e.Op = 2))), (56, .bool (decide (e.Op = 2)))] (by kernel_rfl) ?_))
    refine ov_nil (nrm_thenV ?_)
    refine v_cond (decide (e.Op = 2)) (by kernel_rfl) (fun h7 => ?_) (fun h7 => ?_)
    ·replace hs := bif_t h7 hs
     refine v_seq (vr_text (o_runs 2 [(58, .agg (enc_Expr e)), (57, .agg [.vs 6 (List.map enc_Def c_plan.Defs), .vs 3 (List.map enc_Table c_plan.Tables), .vs 3 (List.map enc_Zone c_plan.Zones), .vs 20 (List.map enc_Rule c_plan.Rules), .vs 4 (List.map enc_Cap c_plan.Caps), .vs 6 (List.map enc_View c_plan.Views), .vs 3 (List.map enc_Point3 c_plan.Sun), .int .i64 c_plan.Hours, .mp 1000000, .vs 1 (List.map EV.encS c_zones)])] (by kernel_rfl) ?_))
     obtain ⟨y2, c2, hs⟩ := bind_some hs
     refine o_loc (F := [(1000000, .map (encM V.str (V.int .i64) c_known))]) (F' := [(1000000, .map (encM V.str (V.int .i64) c_known))]) (v := .int .i64 y2) [1000000] (by kernel_rfl) (by kernel_rfl) rfl (by kernel_rfl) (loc_g (R := []) [.agg [.vs 6 (List.map enc_Def c_plan.Defs), .vs 3 (List.map enc_Table c_plan.Tables), .vs 3 (List.map enc_Zone c_plan.Zones), .vs 20 (List.map enc_Rule c_plan.Rules), .vs 4 (List.map enc_Cap c_plan.Caps), .vs 6 (List.map enc_View c_plan.Views), .vs 3 (List.map enc_Point3 c_plan.Sun), .int .i64 c_plan.Hours, .mp 1000000, .vs 1 (List.map EV.encS c_zones)], .agg (enc_Expr e)] [(1000000, 1000000)] (callV_func hbv37 (by kernel_rfl)) (w_expr_context_row c_plan c_known c_zones e _ c2) (.cons (.same _) (.cons (.same _) (.nil))) (by kernel_rfl) (by kernel_rfl) (by kernel_rfl) (by kernel_rfl) (by kernel_rfl) (by kernel_rfl) (by kernel_rfl) (by kernel_rfl)) (by kernel_rfl) ?_
     refine o_runs 1 [(4, .int .i64 y2)] (by kernel_rfl) ?_
     refine ov_nil (nrm_thenV (v_ret (ret_blkV (ret_thenV ?_))))
     obtain rfl := si hs
     exact fin_ret (by kernel_rfl) (by kernel_rfl) (by kernel_rfl)
    ·replace hs := bif_f h7 hs
     refine v_seq (vr_text (o_runs 2 [(60, .bool (decide (e.Op = 3))), (61, .bool (decide (e.Op = 3)))] (by kernel_rfl) ?_))
     refine ov_nil (nrm_thenV ?_)
     refine v_cond (decide (e.Op = 3)) (by kernel_rfl) (fun h8 => ?_) (fun h8 => ?_)
     ·replace hs := bif_t h8 hs
      refine v_seq (vr_text (o_runs 4 [(65, .str e.S), (64, .ptr 3 0 2), (63, .vs 1 (List.map EV.encS c_zones)), (62, .ptr 2 0 9)] (by kernel_rfl) ?_))
      obtain ⟨y3, c3, hs⟩ := bind_some hs
      refine o_pure (v := .bool y3) (by kernel_rfl) (by kernel_rfl) (loc_gcall0 (callV_func hbv39 (by kernel_rfl)) (w_slices_Contains c_zones e.S _ c3) (by kernel_rfl)) ?_
      obtain ⟨y4, c4, hs⟩ := bind_some hs
      refine o_pure (v := .int .i64 y4) (by kernel_rfl) (by kernel_rfl) (loc_gcall0 (callV_func hbv38 (by kernel_rfl)) (w_expr_bit y3 _ c4) (by kernel_rfl)) ?_
      refine o_runs 1 [(4, .int .i64 y4)] (by kernel_rfl) ?_
      refine ov_nil (nrm_thenV (v_ret (ret_blkV (ret_thenV ?_))))
      obtain rfl := si hs
      exact fin_ret (by kernel_rfl) (by kernel_rfl) (by kernel_rfl)
     ·replace hs := bif_f h8 hs
      refine v_seq (vr_text (o_runs 2 [(68, .bool (decide (e.Op = 9))), (69, .bool (decide (e.Op = 9)))] (by kernel_rfl) ?_))
      refine ov_nil (nrm_thenV ?_)
      refine v_cond (decide (e.Op = 9)) (by kernel_rfl) (fun h9 => ?_) (fun h9 => ?_)
      ·replace hs := bif_t h9 hs
       refine v_seq (vr_text (o_runs 1 [(70, .sl 1 2000035 ((v1).length) 0 ((v1).length))] (by kernel_rfl) ?_))
       obtain ⟨_, g5, hs⟩ := bind_some hs; obtain ⟨g5a, g5b⟩ := grd_some g5
       refine o_pure (v := .ptr 2000035 ((v1).length) ((Int.toNat 0) * 1 + 0)) (by kernel_rfl) (by kernel_rfl) (loc_indexRowT (e := 3) (sz := 1) (kk := 2000035) (L := (v1).length) (n := (v1).length) (k := .i64) (i := 0) (by kernel_rfl) (by kernel_rfl) (by kernel_rfl) g5a g5b) ?_
       obtain ⟨e2, he2, hs⟩ := bind_some hs; replace he2 := Option.some.inj he2
       refine o_loc (F := [(2000035, .row 3 1 0 (List.map EV.encI v1))]) (F' := [(2000035, .row 3 1 0 (List.map EV.encI v1))]) (v := .int .i64 e2) [2000035] (by kernel_rfl) (by kernel_rfl) rfl (by kernel_rfl) (loc_loadRow (L := (v1).length) (off := (Int.toNat 0) * 1 + 0) (els := (List.map EV.encI v1)) (cs := [.int .i64 e2]) (Int.toNat 0) 0 (by kernel_rfl) (by first | (simp only [List.length_map, List.length_set]; done) | rfl) rfl (by rw [← he2]; exact map_get _ (by first | omega | (simp only [List.length_set]; omega))) (by kernel_rfl)) (by kernel_rfl) ?_
       refine o_runs 2 [(4, .int .i64 (w64 (0 - e2))), (73, .int .i64 (w64 (0 - e2)))] (by kernel_rfl) ?_
       refine ov_nil (nrm_thenV (v_ret (ret_blkV (ret_thenV ?_))))
       obtain rfl := si hs
       exact fin_ret (by kernel_rfl) (by kernel_rfl) (by kernel_rfl)
      ·replace hs := bif_f h9 hs
       refine v_seq (vr_text (o_runs 2 [(74, .bool (decide (e.Op = 15))), (75, .bool (decide (e.Op = 15)))] (by kernel_rfl) ?_))
       refine ov_nil (nrm_thenV ?_)
       refine v_cond (decide (e.Op = 15)) (by kernel_rfl) (fun h10 => ?_) (fun h10 => ?_)
       ·replace hs := bif_t h10 hs
        refine v_seq (vr_text (o_runs 1 [(76, .sl 1 2000035 ((v1).length) 0 ((v1).length))] (by kernel_rfl) ?_))
        obtain ⟨_, g6, hs⟩ := bind_some hs; obtain ⟨g6a, g6b⟩ := grd_some g6
        refine o_pure (v := .ptr 2000035 ((v1).length) ((Int.toNat 0) * 1 + 0)) (by kernel_rfl) (by kernel_rfl) (loc_indexRowT (e := 3) (sz := 1) (kk := 2000035) (L := (v1).length) (n := (v1).length) (k := .i64) (i := 0) (by kernel_rfl) (by kernel_rfl) (by kernel_rfl) g6a g6b) ?_
        obtain ⟨e3, he3, hs⟩ := bind_some hs; replace he3 := Option.some.inj he3
        refine o_loc (F := [(2000035, .row 3 1 0 (List.map EV.encI v1))]) (F' := [(2000035, .row 3 1 0 (List.map EV.encI v1))]) (v := .int .i64 e3) [2000035] (by kernel_rfl) (by kernel_rfl) rfl (by kernel_rfl) (loc_loadRow (L := (v1).length) (off := (Int.toNat 0) * 1 + 0) (els := (List.map EV.encI v1)) (cs := [.int .i64 e3]) (Int.toNat 0) 0 (by kernel_rfl) (by first | (simp only [List.length_map, List.length_set]; done) | rfl) rfl (by rw [← he3]; exact map_get _ (by first | omega | (simp only [List.length_set]; omega))) (by kernel_rfl)) (by kernel_rfl) ?_
        refine o_runs 1 [(79, .bool (decide (e3 = 0)))] (by kernel_rfl) ?_
        obtain ⟨y5, c5, hs⟩ := bind_some hs
        refine o_pure (v := .int .i64 y5) (by kernel_rfl) (by kernel_rfl) (loc_gcall0 (callV_func hbv38 (by kernel_rfl)) (w_expr_bit (decide (e3 = 0)) _ c5) (by kernel_rfl)) ?_
        refine o_runs 1 [(4, .int .i64 y5)] (by kernel_rfl) ?_
        refine ov_nil (nrm_thenV (v_ret (ret_blkV (ret_thenV ?_))))
        obtain rfl := si hs
        exact fin_ret (by kernel_rfl) (by kernel_rfl) (by kernel_rfl)
       ·replace hs := bif_f h10 hs
        refine v_seq (vr_text (o_runs 2 [(81, .bool (decide (e.Op = 16))), (82, .bool (decide (e.Op = 16)))] (by kernel_rfl) ?_))
        refine ov_nil (nrm_thenV ?_)
        refine v_cond (decide (e.Op = 16)) (by kernel_rfl) (fun h11 => ?_) (fun h11 => ?_)
        ·replace hs := bif_t h11 hs
         refine v_seq (v_seq (vr_text (o_runs 1 [(83, .sl 1 2000035 ((v1).length) 0 ((v1).length))] (by kernel_rfl) ?_)))
         obtain ⟨_, g7, hs⟩ := bind_some hs; obtain ⟨g7a, g7b⟩ := grd_some g7
         refine o_pure (v := .ptr 2000035 ((v1).length) ((Int.toNat 0) * 1 + 0)) (by kernel_rfl) (by kernel_rfl) (loc_indexRowT (e := 3) (sz := 1) (kk := 2000035) (L := (v1).length) (n := (v1).length) (k := .i64) (i := 0) (by kernel_rfl) (by kernel_rfl) (by kernel_rfl) g7a g7b) ?_
         obtain ⟨e4, he4, hs⟩ := bind_some hs; replace he4 := Option.some.inj he4
         refine o_loc (F := [(2000035, .row 3 1 0 (List.map EV.encI v1))]) (F' := [(2000035, .row 3 1 0 (List.map EV.encI v1))]) (v := .int .i64 e4) [2000035] (by kernel_rfl) (by kernel_rfl) rfl (by kernel_rfl) (loc_loadRow (L := (v1).length) (off := (Int.toNat 0) * 1 + 0) (els := (List.map EV.encI v1)) (cs := [.int .i64 e4]) (Int.toNat 0) 0 (by kernel_rfl) (by first | (simp only [List.length_map, List.length_set]; done) | rfl) rfl (by rw [← he4]; exact map_get _ (by first | omega | (simp only [List.length_set]; omega))) (by kernel_rfl)) (by kernel_rfl) ?_
         refine o_runs 1 [(86, .bool (!(decide (e4 = 0))))] (by kernel_rfl) ?_
         refine ov_nil (nrm_thenV ?_)
         refine v_cond (!(decide (e4 = 0))) (by kernel_rfl) (fun h12 => ?_) (fun h12 => ?_)
         ·replace hs := bif_t h12 hs
          refine v_seq (vr_text (o_runs 1 [(87, .sl 1 2000035 ((v1).length) 0 ((v1).length))] (by kernel_rfl) ?_))
          obtain ⟨_, g8, hs⟩ := bind_some hs; obtain ⟨g8a, g8b⟩ := grd_some g8
          refine o_pure (v := .ptr 2000035 ((v1).length) ((Int.toNat 1) * 1 + 0)) (by kernel_rfl) (by kernel_rfl) (loc_indexRowT (e := 3) (sz := 1) (kk := 2000035) (L := (v1).length) (n := (v1).length) (k := .i64) (i := 1) (by kernel_rfl) (by kernel_rfl) (by kernel_rfl) g8a g8b) ?_
          obtain ⟨e5, he5, hs⟩ := bind_some hs; replace he5 := Option.some.inj he5
          refine o_loc (F := [(2000035, .row 3 1 0 (List.map EV.encI v1))]) (F' := [(2000035, .row 3 1 0 (List.map EV.encI v1))]) (v := .int .i64 e5) [2000035] (by kernel_rfl) (by kernel_rfl) rfl (by kernel_rfl) (loc_loadRow (L := (v1).length) (off := (Int.toNat 1) * 1 + 0) (els := (List.map EV.encI v1)) (cs := [.int .i64 e5]) (Int.toNat 1) 0 (by kernel_rfl) (by first | (simp only [List.length_map, List.length_set]; done) | rfl) rfl (by rw [← he5]; exact map_get _ (by first | omega | (simp only [List.length_set]; omega))) (by kernel_rfl)) (by kernel_rfl) ?_
          refine o_runs 1 [(4, .int .i64 e5)] (by kernel_rfl) ?_
          refine ov_nil (nrm_thenV (v_ret (ret_thenV (ret_blkV (ret_thenV ?_)))))
          obtain rfl := si hs
          exact fin_ret (by kernel_rfl) (by kernel_rfl) (by kernel_rfl)
         ·replace hs := bif_f h12 hs
          refine v_skip (nrm_thenV (v_seq (vr_text (o_runs 1 [(90, .sl 1 2000035 ((v1).length) 0 ((v1).length))] (by kernel_rfl) ?_))))
          obtain ⟨_, g9, hs⟩ := bind_some hs; obtain ⟨g9a, g9b⟩ := grd_some g9
          refine o_pure (v := .ptr 2000035 ((v1).length) ((Int.toNat 2) * 1 + 0)) (by kernel_rfl) (by kernel_rfl) (loc_indexRowT (e := 3) (sz := 1) (kk := 2000035) (L := (v1).length) (n := (v1).length) (k := .i64) (i := 2) (by kernel_rfl) (by kernel_rfl) (by kernel_rfl) g9a g9b) ?_
          obtain ⟨e6, he6, hs⟩ := bind_some hs; replace he6 := Option.some.inj he6
          refine o_loc (F := [(2000035, .row 3 1 0 (List.map EV.encI v1))]) (F' := [(2000035, .row 3 1 0 (List.map EV.encI v1))]) (v := .int .i64 e6) [2000035] (by kernel_rfl) (by kernel_rfl) rfl (by kernel_rfl) (loc_loadRow (L := (v1).length) (off := (Int.toNat 2) * 1 + 0) (els := (List.map EV.encI v1)) (cs := [.int .i64 e6]) (Int.toNat 2) 0 (by kernel_rfl) (by first | (simp only [List.length_map, List.length_set]; done) | rfl) rfl (by rw [← he6]; exact map_get _ (by first | omega | (simp only [List.length_set]; omega))) (by kernel_rfl)) (by kernel_rfl) ?_
          refine o_runs 1 [(4, .int .i64 e6)] (by kernel_rfl) ?_
          refine ov_nil (nrm_thenV (v_ret (ret_blkV (ret_thenV ?_))))
          obtain rfl := si hs
          exact fin_ret (by kernel_rfl) (by kernel_rfl) (by kernel_rfl)
        ·replace hs := bif_f h11 hs
         refine v_skip (nrm_blkV (nrm_thenV (v_seq (v_draw mixedH (by kernel_rfl) ?_))))
         refine d_runs 3 0 [(95, .sl 1 2000035 ((v1).length) 0 ((v1).length)), (94, .int .i64 e.Op), (93, .ptr 3 0 0)] [⟨2, [], []⟩, ⟨1, [], [3]⟩, ⟨0, [], []⟩] (by kernel_rfl) (by kernel_rfl) ?_
         obtain ⟨_, g10, hs⟩ := bind_some hs; obtain ⟨g10a, g10b⟩ := grd_some g10
         refine d_pure (v := .ptr 2000035 ((v1).length) ((Int.toNat 0) * 1 + 0)) 3 rfl rfl rfl rfl (by kernel_rfl) (by kernel_rfl) (loc_indexRowT (e := 3) (sz := 1) (kk := 2000035) (L := (v1).length) (n := (v1).length) (k := .i64) (i := 0) (by kernel_rfl) (by kernel_rfl) (by kernel_rfl) g10a g10b) ?_
         obtain ⟨e7, he7, hs⟩ := bind_some hs; replace he7 := Option.some.inj he7
         refine d_loc (F := []) (R := [(2000035, .row 3 1 0 (List.map EV.encI v1))]) (F' := []) (v := .int .i64 e7) 4 [] [2000035] rfl rfl rfl rfl (by kernel_rfl) (by kernel_rfl) (by kernel_rfl) (by kernel_rfl) (by kernel_rfl) (by kernel_rfl) (by kernel_rfl) (by kernel_rfl) (loc_loadRow (L := (v1).length) (off := (Int.toNat 0) * 1 + 0) (els := (List.map EV.encI v1)) (cs := [.int .i64 e7]) (Int.toNat 0) 0 (by kernel_rfl) (by first | (simp only [List.length_map, List.length_set]; done) | rfl) rfl (by rw [← he7]; exact map_get _ (by first | omega | (simp only [List.length_set]; omega))) (by kernel_rfl)) ?_
         refine d_runs 1 5 [(98, .sl 1 2000035 ((v1).length) 0 ((v1).length))] (pfp 1 5) (by kernel_rfl) (by kernel_rfl) ?_
         obtain ⟨_, g11, hs⟩ := bind_some hs; obtain ⟨g11a, g11b⟩ := grd_some g11
         refine d_pure (v := .ptr 2000035 ((v1).length) ((Int.toNat 1) * 1 + 0)) 6 rfl rfl rfl rfl (by kernel_rfl) (by kernel_rfl) (loc_indexRowT (e := 3) (sz := 1) (kk := 2000035) (L := (v1).length) (n := (v1).length) (k := .i64) (i := 1) (by kernel_rfl) (by kernel_rfl) (by kernel_rfl) g11a g11b) ?_
         obtain ⟨e8, he8, hs⟩ := bind_some hs; replace he8 := Option.some.inj he8
         refine d_loc (F := []) (R := [(2000035, .row 3 1 0 (List.map EV.encI v1))]) (F' := []) (v := .int .i64 e8) 7 [] [2000035] rfl rfl rfl rfl (by kernel_rfl) (by kernel_rfl) (by kernel_rfl) (by kernel_rfl) (by kernel_rfl) (by kernel_rfl) (by kernel_rfl) (by kernel_rfl) (loc_loadRow (L := (v1).length) (off := (Int.toNat 1) * 1 + 0) (els := (List.map EV.encI v1)) (cs := [.int .i64 e8]) (Int.toNat 1) 0 (by kernel_rfl) (by first | (simp only [List.length_map, List.length_set]; done) | rfl) rfl (by rw [← he8]; exact map_get _ (by first | omega | (simp only [List.length_set]; omega))) (by kernel_rfl)) ?_
         obtain ⟨y6, c6, hs⟩ := bind_some hs
         refine d_pure (v := .int .i64 y6) 8 rfl rfl rfl rfl (by kernel_rfl) (by kernel_rfl) (loc_gcall0 (callV_func hbv40 (by kernel_rfl)) (w_expr_binary e.Op e7 e8 _ c6) (by kernel_rfl)) ?_
         refine d_runs 1 9 [(4, .int .i64 y6)] (pfp 1 9) (by kernel_rfl) (by kernel_rfl) ?_
         refine d_nil (by kernel_rfl) ?_
         refine nrm_thenV (v_ret ?_)
         obtain rfl := si hs
         exact fin_ret (by kernel_rfl) (by kernel_rfl) (by kernel_rfl)
theorem wr_expr_context_value : ∀ nF : Nat, (∀ (c_plan : Plan) (c_known : (List ((List UInt8) × Int))) (c_zones : (List (List UInt8))) (e : Expr) (r : Int), s_expr_context_value nF c_plan c_known c_zones e = some r → FnA Tryz.prog 24 [.agg [.vs 6 (List.map enc_Def c_plan.Defs), .vs 3 (List.map enc_Table c_plan.Tables), .vs 3 (List.map enc_Zone c_plan.Zones), .vs 20 (List.map enc_Rule c_plan.Rules), .vs 4 (List.map enc_Cap c_plan.Caps), .vs 6 (List.map enc_View c_plan.Views), .vs 3 (List.map enc_Point3 c_plan.Sun), .int .i64 c_plan.Hours, .mp 1000000, .vs 1 (List.map EV.encS c_zones)], .agg (enc_Expr e)] [(1000000, .map (encM V.str (V.int .i64) c_known))] (.int .i64 r) [(1000000, .map (encM V.str (V.int .i64) c_known))])
 | 0 => fun c_plan c_known c_zones e r hs => by rw [s_expr_context_value] at hs; cases hs
 | nF + 1 => fun c_plan c_known c_zones e r hs => ws_expr_context_value nF (wr_expr_context_value nF) c_plan c_known c_zones e r hs
theorem w_expr_context_value (nF : Nat) (c_plan : Plan) (c_known : (List ((List UInt8) × Int))) (c_zones : (List (List UInt8))) (e : Expr) (r : Int) (hs : s_expr_context_value nF c_plan c_known c_zones e = some r) : FnA Tryz.prog 24 [.agg [.vs 6 (List.map enc_Def c_plan.Defs), .vs 3 (List.map enc_Table c_plan.Tables), .vs 3 (List.map enc_Zone c_plan.Zones), .vs 20 (List.map enc_Rule c_plan.Rules), .vs 4 (List.map enc_Cap c_plan.Caps), .vs 6 (List.map enc_View c_plan.Views), .vs 3 (List.map enc_Point3 c_plan.Sun), .int .i64 c_plan.Hours, .mp 1000000, .vs 1 (List.map EV.encS c_zones)], .agg (enc_Expr e)] [(1000000, .map (encM V.str (V.int .i64) c_known))] (.int .i64 r) [(1000000, .map (encM V.str (V.int .i64) c_known))] := (wr_expr_context_value nF) c_plan c_known c_zones e r hs
theorem w_expr_prepare (p : Plan) (measures : (List Entry)) (zones : (List (List UInt8))) (r : Plan × (List (List UInt8)) × (List Int) × (List ((List UInt8) × Int))) (hs : s_expr_prepare p measures zones = some r) : FnA Tryz.prog 23 [.agg (enc_Plan p), .vs 2 (List.map enc_Entry measures), .vs 1 (List.map EV.encS zones)] [] (.tup [.agg [.vs 6 (List.map enc_Def r.1.Defs), .vs 3 (List.map enc_Table r.1.Tables), .vs 3 (List.map enc_Zone r.1.Zones), .vs 20 (List.map enc_Rule r.1.Rules), .vs 4 (List.map enc_Cap r.1.Caps), .vs 6 (List.map enc_View r.1.Views), .vs 3 (List.map enc_Point3 r.1.Sun), .int .i64 r.1.Hours, .mp 20, .vs 1 (List.map EV.encS r.2.1)], .vs 1 (List.map EV.encI r.2.2.1)]) [(20, .map (encM V.str (V.int .i64) r.2.2.2))] := by
 refine fnA_of_wp (N := 96) Tryz.func23 rfl rfl rfl fun cK0 => ?_
 unfold s_expr_prepare at hs
 refine v_same (ρ' := [(0, .agg (enc_Plan p)), (1, .vs 2 (List.map enc_Entry measures)), (2, .vs 1 (List.map EV.encS zones))]) rfl rfl ?_
 refine v_seq (vr_text (o_runh 3 [(7, .nils), (6, .ptr 6 0 0), (3, .ptr 3 0 0)] [(6, .box 69 [.nils, .nils, .nils, .nils, .nils, .nils, .nils, .int .i64 0, .nilm, .nils]), (3, .box 44 [.vs 6 (List.map enc_Def p.Defs), .vs 3 (List.map enc_Table p.Tables), .vs 3 (List.map enc_Zone p.Zones), .vs 20 (List.map enc_Rule p.Rules), .vs 4 (List.map enc_Cap p.Caps), .vs 6 (List.map enc_View p.Views), .vs 3 (List.map enc_Point3 p.Sun), .int .i64 p.Hours])] (by kernel_rfl) ?_))
 refine ov_nil (nrm_thenV (v_seq (vr_text (o_runh 6 [(8, .ptr 8 0 0), (22, .agg [.vs 6 (List.map enc_Def p.Defs), .vs 3 (List.map enc_Table p.Tables), .vs 3 (List.map enc_Zone p.Zones), .vs 20 (List.map enc_Rule p.Rules), .vs 4 (List.map enc_Cap p.Caps), .vs 6 (List.map enc_View p.Views), .vs 3 (List.map enc_Point3 p.Sun), .int .i64 p.Hours, .mp 20, .vs 1 (List.map EV.encS zones)]), (21, .vs 1 (List.map EV.encS zones)), (20, .mp 20), (19, .agg (enc_Plan p))] [(8, .box 69 [.vs 6 (List.map enc_Def p.Defs), .vs 3 (List.map enc_Table p.Tables), .vs 3 (List.map enc_Zone p.Zones), .vs 20 (List.map enc_Rule p.Rules), .vs 4 (List.map enc_Cap p.Caps), .vs 6 (List.map enc_View p.Views), .vs 3 (List.map enc_Point3 p.Sun), .int .i64 p.Hours, .mp 20, .vs 1 (List.map EV.encS zones)]), (20, .map (encM V.str (V.int .i64) [])), (6, .box 69 [.nils, .nils, .nils, .nils, .nils, .nils, .nils, .int .i64 0, .nilm, .nils]), (3, .box 44 [.vs 6 (List.map enc_Def p.Defs), .vs 3 (List.map enc_Table p.Tables), .vs 3 (List.map enc_Zone p.Zones), .vs 20 (List.map enc_Rule p.Rules), .vs 4 (List.map enc_Cap p.Caps), .vs 6 (List.map enc_View p.Views), .vs 3 (List.map enc_Point3 p.Sun), .int .i64 p.Hours])] (by kernel_rfl) ?_))))
 refine ov_nil (nrm_thenV (v_seq (vr_text (o_runh 2 [(9, .mp 23), (23, .mp 23)] [(23, .map (encM V.str V.bool [])), (8, .box 69 [.vs 6 (List.map enc_Def p.Defs), .vs 3 (List.map enc_Table p.Tables), .vs 3 (List.map enc_Zone p.Zones), .vs 20 (List.map enc_Rule p.Rules), .vs 4 (List.map enc_Cap p.Caps), .vs 6 (List.map enc_View p.Views), .vs 3 (List.map enc_Point3 p.Sun), .int .i64 p.Hours, .mp 20, .vs 1 (List.map EV.encS zones)]), (20, .map (encM V.str (V.int .i64) [])), (6, .box 69 [.nils, .nils, .nils, .nils, .nils, .nils, .nils, .int .i64 0, .nilm, .nils]), (3, .box 44 [.vs 6 (List.map enc_Def p.Defs), .vs 3 (List.map enc_Table p.Tables), .vs 3 (List.map enc_Zone p.Zones), .vs 20 (List.map enc_Rule p.Rules), .vs 4 (List.map enc_Cap p.Caps), .vs 6 (List.map enc_View p.Views), .vs 3 (List.map enc_Point3 p.Sun), .int .i64 p.Hours])] (by kernel_rfl) ?_))))
 refine ov_nil (nrm_thenV (v_seq (v_seq (vr_text (o_runs 1 [(24, .vs 2 (List.map enc_Entry measures))] (by kernel_rfl) ?_)))))
 refine o_pure (v := .int .i64 (List.length measures : Int)) (by kernel_rfl) (by kernel_rfl) (loc_lenVs (sz := 2) (els := (List.map enc_Entry measures)) (by kernel_rfl) (by kernel_rfl) (List.length_map ..)) ?_
 refine o_runs 1 [(26, .int .i64 0)] (by kernel_rfl) ?_
 refine ov_nil (nrm_thenV ?_)
 obtain ⟨z1, hs, hk1⟩ := bind_some hs
 refine v_join (S := (List ((List UInt8) × Bool)) × (List ((List UInt8) × Int))) (fun u => u = z1) (fun u => [(3, .ptr 3 0 0), (6, .ptr 6 0 0), (8, .ptr 8 0 0), (9, .mp 23)]) (fun u => [(23, .map (encM V.str V.bool u.1)), (8, .box 69 [.vs 6 (List.map enc_Def p.Defs), .vs 3 (List.map enc_Table p.Tables), .vs 3 (List.map enc_Zone p.Zones), .vs 20 (List.map enc_Rule p.Rules), .vs 4 (List.map enc_Cap p.Caps), .vs 6 (List.map enc_View p.Views), .vs 3 (List.map enc_Point3 p.Sun), .int .i64 p.Hours, .mp 20, .vs 1 (List.map EV.encS zones)]), (20, .map (encM V.str (V.int .i64) u.2)), (6, .box 69 [.nils, .nils, .nils, .nils, .nils, .nils, .nils, .int .i64 0, .nilm, .nils]), (3, .box 44 [.vs 6 (List.map enc_Def p.Defs), .vs 3 (List.map enc_Table p.Tables), .vs 3 (List.map enc_Zone p.Zones), .vs 20 (List.map enc_Rule p.Rules), .vs 4 (List.map enc_Cap p.Caps), .vs 6 (List.map enc_View p.Views), .vs 3 (List.map enc_Point3 p.Sun), .int .i64 p.Hours])]) ?_ (fun v1 hz => ?_)
 ·refine v_block ?_
  refine v_fuel (S := Int × (List ((List UInt8) × Bool)) × (List ((List UInt8) × Int))) (fun u => [(3, .ptr 3 0 0), (6, .ptr 6 0 0), (8, .ptr 8 0 0), (9, .mp 23), (24, .vs 2 (List.map enc_Entry measures)), (25, .int .i64 (List.length measures : Int)), (26, .int .i64 u.1)]) (fun u => [(23, .map (encM V.str V.bool u.2.1)), (8, .box 69 [.vs 6 (List.map enc_Def p.Defs), .vs 3 (List.map enc_Table p.Tables), .vs 3 (List.map enc_Zone p.Zones), .vs 20 (List.map enc_Rule p.Rules), .vs 4 (List.map enc_Cap p.Caps), .vs 6 (List.map enc_View p.Views), .vs 3 (List.map enc_Point3 p.Sun), .int .i64 p.Hours, .mp 20, .vs 1 (List.map EV.encS zones)]), (20, .map (encM V.str (V.int .i64) u.2.2)), (6, .box 69 [.nils, .nils, .nils, .nils, .nils, .nils, .nils, .int .i64 0, .nilm, .nils]), (3, .box 44 [.vs 6 (List.map enc_Def p.Defs), .vs 3 (List.map enc_Table p.Tables), .vs 3 (List.map enc_Zone p.Zones), .vs 20 (List.map enc_Rule p.Rules), .vs 4 (List.map enc_Cap p.Caps), .vs 6 (List.map enc_View p.Views), .vs 3 (List.map enc_Point3 p.Sun), .int .i64 p.Hours])]) (s_expr_prepare_L1 measures) (fun _ => rfl) KK (0, [], []) hs (cut_of [3, 6, 8, 9, 24, 25, 26] [23, 8, 20, 6, 3] (by kernel_rfl) (by kernel_rfl) (by kernel_rfl)) (fun K1 q1 hs => ?_)
  rw [s_expr_prepare_L1] at hs
  show WpV cK0 Tryz.prog none 96 _ _ [(3, .ptr 3 0 0), (6, .ptr 6 0 0), (8, .ptr 8 0 0), (9, .mp 23), (24, .vs 2 (List.map enc_Entry measures)), (25, .int .i64 (List.length measures : Int)), (26, .int .i64 q1.1)] [(23, .map (encM V.str V.bool q1.2.1)), (8, .box 69 [.vs 6 (List.map enc_Def p.Defs), .vs 3 (List.map enc_Table p.Tables), .vs 3 (List.map enc_Zone p.Zones), .vs 20 (List.map enc_Rule p.Rules), .vs 4 (List.map enc_Cap p.Caps), .vs 6 (List.map enc_View p.Views), .vs 3 (List.map enc_Point3 p.Sun), .int .i64 p.Hours, .mp 20, .vs 1 (List.map EV.encS zones)]), (20, .map (encM V.str (V.int .i64) q1.2.2)), (6, .box 69 [.nils, .nils, .nils, .nils, .nils, .nils, .nils, .int .i64 0, .nilm, .nils]), (3, .box 44 [.vs 6 (List.map enc_Def p.Defs), .vs 3 (List.map enc_Table p.Tables), .vs 3 (List.map enc_Zone p.Zones), .vs 20 (List.map enc_Rule p.Rules), .vs 4 (List.map enc_Cap p.Caps), .vs 6 (List.map enc_View p.Views), .vs 3 (List.map enc_Point3 p.Sun), .int .i64 p.Hours])] []
  refine v_seq (vr_text (o_runs 1 [(27, .bool (decide (q1.1 < (List.length measures : Int))))] (by kernel_rfl) ?_))
  refine ov_nil (nrm_thenV (v_seq ?_))
  refine v_cond (decide (q1.1 < (List.length measures : Int))) (by kernel_rfl) (fun h1 => ?_) (fun h1 => ?_)
  ·replace hs := bif_t h1 hs
   refine v_skip (nrm_thenV (v_seq (v_block (v_seq (vr_text ?_)))))
   obtain ⟨x1, g1, hs⟩ := bind_some hs; obtain ⟨g1a, g1b, g1c⟩ := idx_some g1
   refine o_pure (v := .vp (enc_Entry x1) 0) (by kernel_rfl) (by kernel_rfl) (loc_indexVs (e := 31) (sz := 2) (k := .i64) (els := (List.map enc_Entry measures)) (cs := (enc_Entry x1)) (by kernel_rfl) (by kernel_rfl) (by kernel_rfl) g1a (by rw [g1c]; exact map_get _ (by omega))) ?_
   refine o_runh 3 [(11, .ptr 11 0 0), (29, .agg (enc_Entry x1))] [(11, .box 31 [.str x1.Name, .int .i64 x1.N]), (23, .map (encM V.str V.bool q1.2.1)), (8, .box 69 [.vs 6 (List.map enc_Def p.Defs), .vs 3 (List.map enc_Table p.Tables), .vs 3 (List.map enc_Zone p.Zones), .vs 20 (List.map enc_Rule p.Rules), .vs 4 (List.map enc_Cap p.Caps), .vs 6 (List.map enc_View p.Views), .vs 3 (List.map enc_Point3 p.Sun), .int .i64 p.Hours, .mp 20, .vs 1 (List.map EV.encS zones)]), (20, .map (encM V.str (V.int .i64) q1.2.2)), (6, .box 69 [.nils, .nils, .nils, .nils, .nils, .nils, .nils, .int .i64 0, .nilm, .nils]), (3, .box 44 [.vs 6 (List.map enc_Def p.Defs), .vs 3 (List.map enc_Table p.Tables), .vs 3 (List.map enc_Zone p.Zones), .vs 20 (List.map enc_Rule p.Rules), .vs 4 (List.map enc_Cap p.Caps), .vs 6 (List.map enc_View p.Views), .vs 3 (List.map enc_Point3 p.Sun), .int .i64 p.Hours])] (by kernel_rfl) ?_
   refine ov_nil (nrm_thenV (v_seq (vr_text (o_runs 3 [(32, .str x1.Name), (31, .ptr 11 0 0), (30, .mp 23)] (by kernel_rfl) ?_))))
   refine o_loc (F := [(23, .map (encM V.str V.bool q1.2.1))]) (F' := [(23, .map (encM V.str V.bool q1.2.1))]) (v := .bool (Option.getD (mfind x1.Name q1.2.1) false)) [23] (by kernel_rfl) (by kernel_rfl) rfl (by kernel_rfl) (loc_lookup (et := 4) (f := V.str) (g := V.bool) (l := q1.2.1) (a := x1.Name) (z := false) (zv := .bool false) false (by kernel_rfl) kok9 (by kernel_rfl) (fun _ _ _ h => h) (by kernel_rfl) (by kernel_rfl)) (by kernel_rfl) ?_
   refine o_runs 1 [(34, .bool (!(Option.getD (mfind x1.Name q1.2.1) false)))] (by kernel_rfl) ?_
   refine ov_nil (nrm_thenV ?_)
   obtain ⟨z2, hs, hk2⟩ := bind_some hs
   refine v_join (S := (List ((List UInt8) × Bool)) × (List ((List UInt8) × Int))) (fun u => u = z2) (fun u => [(3, .ptr 3 0 0), (6, .ptr 6 0 0), (8, .ptr 8 0 0), (9, .mp 23), (24, .vs 2 (List.map enc_Entry measures)), (25, .int .i64 (List.length measures : Int)), (26, .int .i64 q1.1)]) (fun u => [(23, .map (encM V.str V.bool u.1)), (20, .map (encM V.str (V.int .i64) u.2)), (8, .box 69 [.vs 6 (List.map enc_Def p.Defs), .vs 3 (List.map enc_Table p.Tables), .vs 3 (List.map enc_Zone p.Zones), .vs 20 (List.map enc_Rule p.Rules), .vs 4 (List.map enc_Cap p.Caps), .vs 6 (List.map enc_View p.Views), .vs 3 (List.map enc_Point3 p.Sun), .int .i64 p.Hours, .mp 20, .vs 1 (List.map EV.encS zones)]), (6, .box 69 [.nils, .nils, .nils, .nils, .nils, .nils, .nils, .int .i64 0, .nilm, .nils]), (3, .box 44 [.vs 6 (List.map enc_Def p.Defs), .vs 3 (List.map enc_Table p.Tables), .vs 3 (List.map enc_Zone p.Zones), .vs 20 (List.map enc_Rule p.Rules), .vs 4 (List.map enc_Cap p.Caps), .vs 6 (List.map enc_View p.Views), .vs 3 (List.map enc_Point3 p.Sun), .int .i64 p.Hours])]) ?_ (fun v2 hz => ?_)
   ·refine v_cond (!(Option.getD (mfind x1.Name q1.2.1) false)) (by kernel_rfl) (fun h2 => ?_) (fun h2 => ?_)
    ·replace hs := bif_t h2 hs
     refine v_draw mixedH (by kernel_rfl) ?_
     refine d_runs 9 0 [(43, .int .i64 x1.N), (42, .ptr 11 0 1), (41, .str x1.Name), (40, .ptr 11 0 0), (39, .mp 23), (38, .str x1.Name), (37, .ptr 11 0 0), (36, .mp 20), (35, .ptr 8 0 8)] [⟨8, [], [11]⟩, ⟨7, [], []⟩, ⟨6, [], [11]⟩, ⟨5, [], []⟩, ⟨4, [], []⟩, ⟨3, [], [11]⟩, ⟨2, [], []⟩, ⟨1, [], [8]⟩, ⟨0, [], []⟩] (by kernel_rfl) (by kernel_rfl) ?_
     refine d_loc (F := [(20, .map (encM V.str (V.int .i64) q1.2.2))]) (R := []) (F' := [(20, .map (encM V.str (V.int .i64) (mset x1.Name x1.N q1.2.2)))]) (v := .no) 9 [20] [] rfl rfl rfl rfl (by kernel_rfl) (by kernel_rfl) (by kernel_rfl) (by kernel_rfl) (by kernel_rfl) (by kernel_rfl) (by kernel_rfl) (by kernel_rfl) (loc_mapUpdate (et := 3) (f := V.str) (g := (V.int .i64)) (l := q1.2.2) (a := x1.Name) (c := x1.N) (by kernel_rfl) kok9 (by kernel_rfl) (by kernel_rfl) (by kernel_rfl) (by kernel_rfl) (by kernel_rfl)) ?_
     refine d_loc (F := [(23, .map (encM V.str V.bool q1.2.1))]) (R := []) (F' := [(23, .map (encM V.str V.bool (mset x1.Name true q1.2.1)))]) (v := .no) 10 [23] [] rfl rfl rfl rfl (by kernel_rfl) (by kernel_rfl) (by kernel_rfl) (by kernel_rfl) (by kernel_rfl) (by kernel_rfl) (by kernel_rfl) (by kernel_rfl) (loc_mapUpdate (et := 4) (f := V.str) (g := V.bool) (l := q1.2.1) (a := x1.Name) (c := true) (by kernel_rfl) kok9 (by kernel_rfl) (by kernel_rfl) (by kernel_rfl) (by kernel_rfl) (by kernel_rfl)) ?_
     refine d_nil (by kernel_rfl) ?_
     obtain rfl := si hs
     refine nrm_join ((mset x1.Name true q1.2.1), (mset x1.Name x1.N q1.2.2)) rfl ?_
     exact cut_of [3, 6, 8, 9, 24, 25, 26] [23, 20, 8, 6, 3] (by kernel_rfl) (by kernel_rfl) (by kernel_rfl)
    ·replace hs := bif_f h2 hs
     refine v_skip ?_
     obtain rfl := si hs
     refine nrm_join (q1.2.1, q1.2.2) rfl ?_
     exact cut_of [3, 6, 8, 9, 24, 25, 26] [23, 20, 8, 6, 3] (by kernel_rfl) (by kernel_rfl) (by kernel_rfl)
   ·subst hz; clear hs; have hs := hk2; clear hk2
    refine nrm_blkV (nrm_thenV (vr_text (o_runs 2 [(26, .int .i64 (w64 (q1.1 + 1))), (44, .int .i64 (w64 (q1.1 + 1)))] (by kernel_rfl) ?_)))
    refine ov_nil (nrm_fuel ((w64 (q1.1 + 1)), v2.1, v2.2) hs ?_)
    exact cut_of [3, 6, 8, 9, 24, 25, 26] [23, 8, 20, 6, 3] (by kernel_rfl) (by kernel_rfl) (by kernel_rfl)
  ·replace hs := bif_f h1 hs
   refine v_exit (exit_thenV (exit_fuel ?_))
   refine exit_blkV ?_
   obtain rfl := si hs
   refine nrm_join (q1.2.1, q1.2.2) rfl ?_
   exact cut_of [3, 6, 8, 9] [23, 8, 20, 6, 3] (by kernel_rfl) (by kernel_rfl) (by kernel_rfl)
 ·subst hz; clear hs; have hs := hk1; clear hk1
  refine nrm_thenV (v_seq (vr_text (o_runs 2 [(46, .vs 6 (List.map enc_Def p.Defs)), (45, .ptr 3 0 0)] (by kernel_rfl) ?_)))
  refine o_pure (v := .int .i64 (List.length p.Defs : Int)) (by kernel_rfl) (by kernel_rfl) (loc_lenVs (sz := 6) (els := (List.map enc_Def p.Defs)) (by kernel_rfl) (by kernel_rfl) (List.length_map ..)) ?_
  obtain ⟨_, g2, hs⟩ := bind_some hs; obtain ⟨g2a, g2b, g2c⟩ := grd_some g2
  refine o_loc (F := []) (F' := [(48, .row 3 1 0 (List.map EV.encI (List.replicate (Int.toNat (List.length p.Defs : Int)) (0 : Int))))]) (v := .sl 1 48 (((List.replicate (Int.toNat (List.length p.Defs : Int)) (0 : Int))).length) 0 (((List.replicate (Int.toNat (List.length p.Defs : Int)) (0 : Int))).length)) [] (by kernel_rfl) (by kernel_rfl) rfl (by kernel_rfl) (loc_makeSliceT (L := ((List.replicate (Int.toNat (List.length p.Defs : Int)) (0 : Int))).length) (e := 3) (sz := 1) (bytes := 8) (q := (List.length p.Defs : Int)) (k := .i64) (k2 := .i64) (cs := [.int .i64 0]) (cs2 := [.int .i64 0]) (by kernel_rfl) (by kernel_rfl) (by kernel_rfl) (by kernel_rfl) (by kernel_rfl) g2a g2b g2c (List.map_replicate (f := EV.encI)).symm (List.length_replicate ..) (fun _ _ h => h)) (by kernel_rfl) ?_
  refine o_runs 1 [(12, .sl 1 48 (((List.replicate (Int.toNat (List.length p.Defs : Int)) (0 : Int))).length) 0 (((List.replicate (Int.toNat (List.length p.Defs : Int)) (0 : Int))).length))] (by kernel_rfl) ?_
  refine ov_nil (nrm_thenV (v_seq (vr_text (o_runs 1 [(50, .agg (enc_Plan p))] (by kernel_rfl) ?_))))
  obtain ⟨y1, c1, hs⟩ := bind_some hs
  refine o_pure (v := .tup [.vs 1 (List.map EV.encI y1.1), .nils, .int .i64 y1.2]) (by kernel_rfl) (by kernel_rfl) (loc_gcall0 (callV_func hbv36 (by kernel_rfl)) (w_define_Order p _ c1) (by kernel_rfl)) ?_
  refine o_runs 7 [(15, .int .i64 y1.2), (14, .nils), (13, .vs 1 (List.map EV.encI y1.1)), (54, .int .i64 y1.2), (53, .nils), (52, .vs 1 (List.map EV.encI y1.1)), (49, .tup [.vs 1 (List.map EV.encI y1.1), .nils, .int .i64 y1.2])] (by kernel_rfl) ?_
  refine ov_nil (nrm_thenV (v_seq (v_seq (vr_text (o_runs 2 [(56, .bool (!(decide (y1.2 = 0)))), (55, .int .i64 y1.2)] (by kernel_rfl) ?_)))))
  refine ov_nil (nrm_thenV ?_)
  refine v_cond (!(decide (y1.2 = 0))) (by kernel_rfl) (fun h3 => ?_) (fun h3 => ?_)
  ·replace hs := bif_t h3 hs
   refine v_seq (vr_text (o_runh 4 [(7, .sl 1 48 (((List.replicate (Int.toNat (List.length p.Defs : Int)) (0 : Int))).length) 0 (((List.replicate (Int.toNat (List.length p.Defs : Int)) (0 : Int))).length)), (58, .sl 1 48 (((List.replicate (Int.toNat (List.length p.Defs : Int)) (0 : Int))).length) 0 (((List.replicate (Int.toNat (List.length p.Defs : Int)) (0 : Int))).length)), (57, .agg [.vs 6 (List.map enc_Def p.Defs), .vs 3 (List.map enc_Table p.Tables), .vs 3 (List.map enc_Zone p.Zones), .vs 20 (List.map enc_Rule p.Rules), .vs 4 (List.map enc_Cap p.Caps), .vs 6 (List.map enc_View p.Views), .vs 3 (List.map enc_Point3 p.Sun), .int .i64 p.Hours, .mp 20, .vs 1 (List.map EV.encS zones)])] [(48, .row 3 1 0 (List.map EV.encI (List.replicate (Int.toNat (List.length p.Defs : Int)) (0 : Int)))), (23, .map (encM V.str V.bool v1.1)), (8, .box 69 [.vs 6 (List.map enc_Def p.Defs), .vs 3 (List.map enc_Table p.Tables), .vs 3 (List.map enc_Zone p.Zones), .vs 20 (List.map enc_Rule p.Rules), .vs 4 (List.map enc_Cap p.Caps), .vs 6 (List.map enc_View p.Views), .vs 3 (List.map enc_Point3 p.Sun), .int .i64 p.Hours, .mp 20, .vs 1 (List.map EV.encS zones)]), (20, .map (encM V.str (V.int .i64) v1.2)), (6, .box 69 [.vs 6 (List.map enc_Def p.Defs), .vs 3 (List.map enc_Table p.Tables), .vs 3 (List.map enc_Zone p.Zones), .vs 20 (List.map enc_Rule p.Rules), .vs 4 (List.map enc_Cap p.Caps), .vs 6 (List.map enc_View p.Views), .vs 3 (List.map enc_Point3 p.Sun), .int .i64 p.Hours, .mp 20, .vs 1 (List.map EV.encS zones)]), (3, .box 44 [.vs 6 (List.map enc_Def p.Defs), .vs 3 (List.map enc_Table p.Tables), .vs 3 (List.map enc_Zone p.Zones), .vs 20 (List.map enc_Rule p.Rules), .vs 4 (List.map enc_Cap p.Caps), .vs 6 (List.map enc_View p.Views), .vs 3 (List.map enc_Point3 p.Sun), .int .i64 p.Hours])] (by kernel_rfl) ?_))
   refine ov_nil (nrm_thenV (v_to _ [(48, .row 3 1 (((List.map EV.encI (List.replicate (Int.toNat (List.length p.Defs : Int)) (0 : Int)))).length) (List.map EV.encI (List.replicate (Int.toNat (List.length p.Defs : Int)) (0 : Int)))), (23, .map (encM V.str V.bool v1.1)), (8, .box 69 [.vs 6 (List.map enc_Def p.Defs), .vs 3 (List.map enc_Table p.Tables), .vs 3 (List.map enc_Zone p.Zones), .vs 20 (List.map enc_Rule p.Rules), .vs 4 (List.map enc_Cap p.Caps), .vs 6 (List.map enc_View p.Views), .vs 3 (List.map enc_Point3 p.Sun), .int .i64 p.Hours, .mp 20, .vs 1 (List.map EV.encS zones)]), (20, .map (encM V.str (V.int .i64) v1.2)), (6, .box 69 [.vs 6 (List.map enc_Def p.Defs), .vs 3 (List.map enc_Table p.Tables), .vs 3 (List.map enc_Zone p.Zones), .vs 20 (List.map enc_Rule p.Rules), .vs 4 (List.map enc_Cap p.Caps), .vs 6 (List.map enc_View p.Views), .vs 3 (List.map enc_Point3 p.Sun), .int .i64 p.Hours, .mp 20, .vs 1 (List.map EV.encS zones)]), (3, .box 44 [.vs 6 (List.map enc_Def p.Defs), .vs 3 (List.map enc_Table p.Tables), .vs 3 (List.map enc_Zone p.Zones), .vs 20 (List.map enc_Rule p.Rules), .vs 4 (List.map enc_Cap p.Caps), .vs 6 (List.map enc_View p.Views), .vs 3 (List.map enc_Point3 p.Sun), .int .i64 p.Hours])] (cut_freeze (F := [(48, .row 3 1 0 (List.map EV.encI (List.replicate (Int.toNat (List.length p.Defs : Int)) (0 : Int))))]) [48] rfl (by kernel_rfl) (by kernel_rfl)) ?_))
   refine v_to ((7, .vs 1 (List.map EV.encI (List.replicate (Int.toNat (List.length p.Defs : Int)) (0 : Int)))) :: _) _ (cut_view (R := [(48, .row 3 1 (((List.map EV.encI (List.replicate (Int.toNat (List.length p.Defs : Int)) (0 : Int)))).length) (List.map EV.encI (List.replicate (Int.toNat (List.length p.Defs : Int)) (0 : Int))))]) (ks := [48]) (by kernel_rfl) (by kernel_rfl) (.row (t := 3) (fz := (((List.map EV.encI (List.replicate (Int.toNat (List.length p.Defs : Int)) (0 : Int)))).length)) (by kernel_rfl) (by first | (simp only [List.length_map, List.length_set]; done) | rfl))) ?_
   refine v_ret (ret_thenV ?_)
   obtain rfl := si hs
   exact fin_ret (by kernel_rfl) (by kernel_rfl) (by kernel_rfl)
  ·replace hs := bif_f h3 hs
   refine v_skip (nrm_thenV (v_seq (v_seq (vr_text (o_runs 1 [(59, .vs 1 (List.map EV.encI y1.1))] (by kernel_rfl) ?_)))))
   refine o_pure (v := .int .i64 (List.length y1.1 : Int)) (by kernel_rfl) (by kernel_rfl) (loc_lenVs (sz := 1) (els := (List.map EV.encI y1.1)) (by kernel_rfl) (by kernel_rfl) (List.length_map ..)) ?_
   refine o_runs 1 [(61, .int .i64 0)] (by kernel_rfl) ?_
   refine ov_nil (nrm_thenV ?_)
   obtain ⟨z3, hs, hk3⟩ := bind_some hs
   refine v_join (S := (List Int) × (List ((List UInt8) × Int))) (fun u => u = z3) (fun u => [(6, .ptr 6 0 0), (8, .ptr 8 0 0), (12, .sl 1 48 ((u.1).length) 0 ((u.1).length))]) (fun u => [(48, .row 3 1 0 (List.map EV.encI u.1)), (8, .box 69 [.vs 6 (List.map enc_Def p.Defs), .vs 3 (List.map enc_Table p.Tables), .vs 3 (List.map enc_Zone p.Zones), .vs 20 (List.map enc_Rule p.Rules), .vs 4 (List.map enc_Cap p.Caps), .vs 6 (List.map enc_View p.Views), .vs 3 (List.map enc_Point3 p.Sun), .int .i64 p.Hours, .mp 20, .vs 1 (List.map EV.encS zones)]), (20, .map (encM V.str (V.int .i64) u.2)), (6, .box 69 [.nils, .nils, .nils, .nils, .nils, .nils, .nils, .int .i64 0, .nilm, .nils])]) ?_ (fun v3 hz => ?_)
   ·refine v_block ?_
    refine v_fuel (S := Int × (List Int) × (List ((List UInt8) × Int))) (fun u => [(3, .ptr 3 0 0), (6, .ptr 6 0 0), (8, .ptr 8 0 0), (9, .mp 23), (12, .sl 1 48 ((u.2.1).length) 0 ((u.2.1).length)), (59, .vs 1 (List.map EV.encI y1.1)), (60, .int .i64 (List.length y1.1 : Int)), (61, .int .i64 u.1)]) (fun u => [(48, .row 3 1 0 (List.map EV.encI u.2.1)), (23, .map (encM V.str V.bool v1.1)), (8, .box 69 [.vs 6 (List.map enc_Def p.Defs), .vs 3 (List.map enc_Table p.Tables), .vs 3 (List.map enc_Zone p.Zones), .vs 20 (List.map enc_Rule p.Rules), .vs 4 (List.map enc_Cap p.Caps), .vs 6 (List.map enc_View p.Views), .vs 3 (List.map enc_Point3 p.Sun), .int .i64 p.Hours, .mp 20, .vs 1 (List.map EV.encS zones)]), (20, .map (encM V.str (V.int .i64) u.2.2)), (6, .box 69 [.nils, .nils, .nils, .nils, .nils, .nils, .nils, .int .i64 0, .nilm, .nils]), (3, .box 44 [.vs 6 (List.map enc_Def p.Defs), .vs 3 (List.map enc_Table p.Tables), .vs 3 (List.map enc_Zone p.Zones), .vs 20 (List.map enc_Rule p.Rules), .vs 4 (List.map enc_Cap p.Caps), .vs 6 (List.map enc_View p.Views), .vs 3 (List.map enc_Point3 p.Sun), .int .i64 p.Hours])]) (s_expr_prepare_L2 p zones v1 y1) (fun _ => rfl) KK (0, (List.replicate (Int.toNat (List.length p.Defs : Int)) (0 : Int)), v1.2) hs (cut_of [3, 6, 8, 9, 12, 59, 60, 61] [48, 23, 8, 20, 6, 3] (by kernel_rfl) (by kernel_rfl) (by kernel_rfl)) (fun K2 q2 hs => ?_)
    rw [s_expr_prepare_L2] at hs
    show WpV cK0 Tryz.prog none 96 _ _ [(3, .ptr 3 0 0), (6, .ptr 6 0 0), (8, .ptr 8 0 0), (9, .mp 23), (12, .sl 1 48 ((q2.2.1).length) 0 ((q2.2.1).length)), (59, .vs 1 (List.map EV.encI y1.1)), (60, .int .i64 (List.length y1.1 : Int)), (61, .int .i64 q2.1)] [(48, .row 3 1 0 (List.map EV.encI q2.2.1)), (23, .map (encM V.str V.bool v1.1)), (8, .box 69 [.vs 6 (List.map enc_Def p.Defs), .vs 3 (List.map enc_Table p.Tables), .vs 3 (List.map enc_Zone p.Zones), .vs 20 (List.map enc_Rule p.Rules), .vs 4 (List.map enc_Cap p.Caps), .vs 6 (List.map enc_View p.Views), .vs 3 (List.map enc_Point3 p.Sun), .int .i64 p.Hours, .mp 20, .vs 1 (List.map EV.encS zones)]), (20, .map (encM V.str (V.int .i64) q2.2.2)), (6, .box 69 [.nils, .nils, .nils, .nils, .nils, .nils, .nils, .int .i64 0, .nilm, .nils]), (3, .box 44 [.vs 6 (List.map enc_Def p.Defs), .vs 3 (List.map enc_Table p.Tables), .vs 3 (List.map enc_Zone p.Zones), .vs 20 (List.map enc_Rule p.Rules), .vs 4 (List.map enc_Cap p.Caps), .vs 6 (List.map enc_View p.Views), .vs 3 (List.map enc_Point3 p.Sun), .int .i64 p.Hours])] []
    refine v_seq (vr_text (o_runs 1 [(62, .bool (decide (q2.1 < (List.length y1.1 : Int))))] (by kernel_rfl) ?_))
    refine ov_nil (nrm_thenV (v_seq ?_))
    refine v_cond (decide (q2.1 < (List.length y1.1 : Int))) (by kernel_rfl) (fun h4 => ?_) (fun h4 => ?_)
    ·replace hs := bif_t h4 hs
     refine v_skip (nrm_thenV (v_seq (v_block (v_seq (vr_text ?_)))))
     obtain ⟨x2, g3, hs⟩ := bind_some hs; obtain ⟨g3a, g3b, g3c⟩ := idx_some g3
     refine o_pure (v := .vp [.int .i64 x2] 0) (by kernel_rfl) (by kernel_rfl) (loc_indexVs (e := 3) (sz := 1) (k := .i64) (els := (List.map EV.encI y1.1)) (cs := (EV.encI x2)) (by kernel_rfl) (by kernel_rfl) (by kernel_rfl) g3a (by rw [g3c]; exact map_get _ (by omega))) ?_
     refine o_runs 2 [(17, .int .i64 x2), (64, .int .i64 x2)] (by kernel_rfl) ?_
     refine ov_nil (nrm_thenV (v_seq (vr_text (o_runs 3 [(67, .int .i64 x2), (66, .vs 6 (List.map enc_Def p.Defs)), (65, .ptr 3 0 0)] (by kernel_rfl) ?_))))
     obtain ⟨x3, g4, hs⟩ := bind_some hs; obtain ⟨g4a, g4b, g4c⟩ := idx_some g4
     refine o_pure (v := .vp (enc_Def x3) 0) (by kernel_rfl) (by kernel_rfl) (loc_indexVs (e := 93) (sz := 6) (k := .i64) (els := (List.map enc_Def p.Defs)) (cs := (enc_Def x3)) (by kernel_rfl) (by kernel_rfl) (by kernel_rfl) g4a (by rw [g4c]; exact map_get _ (by omega))) ?_
     refine o_runh 3 [(18, .ptr 18 0 0), (69, .agg (enc_Def x3))] [(18, .box 93 [.str x3.Name, .int .i64 x3.Body.Op, .int .i64 x3.Body.N, .str x3.Body.S, .str x3.Body.Key, .vs 5 (encs_Expr x3.Body.Args)]), (48, .row 3 1 0 (List.map EV.encI q2.2.1)), (23, .map (encM V.str V.bool v1.1)), (8, .box 69 [.vs 6 (List.map enc_Def p.Defs), .vs 3 (List.map enc_Table p.Tables), .vs 3 (List.map enc_Zone p.Zones), .vs 20 (List.map enc_Rule p.Rules), .vs 4 (List.map enc_Cap p.Caps), .vs 6 (List.map enc_View p.Views), .vs 3 (List.map enc_Point3 p.Sun), .int .i64 p.Hours, .mp 20, .vs 1 (List.map EV.encS zones)]), (20, .map (encM V.str (V.int .i64) q2.2.2)), (6, .box 69 [.nils, .nils, .nils, .nils, .nils, .nils, .nils, .int .i64 0, .nilm, .nils]), (3, .box 44 [.vs 6 (List.map enc_Def p.Defs), .vs 3 (List.map enc_Table p.Tables), .vs 3 (List.map enc_Zone p.Zones), .vs 20 (List.map enc_Rule p.Rules), .vs 4 (List.map enc_Cap p.Caps), .vs 6 (List.map enc_View p.Views), .vs 3 (List.map enc_Point3 p.Sun), .int .i64 p.Hours])] (by kernel_rfl) ?_
     refine ov_nil (nrm_thenV (v_seq (v_seq (vr_text (o_runs 2 [(71, .agg (enc_Expr x3.Body)), (70, .ptr 18 0 1)] (by kernel_rfl) ?_)))))
     obtain ⟨y2, c2, hs⟩ := bind_some hs
     refine o_pure (v := .bool y2) (by kernel_rfl) (by kernel_rfl) (loc_gcall0 (callV_func hbv22 (by kernel_rfl)) (w_expr_Right x3.Body _ c2) (by kernel_rfl)) ?_
     refine ov_nil (nrm_thenV ?_)
     obtain ⟨z4, hs, hk4⟩ := bind_some hs
     refine v_join (S := (List Int)) (fun u => u = z4) (fun u => [(3, .ptr 3 0 0), (6, .ptr 6 0 0), (8, .ptr 8 0 0), (9, .mp 23), (12, .sl 1 48 ((u).length) 0 ((u).length)), (17, .int .i64 x2), (18, .ptr 18 0 0), (59, .vs 1 (List.map EV.encI y1.1)), (60, .int .i64 (List.length y1.1 : Int)), (61, .int .i64 q2.1)]) (fun u => [(48, .row 3 1 0 (List.map EV.encI u)), (20, .map (encM V.str (V.int .i64) q2.2.2)), (18, .box 93 [.str x3.Name, .int .i64 x3.Body.Op, .int .i64 x3.Body.N, .str x3.Body.S, .str x3.Body.Key, .vs 5 (encs_Expr x3.Body.Args)]), (23, .map (encM V.str V.bool v1.1)), (8, .box 69 [.vs 6 (List.map enc_Def p.Defs), .vs 3 (List.map enc_Table p.Tables), .vs 3 (List.map enc_Zone p.Zones), .vs 20 (List.map enc_Rule p.Rules), .vs 4 (List.map enc_Cap p.Caps), .vs 6 (List.map enc_View p.Views), .vs 3 (List.map enc_Point3 p.Sun), .int .i64 p.Hours, .mp 20, .vs 1 (List.map EV.encS zones)]), (6, .box 69 [.nils, .nils, .nils, .nils, .nils, .nils, .nils, .int .i64 0, .nilm, .nils]), (3, .box 44 [.vs 6 (List.map enc_Def p.Defs), .vs 3 (List.map enc_Table p.Tables), .vs 3 (List.map enc_Zone p.Zones), .vs 20 (List.map enc_Rule p.Rules), .vs 4 (List.map enc_Cap p.Caps), .vs 6 (List.map enc_View p.Views), .vs 3 (List.map enc_Point3 p.Sun), .int .i64 p.Hours])]) ?_ (fun v4 hz => ?_)
     ·refine v_cond y2 (by kernel_rfl) (fun h5 => ?_) (fun h5 => ?_)
      ·replace hs := bif_t h5 hs
       refine vr_text (o_runs 5 [(77, .agg (enc_Expr x3.Body)), (76, .ptr 18 0 1), (75, .agg [.vs 6 (List.map enc_Def p.Defs), .vs 3 (List.map enc_Table p.Tables), .vs 3 (List.map enc_Zone p.Zones), .vs 20 (List.map enc_Rule p.Rules), .vs 4 (List.map enc_Cap p.Caps), .vs 6 (List.map enc_View p.Views), .vs 3 (List.map enc_Point3 p.Sun), .int .i64 p.Hours, .mp 20, .vs 1 (List.map EV.encS zones)]), (74, .int .i64 x2), (73, .sl 1 48 ((q2.2.1).length) 0 ((q2.2.1).length))] (by kernel_rfl) ?_)
       obtain ⟨y3, c3, hs⟩ := bind_some hs
       refine o_loc (F := [(20, .map (encM V.str (V.int .i64) q2.2.2))]) (F' := [(20, .map (encM V.str (V.int .i64) q2.2.2))]) (v := .int .i64 y3) [20] (by kernel_rfl) (by kernel_rfl) rfl (by kernel_rfl) (loc_g (R := []) [.agg [.vs 6 (List.map enc_Def p.Defs), .vs 3 (List.map enc_Table p.Tables), .vs 3 (List.map enc_Zone p.Zones), .vs 20 (List.map enc_Rule p.Rules), .vs 4 (List.map enc_Cap p.Caps), .vs 6 (List.map enc_View p.Views), .vs 3 (List.map enc_Point3 p.Sun), .int .i64 p.Hours, .mp 20, .vs 1 (List.map EV.encS zones)], .agg (enc_Expr x3.Body)] [(1000000, 20)] (callV_func hbv24 (by kernel_rfl)) (w_expr_context_value KK p q2.2.2 zones x3.Body _ c3) (.cons (.same _) (.cons (.same _) (.nil))) (by kernel_rfl) (by kernel_rfl) (by kernel_rfl) (by kernel_rfl) (by kernel_rfl) (by kernel_rfl) (by kernel_rfl) (by kernel_rfl)) (by kernel_rfl) ?_
       obtain ⟨_, g5, hs⟩ := bind_some hs; obtain ⟨g5a, g5b⟩ := grd_some g5
       refine o_pure (v := .ptr 48 ((q2.2.1).length) ((Int.toNat x2) * 1 + 0)) (by kernel_rfl) (by kernel_rfl) (loc_indexRowT (e := 3) (sz := 1) (kk := 48) (L := (q2.2.1).length) (n := (q2.2.1).length) (k := .i64) (i := x2) (by kernel_rfl) (by kernel_rfl) (by kernel_rfl) g5a g5b) ?_
       obtain ⟨e1, he1, hs⟩ := bind_some hs; replace he1 := Option.some.inj he1
       refine o_loc (F := [(48, .row 3 1 0 (List.map EV.encI q2.2.1))]) (F' := [(48, .row 3 1 0 (List.map EV.encI (List.set q2.2.1 (Int.toNat x2) y3)))]) (v := .no) [48] (by kernel_rfl) (by kernel_rfl) rfl (by kernel_rfl) (loc_storeRowT (L := (q2.2.1).length) (off := (Int.toNat x2) * 1 + 0) (els := (List.map EV.encI q2.2.1)) (cs := [.int .i64 e1]) (c' := [.int .i64 y3]) (Int.toNat x2) 0 (by kernel_rfl) (by first | (simp only [List.length_map, List.length_set]; done) | rfl) rfl (by rw [← he1]; exact map_get _ (by first | omega | (simp only [List.length_set]; omega))) (by first | exact Nat.zero_le _ | omega) (by kernel_rfl) (by kernel_rfl) (by kernel_rfl) (by kernel_rfl) (by kernel_rfl) (by kernel_rfl) List.map_set.symm) (by kernel_rfl) ?_
       refine ov_nil ?_
       obtain rfl := si hs
       refine nrm_join (List.set q2.2.1 (Int.toNat x2) y3) rfl ?_
       exact Cut.trans (cut_eq 12 (v := .sl 1 48 ((q2.2.1).length) 0 ((q2.2.1).length)) (v' := .sl 1 48 (((List.set q2.2.1 (Int.toNat x2) y3)).length) 0 (((List.set q2.2.1 (Int.toNat x2) y3)).length)) (by kernel_rfl) (by first | rfl | simp only [List.length_set])) (cut_of [3, 6, 8, 9, 12, 17, 18, 59, 60, 61] [48, 20, 18, 23, 8, 6, 3] (by kernel_rfl) (by kernel_rfl) (by kernel_rfl))
      ·replace hs := bif_f h5 hs
       refine v_skip ?_
       obtain rfl := si hs
       refine nrm_join q2.2.1 rfl ?_
       exact cut_of [3, 6, 8, 9, 12, 17, 18, 59, 60, 61] [48, 20, 18, 23, 8, 6, 3] (by kernel_rfl) (by kernel_rfl) (by kernel_rfl)
     ·subst hz; clear hs; have hs := hk4; clear hk4
      refine nrm_thenV (v_seq (vr_text (o_runs 3 [(82, .str x3.Name), (81, .ptr 18 0 0), (80, .mp 23)] (by kernel_rfl) ?_)))
      refine o_loc (F := [(23, .map (encM V.str V.bool v1.1))]) (F' := [(23, .map (encM V.str V.bool v1.1))]) (v := .bool (Option.getD (mfind x3.Name v1.1) false)) [23] (by kernel_rfl) (by kernel_rfl) rfl (by kernel_rfl) (loc_lookup (et := 4) (f := V.str) (g := V.bool) (l := v1.1) (a := x3.Name) (z := false) (zv := .bool false) false (by kernel_rfl) kok9 (by kernel_rfl) (fun _ _ _ h => h) (by kernel_rfl) (by kernel_rfl)) (by kernel_rfl) ?_
      refine o_runs 1 [(84, .bool (!(Option.getD (mfind x3.Name v1.1) false)))] (by kernel_rfl) ?_
      refine ov_nil (nrm_thenV ?_)
      obtain ⟨z5, hs, hk5⟩ := bind_some hs
      refine v_join (S := (List ((List UInt8) × Int))) (fun u => u = z5) (fun u => [(3, .ptr 3 0 0), (6, .ptr 6 0 0), (8, .ptr 8 0 0), (9, .mp 23), (12, .sl 1 48 ((v4).length) 0 ((v4).length)), (59, .vs 1 (List.map EV.encI y1.1)), (60, .int .i64 (List.length y1.1 : Int)), (61, .int .i64 q2.1)]) (fun u => [(20, .map (encM V.str (V.int .i64) u)), (23, .map (encM V.str V.bool v1.1)), (48, .row 3 1 0 (List.map EV.encI v4)), (8, .box 69 [.vs 6 (List.map enc_Def p.Defs), .vs 3 (List.map enc_Table p.Tables), .vs 3 (List.map enc_Zone p.Zones), .vs 20 (List.map enc_Rule p.Rules), .vs 4 (List.map enc_Cap p.Caps), .vs 6 (List.map enc_View p.Views), .vs 3 (List.map enc_Point3 p.Sun), .int .i64 p.Hours, .mp 20, .vs 1 (List.map EV.encS zones)]), (6, .box 69 [.nils, .nils, .nils, .nils, .nils, .nils, .nils, .int .i64 0, .nilm, .nils]), (3, .box 44 [.vs 6 (List.map enc_Def p.Defs), .vs 3 (List.map enc_Table p.Tables), .vs 3 (List.map enc_Zone p.Zones), .vs 20 (List.map enc_Rule p.Rules), .vs 4 (List.map enc_Cap p.Caps), .vs 6 (List.map enc_View p.Views), .vs 3 (List.map enc_Point3 p.Sun), .int .i64 p.Hours])]) ?_ (fun v5 hz => ?_)
      ·refine v_cond (!(Option.getD (mfind x3.Name v1.1) false)) (by kernel_rfl) (fun h6 => ?_) (fun h6 => ?_)
       ·replace hs := bif_t h6 hs
        refine v_draw mixedH (by kernel_rfl) ?_
        refine d_runs 6 0 [(90, .int .i64 x2), (89, .sl 1 48 ((v4).length) 0 ((v4).length)), (88, .str x3.Name), (87, .ptr 18 0 0), (86, .mp 20), (85, .ptr 8 0 8)] [⟨5, [], []⟩, ⟨4, [], []⟩, ⟨3, [], [18]⟩, ⟨2, [], []⟩, ⟨1, [], [8]⟩, ⟨0, [], []⟩] (by kernel_rfl) (by kernel_rfl) ?_
        obtain ⟨_, g6, hs⟩ := bind_some hs; obtain ⟨g6a, g6b⟩ := grd_some g6
        refine d_pure (v := .ptr 48 ((v4).length) ((Int.toNat x2) * 1 + 0)) 6 rfl rfl rfl rfl (by kernel_rfl) (by kernel_rfl) (loc_indexRowT (e := 3) (sz := 1) (kk := 48) (L := (v4).length) (n := (v4).length) (k := .i64) (i := x2) (by kernel_rfl) (by kernel_rfl) (by kernel_rfl) g6a g6b) ?_
        obtain ⟨e2, he2, hs⟩ := bind_some hs; replace he2 := Option.some.inj he2
        refine d_loc (F := []) (R := [(48, .row 3 1 0 (List.map EV.encI v4))]) (F' := []) (v := .int .i64 e2) 7 [] [48] rfl rfl rfl rfl (by kernel_rfl) (by kernel_rfl) (by kernel_rfl) (by kernel_rfl) (by kernel_rfl) (by kernel_rfl) (by kernel_rfl) (by kernel_rfl) (loc_loadRow (L := (v4).length) (off := (Int.toNat x2) * 1 + 0) (els := (List.map EV.encI v4)) (cs := [.int .i64 e2]) (Int.toNat x2) 0 (by kernel_rfl) (by first | (simp only [List.length_map, List.length_set]; done) | rfl) rfl (by rw [← he2]; exact map_get _ (by first | omega | (simp only [List.length_set]; omega))) (by kernel_rfl)) ?_
        refine d_loc (F := [(20, .map (encM V.str (V.int .i64) q2.2.2))]) (R := []) (F' := [(20, .map (encM V.str (V.int .i64) (mset x3.Name e2 q2.2.2)))]) (v := .no) 8 [20] [] rfl rfl rfl rfl (by kernel_rfl) (by kernel_rfl) (by kernel_rfl) (by kernel_rfl) (by kernel_rfl) (by kernel_rfl) (by kernel_rfl) (by kernel_rfl) (loc_mapUpdate (et := 3) (f := V.str) (g := (V.int .i64)) (l := q2.2.2) (a := x3.Name) (c := e2) (by kernel_rfl) kok9 (by kernel_rfl) (by kernel_rfl) (by kernel_rfl) (by kernel_rfl) (by kernel_rfl)) ?_
        refine d_nil (by kernel_rfl) ?_
        obtain rfl := si hs
        refine nrm_join (mset x3.Name e2 q2.2.2) rfl ?_
        exact cut_of [3, 6, 8, 9, 12, 59, 60, 61] [20, 23, 48, 8, 6, 3] (by kernel_rfl) (by kernel_rfl) (by kernel_rfl)
       ·replace hs := bif_f h6 hs
        refine v_skip ?_
        obtain rfl := si hs
        refine nrm_join q2.2.2 rfl ?_
        exact cut_of [3, 6, 8, 9, 12, 59, 60, 61] [20, 23, 48, 8, 6, 3] (by kernel_rfl) (by kernel_rfl) (by kernel_rfl)
      ·subst hz; clear hs; have hs := hk5; clear hk5
       refine nrm_blkV (nrm_thenV (vr_text (o_runs 2 [(61, .int .i64 (w64 (q2.1 + 1))), (93, .int .i64 (w64 (q2.1 + 1)))] (by kernel_rfl) ?_)))
       refine ov_nil (nrm_fuel ((w64 (q2.1 + 1)), v4, v5) hs ?_)
       exact cut_of [3, 6, 8, 9, 12, 59, 60, 61] [48, 23, 8, 20, 6, 3] (by kernel_rfl) (by kernel_rfl) (by kernel_rfl)
    ·replace hs := bif_f h4 hs
     refine v_exit (exit_thenV (exit_fuel ?_))
     refine exit_blkV ?_
     obtain rfl := si hs
     refine nrm_join (q2.2.1, q2.2.2) rfl ?_
     exact cut_of [6, 8, 12] [48, 8, 20, 6] (by kernel_rfl) (by kernel_rfl) (by kernel_rfl)
   ·subst hz; clear hs; have hs := hk3; clear hk3
    refine nrm_thenV (v_seq (vr_text (o_runh 4 [(7, .sl 1 48 ((v3.1).length) 0 ((v3.1).length)), (95, .sl 1 48 ((v3.1).length) 0 ((v3.1).length)), (94, .agg [.vs 6 (List.map enc_Def p.Defs), .vs 3 (List.map enc_Table p.Tables), .vs 3 (List.map enc_Zone p.Zones), .vs 20 (List.map enc_Rule p.Rules), .vs 4 (List.map enc_Cap p.Caps), .vs 6 (List.map enc_View p.Views), .vs 3 (List.map enc_Point3 p.Sun), .int .i64 p.Hours, .mp 20, .vs 1 (List.map EV.encS zones)])] [(48, .row 3 1 0 (List.map EV.encI v3.1)), (8, .box 69 [.vs 6 (List.map enc_Def p.Defs), .vs 3 (List.map enc_Table p.Tables), .vs 3 (List.map enc_Zone p.Zones), .vs 20 (List.map enc_Rule p.Rules), .vs 4 (List.map enc_Cap p.Caps), .vs 6 (List.map enc_View p.Views), .vs 3 (List.map enc_Point3 p.Sun), .int .i64 p.Hours, .mp 20, .vs 1 (List.map EV.encS zones)]), (20, .map (encM V.str (V.int .i64) v3.2)), (6, .box 69 [.vs 6 (List.map enc_Def p.Defs), .vs 3 (List.map enc_Table p.Tables), .vs 3 (List.map enc_Zone p.Zones), .vs 20 (List.map enc_Rule p.Rules), .vs 4 (List.map enc_Cap p.Caps), .vs 6 (List.map enc_View p.Views), .vs 3 (List.map enc_Point3 p.Sun), .int .i64 p.Hours, .mp 20, .vs 1 (List.map EV.encS zones)])] (by kernel_rfl) ?_)))
    refine ov_nil (nrm_thenV (v_to _ [(48, .row 3 1 (((List.map EV.encI v3.1)).length) (List.map EV.encI v3.1)), (8, .box 69 [.vs 6 (List.map enc_Def p.Defs), .vs 3 (List.map enc_Table p.Tables), .vs 3 (List.map enc_Zone p.Zones), .vs 20 (List.map enc_Rule p.Rules), .vs 4 (List.map enc_Cap p.Caps), .vs 6 (List.map enc_View p.Views), .vs 3 (List.map enc_Point3 p.Sun), .int .i64 p.Hours, .mp 20, .vs 1 (List.map EV.encS zones)]), (20, .map (encM V.str (V.int .i64) v3.2)), (6, .box 69 [.vs 6 (List.map enc_Def p.Defs), .vs 3 (List.map enc_Table p.Tables), .vs 3 (List.map enc_Zone p.Zones), .vs 20 (List.map enc_Rule p.Rules), .vs 4 (List.map enc_Cap p.Caps), .vs 6 (List.map enc_View p.Views), .vs 3 (List.map enc_Point3 p.Sun), .int .i64 p.Hours, .mp 20, .vs 1 (List.map EV.encS zones)])] (cut_freeze (F := [(48, .row 3 1 0 (List.map EV.encI v3.1))]) [48] rfl (by kernel_rfl) (by kernel_rfl)) ?_))
    refine v_to ((7, .vs 1 (List.map EV.encI v3.1)) :: _) _ (cut_view (R := [(48, .row 3 1 (((List.map EV.encI v3.1)).length) (List.map EV.encI v3.1))]) (ks := [48]) (by kernel_rfl) (by kernel_rfl) (.row (t := 3) (fz := (((List.map EV.encI v3.1)).length)) (by kernel_rfl) (by first | (simp only [List.length_map, List.length_set]; done) | rfl))) ?_
    refine v_ret ?_
    obtain rfl := si hs
    exact fin_ret (by kernel_rfl) (by kernel_rfl) (by kernel_rfl)
theorem w_expr_Eval (p : Plan) (measures : (List Entry)) (zones : (List (List UInt8))) (e_Op : Int) (e_N : Int) (e_S : (List UInt8)) (e_Key : (List UInt8)) (e_Args : (List Expr)) (r : Int) (hs : s_expr_Eval p measures zones e_Op e_N e_S e_Key e_Args = some r) : FnA Tryz.prog 9 [.agg (enc_Plan p), .vs 2 (List.map enc_Entry measures), .vs 1 (List.map EV.encS zones), .agg [.int .i64 e_Op, .int .i64 e_N, .str e_S, .str e_Key, .vs 5 (encs_Expr e_Args)]] [] (.int .i64 r) [] := by
 refine fnA_of_wp (N := 24) Tryz.func9 rfl rfl rfl fun cK0 => ?_
 unfold s_expr_Eval at hs
 refine v_same (ρ' := [(0, .agg (enc_Plan p)), (1, .vs 2 (List.map enc_Entry measures)), (2, .vs 1 (List.map EV.encS zones)), (3, .agg [.int .i64 e_Op, .int .i64 e_N, .str e_S, .str e_Key, .vs 5 (encs_Expr e_Args)])]) rfl rfl ?_
 refine v_seq (vr_text (o_runh 3 [(8, .int .i64 0), (7, .ptr 7 0 0), (4, .ptr 4 0 0)] [(7, .box 34 [.int .i64 e_Op, .int .i64 e_N, .str e_S, .str e_Key, .vs 5 (encs_Expr e_Args)]), (4, .box 44 [.vs 6 (List.map enc_Def p.Defs), .vs 3 (List.map enc_Table p.Tables), .vs 3 (List.map enc_Zone p.Zones), .vs 20 (List.map enc_Rule p.Rules), .vs 4 (List.map enc_Cap p.Caps), .vs 6 (List.map enc_View p.Views), .vs 3 (List.map enc_Point3 p.Sun), .int .i64 p.Hours])] (by kernel_rfl) ?_))
 refine ov_nil (nrm_thenV (v_seq (v_seq (vr_text (o_runs 1 [(11, .agg [.int .i64 e_Op, .int .i64 e_N, .str e_S, .str e_Key, .vs 5 (encs_Expr e_Args)])] (by kernel_rfl) ?_)))))
 obtain ⟨y1, c1, hs⟩ := bind_some hs
 refine o_pure (v := .bool y1) (by kernel_rfl) (by kernel_rfl) (loc_gcall0 (callV_func hbv22 (by kernel_rfl)) (w_expr_Right (Expr.mk e_Op e_N e_S e_Key e_Args) _ c1) (by kernel_rfl)) ?_
 refine o_runs 1 [(13, .bool (!y1))] (by kernel_rfl) ?_
 refine ov_nil (nrm_thenV ?_)
 refine v_cond (!y1) (by kernel_rfl) (fun h1 => ?_) (fun h1 => ?_)
 ·replace hs := bif_t h1 hs
  refine v_seq (vr_text (o_runs 1 [(8, .int .i64 0)] (by kernel_rfl) ?_))
  refine ov_nil (nrm_thenV (v_ret (ret_thenV ?_)))
  obtain rfl := si hs
  exact fin_ret (by kernel_rfl) (by kernel_rfl) (by kernel_rfl)
 ·replace hs := bif_f h1 hs
  refine v_skip (nrm_thenV (v_seq (vr_text (o_runs 3 [(17, .vs 1 (List.map EV.encS zones)), (16, .vs 2 (List.map enc_Entry measures)), (15, .agg (enc_Plan p))] (by kernel_rfl) ?_))))
  obtain ⟨y2, c2, hs⟩ := bind_some hs
  refine o_loc (F := []) (F' := [(3001800, .map (encM V.str (V.int .i64) y2.2.2.2))]) (v := .tup [.agg [.vs 6 (List.map enc_Def y2.1.Defs), .vs 3 (List.map enc_Table y2.1.Tables), .vs 3 (List.map enc_Zone y2.1.Zones), .vs 20 (List.map enc_Rule y2.1.Rules), .vs 4 (List.map enc_Cap y2.1.Caps), .vs 6 (List.map enc_View y2.1.Views), .vs 3 (List.map enc_Point3 y2.1.Sun), .int .i64 y2.1.Hours, .mp 3001800, .vs 1 (List.map EV.encS y2.2.1)], .vs 1 (List.map EV.encI y2.2.2.1)]) [] (by kernel_rfl) (by kernel_rfl) rfl (by kernel_rfl) (loc_g (R := []) [.agg (enc_Plan p), .vs 2 (List.map enc_Entry measures), .vs 1 (List.map EV.encS zones)] [(20, 3001800)] (callV_func hbv23 (by kernel_rfl)) (w_expr_prepare p measures zones _ c2) (.cons (.same _) (.cons (.same _) (.cons (.same _) (.nil)))) (by kernel_rfl) (by kernel_rfl) (by kernel_rfl) (by kernel_rfl) (by kernel_rfl) (by kernel_rfl) (by kernel_rfl) (by kernel_rfl)) (by kernel_rfl) ?_
  refine o_runh 6 [(10, .vs 1 (List.map EV.encI y2.2.2.1)), (9, .ptr 9 0 0), (20, .vs 1 (List.map EV.encI y2.2.2.1)), (19, .agg [.vs 6 (List.map enc_Def y2.1.Defs), .vs 3 (List.map enc_Table y2.1.Tables), .vs 3 (List.map enc_Zone y2.1.Zones), .vs 20 (List.map enc_Rule y2.1.Rules), .vs 4 (List.map enc_Cap y2.1.Caps), .vs 6 (List.map enc_View y2.1.Views), .vs 3 (List.map enc_Point3 y2.1.Sun), .int .i64 y2.1.Hours, .mp 3001800, .vs 1 (List.map EV.encS y2.2.1)]), (14, .tup [.agg [.vs 6 (List.map enc_Def y2.1.Defs), .vs 3 (List.map enc_Table y2.1.Tables), .vs 3 (List.map enc_Zone y2.1.Zones), .vs 20 (List.map enc_Rule y2.1.Rules), .vs 4 (List.map enc_Cap y2.1.Caps), .vs 6 (List.map enc_View y2.1.Views), .vs 3 (List.map enc_Point3 y2.1.Sun), .int .i64 y2.1.Hours, .mp 3001800, .vs 1 (List.map EV.encS y2.2.1)], .vs 1 (List.map EV.encI y2.2.2.1)])] [(9, .box 69 [.vs 6 (List.map enc_Def y2.1.Defs), .vs 3 (List.map enc_Table y2.1.Tables), .vs 3 (List.map enc_Zone y2.1.Zones), .vs 20 (List.map enc_Rule y2.1.Rules), .vs 4 (List.map enc_Cap y2.1.Caps), .vs 6 (List.map enc_View y2.1.Views), .vs 3 (List.map enc_Point3 y2.1.Sun), .int .i64 y2.1.Hours, .mp 3001800, .vs 1 (List.map EV.encS y2.2.1)]), (3001800, .map (encM V.str (V.int .i64) y2.2.2.2)), (7, .box 34 [.int .i64 e_Op, .int .i64 e_N, .str e_S, .str e_Key, .vs 5 (encs_Expr e_Args)]), (4, .box 44 [.vs 6 (List.map enc_Def p.Defs), .vs 3 (List.map enc_Table p.Tables), .vs 3 (List.map enc_Zone p.Zones), .vs 20 (List.map enc_Rule p.Rules), .vs 4 (List.map enc_Cap p.Caps), .vs 6 (List.map enc_View p.Views), .vs 3 (List.map enc_Point3 p.Sun), .int .i64 p.Hours])] (by kernel_rfl) ?_
  refine ov_nil (nrm_thenV (v_seq (vr_text (o_runs 2 [(22, .agg [.int .i64 e_Op, .int .i64 e_N, .str e_S, .str e_Key, .vs 5 (encs_Expr e_Args)]), (21, .agg [.vs 6 (List.map enc_Def y2.1.Defs), .vs 3 (List.map enc_Table y2.1.Tables), .vs 3 (List.map enc_Zone y2.1.Zones), .vs 20 (List.map enc_Rule y2.1.Rules), .vs 4 (List.map enc_Cap y2.1.Caps), .vs 6 (List.map enc_View y2.1.Views), .vs 3 (List.map enc_Point3 y2.1.Sun), .int .i64 y2.1.Hours, .mp 3001800, .vs 1 (List.map EV.encS y2.2.1)])] (by kernel_rfl) ?_))))
  obtain ⟨y3, c3, hs⟩ := bind_some hs
  refine o_loc (F := [(3001800, .map (encM V.str (V.int .i64) y2.2.2.2))]) (F' := [(3001800, .map (encM V.str (V.int .i64) y2.2.2.2))]) (v := .int .i64 y3) [3001800] (by kernel_rfl) (by kernel_rfl) rfl (by kernel_rfl) (loc_g (R := []) [.agg [.vs 6 (List.map enc_Def y2.1.Defs), .vs 3 (List.map enc_Table y2.1.Tables), .vs 3 (List.map enc_Zone y2.1.Zones), .vs 20 (List.map enc_Rule y2.1.Rules), .vs 4 (List.map enc_Cap y2.1.Caps), .vs 6 (List.map enc_View y2.1.Views), .vs 3 (List.map enc_Point3 y2.1.Sun), .int .i64 y2.1.Hours, .mp 3001800, .vs 1 (List.map EV.encS y2.2.1)], .agg [.int .i64 e_Op, .int .i64 e_N, .str e_S, .str e_Key, .vs 5 (encs_Expr e_Args)]] [(1000000, 3001800)] (callV_func hbv24 (by kernel_rfl)) (w_expr_context_value KK y2.1 y2.2.2.2 y2.2.1 (Expr.mk e_Op e_N e_S e_Key e_Args) _ c3) (.cons (.same _) (.cons (.same _) (.nil))) (by kernel_rfl) (by kernel_rfl) (by kernel_rfl) (by kernel_rfl) (by kernel_rfl) (by kernel_rfl) (by kernel_rfl) (by kernel_rfl)) (by kernel_rfl) ?_
  refine o_runs 1 [(8, .int .i64 y3)] (by kernel_rfl) ?_
  refine ov_nil (nrm_thenV (v_ret ?_))
  obtain rfl := si hs
  exact fin_ret (by kernel_rfl) (by kernel_rfl) (by kernel_rfl)
theorem w_strings_Builder_copyCheck  (r : Unit) (hs : s_strings_Builder_copyCheck  = some r) : FnA Tryz.prog 72 [.ptr 1000000 0 0] [(1000000, .box 102 [.nilp, .nils])] (.tup []) [(1000000, .box 102 [.ptr 1000000 0 0, .nils])] := by
 refine fnA_of_wp (N := 20) Tryz.func72 rfl rfl rfl fun cK0 => ?_
 unfold s_strings_Builder_copyCheck at hs
 refine v_same (ρ' := [(0, .ptr 1000000 0 0)]) rfl rfl ?_
 refine v_seq (vr_text (o_runs 5 [(6, .bool true), (5, .nilp), (4, .ptr 1000000 0 0), (3, .ptr 1000000 0 0), (2, .ptr 1000000 0 0)] (by kernel_rfl) ?_))
 refine ov_nil (nrm_thenV (v_cond_t (by kernel_rfl) ?_))
 refine vr_text (o_runs 2 [(8, .ptr 1000000 0 0), (7, .ptr 1000000 0 0)] (by kernel_rfl) ?_)
 refine o_loc (F := [(1000000, .box 102 [.nilp, .nils])]) (F' := [(1000000, .box 102 [.nilp, .nils])]) (v := .ptr 1000000 0 0) [1000000] (by kernel_rfl) (by kernel_rfl) rfl (by kernel_rfl) (loc_toUnsafe (bt := 102) (cs := [.nilp, .nils]) (by kernel_rfl) (by kernel_rfl) (by kernel_rfl)) (by kernel_rfl) ?_
 refine o_pure (v := .ptr 1000000 0 0) (by kernel_rfl) (by kernel_rfl) (loc_noEsc noesc98 (by kernel_rfl)) ?_
 refine o_loc (F := [(1000000, .box 102 [.nilp, .nils])]) (F' := [(1000000, .box 102 [.nilp, .nils])]) (v := .ptr 1000000 0 0) [1000000] (by kernel_rfl) (by kernel_rfl) rfl (by kernel_rfl) (loc_fromUnsafe (bt := 102) (cs := [.nilp, .nils]) (by kernel_rfl) (by kernel_rfl)) (by kernel_rfl) ?_
 refine o_runh 3 [(13, .ptr 1000000 0 0), (12, .ptr 1000000 0 0)] [(1000000, .box 102 [.ptr 1000000 0 0, .nils])] (by kernel_rfl) ?_
 refine ov_nil (fin_nrm ?_)
 obtain rfl := si hs
 exact fin_ret (by kernel_rfl) (by kernel_rfl) (by kernel_rfl)
theorem w_strings_Builder_WriteString (s : (List UInt8)) (r : Int × (List UInt8)) (hs : s_strings_Builder_WriteString s = some r) : FnA Tryz.prog 43 [.ptr 1000000 0 0, .str s] [(1000000, .box 102 [.nilp, .nils])] (.tup [.int .i64 r.1, .nili]) [(2000012, .row 5 1 0 (List.map encY r.2)), (1000000, .box 102 [.ptr 1000000 0 0, .sl 1 2000012 ((r.2).length) 0 ((r.2).length)])] := by
 refine fnA_of_wp (N := 19) Tryz.func43 rfl rfl rfl fun cK0 => ?_
 unfold s_strings_Builder_WriteString at hs
 refine v_same (ρ' := [(0, .ptr 1000000 0 0), (1, .str s)]) rfl rfl ?_
 refine v_seq (vr_text (o_runs 2 [(5, .nili), (4, .int .i64 0)] (by kernel_rfl) ?_))
 refine ov_nil (nrm_thenV (v_seq (vr_text (o_runs 1 [(6, .ptr 1000000 0 0)] (by kernel_rfl) ?_))))
 obtain ⟨y1, c1, hs⟩ := bind_some hs
 refine o_loc (F := [(1000000, .box 102 [.nilp, .nils])]) (F' := [(1000000, .box 102 [.ptr 1000000 0 0, .nils])]) (v := .tup []) [1000000] (by kernel_rfl) (by kernel_rfl) rfl (by kernel_rfl) (loc_g (R := []) [.ptr 1000000 0 0] [(1000000, 1000000)] (callV_func hbv72 (by kernel_rfl)) (w_strings_Builder_copyCheck  _ c1) (.cons (.same _) (.nil)) (by kernel_rfl) (by kernel_rfl) (by kernel_rfl) (by kernel_rfl) (by kernel_rfl) (by kernel_rfl) (by kernel_rfl) (by kernel_rfl)) (by kernel_rfl) ?_
 refine ov_nil (nrm_thenV (v_seq (vr_text (o_runs 6 [(13, .str s), (12, .nils), (11, .ptr 1000000 0 1), (10, .ptr 1000000 0 0), (9, .ptr 1000000 0 0), (8, .ptr 1000000 0 0)] (by kernel_rfl) ?_))))
 refine o_to _ _ (cut_nilRow 12 2000012 5 1 rfl (by kernel_rfl) (by kernel_rfl)) ?_
 obtain ⟨_, g1, hs⟩ := bind_some hs; replace g1 := grd_some g1
 refine o_loc (F := [(2000012, .row 5 1 0 (List.map encY []))]) (F' := [(2000012, .row 5 1 0 (List.map encY s))]) (v := .sl 1 2000012 ((s).length) 0 ((s).length)) [2000012] (by kernel_rfl) (by kernel_rfl) rfl (by kernel_rfl) (loc_appendStrT (e := 5) (bytes := 1) (L := 0) (p := []) (s := s) (by kernel_rfl) (by kernel_rfl) (by kernel_rfl) rfl (by kernel_rfl) (by first | rfl | exact List.nil_append _) rfl g1 (by omega)) (by kernel_rfl) ?_
 refine o_runh 3 [(16, .ptr 1000000 0 1), (15, .ptr 1000000 0 0)] [(2000012, .row 5 1 0 (List.map encY s)), (1000000, .box 102 [.ptr 1000000 0 0, .sl 1 2000012 ((s).length) 0 ((s).length)])] (by kernel_rfl) ?_
 refine ov_nil (nrm_thenV (v_seq (vr_text (o_runs 4 [(5, .nili), (4, .int .i64 (List.length s : Int)), (18, .int .i64 (List.length s : Int)), (17, .str s)] (by kernel_rfl) ?_))))
 refine ov_nil (nrm_thenV (v_ret ?_))
 obtain rfl := si hs
 exact fin_ret (by kernel_rfl) (by kernel_rfl) (by kernel_rfl)
theorem w_wire_Int (n : Int) (r : (List UInt8)) (hs : s_wire_Int n = some r) : FnA Tryz.prog 27 [.int .i64 n] [(900000000, gl0 ob0), (900000001, gl1 ob1 u1), (900000002, gl2 ob2 u2)] (.str r) [(900000000, gl0 ob0), (900000001, gl1 ob1 u1), (900000002, gl2 ob2 u2)] := by
 refine fnA_of_wp (N := 6) Tryz.func27 rfl rfl rfl fun cK0 => ?_
 unfold s_wire_Int at hs
 refine v_same (ρ' := [(0, .int .i64 n)]) rfl rfl ?_
 refine v_seq (vr_text (o_runs 1 [(2, .str [])] (by kernel_rfl) ?_))
 refine ov_nil (nrm_thenV (v_seq (vr_text (o_runs 1 [(3, .int .i64 n)] (by kernel_rfl) ?_))))
 obtain ⟨y1, c1, hs⟩ := bind_some hs
 refine o_loc (F := [(900000000, gl0 ob0), (900000001, gl1 ob1 u1), (900000002, gl2 ob2 u2)]) (F' := [(900000000, gl0 ob0), (900000001, gl1 ob1 u1), (900000002, gl2 ob2 u2)]) (v := .str y1) [900000000, 900000001, 900000002] (by kernel_rfl) (by kernel_rfl) rfl (by kernel_rfl) (loc_gcallL (vs := [.int .i64 n]) (G := [(900000000, gl0 ob0), (900000001, gl1 ob1 u1), (900000002, gl2 ob2 u2)]) (R := []) (callV_func hbv44 (by kernel_rfl)) (w_itoa (ob0 := ob0) (ob1 := ob1) (ob2 := ob2) (u1 := u1) (u2 := u2) n _ c1) (by kernel_rfl) (.cons (.same _) (.nil)) (by kernel_rfl) (by kernel_rfl) (by kernel_rfl)) (by kernel_rfl) ?_
 obtain ⟨_, g1, hs⟩ := bind_some hs; replace g1 := grd_some g1
 refine o_pure (v := .str (y1 ++ ([59] : List UInt8))) (by kernel_rfl) (by kernel_rfl) (loc_concat (a := y1) (b := ([59] : List UInt8)) (by kernel_rfl) (by kernel_rfl) g1) ?_
 refine o_runs 1 [(2, .str (y1 ++ ([59] : List UInt8)))] (by kernel_rfl) ?_
 refine ov_nil (nrm_thenV (v_ret ?_))
 obtain rfl := si hs
 exact fin_ret (by kernel_rfl) (by kernel_rfl) (by kernel_rfl)
theorem w_strings_Builder_copyCheck_2 (b_buf : (List UInt8)) (r : (List UInt8)) (hs : s_strings_Builder_copyCheck_2 b_buf = some r) : FnA Tryz.prog 72 [.ptr 1000000 0 0] [(1000000, .box 102 [.ptr 1000000 0 0, .sl 1 1000001 ((b_buf).length) 0 ((b_buf).length)]), (1000001, .row 5 1 0 (List.map encY b_buf))] (.tup []) [(1000000, .box 102 [.ptr 1000000 0 0, .sl 1 1000001 ((r).length) 0 ((r).length)]), (1000001, .row 5 1 0 (List.map encY r))] := by
 refine fnA_of_wp (N := 20) Tryz.func72 rfl rfl rfl fun cK0 => ?_
 unfold s_strings_Builder_copyCheck_2 at hs
 refine v_same (ρ' := [(0, .ptr 1000000 0 0)]) rfl rfl ?_
 refine v_seq (vr_text (o_runs 5 [(6, .bool false), (5, .ptr 1000000 0 0), (4, .ptr 1000000 0 0), (3, .ptr 1000000 0 0), (2, .ptr 1000000 0 0)] (by kernel_rfl) ?_))
 refine ov_nil (nrm_thenV (v_cond_f (by kernel_rfl) ?_))
 refine v_seq (vr_text (o_runs 5 [(18, .ptr 1000000 0 0), (17, .ptr 1000000 0 0), (16, .ptr 1000000 0 0), (15, .ptr 1000000 0 0), (14, .ptr 1000000 0 0)] (by kernel_rfl) ?_))
 refine o_pure (v := .bool false) (by kernel_rfl) (by kernel_rfl) (loc_ptrSame (k := 1000000) (L := 0) (off := 0) (.inr ⟨rfl, rfl⟩) (by kernel_rfl) (by kernel_rfl) (by kernel_rfl)) ?_
 refine ov_nil (nrm_thenV (v_cond_f (by kernel_rfl) ?_))
 refine v_skip (fin_nrm ?_)
 obtain rfl := si hs
 exact fin_ret (by kernel_rfl) (by kernel_rfl) (by kernel_rfl)
theorem w_strings_Builder_WriteString_2 (b_buf : (List UInt8)) (s : (List UInt8)) (r : Int × (List UInt8)) (hs : s_strings_Builder_WriteString_2 b_buf s = some r) : FnA Tryz.prog 43 [.ptr 1000000 0 0, .str s] [(1000000, .box 102 [.ptr 1000000 0 0, .sl 1 1000001 ((b_buf).length) 0 ((b_buf).length)]), (1000001, .row 5 1 0 (List.map encY b_buf))] (.tup [.int .i64 r.1, .nili]) [(1000001, .row 5 1 0 (List.map encY r.2)), (1000000, .box 102 [.ptr 1000000 0 0, .sl 1 1000001 ((r.2).length) 0 ((r.2).length)])] := by
 refine fnA_of_wp (N := 19) Tryz.func43 rfl rfl rfl fun cK0 => ?_
 unfold s_strings_Builder_WriteString_2 at hs
 refine v_same (ρ' := [(0, .ptr 1000000 0 0), (1, .str s)]) rfl rfl ?_
 refine v_seq (vr_text (o_runs 2 [(5, .nili), (4, .int .i64 0)] (by kernel_rfl) ?_))
 refine ov_nil (nrm_thenV (v_seq (vr_text (o_runs 1 [(6, .ptr 1000000 0 0)] (by kernel_rfl) ?_))))
 obtain ⟨y1, c1, hs⟩ := bind_some hs
 refine o_loc (F := [(1000000, .box 102 [.ptr 1000000 0 0, .sl 1 1000001 ((b_buf).length) 0 ((b_buf).length)]), (1000001, .row 5 1 0 (List.map encY b_buf))]) (F' := [(1000000, .box 102 [.ptr 1000000 0 0, .sl 1 1000001 ((y1).length) 0 ((y1).length)]), (1000001, .row 5 1 0 (List.map encY y1))]) (v := .tup []) [1000000, 1000001] (by kernel_rfl) (by kernel_rfl) rfl (by kernel_rfl) (loc_g (R := []) [.ptr 1000000 0 0] [(1000000, 1000000), (1000001, 1000001)] (callV_func hbv72 (by kernel_rfl)) (w_strings_Builder_copyCheck_2 b_buf _ c1) (.cons (.same _) (.nil)) (by kernel_rfl) (by kernel_rfl) (by kernel_rfl) (by kernel_rfl) (by kernel_rfl) (by kernel_rfl) (by kernel_rfl) (by kernel_rfl)) (by kernel_rfl) ?_
 refine ov_nil (nrm_thenV (v_seq (vr_text (o_runs 6 [(13, .str s), (12, .sl 1 1000001 ((y1).length) 0 ((y1).length)), (11, .ptr 1000000 0 1), (10, .ptr 1000000 0 0), (9, .ptr 1000000 0 0), (8, .ptr 1000000 0 0)] (by kernel_rfl) ?_))))
 obtain ⟨_, g1, hs⟩ := bind_some hs; replace g1 := grd_some g1
 refine o_loc (F := [(1000001, .row 5 1 0 (List.map encY y1))]) (F' := [(1000001, .row 5 1 0 (List.map encY (y1 ++ s)))]) (v := .sl 1 1000001 (((y1 ++ s)).length) 0 (((y1 ++ s)).length)) [1000001] (by kernel_rfl) (by kernel_rfl) rfl (by kernel_rfl) (loc_appendStrT (e := 5) (bytes := 1) (L := (y1).length) (p := y1) (s := s) (by kernel_rfl) (by kernel_rfl) (by kernel_rfl) rfl (by kernel_rfl) (by first | rfl | exact List.nil_append _) rfl g1 (by omega)) (by kernel_rfl) ?_
 refine o_runh 3 [(16, .ptr 1000000 0 1), (15, .ptr 1000000 0 0)] [(1000001, .row 5 1 0 (List.map encY (y1 ++ s))), (1000000, .box 102 [.ptr 1000000 0 0, .sl 1 1000001 (((y1 ++ s)).length) 0 (((y1 ++ s)).length)])] (by kernel_rfl) ?_
 refine ov_nil (nrm_thenV (v_seq (vr_text (o_runs 4 [(5, .nili), (4, .int .i64 (List.length s : Int)), (18, .int .i64 (List.length s : Int)), (17, .str s)] (by kernel_rfl) ?_))))
 refine ov_nil (nrm_thenV (v_ret ?_))
 obtain rfl := si hs
 exact fin_ret (by kernel_rfl) (by kernel_rfl) (by kernel_rfl)
theorem w_strings_Builder_String (b_buf : (List UInt8)) (r : (List UInt8) × (List UInt8)) (hs : s_strings_Builder_String b_buf = some r) : FnA Tryz.prog 45 [.ptr 1000000 0 0] [(1000000, .box 102 [.ptr 1000000 0 0, .sl 1 1000001 ((b_buf).length) 0 ((b_buf).length)]), (1000001, .row 5 1 0 (List.map encY b_buf))] (.str r.1) [(1000001, .row 5 1 (((List.map encY r.2)).length) (List.map encY r.2)), (1000000, .box 102 [.ptr 1000000 0 0, .sl 1 1000001 ((r.2).length) 0 ((r.2).length)])] := by
 refine fnA_of_wp (N := 14) Tryz.func45 rfl rfl rfl fun cK0 => ?_
 unfold s_strings_Builder_String at hs
 refine v_same (ρ' := [(0, .ptr 1000000 0 0)]) rfl rfl ?_
 refine v_seq (vr_text (o_runs 1 [(2, .str [])] (by kernel_rfl) ?_))
 refine ov_nil (nrm_thenV (v_seq (v_draw mixedH (by kernel_rfl) ?_)))
 refine d_runs 4 0 [(6, .sl 1 1000001 ((b_buf).length) 0 ((b_buf).length)), (5, .ptr 1000000 0 1), (4, .ptr 1000000 0 0), (3, .ptr 1000000 0 0)] [⟨3, [], [1000000]⟩, ⟨2, [], []⟩, ⟨1, [], []⟩, ⟨0, [], []⟩] (by kernel_rfl) (by kernel_rfl) ?_
 obtain ⟨_, g1, hs⟩ := bind_some hs; replace g1 := grd_some g1
 refine d_pure (v := .ptr 1000001 ((b_buf).length) (0 * 1 + 0)) 4 rfl rfl rfl rfl (by kernel_rfl) (by kernel_rfl) (loc_sliceData (k := 1000001) (L := (b_buf).length) (n := (b_buf).length) (by kernel_rfl) g1) ?_
 refine d_runs 5 5 [(12, .int .i64 ((b_buf).length : Int)), (11, .sl 1 1000001 ((b_buf).length) 0 ((b_buf).length)), (10, .ptr 1000000 0 1), (9, .ptr 1000000 0 0), (8, .ptr 1000000 0 0)] [⟨9, [], []⟩, ⟨8, [], [1000000]⟩, ⟨7, [], []⟩, ⟨6, [], []⟩, ⟨5, [], []⟩] (by kernel_rfl) (by kernel_rfl) ?_
 obtain ⟨_, g2, hs⟩ := bind_some hs; obtain ⟨g2a, g2b⟩ := grd_some g2
 refine d_loc (F := [(1000001, .row 5 1 0 (List.map encY b_buf))]) (R := []) (F' := [(1000001, .row 5 1 (((List.map encY b_buf)).length) (List.map encY b_buf))]) (v := .str b_buf) 10 [1000001] [] rfl rfl rfl rfl (by kernel_rfl) (by kernel_rfl) (by kernel_rfl) (by kernel_rfl) (by kernel_rfl) (by kernel_rfl) (by kernel_rfl) (by kernel_rfl) (loc_unsafeString (e := 5) (k := 1000001) (fz := 0) (L := (b_buf).length) (s := b_buf) (by kernel_rfl) (by kernel_rfl) rfl (by kernel_rfl) g2a g2b) ?_
 refine d_runs 1 11 [(2, .str b_buf)] (pfp 1 11) (by kernel_rfl) (by kernel_rfl) ?_
 refine d_nil (by kernel_rfl) ?_
 refine nrm_thenV (v_ret ?_)
 obtain rfl := si hs
 exact fin_ret (by kernel_rfl) (by kernel_rfl) (by kernel_rfl)
theorem w_wire_list (l : (List Int)) (r : (List UInt8)) (hs : s_wire_list l = some r) : FnA Tryz.prog 26 [.vs 1 (List.map EV.encI l), .fn 27 [] []] [(900000000, gl0 ob0), (900000001, gl1 ob1 u1), (900000002, gl2 ob2 u2)] (.str r) [(900000000, gl0 ob0), (900000001, gl1 ob1 u1), (900000002, gl2 ob2 u2)] := by
 refine fnA_of_wp (N := 26) Tryz.func26 rfl rfl rfl fun cK0 => ?_
 unfold s_wire_list at hs
 refine v_same (ρ' := [(0, .vs 1 (List.map EV.encI l)), (1, .fn 27 [] [])]) rfl rfl ?_
 refine v_seq (vr_text (o_runs 1 [(4, .str [])] (by kernel_rfl) ?_))
 refine ov_nil (nrm_thenV (v_seq (vr_text (o_runh 1 [(5, .ptr 5 0 0)] [(5, .box 102 [.nilp, .nils]), (900000000, gl0 ob0), (900000001, gl1 ob1 u1), (900000002, gl2 ob2 u2)] (by kernel_rfl) ?_))))
 refine ov_nil (nrm_thenV (v_seq (vr_text (o_runs 1 [(8, .vs 1 (List.map EV.encI l))] (by kernel_rfl) ?_))))
 refine o_pure (v := .int .i64 (List.length l : Int)) (by kernel_rfl) (by kernel_rfl) (loc_lenVs (sz := 1) (els := (List.map EV.encI l)) (by kernel_rfl) (by kernel_rfl) (List.length_map ..)) ?_
 obtain ⟨y1, c1, hs⟩ := bind_some hs
 refine o_loc (F := [(900000000, gl0 ob0), (900000001, gl1 ob1 u1), (900000002, gl2 ob2 u2)]) (F' := [(900000000, gl0 ob0), (900000001, gl1 ob1 u1), (900000002, gl2 ob2 u2)]) (v := .str y1) [900000000, 900000001, 900000002] (by kernel_rfl) (by kernel_rfl) rfl (by kernel_rfl) (loc_gcallL (vs := [.int .i64 (List.length l : Int)]) (G := [(900000000, gl0 ob0), (900000001, gl1 ob1 u1), (900000002, gl2 ob2 u2)]) (R := []) (callV_func hbv44 (by kernel_rfl)) (w_itoa (ob0 := ob0) (ob1 := ob1) (ob2 := ob2) (u1 := u1) (u2 := u2) (List.length l : Int) _ c1) (by kernel_rfl) (.cons (.same _) (.nil)) (by kernel_rfl) (by kernel_rfl) (by kernel_rfl)) (by kernel_rfl) ?_
 obtain ⟨_, g1, hs⟩ := bind_some hs; replace g1 := grd_some g1
 refine o_pure (v := .str (y1 ++ ([91] : List UInt8))) (by kernel_rfl) (by kernel_rfl) (loc_concat (a := y1) (b := ([91] : List UInt8)) (by kernel_rfl) (by kernel_rfl) g1) ?_
 obtain ⟨y2, c2, hs⟩ := bind_some hs
 refine o_loc (F := [(5, .box 102 [.nilp, .nils])]) (F' := [(3001200, .row 5 1 0 (List.map encY y2.2)), (5, .box 102 [.ptr 5 0 0, .sl 1 3001200 ((y2.2).length) 0 ((y2.2).length)])]) (v := .tup [.int .i64 y2.1, .nili]) [5] (by kernel_rfl) (by kernel_rfl) rfl (by kernel_rfl) (loc_g (R := []) [.ptr 5 0 0, .str (y1 ++ ([91] : List UInt8))] [(1000000, 5), (2000012, 3001200)] (callV_func hbv43 (by kernel_rfl)) (w_strings_Builder_WriteString (y1 ++ ([91] : List UInt8)) _ c2) (.cons (.same _) (.cons (.same _) (.nil))) (by kernel_rfl) (by kernel_rfl) (by kernel_rfl) (by kernel_rfl) (by kernel_rfl) (by kernel_rfl) (by kernel_rfl) (by kernel_rfl)) (by kernel_rfl) ?_
 refine ov_nil (nrm_thenV (v_seq (v_seq (vr_text (o_runs 1 [(13, .vs 1 (List.map EV.encI l))] (by kernel_rfl) ?_)))))
 refine o_pure (v := .int .i64 (List.length l : Int)) (by kernel_rfl) (by kernel_rfl) (loc_lenVs (sz := 1) (els := (List.map EV.encI l)) (by kernel_rfl) (by kernel_rfl) (List.length_map ..)) ?_
 refine o_runs 1 [(15, .int .i64 0)] (by kernel_rfl) ?_
 refine ov_nil (nrm_thenV ?_)
 obtain ⟨z1, hs, hk1⟩ := bind_some hs
 refine v_join (S := (List UInt8)) (fun u => u = z1) (fun u => [(5, .ptr 5 0 0)]) (fun u => [(3001200, .row 5 1 0 (List.map encY u)), (5, .box 102 [.ptr 5 0 0, .sl 1 3001200 ((u).length) 0 ((u).length)]), (900000000, gl0 ob0), (900000001, gl1 ob1 u1), (900000002, gl2 ob2 u2)]) ?_ (fun v1 hz => ?_)
 ·refine v_block ?_
  refine v_fuel (S := Int × (List UInt8)) (fun u => [(1, .fn 27 [] []), (5, .ptr 5 0 0), (13, .vs 1 (List.map EV.encI l)), (14, .int .i64 (List.length l : Int)), (15, .int .i64 u.1)]) (fun u => [(3001200, .row 5 1 0 (List.map encY u.2)), (5, .box 102 [.ptr 5 0 0, .sl 1 3001200 ((u.2).length) 0 ((u.2).length)]), (900000000, gl0 ob0), (900000001, gl1 ob1 u1), (900000002, gl2 ob2 u2)]) (s_wire_list_L1 l) (fun _ => rfl) KK (0, y2.2) hs (cut_of [1, 5, 13, 14, 15] [3001200, 5, 900000000, 900000001, 900000002] (by kernel_rfl) (by kernel_rfl) (by kernel_rfl)) (fun K1 q1 hs => ?_)
  rw [s_wire_list_L1] at hs
  show WpV cK0 Tryz.prog none 26 _ _ [(1, .fn 27 [] []), (5, .ptr 5 0 0), (13, .vs 1 (List.map EV.encI l)), (14, .int .i64 (List.length l : Int)), (15, .int .i64 q1.1)] [(3001200, .row 5 1 0 (List.map encY q1.2)), (5, .box 102 [.ptr 5 0 0, .sl 1 3001200 ((q1.2).length) 0 ((q1.2).length)]), (900000000, gl0 ob0), (900000001, gl1 ob1 u1), (900000002, gl2 ob2 u2)] []
  refine v_seq (vr_text (o_runs 1 [(16, .bool (decide (q1.1 < (List.length l : Int))))] (by kernel_rfl) ?_))
  refine ov_nil (nrm_thenV (v_seq ?_))
  refine v_cond (decide (q1.1 < (List.length l : Int))) (by kernel_rfl) (fun h1 => ?_) (fun h1 => ?_)
  ·replace hs := bif_t h1 hs
   refine v_skip (nrm_thenV (v_seq (v_block (v_seq (vr_text ?_)))))
   obtain ⟨x1, g2, hs⟩ := bind_some hs; obtain ⟨g2a, g2b, g2c⟩ := idx_some g2
   refine o_pure (v := .vp [.int .i64 x1] 0) (by kernel_rfl) (by kernel_rfl) (loc_indexVs (e := 3) (sz := 1) (k := .i64) (els := (List.map EV.encI l)) (cs := (EV.encI x1)) (by kernel_rfl) (by kernel_rfl) (by kernel_rfl) g2a (by rw [g2c]; exact map_get _ (by omega))) ?_
   refine o_runs 2 [(7, .int .i64 x1), (18, .int .i64 x1)] (by kernel_rfl) ?_
   refine ov_nil (nrm_thenV (vr_text (o_runs 2 [(20, .int .i64 x1), (19, .fn 27 [] [])] (by kernel_rfl) ?_)))
   obtain ⟨y3, c3, hs⟩ := bind_some hs
   refine o_loc (F := [(900000000, gl0 ob0), (900000001, gl1 ob1 u1), (900000002, gl2 ob2 u2)]) (F' := [(900000000, gl0 ob0), (900000001, gl1 ob1 u1), (900000002, gl2 ob2 u2)]) (v := .str y3) [900000000, 900000001, 900000002] (by kernel_rfl) (by kernel_rfl) rfl (by kernel_rfl) (loc_gcallL (vs := [.int .i64 x1]) (G := [(900000000, gl0 ob0), (900000001, gl1 ob1 u1), (900000002, gl2 ob2 u2)]) (R := []) (callV_val (first := []) (caps := []) hbv27 (by kernel_rfl) (by kernel_rfl)) (w_wire_Int (ob0 := ob0) (ob1 := ob1) (ob2 := ob2) (u1 := u1) (u2 := u2) x1 _ c3) (by kernel_rfl) (.cons (.same _) (.nil)) (by kernel_rfl) (by kernel_rfl) (by kernel_rfl)) (by kernel_rfl) ?_
   obtain ⟨y4, c4, hs⟩ := bind_some hs
   refine o_loc (F := [(5, .box 102 [.ptr 5 0 0, .sl 1 3001200 ((q1.2).length) 0 ((q1.2).length)]), (3001200, .row 5 1 0 (List.map encY q1.2))]) (F' := [(3001200, .row 5 1 0 (List.map encY y4.2)), (5, .box 102 [.ptr 5 0 0, .sl 1 3001200 ((y4.2).length) 0 ((y4.2).length)])]) (v := .tup [.int .i64 y4.1, .nili]) [5, 3001200] (by kernel_rfl) (by kernel_rfl) rfl (by kernel_rfl) (loc_g (R := []) [.ptr 5 0 0, .str y3] [(1000000, 5), (1000001, 3001200)] (callV_func hbv43 (by kernel_rfl)) (w_strings_Builder_WriteString_2 q1.2 y3 _ c4) (.cons (.same _) (.cons (.same _) (.nil))) (by kernel_rfl) (by kernel_rfl) (by kernel_rfl) (by kernel_rfl) (by kernel_rfl) (by kernel_rfl) (by kernel_rfl) (by kernel_rfl)) (by kernel_rfl) ?_
   refine ov_nil (nrm_blkV (nrm_thenV (vr_text (o_runs 2 [(15, .int .i64 (w64 (q1.1 + 1))), (23, .int .i64 (w64 (q1.1 + 1)))] (by kernel_rfl) ?_))))
   refine ov_nil (nrm_fuel ((w64 (q1.1 + 1)), y4.2) hs ?_)
   exact cut_of [1, 5, 13, 14, 15] [3001200, 5, 900000000, 900000001, 900000002] (by kernel_rfl) (by kernel_rfl) (by kernel_rfl)
  ·replace hs := bif_f h1 hs
   refine v_exit (exit_thenV (exit_fuel ?_))
   refine exit_blkV ?_
   obtain rfl := si hs
   refine nrm_join q1.2 rfl ?_
   exact cut_of [5] [3001200, 5, 900000000, 900000001, 900000002] (by kernel_rfl) (by kernel_rfl) (by kernel_rfl)
 ·subst hz; clear hs; have hs := hk1; clear hk1
  refine nrm_thenV (v_seq (vr_text ?_))
  obtain ⟨y5, c5, hs⟩ := bind_some hs
  refine o_loc (F := [(5, .box 102 [.ptr 5 0 0, .sl 1 3001200 ((v1).length) 0 ((v1).length)]), (3001200, .row 5 1 0 (List.map encY v1))]) (F' := [(3001200, .row 5 1 (((List.map encY y5.2)).length) (List.map encY y5.2)), (5, .box 102 [.ptr 5 0 0, .sl 1 3001200 ((y5.2).length) 0 ((y5.2).length)])]) (v := .str y5.1) [5, 3001200] (by kernel_rfl) (by kernel_rfl) rfl (by kernel_rfl) (loc_g (R := []) [.ptr 5 0 0] [(1000000, 5), (1000001, 3001200)] (callV_func hbv45 (by kernel_rfl)) (w_strings_Builder_String v1 _ c5) (.cons (.same _) (.nil)) (by kernel_rfl) (by kernel_rfl) (by kernel_rfl) (by kernel_rfl) (by kernel_rfl) (by kernel_rfl) (by kernel_rfl) (by kernel_rfl)) (by kernel_rfl) ?_
  obtain ⟨_, g3, hs⟩ := bind_some hs; replace g3 := grd_some g3
  refine o_pure (v := .str (y5.1 ++ ([93] : List UInt8))) (by kernel_rfl) (by kernel_rfl) (loc_concat (a := y5.1) (b := ([93] : List UInt8)) (by kernel_rfl) (by kernel_rfl) g3) ?_
  refine o_runs 1 [(4, .str (y5.1 ++ ([93] : List UInt8)))] (by kernel_rfl) ?_
  refine ov_nil (nrm_thenV (v_ret ?_))
  obtain rfl := si hs
  exact fin_ret (by kernel_rfl) (by kernel_rfl) (by kernel_rfl)
theorem w_wire_Nums (l : (List Int)) (r : (List UInt8)) (hs : s_wire_Nums l = some r) : FnA Tryz.prog 11 [.vs 1 (List.map EV.encI l)] [(900000000, gl0 ob0), (900000001, gl1 ob1 u1), (900000002, gl2 ob2 u2)] (.str r) [(900000000, gl0 ob0), (900000001, gl1 ob1 u1), (900000002, gl2 ob2 u2)] := by
 refine fnA_of_wp (N := 5) Tryz.func11 rfl rfl rfl fun cK0 => ?_
 unfold s_wire_Nums at hs
 refine v_same (ρ' := [(0, .vs 1 (List.map EV.encI l))]) rfl rfl ?_
 refine v_seq (vr_text (o_runs 1 [(2, .str [])] (by kernel_rfl) ?_))
 refine ov_nil (nrm_thenV (v_seq (vr_text (o_runs 1 [(3, .vs 1 (List.map EV.encI l))] (by kernel_rfl) ?_))))
 obtain ⟨y1, c1, hs⟩ := bind_some hs
 refine o_loc (F := [(900000000, gl0 ob0), (900000001, gl1 ob1 u1), (900000002, gl2 ob2 u2)]) (F' := [(900000000, gl0 ob0), (900000001, gl1 ob1 u1), (900000002, gl2 ob2 u2)]) (v := .str y1) [900000000, 900000001, 900000002] (by kernel_rfl) (by kernel_rfl) rfl (by kernel_rfl) (loc_gcallL (vs := [.vs 1 (List.map EV.encI l), .fn 27 [] []]) (G := [(900000000, gl0 ob0), (900000001, gl1 ob1 u1), (900000002, gl2 ob2 u2)]) (R := []) (callV_func hbv26 (by kernel_rfl)) (w_wire_list (ob0 := ob0) (ob1 := ob1) (ob2 := ob2) (u1 := u1) (u2 := u2) l _ c1) (by kernel_rfl) (.cons (.same _) (.cons (.same _) (.nil))) (by kernel_rfl) (by kernel_rfl) (by kernel_rfl)) (by kernel_rfl) ?_
 refine o_runs 1 [(2, .str y1)] (by kernel_rfl) ?_
 refine ov_nil (nrm_thenV (v_ret ?_))
 obtain rfl := si hs
 exact fin_ret (by kernel_rfl) (by kernel_rfl) (by kernel_rfl)
theorem w_wire_Open (s : (List UInt8)) (r : (List UInt8)) (hs : s_wire_Open s = some r) : FnA Tryz.prog 12 [.str s] [] (.ptr 5 0 0) [(5, .box 77 [.str r, .bool false])] := by
 refine fnA_of_wp (N := 6) Tryz.func12 rfl rfl rfl fun cK0 => ?_
 unfold s_wire_Open at hs
 refine v_same (ρ' := [(0, .str s)]) rfl rfl ?_
 refine v_seq (vr_text (o_runs 1 [(2, .nilp)] (by kernel_rfl) ?_))
 refine ov_nil (nrm_thenV (v_seq (vr_text (o_runh 4 [(2, .ptr 5 0 0), (5, .ptr 5 0 0), (4, .agg [.str s, .bool false]), (3, .str s)] [(5, .box 77 [.str s, .bool false])] (by kernel_rfl) ?_))))
 refine ov_nil (nrm_thenV (v_ret ?_))
 obtain rfl := si hs
 exact fin_ret (by kernel_rfl) (by kernel_rfl) (by kernel_rfl)
theorem w_wire_Reader_fail (r_rest : (List UInt8)) (r_bad : Bool) (r : Unit) (hs : s_wire_Reader_fail r_rest r_bad = some r) : FnA Tryz.prog 75 [.ptr 1000000 0 0] [(1000000, .box 77 [.str r_rest, .bool r_bad])] (.tup []) [(1000000, .box 77 [.str [], .bool true])] := by
 refine fnA_of_wp (N := 8) Tryz.func75 rfl rfl rfl fun cK0 => ?_
 unfold s_wire_Reader_fail at hs
 refine v_same (ρ' := [(0, .ptr 1000000 0 0)]) rfl rfl ?_
 refine vr_text (o_runh 8 [(7, .ptr 1000000 0 1), (6, .ptr 1000000 0 0), (5, .ptr 1000000 0 0), (4, .ptr 1000000 0 0), (3, .ptr 1000000 0 0), (2, .ptr 1000000 0 0)] [(1000000, .box 77 [.str [], .bool true])] (by kernel_rfl) ?_)
 refine ov_nil (fin_nrm ?_)
 obtain rfl := si hs
 exact fin_ret (by kernel_rfl) (by kernel_rfl) (by kernel_rfl)
theorem w_wire_Reader_number (r_rest : (List UInt8)) (r_bad : Bool) (end_ : Int) (least : Int) (r : Int × (List UInt8) × Bool) (hs : s_wire_Reader_number r_rest r_bad end_ least = some r) : FnA Tryz.prog 46 [.ptr 1000000 0 0, .int .u8 end_, .int .i64 least] [(1000000, .box 77 [.str r_rest, .bool r_bad]), (900000000, gl0 ob0), (900000001, gl1 ob1 u1), (900000002, gl2 ob2 u2)] (.int .i64 r.1) [(1000000, .box 77 [.str r.2.1, .bool r.2.2]), (900000000, gl0 ob0), (900000001, gl1 ob1 u1), (900000002, gl2 ob2 u2)] := by
 refine fnA_of_wp (N := 64) Tryz.func46 rfl rfl rfl fun cK0 => ?_
 unfold s_wire_Reader_number at hs
 refine v_same (ρ' := [(0, .ptr 1000000 0 0), (1, .int .u8 end_), (2, .int .i64 least)]) rfl rfl ?_
 refine v_seq (vr_text (o_runs 1 [(6, .int .i64 0)] (by kernel_rfl) ?_))
 refine ov_nil (nrm_thenV (v_seq (v_draw mixedH (by kernel_rfl) ?_)))
 refine d_runs 10 0 [(20, .int .i64 (min (List.length r_rest : Int) 21)), (19, .int .i64 (List.length r_rest : Int)), (18, .str r_rest), (17, .ptr 1000000 0 0), (16, .ptr 1000000 0 0), (15, .ptr 1000000 0 0), (14, .str r_rest), (13, .ptr 1000000 0 0), (12, .ptr 1000000 0 0), (11, .ptr 1000000 0 0)] [⟨9, [], []⟩, ⟨8, [], []⟩, ⟨7, [], [1000000]⟩, ⟨6, [], []⟩, ⟨5, [], []⟩, ⟨4, [], []⟩, ⟨3, [], [1000000]⟩, ⟨2, [], []⟩, ⟨1, [], []⟩, ⟨0, [], []⟩] (by kernel_rfl) (by kernel_rfl) ?_
 obtain ⟨x1, g1, hs⟩ := bind_some hs; obtain ⟨g1a, g1b, g1c, g1d⟩ := cut_some g1
 refine d_pure (v := .str x1) 10 rfl rfl rfl rfl (by kernel_rfl) (by kernel_rfl) (by rw [g1d]; exact loc_sliceStr (s := r_rest) (l := 0) (h := (min (List.length r_rest : Int) 21)) (by kernel_rfl) (by kernel_rfl) rfl ⟨.i64, by kernel_rfl⟩ g1a g1b g1c) ?_
 refine d_runs 1 11 [(7, .str x1)] (pfp 1 11) (by kernel_rfl) (by kernel_rfl) ?_
 refine d_nil (by kernel_rfl) ?_
 refine nrm_thenV (v_seq (vr_text (o_runs 2 [(23, .int .u8 end_), (22, .str x1)] (by kernel_rfl) ?_)))
 obtain ⟨y1, c1, hs⟩ := bind_some hs
 refine o_pure (v := .int .i64 y1) (by kernel_rfl) (by kernel_rfl) (loc_gcall0 (callV_func hbv74 (by kernel_rfl)) (w_indexByte x1 end_ _ c1) (by kernel_rfl)) ?_
 refine o_runs 1 [(8, .int .i64 y1)] (by kernel_rfl) ?_
 refine ov_nil (nrm_thenV (v_seq (v_seq (vr_text (o_runs 2 [(26, .bool (decide (y1 < 0))), (25, .int .i64 y1)] (by kernel_rfl) ?_)))))
 refine ov_nil (nrm_thenV ?_)
 refine v_cond (decide (y1 < 0)) (by kernel_rfl) (fun h1 => ?_) (fun h1 => ?_)
 ·replace hs := bif_t h1 hs
  refine v_seq (vr_text (o_runs 1 [(27, .ptr 1000000 0 0)] (by kernel_rfl) ?_))
  obtain ⟨y2, c2, hs⟩ := bind_some hs
  refine o_loc (F := [(1000000, .box 77 [.str r_rest, .bool r_bad])]) (F' := [(1000000, .box 77 [.str [], .bool true])]) (v := .tup []) [1000000] (by kernel_rfl) (by kernel_rfl) rfl (by kernel_rfl) (loc_g (R := []) [.ptr 1000000 0 0] [(1000000, 1000000)] (callV_func hbv75 (by kernel_rfl)) (w_wire_Reader_fail r_rest r_bad _ c2) (.cons (.same _) (.nil)) (by kernel_rfl) (by kernel_rfl) (by kernel_rfl) (by kernel_rfl) (by kernel_rfl) (by kernel_rfl) (by kernel_rfl) (by kernel_rfl)) (by kernel_rfl) ?_
  refine ov_nil (nrm_thenV (v_seq (vr_text (o_runs 1 [(6, .int .i64 0)] (by kernel_rfl) ?_))))
  refine ov_nil (nrm_thenV (v_ret (ret_thenV ?_)))
  obtain rfl := si hs
  exact fin_ret (by kernel_rfl) (by kernel_rfl) (by kernel_rfl)
 ·replace hs := bif_f h1 hs
  refine v_skip (nrm_thenV (v_seq (vr_text (o_runs 2 [(31, .int .i64 y1), (30, .str x1)] (by kernel_rfl) ?_))))
  obtain ⟨x2, g2, hs⟩ := bind_some hs; obtain ⟨g2a, g2b, g2c, g2d⟩ := cut_some g2
  refine o_pure (v := .str x2) (by kernel_rfl) (by kernel_rfl) (by rw [g2d]; exact loc_sliceStr (s := x1) (l := 0) (h := y1) (by kernel_rfl) (by kernel_rfl) rfl ⟨.i64, by kernel_rfl⟩ g2a g2b g2c) ?_
  obtain ⟨_, g3, hs⟩ := bind_some hs; replace g3 := grd_some g3
  cases h2 : atoiV x2
  ·replace hs := optE_none h2 hs
   refine o_loc (F := [(900000000, gl0 ob0), (900000001, gl1 ob1 u1), (900000002, gl2 ob2 u2)]) (F' := [(900000000, gl0 ob0), (900000001, gl1 ob1 u1), (900000002, gl2 ob2 u2)]) (v := .tup [.int .i64 (atoiE x2), .ifc 185 .undef]) [900000000, 900000001, 900000002] (by kernel_rfl) (by kernel_rfl) rfl (by kernel_rfl) (loc_gcallL (G := [(900000000, gl0 ob0), (900000001, gl1 ob1 u1), (900000002, gl2 ob2 u2)]) (R := []) (callV_func hbv76 (by kernel_rfl)) (w_atoi_no x2 h2 g3) (by kernel_rfl) (.cons (.same _) (.nil)) (by kernel_rfl) (by kernel_rfl) (by kernel_rfl)) (by kernel_rfl) ?_
   refine o_runs 5 [(10, .ifc 185 .undef), (9, .int .i64 (atoiE x2)), (35, .ifc 185 .undef), (34, .int .i64 (atoiE x2)), (29, .tup [.int .i64 (atoiE x2), .ifc 185 .undef])] (by kernel_rfl) ?_
   refine ov_nil (nrm_thenV (v_seq (v_seq (v_draw mixedH (by kernel_rfl) ?_))))
   refine d_runs 1 0 [(36, .ifc 185 .undef)] (pfp 1 0) (by kernel_rfl) (by kernel_rfl) ?_
   refine d_pure (v := .bool true) 1 rfl rfl rfl rfl (by kernel_rfl) (by kernel_rfl) (loc_ifaceNil (v := .ifc 185 .undef) (b := false) (.inr ⟨185, .undef, rfl, rfl⟩) (.inr ⟨rfl, rfl⟩) (by kernel_rfl) (by kernel_rfl)) ?_
   refine d_runs 13 2 [(50, .bool true), (49, .no), (48, .no), (47, .no), (46, .bool true), (45, .bool true), (44, .no), (43, .no), (42, .no), (41, .no), (40, .no), (39, .no), (38, .bool true)] (pfp 13 14) (by kernel_rfl) (by kernel_rfl) ?_
   refine d_nil (by kernel_rfl) ?_
   refine nrm_thenV (v_cond_t (by kernel_rfl) ?_)
   refine v_seq (vr_text (o_runs 1 [(51, .ptr 1000000 0 0)] (by kernel_rfl) ?_))
   obtain ⟨y4, c3, hs⟩ := bind_some hs
   refine o_loc (F := [(1000000, .box 77 [.str r_rest, .bool r_bad])]) (F' := [(1000000, .box 77 [.str [], .bool true])]) (v := .tup []) [1000000] (by kernel_rfl) (by kernel_rfl) rfl (by kernel_rfl) (loc_g (R := []) [.ptr 1000000 0 0] [(1000000, 1000000)] (callV_func hbv75 (by kernel_rfl)) (w_wire_Reader_fail r_rest r_bad _ c3) (.cons (.same _) (.nil)) (by kernel_rfl) (by kernel_rfl) (by kernel_rfl) (by kernel_rfl) (by kernel_rfl) (by kernel_rfl) (by kernel_rfl) (by kernel_rfl)) (by kernel_rfl) ?_
   refine ov_nil (nrm_thenV (v_seq (vr_text (o_runs 1 [(6, .int .i64 0)] (by kernel_rfl) ?_))))
   refine ov_nil (nrm_thenV (v_ret (ret_thenV ?_)))
   obtain rfl := si hs
   exact fin_ret (by kernel_rfl) (by kernel_rfl) (by kernel_rfl)
  ·rename_i y3
   replace hs := optE_some h2 hs
   refine o_loc (F := [(900000000, gl0 ob0), (900000001, gl1 ob1 u1), (900000002, gl2 ob2 u2)]) (F' := [(900000000, gl0 ob0), (900000001, gl1 ob1 u1), (900000002, gl2 ob2 u2)]) (v := .tup [.int .i64 y3, .nili]) [900000000, 900000001, 900000002] (by kernel_rfl) (by kernel_rfl) rfl (by kernel_rfl) (loc_gcallL (G := [(900000000, gl0 ob0), (900000001, gl1 ob1 u1), (900000002, gl2 ob2 u2)]) (R := []) (callV_func hbv76 (by kernel_rfl)) (w_atoi_ok x2 y3 h2 g3) (by kernel_rfl) (.cons (.same _) (.nil)) (by kernel_rfl) (by kernel_rfl) (by kernel_rfl)) (by kernel_rfl) ?_
   refine o_runs 5 [(10, .nili), (9, .int .i64 y3), (35, .nili), (34, .int .i64 y3), (29, .tup [.int .i64 y3, .nili])] (by kernel_rfl) ?_
   refine ov_nil (nrm_thenV (v_seq (v_seq ?_)))
   obtain ⟨z1, hs, hk1⟩ := bind_some hs
   refine v_join (S := Bool) (fun u => u = z1) (fun u => [(0, .ptr 1000000 0 0), (8, .int .i64 y1), (9, .int .i64 y3), (50, .bool u)]) (fun u => [(1000000, .box 77 [.str r_rest, .bool r_bad]), (900000000, gl0 ob0), (900000001, gl1 ob1 u1), (900000002, gl2 ob2 u2)]) ?_ (fun v1 hz => ?_)
   ·refine v_draw mixedH (by kernel_rfl) ?_
    refine d_runs 1 0 [(36, .nili)] (pfp 1 0) (by kernel_rfl) (by kernel_rfl) ?_
    refine d_pure (v := .bool false) 1 rfl rfl rfl rfl (by kernel_rfl) (by kernel_rfl) (loc_ifaceNil (v := .nili) (b := true) (.inl ⟨rfl, rfl⟩) (.inr ⟨rfl, rfl⟩) (by kernel_rfl) (by kernel_rfl)) ?_
    refine d_runs 2 2 [(39, .int .i64 y3), (38, .bool false)] (pfp 2 3) (by kernel_rfl) (by kernel_rfl) ?_
    obtain ⟨y5, c4, hs⟩ := bind_some hs
    refine d_loc (F := []) (R := [(900000000, gl0 ob0), (900000001, gl1 ob1 u1), (900000002, gl2 ob2 u2)]) (F' := []) (v := .str y5) 4 [] [900000000, 900000001, 900000002] rfl rfl rfl rfl (by kernel_rfl) (by kernel_rfl) (by kernel_rfl) (by kernel_rfl) (by kernel_rfl) (by kernel_rfl) (by kernel_rfl) (by kernel_rfl) (loc_gcallL (vs := [.int .i64 y3]) (G := [(900000000, gl0 ob0), (900000001, gl1 ob1 u1), (900000002, gl2 ob2 u2)]) (R := []) (callV_func hbv44 (by kernel_rfl)) (w_itoa (ob0 := ob0) (ob1 := ob1) (ob2 := ob2) (u1 := u1) (u2 := u2) y3 _ c4) (by kernel_rfl) (.cons (.same _) (.nil)) (by kernel_rfl) (by kernel_rfl) (by kernel_rfl)) ?_
    refine d_runs 2 5 [(42, .int .i64 y1), (41, .str x1)] (pfp 2 6) (by kernel_rfl) (by kernel_rfl) ?_
    obtain ⟨x3, g4, hs⟩ := bind_some hs; obtain ⟨g4a, g4b, g4c, g4d⟩ := cut_some g4
    refine d_pure (v := .str x3) 7 rfl rfl rfl rfl (by kernel_rfl) (by kernel_rfl) (by rw [g4d]; exact loc_sliceStr (s := x1) (l := 0) (h := y1) (by kernel_rfl) (by kernel_rfl) rfl ⟨.i64, by kernel_rfl⟩ g4a g4b g4c) ?_
    refine d_runs 3 8 [(46, .bool (!(decide (y5 = x3)))), (45, .bool (!(decide (y5 = x3)))), (44, .bool (!(decide (y5 = x3))))] (pfp 3 10) (by kernel_rfl) (by kernel_rfl) ?_
    cases h3 : ((!(decide (y5 = x3))))
    ·replace hs := bif_f h3 hs
     refine d_runs 4 11 [(50, .bool (decide (y3 < least))), (49, .bool (decide (y3 < least))), (48, .int .i64 least), (47, .int .i64 y3)] (pfp 4 14) (by kernel_rfl) (by kernel_rfl) ?_
     refine d_nil (by kernel_rfl) ?_
     obtain rfl := si hs
     refine nrm_join (decide (y3 < least)) rfl ?_
     exact cut_of [0, 8, 9, 50] [1000000, 900000000, 900000001, 900000002] (by kernel_rfl) (by kernel_rfl) (by kernel_rfl)
    ·replace hs := bif_t h3 hs
     refine d_runs 4 11 [(50, .bool true), (49, .no), (48, .no), (47, .no)] (pfp 4 14) (by kernel_rfl) (by kernel_rfl) ?_
     refine d_nil (by kernel_rfl) ?_
     obtain rfl := si hs
     refine nrm_join true rfl ?_
     exact cut_of [0, 8, 9, 50] [1000000, 900000000, 900000001, 900000002] (by kernel_rfl) (by kernel_rfl) (by kernel_rfl)
   ·subst hz; clear hs; have hs := hk1; clear hk1
    refine nrm_thenV ?_
    refine v_cond v1 (by kernel_rfl) (fun h4 => ?_) (fun h4 => ?_)
    ·replace hs := bif_t h4 hs
     refine v_seq (vr_text (o_runs 1 [(51, .ptr 1000000 0 0)] (by kernel_rfl) ?_))
     obtain ⟨y6, c5, hs⟩ := bind_some hs
     refine o_loc (F := [(1000000, .box 77 [.str r_rest, .bool r_bad])]) (F' := [(1000000, .box 77 [.str [], .bool true])]) (v := .tup []) [1000000] (by kernel_rfl) (by kernel_rfl) rfl (by kernel_rfl) (loc_g (R := []) [.ptr 1000000 0 0] [(1000000, 1000000)] (callV_func hbv75 (by kernel_rfl)) (w_wire_Reader_fail r_rest r_bad _ c5) (.cons (.same _) (.nil)) (by kernel_rfl) (by kernel_rfl) (by kernel_rfl) (by kernel_rfl) (by kernel_rfl) (by kernel_rfl) (by kernel_rfl) (by kernel_rfl)) (by kernel_rfl) ?_
     refine ov_nil (nrm_thenV (v_seq (vr_text (o_runs 1 [(6, .int .i64 0)] (by kernel_rfl) ?_))))
     refine ov_nil (nrm_thenV (v_ret (ret_thenV ?_)))
     obtain rfl := si hs
     exact fin_ret (by kernel_rfl) (by kernel_rfl) (by kernel_rfl)
    ·replace hs := bif_f h4 hs
     refine v_skip (nrm_thenV (v_seq (vr_text (o_runs 7 [(59, .int .i64 (w64 (y1 + 1))), (58, .int .i64 y1), (57, .str r_rest), (56, .ptr 1000000 0 0), (55, .ptr 1000000 0 0), (54, .ptr 1000000 0 0), (53, .ptr 1000000 0 0)] (by kernel_rfl) ?_))))
     obtain ⟨x4, g5, hs⟩ := bind_some hs; obtain ⟨g5a, g5b, g5c, g5d⟩ := cut_some g5
     refine o_pure (v := .str x4) (by kernel_rfl) (by kernel_rfl) (by rw [g5d]; exact loc_sliceStr (s := r_rest) (l := (w64 (y1 + 1))) (h := (List.length r_rest : Int)) (by kernel_rfl) (by kernel_rfl) ⟨.i64, by kernel_rfl⟩ rfl g5a g5b g5c) ?_
     refine o_runh 3 [(62, .ptr 1000000 0 0), (61, .ptr 1000000 0 0)] [(1000000, .box 77 [.str x4, .bool r_bad]), (900000000, gl0 ob0), (900000001, gl1 ob1 u1), (900000002, gl2 ob2 u2)] (by kernel_rfl) ?_
     refine ov_nil (nrm_thenV (v_seq (vr_text (o_runs 2 [(6, .int .i64 y3), (63, .int .i64 y3)] (by kernel_rfl) ?_))))
     refine ov_nil (nrm_thenV (v_ret ?_))
     obtain rfl := si hs
     exact fin_ret (by kernel_rfl) (by kernel_rfl) (by kernel_rfl)
theorem w_wire_Reader_Int (r_rest : (List UInt8)) (r_bad : Bool) (r : Int × (List UInt8) × Bool) (hs : s_wire_Reader_Int r_rest r_bad = some r) : FnA Tryz.prog 29 [.ptr 1000000 0 0] [(1000000, .box 77 [.str r_rest, .bool r_bad]), (900000000, gl0 ob0), (900000001, gl1 ob1 u1), (900000002, gl2 ob2 u2)] (.int .i64 r.1) [(1000000, .box 77 [.str r.2.1, .bool r.2.2]), (900000000, gl0 ob0), (900000001, gl1 ob1 u1), (900000002, gl2 ob2 u2)] := by
 refine fnA_of_wp (N := 5) Tryz.func29 rfl rfl rfl fun cK0 => ?_
 unfold s_wire_Reader_Int at hs
 refine v_same (ρ' := [(0, .ptr 1000000 0 0)]) rfl rfl ?_
 refine v_seq (vr_text (o_runs 1 [(2, .int .i64 0)] (by kernel_rfl) ?_))
 refine ov_nil (nrm_thenV (v_seq (vr_text (o_runs 1 [(3, .ptr 1000000 0 0)] (by kernel_rfl) ?_))))
 obtain ⟨y1, c1, hs⟩ := bind_some hs
 refine o_loc (F := [(1000000, .box 77 [.str r_rest, .bool r_bad]), (900000000, gl0 ob0), (900000001, gl1 ob1 u1), (900000002, gl2 ob2 u2)]) (F' := [(1000000, .box 77 [.str y1.2.1, .bool y1.2.2]), (900000000, gl0 ob0), (900000001, gl1 ob1 u1), (900000002, gl2 ob2 u2)]) (v := .int .i64 y1.1) [1000000, 900000000, 900000001, 900000002] (by kernel_rfl) (by kernel_rfl) rfl (by kernel_rfl) (loc_g (R := []) [.ptr 1000000 0 0, .int .u8 59, .int .i64 (-9223372036854775808)] [(1000000, 1000000), (900000000, 900000000), (900000001, 900000001), (900000002, 900000002)] (callV_func hbv46 (by kernel_rfl)) (w_wire_Reader_number (ob0 := ob0) (ob1 := ob1) (ob2 := ob2) (u1 := u1) (u2 := u2) r_rest r_bad 59 (-9223372036854775808) _ c1) (.cons (.same _) (.cons (.same _) (.cons (.same _) (.nil)))) (by kernel_rfl) (by kernel_rfl) (by kernel_rfl) (by kernel_rfl) (by kernel_rfl) (by kernel_rfl) (by kernel_rfl) (by kernel_rfl)) (by kernel_rfl) ?_
 refine o_runs 1 [(2, .int .i64 y1.1)] (by kernel_rfl) ?_
 refine ov_nil (nrm_thenV (v_ret ?_))
 obtain rfl := si hs
 exact fin_ret (by kernel_rfl) (by kernel_rfl) (by kernel_rfl)
theorem w_stringslite_HasPrefix (s : (List UInt8)) (prefix_ : (List UInt8)) (r : Bool) (hs : s_stringslite_HasPrefix s prefix_ = some r) : FnA Tryz.prog 125 [.str s, .str prefix_] [] (.bool r) [] := by
 refine fnA_of_wp (N := 18) Tryz.func125 rfl rfl rfl fun cK0 => ?_
 unfold s_stringslite_HasPrefix at hs
 refine v_same (ρ' := [(0, .str s), (1, .str prefix_)]) rfl rfl ?_
 refine v_seq (vr_text (o_runs 1 [(4, .bool false)] (by kernel_rfl) ?_))
 refine ov_nil (nrm_thenV (v_seq ?_))
 obtain ⟨z1, hs, hk1⟩ := bind_some hs
 refine v_join (S := Bool) (fun u => u = z1) (fun u => [(4, .bool u)]) (fun u => []) ?_ (fun v1 hz => ?_)
 ·refine vr_text (o_runs 6 [(10, .bool (decide ((List.length s : Int) ≥ (List.length prefix_ : Int)))), (9, .bool (decide ((List.length s : Int) ≥ (List.length prefix_ : Int)))), (8, .int .i64 (List.length prefix_ : Int)), (7, .str prefix_), (6, .int .i64 (List.length s : Int)), (5, .str s)] (by kernel_rfl) ?_)
  cases h1 : ((decide ((List.length s : Int) ≥ (List.length prefix_ : Int))))
  ·replace hs := bif_f h1 hs
   refine o_runs 8 [(4, .bool false), (17, .bool false), (16, .no), (15, .no), (14, .no), (13, .no), (12, .no), (11, .no)] (by kernel_rfl) ?_
   refine ov_nil ?_
   obtain rfl := si hs
   refine nrm_join false rfl ?_
   exact cut_of [4] [] (by kernel_rfl) (by kernel_rfl) (by kernel_rfl)
  ·replace hs := bif_t h1 hs
   refine o_runs 3 [(13, .int .i64 (List.length prefix_ : Int)), (12, .str prefix_), (11, .str s)] (by kernel_rfl) ?_
   obtain ⟨x1, g1, hs⟩ := bind_some hs; obtain ⟨g1a, g1b, g1c, g1d⟩ := cut_some g1
   refine o_pure (v := .str x1) (by kernel_rfl) (by kernel_rfl) (by rw [g1d]; exact loc_sliceStr (s := s) (l := 0) (h := (List.length prefix_ : Int)) (by kernel_rfl) (by kernel_rfl) rfl ⟨.i64, by kernel_rfl⟩ g1a g1b g1c) ?_
   refine o_runs 4 [(4, .bool (decide (x1 = prefix_))), (17, .bool (decide (x1 = prefix_))), (16, .bool (decide (x1 = prefix_))), (15, .str prefix_)] (by kernel_rfl) ?_
   refine ov_nil ?_
   obtain rfl := si hs
   refine nrm_join (decide (x1 = prefix_)) rfl ?_
   exact cut_of [4] [] (by kernel_rfl) (by kernel_rfl) (by kernel_rfl)
 ·subst hz; clear hs; have hs := hk1; clear hk1
  refine nrm_thenV (v_ret ?_)
  obtain rfl := si hs
  exact fin_ret (by kernel_rfl) (by kernel_rfl) (by kernel_rfl)
theorem w_stringslite_CutPrefix (s : (List UInt8)) (prefix_ : (List UInt8)) (r : (List UInt8) × Bool) (hs : s_stringslite_CutPrefix s prefix_ = some r) : FnA Tryz.prog 103 [.str s, .str prefix_] [] (.tup [.str r.1, .bool r.2]) [] := by
 refine fnA_of_wp (N := 15) Tryz.func103 rfl rfl rfl fun cK0 => ?_
 unfold s_stringslite_CutPrefix at hs
 refine v_same (ρ' := [(0, .str s), (1, .str prefix_)]) rfl rfl ?_
 refine v_seq (vr_text (o_runs 2 [(5, .bool false), (4, .str [])] (by kernel_rfl) ?_))
 refine ov_nil (nrm_thenV (v_seq (v_seq (vr_text (o_runs 2 [(7, .str prefix_), (6, .str s)] (by kernel_rfl) ?_)))))
 obtain ⟨y1, c1, hs⟩ := bind_some hs
 refine o_pure (v := .bool y1) (by kernel_rfl) (by kernel_rfl) (loc_gcall0 (callV_func hbv125 (by kernel_rfl)) (w_stringslite_HasPrefix s prefix_ _ c1) (by kernel_rfl)) ?_
 refine o_runs 1 [(9, .bool (!y1))] (by kernel_rfl) ?_
 refine ov_nil (nrm_thenV ?_)
 refine v_cond (!y1) (by kernel_rfl) (fun h1 => ?_) (fun h1 => ?_)
 ·replace hs := bif_t h1 hs
  refine v_seq (vr_text (o_runs 3 [(5, .bool false), (4, .str s), (10, .str s)] (by kernel_rfl) ?_))
  refine ov_nil (nrm_thenV (v_ret (ret_thenV ?_)))
  obtain rfl := si hs
  exact fin_ret (by kernel_rfl) (by kernel_rfl) (by kernel_rfl)
 ·replace hs := bif_f h1 hs
  refine v_skip (nrm_thenV (v_seq (vr_text (o_runs 3 [(13, .int .i64 (List.length prefix_ : Int)), (12, .str prefix_), (11, .str s)] (by kernel_rfl) ?_))))
  obtain ⟨x1, g1, hs⟩ := bind_some hs; obtain ⟨g1a, g1b, g1c, g1d⟩ := cut_some g1
  refine o_pure (v := .str x1) (by kernel_rfl) (by kernel_rfl) (by rw [g1d]; exact loc_sliceStr (s := s) (l := (List.length prefix_ : Int)) (h := (List.length s : Int)) (by kernel_rfl) (by kernel_rfl) ⟨.i64, by kernel_rfl⟩ rfl g1a g1b g1c) ?_
  refine o_runs 2 [(5, .bool true), (4, .str x1)] (by kernel_rfl) ?_
  refine ov_nil (nrm_thenV (v_ret ?_))
  obtain rfl := si hs
  exact fin_ret (by kernel_rfl) (by kernel_rfl) (by kernel_rfl)
theorem w_strings_CutPrefix (s : (List UInt8)) (prefix_ : (List UInt8)) (r : (List UInt8) × Bool) (hs : s_strings_CutPrefix s prefix_ = some r) : FnA Tryz.prog 77 [.str s, .str prefix_] [] (.tup [.str r.1, .bool r.2]) [] := by
 refine fnA_of_wp (N := 11) Tryz.func77 rfl rfl rfl fun cK0 => ?_
 unfold s_strings_CutPrefix at hs
 refine v_same (ρ' := [(0, .str s), (1, .str prefix_)]) rfl rfl ?_
 refine v_seq (vr_text (o_runs 2 [(5, .bool false), (4, .str [])] (by kernel_rfl) ?_))
 refine ov_nil (nrm_thenV (v_seq (vr_text (o_runs 2 [(7, .str prefix_), (6, .str s)] (by kernel_rfl) ?_))))
 obtain ⟨y1, c1, hs⟩ := bind_some hs
 refine o_pure (v := .tup [.str y1.1, .bool y1.2]) (by kernel_rfl) (by kernel_rfl) (loc_gcall0 (callV_func hbv103 (by kernel_rfl)) (w_stringslite_CutPrefix s prefix_ _ c1) (by kernel_rfl)) ?_
 refine o_runs 4 [(5, .bool y1.2), (4, .str y1.1), (10, .bool y1.2), (9, .str y1.1)] (by kernel_rfl) ?_
 refine ov_nil (nrm_thenV (v_ret ?_))
 obtain rfl := si hs
 exact fin_ret (by kernel_rfl) (by kernel_rfl) (by kernel_rfl)
theorem w_wire_Reader_close (r_rest : (List UInt8)) (r_bad : Bool) (end_ : (List UInt8)) (r : (List UInt8) × Bool) (hs : s_wire_Reader_close r_rest r_bad end_ = some r) : FnA Tryz.prog 47 [.ptr 1000000 0 0, .str end_] [(1000000, .box 77 [.str r_rest, .bool r_bad])] (.tup []) [(1000000, .box 77 [.str r.1, .bool r.2])] := by
 refine fnA_of_wp (N := 23) Tryz.func47 rfl rfl rfl fun cK0 => ?_
 unfold s_wire_Reader_close at hs
 refine v_same (ρ' := [(0, .ptr 1000000 0 0), (1, .str end_)]) rfl rfl ?_
 refine v_seq (vr_text (o_runs 5 [(11, .str end_), (10, .str r_rest), (9, .ptr 1000000 0 0), (8, .ptr 1000000 0 0), (7, .ptr 1000000 0 0)] (by kernel_rfl) ?_))
 obtain ⟨y1, c1, hs⟩ := bind_some hs
 refine o_pure (v := .tup [.str y1.1, .bool y1.2]) (by kernel_rfl) (by kernel_rfl) (loc_gcall0 (callV_func hbv77 (by kernel_rfl)) (w_strings_CutPrefix r_rest end_ _ c1) (by kernel_rfl)) ?_
 refine o_runs 5 [(5, .bool y1.2), (4, .str y1.1), (14, .bool y1.2), (13, .str y1.1), (6, .tup [.str y1.1, .bool y1.2])] (by kernel_rfl) ?_
 refine ov_nil (nrm_thenV (v_seq (vr_text (o_runh 5 [(18, .ptr 1000000 0 0), (17, .ptr 1000000 0 0), (16, .str y1.1), (15, .ptr 1000000 0 0)] [(1000000, .box 77 [.str y1.1, .bool r_bad])] (by kernel_rfl) ?_))))
 refine ov_nil (nrm_thenV (v_seq (vr_text (o_runs 2 [(20, .bool (!y1.2)), (19, .bool y1.2)] (by kernel_rfl) ?_))))
 refine ov_nil (nrm_thenV ?_)
 refine v_cond (!y1.2) (by kernel_rfl) (fun h1 => ?_) (fun h1 => ?_)
 ·replace hs := bif_t h1 hs
  refine vr_text (o_runs 1 [(21, .ptr 1000000 0 0)] (by kernel_rfl) ?_)
  obtain ⟨y2, c2, hs⟩ := bind_some hs
  refine o_loc (F := [(1000000, .box 77 [.str y1.1, .bool r_bad])]) (F' := [(1000000, .box 77 [.str [], .bool true])]) (v := .tup []) [1000000] (by kernel_rfl) (by kernel_rfl) rfl (by kernel_rfl) (loc_g (R := []) [.ptr 1000000 0 0] [(1000000, 1000000)] (callV_func hbv75 (by kernel_rfl)) (w_wire_Reader_fail y1.1 r_bad _ c2) (.cons (.same _) (.nil)) (by kernel_rfl) (by kernel_rfl) (by kernel_rfl) (by kernel_rfl) (by kernel_rfl) (by kernel_rfl) (by kernel_rfl) (by kernel_rfl)) (by kernel_rfl) ?_
  refine ov_nil (fin_nrm ?_)
  obtain rfl := si hs
  exact fin_ret (by kernel_rfl) (by kernel_rfl) (by kernel_rfl)
 ·replace hs := bif_f h1 hs
  refine v_skip (fin_nrm ?_)
  obtain rfl := si hs
  exact fin_ret (by kernel_rfl) (by kernel_rfl) (by kernel_rfl)
theorem w_wire_items (r_rest : (List UInt8)) (r_bad : Bool) (r : (List Int) × (List UInt8) × Bool) (hs : s_wire_items r_rest r_bad = some r) : FnA Tryz.prog 28 [.ptr 1000000 0 0, .fn 29 [.ptr 1000000 0 0] []] [(1000000, .box 77 [.str r_rest, .bool r_bad]), (900000000, gl0 ob0), (900000001, gl1 ob1 u1), (900000002, gl2 ob2 u2)] (.vs 1 (List.map EV.encI r.1)) [(1000000, .box 77 [.str r.2.1, .bool r.2.2]), (900000000, gl0 ob0), (900000001, gl1 ob1 u1), (900000002, gl2 ob2 u2)] := by
 refine fnA_of_wp (N := 32) Tryz.func28 rfl rfl rfl fun cK0 => ?_
 unfold s_wire_items at hs
 refine v_same (ρ' := [(0, .ptr 1000000 0 0), (1, .fn 29 [.ptr 1000000 0 0] [])]) rfl rfl ?_
 refine v_seq (vr_text (o_runs 1 [(4, .nils)] (by kernel_rfl) ?_))
 refine ov_nil (nrm_thenV (v_seq (vr_text (o_runs 1 [(5, .nils)] (by kernel_rfl) ?_))))
 refine ov_nil (nrm_thenV (v_seq (v_seq (vr_text (o_runs 1 [(7, .ptr 1000000 0 0)] (by kernel_rfl) ?_)))))
 obtain ⟨y1, c1, hs⟩ := bind_some hs
 refine o_loc (F := [(1000000, .box 77 [.str r_rest, .bool r_bad]), (900000000, gl0 ob0), (900000001, gl1 ob1 u1), (900000002, gl2 ob2 u2)]) (F' := [(1000000, .box 77 [.str y1.2.1, .bool y1.2.2]), (900000000, gl0 ob0), (900000001, gl1 ob1 u1), (900000002, gl2 ob2 u2)]) (v := .int .i64 y1.1) [1000000, 900000000, 900000001, 900000002] (by kernel_rfl) (by kernel_rfl) rfl (by kernel_rfl) (loc_g (R := []) [.ptr 1000000 0 0, .int .u8 91, .int .i64 0] [(1000000, 1000000), (900000000, 900000000), (900000001, 900000001), (900000002, 900000002)] (callV_func hbv46 (by kernel_rfl)) (w_wire_Reader_number (ob0 := ob0) (ob1 := ob1) (ob2 := ob2) (u1 := u1) (u2 := u2) r_rest r_bad 91 0 _ c1) (.cons (.same _) (.cons (.same _) (.cons (.same _) (.nil)))) (by kernel_rfl) (by kernel_rfl) (by kernel_rfl) (by kernel_rfl) (by kernel_rfl) (by kernel_rfl) (by kernel_rfl) (by kernel_rfl)) (by kernel_rfl) ?_
 refine o_runs 1 [(6, .int .i64 y1.1)] (by kernel_rfl) ?_
 refine ov_nil (nrm_thenV ?_)
 obtain ⟨z1, hs, hk1⟩ := bind_some hs
 refine v_join (S := (List UInt8) × Bool × (List Int)) (fun u => u = z1) (fun u => [(0, .ptr 1000000 0 0), (5, .sl 1 2000020 ((u.2.2).length) 0 ((u.2.2).length))]) (fun u => [(1000000, .box 77 [.str u.1, .bool u.2.1]), (2000020, .row 3 1 0 (List.map EV.encI u.2.2)), (900000000, gl0 ob0), (900000001, gl1 ob1 u1), (900000002, gl2 ob2 u2)]) ?_ (fun v1 hz => ?_)
 ·refine v_block ?_
  refine v_fuel (S := Int × (List UInt8) × Bool × (List Int)) (fun u => [(0, .ptr 1000000 0 0), (1, .fn 29 [.ptr 1000000 0 0] []), (5, .sl 1 2000020 ((u.2.2.2).length) 0 ((u.2.2.2).length)), (6, .int .i64 u.1)]) (fun u => [(1000000, .box 77 [.str u.2.1, .bool u.2.2.1]), (2000020, .row 3 1 0 (List.map EV.encI u.2.2.2)), (900000000, gl0 ob0), (900000001, gl1 ob1 u1), (900000002, gl2 ob2 u2)]) s_wire_items_L1 (fun _ => rfl) KK (y1.1, y1.2.1, y1.2.2, []) hs (Cut.trans (cut_nilRow 5 2000020 3 1 rfl (by kernel_rfl) (by kernel_rfl)) (cut_of [0, 1, 5, 6] [1000000, 2000020, 900000000, 900000001, 900000002] (by kernel_rfl) (by kernel_rfl) (by kernel_rfl))) (fun K1 q1 hs => ?_)
  rw [s_wire_items_L1] at hs
  show WpV cK0 Tryz.prog none 32 _ _ [(0, .ptr 1000000 0 0), (1, .fn 29 [.ptr 1000000 0 0] []), (5, .sl 1 2000020 ((q1.2.2.2).length) 0 ((q1.2.2.2).length)), (6, .int .i64 q1.1)] [(1000000, .box 77 [.str q1.2.1, .bool q1.2.2.1]), (2000020, .row 3 1 0 (List.map EV.encI q1.2.2.2)), (900000000, gl0 ob0), (900000001, gl1 ob1 u1), (900000002, gl2 ob2 u2)] []
  refine v_seq (v_seq ?_)
  obtain ⟨z2, hs, hk2⟩ := bind_some hs
  refine v_join (S := Bool) (fun u => u = z2) (fun u => [(0, .ptr 1000000 0 0), (1, .fn 29 [.ptr 1000000 0 0] []), (5, .sl 1 2000020 ((q1.2.2.2).length) 0 ((q1.2.2.2).length)), (6, .int .i64 q1.1), (17, .bool u)]) (fun u => [(1000000, .box 77 [.str q1.2.1, .bool q1.2.2.1]), (2000020, .row 3 1 0 (List.map EV.encI q1.2.2.2)), (900000000, gl0 ob0), (900000001, gl1 ob1 u1), (900000002, gl2 ob2 u2)]) ?_ (fun v2 hz => ?_)
  ·refine vr_text (o_runs 3 [(11, .bool (decide (q1.1 > 0))), (10, .bool (decide (q1.1 > 0))), (9, .int .i64 q1.1)] (by kernel_rfl) ?_)
   cases h1 : ((decide (q1.1 > 0)))
   ·replace hs := bif_f h1 hs
    refine o_runs 6 [(17, .bool false), (16, .no), (15, .no), (14, .no), (13, .no), (12, .no)] (by kernel_rfl) ?_
    refine ov_nil ?_
    obtain rfl := si hs
    refine nrm_join false rfl ?_
    exact cut_of [0, 1, 5, 6, 17] [1000000, 2000020, 900000000, 900000001, 900000002] (by kernel_rfl) (by kernel_rfl) (by kernel_rfl)
   ·replace hs := bif_t h1 hs
    refine o_runs 6 [(17, .bool (!q1.2.2.1)), (16, .bool (!q1.2.2.1)), (15, .bool q1.2.2.1), (14, .ptr 1000000 0 1), (13, .ptr 1000000 0 0), (12, .ptr 1000000 0 0)] (by kernel_rfl) ?_
    refine ov_nil ?_
    obtain rfl := si hs
    refine nrm_join (!q1.2.2.1) rfl ?_
    exact cut_of [0, 1, 5, 6, 17] [1000000, 2000020, 900000000, 900000001, 900000002] (by kernel_rfl) (by kernel_rfl) (by kernel_rfl)
  ·subst hz; clear hs; have hs := hk2; clear hk2
   refine nrm_thenV ?_
   refine v_cond v2 (by kernel_rfl) (fun h2 => ?_) (fun h2 => ?_)
   ·replace hs := bif_t h2 hs
    refine v_skip (nrm_thenV (v_seq (v_block (vr_text (o_runs 2 [(21, .fn 29 [.ptr 1000000 0 0] []), (20, .sl 1 2000020 ((q1.2.2.2).length) 0 ((q1.2.2.2).length))] (by kernel_rfl) ?_)))))
    obtain ⟨y2, c2, hs⟩ := bind_some hs
    refine o_loc (F := [(1000000, .box 77 [.str q1.2.1, .bool q1.2.2.1]), (900000000, gl0 ob0), (900000001, gl1 ob1 u1), (900000002, gl2 ob2 u2)]) (F' := [(1000000, .box 77 [.str y2.2.1, .bool y2.2.2]), (900000000, gl0 ob0), (900000001, gl1 ob1 u1), (900000002, gl2 ob2 u2)]) (v := .int .i64 y2.1) [1000000, 900000000, 900000001, 900000002] (by kernel_rfl) (by kernel_rfl) rfl (by kernel_rfl) (loc_g (R := []) [.ptr 1000000 0 0] [(1000000, 1000000), (900000000, 900000000), (900000001, 900000001), (900000002, 900000002)] (callV_val (first := [.ptr 1000000 0 0]) (caps := []) hbv29 (by kernel_rfl) (by kernel_rfl)) (w_wire_Reader_Int (ob0 := ob0) (ob1 := ob1) (ob2 := ob2) (u1 := u1) (u2 := u2) q1.2.1 q1.2.2.1 _ c2) (.cons (.same _) (.nil)) (by kernel_rfl) (by kernel_rfl) (by kernel_rfl) (by kernel_rfl) (by kernel_rfl) (by kernel_rfl) (by kernel_rfl) (by kernel_rfl)) (by kernel_rfl) ?_
    refine o_runh 1 [(23, .sl 1 23 1 0 1)] [(23, .row 3 1 0 (List.map EV.encI [y2.1])), (1000000, .box 77 [.str y2.2.1, .bool y2.2.2]), (900000000, gl0 ob0), (900000001, gl1 ob1 u1), (900000002, gl2 ob2 u2), (2000020, .row 3 1 0 (List.map EV.encI q1.2.2.2))] (by kernel_rfl) ?_
    obtain ⟨_, g1, hs⟩ := bind_some hs; replace g1 := grd_some g1
    refine o_loc (F := [(2000020, .row 3 1 0 (List.map EV.encI q1.2.2.2)), (23, .row 3 1 0 (List.map EV.encI [y2.1]))]) (F' := [(2000020, .row 3 1 0 (List.map EV.encI (q1.2.2.2 ++ [y2.1]))), (23, .row 3 1 0 (List.map EV.encI [y2.1]))]) (v := .sl 1 2000020 (((q1.2.2.2 ++ [y2.1])).length) 0 (((q1.2.2.2 ++ [y2.1])).length)) [2000020, 23] (by kernel_rfl) (by kernel_rfl) rfl (by kernel_rfl) (loc_appendT (e := 3) (sz := 1) (bytes := 8) (L := (q1.2.2.2).length) (els := (List.map EV.encI q1.2.2.2)) (ys := (List.map EV.encI [y2.1])) (by kernel_rfl) (by kernel_rfl) (by first | exact List.length_map .. | rfl) (.sl (t := 3) (fz := 0) (ys := (List.map EV.encI [y2.1])) (by kernel_rfl) (by kernel_rfl)) (map_ones EV.encI (fun _ => rfl) _) (map_lens EV.encI (fun _ => rfl) _) (by kernel_rfl) (by first | exact (List.map_append ..).symm | rfl | simp only [List.map_nil, List.nil_append]) (List.length_map ..) g1 (by omega)) (by kernel_rfl) ?_
    refine o_runs 1 [(5, .sl 1 2000020 (((q1.2.2.2 ++ [y2.1])).length) 0 (((q1.2.2.2 ++ [y2.1])).length))] (by kernel_rfl) ?_
    refine ov_nil (nrm_blkV (nrm_thenV (vr_text (o_runs 3 [(6, .int .i64 (w64 (q1.1 - 1))), (19, .int .i64 (w64 (q1.1 - 1))), (18, .int .i64 q1.1)] (by kernel_rfl) ?_))))
    refine ov_nil (nrm_fuel ((w64 (q1.1 - 1)), y2.2.1, y2.2.2, (q1.2.2.2 ++ [y2.1])) hs ?_)
    exact cut_of [0, 1, 5, 6] [1000000, 2000020, 900000000, 900000001, 900000002] (by kernel_rfl) (by kernel_rfl) (by kernel_rfl)
   ·replace hs := bif_f h2 hs
    refine v_exit (exit_thenV (exit_fuel ?_))
    refine exit_blkV ?_
    obtain rfl := si hs
    refine nrm_join (q1.2.1, q1.2.2.1, q1.2.2.2) rfl ?_
    exact cut_of [0, 5] [1000000, 2000020, 900000000, 900000001, 900000002] (by kernel_rfl) (by kernel_rfl) (by kernel_rfl)
 ·subst hz; clear hs; have hs := hk1; clear hk1
  refine nrm_thenV (v_seq (v_seq (vr_text (o_runs 1 [(25, .ptr 1000000 0 0)] (by kernel_rfl) ?_))))
  obtain ⟨y3, c3, hs⟩ := bind_some hs
  refine o_loc (F := [(1000000, .box 77 [.str v1.1, .bool v1.2.1])]) (F' := [(1000000, .box 77 [.str y3.1, .bool y3.2])]) (v := .tup []) [1000000] (by kernel_rfl) (by kernel_rfl) rfl (by kernel_rfl) (loc_g (R := []) [.ptr 1000000 0 0, .str ([93] : List UInt8)] [(1000000, 1000000)] (callV_func hbv47 (by kernel_rfl)) (w_wire_Reader_close v1.1 v1.2.1 ([93] : List UInt8) _ c3) (.cons (.same _) (.cons (.same _) (.nil))) (by kernel_rfl) (by kernel_rfl) (by kernel_rfl) (by kernel_rfl) (by kernel_rfl) (by kernel_rfl) (by kernel_rfl) (by kernel_rfl)) (by kernel_rfl) ?_
  refine ov_nil (nrm_thenV (v_seq (vr_text (o_runs 4 [(30, .bool y3.2), (29, .ptr 1000000 0 1), (28, .ptr 1000000 0 0), (27, .ptr 1000000 0 0)] (by kernel_rfl) ?_))))
  refine ov_nil (nrm_thenV ?_)
  refine v_cond y3.2 (by kernel_rfl) (fun h3 => ?_) (fun h3 => ?_)
  ·replace hs := bif_t h3 hs
   refine v_seq (vr_text (o_runs 1 [(4, .nils)] (by kernel_rfl) ?_))
   refine ov_nil (nrm_thenV (v_to ((4, .vs 1 (List.map EV.encI [])) :: _) _ (cut_view (R := []) (ks := []) (by kernel_rfl) (by kernel_rfl) (.nils 1)) ?_))
   refine v_ret (ret_thenV ?_)
   obtain rfl := si hs
   exact fin_ret (by kernel_rfl) (by kernel_rfl) (by kernel_rfl)
  ·replace hs := bif_f h3 hs
   refine v_skip (nrm_thenV (v_seq (vr_text (o_runs 2 [(4, .sl 1 2000020 ((v1.2.2).length) 0 ((v1.2.2).length)), (31, .sl 1 2000020 ((v1.2.2).length) 0 ((v1.2.2).length))] (by kernel_rfl) ?_))))
   refine ov_nil (nrm_thenV (v_to _ [(2000020, .row 3 1 (((List.map EV.encI v1.2.2)).length) (List.map EV.encI v1.2.2)), (1000000, .box 77 [.str y3.1, .bool y3.2]), (900000000, gl0 ob0), (900000001, gl1 ob1 u1), (900000002, gl2 ob2 u2)] (cut_freeze (F := [(2000020, .row 3 1 0 (List.map EV.encI v1.2.2))]) [2000020] rfl (by kernel_rfl) (by kernel_rfl)) ?_))
   refine v_to ((4, .vs 1 (List.map EV.encI v1.2.2)) :: _) _ (cut_view (R := [(2000020, .row 3 1 (((List.map EV.encI v1.2.2)).length) (List.map EV.encI v1.2.2))]) (ks := [2000020]) (by kernel_rfl) (by kernel_rfl) (.row (t := 3) (fz := (((List.map EV.encI v1.2.2)).length)) (by kernel_rfl) (by first | (simp only [List.length_map, List.length_set]; done) | rfl))) ?_
   refine v_ret ?_
   obtain rfl := si hs
   exact fin_ret (by kernel_rfl) (by kernel_rfl) (by kernel_rfl)
theorem w_wire_Reader_Nums (r_rest : (List UInt8)) (r_bad : Bool) (r : (List Int) × (List UInt8) × Bool) (hs : s_wire_Reader_Nums r_rest r_bad = some r) : FnA Tryz.prog 13 [.ptr 1000000 0 0] [(1000000, .box 77 [.str r_rest, .bool r_bad]), (900000000, gl0 ob0), (900000001, gl1 ob1 u1), (900000002, gl2 ob2 u2)] (.vs 1 (List.map EV.encI r.1)) [(1000000, .box 77 [.str r.2.1, .bool r.2.2]), (900000000, gl0 ob0), (900000001, gl1 ob1 u1), (900000002, gl2 ob2 u2)] := by
 refine fnA_of_wp (N := 7) Tryz.func13 rfl rfl rfl fun cK0 => ?_
 unfold s_wire_Reader_Nums at hs
 refine v_same (ρ' := [(0, .ptr 1000000 0 0)]) rfl rfl ?_
 refine v_seq (vr_text (o_runs 1 [(2, .nils)] (by kernel_rfl) ?_))
 refine ov_nil (nrm_thenV (v_seq (vr_text (o_runs 3 [(5, .fn 29 [.ptr 1000000 0 0] []), (4, .ptr 1000000 0 0), (3, .ptr 1000000 0 0)] (by kernel_rfl) ?_))))
 obtain ⟨y1, c1, hs⟩ := bind_some hs
 refine o_loc (F := [(1000000, .box 77 [.str r_rest, .bool r_bad]), (900000000, gl0 ob0), (900000001, gl1 ob1 u1), (900000002, gl2 ob2 u2)]) (F' := [(1000000, .box 77 [.str y1.2.1, .bool y1.2.2]), (900000000, gl0 ob0), (900000001, gl1 ob1 u1), (900000002, gl2 ob2 u2)]) (v := .vs 1 (List.map EV.encI y1.1)) [1000000, 900000000, 900000001, 900000002] (by kernel_rfl) (by kernel_rfl) rfl (by kernel_rfl) (loc_g (R := []) [.ptr 1000000 0 0, .fn 29 [.ptr 1000000 0 0] []] [(1000000, 1000000), (900000000, 900000000), (900000001, 900000001), (900000002, 900000002)] (callV_func hbv28 (by kernel_rfl)) (w_wire_items (ob0 := ob0) (ob1 := ob1) (ob2 := ob2) (u1 := u1) (u2 := u2) r_rest r_bad _ c1) (.cons (.same _) (.cons (.same _) (.nil))) (by kernel_rfl) (by kernel_rfl) (by kernel_rfl) (by kernel_rfl) (by kernel_rfl) (by kernel_rfl) (by kernel_rfl) (by kernel_rfl)) (by kernel_rfl) ?_
 refine o_runs 1 [(2, .vs 1 (List.map EV.encI y1.1))] (by kernel_rfl) ?_
 refine ov_nil (nrm_thenV (v_ret ?_))
 obtain rfl := si hs
 exact fin_ret (by kernel_rfl) (by kernel_rfl) (by kernel_rfl)
theorem w_wire_Reader_Done (r_rest : (List UInt8)) (r_bad : Bool) (r : Bool × (List UInt8) × Bool) (hs : s_wire_Reader_Done r_rest r_bad = some r) : FnA Tryz.prog 14 [.ptr 1000000 0 0] [(1000000, .box 77 [.str r_rest, .bool r_bad])] (.bool r.1) [(1000000, .box 77 [.str r.2.1, .bool r.2.2])] := by
 refine fnA_of_wp (N := 15) Tryz.func14 rfl rfl rfl fun cK0 => ?_
 unfold s_wire_Reader_Done at hs
 refine v_same (ρ' := [(0, .ptr 1000000 0 0)]) rfl rfl ?_
 refine v_seq (vr_text (o_runs 1 [(2, .bool false)] (by kernel_rfl) ?_))
 refine ov_nil (nrm_thenV (v_seq ?_))
 obtain ⟨z1, hs, hk1⟩ := bind_some hs
 refine v_join (S := Bool) (fun u => u = z1) (fun u => [(2, .bool u)]) (fun u => [(1000000, .box 77 [.str r_rest, .bool r_bad])]) ?_ (fun v1 hz => ?_)
 ·refine vr_text (o_runs 6 [(8, .bool (!r_bad)), (7, .bool (!r_bad)), (6, .bool r_bad), (5, .ptr 1000000 0 1), (4, .ptr 1000000 0 0), (3, .ptr 1000000 0 0)] (by kernel_rfl) ?_)
  cases h1 : ((!r_bad))
  ·replace hs := bif_f h1 hs
   refine o_runs 7 [(2, .bool false), (14, .bool false), (13, .no), (12, .no), (11, .no), (10, .no), (9, .no)] (by kernel_rfl) ?_
   refine ov_nil ?_
   obtain rfl := si hs
   refine nrm_join false rfl ?_
   exact cut_of [2] [1000000] (by kernel_rfl) (by kernel_rfl) (by kernel_rfl)
  ·replace hs := bif_t h1 hs
   refine o_runs 7 [(2, .bool (decide (r_rest = []))), (14, .bool (decide (r_rest = []))), (13, .bool (decide (r_rest = []))), (12, .str r_rest), (11, .ptr 1000000 0 0), (10, .ptr 1000000 0 0), (9, .ptr 1000000 0 0)] (by kernel_rfl) ?_
   refine ov_nil ?_
   obtain rfl := si hs
   refine nrm_join (decide (r_rest = [])) rfl ?_
   exact cut_of [2] [1000000] (by kernel_rfl) (by kernel_rfl) (by kernel_rfl)
 ·subst hz; clear hs; have hs := hk1; clear hk1
  refine nrm_thenV (v_ret ?_)
  obtain rfl := si hs
  exact fin_ret (by kernel_rfl) (by kernel_rfl) (by kernel_rfl)
theorem w_greenbeltlaw44_FactValues (base : (List Fact)) (key : (List UInt8)) (day : Int) (known : Int) (n : Int) (r : Bool) (hs : s_greenbeltlaw44_FactValues base key day known n = some r) : FnA Tryz.prog 3 [.vs 5 (List.map enc_Fact base), .str key, .int .i64 day, .int .i64 known, .int .i64 n] [(900000000, gl0 ob0), (900000001, gl1 ob1 u1), (900000002, gl2 ob2 u2)] (.bool r) [(900000000, gl0 ob0), (900000001, gl1 ob1 u1), (900000002, gl2 ob2 u2)] := by
 refine fnA_of_wp (N := 187) Tryz.func3 rfl rfl rfl fun cK0 => ?_
 unfold s_greenbeltlaw44_FactValues at hs
 refine v_same (ρ' := [(0, .vs 5 (List.map enc_Fact base)), (1, .str key), (2, .int .i64 day), (3, .int .i64 known), (4, .int .i64 n)]) rfl rfl ?_
 refine v_seq (vr_text (o_runs 1 [(10, .bool false)] (by kernel_rfl) ?_))
 refine ov_nil (nrm_thenV (v_seq (vr_text ?_)))
 obtain ⟨y1, c1, hs⟩ := bind_some hs
 refine o_pure (v := .bool y1) (by kernel_rfl) (by kernel_rfl) (loc_gcall0 (callV_func hbv4 (by kernel_rfl)) (w_greenbeltlaw44_small  _ c1) (by kernel_rfl)) ?_
 refine o_runs 1 [(11, .bool y1)] (by kernel_rfl) ?_
 refine ov_nil (nrm_thenV (v_seq (v_seq ?_)))
 obtain ⟨z1, hs, hk1⟩ := bind_some hs
 refine v_join (S := Bool) (fun u => u = z1) (fun u => [(0, .vs 5 (List.map enc_Fact base)), (1, .str key), (2, .int .i64 day), (3, .int .i64 known), (4, .int .i64 n), (11, .bool y1), (38, .bool u)]) (fun u => [(900000000, gl0 ob0), (900000001, gl1 ob1 u1), (900000002, gl2 ob2 u2)]) ?_ (fun v1 hz => ?_)
 ·refine vr_text (o_runs 1 [(27, .vs 5 (List.map enc_Fact base))] (by kernel_rfl) ?_)
  obtain ⟨y2, c2, hs⟩ := bind_some hs
  refine o_pure (v := .bool y2) (by kernel_rfl) (by kernel_rfl) (loc_gcall0 (callV_func hbv5 (by kernel_rfl)) (w_greenbeltlaw44_few base _ c2) (by kernel_rfl)) ?_
  refine o_runs 2 [(30, .bool (!y2)), (29, .bool (!y2))] (by kernel_rfl) ?_
  cases h1 : ((!y2))
  ·replace hs := bif_f h1 hs
   refine o_runs 1 [(31, .vs 5 (List.map enc_Fact base))] (by kernel_rfl) ?_
   obtain ⟨y3, c3, hs⟩ := bind_some hs
   refine o_pure (v := .bool y3) (by kernel_rfl) (by kernel_rfl) (loc_gcall0 (callV_func hbv6 (by kernel_rfl)) (w_fact_Right base _ c3) (by kernel_rfl)) ?_
   refine o_runs 3 [(35, .bool (!y3)), (34, .bool (!y3)), (33, .bool (!y3))] (by kernel_rfl) ?_
   cases h2 : ((!y3))
   ·replace hs := bif_f h2 hs
    refine o_runs 3 [(38, .bool (decide (key = []))), (37, .bool (decide (key = []))), (36, .str key)] (by kernel_rfl) ?_
    refine ov_nil ?_
    obtain rfl := si hs
    refine nrm_join (decide (key = [])) rfl ?_
    exact cut_of [0, 1, 2, 3, 4, 11, 38] [900000000, 900000001, 900000002] (by kernel_rfl) (by kernel_rfl) (by kernel_rfl)
   ·replace hs := bif_t h2 hs
    refine o_runs 3 [(38, .bool true), (37, .no), (36, .no)] (by kernel_rfl) ?_
    refine ov_nil ?_
    obtain rfl := si hs
    refine nrm_join true rfl ?_
    exact cut_of [0, 1, 2, 3, 4, 11, 38] [900000000, 900000001, 900000002] (by kernel_rfl) (by kernel_rfl) (by kernel_rfl)
  ·replace hs := bif_t h1 hs
   refine o_runs 8 [(38, .bool true), (37, .no), (36, .no), (35, .bool true), (34, .bool true), (33, .no), (32, .no), (31, .no)] (by kernel_rfl) ?_
   refine ov_nil ?_
   obtain rfl := si hs
   refine nrm_join true rfl ?_
   exact cut_of [0, 1, 2, 3, 4, 11, 38] [900000000, 900000001, 900000002] (by kernel_rfl) (by kernel_rfl) (by kernel_rfl)
 ·subst hz; clear hs; have hs := hk1; clear hk1
  refine nrm_thenV ?_
  refine v_cond v1 (by kernel_rfl) (fun h3 => ?_) (fun h3 => ?_)
  ·replace hs := bif_t h3 hs
   refine v_seq (vr_text (o_runs 2 [(10, .bool y1), (39, .bool y1)] (by kernel_rfl) ?_))
   refine ov_nil (nrm_thenV (v_ret (ret_thenV ?_)))
   obtain rfl := si hs
   exact fin_ret (by kernel_rfl) (by kernel_rfl) (by kernel_rfl)
  ·replace hs := bif_f h3 hs
   refine v_skip (nrm_thenV (v_seq (vr_text (o_runs 1 [(12, .nils)] (by kernel_rfl) ?_))))
   refine ov_nil (nrm_thenV (v_seq (vr_text (o_runs 1 [(40, .vs 5 (List.map enc_Fact base))] (by kernel_rfl) ?_))))
   obtain ⟨y4, c4, hs⟩ := bind_some hs
   refine o_pure (v := .vs 1 (List.map EV.encS y4)) (by kernel_rfl) (by kernel_rfl) (loc_gcall0 (callV_func hbv7 (by kernel_rfl)) (w_fact_Keys base _ c4) (by kernel_rfl)) ?_
   refine o_runs 1 [(13, .vs 1 (List.map EV.encS y4))] (by kernel_rfl) ?_
   refine ov_nil (nrm_thenV (v_seq (v_seq (vr_text (o_runs 1 [(14, .int .i64 0)] (by kernel_rfl) ?_)))))
   refine ov_nil (nrm_thenV ?_)
   obtain ⟨z2, hs, hk2⟩ := bind_some hs
   refine v_join (S := (List Entry)) (fun u => u = z2) (fun u => [(0, .vs 5 (List.map enc_Fact base)), (1, .str key), (2, .int .i64 day), (3, .int .i64 known), (4, .int .i64 n), (11, .bool y1), (12, .sl 2 2000060 ((u).length) 0 ((u).length))]) (fun u => [(2000060, .row 31 2 0 (List.map enc_Entry u)), (900000000, gl0 ob0), (900000001, gl1 ob1 u1), (900000002, gl2 ob2 u2)]) ?_ (fun v2 hz => ?_)
   ·refine v_block ?_
    refine v_fuel (S := Int × (List Entry)) (fun u => [(0, .vs 5 (List.map enc_Fact base)), (1, .str key), (2, .int .i64 day), (3, .int .i64 known), (4, .int .i64 n), (11, .bool y1), (12, .sl 2 2000060 ((u.2).length) 0 ((u.2).length)), (13, .vs 1 (List.map EV.encS y4)), (14, .int .i64 u.1)]) (fun u => [(2000060, .row 31 2 0 (List.map enc_Entry u.2)), (900000000, gl0 ob0), (900000001, gl1 ob1 u1), (900000002, gl2 ob2 u2)]) (s_greenbeltlaw44_FactValues_L1 base day known y4) (fun _ => rfl) KK (0, []) hs (Cut.trans (cut_nilRow 12 2000060 31 2 rfl (by kernel_rfl) (by kernel_rfl)) (cut_of [0, 1, 2, 3, 4, 11, 12, 13, 14] [2000060, 900000000, 900000001, 900000002] (by kernel_rfl) (by kernel_rfl) (by kernel_rfl))) (fun K1 q1 hs => ?_)
    rw [s_greenbeltlaw44_FactValues_L1] at hs
    show WpV cK0 Tryz.prog none 187 _ _ [(0, .vs 5 (List.map enc_Fact base)), (1, .str key), (2, .int .i64 day), (3, .int .i64 known), (4, .int .i64 n), (11, .bool y1), (12, .sl 2 2000060 ((q1.2).length) 0 ((q1.2).length)), (13, .vs 1 (List.map EV.encS y4)), (14, .int .i64 q1.1)] [(2000060, .row 31 2 0 (List.map enc_Entry q1.2)), (900000000, gl0 ob0), (900000001, gl1 ob1 u1), (900000002, gl2 ob2 u2)] []
    refine v_seq (v_seq (vr_text (o_runs 2 [(43, .vs 1 (List.map EV.encS y4)), (42, .int .i64 q1.1)] (by kernel_rfl) ?_)))
    refine o_pure (v := .int .i64 (List.length y4 : Int)) (by kernel_rfl) (by kernel_rfl) (loc_lenVs (sz := 1) (els := (List.map EV.encS y4)) (by kernel_rfl) (by kernel_rfl) (List.length_map ..)) ?_
    refine o_runs 1 [(45, .bool (decide (q1.1 < (List.length y4 : Int))))] (by kernel_rfl) ?_
    refine ov_nil (nrm_thenV ?_)
    refine v_cond (decide (q1.1 < (List.length y4 : Int))) (by kernel_rfl) (fun h4 => ?_) (fun h4 => ?_)
    ·replace hs := bif_t h4 hs
     refine v_skip (nrm_thenV (v_seq (v_block (v_seq (vr_text (o_runs 3 [(51, .int .i64 q1.1), (50, .vs 1 (List.map EV.encS y4)), (49, .vs 5 (List.map enc_Fact base))] (by kernel_rfl) ?_))))))
     obtain ⟨x1, g1, hs⟩ := bind_some hs; obtain ⟨g1a, g1b, g1c⟩ := idx_some g1
     refine o_pure (v := .vp [.str x1] 0) (by kernel_rfl) (by kernel_rfl) (loc_indexVs (e := 9) (sz := 1) (k := .i64) (els := (List.map EV.encS y4)) (cs := (EV.encS x1)) (by kernel_rfl) (by kernel_rfl) (by kernel_rfl) g1a (by rw [g1c]; exact map_get _ (by omega))) ?_
     refine o_runs 3 [(55, .int .i64 known), (54, .int .i64 day), (53, .str x1)] (by kernel_rfl) ?_
     obtain ⟨y5, c5, hs⟩ := bind_some hs
     refine o_pure (v := .tup [.int .i64 y5.1, .bool y5.2]) (by kernel_rfl) (by kernel_rfl) (loc_gcall0 (callV_func hbv8 (by kernel_rfl)) (w_fact_At base x1 day known _ c5) (by kernel_rfl)) ?_
     refine o_runs 5 [(16, .bool y5.2), (15, .int .i64 y5.1), (58, .bool y5.2), (57, .int .i64 y5.1), (48, .tup [.int .i64 y5.1, .bool y5.2])] (by kernel_rfl) ?_
     refine ov_nil (nrm_thenV (v_seq (vr_text (o_runs 1 [(59, .bool y5.2)] (by kernel_rfl) ?_))))
     refine ov_nil (nrm_thenV ?_)
     obtain ⟨z3, hs, hk3⟩ := bind_some hs
     refine v_join (S := (List Entry)) (fun u => u = z3) (fun u => [(0, .vs 5 (List.map enc_Fact base)), (1, .str key), (2, .int .i64 day), (3, .int .i64 known), (4, .int .i64 n), (11, .bool y1), (12, .sl 2 2000060 ((u).length) 0 ((u).length)), (13, .vs 1 (List.map EV.encS y4)), (14, .int .i64 q1.1)]) (fun u => [(2000060, .row 31 2 0 (List.map enc_Entry u)), (900000000, gl0 ob0), (900000001, gl1 ob1 u1), (900000002, gl2 ob2 u2)]) ?_ (fun v3 hz => ?_)
     ·refine v_cond y5.2 (by kernel_rfl) (fun h5 => ?_) (fun h5 => ?_)
      ·replace hs := bif_t h5 hs
       refine vr_text (o_runs 3 [(62, .int .i64 q1.1), (61, .vs 1 (List.map EV.encS y4)), (60, .sl 2 2000060 ((q1.2).length) 0 ((q1.2).length))] (by kernel_rfl) ?_)
       obtain ⟨x2, g2, hs⟩ := bind_some hs; obtain ⟨g2a, g2b, g2c⟩ := idx_some g2
       refine o_pure (v := .vp [.str x2] 0) (by kernel_rfl) (by kernel_rfl) (loc_indexVs (e := 9) (sz := 1) (k := .i64) (els := (List.map EV.encS y4)) (cs := (EV.encS x2)) (by kernel_rfl) (by kernel_rfl) (by kernel_rfl) g2a (by rw [g2c]; exact map_get _ (by omega))) ?_
       refine o_runh 4 [(67, .sl 2 67 1 0 1), (66, .agg [.str x2, .int .i64 y5.1]), (65, .int .i64 y5.1), (64, .str x2)] [(67, .row 31 2 0 (List.map enc_Entry [(Entry.mk x2 y5.1)])), (2000060, .row 31 2 0 (List.map enc_Entry q1.2)), (900000000, gl0 ob0), (900000001, gl1 ob1 u1), (900000002, gl2 ob2 u2)] (by kernel_rfl) ?_
       obtain ⟨_, g3, hs⟩ := bind_some hs; replace g3 := grd_some g3
       refine o_loc (F := [(2000060, .row 31 2 0 (List.map enc_Entry q1.2)), (67, .row 31 2 0 (List.map enc_Entry [(Entry.mk x2 y5.1)]))]) (F' := [(2000060, .row 31 2 0 (List.map enc_Entry (q1.2 ++ [(Entry.mk x2 y5.1)]))), (67, .row 31 2 0 (List.map enc_Entry [(Entry.mk x2 y5.1)]))]) (v := .sl 2 2000060 (((q1.2 ++ [(Entry.mk x2 y5.1)])).length) 0 (((q1.2 ++ [(Entry.mk x2 y5.1)])).length)) [2000060, 67] (by kernel_rfl) (by kernel_rfl) rfl (by kernel_rfl) (loc_appendT (e := 31) (sz := 2) (bytes := 24) (L := (q1.2).length) (els := (List.map enc_Entry q1.2)) (ys := (List.map enc_Entry [(Entry.mk x2 y5.1)])) (by kernel_rfl) (by kernel_rfl) (by first | exact List.length_map .. | rfl) (.sl (t := 31) (fz := 0) (ys := (List.map enc_Entry [(Entry.mk x2 y5.1)])) (by kernel_rfl) (by kernel_rfl)) (map_ones enc_Entry (fun _ => rfl) _) (map_lens enc_Entry (fun _ => rfl) _) (by kernel_rfl) (by first | exact (List.map_append ..).symm | rfl | simp only [List.map_nil, List.nil_append]) (List.length_map ..) g3 (by omega)) (by kernel_rfl) ?_
       refine o_runs 1 [(12, .sl 2 2000060 (((q1.2 ++ [(Entry.mk x2 y5.1)])).length) 0 (((q1.2 ++ [(Entry.mk x2 y5.1)])).length))] (by kernel_rfl) ?_
       refine ov_nil ?_
       obtain rfl := si hs
       refine nrm_join (q1.2 ++ [(Entry.mk x2 y5.1)]) rfl ?_
       exact cut_of [0, 1, 2, 3, 4, 11, 12, 13, 14] [2000060, 900000000, 900000001, 900000002] (by kernel_rfl) (by kernel_rfl) (by kernel_rfl)
      ·replace hs := bif_f h5 hs
       refine v_skip ?_
       obtain rfl := si hs
       refine nrm_join q1.2 rfl ?_
       exact cut_of [0, 1, 2, 3, 4, 11, 12, 13, 14] [2000060, 900000000, 900000001, 900000002] (by kernel_rfl) (by kernel_rfl) (by kernel_rfl)
     ·subst hz; clear hs; have hs := hk3; clear hk3
      refine nrm_blkV (nrm_thenV (vr_text (o_runs 3 [(14, .int .i64 (w64 (q1.1 + 1))), (47, .int .i64 (w64 (q1.1 + 1))), (46, .int .i64 q1.1)] (by kernel_rfl) ?_)))
      refine ov_nil (nrm_fuel ((w64 (q1.1 + 1)), v3) hs ?_)
      exact cut_of [0, 1, 2, 3, 4, 11, 12, 13, 14] [2000060, 900000000, 900000001, 900000002] (by kernel_rfl) (by kernel_rfl) (by kernel_rfl)
    ·replace hs := bif_f h4 hs
     refine v_exit (exit_thenV (exit_fuel ?_))
     refine exit_blkV ?_
     obtain rfl := si hs
     refine nrm_join q1.2 rfl ?_
     exact cut_of [0, 1, 2, 3, 4, 11, 12] [2000060, 900000000, 900000001, 900000002] (by kernel_rfl) (by kernel_rfl) (by kernel_rfl)
   ·subst hz; clear hs; have hs := hk2; clear hk2
    refine nrm_thenV (v_seq (vr_text (o_runs 4 [(73, .int .i64 known), (72, .int .i64 day), (71, .str key), (70, .vs 5 (List.map enc_Fact base))] (by kernel_rfl) ?_)))
    obtain ⟨y6, c6, hs⟩ := bind_some hs
    refine o_pure (v := .tup [.int .i64 y6.1, .bool y6.2]) (by kernel_rfl) (by kernel_rfl) (loc_gcall0 (callV_func hbv8 (by kernel_rfl)) (w_fact_At base key day known _ c6) (by kernel_rfl)) ?_
    refine o_runs 5 [(18, .bool y6.2), (17, .int .i64 y6.1), (76, .bool y6.2), (75, .int .i64 y6.1), (69, .tup [.int .i64 y6.1, .bool y6.2])] (by kernel_rfl) ?_
    refine ov_nil (nrm_thenV (v_seq (vr_text (o_runs 4 [(80, .agg [.int .i64 0, .int .i64 n, .str [], .str [], .nils]), (79, .int .i64 n), (78, .agg [.int .i64 1, .int .i64 0, .str key, .str [], .nils]), (77, .str key)] (by kernel_rfl) ?_))))
    refine o_loc (F := []) (F' := [(81, .row 34 5 0 (encs_Expr [(Expr.mk 1 0 key [] []), (Expr.mk 0 n [] [] [])]))]) (v := .sl 5 81 2 0 2) [] (by kernel_rfl) (by kernel_rfl) rfl (by kernel_rfl) (loc_buildSliceW (e := 34) (sz := 5) (els := [[.int .i64 1, .int .i64 0, .str key, .str [], .nils], [.int .i64 0, .int .i64 n, .str [], .str [], .nils]]) (els2 := [[.int .i64 1, .int .i64 0, .str key, .str [], .vs 5 []], [.int .i64 0, .int .i64 n, .str [], .str [], .vs 5 []]]) (fl := [.int .i64 1, .int .i64 0, .str key, .str [], .nils, .int .i64 0, .int .i64 n, .str [], .str [], .nils]) (fl2 := [.int .i64 1, .int .i64 0, .str key, .str [], .vs 5 [], .int .i64 0, .int .i64 n, .str [], .str [], .vs 5 []]) (by kernel_rfl) (by kernel_rfl) (by kernel_rfl) (by kernel_rfl) (by kernel_rfl) (wk_same (wk_same (wk_same (wk_same (wk_nils (wk_same (wk_same (wk_same (wk_same (wk_nils wk_nil)))))))))) (by kernel_rfl) (by kernel_rfl) (by kernel_rfl)) (by kernel_rfl) ?_
    refine o_runh 3 [(19, .ptr 19 0 0), (82, .agg [.int .i64 5, .int .i64 0, .str [], .str [], .sl 5 81 2 0 2])] [(19, .box 34 [.int .i64 5, .int .i64 0, .str [], .str [], .sl 5 81 2 0 2]), (81, .row 34 5 0 (encs_Expr [(Expr.mk 1 0 key [] []), (Expr.mk 0 n [] [] [])])), (2000060, .row 31 2 0 (List.map enc_Entry v2)), (900000000, gl0 ob0), (900000001, gl1 ob1 u1), (900000002, gl2 ob2 u2)] (by kernel_rfl) ?_
    refine ov_nil (nrm_thenV (v_seq (v_seq (vr_text (o_runs 3 [(85, .agg [.int .i64 5, .int .i64 0, .str [], .str [], .sl 5 81 2 0 2]), (84, .sl 2 2000060 ((v2).length) 0 ((v2).length)), (83, .agg [.nils, .nils, .nils, .nils, .nils, .nils, .nils, .int .i64 0])] (by kernel_rfl) ?_)))))
    obtain ⟨y7, c7, hs⟩ := bind_some hs
    refine o_loc (F := [(81, .row 34 5 0 (encs_Expr [(Expr.mk 1 0 key [] []), (Expr.mk 0 n [] [] [])])), (2000060, .row 31 2 0 (List.map enc_Entry v2))]) (F' := [(81, .row 34 5 0 (encs_Expr [(Expr.mk 1 0 key [] []), (Expr.mk 0 n [] [] [])])), (2000060, .row 31 2 0 (List.map enc_Entry v2))]) (v := .int .i64 y7) [81, 2000060] (by kernel_rfl) (by kernel_rfl) rfl (by kernel_rfl) (loc_gcallB (vs := [.agg [.nils, .nils, .nils, .nils, .nils, .nils, .nils, .int .i64 0], .sl 2 2000060 ((v2).length) 0 ((v2).length), .nils, .agg [.int .i64 5, .int .i64 0, .str [], .str [], .sl 5 81 2 0 2]]) (R := [(81, .row 34 5 0 (encs_Expr [(Expr.mk 1 0 key [] []), (Expr.mk 0 n [] [] [])])), (2000060, .row 31 2 0 (List.map enc_Entry v2))]) (callV_func hbv9 (by kernel_rfl)) (w_expr_Eval (Plan.mk [] [] [] [] [] [] [] 0) v2 [] 5 0 [] [] [(Expr.mk 1 0 key [] []), (Expr.mk 0 n [] [] [])] _ c7) (.cons (.agg (.cons (.nils _) (.cons (.nils _) (.cons (.nils _) (.cons (.nils _) (.cons (.nils _) (.cons (.nils _) (.cons (.nils _) (.cons (.same _) (.nil)))))))))) (.cons (.row (t := 31) (fz := 0) (by kernel_rfl) (by first | (simp only [List.length_map, List.length_set]; done) | rfl)) (.cons (.nils _) (.cons (.agg (.cons (.same _) (.cons (.same _) (.cons (.same _) (.cons (.same _) (.cons (.row (t := 34) (fz := 0) (by kernel_rfl) (by first | (simp only [List.length_map, List.length_set]; done) | rfl)) (.nil))))))) (.nil))))) (by kernel_rfl) (by kernel_rfl) (by kernel_rfl)) (by kernel_rfl) ?_
    refine o_runs 4 [(90, .bool (!(decide (y7 = (w64 (y6.1 - n)))))), (89, .int .i64 (w64 (y6.1 - n))), (88, .int .i64 n), (87, .int .i64 y6.1)] (by kernel_rfl) ?_
    refine ov_nil (nrm_thenV ?_)
    refine v_cond (!(decide (y7 = (w64 (y6.1 - n))))) (by kernel_rfl) (fun h6 => ?_) (fun h6 => ?_)
    ·replace hs := bif_t h6 hs
     refine v_seq (vr_text (o_runs 1 [(10, .bool false)] (by kernel_rfl) ?_))
     refine ov_nil (nrm_thenV (v_ret (ret_thenV ?_)))
     obtain rfl := si hs
     exact fin_ret (by kernel_rfl) (by kernel_rfl) (by kernel_rfl)
    ·replace hs := bif_f h6 hs
     refine v_skip (nrm_thenV (v_seq (vr_text (o_runs 3 [(93, .int .i64 known), (92, .str key), (91, .vs 5 (List.map enc_Fact base))] (by kernel_rfl) ?_))))
     obtain ⟨y8, c8, hs⟩ := bind_some hs
     refine o_pure (v := .vs 5 (List.map enc_Fact y8)) (by kernel_rfl) (by kernel_rfl) (loc_gcall0 (callV_func hbv10 (by kernel_rfl)) (w_fact_History base key known _ c8) (by kernel_rfl)) ?_
     refine o_runs 1 [(20, .vs 5 (List.map enc_Fact y8))] (by kernel_rfl) ?_
     refine ov_nil (nrm_thenV (v_seq (vr_text (o_runs 1 [(21, .str [])] (by kernel_rfl) ?_))))
     refine ov_nil (nrm_thenV (v_seq (v_seq (vr_text (o_runs 1 [(22, .int .i64 0)] (by kernel_rfl) ?_)))))
     refine ov_nil (nrm_thenV ?_)
     obtain ⟨z4, hs, hk4⟩ := bind_some hs
     refine v_join (S := (List UInt8)) (fun u => u = z4) (fun u => [(11, .bool y1), (20, .vs 5 (List.map enc_Fact y8)), (21, .str u)]) (fun u => [(900000000, gl0 ob0), (900000001, gl1 ob1 u1), (900000002, gl2 ob2 u2)]) ?_ (fun v4 hz => ?_)
     ·refine v_block ?_
      refine v_fuel (S := (List UInt8) × Int) (fun u => [(11, .bool y1), (20, .vs 5 (List.map enc_Fact y8)), (21, .str u.1), (22, .int .i64 u.2)]) (fun u => [(900000000, gl0 ob0), (900000001, gl1 ob1 u1), (900000002, gl2 ob2 u2)]) (s_greenbeltlaw44_FactValues_L2 y8) (fun _ => rfl) KK ([], 0) hs (cut_of [11, 20, 21, 22] [900000000, 900000001, 900000002] (by kernel_rfl) (by kernel_rfl) (by kernel_rfl)) (fun K2 q2 hs => ?_)
      rw [s_greenbeltlaw44_FactValues_L2] at hs
      show WpV cK0 Tryz.prog none 187 _ _ [(11, .bool y1), (20, .vs 5 (List.map enc_Fact y8)), (21, .str q2.1), (22, .int .i64 q2.2)] [(900000000, gl0 ob0), (900000001, gl1 ob1 u1), (900000002, gl2 ob2 u2)] []
      refine v_seq (v_seq (vr_text (o_runs 2 [(96, .vs 5 (List.map enc_Fact y8)), (95, .int .i64 q2.2)] (by kernel_rfl) ?_)))
      refine o_pure (v := .int .i64 (List.length y8 : Int)) (by kernel_rfl) (by kernel_rfl) (loc_lenVs (sz := 5) (els := (List.map enc_Fact y8)) (by kernel_rfl) (by kernel_rfl) (List.length_map ..)) ?_
      refine o_runs 1 [(98, .bool (decide (q2.2 < (List.length y8 : Int))))] (by kernel_rfl) ?_
      refine ov_nil (nrm_thenV ?_)
      refine v_cond (decide (q2.2 < (List.length y8 : Int))) (by kernel_rfl) (fun h7 => ?_) (fun h7 => ?_)
      ·replace hs := bif_t h7 hs
       refine v_skip (nrm_thenV (v_seq (v_block (v_draw mixedH (by kernel_rfl) ?_))))
       refine d_runs 3 0 [(103, .int .i64 q2.2), (102, .vs 5 (List.map enc_Fact y8)), (101, .str q2.1)] (pfp 3 2) (by kernel_rfl) (by kernel_rfl) ?_
       obtain ⟨x3, g4, hs⟩ := bind_some hs; obtain ⟨g4a, g4b, g4c⟩ := idx_some g4
       refine d_pure (v := .vp (enc_Fact x3) 0) 3 rfl rfl rfl rfl (by kernel_rfl) (by kernel_rfl) (loc_indexVs (e := 48) (sz := 5) (k := .i64) (els := (List.map enc_Fact y8)) (cs := (enc_Fact x3)) (by kernel_rfl) (by kernel_rfl) (by kernel_rfl) g4a (by rw [g4c]; exact map_get _ (by omega))) ?_
       refine d_runs 4 4 [(108, .int .i64 q2.2), (107, .vs 5 (List.map enc_Fact y8)), (106, .int .i64 x3.Value), (105, .vp (enc_Fact x3) 1)] (pfp 4 7) (by kernel_rfl) (by kernel_rfl) ?_
       obtain ⟨x4, g5, hs⟩ := bind_some hs; obtain ⟨g5a, g5b, g5c⟩ := idx_some g5
       refine d_pure (v := .vp (enc_Fact x4) 0) 8 rfl rfl rfl rfl (by kernel_rfl) (by kernel_rfl) (loc_indexVs (e := 48) (sz := 5) (k := .i64) (els := (List.map enc_Fact y8)) (cs := (enc_Fact x4)) (by kernel_rfl) (by kernel_rfl) (by kernel_rfl) g5a (by rw [g5c]; exact map_get _ (by omega))) ?_
       refine d_runs 4 9 [(113, .int .i64 q2.2), (112, .vs 5 (List.map enc_Fact y8)), (111, .int .i64 x4.From), (110, .vp (enc_Fact x4) 2)] (pfp 4 12) (by kernel_rfl) (by kernel_rfl) ?_
       obtain ⟨x5, g6, hs⟩ := bind_some hs; obtain ⟨g6a, g6b, g6c⟩ := idx_some g6
       refine d_pure (v := .vp (enc_Fact x5) 0) 13 rfl rfl rfl rfl (by kernel_rfl) (by kernel_rfl) (loc_indexVs (e := 48) (sz := 5) (k := .i64) (els := (List.map enc_Fact y8)) (cs := (enc_Fact x5)) (by kernel_rfl) (by kernel_rfl) (by kernel_rfl) g6a (by rw [g6c]; exact map_get _ (by omega))) ?_
       refine d_runs 4 14 [(118, .int .i64 q2.2), (117, .vs 5 (List.map enc_Fact y8)), (116, .int .i64 x5.Until), (115, .vp (enc_Fact x5) 3)] (pfp 4 17) (by kernel_rfl) (by kernel_rfl) ?_
       obtain ⟨x6, g7, hs⟩ := bind_some hs; obtain ⟨g7a, g7b, g7c⟩ := idx_some g7
       refine d_pure (v := .vp (enc_Fact x6) 0) 18 rfl rfl rfl rfl (by kernel_rfl) (by kernel_rfl) (loc_indexVs (e := 48) (sz := 5) (k := .i64) (els := (List.map enc_Fact y8)) (cs := (enc_Fact x6)) (by kernel_rfl) (by kernel_rfl) (by kernel_rfl) g7a (by rw [g7c]; exact map_get _ (by omega))) ?_
       refine d_runh 3 19 [(122, .sl 1 122 4 0 4), (121, .int .i64 x6.Known), (120, .vp (enc_Fact x6) 4)] [(122, .row 3 1 0 (List.map EV.encI [x3.Value, x4.From, x5.Until, x6.Known])), (900000000, gl0 ob0), (900000001, gl1 ob1 u1), (900000002, gl2 ob2 u2)] [⟨21, [122], []⟩, ⟨20, [], []⟩, ⟨19, [], []⟩] (by kernel_rfl) (by kernel_rfl) ?_
       obtain ⟨y9, c9, hs⟩ := bind_some hs
       refine d_loc (F := []) (R := [(900000000, gl0 ob0), (900000001, gl1 ob1 u1), (900000002, gl2 ob2 u2), (122, .row 3 1 0 (List.map EV.encI [x3.Value, x4.From, x5.Until, x6.Known]))]) (F' := []) (v := .str y9) 22 [] [900000000, 900000001, 900000002, 122] rfl rfl rfl rfl (by kernel_rfl) (by kernel_rfl) (by kernel_rfl) (by kernel_rfl) (by kernel_rfl) (by kernel_rfl) (by kernel_rfl) (by kernel_rfl) (loc_gcallL (vs := [.sl 1 122 4 0 4]) (G := [(900000000, gl0 ob0), (900000001, gl1 ob1 u1), (900000002, gl2 ob2 u2)]) (R := [(122, .row 3 1 0 (List.map EV.encI [x3.Value, x4.From, x5.Until, x6.Known]))]) (callV_func hbv11 (by kernel_rfl)) (w_wire_Nums (ob0 := ob0) (ob1 := ob1) (ob2 := ob2) (u1 := u1) (u2 := u2) [x3.Value, x4.From, x5.Until, x6.Known] _ c9) (by kernel_rfl) (.cons (.row (t := 3) (fz := 0) (by kernel_rfl) (by first | (simp only [List.length_map, List.length_set]; done) | rfl)) (.nil)) (by kernel_rfl) (by kernel_rfl) (by kernel_rfl)) ?_
       obtain ⟨_, g8, hs⟩ := bind_some hs; replace g8 := grd_some g8
       refine d_pure (v := .str (q2.1 ++ y9)) 23 rfl rfl rfl rfl (by kernel_rfl) (by kernel_rfl) (loc_concat (a := q2.1) (b := y9) (by kernel_rfl) (by kernel_rfl) g8) ?_
       refine d_runs 1 24 [(21, .str (q2.1 ++ y9))] (pfp 1 24) (by kernel_rfl) (by kernel_rfl) ?_
       refine d_nil (by kernel_rfl) ?_
       refine nrm_blkV (nrm_thenV (vr_text (o_runs 3 [(22, .int .i64 (w64 (q2.2 + 1))), (100, .int .i64 (w64 (q2.2 + 1))), (99, .int .i64 q2.2)] (by kernel_rfl) ?_)))
       refine ov_nil (nrm_fuel ((q2.1 ++ y9), (w64 (q2.2 + 1))) hs ?_)
       exact cut_of [11, 20, 21, 22] [900000000, 900000001, 900000002] (by kernel_rfl) (by kernel_rfl) (by kernel_rfl)
      ·replace hs := bif_f h7 hs
       refine v_exit (exit_thenV (exit_fuel ?_))
       refine exit_blkV ?_
       obtain rfl := si hs
       refine nrm_join q2.1 rfl ?_
       exact cut_of [11, 20, 21] [900000000, 900000001, 900000002] (by kernel_rfl) (by kernel_rfl) (by kernel_rfl)
     ·subst hz; clear hs; have hs := hk4; clear hk4
      refine nrm_thenV (v_seq (vr_text (o_runs 1 [(125, .str v4)] (by kernel_rfl) ?_)))
      obtain ⟨y10, c10, hs⟩ := bind_some hs
      refine o_loc (F := []) (F' := [(3012600, .box 77 [.str y10, .bool false])]) (v := .ptr 3012600 0 0) [] (by kernel_rfl) (by kernel_rfl) rfl (by kernel_rfl) (loc_g (R := []) [.str v4] [(5, 3012600)] (callV_func hbv12 (by kernel_rfl)) (w_wire_Open v4 _ c10) (.cons (.same _) (.nil)) (by kernel_rfl) (by kernel_rfl) (by kernel_rfl) (by kernel_rfl) (by kernel_rfl) (by kernel_rfl) (by kernel_rfl) (by kernel_rfl)) (by kernel_rfl) ?_
      refine o_runs 1 [(23, .ptr 3012600 0 0)] (by kernel_rfl) ?_
      refine ov_nil (nrm_thenV (v_seq (v_seq (vr_text (o_runs 2 [(128, .bool false), (127, .ptr 3012600 0 0)] (by kernel_rfl) ?_)))))
      refine ov_nil (nrm_thenV (v_cond_f (by kernel_rfl) ?_))
      refine v_skip (nrm_thenV (v_seq (v_seq (vr_text (o_runs 1 [(24, .int .i64 0)] (by kernel_rfl) ?_)))))
      refine ov_nil (nrm_thenV ?_)
      obtain ⟨z5, hs, hk5⟩ := bind_some hs
      refine v_join (S := (List UInt8) × Bool) (fun u => z5 = .inr u) (fun u => [(11, .bool y1), (23, .ptr 3012600 0 0)]) (fun u => [(3012600, .box 77 [.str u.1, .bool u.2]), (900000000, gl0 ob0), (900000001, gl1 ob1 u1), (900000002, gl2 ob2 u2)]) ?_ (fun v5 hz => ?_)
      ·refine v_block ?_
       refine v_fuel (S := Int × (List UInt8) × Bool) (fun u => [(11, .bool y1), (20, .vs 5 (List.map enc_Fact y8)), (23, .ptr 3012600 0 0), (24, .int .i64 u.1)]) (fun u => [(3012600, .box 77 [.str u.2.1, .bool u.2.2]), (900000000, gl0 ob0), (900000001, gl1 ob1 u1), (900000002, gl2 ob2 u2)]) (s_greenbeltlaw44_FactValues_L3 y8) (fun _ => rfl) KK (0, y10, false) hs (cut_of [11, 20, 23, 24] [3012600, 900000000, 900000001, 900000002] (by kernel_rfl) (by kernel_rfl) (by kernel_rfl)) (fun K3 q3 hs => ?_)
       rw [s_greenbeltlaw44_FactValues_L3] at hs
       show WpV cK0 Tryz.prog none 187 _ _ [(11, .bool y1), (20, .vs 5 (List.map enc_Fact y8)), (23, .ptr 3012600 0 0), (24, .int .i64 q3.1)] [(3012600, .box 77 [.str q3.2.1, .bool q3.2.2]), (900000000, gl0 ob0), (900000001, gl1 ob1 u1), (900000002, gl2 ob2 u2)] []
       refine v_seq (v_seq (vr_text (o_runs 2 [(130, .vs 5 (List.map enc_Fact y8)), (129, .int .i64 q3.1)] (by kernel_rfl) ?_)))
       refine o_pure (v := .int .i64 (List.length y8 : Int)) (by kernel_rfl) (by kernel_rfl) (loc_lenVs (sz := 5) (els := (List.map enc_Fact y8)) (by kernel_rfl) (by kernel_rfl) (List.length_map ..)) ?_
       refine o_runs 1 [(132, .bool (decide (q3.1 < (List.length y8 : Int))))] (by kernel_rfl) ?_
       refine ov_nil (nrm_thenV ?_)
       refine v_cond (decide (q3.1 < (List.length y8 : Int))) (by kernel_rfl) (fun h8 => ?_) (fun h8 => ?_)
       ·replace hs := bif_t h8 hs
        refine v_skip (nrm_thenV (v_seq (v_block (v_seq (vr_text (o_runs 1 [(135, .ptr 3012600 0 0)] (by kernel_rfl) ?_))))))
        obtain ⟨y11, c11, hs⟩ := bind_some hs
        refine o_loc (F := [(3012600, .box 77 [.str q3.2.1, .bool q3.2.2]), (900000000, gl0 ob0), (900000001, gl1 ob1 u1), (900000002, gl2 ob2 u2)]) (F' := [(3012600, .box 77 [.str y11.2.1, .bool y11.2.2]), (900000000, gl0 ob0), (900000001, gl1 ob1 u1), (900000002, gl2 ob2 u2)]) (v := .vs 1 (List.map EV.encI y11.1)) [3012600, 900000000, 900000001, 900000002] (by kernel_rfl) (by kernel_rfl) rfl (by kernel_rfl) (loc_g (R := []) [.ptr 3012600 0 0] [(1000000, 3012600), (900000000, 900000000), (900000001, 900000001), (900000002, 900000002)] (callV_func hbv13 (by kernel_rfl)) (w_wire_Reader_Nums (ob0 := ob0) (ob1 := ob1) (ob2 := ob2) (u1 := u1) (u2 := u2) q3.2.1 q3.2.2 _ c11) (.cons (.same _) (.nil)) (by kernel_rfl) (by kernel_rfl) (by kernel_rfl) (by kernel_rfl) (by kernel_rfl) (by kernel_rfl) (by kernel_rfl) (by kernel_rfl)) (by kernel_rfl) ?_
        refine o_runs 1 [(25, .vs 1 (List.map EV.encI y11.1))] (by kernel_rfl) ?_
        refine ov_nil (nrm_thenV (v_seq (v_seq (vr_text (o_runs 1 [(137, .vs 1 (List.map EV.encI y11.1))] (by kernel_rfl) ?_)))))
        refine o_pure (v := .int .i64 (List.length y11.1 : Int)) (by kernel_rfl) (by kernel_rfl) (loc_lenVs (sz := 1) (els := (List.map EV.encI y11.1)) (by kernel_rfl) (by kernel_rfl) (List.length_map ..)) ?_
        refine o_runs 1 [(139, .bool (!(decide ((List.length y11.1 : Int) = 4))))] (by kernel_rfl) ?_
        refine ov_nil (nrm_thenV ?_)
        refine v_cond (!(decide ((List.length y11.1 : Int) = 4))) (by kernel_rfl) (fun h9 => ?_) (fun h9 => ?_)
        ·replace hs := bif_t h9 hs
         refine v_seq (vr_text (o_runs 1 [(10, .bool false)] (by kernel_rfl) ?_))
         refine ov_nil (nrm_thenV (v_ret (ret_thenV (ret_blkV (ret_thenV (ret_fuel ?_))))))
         refine ret_blkV (ret_join ?_)
         refine ret_thenV ?_
         obtain rfl := si hs
         replace hs := hk5
         obtain rfl := si hs
         exact fin_ret (by kernel_rfl) (by kernel_rfl) (by kernel_rfl)
        ·replace hs := bif_f h9 hs
         refine v_skip (nrm_thenV (v_seq ?_))
         obtain ⟨z6, hs, hk6⟩ := bind_some hs
         refine v_join (S := Bool) (fun u => u = z6) (fun u => [(11, .bool y1), (20, .vs 5 (List.map enc_Fact y8)), (23, .ptr 3012600 0 0), (24, .int .i64 q3.1), (181, .bool u)]) (fun u => [(3012600, .box 77 [.str y11.2.1, .bool y11.2.2]), (900000000, gl0 ob0), (900000001, gl1 ob1 u1), (900000002, gl2 ob2 u2)]) ?_ (fun v6 hz => ?_)
         ·refine v_draw mixedH (by kernel_rfl) ?_
          refine d_runs 1 0 [(140, .vs 1 (List.map EV.encI y11.1))] (pfp 1 0) (by kernel_rfl) (by kernel_rfl) ?_
          obtain ⟨x7, g9, hs⟩ := bind_some hs; obtain ⟨g9a, g9b, g9c⟩ := idx_some g9
          refine d_pure (v := .vp [.int .i64 x7] 0) 1 rfl rfl rfl rfl (by kernel_rfl) (by kernel_rfl) (loc_indexVs (e := 3) (sz := 1) (k := .i64) (els := (List.map EV.encI y11.1)) (cs := (EV.encI x7)) (by kernel_rfl) (by kernel_rfl) (by kernel_rfl) g9a (by rw [g9c]; exact map_get _ (by omega))) ?_
          refine d_runs 3 2 [(144, .int .i64 q3.1), (143, .vs 5 (List.map enc_Fact y8)), (142, .int .i64 x7)] (pfp 3 4) (by kernel_rfl) (by kernel_rfl) ?_
          obtain ⟨x8, g10, hs⟩ := bind_some hs; obtain ⟨g10a, g10b, g10c⟩ := idx_some g10
          refine d_pure (v := .vp (enc_Fact x8) 0) 5 rfl rfl rfl rfl (by kernel_rfl) (by kernel_rfl) (loc_indexVs (e := 48) (sz := 5) (k := .i64) (els := (List.map enc_Fact y8)) (cs := (enc_Fact x8)) (by kernel_rfl) (by kernel_rfl) (by kernel_rfl) g10a (by rw [g10c]; exact map_get _ (by omega))) ?_
          refine d_runs 4 6 [(149, .bool (!(decide (x7 = x8.Value)))), (148, .bool (!(decide (x7 = x8.Value)))), (147, .int .i64 x8.Value), (146, .vp (enc_Fact x8) 1)] (pfp 4 9) (by kernel_rfl) (by kernel_rfl) ?_
          cases h10 : ((!(decide (x7 = x8.Value))))
          ·replace hs := bif_f h10 hs
           refine d_runs 1 10 [(150, .vs 1 (List.map EV.encI y11.1))] (pfp 1 10) (by kernel_rfl) (by kernel_rfl) ?_
           obtain ⟨x9, g11, hs⟩ := bind_some hs; obtain ⟨g11a, g11b, g11c⟩ := idx_some g11
           refine d_pure (v := .vp [.int .i64 x9] 0) 11 rfl rfl rfl rfl (by kernel_rfl) (by kernel_rfl) (loc_indexVs (e := 3) (sz := 1) (k := .i64) (els := (List.map EV.encI y11.1)) (cs := (EV.encI x9)) (by kernel_rfl) (by kernel_rfl) (by kernel_rfl) g11a (by rw [g11c]; exact map_get _ (by omega))) ?_
           refine d_runs 3 12 [(154, .int .i64 q3.1), (153, .vs 5 (List.map enc_Fact y8)), (152, .int .i64 x9)] (pfp 3 14) (by kernel_rfl) (by kernel_rfl) ?_
           obtain ⟨x10, g12, hs⟩ := bind_some hs; obtain ⟨g12a, g12b, g12c⟩ := idx_some g12
           refine d_pure (v := .vp (enc_Fact x10) 0) 15 rfl rfl rfl rfl (by kernel_rfl) (by kernel_rfl) (loc_indexVs (e := 48) (sz := 5) (k := .i64) (els := (List.map enc_Fact y8)) (cs := (enc_Fact x10)) (by kernel_rfl) (by kernel_rfl) (by kernel_rfl) g12a (by rw [g12c]; exact map_get _ (by omega))) ?_
           refine d_runs 5 16 [(160, .bool (!(decide (x9 = x10.From)))), (159, .bool (!(decide (x9 = x10.From)))), (158, .bool (!(decide (x9 = x10.From)))), (157, .int .i64 x10.From), (156, .vp (enc_Fact x10) 2)] (pfp 5 20) (by kernel_rfl) (by kernel_rfl) ?_
           cases h11 : ((!(decide (x9 = x10.From))))
           ·replace hs := bif_f h11 hs
            refine d_runs 1 21 [(161, .vs 1 (List.map EV.encI y11.1))] (pfp 1 21) (by kernel_rfl) (by kernel_rfl) ?_
            obtain ⟨x11, g13, hs⟩ := bind_some hs; obtain ⟨g13a, g13b, g13c⟩ := idx_some g13
            refine d_pure (v := .vp [.int .i64 x11] 0) 22 rfl rfl rfl rfl (by kernel_rfl) (by kernel_rfl) (loc_indexVs (e := 3) (sz := 1) (k := .i64) (els := (List.map EV.encI y11.1)) (cs := (EV.encI x11)) (by kernel_rfl) (by kernel_rfl) (by kernel_rfl) g13a (by rw [g13c]; exact map_get _ (by omega))) ?_
            refine d_runs 3 23 [(165, .int .i64 q3.1), (164, .vs 5 (List.map enc_Fact y8)), (163, .int .i64 x11)] (pfp 3 25) (by kernel_rfl) (by kernel_rfl) ?_
            obtain ⟨x12, g14, hs⟩ := bind_some hs; obtain ⟨g14a, g14b, g14c⟩ := idx_some g14
            refine d_pure (v := .vp (enc_Fact x12) 0) 26 rfl rfl rfl rfl (by kernel_rfl) (by kernel_rfl) (loc_indexVs (e := 48) (sz := 5) (k := .i64) (els := (List.map enc_Fact y8)) (cs := (enc_Fact x12)) (by kernel_rfl) (by kernel_rfl) (by kernel_rfl) g14a (by rw [g14c]; exact map_get _ (by omega))) ?_
            refine d_runs 5 27 [(171, .bool (!(decide (x11 = x12.Until)))), (170, .bool (!(decide (x11 = x12.Until)))), (169, .bool (!(decide (x11 = x12.Until)))), (168, .int .i64 x12.Until), (167, .vp (enc_Fact x12) 3)] (pfp 5 31) (by kernel_rfl) (by kernel_rfl) ?_
            cases h12 : ((!(decide (x11 = x12.Until))))
            ·replace hs := bif_f h12 hs
             refine d_runs 1 32 [(172, .vs 1 (List.map EV.encI y11.1))] (pfp 1 32) (by kernel_rfl) (by kernel_rfl) ?_
             obtain ⟨x13, g15, hs⟩ := bind_some hs; obtain ⟨g15a, g15b, g15c⟩ := idx_some g15
             refine d_pure (v := .vp [.int .i64 x13] 0) 33 rfl rfl rfl rfl (by kernel_rfl) (by kernel_rfl) (loc_indexVs (e := 3) (sz := 1) (k := .i64) (els := (List.map EV.encI y11.1)) (cs := (EV.encI x13)) (by kernel_rfl) (by kernel_rfl) (by kernel_rfl) g15a (by rw [g15c]; exact map_get _ (by omega))) ?_
             refine d_runs 3 34 [(176, .int .i64 q3.1), (175, .vs 5 (List.map enc_Fact y8)), (174, .int .i64 x13)] (pfp 3 36) (by kernel_rfl) (by kernel_rfl) ?_
             obtain ⟨x14, g16, hs⟩ := bind_some hs; obtain ⟨g16a, g16b, g16c⟩ := idx_some g16
             refine d_pure (v := .vp (enc_Fact x14) 0) 37 rfl rfl rfl rfl (by kernel_rfl) (by kernel_rfl) (loc_indexVs (e := 48) (sz := 5) (k := .i64) (els := (List.map enc_Fact y8)) (cs := (enc_Fact x14)) (by kernel_rfl) (by kernel_rfl) (by kernel_rfl) g16a (by rw [g16c]; exact map_get _ (by omega))) ?_
             refine d_runs 4 38 [(181, .bool (!(decide (x13 = x14.Known)))), (180, .bool (!(decide (x13 = x14.Known)))), (179, .int .i64 x14.Known), (178, .vp (enc_Fact x14) 4)] (pfp 4 41) (by kernel_rfl) (by kernel_rfl) ?_
             refine d_nil (by kernel_rfl) ?_
             obtain rfl := si hs
             refine nrm_join (!(decide (x13 = x14.Known))) rfl ?_
             exact cut_of [11, 20, 23, 24, 181] [3012600, 900000000, 900000001, 900000002] (by kernel_rfl) (by kernel_rfl) (by kernel_rfl)
            ·replace hs := bif_t h12 hs
             refine d_runs 10 32 [(181, .bool true), (180, .no), (179, .no), (178, .no), (177, .no), (176, .no), (175, .no), (174, .no), (173, .no), (172, .no)] (pfp 10 41) (by kernel_rfl) (by kernel_rfl) ?_
             refine d_nil (by kernel_rfl) ?_
             obtain rfl := si hs
             refine nrm_join true rfl ?_
             exact cut_of [11, 20, 23, 24, 181] [3012600, 900000000, 900000001, 900000002] (by kernel_rfl) (by kernel_rfl) (by kernel_rfl)
           ·replace hs := bif_t h11 hs
            refine d_runs 21 21 [(181, .bool true), (180, .no), (179, .no), (178, .no), (177, .no), (176, .no), (175, .no), (174, .no), (173, .no), (172, .no), (171, .bool true), (170, .bool true), (169, .no), (168, .no), (167, .no), (166, .no), (165, .no), (164, .no), (163, .no), (162, .no), (161, .no)] (pfp 21 41) (by kernel_rfl) (by kernel_rfl) ?_
            refine d_nil (by kernel_rfl) ?_
            obtain rfl := si hs
            refine nrm_join true rfl ?_
            exact cut_of [11, 20, 23, 24, 181] [3012600, 900000000, 900000001, 900000002] (by kernel_rfl) (by kernel_rfl) (by kernel_rfl)
          ·replace hs := bif_t h10 hs
           refine d_runs 32 10 [(181, .bool true), (180, .no), (179, .no), (178, .no), (177, .no), (176, .no), (175, .no), (174, .no), (173, .no), (172, .no), (171, .bool true), (170, .bool true), (169, .no), (168, .no), (167, .no), (166, .no), (165, .no), (164, .no), (163, .no), (162, .no), (161, .no), (160, .bool true), (159, .bool true), (158, .no), (157, .no), (156, .no), (155, .no), (154, .no), (153, .no), (152, .no), (151, .no), (150, .no)] (pfp 32 41) (by kernel_rfl) (by kernel_rfl) ?_
           refine d_nil (by kernel_rfl) ?_
           obtain rfl := si hs
           refine nrm_join true rfl ?_
           exact cut_of [11, 20, 23, 24, 181] [3012600, 900000000, 900000001, 900000002] (by kernel_rfl) (by kernel_rfl) (by kernel_rfl)
         ·subst hz; clear hs; have hs := hk6; clear hk6
          refine nrm_thenV ?_
          refine v_cond v6 (by kernel_rfl) (fun h13 => ?_) (fun h13 => ?_)
          ·replace hs := bif_t h13 hs
           refine v_seq (vr_text (o_runs 1 [(10, .bool false)] (by kernel_rfl) ?_))
           refine ov_nil (nrm_thenV (v_ret (ret_blkV (ret_thenV (ret_fuel ?_)))))
           refine ret_blkV (ret_join ?_)
           refine ret_thenV ?_
           obtain rfl := si hs
           replace hs := hk5
           obtain rfl := si hs
           exact fin_ret (by kernel_rfl) (by kernel_rfl) (by kernel_rfl)
          ·replace hs := bif_f h13 hs
           refine v_skip (nrm_blkV (nrm_thenV (vr_text (o_runs 3 [(24, .int .i64 (w64 (q3.1 + 1))), (134, .int .i64 (w64 (q3.1 + 1))), (133, .int .i64 q3.1)] (by kernel_rfl) ?_))))
           refine ov_nil (nrm_fuel ((w64 (q3.1 + 1)), y11.2.1, y11.2.2) hs ?_)
           exact cut_of [11, 20, 23, 24] [3012600, 900000000, 900000001, 900000002] (by kernel_rfl) (by kernel_rfl) (by kernel_rfl)
       ·replace hs := bif_f h8 hs
        refine v_exit (exit_thenV (exit_fuel ?_))
        refine exit_blkV ?_
        obtain rfl := si hs
        refine nrm_join (q3.2.1, q3.2.2) rfl ?_
        exact cut_of [11, 23] [3012600, 900000000, 900000001, 900000002] (by kernel_rfl) (by kernel_rfl) (by kernel_rfl)
      ·subst hz; clear hs; have hs := hk5; clear hk5
       refine nrm_thenV (v_seq ?_)
       obtain ⟨z7, hs, hk7⟩ := bind_some hs
       refine v_join (S := Bool) (fun u => u = z7) (fun u => [(10, .bool u)]) (fun u => [(900000000, gl0 ob0), (900000001, gl1 ob1 u1), (900000002, gl2 ob2 u2)]) ?_ (fun v7 hz => ?_)
       ·refine vr_text (o_runs 2 [(183, .bool y1), (182, .bool y1)] (by kernel_rfl) ?_)
        cases h14 : (y1)
        ·replace hs := bif_f h14 hs
         refine o_runs 4 [(10, .bool false), (186, .bool false), (185, .no), (184, .no)] (by kernel_rfl) ?_
         refine ov_nil ?_
         obtain rfl := si hs
         refine nrm_join false rfl ?_
         exact cut_of [10] [900000000, 900000001, 900000002] (by kernel_rfl) (by kernel_rfl) (by kernel_rfl)
        ·replace hs := bif_t h14 hs
         refine o_runs 1 [(184, .ptr 3012600 0 0)] (by kernel_rfl) ?_
         obtain ⟨y12, c12, hs⟩ := bind_some hs
         refine o_loc (F := [(3012600, .box 77 [.str v5.1, .bool v5.2])]) (F' := [(3012600, .box 77 [.str y12.2.1, .bool y12.2.2])]) (v := .bool y12.1) [3012600] (by kernel_rfl) (by kernel_rfl) rfl (by kernel_rfl) (loc_g (R := []) [.ptr 3012600 0 0] [(1000000, 3012600)] (callV_func hbv14 (by kernel_rfl)) (w_wire_Reader_Done v5.1 v5.2 _ c12) (.cons (.same _) (.nil)) (by kernel_rfl) (by kernel_rfl) (by kernel_rfl) (by kernel_rfl) (by kernel_rfl) (by kernel_rfl) (by kernel_rfl) (by kernel_rfl)) (by kernel_rfl) ?_
         refine o_runs 2 [(10, .bool y12.1), (186, .bool y12.1)] (by kernel_rfl) ?_
         refine ov_nil ?_
         obtain rfl := si hs
         refine nrm_join y12.1 rfl ?_
         exact cut_of [10] [900000000, 900000001, 900000002] (by kernel_rfl) (by kernel_rfl) (by kernel_rfl)
       ·subst hz; clear hs; have hs := hk7; clear hk7
        refine nrm_thenV (v_ret ?_)
        obtain rfl := si hs
        exact fin_ret (by kernel_rfl) (by kernel_rfl) (by kernel_rfl)
end Go.Proofs.YtpabacdeogeehaaGreatDoor
