/- printed by gen2.py -/
import Derived.Test.YtenljipeggacjaaGreatE
import Derived.Test.YtenljipeggacjaaGreatSD
import Derived.Test.YtenljipeggacjaaGreatSPartB
set_option linter.all false
set_option maxRecDepth 100000
namespace Go.Proofs.YtenljipeggacjaaGreat
open Go Go.RowKit Go.Eng Go.EV
variable [Fuel]

theorem w_greenbeltref17_arity (op : Int) (r : Int) (hs : s_greenbeltref17_arity op = some r) : FnA Tryz.prog 61 [.int .i64 op] [] (.int .i64 r) [] := by
 refine fnA_of_wp (N := 20) Tryz.func61 rfl rfl rfl fun cK0 => ?_
 unfold s_greenbeltref17_arity at hs
 refine v_same (ρ' := [(0, .int .i64 op)]) rfl rfl ?_
 refine v_seq (vr_text (o_runs 1 [(2, .int .i64 0)] (by kernel_rfl) ?_))
 refine ov_nil (nrm_thenV (v_seq (v_seq (vr_text (o_runs 1 [(3, .int .i64 op)] (by kernel_rfl) ?_)))))
 refine ov_nil (nrm_thenV (v_block (v_seq (v_seq (vr_text (o_runs 2 [(4, .bool (decide (op = 0))), (5, .bool (decide (op = 0)))] (by kernel_rfl) ?_))))))
 refine ov_nil (nrm_thenV ?_)
 obtain ⟨z1, hs, hk1⟩ := bind_some hs
 refine v_join (S := Bool) (fun u => u = z1) (fun u => [(0, .int .i64 op), (3, .int .i64 op), (4, .bool u)]) (fun u => []) ?_ (fun v1 hz => ?_)
 ·refine v_cond (decide (op = 0)) (by kernel_rfl) (fun h1 => ?_) (fun h1 => ?_)
  ·replace hs := bif_t h1 hs
   refine v_skip ?_
   obtain rfl := si hs
   refine nrm_join (decide (op = 0)) rfl ?_
   exact cut_of [0, 3, 4] [] (by kernel_rfl) (by kernel_rfl) (by kernel_rfl)
  ·replace hs := bif_f h1 hs
   refine v_seq (vr_text (o_runs 2 [(4, .bool (decide (op = 1))), (6, .bool (decide (op = 1)))] (by kernel_rfl) ?_))
   refine ov_nil (nrm_thenV ?_)
   refine v_cond (decide (op = 1)) (by kernel_rfl) (fun h2 => ?_) (fun h2 => ?_)
   ·replace hs := bif_t h2 hs
    refine v_skip ?_
    obtain rfl := si hs
    refine nrm_join (decide (op = 1)) rfl ?_
    exact cut_of [0, 3, 4] [] (by kernel_rfl) (by kernel_rfl) (by kernel_rfl)
   ·replace hs := bif_f h2 hs
    refine v_seq (vr_text (o_runs 2 [(4, .bool (decide (op = 2))), (7, .bool (decide (op = 2)))] (by kernel_rfl) ?_))
    refine ov_nil (nrm_thenV ?_)
    refine v_cond (decide (op = 2)) (by kernel_rfl) (fun h3 => ?_) (fun h3 => ?_)
    ·replace hs := bif_t h3 hs
     refine v_skip ?_
     obtain rfl := si hs
     refine nrm_join (decide (op = 2)) rfl ?_
     exact cut_of [0, 3, 4] [] (by kernel_rfl) (by kernel_rfl) (by kernel_rfl)
    ·replace hs := bif_f h3 hs
     refine vr_text (o_runs 2 [(4, .bool (decide (op = 3))), (8, .bool (decide (op = 3)))] (by kernel_rfl) ?_)
     refine ov_nil ?_
     obtain rfl := si hs
     refine nrm_join (decide (op = 3)) rfl ?_
     exact cut_of [0, 3, 4] [] (by kernel_rfl) (by kernel_rfl) (by kernel_rfl)
 ·subst hz; clear hs; have hs := hk1; clear hk1
  refine nrm_thenV ?_
  refine v_cond v1 (by kernel_rfl) (fun h4 => ?_) (fun h4 => ?_)
  ·replace hs := bif_t h4 hs
   refine v_seq (vr_text (o_runs 1 [(2, .int .i64 0)] (by kernel_rfl) ?_))
   refine ov_nil (nrm_thenV (v_ret (ret_blkV (ret_thenV ?_))))
   obtain rfl := si hs
   exact fin_ret (by kernel_rfl) (by kernel_rfl) (by kernel_rfl)
  ·replace hs := bif_f h4 hs
   refine v_seq (v_seq (vr_text (o_runs 2 [(9, .bool (decide (op = 9))), (10, .bool (decide (op = 9)))] (by kernel_rfl) ?_)))
   refine ov_nil (nrm_thenV ?_)
   obtain ⟨z2, hs, hk2⟩ := bind_some hs
   refine v_join (S := Bool) (fun u => u = z2) (fun u => [(0, .int .i64 op), (3, .int .i64 op), (9, .bool u)]) (fun u => []) ?_ (fun v2 hz => ?_)
   ·refine v_cond (decide (op = 9)) (by kernel_rfl) (fun h5 => ?_) (fun h5 => ?_)
    ·replace hs := bif_t h5 hs
     refine v_skip ?_
     obtain rfl := si hs
     refine nrm_join (decide (op = 9)) rfl ?_
     exact cut_of [0, 3, 9] [] (by kernel_rfl) (by kernel_rfl) (by kernel_rfl)
    ·replace hs := bif_f h5 hs
     refine vr_text (o_runs 2 [(9, .bool (decide (op = 15))), (11, .bool (decide (op = 15)))] (by kernel_rfl) ?_)
     refine ov_nil ?_
     obtain rfl := si hs
     refine nrm_join (decide (op = 15)) rfl ?_
     exact cut_of [0, 3, 9] [] (by kernel_rfl) (by kernel_rfl) (by kernel_rfl)
   ·subst hz; clear hs; have hs := hk2; clear hk2
    refine nrm_thenV ?_
    refine v_cond v2 (by kernel_rfl) (fun h6 => ?_) (fun h6 => ?_)
    ·replace hs := bif_t h6 hs
     refine v_seq (vr_text (o_runs 1 [(2, .int .i64 1)] (by kernel_rfl) ?_))
     refine ov_nil (nrm_thenV (v_ret (ret_blkV (ret_thenV ?_))))
     obtain rfl := si hs
     exact fin_ret (by kernel_rfl) (by kernel_rfl) (by kernel_rfl)
    ·replace hs := bif_f h6 hs
     refine v_seq (vr_text (o_runs 2 [(12, .bool (decide (op = 16))), (13, .bool (decide (op = 16)))] (by kernel_rfl) ?_))
     refine ov_nil (nrm_thenV ?_)
     refine v_cond (decide (op = 16)) (by kernel_rfl) (fun h7 => ?_) (fun h7 => ?_)
     ·replace hs := bif_t h7 hs
      refine v_seq (vr_text (o_runs 1 [(2, .int .i64 3)] (by kernel_rfl) ?_))
      refine ov_nil (nrm_thenV (v_ret (ret_blkV (ret_thenV ?_))))
      obtain rfl := si hs
      exact fin_ret (by kernel_rfl) (by kernel_rfl) (by kernel_rfl)
     ·replace hs := bif_f h7 hs
      refine v_skip (nrm_blkV (nrm_thenV (v_seq (v_seq ?_))))
      obtain ⟨z3, hs, hk3⟩ := bind_some hs
      refine v_join (S := Bool) (fun u => u = z3) (fun u => [(19, .bool u)]) (fun u => []) ?_ (fun v3 hz => ?_)
      ·refine vr_text (o_runs 3 [(16, .bool (decide (op < 0))), (15, .bool (decide (op < 0))), (14, .int .i64 op)] (by kernel_rfl) ?_)
       cases h8 : ((decide (op < 0)))
       ·replace hs := bif_f h8 hs
        refine o_runs 3 [(19, .bool (decide (op ≥ 17))), (18, .bool (decide (op ≥ 17))), (17, .int .i64 op)] (by kernel_rfl) ?_
        refine ov_nil ?_
        obtain rfl := si hs
        refine nrm_join (decide (op ≥ 17)) rfl ?_
        exact cut_of [19] [] (by kernel_rfl) (by kernel_rfl) (by kernel_rfl)
       ·replace hs := bif_t h8 hs
        refine o_runs 3 [(19, .bool true), (18, .no), (17, .no)] (by kernel_rfl) ?_
        refine ov_nil ?_
        obtain rfl := si hs
        refine nrm_join true rfl ?_
        exact cut_of [19] [] (by kernel_rfl) (by kernel_rfl) (by kernel_rfl)
      ·subst hz; clear hs; have hs := hk3; clear hk3
       refine nrm_thenV ?_
       refine v_cond v3 (by kernel_rfl) (fun h9 => ?_) (fun h9 => ?_)
       ·replace hs := bif_t h9 hs
        refine v_seq (vr_text (o_runs 1 [(2, .int .i64 (-1))] (by kernel_rfl) ?_))
        refine ov_nil (nrm_thenV (v_ret (ret_thenV ?_)))
        obtain rfl := si hs
        exact fin_ret (by kernel_rfl) (by kernel_rfl) (by kernel_rfl)
       ·replace hs := bif_f h9 hs
        refine v_skip (nrm_thenV (v_seq (vr_text (o_runs 1 [(2, .int .i64 2)] (by kernel_rfl) ?_))))
        refine ov_nil (nrm_thenV (v_ret ?_))
        obtain rfl := si hs
        exact fin_ret (by kernel_rfl) (by kernel_rfl) (by kernel_rfl)
theorem ws_greenbeltref17_fits (nF : Nat) (ih_greenbeltref17_fits : ∀ (e : Expr) (levels : Int) (r : Bool), s_greenbeltref17_fits nF e levels = some r → FnA Tryz.prog 48 [.agg (enc_Expr e), .int .i64 levels] [] (.bool r) []) (e : Expr) (levels : Int) (r : Bool) (hs : s_greenbeltref17_fits (nF + 1) e levels = some r) : FnA Tryz.prog 48 [.agg (enc_Expr e), .int .i64 levels] [] (.bool r) [] := by
 refine fnA_of_wp (N := 35) Tryz.func48 rfl rfl rfl fun cK0 => ?_
 rw [s_greenbeltref17_fits] at hs
 refine v_same (ρ' := [(0, .agg (enc_Expr e)), (1, .int .i64 levels)]) rfl rfl ?_
 refine v_seq (vr_text (o_runh 2 [(4, .bool false), (2, .ptr 2 0 0)] [(2, .box 28 [.int .i64 e.Op, .int .i64 e.N, .str e.S, .str e.Key, .vs 5 (encs_Expr e.Args)])] (by kernel_rfl) ?_))
 refine ov_nil (nrm_thenV (v_seq (v_seq ?_)))
 obtain ⟨z1, hs, hk1⟩ := bind_some hs
 refine v_join (S := Bool) (fun u => u = z1) (fun u => [(1, .int .i64 levels), (2, .ptr 2 0 0), (17, .bool u)]) (fun u => [(2, .box 28 [.int .i64 e.Op, .int .i64 e.N, .str e.S, .str e.Key, .vs 5 (encs_Expr e.Args)])]) ?_ (fun v1 hz => ?_)
 ·refine v_draw mixedH (by kernel_rfl) ?_
  refine d_runs 3 0 [(9, .bool (decide (levels < 1))), (8, .bool (decide (levels < 1))), (7, .int .i64 levels)] (pfp 3 2) (by kernel_rfl) (by kernel_rfl) ?_
  cases h1 : ((decide (levels < 1)))
  ·replace hs := bif_f h1 hs
   refine d_runs 2 3 [(11, .int .i64 e.Op), (10, .ptr 2 0 0)] [⟨4, [], [2]⟩, ⟨3, [], []⟩] (by kernel_rfl) (by kernel_rfl) ?_
   obtain ⟨y1, c1, hs⟩ := bind_some hs
   refine d_pure (v := .int .i64 y1) 5 rfl rfl rfl rfl (by kernel_rfl) (by kernel_rfl) (loc_gcall0 (callV_func hbv61 (by kernel_rfl)) (w_greenbeltref17_arity e.Op _ c1) (by kernel_rfl)) ?_
   refine d_runs 2 6 [(14, .vs 5 (encs_Expr e.Args)), (13, .ptr 2 0 4)] [⟨7, [], [2]⟩, ⟨6, [], []⟩] (by kernel_rfl) (by kernel_rfl) ?_
   refine d_pure (v := .int .i64 (List.length e.Args : Int)) 8 rfl rfl rfl rfl (by kernel_rfl) (by kernel_rfl) (loc_lenVs (sz := 5) (els := (encs_Expr e.Args)) (by kernel_rfl) (by kernel_rfl) (by rw [encs_Expr_eq, List.length_map])) ?_
   refine d_runs 2 9 [(17, .bool (!(decide (y1 = (List.length e.Args : Int))))), (16, .bool (!(decide (y1 = (List.length e.Args : Int)))))] (pfp 2 10) (by kernel_rfl) (by kernel_rfl) ?_
   refine d_nil (by kernel_rfl) ?_
   obtain rfl := si hs
   refine nrm_join (!(decide (y1 = (List.length e.Args : Int)))) rfl ?_
   exact cut_of [1, 2, 17] [2] (by kernel_rfl) (by kernel_rfl) (by kernel_rfl)
  ·replace hs := bif_t h1 hs
   refine d_runs 8 3 [(17, .bool true), (16, .no), (15, .no), (14, .no), (13, .no), (12, .no), (11, .no), (10, .no)] (pfp 8 10) (by kernel_rfl) (by kernel_rfl) ?_
   refine d_nil (by kernel_rfl) ?_
   obtain rfl := si hs
   refine nrm_join true rfl ?_
   exact cut_of [1, 2, 17] [2] (by kernel_rfl) (by kernel_rfl) (by kernel_rfl)
 ·subst hz; clear hs; have hs := hk1; clear hk1
  refine nrm_thenV ?_
  refine v_cond v1 (by kernel_rfl) (fun h2 => ?_) (fun h2 => ?_)
  ·replace hs := bif_t h2 hs
   refine v_seq (vr_text (o_runs 1 [(4, .bool false)] (by kernel_rfl) ?_))
   refine ov_nil (nrm_thenV (v_ret (ret_thenV ?_)))
   obtain rfl := si hs
   exact fin_ret (by kernel_rfl) (by kernel_rfl) (by kernel_rfl)
  ·replace hs := bif_f h2 hs
   refine v_skip (nrm_thenV (v_seq (v_seq (vr_text (o_runs 1 [(5, .int .i64 0)] (by kernel_rfl) ?_)))))
   refine ov_nil (nrm_thenV ?_)
   obtain ⟨z2, hs, hk2⟩ := bind_some hs
   refine v_join (S := Unit) (fun u => z2 = .inr u) (fun u => []) (fun u => []) ?_ (fun v2 hz => ?_)
   ·refine v_block ?_
    refine v_fuel (S := Int) (fun u => [(1, .int .i64 levels), (2, .ptr 2 0 0), (5, .int .i64 u)]) (fun u => [(2, .box 28 [.int .i64 e.Op, .int .i64 e.N, .str e.S, .str e.Key, .vs 5 (encs_Expr e.Args)])]) (s_greenbeltref17_fits_L1 (s_greenbeltref17_fits nF) e levels) (fun _ => rfl) KK 0 hs (cut_of [1, 2, 5] [2] (by kernel_rfl) (by kernel_rfl) (by kernel_rfl)) (fun K1 q1 hs => ?_)
    rw [s_greenbeltref17_fits_L1] at hs
    show WpV cK0 Tryz.prog none 35 _ _ [(1, .int .i64 levels), (2, .ptr 2 0 0), (5, .int .i64 q1)] [(2, .box 28 [.int .i64 e.Op, .int .i64 e.N, .str e.S, .str e.Key, .vs 5 (encs_Expr e.Args)])] []
    refine v_seq (v_seq (vr_text (o_runs 3 [(20, .vs 5 (encs_Expr e.Args)), (19, .ptr 2 0 4), (18, .int .i64 q1)] (by kernel_rfl) ?_)))
    refine o_pure (v := .int .i64 (List.length e.Args : Int)) (by kernel_rfl) (by kernel_rfl) (loc_lenVs (sz := 5) (els := (encs_Expr e.Args)) (by kernel_rfl) (by kernel_rfl) (by rw [encs_Expr_eq, List.length_map])) ?_
    refine o_runs 1 [(22, .bool (decide (q1 < (List.length e.Args : Int))))] (by kernel_rfl) ?_
    refine ov_nil (nrm_thenV ?_)
    refine v_cond (decide (q1 < (List.length e.Args : Int))) (by kernel_rfl) (fun h3 => ?_) (fun h3 => ?_)
    ·replace hs := bif_t h3 hs
     refine v_skip (nrm_thenV (v_seq (v_block (v_seq (vr_text (o_runs 3 [(27, .int .i64 q1), (26, .vs 5 (encs_Expr e.Args)), (25, .ptr 2 0 4)] (by kernel_rfl) ?_))))))
     obtain ⟨x1, g1, hs⟩ := bind_some hs; obtain ⟨g1a, g1b, g1c⟩ := idx_some g1
     refine o_pure (v := .vp (enc_Expr x1) 0) (by kernel_rfl) (by kernel_rfl) (loc_indexVs (e := 28) (sz := 5) (k := .i64) (els := (encs_Expr e.Args)) (cs := (enc_Expr x1)) (by kernel_rfl) (by kernel_rfl) (by kernel_rfl) g1a (by rw [g1c, encs_Expr_eq]; exact map_get _ (by omega))) ?_
     refine o_runs 3 [(31, .int .i64 (w64 (levels - 1))), (30, .int .i64 levels), (29, .agg (enc_Expr x1))] (by kernel_rfl) ?_
     obtain ⟨y2, c2, hs⟩ := bind_some hs
     refine o_pure (v := .bool y2) (by kernel_rfl) (by kernel_rfl) (loc_gcall0 (callV_func hbv48 (by kernel_rfl)) (ih_greenbeltref17_fits x1 (w64 (levels - 1)) _ c2) (by kernel_rfl)) ?_
     refine o_runs 1 [(6, .bool y2)] (by kernel_rfl) ?_
     refine ov_nil (nrm_thenV (v_seq (vr_text (o_runs 2 [(34, .bool (!y2)), (33, .bool y2)] (by kernel_rfl) ?_))))
     refine ov_nil (nrm_thenV ?_)
     refine v_cond (!y2) (by kernel_rfl) (fun h4 => ?_) (fun h4 => ?_)
     ·replace hs := bif_t h4 hs
      refine v_seq (vr_text (o_runs 1 [(4, .bool false)] (by kernel_rfl) ?_))
      refine ov_nil (nrm_thenV (v_ret (ret_blkV (ret_thenV (ret_fuel ?_)))))
      refine ret_blkV (ret_join ?_)
      refine ret_thenV ?_
      obtain rfl := si hs
      replace hs := hk2
      obtain rfl := si hs
      exact fin_ret (by kernel_rfl) (by kernel_rfl) (by kernel_rfl)
     ·replace hs := bif_f h4 hs
      refine v_skip (nrm_blkV (nrm_thenV (vr_text (o_runs 3 [(5, .int .i64 (w64 (q1 + 1))), (24, .int .i64 (w64 (q1 + 1))), (23, .int .i64 q1)] (by kernel_rfl) ?_))))
      refine ov_nil (nrm_fuel (w64 (q1 + 1)) hs ?_)
      exact cut_of [1, 2, 5] [2] (by kernel_rfl) (by kernel_rfl) (by kernel_rfl)
    ·replace hs := bif_f h3 hs
     refine v_exit (exit_thenV (exit_fuel ?_))
     refine exit_blkV ?_
     obtain rfl := si hs
     refine nrm_join () rfl ?_
     exact cut_of [] [] (by kernel_rfl) (by kernel_rfl) (by kernel_rfl)
   ·subst hz; clear hs; have hs := hk2; clear hk2
    refine nrm_thenV (v_seq (vr_text (o_runs 1 [(4, .bool true)] (by kernel_rfl) ?_)))
    refine ov_nil (nrm_thenV (v_ret ?_))
    obtain rfl := si hs
    exact fin_ret (by kernel_rfl) (by kernel_rfl) (by kernel_rfl)
theorem wr_greenbeltref17_fits : ∀ nF : Nat, (∀ (e : Expr) (levels : Int) (r : Bool), s_greenbeltref17_fits nF e levels = some r → FnA Tryz.prog 48 [.agg (enc_Expr e), .int .i64 levels] [] (.bool r) [])
 | 0 => fun e levels r hs => by rw [s_greenbeltref17_fits] at hs; cases hs
 | nF + 1 => fun e levels r hs => ws_greenbeltref17_fits nF (wr_greenbeltref17_fits nF) e levels r hs
theorem w_greenbeltref17_fits (nF : Nat) (e : Expr) (levels : Int) (r : Bool) (hs : s_greenbeltref17_fits nF e levels = some r) : FnA Tryz.prog 48 [.agg (enc_Expr e), .int .i64 levels] [] (.bool r) [] := (wr_greenbeltref17_fits nF) e levels r hs
theorem w_greenbeltref17_Right (e : Expr) (r : Bool) (hs : s_greenbeltref17_Right e = some r) : FnA Tryz.prog 32 [.agg (enc_Expr e)] [] (.bool r) [] := by
 refine fnA_of_wp (N := 5) Tryz.func32 rfl rfl rfl fun cK0 => ?_
 unfold s_greenbeltref17_Right at hs
 refine v_same (ρ' := [(0, .agg (enc_Expr e))]) rfl rfl ?_
 refine v_seq (vr_text (o_runh 2 [(2, .bool false), (1, .ptr 1 0 0)] [(1, .box 28 [.int .i64 e.Op, .int .i64 e.N, .str e.S, .str e.Key, .vs 5 (encs_Expr e.Args)])] (by kernel_rfl) ?_))
 refine ov_nil (nrm_thenV (v_seq (vr_text (o_runs 1 [(3, .agg (enc_Expr e))] (by kernel_rfl) ?_))))
 obtain ⟨y1, c1, hs⟩ := bind_some hs
 refine o_pure (v := .bool y1) (by kernel_rfl) (by kernel_rfl) (loc_gcall0 (callV_func hbv48 (by kernel_rfl)) (w_greenbeltref17_fits KK e 12 _ c1) (by kernel_rfl)) ?_
 refine o_runs 1 [(2, .bool y1)] (by kernel_rfl) ?_
 refine ov_nil (nrm_thenV (v_ret ?_))
 obtain rfl := si hs
 exact fin_ret (by kernel_rfl) (by kernel_rfl) (by kernel_rfl)
theorem w_greenbeltref45_Right (f : Formula) (r : Bool) (hs : s_greenbeltref45_Right f = some r) : FnA Tryz.prog 10 [.agg (enc_Formula f)] [] (.bool r) [] := by
 refine fnA_of_wp (N := 26) Tryz.func10 rfl rfl rfl fun cK0 => ?_
 unfold s_greenbeltref45_Right at hs
 refine v_same (ρ' := [(0, .agg (enc_Formula f))]) rfl rfl ?_
 refine v_seq (vr_text (o_runh 2 [(2, .bool false), (1, .ptr 1 0 0)] [(1, .box 31 [.int .i64 f.Id, .int .i64 f.Day, .int .i64 f.Known, .int .i64 f.Body.Op, .int .i64 f.Body.N, .str f.Body.S, .str f.Body.Key, .vs 5 (encs_Expr f.Body.Args), .int .i64 f.Result, .vs 4 (List.map enc_Asked f.Asked)])] (by kernel_rfl) ?_))
 refine ov_nil (nrm_thenV (v_seq ?_))
 obtain ⟨z1, hs, hk1⟩ := bind_some hs
 refine v_join (S := Bool) (fun u => u = z1) (fun u => [(2, .bool u)]) (fun u => []) ?_ (fun v1 hz => ?_)
 ·refine vr_text (o_runs 2 [(4, .agg (enc_Expr f.Body)), (3, .ptr 1 0 3)] (by kernel_rfl) ?_)
  obtain ⟨y1, c1, hs⟩ := bind_some hs
  refine o_pure (v := .bool y1) (by kernel_rfl) (by kernel_rfl) (loc_gcall0 (callV_func hbv32 (by kernel_rfl)) (w_greenbeltref17_Right f.Body _ c1) (by kernel_rfl)) ?_
  refine o_runs 1 [(6, .bool y1)] (by kernel_rfl) ?_
  cases h1 : (y1)
  ·replace hs := bif_f h1 hs
   refine o_runs 20 [(2, .bool false), (25, .bool false), (24, .no), (23, .no), (22, .no), (21, .bool false), (20, .bool false), (19, .no), (18, .no), (17, .no), (16, .bool false), (15, .bool false), (14, .no), (13, .no), (12, .no), (11, .bool false), (10, .bool false), (9, .no), (8, .no), (7, .no)] (by kernel_rfl) ?_
   refine ov_nil ?_
   obtain rfl := si hs
   refine nrm_join false rfl ?_
   exact cut_of [2] [] (by kernel_rfl) (by kernel_rfl) (by kernel_rfl)
  ·replace hs := bif_t h1 hs
   refine o_runs 5 [(11, .bool (decide (f.Day ≥ 0))), (10, .bool (decide (f.Day ≥ 0))), (9, .bool (decide (f.Day ≥ 0))), (8, .int .i64 f.Day), (7, .ptr 1 0 1)] (by kernel_rfl) ?_
   cases h2 : ((decide (f.Day ≥ 0)))
   ·replace hs := bif_f h2 hs
    refine o_runs 15 [(2, .bool false), (25, .bool false), (24, .no), (23, .no), (22, .no), (21, .bool false), (20, .bool false), (19, .no), (18, .no), (17, .no), (16, .bool false), (15, .bool false), (14, .no), (13, .no), (12, .no)] (by kernel_rfl) ?_
    refine ov_nil ?_
    obtain rfl := si hs
    refine nrm_join false rfl ?_
    exact cut_of [2] [] (by kernel_rfl) (by kernel_rfl) (by kernel_rfl)
   ·replace hs := bif_t h2 hs
    refine o_runs 5 [(16, .bool (decide (f.Day ≤ 1073741824))), (15, .bool (decide (f.Day ≤ 1073741824))), (14, .bool (decide (f.Day ≤ 1073741824))), (13, .int .i64 f.Day), (12, .ptr 1 0 1)] (by kernel_rfl) ?_
    cases h3 : ((decide (f.Day ≤ 1073741824)))
    ·replace hs := bif_f h3 hs
     refine o_runs 10 [(2, .bool false), (25, .bool false), (24, .no), (23, .no), (22, .no), (21, .bool false), (20, .bool false), (19, .no), (18, .no), (17, .no)] (by kernel_rfl) ?_
     refine ov_nil ?_
     obtain rfl := si hs
     refine nrm_join false rfl ?_
     exact cut_of [2] [] (by kernel_rfl) (by kernel_rfl) (by kernel_rfl)
    ·replace hs := bif_t h3 hs
     refine o_runs 5 [(21, .bool (decide (f.Known ≥ 0))), (20, .bool (decide (f.Known ≥ 0))), (19, .bool (decide (f.Known ≥ 0))), (18, .int .i64 f.Known), (17, .ptr 1 0 2)] (by kernel_rfl) ?_
     cases h4 : ((decide (f.Known ≥ 0)))
     ·replace hs := bif_f h4 hs
      refine o_runs 5 [(2, .bool false), (25, .bool false), (24, .no), (23, .no), (22, .no)] (by kernel_rfl) ?_
      refine ov_nil ?_
      obtain rfl := si hs
      refine nrm_join false rfl ?_
      exact cut_of [2] [] (by kernel_rfl) (by kernel_rfl) (by kernel_rfl)
     ·replace hs := bif_t h4 hs
      refine o_runs 5 [(2, .bool (decide (f.Known ≤ 1073741824))), (25, .bool (decide (f.Known ≤ 1073741824))), (24, .bool (decide (f.Known ≤ 1073741824))), (23, .int .i64 f.Known), (22, .ptr 1 0 2)] (by kernel_rfl) ?_
      refine ov_nil ?_
      obtain rfl := si hs
      refine nrm_join (decide (f.Known ≤ 1073741824)) rfl ?_
      exact cut_of [2] [] (by kernel_rfl) (by kernel_rfl) (by kernel_rfl)
 ·subst hz; clear hs; have hs := hk1; clear hk1
  refine nrm_thenV (v_ret ?_)
  obtain rfl := si hs
  exact fin_ret (by kernel_rfl) (by kernel_rfl) (by kernel_rfl)
theorem w_greenbeltref16_Has (l : (List (List UInt8))) (s : (List UInt8)) (r : Bool) (hs : s_greenbeltref16_Has l s = some r) : FnA Tryz.prog 63 [.vs 1 (List.map EV.encS l), .str s] [] (.bool r) [] := by
 refine fnA_of_wp (N := 18) Tryz.func63 rfl rfl rfl fun cK0 => ?_
 unfold s_greenbeltref16_Has at hs
 refine v_same (ρ' := [(0, .vs 1 (List.map EV.encS l)), (1, .str s)]) rfl rfl ?_
 refine v_seq (vr_text (o_runs 1 [(4, .bool false)] (by kernel_rfl) ?_))
 refine ov_nil (nrm_thenV (v_seq (v_seq (vr_text (o_runs 1 [(5, .int .i64 0)] (by kernel_rfl) ?_)))))
 refine ov_nil (nrm_thenV ?_)
 obtain ⟨z1, hs, hk1⟩ := bind_some hs
 refine v_join (S := Unit) (fun u => z1 = .inr u) (fun u => []) (fun u => []) ?_ (fun v1 hz => ?_)
 ·refine v_block ?_
  refine v_fuel (S := Int) (fun u => [(0, .vs 1 (List.map EV.encS l)), (1, .str s), (5, .int .i64 u)]) (fun u => []) (s_greenbeltref16_Has_L1 l s) (fun _ => rfl) KK 0 hs (cut_of [0, 1, 5] [] (by kernel_rfl) (by kernel_rfl) (by kernel_rfl)) (fun K1 q1 hs => ?_)
  rw [s_greenbeltref16_Has_L1] at hs
  show WpV cK0 Tryz.prog none 18 _ _ [(0, .vs 1 (List.map EV.encS l)), (1, .str s), (5, .int .i64 q1)] [] []
  refine v_seq (v_seq (vr_text (o_runs 2 [(7, .vs 1 (List.map EV.encS l)), (6, .int .i64 q1)] (by kernel_rfl) ?_)))
  refine o_pure (v := .int .i64 (List.length l : Int)) (by kernel_rfl) (by kernel_rfl) (loc_lenVs (sz := 1) (els := (List.map EV.encS l)) (by kernel_rfl) (by kernel_rfl) (List.length_map ..)) ?_
  refine o_runs 1 [(9, .bool (decide (q1 < (List.length l : Int))))] (by kernel_rfl) ?_
  refine ov_nil (nrm_thenV ?_)
  refine v_cond (decide (q1 < (List.length l : Int))) (by kernel_rfl) (fun h1 => ?_) (fun h1 => ?_)
  ·replace hs := bif_t h1 hs
   refine v_skip (nrm_thenV (v_seq (v_block (v_seq (vr_text (o_runs 2 [(13, .int .i64 q1), (12, .vs 1 (List.map EV.encS l))] (by kernel_rfl) ?_))))))
   obtain ⟨x1, g1, hs⟩ := bind_some hs; obtain ⟨g1a, g1b, g1c⟩ := idx_some g1
   refine o_pure (v := .vp [.str x1] 0) (by kernel_rfl) (by kernel_rfl) (loc_indexVs (e := 9) (sz := 1) (k := .i64) (els := (List.map EV.encS l)) (cs := (EV.encS x1)) (by kernel_rfl) (by kernel_rfl) (by kernel_rfl) g1a (by rw [g1c]; exact map_get _ (by omega))) ?_
   refine o_runs 3 [(17, .bool (decide (x1 = s))), (16, .str s), (15, .str x1)] (by kernel_rfl) ?_
   refine ov_nil (nrm_thenV ?_)
   refine v_cond (decide (x1 = s)) (by kernel_rfl) (fun h2 => ?_) (fun h2 => ?_)
   ·replace hs := bif_t h2 hs
    refine v_seq (vr_text (o_runs 1 [(4, .bool true)] (by kernel_rfl) ?_))
    refine ov_nil (nrm_thenV (v_ret (ret_blkV (ret_thenV (ret_fuel ?_)))))
    refine ret_blkV (ret_join ?_)
    refine ret_thenV ?_
    obtain rfl := si hs
    replace hs := hk1
    obtain rfl := si hs
    exact fin_ret (by kernel_rfl) (by kernel_rfl) (by kernel_rfl)
   ·replace hs := bif_f h2 hs
    refine v_skip (nrm_blkV (nrm_thenV (vr_text (o_runs 3 [(5, .int .i64 (w64 (q1 + 1))), (11, .int .i64 (w64 (q1 + 1))), (10, .int .i64 q1)] (by kernel_rfl) ?_))))
    refine ov_nil (nrm_fuel (w64 (q1 + 1)) hs ?_)
    exact cut_of [0, 1, 5] [] (by kernel_rfl) (by kernel_rfl) (by kernel_rfl)
  ·replace hs := bif_f h1 hs
   refine v_exit (exit_thenV (exit_fuel ?_))
   refine exit_blkV ?_
   obtain rfl := si hs
   refine nrm_join () rfl ?_
   exact cut_of [] [] (by kernel_rfl) (by kernel_rfl) (by kernel_rfl)
 ·subst hz; clear hs; have hs := hk1; clear hk1
  refine nrm_thenV (v_seq (vr_text (o_runs 1 [(4, .bool false)] (by kernel_rfl) ?_)))
  refine ov_nil (nrm_thenV (v_ret ?_))
  obtain rfl := si hs
  exact fin_ret (by kernel_rfl) (by kernel_rfl) (by kernel_rfl)
theorem w_greenbeltref16_With (l : (List (List UInt8))) (s : (List UInt8)) (r : (List (List UInt8))) (hs : s_greenbeltref16_With l s = some r) : FnA Tryz.prog 50 [.vs 1 (List.map EV.encS l), .str s] [] (.vs 1 (List.map EV.encS r)) [] := by
 refine fnA_of_wp (N := 38) Tryz.func50 rfl rfl rfl fun cK0 => ?_
 unfold s_greenbeltref16_With at hs
 refine v_same (ρ' := [(0, .vs 1 (List.map EV.encS l)), (1, .str s)]) rfl rfl ?_
 refine v_seq (vr_text (o_runs 1 [(4, .nils)] (by kernel_rfl) ?_))
 refine ov_nil (nrm_thenV (v_seq (v_seq (vr_text (o_runs 2 [(8, .str s), (7, .vs 1 (List.map EV.encS l))] (by kernel_rfl) ?_)))))
 obtain ⟨y1, c1, hs⟩ := bind_some hs
 refine o_pure (v := .bool y1) (by kernel_rfl) (by kernel_rfl) (loc_gcall0 (callV_func hbv63 (by kernel_rfl)) (w_greenbeltref16_Has l s _ c1) (by kernel_rfl)) ?_
 refine ov_nil (nrm_thenV ?_)
 refine v_cond y1 (by kernel_rfl) (fun h1 => ?_) (fun h1 => ?_)
 ·replace hs := bif_t h1 hs
  refine v_seq (vr_text (o_runs 2 [(4, .vs 1 (List.map EV.encS l)), (10, .vs 1 (List.map EV.encS l))] (by kernel_rfl) ?_))
  refine ov_nil (nrm_thenV (v_ret (ret_thenV ?_)))
  obtain rfl := si hs
  exact fin_ret (by kernel_rfl) (by kernel_rfl) (by kernel_rfl)
 ·replace hs := bif_f h1 hs
  refine v_skip (nrm_thenV (v_seq (vr_text (o_runs 1 [(5, .int .i64 0)] (by kernel_rfl) ?_))))
  refine ov_nil (nrm_thenV (v_seq ?_))
  obtain ⟨z1, hs, hk1⟩ := bind_some hs
  refine v_join (S := Int) (fun u => u = z1) (fun u => [(0, .vs 1 (List.map EV.encS l)), (1, .str s), (5, .int .i64 u)]) (fun u => []) ?_ (fun v1 hz => ?_)
  ·refine v_block ?_
   refine v_fuel (S := Int) (fun u => [(0, .vs 1 (List.map EV.encS l)), (1, .str s), (5, .int .i64 u)]) (fun u => []) (s_greenbeltref16_With_L1 l s) (fun _ => rfl) KK 0 hs (cut_of [0, 1, 5] [] (by kernel_rfl) (by kernel_rfl) (by kernel_rfl)) (fun K1 q1 hs => ?_)
   rw [s_greenbeltref16_With_L1] at hs
   show WpV cK0 Tryz.prog none 38 _ _ [(0, .vs 1 (List.map EV.encS l)), (1, .str s), (5, .int .i64 q1)] [] []
   refine v_seq (v_seq ?_)
   obtain ⟨z2, hs, hk2⟩ := bind_some hs
   refine v_join (S := Bool) (fun u => u = z2) (fun u => [(0, .vs 1 (List.map EV.encS l)), (1, .str s), (5, .int .i64 q1), (22, .bool u)]) (fun u => []) ?_ (fun v2 hz => ?_)
   ·refine vr_text (o_runs 2 [(12, .vs 1 (List.map EV.encS l)), (11, .int .i64 q1)] (by kernel_rfl) ?_)
    refine o_pure (v := .int .i64 (List.length l : Int)) (by kernel_rfl) (by kernel_rfl) (loc_lenVs (sz := 1) (els := (List.map EV.encS l)) (by kernel_rfl) (by kernel_rfl) (List.length_map ..)) ?_
    refine o_runs 2 [(15, .bool (decide (q1 < (List.length l : Int)))), (14, .bool (decide (q1 < (List.length l : Int))))] (by kernel_rfl) ?_
    cases h2 : ((decide (q1 < (List.length l : Int))))
    ·replace hs := bif_f h2 hs
     refine o_runs 7 [(22, .bool false), (21, .no), (20, .no), (19, .no), (18, .no), (17, .no), (16, .no)] (by kernel_rfl) ?_
     refine ov_nil ?_
     obtain rfl := si hs
     refine nrm_join false rfl ?_
     exact cut_of [0, 1, 5, 22] [] (by kernel_rfl) (by kernel_rfl) (by kernel_rfl)
    ·replace hs := bif_t h2 hs
     refine o_runs 2 [(17, .int .i64 q1), (16, .vs 1 (List.map EV.encS l))] (by kernel_rfl) ?_
     obtain ⟨x1, g1, hs⟩ := bind_some hs; obtain ⟨g1a, g1b, g1c⟩ := idx_some g1
     refine o_pure (v := .vp [.str x1] 0) (by kernel_rfl) (by kernel_rfl) (loc_indexVs (e := 9) (sz := 1) (k := .i64) (els := (List.map EV.encS l)) (cs := (EV.encS x1)) (by kernel_rfl) (by kernel_rfl) (by kernel_rfl) g1a (by rw [g1c]; exact map_get _ (by omega))) ?_
     refine o_runs 4 [(22, .bool (Op.bytesLess x1 s)), (21, .bool (Op.bytesLess x1 s)), (20, .str s), (19, .str x1)] (by kernel_rfl) ?_
     refine ov_nil ?_
     obtain rfl := si hs
     refine nrm_join (Op.bytesLess x1 s) rfl ?_
     exact cut_of [0, 1, 5, 22] [] (by kernel_rfl) (by kernel_rfl) (by kernel_rfl)
   ·subst hz; clear hs; have hs := hk2; clear hk2
    refine nrm_thenV ?_
    refine v_cond v2 (by kernel_rfl) (fun h3 => ?_) (fun h3 => ?_)
    ·replace hs := bif_t h3 hs
     refine v_skip (nrm_thenV (v_block (vr_text (o_runs 3 [(5, .int .i64 (w64 (q1 + 1))), (24, .int .i64 (w64 (q1 + 1))), (23, .int .i64 q1)] (by kernel_rfl) ?_))))
     refine ov_nil (nrm_blkV (nrm_fuel (w64 (q1 + 1)) hs ?_))
     exact cut_of [0, 1, 5] [] (by kernel_rfl) (by kernel_rfl) (by kernel_rfl)
    ·replace hs := bif_f h3 hs
     refine v_exit (exit_thenV (exit_fuel ?_))
     refine exit_blkV ?_
     obtain rfl := si hs
     refine nrm_join q1 rfl ?_
     exact cut_of [0, 1, 5] [] (by kernel_rfl) (by kernel_rfl) (by kernel_rfl)
  ·subst hz; clear hs; have hs := hk1; clear hk1
   refine nrm_thenV (v_seq (vr_text (o_runs 1 [(6, .nils)] (by kernel_rfl) ?_)))
   refine ov_nil (nrm_thenV (v_seq (v_to _ _ (cut_nilRow 6 2000006 9 1 rfl (by kernel_rfl) (by kernel_rfl)) ?_)))
   refine v_draw mixedH (by kernel_rfl) ?_
   refine d_runs 3 0 [(27, .int .i64 v1), (26, .vs 1 (List.map EV.encS l)), (25, .sl 1 2000006 0 0 0)] (pfp 3 2) (by kernel_rfl) (by kernel_rfl) ?_
   obtain ⟨x2, g2, hs⟩ := bind_some hs; obtain ⟨g2a, g2b, g2c, g2d⟩ := cut_some g2
   refine d_pure (v := .vs 1 (List.map EV.encS x2)) 3 rfl rfl rfl rfl (by kernel_rfl) (by kernel_rfl) (loc_sliceVsT (e := 9) (sz := 1) (l := 0) (h := v1) (els := (List.map EV.encS l)) (by kernel_rfl) (by kernel_rfl) rfl ⟨.i64, by kernel_rfl⟩ g2a g2b (by simpa only [List.length_map] using g2c) (by rw [g2d, List.map_drop, List.map_take])) ?_
   obtain ⟨_, g3, hs⟩ := bind_some hs; replace g3 := grd_some g3
   refine d_loc (F := [(2000006, .row 9 1 0 (List.map EV.encS []))]) (R := []) (F' := [(2000006, .row 9 1 0 (List.map EV.encS x2))]) (v := .sl 1 2000006 ((x2).length) 0 ((x2).length)) 4 [2000006] [] rfl rfl rfl rfl (by kernel_rfl) (by kernel_rfl) (by kernel_rfl) (by kernel_rfl) (by kernel_rfl) (by kernel_rfl) (by kernel_rfl) (by kernel_rfl) (loc_appendT (e := 9) (sz := 1) (bytes := 16) (L := 0) (els := (List.map EV.encS [])) (ys := (List.map EV.encS x2)) (by kernel_rfl) (by kernel_rfl) (by first | exact List.length_map .. | rfl) (by have := Src.vs (sz := 1) (R := []) (List.map EV.encS x2); exact this) (map_ones EV.encS (fun _ => rfl) _) (map_lens EV.encS (fun _ => rfl) _) (by kernel_rfl) (by first | exact (List.map_append ..).symm | rfl | simp only [List.map_nil, List.nil_append]) (List.length_map ..) g3 (by omega)) ?_
   refine d_runh 2 5 [(31, .sl 1 31 1 0 1), (30, .str s)] [(31, .row 9 1 0 (List.map EV.encS [s])), (2000006, .row 9 1 0 (List.map EV.encS x2))] [⟨6, [31], []⟩, ⟨5, [], []⟩] (by kernel_rfl) (by kernel_rfl) ?_
   obtain ⟨_, g4, hs⟩ := bind_some hs; replace g4 := grd_some g4
   refine d_loc (F := [(2000006, .row 9 1 0 (List.map EV.encS x2))]) (R := [(31, .row 9 1 0 (List.map EV.encS [s]))]) (F' := [(2000006, .row 9 1 0 (List.map EV.encS (x2 ++ [s])))]) (v := .sl 1 2000006 (((x2 ++ [s])).length) 0 (((x2 ++ [s])).length)) 7 [2000006] [31] rfl rfl rfl rfl (by kernel_rfl) (by kernel_rfl) (by kernel_rfl) (by kernel_rfl) (by kernel_rfl) (by kernel_rfl) (by kernel_rfl) (by kernel_rfl) (loc_appendT (e := 9) (sz := 1) (bytes := 16) (L := (x2).length) (els := (List.map EV.encS x2)) (ys := (List.map EV.encS [s])) (by kernel_rfl) (by kernel_rfl) (by first | exact List.length_map .. | rfl) (.sl (t := 9) (fz := 0) (ys := (List.map EV.encS [s])) (by kernel_rfl) (by kernel_rfl)) (map_ones EV.encS (fun _ => rfl) _) (map_lens EV.encS (fun _ => rfl) _) (by kernel_rfl) (by first | exact (List.map_append ..).symm | rfl | simp only [List.map_nil, List.nil_append]) (List.length_map ..) g4 (by omega)) ?_
   refine d_runs 2 8 [(34, .int .i64 v1), (33, .vs 1 (List.map EV.encS l))] (pfp 2 9) (by kernel_rfl) (by kernel_rfl) ?_
   obtain ⟨x3, g5, hs⟩ := bind_some hs; obtain ⟨g5a, g5b, g5c, g5d⟩ := cut_some g5
   refine d_pure (v := .vs 1 (List.map EV.encS x3)) 10 rfl rfl rfl rfl (by kernel_rfl) (by kernel_rfl) (loc_sliceVsT (e := 9) (sz := 1) (l := v1) (h := (List.length l : Int)) (els := (List.map EV.encS l)) (by kernel_rfl) (by kernel_rfl) ⟨.i64, by kernel_rfl⟩ (by simp only [bndV, List.length_map]) g5a g5b (by simpa only [List.length_map] using g5c) (by rw [g5d, List.map_drop, List.map_take])) ?_
   obtain ⟨_, g6, hs⟩ := bind_some hs; replace g6 := grd_some g6
   refine d_loc (F := [(2000006, .row 9 1 0 (List.map EV.encS (x2 ++ [s])))]) (R := []) (F' := [(2000006, .row 9 1 0 (List.map EV.encS ((x2 ++ [s]) ++ x3)))]) (v := .sl 1 2000006 ((((x2 ++ [s]) ++ x3)).length) 0 ((((x2 ++ [s]) ++ x3)).length)) 11 [2000006] [] rfl rfl rfl rfl (by kernel_rfl) (by kernel_rfl) (by kernel_rfl) (by kernel_rfl) (by kernel_rfl) (by kernel_rfl) (by kernel_rfl) (by kernel_rfl) (loc_appendT (e := 9) (sz := 1) (bytes := 16) (L := ((x2 ++ [s])).length) (els := (List.map EV.encS (x2 ++ [s]))) (ys := (List.map EV.encS x3)) (by kernel_rfl) (by kernel_rfl) (by first | exact List.length_map .. | rfl) (by have := Src.vs (sz := 1) (R := []) (List.map EV.encS x3); exact this) (map_ones EV.encS (fun _ => rfl) _) (map_lens EV.encS (fun _ => rfl) _) (by kernel_rfl) (by first | exact (List.map_append ..).symm | rfl | simp only [List.map_nil, List.nil_append]) (List.length_map ..) g6 (by omega)) ?_
   refine d_runs 1 12 [(6, .sl 1 2000006 ((((x2 ++ [s]) ++ x3)).length) 0 ((((x2 ++ [s]) ++ x3)).length))] (pfp 1 12) (by kernel_rfl) (by kernel_rfl) ?_
   refine d_nil (by kernel_rfl) ?_
   refine nrm_thenV (v_seq (vr_text (o_runs 2 [(4, .sl 1 2000006 ((((x2 ++ [s]) ++ x3)).length) 0 ((((x2 ++ [s]) ++ x3)).length)), (37, .sl 1 2000006 ((((x2 ++ [s]) ++ x3)).length) 0 ((((x2 ++ [s]) ++ x3)).length))] (by kernel_rfl) ?_)))
   refine ov_nil (nrm_thenV (v_to _ [(2000006, .row 9 1 (((List.map EV.encS ((x2 ++ [s]) ++ x3))).length) (List.map EV.encS ((x2 ++ [s]) ++ x3))), (31, .row 9 1 0 (List.map EV.encS [s]))] (cut_freeze (F := [(2000006, .row 9 1 0 (List.map EV.encS ((x2 ++ [s]) ++ x3)))]) [2000006] rfl (by kernel_rfl) (by kernel_rfl)) ?_))
   refine v_to ((4, .vs 1 (List.map EV.encS ((x2 ++ [s]) ++ x3))) :: _) _ (cut_view (R := [(2000006, .row 9 1 (((List.map EV.encS ((x2 ++ [s]) ++ x3))).length) (List.map EV.encS ((x2 ++ [s]) ++ x3)))]) (ks := [2000006]) (by kernel_rfl) (by kernel_rfl) (.row (t := 9) (fz := (((List.map EV.encS ((x2 ++ [s]) ++ x3))).length)) (by kernel_rfl) (by first | (simp only [List.length_map, List.length_set]; done) | rfl))) ?_
   refine v_ret ?_
   obtain rfl := si hs
   exact fin_ret (by kernel_rfl) (by kernel_rfl) (by kernel_rfl)
theorem ws_greenbeltref16_Names (nF : Nat) (ih_greenbeltref16_Names : ∀ (e : Expr) (r : (List (List UInt8))), s_greenbeltref16_Names nF e = some r → FnA Tryz.prog 35 [.agg (enc_Expr e)] [] (.vs 1 (List.map EV.encS r)) []) (e : Expr) (r : (List (List UInt8))) (hs : s_greenbeltref16_Names (nF + 1) e = some r) : FnA Tryz.prog 35 [.agg (enc_Expr e)] [] (.vs 1 (List.map EV.encS r)) [] := by
 refine fnA_of_wp (N := 40) Tryz.func35 rfl rfl rfl fun cK0 => ?_
 rw [s_greenbeltref16_Names] at hs
 refine v_same (ρ' := [(0, .agg (enc_Expr e))]) rfl rfl ?_
 refine v_seq (vr_text (o_runh 2 [(2, .nils), (1, .ptr 1 0 0)] [(1, .box 28 [.int .i64 e.Op, .int .i64 e.N, .str e.S, .str e.Key, .vs 5 (encs_Expr e.Args)])] (by kernel_rfl) ?_))
 refine ov_nil (nrm_thenV (v_seq (vr_text (o_runs 1 [(3, .nils)] (by kernel_rfl) ?_))))
 refine ov_nil (nrm_thenV (v_seq (v_seq (vr_text (o_runs 3 [(9, .bool (decide (e.Op = 1))), (8, .int .i64 e.Op), (7, .ptr 1 0 0)] (by kernel_rfl) ?_)))))
 refine ov_nil (nrm_thenV ?_)
 obtain ⟨z1, hs, hk1⟩ := bind_some hs
 refine v_join (S := (List (List UInt8))) (fun u => u = z1) (fun u => [(1, .ptr 1 0 0), (3, .vs 1 (List.map EV.encS u))]) (fun u => [(1, .box 28 [.int .i64 e.Op, .int .i64 e.N, .str e.S, .str e.Key, .vs 5 (encs_Expr e.Args)])]) ?_ (fun v1 hz => ?_)
 ·refine v_cond (decide (e.Op = 1)) (by kernel_rfl) (fun h1 => ?_) (fun h1 => ?_)
  ·replace hs := bif_t h1 hs
   refine vr_text (o_runs 3 [(12, .str e.S), (11, .ptr 1 0 2), (10, .nils)] (by kernel_rfl) ?_)
   obtain ⟨y1, c1, hs⟩ := bind_some hs
   refine o_loc (F := []) (F' := []) (v := .vs 1 (List.map EV.encS y1)) [] (by kernel_rfl) (by kernel_rfl) rfl (by kernel_rfl) (loc_g (R := []) [.nils, .str e.S] [] (callV_func hbv50 (by kernel_rfl)) (w_greenbeltref16_With [] e.S _ c1) (.cons (.nils _) (.cons (.same _) (.nil))) (by kernel_rfl) (by kernel_rfl) (by kernel_rfl) (by kernel_rfl) (by kernel_rfl) (by kernel_rfl) (by kernel_rfl) (by kernel_rfl)) (by kernel_rfl) ?_
   refine o_runs 1 [(3, .vs 1 (List.map EV.encS y1))] (by kernel_rfl) ?_
   refine ov_nil ?_
   obtain rfl := si hs
   refine nrm_join y1 rfl ?_
   exact cut_of [1, 3] [1] (by kernel_rfl) (by kernel_rfl) (by kernel_rfl)
  ·replace hs := bif_f h1 hs
   refine v_skip ?_
   obtain rfl := si hs
   refine nrm_join [] rfl ?_
   exact Cut.trans (cut_view (t := 3) (v := .vs 1 []) [] [] rfl rfl (.nils 1)) (cut_of [1, 3] [1] (by kernel_rfl) (by kernel_rfl) (by kernel_rfl))
 ·subst hz; clear hs; have hs := hk1; clear hk1
  refine nrm_thenV (v_seq (v_seq (vr_text (o_runs 1 [(4, .int .i64 0)] (by kernel_rfl) ?_))))
  refine ov_nil (nrm_thenV ?_)
  obtain ⟨z2, hs, hk2⟩ := bind_some hs
  refine v_join (S := (List (List UInt8))) (fun u => u = z2) (fun u => [(3, .vs 1 (List.map EV.encS u))]) (fun u => []) ?_ (fun v2 hz => ?_)
  ·refine v_block ?_
   refine v_fuel (S := (List (List UInt8)) × Int) (fun u => [(1, .ptr 1 0 0), (3, .vs 1 (List.map EV.encS u.1)), (4, .int .i64 u.2)]) (fun u => [(1, .box 28 [.int .i64 e.Op, .int .i64 e.N, .str e.S, .str e.Key, .vs 5 (encs_Expr e.Args)])]) (s_greenbeltref16_Names_L1 (s_greenbeltref16_Names nF) e) (fun _ => rfl) KK (v1, 0) hs (cut_of [1, 3, 4] [1] (by kernel_rfl) (by kernel_rfl) (by kernel_rfl)) (fun K1 q1 hs => ?_)
   rw [s_greenbeltref16_Names_L1] at hs
   show WpV cK0 Tryz.prog none 40 _ _ [(1, .ptr 1 0 0), (3, .vs 1 (List.map EV.encS q1.1)), (4, .int .i64 q1.2)] [(1, .box 28 [.int .i64 e.Op, .int .i64 e.N, .str e.S, .str e.Key, .vs 5 (encs_Expr e.Args)])] []
   refine v_seq (v_seq (vr_text (o_runs 3 [(16, .vs 5 (encs_Expr e.Args)), (15, .ptr 1 0 4), (14, .int .i64 q1.2)] (by kernel_rfl) ?_)))
   refine o_pure (v := .int .i64 (List.length e.Args : Int)) (by kernel_rfl) (by kernel_rfl) (loc_lenVs (sz := 5) (els := (encs_Expr e.Args)) (by kernel_rfl) (by kernel_rfl) (by rw [encs_Expr_eq, List.length_map])) ?_
   refine o_runs 1 [(18, .bool (decide (q1.2 < (List.length e.Args : Int))))] (by kernel_rfl) ?_
   refine ov_nil (nrm_thenV ?_)
   refine v_cond (decide (q1.2 < (List.length e.Args : Int))) (by kernel_rfl) (fun h2 => ?_) (fun h2 => ?_)
   ·replace hs := bif_t h2 hs
    refine v_skip (nrm_thenV (v_seq (v_block (v_seq (vr_text (o_runs 3 [(23, .int .i64 q1.2), (22, .vs 5 (encs_Expr e.Args)), (21, .ptr 1 0 4)] (by kernel_rfl) ?_))))))
    obtain ⟨x1, g1, hs⟩ := bind_some hs; obtain ⟨g1a, g1b, g1c⟩ := idx_some g1
    refine o_pure (v := .vp (enc_Expr x1) 0) (by kernel_rfl) (by kernel_rfl) (loc_indexVs (e := 28) (sz := 5) (k := .i64) (els := (encs_Expr e.Args)) (cs := (enc_Expr x1)) (by kernel_rfl) (by kernel_rfl) (by kernel_rfl) g1a (by rw [g1c, encs_Expr_eq]; exact map_get _ (by omega))) ?_
    refine o_runs 1 [(25, .agg (enc_Expr x1))] (by kernel_rfl) ?_
    obtain ⟨y2, c2, hs⟩ := bind_some hs
    refine o_pure (v := .vs 1 (List.map EV.encS y2)) (by kernel_rfl) (by kernel_rfl) (loc_gcall0 (callV_func hbv35 (by kernel_rfl)) (ih_greenbeltref16_Names x1 _ c2) (by kernel_rfl)) ?_
    refine o_runs 1 [(5, .vs 1 (List.map EV.encS y2))] (by kernel_rfl) ?_
    refine ov_nil (nrm_thenV (v_seq (vr_text (o_runs 1 [(6, .int .i64 0)] (by kernel_rfl) ?_))))
    refine ov_nil (nrm_thenV ?_)
    obtain ⟨z3, hs, hk3⟩ := bind_some hs
    refine v_join (S := (List (List UInt8))) (fun u => u = z3) (fun u => [(1, .ptr 1 0 0), (3, .vs 1 (List.map EV.encS u)), (4, .int .i64 q1.2)]) (fun u => [(1, .box 28 [.int .i64 e.Op, .int .i64 e.N, .str e.S, .str e.Key, .vs 5 (encs_Expr e.Args)])]) ?_ (fun v3 hz => ?_)
    ·refine v_block ?_
     refine v_fuel (S := (List (List UInt8)) × Int) (fun u => [(1, .ptr 1 0 0), (3, .vs 1 (List.map EV.encS u.1)), (4, .int .i64 q1.2), (5, .vs 1 (List.map EV.encS y2)), (6, .int .i64 u.2)]) (fun u => [(1, .box 28 [.int .i64 e.Op, .int .i64 e.N, .str e.S, .str e.Key, .vs 5 (encs_Expr e.Args)])]) (s_greenbeltref16_Names_L2 y2) (fun _ => rfl) KK (q1.1, 0) hs (cut_of [1, 3, 4, 5, 6] [1] (by kernel_rfl) (by kernel_rfl) (by kernel_rfl)) (fun K2 q2 hs => ?_)
     rw [s_greenbeltref16_Names_L2] at hs
     show WpV cK0 Tryz.prog none 40 _ _ [(1, .ptr 1 0 0), (3, .vs 1 (List.map EV.encS q2.1)), (4, .int .i64 q1.2), (5, .vs 1 (List.map EV.encS y2)), (6, .int .i64 q2.2)] [(1, .box 28 [.int .i64 e.Op, .int .i64 e.N, .str e.S, .str e.Key, .vs 5 (encs_Expr e.Args)])] []
     refine v_seq (v_seq (vr_text (o_runs 2 [(28, .vs 1 (List.map EV.encS y2)), (27, .int .i64 q2.2)] (by kernel_rfl) ?_)))
     refine o_pure (v := .int .i64 (List.length y2 : Int)) (by kernel_rfl) (by kernel_rfl) (loc_lenVs (sz := 1) (els := (List.map EV.encS y2)) (by kernel_rfl) (by kernel_rfl) (List.length_map ..)) ?_
     refine o_runs 1 [(30, .bool (decide (q2.2 < (List.length y2 : Int))))] (by kernel_rfl) ?_
     refine ov_nil (nrm_thenV ?_)
     refine v_cond (decide (q2.2 < (List.length y2 : Int))) (by kernel_rfl) (fun h3 => ?_) (fun h3 => ?_)
     ·replace hs := bif_t h3 hs
      refine v_skip (nrm_thenV (v_seq (v_block (vr_text (o_runs 3 [(35, .int .i64 q2.2), (34, .vs 1 (List.map EV.encS y2)), (33, .vs 1 (List.map EV.encS q2.1))] (by kernel_rfl) ?_)))))
      obtain ⟨x2, g2, hs⟩ := bind_some hs; obtain ⟨g2a, g2b, g2c⟩ := idx_some g2
      refine o_pure (v := .vp [.str x2] 0) (by kernel_rfl) (by kernel_rfl) (loc_indexVs (e := 9) (sz := 1) (k := .i64) (els := (List.map EV.encS y2)) (cs := (EV.encS x2)) (by kernel_rfl) (by kernel_rfl) (by kernel_rfl) g2a (by rw [g2c]; exact map_get _ (by omega))) ?_
      refine o_runs 1 [(37, .str x2)] (by kernel_rfl) ?_
      obtain ⟨y3, c3, hs⟩ := bind_some hs
      refine o_pure (v := .vs 1 (List.map EV.encS y3)) (by kernel_rfl) (by kernel_rfl) (loc_gcall0 (callV_func hbv50 (by kernel_rfl)) (w_greenbeltref16_With q2.1 x2 _ c3) (by kernel_rfl)) ?_
      refine o_runs 1 [(3, .vs 1 (List.map EV.encS y3))] (by kernel_rfl) ?_
      refine ov_nil (nrm_blkV (nrm_thenV (vr_text (o_runs 3 [(6, .int .i64 (w64 (q2.2 + 1))), (32, .int .i64 (w64 (q2.2 + 1))), (31, .int .i64 q2.2)] (by kernel_rfl) ?_))))
      refine ov_nil (nrm_fuel (y3, (w64 (q2.2 + 1))) hs ?_)
      exact cut_of [1, 3, 4, 5, 6] [1] (by kernel_rfl) (by kernel_rfl) (by kernel_rfl)
     ·replace hs := bif_f h3 hs
      refine v_exit (exit_thenV (exit_fuel ?_))
      refine exit_blkV ?_
      obtain rfl := si hs
      refine nrm_join q2.1 rfl ?_
      exact cut_of [1, 3, 4] [1] (by kernel_rfl) (by kernel_rfl) (by kernel_rfl)
    ·subst hz; clear hs; have hs := hk3; clear hk3
     refine nrm_blkV (nrm_thenV (vr_text (o_runs 3 [(4, .int .i64 (w64 (q1.2 + 1))), (20, .int .i64 (w64 (q1.2 + 1))), (19, .int .i64 q1.2)] (by kernel_rfl) ?_)))
     refine ov_nil (nrm_fuel (v3, (w64 (q1.2 + 1))) hs ?_)
     exact cut_of [1, 3, 4] [1] (by kernel_rfl) (by kernel_rfl) (by kernel_rfl)
   ·replace hs := bif_f h2 hs
    refine v_exit (exit_thenV (exit_fuel ?_))
    refine exit_blkV ?_
    obtain rfl := si hs
    refine nrm_join q1.1 rfl ?_
    exact cut_of [3] [] (by kernel_rfl) (by kernel_rfl) (by kernel_rfl)
  ·subst hz; clear hs; have hs := hk2; clear hk2
   refine nrm_thenV (v_seq (vr_text (o_runs 2 [(2, .vs 1 (List.map EV.encS v2)), (39, .vs 1 (List.map EV.encS v2))] (by kernel_rfl) ?_)))
   refine ov_nil (nrm_thenV (v_ret ?_))
   obtain rfl := si hs
   exact fin_ret (by kernel_rfl) (by kernel_rfl) (by kernel_rfl)
theorem wr_greenbeltref16_Names : ∀ nF : Nat, (∀ (e : Expr) (r : (List (List UInt8))), s_greenbeltref16_Names nF e = some r → FnA Tryz.prog 35 [.agg (enc_Expr e)] [] (.vs 1 (List.map EV.encS r)) [])
 | 0 => fun e r hs => by rw [s_greenbeltref16_Names] at hs; cases hs
 | nF + 1 => fun e r hs => ws_greenbeltref16_Names nF (wr_greenbeltref16_Names nF) e r hs
theorem w_greenbeltref16_Names (nF : Nat) (e : Expr) (r : (List (List UInt8))) (hs : s_greenbeltref16_Names nF e = some r) : FnA Tryz.prog 35 [.agg (enc_Expr e)] [] (.vs 1 (List.map EV.encS r)) [] := (wr_greenbeltref16_Names nF) e r hs
theorem w_greenbeltref44_Has (f : Fact) (day : Int) (r : Bool) (hs : s_greenbeltref44_Has f day = some r) : FnA Tryz.prog 64 [.agg (enc_Fact f), .int .i64 day] [] (.bool r) [] := by
 refine fnA_of_wp (N := 24) Tryz.func64 rfl rfl rfl fun cK0 => ?_
 unfold s_greenbeltref44_Has at hs
 refine v_same (ρ' := [(0, .agg (enc_Fact f)), (1, .int .i64 day)]) rfl rfl ?_
 refine v_seq (vr_text (o_runh 2 [(4, .bool false), (2, .ptr 2 0 0)] [(2, .box 49 [.str f.Key, .int .i64 f.Value, .int .i64 f.From, .int .i64 f.Until, .int .i64 f.Known])] (by kernel_rfl) ?_))
 refine ov_nil (nrm_thenV (v_seq ?_))
 obtain ⟨z1, hs, hk1⟩ := bind_some hs
 refine v_join (S := Bool) (fun u => u = z1) (fun u => [(4, .bool u)]) (fun u => []) ?_ (fun v1 hz => ?_)
 ·refine vr_text (o_runs 5 [(9, .bool (decide (f.From ≤ day))), (8, .bool (decide (f.From ≤ day))), (7, .int .i64 day), (6, .int .i64 f.From), (5, .ptr 2 0 2)] (by kernel_rfl) ?_)
  cases h1 : ((decide (f.From ≤ day)))
  ·replace hs := bif_f h1 hs
   refine o_runs 15 [(4, .bool false), (23, .bool false), (22, .no), (21, .no), (20, .no), (19, .no), (18, .no), (17, .no), (16, .no), (15, .no), (14, .no), (13, .bool false), (12, .bool false), (11, .no), (10, .no)] (by kernel_rfl) ?_
   refine ov_nil ?_
   obtain rfl := si hs
   refine nrm_join false rfl ?_
   exact cut_of [4] [] (by kernel_rfl) (by kernel_rfl) (by kernel_rfl)
  ·replace hs := bif_t h1 hs
   refine o_runs 4 [(13, .bool (decide (day ≤ 1073741824))), (12, .bool (decide (day ≤ 1073741824))), (11, .bool (decide (day ≤ 1073741824))), (10, .int .i64 day)] (by kernel_rfl) ?_
   cases h2 : ((decide (day ≤ 1073741824)))
   ·replace hs := bif_f h2 hs
    refine o_runs 11 [(4, .bool false), (23, .bool false), (22, .no), (21, .no), (20, .no), (19, .no), (18, .no), (17, .no), (16, .no), (15, .no), (14, .no)] (by kernel_rfl) ?_
    refine ov_nil ?_
    obtain rfl := si hs
    refine nrm_join false rfl ?_
    exact cut_of [4] [] (by kernel_rfl) (by kernel_rfl) (by kernel_rfl)
   ·replace hs := bif_t h2 hs
    refine o_runs 4 [(17, .bool (decide (f.Until = 0))), (16, .bool (decide (f.Until = 0))), (15, .int .i64 f.Until), (14, .ptr 2 0 3)] (by kernel_rfl) ?_
    cases h3 : ((decide (f.Until = 0)))
    ·replace hs := bif_f h3 hs
     refine o_runs 7 [(4, .bool (decide (day < f.Until))), (23, .bool (decide (day < f.Until))), (22, .bool (decide (day < f.Until))), (21, .bool (decide (day < f.Until))), (20, .int .i64 f.Until), (19, .ptr 2 0 3), (18, .int .i64 day)] (by kernel_rfl) ?_
     refine ov_nil ?_
     obtain rfl := si hs
     refine nrm_join (decide (day < f.Until)) rfl ?_
     exact cut_of [4] [] (by kernel_rfl) (by kernel_rfl) (by kernel_rfl)
    ·replace hs := bif_t h3 hs
     refine o_runs 7 [(4, .bool true), (23, .bool true), (22, .bool true), (21, .no), (20, .no), (19, .no), (18, .no)] (by kernel_rfl) ?_
     refine ov_nil ?_
     obtain rfl := si hs
     refine nrm_join true rfl ?_
     exact cut_of [4] [] (by kernel_rfl) (by kernel_rfl) (by kernel_rfl)
 ·subst hz; clear hs; have hs := hk1; clear hk1
  refine nrm_thenV (v_ret ?_)
  obtain rfl := si hs
  exact fin_ret (by kernel_rfl) (by kernel_rfl) (by kernel_rfl)
theorem w_greenbeltref44_counts (base : (List Fact)) (key : (List UInt8)) (day : Int) (known : Int) (r : Int) (hs : s_greenbeltref44_counts base key day known = some r) : FnA Tryz.prog 51 [.vs 5 (List.map enc_Fact base), .str key, .int .i64 day, .int .i64 known] [] (.int .i64 r) [] := by
 refine fnA_of_wp (N := 43) Tryz.func51 rfl rfl rfl fun cK0 => ?_
 unfold s_greenbeltref44_counts at hs
 refine v_same (ρ' := [(0, .vs 5 (List.map enc_Fact base)), (1, .str key), (2, .int .i64 day), (3, .int .i64 known)]) rfl rfl ?_
 refine v_seq (vr_text (o_runs 1 [(8, .int .i64 0)] (by kernel_rfl) ?_))
 refine ov_nil (nrm_thenV (v_seq (vr_text (o_runs 1 [(9, .int .i64 (-1))] (by kernel_rfl) ?_))))
 refine ov_nil (nrm_thenV (v_seq (v_seq (vr_text (o_runs 1 [(10, .int .i64 0)] (by kernel_rfl) ?_)))))
 refine ov_nil (nrm_thenV ?_)
 obtain ⟨z1, hs, hk1⟩ := bind_some hs
 refine v_join (S := Int) (fun u => u = z1) (fun u => [(9, .int .i64 u)]) (fun u => []) ?_ (fun v1 hz => ?_)
 ·refine v_block ?_
  refine v_fuel (S := Int × Int) (fun u => [(0, .vs 5 (List.map enc_Fact base)), (1, .str key), (2, .int .i64 day), (3, .int .i64 known), (9, .int .i64 u.1), (10, .int .i64 u.2)]) (fun u => []) (s_greenbeltref44_counts_L1 base key day known) (fun _ => rfl) KK ((-1), 0) hs (cut_of [0, 1, 2, 3, 9, 10] [] (by kernel_rfl) (by kernel_rfl) (by kernel_rfl)) (fun K1 q1 hs => ?_)
  rw [s_greenbeltref44_counts_L1] at hs
  show WpV cK0 Tryz.prog none 43 _ _ [(0, .vs 5 (List.map enc_Fact base)), (1, .str key), (2, .int .i64 day), (3, .int .i64 known), (9, .int .i64 q1.1), (10, .int .i64 q1.2)] [] []
  refine v_seq (v_seq (vr_text (o_runs 2 [(12, .vs 5 (List.map enc_Fact base)), (11, .int .i64 q1.2)] (by kernel_rfl) ?_)))
  refine o_pure (v := .int .i64 (List.length base : Int)) (by kernel_rfl) (by kernel_rfl) (loc_lenVs (sz := 5) (els := (List.map enc_Fact base)) (by kernel_rfl) (by kernel_rfl) (List.length_map ..)) ?_
  refine o_runs 1 [(14, .bool (decide (q1.2 < (List.length base : Int))))] (by kernel_rfl) ?_
  refine ov_nil (nrm_thenV ?_)
  refine v_cond (decide (q1.2 < (List.length base : Int))) (by kernel_rfl) (fun h1 => ?_) (fun h1 => ?_)
  ·replace hs := bif_t h1 hs
   refine v_skip (nrm_thenV (v_seq (v_block (v_seq ?_))))
   obtain ⟨z2, hs, hk2⟩ := bind_some hs
   refine v_join (S := Bool) (fun u => u = z2) (fun u => [(0, .vs 5 (List.map enc_Fact base)), (1, .str key), (2, .int .i64 day), (3, .int .i64 known), (9, .int .i64 q1.1), (10, .int .i64 q1.2), (40, .bool u)]) (fun u => []) ?_ (fun v2 hz => ?_)
   ·refine vr_text (o_runs 2 [(18, .int .i64 q1.2), (17, .vs 5 (List.map enc_Fact base))] (by kernel_rfl) ?_)
    obtain ⟨x1, g1, hs⟩ := bind_some hs; obtain ⟨g1a, g1b, g1c⟩ := idx_some g1
    refine o_pure (v := .vp (enc_Fact x1) 0) (by kernel_rfl) (by kernel_rfl) (loc_indexVs (e := 49) (sz := 5) (k := .i64) (els := (List.map enc_Fact base)) (cs := (enc_Fact x1)) (by kernel_rfl) (by kernel_rfl) (by kernel_rfl) g1a (by rw [g1c]; exact map_get _ (by omega))) ?_
    refine o_runs 5 [(24, .bool (decide (x1.Key = key))), (23, .bool (decide (x1.Key = key))), (22, .str key), (21, .str x1.Key), (20, .vp (enc_Fact x1) 0)] (by kernel_rfl) ?_
    cases h2 : ((decide (x1.Key = key)))
    ·replace hs := bif_f h2 hs
     refine o_runs 16 [(40, .bool false), (39, .no), (38, .no), (37, .no), (36, .no), (35, .no), (34, .no), (33, .bool false), (32, .bool false), (31, .no), (30, .no), (29, .no), (28, .no), (27, .no), (26, .no), (25, .no)] (by kernel_rfl) ?_
     refine ov_nil ?_
     obtain rfl := si hs
     refine nrm_join false rfl ?_
     exact cut_of [0, 1, 2, 3, 9, 10, 40] [] (by kernel_rfl) (by kernel_rfl) (by kernel_rfl)
    ·replace hs := bif_t h2 hs
     refine o_runs 2 [(26, .int .i64 q1.2), (25, .vs 5 (List.map enc_Fact base))] (by kernel_rfl) ?_
     obtain ⟨x2, g2, hs⟩ := bind_some hs; obtain ⟨g2a, g2b, g2c⟩ := idx_some g2
     refine o_pure (v := .vp (enc_Fact x2) 0) (by kernel_rfl) (by kernel_rfl) (loc_indexVs (e := 49) (sz := 5) (k := .i64) (els := (List.map enc_Fact base)) (cs := (enc_Fact x2)) (by kernel_rfl) (by kernel_rfl) (by kernel_rfl) g2a (by rw [g2c]; exact map_get _ (by omega))) ?_
     refine o_runs 6 [(33, .bool (decide (x2.Known ≤ known))), (32, .bool (decide (x2.Known ≤ known))), (31, .bool (decide (x2.Known ≤ known))), (30, .int .i64 known), (29, .int .i64 x2.Known), (28, .vp (enc_Fact x2) 4)] (by kernel_rfl) ?_
     cases h3 : ((decide (x2.Known ≤ known)))
     ·replace hs := bif_f h3 hs
      refine o_runs 7 [(40, .bool false), (39, .no), (38, .no), (37, .no), (36, .no), (35, .no), (34, .no)] (by kernel_rfl) ?_
      refine ov_nil ?_
      obtain rfl := si hs
      refine nrm_join false rfl ?_
      exact cut_of [0, 1, 2, 3, 9, 10, 40] [] (by kernel_rfl) (by kernel_rfl) (by kernel_rfl)
     ·replace hs := bif_t h3 hs
      refine o_runs 2 [(35, .int .i64 q1.2), (34, .vs 5 (List.map enc_Fact base))] (by kernel_rfl) ?_
      obtain ⟨x3, g3, hs⟩ := bind_some hs; obtain ⟨g3a, g3b, g3c⟩ := idx_some g3
      refine o_pure (v := .vp (enc_Fact x3) 0) (by kernel_rfl) (by kernel_rfl) (loc_indexVs (e := 49) (sz := 5) (k := .i64) (els := (List.map enc_Fact base)) (cs := (enc_Fact x3)) (by kernel_rfl) (by kernel_rfl) (by kernel_rfl) g3a (by rw [g3c]; exact map_get _ (by omega))) ?_
      refine o_runs 2 [(38, .int .i64 day), (37, .agg (enc_Fact x3))] (by kernel_rfl) ?_
      obtain ⟨y1, c1, hs⟩ := bind_some hs
      refine o_pure (v := .bool y1) (by kernel_rfl) (by kernel_rfl) (loc_gcall0 (callV_func hbv64 (by kernel_rfl)) (w_greenbeltref44_Has x3 day _ c1) (by kernel_rfl)) ?_
      refine o_runs 1 [(40, .bool y1)] (by kernel_rfl) ?_
      refine ov_nil ?_
      obtain rfl := si hs
      refine nrm_join y1 rfl ?_
      exact cut_of [0, 1, 2, 3, 9, 10, 40] [] (by kernel_rfl) (by kernel_rfl) (by kernel_rfl)
   ·subst hz; clear hs; have hs := hk2; clear hk2
    refine nrm_thenV ?_
    obtain ⟨z3, hs, hk3⟩ := bind_some hs
    refine v_join (S := Int) (fun u => u = z3) (fun u => [(0, .vs 5 (List.map enc_Fact base)), (1, .str key), (2, .int .i64 day), (3, .int .i64 known), (9, .int .i64 u), (10, .int .i64 q1.2)]) (fun u => []) ?_ (fun v3 hz => ?_)
    ·refine v_cond v2 (by kernel_rfl) (fun h4 => ?_) (fun h4 => ?_)
     ·replace hs := bif_t h4 hs
      refine vr_text (o_runs 2 [(9, .int .i64 q1.2), (41, .int .i64 q1.2)] (by kernel_rfl) ?_)
      refine ov_nil ?_
      obtain rfl := si hs
      refine nrm_join q1.2 rfl ?_
      exact cut_of [0, 1, 2, 3, 9, 10] [] (by kernel_rfl) (by kernel_rfl) (by kernel_rfl)
     ·replace hs := bif_f h4 hs
      refine v_skip ?_
      obtain rfl := si hs
      refine nrm_join q1.1 rfl ?_
      exact cut_of [0, 1, 2, 3, 9, 10] [] (by kernel_rfl) (by kernel_rfl) (by kernel_rfl)
    ·subst hz; clear hs; have hs := hk3; clear hk3
     refine nrm_blkV (nrm_thenV (vr_text (o_runs 3 [(10, .int .i64 (w64 (q1.2 + 1))), (16, .int .i64 (w64 (q1.2 + 1))), (15, .int .i64 q1.2)] (by kernel_rfl) ?_)))
     refine ov_nil (nrm_fuel (v3, (w64 (q1.2 + 1))) hs ?_)
     exact cut_of [0, 1, 2, 3, 9, 10] [] (by kernel_rfl) (by kernel_rfl) (by kernel_rfl)
  ·replace hs := bif_f h1 hs
   refine v_exit (exit_thenV (exit_fuel ?_))
   refine exit_blkV ?_
   obtain rfl := si hs
   refine nrm_join q1.1 rfl ?_
   exact cut_of [9] [] (by kernel_rfl) (by kernel_rfl) (by kernel_rfl)
 ·subst hz; clear hs; have hs := hk1; clear hk1
  refine nrm_thenV (v_seq (vr_text (o_runs 2 [(8, .int .i64 v1), (42, .int .i64 v1)] (by kernel_rfl) ?_)))
  refine ov_nil (nrm_thenV (v_ret ?_))
  obtain rfl := si hs
  exact fin_ret (by kernel_rfl) (by kernel_rfl) (by kernel_rfl)
theorem w_greenbeltref44_At (base : (List Fact)) (key : (List UInt8)) (day : Int) (known : Int) (r : Int × Bool) (hs : s_greenbeltref44_At base key day known = some r) : FnA Tryz.prog 36 [.vs 5 (List.map enc_Fact base), .str key, .int .i64 day, .int .i64 known] [] (.tup [.int .i64 r.1, .bool r.2]) [] := by
 refine fnA_of_wp (N := 34) Tryz.func36 rfl rfl rfl fun cK0 => ?_
 unfold s_greenbeltref44_At at hs
 refine v_same (ρ' := [(0, .vs 5 (List.map enc_Fact base)), (1, .str key), (2, .int .i64 day), (3, .int .i64 known)]) rfl rfl ?_
 refine v_seq (vr_text (o_runs 2 [(9, .bool false), (8, .int .i64 0)] (by kernel_rfl) ?_))
 refine ov_nil (nrm_thenV (v_seq (v_seq ?_)))
 obtain ⟨z1, hs, hk1⟩ := bind_some hs
 refine v_join (S := Bool) (fun u => u = z1) (fun u => [(0, .vs 5 (List.map enc_Fact base)), (1, .str key), (2, .int .i64 day), (3, .int .i64 known), (21, .bool u)]) (fun u => []) ?_ (fun v1 hz => ?_)
 ·refine vr_text (o_runs 1 [(11, .vs 5 (List.map enc_Fact base))] (by kernel_rfl) ?_)
  obtain ⟨y1, c1, hs⟩ := bind_some hs
  refine o_pure (v := .bool y1) (by kernel_rfl) (by kernel_rfl) (loc_gcall0 (callV_func hbv29 (by kernel_rfl)) (w_greenbeltref44_Right base _ c1) (by kernel_rfl)) ?_
  refine o_runs 2 [(14, .bool (!y1)), (13, .bool (!y1))] (by kernel_rfl) ?_
  cases h1 : ((!y1))
  ·replace hs := bif_f h1 hs
   refine o_runs 4 [(18, .bool (decide (day < 0))), (17, .bool (decide (day < 0))), (16, .bool (decide (day < 0))), (15, .int .i64 day)] (by kernel_rfl) ?_
   cases h2 : ((decide (day < 0)))
   ·replace hs := bif_f h2 hs
    refine o_runs 3 [(21, .bool (decide (day > 1073741824))), (20, .bool (decide (day > 1073741824))), (19, .int .i64 day)] (by kernel_rfl) ?_
    refine ov_nil ?_
    obtain rfl := si hs
    refine nrm_join (decide (day > 1073741824)) rfl ?_
    exact cut_of [0, 1, 2, 3, 21] [] (by kernel_rfl) (by kernel_rfl) (by kernel_rfl)
   ·replace hs := bif_t h2 hs
    refine o_runs 3 [(21, .bool true), (20, .no), (19, .no)] (by kernel_rfl) ?_
    refine ov_nil ?_
    obtain rfl := si hs
    refine nrm_join true rfl ?_
    exact cut_of [0, 1, 2, 3, 21] [] (by kernel_rfl) (by kernel_rfl) (by kernel_rfl)
  ·replace hs := bif_t h1 hs
   refine o_runs 7 [(21, .bool true), (20, .no), (19, .no), (18, .bool true), (17, .bool true), (16, .no), (15, .no)] (by kernel_rfl) ?_
   refine ov_nil ?_
   obtain rfl := si hs
   refine nrm_join true rfl ?_
   exact cut_of [0, 1, 2, 3, 21] [] (by kernel_rfl) (by kernel_rfl) (by kernel_rfl)
 ·subst hz; clear hs; have hs := hk1; clear hk1
  refine nrm_thenV ?_
  refine v_cond v1 (by kernel_rfl) (fun h3 => ?_) (fun h3 => ?_)
  ·replace hs := bif_t h3 hs
   refine v_seq (vr_text (o_runs 2 [(9, .bool false), (8, .int .i64 0)] (by kernel_rfl) ?_))
   refine ov_nil (nrm_thenV (v_ret (ret_thenV ?_)))
   obtain rfl := si hs
   exact fin_ret (by kernel_rfl) (by kernel_rfl) (by kernel_rfl)
  ·replace hs := bif_f h3 hs
   refine v_skip (nrm_thenV (v_seq (vr_text (o_runs 4 [(25, .int .i64 known), (24, .int .i64 day), (23, .str key), (22, .vs 5 (List.map enc_Fact base))] (by kernel_rfl) ?_))))
   obtain ⟨y2, c2, hs⟩ := bind_some hs
   refine o_pure (v := .int .i64 y2) (by kernel_rfl) (by kernel_rfl) (loc_gcall0 (callV_func hbv51 (by kernel_rfl)) (w_greenbeltref44_counts base key day known _ c2) (by kernel_rfl)) ?_
   refine o_runs 1 [(10, .int .i64 y2)] (by kernel_rfl) ?_
   refine ov_nil (nrm_thenV (v_seq (v_seq (vr_text (o_runs 2 [(28, .bool (decide (y2 < 0))), (27, .int .i64 y2)] (by kernel_rfl) ?_)))))
   refine ov_nil (nrm_thenV ?_)
   refine v_cond (decide (y2 < 0)) (by kernel_rfl) (fun h4 => ?_) (fun h4 => ?_)
   ·replace hs := bif_t h4 hs
    refine v_seq (vr_text (o_runs 2 [(9, .bool false), (8, .int .i64 0)] (by kernel_rfl) ?_))
    refine ov_nil (nrm_thenV (v_ret (ret_thenV ?_)))
    obtain rfl := si hs
    exact fin_ret (by kernel_rfl) (by kernel_rfl) (by kernel_rfl)
   ·replace hs := bif_f h4 hs
    refine v_skip (nrm_thenV (v_seq (vr_text (o_runs 2 [(30, .int .i64 y2), (29, .vs 5 (List.map enc_Fact base))] (by kernel_rfl) ?_))))
    obtain ⟨x1, g1, hs⟩ := bind_some hs; obtain ⟨g1a, g1b, g1c⟩ := idx_some g1
    refine o_pure (v := .vp (enc_Fact x1) 0) (by kernel_rfl) (by kernel_rfl) (loc_indexVs (e := 49) (sz := 5) (k := .i64) (els := (List.map enc_Fact base)) (cs := (enc_Fact x1)) (by kernel_rfl) (by kernel_rfl) (by kernel_rfl) g1a (by rw [g1c]; exact map_get _ (by omega))) ?_
    refine o_runs 4 [(9, .bool true), (8, .int .i64 x1.Value), (33, .int .i64 x1.Value), (32, .vp (enc_Fact x1) 1)] (by kernel_rfl) ?_
    refine ov_nil (nrm_thenV (v_ret ?_))
    obtain rfl := si hs
    exact fin_ret (by kernel_rfl) (by kernel_rfl) (by kernel_rfl)
theorem w_greenbeltref45_Ask (base : (List Fact)) (f : Formula) (known : Int) (r : (List Asked)) (hs : s_greenbeltref45_Ask base f known = some r) : FnA Tryz.prog 15 [.vs 5 (List.map enc_Fact base), .agg (enc_Formula f), .int .i64 known] [] (.vs 4 (List.map enc_Asked r)) [] := by
 refine fnA_of_wp (N := 46) Tryz.func15 rfl rfl rfl fun cK0 => ?_
 unfold s_greenbeltref45_Ask at hs
 refine v_same (ρ' := [(0, .vs 5 (List.map enc_Fact base)), (1, .agg (enc_Formula f)), (2, .int .i64 known)]) rfl rfl ?_
 refine v_seq (vr_text (o_runh 2 [(6, .nils), (4, .ptr 4 0 0)] [(4, .box 31 [.int .i64 f.Id, .int .i64 f.Day, .int .i64 f.Known, .int .i64 f.Body.Op, .int .i64 f.Body.N, .str f.Body.S, .str f.Body.Key, .vs 5 (encs_Expr f.Body.Args), .int .i64 f.Result, .vs 4 (List.map enc_Asked f.Asked)])] (by kernel_rfl) ?_))
 refine ov_nil (nrm_thenV (v_seq (vr_text (o_runs 2 [(13, .agg (enc_Expr f.Body)), (12, .ptr 4 0 3)] (by kernel_rfl) ?_))))
 obtain ⟨y1, c1, hs⟩ := bind_some hs
 refine o_pure (v := .vs 1 (List.map EV.encS y1)) (by kernel_rfl) (by kernel_rfl) (loc_gcall0 (callV_func hbv35 (by kernel_rfl)) (w_greenbeltref16_Names KK f.Body _ c1) (by kernel_rfl)) ?_
 refine o_runs 1 [(7, .vs 1 (List.map EV.encS y1))] (by kernel_rfl) ?_
 refine ov_nil (nrm_thenV (v_seq (vr_text (o_runs 1 [(8, .nils)] (by kernel_rfl) ?_))))
 refine ov_nil (nrm_thenV (v_seq (v_seq (vr_text (o_runs 1 [(9, .int .i64 0)] (by kernel_rfl) ?_)))))
 refine ov_nil (nrm_thenV ?_)
 obtain ⟨z1, hs, hk1⟩ := bind_some hs
 refine v_join (S := (List Asked)) (fun u => u = z1) (fun u => [(8, .sl 4 2000008 ((u).length) 0 ((u).length))]) (fun u => [(2000008, .row 52 4 0 (List.map enc_Asked u))]) ?_ (fun v1 hz => ?_)
 ·refine v_block ?_
  refine v_fuel (S := Int × (List Asked)) (fun u => [(0, .vs 5 (List.map enc_Fact base)), (2, .int .i64 known), (4, .ptr 4 0 0), (7, .vs 1 (List.map EV.encS y1)), (8, .sl 4 2000008 ((u.2).length) 0 ((u.2).length)), (9, .int .i64 u.1)]) (fun u => [(4, .box 31 [.int .i64 f.Id, .int .i64 f.Day, .int .i64 f.Known, .int .i64 f.Body.Op, .int .i64 f.Body.N, .str f.Body.S, .str f.Body.Key, .vs 5 (encs_Expr f.Body.Args), .int .i64 f.Result, .vs 4 (List.map enc_Asked f.Asked)]), (2000008, .row 52 4 0 (List.map enc_Asked u.2))]) (s_greenbeltref45_Ask_L1 base f known y1) (fun _ => rfl) KK (0, []) hs (Cut.trans (cut_nilRow 8 2000008 52 4 rfl (by kernel_rfl) (by kernel_rfl)) (cut_of [0, 2, 4, 7, 8, 9] [4, 2000008] (by kernel_rfl) (by kernel_rfl) (by kernel_rfl))) (fun K1 q1 hs => ?_)
  rw [s_greenbeltref45_Ask_L1] at hs
  show WpV cK0 Tryz.prog none 46 _ _ [(0, .vs 5 (List.map enc_Fact base)), (2, .int .i64 known), (4, .ptr 4 0 0), (7, .vs 1 (List.map EV.encS y1)), (8, .sl 4 2000008 ((q1.2).length) 0 ((q1.2).length)), (9, .int .i64 q1.1)] [(4, .box 31 [.int .i64 f.Id, .int .i64 f.Day, .int .i64 f.Known, .int .i64 f.Body.Op, .int .i64 f.Body.N, .str f.Body.S, .str f.Body.Key, .vs 5 (encs_Expr f.Body.Args), .int .i64 f.Result, .vs 4 (List.map enc_Asked f.Asked)]), (2000008, .row 52 4 0 (List.map enc_Asked q1.2))] []
  refine v_seq (v_seq (vr_text (o_runs 2 [(16, .vs 1 (List.map EV.encS y1)), (15, .int .i64 q1.1)] (by kernel_rfl) ?_)))
  refine o_pure (v := .int .i64 (List.length y1 : Int)) (by kernel_rfl) (by kernel_rfl) (loc_lenVs (sz := 1) (els := (List.map EV.encS y1)) (by kernel_rfl) (by kernel_rfl) (List.length_map ..)) ?_
  refine o_runs 1 [(18, .bool (decide (q1.1 < (List.length y1 : Int))))] (by kernel_rfl) ?_
  refine ov_nil (nrm_thenV ?_)
  refine v_cond (decide (q1.1 < (List.length y1 : Int))) (by kernel_rfl) (fun h1 => ?_) (fun h1 => ?_)
  ·replace hs := bif_t h1 hs
   refine v_skip (nrm_thenV (v_seq (v_block (v_seq (v_draw mixedH (by kernel_rfl) ?_)))))
   refine d_runs 3 0 [(24, .int .i64 q1.1), (23, .vs 1 (List.map EV.encS y1)), (22, .vs 5 (List.map enc_Fact base))] (pfp 3 2) (by kernel_rfl) (by kernel_rfl) ?_
   obtain ⟨x1, g1, hs⟩ := bind_some hs; obtain ⟨g1a, g1b, g1c⟩ := idx_some g1
   refine d_pure (v := .vp [.str x1] 0) 3 rfl rfl rfl rfl (by kernel_rfl) (by kernel_rfl) (loc_indexVs (e := 9) (sz := 1) (k := .i64) (els := (List.map EV.encS y1)) (cs := (EV.encS x1)) (by kernel_rfl) (by kernel_rfl) (by kernel_rfl) g1a (by rw [g1c]; exact map_get _ (by omega))) ?_
   refine d_runs 4 4 [(29, .int .i64 known), (28, .int .i64 f.Day), (27, .ptr 4 0 1), (26, .str x1)] [⟨7, [], []⟩, ⟨6, [], [4]⟩, ⟨5, [], []⟩, ⟨4, [], []⟩] (by kernel_rfl) (by kernel_rfl) ?_
   obtain ⟨y2, c2, hs⟩ := bind_some hs
   refine d_pure (v := .tup [.int .i64 y2.1, .bool y2.2]) 8 rfl rfl rfl rfl (by kernel_rfl) (by kernel_rfl) (loc_gcall0 (callV_func hbv36 (by kernel_rfl)) (w_greenbeltref44_At base x1 f.Day known _ c2) (by kernel_rfl)) ?_
   refine d_runs 5 9 [(11, .bool y2.2), (10, .int .i64 y2.1), (32, .bool y2.2), (31, .int .i64 y2.1), (21, .tup [.int .i64 y2.1, .bool y2.2])] (pfp 5 13) (by kernel_rfl) (by kernel_rfl) ?_
   refine d_nil (by kernel_rfl) ?_
   refine nrm_thenV (v_draw mixedH (by kernel_rfl) ?_)
   refine d_runs 3 0 [(35, .int .i64 q1.1), (34, .vs 1 (List.map EV.encS y1)), (33, .sl 4 2000008 ((q1.2).length) 0 ((q1.2).length))] (pfp 3 2) (by kernel_rfl) (by kernel_rfl) ?_
   obtain ⟨x2, g2, hs⟩ := bind_some hs; obtain ⟨g2a, g2b, g2c⟩ := idx_some g2
   refine d_pure (v := .vp [.str x2] 0) 3 rfl rfl rfl rfl (by kernel_rfl) (by kernel_rfl) (loc_indexVs (e := 9) (sz := 1) (k := .i64) (els := (List.map EV.encS y1)) (cs := (EV.encS x2)) (by kernel_rfl) (by kernel_rfl) (by kernel_rfl) g2a (by rw [g2c]; exact map_get _ (by omega))) ?_
   refine d_runh 7 4 [(43, .sl 4 43 1 0 1), (42, .agg [.str x2, .int .i64 f.Day, .int .i64 y2.1, .bool y2.2]), (41, .bool y2.2), (40, .int .i64 y2.1), (39, .int .i64 f.Day), (38, .ptr 4 0 1), (37, .str x2)] [(43, .row 52 4 0 (List.map enc_Asked [(Asked.mk x2 f.Day y2.1 y2.2)])), (4, .box 31 [.int .i64 f.Id, .int .i64 f.Day, .int .i64 f.Known, .int .i64 f.Body.Op, .int .i64 f.Body.N, .str f.Body.S, .str f.Body.Key, .vs 5 (encs_Expr f.Body.Args), .int .i64 f.Result, .vs 4 (List.map enc_Asked f.Asked)]), (2000008, .row 52 4 0 (List.map enc_Asked q1.2))] [⟨10, [43], []⟩, ⟨9, [], []⟩, ⟨8, [], []⟩, ⟨7, [], []⟩, ⟨6, [], [4]⟩, ⟨5, [], []⟩, ⟨4, [], []⟩] (by kernel_rfl) (by kernel_rfl) ?_
   obtain ⟨_, g3, hs⟩ := bind_some hs; replace g3 := grd_some g3
   refine d_loc (F := [(2000008, .row 52 4 0 (List.map enc_Asked q1.2))]) (R := [(43, .row 52 4 0 (List.map enc_Asked [(Asked.mk x2 f.Day y2.1 y2.2)]))]) (F' := [(2000008, .row 52 4 0 (List.map enc_Asked (q1.2 ++ [(Asked.mk x2 f.Day y2.1 y2.2)])))]) (v := .sl 4 2000008 (((q1.2 ++ [(Asked.mk x2 f.Day y2.1 y2.2)])).length) 0 (((q1.2 ++ [(Asked.mk x2 f.Day y2.1 y2.2)])).length)) 11 [2000008] [43] rfl rfl rfl rfl (by kernel_rfl) (by kernel_rfl) (by kernel_rfl) (by kernel_rfl) (by kernel_rfl) (by kernel_rfl) (by kernel_rfl) (by kernel_rfl) (loc_appendT (e := 52) (sz := 4) (bytes := 40) (L := (q1.2).length) (els := (List.map enc_Asked q1.2)) (ys := (List.map enc_Asked [(Asked.mk x2 f.Day y2.1 y2.2)])) (by kernel_rfl) (by kernel_rfl) (by first | exact List.length_map .. | rfl) (.sl (t := 52) (fz := 0) (ys := (List.map enc_Asked [(Asked.mk x2 f.Day y2.1 y2.2)])) (by kernel_rfl) (by kernel_rfl)) (map_ones enc_Asked (fun _ => rfl) _) (map_lens enc_Asked (fun _ => rfl) _) (by kernel_rfl) (by first | exact (List.map_append ..).symm | rfl | simp only [List.map_nil, List.nil_append]) (List.length_map ..) g3 (by omega)) ?_
   refine d_runs 1 12 [(8, .sl 4 2000008 (((q1.2 ++ [(Asked.mk x2 f.Day y2.1 y2.2)])).length) 0 (((q1.2 ++ [(Asked.mk x2 f.Day y2.1 y2.2)])).length))] (pfp 1 12) (by kernel_rfl) (by kernel_rfl) ?_
   refine d_nil (by kernel_rfl) ?_
   refine nrm_blkV (nrm_thenV (vr_text (o_runs 3 [(9, .int .i64 (w64 (q1.1 + 1))), (20, .int .i64 (w64 (q1.1 + 1))), (19, .int .i64 q1.1)] (by kernel_rfl) ?_)))
   refine ov_nil (nrm_fuel ((w64 (q1.1 + 1)), (q1.2 ++ [(Asked.mk x2 f.Day y2.1 y2.2)])) hs ?_)
   exact cut_of [0, 2, 4, 7, 8, 9] [4, 2000008] (by kernel_rfl) (by kernel_rfl) (by kernel_rfl)
  ·replace hs := bif_f h1 hs
   refine v_exit (exit_thenV (exit_fuel ?_))
   refine exit_blkV ?_
   obtain rfl := si hs
   refine nrm_join q1.2 rfl ?_
   exact cut_of [8] [2000008] (by kernel_rfl) (by kernel_rfl) (by kernel_rfl)
 ·subst hz; clear hs; have hs := hk1; clear hk1
  refine nrm_thenV (v_seq (vr_text (o_runs 2 [(6, .sl 4 2000008 ((v1).length) 0 ((v1).length)), (45, .sl 4 2000008 ((v1).length) 0 ((v1).length))] (by kernel_rfl) ?_)))
  refine ov_nil (nrm_thenV (v_to _ [(2000008, .row 52 4 (((List.map enc_Asked v1)).length) (List.map enc_Asked v1))] (cut_freeze (F := [(2000008, .row 52 4 0 (List.map enc_Asked v1))]) [2000008] rfl (by kernel_rfl) (by kernel_rfl)) ?_))
  refine v_to ((6, .vs 4 (List.map enc_Asked v1)) :: _) _ (cut_view (R := [(2000008, .row 52 4 (((List.map enc_Asked v1)).length) (List.map enc_Asked v1))]) (ks := [2000008]) (by kernel_rfl) (by kernel_rfl) (.row (t := 52) (fz := (((List.map enc_Asked v1)).length)) (by kernel_rfl) (by first | (simp only [List.length_map, List.length_set]; done) | rfl))) ?_
  refine v_ret ?_
  obtain rfl := si hs
  exact fin_ret (by kernel_rfl) (by kernel_rfl) (by kernel_rfl)
theorem w_greenbeltref16_Measures  (r : (List (List UInt8))) (hs : s_greenbeltref16_Measures  = some r) : FnA Tryz.prog 118 [] [] (.vs 1 (List.map EV.encS r)) [] := by
 refine fnA_of_wp (N := 2) Tryz.func118 rfl rfl rfl fun cK0 => ?_
 unfold s_greenbeltref16_Measures at hs
 refine v_same (ρ' := []) rfl rfl ?_
 refine v_seq (vr_text (o_runs 1 [(0, .nils)] (by kernel_rfl) ?_))
 refine ov_nil (nrm_thenV (v_seq (vr_text (o_runh 2 [(0, .sl 1 1 9 0 9), (1, .sl 1 1 9 0 9)] [(1, .row 9 1 0 (List.map EV.encS [([97, 114, 101, 97] : List UInt8), ([99, 111, 118, 101, 114] : List UInt8), ([102, 108, 111, 111, 114] : List UInt8), ([102, 108, 111, 111, 114, 115] : List UInt8), ([104, 101, 105, 103, 104, 116] : List UInt8), ([104, 111, 109, 101, 115] : List UInt8), ([114, 117, 110, 111, 102, 102] : List UInt8), ([115, 101, 116, 98, 97, 99, 107] : List UInt8), ([116, 114, 97, 102, 102, 105, 99] : List UInt8)]))] (by kernel_rfl) ?_))))
 refine ov_nil (nrm_thenV (v_to _ [(1, .row 9 1 (((List.map EV.encS [([97, 114, 101, 97] : List UInt8), ([99, 111, 118, 101, 114] : List UInt8), ([102, 108, 111, 111, 114] : List UInt8), ([102, 108, 111, 111, 114, 115] : List UInt8), ([104, 101, 105, 103, 104, 116] : List UInt8), ([104, 111, 109, 101, 115] : List UInt8), ([114, 117, 110, 111, 102, 102] : List UInt8), ([115, 101, 116, 98, 97, 99, 107] : List UInt8), ([116, 114, 97, 102, 102, 105, 99] : List UInt8)])).length) (List.map EV.encS [([97, 114, 101, 97] : List UInt8), ([99, 111, 118, 101, 114] : List UInt8), ([102, 108, 111, 111, 114] : List UInt8), ([102, 108, 111, 111, 114, 115] : List UInt8), ([104, 101, 105, 103, 104, 116] : List UInt8), ([104, 111, 109, 101, 115] : List UInt8), ([114, 117, 110, 111, 102, 102] : List UInt8), ([115, 101, 116, 98, 97, 99, 107] : List UInt8), ([116, 114, 97, 102, 102, 105, 99] : List UInt8)]))] (cut_freeze (F := [(1, .row 9 1 0 (List.map EV.encS [([97, 114, 101, 97] : List UInt8), ([99, 111, 118, 101, 114] : List UInt8), ([102, 108, 111, 111, 114] : List UInt8), ([102, 108, 111, 111, 114, 115] : List UInt8), ([104, 101, 105, 103, 104, 116] : List UInt8), ([104, 111, 109, 101, 115] : List UInt8), ([114, 117, 110, 111, 102, 102] : List UInt8), ([115, 101, 116, 98, 97, 99, 107] : List UInt8), ([116, 114, 97, 102, 102, 105, 99] : List UInt8)]))]) [1] rfl (by kernel_rfl) (by kernel_rfl)) ?_))
 refine v_to ((0, .vs 1 (List.map EV.encS [([97, 114, 101, 97] : List UInt8), ([99, 111, 118, 101, 114] : List UInt8), ([102, 108, 111, 111, 114] : List UInt8), ([102, 108, 111, 111, 114, 115] : List UInt8), ([104, 101, 105, 103, 104, 116] : List UInt8), ([104, 111, 109, 101, 115] : List UInt8), ([114, 117, 110, 111, 102, 102] : List UInt8), ([115, 101, 116, 98, 97, 99, 107] : List UInt8), ([116, 114, 97, 102, 102, 105, 99] : List UInt8)])) :: _) _ (cut_view (R := [(1, .row 9 1 (((List.map EV.encS [([97, 114, 101, 97] : List UInt8), ([99, 111, 118, 101, 114] : List UInt8), ([102, 108, 111, 111, 114] : List UInt8), ([102, 108, 111, 111, 114, 115] : List UInt8), ([104, 101, 105, 103, 104, 116] : List UInt8), ([104, 111, 109, 101, 115] : List UInt8), ([114, 117, 110, 111, 102, 102] : List UInt8), ([115, 101, 116, 98, 97, 99, 107] : List UInt8), ([116, 114, 97, 102, 102, 105, 99] : List UInt8)])).length) (List.map EV.encS [([97, 114, 101, 97] : List UInt8), ([99, 111, 118, 101, 114] : List UInt8), ([102, 108, 111, 111, 114] : List UInt8), ([102, 108, 111, 111, 114, 115] : List UInt8), ([104, 101, 105, 103, 104, 116] : List UInt8), ([104, 111, 109, 101, 115] : List UInt8), ([114, 117, 110, 111, 102, 102] : List UInt8), ([115, 101, 116, 98, 97, 99, 107] : List UInt8), ([116, 114, 97, 102, 102, 105, 99] : List UInt8)]))]) (ks := [1]) (by kernel_rfl) (by kernel_rfl) (.row (t := 9) (fz := (((List.map EV.encS [([97, 114, 101, 97] : List UInt8), ([99, 111, 118, 101, 114] : List UInt8), ([102, 108, 111, 111, 114] : List UInt8), ([102, 108, 111, 111, 114, 115] : List UInt8), ([104, 101, 105, 103, 104, 116] : List UInt8), ([104, 111, 109, 101, 115] : List UInt8), ([114, 117, 110, 111, 102, 102] : List UInt8), ([115, 101, 116, 98, 97, 99, 107] : List UInt8), ([116, 114, 97, 102, 102, 105, 99] : List UInt8)])).length)) (by kernel_rfl) (by first | (simp only [List.length_map, List.length_set]; done) | rfl))) ?_
 refine v_ret ?_
 obtain rfl := si hs
 exact fin_ret (by kernel_rfl) (by kernel_rfl) (by kernel_rfl)
theorem w_greenbeltref16_twice (p : Plan) (r : Bool) (hs : s_greenbeltref16_twice p = some r) : FnA Tryz.prog 103 [.agg (enc_Plan p)] [] (.bool r) [] := by
 refine fnA_of_wp (N := 38) Tryz.func103 rfl rfl rfl fun cK0 => ?_
 unfold s_greenbeltref16_twice at hs
 refine v_same (ρ' := [(0, .agg (enc_Plan p))]) rfl rfl ?_
 refine v_seq (vr_text (o_runh 2 [(2, .bool false), (1, .ptr 1 0 0)] [(1, .box 81 [.vs 6 (List.map enc_Def p.Defs), .vs 3 (List.map enc_Table p.Tables), .vs 3 (List.map enc_Zone p.Zones), .vs 20 (List.map enc_Rule p.Rules), .vs 4 (List.map enc_Cap p.Caps), .vs 6 (List.map enc_View p.Views), .vs 3 (List.map enc_Point3 p.Sun), .int .i64 p.Hours])] (by kernel_rfl) ?_))
 refine ov_nil (nrm_thenV (v_seq (v_seq (vr_text (o_runs 1 [(3, .int .i64 0)] (by kernel_rfl) ?_)))))
 refine ov_nil (nrm_thenV ?_)
 obtain ⟨z1, hs, hk1⟩ := bind_some hs
 refine v_join (S := Unit) (fun u => z1 = .inr u) (fun u => []) (fun u => []) ?_ (fun v1 hz => ?_)
 ·refine v_block ?_
  refine v_fuel (S := Int) (fun u => [(1, .ptr 1 0 0), (3, .int .i64 u)]) (fun u => [(1, .box 81 [.vs 6 (List.map enc_Def p.Defs), .vs 3 (List.map enc_Table p.Tables), .vs 3 (List.map enc_Zone p.Zones), .vs 20 (List.map enc_Rule p.Rules), .vs 4 (List.map enc_Cap p.Caps), .vs 6 (List.map enc_View p.Views), .vs 3 (List.map enc_Point3 p.Sun), .int .i64 p.Hours])]) (s_greenbeltref16_twice_L1 p) (fun _ => rfl) KK 0 hs (cut_of [1, 3] [1] (by kernel_rfl) (by kernel_rfl) (by kernel_rfl)) (fun K1 q1 hs => ?_)
  rw [s_greenbeltref16_twice_L1] at hs
  show WpV cK0 Tryz.prog none 38 _ _ [(1, .ptr 1 0 0), (3, .int .i64 q1)] [(1, .box 81 [.vs 6 (List.map enc_Def p.Defs), .vs 3 (List.map enc_Table p.Tables), .vs 3 (List.map enc_Zone p.Zones), .vs 20 (List.map enc_Rule p.Rules), .vs 4 (List.map enc_Cap p.Caps), .vs 6 (List.map enc_View p.Views), .vs 3 (List.map enc_Point3 p.Sun), .int .i64 p.Hours])] []
  refine v_seq (v_seq (vr_text (o_runs 3 [(7, .vs 6 (List.map enc_Def p.Defs)), (6, .ptr 1 0 0), (5, .int .i64 q1)] (by kernel_rfl) ?_)))
  refine o_pure (v := .int .i64 (List.length p.Defs : Int)) (by kernel_rfl) (by kernel_rfl) (loc_lenVs (sz := 6) (els := (List.map enc_Def p.Defs)) (by kernel_rfl) (by kernel_rfl) (List.length_map ..)) ?_
  refine o_runs 1 [(9, .bool (decide (q1 < (List.length p.Defs : Int))))] (by kernel_rfl) ?_
  refine ov_nil (nrm_thenV ?_)
  refine v_cond (decide (q1 < (List.length p.Defs : Int))) (by kernel_rfl) (fun h1 => ?_) (fun h1 => ?_)
  ·replace hs := bif_t h1 hs
   refine v_skip (nrm_thenV (v_seq (v_block (v_seq (v_seq (vr_text (o_runs 1 [(4, .int .i64 0)] (by kernel_rfl) ?_)))))))
   refine ov_nil (nrm_thenV ?_)
   obtain ⟨z2, hs, hk2⟩ := bind_some hs
   refine v_join (S := Unit) (fun u => z2 = .inr u) (fun u => [(1, .ptr 1 0 0), (3, .int .i64 q1)]) (fun u => [(1, .box 81 [.vs 6 (List.map enc_Def p.Defs), .vs 3 (List.map enc_Table p.Tables), .vs 3 (List.map enc_Zone p.Zones), .vs 20 (List.map enc_Rule p.Rules), .vs 4 (List.map enc_Cap p.Caps), .vs 6 (List.map enc_View p.Views), .vs 3 (List.map enc_Point3 p.Sun), .int .i64 p.Hours])]) ?_ (fun v2 hz => ?_)
   ·refine v_block ?_
    refine v_fuel (S := Int) (fun u => [(1, .ptr 1 0 0), (3, .int .i64 q1), (4, .int .i64 u)]) (fun u => [(1, .box 81 [.vs 6 (List.map enc_Def p.Defs), .vs 3 (List.map enc_Table p.Tables), .vs 3 (List.map enc_Zone p.Zones), .vs 20 (List.map enc_Rule p.Rules), .vs 4 (List.map enc_Cap p.Caps), .vs 6 (List.map enc_View p.Views), .vs 3 (List.map enc_Point3 p.Sun), .int .i64 p.Hours])]) (s_greenbeltref16_twice_L2 p q1) (fun _ => rfl) KK 0 hs (cut_of [1, 3, 4] [1] (by kernel_rfl) (by kernel_rfl) (by kernel_rfl)) (fun K2 q2 hs => ?_)
    rw [s_greenbeltref16_twice_L2] at hs
    show WpV cK0 Tryz.prog none 38 _ _ [(1, .ptr 1 0 0), (3, .int .i64 q1), (4, .int .i64 q2)] [(1, .box 81 [.vs 6 (List.map enc_Def p.Defs), .vs 3 (List.map enc_Table p.Tables), .vs 3 (List.map enc_Zone p.Zones), .vs 20 (List.map enc_Rule p.Rules), .vs 4 (List.map enc_Cap p.Caps), .vs 6 (List.map enc_View p.Views), .vs 3 (List.map enc_Point3 p.Sun), .int .i64 p.Hours])] []
    refine v_seq (v_seq (vr_text (o_runs 3 [(14, .bool (decide (q2 < q1))), (13, .int .i64 q1), (12, .int .i64 q2)] (by kernel_rfl) ?_)))
    refine ov_nil (nrm_thenV ?_)
    refine v_cond (decide (q2 < q1)) (by kernel_rfl) (fun h2 => ?_) (fun h2 => ?_)
    ·replace hs := bif_t h2 hs
     refine v_skip (nrm_thenV (v_seq (v_block (v_seq (v_draw mixedH (by kernel_rfl) ?_)))))
     refine d_runs 3 0 [(19, .int .i64 q2), (18, .vs 6 (List.map enc_Def p.Defs)), (17, .ptr 1 0 0)] [⟨2, [], []⟩, ⟨1, [], [1]⟩, ⟨0, [], []⟩] (by kernel_rfl) (by kernel_rfl) ?_
     obtain ⟨x1, g1, hs⟩ := bind_some hs; obtain ⟨g1a, g1b, g1c⟩ := idx_some g1
     refine d_pure (v := .vp (enc_Def x1) 0) 3 rfl rfl rfl rfl (by kernel_rfl) (by kernel_rfl) (loc_indexVs (e := 106) (sz := 6) (k := .i64) (els := (List.map enc_Def p.Defs)) (cs := (enc_Def x1)) (by kernel_rfl) (by kernel_rfl) (by kernel_rfl) g1a (by rw [g1c]; exact map_get _ (by omega))) ?_
     refine d_runs 5 4 [(25, .int .i64 q1), (24, .vs 6 (List.map enc_Def p.Defs)), (23, .ptr 1 0 0), (22, .str x1.Name), (21, .vp (enc_Def x1) 0)] [⟨8, [], []⟩, ⟨7, [], [1]⟩, ⟨6, [], []⟩, ⟨5, [], []⟩, ⟨4, [], []⟩] (by kernel_rfl) (by kernel_rfl) ?_
     obtain ⟨x2, g2, hs⟩ := bind_some hs; obtain ⟨g2a, g2b, g2c⟩ := idx_some g2
     refine d_pure (v := .vp (enc_Def x2) 0) 9 rfl rfl rfl rfl (by kernel_rfl) (by kernel_rfl) (loc_indexVs (e := 106) (sz := 6) (k := .i64) (els := (List.map enc_Def p.Defs)) (cs := (enc_Def x2)) (by kernel_rfl) (by kernel_rfl) (by kernel_rfl) g2a (by rw [g2c]; exact map_get _ (by omega))) ?_
     refine d_runs 3 10 [(29, .bool (decide (x1.Name = x2.Name))), (28, .str x2.Name), (27, .vp (enc_Def x2) 0)] (pfp 3 12) (by kernel_rfl) (by kernel_rfl) ?_
     refine d_nil (by kernel_rfl) ?_
     refine nrm_thenV ?_
     refine v_cond (decide (x1.Name = x2.Name)) (by kernel_rfl) (fun h3 => ?_) (fun h3 => ?_)
     ·replace hs := bif_t h3 hs
      refine v_seq (vr_text (o_runs 1 [(2, .bool true)] (by kernel_rfl) ?_))
      refine ov_nil (nrm_thenV (v_ret (ret_blkV (ret_thenV (ret_fuel ?_)))))
      refine ret_blkV (ret_join ?_)
      refine ret_thenV (ret_blkV (ret_thenV (ret_fuel ?_)))
      refine ret_blkV (ret_join ?_)
      refine ret_thenV ?_
      obtain rfl := si hs
      replace hs := hk2
      obtain rfl := si hs
      replace hs := hk1
      obtain rfl := si hs
      exact fin_ret (by kernel_rfl) (by kernel_rfl) (by kernel_rfl)
     ·replace hs := bif_f h3 hs
      refine v_skip (nrm_blkV (nrm_thenV (vr_text (o_runs 3 [(4, .int .i64 (w64 (q2 + 1))), (16, .int .i64 (w64 (q2 + 1))), (15, .int .i64 q2)] (by kernel_rfl) ?_))))
      refine ov_nil (nrm_fuel (w64 (q2 + 1)) hs ?_)
      exact cut_of [1, 3, 4] [1] (by kernel_rfl) (by kernel_rfl) (by kernel_rfl)
    ·replace hs := bif_f h2 hs
     refine v_exit (exit_thenV (exit_fuel ?_))
     refine exit_blkV ?_
     obtain rfl := si hs
     refine nrm_join () rfl ?_
     exact cut_of [1, 3] [1] (by kernel_rfl) (by kernel_rfl) (by kernel_rfl)
   ·subst hz; clear hs; have hs := hk2; clear hk2
    refine nrm_thenV (v_seq (v_draw mixedH (by kernel_rfl) ?_))
    obtain ⟨y1, c1, hs⟩ := bind_some hs
    refine d_pure (v := .vs 1 (List.map EV.encS y1)) 0 rfl rfl rfl rfl (by kernel_rfl) (by kernel_rfl) (loc_gcall0 (callV_func hbv118 (by kernel_rfl)) (w_greenbeltref16_Measures  _ c1) (by kernel_rfl)) ?_
    refine d_runs 3 1 [(33, .int .i64 q1), (32, .vs 6 (List.map enc_Def p.Defs)), (31, .ptr 1 0 0)] [⟨3, [], []⟩, ⟨2, [], [1]⟩, ⟨1, [], []⟩] (by kernel_rfl) (by kernel_rfl) ?_
    obtain ⟨x3, g3, hs⟩ := bind_some hs; obtain ⟨g3a, g3b, g3c⟩ := idx_some g3
    refine d_pure (v := .vp (enc_Def x3) 0) 4 rfl rfl rfl rfl (by kernel_rfl) (by kernel_rfl) (loc_indexVs (e := 106) (sz := 6) (k := .i64) (els := (List.map enc_Def p.Defs)) (cs := (enc_Def x3)) (by kernel_rfl) (by kernel_rfl) (by kernel_rfl) g3a (by rw [g3c]; exact map_get _ (by omega))) ?_
    refine d_runs 2 5 [(36, .str x3.Name), (35, .vp (enc_Def x3) 0)] (pfp 2 6) (by kernel_rfl) (by kernel_rfl) ?_
    obtain ⟨y2, c2, hs⟩ := bind_some hs
    refine d_pure (v := .bool y2) 7 rfl rfl rfl rfl (by kernel_rfl) (by kernel_rfl) (loc_gcall0 (callV_func hbv63 (by kernel_rfl)) (w_greenbeltref16_Has y1 x3.Name _ c2) (by kernel_rfl)) ?_
    refine d_nil (by kernel_rfl) ?_
    refine nrm_thenV ?_
    refine v_cond y2 (by kernel_rfl) (fun h4 => ?_) (fun h4 => ?_)
    ·replace hs := bif_t h4 hs
     refine v_seq (vr_text (o_runs 1 [(2, .bool true)] (by kernel_rfl) ?_))
     refine ov_nil (nrm_thenV (v_ret (ret_blkV (ret_thenV (ret_fuel ?_)))))
     refine ret_blkV (ret_join ?_)
     refine ret_thenV ?_
     obtain rfl := si hs
     replace hs := hk1
     obtain rfl := si hs
     exact fin_ret (by kernel_rfl) (by kernel_rfl) (by kernel_rfl)
    ·replace hs := bif_f h4 hs
     refine v_skip (nrm_blkV (nrm_thenV (vr_text (o_runs 3 [(3, .int .i64 (w64 (q1 + 1))), (11, .int .i64 (w64 (q1 + 1))), (10, .int .i64 q1)] (by kernel_rfl) ?_))))
     refine ov_nil (nrm_fuel (w64 (q1 + 1)) hs ?_)
     exact cut_of [1, 3] [1] (by kernel_rfl) (by kernel_rfl) (by kernel_rfl)
  ·replace hs := bif_f h1 hs
   refine v_exit (exit_thenV (exit_fuel ?_))
   refine exit_blkV ?_
   obtain rfl := si hs
   refine nrm_join () rfl ?_
   exact cut_of [] [] (by kernel_rfl) (by kernel_rfl) (by kernel_rfl)
 ·subst hz; clear hs; have hs := hk1; clear hk1
  refine nrm_thenV (v_seq (vr_text (o_runs 1 [(2, .bool false)] (by kernel_rfl) ?_)))
  refine ov_nil (nrm_thenV (v_ret ?_))
  obtain rfl := si hs
  exact fin_ret (by kernel_rfl) (by kernel_rfl) (by kernel_rfl)
theorem w_greenbeltref16_uses (p : Plan) (r : Unit) (hs : s_greenbeltref16_uses p = some r) : FnA Tryz.prog 104 [.agg (enc_Plan p)] [] (.nils) [] := by
 refine fnA_of_wp (N := 49) Tryz.func104 rfl rfl rfl fun cK0 => ?_
 unfold s_greenbeltref16_uses at hs
 refine v_same (ρ' := [(0, .agg (enc_Plan p))]) rfl rfl ?_
 refine v_seq (vr_text (o_runh 2 [(2, .nils), (1, .ptr 1 0 0)] [(1, .box 81 [.vs 6 (List.map enc_Def p.Defs), .vs 3 (List.map enc_Table p.Tables), .vs 3 (List.map enc_Zone p.Zones), .vs 20 (List.map enc_Rule p.Rules), .vs 4 (List.map enc_Cap p.Caps), .vs 6 (List.map enc_View p.Views), .vs 3 (List.map enc_Point3 p.Sun), .int .i64 p.Hours])] (by kernel_rfl) ?_))
 refine ov_nil (nrm_thenV (v_seq (vr_text (o_runs 1 [(3, .nils)] (by kernel_rfl) ?_))))
 refine ov_nil (nrm_thenV (v_seq (v_seq (vr_text (o_runs 1 [(4, .int .i64 0)] (by kernel_rfl) ?_)))))
 refine ov_nil (nrm_thenV ?_)
 obtain ⟨z1, hs, hk1⟩ := bind_some hs
 refine v_join (S := Unit) (fun u => u = z1) (fun u => [(3, .nils)]) (fun u => []) ?_ (fun v1 hz => ?_)
 ·refine v_block ?_
  refine v_fuel (S := Unit) (fun u => [(1, .ptr 1 0 0), (3, .nils), (4, .int .i64 0)]) (fun u => [(1, .box 81 [.vs 6 (List.map enc_Def p.Defs), .vs 3 (List.map enc_Table p.Tables), .vs 3 (List.map enc_Zone p.Zones), .vs 20 (List.map enc_Rule p.Rules), .vs 4 (List.map enc_Cap p.Caps), .vs 6 (List.map enc_View p.Views), .vs 3 (List.map enc_Point3 p.Sun), .int .i64 p.Hours])]) (s_greenbeltref16_uses_L1 p) (fun _ => rfl) KK () hs (cut_of [1, 3, 4] [1] (by kernel_rfl) (by kernel_rfl) (by kernel_rfl)) (fun K1 q1 hs => ?_)
  rw [s_greenbeltref16_uses_L1] at hs
  show WpV cK0 Tryz.prog none 49 _ _ [(1, .ptr 1 0 0), (3, .nils), (4, .int .i64 0)] [(1, .box 81 [.vs 6 (List.map enc_Def p.Defs), .vs 3 (List.map enc_Table p.Tables), .vs 3 (List.map enc_Zone p.Zones), .vs 20 (List.map enc_Rule p.Rules), .vs 4 (List.map enc_Cap p.Caps), .vs 6 (List.map enc_View p.Views), .vs 3 (List.map enc_Point3 p.Sun), .int .i64 p.Hours])] []
  refine v_seq (v_seq (vr_text (o_runs 3 [(10, .vs 6 (List.map enc_Def p.Defs)), (9, .ptr 1 0 0), (8, .int .i64 0)] (by kernel_rfl) ?_)))
  refine o_pure (v := .int .i64 (List.length p.Defs : Int)) (by kernel_rfl) (by kernel_rfl) (loc_lenVs (sz := 6) (els := (List.map enc_Def p.Defs)) (by kernel_rfl) (by kernel_rfl) (List.length_map ..)) ?_
  refine o_runs 1 [(12, .bool (decide (0 < (List.length p.Defs : Int))))] (by kernel_rfl) ?_
  refine ov_nil (nrm_thenV ?_)
  refine v_cond (decide (0 < (List.length p.Defs : Int))) (by kernel_rfl) (fun h1 => ?_) (fun h1 => ?_)
  ·replace hs := bif_t h1 hs
   cases hs
  ·replace hs := bif_f h1 hs
   refine v_exit (exit_thenV (exit_fuel ?_))
   refine exit_blkV ?_
   obtain rfl := si hs
   refine nrm_join () rfl ?_
   exact cut_of [3] [] (by kernel_rfl) (by kernel_rfl) (by kernel_rfl)
 ·subst hz; clear hs; have hs := hk1; clear hk1
  refine nrm_thenV (v_seq (vr_text (o_runs 2 [(2, .nils), (48, .nils)] (by kernel_rfl) ?_)))
  refine ov_nil (nrm_thenV (v_ret ?_))
  obtain rfl := si hs
  exact fin_ret (by kernel_rfl) (by kernel_rfl) (by kernel_rfl)
theorem w_greenbeltref16_circle (p : Plan) (use : (List (List Bool))) (r : Unit) (hs : s_greenbeltref16_circle p use = some r) : FnA Tryz.prog 105 [.agg (enc_Plan p), .vs 1 (List.map (encL 1 EV.encB) use)] [] (.nils) [] := by
 refine fnA_of_wp (N := 139) Tryz.func105 rfl rfl rfl fun cK0 => ?_
 unfold s_greenbeltref16_circle at hs
 refine v_same (ρ' := [(0, .agg (enc_Plan p)), (1, .vs 1 (List.map (encL 1 EV.encB) use))]) rfl rfl ?_
 refine v_seq (vr_text (o_runh 2 [(4, .nils), (2, .ptr 2 0 0)] [(2, .box 81 [.vs 6 (List.map enc_Def p.Defs), .vs 3 (List.map enc_Table p.Tables), .vs 3 (List.map enc_Zone p.Zones), .vs 20 (List.map enc_Rule p.Rules), .vs 4 (List.map enc_Cap p.Caps), .vs 6 (List.map enc_View p.Views), .vs 3 (List.map enc_Point3 p.Sun), .int .i64 p.Hours])] (by kernel_rfl) ?_))
 refine ov_nil (nrm_thenV (v_seq (vr_text (o_runs 1 [(16, .vs 1 (List.map (encL 1 EV.encB) use))] (by kernel_rfl) ?_))))
 refine o_pure (v := .int .i64 (List.length use : Int)) (by kernel_rfl) (by kernel_rfl) (loc_lenVs (sz := 1) (els := (List.map (encL 1 EV.encB) use)) (by kernel_rfl) (by kernel_rfl) (List.length_map ..)) ?_
 refine o_runs 2 [(5, .int .i64 (w64 ((List.length use : Int) + 1))), (18, .int .i64 (w64 ((List.length use : Int) + 1)))] (by kernel_rfl) ?_
 refine ov_nil (nrm_thenV (v_seq (vr_text (o_runs 1 [(6, .int .i64 (-1))] (by kernel_rfl) ?_))))
 refine ov_nil (nrm_thenV (v_seq (v_seq (vr_text (o_runs 1 [(7, .int .i64 0)] (by kernel_rfl) ?_)))))
 refine ov_nil (nrm_thenV ?_)
 obtain ⟨z1, hs, hk1⟩ := bind_some hs
 refine v_join (S := Unit) (fun u => u = z1) (fun u => [(1, .vs 1 (List.map (encL 1 EV.encB) use)), (2, .ptr 2 0 0), (5, .int .i64 (w64 ((List.length use : Int) + 1))), (6, .int .i64 (-1))]) (fun u => [(2, .box 81 [.vs 6 (List.map enc_Def p.Defs), .vs 3 (List.map enc_Table p.Tables), .vs 3 (List.map enc_Zone p.Zones), .vs 20 (List.map enc_Rule p.Rules), .vs 4 (List.map enc_Cap p.Caps), .vs 6 (List.map enc_View p.Views), .vs 3 (List.map enc_Point3 p.Sun), .int .i64 p.Hours])]) ?_ (fun v1 hz => ?_)
 ·refine v_block ?_
  refine v_fuel (S := Unit) (fun u => [(1, .vs 1 (List.map (encL 1 EV.encB) use)), (2, .ptr 2 0 0), (5, .int .i64 (w64 ((List.length use : Int) + 1))), (6, .int .i64 (-1)), (7, .int .i64 0)]) (fun u => [(2, .box 81 [.vs 6 (List.map enc_Def p.Defs), .vs 3 (List.map enc_Table p.Tables), .vs 3 (List.map enc_Zone p.Zones), .vs 20 (List.map enc_Rule p.Rules), .vs 4 (List.map enc_Cap p.Caps), .vs 6 (List.map enc_View p.Views), .vs 3 (List.map enc_Point3 p.Sun), .int .i64 p.Hours])]) (s_greenbeltref16_circle_L1 use) (fun _ => rfl) KK () hs (cut_of [1, 2, 5, 6, 7] [2] (by kernel_rfl) (by kernel_rfl) (by kernel_rfl)) (fun K1 q1 hs => ?_)
  rw [s_greenbeltref16_circle_L1] at hs
  show WpV cK0 Tryz.prog none 139 _ _ [(1, .vs 1 (List.map (encL 1 EV.encB) use)), (2, .ptr 2 0 0), (5, .int .i64 (w64 ((List.length use : Int) + 1))), (6, .int .i64 (-1)), (7, .int .i64 0)] [(2, .box 81 [.vs 6 (List.map enc_Def p.Defs), .vs 3 (List.map enc_Table p.Tables), .vs 3 (List.map enc_Zone p.Zones), .vs 20 (List.map enc_Rule p.Rules), .vs 4 (List.map enc_Cap p.Caps), .vs 6 (List.map enc_View p.Views), .vs 3 (List.map enc_Point3 p.Sun), .int .i64 p.Hours])] []
  refine v_seq (v_seq (vr_text (o_runs 2 [(20, .vs 1 (List.map (encL 1 EV.encB) use)), (19, .int .i64 0)] (by kernel_rfl) ?_)))
  refine o_pure (v := .int .i64 (List.length use : Int)) (by kernel_rfl) (by kernel_rfl) (loc_lenVs (sz := 1) (els := (List.map (encL 1 EV.encB) use)) (by kernel_rfl) (by kernel_rfl) (List.length_map ..)) ?_
  refine o_runs 1 [(22, .bool (decide (0 < (List.length use : Int))))] (by kernel_rfl) ?_
  refine ov_nil (nrm_thenV ?_)
  refine v_cond (decide (0 < (List.length use : Int))) (by kernel_rfl) (fun h1 => ?_) (fun h1 => ?_)
  ·replace hs := bif_t h1 hs
   cases hs
  ·replace hs := bif_f h1 hs
   refine v_exit (exit_thenV (exit_fuel ?_))
   refine exit_blkV ?_
   obtain rfl := si hs
   refine nrm_join () rfl ?_
   exact cut_of [1, 2, 5, 6] [2] (by kernel_rfl) (by kernel_rfl) (by kernel_rfl)
 ·subst hz; clear hs; have hs := hk1; clear hk1
  refine nrm_thenV (v_seq (v_seq (vr_text (o_runs 2 [(72, .bool true), (71, .int .i64 (-1))] (by kernel_rfl) ?_))))
  refine ov_nil (nrm_thenV (v_cond_t (by kernel_rfl) ?_))
  refine v_seq (vr_text (o_runs 1 [(4, .nils)] (by kernel_rfl) ?_))
  refine ov_nil (nrm_thenV (v_ret (ret_thenV ?_)))
  obtain rfl := si hs
  exact fin_ret (by kernel_rfl) (by kernel_rfl) (by kernel_rfl)
theorem w_greenbeltref16_Order (p : Plan) (r : Int) (hs : s_greenbeltref16_Order p = some r) : FnA Tryz.prog 78 [.agg (enc_Plan p)] [] (.tup [.nils, .nils, .int .i64 r]) [] := by
 refine fnA_of_wp (N := 44) Tryz.func78 rfl rfl rfl fun cK0 => ?_
 unfold s_greenbeltref16_Order at hs
 refine v_same (ρ' := [(0, .agg (enc_Plan p))]) rfl rfl ?_
 refine v_seq (vr_text (o_runh 4 [(4, .int .i64 0), (3, .nils), (2, .nils), (1, .ptr 1 0 0)] [(1, .box 81 [.vs 6 (List.map enc_Def p.Defs), .vs 3 (List.map enc_Table p.Tables), .vs 3 (List.map enc_Zone p.Zones), .vs 20 (List.map enc_Rule p.Rules), .vs 4 (List.map enc_Cap p.Caps), .vs 6 (List.map enc_View p.Views), .vs 3 (List.map enc_Point3 p.Sun), .int .i64 p.Hours])] (by kernel_rfl) ?_))
 refine ov_nil (nrm_thenV (v_seq (v_seq (vr_text (o_runs 1 [(11, .agg (enc_Plan p))] (by kernel_rfl) ?_)))))
 obtain ⟨y1, c1, hs⟩ := bind_some hs
 refine o_pure (v := .bool y1) (by kernel_rfl) (by kernel_rfl) (loc_gcall0 (callV_func hbv103 (by kernel_rfl)) (w_greenbeltref16_twice p _ c1) (by kernel_rfl)) ?_
 refine ov_nil (nrm_thenV ?_)
 refine v_cond y1 (by kernel_rfl) (fun h1 => ?_) (fun h1 => ?_)
 ·replace hs := bif_t h1 hs
  refine v_seq (vr_text (o_runs 3 [(4, .int .i64 5), (3, .nils), (2, .nils)] (by kernel_rfl) ?_))
  refine ov_nil (nrm_thenV (v_ret (ret_thenV ?_)))
  obtain rfl := si hs
  exact fin_ret (by kernel_rfl) (by kernel_rfl) (by kernel_rfl)
 ·replace hs := bif_f h1 hs
  refine v_skip (nrm_thenV (v_seq (vr_text (o_runs 1 [(13, .agg (enc_Plan p))] (by kernel_rfl) ?_))))
  obtain ⟨y2, c2, hs⟩ := bind_some hs
  refine o_pure (v := .nils) (by kernel_rfl) (by kernel_rfl) (loc_gcall0 (callV_func hbv104 (by kernel_rfl)) (w_greenbeltref16_uses p _ c2) (by kernel_rfl)) ?_
  refine o_runs 1 [(5, .nils)] (by kernel_rfl) ?_
  refine ov_nil (nrm_thenV (v_seq (vr_text (o_runs 2 [(16, .nils), (15, .agg (enc_Plan p))] (by kernel_rfl) ?_))))
  obtain ⟨y3, c3, hs⟩ := bind_some hs
  refine o_loc (F := []) (F' := []) (v := .nils) [] (by kernel_rfl) (by kernel_rfl) rfl (by kernel_rfl) (loc_gcallB (vs := [.agg (enc_Plan p), .nils]) (R := []) (callV_func hbv105 (by kernel_rfl)) (w_greenbeltref16_circle p [] _ c3) (.cons (.same _) (.cons (.nils _) (.nil))) (by kernel_rfl) (by kernel_rfl) (by kernel_rfl)) (by kernel_rfl) ?_
  refine o_runs 1 [(6, .nils)] (by kernel_rfl) ?_
  refine ov_nil (nrm_thenV (v_seq (v_seq (vr_text (o_runs 3 [(20, .bool false), (19, .int .i64 0), (18, .nils)] (by kernel_rfl) ?_)))))
  refine ov_nil (nrm_thenV (v_cond_f (by kernel_rfl) ?_))
  refine v_skip (nrm_thenV (v_seq (vr_text (o_runs 2 [(23, .int .i64 0), (22, .nils)] (by kernel_rfl) ?_))))
  obtain ⟨_, g1, hs⟩ := bind_some hs; obtain ⟨g1a, g1b, g1c⟩ := grd_some g1
  refine o_loc (F := []) (F' := [(24, .row 4 1 0 (List.map EV.encB (List.replicate (Int.toNat 0) (false : Bool))))]) (v := .sl 1 24 (((List.replicate (Int.toNat 0) (false : Bool))).length) 0 (((List.replicate (Int.toNat 0) (false : Bool))).length)) [] (by kernel_rfl) (by kernel_rfl) rfl (by kernel_rfl) (loc_makeSliceT (L := ((List.replicate (Int.toNat 0) (false : Bool))).length) (e := 4) (sz := 1) (bytes := 1) (q := 0) (k := .i64) (k2 := .i64) (cs := [.bool false]) (cs2 := [.bool false]) (by kernel_rfl) (by kernel_rfl) (by kernel_rfl) (by kernel_rfl) (by kernel_rfl) g1a g1b g1c (List.map_replicate (f := EV.encB)).symm (List.length_replicate ..) (fun _ _ h => h)) (by kernel_rfl) ?_
  refine o_runs 1 [(7, .sl 1 24 (((List.replicate (Int.toNat 0) (false : Bool))).length) 0 (((List.replicate (Int.toNat 0) (false : Bool))).length))] (by kernel_rfl) ?_
  refine ov_nil (nrm_thenV (v_seq (vr_text (o_runs 1 [(8, .nils)] (by kernel_rfl) ?_))))
  refine ov_nil (nrm_thenV (v_seq (v_seq (vr_text (o_runs 1 [(9, .int .i64 0)] (by kernel_rfl) ?_)))))
  refine ov_nil (nrm_thenV ?_)
  obtain ⟨z1, hs, hk1⟩ := bind_some hs
  refine v_join (S := Unit) (fun u => u = z1) (fun u => [(8, .nils)]) (fun u => []) ?_ (fun v1 hz => ?_)
  ·refine v_block ?_
   refine v_fuel (S := Unit) (fun u => [(1, .ptr 1 0 0), (5, .nils), (7, .sl 1 24 (((List.replicate (Int.toNat 0) (false : Bool))).length) 0 (((List.replicate (Int.toNat 0) (false : Bool))).length)), (8, .nils), (9, .int .i64 0)]) (fun u => [(24, .row 4 1 0 (List.map EV.encB (List.replicate (Int.toNat 0) (false : Bool)))), (1, .box 81 [.vs 6 (List.map enc_Def p.Defs), .vs 3 (List.map enc_Table p.Tables), .vs 3 (List.map enc_Zone p.Zones), .vs 20 (List.map enc_Rule p.Rules), .vs 4 (List.map enc_Cap p.Caps), .vs 6 (List.map enc_View p.Views), .vs 3 (List.map enc_Point3 p.Sun), .int .i64 p.Hours])]) s_greenbeltref16_Order_L1 (fun _ => rfl) KK () hs (cut_of [1, 5, 7, 8, 9] [24, 1] (by kernel_rfl) (by kernel_rfl) (by kernel_rfl)) (fun K1 q1 hs => ?_)
   rw [s_greenbeltref16_Order_L1] at hs
   show WpV cK0 Tryz.prog none 44 _ _ [(1, .ptr 1 0 0), (5, .nils), (7, .sl 1 24 (((List.replicate (Int.toNat 0) (false : Bool))).length) 0 (((List.replicate (Int.toNat 0) (false : Bool))).length)), (8, .nils), (9, .int .i64 0)] [(24, .row 4 1 0 (List.map EV.encB (List.replicate (Int.toNat 0) (false : Bool)))), (1, .box 81 [.vs 6 (List.map enc_Def p.Defs), .vs 3 (List.map enc_Table p.Tables), .vs 3 (List.map enc_Zone p.Zones), .vs 20 (List.map enc_Rule p.Rules), .vs 4 (List.map enc_Cap p.Caps), .vs 6 (List.map enc_View p.Views), .vs 3 (List.map enc_Point3 p.Sun), .int .i64 p.Hours])] []
   refine v_seq (v_seq (vr_text (o_runs 4 [(28, .bool false), (27, .int .i64 0), (26, .nils), (25, .int .i64 0)] (by kernel_rfl) ?_)))
   refine ov_nil (nrm_thenV (v_cond_f (by kernel_rfl) ?_))
   refine v_exit (exit_thenV (exit_fuel ?_))
   refine exit_blkV ?_
   obtain rfl := si hs
   refine nrm_join () rfl ?_
   exact cut_of [8] [] (by kernel_rfl) (by kernel_rfl) (by kernel_rfl)
  ·subst hz; clear hs; have hs := hk1; clear hk1
   refine nrm_thenV (v_seq (vr_text (o_runs 4 [(4, .int .i64 0), (3, .nils), (2, .nils), (43, .nils)] (by kernel_rfl) ?_)))
   refine ov_nil (nrm_thenV (v_ret ?_))
   obtain rfl := si hs
   exact fin_ret (by kernel_rfl) (by kernel_rfl) (by kernel_rfl)
theorem w_greenbeltref17_All (p : Plan) (measures : (List Entry)) (zones : (List (List UInt8))) (r : (List Int)) (hs : s_greenbeltref17_All p measures zones = some r) : FnA Tryz.prog 59 [.agg (enc_Plan p), .vs 2 (List.map enc_Entry measures), .vs 1 (List.map EV.encS zones)] [] (.vs 1 (List.map EV.encI r)) [] := by
 refine fnA_of_wp (N := 56) Tryz.func59 rfl rfl rfl fun cK0 => ?_
 unfold s_greenbeltref17_All at hs
 refine v_same (ρ' := [(0, .agg (enc_Plan p)), (1, .vs 2 (List.map enc_Entry measures)), (2, .vs 1 (List.map EV.encS zones))]) rfl rfl ?_
 refine v_seq (vr_text (o_runh 2 [(6, .nils), (3, .ptr 3 0 0)] [(3, .box 81 [.vs 6 (List.map enc_Def p.Defs), .vs 3 (List.map enc_Table p.Tables), .vs 3 (List.map enc_Zone p.Zones), .vs 20 (List.map enc_Rule p.Rules), .vs 4 (List.map enc_Cap p.Caps), .vs 6 (List.map enc_View p.Views), .vs 3 (List.map enc_Point3 p.Sun), .int .i64 p.Hours])] (by kernel_rfl) ?_))
 refine ov_nil (nrm_thenV (v_seq (vr_text (o_runs 2 [(14, .vs 6 (List.map enc_Def p.Defs)), (13, .ptr 3 0 0)] (by kernel_rfl) ?_))))
 refine o_pure (v := .int .i64 (List.length p.Defs : Int)) (by kernel_rfl) (by kernel_rfl) (loc_lenVs (sz := 6) (els := (List.map enc_Def p.Defs)) (by kernel_rfl) (by kernel_rfl) (List.length_map ..)) ?_
 obtain ⟨_, g1, hs⟩ := bind_some hs; obtain ⟨g1a, g1b, g1c⟩ := grd_some g1
 refine o_loc (F := []) (F' := [(16, .row 3 1 0 (List.map EV.encI (List.replicate (Int.toNat (List.length p.Defs : Int)) (0 : Int))))]) (v := .sl 1 16 (((List.replicate (Int.toNat (List.length p.Defs : Int)) (0 : Int))).length) 0 (((List.replicate (Int.toNat (List.length p.Defs : Int)) (0 : Int))).length)) [] (by kernel_rfl) (by kernel_rfl) rfl (by kernel_rfl) (loc_makeSliceT (L := ((List.replicate (Int.toNat (List.length p.Defs : Int)) (0 : Int))).length) (e := 3) (sz := 1) (bytes := 8) (q := (List.length p.Defs : Int)) (k := .i64) (k2 := .i64) (cs := [.int .i64 0]) (cs2 := [.int .i64 0]) (by kernel_rfl) (by kernel_rfl) (by kernel_rfl) (by kernel_rfl) (by kernel_rfl) g1a g1b g1c (List.map_replicate (f := EV.encI)).symm (List.length_replicate ..) (fun _ _ h => h)) (by kernel_rfl) ?_
 refine o_runs 1 [(7, .sl 1 16 (((List.replicate (Int.toNat (List.length p.Defs : Int)) (0 : Int))).length) 0 (((List.replicate (Int.toNat (List.length p.Defs : Int)) (0 : Int))).length))] (by kernel_rfl) ?_
 refine ov_nil (nrm_thenV (v_seq (vr_text (o_runs 1 [(18, .agg (enc_Plan p))] (by kernel_rfl) ?_))))
 obtain ⟨y1, c1, hs⟩ := bind_some hs
 refine o_pure (v := .tup [.nils, .nils, .int .i64 y1]) (by kernel_rfl) (by kernel_rfl) (loc_gcall0 (callV_func hbv78 (by kernel_rfl)) (w_greenbeltref16_Order p _ c1) (by kernel_rfl)) ?_
 refine o_runs 7 [(10, .int .i64 y1), (9, .nils), (8, .nils), (22, .int .i64 y1), (21, .nils), (20, .nils), (17, .tup [.nils, .nils, .int .i64 y1])] (by kernel_rfl) ?_
 refine ov_nil (nrm_thenV (v_seq (v_seq (vr_text (o_runs 2 [(24, .bool (!(decide (y1 = 0)))), (23, .int .i64 y1)] (by kernel_rfl) ?_)))))
 refine ov_nil (nrm_thenV ?_)
 refine v_cond (!(decide (y1 = 0))) (by kernel_rfl) (fun h1 => ?_) (fun h1 => ?_)
 ·replace hs := bif_t h1 hs
  refine v_seq (vr_text (o_runs 2 [(6, .sl 1 16 (((List.replicate (Int.toNat (List.length p.Defs : Int)) (0 : Int))).length) 0 (((List.replicate (Int.toNat (List.length p.Defs : Int)) (0 : Int))).length)), (25, .sl 1 16 (((List.replicate (Int.toNat (List.length p.Defs : Int)) (0 : Int))).length) 0 (((List.replicate (Int.toNat (List.length p.Defs : Int)) (0 : Int))).length))] (by kernel_rfl) ?_))
  refine ov_nil (nrm_thenV (v_to _ [(16, .row 3 1 (((List.map EV.encI (List.replicate (Int.toNat (List.length p.Defs : Int)) (0 : Int)))).length) (List.map EV.encI (List.replicate (Int.toNat (List.length p.Defs : Int)) (0 : Int)))), (3, .box 81 [.vs 6 (List.map enc_Def p.Defs), .vs 3 (List.map enc_Table p.Tables), .vs 3 (List.map enc_Zone p.Zones), .vs 20 (List.map enc_Rule p.Rules), .vs 4 (List.map enc_Cap p.Caps), .vs 6 (List.map enc_View p.Views), .vs 3 (List.map enc_Point3 p.Sun), .int .i64 p.Hours])] (cut_freeze (F := [(16, .row 3 1 0 (List.map EV.encI (List.replicate (Int.toNat (List.length p.Defs : Int)) (0 : Int))))]) [16] rfl (by kernel_rfl) (by kernel_rfl)) ?_))
  refine v_to ((6, .vs 1 (List.map EV.encI (List.replicate (Int.toNat (List.length p.Defs : Int)) (0 : Int)))) :: _) _ (cut_view (R := [(16, .row 3 1 (((List.map EV.encI (List.replicate (Int.toNat (List.length p.Defs : Int)) (0 : Int)))).length) (List.map EV.encI (List.replicate (Int.toNat (List.length p.Defs : Int)) (0 : Int))))]) (ks := [16]) (by kernel_rfl) (by kernel_rfl) (.row (t := 3) (fz := (((List.map EV.encI (List.replicate (Int.toNat (List.length p.Defs : Int)) (0 : Int)))).length)) (by kernel_rfl) (by first | (simp only [List.length_map, List.length_set]; done) | rfl))) ?_
  refine v_ret (ret_thenV ?_)
  obtain rfl := si hs
  exact fin_ret (by kernel_rfl) (by kernel_rfl) (by kernel_rfl)
 ·replace hs := bif_f h1 hs
  refine v_skip (nrm_thenV (v_seq (v_seq (vr_text (o_runs 1 [(11, .int .i64 0)] (by kernel_rfl) ?_)))))
  refine ov_nil (nrm_thenV ?_)
  obtain ⟨z1, hs, hk1⟩ := bind_some hs
  refine v_join (S := Unit) (fun u => u = z1) (fun u => [(7, .sl 1 16 (((List.replicate (Int.toNat (List.length p.Defs : Int)) (0 : Int))).length) 0 (((List.replicate (Int.toNat (List.length p.Defs : Int)) (0 : Int))).length))]) (fun u => [(16, .row 3 1 0 (List.map EV.encI (List.replicate (Int.toNat (List.length p.Defs : Int)) (0 : Int))))]) ?_ (fun v1 hz => ?_)
  ·refine v_block ?_
   refine v_fuel (S := Unit) (fun u => [(1, .vs 2 (List.map enc_Entry measures)), (2, .vs 1 (List.map EV.encS zones)), (3, .ptr 3 0 0), (7, .sl 1 16 (((List.replicate (Int.toNat (List.length p.Defs : Int)) (0 : Int))).length) 0 (((List.replicate (Int.toNat (List.length p.Defs : Int)) (0 : Int))).length)), (8, .nils), (11, .int .i64 0)]) (fun u => [(16, .row 3 1 0 (List.map EV.encI (List.replicate (Int.toNat (List.length p.Defs : Int)) (0 : Int)))), (3, .box 81 [.vs 6 (List.map enc_Def p.Defs), .vs 3 (List.map enc_Table p.Tables), .vs 3 (List.map enc_Zone p.Zones), .vs 20 (List.map enc_Rule p.Rules), .vs 4 (List.map enc_Cap p.Caps), .vs 6 (List.map enc_View p.Views), .vs 3 (List.map enc_Point3 p.Sun), .int .i64 p.Hours])]) s_greenbeltref17_All_L1 (fun _ => rfl) KK () hs (cut_of [1, 2, 3, 7, 8, 11] [16, 3] (by kernel_rfl) (by kernel_rfl) (by kernel_rfl)) (fun K1 q1 hs => ?_)
   rw [s_greenbeltref17_All_L1] at hs
   show WpV cK0 Tryz.prog none 56 _ _ [(1, .vs 2 (List.map enc_Entry measures)), (2, .vs 1 (List.map EV.encS zones)), (3, .ptr 3 0 0), (7, .sl 1 16 (((List.replicate (Int.toNat (List.length p.Defs : Int)) (0 : Int))).length) 0 (((List.replicate (Int.toNat (List.length p.Defs : Int)) (0 : Int))).length)), (8, .nils), (11, .int .i64 0)] [(16, .row 3 1 0 (List.map EV.encI (List.replicate (Int.toNat (List.length p.Defs : Int)) (0 : Int)))), (3, .box 81 [.vs 6 (List.map enc_Def p.Defs), .vs 3 (List.map enc_Table p.Tables), .vs 3 (List.map enc_Zone p.Zones), .vs 20 (List.map enc_Rule p.Rules), .vs 4 (List.map enc_Cap p.Caps), .vs 6 (List.map enc_View p.Views), .vs 3 (List.map enc_Point3 p.Sun), .int .i64 p.Hours])] []
   refine v_seq (v_seq (vr_text (o_runs 4 [(29, .bool false), (28, .int .i64 0), (27, .nils), (26, .int .i64 0)] (by kernel_rfl) ?_)))
   refine ov_nil (nrm_thenV (v_cond_f (by kernel_rfl) ?_))
   refine v_exit (exit_thenV (exit_fuel ?_))
   refine exit_blkV ?_
   obtain rfl := si hs
   refine nrm_join () rfl ?_
   exact cut_of [7] [16] (by kernel_rfl) (by kernel_rfl) (by kernel_rfl)
  ·subst hz; clear hs; have hs := hk1; clear hk1
   refine nrm_thenV (v_seq (vr_text (o_runs 2 [(6, .sl 1 16 (((List.replicate (Int.toNat (List.length p.Defs : Int)) (0 : Int))).length) 0 (((List.replicate (Int.toNat (List.length p.Defs : Int)) (0 : Int))).length)), (55, .sl 1 16 (((List.replicate (Int.toNat (List.length p.Defs : Int)) (0 : Int))).length) 0 (((List.replicate (Int.toNat (List.length p.Defs : Int)) (0 : Int))).length))] (by kernel_rfl) ?_)))
   refine ov_nil (nrm_thenV (v_to _ [(16, .row 3 1 (((List.map EV.encI (List.replicate (Int.toNat (List.length p.Defs : Int)) (0 : Int)))).length) (List.map EV.encI (List.replicate (Int.toNat (List.length p.Defs : Int)) (0 : Int))))] (cut_freeze (F := [(16, .row 3 1 0 (List.map EV.encI (List.replicate (Int.toNat (List.length p.Defs : Int)) (0 : Int))))]) [16] rfl (by kernel_rfl) (by kernel_rfl)) ?_))
   refine v_to ((6, .vs 1 (List.map EV.encI (List.replicate (Int.toNat (List.length p.Defs : Int)) (0 : Int)))) :: _) _ (cut_view (R := [(16, .row 3 1 (((List.map EV.encI (List.replicate (Int.toNat (List.length p.Defs : Int)) (0 : Int)))).length) (List.map EV.encI (List.replicate (Int.toNat (List.length p.Defs : Int)) (0 : Int))))]) (ks := [16]) (by kernel_rfl) (by kernel_rfl) (.row (t := 3) (fz := (((List.map EV.encI (List.replicate (Int.toNat (List.length p.Defs : Int)) (0 : Int)))).length)) (by kernel_rfl) (by first | (simp only [List.length_map, List.length_set]; done) | rfl))) ?_
   refine v_ret ?_
   obtain rfl := si hs
   exact fin_ret (by kernel_rfl) (by kernel_rfl) (by kernel_rfl)
theorem w_greenbeltref17_named (p : Plan) (measures : (List Entry)) (defs : (List Int)) (s : (List UInt8)) (r : Int) (hs : s_greenbeltref17_named p measures defs s = some r) : FnA Tryz.prog 73 [.agg (enc_Plan p), .vs 2 (List.map enc_Entry measures), .vs 1 (List.map EV.encI defs), .str s] [] (.int .i64 r) [] := by
 refine fnA_of_wp (N := 54) Tryz.func73 rfl rfl rfl fun cK0 => ?_
 unfold s_greenbeltref17_named at hs
 refine v_same (ρ' := [(0, .agg (enc_Plan p)), (1, .vs 2 (List.map enc_Entry measures)), (2, .vs 1 (List.map EV.encI defs)), (3, .str s)]) rfl rfl ?_
 refine v_seq (vr_text (o_runh 2 [(8, .int .i64 0), (4, .ptr 4 0 0)] [(4, .box 81 [.vs 6 (List.map enc_Def p.Defs), .vs 3 (List.map enc_Table p.Tables), .vs 3 (List.map enc_Zone p.Zones), .vs 20 (List.map enc_Rule p.Rules), .vs 4 (List.map enc_Cap p.Caps), .vs 6 (List.map enc_View p.Views), .vs 3 (List.map enc_Point3 p.Sun), .int .i64 p.Hours])] (by kernel_rfl) ?_))
 refine ov_nil (nrm_thenV (v_seq (v_seq (vr_text (o_runs 1 [(9, .int .i64 0)] (by kernel_rfl) ?_)))))
 refine ov_nil (nrm_thenV ?_)
 obtain ⟨z1, hs, hk1⟩ := bind_some hs
 refine v_join (S := Unit) (fun u => z1 = .inr u) (fun u => [(2, .vs 1 (List.map EV.encI defs)), (3, .str s), (4, .ptr 4 0 0)]) (fun u => [(4, .box 81 [.vs 6 (List.map enc_Def p.Defs), .vs 3 (List.map enc_Table p.Tables), .vs 3 (List.map enc_Zone p.Zones), .vs 20 (List.map enc_Rule p.Rules), .vs 4 (List.map enc_Cap p.Caps), .vs 6 (List.map enc_View p.Views), .vs 3 (List.map enc_Point3 p.Sun), .int .i64 p.Hours])]) ?_ (fun v1 hz => ?_)
 ·refine v_block ?_
  refine v_fuel (S := Int) (fun u => [(1, .vs 2 (List.map enc_Entry measures)), (2, .vs 1 (List.map EV.encI defs)), (3, .str s), (4, .ptr 4 0 0), (9, .int .i64 u)]) (fun u => [(4, .box 81 [.vs 6 (List.map enc_Def p.Defs), .vs 3 (List.map enc_Table p.Tables), .vs 3 (List.map enc_Zone p.Zones), .vs 20 (List.map enc_Rule p.Rules), .vs 4 (List.map enc_Cap p.Caps), .vs 6 (List.map enc_View p.Views), .vs 3 (List.map enc_Point3 p.Sun), .int .i64 p.Hours])]) (s_greenbeltref17_named_L1 measures s) (fun _ => rfl) KK 0 hs (cut_of [1, 2, 3, 4, 9] [4] (by kernel_rfl) (by kernel_rfl) (by kernel_rfl)) (fun K1 q1 hs => ?_)
  rw [s_greenbeltref17_named_L1] at hs
  show WpV cK0 Tryz.prog none 54 _ _ [(1, .vs 2 (List.map enc_Entry measures)), (2, .vs 1 (List.map EV.encI defs)), (3, .str s), (4, .ptr 4 0 0), (9, .int .i64 q1)] [(4, .box 81 [.vs 6 (List.map enc_Def p.Defs), .vs 3 (List.map enc_Table p.Tables), .vs 3 (List.map enc_Zone p.Zones), .vs 20 (List.map enc_Rule p.Rules), .vs 4 (List.map enc_Cap p.Caps), .vs 6 (List.map enc_View p.Views), .vs 3 (List.map enc_Point3 p.Sun), .int .i64 p.Hours])] []
  refine v_seq (v_seq (vr_text (o_runs 2 [(12, .vs 2 (List.map enc_Entry measures)), (11, .int .i64 q1)] (by kernel_rfl) ?_)))
  refine o_pure (v := .int .i64 (List.length measures : Int)) (by kernel_rfl) (by kernel_rfl) (loc_lenVs (sz := 2) (els := (List.map enc_Entry measures)) (by kernel_rfl) (by kernel_rfl) (List.length_map ..)) ?_
  refine o_runs 1 [(14, .bool (decide (q1 < (List.length measures : Int))))] (by kernel_rfl) ?_
  refine ov_nil (nrm_thenV ?_)
  refine v_cond (decide (q1 < (List.length measures : Int))) (by kernel_rfl) (fun h1 => ?_) (fun h1 => ?_)
  ·replace hs := bif_t h1 hs
   refine v_skip (nrm_thenV (v_seq (v_block (v_seq (vr_text (o_runs 2 [(18, .int .i64 q1), (17, .vs 2 (List.map enc_Entry measures))] (by kernel_rfl) ?_))))))
   obtain ⟨x1, g1, hs⟩ := bind_some hs; obtain ⟨g1a, g1b, g1c⟩ := idx_some g1
   refine o_pure (v := .vp (enc_Entry x1) 0) (by kernel_rfl) (by kernel_rfl) (loc_indexVs (e := 71) (sz := 2) (k := .i64) (els := (List.map enc_Entry measures)) (cs := (enc_Entry x1)) (by kernel_rfl) (by kernel_rfl) (by kernel_rfl) g1a (by rw [g1c]; exact map_get _ (by omega))) ?_
   refine o_runs 4 [(23, .bool (decide (x1.Name = s))), (22, .str s), (21, .str x1.Name), (20, .vp (enc_Entry x1) 0)] (by kernel_rfl) ?_
   refine ov_nil (nrm_thenV ?_)
   refine v_cond (decide (x1.Name = s)) (by kernel_rfl) (fun h2 => ?_) (fun h2 => ?_)
   ·replace hs := bif_t h2 hs
    refine v_seq (vr_text (o_runs 2 [(25, .int .i64 q1), (24, .vs 2 (List.map enc_Entry measures))] (by kernel_rfl) ?_))
    obtain ⟨x2, g2, hs⟩ := bind_some hs; obtain ⟨g2a, g2b, g2c⟩ := idx_some g2
    refine o_pure (v := .vp (enc_Entry x2) 0) (by kernel_rfl) (by kernel_rfl) (loc_indexVs (e := 71) (sz := 2) (k := .i64) (els := (List.map enc_Entry measures)) (cs := (enc_Entry x2)) (by kernel_rfl) (by kernel_rfl) (by kernel_rfl) g2a (by rw [g2c]; exact map_get _ (by omega))) ?_
    refine o_runs 3 [(8, .int .i64 x2.N), (28, .int .i64 x2.N), (27, .vp (enc_Entry x2) 1)] (by kernel_rfl) ?_
    refine ov_nil (nrm_thenV (v_ret (ret_blkV (ret_thenV (ret_fuel ?_)))))
    refine ret_blkV (ret_join ?_)
    refine ret_thenV ?_
    obtain rfl := si hs
    replace hs := hk1
    obtain rfl := si hs
    exact fin_ret (by kernel_rfl) (by kernel_rfl) (by kernel_rfl)
   ·replace hs := bif_f h2 hs
    refine v_skip (nrm_blkV (nrm_thenV (vr_text (o_runs 3 [(9, .int .i64 (w64 (q1 + 1))), (16, .int .i64 (w64 (q1 + 1))), (15, .int .i64 q1)] (by kernel_rfl) ?_))))
    refine ov_nil (nrm_fuel (w64 (q1 + 1)) hs ?_)
    exact cut_of [1, 2, 3, 4, 9] [4] (by kernel_rfl) (by kernel_rfl) (by kernel_rfl)
  ·replace hs := bif_f h1 hs
   refine v_exit (exit_thenV (exit_fuel ?_))
   refine exit_blkV ?_
   obtain rfl := si hs
   refine nrm_join () rfl ?_
   exact cut_of [2, 3, 4] [4] (by kernel_rfl) (by kernel_rfl) (by kernel_rfl)
 ·subst hz; clear hs; have hs := hk1; clear hk1
  refine nrm_thenV (v_seq (v_seq (vr_text (o_runs 1 [(10, .int .i64 0)] (by kernel_rfl) ?_))))
  refine ov_nil (nrm_thenV ?_)
  obtain ⟨z2, hs, hk2⟩ := bind_some hs
  refine v_join (S := Unit) (fun u => z2 = .inr u) (fun u => []) (fun u => []) ?_ (fun v2 hz => ?_)
  ·refine v_block ?_
   refine v_fuel (S := Int) (fun u => [(2, .vs 1 (List.map EV.encI defs)), (3, .str s), (4, .ptr 4 0 0), (10, .int .i64 u)]) (fun u => [(4, .box 81 [.vs 6 (List.map enc_Def p.Defs), .vs 3 (List.map enc_Table p.Tables), .vs 3 (List.map enc_Zone p.Zones), .vs 20 (List.map enc_Rule p.Rules), .vs 4 (List.map enc_Cap p.Caps), .vs 6 (List.map enc_View p.Views), .vs 3 (List.map enc_Point3 p.Sun), .int .i64 p.Hours])]) (s_greenbeltref17_named_L2 p defs s) (fun _ => rfl) KK 0 hs (cut_of [2, 3, 4, 10] [4] (by kernel_rfl) (by kernel_rfl) (by kernel_rfl)) (fun K2 q2 hs => ?_)
   rw [s_greenbeltref17_named_L2] at hs
   show WpV cK0 Tryz.prog none 54 _ _ [(2, .vs 1 (List.map EV.encI defs)), (3, .str s), (4, .ptr 4 0 0), (10, .int .i64 q2)] [(4, .box 81 [.vs 6 (List.map enc_Def p.Defs), .vs 3 (List.map enc_Table p.Tables), .vs 3 (List.map enc_Zone p.Zones), .vs 20 (List.map enc_Rule p.Rules), .vs 4 (List.map enc_Cap p.Caps), .vs 6 (List.map enc_View p.Views), .vs 3 (List.map enc_Point3 p.Sun), .int .i64 p.Hours])] []
   refine v_seq (v_seq ?_)
   obtain ⟨z3, hs, hk3⟩ := bind_some hs
   refine v_join (S := Bool) (fun u => u = z3) (fun u => [(2, .vs 1 (List.map EV.encI defs)), (3, .str s), (4, .ptr 4 0 0), (10, .int .i64 q2), (39, .bool u)]) (fun u => [(4, .box 81 [.vs 6 (List.map enc_Def p.Defs), .vs 3 (List.map enc_Table p.Tables), .vs 3 (List.map enc_Zone p.Zones), .vs 20 (List.map enc_Rule p.Rules), .vs 4 (List.map enc_Cap p.Caps), .vs 6 (List.map enc_View p.Views), .vs 3 (List.map enc_Point3 p.Sun), .int .i64 p.Hours])]) ?_ (fun v3 hz => ?_)
   ·refine vr_text (o_runs 3 [(31, .vs 6 (List.map enc_Def p.Defs)), (30, .ptr 4 0 0), (29, .int .i64 q2)] (by kernel_rfl) ?_)
    refine o_pure (v := .int .i64 (List.length p.Defs : Int)) (by kernel_rfl) (by kernel_rfl) (loc_lenVs (sz := 6) (els := (List.map enc_Def p.Defs)) (by kernel_rfl) (by kernel_rfl) (List.length_map ..)) ?_
    refine o_runs 2 [(34, .bool (decide (q2 < (List.length p.Defs : Int)))), (33, .bool (decide (q2 < (List.length p.Defs : Int))))] (by kernel_rfl) ?_
    cases h3 : ((decide (q2 < (List.length p.Defs : Int))))
    ·replace hs := bif_f h3 hs
     refine o_runs 5 [(39, .bool false), (38, .no), (37, .no), (36, .no), (35, .no)] (by kernel_rfl) ?_
     refine ov_nil ?_
     obtain rfl := si hs
     refine nrm_join false rfl ?_
     exact cut_of [2, 3, 4, 10, 39] [4] (by kernel_rfl) (by kernel_rfl) (by kernel_rfl)
    ·replace hs := bif_t h3 hs
     refine o_runs 2 [(36, .vs 1 (List.map EV.encI defs)), (35, .int .i64 q2)] (by kernel_rfl) ?_
     refine o_pure (v := .int .i64 (List.length defs : Int)) (by kernel_rfl) (by kernel_rfl) (loc_lenVs (sz := 1) (els := (List.map EV.encI defs)) (by kernel_rfl) (by kernel_rfl) (List.length_map ..)) ?_
     refine o_runs 2 [(39, .bool (decide (q2 < (List.length defs : Int)))), (38, .bool (decide (q2 < (List.length defs : Int))))] (by kernel_rfl) ?_
     refine ov_nil ?_
     obtain rfl := si hs
     refine nrm_join (decide (q2 < (List.length defs : Int))) rfl ?_
     exact cut_of [2, 3, 4, 10, 39] [4] (by kernel_rfl) (by kernel_rfl) (by kernel_rfl)
   ·subst hz; clear hs; have hs := hk3; clear hk3
    refine nrm_thenV ?_
    refine v_cond v3 (by kernel_rfl) (fun h4 => ?_) (fun h4 => ?_)
    ·replace hs := bif_t h4 hs
     refine v_skip (nrm_thenV (v_seq (v_block (v_seq (vr_text (o_runs 3 [(44, .int .i64 q2), (43, .vs 6 (List.map enc_Def p.Defs)), (42, .ptr 4 0 0)] (by kernel_rfl) ?_))))))
     obtain ⟨x3, g3, hs⟩ := bind_some hs; obtain ⟨g3a, g3b, g3c⟩ := idx_some g3
     refine o_pure (v := .vp (enc_Def x3) 0) (by kernel_rfl) (by kernel_rfl) (loc_indexVs (e := 106) (sz := 6) (k := .i64) (els := (List.map enc_Def p.Defs)) (cs := (enc_Def x3)) (by kernel_rfl) (by kernel_rfl) (by kernel_rfl) g3a (by rw [g3c]; exact map_get _ (by omega))) ?_
     refine o_runs 4 [(49, .bool (decide (x3.Name = s))), (48, .str s), (47, .str x3.Name), (46, .vp (enc_Def x3) 0)] (by kernel_rfl) ?_
     refine ov_nil (nrm_thenV ?_)
     refine v_cond (decide (x3.Name = s)) (by kernel_rfl) (fun h5 => ?_) (fun h5 => ?_)
     ·replace hs := bif_t h5 hs
      refine v_seq (vr_text (o_runs 2 [(51, .int .i64 q2), (50, .vs 1 (List.map EV.encI defs))] (by kernel_rfl) ?_))
      obtain ⟨x4, g4, hs⟩ := bind_some hs; obtain ⟨g4a, g4b, g4c⟩ := idx_some g4
      refine o_pure (v := .vp [.int .i64 x4] 0) (by kernel_rfl) (by kernel_rfl) (loc_indexVs (e := 3) (sz := 1) (k := .i64) (els := (List.map EV.encI defs)) (cs := (EV.encI x4)) (by kernel_rfl) (by kernel_rfl) (by kernel_rfl) g4a (by rw [g4c]; exact map_get _ (by omega))) ?_
      refine o_runs 2 [(8, .int .i64 x4), (53, .int .i64 x4)] (by kernel_rfl) ?_
      refine ov_nil (nrm_thenV (v_ret (ret_blkV (ret_thenV (ret_fuel ?_)))))
      refine ret_blkV (ret_join ?_)
      refine ret_thenV ?_
      obtain rfl := si hs
      replace hs := hk2
      obtain rfl := si hs
      exact fin_ret (by kernel_rfl) (by kernel_rfl) (by kernel_rfl)
     ·replace hs := bif_f h5 hs
      refine v_skip (nrm_blkV (nrm_thenV (vr_text (o_runs 3 [(10, .int .i64 (w64 (q2 + 1))), (41, .int .i64 (w64 (q2 + 1))), (40, .int .i64 q2)] (by kernel_rfl) ?_))))
      refine ov_nil (nrm_fuel (w64 (q2 + 1)) hs ?_)
      exact cut_of [2, 3, 4, 10] [4] (by kernel_rfl) (by kernel_rfl) (by kernel_rfl)
    ·replace hs := bif_f h4 hs
     refine v_exit (exit_thenV (exit_fuel ?_))
     refine exit_blkV ?_
     obtain rfl := si hs
     refine nrm_join () rfl ?_
     exact cut_of [] [] (by kernel_rfl) (by kernel_rfl) (by kernel_rfl)
  ·subst hz; clear hs; have hs := hk2; clear hk2
   refine nrm_thenV (v_seq (vr_text (o_runs 1 [(8, .int .i64 0)] (by kernel_rfl) ?_)))
   refine ov_nil (nrm_thenV (v_ret ?_))
   obtain rfl := si hs
   exact fin_ret (by kernel_rfl) (by kernel_rfl) (by kernel_rfl)
theorem w_greenbeltref17_row (p : Plan) (name : (List UInt8)) (key : (List UInt8)) (r : Int) (hs : s_greenbeltref17_row p name key = some r) : FnA Tryz.prog 74 [.agg (enc_Plan p), .str name, .str key] [] (.int .i64 r) [] := by
 refine fnA_of_wp (N := 53) Tryz.func74 rfl rfl rfl fun cK0 => ?_
 unfold s_greenbeltref17_row at hs
 refine v_same (ρ' := [(0, .agg (enc_Plan p)), (1, .str name), (2, .str key)]) rfl rfl ?_
 refine v_seq (vr_text (o_runh 2 [(6, .int .i64 0), (3, .ptr 3 0 0)] [(3, .box 81 [.vs 6 (List.map enc_Def p.Defs), .vs 3 (List.map enc_Table p.Tables), .vs 3 (List.map enc_Zone p.Zones), .vs 20 (List.map enc_Rule p.Rules), .vs 4 (List.map enc_Cap p.Caps), .vs 6 (List.map enc_View p.Views), .vs 3 (List.map enc_Point3 p.Sun), .int .i64 p.Hours])] (by kernel_rfl) ?_))
 refine ov_nil (nrm_thenV (v_seq (v_seq (vr_text (o_runs 1 [(7, .int .i64 0)] (by kernel_rfl) ?_)))))
 refine ov_nil (nrm_thenV ?_)
 obtain ⟨z1, hs, hk1⟩ := bind_some hs
 refine v_join (S := Unit) (fun u => z1 = .inr u) (fun u => []) (fun u => []) ?_ (fun v1 hz => ?_)
 ·refine v_block ?_
  refine v_fuel (S := Int) (fun u => [(1, .str name), (2, .str key), (3, .ptr 3 0 0), (7, .int .i64 u)]) (fun u => [(3, .box 81 [.vs 6 (List.map enc_Def p.Defs), .vs 3 (List.map enc_Table p.Tables), .vs 3 (List.map enc_Zone p.Zones), .vs 20 (List.map enc_Rule p.Rules), .vs 4 (List.map enc_Cap p.Caps), .vs 6 (List.map enc_View p.Views), .vs 3 (List.map enc_Point3 p.Sun), .int .i64 p.Hours])]) (s_greenbeltref17_row_L1 p name key) (fun _ => rfl) KK 0 hs (cut_of [1, 2, 3, 7] [3] (by kernel_rfl) (by kernel_rfl) (by kernel_rfl)) (fun K1 q1 hs => ?_)
  rw [s_greenbeltref17_row_L1] at hs
  show WpV cK0 Tryz.prog none 53 _ _ [(1, .str name), (2, .str key), (3, .ptr 3 0 0), (7, .int .i64 q1)] [(3, .box 81 [.vs 6 (List.map enc_Def p.Defs), .vs 3 (List.map enc_Table p.Tables), .vs 3 (List.map enc_Zone p.Zones), .vs 20 (List.map enc_Rule p.Rules), .vs 4 (List.map enc_Cap p.Caps), .vs 6 (List.map enc_View p.Views), .vs 3 (List.map enc_Point3 p.Sun), .int .i64 p.Hours])] []
  refine v_seq (v_seq (vr_text (o_runs 3 [(12, .vs 3 (List.map enc_Table p.Tables)), (11, .ptr 3 0 1), (10, .int .i64 q1)] (by kernel_rfl) ?_)))
  refine o_pure (v := .int .i64 (List.length p.Tables : Int)) (by kernel_rfl) (by kernel_rfl) (loc_lenVs (sz := 3) (els := (List.map enc_Table p.Tables)) (by kernel_rfl) (by kernel_rfl) (List.length_map ..)) ?_
  refine o_runs 1 [(14, .bool (decide (q1 < (List.length p.Tables : Int))))] (by kernel_rfl) ?_
  refine ov_nil (nrm_thenV ?_)
  refine v_cond (decide (q1 < (List.length p.Tables : Int))) (by kernel_rfl) (fun h1 => ?_) (fun h1 => ?_)
  ·replace hs := bif_t h1 hs
   refine v_skip (nrm_thenV (v_seq (v_block (v_seq (v_seq (vr_text (o_runs 3 [(19, .int .i64 q1), (18, .vs 3 (List.map enc_Table p.Tables)), (17, .ptr 3 0 1)] (by kernel_rfl) ?_)))))))
   obtain ⟨x1, g1, hs⟩ := bind_some hs; obtain ⟨g1a, g1b, g1c⟩ := idx_some g1
   refine o_pure (v := .vp (enc_Table x1) 0) (by kernel_rfl) (by kernel_rfl) (loc_indexVs (e := 133) (sz := 3) (k := .i64) (els := (List.map enc_Table p.Tables)) (cs := (enc_Table x1)) (by kernel_rfl) (by kernel_rfl) (by kernel_rfl) g1a (by rw [g1c]; exact map_get _ (by omega))) ?_
   refine o_runs 4 [(24, .bool (!(decide (x1.Name = name)))), (23, .str name), (22, .str x1.Name), (21, .vp (enc_Table x1) 0)] (by kernel_rfl) ?_
   refine ov_nil (nrm_thenV ?_)
   refine v_cond (!(decide (x1.Name = name))) (by kernel_rfl) (fun h2 => ?_) (fun h2 => ?_)
   ·replace hs := bif_t h2 hs
    refine v_exit (exit_thenV (exit_blkV (nrm_thenV (vr_text (o_runs 3 [(7, .int .i64 (w64 (q1 + 1))), (16, .int .i64 (w64 (q1 + 1))), (15, .int .i64 q1)] (by kernel_rfl) ?_)))))
    refine ov_nil (nrm_fuel (w64 (q1 + 1)) hs ?_)
    exact cut_of [1, 2, 3, 7] [3] (by kernel_rfl) (by kernel_rfl) (by kernel_rfl)
   ·replace hs := bif_f h2 hs
    refine v_skip (nrm_thenV (v_seq (vr_text (o_runs 3 [(27, .int .i64 q1), (26, .vs 3 (List.map enc_Table p.Tables)), (25, .ptr 3 0 1)] (by kernel_rfl) ?_))))
    obtain ⟨x2, g2, hs⟩ := bind_some hs; obtain ⟨g2a, g2b, g2c⟩ := idx_some g2
    refine o_pure (v := .vp (enc_Table x2) 0) (by kernel_rfl) (by kernel_rfl) (loc_indexVs (e := 133) (sz := 3) (k := .i64) (els := (List.map enc_Table p.Tables)) (cs := (enc_Table x2)) (by kernel_rfl) (by kernel_rfl) (by kernel_rfl) g2a (by rw [g2c]; exact map_get _ (by omega))) ?_
    refine o_runh 3 [(8, .ptr 8 0 0), (29, .agg (enc_Table x2))] [(8, .box 133 [.str x2.Name, .vs 2 (List.map enc_Entry x2.Rows), .int .i64 x2.Else]), (3, .box 81 [.vs 6 (List.map enc_Def p.Defs), .vs 3 (List.map enc_Table p.Tables), .vs 3 (List.map enc_Zone p.Zones), .vs 20 (List.map enc_Rule p.Rules), .vs 4 (List.map enc_Cap p.Caps), .vs 6 (List.map enc_View p.Views), .vs 3 (List.map enc_Point3 p.Sun), .int .i64 p.Hours])] (by kernel_rfl) ?_
    refine ov_nil (nrm_thenV (v_seq (v_seq (vr_text (o_runs 1 [(9, .int .i64 0)] (by kernel_rfl) ?_)))))
    refine ov_nil (nrm_thenV ?_)
    obtain ⟨z2, hs, hk2⟩ := bind_some hs
    refine v_join (S := Unit) (fun u => z2 = .inr u) (fun u => [(8, .ptr 8 0 0)]) (fun u => [(8, .box 133 [.str x2.Name, .vs 2 (List.map enc_Entry x2.Rows), .int .i64 x2.Else])]) ?_ (fun v2 hz => ?_)
    ·refine v_block ?_
     refine v_fuel (S := Int) (fun u => [(2, .str key), (8, .ptr 8 0 0), (9, .int .i64 u)]) (fun u => [(8, .box 133 [.str x2.Name, .vs 2 (List.map enc_Entry x2.Rows), .int .i64 x2.Else])]) (s_greenbeltref17_row_L2 key x2) (fun _ => rfl) KK 0 hs (cut_of [2, 8, 9] [8] (by kernel_rfl) (by kernel_rfl) (by kernel_rfl)) (fun K2 q2 hs => ?_)
     rw [s_greenbeltref17_row_L2] at hs
     show WpV cK0 Tryz.prog none 53 _ _ [(2, .str key), (8, .ptr 8 0 0), (9, .int .i64 q2)] [(8, .box 133 [.str x2.Name, .vs 2 (List.map enc_Entry x2.Rows), .int .i64 x2.Else])] []
     refine v_seq (v_seq (vr_text (o_runs 3 [(32, .vs 2 (List.map enc_Entry x2.Rows)), (31, .ptr 8 0 1), (30, .int .i64 q2)] (by kernel_rfl) ?_)))
     refine o_pure (v := .int .i64 (List.length x2.Rows : Int)) (by kernel_rfl) (by kernel_rfl) (loc_lenVs (sz := 2) (els := (List.map enc_Entry x2.Rows)) (by kernel_rfl) (by kernel_rfl) (List.length_map ..)) ?_
     refine o_runs 1 [(34, .bool (decide (q2 < (List.length x2.Rows : Int))))] (by kernel_rfl) ?_
     refine ov_nil (nrm_thenV ?_)
     refine v_cond (decide (q2 < (List.length x2.Rows : Int))) (by kernel_rfl) (fun h3 => ?_) (fun h3 => ?_)
     ·replace hs := bif_t h3 hs
      refine v_skip (nrm_thenV (v_seq (v_block (v_seq (vr_text (o_runs 3 [(39, .int .i64 q2), (38, .vs 2 (List.map enc_Entry x2.Rows)), (37, .ptr 8 0 1)] (by kernel_rfl) ?_))))))
      obtain ⟨x3, g3, hs⟩ := bind_some hs; obtain ⟨g3a, g3b, g3c⟩ := idx_some g3
      refine o_pure (v := .vp (enc_Entry x3) 0) (by kernel_rfl) (by kernel_rfl) (loc_indexVs (e := 71) (sz := 2) (k := .i64) (els := (List.map enc_Entry x2.Rows)) (cs := (enc_Entry x3)) (by kernel_rfl) (by kernel_rfl) (by kernel_rfl) g3a (by rw [g3c]; exact map_get _ (by omega))) ?_
      refine o_runs 4 [(44, .bool (decide (x3.Name = key))), (43, .str key), (42, .str x3.Name), (41, .vp (enc_Entry x3) 0)] (by kernel_rfl) ?_
      refine ov_nil (nrm_thenV ?_)
      refine v_cond (decide (x3.Name = key)) (by kernel_rfl) (fun h4 => ?_) (fun h4 => ?_)
      ·replace hs := bif_t h4 hs
       refine v_seq (vr_text (o_runs 3 [(47, .int .i64 q2), (46, .vs 2 (List.map enc_Entry x2.Rows)), (45, .ptr 8 0 1)] (by kernel_rfl) ?_))
       obtain ⟨x4, g4, hs⟩ := bind_some hs; obtain ⟨g4a, g4b, g4c⟩ := idx_some g4
       refine o_pure (v := .vp (enc_Entry x4) 0) (by kernel_rfl) (by kernel_rfl) (loc_indexVs (e := 71) (sz := 2) (k := .i64) (els := (List.map enc_Entry x2.Rows)) (cs := (enc_Entry x4)) (by kernel_rfl) (by kernel_rfl) (by kernel_rfl) g4a (by rw [g4c]; exact map_get _ (by omega))) ?_
       refine o_runs 3 [(6, .int .i64 x4.N), (50, .int .i64 x4.N), (49, .vp (enc_Entry x4) 1)] (by kernel_rfl) ?_
       refine ov_nil (nrm_thenV (v_ret (ret_blkV (ret_thenV (ret_fuel ?_)))))
       refine ret_blkV (ret_join ?_)
       refine ret_thenV (ret_blkV (ret_thenV (ret_fuel ?_)))
       refine ret_blkV (ret_join ?_)
       refine ret_thenV ?_
       obtain rfl := si hs
       replace hs := hk2
       obtain rfl := si hs
       replace hs := hk1
       obtain rfl := si hs
       exact fin_ret (by kernel_rfl) (by kernel_rfl) (by kernel_rfl)
      ·replace hs := bif_f h4 hs
       refine v_skip (nrm_blkV (nrm_thenV (vr_text (o_runs 3 [(9, .int .i64 (w64 (q2 + 1))), (36, .int .i64 (w64 (q2 + 1))), (35, .int .i64 q2)] (by kernel_rfl) ?_))))
       refine ov_nil (nrm_fuel (w64 (q2 + 1)) hs ?_)
       exact cut_of [2, 8, 9] [8] (by kernel_rfl) (by kernel_rfl) (by kernel_rfl)
     ·replace hs := bif_f h3 hs
      refine v_exit (exit_thenV (exit_fuel ?_))
      refine exit_blkV ?_
      obtain rfl := si hs
      refine nrm_join () rfl ?_
      exact cut_of [8] [8] (by kernel_rfl) (by kernel_rfl) (by kernel_rfl)
    ·subst hz; clear hs; have hs := hk2; clear hk2
     refine nrm_thenV (v_seq (vr_text (o_runs 3 [(6, .int .i64 x2.Else), (52, .int .i64 x2.Else), (51, .ptr 8 0 2)] (by kernel_rfl) ?_)))
     refine ov_nil (nrm_thenV (v_ret (ret_blkV (ret_thenV (ret_fuel ?_)))))
     refine ret_blkV (ret_join ?_)
     refine ret_thenV ?_
     obtain rfl := si hs
     replace hs := hk1
     obtain rfl := si hs
     exact fin_ret (by kernel_rfl) (by kernel_rfl) (by kernel_rfl)
  ·replace hs := bif_f h1 hs
   refine v_exit (exit_thenV (exit_fuel ?_))
   refine exit_blkV ?_
   obtain rfl := si hs
   refine nrm_join () rfl ?_
   exact cut_of [] [] (by kernel_rfl) (by kernel_rfl) (by kernel_rfl)
 ·subst hz; clear hs; have hs := hk1; clear hk1
  refine nrm_thenV (v_seq (vr_text (o_runs 1 [(6, .int .i64 0)] (by kernel_rfl) ?_)))
  refine ov_nil (nrm_thenV (v_ret ?_))
  obtain rfl := si hs
  exact fin_ret (by kernel_rfl) (by kernel_rfl) (by kernel_rfl)
theorem w_greenbeltref17_has (l : (List (List UInt8))) (s : (List UInt8)) (r : Bool) (hs : s_greenbeltref17_has l s = some r) : FnA Tryz.prog 76 [.vs 1 (List.map EV.encS l), .str s] [] (.bool r) [] := by
 refine fnA_of_wp (N := 18) Tryz.func76 rfl rfl rfl fun cK0 => ?_
 unfold s_greenbeltref17_has at hs
 refine v_same (ρ' := [(0, .vs 1 (List.map EV.encS l)), (1, .str s)]) rfl rfl ?_
 refine v_seq (vr_text (o_runs 1 [(4, .bool false)] (by kernel_rfl) ?_))
 refine ov_nil (nrm_thenV (v_seq (v_seq (vr_text (o_runs 1 [(5, .int .i64 0)] (by kernel_rfl) ?_)))))
 refine ov_nil (nrm_thenV ?_)
 obtain ⟨z1, hs, hk1⟩ := bind_some hs
 refine v_join (S := Unit) (fun u => z1 = .inr u) (fun u => []) (fun u => []) ?_ (fun v1 hz => ?_)
 ·refine v_block ?_
  refine v_fuel (S := Int) (fun u => [(0, .vs 1 (List.map EV.encS l)), (1, .str s), (5, .int .i64 u)]) (fun u => []) (s_greenbeltref17_has_L1 l s) (fun _ => rfl) KK 0 hs (cut_of [0, 1, 5] [] (by kernel_rfl) (by kernel_rfl) (by kernel_rfl)) (fun K1 q1 hs => ?_)
  rw [s_greenbeltref17_has_L1] at hs
  show WpV cK0 Tryz.prog none 18 _ _ [(0, .vs 1 (List.map EV.encS l)), (1, .str s), (5, .int .i64 q1)] [] []
  refine v_seq (v_seq (vr_text (o_runs 2 [(7, .vs 1 (List.map EV.encS l)), (6, .int .i64 q1)] (by kernel_rfl) ?_)))
  refine o_pure (v := .int .i64 (List.length l : Int)) (by kernel_rfl) (by kernel_rfl) (loc_lenVs (sz := 1) (els := (List.map EV.encS l)) (by kernel_rfl) (by kernel_rfl) (List.length_map ..)) ?_
  refine o_runs 1 [(9, .bool (decide (q1 < (List.length l : Int))))] (by kernel_rfl) ?_
  refine ov_nil (nrm_thenV ?_)
  refine v_cond (decide (q1 < (List.length l : Int))) (by kernel_rfl) (fun h1 => ?_) (fun h1 => ?_)
  ·replace hs := bif_t h1 hs
   refine v_skip (nrm_thenV (v_seq (v_block (v_seq (vr_text (o_runs 2 [(13, .int .i64 q1), (12, .vs 1 (List.map EV.encS l))] (by kernel_rfl) ?_))))))
   obtain ⟨x1, g1, hs⟩ := bind_some hs; obtain ⟨g1a, g1b, g1c⟩ := idx_some g1
   refine o_pure (v := .vp [.str x1] 0) (by kernel_rfl) (by kernel_rfl) (loc_indexVs (e := 9) (sz := 1) (k := .i64) (els := (List.map EV.encS l)) (cs := (EV.encS x1)) (by kernel_rfl) (by kernel_rfl) (by kernel_rfl) g1a (by rw [g1c]; exact map_get _ (by omega))) ?_
   refine o_runs 3 [(17, .bool (decide (x1 = s))), (16, .str s), (15, .str x1)] (by kernel_rfl) ?_
   refine ov_nil (nrm_thenV ?_)
   refine v_cond (decide (x1 = s)) (by kernel_rfl) (fun h2 => ?_) (fun h2 => ?_)
   ·replace hs := bif_t h2 hs
    refine v_seq (vr_text (o_runs 1 [(4, .bool true)] (by kernel_rfl) ?_))
    refine ov_nil (nrm_thenV (v_ret (ret_blkV (ret_thenV (ret_fuel ?_)))))
    refine ret_blkV (ret_join ?_)
    refine ret_thenV ?_
    obtain rfl := si hs
    replace hs := hk1
    obtain rfl := si hs
    exact fin_ret (by kernel_rfl) (by kernel_rfl) (by kernel_rfl)
   ·replace hs := bif_f h2 hs
    refine v_skip (nrm_blkV (nrm_thenV (vr_text (o_runs 3 [(5, .int .i64 (w64 (q1 + 1))), (11, .int .i64 (w64 (q1 + 1))), (10, .int .i64 q1)] (by kernel_rfl) ?_))))
    refine ov_nil (nrm_fuel (w64 (q1 + 1)) hs ?_)
    exact cut_of [0, 1, 5] [] (by kernel_rfl) (by kernel_rfl) (by kernel_rfl)
  ·replace hs := bif_f h1 hs
   refine v_exit (exit_thenV (exit_fuel ?_))
   refine exit_blkV ?_
   obtain rfl := si hs
   refine nrm_join () rfl ?_
   exact cut_of [] [] (by kernel_rfl) (by kernel_rfl) (by kernel_rfl)
 ·subst hz; clear hs; have hs := hk1; clear hk1
  refine nrm_thenV (v_seq (vr_text (o_runs 1 [(4, .bool false)] (by kernel_rfl) ?_)))
  refine ov_nil (nrm_thenV (v_ret ?_))
  obtain rfl := si hs
  exact fin_ret (by kernel_rfl) (by kernel_rfl) (by kernel_rfl)
theorem w_greenbeltref17_bit (ok : Bool) (r : Int) (hs : s_greenbeltref17_bit ok = some r) : FnA Tryz.prog 75 [.bool ok] [] (.int .i64 r) [] := by
 refine fnA_of_wp (N := 4) Tryz.func75 rfl rfl rfl fun cK0 => ?_
 unfold s_greenbeltref17_bit at hs
 refine v_same (ρ' := [(0, .bool ok)]) rfl rfl ?_
 refine v_seq (vr_text (o_runs 1 [(2, .int .i64 0)] (by kernel_rfl) ?_))
 refine ov_nil (nrm_thenV (v_seq (v_seq (vr_text (o_runs 1 [(3, .bool ok)] (by kernel_rfl) ?_)))))
 refine ov_nil (nrm_thenV ?_)
 refine v_cond ok (by kernel_rfl) (fun h1 => ?_) (fun h1 => ?_)
 ·replace hs := bif_t h1 hs
  refine v_seq (vr_text (o_runs 1 [(2, .int .i64 1)] (by kernel_rfl) ?_))
  refine ov_nil (nrm_thenV (v_ret (ret_thenV ?_)))
  obtain rfl := si hs
  exact fin_ret (by kernel_rfl) (by kernel_rfl) (by kernel_rfl)
 ·replace hs := bif_f h1 hs
  refine v_skip (nrm_thenV (v_seq (vr_text (o_runs 1 [(2, .int .i64 0)] (by kernel_rfl) ?_))))
  refine ov_nil (nrm_thenV (v_ret ?_))
  obtain rfl := si hs
  exact fin_ret (by kernel_rfl) (by kernel_rfl) (by kernel_rfl)
theorem w_greenbeltref17_Floor (a : Int) (b : Int) (r : Int) (hs : s_greenbeltref17_Floor a b = some r) : FnA Tryz.prog 102 [.int .i64 a, .int .i64 b] [] (.int .i64 r) [] := by
 refine fnA_of_wp (N := 25) Tryz.func102 rfl rfl rfl fun cK0 => ?_
 unfold s_greenbeltref17_Floor at hs
 refine v_same (ρ' := [(0, .int .i64 a), (1, .int .i64 b)]) rfl rfl ?_
 refine v_seq (vr_text (o_runs 1 [(4, .int .i64 0)] (by kernel_rfl) ?_))
 refine ov_nil (nrm_thenV (v_seq (v_seq (vr_text (o_runs 2 [(7, .bool (decide (b = 0))), (6, .int .i64 b)] (by kernel_rfl) ?_)))))
 refine ov_nil (nrm_thenV ?_)
 refine v_cond (decide (b = 0)) (by kernel_rfl) (fun h1 => ?_) (fun h1 => ?_)
 ·replace hs := bif_t h1 hs
  refine v_seq (vr_text (o_runs 1 [(4, .int .i64 0)] (by kernel_rfl) ?_))
  refine ov_nil (nrm_thenV (v_ret (ret_thenV ?_)))
  obtain rfl := si hs
  exact fin_ret (by kernel_rfl) (by kernel_rfl) (by kernel_rfl)
 ·replace hs := bif_f h1 hs
  refine v_skip (nrm_thenV (v_seq (vr_text (o_runs 2 [(9, .int .i64 b), (8, .int .i64 a)] (by kernel_rfl) ?_))))
  obtain ⟨_, g1, hs⟩ := bind_some hs; replace g1 := grd_some g1
  refine o_pure (v := .int .i64 (w64 (Int.tdiv a b))) (by kernel_rfl) (by kernel_rfl) (loc_div (k := .i64) (a := a) (b := b) (by simp) (by kernel_rfl) (by kernel_rfl) g1) ?_
  refine o_runs 1 [(5, .int .i64 (w64 (Int.tdiv a b)))] (by kernel_rfl) ?_
  refine ov_nil (nrm_thenV (v_seq (v_seq ?_)))
  obtain ⟨z1, hs, hk1⟩ := bind_some hs
  refine v_join (S := Bool) (fun u => u = z1) (fun u => [(5, .int .i64 (w64 (Int.tdiv a b))), (21, .bool u)]) (fun u => []) ?_ (fun v1 hz => ?_)
  ·refine vr_text (o_runs 2 [(12, .int .i64 b), (11, .int .i64 a)] (by kernel_rfl) ?_)
   obtain ⟨_, g2, hs⟩ := bind_some hs; replace g2 := grd_some g2
   refine o_pure (v := .int .i64 (Int.tmod a b)) (by kernel_rfl) (by kernel_rfl) (loc_div (k := .i64) (a := a) (b := b) (by simp) (by kernel_rfl) (by kernel_rfl) g2) ?_
   refine o_runs 2 [(15, .bool (!(decide ((Int.tmod a b) = 0)))), (14, .bool (!(decide ((Int.tmod a b) = 0))))] (by kernel_rfl) ?_
   cases h2 : ((!(decide ((Int.tmod a b) = 0))))
   ·replace hs := bif_f h2 hs
    refine o_runs 6 [(21, .bool false), (20, .no), (19, .no), (18, .no), (17, .no), (16, .no)] (by kernel_rfl) ?_
    refine ov_nil ?_
    obtain rfl := si hs
    refine nrm_join false rfl ?_
    exact cut_of [5, 21] [] (by kernel_rfl) (by kernel_rfl) (by kernel_rfl)
   ·replace hs := bif_t h2 hs
    refine o_runs 6 [(21, .bool (!((decide (a < 0)) == (decide (b < 0))))), (20, .bool (!((decide (a < 0)) == (decide (b < 0))))), (19, .bool (decide (b < 0))), (18, .int .i64 b), (17, .bool (decide (a < 0))), (16, .int .i64 a)] (by kernel_rfl) ?_
    refine ov_nil ?_
    obtain rfl := si hs
    refine nrm_join (!((decide (a < 0)) == (decide (b < 0)))) rfl ?_
    exact cut_of [5, 21] [] (by kernel_rfl) (by kernel_rfl) (by kernel_rfl)
  ·subst hz; clear hs; have hs := hk1; clear hk1
   refine nrm_thenV ?_
   obtain ⟨z2, hs, hk2⟩ := bind_some hs
   refine v_join (S := Int) (fun u => u = z2) (fun u => [(5, .int .i64 u)]) (fun u => []) ?_ (fun v2 hz => ?_)
   ·refine v_cond v1 (by kernel_rfl) (fun h3 => ?_) (fun h3 => ?_)
    ·replace hs := bif_t h3 hs
     refine vr_text (o_runs 3 [(5, .int .i64 (w64 ((w64 (Int.tdiv a b)) - 1))), (23, .int .i64 (w64 ((w64 (Int.tdiv a b)) - 1))), (22, .int .i64 (w64 (Int.tdiv a b)))] (by kernel_rfl) ?_)
     refine ov_nil ?_
     obtain rfl := si hs
     refine nrm_join (w64 ((w64 (Int.tdiv a b)) - 1)) rfl ?_
     exact cut_of [5] [] (by kernel_rfl) (by kernel_rfl) (by kernel_rfl)
    ·replace hs := bif_f h3 hs
     refine v_skip ?_
     obtain rfl := si hs
     refine nrm_join (w64 (Int.tdiv a b)) rfl ?_
     exact cut_of [5] [] (by kernel_rfl) (by kernel_rfl) (by kernel_rfl)
   ·subst hz; clear hs; have hs := hk2; clear hk2
    refine nrm_thenV (v_seq (vr_text (o_runs 2 [(4, .int .i64 v2), (24, .int .i64 v2)] (by kernel_rfl) ?_)))
    refine ov_nil (nrm_thenV (v_ret ?_))
    obtain rfl := si hs
    exact fin_ret (by kernel_rfl) (by kernel_rfl) (by kernel_rfl)
theorem w_greenbeltref17_two (op : Int) (a : Int) (b : Int) (r : Int) (hs : s_greenbeltref17_two op a b = some r) : FnA Tryz.prog 77 [.int .i64 op, .int .i64 a, .int .i64 b] [] (.int .i64 r) [] := by
 refine fnA_of_wp (N := 73) Tryz.func77 rfl rfl rfl fun cK0 => ?_
 unfold s_greenbeltref17_two at hs
 refine v_same (ρ' := [(0, .int .i64 op), (1, .int .i64 a), (2, .int .i64 b)]) rfl rfl ?_
 refine v_seq (vr_text (o_runs 1 [(6, .int .i64 0)] (by kernel_rfl) ?_))
 refine ov_nil (nrm_thenV (v_seq (v_seq (vr_text (o_runs 1 [(7, .int .i64 op)] (by kernel_rfl) ?_)))))
 refine ov_nil (nrm_thenV (v_block (v_seq (vr_text (o_runs 2 [(8, .bool (decide (op = 4))), (9, .bool (decide (op = 4)))] (by kernel_rfl) ?_)))))
 refine ov_nil (nrm_thenV ?_)
 refine v_cond (decide (op = 4)) (by kernel_rfl) (fun h1 => ?_) (fun h1 => ?_)
 ·replace hs := bif_t h1 hs
  refine v_seq (vr_text (o_runs 4 [(6, .int .i64 (w64 (a + b))), (12, .int .i64 (w64 (a + b))), (11, .int .i64 b), (10, .int .i64 a)] (by kernel_rfl) ?_))
  refine ov_nil (nrm_thenV (v_ret (ret_blkV (ret_thenV ?_))))
  obtain rfl := si hs
  exact fin_ret (by kernel_rfl) (by kernel_rfl) (by kernel_rfl)
 ·replace hs := bif_f h1 hs
  refine v_seq (vr_text (o_runs 2 [(13, .bool (decide (op = 5))), (14, .bool (decide (op = 5)))] (by kernel_rfl) ?_))
  refine ov_nil (nrm_thenV ?_)
  refine v_cond (decide (op = 5)) (by kernel_rfl) (fun h2 => ?_) (fun h2 => ?_)
  ·replace hs := bif_t h2 hs
   refine v_seq (vr_text (o_runs 4 [(6, .int .i64 (w64 (a - b))), (17, .int .i64 (w64 (a - b))), (16, .int .i64 b), (15, .int .i64 a)] (by kernel_rfl) ?_))
   refine ov_nil (nrm_thenV (v_ret (ret_blkV (ret_thenV ?_))))
   obtain rfl := si hs
   exact fin_ret (by kernel_rfl) (by kernel_rfl) (by kernel_rfl)
  ·replace hs := bif_f h2 hs
   refine v_seq (vr_text (o_runs 2 [(18, .bool (decide (op = 6))), (19, .bool (decide (op = 6)))] (by kernel_rfl) ?_))
   refine ov_nil (nrm_thenV ?_)
   refine v_cond (decide (op = 6)) (by kernel_rfl) (fun h3 => ?_) (fun h3 => ?_)
   ·replace hs := bif_t h3 hs
    refine v_seq (vr_text (o_runs 4 [(6, .int .i64 (w64 (a * b))), (22, .int .i64 (w64 (a * b))), (21, .int .i64 b), (20, .int .i64 a)] (by kernel_rfl) ?_))
    refine ov_nil (nrm_thenV (v_ret (ret_blkV (ret_thenV ?_))))
    obtain rfl := si hs
    exact fin_ret (by kernel_rfl) (by kernel_rfl) (by kernel_rfl)
   ·replace hs := bif_f h3 hs
    refine v_seq (vr_text (o_runs 2 [(23, .bool (decide (op = 7))), (24, .bool (decide (op = 7)))] (by kernel_rfl) ?_))
    refine ov_nil (nrm_thenV ?_)
    refine v_cond (decide (op = 7)) (by kernel_rfl) (fun h4 => ?_) (fun h4 => ?_)
    ·replace hs := bif_t h4 hs
     refine v_seq (vr_text (o_runs 2 [(26, .int .i64 b), (25, .int .i64 a)] (by kernel_rfl) ?_))
     obtain ⟨y1, c1, hs⟩ := bind_some hs
     refine o_pure (v := .int .i64 y1) (by kernel_rfl) (by kernel_rfl) (loc_gcall0 (callV_func hbv102 (by kernel_rfl)) (w_greenbeltref17_Floor a b _ c1) (by kernel_rfl)) ?_
     refine o_runs 1 [(6, .int .i64 y1)] (by kernel_rfl) ?_
     refine ov_nil (nrm_thenV (v_ret (ret_blkV (ret_thenV ?_))))
     obtain rfl := si hs
     exact fin_ret (by kernel_rfl) (by kernel_rfl) (by kernel_rfl)
    ·replace hs := bif_f h4 hs
     refine v_seq (vr_text (o_runs 2 [(28, .bool (decide (op = 8))), (29, .bool (decide (op = 8)))] (by kernel_rfl) ?_))
     refine ov_nil (nrm_thenV ?_)
     refine v_cond (decide (op = 8)) (by kernel_rfl) (fun h5 => ?_) (fun h5 => ?_)
     ·replace hs := bif_t h5 hs
      refine v_seq (v_seq (vr_text (o_runs 2 [(31, .bool (decide (b = 0))), (30, .int .i64 b)] (by kernel_rfl) ?_)))
      refine ov_nil (nrm_thenV ?_)
      refine v_cond (decide (b = 0)) (by kernel_rfl) (fun h6 => ?_) (fun h6 => ?_)
      ·replace hs := bif_t h6 hs
       refine v_seq (vr_text (o_runs 1 [(6, .int .i64 0)] (by kernel_rfl) ?_))
       refine ov_nil (nrm_thenV (v_ret (ret_thenV (ret_blkV (ret_thenV ?_)))))
       obtain rfl := si hs
       exact fin_ret (by kernel_rfl) (by kernel_rfl) (by kernel_rfl)
      ·replace hs := bif_f h6 hs
       refine v_skip (nrm_thenV (v_seq (vr_text (o_runs 4 [(35, .int .i64 b), (34, .int .i64 a), (33, .int .i64 b), (32, .int .i64 a)] (by kernel_rfl) ?_))))
       obtain ⟨y2, c2, hs⟩ := bind_some hs
       refine o_pure (v := .int .i64 y2) (by kernel_rfl) (by kernel_rfl) (loc_gcall0 (callV_func hbv102 (by kernel_rfl)) (w_greenbeltref17_Floor a b _ c2) (by kernel_rfl)) ?_
       refine o_runs 3 [(6, .int .i64 (w64 (a - (w64 (b * y2))))), (38, .int .i64 (w64 (a - (w64 (b * y2))))), (37, .int .i64 (w64 (b * y2)))] (by kernel_rfl) ?_
       refine ov_nil (nrm_thenV (v_ret (ret_blkV (ret_thenV ?_))))
       obtain rfl := si hs
       exact fin_ret (by kernel_rfl) (by kernel_rfl) (by kernel_rfl)
     ·replace hs := bif_f h5 hs
      refine v_seq (vr_text (o_runs 2 [(39, .bool (decide (op = 10))), (40, .bool (decide (op = 10)))] (by kernel_rfl) ?_))
      refine ov_nil (nrm_thenV ?_)
      refine v_cond (decide (op = 10)) (by kernel_rfl) (fun h7 => ?_) (fun h7 => ?_)
      ·replace hs := bif_t h7 hs
       refine v_seq (vr_text (o_runs 3 [(43, .bool (decide (a = b))), (42, .int .i64 b), (41, .int .i64 a)] (by kernel_rfl) ?_))
       obtain ⟨y3, c3, hs⟩ := bind_some hs
       refine o_pure (v := .int .i64 y3) (by kernel_rfl) (by kernel_rfl) (loc_gcall0 (callV_func hbv75 (by kernel_rfl)) (w_greenbeltref17_bit (decide (a = b)) _ c3) (by kernel_rfl)) ?_
       refine o_runs 1 [(6, .int .i64 y3)] (by kernel_rfl) ?_
       refine ov_nil (nrm_thenV (v_ret (ret_blkV (ret_thenV ?_))))
       obtain rfl := si hs
       exact fin_ret (by kernel_rfl) (by kernel_rfl) (by kernel_rfl)
      ·replace hs := bif_f h7 hs
       refine v_seq (vr_text (o_runs 2 [(45, .bool (decide (op = 11))), (46, .bool (decide (op = 11)))] (by kernel_rfl) ?_))
       refine ov_nil (nrm_thenV ?_)
       refine v_cond (decide (op = 11)) (by kernel_rfl) (fun h8 => ?_) (fun h8 => ?_)
       ·replace hs := bif_t h8 hs
        refine v_seq (vr_text (o_runs 3 [(49, .bool (decide (a < b))), (48, .int .i64 b), (47, .int .i64 a)] (by kernel_rfl) ?_))
        obtain ⟨y4, c4, hs⟩ := bind_some hs
        refine o_pure (v := .int .i64 y4) (by kernel_rfl) (by kernel_rfl) (loc_gcall0 (callV_func hbv75 (by kernel_rfl)) (w_greenbeltref17_bit (decide (a < b)) _ c4) (by kernel_rfl)) ?_
        refine o_runs 1 [(6, .int .i64 y4)] (by kernel_rfl) ?_
        refine ov_nil (nrm_thenV (v_ret (ret_blkV (ret_thenV ?_))))
        obtain rfl := si hs
        exact fin_ret (by kernel_rfl) (by kernel_rfl) (by kernel_rfl)
       ·replace hs := bif_f h8 hs
        refine v_seq (vr_text (o_runs 2 [(51, .bool (decide (op = 12))), (52, .bool (decide (op = 12)))] (by kernel_rfl) ?_))
        refine ov_nil (nrm_thenV ?_)
        refine v_cond (decide (op = 12)) (by kernel_rfl) (fun h9 => ?_) (fun h9 => ?_)
        ·replace hs := bif_t h9 hs
         refine v_seq (vr_text (o_runs 3 [(55, .bool (decide (a ≤ b))), (54, .int .i64 b), (53, .int .i64 a)] (by kernel_rfl) ?_))
         obtain ⟨y5, c5, hs⟩ := bind_some hs
         refine o_pure (v := .int .i64 y5) (by kernel_rfl) (by kernel_rfl) (loc_gcall0 (callV_func hbv75 (by kernel_rfl)) (w_greenbeltref17_bit (decide (a ≤ b)) _ c5) (by kernel_rfl)) ?_
         refine o_runs 1 [(6, .int .i64 y5)] (by kernel_rfl) ?_
         refine ov_nil (nrm_thenV (v_ret (ret_blkV (ret_thenV ?_))))
         obtain rfl := si hs
         exact fin_ret (by kernel_rfl) (by kernel_rfl) (by kernel_rfl)
        ·replace hs := bif_f h9 hs
         refine v_seq (vr_text (o_runs 2 [(57, .bool (decide (op = 13))), (58, .bool (decide (op = 13)))] (by kernel_rfl) ?_))
         refine ov_nil (nrm_thenV ?_)
         refine v_cond (decide (op = 13)) (by kernel_rfl) (fun h10 => ?_) (fun h10 => ?_)
         ·replace hs := bif_t h10 hs
          refine v_seq ?_
          obtain ⟨z1, hs, hk1⟩ := bind_some hs
          refine v_join (S := Int) (fun u => u = z1) (fun u => [(6, .int .i64 u)]) (fun u => []) ?_ (fun v1 hz => ?_)
          ·refine vr_text (o_runs 3 [(61, .bool (!(decide (a = 0)))), (60, .bool (!(decide (a = 0)))), (59, .int .i64 a)] (by kernel_rfl) ?_)
           cases h11 : ((!(decide (a = 0))))
           ·replace hs := bif_f h11 hs
            refine o_runs 3 [(64, .bool false), (63, .no), (62, .no)] (by kernel_rfl) ?_
            obtain ⟨y6, c6, hs⟩ := bind_some hs
            refine o_pure (v := .int .i64 y6) (by kernel_rfl) (by kernel_rfl) (loc_gcall0 (callV_func hbv75 (by kernel_rfl)) (w_greenbeltref17_bit false _ c6) (by kernel_rfl)) ?_
            refine o_runs 1 [(6, .int .i64 y6)] (by kernel_rfl) ?_
            refine ov_nil ?_
            obtain rfl := si hs
            refine nrm_join y6 rfl ?_
            exact cut_of [6] [] (by kernel_rfl) (by kernel_rfl) (by kernel_rfl)
           ·replace hs := bif_t h11 hs
            refine o_runs 3 [(64, .bool (!(decide (b = 0)))), (63, .bool (!(decide (b = 0)))), (62, .int .i64 b)] (by kernel_rfl) ?_
            obtain ⟨y7, c7, hs⟩ := bind_some hs
            refine o_pure (v := .int .i64 y7) (by kernel_rfl) (by kernel_rfl) (loc_gcall0 (callV_func hbv75 (by kernel_rfl)) (w_greenbeltref17_bit (!(decide (b = 0))) _ c7) (by kernel_rfl)) ?_
            refine o_runs 1 [(6, .int .i64 y7)] (by kernel_rfl) ?_
            refine ov_nil ?_
            obtain rfl := si hs
            refine nrm_join y7 rfl ?_
            exact cut_of [6] [] (by kernel_rfl) (by kernel_rfl) (by kernel_rfl)
          ·subst hz; clear hs; have hs := hk1; clear hk1
           refine nrm_thenV (v_ret (ret_blkV (ret_thenV ?_)))
           obtain rfl := si hs
           exact fin_ret (by kernel_rfl) (by kernel_rfl) (by kernel_rfl)
         ·replace hs := bif_f h10 hs
          refine v_skip (nrm_blkV (nrm_thenV (v_seq ?_)))
          obtain ⟨z2, hs, hk2⟩ := bind_some hs
          refine v_join (S := Int) (fun u => u = z2) (fun u => [(6, .int .i64 u)]) (fun u => []) ?_ (fun v2 hz => ?_)
          ·refine vr_text (o_runs 3 [(68, .bool (!(decide (a = 0)))), (67, .bool (!(decide (a = 0)))), (66, .int .i64 a)] (by kernel_rfl) ?_)
           cases h12 : ((!(decide (a = 0))))
           ·replace hs := bif_f h12 hs
            refine o_runs 3 [(71, .bool (!(decide (b = 0)))), (70, .bool (!(decide (b = 0)))), (69, .int .i64 b)] (by kernel_rfl) ?_
            obtain ⟨y8, c8, hs⟩ := bind_some hs
            refine o_pure (v := .int .i64 y8) (by kernel_rfl) (by kernel_rfl) (loc_gcall0 (callV_func hbv75 (by kernel_rfl)) (w_greenbeltref17_bit (!(decide (b = 0))) _ c8) (by kernel_rfl)) ?_
            refine o_runs 1 [(6, .int .i64 y8)] (by kernel_rfl) ?_
            refine ov_nil ?_
            obtain rfl := si hs
            refine nrm_join y8 rfl ?_
            exact cut_of [6] [] (by kernel_rfl) (by kernel_rfl) (by kernel_rfl)
           ·replace hs := bif_t h12 hs
            refine o_runs 3 [(71, .bool true), (70, .no), (69, .no)] (by kernel_rfl) ?_
            obtain ⟨y9, c9, hs⟩ := bind_some hs
            refine o_pure (v := .int .i64 y9) (by kernel_rfl) (by kernel_rfl) (loc_gcall0 (callV_func hbv75 (by kernel_rfl)) (w_greenbeltref17_bit true _ c9) (by kernel_rfl)) ?_
            refine o_runs 1 [(6, .int .i64 y9)] (by kernel_rfl) ?_
            refine ov_nil ?_
            obtain rfl := si hs
            refine nrm_join y9 rfl ?_
            exact cut_of [6] [] (by kernel_rfl) (by kernel_rfl) (by kernel_rfl)
          ·subst hz; clear hs; have hs := hk2; clear hk2
           refine nrm_thenV (v_ret ?_)
           obtain rfl := si hs
           exact fin_ret (by kernel_rfl) (by kernel_rfl) (by kernel_rfl)
theorem ws_greenbeltref17_value (nF : Nat) (ih_greenbeltref17_value : ∀ (p : Plan) (measures : (List Entry)) (zones : (List (List UInt8))) (defs : (List Int)) (e : Expr) (r : Int), s_greenbeltref17_value nF p measures zones defs e = some r → FnA Tryz.prog 58 [.agg (enc_Plan p), .vs 2 (List.map enc_Entry measures), .vs 1 (List.map EV.encS zones), .vs 1 (List.map EV.encI defs), .agg (enc_Expr e)] [] (.int .i64 r) []) (p : Plan) (measures : (List Entry)) (zones : (List (List UInt8))) (defs : (List Int)) (e : Expr) (r : Int) (hs : s_greenbeltref17_value (nF + 1) p measures zones defs e = some r) : FnA Tryz.prog 58 [.agg (enc_Plan p), .vs 2 (List.map enc_Entry measures), .vs 1 (List.map EV.encS zones), .vs 1 (List.map EV.encI defs), .agg (enc_Expr e)] [] (.int .i64 r) [] := by
 refine fnA_of_wp (N := 93) Tryz.func58 rfl rfl rfl fun cK0 => ?_
 rw [s_greenbeltref17_value] at hs
 refine v_same (ρ' := [(0, .agg (enc_Plan p)), (1, .vs 2 (List.map enc_Entry measures)), (2, .vs 1 (List.map EV.encS zones)), (3, .vs 1 (List.map EV.encI defs)), (4, .agg (enc_Expr e))]) rfl rfl ?_
 refine v_seq (vr_text (o_runh 3 [(10, .int .i64 0), (9, .ptr 9 0 0), (5, .ptr 5 0 0)] [(9, .box 28 [.int .i64 e.Op, .int .i64 e.N, .str e.S, .str e.Key, .vs 5 (encs_Expr e.Args)]), (5, .box 81 [.vs 6 (List.map enc_Def p.Defs), .vs 3 (List.map enc_Table p.Tables), .vs 3 (List.map enc_Zone p.Zones), .vs 20 (List.map enc_Rule p.Rules), .vs 4 (List.map enc_Cap p.Caps), .vs 6 (List.map enc_View p.Views), .vs 3 (List.map enc_Point3 p.Sun), .int .i64 p.Hours])] (by kernel_rfl) ?_))
 refine ov_nil (nrm_thenV (v_seq (v_seq (vr_text (o_runs 2 [(16, .int .i64 e.Op), (15, .ptr 9 0 0)] (by kernel_rfl) ?_)))))
 refine ov_nil (nrm_thenV (v_block (v_seq (vr_text (o_runs 2 [(17, .bool (decide (e.Op = 0))), (18, .bool (decide (e.Op = 0)))] (by kernel_rfl) ?_)))))
 refine ov_nil (nrm_thenV ?_)
 refine v_cond (decide (e.Op = 0)) (by kernel_rfl) (fun h1 => ?_) (fun h1 => ?_)
 ·replace hs := bif_t h1 hs
  refine v_seq (vr_text (o_runs 3 [(10, .int .i64 e.N), (20, .int .i64 e.N), (19, .ptr 9 0 1)] (by kernel_rfl) ?_))
  refine ov_nil (nrm_thenV (v_ret (ret_blkV (ret_thenV ?_))))
  obtain rfl := si hs
  exact fin_ret (by kernel_rfl) (by kernel_rfl) (by kernel_rfl)
 ·replace hs := bif_f h1 hs
  refine v_seq (vr_text (o_runs 2 [(21, .bool (decide (e.Op = 1))), (22, .bool (decide (e.Op = 1)))] (by kernel_rfl) ?_))
  refine ov_nil (nrm_thenV ?_)
  refine v_cond (decide (e.Op = 1)) (by kernel_rfl) (fun h2 => ?_) (fun h2 => ?_)
  ·replace hs := bif_t h2 hs
   refine v_seq (vr_text (o_runs 5 [(27, .str e.S), (26, .ptr 9 0 2), (25, .vs 1 (List.map EV.encI defs)), (24, .vs 2 (List.map enc_Entry measures)), (23, .agg (enc_Plan p))] (by kernel_rfl) ?_))
   obtain ⟨y1, c1, hs⟩ := bind_some hs
   refine o_pure (v := .int .i64 y1) (by kernel_rfl) (by kernel_rfl) (loc_gcall0 (callV_func hbv73 (by kernel_rfl)) (w_greenbeltref17_named p measures defs e.S _ c1) (by kernel_rfl)) ?_
   refine o_runs 1 [(10, .int .i64 y1)] (by kernel_rfl) ?_
   refine ov_nil (nrm_thenV (v_ret (ret_blkV (ret_thenV ?_))))
   obtain rfl := si hs
   exact fin_ret (by kernel_rfl) (by kernel_rfl) (by kernel_rfl)
  ·replace hs := bif_f h2 hs
   refine v_seq (vr_text (o_runs 2 [(29, .bool (decide (e.Op = 2))), (30, .bool (decide (e.Op = 2)))] (by kernel_rfl) ?_))
   refine ov_nil (nrm_thenV ?_)
   refine v_cond (decide (e.Op = 2)) (by kernel_rfl) (fun h3 => ?_) (fun h3 => ?_)
   ·replace hs := bif_t h3 hs
    refine v_seq (vr_text (o_runs 5 [(35, .str e.Key), (34, .ptr 9 0 3), (33, .str e.S), (32, .ptr 9 0 2), (31, .agg (enc_Plan p))] (by kernel_rfl) ?_))
    obtain ⟨y2, c2, hs⟩ := bind_some hs
    refine o_pure (v := .int .i64 y2) (by kernel_rfl) (by kernel_rfl) (loc_gcall0 (callV_func hbv74 (by kernel_rfl)) (w_greenbeltref17_row p e.S e.Key _ c2) (by kernel_rfl)) ?_
    refine o_runs 1 [(10, .int .i64 y2)] (by kernel_rfl) ?_
    refine ov_nil (nrm_thenV (v_ret (ret_blkV (ret_thenV ?_))))
    obtain rfl := si hs
    exact fin_ret (by kernel_rfl) (by kernel_rfl) (by kernel_rfl)
   ·replace hs := bif_f h3 hs
    refine v_seq (vr_text (o_runs 2 [(37, .bool (decide (e.Op = 3))), (38, .bool (decide (e.Op = 3)))] (by kernel_rfl) ?_))
    refine ov_nil (nrm_thenV ?_)
    refine v_cond (decide (e.Op = 3)) (by kernel_rfl) (fun h4 => ?_) (fun h4 => ?_)
    ·replace hs := bif_t h4 hs
     refine v_seq (vr_text (o_runs 3 [(41, .str e.S), (40, .ptr 9 0 2), (39, .vs 1 (List.map EV.encS zones))] (by kernel_rfl) ?_))
     obtain ⟨y3, c3, hs⟩ := bind_some hs
     refine o_pure (v := .bool y3) (by kernel_rfl) (by kernel_rfl) (loc_gcall0 (callV_func hbv76 (by kernel_rfl)) (w_greenbeltref17_has zones e.S _ c3) (by kernel_rfl)) ?_
     obtain ⟨y4, c4, hs⟩ := bind_some hs
     refine o_pure (v := .int .i64 y4) (by kernel_rfl) (by kernel_rfl) (loc_gcall0 (callV_func hbv75 (by kernel_rfl)) (w_greenbeltref17_bit y3 _ c4) (by kernel_rfl)) ?_
     refine o_runs 1 [(10, .int .i64 y4)] (by kernel_rfl) ?_
     refine ov_nil (nrm_thenV (v_ret (ret_blkV (ret_thenV ?_))))
     obtain rfl := si hs
     exact fin_ret (by kernel_rfl) (by kernel_rfl) (by kernel_rfl)
    ·replace hs := bif_f h4 hs
     refine v_skip (nrm_blkV (nrm_thenV (v_seq (v_draw mixedH (by kernel_rfl) ?_))))
     refine d_runs 6 0 [(49, .vs 5 (encs_Expr e.Args)), (48, .ptr 9 0 4), (47, .vs 1 (List.map EV.encI defs)), (46, .vs 1 (List.map EV.encS zones)), (45, .vs 2 (List.map enc_Entry measures)), (44, .agg (enc_Plan p))] [⟨5, [], [9]⟩, ⟨4, [], []⟩, ⟨3, [], []⟩, ⟨2, [], []⟩, ⟨1, [], []⟩, ⟨0, [], [5]⟩] (by kernel_rfl) (by kernel_rfl) ?_
     obtain ⟨x1, g1, hs⟩ := bind_some hs; obtain ⟨g1a, g1b, g1c⟩ := idx_some g1
     refine d_pure (v := .vp (enc_Expr x1) 0) 6 rfl rfl rfl rfl (by kernel_rfl) (by kernel_rfl) (loc_indexVs (e := 28) (sz := 5) (k := .i64) (els := (encs_Expr e.Args)) (cs := (enc_Expr x1)) (by kernel_rfl) (by kernel_rfl) (by kernel_rfl) g1a (by rw [g1c, encs_Expr_eq]; exact map_get _ (by omega))) ?_
     refine d_runs 1 7 [(51, .agg (enc_Expr x1))] (pfp 1 7) (by kernel_rfl) (by kernel_rfl) ?_
     obtain ⟨y5, c5, hs⟩ := bind_some hs
     refine d_pure (v := .int .i64 y5) 8 rfl rfl rfl rfl (by kernel_rfl) (by kernel_rfl) (loc_gcall0 (callV_func hbv58 (by kernel_rfl)) (ih_greenbeltref17_value p measures zones defs x1 _ c5) (by kernel_rfl)) ?_
     refine d_runs 1 9 [(11, .int .i64 y5)] (pfp 1 9) (by kernel_rfl) (by kernel_rfl) ?_
     refine d_nil (by kernel_rfl) ?_
     refine nrm_thenV (v_seq (v_seq (vr_text (o_runs 2 [(54, .int .i64 e.Op), (53, .ptr 9 0 0)] (by kernel_rfl) ?_))))
     refine ov_nil (nrm_thenV (v_block (v_seq (vr_text (o_runs 2 [(55, .bool (decide (e.Op = 9))), (56, .bool (decide (e.Op = 9)))] (by kernel_rfl) ?_)))))
     refine ov_nil (nrm_thenV ?_)
     refine v_cond (decide (e.Op = 9)) (by kernel_rfl) (fun h5 => ?_) (fun h5 => ?_)
     ·replace hs := bif_t h5 hs
      refine v_seq (vr_text (o_runs 3 [(10, .int .i64 (w64 (0 - y5))), (58, .int .i64 (w64 (0 - y5))), (57, .int .i64 y5)] (by kernel_rfl) ?_))
      refine ov_nil (nrm_thenV (v_ret (ret_blkV (ret_thenV ?_))))
      obtain rfl := si hs
      exact fin_ret (by kernel_rfl) (by kernel_rfl) (by kernel_rfl)
     ·replace hs := bif_f h5 hs
      refine v_seq (vr_text (o_runs 2 [(59, .bool (decide (e.Op = 15))), (60, .bool (decide (e.Op = 15)))] (by kernel_rfl) ?_))
      refine ov_nil (nrm_thenV ?_)
      refine v_cond (decide (e.Op = 15)) (by kernel_rfl) (fun h6 => ?_) (fun h6 => ?_)
      ·replace hs := bif_t h6 hs
       refine v_seq (vr_text (o_runs 2 [(62, .bool (decide (y5 = 0))), (61, .int .i64 y5)] (by kernel_rfl) ?_))
       obtain ⟨y6, c6, hs⟩ := bind_some hs
       refine o_pure (v := .int .i64 y6) (by kernel_rfl) (by kernel_rfl) (loc_gcall0 (callV_func hbv75 (by kernel_rfl)) (w_greenbeltref17_bit (decide (y5 = 0)) _ c6) (by kernel_rfl)) ?_
       refine o_runs 1 [(10, .int .i64 y6)] (by kernel_rfl) ?_
       refine ov_nil (nrm_thenV (v_ret (ret_blkV (ret_thenV ?_))))
       obtain rfl := si hs
       exact fin_ret (by kernel_rfl) (by kernel_rfl) (by kernel_rfl)
      ·replace hs := bif_f h6 hs
       refine v_seq (vr_text (o_runs 2 [(64, .bool (decide (e.Op = 16))), (65, .bool (decide (e.Op = 16)))] (by kernel_rfl) ?_))
       refine ov_nil (nrm_thenV ?_)
       refine v_cond (decide (e.Op = 16)) (by kernel_rfl) (fun h7 => ?_) (fun h7 => ?_)
       ·replace hs := bif_t h7 hs
        refine v_seq (vr_text (o_runs 1 [(12, .int .i64 2)] (by kernel_rfl) ?_))
        refine ov_nil (nrm_thenV (v_seq (v_seq (vr_text (o_runs 2 [(67, .bool (!(decide (y5 = 0)))), (66, .int .i64 y5)] (by kernel_rfl) ?_)))))
        refine ov_nil (nrm_thenV ?_)
        obtain ⟨z1, hs, hk1⟩ := bind_some hs
        refine v_join (S := Int) (fun u => u = z1) (fun u => [(1, .vs 2 (List.map enc_Entry measures)), (2, .vs 1 (List.map EV.encS zones)), (3, .vs 1 (List.map EV.encI defs)), (5, .ptr 5 0 0), (9, .ptr 9 0 0), (12, .int .i64 u)]) (fun u => [(9, .box 28 [.int .i64 e.Op, .int .i64 e.N, .str e.S, .str e.Key, .vs 5 (encs_Expr e.Args)]), (5, .box 81 [.vs 6 (List.map enc_Def p.Defs), .vs 3 (List.map enc_Table p.Tables), .vs 3 (List.map enc_Zone p.Zones), .vs 20 (List.map enc_Rule p.Rules), .vs 4 (List.map enc_Cap p.Caps), .vs 6 (List.map enc_View p.Views), .vs 3 (List.map enc_Point3 p.Sun), .int .i64 p.Hours])]) ?_ (fun v1 hz => ?_)
        ·refine v_cond (!(decide (y5 = 0))) (by kernel_rfl) (fun h8 => ?_) (fun h8 => ?_)
         ·replace hs := bif_t h8 hs
          refine vr_text (o_runs 1 [(12, .int .i64 1)] (by kernel_rfl) ?_)
          refine ov_nil ?_
          obtain rfl := si hs
          refine nrm_join 1 rfl ?_
          exact cut_of [1, 2, 3, 5, 9, 12] [9, 5] (by kernel_rfl) (by kernel_rfl) (by kernel_rfl)
         ·replace hs := bif_f h8 hs
          refine v_skip ?_
          obtain rfl := si hs
          refine nrm_join 2 rfl ?_
          exact cut_of [1, 2, 3, 5, 9, 12] [9, 5] (by kernel_rfl) (by kernel_rfl) (by kernel_rfl)
        ·subst hz; clear hs; have hs := hk1; clear hk1
         refine nrm_thenV (v_seq (v_draw mixedH (by kernel_rfl) ?_))
         refine d_runs 7 0 [(74, .int .i64 v1), (73, .vs 5 (encs_Expr e.Args)), (72, .ptr 9 0 4), (71, .vs 1 (List.map EV.encI defs)), (70, .vs 1 (List.map EV.encS zones)), (69, .vs 2 (List.map enc_Entry measures)), (68, .agg (enc_Plan p))] [⟨6, [], []⟩, ⟨5, [], [9]⟩, ⟨4, [], []⟩, ⟨3, [], []⟩, ⟨2, [], []⟩, ⟨1, [], []⟩, ⟨0, [], [5]⟩] (by kernel_rfl) (by kernel_rfl) ?_
         obtain ⟨x2, g2, hs⟩ := bind_some hs; obtain ⟨g2a, g2b, g2c⟩ := idx_some g2
         refine d_pure (v := .vp (enc_Expr x2) 0) 7 rfl rfl rfl rfl (by kernel_rfl) (by kernel_rfl) (loc_indexVs (e := 28) (sz := 5) (k := .i64) (els := (encs_Expr e.Args)) (cs := (enc_Expr x2)) (by kernel_rfl) (by kernel_rfl) (by kernel_rfl) g2a (by rw [g2c, encs_Expr_eq]; exact map_get _ (by omega))) ?_
         refine d_runs 1 8 [(76, .agg (enc_Expr x2))] (pfp 1 8) (by kernel_rfl) (by kernel_rfl) ?_
         obtain ⟨y7, c7, hs⟩ := bind_some hs
         refine d_pure (v := .int .i64 y7) 9 rfl rfl rfl rfl (by kernel_rfl) (by kernel_rfl) (loc_gcall0 (callV_func hbv58 (by kernel_rfl)) (ih_greenbeltref17_value p measures zones defs x2 _ c7) (by kernel_rfl)) ?_
         refine d_runs 1 10 [(13, .int .i64 y7)] (pfp 1 10) (by kernel_rfl) (by kernel_rfl) ?_
         refine d_nil (by kernel_rfl) ?_
         refine nrm_thenV (v_seq (vr_text (o_runs 2 [(10, .int .i64 y7), (78, .int .i64 y7)] (by kernel_rfl) ?_)))
         refine ov_nil (nrm_thenV (v_ret (ret_blkV (ret_thenV ?_))))
         obtain rfl := si hs
         exact fin_ret (by kernel_rfl) (by kernel_rfl) (by kernel_rfl)
       ·replace hs := bif_f h7 hs
        refine v_skip (nrm_blkV (nrm_thenV (v_seq (v_draw mixedH (by kernel_rfl) ?_))))
        refine d_runs 6 0 [(84, .vs 5 (encs_Expr e.Args)), (83, .ptr 9 0 4), (82, .vs 1 (List.map EV.encI defs)), (81, .vs 1 (List.map EV.encS zones)), (80, .vs 2 (List.map enc_Entry measures)), (79, .agg (enc_Plan p))] [⟨5, [], [9]⟩, ⟨4, [], []⟩, ⟨3, [], []⟩, ⟨2, [], []⟩, ⟨1, [], []⟩, ⟨0, [], [5]⟩] (by kernel_rfl) (by kernel_rfl) ?_
        obtain ⟨x3, g3, hs⟩ := bind_some hs; obtain ⟨g3a, g3b, g3c⟩ := idx_some g3
        refine d_pure (v := .vp (enc_Expr x3) 0) 6 rfl rfl rfl rfl (by kernel_rfl) (by kernel_rfl) (loc_indexVs (e := 28) (sz := 5) (k := .i64) (els := (encs_Expr e.Args)) (cs := (enc_Expr x3)) (by kernel_rfl) (by kernel_rfl) (by kernel_rfl) g3a (by rw [g3c, encs_Expr_eq]; exact map_get _ (by omega))) ?_
        refine d_runs 1 7 [(86, .agg (enc_Expr x3))] (pfp 1 7) (by kernel_rfl) (by kernel_rfl) ?_
        obtain ⟨y8, c8, hs⟩ := bind_some hs
        refine d_pure (v := .int .i64 y8) 8 rfl rfl rfl rfl (by kernel_rfl) (by kernel_rfl) (loc_gcall0 (callV_func hbv58 (by kernel_rfl)) (ih_greenbeltref17_value p measures zones defs x3 _ c8) (by kernel_rfl)) ?_
        refine d_runs 1 9 [(14, .int .i64 y8)] (pfp 1 9) (by kernel_rfl) (by kernel_rfl) ?_
        refine d_nil (by kernel_rfl) ?_
        refine nrm_thenV (v_seq (vr_text (o_runs 4 [(91, .int .i64 y8), (90, .int .i64 y5), (89, .int .i64 e.Op), (88, .ptr 9 0 0)] (by kernel_rfl) ?_)))
        obtain ⟨y9, c9, hs⟩ := bind_some hs
        refine o_pure (v := .int .i64 y9) (by kernel_rfl) (by kernel_rfl) (loc_gcall0 (callV_func hbv77 (by kernel_rfl)) (w_greenbeltref17_two e.Op y5 y8 _ c9) (by kernel_rfl)) ?_
        refine o_runs 1 [(10, .int .i64 y9)] (by kernel_rfl) ?_
        refine ov_nil (nrm_thenV (v_ret ?_))
        obtain rfl := si hs
        exact fin_ret (by kernel_rfl) (by kernel_rfl) (by kernel_rfl)
theorem wr_greenbeltref17_value : ∀ nF : Nat, (∀ (p : Plan) (measures : (List Entry)) (zones : (List (List UInt8))) (defs : (List Int)) (e : Expr) (r : Int), s_greenbeltref17_value nF p measures zones defs e = some r → FnA Tryz.prog 58 [.agg (enc_Plan p), .vs 2 (List.map enc_Entry measures), .vs 1 (List.map EV.encS zones), .vs 1 (List.map EV.encI defs), .agg (enc_Expr e)] [] (.int .i64 r) [])
 | 0 => fun p measures zones defs e r hs => by rw [s_greenbeltref17_value] at hs; cases hs
 | nF + 1 => fun p measures zones defs e r hs => ws_greenbeltref17_value nF (wr_greenbeltref17_value nF) p measures zones defs e r hs
theorem w_greenbeltref17_value (nF : Nat) (p : Plan) (measures : (List Entry)) (zones : (List (List UInt8))) (defs : (List Int)) (e : Expr) (r : Int) (hs : s_greenbeltref17_value nF p measures zones defs e = some r) : FnA Tryz.prog 58 [.agg (enc_Plan p), .vs 2 (List.map enc_Entry measures), .vs 1 (List.map EV.encS zones), .vs 1 (List.map EV.encI defs), .agg (enc_Expr e)] [] (.int .i64 r) [] := (wr_greenbeltref17_value nF) p measures zones defs e r hs
theorem w_greenbeltref17_Eval (p : Plan) (measures : (List Entry)) (zones : (List (List UInt8))) (e : Expr) (r : Int) (hs : s_greenbeltref17_Eval p measures zones e = some r) : FnA Tryz.prog 46 [.agg (enc_Plan p), .vs 2 (List.map enc_Entry measures), .vs 1 (List.map EV.encS zones), .agg (enc_Expr e)] [] (.int .i64 r) [] := by
 refine fnA_of_wp (N := 21) Tryz.func46 rfl rfl rfl fun cK0 => ?_
 unfold s_greenbeltref17_Eval at hs
 refine v_same (ρ' := [(0, .agg (enc_Plan p)), (1, .vs 2 (List.map enc_Entry measures)), (2, .vs 1 (List.map EV.encS zones)), (3, .agg (enc_Expr e))]) rfl rfl ?_
 refine v_seq (vr_text (o_runh 3 [(8, .int .i64 0), (7, .ptr 7 0 0), (4, .ptr 4 0 0)] [(7, .box 28 [.int .i64 e.Op, .int .i64 e.N, .str e.S, .str e.Key, .vs 5 (encs_Expr e.Args)]), (4, .box 81 [.vs 6 (List.map enc_Def p.Defs), .vs 3 (List.map enc_Table p.Tables), .vs 3 (List.map enc_Zone p.Zones), .vs 20 (List.map enc_Rule p.Rules), .vs 4 (List.map enc_Cap p.Caps), .vs 6 (List.map enc_View p.Views), .vs 3 (List.map enc_Point3 p.Sun), .int .i64 p.Hours])] (by kernel_rfl) ?_))
 refine ov_nil (nrm_thenV (v_seq (v_seq (vr_text (o_runs 1 [(9, .agg (enc_Expr e))] (by kernel_rfl) ?_)))))
 obtain ⟨y1, c1, hs⟩ := bind_some hs
 refine o_pure (v := .bool y1) (by kernel_rfl) (by kernel_rfl) (loc_gcall0 (callV_func hbv32 (by kernel_rfl)) (w_greenbeltref17_Right e _ c1) (by kernel_rfl)) ?_
 refine o_runs 1 [(11, .bool (!y1))] (by kernel_rfl) ?_
 refine ov_nil (nrm_thenV ?_)
 refine v_cond (!y1) (by kernel_rfl) (fun h1 => ?_) (fun h1 => ?_)
 ·replace hs := bif_t h1 hs
  refine v_seq (vr_text (o_runs 1 [(8, .int .i64 0)] (by kernel_rfl) ?_))
  refine ov_nil (nrm_thenV (v_ret (ret_thenV ?_)))
  obtain rfl := si hs
  exact fin_ret (by kernel_rfl) (by kernel_rfl) (by kernel_rfl)
 ·replace hs := bif_f h1 hs
  refine v_skip (nrm_thenV (v_seq (v_draw mixedH (by kernel_rfl) ?_)))
  refine d_runs 6 0 [(17, .vs 1 (List.map EV.encS zones)), (16, .vs 2 (List.map enc_Entry measures)), (15, .agg (enc_Plan p)), (14, .vs 1 (List.map EV.encS zones)), (13, .vs 2 (List.map enc_Entry measures)), (12, .agg (enc_Plan p))] [⟨5, [], []⟩, ⟨4, [], []⟩, ⟨3, [], [4]⟩, ⟨2, [], []⟩, ⟨1, [], []⟩, ⟨0, [], [4]⟩] (by kernel_rfl) (by kernel_rfl) ?_
  obtain ⟨y2, c2, hs⟩ := bind_some hs
  refine d_pure (v := .vs 1 (List.map EV.encI y2)) 6 rfl rfl rfl rfl (by kernel_rfl) (by kernel_rfl) (loc_gcall0 (callV_func hbv59 (by kernel_rfl)) (w_greenbeltref17_All p measures zones _ c2) (by kernel_rfl)) ?_
  refine d_runs 1 7 [(19, .agg (enc_Expr e))] [⟨7, [], [7]⟩] (by kernel_rfl) (by kernel_rfl) ?_
  obtain ⟨y3, c3, hs⟩ := bind_some hs
  refine d_pure (v := .int .i64 y3) 8 rfl rfl rfl rfl (by kernel_rfl) (by kernel_rfl) (loc_gcall0 (callV_func hbv58 (by kernel_rfl)) (w_greenbeltref17_value KK p measures zones y2 e _ c3) (by kernel_rfl)) ?_
  refine d_runs 1 9 [(8, .int .i64 y3)] (pfp 1 9) (by kernel_rfl) (by kernel_rfl) ?_
  refine d_nil (by kernel_rfl) ?_
  refine nrm_thenV (v_ret ?_)
  obtain rfl := si hs
  exact fin_ret (by kernel_rfl) (by kernel_rfl) (by kernel_rfl)
theorem w_greenbeltref45_Value (base : (List Fact)) (f : Formula) (known : Int) (r : Int) (hs : s_greenbeltref45_Value base f known = some r) : FnA Tryz.prog 30 [.vs 5 (List.map enc_Fact base), .agg (enc_Formula f), .int .i64 known] [] (.int .i64 r) [] := by
 refine fnA_of_wp (N := 44) Tryz.func30 rfl rfl rfl fun cK0 => ?_
 unfold s_greenbeltref45_Value at hs
 refine v_same (ρ' := [(0, .vs 5 (List.map enc_Fact base)), (1, .agg (enc_Formula f)), (2, .int .i64 known)]) rfl rfl ?_
 refine v_seq (vr_text (o_runh 2 [(6, .int .i64 0), (4, .ptr 4 0 0)] [(4, .box 31 [.int .i64 f.Id, .int .i64 f.Day, .int .i64 f.Known, .int .i64 f.Body.Op, .int .i64 f.Body.N, .str f.Body.S, .str f.Body.Key, .vs 5 (encs_Expr f.Body.Args), .int .i64 f.Result, .vs 4 (List.map enc_Asked f.Asked)])] (by kernel_rfl) ?_))
 refine ov_nil (nrm_thenV (v_seq (vr_text (o_runs 3 [(12, .int .i64 known), (11, .agg (enc_Formula f)), (10, .vs 5 (List.map enc_Fact base))] (by kernel_rfl) ?_))))
 obtain ⟨y1, c1, hs⟩ := bind_some hs
 refine o_pure (v := .vs 4 (List.map enc_Asked y1)) (by kernel_rfl) (by kernel_rfl) (loc_gcall0 (callV_func hbv15 (by kernel_rfl)) (w_greenbeltref45_Ask base f known _ c1) (by kernel_rfl)) ?_
 refine o_runs 1 [(7, .vs 4 (List.map enc_Asked y1))] (by kernel_rfl) ?_
 refine ov_nil (nrm_thenV (v_seq (vr_text (o_runs 1 [(8, .nils)] (by kernel_rfl) ?_))))
 refine ov_nil (nrm_thenV (v_seq (v_seq (vr_text (o_runs 1 [(9, .int .i64 0)] (by kernel_rfl) ?_)))))
 refine ov_nil (nrm_thenV ?_)
 obtain ⟨z1, hs, hk1⟩ := bind_some hs
 refine v_join (S := (List Entry)) (fun u => u = z1) (fun u => [(4, .ptr 4 0 0), (8, .sl 2 2000008 ((u).length) 0 ((u).length))]) (fun u => [(4, .box 31 [.int .i64 f.Id, .int .i64 f.Day, .int .i64 f.Known, .int .i64 f.Body.Op, .int .i64 f.Body.N, .str f.Body.S, .str f.Body.Key, .vs 5 (encs_Expr f.Body.Args), .int .i64 f.Result, .vs 4 (List.map enc_Asked f.Asked)]), (2000008, .row 71 2 0 (List.map enc_Entry u))]) ?_ (fun v1 hz => ?_)
 ·refine v_block ?_
  refine v_fuel (S := Int × (List Entry)) (fun u => [(4, .ptr 4 0 0), (7, .vs 4 (List.map enc_Asked y1)), (8, .sl 2 2000008 ((u.2).length) 0 ((u.2).length)), (9, .int .i64 u.1)]) (fun u => [(4, .box 31 [.int .i64 f.Id, .int .i64 f.Day, .int .i64 f.Known, .int .i64 f.Body.Op, .int .i64 f.Body.N, .str f.Body.S, .str f.Body.Key, .vs 5 (encs_Expr f.Body.Args), .int .i64 f.Result, .vs 4 (List.map enc_Asked f.Asked)]), (2000008, .row 71 2 0 (List.map enc_Entry u.2))]) (s_greenbeltref45_Value_L1 y1) (fun _ => rfl) KK (0, []) hs (Cut.trans (cut_nilRow 8 2000008 71 2 rfl (by kernel_rfl) (by kernel_rfl)) (cut_of [4, 7, 8, 9] [4, 2000008] (by kernel_rfl) (by kernel_rfl) (by kernel_rfl))) (fun K1 q1 hs => ?_)
  rw [s_greenbeltref45_Value_L1] at hs
  show WpV cK0 Tryz.prog none 44 _ _ [(4, .ptr 4 0 0), (7, .vs 4 (List.map enc_Asked y1)), (8, .sl 2 2000008 ((q1.2).length) 0 ((q1.2).length)), (9, .int .i64 q1.1)] [(4, .box 31 [.int .i64 f.Id, .int .i64 f.Day, .int .i64 f.Known, .int .i64 f.Body.Op, .int .i64 f.Body.N, .str f.Body.S, .str f.Body.Key, .vs 5 (encs_Expr f.Body.Args), .int .i64 f.Result, .vs 4 (List.map enc_Asked f.Asked)]), (2000008, .row 71 2 0 (List.map enc_Entry q1.2))] []
  refine v_seq (v_seq (vr_text (o_runs 2 [(15, .vs 4 (List.map enc_Asked y1)), (14, .int .i64 q1.1)] (by kernel_rfl) ?_)))
  refine o_pure (v := .int .i64 (List.length y1 : Int)) (by kernel_rfl) (by kernel_rfl) (loc_lenVs (sz := 4) (els := (List.map enc_Asked y1)) (by kernel_rfl) (by kernel_rfl) (List.length_map ..)) ?_
  refine o_runs 1 [(17, .bool (decide (q1.1 < (List.length y1 : Int))))] (by kernel_rfl) ?_
  refine ov_nil (nrm_thenV ?_)
  refine v_cond (decide (q1.1 < (List.length y1 : Int))) (by kernel_rfl) (fun h1 => ?_) (fun h1 => ?_)
  ·replace hs := bif_t h1 hs
   refine v_skip (nrm_thenV (v_seq (v_block (v_seq (vr_text (o_runs 2 [(21, .int .i64 q1.1), (20, .vs 4 (List.map enc_Asked y1))] (by kernel_rfl) ?_))))))
   obtain ⟨x1, g1, hs⟩ := bind_some hs; obtain ⟨g1a, g1b, g1c⟩ := idx_some g1
   refine o_pure (v := .vp (enc_Asked x1) 0) (by kernel_rfl) (by kernel_rfl) (loc_indexVs (e := 52) (sz := 4) (k := .i64) (els := (List.map enc_Asked y1)) (cs := (enc_Asked x1)) (by kernel_rfl) (by kernel_rfl) (by kernel_rfl) g1a (by rw [g1c]; exact map_get _ (by omega))) ?_
   refine o_runs 2 [(24, .bool x1.There), (23, .vp (enc_Asked x1) 3)] (by kernel_rfl) ?_
   refine ov_nil (nrm_thenV ?_)
   obtain ⟨z2, hs, hk2⟩ := bind_some hs
   refine v_join (S := (List Entry)) (fun u => u = z2) (fun u => [(4, .ptr 4 0 0), (7, .vs 4 (List.map enc_Asked y1)), (8, .sl 2 2000008 ((u).length) 0 ((u).length)), (9, .int .i64 q1.1)]) (fun u => [(2000008, .row 71 2 0 (List.map enc_Entry u)), (4, .box 31 [.int .i64 f.Id, .int .i64 f.Day, .int .i64 f.Known, .int .i64 f.Body.Op, .int .i64 f.Body.N, .str f.Body.S, .str f.Body.Key, .vs 5 (encs_Expr f.Body.Args), .int .i64 f.Result, .vs 4 (List.map enc_Asked f.Asked)])]) ?_ (fun v2 hz => ?_)
   ·refine v_cond x1.There (by kernel_rfl) (fun h2 => ?_) (fun h2 => ?_)
    ·replace hs := bif_t h2 hs
     refine v_draw mixedH (by kernel_rfl) ?_
     refine d_runs 3 0 [(27, .int .i64 q1.1), (26, .vs 4 (List.map enc_Asked y1)), (25, .sl 2 2000008 ((q1.2).length) 0 ((q1.2).length))] (pfp 3 2) (by kernel_rfl) (by kernel_rfl) ?_
     obtain ⟨x2, g2, hs⟩ := bind_some hs; obtain ⟨g2a, g2b, g2c⟩ := idx_some g2
     refine d_pure (v := .vp (enc_Asked x2) 0) 3 rfl rfl rfl rfl (by kernel_rfl) (by kernel_rfl) (loc_indexVs (e := 52) (sz := 4) (k := .i64) (els := (List.map enc_Asked y1)) (cs := (enc_Asked x2)) (by kernel_rfl) (by kernel_rfl) (by kernel_rfl) g2a (by rw [g2c]; exact map_get _ (by omega))) ?_
     refine d_runs 4 4 [(32, .int .i64 q1.1), (31, .vs 4 (List.map enc_Asked y1)), (30, .str x2.Key), (29, .vp (enc_Asked x2) 0)] (pfp 4 7) (by kernel_rfl) (by kernel_rfl) ?_
     obtain ⟨x3, g3, hs⟩ := bind_some hs; obtain ⟨g3a, g3b, g3c⟩ := idx_some g3
     refine d_pure (v := .vp (enc_Asked x3) 0) 8 rfl rfl rfl rfl (by kernel_rfl) (by kernel_rfl) (loc_indexVs (e := 52) (sz := 4) (k := .i64) (els := (List.map enc_Asked y1)) (cs := (enc_Asked x3)) (by kernel_rfl) (by kernel_rfl) (by kernel_rfl) g3a (by rw [g3c]; exact map_get _ (by omega))) ?_
     refine d_runh 4 9 [(37, .sl 2 37 1 0 1), (36, .agg [.str x2.Key, .int .i64 x3.Value]), (35, .int .i64 x3.Value), (34, .vp (enc_Asked x3) 2)] [(37, .row 71 2 0 (List.map enc_Entry [(Entry.mk x2.Key x3.Value)])), (4, .box 31 [.int .i64 f.Id, .int .i64 f.Day, .int .i64 f.Known, .int .i64 f.Body.Op, .int .i64 f.Body.N, .str f.Body.S, .str f.Body.Key, .vs 5 (encs_Expr f.Body.Args), .int .i64 f.Result, .vs 4 (List.map enc_Asked f.Asked)]), (2000008, .row 71 2 0 (List.map enc_Entry q1.2))] [⟨12, [37], []⟩, ⟨11, [], []⟩, ⟨10, [], []⟩, ⟨9, [], []⟩] (by kernel_rfl) (by kernel_rfl) ?_
     obtain ⟨_, g4, hs⟩ := bind_some hs; replace g4 := grd_some g4
     refine d_loc (F := [(2000008, .row 71 2 0 (List.map enc_Entry q1.2))]) (R := [(37, .row 71 2 0 (List.map enc_Entry [(Entry.mk x2.Key x3.Value)]))]) (F' := [(2000008, .row 71 2 0 (List.map enc_Entry (q1.2 ++ [(Entry.mk x2.Key x3.Value)])))]) (v := .sl 2 2000008 (((q1.2 ++ [(Entry.mk x2.Key x3.Value)])).length) 0 (((q1.2 ++ [(Entry.mk x2.Key x3.Value)])).length)) 13 [2000008] [37] rfl rfl rfl rfl (by kernel_rfl) (by kernel_rfl) (by kernel_rfl) (by kernel_rfl) (by kernel_rfl) (by kernel_rfl) (by kernel_rfl) (by kernel_rfl) (loc_appendT (e := 71) (sz := 2) (bytes := 24) (L := (q1.2).length) (els := (List.map enc_Entry q1.2)) (ys := (List.map enc_Entry [(Entry.mk x2.Key x3.Value)])) (by kernel_rfl) (by kernel_rfl) (by first | exact List.length_map .. | rfl) (.sl (t := 71) (fz := 0) (ys := (List.map enc_Entry [(Entry.mk x2.Key x3.Value)])) (by kernel_rfl) (by kernel_rfl)) (map_ones enc_Entry (fun _ => rfl) _) (map_lens enc_Entry (fun _ => rfl) _) (by kernel_rfl) (by first | exact (List.map_append ..).symm | rfl | simp only [List.map_nil, List.nil_append]) (List.length_map ..) g4 (by omega)) ?_
     refine d_runs 1 14 [(8, .sl 2 2000008 (((q1.2 ++ [(Entry.mk x2.Key x3.Value)])).length) 0 (((q1.2 ++ [(Entry.mk x2.Key x3.Value)])).length))] (pfp 1 14) (by kernel_rfl) (by kernel_rfl) ?_
     refine d_nil (by kernel_rfl) ?_
     obtain rfl := si hs
     refine nrm_join (q1.2 ++ [(Entry.mk x2.Key x3.Value)]) rfl ?_
     exact cut_of [4, 7, 8, 9] [2000008, 4] (by kernel_rfl) (by kernel_rfl) (by kernel_rfl)
    ·replace hs := bif_f h2 hs
     refine v_skip ?_
     obtain rfl := si hs
     refine nrm_join q1.2 rfl ?_
     exact cut_of [4, 7, 8, 9] [2000008, 4] (by kernel_rfl) (by kernel_rfl) (by kernel_rfl)
   ·subst hz; clear hs; have hs := hk2; clear hk2
    refine nrm_blkV (nrm_thenV (vr_text (o_runs 3 [(9, .int .i64 (w64 (q1.1 + 1))), (19, .int .i64 (w64 (q1.1 + 1))), (18, .int .i64 q1.1)] (by kernel_rfl) ?_)))
    refine ov_nil (nrm_fuel ((w64 (q1.1 + 1)), v2) hs ?_)
    exact cut_of [4, 7, 8, 9] [4, 2000008] (by kernel_rfl) (by kernel_rfl) (by kernel_rfl)
  ·replace hs := bif_f h1 hs
   refine v_exit (exit_thenV (exit_fuel ?_))
   refine exit_blkV ?_
   obtain rfl := si hs
   refine nrm_join q1.2 rfl ?_
   exact cut_of [4, 8] [4, 2000008] (by kernel_rfl) (by kernel_rfl) (by kernel_rfl)
 ·subst hz; clear hs; have hs := hk1; clear hk1
  refine nrm_thenV (v_seq (vr_text (o_runs 4 [(42, .agg (enc_Expr f.Body)), (41, .ptr 4 0 3), (40, .sl 2 2000008 ((v1).length) 0 ((v1).length)), (39, .agg [.nils, .nils, .nils, .nils, .nils, .nils, .nils, .int .i64 0])] (by kernel_rfl) ?_)))
  obtain ⟨y2, c2, hs⟩ := bind_some hs
  refine o_loc (F := [(2000008, .row 71 2 0 (List.map enc_Entry v1))]) (F' := [(2000008, .row 71 2 0 (List.map enc_Entry v1))]) (v := .int .i64 y2) [2000008] (by kernel_rfl) (by kernel_rfl) rfl (by kernel_rfl) (loc_gcallB (vs := [.agg [.nils, .nils, .nils, .nils, .nils, .nils, .nils, .int .i64 0], .sl 2 2000008 ((v1).length) 0 ((v1).length), .nils, .agg (enc_Expr f.Body)]) (R := [(2000008, .row 71 2 0 (List.map enc_Entry v1))]) (callV_func hbv46 (by kernel_rfl)) (w_greenbeltref17_Eval (Plan.mk [] [] [] [] [] [] [] 0) v1 [] f.Body _ c2) (.cons (.agg (.cons (.nils _) (.cons (.nils _) (.cons (.nils _) (.cons (.nils _) (.cons (.nils _) (.cons (.nils _) (.cons (.nils _) (.cons (.same _) (.nil)))))))))) (.cons (.row (t := 71) (fz := 0) (by kernel_rfl) (by first | (simp only [List.length_map, List.length_set]; done) | rfl)) (.cons (.nils _) (.cons (.same _) (.nil))))) (by kernel_rfl) (by kernel_rfl) (by kernel_rfl)) (by kernel_rfl) ?_
  refine o_runs 1 [(6, .int .i64 y2)] (by kernel_rfl) ?_
  refine ov_nil (nrm_thenV (v_ret ?_))
  obtain rfl := si hs
  exact fin_ret (by kernel_rfl) (by kernel_rfl) (by kernel_rfl)
theorem w_greenbeltref45_Make (base : (List Fact)) (f : Formula) (r : Formula × Int) (hs : s_greenbeltref45_Make base f = some r) : FnA Tryz.prog 7 [.vs 5 (List.map enc_Fact base), .agg (enc_Formula f)] [] (.tup [.agg (enc_Formula r.1), .int .i64 r.2]) [] := by
 refine fnA_of_wp (N := 28) Tryz.func7 rfl rfl rfl fun cK0 => ?_
 unfold s_greenbeltref45_Make at hs
 refine v_same (ρ' := [(0, .vs 5 (List.map enc_Fact base)), (1, .agg (enc_Formula f))]) rfl rfl ?_
 refine v_seq (vr_text (o_runh 3 [(5, .int .i64 0), (4, .ptr 4 0 0), (3, .ptr 3 0 0)] [(4, .box 31 [.int .i64 0, .int .i64 0, .int .i64 0, .int .i64 0, .int .i64 0, .str [], .str [], .nils, .int .i64 0, .nils]), (3, .box 31 [.int .i64 f.Id, .int .i64 f.Day, .int .i64 f.Known, .int .i64 f.Body.Op, .int .i64 f.Body.N, .str f.Body.S, .str f.Body.Key, .vs 5 (encs_Expr f.Body.Args), .int .i64 f.Result, .vs 4 (List.map enc_Asked f.Asked)])] (by kernel_rfl) ?_))
 refine ov_nil (nrm_thenV (v_seq (v_seq ?_)))
 obtain ⟨z1, hs, hk1⟩ := bind_some hs
 refine v_join (S := Bool) (fun u => u = z1) (fun u => [(0, .vs 5 (List.map enc_Fact base)), (3, .ptr 3 0 0), (4, .ptr 4 0 0), (13, .bool u)]) (fun u => [(4, .box 31 [.int .i64 0, .int .i64 0, .int .i64 0, .int .i64 0, .int .i64 0, .str [], .str [], .nils, .int .i64 0, .nils]), (3, .box 31 [.int .i64 f.Id, .int .i64 f.Day, .int .i64 f.Known, .int .i64 f.Body.Op, .int .i64 f.Body.N, .str f.Body.S, .str f.Body.Key, .vs 5 (encs_Expr f.Body.Args), .int .i64 f.Result, .vs 4 (List.map enc_Asked f.Asked)])]) ?_ (fun v1 hz => ?_)
 ·refine vr_text (o_runs 1 [(6, .vs 5 (List.map enc_Fact base))] (by kernel_rfl) ?_)
  obtain ⟨y1, c1, hs⟩ := bind_some hs
  refine o_pure (v := .bool y1) (by kernel_rfl) (by kernel_rfl) (loc_gcall0 (callV_func hbv29 (by kernel_rfl)) (w_greenbeltref44_Right base _ c1) (by kernel_rfl)) ?_
  refine o_runs 2 [(9, .bool (!y1)), (8, .bool (!y1))] (by kernel_rfl) ?_
  cases h1 : ((!y1))
  ·replace hs := bif_f h1 hs
   refine o_runs 1 [(10, .agg (enc_Formula f))] (by kernel_rfl) ?_
   obtain ⟨y2, c2, hs⟩ := bind_some hs
   refine o_pure (v := .bool y2) (by kernel_rfl) (by kernel_rfl) (loc_gcall0 (callV_func hbv10 (by kernel_rfl)) (w_greenbeltref45_Right f _ c2) (by kernel_rfl)) ?_
   refine o_runs 2 [(13, .bool (!y2)), (12, .bool (!y2))] (by kernel_rfl) ?_
   refine ov_nil ?_
   obtain rfl := si hs
   refine nrm_join (!y2) rfl ?_
   exact cut_of [0, 3, 4, 13] [4, 3] (by kernel_rfl) (by kernel_rfl) (by kernel_rfl)
  ·replace hs := bif_t h1 hs
   refine o_runs 4 [(13, .bool true), (12, .no), (11, .no), (10, .no)] (by kernel_rfl) ?_
   refine ov_nil ?_
   obtain rfl := si hs
   refine nrm_join true rfl ?_
   exact cut_of [0, 3, 4, 13] [4, 3] (by kernel_rfl) (by kernel_rfl) (by kernel_rfl)
 ·subst hz; clear hs; have hs := hk1; clear hk1
  refine nrm_thenV ?_
  refine v_cond v1 (by kernel_rfl) (fun h2 => ?_) (fun h2 => ?_)
  ·replace hs := bif_t h2 hs
   refine v_seq (vr_text (o_runh 3 [(5, .int .i64 1), (14, .agg [.int .i64 0, .int .i64 0, .int .i64 0, .int .i64 0, .int .i64 0, .str [], .str [], .nils, .int .i64 0, .nils])] [(4, .box 31 [.int .i64 0, .int .i64 0, .int .i64 0, .int .i64 0, .int .i64 0, .str [], .str [], .nils, .int .i64 0, .nils]), (3, .box 31 [.int .i64 f.Id, .int .i64 f.Day, .int .i64 f.Known, .int .i64 f.Body.Op, .int .i64 f.Body.N, .str f.Body.S, .str f.Body.Key, .vs 5 (encs_Expr f.Body.Args), .int .i64 f.Result, .vs 4 (List.map enc_Asked f.Asked)])] (by kernel_rfl) ?_))
   refine ov_nil (nrm_thenV (v_to _ [(4, .box 31 [.int .i64 0, .int .i64 0, .int .i64 0, .int .i64 0, .int .i64 0, .str [], .str [], .vs 5 (encs_Expr []), .int .i64 0, .vs 4 (List.map enc_Asked [])]), (3, .box 31 [.int .i64 f.Id, .int .i64 f.Day, .int .i64 f.Known, .int .i64 f.Body.Op, .int .i64 f.Body.N, .str f.Body.S, .str f.Body.Key, .vs 5 (encs_Expr f.Body.Args), .int .i64 f.Result, .vs 4 (List.map enc_Asked f.Asked)])] (cut_box (k := 4) (t := 31) (cs := [.int .i64 0, .int .i64 0, .int .i64 0, .int .i64 0, .int .i64 0, .str [], .str [], .nils, .int .i64 0, .nils]) (cs' := [.int .i64 0, .int .i64 0, .int .i64 0, .int .i64 0, .int .i64 0, .str [], .str [], .vs 5 (encs_Expr []), .int .i64 0, .vs 4 (List.map enc_Asked [])]) [] [] (by kernel_rfl) (by kernel_rfl) (by kernel_rfl) (.cons (.same _) (.cons (.same _) (.cons (.same _) (.cons (.same _) (.cons (.same _) (.cons (.same _) (.cons (.same _) (.cons (.nils 5) (.cons (.same _) (.cons (.nils 4) (.nil))))))))))) (by kernel_rfl)) ?_))
   refine v_ret (ret_thenV ?_)
   obtain rfl := si hs
   exact fin_ret (by kernel_rfl) (by kernel_rfl) (by kernel_rfl)
  ·replace hs := bif_f h2 hs
   refine v_skip (nrm_thenV (v_seq (vr_text (o_runs 4 [(18, .int .i64 f.Known), (17, .ptr 3 0 2), (16, .agg (enc_Formula f)), (15, .vs 5 (List.map enc_Fact base))] (by kernel_rfl) ?_))))
   obtain ⟨y3, c3, hs⟩ := bind_some hs
   refine o_pure (v := .int .i64 y3) (by kernel_rfl) (by kernel_rfl) (loc_gcall0 (callV_func hbv30 (by kernel_rfl)) (w_greenbeltref45_Value base f f.Known _ c3) (by kernel_rfl)) ?_
   refine o_runh 2 [(20, .ptr 3 0 8)] [(4, .box 31 [.int .i64 0, .int .i64 0, .int .i64 0, .int .i64 0, .int .i64 0, .str [], .str [], .nils, .int .i64 0, .nils]), (3, .box 31 [.int .i64 f.Id, .int .i64 f.Day, .int .i64 f.Known, .int .i64 f.Body.Op, .int .i64 f.Body.N, .str f.Body.S, .str f.Body.Key, .vs 5 (encs_Expr f.Body.Args), .int .i64 y3, .vs 4 (List.map enc_Asked f.Asked)])] (by kernel_rfl) ?_
   refine ov_nil (nrm_thenV (v_seq (vr_text (o_runs 4 [(24, .int .i64 f.Known), (23, .ptr 3 0 2), (22, .agg [.int .i64 f.Id, .int .i64 f.Day, .int .i64 f.Known, .int .i64 f.Body.Op, .int .i64 f.Body.N, .str f.Body.S, .str f.Body.Key, .vs 5 (encs_Expr f.Body.Args), .int .i64 y3, .vs 4 (List.map enc_Asked f.Asked)]), (21, .vs 5 (List.map enc_Fact base))] (by kernel_rfl) ?_))))
   obtain ⟨y4, c4, hs⟩ := bind_some hs
   refine o_pure (v := .vs 4 (List.map enc_Asked y4)) (by kernel_rfl) (by kernel_rfl) (loc_gcall0 (callV_func hbv15 (by kernel_rfl)) (w_greenbeltref45_Ask base (Formula.mk f.Id f.Day f.Known f.Body y3 f.Asked) f.Known _ c4) (by kernel_rfl)) ?_
   refine o_runh 2 [(26, .ptr 3 0 9)] [(4, .box 31 [.int .i64 0, .int .i64 0, .int .i64 0, .int .i64 0, .int .i64 0, .str [], .str [], .nils, .int .i64 0, .nils]), (3, .box 31 [.int .i64 f.Id, .int .i64 f.Day, .int .i64 f.Known, .int .i64 f.Body.Op, .int .i64 f.Body.N, .str f.Body.S, .str f.Body.Key, .vs 5 (encs_Expr f.Body.Args), .int .i64 y3, .vs 4 (List.map enc_Asked y4)])] (by kernel_rfl) ?_
   refine ov_nil (nrm_thenV (v_seq (vr_text (o_runh 3 [(5, .int .i64 0), (27, .agg [.int .i64 f.Id, .int .i64 f.Day, .int .i64 f.Known, .int .i64 f.Body.Op, .int .i64 f.Body.N, .str f.Body.S, .str f.Body.Key, .vs 5 (encs_Expr f.Body.Args), .int .i64 y3, .vs 4 (List.map enc_Asked y4)])] [(4, .box 31 [.int .i64 f.Id, .int .i64 f.Day, .int .i64 f.Known, .int .i64 f.Body.Op, .int .i64 f.Body.N, .str f.Body.S, .str f.Body.Key, .vs 5 (encs_Expr f.Body.Args), .int .i64 y3, .vs 4 (List.map enc_Asked y4)]), (3, .box 31 [.int .i64 f.Id, .int .i64 f.Day, .int .i64 f.Known, .int .i64 f.Body.Op, .int .i64 f.Body.N, .str f.Body.S, .str f.Body.Key, .vs 5 (encs_Expr f.Body.Args), .int .i64 y3, .vs 4 (List.map enc_Asked y4)])] (by kernel_rfl) ?_))))
   refine ov_nil (nrm_thenV (v_ret ?_))
   obtain rfl := si hs
   exact fin_ret (by kernel_rfl) (by kernel_rfl) (by kernel_rfl)
theorem w_greenbeltlaw45_same (a : Formula) (b : Formula) (r : Bool) (hs : s_greenbeltlaw45_same a b = some r) : FnA Tryz.prog 8 [.agg (enc_Formula a), .agg (enc_Formula b)] [] (.bool r) [] := by
 refine fnA_of_wp (N := 38) Tryz.func8 rfl rfl rfl fun cK0 => ?_
 unfold s_greenbeltlaw45_same at hs
 refine v_same (ρ' := [(0, .agg (enc_Formula a)), (1, .agg (enc_Formula b))]) rfl rfl ?_
 refine v_seq (vr_text (o_runh 3 [(4, .bool false), (3, .ptr 3 0 0), (2, .ptr 2 0 0)] [(3, .box 31 [.int .i64 b.Id, .int .i64 b.Day, .int .i64 b.Known, .int .i64 b.Body.Op, .int .i64 b.Body.N, .str b.Body.S, .str b.Body.Key, .vs 5 (encs_Expr b.Body.Args), .int .i64 b.Result, .vs 4 (List.map enc_Asked b.Asked)]), (2, .box 31 [.int .i64 a.Id, .int .i64 a.Day, .int .i64 a.Known, .int .i64 a.Body.Op, .int .i64 a.Body.N, .str a.Body.S, .str a.Body.Key, .vs 5 (encs_Expr a.Body.Args), .int .i64 a.Result, .vs 4 (List.map enc_Asked a.Asked)])] (by kernel_rfl) ?_))
 refine ov_nil (nrm_thenV (v_seq ?_))
 obtain ⟨z1, hs, hk1⟩ := bind_some hs
 refine v_join (S := Bool) (fun u => u = z1) (fun u => [(4, .bool u)]) (fun u => []) ?_ (fun v1 hz => ?_)
 ·refine vr_text (o_runs 6 [(10, .bool (decide (a.Id = b.Id))), (9, .bool (decide (a.Id = b.Id))), (8, .int .i64 b.Id), (7, .ptr 3 0 0), (6, .int .i64 a.Id), (5, .ptr 2 0 0)] (by kernel_rfl) ?_)
  cases h1 : ((decide (a.Id = b.Id)))
  ·replace hs := bif_f h1 hs
   refine o_runs 28 [(4, .bool false), (37, .bool false), (36, .no), (35, .no), (34, .no), (33, .no), (32, .no), (31, .bool false), (30, .bool false), (29, .no), (28, .no), (27, .no), (26, .no), (25, .no), (24, .bool false), (23, .bool false), (22, .no), (21, .no), (20, .no), (19, .no), (18, .no), (17, .bool false), (16, .bool false), (15, .no), (14, .no), (13, .no), (12, .no), (11, .no)] (by kernel_rfl) ?_
   refine ov_nil ?_
   obtain rfl := si hs
   refine nrm_join false rfl ?_
   exact cut_of [4] [] (by kernel_rfl) (by kernel_rfl) (by kernel_rfl)
  ·replace hs := bif_t h1 hs
   refine o_runs 7 [(17, .bool (decide (a.Day = b.Day))), (16, .bool (decide (a.Day = b.Day))), (15, .bool (decide (a.Day = b.Day))), (14, .int .i64 b.Day), (13, .ptr 3 0 1), (12, .int .i64 a.Day), (11, .ptr 2 0 1)] (by kernel_rfl) ?_
   cases h2 : ((decide (a.Day = b.Day)))
   ·replace hs := bif_f h2 hs
    refine o_runs 21 [(4, .bool false), (37, .bool false), (36, .no), (35, .no), (34, .no), (33, .no), (32, .no), (31, .bool false), (30, .bool false), (29, .no), (28, .no), (27, .no), (26, .no), (25, .no), (24, .bool false), (23, .bool false), (22, .no), (21, .no), (20, .no), (19, .no), (18, .no)] (by kernel_rfl) ?_
    refine ov_nil ?_
    obtain rfl := si hs
    refine nrm_join false rfl ?_
    exact cut_of [4] [] (by kernel_rfl) (by kernel_rfl) (by kernel_rfl)
   ·replace hs := bif_t h2 hs
    refine o_runs 7 [(24, .bool (decide (a.Known = b.Known))), (23, .bool (decide (a.Known = b.Known))), (22, .bool (decide (a.Known = b.Known))), (21, .int .i64 b.Known), (20, .ptr 3 0 2), (19, .int .i64 a.Known), (18, .ptr 2 0 2)] (by kernel_rfl) ?_
    cases h3 : ((decide (a.Known = b.Known)))
    ·replace hs := bif_f h3 hs
     refine o_runs 14 [(4, .bool false), (37, .bool false), (36, .no), (35, .no), (34, .no), (33, .no), (32, .no), (31, .bool false), (30, .bool false), (29, .no), (28, .no), (27, .no), (26, .no), (25, .no)] (by kernel_rfl) ?_
     refine ov_nil ?_
     obtain rfl := si hs
     refine nrm_join false rfl ?_
     exact cut_of [4] [] (by kernel_rfl) (by kernel_rfl) (by kernel_rfl)
    ·replace hs := bif_t h3 hs
     refine o_runs 7 [(31, .bool (decide (a.Result = b.Result))), (30, .bool (decide (a.Result = b.Result))), (29, .bool (decide (a.Result = b.Result))), (28, .int .i64 b.Result), (27, .ptr 3 0 8), (26, .int .i64 a.Result), (25, .ptr 2 0 8)] (by kernel_rfl) ?_
     cases h4 : ((decide (a.Result = b.Result)))
     ·replace hs := bif_f h4 hs
      refine o_runs 7 [(4, .bool false), (37, .bool false), (36, .no), (35, .no), (34, .no), (33, .no), (32, .no)] (by kernel_rfl) ?_
      refine ov_nil ?_
      obtain rfl := si hs
      refine nrm_join false rfl ?_
      exact cut_of [4] [] (by kernel_rfl) (by kernel_rfl) (by kernel_rfl)
     ·replace hs := bif_t h4 hs
      refine o_runs 4 [(35, .vs 4 (List.map enc_Asked b.Asked)), (34, .ptr 3 0 9), (33, .vs 4 (List.map enc_Asked a.Asked)), (32, .ptr 2 0 9)] (by kernel_rfl) ?_
      obtain ⟨y1, c1, hs⟩ := bind_some hs
      refine o_pure (v := .bool y1) (by kernel_rfl) (by kernel_rfl) (loc_gcall0 (callV_func hbv13 (by kernel_rfl)) (w_greenbeltref45_SameAsked a.Asked b.Asked _ c1) (by kernel_rfl)) ?_
      refine o_runs 2 [(4, .bool y1), (37, .bool y1)] (by kernel_rfl) ?_
      refine ov_nil ?_
      obtain rfl := si hs
      refine nrm_join y1 rfl ?_
      exact cut_of [4] [] (by kernel_rfl) (by kernel_rfl) (by kernel_rfl)
 ·subst hz; clear hs; have hs := hk1; clear hk1
  refine nrm_thenV (v_ret ?_)
  obtain rfl := si hs
  exact fin_ret (by kernel_rfl) (by kernel_rfl) (by kernel_rfl)
theorem w_greenbeltref45_Holds (base : (List Fact)) (f : Formula) (r : Bool) (hs : s_greenbeltref45_Holds base f = some r) : FnA Tryz.prog 12 [.vs 5 (List.map enc_Fact base), .agg (enc_Formula f)] [] (.bool r) [] := by
 refine fnA_of_wp (N := 29) Tryz.func12 rfl rfl rfl fun cK0 => ?_
 unfold s_greenbeltref45_Holds at hs
 refine v_same (ρ' := [(0, .vs 5 (List.map enc_Fact base)), (1, .agg (enc_Formula f))]) rfl rfl ?_
 refine v_seq (vr_text (o_runh 2 [(4, .bool false), (3, .ptr 3 0 0)] [(3, .box 31 [.int .i64 f.Id, .int .i64 f.Day, .int .i64 f.Known, .int .i64 f.Body.Op, .int .i64 f.Body.N, .str f.Body.S, .str f.Body.Key, .vs 5 (encs_Expr f.Body.Args), .int .i64 f.Result, .vs 4 (List.map enc_Asked f.Asked)])] (by kernel_rfl) ?_))
 refine ov_nil (nrm_thenV (v_seq (vr_text (o_runs 2 [(9, .agg (enc_Formula f)), (8, .vs 5 (List.map enc_Fact base))] (by kernel_rfl) ?_))))
 obtain ⟨y1, c1, hs⟩ := bind_some hs
 refine o_pure (v := .tup [.agg (enc_Formula y1.1), .int .i64 y1.2]) (by kernel_rfl) (by kernel_rfl) (loc_gcall0 (callV_func hbv7 (by kernel_rfl)) (w_greenbeltref45_Make base f _ c1) (by kernel_rfl)) ?_
 refine o_runh 6 [(6, .int .i64 y1.2), (5, .ptr 5 0 0), (12, .int .i64 y1.2), (11, .agg (enc_Formula y1.1)), (7, .tup [.agg (enc_Formula y1.1), .int .i64 y1.2])] [(5, .box 31 [.int .i64 y1.1.Id, .int .i64 y1.1.Day, .int .i64 y1.1.Known, .int .i64 y1.1.Body.Op, .int .i64 y1.1.Body.N, .str y1.1.Body.S, .str y1.1.Body.Key, .vs 5 (encs_Expr y1.1.Body.Args), .int .i64 y1.1.Result, .vs 4 (List.map enc_Asked y1.1.Asked)]), (3, .box 31 [.int .i64 f.Id, .int .i64 f.Day, .int .i64 f.Known, .int .i64 f.Body.Op, .int .i64 f.Body.N, .str f.Body.S, .str f.Body.Key, .vs 5 (encs_Expr f.Body.Args), .int .i64 f.Result, .vs 4 (List.map enc_Asked f.Asked)])] (by kernel_rfl) ?_
 refine ov_nil (nrm_thenV (v_seq ?_))
 obtain ⟨z1, hs, hk1⟩ := bind_some hs
 refine v_join (S := Bool) (fun u => u = z1) (fun u => [(4, .bool u)]) (fun u => []) ?_ (fun v1 hz => ?_)
 ·refine vr_text (o_runs 3 [(15, .bool (decide (y1.2 = 0))), (14, .bool (decide (y1.2 = 0))), (13, .int .i64 y1.2)] (by kernel_rfl) ?_)
  cases h1 : ((decide (y1.2 = 0)))
  ·replace hs := bif_f h1 hs
   refine o_runs 14 [(4, .bool false), (28, .bool false), (27, .no), (26, .no), (25, .no), (24, .no), (23, .no), (22, .bool false), (21, .bool false), (20, .no), (19, .no), (18, .no), (17, .no), (16, .no)] (by kernel_rfl) ?_
   refine ov_nil ?_
   obtain rfl := si hs
   refine nrm_join false rfl ?_
   exact cut_of [4] [] (by kernel_rfl) (by kernel_rfl) (by kernel_rfl)
  ·replace hs := bif_t h1 hs
   refine o_runs 7 [(22, .bool (decide (y1.1.Result = f.Result))), (21, .bool (decide (y1.1.Result = f.Result))), (20, .bool (decide (y1.1.Result = f.Result))), (19, .int .i64 f.Result), (18, .ptr 3 0 8), (17, .int .i64 y1.1.Result), (16, .ptr 5 0 8)] (by kernel_rfl) ?_
   cases h2 : ((decide (y1.1.Result = f.Result)))
   ·replace hs := bif_f h2 hs
    refine o_runs 7 [(4, .bool false), (28, .bool false), (27, .no), (26, .no), (25, .no), (24, .no), (23, .no)] (by kernel_rfl) ?_
    refine ov_nil ?_
    obtain rfl := si hs
    refine nrm_join false rfl ?_
    exact cut_of [4] [] (by kernel_rfl) (by kernel_rfl) (by kernel_rfl)
   ·replace hs := bif_t h2 hs
    refine o_runs 4 [(26, .vs 4 (List.map enc_Asked f.Asked)), (25, .ptr 3 0 9), (24, .vs 4 (List.map enc_Asked y1.1.Asked)), (23, .ptr 5 0 9)] (by kernel_rfl) ?_
    obtain ⟨y2, c2, hs⟩ := bind_some hs
    refine o_pure (v := .bool y2) (by kernel_rfl) (by kernel_rfl) (loc_gcall0 (callV_func hbv13 (by kernel_rfl)) (w_greenbeltref45_SameAsked y1.1.Asked f.Asked _ c2) (by kernel_rfl)) ?_
    refine o_runs 2 [(4, .bool y2), (28, .bool y2)] (by kernel_rfl) ?_
    refine ov_nil ?_
    obtain rfl := si hs
    refine nrm_join y2 rfl ?_
    exact cut_of [4] [] (by kernel_rfl) (by kernel_rfl) (by kernel_rfl)
 ·subst hz; clear hs; have hs := hk1; clear hk1
  refine nrm_thenV (v_ret ?_)
  obtain rfl := si hs
  exact fin_ret (by kernel_rfl) (by kernel_rfl) (by kernel_rfl)
theorem w_greenbeltref45_Stale (base : (List Fact)) (f : Formula) (known : Int) (r : (List (List UInt8))) (hs : s_greenbeltref45_Stale base f known = some r) : FnA Tryz.prog 18 [.vs 5 (List.map enc_Fact base), .agg (enc_Formula f), .int .i64 known] [] (.vs 1 (List.map EV.encS r)) [] := by
 refine fnA_of_wp (N := 64) Tryz.func18 rfl rfl rfl fun cK0 => ?_
 unfold s_greenbeltref45_Stale at hs
 refine v_same (ρ' := [(0, .vs 5 (List.map enc_Fact base)), (1, .agg (enc_Formula f)), (2, .int .i64 known)]) rfl rfl ?_
 refine v_seq (vr_text (o_runh 2 [(6, .nils), (4, .ptr 4 0 0)] [(4, .box 31 [.int .i64 f.Id, .int .i64 f.Day, .int .i64 f.Known, .int .i64 f.Body.Op, .int .i64 f.Body.N, .str f.Body.S, .str f.Body.Key, .vs 5 (encs_Expr f.Body.Args), .int .i64 f.Result, .vs 4 (List.map enc_Asked f.Asked)])] (by kernel_rfl) ?_))
 refine ov_nil (nrm_thenV (v_seq (vr_text (o_runs 1 [(7, .nils)] (by kernel_rfl) ?_))))
 refine ov_nil (nrm_thenV (v_seq (v_seq (vr_text (o_runs 1 [(8, .int .i64 0)] (by kernel_rfl) ?_)))))
 refine ov_nil (nrm_thenV ?_)
 obtain ⟨z1, hs, hk1⟩ := bind_some hs
 refine v_join (S := (List (List UInt8))) (fun u => u = z1) (fun u => [(7, .sl 1 2000054 ((u).length) 0 ((u).length))]) (fun u => [(2000054, .row 9 1 0 (List.map EV.encS u))]) ?_ (fun v1 hz => ?_)
 ·refine v_block ?_
  refine v_fuel (S := Int × (List (List UInt8))) (fun u => [(0, .vs 5 (List.map enc_Fact base)), (2, .int .i64 known), (4, .ptr 4 0 0), (7, .sl 1 2000054 ((u.2).length) 0 ((u.2).length)), (8, .int .i64 u.1)]) (fun u => [(4, .box 31 [.int .i64 f.Id, .int .i64 f.Day, .int .i64 f.Known, .int .i64 f.Body.Op, .int .i64 f.Body.N, .str f.Body.S, .str f.Body.Key, .vs 5 (encs_Expr f.Body.Args), .int .i64 f.Result, .vs 4 (List.map enc_Asked f.Asked)]), (2000054, .row 9 1 0 (List.map EV.encS u.2))]) (s_greenbeltref45_Stale_L1 base f known) (fun _ => rfl) KK (0, []) hs (Cut.trans (cut_nilRow 7 2000054 9 1 rfl (by kernel_rfl) (by kernel_rfl)) (cut_of [0, 2, 4, 7, 8] [4, 2000054] (by kernel_rfl) (by kernel_rfl) (by kernel_rfl))) (fun K1 q1 hs => ?_)
  rw [s_greenbeltref45_Stale_L1] at hs
  show WpV cK0 Tryz.prog none 64 _ _ [(0, .vs 5 (List.map enc_Fact base)), (2, .int .i64 known), (4, .ptr 4 0 0), (7, .sl 1 2000054 ((q1.2).length) 0 ((q1.2).length)), (8, .int .i64 q1.1)] [(4, .box 31 [.int .i64 f.Id, .int .i64 f.Day, .int .i64 f.Known, .int .i64 f.Body.Op, .int .i64 f.Body.N, .str f.Body.S, .str f.Body.Key, .vs 5 (encs_Expr f.Body.Args), .int .i64 f.Result, .vs 4 (List.map enc_Asked f.Asked)]), (2000054, .row 9 1 0 (List.map EV.encS q1.2))] []
  refine v_seq (v_seq (vr_text (o_runs 3 [(13, .vs 4 (List.map enc_Asked f.Asked)), (12, .ptr 4 0 9), (11, .int .i64 q1.1)] (by kernel_rfl) ?_)))
  refine o_pure (v := .int .i64 (List.length f.Asked : Int)) (by kernel_rfl) (by kernel_rfl) (loc_lenVs (sz := 4) (els := (List.map enc_Asked f.Asked)) (by kernel_rfl) (by kernel_rfl) (List.length_map ..)) ?_
  refine o_runs 1 [(15, .bool (decide (q1.1 < (List.length f.Asked : Int))))] (by kernel_rfl) ?_
  refine ov_nil (nrm_thenV ?_)
  refine v_cond (decide (q1.1 < (List.length f.Asked : Int))) (by kernel_rfl) (fun h1 => ?_) (fun h1 => ?_)
  ·replace hs := bif_t h1 hs
   refine v_skip (nrm_thenV (v_seq (v_block (v_seq (v_draw mixedH (by kernel_rfl) ?_)))))
   refine d_runs 4 0 [(22, .int .i64 q1.1), (21, .vs 4 (List.map enc_Asked f.Asked)), (20, .ptr 4 0 9), (19, .vs 5 (List.map enc_Fact base))] [⟨3, [], []⟩, ⟨2, [], [4]⟩, ⟨1, [], []⟩, ⟨0, [], []⟩] (by kernel_rfl) (by kernel_rfl) ?_
   obtain ⟨x1, g1, hs⟩ := bind_some hs; obtain ⟨g1a, g1b, g1c⟩ := idx_some g1
   refine d_pure (v := .vp (enc_Asked x1) 0) 4 rfl rfl rfl rfl (by kernel_rfl) (by kernel_rfl) (loc_indexVs (e := 52) (sz := 4) (k := .i64) (els := (List.map enc_Asked f.Asked)) (cs := (enc_Asked x1)) (by kernel_rfl) (by kernel_rfl) (by kernel_rfl) g1a (by rw [g1c]; exact map_get _ (by omega))) ?_
   refine d_runs 5 5 [(28, .int .i64 q1.1), (27, .vs 4 (List.map enc_Asked f.Asked)), (26, .ptr 4 0 9), (25, .str x1.Key), (24, .vp (enc_Asked x1) 0)] [⟨9, [], []⟩, ⟨8, [], [4]⟩, ⟨7, [], []⟩, ⟨6, [], []⟩, ⟨5, [], []⟩] (by kernel_rfl) (by kernel_rfl) ?_
   obtain ⟨x2, g2, hs⟩ := bind_some hs; obtain ⟨g2a, g2b, g2c⟩ := idx_some g2
   refine d_pure (v := .vp (enc_Asked x2) 0) 10 rfl rfl rfl rfl (by kernel_rfl) (by kernel_rfl) (loc_indexVs (e := 52) (sz := 4) (k := .i64) (els := (List.map enc_Asked f.Asked)) (cs := (enc_Asked x2)) (by kernel_rfl) (by kernel_rfl) (by kernel_rfl) g2a (by rw [g2c]; exact map_get _ (by omega))) ?_
   refine d_runs 3 11 [(32, .int .i64 known), (31, .int .i64 x2.Day), (30, .vp (enc_Asked x2) 1)] (pfp 3 13) (by kernel_rfl) (by kernel_rfl) ?_
   obtain ⟨y1, c1, hs⟩ := bind_some hs
   refine d_pure (v := .tup [.int .i64 y1.1, .bool y1.2]) 14 rfl rfl rfl rfl (by kernel_rfl) (by kernel_rfl) (loc_gcall0 (callV_func hbv36 (by kernel_rfl)) (w_greenbeltref44_At base x1.Key x2.Day known _ c1) (by kernel_rfl)) ?_
   refine d_runs 5 15 [(10, .bool y1.2), (9, .int .i64 y1.1), (35, .bool y1.2), (34, .int .i64 y1.1), (18, .tup [.int .i64 y1.1, .bool y1.2])] (pfp 5 19) (by kernel_rfl) (by kernel_rfl) ?_
   refine d_nil (by kernel_rfl) ?_
   refine nrm_thenV (v_seq ?_)
   obtain ⟨z2, hs, hk2⟩ := bind_some hs
   refine v_join (S := Bool) (fun u => u = z2) (fun u => [(0, .vs 5 (List.map enc_Fact base)), (2, .int .i64 known), (4, .ptr 4 0 0), (7, .sl 1 2000054 ((q1.2).length) 0 ((q1.2).length)), (8, .int .i64 q1.1), (53, .bool u)]) (fun u => [(4, .box 31 [.int .i64 f.Id, .int .i64 f.Day, .int .i64 f.Known, .int .i64 f.Body.Op, .int .i64 f.Body.N, .str f.Body.S, .str f.Body.Key, .vs 5 (encs_Expr f.Body.Args), .int .i64 f.Result, .vs 4 (List.map enc_Asked f.Asked)]), (2000054, .row 9 1 0 (List.map EV.encS q1.2))]) ?_ (fun v2 hz => ?_)
   ·refine vr_text (o_runs 4 [(39, .int .i64 q1.1), (38, .vs 4 (List.map enc_Asked f.Asked)), (37, .ptr 4 0 9), (36, .int .i64 y1.1)] (by kernel_rfl) ?_)
    obtain ⟨x3, g3, hs⟩ := bind_some hs; obtain ⟨g3a, g3b, g3c⟩ := idx_some g3
    refine o_pure (v := .vp (enc_Asked x3) 0) (by kernel_rfl) (by kernel_rfl) (loc_indexVs (e := 52) (sz := 4) (k := .i64) (els := (List.map enc_Asked f.Asked)) (cs := (enc_Asked x3)) (by kernel_rfl) (by kernel_rfl) (by kernel_rfl) g3a (by rw [g3c]; exact map_get _ (by omega))) ?_
    refine o_runs 4 [(44, .bool (!(decide (y1.1 = x3.Value)))), (43, .bool (!(decide (y1.1 = x3.Value)))), (42, .int .i64 x3.Value), (41, .vp (enc_Asked x3) 2)] (by kernel_rfl) ?_
    cases h2 : ((!(decide (y1.1 = x3.Value))))
    ·replace hs := bif_f h2 hs
     refine o_runs 4 [(48, .int .i64 q1.1), (47, .vs 4 (List.map enc_Asked f.Asked)), (46, .ptr 4 0 9), (45, .bool y1.2)] (by kernel_rfl) ?_
     obtain ⟨x4, g4, hs⟩ := bind_some hs; obtain ⟨g4a, g4b, g4c⟩ := idx_some g4
     refine o_pure (v := .vp (enc_Asked x4) 0) (by kernel_rfl) (by kernel_rfl) (loc_indexVs (e := 52) (sz := 4) (k := .i64) (els := (List.map enc_Asked f.Asked)) (cs := (enc_Asked x4)) (by kernel_rfl) (by kernel_rfl) (by kernel_rfl) g4a (by rw [g4c]; exact map_get _ (by omega))) ?_
     refine o_runs 4 [(53, .bool (!(y1.2 == x4.There))), (52, .bool (!(y1.2 == x4.There))), (51, .bool x4.There), (50, .vp (enc_Asked x4) 3)] (by kernel_rfl) ?_
     refine ov_nil ?_
     obtain rfl := si hs
     refine nrm_join (!(y1.2 == x4.There)) rfl ?_
     exact cut_of [0, 2, 4, 7, 8, 53] [4, 2000054] (by kernel_rfl) (by kernel_rfl) (by kernel_rfl)
    ·replace hs := bif_t h2 hs
     refine o_runs 9 [(53, .bool true), (52, .no), (51, .no), (50, .no), (49, .no), (48, .no), (47, .no), (46, .no), (45, .no)] (by kernel_rfl) ?_
     refine ov_nil ?_
     obtain rfl := si hs
     refine nrm_join true rfl ?_
     exact cut_of [0, 2, 4, 7, 8, 53] [4, 2000054] (by kernel_rfl) (by kernel_rfl) (by kernel_rfl)
   ·subst hz; clear hs; have hs := hk2; clear hk2
    refine nrm_thenV ?_
    obtain ⟨z3, hs, hk3⟩ := bind_some hs
    refine v_join (S := (List (List UInt8))) (fun u => u = z3) (fun u => [(0, .vs 5 (List.map enc_Fact base)), (2, .int .i64 known), (4, .ptr 4 0 0), (7, .sl 1 2000054 ((u).length) 0 ((u).length)), (8, .int .i64 q1.1)]) (fun u => [(2000054, .row 9 1 0 (List.map EV.encS u)), (4, .box 31 [.int .i64 f.Id, .int .i64 f.Day, .int .i64 f.Known, .int .i64 f.Body.Op, .int .i64 f.Body.N, .str f.Body.S, .str f.Body.Key, .vs 5 (encs_Expr f.Body.Args), .int .i64 f.Result, .vs 4 (List.map enc_Asked f.Asked)])]) ?_ (fun v3 hz => ?_)
    ·refine v_cond v2 (by kernel_rfl) (fun h3 => ?_) (fun h3 => ?_)
     ·replace hs := bif_t h3 hs
      refine vr_text (o_runs 4 [(57, .int .i64 q1.1), (56, .vs 4 (List.map enc_Asked f.Asked)), (55, .ptr 4 0 9), (54, .sl 1 2000054 ((q1.2).length) 0 ((q1.2).length))] (by kernel_rfl) ?_)
      obtain ⟨x5, g5, hs⟩ := bind_some hs; obtain ⟨g5a, g5b, g5c⟩ := idx_some g5
      refine o_pure (v := .vp (enc_Asked x5) 0) (by kernel_rfl) (by kernel_rfl) (loc_indexVs (e := 52) (sz := 4) (k := .i64) (els := (List.map enc_Asked f.Asked)) (cs := (enc_Asked x5)) (by kernel_rfl) (by kernel_rfl) (by kernel_rfl) g5a (by rw [g5c]; exact map_get _ (by omega))) ?_
      refine o_runh 3 [(61, .sl 1 61 1 0 1), (60, .str x5.Key), (59, .vp (enc_Asked x5) 0)] [(61, .row 9 1 0 (List.map EV.encS [x5.Key])), (4, .box 31 [.int .i64 f.Id, .int .i64 f.Day, .int .i64 f.Known, .int .i64 f.Body.Op, .int .i64 f.Body.N, .str f.Body.S, .str f.Body.Key, .vs 5 (encs_Expr f.Body.Args), .int .i64 f.Result, .vs 4 (List.map enc_Asked f.Asked)]), (2000054, .row 9 1 0 (List.map EV.encS q1.2))] (by kernel_rfl) ?_
      obtain ⟨_, g6, hs⟩ := bind_some hs; replace g6 := grd_some g6
      refine o_loc (F := [(2000054, .row 9 1 0 (List.map EV.encS q1.2)), (61, .row 9 1 0 (List.map EV.encS [x5.Key]))]) (F' := [(2000054, .row 9 1 0 (List.map EV.encS (q1.2 ++ [x5.Key]))), (61, .row 9 1 0 (List.map EV.encS [x5.Key]))]) (v := .sl 1 2000054 (((q1.2 ++ [x5.Key])).length) 0 (((q1.2 ++ [x5.Key])).length)) [2000054, 61] (by kernel_rfl) (by kernel_rfl) rfl (by kernel_rfl) (loc_appendT (e := 9) (sz := 1) (bytes := 16) (L := (q1.2).length) (els := (List.map EV.encS q1.2)) (ys := (List.map EV.encS [x5.Key])) (by kernel_rfl) (by kernel_rfl) (by first | exact List.length_map .. | rfl) (.sl (t := 9) (fz := 0) (ys := (List.map EV.encS [x5.Key])) (by kernel_rfl) (by kernel_rfl)) (map_ones EV.encS (fun _ => rfl) _) (map_lens EV.encS (fun _ => rfl) _) (by kernel_rfl) (by first | exact (List.map_append ..).symm | rfl | simp only [List.map_nil, List.nil_append]) (List.length_map ..) g6 (by omega)) (by kernel_rfl) ?_
      refine o_runs 1 [(7, .sl 1 2000054 (((q1.2 ++ [x5.Key])).length) 0 (((q1.2 ++ [x5.Key])).length))] (by kernel_rfl) ?_
      refine ov_nil ?_
      obtain rfl := si hs
      refine nrm_join (q1.2 ++ [x5.Key]) rfl ?_
      exact cut_of [0, 2, 4, 7, 8] [2000054, 4] (by kernel_rfl) (by kernel_rfl) (by kernel_rfl)
     ·replace hs := bif_f h3 hs
      refine v_skip ?_
      obtain rfl := si hs
      refine nrm_join q1.2 rfl ?_
      exact cut_of [0, 2, 4, 7, 8] [2000054, 4] (by kernel_rfl) (by kernel_rfl) (by kernel_rfl)
    ·subst hz; clear hs; have hs := hk3; clear hk3
     refine nrm_blkV (nrm_thenV (vr_text (o_runs 3 [(8, .int .i64 (w64 (q1.1 + 1))), (17, .int .i64 (w64 (q1.1 + 1))), (16, .int .i64 q1.1)] (by kernel_rfl) ?_)))
     refine ov_nil (nrm_fuel ((w64 (q1.1 + 1)), v3) hs ?_)
     exact cut_of [0, 2, 4, 7, 8] [4, 2000054] (by kernel_rfl) (by kernel_rfl) (by kernel_rfl)
  ·replace hs := bif_f h1 hs
   refine v_exit (exit_thenV (exit_fuel ?_))
   refine exit_blkV ?_
   obtain rfl := si hs
   refine nrm_join q1.2 rfl ?_
   exact cut_of [7] [2000054] (by kernel_rfl) (by kernel_rfl) (by kernel_rfl)
 ·subst hz; clear hs; have hs := hk1; clear hk1
  refine nrm_thenV (v_seq (vr_text (o_runs 2 [(6, .sl 1 2000054 ((v1).length) 0 ((v1).length)), (63, .sl 1 2000054 ((v1).length) 0 ((v1).length))] (by kernel_rfl) ?_)))
  refine ov_nil (nrm_thenV (v_to _ [(2000054, .row 9 1 (((List.map EV.encS v1)).length) (List.map EV.encS v1))] (cut_freeze (F := [(2000054, .row 9 1 0 (List.map EV.encS v1))]) [2000054] rfl (by kernel_rfl) (by kernel_rfl)) ?_))
  refine v_to ((6, .vs 1 (List.map EV.encS v1)) :: _) _ (cut_view (R := [(2000054, .row 9 1 (((List.map EV.encS v1)).length) (List.map EV.encS v1))]) (ks := [2000054]) (by kernel_rfl) (by kernel_rfl) (.row (t := 9) (fz := (((List.map EV.encS v1)).length)) (by kernel_rfl) (by first | (simp only [List.length_map, List.length_set]; done) | rfl))) ?_
  refine v_ret ?_
  obtain rfl := si hs
  exact fin_ret (by kernel_rfl) (by kernel_rfl) (by kernel_rfl)
theorem w_greenbeltref45_Touched (base : (List Fact)) (l : (List Formula)) (known : Int) (r : (List Int)) (hs : s_greenbeltref45_Touched base l known = some r) : FnA Tryz.prog 22 [.vs 5 (List.map enc_Fact base), .vs 10 (List.map enc_Formula l), .int .i64 known] [] (.vs 1 (List.map EV.encI r)) [] := by
 refine fnA_of_wp (N := 29) Tryz.func22 rfl rfl rfl fun cK0 => ?_
 unfold s_greenbeltref45_Touched at hs
 refine v_same (ρ' := [(0, .vs 5 (List.map enc_Fact base)), (1, .vs 10 (List.map enc_Formula l)), (2, .int .i64 known)]) rfl rfl ?_
 refine v_seq (vr_text (o_runs 1 [(6, .nils)] (by kernel_rfl) ?_))
 refine ov_nil (nrm_thenV (v_seq (vr_text (o_runs 1 [(7, .nils)] (by kernel_rfl) ?_))))
 refine ov_nil (nrm_thenV (v_seq (v_seq (vr_text (o_runs 1 [(8, .int .i64 0)] (by kernel_rfl) ?_)))))
 refine ov_nil (nrm_thenV ?_)
 obtain ⟨z1, hs, hk1⟩ := bind_some hs
 refine v_join (S := (List Int)) (fun u => u = z1) (fun u => [(7, .sl 1 2000024 ((u).length) 0 ((u).length))]) (fun u => [(2000024, .row 3 1 0 (List.map EV.encI u))]) ?_ (fun v1 hz => ?_)
 ·refine v_block ?_
  refine v_fuel (S := Int × (List Int)) (fun u => [(0, .vs 5 (List.map enc_Fact base)), (1, .vs 10 (List.map enc_Formula l)), (2, .int .i64 known), (7, .sl 1 2000024 ((u.2).length) 0 ((u.2).length)), (8, .int .i64 u.1)]) (fun u => [(2000024, .row 3 1 0 (List.map EV.encI u.2))]) (s_greenbeltref45_Touched_L1 base l known) (fun _ => rfl) KK (0, []) hs (Cut.trans (cut_nilRow 7 2000024 3 1 rfl (by kernel_rfl) (by kernel_rfl)) (cut_of [0, 1, 2, 7, 8] [2000024] (by kernel_rfl) (by kernel_rfl) (by kernel_rfl))) (fun K1 q1 hs => ?_)
  rw [s_greenbeltref45_Touched_L1] at hs
  show WpV cK0 Tryz.prog none 29 _ _ [(0, .vs 5 (List.map enc_Fact base)), (1, .vs 10 (List.map enc_Formula l)), (2, .int .i64 known), (7, .sl 1 2000024 ((q1.2).length) 0 ((q1.2).length)), (8, .int .i64 q1.1)] [(2000024, .row 3 1 0 (List.map EV.encI q1.2))] []
  refine v_seq (v_seq (vr_text (o_runs 2 [(10, .vs 10 (List.map enc_Formula l)), (9, .int .i64 q1.1)] (by kernel_rfl) ?_)))
  refine o_pure (v := .int .i64 (List.length l : Int)) (by kernel_rfl) (by kernel_rfl) (loc_lenVs (sz := 10) (els := (List.map enc_Formula l)) (by kernel_rfl) (by kernel_rfl) (List.length_map ..)) ?_
  refine o_runs 1 [(12, .bool (decide (q1.1 < (List.length l : Int))))] (by kernel_rfl) ?_
  refine ov_nil (nrm_thenV ?_)
  refine v_cond (decide (q1.1 < (List.length l : Int))) (by kernel_rfl) (fun h1 => ?_) (fun h1 => ?_)
  ·replace hs := bif_t h1 hs
   refine v_skip (nrm_thenV (v_seq (v_block (v_seq (vr_text (o_runs 3 [(17, .int .i64 q1.1), (16, .vs 10 (List.map enc_Formula l)), (15, .vs 5 (List.map enc_Fact base))] (by kernel_rfl) ?_))))))
   obtain ⟨x1, g1, hs⟩ := bind_some hs; obtain ⟨g1a, g1b, g1c⟩ := idx_some g1
   refine o_pure (v := .vp (enc_Formula x1) 0) (by kernel_rfl) (by kernel_rfl) (loc_indexVs (e := 31) (sz := 10) (k := .i64) (els := (List.map enc_Formula l)) (cs := (enc_Formula x1)) (by kernel_rfl) (by kernel_rfl) (by kernel_rfl) g1a (by rw [g1c]; exact map_get _ (by omega))) ?_
   refine o_runs 2 [(20, .int .i64 known), (19, .agg (enc_Formula x1))] (by kernel_rfl) ?_
   obtain ⟨y1, c1, hs⟩ := bind_some hs
   refine o_pure (v := .vs 1 (List.map EV.encS y1)) (by kernel_rfl) (by kernel_rfl) (loc_gcall0 (callV_func hbv18 (by kernel_rfl)) (w_greenbeltref45_Stale base x1 known _ c1) (by kernel_rfl)) ?_
   refine o_pure (v := .int .i64 (List.length y1 : Int)) (by kernel_rfl) (by kernel_rfl) (loc_lenVs (sz := 1) (els := (List.map EV.encS y1)) (by kernel_rfl) (by kernel_rfl) (List.length_map ..)) ?_
   refine o_runs 1 [(23, .bool (decide ((List.length y1 : Int) > 0)))] (by kernel_rfl) ?_
   refine ov_nil (nrm_thenV ?_)
   obtain ⟨z2, hs, hk2⟩ := bind_some hs
   refine v_join (S := (List Int)) (fun u => u = z2) (fun u => [(0, .vs 5 (List.map enc_Fact base)), (1, .vs 10 (List.map enc_Formula l)), (2, .int .i64 known), (7, .sl 1 2000024 ((u).length) 0 ((u).length)), (8, .int .i64 q1.1)]) (fun u => [(2000024, .row 3 1 0 (List.map EV.encI u))]) ?_ (fun v2 hz => ?_)
   ·refine v_cond (decide ((List.length y1 : Int) > 0)) (by kernel_rfl) (fun h2 => ?_) (fun h2 => ?_)
    ·replace hs := bif_t h2 hs
     refine vr_text (o_runh 3 [(26, .sl 1 26 1 0 1), (25, .int .i64 q1.1), (24, .sl 1 2000024 ((q1.2).length) 0 ((q1.2).length))] [(26, .row 3 1 0 (List.map EV.encI [q1.1])), (2000024, .row 3 1 0 (List.map EV.encI q1.2))] (by kernel_rfl) ?_)
     obtain ⟨_, g2, hs⟩ := bind_some hs; replace g2 := grd_some g2
     refine o_loc (F := [(2000024, .row 3 1 0 (List.map EV.encI q1.2)), (26, .row 3 1 0 (List.map EV.encI [q1.1]))]) (F' := [(2000024, .row 3 1 0 (List.map EV.encI (q1.2 ++ [q1.1]))), (26, .row 3 1 0 (List.map EV.encI [q1.1]))]) (v := .sl 1 2000024 (((q1.2 ++ [q1.1])).length) 0 (((q1.2 ++ [q1.1])).length)) [2000024, 26] (by kernel_rfl) (by kernel_rfl) rfl (by kernel_rfl) (loc_appendT (e := 3) (sz := 1) (bytes := 8) (L := (q1.2).length) (els := (List.map EV.encI q1.2)) (ys := (List.map EV.encI [q1.1])) (by kernel_rfl) (by kernel_rfl) (by first | exact List.length_map .. | rfl) (.sl (t := 3) (fz := 0) (ys := (List.map EV.encI [q1.1])) (by kernel_rfl) (by kernel_rfl)) (map_ones EV.encI (fun _ => rfl) _) (map_lens EV.encI (fun _ => rfl) _) (by kernel_rfl) (by first | exact (List.map_append ..).symm | rfl | simp only [List.map_nil, List.nil_append]) (List.length_map ..) g2 (by omega)) (by kernel_rfl) ?_
     refine o_runs 1 [(7, .sl 1 2000024 (((q1.2 ++ [q1.1])).length) 0 (((q1.2 ++ [q1.1])).length))] (by kernel_rfl) ?_
     refine ov_nil ?_
     obtain rfl := si hs
     refine nrm_join (q1.2 ++ [q1.1]) rfl ?_
     exact cut_of [0, 1, 2, 7, 8] [2000024] (by kernel_rfl) (by kernel_rfl) (by kernel_rfl)
    ·replace hs := bif_f h2 hs
     refine v_skip ?_
     obtain rfl := si hs
     refine nrm_join q1.2 rfl ?_
     exact cut_of [0, 1, 2, 7, 8] [2000024] (by kernel_rfl) (by kernel_rfl) (by kernel_rfl)
   ·subst hz; clear hs; have hs := hk2; clear hk2
    refine nrm_blkV (nrm_thenV (vr_text (o_runs 3 [(8, .int .i64 (w64 (q1.1 + 1))), (14, .int .i64 (w64 (q1.1 + 1))), (13, .int .i64 q1.1)] (by kernel_rfl) ?_)))
    refine ov_nil (nrm_fuel ((w64 (q1.1 + 1)), v2) hs ?_)
    exact cut_of [0, 1, 2, 7, 8] [2000024] (by kernel_rfl) (by kernel_rfl) (by kernel_rfl)
  ·replace hs := bif_f h1 hs
   refine v_exit (exit_thenV (exit_fuel ?_))
   refine exit_blkV ?_
   obtain rfl := si hs
   refine nrm_join q1.2 rfl ?_
   exact cut_of [7] [2000024] (by kernel_rfl) (by kernel_rfl) (by kernel_rfl)
 ·subst hz; clear hs; have hs := hk1; clear hk1
  refine nrm_thenV (v_seq (vr_text (o_runs 2 [(6, .sl 1 2000024 ((v1).length) 0 ((v1).length)), (28, .sl 1 2000024 ((v1).length) 0 ((v1).length))] (by kernel_rfl) ?_)))
  refine ov_nil (nrm_thenV (v_to _ [(2000024, .row 3 1 (((List.map EV.encI v1)).length) (List.map EV.encI v1))] (cut_freeze (F := [(2000024, .row 3 1 0 (List.map EV.encI v1))]) [2000024] rfl (by kernel_rfl) (by kernel_rfl)) ?_))
  refine v_to ((6, .vs 1 (List.map EV.encI v1)) :: _) _ (cut_view (R := [(2000024, .row 3 1 (((List.map EV.encI v1)).length) (List.map EV.encI v1))]) (ks := [2000024]) (by kernel_rfl) (by kernel_rfl) (.row (t := 3) (fz := (((List.map EV.encI v1)).length)) (by kernel_rfl) (by first | (simp only [List.length_map, List.length_set]; done) | rfl))) ?_
  refine v_ret ?_
  obtain rfl := si hs
  exact fin_ret (by kernel_rfl) (by kernel_rfl) (by kernel_rfl)
theorem w_greenbeltref45_Reopened (base : (List Fact)) (l : (List Formula)) (known : Int) (r : (List Int)) (hs : s_greenbeltref45_Reopened base l known = some r) : FnA Tryz.prog 24 [.vs 5 (List.map enc_Fact base), .vs 10 (List.map enc_Formula l), .int .i64 known] [] (.vs 1 (List.map EV.encI r)) [] := by
 refine fnA_of_wp (N := 44) Tryz.func24 rfl rfl rfl fun cK0 => ?_
 unfold s_greenbeltref45_Reopened at hs
 refine v_same (ρ' := [(0, .vs 5 (List.map enc_Fact base)), (1, .vs 10 (List.map enc_Formula l)), (2, .int .i64 known)]) rfl rfl ?_
 refine v_seq (vr_text (o_runs 1 [(6, .nils)] (by kernel_rfl) ?_))
 refine ov_nil (nrm_thenV (v_seq (vr_text (o_runs 1 [(7, .nils)] (by kernel_rfl) ?_))))
 refine ov_nil (nrm_thenV (v_seq (v_seq (vr_text (o_runs 1 [(8, .int .i64 0)] (by kernel_rfl) ?_)))))
 refine ov_nil (nrm_thenV ?_)
 obtain ⟨z1, hs, hk1⟩ := bind_some hs
 refine v_join (S := (List Int)) (fun u => u = z1) (fun u => [(7, .sl 1 2000039 ((u).length) 0 ((u).length))]) (fun u => [(2000039, .row 3 1 0 (List.map EV.encI u))]) ?_ (fun v1 hz => ?_)
 ·refine v_block ?_
  refine v_fuel (S := Int × (List Int)) (fun u => [(0, .vs 5 (List.map enc_Fact base)), (1, .vs 10 (List.map enc_Formula l)), (2, .int .i64 known), (7, .sl 1 2000039 ((u.2).length) 0 ((u.2).length)), (8, .int .i64 u.1)]) (fun u => [(2000039, .row 3 1 0 (List.map EV.encI u.2))]) (s_greenbeltref45_Reopened_L1 base l known) (fun _ => rfl) KK (0, []) hs (Cut.trans (cut_nilRow 7 2000039 3 1 rfl (by kernel_rfl) (by kernel_rfl)) (cut_of [0, 1, 2, 7, 8] [2000039] (by kernel_rfl) (by kernel_rfl) (by kernel_rfl))) (fun K1 q1 hs => ?_)
  rw [s_greenbeltref45_Reopened_L1] at hs
  show WpV cK0 Tryz.prog none 44 _ _ [(0, .vs 5 (List.map enc_Fact base)), (1, .vs 10 (List.map enc_Formula l)), (2, .int .i64 known), (7, .sl 1 2000039 ((q1.2).length) 0 ((q1.2).length)), (8, .int .i64 q1.1)] [(2000039, .row 3 1 0 (List.map EV.encI q1.2))] []
  refine v_seq (v_seq (vr_text (o_runs 2 [(10, .vs 10 (List.map enc_Formula l)), (9, .int .i64 q1.1)] (by kernel_rfl) ?_)))
  refine o_pure (v := .int .i64 (List.length l : Int)) (by kernel_rfl) (by kernel_rfl) (loc_lenVs (sz := 10) (els := (List.map enc_Formula l)) (by kernel_rfl) (by kernel_rfl) (List.length_map ..)) ?_
  refine o_runs 1 [(12, .bool (decide (q1.1 < (List.length l : Int))))] (by kernel_rfl) ?_
  refine ov_nil (nrm_thenV ?_)
  refine v_cond (decide (q1.1 < (List.length l : Int))) (by kernel_rfl) (fun h1 => ?_) (fun h1 => ?_)
  ·replace hs := bif_t h1 hs
   refine v_skip (nrm_thenV (v_seq (v_block (v_seq ?_))))
   obtain ⟨z2, hs, hk2⟩ := bind_some hs
   refine v_join (S := Bool) (fun u => u = z2) (fun u => [(0, .vs 5 (List.map enc_Fact base)), (1, .vs 10 (List.map enc_Formula l)), (2, .int .i64 known), (7, .sl 1 2000039 ((q1.2).length) 0 ((q1.2).length)), (8, .int .i64 q1.1), (38, .bool u)]) (fun u => [(2000039, .row 3 1 0 (List.map EV.encI q1.2))]) ?_ (fun v2 hz => ?_)
   ·refine v_draw mixedH (by kernel_rfl) ?_
    refine d_runs 1 0 [(15, .vs 5 (List.map enc_Fact base))] (pfp 1 0) (by kernel_rfl) (by kernel_rfl) ?_
    obtain ⟨y1, c1, hs⟩ := bind_some hs
    refine d_pure (v := .bool y1) 1 rfl rfl rfl rfl (by kernel_rfl) (by kernel_rfl) (loc_gcall0 (callV_func hbv29 (by kernel_rfl)) (w_greenbeltref44_Right base _ c1) (by kernel_rfl)) ?_
    refine d_runs 1 2 [(17, .bool y1)] (pfp 1 2) (by kernel_rfl) (by kernel_rfl) ?_
    cases h2 : (y1)
    ·replace hs := bif_f h2 hs
     refine d_runs 21 3 [(38, .bool false), (37, .no), (36, .no), (35, .no), (34, .no), (33, .no), (32, .no), (31, .no), (30, .no), (29, .no), (28, .no), (27, .no), (26, .no), (25, .no), (24, .bool false), (23, .bool false), (22, .no), (21, .no), (20, .no), (19, .no), (18, .no)] (pfp 21 23) (by kernel_rfl) (by kernel_rfl) ?_
     refine d_nil (by kernel_rfl) ?_
     obtain rfl := si hs
     refine nrm_join false rfl ?_
     exact cut_of [0, 1, 2, 7, 8, 38] [2000039] (by kernel_rfl) (by kernel_rfl) (by kernel_rfl)
    ·replace hs := bif_t h2 hs
     refine d_runs 2 3 [(19, .int .i64 q1.1), (18, .vs 10 (List.map enc_Formula l))] (pfp 2 4) (by kernel_rfl) (by kernel_rfl) ?_
     obtain ⟨x1, g1, hs⟩ := bind_some hs; obtain ⟨g1a, g1b, g1c⟩ := idx_some g1
     refine d_pure (v := .vp (enc_Formula x1) 0) 5 rfl rfl rfl rfl (by kernel_rfl) (by kernel_rfl) (loc_indexVs (e := 31) (sz := 10) (k := .i64) (els := (List.map enc_Formula l)) (cs := (enc_Formula x1)) (by kernel_rfl) (by kernel_rfl) (by kernel_rfl) g1a (by rw [g1c]; exact map_get _ (by omega))) ?_
     refine d_runs 1 6 [(21, .agg (enc_Formula x1))] (pfp 1 6) (by kernel_rfl) (by kernel_rfl) ?_
     obtain ⟨y2, c2, hs⟩ := bind_some hs
     refine d_pure (v := .bool y2) 7 rfl rfl rfl rfl (by kernel_rfl) (by kernel_rfl) (loc_gcall0 (callV_func hbv10 (by kernel_rfl)) (w_greenbeltref45_Right x1 _ c2) (by kernel_rfl)) ?_
     refine d_runs 2 8 [(24, .bool y2), (23, .bool y2)] (pfp 2 9) (by kernel_rfl) (by kernel_rfl) ?_
     cases h3 : (y2)
     ·replace hs := bif_f h3 hs
      refine d_runs 14 10 [(38, .bool false), (37, .no), (36, .no), (35, .no), (34, .no), (33, .no), (32, .no), (31, .no), (30, .no), (29, .no), (28, .no), (27, .no), (26, .no), (25, .no)] (pfp 14 23) (by kernel_rfl) (by kernel_rfl) ?_
      refine d_nil (by kernel_rfl) ?_
      obtain rfl := si hs
      refine nrm_join false rfl ?_
      exact cut_of [0, 1, 2, 7, 8, 38] [2000039] (by kernel_rfl) (by kernel_rfl) (by kernel_rfl)
     ·replace hs := bif_t h3 hs
      refine d_runs 3 10 [(27, .int .i64 q1.1), (26, .vs 10 (List.map enc_Formula l)), (25, .vs 5 (List.map enc_Fact base))] (pfp 3 12) (by kernel_rfl) (by kernel_rfl) ?_
      obtain ⟨x2, g2, hs⟩ := bind_some hs; obtain ⟨g2a, g2b, g2c⟩ := idx_some g2
      refine d_pure (v := .vp (enc_Formula x2) 0) 13 rfl rfl rfl rfl (by kernel_rfl) (by kernel_rfl) (loc_indexVs (e := 31) (sz := 10) (k := .i64) (els := (List.map enc_Formula l)) (cs := (enc_Formula x2)) (by kernel_rfl) (by kernel_rfl) (by kernel_rfl) g2a (by rw [g2c]; exact map_get _ (by omega))) ?_
      refine d_runs 2 14 [(30, .int .i64 known), (29, .agg (enc_Formula x2))] (pfp 2 15) (by kernel_rfl) (by kernel_rfl) ?_
      obtain ⟨y3, c3, hs⟩ := bind_some hs
      refine d_pure (v := .int .i64 y3) 16 rfl rfl rfl rfl (by kernel_rfl) (by kernel_rfl) (loc_gcall0 (callV_func hbv30 (by kernel_rfl)) (w_greenbeltref45_Value base x2 known _ c3) (by kernel_rfl)) ?_
      refine d_runs 2 17 [(33, .int .i64 q1.1), (32, .vs 10 (List.map enc_Formula l))] (pfp 2 18) (by kernel_rfl) (by kernel_rfl) ?_
      obtain ⟨x3, g3, hs⟩ := bind_some hs; obtain ⟨g3a, g3b, g3c⟩ := idx_some g3
      refine d_pure (v := .vp (enc_Formula x3) 0) 19 rfl rfl rfl rfl (by kernel_rfl) (by kernel_rfl) (loc_indexVs (e := 31) (sz := 10) (k := .i64) (els := (List.map enc_Formula l)) (cs := (enc_Formula x3)) (by kernel_rfl) (by kernel_rfl) (by kernel_rfl) g3a (by rw [g3c]; exact map_get _ (by omega))) ?_
      refine d_runs 4 20 [(38, .bool (!(decide (y3 = x3.Result)))), (37, .bool (!(decide (y3 = x3.Result)))), (36, .int .i64 x3.Result), (35, .vp (enc_Formula x3) 8)] (pfp 4 23) (by kernel_rfl) (by kernel_rfl) ?_
      refine d_nil (by kernel_rfl) ?_
      obtain rfl := si hs
      refine nrm_join (!(decide (y3 = x3.Result))) rfl ?_
      exact cut_of [0, 1, 2, 7, 8, 38] [2000039] (by kernel_rfl) (by kernel_rfl) (by kernel_rfl)
   ·subst hz; clear hs; have hs := hk2; clear hk2
    refine nrm_thenV ?_
    obtain ⟨z3, hs, hk3⟩ := bind_some hs
    refine v_join (S := (List Int)) (fun u => u = z3) (fun u => [(0, .vs 5 (List.map enc_Fact base)), (1, .vs 10 (List.map enc_Formula l)), (2, .int .i64 known), (7, .sl 1 2000039 ((u).length) 0 ((u).length)), (8, .int .i64 q1.1)]) (fun u => [(2000039, .row 3 1 0 (List.map EV.encI u))]) ?_ (fun v3 hz => ?_)
    ·refine v_cond v2 (by kernel_rfl) (fun h4 => ?_) (fun h4 => ?_)
     ·replace hs := bif_t h4 hs
      refine vr_text (o_runh 3 [(41, .sl 1 41 1 0 1), (40, .int .i64 q1.1), (39, .sl 1 2000039 ((q1.2).length) 0 ((q1.2).length))] [(41, .row 3 1 0 (List.map EV.encI [q1.1])), (2000039, .row 3 1 0 (List.map EV.encI q1.2))] (by kernel_rfl) ?_)
      obtain ⟨_, g4, hs⟩ := bind_some hs; replace g4 := grd_some g4
      refine o_loc (F := [(2000039, .row 3 1 0 (List.map EV.encI q1.2)), (41, .row 3 1 0 (List.map EV.encI [q1.1]))]) (F' := [(2000039, .row 3 1 0 (List.map EV.encI (q1.2 ++ [q1.1]))), (41, .row 3 1 0 (List.map EV.encI [q1.1]))]) (v := .sl 1 2000039 (((q1.2 ++ [q1.1])).length) 0 (((q1.2 ++ [q1.1])).length)) [2000039, 41] (by kernel_rfl) (by kernel_rfl) rfl (by kernel_rfl) (loc_appendT (e := 3) (sz := 1) (bytes := 8) (L := (q1.2).length) (els := (List.map EV.encI q1.2)) (ys := (List.map EV.encI [q1.1])) (by kernel_rfl) (by kernel_rfl) (by first | exact List.length_map .. | rfl) (.sl (t := 3) (fz := 0) (ys := (List.map EV.encI [q1.1])) (by kernel_rfl) (by kernel_rfl)) (map_ones EV.encI (fun _ => rfl) _) (map_lens EV.encI (fun _ => rfl) _) (by kernel_rfl) (by first | exact (List.map_append ..).symm | rfl | simp only [List.map_nil, List.nil_append]) (List.length_map ..) g4 (by omega)) (by kernel_rfl) ?_
      refine o_runs 1 [(7, .sl 1 2000039 (((q1.2 ++ [q1.1])).length) 0 (((q1.2 ++ [q1.1])).length))] (by kernel_rfl) ?_
      refine ov_nil ?_
      obtain rfl := si hs
      refine nrm_join (q1.2 ++ [q1.1]) rfl ?_
      exact cut_of [0, 1, 2, 7, 8] [2000039] (by kernel_rfl) (by kernel_rfl) (by kernel_rfl)
     ·replace hs := bif_f h4 hs
      refine v_skip ?_
      obtain rfl := si hs
      refine nrm_join q1.2 rfl ?_
      exact cut_of [0, 1, 2, 7, 8] [2000039] (by kernel_rfl) (by kernel_rfl) (by kernel_rfl)
    ·subst hz; clear hs; have hs := hk3; clear hk3
     refine nrm_blkV (nrm_thenV (vr_text (o_runs 3 [(8, .int .i64 (w64 (q1.1 + 1))), (14, .int .i64 (w64 (q1.1 + 1))), (13, .int .i64 q1.1)] (by kernel_rfl) ?_)))
     refine ov_nil (nrm_fuel ((w64 (q1.1 + 1)), v3) hs ?_)
     exact cut_of [0, 1, 2, 7, 8] [2000039] (by kernel_rfl) (by kernel_rfl) (by kernel_rfl)
  ·replace hs := bif_f h1 hs
   refine v_exit (exit_thenV (exit_fuel ?_))
   refine exit_blkV ?_
   obtain rfl := si hs
   refine nrm_join q1.2 rfl ?_
   exact cut_of [7] [2000039] (by kernel_rfl) (by kernel_rfl) (by kernel_rfl)
 ·subst hz; clear hs; have hs := hk1; clear hk1
  refine nrm_thenV (v_seq (vr_text (o_runs 2 [(6, .sl 1 2000039 ((v1).length) 0 ((v1).length)), (43, .sl 1 2000039 ((v1).length) 0 ((v1).length))] (by kernel_rfl) ?_)))
  refine ov_nil (nrm_thenV (v_to _ [(2000039, .row 3 1 (((List.map EV.encI v1)).length) (List.map EV.encI v1))] (cut_freeze (F := [(2000039, .row 3 1 0 (List.map EV.encI v1))]) [2000039] rfl (by kernel_rfl) (by kernel_rfl)) ?_))
  refine v_to ((6, .vs 1 (List.map EV.encI v1)) :: _) _ (cut_view (R := [(2000039, .row 3 1 (((List.map EV.encI v1)).length) (List.map EV.encI v1))]) (ks := [2000039]) (by kernel_rfl) (by kernel_rfl) (.row (t := 3) (fz := (((List.map EV.encI v1)).length)) (by kernel_rfl) (by first | (simp only [List.length_map, List.length_set]; done) | rfl))) ?_
  refine v_ret ?_
  obtain rfl := si hs
  exact fin_ret (by kernel_rfl) (by kernel_rfl) (by kernel_rfl)
theorem w_greenbeltlaw45_ReopenTells (base : (List Fact)) (l : (List Formula)) (known : Int) (r : Bool) (hs : s_greenbeltlaw45_ReopenTells base l known = some r) : FnA Tryz.prog 3 [.vs 5 (List.map enc_Fact base), .vs 10 (List.map enc_Formula l), .int .i64 known] [] (.bool r) [] := by
 refine fnA_of_wp (N := 157) Tryz.func3 rfl rfl rfl fun cK0 => ?_
 unfold s_greenbeltlaw45_ReopenTells at hs
 refine v_same (ρ' := [(0, .vs 5 (List.map enc_Fact base)), (1, .vs 10 (List.map enc_Formula l)), (2, .int .i64 known)]) rfl rfl ?_
 refine v_seq (vr_text (o_runs 1 [(6, .bool false)] (by kernel_rfl) ?_))
 refine ov_nil (nrm_thenV (v_seq (vr_text ?_)))
 obtain ⟨y1, c1, hs⟩ := bind_some hs
 refine o_pure (v := .bool y1) (by kernel_rfl) (by kernel_rfl) (loc_gcall0 (callV_func hbv4 (by kernel_rfl)) (w_greenbeltlaw45_small  _ c1) (by kernel_rfl)) ?_
 refine o_runs 1 [(7, .bool y1)] (by kernel_rfl) ?_
 refine ov_nil (nrm_thenV (v_seq (v_seq (vr_text (o_runs 2 [(15, .vs 10 (List.map enc_Formula l)), (14, .vs 5 (List.map enc_Fact base))] (by kernel_rfl) ?_)))))
 obtain ⟨y2, c2, hs⟩ := bind_some hs
 refine o_pure (v := .bool y2) (by kernel_rfl) (by kernel_rfl) (loc_gcall0 (callV_func hbv5 (by kernel_rfl)) (w_greenbeltref45_Few base l _ c2) (by kernel_rfl)) ?_
 refine o_runs 1 [(17, .bool (!y2))] (by kernel_rfl) ?_
 refine ov_nil (nrm_thenV ?_)
 refine v_cond (!y2) (by kernel_rfl) (fun h1 => ?_) (fun h1 => ?_)
 ·replace hs := bif_t h1 hs
  refine v_seq (vr_text (o_runs 2 [(6, .bool y1), (18, .bool y1)] (by kernel_rfl) ?_))
  refine ov_nil (nrm_thenV (v_ret (ret_thenV ?_)))
  obtain rfl := si hs
  exact fin_ret (by kernel_rfl) (by kernel_rfl) (by kernel_rfl)
 ·replace hs := bif_f h1 hs
  refine v_skip (nrm_thenV (v_seq (v_seq (vr_text (o_runs 1 [(8, .int .i64 0)] (by kernel_rfl) ?_)))))
  refine ov_nil (nrm_thenV ?_)
  obtain ⟨z1, hs, hk1⟩ := bind_some hs
  refine v_join (S := Unit) (fun u => z1 = .inr u) (fun u => [(0, .vs 5 (List.map enc_Fact base)), (1, .vs 10 (List.map enc_Formula l)), (2, .int .i64 known), (7, .bool y1)]) (fun u => []) ?_ (fun v1 hz => ?_)
  ·refine v_block ?_
   refine v_fuel (S := Int) (fun u => [(0, .vs 5 (List.map enc_Fact base)), (1, .vs 10 (List.map enc_Formula l)), (2, .int .i64 known), (7, .bool y1), (8, .int .i64 u)]) (fun u => []) (s_greenbeltlaw45_ReopenTells_L1 base l known) (fun _ => rfl) KK 0 hs (cut_of [0, 1, 2, 7, 8] [] (by kernel_rfl) (by kernel_rfl) (by kernel_rfl)) (fun K1 q1 hs => ?_)
   rw [s_greenbeltlaw45_ReopenTells_L1] at hs
   show WpV cK0 Tryz.prog none 157 _ _ [(0, .vs 5 (List.map enc_Fact base)), (1, .vs 10 (List.map enc_Formula l)), (2, .int .i64 known), (7, .bool y1), (8, .int .i64 q1)] [] []
   refine v_seq (v_seq (vr_text (o_runs 2 [(20, .vs 10 (List.map enc_Formula l)), (19, .int .i64 q1)] (by kernel_rfl) ?_)))
   refine o_pure (v := .int .i64 (List.length l : Int)) (by kernel_rfl) (by kernel_rfl) (loc_lenVs (sz := 10) (els := (List.map enc_Formula l)) (by kernel_rfl) (by kernel_rfl) (List.length_map ..)) ?_
   refine o_runs 1 [(22, .bool (decide (q1 < (List.length l : Int))))] (by kernel_rfl) ?_
   refine ov_nil (nrm_thenV ?_)
   refine v_cond (decide (q1 < (List.length l : Int))) (by kernel_rfl) (fun h2 => ?_) (fun h2 => ?_)
   ·replace hs := bif_t h2 hs
    refine v_skip (nrm_thenV (v_seq (v_block (v_seq (vr_text (o_runs 3 [(28, .int .i64 q1), (27, .vs 10 (List.map enc_Formula l)), (26, .vs 5 (List.map enc_Fact base))] (by kernel_rfl) ?_))))))
    obtain ⟨x1, g1, hs⟩ := bind_some hs; obtain ⟨g1a, g1b, g1c⟩ := idx_some g1
    refine o_pure (v := .vp (enc_Formula x1) 0) (by kernel_rfl) (by kernel_rfl) (loc_indexVs (e := 31) (sz := 10) (k := .i64) (els := (List.map enc_Formula l)) (cs := (enc_Formula x1)) (by kernel_rfl) (by kernel_rfl) (by kernel_rfl) g1a (by rw [g1c]; exact map_get _ (by omega))) ?_
    refine o_runs 1 [(30, .agg (enc_Formula x1))] (by kernel_rfl) ?_
    obtain ⟨y3, c3, hs⟩ := bind_some hs
    refine o_pure (v := .tup [.agg (enc_Formula y3.1), .int .i64 y3.2]) (by kernel_rfl) (by kernel_rfl) (loc_gcall0 (callV_func hbv6 (by kernel_rfl)) (w_reopen_Make base x1 _ c3) (by kernel_rfl)) ?_
    refine o_runh 6 [(10, .int .i64 y3.2), (9, .ptr 9 0 0), (33, .int .i64 y3.2), (32, .agg (enc_Formula y3.1)), (25, .tup [.agg (enc_Formula y3.1), .int .i64 y3.2])] [(9, .box 31 [.int .i64 y3.1.Id, .int .i64 y3.1.Day, .int .i64 y3.1.Known, .int .i64 y3.1.Body.Op, .int .i64 y3.1.Body.N, .str y3.1.Body.S, .str y3.1.Body.Key, .vs 5 (encs_Expr y3.1.Body.Args), .int .i64 y3.1.Result, .vs 4 (List.map enc_Asked y3.1.Asked)])] (by kernel_rfl) ?_
    refine ov_nil (nrm_thenV (v_seq (vr_text (o_runs 3 [(37, .int .i64 q1), (36, .vs 10 (List.map enc_Formula l)), (35, .vs 5 (List.map enc_Fact base))] (by kernel_rfl) ?_))))
    obtain ⟨x2, g2, hs⟩ := bind_some hs; obtain ⟨g2a, g2b, g2c⟩ := idx_some g2
    refine o_pure (v := .vp (enc_Formula x2) 0) (by kernel_rfl) (by kernel_rfl) (loc_indexVs (e := 31) (sz := 10) (k := .i64) (els := (List.map enc_Formula l)) (cs := (enc_Formula x2)) (by kernel_rfl) (by kernel_rfl) (by kernel_rfl) g2a (by rw [g2c]; exact map_get _ (by omega))) ?_
    refine o_runs 1 [(39, .agg (enc_Formula x2))] (by kernel_rfl) ?_
    obtain ⟨y4, c4, hs⟩ := bind_some hs
    refine o_pure (v := .tup [.agg (enc_Formula y4.1), .int .i64 y4.2]) (by kernel_rfl) (by kernel_rfl) (loc_gcall0 (callV_func hbv7 (by kernel_rfl)) (w_greenbeltref45_Make base x2 _ c4) (by kernel_rfl)) ?_
    refine o_runh 6 [(12, .int .i64 y4.2), (11, .ptr 11 0 0), (42, .int .i64 y4.2), (41, .agg (enc_Formula y4.1)), (34, .tup [.agg (enc_Formula y4.1), .int .i64 y4.2])] [(11, .box 31 [.int .i64 y4.1.Id, .int .i64 y4.1.Day, .int .i64 y4.1.Known, .int .i64 y4.1.Body.Op, .int .i64 y4.1.Body.N, .str y4.1.Body.S, .str y4.1.Body.Key, .vs 5 (encs_Expr y4.1.Body.Args), .int .i64 y4.1.Result, .vs 4 (List.map enc_Asked y4.1.Asked)]), (9, .box 31 [.int .i64 y3.1.Id, .int .i64 y3.1.Day, .int .i64 y3.1.Known, .int .i64 y3.1.Body.Op, .int .i64 y3.1.Body.N, .str y3.1.Body.S, .str y3.1.Body.Key, .vs 5 (encs_Expr y3.1.Body.Args), .int .i64 y3.1.Result, .vs 4 (List.map enc_Asked y3.1.Asked)])] (by kernel_rfl) ?_
    refine ov_nil (nrm_thenV (v_seq (v_seq ?_)))
    obtain ⟨z2, hs, hk2⟩ := bind_some hs
    refine v_join (S := Bool) (fun u => u = z2) (fun u => [(0, .vs 5 (List.map enc_Fact base)), (1, .vs 10 (List.map enc_Formula l)), (2, .int .i64 known), (7, .bool y1), (8, .int .i64 q1), (9, .ptr 9 0 0), (10, .int .i64 y3.2), (115, .bool u)]) (fun u => [(9, .box 31 [.int .i64 y3.1.Id, .int .i64 y3.1.Day, .int .i64 y3.1.Known, .int .i64 y3.1.Body.Op, .int .i64 y3.1.Body.N, .str y3.1.Body.S, .str y3.1.Body.Key, .vs 5 (encs_Expr y3.1.Body.Args), .int .i64 y3.1.Result, .vs 4 (List.map enc_Asked y3.1.Asked)])]) ?_ (fun v2 hz => ?_)
    ·refine v_draw mixedH (by kernel_rfl) ?_
     refine d_runs 4 0 [(46, .bool (!(decide (y3.2 = y4.2)))), (45, .bool (!(decide (y3.2 = y4.2)))), (44, .int .i64 y4.2), (43, .int .i64 y3.2)] (pfp 4 3) (by kernel_rfl) (by kernel_rfl) ?_
     cases h3 : ((!(decide (y3.2 = y4.2))))
     ·replace hs := bif_f h3 hs
      refine d_runs 2 4 [(48, .agg (enc_Formula y4.1)), (47, .agg (enc_Formula y3.1))] [⟨5, [], [11]⟩, ⟨4, [], [9]⟩] (by kernel_rfl) (by kernel_rfl) ?_
      obtain ⟨y5, c5, hs⟩ := bind_some hs
      refine d_pure (v := .bool y5) 6 rfl rfl rfl rfl (by kernel_rfl) (by kernel_rfl) (loc_gcall0 (callV_func hbv8 (by kernel_rfl)) (w_greenbeltlaw45_same y3.1 y4.1 _ c5) (by kernel_rfl)) ?_
      refine d_runs 3 7 [(52, .bool (!y5)), (51, .bool (!y5)), (50, .bool (!y5))] (pfp 3 9) (by kernel_rfl) (by kernel_rfl) ?_
      cases h4 : ((!y5))
      ·replace hs := bif_f h4 hs
       refine d_runs 2 10 [(54, .int .i64 q1), (53, .vs 10 (List.map enc_Formula l))] (pfp 2 11) (by kernel_rfl) (by kernel_rfl) ?_
       obtain ⟨x3, g3, hs⟩ := bind_some hs; obtain ⟨g3a, g3b, g3c⟩ := idx_some g3
       refine d_pure (v := .vp (enc_Formula x3) 0) 12 rfl rfl rfl rfl (by kernel_rfl) (by kernel_rfl) (loc_indexVs (e := 31) (sz := 10) (k := .i64) (els := (List.map enc_Formula l)) (cs := (enc_Formula x3)) (by kernel_rfl) (by kernel_rfl) (by kernel_rfl) g3a (by rw [g3c]; exact map_get _ (by omega))) ?_
       refine d_runs 1 13 [(56, .agg (enc_Formula x3))] (pfp 1 13) (by kernel_rfl) (by kernel_rfl) ?_
       obtain ⟨y6, c6, hs⟩ := bind_some hs
       refine d_pure (v := .bool y6) 14 rfl rfl rfl rfl (by kernel_rfl) (by kernel_rfl) (loc_gcall0 (callV_func hbv9 (by kernel_rfl)) (w_reopen_Right x3 _ c6) (by kernel_rfl)) ?_
       refine d_runs 2 15 [(59, .int .i64 q1), (58, .vs 10 (List.map enc_Formula l))] (pfp 2 16) (by kernel_rfl) (by kernel_rfl) ?_
       obtain ⟨x4, g4, hs⟩ := bind_some hs; obtain ⟨g4a, g4b, g4c⟩ := idx_some g4
       refine d_pure (v := .vp (enc_Formula x4) 0) 17 rfl rfl rfl rfl (by kernel_rfl) (by kernel_rfl) (loc_indexVs (e := 31) (sz := 10) (k := .i64) (els := (List.map enc_Formula l)) (cs := (enc_Formula x4)) (by kernel_rfl) (by kernel_rfl) (by kernel_rfl) g4a (by rw [g4c]; exact map_get _ (by omega))) ?_
       refine d_runs 1 18 [(61, .agg (enc_Formula x4))] (pfp 1 18) (by kernel_rfl) (by kernel_rfl) ?_
       obtain ⟨y7, c7, hs⟩ := bind_some hs
       refine d_pure (v := .bool y7) 19 rfl rfl rfl rfl (by kernel_rfl) (by kernel_rfl) (loc_gcall0 (callV_func hbv10 (by kernel_rfl)) (w_greenbeltref45_Right x4 _ c7) (by kernel_rfl)) ?_
       refine d_runs 3 20 [(65, .bool (!(y6 == y7))), (64, .bool (!(y6 == y7))), (63, .bool (!(y6 == y7)))] (pfp 3 22) (by kernel_rfl) (by kernel_rfl) ?_
       cases h5 : ((!(y6 == y7)))
       ·replace hs := bif_f h5 hs
        refine d_runs 3 23 [(68, .int .i64 q1), (67, .vs 10 (List.map enc_Formula l)), (66, .vs 5 (List.map enc_Fact base))] (pfp 3 25) (by kernel_rfl) (by kernel_rfl) ?_
        obtain ⟨x5, g5, hs⟩ := bind_some hs; obtain ⟨g5a, g5b, g5c⟩ := idx_some g5
        refine d_pure (v := .vp (enc_Formula x5) 0) 26 rfl rfl rfl rfl (by kernel_rfl) (by kernel_rfl) (loc_indexVs (e := 31) (sz := 10) (k := .i64) (els := (List.map enc_Formula l)) (cs := (enc_Formula x5)) (by kernel_rfl) (by kernel_rfl) (by kernel_rfl) g5a (by rw [g5c]; exact map_get _ (by omega))) ?_
        refine d_runs 1 27 [(70, .agg (enc_Formula x5))] (pfp 1 27) (by kernel_rfl) (by kernel_rfl) ?_
        obtain ⟨y8, c8, hs⟩ := bind_some hs
        refine d_pure (v := .bool y8) 28 rfl rfl rfl rfl (by kernel_rfl) (by kernel_rfl) (loc_gcall0 (callV_func hbv11 (by kernel_rfl)) (w_reopen_Holds base x5 _ c8) (by kernel_rfl)) ?_
        refine d_runs 3 29 [(74, .int .i64 q1), (73, .vs 10 (List.map enc_Formula l)), (72, .vs 5 (List.map enc_Fact base))] (pfp 3 31) (by kernel_rfl) (by kernel_rfl) ?_
        obtain ⟨x6, g6, hs⟩ := bind_some hs; obtain ⟨g6a, g6b, g6c⟩ := idx_some g6
        refine d_pure (v := .vp (enc_Formula x6) 0) 32 rfl rfl rfl rfl (by kernel_rfl) (by kernel_rfl) (loc_indexVs (e := 31) (sz := 10) (k := .i64) (els := (List.map enc_Formula l)) (cs := (enc_Formula x6)) (by kernel_rfl) (by kernel_rfl) (by kernel_rfl) g6a (by rw [g6c]; exact map_get _ (by omega))) ?_
        refine d_runs 1 33 [(76, .agg (enc_Formula x6))] (pfp 1 33) (by kernel_rfl) (by kernel_rfl) ?_
        obtain ⟨y9, c9, hs⟩ := bind_some hs
        refine d_pure (v := .bool y9) 34 rfl rfl rfl rfl (by kernel_rfl) (by kernel_rfl) (loc_gcall0 (callV_func hbv12 (by kernel_rfl)) (w_greenbeltref45_Holds base x6 _ c9) (by kernel_rfl)) ?_
        refine d_runs 3 35 [(80, .bool (!(y8 == y9))), (79, .bool (!(y8 == y9))), (78, .bool (!(y8 == y9)))] (pfp 3 37) (by kernel_rfl) (by kernel_rfl) ?_
        cases h6 : ((!(y8 == y9)))
        ·replace hs := bif_f h6 hs
         refine d_runs 3 38 [(83, .int .i64 q1), (82, .vs 10 (List.map enc_Formula l)), (81, .vs 5 (List.map enc_Fact base))] (pfp 3 40) (by kernel_rfl) (by kernel_rfl) ?_
         obtain ⟨x7, g7, hs⟩ := bind_some hs; obtain ⟨g7a, g7b, g7c⟩ := idx_some g7
         refine d_pure (v := .vp (enc_Formula x7) 0) 41 rfl rfl rfl rfl (by kernel_rfl) (by kernel_rfl) (loc_indexVs (e := 31) (sz := 10) (k := .i64) (els := (List.map enc_Formula l)) (cs := (enc_Formula x7)) (by kernel_rfl) (by kernel_rfl) (by kernel_rfl) g7a (by rw [g7c]; exact map_get _ (by omega))) ?_
         refine d_runs 2 42 [(86, .int .i64 known), (85, .agg (enc_Formula x7))] (pfp 2 43) (by kernel_rfl) (by kernel_rfl) ?_
         obtain ⟨y10, c10, hs⟩ := bind_some hs
         refine d_pure (v := .vs 4 (List.map enc_Asked y10)) 44 rfl rfl rfl rfl (by kernel_rfl) (by kernel_rfl) (loc_gcall0 (callV_func hbv14 (by kernel_rfl)) (w_reopen_Ask base x7 known _ c10) (by kernel_rfl)) ?_
         refine d_runs 3 45 [(90, .int .i64 q1), (89, .vs 10 (List.map enc_Formula l)), (88, .vs 5 (List.map enc_Fact base))] (pfp 3 47) (by kernel_rfl) (by kernel_rfl) ?_
         obtain ⟨x8, g8, hs⟩ := bind_some hs; obtain ⟨g8a, g8b, g8c⟩ := idx_some g8
         refine d_pure (v := .vp (enc_Formula x8) 0) 48 rfl rfl rfl rfl (by kernel_rfl) (by kernel_rfl) (loc_indexVs (e := 31) (sz := 10) (k := .i64) (els := (List.map enc_Formula l)) (cs := (enc_Formula x8)) (by kernel_rfl) (by kernel_rfl) (by kernel_rfl) g8a (by rw [g8c]; exact map_get _ (by omega))) ?_
         refine d_runs 2 49 [(93, .int .i64 known), (92, .agg (enc_Formula x8))] (pfp 2 50) (by kernel_rfl) (by kernel_rfl) ?_
         obtain ⟨y11, c11, hs⟩ := bind_some hs
         refine d_pure (v := .vs 4 (List.map enc_Asked y11)) 51 rfl rfl rfl rfl (by kernel_rfl) (by kernel_rfl) (loc_gcall0 (callV_func hbv15 (by kernel_rfl)) (w_greenbeltref45_Ask base x8 known _ c11) (by kernel_rfl)) ?_
         obtain ⟨y12, c12, hs⟩ := bind_some hs
         refine d_pure (v := .bool y12) 52 rfl rfl rfl rfl (by kernel_rfl) (by kernel_rfl) (loc_gcall0 (callV_func hbv13 (by kernel_rfl)) (w_greenbeltref45_SameAsked y10 y11 _ c12) (by kernel_rfl)) ?_
         refine d_runs 3 53 [(98, .bool (!y12)), (97, .bool (!y12)), (96, .bool (!y12))] (pfp 3 55) (by kernel_rfl) (by kernel_rfl) ?_
         cases h7 : ((!y12))
         ·replace hs := bif_f h7 hs
          refine d_runs 3 56 [(101, .int .i64 q1), (100, .vs 10 (List.map enc_Formula l)), (99, .vs 5 (List.map enc_Fact base))] (pfp 3 58) (by kernel_rfl) (by kernel_rfl) ?_
          obtain ⟨x9, g9, hs⟩ := bind_some hs; obtain ⟨g9a, g9b, g9c⟩ := idx_some g9
          refine d_pure (v := .vp (enc_Formula x9) 0) 59 rfl rfl rfl rfl (by kernel_rfl) (by kernel_rfl) (loc_indexVs (e := 31) (sz := 10) (k := .i64) (els := (List.map enc_Formula l)) (cs := (enc_Formula x9)) (by kernel_rfl) (by kernel_rfl) (by kernel_rfl) g9a (by rw [g9c]; exact map_get _ (by omega))) ?_
          refine d_runs 2 60 [(104, .int .i64 known), (103, .agg (enc_Formula x9))] (pfp 2 61) (by kernel_rfl) (by kernel_rfl) ?_
          obtain ⟨y13, c13, hs⟩ := bind_some hs
          refine d_pure (v := .vs 1 (List.map EV.encS y13)) 62 rfl rfl rfl rfl (by kernel_rfl) (by kernel_rfl) (loc_gcall0 (callV_func hbv17 (by kernel_rfl)) (w_reopen_Stale base x9 known _ c13) (by kernel_rfl)) ?_
          refine d_runs 3 63 [(108, .int .i64 q1), (107, .vs 10 (List.map enc_Formula l)), (106, .vs 5 (List.map enc_Fact base))] (pfp 3 65) (by kernel_rfl) (by kernel_rfl) ?_
          obtain ⟨x10, g10, hs⟩ := bind_some hs; obtain ⟨g10a, g10b, g10c⟩ := idx_some g10
          refine d_pure (v := .vp (enc_Formula x10) 0) 66 rfl rfl rfl rfl (by kernel_rfl) (by kernel_rfl) (loc_indexVs (e := 31) (sz := 10) (k := .i64) (els := (List.map enc_Formula l)) (cs := (enc_Formula x10)) (by kernel_rfl) (by kernel_rfl) (by kernel_rfl) g10a (by rw [g10c]; exact map_get _ (by omega))) ?_
          refine d_runs 2 67 [(111, .int .i64 known), (110, .agg (enc_Formula x10))] (pfp 2 68) (by kernel_rfl) (by kernel_rfl) ?_
          obtain ⟨y14, c14, hs⟩ := bind_some hs
          refine d_pure (v := .vs 1 (List.map EV.encS y14)) 69 rfl rfl rfl rfl (by kernel_rfl) (by kernel_rfl) (loc_gcall0 (callV_func hbv18 (by kernel_rfl)) (w_greenbeltref45_Stale base x10 known _ c14) (by kernel_rfl)) ?_
          obtain ⟨y15, c15, hs⟩ := bind_some hs
          refine d_pure (v := .bool y15) 70 rfl rfl rfl rfl (by kernel_rfl) (by kernel_rfl) (loc_gcall0 (callV_func hbv16 (by kernel_rfl)) (w_greenbeltref45_Texts y13 y14 _ c15) (by kernel_rfl)) ?_
          refine d_runs 2 71 [(115, .bool (!y15)), (114, .bool (!y15))] (pfp 2 72) (by kernel_rfl) (by kernel_rfl) ?_
          refine d_nil (by kernel_rfl) ?_
          obtain rfl := si hs
          refine nrm_join (!y15) rfl ?_
          exact cut_of [0, 1, 2, 7, 8, 9, 10, 115] [9] (by kernel_rfl) (by kernel_rfl) (by kernel_rfl)
         ·replace hs := bif_t h7 hs
          refine d_runs 17 56 [(115, .bool true), (114, .no), (113, .no), (112, .no), (111, .no), (110, .no), (109, .no), (108, .no), (107, .no), (106, .no), (105, .no), (104, .no), (103, .no), (102, .no), (101, .no), (100, .no), (99, .no)] (pfp 17 72) (by kernel_rfl) (by kernel_rfl) ?_
          refine d_nil (by kernel_rfl) ?_
          obtain rfl := si hs
          refine nrm_join true rfl ?_
          exact cut_of [0, 1, 2, 7, 8, 9, 10, 115] [9] (by kernel_rfl) (by kernel_rfl) (by kernel_rfl)
        ·replace hs := bif_t h6 hs
         refine d_runs 35 38 [(115, .bool true), (114, .no), (113, .no), (112, .no), (111, .no), (110, .no), (109, .no), (108, .no), (107, .no), (106, .no), (105, .no), (104, .no), (103, .no), (102, .no), (101, .no), (100, .no), (99, .no), (98, .bool true), (97, .bool true), (96, .no), (95, .no), (94, .no), (93, .no), (92, .no), (91, .no), (90, .no), (89, .no), (88, .no), (87, .no), (86, .no), (85, .no), (84, .no), (83, .no), (82, .no), (81, .no)] (pfp 35 72) (by kernel_rfl) (by kernel_rfl) ?_
         refine d_nil (by kernel_rfl) ?_
         obtain rfl := si hs
         refine nrm_join true rfl ?_
         exact cut_of [0, 1, 2, 7, 8, 9, 10, 115] [9] (by kernel_rfl) (by kernel_rfl) (by kernel_rfl)
       ·replace hs := bif_t h5 hs
        refine d_runs 50 23 [(115, .bool true), (114, .no), (113, .no), (112, .no), (111, .no), (110, .no), (109, .no), (108, .no), (107, .no), (106, .no), (105, .no), (104, .no), (103, .no), (102, .no), (101, .no), (100, .no), (99, .no), (98, .bool true), (97, .bool true), (96, .no), (95, .no), (94, .no), (93, .no), (92, .no), (91, .no), (90, .no), (89, .no), (88, .no), (87, .no), (86, .no), (85, .no), (84, .no), (83, .no), (82, .no), (81, .no), (80, .bool true), (79, .bool true), (78, .no), (77, .no), (76, .no), (75, .no), (74, .no), (73, .no), (72, .no), (71, .no), (70, .no), (69, .no), (68, .no), (67, .no), (66, .no)] (pfp 50 72) (by kernel_rfl) (by kernel_rfl) ?_
        refine d_nil (by kernel_rfl) ?_
        obtain rfl := si hs
        refine nrm_join true rfl ?_
        exact cut_of [0, 1, 2, 7, 8, 9, 10, 115] [9] (by kernel_rfl) (by kernel_rfl) (by kernel_rfl)
      ·replace hs := bif_t h4 hs
       refine d_runs 63 10 [(115, .bool true), (114, .no), (113, .no), (112, .no), (111, .no), (110, .no), (109, .no), (108, .no), (107, .no), (106, .no), (105, .no), (104, .no), (103, .no), (102, .no), (101, .no), (100, .no), (99, .no), (98, .bool true), (97, .bool true), (96, .no), (95, .no), (94, .no), (93, .no), (92, .no), (91, .no), (90, .no), (89, .no), (88, .no), (87, .no), (86, .no), (85, .no), (84, .no), (83, .no), (82, .no), (81, .no), (80, .bool true), (79, .bool true), (78, .no), (77, .no), (76, .no), (75, .no), (74, .no), (73, .no), (72, .no), (71, .no), (70, .no), (69, .no), (68, .no), (67, .no), (66, .no), (65, .bool true), (64, .bool true), (63, .no), (62, .no), (61, .no), (60, .no), (59, .no), (58, .no), (57, .no), (56, .no), (55, .no), (54, .no), (53, .no)] (pfp 63 72) (by kernel_rfl) (by kernel_rfl) ?_
       refine d_nil (by kernel_rfl) ?_
       obtain rfl := si hs
       refine nrm_join true rfl ?_
       exact cut_of [0, 1, 2, 7, 8, 9, 10, 115] [9] (by kernel_rfl) (by kernel_rfl) (by kernel_rfl)
     ·replace hs := bif_t h3 hs
      refine d_runs 69 4 [(115, .bool true), (114, .no), (113, .no), (112, .no), (111, .no), (110, .no), (109, .no), (108, .no), (107, .no), (106, .no), (105, .no), (104, .no), (103, .no), (102, .no), (101, .no), (100, .no), (99, .no), (98, .bool true), (97, .bool true), (96, .no), (95, .no), (94, .no), (93, .no), (92, .no), (91, .no), (90, .no), (89, .no), (88, .no), (87, .no), (86, .no), (85, .no), (84, .no), (83, .no), (82, .no), (81, .no), (80, .bool true), (79, .bool true), (78, .no), (77, .no), (76, .no), (75, .no), (74, .no), (73, .no), (72, .no), (71, .no), (70, .no), (69, .no), (68, .no), (67, .no), (66, .no), (65, .bool true), (64, .bool true), (63, .no), (62, .no), (61, .no), (60, .no), (59, .no), (58, .no), (57, .no), (56, .no), (55, .no), (54, .no), (53, .no), (52, .bool true), (51, .bool true), (50, .no), (49, .no), (48, .no), (47, .no)] (pfp 69 72) (by kernel_rfl) (by kernel_rfl) ?_
      refine d_nil (by kernel_rfl) ?_
      obtain rfl := si hs
      refine nrm_join true rfl ?_
      exact cut_of [0, 1, 2, 7, 8, 9, 10, 115] [9] (by kernel_rfl) (by kernel_rfl) (by kernel_rfl)
    ·subst hz; clear hs; have hs := hk2; clear hk2
     refine nrm_thenV ?_
     refine v_cond v2 (by kernel_rfl) (fun h8 => ?_) (fun h8 => ?_)
     ·replace hs := bif_t h8 hs
      refine v_seq (vr_text (o_runs 1 [(6, .bool false)] (by kernel_rfl) ?_))
      refine ov_nil (nrm_thenV (v_ret (ret_thenV (ret_blkV (ret_thenV (ret_fuel ?_))))))
      refine ret_blkV (ret_join ?_)
      refine ret_thenV ?_
      obtain rfl := si hs
      replace hs := hk1
      obtain rfl := si hs
      exact fin_ret (by kernel_rfl) (by kernel_rfl) (by kernel_rfl)
     ·replace hs := bif_f h8 hs
      refine v_skip (nrm_thenV (v_seq ?_))
      obtain ⟨z3, hs, hk3⟩ := bind_some hs
      refine v_join (S := Bool) (fun u => u = z3) (fun u => [(0, .vs 5 (List.map enc_Fact base)), (1, .vs 10 (List.map enc_Formula l)), (2, .int .i64 known), (7, .bool y1), (8, .int .i64 q1), (133, .bool u)]) (fun u => []) ?_ (fun v3 hz => ?_)
      ·refine v_draw mixedH (by kernel_rfl) ?_
       refine d_runs 3 0 [(118, .bool (decide (y3.2 = 0))), (117, .bool (decide (y3.2 = 0))), (116, .int .i64 y3.2)] (pfp 3 2) (by kernel_rfl) (by kernel_rfl) ?_
       cases h9 : ((decide (y3.2 = 0)))
       ·replace hs := bif_f h9 hs
        refine d_runs 15 3 [(133, .bool false), (132, .no), (131, .no), (130, .no), (129, .no), (128, .no), (127, .no), (126, .no), (125, .no), (124, .no), (123, .no), (122, .no), (121, .no), (120, .no), (119, .no)] (pfp 15 17) (by kernel_rfl) (by kernel_rfl) ?_
        refine d_nil (by kernel_rfl) ?_
        obtain rfl := si hs
        refine nrm_join false rfl ?_
        exact cut_of [0, 1, 2, 7, 8, 133] [] (by kernel_rfl) (by kernel_rfl) (by kernel_rfl)
       ·replace hs := bif_t h9 hs
        refine d_runs 2 3 [(120, .agg (enc_Formula y3.1)), (119, .vs 5 (List.map enc_Fact base))] [⟨4, [], [9]⟩, ⟨3, [], []⟩] (by kernel_rfl) (by kernel_rfl) ?_
        obtain ⟨y16, c16, hs⟩ := bind_some hs
        refine d_pure (v := .bool y16) 5 rfl rfl rfl rfl (by kernel_rfl) (by kernel_rfl) (loc_gcall0 (callV_func hbv11 (by kernel_rfl)) (w_reopen_Holds base y3.1 _ c16) (by kernel_rfl)) ?_
        refine d_runs 2 6 [(123, .bool (!y16)), (122, .bool (!y16))] (pfp 2 7) (by kernel_rfl) (by kernel_rfl) ?_
        cases h10 : ((!y16))
        ·replace hs := bif_f h10 hs
         refine d_runs 2 8 [(125, .agg (enc_Expr y3.1.Body)), (124, .ptr 9 0 3)] [⟨9, [], [9]⟩, ⟨8, [], []⟩] (by kernel_rfl) (by kernel_rfl) ?_
         obtain ⟨y17, c17, hs⟩ := bind_some hs
         refine d_pure (v := .vs 1 (List.map EV.encS y17)) 10 rfl rfl rfl rfl (by kernel_rfl) (by kernel_rfl) (loc_gcall0 (callV_func hbv19 (by kernel_rfl)) (w_define_Names y3.1.Body _ c17) (by kernel_rfl)) ?_
         refine d_pure (v := .int .i64 (List.length y17 : Int)) 11 rfl rfl rfl rfl (by kernel_rfl) (by kernel_rfl) (loc_lenVs (sz := 1) (els := (List.map EV.encS y17)) (by kernel_rfl) (by kernel_rfl) (List.length_map ..)) ?_
         refine d_runs 2 12 [(129, .vs 4 (List.map enc_Asked y3.1.Asked)), (128, .ptr 9 0 9)] [⟨13, [], [9]⟩, ⟨12, [], []⟩] (by kernel_rfl) (by kernel_rfl) ?_
         refine d_pure (v := .int .i64 (List.length y3.1.Asked : Int)) 14 rfl rfl rfl rfl (by kernel_rfl) (by kernel_rfl) (loc_lenVs (sz := 4) (els := (List.map enc_Asked y3.1.Asked)) (by kernel_rfl) (by kernel_rfl) (List.length_map ..)) ?_
         refine d_runs 3 15 [(133, .bool (!(decide ((List.length y17 : Int) = (List.length y3.1.Asked : Int))))), (132, .bool (!(decide ((List.length y17 : Int) = (List.length y3.1.Asked : Int))))), (131, .bool (!(decide ((List.length y17 : Int) = (List.length y3.1.Asked : Int)))))] (pfp 3 17) (by kernel_rfl) (by kernel_rfl) ?_
         refine d_nil (by kernel_rfl) ?_
         obtain rfl := si hs
         refine nrm_join (!(decide ((List.length y17 : Int) = (List.length y3.1.Asked : Int)))) rfl ?_
         exact cut_of [0, 1, 2, 7, 8, 133] [] (by kernel_rfl) (by kernel_rfl) (by kernel_rfl)
        ·replace hs := bif_t h10 hs
         refine d_runs 10 8 [(133, .bool true), (132, .bool true), (131, .no), (130, .no), (129, .no), (128, .no), (127, .no), (126, .no), (125, .no), (124, .no)] (pfp 10 17) (by kernel_rfl) (by kernel_rfl) ?_
         refine d_nil (by kernel_rfl) ?_
         obtain rfl := si hs
         refine nrm_join true rfl ?_
         exact cut_of [0, 1, 2, 7, 8, 133] [] (by kernel_rfl) (by kernel_rfl) (by kernel_rfl)
      ·subst hz; clear hs; have hs := hk3; clear hk3
       refine nrm_thenV ?_
       refine v_cond v3 (by kernel_rfl) (fun h11 => ?_) (fun h11 => ?_)
       ·replace hs := bif_t h11 hs
        refine v_seq (vr_text (o_runs 1 [(6, .bool false)] (by kernel_rfl) ?_))
        refine ov_nil (nrm_thenV (v_ret (ret_blkV (ret_thenV (ret_fuel ?_)))))
        refine ret_blkV (ret_join ?_)
        refine ret_thenV ?_
        obtain rfl := si hs
        replace hs := hk1
        obtain rfl := si hs
        exact fin_ret (by kernel_rfl) (by kernel_rfl) (by kernel_rfl)
       ·replace hs := bif_f h11 hs
        refine v_skip (nrm_blkV (nrm_thenV (vr_text (o_runs 3 [(8, .int .i64 (w64 (q1 + 1))), (24, .int .i64 (w64 (q1 + 1))), (23, .int .i64 q1)] (by kernel_rfl) ?_))))
        refine ov_nil (nrm_fuel (w64 (q1 + 1)) hs ?_)
        exact cut_of [0, 1, 2, 7, 8] [] (by kernel_rfl) (by kernel_rfl) (by kernel_rfl)
   ·replace hs := bif_f h2 hs
    refine v_exit (exit_thenV (exit_fuel ?_))
    refine exit_blkV ?_
    obtain rfl := si hs
    refine nrm_join () rfl ?_
    exact cut_of [0, 1, 2, 7] [] (by kernel_rfl) (by kernel_rfl) (by kernel_rfl)
  ·subst hz; clear hs; have hs := hk1; clear hk1
   refine nrm_thenV (v_seq ?_)
   obtain ⟨z4, hs, hk4⟩ := bind_some hs
   refine v_join (S := Bool) (fun u => u = z4) (fun u => [(6, .bool u)]) (fun u => []) ?_ (fun v4 hz => ?_)
   ·refine vr_text (o_runs 2 [(135, .bool y1), (134, .bool y1)] (by kernel_rfl) ?_)
    cases h12 : (y1)
    ·replace hs := bif_f h12 hs
     refine o_runs 22 [(6, .bool false), (156, .bool false), (155, .no), (154, .no), (153, .no), (152, .no), (151, .no), (150, .no), (149, .no), (148, .no), (147, .no), (146, .bool false), (145, .bool false), (144, .no), (143, .no), (142, .no), (141, .no), (140, .no), (139, .no), (138, .no), (137, .no), (136, .no)] (by kernel_rfl) ?_
     refine ov_nil ?_
     obtain rfl := si hs
     refine nrm_join false rfl ?_
     exact cut_of [6] [] (by kernel_rfl) (by kernel_rfl) (by kernel_rfl)
    ·replace hs := bif_t h12 hs
     refine o_runs 3 [(138, .int .i64 known), (137, .vs 10 (List.map enc_Formula l)), (136, .vs 5 (List.map enc_Fact base))] (by kernel_rfl) ?_
     obtain ⟨y18, c18, hs⟩ := bind_some hs
     refine o_pure (v := .vs 1 (List.map EV.encI y18)) (by kernel_rfl) (by kernel_rfl) (loc_gcall0 (callV_func hbv21 (by kernel_rfl)) (w_reopen_Touched base l known _ c18) (by kernel_rfl)) ?_
     refine o_runs 3 [(142, .int .i64 known), (141, .vs 10 (List.map enc_Formula l)), (140, .vs 5 (List.map enc_Fact base))] (by kernel_rfl) ?_
     obtain ⟨y19, c19, hs⟩ := bind_some hs
     refine o_pure (v := .vs 1 (List.map EV.encI y19)) (by kernel_rfl) (by kernel_rfl) (loc_gcall0 (callV_func hbv22 (by kernel_rfl)) (w_greenbeltref45_Touched base l known _ c19) (by kernel_rfl)) ?_
     obtain ⟨y20, c20, hs⟩ := bind_some hs
     refine o_pure (v := .bool y20) (by kernel_rfl) (by kernel_rfl) (loc_gcall0 (callV_func hbv20 (by kernel_rfl)) (w_greenbeltref45_Ints y18 y19 _ c20) (by kernel_rfl)) ?_
     refine o_runs 2 [(146, .bool y20), (145, .bool y20)] (by kernel_rfl) ?_
     cases h13 : (y20)
     ·replace hs := bif_f h13 hs
      refine o_runs 11 [(6, .bool false), (156, .bool false), (155, .no), (154, .no), (153, .no), (152, .no), (151, .no), (150, .no), (149, .no), (148, .no), (147, .no)] (by kernel_rfl) ?_
      refine ov_nil ?_
      obtain rfl := si hs
      refine nrm_join false rfl ?_
      exact cut_of [6] [] (by kernel_rfl) (by kernel_rfl) (by kernel_rfl)
     ·replace hs := bif_t h13 hs
      refine o_runs 3 [(149, .int .i64 known), (148, .vs 10 (List.map enc_Formula l)), (147, .vs 5 (List.map enc_Fact base))] (by kernel_rfl) ?_
      obtain ⟨y21, c21, hs⟩ := bind_some hs
      refine o_pure (v := .vs 1 (List.map EV.encI y21)) (by kernel_rfl) (by kernel_rfl) (loc_gcall0 (callV_func hbv23 (by kernel_rfl)) (w_reopen_Reopened base l known _ c21) (by kernel_rfl)) ?_
      refine o_runs 3 [(153, .int .i64 known), (152, .vs 10 (List.map enc_Formula l)), (151, .vs 5 (List.map enc_Fact base))] (by kernel_rfl) ?_
      obtain ⟨y22, c22, hs⟩ := bind_some hs
      refine o_pure (v := .vs 1 (List.map EV.encI y22)) (by kernel_rfl) (by kernel_rfl) (loc_gcall0 (callV_func hbv24 (by kernel_rfl)) (w_greenbeltref45_Reopened base l known _ c22) (by kernel_rfl)) ?_
      obtain ⟨y23, c23, hs⟩ := bind_some hs
      refine o_pure (v := .bool y23) (by kernel_rfl) (by kernel_rfl) (loc_gcall0 (callV_func hbv20 (by kernel_rfl)) (w_greenbeltref45_Ints y21 y22 _ c23) (by kernel_rfl)) ?_
      refine o_runs 2 [(6, .bool y23), (156, .bool y23)] (by kernel_rfl) ?_
      refine ov_nil ?_
      obtain rfl := si hs
      refine nrm_join y23 rfl ?_
      exact cut_of [6] [] (by kernel_rfl) (by kernel_rfl) (by kernel_rfl)
   ·subst hz; clear hs; have hs := hk4; clear hk4
    refine nrm_thenV (v_ret ?_)
    obtain rfl := si hs
    exact fin_ret (by kernel_rfl) (by kernel_rfl) (by kernel_rfl)
end Go.Proofs.YtenljipeggacjaaGreat
