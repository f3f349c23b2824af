/- printed by gen2.py -/
import Derived.Test.YtenljipeggacjaaE
import Derived.Test.YtenljipeggacjaaSD
import Derived.Test.YtenljipeggacjaaSPartA
set_option linter.all false
set_option maxRecDepth 100000
namespace Go.Proofs.Ytenljipeggacjaa
open Go Go.RowKit Go.Eng Go.EV
variable [Fuel]

theorem w_expr_binary (op : Int) (a : Int) (b : Int) (r : Int) (hs : s_expr_binary op a b = some r) : FnA Try.prog 56 [.int .i64 op, .int .i64 a, .int .i64 b] [] (.int .i64 r) [] := by
  refine fnA_of_wp (N := 73) Try.func56 rfl rfl rfl fun cK0 => ?_
  unfold s_expr_binary at hs
  refine v_same (ρ' := [(0, .int .i64 op), (1, .int .i64 a), (2, .int .i64 b)]) rfl rfl ?_
  refine v_seq ?_
  refine vr_text ?_
  refine o_runs 1 [(6, .int .i64 0)] (by kernel_rfl) ?_
  refine ov_nil ?_
  refine nrm_thenV ?_
  refine v_seq ?_
  refine v_seq ?_
  refine vr_text ?_
  refine o_runs 1 [(7, .int .i64 op)] (by kernel_rfl) ?_
  refine ov_nil ?_
  refine nrm_thenV ?_
  refine v_block ?_
  refine v_seq ?_
  refine vr_text ?_
  refine o_runs 2 [(8, .bool (decide (op = 4))), (9, .bool (decide (op = 4)))] (by kernel_rfl) ?_
  refine ov_nil ?_
  refine nrm_thenV ?_
  refine v_cond (decide (op = 4)) (by kernel_rfl) (fun h1 => ?_) (fun h1 => ?_)
  · replace hs := bif_t h1 hs
    refine v_seq ?_
    refine vr_text ?_
    refine o_runs 4 [(6, .int .i64 (w64 (a + b))), (12, .int .i64 (w64 (a + b))), (11, .int .i64 b), (10, .int .i64 a)] (by kernel_rfl) ?_
    refine ov_nil ?_
    refine nrm_thenV ?_
    refine v_ret ?_
    refine ret_blkV ?_
    refine ret_thenV ?_
    obtain rfl := Option.some.inj hs
    exact fin_ret (by kernel_rfl) (by kernel_rfl) (by kernel_rfl)
  · replace hs := bif_f h1 hs
    refine v_seq ?_
    refine vr_text ?_
    refine o_runs 2 [(13, .bool (decide (op = 5))), (14, .bool (decide (op = 5)))] (by kernel_rfl) ?_
    refine ov_nil ?_
    refine nrm_thenV ?_
    refine v_cond (decide (op = 5)) (by kernel_rfl) (fun h2 => ?_) (fun h2 => ?_)
    · replace hs := bif_t h2 hs
      refine v_seq ?_
      refine vr_text ?_
      refine o_runs 4 [(6, .int .i64 (w64 (a - b))), (17, .int .i64 (w64 (a - b))), (16, .int .i64 b), (15, .int .i64 a)] (by kernel_rfl) ?_
      refine ov_nil ?_
      refine nrm_thenV ?_
      refine v_ret ?_
      refine ret_blkV ?_
      refine ret_thenV ?_
      obtain rfl := Option.some.inj hs
      exact fin_ret (by kernel_rfl) (by kernel_rfl) (by kernel_rfl)
    · replace hs := bif_f h2 hs
      refine v_seq ?_
      refine vr_text ?_
      refine o_runs 2 [(18, .bool (decide (op = 6))), (19, .bool (decide (op = 6)))] (by kernel_rfl) ?_
      refine ov_nil ?_
      refine nrm_thenV ?_
      refine v_cond (decide (op = 6)) (by kernel_rfl) (fun h3 => ?_) (fun h3 => ?_)
      · replace hs := bif_t h3 hs
        refine v_seq ?_
        refine vr_text ?_
        refine o_runs 4 [(6, .int .i64 (w64 (a * b))), (22, .int .i64 (w64 (a * b))), (21, .int .i64 b), (20, .int .i64 a)] (by kernel_rfl) ?_
        refine ov_nil ?_
        refine nrm_thenV ?_
        refine v_ret ?_
        refine ret_blkV ?_
        refine ret_thenV ?_
        obtain rfl := Option.some.inj hs
        exact fin_ret (by kernel_rfl) (by kernel_rfl) (by kernel_rfl)
      · replace hs := bif_f h3 hs
        refine v_seq ?_
        refine vr_text ?_
        refine o_runs 2 [(23, .bool (decide (op = 7))), (24, .bool (decide (op = 7)))] (by kernel_rfl) ?_
        refine ov_nil ?_
        refine nrm_thenV ?_
        refine v_cond (decide (op = 7)) (by kernel_rfl) (fun h4 => ?_) (fun h4 => ?_)
        · replace hs := bif_t h4 hs
          refine v_seq ?_
          refine vr_text ?_
          refine o_runs 2 [(26, .int .i64 b), (25, .int .i64 a)] (by kernel_rfl) ?_
          obtain ⟨y1, c1, hs⟩ := bind_some hs
          refine o_pure (v := .int .i64 y1) (by kernel_rfl) (by kernel_rfl) (loc_gcall0 (callV_func hbv69 (by kernel_rfl)) (w_expr_quotient a b _ c1) (by kernel_rfl)) ?_
          refine o_runs 1 [(6, .int .i64 y1)] (by kernel_rfl) ?_
          refine ov_nil ?_
          refine nrm_thenV ?_
          refine v_ret ?_
          refine ret_blkV ?_
          refine ret_thenV ?_
          obtain rfl := Option.some.inj hs
          exact fin_ret (by kernel_rfl) (by kernel_rfl) (by kernel_rfl)
        · replace hs := bif_f h4 hs
          refine v_seq ?_
          refine vr_text ?_
          refine o_runs 2 [(28, .bool (decide (op = 8))), (29, .bool (decide (op = 8)))] (by kernel_rfl) ?_
          refine ov_nil ?_
          refine nrm_thenV ?_
          refine v_cond (decide (op = 8)) (by kernel_rfl) (fun h5 => ?_) (fun h5 => ?_)
          · replace hs := bif_t h5 hs
            refine v_seq ?_
            refine v_seq ?_
            refine vr_text ?_
            refine o_runs 2 [(31, .bool (decide (b = 0))), (30, .int .i64 b)] (by kernel_rfl) ?_
            refine ov_nil ?_
            refine nrm_thenV ?_
            refine v_cond (decide (b = 0)) (by kernel_rfl) (fun h6 => ?_) (fun h6 => ?_)
            · replace hs := bif_t h6 hs
              refine v_seq ?_
              refine vr_text ?_
              refine o_runs 1 [(6, .int .i64 0)] (by kernel_rfl) ?_
              refine ov_nil ?_
              refine nrm_thenV ?_
              refine v_ret ?_
              refine ret_thenV ?_
              refine ret_blkV ?_
              refine ret_thenV ?_
              obtain rfl := Option.some.inj hs
              exact fin_ret (by kernel_rfl) (by kernel_rfl) (by kernel_rfl)
            · replace hs := bif_f h6 hs
              refine v_skip ?_
              refine nrm_thenV ?_
              refine v_seq ?_
              refine vr_text ?_
              refine o_runs 3 [(34, .int .i64 b), (33, .int .i64 a), (32, .int .i64 a)] (by kernel_rfl) ?_
              obtain ⟨y2, c2, hs⟩ := bind_some hs
              refine o_pure (v := .int .i64 y2) (by kernel_rfl) (by kernel_rfl) (loc_gcall0 (callV_func hbv69 (by kernel_rfl)) (w_expr_quotient a b _ c2) (by kernel_rfl)) ?_
              refine o_runs 4 [(6, .int .i64 (w64 (a - (w64 (y2 * b))))), (38, .int .i64 (w64 (a - (w64 (y2 * b))))), (37, .int .i64 (w64 (y2 * b))), (36, .int .i64 b)] (by kernel_rfl) ?_
              refine ov_nil ?_
              refine nrm_thenV ?_
              refine v_ret ?_
              refine ret_blkV ?_
              refine ret_thenV ?_
              obtain rfl := Option.some.inj hs
              exact fin_ret (by kernel_rfl) (by kernel_rfl) (by kernel_rfl)
          · replace hs := bif_f h5 hs
            refine v_seq ?_
            refine vr_text ?_
            refine o_runs 2 [(39, .bool (decide (op = 10))), (40, .bool (decide (op = 10)))] (by kernel_rfl) ?_
            refine ov_nil ?_
            refine nrm_thenV ?_
            refine v_cond (decide (op = 10)) (by kernel_rfl) (fun h7 => ?_) (fun h7 => ?_)
            · replace hs := bif_t h7 hs
              refine v_seq ?_
              refine vr_text ?_
              refine o_runs 3 [(43, .bool (decide (a = b))), (42, .int .i64 b), (41, .int .i64 a)] (by kernel_rfl) ?_
              obtain ⟨y3, c3, hs⟩ := bind_some hs
              refine o_pure (v := .int .i64 y3) (by kernel_rfl) (by kernel_rfl) (loc_gcall0 (callV_func hbv54 (by kernel_rfl)) (w_expr_bit (decide (a = b)) _ c3) (by kernel_rfl)) ?_
              refine o_runs 1 [(6, .int .i64 y3)] (by kernel_rfl) ?_
              refine ov_nil ?_
              refine nrm_thenV ?_
              refine v_ret ?_
              refine ret_blkV ?_
              refine ret_thenV ?_
              obtain rfl := Option.some.inj hs
              exact fin_ret (by kernel_rfl) (by kernel_rfl) (by kernel_rfl)
            · replace hs := bif_f h7 hs
              refine v_seq ?_
              refine vr_text ?_
              refine o_runs 2 [(45, .bool (decide (op = 11))), (46, .bool (decide (op = 11)))] (by kernel_rfl) ?_
              refine ov_nil ?_
              refine nrm_thenV ?_
              refine v_cond (decide (op = 11)) (by kernel_rfl) (fun h8 => ?_) (fun h8 => ?_)
              · replace hs := bif_t h8 hs
                refine v_seq ?_
                refine vr_text ?_
                refine o_runs 3 [(49, .bool (decide (a < b))), (48, .int .i64 b), (47, .int .i64 a)] (by kernel_rfl) ?_
                obtain ⟨y4, c4, hs⟩ := bind_some hs
                refine o_pure (v := .int .i64 y4) (by kernel_rfl) (by kernel_rfl) (loc_gcall0 (callV_func hbv54 (by kernel_rfl)) (w_expr_bit (decide (a < b)) _ c4) (by kernel_rfl)) ?_
                refine o_runs 1 [(6, .int .i64 y4)] (by kernel_rfl) ?_
                refine ov_nil ?_
                refine nrm_thenV ?_
                refine v_ret ?_
                refine ret_blkV ?_
                refine ret_thenV ?_
                obtain rfl := Option.some.inj hs
                exact fin_ret (by kernel_rfl) (by kernel_rfl) (by kernel_rfl)
              · replace hs := bif_f h8 hs
                refine v_seq ?_
                refine vr_text ?_
                refine o_runs 2 [(51, .bool (decide (op = 12))), (52, .bool (decide (op = 12)))] (by kernel_rfl) ?_
                refine ov_nil ?_
                refine nrm_thenV ?_
                refine v_cond (decide (op = 12)) (by kernel_rfl) (fun h9 => ?_) (fun h9 => ?_)
                · replace hs := bif_t h9 hs
                  refine v_seq ?_
                  refine vr_text ?_
                  refine o_runs 3 [(55, .bool (decide (a ≤ b))), (54, .int .i64 b), (53, .int .i64 a)] (by kernel_rfl) ?_
                  obtain ⟨y5, c5, hs⟩ := bind_some hs
                  refine o_pure (v := .int .i64 y5) (by kernel_rfl) (by kernel_rfl) (loc_gcall0 (callV_func hbv54 (by kernel_rfl)) (w_expr_bit (decide (a ≤ b)) _ c5) (by kernel_rfl)) ?_
                  refine o_runs 1 [(6, .int .i64 y5)] (by kernel_rfl) ?_
                  refine ov_nil ?_
                  refine nrm_thenV ?_
                  refine v_ret ?_
                  refine ret_blkV ?_
                  refine ret_thenV ?_
                  obtain rfl := Option.some.inj hs
                  exact fin_ret (by kernel_rfl) (by kernel_rfl) (by kernel_rfl)
                · replace hs := bif_f h9 hs
                  refine v_seq ?_
                  refine vr_text ?_
                  refine o_runs 2 [(57, .bool (decide (op = 13))), (58, .bool (decide (op = 13)))] (by kernel_rfl) ?_
                  refine ov_nil ?_
                  refine nrm_thenV ?_
                  refine v_cond (decide (op = 13)) (by kernel_rfl) (fun h10 => ?_) (fun h10 => ?_)
                  · replace hs := bif_t h10 hs
                    refine v_seq ?_
                    obtain ⟨z1, hs, hk1⟩ := bind_some hs
                    refine v_join (S := Int) (fun u => u = z1) (fun u => [(6, .int .i64 u)]) (fun u => []) ?_ (fun v1 hz => ?_)
                    · refine vr_text ?_
                      refine o_runs 3 [(61, .bool (!(decide (a = 0)))), (60, .bool (!(decide (a = 0)))), (59, .int .i64 a)] (by kernel_rfl) ?_
                      cases h11 : ((!(decide (a = 0))))
                      · replace hs := bif_f h11 hs
                        refine o_runs 3 [(64, .bool false), (63, .no), (62, .no)] (by kernel_rfl) ?_
                        obtain ⟨y6, c6, hs⟩ := bind_some hs
                        refine o_pure (v := .int .i64 y6) (by kernel_rfl) (by kernel_rfl) (loc_gcall0 (callV_func hbv54 (by kernel_rfl)) (w_expr_bit false _ c6) (by kernel_rfl)) ?_
                        refine o_runs 1 [(6, .int .i64 y6)] (by kernel_rfl) ?_
                        refine ov_nil ?_
                        obtain rfl := Option.some.inj hs
                        refine nrm_join y6 rfl ?_
                        exact cut_of [6] [] (by kernel_rfl) (by kernel_rfl) (by kernel_rfl)
                      · replace hs := bif_t h11 hs
                        refine o_runs 3 [(64, .bool (!(decide (b = 0)))), (63, .bool (!(decide (b = 0)))), (62, .int .i64 b)] (by kernel_rfl) ?_
                        obtain ⟨y7, c7, hs⟩ := bind_some hs
                        refine o_pure (v := .int .i64 y7) (by kernel_rfl) (by kernel_rfl) (loc_gcall0 (callV_func hbv54 (by kernel_rfl)) (w_expr_bit (!(decide (b = 0))) _ c7) (by kernel_rfl)) ?_
                        refine o_runs 1 [(6, .int .i64 y7)] (by kernel_rfl) ?_
                        refine ov_nil ?_
                        obtain rfl := Option.some.inj hs
                        refine nrm_join y7 rfl ?_
                        exact cut_of [6] [] (by kernel_rfl) (by kernel_rfl) (by kernel_rfl)
                    · subst hz; clear hs; have hs := hk1; clear hk1
                      refine nrm_thenV ?_
                      refine v_ret ?_
                      refine ret_blkV ?_
                      refine ret_thenV ?_
                      obtain rfl := Option.some.inj hs
                      exact fin_ret (by kernel_rfl) (by kernel_rfl) (by kernel_rfl)
                  · replace hs := bif_f h10 hs
                    refine v_skip ?_
                    refine nrm_blkV ?_
                    refine nrm_thenV ?_
                    refine v_seq ?_
                    obtain ⟨z2, hs, hk2⟩ := bind_some hs
                    refine v_join (S := Int) (fun u => u = z2) (fun u => [(6, .int .i64 u)]) (fun u => []) ?_ (fun v2 hz => ?_)
                    · refine vr_text ?_
                      refine o_runs 3 [(68, .bool (!(decide (a = 0)))), (67, .bool (!(decide (a = 0)))), (66, .int .i64 a)] (by kernel_rfl) ?_
                      cases h12 : ((!(decide (a = 0))))
                      · replace hs := bif_f h12 hs
                        refine o_runs 3 [(71, .bool (!(decide (b = 0)))), (70, .bool (!(decide (b = 0)))), (69, .int .i64 b)] (by kernel_rfl) ?_
                        obtain ⟨y8, c8, hs⟩ := bind_some hs
                        refine o_pure (v := .int .i64 y8) (by kernel_rfl) (by kernel_rfl) (loc_gcall0 (callV_func hbv54 (by kernel_rfl)) (w_expr_bit (!(decide (b = 0))) _ c8) (by kernel_rfl)) ?_
                        refine o_runs 1 [(6, .int .i64 y8)] (by kernel_rfl) ?_
                        refine ov_nil ?_
                        obtain rfl := Option.some.inj hs
                        refine nrm_join y8 rfl ?_
                        exact cut_of [6] [] (by kernel_rfl) (by kernel_rfl) (by kernel_rfl)
                      · replace hs := bif_t h12 hs
                        refine o_runs 3 [(71, .bool true), (70, .no), (69, .no)] (by kernel_rfl) ?_
                        obtain ⟨y9, c9, hs⟩ := bind_some hs
                        refine o_pure (v := .int .i64 y9) (by kernel_rfl) (by kernel_rfl) (loc_gcall0 (callV_func hbv54 (by kernel_rfl)) (w_expr_bit true _ c9) (by kernel_rfl)) ?_
                        refine o_runs 1 [(6, .int .i64 y9)] (by kernel_rfl) ?_
                        refine ov_nil ?_
                        obtain rfl := Option.some.inj hs
                        refine nrm_join y9 rfl ?_
                        exact cut_of [6] [] (by kernel_rfl) (by kernel_rfl) (by kernel_rfl)
                    · subst hz; clear hs; have hs := hk2; clear hk2
                      refine nrm_thenV ?_
                      refine v_ret ?_
                      obtain rfl := Option.some.inj hs
                      exact fin_ret (by kernel_rfl) (by kernel_rfl) (by kernel_rfl)
theorem ws_expr_context_value (nF : Nat) (ih_expr_context_value : ∀ (c_plan : Plan) (c_known : (List ((List UInt8) × Int))) (c_zones : (List (List UInt8))) (e : Expr) (r : Int), s_expr_context_value nF c_plan c_known c_zones e = some r → FnA Try.prog 45 [.agg [.vs 6 (List.map enc_Def c_plan.Defs), .vs 3 (List.map enc_Table c_plan.Tables), .vs 3 (List.map enc_Zone c_plan.Zones), .vs 20 (List.map enc_Rule c_plan.Rules), .vs 4 (List.map enc_Cap c_plan.Caps), .vs 6 (List.map enc_View c_plan.Views), .vs 3 (List.map enc_Point3 c_plan.Sun), .int .i64 c_plan.Hours, .mp 1000000, .vs 1 (List.map EV.encS c_zones)], .agg (enc_Expr e)] [(1000000, .map (encM V.str (V.int .i64) c_known))] (.int .i64 r) [(1000000, .map (encM V.str (V.int .i64) c_known))]) (c_plan : Plan) (c_known : (List ((List UInt8) × Int))) (c_zones : (List (List UInt8))) (e : Expr) (r : Int) (hs : s_expr_context_value (nF + 1) c_plan c_known c_zones e = some r) : FnA Try.prog 45 [.agg [.vs 6 (List.map enc_Def c_plan.Defs), .vs 3 (List.map enc_Table c_plan.Tables), .vs 3 (List.map enc_Zone c_plan.Zones), .vs 20 (List.map enc_Rule c_plan.Rules), .vs 4 (List.map enc_Cap c_plan.Caps), .vs 6 (List.map enc_View c_plan.Views), .vs 3 (List.map enc_Point3 c_plan.Sun), .int .i64 c_plan.Hours, .mp 1000000, .vs 1 (List.map EV.encS c_zones)], .agg (enc_Expr e)] [(1000000, .map (encM V.str (V.int .i64) c_known))] (.int .i64 r) [(1000000, .map (encM V.str (V.int .i64) c_known))] := by
  refine fnA_of_wp (N := 102) Try.func45 rfl rfl rfl fun cK0 => ?_
  rw [s_expr_context_value] at hs
  refine v_same (ρ' := [(0, .agg [.vs 6 (List.map enc_Def c_plan.Defs), .vs 3 (List.map enc_Table c_plan.Tables), .vs 3 (List.map enc_Zone c_plan.Zones), .vs 20 (List.map enc_Rule c_plan.Rules), .vs 4 (List.map enc_Cap c_plan.Caps), .vs 6 (List.map enc_View c_plan.Views), .vs 3 (List.map enc_Point3 c_plan.Sun), .int .i64 c_plan.Hours, .mp 1000000, .vs 1 (List.map EV.encS c_zones)]), (1, .agg (enc_Expr e))]) rfl rfl ?_
  refine v_seq ?_
  refine vr_text ?_
  refine o_runh 3 [(4, .int .i64 0), (3, .ptr 3 0 0), (2, .ptr 2 0 0)] [(3, .box 32 [.int .i64 e.Op, .int .i64 e.N, .str e.S, .str e.Key, .vs 5 (encs_Expr e.Args)]), (2, .box 96 [.vs 6 (List.map enc_Def c_plan.Defs), .vs 3 (List.map enc_Table c_plan.Tables), .vs 3 (List.map enc_Zone c_plan.Zones), .vs 20 (List.map enc_Rule c_plan.Rules), .vs 4 (List.map enc_Cap c_plan.Caps), .vs 6 (List.map enc_View c_plan.Views), .vs 3 (List.map enc_Point3 c_plan.Sun), .int .i64 c_plan.Hours, .mp 1000000, .vs 1 (List.map EV.encS c_zones)]), (1000000, .map (encM V.str (V.int .i64) c_known))] (by kernel_rfl) ?_
  refine ov_nil ?_
  refine nrm_thenV ?_
  refine v_seq ?_
  refine vr_text ?_
  refine o_runs 1 [(5, .nils)] (by kernel_rfl) ?_
  refine ov_nil ?_
  refine nrm_thenV ?_
  refine v_seq ?_
  refine v_seq ?_
  refine vr_text ?_
  refine o_runs 2 [(9, .vs 5 (encs_Expr e.Args)), (8, .ptr 3 0 4)] (by kernel_rfl) ?_
  refine o_pure (v := .int .i64 (List.length e.Args : Int)) (by kernel_rfl) (by kernel_rfl) (loc_lenVs (sz := 5) (els := (encs_Expr e.Args)) (by kernel_rfl) (by kernel_rfl) (by rw [encs_Expr_eq, List.length_map])) ?_
  refine o_runs 1 [(11, .int .i64 0)] (by kernel_rfl) ?_
  refine ov_nil ?_
  refine nrm_thenV ?_
  obtain ⟨z1, hs, hk1⟩ := bind_some hs
  refine v_join (S := (List Int)) (fun u => u = z1) (fun u => [(2, .ptr 2 0 0), (3, .ptr 3 0 0), (5, .sl 1 2000035 ((u).length) 0 ((u).length))]) (fun u => [(3, .box 32 [.int .i64 e.Op, .int .i64 e.N, .str e.S, .str e.Key, .vs 5 (encs_Expr e.Args)]), (2, .box 96 [.vs 6 (List.map enc_Def c_plan.Defs), .vs 3 (List.map enc_Table c_plan.Tables), .vs 3 (List.map enc_Zone c_plan.Zones), .vs 20 (List.map enc_Rule c_plan.Rules), .vs 4 (List.map enc_Cap c_plan.Caps), .vs 6 (List.map enc_View c_plan.Views), .vs 3 (List.map enc_Point3 c_plan.Sun), .int .i64 c_plan.Hours, .mp 1000000, .vs 1 (List.map EV.encS c_zones)]), (1000000, .map (encM V.str (V.int .i64) c_known)), (2000035, .row 3 1 0 (List.map EV.encI u))]) ?_ (fun v1 hz => ?_)
  · refine v_block ?_
    refine v_fuel (S := Int × (List Int)) (fun u => [(2, .ptr 2 0 0), (3, .ptr 3 0 0), (5, .sl 1 2000035 ((u.2).length) 0 ((u.2).length)), (9, .vs 5 (encs_Expr e.Args)), (10, .int .i64 (List.length e.Args : Int)), (11, .int .i64 u.1)]) (fun u => [(3, .box 32 [.int .i64 e.Op, .int .i64 e.N, .str e.S, .str e.Key, .vs 5 (encs_Expr e.Args)]), (2, .box 96 [.vs 6 (List.map enc_Def c_plan.Defs), .vs 3 (List.map enc_Table c_plan.Tables), .vs 3 (List.map enc_Zone c_plan.Zones), .vs 20 (List.map enc_Rule c_plan.Rules), .vs 4 (List.map enc_Cap c_plan.Caps), .vs 6 (List.map enc_View c_plan.Views), .vs 3 (List.map enc_Point3 c_plan.Sun), .int .i64 c_plan.Hours, .mp 1000000, .vs 1 (List.map EV.encS c_zones)]), (1000000, .map (encM V.str (V.int .i64) c_known)), (2000035, .row 3 1 0 (List.map EV.encI u.2))]) (s_expr_context_value_L1 (s_expr_context_value nF) c_plan c_known c_zones e) (fun _ => rfl) KK (0, []) hs (Cut.trans (cut_nilRow 5 2000035 3 1 rfl (by kernel_rfl) (by kernel_rfl)) (cut_of [2, 3, 5, 9, 10, 11] [3, 2, 1000000, 2000035] (by kernel_rfl) (by kernel_rfl) (by kernel_rfl))) (fun K1 q1 hs => ?_)
    rw [s_expr_context_value_L1] at hs
    show WpV cK0 Try.prog none 102 _ _ [(2, .ptr 2 0 0), (3, .ptr 3 0 0), (5, .sl 1 2000035 ((q1.2).length) 0 ((q1.2).length)), (9, .vs 5 (encs_Expr e.Args)), (10, .int .i64 (List.length e.Args : Int)), (11, .int .i64 q1.1)] [(3, .box 32 [.int .i64 e.Op, .int .i64 e.N, .str e.S, .str e.Key, .vs 5 (encs_Expr e.Args)]), (2, .box 96 [.vs 6 (List.map enc_Def c_plan.Defs), .vs 3 (List.map enc_Table c_plan.Tables), .vs 3 (List.map enc_Zone c_plan.Zones), .vs 20 (List.map enc_Rule c_plan.Rules), .vs 4 (List.map enc_Cap c_plan.Caps), .vs 6 (List.map enc_View c_plan.Views), .vs 3 (List.map enc_Point3 c_plan.Sun), .int .i64 c_plan.Hours, .mp 1000000, .vs 1 (List.map EV.encS c_zones)]), (1000000, .map (encM V.str (V.int .i64) c_known)), (2000035, .row 3 1 0 (List.map EV.encI q1.2))] []
    refine v_seq ?_
    refine vr_text ?_
    refine o_runs 1 [(12, .bool (decide (q1.1 < (List.length e.Args : Int))))] (by kernel_rfl) ?_
    refine ov_nil ?_
    refine nrm_thenV ?_
    refine v_seq ?_
    refine v_cond (decide (q1.1 < (List.length e.Args : Int))) (by kernel_rfl) (fun h1 => ?_) (fun h1 => ?_)
    · replace hs := bif_t h1 hs
      refine v_skip ?_
      refine nrm_thenV ?_
      refine v_seq ?_
      obtain ⟨z2, hs, hk2⟩ := bind_some hs
      refine v_join (S := (List Int)) (fun u => u = z2) (fun u => [(2, .ptr 2 0 0), (3, .ptr 3 0 0), (5, .sl 1 2000035 ((u).length) 0 ((u).length)), (9, .vs 5 (encs_Expr e.Args)), (10, .int .i64 (List.length e.Args : Int)), (11, .int .i64 q1.1)]) (fun u => [(2000035, .row 3 1 0 (List.map EV.encI u)), (3, .box 32 [.int .i64 e.Op, .int .i64 e.N, .str e.S, .str e.Key, .vs 5 (encs_Expr e.Args)]), (2, .box 96 [.vs 6 (List.map enc_Def c_plan.Defs), .vs 3 (List.map enc_Table c_plan.Tables), .vs 3 (List.map enc_Zone c_plan.Zones), .vs 20 (List.map enc_Rule c_plan.Rules), .vs 4 (List.map enc_Cap c_plan.Caps), .vs 6 (List.map enc_View c_plan.Views), .vs 3 (List.map enc_Point3 c_plan.Sun), .int .i64 c_plan.Hours, .mp 1000000, .vs 1 (List.map EV.encS c_zones)]), (1000000, .map (encM V.str (V.int .i64) c_known))]) ?_ (fun v2 hz => ?_)
      · refine v_block ?_
        refine v_seq ?_
        refine vr_text ?_
        refine o_runs 1 [(13, .int .i64 q1.1)] (by kernel_rfl) ?_
        obtain ⟨x1, g1, hs⟩ := bind_some hs; obtain ⟨g1a, g1b, g1c⟩ := idx_some g1
        refine o_pure (v := .vp (enc_Expr x1) 0) (by kernel_rfl) (by kernel_rfl) (loc_indexVs (e := 32) (sz := 5) (k := .i64) (els := (encs_Expr e.Args)) (cs := (enc_Expr x1)) (by kernel_rfl) (by kernel_rfl) (by kernel_rfl) g1a (by rw [g1c, encs_Expr_eq]; exact map_get _ (by omega))) ?_
        refine o_runh 4 [(6, .int .i64 q1.1), (7, .ptr 7 0 0), (15, .agg (enc_Expr x1))] [(7, .box 32 [.int .i64 x1.Op, .int .i64 x1.N, .str x1.S, .str x1.Key, .vs 5 (encs_Expr x1.Args)]), (3, .box 32 [.int .i64 e.Op, .int .i64 e.N, .str e.S, .str e.Key, .vs 5 (encs_Expr e.Args)]), (2, .box 96 [.vs 6 (List.map enc_Def c_plan.Defs), .vs 3 (List.map enc_Table c_plan.Tables), .vs 3 (List.map enc_Zone c_plan.Zones), .vs 20 (List.map enc_Rule c_plan.Rules), .vs 4 (List.map enc_Cap c_plan.Caps), .vs 6 (List.map enc_View c_plan.Views), .vs 3 (List.map enc_Point3 c_plan.Sun), .int .i64 c_plan.Hours, .mp 1000000, .vs 1 (List.map EV.encS c_zones)]), (1000000, .map (encM V.str (V.int .i64) c_known)), (2000035, .row 3 1 0 (List.map EV.encI q1.2))] (by kernel_rfl) ?_
        refine ov_nil ?_
        refine nrm_thenV ?_
        refine v_seq ?_
        refine v_seq ?_
        obtain ⟨z3, hs, hk3⟩ := bind_some hs
        refine v_join (S := Bool) (fun u => u = z3) (fun u => [(2, .ptr 2 0 0), (3, .ptr 3 0 0), (5, .sl 1 2000035 ((q1.2).length) 0 ((q1.2).length)), (7, .ptr 7 0 0), (9, .vs 5 (encs_Expr e.Args)), (10, .int .i64 (List.length e.Args : Int)), (11, .int .i64 q1.1), (31, .bool u)]) (fun u => [(7, .box 32 [.int .i64 x1.Op, .int .i64 x1.N, .str x1.S, .str x1.Key, .vs 5 (encs_Expr x1.Args)]), (3, .box 32 [.int .i64 e.Op, .int .i64 e.N, .str e.S, .str e.Key, .vs 5 (encs_Expr e.Args)]), (2, .box 96 [.vs 6 (List.map enc_Def c_plan.Defs), .vs 3 (List.map enc_Table c_plan.Tables), .vs 3 (List.map enc_Zone c_plan.Zones), .vs 20 (List.map enc_Rule c_plan.Rules), .vs 4 (List.map enc_Cap c_plan.Caps), .vs 6 (List.map enc_View c_plan.Views), .vs 3 (List.map enc_Point3 c_plan.Sun), .int .i64 c_plan.Hours, .mp 1000000, .vs 1 (List.map EV.encS c_zones)]), (1000000, .map (encM V.str (V.int .i64) c_known)), (2000035, .row 3 1 0 (List.map EV.encI q1.2))]) ?_ (fun v3 hz => ?_)
        · refine vr_text ?_
          refine o_runs 4 [(19, .bool (decide (e.Op = 16))), (18, .bool (decide (e.Op = 16))), (17, .int .i64 e.Op), (16, .ptr 3 0 0)] (by kernel_rfl) ?_
          cases h2 : ((decide (e.Op = 16)))
          · replace hs := bif_f h2 hs
            refine o_runs 12 [(31, .bool false), (30, .no), (29, .no), (28, .no), (27, .no), (26, .no), (25, .no), (24, .no), (23, .bool false), (22, .bool false), (21, .no), (20, .no)] (by kernel_rfl) ?_
            refine ov_nil ?_
            obtain rfl := Option.some.inj hs
            refine nrm_join false rfl ?_
            exact cut_of [2, 3, 5, 7, 9, 10, 11, 31] [7, 3, 2, 1000000, 2000035] (by kernel_rfl) (by kernel_rfl) (by kernel_rfl)
          · replace hs := bif_t h2 hs
            refine o_runs 4 [(23, .bool (decide (q1.1 > 0))), (22, .bool (decide (q1.1 > 0))), (21, .bool (decide (q1.1 > 0))), (20, .int .i64 q1.1)] (by kernel_rfl) ?_
            cases h3 : ((decide (q1.1 > 0)))
            · replace hs := bif_f h3 hs
              refine o_runs 8 [(31, .bool false), (30, .no), (29, .no), (28, .no), (27, .no), (26, .no), (25, .no), (24, .no)] (by kernel_rfl) ?_
              refine ov_nil ?_
              obtain rfl := Option.some.inj hs
              refine nrm_join false rfl ?_
              exact cut_of [2, 3, 5, 7, 9, 10, 11, 31] [7, 3, 2, 1000000, 2000035] (by kernel_rfl) (by kernel_rfl) (by kernel_rfl)
            · replace hs := bif_t h3 hs
              refine o_runs 1 [(24, .sl 1 2000035 ((q1.2).length) 0 ((q1.2).length))] (by kernel_rfl) ?_
              obtain ⟨_, g2, hs⟩ := bind_some hs; obtain ⟨g2a, g2b⟩ := grd_some g2
              refine o_pure (v := .ptr 2000035 ((q1.2).length) ((Int.toNat 0) * 1 + 0)) (by kernel_rfl) (by kernel_rfl) (loc_indexRowT (e := 3) (sz := 1) (kk := 2000035) (L := (q1.2).length) (n := (q1.2).length) (k := .i64) (i := 0) (by kernel_rfl) (by kernel_rfl) (by kernel_rfl) g2a g2b) ?_
              obtain ⟨e1, he1, hs⟩ := bind_some hs; replace he1 := Option.some.inj he1
              refine o_loc (F := [(2000035, .row 3 1 0 (List.map EV.encI q1.2))]) (F' := [(2000035, .row 3 1 0 (List.map EV.encI q1.2))]) (v := .int .i64 e1) [2000035] (by kernel_rfl) (by kernel_rfl) rfl (by kernel_rfl) (loc_loadRow (L := (q1.2).length) (off := (Int.toNat 0) * 1 + 0) (els := (List.map EV.encI q1.2)) (cs := [.int .i64 e1]) (Int.toNat 0) 0 (by kernel_rfl) (by first | (simp only [List.length_map, List.length_set]; done) | rfl) rfl (by rw [← he1]; exact map_get _ (by first | omega | (simp only [List.length_set]; omega))) (by kernel_rfl)) (by kernel_rfl) ?_
              refine o_runs 5 [(31, .bool (!((!(decide (e1 = 0))) == (decide (q1.1 = 1))))), (30, .bool (!((!(decide (e1 = 0))) == (decide (q1.1 = 1))))), (29, .bool (decide (q1.1 = 1))), (28, .int .i64 q1.1), (27, .bool (!(decide (e1 = 0))))] (by kernel_rfl) ?_
              refine ov_nil ?_
              obtain rfl := Option.some.inj hs
              refine nrm_join (!((!(decide (e1 = 0))) == (decide (q1.1 = 1)))) rfl ?_
              exact cut_of [2, 3, 5, 7, 9, 10, 11, 31] [7, 3, 2, 1000000, 2000035] (by kernel_rfl) (by kernel_rfl) (by kernel_rfl)
        · subst hz; clear hs; have hs := hk3; clear hk3
          refine nrm_thenV ?_
          refine v_cond v3 (by kernel_rfl) (fun h4 => ?_) (fun h4 => ?_)
          · replace hs := bif_t h4 hs
            refine v_seq ?_
            refine vr_text ?_
            refine o_runh 2 [(33, .sl 1 33 1 0 1), (32, .sl 1 2000035 ((q1.2).length) 0 ((q1.2).length))] [(33, .row 3 1 0 (List.map EV.encI [0])), (7, .box 32 [.int .i64 x1.Op, .int .i64 x1.N, .str x1.S, .str x1.Key, .vs 5 (encs_Expr x1.Args)]), (3, .box 32 [.int .i64 e.Op, .int .i64 e.N, .str e.S, .str e.Key, .vs 5 (encs_Expr e.Args)]), (2, .box 96 [.vs 6 (List.map enc_Def c_plan.Defs), .vs 3 (List.map enc_Table c_plan.Tables), .vs 3 (List.map enc_Zone c_plan.Zones), .vs 20 (List.map enc_Rule c_plan.Rules), .vs 4 (List.map enc_Cap c_plan.Caps), .vs 6 (List.map enc_View c_plan.Views), .vs 3 (List.map enc_Point3 c_plan.Sun), .int .i64 c_plan.Hours, .mp 1000000, .vs 1 (List.map EV.encS c_zones)]), (1000000, .map (encM V.str (V.int .i64) c_known)), (2000035, .row 3 1 0 (List.map EV.encI q1.2))] (by kernel_rfl) ?_
            obtain ⟨_, g3, hs⟩ := bind_some hs; replace g3 := grd_some g3
            refine o_loc (F := [(2000035, .row 3 1 0 (List.map EV.encI q1.2)), (33, .row 3 1 0 (List.map EV.encI [0]))]) (F' := [(2000035, .row 3 1 0 (List.map EV.encI (q1.2 ++ [0]))), (33, .row 3 1 0 (List.map EV.encI [0]))]) (v := .sl 1 2000035 (((q1.2 ++ [0])).length) 0 (((q1.2 ++ [0])).length)) [2000035, 33] (by kernel_rfl) (by kernel_rfl) rfl (by kernel_rfl) (loc_appendT (e := 3) (sz := 1) (bytes := 8) (L := (q1.2).length) (els := (List.map EV.encI q1.2)) (ys := (List.map EV.encI [0])) (by kernel_rfl) (by kernel_rfl) (by first | exact List.length_map .. | rfl) (.sl (t := 3) (fz := 0) (ys := (List.map EV.encI [0])) (by kernel_rfl) (by kernel_rfl)) (map_ones EV.encI (fun _ => rfl) _) (map_lens EV.encI (fun _ => rfl) _) (by kernel_rfl) (by first | exact (List.map_append ..).symm | rfl | simp only [List.map_nil, List.nil_append]) (List.length_map ..) g3 (by omega)) (by kernel_rfl) ?_
            refine o_runs 1 [(5, .sl 1 2000035 (((q1.2 ++ [0])).length) 0 (((q1.2 ++ [0])).length))] (by kernel_rfl) ?_
            refine ov_nil ?_
            refine nrm_thenV ?_
            refine v_exit ?_
            refine exit_thenV ?_
            refine exit_blkV ?_
            obtain rfl := Option.some.inj hs
            refine nrm_join (q1.2 ++ [0]) rfl ?_
            exact cut_of [2, 3, 5, 9, 10, 11] [2000035, 3, 2, 1000000] (by kernel_rfl) (by kernel_rfl) (by kernel_rfl)
          · replace hs := bif_f h4 hs
            refine v_skip ?_
            refine nrm_thenV ?_
            refine vr_text ?_
            refine o_runs 3 [(37, .agg (enc_Expr x1)), (36, .agg [.vs 6 (List.map enc_Def c_plan.Defs), .vs 3 (List.map enc_Table c_plan.Tables), .vs 3 (List.map enc_Zone c_plan.Zones), .vs 20 (List.map enc_Rule c_plan.Rules), .vs 4 (List.map enc_Cap c_plan.Caps), .vs 6 (List.map enc_View c_plan.Views), .vs 3 (List.map enc_Point3 c_plan.Sun), .int .i64 c_plan.Hours, .mp 1000000, .vs 1 (List.map EV.encS c_zones)]), (35, .sl 1 2000035 ((q1.2).length) 0 ((q1.2).length))] (by kernel_rfl) ?_
            obtain ⟨y1, c1, hs⟩ := bind_some hs
            refine o_loc (F := [(1000000, .map (encM V.str (V.int .i64) c_known))]) (F' := [(1000000, .map (encM V.str (V.int .i64) c_known))]) (v := .int .i64 y1) [1000000] (by kernel_rfl) (by kernel_rfl) rfl (by kernel_rfl) (loc_g (R := []) [.agg [.vs 6 (List.map enc_Def c_plan.Defs), .vs 3 (List.map enc_Table c_plan.Tables), .vs 3 (List.map enc_Zone c_plan.Zones), .vs 20 (List.map enc_Rule c_plan.Rules), .vs 4 (List.map enc_Cap c_plan.Caps), .vs 6 (List.map enc_View c_plan.Views), .vs 3 (List.map enc_Point3 c_plan.Sun), .int .i64 c_plan.Hours, .mp 1000000, .vs 1 (List.map EV.encS c_zones)], .agg (enc_Expr x1)] [(1000000, 1000000)] (callV_func hbv45 (by kernel_rfl)) (ih_expr_context_value c_plan c_known c_zones x1 _ c1) (.cons (.same _) (.cons (.same _) (.nil))) (by kernel_rfl) (by kernel_rfl) (by kernel_rfl) (by kernel_rfl) (by kernel_rfl) (by kernel_rfl) (by kernel_rfl) (by kernel_rfl)) (by kernel_rfl) ?_
            refine o_runh 1 [(39, .sl 1 39 1 0 1)] [(39, .row 3 1 0 (List.map EV.encI [y1])), (1000000, .map (encM V.str (V.int .i64) c_known)), (7, .box 32 [.int .i64 x1.Op, .int .i64 x1.N, .str x1.S, .str x1.Key, .vs 5 (encs_Expr x1.Args)]), (3, .box 32 [.int .i64 e.Op, .int .i64 e.N, .str e.S, .str e.Key, .vs 5 (encs_Expr e.Args)]), (2, .box 96 [.vs 6 (List.map enc_Def c_plan.Defs), .vs 3 (List.map enc_Table c_plan.Tables), .vs 3 (List.map enc_Zone c_plan.Zones), .vs 20 (List.map enc_Rule c_plan.Rules), .vs 4 (List.map enc_Cap c_plan.Caps), .vs 6 (List.map enc_View c_plan.Views), .vs 3 (List.map enc_Point3 c_plan.Sun), .int .i64 c_plan.Hours, .mp 1000000, .vs 1 (List.map EV.encS c_zones)]), (2000035, .row 3 1 0 (List.map EV.encI q1.2))] (by kernel_rfl) ?_
            obtain ⟨_, g4, hs⟩ := bind_some hs; replace g4 := grd_some g4
            refine o_loc (F := [(2000035, .row 3 1 0 (List.map EV.encI q1.2)), (39, .row 3 1 0 (List.map EV.encI [y1]))]) (F' := [(2000035, .row 3 1 0 (List.map EV.encI (q1.2 ++ [y1]))), (39, .row 3 1 0 (List.map EV.encI [y1]))]) (v := .sl 1 2000035 (((q1.2 ++ [y1])).length) 0 (((q1.2 ++ [y1])).length)) [2000035, 39] (by kernel_rfl) (by kernel_rfl) rfl (by kernel_rfl) (loc_appendT (e := 3) (sz := 1) (bytes := 8) (L := (q1.2).length) (els := (List.map EV.encI q1.2)) (ys := (List.map EV.encI [y1])) (by kernel_rfl) (by kernel_rfl) (by first | exact List.length_map .. | rfl) (.sl (t := 3) (fz := 0) (ys := (List.map EV.encI [y1])) (by kernel_rfl) (by kernel_rfl)) (map_ones EV.encI (fun _ => rfl) _) (map_lens EV.encI (fun _ => rfl) _) (by kernel_rfl) (by first | exact (List.map_append ..).symm | rfl | simp only [List.map_nil, List.nil_append]) (List.length_map ..) g4 (by omega)) (by kernel_rfl) ?_
            refine o_runs 1 [(5, .sl 1 2000035 (((q1.2 ++ [y1])).length) 0 (((q1.2 ++ [y1])).length))] (by kernel_rfl) ?_
            refine ov_nil ?_
            refine nrm_blkV ?_
            obtain rfl := Option.some.inj hs
            refine nrm_join (q1.2 ++ [y1]) rfl ?_
            exact cut_of [2, 3, 5, 9, 10, 11] [2000035, 3, 2, 1000000] (by kernel_rfl) (by kernel_rfl) (by kernel_rfl)
      · subst hz; clear hs; have hs := hk2; clear hk2
        refine nrm_thenV ?_
        refine vr_text ?_
        refine o_runs 2 [(11, .int .i64 (w64 (q1.1 + 1))), (41, .int .i64 (w64 (q1.1 + 1)))] (by kernel_rfl) ?_
        refine ov_nil ?_
        refine nrm_fuel ((w64 (q1.1 + 1)), v2) hs ?_
        exact cut_of [2, 3, 5, 9, 10, 11] [3, 2, 1000000, 2000035] (by kernel_rfl) (by kernel_rfl) (by kernel_rfl)
    · replace hs := bif_f h1 hs
      refine v_exit ?_
      refine exit_thenV ?_
      refine exit_fuel ?_
      refine exit_blkV ?_
      obtain rfl := Option.some.inj hs
      refine nrm_join q1.2 rfl ?_
      exact cut_of [2, 3, 5] [3, 2, 1000000, 2000035] (by kernel_rfl) (by kernel_rfl) (by kernel_rfl)
  · subst hz; clear hs; have hs := hk1; clear hk1
    refine nrm_thenV ?_
    refine v_seq ?_
    refine v_seq ?_
    refine vr_text ?_
    refine o_runs 2 [(43, .int .i64 e.Op), (42, .ptr 3 0 0)] (by kernel_rfl) ?_
    refine ov_nil ?_
    refine nrm_thenV ?_
    refine v_block ?_
    refine v_seq ?_
    refine vr_text ?_
    refine o_runs 2 [(44, .bool (decide (e.Op = 0))), (45, .bool (decide (e.Op = 0)))] (by kernel_rfl) ?_
    refine ov_nil ?_
    refine nrm_thenV ?_
    refine v_cond (decide (e.Op = 0)) (by kernel_rfl) (fun h5 => ?_) (fun h5 => ?_)
    · replace hs := bif_t h5 hs
      refine v_seq ?_
      refine vr_text ?_
      refine o_runs 3 [(4, .int .i64 e.N), (47, .int .i64 e.N), (46, .ptr 3 0 1)] (by kernel_rfl) ?_
      refine ov_nil ?_
      refine nrm_thenV ?_
      refine v_ret ?_
      refine ret_blkV ?_
      refine ret_thenV ?_
      obtain rfl := Option.some.inj hs
      exact fin_ret (by kernel_rfl) (by kernel_rfl) (by kernel_rfl)
    · replace hs := bif_f h5 hs
      refine v_seq ?_
      refine vr_text ?_
      refine o_runs 2 [(48, .bool (decide (e.Op = 1))), (49, .bool (decide (e.Op = 1)))] (by kernel_rfl) ?_
      refine ov_nil ?_
      refine nrm_thenV ?_
      refine v_cond (decide (e.Op = 1)) (by kernel_rfl) (fun h6 => ?_) (fun h6 => ?_)
      · replace hs := bif_t h6 hs
        refine v_seq ?_
        refine vr_text ?_
        refine o_runs 4 [(53, .str e.S), (52, .ptr 3 0 2), (51, .mp 1000000), (50, .ptr 2 0 8)] (by kernel_rfl) ?_
        refine o_loc (F := [(1000000, .map (encM V.str (V.int .i64) c_known))]) (F' := [(1000000, .map (encM V.str (V.int .i64) c_known))]) (v := .int .i64 (Option.getD (mfind e.S c_known) 0)) [1000000] (by kernel_rfl) (by kernel_rfl) rfl (by kernel_rfl) (loc_lookup (et := 3) (f := V.str) (g := (V.int .i64)) (l := c_known) (a := e.S) (z := 0) (zv := .int .i64 0) false (by kernel_rfl) kok9 (by kernel_rfl) (fun _ _ _ h => h) (by kernel_rfl) (by kernel_rfl)) (by kernel_rfl) ?_
        refine o_runs 1 [(4, .int .i64 (Option.getD (mfind e.S c_known) 0))] (by kernel_rfl) ?_
        refine ov_nil ?_
        refine nrm_thenV ?_
        refine v_ret ?_
        refine ret_blkV ?_
        refine ret_thenV ?_
        obtain rfl := Option.some.inj hs
        exact fin_ret (by kernel_rfl) (by kernel_rfl) (by kernel_rfl)
      · replace hs := bif_f h6 hs
        refine v_seq ?_
        refine vr_text ?_
        refine o_runs 2 [(55, .bool (decide (e.Op = 2))), (56, .bool (decide (e.Op = 2)))] (by kernel_rfl) ?_
        refine ov_nil ?_
        refine nrm_thenV ?_
        refine v_cond (decide (e.Op = 2)) (by kernel_rfl) (fun h7 => ?_) (fun h7 => ?_)
        · replace hs := bif_t h7 hs
          refine v_seq ?_
          refine vr_text ?_
          refine o_runs 2 [(58, .agg (enc_Expr e)), (57, .agg [.vs 6 (List.map enc_Def c_plan.Defs), .vs 3 (List.map enc_Table c_plan.Tables), .vs 3 (List.map enc_Zone c_plan.Zones), .vs 20 (List.map enc_Rule c_plan.Rules), .vs 4 (List.map enc_Cap c_plan.Caps), .vs 6 (List.map enc_View c_plan.Views), .vs 3 (List.map enc_Point3 c_plan.Sun), .int .i64 c_plan.Hours, .mp 1000000, .vs 1 (List.map EV.encS c_zones)])] (by kernel_rfl) ?_
          obtain ⟨y2, c2, hs⟩ := bind_some hs
          refine o_loc (F := [(1000000, .map (encM V.str (V.int .i64) c_known))]) (F' := [(1000000, .map (encM V.str (V.int .i64) c_known))]) (v := .int .i64 y2) [1000000] (by kernel_rfl) (by kernel_rfl) rfl (by kernel_rfl) (loc_g (R := []) [.agg [.vs 6 (List.map enc_Def c_plan.Defs), .vs 3 (List.map enc_Table c_plan.Tables), .vs 3 (List.map enc_Zone c_plan.Zones), .vs 20 (List.map enc_Rule c_plan.Rules), .vs 4 (List.map enc_Cap c_plan.Caps), .vs 6 (List.map enc_View c_plan.Views), .vs 3 (List.map enc_Point3 c_plan.Sun), .int .i64 c_plan.Hours, .mp 1000000, .vs 1 (List.map EV.encS c_zones)], .agg (enc_Expr e)] [(1000000, 1000000)] (callV_func hbv53 (by kernel_rfl)) (w_expr_context_row c_plan c_known c_zones e _ c2) (.cons (.same _) (.cons (.same _) (.nil))) (by kernel_rfl) (by kernel_rfl) (by kernel_rfl) (by kernel_rfl) (by kernel_rfl) (by kernel_rfl) (by kernel_rfl) (by kernel_rfl)) (by kernel_rfl) ?_
          refine o_runs 1 [(4, .int .i64 y2)] (by kernel_rfl) ?_
          refine ov_nil ?_
          refine nrm_thenV ?_
          refine v_ret ?_
          refine ret_blkV ?_
          refine ret_thenV ?_
          obtain rfl := Option.some.inj hs
          exact fin_ret (by kernel_rfl) (by kernel_rfl) (by kernel_rfl)
        · replace hs := bif_f h7 hs
          refine v_seq ?_
          refine vr_text ?_
          refine o_runs 2 [(60, .bool (decide (e.Op = 3))), (61, .bool (decide (e.Op = 3)))] (by kernel_rfl) ?_
          refine ov_nil ?_
          refine nrm_thenV ?_
          refine v_cond (decide (e.Op = 3)) (by kernel_rfl) (fun h8 => ?_) (fun h8 => ?_)
          · replace hs := bif_t h8 hs
            refine v_seq ?_
            refine vr_text ?_
            refine o_runs 4 [(65, .str e.S), (64, .ptr 3 0 2), (63, .vs 1 (List.map EV.encS c_zones)), (62, .ptr 2 0 9)] (by kernel_rfl) ?_
            obtain ⟨y3, c3, hs⟩ := bind_some hs
            refine o_pure (v := .bool y3) (by kernel_rfl) (by kernel_rfl) (loc_gcall0 (callV_func hbv55 (by kernel_rfl)) (w_slices_Contains c_zones e.S _ c3) (by kernel_rfl)) ?_
            obtain ⟨y4, c4, hs⟩ := bind_some hs
            refine o_pure (v := .int .i64 y4) (by kernel_rfl) (by kernel_rfl) (loc_gcall0 (callV_func hbv54 (by kernel_rfl)) (w_expr_bit y3 _ c4) (by kernel_rfl)) ?_
            refine o_runs 1 [(4, .int .i64 y4)] (by kernel_rfl) ?_
            refine ov_nil ?_
            refine nrm_thenV ?_
            refine v_ret ?_
            refine ret_blkV ?_
            refine ret_thenV ?_
            obtain rfl := Option.some.inj hs
            exact fin_ret (by kernel_rfl) (by kernel_rfl) (by kernel_rfl)
          · replace hs := bif_f h8 hs
            refine v_seq ?_
            refine vr_text ?_
            refine o_runs 2 [(68, .bool (decide (e.Op = 9))), (69, .bool (decide (e.Op = 9)))] (by kernel_rfl) ?_
            refine ov_nil ?_
            refine nrm_thenV ?_
            refine v_cond (decide (e.Op = 9)) (by kernel_rfl) (fun h9 => ?_) (fun h9 => ?_)
            · replace hs := bif_t h9 hs
              refine v_seq ?_
              refine vr_text ?_
              refine o_runs 1 [(70, .sl 1 2000035 ((v1).length) 0 ((v1).length))] (by kernel_rfl) ?_
              obtain ⟨_, g5, hs⟩ := bind_some hs; obtain ⟨g5a, g5b⟩ := grd_some g5
              refine o_pure (v := .ptr 2000035 ((v1).length) ((Int.toNat 0) * 1 + 0)) (by kernel_rfl) (by kernel_rfl) (loc_indexRowT (e := 3) (sz := 1) (kk := 2000035) (L := (v1).length) (n := (v1).length) (k := .i64) (i := 0) (by kernel_rfl) (by kernel_rfl) (by kernel_rfl) g5a g5b) ?_
              obtain ⟨e2, he2, hs⟩ := bind_some hs; replace he2 := Option.some.inj he2
              refine o_loc (F := [(2000035, .row 3 1 0 (List.map EV.encI v1))]) (F' := [(2000035, .row 3 1 0 (List.map EV.encI v1))]) (v := .int .i64 e2) [2000035] (by kernel_rfl) (by kernel_rfl) rfl (by kernel_rfl) (loc_loadRow (L := (v1).length) (off := (Int.toNat 0) * 1 + 0) (els := (List.map EV.encI v1)) (cs := [.int .i64 e2]) (Int.toNat 0) 0 (by kernel_rfl) (by first | (simp only [List.length_map, List.length_set]; done) | rfl) rfl (by rw [← he2]; exact map_get _ (by first | omega | (simp only [List.length_set]; omega))) (by kernel_rfl)) (by kernel_rfl) ?_
              refine o_runs 2 [(4, .int .i64 (w64 (0 - e2))), (73, .int .i64 (w64 (0 - e2)))] (by kernel_rfl) ?_
              refine ov_nil ?_
              refine nrm_thenV ?_
              refine v_ret ?_
              refine ret_blkV ?_
              refine ret_thenV ?_
              obtain rfl := Option.some.inj hs
              exact fin_ret (by kernel_rfl) (by kernel_rfl) (by kernel_rfl)
            · replace hs := bif_f h9 hs
              refine v_seq ?_
              refine vr_text ?_
              refine o_runs 2 [(74, .bool (decide (e.Op = 15))), (75, .bool (decide (e.Op = 15)))] (by kernel_rfl) ?_
              refine ov_nil ?_
              refine nrm_thenV ?_
              refine v_cond (decide (e.Op = 15)) (by kernel_rfl) (fun h10 => ?_) (fun h10 => ?_)
              · replace hs := bif_t h10 hs
                refine v_seq ?_
                refine vr_text ?_
                refine o_runs 1 [(76, .sl 1 2000035 ((v1).length) 0 ((v1).length))] (by kernel_rfl) ?_
                obtain ⟨_, g6, hs⟩ := bind_some hs; obtain ⟨g6a, g6b⟩ := grd_some g6
                refine o_pure (v := .ptr 2000035 ((v1).length) ((Int.toNat 0) * 1 + 0)) (by kernel_rfl) (by kernel_rfl) (loc_indexRowT (e := 3) (sz := 1) (kk := 2000035) (L := (v1).length) (n := (v1).length) (k := .i64) (i := 0) (by kernel_rfl) (by kernel_rfl) (by kernel_rfl) g6a g6b) ?_
                obtain ⟨e3, he3, hs⟩ := bind_some hs; replace he3 := Option.some.inj he3
                refine o_loc (F := [(2000035, .row 3 1 0 (List.map EV.encI v1))]) (F' := [(2000035, .row 3 1 0 (List.map EV.encI v1))]) (v := .int .i64 e3) [2000035] (by kernel_rfl) (by kernel_rfl) rfl (by kernel_rfl) (loc_loadRow (L := (v1).length) (off := (Int.toNat 0) * 1 + 0) (els := (List.map EV.encI v1)) (cs := [.int .i64 e3]) (Int.toNat 0) 0 (by kernel_rfl) (by first | (simp only [List.length_map, List.length_set]; done) | rfl) rfl (by rw [← he3]; exact map_get _ (by first | omega | (simp only [List.length_set]; omega))) (by kernel_rfl)) (by kernel_rfl) ?_
                refine o_runs 1 [(79, .bool (decide (e3 = 0)))] (by kernel_rfl) ?_
                obtain ⟨y5, c5, hs⟩ := bind_some hs
                refine o_pure (v := .int .i64 y5) (by kernel_rfl) (by kernel_rfl) (loc_gcall0 (callV_func hbv54 (by kernel_rfl)) (w_expr_bit (decide (e3 = 0)) _ c5) (by kernel_rfl)) ?_
                refine o_runs 1 [(4, .int .i64 y5)] (by kernel_rfl) ?_
                refine ov_nil ?_
                refine nrm_thenV ?_
                refine v_ret ?_
                refine ret_blkV ?_
                refine ret_thenV ?_
                obtain rfl := Option.some.inj hs
                exact fin_ret (by kernel_rfl) (by kernel_rfl) (by kernel_rfl)
              · replace hs := bif_f h10 hs
                refine v_seq ?_
                refine vr_text ?_
                refine o_runs 2 [(81, .bool (decide (e.Op = 16))), (82, .bool (decide (e.Op = 16)))] (by kernel_rfl) ?_
                refine ov_nil ?_
                refine nrm_thenV ?_
                refine v_cond (decide (e.Op = 16)) (by kernel_rfl) (fun h11 => ?_) (fun h11 => ?_)
                · replace hs := bif_t h11 hs
                  refine v_seq ?_
                  refine v_seq ?_
                  refine vr_text ?_
                  refine o_runs 1 [(83, .sl 1 2000035 ((v1).length) 0 ((v1).length))] (by kernel_rfl) ?_
                  obtain ⟨_, g7, hs⟩ := bind_some hs; obtain ⟨g7a, g7b⟩ := grd_some g7
                  refine o_pure (v := .ptr 2000035 ((v1).length) ((Int.toNat 0) * 1 + 0)) (by kernel_rfl) (by kernel_rfl) (loc_indexRowT (e := 3) (sz := 1) (kk := 2000035) (L := (v1).length) (n := (v1).length) (k := .i64) (i := 0) (by kernel_rfl) (by kernel_rfl) (by kernel_rfl) g7a g7b) ?_
                  obtain ⟨e4, he4, hs⟩ := bind_some hs; replace he4 := Option.some.inj he4
                  refine o_loc (F := [(2000035, .row 3 1 0 (List.map EV.encI v1))]) (F' := [(2000035, .row 3 1 0 (List.map EV.encI v1))]) (v := .int .i64 e4) [2000035] (by kernel_rfl) (by kernel_rfl) rfl (by kernel_rfl) (loc_loadRow (L := (v1).length) (off := (Int.toNat 0) * 1 + 0) (els := (List.map EV.encI v1)) (cs := [.int .i64 e4]) (Int.toNat 0) 0 (by kernel_rfl) (by first | (simp only [List.length_map, List.length_set]; done) | rfl) rfl (by rw [← he4]; exact map_get _ (by first | omega | (simp only [List.length_set]; omega))) (by kernel_rfl)) (by kernel_rfl) ?_
                  refine o_runs 1 [(86, .bool (!(decide (e4 = 0))))] (by kernel_rfl) ?_
                  refine ov_nil ?_
                  refine nrm_thenV ?_
                  refine v_cond (!(decide (e4 = 0))) (by kernel_rfl) (fun h12 => ?_) (fun h12 => ?_)
                  · replace hs := bif_t h12 hs
                    refine v_seq ?_
                    refine vr_text ?_
                    refine o_runs 1 [(87, .sl 1 2000035 ((v1).length) 0 ((v1).length))] (by kernel_rfl) ?_
                    obtain ⟨_, g8, hs⟩ := bind_some hs; obtain ⟨g8a, g8b⟩ := grd_some g8
                    refine o_pure (v := .ptr 2000035 ((v1).length) ((Int.toNat 1) * 1 + 0)) (by kernel_rfl) (by kernel_rfl) (loc_indexRowT (e := 3) (sz := 1) (kk := 2000035) (L := (v1).length) (n := (v1).length) (k := .i64) (i := 1) (by kernel_rfl) (by kernel_rfl) (by kernel_rfl) g8a g8b) ?_
                    obtain ⟨e5, he5, hs⟩ := bind_some hs; replace he5 := Option.some.inj he5
                    refine o_loc (F := [(2000035, .row 3 1 0 (List.map EV.encI v1))]) (F' := [(2000035, .row 3 1 0 (List.map EV.encI v1))]) (v := .int .i64 e5) [2000035] (by kernel_rfl) (by kernel_rfl) rfl (by kernel_rfl) (loc_loadRow (L := (v1).length) (off := (Int.toNat 1) * 1 + 0) (els := (List.map EV.encI v1)) (cs := [.int .i64 e5]) (Int.toNat 1) 0 (by kernel_rfl) (by first | (simp only [List.length_map, List.length_set]; done) | rfl) rfl (by rw [← he5]; exact map_get _ (by first | omega | (simp only [List.length_set]; omega))) (by kernel_rfl)) (by kernel_rfl) ?_
                    refine o_runs 1 [(4, .int .i64 e5)] (by kernel_rfl) ?_
                    refine ov_nil ?_
                    refine nrm_thenV ?_
                    refine v_ret ?_
                    refine ret_thenV ?_
                    refine ret_blkV ?_
                    refine ret_thenV ?_
                    obtain rfl := Option.some.inj hs
                    exact fin_ret (by kernel_rfl) (by kernel_rfl) (by kernel_rfl)
                  · replace hs := bif_f h12 hs
                    refine v_skip ?_
                    refine nrm_thenV ?_
                    refine v_seq ?_
                    refine vr_text ?_
                    refine o_runs 1 [(90, .sl 1 2000035 ((v1).length) 0 ((v1).length))] (by kernel_rfl) ?_
                    obtain ⟨_, g9, hs⟩ := bind_some hs; obtain ⟨g9a, g9b⟩ := grd_some g9
                    refine o_pure (v := .ptr 2000035 ((v1).length) ((Int.toNat 2) * 1 + 0)) (by kernel_rfl) (by kernel_rfl) (loc_indexRowT (e := 3) (sz := 1) (kk := 2000035) (L := (v1).length) (n := (v1).length) (k := .i64) (i := 2) (by kernel_rfl) (by kernel_rfl) (by kernel_rfl) g9a g9b) ?_
                    obtain ⟨e6, he6, hs⟩ := bind_some hs; replace he6 := Option.some.inj he6
                    refine o_loc (F := [(2000035, .row 3 1 0 (List.map EV.encI v1))]) (F' := [(2000035, .row 3 1 0 (List.map EV.encI v1))]) (v := .int .i64 e6) [2000035] (by kernel_rfl) (by kernel_rfl) rfl (by kernel_rfl) (loc_loadRow (L := (v1).length) (off := (Int.toNat 2) * 1 + 0) (els := (List.map EV.encI v1)) (cs := [.int .i64 e6]) (Int.toNat 2) 0 (by kernel_rfl) (by first | (simp only [List.length_map, List.length_set]; done) | rfl) rfl (by rw [← he6]; exact map_get _ (by first | omega | (simp only [List.length_set]; omega))) (by kernel_rfl)) (by kernel_rfl) ?_
                    refine o_runs 1 [(4, .int .i64 e6)] (by kernel_rfl) ?_
                    refine ov_nil ?_
                    refine nrm_thenV ?_
                    refine v_ret ?_
                    refine ret_blkV ?_
                    refine ret_thenV ?_
                    obtain rfl := Option.some.inj hs
                    exact fin_ret (by kernel_rfl) (by kernel_rfl) (by kernel_rfl)
                · replace hs := bif_f h11 hs
                  refine v_skip ?_
                  refine nrm_blkV ?_
                  refine nrm_thenV ?_
                  refine v_seq ?_
                  refine v_draw mixedH (by kernel_rfl) ?_
                  refine d_runs 3 0 [(95, .sl 1 2000035 ((v1).length) 0 ((v1).length)), (94, .int .i64 e.Op), (93, .ptr 3 0 0)] [⟨2, [], []⟩, ⟨1, [], [3]⟩, ⟨0, [], []⟩] (by kernel_rfl) (by kernel_rfl) ?_
                  obtain ⟨_, g10, hs⟩ := bind_some hs; obtain ⟨g10a, g10b⟩ := grd_some g10
                  refine d_pure (v := .ptr 2000035 ((v1).length) ((Int.toNat 0) * 1 + 0)) 3 rfl rfl rfl rfl (by kernel_rfl) (by kernel_rfl) (loc_indexRowT (e := 3) (sz := 1) (kk := 2000035) (L := (v1).length) (n := (v1).length) (k := .i64) (i := 0) (by kernel_rfl) (by kernel_rfl) (by kernel_rfl) g10a g10b) ?_
                  obtain ⟨e7, he7, hs⟩ := bind_some hs; replace he7 := Option.some.inj he7
                  refine d_loc (F := []) (R := [(2000035, .row 3 1 0 (List.map EV.encI v1))]) (F' := []) (v := .int .i64 e7) 4 [] [2000035] rfl rfl rfl rfl (by kernel_rfl) (by kernel_rfl) (by kernel_rfl) (by kernel_rfl) (by kernel_rfl) (by kernel_rfl) (by kernel_rfl) (by kernel_rfl) (loc_loadRow (L := (v1).length) (off := (Int.toNat 0) * 1 + 0) (els := (List.map EV.encI v1)) (cs := [.int .i64 e7]) (Int.toNat 0) 0 (by kernel_rfl) (by first | (simp only [List.length_map, List.length_set]; done) | rfl) rfl (by rw [← he7]; exact map_get _ (by first | omega | (simp only [List.length_set]; omega))) (by kernel_rfl)) ?_
                  refine d_runs 1 5 [(98, .sl 1 2000035 ((v1).length) 0 ((v1).length))] (pfp 1 5) (by kernel_rfl) (by kernel_rfl) ?_
                  obtain ⟨_, g11, hs⟩ := bind_some hs; obtain ⟨g11a, g11b⟩ := grd_some g11
                  refine d_pure (v := .ptr 2000035 ((v1).length) ((Int.toNat 1) * 1 + 0)) 6 rfl rfl rfl rfl (by kernel_rfl) (by kernel_rfl) (loc_indexRowT (e := 3) (sz := 1) (kk := 2000035) (L := (v1).length) (n := (v1).length) (k := .i64) (i := 1) (by kernel_rfl) (by kernel_rfl) (by kernel_rfl) g11a g11b) ?_
                  obtain ⟨e8, he8, hs⟩ := bind_some hs; replace he8 := Option.some.inj he8
                  refine d_loc (F := []) (R := [(2000035, .row 3 1 0 (List.map EV.encI v1))]) (F' := []) (v := .int .i64 e8) 7 [] [2000035] rfl rfl rfl rfl (by kernel_rfl) (by kernel_rfl) (by kernel_rfl) (by kernel_rfl) (by kernel_rfl) (by kernel_rfl) (by kernel_rfl) (by kernel_rfl) (loc_loadRow (L := (v1).length) (off := (Int.toNat 1) * 1 + 0) (els := (List.map EV.encI v1)) (cs := [.int .i64 e8]) (Int.toNat 1) 0 (by kernel_rfl) (by first | (simp only [List.length_map, List.length_set]; done) | rfl) rfl (by rw [← he8]; exact map_get _ (by first | omega | (simp only [List.length_set]; omega))) (by kernel_rfl)) ?_
                  obtain ⟨y6, c6, hs⟩ := bind_some hs
                  refine d_pure (v := .int .i64 y6) 8 rfl rfl rfl rfl (by kernel_rfl) (by kernel_rfl) (loc_gcall0 (callV_func hbv56 (by kernel_rfl)) (w_expr_binary e.Op e7 e8 _ c6) (by kernel_rfl)) ?_
                  refine d_runs 1 9 [(4, .int .i64 y6)] (pfp 1 9) (by kernel_rfl) (by kernel_rfl) ?_
                  refine d_nil (by kernel_rfl) ?_
                  refine nrm_thenV ?_
                  refine v_ret ?_
                  obtain rfl := Option.some.inj hs
                  exact fin_ret (by kernel_rfl) (by kernel_rfl) (by kernel_rfl)
theorem wr_expr_context_value : ∀ nF : Nat, (∀ (c_plan : Plan) (c_known : (List ((List UInt8) × Int))) (c_zones : (List (List UInt8))) (e : Expr) (r : Int), s_expr_context_value nF c_plan c_known c_zones e = some r → FnA Try.prog 45 [.agg [.vs 6 (List.map enc_Def c_plan.Defs), .vs 3 (List.map enc_Table c_plan.Tables), .vs 3 (List.map enc_Zone c_plan.Zones), .vs 20 (List.map enc_Rule c_plan.Rules), .vs 4 (List.map enc_Cap c_plan.Caps), .vs 6 (List.map enc_View c_plan.Views), .vs 3 (List.map enc_Point3 c_plan.Sun), .int .i64 c_plan.Hours, .mp 1000000, .vs 1 (List.map EV.encS c_zones)], .agg (enc_Expr e)] [(1000000, .map (encM V.str (V.int .i64) c_known))] (.int .i64 r) [(1000000, .map (encM V.str (V.int .i64) c_known))])
  | 0 => fun c_plan c_known c_zones e r hs => by rw [s_expr_context_value] at hs; cases hs
  | nF + 1 => fun c_plan c_known c_zones e r hs => ws_expr_context_value nF (wr_expr_context_value nF) c_plan c_known c_zones e r hs
theorem w_expr_context_value (nF : Nat) (c_plan : Plan) (c_known : (List ((List UInt8) × Int))) (c_zones : (List (List UInt8))) (e : Expr) (r : Int) (hs : s_expr_context_value nF c_plan c_known c_zones e = some r) : FnA Try.prog 45 [.agg [.vs 6 (List.map enc_Def c_plan.Defs), .vs 3 (List.map enc_Table c_plan.Tables), .vs 3 (List.map enc_Zone c_plan.Zones), .vs 20 (List.map enc_Rule c_plan.Rules), .vs 4 (List.map enc_Cap c_plan.Caps), .vs 6 (List.map enc_View c_plan.Views), .vs 3 (List.map enc_Point3 c_plan.Sun), .int .i64 c_plan.Hours, .mp 1000000, .vs 1 (List.map EV.encS c_zones)], .agg (enc_Expr e)] [(1000000, .map (encM V.str (V.int .i64) c_known))] (.int .i64 r) [(1000000, .map (encM V.str (V.int .i64) c_known))] := (wr_expr_context_value nF) c_plan c_known c_zones e r hs
theorem w_expr_prepare (p : Plan) (measures : (List Entry)) (zones : (List (List UInt8))) (r : Plan × (List (List UInt8)) × (List Int) × (List ((List UInt8) × Int))) (hs : s_expr_prepare p measures zones = some r) : FnA Try.prog 44 [.agg (enc_Plan p), .vs 2 (List.map enc_Entry measures), .vs 1 (List.map EV.encS zones)] [] (.tup [.agg [.vs 6 (List.map enc_Def r.1.Defs), .vs 3 (List.map enc_Table r.1.Tables), .vs 3 (List.map enc_Zone r.1.Zones), .vs 20 (List.map enc_Rule r.1.Rules), .vs 4 (List.map enc_Cap r.1.Caps), .vs 6 (List.map enc_View r.1.Views), .vs 3 (List.map enc_Point3 r.1.Sun), .int .i64 r.1.Hours, .mp 20, .vs 1 (List.map EV.encS r.2.1)], .vs 1 (List.map EV.encI r.2.2.1)]) [(20, .map (encM V.str (V.int .i64) r.2.2.2))] := by
  refine fnA_of_wp (N := 96) Try.func44 rfl rfl rfl fun cK0 => ?_
  unfold s_expr_prepare at hs
  refine v_same (ρ' := [(0, .agg (enc_Plan p)), (1, .vs 2 (List.map enc_Entry measures)), (2, .vs 1 (List.map EV.encS zones))]) rfl rfl ?_
  refine v_seq ?_
  refine vr_text ?_
  refine o_runh 3 [(7, .nils), (6, .ptr 6 0 0), (3, .ptr 3 0 0)] [(6, .box 96 [.nils, .nils, .nils, .nils, .nils, .nils, .nils, .int .i64 0, .nilm, .nils]), (3, .box 82 [.vs 6 (List.map enc_Def p.Defs), .vs 3 (List.map enc_Table p.Tables), .vs 3 (List.map enc_Zone p.Zones), .vs 20 (List.map enc_Rule p.Rules), .vs 4 (List.map enc_Cap p.Caps), .vs 6 (List.map enc_View p.Views), .vs 3 (List.map enc_Point3 p.Sun), .int .i64 p.Hours])] (by kernel_rfl) ?_
  refine ov_nil ?_
  refine nrm_thenV ?_
  refine v_seq ?_
  refine vr_text ?_
  refine o_runh 6 [(8, .ptr 8 0 0), (22, .agg [.vs 6 (List.map enc_Def p.Defs), .vs 3 (List.map enc_Table p.Tables), .vs 3 (List.map enc_Zone p.Zones), .vs 20 (List.map enc_Rule p.Rules), .vs 4 (List.map enc_Cap p.Caps), .vs 6 (List.map enc_View p.Views), .vs 3 (List.map enc_Point3 p.Sun), .int .i64 p.Hours, .mp 20, .vs 1 (List.map EV.encS zones)]), (21, .vs 1 (List.map EV.encS zones)), (20, .mp 20), (19, .agg (enc_Plan p))] [(8, .box 96 [.vs 6 (List.map enc_Def p.Defs), .vs 3 (List.map enc_Table p.Tables), .vs 3 (List.map enc_Zone p.Zones), .vs 20 (List.map enc_Rule p.Rules), .vs 4 (List.map enc_Cap p.Caps), .vs 6 (List.map enc_View p.Views), .vs 3 (List.map enc_Point3 p.Sun), .int .i64 p.Hours, .mp 20, .vs 1 (List.map EV.encS zones)]), (20, .map (encM V.str (V.int .i64) [])), (6, .box 96 [.nils, .nils, .nils, .nils, .nils, .nils, .nils, .int .i64 0, .nilm, .nils]), (3, .box 82 [.vs 6 (List.map enc_Def p.Defs), .vs 3 (List.map enc_Table p.Tables), .vs 3 (List.map enc_Zone p.Zones), .vs 20 (List.map enc_Rule p.Rules), .vs 4 (List.map enc_Cap p.Caps), .vs 6 (List.map enc_View p.Views), .vs 3 (List.map enc_Point3 p.Sun), .int .i64 p.Hours])] (by kernel_rfl) ?_
  refine ov_nil ?_
  refine nrm_thenV ?_
  refine v_seq ?_
  refine vr_text ?_
  refine o_runh 2 [(9, .mp 23), (23, .mp 23)] [(23, .map (encM V.str V.bool [])), (8, .box 96 [.vs 6 (List.map enc_Def p.Defs), .vs 3 (List.map enc_Table p.Tables), .vs 3 (List.map enc_Zone p.Zones), .vs 20 (List.map enc_Rule p.Rules), .vs 4 (List.map enc_Cap p.Caps), .vs 6 (List.map enc_View p.Views), .vs 3 (List.map enc_Point3 p.Sun), .int .i64 p.Hours, .mp 20, .vs 1 (List.map EV.encS zones)]), (20, .map (encM V.str (V.int .i64) [])), (6, .box 96 [.nils, .nils, .nils, .nils, .nils, .nils, .nils, .int .i64 0, .nilm, .nils]), (3, .box 82 [.vs 6 (List.map enc_Def p.Defs), .vs 3 (List.map enc_Table p.Tables), .vs 3 (List.map enc_Zone p.Zones), .vs 20 (List.map enc_Rule p.Rules), .vs 4 (List.map enc_Cap p.Caps), .vs 6 (List.map enc_View p.Views), .vs 3 (List.map enc_Point3 p.Sun), .int .i64 p.Hours])] (by kernel_rfl) ?_
  refine ov_nil ?_
  refine nrm_thenV ?_
  refine v_seq ?_
  refine v_seq ?_
  refine vr_text ?_
  refine o_runs 1 [(24, .vs 2 (List.map enc_Entry measures))] (by kernel_rfl) ?_
  refine o_pure (v := .int .i64 (List.length measures : Int)) (by kernel_rfl) (by kernel_rfl) (loc_lenVs (sz := 2) (els := (List.map enc_Entry measures)) (by kernel_rfl) (by kernel_rfl) (List.length_map ..)) ?_
  refine o_runs 1 [(26, .int .i64 0)] (by kernel_rfl) ?_
  refine ov_nil ?_
  refine nrm_thenV ?_
  obtain ⟨z1, hs, hk1⟩ := bind_some hs
  refine v_join (S := (List ((List UInt8) × Bool)) × (List ((List UInt8) × Int))) (fun u => u = z1) (fun u => [(3, .ptr 3 0 0), (6, .ptr 6 0 0), (8, .ptr 8 0 0), (9, .mp 23)]) (fun u => [(23, .map (encM V.str V.bool u.1)), (8, .box 96 [.vs 6 (List.map enc_Def p.Defs), .vs 3 (List.map enc_Table p.Tables), .vs 3 (List.map enc_Zone p.Zones), .vs 20 (List.map enc_Rule p.Rules), .vs 4 (List.map enc_Cap p.Caps), .vs 6 (List.map enc_View p.Views), .vs 3 (List.map enc_Point3 p.Sun), .int .i64 p.Hours, .mp 20, .vs 1 (List.map EV.encS zones)]), (20, .map (encM V.str (V.int .i64) u.2)), (6, .box 96 [.nils, .nils, .nils, .nils, .nils, .nils, .nils, .int .i64 0, .nilm, .nils]), (3, .box 82 [.vs 6 (List.map enc_Def p.Defs), .vs 3 (List.map enc_Table p.Tables), .vs 3 (List.map enc_Zone p.Zones), .vs 20 (List.map enc_Rule p.Rules), .vs 4 (List.map enc_Cap p.Caps), .vs 6 (List.map enc_View p.Views), .vs 3 (List.map enc_Point3 p.Sun), .int .i64 p.Hours])]) ?_ (fun v1 hz => ?_)
  · refine v_block ?_
    refine v_fuel (S := Int × (List ((List UInt8) × Bool)) × (List ((List UInt8) × Int))) (fun u => [(3, .ptr 3 0 0), (6, .ptr 6 0 0), (8, .ptr 8 0 0), (9, .mp 23), (24, .vs 2 (List.map enc_Entry measures)), (25, .int .i64 (List.length measures : Int)), (26, .int .i64 u.1)]) (fun u => [(23, .map (encM V.str V.bool u.2.1)), (8, .box 96 [.vs 6 (List.map enc_Def p.Defs), .vs 3 (List.map enc_Table p.Tables), .vs 3 (List.map enc_Zone p.Zones), .vs 20 (List.map enc_Rule p.Rules), .vs 4 (List.map enc_Cap p.Caps), .vs 6 (List.map enc_View p.Views), .vs 3 (List.map enc_Point3 p.Sun), .int .i64 p.Hours, .mp 20, .vs 1 (List.map EV.encS zones)]), (20, .map (encM V.str (V.int .i64) u.2.2)), (6, .box 96 [.nils, .nils, .nils, .nils, .nils, .nils, .nils, .int .i64 0, .nilm, .nils]), (3, .box 82 [.vs 6 (List.map enc_Def p.Defs), .vs 3 (List.map enc_Table p.Tables), .vs 3 (List.map enc_Zone p.Zones), .vs 20 (List.map enc_Rule p.Rules), .vs 4 (List.map enc_Cap p.Caps), .vs 6 (List.map enc_View p.Views), .vs 3 (List.map enc_Point3 p.Sun), .int .i64 p.Hours])]) (s_expr_prepare_L1 measures) (fun _ => rfl) KK (0, [], []) hs (cut_of [3, 6, 8, 9, 24, 25, 26] [23, 8, 20, 6, 3] (by kernel_rfl) (by kernel_rfl) (by kernel_rfl)) (fun K1 q1 hs => ?_)
    rw [s_expr_prepare_L1] at hs
    show WpV cK0 Try.prog none 96 _ _ [(3, .ptr 3 0 0), (6, .ptr 6 0 0), (8, .ptr 8 0 0), (9, .mp 23), (24, .vs 2 (List.map enc_Entry measures)), (25, .int .i64 (List.length measures : Int)), (26, .int .i64 q1.1)] [(23, .map (encM V.str V.bool q1.2.1)), (8, .box 96 [.vs 6 (List.map enc_Def p.Defs), .vs 3 (List.map enc_Table p.Tables), .vs 3 (List.map enc_Zone p.Zones), .vs 20 (List.map enc_Rule p.Rules), .vs 4 (List.map enc_Cap p.Caps), .vs 6 (List.map enc_View p.Views), .vs 3 (List.map enc_Point3 p.Sun), .int .i64 p.Hours, .mp 20, .vs 1 (List.map EV.encS zones)]), (20, .map (encM V.str (V.int .i64) q1.2.2)), (6, .box 96 [.nils, .nils, .nils, .nils, .nils, .nils, .nils, .int .i64 0, .nilm, .nils]), (3, .box 82 [.vs 6 (List.map enc_Def p.Defs), .vs 3 (List.map enc_Table p.Tables), .vs 3 (List.map enc_Zone p.Zones), .vs 20 (List.map enc_Rule p.Rules), .vs 4 (List.map enc_Cap p.Caps), .vs 6 (List.map enc_View p.Views), .vs 3 (List.map enc_Point3 p.Sun), .int .i64 p.Hours])] []
    refine v_seq ?_
    refine vr_text ?_
    refine o_runs 1 [(27, .bool (decide (q1.1 < (List.length measures : Int))))] (by kernel_rfl) ?_
    refine ov_nil ?_
    refine nrm_thenV ?_
    refine v_seq ?_
    refine v_cond (decide (q1.1 < (List.length measures : Int))) (by kernel_rfl) (fun h1 => ?_) (fun h1 => ?_)
    · replace hs := bif_t h1 hs
      refine v_skip ?_
      refine nrm_thenV ?_
      refine v_seq ?_
      refine v_block ?_
      refine v_seq ?_
      refine vr_text ?_
      obtain ⟨x1, g1, hs⟩ := bind_some hs; obtain ⟨g1a, g1b, g1c⟩ := idx_some g1
      refine o_pure (v := .vp (enc_Entry x1) 0) (by kernel_rfl) (by kernel_rfl) (loc_indexVs (e := 72) (sz := 2) (k := .i64) (els := (List.map enc_Entry measures)) (cs := (enc_Entry x1)) (by kernel_rfl) (by kernel_rfl) (by kernel_rfl) g1a (by rw [g1c]; exact map_get _ (by omega))) ?_
      refine o_runh 3 [(11, .ptr 11 0 0), (29, .agg (enc_Entry x1))] [(11, .box 72 [.str x1.Name, .int .i64 x1.N]), (23, .map (encM V.str V.bool q1.2.1)), (8, .box 96 [.vs 6 (List.map enc_Def p.Defs), .vs 3 (List.map enc_Table p.Tables), .vs 3 (List.map enc_Zone p.Zones), .vs 20 (List.map enc_Rule p.Rules), .vs 4 (List.map enc_Cap p.Caps), .vs 6 (List.map enc_View p.Views), .vs 3 (List.map enc_Point3 p.Sun), .int .i64 p.Hours, .mp 20, .vs 1 (List.map EV.encS zones)]), (20, .map (encM V.str (V.int .i64) q1.2.2)), (6, .box 96 [.nils, .nils, .nils, .nils, .nils, .nils, .nils, .int .i64 0, .nilm, .nils]), (3, .box 82 [.vs 6 (List.map enc_Def p.Defs), .vs 3 (List.map enc_Table p.Tables), .vs 3 (List.map enc_Zone p.Zones), .vs 20 (List.map enc_Rule p.Rules), .vs 4 (List.map enc_Cap p.Caps), .vs 6 (List.map enc_View p.Views), .vs 3 (List.map enc_Point3 p.Sun), .int .i64 p.Hours])] (by kernel_rfl) ?_
      refine ov_nil ?_
      refine nrm_thenV ?_
      refine v_seq ?_
      refine vr_text ?_
      refine o_runs 3 [(32, .str x1.Name), (31, .ptr 11 0 0), (30, .mp 23)] (by kernel_rfl) ?_
      refine o_loc (F := [(23, .map (encM V.str V.bool q1.2.1))]) (F' := [(23, .map (encM V.str V.bool q1.2.1))]) (v := .bool (Option.getD (mfind x1.Name q1.2.1) false)) [23] (by kernel_rfl) (by kernel_rfl) rfl (by kernel_rfl) (loc_lookup (et := 4) (f := V.str) (g := V.bool) (l := q1.2.1) (a := x1.Name) (z := false) (zv := .bool false) false (by kernel_rfl) kok9 (by kernel_rfl) (fun _ _ _ h => h) (by kernel_rfl) (by kernel_rfl)) (by kernel_rfl) ?_
      refine o_runs 1 [(34, .bool (!(Option.getD (mfind x1.Name q1.2.1) false)))] (by kernel_rfl) ?_
      refine ov_nil ?_
      refine nrm_thenV ?_
      obtain ⟨z2, hs, hk2⟩ := bind_some hs
      refine v_join (S := (List ((List UInt8) × Bool)) × (List ((List UInt8) × Int))) (fun u => u = z2) (fun u => [(3, .ptr 3 0 0), (6, .ptr 6 0 0), (8, .ptr 8 0 0), (9, .mp 23), (24, .vs 2 (List.map enc_Entry measures)), (25, .int .i64 (List.length measures : Int)), (26, .int .i64 q1.1)]) (fun u => [(23, .map (encM V.str V.bool u.1)), (20, .map (encM V.str (V.int .i64) u.2)), (8, .box 96 [.vs 6 (List.map enc_Def p.Defs), .vs 3 (List.map enc_Table p.Tables), .vs 3 (List.map enc_Zone p.Zones), .vs 20 (List.map enc_Rule p.Rules), .vs 4 (List.map enc_Cap p.Caps), .vs 6 (List.map enc_View p.Views), .vs 3 (List.map enc_Point3 p.Sun), .int .i64 p.Hours, .mp 20, .vs 1 (List.map EV.encS zones)]), (6, .box 96 [.nils, .nils, .nils, .nils, .nils, .nils, .nils, .int .i64 0, .nilm, .nils]), (3, .box 82 [.vs 6 (List.map enc_Def p.Defs), .vs 3 (List.map enc_Table p.Tables), .vs 3 (List.map enc_Zone p.Zones), .vs 20 (List.map enc_Rule p.Rules), .vs 4 (List.map enc_Cap p.Caps), .vs 6 (List.map enc_View p.Views), .vs 3 (List.map enc_Point3 p.Sun), .int .i64 p.Hours])]) ?_ (fun v2 hz => ?_)
      · refine v_cond (!(Option.getD (mfind x1.Name q1.2.1) false)) (by kernel_rfl) (fun h2 => ?_) (fun h2 => ?_)
        · replace hs := bif_t h2 hs
          refine v_draw mixedH (by kernel_rfl) ?_
          refine d_runs 9 0 [(43, .int .i64 x1.N), (42, .ptr 11 0 1), (41, .str x1.Name), (40, .ptr 11 0 0), (39, .mp 23), (38, .str x1.Name), (37, .ptr 11 0 0), (36, .mp 20), (35, .ptr 8 0 8)] [⟨8, [], [11]⟩, ⟨7, [], []⟩, ⟨6, [], [11]⟩, ⟨5, [], []⟩, ⟨4, [], []⟩, ⟨3, [], [11]⟩, ⟨2, [], []⟩, ⟨1, [], [8]⟩, ⟨0, [], []⟩] (by kernel_rfl) (by kernel_rfl) ?_
          refine d_loc (F := [(20, .map (encM V.str (V.int .i64) q1.2.2))]) (R := []) (F' := [(20, .map (encM V.str (V.int .i64) (mset x1.Name x1.N q1.2.2)))]) (v := .no) 9 [20] [] rfl rfl rfl rfl (by kernel_rfl) (by kernel_rfl) (by kernel_rfl) (by kernel_rfl) (by kernel_rfl) (by kernel_rfl) (by kernel_rfl) (by kernel_rfl) (loc_mapUpdate (et := 3) (f := V.str) (g := (V.int .i64)) (l := q1.2.2) (a := x1.Name) (c := x1.N) (by kernel_rfl) kok9 (by kernel_rfl) (by kernel_rfl) (by kernel_rfl) (by kernel_rfl) (by kernel_rfl)) ?_
          refine d_loc (F := [(23, .map (encM V.str V.bool q1.2.1))]) (R := []) (F' := [(23, .map (encM V.str V.bool (mset x1.Name true q1.2.1)))]) (v := .no) 10 [23] [] rfl rfl rfl rfl (by kernel_rfl) (by kernel_rfl) (by kernel_rfl) (by kernel_rfl) (by kernel_rfl) (by kernel_rfl) (by kernel_rfl) (by kernel_rfl) (loc_mapUpdate (et := 4) (f := V.str) (g := V.bool) (l := q1.2.1) (a := x1.Name) (c := true) (by kernel_rfl) kok9 (by kernel_rfl) (by kernel_rfl) (by kernel_rfl) (by kernel_rfl) (by kernel_rfl)) ?_
          refine d_nil (by kernel_rfl) ?_
          obtain rfl := Option.some.inj hs
          refine nrm_join ((mset x1.Name true q1.2.1), (mset x1.Name x1.N q1.2.2)) rfl ?_
          exact cut_of [3, 6, 8, 9, 24, 25, 26] [23, 20, 8, 6, 3] (by kernel_rfl) (by kernel_rfl) (by kernel_rfl)
        · replace hs := bif_f h2 hs
          refine v_skip ?_
          obtain rfl := Option.some.inj hs
          refine nrm_join (q1.2.1, q1.2.2) rfl ?_
          exact cut_of [3, 6, 8, 9, 24, 25, 26] [23, 20, 8, 6, 3] (by kernel_rfl) (by kernel_rfl) (by kernel_rfl)
      · subst hz; clear hs; have hs := hk2; clear hk2
        refine nrm_blkV ?_
        refine nrm_thenV ?_
        refine vr_text ?_
        refine o_runs 2 [(26, .int .i64 (w64 (q1.1 + 1))), (44, .int .i64 (w64 (q1.1 + 1)))] (by kernel_rfl) ?_
        refine ov_nil ?_
        refine nrm_fuel ((w64 (q1.1 + 1)), v2.1, v2.2) hs ?_
        exact cut_of [3, 6, 8, 9, 24, 25, 26] [23, 8, 20, 6, 3] (by kernel_rfl) (by kernel_rfl) (by kernel_rfl)
    · replace hs := bif_f h1 hs
      refine v_exit ?_
      refine exit_thenV ?_
      refine exit_fuel ?_
      refine exit_blkV ?_
      obtain rfl := Option.some.inj hs
      refine nrm_join (q1.2.1, q1.2.2) rfl ?_
      exact cut_of [3, 6, 8, 9] [23, 8, 20, 6, 3] (by kernel_rfl) (by kernel_rfl) (by kernel_rfl)
  · subst hz; clear hs; have hs := hk1; clear hk1
    refine nrm_thenV ?_
    refine v_seq ?_
    refine vr_text ?_
    refine o_runs 2 [(46, .vs 6 (List.map enc_Def p.Defs)), (45, .ptr 3 0 0)] (by kernel_rfl) ?_
    refine o_pure (v := .int .i64 (List.length p.Defs : Int)) (by kernel_rfl) (by kernel_rfl) (loc_lenVs (sz := 6) (els := (List.map enc_Def p.Defs)) (by kernel_rfl) (by kernel_rfl) (List.length_map ..)) ?_
    obtain ⟨_, g2, hs⟩ := bind_some hs; obtain ⟨g2a, g2b, g2c⟩ := grd_some g2
    refine o_loc (F := []) (F' := [(48, .row 3 1 0 (List.map EV.encI (List.replicate (Int.toNat (List.length p.Defs : Int)) (0 : Int))))]) (v := .sl 1 48 (((List.replicate (Int.toNat (List.length p.Defs : Int)) (0 : Int))).length) 0 (((List.replicate (Int.toNat (List.length p.Defs : Int)) (0 : Int))).length)) [] (by kernel_rfl) (by kernel_rfl) rfl (by kernel_rfl) (loc_makeSliceT (L := ((List.replicate (Int.toNat (List.length p.Defs : Int)) (0 : Int))).length) (e := 3) (sz := 1) (bytes := 8) (q := (List.length p.Defs : Int)) (k := .i64) (k2 := .i64) (cs := [.int .i64 0]) (cs2 := [.int .i64 0]) (by kernel_rfl) (by kernel_rfl) (by kernel_rfl) (by kernel_rfl) (by kernel_rfl) g2a g2b g2c (List.map_replicate (f := EV.encI)).symm (List.length_replicate ..) (fun _ _ h => h)) (by kernel_rfl) ?_
    refine o_runs 1 [(12, .sl 1 48 (((List.replicate (Int.toNat (List.length p.Defs : Int)) (0 : Int))).length) 0 (((List.replicate (Int.toNat (List.length p.Defs : Int)) (0 : Int))).length))] (by kernel_rfl) ?_
    refine ov_nil ?_
    refine nrm_thenV ?_
    refine v_seq ?_
    refine vr_text ?_
    refine o_runs 1 [(50, .agg (enc_Plan p))] (by kernel_rfl) ?_
    obtain ⟨y1, c1, hs⟩ := bind_some hs
    refine o_pure (v := .tup [.vs 1 (List.map EV.encI y1.1), .nils, .int .i64 y1.2]) (by kernel_rfl) (by kernel_rfl) (loc_gcall0 (callV_func hbv52 (by kernel_rfl)) (w_define_Order p _ c1) (by kernel_rfl)) ?_
    refine o_runs 7 [(15, .int .i64 y1.2), (14, .nils), (13, .vs 1 (List.map EV.encI y1.1)), (54, .int .i64 y1.2), (53, .nils), (52, .vs 1 (List.map EV.encI y1.1)), (49, .tup [.vs 1 (List.map EV.encI y1.1), .nils, .int .i64 y1.2])] (by kernel_rfl) ?_
    refine ov_nil ?_
    refine nrm_thenV ?_
    refine v_seq ?_
    refine v_seq ?_
    refine vr_text ?_
    refine o_runs 2 [(56, .bool (!(decide (y1.2 = 0)))), (55, .int .i64 y1.2)] (by kernel_rfl) ?_
    refine ov_nil ?_
    refine nrm_thenV ?_
    refine v_cond (!(decide (y1.2 = 0))) (by kernel_rfl) (fun h3 => ?_) (fun h3 => ?_)
    · replace hs := bif_t h3 hs
      refine v_seq ?_
      refine vr_text ?_
      refine o_runh 4 [(7, .sl 1 48 (((List.replicate (Int.toNat (List.length p.Defs : Int)) (0 : Int))).length) 0 (((List.replicate (Int.toNat (List.length p.Defs : Int)) (0 : Int))).length)), (58, .sl 1 48 (((List.replicate (Int.toNat (List.length p.Defs : Int)) (0 : Int))).length) 0 (((List.replicate (Int.toNat (List.length p.Defs : Int)) (0 : Int))).length)), (57, .agg [.vs 6 (List.map enc_Def p.Defs), .vs 3 (List.map enc_Table p.Tables), .vs 3 (List.map enc_Zone p.Zones), .vs 20 (List.map enc_Rule p.Rules), .vs 4 (List.map enc_Cap p.Caps), .vs 6 (List.map enc_View p.Views), .vs 3 (List.map enc_Point3 p.Sun), .int .i64 p.Hours, .mp 20, .vs 1 (List.map EV.encS zones)])] [(48, .row 3 1 0 (List.map EV.encI (List.replicate (Int.toNat (List.length p.Defs : Int)) (0 : Int)))), (23, .map (encM V.str V.bool v1.1)), (8, .box 96 [.vs 6 (List.map enc_Def p.Defs), .vs 3 (List.map enc_Table p.Tables), .vs 3 (List.map enc_Zone p.Zones), .vs 20 (List.map enc_Rule p.Rules), .vs 4 (List.map enc_Cap p.Caps), .vs 6 (List.map enc_View p.Views), .vs 3 (List.map enc_Point3 p.Sun), .int .i64 p.Hours, .mp 20, .vs 1 (List.map EV.encS zones)]), (20, .map (encM V.str (V.int .i64) v1.2)), (6, .box 96 [.vs 6 (List.map enc_Def p.Defs), .vs 3 (List.map enc_Table p.Tables), .vs 3 (List.map enc_Zone p.Zones), .vs 20 (List.map enc_Rule p.Rules), .vs 4 (List.map enc_Cap p.Caps), .vs 6 (List.map enc_View p.Views), .vs 3 (List.map enc_Point3 p.Sun), .int .i64 p.Hours, .mp 20, .vs 1 (List.map EV.encS zones)]), (3, .box 82 [.vs 6 (List.map enc_Def p.Defs), .vs 3 (List.map enc_Table p.Tables), .vs 3 (List.map enc_Zone p.Zones), .vs 20 (List.map enc_Rule p.Rules), .vs 4 (List.map enc_Cap p.Caps), .vs 6 (List.map enc_View p.Views), .vs 3 (List.map enc_Point3 p.Sun), .int .i64 p.Hours])] (by kernel_rfl) ?_
      refine ov_nil ?_
      refine nrm_thenV ?_
      refine v_to _ [(48, .row 3 1 (((List.map EV.encI (List.replicate (Int.toNat (List.length p.Defs : Int)) (0 : Int)))).length) (List.map EV.encI (List.replicate (Int.toNat (List.length p.Defs : Int)) (0 : Int)))), (23, .map (encM V.str V.bool v1.1)), (8, .box 96 [.vs 6 (List.map enc_Def p.Defs), .vs 3 (List.map enc_Table p.Tables), .vs 3 (List.map enc_Zone p.Zones), .vs 20 (List.map enc_Rule p.Rules), .vs 4 (List.map enc_Cap p.Caps), .vs 6 (List.map enc_View p.Views), .vs 3 (List.map enc_Point3 p.Sun), .int .i64 p.Hours, .mp 20, .vs 1 (List.map EV.encS zones)]), (20, .map (encM V.str (V.int .i64) v1.2)), (6, .box 96 [.vs 6 (List.map enc_Def p.Defs), .vs 3 (List.map enc_Table p.Tables), .vs 3 (List.map enc_Zone p.Zones), .vs 20 (List.map enc_Rule p.Rules), .vs 4 (List.map enc_Cap p.Caps), .vs 6 (List.map enc_View p.Views), .vs 3 (List.map enc_Point3 p.Sun), .int .i64 p.Hours, .mp 20, .vs 1 (List.map EV.encS zones)]), (3, .box 82 [.vs 6 (List.map enc_Def p.Defs), .vs 3 (List.map enc_Table p.Tables), .vs 3 (List.map enc_Zone p.Zones), .vs 20 (List.map enc_Rule p.Rules), .vs 4 (List.map enc_Cap p.Caps), .vs 6 (List.map enc_View p.Views), .vs 3 (List.map enc_Point3 p.Sun), .int .i64 p.Hours])] (cut_freeze (F := [(48, .row 3 1 0 (List.map EV.encI (List.replicate (Int.toNat (List.length p.Defs : Int)) (0 : Int))))]) [48] rfl (by kernel_rfl) (by kernel_rfl)) ?_
      refine v_to ((7, .vs 1 (List.map EV.encI (List.replicate (Int.toNat (List.length p.Defs : Int)) (0 : Int)))) :: _) _ (cut_view (R := [(48, .row 3 1 (((List.map EV.encI (List.replicate (Int.toNat (List.length p.Defs : Int)) (0 : Int)))).length) (List.map EV.encI (List.replicate (Int.toNat (List.length p.Defs : Int)) (0 : Int))))]) (ks := [48]) (by kernel_rfl) (by kernel_rfl) (.row (t := 3) (fz := (((List.map EV.encI (List.replicate (Int.toNat (List.length p.Defs : Int)) (0 : Int)))).length)) (by kernel_rfl) (by first | (simp only [List.length_map, List.length_set]; done) | rfl))) ?_
      refine v_ret ?_
      refine ret_thenV ?_
      obtain rfl := Option.some.inj hs
      exact fin_ret (by kernel_rfl) (by kernel_rfl) (by kernel_rfl)
    · replace hs := bif_f h3 hs
      refine v_skip ?_
      refine nrm_thenV ?_
      refine v_seq ?_
      refine v_seq ?_
      refine vr_text ?_
      refine o_runs 1 [(59, .vs 1 (List.map EV.encI y1.1))] (by kernel_rfl) ?_
      refine o_pure (v := .int .i64 (List.length y1.1 : Int)) (by kernel_rfl) (by kernel_rfl) (loc_lenVs (sz := 1) (els := (List.map EV.encI y1.1)) (by kernel_rfl) (by kernel_rfl) (List.length_map ..)) ?_
      refine o_runs 1 [(61, .int .i64 0)] (by kernel_rfl) ?_
      refine ov_nil ?_
      refine nrm_thenV ?_
      obtain ⟨z3, hs, hk3⟩ := bind_some hs
      refine v_join (S := (List Int) × (List ((List UInt8) × Int))) (fun u => u = z3) (fun u => [(6, .ptr 6 0 0), (8, .ptr 8 0 0), (12, .sl 1 48 ((u.1).length) 0 ((u.1).length))]) (fun u => [(48, .row 3 1 0 (List.map EV.encI u.1)), (8, .box 96 [.vs 6 (List.map enc_Def p.Defs), .vs 3 (List.map enc_Table p.Tables), .vs 3 (List.map enc_Zone p.Zones), .vs 20 (List.map enc_Rule p.Rules), .vs 4 (List.map enc_Cap p.Caps), .vs 6 (List.map enc_View p.Views), .vs 3 (List.map enc_Point3 p.Sun), .int .i64 p.Hours, .mp 20, .vs 1 (List.map EV.encS zones)]), (20, .map (encM V.str (V.int .i64) u.2)), (6, .box 96 [.nils, .nils, .nils, .nils, .nils, .nils, .nils, .int .i64 0, .nilm, .nils])]) ?_ (fun v3 hz => ?_)
      · refine v_block ?_
        refine v_fuel (S := Int × (List Int) × (List ((List UInt8) × Int))) (fun u => [(3, .ptr 3 0 0), (6, .ptr 6 0 0), (8, .ptr 8 0 0), (9, .mp 23), (12, .sl 1 48 ((u.2.1).length) 0 ((u.2.1).length)), (59, .vs 1 (List.map EV.encI y1.1)), (60, .int .i64 (List.length y1.1 : Int)), (61, .int .i64 u.1)]) (fun u => [(48, .row 3 1 0 (List.map EV.encI u.2.1)), (23, .map (encM V.str V.bool v1.1)), (8, .box 96 [.vs 6 (List.map enc_Def p.Defs), .vs 3 (List.map enc_Table p.Tables), .vs 3 (List.map enc_Zone p.Zones), .vs 20 (List.map enc_Rule p.Rules), .vs 4 (List.map enc_Cap p.Caps), .vs 6 (List.map enc_View p.Views), .vs 3 (List.map enc_Point3 p.Sun), .int .i64 p.Hours, .mp 20, .vs 1 (List.map EV.encS zones)]), (20, .map (encM V.str (V.int .i64) u.2.2)), (6, .box 96 [.nils, .nils, .nils, .nils, .nils, .nils, .nils, .int .i64 0, .nilm, .nils]), (3, .box 82 [.vs 6 (List.map enc_Def p.Defs), .vs 3 (List.map enc_Table p.Tables), .vs 3 (List.map enc_Zone p.Zones), .vs 20 (List.map enc_Rule p.Rules), .vs 4 (List.map enc_Cap p.Caps), .vs 6 (List.map enc_View p.Views), .vs 3 (List.map enc_Point3 p.Sun), .int .i64 p.Hours])]) (s_expr_prepare_L2 p zones v1 y1) (fun _ => rfl) KK (0, (List.replicate (Int.toNat (List.length p.Defs : Int)) (0 : Int)), v1.2) hs (cut_of [3, 6, 8, 9, 12, 59, 60, 61] [48, 23, 8, 20, 6, 3] (by kernel_rfl) (by kernel_rfl) (by kernel_rfl)) (fun K2 q2 hs => ?_)
        rw [s_expr_prepare_L2] at hs
        show WpV cK0 Try.prog none 96 _ _ [(3, .ptr 3 0 0), (6, .ptr 6 0 0), (8, .ptr 8 0 0), (9, .mp 23), (12, .sl 1 48 ((q2.2.1).length) 0 ((q2.2.1).length)), (59, .vs 1 (List.map EV.encI y1.1)), (60, .int .i64 (List.length y1.1 : Int)), (61, .int .i64 q2.1)] [(48, .row 3 1 0 (List.map EV.encI q2.2.1)), (23, .map (encM V.str V.bool v1.1)), (8, .box 96 [.vs 6 (List.map enc_Def p.Defs), .vs 3 (List.map enc_Table p.Tables), .vs 3 (List.map enc_Zone p.Zones), .vs 20 (List.map enc_Rule p.Rules), .vs 4 (List.map enc_Cap p.Caps), .vs 6 (List.map enc_View p.Views), .vs 3 (List.map enc_Point3 p.Sun), .int .i64 p.Hours, .mp 20, .vs 1 (List.map EV.encS zones)]), (20, .map (encM V.str (V.int .i64) q2.2.2)), (6, .box 96 [.nils, .nils, .nils, .nils, .nils, .nils, .nils, .int .i64 0, .nilm, .nils]), (3, .box 82 [.vs 6 (List.map enc_Def p.Defs), .vs 3 (List.map enc_Table p.Tables), .vs 3 (List.map enc_Zone p.Zones), .vs 20 (List.map enc_Rule p.Rules), .vs 4 (List.map enc_Cap p.Caps), .vs 6 (List.map enc_View p.Views), .vs 3 (List.map enc_Point3 p.Sun), .int .i64 p.Hours])] []
        refine v_seq ?_
        refine vr_text ?_
        refine o_runs 1 [(62, .bool (decide (q2.1 < (List.length y1.1 : Int))))] (by kernel_rfl) ?_
        refine ov_nil ?_
        refine nrm_thenV ?_
        refine v_seq ?_
        refine v_cond (decide (q2.1 < (List.length y1.1 : Int))) (by kernel_rfl) (fun h4 => ?_) (fun h4 => ?_)
        · replace hs := bif_t h4 hs
          refine v_skip ?_
          refine nrm_thenV ?_
          refine v_seq ?_
          refine v_block ?_
          refine v_seq ?_
          refine vr_text ?_
          obtain ⟨x2, g3, hs⟩ := bind_some hs; obtain ⟨g3a, g3b, g3c⟩ := idx_some g3
          refine o_pure (v := .vp [.int .i64 x2] 0) (by kernel_rfl) (by kernel_rfl) (loc_indexVs (e := 3) (sz := 1) (k := .i64) (els := (List.map EV.encI y1.1)) (cs := (EV.encI x2)) (by kernel_rfl) (by kernel_rfl) (by kernel_rfl) g3a (by rw [g3c]; exact map_get _ (by omega))) ?_
          refine o_runs 2 [(17, .int .i64 x2), (64, .int .i64 x2)] (by kernel_rfl) ?_
          refine ov_nil ?_
          refine nrm_thenV ?_
          refine v_seq ?_
          refine vr_text ?_
          refine o_runs 3 [(67, .int .i64 x2), (66, .vs 6 (List.map enc_Def p.Defs)), (65, .ptr 3 0 0)] (by kernel_rfl) ?_
          obtain ⟨x3, g4, hs⟩ := bind_some hs; obtain ⟨g4a, g4b, g4c⟩ := idx_some g4
          refine o_pure (v := .vp (enc_Def x3) 0) (by kernel_rfl) (by kernel_rfl) (loc_indexVs (e := 106) (sz := 6) (k := .i64) (els := (List.map enc_Def p.Defs)) (cs := (enc_Def x3)) (by kernel_rfl) (by kernel_rfl) (by kernel_rfl) g4a (by rw [g4c]; exact map_get _ (by omega))) ?_
          refine o_runh 3 [(18, .ptr 18 0 0), (69, .agg (enc_Def x3))] [(18, .box 106 [.str x3.Name, .int .i64 x3.Body.Op, .int .i64 x3.Body.N, .str x3.Body.S, .str x3.Body.Key, .vs 5 (encs_Expr x3.Body.Args)]), (48, .row 3 1 0 (List.map EV.encI q2.2.1)), (23, .map (encM V.str V.bool v1.1)), (8, .box 96 [.vs 6 (List.map enc_Def p.Defs), .vs 3 (List.map enc_Table p.Tables), .vs 3 (List.map enc_Zone p.Zones), .vs 20 (List.map enc_Rule p.Rules), .vs 4 (List.map enc_Cap p.Caps), .vs 6 (List.map enc_View p.Views), .vs 3 (List.map enc_Point3 p.Sun), .int .i64 p.Hours, .mp 20, .vs 1 (List.map EV.encS zones)]), (20, .map (encM V.str (V.int .i64) q2.2.2)), (6, .box 96 [.nils, .nils, .nils, .nils, .nils, .nils, .nils, .int .i64 0, .nilm, .nils]), (3, .box 82 [.vs 6 (List.map enc_Def p.Defs), .vs 3 (List.map enc_Table p.Tables), .vs 3 (List.map enc_Zone p.Zones), .vs 20 (List.map enc_Rule p.Rules), .vs 4 (List.map enc_Cap p.Caps), .vs 6 (List.map enc_View p.Views), .vs 3 (List.map enc_Point3 p.Sun), .int .i64 p.Hours])] (by kernel_rfl) ?_
          refine ov_nil ?_
          refine nrm_thenV ?_
          refine v_seq ?_
          refine v_seq ?_
          refine vr_text ?_
          refine o_runs 2 [(71, .agg (enc_Expr x3.Body)), (70, .ptr 18 0 1)] (by kernel_rfl) ?_
          obtain ⟨y2, c2, hs⟩ := bind_some hs
          refine o_pure (v := .bool y2) (by kernel_rfl) (by kernel_rfl) (loc_gcall0 (callV_func hbv36 (by kernel_rfl)) (w_expr_Right x3.Body _ c2) (by kernel_rfl)) ?_
          refine ov_nil ?_
          refine nrm_thenV ?_
          obtain ⟨z4, hs, hk4⟩ := bind_some hs
          refine v_join (S := (List Int)) (fun u => u = z4) (fun u => [(3, .ptr 3 0 0), (6, .ptr 6 0 0), (8, .ptr 8 0 0), (9, .mp 23), (12, .sl 1 48 ((u).length) 0 ((u).length)), (17, .int .i64 x2), (18, .ptr 18 0 0), (59, .vs 1 (List.map EV.encI y1.1)), (60, .int .i64 (List.length y1.1 : Int)), (61, .int .i64 q2.1)]) (fun u => [(48, .row 3 1 0 (List.map EV.encI u)), (20, .map (encM V.str (V.int .i64) q2.2.2)), (18, .box 106 [.str x3.Name, .int .i64 x3.Body.Op, .int .i64 x3.Body.N, .str x3.Body.S, .str x3.Body.Key, .vs 5 (encs_Expr x3.Body.Args)]), (23, .map (encM V.str V.bool v1.1)), (8, .box 96 [.vs 6 (List.map enc_Def p.Defs), .vs 3 (List.map enc_Table p.Tables), .vs 3 (List.map enc_Zone p.Zones), .vs 20 (List.map enc_Rule p.Rules), .vs 4 (List.map enc_Cap p.Caps), .vs 6 (List.map enc_View p.Views), .vs 3 (List.map enc_Point3 p.Sun), .int .i64 p.Hours, .mp 20, .vs 1 (List.map EV.encS zones)]), (6, .box 96 [.nils, .nils, .nils, .nils, .nils, .nils, .nils, .int .i64 0, .nilm, .nils]), (3, .box 82 [.vs 6 (List.map enc_Def p.Defs), .vs 3 (List.map enc_Table p.Tables), .vs 3 (List.map enc_Zone p.Zones), .vs 20 (List.map enc_Rule p.Rules), .vs 4 (List.map enc_Cap p.Caps), .vs 6 (List.map enc_View p.Views), .vs 3 (List.map enc_Point3 p.Sun), .int .i64 p.Hours])]) ?_ (fun v4 hz => ?_)
          · refine v_cond y2 (by kernel_rfl) (fun h5 => ?_) (fun h5 => ?_)
            · replace hs := bif_t h5 hs
              refine vr_text ?_
              refine o_runs 5 [(77, .agg (enc_Expr x3.Body)), (76, .ptr 18 0 1), (75, .agg [.vs 6 (List.map enc_Def p.Defs), .vs 3 (List.map enc_Table p.Tables), .vs 3 (List.map enc_Zone p.Zones), .vs 20 (List.map enc_Rule p.Rules), .vs 4 (List.map enc_Cap p.Caps), .vs 6 (List.map enc_View p.Views), .vs 3 (List.map enc_Point3 p.Sun), .int .i64 p.Hours, .mp 20, .vs 1 (List.map EV.encS zones)]), (74, .int .i64 x2), (73, .sl 1 48 ((q2.2.1).length) 0 ((q2.2.1).length))] (by kernel_rfl) ?_
              obtain ⟨y3, c3, hs⟩ := bind_some hs
              refine o_loc (F := [(20, .map (encM V.str (V.int .i64) q2.2.2))]) (F' := [(20, .map (encM V.str (V.int .i64) q2.2.2))]) (v := .int .i64 y3) [20] (by kernel_rfl) (by kernel_rfl) rfl (by kernel_rfl) (loc_g (R := []) [.agg [.vs 6 (List.map enc_Def p.Defs), .vs 3 (List.map enc_Table p.Tables), .vs 3 (List.map enc_Zone p.Zones), .vs 20 (List.map enc_Rule p.Rules), .vs 4 (List.map enc_Cap p.Caps), .vs 6 (List.map enc_View p.Views), .vs 3 (List.map enc_Point3 p.Sun), .int .i64 p.Hours, .mp 20, .vs 1 (List.map EV.encS zones)], .agg (enc_Expr x3.Body)] [(1000000, 20)] (callV_func hbv45 (by kernel_rfl)) (w_expr_context_value KK p q2.2.2 zones x3.Body _ c3) (.cons (.same _) (.cons (.same _) (.nil))) (by kernel_rfl) (by kernel_rfl) (by kernel_rfl) (by kernel_rfl) (by kernel_rfl) (by kernel_rfl) (by kernel_rfl) (by kernel_rfl)) (by kernel_rfl) ?_
              obtain ⟨_, g5, hs⟩ := bind_some hs; obtain ⟨g5a, g5b⟩ := grd_some g5
              refine o_pure (v := .ptr 48 ((q2.2.1).length) ((Int.toNat x2) * 1 + 0)) (by kernel_rfl) (by kernel_rfl) (loc_indexRowT (e := 3) (sz := 1) (kk := 48) (L := (q2.2.1).length) (n := (q2.2.1).length) (k := .i64) (i := x2) (by kernel_rfl) (by kernel_rfl) (by kernel_rfl) g5a g5b) ?_
              obtain ⟨e1, he1, hs⟩ := bind_some hs; replace he1 := Option.some.inj he1
              refine o_loc (F := [(48, .row 3 1 0 (List.map EV.encI q2.2.1))]) (F' := [(48, .row 3 1 0 (List.map EV.encI (List.set q2.2.1 (Int.toNat x2) y3)))]) (v := .no) [48] (by kernel_rfl) (by kernel_rfl) rfl (by kernel_rfl) (loc_storeRowT (L := (q2.2.1).length) (off := (Int.toNat x2) * 1 + 0) (els := (List.map EV.encI q2.2.1)) (cs := [.int .i64 e1]) (c' := [.int .i64 y3]) (Int.toNat x2) 0 (by kernel_rfl) (by first | (simp only [List.length_map, List.length_set]; done) | rfl) rfl (by rw [← he1]; exact map_get _ (by first | omega | (simp only [List.length_set]; omega))) (by first | exact Nat.zero_le _ | omega) (by kernel_rfl) (by kernel_rfl) (by kernel_rfl) (by kernel_rfl) (by kernel_rfl) (by kernel_rfl) List.map_set.symm) (by kernel_rfl) ?_
              refine ov_nil ?_
              obtain rfl := Option.some.inj hs
              refine nrm_join (List.set q2.2.1 (Int.toNat x2) y3) rfl ?_
              exact Cut.trans (cut_eq 12 (v := .sl 1 48 ((q2.2.1).length) 0 ((q2.2.1).length)) (v' := .sl 1 48 (((List.set q2.2.1 (Int.toNat x2) y3)).length) 0 (((List.set q2.2.1 (Int.toNat x2) y3)).length)) (by kernel_rfl) (by first | rfl | simp only [List.length_set])) (cut_of [3, 6, 8, 9, 12, 17, 18, 59, 60, 61] [48, 20, 18, 23, 8, 6, 3] (by kernel_rfl) (by kernel_rfl) (by kernel_rfl))
            · replace hs := bif_f h5 hs
              refine v_skip ?_
              obtain rfl := Option.some.inj hs
              refine nrm_join q2.2.1 rfl ?_
              exact cut_of [3, 6, 8, 9, 12, 17, 18, 59, 60, 61] [48, 20, 18, 23, 8, 6, 3] (by kernel_rfl) (by kernel_rfl) (by kernel_rfl)
          · subst hz; clear hs; have hs := hk4; clear hk4
            refine nrm_thenV ?_
            refine v_seq ?_
            refine vr_text ?_
            refine o_runs 3 [(82, .str x3.Name), (81, .ptr 18 0 0), (80, .mp 23)] (by kernel_rfl) ?_
            refine o_loc (F := [(23, .map (encM V.str V.bool v1.1))]) (F' := [(23, .map (encM V.str V.bool v1.1))]) (v := .bool (Option.getD (mfind x3.Name v1.1) false)) [23] (by kernel_rfl) (by kernel_rfl) rfl (by kernel_rfl) (loc_lookup (et := 4) (f := V.str) (g := V.bool) (l := v1.1) (a := x3.Name) (z := false) (zv := .bool false) false (by kernel_rfl) kok9 (by kernel_rfl) (fun _ _ _ h => h) (by kernel_rfl) (by kernel_rfl)) (by kernel_rfl) ?_
            refine o_runs 1 [(84, .bool (!(Option.getD (mfind x3.Name v1.1) false)))] (by kernel_rfl) ?_
            refine ov_nil ?_
            refine nrm_thenV ?_
            obtain ⟨z5, hs, hk5⟩ := bind_some hs
            refine v_join (S := (List ((List UInt8) × Int))) (fun u => u = z5) (fun u => [(3, .ptr 3 0 0), (6, .ptr 6 0 0), (8, .ptr 8 0 0), (9, .mp 23), (12, .sl 1 48 ((v4).length) 0 ((v4).length)), (59, .vs 1 (List.map EV.encI y1.1)), (60, .int .i64 (List.length y1.1 : Int)), (61, .int .i64 q2.1)]) (fun u => [(20, .map (encM V.str (V.int .i64) u)), (23, .map (encM V.str V.bool v1.1)), (48, .row 3 1 0 (List.map EV.encI v4)), (8, .box 96 [.vs 6 (List.map enc_Def p.Defs), .vs 3 (List.map enc_Table p.Tables), .vs 3 (List.map enc_Zone p.Zones), .vs 20 (List.map enc_Rule p.Rules), .vs 4 (List.map enc_Cap p.Caps), .vs 6 (List.map enc_View p.Views), .vs 3 (List.map enc_Point3 p.Sun), .int .i64 p.Hours, .mp 20, .vs 1 (List.map EV.encS zones)]), (6, .box 96 [.nils, .nils, .nils, .nils, .nils, .nils, .nils, .int .i64 0, .nilm, .nils]), (3, .box 82 [.vs 6 (List.map enc_Def p.Defs), .vs 3 (List.map enc_Table p.Tables), .vs 3 (List.map enc_Zone p.Zones), .vs 20 (List.map enc_Rule p.Rules), .vs 4 (List.map enc_Cap p.Caps), .vs 6 (List.map enc_View p.Views), .vs 3 (List.map enc_Point3 p.Sun), .int .i64 p.Hours])]) ?_ (fun v5 hz => ?_)
            · refine v_cond (!(Option.getD (mfind x3.Name v1.1) false)) (by kernel_rfl) (fun h6 => ?_) (fun h6 => ?_)
              · replace hs := bif_t h6 hs
                refine v_draw mixedH (by kernel_rfl) ?_
                refine d_runs 6 0 [(90, .int .i64 x2), (89, .sl 1 48 ((v4).length) 0 ((v4).length)), (88, .str x3.Name), (87, .ptr 18 0 0), (86, .mp 20), (85, .ptr 8 0 8)] [⟨5, [], []⟩, ⟨4, [], []⟩, ⟨3, [], [18]⟩, ⟨2, [], []⟩, ⟨1, [], [8]⟩, ⟨0, [], []⟩] (by kernel_rfl) (by kernel_rfl) ?_
                obtain ⟨_, g6, hs⟩ := bind_some hs; obtain ⟨g6a, g6b⟩ := grd_some g6
                refine d_pure (v := .ptr 48 ((v4).length) ((Int.toNat x2) * 1 + 0)) 6 rfl rfl rfl rfl (by kernel_rfl) (by kernel_rfl) (loc_indexRowT (e := 3) (sz := 1) (kk := 48) (L := (v4).length) (n := (v4).length) (k := .i64) (i := x2) (by kernel_rfl) (by kernel_rfl) (by kernel_rfl) g6a g6b) ?_
                obtain ⟨e2, he2, hs⟩ := bind_some hs; replace he2 := Option.some.inj he2
                refine d_loc (F := []) (R := [(48, .row 3 1 0 (List.map EV.encI v4))]) (F' := []) (v := .int .i64 e2) 7 [] [48] rfl rfl rfl rfl (by kernel_rfl) (by kernel_rfl) (by kernel_rfl) (by kernel_rfl) (by kernel_rfl) (by kernel_rfl) (by kernel_rfl) (by kernel_rfl) (loc_loadRow (L := (v4).length) (off := (Int.toNat x2) * 1 + 0) (els := (List.map EV.encI v4)) (cs := [.int .i64 e2]) (Int.toNat x2) 0 (by kernel_rfl) (by first | (simp only [List.length_map, List.length_set]; done) | rfl) rfl (by rw [← he2]; exact map_get _ (by first | omega | (simp only [List.length_set]; omega))) (by kernel_rfl)) ?_
                refine d_loc (F := [(20, .map (encM V.str (V.int .i64) q2.2.2))]) (R := []) (F' := [(20, .map (encM V.str (V.int .i64) (mset x3.Name e2 q2.2.2)))]) (v := .no) 8 [20] [] rfl rfl rfl rfl (by kernel_rfl) (by kernel_rfl) (by kernel_rfl) (by kernel_rfl) (by kernel_rfl) (by kernel_rfl) (by kernel_rfl) (by kernel_rfl) (loc_mapUpdate (et := 3) (f := V.str) (g := (V.int .i64)) (l := q2.2.2) (a := x3.Name) (c := e2) (by kernel_rfl) kok9 (by kernel_rfl) (by kernel_rfl) (by kernel_rfl) (by kernel_rfl) (by kernel_rfl)) ?_
                refine d_nil (by kernel_rfl) ?_
                obtain rfl := Option.some.inj hs
                refine nrm_join (mset x3.Name e2 q2.2.2) rfl ?_
                exact cut_of [3, 6, 8, 9, 12, 59, 60, 61] [20, 23, 48, 8, 6, 3] (by kernel_rfl) (by kernel_rfl) (by kernel_rfl)
              · replace hs := bif_f h6 hs
                refine v_skip ?_
                obtain rfl := Option.some.inj hs
                refine nrm_join q2.2.2 rfl ?_
                exact cut_of [3, 6, 8, 9, 12, 59, 60, 61] [20, 23, 48, 8, 6, 3] (by kernel_rfl) (by kernel_rfl) (by kernel_rfl)
            · subst hz; clear hs; have hs := hk5; clear hk5
              refine nrm_blkV ?_
              refine nrm_thenV ?_
              refine vr_text ?_
              refine o_runs 2 [(61, .int .i64 (w64 (q2.1 + 1))), (93, .int .i64 (w64 (q2.1 + 1)))] (by kernel_rfl) ?_
              refine ov_nil ?_
              refine nrm_fuel ((w64 (q2.1 + 1)), v4, v5) hs ?_
              exact cut_of [3, 6, 8, 9, 12, 59, 60, 61] [48, 23, 8, 20, 6, 3] (by kernel_rfl) (by kernel_rfl) (by kernel_rfl)
        · replace hs := bif_f h4 hs
          refine v_exit ?_
          refine exit_thenV ?_
          refine exit_fuel ?_
          refine exit_blkV ?_
          obtain rfl := Option.some.inj hs
          refine nrm_join (q2.2.1, q2.2.2) rfl ?_
          exact cut_of [6, 8, 12] [48, 8, 20, 6] (by kernel_rfl) (by kernel_rfl) (by kernel_rfl)
      · subst hz; clear hs; have hs := hk3; clear hk3
        refine nrm_thenV ?_
        refine v_seq ?_
        refine vr_text ?_
        refine o_runh 4 [(7, .sl 1 48 ((v3.1).length) 0 ((v3.1).length)), (95, .sl 1 48 ((v3.1).length) 0 ((v3.1).length)), (94, .agg [.vs 6 (List.map enc_Def p.Defs), .vs 3 (List.map enc_Table p.Tables), .vs 3 (List.map enc_Zone p.Zones), .vs 20 (List.map enc_Rule p.Rules), .vs 4 (List.map enc_Cap p.Caps), .vs 6 (List.map enc_View p.Views), .vs 3 (List.map enc_Point3 p.Sun), .int .i64 p.Hours, .mp 20, .vs 1 (List.map EV.encS zones)])] [(48, .row 3 1 0 (List.map EV.encI v3.1)), (8, .box 96 [.vs 6 (List.map enc_Def p.Defs), .vs 3 (List.map enc_Table p.Tables), .vs 3 (List.map enc_Zone p.Zones), .vs 20 (List.map enc_Rule p.Rules), .vs 4 (List.map enc_Cap p.Caps), .vs 6 (List.map enc_View p.Views), .vs 3 (List.map enc_Point3 p.Sun), .int .i64 p.Hours, .mp 20, .vs 1 (List.map EV.encS zones)]), (20, .map (encM V.str (V.int .i64) v3.2)), (6, .box 96 [.vs 6 (List.map enc_Def p.Defs), .vs 3 (List.map enc_Table p.Tables), .vs 3 (List.map enc_Zone p.Zones), .vs 20 (List.map enc_Rule p.Rules), .vs 4 (List.map enc_Cap p.Caps), .vs 6 (List.map enc_View p.Views), .vs 3 (List.map enc_Point3 p.Sun), .int .i64 p.Hours, .mp 20, .vs 1 (List.map EV.encS zones)])] (by kernel_rfl) ?_
        refine ov_nil ?_
        refine nrm_thenV ?_
        refine v_to _ [(48, .row 3 1 (((List.map EV.encI v3.1)).length) (List.map EV.encI v3.1)), (8, .box 96 [.vs 6 (List.map enc_Def p.Defs), .vs 3 (List.map enc_Table p.Tables), .vs 3 (List.map enc_Zone p.Zones), .vs 20 (List.map enc_Rule p.Rules), .vs 4 (List.map enc_Cap p.Caps), .vs 6 (List.map enc_View p.Views), .vs 3 (List.map enc_Point3 p.Sun), .int .i64 p.Hours, .mp 20, .vs 1 (List.map EV.encS zones)]), (20, .map (encM V.str (V.int .i64) v3.2)), (6, .box 96 [.vs 6 (List.map enc_Def p.Defs), .vs 3 (List.map enc_Table p.Tables), .vs 3 (List.map enc_Zone p.Zones), .vs 20 (List.map enc_Rule p.Rules), .vs 4 (List.map enc_Cap p.Caps), .vs 6 (List.map enc_View p.Views), .vs 3 (List.map enc_Point3 p.Sun), .int .i64 p.Hours, .mp 20, .vs 1 (List.map EV.encS zones)])] (cut_freeze (F := [(48, .row 3 1 0 (List.map EV.encI v3.1))]) [48] rfl (by kernel_rfl) (by kernel_rfl)) ?_
        refine v_to ((7, .vs 1 (List.map EV.encI v3.1)) :: _) _ (cut_view (R := [(48, .row 3 1 (((List.map EV.encI v3.1)).length) (List.map EV.encI v3.1))]) (ks := [48]) (by kernel_rfl) (by kernel_rfl) (.row (t := 3) (fz := (((List.map EV.encI v3.1)).length)) (by kernel_rfl) (by first | (simp only [List.length_map, List.length_set]; done) | rfl))) ?_
        refine v_ret ?_
        obtain rfl := Option.some.inj hs
        exact fin_ret (by kernel_rfl) (by kernel_rfl) (by kernel_rfl)
theorem w_expr_Eval (p : Plan) (measures : (List Entry)) (zones : (List (List UInt8))) (e : Expr) (r : Int) (hs : s_expr_Eval p measures zones e = some r) : FnA Try.prog 37 [.agg (enc_Plan p), .vs 2 (List.map enc_Entry measures), .vs 1 (List.map EV.encS zones), .agg (enc_Expr e)] [] (.int .i64 r) [] := by
  refine fnA_of_wp (N := 24) Try.func37 rfl rfl rfl fun cK0 => ?_
  unfold s_expr_Eval at hs
  refine v_same (ρ' := [(0, .agg (enc_Plan p)), (1, .vs 2 (List.map enc_Entry measures)), (2, .vs 1 (List.map EV.encS zones)), (3, .agg (enc_Expr e))]) rfl rfl ?_
  refine v_seq ?_
  refine vr_text ?_
  refine o_runh 3 [(8, .int .i64 0), (7, .ptr 7 0 0), (4, .ptr 4 0 0)] [(7, .box 32 [.int .i64 e.Op, .int .i64 e.N, .str e.S, .str e.Key, .vs 5 (encs_Expr e.Args)]), (4, .box 82 [.vs 6 (List.map enc_Def p.Defs), .vs 3 (List.map enc_Table p.Tables), .vs 3 (List.map enc_Zone p.Zones), .vs 20 (List.map enc_Rule p.Rules), .vs 4 (List.map enc_Cap p.Caps), .vs 6 (List.map enc_View p.Views), .vs 3 (List.map enc_Point3 p.Sun), .int .i64 p.Hours])] (by kernel_rfl) ?_
  refine ov_nil ?_
  refine nrm_thenV ?_
  refine v_seq ?_
  refine v_seq ?_
  refine vr_text ?_
  refine o_runs 1 [(11, .agg (enc_Expr e))] (by kernel_rfl) ?_
  obtain ⟨y1, c1, hs⟩ := bind_some hs
  refine o_pure (v := .bool y1) (by kernel_rfl) (by kernel_rfl) (loc_gcall0 (callV_func hbv36 (by kernel_rfl)) (w_expr_Right e _ c1) (by kernel_rfl)) ?_
  refine o_runs 1 [(13, .bool (!y1))] (by kernel_rfl) ?_
  refine ov_nil ?_
  refine nrm_thenV ?_
  refine v_cond (!y1) (by kernel_rfl) (fun h1 => ?_) (fun h1 => ?_)
  · replace hs := bif_t h1 hs
    refine v_seq ?_
    refine vr_text ?_
    refine o_runs 1 [(8, .int .i64 0)] (by kernel_rfl) ?_
    refine ov_nil ?_
    refine nrm_thenV ?_
    refine v_ret ?_
    refine ret_thenV ?_
    obtain rfl := Option.some.inj hs
    exact fin_ret (by kernel_rfl) (by kernel_rfl) (by kernel_rfl)
  · replace hs := bif_f h1 hs
    refine v_skip ?_
    refine nrm_thenV ?_
    refine v_seq ?_
    refine vr_text ?_
    refine o_runs 3 [(17, .vs 1 (List.map EV.encS zones)), (16, .vs 2 (List.map enc_Entry measures)), (15, .agg (enc_Plan p))] (by kernel_rfl) ?_
    obtain ⟨y2, c2, hs⟩ := bind_some hs
    refine o_loc (F := []) (F' := [(3001800, .map (encM V.str (V.int .i64) y2.2.2.2))]) (v := .tup [.agg [.vs 6 (List.map enc_Def y2.1.Defs), .vs 3 (List.map enc_Table y2.1.Tables), .vs 3 (List.map enc_Zone y2.1.Zones), .vs 20 (List.map enc_Rule y2.1.Rules), .vs 4 (List.map enc_Cap y2.1.Caps), .vs 6 (List.map enc_View y2.1.Views), .vs 3 (List.map enc_Point3 y2.1.Sun), .int .i64 y2.1.Hours, .mp 3001800, .vs 1 (List.map EV.encS y2.2.1)], .vs 1 (List.map EV.encI y2.2.2.1)]) [] (by kernel_rfl) (by kernel_rfl) rfl (by kernel_rfl) (loc_g (R := []) [.agg (enc_Plan p), .vs 2 (List.map enc_Entry measures), .vs 1 (List.map EV.encS zones)] [(20, 3001800)] (callV_func hbv44 (by kernel_rfl)) (w_expr_prepare p measures zones _ c2) (.cons (.same _) (.cons (.same _) (.cons (.same _) (.nil)))) (by kernel_rfl) (by kernel_rfl) (by kernel_rfl) (by kernel_rfl) (by kernel_rfl) (by kernel_rfl) (by kernel_rfl) (by kernel_rfl)) (by kernel_rfl) ?_
    refine o_runh 6 [(10, .vs 1 (List.map EV.encI y2.2.2.1)), (9, .ptr 9 0 0), (20, .vs 1 (List.map EV.encI y2.2.2.1)), (19, .agg [.vs 6 (List.map enc_Def y2.1.Defs), .vs 3 (List.map enc_Table y2.1.Tables), .vs 3 (List.map enc_Zone y2.1.Zones), .vs 20 (List.map enc_Rule y2.1.Rules), .vs 4 (List.map enc_Cap y2.1.Caps), .vs 6 (List.map enc_View y2.1.Views), .vs 3 (List.map enc_Point3 y2.1.Sun), .int .i64 y2.1.Hours, .mp 3001800, .vs 1 (List.map EV.encS y2.2.1)]), (14, .tup [.agg [.vs 6 (List.map enc_Def y2.1.Defs), .vs 3 (List.map enc_Table y2.1.Tables), .vs 3 (List.map enc_Zone y2.1.Zones), .vs 20 (List.map enc_Rule y2.1.Rules), .vs 4 (List.map enc_Cap y2.1.Caps), .vs 6 (List.map enc_View y2.1.Views), .vs 3 (List.map enc_Point3 y2.1.Sun), .int .i64 y2.1.Hours, .mp 3001800, .vs 1 (List.map EV.encS y2.2.1)], .vs 1 (List.map EV.encI y2.2.2.1)])] [(9, .box 96 [.vs 6 (List.map enc_Def y2.1.Defs), .vs 3 (List.map enc_Table y2.1.Tables), .vs 3 (List.map enc_Zone y2.1.Zones), .vs 20 (List.map enc_Rule y2.1.Rules), .vs 4 (List.map enc_Cap y2.1.Caps), .vs 6 (List.map enc_View y2.1.Views), .vs 3 (List.map enc_Point3 y2.1.Sun), .int .i64 y2.1.Hours, .mp 3001800, .vs 1 (List.map EV.encS y2.2.1)]), (3001800, .map (encM V.str (V.int .i64) y2.2.2.2)), (7, .box 32 [.int .i64 e.Op, .int .i64 e.N, .str e.S, .str e.Key, .vs 5 (encs_Expr e.Args)]), (4, .box 82 [.vs 6 (List.map enc_Def p.Defs), .vs 3 (List.map enc_Table p.Tables), .vs 3 (List.map enc_Zone p.Zones), .vs 20 (List.map enc_Rule p.Rules), .vs 4 (List.map enc_Cap p.Caps), .vs 6 (List.map enc_View p.Views), .vs 3 (List.map enc_Point3 p.Sun), .int .i64 p.Hours])] (by kernel_rfl) ?_
    refine ov_nil ?_
    refine nrm_thenV ?_
    refine v_seq ?_
    refine vr_text ?_
    refine o_runs 2 [(22, .agg (enc_Expr e)), (21, .agg [.vs 6 (List.map enc_Def y2.1.Defs), .vs 3 (List.map enc_Table y2.1.Tables), .vs 3 (List.map enc_Zone y2.1.Zones), .vs 20 (List.map enc_Rule y2.1.Rules), .vs 4 (List.map enc_Cap y2.1.Caps), .vs 6 (List.map enc_View y2.1.Views), .vs 3 (List.map enc_Point3 y2.1.Sun), .int .i64 y2.1.Hours, .mp 3001800, .vs 1 (List.map EV.encS y2.2.1)])] (by kernel_rfl) ?_
    obtain ⟨y3, c3, hs⟩ := bind_some hs
    refine o_loc (F := [(3001800, .map (encM V.str (V.int .i64) y2.2.2.2))]) (F' := [(3001800, .map (encM V.str (V.int .i64) y2.2.2.2))]) (v := .int .i64 y3) [3001800] (by kernel_rfl) (by kernel_rfl) rfl (by kernel_rfl) (loc_g (R := []) [.agg [.vs 6 (List.map enc_Def y2.1.Defs), .vs 3 (List.map enc_Table y2.1.Tables), .vs 3 (List.map enc_Zone y2.1.Zones), .vs 20 (List.map enc_Rule y2.1.Rules), .vs 4 (List.map enc_Cap y2.1.Caps), .vs 6 (List.map enc_View y2.1.Views), .vs 3 (List.map enc_Point3 y2.1.Sun), .int .i64 y2.1.Hours, .mp 3001800, .vs 1 (List.map EV.encS y2.2.1)], .agg (enc_Expr e)] [(1000000, 3001800)] (callV_func hbv45 (by kernel_rfl)) (w_expr_context_value KK y2.1 y2.2.2.2 y2.2.1 e _ c3) (.cons (.same _) (.cons (.same _) (.nil))) (by kernel_rfl) (by kernel_rfl) (by kernel_rfl) (by kernel_rfl) (by kernel_rfl) (by kernel_rfl) (by kernel_rfl) (by kernel_rfl)) (by kernel_rfl) ?_
    refine o_runs 1 [(8, .int .i64 y3)] (by kernel_rfl) ?_
    refine ov_nil ?_
    refine nrm_thenV ?_
    refine v_ret ?_
    obtain rfl := Option.some.inj hs
    exact fin_ret (by kernel_rfl) (by kernel_rfl) (by kernel_rfl)
theorem w_reopen_value (f : Formula) (told : (List Asked)) (r : Int) (hs : s_reopen_value f told = some r) : FnA Try.prog 27 [.agg (enc_Formula f), .vs 4 (List.map enc_Asked told)] [] (.int .i64 r) [] := by
  refine fnA_of_wp (N := 30) Try.func27 rfl rfl rfl fun cK0 => ?_
  unfold s_reopen_value at hs
  refine v_same (ρ' := [(0, .agg (enc_Formula f)), (1, .vs 4 (List.map enc_Asked told))]) rfl rfl ?_
  refine v_seq ?_
  refine vr_text ?_
  refine o_runh 2 [(4, .int .i64 0), (2, .ptr 2 0 0)] [(2, .box 35 [.int .i64 f.Id, .int .i64 f.Day, .int .i64 f.Known, .int .i64 f.Body.Op, .int .i64 f.Body.N, .str f.Body.S, .str f.Body.Key, .vs 5 (encs_Expr f.Body.Args), .int .i64 f.Result, .vs 4 (List.map enc_Asked f.Asked)])] (by kernel_rfl) ?_
  refine ov_nil ?_
  refine nrm_thenV ?_
  refine v_seq ?_
  refine vr_text ?_
  refine o_runs 1 [(5, .nils)] (by kernel_rfl) ?_
  refine ov_nil ?_
  refine nrm_thenV ?_
  refine v_seq ?_
  refine v_seq ?_
  refine vr_text ?_
  refine o_runs 1 [(8, .vs 4 (List.map enc_Asked told))] (by kernel_rfl) ?_
  refine o_pure (v := .int .i64 (List.length told : Int)) (by kernel_rfl) (by kernel_rfl) (loc_lenVs (sz := 4) (els := (List.map enc_Asked told)) (by kernel_rfl) (by kernel_rfl) (List.length_map ..)) ?_
  refine o_runs 1 [(10, .int .i64 0)] (by kernel_rfl) ?_
  refine ov_nil ?_
  refine nrm_thenV ?_
  obtain ⟨z1, hs, hk1⟩ := bind_some hs
  refine v_join (S := (List Entry)) (fun u => u = z1) (fun u => [(2, .ptr 2 0 0), (5, .sl 2 2000016 ((u).length) 0 ((u).length))]) (fun u => [(2, .box 35 [.int .i64 f.Id, .int .i64 f.Day, .int .i64 f.Known, .int .i64 f.Body.Op, .int .i64 f.Body.N, .str f.Body.S, .str f.Body.Key, .vs 5 (encs_Expr f.Body.Args), .int .i64 f.Result, .vs 4 (List.map enc_Asked f.Asked)]), (2000016, .row 72 2 0 (List.map enc_Entry u))]) ?_ (fun v1 hz => ?_)
  · refine v_block ?_
    refine v_fuel (S := Int × (List Entry)) (fun u => [(2, .ptr 2 0 0), (5, .sl 2 2000016 ((u.2).length) 0 ((u.2).length)), (8, .vs 4 (List.map enc_Asked told)), (9, .int .i64 (List.length told : Int)), (10, .int .i64 u.1)]) (fun u => [(2, .box 35 [.int .i64 f.Id, .int .i64 f.Day, .int .i64 f.Known, .int .i64 f.Body.Op, .int .i64 f.Body.N, .str f.Body.S, .str f.Body.Key, .vs 5 (encs_Expr f.Body.Args), .int .i64 f.Result, .vs 4 (List.map enc_Asked f.Asked)]), (2000016, .row 72 2 0 (List.map enc_Entry u.2))]) (s_reopen_value_L1 told) (fun _ => rfl) KK (0, []) hs (Cut.trans (cut_nilRow 5 2000016 72 2 rfl (by kernel_rfl) (by kernel_rfl)) (cut_of [2, 5, 8, 9, 10] [2, 2000016] (by kernel_rfl) (by kernel_rfl) (by kernel_rfl))) (fun K1 q1 hs => ?_)
    rw [s_reopen_value_L1] at hs
    show WpV cK0 Try.prog none 30 _ _ [(2, .ptr 2 0 0), (5, .sl 2 2000016 ((q1.2).length) 0 ((q1.2).length)), (8, .vs 4 (List.map enc_Asked told)), (9, .int .i64 (List.length told : Int)), (10, .int .i64 q1.1)] [(2, .box 35 [.int .i64 f.Id, .int .i64 f.Day, .int .i64 f.Known, .int .i64 f.Body.Op, .int .i64 f.Body.N, .str f.Body.S, .str f.Body.Key, .vs 5 (encs_Expr f.Body.Args), .int .i64 f.Result, .vs 4 (List.map enc_Asked f.Asked)]), (2000016, .row 72 2 0 (List.map enc_Entry q1.2))] []
    refine v_seq ?_
    refine vr_text ?_
    refine o_runs 1 [(11, .bool (decide (q1.1 < (List.length told : Int))))] (by kernel_rfl) ?_
    refine ov_nil ?_
    refine nrm_thenV ?_
    refine v_seq ?_
    refine v_cond (decide (q1.1 < (List.length told : Int))) (by kernel_rfl) (fun h1 => ?_) (fun h1 => ?_)
    · replace hs := bif_t h1 hs
      refine v_skip ?_
      refine nrm_thenV ?_
      refine v_seq ?_
      refine v_block ?_
      refine v_seq ?_
      refine vr_text ?_
      obtain ⟨x1, g1, hs⟩ := bind_some hs; obtain ⟨g1a, g1b, g1c⟩ := idx_some g1
      refine o_pure (v := .vp (enc_Asked x1) 0) (by kernel_rfl) (by kernel_rfl) (loc_indexVs (e := 44) (sz := 4) (k := .i64) (els := (List.map enc_Asked told)) (cs := (enc_Asked x1)) (by kernel_rfl) (by kernel_rfl) (by kernel_rfl) g1a (by rw [g1c]; exact map_get _ (by omega))) ?_
      refine o_runh 3 [(7, .ptr 7 0 0), (13, .agg (enc_Asked x1))] [(7, .box 44 [.str x1.Key, .int .i64 x1.Day, .int .i64 x1.Value, .bool x1.There]), (2, .box 35 [.int .i64 f.Id, .int .i64 f.Day, .int .i64 f.Known, .int .i64 f.Body.Op, .int .i64 f.Body.N, .str f.Body.S, .str f.Body.Key, .vs 5 (encs_Expr f.Body.Args), .int .i64 f.Result, .vs 4 (List.map enc_Asked f.Asked)]), (2000016, .row 72 2 0 (List.map enc_Entry q1.2))] (by kernel_rfl) ?_
      refine ov_nil ?_
      refine nrm_thenV ?_
      refine v_seq ?_
      refine vr_text ?_
      refine o_runs 2 [(15, .bool x1.There), (14, .ptr 7 0 3)] (by kernel_rfl) ?_
      refine ov_nil ?_
      refine nrm_thenV ?_
      obtain ⟨z2, hs, hk2⟩ := bind_some hs
      refine v_join (S := (List Entry)) (fun u => u = z2) (fun u => [(2, .ptr 2 0 0), (5, .sl 2 2000016 ((u).length) 0 ((u).length)), (8, .vs 4 (List.map enc_Asked told)), (9, .int .i64 (List.length told : Int)), (10, .int .i64 q1.1)]) (fun u => [(2000016, .row 72 2 0 (List.map enc_Entry u)), (2, .box 35 [.int .i64 f.Id, .int .i64 f.Day, .int .i64 f.Known, .int .i64 f.Body.Op, .int .i64 f.Body.N, .str f.Body.S, .str f.Body.Key, .vs 5 (encs_Expr f.Body.Args), .int .i64 f.Result, .vs 4 (List.map enc_Asked f.Asked)])]) ?_ (fun v2 hz => ?_)
      · refine v_cond x1.There (by kernel_rfl) (fun h2 => ?_) (fun h2 => ?_)
        · replace hs := bif_t h2 hs
          refine vr_text ?_
          refine o_runh 7 [(22, .sl 2 22 1 0 1), (21, .agg [.str x1.Key, .int .i64 x1.Value]), (20, .int .i64 x1.Value), (19, .ptr 7 0 2), (18, .str x1.Key), (17, .ptr 7 0 0), (16, .sl 2 2000016 ((q1.2).length) 0 ((q1.2).length))] [(22, .row 72 2 0 (List.map enc_Entry [(Entry.mk x1.Key x1.Value)])), (7, .box 44 [.str x1.Key, .int .i64 x1.Day, .int .i64 x1.Value, .bool x1.There]), (2, .box 35 [.int .i64 f.Id, .int .i64 f.Day, .int .i64 f.Known, .int .i64 f.Body.Op, .int .i64 f.Body.N, .str f.Body.S, .str f.Body.Key, .vs 5 (encs_Expr f.Body.Args), .int .i64 f.Result, .vs 4 (List.map enc_Asked f.Asked)]), (2000016, .row 72 2 0 (List.map enc_Entry q1.2))] (by kernel_rfl) ?_
          obtain ⟨_, g2, hs⟩ := bind_some hs; replace g2 := grd_some g2
          refine o_loc (F := [(2000016, .row 72 2 0 (List.map enc_Entry q1.2)), (22, .row 72 2 0 (List.map enc_Entry [(Entry.mk x1.Key x1.Value)]))]) (F' := [(2000016, .row 72 2 0 (List.map enc_Entry (q1.2 ++ [(Entry.mk x1.Key x1.Value)]))), (22, .row 72 2 0 (List.map enc_Entry [(Entry.mk x1.Key x1.Value)]))]) (v := .sl 2 2000016 (((q1.2 ++ [(Entry.mk x1.Key x1.Value)])).length) 0 (((q1.2 ++ [(Entry.mk x1.Key x1.Value)])).length)) [2000016, 22] (by kernel_rfl) (by kernel_rfl) rfl (by kernel_rfl) (loc_appendT (e := 72) (sz := 2) (bytes := 24) (L := (q1.2).length) (els := (List.map enc_Entry q1.2)) (ys := (List.map enc_Entry [(Entry.mk x1.Key x1.Value)])) (by kernel_rfl) (by kernel_rfl) (by first | exact List.length_map .. | rfl) (.sl (t := 72) (fz := 0) (ys := (List.map enc_Entry [(Entry.mk x1.Key x1.Value)])) (by kernel_rfl) (by kernel_rfl)) (map_ones enc_Entry (fun _ => rfl) _) (map_lens enc_Entry (fun _ => rfl) _) (by kernel_rfl) (by first | exact (List.map_append ..).symm | rfl | simp only [List.map_nil, List.nil_append]) (List.length_map ..) g2 (by omega)) (by kernel_rfl) ?_
          refine o_runs 1 [(5, .sl 2 2000016 (((q1.2 ++ [(Entry.mk x1.Key x1.Value)])).length) 0 (((q1.2 ++ [(Entry.mk x1.Key x1.Value)])).length))] (by kernel_rfl) ?_
          refine ov_nil ?_
          obtain rfl := Option.some.inj hs
          refine nrm_join (q1.2 ++ [(Entry.mk x1.Key x1.Value)]) rfl ?_
          exact cut_of [2, 5, 8, 9, 10] [2000016, 2] (by kernel_rfl) (by kernel_rfl) (by kernel_rfl)
        · replace hs := bif_f h2 hs
          refine v_skip ?_
          obtain rfl := Option.some.inj hs
          refine nrm_join q1.2 rfl ?_
          exact cut_of [2, 5, 8, 9, 10] [2000016, 2] (by kernel_rfl) (by kernel_rfl) (by kernel_rfl)
      · subst hz; clear hs; have hs := hk2; clear hk2
        refine nrm_blkV ?_
        refine nrm_thenV ?_
        refine vr_text ?_
        refine o_runs 2 [(10, .int .i64 (w64 (q1.1 + 1))), (24, .int .i64 (w64 (q1.1 + 1)))] (by kernel_rfl) ?_
        refine ov_nil ?_
        refine nrm_fuel ((w64 (q1.1 + 1)), v2) hs ?_
        exact cut_of [2, 5, 8, 9, 10] [2, 2000016] (by kernel_rfl) (by kernel_rfl) (by kernel_rfl)
    · replace hs := bif_f h1 hs
      refine v_exit ?_
      refine exit_thenV ?_
      refine exit_fuel ?_
      refine exit_blkV ?_
      obtain rfl := Option.some.inj hs
      refine nrm_join q1.2 rfl ?_
      exact cut_of [2, 5] [2, 2000016] (by kernel_rfl) (by kernel_rfl) (by kernel_rfl)
  · subst hz; clear hs; have hs := hk1; clear hk1
    refine nrm_thenV ?_
    refine v_seq ?_
    refine vr_text ?_
    refine o_runs 4 [(28, .agg (enc_Expr f.Body)), (27, .ptr 2 0 3), (26, .sl 2 2000016 ((v1).length) 0 ((v1).length)), (25, .agg [.nils, .nils, .nils, .nils, .nils, .nils, .nils, .int .i64 0])] (by kernel_rfl) ?_
    obtain ⟨y1, c1, hs⟩ := bind_some hs
    refine o_loc (F := [(2000016, .row 72 2 0 (List.map enc_Entry v1))]) (F' := [(2000016, .row 72 2 0 (List.map enc_Entry v1))]) (v := .int .i64 y1) [2000016] (by kernel_rfl) (by kernel_rfl) rfl (by kernel_rfl) (loc_gcallB (vs := [.agg [.nils, .nils, .nils, .nils, .nils, .nils, .nils, .int .i64 0], .sl 2 2000016 ((v1).length) 0 ((v1).length), .nils, .agg (enc_Expr f.Body)]) (R := [(2000016, .row 72 2 0 (List.map enc_Entry v1))]) (callV_func hbv37 (by kernel_rfl)) (w_expr_Eval (Plan.mk [] [] [] [] [] [] [] 0) v1 [] f.Body _ c1) (.cons (.agg (.cons (.nils _) (.cons (.nils _) (.cons (.nils _) (.cons (.nils _) (.cons (.nils _) (.cons (.nils _) (.cons (.nils _) (.cons (.same _) (.nil)))))))))) (.cons (.row (t := 72) (fz := 0) (by kernel_rfl) (by first | (simp only [List.length_map, List.length_set]; done) | rfl)) (.cons (.nils _) (.cons (.same _) (.nil))))) (by kernel_rfl) (by kernel_rfl) (by kernel_rfl)) (by kernel_rfl) ?_
    refine o_runs 1 [(4, .int .i64 y1)] (by kernel_rfl) ?_
    refine ov_nil ?_
    refine nrm_thenV ?_
    refine v_ret ?_
    obtain rfl := Option.some.inj hs
    exact fin_ret (by kernel_rfl) (by kernel_rfl) (by kernel_rfl)
theorem w_reopen_Make (base : (List Fact)) (f : Formula) (r : Formula × Int) (hs : s_reopen_Make base f = some r) : FnA Try.prog 11 [.vs 5 (List.map enc_Fact base), .agg (enc_Formula f)] [] (.tup [.agg (enc_Formula r.1), .int .i64 r.2]) [] := by
  refine fnA_of_wp (N := 27) Try.func11 rfl rfl rfl fun cK0 => ?_
  unfold s_reopen_Make at hs
  refine v_same (ρ' := [(0, .vs 5 (List.map enc_Fact base)), (1, .agg (enc_Formula f))]) rfl rfl ?_
  refine v_seq ?_
  refine vr_text ?_
  refine o_runh 3 [(5, .int .i64 0), (4, .ptr 4 0 0), (3, .ptr 3 0 0)] [(4, .box 35 [.int .i64 0, .int .i64 0, .int .i64 0, .int .i64 0, .int .i64 0, .str [], .str [], .nils, .int .i64 0, .nils]), (3, .box 35 [.int .i64 f.Id, .int .i64 f.Day, .int .i64 f.Known, .int .i64 f.Body.Op, .int .i64 f.Body.N, .str f.Body.S, .str f.Body.Key, .vs 5 (encs_Expr f.Body.Args), .int .i64 f.Result, .vs 4 (List.map enc_Asked f.Asked)])] (by kernel_rfl) ?_
  refine ov_nil ?_
  refine nrm_thenV ?_
  refine v_seq ?_
  refine v_seq ?_
  obtain ⟨z1, hs, hk1⟩ := bind_some hs
  refine v_join (S := Bool) (fun u => u = z1) (fun u => [(0, .vs 5 (List.map enc_Fact base)), (3, .ptr 3 0 0), (4, .ptr 4 0 0), (13, .bool u)]) (fun u => [(4, .box 35 [.int .i64 0, .int .i64 0, .int .i64 0, .int .i64 0, .int .i64 0, .str [], .str [], .nils, .int .i64 0, .nils]), (3, .box 35 [.int .i64 f.Id, .int .i64 f.Day, .int .i64 f.Known, .int .i64 f.Body.Op, .int .i64 f.Body.N, .str f.Body.S, .str f.Body.Key, .vs 5 (encs_Expr f.Body.Args), .int .i64 f.Result, .vs 4 (List.map enc_Asked f.Asked)])]) ?_ (fun v1 hz => ?_)
  · refine vr_text ?_
    refine o_runs 1 [(6, .vs 5 (List.map enc_Fact base))] (by kernel_rfl) ?_
    obtain ⟨y1, c1, hs⟩ := bind_some hs
    refine o_pure (v := .bool y1) (by kernel_rfl) (by kernel_rfl) (loc_gcall0 (callV_func hbv23 (by kernel_rfl)) (w_fact_Right base _ c1) (by kernel_rfl)) ?_
    refine o_runs 2 [(9, .bool (!y1)), (8, .bool (!y1))] (by kernel_rfl) ?_
    cases h1 : ((!y1))
    · replace hs := bif_f h1 hs
      refine o_runs 1 [(10, .agg (enc_Formula f))] (by kernel_rfl) ?_
      obtain ⟨y2, c2, hs⟩ := bind_some hs
      refine o_pure (v := .bool y2) (by kernel_rfl) (by kernel_rfl) (loc_gcall0 (callV_func hbv26 (by kernel_rfl)) (w_reopen_Right f _ c2) (by kernel_rfl)) ?_
      refine o_runs 2 [(13, .bool (!y2)), (12, .bool (!y2))] (by kernel_rfl) ?_
      refine ov_nil ?_
      obtain rfl := Option.some.inj hs
      refine nrm_join (!y2) rfl ?_
      exact cut_of [0, 3, 4, 13] [4, 3] (by kernel_rfl) (by kernel_rfl) (by kernel_rfl)
    · replace hs := bif_t h1 hs
      refine o_runs 4 [(13, .bool true), (12, .no), (11, .no), (10, .no)] (by kernel_rfl) ?_
      refine ov_nil ?_
      obtain rfl := Option.some.inj hs
      refine nrm_join true rfl ?_
      exact cut_of [0, 3, 4, 13] [4, 3] (by kernel_rfl) (by kernel_rfl) (by kernel_rfl)
  · subst hz; clear hs; have hs := hk1; clear hk1
    refine nrm_thenV ?_
    refine v_cond v1 (by kernel_rfl) (fun h2 => ?_) (fun h2 => ?_)
    · replace hs := bif_t h2 hs
      refine v_seq ?_
      refine vr_text ?_
      refine o_runh 3 [(5, .int .i64 1), (14, .agg [.int .i64 0, .int .i64 0, .int .i64 0, .int .i64 0, .int .i64 0, .str [], .str [], .nils, .int .i64 0, .nils])] [(4, .box 35 [.int .i64 0, .int .i64 0, .int .i64 0, .int .i64 0, .int .i64 0, .str [], .str [], .nils, .int .i64 0, .nils]), (3, .box 35 [.int .i64 f.Id, .int .i64 f.Day, .int .i64 f.Known, .int .i64 f.Body.Op, .int .i64 f.Body.N, .str f.Body.S, .str f.Body.Key, .vs 5 (encs_Expr f.Body.Args), .int .i64 f.Result, .vs 4 (List.map enc_Asked f.Asked)])] (by kernel_rfl) ?_
      refine ov_nil ?_
      refine nrm_thenV ?_
      refine v_to _ [(4, .box 35 [.int .i64 0, .int .i64 0, .int .i64 0, .int .i64 0, .int .i64 0, .str [], .str [], .vs 5 (encs_Expr []), .int .i64 0, .vs 4 (List.map enc_Asked [])]), (3, .box 35 [.int .i64 f.Id, .int .i64 f.Day, .int .i64 f.Known, .int .i64 f.Body.Op, .int .i64 f.Body.N, .str f.Body.S, .str f.Body.Key, .vs 5 (encs_Expr f.Body.Args), .int .i64 f.Result, .vs 4 (List.map enc_Asked f.Asked)])] (cut_box (k := 4) (t := 35) (cs := [.int .i64 0, .int .i64 0, .int .i64 0, .int .i64 0, .int .i64 0, .str [], .str [], .nils, .int .i64 0, .nils]) (cs' := [.int .i64 0, .int .i64 0, .int .i64 0, .int .i64 0, .int .i64 0, .str [], .str [], .vs 5 (encs_Expr []), .int .i64 0, .vs 4 (List.map enc_Asked [])]) [] [] (by kernel_rfl) (by kernel_rfl) (by kernel_rfl) (.cons (.same _) (.cons (.same _) (.cons (.same _) (.cons (.same _) (.cons (.same _) (.cons (.same _) (.cons (.same _) (.cons (.nils 5) (.cons (.same _) (.cons (.nils 4) (.nil))))))))))) (by kernel_rfl)) ?_
      refine v_ret ?_
      refine ret_thenV ?_
      obtain rfl := Option.some.inj hs
      exact fin_ret (by kernel_rfl) (by kernel_rfl) (by kernel_rfl)
    · replace hs := bif_f h2 hs
      refine v_skip ?_
      refine nrm_thenV ?_
      refine v_seq ?_
      refine vr_text ?_
      refine o_runs 4 [(18, .int .i64 f.Known), (17, .ptr 3 0 2), (16, .agg (enc_Formula f)), (15, .vs 5 (List.map enc_Fact base))] (by kernel_rfl) ?_
      obtain ⟨y3, c3, hs⟩ := bind_some hs
      refine o_pure (v := .vs 4 (List.map enc_Asked y3)) (by kernel_rfl) (by kernel_rfl) (loc_gcall0 (callV_func hbv28 (by kernel_rfl)) (w_reopen_Ask base f f.Known _ c3) (by kernel_rfl)) ?_
      refine o_runh 2 [(20, .ptr 3 0 9)] [(4, .box 35 [.int .i64 0, .int .i64 0, .int .i64 0, .int .i64 0, .int .i64 0, .str [], .str [], .nils, .int .i64 0, .nils]), (3, .box 35 [.int .i64 f.Id, .int .i64 f.Day, .int .i64 f.Known, .int .i64 f.Body.Op, .int .i64 f.Body.N, .str f.Body.S, .str f.Body.Key, .vs 5 (encs_Expr f.Body.Args), .int .i64 f.Result, .vs 4 (List.map enc_Asked y3)])] (by kernel_rfl) ?_
      refine ov_nil ?_
      refine nrm_thenV ?_
      refine v_seq ?_
      refine vr_text ?_
      refine o_runs 3 [(23, .vs 4 (List.map enc_Asked y3)), (22, .ptr 3 0 9), (21, .agg [.int .i64 f.Id, .int .i64 f.Day, .int .i64 f.Known, .int .i64 f.Body.Op, .int .i64 f.Body.N, .str f.Body.S, .str f.Body.Key, .vs 5 (encs_Expr f.Body.Args), .int .i64 f.Result, .vs 4 (List.map enc_Asked y3)])] (by kernel_rfl) ?_
      obtain ⟨y4, c4, hs⟩ := bind_some hs
      refine o_pure (v := .int .i64 y4) (by kernel_rfl) (by kernel_rfl) (loc_gcall0 (callV_func hbv27 (by kernel_rfl)) (w_reopen_value (Formula.mk f.Id f.Day f.Known f.Body f.Result y3) y3 _ c4) (by kernel_rfl)) ?_
      refine o_runh 2 [(25, .ptr 3 0 8)] [(4, .box 35 [.int .i64 0, .int .i64 0, .int .i64 0, .int .i64 0, .int .i64 0, .str [], .str [], .nils, .int .i64 0, .nils]), (3, .box 35 [.int .i64 f.Id, .int .i64 f.Day, .int .i64 f.Known, .int .i64 f.Body.Op, .int .i64 f.Body.N, .str f.Body.S, .str f.Body.Key, .vs 5 (encs_Expr f.Body.Args), .int .i64 y4, .vs 4 (List.map enc_Asked y3)])] (by kernel_rfl) ?_
      refine ov_nil ?_
      refine nrm_thenV ?_
      refine v_seq ?_
      refine vr_text ?_
      refine o_runh 3 [(5, .int .i64 0), (26, .agg [.int .i64 f.Id, .int .i64 f.Day, .int .i64 f.Known, .int .i64 f.Body.Op, .int .i64 f.Body.N, .str f.Body.S, .str f.Body.Key, .vs 5 (encs_Expr f.Body.Args), .int .i64 y4, .vs 4 (List.map enc_Asked y3)])] [(4, .box 35 [.int .i64 f.Id, .int .i64 f.Day, .int .i64 f.Known, .int .i64 f.Body.Op, .int .i64 f.Body.N, .str f.Body.S, .str f.Body.Key, .vs 5 (encs_Expr f.Body.Args), .int .i64 y4, .vs 4 (List.map enc_Asked y3)]), (3, .box 35 [.int .i64 f.Id, .int .i64 f.Day, .int .i64 f.Known, .int .i64 f.Body.Op, .int .i64 f.Body.N, .str f.Body.S, .str f.Body.Key, .vs 5 (encs_Expr f.Body.Args), .int .i64 y4, .vs 4 (List.map enc_Asked y3)])] (by kernel_rfl) ?_
      refine ov_nil ?_
      refine nrm_thenV ?_
      refine v_ret ?_
      obtain rfl := Option.some.inj hs
      exact fin_ret (by kernel_rfl) (by kernel_rfl) (by kernel_rfl)
theorem w_reopen_Make_2 (base : (List Fact)) (f_Id : Int) (f_Day : Int) (f_Known : Int) (f_Body_Op : Int) (f_Body_N : Int) (f_Body_S : (List UInt8)) (f_Body_Key : (List UInt8)) (f_Body_Args : (List Expr)) (f_Result : Int) (f_Asked : (List Asked)) (r : Formula × Int) (hs : s_reopen_Make_2 base f_Id f_Day f_Known f_Body_Op f_Body_N f_Body_S f_Body_Key f_Body_Args f_Result f_Asked = some r) : FnA Try.prog 11 [.vs 5 (List.map enc_Fact base), .agg [.int .i64 f_Id, .int .i64 f_Day, .int .i64 f_Known, .int .i64 f_Body_Op, .int .i64 f_Body_N, .str f_Body_S, .str f_Body_Key, .vs 5 (encs_Expr f_Body_Args), .int .i64 f_Result, .vs 4 (List.map enc_Asked f_Asked)]] [] (.tup [.agg (enc_Formula r.1), .int .i64 r.2]) [] := by
  refine fnA_of_wp (N := 27) Try.func11 rfl rfl rfl fun cK0 => ?_
  unfold s_reopen_Make_2 at hs
  refine v_same (ρ' := [(0, .vs 5 (List.map enc_Fact base)), (1, .agg [.int .i64 f_Id, .int .i64 f_Day, .int .i64 f_Known, .int .i64 f_Body_Op, .int .i64 f_Body_N, .str f_Body_S, .str f_Body_Key, .vs 5 (encs_Expr f_Body_Args), .int .i64 f_Result, .vs 4 (List.map enc_Asked f_Asked)])]) rfl rfl ?_
  refine v_seq ?_
  refine vr_text ?_
  refine o_runh 3 [(5, .int .i64 0), (4, .ptr 4 0 0), (3, .ptr 3 0 0)] [(4, .box 35 [.int .i64 0, .int .i64 0, .int .i64 0, .int .i64 0, .int .i64 0, .str [], .str [], .nils, .int .i64 0, .nils]), (3, .box 35 [.int .i64 f_Id, .int .i64 f_Day, .int .i64 f_Known, .int .i64 f_Body_Op, .int .i64 f_Body_N, .str f_Body_S, .str f_Body_Key, .vs 5 (encs_Expr f_Body_Args), .int .i64 f_Result, .vs 4 (List.map enc_Asked f_Asked)])] (by kernel_rfl) ?_
  refine ov_nil ?_
  refine nrm_thenV ?_
  refine v_seq ?_
  refine v_seq ?_
  obtain ⟨z1, hs, hk1⟩ := bind_some hs
  refine v_join (S := Bool) (fun u => u = z1) (fun u => [(0, .vs 5 (List.map enc_Fact base)), (3, .ptr 3 0 0), (4, .ptr 4 0 0), (13, .bool u)]) (fun u => [(4, .box 35 [.int .i64 0, .int .i64 0, .int .i64 0, .int .i64 0, .int .i64 0, .str [], .str [], .nils, .int .i64 0, .nils]), (3, .box 35 [.int .i64 f_Id, .int .i64 f_Day, .int .i64 f_Known, .int .i64 f_Body_Op, .int .i64 f_Body_N, .str f_Body_S, .str f_Body_Key, .vs 5 (encs_Expr f_Body_Args), .int .i64 f_Result, .vs 4 (List.map enc_Asked f_Asked)])]) ?_ (fun v1 hz => ?_)
  · refine vr_text ?_
    refine o_runs 1 [(6, .vs 5 (List.map enc_Fact base))] (by kernel_rfl) ?_
    obtain ⟨y1, c1, hs⟩ := bind_some hs
    refine o_pure (v := .bool y1) (by kernel_rfl) (by kernel_rfl) (loc_gcall0 (callV_func hbv23 (by kernel_rfl)) (w_fact_Right base _ c1) (by kernel_rfl)) ?_
    refine o_runs 2 [(9, .bool (!y1)), (8, .bool (!y1))] (by kernel_rfl) ?_
    cases h1 : ((!y1))
    · replace hs := bif_f h1 hs
      refine o_runs 1 [(10, .agg [.int .i64 f_Id, .int .i64 f_Day, .int .i64 f_Known, .int .i64 f_Body_Op, .int .i64 f_Body_N, .str f_Body_S, .str f_Body_Key, .vs 5 (encs_Expr f_Body_Args), .int .i64 f_Result, .vs 4 (List.map enc_Asked f_Asked)])] (by kernel_rfl) ?_
      obtain ⟨y2, c2, hs⟩ := bind_some hs
      refine o_pure (v := .bool y2) (by kernel_rfl) (by kernel_rfl) (loc_gcall0 (callV_func hbv26 (by kernel_rfl)) (w_reopen_Right (Formula.mk f_Id f_Day f_Known (Expr.mk f_Body_Op f_Body_N f_Body_S f_Body_Key f_Body_Args) f_Result f_Asked) _ c2) (by kernel_rfl)) ?_
      refine o_runs 2 [(13, .bool (!y2)), (12, .bool (!y2))] (by kernel_rfl) ?_
      refine ov_nil ?_
      obtain rfl := Option.some.inj hs
      refine nrm_join (!y2) rfl ?_
      exact cut_of [0, 3, 4, 13] [4, 3] (by kernel_rfl) (by kernel_rfl) (by kernel_rfl)
    · replace hs := bif_t h1 hs
      refine o_runs 4 [(13, .bool true), (12, .no), (11, .no), (10, .no)] (by kernel_rfl) ?_
      refine ov_nil ?_
      obtain rfl := Option.some.inj hs
      refine nrm_join true rfl ?_
      exact cut_of [0, 3, 4, 13] [4, 3] (by kernel_rfl) (by kernel_rfl) (by kernel_rfl)
  · subst hz; clear hs; have hs := hk1; clear hk1
    refine nrm_thenV ?_
    refine v_cond v1 (by kernel_rfl) (fun h2 => ?_) (fun h2 => ?_)
    · replace hs := bif_t h2 hs
      refine v_seq ?_
      refine vr_text ?_
      refine o_runh 3 [(5, .int .i64 1), (14, .agg [.int .i64 0, .int .i64 0, .int .i64 0, .int .i64 0, .int .i64 0, .str [], .str [], .nils, .int .i64 0, .nils])] [(4, .box 35 [.int .i64 0, .int .i64 0, .int .i64 0, .int .i64 0, .int .i64 0, .str [], .str [], .nils, .int .i64 0, .nils]), (3, .box 35 [.int .i64 f_Id, .int .i64 f_Day, .int .i64 f_Known, .int .i64 f_Body_Op, .int .i64 f_Body_N, .str f_Body_S, .str f_Body_Key, .vs 5 (encs_Expr f_Body_Args), .int .i64 f_Result, .vs 4 (List.map enc_Asked f_Asked)])] (by kernel_rfl) ?_
      refine ov_nil ?_
      refine nrm_thenV ?_
      refine v_to _ [(4, .box 35 [.int .i64 0, .int .i64 0, .int .i64 0, .int .i64 0, .int .i64 0, .str [], .str [], .vs 5 (encs_Expr []), .int .i64 0, .vs 4 (List.map enc_Asked [])]), (3, .box 35 [.int .i64 f_Id, .int .i64 f_Day, .int .i64 f_Known, .int .i64 f_Body_Op, .int .i64 f_Body_N, .str f_Body_S, .str f_Body_Key, .vs 5 (encs_Expr f_Body_Args), .int .i64 f_Result, .vs 4 (List.map enc_Asked f_Asked)])] (cut_box (k := 4) (t := 35) (cs := [.int .i64 0, .int .i64 0, .int .i64 0, .int .i64 0, .int .i64 0, .str [], .str [], .nils, .int .i64 0, .nils]) (cs' := [.int .i64 0, .int .i64 0, .int .i64 0, .int .i64 0, .int .i64 0, .str [], .str [], .vs 5 (encs_Expr []), .int .i64 0, .vs 4 (List.map enc_Asked [])]) [] [] (by kernel_rfl) (by kernel_rfl) (by kernel_rfl) (.cons (.same _) (.cons (.same _) (.cons (.same _) (.cons (.same _) (.cons (.same _) (.cons (.same _) (.cons (.same _) (.cons (.nils 5) (.cons (.same _) (.cons (.nils 4) (.nil))))))))))) (by kernel_rfl)) ?_
      refine v_ret ?_
      refine ret_thenV ?_
      obtain rfl := Option.some.inj hs
      exact fin_ret (by kernel_rfl) (by kernel_rfl) (by kernel_rfl)
    · replace hs := bif_f h2 hs
      refine v_skip ?_
      refine nrm_thenV ?_
      refine v_seq ?_
      refine vr_text ?_
      refine o_runs 4 [(18, .int .i64 f_Known), (17, .ptr 3 0 2), (16, .agg [.int .i64 f_Id, .int .i64 f_Day, .int .i64 f_Known, .int .i64 f_Body_Op, .int .i64 f_Body_N, .str f_Body_S, .str f_Body_Key, .vs 5 (encs_Expr f_Body_Args), .int .i64 f_Result, .vs 4 (List.map enc_Asked f_Asked)]), (15, .vs 5 (List.map enc_Fact base))] (by kernel_rfl) ?_
      obtain ⟨y3, c3, hs⟩ := bind_some hs
      refine o_pure (v := .vs 4 (List.map enc_Asked y3)) (by kernel_rfl) (by kernel_rfl) (loc_gcall0 (callV_func hbv28 (by kernel_rfl)) (w_reopen_Ask base (Formula.mk f_Id f_Day f_Known (Expr.mk f_Body_Op f_Body_N f_Body_S f_Body_Key f_Body_Args) f_Result f_Asked) f_Known _ c3) (by kernel_rfl)) ?_
      refine o_runh 2 [(20, .ptr 3 0 9)] [(4, .box 35 [.int .i64 0, .int .i64 0, .int .i64 0, .int .i64 0, .int .i64 0, .str [], .str [], .nils, .int .i64 0, .nils]), (3, .box 35 [.int .i64 f_Id, .int .i64 f_Day, .int .i64 f_Known, .int .i64 f_Body_Op, .int .i64 f_Body_N, .str f_Body_S, .str f_Body_Key, .vs 5 (encs_Expr f_Body_Args), .int .i64 f_Result, .vs 4 (List.map enc_Asked y3)])] (by kernel_rfl) ?_
      refine ov_nil ?_
      refine nrm_thenV ?_
      refine v_seq ?_
      refine vr_text ?_
      refine o_runs 3 [(23, .vs 4 (List.map enc_Asked y3)), (22, .ptr 3 0 9), (21, .agg [.int .i64 f_Id, .int .i64 f_Day, .int .i64 f_Known, .int .i64 f_Body_Op, .int .i64 f_Body_N, .str f_Body_S, .str f_Body_Key, .vs 5 (encs_Expr f_Body_Args), .int .i64 f_Result, .vs 4 (List.map enc_Asked y3)])] (by kernel_rfl) ?_
      obtain ⟨y4, c4, hs⟩ := bind_some hs
      refine o_pure (v := .int .i64 y4) (by kernel_rfl) (by kernel_rfl) (loc_gcall0 (callV_func hbv27 (by kernel_rfl)) (w_reopen_value (Formula.mk f_Id f_Day f_Known (Expr.mk f_Body_Op f_Body_N f_Body_S f_Body_Key f_Body_Args) f_Result y3) y3 _ c4) (by kernel_rfl)) ?_
      refine o_runh 2 [(25, .ptr 3 0 8)] [(4, .box 35 [.int .i64 0, .int .i64 0, .int .i64 0, .int .i64 0, .int .i64 0, .str [], .str [], .nils, .int .i64 0, .nils]), (3, .box 35 [.int .i64 f_Id, .int .i64 f_Day, .int .i64 f_Known, .int .i64 f_Body_Op, .int .i64 f_Body_N, .str f_Body_S, .str f_Body_Key, .vs 5 (encs_Expr f_Body_Args), .int .i64 y4, .vs 4 (List.map enc_Asked y3)])] (by kernel_rfl) ?_
      refine ov_nil ?_
      refine nrm_thenV ?_
      refine v_seq ?_
      refine vr_text ?_
      refine o_runh 3 [(5, .int .i64 0), (26, .agg [.int .i64 f_Id, .int .i64 f_Day, .int .i64 f_Known, .int .i64 f_Body_Op, .int .i64 f_Body_N, .str f_Body_S, .str f_Body_Key, .vs 5 (encs_Expr f_Body_Args), .int .i64 y4, .vs 4 (List.map enc_Asked y3)])] [(4, .box 35 [.int .i64 f_Id, .int .i64 f_Day, .int .i64 f_Known, .int .i64 f_Body_Op, .int .i64 f_Body_N, .str f_Body_S, .str f_Body_Key, .vs 5 (encs_Expr f_Body_Args), .int .i64 y4, .vs 4 (List.map enc_Asked y3)]), (3, .box 35 [.int .i64 f_Id, .int .i64 f_Day, .int .i64 f_Known, .int .i64 f_Body_Op, .int .i64 f_Body_N, .str f_Body_S, .str f_Body_Key, .vs 5 (encs_Expr f_Body_Args), .int .i64 y4, .vs 4 (List.map enc_Asked y3)])] (by kernel_rfl) ?_
      refine ov_nil ?_
      refine nrm_thenV ?_
      refine v_ret ?_
      obtain rfl := Option.some.inj hs
      exact fin_ret (by kernel_rfl) (by kernel_rfl) (by kernel_rfl)
theorem w_greenbeltref45_SameAsked (a : (List Asked)) (b : (List Asked)) (r : Bool) (hs : s_greenbeltref45_SameAsked a b = some r) : FnA Try.prog 13 [.vs 4 (List.map enc_Asked a), .vs 4 (List.map enc_Asked b)] [] (.bool r) [] := by
  refine fnA_of_wp (N := 26) Try.func13 rfl rfl rfl fun cK0 => ?_
  unfold s_greenbeltref45_SameAsked at hs
  refine v_same (ρ' := [(0, .vs 4 (List.map enc_Asked a)), (1, .vs 4 (List.map enc_Asked b))]) rfl rfl ?_
  refine v_seq ?_
  refine vr_text ?_
  refine o_runs 1 [(4, .bool false)] (by kernel_rfl) ?_
  refine ov_nil ?_
  refine nrm_thenV ?_
  refine v_seq ?_
  refine v_seq ?_
  refine vr_text ?_
  refine o_runs 1 [(6, .vs 4 (List.map enc_Asked a))] (by kernel_rfl) ?_
  refine o_pure (v := .int .i64 (List.length a : Int)) (by kernel_rfl) (by kernel_rfl) (loc_lenVs (sz := 4) (els := (List.map enc_Asked a)) (by kernel_rfl) (by kernel_rfl) (List.length_map ..)) ?_
  refine o_runs 1 [(8, .vs 4 (List.map enc_Asked b))] (by kernel_rfl) ?_
  refine o_pure (v := .int .i64 (List.length b : Int)) (by kernel_rfl) (by kernel_rfl) (loc_lenVs (sz := 4) (els := (List.map enc_Asked b)) (by kernel_rfl) (by kernel_rfl) (List.length_map ..)) ?_
  refine o_runs 1 [(10, .bool (!(decide ((List.length a : Int) = (List.length b : Int)))))] (by kernel_rfl) ?_
  refine ov_nil ?_
  refine nrm_thenV ?_
  refine v_cond (!(decide ((List.length a : Int) = (List.length b : Int)))) (by kernel_rfl) (fun h1 => ?_) (fun h1 => ?_)
  · replace hs := bif_t h1 hs
    refine v_seq ?_
    refine vr_text ?_
    refine o_runs 1 [(4, .bool false)] (by kernel_rfl) ?_
    refine ov_nil ?_
    refine nrm_thenV ?_
    refine v_ret ?_
    refine ret_thenV ?_
    obtain rfl := Option.some.inj hs
    exact fin_ret (by kernel_rfl) (by kernel_rfl) (by kernel_rfl)
  · replace hs := bif_f h1 hs
    refine v_skip ?_
    refine nrm_thenV ?_
    refine v_seq ?_
    refine v_seq ?_
    refine vr_text ?_
    refine o_runs 1 [(5, .int .i64 0)] (by kernel_rfl) ?_
    refine ov_nil ?_
    refine nrm_thenV ?_
    obtain ⟨z1, hs, hk1⟩ := bind_some hs
    refine v_join (S := Unit) (fun u => z1 = .inr u) (fun u => []) (fun u => []) ?_ (fun v1 hz => ?_)
    · refine v_block ?_
      refine v_fuel (S := Int) (fun u => [(0, .vs 4 (List.map enc_Asked a)), (1, .vs 4 (List.map enc_Asked b)), (5, .int .i64 u)]) (fun u => []) (s_greenbeltref45_SameAsked_L1 a b) (fun _ => rfl) KK 0 hs (cut_of [0, 1, 5] [] (by kernel_rfl) (by kernel_rfl) (by kernel_rfl)) (fun K1 q1 hs => ?_)
      rw [s_greenbeltref45_SameAsked_L1] at hs
      show WpV cK0 Try.prog none 26 _ _ [(0, .vs 4 (List.map enc_Asked a)), (1, .vs 4 (List.map enc_Asked b)), (5, .int .i64 q1)] [] []
      refine v_seq ?_
      refine v_seq ?_
      refine vr_text ?_
      refine o_runs 2 [(12, .vs 4 (List.map enc_Asked a)), (11, .int .i64 q1)] (by kernel_rfl) ?_
      refine o_pure (v := .int .i64 (List.length a : Int)) (by kernel_rfl) (by kernel_rfl) (loc_lenVs (sz := 4) (els := (List.map enc_Asked a)) (by kernel_rfl) (by kernel_rfl) (List.length_map ..)) ?_
      refine o_runs 1 [(14, .bool (decide (q1 < (List.length a : Int))))] (by kernel_rfl) ?_
      refine ov_nil ?_
      refine nrm_thenV ?_
      refine v_cond (decide (q1 < (List.length a : Int))) (by kernel_rfl) (fun h2 => ?_) (fun h2 => ?_)
      · replace hs := bif_t h2 hs
        refine v_skip ?_
        refine nrm_thenV ?_
        refine v_seq ?_
        refine v_block ?_
        refine v_seq ?_
        refine v_draw mixedH (by kernel_rfl) ?_
        refine d_runs 2 0 [(18, .int .i64 q1), (17, .vs 4 (List.map enc_Asked a))] (pfp 2 1) (by kernel_rfl) (by kernel_rfl) ?_
        obtain ⟨x1, g1, hs⟩ := bind_some hs; obtain ⟨g1a, g1b, g1c⟩ := idx_some g1
        refine d_pure (v := .vp (enc_Asked x1) 0) 2 rfl rfl rfl rfl (by kernel_rfl) (by kernel_rfl) (loc_indexVs (e := 44) (sz := 4) (k := .i64) (els := (List.map enc_Asked a)) (cs := (enc_Asked x1)) (by kernel_rfl) (by kernel_rfl) (by kernel_rfl) g1a (by rw [g1c]; exact map_get _ (by omega))) ?_
        refine d_runs 3 3 [(22, .int .i64 q1), (21, .vs 4 (List.map enc_Asked b)), (20, .agg (enc_Asked x1))] (pfp 3 5) (by kernel_rfl) (by kernel_rfl) ?_
        obtain ⟨x2, g2, hs⟩ := bind_some hs; obtain ⟨g2a, g2b, g2c⟩ := idx_some g2
        refine d_pure (v := .vp (enc_Asked x2) 0) 6 rfl rfl rfl rfl (by kernel_rfl) (by kernel_rfl) (loc_indexVs (e := 44) (sz := 4) (k := .i64) (els := (List.map enc_Asked b)) (cs := (enc_Asked x2)) (by kernel_rfl) (by kernel_rfl) (by kernel_rfl) g2a (by rw [g2c]; exact map_get _ (by omega))) ?_
        refine d_runs 2 7 [(25, .bool (!(decide (x1.Key = x2.Key) && (decide (x1.Day = x2.Day) && (decide (x1.Value = x2.Value) && ((x1.There == x2.There))))))), (24, .agg (enc_Asked x2))] (pfp 2 8) (by kernel_rfl) (by kernel_rfl) ?_
        refine d_nil (by kernel_rfl) ?_
        refine nrm_thenV ?_
        refine v_cond (!(decide (x1.Key = x2.Key) && (decide (x1.Day = x2.Day) && (decide (x1.Value = x2.Value) && ((x1.There == x2.There)))))) (by kernel_rfl) (fun h3 => ?_) (fun h3 => ?_)
        · replace hs := bif_t h3 hs
          refine v_seq ?_
          refine vr_text ?_
          refine o_runs 1 [(4, .bool false)] (by kernel_rfl) ?_
          refine ov_nil ?_
          refine nrm_thenV ?_
          refine v_ret ?_
          refine ret_blkV ?_
          refine ret_thenV ?_
          refine ret_fuel ?_
          refine ret_blkV ?_
          refine ret_join ?_
          refine ret_thenV ?_
          obtain rfl := Option.some.inj hs
          replace hs := hk1
          obtain rfl := Option.some.inj hs
          exact fin_ret (by kernel_rfl) (by kernel_rfl) (by kernel_rfl)
        · replace hs := bif_f h3 hs
          refine v_skip ?_
          refine nrm_blkV ?_
          refine nrm_thenV ?_
          refine vr_text ?_
          refine o_runs 3 [(5, .int .i64 (w64 (q1 + 1))), (16, .int .i64 (w64 (q1 + 1))), (15, .int .i64 q1)] (by kernel_rfl) ?_
          refine ov_nil ?_
          refine nrm_fuel (w64 (q1 + 1)) hs ?_
          exact cut_of [0, 1, 5] [] (by kernel_rfl) (by kernel_rfl) (by kernel_rfl)
      · replace hs := bif_f h2 hs
        refine v_exit ?_
        refine exit_thenV ?_
        refine exit_fuel ?_
        refine exit_blkV ?_
        obtain rfl := Option.some.inj hs
        refine nrm_join () rfl ?_
        exact cut_of [] [] (by kernel_rfl) (by kernel_rfl) (by kernel_rfl)
    · subst hz; clear hs; have hs := hk1; clear hk1
      refine nrm_thenV ?_
      refine v_seq ?_
      refine vr_text ?_
      refine o_runs 1 [(4, .bool true)] (by kernel_rfl) ?_
      refine ov_nil ?_
      refine nrm_thenV ?_
      refine v_ret ?_
      obtain rfl := Option.some.inj hs
      exact fin_ret (by kernel_rfl) (by kernel_rfl) (by kernel_rfl)
theorem w_reopen_Reopened_1 (f : Formula) (a1 : (List Fact)) (a2 : Int) (r : Bool × (List Fact) × Int) (hs : s_reopen_Reopened_1 f a1 a2 = some r) : FnA Try.prog 25 [.agg (enc_Formula f), .ptr 1000000 0 0, .ptr 1000001 0 0] [(1000000, .box 22 [.vs 5 (List.map enc_Fact a1)]), (1000001, .box 3 [.int .i64 a2])] (.bool r.1) [(1000000, .box 22 [.vs 5 (List.map enc_Fact r.2.1)]), (1000001, .box 3 [.int .i64 r.2.2])] := by
  refine fnA_of_wp (N := 18) Try.func25 rfl rfl rfl fun cK0 => ?_
  unfold s_reopen_Reopened_1 at hs
  refine v_same (ρ' := [(0, .agg (enc_Formula f)), (1, .ptr 1000000 0 0), (2, .ptr 1000001 0 0)]) rfl rfl ?_
  refine v_seq ?_
  refine vr_text ?_
  refine o_runh 2 [(4, .bool false), (3, .ptr 3 0 0)] [(3, .box 35 [.int .i64 f.Id, .int .i64 f.Day, .int .i64 f.Known, .int .i64 f.Body.Op, .int .i64 f.Body.N, .str f.Body.S, .str f.Body.Key, .vs 5 (encs_Expr f.Body.Args), .int .i64 f.Result, .vs 4 (List.map enc_Asked f.Asked)]), (1000000, .box 22 [.vs 5 (List.map enc_Fact a1)]), (1000001, .box 3 [.int .i64 a2])] (by kernel_rfl) ?_
  refine ov_nil ?_
  refine nrm_thenV ?_
  refine v_seq ?_
  obtain ⟨z1, hs, hk1⟩ := bind_some hs
  refine v_join (S := Bool) (fun u => u = z1) (fun u => [(4, .bool u)]) (fun u => [(1000000, .box 22 [.vs 5 (List.map enc_Fact a1)]), (1000001, .box 3 [.int .i64 a2])]) ?_ (fun v1 hz => ?_)
  · refine v_draw mixedH (by kernel_rfl) ?_
    refine d_runs 1 0 [(5, .agg (enc_Formula f))] [⟨0, [], [3]⟩] (by kernel_rfl) (by kernel_rfl) ?_
    obtain ⟨y1, c1, hs⟩ := bind_some hs
    refine d_pure (v := .bool y1) 1 rfl rfl rfl rfl (by kernel_rfl) (by kernel_rfl) (loc_gcall0 (callV_func hbv26 (by kernel_rfl)) (w_reopen_Right f _ c1) (by kernel_rfl)) ?_
    refine d_runs 1 2 [(7, .bool y1)] (pfp 1 2) (by kernel_rfl) (by kernel_rfl) ?_
    cases h1 : (y1)
    · replace hs := bif_f h1 hs
      refine d_runs 11 3 [(4, .bool false), (17, .bool false), (16, .no), (15, .no), (14, .no), (13, .no), (12, .no), (11, .no), (10, .no), (9, .no), (8, .no)] (pfp 11 13) (by kernel_rfl) (by kernel_rfl) ?_
      refine d_nil (by kernel_rfl) ?_
      obtain rfl := Option.some.inj hs
      refine nrm_join false rfl ?_
      exact cut_of [4] [1000000, 1000001] (by kernel_rfl) (by kernel_rfl) (by kernel_rfl)
    · replace hs := bif_t h1 hs
      refine d_runs 4 3 [(11, .int .i64 a2), (10, .agg (enc_Formula f)), (9, .vs 5 (List.map enc_Fact a1)), (8, .agg (enc_Formula f))] [⟨6, [], [1000001]⟩, ⟨5, [], [3]⟩, ⟨4, [], [1000000]⟩, ⟨3, [], [3]⟩] (by kernel_rfl) (by kernel_rfl) ?_
      obtain ⟨y2, c2, hs⟩ := bind_some hs
      refine d_pure (v := .vs 4 (List.map enc_Asked y2)) 7 rfl rfl rfl rfl (by kernel_rfl) (by kernel_rfl) (loc_gcall0 (callV_func hbv28 (by kernel_rfl)) (w_reopen_Ask a1 f a2 _ c2) (by kernel_rfl)) ?_
      obtain ⟨y3, c3, hs⟩ := bind_some hs
      refine d_pure (v := .int .i64 y3) 8 rfl rfl rfl rfl (by kernel_rfl) (by kernel_rfl) (loc_gcall0 (callV_func hbv27 (by kernel_rfl)) (w_reopen_value f y2 _ c3) (by kernel_rfl)) ?_
      refine d_runs 5 9 [(4, .bool (!(decide (y3 = f.Result)))), (17, .bool (!(decide (y3 = f.Result)))), (16, .bool (!(decide (y3 = f.Result)))), (15, .int .i64 f.Result), (14, .ptr 3 0 8)] [⟨13, [], []⟩, ⟨12, [], []⟩, ⟨11, [], []⟩, ⟨10, [], [3]⟩, ⟨9, [], []⟩] (by kernel_rfl) (by kernel_rfl) ?_
      refine d_nil (by kernel_rfl) ?_
      obtain rfl := Option.some.inj hs
      refine nrm_join (!(decide (y3 = f.Result))) rfl ?_
      exact cut_of [4] [1000000, 1000001] (by kernel_rfl) (by kernel_rfl) (by kernel_rfl)
  · subst hz; clear hs; have hs := hk1; clear hk1
    refine nrm_thenV ?_
    refine v_ret ?_
    obtain rfl := Option.some.inj hs
    exact fin_ret (by kernel_rfl) (by kernel_rfl) (by kernel_rfl)
theorem w_reopen_which (l : (List Formula)) (c_1 : (List Fact)) (f : Int) (r : (List Int) × (List Fact) × Int) (hs : s_reopen_which l c_1 f = some r) : FnA Try.prog 24 [.vs 10 (List.map enc_Formula l), .fn 25 [] [.ptr 1000000 0 0, .ptr 1000001 0 0]] [(1000000, .box 22 [.vs 5 (List.map enc_Fact c_1)]), (1000001, .box 3 [.int .i64 f])] (.vs 1 (List.map EV.encI r.1)) [(1000000, .box 22 [.vs 5 (List.map enc_Fact r.2.1)]), (1000001, .box 3 [.int .i64 r.2.2])] := by
  refine fnA_of_wp (N := 24) Try.func24 rfl rfl rfl fun cK0 => ?_
  unfold s_reopen_which at hs
  refine v_same (ρ' := [(0, .vs 10 (List.map enc_Formula l)), (1, .fn 25 [] [.ptr 1000000 0 0, .ptr 1000001 0 0])]) rfl rfl ?_
  refine v_seq ?_
  refine vr_text ?_
  refine o_runs 1 [(4, .nils)] (by kernel_rfl) ?_
  refine ov_nil ?_
  refine nrm_thenV ?_
  refine v_seq ?_
  refine vr_text ?_
  refine o_runs 1 [(5, .nils)] (by kernel_rfl) ?_
  refine ov_nil ?_
  refine nrm_thenV ?_
  refine v_seq ?_
  refine v_seq ?_
  refine vr_text ?_
  refine o_runs 1 [(8, .vs 10 (List.map enc_Formula l))] (by kernel_rfl) ?_
  refine o_pure (v := .int .i64 (List.length l : Int)) (by kernel_rfl) (by kernel_rfl) (loc_lenVs (sz := 10) (els := (List.map enc_Formula l)) (by kernel_rfl) (by kernel_rfl) (List.length_map ..)) ?_
  refine o_runs 1 [(10, .int .i64 0)] (by kernel_rfl) ?_
  refine ov_nil ?_
  refine nrm_thenV ?_
  obtain ⟨z1, hs, hk1⟩ := bind_some hs
  refine v_join (S := (List Fact) × Int × (List Int)) (fun u => u = z1) (fun u => [(5, .sl 1 2000018 ((u.2.2).length) 0 ((u.2.2).length))]) (fun u => [(1000000, .box 22 [.vs 5 (List.map enc_Fact u.1)]), (1000001, .box 3 [.int .i64 u.2.1]), (2000018, .row 3 1 0 (List.map EV.encI u.2.2))]) ?_ (fun v1 hz => ?_)
  · refine v_block ?_
    refine v_fuel (S := Int × (List Fact) × Int × (List Int)) (fun u => [(1, .fn 25 [] [.ptr 1000000 0 0, .ptr 1000001 0 0]), (5, .sl 1 2000018 ((u.2.2.2).length) 0 ((u.2.2.2).length)), (8, .vs 10 (List.map enc_Formula l)), (9, .int .i64 (List.length l : Int)), (10, .int .i64 u.1)]) (fun u => [(1000000, .box 22 [.vs 5 (List.map enc_Fact u.2.1)]), (1000001, .box 3 [.int .i64 u.2.2.1]), (2000018, .row 3 1 0 (List.map EV.encI u.2.2.2))]) (s_reopen_which_L1 l) (fun _ => rfl) KK (0, c_1, f, []) hs (Cut.trans (cut_nilRow 5 2000018 3 1 rfl (by kernel_rfl) (by kernel_rfl)) (cut_of [1, 5, 8, 9, 10] [1000000, 1000001, 2000018] (by kernel_rfl) (by kernel_rfl) (by kernel_rfl))) (fun K1 q1 hs => ?_)
    rw [s_reopen_which_L1] at hs
    show WpV cK0 Try.prog none 24 _ _ [(1, .fn 25 [] [.ptr 1000000 0 0, .ptr 1000001 0 0]), (5, .sl 1 2000018 ((q1.2.2.2).length) 0 ((q1.2.2.2).length)), (8, .vs 10 (List.map enc_Formula l)), (9, .int .i64 (List.length l : Int)), (10, .int .i64 q1.1)] [(1000000, .box 22 [.vs 5 (List.map enc_Fact q1.2.1)]), (1000001, .box 3 [.int .i64 q1.2.2.1]), (2000018, .row 3 1 0 (List.map EV.encI q1.2.2.2))] []
    refine v_seq ?_
    refine vr_text ?_
    refine o_runs 1 [(11, .bool (decide (q1.1 < (List.length l : Int))))] (by kernel_rfl) ?_
    refine ov_nil ?_
    refine nrm_thenV ?_
    refine v_seq ?_
    refine v_cond (decide (q1.1 < (List.length l : Int))) (by kernel_rfl) (fun h1 => ?_) (fun h1 => ?_)
    · replace hs := bif_t h1 hs
      refine v_skip ?_
      refine nrm_thenV ?_
      refine v_seq ?_
      refine v_block ?_
      refine v_seq ?_
      refine vr_text ?_
      refine o_runs 1 [(12, .int .i64 q1.1)] (by kernel_rfl) ?_
      obtain ⟨x1, g1, hs⟩ := bind_some hs; obtain ⟨g1a, g1b, g1c⟩ := idx_some g1
      refine o_pure (v := .vp (enc_Formula x1) 0) (by kernel_rfl) (by kernel_rfl) (loc_indexVs (e := 35) (sz := 10) (k := .i64) (els := (List.map enc_Formula l)) (cs := (enc_Formula x1)) (by kernel_rfl) (by kernel_rfl) (by kernel_rfl) g1a (by rw [g1c]; exact map_get _ (by omega))) ?_
      refine o_runh 4 [(6, .int .i64 q1.1), (7, .ptr 7 0 0), (14, .agg (enc_Formula x1))] [(7, .box 35 [.int .i64 x1.Id, .int .i64 x1.Day, .int .i64 x1.Known, .int .i64 x1.Body.Op, .int .i64 x1.Body.N, .str x1.Body.S, .str x1.Body.Key, .vs 5 (encs_Expr x1.Body.Args), .int .i64 x1.Result, .vs 4 (List.map enc_Asked x1.Asked)]), (1000000, .box 22 [.vs 5 (List.map enc_Fact q1.2.1)]), (1000001, .box 3 [.int .i64 q1.2.2.1]), (2000018, .row 3 1 0 (List.map EV.encI q1.2.2.2))] (by kernel_rfl) ?_
      refine ov_nil ?_
      refine nrm_thenV ?_
      refine v_seq ?_
      refine vr_text ?_
      refine o_runs 2 [(16, .agg (enc_Formula x1)), (15, .fn 25 [] [.ptr 1000000 0 0, .ptr 1000001 0 0])] (by kernel_rfl) ?_
      obtain ⟨y1, c1, hs⟩ := bind_some hs
      refine o_loc (F := [(1000000, .box 22 [.vs 5 (List.map enc_Fact q1.2.1)]), (1000001, .box 3 [.int .i64 q1.2.2.1])]) (F' := [(1000000, .box 22 [.vs 5 (List.map enc_Fact y1.2.1)]), (1000001, .box 3 [.int .i64 y1.2.2])]) (v := .bool y1.1) [1000000, 1000001] (by kernel_rfl) (by kernel_rfl) rfl (by kernel_rfl) (loc_g (R := []) [.agg (enc_Formula x1), .ptr 1000000 0 0, .ptr 1000001 0 0] [(1000000, 1000000), (1000001, 1000001)] (callV_val (first := []) (caps := [.ptr 1000000 0 0, .ptr 1000001 0 0]) hbv25 (by kernel_rfl) (by kernel_rfl)) (w_reopen_Reopened_1 x1 q1.2.1 q1.2.2.1 _ c1) (.cons (.same _) (.cons (.same _) (.cons (.same _) (.nil)))) (by kernel_rfl) (by kernel_rfl) (by kernel_rfl) (by kernel_rfl) (by kernel_rfl) (by kernel_rfl) (by kernel_rfl) (by kernel_rfl)) (by kernel_rfl) ?_
      refine ov_nil ?_
      refine nrm_thenV ?_
      obtain ⟨z2, hs, hk2⟩ := bind_some hs
      refine v_join (S := (List Int)) (fun u => u = z2) (fun u => [(1, .fn 25 [] [.ptr 1000000 0 0, .ptr 1000001 0 0]), (5, .sl 1 2000018 ((u).length) 0 ((u).length)), (8, .vs 10 (List.map enc_Formula l)), (9, .int .i64 (List.length l : Int)), (10, .int .i64 q1.1)]) (fun u => [(2000018, .row 3 1 0 (List.map EV.encI u)), (1000000, .box 22 [.vs 5 (List.map enc_Fact y1.2.1)]), (1000001, .box 3 [.int .i64 y1.2.2])]) ?_ (fun v2 hz => ?_)
      · refine v_cond y1.1 (by kernel_rfl) (fun h2 => ?_) (fun h2 => ?_)
        · replace hs := bif_t h2 hs
          refine vr_text ?_
          refine o_runh 3 [(20, .sl 1 20 1 0 1), (19, .int .i64 q1.1), (18, .sl 1 2000018 ((q1.2.2.2).length) 0 ((q1.2.2.2).length))] [(20, .row 3 1 0 (List.map EV.encI [q1.1])), (1000000, .box 22 [.vs 5 (List.map enc_Fact y1.2.1)]), (1000001, .box 3 [.int .i64 y1.2.2]), (7, .box 35 [.int .i64 x1.Id, .int .i64 x1.Day, .int .i64 x1.Known, .int .i64 x1.Body.Op, .int .i64 x1.Body.N, .str x1.Body.S, .str x1.Body.Key, .vs 5 (encs_Expr x1.Body.Args), .int .i64 x1.Result, .vs 4 (List.map enc_Asked x1.Asked)]), (2000018, .row 3 1 0 (List.map EV.encI q1.2.2.2))] (by kernel_rfl) ?_
          obtain ⟨_, g2, hs⟩ := bind_some hs; replace g2 := grd_some g2
          refine o_loc (F := [(2000018, .row 3 1 0 (List.map EV.encI q1.2.2.2)), (20, .row 3 1 0 (List.map EV.encI [q1.1]))]) (F' := [(2000018, .row 3 1 0 (List.map EV.encI (q1.2.2.2 ++ [q1.1]))), (20, .row 3 1 0 (List.map EV.encI [q1.1]))]) (v := .sl 1 2000018 (((q1.2.2.2 ++ [q1.1])).length) 0 (((q1.2.2.2 ++ [q1.1])).length)) [2000018, 20] (by kernel_rfl) (by kernel_rfl) rfl (by kernel_rfl) (loc_appendT (e := 3) (sz := 1) (bytes := 8) (L := (q1.2.2.2).length) (els := (List.map EV.encI q1.2.2.2)) (ys := (List.map EV.encI [q1.1])) (by kernel_rfl) (by kernel_rfl) (by first | exact List.length_map .. | rfl) (.sl (t := 3) (fz := 0) (ys := (List.map EV.encI [q1.1])) (by kernel_rfl) (by kernel_rfl)) (map_ones EV.encI (fun _ => rfl) _) (map_lens EV.encI (fun _ => rfl) _) (by kernel_rfl) (by first | exact (List.map_append ..).symm | rfl | simp only [List.map_nil, List.nil_append]) (List.length_map ..) g2 (by omega)) (by kernel_rfl) ?_
          refine o_runs 1 [(5, .sl 1 2000018 (((q1.2.2.2 ++ [q1.1])).length) 0 (((q1.2.2.2 ++ [q1.1])).length))] (by kernel_rfl) ?_
          refine ov_nil ?_
          obtain rfl := Option.some.inj hs
          refine nrm_join (q1.2.2.2 ++ [q1.1]) rfl ?_
          exact cut_of [1, 5, 8, 9, 10] [2000018, 1000000, 1000001] (by kernel_rfl) (by kernel_rfl) (by kernel_rfl)
        · replace hs := bif_f h2 hs
          refine v_skip ?_
          obtain rfl := Option.some.inj hs
          refine nrm_join q1.2.2.2 rfl ?_
          exact cut_of [1, 5, 8, 9, 10] [2000018, 1000000, 1000001] (by kernel_rfl) (by kernel_rfl) (by kernel_rfl)
      · subst hz; clear hs; have hs := hk2; clear hk2
        refine nrm_blkV ?_
        refine nrm_thenV ?_
        refine vr_text ?_
        refine o_runs 2 [(10, .int .i64 (w64 (q1.1 + 1))), (22, .int .i64 (w64 (q1.1 + 1)))] (by kernel_rfl) ?_
        refine ov_nil ?_
        refine nrm_fuel ((w64 (q1.1 + 1)), y1.2.1, y1.2.2, v2) hs ?_
        exact cut_of [1, 5, 8, 9, 10] [1000000, 1000001, 2000018] (by kernel_rfl) (by kernel_rfl) (by kernel_rfl)
    · replace hs := bif_f h1 hs
      refine v_exit ?_
      refine exit_thenV ?_
      refine exit_fuel ?_
      refine exit_blkV ?_
      obtain rfl := Option.some.inj hs
      refine nrm_join (q1.2.1, q1.2.2.1, q1.2.2.2) rfl ?_
      exact cut_of [5] [1000000, 1000001, 2000018] (by kernel_rfl) (by kernel_rfl) (by kernel_rfl)
  · subst hz; clear hs; have hs := hk1; clear hk1
    refine nrm_thenV ?_
    refine v_seq ?_
    refine vr_text ?_
    refine o_runs 2 [(4, .sl 1 2000018 ((v1.2.2).length) 0 ((v1.2.2).length)), (23, .sl 1 2000018 ((v1.2.2).length) 0 ((v1.2.2).length))] (by kernel_rfl) ?_
    refine ov_nil ?_
    refine nrm_thenV ?_
    refine v_to _ [(2000018, .row 3 1 (((List.map EV.encI v1.2.2)).length) (List.map EV.encI v1.2.2)), (1000000, .box 22 [.vs 5 (List.map enc_Fact v1.1)]), (1000001, .box 3 [.int .i64 v1.2.1])] (cut_freeze (F := [(2000018, .row 3 1 0 (List.map EV.encI v1.2.2))]) [2000018] rfl (by kernel_rfl) (by kernel_rfl)) ?_
    refine v_to ((4, .vs 1 (List.map EV.encI v1.2.2)) :: _) _ (cut_view (R := [(2000018, .row 3 1 (((List.map EV.encI v1.2.2)).length) (List.map EV.encI v1.2.2))]) (ks := [2000018]) (by kernel_rfl) (by kernel_rfl) (.row (t := 3) (fz := (((List.map EV.encI v1.2.2)).length)) (by kernel_rfl) (by first | (simp only [List.length_map, List.length_set]; done) | rfl))) ?_
    refine v_ret ?_
    obtain rfl := Option.some.inj hs
    exact fin_ret (by kernel_rfl) (by kernel_rfl) (by kernel_rfl)
theorem w_reopen_Reopened (base : (List Fact)) (l : (List Formula)) (known : Int) (r : (List Int)) (hs : s_reopen_Reopened base l known = some r) : FnA Try.prog 9 [.vs 5 (List.map enc_Fact base), .vs 10 (List.map enc_Formula l), .int .i64 known] [] (.vs 1 (List.map EV.encI r)) [] := by
  refine fnA_of_wp (N := 13) Try.func9 rfl rfl rfl fun cK0 => ?_
  unfold s_reopen_Reopened at hs
  refine v_same (ρ' := [(0, .vs 5 (List.map enc_Fact base)), (1, .vs 10 (List.map enc_Formula l)), (2, .int .i64 known)]) rfl rfl ?_
  refine v_seq ?_
  refine vr_text ?_
  refine o_runh 3 [(6, .nils), (5, .ptr 5 0 0), (3, .ptr 3 0 0)] [(5, .box 3 [.int .i64 known]), (3, .box 22 [.vs 5 (List.map enc_Fact base)])] (by kernel_rfl) ?_
  refine ov_nil ?_
  refine nrm_thenV ?_
  refine v_seq ?_
  refine v_seq ?_
  refine vr_text ?_
  refine o_runs 1 [(7, .vs 5 (List.map enc_Fact base))] (by kernel_rfl) ?_
  obtain ⟨y1, c1, hs⟩ := bind_some hs
  refine o_pure (v := .bool y1) (by kernel_rfl) (by kernel_rfl) (loc_gcall0 (callV_func hbv23 (by kernel_rfl)) (w_fact_Right base _ c1) (by kernel_rfl)) ?_
  refine o_runs 1 [(9, .bool (!y1))] (by kernel_rfl) ?_
  refine ov_nil ?_
  refine nrm_thenV ?_
  refine v_cond (!y1) (by kernel_rfl) (fun h1 => ?_) (fun h1 => ?_)
  · replace hs := bif_t h1 hs
    refine v_seq ?_
    refine vr_text ?_
    refine o_runs 1 [(6, .nils)] (by kernel_rfl) ?_
    refine ov_nil ?_
    refine nrm_thenV ?_
    refine v_to ((6, .vs 1 (List.map EV.encI [])) :: _) _ (cut_view (R := []) (ks := []) (by kernel_rfl) (by kernel_rfl) (.nils 1)) ?_
    refine v_ret ?_
    refine ret_thenV ?_
    obtain rfl := Option.some.inj hs
    exact fin_ret (by kernel_rfl) (by kernel_rfl) (by kernel_rfl)
  · replace hs := bif_f h1 hs
    refine v_skip ?_
    refine nrm_thenV ?_
    refine v_seq ?_
    refine vr_text ?_
    refine o_runs 2 [(11, .fn 25 [] [.ptr 3 0 0, .ptr 5 0 0]), (10, .vs 10 (List.map enc_Formula l))] (by kernel_rfl) ?_
    obtain ⟨y2, c2, hs⟩ := bind_some hs
    refine o_loc (F := [(3, .box 22 [.vs 5 (List.map enc_Fact base)]), (5, .box 3 [.int .i64 known])]) (F' := [(3, .box 22 [.vs 5 (List.map enc_Fact y2.2.1)]), (5, .box 3 [.int .i64 y2.2.2])]) (v := .vs 1 (List.map EV.encI y2.1)) [3, 5] (by kernel_rfl) (by kernel_rfl) rfl (by kernel_rfl) (loc_g (R := []) [.vs 10 (List.map enc_Formula l), .fn 25 [] [.ptr 3 0 0, .ptr 5 0 0]] [(1000000, 3), (1000001, 5)] (callV_func hbv24 (by kernel_rfl)) (w_reopen_which l base known _ c2) (.cons (.same _) (.cons (.same _) (.nil))) (by kernel_rfl) (by kernel_rfl) (by kernel_rfl) (by kernel_rfl) (by kernel_rfl) (by kernel_rfl) (by kernel_rfl) (by kernel_rfl)) (by kernel_rfl) ?_
    refine o_runs 1 [(6, .vs 1 (List.map EV.encI y2.1))] (by kernel_rfl) ?_
    refine ov_nil ?_
    refine nrm_thenV ?_
    refine v_ret ?_
    obtain rfl := Option.some.inj hs
    exact fin_ret (by kernel_rfl) (by kernel_rfl) (by kernel_rfl)
theorem w_greenbeltref45_Ints (a : (List Int)) (b : (List Int)) (r : Bool) (hs : s_greenbeltref45_Ints a b = some r) : FnA Try.prog 17 [.vs 1 (List.map EV.encI a), .vs 1 (List.map EV.encI b)] [] (.bool r) [] := by
  refine fnA_of_wp (N := 26) Try.func17 rfl rfl rfl fun cK0 => ?_
  unfold s_greenbeltref45_Ints at hs
  refine v_same (ρ' := [(0, .vs 1 (List.map EV.encI a)), (1, .vs 1 (List.map EV.encI b))]) rfl rfl ?_
  refine v_seq ?_
  refine vr_text ?_
  refine o_runs 1 [(4, .bool false)] (by kernel_rfl) ?_
  refine ov_nil ?_
  refine nrm_thenV ?_
  refine v_seq ?_
  refine v_seq ?_
  refine vr_text ?_
  refine o_runs 1 [(6, .vs 1 (List.map EV.encI a))] (by kernel_rfl) ?_
  refine o_pure (v := .int .i64 (List.length a : Int)) (by kernel_rfl) (by kernel_rfl) (loc_lenVs (sz := 1) (els := (List.map EV.encI a)) (by kernel_rfl) (by kernel_rfl) (List.length_map ..)) ?_
  refine o_runs 1 [(8, .vs 1 (List.map EV.encI b))] (by kernel_rfl) ?_
  refine o_pure (v := .int .i64 (List.length b : Int)) (by kernel_rfl) (by kernel_rfl) (loc_lenVs (sz := 1) (els := (List.map EV.encI b)) (by kernel_rfl) (by kernel_rfl) (List.length_map ..)) ?_
  refine o_runs 1 [(10, .bool (!(decide ((List.length a : Int) = (List.length b : Int)))))] (by kernel_rfl) ?_
  refine ov_nil ?_
  refine nrm_thenV ?_
  refine v_cond (!(decide ((List.length a : Int) = (List.length b : Int)))) (by kernel_rfl) (fun h1 => ?_) (fun h1 => ?_)
  · replace hs := bif_t h1 hs
    refine v_seq ?_
    refine vr_text ?_
    refine o_runs 1 [(4, .bool false)] (by kernel_rfl) ?_
    refine ov_nil ?_
    refine nrm_thenV ?_
    refine v_ret ?_
    refine ret_thenV ?_
    obtain rfl := Option.some.inj hs
    exact fin_ret (by kernel_rfl) (by kernel_rfl) (by kernel_rfl)
  · replace hs := bif_f h1 hs
    refine v_skip ?_
    refine nrm_thenV ?_
    refine v_seq ?_
    refine v_seq ?_
    refine vr_text ?_
    refine o_runs 1 [(5, .int .i64 0)] (by kernel_rfl) ?_
    refine ov_nil ?_
    refine nrm_thenV ?_
    obtain ⟨z1, hs, hk1⟩ := bind_some hs
    refine v_join (S := Unit) (fun u => z1 = .inr u) (fun u => []) (fun u => []) ?_ (fun v1 hz => ?_)
    · refine v_block ?_
      refine v_fuel (S := Int) (fun u => [(0, .vs 1 (List.map EV.encI a)), (1, .vs 1 (List.map EV.encI b)), (5, .int .i64 u)]) (fun u => []) (s_greenbeltref45_Ints_L1 a b) (fun _ => rfl) KK 0 hs (cut_of [0, 1, 5] [] (by kernel_rfl) (by kernel_rfl) (by kernel_rfl)) (fun K1 q1 hs => ?_)
      rw [s_greenbeltref45_Ints_L1] at hs
      show WpV cK0 Try.prog none 26 _ _ [(0, .vs 1 (List.map EV.encI a)), (1, .vs 1 (List.map EV.encI b)), (5, .int .i64 q1)] [] []
      refine v_seq ?_
      refine v_seq ?_
      refine vr_text ?_
      refine o_runs 2 [(12, .vs 1 (List.map EV.encI a)), (11, .int .i64 q1)] (by kernel_rfl) ?_
      refine o_pure (v := .int .i64 (List.length a : Int)) (by kernel_rfl) (by kernel_rfl) (loc_lenVs (sz := 1) (els := (List.map EV.encI a)) (by kernel_rfl) (by kernel_rfl) (List.length_map ..)) ?_
      refine o_runs 1 [(14, .bool (decide (q1 < (List.length a : Int))))] (by kernel_rfl) ?_
      refine ov_nil ?_
      refine nrm_thenV ?_
      refine v_cond (decide (q1 < (List.length a : Int))) (by kernel_rfl) (fun h2 => ?_) (fun h2 => ?_)
      · replace hs := bif_t h2 hs
        refine v_skip ?_
        refine nrm_thenV ?_
        refine v_seq ?_
        refine v_block ?_
        refine v_seq ?_
        refine v_draw mixedH (by kernel_rfl) ?_
        refine d_runs 2 0 [(18, .int .i64 q1), (17, .vs 1 (List.map EV.encI a))] (pfp 2 1) (by kernel_rfl) (by kernel_rfl) ?_
        obtain ⟨x1, g1, hs⟩ := bind_some hs; obtain ⟨g1a, g1b, g1c⟩ := idx_some g1
        refine d_pure (v := .vp [.int .i64 x1] 0) 2 rfl rfl rfl rfl (by kernel_rfl) (by kernel_rfl) (loc_indexVs (e := 3) (sz := 1) (k := .i64) (els := (List.map EV.encI a)) (cs := (EV.encI x1)) (by kernel_rfl) (by kernel_rfl) (by kernel_rfl) g1a (by rw [g1c]; exact map_get _ (by omega))) ?_
        refine d_runs 3 3 [(22, .int .i64 q1), (21, .vs 1 (List.map EV.encI b)), (20, .int .i64 x1)] (pfp 3 5) (by kernel_rfl) (by kernel_rfl) ?_
        obtain ⟨x2, g2, hs⟩ := bind_some hs; obtain ⟨g2a, g2b, g2c⟩ := idx_some g2
        refine d_pure (v := .vp [.int .i64 x2] 0) 6 rfl rfl rfl rfl (by kernel_rfl) (by kernel_rfl) (loc_indexVs (e := 3) (sz := 1) (k := .i64) (els := (List.map EV.encI b)) (cs := (EV.encI x2)) (by kernel_rfl) (by kernel_rfl) (by kernel_rfl) g2a (by rw [g2c]; exact map_get _ (by omega))) ?_
        refine d_runs 2 7 [(25, .bool (!(decide (x1 = x2)))), (24, .int .i64 x2)] (pfp 2 8) (by kernel_rfl) (by kernel_rfl) ?_
        refine d_nil (by kernel_rfl) ?_
        refine nrm_thenV ?_
        refine v_cond (!(decide (x1 = x2))) (by kernel_rfl) (fun h3 => ?_) (fun h3 => ?_)
        · replace hs := bif_t h3 hs
          refine v_seq ?_
          refine vr_text ?_
          refine o_runs 1 [(4, .bool false)] (by kernel_rfl) ?_
          refine ov_nil ?_
          refine nrm_thenV ?_
          refine v_ret ?_
          refine ret_blkV ?_
          refine ret_thenV ?_
          refine ret_fuel ?_
          refine ret_blkV ?_
          refine ret_join ?_
          refine ret_thenV ?_
          obtain rfl := Option.some.inj hs
          replace hs := hk1
          obtain rfl := Option.some.inj hs
          exact fin_ret (by kernel_rfl) (by kernel_rfl) (by kernel_rfl)
        · replace hs := bif_f h3 hs
          refine v_skip ?_
          refine nrm_blkV ?_
          refine nrm_thenV ?_
          refine vr_text ?_
          refine o_runs 3 [(5, .int .i64 (w64 (q1 + 1))), (16, .int .i64 (w64 (q1 + 1))), (15, .int .i64 q1)] (by kernel_rfl) ?_
          refine ov_nil ?_
          refine nrm_fuel (w64 (q1 + 1)) hs ?_
          exact cut_of [0, 1, 5] [] (by kernel_rfl) (by kernel_rfl) (by kernel_rfl)
      · replace hs := bif_f h2 hs
        refine v_exit ?_
        refine exit_thenV ?_
        refine exit_fuel ?_
        refine exit_blkV ?_
        obtain rfl := Option.some.inj hs
        refine nrm_join () rfl ?_
        exact cut_of [] [] (by kernel_rfl) (by kernel_rfl) (by kernel_rfl)
    · subst hz; clear hs; have hs := hk1; clear hk1
      refine nrm_thenV ?_
      refine v_seq ?_
      refine vr_text ?_
      refine o_runs 1 [(4, .bool true)] (by kernel_rfl) ?_
      refine ov_nil ?_
      refine nrm_thenV ?_
      refine v_ret ?_
      obtain rfl := Option.some.inj hs
      exact fin_ret (by kernel_rfl) (by kernel_rfl) (by kernel_rfl)
theorem w_reopen_Stale (base : (List Fact)) (f : Formula) (known : Int) (r : (List (List UInt8))) (hs : s_reopen_Stale base f known = some r) : FnA Try.prog 16 [.vs 5 (List.map enc_Fact base), .agg (enc_Formula f), .int .i64 known] [] (.vs 1 (List.map EV.encS r)) [] := by
  refine fnA_of_wp (N := 33) Try.func16 rfl rfl rfl fun cK0 => ?_
  unfold s_reopen_Stale at hs
  refine v_same (ρ' := [(0, .vs 5 (List.map enc_Fact base)), (1, .agg (enc_Formula f)), (2, .int .i64 known)]) rfl rfl ?_
  refine v_seq ?_
  refine vr_text ?_
  refine o_runh 2 [(6, .nils), (4, .ptr 4 0 0)] [(4, .box 35 [.int .i64 f.Id, .int .i64 f.Day, .int .i64 f.Known, .int .i64 f.Body.Op, .int .i64 f.Body.N, .str f.Body.S, .str f.Body.Key, .vs 5 (encs_Expr f.Body.Args), .int .i64 f.Result, .vs 4 (List.map enc_Asked f.Asked)])] (by kernel_rfl) ?_
  refine ov_nil ?_
  refine nrm_thenV ?_
  refine v_seq ?_
  refine vr_text ?_
  refine o_runs 1 [(7, .nils)] (by kernel_rfl) ?_
  refine ov_nil ?_
  refine nrm_thenV ?_
  refine v_seq ?_
  refine v_seq ?_
  refine vr_text ?_
  refine o_runs 2 [(11, .vs 4 (List.map enc_Asked f.Asked)), (10, .ptr 4 0 9)] (by kernel_rfl) ?_
  refine o_pure (v := .int .i64 (List.length f.Asked : Int)) (by kernel_rfl) (by kernel_rfl) (loc_lenVs (sz := 4) (els := (List.map enc_Asked f.Asked)) (by kernel_rfl) (by kernel_rfl) (List.length_map ..)) ?_
  refine o_runs 1 [(13, .int .i64 0)] (by kernel_rfl) ?_
  refine ov_nil ?_
  refine nrm_thenV ?_
  obtain ⟨z1, hs, hk1⟩ := bind_some hs
  refine v_join (S := (List (List UInt8))) (fun u => u = z1) (fun u => [(7, .sl 1 2000026 ((u).length) 0 ((u).length))]) (fun u => [(2000026, .row 9 1 0 (List.map EV.encS u))]) ?_ (fun v1 hz => ?_)
  · refine v_block ?_
    refine v_fuel (S := Int × (List (List UInt8))) (fun u => [(0, .vs 5 (List.map enc_Fact base)), (2, .int .i64 known), (7, .sl 1 2000026 ((u.2).length) 0 ((u.2).length)), (11, .vs 4 (List.map enc_Asked f.Asked)), (12, .int .i64 (List.length f.Asked : Int)), (13, .int .i64 u.1)]) (fun u => [(2000026, .row 9 1 0 (List.map EV.encS u.2))]) (s_reopen_Stale_L1 base f known) (fun _ => rfl) KK (0, []) hs (Cut.trans (cut_nilRow 7 2000026 9 1 rfl (by kernel_rfl) (by kernel_rfl)) (cut_of [0, 2, 7, 11, 12, 13] [2000026] (by kernel_rfl) (by kernel_rfl) (by kernel_rfl))) (fun K1 q1 hs => ?_)
    rw [s_reopen_Stale_L1] at hs
    show WpV cK0 Try.prog none 33 _ _ [(0, .vs 5 (List.map enc_Fact base)), (2, .int .i64 known), (7, .sl 1 2000026 ((q1.2).length) 0 ((q1.2).length)), (11, .vs 4 (List.map enc_Asked f.Asked)), (12, .int .i64 (List.length f.Asked : Int)), (13, .int .i64 q1.1)] [(2000026, .row 9 1 0 (List.map EV.encS q1.2))] []
    refine v_seq ?_
    refine vr_text ?_
    refine o_runs 1 [(14, .bool (decide (q1.1 < (List.length f.Asked : Int))))] (by kernel_rfl) ?_
    refine ov_nil ?_
    refine nrm_thenV ?_
    refine v_seq ?_
    refine v_cond (decide (q1.1 < (List.length f.Asked : Int))) (by kernel_rfl) (fun h1 => ?_) (fun h1 => ?_)
    · replace hs := bif_t h1 hs
      refine v_skip ?_
      refine nrm_thenV ?_
      refine v_seq ?_
      refine v_block ?_
      refine v_seq ?_
      refine vr_text ?_
      obtain ⟨x1, g1, hs⟩ := bind_some hs; obtain ⟨g1a, g1b, g1c⟩ := idx_some g1
      refine o_pure (v := .vp (enc_Asked x1) 0) (by kernel_rfl) (by kernel_rfl) (loc_indexVs (e := 44) (sz := 4) (k := .i64) (els := (List.map enc_Asked f.Asked)) (cs := (enc_Asked x1)) (by kernel_rfl) (by kernel_rfl) (by kernel_rfl) g1a (by rw [g1c]; exact map_get _ (by omega))) ?_
      refine o_runh 3 [(9, .ptr 9 0 0), (16, .agg (enc_Asked x1))] [(9, .box 44 [.str x1.Key, .int .i64 x1.Day, .int .i64 x1.Value, .bool x1.There]), (2000026, .row 9 1 0 (List.map EV.encS q1.2))] (by kernel_rfl) ?_
      refine ov_nil ?_
      refine nrm_thenV ?_
      refine v_seq ?_
      refine v_draw mixedH (by kernel_rfl) ?_
      refine d_runs 6 0 [(22, .int .i64 known), (21, .int .i64 x1.Day), (20, .ptr 9 0 1), (19, .str x1.Key), (18, .ptr 9 0 0), (17, .vs 5 (List.map enc_Fact base))] [⟨5, [], []⟩, ⟨4, [], [9]⟩, ⟨3, [], []⟩, ⟨2, [], [9]⟩, ⟨1, [], []⟩, ⟨0, [], []⟩] (by kernel_rfl) (by kernel_rfl) ?_
      obtain ⟨y1, c1, hs⟩ := bind_some hs
      refine d_pure (v := .agg (enc_Asked y1)) 6 rfl rfl rfl rfl (by kernel_rfl) (by kernel_rfl) (loc_gcall0 (callV_func hbv32 (by kernel_rfl)) (w_reopen_look base x1.Key x1.Day known _ c1) (by kernel_rfl)) ?_
      refine d_runs 2 7 [(25, .bool (!(decide (y1.Key = x1.Key) && (decide (y1.Day = x1.Day) && (decide (y1.Value = x1.Value) && ((y1.There == x1.There))))))), (24, .agg (enc_Asked x1))] [⟨8, [], []⟩, ⟨7, [], [9]⟩] (by kernel_rfl) (by kernel_rfl) ?_
      refine d_nil (by kernel_rfl) ?_
      refine nrm_thenV ?_
      obtain ⟨z2, hs, hk2⟩ := bind_some hs
      refine v_join (S := (List (List UInt8))) (fun u => u = z2) (fun u => [(0, .vs 5 (List.map enc_Fact base)), (2, .int .i64 known), (7, .sl 1 2000026 ((u).length) 0 ((u).length)), (11, .vs 4 (List.map enc_Asked f.Asked)), (12, .int .i64 (List.length f.Asked : Int)), (13, .int .i64 q1.1)]) (fun u => [(2000026, .row 9 1 0 (List.map EV.encS u))]) ?_ (fun v2 hz => ?_)
      · refine v_cond (!(decide (y1.Key = x1.Key) && (decide (y1.Day = x1.Day) && (decide (y1.Value = x1.Value) && ((y1.There == x1.There)))))) (by kernel_rfl) (fun h2 => ?_) (fun h2 => ?_)
        · replace hs := bif_t h2 hs
          refine vr_text ?_
          refine o_runh 4 [(29, .sl 1 29 1 0 1), (28, .str x1.Key), (27, .ptr 9 0 0), (26, .sl 1 2000026 ((q1.2).length) 0 ((q1.2).length))] [(29, .row 9 1 0 (List.map EV.encS [x1.Key])), (9, .box 44 [.str x1.Key, .int .i64 x1.Day, .int .i64 x1.Value, .bool x1.There]), (2000026, .row 9 1 0 (List.map EV.encS q1.2))] (by kernel_rfl) ?_
          obtain ⟨_, g2, hs⟩ := bind_some hs; replace g2 := grd_some g2
          refine o_loc (F := [(2000026, .row 9 1 0 (List.map EV.encS q1.2)), (29, .row 9 1 0 (List.map EV.encS [x1.Key]))]) (F' := [(2000026, .row 9 1 0 (List.map EV.encS (q1.2 ++ [x1.Key]))), (29, .row 9 1 0 (List.map EV.encS [x1.Key]))]) (v := .sl 1 2000026 (((q1.2 ++ [x1.Key])).length) 0 (((q1.2 ++ [x1.Key])).length)) [2000026, 29] (by kernel_rfl) (by kernel_rfl) rfl (by kernel_rfl) (loc_appendT (e := 9) (sz := 1) (bytes := 16) (L := (q1.2).length) (els := (List.map EV.encS q1.2)) (ys := (List.map EV.encS [x1.Key])) (by kernel_rfl) (by kernel_rfl) (by first | exact List.length_map .. | rfl) (.sl (t := 9) (fz := 0) (ys := (List.map EV.encS [x1.Key])) (by kernel_rfl) (by kernel_rfl)) (map_ones EV.encS (fun _ => rfl) _) (map_lens EV.encS (fun _ => rfl) _) (by kernel_rfl) (by first | exact (List.map_append ..).symm | rfl | simp only [List.map_nil, List.nil_append]) (List.length_map ..) g2 (by omega)) (by kernel_rfl) ?_
          refine o_runs 1 [(7, .sl 1 2000026 (((q1.2 ++ [x1.Key])).length) 0 (((q1.2 ++ [x1.Key])).length))] (by kernel_rfl) ?_
          refine ov_nil ?_
          obtain rfl := Option.some.inj hs
          refine nrm_join (q1.2 ++ [x1.Key]) rfl ?_
          exact cut_of [0, 2, 7, 11, 12, 13] [2000026] (by kernel_rfl) (by kernel_rfl) (by kernel_rfl)
        · replace hs := bif_f h2 hs
          refine v_skip ?_
          obtain rfl := Option.some.inj hs
          refine nrm_join q1.2 rfl ?_
          exact cut_of [0, 2, 7, 11, 12, 13] [2000026] (by kernel_rfl) (by kernel_rfl) (by kernel_rfl)
      · subst hz; clear hs; have hs := hk2; clear hk2
        refine nrm_blkV ?_
        refine nrm_thenV ?_
        refine vr_text ?_
        refine o_runs 2 [(13, .int .i64 (w64 (q1.1 + 1))), (31, .int .i64 (w64 (q1.1 + 1)))] (by kernel_rfl) ?_
        refine ov_nil ?_
        refine nrm_fuel ((w64 (q1.1 + 1)), v2) hs ?_
        exact cut_of [0, 2, 7, 11, 12, 13] [2000026] (by kernel_rfl) (by kernel_rfl) (by kernel_rfl)
    · replace hs := bif_f h1 hs
      refine v_exit ?_
      refine exit_thenV ?_
      refine exit_fuel ?_
      refine exit_blkV ?_
      obtain rfl := Option.some.inj hs
      refine nrm_join q1.2 rfl ?_
      exact cut_of [7] [2000026] (by kernel_rfl) (by kernel_rfl) (by kernel_rfl)
  · subst hz; clear hs; have hs := hk1; clear hk1
    refine nrm_thenV ?_
    refine v_seq ?_
    refine vr_text ?_
    refine o_runs 2 [(6, .sl 1 2000026 ((v1).length) 0 ((v1).length)), (32, .sl 1 2000026 ((v1).length) 0 ((v1).length))] (by kernel_rfl) ?_
    refine ov_nil ?_
    refine nrm_thenV ?_
    refine v_to _ [(2000026, .row 9 1 (((List.map EV.encS v1)).length) (List.map EV.encS v1))] (cut_freeze (F := [(2000026, .row 9 1 0 (List.map EV.encS v1))]) [2000026] rfl (by kernel_rfl) (by kernel_rfl)) ?_
    refine v_to ((6, .vs 1 (List.map EV.encS v1)) :: _) _ (cut_view (R := [(2000026, .row 9 1 (((List.map EV.encS v1)).length) (List.map EV.encS v1))]) (ks := [2000026]) (by kernel_rfl) (by kernel_rfl) (.row (t := 9) (fz := (((List.map EV.encS v1)).length)) (by kernel_rfl) (by first | (simp only [List.length_map, List.length_set]; done) | rfl))) ?_
    refine v_ret ?_
    obtain rfl := Option.some.inj hs
    exact fin_ret (by kernel_rfl) (by kernel_rfl) (by kernel_rfl)
theorem w_reopen_Touched_1 (f : Formula) (a1 : (List Fact)) (a2 : Int) (r : Bool × (List Fact) × Int) (hs : s_reopen_Touched_1 f a1 a2 = some r) : FnA Try.prog 29 [.agg (enc_Formula f), .ptr 1000000 0 0, .ptr 1000001 0 0] [(1000000, .box 22 [.vs 5 (List.map enc_Fact a1)]), (1000001, .box 3 [.int .i64 a2])] (.bool r.1) [(1000000, .box 22 [.vs 5 (List.map enc_Fact r.2.1)]), (1000001, .box 3 [.int .i64 r.2.2])] := by
  refine fnA_of_wp (N := 11) Try.func29 rfl rfl rfl fun cK0 => ?_
  unfold s_reopen_Touched_1 at hs
  refine v_same (ρ' := [(0, .agg (enc_Formula f)), (1, .ptr 1000000 0 0), (2, .ptr 1000001 0 0)]) rfl rfl ?_
  refine v_seq ?_
  refine vr_text ?_
  refine o_runh 2 [(4, .bool false), (3, .ptr 3 0 0)] [(3, .box 35 [.int .i64 f.Id, .int .i64 f.Day, .int .i64 f.Known, .int .i64 f.Body.Op, .int .i64 f.Body.N, .str f.Body.S, .str f.Body.Key, .vs 5 (encs_Expr f.Body.Args), .int .i64 f.Result, .vs 4 (List.map enc_Asked f.Asked)]), (1000000, .box 22 [.vs 5 (List.map enc_Fact a1)]), (1000001, .box 3 [.int .i64 a2])] (by kernel_rfl) ?_
  refine ov_nil ?_
  refine nrm_thenV ?_
  refine v_seq ?_
  refine vr_text ?_
  refine o_runs 3 [(7, .int .i64 a2), (6, .agg (enc_Formula f)), (5, .vs 5 (List.map enc_Fact a1))] (by kernel_rfl) ?_
  obtain ⟨y1, c1, hs⟩ := bind_some hs
  refine o_pure (v := .vs 1 (List.map EV.encS y1)) (by kernel_rfl) (by kernel_rfl) (loc_gcall0 (callV_func hbv16 (by kernel_rfl)) (w_reopen_Stale a1 f a2 _ c1) (by kernel_rfl)) ?_
  refine o_pure (v := .int .i64 (List.length y1 : Int)) (by kernel_rfl) (by kernel_rfl) (loc_lenVs (sz := 1) (els := (List.map EV.encS y1)) (by kernel_rfl) (by kernel_rfl) (List.length_map ..)) ?_
  refine o_runs 2 [(4, .bool (decide ((List.length y1 : Int) > 0))), (10, .bool (decide ((List.length y1 : Int) > 0)))] (by kernel_rfl) ?_
  refine ov_nil ?_
  refine nrm_thenV ?_
  refine v_ret ?_
  obtain rfl := Option.some.inj hs
  exact fin_ret (by kernel_rfl) (by kernel_rfl) (by kernel_rfl)
theorem w_reopen_which_2 (l : (List Formula)) (c_1 : (List Fact)) (f : Int) (r : (List Int) × (List Fact) × Int) (hs : s_reopen_which_2 l c_1 f = some r) : FnA Try.prog 24 [.vs 10 (List.map enc_Formula l), .fn 29 [] [.ptr 1000000 0 0, .ptr 1000001 0 0]] [(1000000, .box 22 [.vs 5 (List.map enc_Fact c_1)]), (1000001, .box 3 [.int .i64 f])] (.vs 1 (List.map EV.encI r.1)) [(1000000, .box 22 [.vs 5 (List.map enc_Fact r.2.1)]), (1000001, .box 3 [.int .i64 r.2.2])] := by
  refine fnA_of_wp (N := 24) Try.func24 rfl rfl rfl fun cK0 => ?_
  unfold s_reopen_which_2 at hs
  refine v_same (ρ' := [(0, .vs 10 (List.map enc_Formula l)), (1, .fn 29 [] [.ptr 1000000 0 0, .ptr 1000001 0 0])]) rfl rfl ?_
  refine v_seq ?_
  refine vr_text ?_
  refine o_runs 1 [(4, .nils)] (by kernel_rfl) ?_
  refine ov_nil ?_
  refine nrm_thenV ?_
  refine v_seq ?_
  refine vr_text ?_
  refine o_runs 1 [(5, .nils)] (by kernel_rfl) ?_
  refine ov_nil ?_
  refine nrm_thenV ?_
  refine v_seq ?_
  refine v_seq ?_
  refine vr_text ?_
  refine o_runs 1 [(8, .vs 10 (List.map enc_Formula l))] (by kernel_rfl) ?_
  refine o_pure (v := .int .i64 (List.length l : Int)) (by kernel_rfl) (by kernel_rfl) (loc_lenVs (sz := 10) (els := (List.map enc_Formula l)) (by kernel_rfl) (by kernel_rfl) (List.length_map ..)) ?_
  refine o_runs 1 [(10, .int .i64 0)] (by kernel_rfl) ?_
  refine ov_nil ?_
  refine nrm_thenV ?_
  obtain ⟨z1, hs, hk1⟩ := bind_some hs
  refine v_join (S := (List Fact) × Int × (List Int)) (fun u => u = z1) (fun u => [(5, .sl 1 2000018 ((u.2.2).length) 0 ((u.2.2).length))]) (fun u => [(1000000, .box 22 [.vs 5 (List.map enc_Fact u.1)]), (1000001, .box 3 [.int .i64 u.2.1]), (2000018, .row 3 1 0 (List.map EV.encI u.2.2))]) ?_ (fun v1 hz => ?_)
  · refine v_block ?_
    refine v_fuel (S := Int × (List Fact) × Int × (List Int)) (fun u => [(1, .fn 29 [] [.ptr 1000000 0 0, .ptr 1000001 0 0]), (5, .sl 1 2000018 ((u.2.2.2).length) 0 ((u.2.2.2).length)), (8, .vs 10 (List.map enc_Formula l)), (9, .int .i64 (List.length l : Int)), (10, .int .i64 u.1)]) (fun u => [(1000000, .box 22 [.vs 5 (List.map enc_Fact u.2.1)]), (1000001, .box 3 [.int .i64 u.2.2.1]), (2000018, .row 3 1 0 (List.map EV.encI u.2.2.2))]) (s_reopen_which_2_L1 l) (fun _ => rfl) KK (0, c_1, f, []) hs (Cut.trans (cut_nilRow 5 2000018 3 1 rfl (by kernel_rfl) (by kernel_rfl)) (cut_of [1, 5, 8, 9, 10] [1000000, 1000001, 2000018] (by kernel_rfl) (by kernel_rfl) (by kernel_rfl))) (fun K1 q1 hs => ?_)
    rw [s_reopen_which_2_L1] at hs
    show WpV cK0 Try.prog none 24 _ _ [(1, .fn 29 [] [.ptr 1000000 0 0, .ptr 1000001 0 0]), (5, .sl 1 2000018 ((q1.2.2.2).length) 0 ((q1.2.2.2).length)), (8, .vs 10 (List.map enc_Formula l)), (9, .int .i64 (List.length l : Int)), (10, .int .i64 q1.1)] [(1000000, .box 22 [.vs 5 (List.map enc_Fact q1.2.1)]), (1000001, .box 3 [.int .i64 q1.2.2.1]), (2000018, .row 3 1 0 (List.map EV.encI q1.2.2.2))] []
    refine v_seq ?_
    refine vr_text ?_
    refine o_runs 1 [(11, .bool (decide (q1.1 < (List.length l : Int))))] (by kernel_rfl) ?_
    refine ov_nil ?_
    refine nrm_thenV ?_
    refine v_seq ?_
    refine v_cond (decide (q1.1 < (List.length l : Int))) (by kernel_rfl) (fun h1 => ?_) (fun h1 => ?_)
    · replace hs := bif_t h1 hs
      refine v_skip ?_
      refine nrm_thenV ?_
      refine v_seq ?_
      refine v_block ?_
      refine v_seq ?_
      refine vr_text ?_
      refine o_runs 1 [(12, .int .i64 q1.1)] (by kernel_rfl) ?_
      obtain ⟨x1, g1, hs⟩ := bind_some hs; obtain ⟨g1a, g1b, g1c⟩ := idx_some g1
      refine o_pure (v := .vp (enc_Formula x1) 0) (by kernel_rfl) (by kernel_rfl) (loc_indexVs (e := 35) (sz := 10) (k := .i64) (els := (List.map enc_Formula l)) (cs := (enc_Formula x1)) (by kernel_rfl) (by kernel_rfl) (by kernel_rfl) g1a (by rw [g1c]; exact map_get _ (by omega))) ?_
      refine o_runh 4 [(6, .int .i64 q1.1), (7, .ptr 7 0 0), (14, .agg (enc_Formula x1))] [(7, .box 35 [.int .i64 x1.Id, .int .i64 x1.Day, .int .i64 x1.Known, .int .i64 x1.Body.Op, .int .i64 x1.Body.N, .str x1.Body.S, .str x1.Body.Key, .vs 5 (encs_Expr x1.Body.Args), .int .i64 x1.Result, .vs 4 (List.map enc_Asked x1.Asked)]), (1000000, .box 22 [.vs 5 (List.map enc_Fact q1.2.1)]), (1000001, .box 3 [.int .i64 q1.2.2.1]), (2000018, .row 3 1 0 (List.map EV.encI q1.2.2.2))] (by kernel_rfl) ?_
      refine ov_nil ?_
      refine nrm_thenV ?_
      refine v_seq ?_
      refine vr_text ?_
      refine o_runs 2 [(16, .agg (enc_Formula x1)), (15, .fn 29 [] [.ptr 1000000 0 0, .ptr 1000001 0 0])] (by kernel_rfl) ?_
      obtain ⟨y1, c1, hs⟩ := bind_some hs
      refine o_loc (F := [(1000000, .box 22 [.vs 5 (List.map enc_Fact q1.2.1)]), (1000001, .box 3 [.int .i64 q1.2.2.1])]) (F' := [(1000000, .box 22 [.vs 5 (List.map enc_Fact y1.2.1)]), (1000001, .box 3 [.int .i64 y1.2.2])]) (v := .bool y1.1) [1000000, 1000001] (by kernel_rfl) (by kernel_rfl) rfl (by kernel_rfl) (loc_g (R := []) [.agg (enc_Formula x1), .ptr 1000000 0 0, .ptr 1000001 0 0] [(1000000, 1000000), (1000001, 1000001)] (callV_val (first := []) (caps := [.ptr 1000000 0 0, .ptr 1000001 0 0]) hbv29 (by kernel_rfl) (by kernel_rfl)) (w_reopen_Touched_1 x1 q1.2.1 q1.2.2.1 _ c1) (.cons (.same _) (.cons (.same _) (.cons (.same _) (.nil)))) (by kernel_rfl) (by kernel_rfl) (by kernel_rfl) (by kernel_rfl) (by kernel_rfl) (by kernel_rfl) (by kernel_rfl) (by kernel_rfl)) (by kernel_rfl) ?_
      refine ov_nil ?_
      refine nrm_thenV ?_
      obtain ⟨z2, hs, hk2⟩ := bind_some hs
      refine v_join (S := (List Int)) (fun u => u = z2) (fun u => [(1, .fn 29 [] [.ptr 1000000 0 0, .ptr 1000001 0 0]), (5, .sl 1 2000018 ((u).length) 0 ((u).length)), (8, .vs 10 (List.map enc_Formula l)), (9, .int .i64 (List.length l : Int)), (10, .int .i64 q1.1)]) (fun u => [(2000018, .row 3 1 0 (List.map EV.encI u)), (1000000, .box 22 [.vs 5 (List.map enc_Fact y1.2.1)]), (1000001, .box 3 [.int .i64 y1.2.2])]) ?_ (fun v2 hz => ?_)
      · refine v_cond y1.1 (by kernel_rfl) (fun h2 => ?_) (fun h2 => ?_)
        · replace hs := bif_t h2 hs
          refine vr_text ?_
          refine o_runh 3 [(20, .sl 1 20 1 0 1), (19, .int .i64 q1.1), (18, .sl 1 2000018 ((q1.2.2.2).length) 0 ((q1.2.2.2).length))] [(20, .row 3 1 0 (List.map EV.encI [q1.1])), (1000000, .box 22 [.vs 5 (List.map enc_Fact y1.2.1)]), (1000001, .box 3 [.int .i64 y1.2.2]), (7, .box 35 [.int .i64 x1.Id, .int .i64 x1.Day, .int .i64 x1.Known, .int .i64 x1.Body.Op, .int .i64 x1.Body.N, .str x1.Body.S, .str x1.Body.Key, .vs 5 (encs_Expr x1.Body.Args), .int .i64 x1.Result, .vs 4 (List.map enc_Asked x1.Asked)]), (2000018, .row 3 1 0 (List.map EV.encI q1.2.2.2))] (by kernel_rfl) ?_
          obtain ⟨_, g2, hs⟩ := bind_some hs; replace g2 := grd_some g2
          refine o_loc (F := [(2000018, .row 3 1 0 (List.map EV.encI q1.2.2.2)), (20, .row 3 1 0 (List.map EV.encI [q1.1]))]) (F' := [(2000018, .row 3 1 0 (List.map EV.encI (q1.2.2.2 ++ [q1.1]))), (20, .row 3 1 0 (List.map EV.encI [q1.1]))]) (v := .sl 1 2000018 (((q1.2.2.2 ++ [q1.1])).length) 0 (((q1.2.2.2 ++ [q1.1])).length)) [2000018, 20] (by kernel_rfl) (by kernel_rfl) rfl (by kernel_rfl) (loc_appendT (e := 3) (sz := 1) (bytes := 8) (L := (q1.2.2.2).length) (els := (List.map EV.encI q1.2.2.2)) (ys := (List.map EV.encI [q1.1])) (by kernel_rfl) (by kernel_rfl) (by first | exact List.length_map .. | rfl) (.sl (t := 3) (fz := 0) (ys := (List.map EV.encI [q1.1])) (by kernel_rfl) (by kernel_rfl)) (map_ones EV.encI (fun _ => rfl) _) (map_lens EV.encI (fun _ => rfl) _) (by kernel_rfl) (by first | exact (List.map_append ..).symm | rfl | simp only [List.map_nil, List.nil_append]) (List.length_map ..) g2 (by omega)) (by kernel_rfl) ?_
          refine o_runs 1 [(5, .sl 1 2000018 (((q1.2.2.2 ++ [q1.1])).length) 0 (((q1.2.2.2 ++ [q1.1])).length))] (by kernel_rfl) ?_
          refine ov_nil ?_
          obtain rfl := Option.some.inj hs
          refine nrm_join (q1.2.2.2 ++ [q1.1]) rfl ?_
          exact cut_of [1, 5, 8, 9, 10] [2000018, 1000000, 1000001] (by kernel_rfl) (by kernel_rfl) (by kernel_rfl)
        · replace hs := bif_f h2 hs
          refine v_skip ?_
          obtain rfl := Option.some.inj hs
          refine nrm_join q1.2.2.2 rfl ?_
          exact cut_of [1, 5, 8, 9, 10] [2000018, 1000000, 1000001] (by kernel_rfl) (by kernel_rfl) (by kernel_rfl)
      · subst hz; clear hs; have hs := hk2; clear hk2
        refine nrm_blkV ?_
        refine nrm_thenV ?_
        refine vr_text ?_
        refine o_runs 2 [(10, .int .i64 (w64 (q1.1 + 1))), (22, .int .i64 (w64 (q1.1 + 1)))] (by kernel_rfl) ?_
        refine ov_nil ?_
        refine nrm_fuel ((w64 (q1.1 + 1)), y1.2.1, y1.2.2, v2) hs ?_
        exact cut_of [1, 5, 8, 9, 10] [1000000, 1000001, 2000018] (by kernel_rfl) (by kernel_rfl) (by kernel_rfl)
    · replace hs := bif_f h1 hs
      refine v_exit ?_
      refine exit_thenV ?_
      refine exit_fuel ?_
      refine exit_blkV ?_
      obtain rfl := Option.some.inj hs
      refine nrm_join (q1.2.1, q1.2.2.1, q1.2.2.2) rfl ?_
      exact cut_of [5] [1000000, 1000001, 2000018] (by kernel_rfl) (by kernel_rfl) (by kernel_rfl)
  · subst hz; clear hs; have hs := hk1; clear hk1
    refine nrm_thenV ?_
    refine v_seq ?_
    refine vr_text ?_
    refine o_runs 2 [(4, .sl 1 2000018 ((v1.2.2).length) 0 ((v1.2.2).length)), (23, .sl 1 2000018 ((v1.2.2).length) 0 ((v1.2.2).length))] (by kernel_rfl) ?_
    refine ov_nil ?_
    refine nrm_thenV ?_
    refine v_to _ [(2000018, .row 3 1 (((List.map EV.encI v1.2.2)).length) (List.map EV.encI v1.2.2)), (1000000, .box 22 [.vs 5 (List.map enc_Fact v1.1)]), (1000001, .box 3 [.int .i64 v1.2.1])] (cut_freeze (F := [(2000018, .row 3 1 0 (List.map EV.encI v1.2.2))]) [2000018] rfl (by kernel_rfl) (by kernel_rfl)) ?_
    refine v_to ((4, .vs 1 (List.map EV.encI v1.2.2)) :: _) _ (cut_view (R := [(2000018, .row 3 1 (((List.map EV.encI v1.2.2)).length) (List.map EV.encI v1.2.2))]) (ks := [2000018]) (by kernel_rfl) (by kernel_rfl) (.row (t := 3) (fz := (((List.map EV.encI v1.2.2)).length)) (by kernel_rfl) (by first | (simp only [List.length_map, List.length_set]; done) | rfl))) ?_
    refine v_ret ?_
    obtain rfl := Option.some.inj hs
    exact fin_ret (by kernel_rfl) (by kernel_rfl) (by kernel_rfl)
theorem w_reopen_Touched (base : (List Fact)) (l : (List Formula)) (known : Int) (r : (List Int)) (hs : s_reopen_Touched base l known = some r) : FnA Try.prog 10 [.vs 5 (List.map enc_Fact base), .vs 10 (List.map enc_Formula l), .int .i64 known] [] (.vs 1 (List.map EV.encI r)) [] := by
  refine fnA_of_wp (N := 10) Try.func10 rfl rfl rfl fun cK0 => ?_
  unfold s_reopen_Touched at hs
  refine v_same (ρ' := [(0, .vs 5 (List.map enc_Fact base)), (1, .vs 10 (List.map enc_Formula l)), (2, .int .i64 known)]) rfl rfl ?_
  refine v_seq ?_
  refine vr_text ?_
  refine o_runh 3 [(6, .nils), (5, .ptr 5 0 0), (3, .ptr 3 0 0)] [(5, .box 3 [.int .i64 known]), (3, .box 22 [.vs 5 (List.map enc_Fact base)])] (by kernel_rfl) ?_
  refine ov_nil ?_
  refine nrm_thenV ?_
  refine v_seq ?_
  refine vr_text ?_
  refine o_runs 2 [(8, .fn 29 [] [.ptr 3 0 0, .ptr 5 0 0]), (7, .vs 10 (List.map enc_Formula l))] (by kernel_rfl) ?_
  obtain ⟨y1, c1, hs⟩ := bind_some hs
  refine o_loc (F := [(3, .box 22 [.vs 5 (List.map enc_Fact base)]), (5, .box 3 [.int .i64 known])]) (F' := [(3, .box 22 [.vs 5 (List.map enc_Fact y1.2.1)]), (5, .box 3 [.int .i64 y1.2.2])]) (v := .vs 1 (List.map EV.encI y1.1)) [3, 5] (by kernel_rfl) (by kernel_rfl) rfl (by kernel_rfl) (loc_g (R := []) [.vs 10 (List.map enc_Formula l), .fn 29 [] [.ptr 3 0 0, .ptr 5 0 0]] [(1000000, 3), (1000001, 5)] (callV_func hbv24 (by kernel_rfl)) (w_reopen_which_2 l base known _ c1) (.cons (.same _) (.cons (.same _) (.nil))) (by kernel_rfl) (by kernel_rfl) (by kernel_rfl) (by kernel_rfl) (by kernel_rfl) (by kernel_rfl) (by kernel_rfl) (by kernel_rfl)) (by kernel_rfl) ?_
  refine o_runs 1 [(6, .vs 1 (List.map EV.encI y1.1))] (by kernel_rfl) ?_
  refine ov_nil ?_
  refine nrm_thenV ?_
  refine v_ret ?_
  obtain rfl := Option.some.inj hs
  exact fin_ret (by kernel_rfl) (by kernel_rfl) (by kernel_rfl)
theorem w_slices_Equal (s1 : (List Asked)) (s2 : (List Asked)) (r : Bool) (hs : s_slices_Equal s1 s2 = some r) : FnA Try.prog 31 [.vs 4 (List.map enc_Asked s1), .vs 4 (List.map enc_Asked s2)] [] (.bool r) [] := by
  refine fnA_of_wp (N := 26) Try.func31 rfl rfl rfl fun cK0 => ?_
  unfold s_slices_Equal at hs
  refine v_same (ρ' := [(0, .vs 4 (List.map enc_Asked s1)), (1, .vs 4 (List.map enc_Asked s2))]) rfl rfl ?_
  refine v_seq ?_
  refine vr_text ?_
  refine o_runs 1 [(4, .bool false)] (by kernel_rfl) ?_
  refine ov_nil ?_
  refine nrm_thenV ?_
  refine v_seq ?_
  refine v_seq ?_
  refine vr_text ?_
  refine o_runs 1 [(6, .vs 4 (List.map enc_Asked s1))] (by kernel_rfl) ?_
  refine o_pure (v := .int .i64 (List.length s1 : Int)) (by kernel_rfl) (by kernel_rfl) (loc_lenVs (sz := 4) (els := (List.map enc_Asked s1)) (by kernel_rfl) (by kernel_rfl) (List.length_map ..)) ?_
  refine o_runs 1 [(8, .vs 4 (List.map enc_Asked s2))] (by kernel_rfl) ?_
  refine o_pure (v := .int .i64 (List.length s2 : Int)) (by kernel_rfl) (by kernel_rfl) (loc_lenVs (sz := 4) (els := (List.map enc_Asked s2)) (by kernel_rfl) (by kernel_rfl) (List.length_map ..)) ?_
  refine o_runs 1 [(10, .bool (!(decide ((List.length s1 : Int) = (List.length s2 : Int)))))] (by kernel_rfl) ?_
  refine ov_nil ?_
  refine nrm_thenV ?_
  refine v_cond (!(decide ((List.length s1 : Int) = (List.length s2 : Int)))) (by kernel_rfl) (fun h1 => ?_) (fun h1 => ?_)
  · replace hs := bif_t h1 hs
    refine v_seq ?_
    refine vr_text ?_
    refine o_runs 1 [(4, .bool false)] (by kernel_rfl) ?_
    refine ov_nil ?_
    refine nrm_thenV ?_
    refine v_ret ?_
    refine ret_thenV ?_
    obtain rfl := Option.some.inj hs
    exact fin_ret (by kernel_rfl) (by kernel_rfl) (by kernel_rfl)
  · replace hs := bif_f h1 hs
    refine v_skip ?_
    refine nrm_thenV ?_
    refine v_seq ?_
    refine v_seq ?_
    refine vr_text ?_
    refine o_runs 1 [(11, .vs 4 (List.map enc_Asked s1))] (by kernel_rfl) ?_
    refine o_pure (v := .int .i64 (List.length s1 : Int)) (by kernel_rfl) (by kernel_rfl) (loc_lenVs (sz := 4) (els := (List.map enc_Asked s1)) (by kernel_rfl) (by kernel_rfl) (List.length_map ..)) ?_
    refine o_runs 1 [(13, .int .i64 0)] (by kernel_rfl) ?_
    refine ov_nil ?_
    refine nrm_thenV ?_
    obtain ⟨z1, hs, hk1⟩ := bind_some hs
    refine v_join (S := Unit) (fun u => z1 = .inr u) (fun u => []) (fun u => []) ?_ (fun v1 hz => ?_)
    · refine v_block ?_
      refine v_fuel (S := Int) (fun u => [(0, .vs 4 (List.map enc_Asked s1)), (1, .vs 4 (List.map enc_Asked s2)), (12, .int .i64 (List.length s1 : Int)), (13, .int .i64 u)]) (fun u => []) (s_slices_Equal_L1 s1 s2) (fun _ => rfl) KK 0 hs (cut_of [0, 1, 12, 13] [] (by kernel_rfl) (by kernel_rfl) (by kernel_rfl)) (fun K1 q1 hs => ?_)
      rw [s_slices_Equal_L1] at hs
      show WpV cK0 Try.prog none 26 _ _ [(0, .vs 4 (List.map enc_Asked s1)), (1, .vs 4 (List.map enc_Asked s2)), (12, .int .i64 (List.length s1 : Int)), (13, .int .i64 q1)] [] []
      refine v_seq ?_
      refine vr_text ?_
      refine o_runs 1 [(14, .bool (decide (q1 < (List.length s1 : Int))))] (by kernel_rfl) ?_
      refine ov_nil ?_
      refine nrm_thenV ?_
      refine v_seq ?_
      refine v_cond (decide (q1 < (List.length s1 : Int))) (by kernel_rfl) (fun h2 => ?_) (fun h2 => ?_)
      · replace hs := bif_t h2 hs
        refine v_skip ?_
        refine nrm_thenV ?_
        refine v_seq ?_
        refine v_block ?_
        refine v_seq ?_
        refine vr_text ?_
        refine o_runs 2 [(5, .int .i64 q1), (15, .int .i64 q1)] (by kernel_rfl) ?_
        refine ov_nil ?_
        refine nrm_thenV ?_
        refine v_seq ?_
        refine v_draw mixedH (by kernel_rfl) ?_
        refine d_runs 2 0 [(17, .int .i64 q1), (16, .vs 4 (List.map enc_Asked s1))] (pfp 2 1) (by kernel_rfl) (by kernel_rfl) ?_
        obtain ⟨x1, g1, hs⟩ := bind_some hs; obtain ⟨g1a, g1b, g1c⟩ := idx_some g1
        refine d_pure (v := .vp (enc_Asked x1) 0) 2 rfl rfl rfl rfl (by kernel_rfl) (by kernel_rfl) (loc_indexVs (e := 44) (sz := 4) (k := .i64) (els := (List.map enc_Asked s1)) (cs := (enc_Asked x1)) (by kernel_rfl) (by kernel_rfl) (by kernel_rfl) g1a (by rw [g1c]; exact map_get _ (by omega))) ?_
        refine d_runs 3 3 [(21, .int .i64 q1), (20, .vs 4 (List.map enc_Asked s2)), (19, .agg (enc_Asked x1))] (pfp 3 5) (by kernel_rfl) (by kernel_rfl) ?_
        obtain ⟨x2, g2, hs⟩ := bind_some hs; obtain ⟨g2a, g2b, g2c⟩ := idx_some g2
        refine d_pure (v := .vp (enc_Asked x2) 0) 6 rfl rfl rfl rfl (by kernel_rfl) (by kernel_rfl) (loc_indexVs (e := 44) (sz := 4) (k := .i64) (els := (List.map enc_Asked s2)) (cs := (enc_Asked x2)) (by kernel_rfl) (by kernel_rfl) (by kernel_rfl) g2a (by rw [g2c]; exact map_get _ (by omega))) ?_
        refine d_runs 2 7 [(24, .bool (!(decide (x1.Key = x2.Key) && (decide (x1.Day = x2.Day) && (decide (x1.Value = x2.Value) && ((x1.There == x2.There))))))), (23, .agg (enc_Asked x2))] (pfp 2 8) (by kernel_rfl) (by kernel_rfl) ?_
        refine d_nil (by kernel_rfl) ?_
        refine nrm_thenV ?_
        refine v_cond (!(decide (x1.Key = x2.Key) && (decide (x1.Day = x2.Day) && (decide (x1.Value = x2.Value) && ((x1.There == x2.There)))))) (by kernel_rfl) (fun h3 => ?_) (fun h3 => ?_)
        · replace hs := bif_t h3 hs
          refine v_seq ?_
          refine vr_text ?_
          refine o_runs 1 [(4, .bool false)] (by kernel_rfl) ?_
          refine ov_nil ?_
          refine nrm_thenV ?_
          refine v_ret ?_
          refine ret_blkV ?_
          refine ret_thenV ?_
          refine ret_fuel ?_
          refine ret_blkV ?_
          refine ret_join ?_
          refine ret_thenV ?_
          obtain rfl := Option.some.inj hs
          replace hs := hk1
          obtain rfl := Option.some.inj hs
          exact fin_ret (by kernel_rfl) (by kernel_rfl) (by kernel_rfl)
        · replace hs := bif_f h3 hs
          refine v_skip ?_
          refine nrm_blkV ?_
          refine nrm_thenV ?_
          refine vr_text ?_
          refine o_runs 2 [(13, .int .i64 (w64 (q1 + 1))), (25, .int .i64 (w64 (q1 + 1)))] (by kernel_rfl) ?_
          refine ov_nil ?_
          refine nrm_fuel (w64 (q1 + 1)) hs ?_
          exact cut_of [0, 1, 12, 13] [] (by kernel_rfl) (by kernel_rfl) (by kernel_rfl)
      · replace hs := bif_f h2 hs
        refine v_exit ?_
        refine exit_thenV ?_
        refine exit_fuel ?_
        refine exit_blkV ?_
        obtain rfl := Option.some.inj hs
        refine nrm_join () rfl ?_
        exact cut_of [] [] (by kernel_rfl) (by kernel_rfl) (by kernel_rfl)
    · subst hz; clear hs; have hs := hk1; clear hk1
      refine nrm_thenV ?_
      refine v_seq ?_
      refine vr_text ?_
      refine o_runs 1 [(4, .bool true)] (by kernel_rfl) ?_
      refine ov_nil ?_
      refine nrm_thenV ?_
      refine v_ret ?_
      obtain rfl := Option.some.inj hs
      exact fin_ret (by kernel_rfl) (by kernel_rfl) (by kernel_rfl)
end Go.Proofs.Ytenljipeggacjaa
