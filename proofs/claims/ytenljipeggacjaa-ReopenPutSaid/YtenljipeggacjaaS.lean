/- printed by gen2.py -/
import Derived.Test.YtenljipeggacjaaE
import Derived.Test.YtenljipeggacjaaSD
import Derived.Test.YtenljipeggacjaaSPartB
set_option linter.all false
set_option maxRecDepth 100000
namespace Go.Proofs.Ytenljipeggacjaa
open Go Go.RowKit Go.Eng Go.EV
variable [Fuel]

theorem w_reopen_Holds (base : (List Fact)) (f : Formula) (r : Bool) (hs : s_reopen_Holds base f = some r) : FnA Try.prog 15 [.vs 5 (List.map enc_Fact base), .agg (enc_Formula f)] [] (.bool r) [] := by
  refine fnA_of_wp (N := 29) Try.func15 rfl rfl rfl fun cK0 => ?_
  unfold s_reopen_Holds at hs
  refine v_same (ρ' := [(0, .vs 5 (List.map enc_Fact base)), (1, .agg (enc_Formula f))]) rfl rfl ?_
  refine v_seq ?_
  refine vr_text ?_
  refine o_runh 2 [(4, .bool false), (3, .ptr 3 0 0)] [(3, .box 35 [.int .i64 f.Id, .int .i64 f.Day, .int .i64 f.Known, .int .i64 f.Body.Op, .int .i64 f.Body.N, .str f.Body.S, .str f.Body.Key, .vs 5 (encs_Expr f.Body.Args), .int .i64 f.Result, .vs 4 (List.map enc_Asked f.Asked)])] (by kernel_rfl) ?_
  refine ov_nil ?_
  refine nrm_thenV ?_
  refine v_seq ?_
  refine vr_text ?_
  refine o_runs 2 [(9, .agg (enc_Formula f)), (8, .vs 5 (List.map enc_Fact base))] (by kernel_rfl) ?_
  obtain ⟨y1, c1, hs⟩ := bind_some hs
  refine o_pure (v := .tup [.agg (enc_Formula y1.1), .int .i64 y1.2]) (by kernel_rfl) (by kernel_rfl) (loc_gcall0 (callV_func hbv11 (by kernel_rfl)) (w_reopen_Make base f _ c1) (by kernel_rfl)) ?_
  refine o_runh 6 [(6, .int .i64 y1.2), (5, .ptr 5 0 0), (12, .int .i64 y1.2), (11, .agg (enc_Formula y1.1)), (7, .tup [.agg (enc_Formula y1.1), .int .i64 y1.2])] [(5, .box 35 [.int .i64 y1.1.Id, .int .i64 y1.1.Day, .int .i64 y1.1.Known, .int .i64 y1.1.Body.Op, .int .i64 y1.1.Body.N, .str y1.1.Body.S, .str y1.1.Body.Key, .vs 5 (encs_Expr y1.1.Body.Args), .int .i64 y1.1.Result, .vs 4 (List.map enc_Asked y1.1.Asked)]), (3, .box 35 [.int .i64 f.Id, .int .i64 f.Day, .int .i64 f.Known, .int .i64 f.Body.Op, .int .i64 f.Body.N, .str f.Body.S, .str f.Body.Key, .vs 5 (encs_Expr f.Body.Args), .int .i64 f.Result, .vs 4 (List.map enc_Asked f.Asked)])] (by kernel_rfl) ?_
  refine ov_nil ?_
  refine nrm_thenV ?_
  refine v_seq ?_
  obtain ⟨z1, hs, hk1⟩ := bind_some hs
  refine v_join (S := Bool) (fun u => u = z1) (fun u => [(4, .bool u)]) (fun u => []) ?_ (fun v1 hz => ?_)
  · refine vr_text ?_
    refine o_runs 3 [(15, .bool (decide (y1.2 = 0))), (14, .bool (decide (y1.2 = 0))), (13, .int .i64 y1.2)] (by kernel_rfl) ?_
    cases h1 : ((decide (y1.2 = 0)))
    · replace hs := bif_f h1 hs
      refine o_runs 14 [(4, .bool false), (28, .bool false), (27, .no), (26, .no), (25, .no), (24, .no), (23, .no), (22, .bool false), (21, .bool false), (20, .no), (19, .no), (18, .no), (17, .no), (16, .no)] (by kernel_rfl) ?_
      refine ov_nil ?_
      obtain rfl := Option.some.inj hs
      refine nrm_join false rfl ?_
      exact cut_of [4] [] (by kernel_rfl) (by kernel_rfl) (by kernel_rfl)
    · replace hs := bif_t h1 hs
      refine o_runs 7 [(22, .bool (decide (y1.1.Result = f.Result))), (21, .bool (decide (y1.1.Result = f.Result))), (20, .bool (decide (y1.1.Result = f.Result))), (19, .int .i64 f.Result), (18, .ptr 3 0 8), (17, .int .i64 y1.1.Result), (16, .ptr 5 0 8)] (by kernel_rfl) ?_
      cases h2 : ((decide (y1.1.Result = f.Result)))
      · replace hs := bif_f h2 hs
        refine o_runs 7 [(4, .bool false), (28, .bool false), (27, .no), (26, .no), (25, .no), (24, .no), (23, .no)] (by kernel_rfl) ?_
        refine ov_nil ?_
        obtain rfl := Option.some.inj hs
        refine nrm_join false rfl ?_
        exact cut_of [4] [] (by kernel_rfl) (by kernel_rfl) (by kernel_rfl)
      · replace hs := bif_t h2 hs
        refine o_runs 4 [(26, .vs 4 (List.map enc_Asked f.Asked)), (25, .ptr 3 0 9), (24, .vs 4 (List.map enc_Asked y1.1.Asked)), (23, .ptr 5 0 9)] (by kernel_rfl) ?_
        obtain ⟨y2, c2, hs⟩ := bind_some hs
        refine o_pure (v := .bool y2) (by kernel_rfl) (by kernel_rfl) (loc_gcall0 (callV_func hbv31 (by kernel_rfl)) (w_slices_Equal y1.1.Asked f.Asked _ c2) (by kernel_rfl)) ?_
        refine o_runs 2 [(4, .bool y2), (28, .bool y2)] (by kernel_rfl) ?_
        refine ov_nil ?_
        obtain rfl := Option.some.inj hs
        refine nrm_join y2 rfl ?_
        exact cut_of [4] [] (by kernel_rfl) (by kernel_rfl) (by kernel_rfl)
  · subst hz; clear hs; have hs := hk1; clear hk1
    refine nrm_thenV ?_
    refine v_ret ?_
    obtain rfl := Option.some.inj hs
    exact fin_ret (by kernel_rfl) (by kernel_rfl) (by kernel_rfl)
theorem w_greenbeltref45_Texts (a : (List (List UInt8))) (b : (List (List UInt8))) (r : Bool) (hs : s_greenbeltref45_Texts a b = some r) : FnA Try.prog 21 [.vs 1 (List.map EV.encS a), .vs 1 (List.map EV.encS b)] [] (.bool r) [] := by
  refine fnA_of_wp (N := 26) Try.func21 rfl rfl rfl fun cK0 => ?_
  unfold s_greenbeltref45_Texts at hs
  refine v_same (ρ' := [(0, .vs 1 (List.map EV.encS a)), (1, .vs 1 (List.map EV.encS b))]) rfl rfl ?_
  refine v_seq ?_
  refine vr_text ?_
  refine o_runs 1 [(4, .bool false)] (by kernel_rfl) ?_
  refine ov_nil ?_
  refine nrm_thenV ?_
  refine v_seq ?_
  refine v_seq ?_
  refine vr_text ?_
  refine o_runs 1 [(6, .vs 1 (List.map EV.encS a))] (by kernel_rfl) ?_
  refine o_pure (v := .int .i64 (List.length a : Int)) (by kernel_rfl) (by kernel_rfl) (loc_lenVs (sz := 1) (els := (List.map EV.encS a)) (by kernel_rfl) (by kernel_rfl) (List.length_map ..)) ?_
  refine o_runs 1 [(8, .vs 1 (List.map EV.encS b))] (by kernel_rfl) ?_
  refine o_pure (v := .int .i64 (List.length b : Int)) (by kernel_rfl) (by kernel_rfl) (loc_lenVs (sz := 1) (els := (List.map EV.encS b)) (by kernel_rfl) (by kernel_rfl) (List.length_map ..)) ?_
  refine o_runs 1 [(10, .bool (!(decide ((List.length a : Int) = (List.length b : Int)))))] (by kernel_rfl) ?_
  refine ov_nil ?_
  refine nrm_thenV ?_
  refine v_cond (!(decide ((List.length a : Int) = (List.length b : Int)))) (by kernel_rfl) (fun h1 => ?_) (fun h1 => ?_)
  · replace hs := bif_t h1 hs
    refine v_seq ?_
    refine vr_text ?_
    refine o_runs 1 [(4, .bool false)] (by kernel_rfl) ?_
    refine ov_nil ?_
    refine nrm_thenV ?_
    refine v_ret ?_
    refine ret_thenV ?_
    obtain rfl := Option.some.inj hs
    exact fin_ret (by kernel_rfl) (by kernel_rfl) (by kernel_rfl)
  · replace hs := bif_f h1 hs
    refine v_skip ?_
    refine nrm_thenV ?_
    refine v_seq ?_
    refine v_seq ?_
    refine vr_text ?_
    refine o_runs 1 [(5, .int .i64 0)] (by kernel_rfl) ?_
    refine ov_nil ?_
    refine nrm_thenV ?_
    obtain ⟨z1, hs, hk1⟩ := bind_some hs
    refine v_join (S := Unit) (fun u => z1 = .inr u) (fun u => []) (fun u => []) ?_ (fun v1 hz => ?_)
    · refine v_block ?_
      refine v_fuel (S := Int) (fun u => [(0, .vs 1 (List.map EV.encS a)), (1, .vs 1 (List.map EV.encS b)), (5, .int .i64 u)]) (fun u => []) (s_greenbeltref45_Texts_L1 a b) (fun _ => rfl) KK 0 hs (cut_of [0, 1, 5] [] (by kernel_rfl) (by kernel_rfl) (by kernel_rfl)) (fun K1 q1 hs => ?_)
      rw [s_greenbeltref45_Texts_L1] at hs
      show WpV cK0 Try.prog none 26 _ _ [(0, .vs 1 (List.map EV.encS a)), (1, .vs 1 (List.map EV.encS b)), (5, .int .i64 q1)] [] []
      refine v_seq ?_
      refine v_seq ?_
      refine vr_text ?_
      refine o_runs 2 [(12, .vs 1 (List.map EV.encS a)), (11, .int .i64 q1)] (by kernel_rfl) ?_
      refine o_pure (v := .int .i64 (List.length a : Int)) (by kernel_rfl) (by kernel_rfl) (loc_lenVs (sz := 1) (els := (List.map EV.encS a)) (by kernel_rfl) (by kernel_rfl) (List.length_map ..)) ?_
      refine o_runs 1 [(14, .bool (decide (q1 < (List.length a : Int))))] (by kernel_rfl) ?_
      refine ov_nil ?_
      refine nrm_thenV ?_
      refine v_cond (decide (q1 < (List.length a : Int))) (by kernel_rfl) (fun h2 => ?_) (fun h2 => ?_)
      · replace hs := bif_t h2 hs
        refine v_skip ?_
        refine nrm_thenV ?_
        refine v_seq ?_
        refine v_block ?_
        refine v_seq ?_
        refine v_draw mixedH (by kernel_rfl) ?_
        refine d_runs 2 0 [(18, .int .i64 q1), (17, .vs 1 (List.map EV.encS a))] (pfp 2 1) (by kernel_rfl) (by kernel_rfl) ?_
        obtain ⟨x1, g1, hs⟩ := bind_some hs; obtain ⟨g1a, g1b, g1c⟩ := idx_some g1
        refine d_pure (v := .vp [.str x1] 0) 2 rfl rfl rfl rfl (by kernel_rfl) (by kernel_rfl) (loc_indexVs (e := 9) (sz := 1) (k := .i64) (els := (List.map EV.encS a)) (cs := (EV.encS x1)) (by kernel_rfl) (by kernel_rfl) (by kernel_rfl) g1a (by rw [g1c]; exact map_get _ (by omega))) ?_
        refine d_runs 3 3 [(22, .int .i64 q1), (21, .vs 1 (List.map EV.encS b)), (20, .str x1)] (pfp 3 5) (by kernel_rfl) (by kernel_rfl) ?_
        obtain ⟨x2, g2, hs⟩ := bind_some hs; obtain ⟨g2a, g2b, g2c⟩ := idx_some g2
        refine d_pure (v := .vp [.str x2] 0) 6 rfl rfl rfl rfl (by kernel_rfl) (by kernel_rfl) (loc_indexVs (e := 9) (sz := 1) (k := .i64) (els := (List.map EV.encS b)) (cs := (EV.encS x2)) (by kernel_rfl) (by kernel_rfl) (by kernel_rfl) g2a (by rw [g2c]; exact map_get _ (by omega))) ?_
        refine d_runs 2 7 [(25, .bool (!(decide (x1 = x2)))), (24, .str x2)] (pfp 2 8) (by kernel_rfl) (by kernel_rfl) ?_
        refine d_nil (by kernel_rfl) ?_
        refine nrm_thenV ?_
        refine v_cond (!(decide (x1 = x2))) (by kernel_rfl) (fun h3 => ?_) (fun h3 => ?_)
        · replace hs := bif_t h3 hs
          refine v_seq ?_
          refine vr_text ?_
          refine o_runs 1 [(4, .bool false)] (by kernel_rfl) ?_
          refine ov_nil ?_
          refine nrm_thenV ?_
          refine v_ret ?_
          refine ret_blkV ?_
          refine ret_thenV ?_
          refine ret_fuel ?_
          refine ret_blkV ?_
          refine ret_join ?_
          refine ret_thenV ?_
          obtain rfl := Option.some.inj hs
          replace hs := hk1
          obtain rfl := Option.some.inj hs
          exact fin_ret (by kernel_rfl) (by kernel_rfl) (by kernel_rfl)
        · replace hs := bif_f h3 hs
          refine v_skip ?_
          refine nrm_blkV ?_
          refine nrm_thenV ?_
          refine vr_text ?_
          refine o_runs 3 [(5, .int .i64 (w64 (q1 + 1))), (16, .int .i64 (w64 (q1 + 1))), (15, .int .i64 q1)] (by kernel_rfl) ?_
          refine ov_nil ?_
          refine nrm_fuel (w64 (q1 + 1)) hs ?_
          exact cut_of [0, 1, 5] [] (by kernel_rfl) (by kernel_rfl) (by kernel_rfl)
      · replace hs := bif_f h2 hs
        refine v_exit ?_
        refine exit_thenV ?_
        refine exit_fuel ?_
        refine exit_blkV ?_
        obtain rfl := Option.some.inj hs
        refine nrm_join () rfl ?_
        exact cut_of [] [] (by kernel_rfl) (by kernel_rfl) (by kernel_rfl)
    · subst hz; clear hs; have hs := hk1; clear hk1
      refine nrm_thenV ?_
      refine v_seq ?_
      refine vr_text ?_
      refine o_runs 1 [(4, .bool true)] (by kernel_rfl) ?_
      refine ov_nil ?_
      refine nrm_thenV ?_
      refine v_ret ?_
      obtain rfl := Option.some.inj hs
      exact fin_ret (by kernel_rfl) (by kernel_rfl) (by kernel_rfl)
theorem w_greenbeltlaw45_small  (r : Bool) (hs : s_greenbeltlaw45_small  = some r) : FnA Try.prog 6 [] [] (.bool r) [] := by
  refine fnA_of_wp (N := 164) Try.func6 rfl rfl rfl fun cK0 => ?_
  unfold s_greenbeltlaw45_small at hs
  refine v_same (ρ' := []) rfl rfl ?_
  refine v_seq ?_
  refine vr_text ?_
  refine o_runs 1 [(0, .bool false)] (by kernel_rfl) ?_
  refine ov_nil ?_
  refine nrm_thenV ?_
  refine v_seq ?_
  refine vr_text ?_
  refine o_runh 4 [(1, .sl 5 18 2 0 2), (18, .sl 5 18 2 0 2), (17, .agg [.str ([97, 114, 101, 97] : List UInt8), .int .i64 90, .int .i64 10, .int .i64 0, .int .i64 8]), (16, .agg [.str ([97, 114, 101, 97] : List UInt8), .int .i64 100, .int .i64 0, .int .i64 0, .int .i64 5])] [(18, .row 51 5 0 (List.map enc_Fact [(Fact.mk ([97, 114, 101, 97] : List UInt8) 100 0 0 5), (Fact.mk ([97, 114, 101, 97] : List UInt8) 90 10 0 8)]))] (by kernel_rfl) ?_
  refine ov_nil ?_
  refine nrm_thenV ?_
  refine v_seq ?_
  refine vr_text ?_
  refine o_runs 1 [(20, .sl 5 18 2 0 2)] (by kernel_rfl) ?_
  obtain ⟨y1, c1, hs⟩ := bind_some hs
  refine o_pure (v := .agg (enc_Expr y1)) (by kernel_rfl) (by kernel_rfl) (loc_gcall0 (callV_func hbv20 (by kernel_rfl)) (w_greenbeltlaw45_less ([97, 114, 101, 97] : List UInt8) 95 _ c1) (by kernel_rfl)) ?_
  refine o_runs 1 [(22, .agg [.int .i64 1, .int .i64 12, .int .i64 6, .int .i64 y1.Op, .int .i64 y1.N, .str y1.S, .str y1.Key, .vs 5 (encs_Expr y1.Args), .int .i64 0, .nils])] (by kernel_rfl) ?_
  obtain ⟨y2, c2, hs⟩ := bind_some hs
  refine o_to _ [(18, .row 51 5 (((List.map enc_Fact [(Fact.mk ([97, 114, 101, 97] : List UInt8) 100 0 0 5), (Fact.mk ([97, 114, 101, 97] : List UInt8) 90 10 0 8)])).length) (List.map enc_Fact [(Fact.mk ([97, 114, 101, 97] : List UInt8) 100 0 0 5), (Fact.mk ([97, 114, 101, 97] : List UInt8) 90 10 0 8)]))] (cut_freeze (F := [(18, .row 51 5 0 (List.map enc_Fact [(Fact.mk ([97, 114, 101, 97] : List UInt8) 100 0 0 5), (Fact.mk ([97, 114, 101, 97] : List UInt8) 90 10 0 8)]))]) [18] rfl (by kernel_rfl) (by kernel_rfl)) ?_
  refine o_loc (F := [(18, .row 51 5 (((List.map enc_Fact [(Fact.mk ([97, 114, 101, 97] : List UInt8) 100 0 0 5), (Fact.mk ([97, 114, 101, 97] : List UInt8) 90 10 0 8)])).length) (List.map enc_Fact [(Fact.mk ([97, 114, 101, 97] : List UInt8) 100 0 0 5), (Fact.mk ([97, 114, 101, 97] : List UInt8) 90 10 0 8)]))]) (F' := [(18, .row 51 5 (((List.map enc_Fact [(Fact.mk ([97, 114, 101, 97] : List UInt8) 100 0 0 5), (Fact.mk ([97, 114, 101, 97] : List UInt8) 90 10 0 8)])).length) (List.map enc_Fact [(Fact.mk ([97, 114, 101, 97] : List UInt8) 100 0 0 5), (Fact.mk ([97, 114, 101, 97] : List UInt8) 90 10 0 8)]))]) (v := .tup [.agg (enc_Formula y2.1), .int .i64 y2.2]) [18] (by kernel_rfl) (by kernel_rfl) rfl (by kernel_rfl) (loc_g (R := [(18, .row 51 5 (((List.map enc_Fact [(Fact.mk ([97, 114, 101, 97] : List UInt8) 100 0 0 5), (Fact.mk ([97, 114, 101, 97] : List UInt8) 90 10 0 8)])).length) (List.map enc_Fact [(Fact.mk ([97, 114, 101, 97] : List UInt8) 100 0 0 5), (Fact.mk ([97, 114, 101, 97] : List UInt8) 90 10 0 8)]))]) [.sl 5 18 2 0 2, .agg [.int .i64 1, .int .i64 12, .int .i64 6, .int .i64 y1.Op, .int .i64 y1.N, .str y1.S, .str y1.Key, .vs 5 (encs_Expr y1.Args), .int .i64 0, .nils]] [] (callV_func hbv11 (by kernel_rfl)) (w_reopen_Make [(Fact.mk ([97, 114, 101, 97] : List UInt8) 100 0 0 5), (Fact.mk ([97, 114, 101, 97] : List UInt8) 90 10 0 8)] (Formula.mk 1 12 6 y1 0 []) _ c2) (.cons (.row (t := 51) (fz := (((List.map enc_Fact [(Fact.mk ([97, 114, 101, 97] : List UInt8) 100 0 0 5), (Fact.mk ([97, 114, 101, 97] : List UInt8) 90 10 0 8)])).length)) (by kernel_rfl) (by first | (simp only [List.length_map, List.length_set]; done) | rfl)) (.cons (.agg (.cons (.same _) (.cons (.same _) (.cons (.same _) (.cons (.same _) (.cons (.same _) (.cons (.same _) (.cons (.same _) (.cons (.same _) (.cons (.same _) (.cons (.nils _) (.nil)))))))))))) (.nil))) (by kernel_rfl) (by kernel_rfl) (by kernel_rfl) (by kernel_rfl) (by kernel_rfl) (by kernel_rfl) (by kernel_rfl) (by kernel_rfl)) (by kernel_rfl) ?_
  refine o_runh 6 [(3, .int .i64 y2.2), (2, .ptr 2 0 0), (25, .int .i64 y2.2), (24, .agg (enc_Formula y2.1)), (19, .tup [.agg (enc_Formula y2.1), .int .i64 y2.2])] [(2, .box 35 [.int .i64 y2.1.Id, .int .i64 y2.1.Day, .int .i64 y2.1.Known, .int .i64 y2.1.Body.Op, .int .i64 y2.1.Body.N, .str y2.1.Body.S, .str y2.1.Body.Key, .vs 5 (encs_Expr y2.1.Body.Args), .int .i64 y2.1.Result, .vs 4 (List.map enc_Asked y2.1.Asked)]), (18, .row 51 5 (((List.map enc_Fact [(Fact.mk ([97, 114, 101, 97] : List UInt8) 100 0 0 5), (Fact.mk ([97, 114, 101, 97] : List UInt8) 90 10 0 8)])).length) (List.map enc_Fact [(Fact.mk ([97, 114, 101, 97] : List UInt8) 100 0 0 5), (Fact.mk ([97, 114, 101, 97] : List UInt8) 90 10 0 8)]))] (by kernel_rfl) ?_
  refine ov_nil ?_
  refine nrm_thenV ?_
  refine v_seq ?_
  refine vr_text ?_
  refine o_runs 1 [(27, .sl 5 18 2 0 2)] (by kernel_rfl) ?_
  obtain ⟨y3, c3, hs⟩ := bind_some hs
  refine o_pure (v := .agg (enc_Expr y3)) (by kernel_rfl) (by kernel_rfl) (loc_gcall0 (callV_func hbv20 (by kernel_rfl)) (w_greenbeltlaw45_less ([97, 114, 101, 97] : List UInt8) 120 _ c3) (by kernel_rfl)) ?_
  refine o_runs 1 [(29, .agg [.int .i64 2, .int .i64 12, .int .i64 6, .int .i64 y3.Op, .int .i64 y3.N, .str y3.S, .str y3.Key, .vs 5 (encs_Expr y3.Args), .int .i64 0, .nils])] (by kernel_rfl) ?_
  obtain ⟨y4, c4, hs⟩ := bind_some hs
  refine o_loc (F := [(18, .row 51 5 (((List.map enc_Fact [(Fact.mk ([97, 114, 101, 97] : List UInt8) 100 0 0 5), (Fact.mk ([97, 114, 101, 97] : List UInt8) 90 10 0 8)])).length) (List.map enc_Fact [(Fact.mk ([97, 114, 101, 97] : List UInt8) 100 0 0 5), (Fact.mk ([97, 114, 101, 97] : List UInt8) 90 10 0 8)]))]) (F' := [(18, .row 51 5 (((List.map enc_Fact [(Fact.mk ([97, 114, 101, 97] : List UInt8) 100 0 0 5), (Fact.mk ([97, 114, 101, 97] : List UInt8) 90 10 0 8)])).length) (List.map enc_Fact [(Fact.mk ([97, 114, 101, 97] : List UInt8) 100 0 0 5), (Fact.mk ([97, 114, 101, 97] : List UInt8) 90 10 0 8)]))]) (v := .tup [.agg (enc_Formula y4.1), .int .i64 y4.2]) [18] (by kernel_rfl) (by kernel_rfl) rfl (by kernel_rfl) (loc_g (R := [(18, .row 51 5 (((List.map enc_Fact [(Fact.mk ([97, 114, 101, 97] : List UInt8) 100 0 0 5), (Fact.mk ([97, 114, 101, 97] : List UInt8) 90 10 0 8)])).length) (List.map enc_Fact [(Fact.mk ([97, 114, 101, 97] : List UInt8) 100 0 0 5), (Fact.mk ([97, 114, 101, 97] : List UInt8) 90 10 0 8)]))]) [.sl 5 18 2 0 2, .agg [.int .i64 2, .int .i64 12, .int .i64 6, .int .i64 y3.Op, .int .i64 y3.N, .str y3.S, .str y3.Key, .vs 5 (encs_Expr y3.Args), .int .i64 0, .nils]] [] (callV_func hbv11 (by kernel_rfl)) (w_reopen_Make [(Fact.mk ([97, 114, 101, 97] : List UInt8) 100 0 0 5), (Fact.mk ([97, 114, 101, 97] : List UInt8) 90 10 0 8)] (Formula.mk 2 12 6 y3 0 []) _ c4) (.cons (.row (t := 51) (fz := (((List.map enc_Fact [(Fact.mk ([97, 114, 101, 97] : List UInt8) 100 0 0 5), (Fact.mk ([97, 114, 101, 97] : List UInt8) 90 10 0 8)])).length)) (by kernel_rfl) (by first | (simp only [List.length_map, List.length_set]; done) | rfl)) (.cons (.agg (.cons (.same _) (.cons (.same _) (.cons (.same _) (.cons (.same _) (.cons (.same _) (.cons (.same _) (.cons (.same _) (.cons (.same _) (.cons (.same _) (.cons (.nils _) (.nil)))))))))))) (.nil))) (by kernel_rfl) (by kernel_rfl) (by kernel_rfl) (by kernel_rfl) (by kernel_rfl) (by kernel_rfl) (by kernel_rfl) (by kernel_rfl)) (by kernel_rfl) ?_
  refine o_runh 6 [(5, .int .i64 y4.2), (4, .ptr 4 0 0), (32, .int .i64 y4.2), (31, .agg (enc_Formula y4.1)), (26, .tup [.agg (enc_Formula y4.1), .int .i64 y4.2])] [(4, .box 35 [.int .i64 y4.1.Id, .int .i64 y4.1.Day, .int .i64 y4.1.Known, .int .i64 y4.1.Body.Op, .int .i64 y4.1.Body.N, .str y4.1.Body.S, .str y4.1.Body.Key, .vs 5 (encs_Expr y4.1.Body.Args), .int .i64 y4.1.Result, .vs 4 (List.map enc_Asked y4.1.Asked)]), (18, .row 51 5 (((List.map enc_Fact [(Fact.mk ([97, 114, 101, 97] : List UInt8) 100 0 0 5), (Fact.mk ([97, 114, 101, 97] : List UInt8) 90 10 0 8)])).length) (List.map enc_Fact [(Fact.mk ([97, 114, 101, 97] : List UInt8) 100 0 0 5), (Fact.mk ([97, 114, 101, 97] : List UInt8) 90 10 0 8)])), (2, .box 35 [.int .i64 y2.1.Id, .int .i64 y2.1.Day, .int .i64 y2.1.Known, .int .i64 y2.1.Body.Op, .int .i64 y2.1.Body.N, .str y2.1.Body.S, .str y2.1.Body.Key, .vs 5 (encs_Expr y2.1.Body.Args), .int .i64 y2.1.Result, .vs 4 (List.map enc_Asked y2.1.Asked)])] (by kernel_rfl) ?_
  refine ov_nil ?_
  refine nrm_thenV ?_
  refine v_seq ?_
  refine vr_text ?_
  refine o_runs 1 [(34, .sl 5 18 2 0 2)] (by kernel_rfl) ?_
  obtain ⟨y5, c5, hs⟩ := bind_some hs
  refine o_pure (v := .agg (enc_Expr y5)) (by kernel_rfl) (by kernel_rfl) (loc_gcall0 (callV_func hbv20 (by kernel_rfl)) (w_greenbeltlaw45_less ([97, 114, 101, 97] : List UInt8) 95 _ c5) (by kernel_rfl)) ?_
  refine o_runs 1 [(36, .agg [.int .i64 3, .int .i64 9, .int .i64 6, .int .i64 y5.Op, .int .i64 y5.N, .str y5.S, .str y5.Key, .vs 5 (encs_Expr y5.Args), .int .i64 0, .nils])] (by kernel_rfl) ?_
  obtain ⟨y6, c6, hs⟩ := bind_some hs
  refine o_loc (F := [(18, .row 51 5 (((List.map enc_Fact [(Fact.mk ([97, 114, 101, 97] : List UInt8) 100 0 0 5), (Fact.mk ([97, 114, 101, 97] : List UInt8) 90 10 0 8)])).length) (List.map enc_Fact [(Fact.mk ([97, 114, 101, 97] : List UInt8) 100 0 0 5), (Fact.mk ([97, 114, 101, 97] : List UInt8) 90 10 0 8)]))]) (F' := [(18, .row 51 5 (((List.map enc_Fact [(Fact.mk ([97, 114, 101, 97] : List UInt8) 100 0 0 5), (Fact.mk ([97, 114, 101, 97] : List UInt8) 90 10 0 8)])).length) (List.map enc_Fact [(Fact.mk ([97, 114, 101, 97] : List UInt8) 100 0 0 5), (Fact.mk ([97, 114, 101, 97] : List UInt8) 90 10 0 8)]))]) (v := .tup [.agg (enc_Formula y6.1), .int .i64 y6.2]) [18] (by kernel_rfl) (by kernel_rfl) rfl (by kernel_rfl) (loc_g (R := [(18, .row 51 5 (((List.map enc_Fact [(Fact.mk ([97, 114, 101, 97] : List UInt8) 100 0 0 5), (Fact.mk ([97, 114, 101, 97] : List UInt8) 90 10 0 8)])).length) (List.map enc_Fact [(Fact.mk ([97, 114, 101, 97] : List UInt8) 100 0 0 5), (Fact.mk ([97, 114, 101, 97] : List UInt8) 90 10 0 8)]))]) [.sl 5 18 2 0 2, .agg [.int .i64 3, .int .i64 9, .int .i64 6, .int .i64 y5.Op, .int .i64 y5.N, .str y5.S, .str y5.Key, .vs 5 (encs_Expr y5.Args), .int .i64 0, .nils]] [] (callV_func hbv11 (by kernel_rfl)) (w_reopen_Make [(Fact.mk ([97, 114, 101, 97] : List UInt8) 100 0 0 5), (Fact.mk ([97, 114, 101, 97] : List UInt8) 90 10 0 8)] (Formula.mk 3 9 6 y5 0 []) _ c6) (.cons (.row (t := 51) (fz := (((List.map enc_Fact [(Fact.mk ([97, 114, 101, 97] : List UInt8) 100 0 0 5), (Fact.mk ([97, 114, 101, 97] : List UInt8) 90 10 0 8)])).length)) (by kernel_rfl) (by first | (simp only [List.length_map, List.length_set]; done) | rfl)) (.cons (.agg (.cons (.same _) (.cons (.same _) (.cons (.same _) (.cons (.same _) (.cons (.same _) (.cons (.same _) (.cons (.same _) (.cons (.same _) (.cons (.same _) (.cons (.nils _) (.nil)))))))))))) (.nil))) (by kernel_rfl) (by kernel_rfl) (by kernel_rfl) (by kernel_rfl) (by kernel_rfl) (by kernel_rfl) (by kernel_rfl) (by kernel_rfl)) (by kernel_rfl) ?_
  refine o_runh 6 [(7, .int .i64 y6.2), (6, .ptr 6 0 0), (39, .int .i64 y6.2), (38, .agg (enc_Formula y6.1)), (33, .tup [.agg (enc_Formula y6.1), .int .i64 y6.2])] [(6, .box 35 [.int .i64 y6.1.Id, .int .i64 y6.1.Day, .int .i64 y6.1.Known, .int .i64 y6.1.Body.Op, .int .i64 y6.1.Body.N, .str y6.1.Body.S, .str y6.1.Body.Key, .vs 5 (encs_Expr y6.1.Body.Args), .int .i64 y6.1.Result, .vs 4 (List.map enc_Asked y6.1.Asked)]), (18, .row 51 5 (((List.map enc_Fact [(Fact.mk ([97, 114, 101, 97] : List UInt8) 100 0 0 5), (Fact.mk ([97, 114, 101, 97] : List UInt8) 90 10 0 8)])).length) (List.map enc_Fact [(Fact.mk ([97, 114, 101, 97] : List UInt8) 100 0 0 5), (Fact.mk ([97, 114, 101, 97] : List UInt8) 90 10 0 8)])), (4, .box 35 [.int .i64 y4.1.Id, .int .i64 y4.1.Day, .int .i64 y4.1.Known, .int .i64 y4.1.Body.Op, .int .i64 y4.1.Body.N, .str y4.1.Body.S, .str y4.1.Body.Key, .vs 5 (encs_Expr y4.1.Body.Args), .int .i64 y4.1.Result, .vs 4 (List.map enc_Asked y4.1.Asked)]), (2, .box 35 [.int .i64 y2.1.Id, .int .i64 y2.1.Day, .int .i64 y2.1.Known, .int .i64 y2.1.Body.Op, .int .i64 y2.1.Body.N, .str y2.1.Body.S, .str y2.1.Body.Key, .vs 5 (encs_Expr y2.1.Body.Args), .int .i64 y2.1.Result, .vs 4 (List.map enc_Asked y2.1.Asked)])] (by kernel_rfl) ?_
  refine ov_nil ?_
  refine nrm_thenV ?_
  refine v_seq ?_
  refine vr_text ?_
  refine o_runs 2 [(41, .agg [.int .i64 0, .int .i64 1, .str [], .str [], .nils]), (40, .agg [.int .i64 1, .int .i64 0, .str ([104, 101, 105, 103, 104, 116] : List UInt8), .str [], .nils])] (by kernel_rfl) ?_
  refine o_loc (F := []) (F' := [(42, .row 32 5 0 (encs_Expr [(Expr.mk 1 0 ([104, 101, 105, 103, 104, 116] : List UInt8) [] []), (Expr.mk 0 1 [] [] [])]))]) (v := .sl 5 42 2 0 2) [] (by kernel_rfl) (by kernel_rfl) rfl (by kernel_rfl) (loc_buildSliceW (e := 32) (sz := 5) (els := [[.int .i64 1, .int .i64 0, .str ([104, 101, 105, 103, 104, 116] : List UInt8), .str [], .nils], [.int .i64 0, .int .i64 1, .str [], .str [], .nils]]) (els2 := [[.int .i64 1, .int .i64 0, .str ([104, 101, 105, 103, 104, 116] : List UInt8), .str [], .vs 5 []], [.int .i64 0, .int .i64 1, .str [], .str [], .vs 5 []]]) (fl := [.int .i64 1, .int .i64 0, .str ([104, 101, 105, 103, 104, 116] : List UInt8), .str [], .nils, .int .i64 0, .int .i64 1, .str [], .str [], .nils]) (fl2 := [.int .i64 1, .int .i64 0, .str ([104, 101, 105, 103, 104, 116] : List UInt8), .str [], .vs 5 [], .int .i64 0, .int .i64 1, .str [], .str [], .vs 5 []]) (by kernel_rfl) (by kernel_rfl) (by kernel_rfl) (by kernel_rfl) (by kernel_rfl) (wk_same (wk_same (wk_same (wk_same (wk_nils (wk_same (wk_same (wk_same (wk_same (wk_nils wk_nil)))))))))) (by kernel_rfl) (by kernel_rfl) (by kernel_rfl)) (by kernel_rfl) ?_
  refine o_runh 3 [(8, .ptr 8 0 0), (43, .agg [.int .i64 4, .int .i64 0, .str [], .str [], .sl 5 42 2 0 2])] [(8, .box 32 [.int .i64 4, .int .i64 0, .str [], .str [], .sl 5 42 2 0 2]), (42, .row 32 5 0 (encs_Expr [(Expr.mk 1 0 ([104, 101, 105, 103, 104, 116] : List UInt8) [] []), (Expr.mk 0 1 [] [] [])])), (6, .box 35 [.int .i64 y6.1.Id, .int .i64 y6.1.Day, .int .i64 y6.1.Known, .int .i64 y6.1.Body.Op, .int .i64 y6.1.Body.N, .str y6.1.Body.S, .str y6.1.Body.Key, .vs 5 (encs_Expr y6.1.Body.Args), .int .i64 y6.1.Result, .vs 4 (List.map enc_Asked y6.1.Asked)]), (18, .row 51 5 (((List.map enc_Fact [(Fact.mk ([97, 114, 101, 97] : List UInt8) 100 0 0 5), (Fact.mk ([97, 114, 101, 97] : List UInt8) 90 10 0 8)])).length) (List.map enc_Fact [(Fact.mk ([97, 114, 101, 97] : List UInt8) 100 0 0 5), (Fact.mk ([97, 114, 101, 97] : List UInt8) 90 10 0 8)])), (4, .box 35 [.int .i64 y4.1.Id, .int .i64 y4.1.Day, .int .i64 y4.1.Known, .int .i64 y4.1.Body.Op, .int .i64 y4.1.Body.N, .str y4.1.Body.S, .str y4.1.Body.Key, .vs 5 (encs_Expr y4.1.Body.Args), .int .i64 y4.1.Result, .vs 4 (List.map enc_Asked y4.1.Asked)]), (2, .box 35 [.int .i64 y2.1.Id, .int .i64 y2.1.Day, .int .i64 y2.1.Known, .int .i64 y2.1.Body.Op, .int .i64 y2.1.Body.N, .str y2.1.Body.S, .str y2.1.Body.Key, .vs 5 (encs_Expr y2.1.Body.Args), .int .i64 y2.1.Result, .vs 4 (List.map enc_Asked y2.1.Asked)])] (by kernel_rfl) ?_
  refine ov_nil ?_
  refine nrm_thenV ?_
  refine v_seq ?_
  refine vr_text ?_
  refine o_runs 3 [(47, .agg [.int .i64 4, .int .i64 0, .int .i64 0, .int .i64 4, .int .i64 0, .str [], .str [], .sl 5 42 2 0 2, .int .i64 0, .nils]), (46, .agg [.int .i64 4, .int .i64 0, .str [], .str [], .sl 5 42 2 0 2]), (45, .sl 5 18 2 0 2)] (by kernel_rfl) ?_
  obtain ⟨y7, c7, hs⟩ := bind_some hs
  refine o_to _ [(42, .row 32 5 (((encs_Expr [(Expr.mk 1 0 ([104, 101, 105, 103, 104, 116] : List UInt8) [] []), (Expr.mk 0 1 [] [] [])])).length) (encs_Expr [(Expr.mk 1 0 ([104, 101, 105, 103, 104, 116] : List UInt8) [] []), (Expr.mk 0 1 [] [] [])])), (8, .box 32 [.int .i64 4, .int .i64 0, .str [], .str [], .sl 5 42 2 0 2]), (6, .box 35 [.int .i64 y6.1.Id, .int .i64 y6.1.Day, .int .i64 y6.1.Known, .int .i64 y6.1.Body.Op, .int .i64 y6.1.Body.N, .str y6.1.Body.S, .str y6.1.Body.Key, .vs 5 (encs_Expr y6.1.Body.Args), .int .i64 y6.1.Result, .vs 4 (List.map enc_Asked y6.1.Asked)]), (18, .row 51 5 (((List.map enc_Fact [(Fact.mk ([97, 114, 101, 97] : List UInt8) 100 0 0 5), (Fact.mk ([97, 114, 101, 97] : List UInt8) 90 10 0 8)])).length) (List.map enc_Fact [(Fact.mk ([97, 114, 101, 97] : List UInt8) 100 0 0 5), (Fact.mk ([97, 114, 101, 97] : List UInt8) 90 10 0 8)])), (4, .box 35 [.int .i64 y4.1.Id, .int .i64 y4.1.Day, .int .i64 y4.1.Known, .int .i64 y4.1.Body.Op, .int .i64 y4.1.Body.N, .str y4.1.Body.S, .str y4.1.Body.Key, .vs 5 (encs_Expr y4.1.Body.Args), .int .i64 y4.1.Result, .vs 4 (List.map enc_Asked y4.1.Asked)]), (2, .box 35 [.int .i64 y2.1.Id, .int .i64 y2.1.Day, .int .i64 y2.1.Known, .int .i64 y2.1.Body.Op, .int .i64 y2.1.Body.N, .str y2.1.Body.S, .str y2.1.Body.Key, .vs 5 (encs_Expr y2.1.Body.Args), .int .i64 y2.1.Result, .vs 4 (List.map enc_Asked y2.1.Asked)])] (cut_freeze (F := [(42, .row 32 5 0 (encs_Expr [(Expr.mk 1 0 ([104, 101, 105, 103, 104, 116] : List UInt8) [] []), (Expr.mk 0 1 [] [] [])]))]) [42] rfl (by kernel_rfl) (by kernel_rfl)) ?_
  refine o_loc (F := [(18, .row 51 5 (((List.map enc_Fact [(Fact.mk ([97, 114, 101, 97] : List UInt8) 100 0 0 5), (Fact.mk ([97, 114, 101, 97] : List UInt8) 90 10 0 8)])).length) (List.map enc_Fact [(Fact.mk ([97, 114, 101, 97] : List UInt8) 100 0 0 5), (Fact.mk ([97, 114, 101, 97] : List UInt8) 90 10 0 8)])), (42, .row 32 5 (((encs_Expr [(Expr.mk 1 0 ([104, 101, 105, 103, 104, 116] : List UInt8) [] []), (Expr.mk 0 1 [] [] [])])).length) (encs_Expr [(Expr.mk 1 0 ([104, 101, 105, 103, 104, 116] : List UInt8) [] []), (Expr.mk 0 1 [] [] [])]))]) (F' := [(18, .row 51 5 (((List.map enc_Fact [(Fact.mk ([97, 114, 101, 97] : List UInt8) 100 0 0 5), (Fact.mk ([97, 114, 101, 97] : List UInt8) 90 10 0 8)])).length) (List.map enc_Fact [(Fact.mk ([97, 114, 101, 97] : List UInt8) 100 0 0 5), (Fact.mk ([97, 114, 101, 97] : List UInt8) 90 10 0 8)])), (42, .row 32 5 (((encs_Expr [(Expr.mk 1 0 ([104, 101, 105, 103, 104, 116] : List UInt8) [] []), (Expr.mk 0 1 [] [] [])])).length) (encs_Expr [(Expr.mk 1 0 ([104, 101, 105, 103, 104, 116] : List UInt8) [] []), (Expr.mk 0 1 [] [] [])]))]) (v := .tup [.agg (enc_Formula y7.1), .int .i64 y7.2]) [18, 42] (by kernel_rfl) (by kernel_rfl) rfl (by kernel_rfl) (loc_g (R := [(18, .row 51 5 (((List.map enc_Fact [(Fact.mk ([97, 114, 101, 97] : List UInt8) 100 0 0 5), (Fact.mk ([97, 114, 101, 97] : List UInt8) 90 10 0 8)])).length) (List.map enc_Fact [(Fact.mk ([97, 114, 101, 97] : List UInt8) 100 0 0 5), (Fact.mk ([97, 114, 101, 97] : List UInt8) 90 10 0 8)])), (42, .row 32 5 (((encs_Expr [(Expr.mk 1 0 ([104, 101, 105, 103, 104, 116] : List UInt8) [] []), (Expr.mk 0 1 [] [] [])])).length) (encs_Expr [(Expr.mk 1 0 ([104, 101, 105, 103, 104, 116] : List UInt8) [] []), (Expr.mk 0 1 [] [] [])]))]) [.sl 5 18 2 0 2, .agg [.int .i64 4, .int .i64 0, .int .i64 0, .int .i64 4, .int .i64 0, .str [], .str [], .sl 5 42 2 0 2, .int .i64 0, .nils]] [] (callV_func hbv11 (by kernel_rfl)) (w_reopen_Make_2 [(Fact.mk ([97, 114, 101, 97] : List UInt8) 100 0 0 5), (Fact.mk ([97, 114, 101, 97] : List UInt8) 90 10 0 8)] 4 0 0 4 0 [] [] [(Expr.mk 1 0 ([104, 101, 105, 103, 104, 116] : List UInt8) [] []), (Expr.mk 0 1 [] [] [])] 0 [] _ c7) (.cons (.row (t := 51) (fz := (((List.map enc_Fact [(Fact.mk ([97, 114, 101, 97] : List UInt8) 100 0 0 5), (Fact.mk ([97, 114, 101, 97] : List UInt8) 90 10 0 8)])).length)) (by kernel_rfl) (by first | (simp only [List.length_map, List.length_set]; done) | rfl)) (.cons (.agg (.cons (.same _) (.cons (.same _) (.cons (.same _) (.cons (.same _) (.cons (.same _) (.cons (.same _) (.cons (.same _) (.cons (.row (t := 32) (fz := (((encs_Expr [(Expr.mk 1 0 ([104, 101, 105, 103, 104, 116] : List UInt8) [] []), (Expr.mk 0 1 [] [] [])])).length)) (by kernel_rfl) (by first | (simp only [List.length_map, List.length_set]; done) | rfl)) (.cons (.same _) (.cons (.nils _) (.nil)))))))))))) (.nil))) (by kernel_rfl) (by kernel_rfl) (by kernel_rfl) (by kernel_rfl) (by kernel_rfl) (by kernel_rfl) (by kernel_rfl) (by kernel_rfl)) (by kernel_rfl) ?_
  refine o_runh 6 [(10, .int .i64 y7.2), (9, .ptr 9 0 0), (50, .int .i64 y7.2), (49, .agg (enc_Formula y7.1)), (44, .tup [.agg (enc_Formula y7.1), .int .i64 y7.2])] [(9, .box 35 [.int .i64 y7.1.Id, .int .i64 y7.1.Day, .int .i64 y7.1.Known, .int .i64 y7.1.Body.Op, .int .i64 y7.1.Body.N, .str y7.1.Body.S, .str y7.1.Body.Key, .vs 5 (encs_Expr y7.1.Body.Args), .int .i64 y7.1.Result, .vs 4 (List.map enc_Asked y7.1.Asked)]), (18, .row 51 5 (((List.map enc_Fact [(Fact.mk ([97, 114, 101, 97] : List UInt8) 100 0 0 5), (Fact.mk ([97, 114, 101, 97] : List UInt8) 90 10 0 8)])).length) (List.map enc_Fact [(Fact.mk ([97, 114, 101, 97] : List UInt8) 100 0 0 5), (Fact.mk ([97, 114, 101, 97] : List UInt8) 90 10 0 8)])), (42, .row 32 5 (((encs_Expr [(Expr.mk 1 0 ([104, 101, 105, 103, 104, 116] : List UInt8) [] []), (Expr.mk 0 1 [] [] [])])).length) (encs_Expr [(Expr.mk 1 0 ([104, 101, 105, 103, 104, 116] : List UInt8) [] []), (Expr.mk 0 1 [] [] [])])), (8, .box 32 [.int .i64 4, .int .i64 0, .str [], .str [], .sl 5 42 2 0 2]), (6, .box 35 [.int .i64 y6.1.Id, .int .i64 y6.1.Day, .int .i64 y6.1.Known, .int .i64 y6.1.Body.Op, .int .i64 y6.1.Body.N, .str y6.1.Body.S, .str y6.1.Body.Key, .vs 5 (encs_Expr y6.1.Body.Args), .int .i64 y6.1.Result, .vs 4 (List.map enc_Asked y6.1.Asked)]), (4, .box 35 [.int .i64 y4.1.Id, .int .i64 y4.1.Day, .int .i64 y4.1.Known, .int .i64 y4.1.Body.Op, .int .i64 y4.1.Body.N, .str y4.1.Body.S, .str y4.1.Body.Key, .vs 5 (encs_Expr y4.1.Body.Args), .int .i64 y4.1.Result, .vs 4 (List.map enc_Asked y4.1.Asked)]), (2, .box 35 [.int .i64 y2.1.Id, .int .i64 y2.1.Day, .int .i64 y2.1.Known, .int .i64 y2.1.Body.Op, .int .i64 y2.1.Body.N, .str y2.1.Body.S, .str y2.1.Body.Key, .vs 5 (encs_Expr y2.1.Body.Args), .int .i64 y2.1.Result, .vs 4 (List.map enc_Asked y2.1.Asked)])] (by kernel_rfl) ?_
  refine ov_nil ?_
  refine nrm_thenV ?_
  refine v_seq ?_
  refine vr_text ?_
  refine o_runs 2 [(53, .agg [.int .i64 0, .int .i64 (-1), .int .i64 0, .int .i64 0, .int .i64 0, .str [], .str [], .nils, .int .i64 0, .nils]), (52, .sl 5 18 2 0 2)] (by kernel_rfl) ?_
  obtain ⟨y8, c8, hs⟩ := bind_some hs
  refine o_loc (F := [(18, .row 51 5 (((List.map enc_Fact [(Fact.mk ([97, 114, 101, 97] : List UInt8) 100 0 0 5), (Fact.mk ([97, 114, 101, 97] : List UInt8) 90 10 0 8)])).length) (List.map enc_Fact [(Fact.mk ([97, 114, 101, 97] : List UInt8) 100 0 0 5), (Fact.mk ([97, 114, 101, 97] : List UInt8) 90 10 0 8)]))]) (F' := [(18, .row 51 5 (((List.map enc_Fact [(Fact.mk ([97, 114, 101, 97] : List UInt8) 100 0 0 5), (Fact.mk ([97, 114, 101, 97] : List UInt8) 90 10 0 8)])).length) (List.map enc_Fact [(Fact.mk ([97, 114, 101, 97] : List UInt8) 100 0 0 5), (Fact.mk ([97, 114, 101, 97] : List UInt8) 90 10 0 8)]))]) (v := .tup [.agg (enc_Formula y8.1), .int .i64 y8.2]) [18] (by kernel_rfl) (by kernel_rfl) rfl (by kernel_rfl) (loc_g (R := [(18, .row 51 5 (((List.map enc_Fact [(Fact.mk ([97, 114, 101, 97] : List UInt8) 100 0 0 5), (Fact.mk ([97, 114, 101, 97] : List UInt8) 90 10 0 8)])).length) (List.map enc_Fact [(Fact.mk ([97, 114, 101, 97] : List UInt8) 100 0 0 5), (Fact.mk ([97, 114, 101, 97] : List UInt8) 90 10 0 8)]))]) [.sl 5 18 2 0 2, .agg [.int .i64 0, .int .i64 (-1), .int .i64 0, .int .i64 0, .int .i64 0, .str [], .str [], .nils, .int .i64 0, .nils]] [] (callV_func hbv11 (by kernel_rfl)) (w_reopen_Make [(Fact.mk ([97, 114, 101, 97] : List UInt8) 100 0 0 5), (Fact.mk ([97, 114, 101, 97] : List UInt8) 90 10 0 8)] (Formula.mk 0 (-1) 0 (Expr.mk 0 0 [] [] []) 0 []) _ c8) (.cons (.row (t := 51) (fz := (((List.map enc_Fact [(Fact.mk ([97, 114, 101, 97] : List UInt8) 100 0 0 5), (Fact.mk ([97, 114, 101, 97] : List UInt8) 90 10 0 8)])).length)) (by kernel_rfl) (by first | (simp only [List.length_map, List.length_set]; done) | rfl)) (.cons (.agg (.cons (.same _) (.cons (.same _) (.cons (.same _) (.cons (.same _) (.cons (.same _) (.cons (.same _) (.cons (.same _) (.cons (.nils _) (.cons (.same _) (.cons (.nils _) (.nil)))))))))))) (.nil))) (by kernel_rfl) (by kernel_rfl) (by kernel_rfl) (by kernel_rfl) (by kernel_rfl) (by kernel_rfl) (by kernel_rfl) (by kernel_rfl)) (by kernel_rfl) ?_
  refine o_runh 6 [(12, .int .i64 y8.2), (11, .ptr 11 0 0), (56, .int .i64 y8.2), (55, .agg (enc_Formula y8.1)), (51, .tup [.agg (enc_Formula y8.1), .int .i64 y8.2])] [(11, .box 35 [.int .i64 y8.1.Id, .int .i64 y8.1.Day, .int .i64 y8.1.Known, .int .i64 y8.1.Body.Op, .int .i64 y8.1.Body.N, .str y8.1.Body.S, .str y8.1.Body.Key, .vs 5 (encs_Expr y8.1.Body.Args), .int .i64 y8.1.Result, .vs 4 (List.map enc_Asked y8.1.Asked)]), (18, .row 51 5 (((List.map enc_Fact [(Fact.mk ([97, 114, 101, 97] : List UInt8) 100 0 0 5), (Fact.mk ([97, 114, 101, 97] : List UInt8) 90 10 0 8)])).length) (List.map enc_Fact [(Fact.mk ([97, 114, 101, 97] : List UInt8) 100 0 0 5), (Fact.mk ([97, 114, 101, 97] : List UInt8) 90 10 0 8)])), (9, .box 35 [.int .i64 y7.1.Id, .int .i64 y7.1.Day, .int .i64 y7.1.Known, .int .i64 y7.1.Body.Op, .int .i64 y7.1.Body.N, .str y7.1.Body.S, .str y7.1.Body.Key, .vs 5 (encs_Expr y7.1.Body.Args), .int .i64 y7.1.Result, .vs 4 (List.map enc_Asked y7.1.Asked)]), (42, .row 32 5 (((encs_Expr [(Expr.mk 1 0 ([104, 101, 105, 103, 104, 116] : List UInt8) [] []), (Expr.mk 0 1 [] [] [])])).length) (encs_Expr [(Expr.mk 1 0 ([104, 101, 105, 103, 104, 116] : List UInt8) [] []), (Expr.mk 0 1 [] [] [])])), (8, .box 32 [.int .i64 4, .int .i64 0, .str [], .str [], .sl 5 42 2 0 2]), (6, .box 35 [.int .i64 y6.1.Id, .int .i64 y6.1.Day, .int .i64 y6.1.Known, .int .i64 y6.1.Body.Op, .int .i64 y6.1.Body.N, .str y6.1.Body.S, .str y6.1.Body.Key, .vs 5 (encs_Expr y6.1.Body.Args), .int .i64 y6.1.Result, .vs 4 (List.map enc_Asked y6.1.Asked)]), (4, .box 35 [.int .i64 y4.1.Id, .int .i64 y4.1.Day, .int .i64 y4.1.Known, .int .i64 y4.1.Body.Op, .int .i64 y4.1.Body.N, .str y4.1.Body.S, .str y4.1.Body.Key, .vs 5 (encs_Expr y4.1.Body.Args), .int .i64 y4.1.Result, .vs 4 (List.map enc_Asked y4.1.Asked)]), (2, .box 35 [.int .i64 y2.1.Id, .int .i64 y2.1.Day, .int .i64 y2.1.Known, .int .i64 y2.1.Body.Op, .int .i64 y2.1.Body.N, .str y2.1.Body.S, .str y2.1.Body.Key, .vs 5 (encs_Expr y2.1.Body.Args), .int .i64 y2.1.Result, .vs 4 (List.map enc_Asked y2.1.Asked)])] (by kernel_rfl) ?_
  refine ov_nil ?_
  refine nrm_thenV ?_
  refine v_seq ?_
  obtain ⟨z1, hs, hk1⟩ := bind_some hs
  refine v_join (S := Bool) (fun u => u = z1) (fun u => [(1, .sl 5 18 (([(Fact.mk ([97, 114, 101, 97] : List UInt8) 100 0 0 5), (Fact.mk ([97, 114, 101, 97] : List UInt8) 90 10 0 8)]).length) 0 (([(Fact.mk ([97, 114, 101, 97] : List UInt8) 100 0 0 5), (Fact.mk ([97, 114, 101, 97] : List UInt8) 90 10 0 8)]).length)), (2, .ptr 2 0 0), (4, .ptr 4 0 0), (6, .ptr 6 0 0), (9, .ptr 9 0 0), (10, .int .i64 y7.2), (12, .int .i64 y8.2), (13, .bool u)]) (fun u => [(18, .row 51 5 (((List.map enc_Fact [(Fact.mk ([97, 114, 101, 97] : List UInt8) 100 0 0 5), (Fact.mk ([97, 114, 101, 97] : List UInt8) 90 10 0 8)])).length) (List.map enc_Fact [(Fact.mk ([97, 114, 101, 97] : List UInt8) 100 0 0 5), (Fact.mk ([97, 114, 101, 97] : List UInt8) 90 10 0 8)])), (9, .box 35 [.int .i64 y7.1.Id, .int .i64 y7.1.Day, .int .i64 y7.1.Known, .int .i64 y7.1.Body.Op, .int .i64 y7.1.Body.N, .str y7.1.Body.S, .str y7.1.Body.Key, .vs 5 (encs_Expr y7.1.Body.Args), .int .i64 y7.1.Result, .vs 4 (List.map enc_Asked y7.1.Asked)]), (6, .box 35 [.int .i64 y6.1.Id, .int .i64 y6.1.Day, .int .i64 y6.1.Known, .int .i64 y6.1.Body.Op, .int .i64 y6.1.Body.N, .str y6.1.Body.S, .str y6.1.Body.Key, .vs 5 (encs_Expr y6.1.Body.Args), .int .i64 y6.1.Result, .vs 4 (List.map enc_Asked y6.1.Asked)]), (4, .box 35 [.int .i64 y4.1.Id, .int .i64 y4.1.Day, .int .i64 y4.1.Known, .int .i64 y4.1.Body.Op, .int .i64 y4.1.Body.N, .str y4.1.Body.S, .str y4.1.Body.Key, .vs 5 (encs_Expr y4.1.Body.Args), .int .i64 y4.1.Result, .vs 4 (List.map enc_Asked y4.1.Asked)]), (2, .box 35 [.int .i64 y2.1.Id, .int .i64 y2.1.Day, .int .i64 y2.1.Known, .int .i64 y2.1.Body.Op, .int .i64 y2.1.Body.N, .str y2.1.Body.S, .str y2.1.Body.Key, .vs 5 (encs_Expr y2.1.Body.Args), .int .i64 y2.1.Result, .vs 4 (List.map enc_Asked y2.1.Asked)])]) ?_ (fun v1 hz => ?_)
  · refine vr_text ?_
    refine o_runs 3 [(59, .bool (decide (y2.2 = 0))), (58, .bool (decide (y2.2 = 0))), (57, .int .i64 y2.2)] (by kernel_rfl) ?_
    cases h1 : ((decide (y2.2 = 0)))
    · replace hs := bif_f h1 hs
      refine o_runs 30 [(13, .bool false), (88, .bool false), (87, .no), (86, .no), (85, .bool false), (84, .bool false), (83, .no), (82, .no), (81, .no), (80, .bool false), (79, .bool false), (78, .no), (77, .no), (76, .bool false), (75, .bool false), (74, .no), (73, .no), (72, .no), (71, .no), (70, .no), (69, .bool false), (68, .bool false), (67, .no), (66, .no), (65, .no), (64, .bool false), (63, .bool false), (62, .no), (61, .no), (60, .no)] (by kernel_rfl) ?_
      refine ov_nil ?_
      obtain rfl := Option.some.inj hs
      refine nrm_join false rfl ?_
      exact Cut.trans (cut_eq 1 (v := .sl 5 18 2 0 2) (v' := .sl 5 18 (([(Fact.mk ([97, 114, 101, 97] : List UInt8) 100 0 0 5), (Fact.mk ([97, 114, 101, 97] : List UInt8) 90 10 0 8)]).length) 0 (([(Fact.mk ([97, 114, 101, 97] : List UInt8) 100 0 0 5), (Fact.mk ([97, 114, 101, 97] : List UInt8) 90 10 0 8)]).length)) (by kernel_rfl) (by first | rfl | simp only [List.length_set])) (cut_of [1, 2, 4, 6, 9, 10, 12, 13] [18, 9, 6, 4, 2] (by kernel_rfl) (by kernel_rfl) (by kernel_rfl))
    · replace hs := bif_t h1 hs
      refine o_runs 5 [(64, .bool (decide (y2.1.Result = 0))), (63, .bool (decide (y2.1.Result = 0))), (62, .bool (decide (y2.1.Result = 0))), (61, .int .i64 y2.1.Result), (60, .ptr 2 0 8)] (by kernel_rfl) ?_
      cases h2 : ((decide (y2.1.Result = 0)))
      · replace hs := bif_f h2 hs
        refine o_runs 25 [(13, .bool false), (88, .bool false), (87, .no), (86, .no), (85, .bool false), (84, .bool false), (83, .no), (82, .no), (81, .no), (80, .bool false), (79, .bool false), (78, .no), (77, .no), (76, .bool false), (75, .bool false), (74, .no), (73, .no), (72, .no), (71, .no), (70, .no), (69, .bool false), (68, .bool false), (67, .no), (66, .no), (65, .no)] (by kernel_rfl) ?_
        refine ov_nil ?_
        obtain rfl := Option.some.inj hs
        refine nrm_join false rfl ?_
        exact Cut.trans (cut_eq 1 (v := .sl 5 18 2 0 2) (v' := .sl 5 18 (([(Fact.mk ([97, 114, 101, 97] : List UInt8) 100 0 0 5), (Fact.mk ([97, 114, 101, 97] : List UInt8) 90 10 0 8)]).length) 0 (([(Fact.mk ([97, 114, 101, 97] : List UInt8) 100 0 0 5), (Fact.mk ([97, 114, 101, 97] : List UInt8) 90 10 0 8)]).length)) (by kernel_rfl) (by first | rfl | simp only [List.length_set])) (cut_of [1, 2, 4, 6, 9, 10, 12, 13] [18, 9, 6, 4, 2] (by kernel_rfl) (by kernel_rfl) (by kernel_rfl))
      · replace hs := bif_t h2 hs
        refine o_runs 5 [(69, .bool (decide (y2.1.Id = 1))), (68, .bool (decide (y2.1.Id = 1))), (67, .bool (decide (y2.1.Id = 1))), (66, .int .i64 y2.1.Id), (65, .ptr 2 0 0)] (by kernel_rfl) ?_
        cases h3 : ((decide (y2.1.Id = 1)))
        · replace hs := bif_f h3 hs
          refine o_runs 20 [(13, .bool false), (88, .bool false), (87, .no), (86, .no), (85, .bool false), (84, .bool false), (83, .no), (82, .no), (81, .no), (80, .bool false), (79, .bool false), (78, .no), (77, .no), (76, .bool false), (75, .bool false), (74, .no), (73, .no), (72, .no), (71, .no), (70, .no)] (by kernel_rfl) ?_
          refine ov_nil ?_
          obtain rfl := Option.some.inj hs
          refine nrm_join false rfl ?_
          exact Cut.trans (cut_eq 1 (v := .sl 5 18 2 0 2) (v' := .sl 5 18 (([(Fact.mk ([97, 114, 101, 97] : List UInt8) 100 0 0 5), (Fact.mk ([97, 114, 101, 97] : List UInt8) 90 10 0 8)]).length) 0 (([(Fact.mk ([97, 114, 101, 97] : List UInt8) 100 0 0 5), (Fact.mk ([97, 114, 101, 97] : List UInt8) 90 10 0 8)]).length)) (by kernel_rfl) (by first | rfl | simp only [List.length_set])) (cut_of [1, 2, 4, 6, 9, 10, 12, 13] [18, 9, 6, 4, 2] (by kernel_rfl) (by kernel_rfl) (by kernel_rfl))
        · replace hs := bif_t h3 hs
          refine o_runh 4 [(73, .sl 4 73 1 0 1), (72, .agg [.str ([97, 114, 101, 97] : List UInt8), .int .i64 12, .int .i64 100, .bool true]), (71, .vs 4 (List.map enc_Asked y2.1.Asked)), (70, .ptr 2 0 9)] [(73, .row 44 4 0 (List.map enc_Asked [(Asked.mk ([97, 114, 101, 97] : List UInt8) 12 100 true)])), (11, .box 35 [.int .i64 y8.1.Id, .int .i64 y8.1.Day, .int .i64 y8.1.Known, .int .i64 y8.1.Body.Op, .int .i64 y8.1.Body.N, .str y8.1.Body.S, .str y8.1.Body.Key, .vs 5 (encs_Expr y8.1.Body.Args), .int .i64 y8.1.Result, .vs 4 (List.map enc_Asked y8.1.Asked)]), (18, .row 51 5 (((List.map enc_Fact [(Fact.mk ([97, 114, 101, 97] : List UInt8) 100 0 0 5), (Fact.mk ([97, 114, 101, 97] : List UInt8) 90 10 0 8)])).length) (List.map enc_Fact [(Fact.mk ([97, 114, 101, 97] : List UInt8) 100 0 0 5), (Fact.mk ([97, 114, 101, 97] : List UInt8) 90 10 0 8)])), (9, .box 35 [.int .i64 y7.1.Id, .int .i64 y7.1.Day, .int .i64 y7.1.Known, .int .i64 y7.1.Body.Op, .int .i64 y7.1.Body.N, .str y7.1.Body.S, .str y7.1.Body.Key, .vs 5 (encs_Expr y7.1.Body.Args), .int .i64 y7.1.Result, .vs 4 (List.map enc_Asked y7.1.Asked)]), (42, .row 32 5 (((encs_Expr [(Expr.mk 1 0 ([104, 101, 105, 103, 104, 116] : List UInt8) [] []), (Expr.mk 0 1 [] [] [])])).length) (encs_Expr [(Expr.mk 1 0 ([104, 101, 105, 103, 104, 116] : List UInt8) [] []), (Expr.mk 0 1 [] [] [])])), (8, .box 32 [.int .i64 4, .int .i64 0, .str [], .str [], .sl 5 42 2 0 2]), (6, .box 35 [.int .i64 y6.1.Id, .int .i64 y6.1.Day, .int .i64 y6.1.Known, .int .i64 y6.1.Body.Op, .int .i64 y6.1.Body.N, .str y6.1.Body.S, .str y6.1.Body.Key, .vs 5 (encs_Expr y6.1.Body.Args), .int .i64 y6.1.Result, .vs 4 (List.map enc_Asked y6.1.Asked)]), (4, .box 35 [.int .i64 y4.1.Id, .int .i64 y4.1.Day, .int .i64 y4.1.Known, .int .i64 y4.1.Body.Op, .int .i64 y4.1.Body.N, .str y4.1.Body.S, .str y4.1.Body.Key, .vs 5 (encs_Expr y4.1.Body.Args), .int .i64 y4.1.Result, .vs 4 (List.map enc_Asked y4.1.Asked)]), (2, .box 35 [.int .i64 y2.1.Id, .int .i64 y2.1.Day, .int .i64 y2.1.Known, .int .i64 y2.1.Body.Op, .int .i64 y2.1.Body.N, .str y2.1.Body.S, .str y2.1.Body.Key, .vs 5 (encs_Expr y2.1.Body.Args), .int .i64 y2.1.Result, .vs 4 (List.map enc_Asked y2.1.Asked)])] (by kernel_rfl) ?_
          obtain ⟨y9, c9, hs⟩ := bind_some hs
          refine o_loc (F := [(73, .row 44 4 0 (List.map enc_Asked [(Asked.mk ([97, 114, 101, 97] : List UInt8) 12 100 true)]))]) (F' := [(73, .row 44 4 0 (List.map enc_Asked [(Asked.mk ([97, 114, 101, 97] : List UInt8) 12 100 true)]))]) (v := .bool y9) [73] (by kernel_rfl) (by kernel_rfl) rfl (by kernel_rfl) (loc_gcallB (vs := [.vs 4 (List.map enc_Asked y2.1.Asked), .sl 4 73 1 0 1]) (R := [(73, .row 44 4 0 (List.map enc_Asked [(Asked.mk ([97, 114, 101, 97] : List UInt8) 12 100 true)]))]) (callV_func hbv13 (by kernel_rfl)) (w_greenbeltref45_SameAsked y2.1.Asked [(Asked.mk ([97, 114, 101, 97] : List UInt8) 12 100 true)] _ c9) (.cons (.same _) (.cons (.row (t := 44) (fz := 0) (by kernel_rfl) (by first | (simp only [List.length_map, List.length_set]; done) | rfl)) (.nil))) (by kernel_rfl) (by kernel_rfl) (by kernel_rfl)) (by kernel_rfl) ?_
          refine o_runs 2 [(76, .bool y9), (75, .bool y9)] (by kernel_rfl) ?_
          cases h4 : (y9)
          · replace hs := bif_f h4 hs
            refine o_runs 13 [(13, .bool false), (88, .bool false), (87, .no), (86, .no), (85, .bool false), (84, .bool false), (83, .no), (82, .no), (81, .no), (80, .bool false), (79, .bool false), (78, .no), (77, .no)] (by kernel_rfl) ?_
            refine ov_nil ?_
            obtain rfl := Option.some.inj hs
            refine nrm_join false rfl ?_
            exact Cut.trans (cut_eq 1 (v := .sl 5 18 2 0 2) (v' := .sl 5 18 (([(Fact.mk ([97, 114, 101, 97] : List UInt8) 100 0 0 5), (Fact.mk ([97, 114, 101, 97] : List UInt8) 90 10 0 8)]).length) 0 (([(Fact.mk ([97, 114, 101, 97] : List UInt8) 100 0 0 5), (Fact.mk ([97, 114, 101, 97] : List UInt8) 90 10 0 8)]).length)) (by kernel_rfl) (by first | rfl | simp only [List.length_set])) (cut_of [1, 2, 4, 6, 9, 10, 12, 13] [18, 9, 6, 4, 2] (by kernel_rfl) (by kernel_rfl) (by kernel_rfl))
          · replace hs := bif_t h4 hs
            refine o_runs 4 [(80, .bool (decide (y4.2 = 0))), (79, .bool (decide (y4.2 = 0))), (78, .bool (decide (y4.2 = 0))), (77, .int .i64 y4.2)] (by kernel_rfl) ?_
            cases h5 : ((decide (y4.2 = 0)))
            · replace hs := bif_f h5 hs
              refine o_runs 9 [(13, .bool false), (88, .bool false), (87, .no), (86, .no), (85, .bool false), (84, .bool false), (83, .no), (82, .no), (81, .no)] (by kernel_rfl) ?_
              refine ov_nil ?_
              obtain rfl := Option.some.inj hs
              refine nrm_join false rfl ?_
              exact Cut.trans (cut_eq 1 (v := .sl 5 18 2 0 2) (v' := .sl 5 18 (([(Fact.mk ([97, 114, 101, 97] : List UInt8) 100 0 0 5), (Fact.mk ([97, 114, 101, 97] : List UInt8) 90 10 0 8)]).length) 0 (([(Fact.mk ([97, 114, 101, 97] : List UInt8) 100 0 0 5), (Fact.mk ([97, 114, 101, 97] : List UInt8) 90 10 0 8)]).length)) (by kernel_rfl) (by first | rfl | simp only [List.length_set])) (cut_of [1, 2, 4, 6, 9, 10, 12, 13] [18, 9, 6, 4, 2] (by kernel_rfl) (by kernel_rfl) (by kernel_rfl))
            · replace hs := bif_t h5 hs
              refine o_runs 5 [(85, .bool (decide (y4.1.Result = 1))), (84, .bool (decide (y4.1.Result = 1))), (83, .bool (decide (y4.1.Result = 1))), (82, .int .i64 y4.1.Result), (81, .ptr 4 0 8)] (by kernel_rfl) ?_
              cases h6 : ((decide (y4.1.Result = 1)))
              · replace hs := bif_f h6 hs
                refine o_runs 4 [(13, .bool false), (88, .bool false), (87, .no), (86, .no)] (by kernel_rfl) ?_
                refine ov_nil ?_
                obtain rfl := Option.some.inj hs
                refine nrm_join false rfl ?_
                exact Cut.trans (cut_eq 1 (v := .sl 5 18 2 0 2) (v' := .sl 5 18 (([(Fact.mk ([97, 114, 101, 97] : List UInt8) 100 0 0 5), (Fact.mk ([97, 114, 101, 97] : List UInt8) 90 10 0 8)]).length) 0 (([(Fact.mk ([97, 114, 101, 97] : List UInt8) 100 0 0 5), (Fact.mk ([97, 114, 101, 97] : List UInt8) 90 10 0 8)]).length)) (by kernel_rfl) (by first | rfl | simp only [List.length_set])) (cut_of [1, 2, 4, 6, 9, 10, 12, 13] [18, 9, 6, 4, 2] (by kernel_rfl) (by kernel_rfl) (by kernel_rfl))
              · replace hs := bif_t h6 hs
                refine o_runs 4 [(13, .bool (decide (y6.2 = 0))), (88, .bool (decide (y6.2 = 0))), (87, .bool (decide (y6.2 = 0))), (86, .int .i64 y6.2)] (by kernel_rfl) ?_
                refine ov_nil ?_
                obtain rfl := Option.some.inj hs
                refine nrm_join (decide (y6.2 = 0)) rfl ?_
                exact Cut.trans (cut_eq 1 (v := .sl 5 18 2 0 2) (v' := .sl 5 18 (([(Fact.mk ([97, 114, 101, 97] : List UInt8) 100 0 0 5), (Fact.mk ([97, 114, 101, 97] : List UInt8) 90 10 0 8)]).length) 0 (([(Fact.mk ([97, 114, 101, 97] : List UInt8) 100 0 0 5), (Fact.mk ([97, 114, 101, 97] : List UInt8) 90 10 0 8)]).length)) (by kernel_rfl) (by first | rfl | simp only [List.length_set])) (cut_of [1, 2, 4, 6, 9, 10, 12, 13] [18, 9, 6, 4, 2] (by kernel_rfl) (by kernel_rfl) (by kernel_rfl))
  · subst hz; clear hs; have hs := hk1; clear hk1
    refine nrm_thenV ?_
    refine v_seq ?_
    obtain ⟨z2, hs, hk2⟩ := bind_some hs
    refine v_join (S := Bool) (fun u => u = z2) (fun u => [(1, .sl 5 18 (([(Fact.mk ([97, 114, 101, 97] : List UInt8) 100 0 0 5), (Fact.mk ([97, 114, 101, 97] : List UInt8) 90 10 0 8)]).length) 0 (([(Fact.mk ([97, 114, 101, 97] : List UInt8) 100 0 0 5), (Fact.mk ([97, 114, 101, 97] : List UInt8) 90 10 0 8)]).length)), (2, .ptr 2 0 0), (9, .ptr 9 0 0), (10, .int .i64 y7.2), (12, .int .i64 y8.2), (13, .bool v1), (14, .bool u)]) (fun u => [(18, .row 51 5 (((List.map enc_Fact [(Fact.mk ([97, 114, 101, 97] : List UInt8) 100 0 0 5), (Fact.mk ([97, 114, 101, 97] : List UInt8) 90 10 0 8)])).length) (List.map enc_Fact [(Fact.mk ([97, 114, 101, 97] : List UInt8) 100 0 0 5), (Fact.mk ([97, 114, 101, 97] : List UInt8) 90 10 0 8)])), (9, .box 35 [.int .i64 y7.1.Id, .int .i64 y7.1.Day, .int .i64 y7.1.Known, .int .i64 y7.1.Body.Op, .int .i64 y7.1.Body.N, .str y7.1.Body.S, .str y7.1.Body.Key, .vs 5 (encs_Expr y7.1.Body.Args), .int .i64 y7.1.Result, .vs 4 (List.map enc_Asked y7.1.Asked)]), (2, .box 35 [.int .i64 y2.1.Id, .int .i64 y2.1.Day, .int .i64 y2.1.Known, .int .i64 y2.1.Body.Op, .int .i64 y2.1.Body.N, .str y2.1.Body.S, .str y2.1.Body.Key, .vs 5 (encs_Expr y2.1.Body.Args), .int .i64 y2.1.Result, .vs 4 (List.map enc_Asked y2.1.Asked)])]) ?_ (fun v2 hz => ?_)
    · refine vr_text ?_
      refine o_runh 3 [(91, .sl 10 91 1 0 1), (90, .agg (enc_Formula y2.1)), (89, .sl 5 18 (([(Fact.mk ([97, 114, 101, 97] : List UInt8) 100 0 0 5), (Fact.mk ([97, 114, 101, 97] : List UInt8) 90 10 0 8)]).length) 0 (([(Fact.mk ([97, 114, 101, 97] : List UInt8) 100 0 0 5), (Fact.mk ([97, 114, 101, 97] : List UInt8) 90 10 0 8)]).length))] [(91, .row 35 10 0 (List.map enc_Formula [y2.1])), (18, .row 51 5 (((List.map enc_Fact [(Fact.mk ([97, 114, 101, 97] : List UInt8) 100 0 0 5), (Fact.mk ([97, 114, 101, 97] : List UInt8) 90 10 0 8)])).length) (List.map enc_Fact [(Fact.mk ([97, 114, 101, 97] : List UInt8) 100 0 0 5), (Fact.mk ([97, 114, 101, 97] : List UInt8) 90 10 0 8)])), (9, .box 35 [.int .i64 y7.1.Id, .int .i64 y7.1.Day, .int .i64 y7.1.Known, .int .i64 y7.1.Body.Op, .int .i64 y7.1.Body.N, .str y7.1.Body.S, .str y7.1.Body.Key, .vs 5 (encs_Expr y7.1.Body.Args), .int .i64 y7.1.Result, .vs 4 (List.map enc_Asked y7.1.Asked)]), (6, .box 35 [.int .i64 y6.1.Id, .int .i64 y6.1.Day, .int .i64 y6.1.Known, .int .i64 y6.1.Body.Op, .int .i64 y6.1.Body.N, .str y6.1.Body.S, .str y6.1.Body.Key, .vs 5 (encs_Expr y6.1.Body.Args), .int .i64 y6.1.Result, .vs 4 (List.map enc_Asked y6.1.Asked)]), (4, .box 35 [.int .i64 y4.1.Id, .int .i64 y4.1.Day, .int .i64 y4.1.Known, .int .i64 y4.1.Body.Op, .int .i64 y4.1.Body.N, .str y4.1.Body.S, .str y4.1.Body.Key, .vs 5 (encs_Expr y4.1.Body.Args), .int .i64 y4.1.Result, .vs 4 (List.map enc_Asked y4.1.Asked)]), (2, .box 35 [.int .i64 y2.1.Id, .int .i64 y2.1.Day, .int .i64 y2.1.Known, .int .i64 y2.1.Body.Op, .int .i64 y2.1.Body.N, .str y2.1.Body.S, .str y2.1.Body.Key, .vs 5 (encs_Expr y2.1.Body.Args), .int .i64 y2.1.Result, .vs 4 (List.map enc_Asked y2.1.Asked)])] (by kernel_rfl) ?_
      obtain ⟨y10, c10, hs⟩ := bind_some hs
      refine o_to _ [(91, .row 35 10 (((List.map enc_Formula [y2.1])).length) (List.map enc_Formula [y2.1])), (18, .row 51 5 (((List.map enc_Fact [(Fact.mk ([97, 114, 101, 97] : List UInt8) 100 0 0 5), (Fact.mk ([97, 114, 101, 97] : List UInt8) 90 10 0 8)])).length) (List.map enc_Fact [(Fact.mk ([97, 114, 101, 97] : List UInt8) 100 0 0 5), (Fact.mk ([97, 114, 101, 97] : List UInt8) 90 10 0 8)])), (9, .box 35 [.int .i64 y7.1.Id, .int .i64 y7.1.Day, .int .i64 y7.1.Known, .int .i64 y7.1.Body.Op, .int .i64 y7.1.Body.N, .str y7.1.Body.S, .str y7.1.Body.Key, .vs 5 (encs_Expr y7.1.Body.Args), .int .i64 y7.1.Result, .vs 4 (List.map enc_Asked y7.1.Asked)]), (6, .box 35 [.int .i64 y6.1.Id, .int .i64 y6.1.Day, .int .i64 y6.1.Known, .int .i64 y6.1.Body.Op, .int .i64 y6.1.Body.N, .str y6.1.Body.S, .str y6.1.Body.Key, .vs 5 (encs_Expr y6.1.Body.Args), .int .i64 y6.1.Result, .vs 4 (List.map enc_Asked y6.1.Asked)]), (4, .box 35 [.int .i64 y4.1.Id, .int .i64 y4.1.Day, .int .i64 y4.1.Known, .int .i64 y4.1.Body.Op, .int .i64 y4.1.Body.N, .str y4.1.Body.S, .str y4.1.Body.Key, .vs 5 (encs_Expr y4.1.Body.Args), .int .i64 y4.1.Result, .vs 4 (List.map enc_Asked y4.1.Asked)]), (2, .box 35 [.int .i64 y2.1.Id, .int .i64 y2.1.Day, .int .i64 y2.1.Known, .int .i64 y2.1.Body.Op, .int .i64 y2.1.Body.N, .str y2.1.Body.S, .str y2.1.Body.Key, .vs 5 (encs_Expr y2.1.Body.Args), .int .i64 y2.1.Result, .vs 4 (List.map enc_Asked y2.1.Asked)])] (cut_freeze (F := [(91, .row 35 10 0 (List.map enc_Formula [y2.1]))]) [91] rfl (by kernel_rfl) (by kernel_rfl)) ?_
      refine o_loc (F := [(18, .row 51 5 (((List.map enc_Fact [(Fact.mk ([97, 114, 101, 97] : List UInt8) 100 0 0 5), (Fact.mk ([97, 114, 101, 97] : List UInt8) 90 10 0 8)])).length) (List.map enc_Fact [(Fact.mk ([97, 114, 101, 97] : List UInt8) 100 0 0 5), (Fact.mk ([97, 114, 101, 97] : List UInt8) 90 10 0 8)])), (91, .row 35 10 (((List.map enc_Formula [y2.1])).length) (List.map enc_Formula [y2.1]))]) (F' := [(18, .row 51 5 (((List.map enc_Fact [(Fact.mk ([97, 114, 101, 97] : List UInt8) 100 0 0 5), (Fact.mk ([97, 114, 101, 97] : List UInt8) 90 10 0 8)])).length) (List.map enc_Fact [(Fact.mk ([97, 114, 101, 97] : List UInt8) 100 0 0 5), (Fact.mk ([97, 114, 101, 97] : List UInt8) 90 10 0 8)])), (91, .row 35 10 (((List.map enc_Formula [y2.1])).length) (List.map enc_Formula [y2.1]))]) (v := .vs 1 (List.map EV.encI y10)) [18, 91] (by kernel_rfl) (by kernel_rfl) rfl (by kernel_rfl) (loc_g (R := [(18, .row 51 5 (((List.map enc_Fact [(Fact.mk ([97, 114, 101, 97] : List UInt8) 100 0 0 5), (Fact.mk ([97, 114, 101, 97] : List UInt8) 90 10 0 8)])).length) (List.map enc_Fact [(Fact.mk ([97, 114, 101, 97] : List UInt8) 100 0 0 5), (Fact.mk ([97, 114, 101, 97] : List UInt8) 90 10 0 8)])), (91, .row 35 10 (((List.map enc_Formula [y2.1])).length) (List.map enc_Formula [y2.1]))]) [.sl 5 18 (([(Fact.mk ([97, 114, 101, 97] : List UInt8) 100 0 0 5), (Fact.mk ([97, 114, 101, 97] : List UInt8) 90 10 0 8)]).length) 0 (([(Fact.mk ([97, 114, 101, 97] : List UInt8) 100 0 0 5), (Fact.mk ([97, 114, 101, 97] : List UInt8) 90 10 0 8)]).length), .sl 10 91 1 0 1, .int .i64 7] [] (callV_func hbv9 (by kernel_rfl)) (w_reopen_Reopened [(Fact.mk ([97, 114, 101, 97] : List UInt8) 100 0 0 5), (Fact.mk ([97, 114, 101, 97] : List UInt8) 90 10 0 8)] [y2.1] 7 _ c10) (.cons (.row (t := 51) (fz := (((List.map enc_Fact [(Fact.mk ([97, 114, 101, 97] : List UInt8) 100 0 0 5), (Fact.mk ([97, 114, 101, 97] : List UInt8) 90 10 0 8)])).length)) (by kernel_rfl) (by first | (simp only [List.length_map, List.length_set]; done) | rfl)) (.cons (.row (t := 35) (fz := (((List.map enc_Formula [y2.1])).length)) (by kernel_rfl) (by first | (simp only [List.length_map, List.length_set]; done) | rfl)) (.cons (.same _) (.nil)))) (by kernel_rfl) (by kernel_rfl) (by kernel_rfl) (by kernel_rfl) (by kernel_rfl) (by kernel_rfl) (by kernel_rfl) (by kernel_rfl)) (by kernel_rfl) ?_
      refine o_pure (v := .int .i64 (List.length y10 : Int)) (by kernel_rfl) (by kernel_rfl) (loc_lenVs (sz := 1) (els := (List.map EV.encI y10)) (by kernel_rfl) (by kernel_rfl) (List.length_map ..)) ?_
      refine o_runs 2 [(95, .bool (decide ((List.length y10 : Int) = 0))), (94, .bool (decide ((List.length y10 : Int) = 0)))] (by kernel_rfl) ?_
      cases h7 : ((decide ((List.length y10 : Int) = 0)))
      · replace hs := bif_f h7 hs
        refine o_runs 25 [(14, .bool false), (119, .bool false), (118, .no), (117, .no), (116, .no), (115, .no), (114, .no), (113, .bool false), (112, .bool false), (111, .no), (110, .no), (109, .no), (108, .no), (107, .no), (106, .no), (105, .no), (104, .bool false), (103, .bool false), (102, .no), (101, .no), (100, .no), (99, .no), (98, .no), (97, .no), (96, .no)] (by kernel_rfl) ?_
        refine ov_nil ?_
        obtain rfl := Option.some.inj hs
        refine nrm_join false rfl ?_
        exact cut_of [1, 2, 9, 10, 12, 13, 14] [18, 9, 2] (by kernel_rfl) (by kernel_rfl) (by kernel_rfl)
      · replace hs := bif_t h7 hs
        refine o_runh 4 [(99, .sl 10 99 2 0 2), (98, .agg (enc_Formula y4.1)), (97, .agg (enc_Formula y2.1)), (96, .sl 5 18 (([(Fact.mk ([97, 114, 101, 97] : List UInt8) 100 0 0 5), (Fact.mk ([97, 114, 101, 97] : List UInt8) 90 10 0 8)]).length) 0 (([(Fact.mk ([97, 114, 101, 97] : List UInt8) 100 0 0 5), (Fact.mk ([97, 114, 101, 97] : List UInt8) 90 10 0 8)]).length))] [(99, .row 35 10 0 (List.map enc_Formula [y2.1, y4.1])), (18, .row 51 5 (((List.map enc_Fact [(Fact.mk ([97, 114, 101, 97] : List UInt8) 100 0 0 5), (Fact.mk ([97, 114, 101, 97] : List UInt8) 90 10 0 8)])).length) (List.map enc_Fact [(Fact.mk ([97, 114, 101, 97] : List UInt8) 100 0 0 5), (Fact.mk ([97, 114, 101, 97] : List UInt8) 90 10 0 8)])), (91, .row 35 10 (((List.map enc_Formula [y2.1])).length) (List.map enc_Formula [y2.1])), (9, .box 35 [.int .i64 y7.1.Id, .int .i64 y7.1.Day, .int .i64 y7.1.Known, .int .i64 y7.1.Body.Op, .int .i64 y7.1.Body.N, .str y7.1.Body.S, .str y7.1.Body.Key, .vs 5 (encs_Expr y7.1.Body.Args), .int .i64 y7.1.Result, .vs 4 (List.map enc_Asked y7.1.Asked)]), (6, .box 35 [.int .i64 y6.1.Id, .int .i64 y6.1.Day, .int .i64 y6.1.Known, .int .i64 y6.1.Body.Op, .int .i64 y6.1.Body.N, .str y6.1.Body.S, .str y6.1.Body.Key, .vs 5 (encs_Expr y6.1.Body.Args), .int .i64 y6.1.Result, .vs 4 (List.map enc_Asked y6.1.Asked)]), (4, .box 35 [.int .i64 y4.1.Id, .int .i64 y4.1.Day, .int .i64 y4.1.Known, .int .i64 y4.1.Body.Op, .int .i64 y4.1.Body.N, .str y4.1.Body.S, .str y4.1.Body.Key, .vs 5 (encs_Expr y4.1.Body.Args), .int .i64 y4.1.Result, .vs 4 (List.map enc_Asked y4.1.Asked)]), (2, .box 35 [.int .i64 y2.1.Id, .int .i64 y2.1.Day, .int .i64 y2.1.Known, .int .i64 y2.1.Body.Op, .int .i64 y2.1.Body.N, .str y2.1.Body.S, .str y2.1.Body.Key, .vs 5 (encs_Expr y2.1.Body.Args), .int .i64 y2.1.Result, .vs 4 (List.map enc_Asked y2.1.Asked)])] (by kernel_rfl) ?_
        obtain ⟨y11, c11, hs⟩ := bind_some hs
        refine o_to _ [(99, .row 35 10 (((List.map enc_Formula [y2.1, y4.1])).length) (List.map enc_Formula [y2.1, y4.1])), (18, .row 51 5 (((List.map enc_Fact [(Fact.mk ([97, 114, 101, 97] : List UInt8) 100 0 0 5), (Fact.mk ([97, 114, 101, 97] : List UInt8) 90 10 0 8)])).length) (List.map enc_Fact [(Fact.mk ([97, 114, 101, 97] : List UInt8) 100 0 0 5), (Fact.mk ([97, 114, 101, 97] : List UInt8) 90 10 0 8)])), (91, .row 35 10 (((List.map enc_Formula [y2.1])).length) (List.map enc_Formula [y2.1])), (9, .box 35 [.int .i64 y7.1.Id, .int .i64 y7.1.Day, .int .i64 y7.1.Known, .int .i64 y7.1.Body.Op, .int .i64 y7.1.Body.N, .str y7.1.Body.S, .str y7.1.Body.Key, .vs 5 (encs_Expr y7.1.Body.Args), .int .i64 y7.1.Result, .vs 4 (List.map enc_Asked y7.1.Asked)]), (6, .box 35 [.int .i64 y6.1.Id, .int .i64 y6.1.Day, .int .i64 y6.1.Known, .int .i64 y6.1.Body.Op, .int .i64 y6.1.Body.N, .str y6.1.Body.S, .str y6.1.Body.Key, .vs 5 (encs_Expr y6.1.Body.Args), .int .i64 y6.1.Result, .vs 4 (List.map enc_Asked y6.1.Asked)]), (4, .box 35 [.int .i64 y4.1.Id, .int .i64 y4.1.Day, .int .i64 y4.1.Known, .int .i64 y4.1.Body.Op, .int .i64 y4.1.Body.N, .str y4.1.Body.S, .str y4.1.Body.Key, .vs 5 (encs_Expr y4.1.Body.Args), .int .i64 y4.1.Result, .vs 4 (List.map enc_Asked y4.1.Asked)]), (2, .box 35 [.int .i64 y2.1.Id, .int .i64 y2.1.Day, .int .i64 y2.1.Known, .int .i64 y2.1.Body.Op, .int .i64 y2.1.Body.N, .str y2.1.Body.S, .str y2.1.Body.Key, .vs 5 (encs_Expr y2.1.Body.Args), .int .i64 y2.1.Result, .vs 4 (List.map enc_Asked y2.1.Asked)])] (cut_freeze (F := [(99, .row 35 10 0 (List.map enc_Formula [y2.1, y4.1]))]) [99] rfl (by kernel_rfl) (by kernel_rfl)) ?_
        refine o_loc (F := [(18, .row 51 5 (((List.map enc_Fact [(Fact.mk ([97, 114, 101, 97] : List UInt8) 100 0 0 5), (Fact.mk ([97, 114, 101, 97] : List UInt8) 90 10 0 8)])).length) (List.map enc_Fact [(Fact.mk ([97, 114, 101, 97] : List UInt8) 100 0 0 5), (Fact.mk ([97, 114, 101, 97] : List UInt8) 90 10 0 8)])), (99, .row 35 10 (((List.map enc_Formula [y2.1, y4.1])).length) (List.map enc_Formula [y2.1, y4.1]))]) (F' := [(18, .row 51 5 (((List.map enc_Fact [(Fact.mk ([97, 114, 101, 97] : List UInt8) 100 0 0 5), (Fact.mk ([97, 114, 101, 97] : List UInt8) 90 10 0 8)])).length) (List.map enc_Fact [(Fact.mk ([97, 114, 101, 97] : List UInt8) 100 0 0 5), (Fact.mk ([97, 114, 101, 97] : List UInt8) 90 10 0 8)])), (99, .row 35 10 (((List.map enc_Formula [y2.1, y4.1])).length) (List.map enc_Formula [y2.1, y4.1]))]) (v := .vs 1 (List.map EV.encI y11)) [18, 99] (by kernel_rfl) (by kernel_rfl) rfl (by kernel_rfl) (loc_g (R := [(18, .row 51 5 (((List.map enc_Fact [(Fact.mk ([97, 114, 101, 97] : List UInt8) 100 0 0 5), (Fact.mk ([97, 114, 101, 97] : List UInt8) 90 10 0 8)])).length) (List.map enc_Fact [(Fact.mk ([97, 114, 101, 97] : List UInt8) 100 0 0 5), (Fact.mk ([97, 114, 101, 97] : List UInt8) 90 10 0 8)])), (99, .row 35 10 (((List.map enc_Formula [y2.1, y4.1])).length) (List.map enc_Formula [y2.1, y4.1]))]) [.sl 5 18 (([(Fact.mk ([97, 114, 101, 97] : List UInt8) 100 0 0 5), (Fact.mk ([97, 114, 101, 97] : List UInt8) 90 10 0 8)]).length) 0 (([(Fact.mk ([97, 114, 101, 97] : List UInt8) 100 0 0 5), (Fact.mk ([97, 114, 101, 97] : List UInt8) 90 10 0 8)]).length), .sl 10 99 2 0 2, .int .i64 8] [] (callV_func hbv9 (by kernel_rfl)) (w_reopen_Reopened [(Fact.mk ([97, 114, 101, 97] : List UInt8) 100 0 0 5), (Fact.mk ([97, 114, 101, 97] : List UInt8) 90 10 0 8)] [y2.1, y4.1] 8 _ c11) (.cons (.row (t := 51) (fz := (((List.map enc_Fact [(Fact.mk ([97, 114, 101, 97] : List UInt8) 100 0 0 5), (Fact.mk ([97, 114, 101, 97] : List UInt8) 90 10 0 8)])).length)) (by kernel_rfl) (by first | (simp only [List.length_map, List.length_set]; done) | rfl)) (.cons (.row (t := 35) (fz := (((List.map enc_Formula [y2.1, y4.1])).length)) (by kernel_rfl) (by first | (simp only [List.length_map, List.length_set]; done) | rfl)) (.cons (.same _) (.nil)))) (by kernel_rfl) (by kernel_rfl) (by kernel_rfl) (by kernel_rfl) (by kernel_rfl) (by kernel_rfl) (by kernel_rfl) (by kernel_rfl)) (by kernel_rfl) ?_
        refine o_runh 1 [(101, .sl 1 101 1 0 1)] [(101, .row 3 1 0 (List.map EV.encI [0])), (18, .row 51 5 (((List.map enc_Fact [(Fact.mk ([97, 114, 101, 97] : List UInt8) 100 0 0 5), (Fact.mk ([97, 114, 101, 97] : List UInt8) 90 10 0 8)])).length) (List.map enc_Fact [(Fact.mk ([97, 114, 101, 97] : List UInt8) 100 0 0 5), (Fact.mk ([97, 114, 101, 97] : List UInt8) 90 10 0 8)])), (99, .row 35 10 (((List.map enc_Formula [y2.1, y4.1])).length) (List.map enc_Formula [y2.1, y4.1])), (91, .row 35 10 (((List.map enc_Formula [y2.1])).length) (List.map enc_Formula [y2.1])), (9, .box 35 [.int .i64 y7.1.Id, .int .i64 y7.1.Day, .int .i64 y7.1.Known, .int .i64 y7.1.Body.Op, .int .i64 y7.1.Body.N, .str y7.1.Body.S, .str y7.1.Body.Key, .vs 5 (encs_Expr y7.1.Body.Args), .int .i64 y7.1.Result, .vs 4 (List.map enc_Asked y7.1.Asked)]), (6, .box 35 [.int .i64 y6.1.Id, .int .i64 y6.1.Day, .int .i64 y6.1.Known, .int .i64 y6.1.Body.Op, .int .i64 y6.1.Body.N, .str y6.1.Body.S, .str y6.1.Body.Key, .vs 5 (encs_Expr y6.1.Body.Args), .int .i64 y6.1.Result, .vs 4 (List.map enc_Asked y6.1.Asked)]), (4, .box 35 [.int .i64 y4.1.Id, .int .i64 y4.1.Day, .int .i64 y4.1.Known, .int .i64 y4.1.Body.Op, .int .i64 y4.1.Body.N, .str y4.1.Body.S, .str y4.1.Body.Key, .vs 5 (encs_Expr y4.1.Body.Args), .int .i64 y4.1.Result, .vs 4 (List.map enc_Asked y4.1.Asked)]), (2, .box 35 [.int .i64 y2.1.Id, .int .i64 y2.1.Day, .int .i64 y2.1.Known, .int .i64 y2.1.Body.Op, .int .i64 y2.1.Body.N, .str y2.1.Body.S, .str y2.1.Body.Key, .vs 5 (encs_Expr y2.1.Body.Args), .int .i64 y2.1.Result, .vs 4 (List.map enc_Asked y2.1.Asked)])] (by kernel_rfl) ?_
        obtain ⟨y12, c12, hs⟩ := bind_some hs
        refine o_loc (F := [(101, .row 3 1 0 (List.map EV.encI [0]))]) (F' := [(101, .row 3 1 0 (List.map EV.encI [0]))]) (v := .bool y12) [101] (by kernel_rfl) (by kernel_rfl) rfl (by kernel_rfl) (loc_gcallB (vs := [.vs 1 (List.map EV.encI y11), .sl 1 101 1 0 1]) (R := [(101, .row 3 1 0 (List.map EV.encI [0]))]) (callV_func hbv17 (by kernel_rfl)) (w_greenbeltref45_Ints y11 [0] _ c12) (.cons (.same _) (.cons (.row (t := 3) (fz := 0) (by kernel_rfl) (by first | (simp only [List.length_map, List.length_set]; done) | rfl)) (.nil))) (by kernel_rfl) (by kernel_rfl) (by kernel_rfl)) (by kernel_rfl) ?_
        refine o_runs 2 [(104, .bool y12), (103, .bool y12)] (by kernel_rfl) ?_
        cases h8 : (y12)
        · replace hs := bif_f h8 hs
          refine o_runs 16 [(14, .bool false), (119, .bool false), (118, .no), (117, .no), (116, .no), (115, .no), (114, .no), (113, .bool false), (112, .bool false), (111, .no), (110, .no), (109, .no), (108, .no), (107, .no), (106, .no), (105, .no)] (by kernel_rfl) ?_
          refine ov_nil ?_
          obtain rfl := Option.some.inj hs
          refine nrm_join false rfl ?_
          exact cut_of [1, 2, 9, 10, 12, 13, 14] [18, 9, 2] (by kernel_rfl) (by kernel_rfl) (by kernel_rfl)
        · replace hs := bif_t h8 hs
          refine o_runh 4 [(108, .sl 10 108 2 0 2), (107, .agg (enc_Formula y4.1)), (106, .agg (enc_Formula y2.1)), (105, .sl 5 18 (([(Fact.mk ([97, 114, 101, 97] : List UInt8) 100 0 0 5), (Fact.mk ([97, 114, 101, 97] : List UInt8) 90 10 0 8)]).length) 0 (([(Fact.mk ([97, 114, 101, 97] : List UInt8) 100 0 0 5), (Fact.mk ([97, 114, 101, 97] : List UInt8) 90 10 0 8)]).length))] [(108, .row 35 10 0 (List.map enc_Formula [y2.1, y4.1])), (101, .row 3 1 0 (List.map EV.encI [0])), (18, .row 51 5 (((List.map enc_Fact [(Fact.mk ([97, 114, 101, 97] : List UInt8) 100 0 0 5), (Fact.mk ([97, 114, 101, 97] : List UInt8) 90 10 0 8)])).length) (List.map enc_Fact [(Fact.mk ([97, 114, 101, 97] : List UInt8) 100 0 0 5), (Fact.mk ([97, 114, 101, 97] : List UInt8) 90 10 0 8)])), (99, .row 35 10 (((List.map enc_Formula [y2.1, y4.1])).length) (List.map enc_Formula [y2.1, y4.1])), (91, .row 35 10 (((List.map enc_Formula [y2.1])).length) (List.map enc_Formula [y2.1])), (9, .box 35 [.int .i64 y7.1.Id, .int .i64 y7.1.Day, .int .i64 y7.1.Known, .int .i64 y7.1.Body.Op, .int .i64 y7.1.Body.N, .str y7.1.Body.S, .str y7.1.Body.Key, .vs 5 (encs_Expr y7.1.Body.Args), .int .i64 y7.1.Result, .vs 4 (List.map enc_Asked y7.1.Asked)]), (6, .box 35 [.int .i64 y6.1.Id, .int .i64 y6.1.Day, .int .i64 y6.1.Known, .int .i64 y6.1.Body.Op, .int .i64 y6.1.Body.N, .str y6.1.Body.S, .str y6.1.Body.Key, .vs 5 (encs_Expr y6.1.Body.Args), .int .i64 y6.1.Result, .vs 4 (List.map enc_Asked y6.1.Asked)]), (4, .box 35 [.int .i64 y4.1.Id, .int .i64 y4.1.Day, .int .i64 y4.1.Known, .int .i64 y4.1.Body.Op, .int .i64 y4.1.Body.N, .str y4.1.Body.S, .str y4.1.Body.Key, .vs 5 (encs_Expr y4.1.Body.Args), .int .i64 y4.1.Result, .vs 4 (List.map enc_Asked y4.1.Asked)]), (2, .box 35 [.int .i64 y2.1.Id, .int .i64 y2.1.Day, .int .i64 y2.1.Known, .int .i64 y2.1.Body.Op, .int .i64 y2.1.Body.N, .str y2.1.Body.S, .str y2.1.Body.Key, .vs 5 (encs_Expr y2.1.Body.Args), .int .i64 y2.1.Result, .vs 4 (List.map enc_Asked y2.1.Asked)])] (by kernel_rfl) ?_
          obtain ⟨y13, c13, hs⟩ := bind_some hs
          refine o_to _ [(108, .row 35 10 (((List.map enc_Formula [y2.1, y4.1])).length) (List.map enc_Formula [y2.1, y4.1])), (101, .row 3 1 0 (List.map EV.encI [0])), (18, .row 51 5 (((List.map enc_Fact [(Fact.mk ([97, 114, 101, 97] : List UInt8) 100 0 0 5), (Fact.mk ([97, 114, 101, 97] : List UInt8) 90 10 0 8)])).length) (List.map enc_Fact [(Fact.mk ([97, 114, 101, 97] : List UInt8) 100 0 0 5), (Fact.mk ([97, 114, 101, 97] : List UInt8) 90 10 0 8)])), (99, .row 35 10 (((List.map enc_Formula [y2.1, y4.1])).length) (List.map enc_Formula [y2.1, y4.1])), (91, .row 35 10 (((List.map enc_Formula [y2.1])).length) (List.map enc_Formula [y2.1])), (9, .box 35 [.int .i64 y7.1.Id, .int .i64 y7.1.Day, .int .i64 y7.1.Known, .int .i64 y7.1.Body.Op, .int .i64 y7.1.Body.N, .str y7.1.Body.S, .str y7.1.Body.Key, .vs 5 (encs_Expr y7.1.Body.Args), .int .i64 y7.1.Result, .vs 4 (List.map enc_Asked y7.1.Asked)]), (6, .box 35 [.int .i64 y6.1.Id, .int .i64 y6.1.Day, .int .i64 y6.1.Known, .int .i64 y6.1.Body.Op, .int .i64 y6.1.Body.N, .str y6.1.Body.S, .str y6.1.Body.Key, .vs 5 (encs_Expr y6.1.Body.Args), .int .i64 y6.1.Result, .vs 4 (List.map enc_Asked y6.1.Asked)]), (4, .box 35 [.int .i64 y4.1.Id, .int .i64 y4.1.Day, .int .i64 y4.1.Known, .int .i64 y4.1.Body.Op, .int .i64 y4.1.Body.N, .str y4.1.Body.S, .str y4.1.Body.Key, .vs 5 (encs_Expr y4.1.Body.Args), .int .i64 y4.1.Result, .vs 4 (List.map enc_Asked y4.1.Asked)]), (2, .box 35 [.int .i64 y2.1.Id, .int .i64 y2.1.Day, .int .i64 y2.1.Known, .int .i64 y2.1.Body.Op, .int .i64 y2.1.Body.N, .str y2.1.Body.S, .str y2.1.Body.Key, .vs 5 (encs_Expr y2.1.Body.Args), .int .i64 y2.1.Result, .vs 4 (List.map enc_Asked y2.1.Asked)])] (cut_freeze (F := [(108, .row 35 10 0 (List.map enc_Formula [y2.1, y4.1]))]) [108] rfl (by kernel_rfl) (by kernel_rfl)) ?_
          refine o_loc (F := [(18, .row 51 5 (((List.map enc_Fact [(Fact.mk ([97, 114, 101, 97] : List UInt8) 100 0 0 5), (Fact.mk ([97, 114, 101, 97] : List UInt8) 90 10 0 8)])).length) (List.map enc_Fact [(Fact.mk ([97, 114, 101, 97] : List UInt8) 100 0 0 5), (Fact.mk ([97, 114, 101, 97] : List UInt8) 90 10 0 8)])), (108, .row 35 10 (((List.map enc_Formula [y2.1, y4.1])).length) (List.map enc_Formula [y2.1, y4.1]))]) (F' := [(18, .row 51 5 (((List.map enc_Fact [(Fact.mk ([97, 114, 101, 97] : List UInt8) 100 0 0 5), (Fact.mk ([97, 114, 101, 97] : List UInt8) 90 10 0 8)])).length) (List.map enc_Fact [(Fact.mk ([97, 114, 101, 97] : List UInt8) 100 0 0 5), (Fact.mk ([97, 114, 101, 97] : List UInt8) 90 10 0 8)])), (108, .row 35 10 (((List.map enc_Formula [y2.1, y4.1])).length) (List.map enc_Formula [y2.1, y4.1]))]) (v := .vs 1 (List.map EV.encI y13)) [18, 108] (by kernel_rfl) (by kernel_rfl) rfl (by kernel_rfl) (loc_g (R := [(18, .row 51 5 (((List.map enc_Fact [(Fact.mk ([97, 114, 101, 97] : List UInt8) 100 0 0 5), (Fact.mk ([97, 114, 101, 97] : List UInt8) 90 10 0 8)])).length) (List.map enc_Fact [(Fact.mk ([97, 114, 101, 97] : List UInt8) 100 0 0 5), (Fact.mk ([97, 114, 101, 97] : List UInt8) 90 10 0 8)])), (108, .row 35 10 (((List.map enc_Formula [y2.1, y4.1])).length) (List.map enc_Formula [y2.1, y4.1]))]) [.sl 5 18 (([(Fact.mk ([97, 114, 101, 97] : List UInt8) 100 0 0 5), (Fact.mk ([97, 114, 101, 97] : List UInt8) 90 10 0 8)]).length) 0 (([(Fact.mk ([97, 114, 101, 97] : List UInt8) 100 0 0 5), (Fact.mk ([97, 114, 101, 97] : List UInt8) 90 10 0 8)]).length), .sl 10 108 2 0 2, .int .i64 8] [] (callV_func hbv10 (by kernel_rfl)) (w_reopen_Touched [(Fact.mk ([97, 114, 101, 97] : List UInt8) 100 0 0 5), (Fact.mk ([97, 114, 101, 97] : List UInt8) 90 10 0 8)] [y2.1, y4.1] 8 _ c13) (.cons (.row (t := 51) (fz := (((List.map enc_Fact [(Fact.mk ([97, 114, 101, 97] : List UInt8) 100 0 0 5), (Fact.mk ([97, 114, 101, 97] : List UInt8) 90 10 0 8)])).length)) (by kernel_rfl) (by first | (simp only [List.length_map, List.length_set]; done) | rfl)) (.cons (.row (t := 35) (fz := (((List.map enc_Formula [y2.1, y4.1])).length)) (by kernel_rfl) (by first | (simp only [List.length_map, List.length_set]; done) | rfl)) (.cons (.same _) (.nil)))) (by kernel_rfl) (by kernel_rfl) (by kernel_rfl) (by kernel_rfl) (by kernel_rfl) (by kernel_rfl) (by kernel_rfl) (by kernel_rfl)) (by kernel_rfl) ?_
          refine o_runh 1 [(110, .sl 1 110 2 0 2)] [(110, .row 3 1 0 (List.map EV.encI [0, 1])), (18, .row 51 5 (((List.map enc_Fact [(Fact.mk ([97, 114, 101, 97] : List UInt8) 100 0 0 5), (Fact.mk ([97, 114, 101, 97] : List UInt8) 90 10 0 8)])).length) (List.map enc_Fact [(Fact.mk ([97, 114, 101, 97] : List UInt8) 100 0 0 5), (Fact.mk ([97, 114, 101, 97] : List UInt8) 90 10 0 8)])), (108, .row 35 10 (((List.map enc_Formula [y2.1, y4.1])).length) (List.map enc_Formula [y2.1, y4.1])), (101, .row 3 1 0 (List.map EV.encI [0])), (99, .row 35 10 (((List.map enc_Formula [y2.1, y4.1])).length) (List.map enc_Formula [y2.1, y4.1])), (91, .row 35 10 (((List.map enc_Formula [y2.1])).length) (List.map enc_Formula [y2.1])), (9, .box 35 [.int .i64 y7.1.Id, .int .i64 y7.1.Day, .int .i64 y7.1.Known, .int .i64 y7.1.Body.Op, .int .i64 y7.1.Body.N, .str y7.1.Body.S, .str y7.1.Body.Key, .vs 5 (encs_Expr y7.1.Body.Args), .int .i64 y7.1.Result, .vs 4 (List.map enc_Asked y7.1.Asked)]), (6, .box 35 [.int .i64 y6.1.Id, .int .i64 y6.1.Day, .int .i64 y6.1.Known, .int .i64 y6.1.Body.Op, .int .i64 y6.1.Body.N, .str y6.1.Body.S, .str y6.1.Body.Key, .vs 5 (encs_Expr y6.1.Body.Args), .int .i64 y6.1.Result, .vs 4 (List.map enc_Asked y6.1.Asked)]), (4, .box 35 [.int .i64 y4.1.Id, .int .i64 y4.1.Day, .int .i64 y4.1.Known, .int .i64 y4.1.Body.Op, .int .i64 y4.1.Body.N, .str y4.1.Body.S, .str y4.1.Body.Key, .vs 5 (encs_Expr y4.1.Body.Args), .int .i64 y4.1.Result, .vs 4 (List.map enc_Asked y4.1.Asked)]), (2, .box 35 [.int .i64 y2.1.Id, .int .i64 y2.1.Day, .int .i64 y2.1.Known, .int .i64 y2.1.Body.Op, .int .i64 y2.1.Body.N, .str y2.1.Body.S, .str y2.1.Body.Key, .vs 5 (encs_Expr y2.1.Body.Args), .int .i64 y2.1.Result, .vs 4 (List.map enc_Asked y2.1.Asked)])] (by kernel_rfl) ?_
          obtain ⟨y14, c14, hs⟩ := bind_some hs
          refine o_loc (F := [(110, .row 3 1 0 (List.map EV.encI [0, 1]))]) (F' := [(110, .row 3 1 0 (List.map EV.encI [0, 1]))]) (v := .bool y14) [110] (by kernel_rfl) (by kernel_rfl) rfl (by kernel_rfl) (loc_gcallB (vs := [.vs 1 (List.map EV.encI y13), .sl 1 110 2 0 2]) (R := [(110, .row 3 1 0 (List.map EV.encI [0, 1]))]) (callV_func hbv17 (by kernel_rfl)) (w_greenbeltref45_Ints y13 [0, 1] _ c14) (.cons (.same _) (.cons (.row (t := 3) (fz := 0) (by kernel_rfl) (by first | (simp only [List.length_map, List.length_set]; done) | rfl)) (.nil))) (by kernel_rfl) (by kernel_rfl) (by kernel_rfl)) (by kernel_rfl) ?_
          refine o_runs 2 [(113, .bool y14), (112, .bool y14)] (by kernel_rfl) ?_
          cases h9 : (y14)
          · replace hs := bif_f h9 hs
            refine o_runs 7 [(14, .bool false), (119, .bool false), (118, .no), (117, .no), (116, .no), (115, .no), (114, .no)] (by kernel_rfl) ?_
            refine ov_nil ?_
            obtain rfl := Option.some.inj hs
            refine nrm_join false rfl ?_
            exact cut_of [1, 2, 9, 10, 12, 13, 14] [18, 9, 2] (by kernel_rfl) (by kernel_rfl) (by kernel_rfl)
          · replace hs := bif_t h9 hs
            refine o_runs 2 [(115, .agg (enc_Formula y6.1)), (114, .sl 5 18 (([(Fact.mk ([97, 114, 101, 97] : List UInt8) 100 0 0 5), (Fact.mk ([97, 114, 101, 97] : List UInt8) 90 10 0 8)]).length) 0 (([(Fact.mk ([97, 114, 101, 97] : List UInt8) 100 0 0 5), (Fact.mk ([97, 114, 101, 97] : List UInt8) 90 10 0 8)]).length))] (by kernel_rfl) ?_
            obtain ⟨y15, c15, hs⟩ := bind_some hs
            refine o_loc (F := [(18, .row 51 5 (((List.map enc_Fact [(Fact.mk ([97, 114, 101, 97] : List UInt8) 100 0 0 5), (Fact.mk ([97, 114, 101, 97] : List UInt8) 90 10 0 8)])).length) (List.map enc_Fact [(Fact.mk ([97, 114, 101, 97] : List UInt8) 100 0 0 5), (Fact.mk ([97, 114, 101, 97] : List UInt8) 90 10 0 8)]))]) (F' := [(18, .row 51 5 (((List.map enc_Fact [(Fact.mk ([97, 114, 101, 97] : List UInt8) 100 0 0 5), (Fact.mk ([97, 114, 101, 97] : List UInt8) 90 10 0 8)])).length) (List.map enc_Fact [(Fact.mk ([97, 114, 101, 97] : List UInt8) 100 0 0 5), (Fact.mk ([97, 114, 101, 97] : List UInt8) 90 10 0 8)]))]) (v := .vs 1 (List.map EV.encS y15)) [18] (by kernel_rfl) (by kernel_rfl) rfl (by kernel_rfl) (loc_g (R := [(18, .row 51 5 (((List.map enc_Fact [(Fact.mk ([97, 114, 101, 97] : List UInt8) 100 0 0 5), (Fact.mk ([97, 114, 101, 97] : List UInt8) 90 10 0 8)])).length) (List.map enc_Fact [(Fact.mk ([97, 114, 101, 97] : List UInt8) 100 0 0 5), (Fact.mk ([97, 114, 101, 97] : List UInt8) 90 10 0 8)]))]) [.sl 5 18 (([(Fact.mk ([97, 114, 101, 97] : List UInt8) 100 0 0 5), (Fact.mk ([97, 114, 101, 97] : List UInt8) 90 10 0 8)]).length) 0 (([(Fact.mk ([97, 114, 101, 97] : List UInt8) 100 0 0 5), (Fact.mk ([97, 114, 101, 97] : List UInt8) 90 10 0 8)]).length), .agg (enc_Formula y6.1), .int .i64 8] [] (callV_func hbv16 (by kernel_rfl)) (w_reopen_Stale [(Fact.mk ([97, 114, 101, 97] : List UInt8) 100 0 0 5), (Fact.mk ([97, 114, 101, 97] : List UInt8) 90 10 0 8)] y6.1 8 _ c15) (.cons (.row (t := 51) (fz := (((List.map enc_Fact [(Fact.mk ([97, 114, 101, 97] : List UInt8) 100 0 0 5), (Fact.mk ([97, 114, 101, 97] : List UInt8) 90 10 0 8)])).length)) (by kernel_rfl) (by first | (simp only [List.length_map, List.length_set]; done) | rfl)) (.cons (.same _) (.cons (.same _) (.nil)))) (by kernel_rfl) (by kernel_rfl) (by kernel_rfl) (by kernel_rfl) (by kernel_rfl) (by kernel_rfl) (by kernel_rfl) (by kernel_rfl)) (by kernel_rfl) ?_
            refine o_pure (v := .int .i64 (List.length y15 : Int)) (by kernel_rfl) (by kernel_rfl) (loc_lenVs (sz := 1) (els := (List.map EV.encS y15)) (by kernel_rfl) (by kernel_rfl) (List.length_map ..)) ?_
            refine o_runs 3 [(14, .bool (decide ((List.length y15 : Int) = 0))), (119, .bool (decide ((List.length y15 : Int) = 0))), (118, .bool (decide ((List.length y15 : Int) = 0)))] (by kernel_rfl) ?_
            refine ov_nil ?_
            obtain rfl := Option.some.inj hs
            refine nrm_join (decide ((List.length y15 : Int) = 0)) rfl ?_
            exact cut_of [1, 2, 9, 10, 12, 13, 14] [18, 9, 2] (by kernel_rfl) (by kernel_rfl) (by kernel_rfl)
    · subst hz; clear hs; have hs := hk2; clear hk2
      refine nrm_thenV ?_
      refine v_seq ?_
      obtain ⟨z3, hs, hk3⟩ := bind_some hs
      refine v_join (S := Bool) (fun u => u = z3) (fun u => [(1, .sl 5 18 (([(Fact.mk ([97, 114, 101, 97] : List UInt8) 100 0 0 5), (Fact.mk ([97, 114, 101, 97] : List UInt8) 90 10 0 8)]).length) 0 (([(Fact.mk ([97, 114, 101, 97] : List UInt8) 100 0 0 5), (Fact.mk ([97, 114, 101, 97] : List UInt8) 90 10 0 8)]).length)), (2, .ptr 2 0 0), (13, .bool v1), (14, .bool v2), (15, .bool u)]) (fun u => [(18, .row 51 5 (((List.map enc_Fact [(Fact.mk ([97, 114, 101, 97] : List UInt8) 100 0 0 5), (Fact.mk ([97, 114, 101, 97] : List UInt8) 90 10 0 8)])).length) (List.map enc_Fact [(Fact.mk ([97, 114, 101, 97] : List UInt8) 100 0 0 5), (Fact.mk ([97, 114, 101, 97] : List UInt8) 90 10 0 8)])), (2, .box 35 [.int .i64 y2.1.Id, .int .i64 y2.1.Day, .int .i64 y2.1.Known, .int .i64 y2.1.Body.Op, .int .i64 y2.1.Body.N, .str y2.1.Body.S, .str y2.1.Body.Key, .vs 5 (encs_Expr y2.1.Body.Args), .int .i64 y2.1.Result, .vs 4 (List.map enc_Asked y2.1.Asked)])]) ?_ (fun v3 hz => ?_)
      · refine vr_text ?_
        refine o_runs 3 [(122, .bool (decide (y7.2 = 0))), (121, .bool (decide (y7.2 = 0))), (120, .int .i64 y7.2)] (by kernel_rfl) ?_
        cases h10 : ((decide (y7.2 = 0)))
        · replace hs := bif_f h10 hs
          refine o_runs 16 [(15, .bool false), (137, .bool false), (136, .no), (135, .no), (134, .bool false), (133, .bool false), (132, .no), (131, .no), (130, .no), (129, .no), (128, .no), (127, .bool false), (126, .bool false), (125, .no), (124, .no), (123, .no)] (by kernel_rfl) ?_
          refine ov_nil ?_
          obtain rfl := Option.some.inj hs
          refine nrm_join false rfl ?_
          exact cut_of [1, 2, 13, 14, 15] [18, 2] (by kernel_rfl) (by kernel_rfl) (by kernel_rfl)
        · replace hs := bif_t h10 hs
          refine o_runs 5 [(127, .bool (decide (y7.1.Result = 1))), (126, .bool (decide (y7.1.Result = 1))), (125, .bool (decide (y7.1.Result = 1))), (124, .int .i64 y7.1.Result), (123, .ptr 9 0 8)] (by kernel_rfl) ?_
          cases h11 : ((decide (y7.1.Result = 1)))
          · replace hs := bif_f h11 hs
            refine o_runs 11 [(15, .bool false), (137, .bool false), (136, .no), (135, .no), (134, .bool false), (133, .bool false), (132, .no), (131, .no), (130, .no), (129, .no), (128, .no)] (by kernel_rfl) ?_
            refine ov_nil ?_
            obtain rfl := Option.some.inj hs
            refine nrm_join false rfl ?_
            exact cut_of [1, 2, 13, 14, 15] [18, 2] (by kernel_rfl) (by kernel_rfl) (by kernel_rfl)
          · replace hs := bif_t h11 hs
            refine o_runh 4 [(131, .sl 4 131 1 0 1), (130, .agg [.str ([104, 101, 105, 103, 104, 116] : List UInt8), .int .i64 0, .int .i64 0, .bool false]), (129, .vs 4 (List.map enc_Asked y7.1.Asked)), (128, .ptr 9 0 9)] [(131, .row 44 4 0 (List.map enc_Asked [(Asked.mk ([104, 101, 105, 103, 104, 116] : List UInt8) 0 0 false)])), (18, .row 51 5 (((List.map enc_Fact [(Fact.mk ([97, 114, 101, 97] : List UInt8) 100 0 0 5), (Fact.mk ([97, 114, 101, 97] : List UInt8) 90 10 0 8)])).length) (List.map enc_Fact [(Fact.mk ([97, 114, 101, 97] : List UInt8) 100 0 0 5), (Fact.mk ([97, 114, 101, 97] : List UInt8) 90 10 0 8)])), (9, .box 35 [.int .i64 y7.1.Id, .int .i64 y7.1.Day, .int .i64 y7.1.Known, .int .i64 y7.1.Body.Op, .int .i64 y7.1.Body.N, .str y7.1.Body.S, .str y7.1.Body.Key, .vs 5 (encs_Expr y7.1.Body.Args), .int .i64 y7.1.Result, .vs 4 (List.map enc_Asked y7.1.Asked)]), (2, .box 35 [.int .i64 y2.1.Id, .int .i64 y2.1.Day, .int .i64 y2.1.Known, .int .i64 y2.1.Body.Op, .int .i64 y2.1.Body.N, .str y2.1.Body.S, .str y2.1.Body.Key, .vs 5 (encs_Expr y2.1.Body.Args), .int .i64 y2.1.Result, .vs 4 (List.map enc_Asked y2.1.Asked)])] (by kernel_rfl) ?_
            obtain ⟨y16, c16, hs⟩ := bind_some hs
            refine o_loc (F := [(131, .row 44 4 0 (List.map enc_Asked [(Asked.mk ([104, 101, 105, 103, 104, 116] : List UInt8) 0 0 false)]))]) (F' := [(131, .row 44 4 0 (List.map enc_Asked [(Asked.mk ([104, 101, 105, 103, 104, 116] : List UInt8) 0 0 false)]))]) (v := .bool y16) [131] (by kernel_rfl) (by kernel_rfl) rfl (by kernel_rfl) (loc_gcallB (vs := [.vs 4 (List.map enc_Asked y7.1.Asked), .sl 4 131 1 0 1]) (R := [(131, .row 44 4 0 (List.map enc_Asked [(Asked.mk ([104, 101, 105, 103, 104, 116] : List UInt8) 0 0 false)]))]) (callV_func hbv13 (by kernel_rfl)) (w_greenbeltref45_SameAsked y7.1.Asked [(Asked.mk ([104, 101, 105, 103, 104, 116] : List UInt8) 0 0 false)] _ c16) (.cons (.same _) (.cons (.row (t := 44) (fz := 0) (by kernel_rfl) (by first | (simp only [List.length_map, List.length_set]; done) | rfl)) (.nil))) (by kernel_rfl) (by kernel_rfl) (by kernel_rfl)) (by kernel_rfl) ?_
            refine o_runs 2 [(134, .bool y16), (133, .bool y16)] (by kernel_rfl) ?_
            cases h12 : (y16)
            · replace hs := bif_f h12 hs
              refine o_runs 4 [(15, .bool false), (137, .bool false), (136, .no), (135, .no)] (by kernel_rfl) ?_
              refine ov_nil ?_
              obtain rfl := Option.some.inj hs
              refine nrm_join false rfl ?_
              exact cut_of [1, 2, 13, 14, 15] [18, 2] (by kernel_rfl) (by kernel_rfl) (by kernel_rfl)
            · replace hs := bif_t h12 hs
              refine o_runs 4 [(15, .bool (decide (y8.2 = 1))), (137, .bool (decide (y8.2 = 1))), (136, .bool (decide (y8.2 = 1))), (135, .int .i64 y8.2)] (by kernel_rfl) ?_
              refine ov_nil ?_
              obtain rfl := Option.some.inj hs
              refine nrm_join (decide (y8.2 = 1)) rfl ?_
              exact cut_of [1, 2, 13, 14, 15] [18, 2] (by kernel_rfl) (by kernel_rfl) (by kernel_rfl)
      · subst hz; clear hs; have hs := hk3; clear hk3
        refine nrm_thenV ?_
        refine v_seq ?_
        obtain ⟨z4, hs, hk4⟩ := bind_some hs
        refine v_join (S := Bool) (fun u => u = z4) (fun u => [(0, .bool u)]) (fun u => []) ?_ (fun v4 hz => ?_)
        · refine vr_text ?_
          refine o_runs 2 [(139, .bool v1), (138, .bool v1)] (by kernel_rfl) ?_
          cases h13 : (v1)
          · replace hs := bif_f h13 hs
            refine o_runs 25 [(0, .bool false), (163, .bool false), (162, .no), (161, .no), (160, .no), (159, .no), (158, .no), (157, .bool false), (156, .bool false), (155, .no), (154, .no), (153, .no), (152, .no), (151, .no), (150, .bool false), (149, .bool false), (148, .no), (147, .no), (146, .no), (145, .bool false), (144, .bool false), (143, .no), (142, .bool false), (141, .bool false), (140, .no)] (by kernel_rfl) ?_
            refine ov_nil ?_
            obtain rfl := Option.some.inj hs
            refine nrm_join false rfl ?_
            exact cut_of [0] [] (by kernel_rfl) (by kernel_rfl) (by kernel_rfl)
          · replace hs := bif_t h13 hs
            refine o_runs 3 [(142, .bool v2), (141, .bool v2), (140, .bool v2)] (by kernel_rfl) ?_
            cases h14 : (v2)
            · replace hs := bif_f h14 hs
              refine o_runs 22 [(0, .bool false), (163, .bool false), (162, .no), (161, .no), (160, .no), (159, .no), (158, .no), (157, .bool false), (156, .bool false), (155, .no), (154, .no), (153, .no), (152, .no), (151, .no), (150, .bool false), (149, .bool false), (148, .no), (147, .no), (146, .no), (145, .bool false), (144, .bool false), (143, .no)] (by kernel_rfl) ?_
              refine ov_nil ?_
              obtain rfl := Option.some.inj hs
              refine nrm_join false rfl ?_
              exact cut_of [0] [] (by kernel_rfl) (by kernel_rfl) (by kernel_rfl)
            · replace hs := bif_t h14 hs
              refine o_runs 3 [(145, .bool v3), (144, .bool v3), (143, .bool v3)] (by kernel_rfl) ?_
              cases h15 : (v3)
              · replace hs := bif_f h15 hs
                refine o_runs 19 [(0, .bool false), (163, .bool false), (162, .no), (161, .no), (160, .no), (159, .no), (158, .no), (157, .bool false), (156, .bool false), (155, .no), (154, .no), (153, .no), (152, .no), (151, .no), (150, .bool false), (149, .bool false), (148, .no), (147, .no), (146, .no)] (by kernel_rfl) ?_
                refine ov_nil ?_
                obtain rfl := Option.some.inj hs
                refine nrm_join false rfl ?_
                exact cut_of [0] [] (by kernel_rfl) (by kernel_rfl) (by kernel_rfl)
              · replace hs := bif_t h15 hs
                refine o_runs 2 [(147, .agg (enc_Formula y2.1)), (146, .sl 5 18 (([(Fact.mk ([97, 114, 101, 97] : List UInt8) 100 0 0 5), (Fact.mk ([97, 114, 101, 97] : List UInt8) 90 10 0 8)]).length) 0 (([(Fact.mk ([97, 114, 101, 97] : List UInt8) 100 0 0 5), (Fact.mk ([97, 114, 101, 97] : List UInt8) 90 10 0 8)]).length))] (by kernel_rfl) ?_
                obtain ⟨y17, c17, hs⟩ := bind_some hs
                refine o_loc (F := [(18, .row 51 5 (((List.map enc_Fact [(Fact.mk ([97, 114, 101, 97] : List UInt8) 100 0 0 5), (Fact.mk ([97, 114, 101, 97] : List UInt8) 90 10 0 8)])).length) (List.map enc_Fact [(Fact.mk ([97, 114, 101, 97] : List UInt8) 100 0 0 5), (Fact.mk ([97, 114, 101, 97] : List UInt8) 90 10 0 8)]))]) (F' := [(18, .row 51 5 (((List.map enc_Fact [(Fact.mk ([97, 114, 101, 97] : List UInt8) 100 0 0 5), (Fact.mk ([97, 114, 101, 97] : List UInt8) 90 10 0 8)])).length) (List.map enc_Fact [(Fact.mk ([97, 114, 101, 97] : List UInt8) 100 0 0 5), (Fact.mk ([97, 114, 101, 97] : List UInt8) 90 10 0 8)]))]) (v := .bool y17) [18] (by kernel_rfl) (by kernel_rfl) rfl (by kernel_rfl) (loc_gcallB (vs := [.sl 5 18 (([(Fact.mk ([97, 114, 101, 97] : List UInt8) 100 0 0 5), (Fact.mk ([97, 114, 101, 97] : List UInt8) 90 10 0 8)]).length) 0 (([(Fact.mk ([97, 114, 101, 97] : List UInt8) 100 0 0 5), (Fact.mk ([97, 114, 101, 97] : List UInt8) 90 10 0 8)]).length), .agg (enc_Formula y2.1)]) (R := [(18, .row 51 5 (((List.map enc_Fact [(Fact.mk ([97, 114, 101, 97] : List UInt8) 100 0 0 5), (Fact.mk ([97, 114, 101, 97] : List UInt8) 90 10 0 8)])).length) (List.map enc_Fact [(Fact.mk ([97, 114, 101, 97] : List UInt8) 100 0 0 5), (Fact.mk ([97, 114, 101, 97] : List UInt8) 90 10 0 8)]))]) (callV_func hbv15 (by kernel_rfl)) (w_reopen_Holds [(Fact.mk ([97, 114, 101, 97] : List UInt8) 100 0 0 5), (Fact.mk ([97, 114, 101, 97] : List UInt8) 90 10 0 8)] y2.1 _ c17) (.cons (.row (t := 51) (fz := (((List.map enc_Fact [(Fact.mk ([97, 114, 101, 97] : List UInt8) 100 0 0 5), (Fact.mk ([97, 114, 101, 97] : List UInt8) 90 10 0 8)])).length)) (by kernel_rfl) (by first | (simp only [List.length_map, List.length_set]; done) | rfl)) (.cons (.same _) (.nil))) (by kernel_rfl) (by kernel_rfl) (by kernel_rfl)) (by kernel_rfl) ?_
                refine o_runs 2 [(150, .bool y17), (149, .bool y17)] (by kernel_rfl) ?_
                cases h16 : (y17)
                · replace hs := bif_f h16 hs
                  refine o_runs 14 [(0, .bool false), (163, .bool false), (162, .no), (161, .no), (160, .no), (159, .no), (158, .no), (157, .bool false), (156, .bool false), (155, .no), (154, .no), (153, .no), (152, .no), (151, .no)] (by kernel_rfl) ?_
                  refine ov_nil ?_
                  obtain rfl := Option.some.inj hs
                  refine nrm_join false rfl ?_
                  exact cut_of [0] [] (by kernel_rfl) (by kernel_rfl) (by kernel_rfl)
                · replace hs := bif_t h16 hs
                  refine o_runs 1 [(151, .sl 5 18 (([(Fact.mk ([97, 114, 101, 97] : List UInt8) 100 0 0 5), (Fact.mk ([97, 114, 101, 97] : List UInt8) 90 10 0 8)]).length) 0 (([(Fact.mk ([97, 114, 101, 97] : List UInt8) 100 0 0 5), (Fact.mk ([97, 114, 101, 97] : List UInt8) 90 10 0 8)]).length))] (by kernel_rfl) ?_
                  obtain ⟨y18, c18, hs⟩ := bind_some hs
                  refine o_pure (v := .agg (enc_Expr y18)) (by kernel_rfl) (by kernel_rfl) (loc_gcall0 (callV_func hbv20 (by kernel_rfl)) (w_greenbeltlaw45_less ([97, 114, 101, 97] : List UInt8) 95 _ c18) (by kernel_rfl)) ?_
                  refine o_runs 1 [(153, .agg [.int .i64 1, .int .i64 12, .int .i64 6, .int .i64 y18.Op, .int .i64 y18.N, .str y18.S, .str y18.Key, .vs 5 (encs_Expr y18.Args), .int .i64 0, .nils])] (by kernel_rfl) ?_
                  obtain ⟨y19, c19, hs⟩ := bind_some hs
                  refine o_loc (F := [(18, .row 51 5 (((List.map enc_Fact [(Fact.mk ([97, 114, 101, 97] : List UInt8) 100 0 0 5), (Fact.mk ([97, 114, 101, 97] : List UInt8) 90 10 0 8)])).length) (List.map enc_Fact [(Fact.mk ([97, 114, 101, 97] : List UInt8) 100 0 0 5), (Fact.mk ([97, 114, 101, 97] : List UInt8) 90 10 0 8)]))]) (F' := [(18, .row 51 5 (((List.map enc_Fact [(Fact.mk ([97, 114, 101, 97] : List UInt8) 100 0 0 5), (Fact.mk ([97, 114, 101, 97] : List UInt8) 90 10 0 8)])).length) (List.map enc_Fact [(Fact.mk ([97, 114, 101, 97] : List UInt8) 100 0 0 5), (Fact.mk ([97, 114, 101, 97] : List UInt8) 90 10 0 8)]))]) (v := .bool y19) [18] (by kernel_rfl) (by kernel_rfl) rfl (by kernel_rfl) (loc_gcallB (vs := [.sl 5 18 (([(Fact.mk ([97, 114, 101, 97] : List UInt8) 100 0 0 5), (Fact.mk ([97, 114, 101, 97] : List UInt8) 90 10 0 8)]).length) 0 (([(Fact.mk ([97, 114, 101, 97] : List UInt8) 100 0 0 5), (Fact.mk ([97, 114, 101, 97] : List UInt8) 90 10 0 8)]).length), .agg [.int .i64 1, .int .i64 12, .int .i64 6, .int .i64 y18.Op, .int .i64 y18.N, .str y18.S, .str y18.Key, .vs 5 (encs_Expr y18.Args), .int .i64 0, .nils]]) (R := [(18, .row 51 5 (((List.map enc_Fact [(Fact.mk ([97, 114, 101, 97] : List UInt8) 100 0 0 5), (Fact.mk ([97, 114, 101, 97] : List UInt8) 90 10 0 8)])).length) (List.map enc_Fact [(Fact.mk ([97, 114, 101, 97] : List UInt8) 100 0 0 5), (Fact.mk ([97, 114, 101, 97] : List UInt8) 90 10 0 8)]))]) (callV_func hbv15 (by kernel_rfl)) (w_reopen_Holds [(Fact.mk ([97, 114, 101, 97] : List UInt8) 100 0 0 5), (Fact.mk ([97, 114, 101, 97] : List UInt8) 90 10 0 8)] (Formula.mk 1 12 6 y18 0 []) _ c19) (.cons (.row (t := 51) (fz := (((List.map enc_Fact [(Fact.mk ([97, 114, 101, 97] : List UInt8) 100 0 0 5), (Fact.mk ([97, 114, 101, 97] : List UInt8) 90 10 0 8)])).length)) (by kernel_rfl) (by first | (simp only [List.length_map, List.length_set]; done) | rfl)) (.cons (.agg (.cons (.same _) (.cons (.same _) (.cons (.same _) (.cons (.same _) (.cons (.same _) (.cons (.same _) (.cons (.same _) (.cons (.same _) (.cons (.same _) (.cons (.nils _) (.nil)))))))))))) (.nil))) (by kernel_rfl) (by kernel_rfl) (by kernel_rfl)) (by kernel_rfl) ?_
                  refine o_runs 3 [(157, .bool (!y19)), (156, .bool (!y19)), (155, .bool (!y19))] (by kernel_rfl) ?_
                  cases h17 : ((!y19))
                  · replace hs := bif_f h17 hs
                    refine o_runs 7 [(0, .bool false), (163, .bool false), (162, .no), (161, .no), (160, .no), (159, .no), (158, .no)] (by kernel_rfl) ?_
                    refine ov_nil ?_
                    obtain rfl := Option.some.inj hs
                    refine nrm_join false rfl ?_
                    exact cut_of [0] [] (by kernel_rfl) (by kernel_rfl) (by kernel_rfl)
                  · replace hs := bif_t h17 hs
                    refine o_runs 2 [(159, .agg (enc_Formula y2.1)), (158, .sl 5 18 (([(Fact.mk ([97, 114, 101, 97] : List UInt8) 100 0 0 5), (Fact.mk ([97, 114, 101, 97] : List UInt8) 90 10 0 8)]).length) 0 (([(Fact.mk ([97, 114, 101, 97] : List UInt8) 100 0 0 5), (Fact.mk ([97, 114, 101, 97] : List UInt8) 90 10 0 8)]).length))] (by kernel_rfl) ?_
                    obtain ⟨y20, c20, hs⟩ := bind_some hs
                    refine o_loc (F := [(18, .row 51 5 (((List.map enc_Fact [(Fact.mk ([97, 114, 101, 97] : List UInt8) 100 0 0 5), (Fact.mk ([97, 114, 101, 97] : List UInt8) 90 10 0 8)])).length) (List.map enc_Fact [(Fact.mk ([97, 114, 101, 97] : List UInt8) 100 0 0 5), (Fact.mk ([97, 114, 101, 97] : List UInt8) 90 10 0 8)]))]) (F' := [(18, .row 51 5 (((List.map enc_Fact [(Fact.mk ([97, 114, 101, 97] : List UInt8) 100 0 0 5), (Fact.mk ([97, 114, 101, 97] : List UInt8) 90 10 0 8)])).length) (List.map enc_Fact [(Fact.mk ([97, 114, 101, 97] : List UInt8) 100 0 0 5), (Fact.mk ([97, 114, 101, 97] : List UInt8) 90 10 0 8)]))]) (v := .vs 1 (List.map EV.encS y20)) [18] (by kernel_rfl) (by kernel_rfl) rfl (by kernel_rfl) (loc_g (R := [(18, .row 51 5 (((List.map enc_Fact [(Fact.mk ([97, 114, 101, 97] : List UInt8) 100 0 0 5), (Fact.mk ([97, 114, 101, 97] : List UInt8) 90 10 0 8)])).length) (List.map enc_Fact [(Fact.mk ([97, 114, 101, 97] : List UInt8) 100 0 0 5), (Fact.mk ([97, 114, 101, 97] : List UInt8) 90 10 0 8)]))]) [.sl 5 18 (([(Fact.mk ([97, 114, 101, 97] : List UInt8) 100 0 0 5), (Fact.mk ([97, 114, 101, 97] : List UInt8) 90 10 0 8)]).length) 0 (([(Fact.mk ([97, 114, 101, 97] : List UInt8) 100 0 0 5), (Fact.mk ([97, 114, 101, 97] : List UInt8) 90 10 0 8)]).length), .agg (enc_Formula y2.1), .int .i64 8] [] (callV_func hbv16 (by kernel_rfl)) (w_reopen_Stale [(Fact.mk ([97, 114, 101, 97] : List UInt8) 100 0 0 5), (Fact.mk ([97, 114, 101, 97] : List UInt8) 90 10 0 8)] y2.1 8 _ c20) (.cons (.row (t := 51) (fz := (((List.map enc_Fact [(Fact.mk ([97, 114, 101, 97] : List UInt8) 100 0 0 5), (Fact.mk ([97, 114, 101, 97] : List UInt8) 90 10 0 8)])).length)) (by kernel_rfl) (by first | (simp only [List.length_map, List.length_set]; done) | rfl)) (.cons (.same _) (.cons (.same _) (.nil)))) (by kernel_rfl) (by kernel_rfl) (by kernel_rfl) (by kernel_rfl) (by kernel_rfl) (by kernel_rfl) (by kernel_rfl) (by kernel_rfl)) (by kernel_rfl) ?_
                    refine o_runh 1 [(161, .sl 1 161 1 0 1)] [(161, .row 9 1 0 (List.map EV.encS [([97, 114, 101, 97] : List UInt8)])), (18, .row 51 5 (((List.map enc_Fact [(Fact.mk ([97, 114, 101, 97] : List UInt8) 100 0 0 5), (Fact.mk ([97, 114, 101, 97] : List UInt8) 90 10 0 8)])).length) (List.map enc_Fact [(Fact.mk ([97, 114, 101, 97] : List UInt8) 100 0 0 5), (Fact.mk ([97, 114, 101, 97] : List UInt8) 90 10 0 8)])), (2, .box 35 [.int .i64 y2.1.Id, .int .i64 y2.1.Day, .int .i64 y2.1.Known, .int .i64 y2.1.Body.Op, .int .i64 y2.1.Body.N, .str y2.1.Body.S, .str y2.1.Body.Key, .vs 5 (encs_Expr y2.1.Body.Args), .int .i64 y2.1.Result, .vs 4 (List.map enc_Asked y2.1.Asked)])] (by kernel_rfl) ?_
                    obtain ⟨y21, c21, hs⟩ := bind_some hs
                    refine o_loc (F := [(161, .row 9 1 0 (List.map EV.encS [([97, 114, 101, 97] : List UInt8)]))]) (F' := [(161, .row 9 1 0 (List.map EV.encS [([97, 114, 101, 97] : List UInt8)]))]) (v := .bool y21) [161] (by kernel_rfl) (by kernel_rfl) rfl (by kernel_rfl) (loc_gcallB (vs := [.vs 1 (List.map EV.encS y20), .sl 1 161 1 0 1]) (R := [(161, .row 9 1 0 (List.map EV.encS [([97, 114, 101, 97] : List UInt8)]))]) (callV_func hbv21 (by kernel_rfl)) (w_greenbeltref45_Texts y20 [([97, 114, 101, 97] : List UInt8)] _ c21) (.cons (.same _) (.cons (.row (t := 9) (fz := 0) (by kernel_rfl) (by first | (simp only [List.length_map, List.length_set]; done) | rfl)) (.nil))) (by kernel_rfl) (by kernel_rfl) (by kernel_rfl)) (by kernel_rfl) ?_
                    refine o_runs 2 [(0, .bool y21), (163, .bool y21)] (by kernel_rfl) ?_
                    refine ov_nil ?_
                    obtain rfl := Option.some.inj hs
                    refine nrm_join y21 rfl ?_
                    exact cut_of [0] [] (by kernel_rfl) (by kernel_rfl) (by kernel_rfl)
        · subst hz; clear hs; have hs := hk4; clear hk4
          refine nrm_thenV ?_
          refine v_ret ?_
          obtain rfl := Option.some.inj hs
          exact fin_ret (by kernel_rfl) (by kernel_rfl) (by kernel_rfl)
theorem ws_greenbeltref16_Size (nF : Nat) (ih_greenbeltref16_Size : ∀ (e : Expr) (r : Int), s_greenbeltref16_Size nF e = some r → FnA Try.prog 22 [.agg (enc_Expr e)] [] (.int .i64 r) []) (e : Expr) (r : Int) (hs : s_greenbeltref16_Size (nF + 1) e = some r) : FnA Try.prog 22 [.agg (enc_Expr e)] [] (.int .i64 r) [] := by
  refine fnA_of_wp (N := 21) Try.func22 rfl rfl rfl fun cK0 => ?_
  rw [s_greenbeltref16_Size] at hs
  refine v_same (ρ' := [(0, .agg (enc_Expr e))]) rfl rfl ?_
  refine v_seq ?_
  refine vr_text ?_
  refine o_runh 2 [(2, .int .i64 0), (1, .ptr 1 0 0)] [(1, .box 32 [.int .i64 e.Op, .int .i64 e.N, .str e.S, .str e.Key, .vs 5 (encs_Expr e.Args)])] (by kernel_rfl) ?_
  refine ov_nil ?_
  refine nrm_thenV ?_
  refine v_seq ?_
  refine vr_text ?_
  refine o_runs 1 [(3, .int .i64 1)] (by kernel_rfl) ?_
  refine ov_nil ?_
  refine nrm_thenV ?_
  refine v_seq ?_
  refine v_seq ?_
  refine vr_text ?_
  refine o_runs 1 [(4, .int .i64 0)] (by kernel_rfl) ?_
  refine ov_nil ?_
  refine nrm_thenV ?_
  obtain ⟨z1, hs, hk1⟩ := bind_some hs
  refine v_join (S := Int) (fun u => u = z1) (fun u => [(3, .int .i64 u)]) (fun u => []) ?_ (fun v1 hz => ?_)
  · refine v_block ?_
    refine v_fuel (S := Int × Int) (fun u => [(1, .ptr 1 0 0), (3, .int .i64 u.1), (4, .int .i64 u.2)]) (fun u => [(1, .box 32 [.int .i64 e.Op, .int .i64 e.N, .str e.S, .str e.Key, .vs 5 (encs_Expr e.Args)])]) (s_greenbeltref16_Size_L1 (s_greenbeltref16_Size nF) e) (fun _ => rfl) KK (1, 0) hs (cut_of [1, 3, 4] [1] (by kernel_rfl) (by kernel_rfl) (by kernel_rfl)) (fun K1 q1 hs => ?_)
    rw [s_greenbeltref16_Size_L1] at hs
    show WpV cK0 Try.prog none 21 _ _ [(1, .ptr 1 0 0), (3, .int .i64 q1.1), (4, .int .i64 q1.2)] [(1, .box 32 [.int .i64 e.Op, .int .i64 e.N, .str e.S, .str e.Key, .vs 5 (encs_Expr e.Args)])] []
    refine v_seq ?_
    refine v_seq ?_
    refine vr_text ?_
    refine o_runs 3 [(7, .vs 5 (encs_Expr e.Args)), (6, .ptr 1 0 4), (5, .int .i64 q1.2)] (by kernel_rfl) ?_
    refine o_pure (v := .int .i64 (List.length e.Args : Int)) (by kernel_rfl) (by kernel_rfl) (loc_lenVs (sz := 5) (els := (encs_Expr e.Args)) (by kernel_rfl) (by kernel_rfl) (by rw [encs_Expr_eq, List.length_map])) ?_
    refine o_runs 1 [(9, .bool (decide (q1.2 < (List.length e.Args : Int))))] (by kernel_rfl) ?_
    refine ov_nil ?_
    refine nrm_thenV ?_
    refine v_cond (decide (q1.2 < (List.length e.Args : Int))) (by kernel_rfl) (fun h1 => ?_) (fun h1 => ?_)
    · replace hs := bif_t h1 hs
      refine v_skip ?_
      refine nrm_thenV ?_
      refine v_seq ?_
      refine v_block ?_
      refine vr_text ?_
      refine o_runs 4 [(15, .int .i64 q1.2), (14, .vs 5 (encs_Expr e.Args)), (13, .ptr 1 0 4), (12, .int .i64 q1.1)] (by kernel_rfl) ?_
      obtain ⟨x1, g1, hs⟩ := bind_some hs; obtain ⟨g1a, g1b, g1c⟩ := idx_some g1
      refine o_pure (v := .vp (enc_Expr x1) 0) (by kernel_rfl) (by kernel_rfl) (loc_indexVs (e := 32) (sz := 5) (k := .i64) (els := (encs_Expr e.Args)) (cs := (enc_Expr x1)) (by kernel_rfl) (by kernel_rfl) (by kernel_rfl) g1a (by rw [g1c, encs_Expr_eq]; exact map_get _ (by omega))) ?_
      refine o_runs 1 [(17, .agg (enc_Expr x1))] (by kernel_rfl) ?_
      obtain ⟨y1, c1, hs⟩ := bind_some hs
      refine o_pure (v := .int .i64 y1) (by kernel_rfl) (by kernel_rfl) (loc_gcall0 (callV_func hbv22 (by kernel_rfl)) (ih_greenbeltref16_Size x1 _ c1) (by kernel_rfl)) ?_
      refine o_runs 2 [(3, .int .i64 (w64 (q1.1 + y1))), (19, .int .i64 (w64 (q1.1 + y1)))] (by kernel_rfl) ?_
      refine ov_nil ?_
      refine nrm_blkV ?_
      refine nrm_thenV ?_
      refine vr_text ?_
      refine o_runs 3 [(4, .int .i64 (w64 (q1.2 + 1))), (11, .int .i64 (w64 (q1.2 + 1))), (10, .int .i64 q1.2)] (by kernel_rfl) ?_
      refine ov_nil ?_
      refine nrm_fuel ((w64 (q1.1 + y1)), (w64 (q1.2 + 1))) hs ?_
      exact cut_of [1, 3, 4] [1] (by kernel_rfl) (by kernel_rfl) (by kernel_rfl)
    · replace hs := bif_f h1 hs
      refine v_exit ?_
      refine exit_thenV ?_
      refine exit_fuel ?_
      refine exit_blkV ?_
      obtain rfl := Option.some.inj hs
      refine nrm_join q1.1 rfl ?_
      exact cut_of [3] [] (by kernel_rfl) (by kernel_rfl) (by kernel_rfl)
  · subst hz; clear hs; have hs := hk1; clear hk1
    refine nrm_thenV ?_
    refine v_seq ?_
    refine vr_text ?_
    refine o_runs 2 [(2, .int .i64 v1), (20, .int .i64 v1)] (by kernel_rfl) ?_
    refine ov_nil ?_
    refine nrm_thenV ?_
    refine v_ret ?_
    obtain rfl := Option.some.inj hs
    exact fin_ret (by kernel_rfl) (by kernel_rfl) (by kernel_rfl)
theorem wr_greenbeltref16_Size : ∀ nF : Nat, (∀ (e : Expr) (r : Int), s_greenbeltref16_Size nF e = some r → FnA Try.prog 22 [.agg (enc_Expr e)] [] (.int .i64 r) [])
  | 0 => fun e r hs => by rw [s_greenbeltref16_Size] at hs; cases hs
  | nF + 1 => fun e r hs => ws_greenbeltref16_Size nF (wr_greenbeltref16_Size nF) e r hs
theorem w_greenbeltref16_Size (nF : Nat) (e : Expr) (r : Int) (hs : s_greenbeltref16_Size nF e = some r) : FnA Try.prog 22 [.agg (enc_Expr e)] [] (.int .i64 r) [] := (wr_greenbeltref16_Size nF) e r hs
theorem w_greenbeltref45_Few (base : (List Fact)) (l : (List Formula)) (r : Bool) (hs : s_greenbeltref45_Few base l = some r) : FnA Try.prog 7 [.vs 5 (List.map enc_Fact base), .vs 10 (List.map enc_Formula l)] [] (.bool r) [] := by
  refine fnA_of_wp (N := 40) Try.func7 rfl rfl rfl fun cK0 => ?_
  unfold s_greenbeltref45_Few at hs
  refine v_same (ρ' := [(0, .vs 5 (List.map enc_Fact base)), (1, .vs 10 (List.map enc_Formula l))]) rfl rfl ?_
  refine v_seq ?_
  refine vr_text ?_
  refine o_runs 1 [(4, .bool false)] (by kernel_rfl) ?_
  refine ov_nil ?_
  refine nrm_thenV ?_
  refine v_seq ?_
  refine v_seq ?_
  refine vr_text ?_
  refine o_runs 1 [(5, .int .i64 0)] (by kernel_rfl) ?_
  refine ov_nil ?_
  refine nrm_thenV ?_
  obtain ⟨z1, hs, hk1⟩ := bind_some hs
  refine v_join (S := Unit) (fun u => z1 = .inr u) (fun u => [(0, .vs 5 (List.map enc_Fact base)), (1, .vs 10 (List.map enc_Formula l))]) (fun u => []) ?_ (fun v1 hz => ?_)
  · refine v_block ?_
    refine v_fuel (S := Int) (fun u => [(0, .vs 5 (List.map enc_Fact base)), (1, .vs 10 (List.map enc_Formula l)), (5, .int .i64 u)]) (fun u => []) (s_greenbeltref45_Few_L1 l) (fun _ => rfl) KK 0 hs (cut_of [0, 1, 5] [] (by kernel_rfl) (by kernel_rfl) (by kernel_rfl)) (fun K1 q1 hs => ?_)
    rw [s_greenbeltref45_Few_L1] at hs
    show WpV cK0 Try.prog none 40 _ _ [(0, .vs 5 (List.map enc_Fact base)), (1, .vs 10 (List.map enc_Formula l)), (5, .int .i64 q1)] [] []
    refine v_seq ?_
    refine v_seq ?_
    obtain ⟨z2, hs, hk2⟩ := bind_some hs
    refine v_join (S := Bool) (fun u => u = z2) (fun u => [(0, .vs 5 (List.map enc_Fact base)), (1, .vs 10 (List.map enc_Formula l)), (5, .int .i64 q1), (13, .bool u)]) (fun u => []) ?_ (fun v2 hz => ?_)
    · refine vr_text ?_
      refine o_runs 2 [(7, .vs 10 (List.map enc_Formula l)), (6, .int .i64 q1)] (by kernel_rfl) ?_
      refine o_pure (v := .int .i64 (List.length l : Int)) (by kernel_rfl) (by kernel_rfl) (loc_lenVs (sz := 10) (els := (List.map enc_Formula l)) (by kernel_rfl) (by kernel_rfl) (List.length_map ..)) ?_
      refine o_runs 2 [(10, .bool (decide (q1 < (List.length l : Int)))), (9, .bool (decide (q1 < (List.length l : Int))))] (by kernel_rfl) ?_
      cases h1 : ((decide (q1 < (List.length l : Int))))
      · replace hs := bif_f h1 hs
        refine o_runs 3 [(13, .bool false), (12, .no), (11, .no)] (by kernel_rfl) ?_
        refine ov_nil ?_
        obtain rfl := Option.some.inj hs
        refine nrm_join false rfl ?_
        exact cut_of [0, 1, 5, 13] [] (by kernel_rfl) (by kernel_rfl) (by kernel_rfl)
      · replace hs := bif_t h1 hs
        refine o_runs 3 [(13, .bool (decide (q1 ≤ 8))), (12, .bool (decide (q1 ≤ 8))), (11, .int .i64 q1)] (by kernel_rfl) ?_
        refine ov_nil ?_
        obtain rfl := Option.some.inj hs
        refine nrm_join (decide (q1 ≤ 8)) rfl ?_
        exact cut_of [0, 1, 5, 13] [] (by kernel_rfl) (by kernel_rfl) (by kernel_rfl)
    · subst hz; clear hs; have hs := hk2; clear hk2
      refine nrm_thenV ?_
      refine v_cond v2 (by kernel_rfl) (fun h2 => ?_) (fun h2 => ?_)
      · replace hs := bif_t h2 hs
        refine v_skip ?_
        refine nrm_thenV ?_
        refine v_seq ?_
        refine v_block ?_
        refine v_seq ?_
        obtain ⟨z3, hs, hk3⟩ := bind_some hs
        refine v_join (S := Bool) (fun u => u = z3) (fun u => [(0, .vs 5 (List.map enc_Fact base)), (1, .vs 10 (List.map enc_Formula l)), (5, .int .i64 q1), (31, .bool u)]) (fun u => []) ?_ (fun v3 hz => ?_)
        · refine vr_text ?_
          refine o_runs 2 [(17, .int .i64 q1), (16, .vs 10 (List.map enc_Formula l))] (by kernel_rfl) ?_
          obtain ⟨x1, g1, hs⟩ := bind_some hs; obtain ⟨g1a, g1b, g1c⟩ := idx_some g1
          refine o_pure (v := .vp (enc_Formula x1) 0) (by kernel_rfl) (by kernel_rfl) (loc_indexVs (e := 35) (sz := 10) (k := .i64) (els := (List.map enc_Formula l)) (cs := (enc_Formula x1)) (by kernel_rfl) (by kernel_rfl) (by kernel_rfl) g1a (by rw [g1c]; exact map_get _ (by omega))) ?_
          refine o_runs 2 [(20, .agg (enc_Expr x1.Body)), (19, .vp (enc_Formula x1) 3)] (by kernel_rfl) ?_
          obtain ⟨y1, c1, hs⟩ := bind_some hs
          refine o_pure (v := .int .i64 y1) (by kernel_rfl) (by kernel_rfl) (loc_gcall0 (callV_func hbv22 (by kernel_rfl)) (w_greenbeltref16_Size KK x1.Body _ c1) (by kernel_rfl)) ?_
          refine o_runs 2 [(23, .bool (decide (y1 > 40))), (22, .bool (decide (y1 > 40)))] (by kernel_rfl) ?_
          cases h3 : ((decide (y1 > 40)))
          · replace hs := bif_f h3 hs
            refine o_runs 2 [(25, .int .i64 q1), (24, .vs 10 (List.map enc_Formula l))] (by kernel_rfl) ?_
            obtain ⟨x2, g2, hs⟩ := bind_some hs; obtain ⟨g2a, g2b, g2c⟩ := idx_some g2
            refine o_pure (v := .vp (enc_Formula x2) 0) (by kernel_rfl) (by kernel_rfl) (loc_indexVs (e := 35) (sz := 10) (k := .i64) (els := (List.map enc_Formula l)) (cs := (enc_Formula x2)) (by kernel_rfl) (by kernel_rfl) (by kernel_rfl) g2a (by rw [g2c]; exact map_get _ (by omega))) ?_
            refine o_runs 2 [(28, .vs 4 (List.map enc_Asked x2.Asked)), (27, .vp (enc_Formula x2) 9)] (by kernel_rfl) ?_
            refine o_pure (v := .int .i64 (List.length x2.Asked : Int)) (by kernel_rfl) (by kernel_rfl) (loc_lenVs (sz := 4) (els := (List.map enc_Asked x2.Asked)) (by kernel_rfl) (by kernel_rfl) (List.length_map ..)) ?_
            refine o_runs 2 [(31, .bool (decide ((List.length x2.Asked : Int) > 20))), (30, .bool (decide ((List.length x2.Asked : Int) > 20)))] (by kernel_rfl) ?_
            refine ov_nil ?_
            obtain rfl := Option.some.inj hs
            refine nrm_join (decide ((List.length x2.Asked : Int) > 20)) rfl ?_
            exact cut_of [0, 1, 5, 31] [] (by kernel_rfl) (by kernel_rfl) (by kernel_rfl)
          · replace hs := bif_t h3 hs
            refine o_runs 8 [(31, .bool true), (30, .no), (29, .no), (28, .no), (27, .no), (26, .no), (25, .no), (24, .no)] (by kernel_rfl) ?_
            refine ov_nil ?_
            obtain rfl := Option.some.inj hs
            refine nrm_join true rfl ?_
            exact cut_of [0, 1, 5, 31] [] (by kernel_rfl) (by kernel_rfl) (by kernel_rfl)
        · subst hz; clear hs; have hs := hk3; clear hk3
          refine nrm_thenV ?_
          refine v_cond v3 (by kernel_rfl) (fun h4 => ?_) (fun h4 => ?_)
          · replace hs := bif_t h4 hs
            refine v_seq ?_
            refine vr_text ?_
            refine o_runs 1 [(4, .bool false)] (by kernel_rfl) ?_
            refine ov_nil ?_
            refine nrm_thenV ?_
            refine v_ret ?_
            refine ret_blkV ?_
            refine ret_thenV ?_
            refine ret_fuel ?_
            refine ret_blkV ?_
            refine ret_join ?_
            refine ret_thenV ?_
            obtain rfl := Option.some.inj hs
            replace hs := hk1
            obtain rfl := Option.some.inj hs
            exact fin_ret (by kernel_rfl) (by kernel_rfl) (by kernel_rfl)
          · replace hs := bif_f h4 hs
            refine v_skip ?_
            refine nrm_blkV ?_
            refine nrm_thenV ?_
            refine vr_text ?_
            refine o_runs 3 [(5, .int .i64 (w64 (q1 + 1))), (15, .int .i64 (w64 (q1 + 1))), (14, .int .i64 q1)] (by kernel_rfl) ?_
            refine ov_nil ?_
            refine nrm_fuel (w64 (q1 + 1)) hs ?_
            exact cut_of [0, 1, 5] [] (by kernel_rfl) (by kernel_rfl) (by kernel_rfl)
      · replace hs := bif_f h2 hs
        refine v_exit ?_
        refine exit_thenV ?_
        refine exit_fuel ?_
        refine exit_blkV ?_
        obtain rfl := Option.some.inj hs
        refine nrm_join () rfl ?_
        exact cut_of [0, 1] [] (by kernel_rfl) (by kernel_rfl) (by kernel_rfl)
  · subst hz; clear hs; have hs := hk1; clear hk1
    refine nrm_thenV ?_
    refine v_seq ?_
    obtain ⟨z4, hs, hk4⟩ := bind_some hs
    refine v_join (S := Bool) (fun u => u = z4) (fun u => [(4, .bool u)]) (fun u => []) ?_ (fun v4 hz => ?_)
    · refine vr_text ?_
      refine o_runs 1 [(32, .vs 5 (List.map enc_Fact base))] (by kernel_rfl) ?_
      refine o_pure (v := .int .i64 (List.length base : Int)) (by kernel_rfl) (by kernel_rfl) (loc_lenVs (sz := 5) (els := (List.map enc_Fact base)) (by kernel_rfl) (by kernel_rfl) (List.length_map ..)) ?_
      refine o_runs 2 [(35, .bool (decide ((List.length base : Int) ≤ 30))), (34, .bool (decide ((List.length base : Int) ≤ 30)))] (by kernel_rfl) ?_
      cases h5 : ((decide ((List.length base : Int) ≤ 30)))
      · replace hs := bif_f h5 hs
        refine o_runs 5 [(4, .bool false), (39, .bool false), (38, .no), (37, .no), (36, .no)] (by kernel_rfl) ?_
        refine ov_nil ?_
        obtain rfl := Option.some.inj hs
        refine nrm_join false rfl ?_
        exact cut_of [4] [] (by kernel_rfl) (by kernel_rfl) (by kernel_rfl)
      · replace hs := bif_t h5 hs
        refine o_runs 1 [(36, .vs 10 (List.map enc_Formula l))] (by kernel_rfl) ?_
        refine o_pure (v := .int .i64 (List.length l : Int)) (by kernel_rfl) (by kernel_rfl) (loc_lenVs (sz := 10) (els := (List.map enc_Formula l)) (by kernel_rfl) (by kernel_rfl) (List.length_map ..)) ?_
        refine o_runs 3 [(4, .bool (decide ((List.length l : Int) ≤ 8))), (39, .bool (decide ((List.length l : Int) ≤ 8))), (38, .bool (decide ((List.length l : Int) ≤ 8)))] (by kernel_rfl) ?_
        refine ov_nil ?_
        obtain rfl := Option.some.inj hs
        refine nrm_join (decide ((List.length l : Int) ≤ 8)) rfl ?_
        exact cut_of [4] [] (by kernel_rfl) (by kernel_rfl) (by kernel_rfl)
    · subst hz; clear hs; have hs := hk4; clear hk4
      refine nrm_thenV ?_
      refine v_ret ?_
      obtain rfl := Option.some.inj hs
      exact fin_ret (by kernel_rfl) (by kernel_rfl) (by kernel_rfl)
theorem w_greenbeltlaw45_made (base : (List Fact)) (l : (List Formula)) (r : (List Formula) × Bool) (hs : s_greenbeltlaw45_made base l = some r) : FnA Try.prog 8 [.vs 5 (List.map enc_Fact base), .vs 10 (List.map enc_Formula l)] [] (.tup [.vs 10 (List.map enc_Formula r.1), .bool r.2]) [] := by
  refine fnA_of_wp (N := 32) Try.func8 rfl rfl rfl fun cK0 => ?_
  unfold s_greenbeltlaw45_made at hs
  refine v_same (ρ' := [(0, .vs 5 (List.map enc_Fact base)), (1, .vs 10 (List.map enc_Formula l))]) rfl rfl ?_
  refine v_seq ?_
  refine vr_text ?_
  refine o_runs 2 [(5, .bool false), (4, .nils)] (by kernel_rfl) ?_
  refine ov_nil ?_
  refine nrm_thenV ?_
  refine v_seq ?_
  refine vr_text ?_
  refine o_runs 1 [(6, .nils)] (by kernel_rfl) ?_
  refine ov_nil ?_
  refine nrm_thenV ?_
  refine v_seq ?_
  refine v_seq ?_
  refine vr_text ?_
  refine o_runs 1 [(7, .int .i64 0)] (by kernel_rfl) ?_
  refine ov_nil ?_
  refine nrm_thenV ?_
  obtain ⟨z1, hs, hk1⟩ := bind_some hs
  refine v_join (S := (List Formula)) (fun u => z1 = .inr u) (fun u => [(6, .sl 10 2000027 ((u).length) 0 ((u).length))]) (fun u => [(2000027, .row 35 10 0 (List.map enc_Formula u))]) ?_ (fun v1 hz => ?_)
  · refine v_block ?_
    refine v_fuel (S := Int × (List Formula)) (fun u => [(0, .vs 5 (List.map enc_Fact base)), (1, .vs 10 (List.map enc_Formula l)), (6, .sl 10 2000027 ((u.2).length) 0 ((u.2).length)), (7, .int .i64 u.1)]) (fun u => [(2000027, .row 35 10 0 (List.map enc_Formula u.2))]) (s_greenbeltlaw45_made_L1 base l) (fun _ => rfl) KK (0, []) hs (Cut.trans (cut_nilRow 6 2000027 35 10 rfl (by kernel_rfl) (by kernel_rfl)) (cut_of [0, 1, 6, 7] [2000027] (by kernel_rfl) (by kernel_rfl) (by kernel_rfl))) (fun K1 q1 hs => ?_)
    rw [s_greenbeltlaw45_made_L1] at hs
    show WpV cK0 Try.prog none 32 _ _ [(0, .vs 5 (List.map enc_Fact base)), (1, .vs 10 (List.map enc_Formula l)), (6, .sl 10 2000027 ((q1.2).length) 0 ((q1.2).length)), (7, .int .i64 q1.1)] [(2000027, .row 35 10 0 (List.map enc_Formula q1.2))] []
    refine v_seq ?_
    refine v_seq ?_
    refine vr_text ?_
    refine o_runs 2 [(11, .vs 10 (List.map enc_Formula l)), (10, .int .i64 q1.1)] (by kernel_rfl) ?_
    refine o_pure (v := .int .i64 (List.length l : Int)) (by kernel_rfl) (by kernel_rfl) (loc_lenVs (sz := 10) (els := (List.map enc_Formula l)) (by kernel_rfl) (by kernel_rfl) (List.length_map ..)) ?_
    refine o_runs 1 [(13, .bool (decide (q1.1 < (List.length l : Int))))] (by kernel_rfl) ?_
    refine ov_nil ?_
    refine nrm_thenV ?_
    refine v_cond (decide (q1.1 < (List.length l : Int))) (by kernel_rfl) (fun h1 => ?_) (fun h1 => ?_)
    · replace hs := bif_t h1 hs
      refine v_skip ?_
      refine nrm_thenV ?_
      refine v_seq ?_
      refine v_block ?_
      refine v_seq ?_
      refine vr_text ?_
      refine o_runs 3 [(19, .int .i64 q1.1), (18, .vs 10 (List.map enc_Formula l)), (17, .vs 5 (List.map enc_Fact base))] (by kernel_rfl) ?_
      obtain ⟨x1, g1, hs⟩ := bind_some hs; obtain ⟨g1a, g1b, g1c⟩ := idx_some g1
      refine o_pure (v := .vp (enc_Formula x1) 0) (by kernel_rfl) (by kernel_rfl) (loc_indexVs (e := 35) (sz := 10) (k := .i64) (els := (List.map enc_Formula l)) (cs := (enc_Formula x1)) (by kernel_rfl) (by kernel_rfl) (by kernel_rfl) g1a (by rw [g1c]; exact map_get _ (by omega))) ?_
      refine o_runs 1 [(21, .agg (enc_Formula x1))] (by kernel_rfl) ?_
      obtain ⟨y1, c1, hs⟩ := bind_some hs
      refine o_pure (v := .tup [.agg (enc_Formula y1.1), .int .i64 y1.2]) (by kernel_rfl) (by kernel_rfl) (loc_gcall0 (callV_func hbv11 (by kernel_rfl)) (w_reopen_Make base x1 _ c1) (by kernel_rfl)) ?_
      refine o_runh 6 [(9, .int .i64 y1.2), (8, .ptr 8 0 0), (24, .int .i64 y1.2), (23, .agg (enc_Formula y1.1)), (16, .tup [.agg (enc_Formula y1.1), .int .i64 y1.2])] [(8, .box 35 [.int .i64 y1.1.Id, .int .i64 y1.1.Day, .int .i64 y1.1.Known, .int .i64 y1.1.Body.Op, .int .i64 y1.1.Body.N, .str y1.1.Body.S, .str y1.1.Body.Key, .vs 5 (encs_Expr y1.1.Body.Args), .int .i64 y1.1.Result, .vs 4 (List.map enc_Asked y1.1.Asked)]), (2000027, .row 35 10 0 (List.map enc_Formula q1.2))] (by kernel_rfl) ?_
      refine ov_nil ?_
      refine nrm_thenV ?_
      refine v_seq ?_
      refine v_seq ?_
      refine vr_text ?_
      refine o_runs 2 [(26, .bool (!(decide (y1.2 = 0)))), (25, .int .i64 y1.2)] (by kernel_rfl) ?_
      refine ov_nil ?_
      refine nrm_thenV ?_
      refine v_cond (!(decide (y1.2 = 0))) (by kernel_rfl) (fun h2 => ?_) (fun h2 => ?_)
      · replace hs := bif_t h2 hs
        refine v_seq ?_
        refine vr_text ?_
        refine o_runs 2 [(5, .bool false), (4, .nils)] (by kernel_rfl) ?_
        refine ov_nil ?_
        refine nrm_thenV ?_
        refine v_to ((4, .vs 10 (List.map enc_Formula [])) :: _) _ (cut_view (R := []) (ks := []) (by kernel_rfl) (by kernel_rfl) (.nils 10)) ?_
        refine v_ret ?_
        refine ret_thenV ?_
        refine ret_blkV ?_
        refine ret_thenV ?_
        refine ret_fuel ?_
        refine ret_blkV ?_
        refine ret_join ?_
        refine ret_thenV ?_
        obtain rfl := Option.some.inj hs
        replace hs := hk1
        obtain rfl := Option.some.inj hs
        exact fin_ret (by kernel_rfl) (by kernel_rfl) (by kernel_rfl)
      · replace hs := bif_f h2 hs
        refine v_skip ?_
        refine nrm_thenV ?_
        refine vr_text ?_
        refine o_runh 3 [(29, .sl 10 29 1 0 1), (28, .agg (enc_Formula y1.1)), (27, .sl 10 2000027 ((q1.2).length) 0 ((q1.2).length))] [(29, .row 35 10 0 (List.map enc_Formula [y1.1])), (8, .box 35 [.int .i64 y1.1.Id, .int .i64 y1.1.Day, .int .i64 y1.1.Known, .int .i64 y1.1.Body.Op, .int .i64 y1.1.Body.N, .str y1.1.Body.S, .str y1.1.Body.Key, .vs 5 (encs_Expr y1.1.Body.Args), .int .i64 y1.1.Result, .vs 4 (List.map enc_Asked y1.1.Asked)]), (2000027, .row 35 10 0 (List.map enc_Formula q1.2))] (by kernel_rfl) ?_
        obtain ⟨_, g2, hs⟩ := bind_some hs; replace g2 := grd_some g2
        refine o_loc (F := [(2000027, .row 35 10 0 (List.map enc_Formula q1.2)), (29, .row 35 10 0 (List.map enc_Formula [y1.1]))]) (F' := [(2000027, .row 35 10 0 (List.map enc_Formula (q1.2 ++ [y1.1]))), (29, .row 35 10 0 (List.map enc_Formula [y1.1]))]) (v := .sl 10 2000027 (((q1.2 ++ [y1.1])).length) 0 (((q1.2 ++ [y1.1])).length)) [2000027, 29] (by kernel_rfl) (by kernel_rfl) rfl (by kernel_rfl) (loc_appendT (e := 35) (sz := 10) (bytes := 128) (L := (q1.2).length) (els := (List.map enc_Formula q1.2)) (ys := (List.map enc_Formula [y1.1])) (by kernel_rfl) (by kernel_rfl) (by first | exact List.length_map .. | rfl) (.sl (t := 35) (fz := 0) (ys := (List.map enc_Formula [y1.1])) (by kernel_rfl) (by kernel_rfl)) (map_ones enc_Formula (fun _ => rfl) _) (map_lens enc_Formula (fun _ => rfl) _) (by kernel_rfl) (by first | exact (List.map_append ..).symm | rfl | simp only [List.map_nil, List.nil_append]) (List.length_map ..) g2 (by omega)) (by kernel_rfl) ?_
        refine o_runs 1 [(6, .sl 10 2000027 (((q1.2 ++ [y1.1])).length) 0 (((q1.2 ++ [y1.1])).length))] (by kernel_rfl) ?_
        refine ov_nil ?_
        refine nrm_blkV ?_
        refine nrm_thenV ?_
        refine vr_text ?_
        refine o_runs 3 [(7, .int .i64 (w64 (q1.1 + 1))), (15, .int .i64 (w64 (q1.1 + 1))), (14, .int .i64 q1.1)] (by kernel_rfl) ?_
        refine ov_nil ?_
        refine nrm_fuel ((w64 (q1.1 + 1)), (q1.2 ++ [y1.1])) hs ?_
        exact cut_of [0, 1, 6, 7] [2000027] (by kernel_rfl) (by kernel_rfl) (by kernel_rfl)
    · replace hs := bif_f h1 hs
      refine v_exit ?_
      refine exit_thenV ?_
      refine exit_fuel ?_
      refine exit_blkV ?_
      obtain rfl := Option.some.inj hs
      refine nrm_join q1.2 rfl ?_
      exact cut_of [6] [2000027] (by kernel_rfl) (by kernel_rfl) (by kernel_rfl)
  · subst hz; clear hs; have hs := hk1; clear hk1
    refine nrm_thenV ?_
    refine v_seq ?_
    refine vr_text ?_
    refine o_runs 3 [(5, .bool true), (4, .sl 10 2000027 ((v1).length) 0 ((v1).length)), (31, .sl 10 2000027 ((v1).length) 0 ((v1).length))] (by kernel_rfl) ?_
    refine ov_nil ?_
    refine nrm_thenV ?_
    refine v_to _ [(2000027, .row 35 10 (((List.map enc_Formula v1)).length) (List.map enc_Formula v1))] (cut_freeze (F := [(2000027, .row 35 10 0 (List.map enc_Formula v1))]) [2000027] rfl (by kernel_rfl) (by kernel_rfl)) ?_
    refine v_to ((4, .vs 10 (List.map enc_Formula v1)) :: _) _ (cut_view (R := [(2000027, .row 35 10 (((List.map enc_Formula v1)).length) (List.map enc_Formula v1))]) (ks := [2000027]) (by kernel_rfl) (by kernel_rfl) (.row (t := 35) (fz := (((List.map enc_Formula v1)).length)) (by kernel_rfl) (by first | (simp only [List.length_map, List.length_set]; done) | rfl))) ?_
    refine v_ret ?_
    obtain rfl := Option.some.inj hs
    exact fin_ret (by kernel_rfl) (by kernel_rfl) (by kernel_rfl)
theorem w_greenbeltlaw45_has (l : (List Int)) (n : Int) (r : Bool) (hs : s_greenbeltlaw45_has l n = some r) : FnA Try.prog 12 [.vs 1 (List.map EV.encI l), .int .i64 n] [] (.bool r) [] := by
  refine fnA_of_wp (N := 18) Try.func12 rfl rfl rfl fun cK0 => ?_
  unfold s_greenbeltlaw45_has at hs
  refine v_same (ρ' := [(0, .vs 1 (List.map EV.encI l)), (1, .int .i64 n)]) rfl rfl ?_
  refine v_seq ?_
  refine vr_text ?_
  refine o_runs 1 [(4, .bool false)] (by kernel_rfl) ?_
  refine ov_nil ?_
  refine nrm_thenV ?_
  refine v_seq ?_
  refine v_seq ?_
  refine vr_text ?_
  refine o_runs 1 [(5, .int .i64 0)] (by kernel_rfl) ?_
  refine ov_nil ?_
  refine nrm_thenV ?_
  obtain ⟨z1, hs, hk1⟩ := bind_some hs
  refine v_join (S := Unit) (fun u => z1 = .inr u) (fun u => []) (fun u => []) ?_ (fun v1 hz => ?_)
  · refine v_block ?_
    refine v_fuel (S := Int) (fun u => [(0, .vs 1 (List.map EV.encI l)), (1, .int .i64 n), (5, .int .i64 u)]) (fun u => []) (s_greenbeltlaw45_has_L1 l n) (fun _ => rfl) KK 0 hs (cut_of [0, 1, 5] [] (by kernel_rfl) (by kernel_rfl) (by kernel_rfl)) (fun K1 q1 hs => ?_)
    rw [s_greenbeltlaw45_has_L1] at hs
    show WpV cK0 Try.prog none 18 _ _ [(0, .vs 1 (List.map EV.encI l)), (1, .int .i64 n), (5, .int .i64 q1)] [] []
    refine v_seq ?_
    refine v_seq ?_
    refine vr_text ?_
    refine o_runs 2 [(7, .vs 1 (List.map EV.encI l)), (6, .int .i64 q1)] (by kernel_rfl) ?_
    refine o_pure (v := .int .i64 (List.length l : Int)) (by kernel_rfl) (by kernel_rfl) (loc_lenVs (sz := 1) (els := (List.map EV.encI l)) (by kernel_rfl) (by kernel_rfl) (List.length_map ..)) ?_
    refine o_runs 1 [(9, .bool (decide (q1 < (List.length l : Int))))] (by kernel_rfl) ?_
    refine ov_nil ?_
    refine nrm_thenV ?_
    refine v_cond (decide (q1 < (List.length l : Int))) (by kernel_rfl) (fun h1 => ?_) (fun h1 => ?_)
    · replace hs := bif_t h1 hs
      refine v_skip ?_
      refine nrm_thenV ?_
      refine v_seq ?_
      refine v_block ?_
      refine v_seq ?_
      refine vr_text ?_
      refine o_runs 2 [(13, .int .i64 q1), (12, .vs 1 (List.map EV.encI l))] (by kernel_rfl) ?_
      obtain ⟨x1, g1, hs⟩ := bind_some hs; obtain ⟨g1a, g1b, g1c⟩ := idx_some g1
      refine o_pure (v := .vp [.int .i64 x1] 0) (by kernel_rfl) (by kernel_rfl) (loc_indexVs (e := 3) (sz := 1) (k := .i64) (els := (List.map EV.encI l)) (cs := (EV.encI x1)) (by kernel_rfl) (by kernel_rfl) (by kernel_rfl) g1a (by rw [g1c]; exact map_get _ (by omega))) ?_
      refine o_runs 3 [(17, .bool (decide (x1 = n))), (16, .int .i64 n), (15, .int .i64 x1)] (by kernel_rfl) ?_
      refine ov_nil ?_
      refine nrm_thenV ?_
      refine v_cond (decide (x1 = n)) (by kernel_rfl) (fun h2 => ?_) (fun h2 => ?_)
      · replace hs := bif_t h2 hs
        refine v_seq ?_
        refine vr_text ?_
        refine o_runs 1 [(4, .bool true)] (by kernel_rfl) ?_
        refine ov_nil ?_
        refine nrm_thenV ?_
        refine v_ret ?_
        refine ret_blkV ?_
        refine ret_thenV ?_
        refine ret_fuel ?_
        refine ret_blkV ?_
        refine ret_join ?_
        refine ret_thenV ?_
        obtain rfl := Option.some.inj hs
        replace hs := hk1
        obtain rfl := Option.some.inj hs
        exact fin_ret (by kernel_rfl) (by kernel_rfl) (by kernel_rfl)
      · replace hs := bif_f h2 hs
        refine v_skip ?_
        refine nrm_blkV ?_
        refine nrm_thenV ?_
        refine vr_text ?_
        refine o_runs 3 [(5, .int .i64 (w64 (q1 + 1))), (11, .int .i64 (w64 (q1 + 1))), (10, .int .i64 q1)] (by kernel_rfl) ?_
        refine ov_nil ?_
        refine nrm_fuel (w64 (q1 + 1)) hs ?_
        exact cut_of [0, 1, 5] [] (by kernel_rfl) (by kernel_rfl) (by kernel_rfl)
    · replace hs := bif_f h1 hs
      refine v_exit ?_
      refine exit_thenV ?_
      refine exit_fuel ?_
      refine exit_blkV ?_
      obtain rfl := Option.some.inj hs
      refine nrm_join () rfl ?_
      exact cut_of [] [] (by kernel_rfl) (by kernel_rfl) (by kernel_rfl)
  · subst hz; clear hs; have hs := hk1; clear hk1
    refine nrm_thenV ?_
    refine v_seq ?_
    refine vr_text ?_
    refine o_runs 1 [(4, .bool false)] (by kernel_rfl) ?_
    refine ov_nil ?_
    refine nrm_thenV ?_
    refine v_ret ?_
    obtain rfl := Option.some.inj hs
    exact fin_ret (by kernel_rfl) (by kernel_rfl) (by kernel_rfl)
theorem w_slices_Clone (s : (List Fact)) (r : (List Fact)) (hs : s_slices_Clone s = some r) : FnA Try.prog 34 [.vs 5 (List.map enc_Fact s)] [] (.sl 5 5 ((r).length) 0 ((r).length)) [(5, .row 51 5 0 (List.map enc_Fact r))] := by
  refine fnA_of_wp (N := 8) Try.func34 rfl rfl rfl fun cK0 => ?_
  unfold s_slices_Clone at hs
  refine v_same (ρ' := [(0, .vs 5 (List.map enc_Fact s))]) rfl rfl ?_
  refine v_seq ?_
  refine vr_text ?_
  refine o_runs 1 [(2, .nils)] (by kernel_rfl) ?_
  refine ov_nil ?_
  refine nrm_thenV ?_
  refine v_seq ?_
  refine v_seq ?_
  refine vr_text ?_
  refine o_runs 1 [(3, .vs 5 (List.map enc_Fact s))] (by kernel_rfl) ?_
  replace hs := nd_some hs
  refine o_isNil (n := ((List.map enc_Fact s)).length) (by kernel_rfl) (by kernel_rfl) (by kernel_rfl) (by kernel_rfl) (by kernel_rfl) (fun h1 => ?_) ?_
  · replace hs := hs.1 (by simpa using h1)
    refine ov_nil ?_
    refine nrm_thenV ?_
    refine v_cond_t (by kernel_rfl) ?_
    refine v_seq ?_
    refine vr_text ?_
    refine o_runs 1 [(2, .nils)] (by kernel_rfl) ?_
    refine ov_nil ?_
    refine nrm_thenV ?_
    refine v_to _ _ (cut_nilRow 2 5 51 5 rfl (by kernel_rfl) (by kernel_rfl)) ?_
    refine v_ret ?_
    refine ret_thenV ?_
    obtain rfl := Option.some.inj hs
    exact fin_ret (by kernel_rfl) (by kernel_rfl) (by kernel_rfl)
  · replace hs := hs.2
    refine ov_nil ?_
    refine nrm_thenV ?_
    refine v_cond_f (by kernel_rfl) ?_
    refine v_skip ?_
    refine nrm_thenV ?_
    refine v_seq ?_
    refine vr_text ?_
    refine o_runh 2 [(6, .vs 5 (List.map enc_Fact s)), (5, .sl 5 5 0 0 0)] [(5, .row 51 5 0 (List.map enc_Fact []))] (by kernel_rfl) ?_
    obtain ⟨_, g1, hs⟩ := bind_some hs; replace g1 := grd_some g1
    refine o_loc (F := [(5, .row 51 5 0 (List.map enc_Fact []))]) (F' := [(5, .row 51 5 0 (List.map enc_Fact s))]) (v := .sl 5 5 ((s).length) 0 ((s).length)) [5] (by kernel_rfl) (by kernel_rfl) rfl (by kernel_rfl) (loc_appendT (e := 51) (sz := 5) (bytes := 48) (L := 0) (els := (List.map enc_Fact [])) (ys := (List.map enc_Fact s)) (by kernel_rfl) (by kernel_rfl) (by first | exact List.length_map .. | rfl) (by have := Src.vs (sz := 5) (R := []) (List.map enc_Fact s); exact this) (map_ones enc_Fact (fun _ => rfl) _) (map_lens enc_Fact (fun _ => rfl) _) (by kernel_rfl) (by first | exact (List.map_append ..).symm | rfl | simp only [List.map_nil, List.nil_append]) (List.length_map ..) g1 (by omega)) (by kernel_rfl) ?_
    refine o_runs 1 [(2, .sl 5 5 ((s).length) 0 ((s).length))] (by kernel_rfl) ?_
    refine ov_nil ?_
    refine nrm_thenV ?_
    refine v_ret ?_
    obtain rfl := Option.some.inj hs
    exact fin_ret (by kernel_rfl) (by kernel_rfl) (by kernel_rfl)
theorem w_fact_Put (base : (List Fact)) (f : Fact) (r : (List Fact) × Int) (hs : s_fact_Put base f = some r) : FnA Try.prog 18 [.vs 5 (List.map enc_Fact base), .agg (enc_Fact f)] [] (.tup [.vs 5 (List.map enc_Fact r.1), .int .i64 r.2]) [] := by
  refine fnA_of_wp (N := 40) Try.func18 rfl rfl rfl fun cK0 => ?_
  unfold s_fact_Put at hs
  refine v_same (ρ' := [(0, .vs 5 (List.map enc_Fact base)), (1, .agg (enc_Fact f))]) rfl rfl ?_
  refine v_seq ?_
  refine vr_text ?_
  refine o_runh 3 [(5, .int .i64 0), (4, .nils), (3, .ptr 3 0 0)] [(3, .box 51 [.str f.Key, .int .i64 f.Value, .int .i64 f.From, .int .i64 f.Until, .int .i64 f.Known])] (by kernel_rfl) ?_
  refine ov_nil ?_
  refine nrm_thenV ?_
  refine v_seq ?_
  refine vr_text ?_
  refine o_runs 1 [(7, .vs 5 (List.map enc_Fact base))] (by kernel_rfl) ?_
  refine o_pure (v := .int .i64 (List.length base : Int)) (by kernel_rfl) (by kernel_rfl) (loc_lenVs (sz := 5) (els := (List.map enc_Fact base)) (by kernel_rfl) (by kernel_rfl) (List.length_map ..)) ?_
  refine o_runs 1 [(6, .int .i64 (List.length base : Int))] (by kernel_rfl) ?_
  refine ov_nil ?_
  refine nrm_thenV ?_
  refine v_seq ?_
  refine v_block ?_
  refine v_seq ?_
  obtain ⟨z1, hs, hk1⟩ := bind_some hs
  refine v_join (S := Bool) (fun u => u = z1) (fun u => [(0, .vs 5 (List.map enc_Fact base)), (3, .ptr 3 0 0), (6, .int .i64 (List.length base : Int)), (9, .bool u)]) (fun u => [(3, .box 51 [.str f.Key, .int .i64 f.Value, .int .i64 f.From, .int .i64 f.Until, .int .i64 f.Known])]) ?_ (fun v1 hz => ?_)
  · refine vr_text ?_
    refine o_runs 1 [(10, .vs 5 (List.map enc_Fact base))] (by kernel_rfl) ?_
    obtain ⟨y1, c1, hs⟩ := bind_some hs
    refine o_pure (v := .bool y1) (by kernel_rfl) (by kernel_rfl) (loc_gcall0 (callV_func hbv23 (by kernel_rfl)) (w_fact_Right base _ c1) (by kernel_rfl)) ?_
    refine o_runs 2 [(13, .bool (!y1)), (12, .bool (!y1))] (by kernel_rfl) ?_
    cases h1 : ((!y1))
    · replace hs := bif_f h1 hs
      refine o_runs 1 [(14, .agg (enc_Fact f))] (by kernel_rfl) ?_
      obtain ⟨y2, c2, hs⟩ := bind_some hs
      refine o_pure (v := .bool y2) (by kernel_rfl) (by kernel_rfl) (loc_gcall0 (callV_func hbv33 (by kernel_rfl)) (w_fact_valid f _ c2) (by kernel_rfl)) ?_
      refine o_runs 3 [(9, .bool (!y2)), (17, .bool (!y2)), (16, .bool (!y2))] (by kernel_rfl) ?_
      refine ov_nil ?_
      obtain rfl := Option.some.inj hs
      refine nrm_join (!y2) rfl ?_
      exact cut_of [0, 3, 6, 9] [3] (by kernel_rfl) (by kernel_rfl) (by kernel_rfl)
    · replace hs := bif_t h1 hs
      refine o_runs 5 [(9, .bool true), (17, .bool true), (16, .no), (15, .no), (14, .no)] (by kernel_rfl) ?_
      refine ov_nil ?_
      obtain rfl := Option.some.inj hs
      refine nrm_join true rfl ?_
      exact cut_of [0, 3, 6, 9] [3] (by kernel_rfl) (by kernel_rfl) (by kernel_rfl)
  · subst hz; clear hs; have hs := hk1; clear hk1
    refine nrm_thenV ?_
    refine v_cond v1 (by kernel_rfl) (fun h2 => ?_) (fun h2 => ?_)
    · replace hs := bif_t h2 hs
      refine v_seq ?_
      refine vr_text ?_
      refine o_runs 2 [(5, .int .i64 1), (4, .nils)] (by kernel_rfl) ?_
      refine ov_nil ?_
      refine nrm_thenV ?_
      refine v_to ((4, .vs 5 (List.map enc_Fact [])) :: _) _ (cut_view (R := []) (ks := []) (by kernel_rfl) (by kernel_rfl) (.nils 5)) ?_
      refine v_ret ?_
      refine ret_blkV ?_
      refine ret_thenV ?_
      obtain rfl := Option.some.inj hs
      exact fin_ret (by kernel_rfl) (by kernel_rfl) (by kernel_rfl)
    · replace hs := bif_f h2 hs
      refine v_seq ?_
      obtain ⟨z2, hs, hk2⟩ := bind_some hs
      refine v_join (S := Bool) (fun u => u = z2) (fun u => [(0, .vs 5 (List.map enc_Fact base)), (3, .ptr 3 0 0), (6, .int .i64 (List.length base : Int)), (18, .bool u)]) (fun u => [(3, .box 51 [.str f.Key, .int .i64 f.Value, .int .i64 f.From, .int .i64 f.Until, .int .i64 f.Known])]) ?_ (fun v2 hz => ?_)
      · refine v_draw mixedH (by kernel_rfl) ?_
        refine d_runs 3 0 [(21, .bool (decide ((List.length base : Int) > 0))), (20, .bool (decide ((List.length base : Int) > 0))), (19, .int .i64 (List.length base : Int))] (pfp 3 2) (by kernel_rfl) (by kernel_rfl) ?_
        cases h3 : ((decide ((List.length base : Int) > 0)))
        · replace hs := bif_f h3 hs
          refine d_runs 11 3 [(18, .bool false), (31, .bool false), (30, .no), (29, .no), (28, .no), (27, .no), (26, .no), (25, .no), (24, .no), (23, .no), (22, .no)] (pfp 11 13) (by kernel_rfl) (by kernel_rfl) ?_
          refine d_nil (by kernel_rfl) ?_
          obtain rfl := Option.some.inj hs
          refine nrm_join false rfl ?_
          exact cut_of [0, 3, 6, 18] [3] (by kernel_rfl) (by kernel_rfl) (by kernel_rfl)
        · replace hs := bif_t h3 hs
          refine d_runs 5 3 [(26, .int .i64 (w64 ((List.length base : Int) - 1))), (25, .int .i64 (List.length base : Int)), (24, .vs 5 (List.map enc_Fact base)), (23, .int .i64 f.Known), (22, .ptr 3 0 4)] [⟨7, [], []⟩, ⟨6, [], []⟩, ⟨5, [], []⟩, ⟨4, [], [3]⟩, ⟨3, [], []⟩] (by kernel_rfl) (by kernel_rfl) ?_
          obtain ⟨x1, g1, hs⟩ := bind_some hs; obtain ⟨g1a, g1b, g1c⟩ := idx_some g1
          refine d_pure (v := .vp (enc_Fact x1) 0) 8 rfl rfl rfl rfl (by kernel_rfl) (by kernel_rfl) (loc_indexVs (e := 51) (sz := 5) (k := .i64) (els := (List.map enc_Fact base)) (cs := (enc_Fact x1)) (by kernel_rfl) (by kernel_rfl) (by kernel_rfl) g1a (by rw [g1c]; exact map_get _ (by omega))) ?_
          refine d_runs 5 9 [(18, .bool (decide (f.Known < x1.Known))), (31, .bool (decide (f.Known < x1.Known))), (30, .bool (decide (f.Known < x1.Known))), (29, .int .i64 x1.Known), (28, .vp (enc_Fact x1) 4)] (pfp 5 13) (by kernel_rfl) (by kernel_rfl) ?_
          refine d_nil (by kernel_rfl) ?_
          obtain rfl := Option.some.inj hs
          refine nrm_join (decide (f.Known < x1.Known)) rfl ?_
          exact cut_of [0, 3, 6, 18] [3] (by kernel_rfl) (by kernel_rfl) (by kernel_rfl)
      · subst hz; clear hs; have hs := hk2; clear hk2
        refine nrm_thenV ?_
        refine v_cond v2 (by kernel_rfl) (fun h4 => ?_) (fun h4 => ?_)
        · replace hs := bif_t h4 hs
          refine v_seq ?_
          refine vr_text ?_
          refine o_runs 2 [(5, .int .i64 20), (4, .nils)] (by kernel_rfl) ?_
          refine ov_nil ?_
          refine nrm_thenV ?_
          refine v_to ((4, .vs 5 (List.map enc_Fact [])) :: _) _ (cut_view (R := []) (ks := []) (by kernel_rfl) (by kernel_rfl) (.nils 5)) ?_
          refine v_ret ?_
          refine ret_blkV ?_
          refine ret_thenV ?_
          obtain rfl := Option.some.inj hs
          exact fin_ret (by kernel_rfl) (by kernel_rfl) (by kernel_rfl)
        · replace hs := bif_f h4 hs
          refine v_seq ?_
          refine vr_text ?_
          refine o_runs 3 [(32, .bool (decide ((List.length base : Int) = 5000))), (34, .bool (decide ((List.length base : Int) = 5000))), (33, .int .i64 (List.length base : Int))] (by kernel_rfl) ?_
          refine ov_nil ?_
          refine nrm_thenV ?_
          refine v_cond (decide ((List.length base : Int) = 5000)) (by kernel_rfl) (fun h5 => ?_) (fun h5 => ?_)
          · replace hs := bif_t h5 hs
            refine v_seq ?_
            refine vr_text ?_
            refine o_runs 2 [(5, .int .i64 6), (4, .nils)] (by kernel_rfl) ?_
            refine ov_nil ?_
            refine nrm_thenV ?_
            refine v_to ((4, .vs 5 (List.map enc_Fact [])) :: _) _ (cut_view (R := []) (ks := []) (by kernel_rfl) (by kernel_rfl) (.nils 5)) ?_
            refine v_ret ?_
            refine ret_blkV ?_
            refine ret_thenV ?_
            obtain rfl := Option.some.inj hs
            exact fin_ret (by kernel_rfl) (by kernel_rfl) (by kernel_rfl)
          · replace hs := bif_f h5 hs
            refine v_skip ?_
            refine nrm_blkV ?_
            refine nrm_thenV ?_
            refine v_seq ?_
            refine v_draw mixedH (by kernel_rfl) ?_
            refine d_runs 1 0 [(35, .vs 5 (List.map enc_Fact base))] (pfp 1 0) (by kernel_rfl) (by kernel_rfl) ?_
            obtain ⟨y3, c3, hs⟩ := bind_some hs
            refine d_loc (F := []) (R := []) (F' := [(3003600, .row 51 5 0 (List.map enc_Fact y3))]) (v := .sl 5 3003600 ((y3).length) 0 ((y3).length)) 1 [] [] rfl rfl rfl rfl (by kernel_rfl) (by kernel_rfl) (by kernel_rfl) (by kernel_rfl) (by kernel_rfl) (by kernel_rfl) (by kernel_rfl) (by kernel_rfl) (loc_g (R := []) [.vs 5 (List.map enc_Fact base)] [(5, 3003600)] (callV_func hbv34 (by kernel_rfl)) (w_slices_Clone base _ c3) (.cons (.same _) (.nil)) (by kernel_rfl) (by kernel_rfl) (by kernel_rfl) (by kernel_rfl) (by kernel_rfl) (by kernel_rfl) (by kernel_rfl) (by kernel_rfl)) ?_
            refine d_runh 2 2 [(38, .sl 5 38 1 0 1), (37, .agg (enc_Fact f))] [(38, .row 51 5 0 (List.map enc_Fact [f])), (3003600, .row 51 5 0 (List.map enc_Fact y3)), (3, .box 51 [.str f.Key, .int .i64 f.Value, .int .i64 f.From, .int .i64 f.Until, .int .i64 f.Known])] [⟨3, [38], []⟩, ⟨2, [], [3]⟩] (by kernel_rfl) (by kernel_rfl) ?_
            obtain ⟨_, g2, hs⟩ := bind_some hs; replace g2 := grd_some g2
            refine d_loc (F := [(3003600, .row 51 5 0 (List.map enc_Fact y3))]) (R := [(38, .row 51 5 0 (List.map enc_Fact [f]))]) (F' := [(3003600, .row 51 5 0 (List.map enc_Fact (y3 ++ [f])))]) (v := .sl 5 3003600 (((y3 ++ [f])).length) 0 (((y3 ++ [f])).length)) 4 [3003600] [38] rfl rfl rfl rfl (by kernel_rfl) (by kernel_rfl) (by kernel_rfl) (by kernel_rfl) (by kernel_rfl) (by kernel_rfl) (by kernel_rfl) (by kernel_rfl) (loc_appendT (e := 51) (sz := 5) (bytes := 48) (L := (y3).length) (els := (List.map enc_Fact y3)) (ys := (List.map enc_Fact [f])) (by kernel_rfl) (by kernel_rfl) (by first | exact List.length_map .. | rfl) (.sl (t := 51) (fz := 0) (ys := (List.map enc_Fact [f])) (by kernel_rfl) (by kernel_rfl)) (map_ones enc_Fact (fun _ => rfl) _) (map_lens enc_Fact (fun _ => rfl) _) (by kernel_rfl) (by first | exact (List.map_append ..).symm | rfl | simp only [List.map_nil, List.nil_append]) (List.length_map ..) g2 (by omega)) ?_
            refine d_runs 2 5 [(5, .int .i64 0), (4, .sl 5 3003600 (((y3 ++ [f])).length) 0 (((y3 ++ [f])).length))] (pfp 2 6) (by kernel_rfl) (by kernel_rfl) ?_
            refine d_nil (by kernel_rfl) ?_
            refine nrm_thenV ?_
            refine v_to _ [(3003600, .row 51 5 (((List.map enc_Fact (y3 ++ [f]))).length) (List.map enc_Fact (y3 ++ [f]))), (38, .row 51 5 0 (List.map enc_Fact [f])), (3, .box 51 [.str f.Key, .int .i64 f.Value, .int .i64 f.From, .int .i64 f.Until, .int .i64 f.Known])] (cut_freeze (F := [(3003600, .row 51 5 0 (List.map enc_Fact (y3 ++ [f])))]) [3003600] rfl (by kernel_rfl) (by kernel_rfl)) ?_
            refine v_to ((4, .vs 5 (List.map enc_Fact (y3 ++ [f]))) :: _) _ (cut_view (R := [(3003600, .row 51 5 (((List.map enc_Fact (y3 ++ [f]))).length) (List.map enc_Fact (y3 ++ [f])))]) (ks := [3003600]) (by kernel_rfl) (by kernel_rfl) (.row (t := 51) (fz := (((List.map enc_Fact (y3 ++ [f]))).length)) (by kernel_rfl) (by first | (simp only [List.length_map, List.length_set]; done) | rfl))) ?_
            refine v_ret ?_
            obtain rfl := Option.some.inj hs
            exact fin_ret (by kernel_rfl) (by kernel_rfl) (by kernel_rfl)
theorem w_greenbeltlaw45_names (e : Expr) (s : (List UInt8)) (r : Bool) (hs : s_greenbeltlaw45_names e s = some r) : FnA Try.prog 19 [.agg (enc_Expr e), .str s] [] (.bool r) [] := by
  refine fnA_of_wp (N := 21) Try.func19 rfl rfl rfl fun cK0 => ?_
  unfold s_greenbeltlaw45_names at hs
  refine v_same (ρ' := [(0, .agg (enc_Expr e)), (1, .str s)]) rfl rfl ?_
  refine v_seq ?_
  refine vr_text ?_
  refine o_runh 2 [(4, .bool false), (2, .ptr 2 0 0)] [(2, .box 32 [.int .i64 e.Op, .int .i64 e.N, .str e.S, .str e.Key, .vs 5 (encs_Expr e.Args)])] (by kernel_rfl) ?_
  refine ov_nil ?_
  refine nrm_thenV ?_
  refine v_seq ?_
  refine vr_text ?_
  refine o_runs 1 [(7, .agg (enc_Expr e))] (by kernel_rfl) ?_
  obtain ⟨y1, c1, hs⟩ := bind_some hs
  refine o_pure (v := .vs 1 (List.map EV.encS y1)) (by kernel_rfl) (by kernel_rfl) (loc_gcall0 (callV_func hbv35 (by kernel_rfl)) (w_define_Names e _ c1) (by kernel_rfl)) ?_
  refine o_runs 1 [(5, .vs 1 (List.map EV.encS y1))] (by kernel_rfl) ?_
  refine ov_nil ?_
  refine nrm_thenV ?_
  refine v_seq ?_
  refine v_seq ?_
  refine vr_text ?_
  refine o_runs 1 [(6, .int .i64 0)] (by kernel_rfl) ?_
  refine ov_nil ?_
  refine nrm_thenV ?_
  obtain ⟨z1, hs, hk1⟩ := bind_some hs
  refine v_join (S := Unit) (fun u => z1 = .inr u) (fun u => []) (fun u => []) ?_ (fun v1 hz => ?_)
  · refine v_block ?_
    refine v_fuel (S := Int) (fun u => [(1, .str s), (5, .vs 1 (List.map EV.encS y1)), (6, .int .i64 u)]) (fun u => []) (s_greenbeltlaw45_names_L1 s y1) (fun _ => rfl) KK 0 hs (cut_of [1, 5, 6] [] (by kernel_rfl) (by kernel_rfl) (by kernel_rfl)) (fun K1 q1 hs => ?_)
    rw [s_greenbeltlaw45_names_L1] at hs
    show WpV cK0 Try.prog none 21 _ _ [(1, .str s), (5, .vs 1 (List.map EV.encS y1)), (6, .int .i64 q1)] [] []
    refine v_seq ?_
    refine v_seq ?_
    refine vr_text ?_
    refine o_runs 2 [(10, .vs 1 (List.map EV.encS y1)), (9, .int .i64 q1)] (by kernel_rfl) ?_
    refine o_pure (v := .int .i64 (List.length y1 : Int)) (by kernel_rfl) (by kernel_rfl) (loc_lenVs (sz := 1) (els := (List.map EV.encS y1)) (by kernel_rfl) (by kernel_rfl) (List.length_map ..)) ?_
    refine o_runs 1 [(12, .bool (decide (q1 < (List.length y1 : Int))))] (by kernel_rfl) ?_
    refine ov_nil ?_
    refine nrm_thenV ?_
    refine v_cond (decide (q1 < (List.length y1 : Int))) (by kernel_rfl) (fun h1 => ?_) (fun h1 => ?_)
    · replace hs := bif_t h1 hs
      refine v_skip ?_
      refine nrm_thenV ?_
      refine v_seq ?_
      refine v_block ?_
      refine v_seq ?_
      refine vr_text ?_
      refine o_runs 2 [(16, .int .i64 q1), (15, .vs 1 (List.map EV.encS y1))] (by kernel_rfl) ?_
      obtain ⟨x1, g1, hs⟩ := bind_some hs; obtain ⟨g1a, g1b, g1c⟩ := idx_some g1
      refine o_pure (v := .vp [.str x1] 0) (by kernel_rfl) (by kernel_rfl) (loc_indexVs (e := 9) (sz := 1) (k := .i64) (els := (List.map EV.encS y1)) (cs := (EV.encS x1)) (by kernel_rfl) (by kernel_rfl) (by kernel_rfl) g1a (by rw [g1c]; exact map_get _ (by omega))) ?_
      refine o_runs 3 [(20, .bool (decide (x1 = s))), (19, .str s), (18, .str x1)] (by kernel_rfl) ?_
      refine ov_nil ?_
      refine nrm_thenV ?_
      refine v_cond (decide (x1 = s)) (by kernel_rfl) (fun h2 => ?_) (fun h2 => ?_)
      · replace hs := bif_t h2 hs
        refine v_seq ?_
        refine vr_text ?_
        refine o_runs 1 [(4, .bool true)] (by kernel_rfl) ?_
        refine ov_nil ?_
        refine nrm_thenV ?_
        refine v_ret ?_
        refine ret_blkV ?_
        refine ret_thenV ?_
        refine ret_fuel ?_
        refine ret_blkV ?_
        refine ret_join ?_
        refine ret_thenV ?_
        obtain rfl := Option.some.inj hs
        replace hs := hk1
        obtain rfl := Option.some.inj hs
        exact fin_ret (by kernel_rfl) (by kernel_rfl) (by kernel_rfl)
      · replace hs := bif_f h2 hs
        refine v_skip ?_
        refine nrm_blkV ?_
        refine nrm_thenV ?_
        refine vr_text ?_
        refine o_runs 3 [(6, .int .i64 (w64 (q1 + 1))), (14, .int .i64 (w64 (q1 + 1))), (13, .int .i64 q1)] (by kernel_rfl) ?_
        refine ov_nil ?_
        refine nrm_fuel (w64 (q1 + 1)) hs ?_
        exact cut_of [1, 5, 6] [] (by kernel_rfl) (by kernel_rfl) (by kernel_rfl)
    · replace hs := bif_f h1 hs
      refine v_exit ?_
      refine exit_thenV ?_
      refine exit_fuel ?_
      refine exit_blkV ?_
      obtain rfl := Option.some.inj hs
      refine nrm_join () rfl ?_
      exact cut_of [] [] (by kernel_rfl) (by kernel_rfl) (by kernel_rfl)
  · subst hz; clear hs; have hs := hk1; clear hk1
    refine nrm_thenV ?_
    refine v_seq ?_
    refine vr_text ?_
    refine o_runs 1 [(4, .bool false)] (by kernel_rfl) ?_
    refine ov_nil ?_
    refine nrm_thenV ?_
    refine v_ret ?_
    obtain rfl := Option.some.inj hs
    exact fin_ret (by kernel_rfl) (by kernel_rfl) (by kernel_rfl)
theorem w_greenbeltlaw45_ReopenPut (base : (List Fact)) (l : (List Formula)) (x : Fact) (known : Int) (r : Bool) (hs : s_greenbeltlaw45_ReopenPut base l x known = some r) : FnA Try.prog 5 [.vs 5 (List.map enc_Fact base), .vs 10 (List.map enc_Formula l), .agg (enc_Fact x), .int .i64 known] [] (.bool r) [] := by
  refine fnA_of_wp (N := 161) Try.func5 rfl rfl rfl fun cK0 => ?_
  unfold s_greenbeltlaw45_ReopenPut at hs
  refine v_same (ρ' := [(0, .vs 5 (List.map enc_Fact base)), (1, .vs 10 (List.map enc_Formula l)), (2, .agg (enc_Fact x)), (3, .int .i64 known)]) rfl rfl ?_
  refine v_seq ?_
  refine vr_text ?_
  refine o_runh 2 [(8, .bool false), (6, .ptr 6 0 0)] [(6, .box 51 [.str x.Key, .int .i64 x.Value, .int .i64 x.From, .int .i64 x.Until, .int .i64 x.Known])] (by kernel_rfl) ?_
  refine ov_nil ?_
  refine nrm_thenV ?_
  refine v_seq ?_
  refine vr_text ?_
  obtain ⟨y1, c1, hs⟩ := bind_some hs
  refine o_pure (v := .bool y1) (by kernel_rfl) (by kernel_rfl) (loc_gcall0 (callV_func hbv6 (by kernel_rfl)) (w_greenbeltlaw45_small  _ c1) (by kernel_rfl)) ?_
  refine o_runs 1 [(9, .bool y1)] (by kernel_rfl) ?_
  refine ov_nil ?_
  refine nrm_thenV ?_
  refine v_seq ?_
  refine v_seq ?_
  obtain ⟨z1, hs, hk1⟩ := bind_some hs
  refine v_join (S := Bool) (fun u => u = z1) (fun u => [(0, .vs 5 (List.map enc_Fact base)), (1, .vs 10 (List.map enc_Formula l)), (3, .int .i64 known), (6, .ptr 6 0 0), (9, .bool y1), (28, .bool u)]) (fun u => [(6, .box 51 [.str x.Key, .int .i64 x.Value, .int .i64 x.From, .int .i64 x.Until, .int .i64 x.Known])]) ?_ (fun v1 hz => ?_)
  · refine vr_text ?_
    refine o_runs 2 [(21, .vs 10 (List.map enc_Formula l)), (20, .vs 5 (List.map enc_Fact base))] (by kernel_rfl) ?_
    obtain ⟨y2, c2, hs⟩ := bind_some hs
    refine o_pure (v := .bool y2) (by kernel_rfl) (by kernel_rfl) (loc_gcall0 (callV_func hbv7 (by kernel_rfl)) (w_greenbeltref45_Few base l _ c2) (by kernel_rfl)) ?_
    refine o_runs 2 [(24, .bool (!y2)), (23, .bool (!y2))] (by kernel_rfl) ?_
    cases h1 : ((!y2))
    · replace hs := bif_f h1 hs
      refine o_runs 1 [(25, .vs 5 (List.map enc_Fact base))] (by kernel_rfl) ?_
      refine o_pure (v := .int .i64 (List.length base : Int)) (by kernel_rfl) (by kernel_rfl) (loc_lenVs (sz := 5) (els := (List.map enc_Fact base)) (by kernel_rfl) (by kernel_rfl) (List.length_map ..)) ?_
      refine o_runs 2 [(28, .bool (decide ((List.length base : Int) > 29))), (27, .bool (decide ((List.length base : Int) > 29)))] (by kernel_rfl) ?_
      refine ov_nil ?_
      obtain rfl := Option.some.inj hs
      refine nrm_join (decide ((List.length base : Int) > 29)) rfl ?_
      exact cut_of [0, 1, 3, 6, 9, 28] [6] (by kernel_rfl) (by kernel_rfl) (by kernel_rfl)
    · replace hs := bif_t h1 hs
      refine o_runs 4 [(28, .bool true), (27, .no), (26, .no), (25, .no)] (by kernel_rfl) ?_
      refine ov_nil ?_
      obtain rfl := Option.some.inj hs
      refine nrm_join true rfl ?_
      exact cut_of [0, 1, 3, 6, 9, 28] [6] (by kernel_rfl) (by kernel_rfl) (by kernel_rfl)
  · subst hz; clear hs; have hs := hk1; clear hk1
    refine nrm_thenV ?_
    refine v_cond v1 (by kernel_rfl) (fun h2 => ?_) (fun h2 => ?_)
    · replace hs := bif_t h2 hs
      refine v_seq ?_
      refine vr_text ?_
      refine o_runs 2 [(8, .bool y1), (29, .bool y1)] (by kernel_rfl) ?_
      refine ov_nil ?_
      refine nrm_thenV ?_
      refine v_ret ?_
      refine ret_thenV ?_
      obtain rfl := Option.some.inj hs
      exact fin_ret (by kernel_rfl) (by kernel_rfl) (by kernel_rfl)
    · replace hs := bif_f h2 hs
      refine v_skip ?_
      refine nrm_thenV ?_
      refine v_seq ?_
      refine vr_text ?_
      refine o_runs 2 [(32, .agg (enc_Fact x)), (31, .vs 5 (List.map enc_Fact base))] (by kernel_rfl) ?_
      obtain ⟨y3, c3, hs⟩ := bind_some hs
      refine o_pure (v := .tup [.vs 5 (List.map enc_Fact y3.1), .int .i64 y3.2]) (by kernel_rfl) (by kernel_rfl) (loc_gcall0 (callV_func hbv18 (by kernel_rfl)) (w_fact_Put base x _ c3) (by kernel_rfl)) ?_
      refine o_runs 5 [(11, .int .i64 y3.2), (10, .vs 5 (List.map enc_Fact y3.1)), (35, .int .i64 y3.2), (34, .vs 5 (List.map enc_Fact y3.1)), (30, .tup [.vs 5 (List.map enc_Fact y3.1), .int .i64 y3.2])] (by kernel_rfl) ?_
      refine ov_nil ?_
      refine nrm_thenV ?_
      refine v_seq ?_
      refine vr_text ?_
      refine o_runs 2 [(38, .vs 10 (List.map enc_Formula l)), (37, .vs 5 (List.map enc_Fact base))] (by kernel_rfl) ?_
      obtain ⟨y4, c4, hs⟩ := bind_some hs
      refine o_pure (v := .tup [.vs 10 (List.map enc_Formula y4.1), .bool y4.2]) (by kernel_rfl) (by kernel_rfl) (loc_gcall0 (callV_func hbv8 (by kernel_rfl)) (w_greenbeltlaw45_made base l _ c4) (by kernel_rfl)) ?_
      refine o_runs 5 [(13, .bool y4.2), (12, .vs 10 (List.map enc_Formula y4.1)), (41, .bool y4.2), (40, .vs 10 (List.map enc_Formula y4.1)), (36, .tup [.vs 10 (List.map enc_Formula y4.1), .bool y4.2])] (by kernel_rfl) ?_
      refine ov_nil ?_
      refine nrm_thenV ?_
      refine v_seq ?_
      refine v_seq ?_
      obtain ⟨z2, hs, hk2⟩ := bind_some hs
      refine v_join (S := Bool) (fun u => u = z2) (fun u => [(0, .vs 5 (List.map enc_Fact base)), (3, .int .i64 known), (6, .ptr 6 0 0), (9, .bool y1), (10, .vs 5 (List.map enc_Fact y3.1)), (12, .vs 10 (List.map enc_Formula y4.1)), (47, .bool u)]) (fun u => [(6, .box 51 [.str x.Key, .int .i64 x.Value, .int .i64 x.From, .int .i64 x.Until, .int .i64 x.Known])]) ?_ (fun v2 hz => ?_)
      · refine vr_text ?_
        refine o_runs 3 [(44, .bool (!(decide (y3.2 = 0)))), (43, .bool (!(decide (y3.2 = 0)))), (42, .int .i64 y3.2)] (by kernel_rfl) ?_
        cases h3 : ((!(decide (y3.2 = 0))))
        · replace hs := bif_f h3 hs
          refine o_runs 3 [(47, .bool (!y4.2)), (46, .bool (!y4.2)), (45, .bool y4.2)] (by kernel_rfl) ?_
          refine ov_nil ?_
          obtain rfl := Option.some.inj hs
          refine nrm_join (!y4.2) rfl ?_
          exact cut_of [0, 3, 6, 9, 10, 12, 47] [6] (by kernel_rfl) (by kernel_rfl) (by kernel_rfl)
        · replace hs := bif_t h3 hs
          refine o_runs 3 [(47, .bool true), (46, .no), (45, .no)] (by kernel_rfl) ?_
          refine ov_nil ?_
          obtain rfl := Option.some.inj hs
          refine nrm_join true rfl ?_
          exact cut_of [0, 3, 6, 9, 10, 12, 47] [6] (by kernel_rfl) (by kernel_rfl) (by kernel_rfl)
      · subst hz; clear hs; have hs := hk2; clear hk2
        refine nrm_thenV ?_
        refine v_cond v2 (by kernel_rfl) (fun h4 => ?_) (fun h4 => ?_)
        · replace hs := bif_t h4 hs
          refine v_seq ?_
          refine vr_text ?_
          refine o_runs 2 [(8, .bool y1), (48, .bool y1)] (by kernel_rfl) ?_
          refine ov_nil ?_
          refine nrm_thenV ?_
          refine v_ret ?_
          refine ret_thenV ?_
          obtain rfl := Option.some.inj hs
          exact fin_ret (by kernel_rfl) (by kernel_rfl) (by kernel_rfl)
        · replace hs := bif_f h4 hs
          refine v_skip ?_
          refine nrm_thenV ?_
          refine v_seq ?_
          refine vr_text ?_
          refine o_runs 3 [(51, .int .i64 known), (50, .vs 10 (List.map enc_Formula y4.1)), (49, .vs 5 (List.map enc_Fact base))] (by kernel_rfl) ?_
          obtain ⟨y5, c5, hs⟩ := bind_some hs
          refine o_pure (v := .vs 1 (List.map EV.encI y5)) (by kernel_rfl) (by kernel_rfl) (loc_gcall0 (callV_func hbv10 (by kernel_rfl)) (w_reopen_Touched base y4.1 known _ c5) (by kernel_rfl)) ?_
          refine o_runs 1 [(14, .vs 1 (List.map EV.encI y5))] (by kernel_rfl) ?_
          refine ov_nil ?_
          refine nrm_thenV ?_
          refine v_seq ?_
          refine vr_text ?_
          refine o_runs 3 [(55, .int .i64 known), (54, .vs 10 (List.map enc_Formula y4.1)), (53, .vs 5 (List.map enc_Fact y3.1))] (by kernel_rfl) ?_
          obtain ⟨y6, c6, hs⟩ := bind_some hs
          refine o_pure (v := .vs 1 (List.map EV.encI y6)) (by kernel_rfl) (by kernel_rfl) (loc_gcall0 (callV_func hbv10 (by kernel_rfl)) (w_reopen_Touched y3.1 y4.1 known _ c6) (by kernel_rfl)) ?_
          refine o_runs 1 [(15, .vs 1 (List.map EV.encI y6))] (by kernel_rfl) ?_
          refine ov_nil ?_
          refine nrm_thenV ?_
          refine v_seq ?_
          refine v_seq ?_
          obtain ⟨z3, hs, hk3⟩ := bind_some hs
          refine v_join (S := Bool) (fun u => u = z3) (fun u => [(6, .ptr 6 0 0), (9, .bool y1), (10, .vs 5 (List.map enc_Fact y3.1)), (12, .vs 10 (List.map enc_Formula y4.1)), (14, .vs 1 (List.map EV.encI y5)), (15, .vs 1 (List.map EV.encI y6)), (78, .bool u)]) (fun u => [(6, .box 51 [.str x.Key, .int .i64 x.Value, .int .i64 x.From, .int .i64 x.Until, .int .i64 x.Known])]) ?_ (fun v3 hz => ?_)
          · refine vr_text ?_
            refine o_runs 5 [(61, .bool (decide (known < x.Known))), (60, .bool (decide (known < x.Known))), (59, .int .i64 x.Known), (58, .ptr 6 0 4), (57, .int .i64 known)] (by kernel_rfl) ?_
            cases h5 : ((decide (known < x.Known)))
            · replace hs := bif_f h5 hs
              refine o_runs 17 [(78, .bool false), (77, .no), (76, .no), (75, .no), (74, .no), (73, .no), (72, .no), (71, .no), (70, .no), (69, .no), (68, .no), (67, .no), (66, .no), (65, .no), (64, .no), (63, .no), (62, .no)] (by kernel_rfl) ?_
              refine ov_nil ?_
              obtain rfl := Option.some.inj hs
              refine nrm_join false rfl ?_
              exact cut_of [6, 9, 10, 12, 14, 15, 78] [6] (by kernel_rfl) (by kernel_rfl) (by kernel_rfl)
            · replace hs := bif_t h5 hs
              refine o_runs 2 [(63, .vs 1 (List.map EV.encI y6)), (62, .vs 1 (List.map EV.encI y5))] (by kernel_rfl) ?_
              obtain ⟨y7, c7, hs⟩ := bind_some hs
              refine o_pure (v := .bool y7) (by kernel_rfl) (by kernel_rfl) (loc_gcall0 (callV_func hbv17 (by kernel_rfl)) (w_greenbeltref45_Ints y5 y6 _ c7) (by kernel_rfl)) ?_
              refine o_runs 2 [(66, .bool (!y7)), (65, .bool (!y7))] (by kernel_rfl) ?_
              cases h6 : ((!y7))
              · replace hs := bif_f h6 hs
                refine o_runs 3 [(69, .int .i64 known), (68, .vs 10 (List.map enc_Formula y4.1)), (67, .vs 5 (List.map enc_Fact base))] (by kernel_rfl) ?_
                obtain ⟨y8, c8, hs⟩ := bind_some hs
                refine o_pure (v := .vs 1 (List.map EV.encI y8)) (by kernel_rfl) (by kernel_rfl) (loc_gcall0 (callV_func hbv9 (by kernel_rfl)) (w_reopen_Reopened base y4.1 known _ c8) (by kernel_rfl)) ?_
                refine o_runs 3 [(73, .int .i64 known), (72, .vs 10 (List.map enc_Formula y4.1)), (71, .vs 5 (List.map enc_Fact y3.1))] (by kernel_rfl) ?_
                obtain ⟨y9, c9, hs⟩ := bind_some hs
                refine o_pure (v := .vs 1 (List.map EV.encI y9)) (by kernel_rfl) (by kernel_rfl) (loc_gcall0 (callV_func hbv9 (by kernel_rfl)) (w_reopen_Reopened y3.1 y4.1 known _ c9) (by kernel_rfl)) ?_
                obtain ⟨y10, c10, hs⟩ := bind_some hs
                refine o_pure (v := .bool y10) (by kernel_rfl) (by kernel_rfl) (loc_gcall0 (callV_func hbv17 (by kernel_rfl)) (w_greenbeltref45_Ints y8 y9 _ c10) (by kernel_rfl)) ?_
                refine o_runs 3 [(78, .bool (!y10)), (77, .bool (!y10)), (76, .bool (!y10))] (by kernel_rfl) ?_
                refine ov_nil ?_
                obtain rfl := Option.some.inj hs
                refine nrm_join (!y10) rfl ?_
                exact cut_of [6, 9, 10, 12, 14, 15, 78] [6] (by kernel_rfl) (by kernel_rfl) (by kernel_rfl)
              · replace hs := bif_t h6 hs
                refine o_runs 12 [(78, .bool true), (77, .bool true), (76, .no), (75, .no), (74, .no), (73, .no), (72, .no), (71, .no), (70, .no), (69, .no), (68, .no), (67, .no)] (by kernel_rfl) ?_
                refine ov_nil ?_
                obtain rfl := Option.some.inj hs
                refine nrm_join true rfl ?_
                exact cut_of [6, 9, 10, 12, 14, 15, 78] [6] (by kernel_rfl) (by kernel_rfl) (by kernel_rfl)
          · subst hz; clear hs; have hs := hk3; clear hk3
            refine nrm_thenV ?_
            refine v_cond v3 (by kernel_rfl) (fun h7 => ?_) (fun h7 => ?_)
            · replace hs := bif_t h7 hs
              refine v_seq ?_
              refine vr_text ?_
              refine o_runs 1 [(8, .bool false)] (by kernel_rfl) ?_
              refine ov_nil ?_
              refine nrm_thenV ?_
              refine v_ret ?_
              refine ret_thenV ?_
              obtain rfl := Option.some.inj hs
              exact fin_ret (by kernel_rfl) (by kernel_rfl) (by kernel_rfl)
            · replace hs := bif_f h7 hs
              refine v_skip ?_
              refine nrm_thenV ?_
              refine v_seq ?_
              refine v_seq ?_
              refine vr_text ?_
              refine o_runs 1 [(16, .int .i64 0)] (by kernel_rfl) ?_
              refine ov_nil ?_
              refine nrm_thenV ?_
              obtain ⟨z4, hs, hk4⟩ := bind_some hs
              refine v_join (S := Unit) (fun u => z4 = .inr u) (fun u => [(9, .bool y1)]) (fun u => []) ?_ (fun v4 hz => ?_)
              · refine v_block ?_
                refine v_fuel (S := Int) (fun u => [(6, .ptr 6 0 0), (9, .bool y1), (10, .vs 5 (List.map enc_Fact y3.1)), (12, .vs 10 (List.map enc_Formula y4.1)), (14, .vs 1 (List.map EV.encI y5)), (15, .vs 1 (List.map EV.encI y6)), (16, .int .i64 u)]) (fun u => [(6, .box 51 [.str x.Key, .int .i64 x.Value, .int .i64 x.From, .int .i64 x.Until, .int .i64 x.Known])]) (s_greenbeltlaw45_ReopenPut_L1 x y3 y4 y5 y6) (fun _ => rfl) KK 0 hs (cut_of [6, 9, 10, 12, 14, 15, 16] [6] (by kernel_rfl) (by kernel_rfl) (by kernel_rfl)) (fun K1 q1 hs => ?_)
                rw [s_greenbeltlaw45_ReopenPut_L1] at hs
                show WpV cK0 Try.prog none 161 _ _ [(6, .ptr 6 0 0), (9, .bool y1), (10, .vs 5 (List.map enc_Fact y3.1)), (12, .vs 10 (List.map enc_Formula y4.1)), (14, .vs 1 (List.map EV.encI y5)), (15, .vs 1 (List.map EV.encI y6)), (16, .int .i64 q1)] [(6, .box 51 [.str x.Key, .int .i64 x.Value, .int .i64 x.From, .int .i64 x.Until, .int .i64 x.Known])] []
                refine v_seq ?_
                refine v_seq ?_
                refine vr_text ?_
                refine o_runs 2 [(80, .vs 10 (List.map enc_Formula y4.1)), (79, .int .i64 q1)] (by kernel_rfl) ?_
                refine o_pure (v := .int .i64 (List.length y4.1 : Int)) (by kernel_rfl) (by kernel_rfl) (loc_lenVs (sz := 10) (els := (List.map enc_Formula y4.1)) (by kernel_rfl) (by kernel_rfl) (List.length_map ..)) ?_
                refine o_runs 1 [(82, .bool (decide (q1 < (List.length y4.1 : Int))))] (by kernel_rfl) ?_
                refine ov_nil ?_
                refine nrm_thenV ?_
                refine v_cond (decide (q1 < (List.length y4.1 : Int))) (by kernel_rfl) (fun h8 => ?_) (fun h8 => ?_)
                · replace hs := bif_t h8 hs
                  refine v_skip ?_
                  refine nrm_thenV ?_
                  refine v_seq ?_
                  refine v_block ?_
                  refine v_seq ?_
                  obtain ⟨z5, hs, hk5⟩ := bind_some hs
                  refine v_join (S := Bool) (fun u => u = z5) (fun u => [(6, .ptr 6 0 0), (9, .bool y1), (10, .vs 5 (List.map enc_Fact y3.1)), (12, .vs 10 (List.map enc_Formula y4.1)), (14, .vs 1 (List.map EV.encI y5)), (15, .vs 1 (List.map EV.encI y6)), (16, .int .i64 q1), (17, .bool u)]) (fun u => [(6, .box 51 [.str x.Key, .int .i64 x.Value, .int .i64 x.From, .int .i64 x.Until, .int .i64 x.Known])]) ?_ (fun v5 hz => ?_)
                  · refine v_draw mixedH (by kernel_rfl) ?_
                    refine d_runs 2 0 [(86, .int .i64 q1), (85, .vs 10 (List.map enc_Formula y4.1))] (pfp 2 1) (by kernel_rfl) (by kernel_rfl) ?_
                    obtain ⟨x1, g1, hs⟩ := bind_some hs; obtain ⟨g1a, g1b, g1c⟩ := idx_some g1
                    refine d_pure (v := .vp (enc_Formula x1) 0) 2 rfl rfl rfl rfl (by kernel_rfl) (by kernel_rfl) (loc_indexVs (e := 35) (sz := 10) (k := .i64) (els := (List.map enc_Formula y4.1)) (cs := (enc_Formula x1)) (by kernel_rfl) (by kernel_rfl) (by kernel_rfl) g1a (by rw [g1c]; exact map_get _ (by omega))) ?_
                    refine d_runs 6 3 [(93, .bool (decide (x1.Day ≥ x.From))), (92, .bool (decide (x1.Day ≥ x.From))), (91, .int .i64 x.From), (90, .ptr 6 0 2), (89, .int .i64 x1.Day), (88, .vp (enc_Formula x1) 1)] [⟨8, [], []⟩, ⟨7, [], []⟩, ⟨6, [], [6]⟩, ⟨5, [], []⟩, ⟨4, [], []⟩, ⟨3, [], []⟩] (by kernel_rfl) (by kernel_rfl) ?_
                    cases h9 : ((decide (x1.Day ≥ x.From)))
                    · replace hs := bif_f h9 hs
                      refine d_runs 15 9 [(17, .bool false), (107, .bool false), (106, .no), (105, .no), (104, .no), (103, .no), (102, .no), (101, .no), (100, .no), (99, .no), (98, .no), (97, .no), (96, .no), (95, .no), (94, .no)] (pfp 15 23) (by kernel_rfl) (by kernel_rfl) ?_
                      refine d_nil (by kernel_rfl) ?_
                      obtain rfl := Option.some.inj hs
                      refine nrm_join false rfl ?_
                      exact cut_of [6, 9, 10, 12, 14, 15, 16, 17] [6] (by kernel_rfl) (by kernel_rfl) (by kernel_rfl)
                    · replace hs := bif_t h9 hs
                      refine d_runs 4 9 [(97, .bool (decide (x.Until = 0))), (96, .bool (decide (x.Until = 0))), (95, .int .i64 x.Until), (94, .ptr 6 0 3)] [⟨12, [], []⟩, ⟨11, [], []⟩, ⟨10, [], [6]⟩, ⟨9, [], []⟩] (by kernel_rfl) (by kernel_rfl) ?_
                      cases h10 : ((decide (x.Until = 0)))
                      · replace hs := bif_f h10 hs
                        refine d_runs 2 13 [(99, .int .i64 q1), (98, .vs 10 (List.map enc_Formula y4.1))] (pfp 2 14) (by kernel_rfl) (by kernel_rfl) ?_
                        obtain ⟨x2, g2, hs⟩ := bind_some hs; obtain ⟨g2a, g2b, g2c⟩ := idx_some g2
                        refine d_pure (v := .vp (enc_Formula x2) 0) 15 rfl rfl rfl rfl (by kernel_rfl) (by kernel_rfl) (loc_indexVs (e := 35) (sz := 10) (k := .i64) (els := (List.map enc_Formula y4.1)) (cs := (enc_Formula x2)) (by kernel_rfl) (by kernel_rfl) (by kernel_rfl) g2a (by rw [g2c]; exact map_get _ (by omega))) ?_
                        refine d_runs 8 16 [(17, .bool (decide (x2.Day < x.Until))), (107, .bool (decide (x2.Day < x.Until))), (106, .bool (decide (x2.Day < x.Until))), (105, .bool (decide (x2.Day < x.Until))), (104, .int .i64 x.Until), (103, .ptr 6 0 3), (102, .int .i64 x2.Day), (101, .vp (enc_Formula x2) 1)] [⟨23, [], []⟩, ⟨22, [], []⟩, ⟨21, [], []⟩, ⟨20, [], []⟩, ⟨19, [], [6]⟩, ⟨18, [], []⟩, ⟨17, [], []⟩, ⟨16, [], []⟩] (by kernel_rfl) (by kernel_rfl) ?_
                        refine d_nil (by kernel_rfl) ?_
                        obtain rfl := Option.some.inj hs
                        refine nrm_join (decide (x2.Day < x.Until)) rfl ?_
                        exact cut_of [6, 9, 10, 12, 14, 15, 16, 17] [6] (by kernel_rfl) (by kernel_rfl) (by kernel_rfl)
                      · replace hs := bif_t h10 hs
                        refine d_runs 11 13 [(17, .bool true), (107, .bool true), (106, .bool true), (105, .no), (104, .no), (103, .no), (102, .no), (101, .no), (100, .no), (99, .no), (98, .no)] (pfp 11 23) (by kernel_rfl) (by kernel_rfl) ?_
                        refine d_nil (by kernel_rfl) ?_
                        obtain rfl := Option.some.inj hs
                        refine nrm_join true rfl ?_
                        exact cut_of [6, 9, 10, 12, 14, 15, 16, 17] [6] (by kernel_rfl) (by kernel_rfl) (by kernel_rfl)
                  · subst hz; clear hs; have hs := hk5; clear hk5
                    refine nrm_thenV ?_
                    refine v_seq ?_
                    obtain ⟨z6, hs, hk6⟩ := bind_some hs
                    refine v_join (S := Bool) (fun u => u = z6) (fun u => [(6, .ptr 6 0 0), (9, .bool y1), (10, .vs 5 (List.map enc_Fact y3.1)), (12, .vs 10 (List.map enc_Formula y4.1)), (14, .vs 1 (List.map EV.encI y5)), (15, .vs 1 (List.map EV.encI y6)), (16, .int .i64 q1), (18, .bool u)]) (fun u => [(6, .box 51 [.str x.Key, .int .i64 x.Value, .int .i64 x.From, .int .i64 x.Until, .int .i64 x.Known])]) ?_ (fun v6 hz => ?_)
                    · refine v_draw mixedH (by kernel_rfl) ?_
                      refine d_runs 2 0 [(109, .bool v5), (108, .bool v5)] (pfp 2 1) (by kernel_rfl) (by kernel_rfl) ?_
                      cases h11 : (v5)
                      · replace hs := bif_f h11 hs
                        refine d_runs 10 2 [(18, .bool false), (118, .bool false), (117, .no), (116, .no), (115, .no), (114, .no), (113, .no), (112, .no), (111, .no), (110, .no)] (pfp 10 11) (by kernel_rfl) (by kernel_rfl) ?_
                        refine d_nil (by kernel_rfl) ?_
                        obtain rfl := Option.some.inj hs
                        refine nrm_join false rfl ?_
                        exact cut_of [6, 9, 10, 12, 14, 15, 16, 18] [6] (by kernel_rfl) (by kernel_rfl) (by kernel_rfl)
                      · replace hs := bif_t h11 hs
                        refine d_runs 2 2 [(111, .int .i64 q1), (110, .vs 10 (List.map enc_Formula y4.1))] (pfp 2 3) (by kernel_rfl) (by kernel_rfl) ?_
                        obtain ⟨x3, g3, hs⟩ := bind_some hs; obtain ⟨g3a, g3b, g3c⟩ := idx_some g3
                        refine d_pure (v := .vp (enc_Formula x3) 0) 4 rfl rfl rfl rfl (by kernel_rfl) (by kernel_rfl) (loc_indexVs (e := 35) (sz := 10) (k := .i64) (els := (List.map enc_Formula y4.1)) (cs := (enc_Formula x3)) (by kernel_rfl) (by kernel_rfl) (by kernel_rfl) g3a (by rw [g3c]; exact map_get _ (by omega))) ?_
                        refine d_runs 4 5 [(116, .str x.Key), (115, .ptr 6 0 0), (114, .agg (enc_Expr x3.Body)), (113, .vp (enc_Formula x3) 3)] [⟨8, [], [6]⟩, ⟨7, [], []⟩, ⟨6, [], []⟩, ⟨5, [], []⟩] (by kernel_rfl) (by kernel_rfl) ?_
                        obtain ⟨y11, c11, hs⟩ := bind_some hs
                        refine d_pure (v := .bool y11) 9 rfl rfl rfl rfl (by kernel_rfl) (by kernel_rfl) (loc_gcall0 (callV_func hbv19 (by kernel_rfl)) (w_greenbeltlaw45_names x3.Body x.Key _ c11) (by kernel_rfl)) ?_
                        refine d_runs 2 10 [(18, .bool y11), (118, .bool y11)] (pfp 2 11) (by kernel_rfl) (by kernel_rfl) ?_
                        refine d_nil (by kernel_rfl) ?_
                        obtain rfl := Option.some.inj hs
                        refine nrm_join y11 rfl ?_
                        exact cut_of [6, 9, 10, 12, 14, 15, 16, 18] [6] (by kernel_rfl) (by kernel_rfl) (by kernel_rfl)
                    · subst hz; clear hs; have hs := hk6; clear hk6
                      refine nrm_thenV ?_
                      refine v_seq ?_
                      refine v_seq ?_
                      obtain ⟨z7, hs, hk7⟩ := bind_some hs
                      refine v_join (S := Bool) (fun u => u = z7) (fun u => [(6, .ptr 6 0 0), (9, .bool y1), (10, .vs 5 (List.map enc_Fact y3.1)), (12, .vs 10 (List.map enc_Formula y4.1)), (14, .vs 1 (List.map EV.encI y5)), (15, .vs 1 (List.map EV.encI y6)), (16, .int .i64 q1), (18, .bool v6), (129, .bool u)]) (fun u => [(6, .box 51 [.str x.Key, .int .i64 x.Value, .int .i64 x.From, .int .i64 x.Until, .int .i64 x.Known])]) ?_ (fun v7 hz => ?_)
                      · refine vr_text ?_
                        refine o_runs 2 [(120, .int .i64 q1), (119, .vs 1 (List.map EV.encI y6))] (by kernel_rfl) ?_
                        obtain ⟨y12, c12, hs⟩ := bind_some hs
                        refine o_pure (v := .bool y12) (by kernel_rfl) (by kernel_rfl) (loc_gcall0 (callV_func hbv12 (by kernel_rfl)) (w_greenbeltlaw45_has y6 q1 _ c12) (by kernel_rfl)) ?_
                        refine o_runs 2 [(123, .int .i64 q1), (122, .vs 1 (List.map EV.encI y5))] (by kernel_rfl) ?_
                        obtain ⟨y13, c13, hs⟩ := bind_some hs
                        refine o_pure (v := .bool y13) (by kernel_rfl) (by kernel_rfl) (loc_gcall0 (callV_func hbv12 (by kernel_rfl)) (w_greenbeltlaw45_has y5 q1 _ c13) (by kernel_rfl)) ?_
                        refine o_runs 2 [(126, .bool (!(y12 == y13))), (125, .bool (!(y12 == y13)))] (by kernel_rfl) ?_
                        cases h12 : ((!(y12 == y13)))
                        · replace hs := bif_f h12 hs
                          refine o_runs 3 [(129, .bool false), (128, .no), (127, .no)] (by kernel_rfl) ?_
                          refine ov_nil ?_
                          obtain rfl := Option.some.inj hs
                          refine nrm_join false rfl ?_
                          exact cut_of [6, 9, 10, 12, 14, 15, 16, 18, 129] [6] (by kernel_rfl) (by kernel_rfl) (by kernel_rfl)
                        · replace hs := bif_t h12 hs
                          refine o_runs 3 [(129, .bool (!v6)), (128, .bool (!v6)), (127, .bool v6)] (by kernel_rfl) ?_
                          refine ov_nil ?_
                          obtain rfl := Option.some.inj hs
                          refine nrm_join (!v6) rfl ?_
                          exact cut_of [6, 9, 10, 12, 14, 15, 16, 18, 129] [6] (by kernel_rfl) (by kernel_rfl) (by kernel_rfl)
                      · subst hz; clear hs; have hs := hk7; clear hk7
                        refine nrm_thenV ?_
                        refine v_cond v7 (by kernel_rfl) (fun h13 => ?_) (fun h13 => ?_)
                        · replace hs := bif_t h13 hs
                          refine v_seq ?_
                          refine vr_text ?_
                          refine o_runs 1 [(8, .bool false)] (by kernel_rfl) ?_
                          refine ov_nil ?_
                          refine nrm_thenV ?_
                          refine v_ret ?_
                          refine ret_thenV ?_
                          refine ret_blkV ?_
                          refine ret_thenV ?_
                          refine ret_fuel ?_
                          refine ret_blkV ?_
                          refine ret_join ?_
                          refine ret_thenV ?_
                          obtain rfl := Option.some.inj hs
                          replace hs := hk4
                          obtain rfl := Option.some.inj hs
                          exact fin_ret (by kernel_rfl) (by kernel_rfl) (by kernel_rfl)
                        · replace hs := bif_f h13 hs
                          refine v_skip ?_
                          refine nrm_thenV ?_
                          refine v_seq ?_
                          obtain ⟨z8, hs, hk8⟩ := bind_some hs
                          refine v_join (S := Bool) (fun u => u = z8) (fun u => [(6, .ptr 6 0 0), (9, .bool y1), (10, .vs 5 (List.map enc_Fact y3.1)), (12, .vs 10 (List.map enc_Formula y4.1)), (14, .vs 1 (List.map EV.encI y5)), (15, .vs 1 (List.map EV.encI y6)), (16, .int .i64 q1), (159, .bool u)]) (fun u => [(6, .box 51 [.str x.Key, .int .i64 x.Value, .int .i64 x.From, .int .i64 x.Until, .int .i64 x.Known])]) ?_ (fun v8 hz => ?_)
                          · refine v_draw mixedH (by kernel_rfl) ?_
                            refine d_runs 2 0 [(131, .int .i64 q1), (130, .vs 10 (List.map enc_Formula y4.1))] (pfp 2 1) (by kernel_rfl) (by kernel_rfl) ?_
                            obtain ⟨x4, g4, hs⟩ := bind_some hs; obtain ⟨g4a, g4b, g4c⟩ := idx_some g4
                            refine d_pure (v := .vp (enc_Formula x4) 0) 2 rfl rfl rfl rfl (by kernel_rfl) (by kernel_rfl) (loc_indexVs (e := 35) (sz := 10) (k := .i64) (els := (List.map enc_Formula y4.1)) (cs := (enc_Formula x4)) (by kernel_rfl) (by kernel_rfl) (by kernel_rfl) g4a (by rw [g4c]; exact map_get _ (by omega))) ?_
                            refine d_runs 6 3 [(138, .bool (decide (x4.Known < x.Known))), (137, .bool (decide (x4.Known < x.Known))), (136, .int .i64 x.Known), (135, .ptr 6 0 4), (134, .int .i64 x4.Known), (133, .vp (enc_Formula x4) 2)] [⟨8, [], []⟩, ⟨7, [], []⟩, ⟨6, [], [6]⟩, ⟨5, [], []⟩, ⟨4, [], []⟩, ⟨3, [], []⟩] (by kernel_rfl) (by kernel_rfl) ?_
                            cases h14 : ((decide (x4.Known < x.Known)))
                            · replace hs := bif_f h14 hs
                              refine d_runs 12 9 [(150, .bool (!v6)), (149, .bool (!v6)), (148, .bool v6), (147, .bool false), (146, .bool false), (145, .no), (144, .no), (143, .no), (142, .no), (141, .no), (140, .no), (139, .no)] (pfp 12 20) (by kernel_rfl) (by kernel_rfl) ?_
                              cases h15 : ((!v6))
                              · replace hs := bif_f h15 hs
                                refine d_runs 9 21 [(159, .bool false), (158, .bool false), (157, .no), (156, .no), (155, .no), (154, .no), (153, .no), (152, .no), (151, .no)] (pfp 9 29) (by kernel_rfl) (by kernel_rfl) ?_
                                refine d_nil (by kernel_rfl) ?_
                                obtain rfl := Option.some.inj hs
                                refine nrm_join false rfl ?_
                                exact cut_of [6, 9, 10, 12, 14, 15, 16, 159] [6] (by kernel_rfl) (by kernel_rfl) (by kernel_rfl)
                              · replace hs := bif_t h15 hs
                                refine d_runs 3 21 [(153, .int .i64 q1), (152, .vs 10 (List.map enc_Formula y4.1)), (151, .vs 5 (List.map enc_Fact y3.1))] (pfp 3 23) (by kernel_rfl) (by kernel_rfl) ?_
                                obtain ⟨x5, g5, hs⟩ := bind_some hs; obtain ⟨g5a, g5b, g5c⟩ := idx_some g5
                                refine d_pure (v := .vp (enc_Formula x5) 0) 24 rfl rfl rfl rfl (by kernel_rfl) (by kernel_rfl) (loc_indexVs (e := 35) (sz := 10) (k := .i64) (els := (List.map enc_Formula y4.1)) (cs := (enc_Formula x5)) (by kernel_rfl) (by kernel_rfl) (by kernel_rfl) g5a (by rw [g5c]; exact map_get _ (by omega))) ?_
                                refine d_runs 1 25 [(155, .agg (enc_Formula x5))] (pfp 1 25) (by kernel_rfl) (by kernel_rfl) ?_
                                obtain ⟨y14, c14, hs⟩ := bind_some hs
                                refine d_pure (v := .bool y14) 26 rfl rfl rfl rfl (by kernel_rfl) (by kernel_rfl) (loc_gcall0 (callV_func hbv15 (by kernel_rfl)) (w_reopen_Holds y3.1 x5 _ c14) (by kernel_rfl)) ?_
                                refine d_runs 3 27 [(159, .bool (!y14)), (158, .bool (!y14)), (157, .bool (!y14))] (pfp 3 29) (by kernel_rfl) (by kernel_rfl) ?_
                                refine d_nil (by kernel_rfl) ?_
                                obtain rfl := Option.some.inj hs
                                refine nrm_join (!y14) rfl ?_
                                exact cut_of [6, 9, 10, 12, 14, 15, 16, 159] [6] (by kernel_rfl) (by kernel_rfl) (by kernel_rfl)
                            · replace hs := bif_t h14 hs
                              refine d_runs 3 9 [(141, .int .i64 q1), (140, .vs 10 (List.map enc_Formula y4.1)), (139, .vs 5 (List.map enc_Fact y3.1))] (pfp 3 11) (by kernel_rfl) (by kernel_rfl) ?_
                              obtain ⟨x6, g6, hs⟩ := bind_some hs; obtain ⟨g6a, g6b, g6c⟩ := idx_some g6
                              refine d_pure (v := .vp (enc_Formula x6) 0) 12 rfl rfl rfl rfl (by kernel_rfl) (by kernel_rfl) (loc_indexVs (e := 35) (sz := 10) (k := .i64) (els := (List.map enc_Formula y4.1)) (cs := (enc_Formula x6)) (by kernel_rfl) (by kernel_rfl) (by kernel_rfl) g6a (by rw [g6c]; exact map_get _ (by omega))) ?_
                              refine d_runs 1 13 [(143, .agg (enc_Formula x6))] (pfp 1 13) (by kernel_rfl) (by kernel_rfl) ?_
                              obtain ⟨y15, c15, hs⟩ := bind_some hs
                              refine d_pure (v := .bool y15) 14 rfl rfl rfl rfl (by kernel_rfl) (by kernel_rfl) (loc_gcall0 (callV_func hbv15 (by kernel_rfl)) (w_reopen_Holds y3.1 x6 _ c15) (by kernel_rfl)) ?_
                              refine d_runs 3 15 [(147, .bool (!y15)), (146, .bool (!y15)), (145, .bool (!y15))] (pfp 3 17) (by kernel_rfl) (by kernel_rfl) ?_
                              cases h16 : ((!y15))
                              · replace hs := bif_f h16 hs
                                refine d_runs 3 18 [(150, .bool (!v6)), (149, .bool (!v6)), (148, .bool v6)] (pfp 3 20) (by kernel_rfl) (by kernel_rfl) ?_
                                cases h17 : ((!v6))
                                · replace hs := bif_f h17 hs
                                  refine d_runs 9 21 [(159, .bool false), (158, .bool false), (157, .no), (156, .no), (155, .no), (154, .no), (153, .no), (152, .no), (151, .no)] (pfp 9 29) (by kernel_rfl) (by kernel_rfl) ?_
                                  refine d_nil (by kernel_rfl) ?_
                                  obtain rfl := Option.some.inj hs
                                  refine nrm_join false rfl ?_
                                  exact cut_of [6, 9, 10, 12, 14, 15, 16, 159] [6] (by kernel_rfl) (by kernel_rfl) (by kernel_rfl)
                                · replace hs := bif_t h17 hs
                                  refine d_runs 3 21 [(153, .int .i64 q1), (152, .vs 10 (List.map enc_Formula y4.1)), (151, .vs 5 (List.map enc_Fact y3.1))] (pfp 3 23) (by kernel_rfl) (by kernel_rfl) ?_
                                  obtain ⟨x7, g7, hs⟩ := bind_some hs; obtain ⟨g7a, g7b, g7c⟩ := idx_some g7
                                  refine d_pure (v := .vp (enc_Formula x7) 0) 24 rfl rfl rfl rfl (by kernel_rfl) (by kernel_rfl) (loc_indexVs (e := 35) (sz := 10) (k := .i64) (els := (List.map enc_Formula y4.1)) (cs := (enc_Formula x7)) (by kernel_rfl) (by kernel_rfl) (by kernel_rfl) g7a (by rw [g7c]; exact map_get _ (by omega))) ?_
                                  refine d_runs 1 25 [(155, .agg (enc_Formula x7))] (pfp 1 25) (by kernel_rfl) (by kernel_rfl) ?_
                                  obtain ⟨y16, c16, hs⟩ := bind_some hs
                                  refine d_pure (v := .bool y16) 26 rfl rfl rfl rfl (by kernel_rfl) (by kernel_rfl) (loc_gcall0 (callV_func hbv15 (by kernel_rfl)) (w_reopen_Holds y3.1 x7 _ c16) (by kernel_rfl)) ?_
                                  refine d_runs 3 27 [(159, .bool (!y16)), (158, .bool (!y16)), (157, .bool (!y16))] (pfp 3 29) (by kernel_rfl) (by kernel_rfl) ?_
                                  refine d_nil (by kernel_rfl) ?_
                                  obtain rfl := Option.some.inj hs
                                  refine nrm_join (!y16) rfl ?_
                                  exact cut_of [6, 9, 10, 12, 14, 15, 16, 159] [6] (by kernel_rfl) (by kernel_rfl) (by kernel_rfl)
                              · replace hs := bif_t h16 hs
                                refine d_runs 12 18 [(159, .bool true), (158, .no), (157, .no), (156, .no), (155, .no), (154, .no), (153, .no), (152, .no), (151, .no), (150, .no), (149, .no), (148, .no)] (pfp 12 29) (by kernel_rfl) (by kernel_rfl) ?_
                                refine d_nil (by kernel_rfl) ?_
                                obtain rfl := Option.some.inj hs
                                refine nrm_join true rfl ?_
                                exact cut_of [6, 9, 10, 12, 14, 15, 16, 159] [6] (by kernel_rfl) (by kernel_rfl) (by kernel_rfl)
                          · subst hz; clear hs; have hs := hk8; clear hk8
                            refine nrm_thenV ?_
                            refine v_cond v8 (by kernel_rfl) (fun h18 => ?_) (fun h18 => ?_)
                            · replace hs := bif_t h18 hs
                              refine v_seq ?_
                              refine vr_text ?_
                              refine o_runs 1 [(8, .bool false)] (by kernel_rfl) ?_
                              refine ov_nil ?_
                              refine nrm_thenV ?_
                              refine v_ret ?_
                              refine ret_blkV ?_
                              refine ret_thenV ?_
                              refine ret_fuel ?_
                              refine ret_blkV ?_
                              refine ret_join ?_
                              refine ret_thenV ?_
                              obtain rfl := Option.some.inj hs
                              replace hs := hk4
                              obtain rfl := Option.some.inj hs
                              exact fin_ret (by kernel_rfl) (by kernel_rfl) (by kernel_rfl)
                            · replace hs := bif_f h18 hs
                              refine v_skip ?_
                              refine nrm_blkV ?_
                              refine nrm_thenV ?_
                              refine vr_text ?_
                              refine o_runs 3 [(16, .int .i64 (w64 (q1 + 1))), (84, .int .i64 (w64 (q1 + 1))), (83, .int .i64 q1)] (by kernel_rfl) ?_
                              refine ov_nil ?_
                              refine nrm_fuel (w64 (q1 + 1)) hs ?_
                              exact cut_of [6, 9, 10, 12, 14, 15, 16] [6] (by kernel_rfl) (by kernel_rfl) (by kernel_rfl)
                · replace hs := bif_f h8 hs
                  refine v_exit ?_
                  refine exit_thenV ?_
                  refine exit_fuel ?_
                  refine exit_blkV ?_
                  obtain rfl := Option.some.inj hs
                  refine nrm_join () rfl ?_
                  exact cut_of [9] [] (by kernel_rfl) (by kernel_rfl) (by kernel_rfl)
              · subst hz; clear hs; have hs := hk4; clear hk4
                refine nrm_thenV ?_
                refine v_seq ?_
                refine vr_text ?_
                refine o_runs 2 [(8, .bool y1), (160, .bool y1)] (by kernel_rfl) ?_
                refine ov_nil ?_
                refine nrm_thenV ?_
                refine v_ret ?_
                obtain rfl := Option.some.inj hs
                exact fin_ret (by kernel_rfl) (by kernel_rfl) (by kernel_rfl)
end Go.Proofs.Ytenljipeggacjaa
