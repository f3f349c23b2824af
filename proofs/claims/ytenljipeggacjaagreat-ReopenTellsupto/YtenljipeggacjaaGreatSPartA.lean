/- printed by gen2.py -/
import Derived.Test.YtenljipeggacjaaGreatE
import Derived.Test.YtenljipeggacjaaGreatSD
set_option linter.all false
set_option maxRecDepth 100000
namespace Go.Proofs.YtenljipeggacjaaGreat
open Go Go.RowKit Go.Eng Go.EV
variable [Fuel]

theorem hbv25 : hasBody Tryz.prog 25 := body_of (by kernel_rfl)
theorem mixedH : Tryz.prog.follows .mixedOrders = true := by kernel_rfl
theorem hbv43 : hasBody Tryz.prog 43 := body_of (by kernel_rfl)
theorem hbv27 : hasBody Tryz.prog 27 := body_of (by kernel_rfl)
theorem hbv60 : hasBody Tryz.prog 60 := body_of (by kernel_rfl)
theorem hbv47 : hasBody Tryz.prog 47 := body_of (by kernel_rfl)
theorem hbv31 : hasBody Tryz.prog 31 := body_of (by kernel_rfl)
theorem hbv9 : hasBody Tryz.prog 9 := body_of (by kernel_rfl)
theorem hbv37 : hasBody Tryz.prog 37 := body_of (by kernel_rfl)
theorem kok9 : KeyOK Tryz.prog 9 V.str (fun s : List UInt8 => Value.string ⟨s.toArray⟩) := keyOK_str (by kernel_rfl)
theorem hbv39 : hasBody Tryz.prog 39 := body_of (by kernel_rfl)
theorem hbv38 : hasBody Tryz.prog 38 := body_of (by kernel_rfl)
theorem hbv52 : hasBody Tryz.prog 52 := body_of (by kernel_rfl)
theorem hbv19 : hasBody Tryz.prog 19 := body_of (by kernel_rfl)
theorem hbv79 : hasBody Tryz.prog 79 := body_of (by kernel_rfl)
theorem hbv80 : hasBody Tryz.prog 80 := body_of (by kernel_rfl)
theorem hbv107 : hasBody Tryz.prog 107 := body_of (by kernel_rfl)
theorem hbv62 : hasBody Tryz.prog 62 := body_of (by kernel_rfl)
theorem hbv49 : hasBody Tryz.prog 49 := body_of (by kernel_rfl)
theorem hbv34 : hasBody Tryz.prog 34 := body_of (by kernel_rfl)
theorem hbv14 : hasBody Tryz.prog 14 := body_of (by kernel_rfl)
theorem hbv92 : hasBody Tryz.prog 92 := body_of (by kernel_rfl)
theorem hbv93 : hasBody Tryz.prog 93 := body_of (by kernel_rfl)
theorem hbv94 : hasBody Tryz.prog 94 := body_of (by kernel_rfl)
theorem hbv117 : hasBody Tryz.prog 117 := body_of (by kernel_rfl)
theorem hbv123 : hasBody Tryz.prog 123 := body_of (by kernel_rfl)
theorem hbv116 : hasBody Tryz.prog 116 := body_of (by kernel_rfl)
theorem hbv95 : hasBody Tryz.prog 95 := body_of (by kernel_rfl)
theorem hbv68 : hasBody Tryz.prog 68 := body_of (by kernel_rfl)
theorem hbv97 : hasBody Tryz.prog 97 := body_of (by kernel_rfl)
theorem hbv96 : hasBody Tryz.prog 96 := body_of (by kernel_rfl)
theorem hbv99 : hasBody Tryz.prog 99 := body_of (by kernel_rfl)
theorem hbv98 : hasBody Tryz.prog 98 := body_of (by kernel_rfl)
theorem hbv69 : hasBody Tryz.prog 69 := body_of (by kernel_rfl)
theorem hbv100 : hasBody Tryz.prog 100 := body_of (by kernel_rfl)
theorem hbv71 : hasBody Tryz.prog 71 := body_of (by kernel_rfl)
theorem hbv70 : hasBody Tryz.prog 70 := body_of (by kernel_rfl)
theorem hbv57 : hasBody Tryz.prog 57 := body_of (by kernel_rfl)
theorem hbv101 : hasBody Tryz.prog 101 := body_of (by kernel_rfl)
theorem hbv72 : hasBody Tryz.prog 72 := body_of (by kernel_rfl)
theorem hbv56 : hasBody Tryz.prog 56 := body_of (by kernel_rfl)
theorem hbv44 : hasBody Tryz.prog 44 := body_of (by kernel_rfl)
theorem hbv28 : hasBody Tryz.prog 28 := body_of (by kernel_rfl)
theorem hbv6 : hasBody Tryz.prog 6 := body_of (by kernel_rfl)
theorem hbv13 : hasBody Tryz.prog 13 := body_of (by kernel_rfl)
theorem hbv42 : hasBody Tryz.prog 42 := body_of (by kernel_rfl)
theorem hbv40 : hasBody Tryz.prog 40 := body_of (by kernel_rfl)
theorem hbv23 : hasBody Tryz.prog 23 := body_of (by kernel_rfl)
theorem hbv20 : hasBody Tryz.prog 20 := body_of (by kernel_rfl)
theorem hbv17 : hasBody Tryz.prog 17 := body_of (by kernel_rfl)
theorem hbv41 : hasBody Tryz.prog 41 := body_of (by kernel_rfl)
theorem hbv21 : hasBody Tryz.prog 21 := body_of (by kernel_rfl)
theorem hbv33 : hasBody Tryz.prog 33 := body_of (by kernel_rfl)
theorem hbv11 : hasBody Tryz.prog 11 := body_of (by kernel_rfl)
theorem hbv16 : hasBody Tryz.prog 16 := body_of (by kernel_rfl)
theorem hbv4 : hasBody Tryz.prog 4 := body_of (by kernel_rfl)
theorem hbv26 : hasBody Tryz.prog 26 := body_of (by kernel_rfl)
theorem hbv5 : hasBody Tryz.prog 5 := body_of (by kernel_rfl)
theorem hbv45 : hasBody Tryz.prog 45 := body_of (by kernel_rfl)
theorem hbv29 : hasBody Tryz.prog 29 := body_of (by kernel_rfl)
theorem hbv61 : hasBody Tryz.prog 61 := body_of (by kernel_rfl)
theorem hbv48 : hasBody Tryz.prog 48 := body_of (by kernel_rfl)
theorem hbv32 : hasBody Tryz.prog 32 := body_of (by kernel_rfl)
theorem hbv10 : hasBody Tryz.prog 10 := body_of (by kernel_rfl)
theorem hbv63 : hasBody Tryz.prog 63 := body_of (by kernel_rfl)
theorem hbv50 : hasBody Tryz.prog 50 := body_of (by kernel_rfl)
theorem hbv35 : hasBody Tryz.prog 35 := body_of (by kernel_rfl)
theorem hbv64 : hasBody Tryz.prog 64 := body_of (by kernel_rfl)
theorem hbv51 : hasBody Tryz.prog 51 := body_of (by kernel_rfl)
theorem hbv36 : hasBody Tryz.prog 36 := body_of (by kernel_rfl)
theorem hbv15 : hasBody Tryz.prog 15 := body_of (by kernel_rfl)
theorem hbv118 : hasBody Tryz.prog 118 := body_of (by kernel_rfl)
theorem hbv103 : hasBody Tryz.prog 103 := body_of (by kernel_rfl)
theorem hbv104 : hasBody Tryz.prog 104 := body_of (by kernel_rfl)
theorem hbv105 : hasBody Tryz.prog 105 := body_of (by kernel_rfl)
theorem hbv78 : hasBody Tryz.prog 78 := body_of (by kernel_rfl)
theorem hbv59 : hasBody Tryz.prog 59 := body_of (by kernel_rfl)
theorem hbv73 : hasBody Tryz.prog 73 := body_of (by kernel_rfl)
theorem hbv74 : hasBody Tryz.prog 74 := body_of (by kernel_rfl)
theorem hbv76 : hasBody Tryz.prog 76 := body_of (by kernel_rfl)
theorem hbv75 : hasBody Tryz.prog 75 := body_of (by kernel_rfl)
theorem hbv58 : hasBody Tryz.prog 58 := body_of (by kernel_rfl)
theorem hbv102 : hasBody Tryz.prog 102 := body_of (by kernel_rfl)
theorem hbv77 : hasBody Tryz.prog 77 := body_of (by kernel_rfl)
theorem hbv46 : hasBody Tryz.prog 46 := body_of (by kernel_rfl)
theorem hbv30 : hasBody Tryz.prog 30 := body_of (by kernel_rfl)
theorem hbv7 : hasBody Tryz.prog 7 := body_of (by kernel_rfl)
theorem hbv8 : hasBody Tryz.prog 8 := body_of (by kernel_rfl)
theorem hbv12 : hasBody Tryz.prog 12 := body_of (by kernel_rfl)
theorem hbv18 : hasBody Tryz.prog 18 := body_of (by kernel_rfl)
theorem hbv22 : hasBody Tryz.prog 22 := body_of (by kernel_rfl)
theorem hbv24 : hasBody Tryz.prog 24 := body_of (by kernel_rfl)
theorem w_greenbeltlaw45_less (s : (List UInt8)) (n : Int) (r : Expr) (hs : s_greenbeltlaw45_less s n = some r) : FnA Tryz.prog 25 [.str s, .int .i64 n] [] (.agg (enc_Expr r)) [] := by
 refine fnA_of_wp (N := 11) Tryz.func25 rfl rfl rfl fun cK0 => ?_
 unfold s_greenbeltlaw45_less at hs
 refine v_same (ρ' := [(0, .str s), (1, .int .i64 n)]) rfl rfl ?_
 refine v_seq (vr_text (o_runh 1 [(4, .ptr 4 0 0)] [(4, .box 28 [.int .i64 0, .int .i64 0, .str [], .str [], .nils])] (by kernel_rfl) ?_))
 refine ov_nil (nrm_thenV (v_seq (vr_text (o_runs 4 [(8, .agg [.int .i64 0, .int .i64 n, .str [], .str [], .nils]), (7, .int .i64 n), (6, .agg [.int .i64 1, .int .i64 0, .str s, .str [], .nils]), (5, .str s)] (by kernel_rfl) ?_))))
 refine o_loc (F := []) (F' := [(9, .row 28 5 0 (encs_Expr [(Expr.mk 1 0 s [] []), (Expr.mk 0 n [] [] [])]))]) (v := .sl 5 9 2 0 2) [] (by kernel_rfl) (by kernel_rfl) rfl (by kernel_rfl) (loc_buildSliceW (e := 28) (sz := 5) (els := [[.int .i64 1, .int .i64 0, .str s, .str [], .nils], [.int .i64 0, .int .i64 n, .str [], .str [], .nils]]) (els2 := [[.int .i64 1, .int .i64 0, .str s, .str [], .vs 5 []], [.int .i64 0, .int .i64 n, .str [], .str [], .vs 5 []]]) (fl := [.int .i64 1, .int .i64 0, .str s, .str [], .nils, .int .i64 0, .int .i64 n, .str [], .str [], .nils]) (fl2 := [.int .i64 1, .int .i64 0, .str s, .str [], .vs 5 [], .int .i64 0, .int .i64 n, .str [], .str [], .vs 5 []]) (by kernel_rfl) (by kernel_rfl) (by kernel_rfl) (by kernel_rfl) (by kernel_rfl) (wk_same (wk_same (wk_same (wk_same (wk_nils (wk_same (wk_same (wk_same (wk_same (wk_nils wk_nil)))))))))) (by kernel_rfl) (by kernel_rfl) (by kernel_rfl)) (by kernel_rfl) ?_
 refine o_runh 2 [(10, .agg [.int .i64 11, .int .i64 0, .str [], .str [], .sl 5 9 2 0 2])] [(9, .row 28 5 0 (encs_Expr [(Expr.mk 1 0 s [] []), (Expr.mk 0 n [] [] [])])), (4, .box 28 [.int .i64 11, .int .i64 0, .str [], .str [], .sl 5 9 2 0 2])] (by kernel_rfl) ?_
 refine ov_nil (nrm_thenV (v_to _ [(9, .row 28 5 (((encs_Expr [(Expr.mk 1 0 s [] []), (Expr.mk 0 n [] [] [])])).length) (encs_Expr [(Expr.mk 1 0 s [] []), (Expr.mk 0 n [] [] [])])), (4, .box 28 [.int .i64 11, .int .i64 0, .str [], .str [], .sl 5 9 2 0 2])] (cut_freeze (F := [(9, .row 28 5 0 (encs_Expr [(Expr.mk 1 0 s [] []), (Expr.mk 0 n [] [] [])]))]) [9] rfl (by kernel_rfl) (by kernel_rfl)) ?_))
 refine v_to _ [(4, .box 28 [.int .i64 11, .int .i64 0, .str [], .str [], .vs 5 (encs_Expr [(Expr.mk 1 0 s [] []), (Expr.mk 0 n [] [] [])])]), (9, .row 28 5 (((encs_Expr [(Expr.mk 1 0 s [] []), (Expr.mk 0 n [] [] [])])).length) (encs_Expr [(Expr.mk 1 0 s [] []), (Expr.mk 0 n [] [] [])]))] (cut_box (k := 4) (t := 28) (cs := [.int .i64 11, .int .i64 0, .str [], .str [], .sl 5 9 2 0 2]) (cs' := [.int .i64 11, .int .i64 0, .str [], .str [], .vs 5 (encs_Expr [(Expr.mk 1 0 s [] []), (Expr.mk 0 n [] [] [])])]) [(9, .row 28 5 (((encs_Expr [(Expr.mk 1 0 s [] []), (Expr.mk 0 n [] [] [])])).length) (encs_Expr [(Expr.mk 1 0 s [] []), (Expr.mk 0 n [] [] [])]))] [9] (by kernel_rfl) (by kernel_rfl) (by kernel_rfl) (.cons (.same _) (.cons (.same _) (.cons (.same _) (.cons (.same _) (.cons (.row (t := 28) (fz := (((encs_Expr [(Expr.mk 1 0 s [] []), (Expr.mk 0 n [] [] [])])).length)) (by kernel_rfl) (by first | (simp only [List.length_map, List.length_set]; done) | rfl)) (.nil)))))) (by kernel_rfl)) ?_
 refine v_ret ?_
 obtain rfl := si hs
 exact fin_ret (by kernel_rfl) (by kernel_rfl) (by kernel_rfl)
theorem w_fact_valid (f : Fact) (r : Bool) (hs : s_fact_valid f = some r) : FnA Tryz.prog 43 [.agg (enc_Fact f)] [] (.bool r) [] := by
 refine fnA_of_wp (N := 42) Tryz.func43 rfl rfl rfl fun cK0 => ?_
 unfold s_fact_valid at hs
 refine v_same (ρ' := [(0, .agg (enc_Fact f))]) rfl rfl ?_
 refine v_seq (vr_text (o_runh 2 [(2, .bool false), (1, .ptr 1 0 0)] [(1, .box 49 [.str f.Key, .int .i64 f.Value, .int .i64 f.From, .int .i64 f.Until, .int .i64 f.Known])] (by kernel_rfl) ?_))
 refine ov_nil (nrm_thenV (v_seq ?_))
 obtain ⟨z1, hs, hk1⟩ := bind_some hs
 refine v_join (S := Bool) (fun u => u = z1) (fun u => [(2, .bool u)]) (fun u => []) ?_ (fun v1 hz => ?_)
 ·refine vr_text (o_runs 4 [(6, .bool (!(decide (f.Key = [])))), (5, .bool (!(decide (f.Key = [])))), (4, .str f.Key), (3, .ptr 1 0 0)] (by kernel_rfl) ?_)
  cases h1 : ((!(decide (f.Key = []))))
  ·replace hs := bif_f h1 hs
   refine o_runs 36 [(2, .bool false), (41, .bool false), (40, .no), (39, .no), (38, .no), (37, .no), (36, .no), (35, .no), (34, .no), (33, .no), (32, .no), (31, .no), (30, .bool false), (29, .bool false), (28, .no), (27, .no), (26, .no), (25, .no), (24, .no), (23, .no), (22, .no), (21, .no), (20, .bool false), (19, .bool false), (18, .no), (17, .no), (16, .no), (15, .no), (14, .no), (13, .no), (12, .bool false), (11, .bool false), (10, .no), (9, .no), (8, .no), (7, .no)] (by kernel_rfl) ?_
   refine ov_nil ?_
   obtain rfl := si hs
   refine nrm_join false rfl ?_
   exact cut_of [2] [] (by kernel_rfl) (by kernel_rfl) (by kernel_rfl)
  ·replace hs := bif_t h1 hs
   refine o_runs 6 [(12, .bool (decide ((List.length f.Key : Int) ≤ 20))), (11, .bool (decide ((List.length f.Key : Int) ≤ 20))), (10, .bool (decide ((List.length f.Key : Int) ≤ 20))), (9, .int .i64 (List.length f.Key : Int)), (8, .str f.Key), (7, .ptr 1 0 0)] (by kernel_rfl) ?_
   cases h2 : ((decide ((List.length f.Key : Int) ≤ 20)))
   ·replace hs := bif_f h2 hs
    refine o_runs 30 [(2, .bool false), (41, .bool false), (40, .no), (39, .no), (38, .no), (37, .no), (36, .no), (35, .no), (34, .no), (33, .no), (32, .no), (31, .no), (30, .bool false), (29, .bool false), (28, .no), (27, .no), (26, .no), (25, .no), (24, .no), (23, .no), (22, .no), (21, .no), (20, .bool false), (19, .bool false), (18, .no), (17, .no), (16, .no), (15, .no), (14, .no), (13, .no)] (by kernel_rfl) ?_
    refine ov_nil ?_
    obtain rfl := si hs
    refine nrm_join false rfl ?_
    exact cut_of [2] [] (by kernel_rfl) (by kernel_rfl) (by kernel_rfl)
   ·replace hs := bif_t h2 hs
    refine o_runs 8 [(20, .bool (decide ((min f.From f.Known) ≥ 0))), (19, .bool (decide ((min f.From f.Known) ≥ 0))), (18, .bool (decide ((min f.From f.Known) ≥ 0))), (17, .int .i64 (min f.From f.Known)), (16, .int .i64 f.Known), (15, .ptr 1 0 4), (14, .int .i64 f.From), (13, .ptr 1 0 2)] (by kernel_rfl) ?_
    cases h3 : ((decide ((min f.From f.Known) ≥ 0)))
    ·replace hs := bif_f h3 hs
     refine o_runs 22 [(2, .bool false), (41, .bool false), (40, .no), (39, .no), (38, .no), (37, .no), (36, .no), (35, .no), (34, .no), (33, .no), (32, .no), (31, .no), (30, .bool false), (29, .bool false), (28, .no), (27, .no), (26, .no), (25, .no), (24, .no), (23, .no), (22, .no), (21, .no)] (by kernel_rfl) ?_
     refine ov_nil ?_
     obtain rfl := si hs
     refine nrm_join false rfl ?_
     exact cut_of [2] [] (by kernel_rfl) (by kernel_rfl) (by kernel_rfl)
    ·replace hs := bif_t h3 hs
     refine o_runs 10 [(30, .bool (decide ((max (max f.From f.Until) f.Known) ≤ 1073741824))), (29, .bool (decide ((max (max f.From f.Until) f.Known) ≤ 1073741824))), (28, .bool (decide ((max (max f.From f.Until) f.Known) ≤ 1073741824))), (27, .int .i64 (max (max f.From f.Until) f.Known)), (26, .int .i64 f.Known), (25, .ptr 1 0 4), (24, .int .i64 f.Until), (23, .ptr 1 0 3), (22, .int .i64 f.From), (21, .ptr 1 0 2)] (by kernel_rfl) ?_
     cases h4 : ((decide ((max (max f.From f.Until) f.Known) ≤ 1073741824)))
     ·replace hs := bif_f h4 hs
      refine o_runs 12 [(2, .bool false), (41, .bool false), (40, .no), (39, .no), (38, .no), (37, .no), (36, .no), (35, .no), (34, .no), (33, .no), (32, .no), (31, .no)] (by kernel_rfl) ?_
      refine ov_nil ?_
      obtain rfl := si hs
      refine nrm_join false rfl ?_
      exact cut_of [2] [] (by kernel_rfl) (by kernel_rfl) (by kernel_rfl)
     ·replace hs := bif_t h4 hs
      refine o_runs 4 [(34, .bool (decide (f.Until = 0))), (33, .bool (decide (f.Until = 0))), (32, .int .i64 f.Until), (31, .ptr 1 0 3)] (by kernel_rfl) ?_
      cases h5 : ((decide (f.Until = 0)))
      ·replace hs := bif_f h5 hs
       refine o_runs 8 [(2, .bool (decide (f.Until > f.From))), (41, .bool (decide (f.Until > f.From))), (40, .bool (decide (f.Until > f.From))), (39, .bool (decide (f.Until > f.From))), (38, .int .i64 f.From), (37, .ptr 1 0 2), (36, .int .i64 f.Until), (35, .ptr 1 0 3)] (by kernel_rfl) ?_
       refine ov_nil ?_
       obtain rfl := si hs
       refine nrm_join (decide (f.Until > f.From)) rfl ?_
       exact cut_of [2] [] (by kernel_rfl) (by kernel_rfl) (by kernel_rfl)
      ·replace hs := bif_t h5 hs
       refine o_runs 8 [(2, .bool true), (41, .bool true), (40, .bool true), (39, .no), (38, .no), (37, .no), (36, .no), (35, .no)] (by kernel_rfl) ?_
       refine ov_nil ?_
       obtain rfl := si hs
       refine nrm_join true rfl ?_
       exact cut_of [2] [] (by kernel_rfl) (by kernel_rfl) (by kernel_rfl)
 ·subst hz; clear hs; have hs := hk1; clear hk1
  refine nrm_thenV (v_ret ?_)
  obtain rfl := si hs
  exact fin_ret (by kernel_rfl) (by kernel_rfl) (by kernel_rfl)
theorem w_fact_Right (base : (List Fact)) (r : Bool) (hs : s_fact_Right base = some r) : FnA Tryz.prog 27 [.vs 5 (List.map enc_Fact base)] [] (.bool r) [] := by
 refine fnA_of_wp (N := 34) Tryz.func27 rfl rfl rfl fun cK0 => ?_
 unfold s_fact_Right at hs
 refine v_same (ρ' := [(0, .vs 5 (List.map enc_Fact base))]) rfl rfl ?_
 refine v_seq (vr_text (o_runs 1 [(2, .bool false)] (by kernel_rfl) ?_))
 refine ov_nil (nrm_thenV (v_seq (v_seq (vr_text (o_runs 1 [(5, .vs 5 (List.map enc_Fact base))] (by kernel_rfl) ?_)))))
 refine o_pure (v := .int .i64 (List.length base : Int)) (by kernel_rfl) (by kernel_rfl) (loc_lenVs (sz := 5) (els := (List.map enc_Fact base)) (by kernel_rfl) (by kernel_rfl) (List.length_map ..)) ?_
 refine o_runs 1 [(7, .int .i64 0)] (by kernel_rfl) ?_
 refine ov_nil (nrm_thenV ?_)
 obtain ⟨z1, hs, hk1⟩ := bind_some hs
 refine v_join (S := Unit) (fun u => z1 = .inr u) (fun u => [(0, .vs 5 (List.map enc_Fact base))]) (fun u => []) ?_ (fun v1 hz => ?_)
 ·refine v_block ?_
  refine v_fuel (S := Int) (fun u => [(0, .vs 5 (List.map enc_Fact base)), (5, .vs 5 (List.map enc_Fact base)), (6, .int .i64 (List.length base : Int)), (7, .int .i64 u)]) (fun u => []) (s_fact_Right_L1 base) (fun _ => rfl) KK 0 hs (cut_of [0, 5, 6, 7] [] (by kernel_rfl) (by kernel_rfl) (by kernel_rfl)) (fun K1 q1 hs => ?_)
  rw [s_fact_Right_L1] at hs
  show WpV cK0 Tryz.prog none 34 _ _ [(0, .vs 5 (List.map enc_Fact base)), (5, .vs 5 (List.map enc_Fact base)), (6, .int .i64 (List.length base : Int)), (7, .int .i64 q1)] [] []
  refine v_seq (vr_text (o_runs 1 [(8, .bool (decide (q1 < (List.length base : Int))))] (by kernel_rfl) ?_))
  refine ov_nil (nrm_thenV (v_seq ?_))
  refine v_cond (decide (q1 < (List.length base : Int))) (by kernel_rfl) (fun h1 => ?_) (fun h1 => ?_)
  ·replace hs := bif_t h1 hs
   refine v_skip (nrm_thenV (v_seq (v_block (v_seq (vr_text (o_runs 1 [(9, .int .i64 q1)] (by kernel_rfl) ?_))))))
   obtain ⟨x1, g1, hs⟩ := bind_some hs; obtain ⟨g1a, g1b, g1c⟩ := idx_some g1
   refine o_pure (v := .vp (enc_Fact x1) 0) (by kernel_rfl) (by kernel_rfl) (loc_indexVs (e := 49) (sz := 5) (k := .i64) (els := (List.map enc_Fact base)) (cs := (enc_Fact x1)) (by kernel_rfl) (by kernel_rfl) (by kernel_rfl) g1a (by rw [g1c]; exact map_get _ (by omega))) ?_
   refine o_runh 4 [(3, .int .i64 q1), (4, .ptr 4 0 0), (11, .agg (enc_Fact x1))] [(4, .box 49 [.str x1.Key, .int .i64 x1.Value, .int .i64 x1.From, .int .i64 x1.Until, .int .i64 x1.Known])] (by kernel_rfl) ?_
   refine ov_nil (nrm_thenV (v_seq ?_))
   obtain ⟨z2, hs, hk2⟩ := bind_some hs
   refine v_join (S := Bool) (fun u => u = z2) (fun u => [(0, .vs 5 (List.map enc_Fact base)), (5, .vs 5 (List.map enc_Fact base)), (6, .int .i64 (List.length base : Int)), (7, .int .i64 q1), (29, .bool u)]) (fun u => []) ?_ (fun v2 hz => ?_)
   ·refine v_draw mixedH (by kernel_rfl) ?_
    refine d_runs 1 0 [(12, .agg (enc_Fact x1))] [⟨0, [], [4]⟩] (by kernel_rfl) (by kernel_rfl) ?_
    obtain ⟨y1, c1, hs⟩ := bind_some hs
    refine d_pure (v := .bool y1) 1 rfl rfl rfl rfl (by kernel_rfl) (by kernel_rfl) (loc_gcall0 (callV_func hbv43 (by kernel_rfl)) (w_fact_valid x1 _ c1) (by kernel_rfl)) ?_
    refine d_runs 2 2 [(15, .bool (!y1)), (14, .bool (!y1))] (pfp 2 3) (by kernel_rfl) (by kernel_rfl) ?_
    cases h2 : ((!y1))
    ·replace hs := bif_f h2 hs
     refine d_runs 3 4 [(18, .bool (decide (q1 > 0))), (17, .bool (decide (q1 > 0))), (16, .int .i64 q1)] (pfp 3 6) (by kernel_rfl) (by kernel_rfl) ?_
     cases h3 : ((decide (q1 > 0)))
     ·replace hs := bif_f h3 hs
      refine d_runs 11 7 [(29, .bool false), (28, .bool false), (27, .no), (26, .no), (25, .no), (24, .no), (23, .no), (22, .no), (21, .no), (20, .no), (19, .no)] (pfp 11 17) (by kernel_rfl) (by kernel_rfl) ?_
      refine d_nil (by kernel_rfl) ?_
      obtain rfl := si hs
      refine nrm_join false rfl ?_
      exact cut_of [0, 5, 6, 7, 29] [] (by kernel_rfl) (by kernel_rfl) (by kernel_rfl)
     ·replace hs := bif_t h3 hs
      refine d_runs 5 7 [(23, .int .i64 (w64 (q1 - 1))), (22, .int .i64 q1), (21, .vs 5 (List.map enc_Fact base)), (20, .int .i64 x1.Known), (19, .ptr 4 0 4)] [⟨11, [], []⟩, ⟨10, [], []⟩, ⟨9, [], []⟩, ⟨8, [], [4]⟩, ⟨7, [], []⟩] (by kernel_rfl) (by kernel_rfl) ?_
      obtain ⟨x2, g2, hs⟩ := bind_some hs; obtain ⟨g2a, g2b, g2c⟩ := idx_some g2
      refine d_pure (v := .vp (enc_Fact x2) 0) 12 rfl rfl rfl rfl (by kernel_rfl) (by kernel_rfl) (loc_indexVs (e := 49) (sz := 5) (k := .i64) (els := (List.map enc_Fact base)) (cs := (enc_Fact x2)) (by kernel_rfl) (by kernel_rfl) (by kernel_rfl) g2a (by rw [g2c]; exact map_get _ (by omega))) ?_
      refine d_runs 5 13 [(29, .bool (decide (x1.Known < x2.Known))), (28, .bool (decide (x1.Known < x2.Known))), (27, .bool (decide (x1.Known < x2.Known))), (26, .int .i64 x2.Known), (25, .vp (enc_Fact x2) 4)] (pfp 5 17) (by kernel_rfl) (by kernel_rfl) ?_
      refine d_nil (by kernel_rfl) ?_
      obtain rfl := si hs
      refine nrm_join (decide (x1.Known < x2.Known)) rfl ?_
      exact cut_of [0, 5, 6, 7, 29] [] (by kernel_rfl) (by kernel_rfl) (by kernel_rfl)
    ·replace hs := bif_t h2 hs
     refine d_runs 14 4 [(29, .bool true), (28, .no), (27, .no), (26, .no), (25, .no), (24, .no), (23, .no), (22, .no), (21, .no), (20, .no), (19, .no), (18, .no), (17, .no), (16, .no)] (pfp 14 17) (by kernel_rfl) (by kernel_rfl) ?_
     refine d_nil (by kernel_rfl) ?_
     obtain rfl := si hs
     refine nrm_join true rfl ?_
     exact cut_of [0, 5, 6, 7, 29] [] (by kernel_rfl) (by kernel_rfl) (by kernel_rfl)
   ·subst hz; clear hs; have hs := hk2; clear hk2
    refine nrm_thenV ?_
    refine v_cond v2 (by kernel_rfl) (fun h4 => ?_) (fun h4 => ?_)
    ·replace hs := bif_t h4 hs
     refine v_seq (vr_text (o_runs 1 [(2, .bool false)] (by kernel_rfl) ?_))
     refine ov_nil (nrm_thenV (v_ret (ret_blkV (ret_thenV (ret_fuel ?_)))))
     refine ret_blkV (ret_join ?_)
     refine ret_thenV ?_
     obtain rfl := si hs
     replace hs := hk1
     obtain rfl := si hs
     exact fin_ret (by kernel_rfl) (by kernel_rfl) (by kernel_rfl)
    ·replace hs := bif_f h4 hs
     refine v_skip (nrm_blkV (nrm_thenV (vr_text (o_runs 2 [(7, .int .i64 (w64 (q1 + 1))), (30, .int .i64 (w64 (q1 + 1)))] (by kernel_rfl) ?_))))
     refine ov_nil (nrm_fuel (w64 (q1 + 1)) hs ?_)
     exact cut_of [0, 5, 6, 7] [] (by kernel_rfl) (by kernel_rfl) (by kernel_rfl)
  ·replace hs := bif_f h1 hs
   refine v_exit (exit_thenV (exit_fuel ?_))
   refine exit_blkV ?_
   obtain rfl := si hs
   refine nrm_join () rfl ?_
   exact cut_of [0] [] (by kernel_rfl) (by kernel_rfl) (by kernel_rfl)
 ·subst hz; clear hs; have hs := hk1; clear hk1
  refine nrm_thenV (v_seq (vr_text (o_runs 1 [(31, .vs 5 (List.map enc_Fact base))] (by kernel_rfl) ?_)))
  refine o_pure (v := .int .i64 (List.length base : Int)) (by kernel_rfl) (by kernel_rfl) (loc_lenVs (sz := 5) (els := (List.map enc_Fact base)) (by kernel_rfl) (by kernel_rfl) (List.length_map ..)) ?_
  refine o_runs 2 [(2, .bool (decide ((List.length base : Int) ≤ 5000))), (33, .bool (decide ((List.length base : Int) ≤ 5000)))] (by kernel_rfl) ?_
  refine ov_nil (nrm_thenV (v_ret ?_))
  obtain rfl := si hs
  exact fin_ret (by kernel_rfl) (by kernel_rfl) (by kernel_rfl)
theorem w_expr_arity (op : Int) (r : Int × Bool) (hs : s_expr_arity op = some r) : FnA Tryz.prog 60 [.int .i64 op] [] (.tup [.int .i64 r.1, .bool r.2]) [] := by
 refine fnA_of_wp (N := 21) Tryz.func60 rfl rfl rfl fun cK0 => ?_
 unfold s_expr_arity at hs
 refine v_same (ρ' := [(0, .int .i64 op)]) rfl rfl ?_
 refine v_seq (vr_text (o_runs 2 [(3, .bool false), (2, .int .i64 0)] (by kernel_rfl) ?_))
 refine ov_nil (nrm_thenV (v_seq (v_seq (vr_text (o_runs 1 [(4, .int .i64 op)] (by kernel_rfl) ?_)))))
 refine ov_nil (nrm_thenV (v_block (v_seq (v_seq (vr_text (o_runs 2 [(5, .bool (decide (op = 0))), (6, .bool (decide (op = 0)))] (by kernel_rfl) ?_))))))
 refine ov_nil (nrm_thenV ?_)
 obtain ⟨z1, hs, hk1⟩ := bind_some hs
 refine v_join (S := Bool) (fun u => u = z1) (fun u => [(0, .int .i64 op), (4, .int .i64 op), (5, .bool u)]) (fun u => []) ?_ (fun v1 hz => ?_)
 ·refine v_cond (decide (op = 0)) (by kernel_rfl) (fun h1 => ?_) (fun h1 => ?_)
  ·replace hs := bif_t h1 hs
   refine v_skip ?_
   obtain rfl := si hs
   refine nrm_join (decide (op = 0)) rfl ?_
   exact cut_of [0, 4, 5] [] (by kernel_rfl) (by kernel_rfl) (by kernel_rfl)
  ·replace hs := bif_f h1 hs
   refine v_seq (vr_text (o_runs 2 [(5, .bool (decide (op = 1))), (7, .bool (decide (op = 1)))] (by kernel_rfl) ?_))
   refine ov_nil (nrm_thenV ?_)
   refine v_cond (decide (op = 1)) (by kernel_rfl) (fun h2 => ?_) (fun h2 => ?_)
   ·replace hs := bif_t h2 hs
    refine v_skip ?_
    obtain rfl := si hs
    refine nrm_join (decide (op = 1)) rfl ?_
    exact cut_of [0, 4, 5] [] (by kernel_rfl) (by kernel_rfl) (by kernel_rfl)
   ·replace hs := bif_f h2 hs
    refine v_seq (vr_text (o_runs 2 [(5, .bool (decide (op = 2))), (8, .bool (decide (op = 2)))] (by kernel_rfl) ?_))
    refine ov_nil (nrm_thenV ?_)
    refine v_cond (decide (op = 2)) (by kernel_rfl) (fun h3 => ?_) (fun h3 => ?_)
    ·replace hs := bif_t h3 hs
     refine v_skip ?_
     obtain rfl := si hs
     refine nrm_join (decide (op = 2)) rfl ?_
     exact cut_of [0, 4, 5] [] (by kernel_rfl) (by kernel_rfl) (by kernel_rfl)
    ·replace hs := bif_f h3 hs
     refine vr_text (o_runs 2 [(5, .bool (decide (op = 3))), (9, .bool (decide (op = 3)))] (by kernel_rfl) ?_)
     refine ov_nil ?_
     obtain rfl := si hs
     refine nrm_join (decide (op = 3)) rfl ?_
     exact cut_of [0, 4, 5] [] (by kernel_rfl) (by kernel_rfl) (by kernel_rfl)
 ·subst hz; clear hs; have hs := hk1; clear hk1
  refine nrm_thenV ?_
  refine v_cond v1 (by kernel_rfl) (fun h4 => ?_) (fun h4 => ?_)
  ·replace hs := bif_t h4 hs
   refine v_seq (vr_text (o_runs 2 [(3, .bool true), (2, .int .i64 0)] (by kernel_rfl) ?_))
   refine ov_nil (nrm_thenV (v_ret (ret_blkV (ret_thenV ?_))))
   obtain rfl := si hs
   exact fin_ret (by kernel_rfl) (by kernel_rfl) (by kernel_rfl)
  ·replace hs := bif_f h4 hs
   refine v_seq (v_seq (vr_text (o_runs 2 [(10, .bool (decide (op = 9))), (11, .bool (decide (op = 9)))] (by kernel_rfl) ?_)))
   refine ov_nil (nrm_thenV ?_)
   obtain ⟨z2, hs, hk2⟩ := bind_some hs
   refine v_join (S := Bool) (fun u => u = z2) (fun u => [(0, .int .i64 op), (4, .int .i64 op), (10, .bool u)]) (fun u => []) ?_ (fun v2 hz => ?_)
   ·refine v_cond (decide (op = 9)) (by kernel_rfl) (fun h5 => ?_) (fun h5 => ?_)
    ·replace hs := bif_t h5 hs
     refine v_skip ?_
     obtain rfl := si hs
     refine nrm_join (decide (op = 9)) rfl ?_
     exact cut_of [0, 4, 10] [] (by kernel_rfl) (by kernel_rfl) (by kernel_rfl)
    ·replace hs := bif_f h5 hs
     refine vr_text (o_runs 2 [(10, .bool (decide (op = 15))), (12, .bool (decide (op = 15)))] (by kernel_rfl) ?_)
     refine ov_nil ?_
     obtain rfl := si hs
     refine nrm_join (decide (op = 15)) rfl ?_
     exact cut_of [0, 4, 10] [] (by kernel_rfl) (by kernel_rfl) (by kernel_rfl)
   ·subst hz; clear hs; have hs := hk2; clear hk2
    refine nrm_thenV ?_
    refine v_cond v2 (by kernel_rfl) (fun h6 => ?_) (fun h6 => ?_)
    ·replace hs := bif_t h6 hs
     refine v_seq (vr_text (o_runs 2 [(3, .bool true), (2, .int .i64 1)] (by kernel_rfl) ?_))
     refine ov_nil (nrm_thenV (v_ret (ret_blkV (ret_thenV ?_))))
     obtain rfl := si hs
     exact fin_ret (by kernel_rfl) (by kernel_rfl) (by kernel_rfl)
    ·replace hs := bif_f h6 hs
     refine v_seq (vr_text (o_runs 2 [(13, .bool (decide (op = 16))), (14, .bool (decide (op = 16)))] (by kernel_rfl) ?_))
     refine ov_nil (nrm_thenV ?_)
     refine v_cond (decide (op = 16)) (by kernel_rfl) (fun h7 => ?_) (fun h7 => ?_)
     ·replace hs := bif_t h7 hs
      refine v_seq (vr_text (o_runs 2 [(3, .bool true), (2, .int .i64 3)] (by kernel_rfl) ?_))
      refine ov_nil (nrm_thenV (v_ret (ret_blkV (ret_thenV ?_))))
      obtain rfl := si hs
      exact fin_ret (by kernel_rfl) (by kernel_rfl) (by kernel_rfl)
     ·replace hs := bif_f h7 hs
      refine v_skip (nrm_blkV (nrm_thenV (v_seq ?_)))
      obtain ⟨z3, hs, hk3⟩ := bind_some hs
      refine v_join (S := Bool) (fun u => u = z3) (fun u => [(2, .int .i64 2), (3, .bool u)]) (fun u => []) ?_ (fun v3 hz => ?_)
      ·refine vr_text (o_runs 3 [(17, .bool (decide (op ≥ 0))), (16, .bool (decide (op ≥ 0))), (15, .int .i64 op)] (by kernel_rfl) ?_)
       cases h8 : ((decide (op ≥ 0)))
       ·replace hs := bif_f h8 hs
        refine o_runs 5 [(3, .bool false), (2, .int .i64 2), (20, .bool false), (19, .no), (18, .no)] (by kernel_rfl) ?_
        refine ov_nil ?_
        obtain rfl := si hs
        refine nrm_join false rfl ?_
        exact cut_of [2, 3] [] (by kernel_rfl) (by kernel_rfl) (by kernel_rfl)
       ·replace hs := bif_t h8 hs
        refine o_runs 5 [(3, .bool (decide (op < 17))), (2, .int .i64 2), (20, .bool (decide (op < 17))), (19, .bool (decide (op < 17))), (18, .int .i64 op)] (by kernel_rfl) ?_
        refine ov_nil ?_
        obtain rfl := si hs
        refine nrm_join (decide (op < 17)) rfl ?_
        exact cut_of [2, 3] [] (by kernel_rfl) (by kernel_rfl) (by kernel_rfl)
      ·subst hz; clear hs; have hs := hk3; clear hk3
       refine nrm_thenV (v_ret ?_)
       obtain rfl := si hs
       exact fin_ret (by kernel_rfl) (by kernel_rfl) (by kernel_rfl)
theorem ws_expr_levels (nF : Nat) (ih_expr_levels : ∀ (e : Expr) (above : Int) (r : Int), s_expr_levels nF e above = some r → FnA Tryz.prog 47 [.agg (enc_Expr e), .int .i64 above] [] (.int .i64 r) []) (e : Expr) (above : Int) (r : Int) (hs : s_expr_levels (nF + 1) e above = some r) : FnA Tryz.prog 47 [.agg (enc_Expr e), .int .i64 above] [] (.int .i64 r) [] := by
 refine fnA_of_wp (N := 45) Tryz.func47 rfl rfl rfl fun cK0 => ?_
 rw [s_expr_levels] at hs
 refine v_same (ρ' := [(0, .agg (enc_Expr e)), (1, .int .i64 above)]) rfl rfl ?_
 refine v_seq (vr_text (o_runh 2 [(4, .int .i64 0), (2, .ptr 2 0 0)] [(2, .box 28 [.int .i64 e.Op, .int .i64 e.N, .str e.S, .str e.Key, .vs 5 (encs_Expr e.Args)])] (by kernel_rfl) ?_))
 refine ov_nil (nrm_thenV (v_seq (vr_text (o_runs 2 [(12, .int .i64 e.Op), (11, .ptr 2 0 0)] (by kernel_rfl) ?_))))
 obtain ⟨y1, c1, hs⟩ := bind_some hs
 refine o_pure (v := .tup [.int .i64 y1.1, .bool y1.2]) (by kernel_rfl) (by kernel_rfl) (loc_gcall0 (callV_func hbv60 (by kernel_rfl)) (w_expr_arity e.Op _ c1) (by kernel_rfl)) ?_
 refine o_runs 5 [(6, .bool y1.2), (5, .int .i64 y1.1), (15, .bool y1.2), (14, .int .i64 y1.1), (10, .tup [.int .i64 y1.1, .bool y1.2])] (by kernel_rfl) ?_
 refine ov_nil (nrm_thenV (v_seq (v_seq ?_)))
 obtain ⟨z1, hs, hk1⟩ := bind_some hs
 refine v_join (S := Bool) (fun u => u = z1) (fun u => [(1, .int .i64 above), (2, .ptr 2 0 0), (28, .bool u)]) (fun u => [(2, .box 28 [.int .i64 e.Op, .int .i64 e.N, .str e.S, .str e.Key, .vs 5 (encs_Expr e.Args)])]) ?_ (fun v1 hz => ?_)
 ·refine vr_text (o_runs 3 [(18, .bool (!y1.2)), (17, .bool (!y1.2)), (16, .bool y1.2)] (by kernel_rfl) ?_)
  cases h1 : ((!y1.2))
  ·replace hs := bif_f h1 hs
   refine o_runs 3 [(21, .vs 5 (encs_Expr e.Args)), (20, .ptr 2 0 4), (19, .int .i64 y1.1)] (by kernel_rfl) ?_
   refine o_pure (v := .int .i64 (List.length e.Args : Int)) (by kernel_rfl) (by kernel_rfl) (loc_lenVs (sz := 5) (els := (encs_Expr e.Args)) (by kernel_rfl) (by kernel_rfl) (by rw [encs_Expr_eq, List.length_map])) ?_
   refine o_runs 3 [(25, .bool (!(decide (y1.1 = (List.length e.Args : Int))))), (24, .bool (!(decide (y1.1 = (List.length e.Args : Int))))), (23, .bool (!(decide (y1.1 = (List.length e.Args : Int)))))] (by kernel_rfl) ?_
   cases h2 : ((!(decide (y1.1 = (List.length e.Args : Int)))))
   ·replace hs := bif_f h2 hs
    refine o_runs 3 [(28, .bool (decide (above ≥ 12))), (27, .bool (decide (above ≥ 12))), (26, .int .i64 above)] (by kernel_rfl) ?_
    refine ov_nil ?_
    obtain rfl := si hs
    refine nrm_join (decide (above ≥ 12)) rfl ?_
    exact cut_of [1, 2, 28] [2] (by kernel_rfl) (by kernel_rfl) (by kernel_rfl)
   ·replace hs := bif_t h2 hs
    refine o_runs 3 [(28, .bool true), (27, .no), (26, .no)] (by kernel_rfl) ?_
    refine ov_nil ?_
    obtain rfl := si hs
    refine nrm_join true rfl ?_
    exact cut_of [1, 2, 28] [2] (by kernel_rfl) (by kernel_rfl) (by kernel_rfl)
  ·replace hs := bif_t h1 hs
   refine o_runs 10 [(28, .bool true), (27, .no), (26, .no), (25, .bool true), (24, .bool true), (23, .no), (22, .no), (21, .no), (20, .no), (19, .no)] (by kernel_rfl) ?_
   refine ov_nil ?_
   obtain rfl := si hs
   refine nrm_join true rfl ?_
   exact cut_of [1, 2, 28] [2] (by kernel_rfl) (by kernel_rfl) (by kernel_rfl)
 ·subst hz; clear hs; have hs := hk1; clear hk1
  refine nrm_thenV ?_
  refine v_cond v1 (by kernel_rfl) (fun h3 => ?_) (fun h3 => ?_)
  ·replace hs := bif_t h3 hs
   refine v_seq (vr_text (o_runs 1 [(4, .int .i64 13)] (by kernel_rfl) ?_))
   refine ov_nil (nrm_thenV (v_ret (ret_thenV ?_)))
   obtain rfl := si hs
   exact fin_ret (by kernel_rfl) (by kernel_rfl) (by kernel_rfl)
  ·replace hs := bif_f h3 hs
   refine v_skip (nrm_thenV (v_seq (vr_text (o_runs 1 [(7, .int .i64 0)] (by kernel_rfl) ?_))))
   refine ov_nil (nrm_thenV (v_seq (v_seq (vr_text (o_runs 2 [(30, .vs 5 (encs_Expr e.Args)), (29, .ptr 2 0 4)] (by kernel_rfl) ?_)))))
   refine o_pure (v := .int .i64 (List.length e.Args : Int)) (by kernel_rfl) (by kernel_rfl) (loc_lenVs (sz := 5) (els := (encs_Expr e.Args)) (by kernel_rfl) (by kernel_rfl) (by rw [encs_Expr_eq, List.length_map])) ?_
   refine o_runs 1 [(32, .int .i64 0)] (by kernel_rfl) ?_
   refine ov_nil (nrm_thenV ?_)
   obtain ⟨z2, hs, hk2⟩ := bind_some hs
   refine v_join (S := Int) (fun u => u = z2) (fun u => [(7, .int .i64 u)]) (fun u => []) ?_ (fun v2 hz => ?_)
   ·refine v_block ?_
    refine v_fuel (S := Int × Int) (fun u => [(1, .int .i64 above), (7, .int .i64 u.1), (30, .vs 5 (encs_Expr e.Args)), (31, .int .i64 (List.length e.Args : Int)), (32, .int .i64 u.2)]) (fun u => []) (s_expr_levels_L1 (s_expr_levels nF) e above) (fun _ => rfl) KK (0, 0) hs (cut_of [1, 7, 30, 31, 32] [] (by kernel_rfl) (by kernel_rfl) (by kernel_rfl)) (fun K1 q1 hs => ?_)
    rw [s_expr_levels_L1] at hs
    show WpV cK0 Tryz.prog none 45 _ _ [(1, .int .i64 above), (7, .int .i64 q1.1), (30, .vs 5 (encs_Expr e.Args)), (31, .int .i64 (List.length e.Args : Int)), (32, .int .i64 q1.2)] [] []
    refine v_seq (vr_text (o_runs 1 [(33, .bool (decide (q1.2 < (List.length e.Args : Int))))] (by kernel_rfl) ?_))
    refine ov_nil (nrm_thenV (v_seq ?_))
    refine v_cond (decide (q1.2 < (List.length e.Args : Int))) (by kernel_rfl) (fun h4 => ?_) (fun h4 => ?_)
    ·replace hs := bif_t h4 hs
     refine v_skip (nrm_thenV (v_seq (v_block (v_seq (vr_text ?_)))))
     obtain ⟨x1, g1, hs⟩ := bind_some hs; obtain ⟨g1a, g1b, g1c⟩ := idx_some g1
     refine o_pure (v := .vp (enc_Expr x1) 0) (by kernel_rfl) (by kernel_rfl) (loc_indexVs (e := 28) (sz := 5) (k := .i64) (els := (encs_Expr e.Args)) (cs := (enc_Expr x1)) (by kernel_rfl) (by kernel_rfl) (by kernel_rfl) g1a (by rw [g1c, encs_Expr_eq]; exact map_get _ (by omega))) ?_
     refine o_runh 3 [(9, .ptr 9 0 0), (35, .agg (enc_Expr x1))] [(9, .box 28 [.int .i64 x1.Op, .int .i64 x1.N, .str x1.S, .str x1.Key, .vs 5 (encs_Expr x1.Args)])] (by kernel_rfl) ?_
     refine ov_nil (nrm_thenV (vr_text (o_runs 4 [(39, .int .i64 (w64 (above + 1))), (38, .int .i64 above), (37, .agg (enc_Expr x1)), (36, .int .i64 q1.1)] (by kernel_rfl) ?_)))
     obtain ⟨y2, c2, hs⟩ := bind_some hs
     refine o_pure (v := .int .i64 y2) (by kernel_rfl) (by kernel_rfl) (loc_gcall0 (callV_func hbv47 (by kernel_rfl)) (ih_expr_levels x1 (w64 (above + 1)) _ c2) (by kernel_rfl)) ?_
     refine o_runs 2 [(7, .int .i64 (max q1.1 y2)), (41, .int .i64 (max q1.1 y2))] (by kernel_rfl) ?_
     refine ov_nil (nrm_blkV (nrm_thenV (vr_text (o_runs 2 [(32, .int .i64 (w64 (q1.2 + 1))), (42, .int .i64 (w64 (q1.2 + 1)))] (by kernel_rfl) ?_))))
     refine ov_nil (nrm_fuel ((max q1.1 y2), (w64 (q1.2 + 1))) hs ?_)
     exact cut_of [1, 7, 30, 31, 32] [] (by kernel_rfl) (by kernel_rfl) (by kernel_rfl)
    ·replace hs := bif_f h4 hs
     refine v_exit (exit_thenV (exit_fuel ?_))
     refine exit_blkV ?_
     obtain rfl := si hs
     refine nrm_join q1.1 rfl ?_
     exact cut_of [7] [] (by kernel_rfl) (by kernel_rfl) (by kernel_rfl)
   ·subst hz; clear hs; have hs := hk2; clear hk2
    refine nrm_thenV (v_seq (vr_text (o_runs 3 [(4, .int .i64 (w64 (v2 + 1))), (44, .int .i64 (w64 (v2 + 1))), (43, .int .i64 v2)] (by kernel_rfl) ?_)))
    refine ov_nil (nrm_thenV (v_ret ?_))
    obtain rfl := si hs
    exact fin_ret (by kernel_rfl) (by kernel_rfl) (by kernel_rfl)
theorem wr_expr_levels : ∀ nF : Nat, (∀ (e : Expr) (above : Int) (r : Int), s_expr_levels nF e above = some r → FnA Tryz.prog 47 [.agg (enc_Expr e), .int .i64 above] [] (.int .i64 r) [])
 | 0 => fun e above r hs => by rw [s_expr_levels] at hs; cases hs
 | nF + 1 => fun e above r hs => ws_expr_levels nF (wr_expr_levels nF) e above r hs
theorem w_expr_levels (nF : Nat) (e : Expr) (above : Int) (r : Int) (hs : s_expr_levels nF e above = some r) : FnA Tryz.prog 47 [.agg (enc_Expr e), .int .i64 above] [] (.int .i64 r) [] := (wr_expr_levels nF) e above r hs
theorem w_expr_Right (e : Expr) (r : Bool) (hs : s_expr_Right e = some r) : FnA Tryz.prog 31 [.agg (enc_Expr e)] [] (.bool r) [] := by
 refine fnA_of_wp (N := 6) Tryz.func31 rfl rfl rfl fun cK0 => ?_
 unfold s_expr_Right at hs
 refine v_same (ρ' := [(0, .agg (enc_Expr e))]) rfl rfl ?_
 refine v_seq (vr_text (o_runh 2 [(2, .bool false), (1, .ptr 1 0 0)] [(1, .box 28 [.int .i64 e.Op, .int .i64 e.N, .str e.S, .str e.Key, .vs 5 (encs_Expr e.Args)])] (by kernel_rfl) ?_))
 refine ov_nil (nrm_thenV (v_seq (vr_text (o_runs 1 [(3, .agg (enc_Expr e))] (by kernel_rfl) ?_))))
 obtain ⟨y1, c1, hs⟩ := bind_some hs
 refine o_pure (v := .int .i64 y1) (by kernel_rfl) (by kernel_rfl) (loc_gcall0 (callV_func hbv47 (by kernel_rfl)) (w_expr_levels KK e 0 _ c1) (by kernel_rfl)) ?_
 refine o_runs 2 [(2, .bool (decide (y1 ≤ 12))), (5, .bool (decide (y1 ≤ 12)))] (by kernel_rfl) ?_
 refine ov_nil (nrm_thenV (v_ret ?_))
 obtain rfl := si hs
 exact fin_ret (by kernel_rfl) (by kernel_rfl) (by kernel_rfl)
theorem w_reopen_Right (f : Formula) (r : Bool) (hs : s_reopen_Right f = some r) : FnA Tryz.prog 9 [.agg (enc_Formula f)] [] (.bool r) [] := by
 refine fnA_of_wp (N := 22) Tryz.func9 rfl rfl rfl fun cK0 => ?_
 unfold s_reopen_Right at hs
 refine v_same (ρ' := [(0, .agg (enc_Formula f))]) rfl rfl ?_
 refine v_seq (vr_text (o_runh 2 [(2, .bool false), (1, .ptr 1 0 0)] [(1, .box 31 [.int .i64 f.Id, .int .i64 f.Day, .int .i64 f.Known, .int .i64 f.Body.Op, .int .i64 f.Body.N, .str f.Body.S, .str f.Body.Key, .vs 5 (encs_Expr f.Body.Args), .int .i64 f.Result, .vs 4 (List.map enc_Asked f.Asked)])] (by kernel_rfl) ?_))
 refine ov_nil (nrm_thenV (v_seq ?_))
 obtain ⟨z1, hs, hk1⟩ := bind_some hs
 refine v_join (S := Bool) (fun u => u = z1) (fun u => [(2, .bool u)]) (fun u => []) ?_ (fun v1 hz => ?_)
 ·refine vr_text (o_runs 2 [(4, .agg (enc_Expr f.Body)), (3, .ptr 1 0 3)] (by kernel_rfl) ?_)
  obtain ⟨y1, c1, hs⟩ := bind_some hs
  refine o_pure (v := .bool y1) (by kernel_rfl) (by kernel_rfl) (loc_gcall0 (callV_func hbv31 (by kernel_rfl)) (w_expr_Right f.Body _ c1) (by kernel_rfl)) ?_
  refine o_runs 1 [(6, .bool y1)] (by kernel_rfl) ?_
  cases h1 : (y1)
  ·replace hs := bif_f h1 hs
   refine o_runs 16 [(2, .bool false), (21, .bool false), (20, .no), (19, .no), (18, .no), (17, .no), (16, .no), (15, .no), (14, .bool false), (13, .bool false), (12, .no), (11, .no), (10, .no), (9, .no), (8, .no), (7, .no)] (by kernel_rfl) ?_
   refine ov_nil ?_
   obtain rfl := si hs
   refine nrm_join false rfl ?_
   exact cut_of [2] [] (by kernel_rfl) (by kernel_rfl) (by kernel_rfl)
  ·replace hs := bif_t h1 hs
   refine o_runs 8 [(14, .bool (decide ((min f.Day f.Known) ≥ 0))), (13, .bool (decide ((min f.Day f.Known) ≥ 0))), (12, .bool (decide ((min f.Day f.Known) ≥ 0))), (11, .int .i64 (min f.Day f.Known)), (10, .int .i64 f.Known), (9, .ptr 1 0 2), (8, .int .i64 f.Day), (7, .ptr 1 0 1)] (by kernel_rfl) ?_
   cases h2 : ((decide ((min f.Day f.Known) ≥ 0)))
   ·replace hs := bif_f h2 hs
    refine o_runs 8 [(2, .bool false), (21, .bool false), (20, .no), (19, .no), (18, .no), (17, .no), (16, .no), (15, .no)] (by kernel_rfl) ?_
    refine ov_nil ?_
    obtain rfl := si hs
    refine nrm_join false rfl ?_
    exact cut_of [2] [] (by kernel_rfl) (by kernel_rfl) (by kernel_rfl)
   ·replace hs := bif_t h2 hs
    refine o_runs 8 [(2, .bool (decide ((max f.Day f.Known) ≤ 1073741824))), (21, .bool (decide ((max f.Day f.Known) ≤ 1073741824))), (20, .bool (decide ((max f.Day f.Known) ≤ 1073741824))), (19, .int .i64 (max f.Day f.Known)), (18, .int .i64 f.Known), (17, .ptr 1 0 2), (16, .int .i64 f.Day), (15, .ptr 1 0 1)] (by kernel_rfl) ?_
    refine ov_nil ?_
    obtain rfl := si hs
    refine nrm_join (decide ((max f.Day f.Known) ≤ 1073741824)) rfl ?_
    exact cut_of [2] [] (by kernel_rfl) (by kernel_rfl) (by kernel_rfl)
 ·subst hz; clear hs; have hs := hk1; clear hk1
  refine nrm_thenV (v_ret ?_)
  obtain rfl := si hs
  exact fin_ret (by kernel_rfl) (by kernel_rfl) (by kernel_rfl)
theorem w_define_names (e : Expr) (r : Int × Int × (List UInt8) × (List UInt8) × (List Expr)) (hs : s_define_names e = some r) : FnA Tryz.prog 37 [.agg (enc_Expr e)] [] (.fn 52 [] [.ptr 1 0 0]) [(1, .box 28 [.int .i64 r.1, .int .i64 r.2.1, .str r.2.2.1, .str r.2.2.2.1, .vs 5 (encs_Expr r.2.2.2.2)])] := by
 refine fnA_of_wp (N := 4) Tryz.func37 rfl rfl rfl fun cK0 => ?_
 unfold s_define_names at hs
 refine v_same (ρ' := [(0, .agg (enc_Expr e))]) rfl rfl ?_
 refine v_seq (vr_text (o_runh 2 [(2, .nilf), (1, .ptr 1 0 0)] [(1, .box 28 [.int .i64 e.Op, .int .i64 e.N, .str e.S, .str e.Key, .vs 5 (encs_Expr e.Args)])] (by kernel_rfl) ?_))
 refine ov_nil (nrm_thenV (v_seq (vr_text (o_runs 2 [(2, .fn 52 [] [.ptr 1 0 0]), (3, .fn 52 [] [.ptr 1 0 0])] (by kernel_rfl) ?_))))
 refine ov_nil (nrm_thenV (v_ret ?_))
 obtain rfl := si hs
 exact fin_ret (by kernel_rfl) (by kernel_rfl) (by kernel_rfl)
theorem w_maps_Keys (m_ : (List ((List UInt8) × Bool))) (r : Unit) (hs : s_maps_Keys m_ = some r) : FnA Tryz.prog 39 [.mp 1000000] [(1000000, .map (encM V.str V.bool m_))] (.fn 55 [] [.ptr 1 0 0]) [(1, .box 61 [.mp 1000000]), (1000000, .map (encM V.str V.bool m_))] := by
 refine fnA_of_wp (N := 4) Tryz.func39 rfl rfl rfl fun cK0 => ?_
 unfold s_maps_Keys at hs
 refine v_same (ρ' := [(0, .mp 1000000)]) rfl rfl ?_
 refine v_seq (vr_text (o_runh 2 [(2, .nilf), (1, .ptr 1 0 0)] [(1, .box 61 [.mp 1000000]), (1000000, .map (encM V.str V.bool m_))] (by kernel_rfl) ?_))
 refine ov_nil (nrm_thenV (v_seq (vr_text (o_runs 2 [(2, .fn 55 [] [.ptr 1 0 0]), (3, .fn 55 [] [.ptr 1 0 0])] (by kernel_rfl) ?_))))
 refine ov_nil (nrm_thenV (v_ret ?_))
 obtain rfl := si hs
 exact fin_ret (by kernel_rfl) (by kernel_rfl) (by kernel_rfl)
theorem w_define_Names (e : Expr) (r : (List (List UInt8))) (hs : s_define_Names e = some r) : FnA Tryz.prog 19 [.agg (enc_Expr e)] [] (.vs 1 (List.map EV.encS r)) [] := by
 refine fnA_of_wp (N := 14) Tryz.func19 rfl rfl rfl fun cK0 => ?_
 unfold s_define_Names at hs
 refine v_same (ρ' := [(0, .agg (enc_Expr e))]) rfl rfl ?_
 refine v_seq (vr_text (o_runh 2 [(2, .nils), (1, .ptr 1 0 0)] [(1, .box 28 [.int .i64 e.Op, .int .i64 e.N, .str e.S, .str e.Key, .vs 5 (encs_Expr e.Args)])] (by kernel_rfl) ?_))
 refine ov_nil (nrm_thenV (v_seq (vr_text (o_runh 3 [(3, .ptr 3 0 0), (5, .mp 5)] [(3, .box 61 [.mp 5]), (5, .map (encM V.str V.bool [])), (1, .box 28 [.int .i64 e.Op, .int .i64 e.N, .str e.S, .str e.Key, .vs 5 (encs_Expr e.Args)])] (by kernel_rfl) ?_))))
 refine ov_nil (nrm_thenV (v_seq (v_seq (vr_text (o_runs 1 [(6, .agg (enc_Expr e))] (by kernel_rfl) ?_)))))
 obtain ⟨y1, c1, hs⟩ := bind_some hs
 refine o_loc (F := []) (F' := [(3000700, .box 28 [.int .i64 y1.1, .int .i64 y1.2.1, .str y1.2.2.1, .str y1.2.2.2.1, .vs 5 (encs_Expr y1.2.2.2.2)])]) (v := .fn 52 [] [.ptr 3000700 0 0]) [] (by kernel_rfl) (by kernel_rfl) rfl (by kernel_rfl) (loc_g (R := []) [.agg (enc_Expr e)] [(1, 3000700)] (callV_func hbv37 (by kernel_rfl)) (w_define_names e _ c1) (.cons (.same _) (.nil)) (by kernel_rfl) (by kernel_rfl) (by kernel_rfl) (by kernel_rfl) (by kernel_rfl) (by kernel_rfl) (by kernel_rfl) (by kernel_rfl)) (by kernel_rfl) ?_
 refine ov_nil (nrm_thenV ?_)
 obtain ⟨z1, hs, hk1⟩ := bind_some hs
 refine v_join (S := (List ((List UInt8) × Bool))) (fun u => u = z1) (fun u => [(3, .ptr 3 0 0)]) (fun u => [(3, .box 61 [.mp 5]), (5, .map (encM V.str V.bool u))]) ?_ (fun v1 hz => ?_)
 ·refine v_block (v_to [(3, .ptr 3 0 0), (7, .fn 52 [] [.ptr 3000700 0 0])] [(3000700, .box 28 [.int .i64 y1.1, .int .i64 y1.2.1, .str y1.2.2.1, .str y1.2.2.2.1, .vs 5 (encs_Expr y1.2.2.2.2)]), (3, .box 61 [.mp 5]), (5, .map (encM V.str V.bool []))] (cut_of [3, 7] [3000700, 3, 5] (by kernel_rfl) (by kernel_rfl) (by kernel_rfl)) ?_)
  refine v_rangeF (Sg := (List ((List UInt8) × Bool))) (enc := V.str) (val := (fun s : List UInt8 => Value.string ⟨s.toArray⟩)) (caps := [.ptr 3000700 0 0]) (F := [(3000700, .box 28 [.int .i64 y1.1, .int .i64 y1.2.1, .str y1.2.2.1, .str y1.2.2.2.1, .vs 5 (encs_Expr y1.2.2.2.2)])]) [3000700] (fun u => [(3000700, .box 28 [.int .i64 y1.1, .int .i64 y1.2.1, .str y1.2.2.1, .str y1.2.2.2.1, .vs 5 (encs_Expr y1.2.2.2.2)]), (3, .box 61 [.mp 5]), (5, .map (encM V.str V.bool u))]) s_define_Names_L1 [] (by kernel_rfl) hbv52 (iter_names 3000700 (Expr.mk y1.1 y1.2.1 y1.2.2.1 y1.2.2.2.1 y1.2.2.2.2)) (by kernel_rfl) (by kernel_rfl) (fun _ _ _ => rfl) hs (fun _ => by kernel_rfl) (by kernel_rfl) (fun lR1 x1 xs1 q1 cR1 hs => ?_) (fun q1 hs => ?_)
  ·rw [s_define_Names_L1] at hs
   show WpV cR1 Tryz.prog (some lR1) 14 _ _ [(4, .str x1), (8, .str x1), (3, .ptr 3 0 0), (7, .fn 52 [] [.ptr 3000700 0 0])] [(3000700, .box 28 [.int .i64 y1.1, .int .i64 y1.2.1, .str y1.2.2.1, .str y1.2.2.2.1, .vs 5 (encs_Expr y1.2.2.2.2)]), (3, .box 61 [.mp 5]), (5, .map (encM V.str V.bool q1))] []
   refine v_block (vr_text (o_runs 2 [(10, .str x1), (9, .mp 5)] (by kernel_rfl) ?_))
   refine o_loc (F := [(5, .map (encM V.str V.bool q1))]) (F' := [(5, .map (encM V.str V.bool (mset x1 true q1)))]) (v := .no) [5] (by kernel_rfl) (by kernel_rfl) rfl (by kernel_rfl) (loc_mapUpdate (et := 4) (f := V.str) (g := V.bool) (l := q1) (a := x1) (c := true) (by kernel_rfl) kok9 (by kernel_rfl) (by kernel_rfl) (by kernel_rfl) (by kernel_rfl) (by kernel_rfl)) (by kernel_rfl) ?_
   refine ov_nil (nrm_blkV (nrm_round (mset x1 true q1) hs ?_))
   exact cut_of [] [3000700, 3, 5] (by kernel_rfl) (by kernel_rfl) (by kernel_rfl)
  ·rw [s_define_Names_L1] at hs
   refine nrm_blkV ?_
   obtain rfl := si hs
   refine nrm_join q1 rfl ?_
   exact cut_of [3] [3, 5] (by kernel_rfl) (by kernel_rfl) (by kernel_rfl)
 ·subst hz; clear hs; have hs := hk1; clear hk1
  refine nrm_thenV (v_seq (vr_text (o_runs 1 [(11, .mp 5)] (by kernel_rfl) ?_)))
  obtain ⟨y2, c2, hs⟩ := bind_some hs
  refine o_loc (F := [(5, .map (encM V.str V.bool v1))]) (F' := [(3001200, .box 61 [.mp 5]), (5, .map (encM V.str V.bool v1))]) (v := .fn 55 [] [.ptr 3001200 0 0]) [5] (by kernel_rfl) (by kernel_rfl) rfl (by kernel_rfl) (loc_g (R := []) [.mp 5] [(1000000, 5), (1, 3001200)] (callV_func hbv39 (by kernel_rfl)) (w_maps_Keys v1 _ c2) (.cons (.same _) (.nil)) (by kernel_rfl) (by kernel_rfl) (by kernel_rfl) (by kernel_rfl) (by kernel_rfl) (by kernel_rfl) (by kernel_rfl) (by kernel_rfl)) (by kernel_rfl) ?_
  obtain ⟨_, g1, hs⟩ := bind_some hs; replace g1 := grd_some g1
  refine o_loc (F := [(3001200, .box 61 [.mp 5]), (5, .map (encM V.str V.bool v1))]) (F' := [(3001200, .box 61 [.mp 5]), (5, .map (encM V.str V.bool v1))]) (v := .vs 1 (List.map EV.encS (sortKeys v1))) [3001200, 5] (by kernel_rfl) (by kernel_rfl) rfl (by kernel_rfl) (loc_g (R := []) [.fn 55 [] [.ptr 3001200 0 0]] [(1000000, 3001200), (1000001, 5)] (callV_func hbv38 (by kernel_rfl)) (w_sorted_keys v1 g1) (.cons (.same _) .nil) (by kernel_rfl) (by kernel_rfl) (by kernel_rfl) (by kernel_rfl) (by kernel_rfl) (by kernel_rfl) (by kernel_rfl) (by kernel_rfl)) (by kernel_rfl) ?_
  refine o_runs 1 [(2, .vs 1 (List.map EV.encS (sortKeys v1)))] (by kernel_rfl) ?_
  refine ov_nil (nrm_thenV (v_ret ?_))
  obtain rfl := si hs
  exact fin_ret (by kernel_rfl) (by kernel_rfl) (by kernel_rfl)
theorem w_fact_last (base : (List Fact)) (key : (List UInt8)) (known : Int) (r : Int × (List UInt8) × (List Fact)) (hs : s_fact_last base key known = some r) : FnA Tryz.prog 79 [.vs 5 (List.map enc_Fact base), .str key, .int .i64 known] [] (.fn 107 [] [.ptr 3 0 0, .ptr 4 0 0, .ptr 5 0 0]) [(5, .box 3 [.int .i64 r.1]), (4, .box 9 [.str r.2.1]), (3, .box 22 [.vs 5 (List.map enc_Fact r.2.2)])] := by
 refine fnA_of_wp (N := 8) Tryz.func79 rfl rfl rfl fun cK0 => ?_
 unfold s_fact_last at hs
 refine v_same (ρ' := [(0, .vs 5 (List.map enc_Fact base)), (1, .str key), (2, .int .i64 known)]) rfl rfl ?_
 refine v_seq (vr_text (o_runh 4 [(6, .nilf), (5, .ptr 5 0 0), (4, .ptr 4 0 0), (3, .ptr 3 0 0)] [(5, .box 3 [.int .i64 known]), (4, .box 9 [.str key]), (3, .box 22 [.vs 5 (List.map enc_Fact base)])] (by kernel_rfl) ?_))
 refine ov_nil (nrm_thenV (v_seq (vr_text (o_runs 2 [(6, .fn 107 [] [.ptr 3 0 0, .ptr 4 0 0, .ptr 5 0 0]), (7, .fn 107 [] [.ptr 3 0 0, .ptr 4 0 0, .ptr 5 0 0])] (by kernel_rfl) ?_))))
 refine ov_nil (nrm_thenV (v_ret ?_))
 obtain rfl := si hs
 exact fin_ret (by kernel_rfl) (by kernel_rfl) (by kernel_rfl)
theorem w_fact_end (f : Fact) (r : Int) (hs : s_fact_end f = some r) : FnA Tryz.prog 80 [.agg (enc_Fact f)] [] (.int .i64 r) [] := by
 refine fnA_of_wp (N := 8) Tryz.func80 rfl rfl rfl fun cK0 => ?_
 unfold s_fact_end at hs
 refine v_same (ρ' := [(0, .agg (enc_Fact f))]) rfl rfl ?_
 refine v_seq (vr_text (o_runh 2 [(2, .int .i64 0), (1, .ptr 1 0 0)] [(1, .box 49 [.str f.Key, .int .i64 f.Value, .int .i64 f.From, .int .i64 f.Until, .int .i64 f.Known])] (by kernel_rfl) ?_))
 refine ov_nil (nrm_thenV (v_seq (v_seq (vr_text (o_runs 3 [(5, .bool (decide (f.Until = 0))), (4, .int .i64 f.Until), (3, .ptr 1 0 3)] (by kernel_rfl) ?_)))))
 refine ov_nil (nrm_thenV ?_)
 refine v_cond (decide (f.Until = 0)) (by kernel_rfl) (fun h1 => ?_) (fun h1 => ?_)
 ·replace hs := bif_t h1 hs
  refine v_seq (vr_text (o_runs 1 [(2, .int .i64 1073741825)] (by kernel_rfl) ?_))
  refine ov_nil (nrm_thenV (v_ret (ret_thenV ?_)))
  obtain rfl := si hs
  exact fin_ret (by kernel_rfl) (by kernel_rfl) (by kernel_rfl)
 ·replace hs := bif_f h1 hs
  refine v_skip (nrm_thenV (v_seq (vr_text (o_runs 3 [(2, .int .i64 f.Until), (7, .int .i64 f.Until), (6, .ptr 1 0 3)] (by kernel_rfl) ?_))))
  refine ov_nil (nrm_thenV (v_ret ?_))
  obtain rfl := si hs
  exact fin_ret (by kernel_rfl) (by kernel_rfl) (by kernel_rfl)
theorem w_fact_counts (base : (List Fact)) (key : (List UInt8)) (day : Int) (known : Int) (r : Int) (hs : s_fact_counts base key day known = some r) : FnA Tryz.prog 62 [.vs 5 (List.map enc_Fact base), .str key, .int .i64 day, .int .i64 known] [] (.int .i64 r) [] := by
 refine fnA_of_wp (N := 32) Tryz.func62 rfl rfl rfl fun cK0 => ?_
 unfold s_fact_counts at hs
 refine v_same (ρ' := [(0, .vs 5 (List.map enc_Fact base)), (1, .str key), (2, .int .i64 day), (3, .int .i64 known)]) rfl rfl ?_
 refine v_seq (vr_text (o_runh 3 [(8, .ptr 8 0 0), (6, .ptr 6 0 0), (4, .ptr 4 0 0)] [(8, .box 3 [.int .i64 0]), (6, .box 3 [.int .i64 day]), (4, .box 22 [.vs 5 (List.map enc_Fact base)])] (by kernel_rfl) ?_))
 refine ov_nil (nrm_thenV (v_seq (v_seq (vr_text (o_runs 3 [(12, .int .i64 known), (11, .str key), (10, .vs 5 (List.map enc_Fact base))] (by kernel_rfl) ?_)))))
 obtain ⟨y1, c1, hs⟩ := bind_some hs
 refine o_loc (F := []) (F' := [(3001300, .box 3 [.int .i64 y1.1]), (3001301, .box 9 [.str y1.2.1]), (3001302, .box 22 [.vs 5 (List.map enc_Fact y1.2.2)])]) (v := .fn 107 [] [.ptr 3001302 0 0, .ptr 3001301 0 0, .ptr 3001300 0 0]) [] (by kernel_rfl) (by kernel_rfl) rfl (by kernel_rfl) (loc_g (R := []) [.vs 5 (List.map enc_Fact base), .str key, .int .i64 known] [(5, 3001300), (4, 3001301), (3, 3001302)] (callV_func hbv79 (by kernel_rfl)) (w_fact_last base key known _ c1) (.cons (.same _) (.cons (.same _) (.cons (.same _) (.nil)))) (by kernel_rfl) (by kernel_rfl) (by kernel_rfl) (by kernel_rfl) (by kernel_rfl) (by kernel_rfl) (by kernel_rfl) (by kernel_rfl)) (by kernel_rfl) ?_
 refine ov_nil (nrm_thenV ?_)
 obtain ⟨z1, hs, hk1⟩ := bind_some hs
 refine v_join (S := Unit) (fun u => z1 = .inr u) (fun u => [(8, .ptr 8 0 0)]) (fun u => [(8, .box 3 [.int .i64 0])]) ?_ (fun v1 hz => ?_)
 ·refine v_block (v_to [(4, .ptr 4 0 0), (6, .ptr 6 0 0), (8, .ptr 8 0 0), (13, .fn 107 [] [.ptr 3001302 0 0, .ptr 3001301 0 0, .ptr 3001300 0 0])] [(3001300, .box 3 [.int .i64 y1.1]), (3001301, .box 9 [.str y1.2.1]), (3001302, .box 22 [.vs 5 (List.map enc_Fact y1.2.2)]), (8, .box 3 [.int .i64 0]), (6, .box 3 [.int .i64 day]), (4, .box 22 [.vs 5 (List.map enc_Fact base)])] (cut_of [4, 6, 8, 13] [3001300, 3001301, 3001302, 8, 6, 4] (by kernel_rfl) (by kernel_rfl) (by kernel_rfl)) ?_)
  refine v_rangeF (Sg := Unit) (enc := (V.int .i64)) (val := (fun n : Int => Value.int .i64 n)) (caps := [.ptr 3001302 0 0, .ptr 3001301 0 0, .ptr 3001300 0 0]) (F := [(3001302, .box 22 [.vs 5 (List.map enc_Fact y1.2.2)]), (3001301, .box 9 [.str y1.2.1]), (3001300, .box 3 [.int .i64 y1.1])]) [3001302, 3001301, 3001300] (fun u => [(3001300, .box 3 [.int .i64 y1.1]), (3001301, .box 9 [.str y1.2.1]), (3001302, .box 22 [.vs 5 (List.map enc_Fact y1.2.2)]), (8, .box 3 [.int .i64 0]), (6, .box 3 [.int .i64 day]), (4, .box 22 [.vs 5 (List.map enc_Fact base)])]) (s_fact_counts_L1 base day) () (by kernel_rfl) hbv107 (iter_last 3001302 3001301 3001300 y1.2.2 y1.2.1 y1.1) (by kernel_rfl) (by kernel_rfl) (fun _ _ _ => rfl) hs (fun _ => by kernel_rfl) (by kernel_rfl) (fun lR1 x1 xs1 q1 cR1 hs => ?_) (fun q1 hs => ?_)
  ·rw [s_fact_counts_L1] at hs
   show WpV cR1 Tryz.prog (some lR1) 32 _ _ [(9, .int .i64 x1), (14, .int .i64 x1), (4, .ptr 4 0 0), (6, .ptr 6 0 0), (8, .ptr 8 0 0), (13, .fn 107 [] [.ptr 3001302 0 0, .ptr 3001301 0 0, .ptr 3001300 0 0])] [(3001300, .box 3 [.int .i64 y1.1]), (3001301, .box 9 [.str y1.2.1]), (3001302, .box 22 [.vs 5 (List.map enc_Fact y1.2.2)]), (8, .box 3 [.int .i64 0]), (6, .box 3 [.int .i64 day]), (4, .box 22 [.vs 5 (List.map enc_Fact base)])] []
   refine v_block (v_seq ?_)
   obtain ⟨z2, hs, hk2⟩ := bind_some hs
   refine v_join (S := Bool) (fun u => u = z2) (fun u => [(8, .ptr 8 0 0), (9, .int .i64 x1), (30, .bool u)]) (fun u => [(3001300, .box 3 [.int .i64 y1.1]), (3001301, .box 9 [.str y1.2.1]), (3001302, .box 22 [.vs 5 (List.map enc_Fact y1.2.2)]), (8, .box 3 [.int .i64 0]), (6, .box 3 [.int .i64 day]), (4, .box 22 [.vs 5 (List.map enc_Fact base)])]) ?_ (fun v2 hz => ?_)
   ·refine v_draw mixedH (by kernel_rfl) ?_
    refine d_runs 2 0 [(16, .int .i64 x1), (15, .vs 5 (List.map enc_Fact base))] [⟨1, [], []⟩, ⟨0, [], [4]⟩] (by kernel_rfl) (by kernel_rfl) ?_
    obtain ⟨x2, g1, hs⟩ := bind_some hs; obtain ⟨g1a, g1b, g1c⟩ := idx_some g1
    refine d_pure (v := .vp (enc_Fact x2) 0) 2 rfl rfl rfl rfl (by kernel_rfl) (by kernel_rfl) (loc_indexVs (e := 49) (sz := 5) (k := .i64) (els := (List.map enc_Fact base)) (cs := (enc_Fact x2)) (by kernel_rfl) (by kernel_rfl) (by kernel_rfl) g1a (by rw [g1c]; exact map_get _ (by omega))) ?_
    refine d_runs 5 3 [(22, .bool (decide (x2.From ≤ day))), (21, .bool (decide (x2.From ≤ day))), (20, .int .i64 day), (19, .int .i64 x2.From), (18, .vp (enc_Fact x2) 2)] [⟨7, [], []⟩, ⟨6, [], []⟩, ⟨5, [], [6]⟩, ⟨4, [], []⟩, ⟨3, [], []⟩] (by kernel_rfl) (by kernel_rfl) ?_
    cases h1 : ((decide (x2.From ≤ day)))
    ·replace hs := bif_f h1 hs
     refine d_runs 8 8 [(30, .bool false), (29, .no), (28, .no), (27, .no), (26, .no), (25, .no), (24, .no), (23, .no)] (pfp 8 15) (by kernel_rfl) (by kernel_rfl) ?_
     refine d_nil (by kernel_rfl) ?_
     obtain rfl := si hs
     refine nrm_join false rfl ?_
     exact cut_of [8, 9, 30] [3001300, 3001301, 3001302, 8, 6, 4] (by kernel_rfl) (by kernel_rfl) (by kernel_rfl)
    ·replace hs := bif_t h1 hs
     refine d_runs 3 8 [(25, .int .i64 x1), (24, .vs 5 (List.map enc_Fact base)), (23, .int .i64 day)] [⟨10, [], []⟩, ⟨9, [], [4]⟩, ⟨8, [], [6]⟩] (by kernel_rfl) (by kernel_rfl) ?_
     obtain ⟨x3, g2, hs⟩ := bind_some hs; obtain ⟨g2a, g2b, g2c⟩ := idx_some g2
     refine d_pure (v := .vp (enc_Fact x3) 0) 11 rfl rfl rfl rfl (by kernel_rfl) (by kernel_rfl) (loc_indexVs (e := 49) (sz := 5) (k := .i64) (els := (List.map enc_Fact base)) (cs := (enc_Fact x3)) (by kernel_rfl) (by kernel_rfl) (by kernel_rfl) g2a (by rw [g2c]; exact map_get _ (by omega))) ?_
     refine d_runs 1 12 [(27, .agg (enc_Fact x3))] (pfp 1 12) (by kernel_rfl) (by kernel_rfl) ?_
     obtain ⟨y2, c2, hs⟩ := bind_some hs
     refine d_pure (v := .int .i64 y2) 13 rfl rfl rfl rfl (by kernel_rfl) (by kernel_rfl) (loc_gcall0 (callV_func hbv80 (by kernel_rfl)) (w_fact_end x3 _ c2) (by kernel_rfl)) ?_
     refine d_runs 2 14 [(30, .bool (decide (day < y2))), (29, .bool (decide (day < y2)))] (pfp 2 15) (by kernel_rfl) (by kernel_rfl) ?_
     refine d_nil (by kernel_rfl) ?_
     obtain rfl := si hs
     refine nrm_join (decide (day < y2)) rfl ?_
     exact cut_of [8, 9, 30] [3001300, 3001301, 3001302, 8, 6, 4] (by kernel_rfl) (by kernel_rfl) (by kernel_rfl)
   ·subst hz; clear hs; have hs := hk2; clear hk2
    refine nrm_thenV ?_
    refine v_cond v2 (by kernel_rfl) (fun h2 => ?_) (fun h2 => ?_)
    ·replace hs := bif_t h2 hs
     refine v_seq (vr_text (o_runh 2 [(31, .int .i64 x1)] [(3001300, .box 3 [.int .i64 y1.1]), (3001301, .box 9 [.str y1.2.1]), (3001302, .box 22 [.vs 5 (List.map enc_Fact y1.2.2)]), (8, .box 3 [.int .i64 x1]), (6, .box 3 [.int .i64 day]), (4, .box 22 [.vs 5 (List.map enc_Fact base)])] (by kernel_rfl) ?_))
     refine ov_nil (nrm_thenV (v_ret (ret_blkV (ret_round [(4, .box 22 [.vs 5 (List.map enc_Fact base)]), (6, .box 3 [.int .i64 day]), (8, .box 3 [.int .i64 x1]), (3001302, .box 22 [.vs 5 (List.map enc_Fact y1.2.2)]), (3001301, .box 9 [.str y1.2.1]), (3001300, .box 3 [.int .i64 y1.1])] (cut_of [] [4, 6, 8, 3001302, 3001301, 3001300] (by kernel_rfl) (by kernel_rfl) (by kernel_rfl)) ?_))))
     refine ret_blkV (ret_join ?_)
     refine ret_thenV ?_
     obtain rfl := si hs
     replace hs := hk1
     obtain rfl := si hs
     exact fin_ret (by kernel_rfl) (by kernel_rfl) (by kernel_rfl)
    ·replace hs := bif_f h2 hs
     refine v_skip (nrm_blkV (nrm_round () hs ?_))
     exact cut_of [] [3001300, 3001301, 3001302, 8, 6, 4] (by kernel_rfl) (by kernel_rfl) (by kernel_rfl)
  ·rw [s_fact_counts_L1] at hs
   refine nrm_blkV ?_
   obtain rfl := si hs
   refine nrm_join () rfl ?_
   exact cut_of [8] [8] (by kernel_rfl) (by kernel_rfl) (by kernel_rfl)
 ·subst hz; clear hs; have hs := hk1; clear hk1
  refine nrm_thenV (v_seq (vr_text (o_runh 1 [] [(8, .box 3 [.int .i64 (-1)])] (by kernel_rfl) ?_)))
  refine ov_nil (nrm_thenV (v_ret ?_))
  obtain rfl := si hs
  exact fin_ret (by kernel_rfl) (by kernel_rfl) (by kernel_rfl)
theorem w_fact_At (base : (List Fact)) (key : (List UInt8)) (day : Int) (known : Int) (r : Int × Bool) (hs : s_fact_At base key day known = some r) : FnA Tryz.prog 49 [.vs 5 (List.map enc_Fact base), .str key, .int .i64 day, .int .i64 known] [] (.tup [.int .i64 r.1, .bool r.2]) [] := by
 refine fnA_of_wp (N := 34) Tryz.func49 rfl rfl rfl fun cK0 => ?_
 unfold s_fact_At at hs
 refine v_same (ρ' := [(0, .vs 5 (List.map enc_Fact base)), (1, .str key), (2, .int .i64 day), (3, .int .i64 known)]) rfl rfl ?_
 refine v_seq (vr_text (o_runs 2 [(9, .bool false), (8, .int .i64 0)] (by kernel_rfl) ?_))
 refine ov_nil (nrm_thenV (v_seq (v_seq ?_)))
 obtain ⟨z1, hs, hk1⟩ := bind_some hs
 refine v_join (S := Bool) (fun u => u = z1) (fun u => [(0, .vs 5 (List.map enc_Fact base)), (1, .str key), (2, .int .i64 day), (3, .int .i64 known), (21, .bool u)]) (fun u => []) ?_ (fun v1 hz => ?_)
 ·refine vr_text (o_runs 3 [(13, .bool (decide (day < 0))), (12, .bool (decide (day < 0))), (11, .int .i64 day)] (by kernel_rfl) ?_)
  cases h1 : ((decide (day < 0)))
  ·replace hs := bif_f h1 hs
   refine o_runs 4 [(17, .bool (decide (day > 1073741824))), (16, .bool (decide (day > 1073741824))), (15, .bool (decide (day > 1073741824))), (14, .int .i64 day)] (by kernel_rfl) ?_
   cases h2 : ((decide (day > 1073741824)))
   ·replace hs := bif_f h2 hs
    refine o_runs 1 [(18, .vs 5 (List.map enc_Fact base))] (by kernel_rfl) ?_
    obtain ⟨y1, c1, hs⟩ := bind_some hs
    refine o_pure (v := .bool y1) (by kernel_rfl) (by kernel_rfl) (loc_gcall0 (callV_func hbv27 (by kernel_rfl)) (w_fact_Right base _ c1) (by kernel_rfl)) ?_
    refine o_runs 2 [(21, .bool (!y1)), (20, .bool (!y1))] (by kernel_rfl) ?_
    refine ov_nil ?_
    obtain rfl := si hs
    refine nrm_join (!y1) rfl ?_
    exact cut_of [0, 1, 2, 3, 21] [] (by kernel_rfl) (by kernel_rfl) (by kernel_rfl)
   ·replace hs := bif_t h2 hs
    refine o_runs 4 [(21, .bool true), (20, .no), (19, .no), (18, .no)] (by kernel_rfl) ?_
    refine ov_nil ?_
    obtain rfl := si hs
    refine nrm_join true rfl ?_
    exact cut_of [0, 1, 2, 3, 21] [] (by kernel_rfl) (by kernel_rfl) (by kernel_rfl)
  ·replace hs := bif_t h1 hs
   refine o_runs 8 [(21, .bool true), (20, .no), (19, .no), (18, .no), (17, .bool true), (16, .bool true), (15, .no), (14, .no)] (by kernel_rfl) ?_
   refine ov_nil ?_
   obtain rfl := si hs
   refine nrm_join true rfl ?_
   exact cut_of [0, 1, 2, 3, 21] [] (by kernel_rfl) (by kernel_rfl) (by kernel_rfl)
 ·subst hz; clear hs; have hs := hk1; clear hk1
  refine nrm_thenV ?_
  refine v_cond v1 (by kernel_rfl) (fun h3 => ?_) (fun h3 => ?_)
  ·replace hs := bif_t h3 hs
   refine v_seq (vr_text (o_runs 2 [(9, .bool false), (8, .int .i64 0)] (by kernel_rfl) ?_))
   refine ov_nil (nrm_thenV (v_ret (ret_thenV ?_)))
   obtain rfl := si hs
   exact fin_ret (by kernel_rfl) (by kernel_rfl) (by kernel_rfl)
  ·replace hs := bif_f h3 hs
   refine v_skip (nrm_thenV (v_seq (vr_text (o_runs 4 [(25, .int .i64 known), (24, .int .i64 day), (23, .str key), (22, .vs 5 (List.map enc_Fact base))] (by kernel_rfl) ?_))))
   obtain ⟨y2, c2, hs⟩ := bind_some hs
   refine o_pure (v := .int .i64 y2) (by kernel_rfl) (by kernel_rfl) (loc_gcall0 (callV_func hbv62 (by kernel_rfl)) (w_fact_counts base key day known _ c2) (by kernel_rfl)) ?_
   refine o_runs 1 [(10, .int .i64 y2)] (by kernel_rfl) ?_
   refine ov_nil (nrm_thenV (v_seq (v_seq (vr_text (o_runs 2 [(28, .bool (decide (y2 < 0))), (27, .int .i64 y2)] (by kernel_rfl) ?_)))))
   refine ov_nil (nrm_thenV ?_)
   refine v_cond (decide (y2 < 0)) (by kernel_rfl) (fun h4 => ?_) (fun h4 => ?_)
   ·replace hs := bif_t h4 hs
    refine v_seq (vr_text (o_runs 2 [(9, .bool false), (8, .int .i64 0)] (by kernel_rfl) ?_))
    refine ov_nil (nrm_thenV (v_ret (ret_thenV ?_)))
    obtain rfl := si hs
    exact fin_ret (by kernel_rfl) (by kernel_rfl) (by kernel_rfl)
   ·replace hs := bif_f h4 hs
    refine v_skip (nrm_thenV (v_seq (vr_text (o_runs 2 [(30, .int .i64 y2), (29, .vs 5 (List.map enc_Fact base))] (by kernel_rfl) ?_))))
    obtain ⟨x1, g1, hs⟩ := bind_some hs; obtain ⟨g1a, g1b, g1c⟩ := idx_some g1
    refine o_pure (v := .vp (enc_Fact x1) 0) (by kernel_rfl) (by kernel_rfl) (loc_indexVs (e := 49) (sz := 5) (k := .i64) (els := (List.map enc_Fact base)) (cs := (enc_Fact x1)) (by kernel_rfl) (by kernel_rfl) (by kernel_rfl) g1a (by rw [g1c]; exact map_get _ (by omega))) ?_
    refine o_runs 4 [(9, .bool true), (8, .int .i64 x1.Value), (33, .int .i64 x1.Value), (32, .vp (enc_Fact x1) 1)] (by kernel_rfl) ?_
    refine ov_nil (nrm_thenV (v_ret ?_))
    obtain rfl := si hs
    exact fin_ret (by kernel_rfl) (by kernel_rfl) (by kernel_rfl)
theorem w_reopen_look (base : (List Fact)) (key : (List UInt8)) (day : Int) (known : Int) (r : Asked) (hs : s_reopen_look base key day known = some r) : FnA Tryz.prog 34 [.vs 5 (List.map enc_Fact base), .str key, .int .i64 day, .int .i64 known] [] (.agg (enc_Asked r)) [] := by
 refine fnA_of_wp (N := 24) Tryz.func34 rfl rfl rfl fun cK0 => ?_
 unfold s_reopen_look at hs
 refine v_same (ρ' := [(0, .vs 5 (List.map enc_Fact base)), (1, .str key), (2, .int .i64 day), (3, .int .i64 known)]) rfl rfl ?_
 refine v_seq (vr_text (o_runh 1 [(8, .ptr 8 0 0)] [(8, .box 52 [.str [], .int .i64 0, .int .i64 0, .bool false])] (by kernel_rfl) ?_))
 refine ov_nil (nrm_thenV (v_seq (vr_text (o_runs 4 [(15, .int .i64 known), (14, .int .i64 day), (13, .str key), (12, .vs 5 (List.map enc_Fact base))] (by kernel_rfl) ?_))))
 obtain ⟨y1, c1, hs⟩ := bind_some hs
 refine o_pure (v := .tup [.int .i64 y1.1, .bool y1.2]) (by kernel_rfl) (by kernel_rfl) (loc_gcall0 (callV_func hbv49 (by kernel_rfl)) (w_fact_At base key day known _ c1) (by kernel_rfl)) ?_
 refine o_runs 5 [(10, .bool y1.2), (9, .int .i64 y1.1), (18, .bool y1.2), (17, .int .i64 y1.1), (11, .tup [.int .i64 y1.1, .bool y1.2])] (by kernel_rfl) ?_
 refine ov_nil (nrm_thenV (v_seq (vr_text (o_runh 6 [(23, .agg [.str key, .int .i64 day, .int .i64 y1.1, .bool y1.2]), (22, .bool y1.2), (21, .int .i64 y1.1), (20, .int .i64 day), (19, .str key)] [(8, .box 52 [.str key, .int .i64 day, .int .i64 y1.1, .bool y1.2])] (by kernel_rfl) ?_))))
 refine ov_nil (nrm_thenV (v_ret ?_))
 obtain rfl := si hs
 exact fin_ret (by kernel_rfl) (by kernel_rfl) (by kernel_rfl)
theorem w_reopen_Ask (base : (List Fact)) (f : Formula) (known : Int) (r : (List Asked)) (hs : s_reopen_Ask base f known = some r) : FnA Tryz.prog 14 [.vs 5 (List.map enc_Fact base), .agg (enc_Formula f), .int .i64 known] [] (.vs 4 (List.map enc_Asked r)) [] := by
 refine fnA_of_wp (N := 29) Tryz.func14 rfl rfl rfl fun cK0 => ?_
 unfold s_reopen_Ask at hs
 refine v_same (ρ' := [(0, .vs 5 (List.map enc_Fact base)), (1, .agg (enc_Formula f)), (2, .int .i64 known)]) rfl rfl ?_
 refine v_seq (vr_text (o_runh 2 [(6, .nils), (4, .ptr 4 0 0)] [(4, .box 31 [.int .i64 f.Id, .int .i64 f.Day, .int .i64 f.Known, .int .i64 f.Body.Op, .int .i64 f.Body.N, .str f.Body.S, .str f.Body.Key, .vs 5 (encs_Expr f.Body.Args), .int .i64 f.Result, .vs 4 (List.map enc_Asked f.Asked)])] (by kernel_rfl) ?_))
 refine ov_nil (nrm_thenV (v_seq (vr_text (o_runs 1 [(7, .nils)] (by kernel_rfl) ?_))))
 refine ov_nil (nrm_thenV (v_seq (v_seq (vr_text (o_runs 2 [(11, .agg (enc_Expr f.Body)), (10, .ptr 4 0 3)] (by kernel_rfl) ?_)))))
 obtain ⟨y1, c1, hs⟩ := bind_some hs
 refine o_pure (v := .vs 1 (List.map EV.encS y1)) (by kernel_rfl) (by kernel_rfl) (loc_gcall0 (callV_func hbv19 (by kernel_rfl)) (w_define_Names f.Body _ c1) (by kernel_rfl)) ?_
 refine o_pure (v := .int .i64 (List.length y1 : Int)) (by kernel_rfl) (by kernel_rfl) (loc_lenVs (sz := 1) (els := (List.map EV.encS y1)) (by kernel_rfl) (by kernel_rfl) (List.length_map ..)) ?_
 refine o_runs 1 [(14, .int .i64 0)] (by kernel_rfl) ?_
 refine ov_nil (nrm_thenV ?_)
 obtain ⟨z1, hs, hk1⟩ := bind_some hs
 refine v_join (S := (List Asked)) (fun u => u = z1) (fun u => [(7, .sl 4 2000018 ((u).length) 0 ((u).length))]) (fun u => [(2000018, .row 52 4 0 (List.map enc_Asked u))]) ?_ (fun v1 hz => ?_)
 ·refine v_block ?_
  refine v_fuel (S := Int × (List Asked)) (fun u => [(0, .vs 5 (List.map enc_Fact base)), (2, .int .i64 known), (4, .ptr 4 0 0), (7, .sl 4 2000018 ((u.2).length) 0 ((u.2).length)), (12, .vs 1 (List.map EV.encS y1)), (13, .int .i64 (List.length y1 : Int)), (14, .int .i64 u.1)]) (fun u => [(4, .box 31 [.int .i64 f.Id, .int .i64 f.Day, .int .i64 f.Known, .int .i64 f.Body.Op, .int .i64 f.Body.N, .str f.Body.S, .str f.Body.Key, .vs 5 (encs_Expr f.Body.Args), .int .i64 f.Result, .vs 4 (List.map enc_Asked f.Asked)]), (2000018, .row 52 4 0 (List.map enc_Asked u.2))]) (s_reopen_Ask_L1 base f known y1) (fun _ => rfl) KK (0, []) hs (Cut.trans (cut_nilRow 7 2000018 52 4 rfl (by kernel_rfl) (by kernel_rfl)) (cut_of [0, 2, 4, 7, 12, 13, 14] [4, 2000018] (by kernel_rfl) (by kernel_rfl) (by kernel_rfl))) (fun K1 q1 hs => ?_)
  rw [s_reopen_Ask_L1] at hs
  show WpV cK0 Tryz.prog none 29 _ _ [(0, .vs 5 (List.map enc_Fact base)), (2, .int .i64 known), (4, .ptr 4 0 0), (7, .sl 4 2000018 ((q1.2).length) 0 ((q1.2).length)), (12, .vs 1 (List.map EV.encS y1)), (13, .int .i64 (List.length y1 : Int)), (14, .int .i64 q1.1)] [(4, .box 31 [.int .i64 f.Id, .int .i64 f.Day, .int .i64 f.Known, .int .i64 f.Body.Op, .int .i64 f.Body.N, .str f.Body.S, .str f.Body.Key, .vs 5 (encs_Expr f.Body.Args), .int .i64 f.Result, .vs 4 (List.map enc_Asked f.Asked)]), (2000018, .row 52 4 0 (List.map enc_Asked q1.2))] []
  refine v_seq (vr_text (o_runs 1 [(15, .bool (decide (q1.1 < (List.length y1 : Int))))] (by kernel_rfl) ?_))
  refine ov_nil (nrm_thenV (v_seq ?_))
  refine v_cond (decide (q1.1 < (List.length y1 : Int))) (by kernel_rfl) (fun h1 => ?_) (fun h1 => ?_)
  ·replace hs := bif_t h1 hs
   refine v_skip (nrm_thenV (v_seq (v_block (v_seq (vr_text ?_)))))
   obtain ⟨x1, g1, hs⟩ := bind_some hs; obtain ⟨g1a, g1b, g1c⟩ := idx_some g1
   refine o_pure (v := .vp [.str x1] 0) (by kernel_rfl) (by kernel_rfl) (loc_indexVs (e := 9) (sz := 1) (k := .i64) (els := (List.map EV.encS y1)) (cs := (EV.encS x1)) (by kernel_rfl) (by kernel_rfl) (by kernel_rfl) g1a (by rw [g1c]; exact map_get _ (by omega))) ?_
   refine o_runs 2 [(9, .str x1), (17, .str x1)] (by kernel_rfl) ?_
   refine ov_nil (nrm_thenV (vr_text (o_runs 6 [(23, .int .i64 known), (22, .int .i64 f.Day), (21, .ptr 4 0 1), (20, .str x1), (19, .vs 5 (List.map enc_Fact base)), (18, .sl 4 2000018 ((q1.2).length) 0 ((q1.2).length))] (by kernel_rfl) ?_)))
   obtain ⟨y2, c2, hs⟩ := bind_some hs
   refine o_pure (v := .agg (enc_Asked y2)) (by kernel_rfl) (by kernel_rfl) (loc_gcall0 (callV_func hbv34 (by kernel_rfl)) (w_reopen_look base x1 f.Day known _ c2) (by kernel_rfl)) ?_
   refine o_runh 1 [(25, .sl 4 25 1 0 1)] [(25, .row 52 4 0 (List.map enc_Asked [y2])), (4, .box 31 [.int .i64 f.Id, .int .i64 f.Day, .int .i64 f.Known, .int .i64 f.Body.Op, .int .i64 f.Body.N, .str f.Body.S, .str f.Body.Key, .vs 5 (encs_Expr f.Body.Args), .int .i64 f.Result, .vs 4 (List.map enc_Asked f.Asked)]), (2000018, .row 52 4 0 (List.map enc_Asked q1.2))] (by kernel_rfl) ?_
   obtain ⟨_, g2, hs⟩ := bind_some hs; replace g2 := grd_some g2
   refine o_loc (F := [(2000018, .row 52 4 0 (List.map enc_Asked q1.2)), (25, .row 52 4 0 (List.map enc_Asked [y2]))]) (F' := [(2000018, .row 52 4 0 (List.map enc_Asked (q1.2 ++ [y2]))), (25, .row 52 4 0 (List.map enc_Asked [y2]))]) (v := .sl 4 2000018 (((q1.2 ++ [y2])).length) 0 (((q1.2 ++ [y2])).length)) [2000018, 25] (by kernel_rfl) (by kernel_rfl) rfl (by kernel_rfl) (loc_appendT (e := 52) (sz := 4) (bytes := 40) (L := (q1.2).length) (els := (List.map enc_Asked q1.2)) (ys := (List.map enc_Asked [y2])) (by kernel_rfl) (by kernel_rfl) (by first | exact List.length_map .. | rfl) (.sl (t := 52) (fz := 0) (ys := (List.map enc_Asked [y2])) (by kernel_rfl) (by kernel_rfl)) (map_ones enc_Asked (fun _ => rfl) _) (map_lens enc_Asked (fun _ => rfl) _) (by kernel_rfl) (by first | exact (List.map_append ..).symm | rfl | simp only [List.map_nil, List.nil_append]) (List.length_map ..) g2 (by omega)) (by kernel_rfl) ?_
   refine o_runs 1 [(7, .sl 4 2000018 (((q1.2 ++ [y2])).length) 0 (((q1.2 ++ [y2])).length))] (by kernel_rfl) ?_
   refine ov_nil (nrm_blkV (nrm_thenV (vr_text (o_runs 2 [(14, .int .i64 (w64 (q1.1 + 1))), (27, .int .i64 (w64 (q1.1 + 1)))] (by kernel_rfl) ?_))))
   refine ov_nil (nrm_fuel ((w64 (q1.1 + 1)), (q1.2 ++ [y2])) hs ?_)
   exact cut_of [0, 2, 4, 7, 12, 13, 14] [4, 2000018] (by kernel_rfl) (by kernel_rfl) (by kernel_rfl)
  ·replace hs := bif_f h1 hs
   refine v_exit (exit_thenV (exit_fuel ?_))
   refine exit_blkV ?_
   obtain rfl := si hs
   refine nrm_join q1.2 rfl ?_
   exact cut_of [7] [2000018] (by kernel_rfl) (by kernel_rfl) (by kernel_rfl)
 ·subst hz; clear hs; have hs := hk1; clear hk1
  refine nrm_thenV (v_seq (vr_text (o_runs 2 [(6, .sl 4 2000018 ((v1).length) 0 ((v1).length)), (28, .sl 4 2000018 ((v1).length) 0 ((v1).length))] (by kernel_rfl) ?_)))
  refine ov_nil (nrm_thenV (v_to _ [(2000018, .row 52 4 (((List.map enc_Asked v1)).length) (List.map enc_Asked v1))] (cut_freeze (F := [(2000018, .row 52 4 0 (List.map enc_Asked v1))]) [2000018] rfl (by kernel_rfl) (by kernel_rfl)) ?_))
  refine v_to ((6, .vs 4 (List.map enc_Asked v1)) :: _) _ (cut_view (R := [(2000018, .row 52 4 (((List.map enc_Asked v1)).length) (List.map enc_Asked v1))]) (ks := [2000018]) (by kernel_rfl) (by kernel_rfl) (.row (t := 52) (fz := (((List.map enc_Asked v1)).length)) (by kernel_rfl) (by first | (simp only [List.length_map, List.length_set]; done) | rfl))) ?_
  refine v_ret ?_
  obtain rfl := si hs
  exact fin_ret (by kernel_rfl) (by kernel_rfl) (by kernel_rfl)
theorem w_define_Measures  (r : (List (List UInt8))) (hs : s_define_Measures  = some r) : FnA Tryz.prog 92 [] [] (.vs 1 (List.map EV.encS r)) [] := by
 refine fnA_of_wp (N := 2) Tryz.func92 rfl rfl rfl fun cK0 => ?_
 unfold s_define_Measures at hs
 refine v_same (ρ' := []) rfl rfl ?_
 refine v_seq (vr_text (o_runs 1 [(0, .nils)] (by kernel_rfl) ?_))
 refine ov_nil (nrm_thenV (v_seq (vr_text (o_runh 2 [(0, .sl 1 1 9 0 9), (1, .sl 1 1 9 0 9)] [(1, .row 9 1 0 (List.map EV.encS [([97, 114, 101, 97] : List UInt8), ([99, 111, 118, 101, 114] : List UInt8), ([102, 108, 111, 111, 114] : List UInt8), ([102, 108, 111, 111, 114, 115] : List UInt8), ([104, 101, 105, 103, 104, 116] : List UInt8), ([104, 111, 109, 101, 115] : List UInt8), ([114, 117, 110, 111, 102, 102] : List UInt8), ([115, 101, 116, 98, 97, 99, 107] : List UInt8), ([116, 114, 97, 102, 102, 105, 99] : List UInt8)]))] (by kernel_rfl) ?_))))
 refine ov_nil (nrm_thenV (v_to _ [(1, .row 9 1 (((List.map EV.encS [([97, 114, 101, 97] : List UInt8), ([99, 111, 118, 101, 114] : List UInt8), ([102, 108, 111, 111, 114] : List UInt8), ([102, 108, 111, 111, 114, 115] : List UInt8), ([104, 101, 105, 103, 104, 116] : List UInt8), ([104, 111, 109, 101, 115] : List UInt8), ([114, 117, 110, 111, 102, 102] : List UInt8), ([115, 101, 116, 98, 97, 99, 107] : List UInt8), ([116, 114, 97, 102, 102, 105, 99] : List UInt8)])).length) (List.map EV.encS [([97, 114, 101, 97] : List UInt8), ([99, 111, 118, 101, 114] : List UInt8), ([102, 108, 111, 111, 114] : List UInt8), ([102, 108, 111, 111, 114, 115] : List UInt8), ([104, 101, 105, 103, 104, 116] : List UInt8), ([104, 111, 109, 101, 115] : List UInt8), ([114, 117, 110, 111, 102, 102] : List UInt8), ([115, 101, 116, 98, 97, 99, 107] : List UInt8), ([116, 114, 97, 102, 102, 105, 99] : List UInt8)]))] (cut_freeze (F := [(1, .row 9 1 0 (List.map EV.encS [([97, 114, 101, 97] : List UInt8), ([99, 111, 118, 101, 114] : List UInt8), ([102, 108, 111, 111, 114] : List UInt8), ([102, 108, 111, 111, 114, 115] : List UInt8), ([104, 101, 105, 103, 104, 116] : List UInt8), ([104, 111, 109, 101, 115] : List UInt8), ([114, 117, 110, 111, 102, 102] : List UInt8), ([115, 101, 116, 98, 97, 99, 107] : List UInt8), ([116, 114, 97, 102, 102, 105, 99] : List UInt8)]))]) [1] rfl (by kernel_rfl) (by kernel_rfl)) ?_))
 refine v_to ((0, .vs 1 (List.map EV.encS [([97, 114, 101, 97] : List UInt8), ([99, 111, 118, 101, 114] : List UInt8), ([102, 108, 111, 111, 114] : List UInt8), ([102, 108, 111, 111, 114, 115] : List UInt8), ([104, 101, 105, 103, 104, 116] : List UInt8), ([104, 111, 109, 101, 115] : List UInt8), ([114, 117, 110, 111, 102, 102] : List UInt8), ([115, 101, 116, 98, 97, 99, 107] : List UInt8), ([116, 114, 97, 102, 102, 105, 99] : List UInt8)])) :: _) _ (cut_view (R := [(1, .row 9 1 (((List.map EV.encS [([97, 114, 101, 97] : List UInt8), ([99, 111, 118, 101, 114] : List UInt8), ([102, 108, 111, 111, 114] : List UInt8), ([102, 108, 111, 111, 114, 115] : List UInt8), ([104, 101, 105, 103, 104, 116] : List UInt8), ([104, 111, 109, 101, 115] : List UInt8), ([114, 117, 110, 111, 102, 102] : List UInt8), ([115, 101, 116, 98, 97, 99, 107] : List UInt8), ([116, 114, 97, 102, 102, 105, 99] : List UInt8)])).length) (List.map EV.encS [([97, 114, 101, 97] : List UInt8), ([99, 111, 118, 101, 114] : List UInt8), ([102, 108, 111, 111, 114] : List UInt8), ([102, 108, 111, 111, 114, 115] : List UInt8), ([104, 101, 105, 103, 104, 116] : List UInt8), ([104, 111, 109, 101, 115] : List UInt8), ([114, 117, 110, 111, 102, 102] : List UInt8), ([115, 101, 116, 98, 97, 99, 107] : List UInt8), ([116, 114, 97, 102, 102, 105, 99] : List UInt8)]))]) (ks := [1]) (by kernel_rfl) (by kernel_rfl) (.row (t := 9) (fz := (((List.map EV.encS [([97, 114, 101, 97] : List UInt8), ([99, 111, 118, 101, 114] : List UInt8), ([102, 108, 111, 111, 114] : List UInt8), ([102, 108, 111, 111, 114, 115] : List UInt8), ([104, 101, 105, 103, 104, 116] : List UInt8), ([104, 111, 109, 101, 115] : List UInt8), ([114, 117, 110, 111, 102, 102] : List UInt8), ([115, 101, 116, 98, 97, 99, 107] : List UInt8), ([116, 114, 97, 102, 102, 105, 99] : List UInt8)])).length)) (by kernel_rfl) (by first | (simp only [List.length_map, List.length_set]; done) | rfl))) ?_
 refine v_ret ?_
 obtain rfl := si hs
 exact fin_ret (by kernel_rfl) (by kernel_rfl) (by kernel_rfl)
theorem w_define_newGraph (l : (List Def)) (r : (List Def) × (List (List Int))) (hs : s_define_newGraph l = some r) : FnA Tryz.prog 93 [.vs 6 (List.map enc_Def l)] [] (.ptr 31 0 0) [(31, .box 154 [.vs 6 (List.map enc_Def r.1), .sl 1 29 ((r.2).length) 0 ((r.2).length)]), (29, .row 45 1 0 (List.map (encL 1 EV.encI) r.2))] := by
 refine fnA_of_wp (N := 73) Tryz.func93 rfl rfl rfl fun cK0 => ?_
 unfold s_define_newGraph at hs
 refine v_same (ρ' := [(0, .vs 6 (List.map enc_Def l))]) rfl rfl ?_
 refine v_seq (vr_text (o_runs 1 [(2, .nilp)] (by kernel_rfl) ?_))
 refine ov_nil (nrm_thenV (v_seq (vr_text (o_runh 2 [(3, .mp 13), (13, .mp 13)] [(13, .map (encM V.str (V.int .i64) []))] (by kernel_rfl) ?_))))
 refine ov_nil (nrm_thenV (v_seq (v_seq (vr_text (o_runs 1 [(14, .vs 6 (List.map enc_Def l))] (by kernel_rfl) ?_)))))
 refine o_pure (v := .int .i64 (List.length l : Int)) (by kernel_rfl) (by kernel_rfl) (loc_lenVs (sz := 6) (els := (List.map enc_Def l)) (by kernel_rfl) (by kernel_rfl) (List.length_map ..)) ?_
 refine o_runs 1 [(16, .int .i64 0)] (by kernel_rfl) ?_
 refine ov_nil (nrm_thenV ?_)
 obtain ⟨z1, hs, hk1⟩ := bind_some hs
 refine v_join (S := (List ((List UInt8) × Int))) (fun u => u = z1) (fun u => [(0, .vs 6 (List.map enc_Def l)), (3, .mp 13)]) (fun u => [(13, .map (encM V.str (V.int .i64) u))]) ?_ (fun v1 hz => ?_)
 ·refine v_block ?_
  refine v_fuel (S := Int × (List ((List UInt8) × Int))) (fun u => [(0, .vs 6 (List.map enc_Def l)), (3, .mp 13), (14, .vs 6 (List.map enc_Def l)), (15, .int .i64 (List.length l : Int)), (16, .int .i64 u.1)]) (fun u => [(13, .map (encM V.str (V.int .i64) u.2))]) (s_define_newGraph_L1 l) (fun _ => rfl) KK (0, []) hs (cut_of [0, 3, 14, 15, 16] [13] (by kernel_rfl) (by kernel_rfl) (by kernel_rfl)) (fun K1 q1 hs => ?_)
  rw [s_define_newGraph_L1] at hs
  show WpV cK0 Tryz.prog none 73 _ _ [(0, .vs 6 (List.map enc_Def l)), (3, .mp 13), (14, .vs 6 (List.map enc_Def l)), (15, .int .i64 (List.length l : Int)), (16, .int .i64 q1.1)] [(13, .map (encM V.str (V.int .i64) q1.2))] []
  refine v_seq (vr_text (o_runs 1 [(17, .bool (decide (q1.1 < (List.length l : Int))))] (by kernel_rfl) ?_))
  refine ov_nil (nrm_thenV (v_seq ?_))
  refine v_cond (decide (q1.1 < (List.length l : Int))) (by kernel_rfl) (fun h1 => ?_) (fun h1 => ?_)
  ·replace hs := bif_t h1 hs
   refine v_skip (nrm_thenV (v_seq (v_block (v_seq (vr_text (o_runs 1 [(18, .int .i64 q1.1)] (by kernel_rfl) ?_))))))
   obtain ⟨x1, g1, hs⟩ := bind_some hs; obtain ⟨g1a, g1b, g1c⟩ := idx_some g1
   refine o_pure (v := .vp (enc_Def x1) 0) (by kernel_rfl) (by kernel_rfl) (loc_indexVs (e := 106) (sz := 6) (k := .i64) (els := (List.map enc_Def l)) (cs := (enc_Def x1)) (by kernel_rfl) (by kernel_rfl) (by kernel_rfl) g1a (by rw [g1c]; exact map_get _ (by omega))) ?_
   refine o_runh 4 [(4, .int .i64 q1.1), (5, .ptr 5 0 0), (20, .agg (enc_Def x1))] [(5, .box 106 [.str x1.Name, .int .i64 x1.Body.Op, .int .i64 x1.Body.N, .str x1.Body.S, .str x1.Body.Key, .vs 5 (encs_Expr x1.Body.Args)]), (13, .map (encM V.str (V.int .i64) q1.2))] (by kernel_rfl) ?_
   refine ov_nil (nrm_thenV (vr_text (o_runs 4 [(24, .int .i64 q1.1), (23, .str x1.Name), (22, .ptr 5 0 0), (21, .mp 13)] (by kernel_rfl) ?_)))
   refine o_loc (F := [(13, .map (encM V.str (V.int .i64) q1.2))]) (F' := [(13, .map (encM V.str (V.int .i64) (mset x1.Name q1.1 q1.2)))]) (v := .no) [13] (by kernel_rfl) (by kernel_rfl) rfl (by kernel_rfl) (loc_mapUpdate (et := 3) (f := V.str) (g := (V.int .i64)) (l := q1.2) (a := x1.Name) (c := q1.1) (by kernel_rfl) kok9 (by kernel_rfl) (by kernel_rfl) (by kernel_rfl) (by kernel_rfl) (by kernel_rfl)) (by kernel_rfl) ?_
   refine ov_nil (nrm_blkV (nrm_thenV (vr_text (o_runs 2 [(16, .int .i64 (w64 (q1.1 + 1))), (25, .int .i64 (w64 (q1.1 + 1)))] (by kernel_rfl) ?_))))
   refine ov_nil (nrm_fuel ((w64 (q1.1 + 1)), (mset x1.Name q1.1 q1.2)) hs ?_)
   exact cut_of [0, 3, 14, 15, 16] [13] (by kernel_rfl) (by kernel_rfl) (by kernel_rfl)
  ·replace hs := bif_f h1 hs
   refine v_exit (exit_thenV (exit_fuel ?_))
   refine exit_blkV ?_
   obtain rfl := si hs
   refine nrm_join q1.2 rfl ?_
   exact cut_of [0, 3] [13] (by kernel_rfl) (by kernel_rfl) (by kernel_rfl)
 ·subst hz; clear hs; have hs := hk1; clear hk1
  refine nrm_thenV (v_seq (vr_text (o_runs 2 [(27, .vs 6 (List.map enc_Def l)), (26, .vs 6 (List.map enc_Def l))] (by kernel_rfl) ?_)))
  refine o_pure (v := .int .i64 (List.length l : Int)) (by kernel_rfl) (by kernel_rfl) (loc_lenVs (sz := 6) (els := (List.map enc_Def l)) (by kernel_rfl) (by kernel_rfl) (List.length_map ..)) ?_
  obtain ⟨_, g2, hs⟩ := bind_some hs; obtain ⟨g2a, g2b, g2c⟩ := grd_some g2
  refine o_loc (F := []) (F' := [(29, .row 45 1 0 (List.map (encL 1 EV.encI) (List.replicate (Int.toNat (List.length l : Int)) ([] : (List Int)))))]) (v := .sl 1 29 (((List.replicate (Int.toNat (List.length l : Int)) ([] : (List Int)))).length) 0 (((List.replicate (Int.toNat (List.length l : Int)) ([] : (List Int)))).length)) [] (by kernel_rfl) (by kernel_rfl) rfl (by kernel_rfl) (loc_makeSliceT (L := ((List.replicate (Int.toNat (List.length l : Int)) ([] : (List Int)))).length) (e := 45) (sz := 1) (bytes := 24) (q := (List.length l : Int)) (k := .i64) (k2 := .i64) (cs := [.nils]) (cs2 := [.vs 1 (List.map EV.encI [])]) (by kernel_rfl) (by kernel_rfl) (by kernel_rfl) (by kernel_rfl) (by kernel_rfl) g2a g2b g2c (List.map_replicate (f := (encL 1 EV.encI))).symm (List.length_replicate ..) (fun _ _ h => nils_row h)) (by kernel_rfl) ?_
  refine o_runh 3 [(6, .ptr 31 0 0), (31, .ptr 31 0 0), (30, .agg [.vs 6 (List.map enc_Def l), .sl 1 29 (((List.replicate (Int.toNat (List.length l : Int)) ([] : (List Int)))).length) 0 (((List.replicate (Int.toNat (List.length l : Int)) ([] : (List Int)))).length)])] [(31, .box 154 [.vs 6 (List.map enc_Def l), .sl 1 29 (((List.replicate (Int.toNat (List.length l : Int)) ([] : (List Int)))).length) 0 (((List.replicate (Int.toNat (List.length l : Int)) ([] : (List Int)))).length)]), (29, .row 45 1 0 (List.map (encL 1 EV.encI) (List.replicate (Int.toNat (List.length l : Int)) ([] : (List Int))))), (13, .map (encM V.str (V.int .i64) v1))] (by kernel_rfl) ?_
  refine ov_nil (nrm_thenV (v_seq (v_seq (vr_text (o_runs 1 [(32, .vs 6 (List.map enc_Def l))] (by kernel_rfl) ?_)))))
  refine o_pure (v := .int .i64 (List.length l : Int)) (by kernel_rfl) (by kernel_rfl) (loc_lenVs (sz := 6) (els := (List.map enc_Def l)) (by kernel_rfl) (by kernel_rfl) (List.length_map ..)) ?_
  refine o_runs 1 [(34, .int .i64 0)] (by kernel_rfl) ?_
  refine ov_nil (nrm_thenV ?_)
  obtain ⟨z2, hs, hk2⟩ := bind_some hs
  refine v_join (S := Unit) (fun u => u = z2) (fun u => [(6, .ptr 31 0 0)]) (fun u => [(31, .box 154 [.vs 6 (List.map enc_Def l), .sl 1 29 (((List.replicate (Int.toNat (List.length l : Int)) ([] : (List Int)))).length) 0 (((List.replicate (Int.toNat (List.length l : Int)) ([] : (List Int)))).length)]), (29, .row 45 1 0 (List.map (encL 1 EV.encI) (List.replicate (Int.toNat (List.length l : Int)) ([] : (List Int)))))]) ?_ (fun v2 hz => ?_)
  ·refine v_block ?_
   refine v_fuel (S := Int) (fun u => [(3, .mp 13), (6, .ptr 31 0 0), (32, .vs 6 (List.map enc_Def l)), (33, .int .i64 (List.length l : Int)), (34, .int .i64 u)]) (fun u => [(31, .box 154 [.vs 6 (List.map enc_Def l), .sl 1 29 (((List.replicate (Int.toNat (List.length l : Int)) ([] : (List Int)))).length) 0 (((List.replicate (Int.toNat (List.length l : Int)) ([] : (List Int)))).length)]), (29, .row 45 1 0 (List.map (encL 1 EV.encI) (List.replicate (Int.toNat (List.length l : Int)) ([] : (List Int))))), (13, .map (encM V.str (V.int .i64) v1))]) (s_define_newGraph_L2 l v1) (fun _ => rfl) KK 0 hs (cut_of [3, 6, 32, 33, 34] [31, 29, 13] (by kernel_rfl) (by kernel_rfl) (by kernel_rfl)) (fun K2 q2 hs => ?_)
   rw [s_define_newGraph_L2] at hs
   show WpV cK0 Tryz.prog none 73 _ _ [(3, .mp 13), (6, .ptr 31 0 0), (32, .vs 6 (List.map enc_Def l)), (33, .int .i64 (List.length l : Int)), (34, .int .i64 q2)] [(31, .box 154 [.vs 6 (List.map enc_Def l), .sl 1 29 (((List.replicate (Int.toNat (List.length l : Int)) ([] : (List Int)))).length) 0 (((List.replicate (Int.toNat (List.length l : Int)) ([] : (List Int)))).length)]), (29, .row 45 1 0 (List.map (encL 1 EV.encI) (List.replicate (Int.toNat (List.length l : Int)) ([] : (List Int))))), (13, .map (encM V.str (V.int .i64) v1))] []
   refine v_seq (vr_text (o_runs 1 [(35, .bool (decide (q2 < (List.length l : Int))))] (by kernel_rfl) ?_))
   refine ov_nil (nrm_thenV (v_seq ?_))
   refine v_cond (decide (q2 < (List.length l : Int))) (by kernel_rfl) (fun h2 => ?_) (fun h2 => ?_)
   ·replace hs := bif_t h2 hs
    refine v_skip (nrm_thenV (v_seq (v_block (v_seq (vr_text (o_runs 1 [(36, .int .i64 q2)] (by kernel_rfl) ?_))))))
    obtain ⟨x2, g3, hs⟩ := bind_some hs; obtain ⟨g3a, g3b, g3c⟩ := idx_some g3
    refine o_pure (v := .vp (enc_Def x2) 0) (by kernel_rfl) (by kernel_rfl) (loc_indexVs (e := 106) (sz := 6) (k := .i64) (els := (List.map enc_Def l)) (cs := (enc_Def x2)) (by kernel_rfl) (by kernel_rfl) (by kernel_rfl) g3a (by rw [g3c]; exact map_get _ (by omega))) ?_
    refine o_runh 4 [(7, .int .i64 q2), (8, .ptr 8 0 0), (38, .agg (enc_Def x2))] [(8, .box 106 [.str x2.Name, .int .i64 x2.Body.Op, .int .i64 x2.Body.N, .str x2.Body.S, .str x2.Body.Key, .vs 5 (encs_Expr x2.Body.Args)]), (31, .box 154 [.vs 6 (List.map enc_Def l), .sl 1 29 (((List.replicate (Int.toNat (List.length l : Int)) ([] : (List Int)))).length) 0 (((List.replicate (Int.toNat (List.length l : Int)) ([] : (List Int)))).length)]), (29, .row 45 1 0 (List.map (encL 1 EV.encI) (List.replicate (Int.toNat (List.length l : Int)) ([] : (List Int))))), (13, .map (encM V.str (V.int .i64) v1))] (by kernel_rfl) ?_
    refine ov_nil (nrm_thenV (v_seq (vr_text (o_runs 2 [(40, .agg (enc_Expr x2.Body)), (39, .ptr 8 0 1)] (by kernel_rfl) ?_))))
    obtain ⟨y1, c1, hs⟩ := bind_some hs
    refine o_pure (v := .vs 1 (List.map EV.encS y1)) (by kernel_rfl) (by kernel_rfl) (loc_gcall0 (callV_func hbv19 (by kernel_rfl)) (w_define_Names x2.Body _ c1) (by kernel_rfl)) ?_
    refine o_pure (v := .int .i64 (List.length y1 : Int)) (by kernel_rfl) (by kernel_rfl) (loc_lenVs (sz := 1) (els := (List.map EV.encS y1)) (by kernel_rfl) (by kernel_rfl) (List.length_map ..)) ?_
    refine o_runs 1 [(43, .int .i64 0)] (by kernel_rfl) ?_
    refine ov_nil (nrm_thenV ?_)
    obtain ⟨z3, hs, hk3⟩ := bind_some hs
    refine v_join (S := Unit) (fun u => u = z3) (fun u => [(3, .mp 13), (6, .ptr 31 0 0), (32, .vs 6 (List.map enc_Def l)), (33, .int .i64 (List.length l : Int)), (34, .int .i64 q2)]) (fun u => [(31, .box 154 [.vs 6 (List.map enc_Def l), .sl 1 29 (((List.replicate (Int.toNat (List.length l : Int)) ([] : (List Int)))).length) 0 (((List.replicate (Int.toNat (List.length l : Int)) ([] : (List Int)))).length)]), (29, .row 45 1 0 (List.map (encL 1 EV.encI) (List.replicate (Int.toNat (List.length l : Int)) ([] : (List Int))))), (13, .map (encM V.str (V.int .i64) v1))]) ?_ (fun v3 hz => ?_)
    ·refine v_block ?_
     refine v_fuel (S := Int) (fun u => [(3, .mp 13), (6, .ptr 31 0 0), (7, .int .i64 q2), (32, .vs 6 (List.map enc_Def l)), (33, .int .i64 (List.length l : Int)), (34, .int .i64 q2), (41, .vs 1 (List.map EV.encS y1)), (42, .int .i64 (List.length y1 : Int)), (43, .int .i64 u)]) (fun u => [(31, .box 154 [.vs 6 (List.map enc_Def l), .sl 1 29 (((List.replicate (Int.toNat (List.length l : Int)) ([] : (List Int)))).length) 0 (((List.replicate (Int.toNat (List.length l : Int)) ([] : (List Int)))).length)]), (29, .row 45 1 0 (List.map (encL 1 EV.encI) (List.replicate (Int.toNat (List.length l : Int)) ([] : (List Int))))), (13, .map (encM V.str (V.int .i64) v1))]) (s_define_newGraph_L3 v1 y1) (fun _ => rfl) KK 0 hs (cut_of [3, 6, 7, 32, 33, 34, 41, 42, 43] [31, 29, 13] (by kernel_rfl) (by kernel_rfl) (by kernel_rfl)) (fun K3 q3 hs => ?_)
     rw [s_define_newGraph_L3] at hs
     show WpV cK0 Tryz.prog none 73 _ _ [(3, .mp 13), (6, .ptr 31 0 0), (7, .int .i64 q2), (32, .vs 6 (List.map enc_Def l)), (33, .int .i64 (List.length l : Int)), (34, .int .i64 q2), (41, .vs 1 (List.map EV.encS y1)), (42, .int .i64 (List.length y1 : Int)), (43, .int .i64 q3)] [(31, .box 154 [.vs 6 (List.map enc_Def l), .sl 1 29 (((List.replicate (Int.toNat (List.length l : Int)) ([] : (List Int)))).length) 0 (((List.replicate (Int.toNat (List.length l : Int)) ([] : (List Int)))).length)]), (29, .row 45 1 0 (List.map (encL 1 EV.encI) (List.replicate (Int.toNat (List.length l : Int)) ([] : (List Int))))), (13, .map (encM V.str (V.int .i64) v1))] []
     refine v_seq (vr_text (o_runs 1 [(44, .bool (decide (q3 < (List.length y1 : Int))))] (by kernel_rfl) ?_))
     refine ov_nil (nrm_thenV (v_seq ?_))
     refine v_cond (decide (q3 < (List.length y1 : Int))) (by kernel_rfl) (fun h3 => ?_) (fun h3 => ?_)
     ·replace hs := bif_t h3 hs
      refine v_skip (nrm_thenV (v_seq (v_block (v_seq (vr_text ?_)))))
      obtain ⟨x3, g4, hs⟩ := bind_some hs; obtain ⟨g4a, g4b, g4c⟩ := idx_some g4
      refine o_pure (v := .vp [.str x3] 0) (by kernel_rfl) (by kernel_rfl) (loc_indexVs (e := 9) (sz := 1) (k := .i64) (els := (List.map EV.encS y1)) (cs := (EV.encS x3)) (by kernel_rfl) (by kernel_rfl) (by kernel_rfl) g4a (by rw [g4c]; exact map_get _ (by omega))) ?_
      refine o_runs 2 [(10, .str x3), (46, .str x3)] (by kernel_rfl) ?_
      refine ov_nil (nrm_thenV (v_seq (vr_text (o_runs 2 [(49, .str x3), (48, .mp 13)] (by kernel_rfl) ?_))))
      refine o_loc (F := [(13, .map (encM V.str (V.int .i64) v1))]) (F' := [(13, .map (encM V.str (V.int .i64) v1))]) (v := .tup [.int .i64 (Option.getD (mfind x3 v1) 0), .bool (Option.isSome (mfind x3 v1))]) [13] (by kernel_rfl) (by kernel_rfl) rfl (by kernel_rfl) (loc_lookup (et := 3) (f := V.str) (g := (V.int .i64)) (l := v1) (a := x3) (z := 0) (zv := .int .i64 0) true (by kernel_rfl) kok9 (by kernel_rfl) (fun _ _ _ h => h) (by kernel_rfl) (by kernel_rfl)) (by kernel_rfl) ?_
      refine o_runs 5 [(12, .bool (Option.isSome (mfind x3 v1))), (11, .int .i64 (Option.getD (mfind x3 v1) 0)), (52, .bool (Option.isSome (mfind x3 v1))), (51, .int .i64 (Option.getD (mfind x3 v1) 0)), (47, .tup [.int .i64 (Option.getD (mfind x3 v1) 0), .bool (Option.isSome (mfind x3 v1))])] (by kernel_rfl) ?_
      refine ov_nil (nrm_thenV (v_seq (vr_text (o_runs 1 [(53, .bool (Option.isSome (mfind x3 v1)))] (by kernel_rfl) ?_))))
      refine ov_nil (nrm_thenV ?_)
      refine v_cond (Option.isSome (mfind x3 v1)) (by kernel_rfl) (fun h4 => ?_) (fun h4 => ?_)
      ·replace hs := bif_t h4 hs
       cases hs
      ·replace hs := bif_f h4 hs
       refine v_skip (nrm_blkV (nrm_thenV (vr_text (o_runs 2 [(43, .int .i64 (w64 (q3 + 1))), (70, .int .i64 (w64 (q3 + 1)))] (by kernel_rfl) ?_))))
       refine ov_nil (nrm_fuel (w64 (q3 + 1)) hs ?_)
       exact cut_of [3, 6, 7, 32, 33, 34, 41, 42, 43] [31, 29, 13] (by kernel_rfl) (by kernel_rfl) (by kernel_rfl)
     ·replace hs := bif_f h3 hs
      refine v_exit (exit_thenV (exit_fuel ?_))
      refine exit_blkV ?_
      obtain rfl := si hs
      refine nrm_join () rfl ?_
      exact cut_of [3, 6, 32, 33, 34] [31, 29, 13] (by kernel_rfl) (by kernel_rfl) (by kernel_rfl)
    ·subst hz; clear hs; have hs := hk3; clear hk3
     refine nrm_blkV (nrm_thenV (vr_text (o_runs 2 [(34, .int .i64 (w64 (q2 + 1))), (71, .int .i64 (w64 (q2 + 1)))] (by kernel_rfl) ?_)))
     refine ov_nil (nrm_fuel (w64 (q2 + 1)) hs ?_)
     exact cut_of [3, 6, 32, 33, 34] [31, 29, 13] (by kernel_rfl) (by kernel_rfl) (by kernel_rfl)
   ·replace hs := bif_f h2 hs
    refine v_exit (exit_thenV (exit_fuel ?_))
    refine exit_blkV ?_
    obtain rfl := si hs
    refine nrm_join () rfl ?_
    exact cut_of [6] [31, 29] (by kernel_rfl) (by kernel_rfl) (by kernel_rfl)
  ·subst hz; clear hs; have hs := hk2; clear hk2
   refine nrm_thenV (v_seq (vr_text (o_runs 2 [(2, .ptr 31 0 0), (72, .ptr 31 0 0)] (by kernel_rfl) ?_)))
   refine ov_nil (nrm_thenV (v_ret ?_))
   obtain rfl := si hs
   exact fin_ret (by kernel_rfl) (by kernel_rfl) (by kernel_rfl)
theorem w_define_graph_smallest (g_defs : (List Def)) (g_uses : (List (List Int))) (r : (List Def) × (List (List Int))) (hs : s_define_graph_smallest g_defs g_uses = some r) : FnA Tryz.prog 94 [.ptr 1000000 0 0] [(1000000, .box 154 [.vs 6 (List.map enc_Def g_defs), .sl 1 1000001 ((g_uses).length) 0 ((g_uses).length)]), (1000001, .row 45 1 0 (List.map (encL 1 EV.encI) g_uses))] (.nils) [(1000000, .box 154 [.vs 6 (List.map enc_Def r.1), .sl 1 1000001 ((r.2).length) 0 ((r.2).length)]), (1000001, .row 45 1 0 (List.map (encL 1 EV.encI) r.2))] := by
 refine fnA_of_wp (N := 44) Tryz.func94 rfl rfl rfl fun cK0 => ?_
 unfold s_define_graph_smallest at hs
 refine v_same (ρ' := [(0, .ptr 1000000 0 0)]) rfl rfl ?_
 refine v_seq (vr_text (o_runs 1 [(2, .nils)] (by kernel_rfl) ?_))
 refine ov_nil (nrm_thenV (v_seq (vr_text (o_runs 1 [(3, .nils)] (by kernel_rfl) ?_))))
 refine ov_nil (nrm_thenV (v_seq (v_seq (vr_text (o_runs 4 [(9, .vs 6 (List.map enc_Def g_defs)), (8, .ptr 1000000 0 0), (7, .ptr 1000000 0 0), (6, .ptr 1000000 0 0)] (by kernel_rfl) ?_)))))
 refine o_pure (v := .int .i64 (List.length g_defs : Int)) (by kernel_rfl) (by kernel_rfl) (loc_lenVs (sz := 6) (els := (List.map enc_Def g_defs)) (by kernel_rfl) (by kernel_rfl) (List.length_map ..)) ?_
 refine o_runs 1 [(11, .int .i64 0)] (by kernel_rfl) ?_
 refine ov_nil (nrm_thenV ?_)
 obtain ⟨z1, hs, hk1⟩ := bind_some hs
 refine v_join (S := Unit) (fun u => u = z1) (fun u => [(3, .nils)]) (fun u => [(1000000, .box 154 [.vs 6 (List.map enc_Def g_defs), .sl 1 1000001 ((g_uses).length) 0 ((g_uses).length)]), (1000001, .row 45 1 0 (List.map (encL 1 EV.encI) g_uses))]) ?_ (fun v1 hz => ?_)
 ·refine v_block ?_
  refine v_fuel (S := Unit) (fun u => [(0, .ptr 1000000 0 0), (3, .nils), (10, .int .i64 (List.length g_defs : Int)), (11, .int .i64 0)]) (fun u => [(1000000, .box 154 [.vs 6 (List.map enc_Def g_defs), .sl 1 1000001 ((g_uses).length) 0 ((g_uses).length)]), (1000001, .row 45 1 0 (List.map (encL 1 EV.encI) g_uses))]) (s_define_graph_smallest_L1 g_defs) (fun _ => rfl) KK () hs (cut_of [0, 3, 10, 11] [1000000, 1000001] (by kernel_rfl) (by kernel_rfl) (by kernel_rfl)) (fun K1 q1 hs => ?_)
  rw [s_define_graph_smallest_L1] at hs
  show WpV cK0 Tryz.prog none 44 _ _ [(0, .ptr 1000000 0 0), (3, .nils), (10, .int .i64 (List.length g_defs : Int)), (11, .int .i64 0)] [(1000000, .box 154 [.vs 6 (List.map enc_Def g_defs), .sl 1 1000001 ((g_uses).length) 0 ((g_uses).length)]), (1000001, .row 45 1 0 (List.map (encL 1 EV.encI) g_uses))] []
  refine v_seq (vr_text (o_runs 1 [(12, .bool (decide (0 < (List.length g_defs : Int))))] (by kernel_rfl) ?_))
  refine ov_nil (nrm_thenV (v_seq ?_))
  refine v_cond (decide (0 < (List.length g_defs : Int))) (by kernel_rfl) (fun h1 => ?_) (fun h1 => ?_)
  ·replace hs := bif_t h1 hs
   cases hs
  ·replace hs := bif_f h1 hs
   refine v_exit (exit_thenV (exit_fuel ?_))
   refine exit_blkV ?_
   obtain rfl := si hs
   refine nrm_join () rfl ?_
   exact cut_of [3] [1000000, 1000001] (by kernel_rfl) (by kernel_rfl) (by kernel_rfl)
 ·subst hz; clear hs; have hs := hk1; clear hk1
  refine nrm_thenV (v_seq (vr_text (o_runs 2 [(2, .nils), (43, .nils)] (by kernel_rfl) ?_)))
  refine ov_nil (nrm_thenV (v_ret ?_))
  obtain rfl := si hs
  exact fin_ret (by kernel_rfl) (by kernel_rfl) (by kernel_rfl)
theorem w_define_graph_order_1 (k : Int) (a1 : (List Bool)) (r : Bool × (List Bool)) (hs : s_define_graph_order_1 k a1 = some r) : FnA Tryz.prog 117 [.int .i64 k, .ptr 1000000 0 0] [(1000000, .box 143 [.sl 1 1000001 ((a1).length) 0 ((a1).length)]), (1000001, .row 4 1 0 (List.map EV.encB a1))] (.bool r.1) [(1000001, .row 4 1 0 (List.map EV.encB r.2)), (1000000, .box 143 [.sl 1 1000001 ((r.2).length) 0 ((r.2).length)])] := by
 refine fnA_of_wp (N := 9) Tryz.func117 rfl rfl rfl fun cK0 => ?_
 unfold s_define_graph_order_1 at hs
 refine v_same (ρ' := [(0, .int .i64 k), (1, .ptr 1000000 0 0)]) rfl rfl ?_
 refine v_seq (vr_text (o_runs 1 [(3, .bool false)] (by kernel_rfl) ?_))
 refine ov_nil (nrm_thenV (v_seq (vr_text (o_runs 2 [(5, .int .i64 k), (4, .sl 1 1000001 ((a1).length) 0 ((a1).length))] (by kernel_rfl) ?_))))
 obtain ⟨_, g1, hs⟩ := bind_some hs; obtain ⟨g1a, g1b⟩ := grd_some g1
 refine o_pure (v := .ptr 1000001 ((a1).length) ((Int.toNat k) * 1 + 0)) (by kernel_rfl) (by kernel_rfl) (loc_indexRowT (e := 4) (sz := 1) (kk := 1000001) (L := (a1).length) (n := (a1).length) (k := .i64) (i := k) (by kernel_rfl) (by kernel_rfl) (by kernel_rfl) g1a g1b) ?_
 obtain ⟨e1, he1, hs⟩ := bind_some hs; replace he1 := Option.some.inj he1
 refine o_loc (F := [(1000001, .row 4 1 0 (List.map EV.encB a1))]) (F' := [(1000001, .row 4 1 0 (List.map EV.encB a1))]) (v := .bool e1) [1000001] (by kernel_rfl) (by kernel_rfl) rfl (by kernel_rfl) (loc_loadRow (L := (a1).length) (off := (Int.toNat k) * 1 + 0) (els := (List.map EV.encB a1)) (cs := [.bool e1]) (Int.toNat k) 0 (by kernel_rfl) (by first | (simp only [List.length_map, List.length_set]; done) | rfl) rfl (by rw [← he1]; exact map_get _ (by first | omega | (simp only [List.length_set]; omega))) (by kernel_rfl)) (by kernel_rfl) ?_
 refine o_runs 2 [(3, .bool (!e1)), (8, .bool (!e1))] (by kernel_rfl) ?_
 refine ov_nil (nrm_thenV (v_ret ?_))
 obtain rfl := si hs
 exact fin_ret (by kernel_rfl) (by kernel_rfl) (by kernel_rfl)
theorem w_slices_IndexFunc (s : (List Int)) (k : (List Bool)) (r : Int × (List Bool)) (hs : s_slices_IndexFunc s k = some r) : FnA Tryz.prog 123 [.vs 1 (List.map EV.encI s), .fn 117 [] [.ptr 1000000 0 0]] [(1000000, .box 143 [.sl 1 1000001 ((k).length) 0 ((k).length)]), (1000001, .row 4 1 0 (List.map EV.encB k))] (.int .i64 r.1) [(1000001, .row 4 1 0 (List.map EV.encB r.2)), (1000000, .box 143 [.sl 1 1000001 ((r.2).length) 0 ((r.2).length)])] := by
 refine fnA_of_wp (N := 19) Tryz.func123 rfl rfl rfl fun cK0 => ?_
 unfold s_slices_IndexFunc at hs
 refine v_same (ρ' := [(0, .vs 1 (List.map EV.encI s)), (1, .fn 117 [] [.ptr 1000000 0 0])]) rfl rfl ?_
 refine v_seq (vr_text (o_runs 1 [(4, .int .i64 0)] (by kernel_rfl) ?_))
 refine ov_nil (nrm_thenV (v_seq (v_seq (vr_text (o_runs 1 [(6, .vs 1 (List.map EV.encI s))] (by kernel_rfl) ?_)))))
 refine o_pure (v := .int .i64 (List.length s : Int)) (by kernel_rfl) (by kernel_rfl) (loc_lenVs (sz := 1) (els := (List.map EV.encI s)) (by kernel_rfl) (by kernel_rfl) (List.length_map ..)) ?_
 refine o_runs 1 [(8, .int .i64 0)] (by kernel_rfl) ?_
 refine ov_nil (nrm_thenV ?_)
 obtain ⟨z1, hs, hk1⟩ := bind_some hs
 refine v_join (S := (List Bool)) (fun u => z1 = .inr u) (fun u => []) (fun u => [(1000000, .box 143 [.sl 1 1000001 ((u).length) 0 ((u).length)]), (1000001, .row 4 1 0 (List.map EV.encB u))]) ?_ (fun v1 hz => ?_)
 ·refine v_block ?_
  refine v_fuel (S := Int × (List Bool)) (fun u => [(0, .vs 1 (List.map EV.encI s)), (1, .fn 117 [] [.ptr 1000000 0 0]), (7, .int .i64 (List.length s : Int)), (8, .int .i64 u.1)]) (fun u => [(1000000, .box 143 [.sl 1 1000001 ((u.2).length) 0 ((u.2).length)]), (1000001, .row 4 1 0 (List.map EV.encB u.2))]) (s_slices_IndexFunc_L1 s) (fun _ => rfl) KK (0, k) hs (cut_of [0, 1, 7, 8] [1000000, 1000001] (by kernel_rfl) (by kernel_rfl) (by kernel_rfl)) (fun K1 q1 hs => ?_)
  rw [s_slices_IndexFunc_L1] at hs
  show WpV cK0 Tryz.prog none 19 _ _ [(0, .vs 1 (List.map EV.encI s)), (1, .fn 117 [] [.ptr 1000000 0 0]), (7, .int .i64 (List.length s : Int)), (8, .int .i64 q1.1)] [(1000000, .box 143 [.sl 1 1000001 ((q1.2).length) 0 ((q1.2).length)]), (1000001, .row 4 1 0 (List.map EV.encB q1.2))] []
  refine v_seq (vr_text (o_runs 1 [(9, .bool (decide (q1.1 < (List.length s : Int))))] (by kernel_rfl) ?_))
  refine ov_nil (nrm_thenV (v_seq ?_))
  refine v_cond (decide (q1.1 < (List.length s : Int))) (by kernel_rfl) (fun h1 => ?_) (fun h1 => ?_)
  ·replace hs := bif_t h1 hs
   refine v_skip (nrm_thenV (v_seq (v_block (v_seq (vr_text (o_runs 2 [(5, .int .i64 q1.1), (10, .int .i64 q1.1)] (by kernel_rfl) ?_))))))
   refine ov_nil (nrm_thenV (v_seq (vr_text (o_runs 3 [(13, .int .i64 q1.1), (12, .vs 1 (List.map EV.encI s)), (11, .fn 117 [] [.ptr 1000000 0 0])] (by kernel_rfl) ?_))))
   obtain ⟨x1, g1, hs⟩ := bind_some hs; obtain ⟨g1a, g1b, g1c⟩ := idx_some g1
   refine o_pure (v := .vp [.int .i64 x1] 0) (by kernel_rfl) (by kernel_rfl) (loc_indexVs (e := 3) (sz := 1) (k := .i64) (els := (List.map EV.encI s)) (cs := (EV.encI x1)) (by kernel_rfl) (by kernel_rfl) (by kernel_rfl) g1a (by rw [g1c]; exact map_get _ (by omega))) ?_
   refine o_runs 1 [(15, .int .i64 x1)] (by kernel_rfl) ?_
   obtain ⟨y1, c1, hs⟩ := bind_some hs
   refine o_loc (F := [(1000000, .box 143 [.sl 1 1000001 ((q1.2).length) 0 ((q1.2).length)]), (1000001, .row 4 1 0 (List.map EV.encB q1.2))]) (F' := [(1000001, .row 4 1 0 (List.map EV.encB y1.2)), (1000000, .box 143 [.sl 1 1000001 ((y1.2).length) 0 ((y1.2).length)])]) (v := .bool y1.1) [1000000, 1000001] (by kernel_rfl) (by kernel_rfl) rfl (by kernel_rfl) (loc_g (R := []) [.int .i64 x1, .ptr 1000000 0 0] [(1000000, 1000000), (1000001, 1000001)] (callV_val (first := []) (caps := [.ptr 1000000 0 0]) hbv117 (by kernel_rfl) (by kernel_rfl)) (w_define_graph_order_1 x1 q1.2 _ c1) (.cons (.same _) (.cons (.same _) (.nil))) (by kernel_rfl) (by kernel_rfl) (by kernel_rfl) (by kernel_rfl) (by kernel_rfl) (by kernel_rfl) (by kernel_rfl) (by kernel_rfl)) (by kernel_rfl) ?_
   refine ov_nil (nrm_thenV ?_)
   refine v_cond y1.1 (by kernel_rfl) (fun h2 => ?_) (fun h2 => ?_)
   ·replace hs := bif_t h2 hs
    refine v_seq (vr_text (o_runs 2 [(4, .int .i64 q1.1), (17, .int .i64 q1.1)] (by kernel_rfl) ?_))
    refine ov_nil (nrm_thenV (v_ret (ret_blkV (ret_thenV (ret_fuel ?_)))))
    refine ret_blkV (ret_join ?_)
    refine ret_thenV ?_
    obtain rfl := si hs
    replace hs := hk1
    obtain rfl := si hs
    exact fin_ret (by kernel_rfl) (by kernel_rfl) (by kernel_rfl)
   ·replace hs := bif_f h2 hs
    refine v_skip (nrm_blkV (nrm_thenV (vr_text (o_runs 2 [(8, .int .i64 (w64 (q1.1 + 1))), (18, .int .i64 (w64 (q1.1 + 1)))] (by kernel_rfl) ?_))))
    refine ov_nil (nrm_fuel ((w64 (q1.1 + 1)), y1.2) hs ?_)
    exact cut_of [0, 1, 7, 8] [1000000, 1000001] (by kernel_rfl) (by kernel_rfl) (by kernel_rfl)
  ·replace hs := bif_f h1 hs
   refine v_exit (exit_thenV (exit_fuel ?_))
   refine exit_blkV ?_
   obtain rfl := si hs
   refine nrm_join q1.2 rfl ?_
   exact cut_of [] [1000000, 1000001] (by kernel_rfl) (by kernel_rfl) (by kernel_rfl)
 ·subst hz; clear hs; have hs := hk1; clear hk1
  refine nrm_thenV (v_seq (vr_text (o_runs 1 [(4, .int .i64 (-1))] (by kernel_rfl) ?_)))
  refine ov_nil (nrm_thenV (v_ret ?_))
  obtain rfl := si hs
  exact fin_ret (by kernel_rfl) (by kernel_rfl) (by kernel_rfl)
theorem w_slices_ContainsFunc (s : (List Int)) (k : (List Bool)) (r : Bool × (List Bool)) (hs : s_slices_ContainsFunc s k = some r) : FnA Tryz.prog 116 [.vs 1 (List.map EV.encI s), .fn 117 [] [.ptr 1000000 0 0]] [(1000000, .box 143 [.sl 1 1000001 ((k).length) 0 ((k).length)]), (1000001, .row 4 1 0 (List.map EV.encB k))] (.bool r.1) [(1000001, .row 4 1 0 (List.map EV.encB r.2)), (1000000, .box 143 [.sl 1 1000001 ((r.2).length) 0 ((r.2).length)])] := by
 refine fnA_of_wp (N := 9) Tryz.func116 rfl rfl rfl fun cK0 => ?_
 unfold s_slices_ContainsFunc at hs
 refine v_same (ρ' := [(0, .vs 1 (List.map EV.encI s)), (1, .fn 117 [] [.ptr 1000000 0 0])]) rfl rfl ?_
 refine v_seq (vr_text (o_runs 1 [(4, .bool false)] (by kernel_rfl) ?_))
 refine ov_nil (nrm_thenV (v_seq (vr_text (o_runs 2 [(6, .fn 117 [] [.ptr 1000000 0 0]), (5, .vs 1 (List.map EV.encI s))] (by kernel_rfl) ?_))))
 obtain ⟨y1, c1, hs⟩ := bind_some hs
 refine o_loc (F := [(1000000, .box 143 [.sl 1 1000001 ((k).length) 0 ((k).length)]), (1000001, .row 4 1 0 (List.map EV.encB k))]) (F' := [(1000001, .row 4 1 0 (List.map EV.encB y1.2)), (1000000, .box 143 [.sl 1 1000001 ((y1.2).length) 0 ((y1.2).length)])]) (v := .int .i64 y1.1) [1000000, 1000001] (by kernel_rfl) (by kernel_rfl) rfl (by kernel_rfl) (loc_g (R := []) [.vs 1 (List.map EV.encI s), .fn 117 [] [.ptr 1000000 0 0]] [(1000000, 1000000), (1000001, 1000001)] (callV_func hbv123 (by kernel_rfl)) (w_slices_IndexFunc s k _ c1) (.cons (.same _) (.cons (.same _) (.nil))) (by kernel_rfl) (by kernel_rfl) (by kernel_rfl) (by kernel_rfl) (by kernel_rfl) (by kernel_rfl) (by kernel_rfl) (by kernel_rfl)) (by kernel_rfl) ?_
 refine o_runs 2 [(4, .bool (decide (y1.1 ≥ 0))), (8, .bool (decide (y1.1 ≥ 0)))] (by kernel_rfl) ?_
 refine ov_nil (nrm_thenV (v_ret ?_))
 obtain rfl := si hs
 exact fin_ret (by kernel_rfl) (by kernel_rfl) (by kernel_rfl)
theorem w_define_graph_order (g_defs : (List Def)) (g_uses : (List (List Int))) (r : (List Int) × (List Def) × (List (List Int))) (hs : s_define_graph_order g_defs g_uses = some r) : FnA Tryz.prog 95 [.ptr 1000000 0 0] [(1000000, .box 154 [.vs 6 (List.map enc_Def g_defs), .sl 1 1000001 ((g_uses).length) 0 ((g_uses).length)]), (1000001, .row 45 1 0 (List.map (encL 1 EV.encI) g_uses))] (.vs 1 (List.map EV.encI r.1)) [(1000000, .box 154 [.vs 6 (List.map enc_Def r.2.1), .sl 1 1000001 ((r.2.2).length) 0 ((r.2.2).length)]), (1000001, .row 45 1 0 (List.map (encL 1 EV.encI) r.2.2))] := by
 refine fnA_of_wp (N := 78) Tryz.func95 rfl rfl rfl fun cK0 => ?_
 unfold s_define_graph_order at hs
 refine v_same (ρ' := [(0, .ptr 1000000 0 0)]) rfl rfl ?_
 refine v_seq (vr_text (o_runs 1 [(2, .nils)] (by kernel_rfl) ?_))
 refine ov_nil (nrm_thenV (v_seq (vr_text (o_runs 4 [(12, .vs 6 (List.map enc_Def g_defs)), (11, .ptr 1000000 0 0), (10, .ptr 1000000 0 0), (9, .ptr 1000000 0 0)] (by kernel_rfl) ?_))))
 refine o_pure (v := .int .i64 (List.length g_defs : Int)) (by kernel_rfl) (by kernel_rfl) (loc_lenVs (sz := 6) (els := (List.map enc_Def g_defs)) (by kernel_rfl) (by kernel_rfl) (List.length_map ..)) ?_
 obtain ⟨_, g1, hs⟩ := bind_some hs; obtain ⟨g1a, g1b, g1c⟩ := grd_some g1
 refine o_loc (F := []) (F' := [(14, .row 4 1 0 (List.map EV.encB (List.replicate (Int.toNat (List.length g_defs : Int)) (false : Bool))))]) (v := .sl 1 14 (((List.replicate (Int.toNat (List.length g_defs : Int)) (false : Bool))).length) 0 (((List.replicate (Int.toNat (List.length g_defs : Int)) (false : Bool))).length)) [] (by kernel_rfl) (by kernel_rfl) rfl (by kernel_rfl) (loc_makeSliceT (L := ((List.replicate (Int.toNat (List.length g_defs : Int)) (false : Bool))).length) (e := 4) (sz := 1) (bytes := 1) (q := (List.length g_defs : Int)) (k := .i64) (k2 := .i64) (cs := [.bool false]) (cs2 := [.bool false]) (by kernel_rfl) (by kernel_rfl) (by kernel_rfl) (by kernel_rfl) (by kernel_rfl) g1a g1b g1c (List.map_replicate (f := EV.encB)).symm (List.length_replicate ..) (fun _ _ h => h)) (by kernel_rfl) ?_
 refine o_runh 2 [(3, .ptr 3 0 0)] [(3, .box 143 [.sl 1 14 (((List.replicate (Int.toNat (List.length g_defs : Int)) (false : Bool))).length) 0 (((List.replicate (Int.toNat (List.length g_defs : Int)) (false : Bool))).length)]), (14, .row 4 1 0 (List.map EV.encB (List.replicate (Int.toNat (List.length g_defs : Int)) (false : Bool)))), (1000000, .box 154 [.vs 6 (List.map enc_Def g_defs), .sl 1 1000001 ((g_uses).length) 0 ((g_uses).length)]), (1000001, .row 45 1 0 (List.map (encL 1 EV.encI) g_uses))] (by kernel_rfl) ?_
 refine ov_nil (nrm_thenV (v_seq (vr_text (o_runs 1 [(4, .nils)] (by kernel_rfl) ?_))))
 refine ov_nil (nrm_thenV (v_seq (v_seq (vr_text (o_runs 4 [(18, .vs 6 (List.map enc_Def g_defs)), (17, .ptr 1000000 0 0), (16, .ptr 1000000 0 0), (15, .ptr 1000000 0 0)] (by kernel_rfl) ?_)))))
 refine o_pure (v := .int .i64 (List.length g_defs : Int)) (by kernel_rfl) (by kernel_rfl) (loc_lenVs (sz := 6) (els := (List.map enc_Def g_defs)) (by kernel_rfl) (by kernel_rfl) (List.length_map ..)) ?_
 refine o_runs 1 [(20, .int .i64 0)] (by kernel_rfl) ?_
 refine ov_nil (nrm_thenV ?_)
 obtain ⟨z1, hs, hk1⟩ := bind_some hs
 refine v_join (S := (List Int)) (fun u => u = z1) (fun u => [(4, .sl 1 2000072 ((u).length) 0 ((u).length))]) (fun u => [(1000000, .box 154 [.vs 6 (List.map enc_Def g_defs), .sl 1 1000001 ((g_uses).length) 0 ((g_uses).length)]), (1000001, .row 45 1 0 (List.map (encL 1 EV.encI) g_uses)), (2000072, .row 3 1 0 (List.map EV.encI u))]) ?_ (fun v1 hz => ?_)
 ·refine v_block ?_
  refine v_fuel (S := Int × (List Bool) × (List Int)) (fun u => [(0, .ptr 1000000 0 0), (3, .ptr 3 0 0), (4, .sl 1 2000072 ((u.2.2).length) 0 ((u.2.2).length)), (19, .int .i64 (List.length g_defs : Int)), (20, .int .i64 u.1)]) (fun u => [(3, .box 143 [.sl 1 14 ((u.2.1).length) 0 ((u.2.1).length)]), (14, .row 4 1 0 (List.map EV.encB u.2.1)), (1000000, .box 154 [.vs 6 (List.map enc_Def g_defs), .sl 1 1000001 ((g_uses).length) 0 ((g_uses).length)]), (1000001, .row 45 1 0 (List.map (encL 1 EV.encI) g_uses)), (2000072, .row 3 1 0 (List.map EV.encI u.2.2))]) (s_define_graph_order_L1 g_defs g_uses) (fun _ => rfl) KK (0, (List.replicate (Int.toNat (List.length g_defs : Int)) (false : Bool)), []) hs (Cut.trans (cut_nilRow 4 2000072 3 1 rfl (by kernel_rfl) (by kernel_rfl)) (cut_of [0, 3, 4, 19, 20] [3, 14, 1000000, 1000001, 2000072] (by kernel_rfl) (by kernel_rfl) (by kernel_rfl))) (fun K1 q1 hs => ?_)
  rw [s_define_graph_order_L1] at hs
  show WpV cK0 Tryz.prog none 78 _ _ [(0, .ptr 1000000 0 0), (3, .ptr 3 0 0), (4, .sl 1 2000072 ((q1.2.2).length) 0 ((q1.2.2).length)), (19, .int .i64 (List.length g_defs : Int)), (20, .int .i64 q1.1)] [(3, .box 143 [.sl 1 14 ((q1.2.1).length) 0 ((q1.2.1).length)]), (14, .row 4 1 0 (List.map EV.encB q1.2.1)), (1000000, .box 154 [.vs 6 (List.map enc_Def g_defs), .sl 1 1000001 ((g_uses).length) 0 ((g_uses).length)]), (1000001, .row 45 1 0 (List.map (encL 1 EV.encI) g_uses)), (2000072, .row 3 1 0 (List.map EV.encI q1.2.2))] []
  refine v_seq (vr_text (o_runs 1 [(21, .bool (decide (q1.1 < (List.length g_defs : Int))))] (by kernel_rfl) ?_))
  refine ov_nil (nrm_thenV (v_seq ?_))
  refine v_cond (decide (q1.1 < (List.length g_defs : Int))) (by kernel_rfl) (fun h1 => ?_) (fun h1 => ?_)
  ·replace hs := bif_t h1 hs
   refine v_skip (nrm_thenV (v_seq (v_block (v_seq (vr_text (o_runs 1 [(5, .int .i64 (-1))] (by kernel_rfl) ?_))))))
   refine ov_nil (nrm_thenV (v_seq (v_seq (vr_text (o_runs 6 [(27, .int .i64 0), (26, .int .i64 ((g_uses).length : Int)), (25, .sl 1 1000001 ((g_uses).length) 0 ((g_uses).length)), (24, .ptr 1000000 0 1), (23, .ptr 1000000 0 0), (22, .ptr 1000000 0 0)] (by kernel_rfl) ?_)))))
   refine ov_nil (nrm_thenV ?_)
   obtain ⟨z2, hs, hk2⟩ := bind_some hs
   refine v_join (S := Int × (List Bool)) (fun u => u = z2) (fun u => [(0, .ptr 1000000 0 0), (3, .ptr 3 0 0), (4, .sl 1 2000072 ((q1.2.2).length) 0 ((q1.2.2).length)), (5, .int .i64 u.1), (19, .int .i64 (List.length g_defs : Int)), (20, .int .i64 q1.1)]) (fun u => [(3, .box 143 [.sl 1 14 ((u.2).length) 0 ((u.2).length)]), (14, .row 4 1 0 (List.map EV.encB u.2)), (1000000, .box 154 [.vs 6 (List.map enc_Def g_defs), .sl 1 1000001 ((g_uses).length) 0 ((g_uses).length)]), (1000001, .row 45 1 0 (List.map (encL 1 EV.encI) g_uses)), (2000072, .row 3 1 0 (List.map EV.encI q1.2.2))]) ?_ (fun v2 hz => ?_)
   ·refine v_block ?_
    refine v_fuel (S := Int × Int × (List Bool)) (fun u => [(0, .ptr 1000000 0 0), (3, .ptr 3 0 0), (4, .sl 1 2000072 ((q1.2.2).length) 0 ((q1.2.2).length)), (5, .int .i64 u.1), (19, .int .i64 (List.length g_defs : Int)), (20, .int .i64 q1.1), (25, .sl 1 1000001 ((g_uses).length) 0 ((g_uses).length)), (26, .int .i64 ((g_uses).length : Int)), (27, .int .i64 u.2.1)]) (fun u => [(3, .box 143 [.sl 1 14 ((u.2.2).length) 0 ((u.2.2).length)]), (14, .row 4 1 0 (List.map EV.encB u.2.2)), (1000000, .box 154 [.vs 6 (List.map enc_Def g_defs), .sl 1 1000001 ((g_uses).length) 0 ((g_uses).length)]), (1000001, .row 45 1 0 (List.map (encL 1 EV.encI) g_uses)), (2000072, .row 3 1 0 (List.map EV.encI q1.2.2))]) (s_define_graph_order_L2 g_defs g_uses) (fun _ => rfl) KK ((-1), 0, q1.2.1) hs (cut_of [0, 3, 4, 5, 19, 20, 25, 26, 27] [3, 14, 1000000, 1000001, 2000072] (by kernel_rfl) (by kernel_rfl) (by kernel_rfl)) (fun K2 q2 hs => ?_)
    rw [s_define_graph_order_L2] at hs
    show WpV cK0 Tryz.prog none 78 _ _ [(0, .ptr 1000000 0 0), (3, .ptr 3 0 0), (4, .sl 1 2000072 ((q1.2.2).length) 0 ((q1.2.2).length)), (5, .int .i64 q2.1), (19, .int .i64 (List.length g_defs : Int)), (20, .int .i64 q1.1), (25, .sl 1 1000001 ((g_uses).length) 0 ((g_uses).length)), (26, .int .i64 ((g_uses).length : Int)), (27, .int .i64 q2.2.1)] [(3, .box 143 [.sl 1 14 ((q2.2.2).length) 0 ((q2.2.2).length)]), (14, .row 4 1 0 (List.map EV.encB q2.2.2)), (1000000, .box 154 [.vs 6 (List.map enc_Def g_defs), .sl 1 1000001 ((g_uses).length) 0 ((g_uses).length)]), (1000001, .row 45 1 0 (List.map (encL 1 EV.encI) g_uses)), (2000072, .row 3 1 0 (List.map EV.encI q1.2.2))] []
    refine v_seq (vr_text (o_runs 1 [(28, .bool (decide (q2.2.1 < ((g_uses).length : Int))))] (by kernel_rfl) ?_))
    refine ov_nil (nrm_thenV (v_seq ?_))
    refine v_cond (decide (q2.2.1 < ((g_uses).length : Int))) (by kernel_rfl) (fun h2 => ?_) (fun h2 => ?_)
    ·replace hs := bif_t h2 hs
     refine v_skip (nrm_thenV (v_seq (v_block (v_seq (vr_text (o_runs 1 [(29, .int .i64 q2.2.1)] (by kernel_rfl) ?_))))))
     obtain ⟨_, g2, hs⟩ := bind_some hs; obtain ⟨g2a, g2b⟩ := grd_some g2
     refine o_pure (v := .ptr 1000001 ((g_uses).length) ((Int.toNat q2.2.1) * 1 + 0)) (by kernel_rfl) (by kernel_rfl) (loc_indexRowT (e := 45) (sz := 1) (kk := 1000001) (L := (g_uses).length) (n := (g_uses).length) (k := .i64) (i := q2.2.1) (by kernel_rfl) (by kernel_rfl) (by kernel_rfl) g2a g2b) ?_
     obtain ⟨e1, he1, hs⟩ := bind_some hs; replace he1 := Option.some.inj he1
     refine o_loc (F := [(1000001, .row 45 1 0 (List.map (encL 1 EV.encI) g_uses))]) (F' := [(1000001, .row 45 1 0 (List.map (encL 1 EV.encI) g_uses))]) (v := .vs 1 (List.map EV.encI e1)) [1000001] (by kernel_rfl) (by kernel_rfl) rfl (by kernel_rfl) (loc_loadRow (L := (g_uses).length) (off := (Int.toNat q2.2.1) * 1 + 0) (els := (List.map (encL 1 EV.encI) g_uses)) (cs := [.vs 1 (List.map EV.encI e1)]) (Int.toNat q2.2.1) 0 (by kernel_rfl) (by first | (simp only [List.length_map, List.length_set]; done) | rfl) rfl (by rw [← he1]; exact map_get _ (by first | omega | (simp only [List.length_set]; omega))) (by kernel_rfl)) (by kernel_rfl) ?_
     refine o_runs 2 [(7, .vs 1 (List.map EV.encI e1)), (6, .int .i64 q2.2.1)] (by kernel_rfl) ?_
     refine ov_nil (nrm_thenV (v_seq (vr_text (o_runs 2 [(33, .fn 117 [] [.ptr 3 0 0]), (32, .vs 1 (List.map EV.encI e1))] (by kernel_rfl) ?_))))
     obtain ⟨y1, c1, hs⟩ := bind_some hs
     refine o_loc (F := [(3, .box 143 [.sl 1 14 ((q2.2.2).length) 0 ((q2.2.2).length)]), (14, .row 4 1 0 (List.map EV.encB q2.2.2))]) (F' := [(14, .row 4 1 0 (List.map EV.encB y1.2)), (3, .box 143 [.sl 1 14 ((y1.2).length) 0 ((y1.2).length)])]) (v := .bool y1.1) [3, 14] (by kernel_rfl) (by kernel_rfl) rfl (by kernel_rfl) (loc_g (R := []) [.vs 1 (List.map EV.encI e1), .fn 117 [] [.ptr 3 0 0]] [(1000000, 3), (1000001, 14)] (callV_func hbv116 (by kernel_rfl)) (w_slices_ContainsFunc e1 q2.2.2 _ c1) (.cons (.same _) (.cons (.same _) (.nil))) (by kernel_rfl) (by kernel_rfl) (by kernel_rfl) (by kernel_rfl) (by kernel_rfl) (by kernel_rfl) (by kernel_rfl) (by kernel_rfl)) (by kernel_rfl) ?_
     refine o_runs 1 [(8, .bool y1.1)] (by kernel_rfl) ?_
     refine ov_nil (nrm_thenV (v_seq ?_))
     obtain ⟨z3, hs, hk3⟩ := bind_some hs
     refine v_join (S := Bool) (fun u => u = z3) (fun u => [(0, .ptr 1000000 0 0), (3, .ptr 3 0 0), (4, .sl 1 2000072 ((q1.2.2).length) 0 ((q1.2.2).length)), (5, .int .i64 q2.1), (6, .int .i64 q2.2.1), (19, .int .i64 (List.length g_defs : Int)), (20, .int .i64 q1.1), (25, .sl 1 1000001 ((g_uses).length) 0 ((g_uses).length)), (26, .int .i64 ((g_uses).length : Int)), (27, .int .i64 q2.2.1), (66, .bool u)]) (fun u => [(14, .row 4 1 0 (List.map EV.encB y1.2)), (3, .box 143 [.sl 1 14 ((y1.2).length) 0 ((y1.2).length)]), (1000001, .row 45 1 0 (List.map (encL 1 EV.encI) g_uses)), (1000000, .box 154 [.vs 6 (List.map enc_Def g_defs), .sl 1 1000001 ((g_uses).length) 0 ((g_uses).length)]), (2000072, .row 3 1 0 (List.map EV.encI q1.2.2))]) ?_ (fun v3 hz => ?_)
     ·refine v_draw mixedH (by kernel_rfl) ?_
      refine d_runs 2 0 [(36, .int .i64 q2.2.1), (35, .sl 1 14 ((y1.2).length) 0 ((y1.2).length))] [⟨1, [], []⟩, ⟨0, [], [3]⟩] (by kernel_rfl) (by kernel_rfl) ?_
      obtain ⟨_, g3, hs⟩ := bind_some hs; obtain ⟨g3a, g3b⟩ := grd_some g3
      refine d_pure (v := .ptr 14 ((y1.2).length) ((Int.toNat q2.2.1) * 1 + 0)) 2 rfl rfl rfl rfl (by kernel_rfl) (by kernel_rfl) (loc_indexRowT (e := 4) (sz := 1) (kk := 14) (L := (y1.2).length) (n := (y1.2).length) (k := .i64) (i := q2.2.1) (by kernel_rfl) (by kernel_rfl) (by kernel_rfl) g3a g3b) ?_
      obtain ⟨e2, he2, hs⟩ := bind_some hs; replace he2 := Option.some.inj he2
      refine d_loc (F := []) (R := [(14, .row 4 1 0 (List.map EV.encB y1.2))]) (F' := []) (v := .bool e2) 3 [] [14] rfl rfl rfl rfl (by kernel_rfl) (by kernel_rfl) (by kernel_rfl) (by kernel_rfl) (by kernel_rfl) (by kernel_rfl) (by kernel_rfl) (by kernel_rfl) (loc_loadRow (L := (y1.2).length) (off := (Int.toNat q2.2.1) * 1 + 0) (els := (List.map EV.encB y1.2)) (cs := [.bool e2]) (Int.toNat q2.2.1) 0 (by kernel_rfl) (by first | (simp only [List.length_map, List.length_set]; done) | rfl) rfl (by rw [← he2]; exact map_get _ (by first | omega | (simp only [List.length_set]; omega))) (by kernel_rfl)) ?_
      refine d_runs 2 4 [(40, .bool (!e2)), (39, .bool (!e2))] (pfp 2 5) (by kernel_rfl) (by kernel_rfl) ?_
      cases h3 : ((!e2))
      ·replace hs := bif_f h3 hs
       refine d_runs 26 6 [(66, .bool false), (65, .no), (64, .no), (63, .no), (62, .no), (61, .no), (60, .no), (59, .no), (58, .no), (57, .no), (56, .no), (55, .no), (54, .no), (53, .no), (52, .no), (51, .no), (50, .no), (49, .no), (48, .no), (47, .no), (46, .no), (45, .no), (44, .bool false), (43, .bool false), (42, .no), (41, .no)] (pfp 26 31) (by kernel_rfl) (by kernel_rfl) ?_
       refine d_nil (by kernel_rfl) ?_
       obtain rfl := si hs
       refine nrm_join false rfl ?_
       exact cut_of [0, 3, 4, 5, 6, 19, 20, 25, 26, 27, 66] [14, 3, 1000001, 1000000, 2000072] (by kernel_rfl) (by kernel_rfl) (by kernel_rfl)
      ·replace hs := bif_t h3 hs
       refine d_runs 4 6 [(44, .bool (!y1.1)), (43, .bool (!y1.1)), (42, .bool (!y1.1)), (41, .bool y1.1)] (pfp 4 9) (by kernel_rfl) (by kernel_rfl) ?_
       cases h4 : ((!y1.1))
       ·replace hs := bif_f h4 hs
        refine d_runs 22 10 [(66, .bool false), (65, .no), (64, .no), (63, .no), (62, .no), (61, .no), (60, .no), (59, .no), (58, .no), (57, .no), (56, .no), (55, .no), (54, .no), (53, .no), (52, .no), (51, .no), (50, .no), (49, .no), (48, .no), (47, .no), (46, .no), (45, .no)] (pfp 22 31) (by kernel_rfl) (by kernel_rfl) ?_
        refine d_nil (by kernel_rfl) ?_
        obtain rfl := si hs
        refine nrm_join false rfl ?_
        exact cut_of [0, 3, 4, 5, 6, 19, 20, 25, 26, 27, 66] [14, 3, 1000001, 1000000, 2000072] (by kernel_rfl) (by kernel_rfl) (by kernel_rfl)
       ·replace hs := bif_t h4 hs
        refine d_runs 3 10 [(47, .bool (decide (q2.1 < 0))), (46, .bool (decide (q2.1 < 0))), (45, .int .i64 q2.1)] (pfp 3 12) (by kernel_rfl) (by kernel_rfl) ?_
        cases h5 : ((decide (q2.1 < 0)))
        ·replace hs := bif_f h5 hs
         refine d_runs 5 13 [(52, .int .i64 q2.2.1), (51, .vs 6 (List.map enc_Def g_defs)), (50, .ptr 1000000 0 0), (49, .ptr 1000000 0 0), (48, .ptr 1000000 0 0)] [⟨17, [], []⟩, ⟨16, [], [1000000]⟩, ⟨15, [], []⟩, ⟨14, [], []⟩, ⟨13, [], []⟩] (by kernel_rfl) (by kernel_rfl) ?_
         obtain ⟨x1, g4, hs⟩ := bind_some hs; obtain ⟨g4a, g4b, g4c⟩ := idx_some g4
         refine d_pure (v := .vp (enc_Def x1) 0) 18 rfl rfl rfl rfl (by kernel_rfl) (by kernel_rfl) (loc_indexVs (e := 106) (sz := 6) (k := .i64) (els := (List.map enc_Def g_defs)) (cs := (enc_Def x1)) (by kernel_rfl) (by kernel_rfl) (by kernel_rfl) g4a (by rw [g4c]; exact map_get _ (by omega))) ?_
         refine d_runs 7 19 [(60, .int .i64 q2.1), (59, .vs 6 (List.map enc_Def g_defs)), (58, .ptr 1000000 0 0), (57, .ptr 1000000 0 0), (56, .ptr 1000000 0 0), (55, .str x1.Name), (54, .vp (enc_Def x1) 0)] [⟨25, [], []⟩, ⟨24, [], [1000000]⟩, ⟨23, [], []⟩, ⟨22, [], []⟩, ⟨21, [], []⟩, ⟨20, [], []⟩, ⟨19, [], []⟩] (by kernel_rfl) (by kernel_rfl) ?_
         obtain ⟨x2, g5, hs⟩ := bind_some hs; obtain ⟨g5a, g5b, g5c⟩ := idx_some g5
         refine d_pure (v := .vp (enc_Def x2) 0) 26 rfl rfl rfl rfl (by kernel_rfl) (by kernel_rfl) (loc_indexVs (e := 106) (sz := 6) (k := .i64) (els := (List.map enc_Def g_defs)) (cs := (enc_Def x2)) (by kernel_rfl) (by kernel_rfl) (by kernel_rfl) g5a (by rw [g5c]; exact map_get _ (by omega))) ?_
         refine d_runs 5 27 [(66, .bool (Op.bytesLess x1.Name x2.Name)), (65, .bool (Op.bytesLess x1.Name x2.Name)), (64, .bool (Op.bytesLess x1.Name x2.Name)), (63, .str x2.Name), (62, .vp (enc_Def x2) 0)] (pfp 5 31) (by kernel_rfl) (by kernel_rfl) ?_
         refine d_nil (by kernel_rfl) ?_
         obtain rfl := si hs
         refine nrm_join (Op.bytesLess x1.Name x2.Name) rfl ?_
         exact cut_of [0, 3, 4, 5, 6, 19, 20, 25, 26, 27, 66] [14, 3, 1000001, 1000000, 2000072] (by kernel_rfl) (by kernel_rfl) (by kernel_rfl)
        ·replace hs := bif_t h5 hs
         refine d_runs 19 13 [(66, .bool true), (65, .bool true), (64, .no), (63, .no), (62, .no), (61, .no), (60, .no), (59, .no), (58, .no), (57, .no), (56, .no), (55, .no), (54, .no), (53, .no), (52, .no), (51, .no), (50, .no), (49, .no), (48, .no)] (pfp 19 31) (by kernel_rfl) (by kernel_rfl) ?_
         refine d_nil (by kernel_rfl) ?_
         obtain rfl := si hs
         refine nrm_join true rfl ?_
         exact cut_of [0, 3, 4, 5, 6, 19, 20, 25, 26, 27, 66] [14, 3, 1000001, 1000000, 2000072] (by kernel_rfl) (by kernel_rfl) (by kernel_rfl)
     ·subst hz; clear hs; have hs := hk3; clear hk3
      refine nrm_thenV ?_
      obtain ⟨z4, hs, hk4⟩ := bind_some hs
      refine v_join (S := Int) (fun u => u = z4) (fun u => [(0, .ptr 1000000 0 0), (3, .ptr 3 0 0), (4, .sl 1 2000072 ((q1.2.2).length) 0 ((q1.2.2).length)), (5, .int .i64 u), (19, .int .i64 (List.length g_defs : Int)), (20, .int .i64 q1.1), (25, .sl 1 1000001 ((g_uses).length) 0 ((g_uses).length)), (26, .int .i64 ((g_uses).length : Int)), (27, .int .i64 q2.2.1)]) (fun u => [(14, .row 4 1 0 (List.map EV.encB y1.2)), (3, .box 143 [.sl 1 14 ((y1.2).length) 0 ((y1.2).length)]), (1000001, .row 45 1 0 (List.map (encL 1 EV.encI) g_uses)), (1000000, .box 154 [.vs 6 (List.map enc_Def g_defs), .sl 1 1000001 ((g_uses).length) 0 ((g_uses).length)]), (2000072, .row 3 1 0 (List.map EV.encI q1.2.2))]) ?_ (fun v4 hz => ?_)
      ·refine v_cond v3 (by kernel_rfl) (fun h6 => ?_) (fun h6 => ?_)
       ·replace hs := bif_t h6 hs
        refine vr_text (o_runs 2 [(5, .int .i64 q2.2.1), (67, .int .i64 q2.2.1)] (by kernel_rfl) ?_)
        refine ov_nil ?_
        obtain rfl := si hs
        refine nrm_join q2.2.1 rfl ?_
        exact cut_of [0, 3, 4, 5, 19, 20, 25, 26, 27] [14, 3, 1000001, 1000000, 2000072] (by kernel_rfl) (by kernel_rfl) (by kernel_rfl)
       ·replace hs := bif_f h6 hs
        refine v_skip ?_
        obtain rfl := si hs
        refine nrm_join q2.1 rfl ?_
        exact cut_of [0, 3, 4, 5, 19, 20, 25, 26, 27] [14, 3, 1000001, 1000000, 2000072] (by kernel_rfl) (by kernel_rfl) (by kernel_rfl)
      ·subst hz; clear hs; have hs := hk4; clear hk4
       refine nrm_blkV (nrm_thenV (vr_text (o_runs 2 [(27, .int .i64 (w64 (q2.2.1 + 1))), (68, .int .i64 (w64 (q2.2.1 + 1)))] (by kernel_rfl) ?_)))
       refine ov_nil (nrm_fuel (v4, (w64 (q2.2.1 + 1)), y1.2) hs ?_)
       exact cut_of [0, 3, 4, 5, 19, 20, 25, 26, 27] [3, 14, 1000000, 1000001, 2000072] (by kernel_rfl) (by kernel_rfl) (by kernel_rfl)
    ·replace hs := bif_f h2 hs
     refine v_exit (exit_thenV (exit_fuel ?_))
     refine exit_blkV ?_
     obtain rfl := si hs
     refine nrm_join (q2.1, q2.2.2) rfl ?_
     exact cut_of [0, 3, 4, 5, 19, 20] [3, 14, 1000000, 1000001, 2000072] (by kernel_rfl) (by kernel_rfl) (by kernel_rfl)
   ·subst hz; clear hs; have hs := hk2; clear hk2
    refine nrm_thenV (v_seq (vr_text (o_runs 2 [(70, .int .i64 v2.1), (69, .sl 1 14 ((v2.2).length) 0 ((v2.2).length))] (by kernel_rfl) ?_)))
    obtain ⟨_, g6, hs⟩ := bind_some hs; obtain ⟨g6a, g6b⟩ := grd_some g6
    refine o_pure (v := .ptr 14 ((v2.2).length) ((Int.toNat v2.1) * 1 + 0)) (by kernel_rfl) (by kernel_rfl) (loc_indexRowT (e := 4) (sz := 1) (kk := 14) (L := (v2.2).length) (n := (v2.2).length) (k := .i64) (i := v2.1) (by kernel_rfl) (by kernel_rfl) (by kernel_rfl) g6a g6b) ?_
    obtain ⟨e3, he3, hs⟩ := bind_some hs; replace he3 := Option.some.inj he3
    refine o_loc (F := [(14, .row 4 1 0 (List.map EV.encB v2.2))]) (F' := [(14, .row 4 1 0 (List.map EV.encB (List.set v2.2 (Int.toNat v2.1) true)))]) (v := .no) [14] (by kernel_rfl) (by kernel_rfl) rfl (by kernel_rfl) (loc_storeRowT (L := (v2.2).length) (off := (Int.toNat v2.1) * 1 + 0) (els := (List.map EV.encB v2.2)) (cs := [.bool e3]) (c' := [.bool true]) (Int.toNat v2.1) 0 (by kernel_rfl) (by first | (simp only [List.length_map, List.length_set]; done) | rfl) rfl (by rw [← he3]; exact map_get _ (by first | omega | (simp only [List.length_set]; omega))) (by first | exact Nat.zero_le _ | omega) (by kernel_rfl) (by kernel_rfl) (by kernel_rfl) (by kernel_rfl) (by kernel_rfl) (by kernel_rfl) List.map_set.symm) (by kernel_rfl) ?_
    refine ov_nil (nrm_thenV (vr_text (o_runh 3 [(74, .sl 1 74 1 0 1), (73, .int .i64 v2.1), (72, .sl 1 2000072 ((q1.2.2).length) 0 ((q1.2.2).length))] [(74, .row 3 1 0 (List.map EV.encI [v2.1])), (14, .row 4 1 0 (List.map EV.encB (List.set v2.2 (Int.toNat v2.1) true))), (3, .box 143 [.sl 1 14 ((v2.2).length) 0 ((v2.2).length)]), (1000000, .box 154 [.vs 6 (List.map enc_Def g_defs), .sl 1 1000001 ((g_uses).length) 0 ((g_uses).length)]), (1000001, .row 45 1 0 (List.map (encL 1 EV.encI) g_uses)), (2000072, .row 3 1 0 (List.map EV.encI q1.2.2))] (by kernel_rfl) ?_)))
    obtain ⟨_, g7, hs⟩ := bind_some hs; replace g7 := grd_some g7
    refine o_loc (F := [(2000072, .row 3 1 0 (List.map EV.encI q1.2.2)), (74, .row 3 1 0 (List.map EV.encI [v2.1]))]) (F' := [(2000072, .row 3 1 0 (List.map EV.encI (q1.2.2 ++ [v2.1]))), (74, .row 3 1 0 (List.map EV.encI [v2.1]))]) (v := .sl 1 2000072 (((q1.2.2 ++ [v2.1])).length) 0 (((q1.2.2 ++ [v2.1])).length)) [2000072, 74] (by kernel_rfl) (by kernel_rfl) rfl (by kernel_rfl) (loc_appendT (e := 3) (sz := 1) (bytes := 8) (L := (q1.2.2).length) (els := (List.map EV.encI q1.2.2)) (ys := (List.map EV.encI [v2.1])) (by kernel_rfl) (by kernel_rfl) (by first | exact List.length_map .. | rfl) (.sl (t := 3) (fz := 0) (ys := (List.map EV.encI [v2.1])) (by kernel_rfl) (by kernel_rfl)) (map_ones EV.encI (fun _ => rfl) _) (map_lens EV.encI (fun _ => rfl) _) (by kernel_rfl) (by first | exact (List.map_append ..).symm | rfl | simp only [List.map_nil, List.nil_append]) (List.length_map ..) g7 (by omega)) (by kernel_rfl) ?_
    refine o_runs 1 [(4, .sl 1 2000072 (((q1.2.2 ++ [v2.1])).length) 0 (((q1.2.2 ++ [v2.1])).length))] (by kernel_rfl) ?_
    refine ov_nil (nrm_blkV (nrm_thenV (vr_text (o_runs 2 [(20, .int .i64 (w64 (q1.1 + 1))), (76, .int .i64 (w64 (q1.1 + 1)))] (by kernel_rfl) ?_))))
    refine ov_nil (nrm_fuel ((w64 (q1.1 + 1)), (List.set v2.2 (Int.toNat v2.1) true), (q1.2.2 ++ [v2.1])) hs ?_)
    exact Cut.trans (cut_same (H1 := [(2000072, .row 3 1 0 (List.map EV.encI (q1.2.2 ++ [v2.1]))), (74, .row 3 1 0 (List.map EV.encI [v2.1])), (14, .row 4 1 0 (List.map EV.encB (List.set v2.2 (Int.toNat v2.1) true))), (3, .box 143 [.sl 1 14 ((v2.2).length) 0 ((v2.2).length)]), (1000000, .box 154 [.vs 6 (List.map enc_Def g_defs), .sl 1 1000001 ((g_uses).length) 0 ((g_uses).length)]), (1000001, .row 45 1 0 (List.map (encL 1 EV.encI) g_uses))]) rfl (by kernel_rfl)) (Cut.trans (cut_same (H1 := [(2000072, .row 3 1 0 (List.map EV.encI (q1.2.2 ++ [v2.1]))), (74, .row 3 1 0 (List.map EV.encI [v2.1])), (14, .row 4 1 0 (List.map EV.encB (List.set v2.2 (Int.toNat v2.1) true))), (3, .box 143 [.sl 1 14 (((List.set v2.2 (Int.toNat v2.1) true)).length) 0 (((List.set v2.2 (Int.toNat v2.1) true)).length)]), (1000000, .box 154 [.vs 6 (List.map enc_Def g_defs), .sl 1 1000001 ((g_uses).length) 0 ((g_uses).length)]), (1000001, .row 45 1 0 (List.map (encL 1 EV.encI) g_uses))]) rfl (by simp only [List.length_set])) (cut_of [0, 3, 4, 19, 20] [3, 14, 1000000, 1000001, 2000072] (by kernel_rfl) (by kernel_rfl) (by kernel_rfl)))
  ·replace hs := bif_f h1 hs
   refine v_exit (exit_thenV (exit_fuel ?_))
   refine exit_blkV ?_
   obtain rfl := si hs
   refine nrm_join q1.2.2 rfl ?_
   exact cut_of [4] [1000000, 1000001, 2000072] (by kernel_rfl) (by kernel_rfl) (by kernel_rfl)
 ·subst hz; clear hs; have hs := hk1; clear hk1
  refine nrm_thenV (v_seq (vr_text (o_runs 2 [(2, .sl 1 2000072 ((v1).length) 0 ((v1).length)), (77, .sl 1 2000072 ((v1).length) 0 ((v1).length))] (by kernel_rfl) ?_)))
  refine ov_nil (nrm_thenV (v_to _ [(2000072, .row 3 1 (((List.map EV.encI v1)).length) (List.map EV.encI v1)), (1000000, .box 154 [.vs 6 (List.map enc_Def g_defs), .sl 1 1000001 ((g_uses).length) 0 ((g_uses).length)]), (1000001, .row 45 1 0 (List.map (encL 1 EV.encI) g_uses))] (cut_freeze (F := [(2000072, .row 3 1 0 (List.map EV.encI v1))]) [2000072] rfl (by kernel_rfl) (by kernel_rfl)) ?_))
  refine v_to ((2, .vs 1 (List.map EV.encI v1)) :: _) _ (cut_view (R := [(2000072, .row 3 1 (((List.map EV.encI v1)).length) (List.map EV.encI v1))]) (ks := [2000072]) (by kernel_rfl) (by kernel_rfl) (.row (t := 3) (fz := (((List.map EV.encI v1)).length)) (by kernel_rfl) (by first | (simp only [List.length_map, List.length_set]; done) | rfl))) ?_
  refine v_ret ?_
  obtain rfl := si hs
  exact fin_ret (by kernel_rfl) (by kernel_rfl) (by kernel_rfl)
theorem w_define_Order (p : Plan) (r : (List Int) × Int) (hs : s_define_Order p = some r) : FnA Tryz.prog 68 [.agg (enc_Plan p)] [] (.tup [.vs 1 (List.map EV.encI r.1), .nils, .int .i64 r.2]) [] := by
 refine fnA_of_wp (N := 47) Tryz.func68 rfl rfl rfl fun cK0 => ?_
 unfold s_define_Order at hs
 refine v_same (ρ' := [(0, .agg (enc_Plan p))]) rfl rfl ?_
 refine v_seq (vr_text (o_runh 4 [(4, .int .i64 0), (3, .nils), (2, .nils), (1, .ptr 1 0 0)] [(1, .box 81 [.vs 6 (List.map enc_Def p.Defs), .vs 3 (List.map enc_Table p.Tables), .vs 3 (List.map enc_Zone p.Zones), .vs 20 (List.map enc_Rule p.Rules), .vs 4 (List.map enc_Cap p.Caps), .vs 6 (List.map enc_View p.Views), .vs 3 (List.map enc_Point3 p.Sun), .int .i64 p.Hours])] (by kernel_rfl) ?_))
 refine ov_nil (nrm_thenV (v_seq (vr_text (o_runh 2 [(5, .mp 12), (12, .mp 12)] [(12, .map (encM V.str V.bool [])), (1, .box 81 [.vs 6 (List.map enc_Def p.Defs), .vs 3 (List.map enc_Table p.Tables), .vs 3 (List.map enc_Zone p.Zones), .vs 20 (List.map enc_Rule p.Rules), .vs 4 (List.map enc_Cap p.Caps), .vs 6 (List.map enc_View p.Views), .vs 3 (List.map enc_Point3 p.Sun), .int .i64 p.Hours])] (by kernel_rfl) ?_))))
 refine ov_nil (nrm_thenV (v_seq (v_seq (vr_text ?_))))
 obtain ⟨y1, c1, hs⟩ := bind_some hs
 refine o_pure (v := .vs 1 (List.map EV.encS y1)) (by kernel_rfl) (by kernel_rfl) (loc_gcall0 (callV_func hbv92 (by kernel_rfl)) (w_define_Measures  _ c1) (by kernel_rfl)) ?_
 refine o_pure (v := .int .i64 (List.length y1 : Int)) (by kernel_rfl) (by kernel_rfl) (loc_lenVs (sz := 1) (els := (List.map EV.encS y1)) (by kernel_rfl) (by kernel_rfl) (List.length_map ..)) ?_
 refine o_runs 1 [(15, .int .i64 0)] (by kernel_rfl) ?_
 refine ov_nil (nrm_thenV ?_)
 obtain ⟨z1, hs, hk1⟩ := bind_some hs
 refine v_join (S := (List ((List UInt8) × Bool))) (fun u => u = z1) (fun u => [(1, .ptr 1 0 0), (5, .mp 12)]) (fun u => [(12, .map (encM V.str V.bool u)), (1, .box 81 [.vs 6 (List.map enc_Def p.Defs), .vs 3 (List.map enc_Table p.Tables), .vs 3 (List.map enc_Zone p.Zones), .vs 20 (List.map enc_Rule p.Rules), .vs 4 (List.map enc_Cap p.Caps), .vs 6 (List.map enc_View p.Views), .vs 3 (List.map enc_Point3 p.Sun), .int .i64 p.Hours])]) ?_ (fun v1 hz => ?_)
 ·refine v_block ?_
  refine v_fuel (S := Int × (List ((List UInt8) × Bool))) (fun u => [(1, .ptr 1 0 0), (5, .mp 12), (13, .vs 1 (List.map EV.encS y1)), (14, .int .i64 (List.length y1 : Int)), (15, .int .i64 u.1)]) (fun u => [(12, .map (encM V.str V.bool u.2)), (1, .box 81 [.vs 6 (List.map enc_Def p.Defs), .vs 3 (List.map enc_Table p.Tables), .vs 3 (List.map enc_Zone p.Zones), .vs 20 (List.map enc_Rule p.Rules), .vs 4 (List.map enc_Cap p.Caps), .vs 6 (List.map enc_View p.Views), .vs 3 (List.map enc_Point3 p.Sun), .int .i64 p.Hours])]) (s_define_Order_L1 y1) (fun _ => rfl) KK (0, []) hs (cut_of [1, 5, 13, 14, 15] [12, 1] (by kernel_rfl) (by kernel_rfl) (by kernel_rfl)) (fun K1 q1 hs => ?_)
  rw [s_define_Order_L1] at hs
  show WpV cK0 Tryz.prog none 47 _ _ [(1, .ptr 1 0 0), (5, .mp 12), (13, .vs 1 (List.map EV.encS y1)), (14, .int .i64 (List.length y1 : Int)), (15, .int .i64 q1.1)] [(12, .map (encM V.str V.bool q1.2)), (1, .box 81 [.vs 6 (List.map enc_Def p.Defs), .vs 3 (List.map enc_Table p.Tables), .vs 3 (List.map enc_Zone p.Zones), .vs 20 (List.map enc_Rule p.Rules), .vs 4 (List.map enc_Cap p.Caps), .vs 6 (List.map enc_View p.Views), .vs 3 (List.map enc_Point3 p.Sun), .int .i64 p.Hours])] []
  refine v_seq (vr_text (o_runs 1 [(16, .bool (decide (q1.1 < (List.length y1 : Int))))] (by kernel_rfl) ?_))
  refine ov_nil (nrm_thenV (v_seq ?_))
  refine v_cond (decide (q1.1 < (List.length y1 : Int))) (by kernel_rfl) (fun h1 => ?_) (fun h1 => ?_)
  ·replace hs := bif_t h1 hs
   refine v_skip (nrm_thenV (v_seq (v_block (v_seq (vr_text ?_)))))
   obtain ⟨x1, g1, hs⟩ := bind_some hs; obtain ⟨g1a, g1b, g1c⟩ := idx_some g1
   refine o_pure (v := .vp [.str x1] 0) (by kernel_rfl) (by kernel_rfl) (loc_indexVs (e := 9) (sz := 1) (k := .i64) (els := (List.map EV.encS y1)) (cs := (EV.encS x1)) (by kernel_rfl) (by kernel_rfl) (by kernel_rfl) g1a (by rw [g1c]; exact map_get _ (by omega))) ?_
   refine o_runs 2 [(7, .str x1), (18, .str x1)] (by kernel_rfl) ?_
   refine ov_nil (nrm_thenV (vr_text (o_runs 2 [(20, .str x1), (19, .mp 12)] (by kernel_rfl) ?_)))
   refine o_loc (F := [(12, .map (encM V.str V.bool q1.2))]) (F' := [(12, .map (encM V.str V.bool (mset x1 true q1.2)))]) (v := .no) [12] (by kernel_rfl) (by kernel_rfl) rfl (by kernel_rfl) (loc_mapUpdate (et := 4) (f := V.str) (g := V.bool) (l := q1.2) (a := x1) (c := true) (by kernel_rfl) kok9 (by kernel_rfl) (by kernel_rfl) (by kernel_rfl) (by kernel_rfl) (by kernel_rfl)) (by kernel_rfl) ?_
   refine ov_nil (nrm_blkV (nrm_thenV (vr_text (o_runs 2 [(15, .int .i64 (w64 (q1.1 + 1))), (21, .int .i64 (w64 (q1.1 + 1)))] (by kernel_rfl) ?_))))
   refine ov_nil (nrm_fuel ((w64 (q1.1 + 1)), (mset x1 true q1.2)) hs ?_)
   exact cut_of [1, 5, 13, 14, 15] [12, 1] (by kernel_rfl) (by kernel_rfl) (by kernel_rfl)
  ·replace hs := bif_f h1 hs
   refine v_exit (exit_thenV (exit_fuel ?_))
   refine exit_blkV ?_
   obtain rfl := si hs
   refine nrm_join q1.2 rfl ?_
   exact cut_of [1, 5] [12, 1] (by kernel_rfl) (by kernel_rfl) (by kernel_rfl)
 ·subst hz; clear hs; have hs := hk1; clear hk1
  refine nrm_thenV (v_seq (v_seq (vr_text (o_runs 2 [(23, .vs 6 (List.map enc_Def p.Defs)), (22, .ptr 1 0 0)] (by kernel_rfl) ?_))))
  refine o_pure (v := .int .i64 (List.length p.Defs : Int)) (by kernel_rfl) (by kernel_rfl) (loc_lenVs (sz := 6) (els := (List.map enc_Def p.Defs)) (by kernel_rfl) (by kernel_rfl) (List.length_map ..)) ?_
  refine o_runs 1 [(25, .int .i64 0)] (by kernel_rfl) ?_
  refine ov_nil (nrm_thenV ?_)
  obtain ⟨z2, hs, hk2⟩ := bind_some hs
  refine v_join (S := Unit) (fun u => z2 = .inr u) (fun u => [(1, .ptr 1 0 0)]) (fun u => [(1, .box 81 [.vs 6 (List.map enc_Def p.Defs), .vs 3 (List.map enc_Table p.Tables), .vs 3 (List.map enc_Zone p.Zones), .vs 20 (List.map enc_Rule p.Rules), .vs 4 (List.map enc_Cap p.Caps), .vs 6 (List.map enc_View p.Views), .vs 3 (List.map enc_Point3 p.Sun), .int .i64 p.Hours])]) ?_ (fun v2 hz => ?_)
  ·refine v_block ?_
   refine v_fuel (S := Int × (List ((List UInt8) × Bool))) (fun u => [(1, .ptr 1 0 0), (5, .mp 12), (23, .vs 6 (List.map enc_Def p.Defs)), (24, .int .i64 (List.length p.Defs : Int)), (25, .int .i64 u.1)]) (fun u => [(12, .map (encM V.str V.bool u.2)), (1, .box 81 [.vs 6 (List.map enc_Def p.Defs), .vs 3 (List.map enc_Table p.Tables), .vs 3 (List.map enc_Zone p.Zones), .vs 20 (List.map enc_Rule p.Rules), .vs 4 (List.map enc_Cap p.Caps), .vs 6 (List.map enc_View p.Views), .vs 3 (List.map enc_Point3 p.Sun), .int .i64 p.Hours])]) (s_define_Order_L2 p) (fun _ => rfl) KK (0, v1) hs (cut_of [1, 5, 23, 24, 25] [12, 1] (by kernel_rfl) (by kernel_rfl) (by kernel_rfl)) (fun K2 q2 hs => ?_)
   rw [s_define_Order_L2] at hs
   show WpV cK0 Tryz.prog none 47 _ _ [(1, .ptr 1 0 0), (5, .mp 12), (23, .vs 6 (List.map enc_Def p.Defs)), (24, .int .i64 (List.length p.Defs : Int)), (25, .int .i64 q2.1)] [(12, .map (encM V.str V.bool q2.2)), (1, .box 81 [.vs 6 (List.map enc_Def p.Defs), .vs 3 (List.map enc_Table p.Tables), .vs 3 (List.map enc_Zone p.Zones), .vs 20 (List.map enc_Rule p.Rules), .vs 4 (List.map enc_Cap p.Caps), .vs 6 (List.map enc_View p.Views), .vs 3 (List.map enc_Point3 p.Sun), .int .i64 p.Hours])] []
   refine v_seq (vr_text (o_runs 1 [(26, .bool (decide (q2.1 < (List.length p.Defs : Int))))] (by kernel_rfl) ?_))
   refine ov_nil (nrm_thenV (v_seq ?_))
   refine v_cond (decide (q2.1 < (List.length p.Defs : Int))) (by kernel_rfl) (fun h2 => ?_) (fun h2 => ?_)
   ·replace hs := bif_t h2 hs
    refine v_skip (nrm_thenV (v_seq (v_block (v_seq (vr_text ?_)))))
    obtain ⟨x2, g2, hs⟩ := bind_some hs; obtain ⟨g2a, g2b, g2c⟩ := idx_some g2
    refine o_pure (v := .vp (enc_Def x2) 0) (by kernel_rfl) (by kernel_rfl) (loc_indexVs (e := 106) (sz := 6) (k := .i64) (els := (List.map enc_Def p.Defs)) (cs := (enc_Def x2)) (by kernel_rfl) (by kernel_rfl) (by kernel_rfl) g2a (by rw [g2c]; exact map_get _ (by omega))) ?_
    refine o_runh 3 [(9, .ptr 9 0 0), (28, .agg (enc_Def x2))] [(9, .box 106 [.str x2.Name, .int .i64 x2.Body.Op, .int .i64 x2.Body.N, .str x2.Body.S, .str x2.Body.Key, .vs 5 (encs_Expr x2.Body.Args)]), (12, .map (encM V.str V.bool q2.2)), (1, .box 81 [.vs 6 (List.map enc_Def p.Defs), .vs 3 (List.map enc_Table p.Tables), .vs 3 (List.map enc_Zone p.Zones), .vs 20 (List.map enc_Rule p.Rules), .vs 4 (List.map enc_Cap p.Caps), .vs 6 (List.map enc_View p.Views), .vs 3 (List.map enc_Point3 p.Sun), .int .i64 p.Hours])] (by kernel_rfl) ?_
    refine ov_nil (nrm_thenV (v_seq (v_seq (vr_text (o_runs 3 [(31, .str x2.Name), (30, .ptr 9 0 0), (29, .mp 12)] (by kernel_rfl) ?_)))))
    refine o_loc (F := [(12, .map (encM V.str V.bool q2.2))]) (F' := [(12, .map (encM V.str V.bool q2.2))]) (v := .bool (Option.getD (mfind x2.Name q2.2) false)) [12] (by kernel_rfl) (by kernel_rfl) rfl (by kernel_rfl) (loc_lookup (et := 4) (f := V.str) (g := V.bool) (l := q2.2) (a := x2.Name) (z := false) (zv := .bool false) false (by kernel_rfl) kok9 (by kernel_rfl) (fun _ _ _ h => h) (by kernel_rfl) (by kernel_rfl)) (by kernel_rfl) ?_
    refine ov_nil (nrm_thenV ?_)
    refine v_cond (Option.getD (mfind x2.Name q2.2) false) (by kernel_rfl) (fun h3 => ?_) (fun h3 => ?_)
    ·replace hs := bif_t h3 hs
     refine v_seq (vr_text (o_runs 3 [(4, .int .i64 5), (3, .nils), (2, .nils)] (by kernel_rfl) ?_))
     refine ov_nil (nrm_thenV (v_to ((2, .vs 1 (List.map EV.encI [])) :: _) _ (cut_view (R := []) (ks := []) (by kernel_rfl) (by kernel_rfl) (.nils 1)) ?_))
     refine v_ret (ret_thenV (ret_blkV (ret_thenV (ret_fuel ?_))))
     refine ret_blkV (ret_join ?_)
     refine ret_thenV ?_
     obtain rfl := si hs
     replace hs := hk2
     obtain rfl := si hs
     exact fin_ret (by kernel_rfl) (by kernel_rfl) (by kernel_rfl)
    ·replace hs := bif_f h3 hs
     refine v_skip (nrm_thenV (vr_text (o_runs 3 [(35, .str x2.Name), (34, .ptr 9 0 0), (33, .mp 12)] (by kernel_rfl) ?_)))
     refine o_loc (F := [(12, .map (encM V.str V.bool q2.2))]) (F' := [(12, .map (encM V.str V.bool (mset x2.Name true q2.2)))]) (v := .no) [12] (by kernel_rfl) (by kernel_rfl) rfl (by kernel_rfl) (loc_mapUpdate (et := 4) (f := V.str) (g := V.bool) (l := q2.2) (a := x2.Name) (c := true) (by kernel_rfl) kok9 (by kernel_rfl) (by kernel_rfl) (by kernel_rfl) (by kernel_rfl) (by kernel_rfl)) (by kernel_rfl) ?_
     refine ov_nil (nrm_blkV (nrm_thenV (vr_text (o_runs 2 [(25, .int .i64 (w64 (q2.1 + 1))), (36, .int .i64 (w64 (q2.1 + 1)))] (by kernel_rfl) ?_))))
     refine ov_nil (nrm_fuel ((w64 (q2.1 + 1)), (mset x2.Name true q2.2)) hs ?_)
     exact cut_of [1, 5, 23, 24, 25] [12, 1] (by kernel_rfl) (by kernel_rfl) (by kernel_rfl)
   ·replace hs := bif_f h2 hs
    refine v_exit (exit_thenV (exit_fuel ?_))
    refine exit_blkV ?_
    obtain rfl := si hs
    refine nrm_join () rfl ?_
    exact cut_of [1] [1] (by kernel_rfl) (by kernel_rfl) (by kernel_rfl)
  ·subst hz; clear hs; have hs := hk2; clear hk2
   refine nrm_thenV (v_seq (vr_text (o_runs 2 [(38, .vs 6 (List.map enc_Def p.Defs)), (37, .ptr 1 0 0)] (by kernel_rfl) ?_)))
   obtain ⟨y2, c2, hs⟩ := bind_some hs
   refine o_loc (F := []) (F' := [(3003900, .box 154 [.vs 6 (List.map enc_Def y2.1), .sl 1 3003901 ((y2.2).length) 0 ((y2.2).length)]), (3003901, .row 45 1 0 (List.map (encL 1 EV.encI) y2.2))]) (v := .ptr 3003900 0 0) [] (by kernel_rfl) (by kernel_rfl) rfl (by kernel_rfl) (loc_g (R := []) [.vs 6 (List.map enc_Def p.Defs)] [(31, 3003900), (29, 3003901)] (callV_func hbv93 (by kernel_rfl)) (w_define_newGraph p.Defs _ c2) (.cons (.same _) (.nil)) (by kernel_rfl) (by kernel_rfl) (by kernel_rfl) (by kernel_rfl) (by kernel_rfl) (by kernel_rfl) (by kernel_rfl) (by kernel_rfl)) (by kernel_rfl) ?_
   refine o_runs 1 [(10, .ptr 3003900 0 0)] (by kernel_rfl) ?_
   refine ov_nil (nrm_thenV (v_seq (v_seq (vr_text (o_runs 1 [(40, .ptr 3003900 0 0)] (by kernel_rfl) ?_)))))
   obtain ⟨y3, c3, hs⟩ := bind_some hs
   refine o_loc (F := [(3003900, .box 154 [.vs 6 (List.map enc_Def y2.1), .sl 1 3003901 ((y2.2).length) 0 ((y2.2).length)]), (3003901, .row 45 1 0 (List.map (encL 1 EV.encI) y2.2))]) (F' := [(3003900, .box 154 [.vs 6 (List.map enc_Def y3.1), .sl 1 3003901 ((y3.2).length) 0 ((y3.2).length)]), (3003901, .row 45 1 0 (List.map (encL 1 EV.encI) y3.2))]) (v := .nils) [3003900, 3003901] (by kernel_rfl) (by kernel_rfl) rfl (by kernel_rfl) (loc_g (R := []) [.ptr 3003900 0 0] [(1000000, 3003900), (1000001, 3003901)] (callV_func hbv94 (by kernel_rfl)) (w_define_graph_smallest y2.1 y2.2 _ c3) (.cons (.same _) (.nil)) (by kernel_rfl) (by kernel_rfl) (by kernel_rfl) (by kernel_rfl) (by kernel_rfl) (by kernel_rfl) (by kernel_rfl) (by kernel_rfl)) (by kernel_rfl) ?_
   refine o_runs 1 [(11, .nils)] (by kernel_rfl) ?_
   refine ov_nil (nrm_thenV (v_seq (vr_text (o_runs 2 [(43, .bool false), (42, .nils)] (by kernel_rfl) ?_))))
   refine ov_nil (nrm_thenV (v_cond_f (by kernel_rfl) ?_))
   refine v_skip (nrm_thenV (v_seq (vr_text (o_runs 1 [(45, .ptr 3003900 0 0)] (by kernel_rfl) ?_))))
   obtain ⟨y4, c4, hs⟩ := bind_some hs
   refine o_loc (F := [(3003900, .box 154 [.vs 6 (List.map enc_Def y3.1), .sl 1 3003901 ((y3.2).length) 0 ((y3.2).length)]), (3003901, .row 45 1 0 (List.map (encL 1 EV.encI) y3.2))]) (F' := [(3003900, .box 154 [.vs 6 (List.map enc_Def y4.2.1), .sl 1 3003901 ((y4.2.2).length) 0 ((y4.2.2).length)]), (3003901, .row 45 1 0 (List.map (encL 1 EV.encI) y4.2.2))]) (v := .vs 1 (List.map EV.encI y4.1)) [3003900, 3003901] (by kernel_rfl) (by kernel_rfl) rfl (by kernel_rfl) (loc_g (R := []) [.ptr 3003900 0 0] [(1000000, 3003900), (1000001, 3003901)] (callV_func hbv95 (by kernel_rfl)) (w_define_graph_order y3.1 y3.2 _ c4) (.cons (.same _) (.nil)) (by kernel_rfl) (by kernel_rfl) (by kernel_rfl) (by kernel_rfl) (by kernel_rfl) (by kernel_rfl) (by kernel_rfl) (by kernel_rfl)) (by kernel_rfl) ?_
   refine o_runs 3 [(4, .int .i64 0), (3, .nils), (2, .vs 1 (List.map EV.encI y4.1))] (by kernel_rfl) ?_
   refine ov_nil (nrm_thenV (v_ret ?_))
   obtain rfl := si hs
   exact fin_ret (by kernel_rfl) (by kernel_rfl) (by kernel_rfl)
theorem w_expr_context_row_1 (t : Table) (a1_Op : Int) (a1_N : Int) (a1_S : (List UInt8)) (a1_Key : (List UInt8)) (a1_Args : (List Expr)) (r : Bool × Int × Int × (List UInt8) × (List UInt8) × (List Expr)) (hs : s_expr_context_row_1 t a1_Op a1_N a1_S a1_Key a1_Args = some r) : FnA Tryz.prog 97 [.agg (enc_Table t), .ptr 1000000 0 0] [(1000000, .box 28 [.int .i64 a1_Op, .int .i64 a1_N, .str a1_S, .str a1_Key, .vs 5 (encs_Expr a1_Args)])] (.bool r.1) [(1000000, .box 28 [.int .i64 r.2.1, .int .i64 r.2.2.1, .str r.2.2.2.1, .str r.2.2.2.2.1, .vs 5 (encs_Expr r.2.2.2.2.2)])] := by
 refine fnA_of_wp (N := 9) Tryz.func97 rfl rfl rfl fun cK0 => ?_
 unfold s_expr_context_row_1 at hs
 refine v_same (ρ' := [(0, .agg (enc_Table t)), (1, .ptr 1000000 0 0)]) rfl rfl ?_
 refine v_seq (vr_text (o_runh 2 [(3, .bool false), (2, .ptr 2 0 0)] [(2, .box 133 [.str t.Name, .vs 2 (List.map enc_Entry t.Rows), .int .i64 t.Else]), (1000000, .box 28 [.int .i64 a1_Op, .int .i64 a1_N, .str a1_S, .str a1_Key, .vs 5 (encs_Expr a1_Args)])] (by kernel_rfl) ?_))
 refine ov_nil (nrm_thenV (v_seq (vr_text (o_runs 6 [(3, .bool (decide (t.Name = a1_S))), (8, .bool (decide (t.Name = a1_S))), (7, .str a1_S), (6, .ptr 1000000 0 2), (5, .str t.Name), (4, .ptr 2 0 0)] (by kernel_rfl) ?_))))
 refine ov_nil (nrm_thenV (v_ret ?_))
 obtain rfl := si hs
 exact fin_ret (by kernel_rfl) (by kernel_rfl) (by kernel_rfl)
theorem w_slices_IndexFunc_2 (s : (List Table)) (t_Op : Int) (t_N : Int) (t_S : (List UInt8)) (t_Key : (List UInt8)) (t_Args : (List Expr)) (r : Int × Int × Int × (List UInt8) × (List UInt8) × (List Expr)) (hs : s_slices_IndexFunc_2 s t_Op t_N t_S t_Key t_Args = some r) : FnA Tryz.prog 96 [.vs 3 (List.map enc_Table s), .fn 97 [] [.ptr 1000000 0 0]] [(1000000, .box 28 [.int .i64 t_Op, .int .i64 t_N, .str t_S, .str t_Key, .vs 5 (encs_Expr t_Args)])] (.int .i64 r.1) [(1000000, .box 28 [.int .i64 r.2.1, .int .i64 r.2.2.1, .str r.2.2.2.1, .str r.2.2.2.2.1, .vs 5 (encs_Expr r.2.2.2.2.2)])] := by
 refine fnA_of_wp (N := 19) Tryz.func96 rfl rfl rfl fun cK0 => ?_
 unfold s_slices_IndexFunc_2 at hs
 refine v_same (ρ' := [(0, .vs 3 (List.map enc_Table s)), (1, .fn 97 [] [.ptr 1000000 0 0])]) rfl rfl ?_
 refine v_seq (vr_text (o_runs 1 [(4, .int .i64 0)] (by kernel_rfl) ?_))
 refine ov_nil (nrm_thenV (v_seq (v_seq (vr_text (o_runs 1 [(6, .vs 3 (List.map enc_Table s))] (by kernel_rfl) ?_)))))
 refine o_pure (v := .int .i64 (List.length s : Int)) (by kernel_rfl) (by kernel_rfl) (loc_lenVs (sz := 3) (els := (List.map enc_Table s)) (by kernel_rfl) (by kernel_rfl) (List.length_map ..)) ?_
 refine o_runs 1 [(8, .int .i64 0)] (by kernel_rfl) ?_
 refine ov_nil (nrm_thenV ?_)
 obtain ⟨z1, hs, hk1⟩ := bind_some hs
 refine v_join (S := Int × Int × (List UInt8) × (List UInt8) × (List Expr)) (fun u => z1 = .inr u) (fun u => []) (fun u => [(1000000, .box 28 [.int .i64 u.1, .int .i64 u.2.1, .str u.2.2.1, .str u.2.2.2.1, .vs 5 (encs_Expr u.2.2.2.2)])]) ?_ (fun v1 hz => ?_)
 ·refine v_block ?_
  refine v_fuel (S := Int × Int × Int × (List UInt8) × (List UInt8) × (List Expr)) (fun u => [(0, .vs 3 (List.map enc_Table s)), (1, .fn 97 [] [.ptr 1000000 0 0]), (7, .int .i64 (List.length s : Int)), (8, .int .i64 u.1)]) (fun u => [(1000000, .box 28 [.int .i64 u.2.1, .int .i64 u.2.2.1, .str u.2.2.2.1, .str u.2.2.2.2.1, .vs 5 (encs_Expr u.2.2.2.2.2)])]) (s_slices_IndexFunc_2_L1 s) (fun _ => rfl) KK (0, t_Op, t_N, t_S, t_Key, t_Args) hs (cut_of [0, 1, 7, 8] [1000000] (by kernel_rfl) (by kernel_rfl) (by kernel_rfl)) (fun K1 q1 hs => ?_)
  rw [s_slices_IndexFunc_2_L1] at hs
  show WpV cK0 Tryz.prog none 19 _ _ [(0, .vs 3 (List.map enc_Table s)), (1, .fn 97 [] [.ptr 1000000 0 0]), (7, .int .i64 (List.length s : Int)), (8, .int .i64 q1.1)] [(1000000, .box 28 [.int .i64 q1.2.1, .int .i64 q1.2.2.1, .str q1.2.2.2.1, .str q1.2.2.2.2.1, .vs 5 (encs_Expr q1.2.2.2.2.2)])] []
  refine v_seq (vr_text (o_runs 1 [(9, .bool (decide (q1.1 < (List.length s : Int))))] (by kernel_rfl) ?_))
  refine ov_nil (nrm_thenV (v_seq ?_))
  refine v_cond (decide (q1.1 < (List.length s : Int))) (by kernel_rfl) (fun h1 => ?_) (fun h1 => ?_)
  ·replace hs := bif_t h1 hs
   refine v_skip (nrm_thenV (v_seq (v_block (v_seq (vr_text (o_runs 2 [(5, .int .i64 q1.1), (10, .int .i64 q1.1)] (by kernel_rfl) ?_))))))
   refine ov_nil (nrm_thenV (v_seq (vr_text (o_runs 3 [(13, .int .i64 q1.1), (12, .vs 3 (List.map enc_Table s)), (11, .fn 97 [] [.ptr 1000000 0 0])] (by kernel_rfl) ?_))))
   obtain ⟨x1, g1, hs⟩ := bind_some hs; obtain ⟨g1a, g1b, g1c⟩ := idx_some g1
   refine o_pure (v := .vp (enc_Table x1) 0) (by kernel_rfl) (by kernel_rfl) (loc_indexVs (e := 133) (sz := 3) (k := .i64) (els := (List.map enc_Table s)) (cs := (enc_Table x1)) (by kernel_rfl) (by kernel_rfl) (by kernel_rfl) g1a (by rw [g1c]; exact map_get _ (by omega))) ?_
   refine o_runs 1 [(15, .agg (enc_Table x1))] (by kernel_rfl) ?_
   obtain ⟨y1, c1, hs⟩ := bind_some hs
   refine o_loc (F := [(1000000, .box 28 [.int .i64 q1.2.1, .int .i64 q1.2.2.1, .str q1.2.2.2.1, .str q1.2.2.2.2.1, .vs 5 (encs_Expr q1.2.2.2.2.2)])]) (F' := [(1000000, .box 28 [.int .i64 y1.2.1, .int .i64 y1.2.2.1, .str y1.2.2.2.1, .str y1.2.2.2.2.1, .vs 5 (encs_Expr y1.2.2.2.2.2)])]) (v := .bool y1.1) [1000000] (by kernel_rfl) (by kernel_rfl) rfl (by kernel_rfl) (loc_g (R := []) [.agg (enc_Table x1), .ptr 1000000 0 0] [(1000000, 1000000)] (callV_val (first := []) (caps := [.ptr 1000000 0 0]) hbv97 (by kernel_rfl) (by kernel_rfl)) (w_expr_context_row_1 x1 q1.2.1 q1.2.2.1 q1.2.2.2.1 q1.2.2.2.2.1 q1.2.2.2.2.2 _ c1) (.cons (.same _) (.cons (.same _) (.nil))) (by kernel_rfl) (by kernel_rfl) (by kernel_rfl) (by kernel_rfl) (by kernel_rfl) (by kernel_rfl) (by kernel_rfl) (by kernel_rfl)) (by kernel_rfl) ?_
   refine ov_nil (nrm_thenV ?_)
   refine v_cond y1.1 (by kernel_rfl) (fun h2 => ?_) (fun h2 => ?_)
   ·replace hs := bif_t h2 hs
    refine v_seq (vr_text (o_runs 2 [(4, .int .i64 q1.1), (17, .int .i64 q1.1)] (by kernel_rfl) ?_))
    refine ov_nil (nrm_thenV (v_ret (ret_blkV (ret_thenV (ret_fuel ?_)))))
    refine ret_blkV (ret_join ?_)
    refine ret_thenV ?_
    obtain rfl := si hs
    replace hs := hk1
    obtain rfl := si hs
    exact fin_ret (by kernel_rfl) (by kernel_rfl) (by kernel_rfl)
   ·replace hs := bif_f h2 hs
    refine v_skip (nrm_blkV (nrm_thenV (vr_text (o_runs 2 [(8, .int .i64 (w64 (q1.1 + 1))), (18, .int .i64 (w64 (q1.1 + 1)))] (by kernel_rfl) ?_))))
    refine ov_nil (nrm_fuel ((w64 (q1.1 + 1)), y1.2.1, y1.2.2.1, y1.2.2.2.1, y1.2.2.2.2.1, y1.2.2.2.2.2) hs ?_)
    exact cut_of [0, 1, 7, 8] [1000000] (by kernel_rfl) (by kernel_rfl) (by kernel_rfl)
  ·replace hs := bif_f h1 hs
   refine v_exit (exit_thenV (exit_fuel ?_))
   refine exit_blkV ?_
   obtain rfl := si hs
   refine nrm_join (q1.2.1, q1.2.2.1, q1.2.2.2.1, q1.2.2.2.2.1, q1.2.2.2.2.2) rfl ?_
   exact cut_of [] [1000000] (by kernel_rfl) (by kernel_rfl) (by kernel_rfl)
 ·subst hz; clear hs; have hs := hk1; clear hk1
  refine nrm_thenV (v_seq (vr_text (o_runs 1 [(4, .int .i64 (-1))] (by kernel_rfl) ?_)))
  refine ov_nil (nrm_thenV (v_ret ?_))
  obtain rfl := si hs
  exact fin_ret (by kernel_rfl) (by kernel_rfl) (by kernel_rfl)
theorem w_expr_context_row_2 (r_ : Entry) (a1_Op : Int) (a1_N : Int) (a1_S : (List UInt8)) (a1_Key : (List UInt8)) (a1_Args : (List Expr)) (r : Bool × Int × Int × (List UInt8) × (List UInt8) × (List Expr)) (hs : s_expr_context_row_2 r_ a1_Op a1_N a1_S a1_Key a1_Args = some r) : FnA Tryz.prog 99 [.agg (enc_Entry r_), .ptr 1000000 0 0] [(1000000, .box 28 [.int .i64 a1_Op, .int .i64 a1_N, .str a1_S, .str a1_Key, .vs 5 (encs_Expr a1_Args)])] (.bool r.1) [(1000000, .box 28 [.int .i64 r.2.1, .int .i64 r.2.2.1, .str r.2.2.2.1, .str r.2.2.2.2.1, .vs 5 (encs_Expr r.2.2.2.2.2)])] := by
 refine fnA_of_wp (N := 9) Tryz.func99 rfl rfl rfl fun cK0 => ?_
 unfold s_expr_context_row_2 at hs
 refine v_same (ρ' := [(0, .agg (enc_Entry r_)), (1, .ptr 1000000 0 0)]) rfl rfl ?_
 refine v_seq (vr_text (o_runh 2 [(3, .bool false), (2, .ptr 2 0 0)] [(2, .box 71 [.str r_.Name, .int .i64 r_.N]), (1000000, .box 28 [.int .i64 a1_Op, .int .i64 a1_N, .str a1_S, .str a1_Key, .vs 5 (encs_Expr a1_Args)])] (by kernel_rfl) ?_))
 refine ov_nil (nrm_thenV (v_seq (vr_text (o_runs 6 [(3, .bool (decide (r_.Name = a1_Key))), (8, .bool (decide (r_.Name = a1_Key))), (7, .str a1_Key), (6, .ptr 1000000 0 3), (5, .str r_.Name), (4, .ptr 2 0 0)] (by kernel_rfl) ?_))))
 refine ov_nil (nrm_thenV (v_ret ?_))
 obtain rfl := si hs
 exact fin_ret (by kernel_rfl) (by kernel_rfl) (by kernel_rfl)
theorem w_slices_IndexFunc_3 (s : (List Entry)) (r_Op : Int) (r_N : Int) (r_S : (List UInt8)) (r_Key : (List UInt8)) (r_Args : (List Expr)) (r : Int × Int × Int × (List UInt8) × (List UInt8) × (List Expr)) (hs : s_slices_IndexFunc_3 s r_Op r_N r_S r_Key r_Args = some r) : FnA Tryz.prog 98 [.vs 2 (List.map enc_Entry s), .fn 99 [] [.ptr 1000000 0 0]] [(1000000, .box 28 [.int .i64 r_Op, .int .i64 r_N, .str r_S, .str r_Key, .vs 5 (encs_Expr r_Args)])] (.int .i64 r.1) [(1000000, .box 28 [.int .i64 r.2.1, .int .i64 r.2.2.1, .str r.2.2.2.1, .str r.2.2.2.2.1, .vs 5 (encs_Expr r.2.2.2.2.2)])] := by
 refine fnA_of_wp (N := 19) Tryz.func98 rfl rfl rfl fun cK0 => ?_
 unfold s_slices_IndexFunc_3 at hs
 refine v_same (ρ' := [(0, .vs 2 (List.map enc_Entry s)), (1, .fn 99 [] [.ptr 1000000 0 0])]) rfl rfl ?_
 refine v_seq (vr_text (o_runs 1 [(4, .int .i64 0)] (by kernel_rfl) ?_))
 refine ov_nil (nrm_thenV (v_seq (v_seq (vr_text (o_runs 1 [(6, .vs 2 (List.map enc_Entry s))] (by kernel_rfl) ?_)))))
 refine o_pure (v := .int .i64 (List.length s : Int)) (by kernel_rfl) (by kernel_rfl) (loc_lenVs (sz := 2) (els := (List.map enc_Entry s)) (by kernel_rfl) (by kernel_rfl) (List.length_map ..)) ?_
 refine o_runs 1 [(8, .int .i64 0)] (by kernel_rfl) ?_
 refine ov_nil (nrm_thenV ?_)
 obtain ⟨z1, hs, hk1⟩ := bind_some hs
 refine v_join (S := Int × Int × (List UInt8) × (List UInt8) × (List Expr)) (fun u => z1 = .inr u) (fun u => []) (fun u => [(1000000, .box 28 [.int .i64 u.1, .int .i64 u.2.1, .str u.2.2.1, .str u.2.2.2.1, .vs 5 (encs_Expr u.2.2.2.2)])]) ?_ (fun v1 hz => ?_)
 ·refine v_block ?_
  refine v_fuel (S := Int × Int × Int × (List UInt8) × (List UInt8) × (List Expr)) (fun u => [(0, .vs 2 (List.map enc_Entry s)), (1, .fn 99 [] [.ptr 1000000 0 0]), (7, .int .i64 (List.length s : Int)), (8, .int .i64 u.1)]) (fun u => [(1000000, .box 28 [.int .i64 u.2.1, .int .i64 u.2.2.1, .str u.2.2.2.1, .str u.2.2.2.2.1, .vs 5 (encs_Expr u.2.2.2.2.2)])]) (s_slices_IndexFunc_3_L1 s) (fun _ => rfl) KK (0, r_Op, r_N, r_S, r_Key, r_Args) hs (cut_of [0, 1, 7, 8] [1000000] (by kernel_rfl) (by kernel_rfl) (by kernel_rfl)) (fun K1 q1 hs => ?_)
  rw [s_slices_IndexFunc_3_L1] at hs
  show WpV cK0 Tryz.prog none 19 _ _ [(0, .vs 2 (List.map enc_Entry s)), (1, .fn 99 [] [.ptr 1000000 0 0]), (7, .int .i64 (List.length s : Int)), (8, .int .i64 q1.1)] [(1000000, .box 28 [.int .i64 q1.2.1, .int .i64 q1.2.2.1, .str q1.2.2.2.1, .str q1.2.2.2.2.1, .vs 5 (encs_Expr q1.2.2.2.2.2)])] []
  refine v_seq (vr_text (o_runs 1 [(9, .bool (decide (q1.1 < (List.length s : Int))))] (by kernel_rfl) ?_))
  refine ov_nil (nrm_thenV (v_seq ?_))
  refine v_cond (decide (q1.1 < (List.length s : Int))) (by kernel_rfl) (fun h1 => ?_) (fun h1 => ?_)
  ·replace hs := bif_t h1 hs
   refine v_skip (nrm_thenV (v_seq (v_block (v_seq (vr_text (o_runs 2 [(5, .int .i64 q1.1), (10, .int .i64 q1.1)] (by kernel_rfl) ?_))))))
   refine ov_nil (nrm_thenV (v_seq (vr_text (o_runs 3 [(13, .int .i64 q1.1), (12, .vs 2 (List.map enc_Entry s)), (11, .fn 99 [] [.ptr 1000000 0 0])] (by kernel_rfl) ?_))))
   obtain ⟨x1, g1, hs⟩ := bind_some hs; obtain ⟨g1a, g1b, g1c⟩ := idx_some g1
   refine o_pure (v := .vp (enc_Entry x1) 0) (by kernel_rfl) (by kernel_rfl) (loc_indexVs (e := 71) (sz := 2) (k := .i64) (els := (List.map enc_Entry s)) (cs := (enc_Entry x1)) (by kernel_rfl) (by kernel_rfl) (by kernel_rfl) g1a (by rw [g1c]; exact map_get _ (by omega))) ?_
   refine o_runs 1 [(15, .agg (enc_Entry x1))] (by kernel_rfl) ?_
   obtain ⟨y1, c1, hs⟩ := bind_some hs
   refine o_loc (F := [(1000000, .box 28 [.int .i64 q1.2.1, .int .i64 q1.2.2.1, .str q1.2.2.2.1, .str q1.2.2.2.2.1, .vs 5 (encs_Expr q1.2.2.2.2.2)])]) (F' := [(1000000, .box 28 [.int .i64 y1.2.1, .int .i64 y1.2.2.1, .str y1.2.2.2.1, .str y1.2.2.2.2.1, .vs 5 (encs_Expr y1.2.2.2.2.2)])]) (v := .bool y1.1) [1000000] (by kernel_rfl) (by kernel_rfl) rfl (by kernel_rfl) (loc_g (R := []) [.agg (enc_Entry x1), .ptr 1000000 0 0] [(1000000, 1000000)] (callV_val (first := []) (caps := [.ptr 1000000 0 0]) hbv99 (by kernel_rfl) (by kernel_rfl)) (w_expr_context_row_2 x1 q1.2.1 q1.2.2.1 q1.2.2.2.1 q1.2.2.2.2.1 q1.2.2.2.2.2 _ c1) (.cons (.same _) (.cons (.same _) (.nil))) (by kernel_rfl) (by kernel_rfl) (by kernel_rfl) (by kernel_rfl) (by kernel_rfl) (by kernel_rfl) (by kernel_rfl) (by kernel_rfl)) (by kernel_rfl) ?_
   refine ov_nil (nrm_thenV ?_)
   refine v_cond y1.1 (by kernel_rfl) (fun h2 => ?_) (fun h2 => ?_)
   ·replace hs := bif_t h2 hs
    refine v_seq (vr_text (o_runs 2 [(4, .int .i64 q1.1), (17, .int .i64 q1.1)] (by kernel_rfl) ?_))
    refine ov_nil (nrm_thenV (v_ret (ret_blkV (ret_thenV (ret_fuel ?_)))))
    refine ret_blkV (ret_join ?_)
    refine ret_thenV ?_
    obtain rfl := si hs
    replace hs := hk1
    obtain rfl := si hs
    exact fin_ret (by kernel_rfl) (by kernel_rfl) (by kernel_rfl)
   ·replace hs := bif_f h2 hs
    refine v_skip (nrm_blkV (nrm_thenV (vr_text (o_runs 2 [(8, .int .i64 (w64 (q1.1 + 1))), (18, .int .i64 (w64 (q1.1 + 1)))] (by kernel_rfl) ?_))))
    refine ov_nil (nrm_fuel ((w64 (q1.1 + 1)), y1.2.1, y1.2.2.1, y1.2.2.2.1, y1.2.2.2.2.1, y1.2.2.2.2.2) hs ?_)
    exact cut_of [0, 1, 7, 8] [1000000] (by kernel_rfl) (by kernel_rfl) (by kernel_rfl)
  ·replace hs := bif_f h1 hs
   refine v_exit (exit_thenV (exit_fuel ?_))
   refine exit_blkV ?_
   obtain rfl := si hs
   refine nrm_join (q1.2.1, q1.2.2.1, q1.2.2.2.1, q1.2.2.2.2.1, q1.2.2.2.2.2) rfl ?_
   exact cut_of [] [1000000] (by kernel_rfl) (by kernel_rfl) (by kernel_rfl)
 ·subst hz; clear hs; have hs := hk1; clear hk1
  refine nrm_thenV (v_seq (vr_text (o_runs 1 [(4, .int .i64 (-1))] (by kernel_rfl) ?_)))
  refine ov_nil (nrm_thenV (v_ret ?_))
  obtain rfl := si hs
  exact fin_ret (by kernel_rfl) (by kernel_rfl) (by kernel_rfl)
theorem w_expr_context_row (c_plan : Plan) (c_known : (List ((List UInt8) × Int))) (c_zones : (List (List UInt8))) (e : Expr) (r : Int) (hs : s_expr_context_row c_plan c_known c_zones e = some r) : FnA Tryz.prog 69 [.agg [.vs 6 (List.map enc_Def c_plan.Defs), .vs 3 (List.map enc_Table c_plan.Tables), .vs 3 (List.map enc_Zone c_plan.Zones), .vs 20 (List.map enc_Rule c_plan.Rules), .vs 4 (List.map enc_Cap c_plan.Caps), .vs 6 (List.map enc_View c_plan.Views), .vs 3 (List.map enc_Point3 c_plan.Sun), .int .i64 c_plan.Hours, .mp 1000000, .vs 1 (List.map EV.encS c_zones)], .agg (enc_Expr e)] [(1000000, .map (encM V.str (V.int .i64) c_known))] (.int .i64 r) [(1000000, .map (encM V.str (V.int .i64) c_known))] := by
 refine fnA_of_wp (N := 35) Tryz.func69 rfl rfl rfl fun cK0 => ?_
 unfold s_expr_context_row at hs
 refine v_same (ρ' := [(0, .agg [.vs 6 (List.map enc_Def c_plan.Defs), .vs 3 (List.map enc_Table c_plan.Tables), .vs 3 (List.map enc_Zone c_plan.Zones), .vs 20 (List.map enc_Rule c_plan.Rules), .vs 4 (List.map enc_Cap c_plan.Caps), .vs 6 (List.map enc_View c_plan.Views), .vs 3 (List.map enc_Point3 c_plan.Sun), .int .i64 c_plan.Hours, .mp 1000000, .vs 1 (List.map EV.encS c_zones)]), (1, .agg (enc_Expr e))]) rfl rfl ?_
 refine v_seq (vr_text (o_runh 3 [(4, .int .i64 0), (3, .ptr 3 0 0), (2, .ptr 2 0 0)] [(3, .box 28 [.int .i64 e.Op, .int .i64 e.N, .str e.S, .str e.Key, .vs 5 (encs_Expr e.Args)]), (2, .box 90 [.vs 6 (List.map enc_Def c_plan.Defs), .vs 3 (List.map enc_Table c_plan.Tables), .vs 3 (List.map enc_Zone c_plan.Zones), .vs 20 (List.map enc_Rule c_plan.Rules), .vs 4 (List.map enc_Cap c_plan.Caps), .vs 6 (List.map enc_View c_plan.Views), .vs 3 (List.map enc_Point3 c_plan.Sun), .int .i64 c_plan.Hours, .mp 1000000, .vs 1 (List.map EV.encS c_zones)]), (1000000, .map (encM V.str (V.int .i64) c_known))] (by kernel_rfl) ?_))
 refine ov_nil (nrm_thenV (v_seq (vr_text (o_runs 4 [(11, .fn 97 [] [.ptr 3 0 0]), (10, .vs 3 (List.map enc_Table c_plan.Tables)), (9, .ptr 2 0 1), (8, .ptr 2 0 0)] (by kernel_rfl) ?_))))
 obtain ⟨y1, c1, hs⟩ := bind_some hs
 refine o_loc (F := [(3, .box 28 [.int .i64 e.Op, .int .i64 e.N, .str e.S, .str e.Key, .vs 5 (encs_Expr e.Args)])]) (F' := [(3, .box 28 [.int .i64 y1.2.1, .int .i64 y1.2.2.1, .str y1.2.2.2.1, .str y1.2.2.2.2.1, .vs 5 (encs_Expr y1.2.2.2.2.2)])]) (v := .int .i64 y1.1) [3] (by kernel_rfl) (by kernel_rfl) rfl (by kernel_rfl) (loc_g (R := []) [.vs 3 (List.map enc_Table c_plan.Tables), .fn 97 [] [.ptr 3 0 0]] [(1000000, 3)] (callV_func hbv96 (by kernel_rfl)) (w_slices_IndexFunc_2 c_plan.Tables e.Op e.N e.S e.Key e.Args _ c1) (.cons (.same _) (.cons (.same _) (.nil))) (by kernel_rfl) (by kernel_rfl) (by kernel_rfl) (by kernel_rfl) (by kernel_rfl) (by kernel_rfl) (by kernel_rfl) (by kernel_rfl)) (by kernel_rfl) ?_
 refine o_runs 1 [(5, .int .i64 y1.1)] (by kernel_rfl) ?_
 refine ov_nil (nrm_thenV (v_seq (v_seq (vr_text (o_runs 2 [(14, .bool (decide (y1.1 < 0))), (13, .int .i64 y1.1)] (by kernel_rfl) ?_)))))
 refine ov_nil (nrm_thenV ?_)
 refine v_cond (decide (y1.1 < 0)) (by kernel_rfl) (fun h1 => ?_) (fun h1 => ?_)
 ·replace hs := bif_t h1 hs
  refine v_seq (vr_text (o_runs 1 [(4, .int .i64 0)] (by kernel_rfl) ?_))
  refine ov_nil (nrm_thenV (v_ret (ret_thenV ?_)))
  obtain rfl := si hs
  exact fin_ret (by kernel_rfl) (by kernel_rfl) (by kernel_rfl)
 ·replace hs := bif_f h1 hs
  refine v_skip (nrm_thenV (v_seq (vr_text (o_runs 4 [(18, .int .i64 y1.1), (17, .vs 3 (List.map enc_Table c_plan.Tables)), (16, .ptr 2 0 1), (15, .ptr 2 0 0)] (by kernel_rfl) ?_))))
  obtain ⟨x1, g1, hs⟩ := bind_some hs; obtain ⟨g1a, g1b, g1c⟩ := idx_some g1
  refine o_pure (v := .vp (enc_Table x1) 0) (by kernel_rfl) (by kernel_rfl) (loc_indexVs (e := 133) (sz := 3) (k := .i64) (els := (List.map enc_Table c_plan.Tables)) (cs := (enc_Table x1)) (by kernel_rfl) (by kernel_rfl) (by kernel_rfl) g1a (by rw [g1c]; exact map_get _ (by omega))) ?_
  refine o_runh 3 [(6, .ptr 6 0 0), (20, .agg (enc_Table x1))] [(6, .box 133 [.str x1.Name, .vs 2 (List.map enc_Entry x1.Rows), .int .i64 x1.Else]), (3, .box 28 [.int .i64 y1.2.1, .int .i64 y1.2.2.1, .str y1.2.2.2.1, .str y1.2.2.2.2.1, .vs 5 (encs_Expr y1.2.2.2.2.2)]), (2, .box 90 [.vs 6 (List.map enc_Def c_plan.Defs), .vs 3 (List.map enc_Table c_plan.Tables), .vs 3 (List.map enc_Zone c_plan.Zones), .vs 20 (List.map enc_Rule c_plan.Rules), .vs 4 (List.map enc_Cap c_plan.Caps), .vs 6 (List.map enc_View c_plan.Views), .vs 3 (List.map enc_Point3 c_plan.Sun), .int .i64 c_plan.Hours, .mp 1000000, .vs 1 (List.map EV.encS c_zones)]), (1000000, .map (encM V.str (V.int .i64) c_known))] (by kernel_rfl) ?_
  refine ov_nil (nrm_thenV (v_seq (v_seq (vr_text (o_runs 3 [(23, .fn 99 [] [.ptr 3 0 0]), (22, .vs 2 (List.map enc_Entry x1.Rows)), (21, .ptr 6 0 1)] (by kernel_rfl) ?_)))))
  obtain ⟨y2, c2, hs⟩ := bind_some hs
  refine o_loc (F := [(3, .box 28 [.int .i64 y1.2.1, .int .i64 y1.2.2.1, .str y1.2.2.2.1, .str y1.2.2.2.2.1, .vs 5 (encs_Expr y1.2.2.2.2.2)])]) (F' := [(3, .box 28 [.int .i64 y2.2.1, .int .i64 y2.2.2.1, .str y2.2.2.2.1, .str y2.2.2.2.2.1, .vs 5 (encs_Expr y2.2.2.2.2.2)])]) (v := .int .i64 y2.1) [3] (by kernel_rfl) (by kernel_rfl) rfl (by kernel_rfl) (loc_g (R := []) [.vs 2 (List.map enc_Entry x1.Rows), .fn 99 [] [.ptr 3 0 0]] [(1000000, 3)] (callV_func hbv98 (by kernel_rfl)) (w_slices_IndexFunc_3 x1.Rows y1.2.1 y1.2.2.1 y1.2.2.2.1 y1.2.2.2.2.1 y1.2.2.2.2.2 _ c2) (.cons (.same _) (.cons (.same _) (.nil))) (by kernel_rfl) (by kernel_rfl) (by kernel_rfl) (by kernel_rfl) (by kernel_rfl) (by kernel_rfl) (by kernel_rfl) (by kernel_rfl)) (by kernel_rfl) ?_
  refine o_runs 1 [(7, .int .i64 y2.1)] (by kernel_rfl) ?_
  refine ov_nil (nrm_thenV (v_seq (vr_text (o_runs 2 [(26, .bool (decide (y2.1 ≥ 0))), (25, .int .i64 y2.1)] (by kernel_rfl) ?_))))
  refine ov_nil (nrm_thenV ?_)
  refine v_cond (decide (y2.1 ≥ 0)) (by kernel_rfl) (fun h2 => ?_) (fun h2 => ?_)
  ·replace hs := bif_t h2 hs
   refine v_seq (vr_text (o_runs 3 [(29, .int .i64 y2.1), (28, .vs 2 (List.map enc_Entry x1.Rows)), (27, .ptr 6 0 1)] (by kernel_rfl) ?_))
   obtain ⟨x2, g2, hs⟩ := bind_some hs; obtain ⟨g2a, g2b, g2c⟩ := idx_some g2
   refine o_pure (v := .vp (enc_Entry x2) 0) (by kernel_rfl) (by kernel_rfl) (loc_indexVs (e := 71) (sz := 2) (k := .i64) (els := (List.map enc_Entry x1.Rows)) (cs := (enc_Entry x2)) (by kernel_rfl) (by kernel_rfl) (by kernel_rfl) g2a (by rw [g2c]; exact map_get _ (by omega))) ?_
   refine o_runs 3 [(4, .int .i64 x2.N), (32, .int .i64 x2.N), (31, .vp (enc_Entry x2) 1)] (by kernel_rfl) ?_
   refine ov_nil (nrm_thenV (v_ret (ret_thenV ?_)))
   obtain rfl := si hs
   exact fin_ret (by kernel_rfl) (by kernel_rfl) (by kernel_rfl)
  ·replace hs := bif_f h2 hs
   refine v_skip (nrm_thenV (v_seq (vr_text (o_runs 3 [(4, .int .i64 x1.Else), (34, .int .i64 x1.Else), (33, .ptr 6 0 2)] (by kernel_rfl) ?_))))
   refine ov_nil (nrm_thenV (v_ret ?_))
   obtain rfl := si hs
   exact fin_ret (by kernel_rfl) (by kernel_rfl) (by kernel_rfl)
theorem w_slices_Index (s : (List (List UInt8))) (v : (List UInt8)) (r : Int) (hs : s_slices_Index s v = some r) : FnA Tryz.prog 100 [.vs 1 (List.map EV.encS s), .str v] [] (.int .i64 r) [] := by
 refine fnA_of_wp (N := 19) Tryz.func100 rfl rfl rfl fun cK0 => ?_
 unfold s_slices_Index at hs
 refine v_same (ρ' := [(0, .vs 1 (List.map EV.encS s)), (1, .str v)]) rfl rfl ?_
 refine v_seq (vr_text (o_runs 1 [(4, .int .i64 0)] (by kernel_rfl) ?_))
 refine ov_nil (nrm_thenV (v_seq (v_seq (vr_text (o_runs 1 [(6, .vs 1 (List.map EV.encS s))] (by kernel_rfl) ?_)))))
 refine o_pure (v := .int .i64 (List.length s : Int)) (by kernel_rfl) (by kernel_rfl) (loc_lenVs (sz := 1) (els := (List.map EV.encS s)) (by kernel_rfl) (by kernel_rfl) (List.length_map ..)) ?_
 refine o_runs 1 [(8, .int .i64 0)] (by kernel_rfl) ?_
 refine ov_nil (nrm_thenV ?_)
 obtain ⟨z1, hs, hk1⟩ := bind_some hs
 refine v_join (S := Unit) (fun u => z1 = .inr u) (fun u => []) (fun u => []) ?_ (fun v1 hz => ?_)
 ·refine v_block ?_
  refine v_fuel (S := Int) (fun u => [(0, .vs 1 (List.map EV.encS s)), (1, .str v), (7, .int .i64 (List.length s : Int)), (8, .int .i64 u)]) (fun u => []) (s_slices_Index_L1 s v) (fun _ => rfl) KK 0 hs (cut_of [0, 1, 7, 8] [] (by kernel_rfl) (by kernel_rfl) (by kernel_rfl)) (fun K1 q1 hs => ?_)
  rw [s_slices_Index_L1] at hs
  show WpV cK0 Tryz.prog none 19 _ _ [(0, .vs 1 (List.map EV.encS s)), (1, .str v), (7, .int .i64 (List.length s : Int)), (8, .int .i64 q1)] [] []
  refine v_seq (vr_text (o_runs 1 [(9, .bool (decide (q1 < (List.length s : Int))))] (by kernel_rfl) ?_))
  refine ov_nil (nrm_thenV (v_seq ?_))
  refine v_cond (decide (q1 < (List.length s : Int))) (by kernel_rfl) (fun h1 => ?_) (fun h1 => ?_)
  ·replace hs := bif_t h1 hs
   refine v_skip (nrm_thenV (v_seq (v_block (v_seq (vr_text (o_runs 2 [(5, .int .i64 q1), (10, .int .i64 q1)] (by kernel_rfl) ?_))))))
   refine ov_nil (nrm_thenV (v_seq (vr_text (o_runs 3 [(13, .int .i64 q1), (12, .vs 1 (List.map EV.encS s)), (11, .str v)] (by kernel_rfl) ?_))))
   obtain ⟨x1, g1, hs⟩ := bind_some hs; obtain ⟨g1a, g1b, g1c⟩ := idx_some g1
   refine o_pure (v := .vp [.str x1] 0) (by kernel_rfl) (by kernel_rfl) (loc_indexVs (e := 9) (sz := 1) (k := .i64) (els := (List.map EV.encS s)) (cs := (EV.encS x1)) (by kernel_rfl) (by kernel_rfl) (by kernel_rfl) g1a (by rw [g1c]; exact map_get _ (by omega))) ?_
   refine o_runs 2 [(16, .bool (decide (v = x1))), (15, .str x1)] (by kernel_rfl) ?_
   refine ov_nil (nrm_thenV ?_)
   refine v_cond (decide (v = x1)) (by kernel_rfl) (fun h2 => ?_) (fun h2 => ?_)
   ·replace hs := bif_t h2 hs
    refine v_seq (vr_text (o_runs 2 [(4, .int .i64 q1), (17, .int .i64 q1)] (by kernel_rfl) ?_))
    refine ov_nil (nrm_thenV (v_ret (ret_blkV (ret_thenV (ret_fuel ?_)))))
    refine ret_blkV (ret_join ?_)
    refine ret_thenV ?_
    obtain rfl := si hs
    replace hs := hk1
    obtain rfl := si hs
    exact fin_ret (by kernel_rfl) (by kernel_rfl) (by kernel_rfl)
   ·replace hs := bif_f h2 hs
    refine v_skip (nrm_blkV (nrm_thenV (vr_text (o_runs 2 [(8, .int .i64 (w64 (q1 + 1))), (18, .int .i64 (w64 (q1 + 1)))] (by kernel_rfl) ?_))))
    refine ov_nil (nrm_fuel (w64 (q1 + 1)) hs ?_)
    exact cut_of [0, 1, 7, 8] [] (by kernel_rfl) (by kernel_rfl) (by kernel_rfl)
  ·replace hs := bif_f h1 hs
   refine v_exit (exit_thenV (exit_fuel ?_))
   refine exit_blkV ?_
   obtain rfl := si hs
   refine nrm_join () rfl ?_
   exact cut_of [] [] (by kernel_rfl) (by kernel_rfl) (by kernel_rfl)
 ·subst hz; clear hs; have hs := hk1; clear hk1
  refine nrm_thenV (v_seq (vr_text (o_runs 1 [(4, .int .i64 (-1))] (by kernel_rfl) ?_)))
  refine ov_nil (nrm_thenV (v_ret ?_))
  obtain rfl := si hs
  exact fin_ret (by kernel_rfl) (by kernel_rfl) (by kernel_rfl)
theorem w_slices_Contains (s : (List (List UInt8))) (v : (List UInt8)) (r : Bool) (hs : s_slices_Contains s v = some r) : FnA Tryz.prog 71 [.vs 1 (List.map EV.encS s), .str v] [] (.bool r) [] := by
 refine fnA_of_wp (N := 9) Tryz.func71 rfl rfl rfl fun cK0 => ?_
 unfold s_slices_Contains at hs
 refine v_same (ρ' := [(0, .vs 1 (List.map EV.encS s)), (1, .str v)]) rfl rfl ?_
 refine v_seq (vr_text (o_runs 1 [(4, .bool false)] (by kernel_rfl) ?_))
 refine ov_nil (nrm_thenV (v_seq (vr_text (o_runs 2 [(6, .str v), (5, .vs 1 (List.map EV.encS s))] (by kernel_rfl) ?_))))
 obtain ⟨y1, c1, hs⟩ := bind_some hs
 refine o_pure (v := .int .i64 y1) (by kernel_rfl) (by kernel_rfl) (loc_gcall0 (callV_func hbv100 (by kernel_rfl)) (w_slices_Index s v _ c1) (by kernel_rfl)) ?_
 refine o_runs 2 [(4, .bool (decide (y1 ≥ 0))), (8, .bool (decide (y1 ≥ 0)))] (by kernel_rfl) ?_
 refine ov_nil (nrm_thenV (v_ret ?_))
 obtain rfl := si hs
 exact fin_ret (by kernel_rfl) (by kernel_rfl) (by kernel_rfl)
theorem w_expr_bit (ok : Bool) (r : Int) (hs : s_expr_bit ok = some r) : FnA Tryz.prog 70 [.bool ok] [] (.int .i64 r) [] := by
 refine fnA_of_wp (N := 4) Tryz.func70 rfl rfl rfl fun cK0 => ?_
 unfold s_expr_bit at hs
 refine v_same (ρ' := [(0, .bool ok)]) rfl rfl ?_
 refine v_seq (vr_text (o_runs 1 [(2, .int .i64 0)] (by kernel_rfl) ?_))
 refine ov_nil (nrm_thenV (v_seq (v_seq (vr_text (o_runs 1 [(3, .bool ok)] (by kernel_rfl) ?_)))))
 refine ov_nil (nrm_thenV ?_)
 refine v_cond ok (by kernel_rfl) (fun h1 => ?_) (fun h1 => ?_)
 ·replace hs := bif_t h1 hs
  refine v_seq (vr_text (o_runs 1 [(2, .int .i64 1)] (by kernel_rfl) ?_))
  refine ov_nil (nrm_thenV (v_ret (ret_thenV ?_)))
  obtain rfl := si hs
  exact fin_ret (by kernel_rfl) (by kernel_rfl) (by kernel_rfl)
 ·replace hs := bif_f h1 hs
  refine v_skip (nrm_thenV (v_seq (vr_text (o_runs 1 [(2, .int .i64 0)] (by kernel_rfl) ?_))))
  refine ov_nil (nrm_thenV (v_ret ?_))
  obtain rfl := si hs
  exact fin_ret (by kernel_rfl) (by kernel_rfl) (by kernel_rfl)
theorem w_expr_quotient (a : Int) (b : Int) (r : Int) (hs : s_expr_quotient a b = some r) : FnA Tryz.prog 101 [.int .i64 a, .int .i64 b] [] (.int .i64 r) [] := by
 refine fnA_of_wp (N := 27) Tryz.func101 rfl rfl rfl fun cK0 => ?_
 unfold s_expr_quotient at hs
 refine v_same (ρ' := [(0, .int .i64 a), (1, .int .i64 b)]) rfl rfl ?_
 refine v_seq (vr_text (o_runs 1 [(4, .int .i64 0)] (by kernel_rfl) ?_))
 refine ov_nil (nrm_thenV (v_seq (v_seq (vr_text (o_runs 2 [(8, .bool (decide (b = 0))), (7, .int .i64 b)] (by kernel_rfl) ?_)))))
 refine ov_nil (nrm_thenV ?_)
 refine v_cond (decide (b = 0)) (by kernel_rfl) (fun h1 => ?_) (fun h1 => ?_)
 ·replace hs := bif_t h1 hs
  refine v_seq (vr_text (o_runs 1 [(4, .int .i64 0)] (by kernel_rfl) ?_))
  refine ov_nil (nrm_thenV (v_ret (ret_thenV ?_)))
  obtain rfl := si hs
  exact fin_ret (by kernel_rfl) (by kernel_rfl) (by kernel_rfl)
 ·replace hs := bif_f h1 hs
  refine v_skip (nrm_thenV (v_seq (vr_text (o_runs 2 [(10, .int .i64 b), (9, .int .i64 a)] (by kernel_rfl) ?_))))
  obtain ⟨_, g1, hs⟩ := bind_some hs; replace g1 := grd_some g1
  refine o_pure (v := .int .i64 (w64 (Int.tdiv a b))) (by kernel_rfl) (by kernel_rfl) (loc_div (k := .i64) (a := a) (b := b) (by simp) (by kernel_rfl) (by kernel_rfl) g1) ?_
  refine o_runs 1 [(5, .int .i64 (w64 (Int.tdiv a b)))] (by kernel_rfl) ?_
  refine ov_nil (nrm_thenV (v_seq (v_seq (vr_text (o_runs 2 [(13, .int .i64 b), (12, .int .i64 a)] (by kernel_rfl) ?_)))))
  obtain ⟨_, g2, hs⟩ := bind_some hs; replace g2 := grd_some g2
  refine o_pure (v := .int .i64 (Int.tmod a b)) (by kernel_rfl) (by kernel_rfl) (loc_div (k := .i64) (a := a) (b := b) (by simp) (by kernel_rfl) (by kernel_rfl) g2) ?_
  refine o_runs 1 [(6, .int .i64 (Int.tmod a b))] (by kernel_rfl) ?_
  refine ov_nil (nrm_thenV (v_seq ?_))
  obtain ⟨z1, hs, hk1⟩ := bind_some hs
  refine v_join (S := Bool) (fun u => u = z1) (fun u => [(5, .int .i64 (w64 (Int.tdiv a b))), (23, .bool u)]) (fun u => []) ?_ (fun v1 hz => ?_)
  ·refine vr_text (o_runs 3 [(17, .bool (!(decide ((Int.tmod a b) = 0)))), (16, .bool (!(decide ((Int.tmod a b) = 0)))), (15, .int .i64 (Int.tmod a b))] (by kernel_rfl) ?_)
   cases h2 : ((!(decide ((Int.tmod a b) = 0))))
   ·replace hs := bif_f h2 hs
    refine o_runs 6 [(23, .bool false), (22, .no), (21, .no), (20, .no), (19, .no), (18, .no)] (by kernel_rfl) ?_
    refine ov_nil ?_
    obtain rfl := si hs
    refine nrm_join false rfl ?_
    exact cut_of [5, 23] [] (by kernel_rfl) (by kernel_rfl) (by kernel_rfl)
   ·replace hs := bif_t h2 hs
    refine o_runs 6 [(23, .bool (!((decide ((Int.tmod a b) < 0)) == (decide (b < 0))))), (22, .bool (!((decide ((Int.tmod a b) < 0)) == (decide (b < 0))))), (21, .bool (decide (b < 0))), (20, .int .i64 b), (19, .bool (decide ((Int.tmod a b) < 0))), (18, .int .i64 (Int.tmod a b))] (by kernel_rfl) ?_
    refine ov_nil ?_
    obtain rfl := si hs
    refine nrm_join (!((decide ((Int.tmod a b) < 0)) == (decide (b < 0)))) rfl ?_
    exact cut_of [5, 23] [] (by kernel_rfl) (by kernel_rfl) (by kernel_rfl)
  ·subst hz; clear hs; have hs := hk1; clear hk1
   refine nrm_thenV ?_
   obtain ⟨z2, hs, hk2⟩ := bind_some hs
   refine v_join (S := Int) (fun u => u = z2) (fun u => [(5, .int .i64 u)]) (fun u => []) ?_ (fun v2 hz => ?_)
   ·refine v_cond v1 (by kernel_rfl) (fun h3 => ?_) (fun h3 => ?_)
    ·replace hs := bif_t h3 hs
     refine vr_text (o_runs 3 [(5, .int .i64 (w64 ((w64 (Int.tdiv a b)) - 1))), (25, .int .i64 (w64 ((w64 (Int.tdiv a b)) - 1))), (24, .int .i64 (w64 (Int.tdiv a b)))] (by kernel_rfl) ?_)
     refine ov_nil ?_
     obtain rfl := si hs
     refine nrm_join (w64 ((w64 (Int.tdiv a b)) - 1)) rfl ?_
     exact cut_of [5] [] (by kernel_rfl) (by kernel_rfl) (by kernel_rfl)
    ·replace hs := bif_f h3 hs
     refine v_skip ?_
     obtain rfl := si hs
     refine nrm_join (w64 (Int.tdiv a b)) rfl ?_
     exact cut_of [5] [] (by kernel_rfl) (by kernel_rfl) (by kernel_rfl)
   ·subst hz; clear hs; have hs := hk2; clear hk2
    refine nrm_thenV (v_seq (vr_text (o_runs 2 [(4, .int .i64 v2), (26, .int .i64 v2)] (by kernel_rfl) ?_)))
    refine ov_nil (nrm_thenV (v_ret ?_))
    obtain rfl := si hs
    exact fin_ret (by kernel_rfl) (by kernel_rfl) (by kernel_rfl)
theorem w_expr_binary (op : Int) (a : Int) (b : Int) (r : Int) (hs : s_expr_binary op a b = some r) : FnA Tryz.prog 72 [.int .i64 op, .int .i64 a, .int .i64 b] [] (.int .i64 r) [] := by
 refine fnA_of_wp (N := 73) Tryz.func72 rfl rfl rfl fun cK0 => ?_
 unfold s_expr_binary at hs
 refine v_same (ρ' := [(0, .int .i64 op), (1, .int .i64 a), (2, .int .i64 b)]) rfl rfl ?_
 refine v_seq (vr_text (o_runs 1 [(6, .int .i64 0)] (by kernel_rfl) ?_))
 refine ov_nil (nrm_thenV (v_seq (v_seq (vr_text (o_runs 1 [(7, .int .i64 op)] (by kernel_rfl) ?_)))))
 refine ov_nil (nrm_thenV (v_block (v_seq (vr_text (o_runs 2 [(8, .bool (decide (op = 4))), (9, .bool (decide (op = 4)))] (by kernel_rfl) ?_)))))
 refine ov_nil (nrm_thenV ?_)
 refine v_cond (decide (op = 4)) (by kernel_rfl) (fun h1 => ?_) (fun h1 => ?_)
 ·replace hs := bif_t h1 hs
  refine v_seq (vr_text (o_runs 4 [(6, .int .i64 (w64 (a + b))), (12, .int .i64 (w64 (a + b))), (11, .int .i64 b), (10, .int .i64 a)] (by kernel_rfl) ?_))
  refine ov_nil (nrm_thenV (v_ret (ret_blkV (ret_thenV ?_))))
  obtain rfl := si hs
  exact fin_ret (by kernel_rfl) (by kernel_rfl) (by kernel_rfl)
 ·replace hs := bif_f h1 hs
  refine v_seq (vr_text (o_runs 2 [(13, .bool (decide (op = 5))), (14, .bool (decide (op = 5)))] (by kernel_rfl) ?_))
  refine ov_nil (nrm_thenV ?_)
  refine v_cond (decide (op = 5)) (by kernel_rfl) (fun h2 => ?_) (fun h2 => ?_)
  ·replace hs := bif_t h2 hs
   refine v_seq (vr_text (o_runs 4 [(6, .int .i64 (w64 (a - b))), (17, .int .i64 (w64 (a - b))), (16, .int .i64 b), (15, .int .i64 a)] (by kernel_rfl) ?_))
   refine ov_nil (nrm_thenV (v_ret (ret_blkV (ret_thenV ?_))))
   obtain rfl := si hs
   exact fin_ret (by kernel_rfl) (by kernel_rfl) (by kernel_rfl)
  ·replace hs := bif_f h2 hs
   refine v_seq (vr_text (o_runs 2 [(18, .bool (decide (op = 6))), (19, .bool (decide (op = 6)))] (by kernel_rfl) ?_))
   refine ov_nil (nrm_thenV ?_)
   refine v_cond (decide (op = 6)) (by kernel_rfl) (fun h3 => ?_) (fun h3 => ?_)
   ·replace hs := bif_t h3 hs
    refine v_seq (vr_text (o_runs 4 [(6, .int .i64 (w64 (a * b))), (22, .int .i64 (w64 (a * b))), (21, .int .i64 b), (20, .int .i64 a)] (by kernel_rfl) ?_))
    refine ov_nil (nrm_thenV (v_ret (ret_blkV (ret_thenV ?_))))
    obtain rfl := si hs
    exact fin_ret (by kernel_rfl) (by kernel_rfl) (by kernel_rfl)
   ·replace hs := bif_f h3 hs
    refine v_seq (vr_text (o_runs 2 [(23, .bool (decide (op = 7))), (24, .bool (decide (op = 7)))] (by kernel_rfl) ?_))
    refine ov_nil (nrm_thenV ?_)
    refine v_cond (decide (op = 7)) (by kernel_rfl) (fun h4 => ?_) (fun h4 => ?_)
    ·replace hs := bif_t h4 hs
     refine v_seq (vr_text (o_runs 2 [(26, .int .i64 b), (25, .int .i64 a)] (by kernel_rfl) ?_))
     obtain ⟨y1, c1, hs⟩ := bind_some hs
     refine o_pure (v := .int .i64 y1) (by kernel_rfl) (by kernel_rfl) (loc_gcall0 (callV_func hbv101 (by kernel_rfl)) (w_expr_quotient a b _ c1) (by kernel_rfl)) ?_
     refine o_runs 1 [(6, .int .i64 y1)] (by kernel_rfl) ?_
     refine ov_nil (nrm_thenV (v_ret (ret_blkV (ret_thenV ?_))))
     obtain rfl := si hs
     exact fin_ret (by kernel_rfl) (by kernel_rfl) (by kernel_rfl)
    ·replace hs := bif_f h4 hs
     refine v_seq (vr_text (o_runs 2 [(28, .bool (decide (op = 8))), (29, .bool (decide (op = 8)))] (by kernel_rfl) ?_))
     refine ov_nil (nrm_thenV ?_)
     refine v_cond (decide (op = 8)) (by kernel_rfl) (fun h5 => ?_) (fun h5 => ?_)
     ·replace hs := bif_t h5 hs
      refine v_seq (v_seq (vr_text (o_runs 2 [(31, .bool (decide (b = 0))), (30, .int .i64 b)] (by kernel_rfl) ?_)))
      refine ov_nil (nrm_thenV ?_)
      refine v_cond (decide (b = 0)) (by kernel_rfl) (fun h6 => ?_) (fun h6 => ?_)
      ·replace hs := bif_t h6 hs
       refine v_seq (vr_text (o_runs 1 [(6, .int .i64 0)] (by kernel_rfl) ?_))
       refine ov_nil (nrm_thenV (v_ret (ret_thenV (ret_blkV (ret_thenV ?_)))))
       obtain rfl := si hs
       exact fin_ret (by kernel_rfl) (by kernel_rfl) (by kernel_rfl)
      ·replace hs := bif_f h6 hs
       refine v_skip (nrm_thenV (v_seq (vr_text (o_runs 3 [(34, .int .i64 b), (33, .int .i64 a), (32, .int .i64 a)] (by kernel_rfl) ?_))))
       obtain ⟨y2, c2, hs⟩ := bind_some hs
       refine o_pure (v := .int .i64 y2) (by kernel_rfl) (by kernel_rfl) (loc_gcall0 (callV_func hbv101 (by kernel_rfl)) (w_expr_quotient a b _ c2) (by kernel_rfl)) ?_
       refine o_runs 4 [(6, .int .i64 (w64 (a - (w64 (y2 * b))))), (38, .int .i64 (w64 (a - (w64 (y2 * b))))), (37, .int .i64 (w64 (y2 * b))), (36, .int .i64 b)] (by kernel_rfl) ?_
       refine ov_nil (nrm_thenV (v_ret (ret_blkV (ret_thenV ?_))))
       obtain rfl := si hs
       exact fin_ret (by kernel_rfl) (by kernel_rfl) (by kernel_rfl)
     ·replace hs := bif_f h5 hs
      refine v_seq (vr_text (o_runs 2 [(39, .bool (decide (op = 10))), (40, .bool (decide (op = 10)))] (by kernel_rfl) ?_))
      refine ov_nil (nrm_thenV ?_)
      refine v_cond (decide (op = 10)) (by kernel_rfl) (fun h7 => ?_) (fun h7 => ?_)
      ·replace hs := bif_t h7 hs
       refine v_seq (vr_text (o_runs 3 [(43, .bool (decide (a = b))), (42, .int .i64 b), (41, .int .i64 a)] (by kernel_rfl) ?_))
       obtain ⟨y3, c3, hs⟩ := bind_some hs
       refine o_pure (v := .int .i64 y3) (by kernel_rfl) (by kernel_rfl) (loc_gcall0 (callV_func hbv70 (by kernel_rfl)) (w_expr_bit (decide (a = b)) _ c3) (by kernel_rfl)) ?_
       refine o_runs 1 [(6, .int .i64 y3)] (by kernel_rfl) ?_
       refine ov_nil (nrm_thenV (v_ret (ret_blkV (ret_thenV ?_))))
       obtain rfl := si hs
       exact fin_ret (by kernel_rfl) (by kernel_rfl) (by kernel_rfl)
      ·replace hs := bif_f h7 hs
       refine v_seq (vr_text (o_runs 2 [(45, .bool (decide (op = 11))), (46, .bool (decide (op = 11)))] (by kernel_rfl) ?_))
       refine ov_nil (nrm_thenV ?_)
       refine v_cond (decide (op = 11)) (by kernel_rfl) (fun h8 => ?_) (fun h8 => ?_)
       ·replace hs := bif_t h8 hs
        refine v_seq (vr_text (o_runs 3 [(49, .bool (decide (a < b))), (48, .int .i64 b), (47, .int .i64 a)] (by kernel_rfl) ?_))
        obtain ⟨y4, c4, hs⟩ := bind_some hs
        refine o_pure (v := .int .i64 y4) (by kernel_rfl) (by kernel_rfl) (loc_gcall0 (callV_func hbv70 (by kernel_rfl)) (w_expr_bit (decide (a < b)) _ c4) (by kernel_rfl)) ?_
        refine o_runs 1 [(6, .int .i64 y4)] (by kernel_rfl) ?_
        refine ov_nil (nrm_thenV (v_ret (ret_blkV (ret_thenV ?_))))
        obtain rfl := si hs
        exact fin_ret (by kernel_rfl) (by kernel_rfl) (by kernel_rfl)
       ·replace hs := bif_f h8 hs
        refine v_seq (vr_text (o_runs 2 [(51, .bool (decide (op = 12))), (52, .bool (decide (op = 12)))] (by kernel_rfl) ?_))
        refine ov_nil (nrm_thenV ?_)
        refine v_cond (decide (op = 12)) (by kernel_rfl) (fun h9 => ?_) (fun h9 => ?_)
        ·replace hs := bif_t h9 hs
         refine v_seq (vr_text (o_runs 3 [(55, .bool (decide (a ≤ b))), (54, .int .i64 b), (53, .int .i64 a)] (by kernel_rfl) ?_))
         obtain ⟨y5, c5, hs⟩ := bind_some hs
         refine o_pure (v := .int .i64 y5) (by kernel_rfl) (by kernel_rfl) (loc_gcall0 (callV_func hbv70 (by kernel_rfl)) (w_expr_bit (decide (a ≤ b)) _ c5) (by kernel_rfl)) ?_
         refine o_runs 1 [(6, .int .i64 y5)] (by kernel_rfl) ?_
         refine ov_nil (nrm_thenV (v_ret (ret_blkV (ret_thenV ?_))))
         obtain rfl := si hs
         exact fin_ret (by kernel_rfl) (by kernel_rfl) (by kernel_rfl)
        ·replace hs := bif_f h9 hs
         refine v_seq (vr_text (o_runs 2 [(57, .bool (decide (op = 13))), (58, .bool (decide (op = 13)))] (by kernel_rfl) ?_))
         refine ov_nil (nrm_thenV ?_)
         refine v_cond (decide (op = 13)) (by kernel_rfl) (fun h10 => ?_) (fun h10 => ?_)
         ·replace hs := bif_t h10 hs
          refine v_seq ?_
          obtain ⟨z1, hs, hk1⟩ := bind_some hs
          refine v_join (S := Int) (fun u => u = z1) (fun u => [(6, .int .i64 u)]) (fun u => []) ?_ (fun v1 hz => ?_)
          ·refine vr_text (o_runs 3 [(61, .bool (!(decide (a = 0)))), (60, .bool (!(decide (a = 0)))), (59, .int .i64 a)] (by kernel_rfl) ?_)
           cases h11 : ((!(decide (a = 0))))
           ·replace hs := bif_f h11 hs
            refine o_runs 3 [(64, .bool false), (63, .no), (62, .no)] (by kernel_rfl) ?_
            obtain ⟨y6, c6, hs⟩ := bind_some hs
            refine o_pure (v := .int .i64 y6) (by kernel_rfl) (by kernel_rfl) (loc_gcall0 (callV_func hbv70 (by kernel_rfl)) (w_expr_bit false _ c6) (by kernel_rfl)) ?_
            refine o_runs 1 [(6, .int .i64 y6)] (by kernel_rfl) ?_
            refine ov_nil ?_
            obtain rfl := si hs
            refine nrm_join y6 rfl ?_
            exact cut_of [6] [] (by kernel_rfl) (by kernel_rfl) (by kernel_rfl)
           ·replace hs := bif_t h11 hs
            refine o_runs 3 [(64, .bool (!(decide (b = 0)))), (63, .bool (!(decide (b = 0)))), (62, .int .i64 b)] (by kernel_rfl) ?_
            obtain ⟨y7, c7, hs⟩ := bind_some hs
            refine o_pure (v := .int .i64 y7) (by kernel_rfl) (by kernel_rfl) (loc_gcall0 (callV_func hbv70 (by kernel_rfl)) (w_expr_bit (!(decide (b = 0))) _ c7) (by kernel_rfl)) ?_
            refine o_runs 1 [(6, .int .i64 y7)] (by kernel_rfl) ?_
            refine ov_nil ?_
            obtain rfl := si hs
            refine nrm_join y7 rfl ?_
            exact cut_of [6] [] (by kernel_rfl) (by kernel_rfl) (by kernel_rfl)
          ·subst hz; clear hs; have hs := hk1; clear hk1
           refine nrm_thenV (v_ret (ret_blkV (ret_thenV ?_)))
           obtain rfl := si hs
           exact fin_ret (by kernel_rfl) (by kernel_rfl) (by kernel_rfl)
         ·replace hs := bif_f h10 hs
          refine v_skip (nrm_blkV (nrm_thenV (v_seq ?_)))
          obtain ⟨z2, hs, hk2⟩ := bind_some hs
          refine v_join (S := Int) (fun u => u = z2) (fun u => [(6, .int .i64 u)]) (fun u => []) ?_ (fun v2 hz => ?_)
          ·refine vr_text (o_runs 3 [(68, .bool (!(decide (a = 0)))), (67, .bool (!(decide (a = 0)))), (66, .int .i64 a)] (by kernel_rfl) ?_)
           cases h12 : ((!(decide (a = 0))))
           ·replace hs := bif_f h12 hs
            refine o_runs 3 [(71, .bool (!(decide (b = 0)))), (70, .bool (!(decide (b = 0)))), (69, .int .i64 b)] (by kernel_rfl) ?_
            obtain ⟨y8, c8, hs⟩ := bind_some hs
            refine o_pure (v := .int .i64 y8) (by kernel_rfl) (by kernel_rfl) (loc_gcall0 (callV_func hbv70 (by kernel_rfl)) (w_expr_bit (!(decide (b = 0))) _ c8) (by kernel_rfl)) ?_
            refine o_runs 1 [(6, .int .i64 y8)] (by kernel_rfl) ?_
            refine ov_nil ?_
            obtain rfl := si hs
            refine nrm_join y8 rfl ?_
            exact cut_of [6] [] (by kernel_rfl) (by kernel_rfl) (by kernel_rfl)
           ·replace hs := bif_t h12 hs
            refine o_runs 3 [(71, .bool true), (70, .no), (69, .no)] (by kernel_rfl) ?_
            obtain ⟨y9, c9, hs⟩ := bind_some hs
            refine o_pure (v := .int .i64 y9) (by kernel_rfl) (by kernel_rfl) (loc_gcall0 (callV_func hbv70 (by kernel_rfl)) (w_expr_bit true _ c9) (by kernel_rfl)) ?_
            refine o_runs 1 [(6, .int .i64 y9)] (by kernel_rfl) ?_
            refine ov_nil ?_
            obtain rfl := si hs
            refine nrm_join y9 rfl ?_
            exact cut_of [6] [] (by kernel_rfl) (by kernel_rfl) (by kernel_rfl)
          ·subst hz; clear hs; have hs := hk2; clear hk2
           refine nrm_thenV (v_ret ?_)
           obtain rfl := si hs
           exact fin_ret (by kernel_rfl) (by kernel_rfl) (by kernel_rfl)
theorem ws_expr_context_value (nF : Nat) (ih_expr_context_value : ∀ (c_plan : Plan) (c_known : (List ((List UInt8) × Int))) (c_zones : (List (List UInt8))) (e : Expr) (r : Int), s_expr_context_value nF c_plan c_known c_zones e = some r → FnA Tryz.prog 57 [.agg [.vs 6 (List.map enc_Def c_plan.Defs), .vs 3 (List.map enc_Table c_plan.Tables), .vs 3 (List.map enc_Zone c_plan.Zones), .vs 20 (List.map enc_Rule c_plan.Rules), .vs 4 (List.map enc_Cap c_plan.Caps), .vs 6 (List.map enc_View c_plan.Views), .vs 3 (List.map enc_Point3 c_plan.Sun), .int .i64 c_plan.Hours, .mp 1000000, .vs 1 (List.map EV.encS c_zones)], .agg (enc_Expr e)] [(1000000, .map (encM V.str (V.int .i64) c_known))] (.int .i64 r) [(1000000, .map (encM V.str (V.int .i64) c_known))]) (c_plan : Plan) (c_known : (List ((List UInt8) × Int))) (c_zones : (List (List UInt8))) (e : Expr) (r : Int) (hs : s_expr_context_value (nF + 1) c_plan c_known c_zones e = some r) : FnA Tryz.prog 57 [.agg [.vs 6 (List.map enc_Def c_plan.Defs), .vs 3 (List.map enc_Table c_plan.Tables), .vs 3 (List.map enc_Zone c_plan.Zones), .vs 20 (List.map enc_Rule c_plan.Rules), .vs 4 (List.map enc_Cap c_plan.Caps), .vs 6 (List.map enc_View c_plan.Views), .vs 3 (List.map enc_Point3 c_plan.Sun), .int .i64 c_plan.Hours, .mp 1000000, .vs 1 (List.map EV.encS c_zones)], .agg (enc_Expr e)] [(1000000, .map (encM V.str (V.int .i64) c_known))] (.int .i64 r) [(1000000, .map (encM V.str (V.int .i64) c_known))] := by
 refine fnA_of_wp (N := 102) Tryz.func57 rfl rfl rfl fun cK0 => ?_
 rw [s_expr_context_value] at hs
 refine v_same (ρ' := [(0, .agg [.vs 6 (List.map enc_Def c_plan.Defs), .vs 3 (List.map enc_Table c_plan.Tables), .vs 3 (List.map enc_Zone c_plan.Zones), .vs 20 (List.map enc_Rule c_plan.Rules), .vs 4 (List.map enc_Cap c_plan.Caps), .vs 6 (List.map enc_View c_plan.Views), .vs 3 (List.map enc_Point3 c_plan.Sun), .int .i64 c_plan.Hours, .mp 1000000, .vs 1 (List.map EV.encS c_zones)]), (1, .agg (enc_Expr e))]) rfl rfl ?_
 refine v_seq (vr_text (o_runh 3 [(4, .int .i64 0), (3, .ptr 3 0 0), (2, .ptr 2 0 0)] [(3, .box 28 [.int .i64 e.Op, .int .i64 e.N, .str e.S, .str e.Key, .vs 5 (encs_Expr e.Args)]), (2, .box 90 [.vs 6 (List.map enc_Def c_plan.Defs), .vs 3 (List.map enc_Table c_plan.Tables), .vs 3 (List.map enc_Zone c_plan.Zones), .vs 20 (List.map enc_Rule c_plan.Rules), .vs 4 (List.map enc_Cap c_plan.Caps), .vs 6 (List.map enc_View c_plan.Views), .vs 3 (List.map enc_Point3 c_plan.Sun), .int .i64 c_plan.Hours, .mp 1000000, .vs 1 (List.map EV.encS c_zones)]), (1000000, .map (encM V.str (V.int .i64) c_known))] (by kernel_rfl) ?_))
 refine ov_nil (nrm_thenV (v_seq (vr_text (o_runs 1 [(5, .nils)] (by kernel_rfl) ?_))))
 refine ov_nil (nrm_thenV (v_seq (v_seq (vr_text (o_runs 2 [(9, .vs 5 (encs_Expr e.Args)), (8, .ptr 3 0 4)] (by kernel_rfl) ?_)))))
 refine o_pure (v := .int .i64 (List.length e.Args : Int)) (by kernel_rfl) (by kernel_rfl) (loc_lenVs (sz := 5) (els := (encs_Expr e.Args)) (by kernel_rfl) (by kernel_rfl) (by rw [encs_Expr_eq, List.length_map])) ?_
 refine o_runs 1 [(11, .int .i64 0)] (by kernel_rfl) ?_
 refine ov_nil (nrm_thenV ?_)
 obtain ⟨z1, hs, hk1⟩ := bind_some hs
 refine v_join (S := (List Int)) (fun u => u = z1) (fun u => [(2, .ptr 2 0 0), (3, .ptr 3 0 0), (5, .sl 1 2000035 ((u).length) 0 ((u).length))]) (fun u => [(3, .box 28 [.int .i64 e.Op, .int .i64 e.N, .str e.S, .str e.Key, .vs 5 (encs_Expr e.Args)]), (2, .box 90 [.vs 6 (List.map enc_Def c_plan.Defs), .vs 3 (List.map enc_Table c_plan.Tables), .vs 3 (List.map enc_Zone c_plan.Zones), .vs 20 (List.map enc_Rule c_plan.Rules), .vs 4 (List.map enc_Cap c_plan.Caps), .vs 6 (List.map enc_View c_plan.Views), .vs 3 (List.map enc_Point3 c_plan.Sun), .int .i64 c_plan.Hours, .mp 1000000, .vs 1 (List.map EV.encS c_zones)]), (1000000, .map (encM V.str (V.int .i64) c_known)), (2000035, .row 3 1 0 (List.map EV.encI u))]) ?_ (fun v1 hz => ?_)
 ·refine v_block ?_
  refine v_fuel (S := Int × (List Int)) (fun u => [(2, .ptr 2 0 0), (3, .ptr 3 0 0), (5, .sl 1 2000035 ((u.2).length) 0 ((u.2).length)), (9, .vs 5 (encs_Expr e.Args)), (10, .int .i64 (List.length e.Args : Int)), (11, .int .i64 u.1)]) (fun u => [(3, .box 28 [.int .i64 e.Op, .int .i64 e.N, .str e.S, .str e.Key, .vs 5 (encs_Expr e.Args)]), (2, .box 90 [.vs 6 (List.map enc_Def c_plan.Defs), .vs 3 (List.map enc_Table c_plan.Tables), .vs 3 (List.map enc_Zone c_plan.Zones), .vs 20 (List.map enc_Rule c_plan.Rules), .vs 4 (List.map enc_Cap c_plan.Caps), .vs 6 (List.map enc_View c_plan.Views), .vs 3 (List.map enc_Point3 c_plan.Sun), .int .i64 c_plan.Hours, .mp 1000000, .vs 1 (List.map EV.encS c_zones)]), (1000000, .map (encM V.str (V.int .i64) c_known)), (2000035, .row 3 1 0 (List.map EV.encI u.2))]) (s_expr_context_value_L1 (s_expr_context_value nF) c_plan c_known c_zones e) (fun _ => rfl) KK (0, []) hs (Cut.trans (cut_nilRow 5 2000035 3 1 rfl (by kernel_rfl) (by kernel_rfl)) (cut_of [2, 3, 5, 9, 10, 11] [3, 2, 1000000, 2000035] (by kernel_rfl) (by kernel_rfl) (by kernel_rfl))) (fun K1 q1 hs => ?_)
  rw [s_expr_context_value_L1] at hs
  show WpV cK0 Tryz.prog none 102 _ _ [(2, .ptr 2 0 0), (3, .ptr 3 0 0), (5, .sl 1 2000035 ((q1.2).length) 0 ((q1.2).length)), (9, .vs 5 (encs_Expr e.Args)), (10, .int .i64 (List.length e.Args : Int)), (11, .int .i64 q1.1)] [(3, .box 28 [.int .i64 e.Op, .int .i64 e.N, .str e.S, .str e.Key, .vs 5 (encs_Expr e.Args)]), (2, .box 90 [.vs 6 (List.map enc_Def c_plan.Defs), .vs 3 (List.map enc_Table c_plan.Tables), .vs 3 (List.map enc_Zone c_plan.Zones), .vs 20 (List.map enc_Rule c_plan.Rules), .vs 4 (List.map enc_Cap c_plan.Caps), .vs 6 (List.map enc_View c_plan.Views), .vs 3 (List.map enc_Point3 c_plan.Sun), .int .i64 c_plan.Hours, .mp 1000000, .vs 1 (List.map EV.encS c_zones)]), (1000000, .map (encM V.str (V.int .i64) c_known)), (2000035, .row 3 1 0 (List.map EV.encI q1.2))] []
  refine v_seq (vr_text (o_runs 1 [(12, .bool (decide (q1.1 < (List.length e.Args : Int))))] (by kernel_rfl) ?_))
  refine ov_nil (nrm_thenV (v_seq ?_))
  refine v_cond (decide (q1.1 < (List.length e.Args : Int))) (by kernel_rfl) (fun h1 => ?_) (fun h1 => ?_)
  ·replace hs := bif_t h1 hs
   refine v_skip (nrm_thenV (v_seq ?_))
   obtain ⟨z2, hs, hk2⟩ := bind_some hs
   refine v_join (S := (List Int)) (fun u => u = z2) (fun u => [(2, .ptr 2 0 0), (3, .ptr 3 0 0), (5, .sl 1 2000035 ((u).length) 0 ((u).length)), (9, .vs 5 (encs_Expr e.Args)), (10, .int .i64 (List.length e.Args : Int)), (11, .int .i64 q1.1)]) (fun u => [(2000035, .row 3 1 0 (List.map EV.encI u)), (3, .box 28 [.int .i64 e.Op, .int .i64 e.N, .str e.S, .str e.Key, .vs 5 (encs_Expr e.Args)]), (2, .box 90 [.vs 6 (List.map enc_Def c_plan.Defs), .vs 3 (List.map enc_Table c_plan.Tables), .vs 3 (List.map enc_Zone c_plan.Zones), .vs 20 (List.map enc_Rule c_plan.Rules), .vs 4 (List.map enc_Cap c_plan.Caps), .vs 6 (List.map enc_View c_plan.Views), .vs 3 (List.map enc_Point3 c_plan.Sun), .int .i64 c_plan.Hours, .mp 1000000, .vs 1 (List.map EV.encS c_zones)]), (1000000, .map (encM V.str (V.int .i64) c_known))]) ?_ (fun v2 hz => ?_)
   ·refine v_block (v_seq (vr_text (o_runs 1 [(13, .int .i64 q1.1)] (by kernel_rfl) ?_)))
    obtain ⟨x1, g1, hs⟩ := bind_some hs; obtain ⟨g1a, g1b, g1c⟩ := idx_some g1
    refine o_pure (v := .vp (enc_Expr x1) 0) (by kernel_rfl) (by kernel_rfl) (loc_indexVs (e := 28) (sz := 5) (k := .i64) (els := (encs_Expr e.Args)) (cs := (enc_Expr x1)) (by kernel_rfl) (by kernel_rfl) (by kernel_rfl) g1a (by rw [g1c, encs_Expr_eq]; exact map_get _ (by omega))) ?_
    refine o_runh 4 [(6, .int .i64 q1.1), (7, .ptr 7 0 0), (15, .agg (enc_Expr x1))] [(7, .box 28 [.int .i64 x1.Op, .int .i64 x1.N, .str x1.S, .str x1.Key, .vs 5 (encs_Expr x1.Args)]), (3, .box 28 [.int .i64 e.Op, .int .i64 e.N, .str e.S, .str e.Key, .vs 5 (encs_Expr e.Args)]), (2, .box 90 [.vs 6 (List.map enc_Def c_plan.Defs), .vs 3 (List.map enc_Table c_plan.Tables), .vs 3 (List.map enc_Zone c_plan.Zones), .vs 20 (List.map enc_Rule c_plan.Rules), .vs 4 (List.map enc_Cap c_plan.Caps), .vs 6 (List.map enc_View c_plan.Views), .vs 3 (List.map enc_Point3 c_plan.Sun), .int .i64 c_plan.Hours, .mp 1000000, .vs 1 (List.map EV.encS c_zones)]), (1000000, .map (encM V.str (V.int .i64) c_known)), (2000035, .row 3 1 0 (List.map EV.encI q1.2))] (by kernel_rfl) ?_
    refine ov_nil (nrm_thenV (v_seq (v_seq ?_)))
    obtain ⟨z3, hs, hk3⟩ := bind_some hs
    refine v_join (S := Bool) (fun u => u = z3) (fun u => [(2, .ptr 2 0 0), (3, .ptr 3 0 0), (5, .sl 1 2000035 ((q1.2).length) 0 ((q1.2).length)), (7, .ptr 7 0 0), (9, .vs 5 (encs_Expr e.Args)), (10, .int .i64 (List.length e.Args : Int)), (11, .int .i64 q1.1), (31, .bool u)]) (fun u => [(7, .box 28 [.int .i64 x1.Op, .int .i64 x1.N, .str x1.S, .str x1.Key, .vs 5 (encs_Expr x1.Args)]), (3, .box 28 [.int .i64 e.Op, .int .i64 e.N, .str e.S, .str e.Key, .vs 5 (encs_Expr e.Args)]), (2, .box 90 [.vs 6 (List.map enc_Def c_plan.Defs), .vs 3 (List.map enc_Table c_plan.Tables), .vs 3 (List.map enc_Zone c_plan.Zones), .vs 20 (List.map enc_Rule c_plan.Rules), .vs 4 (List.map enc_Cap c_plan.Caps), .vs 6 (List.map enc_View c_plan.Views), .vs 3 (List.map enc_Point3 c_plan.Sun), .int .i64 c_plan.Hours, .mp 1000000, .vs 1 (List.map EV.encS c_zones)]), (1000000, .map (encM V.str (V.int .i64) c_known)), (2000035, .row 3 1 0 (List.map EV.encI q1.2))]) ?_ (fun v3 hz => ?_)
    ·refine vr_text (o_runs 4 [(19, .bool (decide (e.Op = 16))), (18, .bool (decide (e.Op = 16))), (17, .int .i64 e.Op), (16, .ptr 3 0 0)] (by kernel_rfl) ?_)
     cases h2 : ((decide (e.Op = 16)))
     ·replace hs := bif_f h2 hs
      refine o_runs 12 [(31, .bool false), (30, .no), (29, .no), (28, .no), (27, .no), (26, .no), (25, .no), (24, .no), (23, .bool false), (22, .bool false), (21, .no), (20, .no)] (by kernel_rfl) ?_
      refine ov_nil ?_
      obtain rfl := si hs
      refine nrm_join false rfl ?_
      exact cut_of [2, 3, 5, 7, 9, 10, 11, 31] [7, 3, 2, 1000000, 2000035] (by kernel_rfl) (by kernel_rfl) (by kernel_rfl)
     ·replace hs := bif_t h2 hs
      refine o_runs 4 [(23, .bool (decide (q1.1 > 0))), (22, .bool (decide (q1.1 > 0))), (21, .bool (decide (q1.1 > 0))), (20, .int .i64 q1.1)] (by kernel_rfl) ?_
      cases h3 : ((decide (q1.1 > 0)))
      ·replace hs := bif_f h3 hs
       refine o_runs 8 [(31, .bool false), (30, .no), (29, .no), (28, .no), (27, .no), (26, .no), (25, .no), (24, .no)] (by kernel_rfl) ?_
       refine ov_nil ?_
       obtain rfl := si hs
       refine nrm_join false rfl ?_
       exact cut_of [2, 3, 5, 7, 9, 10, 11, 31] [7, 3, 2, 1000000, 2000035] (by kernel_rfl) (by kernel_rfl) (by kernel_rfl)
      ·replace hs := bif_t h3 hs
       refine o_runs 1 [(24, .sl 1 2000035 ((q1.2).length) 0 ((q1.2).length))] (by kernel_rfl) ?_
       obtain ⟨_, g2, hs⟩ := bind_some hs; obtain ⟨g2a, g2b⟩ := grd_some g2
       refine o_pure (v := .ptr 2000035 ((q1.2).length) ((Int.toNat 0) * 1 + 0)) (by kernel_rfl) (by kernel_rfl) (loc_indexRowT (e := 3) (sz := 1) (kk := 2000035) (L := (q1.2).length) (n := (q1.2).length) (k := .i64) (i := 0) (by kernel_rfl) (by kernel_rfl) (by kernel_rfl) g2a g2b) ?_
       obtain ⟨e1, he1, hs⟩ := bind_some hs; replace he1 := Option.some.inj he1
       refine o_loc (F := [(2000035, .row 3 1 0 (List.map EV.encI q1.2))]) (F' := [(2000035, .row 3 1 0 (List.map EV.encI q1.2))]) (v := .int .i64 e1) [2000035] (by kernel_rfl) (by kernel_rfl) rfl (by kernel_rfl) (loc_loadRow (L := (q1.2).length) (off := (Int.toNat 0) * 1 + 0) (els := (List.map EV.encI q1.2)) (cs := [.int .i64 e1]) (Int.toNat 0) 0 (by kernel_rfl) (by first | (simp only [List.length_map, List.length_set]; done) | rfl) rfl (by rw [← he1]; exact map_get _ (by first | omega | (simp only [List.length_set]; omega))) (by kernel_rfl)) (by kernel_rfl) ?_
       refine o_runs 5 [(31, .bool (!((!(decide (e1 = 0))) == (decide (q1.1 = 1))))), (30, .bool (!((!(decide (e1 = 0))) == (decide (q1.1 = 1))))), (29, .bool (decide (q1.1 = 1))), (28, .int .i64 q1.1), (27, .bool (!(decide (e1 = 0))))] (by kernel_rfl) ?_
       refine ov_nil ?_
       obtain rfl := si hs
       refine nrm_join (!((!(decide (e1 = 0))) == (decide (q1.1 = 1)))) rfl ?_
       exact cut_of [2, 3, 5, 7, 9, 10, 11, 31] [7, 3, 2, 1000000, 2000035] (by kernel_rfl) (by kernel_rfl) (by kernel_rfl)
    ·subst hz; clear hs; have hs := hk3; clear hk3
     refine nrm_thenV ?_
     refine v_cond v3 (by kernel_rfl) (fun h4 => ?_) (fun h4 => ?_)
     ·replace hs := bif_t h4 hs
      refine v_seq (vr_text (o_runh 2 [(33, .sl 1 33 1 0 1), (32, .sl 1 2000035 ((q1.2).length) 0 ((q1.2).length))] [(33, .row 3 1 0 (List.map EV.encI [0])), (7, .box 28 [.int .i64 x1.Op, .int .i64 x1.N, .str x1.S, .str x1.Key, .vs 5 (encs_Expr x1.Args)]), (3, .box 28 [.int .i64 e.Op, .int .i64 e.N, .str e.S, .str e.Key, .vs 5 (encs_Expr e.Args)]), (2, .box 90 [.vs 6 (List.map enc_Def c_plan.Defs), .vs 3 (List.map enc_Table c_plan.Tables), .vs 3 (List.map enc_Zone c_plan.Zones), .vs 20 (List.map enc_Rule c_plan.Rules), .vs 4 (List.map enc_Cap c_plan.Caps), .vs 6 (List.map enc_View c_plan.Views), .vs 3 (List.map enc_Point3 c_plan.Sun), .int .i64 c_plan.Hours, .mp 1000000, .vs 1 (List.map EV.encS c_zones)]), (1000000, .map (encM V.str (V.int .i64) c_known)), (2000035, .row 3 1 0 (List.map EV.encI q1.2))] (by kernel_rfl) ?_))
      obtain ⟨_, g3, hs⟩ := bind_some hs; replace g3 := grd_some g3
      refine o_loc (F := [(2000035, .row 3 1 0 (List.map EV.encI q1.2)), (33, .row 3 1 0 (List.map EV.encI [0]))]) (F' := [(2000035, .row 3 1 0 (List.map EV.encI (q1.2 ++ [0]))), (33, .row 3 1 0 (List.map EV.encI [0]))]) (v := .sl 1 2000035 (((q1.2 ++ [0])).length) 0 (((q1.2 ++ [0])).length)) [2000035, 33] (by kernel_rfl) (by kernel_rfl) rfl (by kernel_rfl) (loc_appendT (e := 3) (sz := 1) (bytes := 8) (L := (q1.2).length) (els := (List.map EV.encI q1.2)) (ys := (List.map EV.encI [0])) (by kernel_rfl) (by kernel_rfl) (by first | exact List.length_map .. | rfl) (.sl (t := 3) (fz := 0) (ys := (List.map EV.encI [0])) (by kernel_rfl) (by kernel_rfl)) (map_ones EV.encI (fun _ => rfl) _) (map_lens EV.encI (fun _ => rfl) _) (by kernel_rfl) (by first | exact (List.map_append ..).symm | rfl | simp only [List.map_nil, List.nil_append]) (List.length_map ..) g3 (by omega)) (by kernel_rfl) ?_
      refine o_runs 1 [(5, .sl 1 2000035 (((q1.2 ++ [0])).length) 0 (((q1.2 ++ [0])).length))] (by kernel_rfl) ?_
      refine ov_nil (nrm_thenV (v_exit (exit_thenV (exit_blkV ?_))))
      obtain rfl := si hs
      refine nrm_join (q1.2 ++ [0]) rfl ?_
      exact cut_of [2, 3, 5, 9, 10, 11] [2000035, 3, 2, 1000000] (by kernel_rfl) (by kernel_rfl) (by kernel_rfl)
     ·replace hs := bif_f h4 hs
      refine v_skip (nrm_thenV (vr_text (o_runs 3 [(37, .agg (enc_Expr x1)), (36, .agg [.vs 6 (List.map enc_Def c_plan.Defs), .vs 3 (List.map enc_Table c_plan.Tables), .vs 3 (List.map enc_Zone c_plan.Zones), .vs 20 (List.map enc_Rule c_plan.Rules), .vs 4 (List.map enc_Cap c_plan.Caps), .vs 6 (List.map enc_View c_plan.Views), .vs 3 (List.map enc_Point3 c_plan.Sun), .int .i64 c_plan.Hours, .mp 1000000, .vs 1 (List.map EV.encS c_zones)]), (35, .sl 1 2000035 ((q1.2).length) 0 ((q1.2).length))] (by kernel_rfl) ?_)))
      obtain ⟨y1, c1, hs⟩ := bind_some hs
      refine o_loc (F := [(1000000, .map (encM V.str (V.int .i64) c_known))]) (F' := [(1000000, .map (encM V.str (V.int .i64) c_known))]) (v := .int .i64 y1) [1000000] (by kernel_rfl) (by kernel_rfl) rfl (by kernel_rfl) (loc_g (R := []) [.agg [.vs 6 (List.map enc_Def c_plan.Defs), .vs 3 (List.map enc_Table c_plan.Tables), .vs 3 (List.map enc_Zone c_plan.Zones), .vs 20 (List.map enc_Rule c_plan.Rules), .vs 4 (List.map enc_Cap c_plan.Caps), .vs 6 (List.map enc_View c_plan.Views), .vs 3 (List.map enc_Point3 c_plan.Sun), .int .i64 c_plan.Hours, .mp 1000000, .vs 1 (List.map EV.encS c_zones)], .agg (enc_Expr x1)] [(1000000, 1000000)] (callV_func hbv57 (by kernel_rfl)) (ih_expr_context_value c_plan c_known c_zones x1 _ c1) (.cons (.same _) (.cons (.same _) (.nil))) (by kernel_rfl) (by kernel_rfl) (by kernel_rfl) (by kernel_rfl) (by kernel_rfl) (by kernel_rfl) (by kernel_rfl) (by kernel_rfl)) (by kernel_rfl) ?_
      refine o_runh 1 [(39, .sl 1 39 1 0 1)] [(39, .row 3 1 0 (List.map EV.encI [y1])), (1000000, .map (encM V.str (V.int .i64) c_known)), (7, .box 28 [.int .i64 x1.Op, .int .i64 x1.N, .str x1.S, .str x1.Key, .vs 5 (encs_Expr x1.Args)]), (3, .box 28 [.int .i64 e.Op, .int .i64 e.N, .str e.S, .str e.Key, .vs 5 (encs_Expr e.Args)]), (2, .box 90 [.vs 6 (List.map enc_Def c_plan.Defs), .vs 3 (List.map enc_Table c_plan.Tables), .vs 3 (List.map enc_Zone c_plan.Zones), .vs 20 (List.map enc_Rule c_plan.Rules), .vs 4 (List.map enc_Cap c_plan.Caps), .vs 6 (List.map enc_View c_plan.Views), .vs 3 (List.map enc_Point3 c_plan.Sun), .int .i64 c_plan.Hours, .mp 1000000, .vs 1 (List.map EV.encS c_zones)]), (2000035, .row 3 1 0 (List.map EV.encI q1.2))] (by kernel_rfl) ?_
      obtain ⟨_, g4, hs⟩ := bind_some hs; replace g4 := grd_some g4
      refine o_loc (F := [(2000035, .row 3 1 0 (List.map EV.encI q1.2)), (39, .row 3 1 0 (List.map EV.encI [y1]))]) (F' := [(2000035, .row 3 1 0 (List.map EV.encI (q1.2 ++ [y1]))), (39, .row 3 1 0 (List.map EV.encI [y1]))]) (v := .sl 1 2000035 (((q1.2 ++ [y1])).length) 0 (((q1.2 ++ [y1])).length)) [2000035, 39] (by kernel_rfl) (by kernel_rfl) rfl (by kernel_rfl) (loc_appendT (e := 3) (sz := 1) (bytes := 8) (L := (q1.2).length) (els := (List.map EV.encI q1.2)) (ys := (List.map EV.encI [y1])) (by kernel_rfl) (by kernel_rfl) (by first | exact List.length_map .. | rfl) (.sl (t := 3) (fz := 0) (ys := (List.map EV.encI [y1])) (by kernel_rfl) (by kernel_rfl)) (map_ones EV.encI (fun _ => rfl) _) (map_lens EV.encI (fun _ => rfl) _) (by kernel_rfl) (by first | exact (List.map_append ..).symm | rfl | simp only [List.map_nil, List.nil_append]) (List.length_map ..) g4 (by omega)) (by kernel_rfl) ?_
      refine o_runs 1 [(5, .sl 1 2000035 (((q1.2 ++ [y1])).length) 0 (((q1.2 ++ [y1])).length))] (by kernel_rfl) ?_
      refine ov_nil (nrm_blkV ?_)
      obtain rfl := si hs
      refine nrm_join (q1.2 ++ [y1]) rfl ?_
      exact cut_of [2, 3, 5, 9, 10, 11] [2000035, 3, 2, 1000000] (by kernel_rfl) (by kernel_rfl) (by kernel_rfl)
   ·subst hz; clear hs; have hs := hk2; clear hk2
    refine nrm_thenV (vr_text (o_runs 2 [(11, .int .i64 (w64 (q1.1 + 1))), (41, .int .i64 (w64 (q1.1 + 1)))] (by kernel_rfl) ?_))
    refine ov_nil (nrm_fuel ((w64 (q1.1 + 1)), v2) hs ?_)
    exact cut_of [2, 3, 5, 9, 10, 11] [3, 2, 1000000, 2000035] (by kernel_rfl) (by kernel_rfl) (by kernel_rfl)
  ·replace hs := bif_f h1 hs
   refine v_exit (exit_thenV (exit_fuel ?_))
   refine exit_blkV ?_
   obtain rfl := si hs
   refine nrm_join q1.2 rfl ?_
   exact cut_of [2, 3, 5] [3, 2, 1000000, 2000035] (by kernel_rfl) (by kernel_rfl) (by kernel_rfl)
 ·subst hz; clear hs; have hs := hk1; clear hk1
  refine nrm_thenV (v_seq (v_seq (vr_text (o_runs 2 [(43, .int .i64 e.Op), (42, .ptr 3 0 0)] (by kernel_rfl) ?_))))
  refine ov_nil (nrm_thenV (v_block (v_seq (vr_text (o_runs 2 [(44, .bool (decide (e.Op = 0))), (45, .bool (decide (e.Op = 0)))] (by kernel_rfl) ?_)))))
  refine ov_nil (nrm_thenV ?_)
  refine v_cond (decide (e.Op = 0)) (by kernel_rfl) (fun h5 => ?_) (fun h5 => ?_)
  ·replace hs := bif_t h5 hs
   refine v_seq (vr_text (o_runs 3 [(4, .int .i64 e.N), (47, .int .i64 e.N), (46, .ptr 3 0 1)] (by kernel_rfl) ?_))
   refine ov_nil (nrm_thenV (v_ret (ret_blkV (ret_thenV ?_))))
   obtain rfl := si hs
   exact fin_ret (by kernel_rfl) (by kernel_rfl) (by kernel_rfl)
  ·replace hs := bif_f h5 hs
   refine v_seq (vr_text (o_runs 2 [(48, .bool (decide (e.Op = 1))), (49, .bool (decide (e.Op = 1)))] (by kernel_rfl) ?_))
   refine ov_nil (nrm_thenV ?_)
   refine v_cond (decide (e.Op = 1)) (by kernel_rfl) (fun h6 => ?_) (fun h6 => ?_)
   ·replace hs := bif_t h6 hs
    refine v_seq (vr_text (o_runs 4 [(53, .str e.S), (52, .ptr 3 0 2), (51, .mp 1000000), (50, .ptr 2 0 8)] (by kernel_rfl) ?_))
    refine o_loc (F := [(1000000, .map (encM V.str (V.int .i64) c_known))]) (F' := [(1000000, .map (encM V.str (V.int .i64) c_known))]) (v := .int .i64 (Option.getD (mfind e.S c_known) 0)) [1000000] (by kernel_rfl) (by kernel_rfl) rfl (by kernel_rfl) (loc_lookup (et := 3) (f := V.str) (g := (V.int .i64)) (l := c_known) (a := e.S) (z := 0) (zv := .int .i64 0) false (by kernel_rfl) kok9 (by kernel_rfl) (fun _ _ _ h => h) (by kernel_rfl) (by kernel_rfl)) (by kernel_rfl) ?_
    refine o_runs 1 [(4, .int .i64 (Option.getD (mfind e.S c_known) 0))] (by kernel_rfl) ?_
    refine ov_nil (nrm_thenV (v_ret (ret_blkV (ret_thenV ?_))))
    obtain rfl := si hs
    exact fin_ret (by kernel_rfl) (by kernel_rfl) (by kernel_rfl)
   ·replace hs := bif_f h6 hs
    refine v_seq (vr_text (o_runs 2 [(55, .bool (decide (e.Op = 2))), (56, .bool (decide (e.Op = 2)))] (by kernel_rfl) ?_))
    refine ov_nil (nrm_thenV ?_)
    refine v_cond (decide (e.Op = 2)) (by kernel_rfl) (fun h7 => ?_) (fun h7 => ?_)
    ·replace hs := bif_t h7 hs
     refine v_seq (vr_text (o_runs 2 [(58, .agg (enc_Expr e)), (57, .agg [.vs 6 (List.map enc_Def c_plan.Defs), .vs 3 (List.map enc_Table c_plan.Tables), .vs 3 (List.map enc_Zone c_plan.Zones), .vs 20 (List.map enc_Rule c_plan.Rules), .vs 4 (List.map enc_Cap c_plan.Caps), .vs 6 (List.map enc_View c_plan.Views), .vs 3 (List.map enc_Point3 c_plan.Sun), .int .i64 c_plan.Hours, .mp 1000000, .vs 1 (List.map EV.encS c_zones)])] (by kernel_rfl) ?_))
     obtain ⟨y2, c2, hs⟩ := bind_some hs
     refine o_loc (F := [(1000000, .map (encM V.str (V.int .i64) c_known))]) (F' := [(1000000, .map (encM V.str (V.int .i64) c_known))]) (v := .int .i64 y2) [1000000] (by kernel_rfl) (by kernel_rfl) rfl (by kernel_rfl) (loc_g (R := []) [.agg [.vs 6 (List.map enc_Def c_plan.Defs), .vs 3 (List.map enc_Table c_plan.Tables), .vs 3 (List.map enc_Zone c_plan.Zones), .vs 20 (List.map enc_Rule c_plan.Rules), .vs 4 (List.map enc_Cap c_plan.Caps), .vs 6 (List.map enc_View c_plan.Views), .vs 3 (List.map enc_Point3 c_plan.Sun), .int .i64 c_plan.Hours, .mp 1000000, .vs 1 (List.map EV.encS c_zones)], .agg (enc_Expr e)] [(1000000, 1000000)] (callV_func hbv69 (by kernel_rfl)) (w_expr_context_row c_plan c_known c_zones e _ c2) (.cons (.same _) (.cons (.same _) (.nil))) (by kernel_rfl) (by kernel_rfl) (by kernel_rfl) (by kernel_rfl) (by kernel_rfl) (by kernel_rfl) (by kernel_rfl) (by kernel_rfl)) (by kernel_rfl) ?_
     refine o_runs 1 [(4, .int .i64 y2)] (by kernel_rfl) ?_
     refine ov_nil (nrm_thenV (v_ret (ret_blkV (ret_thenV ?_))))
     obtain rfl := si hs
     exact fin_ret (by kernel_rfl) (by kernel_rfl) (by kernel_rfl)
    ·replace hs := bif_f h7 hs
     refine v_seq (vr_text (o_runs 2 [(60, .bool (decide (e.Op = 3))), (61, .bool (decide (e.Op = 3)))] (by kernel_rfl) ?_))
     refine ov_nil (nrm_thenV ?_)
     refine v_cond (decide (e.Op = 3)) (by kernel_rfl) (fun h8 => ?_) (fun h8 => ?_)
     ·replace hs := bif_t h8 hs
      refine v_seq (vr_text (o_runs 4 [(65, .str e.S), (64, .ptr 3 0 2), (63, .vs 1 (List.map EV.encS c_zones)), (62, .ptr 2 0 9)] (by kernel_rfl) ?_))
      obtain ⟨y3, c3, hs⟩ := bind_some hs
      refine o_pure (v := .bool y3) (by kernel_rfl) (by kernel_rfl) (loc_gcall0 (callV_func hbv71 (by kernel_rfl)) (w_slices_Contains c_zones e.S _ c3) (by kernel_rfl)) ?_
      obtain ⟨y4, c4, hs⟩ := bind_some hs
      refine o_pure (v := .int .i64 y4) (by kernel_rfl) (by kernel_rfl) (loc_gcall0 (callV_func hbv70 (by kernel_rfl)) (w_expr_bit y3 _ c4) (by kernel_rfl)) ?_
      refine o_runs 1 [(4, .int .i64 y4)] (by kernel_rfl) ?_
      refine ov_nil (nrm_thenV (v_ret (ret_blkV (ret_thenV ?_))))
      obtain rfl := si hs
      exact fin_ret (by kernel_rfl) (by kernel_rfl) (by kernel_rfl)
     ·replace hs := bif_f h8 hs
      refine v_seq (vr_text (o_runs 2 [(68, .bool (decide (e.Op = 9))), (69, .bool (decide (e.Op = 9)))] (by kernel_rfl) ?_))
      refine ov_nil (nrm_thenV ?_)
      refine v_cond (decide (e.Op = 9)) (by kernel_rfl) (fun h9 => ?_) (fun h9 => ?_)
      ·replace hs := bif_t h9 hs
       refine v_seq (vr_text (o_runs 1 [(70, .sl 1 2000035 ((v1).length) 0 ((v1).length))] (by kernel_rfl) ?_))
       obtain ⟨_, g5, hs⟩ := bind_some hs; obtain ⟨g5a, g5b⟩ := grd_some g5
       refine o_pure (v := .ptr 2000035 ((v1).length) ((Int.toNat 0) * 1 + 0)) (by kernel_rfl) (by kernel_rfl) (loc_indexRowT (e := 3) (sz := 1) (kk := 2000035) (L := (v1).length) (n := (v1).length) (k := .i64) (i := 0) (by kernel_rfl) (by kernel_rfl) (by kernel_rfl) g5a g5b) ?_
       obtain ⟨e2, he2, hs⟩ := bind_some hs; replace he2 := Option.some.inj he2
       refine o_loc (F := [(2000035, .row 3 1 0 (List.map EV.encI v1))]) (F' := [(2000035, .row 3 1 0 (List.map EV.encI v1))]) (v := .int .i64 e2) [2000035] (by kernel_rfl) (by kernel_rfl) rfl (by kernel_rfl) (loc_loadRow (L := (v1).length) (off := (Int.toNat 0) * 1 + 0) (els := (List.map EV.encI v1)) (cs := [.int .i64 e2]) (Int.toNat 0) 0 (by kernel_rfl) (by first | (simp only [List.length_map, List.length_set]; done) | rfl) rfl (by rw [← he2]; exact map_get _ (by first | omega | (simp only [List.length_set]; omega))) (by kernel_rfl)) (by kernel_rfl) ?_
       refine o_runs 2 [(4, .int .i64 (w64 (0 - e2))), (73, .int .i64 (w64 (0 - e2)))] (by kernel_rfl) ?_
       refine ov_nil (nrm_thenV (v_ret (ret_blkV (ret_thenV ?_))))
       obtain rfl := si hs
       exact fin_ret (by kernel_rfl) (by kernel_rfl) (by kernel_rfl)
      ·replace hs := bif_f h9 hs
       refine v_seq (vr_text (o_runs 2 [(74, .bool (decide (e.Op = 15))), (75, .bool (decide (e.Op = 15)))] (by kernel_rfl) ?_))
       refine ov_nil (nrm_thenV ?_)
       refine v_cond (decide (e.Op = 15)) (by kernel_rfl) (fun h10 => ?_) (fun h10 => ?_)
       ·replace hs := bif_t h10 hs
        refine v_seq (vr_text (o_runs 1 [(76, .sl 1 2000035 ((v1).length) 0 ((v1).length))] (by kernel_rfl) ?_))
        obtain ⟨_, g6, hs⟩ := bind_some hs; obtain ⟨g6a, g6b⟩ := grd_some g6
        refine o_pure (v := .ptr 2000035 ((v1).length) ((Int.toNat 0) * 1 + 0)) (by kernel_rfl) (by kernel_rfl) (loc_indexRowT (e := 3) (sz := 1) (kk := 2000035) (L := (v1).length) (n := (v1).length) (k := .i64) (i := 0) (by kernel_rfl) (by kernel_rfl) (by kernel_rfl) g6a g6b) ?_
        obtain ⟨e3, he3, hs⟩ := bind_some hs; replace he3 := Option.some.inj he3
        refine o_loc (F := [(2000035, .row 3 1 0 (List.map EV.encI v1))]) (F' := [(2000035, .row 3 1 0 (List.map EV.encI v1))]) (v := .int .i64 e3) [2000035] (by kernel_rfl) (by kernel_rfl) rfl (by kernel_rfl) (loc_loadRow (L := (v1).length) (off := (Int.toNat 0) * 1 + 0) (els := (List.map EV.encI v1)) (cs := [.int .i64 e3]) (Int.toNat 0) 0 (by kernel_rfl) (by first | (simp only [List.length_map, List.length_set]; done) | rfl) rfl (by rw [← he3]; exact map_get _ (by first | omega | (simp only [List.length_set]; omega))) (by kernel_rfl)) (by kernel_rfl) ?_
        refine o_runs 1 [(79, .bool (decide (e3 = 0)))] (by kernel_rfl) ?_
        obtain ⟨y5, c5, hs⟩ := bind_some hs
        refine o_pure (v := .int .i64 y5) (by kernel_rfl) (by kernel_rfl) (loc_gcall0 (callV_func hbv70 (by kernel_rfl)) (w_expr_bit (decide (e3 = 0)) _ c5) (by kernel_rfl)) ?_
        refine o_runs 1 [(4, .int .i64 y5)] (by kernel_rfl) ?_
        refine ov_nil (nrm_thenV (v_ret (ret_blkV (ret_thenV ?_))))
        obtain rfl := si hs
        exact fin_ret (by kernel_rfl) (by kernel_rfl) (by kernel_rfl)
       ·replace hs := bif_f h10 hs
        refine v_seq (vr_text (o_runs 2 [(81, .bool (decide (e.Op = 16))), (82, .bool (decide (e.Op = 16)))] (by kernel_rfl) ?_))
        refine ov_nil (nrm_thenV ?_)
        refine v_cond (decide (e.Op = 16)) (by kernel_rfl) (fun h11 => ?_) (fun h11 => ?_)
        ·replace hs := bif_t h11 hs
         refine v_seq (v_seq (vr_text (o_runs 1 [(83, .sl 1 2000035 ((v1).length) 0 ((v1).length))] (by kernel_rfl) ?_)))
         obtain ⟨_, g7, hs⟩ := bind_some hs; obtain ⟨g7a, g7b⟩ := grd_some g7
         refine o_pure (v := .ptr 2000035 ((v1).length) ((Int.toNat 0) * 1 + 0)) (by kernel_rfl) (by kernel_rfl) (loc_indexRowT (e := 3) (sz := 1) (kk := 2000035) (L := (v1).length) (n := (v1).length) (k := .i64) (i := 0) (by kernel_rfl) (by kernel_rfl) (by kernel_rfl) g7a g7b) ?_
         obtain ⟨e4, he4, hs⟩ := bind_some hs; replace he4 := Option.some.inj he4
         refine o_loc (F := [(2000035, .row 3 1 0 (List.map EV.encI v1))]) (F' := [(2000035, .row 3 1 0 (List.map EV.encI v1))]) (v := .int .i64 e4) [2000035] (by kernel_rfl) (by kernel_rfl) rfl (by kernel_rfl) (loc_loadRow (L := (v1).length) (off := (Int.toNat 0) * 1 + 0) (els := (List.map EV.encI v1)) (cs := [.int .i64 e4]) (Int.toNat 0) 0 (by kernel_rfl) (by first | (simp only [List.length_map, List.length_set]; done) | rfl) rfl (by rw [← he4]; exact map_get _ (by first | omega | (simp only [List.length_set]; omega))) (by kernel_rfl)) (by kernel_rfl) ?_
         refine o_runs 1 [(86, .bool (!(decide (e4 = 0))))] (by kernel_rfl) ?_
         refine ov_nil (nrm_thenV ?_)
         refine v_cond (!(decide (e4 = 0))) (by kernel_rfl) (fun h12 => ?_) (fun h12 => ?_)
         ·replace hs := bif_t h12 hs
          refine v_seq (vr_text (o_runs 1 [(87, .sl 1 2000035 ((v1).length) 0 ((v1).length))] (by kernel_rfl) ?_))
          obtain ⟨_, g8, hs⟩ := bind_some hs; obtain ⟨g8a, g8b⟩ := grd_some g8
          refine o_pure (v := .ptr 2000035 ((v1).length) ((Int.toNat 1) * 1 + 0)) (by kernel_rfl) (by kernel_rfl) (loc_indexRowT (e := 3) (sz := 1) (kk := 2000035) (L := (v1).length) (n := (v1).length) (k := .i64) (i := 1) (by kernel_rfl) (by kernel_rfl) (by kernel_rfl) g8a g8b) ?_
          obtain ⟨e5, he5, hs⟩ := bind_some hs; replace he5 := Option.some.inj he5
          refine o_loc (F := [(2000035, .row 3 1 0 (List.map EV.encI v1))]) (F' := [(2000035, .row 3 1 0 (List.map EV.encI v1))]) (v := .int .i64 e5) [2000035] (by kernel_rfl) (by kernel_rfl) rfl (by kernel_rfl) (loc_loadRow (L := (v1).length) (off := (Int.toNat 1) * 1 + 0) (els := (List.map EV.encI v1)) (cs := [.int .i64 e5]) (Int.toNat 1) 0 (by kernel_rfl) (by first | (simp only [List.length_map, List.length_set]; done) | rfl) rfl (by rw [← he5]; exact map_get _ (by first | omega | (simp only [List.length_set]; omega))) (by kernel_rfl)) (by kernel_rfl) ?_
          refine o_runs 1 [(4, .int .i64 e5)] (by kernel_rfl) ?_
          refine ov_nil (nrm_thenV (v_ret (ret_thenV (ret_blkV (ret_thenV ?_)))))
          obtain rfl := si hs
          exact fin_ret (by kernel_rfl) (by kernel_rfl) (by kernel_rfl)
         ·replace hs := bif_f h12 hs
          refine v_skip (nrm_thenV (v_seq (vr_text (o_runs 1 [(90, .sl 1 2000035 ((v1).length) 0 ((v1).length))] (by kernel_rfl) ?_))))
          obtain ⟨_, g9, hs⟩ := bind_some hs; obtain ⟨g9a, g9b⟩ := grd_some g9
          refine o_pure (v := .ptr 2000035 ((v1).length) ((Int.toNat 2) * 1 + 0)) (by kernel_rfl) (by kernel_rfl) (loc_indexRowT (e := 3) (sz := 1) (kk := 2000035) (L := (v1).length) (n := (v1).length) (k := .i64) (i := 2) (by kernel_rfl) (by kernel_rfl) (by kernel_rfl) g9a g9b) ?_
          obtain ⟨e6, he6, hs⟩ := bind_some hs; replace he6 := Option.some.inj he6
          refine o_loc (F := [(2000035, .row 3 1 0 (List.map EV.encI v1))]) (F' := [(2000035, .row 3 1 0 (List.map EV.encI v1))]) (v := .int .i64 e6) [2000035] (by kernel_rfl) (by kernel_rfl) rfl (by kernel_rfl) (loc_loadRow (L := (v1).length) (off := (Int.toNat 2) * 1 + 0) (els := (List.map EV.encI v1)) (cs := [.int .i64 e6]) (Int.toNat 2) 0 (by kernel_rfl) (by first | (simp only [List.length_map, List.length_set]; done) | rfl) rfl (by rw [← he6]; exact map_get _ (by first | omega | (simp only [List.length_set]; omega))) (by kernel_rfl)) (by kernel_rfl) ?_
          refine o_runs 1 [(4, .int .i64 e6)] (by kernel_rfl) ?_
          refine ov_nil (nrm_thenV (v_ret (ret_blkV (ret_thenV ?_))))
          obtain rfl := si hs
          exact fin_ret (by kernel_rfl) (by kernel_rfl) (by kernel_rfl)
        ·replace hs := bif_f h11 hs
         refine v_skip (nrm_blkV (nrm_thenV (v_seq (v_draw mixedH (by kernel_rfl) ?_))))
         refine d_runs 3 0 [(95, .sl 1 2000035 ((v1).length) 0 ((v1).length)), (94, .int .i64 e.Op), (93, .ptr 3 0 0)] [⟨2, [], []⟩, ⟨1, [], [3]⟩, ⟨0, [], []⟩] (by kernel_rfl) (by kernel_rfl) ?_
         obtain ⟨_, g10, hs⟩ := bind_some hs; obtain ⟨g10a, g10b⟩ := grd_some g10
         refine d_pure (v := .ptr 2000035 ((v1).length) ((Int.toNat 0) * 1 + 0)) 3 rfl rfl rfl rfl (by kernel_rfl) (by kernel_rfl) (loc_indexRowT (e := 3) (sz := 1) (kk := 2000035) (L := (v1).length) (n := (v1).length) (k := .i64) (i := 0) (by kernel_rfl) (by kernel_rfl) (by kernel_rfl) g10a g10b) ?_
         obtain ⟨e7, he7, hs⟩ := bind_some hs; replace he7 := Option.some.inj he7
         refine d_loc (F := []) (R := [(2000035, .row 3 1 0 (List.map EV.encI v1))]) (F' := []) (v := .int .i64 e7) 4 [] [2000035] rfl rfl rfl rfl (by kernel_rfl) (by kernel_rfl) (by kernel_rfl) (by kernel_rfl) (by kernel_rfl) (by kernel_rfl) (by kernel_rfl) (by kernel_rfl) (loc_loadRow (L := (v1).length) (off := (Int.toNat 0) * 1 + 0) (els := (List.map EV.encI v1)) (cs := [.int .i64 e7]) (Int.toNat 0) 0 (by kernel_rfl) (by first | (simp only [List.length_map, List.length_set]; done) | rfl) rfl (by rw [← he7]; exact map_get _ (by first | omega | (simp only [List.length_set]; omega))) (by kernel_rfl)) ?_
         refine d_runs 1 5 [(98, .sl 1 2000035 ((v1).length) 0 ((v1).length))] (pfp 1 5) (by kernel_rfl) (by kernel_rfl) ?_
         obtain ⟨_, g11, hs⟩ := bind_some hs; obtain ⟨g11a, g11b⟩ := grd_some g11
         refine d_pure (v := .ptr 2000035 ((v1).length) ((Int.toNat 1) * 1 + 0)) 6 rfl rfl rfl rfl (by kernel_rfl) (by kernel_rfl) (loc_indexRowT (e := 3) (sz := 1) (kk := 2000035) (L := (v1).length) (n := (v1).length) (k := .i64) (i := 1) (by kernel_rfl) (by kernel_rfl) (by kernel_rfl) g11a g11b) ?_
         obtain ⟨e8, he8, hs⟩ := bind_some hs; replace he8 := Option.some.inj he8
         refine d_loc (F := []) (R := [(2000035, .row 3 1 0 (List.map EV.encI v1))]) (F' := []) (v := .int .i64 e8) 7 [] [2000035] rfl rfl rfl rfl (by kernel_rfl) (by kernel_rfl) (by kernel_rfl) (by kernel_rfl) (by kernel_rfl) (by kernel_rfl) (by kernel_rfl) (by kernel_rfl) (loc_loadRow (L := (v1).length) (off := (Int.toNat 1) * 1 + 0) (els := (List.map EV.encI v1)) (cs := [.int .i64 e8]) (Int.toNat 1) 0 (by kernel_rfl) (by first | (simp only [List.length_map, List.length_set]; done) | rfl) rfl (by rw [← he8]; exact map_get _ (by first | omega | (simp only [List.length_set]; omega))) (by kernel_rfl)) ?_
         obtain ⟨y6, c6, hs⟩ := bind_some hs
         refine d_pure (v := .int .i64 y6) 8 rfl rfl rfl rfl (by kernel_rfl) (by kernel_rfl) (loc_gcall0 (callV_func hbv72 (by kernel_rfl)) (w_expr_binary e.Op e7 e8 _ c6) (by kernel_rfl)) ?_
         refine d_runs 1 9 [(4, .int .i64 y6)] (pfp 1 9) (by kernel_rfl) (by kernel_rfl) ?_
         refine d_nil (by kernel_rfl) ?_
         refine nrm_thenV (v_ret ?_)
         obtain rfl := si hs
         exact fin_ret (by kernel_rfl) (by kernel_rfl) (by kernel_rfl)
theorem wr_expr_context_value : ∀ nF : Nat, (∀ (c_plan : Plan) (c_known : (List ((List UInt8) × Int))) (c_zones : (List (List UInt8))) (e : Expr) (r : Int), s_expr_context_value nF c_plan c_known c_zones e = some r → FnA Tryz.prog 57 [.agg [.vs 6 (List.map enc_Def c_plan.Defs), .vs 3 (List.map enc_Table c_plan.Tables), .vs 3 (List.map enc_Zone c_plan.Zones), .vs 20 (List.map enc_Rule c_plan.Rules), .vs 4 (List.map enc_Cap c_plan.Caps), .vs 6 (List.map enc_View c_plan.Views), .vs 3 (List.map enc_Point3 c_plan.Sun), .int .i64 c_plan.Hours, .mp 1000000, .vs 1 (List.map EV.encS c_zones)], .agg (enc_Expr e)] [(1000000, .map (encM V.str (V.int .i64) c_known))] (.int .i64 r) [(1000000, .map (encM V.str (V.int .i64) c_known))])
 | 0 => fun c_plan c_known c_zones e r hs => by rw [s_expr_context_value] at hs; cases hs
 | nF + 1 => fun c_plan c_known c_zones e r hs => ws_expr_context_value nF (wr_expr_context_value nF) c_plan c_known c_zones e r hs
theorem w_expr_context_value (nF : Nat) (c_plan : Plan) (c_known : (List ((List UInt8) × Int))) (c_zones : (List (List UInt8))) (e : Expr) (r : Int) (hs : s_expr_context_value nF c_plan c_known c_zones e = some r) : FnA Tryz.prog 57 [.agg [.vs 6 (List.map enc_Def c_plan.Defs), .vs 3 (List.map enc_Table c_plan.Tables), .vs 3 (List.map enc_Zone c_plan.Zones), .vs 20 (List.map enc_Rule c_plan.Rules), .vs 4 (List.map enc_Cap c_plan.Caps), .vs 6 (List.map enc_View c_plan.Views), .vs 3 (List.map enc_Point3 c_plan.Sun), .int .i64 c_plan.Hours, .mp 1000000, .vs 1 (List.map EV.encS c_zones)], .agg (enc_Expr e)] [(1000000, .map (encM V.str (V.int .i64) c_known))] (.int .i64 r) [(1000000, .map (encM V.str (V.int .i64) c_known))] := (wr_expr_context_value nF) c_plan c_known c_zones e r hs
end Go.Proofs.YtenljipeggacjaaGreat
