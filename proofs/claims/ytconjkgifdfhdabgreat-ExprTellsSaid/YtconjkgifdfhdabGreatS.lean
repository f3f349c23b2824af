/- printed by gen2.py -/
import Derived.Test.YtconjkgifdfhdabGreatE
import Derived.Test.YtconjkgifdfhdabGreatSD
import Derived.Test.YtconjkgifdfhdabGreatSPartA
set_option linter.all false
set_option maxRecDepth 100000
namespace Go.Proofs.YtconjkgifdfhdabGreat
open Go Go.RowKit Go.Eng Go.EV
variable [Fuel]

theorem w_gl17_small  (r : Bool) (hs : s_gl17_small  = some r) : FnA Tryz.prog 4 [] [] (.bool r) [] := by
 refine fnA_of_wp (N := 92) Tryz.func4 rfl rfl rfl fun cK0 => ?_
 unfold s_gl17_small at hs
 refine v_same (ρ' := []) rfl rfl ?_
 refine vS (vT (oR 1 [(0, .bool false)] kr ?_))
 refine oN (nT (vS (vT (oR 1 [(6, .agg [.int .i64 3, .int .i64 0, .str ls9, .str [], .nils])] kr ?_))))
 obtain ⟨y1, c1, hs⟩ := bS hs
 refine oP (v := .agg (enc_Expr y1)) kr kr (loc_gcall0 (callV_func hbv17 kr) (w_gl17_num 30 _ c1) kr) ?_
 obtain ⟨y2, c2, hs⟩ := bS hs
 refine oP (v := .agg (enc_Expr y2)) kr kr (loc_gcall0 (callV_func hbv17 kr) (w_gl17_num 12 _ c2) kr) ?_
 refine o_loc (F := []) (F' := [(9, .row 35 5 0 (encs_Expr [(Expr.mk 3 0 ls9 [] []), y1, y2]))]) (v := .sl 5 9 3 0 3) [] kr kr rfl kr (loc_buildSliceW (e := 35) (sz := 5) (els := [[.int .i64 3, .int .i64 0, .str ls9, .str [], .nils], (enc_Expr y1), (enc_Expr y2)]) (els2 := [[.int .i64 3, .int .i64 0, .str ls9, .str [], .vs 5 []], (enc_Expr y1), (enc_Expr y2)]) (fl := [.int .i64 3, .int .i64 0, .str ls9, .str [], .nils, .int .i64 y1.Op, .int .i64 y1.N, .str y1.S, .str y1.Key, .vs 5 (encs_Expr y1.Args), .int .i64 y2.Op, .int .i64 y2.N, .str y2.S, .str y2.Key, .vs 5 (encs_Expr y2.Args)]) (fl2 := [.int .i64 3, .int .i64 0, .str ls9, .str [], .vs 5 [], .int .i64 y1.Op, .int .i64 y1.N, .str y1.S, .str y1.Key, .vs 5 (encs_Expr y1.Args), .int .i64 y2.Op, .int .i64 y2.N, .str y2.S, .str y2.Key, .vs 5 (encs_Expr y2.Args)]) kr kr kr kr kr (wk_same (wk_same (wk_same (wk_same (wk_nils (wk_same (wk_same (wk_same (wk_same (wk_same (wk_same (wk_same (wk_same (wk_same (wk_same wk_nil))))))))))))))) kr kr (Eq.trans kr (encs_Expr_eq _).symm)) kr ?_
 obtain ⟨y3, c3, hs⟩ := bS hs
 refine o_to _ [(9, .row 35 5 (((encs_Expr [(Expr.mk 3 0 ls9 [] []), y1, y2])).length) (encs_Expr [(Expr.mk 3 0 ls9 [] []), y1, y2]))] (cut_freeze (F := [(9, .row 35 5 0 (encs_Expr [(Expr.mk 3 0 ls9 [] []), y1, y2]))]) [9] rfl kr kr) ?_
 refine o_loc (F := [(9, .row 35 5 (((encs_Expr [(Expr.mk 3 0 ls9 [] []), y1, y2])).length) (encs_Expr [(Expr.mk 3 0 ls9 [] []), y1, y2]))]) (F' := [(9, .row 35 5 (((encs_Expr [(Expr.mk 3 0 ls9 [] []), y1, y2])).length) (encs_Expr [(Expr.mk 3 0 ls9 [] []), y1, y2]))]) (v := .agg (enc_Expr y3)) [9] kr kr rfl kr (loc_g (R := [(9, .row 35 5 (((encs_Expr [(Expr.mk 3 0 ls9 [] []), y1, y2])).length) (encs_Expr [(Expr.mk 3 0 ls9 [] []), y1, y2]))]) [.int .i64 16, .sl 5 9 3 0 3] [] (callV_func hbv16 kr) (w_gl17_op 16 [(Expr.mk 3 0 ls9 [] []), y1, y2] _ c3) (.cons (.same _) (.cons (.row (t := 35) (fz := (((encs_Expr [(Expr.mk 3 0 ls9 [] []), y1, y2])).length)) kr (by first | (simp only [encs_Expr_eq, List.length_map, List.length_set, cpyT_length]; done) | rfl)) (.nil))) kr kr kr kr kr kr kr kr) kr ?_
 refine o_runh 3 [(13, .agg [.str ls9, .bool false, .nils]), (12, .sl 6 12 1 0 1), (11, .agg [.str ls10, .int .i64 y3.Op, .int .i64 y3.N, .str y3.S, .str y3.Key, .vs 5 (encs_Expr y3.Args)])] [(12, .row 51 6 0 (mM enc_Def [(Def.mk ls10 y3)])), (9, .row 35 5 (((encs_Expr [(Expr.mk 3 0 ls9 [] []), y1, y2])).length) (encs_Expr [(Expr.mk 3 0 ls9 [] []), y1, y2]))] kr ?_
 refine o_loc (F := []) (F' := [(14, .row 54 3 0 (mM enc_Zone [(Zone.mk ls9 false [])]))]) (v := .sl 3 14 1 0 1) [] kr kr rfl kr (loc_buildSliceW (e := 54) (sz := 3) (els := [[.str ls9, .bool false, .nils]]) (els2 := [[.str ls9, .bool false, .vs 2 []]]) (fl := [.str ls9, .bool false, .nils]) (fl2 := [.str ls9, .bool false, .vs 2 []]) kr kr kr kr kr (wk_same (wk_same (wk_nils wk_nil))) kr kr kr) kr ?_
 refine o_runh 3 [(1, .ptr 1 0 0), (15, .agg [.sl 6 12 1 0 1, .nils, .sl 3 14 1 0 1, .nils, .nils, .nils, .nils, .int .i64 0])] [(1, .box 30 [.sl 6 12 1 0 1, .nils, .sl 3 14 1 0 1, .nils, .nils, .nils, .nils, .int .i64 0]), (14, .row 54 3 0 (mM enc_Zone [(Zone.mk ls9 false [])])), (12, .row 51 6 0 (mM enc_Def [(Def.mk ls10 y3)])), (9, .row 35 5 (((encs_Expr [(Expr.mk 3 0 ls9 [] []), y1, y2])).length) (encs_Expr [(Expr.mk 3 0 ls9 [] []), y1, y2]))] kr ?_
 refine oN (nT (vS (vT (o_runh 4 [(2, .sl 2 18 2 0 2), (18, .sl 2 18 2 0 2), (17, .agg [.str ls0, .int .i64 200]), (16, .agg [.str ls4, .int .i64 14])] [(18, .row 40 2 0 (mM enc_Entry [(Entry.mk ls4 14), (Entry.mk ls0 200)])), (1, .box 30 [.sl 6 12 1 0 1, .nils, .sl 3 14 1 0 1, .nils, .nils, .nils, .nils, .int .i64 0]), (14, .row 54 3 0 (mM enc_Zone [(Zone.mk ls9 false [])])), (12, .row 51 6 0 (mM enc_Def [(Def.mk ls10 y3)])), (9, .row 35 5 (((encs_Expr [(Expr.mk 3 0 ls9 [] []), y1, y2])).length) (encs_Expr [(Expr.mk 3 0 ls9 [] []), y1, y2]))] kr ?_))))
 refine oN (nT (vS (vT ?_)))
 obtain ⟨y4, c4, hs⟩ := bS hs
 refine oP (v := .agg (enc_Expr y4)) kr kr (loc_gcall0 (callV_func hbv17 kr) (w_gl17_num 0 _ c4) kr) ?_
 obtain ⟨y5, c5, hs⟩ := bS hs
 refine oP (v := .agg (enc_Expr y5)) kr kr (loc_gcall0 (callV_func hbv17 kr) (w_gl17_num 7 _ c5) kr) ?_
 refine o_loc (F := []) (F' := [(21, .row 35 5 0 (encs_Expr [y4, y5]))]) (v := .sl 5 21 2 0 2) [] kr kr rfl kr (loc_buildSliceW (e := 35) (sz := 5) (els := [(enc_Expr y4), (enc_Expr y5)]) (els2 := [(enc_Expr y4), (enc_Expr y5)]) (fl := [.int .i64 y4.Op, .int .i64 y4.N, .str y4.S, .str y4.Key, .vs 5 (encs_Expr y4.Args), .int .i64 y5.Op, .int .i64 y5.N, .str y5.S, .str y5.Key, .vs 5 (encs_Expr y5.Args)]) (fl2 := [.int .i64 y4.Op, .int .i64 y4.N, .str y4.S, .str y4.Key, .vs 5 (encs_Expr y4.Args), .int .i64 y5.Op, .int .i64 y5.N, .str y5.S, .str y5.Key, .vs 5 (encs_Expr y5.Args)]) kr kr kr kr kr (wk_same (wk_same (wk_same (wk_same (wk_same (wk_same (wk_same (wk_same (wk_same (wk_same wk_nil)))))))))) kr kr (Eq.trans kr (encs_Expr_eq _).symm)) kr ?_
 obtain ⟨y6, c6, hs⟩ := bS hs
 refine o_to _ [(21, .row 35 5 (((encs_Expr [y4, y5])).length) (encs_Expr [y4, y5])), (18, .row 40 2 0 (mM enc_Entry [(Entry.mk ls4 14), (Entry.mk ls0 200)])), (1, .box 30 [.sl 6 12 1 0 1, .nils, .sl 3 14 1 0 1, .nils, .nils, .nils, .nils, .int .i64 0]), (14, .row 54 3 0 (mM enc_Zone [(Zone.mk ls9 false [])])), (12, .row 51 6 0 (mM enc_Def [(Def.mk ls10 y3)])), (9, .row 35 5 (((encs_Expr [(Expr.mk 3 0 ls9 [] []), y1, y2])).length) (encs_Expr [(Expr.mk 3 0 ls9 [] []), y1, y2]))] (cut_freeze (F := [(21, .row 35 5 0 (encs_Expr [y4, y5]))]) [21] rfl kr kr) ?_
 refine o_loc (F := [(21, .row 35 5 (((encs_Expr [y4, y5])).length) (encs_Expr [y4, y5]))]) (F' := [(21, .row 35 5 (((encs_Expr [y4, y5])).length) (encs_Expr [y4, y5]))]) (v := .agg (enc_Expr y6)) [21] kr kr rfl kr (loc_g (R := [(21, .row 35 5 (((encs_Expr [y4, y5])).length) (encs_Expr [y4, y5]))]) [.int .i64 5, .sl 5 21 2 0 2] [] (callV_func hbv16 kr) (w_gl17_op 5 [y4, y5] _ c6) (.cons (.same _) (.cons (.row (t := 35) (fz := (((encs_Expr [y4, y5])).length)) kr (by first | (simp only [encs_Expr_eq, List.length_map, List.length_set, cpyT_length]; done) | rfl)) (.nil))) kr kr kr kr kr kr kr kr) kr ?_
 refine o_runh 2 [(3, .ptr 3 0 0)] [(3, .box 35 (enc_Expr y6)), (21, .row 35 5 (((encs_Expr [y4, y5])).length) (encs_Expr [y4, y5])), (18, .row 40 2 0 (mM enc_Entry [(Entry.mk ls4 14), (Entry.mk ls0 200)])), (1, .box 30 [.sl 6 12 1 0 1, .nils, .sl 3 14 1 0 1, .nils, .nils, .nils, .nils, .int .i64 0]), (14, .row 54 3 0 (mM enc_Zone [(Zone.mk ls9 false [])])), (12, .row 51 6 0 (mM enc_Def [(Def.mk ls10 y3)])), (9, .row 35 5 (((encs_Expr [(Expr.mk 3 0 ls9 [] []), y1, y2])).length) (encs_Expr [(Expr.mk 3 0 ls9 [] []), y1, y2]))] kr ?_
 refine oN (nT (vS ?_))
 obtain ⟨z1, hs, hk1⟩ := bS hs
 refine v_join (S := Bool) (fun u => u = z1) (fun u => [(1, .ptr 1 0 0), (2, .sl 2 18 (([(Entry.mk ls4 14), (Entry.mk ls0 200)]).length) 0 (([(Entry.mk ls4 14), (Entry.mk ls0 200)]).length)), (3, .ptr 3 0 0), (4, .bool u)]) (fun u => [(3, .box 35 (enc_Expr y6)), (18, .row 40 2 0 (mM enc_Entry [(Entry.mk ls4 14), (Entry.mk ls0 200)])), (1, .box 30 [.sl 6 12 (([(Def.mk ls10 y3)]).length) 0 (([(Def.mk ls10 y3)]).length), .nils, .sl 3 14 (([(Zone.mk ls9 false [])]).length) 0 (([(Zone.mk ls9 false [])]).length), .nils, .nils, .nils, .nils, .int .i64 0]), (14, .row 54 3 0 (mM enc_Zone [(Zone.mk ls9 false [])])), (12, .row 51 6 0 (mM enc_Def [(Def.mk ls10 y3)]))]) ?_ (fun v1 hz => ?_)
 ·refine v_draw mixedH kr ?_
  refine d_runh 3 0 [(25, .sl 1 25 1 0 1), (24, .sl 2 18 2 0 2), (23, .agg [.sl 6 12 1 0 1, .nils, .sl 3 14 1 0 1, .nils, .nils, .nils, .nils, .int .i64 0])] [(25, .row 9 1 0 (mS [ls9])), (3, .box 35 (enc_Expr y6)), (21, .row 35 5 (((encs_Expr [y4, y5])).length) (encs_Expr [y4, y5])), (18, .row 40 2 0 (mM enc_Entry [(Entry.mk ls4 14), (Entry.mk ls0 200)])), (1, .box 30 [.sl 6 12 1 0 1, .nils, .sl 3 14 1 0 1, .nils, .nils, .nils, .nils, .int .i64 0]), (14, .row 54 3 0 (mM enc_Zone [(Zone.mk ls9 false [])])), (12, .row 51 6 0 (mM enc_Def [(Def.mk ls10 y3)])), (9, .row 35 5 (((encs_Expr [(Expr.mk 3 0 ls9 [] []), y1, y2])).length) (encs_Expr [(Expr.mk 3 0 ls9 [] []), y1, y2]))] [⟨2, [25], []⟩, ⟨1, [], []⟩, ⟨0, [], [1]⟩] kr kr ?_
  obtain ⟨y7, c7, hs⟩ := bS hs
  refine d_pure (v := .agg (enc_Expr y7)) 3 rfl rfl rfl rfl kr kr (loc_gcall0 (callV_func hbv18 kr) (w_gl17_name ls4 _ c7) kr) ?_
  obtain ⟨y8, c8, hs⟩ := bS hs
  refine d_pure (v := .agg (enc_Expr y8)) 4 rfl rfl rfl rfl kr kr (loc_gcall0 (callV_func hbv18 kr) (w_gl17_name ls10 _ c8) kr) ?_
  refine d_loc (F := []) (R := []) (F' := [(28, .row 35 5 0 (encs_Expr [y7, y8]))]) (v := .sl 5 28 2 0 2) 5 [] [] rfl rfl rfl rfl kr kr kr kr kr kr kr kr (loc_buildSliceW (e := 35) (sz := 5) (els := [(enc_Expr y7), (enc_Expr y8)]) (els2 := [(enc_Expr y7), (enc_Expr y8)]) (fl := [.int .i64 y7.Op, .int .i64 y7.N, .str y7.S, .str y7.Key, .vs 5 (encs_Expr y7.Args), .int .i64 y8.Op, .int .i64 y8.N, .str y8.S, .str y8.Key, .vs 5 (encs_Expr y8.Args)]) (fl2 := [.int .i64 y7.Op, .int .i64 y7.N, .str y7.S, .str y7.Key, .vs 5 (encs_Expr y7.Args), .int .i64 y8.Op, .int .i64 y8.N, .str y8.S, .str y8.Key, .vs 5 (encs_Expr y8.Args)]) kr kr kr kr kr (wk_same (wk_same (wk_same (wk_same (wk_same (wk_same (wk_same (wk_same (wk_same (wk_same wk_nil)))))))))) kr kr (Eq.trans kr (encs_Expr_eq _).symm)) ?_
  obtain ⟨y9, c9, hs⟩ := bS hs
  refine d_loc (F := [(28, .row 35 5 0 (encs_Expr [y7, y8]))]) (R := []) (F' := [(28, .row 35 5 (((encs_Expr [y7, y8])).length) (encs_Expr [y7, y8]))]) (v := .agg (enc_Expr y9)) 6 [28] [] rfl rfl rfl rfl kr kr kr kr kr kr kr kr (loc_frz (Fa := []) (R := [(28, .row 35 5 0 (encs_Expr [y7, y8]))]) (F2 := [(28, .row 35 5 (((encs_Expr [y7, y8])).length) (encs_Expr [y7, y8]))]) (F1 := [(28, .row 35 5 (((encs_Expr [y7, y8])).length) (encs_Expr [y7, y8]))]) kr (loc_g (R := [(28, .row 35 5 (((encs_Expr [y7, y8])).length) (encs_Expr [y7, y8]))]) [.int .i64 12, .sl 5 28 2 0 2] [] (callV_func hbv16 kr) (w_gl17_op 12 [y7, y8] _ c9) (.cons (.same _) (.cons (.row (t := 35) (fz := (((encs_Expr [y7, y8])).length)) kr (by first | (simp only [encs_Expr_eq, List.length_map, List.length_set, cpyT_length]; done) | rfl)) (.nil))) kr kr kr kr kr kr kr kr)) ?_
  obtain ⟨y10, c10, hs⟩ := bS hs
  refine d_loc (F := []) (R := [(12, .row 51 6 0 (mM enc_Def [(Def.mk ls10 y3)])), (14, .row 54 3 0 (mM enc_Zone [(Zone.mk ls9 false [])])), (18, .row 40 2 0 (mM enc_Entry [(Entry.mk ls4 14), (Entry.mk ls0 200)])), (25, .row 9 1 0 (mS [ls9]))]) (F' := []) (v := .int .i64 y10) 7 [] [12, 14, 18, 25] rfl rfl rfl rfl kr kr kr kr kr kr kr kr (loc_gcallB (vs := [.agg [.sl 6 12 1 0 1, .nils, .sl 3 14 1 0 1, .nils, .nils, .nils, .nils, .int .i64 0], .sl 2 18 2 0 2, .sl 1 25 1 0 1, .agg (enc_Expr y9)]) (R := [(12, .row 51 6 0 (mM enc_Def [(Def.mk ls10 y3)])), (14, .row 54 3 0 (mM enc_Zone [(Zone.mk ls9 false [])])), (18, .row 40 2 0 (mM enc_Entry [(Entry.mk ls4 14), (Entry.mk ls0 200)])), (25, .row 9 1 0 (mS [ls9]))]) (callV_func hbv11 kr) (w_expr_Eval [(Def.mk ls10 y3)] [] [(Zone.mk ls9 false [])] [] [] [] [] 0 [(Entry.mk ls4 14), (Entry.mk ls0 200)] [ls9] y9 _ c10) (.cons (.agg (.cons (.row (t := 51) (fz := 0) kr lh) (.cons (.nils _) (.cons (.row (t := 54) (fz := 0) kr lh) (.cons (.nils _) (.cons (.nils _) (.cons (.nils _) (.cons (.nils _) (.cons (.same _) (.nil)))))))))) (.cons (.row (t := 40) (fz := 0) kr lh) (.cons (.row (t := 9) (fz := 0) kr lh) (.cons (.same _) (.nil))))) kr kr kr) ?_
  refine d_runs 2 8 [(32, .bool (decide (y10 = 1))), (31, .bool (decide (y10 = 1)))] (pfp 2 9) kr kr ?_
  cases h1 : ((decide (y10 = 1)))
  ·replace hs := bif_f h1 hs
   refine d_runs 10 10 [(4, .bool false), (41, .bool false), (40, .no), (39, .no), (38, .no), (37, .no), (36, .no), (35, .no), (34, .no), (33, .no)] (pfp 10 19) kr kr ?_
   refine d_nil kr ?_
   cases hs
   refine nrm_join false rfl ?_
   exact Cut.trans (cut_eq 2 (v := .sl 2 18 2 0 2) (v' := .sl 2 18 (([(Entry.mk ls4 14), (Entry.mk ls0 200)]).length) 0 (([(Entry.mk ls4 14), (Entry.mk ls0 200)]).length)) kr (by first | rfl | simp only [List.length_set, cpyT_length])) (Cut.trans (cut_same (H1 := [(28, .row 35 5 (((encs_Expr [y7, y8])).length) (encs_Expr [y7, y8])), (25, .row 9 1 0 (mS [ls9])), (3, .box 35 (enc_Expr y6)), (21, .row 35 5 (((encs_Expr [y4, y5])).length) (encs_Expr [y4, y5])), (18, .row 40 2 0 (mM enc_Entry [(Entry.mk ls4 14), (Entry.mk ls0 200)])), (1, .box 30 [.sl 6 12 1 0 1, .nils, .sl 3 14 1 0 1, .nils, .nils, .nils, .nils, .int .i64 0]), (14, .row 54 3 0 (mM enc_Zone [(Zone.mk ls9 false [])])), (12, .row 51 6 0 (mM enc_Def [(Def.mk ls10 y3)])), (9, .row 35 5 (((encs_Expr [(Expr.mk 3 0 ls9 [] []), y1, y2])).length) (encs_Expr [(Expr.mk 3 0 ls9 [] []), y1, y2]))]) rfl kr) (Cut.trans (cut_same (H1 := [(28, .row 35 5 (((encs_Expr [y7, y8])).length) (encs_Expr [y7, y8])), (25, .row 9 1 0 (mS [ls9])), (3, .box 35 (enc_Expr y6)), (21, .row 35 5 (((encs_Expr [y4, y5])).length) (encs_Expr [y4, y5])), (18, .row 40 2 0 (mM enc_Entry [(Entry.mk ls4 14), (Entry.mk ls0 200)])), (1, .box 30 [.sl 6 12 (([(Def.mk ls10 y3)]).length) 0 (([(Def.mk ls10 y3)]).length), .nils, .sl 3 14 (([(Zone.mk ls9 false [])]).length) 0 (([(Zone.mk ls9 false [])]).length), .nils, .nils, .nils, .nils, .int .i64 0]), (14, .row 54 3 0 (mM enc_Zone [(Zone.mk ls9 false [])])), (12, .row 51 6 0 (mM enc_Def [(Def.mk ls10 y3)])), (9, .row 35 5 (((encs_Expr [(Expr.mk 3 0 ls9 [] []), y1, y2])).length) (encs_Expr [(Expr.mk 3 0 ls9 [] []), y1, y2]))]) rfl (by first | (simp only [List.length_set, cpyT_length]; done) | rfl)) (cut_of [1, 2, 3, 4] [3, 18, 1, 14, 12] kr kr kr)))
  ·replace hs := bif_t h1 hs
   refine d_runs 2 10 [(34, .sl 2 18 2 0 2), (33, .agg [.sl 6 12 1 0 1, .nils, .sl 3 14 1 0 1, .nils, .nils, .nils, .nils, .int .i64 0])] [⟨11, [], []⟩, ⟨10, [], [1]⟩] kr kr ?_
   obtain ⟨y11, c11, hs⟩ := bS hs
   refine d_pure (v := .agg (enc_Expr y11)) 12 rfl rfl rfl rfl kr kr (loc_gcall0 (callV_func hbv18 kr) (w_gl17_name ls4 _ c11) kr) ?_
   obtain ⟨y12, c12, hs⟩ := bS hs
   refine d_pure (v := .agg (enc_Expr y12)) 13 rfl rfl rfl rfl kr kr (loc_gcall0 (callV_func hbv18 kr) (w_gl17_name ls10 _ c12) kr) ?_
   refine d_loc (F := []) (R := []) (F' := [(37, .row 35 5 0 (encs_Expr [y11, y12]))]) (v := .sl 5 37 2 0 2) 14 [] [] rfl rfl rfl rfl kr kr kr kr kr kr kr kr (loc_buildSliceW (e := 35) (sz := 5) (els := [(enc_Expr y11), (enc_Expr y12)]) (els2 := [(enc_Expr y11), (enc_Expr y12)]) (fl := [.int .i64 y11.Op, .int .i64 y11.N, .str y11.S, .str y11.Key, .vs 5 (encs_Expr y11.Args), .int .i64 y12.Op, .int .i64 y12.N, .str y12.S, .str y12.Key, .vs 5 (encs_Expr y12.Args)]) (fl2 := [.int .i64 y11.Op, .int .i64 y11.N, .str y11.S, .str y11.Key, .vs 5 (encs_Expr y11.Args), .int .i64 y12.Op, .int .i64 y12.N, .str y12.S, .str y12.Key, .vs 5 (encs_Expr y12.Args)]) kr kr kr kr kr (wk_same (wk_same (wk_same (wk_same (wk_same (wk_same (wk_same (wk_same (wk_same (wk_same wk_nil)))))))))) kr kr (Eq.trans kr (encs_Expr_eq _).symm)) ?_
   obtain ⟨y13, c13, hs⟩ := bS hs
   refine d_loc (F := [(37, .row 35 5 0 (encs_Expr [y11, y12]))]) (R := []) (F' := [(37, .row 35 5 (((encs_Expr [y11, y12])).length) (encs_Expr [y11, y12]))]) (v := .agg (enc_Expr y13)) 15 [37] [] rfl rfl rfl rfl kr kr kr kr kr kr kr kr (loc_frz (Fa := []) (R := [(37, .row 35 5 0 (encs_Expr [y11, y12]))]) (F2 := [(37, .row 35 5 (((encs_Expr [y11, y12])).length) (encs_Expr [y11, y12]))]) (F1 := [(37, .row 35 5 (((encs_Expr [y11, y12])).length) (encs_Expr [y11, y12]))]) kr (loc_g (R := [(37, .row 35 5 (((encs_Expr [y11, y12])).length) (encs_Expr [y11, y12]))]) [.int .i64 12, .sl 5 37 2 0 2] [] (callV_func hbv16 kr) (w_gl17_op 12 [y11, y12] _ c13) (.cons (.same _) (.cons (.row (t := 35) (fz := (((encs_Expr [y11, y12])).length)) kr (by first | (simp only [encs_Expr_eq, List.length_map, List.length_set, cpyT_length]; done) | rfl)) (.nil))) kr kr kr kr kr kr kr kr)) ?_
   obtain ⟨y14, c14, hs⟩ := bS hs
   refine d_loc (F := []) (R := [(12, .row 51 6 0 (mM enc_Def [(Def.mk ls10 y3)])), (14, .row 54 3 0 (mM enc_Zone [(Zone.mk ls9 false [])])), (18, .row 40 2 0 (mM enc_Entry [(Entry.mk ls4 14), (Entry.mk ls0 200)]))]) (F' := []) (v := .int .i64 y14) 16 [] [12, 14, 18] rfl rfl rfl rfl kr kr kr kr kr kr kr kr (loc_gcallB (vs := [.agg [.sl 6 12 1 0 1, .nils, .sl 3 14 1 0 1, .nils, .nils, .nils, .nils, .int .i64 0], .sl 2 18 2 0 2, .nils, .agg (enc_Expr y13)]) (R := [(12, .row 51 6 0 (mM enc_Def [(Def.mk ls10 y3)])), (14, .row 54 3 0 (mM enc_Zone [(Zone.mk ls9 false [])])), (18, .row 40 2 0 (mM enc_Entry [(Entry.mk ls4 14), (Entry.mk ls0 200)]))]) (callV_func hbv11 kr) (w_expr_Eval [(Def.mk ls10 y3)] [] [(Zone.mk ls9 false [])] [] [] [] [] 0 [(Entry.mk ls4 14), (Entry.mk ls0 200)] [] y13 _ c14) (.cons (.agg (.cons (.row (t := 51) (fz := 0) kr lh) (.cons (.nils _) (.cons (.row (t := 54) (fz := 0) kr lh) (.cons (.nils _) (.cons (.nils _) (.cons (.nils _) (.cons (.nils _) (.cons (.same _) (.nil)))))))))) (.cons (.row (t := 40) (fz := 0) kr lh) (.cons (.nils _) (.cons (.same _) (.nil))))) kr kr kr) ?_
   refine d_runs 3 17 [(4, .bool (decide (y14 = 0))), (41, .bool (decide (y14 = 0))), (40, .bool (decide (y14 = 0)))] (pfp 3 19) kr kr ?_
   refine d_nil kr ?_
   obtain rfl := si hs
   refine nrm_join (decide (y14 = 0)) rfl ?_
   exact Cut.trans (cut_eq 2 (v := .sl 2 18 2 0 2) (v' := .sl 2 18 (([(Entry.mk ls4 14), (Entry.mk ls0 200)]).length) 0 (([(Entry.mk ls4 14), (Entry.mk ls0 200)]).length)) kr (by first | rfl | simp only [List.length_set, cpyT_length])) (Cut.trans (cut_same (H1 := [(37, .row 35 5 (((encs_Expr [y11, y12])).length) (encs_Expr [y11, y12])), (28, .row 35 5 (((encs_Expr [y7, y8])).length) (encs_Expr [y7, y8])), (25, .row 9 1 0 (mS [ls9])), (3, .box 35 (enc_Expr y6)), (21, .row 35 5 (((encs_Expr [y4, y5])).length) (encs_Expr [y4, y5])), (18, .row 40 2 0 (mM enc_Entry [(Entry.mk ls4 14), (Entry.mk ls0 200)])), (1, .box 30 [.sl 6 12 1 0 1, .nils, .sl 3 14 1 0 1, .nils, .nils, .nils, .nils, .int .i64 0]), (14, .row 54 3 0 (mM enc_Zone [(Zone.mk ls9 false [])])), (12, .row 51 6 0 (mM enc_Def [(Def.mk ls10 y3)])), (9, .row 35 5 (((encs_Expr [(Expr.mk 3 0 ls9 [] []), y1, y2])).length) (encs_Expr [(Expr.mk 3 0 ls9 [] []), y1, y2]))]) rfl kr) (Cut.trans (cut_same (H1 := [(37, .row 35 5 (((encs_Expr [y11, y12])).length) (encs_Expr [y11, y12])), (28, .row 35 5 (((encs_Expr [y7, y8])).length) (encs_Expr [y7, y8])), (25, .row 9 1 0 (mS [ls9])), (3, .box 35 (enc_Expr y6)), (21, .row 35 5 (((encs_Expr [y4, y5])).length) (encs_Expr [y4, y5])), (18, .row 40 2 0 (mM enc_Entry [(Entry.mk ls4 14), (Entry.mk ls0 200)])), (1, .box 30 [.sl 6 12 (([(Def.mk ls10 y3)]).length) 0 (([(Def.mk ls10 y3)]).length), .nils, .sl 3 14 (([(Zone.mk ls9 false [])]).length) 0 (([(Zone.mk ls9 false [])]).length), .nils, .nils, .nils, .nils, .int .i64 0]), (14, .row 54 3 0 (mM enc_Zone [(Zone.mk ls9 false [])])), (12, .row 51 6 0 (mM enc_Def [(Def.mk ls10 y3)])), (9, .row 35 5 (((encs_Expr [(Expr.mk 3 0 ls9 [] []), y1, y2])).length) (encs_Expr [(Expr.mk 3 0 ls9 [] []), y1, y2]))]) rfl (by first | (simp only [List.length_set, cpyT_length]; done) | rfl)) (cut_of [1, 2, 3, 4] [3, 18, 1, 14, 12] kr kr kr)))
 ·subst hz; clear hs; have hs := hk1; clear hk1
  refine nT (vS ?_)
  obtain ⟨z2, hs, hk2⟩ := bS hs
  refine v_join (S := Bool) (fun u => u = z2) (fun u => [(1, .ptr 1 0 0), (4, .bool v1), (5, .bool u)]) (fun u => [(1, .box 30 [.sl 6 12 (([(Def.mk ls10 y3)]).length) 0 (([(Def.mk ls10 y3)]).length), .nils, .sl 3 14 (([(Zone.mk ls9 false [])]).length) 0 (([(Zone.mk ls9 false [])]).length), .nils, .nils, .nils, .nils, .int .i64 0]), (14, .row 54 3 0 (mM enc_Zone [(Zone.mk ls9 false [])])), (12, .row 51 6 0 (mM enc_Def [(Def.mk ls10 y3)]))]) ?_ (fun v2 hz => ?_)
  ·refine v_draw mixedH kr ?_
   refine d_runs 2 0 [(43, .sl 2 18 (([(Entry.mk ls4 14), (Entry.mk ls0 200)]).length) 0 (([(Entry.mk ls4 14), (Entry.mk ls0 200)]).length)), (42, .agg [.sl 6 12 (([(Def.mk ls10 y3)]).length) 0 (([(Def.mk ls10 y3)]).length), .nils, .sl 3 14 (([(Zone.mk ls9 false [])]).length) 0 (([(Zone.mk ls9 false [])]).length), .nils, .nils, .nils, .nils, .int .i64 0])] [⟨1, [], []⟩, ⟨0, [], [1]⟩] kr kr ?_
   obtain ⟨y15, c15, hs⟩ := bS hs
   refine d_pure (v := .agg (enc_Expr y15)) 2 rfl rfl rfl rfl kr kr (loc_gcall0 (callV_func hbv18 kr) (w_gl17_name ls0 _ c15) kr) ?_
   obtain ⟨y16, c16, hs⟩ := bS hs
   refine d_pure (v := .agg (enc_Expr y16)) 3 rfl rfl rfl rfl kr kr (loc_gcall0 (callV_func hbv17 kr) (w_gl17_num 0 _ c16) kr) ?_
   refine d_loc (F := []) (R := []) (F' := [(46, .row 35 5 0 (encs_Expr [y15, y16]))]) (v := .sl 5 46 2 0 2) 4 [] [] rfl rfl rfl rfl kr kr kr kr kr kr kr kr (loc_buildSliceW (e := 35) (sz := 5) (els := [(enc_Expr y15), (enc_Expr y16)]) (els2 := [(enc_Expr y15), (enc_Expr y16)]) (fl := [.int .i64 y15.Op, .int .i64 y15.N, .str y15.S, .str y15.Key, .vs 5 (encs_Expr y15.Args), .int .i64 y16.Op, .int .i64 y16.N, .str y16.S, .str y16.Key, .vs 5 (encs_Expr y16.Args)]) (fl2 := [.int .i64 y15.Op, .int .i64 y15.N, .str y15.S, .str y15.Key, .vs 5 (encs_Expr y15.Args), .int .i64 y16.Op, .int .i64 y16.N, .str y16.S, .str y16.Key, .vs 5 (encs_Expr y16.Args)]) kr kr kr kr kr (wk_same (wk_same (wk_same (wk_same (wk_same (wk_same (wk_same (wk_same (wk_same (wk_same wk_nil)))))))))) kr kr (Eq.trans kr (encs_Expr_eq _).symm)) ?_
   obtain ⟨y17, c17, hs⟩ := bS hs
   refine d_loc (F := [(46, .row 35 5 0 (encs_Expr [y15, y16]))]) (R := []) (F' := [(46, .row 35 5 (((encs_Expr [y15, y16])).length) (encs_Expr [y15, y16]))]) (v := .agg (enc_Expr y17)) 5 [46] [] rfl rfl rfl rfl kr kr kr kr kr kr kr kr (loc_frz (Fa := []) (R := [(46, .row 35 5 0 (encs_Expr [y15, y16]))]) (F2 := [(46, .row 35 5 (((encs_Expr [y15, y16])).length) (encs_Expr [y15, y16]))]) (F1 := [(46, .row 35 5 (((encs_Expr [y15, y16])).length) (encs_Expr [y15, y16]))]) kr (loc_g (R := [(46, .row 35 5 (((encs_Expr [y15, y16])).length) (encs_Expr [y15, y16]))]) [.int .i64 7, .sl 5 46 2 0 2] [] (callV_func hbv16 kr) (w_gl17_op 7 [y15, y16] _ c17) (.cons (.same _) (.cons (.row (t := 35) (fz := (((encs_Expr [y15, y16])).length)) kr (by first | (simp only [encs_Expr_eq, List.length_map, List.length_set, cpyT_length]; done) | rfl)) (.nil))) kr kr kr kr kr kr kr kr)) ?_
   obtain ⟨y18, c18, hs⟩ := bS hs
   refine d_loc (F := []) (R := [(12, .row 51 6 0 (mM enc_Def [(Def.mk ls10 y3)])), (14, .row 54 3 0 (mM enc_Zone [(Zone.mk ls9 false [])])), (18, .row 40 2 0 (mM enc_Entry [(Entry.mk ls4 14), (Entry.mk ls0 200)]))]) (F' := []) (v := .int .i64 y18) 6 [] [12, 14, 18] rfl rfl rfl rfl kr kr kr kr kr kr kr kr (loc_gcallB (vs := [.agg [.sl 6 12 (([(Def.mk ls10 y3)]).length) 0 (([(Def.mk ls10 y3)]).length), .nils, .sl 3 14 (([(Zone.mk ls9 false [])]).length) 0 (([(Zone.mk ls9 false [])]).length), .nils, .nils, .nils, .nils, .int .i64 0], .sl 2 18 (([(Entry.mk ls4 14), (Entry.mk ls0 200)]).length) 0 (([(Entry.mk ls4 14), (Entry.mk ls0 200)]).length), .nils, .agg (enc_Expr y17)]) (R := [(12, .row 51 6 0 (mM enc_Def [(Def.mk ls10 y3)])), (14, .row 54 3 0 (mM enc_Zone [(Zone.mk ls9 false [])])), (18, .row 40 2 0 (mM enc_Entry [(Entry.mk ls4 14), (Entry.mk ls0 200)]))]) (callV_func hbv11 kr) (w_expr_Eval [(Def.mk ls10 y3)] [] [(Zone.mk ls9 false [])] [] [] [] [] 0 [(Entry.mk ls4 14), (Entry.mk ls0 200)] [] y17 _ c18) (.cons (.agg (.cons (.row (t := 51) (fz := 0) kr lh) (.cons (.nils _) (.cons (.row (t := 54) (fz := 0) kr lh) (.cons (.nils _) (.cons (.nils _) (.cons (.nils _) (.cons (.nils _) (.cons (.same _) (.nil)))))))))) (.cons (.row (t := 40) (fz := 0) kr lh) (.cons (.nils _) (.cons (.same _) (.nil))))) kr kr kr) ?_
   refine d_runs 2 7 [(50, .bool (decide (y18 = 0))), (49, .bool (decide (y18 = 0)))] (pfp 2 8) kr kr ?_
   cases h2 : ((decide (y18 = 0)))
   ·replace hs := bif_f h2 hs
    refine d_runs 20 9 [(5, .bool false), (69, .bool false), (68, .no), (67, .no), (66, .no), (65, .no), (64, .no), (63, .no), (62, .no), (61, .no), (60, .bool false), (59, .bool false), (58, .no), (57, .no), (56, .no), (55, .no), (54, .no), (53, .no), (52, .no), (51, .no)] (pfp 20 28) kr kr ?_
    refine d_nil kr ?_
    cases hs
    refine nrm_join false rfl ?_
    exact cut_of [1, 4, 5] [1, 14, 12] kr kr kr
   ·replace hs := bif_t h2 hs
    refine d_runs 3 9 [(53, .agg (enc_Expr y6)), (52, .sl 2 18 (([(Entry.mk ls4 14), (Entry.mk ls0 200)]).length) 0 (([(Entry.mk ls4 14), (Entry.mk ls0 200)]).length)), (51, .agg [.sl 6 12 (([(Def.mk ls10 y3)]).length) 0 (([(Def.mk ls10 y3)]).length), .nils, .sl 3 14 (([(Zone.mk ls9 false [])]).length) 0 (([(Zone.mk ls9 false [])]).length), .nils, .nils, .nils, .nils, .int .i64 0])] [⟨11, [], [3]⟩, ⟨10, [], []⟩, ⟨9, [], [1]⟩] kr kr ?_
    obtain ⟨y19, c19, hs⟩ := bS hs
    refine d_pure (v := .agg (enc_Expr y19)) 12 rfl rfl rfl rfl kr kr (loc_gcall0 (callV_func hbv17 kr) (w_gl17_num 2 _ c19) kr) ?_
    refine d_loc (F := []) (R := []) (F' := [(55, .row 35 5 0 (encs_Expr [y6, y19]))]) (v := .sl 5 55 2 0 2) 13 [] [] rfl rfl rfl rfl kr kr kr kr kr kr kr kr (loc_buildSliceW (e := 35) (sz := 5) (els := [(enc_Expr y6), (enc_Expr y19)]) (els2 := [(enc_Expr y6), (enc_Expr y19)]) (fl := [.int .i64 y6.Op, .int .i64 y6.N, .str y6.S, .str y6.Key, .vs 5 (encs_Expr y6.Args), .int .i64 y19.Op, .int .i64 y19.N, .str y19.S, .str y19.Key, .vs 5 (encs_Expr y19.Args)]) (fl2 := [.int .i64 y6.Op, .int .i64 y6.N, .str y6.S, .str y6.Key, .vs 5 (encs_Expr y6.Args), .int .i64 y19.Op, .int .i64 y19.N, .str y19.S, .str y19.Key, .vs 5 (encs_Expr y19.Args)]) kr kr kr kr kr (wk_same (wk_same (wk_same (wk_same (wk_same (wk_same (wk_same (wk_same (wk_same (wk_same wk_nil)))))))))) kr kr (Eq.trans kr (encs_Expr_eq _).symm)) ?_
    obtain ⟨y20, c20, hs⟩ := bS hs
    refine d_loc (F := [(55, .row 35 5 0 (encs_Expr [y6, y19]))]) (R := []) (F' := [(55, .row 35 5 (((encs_Expr [y6, y19])).length) (encs_Expr [y6, y19]))]) (v := .agg (enc_Expr y20)) 14 [55] [] rfl rfl rfl rfl kr kr kr kr kr kr kr kr (loc_frz (Fa := []) (R := [(55, .row 35 5 0 (encs_Expr [y6, y19]))]) (F2 := [(55, .row 35 5 (((encs_Expr [y6, y19])).length) (encs_Expr [y6, y19]))]) (F1 := [(55, .row 35 5 (((encs_Expr [y6, y19])).length) (encs_Expr [y6, y19]))]) kr (loc_g (R := [(55, .row 35 5 (((encs_Expr [y6, y19])).length) (encs_Expr [y6, y19]))]) [.int .i64 7, .sl 5 55 2 0 2] [] (callV_func hbv16 kr) (w_gl17_op 7 [y6, y19] _ c20) (.cons (.same _) (.cons (.row (t := 35) (fz := (((encs_Expr [y6, y19])).length)) kr (by first | (simp only [encs_Expr_eq, List.length_map, List.length_set, cpyT_length]; done) | rfl)) (.nil))) kr kr kr kr kr kr kr kr)) ?_
    obtain ⟨y21, c21, hs⟩ := bS hs
    refine d_loc (F := []) (R := [(12, .row 51 6 0 (mM enc_Def [(Def.mk ls10 y3)])), (14, .row 54 3 0 (mM enc_Zone [(Zone.mk ls9 false [])])), (18, .row 40 2 0 (mM enc_Entry [(Entry.mk ls4 14), (Entry.mk ls0 200)]))]) (F' := []) (v := .int .i64 y21) 15 [] [12, 14, 18] rfl rfl rfl rfl kr kr kr kr kr kr kr kr (loc_gcallB (vs := [.agg [.sl 6 12 (([(Def.mk ls10 y3)]).length) 0 (([(Def.mk ls10 y3)]).length), .nils, .sl 3 14 (([(Zone.mk ls9 false [])]).length) 0 (([(Zone.mk ls9 false [])]).length), .nils, .nils, .nils, .nils, .int .i64 0], .sl 2 18 (([(Entry.mk ls4 14), (Entry.mk ls0 200)]).length) 0 (([(Entry.mk ls4 14), (Entry.mk ls0 200)]).length), .nils, .agg (enc_Expr y20)]) (R := [(12, .row 51 6 0 (mM enc_Def [(Def.mk ls10 y3)])), (14, .row 54 3 0 (mM enc_Zone [(Zone.mk ls9 false [])])), (18, .row 40 2 0 (mM enc_Entry [(Entry.mk ls4 14), (Entry.mk ls0 200)]))]) (callV_func hbv11 kr) (w_expr_Eval [(Def.mk ls10 y3)] [] [(Zone.mk ls9 false [])] [] [] [] [] 0 [(Entry.mk ls4 14), (Entry.mk ls0 200)] [] y20 _ c21) (.cons (.agg (.cons (.row (t := 51) (fz := 0) kr lh) (.cons (.nils _) (.cons (.row (t := 54) (fz := 0) kr lh) (.cons (.nils _) (.cons (.nils _) (.cons (.nils _) (.cons (.nils _) (.cons (.same _) (.nil)))))))))) (.cons (.row (t := 40) (fz := 0) kr lh) (.cons (.nils _) (.cons (.same _) (.nil))))) kr kr kr) ?_
    refine d_runs 3 16 [(60, .bool (decide (y21 = (-4)))), (59, .bool (decide (y21 = (-4)))), (58, .bool (decide (y21 = (-4))))] (pfp 3 18) kr kr ?_
    cases h3 : ((decide (y21 = (-4))))
    ·replace hs := bif_f h3 hs
     refine d_runs 10 19 [(5, .bool false), (69, .bool false), (68, .no), (67, .no), (66, .no), (65, .no), (64, .no), (63, .no), (62, .no), (61, .no)] (pfp 10 28) kr kr ?_
     refine d_nil kr ?_
     cases hs
     refine nrm_join false rfl ?_
     exact cut_of [1, 4, 5] [1, 14, 12] kr kr kr
    ·replace hs := bif_t h3 hs
     refine d_runs 3 19 [(63, .agg (enc_Expr y6)), (62, .sl 2 18 (([(Entry.mk ls4 14), (Entry.mk ls0 200)]).length) 0 (([(Entry.mk ls4 14), (Entry.mk ls0 200)]).length)), (61, .agg [.sl 6 12 (([(Def.mk ls10 y3)]).length) 0 (([(Def.mk ls10 y3)]).length), .nils, .sl 3 14 (([(Zone.mk ls9 false [])]).length) 0 (([(Zone.mk ls9 false [])]).length), .nils, .nils, .nils, .nils, .int .i64 0])] [⟨21, [], [3]⟩, ⟨20, [], []⟩, ⟨19, [], [1]⟩] kr kr ?_
     obtain ⟨y22, c22, hs⟩ := bS hs
     refine d_pure (v := .agg (enc_Expr y22)) 22 rfl rfl rfl rfl kr kr (loc_gcall0 (callV_func hbv17 kr) (w_gl17_num 2 _ c22) kr) ?_
     refine d_loc (F := []) (R := []) (F' := [(65, .row 35 5 0 (encs_Expr [y6, y22]))]) (v := .sl 5 65 2 0 2) 23 [] [] rfl rfl rfl rfl kr kr kr kr kr kr kr kr (loc_buildSliceW (e := 35) (sz := 5) (els := [(enc_Expr y6), (enc_Expr y22)]) (els2 := [(enc_Expr y6), (enc_Expr y22)]) (fl := [.int .i64 y6.Op, .int .i64 y6.N, .str y6.S, .str y6.Key, .vs 5 (encs_Expr y6.Args), .int .i64 y22.Op, .int .i64 y22.N, .str y22.S, .str y22.Key, .vs 5 (encs_Expr y22.Args)]) (fl2 := [.int .i64 y6.Op, .int .i64 y6.N, .str y6.S, .str y6.Key, .vs 5 (encs_Expr y6.Args), .int .i64 y22.Op, .int .i64 y22.N, .str y22.S, .str y22.Key, .vs 5 (encs_Expr y22.Args)]) kr kr kr kr kr (wk_same (wk_same (wk_same (wk_same (wk_same (wk_same (wk_same (wk_same (wk_same (wk_same wk_nil)))))))))) kr kr (Eq.trans kr (encs_Expr_eq _).symm)) ?_
     obtain ⟨y23, c23, hs⟩ := bS hs
     refine d_loc (F := [(65, .row 35 5 0 (encs_Expr [y6, y22]))]) (R := []) (F' := [(65, .row 35 5 (((encs_Expr [y6, y22])).length) (encs_Expr [y6, y22]))]) (v := .agg (enc_Expr y23)) 24 [65] [] rfl rfl rfl rfl kr kr kr kr kr kr kr kr (loc_frz (Fa := []) (R := [(65, .row 35 5 0 (encs_Expr [y6, y22]))]) (F2 := [(65, .row 35 5 (((encs_Expr [y6, y22])).length) (encs_Expr [y6, y22]))]) (F1 := [(65, .row 35 5 (((encs_Expr [y6, y22])).length) (encs_Expr [y6, y22]))]) kr (loc_g (R := [(65, .row 35 5 (((encs_Expr [y6, y22])).length) (encs_Expr [y6, y22]))]) [.int .i64 8, .sl 5 65 2 0 2] [] (callV_func hbv16 kr) (w_gl17_op 8 [y6, y22] _ c23) (.cons (.same _) (.cons (.row (t := 35) (fz := (((encs_Expr [y6, y22])).length)) kr (by first | (simp only [encs_Expr_eq, List.length_map, List.length_set, cpyT_length]; done) | rfl)) (.nil))) kr kr kr kr kr kr kr kr)) ?_
     obtain ⟨y24, c24, hs⟩ := bS hs
     refine d_loc (F := []) (R := [(12, .row 51 6 0 (mM enc_Def [(Def.mk ls10 y3)])), (14, .row 54 3 0 (mM enc_Zone [(Zone.mk ls9 false [])])), (18, .row 40 2 0 (mM enc_Entry [(Entry.mk ls4 14), (Entry.mk ls0 200)]))]) (F' := []) (v := .int .i64 y24) 25 [] [12, 14, 18] rfl rfl rfl rfl kr kr kr kr kr kr kr kr (loc_gcallB (vs := [.agg [.sl 6 12 (([(Def.mk ls10 y3)]).length) 0 (([(Def.mk ls10 y3)]).length), .nils, .sl 3 14 (([(Zone.mk ls9 false [])]).length) 0 (([(Zone.mk ls9 false [])]).length), .nils, .nils, .nils, .nils, .int .i64 0], .sl 2 18 (([(Entry.mk ls4 14), (Entry.mk ls0 200)]).length) 0 (([(Entry.mk ls4 14), (Entry.mk ls0 200)]).length), .nils, .agg (enc_Expr y23)]) (R := [(12, .row 51 6 0 (mM enc_Def [(Def.mk ls10 y3)])), (14, .row 54 3 0 (mM enc_Zone [(Zone.mk ls9 false [])])), (18, .row 40 2 0 (mM enc_Entry [(Entry.mk ls4 14), (Entry.mk ls0 200)]))]) (callV_func hbv11 kr) (w_expr_Eval [(Def.mk ls10 y3)] [] [(Zone.mk ls9 false [])] [] [] [] [] 0 [(Entry.mk ls4 14), (Entry.mk ls0 200)] [] y23 _ c24) (.cons (.agg (.cons (.row (t := 51) (fz := 0) kr lh) (.cons (.nils _) (.cons (.row (t := 54) (fz := 0) kr lh) (.cons (.nils _) (.cons (.nils _) (.cons (.nils _) (.cons (.nils _) (.cons (.same _) (.nil)))))))))) (.cons (.row (t := 40) (fz := 0) kr lh) (.cons (.nils _) (.cons (.same _) (.nil))))) kr kr kr) ?_
     refine d_runs 3 26 [(5, .bool (decide (y24 = 1))), (69, .bool (decide (y24 = 1))), (68, .bool (decide (y24 = 1)))] (pfp 3 28) kr kr ?_
     refine d_nil kr ?_
     obtain rfl := si hs
     refine nrm_join (decide (y24 = 1)) rfl ?_
     exact cut_of [1, 4, 5] [1, 14, 12] kr kr kr
  ·subst hz; clear hs; have hs := hk2; clear hk2
   refine nT (vS ?_)
   obtain ⟨z3, hs, hk3⟩ := bS hs
   refine v_join (S := Bool) (fun u => u = z3) (fun u => [(0, .bool u)]) (fun u => []) ?_ (fun v3 hz => ?_)
   ·refine v_draw mixedH kr ?_
    refine d_runs 2 0 [(71, .bool v1), (70, .bool v1)] (pfp 2 1) kr kr ?_
    cases h4 : (v1)
    ·replace hs := bif_f h4 hs
     refine d_runs 21 2 [(0, .bool false), (91, .bool false), (90, .no), (89, .no), (88, .no), (87, .bool false), (86, .bool false), (85, .no), (84, .no), (83, .no), (82, .no), (81, .bool false), (80, .bool false), (79, .no), (78, .no), (77, .no), (76, .no), (75, .no), (74, .bool false), (73, .bool false), (72, .no)] (pfp 21 22) kr kr ?_
     refine d_nil kr ?_
     cases hs
     refine nrm_join false rfl ?_
     exact cut_of [0] [] kr kr kr
    ·replace hs := bif_t h4 hs
     refine d_runs 3 2 [(74, .bool v2), (73, .bool v2), (72, .bool v2)] (pfp 3 4) kr kr ?_
     cases h5 : (v2)
     ·replace hs := bif_f h5 hs
      refine d_runs 18 5 [(0, .bool false), (91, .bool false), (90, .no), (89, .no), (88, .no), (87, .bool false), (86, .bool false), (85, .no), (84, .no), (83, .no), (82, .no), (81, .bool false), (80, .bool false), (79, .no), (78, .no), (77, .no), (76, .no), (75, .no)] (pfp 18 22) kr kr ?_
      refine d_nil kr ?_
      cases hs
      refine nrm_join false rfl ?_
      exact cut_of [0] [] kr kr kr
     ·replace hs := bif_t h5 hs
      refine d_runh 2 5 [(76, .sl 1 76 1 0 1), (75, .agg [.sl 6 12 (([(Def.mk ls10 y3)]).length) 0 (([(Def.mk ls10 y3)]).length), .nils, .sl 3 14 (([(Zone.mk ls9 false [])]).length) 0 (([(Zone.mk ls9 false [])]).length), .nils, .nils, .nils, .nils, .int .i64 0])] [(76, .row 9 1 0 (mS [ls4])), (1, .box 30 [.sl 6 12 (([(Def.mk ls10 y3)]).length) 0 (([(Def.mk ls10 y3)]).length), .nils, .sl 3 14 (([(Zone.mk ls9 false [])]).length) 0 (([(Zone.mk ls9 false [])]).length), .nils, .nils, .nils, .nils, .int .i64 0]), (14, .row 54 3 0 (mM enc_Zone [(Zone.mk ls9 false [])])), (12, .row 51 6 0 (mM enc_Def [(Def.mk ls10 y3)]))] [⟨6, [76], []⟩, ⟨5, [], [1]⟩] kr kr ?_
      obtain ⟨y25, c25, hs⟩ := bS hs
      refine d_pure (v := .agg (enc_Expr y25)) 7 rfl rfl rfl rfl kr kr (loc_gcall0 (callV_func hbv18 kr) (w_gl17_name ls4 _ c25) kr) ?_
      obtain ⟨y26, c26, hs⟩ := bS hs
      refine d_loc (F := []) (R := [(12, .row 51 6 0 (mM enc_Def [(Def.mk ls10 y3)])), (14, .row 54 3 0 (mM enc_Zone [(Zone.mk ls9 false [])])), (76, .row 9 1 0 (mS [ls4]))]) (F' := []) (v := .int .i64 y26) 8 [] [12, 14, 76] rfl rfl rfl rfl kr kr kr kr kr kr kr kr (loc_gcallB (vs := [.agg [.sl 6 12 (([(Def.mk ls10 y3)]).length) 0 (([(Def.mk ls10 y3)]).length), .nils, .sl 3 14 (([(Zone.mk ls9 false [])]).length) 0 (([(Zone.mk ls9 false [])]).length), .nils, .nils, .nils, .nils, .int .i64 0], .sl 1 76 1 0 1, .agg (enc_Expr y25)]) (R := [(12, .row 51 6 0 (mM enc_Def [(Def.mk ls10 y3)])), (14, .row 54 3 0 (mM enc_Zone [(Zone.mk ls9 false [])])), (76, .row 9 1 0 (mS [ls4]))]) (callV_func hbv9 kr) (w_expr_Check [(Def.mk ls10 y3)] [] [(Zone.mk ls9 false [])] [] [] [] [] 0 [ls4] y25 _ c26) (.cons (.agg (.cons (.row (t := 51) (fz := 0) kr lh) (.cons (.nils _) (.cons (.row (t := 54) (fz := 0) kr lh) (.cons (.nils _) (.cons (.nils _) (.cons (.nils _) (.cons (.nils _) (.cons (.same _) (.nil)))))))))) (.cons (.row (t := 9) (fz := 0) kr lh) (.cons (.same _) (.nil)))) kr kr kr) ?_
      refine d_runs 3 9 [(81, .bool (decide (y26 = 0))), (80, .bool (decide (y26 = 0))), (79, .bool (decide (y26 = 0)))] (pfp 3 11) kr kr ?_
      cases h6 : ((decide (y26 = 0)))
      ·replace hs := bif_f h6 hs
       refine d_runs 11 12 [(0, .bool false), (91, .bool false), (90, .no), (89, .no), (88, .no), (87, .bool false), (86, .bool false), (85, .no), (84, .no), (83, .no), (82, .no)] (pfp 11 22) kr kr ?_
       refine d_nil kr ?_
       cases hs
       refine nrm_join false rfl ?_
       exact cut_of [0] [] kr kr kr
      ·replace hs := bif_t h6 hs
       refine d_runs 1 12 [(82, .agg [.sl 6 12 (([(Def.mk ls10 y3)]).length) 0 (([(Def.mk ls10 y3)]).length), .nils, .sl 3 14 (([(Zone.mk ls9 false [])]).length) 0 (([(Zone.mk ls9 false [])]).length), .nils, .nils, .nils, .nils, .int .i64 0])] [⟨12, [], [1]⟩] kr kr ?_
       obtain ⟨y27, c27, hs⟩ := bS hs
       refine d_pure (v := .agg (enc_Expr y27)) 13 rfl rfl rfl rfl kr kr (loc_gcall0 (callV_func hbv18 kr) (w_gl17_name ls4 _ c27) kr) ?_
       obtain ⟨y28, c28, hs⟩ := bS hs
       refine d_loc (F := []) (R := [(12, .row 51 6 0 (mM enc_Def [(Def.mk ls10 y3)])), (14, .row 54 3 0 (mM enc_Zone [(Zone.mk ls9 false [])]))]) (F' := []) (v := .int .i64 y28) 14 [] [12, 14] rfl rfl rfl rfl kr kr kr kr kr kr kr kr (loc_gcallB (vs := [.agg [.sl 6 12 (([(Def.mk ls10 y3)]).length) 0 (([(Def.mk ls10 y3)]).length), .nils, .sl 3 14 (([(Zone.mk ls9 false [])]).length) 0 (([(Zone.mk ls9 false [])]).length), .nils, .nils, .nils, .nils, .int .i64 0], .nils, .agg (enc_Expr y27)]) (R := [(12, .row 51 6 0 (mM enc_Def [(Def.mk ls10 y3)])), (14, .row 54 3 0 (mM enc_Zone [(Zone.mk ls9 false [])]))]) (callV_func hbv9 kr) (w_expr_Check [(Def.mk ls10 y3)] [] [(Zone.mk ls9 false [])] [] [] [] [] 0 [] y27 _ c28) (.cons (.agg (.cons (.row (t := 51) (fz := 0) kr lh) (.cons (.nils _) (.cons (.row (t := 54) (fz := 0) kr lh) (.cons (.nils _) (.cons (.nils _) (.cons (.nils _) (.cons (.nils _) (.cons (.same _) (.nil)))))))))) (.cons (.nils _) (.cons (.same _) (.nil)))) kr kr kr) ?_
       refine d_runs 3 15 [(87, .bool (decide (y28 = 15))), (86, .bool (decide (y28 = 15))), (85, .bool (decide (y28 = 15)))] (pfp 3 17) kr kr ?_
       cases h7 : ((decide (y28 = 15)))
       ·replace hs := bif_f h7 hs
        refine d_runs 5 18 [(0, .bool false), (91, .bool false), (90, .no), (89, .no), (88, .no)] (pfp 5 22) kr kr ?_
        refine d_nil kr ?_
        cases hs
        refine nrm_join false rfl ?_
        exact cut_of [0] [] kr kr kr
       ·replace hs := bif_t h7 hs
        obtain ⟨y29, c29, hs⟩ := bS hs
        refine d_loc (F := []) (R := []) (F' := []) (v := .agg (enc_Expr y29)) 18 [] [] rfl rfl rfl rfl kr kr kr kr kr kr kr kr (loc_g (R := []) [.int .i64 15, .nils] [] (callV_func hbv16 kr) (w_gl17_op 15 [] _ c29) (.cons (.same _) (.cons (.nils _) (.nil))) kr kr kr kr kr kr kr kr) ?_
        obtain ⟨y30, c30, hs⟩ := bS hs
        refine d_pure (v := .bool y30) 19 rfl rfl rfl rfl kr kr (loc_gcall0 (callV_func hbv7 kr) (w_expr_Right y29 _ c30) kr) ?_
        refine d_runs 3 20 [(0, .bool (!y30)), (91, .bool (!y30)), (90, .bool (!y30))] (pfp 3 22) kr kr ?_
        refine d_nil kr ?_
        obtain rfl := si hs
        refine nrm_join (!y30) rfl ?_
        exact cut_of [0] [] kr kr kr
   ·subst hz; clear hs; have hs := hk3; clear hk3
    refine nT (v_ret ?_)
    cases hs
    exact fin_ret kr kr kr
theorem ws_gl17_nodes (nF : Nat) (ih_gl17_nodes : ∀ (e : Expr) (most : Int) (levels : Int) (r : Int), s_gl17_nodes nF e most levels = some r → FnA Tryz.prog 19 [.agg (enc_Expr e), .int .i64 most, .int .i64 levels] [] (.int .i64 r) []) (e : Expr) (most : Int) (levels : Int) (r : Int) (hs : s_gl17_nodes (nF + 1) e most levels = some r) : FnA Tryz.prog 19 [.agg (enc_Expr e), .int .i64 most, .int .i64 levels] [] (.int .i64 r) [] := by
 refine fnA_of_wp (N := 39) Tryz.func19 rfl rfl rfl fun cK0 => ?_
 rw [s_gl17_nodes] at hs
 refine v_same (ρ' := [(0, .agg (enc_Expr e)), (1, .int .i64 most), (2, .int .i64 levels)]) rfl rfl ?_
 refine vS (vT (o_runh 2 [(6, .int .i64 0), (3, .ptr 3 0 0)] [(3, .box 35 (enc_Expr e))] kr ?_))
 refine oN (nT (vS (vT (oR 1 [(7, .int .i64 1)] kr ?_))))
 refine oN (nT (vS (vS (vT (oR 2 [(10, .bool (decide (levels < 1))), (9, .int .i64 levels)] kr ?_)))))
 refine oN (nT ?_)
 refine v_cond (decide (levels < 1)) kr (fun h1 => ?_) (fun h1 => ?_)
 ·replace hs := bif_t h1 hs
  refine vS (vT (oR 3 [(6, .int .i64 (w64 (most + 1))), (12, .int .i64 (w64 (most + 1))), (11, .int .i64 most)] kr ?_))
  refine oN (nT (v_ret (rT ?_)))
  cases hs
  exact fin_ret kr kr kr
 ·replace hs := bif_f h1 hs
  refine vK (nT (vS (vS (vT (oR 1 [(8, .int .i64 0)] kr ?_)))))
  refine oN (nT ?_)
  obtain ⟨z1, hs, hk1⟩ := bS hs
  refine v_join (S := Int) (fun u => u = z1) (fun u => [(7, .int .i64 u)]) (fun u => []) ?_ (fun v1 hz => ?_)
  ·refine vB ?_
   refine v_fuel (S := Int × Int) (fun u => [(1, .int .i64 most), (2, .int .i64 levels), (3, .ptr 3 0 0), (7, .int .i64 u.1), (8, .int .i64 u.2)]) (fun u => [(3, .box 35 (enc_Expr e))]) (s_gl17_nodes_L1 (s_gl17_nodes nF) e most levels) (fun _ => rfl) KK (1, 0) hs (cut_of [1, 2, 3, 7, 8] [3] kr kr kr) (fun K1 q1 hs => ?_)
   rw [s_gl17_nodes_L1] at hs
   show WpV cK0 Tryz.prog none 39 _ _ [(1, .int .i64 most), (2, .int .i64 levels), (3, .ptr 3 0 0), (7, .int .i64 q1.1), (8, .int .i64 q1.2)] [(3, .box 35 (enc_Expr e))] []
   refine vS (vS ?_)
   obtain ⟨z2, hs, hk2⟩ := bS hs
   refine v_join (S := Bool) (fun u => u = z2) (fun u => [(1, .int .i64 most), (2, .int .i64 levels), (3, .ptr 3 0 0), (7, .int .i64 q1.1), (8, .int .i64 q1.2), (22, .bool u)]) (fun u => [(3, .box 35 (enc_Expr e))]) ?_ (fun v2 hz => ?_)
   ·refine vT (oR 3 [(15, .vs 5 (encs_Expr e.Args)), (14, .ptr 3 0 4), (13, .int .i64 q1.2)] kr ?_)
    refine oP (v := .int .i64 (List.length e.Args : Int)) kr kr (loc_lenVs (sz := 5) (els := (encs_Expr e.Args)) kr kr (by rw [encs_Expr_eq, List.length_map])) ?_
    refine oR 2 [(18, .bool (decide (q1.2 < (List.length e.Args : Int)))), (17, .bool (decide (q1.2 < (List.length e.Args : Int))))] kr ?_
    cases h2 : ((decide (q1.2 < (List.length e.Args : Int))))
    ·replace hs := bif_f h2 hs
     refine oR 4 [(22, .bool false), (21, .no), (20, .no), (19, .no)] kr ?_
     refine oN ?_
     cases hs
     refine nrm_join false rfl ?_
     exact cut_of [1, 2, 3, 7, 8, 22] [3] kr kr kr
    ·replace hs := bif_t h2 hs
     refine oR 4 [(22, .bool (decide (q1.1 ≤ most))), (21, .bool (decide (q1.1 ≤ most))), (20, .int .i64 most), (19, .int .i64 q1.1)] kr ?_
     refine oN ?_
     obtain rfl := si hs
     refine nrm_join (decide (q1.1 ≤ most)) rfl ?_
     exact cut_of [1, 2, 3, 7, 8, 22] [3] kr kr kr
   ·subst hz; clear hs; have hs := hk2; clear hk2
    refine nT ?_
    refine v_cond v2 kr (fun h3 => ?_) (fun h3 => ?_)
    ·replace hs := bif_t h3 hs
     refine vK (nT (vS (vB (vT (oR 4 [(28, .int .i64 q1.2), (27, .vs 5 (encs_Expr e.Args)), (26, .ptr 3 0 4), (25, .int .i64 q1.1)] kr ?_)))))
     obtain ⟨x1, g1, hs⟩ := bS hs; obtain ⟨g1a, g1b, g1c⟩ := idx_some g1
     refine oP (v := .vp (enc_Expr x1) 0) kr kr (loc_indexVs (e := 35) (sz := 5) (k := .i64) (els := (encs_Expr e.Args)) (cs := (enc_Expr x1)) kr kr kr g1a (by rw [g1c, encs_Expr_eq]; exact map_get _ (by omega))) ?_
     refine oR 6 [(35, .int .i64 (w64 (levels - 1))), (34, .int .i64 levels), (33, .int .i64 (w64 (most - q1.1))), (32, .int .i64 q1.1), (31, .int .i64 most), (30, .agg (enc_Expr x1))] kr ?_
     obtain ⟨y1, c1, hs⟩ := bS hs
     refine oP (v := .int .i64 y1) kr kr (loc_gcall0 (callV_func hbv19 kr) (ih_gl17_nodes x1 (w64 (most - q1.1)) (w64 (levels - 1)) _ c1) kr) ?_
     refine oR 2 [(7, .int .i64 (w64 (q1.1 + y1))), (37, .int .i64 (w64 (q1.1 + y1)))] kr ?_
     refine oN (nB (nT (vT (oR 3 [(8, .int .i64 (w64 (q1.2 + 1))), (24, .int .i64 (w64 (q1.2 + 1))), (23, .int .i64 q1.2)] kr ?_))))
     refine oN (nrm_fuel ((w64 (q1.1 + y1)), (w64 (q1.2 + 1))) hs ?_)
     exact cut_of [1, 2, 3, 7, 8] [3] kr kr kr
    ·replace hs := bif_f h3 hs
     refine v_exit (exit_thenV (exit_fuel ?_))
     refine exit_blkV ?_
     obtain rfl := si hs
     refine nrm_join q1.1 rfl ?_
     exact cut_of [7] [] kr kr kr
  ·subst hz; clear hs; have hs := hk1; clear hk1
   refine nT (vS (vT (oR 2 [(6, .int .i64 v1), (38, .int .i64 v1)] kr ?_)))
   refine oN (nT (v_ret ?_))
   cases hs
   exact fin_ret kr kr kr
theorem wr_gl17_nodes : ∀ nF : Nat, (∀ (e : Expr) (most : Int) (levels : Int) (r : Int), s_gl17_nodes nF e most levels = some r → FnA Tryz.prog 19 [.agg (enc_Expr e), .int .i64 most, .int .i64 levels] [] (.int .i64 r) [])
 | 0 => fun e most levels r hs => (by rw [s_gl17_nodes] at hs; cases hs)
 | nF + 1 => fun e most levels r hs => ws_gl17_nodes nF (wr_gl17_nodes nF) e most levels r hs
theorem w_gl17_nodes (nF : Nat) (e : Expr) (most : Int) (levels : Int) (r : Int) (hs : s_gl17_nodes nF e most levels = some r) : FnA Tryz.prog 19 [.agg (enc_Expr e), .int .i64 most, .int .i64 levels] [] (.int .i64 r) [] := (wr_gl17_nodes nF) e most levels r hs
theorem w_gl17_light (e : Expr) (r : Bool) (hs : s_gl17_light e = some r) : FnA Tryz.prog 6 [.agg (enc_Expr e)] [] (.bool r) [] := by
 refine fnA_of_wp (N := 6) Tryz.func6 rfl rfl rfl fun cK0 => ?_
 unfold s_gl17_light at hs
 refine v_same (ρ' := [(0, .agg (enc_Expr e))]) rfl rfl ?_
 refine vS (vT (o_runh 2 [(2, .bool false), (1, .ptr 1 0 0)] [(1, .box 35 (enc_Expr e))] kr ?_))
 refine oN (nT (vS (vT (oR 1 [(3, .agg (enc_Expr e))] kr ?_))))
 obtain ⟨y1, c1, hs⟩ := bS hs
 refine oP (v := .int .i64 y1) kr kr (loc_gcall0 (callV_func hbv19 kr) (w_gl17_nodes KK e 100 20 _ c1) kr) ?_
 refine oR 2 [(2, .bool (decide (y1 ≤ 100))), (5, .bool (decide (y1 ≤ 100)))] kr ?_
 refine oN (nT (v_ret ?_))
 cases hs
 exact fin_ret kr kr kr
theorem w_gl17_few (p : Plan) (r : Bool) (hs : s_gl17_few p = some r) : FnA Tryz.prog 5 [.agg (enc_Plan p)] [] (.bool r) [] := by
 refine fnA_of_wp (N := 59) Tryz.func5 rfl rfl rfl fun cK0 => ?_
 unfold s_gl17_few at hs
 refine v_same (ρ' := [(0, .agg (enc_Plan p))]) rfl rfl ?_
 refine vS (vT (o_runh 2 [(2, .bool false), (1, .ptr 1 0 0)] [(1, .box 30 (enc_Plan p))] kr ?_))
 refine oN (nT (vS (vS (vT (oR 1 [(3, .int .i64 0)] kr ?_)))))
 refine oN (nT ?_)
 obtain ⟨z1, hs, hk1⟩ := bS hs
 refine v_join (S := Unit) (fun u => z1 = .inr u) (fun u => [(1, .ptr 1 0 0)]) (fun u => [(1, .box 30 (enc_Plan p))]) ?_ (fun v1 hz => ?_)
 ·refine vB ?_
  refine v_fuel (S := Int) (fun u => [(1, .ptr 1 0 0), (3, .int .i64 u)]) (fun u => [(1, .box 30 (enc_Plan p))]) (s_gl17_few_L1 p) (fun _ => rfl) KK 0 hs (cut_of [1, 3] [1] kr kr kr) (fun K1 q1 hs => ?_)
  rw [s_gl17_few_L1] at hs
  show WpV cK0 Tryz.prog none 59 _ _ [(1, .ptr 1 0 0), (3, .int .i64 q1)] [(1, .box 30 (enc_Plan p))] []
  refine vS (vS ?_)
  obtain ⟨z2, hs, hk2⟩ := bS hs
  refine v_join (S := Bool) (fun u => u = z2) (fun u => [(1, .ptr 1 0 0), (3, .int .i64 q1), (13, .bool u)]) (fun u => [(1, .box 30 (enc_Plan p))]) ?_ (fun v2 hz => ?_)
  ·refine vT (oR 3 [(7, .vs 6 (mM enc_Def p.Defs)), (6, .ptr 1 0 0), (5, .int .i64 q1)] kr ?_)
   refine oP (v := .int .i64 (List.length p.Defs : Int)) kr kr (loc_lenVs (sz := 6) (els := (mM enc_Def p.Defs)) kr kr lM) ?_
   refine oR 2 [(10, .bool (decide (q1 < (List.length p.Defs : Int)))), (9, .bool (decide (q1 < (List.length p.Defs : Int))))] kr ?_
   cases h1 : ((decide (q1 < (List.length p.Defs : Int))))
   ·replace hs := bif_f h1 hs
    refine oR 3 [(13, .bool false), (12, .no), (11, .no)] kr ?_
    refine oN ?_
    cases hs
    refine nrm_join false rfl ?_
    exact cut_of [1, 3, 13] [1] kr kr kr
   ·replace hs := bif_t h1 hs
    refine oR 3 [(13, .bool (decide (q1 < 13))), (12, .bool (decide (q1 < 13))), (11, .int .i64 q1)] kr ?_
    refine oN ?_
    obtain rfl := si hs
    refine nrm_join (decide (q1 < 13)) rfl ?_
    exact cut_of [1, 3, 13] [1] kr kr kr
  ·subst hz; clear hs; have hs := hk2; clear hk2
   refine nT ?_
   refine v_cond v2 kr (fun h2 => ?_) (fun h2 => ?_)
   ·replace hs := bif_t h2 hs
    refine vK (nT (vS (vB (vS (vT (oR 3 [(18, .int .i64 q1), (17, .vs 6 (mM enc_Def p.Defs)), (16, .ptr 1 0 0)] kr ?_))))))
    obtain ⟨x1, g1, hs⟩ := bS hs; obtain ⟨g1a, g1b, g1c⟩ := idx_some g1
    refine oP (v := .vp (enc_Def x1) 0) kr kr (loc_indexVs (e := 51) (sz := 6) (k := .i64) (els := (mM enc_Def p.Defs)) (cs := (enc_Def x1)) kr kr kr g1a (by rw [g1c]; exact map_get _ (by omega))) ?_
    refine oR 2 [(21, .agg (enc_Expr x1.Body)), (20, .vp (enc_Def x1) 1)] kr ?_
    obtain ⟨y1, c1, hs⟩ := bS hs
    refine oP (v := .bool y1) kr kr (loc_gcall0 (callV_func hbv6 kr) (w_gl17_light x1.Body _ c1) kr) ?_
    refine oR 1 [(23, .bool (!y1))] kr ?_
    refine oN (nT ?_)
    refine v_cond (!y1) kr (fun h3 => ?_) (fun h3 => ?_)
    ·replace hs := bif_t h3 hs
     refine vS (vT (oR 1 [(2, .bool false)] kr ?_))
     refine oN (nT (v_ret (rB (rT (ret_fuel ?_)))))
     refine rB (ret_join ?_)
     refine rT ?_
     obtain rfl := si hs
     replace hs := hk1
     cases hs
     exact fin_ret kr kr kr
    ·replace hs := bif_f h3 hs
     refine vK (nB (nT (vT (oR 3 [(3, .int .i64 (w64 (q1 + 1))), (15, .int .i64 (w64 (q1 + 1))), (14, .int .i64 q1)] kr ?_))))
     refine oN (nrm_fuel (w64 (q1 + 1)) hs ?_)
     exact cut_of [1, 3] [1] kr kr kr
   ·replace hs := bif_f h2 hs
    refine v_exit (exit_thenV (exit_fuel ?_))
    refine exit_blkV ?_
    cases hs
    refine nrm_join () rfl ?_
    exact cut_of [1] [1] kr kr kr
 ·subst hz; clear hs; have hs := hk1; clear hk1
  refine nT (vS (vS (vT (oR 1 [(4, .int .i64 0)] kr ?_))))
  refine oN (nT ?_)
  obtain ⟨z3, hs, hk3⟩ := bS hs
  refine v_join (S := Unit) (fun u => z3 = .inr u) (fun u => [(1, .ptr 1 0 0)]) (fun u => [(1, .box 30 (enc_Plan p))]) ?_ (fun v3 hz => ?_)
  ·refine vB ?_
   refine v_fuel (S := Int) (fun u => [(1, .ptr 1 0 0), (4, .int .i64 u)]) (fun u => [(1, .box 30 (enc_Plan p))]) (s_gl17_few_L2 p) (fun _ => rfl) KK 0 hs (cut_of [1, 4] [1] kr kr kr) (fun K2 q2 hs => ?_)
   rw [s_gl17_few_L2] at hs
   show WpV cK0 Tryz.prog none 59 _ _ [(1, .ptr 1 0 0), (4, .int .i64 q2)] [(1, .box 30 (enc_Plan p))] []
   refine vS (vS ?_)
   obtain ⟨z4, hs, hk4⟩ := bS hs
   refine v_join (S := Bool) (fun u => u = z4) (fun u => [(1, .ptr 1 0 0), (4, .int .i64 q2), (32, .bool u)]) (fun u => [(1, .box 30 (enc_Plan p))]) ?_ (fun v4 hz => ?_)
   ·refine vT (oR 3 [(26, .vs 3 (mM enc_Table p.Tables)), (25, .ptr 1 0 1), (24, .int .i64 q2)] kr ?_)
    refine oP (v := .int .i64 (List.length p.Tables : Int)) kr kr (loc_lenVs (sz := 3) (els := (mM enc_Table p.Tables)) kr kr lM) ?_
    refine oR 2 [(29, .bool (decide (q2 < (List.length p.Tables : Int)))), (28, .bool (decide (q2 < (List.length p.Tables : Int))))] kr ?_
    cases h4 : ((decide (q2 < (List.length p.Tables : Int))))
    ·replace hs := bif_f h4 hs
     refine oR 3 [(32, .bool false), (31, .no), (30, .no)] kr ?_
     refine oN ?_
     cases hs
     refine nrm_join false rfl ?_
     exact cut_of [1, 4, 32] [1] kr kr kr
    ·replace hs := bif_t h4 hs
     refine oR 3 [(32, .bool (decide (q2 < 6))), (31, .bool (decide (q2 < 6))), (30, .int .i64 q2)] kr ?_
     refine oN ?_
     obtain rfl := si hs
     refine nrm_join (decide (q2 < 6)) rfl ?_
     exact cut_of [1, 4, 32] [1] kr kr kr
   ·subst hz; clear hs; have hs := hk4; clear hk4
    refine nT ?_
    refine v_cond v4 kr (fun h5 => ?_) (fun h5 => ?_)
    ·replace hs := bif_t h5 hs
     refine vK (nT (vS (vB (vS (vT (oR 3 [(37, .int .i64 q2), (36, .vs 3 (mM enc_Table p.Tables)), (35, .ptr 1 0 1)] kr ?_))))))
     obtain ⟨x2, g2, hs⟩ := bS hs; obtain ⟨g2a, g2b, g2c⟩ := idx_some g2
     refine oP (v := .vp (enc_Table x2) 0) kr kr (loc_indexVs (e := 57) (sz := 3) (k := .i64) (els := (mM enc_Table p.Tables)) (cs := (enc_Table x2)) kr kr kr g2a (by rw [g2c]; exact map_get _ (by omega))) ?_
     refine oR 2 [(40, .vs 2 (mM enc_Entry x2.Rows)), (39, .vp (enc_Table x2) 1)] kr ?_
     refine oP (v := .int .i64 (List.length x2.Rows : Int)) kr kr (loc_lenVs (sz := 2) (els := (mM enc_Entry x2.Rows)) kr kr lM) ?_
     refine oR 1 [(42, .bool (decide ((List.length x2.Rows : Int) > 10)))] kr ?_
     refine oN (nT ?_)
     refine v_cond (decide ((List.length x2.Rows : Int) > 10)) kr (fun h6 => ?_) (fun h6 => ?_)
     ·replace hs := bif_t h6 hs
      refine vS (vT (oR 1 [(2, .bool false)] kr ?_))
      refine oN (nT (v_ret (rB (rT (ret_fuel ?_)))))
      refine rB (ret_join ?_)
      refine rT ?_
      obtain rfl := si hs
      replace hs := hk3
      cases hs
      exact fin_ret kr kr kr
     ·replace hs := bif_f h6 hs
      refine vK (nB (nT (vT (oR 3 [(4, .int .i64 (w64 (q2 + 1))), (34, .int .i64 (w64 (q2 + 1))), (33, .int .i64 q2)] kr ?_))))
      refine oN (nrm_fuel (w64 (q2 + 1)) hs ?_)
      exact cut_of [1, 4] [1] kr kr kr
    ·replace hs := bif_f h5 hs
     refine v_exit (exit_thenV (exit_fuel ?_))
     refine exit_blkV ?_
     cases hs
     refine nrm_join () rfl ?_
     exact cut_of [1] [1] kr kr kr
  ·subst hz; clear hs; have hs := hk3; clear hk3
   refine nT (vS ?_)
   obtain ⟨z5, hs, hk5⟩ := bS hs
   refine v_join (S := Bool) (fun u => u = z5) (fun u => [(2, .bool u)]) (fun u => []) ?_ (fun v5 hz => ?_)
   ·refine vT (oR 2 [(44, .vs 6 (mM enc_Def p.Defs)), (43, .ptr 1 0 0)] kr ?_)
    refine oP (v := .int .i64 (List.length p.Defs : Int)) kr kr (loc_lenVs (sz := 6) (els := (mM enc_Def p.Defs)) kr kr lM) ?_
    refine oR 2 [(47, .bool (decide ((List.length p.Defs : Int) ≤ 12))), (46, .bool (decide ((List.length p.Defs : Int) ≤ 12)))] kr ?_
    cases h7 : ((decide ((List.length p.Defs : Int) ≤ 12)))
    ·replace hs := bif_f h7 hs
     refine oR 12 [(2, .bool false), (58, .bool false), (57, .no), (56, .no), (55, .no), (54, .no), (53, .bool false), (52, .bool false), (51, .no), (50, .no), (49, .no), (48, .no)] kr ?_
     refine oN ?_
     cases hs
     refine nrm_join false rfl ?_
     exact cut_of [2] [] kr kr kr
    ·replace hs := bif_t h7 hs
     refine oR 2 [(49, .vs 3 (mM enc_Table p.Tables)), (48, .ptr 1 0 1)] kr ?_
     refine oP (v := .int .i64 (List.length p.Tables : Int)) kr kr (loc_lenVs (sz := 3) (els := (mM enc_Table p.Tables)) kr kr lM) ?_
     refine oR 3 [(53, .bool (decide ((List.length p.Tables : Int) ≤ 5))), (52, .bool (decide ((List.length p.Tables : Int) ≤ 5))), (51, .bool (decide ((List.length p.Tables : Int) ≤ 5)))] kr ?_
     cases h8 : ((decide ((List.length p.Tables : Int) ≤ 5)))
     ·replace hs := bif_f h8 hs
      refine oR 6 [(2, .bool false), (58, .bool false), (57, .no), (56, .no), (55, .no), (54, .no)] kr ?_
      refine oN ?_
      cases hs
      refine nrm_join false rfl ?_
      exact cut_of [2] [] kr kr kr
     ·replace hs := bif_t h8 hs
      refine oR 2 [(55, .vs 3 (mM enc_Zone p.Zones)), (54, .ptr 1 0 2)] kr ?_
      refine oP (v := .int .i64 (List.length p.Zones : Int)) kr kr (loc_lenVs (sz := 3) (els := (mM enc_Zone p.Zones)) kr kr lM) ?_
      refine oR 3 [(2, .bool (decide ((List.length p.Zones : Int) ≤ 10))), (58, .bool (decide ((List.length p.Zones : Int) ≤ 10))), (57, .bool (decide ((List.length p.Zones : Int) ≤ 10)))] kr ?_
      refine oN ?_
      obtain rfl := si hs
      refine nrm_join (decide ((List.length p.Zones : Int) ≤ 10)) rfl ?_
      exact cut_of [2] [] kr kr kr
   ·subst hz; clear hs; have hs := hk5; clear hk5
    refine nT (v_ret ?_)
    cases hs
    exact fin_ret kr kr kr
theorem w_gr17_arity (op : Int) (r : Int) (hs : s_gr17_arity op = some r) : FnA Tryz.prog 36 [.int .i64 op] [] (.int .i64 r) [] := by
 refine fnA_of_wp (N := 20) Tryz.func36 rfl rfl rfl fun cK0 => ?_
 unfold s_gr17_arity at hs
 refine v_same (ρ' := [(0, .int .i64 op)]) rfl rfl ?_
 refine vS (vT (oR 1 [(2, .int .i64 0)] kr ?_))
 refine oN (nT (vS (vS (vT (oR 1 [(3, .int .i64 op)] kr ?_)))))
 refine oN (nT (vB (vS (vS (vT (oR 2 [(4, .bool (decide (op = 0))), (5, .bool (decide (op = 0)))] kr ?_))))))
 refine oN (nT ?_)
 obtain ⟨z1, hs, hk1⟩ := bS hs
 refine v_join (S := Bool) (fun u => u = z1) (fun u => [(0, .int .i64 op), (3, .int .i64 op), (4, .bool u)]) (fun u => []) ?_ (fun v1 hz => ?_)
 ·refine v_cond (decide (op = 0)) kr (fun h1 => ?_) (fun h1 => ?_)
  ·replace hs := bif_t h1 hs
   refine vK ?_
   obtain rfl := si hs
   refine nrm_join (decide (op = 0)) rfl ?_
   exact cut_of [0, 3, 4] [] kr kr kr
  ·replace hs := bif_f h1 hs
   refine vS (vT (oR 2 [(4, .bool (decide (op = 1))), (6, .bool (decide (op = 1)))] kr ?_))
   refine oN (nT ?_)
   refine v_cond (decide (op = 1)) kr (fun h2 => ?_) (fun h2 => ?_)
   ·replace hs := bif_t h2 hs
    refine vK ?_
    obtain rfl := si hs
    refine nrm_join (decide (op = 1)) rfl ?_
    exact cut_of [0, 3, 4] [] kr kr kr
   ·replace hs := bif_f h2 hs
    refine vS (vT (oR 2 [(4, .bool (decide (op = 2))), (7, .bool (decide (op = 2)))] kr ?_))
    refine oN (nT ?_)
    refine v_cond (decide (op = 2)) kr (fun h3 => ?_) (fun h3 => ?_)
    ·replace hs := bif_t h3 hs
     refine vK ?_
     obtain rfl := si hs
     refine nrm_join (decide (op = 2)) rfl ?_
     exact cut_of [0, 3, 4] [] kr kr kr
    ·replace hs := bif_f h3 hs
     refine vT (oR 2 [(4, .bool (decide (op = 3))), (8, .bool (decide (op = 3)))] kr ?_)
     refine oN ?_
     obtain rfl := si hs
     refine nrm_join (decide (op = 3)) rfl ?_
     exact cut_of [0, 3, 4] [] kr kr kr
 ·subst hz; clear hs; have hs := hk1; clear hk1
  refine nT ?_
  refine v_cond v1 kr (fun h4 => ?_) (fun h4 => ?_)
  ·replace hs := bif_t h4 hs
   refine vS (vT (oR 1 [(2, .int .i64 0)] kr ?_))
   refine oN (nT (v_ret (rB (rT ?_))))
   cases hs
   exact fin_ret kr kr kr
  ·replace hs := bif_f h4 hs
   refine vS (vS (vT (oR 2 [(9, .bool (decide (op = 9))), (10, .bool (decide (op = 9)))] kr ?_)))
   refine oN (nT ?_)
   obtain ⟨z2, hs, hk2⟩ := bS hs
   refine v_join (S := Bool) (fun u => u = z2) (fun u => [(0, .int .i64 op), (3, .int .i64 op), (9, .bool u)]) (fun u => []) ?_ (fun v2 hz => ?_)
   ·refine v_cond (decide (op = 9)) kr (fun h5 => ?_) (fun h5 => ?_)
    ·replace hs := bif_t h5 hs
     refine vK ?_
     obtain rfl := si hs
     refine nrm_join (decide (op = 9)) rfl ?_
     exact cut_of [0, 3, 9] [] kr kr kr
    ·replace hs := bif_f h5 hs
     refine vT (oR 2 [(9, .bool (decide (op = 15))), (11, .bool (decide (op = 15)))] kr ?_)
     refine oN ?_
     obtain rfl := si hs
     refine nrm_join (decide (op = 15)) rfl ?_
     exact cut_of [0, 3, 9] [] kr kr kr
   ·subst hz; clear hs; have hs := hk2; clear hk2
    refine nT ?_
    refine v_cond v2 kr (fun h6 => ?_) (fun h6 => ?_)
    ·replace hs := bif_t h6 hs
     refine vS (vT (oR 1 [(2, .int .i64 1)] kr ?_))
     refine oN (nT (v_ret (rB (rT ?_))))
     cases hs
     exact fin_ret kr kr kr
    ·replace hs := bif_f h6 hs
     refine vS (vT (oR 2 [(12, .bool (decide (op = 16))), (13, .bool (decide (op = 16)))] kr ?_))
     refine oN (nT ?_)
     refine v_cond (decide (op = 16)) kr (fun h7 => ?_) (fun h7 => ?_)
     ·replace hs := bif_t h7 hs
      refine vS (vT (oR 1 [(2, .int .i64 3)] kr ?_))
      refine oN (nT (v_ret (rB (rT ?_))))
      cases hs
      exact fin_ret kr kr kr
     ·replace hs := bif_f h7 hs
      refine vK (nB (nT (vS (vS ?_))))
      obtain ⟨z3, hs, hk3⟩ := bS hs
      refine v_join (S := Bool) (fun u => u = z3) (fun u => [(19, .bool u)]) (fun u => []) ?_ (fun v3 hz => ?_)
      ·refine vT (oR 3 [(16, .bool (decide (op < 0))), (15, .bool (decide (op < 0))), (14, .int .i64 op)] kr ?_)
       cases h8 : ((decide (op < 0)))
       ·replace hs := bif_f h8 hs
        refine oR 3 [(19, .bool (decide (op ≥ 17))), (18, .bool (decide (op ≥ 17))), (17, .int .i64 op)] kr ?_
        refine oN ?_
        obtain rfl := si hs
        refine nrm_join (decide (op ≥ 17)) rfl ?_
        exact cut_of [19] [] kr kr kr
       ·replace hs := bif_t h8 hs
        refine oR 3 [(19, .bool true), (18, .no), (17, .no)] kr ?_
        refine oN ?_
        cases hs
        refine nrm_join true rfl ?_
        exact cut_of [19] [] kr kr kr
      ·subst hz; clear hs; have hs := hk3; clear hk3
       refine nT ?_
       refine v_cond v3 kr (fun h9 => ?_) (fun h9 => ?_)
       ·replace hs := bif_t h9 hs
        refine vS (vT (oR 1 [(2, .int .i64 (-1))] kr ?_))
        refine oN (nT (v_ret (rT ?_)))
        cases hs
        exact fin_ret kr kr kr
       ·replace hs := bif_f h9 hs
        refine vK (nT (vS (vT (oR 1 [(2, .int .i64 2)] kr ?_))))
        refine oN (nT (v_ret ?_))
        cases hs
        exact fin_ret kr kr kr
theorem ws_gr17_fits (nF : Nat) (ih_gr17_fits : ∀ (e : Expr) (levels : Int) (r : Bool), s_gr17_fits nF e levels = some r → FnA Tryz.prog 21 [.agg (enc_Expr e), .int .i64 levels] [] (.bool r) []) (e : Expr) (levels : Int) (r : Bool) (hs : s_gr17_fits (nF + 1) e levels = some r) : FnA Tryz.prog 21 [.agg (enc_Expr e), .int .i64 levels] [] (.bool r) [] := by
 refine fnA_of_wp (N := 35) Tryz.func21 rfl rfl rfl fun cK0 => ?_
 rw [s_gr17_fits] at hs
 refine v_same (ρ' := [(0, .agg (enc_Expr e)), (1, .int .i64 levels)]) rfl rfl ?_
 refine vS (vT (o_runh 2 [(4, .bool false), (2, .ptr 2 0 0)] [(2, .box 35 (enc_Expr e))] kr ?_))
 refine oN (nT (vS (vS ?_)))
 obtain ⟨z1, hs, hk1⟩ := bS hs
 refine v_join (S := Bool) (fun u => u = z1) (fun u => [(1, .int .i64 levels), (2, .ptr 2 0 0), (17, .bool u)]) (fun u => [(2, .box 35 (enc_Expr e))]) ?_ (fun v1 hz => ?_)
 ·refine v_draw mixedH kr ?_
  refine d_runs 3 0 [(9, .bool (decide (levels < 1))), (8, .bool (decide (levels < 1))), (7, .int .i64 levels)] (pfp 3 2) kr kr ?_
  cases h1 : ((decide (levels < 1)))
  ·replace hs := bif_f h1 hs
   refine d_runs 2 3 [(11, .int .i64 e.Op), (10, .ptr 2 0 0)] [⟨4, [], [2]⟩, ⟨3, [], []⟩] kr kr ?_
   obtain ⟨y1, c1, hs⟩ := bS hs
   refine d_pure (v := .int .i64 y1) 5 rfl rfl rfl rfl kr kr (loc_gcall0 (callV_func hbv36 kr) (w_gr17_arity e.Op _ c1) kr) ?_
   refine d_runs 2 6 [(14, .vs 5 (encs_Expr e.Args)), (13, .ptr 2 0 4)] [⟨7, [], [2]⟩, ⟨6, [], []⟩] kr kr ?_
   refine d_pure (v := .int .i64 (List.length e.Args : Int)) 8 rfl rfl rfl rfl kr kr (loc_lenVs (sz := 5) (els := (encs_Expr e.Args)) kr kr (by rw [encs_Expr_eq, List.length_map])) ?_
   refine d_runs 2 9 [(17, .bool (!(decide (y1 = (List.length e.Args : Int))))), (16, .bool (!(decide (y1 = (List.length e.Args : Int)))))] (pfp 2 10) kr kr ?_
   refine d_nil kr ?_
   obtain rfl := si hs
   refine nrm_join (!(decide (y1 = (List.length e.Args : Int)))) rfl ?_
   exact cut_of [1, 2, 17] [2] kr kr kr
  ·replace hs := bif_t h1 hs
   refine d_runs 8 3 [(17, .bool true), (16, .no), (15, .no), (14, .no), (13, .no), (12, .no), (11, .no), (10, .no)] (pfp 8 10) kr kr ?_
   refine d_nil kr ?_
   cases hs
   refine nrm_join true rfl ?_
   exact cut_of [1, 2, 17] [2] kr kr kr
 ·subst hz; clear hs; have hs := hk1; clear hk1
  refine nT ?_
  refine v_cond v1 kr (fun h2 => ?_) (fun h2 => ?_)
  ·replace hs := bif_t h2 hs
   refine vS (vT (oR 1 [(4, .bool false)] kr ?_))
   refine oN (nT (v_ret (rT ?_)))
   cases hs
   exact fin_ret kr kr kr
  ·replace hs := bif_f h2 hs
   refine vK (nT (vS (vS (vT (oR 1 [(5, .int .i64 0)] kr ?_)))))
   refine oN (nT ?_)
   obtain ⟨z2, hs, hk2⟩ := bS hs
   refine v_join (S := Unit) (fun u => z2 = .inr u) (fun u => []) (fun u => []) ?_ (fun v2 hz => ?_)
   ·refine vB ?_
    refine v_fuel (S := Int) (fun u => [(1, .int .i64 levels), (2, .ptr 2 0 0), (5, .int .i64 u)]) (fun u => [(2, .box 35 (enc_Expr e))]) (s_gr17_fits_L1 (s_gr17_fits nF) e levels) (fun _ => rfl) KK 0 hs (cut_of [1, 2, 5] [2] kr kr kr) (fun K1 q1 hs => ?_)
    rw [s_gr17_fits_L1] at hs
    show WpV cK0 Tryz.prog none 35 _ _ [(1, .int .i64 levels), (2, .ptr 2 0 0), (5, .int .i64 q1)] [(2, .box 35 (enc_Expr e))] []
    refine vS (vS (vT (oR 3 [(20, .vs 5 (encs_Expr e.Args)), (19, .ptr 2 0 4), (18, .int .i64 q1)] kr ?_)))
    refine oP (v := .int .i64 (List.length e.Args : Int)) kr kr (loc_lenVs (sz := 5) (els := (encs_Expr e.Args)) kr kr (by rw [encs_Expr_eq, List.length_map])) ?_
    refine oR 1 [(22, .bool (decide (q1 < (List.length e.Args : Int))))] kr ?_
    refine oN (nT ?_)
    refine v_cond (decide (q1 < (List.length e.Args : Int))) kr (fun h3 => ?_) (fun h3 => ?_)
    ·replace hs := bif_t h3 hs
     refine vK (nT (vS (vB (vS (vT (oR 3 [(27, .int .i64 q1), (26, .vs 5 (encs_Expr e.Args)), (25, .ptr 2 0 4)] kr ?_))))))
     obtain ⟨x1, g1, hs⟩ := bS hs; obtain ⟨g1a, g1b, g1c⟩ := idx_some g1
     refine oP (v := .vp (enc_Expr x1) 0) kr kr (loc_indexVs (e := 35) (sz := 5) (k := .i64) (els := (encs_Expr e.Args)) (cs := (enc_Expr x1)) kr kr kr g1a (by rw [g1c, encs_Expr_eq]; exact map_get _ (by omega))) ?_
     refine oR 3 [(31, .int .i64 (w64 (levels - 1))), (30, .int .i64 levels), (29, .agg (enc_Expr x1))] kr ?_
     obtain ⟨y2, c2, hs⟩ := bS hs
     refine oP (v := .bool y2) kr kr (loc_gcall0 (callV_func hbv21 kr) (ih_gr17_fits x1 (w64 (levels - 1)) _ c2) kr) ?_
     refine oR 1 [(6, .bool y2)] kr ?_
     refine oN (nT (vS (vT (oR 2 [(34, .bool (!y2)), (33, .bool y2)] kr ?_))))
     refine oN (nT ?_)
     refine v_cond (!y2) kr (fun h4 => ?_) (fun h4 => ?_)
     ·replace hs := bif_t h4 hs
      refine vS (vT (oR 1 [(4, .bool false)] kr ?_))
      refine oN (nT (v_ret (rB (rT (ret_fuel ?_)))))
      refine rB (ret_join ?_)
      refine rT ?_
      obtain rfl := si hs
      replace hs := hk2
      cases hs
      exact fin_ret kr kr kr
     ·replace hs := bif_f h4 hs
      refine vK (nB (nT (vT (oR 3 [(5, .int .i64 (w64 (q1 + 1))), (24, .int .i64 (w64 (q1 + 1))), (23, .int .i64 q1)] kr ?_))))
      refine oN (nrm_fuel (w64 (q1 + 1)) hs ?_)
      exact cut_of [1, 2, 5] [2] kr kr kr
    ·replace hs := bif_f h3 hs
     refine v_exit (exit_thenV (exit_fuel ?_))
     refine exit_blkV ?_
     cases hs
     refine nrm_join () rfl ?_
     exact cut_of [] [] kr kr kr
   ·subst hz; clear hs; have hs := hk2; clear hk2
    refine nT (vS (vT (oR 1 [(4, .bool true)] kr ?_)))
    refine oN (nT (v_ret ?_))
    cases hs
    exact fin_ret kr kr kr
theorem wr_gr17_fits : ∀ nF : Nat, (∀ (e : Expr) (levels : Int) (r : Bool), s_gr17_fits nF e levels = some r → FnA Tryz.prog 21 [.agg (enc_Expr e), .int .i64 levels] [] (.bool r) [])
 | 0 => fun e levels r hs => (by rw [s_gr17_fits] at hs; cases hs)
 | nF + 1 => fun e levels r hs => ws_gr17_fits nF (wr_gr17_fits nF) e levels r hs
theorem w_gr17_fits (nF : Nat) (e : Expr) (levels : Int) (r : Bool) (hs : s_gr17_fits nF e levels = some r) : FnA Tryz.prog 21 [.agg (enc_Expr e), .int .i64 levels] [] (.bool r) [] := (wr_gr17_fits nF) e levels r hs
theorem w_gr17_Right (e : Expr) (r : Bool) (hs : s_gr17_Right e = some r) : FnA Tryz.prog 8 [.agg (enc_Expr e)] [] (.bool r) [] := by
 refine fnA_of_wp (N := 5) Tryz.func8 rfl rfl rfl fun cK0 => ?_
 unfold s_gr17_Right at hs
 refine v_same (ρ' := [(0, .agg (enc_Expr e))]) rfl rfl ?_
 refine vS (vT (o_runh 2 [(2, .bool false), (1, .ptr 1 0 0)] [(1, .box 35 (enc_Expr e))] kr ?_))
 refine oN (nT (vS (vT (oR 1 [(3, .agg (enc_Expr e))] kr ?_))))
 obtain ⟨y1, c1, hs⟩ := bS hs
 refine oP (v := .bool y1) kr kr (loc_gcall0 (callV_func hbv21 kr) (w_gr17_fits KK e 12 _ c1) kr) ?_
 refine oR 1 [(2, .bool y1)] kr ?_
 refine oN (nT (v_ret ?_))
 cases hs
 exact fin_ret kr kr kr
theorem w_expr_Check_2 (p : Plan) (measures : (List Sr)) (e : Expr) (r : Int) (hs : s_expr_Check_2 p measures e = some r) : FnA Tryz.prog 9 [.agg (enc_Plan p), .vs 1 (mS measures), .agg (enc_Expr e)] [] (.int .i64 r) [] := by
 refine fnA_of_wp (N := 33) Tryz.func9 rfl rfl rfl fun cK0 => ?_
 unfold s_expr_Check_2 at hs
 refine v_same (ρ' := [(0, .agg (enc_Plan p)), (1, .vs 1 (mS measures)), (2, .agg (enc_Expr e))]) rfl rfl ?_
 refine vS (vT (o_runh 3 [(6, .int .i64 0), (5, .ptr 5 0 0), (3, .ptr 3 0 0)] [(5, .box 35 (enc_Expr e)), (3, .box 30 (enc_Plan p))] kr ?_))
 refine oN (nT (vS (vS (vT (oR 1 [(11, .agg (enc_Expr e))] kr ?_)))))
 obtain ⟨y1, c1, hs⟩ := bS hs
 refine oP (v := .bool y1) kr kr (loc_gcall0 (callV_func hbv7 kr) (w_expr_Right e _ c1) kr) ?_
 refine oR 1 [(13, .bool (!y1))] kr ?_
 refine oN (nT ?_)
 refine v_cond (!y1) kr (fun h1 => ?_) (fun h1 => ?_)
 ·replace hs := bif_t h1 hs
  refine vS (vT (oR 1 [(6, .int .i64 1)] kr ?_))
  refine oN (nT (v_ret (rT ?_)))
  cases hs
  exact fin_ret kr kr kr
 ·replace hs := bif_f h1 hs
  refine vK (nT (vS (vT (oR 1 [(14, .vs 1 (mS measures))] kr ?_))))
  obtain ⟨y2, c2, hs⟩ := bS hs
  refine o_loc (F := []) (F' := [(3001500, .row 9 1 0 (mS y2))]) (v := .sl 1 3001500 ((y2).length) 0 ((y2).length)) [] kr kr rfl kr (loc_g (R := []) [.vs 1 (mS measures)] [(5, 3001500)] (callV_func hbv22 kr) (w_slices_Clone measures _ c2) (.cons (.same _) (.nil)) kr kr kr kr kr kr kr kr) kr ?_
  refine o_runh 2 [(7, .ptr 7 0 0)] [(7, .box 32 [.sl 1 3001500 ((y2).length) 0 ((y2).length)]), (3001500, .row 9 1 0 (mS y2)), (5, .box 35 (enc_Expr e)), (3, .box 30 (enc_Plan p))] kr ?_
  refine oN (nT (vS (vS (vT (oR 2 [(17, .vs 6 (mM enc_Def p.Defs)), (16, .ptr 3 0 0)] kr ?_)))))
  refine oP (v := .int .i64 (List.length p.Defs : Int)) kr kr (loc_lenVs (sz := 6) (els := (mM enc_Def p.Defs)) kr kr lM) ?_
  refine oR 1 [(19, .int .i64 0)] kr ?_
  refine oN (nT ?_)
  obtain ⟨z1, hs, hk1⟩ := bS hs
  refine v_join (S := (List Sr)) (fun u => u = z1) (fun u => [(3, .ptr 3 0 0), (5, .ptr 5 0 0), (7, .ptr 7 0 0)]) (fun u => [(7, .box 32 [.sl 1 3001500 ((u).length) 0 ((u).length)]), (3001500, .row 9 1 0 (mS u)), (5, .box 35 (enc_Expr e)), (3, .box 30 (enc_Plan p))]) ?_ (fun v1 hz => ?_)
  ·refine vB ?_
   refine v_fuel (S := Int × (List Sr)) (fun u => [(3, .ptr 3 0 0), (5, .ptr 5 0 0), (7, .ptr 7 0 0), (17, .vs 6 (mM enc_Def p.Defs)), (18, .int .i64 (List.length p.Defs : Int)), (19, .int .i64 u.1)]) (fun u => [(7, .box 32 [.sl 1 3001500 ((u.2).length) 0 ((u.2).length)]), (3001500, .row 9 1 0 (mS u.2)), (5, .box 35 (enc_Expr e)), (3, .box 30 (enc_Plan p))]) (s_expr_Check_2_L1 p) (fun _ => rfl) KK (0, y2) hs (cut_of [3, 5, 7, 17, 18, 19] [7, 3001500, 5, 3] kr kr kr) (fun K1 q1 hs => ?_)
   rw [s_expr_Check_2_L1] at hs
   show WpV cK0 Tryz.prog none 33 _ _ [(3, .ptr 3 0 0), (5, .ptr 5 0 0), (7, .ptr 7 0 0), (17, .vs 6 (mM enc_Def p.Defs)), (18, .int .i64 (List.length p.Defs : Int)), (19, .int .i64 q1.1)] [(7, .box 32 [.sl 1 3001500 ((q1.2).length) 0 ((q1.2).length)]), (3001500, .row 9 1 0 (mS q1.2)), (5, .box 35 (enc_Expr e)), (3, .box 30 (enc_Plan p))] []
   refine vS (vT (oR 1 [(20, .bool (decide (q1.1 < (List.length p.Defs : Int))))] kr ?_))
   refine oN (nT (vS ?_))
   refine v_cond (decide (q1.1 < (List.length p.Defs : Int))) kr (fun h2 => ?_) (fun h2 => ?_)
   ·replace hs := bif_t h2 hs
    refine vK (nT (vS (vB (vS (vT ?_)))))
    obtain ⟨x1, g1, hs⟩ := bS hs; obtain ⟨g1a, g1b, g1c⟩ := idx_some g1
    refine oP (v := .vp (enc_Def x1) 0) kr kr (loc_indexVs (e := 51) (sz := 6) (k := .i64) (els := (mM enc_Def p.Defs)) (cs := (enc_Def x1)) kr kr kr g1a (by rw [g1c]; exact map_get _ (by omega))) ?_
    refine o_runh 3 [(9, .ptr 9 0 0), (22, .agg (enc_Def x1))] [(9, .box 51 [.str x1.Name, .int .i64 x1.Body.Op, .int .i64 x1.Body.N, .str x1.Body.S, .str x1.Body.Key, .vs 5 (encs_Expr x1.Body.Args)]), (7, .box 32 [.sl 1 3001500 ((q1.2).length) 0 ((q1.2).length)]), (3001500, .row 9 1 0 (mS q1.2)), (5, .box 35 (enc_Expr e)), (3, .box 30 (enc_Plan p))] kr ?_
    refine oN (nT (vT (o_runh 4 [(26, .sl 1 26 1 0 1), (25, .str x1.Name), (24, .ptr 9 0 0), (23, .sl 1 3001500 ((q1.2).length) 0 ((q1.2).length))] [(26, .row 9 1 0 (mS [x1.Name])), (9, .box 51 [.str x1.Name, .int .i64 x1.Body.Op, .int .i64 x1.Body.N, .str x1.Body.S, .str x1.Body.Key, .vs 5 (encs_Expr x1.Body.Args)]), (7, .box 32 [.sl 1 3001500 ((q1.2).length) 0 ((q1.2).length)]), (3001500, .row 9 1 0 (mS q1.2)), (5, .box 35 (enc_Expr e)), (3, .box 30 (enc_Plan p))] kr ?_)))
    obtain ⟨_, g2, hs⟩ := bS hs; replace g2 := grd_some g2
    refine o_loc (F := [(3001500, .row 9 1 0 (mS q1.2)), (26, .row 9 1 0 (mS [x1.Name]))]) (F' := [(3001500, .row 9 1 0 (mS (q1.2 ++ [x1.Name]))), (26, .row 9 1 0 (mS [x1.Name]))]) (v := .sl 1 3001500 (((q1.2 ++ [x1.Name])).length) 0 (((q1.2 ++ [x1.Name])).length)) [3001500, 26] kr kr rfl kr (loc_appendT (e := 9) (sz := 1) (bytes := 16) (L := (q1.2).length) (els := (mS q1.2)) (ys := (mS [x1.Name])) kr kr (by first | exact List.length_map .. | rfl) (.sl (t := 9) (fz := 0) (ys := (mS [x1.Name])) kr kr) (map_ones EV.encS (fun _ => rfl) _) (map_lens EV.encS (fun _ => rfl) _) kr (by first | exact (List.map_append ..).symm | rfl | simp only [List.map_nil, List.nil_append]) (List.length_map ..) g2 (by omega)) kr ?_
    refine o_runh 1 [] [(3001500, .row 9 1 0 (mS (q1.2 ++ [x1.Name]))), (26, .row 9 1 0 (mS [x1.Name])), (9, .box 51 [.str x1.Name, .int .i64 x1.Body.Op, .int .i64 x1.Body.N, .str x1.Body.S, .str x1.Body.Key, .vs 5 (encs_Expr x1.Body.Args)]), (7, .box 32 [.sl 1 3001500 (((q1.2 ++ [x1.Name])).length) 0 (((q1.2 ++ [x1.Name])).length)]), (5, .box 35 (enc_Expr e)), (3, .box 30 (enc_Plan p))] kr ?_
    refine oN (nB (nT (vT (oR 2 [(19, .int .i64 (w64 (q1.1 + 1))), (28, .int .i64 (w64 (q1.1 + 1)))] kr ?_))))
    refine oN (nrm_fuel ((w64 (q1.1 + 1)), (q1.2 ++ [x1.Name])) hs ?_)
    exact cut_of [3, 5, 7, 17, 18, 19] [7, 3001500, 5, 3] kr kr kr
   ·replace hs := bif_f h2 hs
    refine v_exit (exit_thenV (exit_fuel ?_))
    refine exit_blkV ?_
    obtain rfl := si hs
    refine nrm_join q1.2 rfl ?_
    exact cut_of [3, 5, 7] [7, 3001500, 5, 3] kr kr kr
  ·subst hz; clear hs; have hs := hk1; clear hk1
   refine nT (vS (vT (o_runh 1 [(10, .ptr 10 0 0)] [(10, .box 38 [.nilf]), (7, .box 32 [.sl 1 3001500 ((v1).length) 0 ((v1).length)]), (3001500, .row 9 1 0 (mS v1)), (5, .box 35 (enc_Expr e)), (3, .box 30 (enc_Plan p))] kr ?_)))
   refine oN (nT (vS (vT (o_runh 2 [(29, .fn 23 [] [.ptr 7 0 0, .ptr 3 0 0, .ptr 10 0 0])] [bx1, (7, .box 32 [.sl 1 3001500 ((v1).length) 0 ((v1).length)]), (3001500, .row 9 1 0 (mS v1)), (5, .box 35 (enc_Expr e)), (3, .box 30 (enc_Plan p))] kr ?_))))
   refine oN (nT (vS (vS (vT (oR 2 [(31, .agg (enc_Expr e)), (30, .fn 23 [] [.ptr 7 0 0, .ptr 3 0 0, .ptr 10 0 0])] kr ?_)))))
   obtain ⟨y3, c3, hs⟩ := bS hs
   refine o_loc (F := [(7, .box 32 [.sl 1 3001500 ((v1).length) 0 ((v1).length)]), (3001500, .row 9 1 0 (mS v1)), (3, .box 30 (enc_Plan p)), bx1]) (F' := [(3001500, .row 9 1 0 (mS y3.2.1)), (7, .box 32 [.sl 1 3001500 ((y3.2.1).length) 0 ((y3.2.1).length)]), (3, .box 30 (pL y3.2.2.1 y3.2.2.2.1 y3.2.2.2.2.1 y3.2.2.2.2.2.1 y3.2.2.2.2.2.2.1 y3.2.2.2.2.2.2.2.1 y3.2.2.2.2.2.2.2.2.1 y3.2.2.2.2.2.2.2.2.2)), bx1]) (v := .bool y3.1) [7, 3001500, 3, 10] kr kr rfl kr (loc_g (R := []) [.agg (enc_Expr e), .ptr 7 0 0, .ptr 3 0 0, .ptr 10 0 0] [(1000000, 7), (1000001, 3001500), (1000002, 3), (1000003, 10)] (callV_val (first := []) (caps := [.ptr 7 0 0, .ptr 3 0 0, .ptr 10 0 0]) hbv23 kr kr) (w_expr_Check_1 KK e v1 p.Defs p.Tables p.Zones p.Rules p.Caps p.Views p.Sun p.Hours _ c3) (.cons (.same _) (.cons (.same _) (.cons (.same _) (.cons (.same _) (.nil))))) kr kr kr kr kr kr kr kr) kr ?_
   refine oN (nT ?_)
   refine v_cond y3.1 kr (fun h3 => ?_) (fun h3 => ?_)
   ·replace hs := bif_t h3 hs
    refine vS (vT (oR 1 [(6, .int .i64 15)] kr ?_))
    refine oN (nT (v_ret (rT ?_)))
    cases hs
    exact fin_ret kr kr kr
   ·replace hs := bif_f h3 hs
    refine vK (nT (vS (vT (oR 1 [(6, .int .i64 0)] kr ?_))))
    refine oN (nT (v_ret ?_))
    cases hs
    exact fin_ret kr kr kr
theorem w_gr17_has (l : (List Sr)) (s : Sr) (r : Bool) (hs : s_gr17_has l s = some r) : FnA Tryz.prog 41 [.vs 1 (mS l), .str s] [] (.bool r) [] := by
 refine fnA_of_wp (N := 18) Tryz.func41 rfl rfl rfl fun cK0 => ?_
 unfold s_gr17_has at hs
 refine v_same (ρ' := [(0, .vs 1 (mS l)), (1, .str s)]) rfl rfl ?_
 refine vS (vT (oR 1 [(4, .bool false)] kr ?_))
 refine oN (nT (vS (vS (vT (oR 1 [(5, .int .i64 0)] kr ?_)))))
 refine oN (nT ?_)
 obtain ⟨z1, hs, hk1⟩ := bS hs
 refine v_join (S := Unit) (fun u => z1 = .inr u) (fun u => []) (fun u => []) ?_ (fun v1 hz => ?_)
 ·refine vB ?_
  refine v_fuel (S := Int) (fun u => [(0, .vs 1 (mS l)), (1, .str s), (5, .int .i64 u)]) (fun u => []) (s_gr17_has_L1 l s) (fun _ => rfl) KK 0 hs (cut_of [0, 1, 5] [] kr kr kr) (fun K1 q1 hs => ?_)
  rw [s_gr17_has_L1] at hs
  show WpV cK0 Tryz.prog none 18 _ _ [(0, .vs 1 (mS l)), (1, .str s), (5, .int .i64 q1)] [] []
  refine vS (vS (vT (oR 2 [(7, .vs 1 (mS l)), (6, .int .i64 q1)] kr ?_)))
  refine oP (v := .int .i64 (List.length l : Int)) kr kr (loc_lenVs (sz := 1) (els := (mS l)) kr kr lM) ?_
  refine oR 1 [(9, .bool (decide (q1 < (List.length l : Int))))] kr ?_
  refine oN (nT ?_)
  refine v_cond (decide (q1 < (List.length l : Int))) kr (fun h1 => ?_) (fun h1 => ?_)
  ·replace hs := bif_t h1 hs
   refine vK (nT (vS (vB (vS (vT (oR 2 [(13, .int .i64 q1), (12, .vs 1 (mS l))] kr ?_))))))
   obtain ⟨x1, g1, hs⟩ := bS hs; obtain ⟨g1a, g1b, g1c⟩ := idx_some g1
   refine oP (v := .vp [.str x1] 0) kr kr (loc_indexVs (e := 9) (sz := 1) (k := .i64) (els := (mS l)) (cs := (EV.encS x1)) kr kr kr g1a (by rw [g1c]; exact map_get _ (by omega))) ?_
   refine oR 3 [(17, .bool (decide (x1 = s))), (16, .str s), (15, .str x1)] kr ?_
   refine oN (nT ?_)
   refine v_cond (decide (x1 = s)) kr (fun h2 => ?_) (fun h2 => ?_)
   ·replace hs := bif_t h2 hs
    refine vS (vT (oR 1 [(4, .bool true)] kr ?_))
    refine oN (nT (v_ret (rB (rT (ret_fuel ?_)))))
    refine rB (ret_join ?_)
    refine rT ?_
    obtain rfl := si hs
    replace hs := hk1
    cases hs
    exact fin_ret kr kr kr
   ·replace hs := bif_f h2 hs
    refine vK (nB (nT (vT (oR 3 [(5, .int .i64 (w64 (q1 + 1))), (11, .int .i64 (w64 (q1 + 1))), (10, .int .i64 q1)] kr ?_))))
    refine oN (nrm_fuel (w64 (q1 + 1)) hs ?_)
    exact cut_of [0, 1, 5] [] kr kr kr
  ·replace hs := bif_f h1 hs
   refine v_exit (exit_thenV (exit_fuel ?_))
   refine exit_blkV ?_
   cases hs
   refine nrm_join () rfl ?_
   exact cut_of [] [] kr kr kr
 ·subst hz; clear hs; have hs := hk1; clear hk1
  refine nT (vS (vT (oR 1 [(4, .bool false)] kr ?_)))
  refine oN (nT (v_ret ?_))
  cases hs
  exact fin_ret kr kr kr
theorem ws_gr17_known (nF : Nat) (ih_gr17_known : ∀ (p : Plan) (measures : (List Sr)) (e : Expr) (r : Bool), s_gr17_known nF p measures e = some r → FnA Tryz.prog 30 [.agg (enc_Plan p), .vs 1 (mS measures), .agg (enc_Expr e)] [] (.bool r) []) (p : Plan) (measures : (List Sr)) (e : Expr) (r : Bool) (hs : s_gr17_known (nF + 1) p measures e = some r) : FnA Tryz.prog 30 [.agg (enc_Plan p), .vs 1 (mS measures), .agg (enc_Expr e)] [] (.bool r) [] := by
 refine fnA_of_wp (N := 102) Tryz.func30 rfl rfl rfl fun cK0 => ?_
 rw [s_gr17_known] at hs
 refine v_same (ρ' := [(0, .agg (enc_Plan p)), (1, .vs 1 (mS measures)), (2, .agg (enc_Expr e))]) rfl rfl ?_
 refine vS (vT (o_runh 3 [(6, .bool false), (5, .ptr 5 0 0), (3, .ptr 3 0 0)] [(5, .box 35 (enc_Expr e)), (3, .box 30 (enc_Plan p))] kr ?_))
 refine oN (nT (vS (vT (oR 1 [(7, .bool true)] kr ?_))))
 refine oN (nT (vS (vS (vT (oR 2 [(14, .int .i64 e.Op), (13, .ptr 5 0 0)] kr ?_)))))
 refine oN (nT (vB (vS (vT (oR 2 [(15, .bool (decide (e.Op = 1))), (16, .bool (decide (e.Op = 1)))] kr ?_)))))
 refine oN (nT ?_)
 obtain ⟨z1, hs, hk1⟩ := bS hs
 refine v_join (S := Bool) (fun u => u = z1) (fun u => [(1, .vs 1 (mS measures)), (3, .ptr 3 0 0), (5, .ptr 5 0 0), (7, .bool u)]) (fun u => [(5, .box 35 (enc_Expr e)), (3, .box 30 (enc_Plan p))]) ?_ (fun v1 hz => ?_)
 ·refine v_cond (decide (e.Op = 1)) kr (fun h1 => ?_) (fun h1 => ?_)
  ·replace hs := bif_t h1 hs
   refine vS (vT (oR 3 [(19, .str e.S), (18, .ptr 5 0 2), (17, .vs 1 (mS measures))] kr ?_))
   obtain ⟨y1, c1, hs⟩ := bS hs
   refine oP (v := .bool y1) kr kr (loc_gcall0 (callV_func hbv41 kr) (w_gr17_has measures e.S _ c1) kr) ?_
   refine oR 1 [(7, .bool y1)] kr ?_
   refine oN (nT (vS (vT (oR 1 [(8, .int .i64 0)] kr ?_))))
   refine oN (nT ?_)
   obtain ⟨z2, hs, hk2⟩ := bS hs
   refine v_join (S := Bool) (fun u => u = z2) (fun u => [(1, .vs 1 (mS measures)), (3, .ptr 3 0 0), (5, .ptr 5 0 0), (7, .bool u)]) (fun u => [(5, .box 35 (enc_Expr e)), (3, .box 30 (enc_Plan p))]) ?_ (fun v2 hz => ?_)
   ·refine vB ?_
    refine v_fuel (S := Bool × Int) (fun u => [(1, .vs 1 (mS measures)), (3, .ptr 3 0 0), (5, .ptr 5 0 0), (7, .bool u.1), (8, .int .i64 u.2)]) (fun u => [(5, .box 35 (enc_Expr e)), (3, .box 30 (enc_Plan p))]) (s_gr17_known_L1 p e) (fun _ => rfl) KK (y1, 0) hs (cut_of [1, 3, 5, 7, 8] [5, 3] kr kr kr) (fun K1 q1 hs => ?_)
    rw [s_gr17_known_L1] at hs
    show WpV cK0 Tryz.prog none 102 _ _ [(1, .vs 1 (mS measures)), (3, .ptr 3 0 0), (5, .ptr 5 0 0), (7, .bool q1.1), (8, .int .i64 q1.2)] [(5, .box 35 (enc_Expr e)), (3, .box 30 (enc_Plan p))] []
    refine vS (vS (vT (oR 3 [(23, .vs 6 (mM enc_Def p.Defs)), (22, .ptr 3 0 0), (21, .int .i64 q1.2)] kr ?_)))
    refine oP (v := .int .i64 (List.length p.Defs : Int)) kr kr (loc_lenVs (sz := 6) (els := (mM enc_Def p.Defs)) kr kr lM) ?_
    refine oR 1 [(25, .bool (decide (q1.2 < (List.length p.Defs : Int))))] kr ?_
    refine oN (nT ?_)
    refine v_cond (decide (q1.2 < (List.length p.Defs : Int))) kr (fun h2 => ?_) (fun h2 => ?_)
    ·replace hs := bif_t h2 hs
     refine vK (nT (vS (vB ?_)))
     obtain ⟨z3, hs, hk3⟩ := bS hs
     refine v_join (S := Bool) (fun u => u = z3) (fun u => [(1, .vs 1 (mS measures)), (3, .ptr 3 0 0), (5, .ptr 5 0 0), (7, .bool u), (8, .int .i64 q1.2)]) (fun u => [(5, .box 35 (enc_Expr e)), (3, .box 30 (enc_Plan p))]) ?_ (fun v3 hz => ?_)
     ·refine v_draw mixedH kr ?_
      refine d_runs 2 0 [(29, .bool q1.1), (28, .bool q1.1)] (pfp 2 1) kr kr ?_
      cases h3 : (q1.1)
      ·replace hs := bif_f h3 hs
       refine d_runs 3 2 [(32, .int .i64 q1.2), (31, .vs 6 (mM enc_Def p.Defs)), (30, .ptr 3 0 0)] [⟨4, [], []⟩, ⟨3, [], [3]⟩, ⟨2, [], []⟩] kr kr ?_
       obtain ⟨x1, g1, hs⟩ := bS hs; obtain ⟨g1a, g1b, g1c⟩ := idx_some g1
       refine d_pure (v := .vp (enc_Def x1) 0) 5 rfl rfl rfl rfl kr kr (loc_indexVs (e := 51) (sz := 6) (k := .i64) (els := (mM enc_Def p.Defs)) (cs := (enc_Def x1)) kr kr kr g1a (by rw [g1c]; exact map_get _ (by omega))) ?_
       refine d_runs 7 6 [(7, .bool (decide (x1.Name = e.S))), (39, .bool (decide (x1.Name = e.S))), (38, .bool (decide (x1.Name = e.S))), (37, .str e.S), (36, .ptr 5 0 2), (35, .str x1.Name), (34, .vp (enc_Def x1) 0)] [⟨12, [], []⟩, ⟨11, [], []⟩, ⟨10, [], []⟩, ⟨9, [], [5]⟩, ⟨8, [], []⟩, ⟨7, [], []⟩, ⟨6, [], []⟩] kr kr ?_
       refine d_nil kr ?_
       obtain rfl := si hs
       refine nrm_join (decide (x1.Name = e.S)) rfl ?_
       exact cut_of [1, 3, 5, 7, 8] [5, 3] kr kr kr
      ·replace hs := bif_t h3 hs
       refine d_runs 11 2 [(7, .bool true), (39, .bool true), (38, .no), (37, .no), (36, .no), (35, .no), (34, .no), (33, .no), (32, .no), (31, .no), (30, .no)] (pfp 11 12) kr kr ?_
       refine d_nil kr ?_
       cases hs
       refine nrm_join true rfl ?_
       exact cut_of [1, 3, 5, 7, 8] [5, 3] kr kr kr
     ·subst hz; clear hs; have hs := hk3; clear hk3
      refine nB (nT (vT (oR 3 [(8, .int .i64 (w64 (q1.2 + 1))), (27, .int .i64 (w64 (q1.2 + 1))), (26, .int .i64 q1.2)] kr ?_)))
      refine oN (nrm_fuel (v3, (w64 (q1.2 + 1))) hs ?_)
      exact cut_of [1, 3, 5, 7, 8] [5, 3] kr kr kr
    ·replace hs := bif_f h2 hs
     refine v_exit (exit_thenV (exit_fuel ?_))
     refine exit_blkV ?_
     obtain rfl := si hs
     refine nrm_join q1.1 rfl ?_
     exact cut_of [1, 3, 5, 7] [5, 3] kr kr kr
   ·subst hz; clear hs; have hs := hk2; clear hk2
    obtain rfl := si hs
    refine nrm_join v2 rfl ?_
    exact cut_of [1, 3, 5, 7] [5, 3] kr kr kr
  ·replace hs := bif_f h1 hs
   refine vS (vT (oR 2 [(40, .bool (decide (e.Op = 2))), (41, .bool (decide (e.Op = 2)))] kr ?_))
   refine oN (nT ?_)
   refine v_cond (decide (e.Op = 2)) kr (fun h4 => ?_) (fun h4 => ?_)
   ·replace hs := bif_t h4 hs
    refine vS (vT (oR 1 [(7, .bool false)] kr ?_))
    refine oN (nT (vS (vT (oR 1 [(9, .int .i64 0)] kr ?_))))
    refine oN (nT ?_)
    obtain ⟨z4, hs, hk4⟩ := bS hs
    refine v_join (S := Bool) (fun u => u = z4) (fun u => [(1, .vs 1 (mS measures)), (3, .ptr 3 0 0), (5, .ptr 5 0 0), (7, .bool u)]) (fun u => [(5, .box 35 (enc_Expr e)), (3, .box 30 (enc_Plan p))]) ?_ (fun v4 hz => ?_)
    ·refine vB ?_
     refine v_fuel (S := Bool × Int) (fun u => [(1, .vs 1 (mS measures)), (3, .ptr 3 0 0), (5, .ptr 5 0 0), (7, .bool u.1), (9, .int .i64 u.2)]) (fun u => [(5, .box 35 (enc_Expr e)), (3, .box 30 (enc_Plan p))]) (s_gr17_known_L2 p e) (fun _ => rfl) KK (false, 0) hs (cut_of [1, 3, 5, 7, 9] [5, 3] kr kr kr) (fun K2 q2 hs => ?_)
     rw [s_gr17_known_L2] at hs
     show WpV cK0 Tryz.prog none 102 _ _ [(1, .vs 1 (mS measures)), (3, .ptr 3 0 0), (5, .ptr 5 0 0), (7, .bool q2.1), (9, .int .i64 q2.2)] [(5, .box 35 (enc_Expr e)), (3, .box 30 (enc_Plan p))] []
     refine vS (vS (vT (oR 3 [(44, .vs 3 (mM enc_Table p.Tables)), (43, .ptr 3 0 1), (42, .int .i64 q2.2)] kr ?_)))
     refine oP (v := .int .i64 (List.length p.Tables : Int)) kr kr (loc_lenVs (sz := 3) (els := (mM enc_Table p.Tables)) kr kr lM) ?_
     refine oR 1 [(46, .bool (decide (q2.2 < (List.length p.Tables : Int))))] kr ?_
     refine oN (nT ?_)
     refine v_cond (decide (q2.2 < (List.length p.Tables : Int))) kr (fun h5 => ?_) (fun h5 => ?_)
     ·replace hs := bif_t h5 hs
      refine vK (nT (vS (vB ?_)))
      obtain ⟨z5, hs, hk5⟩ := bS hs
      refine v_join (S := Bool) (fun u => u = z5) (fun u => [(1, .vs 1 (mS measures)), (3, .ptr 3 0 0), (5, .ptr 5 0 0), (7, .bool u), (9, .int .i64 q2.2)]) (fun u => [(5, .box 35 (enc_Expr e)), (3, .box 30 (enc_Plan p))]) ?_ (fun v5 hz => ?_)
      ·refine v_draw mixedH kr ?_
       refine d_runs 2 0 [(50, .bool q2.1), (49, .bool q2.1)] (pfp 2 1) kr kr ?_
       cases h6 : (q2.1)
       ·replace hs := bif_f h6 hs
        refine d_runs 3 2 [(53, .int .i64 q2.2), (52, .vs 3 (mM enc_Table p.Tables)), (51, .ptr 3 0 1)] [⟨4, [], []⟩, ⟨3, [], [3]⟩, ⟨2, [], []⟩] kr kr ?_
        obtain ⟨x2, g2, hs⟩ := bS hs; obtain ⟨g2a, g2b, g2c⟩ := idx_some g2
        refine d_pure (v := .vp (enc_Table x2) 0) 5 rfl rfl rfl rfl kr kr (loc_indexVs (e := 57) (sz := 3) (k := .i64) (els := (mM enc_Table p.Tables)) (cs := (enc_Table x2)) kr kr kr g2a (by rw [g2c]; exact map_get _ (by omega))) ?_
        refine d_runs 7 6 [(7, .bool (decide (x2.Name = e.S))), (60, .bool (decide (x2.Name = e.S))), (59, .bool (decide (x2.Name = e.S))), (58, .str e.S), (57, .ptr 5 0 2), (56, .str x2.Name), (55, .vp (enc_Table x2) 0)] [⟨12, [], []⟩, ⟨11, [], []⟩, ⟨10, [], []⟩, ⟨9, [], [5]⟩, ⟨8, [], []⟩, ⟨7, [], []⟩, ⟨6, [], []⟩] kr kr ?_
        refine d_nil kr ?_
        obtain rfl := si hs
        refine nrm_join (decide (x2.Name = e.S)) rfl ?_
        exact cut_of [1, 3, 5, 7, 9] [5, 3] kr kr kr
       ·replace hs := bif_t h6 hs
        refine d_runs 11 2 [(7, .bool true), (60, .bool true), (59, .no), (58, .no), (57, .no), (56, .no), (55, .no), (54, .no), (53, .no), (52, .no), (51, .no)] (pfp 11 12) kr kr ?_
        refine d_nil kr ?_
        cases hs
        refine nrm_join true rfl ?_
        exact cut_of [1, 3, 5, 7, 9] [5, 3] kr kr kr
      ·subst hz; clear hs; have hs := hk5; clear hk5
       refine nB (nT (vT (oR 3 [(9, .int .i64 (w64 (q2.2 + 1))), (48, .int .i64 (w64 (q2.2 + 1))), (47, .int .i64 q2.2)] kr ?_)))
       refine oN (nrm_fuel (v5, (w64 (q2.2 + 1))) hs ?_)
       exact cut_of [1, 3, 5, 7, 9] [5, 3] kr kr kr
     ·replace hs := bif_f h5 hs
      refine v_exit (exit_thenV (exit_fuel ?_))
      refine exit_blkV ?_
      obtain rfl := si hs
      refine nrm_join q2.1 rfl ?_
      exact cut_of [1, 3, 5, 7] [5, 3] kr kr kr
    ·subst hz; clear hs; have hs := hk4; clear hk4
     obtain rfl := si hs
     refine nrm_join v4 rfl ?_
     exact cut_of [1, 3, 5, 7] [5, 3] kr kr kr
   ·replace hs := bif_f h4 hs
    refine vS (vT (oR 2 [(61, .bool (decide (e.Op = 3))), (62, .bool (decide (e.Op = 3)))] kr ?_))
    refine oN (nT ?_)
    refine v_cond (decide (e.Op = 3)) kr (fun h7 => ?_) (fun h7 => ?_)
    ·replace hs := bif_t h7 hs
     refine vS (vT (oR 1 [(7, .bool false)] kr ?_))
     refine oN (nT (vS (vT (oR 1 [(10, .int .i64 0)] kr ?_))))
     refine oN (nT ?_)
     obtain ⟨z6, hs, hk6⟩ := bS hs
     refine v_join (S := Bool) (fun u => u = z6) (fun u => [(1, .vs 1 (mS measures)), (3, .ptr 3 0 0), (5, .ptr 5 0 0), (7, .bool u)]) (fun u => [(5, .box 35 (enc_Expr e)), (3, .box 30 (enc_Plan p))]) ?_ (fun v6 hz => ?_)
     ·refine vB ?_
      refine v_fuel (S := Bool × Int) (fun u => [(1, .vs 1 (mS measures)), (3, .ptr 3 0 0), (5, .ptr 5 0 0), (7, .bool u.1), (10, .int .i64 u.2)]) (fun u => [(5, .box 35 (enc_Expr e)), (3, .box 30 (enc_Plan p))]) (s_gr17_known_L3 p e) (fun _ => rfl) KK (false, 0) hs (cut_of [1, 3, 5, 7, 10] [5, 3] kr kr kr) (fun K3 q3 hs => ?_)
      rw [s_gr17_known_L3] at hs
      show WpV cK0 Tryz.prog none 102 _ _ [(1, .vs 1 (mS measures)), (3, .ptr 3 0 0), (5, .ptr 5 0 0), (7, .bool q3.1), (10, .int .i64 q3.2)] [(5, .box 35 (enc_Expr e)), (3, .box 30 (enc_Plan p))] []
      refine vS (vS (vT (oR 3 [(65, .vs 3 (mM enc_Zone p.Zones)), (64, .ptr 3 0 2), (63, .int .i64 q3.2)] kr ?_)))
      refine oP (v := .int .i64 (List.length p.Zones : Int)) kr kr (loc_lenVs (sz := 3) (els := (mM enc_Zone p.Zones)) kr kr lM) ?_
      refine oR 1 [(67, .bool (decide (q3.2 < (List.length p.Zones : Int))))] kr ?_
      refine oN (nT ?_)
      refine v_cond (decide (q3.2 < (List.length p.Zones : Int))) kr (fun h8 => ?_) (fun h8 => ?_)
      ·replace hs := bif_t h8 hs
       refine vK (nT (vS (vB ?_)))
       obtain ⟨z7, hs, hk7⟩ := bS hs
       refine v_join (S := Bool) (fun u => u = z7) (fun u => [(1, .vs 1 (mS measures)), (3, .ptr 3 0 0), (5, .ptr 5 0 0), (7, .bool u), (10, .int .i64 q3.2)]) (fun u => [(5, .box 35 (enc_Expr e)), (3, .box 30 (enc_Plan p))]) ?_ (fun v7 hz => ?_)
       ·refine v_draw mixedH kr ?_
        refine d_runs 2 0 [(71, .bool q3.1), (70, .bool q3.1)] (pfp 2 1) kr kr ?_
        cases h9 : (q3.1)
        ·replace hs := bif_f h9 hs
         refine d_runs 3 2 [(74, .int .i64 q3.2), (73, .vs 3 (mM enc_Zone p.Zones)), (72, .ptr 3 0 2)] [⟨4, [], []⟩, ⟨3, [], [3]⟩, ⟨2, [], []⟩] kr kr ?_
         obtain ⟨x3, g3, hs⟩ := bS hs; obtain ⟨g3a, g3b, g3c⟩ := idx_some g3
         refine d_pure (v := .vp (enc_Zone x3) 0) 5 rfl rfl rfl rfl kr kr (loc_indexVs (e := 54) (sz := 3) (k := .i64) (els := (mM enc_Zone p.Zones)) (cs := (enc_Zone x3)) kr kr kr g3a (by rw [g3c]; exact map_get _ (by omega))) ?_
         refine d_runs 7 6 [(7, .bool (decide (x3.Name = e.S))), (81, .bool (decide (x3.Name = e.S))), (80, .bool (decide (x3.Name = e.S))), (79, .str e.S), (78, .ptr 5 0 2), (77, .str x3.Name), (76, .vp (enc_Zone x3) 0)] [⟨12, [], []⟩, ⟨11, [], []⟩, ⟨10, [], []⟩, ⟨9, [], [5]⟩, ⟨8, [], []⟩, ⟨7, [], []⟩, ⟨6, [], []⟩] kr kr ?_
         refine d_nil kr ?_
         obtain rfl := si hs
         refine nrm_join (decide (x3.Name = e.S)) rfl ?_
         exact cut_of [1, 3, 5, 7, 10] [5, 3] kr kr kr
        ·replace hs := bif_t h9 hs
         refine d_runs 11 2 [(7, .bool true), (81, .bool true), (80, .no), (79, .no), (78, .no), (77, .no), (76, .no), (75, .no), (74, .no), (73, .no), (72, .no)] (pfp 11 12) kr kr ?_
         refine d_nil kr ?_
         cases hs
         refine nrm_join true rfl ?_
         exact cut_of [1, 3, 5, 7, 10] [5, 3] kr kr kr
       ·subst hz; clear hs; have hs := hk7; clear hk7
        refine nB (nT (vT (oR 3 [(10, .int .i64 (w64 (q3.2 + 1))), (69, .int .i64 (w64 (q3.2 + 1))), (68, .int .i64 q3.2)] kr ?_)))
        refine oN (nrm_fuel (v7, (w64 (q3.2 + 1))) hs ?_)
        exact cut_of [1, 3, 5, 7, 10] [5, 3] kr kr kr
      ·replace hs := bif_f h8 hs
       refine v_exit (exit_thenV (exit_fuel ?_))
       refine exit_blkV ?_
       obtain rfl := si hs
       refine nrm_join q3.1 rfl ?_
       exact cut_of [1, 3, 5, 7] [5, 3] kr kr kr
     ·subst hz; clear hs; have hs := hk6; clear hk6
      obtain rfl := si hs
      refine nrm_join v6 rfl ?_
      exact cut_of [1, 3, 5, 7] [5, 3] kr kr kr
    ·replace hs := bif_f h7 hs
     refine vK ?_
     cases hs
     refine nrm_join true rfl ?_
     exact cut_of [1, 3, 5, 7] [5, 3] kr kr kr
 ·subst hz; clear hs; have hs := hk1; clear hk1
  refine nB (nT (vS (vS (vT (oR 1 [(11, .int .i64 0)] kr ?_)))))
  refine oN (nT ?_)
  obtain ⟨z8, hs, hk8⟩ := bS hs
  refine v_join (S := Bool) (fun u => u = z8) (fun u => [(7, .bool u)]) (fun u => []) ?_ (fun v8 hz => ?_)
  ·refine vB ?_
   refine v_fuel (S := Bool × Int) (fun u => [(1, .vs 1 (mS measures)), (3, .ptr 3 0 0), (5, .ptr 5 0 0), (7, .bool u.1), (11, .int .i64 u.2)]) (fun u => [(5, .box 35 (enc_Expr e)), (3, .box 30 (enc_Plan p))]) (s_gr17_known_L4 (s_gr17_known nF) p measures e) (fun _ => rfl) KK (v1, 0) hs (cut_of [1, 3, 5, 7, 11] [5, 3] kr kr kr) (fun K4 q4 hs => ?_)
   rw [s_gr17_known_L4] at hs
   show WpV cK0 Tryz.prog none 102 _ _ [(1, .vs 1 (mS measures)), (3, .ptr 3 0 0), (5, .ptr 5 0 0), (7, .bool q4.1), (11, .int .i64 q4.2)] [(5, .box 35 (enc_Expr e)), (3, .box 30 (enc_Plan p))] []
   refine vS (vS (vT (oR 3 [(84, .vs 5 (encs_Expr e.Args)), (83, .ptr 5 0 4), (82, .int .i64 q4.2)] kr ?_)))
   refine oP (v := .int .i64 (List.length e.Args : Int)) kr kr (loc_lenVs (sz := 5) (els := (encs_Expr e.Args)) kr kr (by rw [encs_Expr_eq, List.length_map])) ?_
   refine oR 1 [(86, .bool (decide (q4.2 < (List.length e.Args : Int))))] kr ?_
   refine oN (nT ?_)
   refine v_cond (decide (q4.2 < (List.length e.Args : Int))) kr (fun h10 => ?_) (fun h10 => ?_)
   ·replace hs := bif_t h10 hs
    refine vK (nT (vS (vB (vS (v_draw mixedH kr ?_)))))
    refine d_runs 5 0 [(93, .int .i64 q4.2), (92, .vs 5 (encs_Expr e.Args)), (91, .ptr 5 0 4), (90, .vs 1 (mS measures)), (89, .agg (enc_Plan p))] [⟨4, [], []⟩, ⟨3, [], [5]⟩, ⟨2, [], []⟩, ⟨1, [], []⟩, ⟨0, [], [3]⟩] kr kr ?_
    obtain ⟨x4, g4, hs⟩ := bS hs; obtain ⟨g4a, g4b, g4c⟩ := idx_some g4
    refine d_pure (v := .vp (enc_Expr x4) 0) 5 rfl rfl rfl rfl kr kr (loc_indexVs (e := 35) (sz := 5) (k := .i64) (els := (encs_Expr e.Args)) (cs := (enc_Expr x4)) kr kr kr g4a (by rw [g4c, encs_Expr_eq]; exact map_get _ (by omega))) ?_
    refine d_runs 1 6 [(95, .agg (enc_Expr x4))] (pfp 1 6) kr kr ?_
    obtain ⟨y2, c2, hs⟩ := bS hs
    refine d_pure (v := .bool y2) 7 rfl rfl rfl rfl kr kr (loc_gcall0 (callV_func hbv30 kr) (ih_gr17_known p measures x4 _ c2) kr) ?_
    refine d_runs 1 8 [(12, .bool y2)] (pfp 1 8) kr kr ?_
    refine d_nil kr ?_
    refine nT ?_
    obtain ⟨z9, hs, hk9⟩ := bS hs
    refine v_join (S := Bool) (fun u => u = z9) (fun u => [(1, .vs 1 (mS measures)), (3, .ptr 3 0 0), (5, .ptr 5 0 0), (7, .bool u), (11, .int .i64 q4.2)]) (fun u => [(5, .box 35 (enc_Expr e)), (3, .box 30 (enc_Plan p))]) ?_ (fun v9 hz => ?_)
    ·refine vT (oR 2 [(98, .bool q4.1), (97, .bool q4.1)] kr ?_)
     cases h11 : (q4.1)
     ·replace hs := bif_f h11 hs
      refine oR 3 [(7, .bool false), (100, .bool false), (99, .no)] kr ?_
      refine oN ?_
      cases hs
      refine nrm_join false rfl ?_
      exact cut_of [1, 3, 5, 7, 11] [5, 3] kr kr kr
     ·replace hs := bif_t h11 hs
      refine oR 3 [(7, .bool y2), (100, .bool y2), (99, .bool y2)] kr ?_
      refine oN ?_
      obtain rfl := si hs
      refine nrm_join y2 rfl ?_
      exact cut_of [1, 3, 5, 7, 11] [5, 3] kr kr kr
    ·subst hz; clear hs; have hs := hk9; clear hk9
     refine nB (nT (vT (oR 3 [(11, .int .i64 (w64 (q4.2 + 1))), (88, .int .i64 (w64 (q4.2 + 1))), (87, .int .i64 q4.2)] kr ?_)))
     refine oN (nrm_fuel (v9, (w64 (q4.2 + 1))) hs ?_)
     exact cut_of [1, 3, 5, 7, 11] [5, 3] kr kr kr
   ·replace hs := bif_f h10 hs
    refine v_exit (exit_thenV (exit_fuel ?_))
    refine exit_blkV ?_
    obtain rfl := si hs
    refine nrm_join q4.1 rfl ?_
    exact cut_of [7] [] kr kr kr
  ·subst hz; clear hs; have hs := hk8; clear hk8
   refine nT (vS (vT (oR 2 [(6, .bool v8), (101, .bool v8)] kr ?_)))
   refine oN (nT (v_ret ?_))
   cases hs
   exact fin_ret kr kr kr
theorem wr_gr17_known : ∀ nF : Nat, (∀ (p : Plan) (measures : (List Sr)) (e : Expr) (r : Bool), s_gr17_known nF p measures e = some r → FnA Tryz.prog 30 [.agg (enc_Plan p), .vs 1 (mS measures), .agg (enc_Expr e)] [] (.bool r) [])
 | 0 => fun p measures e r hs => (by rw [s_gr17_known] at hs; cases hs)
 | nF + 1 => fun p measures e r hs => ws_gr17_known nF (wr_gr17_known nF) p measures e r hs
theorem w_gr17_known (nF : Nat) (p : Plan) (measures : (List Sr)) (e : Expr) (r : Bool) (hs : s_gr17_known nF p measures e = some r) : FnA Tryz.prog 30 [.agg (enc_Plan p), .vs 1 (mS measures), .agg (enc_Expr e)] [] (.bool r) [] := (wr_gr17_known nF) p measures e r hs
theorem w_gr17_Check (p : Plan) (measures : (List Sr)) (e : Expr) (r : Int) (hs : s_gr17_Check p measures e = some r) : FnA Tryz.prog 10 [.agg (enc_Plan p), .vs 1 (mS measures), .agg (enc_Expr e)] [] (.int .i64 r) [] := by
 refine fnA_of_wp (N := 15) Tryz.func10 rfl rfl rfl fun cK0 => ?_
 unfold s_gr17_Check at hs
 refine v_same (ρ' := [(0, .agg (enc_Plan p)), (1, .vs 1 (mS measures)), (2, .agg (enc_Expr e))]) rfl rfl ?_
 refine vS (vT (o_runh 3 [(6, .int .i64 0), (5, .ptr 5 0 0), (3, .ptr 3 0 0)] [(5, .box 35 (enc_Expr e)), (3, .box 30 (enc_Plan p))] kr ?_))
 refine oN (nT (vS (vS (vT (oR 1 [(7, .agg (enc_Expr e))] kr ?_)))))
 obtain ⟨y1, c1, hs⟩ := bS hs
 refine oP (v := .bool y1) kr kr (loc_gcall0 (callV_func hbv8 kr) (w_gr17_Right e _ c1) kr) ?_
 refine oR 1 [(9, .bool (!y1))] kr ?_
 refine oN (nT ?_)
 refine v_cond (!y1) kr (fun h1 => ?_) (fun h1 => ?_)
 ·replace hs := bif_t h1 hs
  refine vS (vT (oR 1 [(6, .int .i64 1)] kr ?_))
  refine oN (nT (v_ret (rT ?_)))
  cases hs
  exact fin_ret kr kr kr
 ·replace hs := bif_f h1 hs
  refine vK (nT (vS (vS (vT (oR 3 [(12, .agg (enc_Expr e)), (11, .vs 1 (mS measures)), (10, .agg (enc_Plan p))] kr ?_)))))
  obtain ⟨y2, c2, hs⟩ := bS hs
  refine oP (v := .bool y2) kr kr (loc_gcall0 (callV_func hbv30 kr) (w_gr17_known KK p measures e _ c2) kr) ?_
  refine oR 1 [(14, .bool (!y2))] kr ?_
  refine oN (nT ?_)
  refine v_cond (!y2) kr (fun h2 => ?_) (fun h2 => ?_)
  ·replace hs := bif_t h2 hs
   refine vS (vT (oR 1 [(6, .int .i64 15)] kr ?_))
   refine oN (nT (v_ret (rT ?_)))
   cases hs
   exact fin_ret kr kr kr
  ·replace hs := bif_f h2 hs
   refine vK (nT (vS (vT (oR 1 [(6, .int .i64 0)] kr ?_))))
   refine oN (nT (v_ret ?_))
   cases hs
   exact fin_ret kr kr kr
theorem w_expr_Eval_2 (p : Plan) (measures : (List Entry)) (zones : (List Sr)) (e : Expr) (r : Int) (hs : s_expr_Eval_2 p measures zones e = some r) : FnA Tryz.prog 11 [.agg (enc_Plan p), .vs 2 (mM enc_Entry measures), .vs 1 (mS zones), .agg (enc_Expr e)] [] (.int .i64 r) [] := by
 refine fnA_of_wp (N := 24) Tryz.func11 rfl rfl rfl fun cK0 => ?_
 unfold s_expr_Eval_2 at hs
 refine v_same (ρ' := [(0, .agg (enc_Plan p)), (1, .vs 2 (mM enc_Entry measures)), (2, .vs 1 (mS zones)), (3, .agg (enc_Expr e))]) rfl rfl ?_
 refine vS (vT (o_runh 3 [(8, .int .i64 0), (7, .ptr 7 0 0), (4, .ptr 4 0 0)] [(7, .box 35 (enc_Expr e)), (4, .box 30 (enc_Plan p))] kr ?_))
 refine oN (nT (vS (vS (vT (oR 1 [(11, .agg (enc_Expr e))] kr ?_)))))
 obtain ⟨y1, c1, hs⟩ := bS hs
 refine oP (v := .bool y1) kr kr (loc_gcall0 (callV_func hbv7 kr) (w_expr_Right e _ c1) kr) ?_
 refine oR 1 [(13, .bool (!y1))] kr ?_
 refine oN (nT ?_)
 refine v_cond (!y1) kr (fun h1 => ?_) (fun h1 => ?_)
 ·replace hs := bif_t h1 hs
  refine vS (vT (oR 1 [(8, .int .i64 0)] kr ?_))
  refine oN (nT (v_ret (rT ?_)))
  cases hs
  exact fin_ret kr kr kr
 ·replace hs := bif_f h1 hs
  refine vK (nT (vS (vT (oR 3 [(17, .vs 1 (mS zones)), (16, .vs 2 (mM enc_Entry measures)), (15, .agg (enc_Plan p))] kr ?_))))
  obtain ⟨y2, c2, hs⟩ := bS hs
  refine o_loc (F := []) (F' := [(3001800, .map (encM V.str (V.int .i64) y2.2.2.2))]) (v := .tup [.agg (enc_Plan y2.1 ++ [.mp 3001800, .vs 1 (mS y2.2.1)]), .vs 1 (mI y2.2.2.1)]) [] kr kr rfl kr (loc_g (R := []) [.agg (enc_Plan p), .vs 2 (mM enc_Entry measures), .vs 1 (mS zones)] [(20, 3001800)] (callV_func hbv31 kr) (w_expr_prepare p measures zones _ c2) (.cons (.same _) (.cons (.same _) (.cons (.same _) (.nil)))) kr kr kr kr kr kr kr kr) kr ?_
  refine o_runh 6 [(10, .vs 1 (mI y2.2.2.1)), (9, .ptr 9 0 0), (20, .vs 1 (mI y2.2.2.1)), (19, .agg (enc_Plan y2.1 ++ [.mp 3001800, .vs 1 (mS y2.2.1)])), (14, .tup [.agg (enc_Plan y2.1 ++ [.mp 3001800, .vs 1 (mS y2.2.1)]), .vs 1 (mI y2.2.2.1)])] [(9, .box 71 (enc_Plan y2.1 ++ [.mp 3001800, .vs 1 (mS y2.2.1)])), (3001800, .map (encM V.str (V.int .i64) y2.2.2.2)), (7, .box 35 (enc_Expr e)), (4, .box 30 (enc_Plan p))] kr ?_
  refine oN (nT (vS (vT (oR 2 [(22, .agg (enc_Expr e)), (21, .agg (enc_Plan y2.1 ++ [.mp 3001800, .vs 1 (mS y2.2.1)]))] kr ?_))))
  obtain ⟨y3, c3, hs⟩ := bS hs
  refine o_loc (F := [(3001800, .map (encM V.str (V.int .i64) y2.2.2.2))]) (F' := [(3001800, .map (encM V.str (V.int .i64) y2.2.2.2))]) (v := .int .i64 y3) [3001800] kr kr rfl kr (loc_g (R := []) [.agg (enc_Plan y2.1 ++ [.mp 3001800, .vs 1 (mS y2.2.1)]), .agg (enc_Expr e)] [(1000000, 3001800)] (callV_func hbv32 kr) (w_expr_context_value KK y2.1 y2.2.2.2 y2.2.1 e _ c3) (.cons (.same _) (.cons (.same _) (.nil))) kr kr kr kr kr kr kr kr) kr ?_
  refine oR 1 [(8, .int .i64 y3)] kr ?_
  refine oN (nT (v_ret ?_))
  cases hs
  exact fin_ret kr kr kr
theorem w_gr16_Measures  (r : Unit) (hs : s_gr16_Measures  = some r) : FnA Tryz.prog 64 [] [] (.sl 1 1 (([([97, 114, 101, 97] : List UInt8), ([99, 111, 118, 101, 114] : List UInt8), ([102, 108, 111, 111, 114] : List UInt8), ([102, 108, 111, 111, 114, 115] : List UInt8), ([104, 101, 105, 103, 104, 116] : List UInt8), ([104, 111, 109, 101, 115] : List UInt8), ([114, 117, 110, 111, 102, 102] : List UInt8), ([115, 101, 116, 98, 97, 99, 107] : List UInt8), ([116, 114, 97, 102, 102, 105, 99] : List UInt8)]).length) 0 (([([97, 114, 101, 97] : List UInt8), ([99, 111, 118, 101, 114] : List UInt8), ([102, 108, 111, 111, 114] : List UInt8), ([102, 108, 111, 111, 114, 115] : List UInt8), ([104, 101, 105, 103, 104, 116] : List UInt8), ([104, 111, 109, 101, 115] : List UInt8), ([114, 117, 110, 111, 102, 102] : List UInt8), ([115, 101, 116, 98, 97, 99, 107] : List UInt8), ([116, 114, 97, 102, 102, 105, 99] : List UInt8)]).length)) [(1, .row 9 1 0 (mS [([97, 114, 101, 97] : List UInt8), ([99, 111, 118, 101, 114] : List UInt8), ([102, 108, 111, 111, 114] : List UInt8), ([102, 108, 111, 111, 114, 115] : List UInt8), ([104, 101, 105, 103, 104, 116] : List UInt8), ([104, 111, 109, 101, 115] : List UInt8), ([114, 117, 110, 111, 102, 102] : List UInt8), ([115, 101, 116, 98, 97, 99, 107] : List UInt8), ([116, 114, 97, 102, 102, 105, 99] : List UInt8)]))] := by
 refine fnA_of_wp (N := 2) Tryz.func64 rfl rfl rfl fun cK0 => ?_
 unfold s_gr16_Measures at hs
 refine v_same (ρ' := []) rfl rfl ?_
 refine vS (vT (oR 1 [(0, .nils)] kr ?_))
 refine oN (nT (vS (vT (o_runh 2 [(0, .sl 1 1 9 0 9), (1, .sl 1 1 9 0 9)] [(1, .row 9 1 0 (mS lq0))] kr ?_))))
 refine oN (nT (v_ret ?_))
 cases hs
 exact fin_ret kr kr kr
theorem w_gr16_Has (l : (List Sr)) (s : Sr) (r : Bool) (hs : s_gr16_Has l s = some r) : FnA Tryz.prog 63 [.vs 1 (mS l), .str s] [] (.bool r) [] := by
 refine fnA_of_wp (N := 18) Tryz.func63 rfl rfl rfl fun cK0 => ?_
 unfold s_gr16_Has at hs
 refine v_same (ρ' := [(0, .vs 1 (mS l)), (1, .str s)]) rfl rfl ?_
 refine vS (vT (oR 1 [(4, .bool false)] kr ?_))
 refine oN (nT (vS (vS (vT (oR 1 [(5, .int .i64 0)] kr ?_)))))
 refine oN (nT ?_)
 obtain ⟨z1, hs, hk1⟩ := bS hs
 refine v_join (S := Unit) (fun u => z1 = .inr u) (fun u => []) (fun u => []) ?_ (fun v1 hz => ?_)
 ·refine vB ?_
  refine v_fuel (S := Int) (fun u => [(0, .vs 1 (mS l)), (1, .str s), (5, .int .i64 u)]) (fun u => []) (s_gr16_Has_L1 l s) (fun _ => rfl) KK 0 hs (cut_of [0, 1, 5] [] kr kr kr) (fun K1 q1 hs => ?_)
  rw [s_gr16_Has_L1] at hs
  show WpV cK0 Tryz.prog none 18 _ _ [(0, .vs 1 (mS l)), (1, .str s), (5, .int .i64 q1)] [] []
  refine vS (vS (vT (oR 2 [(7, .vs 1 (mS l)), (6, .int .i64 q1)] kr ?_)))
  refine oP (v := .int .i64 (List.length l : Int)) kr kr (loc_lenVs (sz := 1) (els := (mS l)) kr kr lM) ?_
  refine oR 1 [(9, .bool (decide (q1 < (List.length l : Int))))] kr ?_
  refine oN (nT ?_)
  refine v_cond (decide (q1 < (List.length l : Int))) kr (fun h1 => ?_) (fun h1 => ?_)
  ·replace hs := bif_t h1 hs
   refine vK (nT (vS (vB (vS (vT (oR 2 [(13, .int .i64 q1), (12, .vs 1 (mS l))] kr ?_))))))
   obtain ⟨x1, g1, hs⟩ := bS hs; obtain ⟨g1a, g1b, g1c⟩ := idx_some g1
   refine oP (v := .vp [.str x1] 0) kr kr (loc_indexVs (e := 9) (sz := 1) (k := .i64) (els := (mS l)) (cs := (EV.encS x1)) kr kr kr g1a (by rw [g1c]; exact map_get _ (by omega))) ?_
   refine oR 3 [(17, .bool (decide (x1 = s))), (16, .str s), (15, .str x1)] kr ?_
   refine oN (nT ?_)
   refine v_cond (decide (x1 = s)) kr (fun h2 => ?_) (fun h2 => ?_)
   ·replace hs := bif_t h2 hs
    refine vS (vT (oR 1 [(4, .bool true)] kr ?_))
    refine oN (nT (v_ret (rB (rT (ret_fuel ?_)))))
    refine rB (ret_join ?_)
    refine rT ?_
    obtain rfl := si hs
    replace hs := hk1
    cases hs
    exact fin_ret kr kr kr
   ·replace hs := bif_f h2 hs
    refine vK (nB (nT (vT (oR 3 [(5, .int .i64 (w64 (q1 + 1))), (11, .int .i64 (w64 (q1 + 1))), (10, .int .i64 q1)] kr ?_))))
    refine oN (nrm_fuel (w64 (q1 + 1)) hs ?_)
    exact cut_of [0, 1, 5] [] kr kr kr
  ·replace hs := bif_f h1 hs
   refine v_exit (exit_thenV (exit_fuel ?_))
   refine exit_blkV ?_
   cases hs
   refine nrm_join () rfl ?_
   exact cut_of [] [] kr kr kr
 ·subst hz; clear hs; have hs := hk1; clear hk1
  refine nT (vS (vT (oR 1 [(4, .bool false)] kr ?_)))
  refine oN (nT (v_ret ?_))
  cases hs
  exact fin_ret kr kr kr
theorem w_gr16_twice (p : Plan) (r : Bool) (hs : s_gr16_twice p = some r) : FnA Tryz.prog 50 [.agg (enc_Plan p)] [] (.bool r) [] := by
 refine fnA_of_wp (N := 38) Tryz.func50 rfl rfl rfl fun cK0 => ?_
 unfold s_gr16_twice at hs
 refine v_same (ρ' := [(0, .agg (enc_Plan p))]) rfl rfl ?_
 refine vS (vT (o_runh 2 [(2, .bool false), (1, .ptr 1 0 0)] [(1, .box 30 (enc_Plan p))] kr ?_))
 refine oN (nT (vS (vS (vT (oR 1 [(3, .int .i64 0)] kr ?_)))))
 refine oN (nT ?_)
 obtain ⟨z1, hs, hk1⟩ := bS hs
 refine v_join (S := Unit) (fun u => z1 = .inr u) (fun u => []) (fun u => []) ?_ (fun v1 hz => ?_)
 ·refine vB ?_
  refine v_fuel (S := Int) (fun u => [(1, .ptr 1 0 0), (3, .int .i64 u)]) (fun u => [(1, .box 30 (enc_Plan p))]) (s_gr16_twice_L1 p) (fun _ => rfl) KK 0 hs (cut_of [1, 3] [1] kr kr kr) (fun K1 q1 hs => ?_)
  rw [s_gr16_twice_L1] at hs
  show WpV cK0 Tryz.prog none 38 _ _ [(1, .ptr 1 0 0), (3, .int .i64 q1)] [(1, .box 30 (enc_Plan p))] []
  refine vS (vS (vT (oR 3 [(7, .vs 6 (mM enc_Def p.Defs)), (6, .ptr 1 0 0), (5, .int .i64 q1)] kr ?_)))
  refine oP (v := .int .i64 (List.length p.Defs : Int)) kr kr (loc_lenVs (sz := 6) (els := (mM enc_Def p.Defs)) kr kr lM) ?_
  refine oR 1 [(9, .bool (decide (q1 < (List.length p.Defs : Int))))] kr ?_
  refine oN (nT ?_)
  refine v_cond (decide (q1 < (List.length p.Defs : Int))) kr (fun h1 => ?_) (fun h1 => ?_)
  ·replace hs := bif_t h1 hs
   refine vK (nT (vS (vB (vS (vS (vT (oR 1 [(4, .int .i64 0)] kr ?_)))))))
   refine oN (nT ?_)
   obtain ⟨z2, hs, hk2⟩ := bS hs
   refine v_join (S := Unit) (fun u => z2 = .inr u) (fun u => [(1, .ptr 1 0 0), (3, .int .i64 q1)]) (fun u => [(1, .box 30 (enc_Plan p))]) ?_ (fun v2 hz => ?_)
   ·refine vB ?_
    refine v_fuel (S := Int) (fun u => [(1, .ptr 1 0 0), (3, .int .i64 q1), (4, .int .i64 u)]) (fun u => [(1, .box 30 (enc_Plan p))]) (s_gr16_twice_L2 p q1) (fun _ => rfl) KK 0 hs (cut_of [1, 3, 4] [1] kr kr kr) (fun K2 q2 hs => ?_)
    rw [s_gr16_twice_L2] at hs
    show WpV cK0 Tryz.prog none 38 _ _ [(1, .ptr 1 0 0), (3, .int .i64 q1), (4, .int .i64 q2)] [(1, .box 30 (enc_Plan p))] []
    refine vS (vS (vT (oR 3 [(14, .bool (decide (q2 < q1))), (13, .int .i64 q1), (12, .int .i64 q2)] kr ?_)))
    refine oN (nT ?_)
    refine v_cond (decide (q2 < q1)) kr (fun h2 => ?_) (fun h2 => ?_)
    ·replace hs := bif_t h2 hs
     refine vK (nT (vS (vB (vS (v_draw mixedH kr ?_)))))
     refine d_runs 3 0 [(19, .int .i64 q2), (18, .vs 6 (mM enc_Def p.Defs)), (17, .ptr 1 0 0)] [⟨2, [], []⟩, ⟨1, [], [1]⟩, ⟨0, [], []⟩] kr kr ?_
     obtain ⟨x1, g1, hs⟩ := bS hs; obtain ⟨g1a, g1b, g1c⟩ := idx_some g1
     refine d_pure (v := .vp (enc_Def x1) 0) 3 rfl rfl rfl rfl kr kr (loc_indexVs (e := 51) (sz := 6) (k := .i64) (els := (mM enc_Def p.Defs)) (cs := (enc_Def x1)) kr kr kr g1a (by rw [g1c]; exact map_get _ (by omega))) ?_
     refine d_runs 5 4 [(25, .int .i64 q1), (24, .vs 6 (mM enc_Def p.Defs)), (23, .ptr 1 0 0), (22, .str x1.Name), (21, .vp (enc_Def x1) 0)] [⟨8, [], []⟩, ⟨7, [], [1]⟩, ⟨6, [], []⟩, ⟨5, [], []⟩, ⟨4, [], []⟩] kr kr ?_
     obtain ⟨x2, g2, hs⟩ := bS hs; obtain ⟨g2a, g2b, g2c⟩ := idx_some g2
     refine d_pure (v := .vp (enc_Def x2) 0) 9 rfl rfl rfl rfl kr kr (loc_indexVs (e := 51) (sz := 6) (k := .i64) (els := (mM enc_Def p.Defs)) (cs := (enc_Def x2)) kr kr kr g2a (by rw [g2c]; exact map_get _ (by omega))) ?_
     refine d_runs 3 10 [(29, .bool (decide (x1.Name = x2.Name))), (28, .str x2.Name), (27, .vp (enc_Def x2) 0)] (pfp 3 12) kr kr ?_
     refine d_nil kr ?_
     refine nT ?_
     refine v_cond (decide (x1.Name = x2.Name)) kr (fun h3 => ?_) (fun h3 => ?_)
     ·replace hs := bif_t h3 hs
      refine vS (vT (oR 1 [(2, .bool true)] kr ?_))
      refine oN (nT (v_ret (rB (rT (ret_fuel ?_)))))
      refine rB (ret_join ?_)
      refine rT (rB (rT (ret_fuel ?_)))
      refine rB (ret_join ?_)
      refine rT ?_
      obtain rfl := si hs
      replace hs := hk2
      obtain rfl := si hs
      replace hs := hk1
      cases hs
      exact fin_ret kr kr kr
     ·replace hs := bif_f h3 hs
      refine vK (nB (nT (vT (oR 3 [(4, .int .i64 (w64 (q2 + 1))), (16, .int .i64 (w64 (q2 + 1))), (15, .int .i64 q2)] kr ?_))))
      refine oN (nrm_fuel (w64 (q2 + 1)) hs ?_)
      exact cut_of [1, 3, 4] [1] kr kr kr
    ·replace hs := bif_f h2 hs
     refine v_exit (exit_thenV (exit_fuel ?_))
     refine exit_blkV ?_
     cases hs
     refine nrm_join () rfl ?_
     exact cut_of [1, 3] [1] kr kr kr
   ·subst hz; clear hs; have hs := hk2; clear hk2
    refine nT (vS (v_draw mixedH kr ?_))
    obtain ⟨y1, c1, hs⟩ := bS hs
    refine d_loc (F := []) (R := []) (F' := [(3003000, .row 9 1 0 (mS lq0))]) (v := .sl 1 3003000 (lq0.length) 0 (lq0.length)) 0 [] [] rfl rfl rfl rfl kr kr kr kr kr kr kr kr (loc_g (R := []) [] [(1, 3003000)] (callV_func hbv64 kr) (w_gr16_Measures  _ c1) (.nil) kr kr kr kr kr kr kr kr) ?_
    refine d_runs 3 1 [(33, .int .i64 q1), (32, .vs 6 (mM enc_Def p.Defs)), (31, .ptr 1 0 0)] [⟨3, [], []⟩, ⟨2, [], [1]⟩, ⟨1, [], []⟩] kr kr ?_
    obtain ⟨x3, g3, hs⟩ := bS hs; obtain ⟨g3a, g3b, g3c⟩ := idx_some g3
    refine d_pure (v := .vp (enc_Def x3) 0) 4 rfl rfl rfl rfl kr kr (loc_indexVs (e := 51) (sz := 6) (k := .i64) (els := (mM enc_Def p.Defs)) (cs := (enc_Def x3)) kr kr kr g3a (by rw [g3c]; exact map_get _ (by omega))) ?_
    refine d_runs 2 5 [(36, .str x3.Name), (35, .vp (enc_Def x3) 0)] (pfp 2 6) kr kr ?_
    obtain ⟨y2, c2, hs⟩ := bS hs
    refine d_loc (F := []) (R := [(3003000, .row 9 1 0 (mS [ls0, ls1, ls2, ls3, ls4, ls5, ls6, ls7, ls8]))]) (F' := []) (v := .bool y2) 7 [] [3003000] rfl rfl rfl rfl kr kr kr kr kr kr kr kr (loc_gcallB (vs := [.sl 1 3003000 (([ls0, ls1, ls2, ls3, ls4, ls5, ls6, ls7, ls8]).length) 0 (([ls0, ls1, ls2, ls3, ls4, ls5, ls6, ls7, ls8]).length), .str x3.Name]) (R := [(3003000, .row 9 1 0 (mS [ls0, ls1, ls2, ls3, ls4, ls5, ls6, ls7, ls8]))]) (callV_func hbv63 kr) (w_gr16_Has [ls0, ls1, ls2, ls3, ls4, ls5, ls6, ls7, ls8] x3.Name _ c2) (.cons (.row (t := 9) (fz := 0) kr lh) (.cons (.same _) (.nil))) kr kr kr) ?_
    refine d_nil kr ?_
    refine nT ?_
    refine v_cond y2 kr (fun h4 => ?_) (fun h4 => ?_)
    ·replace hs := bif_t h4 hs
     refine vS (vT (oR 1 [(2, .bool true)] kr ?_))
     refine oN (nT (v_ret (rB (rT (ret_fuel ?_)))))
     refine rB (ret_join ?_)
     refine rT ?_
     obtain rfl := si hs
     replace hs := hk1
     cases hs
     exact fin_ret kr kr kr
    ·replace hs := bif_f h4 hs
     refine vK (nB (nT (vT (oR 3 [(3, .int .i64 (w64 (q1 + 1))), (11, .int .i64 (w64 (q1 + 1))), (10, .int .i64 q1)] kr ?_))))
     refine oN (nrm_fuel (w64 (q1 + 1)) hs ?_)
     exact cut_of [1, 3] [1] kr kr kr
  ·replace hs := bif_f h1 hs
   refine v_exit (exit_thenV (exit_fuel ?_))
   refine exit_blkV ?_
   cases hs
   refine nrm_join () rfl ?_
   exact cut_of [] [] kr kr kr
 ·subst hz; clear hs; have hs := hk1; clear hk1
  refine nT (vS (vT (oR 1 [(2, .bool false)] kr ?_)))
  refine oN (nT (v_ret ?_))
  cases hs
  exact fin_ret kr kr kr
theorem w_gr16_With (l : (List Sr)) (s : Sr) (r : (List Sr)) (hs : s_gr16_With l s = some r) : FnA Tryz.prog 72 [.vs 1 (mS l), .str s] [] (.vs 1 (mS r)) [] := by
 refine fnA_of_wp (N := 38) Tryz.func72 rfl rfl rfl fun cK0 => ?_
 unfold s_gr16_With at hs
 refine v_same (ρ' := [(0, .vs 1 (mS l)), (1, .str s)]) rfl rfl ?_
 refine vS (vT (oR 1 [(4, .nils)] kr ?_))
 refine oN (nT (vS (vS (vT (oR 2 [(8, .str s), (7, .vs 1 (mS l))] kr ?_)))))
 obtain ⟨y1, c1, hs⟩ := bS hs
 refine oP (v := .bool y1) kr kr (loc_gcall0 (callV_func hbv63 kr) (w_gr16_Has l s _ c1) kr) ?_
 refine oN (nT ?_)
 refine v_cond y1 kr (fun h1 => ?_) (fun h1 => ?_)
 ·replace hs := bif_t h1 hs
  refine vS (vT (oR 2 [(4, .vs 1 (mS l)), (10, .vs 1 (mS l))] kr ?_))
  refine oN (nT (v_ret (rT ?_)))
  cases hs
  exact fin_ret kr kr kr
 ·replace hs := bif_f h1 hs
  refine vK (nT (vS (vT (oR 1 [(5, .int .i64 0)] kr ?_))))
  refine oN (nT (vS ?_))
  obtain ⟨z1, hs, hk1⟩ := bS hs
  refine v_join (S := Int) (fun u => u = z1) (fun u => [(0, .vs 1 (mS l)), (1, .str s), (5, .int .i64 u)]) (fun u => []) ?_ (fun v1 hz => ?_)
  ·refine vB ?_
   refine v_fuel (S := Int) (fun u => [(0, .vs 1 (mS l)), (1, .str s), (5, .int .i64 u)]) (fun u => []) (s_gr16_With_L1 l s) (fun _ => rfl) KK 0 hs (cut_of [0, 1, 5] [] kr kr kr) (fun K1 q1 hs => ?_)
   rw [s_gr16_With_L1] at hs
   show WpV cK0 Tryz.prog none 38 _ _ [(0, .vs 1 (mS l)), (1, .str s), (5, .int .i64 q1)] [] []
   refine vS (vS ?_)
   obtain ⟨z2, hs, hk2⟩ := bS hs
   refine v_join (S := Bool) (fun u => u = z2) (fun u => [(0, .vs 1 (mS l)), (1, .str s), (5, .int .i64 q1), (22, .bool u)]) (fun u => []) ?_ (fun v2 hz => ?_)
   ·refine vT (oR 2 [(12, .vs 1 (mS l)), (11, .int .i64 q1)] kr ?_)
    refine oP (v := .int .i64 (List.length l : Int)) kr kr (loc_lenVs (sz := 1) (els := (mS l)) kr kr lM) ?_
    refine oR 2 [(15, .bool (decide (q1 < (List.length l : Int)))), (14, .bool (decide (q1 < (List.length l : Int))))] kr ?_
    cases h2 : ((decide (q1 < (List.length l : Int))))
    ·replace hs := bif_f h2 hs
     refine oR 7 [(22, .bool false), (21, .no), (20, .no), (19, .no), (18, .no), (17, .no), (16, .no)] kr ?_
     refine oN ?_
     cases hs
     refine nrm_join false rfl ?_
     exact cut_of [0, 1, 5, 22] [] kr kr kr
    ·replace hs := bif_t h2 hs
     refine oR 2 [(17, .int .i64 q1), (16, .vs 1 (mS l))] kr ?_
     obtain ⟨x1, g1, hs⟩ := bS hs; obtain ⟨g1a, g1b, g1c⟩ := idx_some g1
     refine oP (v := .vp [.str x1] 0) kr kr (loc_indexVs (e := 9) (sz := 1) (k := .i64) (els := (mS l)) (cs := (EV.encS x1)) kr kr kr g1a (by rw [g1c]; exact map_get _ (by omega))) ?_
     refine oR 4 [(22, .bool (Op.bytesLess x1 s)), (21, .bool (Op.bytesLess x1 s)), (20, .str s), (19, .str x1)] kr ?_
     refine oN ?_
     obtain rfl := si hs
     refine nrm_join (Op.bytesLess x1 s) rfl ?_
     exact cut_of [0, 1, 5, 22] [] kr kr kr
   ·subst hz; clear hs; have hs := hk2; clear hk2
    refine nT ?_
    refine v_cond v2 kr (fun h3 => ?_) (fun h3 => ?_)
    ·replace hs := bif_t h3 hs
     refine vK (nT (vB (vT (oR 3 [(5, .int .i64 (w64 (q1 + 1))), (24, .int .i64 (w64 (q1 + 1))), (23, .int .i64 q1)] kr ?_))))
     refine oN (nB (nrm_fuel (w64 (q1 + 1)) hs ?_))
     exact cut_of [0, 1, 5] [] kr kr kr
    ·replace hs := bif_f h3 hs
     refine v_exit (exit_thenV (exit_fuel ?_))
     refine exit_blkV ?_
     obtain rfl := si hs
     refine nrm_join q1 rfl ?_
     exact cut_of [0, 1, 5] [] kr kr kr
  ·subst hz; clear hs; have hs := hk1; clear hk1
   refine nT (vS (vT (oR 1 [(6, .nils)] kr ?_)))
   refine oN (nT (vS (v_to _ _ (cut_nilRow 6 2000006 9 1 rfl kr kr) ?_)))
   refine v_draw mixedH kr ?_
   refine d_runs 3 0 [(27, .int .i64 v1), (26, .vs 1 (mS l)), (25, .sl 1 2000006 0 0 0)] (pfp 3 2) kr kr ?_
   obtain ⟨x2, g2, hs⟩ := bS hs; obtain ⟨g2a, g2b, g2c, g2d⟩ := cut_some g2
   refine d_pure (v := .vs 1 (List.map EV.encS x2)) 3 rfl rfl rfl rfl kr kr (loc_sliceVsT (e := 9) (sz := 1) (l := 0) (h := v1) (els := (List.map EV.encS l)) kr kr rfl ⟨.i64, by kernel_rfl⟩ g2a g2b (by simpa only [List.length_map] using g2c) (by rw [g2d, List.map_drop, List.map_take])) ?_
   obtain ⟨_, g3, hs⟩ := bS hs; replace g3 := grd_some g3
   refine d_loc (F := [(2000006, .row 9 1 0 (mS []))]) (R := []) (F' := [(2000006, .row 9 1 0 (mS x2))]) (v := .sl 1 2000006 ((x2).length) 0 ((x2).length)) 4 [2000006] [] rfl rfl rfl rfl kr kr kr kr kr kr kr kr (loc_appendT (e := 9) (sz := 1) (bytes := 16) (L := 0) (els := (mS [])) (ys := (mS x2)) kr kr (by first | exact List.length_map .. | rfl) (by have := Src.vs (sz := 1) (R := []) (mS x2); exact this) (map_ones EV.encS (fun _ => rfl) _) (map_lens EV.encS (fun _ => rfl) _) kr (by first | exact (List.map_append ..).symm | rfl | simp only [List.map_nil, List.nil_append]) (List.length_map ..) g3 (by omega)) ?_
   refine d_runh 2 5 [(31, .sl 1 31 1 0 1), (30, .str s)] [(31, .row 9 1 0 (mS [s])), (2000006, .row 9 1 0 (mS x2))] [⟨6, [31], []⟩, ⟨5, [], []⟩] kr kr ?_
   obtain ⟨_, g4, hs⟩ := bS hs; replace g4 := grd_some g4
   refine d_loc (F := [(2000006, .row 9 1 0 (mS x2))]) (R := [(31, .row 9 1 0 (mS [s]))]) (F' := [(2000006, .row 9 1 0 (mS (x2 ++ [s])))]) (v := .sl 1 2000006 (((x2 ++ [s])).length) 0 (((x2 ++ [s])).length)) 7 [2000006] [31] rfl rfl rfl rfl kr kr kr kr kr kr kr kr (loc_appendT (e := 9) (sz := 1) (bytes := 16) (L := (x2).length) (els := (mS x2)) (ys := (mS [s])) kr kr (by first | exact List.length_map .. | rfl) (.sl (t := 9) (fz := 0) (ys := (mS [s])) kr kr) (map_ones EV.encS (fun _ => rfl) _) (map_lens EV.encS (fun _ => rfl) _) kr (by first | exact (List.map_append ..).symm | rfl | simp only [List.map_nil, List.nil_append]) (List.length_map ..) g4 (by omega)) ?_
   refine d_runs 2 8 [(34, .int .i64 v1), (33, .vs 1 (mS l))] (pfp 2 9) kr kr ?_
   obtain ⟨x3, g5, hs⟩ := bS hs; obtain ⟨g5a, g5b, g5c, g5d⟩ := cut_some g5
   refine d_pure (v := .vs 1 (List.map EV.encS x3)) 10 rfl rfl rfl rfl kr kr (loc_sliceVsT (e := 9) (sz := 1) (l := v1) (h := (List.length l : Int)) (els := (List.map EV.encS l)) kr kr ⟨.i64, by kernel_rfl⟩ (by simp only [bndV, List.length_map]) g5a g5b (by simpa only [List.length_map] using g5c) (by rw [g5d, List.map_drop, List.map_take])) ?_
   obtain ⟨_, g6, hs⟩ := bS hs; replace g6 := grd_some g6
   refine d_loc (F := [(2000006, .row 9 1 0 (mS (x2 ++ [s])))]) (R := []) (F' := [(2000006, .row 9 1 0 (mS ((x2 ++ [s]) ++ x3)))]) (v := .sl 1 2000006 ((((x2 ++ [s]) ++ x3)).length) 0 ((((x2 ++ [s]) ++ x3)).length)) 11 [2000006] [] rfl rfl rfl rfl kr kr kr kr kr kr kr kr (loc_appendT (e := 9) (sz := 1) (bytes := 16) (L := ((x2 ++ [s])).length) (els := (mS (x2 ++ [s]))) (ys := (mS x3)) kr kr (by first | exact List.length_map .. | rfl) (by have := Src.vs (sz := 1) (R := []) (mS x3); exact this) (map_ones EV.encS (fun _ => rfl) _) (map_lens EV.encS (fun _ => rfl) _) kr (by first | exact (List.map_append ..).symm | rfl | simp only [List.map_nil, List.nil_append]) (List.length_map ..) g6 (by omega)) ?_
   refine d_runs 1 12 [(6, .sl 1 2000006 ((((x2 ++ [s]) ++ x3)).length) 0 ((((x2 ++ [s]) ++ x3)).length))] (pfp 1 12) kr kr ?_
   refine d_nil kr ?_
   refine nT (vS (vT (oR 2 [(4, .sl 1 2000006 ((((x2 ++ [s]) ++ x3)).length) 0 ((((x2 ++ [s]) ++ x3)).length)), (37, .sl 1 2000006 ((((x2 ++ [s]) ++ x3)).length) 0 ((((x2 ++ [s]) ++ x3)).length))] kr ?_)))
   refine oN (nT (v_to _ [(2000006, .row 9 1 (((mS ((x2 ++ [s]) ++ x3))).length) (mS ((x2 ++ [s]) ++ x3))), (31, .row 9 1 0 (mS [s]))] (cut_freeze (F := [(2000006, .row 9 1 0 (mS ((x2 ++ [s]) ++ x3)))]) [2000006] rfl kr kr) ?_))
   refine v_to ((4, .vs 1 (mS ((x2 ++ [s]) ++ x3))) :: _) _ (cut_view (R := [(2000006, .row 9 1 (((mS ((x2 ++ [s]) ++ x3))).length) (mS ((x2 ++ [s]) ++ x3)))]) (ks := [2000006]) kr kr (.row (t := 9) (fz := (((mS ((x2 ++ [s]) ++ x3))).length)) kr lh)) ?_
   refine v_ret ?_
   cases hs
   exact fin_ret kr kr kr
theorem ws_gr16_Names (nF : Nat) (ih_gr16_Names : ∀ (e : Expr) (r : (List Sr)), s_gr16_Names nF e = some r → FnA Tryz.prog 65 [.agg (enc_Expr e)] [] (.vs 1 (mS r)) []) (e : Expr) (r : (List Sr)) (hs : s_gr16_Names (nF + 1) e = some r) : FnA Tryz.prog 65 [.agg (enc_Expr e)] [] (.vs 1 (mS r)) [] := by
 refine fnA_of_wp (N := 40) Tryz.func65 rfl rfl rfl fun cK0 => ?_
 rw [s_gr16_Names] at hs
 refine v_same (ρ' := [(0, .agg (enc_Expr e))]) rfl rfl ?_
 refine vS (vT (o_runh 2 [(2, .nils), (1, .ptr 1 0 0)] [(1, .box 35 (enc_Expr e))] kr ?_))
 refine oN (nT (vS (vT (oR 1 [(3, .nils)] kr ?_))))
 refine oN (nT (vS (vS (vT (oR 3 [(9, .bool (decide (e.Op = 1))), (8, .int .i64 e.Op), (7, .ptr 1 0 0)] kr ?_)))))
 refine oN (nT ?_)
 obtain ⟨z1, hs, hk1⟩ := bS hs
 refine v_join (S := (List Sr)) (fun u => u = z1) (fun u => [(1, .ptr 1 0 0), (3, .vs 1 (mS u))]) (fun u => [(1, .box 35 (enc_Expr e))]) ?_ (fun v1 hz => ?_)
 ·refine v_cond (decide (e.Op = 1)) kr (fun h1 => ?_) (fun h1 => ?_)
  ·replace hs := bif_t h1 hs
   refine vT (oR 3 [(12, .str e.S), (11, .ptr 1 0 2), (10, .nils)] kr ?_)
   obtain ⟨y1, c1, hs⟩ := bS hs
   refine o_loc (F := []) (F' := []) (v := .vs 1 (mS y1)) [] kr kr rfl kr (loc_g (R := []) [.nils, .str e.S] [] (callV_func hbv72 kr) (w_gr16_With [] e.S _ c1) (.cons (.nils _) (.cons (.same _) (.nil))) kr kr kr kr kr kr kr kr) kr ?_
   refine oR 1 [(3, .vs 1 (mS y1))] kr ?_
   refine oN ?_
   obtain rfl := si hs
   refine nrm_join y1 rfl ?_
   exact cut_of [1, 3] [1] kr kr kr
  ·replace hs := bif_f h1 hs
   refine vK ?_
   obtain rfl := si hs
   refine nrm_join [] rfl ?_
   exact Cut.trans (cut_view (t := 3) (v := .vs 1 []) [] [] rfl rfl (.nils 1)) (cut_of [1, 3] [1] kr kr kr)
 ·subst hz; clear hs; have hs := hk1; clear hk1
  refine nT (vS (vS (vT (oR 1 [(4, .int .i64 0)] kr ?_))))
  refine oN (nT ?_)
  obtain ⟨z2, hs, hk2⟩ := bS hs
  refine v_join (S := (List Sr)) (fun u => u = z2) (fun u => [(3, .vs 1 (mS u))]) (fun u => []) ?_ (fun v2 hz => ?_)
  ·refine vB ?_
   refine v_fuel (S := (List Sr) × Int) (fun u => [(1, .ptr 1 0 0), (3, .vs 1 (mS u.1)), (4, .int .i64 u.2)]) (fun u => [(1, .box 35 (enc_Expr e))]) (s_gr16_Names_L1 (s_gr16_Names nF) e) (fun _ => rfl) KK (v1, 0) hs (cut_of [1, 3, 4] [1] kr kr kr) (fun K1 q1 hs => ?_)
   rw [s_gr16_Names_L1] at hs
   show WpV cK0 Tryz.prog none 40 _ _ [(1, .ptr 1 0 0), (3, .vs 1 (mS q1.1)), (4, .int .i64 q1.2)] [(1, .box 35 (enc_Expr e))] []
   refine vS (vS (vT (oR 3 [(16, .vs 5 (encs_Expr e.Args)), (15, .ptr 1 0 4), (14, .int .i64 q1.2)] kr ?_)))
   refine oP (v := .int .i64 (List.length e.Args : Int)) kr kr (loc_lenVs (sz := 5) (els := (encs_Expr e.Args)) kr kr (by rw [encs_Expr_eq, List.length_map])) ?_
   refine oR 1 [(18, .bool (decide (q1.2 < (List.length e.Args : Int))))] kr ?_
   refine oN (nT ?_)
   refine v_cond (decide (q1.2 < (List.length e.Args : Int))) kr (fun h2 => ?_) (fun h2 => ?_)
   ·replace hs := bif_t h2 hs
    refine vK (nT (vS (vB (vS (vT (oR 3 [(23, .int .i64 q1.2), (22, .vs 5 (encs_Expr e.Args)), (21, .ptr 1 0 4)] kr ?_))))))
    obtain ⟨x1, g1, hs⟩ := bS hs; obtain ⟨g1a, g1b, g1c⟩ := idx_some g1
    refine oP (v := .vp (enc_Expr x1) 0) kr kr (loc_indexVs (e := 35) (sz := 5) (k := .i64) (els := (encs_Expr e.Args)) (cs := (enc_Expr x1)) kr kr kr g1a (by rw [g1c, encs_Expr_eq]; exact map_get _ (by omega))) ?_
    refine oR 1 [(25, .agg (enc_Expr x1))] kr ?_
    obtain ⟨y2, c2, hs⟩ := bS hs
    refine oP (v := .vs 1 (mS y2)) kr kr (loc_gcall0 (callV_func hbv65 kr) (ih_gr16_Names x1 _ c2) kr) ?_
    refine oR 1 [(5, .vs 1 (mS y2))] kr ?_
    refine oN (nT (vS (vT (oR 1 [(6, .int .i64 0)] kr ?_))))
    refine oN (nT ?_)
    obtain ⟨z3, hs, hk3⟩ := bS hs
    refine v_join (S := (List Sr)) (fun u => u = z3) (fun u => [(1, .ptr 1 0 0), (3, .vs 1 (mS u)), (4, .int .i64 q1.2)]) (fun u => [(1, .box 35 (enc_Expr e))]) ?_ (fun v3 hz => ?_)
    ·refine vB ?_
     refine v_fuel (S := (List Sr) × Int) (fun u => [(1, .ptr 1 0 0), (3, .vs 1 (mS u.1)), (4, .int .i64 q1.2), (5, .vs 1 (mS y2)), (6, .int .i64 u.2)]) (fun u => [(1, .box 35 (enc_Expr e))]) (s_gr16_Names_L2 y2) (fun _ => rfl) KK (q1.1, 0) hs (cut_of [1, 3, 4, 5, 6] [1] kr kr kr) (fun K2 q2 hs => ?_)
     rw [s_gr16_Names_L2] at hs
     show WpV cK0 Tryz.prog none 40 _ _ [(1, .ptr 1 0 0), (3, .vs 1 (mS q2.1)), (4, .int .i64 q1.2), (5, .vs 1 (mS y2)), (6, .int .i64 q2.2)] [(1, .box 35 (enc_Expr e))] []
     refine vS (vS (vT (oR 2 [(28, .vs 1 (mS y2)), (27, .int .i64 q2.2)] kr ?_)))
     refine oP (v := .int .i64 (List.length y2 : Int)) kr kr (loc_lenVs (sz := 1) (els := (mS y2)) kr kr lM) ?_
     refine oR 1 [(30, .bool (decide (q2.2 < (List.length y2 : Int))))] kr ?_
     refine oN (nT ?_)
     refine v_cond (decide (q2.2 < (List.length y2 : Int))) kr (fun h3 => ?_) (fun h3 => ?_)
     ·replace hs := bif_t h3 hs
      refine vK (nT (vS (vB (vT (oR 3 [(35, .int .i64 q2.2), (34, .vs 1 (mS y2)), (33, .vs 1 (mS q2.1))] kr ?_)))))
      obtain ⟨x2, g2, hs⟩ := bS hs; obtain ⟨g2a, g2b, g2c⟩ := idx_some g2
      refine oP (v := .vp [.str x2] 0) kr kr (loc_indexVs (e := 9) (sz := 1) (k := .i64) (els := (mS y2)) (cs := (EV.encS x2)) kr kr kr g2a (by rw [g2c]; exact map_get _ (by omega))) ?_
      refine oR 1 [(37, .str x2)] kr ?_
      obtain ⟨y3, c3, hs⟩ := bS hs
      refine oP (v := .vs 1 (mS y3)) kr kr (loc_gcall0 (callV_func hbv72 kr) (w_gr16_With q2.1 x2 _ c3) kr) ?_
      refine oR 1 [(3, .vs 1 (mS y3))] kr ?_
      refine oN (nB (nT (vT (oR 3 [(6, .int .i64 (w64 (q2.2 + 1))), (32, .int .i64 (w64 (q2.2 + 1))), (31, .int .i64 q2.2)] kr ?_))))
      refine oN (nrm_fuel (y3, (w64 (q2.2 + 1))) hs ?_)
      exact cut_of [1, 3, 4, 5, 6] [1] kr kr kr
     ·replace hs := bif_f h3 hs
      refine v_exit (exit_thenV (exit_fuel ?_))
      refine exit_blkV ?_
      obtain rfl := si hs
      refine nrm_join q2.1 rfl ?_
      exact cut_of [1, 3, 4] [1] kr kr kr
    ·subst hz; clear hs; have hs := hk3; clear hk3
     refine nB (nT (vT (oR 3 [(4, .int .i64 (w64 (q1.2 + 1))), (20, .int .i64 (w64 (q1.2 + 1))), (19, .int .i64 q1.2)] kr ?_)))
     refine oN (nrm_fuel (v3, (w64 (q1.2 + 1))) hs ?_)
     exact cut_of [1, 3, 4] [1] kr kr kr
   ·replace hs := bif_f h2 hs
    refine v_exit (exit_thenV (exit_fuel ?_))
    refine exit_blkV ?_
    obtain rfl := si hs
    refine nrm_join q1.1 rfl ?_
    exact cut_of [3] [] kr kr kr
  ·subst hz; clear hs; have hs := hk2; clear hk2
   refine nT (vS (vT (oR 2 [(2, .vs 1 (mS v2)), (39, .vs 1 (mS v2))] kr ?_)))
   refine oN (nT (v_ret ?_))
   cases hs
   exact fin_ret kr kr kr
theorem wr_gr16_Names : ∀ nF : Nat, (∀ (e : Expr) (r : (List Sr)), s_gr16_Names nF e = some r → FnA Tryz.prog 65 [.agg (enc_Expr e)] [] (.vs 1 (mS r)) [])
 | 0 => fun e r hs => (by rw [s_gr16_Names] at hs; cases hs)
 | nF + 1 => fun e r hs => ws_gr16_Names nF (wr_gr16_Names nF) e r hs
theorem w_gr16_Names (nF : Nat) (e : Expr) (r : (List Sr)) (hs : s_gr16_Names nF e = some r) : FnA Tryz.prog 65 [.agg (enc_Expr e)] [] (.vs 1 (mS r)) [] := (wr_gr16_Names nF) e r hs
theorem w_gr16_uses (p : Plan) (r : (List (List Bool))) (hs : s_gr16_uses p = some r) : FnA Tryz.prog 51 [.agg (enc_Plan p)] [] (.vs 1 (List.map (encL 1 EV.encB) r)) [] := by
 refine fnA_of_wp (N := 49) Tryz.func51 rfl rfl rfl fun cK0 => ?_
 unfold s_gr16_uses at hs
 refine v_same (ρ' := [(0, .agg (enc_Plan p))]) rfl rfl ?_
 refine vS (vT (o_runh 2 [(2, .nils), (1, .ptr 1 0 0)] [(1, .box 30 (enc_Plan p))] kr ?_))
 refine oN (nT (vS (vT (oR 1 [(3, .nils)] kr ?_))))
 refine oN (nT (vS (vS (vT (oR 1 [(4, .int .i64 0)] kr ?_)))))
 refine oN (nT ?_)
 obtain ⟨z1, hs, hk1⟩ := bS hs
 refine v_join (S := (List (List Bool))) (fun u => u = z1) (fun u => [(3, .sl 1 2000044 ((u).length) 0 ((u).length))]) (fun u => [(2000044, .row 93 1 0 (mLB u))]) ?_ (fun v1 hz => ?_)
 ·refine vB ?_
  refine v_fuel (S := Int × (List (List Bool))) (fun u => [(1, .ptr 1 0 0), (3, .sl 1 2000044 ((u.2).length) 0 ((u.2).length)), (4, .int .i64 u.1)]) (fun u => [(1, .box 30 (enc_Plan p)), (2000044, .row 93 1 0 (mLB u.2))]) (s_gr16_uses_L1 p) (fun _ => rfl) KK (0, []) hs (Cut.trans (cut_nilRow 3 2000044 93 1 rfl kr kr) (cut_of [1, 3, 4] [1, 2000044] kr kr kr)) (fun K1 q1 hs => ?_)
  rw [s_gr16_uses_L1] at hs
  show WpV cK0 Tryz.prog none 49 _ _ [(1, .ptr 1 0 0), (3, .sl 1 2000044 ((q1.2).length) 0 ((q1.2).length)), (4, .int .i64 q1.1)] [(1, .box 30 (enc_Plan p)), (2000044, .row 93 1 0 (mLB q1.2))] []
  refine vS (vS (vT (oR 3 [(10, .vs 6 (mM enc_Def p.Defs)), (9, .ptr 1 0 0), (8, .int .i64 q1.1)] kr ?_)))
  refine oP (v := .int .i64 (List.length p.Defs : Int)) kr kr (loc_lenVs (sz := 6) (els := (mM enc_Def p.Defs)) kr kr lM) ?_
  refine oR 1 [(12, .bool (decide (q1.1 < (List.length p.Defs : Int))))] kr ?_
  refine oN (nT ?_)
  refine v_cond (decide (q1.1 < (List.length p.Defs : Int))) kr (fun h1 => ?_) (fun h1 => ?_)
  ·replace hs := bif_t h1 hs
   refine vK (nT (vS (vB (vS (vT (oR 3 [(17, .int .i64 q1.1), (16, .vs 6 (mM enc_Def p.Defs)), (15, .ptr 1 0 0)] kr ?_))))))
   obtain ⟨x1, g1, hs⟩ := bS hs; obtain ⟨g1a, g1b, g1c⟩ := idx_some g1
   refine oP (v := .vp (enc_Def x1) 0) kr kr (loc_indexVs (e := 51) (sz := 6) (k := .i64) (els := (mM enc_Def p.Defs)) (cs := (enc_Def x1)) kr kr kr g1a (by rw [g1c]; exact map_get _ (by omega))) ?_
   refine oR 2 [(20, .agg (enc_Expr x1.Body)), (19, .vp (enc_Def x1) 1)] kr ?_
   obtain ⟨y1, c1, hs⟩ := bS hs
   refine oP (v := .vs 1 (mS y1)) kr kr (loc_gcall0 (callV_func hbv65 kr) (w_gr16_Names KK x1.Body _ c1) kr) ?_
   refine oR 1 [(5, .vs 1 (mS y1))] kr ?_
   refine oN (nT (vS (vT (oR 2 [(23, .vs 6 (mM enc_Def p.Defs)), (22, .ptr 1 0 0)] kr ?_))))
   refine oP (v := .int .i64 (List.length p.Defs : Int)) kr kr (loc_lenVs (sz := 6) (els := (mM enc_Def p.Defs)) kr kr lM) ?_
   obtain ⟨⟨g2a, g2b, g2c⟩, hs⟩ := bG hs
   refine o_loc (F := []) (F' := [(25, .row 4 1 0 (mB (uR p.Defs (false : Bool))))]) (v := .sl 1 25 (((uR p.Defs (false : Bool))).length) 0 (((uR p.Defs (false : Bool))).length)) [] kr kr rfl kr (loc_makeSliceT (L := ((uR p.Defs (false : Bool))).length) (e := 4) (sz := 1) (bytes := 1) (q := (List.length p.Defs : Int)) (k := .i64) (k2 := .i64) (cs := [.bool false]) (cs2 := [.bool false]) kr kr kr kr kr g2a g2b g2c (List.map_replicate (f := EV.encB)).symm (List.length_replicate ..) (fun _ _ h => h)) kr ?_
   refine oR 1 [(6, .sl 1 25 (((uR p.Defs (false : Bool))).length) 0 (((uR p.Defs (false : Bool))).length))] kr ?_
   refine oN (nT (vS (vS (vT (oR 1 [(7, .int .i64 0)] kr ?_)))))
   refine oN (nT ?_)
   obtain ⟨z2, hs, hk2⟩ := bS hs
   refine v_join (S := (List Bool)) (fun u => u = z2) (fun u => [(1, .ptr 1 0 0), (3, .sl 1 2000044 ((q1.2).length) 0 ((q1.2).length)), (4, .int .i64 q1.1), (6, .sl 1 25 ((u).length) 0 ((u).length))]) (fun u => [(25, .row 4 1 0 (mB u)), (1, .box 30 (enc_Plan p)), (2000044, .row 93 1 0 (mLB q1.2))]) ?_ (fun v2 hz => ?_)
   ·refine vB ?_
    refine v_fuel (S := Int × (List Bool)) (fun u => [(1, .ptr 1 0 0), (3, .sl 1 2000044 ((q1.2).length) 0 ((q1.2).length)), (4, .int .i64 q1.1), (5, .vs 1 (mS y1)), (6, .sl 1 25 ((u.2).length) 0 ((u.2).length)), (7, .int .i64 u.1)]) (fun u => [(25, .row 4 1 0 (mB u.2)), (1, .box 30 (enc_Plan p)), (2000044, .row 93 1 0 (mLB q1.2))]) (s_gr16_uses_L2 p y1) (fun _ => rfl) KK (0, (uR p.Defs (false : Bool))) hs (cut_of [1, 3, 4, 5, 6, 7] [25, 1, 2000044] kr kr kr) (fun K2 q2 hs => ?_)
    rw [s_gr16_uses_L2] at hs
    show WpV cK0 Tryz.prog none 49 _ _ [(1, .ptr 1 0 0), (3, .sl 1 2000044 ((q1.2).length) 0 ((q1.2).length)), (4, .int .i64 q1.1), (5, .vs 1 (mS y1)), (6, .sl 1 25 ((q2.2).length) 0 ((q2.2).length)), (7, .int .i64 q2.1)] [(25, .row 4 1 0 (mB q2.2)), (1, .box 30 (enc_Plan p)), (2000044, .row 93 1 0 (mLB q1.2))] []
    refine vS (vS (vT (oR 3 [(28, .vs 6 (mM enc_Def p.Defs)), (27, .ptr 1 0 0), (26, .int .i64 q2.1)] kr ?_)))
    refine oP (v := .int .i64 (List.length p.Defs : Int)) kr kr (loc_lenVs (sz := 6) (els := (mM enc_Def p.Defs)) kr kr lM) ?_
    refine oR 1 [(30, .bool (decide (q2.1 < (List.length p.Defs : Int))))] kr ?_
    refine oN (nT ?_)
    refine v_cond (decide (q2.1 < (List.length p.Defs : Int))) kr (fun h2 => ?_) (fun h2 => ?_)
    ·replace hs := bif_t h2 hs
     refine vK (nT (vS (vB (vT (oR 6 [(38, .int .i64 q2.1), (37, .vs 6 (mM enc_Def p.Defs)), (36, .ptr 1 0 0), (35, .vs 1 (mS y1)), (34, .int .i64 q2.1), (33, .sl 1 25 ((q2.2).length) 0 ((q2.2).length))] kr ?_)))))
     obtain ⟨x2, g3, hs⟩ := bS hs; obtain ⟨g3a, g3b, g3c⟩ := idx_some g3
     refine oP (v := .vp (enc_Def x2) 0) kr kr (loc_indexVs (e := 51) (sz := 6) (k := .i64) (els := (mM enc_Def p.Defs)) (cs := (enc_Def x2)) kr kr kr g3a (by rw [g3c]; exact map_get _ (by omega))) ?_
     refine oR 2 [(41, .str x2.Name), (40, .vp (enc_Def x2) 0)] kr ?_
     obtain ⟨y2, c2, hs⟩ := bS hs
     refine oP (v := .bool y2) kr kr (loc_gcall0 (callV_func hbv63 kr) (w_gr16_Has y1 x2.Name _ c2) kr) ?_
     obtain ⟨⟨g4a, g4b⟩, hs⟩ := bG hs
     refine oP (v := .ptr 25 ((q2.2).length) ((Int.toNat q2.1) * 1 + 0)) kr kr (loc_indexRowT (e := 4) (sz := 1) (kk := 25) (L := (q2.2).length) (n := (q2.2).length) (k := .i64) (i := q2.1) kr kr kr g4a g4b) ?_
     obtain ⟨e1, he1, hs⟩ := bE hs
     refine o_loc (F := [(25, .row 4 1 0 (mB q2.2))]) (F' := [(25, .row 4 1 0 (mB (List.set q2.2 (Int.toNat q2.1) y2)))]) (v := .no) [25] kr kr rfl kr (loc_storeRowT (L := (q2.2).length) (off := (Int.toNat q2.1) * 1 + 0) (els := (mB q2.2)) (cs := [.bool e1]) (c' := [.bool y2]) (Int.toNat q2.1) 0 kr lh rfl (by rw [← he1]; exact map_get _ (by first | omega | (simp only [List.length_set, cpyT_length]; omega))) (by first | exact Nat.zero_le _ | omega) kr kr kr kr kr kr List.map_set.symm) kr ?_
     refine oN (nB (nT (vT (oR 3 [(7, .int .i64 (w64 (q2.1 + 1))), (32, .int .i64 (w64 (q2.1 + 1))), (31, .int .i64 q2.1)] kr ?_))))
     refine oN (nrm_fuel ((w64 (q2.1 + 1)), (List.set q2.2 (Int.toNat q2.1) y2)) hs ?_)
     exact Cut.trans (cut_eq 6 (v := .sl 1 25 ((q2.2).length) 0 ((q2.2).length)) (v' := .sl 1 25 (((List.set q2.2 (Int.toNat q2.1) y2)).length) 0 (((List.set q2.2 (Int.toNat q2.1) y2)).length)) kr (by first | rfl | simp only [List.length_set, cpyT_length])) (cut_of [1, 3, 4, 5, 6, 7] [25, 1, 2000044] kr kr kr)
    ·replace hs := bif_f h2 hs
     refine v_exit (exit_thenV (exit_fuel ?_))
     refine exit_blkV ?_
     obtain rfl := si hs
     refine nrm_join q2.2 rfl ?_
     exact cut_of [1, 3, 4, 6] [25, 1, 2000044] kr kr kr
   ·subst hz; clear hs; have hs := hk2; clear hk2
    refine nT (vT (oR 2 [(45, .sl 1 25 ((v2).length) 0 ((v2).length)), (44, .sl 1 2000044 ((q1.2).length) 0 ((q1.2).length))] kr ?_))
    refine o_to _ [(25, .row 4 1 (((mB v2)).length) (mB v2)), (1, .box 30 (enc_Plan p)), (2000044, .row 93 1 0 (mLB q1.2))] (cut_freeze (F := [(25, .row 4 1 0 (mB v2))]) [25] rfl kr kr) ?_
    refine o_to ((45, .vs 1 (mB v2)) :: _) _ (cut_view (R := [(25, .row 4 1 (((mB v2)).length) (mB v2))]) (ks := [25]) kr kr (.row (t := 4) (fz := (((mB v2)).length)) kr lh)) ?_
    refine o_runh 1 [(46, .sl 1 46 1 0 1)] [(46, .row 93 1 0 (mLB [v2])), (25, .row 4 1 (((mB v2)).length) (mB v2)), (1, .box 30 (enc_Plan p)), (2000044, .row 93 1 0 (mLB q1.2))] kr ?_
    obtain ⟨_, g5, hs⟩ := bS hs; replace g5 := grd_some g5
    refine o_loc (F := [(2000044, .row 93 1 0 (List.map (encL 1 EV.encB) q1.2)), (46, .row 93 1 0 (List.map (encL 1 EV.encB) [v2]))]) (F' := [(2000044, .row 93 1 0 (List.map (encL 1 EV.encB) (q1.2 ++ [v2]))), (46, .row 93 1 0 (List.map (encL 1 EV.encB) [v2]))]) (v := .sl 1 2000044 (((q1.2 ++ [v2])).length) 0 (((q1.2 ++ [v2])).length)) [2000044, 46] kr kr rfl kr (loc_appendT (e := 93) (sz := 1) (bytes := 24) (L := (q1.2).length) (els := (List.map (encL 1 EV.encB) q1.2)) (ys := (List.map (encL 1 EV.encB) [v2])) kr kr (by first | exact List.length_map .. | rfl) (.sl (t := 93) (fz := 0) (ys := (List.map (encL 1 EV.encB) [v2])) kr kr) (map_ones (encL 1 EV.encB) (fun _ => rfl) _) (map_lens (encL 1 EV.encB) (fun _ => rfl) _) kr (by first | exact (List.map_append ..).symm | rfl | simp only [List.map_nil, List.nil_append]) (List.length_map ..) g5 (by omega)) kr ?_
    refine oR 1 [(3, .sl 1 2000044 (((q1.2 ++ [v2])).length) 0 (((q1.2 ++ [v2])).length))] kr ?_
    refine oN (nB (nT (vT (oR 3 [(4, .int .i64 (w64 (q1.1 + 1))), (14, .int .i64 (w64 (q1.1 + 1))), (13, .int .i64 q1.1)] kr ?_))))
    refine oN (nrm_fuel ((w64 (q1.1 + 1)), (q1.2 ++ [v2])) hs ?_)
    exact cut_of [1, 3, 4] [1, 2000044] kr kr kr
  ·replace hs := bif_f h1 hs
   refine v_exit (exit_thenV (exit_fuel ?_))
   refine exit_blkV ?_
   obtain rfl := si hs
   refine nrm_join q1.2 rfl ?_
   exact cut_of [3] [2000044] kr kr kr
 ·subst hz; clear hs; have hs := hk1; clear hk1
  refine nT (vS (vT (oR 2 [(2, .sl 1 2000044 ((v1).length) 0 ((v1).length)), (48, .sl 1 2000044 ((v1).length) 0 ((v1).length))] kr ?_)))
  refine oN (nT (v_to _ [(2000044, .row 93 1 (((mLB v1)).length) (mLB v1))] (cut_freeze (F := [(2000044, .row 93 1 0 (mLB v1))]) [2000044] rfl kr kr) ?_))
  refine v_to ((2, .vs 1 (mLB v1)) :: _) _ (cut_view (R := [(2000044, .row 93 1 (((mLB v1)).length) (mLB v1))]) (ks := [2000044]) kr kr (.row (t := 93) (fz := (((mLB v1)).length)) kr lh)) ?_
  refine v_ret ?_
  cases hs
  exact fin_ret kr kr kr
theorem w_gr16_back (use : (List (List Bool))) (to : Int) (most : Int) (r : (List (List Bool))) (hs : s_gr16_back use to most = some r) : FnA Tryz.prog 66 [.vs 1 (List.map (encL 1 EV.encB) use), .int .i64 to, .int .i64 most] [] (.vs 1 (List.map (encL 1 EV.encB) r)) [] := by
 refine fnA_of_wp (N := 72) Tryz.func66 rfl rfl rfl fun cK0 => ?_
 unfold s_gr16_back at hs
 refine v_same (ρ' := [(0, .vs 1 (mLB use)), (1, .int .i64 to), (2, .int .i64 most)]) rfl rfl ?_
 refine vS (vT (oR 1 [(6, .nils)] kr ?_))
 refine oN (nT (vS (vT (oR 1 [(13, .vs 1 (mLB use))] kr ?_))))
 refine oP (v := .int .i64 (List.length use : Int)) kr kr (loc_lenVs (sz := 1) (els := (mLB use)) kr kr lM) ?_
 obtain ⟨⟨g1a, g1b, g1c⟩, hs⟩ := bG hs
 refine o_loc (F := []) (F' := [(15, .row 4 1 0 (mB (uR use (false : Bool))))]) (v := .sl 1 15 (((uR use (false : Bool))).length) 0 (((uR use (false : Bool))).length)) [] kr kr rfl kr (loc_makeSliceT (L := ((uR use (false : Bool))).length) (e := 4) (sz := 1) (bytes := 1) (q := (List.length use : Int)) (k := .i64) (k2 := .i64) (cs := [.bool false]) (cs2 := [.bool false]) kr kr kr kr kr g1a g1b g1c (List.map_replicate (f := EV.encB)).symm (List.length_replicate ..) (fun _ _ h => h)) kr ?_
 refine oR 1 [(7, .sl 1 15 (((uR use (false : Bool))).length) 0 (((uR use (false : Bool))).length))] kr ?_
 refine oN (nT (vS (vT (oR 2 [(17, .int .i64 to), (16, .sl 1 15 (((uR use (false : Bool))).length) 0 (((uR use (false : Bool))).length))] kr ?_))))
 obtain ⟨⟨g2a, g2b⟩, hs⟩ := bG hs
 refine oP (v := .ptr 15 (((uR use (false : Bool))).length) ((Int.toNat to) * 1 + 0)) kr kr (loc_indexRowT (e := 4) (sz := 1) (kk := 15) (L := ((uR use (false : Bool))).length) (n := ((uR use (false : Bool))).length) (k := .i64) (i := to) kr kr kr g2a g2b) ?_
 obtain ⟨e1, he1, hs⟩ := bE hs
 refine o_loc (F := [(15, .row 4 1 0 (mB (List.replicate (Int.toNat (List.length use : Int)) (false : Bool))))]) (F' := [(15, .row 4 1 0 (mB (List.set (List.replicate (Int.toNat (List.length use : Int)) (false : Bool)) (Int.toNat to) true)))]) (v := .no) [15] kr kr rfl kr (loc_storeRowT (L := ((List.replicate (Int.toNat (List.length use : Int)) (false : Bool))).length) (off := (Int.toNat to) * 1 + 0) (els := (mB (List.replicate (Int.toNat (List.length use : Int)) (false : Bool)))) (cs := [.bool e1]) (c' := [.bool true]) (Int.toNat to) 0 kr lh rfl (by rw [← he1]; exact map_get _ (by first | omega | (simp only [List.length_set, cpyT_length]; omega))) (by first | exact Nat.zero_le _ | omega) kr kr kr kr kr kr List.map_set.symm) kr ?_
 refine oN (nT (vS (vT (oR 1 [(19, .sl 1 15 (((uR use (false : Bool))).length) 0 (((uR use (false : Bool))).length))] kr ?_))))
 refine o_to _ [(15, .row 4 1 (((mB (List.set (uR use (false : Bool)) (Int.toNat to) true))).length) (mB (List.set (uR use (false : Bool)) (Int.toNat to) true)))] (cut_freeze (F := [(15, .row 4 1 0 (mB (List.set (uR use (false : Bool)) (Int.toNat to) true)))]) [15] rfl kr kr) ?_
 refine o_to ((19, .vs 1 (mB (List.set (uR use (false : Bool)) (Int.toNat to) true))) :: _) _ (cut_view (R := [(15, .row 4 1 (((mB (List.set (uR use (false : Bool)) (Int.toNat to) true))).length) (mB (List.set (uR use (false : Bool)) (Int.toNat to) true)))]) (ks := [15]) kr kr (.row (t := 4) (fz := (((mB (List.set (uR use (false : Bool)) (Int.toNat to) true))).length)) kr lh)) ?_
 refine o_runh 2 [(8, .sl 1 20 1 0 1), (20, .sl 1 20 1 0 1)] [(20, .row 93 1 0 (mLB [(List.set (uR use (false : Bool)) (Int.toNat to) true)])), (15, .row 4 1 (((mB (List.set (uR use (false : Bool)) (Int.toNat to) true))).length) (mB (List.set (uR use (false : Bool)) (Int.toNat to) true)))] kr ?_
 refine oN (nT (vS (vS (vT (oR 1 [(9, .int .i64 1)] kr ?_)))))
 refine oN (nT ?_)
 obtain ⟨z1, hs, hk1⟩ := bS hs
 refine v_join (S := (List (List Bool))) (fun u => u = z1) (fun u => [(8, .sl 1 20 ((u).length) 0 ((u).length))]) (fun u => [(20, .row 93 1 0 (mLB u))]) ?_ (fun v1 hz => ?_)
 ·refine vB ?_
  refine v_fuel (S := Int × (List (List Bool))) (fun u => [(0, .vs 1 (mLB use)), (2, .int .i64 most), (8, .sl 1 20 ((u.2).length) 0 ((u.2).length)), (9, .int .i64 u.1)]) (fun u => [(20, .row 93 1 0 (mLB u.2))]) (s_gr16_back_L1 use most) (fun _ => rfl) KK (1, [(List.set (uR use (false : Bool)) (Int.toNat to) true)]) hs (Cut.trans (cut_eq 8 (v := .sl 1 20 1 0 1) (v' := .sl 1 20 (([(List.set (uR use (false : Bool)) (Int.toNat to) true)]).length) 0 (([(List.set (uR use (false : Bool)) (Int.toNat to) true)]).length)) kr (by first | rfl | simp only [List.length_set, cpyT_length])) (cut_of [0, 2, 8, 9] [20] kr kr kr)) (fun K1 q1 hs => ?_)
  rw [s_gr16_back_L1] at hs
  show WpV cK0 Tryz.prog none 72 _ _ [(0, .vs 1 (mLB use)), (2, .int .i64 most), (8, .sl 1 20 ((q1.2).length) 0 ((q1.2).length)), (9, .int .i64 q1.1)] [(20, .row 93 1 0 (mLB q1.2))] []
  refine vS (vS (vT (oR 3 [(23, .bool (decide (q1.1 ≤ most))), (22, .int .i64 most), (21, .int .i64 q1.1)] kr ?_)))
  refine oN (nT ?_)
  refine v_cond (decide (q1.1 ≤ most)) kr (fun h1 => ?_) (fun h1 => ?_)
  ·replace hs := bif_t h1 hs
   refine vK (nT (vS (vB (vS (vT (oR 1 [(26, .vs 1 (mLB use))] kr ?_))))))
   refine oP (v := .int .i64 (List.length use : Int)) kr kr (loc_lenVs (sz := 1) (els := (mLB use)) kr kr lM) ?_
   obtain ⟨⟨g3a, g3b, g3c⟩, hs⟩ := bG hs
   refine o_loc (F := []) (F' := [(28, .row 4 1 0 (mB (uR use (false : Bool))))]) (v := .sl 1 28 (((uR use (false : Bool))).length) 0 (((uR use (false : Bool))).length)) [] kr kr rfl kr (loc_makeSliceT (L := ((uR use (false : Bool))).length) (e := 4) (sz := 1) (bytes := 1) (q := (List.length use : Int)) (k := .i64) (k2 := .i64) (cs := [.bool false]) (cs2 := [.bool false]) kr kr kr kr kr g3a g3b g3c (List.map_replicate (f := EV.encB)).symm (List.length_replicate ..) (fun _ _ h => h)) kr ?_
   refine oR 1 [(10, .sl 1 28 (((uR use (false : Bool))).length) 0 (((uR use (false : Bool))).length))] kr ?_
   refine oN (nT (vS (vS (vT (oR 1 [(11, .int .i64 0)] kr ?_)))))
   refine oN (nT ?_)
   obtain ⟨z2, hs, hk2⟩ := bS hs
   refine v_join (S := (List Bool)) (fun u => u = z2) (fun u => [(0, .vs 1 (mLB use)), (2, .int .i64 most), (8, .sl 1 20 ((q1.2).length) 0 ((q1.2).length)), (9, .int .i64 q1.1), (10, .sl 1 28 ((u).length) 0 ((u).length))]) (fun u => [(28, .row 4 1 0 (mB u)), (20, .row 93 1 0 (mLB q1.2))]) ?_ (fun v2 hz => ?_)
   ·refine vB ?_
    refine v_fuel (S := Int × (List Bool)) (fun u => [(0, .vs 1 (mLB use)), (2, .int .i64 most), (8, .sl 1 20 ((q1.2).length) 0 ((q1.2).length)), (9, .int .i64 q1.1), (10, .sl 1 28 ((u.2).length) 0 ((u.2).length)), (11, .int .i64 u.1)]) (fun u => [(28, .row 4 1 0 (mB u.2)), (20, .row 93 1 0 (mLB q1.2))]) (s_gr16_back_L2 use q1) (fun _ => rfl) KK (0, (uR use (false : Bool))) hs (cut_of [0, 2, 8, 9, 10, 11] [28, 20] kr kr kr) (fun K2 q2 hs => ?_)
    rw [s_gr16_back_L2] at hs
    show WpV cK0 Tryz.prog none 72 _ _ [(0, .vs 1 (mLB use)), (2, .int .i64 most), (8, .sl 1 20 ((q1.2).length) 0 ((q1.2).length)), (9, .int .i64 q1.1), (10, .sl 1 28 ((q2.2).length) 0 ((q2.2).length)), (11, .int .i64 q2.1)] [(28, .row 4 1 0 (mB q2.2)), (20, .row 93 1 0 (mLB q1.2))] []
    refine vS (vS (vT (oR 2 [(30, .vs 1 (mLB use)), (29, .int .i64 q2.1)] kr ?_)))
    refine oP (v := .int .i64 (List.length use : Int)) kr kr (loc_lenVs (sz := 1) (els := (mLB use)) kr kr lM) ?_
    refine oR 1 [(32, .bool (decide (q2.1 < (List.length use : Int))))] kr ?_
    refine oN (nT ?_)
    refine v_cond (decide (q2.1 < (List.length use : Int))) kr (fun h2 => ?_) (fun h2 => ?_)
    ·replace hs := bif_t h2 hs
     refine vK (nT (vS (vB (vS (vT (oR 1 [(12, .int .i64 0)] kr ?_))))))
     refine oN (nT ?_)
     obtain ⟨z3, hs, hk3⟩ := bS hs
     refine v_join (S := (List Bool)) (fun u => u = z3) (fun u => [(0, .vs 1 (mLB use)), (2, .int .i64 most), (8, .sl 1 20 ((q1.2).length) 0 ((q1.2).length)), (9, .int .i64 q1.1), (10, .sl 1 28 ((u).length) 0 ((u).length)), (11, .int .i64 q2.1)]) (fun u => [(28, .row 4 1 0 (mB u)), (20, .row 93 1 0 (mLB q1.2))]) ?_ (fun v3 hz => ?_)
     ·refine vB ?_
      refine v_fuel (S := Int × (List Bool)) (fun u => [(0, .vs 1 (mLB use)), (2, .int .i64 most), (8, .sl 1 20 ((q1.2).length) 0 ((q1.2).length)), (9, .int .i64 q1.1), (10, .sl 1 28 ((u.2).length) 0 ((u.2).length)), (11, .int .i64 q2.1), (12, .int .i64 u.1)]) (fun u => [(28, .row 4 1 0 (mB u.2)), (20, .row 93 1 0 (mLB q1.2))]) (s_gr16_back_L3 use q1 q2) (fun _ => rfl) KK (0, q2.2) hs (cut_of [0, 2, 8, 9, 10, 11, 12] [28, 20] kr kr kr) (fun K3 q3 hs => ?_)
      rw [s_gr16_back_L3] at hs
      show WpV cK0 Tryz.prog none 72 _ _ [(0, .vs 1 (mLB use)), (2, .int .i64 most), (8, .sl 1 20 ((q1.2).length) 0 ((q1.2).length)), (9, .int .i64 q1.1), (10, .sl 1 28 ((q3.2).length) 0 ((q3.2).length)), (11, .int .i64 q2.1), (12, .int .i64 q3.1)] [(28, .row 4 1 0 (mB q3.2)), (20, .row 93 1 0 (mLB q1.2))] []
      refine vS (vS (vT (oR 2 [(36, .vs 1 (mLB use)), (35, .int .i64 q3.1)] kr ?_)))
      refine oP (v := .int .i64 (List.length use : Int)) kr kr (loc_lenVs (sz := 1) (els := (mLB use)) kr kr lM) ?_
      refine oR 1 [(38, .bool (decide (q3.1 < (List.length use : Int))))] kr ?_
      refine oN (nT ?_)
      refine v_cond (decide (q3.1 < (List.length use : Int))) kr (fun h3 => ?_) (fun h3 => ?_)
      ·replace hs := bif_t h3 hs
       refine vK (nT (vS (vB ?_)))
       obtain ⟨z4, hs, hk4⟩ := bS hs
       refine v_join (S := (List Bool)) (fun u => u = z4) (fun u => [(0, .vs 1 (mLB use)), (2, .int .i64 most), (8, .sl 1 20 ((q1.2).length) 0 ((q1.2).length)), (9, .int .i64 q1.1), (10, .sl 1 28 ((u).length) 0 ((u).length)), (11, .int .i64 q2.1), (12, .int .i64 q3.1)]) (fun u => [(28, .row 4 1 0 (mB u)), (20, .row 93 1 0 (mLB q1.2))]) ?_ (fun v4 hz => ?_)
       ·refine vT (oR 4 [(44, .int .i64 q2.1), (43, .sl 1 28 ((q3.2).length) 0 ((q3.2).length)), (42, .int .i64 q2.1), (41, .sl 1 28 ((q3.2).length) 0 ((q3.2).length))] kr ?_)
        obtain ⟨⟨g4a, g4b⟩, hs⟩ := bG hs
        refine oP (v := .ptr 28 ((q3.2).length) ((Int.toNat q2.1) * 1 + 0)) kr kr (loc_indexRowT (e := 4) (sz := 1) (kk := 28) (L := (q3.2).length) (n := (q3.2).length) (k := .i64) (i := q2.1) kr kr kr g4a g4b) ?_
        obtain ⟨e2, he2, hs⟩ := bE hs
        refine o_loc (F := [(28, .row 4 1 0 (mB q3.2))]) (F' := [(28, .row 4 1 0 (mB q3.2))]) (v := .bool e2) [28] kr kr rfl kr (loc_loadRow (L := (q3.2).length) (off := (Int.toNat q2.1) * 1 + 0) (els := (mB q3.2)) (cs := [.bool e2]) (Int.toNat q2.1) 0 kr lh rfl (by rw [← he2]; exact map_get _ (by first | omega | (simp only [List.length_set, cpyT_length]; omega))) kr) kr ?_
        refine oR 1 [(47, .bool e2)] kr ?_
        cases h4 : (e2)
        ·replace hs := bif_f h4 hs
         refine oR 2 [(49, .int .i64 q2.1), (48, .vs 1 (mLB use))] kr ?_
         obtain ⟨x1, g5, hs⟩ := bS hs; obtain ⟨g5a, g5b, g5c⟩ := idx_some g5
         refine oP (v := .vp [.vs 1 (mB x1)] 0) kr kr (loc_indexVs (e := 93) (sz := 1) (k := .i64) (els := (mLB use)) (cs := (eB x1)) kr kr kr g5a (by rw [g5c]; exact map_get _ (by omega))) ?_
         refine oR 2 [(52, .int .i64 q3.1), (51, .vs 1 (mB x1))] kr ?_
         obtain ⟨x2, g6, hs⟩ := bS hs; obtain ⟨g6a, g6b, g6c⟩ := idx_some g6
         refine oP (v := .vp [.bool x2] 0) kr kr (loc_indexVs (e := 4) (sz := 1) (k := .i64) (els := (mB x1)) (cs := (EV.encB x2)) kr kr kr g6a (by rw [g6c]; exact map_get _ (by omega))) ?_
         refine oR 2 [(55, .bool x2), (54, .bool x2)] kr ?_
         cases h5 : (x2)
         ·replace hs := bif_f h5 hs
          refine oR 10 [(65, .bool false), (64, .bool false), (63, .no), (62, .no), (61, .no), (60, .no), (59, .no), (58, .no), (57, .no), (56, .no)] kr ?_
          obtain ⟨⟨g7a, g7b⟩, hs⟩ := bG hs
          refine oP (v := .ptr 28 ((q3.2).length) ((Int.toNat q2.1) * 1 + 0)) kr kr (loc_indexRowT (e := 4) (sz := 1) (kk := 28) (L := (q3.2).length) (n := (q3.2).length) (k := .i64) (i := q2.1) kr kr kr g7a g7b) ?_
          obtain ⟨e3, he3, hs⟩ := bE hs
          refine o_loc (F := [(28, .row 4 1 0 (mB q3.2))]) (F' := [(28, .row 4 1 0 (mB (List.set q3.2 (Int.toNat q2.1) false)))]) (v := .no) [28] kr kr rfl kr (loc_storeRowT (L := (q3.2).length) (off := (Int.toNat q2.1) * 1 + 0) (els := (mB q3.2)) (cs := [.bool e3]) (c' := [.bool false]) (Int.toNat q2.1) 0 kr lh rfl (by rw [← he3]; exact map_get _ (by first | omega | (simp only [List.length_set, cpyT_length]; omega))) (by first | exact Nat.zero_le _ | omega) kr kr kr kr kr kr List.map_set.symm) kr ?_
          refine oN ?_
          obtain rfl := si hs
          refine nrm_join (List.set q3.2 (Int.toNat q2.1) false) rfl ?_
          exact Cut.trans (cut_eq 10 (v := .sl 1 28 ((q3.2).length) 0 ((q3.2).length)) (v' := .sl 1 28 (((List.set q3.2 (Int.toNat q2.1) false)).length) 0 (((List.set q3.2 (Int.toNat q2.1) false)).length)) kr (by first | rfl | simp only [List.length_set, cpyT_length])) (cut_of [0, 2, 8, 9, 10, 11, 12] [28, 20] kr kr kr)
         ·replace hs := bif_t h5 hs
          refine oR 3 [(58, .int .i64 (w64 (q1.1 - 1))), (57, .int .i64 q1.1), (56, .sl 1 20 ((q1.2).length) 0 ((q1.2).length))] kr ?_
          obtain ⟨⟨g8a, g8b⟩, hs⟩ := bG hs
          refine oP (v := .ptr 20 ((q1.2).length) ((Int.toNat (w64 (q1.1 - 1))) * 1 + 0)) kr kr (loc_indexRowT (e := 93) (sz := 1) (kk := 20) (L := (q1.2).length) (n := (q1.2).length) (k := .i64) (i := (w64 (q1.1 - 1))) kr kr kr g8a g8b) ?_
          obtain ⟨e4, he4, hs⟩ := bE hs
          refine o_loc (F := [(20, .row 93 1 0 (mLB q1.2))]) (F' := [(20, .row 93 1 0 (mLB q1.2))]) (v := .vs 1 (mB e4)) [20] kr kr rfl kr (loc_loadRow (L := (q1.2).length) (off := (Int.toNat (w64 (q1.1 - 1))) * 1 + 0) (els := (mLB q1.2)) (cs := [.vs 1 (mB e4)]) (Int.toNat (w64 (q1.1 - 1))) 0 kr lh rfl (by rw [← he4]; exact map_get _ (by first | omega | (simp only [List.length_set, cpyT_length]; omega))) kr) kr ?_
          refine oR 1 [(61, .int .i64 q3.1)] kr ?_
          obtain ⟨x3, g9, hs⟩ := bS hs; obtain ⟨g9a, g9b, g9c⟩ := idx_some g9
          refine oP (v := .vp [.bool x3] 0) kr kr (loc_indexVs (e := 4) (sz := 1) (k := .i64) (els := (mB e4)) (cs := (EV.encB x3)) kr kr kr g9a (by rw [g9c]; exact map_get _ (by omega))) ?_
          refine oR 3 [(65, .bool x3), (64, .bool x3), (63, .bool x3)] kr ?_
          obtain ⟨⟨g10a, g10b⟩, hs⟩ := bG hs
          refine oP (v := .ptr 28 ((q3.2).length) ((Int.toNat q2.1) * 1 + 0)) kr kr (loc_indexRowT (e := 4) (sz := 1) (kk := 28) (L := (q3.2).length) (n := (q3.2).length) (k := .i64) (i := q2.1) kr kr kr g10a g10b) ?_
          obtain ⟨e5, he5, hs⟩ := bE hs
          refine o_loc (F := [(28, .row 4 1 0 (mB q3.2))]) (F' := [(28, .row 4 1 0 (mB (List.set q3.2 (Int.toNat q2.1) x3)))]) (v := .no) [28] kr kr rfl kr (loc_storeRowT (L := (q3.2).length) (off := (Int.toNat q2.1) * 1 + 0) (els := (mB q3.2)) (cs := [.bool e5]) (c' := [.bool x3]) (Int.toNat q2.1) 0 kr lh rfl (by rw [← he5]; exact map_get _ (by first | omega | (simp only [List.length_set, cpyT_length]; omega))) (by first | exact Nat.zero_le _ | omega) kr kr kr kr kr kr List.map_set.symm) kr ?_
          refine oN ?_
          obtain rfl := si hs
          refine nrm_join (List.set q3.2 (Int.toNat q2.1) x3) rfl ?_
          exact Cut.trans (cut_eq 10 (v := .sl 1 28 ((q3.2).length) 0 ((q3.2).length)) (v' := .sl 1 28 (((List.set q3.2 (Int.toNat q2.1) x3)).length) 0 (((List.set q3.2 (Int.toNat q2.1) x3)).length)) kr (by first | rfl | simp only [List.length_set, cpyT_length])) (cut_of [0, 2, 8, 9, 10, 11, 12] [28, 20] kr kr kr)
        ·replace hs := bif_t h4 hs
         refine oR 18 [(65, .bool true), (64, .no), (63, .no), (62, .no), (61, .no), (60, .no), (59, .no), (58, .no), (57, .no), (56, .no), (55, .no), (54, .no), (53, .no), (52, .no), (51, .no), (50, .no), (49, .no), (48, .no)] kr ?_
         obtain ⟨⟨g11a, g11b⟩, hs⟩ := bG hs
         refine oP (v := .ptr 28 ((q3.2).length) ((Int.toNat q2.1) * 1 + 0)) kr kr (loc_indexRowT (e := 4) (sz := 1) (kk := 28) (L := (q3.2).length) (n := (q3.2).length) (k := .i64) (i := q2.1) kr kr kr g11a g11b) ?_
         obtain ⟨e6, he6, hs⟩ := bE hs
         refine o_loc (F := [(28, .row 4 1 0 (mB q3.2))]) (F' := [(28, .row 4 1 0 (mB (List.set q3.2 (Int.toNat q2.1) true)))]) (v := .no) [28] kr kr rfl kr (loc_storeRowT (L := (q3.2).length) (off := (Int.toNat q2.1) * 1 + 0) (els := (mB q3.2)) (cs := [.bool e6]) (c' := [.bool true]) (Int.toNat q2.1) 0 kr lh rfl (by rw [← he6]; exact map_get _ (by first | omega | (simp only [List.length_set, cpyT_length]; omega))) (by first | exact Nat.zero_le _ | omega) kr kr kr kr kr kr List.map_set.symm) kr ?_
         refine oN ?_
         obtain rfl := si hs
         refine nrm_join (List.set q3.2 (Int.toNat q2.1) true) rfl ?_
         exact Cut.trans (cut_eq 10 (v := .sl 1 28 ((q3.2).length) 0 ((q3.2).length)) (v' := .sl 1 28 (((List.set q3.2 (Int.toNat q2.1) true)).length) 0 (((List.set q3.2 (Int.toNat q2.1) true)).length)) kr (by first | rfl | simp only [List.length_set, cpyT_length])) (cut_of [0, 2, 8, 9, 10, 11, 12] [28, 20] kr kr kr)
       ·subst hz; clear hs; have hs := hk4; clear hk4
        refine nB (nT (vT (oR 3 [(12, .int .i64 (w64 (q3.1 + 1))), (40, .int .i64 (w64 (q3.1 + 1))), (39, .int .i64 q3.1)] kr ?_)))
        refine oN (nrm_fuel ((w64 (q3.1 + 1)), v4) hs ?_)
        exact cut_of [0, 2, 8, 9, 10, 11, 12] [28, 20] kr kr kr
      ·replace hs := bif_f h3 hs
       refine v_exit (exit_thenV (exit_fuel ?_))
       refine exit_blkV ?_
       obtain rfl := si hs
       refine nrm_join q3.2 rfl ?_
       exact cut_of [0, 2, 8, 9, 10, 11] [28, 20] kr kr kr
     ·subst hz; clear hs; have hs := hk3; clear hk3
      refine nB (nT (vT (oR 3 [(11, .int .i64 (w64 (q2.1 + 1))), (34, .int .i64 (w64 (q2.1 + 1))), (33, .int .i64 q2.1)] kr ?_)))
      refine oN (nrm_fuel ((w64 (q2.1 + 1)), v3) hs ?_)
      exact cut_of [0, 2, 8, 9, 10, 11] [28, 20] kr kr kr
    ·replace hs := bif_f h2 hs
     refine v_exit (exit_thenV (exit_fuel ?_))
     refine exit_blkV ?_
     obtain rfl := si hs
     refine nrm_join q2.2 rfl ?_
     exact cut_of [0, 2, 8, 9, 10] [28, 20] kr kr kr
   ·subst hz; clear hs; have hs := hk2; clear hk2
    refine nT (vT (oR 2 [(68, .sl 1 28 ((v2).length) 0 ((v2).length)), (67, .sl 1 20 ((q1.2).length) 0 ((q1.2).length))] kr ?_))
    refine o_to _ [(28, .row 4 1 (((mB v2)).length) (mB v2)), (20, .row 93 1 0 (mLB q1.2))] (cut_freeze (F := [(28, .row 4 1 0 (mB v2))]) [28] rfl kr kr) ?_
    refine o_to ((68, .vs 1 (mB v2)) :: _) _ (cut_view (R := [(28, .row 4 1 (((mB v2)).length) (mB v2))]) (ks := [28]) kr kr (.row (t := 4) (fz := (((mB v2)).length)) kr lh)) ?_
    refine o_runh 1 [(69, .sl 1 69 1 0 1)] [(69, .row 93 1 0 (mLB [v2])), (28, .row 4 1 (((mB v2)).length) (mB v2)), (20, .row 93 1 0 (mLB q1.2))] kr ?_
    obtain ⟨_, g12, hs⟩ := bS hs; replace g12 := grd_some g12
    refine o_loc (F := [(20, .row 93 1 0 (List.map (encL 1 EV.encB) q1.2)), (69, .row 93 1 0 (List.map (encL 1 EV.encB) [v2]))]) (F' := [(20, .row 93 1 0 (List.map (encL 1 EV.encB) (q1.2 ++ [v2]))), (69, .row 93 1 0 (List.map (encL 1 EV.encB) [v2]))]) (v := .sl 1 20 (((q1.2 ++ [v2])).length) 0 (((q1.2 ++ [v2])).length)) [20, 69] kr kr rfl kr (loc_appendT (e := 93) (sz := 1) (bytes := 24) (L := (q1.2).length) (els := (List.map (encL 1 EV.encB) q1.2)) (ys := (List.map (encL 1 EV.encB) [v2])) kr kr (by first | exact List.length_map .. | rfl) (.sl (t := 93) (fz := 0) (ys := (List.map (encL 1 EV.encB) [v2])) kr kr) (map_ones (encL 1 EV.encB) (fun _ => rfl) _) (map_lens (encL 1 EV.encB) (fun _ => rfl) _) kr (by first | exact (List.map_append ..).symm | rfl | simp only [List.map_nil, List.nil_append]) (List.length_map ..) g12 (by omega)) kr ?_
    refine oR 1 [(8, .sl 1 20 (((q1.2 ++ [v2])).length) 0 (((q1.2 ++ [v2])).length))] kr ?_
    refine oN (nB (nT (vT (oR 3 [(9, .int .i64 (w64 (q1.1 + 1))), (25, .int .i64 (w64 (q1.1 + 1))), (24, .int .i64 q1.1)] kr ?_))))
    refine oN (nrm_fuel ((w64 (q1.1 + 1)), (q1.2 ++ [v2])) hs ?_)
    exact cut_of [0, 2, 8, 9] [20] kr kr kr
  ·replace hs := bif_f h1 hs
   refine v_exit (exit_thenV (exit_fuel ?_))
   refine exit_blkV ?_
   obtain rfl := si hs
   refine nrm_join q1.2 rfl ?_
   exact cut_of [8] [20] kr kr kr
 ·subst hz; clear hs; have hs := hk1; clear hk1
  refine nT (vS (vT (oR 2 [(6, .sl 1 20 ((v1).length) 0 ((v1).length)), (71, .sl 1 20 ((v1).length) 0 ((v1).length))] kr ?_)))
  refine oN (nT (v_to _ [(20, .row 93 1 (((mLB v1)).length) (mLB v1))] (cut_freeze (F := [(20, .row 93 1 0 (mLB v1))]) [20] rfl kr kr) ?_))
  refine v_to ((6, .vs 1 (mLB v1)) :: _) _ (cut_view (R := [(20, .row 93 1 (((mLB v1)).length) (mLB v1))]) (ks := [20]) kr kr (.row (t := 93) (fz := (((mLB v1)).length)) kr lh)) ?_
  refine v_ret ?_
  cases hs
  exact fin_ret kr kr kr
theorem w_gr16_circle (p : Plan) (use : (List (List Bool))) (r : (List Sr)) (hs : s_gr16_circle p use = some r) : FnA Tryz.prog 52 [.agg (enc_Plan p), .vs 1 (List.map (encL 1 EV.encB) use)] [] (.vs 1 (mS r)) [] := by
 refine fnA_of_wp (N := 139) Tryz.func52 rfl rfl rfl fun cK0 => ?_
 unfold s_gr16_circle at hs
 refine v_same (ρ' := [(0, .agg (enc_Plan p)), (1, .vs 1 (mLB use))]) rfl rfl ?_
 refine vS (vT (o_runh 2 [(4, .nils), (2, .ptr 2 0 0)] [(2, .box 30 (enc_Plan p))] kr ?_))
 refine oN (nT (vS (vT (oR 1 [(16, .vs 1 (mLB use))] kr ?_))))
 refine oP (v := .int .i64 (List.length use : Int)) kr kr (loc_lenVs (sz := 1) (els := (mLB use)) kr kr lM) ?_
 refine oR 2 [(5, .int .i64 (w64 ((List.length use : Int) + 1))), (18, .int .i64 (w64 ((List.length use : Int) + 1)))] kr ?_
 refine oN (nT (vS (vT (oR 1 [(6, .int .i64 (-1))] kr ?_))))
 refine oN (nT (vS (vS (vT (oR 1 [(7, .int .i64 0)] kr ?_)))))
 refine oN (nT ?_)
 obtain ⟨z1, hs, hk1⟩ := bS hs
 refine v_join (S := Int × Int) (fun u => u = z1) (fun u => [(1, .vs 1 (mLB use)), (2, .ptr 2 0 0), (5, .int .i64 u.1), (6, .int .i64 u.2)]) (fun u => [(2, .box 30 (enc_Plan p))]) ?_ (fun v1 hz => ?_)
 ·refine vB ?_
  refine v_fuel (S := Int × Int × Int) (fun u => [(1, .vs 1 (mLB use)), (2, .ptr 2 0 0), (5, .int .i64 u.1), (6, .int .i64 u.2.1), (7, .int .i64 u.2.2)]) (fun u => [(2, .box 30 (enc_Plan p))]) (s_gr16_circle_L1 p use) (fun _ => rfl) KK ((w64 ((List.length use : Int) + 1)), (-1), 0) hs (cut_of [1, 2, 5, 6, 7] [2] kr kr kr) (fun K1 q1 hs => ?_)
  rw [s_gr16_circle_L1] at hs
  show WpV cK0 Tryz.prog none 139 _ _ [(1, .vs 1 (mLB use)), (2, .ptr 2 0 0), (5, .int .i64 q1.1), (6, .int .i64 q1.2.1), (7, .int .i64 q1.2.2)] [(2, .box 30 (enc_Plan p))] []
  refine vS (vS (vT (oR 2 [(20, .vs 1 (mLB use)), (19, .int .i64 q1.2.2)] kr ?_)))
  refine oP (v := .int .i64 (List.length use : Int)) kr kr (loc_lenVs (sz := 1) (els := (mLB use)) kr kr lM) ?_
  refine oR 1 [(22, .bool (decide (q1.2.2 < (List.length use : Int))))] kr ?_
  refine oN (nT ?_)
  refine v_cond (decide (q1.2.2 < (List.length use : Int))) kr (fun h1 => ?_) (fun h1 => ?_)
  ·replace hs := bif_t h1 hs
   refine vK (nT (vS (vB (vS (vT (oR 3 [(27, .vs 1 (mLB use)), (26, .int .i64 q1.2.2), (25, .vs 1 (mLB use))] kr ?_))))))
   refine oP (v := .int .i64 (List.length use : Int)) kr kr (loc_lenVs (sz := 1) (els := (mLB use)) kr kr lM) ?_
   obtain ⟨y1, c1, hs⟩ := bS hs
   refine oP (v := .vs 1 (mLB y1)) kr kr (loc_gcall0 (callV_func hbv66 kr) (w_gr16_back use q1.2.2 (List.length use : Int) _ c1) kr) ?_
   refine oR 1 [(8, .vs 1 (mLB y1))] kr ?_
   refine oN (nT (vS (vT (oR 1 [(9, .int .i64 1)] kr ?_))))
   refine oN (nT ?_)
   obtain ⟨z2, hs, hk2⟩ := bS hs
   refine v_join (S := Int × Int) (fun u => u = z2) (fun u => [(1, .vs 1 (mLB use)), (2, .ptr 2 0 0), (5, .int .i64 u.1), (6, .int .i64 u.2), (7, .int .i64 q1.2.2)]) (fun u => [(2, .box 30 (enc_Plan p))]) ?_ (fun v2 hz => ?_)
   ·refine vB ?_
    refine v_fuel (S := Int × Int × Int) (fun u => [(1, .vs 1 (mLB use)), (2, .ptr 2 0 0), (5, .int .i64 u.1), (6, .int .i64 u.2.1), (7, .int .i64 q1.2.2), (8, .vs 1 (mLB y1)), (9, .int .i64 u.2.2)]) (fun u => [(2, .box 30 (enc_Plan p))]) (s_gr16_circle_L2 p y1 q1) (fun _ => rfl) KK (q1.1, q1.2.1, 1) hs (cut_of [1, 2, 5, 6, 7, 8, 9] [2] kr kr kr) (fun K2 q2 hs => ?_)
    rw [s_gr16_circle_L2] at hs
    show WpV cK0 Tryz.prog none 139 _ _ [(1, .vs 1 (mLB use)), (2, .ptr 2 0 0), (5, .int .i64 q2.1), (6, .int .i64 q2.2.1), (7, .int .i64 q1.2.2), (8, .vs 1 (mLB y1)), (9, .int .i64 q2.2.2)] [(2, .box 30 (enc_Plan p))] []
    refine vS (vS ?_)
    obtain ⟨z3, hs, hk3⟩ := bS hs
    refine v_join (S := Bool) (fun u => u = z3) (fun u => [(1, .vs 1 (mLB use)), (2, .ptr 2 0 0), (5, .int .i64 q2.1), (6, .int .i64 q2.2.1), (7, .int .i64 q1.2.2), (8, .vs 1 (mLB y1)), (9, .int .i64 q2.2.2), (38, .bool u)]) (fun u => [(2, .box 30 (enc_Plan p))]) ?_ (fun v3 hz => ?_)
    ·refine vT (oR 2 [(31, .vs 1 (mLB y1)), (30, .int .i64 q2.2.2)] kr ?_)
     refine oP (v := .int .i64 (List.length y1 : Int)) kr kr (loc_lenVs (sz := 1) (els := (mLB y1)) kr kr lM) ?_
     refine oR 2 [(34, .bool (decide (q2.2.2 < (List.length y1 : Int)))), (33, .bool (decide (q2.2.2 < (List.length y1 : Int))))] kr ?_
     cases h2 : ((decide (q2.2.2 < (List.length y1 : Int))))
     ·replace hs := bif_f h2 hs
      refine oR 4 [(38, .bool false), (37, .no), (36, .no), (35, .no)] kr ?_
      refine oN ?_
      cases hs
      refine nrm_join false rfl ?_
      exact cut_of [1, 2, 5, 6, 7, 8, 9, 38] [2] kr kr kr
     ·replace hs := bif_t h2 hs
      refine oR 4 [(38, .bool (decide (q2.2.2 ≤ q2.1))), (37, .bool (decide (q2.2.2 ≤ q2.1))), (36, .int .i64 q2.1), (35, .int .i64 q2.2.2)] kr ?_
      refine oN ?_
      obtain rfl := si hs
      refine nrm_join (decide (q2.2.2 ≤ q2.1)) rfl ?_
      exact cut_of [1, 2, 5, 6, 7, 8, 9, 38] [2] kr kr kr
    ·subst hz; clear hs; have hs := hk3; clear hk3
     refine nT ?_
     refine v_cond v3 kr (fun h3 => ?_) (fun h3 => ?_)
     ·replace hs := bif_t h3 hs
      refine vK (nT (vS (vB (vS ?_))))
      obtain ⟨z4, hs, hk4⟩ := bS hs
      refine v_join (S := Bool) (fun u => u = z4) (fun u => [(1, .vs 1 (mLB use)), (2, .ptr 2 0 0), (5, .int .i64 q2.1), (6, .int .i64 q2.2.1), (7, .int .i64 q1.2.2), (8, .vs 1 (mLB y1)), (9, .int .i64 q2.2.2), (68, .bool u)]) (fun u => [(2, .box 30 (enc_Plan p))]) ?_ (fun v4 hz => ?_)
      ·refine v_draw mixedH kr ?_
       refine d_runs 2 0 [(42, .int .i64 q2.2.2), (41, .vs 1 (mLB y1))] (pfp 2 1) kr kr ?_
       obtain ⟨x1, g1, hs⟩ := bS hs; obtain ⟨g1a, g1b, g1c⟩ := idx_some g1
       refine d_pure (v := .vp [.vs 1 (mB x1)] 0) 2 rfl rfl rfl rfl kr kr (loc_indexVs (e := 93) (sz := 1) (k := .i64) (els := (mLB y1)) (cs := (eB x1)) kr kr kr g1a (by rw [g1c]; exact map_get _ (by omega))) ?_
       refine d_runs 2 3 [(45, .int .i64 q1.2.2), (44, .vs 1 (mB x1))] (pfp 2 4) kr kr ?_
       obtain ⟨x2, g2, hs⟩ := bS hs; obtain ⟨g2a, g2b, g2c⟩ := idx_some g2
       refine d_pure (v := .vp [.bool x2] 0) 5 rfl rfl rfl rfl kr kr (loc_indexVs (e := 4) (sz := 1) (k := .i64) (els := (mB x1)) (cs := (EV.encB x2)) kr kr kr g2a (by rw [g2c]; exact map_get _ (by omega))) ?_
       refine d_runs 2 6 [(48, .bool x2), (47, .bool x2)] (pfp 2 7) kr kr ?_
       cases h4 : (x2)
       ·replace hs := bif_f h4 hs
        refine d_runs 20 8 [(68, .bool false), (67, .no), (66, .no), (65, .no), (64, .no), (63, .no), (62, .no), (61, .no), (60, .no), (59, .no), (58, .no), (57, .no), (56, .no), (55, .no), (54, .no), (53, .no), (52, .no), (51, .no), (50, .no), (49, .no)] (pfp 20 27) kr kr ?_
        refine d_nil kr ?_
        cases hs
        refine nrm_join false rfl ?_
        exact cut_of [1, 2, 5, 6, 7, 8, 9, 68] [2] kr kr kr
       ·replace hs := bif_t h4 hs
        refine d_runs 4 8 [(52, .bool (decide (q2.2.2 < q2.1))), (51, .bool (decide (q2.2.2 < q2.1))), (50, .int .i64 q2.1), (49, .int .i64 q2.2.2)] (pfp 4 11) kr kr ?_
        cases h5 : ((decide (q2.2.2 < q2.1)))
        ·replace hs := bif_f h5 hs
         refine d_runs 3 12 [(55, .int .i64 q1.2.2), (54, .vs 6 (mM enc_Def p.Defs)), (53, .ptr 2 0 0)] [⟨14, [], []⟩, ⟨13, [], [2]⟩, ⟨12, [], []⟩] kr kr ?_
         obtain ⟨x3, g3, hs⟩ := bS hs; obtain ⟨g3a, g3b, g3c⟩ := idx_some g3
         refine d_pure (v := .vp (enc_Def x3) 0) 15 rfl rfl rfl rfl kr kr (loc_indexVs (e := 51) (sz := 6) (k := .i64) (els := (mM enc_Def p.Defs)) (cs := (enc_Def x3)) kr kr kr g3a (by rw [g3c]; exact map_get _ (by omega))) ?_
         refine d_runs 6 16 [(62, .int .i64 (max q2.2.1 0)), (61, .int .i64 q2.2.1), (60, .vs 6 (mM enc_Def p.Defs)), (59, .ptr 2 0 0), (58, .str x3.Name), (57, .vp (enc_Def x3) 0)] [⟨21, [], []⟩, ⟨20, [], []⟩, ⟨19, [], [2]⟩, ⟨18, [], []⟩, ⟨17, [], []⟩, ⟨16, [], []⟩] kr kr ?_
         obtain ⟨x4, g4, hs⟩ := bS hs; obtain ⟨g4a, g4b, g4c⟩ := idx_some g4
         refine d_pure (v := .vp (enc_Def x4) 0) 22 rfl rfl rfl rfl kr kr (loc_indexVs (e := 51) (sz := 6) (k := .i64) (els := (mM enc_Def p.Defs)) (cs := (enc_Def x4)) kr kr kr g4a (by rw [g4c]; exact map_get _ (by omega))) ?_
         refine d_runs 5 23 [(68, .bool (Op.bytesLess x3.Name x4.Name)), (67, .bool (Op.bytesLess x3.Name x4.Name)), (66, .bool (Op.bytesLess x3.Name x4.Name)), (65, .str x4.Name), (64, .vp (enc_Def x4) 0)] (pfp 5 27) kr kr ?_
         refine d_nil kr ?_
         obtain rfl := si hs
         refine nrm_join (Op.bytesLess x3.Name x4.Name) rfl ?_
         exact cut_of [1, 2, 5, 6, 7, 8, 9, 68] [2] kr kr kr
        ·replace hs := bif_t h5 hs
         refine d_runs 16 12 [(68, .bool true), (67, .bool true), (66, .no), (65, .no), (64, .no), (63, .no), (62, .no), (61, .no), (60, .no), (59, .no), (58, .no), (57, .no), (56, .no), (55, .no), (54, .no), (53, .no)] (pfp 16 27) kr kr ?_
         refine d_nil kr ?_
         cases hs
         refine nrm_join true rfl ?_
         exact cut_of [1, 2, 5, 6, 7, 8, 9, 68] [2] kr kr kr
      ·subst hz; clear hs; have hs := hk4; clear hk4
       refine nT ?_
       obtain ⟨z5, hs, hk5⟩ := bS hs
       refine v_join (S := Int × Int) (fun u => u = z5) (fun u => [(1, .vs 1 (mLB use)), (2, .ptr 2 0 0), (5, .int .i64 u.1), (6, .int .i64 u.2), (7, .int .i64 q1.2.2), (8, .vs 1 (mLB y1)), (9, .int .i64 q2.2.2)]) (fun u => [(2, .box 30 (enc_Plan p))]) ?_ (fun v5 hz => ?_)
       ·refine v_cond v4 kr (fun h6 => ?_) (fun h6 => ?_)
        ·replace hs := bif_t h6 hs
         refine vS (vT (oR 2 [(5, .int .i64 q2.2.2), (69, .int .i64 q2.2.2)] kr ?_))
         refine oN (nT (vT (oR 2 [(6, .int .i64 q1.2.2), (70, .int .i64 q1.2.2)] kr ?_)))
         refine oN ?_
         obtain rfl := si hs
         refine nrm_join (q2.2.2, q1.2.2) rfl ?_
         exact cut_of [1, 2, 5, 6, 7, 8, 9] [2] kr kr kr
        ·replace hs := bif_f h6 hs
         refine vK ?_
         obtain rfl := si hs
         refine nrm_join (q2.1, q2.2.1) rfl ?_
         exact cut_of [1, 2, 5, 6, 7, 8, 9] [2] kr kr kr
       ·subst hz; clear hs; have hs := hk5; clear hk5
        refine nB (nT (vT (oR 3 [(9, .int .i64 (w64 (q2.2.2 + 1))), (40, .int .i64 (w64 (q2.2.2 + 1))), (39, .int .i64 q2.2.2)] kr ?_)))
        refine oN (nrm_fuel (v5.1, v5.2, (w64 (q2.2.2 + 1))) hs ?_)
        exact cut_of [1, 2, 5, 6, 7, 8, 9] [2] kr kr kr
     ·replace hs := bif_f h3 hs
      refine v_exit (exit_thenV (exit_fuel ?_))
      refine exit_blkV ?_
      obtain rfl := si hs
      refine nrm_join (q2.1, q2.2.1) rfl ?_
      exact cut_of [1, 2, 5, 6, 7] [2] kr kr kr
   ·subst hz; clear hs; have hs := hk2; clear hk2
    refine nB (nT (vT (oR 3 [(7, .int .i64 (w64 (q1.2.2 + 1))), (24, .int .i64 (w64 (q1.2.2 + 1))), (23, .int .i64 q1.2.2)] kr ?_)))
    refine oN (nrm_fuel (v2.1, v2.2, (w64 (q1.2.2 + 1))) hs ?_)
    exact cut_of [1, 2, 5, 6, 7] [2] kr kr kr
  ·replace hs := bif_f h1 hs
   refine v_exit (exit_thenV (exit_fuel ?_))
   refine exit_blkV ?_
   obtain rfl := si hs
   refine nrm_join (q1.1, q1.2.1) rfl ?_
   exact cut_of [1, 2, 5, 6] [2] kr kr kr
 ·subst hz; clear hs; have hs := hk1; clear hk1
  refine nT (vS (vS (vT (oR 2 [(72, .bool (decide (v1.2 < 0))), (71, .int .i64 v1.2)] kr ?_))))
  refine oN (nT ?_)
  refine v_cond (decide (v1.2 < 0)) kr (fun h7 => ?_) (fun h7 => ?_)
  ·replace hs := bif_t h7 hs
   refine vS (vT (oR 1 [(4, .nils)] kr ?_))
   refine oN (nT (v_to ((4, .vs 1 (mS [])) :: _) _ (cut_view (R := []) (ks := []) kr kr (.nils 1)) ?_))
   refine v_ret (rT ?_)
   cases hs
   exact fin_ret kr kr kr
  ·replace hs := bif_f h7 hs
   refine vK (nT (vS (vT (oR 3 [(75, .int .i64 v1.1), (74, .int .i64 v1.2), (73, .vs 1 (mLB use))] kr ?_))))
   obtain ⟨y2, c2, hs⟩ := bS hs
   refine oP (v := .vs 1 (mLB y2)) kr kr (loc_gcall0 (callV_func hbv66 kr) (w_gr16_back use v1.2 v1.1 _ c2) kr) ?_
   refine oR 1 [(10, .vs 1 (mLB y2))] kr ?_
   refine oN (nT (vS (vT (oR 2 [(11, .int .i64 v1.2), (77, .int .i64 v1.2)] kr ?_))))
   refine oN (nT (vS (vT (oR 1 [(12, .nils)] kr ?_))))
   refine oN (nT (vS (vS (vT (oR 3 [(13, .int .i64 (w64 (v1.1 - 1))), (79, .int .i64 (w64 (v1.1 - 1))), (78, .int .i64 v1.1)] kr ?_)))))
   refine oN (nT ?_)
   obtain ⟨z6, hs, hk6⟩ := bS hs
   refine v_join (S := (List Sr)) (fun u => u = z6) (fun u => [(12, .sl 1 2000084 ((u).length) 0 ((u).length))]) (fun u => [(2000084, .row 9 1 0 (mS u))]) ?_ (fun v6 hz => ?_)
   ·refine vB ?_
    refine v_fuel (S := Int × Int × (List Sr)) (fun u => [(1, .vs 1 (mLB use)), (2, .ptr 2 0 0), (10, .vs 1 (mLB y2)), (11, .int .i64 u.1), (12, .sl 1 2000084 ((u.2.2).length) 0 ((u.2.2).length)), (13, .int .i64 u.2.1)]) (fun u => [(2, .box 30 (enc_Plan p)), (2000084, .row 9 1 0 (mS u.2.2))]) (s_gr16_circle_L3 p use y2) (fun _ => rfl) KK (v1.2, (w64 (v1.1 - 1)), []) hs (Cut.trans (cut_nilRow 12 2000084 9 1 rfl kr kr) (cut_of [1, 2, 10, 11, 12, 13] [2, 2000084] kr kr kr)) (fun K3 q3 hs => ?_)
    rw [s_gr16_circle_L3] at hs
    show WpV cK0 Tryz.prog none 139 _ _ [(1, .vs 1 (mLB use)), (2, .ptr 2 0 0), (10, .vs 1 (mLB y2)), (11, .int .i64 q3.1), (12, .sl 1 2000084 ((q3.2.2).length) 0 ((q3.2.2).length)), (13, .int .i64 q3.2.1)] [(2, .box 30 (enc_Plan p)), (2000084, .row 9 1 0 (mS q3.2.2))] []
    refine vS (vS (vT (oR 2 [(81, .bool (decide (q3.2.1 ≥ 0))), (80, .int .i64 q3.2.1)] kr ?_)))
    refine oN (nT ?_)
    refine v_cond (decide (q3.2.1 ≥ 0)) kr (fun h8 => ?_) (fun h8 => ?_)
    ·replace hs := bif_t h8 hs
     refine vK (nT (vS (vB (vS (vT (oR 4 [(87, .int .i64 q3.1), (86, .vs 6 (mM enc_Def p.Defs)), (85, .ptr 2 0 0), (84, .sl 1 2000084 ((q3.2.2).length) 0 ((q3.2.2).length))] kr ?_))))))
     obtain ⟨x5, g5, hs⟩ := bS hs; obtain ⟨g5a, g5b, g5c⟩ := idx_some g5
     refine oP (v := .vp (enc_Def x5) 0) kr kr (loc_indexVs (e := 51) (sz := 6) (k := .i64) (els := (mM enc_Def p.Defs)) (cs := (enc_Def x5)) kr kr kr g5a (by rw [g5c]; exact map_get _ (by omega))) ?_
     refine o_runh 3 [(91, .sl 1 91 1 0 1), (90, .str x5.Name), (89, .vp (enc_Def x5) 0)] [(91, .row 9 1 0 (mS [x5.Name])), (2, .box 30 (enc_Plan p)), (2000084, .row 9 1 0 (mS q3.2.2))] kr ?_
     obtain ⟨_, g6, hs⟩ := bS hs; replace g6 := grd_some g6
     refine o_loc (F := [(2000084, .row 9 1 0 (mS q3.2.2)), (91, .row 9 1 0 (mS [x5.Name]))]) (F' := [(2000084, .row 9 1 0 (mS (q3.2.2 ++ [x5.Name]))), (91, .row 9 1 0 (mS [x5.Name]))]) (v := .sl 1 2000084 (((q3.2.2 ++ [x5.Name])).length) 0 (((q3.2.2 ++ [x5.Name])).length)) [2000084, 91] kr kr rfl kr (loc_appendT (e := 9) (sz := 1) (bytes := 16) (L := (q3.2.2).length) (els := (mS q3.2.2)) (ys := (mS [x5.Name])) kr kr (by first | exact List.length_map .. | rfl) (.sl (t := 9) (fz := 0) (ys := (mS [x5.Name])) kr kr) (map_ones EV.encS (fun _ => rfl) _) (map_lens EV.encS (fun _ => rfl) _) kr (by first | exact (List.map_append ..).symm | rfl | simp only [List.map_nil, List.nil_append]) (List.length_map ..) g6 (by omega)) kr ?_
     refine oR 1 [(12, .sl 1 2000084 (((q3.2.2 ++ [x5.Name])).length) 0 (((q3.2.2 ++ [x5.Name])).length))] kr ?_
     refine oN (nT (vS (vT (oR 1 [(14, .int .i64 (-1))] kr ?_))))
     refine oN (nT (vS (vS (vT (oR 1 [(15, .int .i64 0)] kr ?_)))))
     refine oN (nT ?_)
     obtain ⟨z7, hs, hk7⟩ := bS hs
     refine v_join (S := Int) (fun u => u = z7) (fun u => [(1, .vs 1 (mLB use)), (2, .ptr 2 0 0), (10, .vs 1 (mLB y2)), (12, .sl 1 2000084 (((q3.2.2 ++ [x5.Name])).length) 0 (((q3.2.2 ++ [x5.Name])).length)), (13, .int .i64 q3.2.1), (14, .int .i64 u)]) (fun u => [(2000084, .row 9 1 0 (mS (q3.2.2 ++ [x5.Name]))), (2, .box 30 (enc_Plan p))]) ?_ (fun v7 hz => ?_)
     ·refine vB ?_
      refine v_fuel (S := Int × Int) (fun u => [(1, .vs 1 (mLB use)), (2, .ptr 2 0 0), (10, .vs 1 (mLB y2)), (11, .int .i64 q3.1), (12, .sl 1 2000084 (((q3.2.2 ++ [x5.Name])).length) 0 (((q3.2.2 ++ [x5.Name])).length)), (13, .int .i64 q3.2.1), (14, .int .i64 u.1), (15, .int .i64 u.2)]) (fun u => [(2000084, .row 9 1 0 (mS (q3.2.2 ++ [x5.Name]))), (2, .box 30 (enc_Plan p))]) (s_gr16_circle_L4 p use y2 q3) (fun _ => rfl) KK ((-1), 0) hs (cut_of [1, 2, 10, 11, 12, 13, 14, 15] [2000084, 2] kr kr kr) (fun K4 q4 hs => ?_)
      rw [s_gr16_circle_L4] at hs
      show WpV cK0 Tryz.prog none 139 _ _ [(1, .vs 1 (mLB use)), (2, .ptr 2 0 0), (10, .vs 1 (mLB y2)), (11, .int .i64 q3.1), (12, .sl 1 2000084 (((q3.2.2 ++ [x5.Name])).length) 0 (((q3.2.2 ++ [x5.Name])).length)), (13, .int .i64 q3.2.1), (14, .int .i64 q4.1), (15, .int .i64 q4.2)] [(2000084, .row 9 1 0 (mS (q3.2.2 ++ [x5.Name]))), (2, .box 30 (enc_Plan p))] []
      refine vS (vS (vT (oR 2 [(94, .vs 1 (mLB use)), (93, .int .i64 q4.2)] kr ?_)))
      refine oP (v := .int .i64 (List.length use : Int)) kr kr (loc_lenVs (sz := 1) (els := (mLB use)) kr kr lM) ?_
      refine oR 1 [(96, .bool (decide (q4.2 < (List.length use : Int))))] kr ?_
      refine oN (nT ?_)
      refine v_cond (decide (q4.2 < (List.length use : Int))) kr (fun h9 => ?_) (fun h9 => ?_)
      ·replace hs := bif_t h9 hs
       refine vK (nT (vS (vB (vS ?_))))
       obtain ⟨z8, hs, hk8⟩ := bS hs
       refine v_join (S := Bool) (fun u => u = z8) (fun u => [(1, .vs 1 (mLB use)), (2, .ptr 2 0 0), (10, .vs 1 (mLB y2)), (11, .int .i64 q3.1), (12, .sl 1 2000084 (((q3.2.2 ++ [x5.Name])).length) 0 (((q3.2.2 ++ [x5.Name])).length)), (13, .int .i64 q3.2.1), (14, .int .i64 q4.1), (15, .int .i64 q4.2), (134, .bool u)]) (fun u => [(2000084, .row 9 1 0 (mS (q3.2.2 ++ [x5.Name]))), (2, .box 30 (enc_Plan p))]) ?_ (fun v8 hz => ?_)
       ·refine v_draw mixedH kr ?_
        refine d_runs 2 0 [(100, .int .i64 q3.1), (99, .vs 1 (mLB use))] (pfp 2 1) kr kr ?_
        obtain ⟨x6, g7, hs⟩ := bS hs; obtain ⟨g7a, g7b, g7c⟩ := idx_some g7
        refine d_pure (v := .vp [.vs 1 (mB x6)] 0) 2 rfl rfl rfl rfl kr kr (loc_indexVs (e := 93) (sz := 1) (k := .i64) (els := (mLB use)) (cs := (eB x6)) kr kr kr g7a (by rw [g7c]; exact map_get _ (by omega))) ?_
        refine d_runs 2 3 [(103, .int .i64 q4.2), (102, .vs 1 (mB x6))] (pfp 2 4) kr kr ?_
        obtain ⟨x7, g8, hs⟩ := bS hs; obtain ⟨g8a, g8b, g8c⟩ := idx_some g8
        refine d_pure (v := .vp [.bool x7] 0) 5 rfl rfl rfl rfl kr kr (loc_indexVs (e := 4) (sz := 1) (k := .i64) (els := (mB x6)) (cs := (EV.encB x7)) kr kr kr g8a (by rw [g8c]; exact map_get _ (by omega))) ?_
        refine d_runs 2 6 [(106, .bool x7), (105, .bool x7)] (pfp 2 7) kr kr ?_
        cases h10 : (x7)
        ·replace hs := bif_f h10 hs
         refine d_runs 28 8 [(134, .bool false), (133, .no), (132, .no), (131, .no), (130, .no), (129, .no), (128, .no), (127, .no), (126, .no), (125, .no), (124, .no), (123, .no), (122, .no), (121, .no), (120, .no), (119, .no), (118, .no), (117, .no), (116, .no), (115, .bool false), (114, .bool false), (113, .no), (112, .no), (111, .no), (110, .no), (109, .no), (108, .no), (107, .no)] (pfp 28 35) kr kr ?_
         refine d_nil kr ?_
         cases hs
         refine nrm_join false rfl ?_
         exact cut_of [1, 2, 10, 11, 12, 13, 14, 15, 134] [2000084, 2] kr kr kr
        ·replace hs := bif_t h10 hs
         refine d_runs 2 8 [(108, .int .i64 q3.2.1), (107, .vs 1 (mLB y2))] (pfp 2 9) kr kr ?_
         obtain ⟨x8, g9, hs⟩ := bS hs; obtain ⟨g9a, g9b, g9c⟩ := idx_some g9
         refine d_pure (v := .vp [.vs 1 (mB x8)] 0) 10 rfl rfl rfl rfl kr kr (loc_indexVs (e := 93) (sz := 1) (k := .i64) (els := (mLB y2)) (cs := (eB x8)) kr kr kr g9a (by rw [g9c]; exact map_get _ (by omega))) ?_
         refine d_runs 2 11 [(111, .int .i64 q4.2), (110, .vs 1 (mB x8))] (pfp 2 12) kr kr ?_
         obtain ⟨x9, g10, hs⟩ := bS hs; obtain ⟨g10a, g10b, g10c⟩ := idx_some g10
         refine d_pure (v := .vp [.bool x9] 0) 13 rfl rfl rfl rfl kr kr (loc_indexVs (e := 4) (sz := 1) (k := .i64) (els := (mB x8)) (cs := (EV.encB x9)) kr kr kr g10a (by rw [g10c]; exact map_get _ (by omega))) ?_
         refine d_runs 3 14 [(115, .bool x9), (114, .bool x9), (113, .bool x9)] (pfp 3 16) kr kr ?_
         cases h11 : (x9)
         ·replace hs := bif_f h11 hs
          refine d_runs 19 17 [(134, .bool false), (133, .no), (132, .no), (131, .no), (130, .no), (129, .no), (128, .no), (127, .no), (126, .no), (125, .no), (124, .no), (123, .no), (122, .no), (121, .no), (120, .no), (119, .no), (118, .no), (117, .no), (116, .no)] (pfp 19 35) kr kr ?_
          refine d_nil kr ?_
          cases hs
          refine nrm_join false rfl ?_
          exact cut_of [1, 2, 10, 11, 12, 13, 14, 15, 134] [2000084, 2] kr kr kr
         ·replace hs := bif_t h11 hs
          refine d_runs 3 17 [(118, .bool (decide (q4.1 < 0))), (117, .bool (decide (q4.1 < 0))), (116, .int .i64 q4.1)] (pfp 3 19) kr kr ?_
          cases h12 : ((decide (q4.1 < 0)))
          ·replace hs := bif_f h12 hs
           refine d_runs 3 20 [(121, .int .i64 q4.2), (120, .vs 6 (mM enc_Def p.Defs)), (119, .ptr 2 0 0)] [⟨22, [], []⟩, ⟨21, [], [2]⟩, ⟨20, [], []⟩] kr kr ?_
           obtain ⟨x10, g11, hs⟩ := bS hs; obtain ⟨g11a, g11b, g11c⟩ := idx_some g11
           refine d_pure (v := .vp (enc_Def x10) 0) 23 rfl rfl rfl rfl kr kr (loc_indexVs (e := 51) (sz := 6) (k := .i64) (els := (mM enc_Def p.Defs)) (cs := (enc_Def x10)) kr kr kr g11a (by rw [g11c]; exact map_get _ (by omega))) ?_
           refine d_runs 6 24 [(128, .int .i64 (max q4.1 0)), (127, .int .i64 q4.1), (126, .vs 6 (mM enc_Def p.Defs)), (125, .ptr 2 0 0), (124, .str x10.Name), (123, .vp (enc_Def x10) 0)] [⟨29, [], []⟩, ⟨28, [], []⟩, ⟨27, [], [2]⟩, ⟨26, [], []⟩, ⟨25, [], []⟩, ⟨24, [], []⟩] kr kr ?_
           obtain ⟨x11, g12, hs⟩ := bS hs; obtain ⟨g12a, g12b, g12c⟩ := idx_some g12
           refine d_pure (v := .vp (enc_Def x11) 0) 30 rfl rfl rfl rfl kr kr (loc_indexVs (e := 51) (sz := 6) (k := .i64) (els := (mM enc_Def p.Defs)) (cs := (enc_Def x11)) kr kr kr g12a (by rw [g12c]; exact map_get _ (by omega))) ?_
           refine d_runs 5 31 [(134, .bool (Op.bytesLess x10.Name x11.Name)), (133, .bool (Op.bytesLess x10.Name x11.Name)), (132, .bool (Op.bytesLess x10.Name x11.Name)), (131, .str x11.Name), (130, .vp (enc_Def x11) 0)] (pfp 5 35) kr kr ?_
           refine d_nil kr ?_
           obtain rfl := si hs
           refine nrm_join (Op.bytesLess x10.Name x11.Name) rfl ?_
           exact cut_of [1, 2, 10, 11, 12, 13, 14, 15, 134] [2000084, 2] kr kr kr
          ·replace hs := bif_t h12 hs
           refine d_runs 16 20 [(134, .bool true), (133, .bool true), (132, .no), (131, .no), (130, .no), (129, .no), (128, .no), (127, .no), (126, .no), (125, .no), (124, .no), (123, .no), (122, .no), (121, .no), (120, .no), (119, .no)] (pfp 16 35) kr kr ?_
           refine d_nil kr ?_
           cases hs
           refine nrm_join true rfl ?_
           exact cut_of [1, 2, 10, 11, 12, 13, 14, 15, 134] [2000084, 2] kr kr kr
       ·subst hz; clear hs; have hs := hk8; clear hk8
        refine nT ?_
        obtain ⟨z9, hs, hk9⟩ := bS hs
        refine v_join (S := Int) (fun u => u = z9) (fun u => [(1, .vs 1 (mLB use)), (2, .ptr 2 0 0), (10, .vs 1 (mLB y2)), (11, .int .i64 q3.1), (12, .sl 1 2000084 (((q3.2.2 ++ [x5.Name])).length) 0 (((q3.2.2 ++ [x5.Name])).length)), (13, .int .i64 q3.2.1), (14, .int .i64 u), (15, .int .i64 q4.2)]) (fun u => [(2000084, .row 9 1 0 (mS (q3.2.2 ++ [x5.Name]))), (2, .box 30 (enc_Plan p))]) ?_ (fun v9 hz => ?_)
        ·refine v_cond v8 kr (fun h13 => ?_) (fun h13 => ?_)
         ·replace hs := bif_t h13 hs
          refine vT (oR 2 [(14, .int .i64 q4.2), (135, .int .i64 q4.2)] kr ?_)
          refine oN ?_
          obtain rfl := si hs
          refine nrm_join q4.2 rfl ?_
          exact cut_of [1, 2, 10, 11, 12, 13, 14, 15] [2000084, 2] kr kr kr
         ·replace hs := bif_f h13 hs
          refine vK ?_
          obtain rfl := si hs
          refine nrm_join q4.1 rfl ?_
          exact cut_of [1, 2, 10, 11, 12, 13, 14, 15] [2000084, 2] kr kr kr
        ·subst hz; clear hs; have hs := hk9; clear hk9
         refine nB (nT (vT (oR 3 [(15, .int .i64 (w64 (q4.2 + 1))), (98, .int .i64 (w64 (q4.2 + 1))), (97, .int .i64 q4.2)] kr ?_)))
         refine oN (nrm_fuel (v9, (w64 (q4.2 + 1))) hs ?_)
         exact cut_of [1, 2, 10, 11, 12, 13, 14, 15] [2000084, 2] kr kr kr
      ·replace hs := bif_f h9 hs
       refine v_exit (exit_thenV (exit_fuel ?_))
       refine exit_blkV ?_
       obtain rfl := si hs
       refine nrm_join q4.1 rfl ?_
       exact cut_of [1, 2, 10, 12, 13, 14] [2000084, 2] kr kr kr
     ·subst hz; clear hs; have hs := hk7; clear hk7
      refine nT (vT (oR 3 [(11, .int .i64 (max v7 0)), (137, .int .i64 (max v7 0)), (136, .int .i64 v7)] kr ?_))
      refine oN (nB (nT (vT (oR 3 [(13, .int .i64 (w64 (q3.2.1 - 1))), (83, .int .i64 (w64 (q3.2.1 - 1))), (82, .int .i64 q3.2.1)] kr ?_))))
      refine oN (nrm_fuel ((max v7 0), (w64 (q3.2.1 - 1)), (q3.2.2 ++ [x5.Name])) hs ?_)
      exact cut_of [1, 2, 10, 11, 12, 13] [2, 2000084] kr kr kr
    ·replace hs := bif_f h8 hs
     refine v_exit (exit_thenV (exit_fuel ?_))
     refine exit_blkV ?_
     obtain rfl := si hs
     refine nrm_join q3.2.2 rfl ?_
     exact cut_of [12] [2000084] kr kr kr
   ·subst hz; clear hs; have hs := hk6; clear hk6
    refine nT (vS (vT (oR 2 [(4, .sl 1 2000084 ((v6).length) 0 ((v6).length)), (138, .sl 1 2000084 ((v6).length) 0 ((v6).length))] kr ?_)))
    refine oN (nT (v_to _ [(2000084, .row 9 1 (((mS v6)).length) (mS v6))] (cut_freeze (F := [(2000084, .row 9 1 0 (mS v6))]) [2000084] rfl kr kr) ?_))
    refine v_to ((4, .vs 1 (mS v6)) :: _) _ (cut_view (R := [(2000084, .row 9 1 (((mS v6)).length) (mS v6))]) (ks := [2000084]) kr kr (.row (t := 9) (fz := (((mS v6)).length)) kr lh)) ?_
    refine v_ret ?_
    cases hs
    exact fin_ret kr kr kr
theorem w_gr16_ready (p : Plan) (use : (List (List Bool))) (done : (List Bool)) (r : Int) (hs : s_gr16_ready p use done = some r) : FnA Tryz.prog 53 [.agg (enc_Plan p), .vs 1 (List.map (encL 1 EV.encB) use), .vs 1 (mB done)] [] (.int .i64 r) [] := by
 refine fnA_of_wp (N := 68) Tryz.func53 rfl rfl rfl fun cK0 => ?_
 unfold s_gr16_ready at hs
 refine v_same (ρ' := [(0, .agg (enc_Plan p)), (1, .vs 1 (mLB use)), (2, .vs 1 (mB done))]) rfl rfl ?_
 refine vS (vT (o_runh 2 [(6, .int .i64 0), (3, .ptr 3 0 0)] [(3, .box 30 (enc_Plan p))] kr ?_))
 refine oN (nT (vS (vT (oR 1 [(7, .int .i64 (-1))] kr ?_))))
 refine oN (nT (vS (vS (vT (oR 1 [(8, .int .i64 0)] kr ?_)))))
 refine oN (nT ?_)
 obtain ⟨z1, hs, hk1⟩ := bS hs
 refine v_join (S := Int) (fun u => u = z1) (fun u => [(7, .int .i64 u)]) (fun u => []) ?_ (fun v1 hz => ?_)
 ·refine vB ?_
  refine v_fuel (S := Int × Int) (fun u => [(1, .vs 1 (mLB use)), (2, .vs 1 (mB done)), (3, .ptr 3 0 0), (7, .int .i64 u.1), (8, .int .i64 u.2)]) (fun u => [(3, .box 30 (enc_Plan p))]) (s_gr16_ready_L1 p use done) (fun _ => rfl) KK ((-1), 0) hs (cut_of [1, 2, 3, 7, 8] [3] kr kr kr) (fun K1 q1 hs => ?_)
  rw [s_gr16_ready_L1] at hs
  show WpV cK0 Tryz.prog none 68 _ _ [(1, .vs 1 (mLB use)), (2, .vs 1 (mB done)), (3, .ptr 3 0 0), (7, .int .i64 q1.1), (8, .int .i64 q1.2)] [(3, .box 30 (enc_Plan p))] []
  refine vS (vS (vT (oR 2 [(12, .vs 1 (mLB use)), (11, .int .i64 q1.2)] kr ?_)))
  refine oP (v := .int .i64 (List.length use : Int)) kr kr (loc_lenVs (sz := 1) (els := (mLB use)) kr kr lM) ?_
  refine oR 1 [(14, .bool (decide (q1.2 < (List.length use : Int))))] kr ?_
  refine oN (nT ?_)
  refine v_cond (decide (q1.2 < (List.length use : Int))) kr (fun h1 => ?_) (fun h1 => ?_)
  ·replace hs := bif_t h1 hs
   refine vK (nT (vS (vB (vS (vT (oR 2 [(18, .int .i64 q1.2), (17, .vs 1 (mB done))] kr ?_))))))
   obtain ⟨x1, g1, hs⟩ := bS hs; obtain ⟨g1a, g1b, g1c⟩ := idx_some g1
   refine oP (v := .vp [.bool x1] 0) kr kr (loc_indexVs (e := 4) (sz := 1) (k := .i64) (els := (mB done)) (cs := (EV.encB x1)) kr kr kr g1a (by rw [g1c]; exact map_get _ (by omega))) ?_
   refine oR 3 [(9, .bool (!x1)), (21, .bool (!x1)), (20, .bool x1)] kr ?_
   refine oN (nT (vS (vS (vT (oR 1 [(10, .int .i64 0)] kr ?_)))))
   refine oN (nT ?_)
   obtain ⟨z2, hs, hk2⟩ := bS hs
   refine v_join (S := Bool) (fun u => u = z2) (fun u => [(1, .vs 1 (mLB use)), (2, .vs 1 (mB done)), (3, .ptr 3 0 0), (7, .int .i64 q1.1), (8, .int .i64 q1.2), (9, .bool u)]) (fun u => [(3, .box 30 (enc_Plan p))]) ?_ (fun v2 hz => ?_)
   ·refine vB ?_
    refine v_fuel (S := Bool × Int) (fun u => [(1, .vs 1 (mLB use)), (2, .vs 1 (mB done)), (3, .ptr 3 0 0), (7, .int .i64 q1.1), (8, .int .i64 q1.2), (9, .bool u.1), (10, .int .i64 u.2)]) (fun u => [(3, .box 30 (enc_Plan p))]) (s_gr16_ready_L2 use done q1) (fun _ => rfl) KK ((!x1), 0) hs (cut_of [1, 2, 3, 7, 8, 9, 10] [3] kr kr kr) (fun K2 q2 hs => ?_)
    rw [s_gr16_ready_L2] at hs
    show WpV cK0 Tryz.prog none 68 _ _ [(1, .vs 1 (mLB use)), (2, .vs 1 (mB done)), (3, .ptr 3 0 0), (7, .int .i64 q1.1), (8, .int .i64 q1.2), (9, .bool q2.1), (10, .int .i64 q2.2)] [(3, .box 30 (enc_Plan p))] []
    refine vS (vS (vT (oR 2 [(23, .vs 1 (mLB use)), (22, .int .i64 q2.2)] kr ?_)))
    refine oP (v := .int .i64 (List.length use : Int)) kr kr (loc_lenVs (sz := 1) (els := (mLB use)) kr kr lM) ?_
    refine oR 1 [(25, .bool (decide (q2.2 < (List.length use : Int))))] kr ?_
    refine oN (nT ?_)
    refine v_cond (decide (q2.2 < (List.length use : Int))) kr (fun h2 => ?_) (fun h2 => ?_)
    ·replace hs := bif_t h2 hs
     refine vK (nT (vS (vB ?_)))
     obtain ⟨z3, hs, hk3⟩ := bS hs
     refine v_join (S := Bool) (fun u => u = z3) (fun u => [(1, .vs 1 (mLB use)), (2, .vs 1 (mB done)), (3, .ptr 3 0 0), (7, .int .i64 q1.1), (8, .int .i64 q1.2), (9, .bool u), (10, .int .i64 q2.2)]) (fun u => [(3, .box 30 (enc_Plan p))]) ?_ (fun v3 hz => ?_)
     ·refine vT (oR 2 [(29, .bool q2.1), (28, .bool q2.1)] kr ?_)
      cases h3 : (q2.1)
      ·replace hs := bif_f h3 hs
       refine oR 16 [(9, .bool false), (44, .bool false), (43, .no), (42, .no), (41, .no), (40, .no), (39, .no), (38, .no), (37, .no), (36, .no), (35, .no), (34, .no), (33, .no), (32, .no), (31, .no), (30, .no)] kr ?_
       refine oN ?_
       cases hs
       refine nrm_join false rfl ?_
       exact cut_of [1, 2, 3, 7, 8, 9, 10] [3] kr kr kr
      ·replace hs := bif_t h3 hs
       refine oR 2 [(31, .int .i64 q2.2), (30, .vs 1 (mB done))] kr ?_
       obtain ⟨x2, g2, hs⟩ := bS hs; obtain ⟨g2a, g2b, g2c⟩ := idx_some g2
       refine oP (v := .vp [.bool x2] 0) kr kr (loc_indexVs (e := 4) (sz := 1) (k := .i64) (els := (mB done)) (cs := (EV.encB x2)) kr kr kr g2a (by rw [g2c]; exact map_get _ (by omega))) ?_
       refine oR 2 [(34, .bool x2), (33, .bool x2)] kr ?_
       cases h4 : (x2)
       ·replace hs := bif_f h4 hs
        refine oR 2 [(36, .int .i64 q1.2), (35, .vs 1 (mLB use))] kr ?_
        obtain ⟨x3, g3, hs⟩ := bS hs; obtain ⟨g3a, g3b, g3c⟩ := idx_some g3
        refine oP (v := .vp [.vs 1 (mB x3)] 0) kr kr (loc_indexVs (e := 93) (sz := 1) (k := .i64) (els := (mLB use)) (cs := (eB x3)) kr kr kr g3a (by rw [g3c]; exact map_get _ (by omega))) ?_
        refine oR 2 [(39, .int .i64 q2.2), (38, .vs 1 (mB x3))] kr ?_
        obtain ⟨x4, g4, hs⟩ := bS hs; obtain ⟨g4a, g4b, g4c⟩ := idx_some g4
        refine oP (v := .vp [.bool x4] 0) kr kr (loc_indexVs (e := 4) (sz := 1) (k := .i64) (els := (mB x3)) (cs := (EV.encB x4)) kr kr kr g4a (by rw [g4c]; exact map_get _ (by omega))) ?_
        refine oR 5 [(9, .bool (!x4)), (44, .bool (!x4)), (43, .bool (!x4)), (42, .bool (!x4)), (41, .bool x4)] kr ?_
        refine oN ?_
        obtain rfl := si hs
        refine nrm_join (!x4) rfl ?_
        exact cut_of [1, 2, 3, 7, 8, 9, 10] [3] kr kr kr
       ·replace hs := bif_t h4 hs
        refine oR 11 [(9, .bool true), (44, .bool true), (43, .bool true), (42, .no), (41, .no), (40, .no), (39, .no), (38, .no), (37, .no), (36, .no), (35, .no)] kr ?_
        refine oN ?_
        cases hs
        refine nrm_join true rfl ?_
        exact cut_of [1, 2, 3, 7, 8, 9, 10] [3] kr kr kr
     ·subst hz; clear hs; have hs := hk3; clear hk3
      refine nB (nT (vT (oR 3 [(10, .int .i64 (w64 (q2.2 + 1))), (27, .int .i64 (w64 (q2.2 + 1))), (26, .int .i64 q2.2)] kr ?_)))
      refine oN (nrm_fuel (v3, (w64 (q2.2 + 1))) hs ?_)
      exact cut_of [1, 2, 3, 7, 8, 9, 10] [3] kr kr kr
    ·replace hs := bif_f h2 hs
     refine v_exit (exit_thenV (exit_fuel ?_))
     refine exit_blkV ?_
     obtain rfl := si hs
     refine nrm_join q2.1 rfl ?_
     exact cut_of [1, 2, 3, 7, 8, 9] [3] kr kr kr
   ·subst hz; clear hs; have hs := hk2; clear hk2
    refine nT (vS ?_)
    obtain ⟨z4, hs, hk4⟩ := bS hs
    refine v_join (S := Bool) (fun u => u = z4) (fun u => [(1, .vs 1 (mLB use)), (2, .vs 1 (mB done)), (3, .ptr 3 0 0), (7, .int .i64 q1.1), (8, .int .i64 q1.2), (65, .bool u)]) (fun u => [(3, .box 30 (enc_Plan p))]) ?_ (fun v4 hz => ?_)
    ·refine v_draw mixedH kr ?_
     refine d_runs 2 0 [(46, .bool v2), (45, .bool v2)] (pfp 2 1) kr kr ?_
     cases h5 : (v2)
     ·replace hs := bif_f h5 hs
      refine d_runs 19 2 [(65, .bool false), (64, .no), (63, .no), (62, .no), (61, .no), (60, .no), (59, .no), (58, .no), (57, .no), (56, .no), (55, .no), (54, .no), (53, .no), (52, .no), (51, .no), (50, .no), (49, .no), (48, .no), (47, .no)] (pfp 19 20) kr kr ?_
      refine d_nil kr ?_
      cases hs
      refine nrm_join false rfl ?_
      exact cut_of [1, 2, 3, 7, 8, 65] [3] kr kr kr
     ·replace hs := bif_t h5 hs
      refine d_runs 3 2 [(49, .bool (decide (q1.1 < 0))), (48, .bool (decide (q1.1 < 0))), (47, .int .i64 q1.1)] (pfp 3 4) kr kr ?_
      cases h6 : ((decide (q1.1 < 0)))
      ·replace hs := bif_f h6 hs
       refine d_runs 3 5 [(52, .int .i64 q1.2), (51, .vs 6 (mM enc_Def p.Defs)), (50, .ptr 3 0 0)] [⟨7, [], []⟩, ⟨6, [], [3]⟩, ⟨5, [], []⟩] kr kr ?_
       obtain ⟨x5, g5, hs⟩ := bS hs; obtain ⟨g5a, g5b, g5c⟩ := idx_some g5
       refine d_pure (v := .vp (enc_Def x5) 0) 8 rfl rfl rfl rfl kr kr (loc_indexVs (e := 51) (sz := 6) (k := .i64) (els := (mM enc_Def p.Defs)) (cs := (enc_Def x5)) kr kr kr g5a (by rw [g5c]; exact map_get _ (by omega))) ?_
       refine d_runs 6 9 [(59, .int .i64 (max q1.1 0)), (58, .int .i64 q1.1), (57, .vs 6 (mM enc_Def p.Defs)), (56, .ptr 3 0 0), (55, .str x5.Name), (54, .vp (enc_Def x5) 0)] [⟨14, [], []⟩, ⟨13, [], []⟩, ⟨12, [], [3]⟩, ⟨11, [], []⟩, ⟨10, [], []⟩, ⟨9, [], []⟩] kr kr ?_
       obtain ⟨x6, g6, hs⟩ := bS hs; obtain ⟨g6a, g6b, g6c⟩ := idx_some g6
       refine d_pure (v := .vp (enc_Def x6) 0) 15 rfl rfl rfl rfl kr kr (loc_indexVs (e := 51) (sz := 6) (k := .i64) (els := (mM enc_Def p.Defs)) (cs := (enc_Def x6)) kr kr kr g6a (by rw [g6c]; exact map_get _ (by omega))) ?_
       refine d_runs 5 16 [(65, .bool (Op.bytesLess x5.Name x6.Name)), (64, .bool (Op.bytesLess x5.Name x6.Name)), (63, .bool (Op.bytesLess x5.Name x6.Name)), (62, .str x6.Name), (61, .vp (enc_Def x6) 0)] (pfp 5 20) kr kr ?_
       refine d_nil kr ?_
       obtain rfl := si hs
       refine nrm_join (Op.bytesLess x5.Name x6.Name) rfl ?_
       exact cut_of [1, 2, 3, 7, 8, 65] [3] kr kr kr
      ·replace hs := bif_t h6 hs
       refine d_runs 16 5 [(65, .bool true), (64, .bool true), (63, .no), (62, .no), (61, .no), (60, .no), (59, .no), (58, .no), (57, .no), (56, .no), (55, .no), (54, .no), (53, .no), (52, .no), (51, .no), (50, .no)] (pfp 16 20) kr kr ?_
       refine d_nil kr ?_
       cases hs
       refine nrm_join true rfl ?_
       exact cut_of [1, 2, 3, 7, 8, 65] [3] kr kr kr
    ·subst hz; clear hs; have hs := hk4; clear hk4
     refine nT ?_
     obtain ⟨z5, hs, hk5⟩ := bS hs
     refine v_join (S := Int) (fun u => u = z5) (fun u => [(1, .vs 1 (mLB use)), (2, .vs 1 (mB done)), (3, .ptr 3 0 0), (7, .int .i64 u), (8, .int .i64 q1.2)]) (fun u => [(3, .box 30 (enc_Plan p))]) ?_ (fun v5 hz => ?_)
     ·refine v_cond v4 kr (fun h7 => ?_) (fun h7 => ?_)
      ·replace hs := bif_t h7 hs
       refine vT (oR 2 [(7, .int .i64 q1.2), (66, .int .i64 q1.2)] kr ?_)
       refine oN ?_
       obtain rfl := si hs
       refine nrm_join q1.2 rfl ?_
       exact cut_of [1, 2, 3, 7, 8] [3] kr kr kr
      ·replace hs := bif_f h7 hs
       refine vK ?_
       obtain rfl := si hs
       refine nrm_join q1.1 rfl ?_
       exact cut_of [1, 2, 3, 7, 8] [3] kr kr kr
     ·subst hz; clear hs; have hs := hk5; clear hk5
      refine nB (nT (vT (oR 3 [(8, .int .i64 (w64 (q1.2 + 1))), (16, .int .i64 (w64 (q1.2 + 1))), (15, .int .i64 q1.2)] kr ?_)))
      refine oN (nrm_fuel (v5, (w64 (q1.2 + 1))) hs ?_)
      exact cut_of [1, 2, 3, 7, 8] [3] kr kr kr
  ·replace hs := bif_f h1 hs
   refine v_exit (exit_thenV (exit_fuel ?_))
   refine exit_blkV ?_
   obtain rfl := si hs
   refine nrm_join q1.1 rfl ?_
   exact cut_of [7] [] kr kr kr
 ·subst hz; clear hs; have hs := hk1; clear hk1
  refine nT (vS (vT (oR 2 [(6, .int .i64 v1), (67, .int .i64 v1)] kr ?_)))
  refine oN (nT (v_ret ?_))
  cases hs
  exact fin_ret kr kr kr
theorem w_gr16_Order (p : Plan) (r : (List Int) × (List Sr) × Int) (hs : s_gr16_Order p = some r) : FnA Tryz.prog 34 [.agg (enc_Plan p)] [] (.tup [.vs 1 (mI r.1), .vs 1 (mS r.2.1), .int .i64 r.2.2]) [] := by
 refine fnA_of_wp (N := 44) Tryz.func34 rfl rfl rfl fun cK0 => ?_
 unfold s_gr16_Order at hs
 refine v_same (ρ' := [(0, .agg (enc_Plan p))]) rfl rfl ?_
 refine vS (vT (o_runh 4 [(4, .int .i64 0), (3, .nils), (2, .nils), (1, .ptr 1 0 0)] [(1, .box 30 (enc_Plan p))] kr ?_))
 refine oN (nT (vS (vS (vT (oR 1 [(11, .agg (enc_Plan p))] kr ?_)))))
 obtain ⟨y1, c1, hs⟩ := bS hs
 refine oP (v := .bool y1) kr kr (loc_gcall0 (callV_func hbv50 kr) (w_gr16_twice p _ c1) kr) ?_
 refine oN (nT ?_)
 refine v_cond y1 kr (fun h1 => ?_) (fun h1 => ?_)
 ·replace hs := bif_t h1 hs
  refine vS (vT (oR 3 [(4, .int .i64 5), (3, .nils), (2, .nils)] kr ?_))
  refine oN (nT (v_to ((2, .vs 1 (mI [])) :: _) _ (cut_view (R := []) (ks := []) kr kr (.nils 1)) ?_))
  refine v_to ((3, .vs 1 (mS [])) :: _) _ (cut_view (R := []) (ks := []) kr kr (.nils 1)) ?_
  refine v_ret (rT ?_)
  cases hs
  exact fin_ret kr kr kr
 ·replace hs := bif_f h1 hs
  refine vK (nT (vS (vT (oR 1 [(13, .agg (enc_Plan p))] kr ?_))))
  obtain ⟨y2, c2, hs⟩ := bS hs
  refine oP (v := .vs 1 (mLB y2)) kr kr (loc_gcall0 (callV_func hbv51 kr) (w_gr16_uses p _ c2) kr) ?_
  refine oR 1 [(5, .vs 1 (mLB y2))] kr ?_
  refine oN (nT (vS (vT (oR 2 [(16, .vs 1 (mLB y2)), (15, .agg (enc_Plan p))] kr ?_))))
  obtain ⟨y3, c3, hs⟩ := bS hs
  refine oP (v := .vs 1 (mS y3)) kr kr (loc_gcall0 (callV_func hbv52 kr) (w_gr16_circle p y2 _ c3) kr) ?_
  refine oR 1 [(6, .vs 1 (mS y3))] kr ?_
  refine oN (nT (vS (vS (vT (oR 1 [(18, .vs 1 (mS y3))] kr ?_)))))
  refine oP (v := .int .i64 (List.length y3 : Int)) kr kr (loc_lenVs (sz := 1) (els := (mS y3)) kr kr lM) ?_
  refine oR 1 [(20, .bool (decide ((List.length y3 : Int) > 0)))] kr ?_
  refine oN (nT ?_)
  refine v_cond (decide ((List.length y3 : Int) > 0)) kr (fun h2 => ?_) (fun h2 => ?_)
  ·replace hs := bif_t h2 hs
   refine vS (vT (oR 4 [(4, .int .i64 16), (3, .vs 1 (mS y3)), (2, .nils), (21, .vs 1 (mS y3))] kr ?_))
   refine oN (nT (v_to ((2, .vs 1 (mI [])) :: _) _ (cut_view (R := []) (ks := []) kr kr (.nils 1)) ?_))
   refine v_ret (rT ?_)
   cases hs
   exact fin_ret kr kr kr
  ·replace hs := bif_f h2 hs
   refine vK (nT (vS (vT (oR 1 [(22, .vs 1 (mLB y2))] kr ?_))))
   refine oP (v := .int .i64 (List.length y2 : Int)) kr kr (loc_lenVs (sz := 1) (els := (mLB y2)) kr kr lM) ?_
   obtain ⟨⟨g1a, g1b, g1c⟩, hs⟩ := bG hs
   refine o_loc (F := []) (F' := [(24, .row 4 1 0 (mB (uR y2 (false : Bool))))]) (v := .sl 1 24 (((uR y2 (false : Bool))).length) 0 (((uR y2 (false : Bool))).length)) [] kr kr rfl kr (loc_makeSliceT (L := ((uR y2 (false : Bool))).length) (e := 4) (sz := 1) (bytes := 1) (q := (List.length y2 : Int)) (k := .i64) (k2 := .i64) (cs := [.bool false]) (cs2 := [.bool false]) kr kr kr kr kr g1a g1b g1c (List.map_replicate (f := EV.encB)).symm (List.length_replicate ..) (fun _ _ h => h)) kr ?_
   refine oR 1 [(7, .sl 1 24 (((uR y2 (false : Bool))).length) 0 (((uR y2 (false : Bool))).length))] kr ?_
   refine oN (nT (vS (vT (oR 1 [(8, .nils)] kr ?_))))
   refine oN (nT (vS (vS (vT (oR 1 [(9, .int .i64 0)] kr ?_)))))
   refine oN (nT ?_)
   obtain ⟨z1, hs, hk1⟩ := bS hs
   refine v_join (S := (List Int)) (fun u => u = z1) (fun u => [(8, .sl 1 2000039 ((u).length) 0 ((u).length))]) (fun u => [(2000039, .row 3 1 0 (mI u))]) ?_ (fun v1 hz => ?_)
   ·refine vB ?_
    refine v_fuel (S := Int × (List Bool) × (List Int)) (fun u => [(1, .ptr 1 0 0), (5, .vs 1 (mLB y2)), (7, .sl 1 24 ((u.2.1).length) 0 ((u.2.1).length)), (8, .sl 1 2000039 ((u.2.2).length) 0 ((u.2.2).length)), (9, .int .i64 u.1)]) (fun u => [(24, .row 4 1 0 (mB u.2.1)), (1, .box 30 (enc_Plan p)), (2000039, .row 3 1 0 (mI u.2.2))]) (s_gr16_Order_L1 p y2) (fun _ => rfl) KK (0, (uR y2 (false : Bool)), []) hs (Cut.trans (cut_nilRow 8 2000039 3 1 rfl kr kr) (cut_of [1, 5, 7, 8, 9] [24, 1, 2000039] kr kr kr)) (fun K1 q1 hs => ?_)
    rw [s_gr16_Order_L1] at hs
    show WpV cK0 Tryz.prog none 44 _ _ [(1, .ptr 1 0 0), (5, .vs 1 (mLB y2)), (7, .sl 1 24 ((q1.2.1).length) 0 ((q1.2.1).length)), (8, .sl 1 2000039 ((q1.2.2).length) 0 ((q1.2.2).length)), (9, .int .i64 q1.1)] [(24, .row 4 1 0 (mB q1.2.1)), (1, .box 30 (enc_Plan p)), (2000039, .row 3 1 0 (mI q1.2.2))] []
    refine vS (vS (vT (oR 2 [(26, .vs 1 (mLB y2)), (25, .int .i64 q1.1)] kr ?_)))
    refine oP (v := .int .i64 (List.length y2 : Int)) kr kr (loc_lenVs (sz := 1) (els := (mLB y2)) kr kr lM) ?_
    refine oR 1 [(28, .bool (decide (q1.1 < (List.length y2 : Int))))] kr ?_
    refine oN (nT ?_)
    refine v_cond (decide (q1.1 < (List.length y2 : Int))) kr (fun h3 => ?_) (fun h3 => ?_)
    ·replace hs := bif_t h3 hs
     refine vK (nT (vS (vB (vS (vT (oR 3 [(33, .sl 1 24 ((q1.2.1).length) 0 ((q1.2.1).length)), (32, .vs 1 (mLB y2)), (31, .agg (enc_Plan p))] kr ?_))))))
     obtain ⟨y4, c4, hs⟩ := bS hs
     refine o_loc (F := [(24, .row 4 1 0 (mB q1.2.1))]) (F' := [(24, .row 4 1 0 (mB q1.2.1))]) (v := .int .i64 y4) [24] kr kr rfl kr (loc_gcallB (vs := [.agg (enc_Plan p), .vs 1 (mLB y2), .sl 1 24 ((q1.2.1).length) 0 ((q1.2.1).length)]) (R := [(24, .row 4 1 0 (mB q1.2.1))]) (callV_func hbv53 kr) (w_gr16_ready p y2 q1.2.1 _ c4) (.cons (.same _) (.cons (.same _) (.cons (.row (t := 4) (fz := 0) kr lh) (.nil)))) kr kr kr) kr ?_
     refine oR 2 [(10, .int .i64 (max y4 0)), (35, .int .i64 (max y4 0))] kr ?_
     refine oN (nT (vS (vT (oR 2 [(37, .int .i64 (max y4 0)), (36, .sl 1 24 ((q1.2.1).length) 0 ((q1.2.1).length))] kr ?_))))
     obtain ⟨⟨g2a, g2b⟩, hs⟩ := bG hs
     refine oP (v := .ptr 24 ((q1.2.1).length) ((Int.toNat (max y4 0)) * 1 + 0)) kr kr (loc_indexRowT (e := 4) (sz := 1) (kk := 24) (L := (q1.2.1).length) (n := (q1.2.1).length) (k := .i64) (i := (max y4 0)) kr kr kr g2a g2b) ?_
     obtain ⟨e1, he1, hs⟩ := bE hs
     refine o_loc (F := [(24, .row 4 1 0 (mB q1.2.1))]) (F' := [(24, .row 4 1 0 (mB (List.set q1.2.1 (Int.toNat (max y4 0)) true)))]) (v := .no) [24] kr kr rfl kr (loc_storeRowT (L := (q1.2.1).length) (off := (Int.toNat (max y4 0)) * 1 + 0) (els := (mB q1.2.1)) (cs := [.bool e1]) (c' := [.bool true]) (Int.toNat (max y4 0)) 0 kr lh rfl (by rw [← he1]; exact map_get _ (by first | omega | (simp only [List.length_set, cpyT_length]; omega))) (by first | exact Nat.zero_le _ | omega) kr kr kr kr kr kr List.map_set.symm) kr ?_
     refine oN (nT (vT (o_runh 3 [(41, .sl 1 41 1 0 1), (40, .int .i64 (max y4 0)), (39, .sl 1 2000039 ((q1.2.2).length) 0 ((q1.2.2).length))] [(41, .row 3 1 0 (mI [(max y4 0)])), (24, .row 4 1 0 (mB (List.set q1.2.1 (Int.toNat (max y4 0)) true))), (1, .box 30 (enc_Plan p)), (2000039, .row 3 1 0 (mI q1.2.2))] kr ?_)))
     obtain ⟨_, g3, hs⟩ := bS hs; replace g3 := grd_some g3
     refine o_loc (F := [(2000039, .row 3 1 0 (mI q1.2.2)), (41, .row 3 1 0 (mI [(max y4 0)]))]) (F' := [(2000039, .row 3 1 0 (mI (q1.2.2 ++ [(max y4 0)]))), (41, .row 3 1 0 (mI [(max y4 0)]))]) (v := .sl 1 2000039 (((q1.2.2 ++ [(max y4 0)])).length) 0 (((q1.2.2 ++ [(max y4 0)])).length)) [2000039, 41] kr kr rfl kr (loc_appendT (e := 3) (sz := 1) (bytes := 8) (L := (q1.2.2).length) (els := (mI q1.2.2)) (ys := (mI [(max y4 0)])) kr kr (by first | exact List.length_map .. | rfl) (.sl (t := 3) (fz := 0) (ys := (mI [(max y4 0)])) kr kr) (map_ones EV.encI (fun _ => rfl) _) (map_lens EV.encI (fun _ => rfl) _) kr (by first | exact (List.map_append ..).symm | rfl | simp only [List.map_nil, List.nil_append]) (List.length_map ..) g3 (by omega)) kr ?_
     refine oR 1 [(8, .sl 1 2000039 (((q1.2.2 ++ [(max y4 0)])).length) 0 (((q1.2.2 ++ [(max y4 0)])).length))] kr ?_
     refine oN (nB (nT (vT (oR 3 [(9, .int .i64 (w64 (q1.1 + 1))), (30, .int .i64 (w64 (q1.1 + 1))), (29, .int .i64 q1.1)] kr ?_))))
     refine oN (nrm_fuel ((w64 (q1.1 + 1)), (List.set q1.2.1 (Int.toNat (max y4 0)) true), (q1.2.2 ++ [(max y4 0)])) hs ?_)
     exact Cut.trans (cut_eq 7 (v := .sl 1 24 ((q1.2.1).length) 0 ((q1.2.1).length)) (v' := .sl 1 24 (((List.set q1.2.1 (Int.toNat (max y4 0)) true)).length) 0 (((List.set q1.2.1 (Int.toNat (max y4 0)) true)).length)) kr (by first | rfl | simp only [List.length_set, cpyT_length])) (cut_of [1, 5, 7, 8, 9] [24, 1, 2000039] kr kr kr)
    ·replace hs := bif_f h3 hs
     refine v_exit (exit_thenV (exit_fuel ?_))
     refine exit_blkV ?_
     obtain rfl := si hs
     refine nrm_join q1.2.2 rfl ?_
     exact cut_of [8] [2000039] kr kr kr
   ·subst hz; clear hs; have hs := hk1; clear hk1
    refine nT (vS (vT (oR 4 [(4, .int .i64 0), (3, .nils), (2, .sl 1 2000039 ((v1).length) 0 ((v1).length)), (43, .sl 1 2000039 ((v1).length) 0 ((v1).length))] kr ?_)))
    refine oN (nT (v_to _ [(2000039, .row 3 1 (((mI v1)).length) (mI v1))] (cut_freeze (F := [(2000039, .row 3 1 0 (mI v1))]) [2000039] rfl kr kr) ?_))
    refine v_to ((2, .vs 1 (mI v1)) :: _) _ (cut_view (R := [(2000039, .row 3 1 (((mI v1)).length) (mI v1))]) (ks := [2000039]) kr kr (.row (t := 3) (fz := (((mI v1)).length)) kr lh)) ?_
    refine v_to ((3, .vs 1 (mS [])) :: _) _ (cut_view (R := []) (ks := []) kr kr (.nils 1)) ?_
    refine v_ret ?_
    cases hs
    exact fin_ret kr kr kr
theorem w_gr17_named (p : Plan) (measures : (List Entry)) (defs : (List Int)) (s : Sr) (r : Int) (hs : s_gr17_named p measures defs s = some r) : FnA Tryz.prog 46 [.agg (enc_Plan p), .vs 2 (mM enc_Entry measures), .vs 1 (mI defs), .str s] [] (.int .i64 r) [] := by
 refine fnA_of_wp (N := 54) Tryz.func46 rfl rfl rfl fun cK0 => ?_
 unfold s_gr17_named at hs
 refine v_same (ρ' := [(0, .agg (enc_Plan p)), (1, .vs 2 (mM enc_Entry measures)), (2, .vs 1 (mI defs)), (3, .str s)]) rfl rfl ?_
 refine vS (vT (o_runh 2 [(8, .int .i64 0), (4, .ptr 4 0 0)] [(4, .box 30 (enc_Plan p))] kr ?_))
 refine oN (nT (vS (vS (vT (oR 1 [(9, .int .i64 0)] kr ?_)))))
 refine oN (nT ?_)
 obtain ⟨z1, hs, hk1⟩ := bS hs
 refine v_join (S := Unit) (fun u => z1 = .inr u) (fun u => [(2, .vs 1 (mI defs)), (3, .str s), (4, .ptr 4 0 0)]) (fun u => [(4, .box 30 (enc_Plan p))]) ?_ (fun v1 hz => ?_)
 ·refine vB ?_
  refine v_fuel (S := Int) (fun u => [(1, .vs 2 (mM enc_Entry measures)), (2, .vs 1 (mI defs)), (3, .str s), (4, .ptr 4 0 0), (9, .int .i64 u)]) (fun u => [(4, .box 30 (enc_Plan p))]) (s_gr17_named_L1 measures s) (fun _ => rfl) KK 0 hs (cut_of [1, 2, 3, 4, 9] [4] kr kr kr) (fun K1 q1 hs => ?_)
  rw [s_gr17_named_L1] at hs
  show WpV cK0 Tryz.prog none 54 _ _ [(1, .vs 2 (mM enc_Entry measures)), (2, .vs 1 (mI defs)), (3, .str s), (4, .ptr 4 0 0), (9, .int .i64 q1)] [(4, .box 30 (enc_Plan p))] []
  refine vS (vS (vT (oR 2 [(12, .vs 2 (mM enc_Entry measures)), (11, .int .i64 q1)] kr ?_)))
  refine oP (v := .int .i64 (List.length measures : Int)) kr kr (loc_lenVs (sz := 2) (els := (mM enc_Entry measures)) kr kr lM) ?_
  refine oR 1 [(14, .bool (decide (q1 < (List.length measures : Int))))] kr ?_
  refine oN (nT ?_)
  refine v_cond (decide (q1 < (List.length measures : Int))) kr (fun h1 => ?_) (fun h1 => ?_)
  ·replace hs := bif_t h1 hs
   refine vK (nT (vS (vB (vS (vT (oR 2 [(18, .int .i64 q1), (17, .vs 2 (mM enc_Entry measures))] kr ?_))))))
   obtain ⟨x1, g1, hs⟩ := bS hs; obtain ⟨g1a, g1b, g1c⟩ := idx_some g1
   refine oP (v := .vp (enc_Entry x1) 0) kr kr (loc_indexVs (e := 40) (sz := 2) (k := .i64) (els := (mM enc_Entry measures)) (cs := (enc_Entry x1)) kr kr kr g1a (by rw [g1c]; exact map_get _ (by omega))) ?_
   refine oR 4 [(23, .bool (decide (x1.Name = s))), (22, .str s), (21, .str x1.Name), (20, .vp (enc_Entry x1) 0)] kr ?_
   refine oN (nT ?_)
   refine v_cond (decide (x1.Name = s)) kr (fun h2 => ?_) (fun h2 => ?_)
   ·replace hs := bif_t h2 hs
    refine vS (vT (oR 2 [(25, .int .i64 q1), (24, .vs 2 (mM enc_Entry measures))] kr ?_))
    obtain ⟨x2, g2, hs⟩ := bS hs; obtain ⟨g2a, g2b, g2c⟩ := idx_some g2
    refine oP (v := .vp (enc_Entry x2) 0) kr kr (loc_indexVs (e := 40) (sz := 2) (k := .i64) (els := (mM enc_Entry measures)) (cs := (enc_Entry x2)) kr kr kr g2a (by rw [g2c]; exact map_get _ (by omega))) ?_
    refine oR 3 [(8, .int .i64 x2.N), (28, .int .i64 x2.N), (27, .vp (enc_Entry x2) 1)] kr ?_
    refine oN (nT (v_ret (rB (rT (ret_fuel ?_)))))
    refine rB (ret_join ?_)
    refine rT ?_
    obtain rfl := si hs
    replace hs := hk1
    cases hs
    exact fin_ret kr kr kr
   ·replace hs := bif_f h2 hs
    refine vK (nB (nT (vT (oR 3 [(9, .int .i64 (w64 (q1 + 1))), (16, .int .i64 (w64 (q1 + 1))), (15, .int .i64 q1)] kr ?_))))
    refine oN (nrm_fuel (w64 (q1 + 1)) hs ?_)
    exact cut_of [1, 2, 3, 4, 9] [4] kr kr kr
  ·replace hs := bif_f h1 hs
   refine v_exit (exit_thenV (exit_fuel ?_))
   refine exit_blkV ?_
   cases hs
   refine nrm_join () rfl ?_
   exact cut_of [2, 3, 4] [4] kr kr kr
 ·subst hz; clear hs; have hs := hk1; clear hk1
  refine nT (vS (vS (vT (oR 1 [(10, .int .i64 0)] kr ?_))))
  refine oN (nT ?_)
  obtain ⟨z2, hs, hk2⟩ := bS hs
  refine v_join (S := Unit) (fun u => z2 = .inr u) (fun u => []) (fun u => []) ?_ (fun v2 hz => ?_)
  ·refine vB ?_
   refine v_fuel (S := Int) (fun u => [(2, .vs 1 (mI defs)), (3, .str s), (4, .ptr 4 0 0), (10, .int .i64 u)]) (fun u => [(4, .box 30 (enc_Plan p))]) (s_gr17_named_L2 p defs s) (fun _ => rfl) KK 0 hs (cut_of [2, 3, 4, 10] [4] kr kr kr) (fun K2 q2 hs => ?_)
   rw [s_gr17_named_L2] at hs
   show WpV cK0 Tryz.prog none 54 _ _ [(2, .vs 1 (mI defs)), (3, .str s), (4, .ptr 4 0 0), (10, .int .i64 q2)] [(4, .box 30 (enc_Plan p))] []
   refine vS (vS ?_)
   obtain ⟨z3, hs, hk3⟩ := bS hs
   refine v_join (S := Bool) (fun u => u = z3) (fun u => [(2, .vs 1 (mI defs)), (3, .str s), (4, .ptr 4 0 0), (10, .int .i64 q2), (39, .bool u)]) (fun u => [(4, .box 30 (enc_Plan p))]) ?_ (fun v3 hz => ?_)
   ·refine vT (oR 3 [(31, .vs 6 (mM enc_Def p.Defs)), (30, .ptr 4 0 0), (29, .int .i64 q2)] kr ?_)
    refine oP (v := .int .i64 (List.length p.Defs : Int)) kr kr (loc_lenVs (sz := 6) (els := (mM enc_Def p.Defs)) kr kr lM) ?_
    refine oR 2 [(34, .bool (decide (q2 < (List.length p.Defs : Int)))), (33, .bool (decide (q2 < (List.length p.Defs : Int))))] kr ?_
    cases h3 : ((decide (q2 < (List.length p.Defs : Int))))
    ·replace hs := bif_f h3 hs
     refine oR 5 [(39, .bool false), (38, .no), (37, .no), (36, .no), (35, .no)] kr ?_
     refine oN ?_
     cases hs
     refine nrm_join false rfl ?_
     exact cut_of [2, 3, 4, 10, 39] [4] kr kr kr
    ·replace hs := bif_t h3 hs
     refine oR 2 [(36, .vs 1 (mI defs)), (35, .int .i64 q2)] kr ?_
     refine oP (v := .int .i64 (List.length defs : Int)) kr kr (loc_lenVs (sz := 1) (els := (mI defs)) kr kr lM) ?_
     refine oR 2 [(39, .bool (decide (q2 < (List.length defs : Int)))), (38, .bool (decide (q2 < (List.length defs : Int))))] kr ?_
     refine oN ?_
     obtain rfl := si hs
     refine nrm_join (decide (q2 < (List.length defs : Int))) rfl ?_
     exact cut_of [2, 3, 4, 10, 39] [4] kr kr kr
   ·subst hz; clear hs; have hs := hk3; clear hk3
    refine nT ?_
    refine v_cond v3 kr (fun h4 => ?_) (fun h4 => ?_)
    ·replace hs := bif_t h4 hs
     refine vK (nT (vS (vB (vS (vT (oR 3 [(44, .int .i64 q2), (43, .vs 6 (mM enc_Def p.Defs)), (42, .ptr 4 0 0)] kr ?_))))))
     obtain ⟨x3, g3, hs⟩ := bS hs; obtain ⟨g3a, g3b, g3c⟩ := idx_some g3
     refine oP (v := .vp (enc_Def x3) 0) kr kr (loc_indexVs (e := 51) (sz := 6) (k := .i64) (els := (mM enc_Def p.Defs)) (cs := (enc_Def x3)) kr kr kr g3a (by rw [g3c]; exact map_get _ (by omega))) ?_
     refine oR 4 [(49, .bool (decide (x3.Name = s))), (48, .str s), (47, .str x3.Name), (46, .vp (enc_Def x3) 0)] kr ?_
     refine oN (nT ?_)
     refine v_cond (decide (x3.Name = s)) kr (fun h5 => ?_) (fun h5 => ?_)
     ·replace hs := bif_t h5 hs
      refine vS (vT (oR 2 [(51, .int .i64 q2), (50, .vs 1 (mI defs))] kr ?_))
      obtain ⟨x4, g4, hs⟩ := bS hs; obtain ⟨g4a, g4b, g4c⟩ := idx_some g4
      refine oP (v := .vp [.int .i64 x4] 0) kr kr (loc_indexVs (e := 3) (sz := 1) (k := .i64) (els := (mI defs)) (cs := (EV.encI x4)) kr kr kr g4a (by rw [g4c]; exact map_get _ (by omega))) ?_
      refine oR 2 [(8, .int .i64 x4), (53, .int .i64 x4)] kr ?_
      refine oN (nT (v_ret (rB (rT (ret_fuel ?_)))))
      refine rB (ret_join ?_)
      refine rT ?_
      obtain rfl := si hs
      replace hs := hk2
      cases hs
      exact fin_ret kr kr kr
     ·replace hs := bif_f h5 hs
      refine vK (nB (nT (vT (oR 3 [(10, .int .i64 (w64 (q2 + 1))), (41, .int .i64 (w64 (q2 + 1))), (40, .int .i64 q2)] kr ?_))))
      refine oN (nrm_fuel (w64 (q2 + 1)) hs ?_)
      exact cut_of [2, 3, 4, 10] [4] kr kr kr
    ·replace hs := bif_f h4 hs
     refine v_exit (exit_thenV (exit_fuel ?_))
     refine exit_blkV ?_
     cases hs
     refine nrm_join () rfl ?_
     exact cut_of [] [] kr kr kr
  ·subst hz; clear hs; have hs := hk2; clear hk2
   refine nT (vS (vT (oR 1 [(8, .int .i64 0)] kr ?_)))
   refine oN (nT (v_ret ?_))
   cases hs
   exact fin_ret kr kr kr
theorem w_gr17_row (p : Plan) (name : Sr) (key : Sr) (r : Int) (hs : s_gr17_row p name key = some r) : FnA Tryz.prog 47 [.agg (enc_Plan p), .str name, .str key] [] (.int .i64 r) [] := by
 refine fnA_of_wp (N := 53) Tryz.func47 rfl rfl rfl fun cK0 => ?_
 unfold s_gr17_row at hs
 refine v_same (ρ' := [(0, .agg (enc_Plan p)), (1, .str name), (2, .str key)]) rfl rfl ?_
 refine vS (vT (o_runh 2 [(6, .int .i64 0), (3, .ptr 3 0 0)] [(3, .box 30 (enc_Plan p))] kr ?_))
 refine oN (nT (vS (vS (vT (oR 1 [(7, .int .i64 0)] kr ?_)))))
 refine oN (nT ?_)
 obtain ⟨z1, hs, hk1⟩ := bS hs
 refine v_join (S := Unit) (fun u => z1 = .inr u) (fun u => []) (fun u => []) ?_ (fun v1 hz => ?_)
 ·refine vB ?_
  refine v_fuel (S := Int) (fun u => [(1, .str name), (2, .str key), (3, .ptr 3 0 0), (7, .int .i64 u)]) (fun u => [(3, .box 30 (enc_Plan p))]) (s_gr17_row_L1 p name key) (fun _ => rfl) KK 0 hs (cut_of [1, 2, 3, 7] [3] kr kr kr) (fun K1 q1 hs => ?_)
  rw [s_gr17_row_L1] at hs
  show WpV cK0 Tryz.prog none 53 _ _ [(1, .str name), (2, .str key), (3, .ptr 3 0 0), (7, .int .i64 q1)] [(3, .box 30 (enc_Plan p))] []
  refine vS (vS (vT (oR 3 [(12, .vs 3 (mM enc_Table p.Tables)), (11, .ptr 3 0 1), (10, .int .i64 q1)] kr ?_)))
  refine oP (v := .int .i64 (List.length p.Tables : Int)) kr kr (loc_lenVs (sz := 3) (els := (mM enc_Table p.Tables)) kr kr lM) ?_
  refine oR 1 [(14, .bool (decide (q1 < (List.length p.Tables : Int))))] kr ?_
  refine oN (nT ?_)
  refine v_cond (decide (q1 < (List.length p.Tables : Int))) kr (fun h1 => ?_) (fun h1 => ?_)
  ·replace hs := bif_t h1 hs
   refine vK (nT (vS (vB (vS (vS (vT (oR 3 [(19, .int .i64 q1), (18, .vs 3 (mM enc_Table p.Tables)), (17, .ptr 3 0 1)] kr ?_)))))))
   obtain ⟨x1, g1, hs⟩ := bS hs; obtain ⟨g1a, g1b, g1c⟩ := idx_some g1
   refine oP (v := .vp (enc_Table x1) 0) kr kr (loc_indexVs (e := 57) (sz := 3) (k := .i64) (els := (mM enc_Table p.Tables)) (cs := (enc_Table x1)) kr kr kr g1a (by rw [g1c]; exact map_get _ (by omega))) ?_
   refine oR 4 [(24, .bool (!(decide (x1.Name = name)))), (23, .str name), (22, .str x1.Name), (21, .vp (enc_Table x1) 0)] kr ?_
   refine oN (nT ?_)
   refine v_cond (!(decide (x1.Name = name))) kr (fun h2 => ?_) (fun h2 => ?_)
   ·replace hs := bif_t h2 hs
    refine v_exit (exit_thenV (exit_blkV (nT (vT (oR 3 [(7, .int .i64 (w64 (q1 + 1))), (16, .int .i64 (w64 (q1 + 1))), (15, .int .i64 q1)] kr ?_)))))
    refine oN (nrm_fuel (w64 (q1 + 1)) hs ?_)
    exact cut_of [1, 2, 3, 7] [3] kr kr kr
   ·replace hs := bif_f h2 hs
    refine vK (nT (vS (vT (oR 3 [(27, .int .i64 q1), (26, .vs 3 (mM enc_Table p.Tables)), (25, .ptr 3 0 1)] kr ?_))))
    obtain ⟨x2, g2, hs⟩ := bS hs; obtain ⟨g2a, g2b, g2c⟩ := idx_some g2
    refine oP (v := .vp (enc_Table x2) 0) kr kr (loc_indexVs (e := 57) (sz := 3) (k := .i64) (els := (mM enc_Table p.Tables)) (cs := (enc_Table x2)) kr kr kr g2a (by rw [g2c]; exact map_get _ (by omega))) ?_
    refine o_runh 3 [(8, .ptr 8 0 0), (29, .agg (enc_Table x2))] [(8, .box 57 [.str x2.Name, .vs 2 (mM enc_Entry x2.Rows), .int .i64 x2.Else]), (3, .box 30 (enc_Plan p))] kr ?_
    refine oN (nT (vS (vS (vT (oR 1 [(9, .int .i64 0)] kr ?_)))))
    refine oN (nT ?_)
    obtain ⟨z2, hs, hk2⟩ := bS hs
    refine v_join (S := Unit) (fun u => z2 = .inr u) (fun u => [(8, .ptr 8 0 0)]) (fun u => [(8, .box 57 [.str x2.Name, .vs 2 (mM enc_Entry x2.Rows), .int .i64 x2.Else])]) ?_ (fun v2 hz => ?_)
    ·refine vB ?_
     refine v_fuel (S := Int) (fun u => [(2, .str key), (8, .ptr 8 0 0), (9, .int .i64 u)]) (fun u => [(8, .box 57 [.str x2.Name, .vs 2 (mM enc_Entry x2.Rows), .int .i64 x2.Else])]) (s_gr17_row_L2 key x2) (fun _ => rfl) KK 0 hs (cut_of [2, 8, 9] [8] kr kr kr) (fun K2 q2 hs => ?_)
     rw [s_gr17_row_L2] at hs
     show WpV cK0 Tryz.prog none 53 _ _ [(2, .str key), (8, .ptr 8 0 0), (9, .int .i64 q2)] [(8, .box 57 [.str x2.Name, .vs 2 (mM enc_Entry x2.Rows), .int .i64 x2.Else])] []
     refine vS (vS (vT (oR 3 [(32, .vs 2 (mM enc_Entry x2.Rows)), (31, .ptr 8 0 1), (30, .int .i64 q2)] kr ?_)))
     refine oP (v := .int .i64 (List.length x2.Rows : Int)) kr kr (loc_lenVs (sz := 2) (els := (mM enc_Entry x2.Rows)) kr kr lM) ?_
     refine oR 1 [(34, .bool (decide (q2 < (List.length x2.Rows : Int))))] kr ?_
     refine oN (nT ?_)
     refine v_cond (decide (q2 < (List.length x2.Rows : Int))) kr (fun h3 => ?_) (fun h3 => ?_)
     ·replace hs := bif_t h3 hs
      refine vK (nT (vS (vB (vS (vT (oR 3 [(39, .int .i64 q2), (38, .vs 2 (mM enc_Entry x2.Rows)), (37, .ptr 8 0 1)] kr ?_))))))
      obtain ⟨x3, g3, hs⟩ := bS hs; obtain ⟨g3a, g3b, g3c⟩ := idx_some g3
      refine oP (v := .vp (enc_Entry x3) 0) kr kr (loc_indexVs (e := 40) (sz := 2) (k := .i64) (els := (mM enc_Entry x2.Rows)) (cs := (enc_Entry x3)) kr kr kr g3a (by rw [g3c]; exact map_get _ (by omega))) ?_
      refine oR 4 [(44, .bool (decide (x3.Name = key))), (43, .str key), (42, .str x3.Name), (41, .vp (enc_Entry x3) 0)] kr ?_
      refine oN (nT ?_)
      refine v_cond (decide (x3.Name = key)) kr (fun h4 => ?_) (fun h4 => ?_)
      ·replace hs := bif_t h4 hs
       refine vS (vT (oR 3 [(47, .int .i64 q2), (46, .vs 2 (mM enc_Entry x2.Rows)), (45, .ptr 8 0 1)] kr ?_))
       obtain ⟨x4, g4, hs⟩ := bS hs; obtain ⟨g4a, g4b, g4c⟩ := idx_some g4
       refine oP (v := .vp (enc_Entry x4) 0) kr kr (loc_indexVs (e := 40) (sz := 2) (k := .i64) (els := (mM enc_Entry x2.Rows)) (cs := (enc_Entry x4)) kr kr kr g4a (by rw [g4c]; exact map_get _ (by omega))) ?_
       refine oR 3 [(6, .int .i64 x4.N), (50, .int .i64 x4.N), (49, .vp (enc_Entry x4) 1)] kr ?_
       refine oN (nT (v_ret (rB (rT (ret_fuel ?_)))))
       refine rB (ret_join ?_)
       refine rT (rB (rT (ret_fuel ?_)))
       refine rB (ret_join ?_)
       refine rT ?_
       obtain rfl := si hs
       replace hs := hk2
       obtain rfl := si hs
       replace hs := hk1
       cases hs
       exact fin_ret kr kr kr
      ·replace hs := bif_f h4 hs
       refine vK (nB (nT (vT (oR 3 [(9, .int .i64 (w64 (q2 + 1))), (36, .int .i64 (w64 (q2 + 1))), (35, .int .i64 q2)] kr ?_))))
       refine oN (nrm_fuel (w64 (q2 + 1)) hs ?_)
       exact cut_of [2, 8, 9] [8] kr kr kr
     ·replace hs := bif_f h3 hs
      refine v_exit (exit_thenV (exit_fuel ?_))
      refine exit_blkV ?_
      cases hs
      refine nrm_join () rfl ?_
      exact cut_of [8] [8] kr kr kr
    ·subst hz; clear hs; have hs := hk2; clear hk2
     refine nT (vS (vT (oR 3 [(6, .int .i64 x2.Else), (52, .int .i64 x2.Else), (51, .ptr 8 0 2)] kr ?_)))
     refine oN (nT (v_ret (rB (rT (ret_fuel ?_)))))
     refine rB (ret_join ?_)
     refine rT ?_
     obtain rfl := si hs
     replace hs := hk1
     cases hs
     exact fin_ret kr kr kr
  ·replace hs := bif_f h1 hs
   refine v_exit (exit_thenV (exit_fuel ?_))
   refine exit_blkV ?_
   cases hs
   refine nrm_join () rfl ?_
   exact cut_of [] [] kr kr kr
 ·subst hz; clear hs; have hs := hk1; clear hk1
  refine nT (vS (vT (oR 1 [(6, .int .i64 0)] kr ?_)))
  refine oN (nT (v_ret ?_))
  cases hs
  exact fin_ret kr kr kr
theorem w_gr17_bit (ok : Bool) (r : Int) (hs : s_gr17_bit ok = some r) : FnA Tryz.prog 48 [.bool ok] [] (.int .i64 r) [] := by
 refine fnA_of_wp (N := 4) Tryz.func48 rfl rfl rfl fun cK0 => ?_
 unfold s_gr17_bit at hs
 refine v_same (ρ' := [(0, .bool ok)]) rfl rfl ?_
 refine vS (vT (oR 1 [(2, .int .i64 0)] kr ?_))
 refine oN (nT (vS (vS (vT (oR 1 [(3, .bool ok)] kr ?_)))))
 refine oN (nT ?_)
 refine v_cond ok kr (fun h1 => ?_) (fun h1 => ?_)
 ·replace hs := bif_t h1 hs
  refine vS (vT (oR 1 [(2, .int .i64 1)] kr ?_))
  refine oN (nT (v_ret (rT ?_)))
  cases hs
  exact fin_ret kr kr kr
 ·replace hs := bif_f h1 hs
  refine vK (nT (vS (vT (oR 1 [(2, .int .i64 0)] kr ?_))))
  refine oN (nT (v_ret ?_))
  cases hs
  exact fin_ret kr kr kr
theorem w_gr17_Floor (a : Int) (b : Int) (r : Int) (hs : s_gr17_Floor a b = some r) : FnA Tryz.prog 62 [.int .i64 a, .int .i64 b] [] (.int .i64 r) [] := by
 refine fnA_of_wp (N := 25) Tryz.func62 rfl rfl rfl fun cK0 => ?_
 unfold s_gr17_Floor at hs
 refine v_same (ρ' := [(0, .int .i64 a), (1, .int .i64 b)]) rfl rfl ?_
 refine vS (vT (oR 1 [(4, .int .i64 0)] kr ?_))
 refine oN (nT (vS (vS (vT (oR 2 [(7, .bool (decide (b = 0))), (6, .int .i64 b)] kr ?_)))))
 refine oN (nT ?_)
 refine v_cond (decide (b = 0)) kr (fun h1 => ?_) (fun h1 => ?_)
 ·replace hs := bif_t h1 hs
  refine vS (vT (oR 1 [(4, .int .i64 0)] kr ?_))
  refine oN (nT (v_ret (rT ?_)))
  cases hs
  exact fin_ret kr kr kr
 ·replace hs := bif_f h1 hs
  refine vK (nT (vS (vT (oR 2 [(9, .int .i64 b), (8, .int .i64 a)] kr ?_))))
  obtain ⟨_, g1, hs⟩ := bS hs; replace g1 := grd_some g1
  refine oP (v := .int .i64 (w64 (Int.tdiv a b))) kr kr (loc_div (k := .i64) (a := a) (b := b) (by simp) kr kr g1) ?_
  refine oR 1 [(5, .int .i64 (w64 (Int.tdiv a b)))] kr ?_
  refine oN (nT (vS (vS ?_)))
  obtain ⟨z1, hs, hk1⟩ := bS hs
  refine v_join (S := Bool) (fun u => u = z1) (fun u => [(5, .int .i64 (w64 (Int.tdiv a b))), (21, .bool u)]) (fun u => []) ?_ (fun v1 hz => ?_)
  ·refine vT (oR 2 [(12, .int .i64 b), (11, .int .i64 a)] kr ?_)
   obtain ⟨_, g2, hs⟩ := bS hs; replace g2 := grd_some g2
   refine oP (v := .int .i64 (Int.tmod a b)) kr kr (loc_div (k := .i64) (a := a) (b := b) (by simp) kr kr g2) ?_
   refine oR 2 [(15, .bool (!(decide ((Int.tmod a b) = 0)))), (14, .bool (!(decide ((Int.tmod a b) = 0))))] kr ?_
   cases h2 : ((!(decide ((Int.tmod a b) = 0))))
   ·replace hs := bif_f h2 hs
    refine oR 6 [(21, .bool false), (20, .no), (19, .no), (18, .no), (17, .no), (16, .no)] kr ?_
    refine oN ?_
    cases hs
    refine nrm_join false rfl ?_
    exact cut_of [5, 21] [] kr kr kr
   ·replace hs := bif_t h2 hs
    refine oR 6 [(21, .bool (!((decide (a < 0)) == (decide (b < 0))))), (20, .bool (!((decide (a < 0)) == (decide (b < 0))))), (19, .bool (decide (b < 0))), (18, .int .i64 b), (17, .bool (decide (a < 0))), (16, .int .i64 a)] kr ?_
    refine oN ?_
    obtain rfl := si hs
    refine nrm_join (!((decide (a < 0)) == (decide (b < 0)))) rfl ?_
    exact cut_of [5, 21] [] kr kr kr
  ·subst hz; clear hs; have hs := hk1; clear hk1
   refine nT ?_
   obtain ⟨z2, hs, hk2⟩ := bS hs
   refine v_join (S := Int) (fun u => u = z2) (fun u => [(5, .int .i64 u)]) (fun u => []) ?_ (fun v2 hz => ?_)
   ·refine v_cond v1 kr (fun h3 => ?_) (fun h3 => ?_)
    ·replace hs := bif_t h3 hs
     refine vT (oR 3 [(5, .int .i64 (w64 ((w64 (Int.tdiv a b)) - 1))), (23, .int .i64 (w64 ((w64 (Int.tdiv a b)) - 1))), (22, .int .i64 (w64 (Int.tdiv a b)))] kr ?_)
     refine oN ?_
     obtain rfl := si hs
     refine nrm_join (w64 ((w64 (Int.tdiv a b)) - 1)) rfl ?_
     exact cut_of [5] [] kr kr kr
    ·replace hs := bif_f h3 hs
     refine vK ?_
     obtain rfl := si hs
     refine nrm_join (w64 (Int.tdiv a b)) rfl ?_
     exact cut_of [5] [] kr kr kr
   ·subst hz; clear hs; have hs := hk2; clear hk2
    refine nT (vS (vT (oR 2 [(4, .int .i64 v2), (24, .int .i64 v2)] kr ?_)))
    refine oN (nT (v_ret ?_))
    cases hs
    exact fin_ret kr kr kr
theorem w_gr17_two (op : Int) (a : Int) (b : Int) (r : Int) (hs : s_gr17_two op a b = some r) : FnA Tryz.prog 49 [.int .i64 op, .int .i64 a, .int .i64 b] [] (.int .i64 r) [] := by
 refine fnA_of_wp (N := 73) Tryz.func49 rfl rfl rfl fun cK0 => ?_
 unfold s_gr17_two at hs
 refine v_same (ρ' := [(0, .int .i64 op), (1, .int .i64 a), (2, .int .i64 b)]) rfl rfl ?_
 refine vS (vT (oR 1 [(6, .int .i64 0)] kr ?_))
 refine oN (nT (vS (vS (vT (oR 1 [(7, .int .i64 op)] kr ?_)))))
 refine oN (nT (vB (vS (vT (oR 2 [(8, .bool (decide (op = 4))), (9, .bool (decide (op = 4)))] kr ?_)))))
 refine oN (nT ?_)
 refine v_cond (decide (op = 4)) kr (fun h1 => ?_) (fun h1 => ?_)
 ·replace hs := bif_t h1 hs
  refine vS (vT (oR 4 [(6, .int .i64 (w64 (a + b))), (12, .int .i64 (w64 (a + b))), (11, .int .i64 b), (10, .int .i64 a)] kr ?_))
  refine oN (nT (v_ret (rB (rT ?_))))
  cases hs
  exact fin_ret kr kr kr
 ·replace hs := bif_f h1 hs
  refine vS (vT (oR 2 [(13, .bool (decide (op = 5))), (14, .bool (decide (op = 5)))] kr ?_))
  refine oN (nT ?_)
  refine v_cond (decide (op = 5)) kr (fun h2 => ?_) (fun h2 => ?_)
  ·replace hs := bif_t h2 hs
   refine vS (vT (oR 4 [(6, .int .i64 (w64 (a - b))), (17, .int .i64 (w64 (a - b))), (16, .int .i64 b), (15, .int .i64 a)] kr ?_))
   refine oN (nT (v_ret (rB (rT ?_))))
   cases hs
   exact fin_ret kr kr kr
  ·replace hs := bif_f h2 hs
   refine vS (vT (oR 2 [(18, .bool (decide (op = 6))), (19, .bool (decide (op = 6)))] kr ?_))
   refine oN (nT ?_)
   refine v_cond (decide (op = 6)) kr (fun h3 => ?_) (fun h3 => ?_)
   ·replace hs := bif_t h3 hs
    refine vS (vT (oR 4 [(6, .int .i64 (w64 (a * b))), (22, .int .i64 (w64 (a * b))), (21, .int .i64 b), (20, .int .i64 a)] kr ?_))
    refine oN (nT (v_ret (rB (rT ?_))))
    cases hs
    exact fin_ret kr kr kr
   ·replace hs := bif_f h3 hs
    refine vS (vT (oR 2 [(23, .bool (decide (op = 7))), (24, .bool (decide (op = 7)))] kr ?_))
    refine oN (nT ?_)
    refine v_cond (decide (op = 7)) kr (fun h4 => ?_) (fun h4 => ?_)
    ·replace hs := bif_t h4 hs
     refine vS (vT (oR 2 [(26, .int .i64 b), (25, .int .i64 a)] kr ?_))
     obtain ⟨y1, c1, hs⟩ := bS hs
     refine oP (v := .int .i64 y1) kr kr (loc_gcall0 (callV_func hbv62 kr) (w_gr17_Floor a b _ c1) kr) ?_
     refine oR 1 [(6, .int .i64 y1)] kr ?_
     refine oN (nT (v_ret (rB (rT ?_))))
     cases hs
     exact fin_ret kr kr kr
    ·replace hs := bif_f h4 hs
     refine vS (vT (oR 2 [(28, .bool (decide (op = 8))), (29, .bool (decide (op = 8)))] kr ?_))
     refine oN (nT ?_)
     refine v_cond (decide (op = 8)) kr (fun h5 => ?_) (fun h5 => ?_)
     ·replace hs := bif_t h5 hs
      refine vS (vS (vT (oR 2 [(31, .bool (decide (b = 0))), (30, .int .i64 b)] kr ?_)))
      refine oN (nT ?_)
      refine v_cond (decide (b = 0)) kr (fun h6 => ?_) (fun h6 => ?_)
      ·replace hs := bif_t h6 hs
       refine vS (vT (oR 1 [(6, .int .i64 0)] kr ?_))
       refine oN (nT (v_ret (rT (rB (rT ?_)))))
       cases hs
       exact fin_ret kr kr kr
      ·replace hs := bif_f h6 hs
       refine vK (nT (vS (vT (oR 4 [(35, .int .i64 b), (34, .int .i64 a), (33, .int .i64 b), (32, .int .i64 a)] kr ?_))))
       obtain ⟨y2, c2, hs⟩ := bS hs
       refine oP (v := .int .i64 y2) kr kr (loc_gcall0 (callV_func hbv62 kr) (w_gr17_Floor a b _ c2) kr) ?_
       refine oR 3 [(6, .int .i64 (w64 (a - (w64 (b * y2))))), (38, .int .i64 (w64 (a - (w64 (b * y2))))), (37, .int .i64 (w64 (b * y2)))] kr ?_
       refine oN (nT (v_ret (rB (rT ?_))))
       cases hs
       exact fin_ret kr kr kr
     ·replace hs := bif_f h5 hs
      refine vS (vT (oR 2 [(39, .bool (decide (op = 10))), (40, .bool (decide (op = 10)))] kr ?_))
      refine oN (nT ?_)
      refine v_cond (decide (op = 10)) kr (fun h7 => ?_) (fun h7 => ?_)
      ·replace hs := bif_t h7 hs
       refine vS (vT (oR 3 [(43, .bool (decide (a = b))), (42, .int .i64 b), (41, .int .i64 a)] kr ?_))
       obtain ⟨y3, c3, hs⟩ := bS hs
       refine oP (v := .int .i64 y3) kr kr (loc_gcall0 (callV_func hbv48 kr) (w_gr17_bit (decide (a = b)) _ c3) kr) ?_
       refine oR 1 [(6, .int .i64 y3)] kr ?_
       refine oN (nT (v_ret (rB (rT ?_))))
       cases hs
       exact fin_ret kr kr kr
      ·replace hs := bif_f h7 hs
       refine vS (vT (oR 2 [(45, .bool (decide (op = 11))), (46, .bool (decide (op = 11)))] kr ?_))
       refine oN (nT ?_)
       refine v_cond (decide (op = 11)) kr (fun h8 => ?_) (fun h8 => ?_)
       ·replace hs := bif_t h8 hs
        refine vS (vT (oR 3 [(49, .bool (decide (a < b))), (48, .int .i64 b), (47, .int .i64 a)] kr ?_))
        obtain ⟨y4, c4, hs⟩ := bS hs
        refine oP (v := .int .i64 y4) kr kr (loc_gcall0 (callV_func hbv48 kr) (w_gr17_bit (decide (a < b)) _ c4) kr) ?_
        refine oR 1 [(6, .int .i64 y4)] kr ?_
        refine oN (nT (v_ret (rB (rT ?_))))
        cases hs
        exact fin_ret kr kr kr
       ·replace hs := bif_f h8 hs
        refine vS (vT (oR 2 [(51, .bool (decide (op = 12))), (52, .bool (decide (op = 12)))] kr ?_))
        refine oN (nT ?_)
        refine v_cond (decide (op = 12)) kr (fun h9 => ?_) (fun h9 => ?_)
        ·replace hs := bif_t h9 hs
         refine vS (vT (oR 3 [(55, .bool (decide (a ≤ b))), (54, .int .i64 b), (53, .int .i64 a)] kr ?_))
         obtain ⟨y5, c5, hs⟩ := bS hs
         refine oP (v := .int .i64 y5) kr kr (loc_gcall0 (callV_func hbv48 kr) (w_gr17_bit (decide (a ≤ b)) _ c5) kr) ?_
         refine oR 1 [(6, .int .i64 y5)] kr ?_
         refine oN (nT (v_ret (rB (rT ?_))))
         cases hs
         exact fin_ret kr kr kr
        ·replace hs := bif_f h9 hs
         refine vS (vT (oR 2 [(57, .bool (decide (op = 13))), (58, .bool (decide (op = 13)))] kr ?_))
         refine oN (nT ?_)
         refine v_cond (decide (op = 13)) kr (fun h10 => ?_) (fun h10 => ?_)
         ·replace hs := bif_t h10 hs
          refine vS ?_
          obtain ⟨z1, hs, hk1⟩ := bS hs
          refine v_join (S := Int) (fun u => u = z1) (fun u => [(6, .int .i64 u)]) (fun u => []) ?_ (fun v1 hz => ?_)
          ·refine vT (oR 3 [(61, .bool (!(decide (a = 0)))), (60, .bool (!(decide (a = 0)))), (59, .int .i64 a)] kr ?_)
           cases h11 : ((!(decide (a = 0))))
           ·replace hs := bif_f h11 hs
            refine oR 3 [(64, .bool false), (63, .no), (62, .no)] kr ?_
            obtain ⟨y6, c6, hs⟩ := bS hs
            refine oP (v := .int .i64 y6) kr kr (loc_gcall0 (callV_func hbv48 kr) (w_gr17_bit false _ c6) kr) ?_
            refine oR 1 [(6, .int .i64 y6)] kr ?_
            refine oN ?_
            obtain rfl := si hs
            refine nrm_join y6 rfl ?_
            exact cut_of [6] [] kr kr kr
           ·replace hs := bif_t h11 hs
            refine oR 3 [(64, .bool (!(decide (b = 0)))), (63, .bool (!(decide (b = 0)))), (62, .int .i64 b)] kr ?_
            obtain ⟨y7, c7, hs⟩ := bS hs
            refine oP (v := .int .i64 y7) kr kr (loc_gcall0 (callV_func hbv48 kr) (w_gr17_bit (!(decide (b = 0))) _ c7) kr) ?_
            refine oR 1 [(6, .int .i64 y7)] kr ?_
            refine oN ?_
            obtain rfl := si hs
            refine nrm_join y7 rfl ?_
            exact cut_of [6] [] kr kr kr
          ·subst hz; clear hs; have hs := hk1; clear hk1
           refine nT (v_ret (rB (rT ?_)))
           cases hs
           exact fin_ret kr kr kr
         ·replace hs := bif_f h10 hs
          refine vK (nB (nT (vS ?_)))
          obtain ⟨z2, hs, hk2⟩ := bS hs
          refine v_join (S := Int) (fun u => u = z2) (fun u => [(6, .int .i64 u)]) (fun u => []) ?_ (fun v2 hz => ?_)
          ·refine vT (oR 3 [(68, .bool (!(decide (a = 0)))), (67, .bool (!(decide (a = 0)))), (66, .int .i64 a)] kr ?_)
           cases h12 : ((!(decide (a = 0))))
           ·replace hs := bif_f h12 hs
            refine oR 3 [(71, .bool (!(decide (b = 0)))), (70, .bool (!(decide (b = 0)))), (69, .int .i64 b)] kr ?_
            obtain ⟨y8, c8, hs⟩ := bS hs
            refine oP (v := .int .i64 y8) kr kr (loc_gcall0 (callV_func hbv48 kr) (w_gr17_bit (!(decide (b = 0))) _ c8) kr) ?_
            refine oR 1 [(6, .int .i64 y8)] kr ?_
            refine oN ?_
            obtain rfl := si hs
            refine nrm_join y8 rfl ?_
            exact cut_of [6] [] kr kr kr
           ·replace hs := bif_t h12 hs
            refine oR 3 [(71, .bool true), (70, .no), (69, .no)] kr ?_
            obtain ⟨y9, c9, hs⟩ := bS hs
            refine oP (v := .int .i64 y9) kr kr (loc_gcall0 (callV_func hbv48 kr) (w_gr17_bit true _ c9) kr) ?_
            refine oR 1 [(6, .int .i64 y9)] kr ?_
            refine oN ?_
            obtain rfl := si hs
            refine nrm_join y9 rfl ?_
            exact cut_of [6] [] kr kr kr
          ·subst hz; clear hs; have hs := hk2; clear hk2
           refine nT (v_ret ?_)
           cases hs
           exact fin_ret kr kr kr
theorem ws_gr17_value (nF : Nat) (ih_gr17_value : ∀ (p : Plan) (measures : (List Entry)) (zones : (List Sr)) (defs : (List Int)) (e : Expr) (r : Int), s_gr17_value nF p measures zones defs e = some r → FnA Tryz.prog 33 [.agg (enc_Plan p), .vs 2 (mM enc_Entry measures), .vs 1 (mS zones), .vs 1 (mI defs), .agg (enc_Expr e)] [] (.int .i64 r) []) (p : Plan) (measures : (List Entry)) (zones : (List Sr)) (defs : (List Int)) (e : Expr) (r : Int) (hs : s_gr17_value (nF + 1) p measures zones defs e = some r) : FnA Tryz.prog 33 [.agg (enc_Plan p), .vs 2 (mM enc_Entry measures), .vs 1 (mS zones), .vs 1 (mI defs), .agg (enc_Expr e)] [] (.int .i64 r) [] := by
 refine fnA_of_wp (N := 93) Tryz.func33 rfl rfl rfl fun cK0 => ?_
 rw [s_gr17_value] at hs
 refine v_same (ρ' := [(0, .agg (enc_Plan p)), (1, .vs 2 (mM enc_Entry measures)), (2, .vs 1 (mS zones)), (3, .vs 1 (mI defs)), (4, .agg (enc_Expr e))]) rfl rfl ?_
 refine vS (vT (o_runh 3 [(10, .int .i64 0), (9, .ptr 9 0 0), (5, .ptr 5 0 0)] [(9, .box 35 (enc_Expr e)), (5, .box 30 (enc_Plan p))] kr ?_))
 refine oN (nT (vS (vS (vT (oR 2 [(16, .int .i64 e.Op), (15, .ptr 9 0 0)] kr ?_)))))
 refine oN (nT (vB (vS (vT (oR 2 [(17, .bool (decide (e.Op = 0))), (18, .bool (decide (e.Op = 0)))] kr ?_)))))
 refine oN (nT ?_)
 refine v_cond (decide (e.Op = 0)) kr (fun h1 => ?_) (fun h1 => ?_)
 ·replace hs := bif_t h1 hs
  refine vS (vT (oR 3 [(10, .int .i64 e.N), (20, .int .i64 e.N), (19, .ptr 9 0 1)] kr ?_))
  refine oN (nT (v_ret (rB (rT ?_))))
  cases hs
  exact fin_ret kr kr kr
 ·replace hs := bif_f h1 hs
  refine vS (vT (oR 2 [(21, .bool (decide (e.Op = 1))), (22, .bool (decide (e.Op = 1)))] kr ?_))
  refine oN (nT ?_)
  refine v_cond (decide (e.Op = 1)) kr (fun h2 => ?_) (fun h2 => ?_)
  ·replace hs := bif_t h2 hs
   refine vS (vT (oR 5 [(27, .str e.S), (26, .ptr 9 0 2), (25, .vs 1 (mI defs)), (24, .vs 2 (mM enc_Entry measures)), (23, .agg (enc_Plan p))] kr ?_))
   obtain ⟨y1, c1, hs⟩ := bS hs
   refine oP (v := .int .i64 y1) kr kr (loc_gcall0 (callV_func hbv46 kr) (w_gr17_named p measures defs e.S _ c1) kr) ?_
   refine oR 1 [(10, .int .i64 y1)] kr ?_
   refine oN (nT (v_ret (rB (rT ?_))))
   cases hs
   exact fin_ret kr kr kr
  ·replace hs := bif_f h2 hs
   refine vS (vT (oR 2 [(29, .bool (decide (e.Op = 2))), (30, .bool (decide (e.Op = 2)))] kr ?_))
   refine oN (nT ?_)
   refine v_cond (decide (e.Op = 2)) kr (fun h3 => ?_) (fun h3 => ?_)
   ·replace hs := bif_t h3 hs
    refine vS (vT (oR 5 [(35, .str e.Key), (34, .ptr 9 0 3), (33, .str e.S), (32, .ptr 9 0 2), (31, .agg (enc_Plan p))] kr ?_))
    obtain ⟨y2, c2, hs⟩ := bS hs
    refine oP (v := .int .i64 y2) kr kr (loc_gcall0 (callV_func hbv47 kr) (w_gr17_row p e.S e.Key _ c2) kr) ?_
    refine oR 1 [(10, .int .i64 y2)] kr ?_
    refine oN (nT (v_ret (rB (rT ?_))))
    cases hs
    exact fin_ret kr kr kr
   ·replace hs := bif_f h3 hs
    refine vS (vT (oR 2 [(37, .bool (decide (e.Op = 3))), (38, .bool (decide (e.Op = 3)))] kr ?_))
    refine oN (nT ?_)
    refine v_cond (decide (e.Op = 3)) kr (fun h4 => ?_) (fun h4 => ?_)
    ·replace hs := bif_t h4 hs
     refine vS (vT (oR 3 [(41, .str e.S), (40, .ptr 9 0 2), (39, .vs 1 (mS zones))] kr ?_))
     obtain ⟨y3, c3, hs⟩ := bS hs
     refine oP (v := .bool y3) kr kr (loc_gcall0 (callV_func hbv41 kr) (w_gr17_has zones e.S _ c3) kr) ?_
     obtain ⟨y4, c4, hs⟩ := bS hs
     refine oP (v := .int .i64 y4) kr kr (loc_gcall0 (callV_func hbv48 kr) (w_gr17_bit y3 _ c4) kr) ?_
     refine oR 1 [(10, .int .i64 y4)] kr ?_
     refine oN (nT (v_ret (rB (rT ?_))))
     cases hs
     exact fin_ret kr kr kr
    ·replace hs := bif_f h4 hs
     refine vK (nB (nT (vS (v_draw mixedH kr ?_))))
     refine d_runs 6 0 [(49, .vs 5 (encs_Expr e.Args)), (48, .ptr 9 0 4), (47, .vs 1 (mI defs)), (46, .vs 1 (mS zones)), (45, .vs 2 (mM enc_Entry measures)), (44, .agg (enc_Plan p))] [⟨5, [], [9]⟩, ⟨4, [], []⟩, ⟨3, [], []⟩, ⟨2, [], []⟩, ⟨1, [], []⟩, ⟨0, [], [5]⟩] kr kr ?_
     obtain ⟨x1, g1, hs⟩ := bS hs; obtain ⟨g1a, g1b, g1c⟩ := idx_some g1
     refine d_pure (v := .vp (enc_Expr x1) 0) 6 rfl rfl rfl rfl kr kr (loc_indexVs (e := 35) (sz := 5) (k := .i64) (els := (encs_Expr e.Args)) (cs := (enc_Expr x1)) kr kr kr g1a (by rw [g1c, encs_Expr_eq]; exact map_get _ (by omega))) ?_
     refine d_runs 1 7 [(51, .agg (enc_Expr x1))] (pfp 1 7) kr kr ?_
     obtain ⟨y5, c5, hs⟩ := bS hs
     refine d_pure (v := .int .i64 y5) 8 rfl rfl rfl rfl kr kr (loc_gcall0 (callV_func hbv33 kr) (ih_gr17_value p measures zones defs x1 _ c5) kr) ?_
     refine d_runs 1 9 [(11, .int .i64 y5)] (pfp 1 9) kr kr ?_
     refine d_nil kr ?_
     refine nT (vS (vS (vT (oR 2 [(54, .int .i64 e.Op), (53, .ptr 9 0 0)] kr ?_))))
     refine oN (nT (vB (vS (vT (oR 2 [(55, .bool (decide (e.Op = 9))), (56, .bool (decide (e.Op = 9)))] kr ?_)))))
     refine oN (nT ?_)
     refine v_cond (decide (e.Op = 9)) kr (fun h5 => ?_) (fun h5 => ?_)
     ·replace hs := bif_t h5 hs
      refine vS (vT (oR 3 [(10, .int .i64 (w64 (0 - y5))), (58, .int .i64 (w64 (0 - y5))), (57, .int .i64 y5)] kr ?_))
      refine oN (nT (v_ret (rB (rT ?_))))
      cases hs
      exact fin_ret kr kr kr
     ·replace hs := bif_f h5 hs
      refine vS (vT (oR 2 [(59, .bool (decide (e.Op = 15))), (60, .bool (decide (e.Op = 15)))] kr ?_))
      refine oN (nT ?_)
      refine v_cond (decide (e.Op = 15)) kr (fun h6 => ?_) (fun h6 => ?_)
      ·replace hs := bif_t h6 hs
       refine vS (vT (oR 2 [(62, .bool (decide (y5 = 0))), (61, .int .i64 y5)] kr ?_))
       obtain ⟨y6, c6, hs⟩ := bS hs
       refine oP (v := .int .i64 y6) kr kr (loc_gcall0 (callV_func hbv48 kr) (w_gr17_bit (decide (y5 = 0)) _ c6) kr) ?_
       refine oR 1 [(10, .int .i64 y6)] kr ?_
       refine oN (nT (v_ret (rB (rT ?_))))
       cases hs
       exact fin_ret kr kr kr
      ·replace hs := bif_f h6 hs
       refine vS (vT (oR 2 [(64, .bool (decide (e.Op = 16))), (65, .bool (decide (e.Op = 16)))] kr ?_))
       refine oN (nT ?_)
       refine v_cond (decide (e.Op = 16)) kr (fun h7 => ?_) (fun h7 => ?_)
       ·replace hs := bif_t h7 hs
        refine vS (vT (oR 1 [(12, .int .i64 2)] kr ?_))
        refine oN (nT (vS (vS (vT (oR 2 [(67, .bool (!(decide (y5 = 0)))), (66, .int .i64 y5)] kr ?_)))))
        refine oN (nT ?_)
        obtain ⟨z1, hs, hk1⟩ := bS hs
        refine v_join (S := Int) (fun u => u = z1) (fun u => [(1, .vs 2 (mM enc_Entry measures)), (2, .vs 1 (mS zones)), (3, .vs 1 (mI defs)), (5, .ptr 5 0 0), (9, .ptr 9 0 0), (12, .int .i64 u)]) (fun u => [(9, .box 35 (enc_Expr e)), (5, .box 30 (enc_Plan p))]) ?_ (fun v1 hz => ?_)
        ·refine v_cond (!(decide (y5 = 0))) kr (fun h8 => ?_) (fun h8 => ?_)
         ·replace hs := bif_t h8 hs
          refine vT (oR 1 [(12, .int .i64 1)] kr ?_)
          refine oN ?_
          obtain rfl := si hs
          refine nrm_join 1 rfl ?_
          exact cut_of [1, 2, 3, 5, 9, 12] [9, 5] kr kr kr
         ·replace hs := bif_f h8 hs
          refine vK ?_
          obtain rfl := si hs
          refine nrm_join 2 rfl ?_
          exact cut_of [1, 2, 3, 5, 9, 12] [9, 5] kr kr kr
        ·subst hz; clear hs; have hs := hk1; clear hk1
         refine nT (vS (v_draw mixedH kr ?_))
         refine d_runs 7 0 [(74, .int .i64 v1), (73, .vs 5 (encs_Expr e.Args)), (72, .ptr 9 0 4), (71, .vs 1 (mI defs)), (70, .vs 1 (mS zones)), (69, .vs 2 (mM enc_Entry measures)), (68, .agg (enc_Plan p))] [⟨6, [], []⟩, ⟨5, [], [9]⟩, ⟨4, [], []⟩, ⟨3, [], []⟩, ⟨2, [], []⟩, ⟨1, [], []⟩, ⟨0, [], [5]⟩] kr kr ?_
         obtain ⟨x2, g2, hs⟩ := bS hs; obtain ⟨g2a, g2b, g2c⟩ := idx_some g2
         refine d_pure (v := .vp (enc_Expr x2) 0) 7 rfl rfl rfl rfl kr kr (loc_indexVs (e := 35) (sz := 5) (k := .i64) (els := (encs_Expr e.Args)) (cs := (enc_Expr x2)) kr kr kr g2a (by rw [g2c, encs_Expr_eq]; exact map_get _ (by omega))) ?_
         refine d_runs 1 8 [(76, .agg (enc_Expr x2))] (pfp 1 8) kr kr ?_
         obtain ⟨y7, c7, hs⟩ := bS hs
         refine d_pure (v := .int .i64 y7) 9 rfl rfl rfl rfl kr kr (loc_gcall0 (callV_func hbv33 kr) (ih_gr17_value p measures zones defs x2 _ c7) kr) ?_
         refine d_runs 1 10 [(13, .int .i64 y7)] (pfp 1 10) kr kr ?_
         refine d_nil kr ?_
         refine nT (vS (vT (oR 2 [(10, .int .i64 y7), (78, .int .i64 y7)] kr ?_)))
         refine oN (nT (v_ret (rB (rT ?_))))
         cases hs
         exact fin_ret kr kr kr
       ·replace hs := bif_f h7 hs
        refine vK (nB (nT (vS (v_draw mixedH kr ?_))))
        refine d_runs 6 0 [(84, .vs 5 (encs_Expr e.Args)), (83, .ptr 9 0 4), (82, .vs 1 (mI defs)), (81, .vs 1 (mS zones)), (80, .vs 2 (mM enc_Entry measures)), (79, .agg (enc_Plan p))] [⟨5, [], [9]⟩, ⟨4, [], []⟩, ⟨3, [], []⟩, ⟨2, [], []⟩, ⟨1, [], []⟩, ⟨0, [], [5]⟩] kr kr ?_
        obtain ⟨x3, g3, hs⟩ := bS hs; obtain ⟨g3a, g3b, g3c⟩ := idx_some g3
        refine d_pure (v := .vp (enc_Expr x3) 0) 6 rfl rfl rfl rfl kr kr (loc_indexVs (e := 35) (sz := 5) (k := .i64) (els := (encs_Expr e.Args)) (cs := (enc_Expr x3)) kr kr kr g3a (by rw [g3c, encs_Expr_eq]; exact map_get _ (by omega))) ?_
        refine d_runs 1 7 [(86, .agg (enc_Expr x3))] (pfp 1 7) kr kr ?_
        obtain ⟨y8, c8, hs⟩ := bS hs
        refine d_pure (v := .int .i64 y8) 8 rfl rfl rfl rfl kr kr (loc_gcall0 (callV_func hbv33 kr) (ih_gr17_value p measures zones defs x3 _ c8) kr) ?_
        refine d_runs 1 9 [(14, .int .i64 y8)] (pfp 1 9) kr kr ?_
        refine d_nil kr ?_
        refine nT (vS (vT (oR 4 [(91, .int .i64 y8), (90, .int .i64 y5), (89, .int .i64 e.Op), (88, .ptr 9 0 0)] kr ?_)))
        obtain ⟨y9, c9, hs⟩ := bS hs
        refine oP (v := .int .i64 y9) kr kr (loc_gcall0 (callV_func hbv49 kr) (w_gr17_two e.Op y5 y8 _ c9) kr) ?_
        refine oR 1 [(10, .int .i64 y9)] kr ?_
        refine oN (nT (v_ret ?_))
        cases hs
        exact fin_ret kr kr kr
theorem wr_gr17_value : ∀ nF : Nat, (∀ (p : Plan) (measures : (List Entry)) (zones : (List Sr)) (defs : (List Int)) (e : Expr) (r : Int), s_gr17_value nF p measures zones defs e = some r → FnA Tryz.prog 33 [.agg (enc_Plan p), .vs 2 (mM enc_Entry measures), .vs 1 (mS zones), .vs 1 (mI defs), .agg (enc_Expr e)] [] (.int .i64 r) [])
 | 0 => fun p measures zones defs e r hs => (by rw [s_gr17_value] at hs; cases hs)
 | nF + 1 => fun p measures zones defs e r hs => ws_gr17_value nF (wr_gr17_value nF) p measures zones defs e r hs
theorem w_gr17_value (nF : Nat) (p : Plan) (measures : (List Entry)) (zones : (List Sr)) (defs : (List Int)) (e : Expr) (r : Int) (hs : s_gr17_value nF p measures zones defs e = some r) : FnA Tryz.prog 33 [.agg (enc_Plan p), .vs 2 (mM enc_Entry measures), .vs 1 (mS zones), .vs 1 (mI defs), .agg (enc_Expr e)] [] (.int .i64 r) [] := (wr_gr17_value nF) p measures zones defs e r hs
theorem w_gr17_All (p : Plan) (measures : (List Entry)) (zones : (List Sr)) (r : (List Int)) (hs : s_gr17_All p measures zones = some r) : FnA Tryz.prog 15 [.agg (enc_Plan p), .vs 2 (mM enc_Entry measures), .vs 1 (mS zones)] [] (.vs 1 (mI r)) [] := by
 refine fnA_of_wp (N := 56) Tryz.func15 rfl rfl rfl fun cK0 => ?_
 unfold s_gr17_All at hs
 refine v_same (ρ' := [(0, .agg (enc_Plan p)), (1, .vs 2 (mM enc_Entry measures)), (2, .vs 1 (mS zones))]) rfl rfl ?_
 refine vS (vT (o_runh 2 [(6, .nils), (3, .ptr 3 0 0)] [(3, .box 30 (enc_Plan p))] kr ?_))
 refine oN (nT (vS (vT (oR 2 [(14, .vs 6 (mM enc_Def p.Defs)), (13, .ptr 3 0 0)] kr ?_))))
 refine oP (v := .int .i64 (List.length p.Defs : Int)) kr kr (loc_lenVs (sz := 6) (els := (mM enc_Def p.Defs)) kr kr lM) ?_
 obtain ⟨⟨g1a, g1b, g1c⟩, hs⟩ := bG hs
 refine o_loc (F := []) (F' := [(16, .row 3 1 0 (mI (uR p.Defs (0 : Int))))]) (v := .sl 1 16 (((uR p.Defs (0 : Int))).length) 0 (((uR p.Defs (0 : Int))).length)) [] kr kr rfl kr (loc_makeSliceT (L := ((uR p.Defs (0 : Int))).length) (e := 3) (sz := 1) (bytes := 8) (q := (List.length p.Defs : Int)) (k := .i64) (k2 := .i64) (cs := [.int .i64 0]) (cs2 := [.int .i64 0]) kr kr kr kr kr g1a g1b g1c (List.map_replicate (f := EV.encI)).symm (List.length_replicate ..) (fun _ _ h => h)) kr ?_
 refine oR 1 [(7, .sl 1 16 (((uR p.Defs (0 : Int))).length) 0 (((uR p.Defs (0 : Int))).length))] kr ?_
 refine oN (nT (vS (vT (oR 1 [(18, .agg (enc_Plan p))] kr ?_))))
 obtain ⟨y1, c1, hs⟩ := bS hs
 refine oP (v := .tup [.vs 1 (mI y1.1), .vs 1 (mS y1.2.1), .int .i64 y1.2.2]) kr kr (loc_gcall0 (callV_func hbv34 kr) (w_gr16_Order p _ c1) kr) ?_
 refine oR 7 [(10, .int .i64 y1.2.2), (9, .vs 1 (mS y1.2.1)), (8, .vs 1 (mI y1.1)), (22, .int .i64 y1.2.2), (21, .vs 1 (mS y1.2.1)), (20, .vs 1 (mI y1.1)), (17, .tup [.vs 1 (mI y1.1), .vs 1 (mS y1.2.1), .int .i64 y1.2.2])] kr ?_
 refine oN (nT (vS (vS (vT (oR 2 [(24, .bool (!(decide (y1.2.2 = 0)))), (23, .int .i64 y1.2.2)] kr ?_)))))
 refine oN (nT ?_)
 refine v_cond (!(decide (y1.2.2 = 0))) kr (fun h1 => ?_) (fun h1 => ?_)
 ·replace hs := bif_t h1 hs
  refine vS (vT (oR 2 [(6, .sl 1 16 (((uR p.Defs (0 : Int))).length) 0 (((uR p.Defs (0 : Int))).length)), (25, .sl 1 16 (((uR p.Defs (0 : Int))).length) 0 (((uR p.Defs (0 : Int))).length))] kr ?_))
  refine oN (nT (v_to _ [(16, .row 3 1 (((mI (uR p.Defs (0 : Int)))).length) (mI (uR p.Defs (0 : Int)))), (3, .box 30 (enc_Plan p))] (cut_freeze (F := [(16, .row 3 1 0 (mI (uR p.Defs (0 : Int))))]) [16] rfl kr kr) ?_))
  refine v_to ((6, .vs 1 (mI (uR p.Defs (0 : Int)))) :: _) _ (cut_view (R := [(16, .row 3 1 (((mI (uR p.Defs (0 : Int)))).length) (mI (uR p.Defs (0 : Int))))]) (ks := [16]) kr kr (.row (t := 3) (fz := (((mI (uR p.Defs (0 : Int)))).length)) kr lh)) ?_
  refine v_ret (rT ?_)
  cases hs
  exact fin_ret kr kr kr
 ·replace hs := bif_f h1 hs
  refine vK (nT (vS (vS (vT (oR 1 [(11, .int .i64 0)] kr ?_)))))
  refine oN (nT ?_)
  obtain ⟨z1, hs, hk1⟩ := bS hs
  refine v_join (S := (List Int)) (fun u => u = z1) (fun u => [(7, .sl 1 16 ((u).length) 0 ((u).length))]) (fun u => [(16, .row 3 1 0 (mI u))]) ?_ (fun v1 hz => ?_)
  ·refine vB ?_
   refine v_fuel (S := Int × (List Int)) (fun u => [(1, .vs 2 (mM enc_Entry measures)), (2, .vs 1 (mS zones)), (3, .ptr 3 0 0), (7, .sl 1 16 ((u.2).length) 0 ((u.2).length)), (8, .vs 1 (mI y1.1)), (11, .int .i64 u.1)]) (fun u => [(16, .row 3 1 0 (mI u.2)), (3, .box 30 (enc_Plan p))]) (s_gr17_All_L1 p measures zones y1) (fun _ => rfl) KK (0, (uR p.Defs (0 : Int))) hs (cut_of [1, 2, 3, 7, 8, 11] [16, 3] kr kr kr) (fun K1 q1 hs => ?_)
   rw [s_gr17_All_L1] at hs
   show WpV cK0 Tryz.prog none 56 _ _ [(1, .vs 2 (mM enc_Entry measures)), (2, .vs 1 (mS zones)), (3, .ptr 3 0 0), (7, .sl 1 16 ((q1.2).length) 0 ((q1.2).length)), (8, .vs 1 (mI y1.1)), (11, .int .i64 q1.1)] [(16, .row 3 1 0 (mI q1.2)), (3, .box 30 (enc_Plan p))] []
   refine vS (vS (vT (oR 2 [(27, .vs 1 (mI y1.1)), (26, .int .i64 q1.1)] kr ?_)))
   refine oP (v := .int .i64 (List.length y1.1 : Int)) kr kr (loc_lenVs (sz := 1) (els := (mI y1.1)) kr kr lM) ?_
   refine oR 1 [(29, .bool (decide (q1.1 < (List.length y1.1 : Int))))] kr ?_
   refine oN (nT ?_)
   refine v_cond (decide (q1.1 < (List.length y1.1 : Int))) kr (fun h2 => ?_) (fun h2 => ?_)
   ·replace hs := bif_t h2 hs
    refine vK (nT (vS (vB (vS (v_draw mixedH kr ?_)))))
    refine d_runs 4 0 [(35, .int .i64 q1.1), (34, .vs 1 (mI y1.1)), (33, .vs 6 (mM enc_Def p.Defs)), (32, .ptr 3 0 0)] [⟨3, [], []⟩, ⟨2, [], []⟩, ⟨1, [], [3]⟩, ⟨0, [], []⟩] kr kr ?_
    obtain ⟨x1, g2, hs⟩ := bS hs; obtain ⟨g2a, g2b, g2c⟩ := idx_some g2
    refine d_pure (v := .vp [.int .i64 x1] 0) 4 rfl rfl rfl rfl kr kr (loc_indexVs (e := 3) (sz := 1) (k := .i64) (els := (mI y1.1)) (cs := (EV.encI x1)) kr kr kr g2a (by rw [g2c]; exact map_get _ (by omega))) ?_
    refine d_runs 1 5 [(37, .int .i64 x1)] (pfp 1 5) kr kr ?_
    obtain ⟨x2, g3, hs⟩ := bS hs; obtain ⟨g3a, g3b, g3c⟩ := idx_some g3
    refine d_pure (v := .vp (enc_Def x2) 0) 6 rfl rfl rfl rfl kr kr (loc_indexVs (e := 51) (sz := 6) (k := .i64) (els := (mM enc_Def p.Defs)) (cs := (enc_Def x2)) kr kr kr g3a (by rw [g3c]; exact map_get _ (by omega))) ?_
    refine d_runh 4 7 [(12, .ptr 12 0 0), (40, .agg (enc_Expr x2.Body)), (39, .vp (enc_Def x2) 1)] [(12, .box 35 (enc_Expr x2.Body)), (16, .row 3 1 0 (mI q1.2)), (3, .box 30 (enc_Plan p))] [⟨10, [12], []⟩, ⟨9, [12], []⟩, ⟨8, [], []⟩, ⟨7, [], []⟩] kr kr ?_
    refine d_nil kr ?_
    refine nT (vS (vT (oR 1 [(41, .agg (enc_Expr x2.Body))] kr ?_)))
    obtain ⟨y2, c2, hs⟩ := bS hs
    refine oP (v := .bool y2) kr kr (loc_gcall0 (callV_func hbv8 kr) (w_gr17_Right x2.Body _ c2) kr) ?_
    refine oN (nT ?_)
    obtain ⟨z2, hs, hk2⟩ := bS hs
    refine v_join (S := (List Int)) (fun u => u = z2) (fun u => [(1, .vs 2 (mM enc_Entry measures)), (2, .vs 1 (mS zones)), (3, .ptr 3 0 0), (7, .sl 1 16 ((u).length) 0 ((u).length)), (8, .vs 1 (mI y1.1)), (11, .int .i64 q1.1)]) (fun u => [(16, .row 3 1 0 (mI u)), (3, .box 30 (enc_Plan p))]) ?_ (fun v2 hz => ?_)
    ·refine v_cond y2 kr (fun h3 => ?_) (fun h3 => ?_)
     ·replace hs := bif_t h3 hs
      refine v_draw mixedH kr ?_
      refine d_runs 3 0 [(45, .int .i64 q1.1), (44, .vs 1 (mI y1.1)), (43, .sl 1 16 ((q1.2).length) 0 ((q1.2).length))] (pfp 3 2) kr kr ?_
      obtain ⟨x3, g4, hs⟩ := bS hs; obtain ⟨g4a, g4b, g4c⟩ := idx_some g4
      refine d_pure (v := .vp [.int .i64 x3] 0) 3 rfl rfl rfl rfl kr kr (loc_indexVs (e := 3) (sz := 1) (k := .i64) (els := (mI y1.1)) (cs := (EV.encI x3)) kr kr kr g4a (by rw [g4c]; exact map_get _ (by omega))) ?_
      refine d_runs 6 4 [(52, .agg (enc_Expr x2.Body)), (51, .sl 1 16 ((q1.2).length) 0 ((q1.2).length)), (50, .vs 1 (mS zones)), (49, .vs 2 (mM enc_Entry measures)), (48, .agg (enc_Plan p)), (47, .int .i64 x3)] [⟨9, [], [12]⟩, ⟨8, [], []⟩, ⟨7, [], []⟩, ⟨6, [], []⟩, ⟨5, [], [3]⟩, ⟨4, [], []⟩] kr kr ?_
      obtain ⟨y3, c3, hs⟩ := bS hs
      refine d_loc (F := []) (R := [(16, .row 3 1 0 (mI q1.2))]) (F' := []) (v := .int .i64 y3) 10 [] [16] rfl rfl rfl rfl kr kr kr kr kr kr kr kr (loc_gcallB (vs := [.agg (enc_Plan p), .vs 2 (mM enc_Entry measures), .vs 1 (mS zones), .sl 1 16 ((q1.2).length) 0 ((q1.2).length), .agg (enc_Expr x2.Body)]) (R := [(16, .row 3 1 0 (mI q1.2))]) (callV_func hbv33 kr) (w_gr17_value KK p measures zones q1.2 x2.Body _ c3) (.cons (.same _) (.cons (.same _) (.cons (.same _) (.cons (.row (t := 3) (fz := 0) kr lh) (.cons (.same _) (.nil)))))) kr kr kr) ?_
      obtain ⟨⟨g5a, g5b⟩, hs⟩ := bG hs
      refine d_pure (v := .ptr 16 ((q1.2).length) ((Int.toNat x3) * 1 + 0)) 11 rfl rfl rfl rfl kr kr (loc_indexRowT (e := 3) (sz := 1) (kk := 16) (L := (q1.2).length) (n := (q1.2).length) (k := .i64) (i := x3) kr kr kr g5a g5b) ?_
      obtain ⟨e1, he1, hs⟩ := bE hs
      refine d_loc (F := [(16, .row 3 1 0 (mI q1.2))]) (R := []) (F' := [(16, .row 3 1 0 (mI (List.set q1.2 (Int.toNat x3) y3)))]) (v := .no) 12 [16] [] rfl rfl rfl rfl kr kr kr kr kr kr kr kr (loc_storeRowT (L := (q1.2).length) (off := (Int.toNat x3) * 1 + 0) (els := (mI q1.2)) (cs := [.int .i64 e1]) (c' := [.int .i64 y3]) (Int.toNat x3) 0 kr lh rfl (by rw [← he1]; exact map_get _ (by first | omega | (simp only [List.length_set, cpyT_length]; omega))) (by first | exact Nat.zero_le _ | omega) kr kr kr kr kr kr List.map_set.symm) ?_
      refine d_nil kr ?_
      obtain rfl := si hs
      refine nrm_join (List.set q1.2 (Int.toNat x3) y3) rfl ?_
      exact Cut.trans (cut_eq 7 (v := .sl 1 16 ((q1.2).length) 0 ((q1.2).length)) (v' := .sl 1 16 (((List.set q1.2 (Int.toNat x3) y3)).length) 0 (((List.set q1.2 (Int.toNat x3) y3)).length)) kr (by first | rfl | simp only [List.length_set, cpyT_length])) (cut_of [1, 2, 3, 7, 8, 11] [16, 3] kr kr kr)
     ·replace hs := bif_f h3 hs
      refine vK ?_
      obtain rfl := si hs
      refine nrm_join q1.2 rfl ?_
      exact cut_of [1, 2, 3, 7, 8, 11] [16, 3] kr kr kr
    ·subst hz; clear hs; have hs := hk2; clear hk2
     refine nB (nT (vT (oR 3 [(11, .int .i64 (w64 (q1.1 + 1))), (31, .int .i64 (w64 (q1.1 + 1))), (30, .int .i64 q1.1)] kr ?_)))
     refine oN (nrm_fuel ((w64 (q1.1 + 1)), v2) hs ?_)
     exact cut_of [1, 2, 3, 7, 8, 11] [16, 3] kr kr kr
   ·replace hs := bif_f h2 hs
    refine v_exit (exit_thenV (exit_fuel ?_))
    refine exit_blkV ?_
    obtain rfl := si hs
    refine nrm_join q1.2 rfl ?_
    exact cut_of [7] [16] kr kr kr
  ·subst hz; clear hs; have hs := hk1; clear hk1
   refine nT (vS (vT (oR 2 [(6, .sl 1 16 ((v1).length) 0 ((v1).length)), (55, .sl 1 16 ((v1).length) 0 ((v1).length))] kr ?_)))
   refine oN (nT (v_to _ [(16, .row 3 1 (((mI v1)).length) (mI v1))] (cut_freeze (F := [(16, .row 3 1 0 (mI v1))]) [16] rfl kr kr) ?_))
   refine v_to ((6, .vs 1 (mI v1)) :: _) _ (cut_view (R := [(16, .row 3 1 (((mI v1)).length) (mI v1))]) (ks := [16]) kr kr (.row (t := 3) (fz := (((mI v1)).length)) kr lh)) ?_
   refine v_ret ?_
   cases hs
   exact fin_ret kr kr kr
theorem w_gr17_Eval (p : Plan) (measures : (List Entry)) (zones : (List Sr)) (e : Expr) (r : Int) (hs : s_gr17_Eval p measures zones e = some r) : FnA Tryz.prog 12 [.agg (enc_Plan p), .vs 2 (mM enc_Entry measures), .vs 1 (mS zones), .agg (enc_Expr e)] [] (.int .i64 r) [] := by
 refine fnA_of_wp (N := 21) Tryz.func12 rfl rfl rfl fun cK0 => ?_
 unfold s_gr17_Eval at hs
 refine v_same (ρ' := [(0, .agg (enc_Plan p)), (1, .vs 2 (mM enc_Entry measures)), (2, .vs 1 (mS zones)), (3, .agg (enc_Expr e))]) rfl rfl ?_
 refine vS (vT (o_runh 3 [(8, .int .i64 0), (7, .ptr 7 0 0), (4, .ptr 4 0 0)] [(7, .box 35 (enc_Expr e)), (4, .box 30 (enc_Plan p))] kr ?_))
 refine oN (nT (vS (vS (vT (oR 1 [(9, .agg (enc_Expr e))] kr ?_)))))
 obtain ⟨y1, c1, hs⟩ := bS hs
 refine oP (v := .bool y1) kr kr (loc_gcall0 (callV_func hbv8 kr) (w_gr17_Right e _ c1) kr) ?_
 refine oR 1 [(11, .bool (!y1))] kr ?_
 refine oN (nT ?_)
 refine v_cond (!y1) kr (fun h1 => ?_) (fun h1 => ?_)
 ·replace hs := bif_t h1 hs
  refine vS (vT (oR 1 [(8, .int .i64 0)] kr ?_))
  refine oN (nT (v_ret (rT ?_)))
  cases hs
  exact fin_ret kr kr kr
 ·replace hs := bif_f h1 hs
  refine vK (nT (vS (v_draw mixedH kr ?_)))
  refine d_runs 6 0 [(17, .vs 1 (mS zones)), (16, .vs 2 (mM enc_Entry measures)), (15, .agg (enc_Plan p)), (14, .vs 1 (mS zones)), (13, .vs 2 (mM enc_Entry measures)), (12, .agg (enc_Plan p))] [⟨5, [], []⟩, ⟨4, [], []⟩, ⟨3, [], [4]⟩, ⟨2, [], []⟩, ⟨1, [], []⟩, ⟨0, [], [4]⟩] kr kr ?_
  obtain ⟨y2, c2, hs⟩ := bS hs
  refine d_pure (v := .vs 1 (mI y2)) 6 rfl rfl rfl rfl kr kr (loc_gcall0 (callV_func hbv15 kr) (w_gr17_All p measures zones _ c2) kr) ?_
  refine d_runs 1 7 [(19, .agg (enc_Expr e))] [⟨7, [], [7]⟩] kr kr ?_
  obtain ⟨y3, c3, hs⟩ := bS hs
  refine d_pure (v := .int .i64 y3) 8 rfl rfl rfl rfl kr kr (loc_gcall0 (callV_func hbv33 kr) (w_gr17_value KK p measures zones y2 e _ c3) kr) ?_
  refine d_runs 1 9 [(8, .int .i64 y3)] (pfp 1 9) kr kr ?_
  refine d_nil kr ?_
  refine nT (v_ret ?_)
  cases hs
  exact fin_ret kr kr kr
theorem w_expr_All (p : Plan) (measures : (List Entry)) (zones : (List Sr)) (r : (List Int)) (hs : s_expr_All p measures zones = some r) : FnA Tryz.prog 14 [.agg (enc_Plan p), .vs 2 (mM enc_Entry measures), .vs 1 (mS zones)] [] (.vs 1 (mI r)) [] := by
 refine fnA_of_wp (N := 17) Tryz.func14 rfl rfl rfl fun cK0 => ?_
 unfold s_expr_All at hs
 refine v_same (ρ' := [(0, .agg (enc_Plan p)), (1, .vs 2 (mM enc_Entry measures)), (2, .vs 1 (mS zones))]) rfl rfl ?_
 refine vS (vT (o_runh 2 [(6, .nils), (3, .ptr 3 0 0)] [(3, .box 30 (enc_Plan p))] kr ?_))
 refine oN (nT (vS (vT (oR 3 [(12, .vs 1 (mS zones)), (11, .vs 2 (mM enc_Entry measures)), (10, .agg (enc_Plan p))] kr ?_))))
 obtain ⟨y1, c1, hs⟩ := bS hs
 refine o_loc (F := []) (F' := [(3001300, .map (encM V.str (V.int .i64) y1.2.2.2))]) (v := .tup [.agg (enc_Plan y1.1 ++ [.mp 3001300, .vs 1 (mS y1.2.1)]), .vs 1 (mI y1.2.2.1)]) [] kr kr rfl kr (loc_g (R := []) [.agg (enc_Plan p), .vs 2 (mM enc_Entry measures), .vs 1 (mS zones)] [(20, 3001300)] (callV_func hbv31 kr) (w_expr_prepare p measures zones _ c1) (.cons (.same _) (.cons (.same _) (.cons (.same _) (.nil)))) kr kr kr kr kr kr kr kr) kr ?_
 refine o_runh 6 [(8, .vs 1 (mI y1.2.2.1)), (7, .ptr 7 0 0), (15, .vs 1 (mI y1.2.2.1)), (14, .agg (enc_Plan y1.1 ++ [.mp 3001300, .vs 1 (mS y1.2.1)])), (9, .tup [.agg (enc_Plan y1.1 ++ [.mp 3001300, .vs 1 (mS y1.2.1)]), .vs 1 (mI y1.2.2.1)])] [(7, .box 71 (enc_Plan y1.1 ++ [.mp 3001300, .vs 1 (mS y1.2.1)])), (3001300, .map (encM V.str (V.int .i64) y1.2.2.2)), (3, .box 30 (enc_Plan p))] kr ?_
 refine oN (nT (vS (vT (oR 2 [(6, .vs 1 (mI y1.2.2.1)), (16, .vs 1 (mI y1.2.2.1))] kr ?_))))
 refine oN (nT (v_ret ?_))
 cases hs
 exact fin_ret kr kr kr
theorem w_gl17_ints (a : (List Int)) (b : (List Int)) (r : Bool) (hs : s_gl17_ints a b = some r) : FnA Tryz.prog 13 [.vs 1 (mI a), .vs 1 (mI b)] [] (.bool r) [] := by
 refine fnA_of_wp (N := 26) Tryz.func13 rfl rfl rfl fun cK0 => ?_
 unfold s_gl17_ints at hs
 refine v_same (ρ' := [(0, .vs 1 (mI a)), (1, .vs 1 (mI b))]) rfl rfl ?_
 refine vS (vT (oR 1 [(4, .bool false)] kr ?_))
 refine oN (nT (vS (vS (vT (oR 1 [(6, .vs 1 (mI a))] kr ?_)))))
 refine oP (v := .int .i64 (List.length a : Int)) kr kr (loc_lenVs (sz := 1) (els := (mI a)) kr kr lM) ?_
 refine oR 1 [(8, .vs 1 (mI b))] kr ?_
 refine oP (v := .int .i64 (List.length b : Int)) kr kr (loc_lenVs (sz := 1) (els := (mI b)) kr kr lM) ?_
 refine oR 1 [(10, .bool (!(decide ((List.length a : Int) = (List.length b : Int)))))] kr ?_
 refine oN (nT ?_)
 refine v_cond (!(decide ((List.length a : Int) = (List.length b : Int)))) kr (fun h1 => ?_) (fun h1 => ?_)
 ·replace hs := bif_t h1 hs
  refine vS (vT (oR 1 [(4, .bool false)] kr ?_))
  refine oN (nT (v_ret (rT ?_)))
  cases hs
  exact fin_ret kr kr kr
 ·replace hs := bif_f h1 hs
  refine vK (nT (vS (vS (vT (oR 1 [(5, .int .i64 0)] kr ?_)))))
  refine oN (nT ?_)
  obtain ⟨z1, hs, hk1⟩ := bS hs
  refine v_join (S := Unit) (fun u => z1 = .inr u) (fun u => []) (fun u => []) ?_ (fun v1 hz => ?_)
  ·refine vB ?_
   refine v_fuel (S := Int) (fun u => [(0, .vs 1 (mI a)), (1, .vs 1 (mI b)), (5, .int .i64 u)]) (fun u => []) (s_gl17_ints_L1 a b) (fun _ => rfl) KK 0 hs (cut_of [0, 1, 5] [] kr kr kr) (fun K1 q1 hs => ?_)
   rw [s_gl17_ints_L1] at hs
   show WpV cK0 Tryz.prog none 26 _ _ [(0, .vs 1 (mI a)), (1, .vs 1 (mI b)), (5, .int .i64 q1)] [] []
   refine vS (vS (vT (oR 2 [(12, .vs 1 (mI a)), (11, .int .i64 q1)] kr ?_)))
   refine oP (v := .int .i64 (List.length a : Int)) kr kr (loc_lenVs (sz := 1) (els := (mI a)) kr kr lM) ?_
   refine oR 1 [(14, .bool (decide (q1 < (List.length a : Int))))] kr ?_
   refine oN (nT ?_)
   refine v_cond (decide (q1 < (List.length a : Int))) kr (fun h2 => ?_) (fun h2 => ?_)
   ·replace hs := bif_t h2 hs
    refine vK (nT (vS (vB (vS (v_draw mixedH kr ?_)))))
    refine d_runs 2 0 [(18, .int .i64 q1), (17, .vs 1 (mI a))] (pfp 2 1) kr kr ?_
    obtain ⟨x1, g1, hs⟩ := bS hs; obtain ⟨g1a, g1b, g1c⟩ := idx_some g1
    refine d_pure (v := .vp [.int .i64 x1] 0) 2 rfl rfl rfl rfl kr kr (loc_indexVs (e := 3) (sz := 1) (k := .i64) (els := (mI a)) (cs := (EV.encI x1)) kr kr kr g1a (by rw [g1c]; exact map_get _ (by omega))) ?_
    refine d_runs 3 3 [(22, .int .i64 q1), (21, .vs 1 (mI b)), (20, .int .i64 x1)] (pfp 3 5) kr kr ?_
    obtain ⟨x2, g2, hs⟩ := bS hs; obtain ⟨g2a, g2b, g2c⟩ := idx_some g2
    refine d_pure (v := .vp [.int .i64 x2] 0) 6 rfl rfl rfl rfl kr kr (loc_indexVs (e := 3) (sz := 1) (k := .i64) (els := (mI b)) (cs := (EV.encI x2)) kr kr kr g2a (by rw [g2c]; exact map_get _ (by omega))) ?_
    refine d_runs 2 7 [(25, .bool (!(decide (x1 = x2)))), (24, .int .i64 x2)] (pfp 2 8) kr kr ?_
    refine d_nil kr ?_
    refine nT ?_
    refine v_cond (!(decide (x1 = x2))) kr (fun h3 => ?_) (fun h3 => ?_)
    ·replace hs := bif_t h3 hs
     refine vS (vT (oR 1 [(4, .bool false)] kr ?_))
     refine oN (nT (v_ret (rB (rT (ret_fuel ?_)))))
     refine rB (ret_join ?_)
     refine rT ?_
     obtain rfl := si hs
     replace hs := hk1
     cases hs
     exact fin_ret kr kr kr
    ·replace hs := bif_f h3 hs
     refine vK (nB (nT (vT (oR 3 [(5, .int .i64 (w64 (q1 + 1))), (16, .int .i64 (w64 (q1 + 1))), (15, .int .i64 q1)] kr ?_))))
     refine oN (nrm_fuel (w64 (q1 + 1)) hs ?_)
     exact cut_of [0, 1, 5] [] kr kr kr
   ·replace hs := bif_f h2 hs
    refine v_exit (exit_thenV (exit_fuel ?_))
    refine exit_blkV ?_
    cases hs
    refine nrm_join () rfl ?_
    exact cut_of [] [] kr kr kr
  ·subst hz; clear hs; have hs := hk1; clear hk1
   refine nT (vS (vT (oR 1 [(4, .bool true)] kr ?_)))
   refine oN (nT (v_ret ?_))
   cases hs
   exact fin_ret kr kr kr
theorem w_gl17_ExprTells (p : Plan) (measures : (List Entry)) (zones : (List Sr)) (e : Expr) (r : Bool) (hs : s_gl17_ExprTells p measures zones e = some r) : FnA Tryz.prog 3 [.agg (enc_Plan p), .vs 2 (mM enc_Entry measures), .vs 1 (mS zones), .agg (enc_Expr e)] [] (.bool r) [] := by
 refine fnA_of_wp (N := 91) Tryz.func3 rfl rfl rfl fun cK0 => ?_
 unfold s_gl17_ExprTells at hs
 refine v_same (ρ' := [(0, .agg (enc_Plan p)), (1, .vs 2 (mM enc_Entry measures)), (2, .vs 1 (mS zones)), (3, .agg (enc_Expr e))]) rfl rfl ?_
 refine vS (vT (o_runh 3 [(8, .bool false), (7, .ptr 7 0 0), (4, .ptr 4 0 0)] [(7, .box 35 (enc_Expr e)), (4, .box 30 (enc_Plan p))] kr ?_))
 refine oN (nT (vS (vT ?_)))
 obtain ⟨y1, c1, hs⟩ := bS hs
 refine oP (v := .bool y1) kr kr (loc_gcall0 (callV_func hbv4 kr) (w_gl17_small  _ c1) kr) ?_
 refine oR 1 [(9, .bool y1)] kr ?_
 refine oN (nT (vS (vS ?_)))
 obtain ⟨z1, hs, hk1⟩ := bS hs
 refine v_join (S := Bool) (fun u => u = z1) (fun u => [(1, .vs 2 (mM enc_Entry measures)), (2, .vs 1 (mS zones)), (4, .ptr 4 0 0), (7, .ptr 7 0 0), (9, .bool y1), (31, .bool u)]) (fun u => [(7, .box 35 (enc_Expr e)), (4, .box 30 (enc_Plan p))]) ?_ (fun v1 hz => ?_)
 ·refine vT (oR 1 [(14, .agg (enc_Plan p))] kr ?_)
  obtain ⟨y2, c2, hs⟩ := bS hs
  refine oP (v := .bool y2) kr kr (loc_gcall0 (callV_func hbv5 kr) (w_gl17_few p _ c2) kr) ?_
  refine oR 2 [(17, .bool (!y2)), (16, .bool (!y2))] kr ?_
  cases h1 : ((!y2))
  ·replace hs := bif_f h1 hs
   refine oR 1 [(18, .vs 2 (mM enc_Entry measures))] kr ?_
   refine oP (v := .int .i64 (List.length measures : Int)) kr kr (loc_lenVs (sz := 2) (els := (mM enc_Entry measures)) kr kr lM) ?_
   refine oR 3 [(22, .bool (decide ((List.length measures : Int) > 20))), (21, .bool (decide ((List.length measures : Int) > 20))), (20, .bool (decide ((List.length measures : Int) > 20)))] kr ?_
   cases h2 : ((decide ((List.length measures : Int) > 20)))
   ·replace hs := bif_f h2 hs
    refine oR 1 [(23, .vs 1 (mS zones))] kr ?_
    refine oP (v := .int .i64 (List.length zones : Int)) kr kr (loc_lenVs (sz := 1) (els := (mS zones)) kr kr lM) ?_
    refine oR 3 [(27, .bool (decide ((List.length zones : Int) > 20))), (26, .bool (decide ((List.length zones : Int) > 20))), (25, .bool (decide ((List.length zones : Int) > 20)))] kr ?_
    cases h3 : ((decide ((List.length zones : Int) > 20)))
    ·replace hs := bif_f h3 hs
     refine oR 1 [(28, .agg (enc_Expr e))] kr ?_
     obtain ⟨y3, c3, hs⟩ := bS hs
     refine oP (v := .bool y3) kr kr (loc_gcall0 (callV_func hbv6 kr) (w_gl17_light e _ c3) kr) ?_
     refine oR 2 [(31, .bool (!y3)), (30, .bool (!y3))] kr ?_
     refine oN ?_
     obtain rfl := si hs
     refine nrm_join (!y3) rfl ?_
     exact cut_of [1, 2, 4, 7, 9, 31] [7, 4] kr kr kr
    ·replace hs := bif_t h3 hs
     refine oR 4 [(31, .bool true), (30, .no), (29, .no), (28, .no)] kr ?_
     refine oN ?_
     cases hs
     refine nrm_join true rfl ?_
     exact cut_of [1, 2, 4, 7, 9, 31] [7, 4] kr kr kr
   ·replace hs := bif_t h2 hs
    refine oR 9 [(31, .bool true), (30, .no), (29, .no), (28, .no), (27, .bool true), (26, .bool true), (25, .no), (24, .no), (23, .no)] kr ?_
    refine oN ?_
    cases hs
    refine nrm_join true rfl ?_
    exact cut_of [1, 2, 4, 7, 9, 31] [7, 4] kr kr kr
  ·replace hs := bif_t h1 hs
   refine oR 14 [(31, .bool true), (30, .no), (29, .no), (28, .no), (27, .bool true), (26, .bool true), (25, .no), (24, .no), (23, .no), (22, .bool true), (21, .bool true), (20, .no), (19, .no), (18, .no)] kr ?_
   refine oN ?_
   cases hs
   refine nrm_join true rfl ?_
   exact cut_of [1, 2, 4, 7, 9, 31] [7, 4] kr kr kr
 ·subst hz; clear hs; have hs := hk1; clear hk1
  refine nT ?_
  refine v_cond v1 kr (fun h4 => ?_) (fun h4 => ?_)
  ·replace hs := bif_t h4 hs
   refine vS (vT (oR 2 [(8, .bool y1), (32, .bool y1)] kr ?_))
   refine oN (nT (v_ret (rT ?_)))
   cases hs
   exact fin_ret kr kr kr
  ·replace hs := bif_f h4 hs
   refine vK (nT (vS (vT (oR 1 [(10, .nils)] kr ?_))))
   refine oN (nT (vS (vS (vT (oR 1 [(11, .int .i64 0)] kr ?_)))))
   refine oN (nT ?_)
   obtain ⟨z2, hs, hk2⟩ := bS hs
   refine v_join (S := (List Sr)) (fun u => u = z2) (fun u => [(1, .vs 2 (mM enc_Entry measures)), (2, .vs 1 (mS zones)), (4, .ptr 4 0 0), (7, .ptr 7 0 0), (9, .bool y1), (10, .sl 1 2000039 ((u).length) 0 ((u).length))]) (fun u => [(7, .box 35 (enc_Expr e)), (4, .box 30 (enc_Plan p)), (2000039, .row 9 1 0 (mS u))]) ?_ (fun v2 hz => ?_)
   ·refine vB ?_
    refine v_fuel (S := Int × (List Sr)) (fun u => [(1, .vs 2 (mM enc_Entry measures)), (2, .vs 1 (mS zones)), (4, .ptr 4 0 0), (7, .ptr 7 0 0), (9, .bool y1), (10, .sl 1 2000039 ((u.2).length) 0 ((u.2).length)), (11, .int .i64 u.1)]) (fun u => [(7, .box 35 (enc_Expr e)), (4, .box 30 (enc_Plan p)), (2000039, .row 9 1 0 (mS u.2))]) (s_gl17_ExprTells_L1 measures) (fun _ => rfl) KK (0, []) hs (Cut.trans (cut_nilRow 10 2000039 9 1 rfl kr kr) (cut_of [1, 2, 4, 7, 9, 10, 11] [7, 4, 2000039] kr kr kr)) (fun K1 q1 hs => ?_)
    rw [s_gl17_ExprTells_L1] at hs
    show WpV cK0 Tryz.prog none 91 _ _ [(1, .vs 2 (mM enc_Entry measures)), (2, .vs 1 (mS zones)), (4, .ptr 4 0 0), (7, .ptr 7 0 0), (9, .bool y1), (10, .sl 1 2000039 ((q1.2).length) 0 ((q1.2).length)), (11, .int .i64 q1.1)] [(7, .box 35 (enc_Expr e)), (4, .box 30 (enc_Plan p)), (2000039, .row 9 1 0 (mS q1.2))] []
    refine vS (vS (vT (oR 2 [(34, .vs 2 (mM enc_Entry measures)), (33, .int .i64 q1.1)] kr ?_)))
    refine oP (v := .int .i64 (List.length measures : Int)) kr kr (loc_lenVs (sz := 2) (els := (mM enc_Entry measures)) kr kr lM) ?_
    refine oR 1 [(36, .bool (decide (q1.1 < (List.length measures : Int))))] kr ?_
    refine oN (nT ?_)
    refine v_cond (decide (q1.1 < (List.length measures : Int))) kr (fun h5 => ?_) (fun h5 => ?_)
    ·replace hs := bif_t h5 hs
     refine vK (nT (vS (vB (vT (oR 3 [(41, .int .i64 q1.1), (40, .vs 2 (mM enc_Entry measures)), (39, .sl 1 2000039 ((q1.2).length) 0 ((q1.2).length))] kr ?_)))))
     obtain ⟨x1, g1, hs⟩ := bS hs; obtain ⟨g1a, g1b, g1c⟩ := idx_some g1
     refine oP (v := .vp (enc_Entry x1) 0) kr kr (loc_indexVs (e := 40) (sz := 2) (k := .i64) (els := (mM enc_Entry measures)) (cs := (enc_Entry x1)) kr kr kr g1a (by rw [g1c]; exact map_get _ (by omega))) ?_
     refine o_runh 3 [(45, .sl 1 45 1 0 1), (44, .str x1.Name), (43, .vp (enc_Entry x1) 0)] [(45, .row 9 1 0 (mS [x1.Name])), (7, .box 35 (enc_Expr e)), (4, .box 30 (enc_Plan p)), (2000039, .row 9 1 0 (mS q1.2))] kr ?_
     obtain ⟨_, g2, hs⟩ := bS hs; replace g2 := grd_some g2
     refine o_loc (F := [(2000039, .row 9 1 0 (mS q1.2)), (45, .row 9 1 0 (mS [x1.Name]))]) (F' := [(2000039, .row 9 1 0 (mS (q1.2 ++ [x1.Name]))), (45, .row 9 1 0 (mS [x1.Name]))]) (v := .sl 1 2000039 (((q1.2 ++ [x1.Name])).length) 0 (((q1.2 ++ [x1.Name])).length)) [2000039, 45] kr kr rfl kr (loc_appendT (e := 9) (sz := 1) (bytes := 16) (L := (q1.2).length) (els := (mS q1.2)) (ys := (mS [x1.Name])) kr kr (by first | exact List.length_map .. | rfl) (.sl (t := 9) (fz := 0) (ys := (mS [x1.Name])) kr kr) (map_ones EV.encS (fun _ => rfl) _) (map_lens EV.encS (fun _ => rfl) _) kr (by first | exact (List.map_append ..).symm | rfl | simp only [List.map_nil, List.nil_append]) (List.length_map ..) g2 (by omega)) kr ?_
     refine oR 1 [(10, .sl 1 2000039 (((q1.2 ++ [x1.Name])).length) 0 (((q1.2 ++ [x1.Name])).length))] kr ?_
     refine oN (nB (nT (vT (oR 3 [(11, .int .i64 (w64 (q1.1 + 1))), (38, .int .i64 (w64 (q1.1 + 1))), (37, .int .i64 q1.1)] kr ?_))))
     refine oN (nrm_fuel ((w64 (q1.1 + 1)), (q1.2 ++ [x1.Name])) hs ?_)
     exact cut_of [1, 2, 4, 7, 9, 10, 11] [7, 4, 2000039] kr kr kr
    ·replace hs := bif_f h5 hs
     refine v_exit (exit_thenV (exit_fuel ?_))
     refine exit_blkV ?_
     obtain rfl := si hs
     refine nrm_join q1.2 rfl ?_
     exact cut_of [1, 2, 4, 7, 9, 10] [7, 4, 2000039] kr kr kr
   ·subst hz; clear hs; have hs := hk2; clear hk2
    refine nT (vS ?_)
    obtain ⟨z3, hs, hk3⟩ := bS hs
    refine v_join (S := Bool) (fun u => u = z3) (fun u => [(1, .vs 2 (mM enc_Entry measures)), (2, .vs 1 (mS zones)), (4, .ptr 4 0 0), (7, .ptr 7 0 0), (9, .bool y1), (12, .bool u)]) (fun u => [(7, .box 35 (enc_Expr e)), (4, .box 30 (enc_Plan p))]) ?_ (fun v3 hz => ?_)
    ·refine v_draw mixedH kr ?_
     refine d_runs 1 0 [(47, .agg (enc_Expr e))] [⟨0, [], [7]⟩] kr kr ?_
     obtain ⟨y4, c4, hs⟩ := bS hs
     refine d_pure (v := .bool y4) 1 rfl rfl rfl rfl kr kr (loc_gcall0 (callV_func hbv7 kr) (w_expr_Right e _ c4) kr) ?_
     refine d_runs 1 2 [(49, .agg (enc_Expr e))] [⟨2, [], [7]⟩] kr kr ?_
     obtain ⟨y5, c5, hs⟩ := bS hs
     refine d_pure (v := .bool y5) 3 rfl rfl rfl rfl kr kr (loc_gcall0 (callV_func hbv8 kr) (w_gr17_Right e _ c5) kr) ?_
     refine d_runs 2 4 [(52, .bool (y4 == y5)), (51, .bool (y4 == y5))] (pfp 2 5) kr kr ?_
     cases h6 : ((y4 == y5))
     ·replace hs := bif_f h6 hs
      refine d_runs 11 6 [(12, .bool false), (62, .bool false), (61, .no), (60, .no), (59, .no), (58, .no), (57, .no), (56, .no), (55, .no), (54, .no), (53, .no)] (pfp 11 16) kr kr ?_
      refine d_nil kr ?_
      cases hs
      refine nrm_join false rfl ?_
      exact cut_of [1, 2, 4, 7, 9, 12] [7, 4] kr kr kr
     ·replace hs := bif_t h6 hs
      refine d_runs 3 6 [(55, .agg (enc_Expr e)), (54, .sl 1 2000039 ((v2).length) 0 ((v2).length)), (53, .agg (enc_Plan p))] [⟨8, [], [7]⟩, ⟨7, [], []⟩, ⟨6, [], [4]⟩] kr kr ?_
      obtain ⟨y6, c6, hs⟩ := bS hs
      refine d_loc (F := []) (R := [(2000039, .row 9 1 0 (mS v2))]) (F' := []) (v := .int .i64 y6) 9 [] [2000039] rfl rfl rfl rfl kr kr kr kr kr kr kr kr (loc_gcallB (vs := [.agg (enc_Plan p), .sl 1 2000039 ((v2).length) 0 ((v2).length), .agg (enc_Expr e)]) (R := [(2000039, .row 9 1 0 (mS v2))]) (callV_func hbv9 kr) (w_expr_Check_2 p v2 e _ c6) (.cons (.same _) (.cons (.row (t := 9) (fz := 0) kr lh) (.cons (.same _) (.nil)))) kr kr kr) ?_
      refine d_runs 3 10 [(59, .agg (enc_Expr e)), (58, .sl 1 2000039 ((v2).length) 0 ((v2).length)), (57, .agg (enc_Plan p))] [⟨12, [], [7]⟩, ⟨11, [], []⟩, ⟨10, [], [4]⟩] kr kr ?_
      obtain ⟨y7, c7, hs⟩ := bS hs
      refine d_loc (F := []) (R := [(2000039, .row 9 1 0 (mS v2))]) (F' := []) (v := .int .i64 y7) 13 [] [2000039] rfl rfl rfl rfl kr kr kr kr kr kr kr kr (loc_gcallB (vs := [.agg (enc_Plan p), .sl 1 2000039 ((v2).length) 0 ((v2).length), .agg (enc_Expr e)]) (R := [(2000039, .row 9 1 0 (mS v2))]) (callV_func hbv10 kr) (w_gr17_Check p v2 e _ c7) (.cons (.same _) (.cons (.row (t := 9) (fz := 0) kr lh) (.cons (.same _) (.nil)))) kr kr kr) ?_
      refine d_runs 3 14 [(12, .bool (decide (y6 = y7))), (62, .bool (decide (y6 = y7))), (61, .bool (decide (y6 = y7)))] (pfp 3 16) kr kr ?_
      refine d_nil kr ?_
      obtain rfl := si hs
      refine nrm_join (decide (y6 = y7)) rfl ?_
      exact cut_of [1, 2, 4, 7, 9, 12] [7, 4] kr kr kr
    ·subst hz; clear hs; have hs := hk3; clear hk3
     refine nT (vS ?_)
     obtain ⟨z4, hs, hk4⟩ := bS hs
     refine v_join (S := Bool) (fun u => u = z4) (fun u => [(8, .bool u)]) (fun u => []) ?_ (fun v4 hz => ?_)
     ·refine v_draw mixedH kr ?_
      refine d_runs 2 0 [(64, .bool y1), (63, .bool y1)] (pfp 2 1) kr kr ?_
      cases h7 : (y1)
      ·replace hs := bif_f h7 hs
       refine d_runs 27 2 [(8, .bool false), (90, .bool false), (89, .no), (88, .no), (87, .no), (86, .no), (85, .no), (84, .no), (83, .no), (82, .no), (81, .no), (80, .bool false), (79, .bool false), (78, .no), (77, .no), (76, .no), (75, .no), (74, .no), (73, .no), (72, .no), (71, .no), (70, .no), (69, .no), (68, .no), (67, .bool false), (66, .bool false), (65, .no)] (pfp 27 28) kr kr ?_
       refine d_nil kr ?_
       cases hs
       refine nrm_join false rfl ?_
       exact cut_of [8] [] kr kr kr
      ·replace hs := bif_t h7 hs
       refine d_runs 3 2 [(67, .bool v3), (66, .bool v3), (65, .bool v3)] (pfp 3 4) kr kr ?_
       cases h8 : (v3)
       ·replace hs := bif_f h8 hs
        refine d_runs 24 5 [(8, .bool false), (90, .bool false), (89, .no), (88, .no), (87, .no), (86, .no), (85, .no), (84, .no), (83, .no), (82, .no), (81, .no), (80, .bool false), (79, .bool false), (78, .no), (77, .no), (76, .no), (75, .no), (74, .no), (73, .no), (72, .no), (71, .no), (70, .no), (69, .no), (68, .no)] (pfp 24 28) kr kr ?_
        refine d_nil kr ?_
        cases hs
        refine nrm_join false rfl ?_
        exact cut_of [8] [] kr kr kr
       ·replace hs := bif_t h8 hs
        refine d_runs 4 5 [(71, .agg (enc_Expr e)), (70, .vs 1 (mS zones)), (69, .vs 2 (mM enc_Entry measures)), (68, .agg (enc_Plan p))] [⟨8, [], [7]⟩, ⟨7, [], []⟩, ⟨6, [], []⟩, ⟨5, [], [4]⟩] kr kr ?_
        obtain ⟨y8, c8, hs⟩ := bS hs
        refine d_pure (v := .int .i64 y8) 9 rfl rfl rfl rfl kr kr (loc_gcall0 (callV_func hbv11 kr) (w_expr_Eval_2 p measures zones e _ c8) kr) ?_
        refine d_runs 4 10 [(76, .agg (enc_Expr e)), (75, .vs 1 (mS zones)), (74, .vs 2 (mM enc_Entry measures)), (73, .agg (enc_Plan p))] [⟨13, [], [7]⟩, ⟨12, [], []⟩, ⟨11, [], []⟩, ⟨10, [], [4]⟩] kr kr ?_
        obtain ⟨y9, c9, hs⟩ := bS hs
        refine d_pure (v := .int .i64 y9) 14 rfl rfl rfl rfl kr kr (loc_gcall0 (callV_func hbv12 kr) (w_gr17_Eval p measures zones e _ c9) kr) ?_
        refine d_runs 3 15 [(80, .bool (decide (y8 = y9))), (79, .bool (decide (y8 = y9))), (78, .bool (decide (y8 = y9)))] (pfp 3 17) kr kr ?_
        cases h9 : ((decide (y8 = y9)))
        ·replace hs := bif_f h9 hs
         refine d_runs 11 18 [(8, .bool false), (90, .bool false), (89, .no), (88, .no), (87, .no), (86, .no), (85, .no), (84, .no), (83, .no), (82, .no), (81, .no)] (pfp 11 28) kr kr ?_
         refine d_nil kr ?_
         cases hs
         refine nrm_join false rfl ?_
         exact cut_of [8] [] kr kr kr
        ·replace hs := bif_t h9 hs
         refine d_runs 3 18 [(83, .vs 1 (mS zones)), (82, .vs 2 (mM enc_Entry measures)), (81, .agg (enc_Plan p))] [⟨20, [], []⟩, ⟨19, [], []⟩, ⟨18, [], [4]⟩] kr kr ?_
         obtain ⟨y10, c10, hs⟩ := bS hs
         refine d_pure (v := .vs 1 (mI y10)) 21 rfl rfl rfl rfl kr kr (loc_gcall0 (callV_func hbv14 kr) (w_expr_All p measures zones _ c10) kr) ?_
         refine d_runs 3 22 [(87, .vs 1 (mS zones)), (86, .vs 2 (mM enc_Entry measures)), (85, .agg (enc_Plan p))] [⟨24, [], []⟩, ⟨23, [], []⟩, ⟨22, [], [4]⟩] kr kr ?_
         obtain ⟨y11, c11, hs⟩ := bS hs
         refine d_pure (v := .vs 1 (mI y11)) 25 rfl rfl rfl rfl kr kr (loc_gcall0 (callV_func hbv15 kr) (w_gr17_All p measures zones _ c11) kr) ?_
         obtain ⟨y12, c12, hs⟩ := bS hs
         refine d_pure (v := .bool y12) 26 rfl rfl rfl rfl kr kr (loc_gcall0 (callV_func hbv13 kr) (w_gl17_ints y10 y11 _ c12) kr) ?_
         refine d_runs 2 27 [(8, .bool y12), (90, .bool y12)] (pfp 2 28) kr kr ?_
         refine d_nil kr ?_
         obtain rfl := si hs
         refine nrm_join y12 rfl ?_
         exact cut_of [8] [] kr kr kr
     ·subst hz; clear hs; have hs := hk4; clear hk4
      refine nT (v_ret ?_)
      cases hs
      exact fin_ret kr kr kr
end Go.Proofs.YtconjkgifdfhdabGreat
