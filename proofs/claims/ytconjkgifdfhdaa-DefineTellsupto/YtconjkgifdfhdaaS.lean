/- printed by gen2.py -/
import Derived.Test.YtconjkgifdfhdaaE
import Derived.Test.YtconjkgifdfhdaaSD
import Derived.Test.YtconjkgifdfhdaaSPartB
set_option linter.all false
set_option maxRecDepth 100000
namespace Go.Proofs.Ytconjkgifdfhdaa
open Go Go.RowKit Go.Eng Go.EV
variable [Fuel]

theorem w_greenbeltref16_Unknown (p : Plan) (r : (List (List UInt8))) (hs : s_greenbeltref16_Unknown p = some r) : FnA Try.prog 22 [.agg (enc_Plan p)] [] (.vs 1 (mS r)) [] := by
 refine fnA_of_wp (N := 71) Try.func22 rfl rfl rfl fun cK0 => ?_
 unfold s_greenbeltref16_Unknown at hs
 refine v_same (ρ' := [(0, .agg (enc_Plan p))]) rfl rfl ?_
 refine vS (vT (o_runh 2 [(2, .nils), (1, .ptr 1 0 0)] [(1, .box 30 (enc_Plan p))] kr ?_))
 refine oN (nT (vS (vT ?_)))
 obtain ⟨y1, c1, hs⟩ := bS hs
 refine o_loc (F := []) (F' := [(3000900, .row 9 1 0 (mS [([97, 114, 101, 97] : List UInt8), ([99, 111, 118, 101, 114] : List UInt8), ([102, 108, 111, 111, 114] : List UInt8), ([102, 108, 111, 111, 114, 115] : List UInt8), ([104, 101, 105, 103, 104, 116] : List UInt8), ([104, 111, 109, 101, 115] : List UInt8), ([114, 117, 110, 111, 102, 102] : List UInt8), ([115, 101, 116, 98, 97, 99, 107] : List UInt8), ([116, 114, 97, 102, 102, 105, 99] : List UInt8)]))]) (v := .sl 1 3000900 (([([97, 114, 101, 97] : List UInt8), ([99, 111, 118, 101, 114] : List UInt8), ([102, 108, 111, 111, 114] : List UInt8), ([102, 108, 111, 111, 114, 115] : List UInt8), ([104, 101, 105, 103, 104, 116] : List UInt8), ([104, 111, 109, 101, 115] : List UInt8), ([114, 117, 110, 111, 102, 102] : List UInt8), ([115, 101, 116, 98, 97, 99, 107] : List UInt8), ([116, 114, 97, 102, 102, 105, 99] : List UInt8)]).length) 0 (([([97, 114, 101, 97] : List UInt8), ([99, 111, 118, 101, 114] : List UInt8), ([102, 108, 111, 111, 114] : List UInt8), ([102, 108, 111, 111, 114, 115] : List UInt8), ([104, 101, 105, 103, 104, 116] : List UInt8), ([104, 111, 109, 101, 115] : List UInt8), ([114, 117, 110, 111, 102, 102] : List UInt8), ([115, 101, 116, 98, 97, 99, 107] : List UInt8), ([116, 114, 97, 102, 102, 105, 99] : List UInt8)]).length)) [] kr kr rfl kr (loc_g (R := []) [] [(1, 3000900)] (callV_func hbv16 kr) (w_greenbeltref16_Measures  _ c1) (.nil) kr kr kr kr kr kr kr kr) kr ?_
 refine oR 1 [(3, .sl 1 3000900 (([([97, 114, 101, 97] : List UInt8), ([99, 111, 118, 101, 114] : List UInt8), ([102, 108, 111, 111, 114] : List UInt8), ([102, 108, 111, 111, 114, 115] : List UInt8), ([104, 101, 105, 103, 104, 116] : List UInt8), ([104, 111, 109, 101, 115] : List UInt8), ([114, 117, 110, 111, 102, 102] : List UInt8), ([115, 101, 116, 98, 97, 99, 107] : List UInt8), ([116, 114, 97, 102, 102, 105, 99] : List UInt8)]).length) 0 (([([97, 114, 101, 97] : List UInt8), ([99, 111, 118, 101, 114] : List UInt8), ([102, 108, 111, 111, 114] : List UInt8), ([102, 108, 111, 111, 114, 115] : List UInt8), ([104, 101, 105, 103, 104, 116] : List UInt8), ([104, 111, 109, 101, 115] : List UInt8), ([114, 117, 110, 111, 102, 102] : List UInt8), ([115, 101, 116, 98, 97, 99, 107] : List UInt8), ([116, 114, 97, 102, 102, 105, 99] : List UInt8)]).length))] kr ?_
 refine oN (nT (vS (vT (oR 1 [(4, .nils)] kr ?_))))
 refine oN (nT (vS (vS (vT (oR 1 [(5, .int .i64 0)] kr ?_)))))
 refine oN (nT ?_)
 obtain ⟨z1, hs, hk1⟩ := bS hs
 refine v_join (S := (List (List UInt8)) × (List (List UInt8))) (fun u => u = z1) (fun u => [(1, .ptr 1 0 0), (3, .sl 1 3000900 ((u.1).length) 0 ((u.1).length)), (4, .sl 1 2000026 ((u.2).length) 0 ((u.2).length))]) (fun u => [(3000900, .row 9 1 0 (mS u.1)), (1, .box 30 (enc_Plan p)), (2000026, .row 9 1 0 (mS u.2))]) ?_ (fun v1 hz => ?_)
 ·refine vB ?_
  refine v_fuel (S := Int × (List (List UInt8)) × (List (List UInt8))) (fun u => [(1, .ptr 1 0 0), (3, .sl 1 3000900 ((u.2.1).length) 0 ((u.2.1).length)), (4, .sl 1 2000026 ((u.2.2).length) 0 ((u.2.2).length)), (5, .int .i64 u.1)]) (fun u => [(3000900, .row 9 1 0 (mS u.2.1)), (1, .box 30 (enc_Plan p)), (2000026, .row 9 1 0 (mS u.2.2))]) (s_greenbeltref16_Unknown_L1 p) (fun _ => rfl) KK (0, [([97, 114, 101, 97] : List UInt8), ([99, 111, 118, 101, 114] : List UInt8), ([102, 108, 111, 111, 114] : List UInt8), ([102, 108, 111, 111, 114, 115] : List UInt8), ([104, 101, 105, 103, 104, 116] : List UInt8), ([104, 111, 109, 101, 115] : List UInt8), ([114, 117, 110, 111, 102, 102] : List UInt8), ([115, 101, 116, 98, 97, 99, 107] : List UInt8), ([116, 114, 97, 102, 102, 105, 99] : List UInt8)], []) hs (Cut.trans (cut_nilRow 4 2000026 9 1 rfl kr kr) (cut_of [1, 3, 4, 5] [3000900, 1, 2000026] kr kr kr)) (fun K1 q1 hs => ?_)
  rw [s_greenbeltref16_Unknown_L1] at hs
  show WpV cK0 Try.prog none 71 _ _ [(1, .ptr 1 0 0), (3, .sl 1 3000900 ((q1.2.1).length) 0 ((q1.2.1).length)), (4, .sl 1 2000026 ((q1.2.2).length) 0 ((q1.2.2).length)), (5, .int .i64 q1.1)] [(3000900, .row 9 1 0 (mS q1.2.1)), (1, .box 30 (enc_Plan p)), (2000026, .row 9 1 0 (mS q1.2.2))] []
  refine vS (vS (vT (oR 3 [(12, .vs 6 (mM enc_Def p.Defs)), (11, .ptr 1 0 0), (10, .int .i64 q1.1)] kr ?_)))
  refine oP (v := .int .i64 (List.length p.Defs : Int)) kr kr (loc_lenVs (sz := 6) (els := (mM enc_Def p.Defs)) kr kr (List.length_map ..)) ?_
  refine oR 1 [(14, .bool (decide (q1.1 < (List.length p.Defs : Int))))] kr ?_
  refine oN (nT ?_)
  refine v_cond (decide (q1.1 < (List.length p.Defs : Int))) kr (fun h1 => ?_) (fun h1 => ?_)
  ·replace hs := bif_t h1 hs
   refine vK (nT (vS (vB (vS (vT (oR 4 [(20, .int .i64 q1.1), (19, .vs 6 (mM enc_Def p.Defs)), (18, .ptr 1 0 0), (17, .sl 1 3000900 ((q1.2.1).length) 0 ((q1.2.1).length))] kr ?_))))))
   obtain ⟨x1, g1, hs⟩ := bS hs; obtain ⟨g1a, g1b, g1c⟩ := idx_some g1
   refine oP (v := .vp (enc_Def x1) 0) kr kr (loc_indexVs (e := 46) (sz := 6) (k := .i64) (els := (mM enc_Def p.Defs)) (cs := (enc_Def x1)) kr kr kr g1a (by rw [g1c]; exact map_get _ (by omega))) ?_
   refine o_runh 3 [(24, .sl 1 24 1 0 1), (23, .str x1.Name), (22, .vp (enc_Def x1) 0)] [(24, .row 9 1 0 (mS [x1.Name])), (3000900, .row 9 1 0 (mS q1.2.1)), (1, .box 30 (enc_Plan p)), (2000026, .row 9 1 0 (mS q1.2.2))] kr ?_
   obtain ⟨_, g2, hs⟩ := bS hs; replace g2 := grd_some g2
   refine o_loc (F := [(3000900, .row 9 1 0 (mS q1.2.1)), (24, .row 9 1 0 (mS [x1.Name]))]) (F' := [(3000900, .row 9 1 0 (mS (q1.2.1 ++ [x1.Name]))), (24, .row 9 1 0 (mS [x1.Name]))]) (v := .sl 1 3000900 (((q1.2.1 ++ [x1.Name])).length) 0 (((q1.2.1 ++ [x1.Name])).length)) [3000900, 24] kr kr rfl kr (loc_appendT (e := 9) (sz := 1) (bytes := 16) (L := (q1.2.1).length) (els := (mS q1.2.1)) (ys := (mS [x1.Name])) kr kr (by first | exact List.length_map .. | rfl) (.sl (t := 9) (fz := 0) (ys := (mS [x1.Name])) kr kr) (map_ones EV.encS (fun _ => rfl) _) (map_lens EV.encS (fun _ => rfl) _) kr (by first | exact (List.map_append ..).symm | rfl | simp only [List.map_nil, List.nil_append]) (List.length_map ..) g2 (by omega)) kr ?_
   refine oR 1 [(3, .sl 1 3000900 (((q1.2.1 ++ [x1.Name])).length) 0 (((q1.2.1 ++ [x1.Name])).length))] kr ?_
   refine oN (nT (vT (oR 4 [(29, .int .i64 q1.1), (28, .vs 6 (mM enc_Def p.Defs)), (27, .ptr 1 0 0), (26, .sl 1 2000026 ((q1.2.2).length) 0 ((q1.2.2).length))] kr ?_)))
   obtain ⟨x2, g3, hs⟩ := bS hs; obtain ⟨g3a, g3b, g3c⟩ := idx_some g3
   refine oP (v := .vp (enc_Def x2) 0) kr kr (loc_indexVs (e := 46) (sz := 6) (k := .i64) (els := (mM enc_Def p.Defs)) (cs := (enc_Def x2)) kr kr kr g3a (by rw [g3c]; exact map_get _ (by omega))) ?_
   refine oR 2 [(32, .agg (enc_Expr x2.Body)), (31, .vp (enc_Def x2) 1)] kr ?_
   obtain ⟨y2, c2, hs⟩ := bS hs
   refine oP (v := .vs 1 (mS y2)) kr kr (loc_gcall0 (callV_func hbv18 kr) (w_greenbeltref16_Names KK x2.Body _ c2) kr) ?_
   obtain ⟨_, g4, hs⟩ := bS hs; replace g4 := grd_some g4
   refine o_loc (F := [(2000026, .row 9 1 0 (mS q1.2.2))]) (F' := [(2000026, .row 9 1 0 (mS (q1.2.2 ++ y2)))]) (v := .sl 1 2000026 (((q1.2.2 ++ y2)).length) 0 (((q1.2.2 ++ y2)).length)) [2000026] kr kr rfl kr (loc_appendT (e := 9) (sz := 1) (bytes := 16) (L := (q1.2.2).length) (els := (mS q1.2.2)) (ys := (mS y2)) kr kr (by first | exact List.length_map .. | rfl) (by have := Src.vs (sz := 1) (R := []) (mS y2); exact this) (map_ones EV.encS (fun _ => rfl) _) (map_lens EV.encS (fun _ => rfl) _) kr (by first | exact (List.map_append ..).symm | rfl | simp only [List.map_nil, List.nil_append]) (List.length_map ..) g4 (by omega)) kr ?_
   refine oR 1 [(4, .sl 1 2000026 (((q1.2.2 ++ y2)).length) 0 (((q1.2.2 ++ y2)).length))] kr ?_
   refine oN (nB (nT (vT (oR 3 [(5, .int .i64 (w64 (q1.1 + 1))), (16, .int .i64 (w64 (q1.1 + 1))), (15, .int .i64 q1.1)] kr ?_))))
   refine oN (nrm_fuel ((w64 (q1.1 + 1)), (q1.2.1 ++ [x1.Name]), (q1.2.2 ++ y2)) hs ?_)
   exact cut_of [1, 3, 4, 5] [3000900, 1, 2000026] kr kr kr
  ·replace hs := bif_f h1 hs
   refine v_exit (exit_thenV (exit_fuel ?_))
   refine exit_blkV ?_
   obtain rfl := si hs
   refine nrm_join (q1.2.1, q1.2.2) rfl ?_
   exact cut_of [1, 3, 4] [3000900, 1, 2000026] kr kr kr
 ·subst hz; clear hs; have hs := hk1; clear hk1
  refine nT (vS (vS (vT (oR 1 [(6, .int .i64 0)] kr ?_))))
  refine oN (nT ?_)
  obtain ⟨z2, hs, hk2⟩ := bS hs
  refine v_join (S := (List (List UInt8))) (fun u => u = z2) (fun u => [(3, .sl 1 3000900 ((v1.1).length) 0 ((v1.1).length)), (4, .sl 1 2000026 ((u).length) 0 ((u).length))]) (fun u => [(3000900, .row 9 1 0 (mS v1.1)), (2000026, .row 9 1 0 (mS u))]) ?_ (fun v2 hz => ?_)
  ·refine vB ?_
   refine v_fuel (S := Int × (List (List UInt8))) (fun u => [(1, .ptr 1 0 0), (3, .sl 1 3000900 ((v1.1).length) 0 ((v1.1).length)), (4, .sl 1 2000026 ((u.2).length) 0 ((u.2).length)), (6, .int .i64 u.1)]) (fun u => [(3000900, .row 9 1 0 (mS v1.1)), (1, .box 30 (enc_Plan p)), (2000026, .row 9 1 0 (mS u.2))]) (s_greenbeltref16_Unknown_L2 p) (fun _ => rfl) KK (0, v1.2) hs (cut_of [1, 3, 4, 6] [3000900, 1, 2000026] kr kr kr) (fun K2 q2 hs => ?_)
   rw [s_greenbeltref16_Unknown_L2] at hs
   show WpV cK0 Try.prog none 71 _ _ [(1, .ptr 1 0 0), (3, .sl 1 3000900 ((v1.1).length) 0 ((v1.1).length)), (4, .sl 1 2000026 ((q2.2).length) 0 ((q2.2).length)), (6, .int .i64 q2.1)] [(3000900, .row 9 1 0 (mS v1.1)), (1, .box 30 (enc_Plan p)), (2000026, .row 9 1 0 (mS q2.2))] []
   refine vS (vS (vT (oR 3 [(37, .vs 20 (mM enc_Rule p.Rules)), (36, .ptr 1 0 3), (35, .int .i64 q2.1)] kr ?_)))
   refine oP (v := .int .i64 (List.length p.Rules : Int)) kr kr (loc_lenVs (sz := 20) (els := (mM enc_Rule p.Rules)) kr kr (List.length_map ..)) ?_
   refine oR 1 [(39, .bool (decide (q2.1 < (List.length p.Rules : Int))))] kr ?_
   refine oN (nT ?_)
   refine v_cond (decide (q2.1 < (List.length p.Rules : Int))) kr (fun h2 => ?_) (fun h2 => ?_)
   ·replace hs := bif_t h2 hs
    refine vK (nT (vS (vB (vT (oR 4 [(45, .int .i64 q2.1), (44, .vs 20 (mM enc_Rule p.Rules)), (43, .ptr 1 0 3), (42, .sl 1 2000026 ((q2.2).length) 0 ((q2.2).length))] kr ?_)))))
    obtain ⟨x3, g5, hs⟩ := bS hs; obtain ⟨g5a, g5b, g5c⟩ := idx_some g5
    refine oP (v := .vp (enc_Rule x3) 0) kr kr (loc_indexVs (e := 66) (sz := 20) (k := .i64) (els := (mM enc_Rule p.Rules)) (cs := (enc_Rule x3)) kr kr kr g5a (by rw [g5c]; exact map_get _ (by omega))) ?_
    refine oR 2 [(48, .agg (enc_Expr x3.Test)), (47, .vp (enc_Rule x3) 8)] kr ?_
    obtain ⟨y3, c3, hs⟩ := bS hs
    refine oP (v := .vs 1 (mS y3)) kr kr (loc_gcall0 (callV_func hbv18 kr) (w_greenbeltref16_Names KK x3.Test _ c3) kr) ?_
    obtain ⟨_, g6, hs⟩ := bS hs; replace g6 := grd_some g6
    refine o_loc (F := [(2000026, .row 9 1 0 (mS q2.2))]) (F' := [(2000026, .row 9 1 0 (mS (q2.2 ++ y3)))]) (v := .sl 1 2000026 (((q2.2 ++ y3)).length) 0 (((q2.2 ++ y3)).length)) [2000026] kr kr rfl kr (loc_appendT (e := 9) (sz := 1) (bytes := 16) (L := (q2.2).length) (els := (mS q2.2)) (ys := (mS y3)) kr kr (by first | exact List.length_map .. | rfl) (by have := Src.vs (sz := 1) (R := []) (mS y3); exact this) (map_ones EV.encS (fun _ => rfl) _) (map_lens EV.encS (fun _ => rfl) _) kr (by first | exact (List.map_append ..).symm | rfl | simp only [List.map_nil, List.nil_append]) (List.length_map ..) g6 (by omega)) kr ?_
    refine oR 1 [(4, .sl 1 2000026 (((q2.2 ++ y3)).length) 0 (((q2.2 ++ y3)).length))] kr ?_
    refine oN (nB (nT (vT (oR 3 [(6, .int .i64 (w64 (q2.1 + 1))), (41, .int .i64 (w64 (q2.1 + 1))), (40, .int .i64 q2.1)] kr ?_))))
    refine oN (nrm_fuel ((w64 (q2.1 + 1)), (q2.2 ++ y3)) hs ?_)
    exact cut_of [1, 3, 4, 6] [3000900, 1, 2000026] kr kr kr
   ·replace hs := bif_f h2 hs
    refine v_exit (exit_thenV (exit_fuel ?_))
    refine exit_blkV ?_
    obtain rfl := si hs
    refine nrm_join q2.2 rfl ?_
    exact cut_of [3, 4] [3000900, 2000026] kr kr kr
  ·subst hz; clear hs; have hs := hk2; clear hk2
   refine nT (vS (vT (oR 1 [(7, .nils)] kr ?_)))
   refine oN (nT (vS (vS (vT (oR 1 [(8, .int .i64 0)] kr ?_)))))
   refine oN (nT ?_)
   obtain ⟨z3, hs, hk3⟩ := bS hs
   refine v_join (S := (List (List UInt8))) (fun u => u = z3) (fun u => [(7, .vs 1 (mS u))]) (fun u => []) ?_ (fun v3 hz => ?_)
   ·refine vB ?_
    refine v_fuel (S := (List (List UInt8)) × Int) (fun u => [(3, .sl 1 3000900 ((v1.1).length) 0 ((v1.1).length)), (4, .sl 1 2000026 ((v2).length) 0 ((v2).length)), (7, .vs 1 (mS u.1)), (8, .int .i64 u.2)]) (fun u => [(3000900, .row 9 1 0 (mS v1.1)), (2000026, .row 9 1 0 (mS v2))]) (s_greenbeltref16_Unknown_L3 v1 v2) (fun _ => rfl) KK ([], 0) hs (Cut.trans (cut_view (t := 7) (v := .vs 1 []) [] [] rfl rfl (.nils 1)) (cut_of [3, 4, 7, 8] [3000900, 2000026] kr kr kr)) (fun K3 q3 hs => ?_)
    rw [s_greenbeltref16_Unknown_L3] at hs
    show WpV cK0 Try.prog none 71 _ _ [(3, .sl 1 3000900 ((v1.1).length) 0 ((v1.1).length)), (4, .sl 1 2000026 ((v2).length) 0 ((v2).length)), (7, .vs 1 (mS q3.1)), (8, .int .i64 q3.2)] [(3000900, .row 9 1 0 (mS v1.1)), (2000026, .row 9 1 0 (mS v2))] []
    refine vS (vS (vT (oR 4 [(54, .bool (decide (q3.2 < ((v2).length : Int)))), (53, .int .i64 ((v2).length : Int)), (52, .sl 1 2000026 ((v2).length) 0 ((v2).length)), (51, .int .i64 q3.2)] kr ?_)))
    refine oN (nT ?_)
    refine v_cond (decide (q3.2 < ((v2).length : Int))) kr (fun h3 => ?_) (fun h3 => ?_)
    ·replace hs := bif_t h3 hs
     refine vK (nT (vS (vB (vS (vT (oR 3 [(59, .int .i64 q3.2), (58, .sl 1 2000026 ((v2).length) 0 ((v2).length)), (57, .sl 1 3000900 ((v1.1).length) 0 ((v1.1).length))] kr ?_))))))
     obtain ⟨⟨g7a, g7b⟩, hs⟩ := bG hs
     refine oP (v := .ptr 2000026 ((v2).length) ((Int.toNat q3.2) * 1 + 0)) kr kr (loc_indexRowT (e := 9) (sz := 1) (kk := 2000026) (L := (v2).length) (n := (v2).length) (k := .i64) (i := q3.2) kr kr kr g7a g7b) ?_
     obtain ⟨e1, he1, hs⟩ := bE hs
     refine o_loc (F := [(2000026, .row 9 1 0 (mS v2))]) (F' := [(2000026, .row 9 1 0 (mS v2))]) (v := .str e1) [2000026] kr kr rfl kr (loc_loadRow (L := (v2).length) (off := (Int.toNat q3.2) * 1 + 0) (els := (mS v2)) (cs := [.str e1]) (Int.toNat q3.2) 0 kr (by first | (simp only [List.length_map, List.length_set, cpyT_length]; done) | rfl) rfl (by rw [← he1]; exact map_get _ (by first | omega | (simp only [List.length_set, cpyT_length]; omega))) kr) kr ?_
     obtain ⟨y4, c4, hs⟩ := bS hs
     refine o_loc (F := [(3000900, .row 9 1 0 (mS v1.1))]) (F' := [(3000900, .row 9 1 0 (mS v1.1))]) (v := .bool y4) [3000900] kr kr rfl kr (loc_gcallB (vs := [.sl 1 3000900 ((v1.1).length) 0 ((v1.1).length), .str e1]) (R := [(3000900, .row 9 1 0 (mS v1.1))]) (callV_func hbv46 kr) (w_greenbeltref16_Has v1.1 e1 _ c4) (.cons (.row (t := 9) (fz := 0) kr (by first | (simp only [List.length_map, List.length_set, cpyT_length]; done) | rfl)) (.cons (.same _) (.nil))) kr kr kr) kr ?_
     refine oR 1 [(63, .bool (!y4))] kr ?_
     refine oN (nT ?_)
     obtain ⟨z4, hs, hk4⟩ := bS hs
     refine v_join (S := (List (List UInt8))) (fun u => u = z4) (fun u => [(3, .sl 1 3000900 ((v1.1).length) 0 ((v1.1).length)), (4, .sl 1 2000026 ((v2).length) 0 ((v2).length)), (7, .vs 1 (mS u)), (8, .int .i64 q3.2)]) (fun u => [(2000026, .row 9 1 0 (mS v2)), (3000900, .row 9 1 0 (mS v1.1))]) ?_ (fun v4 hz => ?_)
     ·refine v_cond (!y4) kr (fun h4 => ?_) (fun h4 => ?_)
      ·replace hs := bif_t h4 hs
       refine vT (oR 3 [(66, .int .i64 q3.2), (65, .sl 1 2000026 ((v2).length) 0 ((v2).length)), (64, .vs 1 (mS q3.1))] kr ?_)
       obtain ⟨⟨g8a, g8b⟩, hs⟩ := bG hs
       refine oP (v := .ptr 2000026 ((v2).length) ((Int.toNat q3.2) * 1 + 0)) kr kr (loc_indexRowT (e := 9) (sz := 1) (kk := 2000026) (L := (v2).length) (n := (v2).length) (k := .i64) (i := q3.2) kr kr kr g8a g8b) ?_
       obtain ⟨e2, he2, hs⟩ := bE hs
       refine o_loc (F := [(2000026, .row 9 1 0 (mS v2))]) (F' := [(2000026, .row 9 1 0 (mS v2))]) (v := .str e2) [2000026] kr kr rfl kr (loc_loadRow (L := (v2).length) (off := (Int.toNat q3.2) * 1 + 0) (els := (mS v2)) (cs := [.str e2]) (Int.toNat q3.2) 0 kr (by first | (simp only [List.length_map, List.length_set, cpyT_length]; done) | rfl) rfl (by rw [← he2]; exact map_get _ (by first | omega | (simp only [List.length_set, cpyT_length]; omega))) kr) kr ?_
       obtain ⟨y5, c5, hs⟩ := bS hs
       refine oP (v := .vs 1 (mS y5)) kr kr (loc_gcall0 (callV_func hbv45 kr) (w_greenbeltref16_With q3.1 e2 _ c5) kr) ?_
       refine oR 1 [(7, .vs 1 (mS y5))] kr ?_
       refine oN ?_
       obtain rfl := si hs
       refine nrm_join y5 rfl ?_
       exact cut_of [3, 4, 7, 8] [2000026, 3000900] kr kr kr
      ·replace hs := bif_f h4 hs
       refine vK ?_
       obtain rfl := si hs
       refine nrm_join q3.1 rfl ?_
       exact cut_of [3, 4, 7, 8] [2000026, 3000900] kr kr kr
     ·subst hz; clear hs; have hs := hk4; clear hk4
      refine nB (nT (vT (oR 3 [(8, .int .i64 (w64 (q3.2 + 1))), (56, .int .i64 (w64 (q3.2 + 1))), (55, .int .i64 q3.2)] kr ?_)))
      refine oN (nrm_fuel (v4, (w64 (q3.2 + 1))) hs ?_)
      exact cut_of [3, 4, 7, 8] [3000900, 2000026] kr kr kr
    ·replace hs := bif_f h3 hs
     refine v_exit (exit_thenV (exit_fuel ?_))
     refine exit_blkV ?_
     obtain rfl := si hs
     refine nrm_join q3.1 rfl ?_
     exact cut_of [7] [] kr kr kr
   ·subst hz; clear hs; have hs := hk3; clear hk3
    refine nT (vS (vT (oR 2 [(2, .vs 1 (mS v3)), (70, .vs 1 (mS v3))] kr ?_)))
    refine oN (nT (v_ret ?_))
    obtain rfl := si hs
    exact fin_ret kr kr kr
theorem w_greenbeltlaw16_DefineTells (p : Plan) (s : (List UInt8)) (r : Bool) (hs : s_greenbeltlaw16_DefineTells p s = some r) : FnA Try.prog 3 [.agg (enc_Plan p), .str s] [] (.bool r) [] := by
 refine fnA_of_wp (N := 111) Try.func3 rfl rfl rfl fun cK0 => ?_
 unfold s_greenbeltlaw16_DefineTells at hs
 refine v_same (ρ' := [(0, .agg (enc_Plan p)), (1, .str s)]) rfl rfl ?_
 refine vS (vT (o_runh 2 [(4, .bool false), (2, .ptr 2 0 0)] [(2, .box 30 (enc_Plan p))] kr ?_))
 refine oN (nT (vS (vT ?_)))
 obtain ⟨y1, c1, hs⟩ := bS hs
 refine oP (v := .bool y1) kr kr (loc_gcall0 (callV_func hbv9 kr) (w_greenbeltlaw16_small  _ c1) kr) ?_
 refine oR 1 [(5, .bool y1)] kr ?_
 refine oN (nT (vS (vS (vT (oR 1 [(14, .agg (enc_Plan p))] kr ?_)))))
 obtain ⟨y2, c2, hs⟩ := bS hs
 refine oP (v := .bool y2) kr kr (loc_gcall0 (callV_func hbv10 kr) (w_greenbeltref16_Few p _ c2) kr) ?_
 refine oR 1 [(16, .bool (!y2))] kr ?_
 refine oN (nT ?_)
 refine v_cond (!y2) kr (fun h1 => ?_) (fun h1 => ?_)
 ·replace hs := bif_t h1 hs
  refine vS (vT (oR 2 [(4, .bool y1), (17, .bool y1)] kr ?_))
  refine oN (nT (v_ret (rT ?_)))
  obtain rfl := si hs
  exact fin_ret kr kr kr
 ·replace hs := bif_f h1 hs
  refine vK (nT (vS (vT (oR 1 [(19, .agg (enc_Plan p))] kr ?_))))
  obtain ⟨y3, c3, hs⟩ := bS hs
  refine oP (v := .tup [.vs 1 (mI y3.1), .vs 1 (mS y3.2.1), .int .i64 y3.2.2]) kr kr (loc_gcall0 (callV_func hbv11 kr) (w_define_Order_2 p _ c3) kr) ?_
  refine oR 7 [(8, .int .i64 y3.2.2), (7, .vs 1 (mS y3.2.1)), (6, .vs 1 (mI y3.1)), (23, .int .i64 y3.2.2), (22, .vs 1 (mS y3.2.1)), (21, .vs 1 (mI y3.1)), (18, .tup [.vs 1 (mI y3.1), .vs 1 (mS y3.2.1), .int .i64 y3.2.2])] kr ?_
  refine oN (nT (vS (vT (oR 1 [(25, .agg (enc_Plan p))] kr ?_))))
  obtain ⟨y4, c4, hs⟩ := bS hs
  refine oP (v := .tup [.vs 1 (mI y4.1), .vs 1 (mS y4.2.1), .int .i64 y4.2.2]) kr kr (loc_gcall0 (callV_func hbv12 kr) (w_greenbeltref16_Order p _ c4) kr) ?_
  refine oR 7 [(11, .int .i64 y4.2.2), (10, .vs 1 (mS y4.2.1)), (9, .vs 1 (mI y4.1)), (29, .int .i64 y4.2.2), (28, .vs 1 (mS y4.2.1)), (27, .vs 1 (mI y4.1)), (24, .tup [.vs 1 (mI y4.1), .vs 1 (mS y4.2.1), .int .i64 y4.2.2])] kr ?_
  refine oN (nT (vS (vS ?_)))
  obtain ⟨z1, hs, hk1⟩ := bS hs
  refine v_join (S := Bool) (fun u => u = z1) (fun u => [(1, .str s), (2, .ptr 2 0 0), (5, .bool y1), (50, .bool u)]) (fun u => [(2, .box 30 (enc_Plan p))]) ?_ (fun v1 hz => ?_)
  ·refine vT (oR 4 [(33, .bool (!(decide (y3.2.2 = y4.2.2)))), (32, .bool (!(decide (y3.2.2 = y4.2.2)))), (31, .int .i64 y4.2.2), (30, .int .i64 y3.2.2)] kr ?_)
   cases h2 : ((!(decide (y3.2.2 = y4.2.2))))
   ·replace hs := bif_f h2 hs
    refine oR 2 [(35, .vs 1 (mI y4.1)), (34, .vs 1 (mI y3.1))] kr ?_
    obtain ⟨y5, c5, hs⟩ := bS hs
    refine oP (v := .bool y5) kr kr (loc_gcall0 (callV_func hbv13 kr) (w_greenbeltref01_SameNums y3.1 y4.1 _ c5) kr) ?_
    refine oR 3 [(39, .bool (!y5)), (38, .bool (!y5)), (37, .bool (!y5))] kr ?_
    cases h3 : ((!y5))
    ·replace hs := bif_f h3 hs
     refine oR 2 [(41, .vs 1 (mS y4.2.1)), (40, .vs 1 (mS y3.2.1))] kr ?_
     obtain ⟨y6, c6, hs⟩ := bS hs
     refine oP (v := .bool y6) kr kr (loc_gcall0 (callV_func hbv14 kr) (w_greenbeltref01_SameTexts y3.2.1 y4.2.1 _ c6) kr) ?_
     refine oR 3 [(45, .bool (!y6)), (44, .bool (!y6)), (43, .bool (!y6))] kr ?_
     cases h4 : ((!y6))
     ·replace hs := bif_f h4 hs
      obtain ⟨y7, c7, hs⟩ := bS hs
      refine oP (v := .vs 1 (mS y7)) kr kr (loc_gcall0 (callV_func hbv15 kr) (w_define_Measures  _ c7) kr) ?_
      obtain ⟨y8, c8, hs⟩ := bS hs
      refine o_loc (F := []) (F' := [(3004700, .row 9 1 0 (mS [([97, 114, 101, 97] : List UInt8), ([99, 111, 118, 101, 114] : List UInt8), ([102, 108, 111, 111, 114] : List UInt8), ([102, 108, 111, 111, 114, 115] : List UInt8), ([104, 101, 105, 103, 104, 116] : List UInt8), ([104, 111, 109, 101, 115] : List UInt8), ([114, 117, 110, 111, 102, 102] : List UInt8), ([115, 101, 116, 98, 97, 99, 107] : List UInt8), ([116, 114, 97, 102, 102, 105, 99] : List UInt8)]))]) (v := .sl 1 3004700 (([([97, 114, 101, 97] : List UInt8), ([99, 111, 118, 101, 114] : List UInt8), ([102, 108, 111, 111, 114] : List UInt8), ([102, 108, 111, 111, 114, 115] : List UInt8), ([104, 101, 105, 103, 104, 116] : List UInt8), ([104, 111, 109, 101, 115] : List UInt8), ([114, 117, 110, 111, 102, 102] : List UInt8), ([115, 101, 116, 98, 97, 99, 107] : List UInt8), ([116, 114, 97, 102, 102, 105, 99] : List UInt8)]).length) 0 (([([97, 114, 101, 97] : List UInt8), ([99, 111, 118, 101, 114] : List UInt8), ([102, 108, 111, 111, 114] : List UInt8), ([102, 108, 111, 111, 114, 115] : List UInt8), ([104, 101, 105, 103, 104, 116] : List UInt8), ([104, 111, 109, 101, 115] : List UInt8), ([114, 117, 110, 111, 102, 102] : List UInt8), ([115, 101, 116, 98, 97, 99, 107] : List UInt8), ([116, 114, 97, 102, 102, 105, 99] : List UInt8)]).length)) [] kr kr rfl kr (loc_g (R := []) [] [(1, 3004700)] (callV_func hbv16 kr) (w_greenbeltref16_Measures  _ c8) (.nil) kr kr kr kr kr kr kr kr) kr ?_
      obtain ⟨y9, c9, hs⟩ := bS hs
      refine o_loc (F := [(3004700, .row 9 1 0 (mS [([97, 114, 101, 97] : List UInt8), ([99, 111, 118, 101, 114] : List UInt8), ([102, 108, 111, 111, 114] : List UInt8), ([102, 108, 111, 111, 114, 115] : List UInt8), ([104, 101, 105, 103, 104, 116] : List UInt8), ([104, 111, 109, 101, 115] : List UInt8), ([114, 117, 110, 111, 102, 102] : List UInt8), ([115, 101, 116, 98, 97, 99, 107] : List UInt8), ([116, 114, 97, 102, 102, 105, 99] : List UInt8)]))]) (F' := [(3004700, .row 9 1 0 (mS [([97, 114, 101, 97] : List UInt8), ([99, 111, 118, 101, 114] : List UInt8), ([102, 108, 111, 111, 114] : List UInt8), ([102, 108, 111, 111, 114, 115] : List UInt8), ([104, 101, 105, 103, 104, 116] : List UInt8), ([104, 111, 109, 101, 115] : List UInt8), ([114, 117, 110, 111, 102, 102] : List UInt8), ([115, 101, 116, 98, 97, 99, 107] : List UInt8), ([116, 114, 97, 102, 102, 105, 99] : List UInt8)]))]) (v := .bool y9) [3004700] kr kr rfl kr (loc_gcallB (vs := [.vs 1 (mS y7), .sl 1 3004700 (([([97, 114, 101, 97] : List UInt8), ([99, 111, 118, 101, 114] : List UInt8), ([102, 108, 111, 111, 114] : List UInt8), ([102, 108, 111, 111, 114, 115] : List UInt8), ([104, 101, 105, 103, 104, 116] : List UInt8), ([104, 111, 109, 101, 115] : List UInt8), ([114, 117, 110, 111, 102, 102] : List UInt8), ([115, 101, 116, 98, 97, 99, 107] : List UInt8), ([116, 114, 97, 102, 102, 105, 99] : List UInt8)]).length) 0 (([([97, 114, 101, 97] : List UInt8), ([99, 111, 118, 101, 114] : List UInt8), ([102, 108, 111, 111, 114] : List UInt8), ([102, 108, 111, 111, 114, 115] : List UInt8), ([104, 101, 105, 103, 104, 116] : List UInt8), ([104, 111, 109, 101, 115] : List UInt8), ([114, 117, 110, 111, 102, 102] : List UInt8), ([115, 101, 116, 98, 97, 99, 107] : List UInt8), ([116, 114, 97, 102, 102, 105, 99] : List UInt8)]).length)]) (R := [(3004700, .row 9 1 0 (mS [([97, 114, 101, 97] : List UInt8), ([99, 111, 118, 101, 114] : List UInt8), ([102, 108, 111, 111, 114] : List UInt8), ([102, 108, 111, 111, 114, 115] : List UInt8), ([104, 101, 105, 103, 104, 116] : List UInt8), ([104, 111, 109, 101, 115] : List UInt8), ([114, 117, 110, 111, 102, 102] : List UInt8), ([115, 101, 116, 98, 97, 99, 107] : List UInt8), ([116, 114, 97, 102, 102, 105, 99] : List UInt8)]))]) (callV_func hbv14 kr) (w_greenbeltref01_SameTexts y7 [([97, 114, 101, 97] : List UInt8), ([99, 111, 118, 101, 114] : List UInt8), ([102, 108, 111, 111, 114] : List UInt8), ([102, 108, 111, 111, 114, 115] : List UInt8), ([104, 101, 105, 103, 104, 116] : List UInt8), ([104, 111, 109, 101, 115] : List UInt8), ([114, 117, 110, 111, 102, 102] : List UInt8), ([115, 101, 116, 98, 97, 99, 107] : List UInt8), ([116, 114, 97, 102, 102, 105, 99] : List UInt8)] _ c9) (.cons (.same _) (.cons (.row (t := 9) (fz := 0) kr (by first | (simp only [List.length_map, List.length_set, cpyT_length]; done) | rfl)) (.nil))) kr kr kr) kr ?_
      refine oR 2 [(50, .bool (!y9)), (49, .bool (!y9))] kr ?_
      refine oN ?_
      obtain rfl := si hs
      refine nrm_join (!y9) rfl ?_
      exact cut_of [1, 2, 5, 50] [2] kr kr kr
     ·replace hs := bif_t h4 hs
      refine oR 5 [(50, .bool true), (49, .no), (48, .no), (47, .no), (46, .no)] kr ?_
      refine oN ?_
      obtain rfl := si hs
      refine nrm_join true rfl ?_
      exact cut_of [1, 2, 5, 50] [2] kr kr kr
    ·replace hs := bif_t h3 hs
     refine oR 11 [(50, .bool true), (49, .no), (48, .no), (47, .no), (46, .no), (45, .bool true), (44, .bool true), (43, .no), (42, .no), (41, .no), (40, .no)] kr ?_
     refine oN ?_
     obtain rfl := si hs
     refine nrm_join true rfl ?_
     exact cut_of [1, 2, 5, 50] [2] kr kr kr
   ·replace hs := bif_t h2 hs
    refine oR 17 [(50, .bool true), (49, .no), (48, .no), (47, .no), (46, .no), (45, .bool true), (44, .bool true), (43, .no), (42, .no), (41, .no), (40, .no), (39, .bool true), (38, .bool true), (37, .no), (36, .no), (35, .no), (34, .no)] kr ?_
    refine oN ?_
    obtain rfl := si hs
    refine nrm_join true rfl ?_
    exact cut_of [1, 2, 5, 50] [2] kr kr kr
  ·subst hz; clear hs; have hs := hk1; clear hk1
   refine nT ?_
   refine v_cond v1 kr (fun h5 => ?_) (fun h5 => ?_)
   ·replace hs := bif_t h5 hs
    refine vS (vT (oR 1 [(4, .bool false)] kr ?_))
    refine oN (nT (v_ret (rT ?_)))
    obtain rfl := si hs
    exact fin_ret kr kr kr
   ·replace hs := bif_f h5 hs
    refine vK (nT (vS (vS (vT (oR 1 [(12, .int .i64 0)] kr ?_)))))
    refine oN (nT ?_)
    obtain ⟨z2, hs, hk2⟩ := bS hs
    refine v_join (S := Unit) (fun u => z2 = .inr u) (fun u => [(1, .str s), (2, .ptr 2 0 0), (5, .bool y1)]) (fun u => [(2, .box 30 (enc_Plan p))]) ?_ (fun v2 hz => ?_)
    ·refine vB ?_
     refine v_fuel (S := Int) (fun u => [(1, .str s), (2, .ptr 2 0 0), (5, .bool y1), (12, .int .i64 u)]) (fun u => [(2, .box 30 (enc_Plan p))]) (s_greenbeltlaw16_DefineTells_L1 p) (fun _ => rfl) KK 0 hs (cut_of [1, 2, 5, 12] [2] kr kr kr) (fun K1 q1 hs => ?_)
     rw [s_greenbeltlaw16_DefineTells_L1] at hs
     show WpV cK0 Try.prog none 111 _ _ [(1, .str s), (2, .ptr 2 0 0), (5, .bool y1), (12, .int .i64 q1)] [(2, .box 30 (enc_Plan p))] []
     refine vS (vS (vT (oR 3 [(53, .vs 6 (mM enc_Def p.Defs)), (52, .ptr 2 0 0), (51, .int .i64 q1)] kr ?_)))
     refine oP (v := .int .i64 (List.length p.Defs : Int)) kr kr (loc_lenVs (sz := 6) (els := (mM enc_Def p.Defs)) kr kr (List.length_map ..)) ?_
     refine oR 1 [(55, .bool (decide (q1 < (List.length p.Defs : Int))))] kr ?_
     refine oN (nT ?_)
     refine v_cond (decide (q1 < (List.length p.Defs : Int))) kr (fun h6 => ?_) (fun h6 => ?_)
     ·replace hs := bif_t h6 hs
      refine vK (nT (vS (vB (vS ?_))))
      obtain ⟨z3, hs, hk3⟩ := bS hs
      refine v_join (S := Bool) (fun u => u = z3) (fun u => [(1, .str s), (2, .ptr 2 0 0), (5, .bool y1), (12, .int .i64 q1), (93, .bool u)]) (fun u => [(2, .box 30 (enc_Plan p))]) ?_ (fun v3 hz => ?_)
      ·refine v_draw mixedH kr ?_
       refine d_runs 3 0 [(60, .int .i64 q1), (59, .vs 6 (mM enc_Def p.Defs)), (58, .ptr 2 0 0)] [⟨2, [], []⟩, ⟨1, [], [2]⟩, ⟨0, [], []⟩] kr kr ?_
       obtain ⟨x1, g1, hs⟩ := bS hs; obtain ⟨g1a, g1b, g1c⟩ := idx_some g1
       refine d_pure (v := .vp (enc_Def x1) 0) 3 rfl rfl rfl rfl kr kr (loc_indexVs (e := 46) (sz := 6) (k := .i64) (els := (mM enc_Def p.Defs)) (cs := (enc_Def x1)) kr kr kr g1a (by rw [g1c]; exact map_get _ (by omega))) ?_
       refine d_runs 2 4 [(63, .agg (enc_Expr x1.Body)), (62, .vp (enc_Def x1) 1)] (pfp 2 5) kr kr ?_
       obtain ⟨y10, c10, hs⟩ := bS hs
       refine d_pure (v := .vs 1 (mS y10)) 6 rfl rfl rfl rfl kr kr (loc_gcall0 (callV_func hbv17 kr) (w_define_Names x1.Body _ c10) kr) ?_
       refine d_runs 3 7 [(67, .int .i64 q1), (66, .vs 6 (mM enc_Def p.Defs)), (65, .ptr 2 0 0)] [⟨9, [], []⟩, ⟨8, [], [2]⟩, ⟨7, [], []⟩] kr kr ?_
       obtain ⟨x2, g2, hs⟩ := bS hs; obtain ⟨g2a, g2b, g2c⟩ := idx_some g2
       refine d_pure (v := .vp (enc_Def x2) 0) 10 rfl rfl rfl rfl kr kr (loc_indexVs (e := 46) (sz := 6) (k := .i64) (els := (mM enc_Def p.Defs)) (cs := (enc_Def x2)) kr kr kr g2a (by rw [g2c]; exact map_get _ (by omega))) ?_
       refine d_runs 2 11 [(70, .agg (enc_Expr x2.Body)), (69, .vp (enc_Def x2) 1)] (pfp 2 12) kr kr ?_
       obtain ⟨y11, c11, hs⟩ := bS hs
       refine d_pure (v := .vs 1 (mS y11)) 13 rfl rfl rfl rfl kr kr (loc_gcall0 (callV_func hbv18 kr) (w_greenbeltref16_Names KK x2.Body _ c11) kr) ?_
       obtain ⟨y12, c12, hs⟩ := bS hs
       refine d_pure (v := .bool y12) 14 rfl rfl rfl rfl kr kr (loc_gcall0 (callV_func hbv14 kr) (w_greenbeltref01_SameTexts y10 y11 _ c12) kr) ?_
       refine d_runs 2 15 [(74, .bool (!y12)), (73, .bool (!y12))] (pfp 2 16) kr kr ?_
       cases h7 : ((!y12))
       ·replace hs := bif_f h7 hs
        refine d_runs 4 17 [(78, .int .i64 q1), (77, .vs 6 (mM enc_Def p.Defs)), (76, .ptr 2 0 0), (75, .agg (enc_Plan p))] [⟨20, [], []⟩, ⟨19, [], [2]⟩, ⟨18, [], []⟩, ⟨17, [], [2]⟩] kr kr ?_
        obtain ⟨x3, g3, hs⟩ := bS hs; obtain ⟨g3a, g3b, g3c⟩ := idx_some g3
        refine d_pure (v := .vp (enc_Def x3) 0) 21 rfl rfl rfl rfl kr kr (loc_indexVs (e := 46) (sz := 6) (k := .i64) (els := (mM enc_Def p.Defs)) (cs := (enc_Def x3)) kr kr kr g3a (by rw [g3c]; exact map_get _ (by omega))) ?_
        refine d_runs 2 22 [(81, .str x3.Name), (80, .vp (enc_Def x3) 0)] (pfp 2 23) kr kr ?_
        obtain ⟨y13, c13, hs⟩ := bS hs
        refine d_pure (v := .vs 1 (mS y13)) 24 rfl rfl rfl rfl kr kr (loc_gcall0 (callV_func hbv19 kr) (w_define_Reaches_2 p x3.Name _ c13) kr) ?_
        refine d_runs 4 25 [(86, .int .i64 q1), (85, .vs 6 (mM enc_Def p.Defs)), (84, .ptr 2 0 0), (83, .agg (enc_Plan p))] [⟨28, [], []⟩, ⟨27, [], [2]⟩, ⟨26, [], []⟩, ⟨25, [], [2]⟩] kr kr ?_
        obtain ⟨x4, g4, hs⟩ := bS hs; obtain ⟨g4a, g4b, g4c⟩ := idx_some g4
        refine d_pure (v := .vp (enc_Def x4) 0) 29 rfl rfl rfl rfl kr kr (loc_indexVs (e := 46) (sz := 6) (k := .i64) (els := (mM enc_Def p.Defs)) (cs := (enc_Def x4)) kr kr kr g4a (by rw [g4c]; exact map_get _ (by omega))) ?_
        refine d_runs 2 30 [(89, .str x4.Name), (88, .vp (enc_Def x4) 0)] (pfp 2 31) kr kr ?_
        obtain ⟨y14, c14, hs⟩ := bS hs
        refine d_pure (v := .vs 1 (mS y14)) 32 rfl rfl rfl rfl kr kr (loc_gcall0 (callV_func hbv20 kr) (w_greenbeltref16_Reaches p x4.Name _ c14) kr) ?_
        obtain ⟨y15, c15, hs⟩ := bS hs
        refine d_pure (v := .bool y15) 33 rfl rfl rfl rfl kr kr (loc_gcall0 (callV_func hbv14 kr) (w_greenbeltref01_SameTexts y13 y14 _ c15) kr) ?_
        refine d_runs 2 34 [(93, .bool (!y15)), (92, .bool (!y15))] (pfp 2 35) kr kr ?_
        refine d_nil kr ?_
        obtain rfl := si hs
        refine nrm_join (!y15) rfl ?_
        exact cut_of [1, 2, 5, 12, 93] [2] kr kr kr
       ·replace hs := bif_t h7 hs
        refine d_runs 19 17 [(93, .bool true), (92, .no), (91, .no), (90, .no), (89, .no), (88, .no), (87, .no), (86, .no), (85, .no), (84, .no), (83, .no), (82, .no), (81, .no), (80, .no), (79, .no), (78, .no), (77, .no), (76, .no), (75, .no)] (pfp 19 35) kr kr ?_
        refine d_nil kr ?_
        obtain rfl := si hs
        refine nrm_join true rfl ?_
        exact cut_of [1, 2, 5, 12, 93] [2] kr kr kr
      ·subst hz; clear hs; have hs := hk3; clear hk3
       refine nT ?_
       refine v_cond v3 kr (fun h8 => ?_) (fun h8 => ?_)
       ·replace hs := bif_t h8 hs
        refine vS (vT (oR 1 [(4, .bool false)] kr ?_))
        refine oN (nT (v_ret (rB (rT (ret_fuel ?_)))))
        refine rB (ret_join ?_)
        refine rT ?_
        obtain rfl := si hs
        replace hs := hk2
        obtain rfl := si hs
        exact fin_ret kr kr kr
       ·replace hs := bif_f h8 hs
        refine vK (nB (nT (vT (oR 3 [(12, .int .i64 (w64 (q1 + 1))), (57, .int .i64 (w64 (q1 + 1))), (56, .int .i64 q1)] kr ?_))))
        refine oN (nrm_fuel (w64 (q1 + 1)) hs ?_)
        exact cut_of [1, 2, 5, 12] [2] kr kr kr
     ·replace hs := bif_f h6 hs
      refine v_exit (exit_thenV (exit_fuel ?_))
      refine exit_blkV ?_
      obtain rfl := si hs
      refine nrm_join () rfl ?_
      exact cut_of [1, 2, 5] [2] kr kr kr
    ·subst hz; clear hs; have hs := hk2; clear hk2
     refine nT (vS ?_)
     obtain ⟨z4, hs, hk4⟩ := bS hs
     refine v_join (S := Bool) (fun u => u = z4) (fun u => [(4, .bool u)]) (fun u => []) ?_ (fun v4 hz => ?_)
     ·refine v_draw mixedH kr ?_
      refine d_runs 2 0 [(95, .bool y1), (94, .bool y1)] (pfp 2 1) kr kr ?_
      cases h9 : (y1)
      ·replace hs := bif_f h9 hs
       refine d_runs 16 2 [(4, .bool false), (110, .bool false), (109, .no), (108, .no), (107, .no), (106, .no), (105, .no), (104, .bool false), (103, .bool false), (102, .no), (101, .no), (100, .no), (99, .no), (98, .no), (97, .no), (96, .no)] (pfp 16 17) kr kr ?_
       refine d_nil kr ?_
       obtain rfl := si hs
       refine nrm_join false rfl ?_
       exact cut_of [4] [] kr kr kr
      ·replace hs := bif_t h9 hs
       refine d_runs 2 2 [(97, .str s), (96, .agg (enc_Plan p))] [⟨3, [], []⟩, ⟨2, [], [2]⟩] kr kr ?_
       obtain ⟨y16, c16, hs⟩ := bS hs
       refine d_pure (v := .vs 1 (mS y16)) 4 rfl rfl rfl rfl kr kr (loc_gcall0 (callV_func hbv19 kr) (w_define_Reaches_2 p s _ c16) kr) ?_
       refine d_runs 2 5 [(100, .str s), (99, .agg (enc_Plan p))] [⟨6, [], []⟩, ⟨5, [], [2]⟩] kr kr ?_
       obtain ⟨y17, c17, hs⟩ := bS hs
       refine d_pure (v := .vs 1 (mS y17)) 7 rfl rfl rfl rfl kr kr (loc_gcall0 (callV_func hbv20 kr) (w_greenbeltref16_Reaches p s _ c17) kr) ?_
       obtain ⟨y18, c18, hs⟩ := bS hs
       refine d_pure (v := .bool y18) 8 rfl rfl rfl rfl kr kr (loc_gcall0 (callV_func hbv14 kr) (w_greenbeltref01_SameTexts y16 y17 _ c18) kr) ?_
       refine d_runs 2 9 [(104, .bool y18), (103, .bool y18)] (pfp 2 10) kr kr ?_
       cases h10 : (y18)
       ·replace hs := bif_f h10 hs
        refine d_runs 7 11 [(4, .bool false), (110, .bool false), (109, .no), (108, .no), (107, .no), (106, .no), (105, .no)] (pfp 7 17) kr kr ?_
        refine d_nil kr ?_
        obtain rfl := si hs
        refine nrm_join false rfl ?_
        exact cut_of [4] [] kr kr kr
       ·replace hs := bif_t h10 hs
        refine d_runs 1 11 [(105, .agg (enc_Plan p))] [⟨11, [], [2]⟩] kr kr ?_
        obtain ⟨y19, c19, hs⟩ := bS hs
        refine d_pure (v := .vs 1 (mS y19)) 12 rfl rfl rfl rfl kr kr (loc_gcall0 (callV_func hbv21 kr) (w_define_Unknown p _ c19) kr) ?_
        refine d_runs 1 13 [(107, .agg (enc_Plan p))] [⟨13, [], [2]⟩] kr kr ?_
        obtain ⟨y20, c20, hs⟩ := bS hs
        refine d_pure (v := .vs 1 (mS y20)) 14 rfl rfl rfl rfl kr kr (loc_gcall0 (callV_func hbv22 kr) (w_greenbeltref16_Unknown p _ c20) kr) ?_
        obtain ⟨y21, c21, hs⟩ := bS hs
        refine d_pure (v := .bool y21) 15 rfl rfl rfl rfl kr kr (loc_gcall0 (callV_func hbv14 kr) (w_greenbeltref01_SameTexts y19 y20 _ c21) kr) ?_
        refine d_runs 2 16 [(4, .bool y21), (110, .bool y21)] (pfp 2 17) kr kr ?_
        refine d_nil kr ?_
        obtain rfl := si hs
        refine nrm_join y21 rfl ?_
        exact cut_of [4] [] kr kr kr
     ·subst hz; clear hs; have hs := hk4; clear hk4
      refine nT (v_ret ?_)
      obtain rfl := si hs
      exact fin_ret kr kr kr
end Go.Proofs.Ytconjkgifdfhdaa
