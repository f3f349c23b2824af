/- Walks; printed by laws.py. -/
import Derived.Test.YtoflckochjijcaaDoorH
import Derived.Test.YtoflckochjijcaaDoorLaD
set_option linter.all false
set_option maxRecDepth 100000
namespace Go.Proofs.YtoflckochjijcaaDoor
open Go Go.RowKit Go.Eng Go.EV
variable [Fuel]
variable {ob0 ob1 ob2 : Go.Obj} {u1 u2 : TypeId}
theorem hbv9 : hasBody Tryd.prog 9 := body_of kr
theorem hbv10 : hasBody Tryd.prog 10 := body_of kr
theorem hbv11 : hasBody Tryd.prog 11 := body_of kr
theorem hbv17 : hasBody Tryd.prog 17 := body_of kr
theorem hbv18 : hasBody Tryd.prog 18 := body_of kr
theorem hbv16 : hasBody Tryd.prog 16 := body_of kr
theorem hbv15 : hasBody Tryd.prog 15 := body_of kr
theorem hbv7 : hasBody Tryd.prog 7 := body_of kr
theorem w_greenbeltref01_SameTexts (a : (List (List UInt8))) (b : (List (List UInt8))) (r : Bool) (hs : s_greenbeltref01_SameTexts a b = some r) : FnA Tryd.prog 15 [.vs 1 (mS a), .vs 1 (mS b)] [] (.bool r) [] := by
 refine fnA_of_wp (N := 26) Tryd.func15 rfl rfl rfl fun cK0 => ?_
 unfold s_greenbeltref01_SameTexts at hs
 refine v_same (ρ' := [(0, .vs 1 (mS a)), (1, .vs 1 (mS b))]) rfl rfl ?_
 refine vS (vT (oR 1 [(4, .bool false)] kr ?_))
 refine oN (nT (vS (vS (vT (oR 1 [(6, .vs 1 (mS a))] kr ?_)))))
 refine oP (v := iI (List.length a : Int)) kr kr (loc_lenVs (sz := 1) (els := (mS a)) kr kr (List.length_map ..)) ?_
 refine oR 1 [(8, .vs 1 (mS b))] kr ?_
 refine oP (v := iI (List.length b : Int)) kr kr (loc_lenVs (sz := 1) (els := (mS b)) kr kr (List.length_map ..)) ?_
 refine oR 1 [(10, .bool (!(decide ((List.length a : Int) = (List.length b : Int)))))] kr ?_
 refine oN (nT ?_)
 refine v_cond (!(decide ((List.length a : Int) = (List.length b : Int)))) kr (fun h1 => ?_) (fun h1 => ?_)
 ·replace hs := bif_t h1 hs
  refine vS (vT (oR 1 [(4, .bool false)] kr ?_))
  refine oN (nT (v_ret (rT ?_)))
  obtain rfl := si hs
  exact fin_ret kr kr kr
 ·replace hs := bif_f h1 hs
  refine vK (nT (vS (vS (vT (oR 1 [(5, iI 0)] kr ?_)))))
  refine oN (nT ?_)
  obtain ⟨z1, hs, hk1⟩ := bS hs
  refine v_join (S := Unit) (fun u => z1 = .inr u) (fun u => []) (fun u => []) ?_ (fun v1 hz => ?_)
  ·refine vB ?_
   refine v_fuel (S := Int) (fun u => [(0, .vs 1 (mS a)), (1, .vs 1 (mS b)), (5, iI u)]) (fun u => []) (s_greenbeltref01_SameTexts_L1 a b) (fun _ => rfl) KK 0 hs (cut_of [0, 1, 5] [] kr kr kr) (fun K1 q1 hs => ?_)
   rw [s_greenbeltref01_SameTexts_L1] at hs
   show WpV cK0 Tryd.prog none 26 _ _ [(0, .vs 1 (mS a)), (1, .vs 1 (mS b)), (5, iI q1)] [] []
   refine vS (vS (vT (oR 2 [(12, .vs 1 (mS a)), (11, iI q1)] kr ?_)))
   refine oP (v := iI (List.length a : Int)) kr kr (loc_lenVs (sz := 1) (els := (mS a)) kr kr (List.length_map ..)) ?_
   refine oR 1 [(14, .bool (decide (q1 < (List.length a : Int))))] kr ?_
   refine oN (nT ?_)
   refine v_cond (decide (q1 < (List.length a : Int))) kr (fun h2 => ?_) (fun h2 => ?_)
   ·replace hs := bif_t h2 hs
    refine vK (nT (vS (vB (vS (v_draw mixedH kr ?_)))))
    refine d_runs 2 0 [(18, iI q1), (17, .vs 1 (mS a))] (pfp 2 1) kr kr ?_
    obtain ⟨x1, g1, hs⟩ := bS hs; obtain ⟨g1a, g1b, g1c⟩ := idx_some g1
    refine d_pure (v := .vp [.str x1] 0) 2 rfl rfl rfl rfl kr kr (loc_indexVs (e := 9) (sz := 1) (k := .i64) (els := (mS a)) (cs := (EV.encS x1)) kr kr kr g1a (by rw [g1c]; exact map_get _ (by omega))) ?_
    refine d_runs 3 3 [(22, iI q1), (21, .vs 1 (mS b)), (20, .str x1)] (pfp 3 5) kr kr ?_
    obtain ⟨x2, g2, hs⟩ := bS hs; obtain ⟨g2a, g2b, g2c⟩ := idx_some g2
    refine d_pure (v := .vp [.str x2] 0) 6 rfl rfl rfl rfl kr kr (loc_indexVs (e := 9) (sz := 1) (k := .i64) (els := (mS b)) (cs := (EV.encS x2)) kr kr kr g2a (by rw [g2c]; exact map_get _ (by omega))) ?_
    refine d_runs 2 7 [(25, .bool (!(decide (x1 = x2)))), (24, .str x2)] (pfp 2 8) kr kr ?_
    refine d_nil kr ?_
    refine nT ?_
    refine v_cond (!(decide (x1 = x2))) kr (fun h3 => ?_) (fun h3 => ?_)
    ·replace hs := bif_t h3 hs
     refine vS (vT (oR 1 [(4, .bool false)] kr ?_))
     refine oN (nT (v_ret (rB (rT (ret_fuel ?_)))))
     refine rB (ret_join ?_)
     refine rT ?_
     obtain rfl := si hs
     replace hs := hk1
     obtain rfl := si hs
     exact fin_ret kr kr kr
    ·replace hs := bif_f h3 hs
     refine vK (nB (nT (vT (oR 3 [(5, iI (w64 (q1 + 1))), (16, iI (w64 (q1 + 1))), (15, iI q1)] kr ?_))))
     refine oN (nrm_fuel (w64 (q1 + 1)) hs ?_)
     exact cut_of [0, 1, 5] [] kr kr kr
   ·replace hs := bif_f h2 hs
    refine v_exit (exit_thenV (exit_fuel ?_))
    refine exit_blkV ?_
    obtain rfl := si hs
    refine nrm_join () rfl ?_
    exact cut_of [] [] kr kr kr
  ·subst hz; clear hs; have hs := hk1; clear hk1
   refine nT (vS (vT (oR 1 [(4, .bool true)] kr ?_)))
   refine oN (nT (v_ret ?_))
   obtain rfl := si hs
   exact fin_ret kr kr kr
theorem w_greenbeltlaw03_small  (r : Bool) (hs : s_greenbeltlaw03_small  = some r) : FnA Tryd.prog 7 [] (gO ob0 ob1 ob2 u1 u2) (.bool r) (gO ob0 ob1 ob2 u1 u2) := by
 refine fnA_of_wp (N := 93) Tryd.func7 rfl rfl rfl fun cK0 => ?_
 unfold s_greenbeltlaw03_small at hs
 refine v_same (ρ' := []) rfl rfl ?_
 refine vS (vT (oR 1 [(0, .bool false)] kr ?_))
 refine oN (nT (vS (vT ?_)))
 obtain ⟨y1, c1, hs⟩ := bS hs
 refine o_loc (F := []) (F' := [(3001200, .gen (EV.hide sJ (stF y1.2)))]) (v := .gv 3001200 (hpl 1 0)) [] kr kr rfl kr (loc_g (R := []) [] [(1000000, 3001200)] (callV_func hbv9 kr) (wk_new _ c1) (.nil) kr kr kr kr kr kr kr kr) kr ?_
 refine oR 1 [(1, .gv 3001200 (hpl 1 0))] kr ?_
 refine oN (nT (vS (vS (vT (oR 1 [(13, .gv 3001200 (hpl 1 0))] kr ?_)))))
 refine oP (v := .bool false) kr kr (loc_hplNil_eql (k := 3001200) (b := 1) (off := 0) kr kr kr) ?_
 refine oN (nT (v_cond_f kr ?_))
 refine vK (nT (vS (vT (oR 1 [(16, .gv 3001200 (hpl 1 0))] kr ?_))))
 obtain ⟨y2, c2, hs⟩ := bS hs
 refine o_loc (F := [(3001200, .gen (EV.hide sJ (stF y1.2))), (900000000, gl0 ob0), (900000001, gl1 ob1 u1), (900000002, gl2 ob2 u2)]) (F' := [(3001200, .gen (EV.hide sJ (stF y2.2))), (900000000, gl0 ob0), (900000001, gl1 ob1 u1), (900000002, gl2 ob2 u2)]) (v := .tup [.gv 3001200 (jpv jb y2.1.1), iI y2.1.2]) [3001200, 900000000, 900000001, 900000002] kr kr rfl kr (loc_g (R := []) [.gv 3001200 (hpl 1 0), iI 3] [(1000000, 3001200), (900000000, 900000000), (900000001, 900000001), (900000002, 900000002)] (callV_func hbv10 kr) (wk_open (ob0 := ob0) (ob1 := ob1) (ob2 := ob2) (u1 := u1) (u2 := u2) y1.2 3 _ c2) vw2 kr kr kr kr kr kr kr kr) kr ?_
 refine oR 5 [(3, iI y2.1.2), (2, .gv 3001200 (jpv jb y2.1.1)), (19, iI y2.1.2), (18, .gv 3001200 (jpv jb y2.1.1)), (15, .tup [.gv 3001200 (jpv jb y2.1.1), iI y2.1.2])] kr ?_
 refine oN (nT (vS (vS (vT (oR 1 [(20, .gv 3001200 (jpv jb y2.1.1))] kr ?_)))))
 refine oP (v := .bool (decide (y2.1.1 = 0))) kr kr (loc_jpvNil_eql (k := 3001200) (a := jb) (i := y2.1.1) kr kr kr) ?_
 refine oN (nT ?_)
 refine v_cond (decide (y2.1.1 = 0)) kr (fun h1 => ?_) (fun h1 => ?_)
 ·replace hs := bif_t h1 hs
  refine vS (vT (oR 1 [(0, .bool false)] kr ?_))
  refine oN (nT (v_ret (rT ?_)))
  obtain rfl := si hs
  exact fin_ret kr kr kr
 ·replace hs := bif_f h1 hs
  refine vK (nT (vS (vT (oR 1 [(22, .gv 3001200 (jpv jb y2.1.1))] kr ?_))))
  obtain ⟨y3, c3, hs⟩ := bS hs
  refine o_loc (F := [(3001200, .gen (EV.hide sJ (stF y2.2))), (900000000, gl0 ob0), (900000001, gl1 ob1 u1), (900000002, gl2 ob2 u2)]) (F' := [(3001200, .gen (EV.hide sJ (stF y3.2))), (900000000, gl0 ob0), (900000001, gl1 ob1 u1), (900000002, gl2 ob2 u2)]) (v := iI y3.1) [3001200, 900000000, 900000001, 900000002] kr kr rfl kr (loc_g (R := []) [.gv 3001200 (jpv jb y2.1.1), .str ([97, 98] : List UInt8)] [(1000000, 3001200), (900000000, 900000000), (900000001, 900000001), (900000002, 900000002)] (callV_func hbv11 kr) (wk_append (ob0 := ob0) (ob1 := ob1) (ob2 := ob2) (u1 := u1) (u2 := u2) y2.2 y2.1.1 ([97, 98] : List UInt8) _ c3) vw2 kr kr kr kr kr kr kr kr) kr ?_
  refine oR 1 [(4, iI y3.1)] kr ?_
  refine oN (nT (vS (vT (oR 1 [(24, .gv 3001200 (jpv jb y2.1.1))] kr ?_))))
  obtain ⟨y4, c4, hs⟩ := bS hs
  refine o_loc (F := [(3001200, .gen (EV.hide sJ (stF y3.2))), (900000000, gl0 ob0), (900000001, gl1 ob1 u1), (900000002, gl2 ob2 u2)]) (F' := [(3001200, .gen (EV.hide sJ (stF y4.2))), (900000000, gl0 ob0), (900000001, gl1 ob1 u1), (900000002, gl2 ob2 u2)]) (v := iI y4.1) [3001200, 900000000, 900000001, 900000002] kr kr rfl kr (loc_g (R := []) [.gv 3001200 (jpv jb y2.1.1), .str []] [(1000000, 3001200), (900000000, 900000000), (900000001, 900000001), (900000002, 900000002)] (callV_func hbv11 kr) (wk_append (ob0 := ob0) (ob1 := ob1) (ob2 := ob2) (u1 := u1) (u2 := u2) y3.2 y2.1.1 [] _ c4) vw2 kr kr kr kr kr kr kr kr) kr ?_
  refine oR 1 [(5, iI y4.1)] kr ?_
  refine oN (nT (vS (vT (oR 1 [(27, .gv 3001200 (hpl 1 0))] kr ?_))))
  obtain ⟨y5, c5, hs⟩ := bS hs
  refine o_loc (F := [(3001200, .gen (EV.hide sJ (stF y4.2))), (900000000, gl0 ob0), (900000001, gl1 ob1 u1), (900000002, gl2 ob2 u2)]) (F' := [(3001200, .gen (EV.hide sJ (stF y5.2))), (900000000, gl0 ob0), (900000001, gl1 ob1 u1), (900000002, gl2 ob2 u2)]) (v := .tup [.str y5.1.1, iI y5.1.2]) [3001200, 900000000, 900000001, 900000002] kr kr rfl kr (loc_g (R := []) [.gv 3001200 (hpl 1 0), iI 3, iI 0, iI 99] [(1000000, 3001200), (900000000, 900000000), (900000001, 900000001), (900000002, 900000002)] (callV_func hbv13 kr) (wk_read (ob0 := ob0) (ob1 := ob1) (ob2 := ob2) (u1 := u1) (u2 := u2) y4.2 3 0 99 _ c5) (.cons (.same _) vw3) kr kr kr kr kr kr kr kr) kr ?_
  refine oR 5 [(7, iI y5.1.2), (6, .str y5.1.1), (30, iI y5.1.2), (29, .str y5.1.1), (26, .tup [.str y5.1.1, iI y5.1.2])] kr ?_
  refine oN (nT (vS (vT (oR 1 [(31, .gv 3001200 (hpl 1 0))] kr ?_))))
  obtain ⟨y6, c6, hs⟩ := bS hs
  refine o_loc (F := [(3001200, .gen (EV.hide sJ (stF y5.2))), (900000000, gl0 ob0), (900000001, gl1 ob1 u1), (900000002, gl2 ob2 u2)]) (F' := [(3001200, .gen (EV.hide sJ (stF y6.2))), (900000000, gl0 ob0), (900000001, gl1 ob1 u1), (900000002, gl2 ob2 u2)]) (v := iI y6.1) [3001200, 900000000, 900000001, 900000002] kr kr rfl kr (loc_g (R := []) [.gv 3001200 (hpl 1 0), iI 4, iI 0, .str ([50, 58, 97, 98, 44, 50, 57, 51, 59, 49, 58, 97, 44, 57, 56, 59] : List UInt8)] [(1000000, 3001200), (900000000, 900000000), (900000001, 900000001), (900000002, 900000002)] (callV_func hbv14 kr) (wk_write (ob0 := ob0) (ob1 := ob1) (ob2 := ob2) (u1 := u1) (u2 := u2) y5.2 4 0 ([50, 58, 97, 98, 44, 50, 57, 51, 59, 49, 58, 97, 44, 57, 56, 59] : List UInt8) _ c6) (.cons (.same _) vw3) kr kr kr kr kr kr kr kr) kr ?_
  refine oN (nT (vS (vT (oR 1 [(34, .gv 3001200 (hpl 1 0))] kr ?_))))
  obtain ⟨y7, c7, hs⟩ := bS hs
  refine o_loc (F := [(3001200, .gen (EV.hide sJ (stF y6.2))), (900000000, gl0 ob0), (900000001, gl1 ob1 u1), (900000002, gl2 ob2 u2)]) (F' := [(3001200, .gen (EV.hide sJ (stF y7.2))), (900000000, gl0 ob0), (900000001, gl1 ob1 u1), (900000002, gl2 ob2 u2)]) (v := .tup [.gv 3001200 (jpv jb y7.1.1), iI y7.1.2]) [3001200, 900000000, 900000001, 900000002] kr kr rfl kr (loc_g (R := []) [.gv 3001200 (hpl 1 0), iI 4] [(1000000, 3001200), (900000000, 900000000), (900000001, 900000001), (900000002, 900000002)] (callV_func hbv10 kr) (wk_open (ob0 := ob0) (ob1 := ob1) (ob2 := ob2) (u1 := u1) (u2 := u2) y6.2 4 _ c7) vw2 kr kr kr kr kr kr kr kr) kr ?_
  refine oR 5 [(9, iI y7.1.2), (8, .gv 3001200 (jpv jb y7.1.1)), (37, iI y7.1.2), (36, .gv 3001200 (jpv jb y7.1.1)), (33, .tup [.gv 3001200 (jpv jb y7.1.1), iI y7.1.2])] kr ?_
  refine oN (nT (vS (vS (vT (oR 1 [(38, .gv 3001200 (jpv jb y7.1.1))] kr ?_)))))
  refine oP (v := .bool (decide (y7.1.1 = 0))) kr kr (loc_jpvNil_eql (k := 3001200) (a := jb) (i := y7.1.1) kr kr kr) ?_
  refine oN (nT ?_)
  refine v_cond (decide (y7.1.1 = 0)) kr (fun h2 => ?_) (fun h2 => ?_)
  ·replace hs := bif_t h2 hs
   refine vS (vT (oR 1 [(0, .bool false)] kr ?_))
   refine oN (nT (v_ret (rT ?_)))
   obtain rfl := si hs
   exact fin_ret kr kr kr
  ·replace hs := bif_f h2 hs
   refine vK (nT (vS ?_))
   obtain ⟨z1, hs, hk1⟩ := bS hs
   refine v_join (S := Bool) (fun u => u = z1) (fun u => [(1, .gv 3001200 (hpl 1 0)), (2, .gv 3001200 (jpv jb y2.1.1)), (3, iI y2.1.2), (4, iI y3.1), (5, iI y4.1), (6, .str y5.1.1), (8, .gv 3001200 (jpv jb y7.1.1)), (9, iI y7.1.2), (10, .bool u)]) (fun u => [(3001200, .gen (EV.hide sJ (stF y7.2))), (900000000, gl0 ob0), (900000001, gl1 ob1 u1), (900000002, gl2 ob2 u2)]) ?_ (fun v1 hz => ?_)
   ·refine vT ?_
    obtain ⟨y8, c8, hs⟩ := bS hs
    refine oP (v := iI y8) kr kr (loc_gcall0 (callV_func hbv25 kr) (w_journal_Sum [] _ c8) kr) ?_
    refine oR 2 [(42, .bool (decide (y8 = 0))), (41, .bool (decide (y8 = 0)))] kr ?_
    cases h3 : ((decide (y8 = 0)))
    ·replace hs := bif_f h3 hs
     refine oR 8 [(10, .bool false), (49, .bool false), (48, .no), (47, .no), (46, .bool false), (45, .bool false), (44, .no), (43, .no)] kr ?_
     refine oN ?_
     obtain rfl := si hs
     refine nrm_join false rfl ?_
     exact cut_of [1, 2, 3, 4, 5, 6, 8, 9, 10] [3001200, 900000000, 900000001, 900000002] kr kr kr
    ·replace hs := bif_t h3 hs
     obtain ⟨y9, c9, hs⟩ := bS hs
     refine oP (v := iI y9) kr kr (loc_gcall0 (callV_func hbv25 kr) (w_journal_Sum ([97] : List UInt8) _ c9) kr) ?_
     refine oR 3 [(46, .bool (decide (y9 = 97))), (45, .bool (decide (y9 = 97))), (44, .bool (decide (y9 = 97)))] kr ?_
     cases h4 : ((decide (y9 = 97)))
     ·replace hs := bif_f h4 hs
      refine oR 4 [(10, .bool false), (49, .bool false), (48, .no), (47, .no)] kr ?_
      refine oN ?_
      obtain rfl := si hs
      refine nrm_join false rfl ?_
      exact cut_of [1, 2, 3, 4, 5, 6, 8, 9, 10] [3001200, 900000000, 900000001, 900000002] kr kr kr
     ·replace hs := bif_t h4 hs
      obtain ⟨y10, c10, hs⟩ := bS hs
      refine oP (v := iI y10) kr kr (loc_gcall0 (callV_func hbv25 kr) (w_journal_Sum ([97, 98] : List UInt8) _ c10) kr) ?_
      refine oR 3 [(10, .bool (decide (y10 = 293))), (49, .bool (decide (y10 = 293))), (48, .bool (decide (y10 = 293)))] kr ?_
      refine oN ?_
      obtain rfl := si hs
      refine nrm_join (decide (y10 = 293)) rfl ?_
      exact cut_of [1, 2, 3, 4, 5, 6, 8, 9, 10] [3001200, 900000000, 900000001, 900000002] kr kr kr
   ·subst hz; clear hs; have hs := hk1; clear hk1
    refine nT (vS ?_)
    obtain ⟨z2, hs, hk2⟩ := bS hs
    refine v_join (S := Bool × Wd) (fun u => u = z2) (fun u => [(1, .gv 3001200 (hpl 1 0)), (8, .gv 3001200 (jpv jb y7.1.1)), (9, iI y7.1.2), (10, .bool v1), (11, .bool u.1)]) (fun u => [(3001200, .gen (EV.hide sJ (stF u.2))), (900000000, gl0 ob0), (900000001, gl1 ob1 u1), (900000002, gl2 ob2 u2)]) ?_ (fun v2 hz => ?_)
    ·refine vT (oR 3 [(52, .bool (decide (y2.1.2 = 0))), (51, .bool (decide (y2.1.2 = 0))), (50, iI y2.1.2)] kr ?_)
     cases h5 : ((decide (y2.1.2 = 0)))
     ·replace hs := bif_f h5 hs
      refine oR 22 [(11, .bool false), (73, .bool false), (72, .no), (71, .no), (70, .no), (69, .bool false), (68, .bool false), (67, .no), (66, .no), (65, .no), (64, .bool false), (63, .bool false), (62, .no), (61, .no), (60, .bool false), (59, .bool false), (58, .no), (57, .no), (56, .bool false), (55, .bool false), (54, .no), (53, .no)] kr ?_
      refine oN ?_
      obtain rfl := si hs
      refine nrm_join (false, y7.2) rfl ?_
      exact cut_of [1, 8, 9, 10, 11] [3001200, 900000000, 900000001, 900000002] kr kr kr
     ·replace hs := bif_t h5 hs
      refine oR 4 [(56, .bool (decide (y3.1 = 0))), (55, .bool (decide (y3.1 = 0))), (54, .bool (decide (y3.1 = 0))), (53, iI y3.1)] kr ?_
      cases h6 : ((decide (y3.1 = 0)))
      ·replace hs := bif_f h6 hs
       refine oR 18 [(11, .bool false), (73, .bool false), (72, .no), (71, .no), (70, .no), (69, .bool false), (68, .bool false), (67, .no), (66, .no), (65, .no), (64, .bool false), (63, .bool false), (62, .no), (61, .no), (60, .bool false), (59, .bool false), (58, .no), (57, .no)] kr ?_
       refine oN ?_
       obtain rfl := si hs
       refine nrm_join (false, y7.2) rfl ?_
       exact cut_of [1, 8, 9, 10, 11] [3001200, 900000000, 900000001, 900000002] kr kr kr
      ·replace hs := bif_t h6 hs
       refine oR 4 [(60, .bool (decide (y4.1 = 0))), (59, .bool (decide (y4.1 = 0))), (58, .bool (decide (y4.1 = 0))), (57, iI y4.1)] kr ?_
       cases h7 : ((decide (y4.1 = 0)))
       ·replace hs := bif_f h7 hs
        refine oR 14 [(11, .bool false), (73, .bool false), (72, .no), (71, .no), (70, .no), (69, .bool false), (68, .bool false), (67, .no), (66, .no), (65, .no), (64, .bool false), (63, .bool false), (62, .no), (61, .no)] kr ?_
        refine oN ?_
        obtain rfl := si hs
        refine nrm_join (false, y7.2) rfl ?_
        exact cut_of [1, 8, 9, 10, 11] [3001200, 900000000, 900000001, 900000002] kr kr kr
       ·replace hs := bif_t h7 hs
        refine oR 4 [(64, .bool (decide (y5.1.1 = ([50, 58, 97, 98, 44, 50, 57, 51, 59, 48, 58, 44, 48, 59] : List UInt8)))), (63, .bool (decide (y5.1.1 = ([50, 58, 97, 98, 44, 50, 57, 51, 59, 48, 58, 44, 48, 59] : List UInt8)))), (62, .bool (decide (y5.1.1 = ([50, 58, 97, 98, 44, 50, 57, 51, 59, 48, 58, 44, 48, 59] : List UInt8)))), (61, .str y5.1.1)] kr ?_
        cases h8 : ((decide (y5.1.1 = ([50, 58, 97, 98, 44, 50, 57, 51, 59, 48, 58, 44, 48, 59] : List UInt8))))
        ·replace hs := bif_f h8 hs
         refine oR 10 [(11, .bool false), (73, .bool false), (72, .no), (71, .no), (70, .no), (69, .bool false), (68, .bool false), (67, .no), (66, .no), (65, .no)] kr ?_
         refine oN ?_
         obtain rfl := si hs
         refine nrm_join (false, y7.2) rfl ?_
         exact cut_of [1, 8, 9, 10, 11] [3001200, 900000000, 900000001, 900000002] kr kr kr
        ·replace hs := bif_t h8 hs
         refine oR 1 [(65, .gv 3001200 (jpv jb y2.1.1))] kr ?_
         obtain ⟨y11, c11, hs⟩ := bS hs
         refine o_loc (F := [(3001200, .gen (EV.hide sJ (stF y7.2))), (900000000, gl0 ob0), (900000001, gl1 ob1 u1), (900000002, gl2 ob2 u2)]) (F' := [(3001200, .gen (EV.hide sJ (stF y11.2))), (900000000, gl0 ob0), (900000001, gl1 ob1 u1), (900000002, gl2 ob2 u2)]) (v := iI y11.1) [3001200, 900000000, 900000001, 900000002] kr kr rfl kr (loc_g (R := []) [.gv 3001200 (jpv jb y2.1.1)] [(1000000, 3001200), (900000000, 900000000), (900000001, 900000001), (900000002, 900000002)] (callV_func hbv17 kr) (wk_len (ob0 := ob0) (ob1 := ob1) (ob2 := ob2) (u1 := u1) (u2 := u2) y7.2 y2.1.1 _ c11) (.cons (.same _) (.nil)) kr kr kr kr kr kr kr kr) kr ?_
         refine oR 3 [(69, .bool (decide (y11.1 = 2))), (68, .bool (decide (y11.1 = 2))), (67, .bool (decide (y11.1 = 2)))] kr ?_
         cases h9 : ((decide (y11.1 = 2)))
         ·replace hs := bif_f h9 hs
          refine oR 5 [(11, .bool false), (73, .bool false), (72, .no), (71, .no), (70, .no)] kr ?_
          refine oN ?_
          obtain rfl := si hs
          refine nrm_join (false, y11.2) rfl ?_
          exact cut_of [1, 8, 9, 10, 11] [3001200, 900000000, 900000001, 900000002] kr kr kr
         ·replace hs := bif_t h9 hs
          refine oR 1 [(70, .gv 3001200 (jpv jb y2.1.1))] kr ?_
          obtain ⟨y12, c12, hs⟩ := bS hs
          refine o_loc (F := [(3001200, .gen (EV.hide sJ (stF y11.2))), (900000000, gl0 ob0), (900000001, gl1 ob1 u1), (900000002, gl2 ob2 u2)]) (F' := [(3001200, .gen (EV.hide sJ (stF y12.2))), (900000000, gl0 ob0), (900000001, gl1 ob1 u1), (900000002, gl2 ob2 u2)]) (v := .str y12.1) [3001200, 900000000, 900000001, 900000002] kr kr rfl kr (loc_g (R := []) [.gv 3001200 (jpv jb y2.1.1), iI 0] [(1000000, 3001200), (900000000, 900000000), (900000001, 900000001), (900000002, 900000002)] (callV_func hbv18 kr) (wk_get (ob0 := ob0) (ob1 := ob1) (ob2 := ob2) (u1 := u1) (u2 := u2) y11.2 y2.1.1 0 _ c12) vw2 kr kr kr kr kr kr kr kr) kr ?_
          refine oR 3 [(11, .bool (decide (y12.1 = ([97, 98] : List UInt8)))), (73, .bool (decide (y12.1 = ([97, 98] : List UInt8)))), (72, .bool (decide (y12.1 = ([97, 98] : List UInt8))))] kr ?_
          refine oN ?_
          obtain rfl := si hs
          refine nrm_join ((decide (y12.1 = ([97, 98] : List UInt8))), y12.2) rfl ?_
          exact cut_of [1, 8, 9, 10, 11] [3001200, 900000000, 900000001, 900000002] kr kr kr
    ·subst hz; clear hs; have hs := hk2; clear hk2
     refine nT (vS ?_)
     obtain ⟨z3, hs, hk3⟩ := bS hs
     refine v_join (S := Bool) (fun u => u = z3) (fun u => [(0, .bool u)]) (fun u => (gO ob0 ob1 ob2 u1 u2)) ?_ (fun v3 hz => ?_)
     ·refine vT (oR 2 [(75, .bool v1), (74, .bool v1)] kr ?_)
      cases h10 : (v1)
      ·replace hs := bif_f h10 hs
       refine oR 18 [(0, .bool false), (92, .bool false), (91, .no), (90, .no), (89, .no), (88, .bool false), (87, .bool false), (86, .no), (85, .no), (84, .no), (83, .no), (82, .bool false), (81, .bool false), (80, .no), (79, .no), (78, .bool false), (77, .bool false), (76, .no)] kr ?_
       refine oN ?_
       obtain rfl := si hs
       refine nrm_join false rfl ?_
       exact cut_of [0] kG kr kr kr
      ·replace hs := bif_t h10 hs
       refine oR 3 [(78, .bool v2.1), (77, .bool v2.1), (76, .bool v2.1)] kr ?_
       cases h11 : (v2.1)
       ·replace hs := bif_f h11 hs
        refine oR 15 [(0, .bool false), (92, .bool false), (91, .no), (90, .no), (89, .no), (88, .bool false), (87, .bool false), (86, .no), (85, .no), (84, .no), (83, .no), (82, .bool false), (81, .bool false), (80, .no), (79, .no)] kr ?_
        refine oN ?_
        obtain rfl := si hs
        refine nrm_join false rfl ?_
        exact cut_of [0] kG kr kr kr
       ·replace hs := bif_t h11 hs
        refine oR 4 [(82, .bool (decide (y7.1.2 = 0))), (81, .bool (decide (y7.1.2 = 0))), (80, .bool (decide (y7.1.2 = 0))), (79, iI y7.1.2)] kr ?_
        cases h12 : ((decide (y7.1.2 = 0)))
        ·replace hs := bif_f h12 hs
         refine oR 11 [(0, .bool false), (92, .bool false), (91, .no), (90, .no), (89, .no), (88, .bool false), (87, .bool false), (86, .no), (85, .no), (84, .no), (83, .no)] kr ?_
         refine oN ?_
         obtain rfl := si hs
         refine nrm_join false rfl ?_
         exact cut_of [0] kG kr kr kr
        ·replace hs := bif_t h12 hs
         refine oR 1 [(83, .gv 3001200 (jpv jb y7.1.1))] kr ?_
         obtain ⟨y13, c13, hs⟩ := bS hs
         refine o_loc (F := [(3001200, .gen (EV.hide sJ (stF v2.2))), (900000000, gl0 ob0), (900000001, gl1 ob1 u1), (900000002, gl2 ob2 u2)]) (F' := [(3001200, .gen (EV.hide sJ (stF y13.2))), (3008400, .row 9 1 0 (mS y13.1)), (900000000, gl0 ob0), (900000001, gl1 ob1 u1), (900000002, gl2 ob2 u2)]) (v := .sl 1 3008400 ((y13.1).length) 0 ((y13.1).length)) [3001200, 900000000, 900000001, 900000002] kr kr rfl kr (loc_g (R := []) [.gv 3001200 (jpv jb y7.1.1)] [(1000000, 3001200), (1000001, 3008400), (900000000, 900000000), (900000001, 900000001), (900000002, 900000002)] (callV_func hbv16 kr) (wk_all (ob0 := ob0) (ob1 := ob1) (ob2 := ob2) (u1 := u1) (u2 := u2) v2.2 y7.1.1 _ c13) (.cons (.same _) (.nil)) kr kr kr kr kr kr kr kr) kr ?_
         refine o_runh 1 [(85, .sl 1 85 1 0 1)] [(85, .row 9 1 0 (mS [([97, 98] : List UInt8)])), (3001200, .gen (EV.hide sJ (stF y13.2))), (3008400, .row 9 1 0 (mS y13.1)), (900000000, gl0 ob0), (900000001, gl1 ob1 u1), (900000002, gl2 ob2 u2)] kr ?_
         obtain ⟨y14, c14, hs⟩ := bS hs
         refine o_loc (F := [(85, .row 9 1 0 (mS [([97, 98] : List UInt8)])), (3008400, .row 9 1 0 (mS y13.1))]) (F' := [(85, .row 9 1 0 (mS [([97, 98] : List UInt8)])), (3008400, .row 9 1 0 (mS y13.1))]) (v := .bool y14) [85, 3008400] kr kr rfl kr (loc_gcallB (vs := [.sl 1 3008400 ((y13.1).length) 0 ((y13.1).length), .sl 1 85 1 0 1]) (R := [(85, .row 9 1 0 (mS [([97, 98] : List UInt8)])), (3008400, .row 9 1 0 (mS y13.1))]) (callV_func hbv15 kr) (w_greenbeltref01_SameTexts y13.1 [([97, 98] : List UInt8)] _ c14) (.cons (.row (t := 9) (fz := 0) kr (by first | (simp only [List.length_map, List.length_set, cpyT_length]; done) | rfl)) (.cons (.row (t := 9) (fz := 0) kr (by first | (simp only [List.length_map, List.length_set, cpyT_length]; done) | rfl)) (.nil))) kr kr kr) kr ?_
         refine oR 2 [(88, .bool y14), (87, .bool y14)] kr ?_
         cases h13 : (y14)
         ·replace hs := bif_f h13 hs
          refine oR 5 [(0, .bool false), (92, .bool false), (91, .no), (90, .no), (89, .no)] kr ?_
          refine oN ?_
          obtain rfl := si hs
          refine nrm_join false rfl ?_
          exact cut_of [0] kG kr kr kr
         ·replace hs := bif_t h13 hs
          refine oR 1 [(89, .gv 3001200 (hpl 1 0))] kr ?_
          obtain ⟨y15, c15, hs⟩ := bS hs
          refine o_loc (F := [(3001200, .gen (EV.hide sJ (stF y13.2))), (900000000, gl0 ob0), (900000001, gl1 ob1 u1), (900000002, gl2 ob2 u2)]) (F' := [(3001200, .gen (EV.hide sJ (stF y15.2))), (900000000, gl0 ob0), (900000001, gl1 ob1 u1), (900000002, gl2 ob2 u2)]) (v := iI y15.1) [3001200, 900000000, 900000001, 900000002] kr kr rfl kr (loc_g (R := []) [.gv 3001200 (hpl 1 0), iI 4] [(1000000, 3001200), (900000000, 900000000), (900000001, 900000001), (900000002, 900000002)] (callV_func hbv12 kr) (wk_size (ob0 := ob0) (ob1 := ob1) (ob2 := ob2) (u1 := u1) (u2 := u2) y13.2 4 _ c15) vw2 kr kr kr kr kr kr kr kr) kr ?_
          refine oR 3 [(0, .bool (decide (y15.1 = 9))), (92, .bool (decide (y15.1 = 9))), (91, .bool (decide (y15.1 = 9)))] kr ?_
          refine oN ?_
          obtain rfl := si hs
          refine nrm_join (decide (y15.1 = 9)) rfl ?_
          exact cut_of [0] kG kr kr kr
     ·subst hz; clear hs; have hs := hk3; clear hk3
      refine nT (v_ret ?_)
      obtain rfl := si hs
      exact fin_ret kr kr kr
end Go.Proofs.YtoflckochjijcaaDoor
