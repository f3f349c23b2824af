/- Walks; printed by laws.py. -/
import Derived.Test.YtoflckochjijcaaDoorH
import Derived.Test.YtoflckochjijcaaDoorLaD
set_option linter.all false
set_option maxRecDepth 100000
namespace Go.Proofs.YtoflckochjijcaaDoor
open Go Go.RowKit Go.Eng Go.EV
variable [Fuel]
variable {ob0 ob1 ob2 : Go.Obj} {u1 u2 : TypeId}
theorem hbv9 : hasBody Tryd.prog 9 := body_of kr
theorem hbv10 : hasBody Tryd.prog 10 := body_of kr
theorem hbv11 : hasBody Tryd.prog 11 := body_of kr
theorem hbv17 : hasBody Tryd.prog 17 := body_of kr
theorem hbv18 : hasBody Tryd.prog 18 := body_of kr
theorem hbv16 : hasBody Tryd.prog 16 := body_of kr
theorem hbv15 : hasBody Tryd.prog 15 := body_of kr
theorem hbv7 : hasBody Tryd.prog 7 := body_of kr
theorem hbv20 : hasBody Tryd.prog 20 := body_of kr
theorem w_gr01_SameTexts (a : (List Sr)) (b : (List Sr)) (r : Bool) (hs : s_gr01_SameTexts a b = some r) : FnA Tryd.prog 15 [.vs 1 (mS a), .vs 1 (mS b)] [] (.bool r) [] := by
 refine fnA_of_wp (N := 26) Tryd.func15 rfl rfl rfl fun cK0 => ?_
 unfold s_gr01_SameTexts at hs
 refine v_same (ρ' := [(0, .vs 1 (mS a)), (1, .vs 1 (mS b))]) rfl rfl ?_
 refine vS (vT (oR 1 [(4, .bool false)] kr ?_))
 refine oN (nT (vS (vS (vT (oR 1 [(6, .vs 1 (mS a))] kr ?_)))))
 refine oP (v := iI (List.length a : Int)) kr kr (loc_lenVs (sz := 1) (els := (mS a)) kr kr lM) ?_
 refine oR 1 [(8, .vs 1 (mS b))] kr ?_
 refine oP (v := iI (List.length b : Int)) kr kr (loc_lenVs (sz := 1) (els := (mS b)) kr kr lM) ?_
 refine oR 1 [(10, .bool (!(decide ((List.length a : Int) = (List.length b : Int)))))] kr ?_
 refine oN (nT ?_)
 refine v_cond (!(decide ((List.length a : Int) = (List.length b : Int)))) kr (fun h1 => ?_) (fun h1 => ?_)
 ·replace hs := bif_t h1 hs
  refine vS (vT (oR 1 [(4, .bool false)] kr ?_))
  refine oN (nT (v_ret (rT ?_)))
  cases hs
  exact fin_ret kr kr kr
 ·replace hs := bif_f h1 hs
  refine vK (nT (vS (vS (vT (oR 1 [(5, iI 0)] kr ?_)))))
  refine oN (nT ?_)
  obtain ⟨z1, hs, hk1⟩ := bS hs
  refine v_join (S := Unit) (fun u => z1 = .inr u) (fun u => []) (fun u => []) ?_ (fun v1 hz => ?_)
  ·refine vB ?_
   refine v_fuel (S := Int) (fun u => [(0, .vs 1 (mS a)), (1, .vs 1 (mS b)), (5, iI u)]) (fun u => []) (s_gr01_SameTexts_L1 a b) (fun _ => rfl) KK 0 hs (cut_of [0, 1, 5] [] kr kr kr) (fun K1 q1 hs => ?_)
   rw [s_gr01_SameTexts_L1] at hs
   show WpV cK0 Tryd.prog none 26 _ _ [(0, .vs 1 (mS a)), (1, .vs 1 (mS b)), (5, iI q1)] [] []
   refine vS (vS (vT (oR 2 [(12, .vs 1 (mS a)), (11, iI q1)] kr ?_)))
   refine oP (v := iI (List.length a : Int)) kr kr (loc_lenVs (sz := 1) (els := (mS a)) kr kr lM) ?_
   refine oR 1 [(14, .bool (decide (q1 < (List.length a : Int))))] kr ?_
   refine oN (nT ?_)
   refine v_cond (decide (q1 < (List.length a : Int))) kr (fun h2 => ?_) (fun h2 => ?_)
   ·replace hs := bif_t h2 hs
    refine vK (nT (vS (vB (vS (v_draw mixedH kr ?_)))))
    refine d_runs 2 0 [(18, iI q1), (17, .vs 1 (mS a))] (pfp 2 1) kr kr ?_
    obtain ⟨x1, g1, hs⟩ := bS hs; obtain ⟨g1a, g1b, g1c⟩ := idx_some g1
    refine d_pure (v := .vp [.str x1] 0) 2 rfl rfl rfl rfl kr kr (loc_indexVs (e := 9) (sz := 1) (k := .i64) (els := (mS a)) (cs := (EV.encS x1)) kr kr kr g1a (by rw [g1c]; exact map_get _ (by omega))) ?_
    refine d_runs 3 3 [(22, iI q1), (21, .vs 1 (mS b)), (20, .str x1)] (pfp 3 5) kr kr ?_
    obtain ⟨x2, g2, hs⟩ := bS hs; obtain ⟨g2a, g2b, g2c⟩ := idx_some g2
    refine d_pure (v := .vp [.str x2] 0) 6 rfl rfl rfl rfl kr kr (loc_indexVs (e := 9) (sz := 1) (k := .i64) (els := (mS b)) (cs := (EV.encS x2)) kr kr kr g2a (by rw [g2c]; exact map_get _ (by omega))) ?_
    refine d_runs 2 7 [(25, .bool (!(decide (x1 = x2)))), (24, .str x2)] (pfp 2 8) kr kr ?_
    refine d_nil kr ?_
    refine nT ?_
    refine v_cond (!(decide (x1 = x2))) kr (fun h3 => ?_) (fun h3 => ?_)
    ·replace hs := bif_t h3 hs
     refine vS (vT (oR 1 [(4, .bool false)] kr ?_))
     refine oN (nT (v_ret (rB (rT (ret_fuel ?_)))))
     refine rB (ret_join ?_)
     refine rT ?_
     obtain rfl := si hs
     replace hs := hk1
     cases hs
     exact fin_ret kr kr kr
    ·replace hs := bif_f h3 hs
     refine vK (nB (nT (vT (oR 3 [(5, iI (w64 (q1 + 1))), (16, iI (w64 (q1 + 1))), (15, iI q1)] kr ?_))))
     refine oN (nrm_fuel (w64 (q1 + 1)) hs ?_)
     exact cut_of [0, 1, 5] [] kr kr kr
   ·replace hs := bif_f h2 hs
    refine v_exit (exit_thenV (exit_fuel ?_))
    refine exit_blkV ?_
    cases hs
    refine nrm_join () rfl ?_
    exact cut_of [] [] kr kr kr
  ·subst hz; clear hs; have hs := hk1; clear hk1
   refine nT (vS (vT (oR 1 [(4, .bool true)] kr ?_)))
   refine oN (nT (v_ret ?_))
   cases hs
   exact fin_ret kr kr kr
theorem w_gl03_small  (r : Bool) (hs : s_gl03_small  = some r) : FnA Tryd.prog 7 [] (gO ob0 ob1 ob2 u1 u2) (.bool r) (gO ob0 ob1 ob2 u1 u2) := by
 refine fnA_of_wp (N := 93) Tryd.func7 rfl rfl rfl fun cK0 => ?_
 unfold s_gl03_small at hs
 refine v_same (ρ' := []) rfl rfl ?_
 refine vS (vT (oR 1 [(0, .bool false)] kr ?_))
 refine oN (nT (vS (vT ?_)))
 obtain ⟨y1, c1, hs⟩ := bS hs
 refine o_loc (F := []) (F' := [(3001200, .gen (EV.hide sJ (stF y1.2)))]) (v := .gv 3001200 (hpl 1 0)) [] kr kr rfl kr (loc_g (R := []) [] [(1000000, 3001200)] (callV_func hbv9 kr) (wk_new _ c1) (.nil) kr kr kr kr kr kr kr kr) kr ?_
 refine oR 1 [(1, .gv 3001200 (hpl 1 0))] kr ?_
 refine oN (nT (vS (vS (vT (oR 1 [(13, .gv 3001200 (hpl 1 0))] kr ?_)))))
 refine oP (v := .bool false) kr kr (loc_hplNil_eql (k := 3001200) (b := 1) (off := 0) kr kr kr) ?_
 refine oN (nT (v_cond_f kr ?_))
 refine vK (nT (vS (vT (oR 1 [(16, .gv 3001200 (hpl 1 0))] kr ?_))))
 obtain ⟨y2, c2, hs⟩ := bS hs
 refine o_loc (F := [(3001200, .gen (EV.hide sJ (stF y1.2))), (900000000, gl0 ob0), (900000001, gl1 ob1 u1), (900000002, gl2 ob2 u2)]) (F' := [(3001200, .gen (EV.hide sJ (stF y2.2))), (900000000, gl0 ob0), (900000001, gl1 ob1 u1), (900000002, gl2 ob2 u2)]) (v := .tup [.gv 3001200 (jpv jb y2.1.1), iI y2.1.2]) [3001200, 900000000, 900000001, 900000002] kr kr rfl kr (loc_g (R := []) [.gv 3001200 (hpl 1 0), iI 3] [(1000000, 3001200), (900000000, 900000000), (900000001, 900000001), (900000002, 900000002)] (callV_func hbv10 kr) (wk_open (ob0 := ob0) (ob1 := ob1) (ob2 := ob2) (u1 := u1) (u2 := u2) y1.2 3 _ c2) vw2 kr kr kr kr kr kr kr kr) kr ?_
 refine oR 5 [(3, iI y2.1.2), (2, .gv 3001200 (jpv jb y2.1.1)), (19, iI y2.1.2), (18, .gv 3001200 (jpv jb y2.1.1)), (15, .tup [.gv 3001200 (jpv jb y2.1.1), iI y2.1.2])] kr ?_
 refine oN (nT (vS (vS (vT (oR 1 [(20, .gv 3001200 (jpv jb y2.1.1))] kr ?_)))))
 refine oP (v := .bool (decide (y2.1.1 = 0))) kr kr (loc_jpvNil_eql (k := 3001200) (a := jb) (i := y2.1.1) kr kr kr) ?_
 refine oN (nT ?_)
 refine v_cond (decide (y2.1.1 = 0)) kr (fun h1 => ?_) (fun h1 => ?_)
 ·replace hs := bif_t h1 hs
  refine vS (vT (oR 1 [(0, .bool false)] kr ?_))
  refine oN (nT (v_ret (rT ?_)))
  cases hs
  exact fin_ret kr kr kr
 ·replace hs := bif_f h1 hs
  refine vK (nT (vS (vT (oR 1 [(22, .gv 3001200 (jpv jb y2.1.1))] kr ?_))))
  obtain ⟨y3, c3, hs⟩ := bS hs
  refine o_loc (F := [(3001200, .gen (EV.hide sJ (stF y2.2))), (900000000, gl0 ob0), (900000001, gl1 ob1 u1), (900000002, gl2 ob2 u2)]) (F' := [(3001200, .gen (EV.hide sJ (stF y3.2))), (900000000, gl0 ob0), (900000001, gl1 ob1 u1), (900000002, gl2 ob2 u2)]) (v := iI y3.1) [3001200, 900000000, 900000001, 900000002] kr kr rfl kr (loc_g (R := []) [.gv 3001200 (jpv jb y2.1.1), .str ls2] [(1000000, 3001200), (900000000, 900000000), (900000001, 900000001), (900000002, 900000002)] (callV_func hbv11 kr) (wk_append (ob0 := ob0) (ob1 := ob1) (ob2 := ob2) (u1 := u1) (u2 := u2) y2.2 y2.1.1 ls2 _ c3) vw2 kr kr kr kr kr kr kr kr) kr ?_
  refine oR 1 [(4, iI y3.1)] kr ?_
  refine oN (nT (vS (vT (oR 1 [(24, .gv 3001200 (jpv jb y2.1.1))] kr ?_))))
  obtain ⟨y4, c4, hs⟩ := bS hs
  refine o_loc (F := [(3001200, .gen (EV.hide sJ (stF y3.2))), (900000000, gl0 ob0), (900000001, gl1 ob1 u1), (900000002, gl2 ob2 u2)]) (F' := [(3001200, .gen (EV.hide sJ (stF y4.2))), (900000000, gl0 ob0), (900000001, gl1 ob1 u1), (900000002, gl2 ob2 u2)]) (v := iI y4.1) [3001200, 900000000, 900000001, 900000002] kr kr rfl kr (loc_g (R := []) [.gv 3001200 (jpv jb y2.1.1), .str []] [(1000000, 3001200), (900000000, 900000000), (900000001, 900000001), (900000002, 900000002)] (callV_func hbv11 kr) (wk_append (ob0 := ob0) (ob1 := ob1) (ob2 := ob2) (u1 := u1) (u2 := u2) y3.2 y2.1.1 [] _ c4) vw2 kr kr kr kr kr kr kr kr) kr ?_
  refine oR 1 [(5, iI y4.1)] kr ?_
  refine oN (nT (vS (vT (oR 1 [(27, .gv 3001200 (hpl 1 0))] kr ?_))))
  obtain ⟨y5, c5, hs⟩ := bS hs
  refine o_loc (F := [(3001200, .gen (EV.hide sJ (stF y4.2))), (900000000, gl0 ob0), (900000001, gl1 ob1 u1), (900000002, gl2 ob2 u2)]) (F' := [(3001200, .gen (EV.hide sJ (stF y5.2))), (900000000, gl0 ob0), (900000001, gl1 ob1 u1), (900000002, gl2 ob2 u2)]) (v := .tup [.str y5.1.1, iI y5.1.2]) [3001200, 900000000, 900000001, 900000002] kr kr rfl kr (loc_g (R := []) [.gv 3001200 (hpl 1 0), iI 3, iI 0, iI 99] [(1000000, 3001200), (900000000, 900000000), (900000001, 900000001), (900000002, 900000002)] (callV_func hbv13 kr) (wk_read (ob0 := ob0) (ob1 := ob1) (ob2 := ob2) (u1 := u1) (u2 := u2) y4.2 3 0 99 _ c5) (.cons (.same _) vw3) kr kr kr kr kr kr kr kr) kr ?_
  refine oR 5 [(7, iI y5.1.2), (6, .str y5.1.1), (30, iI y5.1.2), (29, .str y5.1.1), (26, .tup [.str y5.1.1, iI y5.1.2])] kr ?_
  refine oN (nT (vS (vT (oR 1 [(31, .gv 3001200 (hpl 1 0))] kr ?_))))
  obtain ⟨y6, c6, hs⟩ := bS hs
  refine o_loc (F := [(3001200, .gen (EV.hide sJ (stF y5.2))), (900000000, gl0 ob0), (900000001, gl1 ob1 u1), (900000002, gl2 ob2 u2)]) (F' := [(3001200, .gen (EV.hide sJ (stF y6.2))), (900000000, gl0 ob0), (900000001, gl1 ob1 u1), (900000002, gl2 ob2 u2)]) (v := iI y6.1) [3001200, 900000000, 900000001, 900000002] kr kr rfl kr (loc_g (R := []) [.gv 3001200 (hpl 1 0), iI 4, iI 0, .str ([50, 58, 97, 98, 44, 50, 57, 51, 59, 49, 58, 97, 44, 57, 56, 59] : Sr)] [(1000000, 3001200), (900000000, 900000000), (900000001, 900000001), (900000002, 900000002)] (callV_func hbv14 kr) (wk_write (ob0 := ob0) (ob1 := ob1) (ob2 := ob2) (u1 := u1) (u2 := u2) y5.2 4 0 ([50, 58, 97, 98, 44, 50, 57, 51, 59, 49, 58, 97, 44, 57, 56, 59] : Sr) _ c6) (.cons (.same _) vw3) kr kr kr kr kr kr kr kr) kr ?_
  refine oN (nT (vS (vT (oR 1 [(34, .gv 3001200 (hpl 1 0))] kr ?_))))
  obtain ⟨y7, c7, hs⟩ := bS hs
  refine o_loc (F := [(3001200, .gen (EV.hide sJ (stF y6.2))), (900000000, gl0 ob0), (900000001, gl1 ob1 u1), (900000002, gl2 ob2 u2)]) (F' := [(3001200, .gen (EV.hide sJ (stF y7.2))), (900000000, gl0 ob0), (900000001, gl1 ob1 u1), (900000002, gl2 ob2 u2)]) (v := .tup [.gv 3001200 (jpv jb y7.1.1), iI y7.1.2]) [3001200, 900000000, 900000001, 900000002] kr kr rfl kr (loc_g (R := []) [.gv 3001200 (hpl 1 0), iI 4] [(1000000, 3001200), (900000000, 900000000), (900000001, 900000001), (900000002, 900000002)] (callV_func hbv10 kr) (wk_open (ob0 := ob0) (ob1 := ob1) (ob2 := ob2) (u1 := u1) (u2 := u2) y6.2 4 _ c7) vw2 kr kr kr kr kr kr kr kr) kr ?_
  refine oR 5 [(9, iI y7.1.2), (8, .gv 3001200 (jpv jb y7.1.1)), (37, iI y7.1.2), (36, .gv 3001200 (jpv jb y7.1.1)), (33, .tup [.gv 3001200 (jpv jb y7.1.1), iI y7.1.2])] kr ?_
  refine oN (nT (vS (vS (vT (oR 1 [(38, .gv 3001200 (jpv jb y7.1.1))] kr ?_)))))
  refine oP (v := .bool (decide (y7.1.1 = 0))) kr kr (loc_jpvNil_eql (k := 3001200) (a := jb) (i := y7.1.1) kr kr kr) ?_
  refine oN (nT ?_)
  refine v_cond (decide (y7.1.1 = 0)) kr (fun h2 => ?_) (fun h2 => ?_)
  ·replace hs := bif_t h2 hs
   refine vS (vT (oR 1 [(0, .bool false)] kr ?_))
   refine oN (nT (v_ret (rT ?_)))
   cases hs
   exact fin_ret kr kr kr
  ·replace hs := bif_f h2 hs
   refine vK (nT (vS ?_))
   obtain ⟨z1, hs, hk1⟩ := bS hs
   refine v_join (S := Bool) (fun u => u = z1) (fun u => [(1, .gv 3001200 (hpl 1 0)), (2, .gv 3001200 (jpv jb y2.1.1)), (3, iI y2.1.2), (4, iI y3.1), (5, iI y4.1), (6, .str y5.1.1), (8, .gv 3001200 (jpv jb y7.1.1)), (9, iI y7.1.2), (10, .bool u)]) (fun u => [(3001200, .gen (EV.hide sJ (stF y7.2))), (900000000, gl0 ob0), (900000001, gl1 ob1 u1), (900000002, gl2 ob2 u2)]) ?_ (fun v1 hz => ?_)
   ·refine vT ?_
    obtain ⟨y8, c8, hs⟩ := bS hs
    refine oP (v := iI y8) kr kr (loc_gcall0 (callV_func hbv25 kr) (w_journal_Sum [] _ c8) kr) ?_
    refine oR 2 [(42, .bool (decide (y8 = 0))), (41, .bool (decide (y8 = 0)))] kr ?_
    cases h3 : ((decide (y8 = 0)))
    ·replace hs := bif_f h3 hs
     refine oR 8 [(10, .bool false), (49, .bool false), (48, .no), (47, .no), (46, .bool false), (45, .bool false), (44, .no), (43, .no)] kr ?_
     refine oN ?_
     cases hs
     refine nrm_join false rfl ?_
     exact cut_of [1, 2, 3, 4, 5, 6, 8, 9, 10] [3001200, 900000000, 900000001, 900000002] kr kr kr
    ·replace hs := bif_t h3 hs
     obtain ⟨y9, c9, hs⟩ := bS hs
     refine oP (v := iI y9) kr kr (loc_gcall0 (callV_func hbv25 kr) (w_journal_Sum ([97] : Sr) _ c9) kr) ?_
     refine oR 3 [(46, .bool (decide (y9 = 97))), (45, .bool (decide (y9 = 97))), (44, .bool (decide (y9 = 97)))] kr ?_
     cases h4 : ((decide (y9 = 97)))
     ·replace hs := bif_f h4 hs
      refine oR 4 [(10, .bool false), (49, .bool false), (48, .no), (47, .no)] kr ?_
      refine oN ?_
      cases hs
      refine nrm_join false rfl ?_
      exact cut_of [1, 2, 3, 4, 5, 6, 8, 9, 10] [3001200, 900000000, 900000001, 900000002] kr kr kr
     ·replace hs := bif_t h4 hs
      obtain ⟨y10, c10, hs⟩ := bS hs
      refine oP (v := iI y10) kr kr (loc_gcall0 (callV_func hbv25 kr) (w_journal_Sum ls2 _ c10) kr) ?_
      refine oR 3 [(10, .bool (decide (y10 = 293))), (49, .bool (decide (y10 = 293))), (48, .bool (decide (y10 = 293)))] kr ?_
      refine oN ?_
      obtain rfl := si hs
      refine nrm_join (decide (y10 = 293)) rfl ?_
      exact cut_of [1, 2, 3, 4, 5, 6, 8, 9, 10] [3001200, 900000000, 900000001, 900000002] kr kr kr
   ·subst hz; clear hs; have hs := hk1; clear hk1
    refine nT (vS ?_)
    obtain ⟨z2, hs, hk2⟩ := bS hs
    refine v_join (S := Bool × Wd) (fun u => u = z2) (fun u => [(1, .gv 3001200 (hpl 1 0)), (8, .gv 3001200 (jpv jb y7.1.1)), (9, iI y7.1.2), (10, .bool v1), (11, .bool u.1)]) (fun u => [(3001200, .gen (EV.hide sJ (stF u.2))), (900000000, gl0 ob0), (900000001, gl1 ob1 u1), (900000002, gl2 ob2 u2)]) ?_ (fun v2 hz => ?_)
    ·refine vT (oR 3 [(52, .bool (decide (y2.1.2 = 0))), (51, .bool (decide (y2.1.2 = 0))), (50, iI y2.1.2)] kr ?_)
     cases h5 : ((decide (y2.1.2 = 0)))
     ·replace hs := bif_f h5 hs
      refine oR 22 [(11, .bool false), (73, .bool false), (72, .no), (71, .no), (70, .no), (69, .bool false), (68, .bool false), (67, .no), (66, .no), (65, .no), (64, .bool false), (63, .bool false), (62, .no), (61, .no), (60, .bool false), (59, .bool false), (58, .no), (57, .no), (56, .bool false), (55, .bool false), (54, .no), (53, .no)] kr ?_
      refine oN ?_
      obtain rfl := si hs
      refine nrm_join (false, y7.2) rfl ?_
      exact cut_of [1, 8, 9, 10, 11] [3001200, 900000000, 900000001, 900000002] kr kr kr
     ·replace hs := bif_t h5 hs
      refine oR 4 [(56, .bool (decide (y3.1 = 0))), (55, .bool (decide (y3.1 = 0))), (54, .bool (decide (y3.1 = 0))), (53, iI y3.1)] kr ?_
      cases h6 : ((decide (y3.1 = 0)))
      ·replace hs := bif_f h6 hs
       refine oR 18 [(11, .bool false), (73, .bool false), (72, .no), (71, .no), (70, .no), (69, .bool false), (68, .bool false), (67, .no), (66, .no), (65, .no), (64, .bool false), (63, .bool false), (62, .no), (61, .no), (60, .bool false), (59, .bool false), (58, .no), (57, .no)] kr ?_
       refine oN ?_
       obtain rfl := si hs
       refine nrm_join (false, y7.2) rfl ?_
       exact cut_of [1, 8, 9, 10, 11] [3001200, 900000000, 900000001, 900000002] kr kr kr
      ·replace hs := bif_t h6 hs
       refine oR 4 [(60, .bool (decide (y4.1 = 0))), (59, .bool (decide (y4.1 = 0))), (58, .bool (decide (y4.1 = 0))), (57, iI y4.1)] kr ?_
       cases h7 : ((decide (y4.1 = 0)))
       ·replace hs := bif_f h7 hs
        refine oR 14 [(11, .bool false), (73, .bool false), (72, .no), (71, .no), (70, .no), (69, .bool false), (68, .bool false), (67, .no), (66, .no), (65, .no), (64, .bool false), (63, .bool false), (62, .no), (61, .no)] kr ?_
        refine oN ?_
        obtain rfl := si hs
        refine nrm_join (false, y7.2) rfl ?_
        exact cut_of [1, 8, 9, 10, 11] [3001200, 900000000, 900000001, 900000002] kr kr kr
       ·replace hs := bif_t h7 hs
        refine oR 4 [(64, .bool (decide (y5.1.1 = ls3))), (63, .bool (decide (y5.1.1 = ls3))), (62, .bool (decide (y5.1.1 = ls3))), (61, .str y5.1.1)] kr ?_
        cases h8 : ((decide (y5.1.1 = ls3)))
        ·replace hs := bif_f h8 hs
         refine oR 10 [(11, .bool false), (73, .bool false), (72, .no), (71, .no), (70, .no), (69, .bool false), (68, .bool false), (67, .no), (66, .no), (65, .no)] kr ?_
         refine oN ?_
         obtain rfl := si hs
         refine nrm_join (false, y7.2) rfl ?_
         exact cut_of [1, 8, 9, 10, 11] [3001200, 900000000, 900000001, 900000002] kr kr kr
        ·replace hs := bif_t h8 hs
         refine oR 1 [(65, .gv 3001200 (jpv jb y2.1.1))] kr ?_
         obtain ⟨y11, c11, hs⟩ := bS hs
         refine o_loc (F := [(3001200, .gen (EV.hide sJ (stF y7.2))), (900000000, gl0 ob0), (900000001, gl1 ob1 u1), (900000002, gl2 ob2 u2)]) (F' := [(3001200, .gen (EV.hide sJ (stF y11.2))), (900000000, gl0 ob0), (900000001, gl1 ob1 u1), (900000002, gl2 ob2 u2)]) (v := iI y11.1) [3001200, 900000000, 900000001, 900000002] kr kr rfl kr (loc_g (R := []) [.gv 3001200 (jpv jb y2.1.1)] [(1000000, 3001200), (900000000, 900000000), (900000001, 900000001), (900000002, 900000002)] (callV_func hbv17 kr) (wk_len (ob0 := ob0) (ob1 := ob1) (ob2 := ob2) (u1 := u1) (u2 := u2) y7.2 y2.1.1 _ c11) (.cons (.same _) (.nil)) kr kr kr kr kr kr kr kr) kr ?_
         refine oR 3 [(69, .bool (decide (y11.1 = 2))), (68, .bool (decide (y11.1 = 2))), (67, .bool (decide (y11.1 = 2)))] kr ?_
         cases h9 : ((decide (y11.1 = 2)))
         ·replace hs := bif_f h9 hs
          refine oR 5 [(11, .bool false), (73, .bool false), (72, .no), (71, .no), (70, .no)] kr ?_
          refine oN ?_
          obtain rfl := si hs
          refine nrm_join (false, y11.2) rfl ?_
          exact cut_of [1, 8, 9, 10, 11] [3001200, 900000000, 900000001, 900000002] kr kr kr
         ·replace hs := bif_t h9 hs
          refine oR 1 [(70, .gv 3001200 (jpv jb y2.1.1))] kr ?_
          obtain ⟨y12, c12, hs⟩ := bS hs
          refine o_loc (F := [(3001200, .gen (EV.hide sJ (stF y11.2))), (900000000, gl0 ob0), (900000001, gl1 ob1 u1), (900000002, gl2 ob2 u2)]) (F' := [(3001200, .gen (EV.hide sJ (stF y12.2))), (900000000, gl0 ob0), (900000001, gl1 ob1 u1), (900000002, gl2 ob2 u2)]) (v := .str y12.1) [3001200, 900000000, 900000001, 900000002] kr kr rfl kr (loc_g (R := []) [.gv 3001200 (jpv jb y2.1.1), iI 0] [(1000000, 3001200), (900000000, 900000000), (900000001, 900000001), (900000002, 900000002)] (callV_func hbv18 kr) (wk_get (ob0 := ob0) (ob1 := ob1) (ob2 := ob2) (u1 := u1) (u2 := u2) y11.2 y2.1.1 0 _ c12) vw2 kr kr kr kr kr kr kr kr) kr ?_
          refine oR 3 [(11, .bool (decide (y12.1 = ls2))), (73, .bool (decide (y12.1 = ls2))), (72, .bool (decide (y12.1 = ls2)))] kr ?_
          refine oN ?_
          obtain rfl := si hs
          refine nrm_join ((decide (y12.1 = ls2)), y12.2) rfl ?_
          exact cut_of [1, 8, 9, 10, 11] [3001200, 900000000, 900000001, 900000002] kr kr kr
    ·subst hz; clear hs; have hs := hk2; clear hk2
     refine nT (vS ?_)
     obtain ⟨z3, hs, hk3⟩ := bS hs
     refine v_join (S := Bool) (fun u => u = z3) (fun u => [(0, .bool u)]) (fun u => (gO ob0 ob1 ob2 u1 u2)) ?_ (fun v3 hz => ?_)
     ·refine vT (oR 2 [(75, .bool v1), (74, .bool v1)] kr ?_)
      cases h10 : (v1)
      ·replace hs := bif_f h10 hs
       refine oR 18 [(0, .bool false), (92, .bool false), (91, .no), (90, .no), (89, .no), (88, .bool false), (87, .bool false), (86, .no), (85, .no), (84, .no), (83, .no), (82, .bool false), (81, .bool false), (80, .no), (79, .no), (78, .bool false), (77, .bool false), (76, .no)] kr ?_
       refine oN ?_
       cases hs
       refine nrm_join false rfl ?_
       exact cut_of [0] kG kr kr kr
      ·replace hs := bif_t h10 hs
       refine oR 3 [(78, .bool v2.1), (77, .bool v2.1), (76, .bool v2.1)] kr ?_
       cases h11 : (v2.1)
       ·replace hs := bif_f h11 hs
        refine oR 15 [(0, .bool false), (92, .bool false), (91, .no), (90, .no), (89, .no), (88, .bool false), (87, .bool false), (86, .no), (85, .no), (84, .no), (83, .no), (82, .bool false), (81, .bool false), (80, .no), (79, .no)] kr ?_
        refine oN ?_
        cases hs
        refine nrm_join false rfl ?_
        exact cut_of [0] kG kr kr kr
       ·replace hs := bif_t h11 hs
        refine oR 4 [(82, .bool (decide (y7.1.2 = 0))), (81, .bool (decide (y7.1.2 = 0))), (80, .bool (decide (y7.1.2 = 0))), (79, iI y7.1.2)] kr ?_
        cases h12 : ((decide (y7.1.2 = 0)))
        ·replace hs := bif_f h12 hs
         refine oR 11 [(0, .bool false), (92, .bool false), (91, .no), (90, .no), (89, .no), (88, .bool false), (87, .bool false), (86, .no), (85, .no), (84, .no), (83, .no)] kr ?_
         refine oN ?_
         cases hs
         refine nrm_join false rfl ?_
         exact cut_of [0] kG kr kr kr
        ·replace hs := bif_t h12 hs
         refine oR 1 [(83, .gv 3001200 (jpv jb y7.1.1))] kr ?_
         obtain ⟨y13, c13, hs⟩ := bS hs
         refine o_loc (F := [(3001200, .gen (EV.hide sJ (stF v2.2))), (900000000, gl0 ob0), (900000001, gl1 ob1 u1), (900000002, gl2 ob2 u2)]) (F' := [(3001200, .gen (EV.hide sJ (stF y13.2))), (3008400, .row 9 1 0 (mS y13.1)), (900000000, gl0 ob0), (900000001, gl1 ob1 u1), (900000002, gl2 ob2 u2)]) (v := .sl 1 3008400 ((y13.1).length) 0 ((y13.1).length)) [3001200, 900000000, 900000001, 900000002] kr kr rfl kr (loc_g (R := []) [.gv 3001200 (jpv jb y7.1.1)] [(1000000, 3001200), (1000001, 3008400), (900000000, 900000000), (900000001, 900000001), (900000002, 900000002)] (callV_func hbv16 kr) (wk_all (ob0 := ob0) (ob1 := ob1) (ob2 := ob2) (u1 := u1) (u2 := u2) v2.2 y7.1.1 _ c13) (.cons (.same _) (.nil)) kr kr kr kr kr kr kr kr) kr ?_
         refine o_runh 1 [(85, .sl 1 85 1 0 1)] [(85, .row 9 1 0 (mS [ls2])), (3001200, .gen (EV.hide sJ (stF y13.2))), (3008400, .row 9 1 0 (mS y13.1)), (900000000, gl0 ob0), (900000001, gl1 ob1 u1), (900000002, gl2 ob2 u2)] kr ?_
         obtain ⟨y14, c14, hs⟩ := bS hs
         refine o_loc (F := [(85, .row 9 1 0 (mS [ls2])), (3008400, .row 9 1 0 (mS y13.1))]) (F' := [(85, .row 9 1 0 (mS [ls2])), (3008400, .row 9 1 0 (mS y13.1))]) (v := .bool y14) [85, 3008400] kr kr rfl kr (loc_gcallB (vs := [.sl 1 3008400 ((y13.1).length) 0 ((y13.1).length), .sl 1 85 1 0 1]) (R := [(85, .row 9 1 0 (mS [ls2])), (3008400, .row 9 1 0 (mS y13.1))]) (callV_func hbv15 kr) (w_gr01_SameTexts y13.1 [ls2] _ c14) (.cons (.row (t := 9) (fz := 0) kr lh) (.cons (.row (t := 9) (fz := 0) kr lh) (.nil))) kr kr kr) kr ?_
         refine oR 2 [(88, .bool y14), (87, .bool y14)] kr ?_
         cases h13 : (y14)
         ·replace hs := bif_f h13 hs
          refine oR 5 [(0, .bool false), (92, .bool false), (91, .no), (90, .no), (89, .no)] kr ?_
          refine oN ?_
          cases hs
          refine nrm_join false rfl ?_
          exact cut_of [0] kG kr kr kr
         ·replace hs := bif_t h13 hs
          refine oR 1 [(89, .gv 3001200 (hpl 1 0))] kr ?_
          obtain ⟨y15, c15, hs⟩ := bS hs
          refine o_loc (F := [(3001200, .gen (EV.hide sJ (stF y13.2))), (900000000, gl0 ob0), (900000001, gl1 ob1 u1), (900000002, gl2 ob2 u2)]) (F' := [(3001200, .gen (EV.hide sJ (stF y15.2))), (900000000, gl0 ob0), (900000001, gl1 ob1 u1), (900000002, gl2 ob2 u2)]) (v := iI y15.1) [3001200, 900000000, 900000001, 900000002] kr kr rfl kr (loc_g (R := []) [.gv 3001200 (hpl 1 0), iI 4] [(1000000, 3001200), (900000000, 900000000), (900000001, 900000001), (900000002, 900000002)] (callV_func hbv12 kr) (wk_size (ob0 := ob0) (ob1 := ob1) (ob2 := ob2) (u1 := u1) (u2 := u2) y13.2 4 _ c15) vw2 kr kr kr kr kr kr kr kr) kr ?_
          refine oR 3 [(0, .bool (decide (y15.1 = 9))), (92, .bool (decide (y15.1 = 9))), (91, .bool (decide (y15.1 = 9)))] kr ?_
          refine oN ?_
          obtain rfl := si hs
          refine nrm_join (decide (y15.1 = 9)) rfl ?_
          exact cut_of [0] kG kr kr kr
     ·subst hz; clear hs; have hs := hk3; clear hk3
      refine nT (v_ret ?_)
      cases hs
      exact fin_ret kr kr kr
theorem w_wire_Reader_Left (r_rest : Sr) (r_bad : Bool) (r : Int × Sr × Bool) (hs : s_wire_Reader_Left r_rest r_bad = some r) : FnA Tryd.prog 20 [pO] [(1000000, .box 74 [.str r_rest, .bool r_bad])] (iI r.1) [(1000000, .box 74 [.str r.2.1, .bool r.2.2])] := by
 refine fnA_of_wp (N := 8) Tryd.func20 rfl rfl rfl fun cK0 => ?_
 unfold s_wire_Reader_Left at hs
 refine v_same (ρ' := [(0, pO)]) rfl rfl ?_
 refine vS (vT (oR 1 [(2, iI 0)] kr ?_))
 refine oN (nT (vS (vT (oR 6 [(2, iI (List.length r_rest : Int)), (7, iI (List.length r_rest : Int)), (6, .str r_rest), (5, pO), (4, pO), (3, pO)] kr ?_))))
 refine oN (nT (v_ret ?_))
 cases hs
 exact fin_ret kr kr kr
theorem w_gl03_JournalReads (s : Sr) (r : Bool) (hs : s_gl03_JournalReads s = some r) : FnA Tryd.prog 4 [.str s] (gO ob0 ob1 ob2 u1 u2) (.bool r) (gO ob0 ob1 ob2 u1 u2) := by
 refine fnA_of_wp (N := 141) Tryd.func4 rfl rfl rfl fun cK0 => ?_
 unfold s_gl03_JournalReads at hs
 refine v_same (ρ' := [(0, .str s)]) rfl rfl ?_
 refine vS (vT (oR 1 [(2, .bool false)] kr ?_))
 refine oN (nT (vS (vT ?_)))
 obtain ⟨y1, c1, hs⟩ := bS hs
 refine o_loc (F := (gO ob0 ob1 ob2 u1 u2)) (F' := (gO ob0 ob1 ob2 u1 u2)) (v := .bool y1) kG kr kr rfl kr (loc_gcallL (vs := []) (G := (gO ob0 ob1 ob2 u1 u2)) (R := []) (callV_func hbv7 kr) (w_gl03_small (ob0 := ob0) (ob1 := ob1) (ob2 := ob2) (u1 := u1) (u2 := u2)  _ c1) kr (.nil) kr kr kr) kr ?_
 refine oR 1 [(3, .bool y1)] kr ?_
 refine oN (nT (vS (vS (vT (oR 3 [(23, .bool (decide ((List.length s : Int) > 300))), (22, iI (List.length s : Int)), (21, .str s)] kr ?_)))))
 refine oN (nT ?_)
 refine v_cond (decide ((List.length s : Int) > 300)) kr (fun h1 => ?_) (fun h1 => ?_)
 ·replace hs := bif_t h1 hs
  refine vS (vT (oR 2 [(2, .bool y1), (24, .bool y1)] kr ?_))
  refine oN (nT (v_ret (rT ?_)))
  cases hs
  exact fin_ret kr kr kr
 ·replace hs := bif_f h1 hs
  refine vK (nT (vS (vT ?_)))
  obtain ⟨y2, c2, hs⟩ := bS hs
  refine o_loc (F := []) (F' := [(3002500, .gen (EV.hide sJ (stF y2.2)))]) (v := .gv 3002500 (hpl 1 0)) [] kr kr rfl kr (loc_g (R := []) [] [(1000000, 3002500)] (callV_func hbv9 kr) (wk_new _ c2) (.nil) kr kr kr kr kr kr kr kr) kr ?_
  refine oR 1 [(4, .gv 3002500 (hpl 1 0))] kr ?_
  refine oN (nT (vS (vS (vT (oR 1 [(26, .gv 3002500 (hpl 1 0))] kr ?_)))))
  refine oP (v := .bool false) kr kr (loc_hplNil_eql (k := 3002500) (b := 1) (off := 0) kr kr kr) ?_
  refine oN (nT (v_cond_f kr ?_))
  refine vK (nT (vS (vT (oR 2 [(29, .str s), (28, .gv 3002500 (hpl 1 0))] kr ?_))))
  obtain ⟨y3, c3, hs⟩ := bS hs
  refine o_loc (F := [(3002500, .gen (EV.hide sJ (stF y2.2))), (900000000, gl0 ob0), (900000001, gl1 ob1 u1), (900000002, gl2 ob2 u2)]) (F' := [(3002500, .gen (EV.hide sJ (stF y3.2))), (900000000, gl0 ob0), (900000001, gl1 ob1 u1), (900000002, gl2 ob2 u2)]) (v := iI y3.1) [3002500, 900000000, 900000001, 900000002] kr kr rfl kr (loc_g (R := []) [.gv 3002500 (hpl 1 0), iI 7, iI 0, .str s] [(1000000, 3002500), (900000000, 900000000), (900000001, 900000001), (900000002, 900000002)] (callV_func hbv14 kr) (wk_write (ob0 := ob0) (ob1 := ob1) (ob2 := ob2) (u1 := u1) (u2 := u2) y2.2 7 0 s _ c3) (.cons (.same _) vw3) kr kr kr kr kr kr kr kr) kr ?_
  refine oN (nT (vS (vT (oR 1 [(32, .gv 3002500 (hpl 1 0))] kr ?_))))
  obtain ⟨y4, c4, hs⟩ := bS hs
  refine o_loc (F := [(3002500, .gen (EV.hide sJ (stF y3.2))), (900000000, gl0 ob0), (900000001, gl1 ob1 u1), (900000002, gl2 ob2 u2)]) (F' := [(3002500, .gen (EV.hide sJ (stF y4.2))), (900000000, gl0 ob0), (900000001, gl1 ob1 u1), (900000002, gl2 ob2 u2)]) (v := .tup [.gv 3002500 (jpv jb y4.1.1), iI y4.1.2]) [3002500, 900000000, 900000001, 900000002] kr kr rfl kr (loc_g (R := []) [.gv 3002500 (hpl 1 0), iI 7] [(1000000, 3002500), (900000000, 900000000), (900000001, 900000001), (900000002, 900000002)] (callV_func hbv10 kr) (wk_open (ob0 := ob0) (ob1 := ob1) (ob2 := ob2) (u1 := u1) (u2 := u2) y3.2 7 _ c4) vw2 kr kr kr kr kr kr kr kr) kr ?_
  refine oR 5 [(6, iI y4.1.2), (5, .gv 3002500 (jpv jb y4.1.1)), (35, iI y4.1.2), (34, .gv 3002500 (jpv jb y4.1.1)), (31, .tup [.gv 3002500 (jpv jb y4.1.1), iI y4.1.2])] kr ?_
  refine oN (nT (vS (vS ?_)))
  obtain ⟨z1, hs, hk1⟩ := bS hs
  refine v_join (S := Bool) (fun u => u = z1) (fun u => [(0, .str s), (3, .bool y1), (4, .gv 3002500 (hpl 1 0)), (5, .gv 3002500 (jpv jb y4.1.1)), (41, .bool u)]) (fun u => [(3002500, .gen (EV.hide sJ (stF y4.2))), (900000000, gl0 ob0), (900000001, gl1 ob1 u1), (900000002, gl2 ob2 u2)]) ?_ (fun v1 hz => ?_)
  ·refine vT (oR 1 [(36, .gv 3002500 (jpv jb y4.1.1))] kr ?_)
   refine oP (v := .bool (decide (y4.1.1 = 0))) kr kr (loc_jpvNil_eql (k := 3002500) (a := jb) (i := y4.1.1) kr kr kr) ?_
   refine oR 1 [(38, .bool (decide (y4.1.1 = 0)))] kr ?_
   cases h2 : ((decide (y4.1.1 = 0)))
   ·replace hs := bif_f h2 hs
    refine oR 3 [(41, .bool (!(decide (y4.1.2 = 0)))), (40, .bool (!(decide (y4.1.2 = 0)))), (39, iI y4.1.2)] kr ?_
    refine oN ?_
    obtain rfl := si hs
    refine nrm_join (!(decide (y4.1.2 = 0))) rfl ?_
    exact cut_of [0, 3, 4, 5, 41] [3002500, 900000000, 900000001, 900000002] kr kr kr
   ·replace hs := bif_t h2 hs
    refine oR 3 [(41, .bool true), (40, .no), (39, .no)] kr ?_
    refine oN ?_
    cases hs
    refine nrm_join true rfl ?_
    exact cut_of [0, 3, 4, 5, 41] [3002500, 900000000, 900000001, 900000002] kr kr kr
  ·subst hz; clear hs; have hs := hk1; clear hk1
   refine nT ?_
   refine v_cond v1 kr (fun h3 => ?_) (fun h3 => ?_)
   ·replace hs := bif_t h3 hs
    refine vS (vT (oR 1 [(2, .bool false)] kr ?_))
    refine oN (nT (v_ret (rT ?_)))
    cases hs
    exact fin_ret kr kr kr
   ·replace hs := bif_f h3 hs
    refine vK (nT (vS (vT (oR 1 [(42, .gv 3002500 (jpv jb y4.1.1))] kr ?_))))
    obtain ⟨y5, c5, hs⟩ := bS hs
    refine o_loc (F := [(3002500, .gen (EV.hide sJ (stF y4.2))), (900000000, gl0 ob0), (900000001, gl1 ob1 u1), (900000002, gl2 ob2 u2)]) (F' := [(3002500, .gen (EV.hide sJ (stF y5.2))), (3004300, .row 9 1 0 (mS y5.1)), (900000000, gl0 ob0), (900000001, gl1 ob1 u1), (900000002, gl2 ob2 u2)]) (v := .sl 1 3004300 ((y5.1).length) 0 ((y5.1).length)) [3002500, 900000000, 900000001, 900000002] kr kr rfl kr (loc_g (R := []) [.gv 3002500 (jpv jb y4.1.1)] [(1000000, 3002500), (1000001, 3004300), (900000000, 900000000), (900000001, 900000001), (900000002, 900000002)] (callV_func hbv16 kr) (wk_all (ob0 := ob0) (ob1 := ob1) (ob2 := ob2) (u1 := u1) (u2 := u2) y4.2 y4.1.1 _ c5) (.cons (.same _) (.nil)) kr kr kr kr kr kr kr kr) kr ?_
    refine oR 1 [(7, .sl 1 3004300 ((y5.1).length) 0 ((y5.1).length))] kr ?_
    refine oN (nT (vS (vT (oR 1 [(44, .str s)] kr ?_))))
    obtain ⟨y6, c6, hs⟩ := bS hs
    refine o_loc (F := []) (F' := [(3004500, .box 74 [.str y6, .bool false])]) (v := .ptr 3004500 0 0) [] kr kr rfl kr (loc_g (R := []) [.str s] [(5, 3004500)] (callV_func hbv19 kr) (w_wire_Open s _ c6) (.cons (.same _) (.nil)) kr kr kr kr kr kr kr kr) kr ?_
    refine oR 1 [(8, .ptr 3004500 0 0)] kr ?_
    refine oN (nT (vS (vS (vT (oR 2 [(47, .bool false), (46, .ptr 3004500 0 0)] kr ?_)))))
    refine oN (nT (v_cond_f kr ?_))
    refine vK (nT (vS (vT (oR 1 [(9, .nils)] kr ?_))))
    refine oN (nT (vS (vT (oR 1 [(10, iI 0)] kr ?_))))
    refine oN (nT (vS ?_))
    obtain ⟨z2, hs, hk2⟩ := bS hs
    refine v_join (S := Int × (List Sr)) (fun u => u = z2) (fun u => [(0, .str s), (3, .bool y1), (4, .gv 3002500 (hpl 1 0)), (7, .sl 1 3004300 ((y5.1).length) 0 ((y5.1).length)), (9, .sl 1 2000084 ((u.2).length) 0 ((u.2).length)), (10, iI u.1)]) (fun u => [(3002500, .gen (EV.hide sJ (stF y5.2))), (3004300, .row 9 1 0 (mS y5.1)), (2000084, .row 9 1 0 (mS u.2)), (900000000, gl0 ob0), (900000001, gl1 ob1 u1), (900000002, gl2 ob2 u2)]) ?_ (fun v2 hz => ?_)
    ·refine vB ?_
     refine v_fuel (S := Int × Sr × Bool × (List Sr)) (fun u => [(0, .str s), (3, .bool y1), (4, .gv 3002500 (hpl 1 0)), (7, .sl 1 3004300 ((y5.1).length) 0 ((y5.1).length)), (8, .ptr 3004500 0 0), (9, .sl 1 2000084 ((u.2.2.2).length) 0 ((u.2.2.2).length)), (10, iI u.1)]) (fun u => [(3004500, .box 74 [.str u.2.1, .bool u.2.2.1]), (3002500, .gen (EV.hide sJ (stF y5.2))), (3004300, .row 9 1 0 (mS y5.1)), (2000084, .row 9 1 0 (mS u.2.2.2)), (900000000, gl0 ob0), (900000001, gl1 ob1 u1), (900000002, gl2 ob2 u2)]) (s_gl03_JournalReads_L1 s) (fun _ => rfl) KK (0, y6, false, []) hs (Cut.trans (cut_nilRow 9 2000084 9 1 rfl kr kr) (cut_of [0, 3, 4, 7, 8, 9, 10] [3004500, 3002500, 3004300, 2000084, 900000000, 900000001, 900000002] kr kr kr)) (fun K1 q1 hs => ?_)
     rw [s_gl03_JournalReads_L1] at hs
     show WpV cK0 Tryd.prog none 141 _ _ [(0, .str s), (3, .bool y1), (4, .gv 3002500 (hpl 1 0)), (7, .sl 1 3004300 ((y5.1).length) 0 ((y5.1).length)), (8, .ptr 3004500 0 0), (9, .sl 1 2000084 ((q1.2.2.2).length) 0 ((q1.2.2.2).length)), (10, iI q1.1)] [(3004500, .box 74 [.str q1.2.1, .bool q1.2.2.1]), (3002500, .gen (EV.hide sJ (stF y5.2))), (3004300, .row 9 1 0 (mS y5.1)), (2000084, .row 9 1 0 (mS q1.2.2.2)), (900000000, gl0 ob0), (900000001, gl1 ob1 u1), (900000002, gl2 ob2 u2)] []
     refine vS (vS (vT (oR 1 [(48, .ptr 3004500 0 0)] kr ?_)))
     obtain ⟨y7, c7, hs⟩ := bS hs
     refine o_loc (F := [(3004500, .box 74 [.str q1.2.1, .bool q1.2.2.1])]) (F' := [(3004500, .box 74 [.str y7.2.1, .bool y7.2.2])]) (v := iI y7.1) [3004500] kr kr rfl kr (loc_g (R := []) [.ptr 3004500 0 0] [(1000000, 3004500)] (callV_func hbv20 kr) (w_wire_Reader_Left q1.2.1 q1.2.2.1 _ c7) (.cons (.same _) (.nil)) kr kr kr kr kr kr kr kr) kr ?_
     refine oR 1 [(50, .bool (decide (y7.1 > 0)))] kr ?_
     refine oN (nT ?_)
     refine v_cond (decide (y7.1 > 0)) kr (fun h4 => ?_) (fun h4 => ?_)
     ·replace hs := bif_t h4 hs
      refine vK (nT (vB (vS (vT (oR 1 [(51, .ptr 3004500 0 0)] kr ?_)))))
      obtain ⟨y8, c8, hs⟩ := bS hs
      refine o_loc (F := [(3004500, .box 74 [.str y7.2.1, .bool y7.2.2]), (900000000, gl0 ob0), (900000001, gl1 ob1 u1), (900000002, gl2 ob2 u2)]) (F' := [(3004500, .box 74 [.str y8.2.1, .bool y8.2.2]), (900000000, gl0 ob0), (900000001, gl1 ob1 u1), (900000002, gl2 ob2 u2)]) (v := .str y8.1) [3004500, 900000000, 900000001, 900000002] kr kr rfl kr (loc_g (R := []) [.ptr 3004500 0 0] [(1000000, 3004500), (900000000, 900000000), (900000001, 900000001), (900000002, 900000002)] (callV_func hbv21 kr) (w_wire_Reader_Text (ob0 := ob0) (ob1 := ob1) (ob2 := ob2) (u1 := u1) (u2 := u2) y7.2.1 y7.2.2 _ c8) (.cons (.same _) (.nil)) kr kr kr kr kr kr kr kr) kr ?_
      refine oR 1 [(11, .str y8.1)] kr ?_
      refine oN (nT (vS (vT (oR 1 [(53, .ptr 3004500 0 0)] kr ?_))))
      obtain ⟨y9, c9, hs⟩ := bS hs
      refine o_loc (F := [(3004500, .box 74 [.str y8.2.1, .bool y8.2.2]), (900000000, gl0 ob0), (900000001, gl1 ob1 u1), (900000002, gl2 ob2 u2)]) (F' := [(3004500, .box 74 [.str y9.2.1, .bool y9.2.2]), (900000000, gl0 ob0), (900000001, gl1 ob1 u1), (900000002, gl2 ob2 u2)]) (v := iI y9.1) [3004500, 900000000, 900000001, 900000002] kr kr rfl kr (loc_g (R := []) [.ptr 3004500 0 0] [(1000000, 3004500), (900000000, 900000000), (900000001, 900000001), (900000002, 900000002)] (callV_func hbv22 kr) (w_wire_Reader_Num (ob0 := ob0) (ob1 := ob1) (ob2 := ob2) (u1 := u1) (u2 := u2) y8.2.1 y8.2.2 _ c9) (.cons (.same _) (.nil)) kr kr kr kr kr kr kr kr) kr ?_
      refine oR 1 [(12, iI y9.1)] kr ?_
      refine oN (nT (vS (vT (oR 1 [(55, .str y8.1)] kr ?_))))
      obtain ⟨y10, c10, hs⟩ := bS hs
      refine o_loc (F := (gO ob0 ob1 ob2 u1 u2)) (F' := (gO ob0 ob1 ob2 u1 u2)) (v := .str y10) kG kr kr rfl kr (loc_gcallL (vs := [.str y8.1]) (G := (gO ob0 ob1 ob2 u1 u2)) (R := []) (callV_func hbv23 kr) (w_wire_Text (ob0 := ob0) (ob1 := ob1) (ob2 := ob2) (u1 := u1) (u2 := u2) y8.1 _ c10) kr (.cons (.same _) (.nil)) kr kr kr) kr ?_
      refine oR 1 [(57, iI y9.1)] kr ?_
      obtain ⟨y11, c11, hs⟩ := bS hs
      refine o_loc (F := (gO ob0 ob1 ob2 u1 u2)) (F' := (gO ob0 ob1 ob2 u1 u2)) (v := .str y11) kG kr kr rfl kr (loc_gcallL (vs := [iI y9.1]) (G := (gO ob0 ob1 ob2 u1 u2)) (R := []) (callV_func hbv24 kr) (w_wire_Num (ob0 := ob0) (ob1 := ob1) (ob2 := ob2) (u1 := u1) (u2 := u2) y9.1 _ c11) kr (.cons (.same _) (.nil)) kr kr kr) kr ?_
      obtain ⟨_, g1, hs⟩ := bS hs; replace g1 := grd_some g1
      refine oP (v := .str (y10 ++ y11)) kr kr (loc_concat (a := y10) (b := y11) kr kr g1) ?_
      refine oR 1 [(13, .str (y10 ++ y11))] kr ?_
      refine oN (nT (vS (vS ?_)))
      obtain ⟨z3, hs, hk3⟩ := bS hs
      refine v_join (S := Bool) (fun u => u = z3) (fun u => [(0, .str s), (3, .bool y1), (4, .gv 3002500 (hpl 1 0)), (7, .sl 1 3004300 ((y5.1).length) 0 ((y5.1).length)), (8, .ptr 3004500 0 0), (9, .sl 1 2000084 ((q1.2.2.2).length) 0 ((q1.2.2.2).length)), (10, iI q1.1), (11, .str y8.1), (13, .str (y10 ++ y11)), (83, .bool u)]) (fun u => [(3004500, .box 74 [.str y9.2.1, .bool y9.2.2]), (3002500, .gen (EV.hide sJ (stF y5.2))), (3004300, .row 9 1 0 (mS y5.1)), (2000084, .row 9 1 0 (mS q1.2.2.2)), (900000000, gl0 ob0), (900000001, gl1 ob1 u1), (900000002, gl2 ob2 u2)]) ?_ (fun v3 hz => ?_)
      ·refine vT (oR 2 [(61, .str y8.1), (60, iI y9.1)] kr ?_)
       obtain ⟨y12, c12, hs⟩ := bS hs
       refine oP (v := iI y12) kr kr (loc_gcall0 (callV_func hbv25 kr) (w_journal_Sum y8.1 _ c12) kr) ?_
       refine oR 2 [(64, .bool (!(decide (y9.1 = y12)))), (63, .bool (!(decide (y9.1 = y12))))] kr ?_
       cases h5 : ((!(decide (y9.1 = y12))))
       ·replace hs := bif_f h5 hs
        refine oR 9 [(73, .bool (decide ((w64 (q1.1 + (List.length (y10 ++ y11) : Int))) > (List.length s : Int)))), (72, .bool (decide ((w64 (q1.1 + (List.length (y10 ++ y11) : Int))) > (List.length s : Int)))), (71, .bool (decide ((w64 (q1.1 + (List.length (y10 ++ y11) : Int))) > (List.length s : Int)))), (70, iI (List.length s : Int)), (69, .str s), (68, iI (w64 (q1.1 + (List.length (y10 ++ y11) : Int)))), (67, iI (List.length (y10 ++ y11) : Int)), (66, .str (y10 ++ y11)), (65, iI q1.1)] kr ?_
        cases h6 : ((decide ((w64 (q1.1 + (List.length (y10 ++ y11) : Int))) > (List.length s : Int))))
        ·replace hs := bif_f h6 hs
         refine oR 6 [(79, iI (w64 (q1.1 + (List.length (y10 ++ y11) : Int)))), (78, iI (List.length (y10 ++ y11) : Int)), (77, .str (y10 ++ y11)), (76, iI q1.1), (75, iI q1.1), (74, .str s)] kr ?_
         obtain ⟨x1, g2, hs⟩ := bS hs; obtain ⟨g2a, g2b, g2c, g2d⟩ := cut_some g2
         refine oP (v := .str x1) kr kr (by rw [g2d]; exact loc_sliceStr (s := s) (l := q1.1) (h := (w64 (q1.1 + (List.length (y10 ++ y11) : Int)))) kr kr ⟨.i64, by kernel_rfl⟩ ⟨.i64, by kernel_rfl⟩ g2a g2b g2c) ?_
         refine oR 3 [(83, .bool (!(decide (x1 = (y10 ++ y11))))), (82, .bool (!(decide (x1 = (y10 ++ y11))))), (81, .str (y10 ++ y11))] kr ?_
         refine oN ?_
         obtain rfl := si hs
         refine nrm_join (!(decide (x1 = (y10 ++ y11)))) rfl ?_
         exact cut_of [0, 3, 4, 7, 8, 9, 10, 11, 13, 83] [3004500, 3002500, 3004300, 2000084, 900000000, 900000001, 900000002] kr kr kr
        ·replace hs := bif_t h6 hs
         refine oR 10 [(83, .bool true), (82, .no), (81, .no), (80, .no), (79, .no), (78, .no), (77, .no), (76, .no), (75, .no), (74, .no)] kr ?_
         refine oN ?_
         cases hs
         refine nrm_join true rfl ?_
         exact cut_of [0, 3, 4, 7, 8, 9, 10, 11, 13, 83] [3004500, 3002500, 3004300, 2000084, 900000000, 900000001, 900000002] kr kr kr
       ·replace hs := bif_t h5 hs
        refine oR 19 [(83, .bool true), (82, .no), (81, .no), (80, .no), (79, .no), (78, .no), (77, .no), (76, .no), (75, .no), (74, .no), (73, .bool true), (72, .bool true), (71, .no), (70, .no), (69, .no), (68, .no), (67, .no), (66, .no), (65, .no)] kr ?_
        refine oN ?_
        cases hs
        refine nrm_join true rfl ?_
        exact cut_of [0, 3, 4, 7, 8, 9, 10, 11, 13, 83] [3004500, 3002500, 3004300, 2000084, 900000000, 900000001, 900000002] kr kr kr
      ·subst hz; clear hs; have hs := hk3; clear hk3
       refine nT ?_
       refine v_cond v3 kr (fun h7 => ?_) (fun h7 => ?_)
       ·replace hs := bif_t h7 hs
        refine v_exit (exit_thenV (exit_blkV_other rfl ?_))
        refine exit_fuel ?_
        refine exit_blkV ?_
        obtain rfl := si hs
        refine nrm_join (q1.1, q1.2.2.2) rfl ?_
        exact cut_of [0, 3, 4, 7, 9, 10] [3002500, 3004300, 2000084, 900000000, 900000001, 900000002] kr kr kr
       ·replace hs := bif_f h7 hs
        refine vK (nT (vS (vT (o_runh 3 [(86, .sl 1 86 1 0 1), (85, .str y8.1), (84, .sl 1 2000084 ((q1.2.2.2).length) 0 ((q1.2.2.2).length))] [(86, .row 9 1 0 (mS [y8.1])), (3004500, .box 74 [.str y9.2.1, .bool y9.2.2]), (3002500, .gen (EV.hide sJ (stF y5.2))), (3004300, .row 9 1 0 (mS y5.1)), (2000084, .row 9 1 0 (mS q1.2.2.2)), (900000000, gl0 ob0), (900000001, gl1 ob1 u1), (900000002, gl2 ob2 u2)] kr ?_))))
        obtain ⟨_, g3, hs⟩ := bS hs; replace g3 := grd_some g3
        refine o_loc (F := [(2000084, .row 9 1 0 (mS q1.2.2.2)), (86, .row 9 1 0 (mS [y8.1]))]) (F' := [(2000084, .row 9 1 0 (mS (q1.2.2.2 ++ [y8.1]))), (86, .row 9 1 0 (mS [y8.1]))]) (v := .sl 1 2000084 (((q1.2.2.2 ++ [y8.1])).length) 0 (((q1.2.2.2 ++ [y8.1])).length)) [2000084, 86] kr kr rfl kr (loc_appendT (e := 9) (sz := 1) (bytes := 16) (L := (q1.2.2.2).length) (els := (mS q1.2.2.2)) (ys := (mS [y8.1])) kr kr (by first | exact List.length_map .. | rfl) (.sl (t := 9) (fz := 0) (ys := (mS [y8.1])) kr kr) (map_ones EV.encS (fun _ => rfl) _) (map_lens EV.encS (fun _ => rfl) _) kr (by first | exact (List.map_append ..).symm | rfl | simp only [List.map_nil, List.nil_append]) (List.length_map ..) g3 (by omega)) kr ?_
        refine oR 1 [(9, .sl 1 2000084 (((q1.2.2.2 ++ [y8.1])).length) 0 (((q1.2.2.2 ++ [y8.1])).length))] kr ?_
        refine oN (nT (vT (oR 5 [(10, iI (w64 (q1.1 + (List.length (y10 ++ y11) : Int)))), (91, iI (w64 (q1.1 + (List.length (y10 ++ y11) : Int)))), (90, iI (List.length (y10 ++ y11) : Int)), (89, .str (y10 ++ y11)), (88, iI q1.1)] kr ?_)))
        refine oN (nB (nrm_fuel ((w64 (q1.1 + (List.length (y10 ++ y11) : Int))), y9.2.1, y9.2.2, (q1.2.2.2 ++ [y8.1])) hs ?_))
        exact cut_of [0, 3, 4, 7, 8, 9, 10] [3004500, 3002500, 3004300, 2000084, 900000000, 900000001, 900000002] kr kr kr
     ·replace hs := bif_f h4 hs
      refine v_exit (exit_thenV (exit_fuel ?_))
      refine exit_blkV ?_
      obtain rfl := si hs
      refine nrm_join (q1.1, q1.2.2.2) rfl ?_
      exact cut_of [0, 3, 4, 7, 9, 10] [3002500, 3004300, 2000084, 900000000, 900000001, 900000002] kr kr kr
    ·subst hz; clear hs; have hs := hk2; clear hk2
     refine nT (vS (vT (oR 2 [(94, .gv 3002500 (hpl 1 0)), (93, .gv 3002500 (hpl 1 0))] kr ?_)))
     obtain ⟨y13, c13, hs⟩ := bS hs
     refine o_loc (F := [(3002500, .gen (EV.hide sJ (stF y5.2))), (900000000, gl0 ob0), (900000001, gl1 ob1 u1), (900000002, gl2 ob2 u2)]) (F' := [(3002500, .gen (EV.hide sJ (stF y13.2))), (900000000, gl0 ob0), (900000001, gl1 ob1 u1), (900000002, gl2 ob2 u2)]) (v := iI y13.1) [3002500, 900000000, 900000001, 900000002] kr kr rfl kr (loc_g (R := []) [.gv 3002500 (hpl 1 0), iI 7] [(1000000, 3002500), (900000000, 900000000), (900000001, 900000001), (900000002, 900000002)] (callV_func hbv12 kr) (wk_size (ob0 := ob0) (ob1 := ob1) (ob2 := ob2) (u1 := u1) (u2 := u2) y5.2 7 _ c13) vw2 kr kr kr kr kr kr kr kr) kr ?_
     obtain ⟨y14, c14, hs⟩ := bS hs
     refine o_loc (F := [(3002500, .gen (EV.hide sJ (stF y13.2))), (900000000, gl0 ob0), (900000001, gl1 ob1 u1), (900000002, gl2 ob2 u2)]) (F' := [(3002500, .gen (EV.hide sJ (stF y14.2))), (900000000, gl0 ob0), (900000001, gl1 ob1 u1), (900000002, gl2 ob2 u2)]) (v := .tup [.str y14.1.1, iI y14.1.2]) [3002500, 900000000, 900000001, 900000002] kr kr rfl kr (loc_g (R := []) [.gv 3002500 (hpl 1 0), iI 7, iI 0, iI y13.1] [(1000000, 3002500), (900000000, 900000000), (900000001, 900000001), (900000002, 900000002)] (callV_func hbv13 kr) (wk_read (ob0 := ob0) (ob1 := ob1) (ob2 := ob2) (u1 := u1) (u2 := u2) y13.2 7 0 y13.1 _ c14) (.cons (.same _) vw3) kr kr kr kr kr kr kr kr) kr ?_
     refine oR 5 [(15, iI y14.1.2), (14, .str y14.1.1), (98, iI y14.1.2), (97, .str y14.1.1), (92, .tup [.str y14.1.1, iI y14.1.2])] kr ?_
     refine oN (nT (vS (vT (oR 1 [(100, .gv 3002500 (hpl 1 0))] kr ?_))))
     obtain ⟨y15, c15, hs⟩ := bS hs
     refine o_loc (F := [(3002500, .gen (EV.hide sJ (stF y14.2))), (900000000, gl0 ob0), (900000001, gl1 ob1 u1), (900000002, gl2 ob2 u2)]) (F' := [(3002500, .gen (EV.hide sJ (stF y15.2))), (900000000, gl0 ob0), (900000001, gl1 ob1 u1), (900000002, gl2 ob2 u2)]) (v := .tup [.gv 3002500 (jpv jb y15.1.1), iI y15.1.2]) [3002500, 900000000, 900000001, 900000002] kr kr rfl kr (loc_g (R := []) [.gv 3002500 (hpl 1 0), iI 7] [(1000000, 3002500), (900000000, 900000000), (900000001, 900000001), (900000002, 900000002)] (callV_func hbv10 kr) (wk_open (ob0 := ob0) (ob1 := ob1) (ob2 := ob2) (u1 := u1) (u2 := u2) y14.2 7 _ c15) vw2 kr kr kr kr kr kr kr kr) kr ?_
     refine oR 5 [(17, iI y15.1.2), (16, .gv 3002500 (jpv jb y15.1.1)), (103, iI y15.1.2), (102, .gv 3002500 (jpv jb y15.1.1)), (99, .tup [.gv 3002500 (jpv jb y15.1.1), iI y15.1.2])] kr ?_
     refine oN (nT (vS (vS ?_)))
     obtain ⟨z4, hs, hk4⟩ := bS hs
     refine v_join (S := Bool) (fun u => u = z4) (fun u => [(0, .str s), (3, .bool y1), (4, .gv 3002500 (hpl 1 0)), (7, .sl 1 3004300 ((y5.1).length) 0 ((y5.1).length)), (9, .sl 1 2000084 ((v2.2).length) 0 ((v2.2).length)), (10, iI v2.1), (14, .str y14.1.1), (16, .gv 3002500 (jpv jb y15.1.1)), (109, .bool u)]) (fun u => [(3002500, .gen (EV.hide sJ (stF y15.2))), (3004300, .row 9 1 0 (mS y5.1)), (2000084, .row 9 1 0 (mS v2.2)), (900000000, gl0 ob0), (900000001, gl1 ob1 u1), (900000002, gl2 ob2 u2)]) ?_ (fun v4 hz => ?_)
     ·refine vT (oR 1 [(104, .gv 3002500 (jpv jb y15.1.1))] kr ?_)
      refine oP (v := .bool (decide (y15.1.1 = 0))) kr kr (loc_jpvNil_eql (k := 3002500) (a := jb) (i := y15.1.1) kr kr kr) ?_
      refine oR 1 [(106, .bool (decide (y15.1.1 = 0)))] kr ?_
      cases h8 : ((decide (y15.1.1 = 0)))
      ·replace hs := bif_f h8 hs
       refine oR 3 [(109, .bool (!(decide (y15.1.2 = 0)))), (108, .bool (!(decide (y15.1.2 = 0)))), (107, iI y15.1.2)] kr ?_
       refine oN ?_
       obtain rfl := si hs
       refine nrm_join (!(decide (y15.1.2 = 0))) rfl ?_
       exact cut_of [0, 3, 4, 7, 9, 10, 14, 16, 109] [3002500, 3004300, 2000084, 900000000, 900000001, 900000002] kr kr kr
      ·replace hs := bif_t h8 hs
       refine oR 3 [(109, .bool true), (108, .no), (107, .no)] kr ?_
       refine oN ?_
       cases hs
       refine nrm_join true rfl ?_
       exact cut_of [0, 3, 4, 7, 9, 10, 14, 16, 109] [3002500, 3004300, 2000084, 900000000, 900000001, 900000002] kr kr kr
     ·subst hz; clear hs; have hs := hk4; clear hk4
      refine nT ?_
      refine v_cond v4 kr (fun h9 => ?_) (fun h9 => ?_)
      ·replace hs := bif_t h9 hs
       refine vS (vT (oR 1 [(2, .bool false)] kr ?_))
       refine oN (nT (v_ret (rT ?_)))
       cases hs
       exact fin_ret kr kr kr
      ·replace hs := bif_f h9 hs
       refine vK (nT (vS (vT (oR 2 [(112, .gv 3002500 (hpl 1 0)), (111, .gv 3002500 (hpl 1 0))] kr ?_))))
       obtain ⟨y16, c16, hs⟩ := bS hs
       refine o_loc (F := [(3002500, .gen (EV.hide sJ (stF y15.2))), (900000000, gl0 ob0), (900000001, gl1 ob1 u1), (900000002, gl2 ob2 u2)]) (F' := [(3002500, .gen (EV.hide sJ (stF y16.2))), (900000000, gl0 ob0), (900000001, gl1 ob1 u1), (900000002, gl2 ob2 u2)]) (v := iI y16.1) [3002500, 900000000, 900000001, 900000002] kr kr rfl kr (loc_g (R := []) [.gv 3002500 (hpl 1 0), iI 7] [(1000000, 3002500), (900000000, 900000000), (900000001, 900000001), (900000002, 900000002)] (callV_func hbv12 kr) (wk_size (ob0 := ob0) (ob1 := ob1) (ob2 := ob2) (u1 := u1) (u2 := u2) y15.2 7 _ c16) vw2 kr kr kr kr kr kr kr kr) kr ?_
       obtain ⟨y17, c17, hs⟩ := bS hs
       refine o_loc (F := [(3002500, .gen (EV.hide sJ (stF y16.2))), (900000000, gl0 ob0), (900000001, gl1 ob1 u1), (900000002, gl2 ob2 u2)]) (F' := [(3002500, .gen (EV.hide sJ (stF y17.2))), (900000000, gl0 ob0), (900000001, gl1 ob1 u1), (900000002, gl2 ob2 u2)]) (v := .tup [.str y17.1.1, iI y17.1.2]) [3002500, 900000000, 900000001, 900000002] kr kr rfl kr (loc_g (R := []) [.gv 3002500 (hpl 1 0), iI 7, iI 0, iI y16.1] [(1000000, 3002500), (900000000, 900000000), (900000001, 900000001), (900000002, 900000002)] (callV_func hbv13 kr) (wk_read (ob0 := ob0) (ob1 := ob1) (ob2 := ob2) (u1 := u1) (u2 := u2) y16.2 7 0 y16.1 _ c17) (.cons (.same _) vw3) kr kr kr kr kr kr kr kr) kr ?_
       refine oR 5 [(19, iI y17.1.2), (18, .str y17.1.1), (116, iI y17.1.2), (115, .str y17.1.1), (110, .tup [.str y17.1.1, iI y17.1.2])] kr ?_
       refine oN (nT (vS ?_))
       obtain ⟨z5, hs, hk5⟩ := bS hs
       refine v_join (S := Bool) (fun u => u = z5) (fun u => [(2, .bool u)]) (fun u => (gO ob0 ob1 ob2 u1 u2)) ?_ (fun v5 hz => ?_)
       ·refine vT (oR 2 [(118, .bool y1), (117, .bool y1)] kr ?_)
        cases h10 : (y1)
        ·replace hs := bif_f h10 hs
         refine oR 23 [(2, .bool false), (140, .bool false), (139, .no), (138, .no), (137, .no), (136, .bool false), (135, .bool false), (134, .no), (133, .no), (132, .no), (131, .no), (130, .bool false), (129, .bool false), (128, .no), (127, .no), (126, .no), (125, .no), (124, .no), (123, .bool false), (122, .bool false), (121, .no), (120, .no), (119, .no)] kr ?_
         refine oN ?_
         cases hs
         refine nrm_join false rfl ?_
         exact cut_of [2] kG kr kr kr
        ·replace hs := bif_t h10 hs
         refine oR 2 [(120, .sl 1 2000084 ((v2.2).length) 0 ((v2.2).length)), (119, .sl 1 3004300 ((y5.1).length) 0 ((y5.1).length))] kr ?_
         obtain ⟨y18, c18, hs⟩ := bS hs
         refine o_loc (F := [(2000084, .row 9 1 0 (mS v2.2)), (3004300, .row 9 1 0 (mS y5.1))]) (F' := [(2000084, .row 9 1 0 (mS v2.2)), (3004300, .row 9 1 0 (mS y5.1))]) (v := .bool y18) [2000084, 3004300] kr kr rfl kr (loc_gcallB (vs := [.sl 1 3004300 ((y5.1).length) 0 ((y5.1).length), .sl 1 2000084 ((v2.2).length) 0 ((v2.2).length)]) (R := [(2000084, .row 9 1 0 (mS v2.2)), (3004300, .row 9 1 0 (mS y5.1))]) (callV_func hbv15 kr) (w_gr01_SameTexts y5.1 v2.2 _ c18) (.cons (.row (t := 9) (fz := 0) kr lh) (.cons (.row (t := 9) (fz := 0) kr lh) (.nil))) kr kr kr) kr ?_
         refine oR 2 [(123, .bool y18), (122, .bool y18)] kr ?_
         cases h11 : (y18)
         ·replace hs := bif_f h11 hs
          refine oR 18 [(2, .bool false), (140, .bool false), (139, .no), (138, .no), (137, .no), (136, .bool false), (135, .bool false), (134, .no), (133, .no), (132, .no), (131, .no), (130, .bool false), (129, .bool false), (128, .no), (127, .no), (126, .no), (125, .no), (124, .no)] kr ?_
          refine oN ?_
          cases hs
          refine nrm_join false rfl ?_
          exact cut_of [2] kG kr kr kr
         ·replace hs := bif_t h11 hs
          refine oR 3 [(126, iI v2.1), (125, .str s), (124, .str y14.1.1)] kr ?_
          obtain ⟨x2, g4, hs⟩ := bS hs; obtain ⟨g4a, g4b, g4c, g4d⟩ := cut_some g4
          refine oP (v := .str x2) kr kr (by rw [g4d]; exact loc_sliceStr (s := s) (l := 0) (h := v2.1) kr kr rfl ⟨.i64, by kernel_rfl⟩ g4a g4b g4c) ?_
          refine oR 3 [(130, .bool (decide (y14.1.1 = x2))), (129, .bool (decide (y14.1.1 = x2))), (128, .bool (decide (y14.1.1 = x2)))] kr ?_
          cases h12 : ((decide (y14.1.1 = x2)))
          ·replace hs := bif_f h12 hs
           refine oR 11 [(2, .bool false), (140, .bool false), (139, .no), (138, .no), (137, .no), (136, .bool false), (135, .bool false), (134, .no), (133, .no), (132, .no), (131, .no)] kr ?_
           refine oN ?_
           cases hs
           refine nrm_join false rfl ?_
           exact cut_of [2] kG kr kr kr
          ·replace hs := bif_t h12 hs
           refine oR 1 [(131, .gv 3002500 (jpv jb y15.1.1))] kr ?_
           obtain ⟨y19, c19, hs⟩ := bS hs
           refine o_loc (F := [(3002500, .gen (EV.hide sJ (stF y17.2))), (900000000, gl0 ob0), (900000001, gl1 ob1 u1), (900000002, gl2 ob2 u2)]) (F' := [(3002500, .gen (EV.hide sJ (stF y19.2))), (3013200, .row 9 1 0 (mS y19.1)), (900000000, gl0 ob0), (900000001, gl1 ob1 u1), (900000002, gl2 ob2 u2)]) (v := .sl 1 3013200 ((y19.1).length) 0 ((y19.1).length)) [3002500, 900000000, 900000001, 900000002] kr kr rfl kr (loc_g (R := []) [.gv 3002500 (jpv jb y15.1.1)] [(1000000, 3002500), (1000001, 3013200), (900000000, 900000000), (900000001, 900000001), (900000002, 900000002)] (callV_func hbv16 kr) (wk_all (ob0 := ob0) (ob1 := ob1) (ob2 := ob2) (u1 := u1) (u2 := u2) y17.2 y15.1.1 _ c19) (.cons (.same _) (.nil)) kr kr kr kr kr kr kr kr) kr ?_
           refine oR 1 [(133, .sl 1 2000084 ((v2.2).length) 0 ((v2.2).length))] kr ?_
           obtain ⟨y20, c20, hs⟩ := bS hs
           refine o_loc (F := [(2000084, .row 9 1 0 (mS v2.2)), (3013200, .row 9 1 0 (mS y19.1))]) (F' := [(2000084, .row 9 1 0 (mS v2.2)), (3013200, .row 9 1 0 (mS y19.1))]) (v := .bool y20) [2000084, 3013200] kr kr rfl kr (loc_gcallB (vs := [.sl 1 3013200 ((y19.1).length) 0 ((y19.1).length), .sl 1 2000084 ((v2.2).length) 0 ((v2.2).length)]) (R := [(2000084, .row 9 1 0 (mS v2.2)), (3013200, .row 9 1 0 (mS y19.1))]) (callV_func hbv15 kr) (w_gr01_SameTexts y19.1 v2.2 _ c20) (.cons (.row (t := 9) (fz := 0) kr lh) (.cons (.row (t := 9) (fz := 0) kr lh) (.nil))) kr kr kr) kr ?_
           refine oR 2 [(136, .bool y20), (135, .bool y20)] kr ?_
           cases h13 : (y20)
           ·replace hs := bif_f h13 hs
            refine oR 5 [(2, .bool false), (140, .bool false), (139, .no), (138, .no), (137, .no)] kr ?_
            refine oN ?_
            cases hs
            refine nrm_join false rfl ?_
            exact cut_of [2] kG kr kr kr
           ·replace hs := bif_t h13 hs
            refine oR 5 [(2, .bool (decide (y17.1.1 = y14.1.1))), (140, .bool (decide (y17.1.1 = y14.1.1))), (139, .bool (decide (y17.1.1 = y14.1.1))), (138, .str y14.1.1), (137, .str y17.1.1)] kr ?_
            refine oN ?_
            obtain rfl := si hs
            refine nrm_join (decide (y17.1.1 = y14.1.1)) rfl ?_
            exact cut_of [2] kG kr kr kr
       ·subst hz; clear hs; have hs := hk5; clear hk5
        refine nT (v_ret ?_)
        cases hs
        exact fin_ret kr kr kr
end Go.Proofs.YtoflckochjijcaaDoor
