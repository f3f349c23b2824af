/- Walks; printed by laws.py. -/
import Derived.Test.YtoflckochjijcaaDoorH
import Derived.Test.YtoflckochjijcaaDoorLbD
import Derived.Test.YtoflckochjijcaaDoorLa
set_option linter.all false
set_option maxRecDepth 100000
namespace Go.Proofs.YtoflckochjijcaaDoor
open Go Go.RowKit Go.Eng Go.EV
variable [Fuel]
variable {ob0 ob1 ob2 : Go.Obj} {u1 u2 : TypeId}
theorem hbv26 : hasBody Tryd.prog 26 := body_of kr
theorem hbv27 : hasBody Tryd.prog 27 := body_of kr
theorem hbv28 : hasBody Tryd.prog 28 := body_of kr
theorem hbv30 : hasBody Tryd.prog 30 := body_of kr
theorem hbv31 : hasBody Tryd.prog 31 := body_of kr
theorem hbv32 : hasBody Tryd.prog 32 := body_of kr
theorem hbv33 : hasBody Tryd.prog 33 := body_of kr
theorem w_gl03_few (l : (List greenbeltref03_Op)) (r : Bool) (hs : s_gl03_few l = some r) : FnA Tryd.prog 26 [.vs 4 (mM enc_gr03_Op l)] [] (.bool r) [] := by
 refine fnA_of_wp (N := 29) Tryd.func26 rfl rfl rfl fun cK0 => ?_
 unfold s_gl03_few at hs
 refine v_same (ρ' := [(0, .vs 4 (mM enc_gr03_Op l))]) rfl rfl ?_
 refine vS (vT (oR 1 [(2, .bool false)] kr ?_))
 refine oN (nT (vS (vS (vT (oR 1 [(3, iI 0)] kr ?_)))))
 refine oN (nT ?_)
 obtain ⟨z1, hs, hk1⟩ := bS hs
 refine v_join (S := Unit) (fun u => z1 = .inr u) (fun u => [(0, .vs 4 (mM enc_gr03_Op l))]) (fun u => []) ?_ (fun v1 hz => ?_)
 ·refine vB ?_
  refine v_fuel (S := Int) (fun u => [(0, .vs 4 (mM enc_gr03_Op l)), (3, iI u)]) (fun u => []) (s_gl03_few_L1 l) (fun _ => rfl) KK 0 hs (cut_of [0, 3] [] kr kr kr) (fun K1 q1 hs => ?_)
  rw [s_gl03_few_L1] at hs
  show WpV cK0 Tryd.prog none 29 _ _ [(0, .vs 4 (mM enc_gr03_Op l)), (3, iI q1)] [] []
  refine vS (vS (vT (oR 2 [(5, .vs 4 (mM enc_gr03_Op l)), (4, iI q1)] kr ?_)))
  refine oP (v := iI (List.length l : Int)) kr kr (loc_lenVs (sz := 4) (els := (mM enc_gr03_Op l)) kr kr lM) ?_
  refine oR 1 [(7, .bool (decide (q1 < (List.length l : Int))))] kr ?_
  refine oN (nT ?_)
  refine v_cond (decide (q1 < (List.length l : Int))) kr (fun h1 => ?_) (fun h1 => ?_)
  ·replace hs := bif_t h1 hs
   refine vK (nT (vS (vB (vS ?_))))
   obtain ⟨z2, hs, hk2⟩ := bS hs
   refine v_join (S := Bool) (fun u => u = z2) (fun u => [(0, .vs 4 (mM enc_gr03_Op l)), (3, iI q1), (25, .bool u)]) (fun u => []) ?_ (fun v2 hz => ?_)
   ·refine vT (oR 2 [(11, iI q1), (10, .vs 4 (mM enc_gr03_Op l))] kr ?_)
    obtain ⟨x1, g1, hs⟩ := bS hs; obtain ⟨g1a, g1b, g1c⟩ := idx_some g1
    refine oP (v := .vp (enc_gr03_Op x1) 0) kr kr (loc_indexVs (e := 52) (sz := 4) (k := .i64) (els := (mM enc_gr03_Op l)) (cs := (enc_gr03_Op x1)) kr kr kr g1a (by rw [g1c]; exact map_get _ (by omega))) ?_
    refine oR 5 [(17, .bool (decide ((List.length x1.S : Int) > 200))), (16, .bool (decide ((List.length x1.S : Int) > 200))), (15, iI (List.length x1.S : Int)), (14, .str x1.S), (13, .vp (enc_gr03_Op x1) 1)] kr ?_
    cases h2 : ((decide ((List.length x1.S : Int) > 200)))
    ·replace hs := bif_f h2 hs
     refine oR 2 [(19, iI q1), (18, .vs 4 (mM enc_gr03_Op l))] kr ?_
     obtain ⟨x2, g2, hs⟩ := bS hs; obtain ⟨g2a, g2b, g2c⟩ := idx_some g2
     refine oP (v := .vp (enc_gr03_Op x2) 0) kr kr (loc_indexVs (e := 52) (sz := 4) (k := .i64) (els := (mM enc_gr03_Op l)) (cs := (enc_gr03_Op x2)) kr kr kr g2a (by rw [g2c]; exact map_get _ (by omega))) ?_
     refine oR 2 [(22, .vs 1 (mI x2.Keep)), (21, .vp (enc_gr03_Op x2) 3)] kr ?_
     refine oP (v := iI (List.length x2.Keep : Int)) kr kr (loc_lenVs (sz := 1) (els := (mI x2.Keep)) kr kr lM) ?_
     refine oR 2 [(25, .bool (decide ((List.length x2.Keep : Int) > 50))), (24, .bool (decide ((List.length x2.Keep : Int) > 50)))] kr ?_
     refine oN ?_
     obtain rfl := si hs
     refine nrm_join (decide ((List.length x2.Keep : Int) > 50)) rfl ?_
     exact cut_of [0, 3, 25] [] kr kr kr
    ·replace hs := bif_t h2 hs
     refine oR 8 [(25, .bool true), (24, .no), (23, .no), (22, .no), (21, .no), (20, .no), (19, .no), (18, .no)] kr ?_
     refine oN ?_
     cases hs
     refine nrm_join true rfl ?_
     exact cut_of [0, 3, 25] [] kr kr kr
   ·subst hz; clear hs; have hs := hk2; clear hk2
    refine nT ?_
    refine v_cond v2 kr (fun h3 => ?_) (fun h3 => ?_)
    ·replace hs := bif_t h3 hs
     refine vS (vT (oR 1 [(2, .bool false)] kr ?_))
     refine oN (nT (v_ret (rB (rT (ret_fuel ?_)))))
     refine rB (ret_join ?_)
     refine rT ?_
     obtain rfl := si hs
     replace hs := hk1
     cases hs
     exact fin_ret kr kr kr
    ·replace hs := bif_f h3 hs
     refine vK (nB (nT (vT (oR 3 [(3, iI (w64 (q1 + 1))), (9, iI (w64 (q1 + 1))), (8, iI q1)] kr ?_))))
     refine oN (nrm_fuel (w64 (q1 + 1)) hs ?_)
     exact cut_of [0, 3] [] kr kr kr
  ·replace hs := bif_f h1 hs
   refine v_exit (exit_thenV (exit_fuel ?_))
   refine exit_blkV ?_
   cases hs
   refine nrm_join () rfl ?_
   exact cut_of [0] [] kr kr kr
 ·subst hz; clear hs; have hs := hk1; clear hk1
  refine nT (vS (vT (oR 1 [(26, .vs 4 (mM enc_gr03_Op l))] kr ?_)))
  refine oP (v := iI (List.length l : Int)) kr kr (loc_lenVs (sz := 4) (els := (mM enc_gr03_Op l)) kr kr lM) ?_
  refine oR 2 [(2, .bool (decide ((List.length l : Int) ≤ 25))), (28, .bool (decide ((List.length l : Int) ≤ 25)))] kr ?_
  refine oN (nT (v_ret ?_))
  cases hs
  exact fin_ret kr kr kr
theorem w_gl03_disky (e : Int) (r : Bool) (hs : s_gl03_disky e = some r) : FnA Tryd.prog 32 [iI e] [] (.bool r) [] := by
 refine fnA_of_wp (N := 9) Tryd.func32 rfl rfl rfl fun cK0 => ?_
 unfold s_gl03_disky at hs
 refine v_same (ρ' := [(0, iI e)]) rfl rfl ?_
 refine vS (vT (oR 1 [(2, .bool false)] kr ?_))
 refine oN (nT (vS ?_))
 obtain ⟨z1, hs, hk1⟩ := bS hs
 refine v_join (S := Bool) (fun u => u = z1) (fun u => [(2, .bool u)]) (fun u => []) ?_ (fun v1 hz => ?_)
 ·refine vT (oR 3 [(5, .bool (decide (e = 8))), (4, .bool (decide (e = 8))), (3, iI e)] kr ?_)
  cases h1 : ((decide (e = 8)))
  ·replace hs := bif_f h1 hs
   refine oR 4 [(2, .bool (decide (e = 9))), (8, .bool (decide (e = 9))), (7, .bool (decide (e = 9))), (6, iI e)] kr ?_
   refine oN ?_
   obtain rfl := si hs
   refine nrm_join (decide (e = 9)) rfl ?_
   exact cut_of [2] [] kr kr kr
  ·replace hs := bif_t h1 hs
   refine oR 4 [(2, .bool true), (8, .bool true), (7, .no), (6, .no)] kr ?_
   refine oN ?_
   cases hs
   refine nrm_join true rfl ?_
   exact cut_of [2] [] kr kr kr
 ·subst hz; clear hs; have hs := hk1; clear hk1
  refine nT (v_ret ?_)
  cases hs
  exact fin_ret kr kr kr
theorem w_gl03_begins (l : (List Sr)) (a : (List Sr)) (r : Bool) (hs : s_gl03_begins l a = some r) : FnA Tryd.prog 33 [.vs 1 (mS l), .vs 1 (mS a)] [] (.bool r) [] := by
 refine fnA_of_wp (N := 21) Tryd.func33 rfl rfl rfl fun cK0 => ?_
 unfold s_gl03_begins at hs
 refine v_same (ρ' := [(0, .vs 1 (mS l)), (1, .vs 1 (mS a))]) rfl rfl ?_
 refine vS (vT (oR 1 [(4, .bool false)] kr ?_))
 refine oN (nT (vS ?_))
 obtain ⟨z1, hs, hk1⟩ := bS hs
 refine v_join (S := Bool) (fun u => u = z1) (fun u => [(4, .bool u)]) (fun u => []) ?_ (fun v1 hz => ?_)
 ·refine vT (oR 1 [(5, .vs 1 (mS a))] kr ?_)
  refine oP (v := iI (List.length a : Int)) kr kr (loc_lenVs (sz := 1) (els := (mS a)) kr kr lM) ?_
  refine oR 1 [(7, .vs 1 (mS l))] kr ?_
  refine oP (v := iI (List.length l : Int)) kr kr (loc_lenVs (sz := 1) (els := (mS l)) kr kr lM) ?_
  refine oR 2 [(10, .bool (decide ((List.length a : Int) ≤ (List.length l : Int)))), (9, .bool (decide ((List.length a : Int) ≤ (List.length l : Int))))] kr ?_
  cases h1 : ((decide ((List.length a : Int) ≤ (List.length l : Int))))
  ·replace hs := bif_f h1 hs
   refine oR 11 [(4, .bool false), (20, .bool false), (19, .no), (18, .no), (17, .no), (16, .no), (15, .no), (14, .no), (13, .no), (12, .no), (11, .no)] kr ?_
   refine oN ?_
   cases hs
   refine nrm_join false rfl ?_
   exact cut_of [4] [] kr kr kr
  ·replace hs := bif_t h1 hs
   refine oR 2 [(12, .vs 1 (mS a)), (11, .vs 1 (mS l))] kr ?_
   refine oP (v := iI (List.length a : Int)) kr kr (loc_lenVs (sz := 1) (els := (mS a)) kr kr lM) ?_
   refine oR 1 [(14, .vs 1 (mS l))] kr ?_
   refine oP (v := iI (List.length l : Int)) kr kr (loc_lenVs (sz := 1) (els := (mS l)) kr kr lM) ?_
   refine oR 1 [(16, iI (min (List.length a : Int) (List.length l : Int)))] kr ?_
   obtain ⟨x1, g1, hs⟩ := bS hs; obtain ⟨g1a, g1b, g1c, g1d⟩ := cut_some g1
   refine oP (v := .vs 1 (List.map EV.encS x1)) kr kr (loc_sliceVsT (e := 9) (sz := 1) (l := 0) (h := (min (List.length a : Int) (List.length l : Int))) (els := (List.map EV.encS l)) kr kr rfl ⟨.i64, by kernel_rfl⟩ g1a g1b (by simpa only [List.length_map] using g1c) (by rw [g1d, List.map_drop, List.map_take])) ?_
   refine oR 1 [(18, .vs 1 (mS a))] kr ?_
   obtain ⟨y1, c1, hs⟩ := bS hs
   refine oP (v := .bool y1) kr kr (loc_gcall0 (callV_func hbv15 kr) (w_gr01_SameTexts x1 a _ c1) kr) ?_
   refine oR 2 [(4, .bool y1), (20, .bool y1)] kr ?_
   refine oN ?_
   obtain rfl := si hs
   refine nrm_join y1 rfl ?_
   exact cut_of [4] [] kr kr kr
 ·subst hz; clear hs; have hs := hk1; clear hk1
  refine nT (v_ret ?_)
  cases hs
  exact fin_ret kr kr kr
theorem w_gl03_JournalLasts (l : (List greenbeltref03_Op)) (keep : (List Int)) (r : Bool) (hs : s_gl03_JournalLasts l keep = some r) : FnA Tryd.prog 6 [.vs 4 (mM enc_gr03_Op l), .vs 1 (mI keep)] (gO ob0 ob1 ob2 u1 u2) (.bool r) (gO ob0 ob1 ob2 u1 u2) := by
 refine fnA_of_wp (N := 177) Tryd.func6 rfl rfl rfl fun cK0 => ?_
 unfold s_gl03_JournalLasts at hs
 refine v_same (ρ' := [(0, .vs 4 (mM enc_gr03_Op l)), (1, .vs 1 (mI keep))]) rfl rfl ?_
 refine vS (vT (oR 1 [(4, .bool false)] kr ?_))
 refine oN (nT (vS (vT ?_)))
 obtain ⟨y1, c1, hs⟩ := bS hs
 refine o_loc (F := (gO ob0 ob1 ob2 u1 u2)) (F' := (gO ob0 ob1 ob2 u1 u2)) (v := .bool y1) kG kr kr rfl kr (loc_gcallL (vs := []) (G := (gO ob0 ob1 ob2 u1 u2)) (R := []) (callV_func hbv7 kr) (w_gl03_small (ob0 := ob0) (ob1 := ob1) (ob2 := ob2) (u1 := u1) (u2 := u2)  _ c1) kr (.nil) kr kr kr) kr ?_
 refine oR 1 [(5, .bool y1)] kr ?_
 refine oN (nT (vS (vS ?_)))
 obtain ⟨z1, hs, hk1⟩ := bS hs
 refine v_join (S := Bool) (fun u => u = z1) (fun u => [(0, .vs 4 (mM enc_gr03_Op l)), (1, .vs 1 (mI keep)), (5, .bool y1), (26, .bool u)]) (fun u => (gO ob0 ob1 ob2 u1 u2)) ?_ (fun v1 hz => ?_)
 ·refine vT (oR 1 [(19, .vs 4 (mM enc_gr03_Op l))] kr ?_)
  obtain ⟨y2, c2, hs⟩ := bS hs
  refine oP (v := .bool y2) kr kr (loc_gcall0 (callV_func hbv26 kr) (w_gl03_few l _ c2) kr) ?_
  refine oR 2 [(22, .bool (!y2)), (21, .bool (!y2))] kr ?_
  cases h1 : ((!y2))
  ·replace hs := bif_f h1 hs
   refine oR 1 [(23, .vs 1 (mI keep))] kr ?_
   refine oP (v := iI (List.length keep : Int)) kr kr (loc_lenVs (sz := 1) (els := (mI keep)) kr kr lM) ?_
   refine oR 2 [(26, .bool (decide ((List.length keep : Int) > 50))), (25, .bool (decide ((List.length keep : Int) > 50)))] kr ?_
   refine oN ?_
   obtain rfl := si hs
   refine nrm_join (decide ((List.length keep : Int) > 50)) rfl ?_
   exact cut_of [0, 1, 5, 26] kG kr kr kr
  ·replace hs := bif_t h1 hs
   refine oR 4 [(26, .bool true), (25, .no), (24, .no), (23, .no)] kr ?_
   refine oN ?_
   cases hs
   refine nrm_join true rfl ?_
   exact cut_of [0, 1, 5, 26] kG kr kr kr
 ·subst hz; clear hs; have hs := hk1; clear hk1
  refine nT ?_
  refine v_cond v1 kr (fun h2 => ?_) (fun h2 => ?_)
  ·replace hs := bif_t h2 hs
   refine vS (vT (oR 2 [(4, .bool y1), (27, .bool y1)] kr ?_))
   refine oN (nT (v_ret (rT ?_)))
   cases hs
   exact fin_ret kr kr kr
  ·replace hs := bif_f h2 hs
   refine vK (nT (vS (vT ?_)))
   obtain ⟨y3, c3, hs⟩ := bS hs
   refine o_loc (F := []) (F' := [(3002800, .gen (EV.hide sJ (stF y3.2)))]) (v := .gv 3002800 (hpl 1 0)) [] kr kr rfl kr (loc_g (R := []) [] [(1000000, 3002800)] (callV_func hbv9 kr) (wk_new _ c3) (.nil) kr kr kr kr kr kr kr kr) kr ?_
   refine oR 1 [(6, .gv 3002800 (hpl 1 0))] kr ?_
   refine oN (nT (vS (vS (vT (oR 1 [(29, .gv 3002800 (hpl 1 0))] kr ?_)))))
   refine oP (v := .bool false) kr kr (loc_hplNil_eql (k := 3002800) (b := 1) (off := 0) kr kr kr) ?_
   refine oN (nT (v_cond_f kr ?_))
   refine vK (nT (vS (vT (oR 1 [(32, .gv 3002800 (hpl 1 0))] kr ?_))))
   obtain ⟨y4, c4, hs⟩ := bS hs
   refine o_loc (F := [(3002800, .gen (EV.hide sJ (stF y3.2))), (900000000, gl0 ob0), (900000001, gl1 ob1 u1), (900000002, gl2 ob2 u2)]) (F' := [(3002800, .gen (EV.hide sJ (stF y4.2))), (900000000, gl0 ob0), (900000001, gl1 ob1 u1), (900000002, gl2 ob2 u2)]) (v := .tup [.gv 3002800 (jpv jb y4.1.1), iI y4.1.2]) [3002800, 900000000, 900000001, 900000002] kr kr rfl kr (loc_g (R := []) [.gv 3002800 (hpl 1 0), iI 3] [(1000000, 3002800), (900000000, 900000000), (900000001, 900000001), (900000002, 900000002)] (callV_func hbv10 kr) (wk_open (ob0 := ob0) (ob1 := ob1) (ob2 := ob2) (u1 := u1) (u2 := u2) y3.2 3 _ c4) vw2 kr kr kr kr kr kr kr kr) kr ?_
   refine oR 5 [(8, iI y4.1.2), (7, .gv 3002800 (jpv jb y4.1.1)), (35, iI y4.1.2), (34, .gv 3002800 (jpv jb y4.1.1)), (31, .tup [.gv 3002800 (jpv jb y4.1.1), iI y4.1.2])] kr ?_
   refine oN (nT (vS (vS (vT (oR 1 [(36, .gv 3002800 (jpv jb y4.1.1))] kr ?_)))))
   refine oP (v := .bool (decide (y4.1.1 = 0))) kr kr (loc_jpvNil_eql (k := 3002800) (a := jb) (i := y4.1.1) kr kr kr) ?_
   refine oN (nT ?_)
   refine v_cond (decide (y4.1.1 = 0)) kr (fun h3 => ?_) (fun h3 => ?_)
   ·replace hs := bif_t h3 hs
    refine vS (vT (oR 1 [(4, .bool false)] kr ?_))
    refine oN (nT (v_ret (rT ?_)))
    cases hs
    exact fin_ret kr kr kr
   ·replace hs := bif_f h3 hs
    refine vK (nT (vS (vT (oR 1 [(9, .nils)] kr ?_))))
    refine oN (nT (vS (vT (oR 1 [(10, .nils)] kr ?_))))
    refine oN (nT (vS (vS (vT (oR 1 [(11, iI 0)] kr ?_)))))
    refine oN (nT ?_)
    obtain ⟨z2, hs, hk2⟩ := bS hs
    refine v_join (S := Unit) (fun u => z2 = .inr u) (fun u => [(5, .bool y1)]) (fun u => (gO ob0 ob1 ob2 u1 u2)) ?_ (fun v2 hz => ?_)
    ·refine vB ?_
     refine v_fuel (S := Nat × (List Sr) × (List Sr) × Int × Wd) (fun u => [(0, .vs 4 (mM enc_gr03_Op l)), (1, .vs 1 (mI keep)), (5, .bool y1), (6, .gv 3002800 (hpl 1 0)), (7, .gv 3002800 (jpv jb u.1)), (9, .vs 1 (mS u.2.1)), (10, .vs 1 (mS u.2.2.1)), (11, iI u.2.2.2.1)]) (fun u => [(3002800, .gen (EV.hide sJ (stF u.2.2.2.2))), (900000000, gl0 ob0), (900000001, gl1 ob1 u1), (900000002, gl2 ob2 u2)]) (s_gl03_JournalLasts_L1 l keep) (fun _ => rfl) KK (y4.1.1, [], [], 0, y4.2) hs (Cut.trans (cut_view (t := 9) (v := .vs 1 []) [] [] rfl rfl (.nils 1)) (Cut.trans (cut_view (t := 10) (v := .vs 1 []) [] [] rfl rfl (.nils 1)) (cut_of [0, 1, 5, 6, 7, 9, 10, 11] [3002800, 900000000, 900000001, 900000002] kr kr kr))) (fun K1 q1 hs => ?_)
     rw [s_gl03_JournalLasts_L1] at hs
     show WpV cK0 Tryd.prog none 177 _ _ [(0, .vs 4 (mM enc_gr03_Op l)), (1, .vs 1 (mI keep)), (5, .bool y1), (6, .gv 3002800 (hpl 1 0)), (7, .gv 3002800 (jpv jb q1.1)), (9, .vs 1 (mS q1.2.1)), (10, .vs 1 (mS q1.2.2.1)), (11, iI q1.2.2.2.1)] [(3002800, .gen (EV.hide sJ (stF q1.2.2.2.2))), (900000000, gl0 ob0), (900000001, gl1 ob1 u1), (900000002, gl2 ob2 u2)] []
     refine vS (vS (vT (oR 2 [(39, .vs 4 (mM enc_gr03_Op l)), (38, iI q1.2.2.2.1)] kr ?_)))
     refine oP (v := iI (List.length l : Int)) kr kr (loc_lenVs (sz := 4) (els := (mM enc_gr03_Op l)) kr kr lM) ?_
     refine oR 1 [(41, .bool (decide (q1.2.2.2.1 ≤ (List.length l : Int))))] kr ?_
     refine oN (nT ?_)
     refine v_cond (decide (q1.2.2.2.1 ≤ (List.length l : Int))) kr (fun h4 => ?_) (fun h4 => ?_)
     ·replace hs := bif_t h4 hs
      refine vK (nT (vS ?_))
      obtain ⟨z3, hs, hk3⟩ := bS hs
      refine v_join (S := Nat × (List Sr) × (List Sr) × Wd) (fun u => z3 = .inr u) (fun u => [(0, .vs 4 (mM enc_gr03_Op l)), (1, .vs 1 (mI keep)), (5, .bool y1), (6, .gv 3002800 (hpl 1 0)), (7, .gv 3002800 (jpv jb u.1)), (9, .vs 1 (mS u.2.1)), (10, .vs 1 (mS u.2.2.1)), (11, iI q1.2.2.2.1)]) (fun u => [(3002800, .gen (EV.hide sJ (stF u.2.2.2))), (900000000, gl0 ob0), (900000001, gl1 ob1 u1), (900000002, gl2 ob2 u2)]) ?_ (fun v3 hz => ?_)
      ·refine vB (vS (vT (o_runh 4 [(12, .ptr 12 0 0), (45, .agg [iI 4, .str [], iI 0, .vs 1 (mI keep)]), (44, .vs 1 (mI keep))] [(12, .box 52 [iI 4, .str [], iI 0, .vs 1 (mI keep)]), (3002800, .gen (EV.hide sJ (stF q1.2.2.2.2))), (900000000, gl0 ob0), (900000001, gl1 ob1 u1), (900000002, gl2 ob2 u2)] kr ?_)))
       refine oN (nT (vS (vS (vT (oR 2 [(47, .vs 4 (mM enc_gr03_Op l)), (46, iI q1.2.2.2.1)] kr ?_)))))
       refine oP (v := iI (List.length l : Int)) kr kr (loc_lenVs (sz := 4) (els := (mM enc_gr03_Op l)) kr kr lM) ?_
       refine oR 1 [(49, .bool (decide (q1.2.2.2.1 < (List.length l : Int))))] kr ?_
       refine oN (nT ?_)
       obtain ⟨z4, hs, hk4⟩ := bS hs
       refine v_join (S := Int × Sr × Int × (List Int) × Wd) (fun u => u = z4) (fun u => [(0, .vs 4 (mM enc_gr03_Op l)), (1, .vs 1 (mI keep)), (5, .bool y1), (6, .gv 3002800 (hpl 1 0)), (7, .gv 3002800 (jpv jb q1.1)), (9, .vs 1 (mS q1.2.1)), (10, .vs 1 (mS q1.2.2.1)), (11, iI q1.2.2.2.1), (12, .ptr 12 0 0)]) (fun u => [(12, .box 52 [iI u.1, .str u.2.1, iI u.2.2.1, .vs 1 (mI u.2.2.2.1)]), (3002800, .gen (EV.hide sJ (stF u.2.2.2.2))), (900000000, gl0 ob0), (900000001, gl1 ob1 u1), (900000002, gl2 ob2 u2)]) ?_ (fun v4 hz => ?_)
       ·refine v_cond (decide (q1.2.2.2.1 < (List.length l : Int))) kr (fun h5 => ?_) (fun h5 => ?_)
        ·replace hs := bif_t h5 hs
         refine vT (oR 2 [(51, iI q1.2.2.2.1), (50, .vs 4 (mM enc_gr03_Op l))] kr ?_)
         obtain ⟨x1, g1, hs⟩ := bS hs; obtain ⟨g1a, g1b, g1c⟩ := idx_some g1
         refine oP (v := .vp (enc_gr03_Op x1) 0) kr kr (loc_indexVs (e := 52) (sz := 4) (k := .i64) (els := (mM enc_gr03_Op l)) (cs := (enc_gr03_Op x1)) kr kr kr g1a (by rw [g1c]; exact map_get _ (by omega))) ?_
         refine o_runh 2 [(53, .agg (enc_gr03_Op x1))] [(12, .box 52 [iI x1.Kind, .str x1.S, iI x1.N, .vs 1 (mI x1.Keep)]), (3002800, .gen (EV.hide sJ (stF q1.2.2.2.2))), (900000000, gl0 ob0), (900000001, gl1 ob1 u1), (900000002, gl2 ob2 u2)] kr ?_
         refine oN ?_
         obtain rfl := si hs
         refine nrm_join (x1.Kind, x1.S, x1.N, x1.Keep, q1.2.2.2.2) rfl ?_
         exact cut_of [0, 1, 5, 6, 7, 9, 10, 11, 12] [12, 3002800, 900000000, 900000001, 900000002] kr kr kr
        ·replace hs := bif_f h5 hs
         refine vS (vT (oR 1 [(54, .gv 3002800 (hpl 1 0))] kr ?_))
         obtain ⟨y5, c5, hs⟩ := bS hs
         refine o_loc (F := [(3002800, .gen (EV.hide sJ (stF q1.2.2.2.2))), (900000000, gl0 ob0), (900000001, gl1 ob1 u1), (900000002, gl2 ob2 u2)]) (F' := [(3002800, .gen (EV.hide sJ (stF y5.2))), (900000000, gl0 ob0), (900000001, gl1 ob1 u1), (900000002, gl2 ob2 u2)]) (v := .tup []) [3002800, 900000000, 900000001, 900000002] kr kr rfl kr (loc_g (R := []) [.gv 3002800 (hpl 1 0), iI 0] [(1000000, 3002800), (900000000, 900000000), (900000001, 900000001), (900000002, 900000002)] (callV_func hbv28 kr) (wk_lose (ob0 := ob0) (ob1 := ob1) (ob2 := ob2) (u1 := u1) (u2 := u2) q1.2.2.2.2 0 _ c5) vw2 kr kr kr kr kr kr kr kr) kr ?_
         refine oN (nT (vT (oR 1 [(56, .gv 3002800 (hpl 1 0))] kr ?_)))
         obtain ⟨y6, c6, hs⟩ := bS hs
         refine o_loc (F := [(3002800, .gen (EV.hide sJ (stF y5.2))), (900000000, gl0 ob0), (900000001, gl1 ob1 u1), (900000002, gl2 ob2 u2)]) (F' := [(3002800, .gen (EV.hide sJ (stF y6.2))), (900000000, gl0 ob0), (900000001, gl1 ob1 u1), (900000002, gl2 ob2 u2)]) (v := .tup []) [3002800, 900000000, 900000001, 900000002] kr kr rfl kr (loc_g (R := []) [.gv 3002800 (hpl 1 0), iI 0, .nils] [(1000000, 3002800), (900000000, 900000000), (900000001, 900000001), (900000002, 900000002)] (callV_func hbv31 kr) (wk_arm (ob0 := ob0) (ob1 := ob1) (ob2 := ob2) (u1 := u1) (u2 := u2) y5.2 0 [] _ c6) (.cons (.same _) (.cons (.same _) (.cons (.nils _) (.nil)))) kr kr kr kr kr kr kr kr) kr ?_
         refine oN ?_
         obtain rfl := si hs
         refine nrm_join (4, [], 0, keep, y6.2) rfl ?_
         exact cut_of [0, 1, 5, 6, 7, 9, 10, 11, 12] [12, 3002800, 900000000, 900000001, 900000002] kr kr kr
       ·subst hz; clear hs; have hs := hk4; clear hk4
        refine nT (vS (vT (oR 2 [(59, iI v4.1), (58, .ptr 12 0 0)] kr ?_)))
        refine oN (nT (vB (vS (vT (oR 2 [(60, .bool (decide (v4.1 = 0))), (61, .bool (decide (v4.1 = 0)))] kr ?_)))))
        refine oN (nT ?_)
        refine v_cond (decide (v4.1 = 0)) kr (fun h6 => ?_) (fun h6 => ?_)
        ·replace hs := bif_t h6 hs
         refine vS (vS (vT (oR 1 [(62, .gv 3002800 (jpv jb q1.1))] kr ?_)))
         refine oP (v := .bool (decide (q1.1 = 0))) kr kr (loc_jpvNil_eql (k := 3002800) (a := jb) (i := q1.1) kr kr kr) ?_
         refine oN (nT ?_)
         refine v_cond (decide (q1.1 = 0)) kr (fun h7 => ?_) (fun h7 => ?_)
         ·replace hs := bif_t h7 hs
          refine v_exit (exit_thenV (exit_blkV_other rfl ?_))
          refine exit_blkV ?_
          obtain rfl := si hs
          refine nrm_join (q1.1, q1.2.1, q1.2.2.1, v4.2.2.2.2) rfl ?_
          exact cut_of [0, 1, 5, 6, 7, 9, 10, 11] [3002800, 900000000, 900000001, 900000002] kr kr kr
         ·replace hs := bif_f h7 hs
          refine vK (nT (vS (vT (oR 1 [(64, .gv 3002800 (jpv jb q1.1))] kr ?_))))
          obtain ⟨y7, c7, hs⟩ := bS hs
          refine o_loc (F := [(3002800, .gen (EV.hide sJ (stF v4.2.2.2.2))), (900000000, gl0 ob0), (900000001, gl1 ob1 u1), (900000002, gl2 ob2 u2)]) (F' := [(3002800, .gen (EV.hide sJ (stF y7.2))), (3006500, .row 9 1 0 (mS y7.1)), (900000000, gl0 ob0), (900000001, gl1 ob1 u1), (900000002, gl2 ob2 u2)]) (v := .sl 1 3006500 ((y7.1).length) 0 ((y7.1).length)) [3002800, 900000000, 900000001, 900000002] kr kr rfl kr (loc_g (R := []) [.gv 3002800 (jpv jb q1.1)] [(1000000, 3002800), (1000001, 3006500), (900000000, 900000000), (900000001, 900000001), (900000002, 900000002)] (callV_func hbv16 kr) (wk_all (ob0 := ob0) (ob1 := ob1) (ob2 := ob2) (u1 := u1) (u2 := u2) v4.2.2.2.2 q1.1 _ c7) (.cons (.same _) (.nil)) kr kr kr kr kr kr kr kr) kr ?_
          refine oR 1 [(13, .sl 1 3006500 ((y7.1).length) 0 ((y7.1).length))] kr ?_
          refine oN (nT (vS (vT (oR 3 [(68, .str v4.2.1), (67, .ptr 12 0 1), (66, .gv 3002800 (jpv jb q1.1))] kr ?_))))
          obtain ⟨y8, c8, hs⟩ := bS hs
          refine o_loc (F := [(3002800, .gen (EV.hide sJ (stF y7.2))), (900000000, gl0 ob0), (900000001, gl1 ob1 u1), (900000002, gl2 ob2 u2)]) (F' := [(3002800, .gen (EV.hide sJ (stF y8.2))), (900000000, gl0 ob0), (900000001, gl1 ob1 u1), (900000002, gl2 ob2 u2)]) (v := iI y8.1) [3002800, 900000000, 900000001, 900000002] kr kr rfl kr (loc_g (R := []) [.gv 3002800 (jpv jb q1.1), .str v4.2.1] [(1000000, 3002800), (900000000, 900000000), (900000001, 900000001), (900000002, 900000002)] (callV_func hbv11 kr) (wk_append (ob0 := ob0) (ob1 := ob1) (ob2 := ob2) (u1 := u1) (u2 := u2) y7.2 q1.1 v4.2.1 _ c8) vw2 kr kr kr kr kr kr kr kr) kr ?_
          refine oR 1 [(14, iI y8.1)] kr ?_
          refine oN (nT (vS (vT (oR 1 [(70, .gv 3002800 (jpv jb q1.1))] kr ?_))))
          obtain ⟨y9, c9, hs⟩ := bS hs
          refine o_loc (F := [(3002800, .gen (EV.hide sJ (stF y8.2))), (900000000, gl0 ob0), (900000001, gl1 ob1 u1), (900000002, gl2 ob2 u2)]) (F' := [(3002800, .gen (EV.hide sJ (stF y9.2))), (3007100, .row 9 1 0 (mS y9.1)), (900000000, gl0 ob0), (900000001, gl1 ob1 u1), (900000002, gl2 ob2 u2)]) (v := .sl 1 3007100 ((y9.1).length) 0 ((y9.1).length)) [3002800, 900000000, 900000001, 900000002] kr kr rfl kr (loc_g (R := []) [.gv 3002800 (jpv jb q1.1)] [(1000000, 3002800), (1000001, 3007100), (900000000, 900000000), (900000001, 900000001), (900000002, 900000002)] (callV_func hbv16 kr) (wk_all (ob0 := ob0) (ob1 := ob1) (ob2 := ob2) (u1 := u1) (u2 := u2) y8.2 q1.1 _ c9) (.cons (.same _) (.nil)) kr kr kr kr kr kr kr kr) kr ?_
          refine oR 1 [(15, .sl 1 3007100 ((y9.1).length) 0 ((y9.1).length))] kr ?_
          refine oN (nT (vS (vS ?_)))
          obtain ⟨z5, hs, hk5⟩ := bS hs
          refine v_join (S := Bool) (fun u => u = z5) (fun u => [(0, .vs 4 (mM enc_gr03_Op l)), (1, .vs 1 (mI keep)), (5, .bool y1), (6, .gv 3002800 (hpl 1 0)), (7, .gv 3002800 (jpv jb q1.1)), (9, .vs 1 (mS q1.2.1)), (10, .vs 1 (mS q1.2.2.1)), (11, iI q1.2.2.2.1), (12, .ptr 12 0 0), (13, .sl 1 3006500 ((y7.1).length) 0 ((y7.1).length)), (14, iI y8.1), (15, .sl 1 3007100 ((y9.1).length) 0 ((y9.1).length)), (77, .bool u)]) (fun u => [(3002800, .gen (EV.hide sJ (stF y9.2))), (3007100, .row 9 1 0 (mS y9.1)), (3006500, .row 9 1 0 (mS y7.1)), (12, .box 52 [iI v4.1, .str v4.2.1, iI v4.2.2.1, .vs 1 (mI v4.2.2.2.1)]), (900000000, gl0 ob0), (900000001, gl1 ob1 u1), (900000002, gl2 ob2 u2)]) ?_ (fun v5 hz => ?_)
          ·refine vT (oR 3 [(74, .bool (decide (y8.1 = 0))), (73, .bool (decide (y8.1 = 0))), (72, iI y8.1)] kr ?_)
           cases h8 : ((decide (y8.1 = 0)))
           ·replace hs := bif_f h8 hs
            refine oR 1 [(75, iI y8.1)] kr ?_
            obtain ⟨y10, c10, hs⟩ := bS hs
            refine oP (v := .bool y10) kr kr (loc_gcall0 (callV_func hbv32 kr) (w_gl03_disky y8.1 _ c10) kr) ?_
            refine oR 1 [(77, .bool y10)] kr ?_
            refine oN ?_
            obtain rfl := si hs
            refine nrm_join y10 rfl ?_
            exact cut_of [0, 1, 5, 6, 7, 9, 10, 11, 12, 13, 14, 15, 77] [3002800, 3007100, 3006500, 12, 900000000, 900000001, 900000002] kr kr kr
           ·replace hs := bif_t h8 hs
            refine oR 3 [(77, .bool true), (76, .no), (75, .no)] kr ?_
            refine oN ?_
            cases hs
            refine nrm_join true rfl ?_
            exact cut_of [0, 1, 5, 6, 7, 9, 10, 11, 12, 13, 14, 15, 77] [3002800, 3007100, 3006500, 12, 900000000, 900000001, 900000002] kr kr kr
          ·subst hz; clear hs; have hs := hk5; clear hk5
           refine nT ?_
           obtain ⟨z6, hs, hk6⟩ := bS hs
           refine v_join (S := (List Sr)) (fun u => u = z6) (fun u => [(0, .vs 4 (mM enc_gr03_Op l)), (1, .vs 1 (mI keep)), (5, .bool y1), (6, .gv 3002800 (hpl 1 0)), (7, .gv 3002800 (jpv jb q1.1)), (9, .vs 1 (mS u)), (10, .vs 1 (mS q1.2.2.1)), (11, iI q1.2.2.2.1), (12, .ptr 12 0 0), (13, .sl 1 3006500 ((y7.1).length) 0 ((y7.1).length)), (14, iI y8.1), (15, .sl 1 3007100 ((y9.1).length) 0 ((y9.1).length))]) (fun u => [(3002800, .gen (EV.hide sJ (stF y9.2))), (3007100, .row 9 1 0 (mS y9.1)), (3006500, .row 9 1 0 (mS y7.1)), (12, .box 52 [iI v4.1, .str v4.2.1, iI v4.2.2.1, .vs 1 (mI v4.2.2.2.1)]), (900000000, gl0 ob0), (900000001, gl1 ob1 u1), (900000002, gl2 ob2 u2)]) ?_ (fun v6 hz => ?_)
           ·refine v_cond v5 kr (fun h9 => ?_) (fun h9 => ?_)
            ·replace hs := bif_t h9 hs
             refine v_draw mixedH kr ?_
             refine d_runh 2 0 [(79, .vs 1 (mS q1.2.1)), (78, .sl 1 78 0 0 0)] [(78, .row 9 1 0 (mS [])), (3002800, .gen (EV.hide sJ (stF y9.2))), (3007100, .row 9 1 0 (mS y9.1)), (3006500, .row 9 1 0 (mS y7.1)), (12, .box 52 [iI v4.1, .str v4.2.1, iI v4.2.2.1, .vs 1 (mI v4.2.2.2.1)]), (900000000, gl0 ob0), (900000001, gl1 ob1 u1), (900000002, gl2 ob2 u2)] [⟨1, [], []⟩, ⟨0, [78], []⟩] kr kr ?_
             obtain ⟨_, g2, hs⟩ := bS hs; replace g2 := grd_some g2
             refine d_loc (F := [(78, .row 9 1 0 (mS []))]) (R := []) (F' := [(78, .row 9 1 0 (mS q1.2.1))]) (v := .sl 1 78 ((q1.2.1).length) 0 ((q1.2.1).length)) 2 [78] [] rfl rfl rfl rfl kr kr kr kr kr kr kr kr (loc_appendT (e := 9) (sz := 1) (bytes := 16) (L := 0) (els := (mS [])) (ys := (mS q1.2.1)) kr kr (by first | exact List.length_map .. | rfl) (by have := Src.vs (sz := 1) (R := []) (mS q1.2.1); exact this) (map_ones EV.encS (fun _ => rfl) _) (map_lens EV.encS (fun _ => rfl) _) kr (by first | exact (List.map_append ..).symm | rfl | simp only [List.map_nil, List.nil_append]) (List.length_map ..) g2 (by omega)) ?_
             refine d_runh 3 3 [(83, .sl 1 83 1 0 1), (82, .str v4.2.1), (81, .ptr 12 0 1)] [(83, .row 9 1 0 (mS [v4.2.1])), (78, .row 9 1 0 (mS q1.2.1)), (3002800, .gen (EV.hide sJ (stF y9.2))), (3007100, .row 9 1 0 (mS y9.1)), (3006500, .row 9 1 0 (mS y7.1)), (12, .box 52 [iI v4.1, .str v4.2.1, iI v4.2.2.1, .vs 1 (mI v4.2.2.2.1)]), (900000000, gl0 ob0), (900000001, gl1 ob1 u1), (900000002, gl2 ob2 u2)] [⟨5, [83], []⟩, ⟨4, [], [12]⟩, ⟨3, [], []⟩] kr kr ?_
             obtain ⟨_, g3, hs⟩ := bS hs; replace g3 := grd_some g3
             refine d_loc (F := [(78, .row 9 1 0 (mS q1.2.1))]) (R := [(83, .row 9 1 0 (mS [v4.2.1]))]) (F' := [(78, .row 9 1 0 (mS (q1.2.1 ++ [v4.2.1])))]) (v := .sl 1 78 (((q1.2.1 ++ [v4.2.1])).length) 0 (((q1.2.1 ++ [v4.2.1])).length)) 6 [78] [83] rfl rfl rfl rfl kr kr kr kr kr kr kr kr (loc_appendT (e := 9) (sz := 1) (bytes := 16) (L := (q1.2.1).length) (els := (mS q1.2.1)) (ys := (mS [v4.2.1])) kr kr (by first | exact List.length_map .. | rfl) (.sl (t := 9) (fz := 0) (ys := (mS [v4.2.1])) kr kr) (map_ones EV.encS (fun _ => rfl) _) (map_lens EV.encS (fun _ => rfl) _) kr (by first | exact (List.map_append ..).symm | rfl | simp only [List.map_nil, List.nil_append]) (List.length_map ..) g3 (by omega)) ?_
             refine d_runs 1 7 [(9, .sl 1 78 (((q1.2.1 ++ [v4.2.1])).length) 0 (((q1.2.1 ++ [v4.2.1])).length))] (pfp 1 7) kr kr ?_
             refine d_nil kr ?_
             obtain rfl := si hs
             refine nrm_join (q1.2.1 ++ [v4.2.1]) rfl ?_
             exact Cut.trans (cut_freeze (F := [(78, .row 9 1 0 (mS (q1.2.1 ++ [v4.2.1])))]) (ρ1 := [(78, .row 9 1 (((mS (q1.2.1 ++ [v4.2.1]))).length) (mS (q1.2.1 ++ [v4.2.1]))), (83, .row 9 1 0 (mS [v4.2.1])), (3002800, .gen (EV.hide sJ (stF y9.2))), (3007100, .row 9 1 0 (mS y9.1)), (3006500, .row 9 1 0 (mS y7.1)), (12, .box 52 [iI v4.1, .str v4.2.1, iI v4.2.2.1, .vs 1 (mI v4.2.2.2.1)]), (900000000, gl0 ob0), (900000001, gl1 ob1 u1), (900000002, gl2 ob2 u2)]) [78] rfl kr kr) (Cut.trans (cut_view (t := 9) (v := .vs 1 (mS (q1.2.1 ++ [v4.2.1]))) (R := [(78, .row 9 1 (((mS (q1.2.1 ++ [v4.2.1]))).length) (mS (q1.2.1 ++ [v4.2.1])))]) (ks := [78]) kr kr (.row (t := 9) (fz := (((mS (q1.2.1 ++ [v4.2.1]))).length)) kr lh)) (cut_of [0, 1, 5, 6, 7, 9, 10, 11, 12, 13, 14, 15] [3002800, 3007100, 3006500, 12, 900000000, 900000001, 900000002] kr kr kr))
            ·replace hs := bif_f h9 hs
             refine vK ?_
             obtain rfl := si hs
             refine nrm_join q1.2.1 rfl ?_
             exact cut_of [0, 1, 5, 6, 7, 9, 10, 11, 12, 13, 14, 15] [3002800, 3007100, 3006500, 12, 900000000, 900000001, 900000002] kr kr kr
           ·subst hz; clear hs; have hs := hk6; clear hk6
            refine nT (vS ?_)
            obtain ⟨z7, hs, hk7⟩ := bS hs
            refine v_join (S := Bool) (fun u => u = z7) (fun u => [(0, .vs 4 (mM enc_gr03_Op l)), (1, .vs 1 (mI keep)), (5, .bool y1), (6, .gv 3002800 (hpl 1 0)), (7, .gv 3002800 (jpv jb q1.1)), (9, .vs 1 (mS v6)), (10, .vs 1 (mS q1.2.2.1)), (11, iI q1.2.2.2.1), (106, .bool u)]) (fun u => [(3002800, .gen (EV.hide sJ (stF y9.2))), (900000000, gl0 ob0), (900000001, gl1 ob1 u1), (900000002, gl2 ob2 u2)]) ?_ (fun v7 hz => ?_)
            ·refine vT (oR 3 [(87, .bool (decide (y8.1 = 0))), (86, .bool (decide (y8.1 = 0))), (85, iI y8.1)] kr ?_)
             cases h10 : ((decide (y8.1 = 0)))
             ·replace hs := bif_f h10 hs
              refine oR 13 [(100, .bool (!(decide (y8.1 = 0)))), (99, .bool (!(decide (y8.1 = 0)))), (98, iI y8.1), (97, .bool false), (96, .bool false), (95, .no), (94, .no), (93, .no), (92, .no), (91, .no), (90, .no), (89, .no), (88, .no)] kr ?_
              cases h11 : ((!(decide (y8.1 = 0))))
              ·replace hs := bif_f h11 hs
               refine oR 6 [(106, .bool false), (105, .bool false), (104, .no), (103, .no), (102, .no), (101, .no)] kr ?_
               refine oN ?_
               cases hs
               refine nrm_join false rfl ?_
               exact cut_of [0, 1, 5, 6, 7, 9, 10, 11, 106] [3002800, 900000000, 900000001, 900000002] kr kr kr
              ·replace hs := bif_t h11 hs
               refine oR 2 [(102, .sl 1 3006500 ((y7.1).length) 0 ((y7.1).length)), (101, .sl 1 3007100 ((y9.1).length) 0 ((y9.1).length))] kr ?_
               obtain ⟨y11, c11, hs⟩ := bS hs
               refine o_loc (F := [(3006500, .row 9 1 0 (mS y7.1)), (3007100, .row 9 1 0 (mS y9.1))]) (F' := [(3006500, .row 9 1 0 (mS y7.1)), (3007100, .row 9 1 0 (mS y9.1))]) (v := .bool y11) [3006500, 3007100] kr kr rfl kr (loc_gcallB (vs := [.sl 1 3007100 ((y9.1).length) 0 ((y9.1).length), .sl 1 3006500 ((y7.1).length) 0 ((y7.1).length)]) (R := [(3006500, .row 9 1 0 (mS y7.1)), (3007100, .row 9 1 0 (mS y9.1))]) (callV_func hbv15 kr) (w_gr01_SameTexts y9.1 y7.1 _ c11) (.cons (.row (t := 9) (fz := 0) kr lh) (.cons (.row (t := 9) (fz := 0) kr lh) (.nil))) kr kr kr) kr ?_
               refine oR 3 [(106, .bool (!y11)), (105, .bool (!y11)), (104, .bool (!y11))] kr ?_
               refine oN ?_
               obtain rfl := si hs
               refine nrm_join (!y11) rfl ?_
               exact cut_of [0, 1, 5, 6, 7, 9, 10, 11, 106] [3002800, 900000000, 900000001, 900000002] kr kr kr
             ·replace hs := bif_t h10 hs
              refine o_runh 5 [(92, .sl 1 92 1 0 1), (91, .str v4.2.1), (90, .ptr 12 0 1), (89, .sl 1 3006500 ((y7.1).length) 0 ((y7.1).length)), (88, .sl 1 3007100 ((y9.1).length) 0 ((y9.1).length))] [(92, .row 9 1 0 (mS [v4.2.1])), (3002800, .gen (EV.hide sJ (stF y9.2))), (3007100, .row 9 1 0 (mS y9.1)), (3006500, .row 9 1 0 (mS y7.1)), (12, .box 52 [iI v4.1, .str v4.2.1, iI v4.2.2.1, .vs 1 (mI v4.2.2.2.1)]), (900000000, gl0 ob0), (900000001, gl1 ob1 u1), (900000002, gl2 ob2 u2)] kr ?_
              obtain ⟨_, g4, hs⟩ := bS hs; replace g4 := grd_some g4
              refine o_loc (F := [(3006500, .row 9 1 0 (mS y7.1)), (92, .row 9 1 0 (mS [v4.2.1]))]) (F' := [(3006500, .row 9 1 0 (mS (y7.1 ++ [v4.2.1]))), (92, .row 9 1 0 (mS [v4.2.1]))]) (v := .sl 1 3006500 (((y7.1 ++ [v4.2.1])).length) 0 (((y7.1 ++ [v4.2.1])).length)) [3006500, 92] kr kr rfl kr (loc_appendT (e := 9) (sz := 1) (bytes := 16) (L := (y7.1).length) (els := (mS y7.1)) (ys := (mS [v4.2.1])) kr kr (by first | exact List.length_map .. | rfl) (.sl (t := 9) (fz := 0) (ys := (mS [v4.2.1])) kr kr) (map_ones EV.encS (fun _ => rfl) _) (map_lens EV.encS (fun _ => rfl) _) kr (by first | exact (List.map_append ..).symm | rfl | simp only [List.map_nil, List.nil_append]) (List.length_map ..) g4 (by omega)) kr ?_
              obtain ⟨y12, c12, hs⟩ := bS hs
              refine o_loc (F := [(3006500, .row 9 1 0 (mS (y7.1 ++ [v4.2.1]))), (3007100, .row 9 1 0 (mS y9.1))]) (F' := [(3006500, .row 9 1 0 (mS (y7.1 ++ [v4.2.1]))), (3007100, .row 9 1 0 (mS y9.1))]) (v := .bool y12) [3006500, 3007100] kr kr rfl kr (loc_gcallB (vs := [.sl 1 3007100 ((y9.1).length) 0 ((y9.1).length), .sl 1 3006500 (((y7.1 ++ [v4.2.1])).length) 0 (((y7.1 ++ [v4.2.1])).length)]) (R := [(3006500, .row 9 1 0 (mS (y7.1 ++ [v4.2.1]))), (3007100, .row 9 1 0 (mS y9.1))]) (callV_func hbv15 kr) (w_gr01_SameTexts y9.1 (y7.1 ++ [v4.2.1]) _ c12) (.cons (.row (t := 9) (fz := 0) kr lh) (.cons (.row (t := 9) (fz := 0) kr lh) (.nil))) kr kr kr) kr ?_
              refine oR 3 [(97, .bool (!y12)), (96, .bool (!y12)), (95, .bool (!y12))] kr ?_
              cases h12 : ((!y12))
              ·replace hs := bif_f h12 hs
               refine oR 3 [(100, .bool (!(decide (y8.1 = 0)))), (99, .bool (!(decide (y8.1 = 0)))), (98, iI y8.1)] kr ?_
               cases h13 : ((!(decide (y8.1 = 0))))
               ·replace hs := bif_f h13 hs
                refine oR 6 [(106, .bool false), (105, .bool false), (104, .no), (103, .no), (102, .no), (101, .no)] kr ?_
                refine oN ?_
                cases hs
                refine nrm_join false rfl ?_
                exact cut_of [0, 1, 5, 6, 7, 9, 10, 11, 106] [3002800, 900000000, 900000001, 900000002] kr kr kr
               ·replace hs := bif_t h13 hs
                cases hs
              ·replace hs := bif_t h12 hs
               refine oR 9 [(106, .bool true), (105, .no), (104, .no), (103, .no), (102, .no), (101, .no), (100, .no), (99, .no), (98, .no)] kr ?_
               refine oN ?_
               cases hs
               refine nrm_join true rfl ?_
               exact cut_of [0, 1, 5, 6, 7, 9, 10, 11, 106] [3002800, 900000000, 900000001, 900000002] kr kr kr
            ·subst hz; clear hs; have hs := hk7; clear hk7
             refine nT ?_
             refine v_cond v7 kr (fun h14 => ?_) (fun h14 => ?_)
             ·replace hs := bif_t h14 hs
              refine vS (vT (oR 1 [(4, .bool false)] kr ?_))
              refine oN (nT (v_ret (rB (rB (ret_join ?_)))))
              refine rT (ret_fuel ?_)
              refine rB (ret_join ?_)
              refine rT ?_
              obtain rfl := si hs
              replace hs := hk3
              obtain rfl := si hs
              replace hs := hk2
              cases hs
              exact fin_ret kr kr kr
             ·replace hs := bif_f h14 hs
              refine vK (nB (nB ?_))
              obtain rfl := si hs
              refine nrm_join (q1.1, v6, q1.2.2.1, y9.2) rfl ?_
              exact cut_of [0, 1, 5, 6, 7, 9, 10, 11] [3002800, 900000000, 900000001, 900000002] kr kr kr
        ·replace hs := bif_f h6 hs
         refine vS (vT (oR 2 [(107, .bool (decide (v4.1 = 1))), (108, .bool (decide (v4.1 = 1)))] kr ?_))
         refine oN (nT ?_)
         refine v_cond (decide (v4.1 = 1)) kr (fun h15 => ?_) (fun h15 => ?_)
         ·replace hs := bif_t h15 hs
          refine vS (vS (vT (oR 1 [(109, .gv 3002800 (jpv jb q1.1))] kr ?_)))
          refine oP (v := .bool (decide (q1.1 = 0))) kr kr (loc_jpvNil_eql (k := 3002800) (a := jb) (i := q1.1) kr kr kr) ?_
          refine oN (nT ?_)
          refine v_cond (decide (q1.1 = 0)) kr (fun h16 => ?_) (fun h16 => ?_)
          ·replace hs := bif_t h16 hs
           refine v_exit (exit_thenV (exit_blkV_other rfl ?_))
           refine exit_blkV ?_
           obtain rfl := si hs
           refine nrm_join (q1.1, q1.2.1, q1.2.2.1, v4.2.2.2.2) rfl ?_
           exact cut_of [0, 1, 5, 6, 7, 9, 10, 11] [3002800, 900000000, 900000001, 900000002] kr kr kr
          ·replace hs := bif_f h16 hs
           refine vK (nT (vS (vT (oR 1 [(111, .gv 3002800 (jpv jb q1.1))] kr ?_))))
           obtain ⟨y14, c14, hs⟩ := bS hs
           refine o_loc (F := [(3002800, .gen (EV.hide sJ (stF v4.2.2.2.2))), (900000000, gl0 ob0), (900000001, gl1 ob1 u1), (900000002, gl2 ob2 u2)]) (F' := [(3002800, .gen (EV.hide sJ (stF y14.2))), (900000000, gl0 ob0), (900000001, gl1 ob1 u1), (900000002, gl2 ob2 u2)]) (v := iI y14.1) [3002800, 900000000, 900000001, 900000002] kr kr rfl kr (loc_g (R := []) [.gv 3002800 (jpv jb q1.1)] [(1000000, 3002800), (900000000, 900000000), (900000001, 900000001), (900000002, 900000002)] (callV_func hbv27 kr) (wk_sync (ob0 := ob0) (ob1 := ob1) (ob2 := ob2) (u1 := u1) (u2 := u2) v4.2.2.2.2 q1.1 _ c14) (.cons (.same _) (.nil)) kr kr kr kr kr kr kr kr) kr ?_
           refine oR 1 [(113, .bool (decide (y14.1 = 0)))] kr ?_
           refine oN (nT ?_)
           obtain ⟨z8, hs, hk8⟩ := bS hs
           refine v_join (S := (List Sr) × Wd) (fun u => u = z8) (fun u => [(0, .vs 4 (mM enc_gr03_Op l)), (1, .vs 1 (mI keep)), (5, .bool y1), (6, .gv 3002800 (hpl 1 0)), (7, .gv 3002800 (jpv jb q1.1)), (9, .vs 1 (mS q1.2.1)), (10, .vs 1 (mS u.1)), (11, iI q1.2.2.2.1)]) (fun u => [(3002800, .gen (EV.hide sJ (stF u.2))), (900000000, gl0 ob0), (900000001, gl1 ob1 u1), (900000002, gl2 ob2 u2)]) ?_ (fun v8 hz => ?_)
           ·refine v_cond (decide (y14.1 = 0)) kr (fun h17 => ?_) (fun h17 => ?_)
            ·replace hs := bif_t h17 hs
             refine vT (oR 1 [(114, .gv 3002800 (jpv jb q1.1))] kr ?_)
             obtain ⟨y15, c15, hs⟩ := bS hs
             refine o_loc (F := [(3002800, .gen (EV.hide sJ (stF y14.2))), (900000000, gl0 ob0), (900000001, gl1 ob1 u1), (900000002, gl2 ob2 u2)]) (F' := [(3002800, .gen (EV.hide sJ (stF y15.2))), (3011500, .row 9 1 0 (mS y15.1)), (900000000, gl0 ob0), (900000001, gl1 ob1 u1), (900000002, gl2 ob2 u2)]) (v := .sl 1 3011500 ((y15.1).length) 0 ((y15.1).length)) [3002800, 900000000, 900000001, 900000002] kr kr rfl kr (loc_g (R := []) [.gv 3002800 (jpv jb q1.1)] [(1000000, 3002800), (1000001, 3011500), (900000000, 900000000), (900000001, 900000001), (900000002, 900000002)] (callV_func hbv16 kr) (wk_all (ob0 := ob0) (ob1 := ob1) (ob2 := ob2) (u1 := u1) (u2 := u2) y14.2 q1.1 _ c15) (.cons (.same _) (.nil)) kr kr kr kr kr kr kr kr) kr ?_
             refine oR 1 [(10, .sl 1 3011500 ((y15.1).length) 0 ((y15.1).length))] kr ?_
             refine oN ?_
             obtain rfl := si hs
             refine nrm_join (y15.1, y15.2) rfl ?_
             exact Cut.trans (cut_freeze (F := [(3011500, .row 9 1 0 (mS y15.1))]) (ρ1 := [(3011500, .row 9 1 (((mS y15.1)).length) (mS y15.1)), (3002800, .gen (EV.hide sJ (stF y15.2))), (900000000, gl0 ob0), (900000001, gl1 ob1 u1), (900000002, gl2 ob2 u2), (12, .box 52 [iI v4.1, .str v4.2.1, iI v4.2.2.1, .vs 1 (mI v4.2.2.2.1)])]) [3011500] rfl kr kr) (Cut.trans (cut_view (t := 10) (v := .vs 1 (mS y15.1)) (R := [(3011500, .row 9 1 (((mS y15.1)).length) (mS y15.1))]) (ks := [3011500]) kr kr (.row (t := 9) (fz := (((mS y15.1)).length)) kr lh)) (cut_of [0, 1, 5, 6, 7, 9, 10, 11] [3002800, 900000000, 900000001, 900000002] kr kr kr))
            ·replace hs := bif_f h17 hs
             refine vK ?_
             obtain rfl := si hs
             refine nrm_join (q1.2.2.1, y14.2) rfl ?_
             exact cut_of [0, 1, 5, 6, 7, 9, 10, 11] [3002800, 900000000, 900000001, 900000002] kr kr kr
           ·subst hz; clear hs; have hs := hk8; clear hk8
            refine nB (nB ?_)
            obtain rfl := si hs
            refine nrm_join (q1.1, q1.2.1, v8.1, v8.2) rfl ?_
            exact cut_of [0, 1, 5, 6, 7, 9, 10, 11] [3002800, 900000000, 900000001, 900000002] kr kr kr
         ·replace hs := bif_f h15 hs
          refine vS (vT (oR 2 [(116, .bool (decide (v4.1 = 2))), (117, .bool (decide (v4.1 = 2)))] kr ?_))
          refine oN (nT ?_)
          refine v_cond (decide (v4.1 = 2)) kr (fun h18 => ?_) (fun h18 => ?_)
          ·replace hs := bif_t h18 hs
           refine vT (oR 3 [(120, iI v4.2.2.1), (119, .ptr 12 0 2), (118, .gv 3002800 (hpl 1 0))] kr ?_)
           obtain ⟨y16, c16, hs⟩ := bS hs
           refine o_loc (F := [(3002800, .gen (EV.hide sJ (stF v4.2.2.2.2))), (900000000, gl0 ob0), (900000001, gl1 ob1 u1), (900000002, gl2 ob2 u2)]) (F' := [(3002800, .gen (EV.hide sJ (stF y16.2))), (900000000, gl0 ob0), (900000001, gl1 ob1 u1), (900000002, gl2 ob2 u2)]) (v := .tup []) [3002800, 900000000, 900000001, 900000002] kr kr rfl kr (loc_g (R := []) [.gv 3002800 (hpl 1 0), iI v4.2.2.1] [(1000000, 3002800), (900000000, 900000000), (900000001, 900000001), (900000002, 900000002)] (callV_func hbv28 kr) (wk_lose (ob0 := ob0) (ob1 := ob1) (ob2 := ob2) (u1 := u1) (u2 := u2) v4.2.2.2.2 v4.2.2.1 _ c16) vw2 kr kr kr kr kr kr kr kr) kr ?_
           refine oN (nB (nB ?_))
           obtain rfl := si hs
           refine nrm_join (q1.1, q1.2.1, q1.2.2.1, y16.2) rfl ?_
           exact cut_of [0, 1, 5, 6, 7, 9, 10, 11] [3002800, 900000000, 900000001, 900000002] kr kr kr
          ·replace hs := bif_f h18 hs
           refine vS (vT (oR 2 [(122, .bool (decide (v4.1 = 3))), (123, .bool (decide (v4.1 = 3)))] kr ?_))
           refine oN (nT ?_)
           refine v_cond (decide (v4.1 = 3)) kr (fun h19 => ?_) (fun h19 => ?_)
           ·replace hs := bif_t h19 hs
            refine vT (oR 5 [(128, .vs 1 (mI v4.2.2.2.1)), (127, .ptr 12 0 3), (126, iI v4.2.2.1), (125, .ptr 12 0 2), (124, .gv 3002800 (hpl 1 0))] kr ?_)
            obtain ⟨y17, c17, hs⟩ := bS hs
            refine o_loc (F := [(3002800, .gen (EV.hide sJ (stF v4.2.2.2.2))), (900000000, gl0 ob0), (900000001, gl1 ob1 u1), (900000002, gl2 ob2 u2)]) (F' := [(3002800, .gen (EV.hide sJ (stF y17.2))), (900000000, gl0 ob0), (900000001, gl1 ob1 u1), (900000002, gl2 ob2 u2)]) (v := .tup []) [3002800, 900000000, 900000001, 900000002] kr kr rfl kr (loc_g (R := []) [.gv 3002800 (hpl 1 0), iI v4.2.2.1, .vs 1 (mI v4.2.2.2.1)] [(1000000, 3002800), (900000000, 900000000), (900000001, 900000001), (900000002, 900000002)] (callV_func hbv31 kr) (wk_arm (ob0 := ob0) (ob1 := ob1) (ob2 := ob2) (u1 := u1) (u2 := u2) v4.2.2.2.2 v4.2.2.1 v4.2.2.2.1 _ c17) vw3 kr kr kr kr kr kr kr kr) kr ?_
            refine oN (nB (nB ?_))
            obtain rfl := si hs
            refine nrm_join (q1.1, q1.2.1, q1.2.2.1, y17.2) rfl ?_
            exact cut_of [0, 1, 5, 6, 7, 9, 10, 11] [3002800, 900000000, 900000001, 900000002] kr kr kr
           ·replace hs := bif_f h19 hs
            refine vS (vS (vT (oR 2 [(130, .bool (decide (v4.1 = 4))), (131, .bool (decide (v4.1 = 4)))] kr ?_)))
            refine oN (nT ?_)
            obtain ⟨z9, hs, hk9⟩ := bS hs
            refine v_join (S := Bool) (fun u => u = z9) (fun u => [(0, .vs 4 (mM enc_gr03_Op l)), (1, .vs 1 (mI keep)), (5, .bool y1), (6, .gv 3002800 (hpl 1 0)), (7, .gv 3002800 (jpv jb q1.1)), (9, .vs 1 (mS q1.2.1)), (10, .vs 1 (mS q1.2.2.1)), (11, iI q1.2.2.2.1), (12, .ptr 12 0 0), (130, .bool u)]) (fun u => [(12, .box 52 [iI v4.1, .str v4.2.1, iI v4.2.2.1, .vs 1 (mI v4.2.2.2.1)]), (3002800, .gen (EV.hide sJ (stF v4.2.2.2.2))), (900000000, gl0 ob0), (900000001, gl1 ob1 u1), (900000002, gl2 ob2 u2)]) ?_ (fun v9 hz => ?_)
            ·refine v_cond (decide (v4.1 = 4)) kr (fun h20 => ?_) (fun h20 => ?_)
             ·replace hs := bif_t h20 hs
              refine vK ?_
              obtain rfl := si hs
              refine nrm_join (decide (v4.1 = 4)) rfl ?_
              exact cut_of [0, 1, 5, 6, 7, 9, 10, 11, 12, 130] [12, 3002800, 900000000, 900000001, 900000002] kr kr kr
             ·replace hs := bif_f h20 hs
              refine vT (oR 2 [(130, .bool (decide (v4.1 = 5))), (132, .bool (decide (v4.1 = 5)))] kr ?_)
              refine oN ?_
              obtain rfl := si hs
              refine nrm_join (decide (v4.1 = 5)) rfl ?_
              exact cut_of [0, 1, 5, 6, 7, 9, 10, 11, 12, 130] [12, 3002800, 900000000, 900000001, 900000002] kr kr kr
            ·subst hz; clear hs; have hs := hk9; clear hk9
             refine nT ?_
             refine v_cond v9 kr (fun h21 => ?_) (fun h21 => ?_)
             ·replace hs := bif_t h21 hs
              refine vS (vS (vT (oR 3 [(135, .bool (decide (v4.1 = 4))), (134, iI v4.1), (133, .ptr 12 0 0)] kr ?_)))
              refine oN (nT ?_)
              obtain ⟨z10, hs, hk10⟩ := bS hs
              refine v_join (S := Wd) (fun u => u = z10) (fun u => [(0, .vs 4 (mM enc_gr03_Op l)), (1, .vs 1 (mI keep)), (5, .bool y1), (6, .gv 3002800 (hpl 1 0)), (9, .vs 1 (mS q1.2.1)), (10, .vs 1 (mS q1.2.2.1)), (11, iI q1.2.2.2.1)]) (fun u => [(3002800, .gen (EV.hide sJ (stF u))), (900000000, gl0 ob0), (900000001, gl1 ob1 u1), (900000002, gl2 ob2 u2)]) ?_ (fun v10 hz => ?_)
              ·refine v_cond (decide (v4.1 = 4)) kr (fun h22 => ?_) (fun h22 => ?_)
               ·replace hs := bif_t h22 hs
                refine vT (oR 3 [(138, .vs 1 (mI v4.2.2.2.1)), (137, .ptr 12 0 3), (136, .gv 3002800 (hpl 1 0))] kr ?_)
                obtain ⟨y18, c18, hs⟩ := bS hs
                refine o_loc (F := [(3002800, .gen (EV.hide sJ (stF v4.2.2.2.2))), (900000000, gl0 ob0), (900000001, gl1 ob1 u1), (900000002, gl2 ob2 u2)]) (F' := [(3002800, .gen (EV.hide sJ (stF y18.2))), (900000000, gl0 ob0), (900000001, gl1 ob1 u1), (900000002, gl2 ob2 u2)]) (v := .tup []) [3002800, 900000000, 900000001, 900000002] kr kr rfl kr (loc_g (R := []) [.gv 3002800 (hpl 1 0), .vs 1 (mI v4.2.2.2.1)] [(1000000, 3002800), (900000000, 900000000), (900000001, 900000001), (900000002, 900000002)] (callV_func hbv29 kr) (wk_crash (ob0 := ob0) (ob1 := ob1) (ob2 := ob2) (u1 := u1) (u2 := u2) v4.2.2.2.2 v4.2.2.2.1 _ c18) vw2 kr kr kr kr kr kr kr kr) kr ?_
                refine oN ?_
                obtain rfl := si hs
                refine nrm_join y18.2 rfl ?_
                exact cut_of [0, 1, 5, 6, 9, 10, 11] [3002800, 900000000, 900000001, 900000002] kr kr kr
               ·replace hs := bif_f h22 hs
                refine vK ?_
                obtain rfl := si hs
                refine nrm_join v4.2.2.2.2 rfl ?_
                exact cut_of [0, 1, 5, 6, 9, 10, 11] [3002800, 900000000, 900000001, 900000002] kr kr kr
              ·subst hz; clear hs; have hs := hk10; clear hk10
               refine nT (vS (vT (oR 1 [(140, .gv 3002800 (hpl 1 0))] kr ?_)))
               obtain ⟨y19, c19, hs⟩ := bS hs
               refine o_loc (F := [(3002800, .gen (EV.hide sJ (stF v10))), (900000000, gl0 ob0), (900000001, gl1 ob1 u1), (900000002, gl2 ob2 u2)]) (F' := [(3002800, .gen (EV.hide sJ (stF y19.2))), (900000000, gl0 ob0), (900000001, gl1 ob1 u1), (900000002, gl2 ob2 u2)]) (v := .tup []) [3002800, 900000000, 900000001, 900000002] kr kr rfl kr (loc_g (R := []) [.gv 3002800 (hpl 1 0)] [(1000000, 3002800), (900000000, 900000000), (900000001, 900000001), (900000002, 900000002)] (callV_func hbv30 kr) (wk_start (ob0 := ob0) (ob1 := ob1) (ob2 := ob2) (u1 := u1) (u2 := u2) v10 _ c19) (.cons (.same _) (.nil)) kr kr kr kr kr kr kr kr) kr ?_
               refine oN (nT (vS (vT (oR 1 [(16, iI 0)] kr ?_))))
               refine oN (nT (vS (vT (oR 1 [(143, .gv 3002800 (hpl 1 0))] kr ?_))))
               obtain ⟨y20, c20, hs⟩ := bS hs
               refine o_loc (F := [(3002800, .gen (EV.hide sJ (stF y19.2))), (900000000, gl0 ob0), (900000001, gl1 ob1 u1), (900000002, gl2 ob2 u2)]) (F' := [(3002800, .gen (EV.hide sJ (stF y20.2))), (900000000, gl0 ob0), (900000001, gl1 ob1 u1), (900000002, gl2 ob2 u2)]) (v := .tup [.gv 3002800 (jpv jb y20.1.1), iI y20.1.2]) [3002800, 900000000, 900000001, 900000002] kr kr rfl kr (loc_g (R := []) [.gv 3002800 (hpl 1 0), iI 3] [(1000000, 3002800), (900000000, 900000000), (900000001, 900000001), (900000002, 900000002)] (callV_func hbv10 kr) (wk_open (ob0 := ob0) (ob1 := ob1) (ob2 := ob2) (u1 := u1) (u2 := u2) y19.2 3 _ c20) vw2 kr kr kr kr kr kr kr kr) kr ?_
               refine oR 5 [(16, iI y20.1.2), (7, .gv 3002800 (jpv jb y20.1.1)), (146, iI y20.1.2), (145, .gv 3002800 (jpv jb y20.1.1)), (142, .tup [.gv 3002800 (jpv jb y20.1.1), iI y20.1.2])] kr ?_
               refine oN (nT (vS (vS (vT (oR 1 [(147, .gv 3002800 (jpv jb y20.1.1))] kr ?_)))))
               refine oP (v := .bool (decide (y20.1.1 = 0))) kr kr (loc_jpvNil_eql (k := 3002800) (a := jb) (i := y20.1.1) kr kr kr) ?_
               refine oN (nT ?_)
               refine v_cond (decide (y20.1.1 = 0)) kr (fun h23 => ?_) (fun h23 => ?_)
               ·replace hs := bif_t h23 hs
                refine vS (vS ?_)
                obtain ⟨z11, hs, hk11⟩ := bS hs
                refine v_join (S := Bool) (fun u => u = z11) (fun u => [(0, .vs 4 (mM enc_gr03_Op l)), (1, .vs 1 (mI keep)), (5, .bool y1), (6, .gv 3002800 (hpl 1 0)), (7, .gv 3002800 (jpv jb y20.1.1)), (9, .vs 1 (mS q1.2.1)), (10, .vs 1 (mS q1.2.2.1)), (11, iI q1.2.2.2.1), (157, .bool u)]) (fun u => [(3002800, .gen (EV.hide sJ (stF y20.2))), (900000000, gl0 ob0), (900000001, gl1 ob1 u1), (900000002, gl2 ob2 u2)]) ?_ (fun v11 hz => ?_)
                ·refine vT (oR 1 [(149, iI y20.1.2)] kr ?_)
                 obtain ⟨y21, c21, hs⟩ := bS hs
                 refine oP (v := .bool y21) kr kr (loc_gcall0 (callV_func hbv32 kr) (w_gl03_disky y20.1.2 _ c21) kr) ?_
                 refine oR 2 [(152, .bool (!y21)), (151, .bool (!y21))] kr ?_
                 cases h24 : ((!y21))
                 ·replace hs := bif_f h24 hs
                  refine oR 2 [(154, .vs 4 (mM enc_gr03_Op l)), (153, iI q1.2.2.2.1)] kr ?_
                  refine oP (v := iI (List.length l : Int)) kr kr (loc_lenVs (sz := 4) (els := (mM enc_gr03_Op l)) kr kr lM) ?_
                  refine oR 2 [(157, .bool (decide (q1.2.2.2.1 = (List.length l : Int)))), (156, .bool (decide (q1.2.2.2.1 = (List.length l : Int))))] kr ?_
                  refine oN ?_
                  obtain rfl := si hs
                  refine nrm_join (decide (q1.2.2.2.1 = (List.length l : Int))) rfl ?_
                  exact cut_of [0, 1, 5, 6, 7, 9, 10, 11, 157] [3002800, 900000000, 900000001, 900000002] kr kr kr
                 ·replace hs := bif_t h24 hs
                  refine oR 5 [(157, .bool true), (156, .no), (155, .no), (154, .no), (153, .no)] kr ?_
                  refine oN ?_
                  cases hs
                  refine nrm_join true rfl ?_
                  exact cut_of [0, 1, 5, 6, 7, 9, 10, 11, 157] [3002800, 900000000, 900000001, 900000002] kr kr kr
                ·subst hz; clear hs; have hs := hk11; clear hk11
                 refine nT ?_
                 refine v_cond v11 kr (fun h25 => ?_) (fun h25 => ?_)
                 ·replace hs := bif_t h25 hs
                  refine vS (vT (oR 1 [(4, .bool false)] kr ?_))
                  refine oN (nT (v_ret (rT (rT (rB (rB (ret_join ?_)))))))
                  refine rT (ret_fuel ?_)
                  refine rB (ret_join ?_)
                  refine rT ?_
                  obtain rfl := si hs
                  replace hs := hk3
                  obtain rfl := si hs
                  replace hs := hk2
                  cases hs
                  exact fin_ret kr kr kr
                 ·replace hs := bif_f h25 hs
                  refine vK (nT (v_exit (exit_thenV (exit_blkV_other rfl ?_))))
                  refine exit_blkV ?_
                  obtain rfl := si hs
                  refine nrm_join (y20.1.1, q1.2.1, q1.2.2.1, y20.2) rfl ?_
                  exact cut_of [0, 1, 5, 6, 7, 9, 10, 11] [3002800, 900000000, 900000001, 900000002] kr kr kr
               ·replace hs := bif_f h23 hs
                refine vK (nT (vS (vT (oR 1 [(158, .gv 3002800 (jpv jb y20.1.1))] kr ?_))))
                obtain ⟨y22, c22, hs⟩ := bS hs
                refine o_loc (F := [(3002800, .gen (EV.hide sJ (stF y20.2))), (900000000, gl0 ob0), (900000001, gl1 ob1 u1), (900000002, gl2 ob2 u2)]) (F' := [(3002800, .gen (EV.hide sJ (stF y22.2))), (3015900, .row 9 1 0 (mS y22.1)), (900000000, gl0 ob0), (900000001, gl1 ob1 u1), (900000002, gl2 ob2 u2)]) (v := .sl 1 3015900 ((y22.1).length) 0 ((y22.1).length)) [3002800, 900000000, 900000001, 900000002] kr kr rfl kr (loc_g (R := []) [.gv 3002800 (jpv jb y20.1.1)] [(1000000, 3002800), (1000001, 3015900), (900000000, 900000000), (900000001, 900000001), (900000002, 900000002)] (callV_func hbv16 kr) (wk_all (ob0 := ob0) (ob1 := ob1) (ob2 := ob2) (u1 := u1) (u2 := u2) y20.2 y20.1.1 _ c22) (.cons (.same _) (.nil)) kr kr kr kr kr kr kr kr) kr ?_
                refine oR 1 [(17, .sl 1 3015900 ((y22.1).length) 0 ((y22.1).length))] kr ?_
                refine oN (nT (vS (vS ?_)))
                obtain ⟨z12, hs, hk12⟩ := bS hs
                refine v_join (S := Bool) (fun u => u = z12) (fun u => [(0, .vs 4 (mM enc_gr03_Op l)), (1, .vs 1 (mI keep)), (5, .bool y1), (6, .gv 3002800 (hpl 1 0)), (7, .gv 3002800 (jpv jb y20.1.1)), (11, iI q1.2.2.2.1), (17, .sl 1 3015900 ((y22.1).length) 0 ((y22.1).length)), (173, .bool u)]) (fun u => [(3015900, .row 9 1 0 (mS y22.1)), (3002800, .gen (EV.hide sJ (stF y22.2))), (900000000, gl0 ob0), (900000001, gl1 ob1 u1), (900000002, gl2 ob2 u2)]) ?_ (fun v12 hz => ?_)
                ·refine vT (oR 3 [(162, .bool (!(decide (y20.1.2 = 0)))), (161, .bool (!(decide (y20.1.2 = 0)))), (160, iI y20.1.2)] kr ?_)
                 cases h26 : ((!(decide (y20.1.2 = 0))))
                 ·replace hs := bif_f h26 hs
                  refine oR 2 [(164, .sl 1 3015900 ((y22.1).length) 0 ((y22.1).length)), (163, .vs 1 (mS q1.2.1))] kr ?_
                  obtain ⟨y23, c23, hs⟩ := bS hs
                  refine o_loc (F := [(3015900, .row 9 1 0 (mS y22.1))]) (F' := [(3015900, .row 9 1 0 (mS y22.1))]) (v := .bool y23) [3015900] kr kr rfl kr (loc_gcallB (vs := [.vs 1 (mS q1.2.1), .sl 1 3015900 ((y22.1).length) 0 ((y22.1).length)]) (R := [(3015900, .row 9 1 0 (mS y22.1))]) (callV_func hbv33 kr) (w_gl03_begins q1.2.1 y22.1 _ c23) (.cons (.same _) (.cons (.row (t := 9) (fz := 0) kr lh) (.nil))) kr kr kr) kr ?_
                  refine oR 3 [(168, .bool (!y23)), (167, .bool (!y23)), (166, .bool (!y23))] kr ?_
                  cases h27 : ((!y23))
                  ·replace hs := bif_f h27 hs
                   refine oR 2 [(170, .vs 1 (mS q1.2.2.1)), (169, .sl 1 3015900 ((y22.1).length) 0 ((y22.1).length))] kr ?_
                   obtain ⟨y24, c24, hs⟩ := bS hs
                   refine o_loc (F := [(3015900, .row 9 1 0 (mS y22.1))]) (F' := [(3015900, .row 9 1 0 (mS y22.1))]) (v := .bool y24) [3015900] kr kr rfl kr (loc_gcallB (vs := [.sl 1 3015900 ((y22.1).length) 0 ((y22.1).length), .vs 1 (mS q1.2.2.1)]) (R := [(3015900, .row 9 1 0 (mS y22.1))]) (callV_func hbv33 kr) (w_gl03_begins y22.1 q1.2.2.1 _ c24) (.cons (.row (t := 9) (fz := 0) kr lh) (.cons (.same _) (.nil))) kr kr kr) kr ?_
                   refine oR 2 [(173, .bool (!y24)), (172, .bool (!y24))] kr ?_
                   refine oN ?_
                   obtain rfl := si hs
                   refine nrm_join (!y24) rfl ?_
                   exact cut_of [0, 1, 5, 6, 7, 11, 17, 173] [3015900, 3002800, 900000000, 900000001, 900000002] kr kr kr
                  ·replace hs := bif_t h27 hs
                   refine oR 5 [(173, .bool true), (172, .no), (171, .no), (170, .no), (169, .no)] kr ?_
                   refine oN ?_
                   cases hs
                   refine nrm_join true rfl ?_
                   exact cut_of [0, 1, 5, 6, 7, 11, 17, 173] [3015900, 3002800, 900000000, 900000001, 900000002] kr kr kr
                 ·replace hs := bif_t h26 hs
                  refine oR 11 [(173, .bool true), (172, .no), (171, .no), (170, .no), (169, .no), (168, .bool true), (167, .bool true), (166, .no), (165, .no), (164, .no), (163, .no)] kr ?_
                  refine oN ?_
                  cases hs
                  refine nrm_join true rfl ?_
                  exact cut_of [0, 1, 5, 6, 7, 11, 17, 173] [3015900, 3002800, 900000000, 900000001, 900000002] kr kr kr
                ·subst hz; clear hs; have hs := hk12; clear hk12
                 refine nT ?_
                 refine v_cond v12 kr (fun h28 => ?_) (fun h28 => ?_)
                 ·replace hs := bif_t h28 hs
                  refine vS (vT (oR 1 [(4, .bool false)] kr ?_))
                  refine oN (nT (v_ret (rT (rB (rB (ret_join ?_))))))
                  refine rT (ret_fuel ?_)
                  refine rB (ret_join ?_)
                  refine rT ?_
                  obtain rfl := si hs
                  replace hs := hk3
                  obtain rfl := si hs
                  replace hs := hk2
                  cases hs
                  exact fin_ret kr kr kr
                 ·replace hs := bif_f h28 hs
                  refine vK (nT (vS (vT (oR 2 [(9, .sl 1 3015900 ((y22.1).length) 0 ((y22.1).length)), (174, .sl 1 3015900 ((y22.1).length) 0 ((y22.1).length))] kr ?_))))
                  refine oN (nT (vT (oR 2 [(10, .sl 1 3015900 ((y22.1).length) 0 ((y22.1).length)), (175, .sl 1 3015900 ((y22.1).length) 0 ((y22.1).length))] kr ?_)))
                  refine oN (nB (nB ?_))
                  obtain rfl := si hs
                  refine nrm_join (y20.1.1, y22.1, y22.1, y22.2) rfl ?_
                  exact Cut.trans (cut_freeze (F := [(3015900, .row 9 1 0 (mS y22.1))]) (ρ1 := [(3015900, .row 9 1 (((mS y22.1)).length) (mS y22.1)), (3002800, .gen (EV.hide sJ (stF y22.2))), (900000000, gl0 ob0), (900000001, gl1 ob1 u1), (900000002, gl2 ob2 u2)]) [3015900] rfl kr kr) (Cut.trans (cut_view (t := 9) (v := .vs 1 (mS y22.1)) (R := [(3015900, .row 9 1 (((mS y22.1)).length) (mS y22.1))]) (ks := [3015900]) kr kr (.row (t := 9) (fz := (((mS y22.1)).length)) kr lh)) (Cut.trans (cut_view (t := 10) (v := .vs 1 (mS y22.1)) (R := [(3015900, .row 9 1 (((mS y22.1)).length) (mS y22.1))]) (ks := [3015900]) kr kr (.row (t := 9) (fz := (((mS y22.1)).length)) kr lh)) (cut_of [0, 1, 5, 6, 7, 9, 10, 11] [3002800, 900000000, 900000001, 900000002] kr kr kr)))
             ·replace hs := bif_f h21 hs
              refine vK (nB (nB ?_))
              obtain rfl := si hs
              refine nrm_join (q1.1, q1.2.1, q1.2.2.1, v4.2.2.2.2) rfl ?_
              exact cut_of [0, 1, 5, 6, 7, 9, 10, 11] [3002800, 900000000, 900000001, 900000002] kr kr kr
      ·subst hz; clear hs; have hs := hk3; clear hk3
       refine nT (vT (oR 3 [(11, iI (w64 (q1.2.2.2.1 + 1))), (43, iI (w64 (q1.2.2.2.1 + 1))), (42, iI q1.2.2.2.1)] kr ?_))
       refine oN (nrm_fuel (v3.1, v3.2.1, v3.2.2.1, (w64 (q1.2.2.2.1 + 1)), v3.2.2.2) hs ?_)
       exact cut_of [0, 1, 5, 6, 7, 9, 10, 11] [3002800, 900000000, 900000001, 900000002] kr kr kr
     ·replace hs := bif_f h4 hs
      refine v_exit (exit_thenV (exit_fuel ?_))
      refine exit_blkV ?_
      cases hs
      refine nrm_join () rfl ?_
      exact cut_of [5] kG kr kr kr
    ·subst hz; clear hs; have hs := hk2; clear hk2
     refine nT (vS (vT (oR 2 [(4, .bool y1), (176, .bool y1)] kr ?_)))
     refine oN (nT (v_ret ?_))
     cases hs
     exact fin_ret kr kr kr
end Go.Proofs.YtoflckochjijcaaDoor
