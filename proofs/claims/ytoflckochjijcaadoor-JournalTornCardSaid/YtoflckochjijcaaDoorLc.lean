/- Walks; printed by laws.py. -/
import Derived.Test.YtoflckochjijcaaDoorH
import Derived.Test.YtoflckochjijcaaDoorEvThree
import Derived.Test.YtoflckochjijcaaDoorLcD
import Derived.Test.YtoflckochjijcaaDoorLa
import Derived.Test.YtoflckochjijcaaDoorLb
set_option linter.all false
set_option maxRecDepth 100000
namespace Go.Proofs.YtoflckochjijcaaDoor
open Go Go.RowKit Go.Eng Go.EV
variable [Fuel]
variable {ob0 ob1 ob2 : Go.Obj} {u1 u2 : TypeId}
theorem w_greenbeltlaw03_JournalTorn (l : (List (List UInt8))) (size : Int) (zero : (List Int)) (r : Bool) (hs : s_greenbeltlaw03_JournalTorn l size zero = some r) : FnA Tryd.prog 3 [.vs 1 (mS l), iI size, .vs 1 (mI zero)] (gO ob0 ob1 ob2 u1 u2) (.bool r) (gO ob0 ob1 ob2 u1 u2) := by
 refine fnA_of_wp (N := 191) Tryd.func3 rfl rfl rfl fun cK0 => ?_
 unfold s_greenbeltlaw03_JournalTorn at hs
 refine v_same (ρ' := [(0, .vs 1 (mS l)), (1, iI size), (2, .vs 1 (mI zero))]) rfl rfl ?_
 refine vS (vT (oR 1 [(6, .bool false)] kr ?_))
 refine oN (nT (vS (vT ?_)))
 obtain ⟨y1, c1, hs⟩ := bS hs
 refine o_loc (F := (gO ob0 ob1 ob2 u1 u2)) (F' := (gO ob0 ob1 ob2 u1 u2)) (v := .bool y1) kG kr kr rfl kr (loc_gcallL (vs := []) (G := (gO ob0 ob1 ob2 u1 u2)) (R := []) (callV_func hbv7 kr) (w_greenbeltlaw03_small (ob0 := ob0) (ob1 := ob1) (ob2 := ob2) (u1 := u1) (u2 := u2)  _ c1) kr (.nil) kr kr kr) kr ?_
 refine oR 1 [(7, .bool y1)] kr ?_
 refine oN (nT (vS (vS ?_)))
 obtain ⟨z1, hs, hk1⟩ := bS hs
 refine v_join (S := Bool) (fun u => u = z1) (fun u => [(0, .vs 1 (mS l)), (1, iI size), (2, .vs 1 (mI zero)), (7, .bool y1), (29, .bool u)]) (fun u => (gO ob0 ob1 ob2 u1 u2)) ?_ (fun v1 hz => ?_)
 ·refine vT (oR 1 [(22, .vs 1 (mS l))] kr ?_)
  obtain ⟨y2, c2, hs⟩ := bS hs
  refine oP (v := .bool y2) kr kr (loc_gcall0 (callV_func hbv8 kr) (w_greenbeltlaw03_texts l _ c2) kr) ?_
  refine oR 2 [(25, .bool (!y2)), (24, .bool (!y2))] kr ?_
  cases h1 : ((!y2))
  ·replace hs := bif_f h1 hs
   refine oR 1 [(26, .vs 1 (mI zero))] kr ?_
   refine oP (v := iI (List.length zero : Int)) kr kr (loc_lenVs (sz := 1) (els := (mI zero)) kr kr (List.length_map ..)) ?_
   refine oR 2 [(29, .bool (decide ((List.length zero : Int) > 50))), (28, .bool (decide ((List.length zero : Int) > 50)))] kr ?_
   refine oN ?_
   obtain rfl := si hs
   refine nrm_join (decide ((List.length zero : Int) > 50)) rfl ?_
   exact cut_of [0, 1, 2, 7, 29] kG kr kr kr
  ·replace hs := bif_t h1 hs
   refine oR 4 [(29, .bool true), (28, .no), (27, .no), (26, .no)] kr ?_
   refine oN ?_
   obtain rfl := si hs
   refine nrm_join true rfl ?_
   exact cut_of [0, 1, 2, 7, 29] kG kr kr kr
 ·subst hz; clear hs; have hs := hk1; clear hk1
  refine nT ?_
  refine v_cond v1 kr (fun h2 => ?_) (fun h2 => ?_)
  ·replace hs := bif_t h2 hs
   refine vS (vT (oR 2 [(6, .bool y1), (30, .bool y1)] kr ?_))
   refine oN (nT (v_ret (rT ?_)))
   obtain rfl := si hs
   exact fin_ret kr kr kr
  ·replace hs := bif_f h2 hs
   refine vK (nT (vS (vT ?_)))
   obtain ⟨y3, c3, hs⟩ := bS hs
   refine o_loc (F := []) (F' := [(3003100, .gen (EV.hide sJ (stF y3.2)))]) (v := .gv 3003100 (hpl 1 0)) [] kr kr rfl kr (loc_g (R := []) [] [(1000000, 3003100)] (callV_func hbv9 kr) (wk_new _ c3) (.nil) kr kr kr kr kr kr kr kr) kr ?_
   refine oR 1 [(8, .gv 3003100 (hpl 1 0))] kr ?_
   refine oN (nT (vS (vS (vT (oR 1 [(32, .gv 3003100 (hpl 1 0))] kr ?_)))))
   refine oP (v := .bool false) kr kr (loc_hplNil_eql (k := 3003100) (b := 1) (off := 0) kr kr kr) ?_
   refine oN (nT (v_cond_f kr ?_))
   refine vK (nT (vS (vT (oR 1 [(35, .gv 3003100 (hpl 1 0))] kr ?_))))
   obtain ⟨y4, c4, hs⟩ := bS hs
   refine o_loc (F := [(3003100, .gen (EV.hide sJ (stF y3.2))), (900000000, gl0 ob0), (900000001, gl1 ob1 u1), (900000002, gl2 ob2 u2)]) (F' := [(3003100, .gen (EV.hide sJ (stF y4.2))), (900000000, gl0 ob0), (900000001, gl1 ob1 u1), (900000002, gl2 ob2 u2)]) (v := .tup [.gv 3003100 (jpv jb y4.1.1), iI y4.1.2]) [3003100, 900000000, 900000001, 900000002] kr kr rfl kr (loc_g (R := []) [.gv 3003100 (hpl 1 0), iI 0] [(1000000, 3003100), (900000000, 900000000), (900000001, 900000001), (900000002, 900000002)] (callV_func hbv10 kr) (wk_open (ob0 := ob0) (ob1 := ob1) (ob2 := ob2) (u1 := u1) (u2 := u2) y3.2 0 _ c4) vw2 kr kr kr kr kr kr kr kr) kr ?_
   refine oR 5 [(10, iI y4.1.2), (9, .gv 3003100 (jpv jb y4.1.1)), (38, iI y4.1.2), (37, .gv 3003100 (jpv jb y4.1.1)), (34, .tup [.gv 3003100 (jpv jb y4.1.1), iI y4.1.2])] kr ?_
   refine oN (nT (vS (vS (vT (oR 1 [(39, .gv 3003100 (jpv jb y4.1.1))] kr ?_)))))
   refine oP (v := .bool (decide (y4.1.1 = 0))) kr kr (loc_jpvNil_eql (k := 3003100) (a := jb) (i := y4.1.1) kr kr kr) ?_
   refine oN (nT ?_)
   refine v_cond (decide (y4.1.1 = 0)) kr (fun h3 => ?_) (fun h3 => ?_)
   ·replace hs := bif_t h3 hs
    refine vS (vT (oR 1 [(6, .bool false)] kr ?_))
    refine oN (nT (v_ret (rT ?_)))
    obtain rfl := si hs
    exact fin_ret kr kr kr
   ·replace hs := bif_f h3 hs
    refine vK (nT (vS (vT (oR 1 [(11, .nils)] kr ?_))))
    refine oN (nT (vS (vS (vT (oR 1 [(12, iI 0)] kr ?_)))))
    refine oN (nT ?_)
    obtain ⟨z2, hs, hk2⟩ := bS hs
    refine v_join (S := Wd × (List Int)) (fun u => z2 = .inr u) (fun u => [(0, .vs 1 (mS l)), (1, iI size), (2, .vs 1 (mI zero)), (7, .bool y1), (8, .gv 3003100 (hpl 1 0)), (11, .sl 1 2000054 ((u.2).length) 0 ((u.2).length))]) (fun u => [(3003100, .gen (EV.hide sJ (stF u.1))), (2000054, .row 3 1 0 (mI u.2)), (900000000, gl0 ob0), (900000001, gl1 ob1 u1), (900000002, gl2 ob2 u2)]) ?_ (fun v2 hz => ?_)
    ·refine vB ?_
     refine v_fuel (S := Int × Wd × (List Int)) (fun u => [(0, .vs 1 (mS l)), (1, iI size), (2, .vs 1 (mI zero)), (7, .bool y1), (8, .gv 3003100 (hpl 1 0)), (9, .gv 3003100 (jpv jb y4.1.1)), (11, .sl 1 2000054 ((u.2.2).length) 0 ((u.2.2).length)), (12, iI u.1)]) (fun u => [(3003100, .gen (EV.hide sJ (stF u.2.1))), (2000054, .row 3 1 0 (mI u.2.2)), (900000000, gl0 ob0), (900000001, gl1 ob1 u1), (900000002, gl2 ob2 u2)]) (s_greenbeltlaw03_JournalTorn_L1 l y4) (fun _ => rfl) KK (0, y4.2, []) hs (Cut.trans (cut_nilRow 11 2000054 3 1 rfl kr kr) (cut_of [0, 1, 2, 7, 8, 9, 11, 12] [3003100, 2000054, 900000000, 900000001, 900000002] kr kr kr)) (fun K1 q1 hs => ?_)
     rw [s_greenbeltlaw03_JournalTorn_L1] at hs
     show WpV cK0 Tryd.prog none 191 _ _ [(0, .vs 1 (mS l)), (1, iI size), (2, .vs 1 (mI zero)), (7, .bool y1), (8, .gv 3003100 (hpl 1 0)), (9, .gv 3003100 (jpv jb y4.1.1)), (11, .sl 1 2000054 ((q1.2.2).length) 0 ((q1.2.2).length)), (12, iI q1.1)] [(3003100, .gen (EV.hide sJ (stF q1.2.1))), (2000054, .row 3 1 0 (mI q1.2.2)), (900000000, gl0 ob0), (900000001, gl1 ob1 u1), (900000002, gl2 ob2 u2)] []
     refine vS (vS (vT (oR 2 [(42, .vs 1 (mS l)), (41, iI q1.1)] kr ?_)))
     refine oP (v := iI (List.length l : Int)) kr kr (loc_lenVs (sz := 1) (els := (mS l)) kr kr (List.length_map ..)) ?_
     refine oR 1 [(44, .bool (decide (q1.1 < (List.length l : Int))))] kr ?_
     refine oN (nT ?_)
     refine v_cond (decide (q1.1 < (List.length l : Int))) kr (fun h4 => ?_) (fun h4 => ?_)
     ·replace hs := bif_t h4 hs
      refine vK (nT (vS (vB (vS (vS (vT (oR 3 [(49, iI q1.1), (48, .vs 1 (mS l)), (47, .gv 3003100 (jpv jb y4.1.1))] kr ?_)))))))
      obtain ⟨x1, g1, hs⟩ := bS hs; obtain ⟨g1a, g1b, g1c⟩ := idx_some g1
      refine oP (v := .vp [.str x1] 0) kr kr (loc_indexVs (e := 9) (sz := 1) (k := .i64) (els := (mS l)) (cs := (EV.encS x1)) kr kr kr g1a (by rw [g1c]; exact map_get _ (by omega))) ?_
      refine oR 1 [(51, .str x1)] kr ?_
      obtain ⟨y5, c5, hs⟩ := bS hs
      refine o_loc (F := [(3003100, .gen (EV.hide sJ (stF q1.2.1))), (900000000, gl0 ob0), (900000001, gl1 ob1 u1), (900000002, gl2 ob2 u2)]) (F' := [(3003100, .gen (EV.hide sJ (stF y5.2))), (900000000, gl0 ob0), (900000001, gl1 ob1 u1), (900000002, gl2 ob2 u2)]) (v := iI y5.1) [3003100, 900000000, 900000001, 900000002] kr kr rfl kr (loc_g (R := []) [.gv 3003100 (jpv jb y4.1.1), .str x1] [(1000000, 3003100), (900000000, 900000000), (900000001, 900000001), (900000002, 900000002)] (callV_func hbv11 kr) (wk_append (ob0 := ob0) (ob1 := ob1) (ob2 := ob2) (u1 := u1) (u2 := u2) q1.2.1 y4.1.1 x1 _ c5) vw2 kr kr kr kr kr kr kr kr) kr ?_
      refine oR 1 [(53, .bool (!(decide (y5.1 = 0))))] kr ?_
      refine oN (nT ?_)
      refine v_cond (!(decide (y5.1 = 0))) kr (fun h5 => ?_) (fun h5 => ?_)
      ·replace hs := bif_t h5 hs
       refine vS (vT (oR 1 [(6, .bool false)] kr ?_))
       refine oN (nT (v_ret (rT (rB (rT (ret_fuel ?_))))))
       refine rB (ret_join ?_)
       refine rT ?_
       obtain rfl := si hs
       replace hs := hk2
       obtain rfl := si hs
       exact fin_ret kr kr kr
      ·replace hs := bif_f h5 hs
       refine vK (nT (vT (oR 2 [(55, .gv 3003100 (hpl 1 0)), (54, .sl 1 2000054 ((q1.2.2).length) 0 ((q1.2.2).length))] kr ?_)))
       obtain ⟨y6, c6, hs⟩ := bS hs
       refine o_loc (F := [(3003100, .gen (EV.hide sJ (stF y5.2))), (900000000, gl0 ob0), (900000001, gl1 ob1 u1), (900000002, gl2 ob2 u2)]) (F' := [(3003100, .gen (EV.hide sJ (stF y6.2))), (900000000, gl0 ob0), (900000001, gl1 ob1 u1), (900000002, gl2 ob2 u2)]) (v := iI y6.1) [3003100, 900000000, 900000001, 900000002] kr kr rfl kr (loc_g (R := []) [.gv 3003100 (hpl 1 0), iI 0] [(1000000, 3003100), (900000000, 900000000), (900000001, 900000001), (900000002, 900000002)] (callV_func hbv12 kr) (wk_size (ob0 := ob0) (ob1 := ob1) (ob2 := ob2) (u1 := u1) (u2 := u2) y5.2 0 _ c6) vw2 kr kr kr kr kr kr kr kr) kr ?_
       refine o_runh 1 [(57, .sl 1 57 1 0 1)] [(57, .row 3 1 0 (mI [y6.1])), (3003100, .gen (EV.hide sJ (stF y6.2))), (900000000, gl0 ob0), (900000001, gl1 ob1 u1), (900000002, gl2 ob2 u2), (2000054, .row 3 1 0 (mI q1.2.2))] kr ?_
       obtain ⟨_, g2, hs⟩ := bS hs; replace g2 := grd_some g2
       refine o_loc (F := [(2000054, .row 3 1 0 (mI q1.2.2)), (57, .row 3 1 0 (mI [y6.1]))]) (F' := [(2000054, .row 3 1 0 (mI (q1.2.2 ++ [y6.1]))), (57, .row 3 1 0 (mI [y6.1]))]) (v := .sl 1 2000054 (((q1.2.2 ++ [y6.1])).length) 0 (((q1.2.2 ++ [y6.1])).length)) [2000054, 57] kr kr rfl kr (loc_appendT (e := 3) (sz := 1) (bytes := 8) (L := (q1.2.2).length) (els := (mI q1.2.2)) (ys := (mI [y6.1])) kr kr (by first | exact List.length_map .. | rfl) (.sl (t := 3) (fz := 0) (ys := (mI [y6.1])) kr kr) (map_ones EV.encI (fun _ => rfl) _) (map_lens EV.encI (fun _ => rfl) _) kr (by first | exact (List.map_append ..).symm | rfl | simp only [List.map_nil, List.nil_append]) (List.length_map ..) g2 (by omega)) kr ?_
       refine oR 1 [(11, .sl 1 2000054 (((q1.2.2 ++ [y6.1])).length) 0 (((q1.2.2 ++ [y6.1])).length))] kr ?_
       refine oN (nB (nT (vT (oR 3 [(12, iI (w64 (q1.1 + 1))), (46, iI (w64 (q1.1 + 1))), (45, iI q1.1)] kr ?_))))
       refine oN (nrm_fuel ((w64 (q1.1 + 1)), y6.2, (q1.2.2 ++ [y6.1])) hs ?_)
       exact cut_of [0, 1, 2, 7, 8, 9, 11, 12] [3003100, 2000054, 900000000, 900000001, 900000002] kr kr kr
     ·replace hs := bif_f h4 hs
      refine v_exit (exit_thenV (exit_fuel ?_))
      refine exit_blkV ?_
      obtain rfl := si hs
      refine nrm_join (q1.2.1, q1.2.2) rfl ?_
      exact cut_of [0, 1, 2, 7, 8, 11] [3003100, 2000054, 900000000, 900000001, 900000002] kr kr kr
    ·subst hz; clear hs; have hs := hk2; clear hk2
     refine nT (vS (vT (oR 2 [(61, .gv 3003100 (hpl 1 0)), (60, .gv 3003100 (hpl 1 0))] kr ?_)))
     obtain ⟨y7, c7, hs⟩ := bS hs
     refine o_loc (F := [(3003100, .gen (EV.hide sJ (stF v2.1))), (900000000, gl0 ob0), (900000001, gl1 ob1 u1), (900000002, gl2 ob2 u2)]) (F' := [(3003100, .gen (EV.hide sJ (stF y7.2))), (900000000, gl0 ob0), (900000001, gl1 ob1 u1), (900000002, gl2 ob2 u2)]) (v := iI y7.1) [3003100, 900000000, 900000001, 900000002] kr kr rfl kr (loc_g (R := []) [.gv 3003100 (hpl 1 0), iI 0] [(1000000, 3003100), (900000000, 900000000), (900000001, 900000001), (900000002, 900000002)] (callV_func hbv12 kr) (wk_size (ob0 := ob0) (ob1 := ob1) (ob2 := ob2) (u1 := u1) (u2 := u2) v2.1 0 _ c7) vw2 kr kr kr kr kr kr kr kr) kr ?_
     obtain ⟨y8, c8, hs⟩ := bS hs
     refine o_loc (F := [(3003100, .gen (EV.hide sJ (stF y7.2))), (900000000, gl0 ob0), (900000001, gl1 ob1 u1), (900000002, gl2 ob2 u2)]) (F' := [(3003100, .gen (EV.hide sJ (stF y8.2))), (900000000, gl0 ob0), (900000001, gl1 ob1 u1), (900000002, gl2 ob2 u2)]) (v := .tup [.str y8.1.1, iI y8.1.2]) [3003100, 900000000, 900000001, 900000002] kr kr rfl kr (loc_g (R := []) [.gv 3003100 (hpl 1 0), iI 0, iI 0, iI y7.1] [(1000000, 3003100), (900000000, 900000000), (900000001, 900000001), (900000002, 900000002)] (callV_func hbv13 kr) (wk_read (ob0 := ob0) (ob1 := ob1) (ob2 := ob2) (u1 := u1) (u2 := u2) y7.2 0 0 y7.1 _ c8) (.cons (.same _) vw3) kr kr kr kr kr kr kr kr) kr ?_
     refine oR 5 [(14, iI y8.1.2), (13, .str y8.1.1), (65, iI y8.1.2), (64, .str y8.1.1), (59, .tup [.str y8.1.1, iI y8.1.2])] kr ?_
     refine oN (nT (vS (vT (oR 1 [(66, .str y8.1.1)] kr ?_))))
     obtain ⟨_, g3, hs⟩ := bS hs; replace g3 := grd_some g3
     refine o_loc (F := []) (F' := [(67, .row 5 1 0 (List.map (encK .u8) (intsOf y8.1.1)))]) (v := .sl 1 67 (((intsOf y8.1.1)).length) 0 (((intsOf y8.1.1)).length)) [] kr kr rfl kr (loc_strBytesT (s := 9) (d := 36) (e := 5) (k := 67) (L := ((intsOf y8.1.1)).length) (l := y8.1.1) kr kr g3 rfl) kr ?_
     refine oR 1 [(15, .sl 1 67 (((intsOf y8.1.1)).length) 0 (((intsOf y8.1.1)).length))] kr ?_
     refine oN (nT (vS (vS (vT (oR 1 [(16, iI 0)] kr ?_)))))
     refine oN (nT ?_)
     obtain ⟨z3, hs, hk3⟩ := bS hs
     refine v_join (S := (List Int)) (fun u => u = z3) (fun u => [(0, .vs 1 (mS l)), (1, iI size), (7, .bool y1), (8, .gv 3003100 (hpl 1 0)), (11, .sl 1 2000054 ((v2.2).length) 0 ((v2.2).length)), (13, .str y8.1.1), (15, .sl 1 67 ((u).length) 0 ((u).length))]) (fun u => [(67, .row 5 1 0 (List.map (encK .u8) u)), (3003100, .gen (EV.hide sJ (stF y8.2))), (2000054, .row 3 1 0 (mI v2.2)), (900000000, gl0 ob0), (900000001, gl1 ob1 u1), (900000002, gl2 ob2 u2)]) ?_ (fun v3 hz => ?_)
     ·refine vB ?_
      refine v_fuel (S := Int × (List Int)) (fun u => [(0, .vs 1 (mS l)), (1, iI size), (2, .vs 1 (mI zero)), (7, .bool y1), (8, .gv 3003100 (hpl 1 0)), (11, .sl 1 2000054 ((v2.2).length) 0 ((v2.2).length)), (13, .str y8.1.1), (15, .sl 1 67 ((u.2).length) 0 ((u.2).length)), (16, iI u.1)]) (fun u => [(67, .row 5 1 0 (List.map (encK .u8) u.2)), (3003100, .gen (EV.hide sJ (stF y8.2))), (2000054, .row 3 1 0 (mI v2.2)), (900000000, gl0 ob0), (900000001, gl1 ob1 u1), (900000002, gl2 ob2 u2)]) (s_greenbeltlaw03_JournalTorn_L2 zero) (fun _ => rfl) KK (0, (intsOf y8.1.1)) hs (cut_of [0, 1, 2, 7, 8, 11, 13, 15, 16] [67, 3003100, 2000054, 900000000, 900000001, 900000002] kr kr kr) (fun K2 q2 hs => ?_)
      rw [s_greenbeltlaw03_JournalTorn_L2] at hs
      show WpV cK0 Tryd.prog none 191 _ _ [(0, .vs 1 (mS l)), (1, iI size), (2, .vs 1 (mI zero)), (7, .bool y1), (8, .gv 3003100 (hpl 1 0)), (11, .sl 1 2000054 ((v2.2).length) 0 ((v2.2).length)), (13, .str y8.1.1), (15, .sl 1 67 ((q2.2).length) 0 ((q2.2).length)), (16, iI q2.1)] [(67, .row 5 1 0 (List.map (encK .u8) q2.2)), (3003100, .gen (EV.hide sJ (stF y8.2))), (2000054, .row 3 1 0 (mI v2.2)), (900000000, gl0 ob0), (900000001, gl1 ob1 u1), (900000002, gl2 ob2 u2)] []
      refine vS (vS ?_)
      obtain ⟨z4, hs, hk4⟩ := bS hs
      refine v_join (S := Bool) (fun u => u = z4) (fun u => [(0, .vs 1 (mS l)), (1, iI size), (2, .vs 1 (mI zero)), (7, .bool y1), (8, .gv 3003100 (hpl 1 0)), (11, .sl 1 2000054 ((v2.2).length) 0 ((v2.2).length)), (13, .str y8.1.1), (15, .sl 1 67 ((q2.2).length) 0 ((q2.2).length)), (16, iI q2.1), (76, .bool u)]) (fun u => [(67, .row 5 1 0 (List.map (encK .u8) q2.2)), (3003100, .gen (EV.hide sJ (stF y8.2))), (2000054, .row 3 1 0 (mI v2.2)), (900000000, gl0 ob0), (900000001, gl1 ob1 u1), (900000002, gl2 ob2 u2)]) ?_ (fun v4 hz => ?_)
      ·refine vT (oR 5 [(72, .bool (decide (q2.1 < ((q2.2).length : Int)))), (71, .bool (decide (q2.1 < ((q2.2).length : Int)))), (70, iI ((q2.2).length : Int)), (69, .sl 1 67 ((q2.2).length) 0 ((q2.2).length)), (68, iI q2.1)] kr ?_)
       cases h6 : ((decide (q2.1 < ((q2.2).length : Int))))
       ·replace hs := bif_f h6 hs
        refine oR 4 [(76, .bool false), (75, .no), (74, .no), (73, .no)] kr ?_
        refine oN ?_
        obtain rfl := si hs
        refine nrm_join false rfl ?_
        exact cut_of [0, 1, 2, 7, 8, 11, 13, 15, 16, 76] [67, 3003100, 2000054, 900000000, 900000001, 900000002] kr kr kr
       ·replace hs := bif_t h6 hs
        refine oR 1 [(73, .vs 1 (mI zero))] kr ?_
        refine oP (v := iI (List.length zero : Int)) kr kr (loc_lenVs (sz := 1) (els := (mI zero)) kr kr (List.length_map ..)) ?_
        refine oR 2 [(76, .bool (decide ((List.length zero : Int) > 0))), (75, .bool (decide ((List.length zero : Int) > 0)))] kr ?_
        refine oN ?_
        obtain rfl := si hs
        refine nrm_join (decide ((List.length zero : Int) > 0)) rfl ?_
        exact cut_of [0, 1, 2, 7, 8, 11, 13, 15, 16, 76] [67, 3003100, 2000054, 900000000, 900000001, 900000002] kr kr kr
      ·subst hz; clear hs; have hs := hk4; clear hk4
       refine nT ?_
       refine v_cond v4 kr (fun h7 => ?_) (fun h7 => ?_)
       ·replace hs := bif_t h7 hs
        refine vK (nT (vS (vB (vS (vT (oR 4 [(82, .vs 1 (mI zero)), (81, iI (w64 (Int.tdiv q2.1 64))), (80, iI q2.1), (79, .vs 1 (mI zero))] kr ?_))))))
        refine oP (v := iI (List.length zero : Int)) kr kr (loc_lenVs (sz := 1) (els := (mI zero)) kr kr (List.length_map ..)) ?_
        obtain ⟨_, g4, hs⟩ := bS hs; replace g4 := grd_some g4
        refine oP (v := iI (Int.tmod (w64 (Int.tdiv q2.1 64)) (List.length zero : Int))) kr kr (loc_div (k := .i64) (a := (w64 (Int.tdiv q2.1 64))) (b := (List.length zero : Int)) (by simp) kr kr g4) ?_
        obtain ⟨x2, g5, hs⟩ := bS hs; obtain ⟨g5a, g5b, g5c⟩ := idx_some g5
        refine oP (v := .vp [iI x2] 0) kr kr (loc_indexVs (e := 3) (sz := 1) (k := .i64) (els := (mI zero)) (cs := (EV.encI x2)) kr kr kr g5a (by rw [g5c]; exact map_get _ (by omega))) ?_
        refine oR 3 [(88, .bool (decide ((IntKind.i64.wrap ((BitVec.ofInt IntKind.i64.bits x2 &&& BitVec.ofInt IntKind.i64.bits 1).toNat : Int)) = 1))), (87, iI (IntKind.i64.wrap ((BitVec.ofInt IntKind.i64.bits x2 &&& BitVec.ofInt IntKind.i64.bits 1).toNat : Int))), (86, iI x2)] kr ?_
        refine oN (nT ?_)
        obtain ⟨z5, hs, hk5⟩ := bS hs
        refine v_join (S := (List Int)) (fun u => u = z5) (fun u => [(0, .vs 1 (mS l)), (1, iI size), (2, .vs 1 (mI zero)), (7, .bool y1), (8, .gv 3003100 (hpl 1 0)), (11, .sl 1 2000054 ((v2.2).length) 0 ((v2.2).length)), (13, .str y8.1.1), (15, .sl 1 67 ((u).length) 0 ((u).length)), (16, iI q2.1)]) (fun u => [(67, .row 5 1 0 (List.map (encK .u8) u)), (3003100, .gen (EV.hide sJ (stF y8.2))), (2000054, .row 3 1 0 (mI v2.2)), (900000000, gl0 ob0), (900000001, gl1 ob1 u1), (900000002, gl2 ob2 u2)]) ?_ (fun v5 hz => ?_)
        ·refine v_cond (decide ((IntKind.i64.wrap ((BitVec.ofInt IntKind.i64.bits x2 &&& BitVec.ofInt IntKind.i64.bits 1).toNat : Int)) = 1)) kr (fun h8 => ?_) (fun h8 => ?_)
         ·replace hs := bif_t h8 hs
          refine vT (oR 2 [(90, iI q2.1), (89, .sl 1 67 ((q2.2).length) 0 ((q2.2).length))] kr ?_)
          obtain ⟨⟨g6a, g6b⟩, hs⟩ := bG hs
          refine oP (v := .ptr 67 ((q2.2).length) ((Int.toNat q2.1) * 1 + 0)) kr kr (loc_indexRowT (e := 5) (sz := 1) (kk := 67) (L := (q2.2).length) (n := (q2.2).length) (k := .i64) (i := q2.1) kr kr kr g6a g6b) ?_
          obtain ⟨e1, he1, hs⟩ := bE hs
          refine o_loc (F := [(67, .row 5 1 0 (List.map (encK .u8) q2.2))]) (F' := [(67, .row 5 1 0 (List.map (encK .u8) (List.set q2.2 (Int.toNat q2.1) 0)))]) (v := .no) [67] kr kr rfl kr (loc_storeRowT (L := (q2.2).length) (off := (Int.toNat q2.1) * 1 + 0) (els := (List.map (encK .u8) q2.2)) (cs := [.int .u8 e1]) (c' := [.int .u8 0]) (Int.toNat q2.1) 0 kr (by first | (simp only [List.length_map, List.length_set, cpyT_length]; done) | rfl) rfl (by rw [← he1]; exact map_get _ (by first | omega | (simp only [List.length_set, cpyT_length]; omega))) (by first | exact Nat.zero_le _ | omega) kr kr kr kr kr kr List.map_set.symm) kr ?_
          refine oN ?_
          obtain rfl := si hs
          refine nrm_join (List.set q2.2 (Int.toNat q2.1) 0) rfl ?_
          exact Cut.trans (cut_eq 15 (v := .sl 1 67 ((q2.2).length) 0 ((q2.2).length)) (v' := .sl 1 67 (((List.set q2.2 (Int.toNat q2.1) 0)).length) 0 (((List.set q2.2 (Int.toNat q2.1) 0)).length)) kr (by first | rfl | simp only [List.length_set, cpyT_length])) (cut_of [0, 1, 2, 7, 8, 11, 13, 15, 16] [67, 3003100, 2000054, 900000000, 900000001, 900000002] kr kr kr)
         ·replace hs := bif_f h8 hs
          refine vK ?_
          obtain rfl := si hs
          refine nrm_join q2.2 rfl ?_
          exact cut_of [0, 1, 2, 7, 8, 11, 13, 15, 16] [67, 3003100, 2000054, 900000000, 900000001, 900000002] kr kr kr
        ·subst hz; clear hs; have hs := hk5; clear hk5
         refine nB (nT (vT (oR 3 [(16, iI (w64 (q2.1 + 1))), (78, iI (w64 (q2.1 + 1))), (77, iI q2.1)] kr ?_)))
         refine oN (nrm_fuel ((w64 (q2.1 + 1)), v5) hs ?_)
         exact cut_of [0, 1, 2, 7, 8, 11, 13, 15, 16] [67, 3003100, 2000054, 900000000, 900000001, 900000002] kr kr kr
       ·replace hs := bif_f h7 hs
        refine v_exit (exit_thenV (exit_fuel ?_))
        refine exit_blkV ?_
        obtain rfl := si hs
        refine nrm_join q2.2 rfl ?_
        exact cut_of [0, 1, 7, 8, 11, 13, 15] [67, 3003100, 2000054, 900000000, 900000001, 900000002] kr kr kr
     ·subst hz; clear hs; have hs := hk3; clear hk3
      refine nT (vS (vT (oR 6 [(97, iI (max 0 (min size ((v3).length : Int)))), (96, iI (min size ((v3).length : Int))), (95, iI ((v3).length : Int)), (94, .sl 1 67 ((v3).length) 0 ((v3).length)), (93, iI size), (92, .sl 1 67 ((v3).length) 0 ((v3).length))] kr ?_)))
      obtain ⟨⟨g7a, g7b, g7c⟩, hs⟩ := bG hs
      refine oP (v := .sl 1 67 ((v3).length) (Int.toNat 0) (Int.toNat (max 0 (min size ((v3).length : Int))) - Int.toNat 0)) kr kr (loc_sliceRowT (e := 5) (sz := 1) (k := 67) (L := ((v3).length)) (n := (v3).length) (l := 0) (h := (max 0 (min size ((v3).length : Int)))) kr kr rfl ⟨.i64, by kernel_rfl⟩ g7a g7b g7c) ?_
      refine o_loc (F := [(67, .row 5 1 0 (List.map (encK .u8) v3))]) (F' := [(67, .row 5 1 0 (List.map (encK .u8) v3))]) (v := .str (bytesOf (List.take (Int.toNat (max 0 (min size ((v3).length : Int))) - Int.toNat 0) (List.drop (Int.toNat 0) v3)))) [67] kr kr rfl kr (loc_bytesStrP (t := 5) (fz := 0) (L := (v3).length) (o := (Int.toNat 0)) (n := (Int.toNat (max 0 (min size ((v3).length : Int))) - Int.toNat 0)) (l := v3) kr kr (by first | (simp only [List.length_map, List.length_set, cpyT_length]; done) | rfl) (by omega)) kr ?_
      refine oR 1 [(17, .str (bytesOf (List.take (Int.toNat (max 0 (min size ((v3).length : Int))) - Int.toNat 0) (List.drop (Int.toNat 0) v3))))] kr ?_
      refine oN (nT (vS (vT (oR 1 [(18, iI 0)] kr ?_))))
      refine oN (nT (vS ?_))
      obtain ⟨z6, hs, hk6⟩ := bS hs
      refine v_join (S := Int) (fun u => u = z6) (fun u => [(0, .vs 1 (mS l)), (7, .bool y1), (8, .gv 3003100 (hpl 1 0)), (17, .str (bytesOf (List.take (Int.toNat (max 0 (min size ((v3).length : Int))) - Int.toNat 0) (List.drop (Int.toNat 0) v3)))), (18, iI u)]) (fun u => [(3003100, .gen (EV.hide sJ (stF y8.2))), (900000000, gl0 ob0), (900000001, gl1 ob1 u1), (900000002, gl2 ob2 u2)]) ?_ (fun v6 hz => ?_)
      ·refine vB ?_
       refine v_fuel (S := Int) (fun u => [(0, .vs 1 (mS l)), (7, .bool y1), (8, .gv 3003100 (hpl 1 0)), (11, .sl 1 2000054 ((v2.2).length) 0 ((v2.2).length)), (13, .str y8.1.1), (17, .str (bytesOf (List.take (Int.toNat (max 0 (min size ((v3).length : Int))) - Int.toNat 0) (List.drop (Int.toNat 0) v3)))), (18, iI u)]) (fun u => [(3003100, .gen (EV.hide sJ (stF y8.2))), (2000054, .row 3 1 0 (mI v2.2)), (900000000, gl0 ob0), (900000001, gl1 ob1 u1), (900000002, gl2 ob2 u2)]) (s_greenbeltlaw03_JournalTorn_L3 size v2 y8 v3) (fun _ => rfl) KK 0 hs (cut_of [0, 7, 8, 11, 13, 17, 18] [3003100, 2000054, 900000000, 900000001, 900000002] kr kr kr) (fun K3 q3 hs => ?_)
       rw [s_greenbeltlaw03_JournalTorn_L3] at hs
       show WpV cK0 Tryd.prog none 191 _ _ [(0, .vs 1 (mS l)), (7, .bool y1), (8, .gv 3003100 (hpl 1 0)), (11, .sl 1 2000054 ((v2.2).length) 0 ((v2.2).length)), (13, .str y8.1.1), (17, .str (bytesOf (List.take (Int.toNat (max 0 (min size ((v3).length : Int))) - Int.toNat 0) (List.drop (Int.toNat 0) v3)))), (18, iI q3)] [(3003100, .gen (EV.hide sJ (stF y8.2))), (2000054, .row 3 1 0 (mI v2.2)), (900000000, gl0 ob0), (900000001, gl1 ob1 u1), (900000002, gl2 ob2 u2)] []
       refine vS (vS ?_)
       obtain ⟨z7, hs, hk7⟩ := bS hs
       refine v_join (S := Bool) (fun u => u = z7) (fun u => [(0, .vs 1 (mS l)), (7, .bool y1), (8, .gv 3003100 (hpl 1 0)), (11, .sl 1 2000054 ((v2.2).length) 0 ((v2.2).length)), (13, .str y8.1.1), (17, .str (bytesOf (List.take (Int.toNat (max 0 (min size ((v3).length : Int))) - Int.toNat 0) (List.drop (Int.toNat 0) v3)))), (18, iI q3), (127, .bool u)]) (fun u => [(3003100, .gen (EV.hide sJ (stF y8.2))), (2000054, .row 3 1 0 (mI v2.2)), (900000000, gl0 ob0), (900000001, gl1 ob1 u1), (900000002, gl2 ob2 u2)]) ?_ (fun v7 hz => ?_)
       ·refine v_draw mixedH kr ?_
        refine d_runs 5 0 [(104, .bool (decide (q3 < ((v2.2).length : Int)))), (103, .bool (decide (q3 < ((v2.2).length : Int)))), (102, iI ((v2.2).length : Int)), (101, .sl 1 2000054 ((v2.2).length) 0 ((v2.2).length)), (100, iI q3)] (pfp 5 4) kr kr ?_
        cases h9 : ((decide (q3 < ((v2.2).length : Int))))
        ·replace hs := bif_f h9 hs
         refine d_runs 23 5 [(127, .bool false), (126, .no), (125, .no), (124, .no), (123, .no), (122, .no), (121, .no), (120, .no), (119, .no), (118, .no), (117, .no), (116, .no), (115, .no), (114, .no), (113, .bool false), (112, .bool false), (111, .no), (110, .no), (109, .no), (108, .no), (107, .no), (106, .no), (105, .no)] (pfp 23 27) kr kr ?_
         refine d_nil kr ?_
         obtain rfl := si hs
         refine nrm_join false rfl ?_
         exact cut_of [0, 7, 8, 11, 13, 17, 18, 127] [3003100, 2000054, 900000000, 900000001, 900000002] kr kr kr
        ·replace hs := bif_t h9 hs
         refine d_runs 2 5 [(106, iI q3), (105, .sl 1 2000054 ((v2.2).length) 0 ((v2.2).length))] (pfp 2 6) kr kr ?_
         obtain ⟨⟨g8a, g8b⟩, hs⟩ := bG hs
         refine d_pure (v := .ptr 2000054 ((v2.2).length) ((Int.toNat q3) * 1 + 0)) 7 rfl rfl rfl rfl kr kr (loc_indexRowT (e := 3) (sz := 1) (kk := 2000054) (L := (v2.2).length) (n := (v2.2).length) (k := .i64) (i := q3) kr kr kr g8a g8b) ?_
         obtain ⟨e2, he2, hs⟩ := bE hs
         refine d_loc (F := []) (R := [(2000054, .row 3 1 0 (mI v2.2))]) (F' := []) (v := iI e2) 8 [] [2000054] rfl rfl rfl rfl kr kr kr kr kr kr kr kr (loc_loadRow (L := (v2.2).length) (off := (Int.toNat q3) * 1 + 0) (els := (mI v2.2)) (cs := [iI e2]) (Int.toNat q3) 0 kr (by first | (simp only [List.length_map, List.length_set, cpyT_length]; done) | rfl) rfl (by rw [← he2]; exact map_get _ (by first | omega | (simp only [List.length_set, cpyT_length]; omega))) kr) ?_
         refine d_runs 5 9 [(113, .bool (decide (e2 ≤ (List.length (bytesOf (List.take (Int.toNat (max 0 (min size ((v3).length : Int))) - Int.toNat 0) (List.drop (Int.toNat 0) v3))) : Int)))), (112, .bool (decide (e2 ≤ (List.length (bytesOf (List.take (Int.toNat (max 0 (min size ((v3).length : Int))) - Int.toNat 0) (List.drop (Int.toNat 0) v3))) : Int)))), (111, .bool (decide (e2 ≤ (List.length (bytesOf (List.take (Int.toNat (max 0 (min size ((v3).length : Int))) - Int.toNat 0) (List.drop (Int.toNat 0) v3))) : Int)))), (110, iI (List.length (bytesOf (List.take (Int.toNat (max 0 (min size ((v3).length : Int))) - Int.toNat 0) (List.drop (Int.toNat 0) v3))) : Int)), (109, .str (bytesOf (List.take (Int.toNat (max 0 (min size ((v3).length : Int))) - Int.toNat 0) (List.drop (Int.toNat 0) v3))))] (pfp 5 13) kr kr ?_
         cases h10 : ((decide (e2 ≤ (List.length (bytesOf (List.take (Int.toNat (max 0 (min size ((v3).length : Int))) - Int.toNat 0) (List.drop (Int.toNat 0) v3))) : Int))))
         ·replace hs := bif_f h10 hs
          refine d_runs 14 14 [(127, .bool false), (126, .no), (125, .no), (124, .no), (123, .no), (122, .no), (121, .no), (120, .no), (119, .no), (118, .no), (117, .no), (116, .no), (115, .no), (114, .no)] (pfp 14 27) kr kr ?_
          refine d_nil kr ?_
          obtain rfl := si hs
          refine nrm_join false rfl ?_
          exact cut_of [0, 7, 8, 11, 13, 17, 18, 127] [3003100, 2000054, 900000000, 900000001, 900000002] kr kr kr
         ·replace hs := bif_t h10 hs
          refine d_runs 3 14 [(116, iI q3), (115, .sl 1 2000054 ((v2.2).length) 0 ((v2.2).length)), (114, .str (bytesOf (List.take (Int.toNat (max 0 (min size ((v3).length : Int))) - Int.toNat 0) (List.drop (Int.toNat 0) v3))))] (pfp 3 16) kr kr ?_
          obtain ⟨⟨g9a, g9b⟩, hs⟩ := bG hs
          refine d_pure (v := .ptr 2000054 ((v2.2).length) ((Int.toNat q3) * 1 + 0)) 17 rfl rfl rfl rfl kr kr (loc_indexRowT (e := 3) (sz := 1) (kk := 2000054) (L := (v2.2).length) (n := (v2.2).length) (k := .i64) (i := q3) kr kr kr g9a g9b) ?_
          obtain ⟨e3, he3, hs⟩ := bE hs
          refine d_loc (F := []) (R := [(2000054, .row 3 1 0 (mI v2.2))]) (F' := []) (v := iI e3) 18 [] [2000054] rfl rfl rfl rfl kr kr kr kr kr kr kr kr (loc_loadRow (L := (v2.2).length) (off := (Int.toNat q3) * 1 + 0) (els := (mI v2.2)) (cs := [iI e3]) (Int.toNat q3) 0 kr (by first | (simp only [List.length_map, List.length_set, cpyT_length]; done) | rfl) rfl (by rw [← he3]; exact map_get _ (by first | omega | (simp only [List.length_set, cpyT_length]; omega))) kr) ?_
          obtain ⟨x3, g10, hs⟩ := bS hs; obtain ⟨g10a, g10b, g10c, g10d⟩ := cut_some g10
          refine d_pure (v := .str x3) 19 rfl rfl rfl rfl kr kr (by rw [g10d]; exact loc_sliceStr (s := (bytesOf (List.take (Int.toNat (max 0 (min size ((v3).length : Int))) - Int.toNat 0) (List.drop (Int.toNat 0) v3)))) (l := 0) (h := e3) kr kr rfl ⟨.i64, by kernel_rfl⟩ g10a g10b g10c) ?_
          refine d_runs 3 20 [(122, iI q3), (121, .sl 1 2000054 ((v2.2).length) 0 ((v2.2).length)), (120, .str y8.1.1)] (pfp 3 22) kr kr ?_
          obtain ⟨⟨g11a, g11b⟩, hs⟩ := bG hs
          refine d_pure (v := .ptr 2000054 ((v2.2).length) ((Int.toNat q3) * 1 + 0)) 23 rfl rfl rfl rfl kr kr (loc_indexRowT (e := 3) (sz := 1) (kk := 2000054) (L := (v2.2).length) (n := (v2.2).length) (k := .i64) (i := q3) kr kr kr g11a g11b) ?_
          obtain ⟨e4, he4, hs⟩ := bE hs
          refine d_loc (F := []) (R := [(2000054, .row 3 1 0 (mI v2.2))]) (F' := []) (v := iI e4) 24 [] [2000054] rfl rfl rfl rfl kr kr kr kr kr kr kr kr (loc_loadRow (L := (v2.2).length) (off := (Int.toNat q3) * 1 + 0) (els := (mI v2.2)) (cs := [iI e4]) (Int.toNat q3) 0 kr (by first | (simp only [List.length_map, List.length_set, cpyT_length]; done) | rfl) rfl (by rw [← he4]; exact map_get _ (by first | omega | (simp only [List.length_set, cpyT_length]; omega))) kr) ?_
          obtain ⟨x4, g12, hs⟩ := bS hs; obtain ⟨g12a, g12b, g12c, g12d⟩ := cut_some g12
          refine d_pure (v := .str x4) 25 rfl rfl rfl rfl kr kr (by rw [g12d]; exact loc_sliceStr (s := y8.1.1) (l := 0) (h := e4) kr kr rfl ⟨.i64, by kernel_rfl⟩ g12a g12b g12c) ?_
          refine d_runs 2 26 [(127, .bool (decide (x3 = x4))), (126, .bool (decide (x3 = x4)))] (pfp 2 27) kr kr ?_
          refine d_nil kr ?_
          obtain rfl := si hs
          refine nrm_join (decide (x3 = x4)) rfl ?_
          exact cut_of [0, 7, 8, 11, 13, 17, 18, 127] [3003100, 2000054, 900000000, 900000001, 900000002] kr kr kr
       ·subst hz; clear hs; have hs := hk7; clear hk7
        refine nT ?_
        refine v_cond v7 kr (fun h11 => ?_) (fun h11 => ?_)
        ·replace hs := bif_t h11 hs
         refine vK (nT (vB (vT (oR 3 [(18, iI (w64 (q3 + 1))), (129, iI (w64 (q3 + 1))), (128, iI q3)] kr ?_))))
         refine oN (nB (nrm_fuel (w64 (q3 + 1)) hs ?_))
         exact cut_of [0, 7, 8, 11, 13, 17, 18] [3003100, 2000054, 900000000, 900000001, 900000002] kr kr kr
        ·replace hs := bif_f h11 hs
         refine v_exit (exit_thenV (exit_fuel ?_))
         refine exit_blkV ?_
         obtain rfl := si hs
         refine nrm_join q3 rfl ?_
         exact cut_of [0, 7, 8, 17, 18] [3003100, 900000000, 900000001, 900000002] kr kr kr
      ·subst hz; clear hs; have hs := hk6; clear hk6
       refine nT (vS (vT (oR 2 [(131, .str (bytesOf (List.take (Int.toNat (max 0 (min size ((v3).length : Int))) - Int.toNat 0) (List.drop (Int.toNat 0) v3)))), (130, .gv 3003100 (hpl 1 0))] kr ?_)))
       obtain ⟨y9, c9, hs⟩ := bS hs
       refine o_loc (F := [(3003100, .gen (EV.hide sJ (stF y8.2))), (900000000, gl0 ob0), (900000001, gl1 ob1 u1), (900000002, gl2 ob2 u2)]) (F' := [(3003100, .gen (EV.hide sJ (stF y9.2))), (900000000, gl0 ob0), (900000001, gl1 ob1 u1), (900000002, gl2 ob2 u2)]) (v := iI y9.1) [3003100, 900000000, 900000001, 900000002] kr kr rfl kr (loc_g (R := []) [.gv 3003100 (hpl 1 0), iI 1, iI 0, .str (bytesOf (List.take (Int.toNat (max 0 (min size ((v3).length : Int))) - Int.toNat 0) (List.drop (Int.toNat 0) v3)))] [(1000000, 3003100), (900000000, 900000000), (900000001, 900000001), (900000002, 900000002)] (callV_func hbv14 kr) (wk_write (ob0 := ob0) (ob1 := ob1) (ob2 := ob2) (u1 := u1) (u2 := u2) y8.2 1 0 (bytesOf (List.take (Int.toNat (max 0 (min size ((v3).length : Int))) - Int.toNat 0) (List.drop (Int.toNat 0) v3))) _ c9) (.cons (.same _) vw3) kr kr kr kr kr kr kr kr) kr ?_
       refine oN (nT (vS (vT (oR 1 [(134, .gv 3003100 (hpl 1 0))] kr ?_))))
       obtain ⟨y10, c10, hs⟩ := bS hs
       refine o_loc (F := [(3003100, .gen (EV.hide sJ (stF y9.2))), (900000000, gl0 ob0), (900000001, gl1 ob1 u1), (900000002, gl2 ob2 u2)]) (F' := [(3003100, .gen (EV.hide sJ (stF y10.2))), (900000000, gl0 ob0), (900000001, gl1 ob1 u1), (900000002, gl2 ob2 u2)]) (v := .tup [.gv 3003100 (jpv jb y10.1.1), iI y10.1.2]) [3003100, 900000000, 900000001, 900000002] kr kr rfl kr (loc_g (R := []) [.gv 3003100 (hpl 1 0), iI 1] [(1000000, 3003100), (900000000, 900000000), (900000001, 900000001), (900000002, 900000002)] (callV_func hbv10 kr) (wk_open (ob0 := ob0) (ob1 := ob1) (ob2 := ob2) (u1 := u1) (u2 := u2) y9.2 1 _ c10) vw2 kr kr kr kr kr kr kr kr) kr ?_
       refine oR 5 [(20, iI y10.1.2), (19, .gv 3003100 (jpv jb y10.1.1)), (137, iI y10.1.2), (136, .gv 3003100 (jpv jb y10.1.1)), (133, .tup [.gv 3003100 (jpv jb y10.1.1), iI y10.1.2])] kr ?_
       refine oN (nT (vS (vS ?_)))
       obtain ⟨z8, hs, hk8⟩ := bS hs
       refine v_join (S := Bool × Wd) (fun u => u = z8) (fun u => [(7, .bool y1), (18, iI v6), (19, .gv 3003100 (jpv jb y10.1.1)), (152, .bool u.1)]) (fun u => [(3003100, .gen (EV.hide sJ (stF u.2))), (900000000, gl0 ob0), (900000001, gl1 ob1 u1), (900000002, gl2 ob2 u2)]) ?_ (fun v8 hz => ?_)
       ·refine v_draw mixedH kr ?_
        refine d_runs 1 0 [(138, .gv 3003100 (jpv jb y10.1.1))] (pfp 1 0) kr kr ?_
        refine d_pure (v := .bool (decide (y10.1.1 = 0))) 1 rfl rfl rfl rfl kr kr (loc_jpvNil_eql (k := 3003100) (a := jb) (i := y10.1.1) kr kr kr) ?_
        refine d_runs 1 2 [(140, .bool (decide (y10.1.1 = 0)))] (pfp 1 2) kr kr ?_
        cases h12 : ((decide (y10.1.1 = 0)))
        ·replace hs := bif_f h12 hs
         refine d_runs 4 3 [(144, .bool (!(decide (y10.1.2 = 0)))), (143, .bool (!(decide (y10.1.2 = 0)))), (142, .bool (!(decide (y10.1.2 = 0)))), (141, iI y10.1.2)] (pfp 4 6) kr kr ?_
         cases h13 : ((!(decide (y10.1.2 = 0))))
         ·replace hs := bif_f h13 hs
          refine d_runs 1 7 [(145, .gv 3003100 (jpv jb y10.1.1))] (pfp 1 7) kr kr ?_
          obtain ⟨y11, c11, hs⟩ := bS hs
          refine d_loc (F := [(3003100, .gen (EV.hide sJ (stF y10.2)))]) (R := (gO ob0 ob1 ob2 u1 u2)) (F' := [(3003100, .gen (EV.hide sJ (stF y11.2))), (3014600, .row 9 1 0 (mS y11.1))]) (v := .sl 1 3014600 ((y11.1).length) 0 ((y11.1).length)) 8 [3003100] kG rfl rfl rfl rfl kr kr kr kr kr kr kr kr (loc_g (R := []) [.gv 3003100 (jpv jb y10.1.1)] [(1000000, 3003100), (1000001, 3014600), (900000000, 900000000), (900000001, 900000001), (900000002, 900000002)] (callV_func hbv16 kr) (wk_all (ob0 := ob0) (ob1 := ob1) (ob2 := ob2) (u1 := u1) (u2 := u2) y10.2 y10.1.1 _ c11) (.cons (.same _) (.nil)) kr kr kr kr kr kr kr kr) ?_
          refine d_runs 2 9 [(148, iI v6), (147, .vs 1 (mS l))] (pfp 2 10) kr kr ?_
          obtain ⟨x5, g13, hs⟩ := bS hs; obtain ⟨g13a, g13b, g13c, g13d⟩ := cut_some g13
          refine d_pure (v := .vs 1 (List.map EV.encS x5)) 11 rfl rfl rfl rfl kr kr (loc_sliceVsT (e := 9) (sz := 1) (l := 0) (h := v6) (els := (List.map EV.encS l)) kr kr rfl ⟨.i64, by kernel_rfl⟩ g13a g13b (by simpa only [List.length_map] using g13c) (by rw [g13d, List.map_drop, List.map_take])) ?_
          obtain ⟨y12, c12, hs⟩ := bS hs
          refine d_loc (F := []) (R := [(3014600, .row 9 1 0 (mS y11.1))]) (F' := []) (v := .bool y12) 12 [] [3014600] rfl rfl rfl rfl kr kr kr kr kr kr kr kr (loc_gcallB (vs := [.sl 1 3014600 ((y11.1).length) 0 ((y11.1).length), .vs 1 (mS x5)]) (R := [(3014600, .row 9 1 0 (mS y11.1))]) (callV_func hbv15 kr) (w_greenbeltref01_SameTexts y11.1 x5 _ c12) (.cons (.row (t := 9) (fz := 0) kr (by first | (simp only [List.length_map, List.length_set, cpyT_length]; done) | rfl)) (.cons (.same _) (.nil))) kr kr kr) ?_
          refine d_runs 2 13 [(152, .bool (!y12)), (151, .bool (!y12))] (pfp 2 14) kr kr ?_
          refine d_nil kr ?_
          obtain rfl := si hs
          refine nrm_join ((!y12), y11.2) rfl ?_
          exact cut_of [7, 18, 19, 152] [3003100, 900000000, 900000001, 900000002] kr kr kr
         ·replace hs := bif_t h13 hs
          refine d_runs 8 7 [(152, .bool true), (151, .no), (150, .no), (149, .no), (148, .no), (147, .no), (146, .no), (145, .no)] (pfp 8 14) kr kr ?_
          refine d_nil kr ?_
          obtain rfl := si hs
          refine nrm_join (true, y10.2) rfl ?_
          exact cut_of [7, 18, 19, 152] [3003100, 900000000, 900000001, 900000002] kr kr kr
        ·replace hs := bif_t h12 hs
         refine d_runs 12 3 [(152, .bool true), (151, .no), (150, .no), (149, .no), (148, .no), (147, .no), (146, .no), (145, .no), (144, .bool true), (143, .bool true), (142, .no), (141, .no)] (pfp 12 14) kr kr ?_
         refine d_nil kr ?_
         obtain rfl := si hs
         refine nrm_join (true, y10.2) rfl ?_
         exact cut_of [7, 18, 19, 152] [3003100, 900000000, 900000001, 900000002] kr kr kr
       ·subst hz; clear hs; have hs := hk8; clear hk8
        refine nT ?_
        refine v_cond v8.1 kr (fun h14 => ?_) (fun h14 => ?_)
        ·replace hs := bif_t h14 hs
         refine vS (vT (oR 1 [(6, .bool false)] kr ?_))
         refine oN (nT (v_ret (rT ?_)))
         obtain rfl := si hs
         exact fin_ret kr kr kr
        ·replace hs := bif_f h14 hs
         refine vK (nT (vS ?_))
         obtain ⟨z9, hs, hk9⟩ := bS hs
         refine v_join (S := Bool) (fun u => u = z9) (fun u => [(6, .bool u)]) (fun u => (gO ob0 ob1 ob2 u1 u2)) ?_ (fun v9 hz => ?_)
         ·refine vT (oR 2 [(154, .bool y1), (153, .bool y1)] kr ?_)
          cases h15 : (y1)
          ·replace hs := bif_f h15 hs
           refine oR 37 [(6, .bool false), (190, .bool false), (189, .no), (188, .no), (187, .no), (186, .no), (185, .no), (184, .bool false), (183, .bool false), (182, .no), (181, .no), (180, .no), (179, .bool false), (178, .bool false), (177, .no), (176, .no), (175, .no), (174, .no), (173, .no), (172, .bool false), (171, .bool false), (170, .no), (169, .no), (168, .no), (167, .no), (166, .bool false), (165, .bool false), (164, .no), (163, .no), (162, .no), (161, .no), (160, .no), (159, .bool false), (158, .bool false), (157, .no), (156, .no), (155, .no)] kr ?_
           refine oN ?_
           obtain rfl := si hs
           refine nrm_join false rfl ?_
           exact cut_of [6] kG kr kr kr
          ·replace hs := bif_t h15 hs
           refine oR 1 [(155, .gv 3003100 (jpv jb y10.1.1))] kr ?_
           obtain ⟨y13, c13, hs⟩ := bS hs
           refine o_loc (F := [(3003100, .gen (EV.hide sJ (stF v8.2))), (900000000, gl0 ob0), (900000001, gl1 ob1 u1), (900000002, gl2 ob2 u2)]) (F' := [(3003100, .gen (EV.hide sJ (stF y13.2))), (900000000, gl0 ob0), (900000001, gl1 ob1 u1), (900000002, gl2 ob2 u2)]) (v := iI y13.1) [3003100, 900000000, 900000001, 900000002] kr kr rfl kr (loc_g (R := []) [.gv 3003100 (jpv jb y10.1.1), .str ([110, 101, 120, 116] : List UInt8)] [(1000000, 3003100), (900000000, 900000000), (900000001, 900000001), (900000002, 900000002)] (callV_func hbv11 kr) (wk_append (ob0 := ob0) (ob1 := ob1) (ob2 := ob2) (u1 := u1) (u2 := u2) v8.2 y10.1.1 ([110, 101, 120, 116] : List UInt8) _ c13) vw2 kr kr kr kr kr kr kr kr) kr ?_
           refine oR 3 [(159, .bool (decide (y13.1 = 0))), (158, .bool (decide (y13.1 = 0))), (157, .bool (decide (y13.1 = 0)))] kr ?_
           cases h16 : ((decide (y13.1 = 0)))
           ·replace hs := bif_f h16 hs
            refine oR 32 [(6, .bool false), (190, .bool false), (189, .no), (188, .no), (187, .no), (186, .no), (185, .no), (184, .bool false), (183, .bool false), (182, .no), (181, .no), (180, .no), (179, .bool false), (178, .bool false), (177, .no), (176, .no), (175, .no), (174, .no), (173, .no), (172, .bool false), (171, .bool false), (170, .no), (169, .no), (168, .no), (167, .no), (166, .bool false), (165, .bool false), (164, .no), (163, .no), (162, .no), (161, .no), (160, .no)] kr ?_
            refine oN ?_
            obtain rfl := si hs
            refine nrm_join false rfl ?_
            exact cut_of [6] kG kr kr kr
           ·replace hs := bif_t h16 hs
            refine oR 1 [(160, .gv 3003100 (jpv jb y10.1.1))] kr ?_
            obtain ⟨y14, c14, hs⟩ := bS hs
            refine o_loc (F := [(3003100, .gen (EV.hide sJ (stF y13.2))), (900000000, gl0 ob0), (900000001, gl1 ob1 u1), (900000002, gl2 ob2 u2)]) (F' := [(3003100, .gen (EV.hide sJ (stF y14.2))), (900000000, gl0 ob0), (900000001, gl1 ob1 u1), (900000002, gl2 ob2 u2)]) (v := iI y14.1) [3003100, 900000000, 900000001, 900000002] kr kr rfl kr (loc_g (R := []) [.gv 3003100 (jpv jb y10.1.1)] [(1000000, 3003100), (900000000, 900000000), (900000001, 900000001), (900000002, 900000002)] (callV_func hbv17 kr) (wk_len (ob0 := ob0) (ob1 := ob1) (ob2 := ob2) (u1 := u1) (u2 := u2) y13.2 y10.1.1 _ c14) (.cons (.same _) (.nil)) kr kr kr kr kr kr kr kr) kr ?_
            refine oR 5 [(166, .bool (decide (y14.1 = (w64 (v6 + 1))))), (165, .bool (decide (y14.1 = (w64 (v6 + 1))))), (164, .bool (decide (y14.1 = (w64 (v6 + 1))))), (163, iI (w64 (v6 + 1))), (162, iI v6)] kr ?_
            cases h17 : ((decide (y14.1 = (w64 (v6 + 1)))))
            ·replace hs := bif_f h17 hs
             refine oR 25 [(6, .bool false), (190, .bool false), (189, .no), (188, .no), (187, .no), (186, .no), (185, .no), (184, .bool false), (183, .bool false), (182, .no), (181, .no), (180, .no), (179, .bool false), (178, .bool false), (177, .no), (176, .no), (175, .no), (174, .no), (173, .no), (172, .bool false), (171, .bool false), (170, .no), (169, .no), (168, .no), (167, .no)] kr ?_
             refine oN ?_
             obtain rfl := si hs
             refine nrm_join false rfl ?_
             exact cut_of [6] kG kr kr kr
            ·replace hs := bif_t h17 hs
             refine oR 2 [(168, iI v6), (167, .gv 3003100 (jpv jb y10.1.1))] kr ?_
             obtain ⟨y15, c15, hs⟩ := bS hs
             refine o_loc (F := [(3003100, .gen (EV.hide sJ (stF y14.2))), (900000000, gl0 ob0), (900000001, gl1 ob1 u1), (900000002, gl2 ob2 u2)]) (F' := [(3003100, .gen (EV.hide sJ (stF y15.2))), (900000000, gl0 ob0), (900000001, gl1 ob1 u1), (900000002, gl2 ob2 u2)]) (v := .str y15.1) [3003100, 900000000, 900000001, 900000002] kr kr rfl kr (loc_g (R := []) [.gv 3003100 (jpv jb y10.1.1), iI v6] [(1000000, 3003100), (900000000, 900000000), (900000001, 900000001), (900000002, 900000002)] (callV_func hbv18 kr) (wk_get (ob0 := ob0) (ob1 := ob1) (ob2 := ob2) (u1 := u1) (u2 := u2) y14.2 y10.1.1 v6 _ c15) vw2 kr kr kr kr kr kr kr kr) kr ?_
             refine oR 3 [(172, .bool (decide (y15.1 = ([110, 101, 120, 116] : List UInt8)))), (171, .bool (decide (y15.1 = ([110, 101, 120, 116] : List UInt8)))), (170, .bool (decide (y15.1 = ([110, 101, 120, 116] : List UInt8))))] kr ?_
             cases h18 : ((decide (y15.1 = ([110, 101, 120, 116] : List UInt8))))
             ·replace hs := bif_f h18 hs
              refine oR 19 [(6, .bool false), (190, .bool false), (189, .no), (188, .no), (187, .no), (186, .no), (185, .no), (184, .bool false), (183, .bool false), (182, .no), (181, .no), (180, .no), (179, .bool false), (178, .bool false), (177, .no), (176, .no), (175, .no), (174, .no), (173, .no)] kr ?_
              refine oN ?_
              obtain rfl := si hs
              refine nrm_join false rfl ?_
              exact cut_of [6] kG kr kr kr
             ·replace hs := bif_t h18 hs
              refine oR 3 [(175, iI (w64 (v6 + 1))), (174, iI v6), (173, .gv 3003100 (jpv jb y10.1.1))] kr ?_
              obtain ⟨y16, c16, hs⟩ := bS hs
              refine o_loc (F := [(3003100, .gen (EV.hide sJ (stF y15.2))), (900000000, gl0 ob0), (900000001, gl1 ob1 u1), (900000002, gl2 ob2 u2)]) (F' := [(3003100, .gen (EV.hide sJ (stF y16.2))), (900000000, gl0 ob0), (900000001, gl1 ob1 u1), (900000002, gl2 ob2 u2)]) (v := .str y16.1) [3003100, 900000000, 900000001, 900000002] kr kr rfl kr (loc_g (R := []) [.gv 3003100 (jpv jb y10.1.1), iI (w64 (v6 + 1))] [(1000000, 3003100), (900000000, 900000000), (900000001, 900000001), (900000002, 900000002)] (callV_func hbv18 kr) (wk_get (ob0 := ob0) (ob1 := ob1) (ob2 := ob2) (u1 := u1) (u2 := u2) y15.2 y10.1.1 (w64 (v6 + 1)) _ c16) vw2 kr kr kr kr kr kr kr kr) kr ?_
              refine oR 3 [(179, .bool (decide (y16.1 = []))), (178, .bool (decide (y16.1 = []))), (177, .bool (decide (y16.1 = [])))] kr ?_
              cases h19 : ((decide (y16.1 = [])))
              ·replace hs := bif_f h19 hs
               refine oR 12 [(6, .bool false), (190, .bool false), (189, .no), (188, .no), (187, .no), (186, .no), (185, .no), (184, .bool false), (183, .bool false), (182, .no), (181, .no), (180, .no)] kr ?_
               refine oN ?_
               obtain rfl := si hs
               refine nrm_join false rfl ?_
               exact cut_of [6] kG kr kr kr
              ·replace hs := bif_t h19 hs
               refine oR 1 [(180, .gv 3003100 (jpv jb y10.1.1))] kr ?_
               obtain ⟨y17, c17, hs⟩ := bS hs
               refine o_loc (F := [(3003100, .gen (EV.hide sJ (stF y16.2))), (900000000, gl0 ob0), (900000001, gl1 ob1 u1), (900000002, gl2 ob2 u2)]) (F' := [(3003100, .gen (EV.hide sJ (stF y17.2))), (900000000, gl0 ob0), (900000001, gl1 ob1 u1), (900000002, gl2 ob2 u2)]) (v := .str y17.1) [3003100, 900000000, 900000001, 900000002] kr kr rfl kr (loc_g (R := []) [.gv 3003100 (jpv jb y10.1.1), iI (-1)] [(1000000, 3003100), (900000000, 900000000), (900000001, 900000001), (900000002, 900000002)] (callV_func hbv18 kr) (wk_get (ob0 := ob0) (ob1 := ob1) (ob2 := ob2) (u1 := u1) (u2 := u2) y16.2 y10.1.1 (-1) _ c17) vw2 kr kr kr kr kr kr kr kr) kr ?_
               refine oR 3 [(184, .bool (decide (y17.1 = []))), (183, .bool (decide (y17.1 = []))), (182, .bool (decide (y17.1 = [])))] kr ?_
               cases h20 : ((decide (y17.1 = [])))
               ·replace hs := bif_f h20 hs
                refine oR 7 [(6, .bool false), (190, .bool false), (189, .no), (188, .no), (187, .no), (186, .no), (185, .no)] kr ?_
                refine oN ?_
                obtain rfl := si hs
                refine nrm_join false rfl ?_
                exact cut_of [6] kG kr kr kr
               ·replace hs := bif_t h20 hs
                refine oR 1 [(185, .gv 3003100 (jpv jb y10.1.1))] kr ?_
                obtain ⟨⟨g14a, g14b, g14c⟩, hs⟩ := bG hs
                refine o_loc (F := []) (F' := [(186, .row 5 1 0 (List.map (encK .u8) (List.replicate (Int.toNat 20001) (0 : Int))))]) (v := .sl 1 186 (((List.replicate (Int.toNat 20001) (0 : Int))).length) 0 (((List.replicate (Int.toNat 20001) (0 : Int))).length)) [] kr kr rfl kr (loc_makeSliceT (L := ((List.replicate (Int.toNat 20001) (0 : Int))).length) (e := 5) (sz := 1) (bytes := 1) (q := 20001) (k := .i64) (k2 := .i64) (cs := [.int .u8 0]) (cs2 := [.int .u8 0]) kr kr kr kr kr g14a g14b g14c (List.map_replicate (f := (encK .u8))).symm (List.length_replicate ..) (fun _ _ h => h)) kr ?_
                refine o_loc (F := [(186, .row 5 1 0 (List.map (encK .u8) (List.replicate (Int.toNat 20001) (0 : Int))))]) (F' := [(186, .row 5 1 0 (List.map (encK .u8) (List.replicate (Int.toNat 20001) (0 : Int))))]) (v := .str (bytesOf (List.replicate (Int.toNat 20001) (0 : Int)))) [186] kr kr rfl kr (loc_bytesStr (t := 5) (fz := 0) (L := ((List.replicate (Int.toNat 20001) (0 : Int))).length) (l := (List.replicate (Int.toNat 20001) (0 : Int))) kr kr (by first | (simp only [List.length_map, List.length_set, cpyT_length]; done) | rfl)) kr ?_
                obtain ⟨y18, c18, hs⟩ := bS hs
                refine o_loc (F := [(3003100, .gen (EV.hide sJ (stF y17.2))), (900000000, gl0 ob0), (900000001, gl1 ob1 u1), (900000002, gl2 ob2 u2)]) (F' := [(3003100, .gen (EV.hide sJ (stF y18.2))), (900000000, gl0 ob0), (900000001, gl1 ob1 u1), (900000002, gl2 ob2 u2)]) (v := iI y18.1) [3003100, 900000000, 900000001, 900000002] kr kr rfl kr (loc_g (R := []) [.gv 3003100 (jpv jb y10.1.1), .str (bytesOf (List.replicate (Int.toNat 20001) (0 : Int)))] [(1000000, 3003100), (900000000, 900000000), (900000001, 900000001), (900000002, 900000002)] (callV_func hbv11 kr) (wk_append (ob0 := ob0) (ob1 := ob1) (ob2 := ob2) (u1 := u1) (u2 := u2) y17.2 y10.1.1 (bytesOf (List.replicate (Int.toNat 20001) (0 : Int))) _ c18) vw2 kr kr kr kr kr kr kr kr) kr ?_
                refine oR 3 [(6, .bool (decide (y18.1 = 3))), (190, .bool (decide (y18.1 = 3))), (189, .bool (decide (y18.1 = 3)))] kr ?_
                refine oN ?_
                obtain rfl := si hs
                refine nrm_join (decide (y18.1 = 3)) rfl ?_
                exact cut_of [6] kG kr kr kr
         ·subst hz; clear hs; have hs := hk9; clear hk9
          refine nT (v_ret ?_)
          obtain rfl := si hs
          exact fin_ret kr kr kr
end Go.Proofs.YtoflckochjijcaaDoor
