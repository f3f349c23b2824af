/- Walks; printed by laws.py. -/
import Derived.Test.YtoflckochjijcaaDoorH
import Derived.Test.YtoflckochjijcaaDoorLbD
import Derived.Test.YtoflckochjijcaaDoorLa
set_option linter.all false
set_option maxRecDepth 100000
namespace Go.Proofs.YtoflckochjijcaaDoor
open Go Go.RowKit Go.Eng Go.EV
variable [Fuel]
variable {ob0 ob1 ob2 : Go.Obj} {u1 u2 : TypeId}
theorem hbv26 : hasBody Tryd.prog 26 := body_of kr
theorem hbv8 : hasBody Tryd.prog 8 := body_of kr
theorem hbv27 : hasBody Tryd.prog 27 := body_of kr
theorem hbv28 : hasBody Tryd.prog 28 := body_of kr
theorem hbv30 : hasBody Tryd.prog 30 := body_of kr
theorem w_gl03_few (l : (List greenbeltref03_Op)) (r : Bool) (hs : s_gl03_few l = some r) : FnA Tryd.prog 26 [.vs 4 (mM enc_gr03_Op l)] [] (.bool r) [] := by
 refine fnA_of_wp (N := 29) Tryd.func26 rfl rfl rfl fun cK0 => ?_
 unfold s_gl03_few at hs
 refine v_same (ρ' := [(0, .vs 4 (mM enc_gr03_Op l))]) rfl rfl ?_
 refine vS (vT (oR 1 [(2, .bool false)] kr ?_))
 refine oN (nT (vS (vS (vT (oR 1 [(3, iI 0)] kr ?_)))))
 refine oN (nT ?_)
 obtain ⟨z1, hs, hk1⟩ := bS hs
 refine v_join (S := Unit) (fun u => z1 = .inr u) (fun u => [(0, .vs 4 (mM enc_gr03_Op l))]) (fun u => []) ?_ (fun v1 hz => ?_)
 ·refine vB ?_
  refine v_fuel (S := Int) (fun u => [(0, .vs 4 (mM enc_gr03_Op l)), (3, iI u)]) (fun u => []) (s_gl03_few_L1 l) (fun _ => rfl) KK 0 hs (cut_of [0, 3] [] kr kr kr) (fun K1 q1 hs => ?_)
  rw [s_gl03_few_L1] at hs
  show WpV cK0 Tryd.prog none 29 _ _ [(0, .vs 4 (mM enc_gr03_Op l)), (3, iI q1)] [] []
  refine vS (vS (vT (oR 2 [(5, .vs 4 (mM enc_gr03_Op l)), (4, iI q1)] kr ?_)))
  refine oP (v := iI (List.length l : Int)) kr kr (loc_lenVs (sz := 4) (els := (mM enc_gr03_Op l)) kr kr lM) ?_
  refine oR 1 [(7, .bool (decide (q1 < (List.length l : Int))))] kr ?_
  refine oN (nT ?_)
  refine v_cond (decide (q1 < (List.length l : Int))) kr (fun h1 => ?_) (fun h1 => ?_)
  ·replace hs := bif_t h1 hs
   refine vK (nT (vS (vB (vS ?_))))
   obtain ⟨z2, hs, hk2⟩ := bS hs
   refine v_join (S := Bool) (fun u => u = z2) (fun u => [(0, .vs 4 (mM enc_gr03_Op l)), (3, iI q1), (25, .bool u)]) (fun u => []) ?_ (fun v2 hz => ?_)
   ·refine vT (oR 2 [(11, iI q1), (10, .vs 4 (mM enc_gr03_Op l))] kr ?_)
    obtain ⟨x1, g1, hs⟩ := bS hs; obtain ⟨g1a, g1b, g1c⟩ := idx_some g1
    refine oP (v := .vp (enc_gr03_Op x1) 0) kr kr (loc_indexVs (e := 52) (sz := 4) (k := .i64) (els := (mM enc_gr03_Op l)) (cs := (enc_gr03_Op x1)) kr kr kr g1a (by rw [g1c]; exact map_get _ (by omega))) ?_
    refine oR 5 [(17, .bool (decide ((List.length x1.S : Int) > 200))), (16, .bool (decide ((List.length x1.S : Int) > 200))), (15, iI (List.length x1.S : Int)), (14, .str x1.S), (13, .vp (enc_gr03_Op x1) 1)] kr ?_
    cases h2 : ((decide ((List.length x1.S : Int) > 200)))
    ·replace hs := bif_f h2 hs
     refine oR 2 [(19, iI q1), (18, .vs 4 (mM enc_gr03_Op l))] kr ?_
     obtain ⟨x2, g2, hs⟩ := bS hs; obtain ⟨g2a, g2b, g2c⟩ := idx_some g2
     refine oP (v := .vp (enc_gr03_Op x2) 0) kr kr (loc_indexVs (e := 52) (sz := 4) (k := .i64) (els := (mM enc_gr03_Op l)) (cs := (enc_gr03_Op x2)) kr kr kr g2a (by rw [g2c]; exact map_get _ (by omega))) ?_
     refine oR 2 [(22, .vs 1 (mI x2.Keep)), (21, .vp (enc_gr03_Op x2) 3)] kr ?_
     refine oP (v := iI (List.length x2.Keep : Int)) kr kr (loc_lenVs (sz := 1) (els := (mI x2.Keep)) kr kr lM) ?_
     refine oR 2 [(25, .bool (decide ((List.length x2.Keep : Int) > 50))), (24, .bool (decide ((List.length x2.Keep : Int) > 50)))] kr ?_
     refine oN ?_
     obtain rfl := si hs
     refine nrm_join (decide ((List.length x2.Keep : Int) > 50)) rfl ?_
     exact cut_of [0, 3, 25] [] kr kr kr
    ·replace hs := bif_t h2 hs
     refine oR 8 [(25, .bool true), (24, .no), (23, .no), (22, .no), (21, .no), (20, .no), (19, .no), (18, .no)] kr ?_
     refine oN ?_
     cases hs
     refine nrm_join true rfl ?_
     exact cut_of [0, 3, 25] [] kr kr kr
   ·subst hz; clear hs; have hs := hk2; clear hk2
    refine nT ?_
    refine v_cond v2 kr (fun h3 => ?_) (fun h3 => ?_)
    ·replace hs := bif_t h3 hs
     refine vS (vT (oR 1 [(2, .bool false)] kr ?_))
     refine oN (nT (v_ret (rB (rT (ret_fuel ?_)))))
     refine rB (ret_join ?_)
     refine rT ?_
     obtain rfl := si hs
     replace hs := hk1
     cases hs
     exact fin_ret kr kr kr
    ·replace hs := bif_f h3 hs
     refine vK (nB (nT (vT (oR 3 [(3, iI (w64 (q1 + 1))), (9, iI (w64 (q1 + 1))), (8, iI q1)] kr ?_))))
     refine oN (nrm_fuel (w64 (q1 + 1)) hs ?_)
     exact cut_of [0, 3] [] kr kr kr
  ·replace hs := bif_f h1 hs
   refine v_exit (exit_thenV (exit_fuel ?_))
   refine exit_blkV ?_
   cases hs
   refine nrm_join () rfl ?_
   exact cut_of [0] [] kr kr kr
 ·subst hz; clear hs; have hs := hk1; clear hk1
  refine nT (vS (vT (oR 1 [(26, .vs 4 (mM enc_gr03_Op l))] kr ?_)))
  refine oP (v := iI (List.length l : Int)) kr kr (loc_lenVs (sz := 4) (els := (mM enc_gr03_Op l)) kr kr lM) ?_
  refine oR 2 [(2, .bool (decide ((List.length l : Int) ≤ 25))), (28, .bool (decide ((List.length l : Int) ≤ 25)))] kr ?_
  refine oN (nT (v_ret ?_))
  cases hs
  exact fin_ret kr kr kr
theorem w_gl03_texts (l : (List Sr)) (r : Bool) (hs : s_gl03_texts l = some r) : FnA Tryd.prog 8 [.vs 1 (mS l)] [] (.bool r) [] := by
 refine fnA_of_wp (N := 19) Tryd.func8 rfl rfl rfl fun cK0 => ?_
 unfold s_gl03_texts at hs
 refine v_same (ρ' := [(0, .vs 1 (mS l))]) rfl rfl ?_
 refine vS (vT (oR 1 [(2, .bool false)] kr ?_))
 refine oN (nT (vS (vS (vT (oR 1 [(3, iI 0)] kr ?_)))))
 refine oN (nT ?_)
 obtain ⟨z1, hs, hk1⟩ := bS hs
 refine v_join (S := Unit) (fun u => z1 = .inr u) (fun u => [(0, .vs 1 (mS l))]) (fun u => []) ?_ (fun v1 hz => ?_)
 ·refine vB ?_
  refine v_fuel (S := Int) (fun u => [(0, .vs 1 (mS l)), (3, iI u)]) (fun u => []) (s_gl03_texts_L1 l) (fun _ => rfl) KK 0 hs (cut_of [0, 3] [] kr kr kr) (fun K1 q1 hs => ?_)
  rw [s_gl03_texts_L1] at hs
  show WpV cK0 Tryd.prog none 19 _ _ [(0, .vs 1 (mS l)), (3, iI q1)] [] []
  refine vS (vS (vT (oR 2 [(5, .vs 1 (mS l)), (4, iI q1)] kr ?_)))
  refine oP (v := iI (List.length l : Int)) kr kr (loc_lenVs (sz := 1) (els := (mS l)) kr kr lM) ?_
  refine oR 1 [(7, .bool (decide (q1 < (List.length l : Int))))] kr ?_
  refine oN (nT ?_)
  refine v_cond (decide (q1 < (List.length l : Int))) kr (fun h1 => ?_) (fun h1 => ?_)
  ·replace hs := bif_t h1 hs
   refine vK (nT (vS (vB (vS (vT (oR 2 [(11, iI q1), (10, .vs 1 (mS l))] kr ?_))))))
   obtain ⟨x1, g1, hs⟩ := bS hs; obtain ⟨g1a, g1b, g1c⟩ := idx_some g1
   refine oP (v := .vp [.str x1] 0) kr kr (loc_indexVs (e := 9) (sz := 1) (k := .i64) (els := (mS l)) (cs := (EV.encS x1)) kr kr kr g1a (by rw [g1c]; exact map_get _ (by omega))) ?_
   refine oR 3 [(15, .bool (decide ((List.length x1 : Int) > 200))), (14, iI (List.length x1 : Int)), (13, .str x1)] kr ?_
   refine oN (nT ?_)
   refine v_cond (decide ((List.length x1 : Int) > 200)) kr (fun h2 => ?_) (fun h2 => ?_)
   ·replace hs := bif_t h2 hs
    refine vS (vT (oR 1 [(2, .bool false)] kr ?_))
    refine oN (nT (v_ret (rB (rT (ret_fuel ?_)))))
    refine rB (ret_join ?_)
    refine rT ?_
    obtain rfl := si hs
    replace hs := hk1
    cases hs
    exact fin_ret kr kr kr
   ·replace hs := bif_f h2 hs
    refine vK (nB (nT (vT (oR 3 [(3, iI (w64 (q1 + 1))), (9, iI (w64 (q1 + 1))), (8, iI q1)] kr ?_))))
    refine oN (nrm_fuel (w64 (q1 + 1)) hs ?_)
    exact cut_of [0, 3] [] kr kr kr
  ·replace hs := bif_f h1 hs
   refine v_exit (exit_thenV (exit_fuel ?_))
   refine exit_blkV ?_
   cases hs
   refine nrm_join () rfl ?_
   exact cut_of [0] [] kr kr kr
 ·subst hz; clear hs; have hs := hk1; clear hk1
  refine nT (vS (vT (oR 1 [(16, .vs 1 (mS l))] kr ?_)))
  refine oP (v := iI (List.length l : Int)) kr kr (loc_lenVs (sz := 1) (els := (mS l)) kr kr lM) ?_
  refine oR 2 [(2, .bool (decide ((List.length l : Int) ≤ 8))), (18, .bool (decide ((List.length l : Int) ≤ 8)))] kr ?_
  refine oN (nT (v_ret ?_))
  cases hs
  exact fin_ret kr kr kr
theorem w_gl03_JournalStays (l : (List greenbeltref03_Op)) (s : (List Sr)) (one : (List Int)) (two : (List Int)) (r : Bool) (hs : s_gl03_JournalStays l s one two = some r) : FnA Tryd.prog 5 [.vs 4 (mM enc_gr03_Op l), .vs 1 (mS s), .vs 1 (mI one), .vs 1 (mI two)] (gO ob0 ob1 ob2 u1 u2) (.bool r) (gO ob0 ob1 ob2 u1 u2) := by
 refine fnA_of_wp (N := 181) Tryd.func5 rfl rfl rfl fun cK0 => ?_
 unfold s_gl03_JournalStays at hs
 refine v_same (ρ' := [(0, .vs 4 (mM enc_gr03_Op l)), (1, .vs 1 (mS s)), (2, .vs 1 (mI one)), (3, .vs 1 (mI two))]) rfl rfl ?_
 refine vS (vT (oR 1 [(8, .bool false)] kr ?_))
 refine oN (nT (vS (vT ?_)))
 obtain ⟨y1, c1, hs⟩ := bS hs
 refine o_loc (F := (gO ob0 ob1 ob2 u1 u2)) (F' := (gO ob0 ob1 ob2 u1 u2)) (v := .bool y1) kG kr kr rfl kr (loc_gcallL (vs := []) (G := (gO ob0 ob1 ob2 u1 u2)) (R := []) (callV_func hbv7 kr) (w_gl03_small (ob0 := ob0) (ob1 := ob1) (ob2 := ob2) (u1 := u1) (u2 := u2)  _ c1) kr (.nil) kr kr kr) kr ?_
 refine oR 1 [(9, .bool y1)] kr ?_
 refine oN (nT (vS (vS ?_)))
 obtain ⟨z1, hs, hk1⟩ := bS hs
 refine v_join (S := Bool) (fun u => u = z1) (fun u => [(0, .vs 4 (mM enc_gr03_Op l)), (1, .vs 1 (mS s)), (2, .vs 1 (mI one)), (3, .vs 1 (mI two)), (9, .bool y1), (37, .bool u)]) (fun u => (gO ob0 ob1 ob2 u1 u2)) ?_ (fun v1 hz => ?_)
 ·refine vT (oR 1 [(20, .vs 4 (mM enc_gr03_Op l))] kr ?_)
  obtain ⟨y2, c2, hs⟩ := bS hs
  refine oP (v := .bool y2) kr kr (loc_gcall0 (callV_func hbv26 kr) (w_gl03_few l _ c2) kr) ?_
  refine oR 2 [(23, .bool (!y2)), (22, .bool (!y2))] kr ?_
  cases h1 : ((!y2))
  ·replace hs := bif_f h1 hs
   refine oR 1 [(24, .vs 1 (mS s))] kr ?_
   obtain ⟨y3, c3, hs⟩ := bS hs
   refine oP (v := .bool y3) kr kr (loc_gcall0 (callV_func hbv8 kr) (w_gl03_texts s _ c3) kr) ?_
   refine oR 3 [(28, .bool (!y3)), (27, .bool (!y3)), (26, .bool (!y3))] kr ?_
   cases h2 : ((!y3))
   ·replace hs := bif_f h2 hs
    refine oR 1 [(29, .vs 1 (mI one))] kr ?_
    refine oP (v := iI (List.length one : Int)) kr kr (loc_lenVs (sz := 1) (els := (mI one)) kr kr lM) ?_
    refine oR 3 [(33, .bool (decide ((List.length one : Int) > 50))), (32, .bool (decide ((List.length one : Int) > 50))), (31, .bool (decide ((List.length one : Int) > 50)))] kr ?_
    cases h3 : ((decide ((List.length one : Int) > 50)))
    ·replace hs := bif_f h3 hs
     refine oR 1 [(34, .vs 1 (mI two))] kr ?_
     refine oP (v := iI (List.length two : Int)) kr kr (loc_lenVs (sz := 1) (els := (mI two)) kr kr lM) ?_
     refine oR 2 [(37, .bool (decide ((List.length two : Int) > 50))), (36, .bool (decide ((List.length two : Int) > 50)))] kr ?_
     refine oN ?_
     obtain rfl := si hs
     refine nrm_join (decide ((List.length two : Int) > 50)) rfl ?_
     exact cut_of [0, 1, 2, 3, 9, 37] kG kr kr kr
    ·replace hs := bif_t h3 hs
     refine oR 4 [(37, .bool true), (36, .no), (35, .no), (34, .no)] kr ?_
     refine oN ?_
     cases hs
     refine nrm_join true rfl ?_
     exact cut_of [0, 1, 2, 3, 9, 37] kG kr kr kr
   ·replace hs := bif_t h2 hs
    refine oR 9 [(37, .bool true), (36, .no), (35, .no), (34, .no), (33, .bool true), (32, .bool true), (31, .no), (30, .no), (29, .no)] kr ?_
    refine oN ?_
    cases hs
    refine nrm_join true rfl ?_
    exact cut_of [0, 1, 2, 3, 9, 37] kG kr kr kr
  ·replace hs := bif_t h1 hs
   refine oR 14 [(37, .bool true), (36, .no), (35, .no), (34, .no), (33, .bool true), (32, .bool true), (31, .no), (30, .no), (29, .no), (28, .bool true), (27, .bool true), (26, .no), (25, .no), (24, .no)] kr ?_
   refine oN ?_
   cases hs
   refine nrm_join true rfl ?_
   exact cut_of [0, 1, 2, 3, 9, 37] kG kr kr kr
 ·subst hz; clear hs; have hs := hk1; clear hk1
  refine nT ?_
  refine v_cond v1 kr (fun h4 => ?_) (fun h4 => ?_)
  ·replace hs := bif_t h4 hs
   refine vS (vT (oR 2 [(8, .bool y1), (38, .bool y1)] kr ?_))
   refine oN (nT (v_ret (rT ?_)))
   cases hs
   exact fin_ret kr kr kr
  ·replace hs := bif_f h4 hs
   refine vK (nT (vS (vT ?_)))
   obtain ⟨y4, c4, hs⟩ := bS hs
   refine o_loc (F := []) (F' := [(3003900, .gen (EV.hide sJ (stF y4.2)))]) (v := .gv 3003900 (hpl 1 0)) [] kr kr rfl kr (loc_g (R := []) [] [(1000000, 3003900)] (callV_func hbv9 kr) (wk_new _ c4) (.nil) kr kr kr kr kr kr kr kr) kr ?_
   refine oR 1 [(10, .gv 3003900 (hpl 1 0))] kr ?_
   refine oN (nT (vS (vS (vT (oR 1 [(40, .gv 3003900 (hpl 1 0))] kr ?_)))))
   refine oP (v := .bool false) kr kr (loc_hplNil_eql (k := 3003900) (b := 1) (off := 0) kr kr kr) ?_
   refine oN (nT (v_cond_f kr ?_))
   refine vK (nT (vS (vT (oR 1 [(43, .gv 3003900 (hpl 1 0))] kr ?_))))
   obtain ⟨y5, c5, hs⟩ := bS hs
   refine o_loc (F := [(3003900, .gen (EV.hide sJ (stF y4.2))), (900000000, gl0 ob0), (900000001, gl1 ob1 u1), (900000002, gl2 ob2 u2)]) (F' := [(3003900, .gen (EV.hide sJ (stF y5.2))), (900000000, gl0 ob0), (900000001, gl1 ob1 u1), (900000002, gl2 ob2 u2)]) (v := .tup [.gv 3003900 (jpv jb y5.1.1), iI y5.1.2]) [3003900, 900000000, 900000001, 900000002] kr kr rfl kr (loc_g (R := []) [.gv 3003900 (hpl 1 0), iI 0] [(1000000, 3003900), (900000000, 900000000), (900000001, 900000001), (900000002, 900000002)] (callV_func hbv10 kr) (wk_open (ob0 := ob0) (ob1 := ob1) (ob2 := ob2) (u1 := u1) (u2 := u2) y4.2 0 _ c5) vw2 kr kr kr kr kr kr kr kr) kr ?_
   refine oR 5 [(12, iI y5.1.2), (11, .gv 3003900 (jpv jb y5.1.1)), (46, iI y5.1.2), (45, .gv 3003900 (jpv jb y5.1.1)), (42, .tup [.gv 3003900 (jpv jb y5.1.1), iI y5.1.2])] kr ?_
   refine oN (nT (vS (vS (vT (oR 1 [(13, iI 0)] kr ?_)))))
   refine oN (nT ?_)
   obtain ⟨z2, hs, hk2⟩ := bS hs
   refine v_join (S := Nat × Wd) (fun u => u = z2) (fun u => [(1, .vs 1 (mS s)), (2, .vs 1 (mI one)), (3, .vs 1 (mI two)), (9, .bool y1), (10, .gv 3003900 (hpl 1 0)), (11, .gv 3003900 (jpv jb u.1))]) (fun u => [(3003900, .gen (EV.hide sJ (stF u.2))), (900000000, gl0 ob0), (900000001, gl1 ob1 u1), (900000002, gl2 ob2 u2)]) ?_ (fun v2 hz => ?_)
   ·refine vB ?_
    refine v_fuel (S := Nat × Int × Wd) (fun u => [(0, .vs 4 (mM enc_gr03_Op l)), (1, .vs 1 (mS s)), (2, .vs 1 (mI one)), (3, .vs 1 (mI two)), (9, .bool y1), (10, .gv 3003900 (hpl 1 0)), (11, .gv 3003900 (jpv jb u.1)), (13, iI u.2.1)]) (fun u => [(3003900, .gen (EV.hide sJ (stF u.2.2))), (900000000, gl0 ob0), (900000001, gl1 ob1 u1), (900000002, gl2 ob2 u2)]) (s_gl03_JournalStays_L1 l) (fun _ => rfl) KK (y5.1.1, 0, y5.2) hs (cut_of [0, 1, 2, 3, 9, 10, 11, 13] [3003900, 900000000, 900000001, 900000002] kr kr kr) (fun K1 q1 hs => ?_)
    rw [s_gl03_JournalStays_L1] at hs
    show WpV cK0 Tryd.prog none 181 _ _ [(0, .vs 4 (mM enc_gr03_Op l)), (1, .vs 1 (mS s)), (2, .vs 1 (mI one)), (3, .vs 1 (mI two)), (9, .bool y1), (10, .gv 3003900 (hpl 1 0)), (11, .gv 3003900 (jpv jb q1.1)), (13, iI q1.2.1)] [(3003900, .gen (EV.hide sJ (stF q1.2.2))), (900000000, gl0 ob0), (900000001, gl1 ob1 u1), (900000002, gl2 ob2 u2)] []
    refine vS (vS (vT (oR 2 [(48, .vs 4 (mM enc_gr03_Op l)), (47, iI q1.2.1)] kr ?_)))
    refine oP (v := iI (List.length l : Int)) kr kr (loc_lenVs (sz := 4) (els := (mM enc_gr03_Op l)) kr kr lM) ?_
    refine oR 1 [(50, .bool (decide (q1.2.1 < (List.length l : Int))))] kr ?_
    refine oN (nT ?_)
    refine v_cond (decide (q1.2.1 < (List.length l : Int))) kr (fun h5 => ?_) (fun h5 => ?_)
    ·replace hs := bif_t h5 hs
     refine vK (nT (vS (vB (vS (vT (oR 2 [(54, iI q1.2.1), (53, .vs 4 (mM enc_gr03_Op l))] kr ?_))))))
     obtain ⟨x1, g1, hs⟩ := bS hs; obtain ⟨g1a, g1b, g1c⟩ := idx_some g1
     refine oP (v := .vp (enc_gr03_Op x1) 0) kr kr (loc_indexVs (e := 52) (sz := 4) (k := .i64) (els := (mM enc_gr03_Op l)) (cs := (enc_gr03_Op x1)) kr kr kr g1a (by rw [g1c]; exact map_get _ (by omega))) ?_
     refine oR 2 [(57, iI x1.Kind), (56, .vp (enc_gr03_Op x1) 0)] kr ?_
     refine oN (nT (vB (vS (vT (oR 2 [(58, .bool (decide (x1.Kind = 0))), (59, .bool (decide (x1.Kind = 0)))] kr ?_)))))
     refine oN (nT ?_)
     obtain ⟨z3, hs, hk3⟩ := bS hs
     refine v_join (S := Nat × Wd) (fun u => u = z3) (fun u => [(0, .vs 4 (mM enc_gr03_Op l)), (1, .vs 1 (mS s)), (2, .vs 1 (mI one)), (3, .vs 1 (mI two)), (9, .bool y1), (10, .gv 3003900 (hpl 1 0)), (11, .gv 3003900 (jpv jb u.1)), (13, iI q1.2.1)]) (fun u => [(3003900, .gen (EV.hide sJ (stF u.2))), (900000000, gl0 ob0), (900000001, gl1 ob1 u1), (900000002, gl2 ob2 u2)]) ?_ (fun v3 hz => ?_)
     ·refine v_cond (decide (x1.Kind = 0)) kr (fun h6 => ?_) (fun h6 => ?_)
      ·replace hs := bif_t h6 hs
       refine vS (vT (oR 1 [(60, .gv 3003900 (jpv jb q1.1))] kr ?_))
       refine oP (v := .bool (!(decide (q1.1 = 0)))) kr kr (loc_jpvNil_neq (k := 3003900) (a := jb) (i := q1.1) kr kr kr) ?_
       refine oN (nT ?_)
       refine v_cond (!(decide (q1.1 = 0))) kr (fun h7 => ?_) (fun h7 => ?_)
       ·replace hs := bif_t h7 hs
        refine vT (oR 3 [(64, iI q1.2.1), (63, .vs 4 (mM enc_gr03_Op l)), (62, .gv 3003900 (jpv jb q1.1))] kr ?_)
        obtain ⟨x2, g2, hs⟩ := bS hs; obtain ⟨g2a, g2b, g2c⟩ := idx_some g2
        refine oP (v := .vp (enc_gr03_Op x2) 0) kr kr (loc_indexVs (e := 52) (sz := 4) (k := .i64) (els := (mM enc_gr03_Op l)) (cs := (enc_gr03_Op x2)) kr kr kr g2a (by rw [g2c]; exact map_get _ (by omega))) ?_
        refine oR 2 [(67, .str x2.S), (66, .vp (enc_gr03_Op x2) 1)] kr ?_
        obtain ⟨y6, c6, hs⟩ := bS hs
        refine o_loc (F := [(3003900, .gen (EV.hide sJ (stF q1.2.2))), (900000000, gl0 ob0), (900000001, gl1 ob1 u1), (900000002, gl2 ob2 u2)]) (F' := [(3003900, .gen (EV.hide sJ (stF y6.2))), (900000000, gl0 ob0), (900000001, gl1 ob1 u1), (900000002, gl2 ob2 u2)]) (v := iI y6.1) [3003900, 900000000, 900000001, 900000002] kr kr rfl kr (loc_g (R := []) [.gv 3003900 (jpv jb q1.1), .str x2.S] [(1000000, 3003900), (900000000, 900000000), (900000001, 900000001), (900000002, 900000002)] (callV_func hbv11 kr) (wk_append (ob0 := ob0) (ob1 := ob1) (ob2 := ob2) (u1 := u1) (u2 := u2) q1.2.2 q1.1 x2.S _ c6) vw2 kr kr kr kr kr kr kr kr) kr ?_
        refine oN ?_
        obtain rfl := si hs
        refine nrm_join (q1.1, y6.2) rfl ?_
        exact cut_of [0, 1, 2, 3, 9, 10, 11, 13] [3003900, 900000000, 900000001, 900000002] kr kr kr
       ·replace hs := bif_f h7 hs
        refine vK ?_
        obtain rfl := si hs
        refine nrm_join (q1.1, q1.2.2) rfl ?_
        exact cut_of [0, 1, 2, 3, 9, 10, 11, 13] [3003900, 900000000, 900000001, 900000002] kr kr kr
      ·replace hs := bif_f h6 hs
       refine vS (vT (oR 2 [(69, .bool (decide (x1.Kind = 1))), (70, .bool (decide (x1.Kind = 1)))] kr ?_))
       refine oN (nT ?_)
       refine v_cond (decide (x1.Kind = 1)) kr (fun h8 => ?_) (fun h8 => ?_)
       ·replace hs := bif_t h8 hs
        refine vS (vT (oR 1 [(71, .gv 3003900 (jpv jb q1.1))] kr ?_))
        refine oP (v := .bool (!(decide (q1.1 = 0)))) kr kr (loc_jpvNil_neq (k := 3003900) (a := jb) (i := q1.1) kr kr kr) ?_
        refine oN (nT ?_)
        refine v_cond (!(decide (q1.1 = 0))) kr (fun h9 => ?_) (fun h9 => ?_)
        ·replace hs := bif_t h9 hs
         refine vT (oR 1 [(73, .gv 3003900 (jpv jb q1.1))] kr ?_)
         obtain ⟨y7, c7, hs⟩ := bS hs
         refine o_loc (F := [(3003900, .gen (EV.hide sJ (stF q1.2.2))), (900000000, gl0 ob0), (900000001, gl1 ob1 u1), (900000002, gl2 ob2 u2)]) (F' := [(3003900, .gen (EV.hide sJ (stF y7.2))), (900000000, gl0 ob0), (900000001, gl1 ob1 u1), (900000002, gl2 ob2 u2)]) (v := iI y7.1) [3003900, 900000000, 900000001, 900000002] kr kr rfl kr (loc_g (R := []) [.gv 3003900 (jpv jb q1.1)] [(1000000, 3003900), (900000000, 900000000), (900000001, 900000001), (900000002, 900000002)] (callV_func hbv27 kr) (wk_sync (ob0 := ob0) (ob1 := ob1) (ob2 := ob2) (u1 := u1) (u2 := u2) q1.2.2 q1.1 _ c7) (.cons (.same _) (.nil)) kr kr kr kr kr kr kr kr) kr ?_
         refine oN ?_
         obtain rfl := si hs
         refine nrm_join (q1.1, y7.2) rfl ?_
         exact cut_of [0, 1, 2, 3, 9, 10, 11, 13] [3003900, 900000000, 900000001, 900000002] kr kr kr
        ·replace hs := bif_f h9 hs
         refine vK ?_
         obtain rfl := si hs
         refine nrm_join (q1.1, q1.2.2) rfl ?_
         exact cut_of [0, 1, 2, 3, 9, 10, 11, 13] [3003900, 900000000, 900000001, 900000002] kr kr kr
       ·replace hs := bif_f h8 hs
        refine vS (vT (oR 2 [(75, .bool (decide (x1.Kind = 2))), (76, .bool (decide (x1.Kind = 2)))] kr ?_))
        refine oN (nT ?_)
        refine v_cond (decide (x1.Kind = 2)) kr (fun h10 => ?_) (fun h10 => ?_)
        ·replace hs := bif_t h10 hs
         refine vT (oR 3 [(79, iI q1.2.1), (78, .vs 4 (mM enc_gr03_Op l)), (77, .gv 3003900 (hpl 1 0))] kr ?_)
         obtain ⟨x3, g3, hs⟩ := bS hs; obtain ⟨g3a, g3b, g3c⟩ := idx_some g3
         refine oP (v := .vp (enc_gr03_Op x3) 0) kr kr (loc_indexVs (e := 52) (sz := 4) (k := .i64) (els := (mM enc_gr03_Op l)) (cs := (enc_gr03_Op x3)) kr kr kr g3a (by rw [g3c]; exact map_get _ (by omega))) ?_
         refine oR 2 [(82, iI x3.N), (81, .vp (enc_gr03_Op x3) 2)] kr ?_
         obtain ⟨y8, c8, hs⟩ := bS hs
         refine o_loc (F := [(3003900, .gen (EV.hide sJ (stF q1.2.2))), (900000000, gl0 ob0), (900000001, gl1 ob1 u1), (900000002, gl2 ob2 u2)]) (F' := [(3003900, .gen (EV.hide sJ (stF y8.2))), (900000000, gl0 ob0), (900000001, gl1 ob1 u1), (900000002, gl2 ob2 u2)]) (v := .tup []) [3003900, 900000000, 900000001, 900000002] kr kr rfl kr (loc_g (R := []) [.gv 3003900 (hpl 1 0), iI x3.N] [(1000000, 3003900), (900000000, 900000000), (900000001, 900000001), (900000002, 900000002)] (callV_func hbv28 kr) (wk_lose (ob0 := ob0) (ob1 := ob1) (ob2 := ob2) (u1 := u1) (u2 := u2) q1.2.2 x3.N _ c8) vw2 kr kr kr kr kr kr kr kr) kr ?_
         refine oN ?_
         obtain rfl := si hs
         refine nrm_join (q1.1, y8.2) rfl ?_
         exact cut_of [0, 1, 2, 3, 9, 10, 11, 13] [3003900, 900000000, 900000001, 900000002] kr kr kr
        ·replace hs := bif_f h10 hs
         refine vS (vT (oR 2 [(84, .bool (decide (x1.Kind = 4))), (85, .bool (decide (x1.Kind = 4)))] kr ?_))
         refine oN (nT ?_)
         refine v_cond (decide (x1.Kind = 4)) kr (fun h11 => ?_) (fun h11 => ?_)
         ·replace hs := bif_t h11 hs
          refine vS (vT (oR 3 [(88, iI q1.2.1), (87, .vs 4 (mM enc_gr03_Op l)), (86, .gv 3003900 (hpl 1 0))] kr ?_))
          obtain ⟨x4, g4, hs⟩ := bS hs; obtain ⟨g4a, g4b, g4c⟩ := idx_some g4
          refine oP (v := .vp (enc_gr03_Op x4) 0) kr kr (loc_indexVs (e := 52) (sz := 4) (k := .i64) (els := (mM enc_gr03_Op l)) (cs := (enc_gr03_Op x4)) kr kr kr g4a (by rw [g4c]; exact map_get _ (by omega))) ?_
          refine oR 2 [(91, .vs 1 (mI x4.Keep)), (90, .vp (enc_gr03_Op x4) 3)] kr ?_
          obtain ⟨y9, c9, hs⟩ := bS hs
          refine o_loc (F := [(3003900, .gen (EV.hide sJ (stF q1.2.2))), (900000000, gl0 ob0), (900000001, gl1 ob1 u1), (900000002, gl2 ob2 u2)]) (F' := [(3003900, .gen (EV.hide sJ (stF y9.2))), (900000000, gl0 ob0), (900000001, gl1 ob1 u1), (900000002, gl2 ob2 u2)]) (v := .tup []) [3003900, 900000000, 900000001, 900000002] kr kr rfl kr (loc_g (R := []) [.gv 3003900 (hpl 1 0), .vs 1 (mI x4.Keep)] [(1000000, 3003900), (900000000, 900000000), (900000001, 900000001), (900000002, 900000002)] (callV_func hbv29 kr) (wk_crash (ob0 := ob0) (ob1 := ob1) (ob2 := ob2) (u1 := u1) (u2 := u2) q1.2.2 x4.Keep _ c9) vw2 kr kr kr kr kr kr kr kr) kr ?_
          refine oN (nT (vS (vT (oR 1 [(93, .gv 3003900 (hpl 1 0))] kr ?_))))
          obtain ⟨y10, c10, hs⟩ := bS hs
          refine o_loc (F := [(3003900, .gen (EV.hide sJ (stF y9.2))), (900000000, gl0 ob0), (900000001, gl1 ob1 u1), (900000002, gl2 ob2 u2)]) (F' := [(3003900, .gen (EV.hide sJ (stF y10.2))), (900000000, gl0 ob0), (900000001, gl1 ob1 u1), (900000002, gl2 ob2 u2)]) (v := .tup []) [3003900, 900000000, 900000001, 900000002] kr kr rfl kr (loc_g (R := []) [.gv 3003900 (hpl 1 0)] [(1000000, 3003900), (900000000, 900000000), (900000001, 900000001), (900000002, 900000002)] (callV_func hbv30 kr) (wk_start (ob0 := ob0) (ob1 := ob1) (ob2 := ob2) (u1 := u1) (u2 := u2) y9.2 _ c10) (.cons (.same _) (.nil)) kr kr kr kr kr kr kr kr) kr ?_
          refine oN (nT (vT (oR 1 [(96, .gv 3003900 (hpl 1 0))] kr ?_)))
          obtain ⟨y11, c11, hs⟩ := bS hs
          refine o_loc (F := [(3003900, .gen (EV.hide sJ (stF y10.2))), (900000000, gl0 ob0), (900000001, gl1 ob1 u1), (900000002, gl2 ob2 u2)]) (F' := [(3003900, .gen (EV.hide sJ (stF y11.2))), (900000000, gl0 ob0), (900000001, gl1 ob1 u1), (900000002, gl2 ob2 u2)]) (v := .tup [.gv 3003900 (jpv jb y11.1.1), iI y11.1.2]) [3003900, 900000000, 900000001, 900000002] kr kr rfl kr (loc_g (R := []) [.gv 3003900 (hpl 1 0), iI 0] [(1000000, 3003900), (900000000, 900000000), (900000001, 900000001), (900000002, 900000002)] (callV_func hbv10 kr) (wk_open (ob0 := ob0) (ob1 := ob1) (ob2 := ob2) (u1 := u1) (u2 := u2) y10.2 0 _ c11) vw2 kr kr kr kr kr kr kr kr) kr ?_
          refine oR 4 [(11, .gv 3003900 (jpv jb y11.1.1)), (99, iI y11.1.2), (98, .gv 3003900 (jpv jb y11.1.1)), (95, .tup [.gv 3003900 (jpv jb y11.1.1), iI y11.1.2])] kr ?_
          refine oN ?_
          obtain rfl := si hs
          refine nrm_join (y11.1.1, y11.2) rfl ?_
          exact cut_of [0, 1, 2, 3, 9, 10, 11, 13] [3003900, 900000000, 900000001, 900000002] kr kr kr
         ·replace hs := bif_f h11 hs
          refine vK ?_
          obtain rfl := si hs
          refine nrm_join (q1.1, q1.2.2) rfl ?_
          exact cut_of [0, 1, 2, 3, 9, 10, 11, 13] [3003900, 900000000, 900000001, 900000002] kr kr kr
     ·subst hz; clear hs; have hs := hk3; clear hk3
      refine nB (nB (nT (vT (oR 3 [(13, iI (w64 (q1.2.1 + 1))), (52, iI (w64 (q1.2.1 + 1))), (51, iI q1.2.1)] kr ?_))))
      refine oN (nrm_fuel (v3.1, (w64 (q1.2.1 + 1)), v3.2) hs ?_)
      exact cut_of [0, 1, 2, 3, 9, 10, 11, 13] [3003900, 900000000, 900000001, 900000002] kr kr kr
    ·replace hs := bif_f h5 hs
     refine v_exit (exit_thenV (exit_fuel ?_))
     refine exit_blkV ?_
     obtain rfl := si hs
     refine nrm_join (q1.1, q1.2.2) rfl ?_
     exact cut_of [1, 2, 3, 9, 10, 11] [3003900, 900000000, 900000001, 900000002] kr kr kr
   ·subst hz; clear hs; have hs := hk2; clear hk2
    refine nT (vS (vS (vT (oR 1 [(100, .gv 3003900 (jpv jb v2.1))] kr ?_))))
    refine oP (v := .bool (decide (v2.1 = 0))) kr kr (loc_jpvNil_eql (k := 3003900) (a := jb) (i := v2.1) kr kr kr) ?_
    refine oN (nT ?_)
    refine v_cond (decide (v2.1 = 0)) kr (fun h12 => ?_) (fun h12 => ?_)
    ·replace hs := bif_t h12 hs
     refine vS (vT (oR 2 [(8, .bool y1), (102, .bool y1)] kr ?_))
     refine oN (nT (v_ret (rT ?_)))
     cases hs
     exact fin_ret kr kr kr
    ·replace hs := bif_f h12 hs
     refine vK (nT (vS (vT (oR 1 [(103, .gv 3003900 (jpv jb v2.1))] kr ?_))))
     obtain ⟨y12, c12, hs⟩ := bS hs
     refine o_loc (F := [(3003900, .gen (EV.hide sJ (stF v2.2))), (900000000, gl0 ob0), (900000001, gl1 ob1 u1), (900000002, gl2 ob2 u2)]) (F' := [(3003900, .gen (EV.hide sJ (stF y12.2))), (3010400, .row 9 1 0 (mS y12.1)), (900000000, gl0 ob0), (900000001, gl1 ob1 u1), (900000002, gl2 ob2 u2)]) (v := .sl 1 3010400 ((y12.1).length) 0 ((y12.1).length)) [3003900, 900000000, 900000001, 900000002] kr kr rfl kr (loc_g (R := []) [.gv 3003900 (jpv jb v2.1)] [(1000000, 3003900), (1000001, 3010400), (900000000, 900000000), (900000001, 900000001), (900000002, 900000002)] (callV_func hbv16 kr) (wk_all (ob0 := ob0) (ob1 := ob1) (ob2 := ob2) (u1 := u1) (u2 := u2) v2.2 v2.1 _ c12) (.cons (.same _) (.nil)) kr kr kr kr kr kr kr kr) kr ?_
     refine oR 1 [(14, .sl 1 3010400 ((y12.1).length) 0 ((y12.1).length))] kr ?_
     refine oN (nT (vS (vS (vT (oR 1 [(15, iI 0)] kr ?_)))))
     refine oN (nT ?_)
     obtain ⟨z4, hs, hk4⟩ := bS hs
     refine v_join (S := Wd × (List Sr)) (fun u => z4 = .inr u) (fun u => [(2, .vs 1 (mI one)), (3, .vs 1 (mI two)), (9, .bool y1), (10, .gv 3003900 (hpl 1 0)), (11, .gv 3003900 (jpv jb v2.1)), (14, .sl 1 3010400 ((u.2).length) 0 ((u.2).length))]) (fun u => [(3003900, .gen (EV.hide sJ (stF u.1))), (3010400, .row 9 1 0 (mS u.2)), (900000000, gl0 ob0), (900000001, gl1 ob1 u1), (900000002, gl2 ob2 u2)]) ?_ (fun v4 hz => ?_)
     ·refine vB ?_
      refine v_fuel (S := Int × Wd × (List Sr)) (fun u => [(1, .vs 1 (mS s)), (2, .vs 1 (mI one)), (3, .vs 1 (mI two)), (9, .bool y1), (10, .gv 3003900 (hpl 1 0)), (11, .gv 3003900 (jpv jb v2.1)), (14, .sl 1 3010400 ((u.2.2).length) 0 ((u.2.2).length)), (15, iI u.1)]) (fun u => [(3003900, .gen (EV.hide sJ (stF u.2.1))), (3010400, .row 9 1 0 (mS u.2.2)), (900000000, gl0 ob0), (900000001, gl1 ob1 u1), (900000002, gl2 ob2 u2)]) (s_gl03_JournalStays_L2 s v2) (fun _ => rfl) KK (0, y12.2, y12.1) hs (cut_of [1, 2, 3, 9, 10, 11, 14, 15] [3003900, 3010400, 900000000, 900000001, 900000002] kr kr kr) (fun K2 q2 hs => ?_)
      rw [s_gl03_JournalStays_L2] at hs
      show WpV cK0 Tryd.prog none 181 _ _ [(1, .vs 1 (mS s)), (2, .vs 1 (mI one)), (3, .vs 1 (mI two)), (9, .bool y1), (10, .gv 3003900 (hpl 1 0)), (11, .gv 3003900 (jpv jb v2.1)), (14, .sl 1 3010400 ((q2.2.2).length) 0 ((q2.2.2).length)), (15, iI q2.1)] [(3003900, .gen (EV.hide sJ (stF q2.2.1))), (3010400, .row 9 1 0 (mS q2.2.2)), (900000000, gl0 ob0), (900000001, gl1 ob1 u1), (900000002, gl2 ob2 u2)] []
      refine vS (vS (vT (oR 2 [(106, .vs 1 (mS s)), (105, iI q2.1)] kr ?_)))
      refine oP (v := iI (List.length s : Int)) kr kr (loc_lenVs (sz := 1) (els := (mS s)) kr kr lM) ?_
      refine oR 1 [(108, .bool (decide (q2.1 < (List.length s : Int))))] kr ?_
      refine oN (nT ?_)
      refine v_cond (decide (q2.1 < (List.length s : Int))) kr (fun h13 => ?_) (fun h13 => ?_)
      ·replace hs := bif_t h13 hs
       refine vK (nT (vS (vB (vS (vT (oR 3 [(113, iI q2.1), (112, .vs 1 (mS s)), (111, .gv 3003900 (jpv jb v2.1))] kr ?_))))))
       obtain ⟨x5, g5, hs⟩ := bS hs; obtain ⟨g5a, g5b, g5c⟩ := idx_some g5
       refine oP (v := .vp [.str x5] 0) kr kr (loc_indexVs (e := 9) (sz := 1) (k := .i64) (els := (mS s)) (cs := (EV.encS x5)) kr kr kr g5a (by rw [g5c]; exact map_get _ (by omega))) ?_
       refine oR 1 [(115, .str x5)] kr ?_
       obtain ⟨y13, c13, hs⟩ := bS hs
       refine o_loc (F := [(3003900, .gen (EV.hide sJ (stF q2.2.1))), (900000000, gl0 ob0), (900000001, gl1 ob1 u1), (900000002, gl2 ob2 u2)]) (F' := [(3003900, .gen (EV.hide sJ (stF y13.2))), (900000000, gl0 ob0), (900000001, gl1 ob1 u1), (900000002, gl2 ob2 u2)]) (v := iI y13.1) [3003900, 900000000, 900000001, 900000002] kr kr rfl kr (loc_g (R := []) [.gv 3003900 (jpv jb v2.1), .str x5] [(1000000, 3003900), (900000000, 900000000), (900000001, 900000001), (900000002, 900000002)] (callV_func hbv11 kr) (wk_append (ob0 := ob0) (ob1 := ob1) (ob2 := ob2) (u1 := u1) (u2 := u2) q2.2.1 v2.1 x5 _ c13) vw2 kr kr kr kr kr kr kr kr) kr ?_
       refine oR 1 [(16, iI y13.1)] kr ?_
       refine oN (nT (vS (vS ?_)))
       obtain ⟨z5, hs, hk5⟩ := bS hs
       refine v_join (S := Bool) (fun u => u = z5) (fun u => [(1, .vs 1 (mS s)), (2, .vs 1 (mI one)), (3, .vs 1 (mI two)), (9, .bool y1), (10, .gv 3003900 (hpl 1 0)), (11, .gv 3003900 (jpv jb v2.1)), (14, .sl 1 3010400 ((q2.2.2).length) 0 ((q2.2.2).length)), (15, iI q2.1), (16, iI y13.1), (122, .bool u)]) (fun u => [(3003900, .gen (EV.hide sJ (stF y13.2))), (3010400, .row 9 1 0 (mS q2.2.2)), (900000000, gl0 ob0), (900000001, gl1 ob1 u1), (900000002, gl2 ob2 u2)]) ?_ (fun v5 hz => ?_)
       ·refine vT (oR 3 [(119, .bool (!(decide (y13.1 = 0)))), (118, .bool (!(decide (y13.1 = 0)))), (117, iI y13.1)] kr ?_)
        cases h14 : ((!(decide (y13.1 = 0))))
        ·replace hs := bif_f h14 hs
         refine oR 3 [(122, .bool false), (121, .no), (120, .no)] kr ?_
         refine oN ?_
         cases hs
         refine nrm_join false rfl ?_
         exact cut_of [1, 2, 3, 9, 10, 11, 14, 15, 16, 122] [3003900, 3010400, 900000000, 900000001, 900000002] kr kr kr
        ·replace hs := bif_t h14 hs
         refine oR 3 [(122, .bool (!(decide (y13.1 = 7)))), (121, .bool (!(decide (y13.1 = 7)))), (120, iI y13.1)] kr ?_
         refine oN ?_
         obtain rfl := si hs
         refine nrm_join (!(decide (y13.1 = 7))) rfl ?_
         exact cut_of [1, 2, 3, 9, 10, 11, 14, 15, 16, 122] [3003900, 3010400, 900000000, 900000001, 900000002] kr kr kr
       ·subst hz; clear hs; have hs := hk5; clear hk5
        refine nT ?_
        refine v_cond v5 kr (fun h15 => ?_) (fun h15 => ?_)
        ·replace hs := bif_t h15 hs
         refine vS (vT (oR 1 [(8, .bool false)] kr ?_))
         refine oN (nT (v_ret (rT (rB (rT (ret_fuel ?_))))))
         refine rB (ret_join ?_)
         refine rT ?_
         obtain rfl := si hs
         replace hs := hk4
         cases hs
         exact fin_ret kr kr kr
        ·replace hs := bif_f h15 hs
         refine vK (nT (vS (vT (oR 2 [(124, .bool (decide (y13.1 = 0))), (123, iI y13.1)] kr ?_))))
         refine oN (nT ?_)
         obtain ⟨z6, hs, hk6⟩ := bS hs
         refine v_join (S := (List Sr)) (fun u => u = z6) (fun u => [(1, .vs 1 (mS s)), (2, .vs 1 (mI one)), (3, .vs 1 (mI two)), (9, .bool y1), (10, .gv 3003900 (hpl 1 0)), (11, .gv 3003900 (jpv jb v2.1)), (14, .sl 1 3010400 ((u).length) 0 ((u).length)), (15, iI q2.1)]) (fun u => [(3010400, .row 9 1 0 (mS u)), (3003900, .gen (EV.hide sJ (stF y13.2))), (900000000, gl0 ob0), (900000001, gl1 ob1 u1), (900000002, gl2 ob2 u2)]) ?_ (fun v6 hz => ?_)
         ·refine v_cond (decide (y13.1 = 0)) kr (fun h16 => ?_) (fun h16 => ?_)
          ·replace hs := bif_t h16 hs
           refine vT (oR 3 [(127, iI q2.1), (126, .vs 1 (mS s)), (125, .sl 1 3010400 ((q2.2.2).length) 0 ((q2.2.2).length))] kr ?_)
           obtain ⟨x6, g6, hs⟩ := bS hs; obtain ⟨g6a, g6b, g6c⟩ := idx_some g6
           refine oP (v := .vp [.str x6] 0) kr kr (loc_indexVs (e := 9) (sz := 1) (k := .i64) (els := (mS s)) (cs := (EV.encS x6)) kr kr kr g6a (by rw [g6c]; exact map_get _ (by omega))) ?_
           refine o_runh 2 [(130, .sl 1 130 1 0 1), (129, .str x6)] [(130, .row 9 1 0 (mS [x6])), (3003900, .gen (EV.hide sJ (stF y13.2))), (3010400, .row 9 1 0 (mS q2.2.2)), (900000000, gl0 ob0), (900000001, gl1 ob1 u1), (900000002, gl2 ob2 u2)] kr ?_
           obtain ⟨_, g7, hs⟩ := bS hs; replace g7 := grd_some g7
           refine o_loc (F := [(3010400, .row 9 1 0 (mS q2.2.2)), (130, .row 9 1 0 (mS [x6]))]) (F' := [(3010400, .row 9 1 0 (mS (q2.2.2 ++ [x6]))), (130, .row 9 1 0 (mS [x6]))]) (v := .sl 1 3010400 (((q2.2.2 ++ [x6])).length) 0 (((q2.2.2 ++ [x6])).length)) [3010400, 130] kr kr rfl kr (loc_appendT (e := 9) (sz := 1) (bytes := 16) (L := (q2.2.2).length) (els := (mS q2.2.2)) (ys := (mS [x6])) kr kr (by first | exact List.length_map .. | rfl) (.sl (t := 9) (fz := 0) (ys := (mS [x6])) kr kr) (map_ones EV.encS (fun _ => rfl) _) (map_lens EV.encS (fun _ => rfl) _) kr (by first | exact (List.map_append ..).symm | rfl | simp only [List.map_nil, List.nil_append]) (List.length_map ..) g7 (by omega)) kr ?_
           refine oR 1 [(14, .sl 1 3010400 (((q2.2.2 ++ [x6])).length) 0 (((q2.2.2 ++ [x6])).length))] kr ?_
           refine oN ?_
           obtain rfl := si hs
           refine nrm_join (q2.2.2 ++ [x6]) rfl ?_
           exact cut_of [1, 2, 3, 9, 10, 11, 14, 15] [3010400, 3003900, 900000000, 900000001, 900000002] kr kr kr
          ·replace hs := bif_f h16 hs
           refine vK ?_
           obtain rfl := si hs
           refine nrm_join q2.2.2 rfl ?_
           exact cut_of [1, 2, 3, 9, 10, 11, 14, 15] [3010400, 3003900, 900000000, 900000001, 900000002] kr kr kr
         ·subst hz; clear hs; have hs := hk6; clear hk6
          refine nB (nT (vT (oR 3 [(15, iI (w64 (q2.1 + 1))), (110, iI (w64 (q2.1 + 1))), (109, iI q2.1)] kr ?_)))
          refine oN (nrm_fuel ((w64 (q2.1 + 1)), y13.2, v6) hs ?_)
          exact cut_of [1, 2, 3, 9, 10, 11, 14, 15] [3003900, 3010400, 900000000, 900000001, 900000002] kr kr kr
      ·replace hs := bif_f h13 hs
       refine v_exit (exit_thenV (exit_fuel ?_))
       refine exit_blkV ?_
       obtain rfl := si hs
       refine nrm_join (q2.2.1, q2.2.2) rfl ?_
       exact cut_of [2, 3, 9, 10, 11, 14] [3003900, 3010400, 900000000, 900000001, 900000002] kr kr kr
     ·subst hz; clear hs; have hs := hk4; clear hk4
      refine nT (vS (vS (vT (oR 1 [(132, .gv 3003900 (jpv jb v2.1))] kr ?_))))
      obtain ⟨y14, c14, hs⟩ := bS hs
      refine o_loc (F := [(3003900, .gen (EV.hide sJ (stF v4.1))), (900000000, gl0 ob0), (900000001, gl1 ob1 u1), (900000002, gl2 ob2 u2)]) (F' := [(3003900, .gen (EV.hide sJ (stF y14.2))), (900000000, gl0 ob0), (900000001, gl1 ob1 u1), (900000002, gl2 ob2 u2)]) (v := iI y14.1) [3003900, 900000000, 900000001, 900000002] kr kr rfl kr (loc_g (R := []) [.gv 3003900 (jpv jb v2.1)] [(1000000, 3003900), (900000000, 900000000), (900000001, 900000001), (900000002, 900000002)] (callV_func hbv27 kr) (wk_sync (ob0 := ob0) (ob1 := ob1) (ob2 := ob2) (u1 := u1) (u2 := u2) v4.1 v2.1 _ c14) (.cons (.same _) (.nil)) kr kr kr kr kr kr kr kr) kr ?_
      refine oR 1 [(134, .bool (!(decide (y14.1 = 0))))] kr ?_
      refine oN (nT ?_)
      refine v_cond (!(decide (y14.1 = 0))) kr (fun h17 => ?_) (fun h17 => ?_)
      ·replace hs := bif_t h17 hs
       refine vS ?_
       obtain ⟨z7, hs, hk7⟩ := bS hs
       refine v_join (S := Bool) (fun u => u = z7) (fun u => [(8, .bool u)]) (fun u => (gO ob0 ob1 ob2 u1 u2)) ?_ (fun v7 hz => ?_)
       ·refine vT (oR 2 [(136, .bool y1), (135, .bool y1)] kr ?_)
        cases h18 : (y1)
        ·replace hs := bif_f h18 hs
         refine oR 6 [(8, .bool false), (141, .bool false), (140, .no), (139, .no), (138, .no), (137, .no)] kr ?_
         refine oN ?_
         cases hs
         refine nrm_join false rfl ?_
         exact cut_of [8] kG kr kr kr
        ·replace hs := bif_t h18 hs
         refine oR 1 [(137, .gv 3003900 (jpv jb v2.1))] kr ?_
         obtain ⟨y15, c15, hs⟩ := bS hs
         refine o_loc (F := [(3003900, .gen (EV.hide sJ (stF y14.2))), (900000000, gl0 ob0), (900000001, gl1 ob1 u1), (900000002, gl2 ob2 u2)]) (F' := [(3003900, .gen (EV.hide sJ (stF y15.2))), (3013800, .row 9 1 0 (mS y15.1)), (900000000, gl0 ob0), (900000001, gl1 ob1 u1), (900000002, gl2 ob2 u2)]) (v := .sl 1 3013800 ((y15.1).length) 0 ((y15.1).length)) [3003900, 900000000, 900000001, 900000002] kr kr rfl kr (loc_g (R := []) [.gv 3003900 (jpv jb v2.1)] [(1000000, 3003900), (1000001, 3013800), (900000000, 900000000), (900000001, 900000001), (900000002, 900000002)] (callV_func hbv16 kr) (wk_all (ob0 := ob0) (ob1 := ob1) (ob2 := ob2) (u1 := u1) (u2 := u2) y14.2 v2.1 _ c15) (.cons (.same _) (.nil)) kr kr kr kr kr kr kr kr) kr ?_
         refine oR 1 [(139, .sl 1 3010400 ((v4.2).length) 0 ((v4.2).length))] kr ?_
         obtain ⟨y16, c16, hs⟩ := bS hs
         refine o_loc (F := [(3010400, .row 9 1 0 (mS v4.2)), (3013800, .row 9 1 0 (mS y15.1))]) (F' := [(3010400, .row 9 1 0 (mS v4.2)), (3013800, .row 9 1 0 (mS y15.1))]) (v := .bool y16) [3010400, 3013800] kr kr rfl kr (loc_gcallB (vs := [.sl 1 3013800 ((y15.1).length) 0 ((y15.1).length), .sl 1 3010400 ((v4.2).length) 0 ((v4.2).length)]) (R := [(3010400, .row 9 1 0 (mS v4.2)), (3013800, .row 9 1 0 (mS y15.1))]) (callV_func hbv15 kr) (w_gr01_SameTexts y15.1 v4.2 _ c16) (.cons (.row (t := 9) (fz := 0) kr lh) (.cons (.row (t := 9) (fz := 0) kr lh) (.nil))) kr kr kr) kr ?_
         refine oR 2 [(8, .bool y16), (141, .bool y16)] kr ?_
         refine oN ?_
         obtain rfl := si hs
         refine nrm_join y16 rfl ?_
         exact cut_of [8] kG kr kr kr
       ·subst hz; clear hs; have hs := hk7; clear hk7
        refine nT (v_ret (rT ?_))
        cases hs
        exact fin_ret kr kr kr
      ·replace hs := bif_f h17 hs
       refine vK (nT (vS (vT (oR 1 [(142, .gv 3003900 (hpl 1 0))] kr ?_))))
       obtain ⟨y17, c17, hs⟩ := bS hs
       refine o_loc (F := [(3003900, .gen (EV.hide sJ (stF y14.2))), (900000000, gl0 ob0), (900000001, gl1 ob1 u1), (900000002, gl2 ob2 u2)]) (F' := [(3003900, .gen (EV.hide sJ (stF y17.2))), (900000000, gl0 ob0), (900000001, gl1 ob1 u1), (900000002, gl2 ob2 u2)]) (v := .tup []) [3003900, 900000000, 900000001, 900000002] kr kr rfl kr (loc_g (R := []) [.gv 3003900 (hpl 1 0), iI 0] [(1000000, 3003900), (900000000, 900000000), (900000001, 900000001), (900000002, 900000002)] (callV_func hbv28 kr) (wk_lose (ob0 := ob0) (ob1 := ob1) (ob2 := ob2) (u1 := u1) (u2 := u2) y14.2 0 _ c17) vw2 kr kr kr kr kr kr kr kr) kr ?_
       refine oN (nT (vS (vS (vT (oR 1 [(17, iI 0)] kr ?_)))))
       refine oN (nT ?_)
       obtain ⟨z8, hs, hk8⟩ := bS hs
       refine v_join (S := Nat × Wd) (fun u => z8 = .inr u) (fun u => [(9, .bool y1), (11, .gv 3003900 (jpv jb u.1)), (14, .sl 1 3010400 ((v4.2).length) 0 ((v4.2).length))]) (fun u => [(3003900, .gen (EV.hide sJ (stF u.2))), (3010400, .row 9 1 0 (mS v4.2)), (900000000, gl0 ob0), (900000001, gl1 ob1 u1), (900000002, gl2 ob2 u2)]) ?_ (fun v8 hz => ?_)
       ·refine vB ?_
        refine v_fuel (S := Nat × Int × Wd) (fun u => [(2, .vs 1 (mI one)), (3, .vs 1 (mI two)), (9, .bool y1), (10, .gv 3003900 (hpl 1 0)), (11, .gv 3003900 (jpv jb u.1)), (14, .sl 1 3010400 ((v4.2).length) 0 ((v4.2).length)), (17, iI u.2.1)]) (fun u => [(3003900, .gen (EV.hide sJ (stF u.2.2))), (3010400, .row 9 1 0 (mS v4.2)), (900000000, gl0 ob0), (900000001, gl1 ob1 u1), (900000002, gl2 ob2 u2)]) (s_gl03_JournalStays_L3 one two v4) (fun _ => rfl) KK (v2.1, 0, y17.2) hs (cut_of [2, 3, 9, 10, 11, 14, 17] [3003900, 3010400, 900000000, 900000001, 900000002] kr kr kr) (fun K3 q3 hs => ?_)
        rw [s_gl03_JournalStays_L3] at hs
        show WpV cK0 Tryd.prog none 181 _ _ [(2, .vs 1 (mI one)), (3, .vs 1 (mI two)), (9, .bool y1), (10, .gv 3003900 (hpl 1 0)), (11, .gv 3003900 (jpv jb q3.1)), (14, .sl 1 3010400 ((v4.2).length) 0 ((v4.2).length)), (17, iI q3.2.1)] [(3003900, .gen (EV.hide sJ (stF q3.2.2))), (3010400, .row 9 1 0 (mS v4.2)), (900000000, gl0 ob0), (900000001, gl1 ob1 u1), (900000002, gl2 ob2 u2)] []
        refine vS (vS (vT (oR 2 [(145, .bool (decide (q3.2.1 < 2))), (144, iI q3.2.1)] kr ?_)))
        refine oN (nT ?_)
        refine v_cond (decide (q3.2.1 < 2)) kr (fun h19 => ?_) (fun h19 => ?_)
        ·replace hs := bif_t h19 hs
         refine vK (nT (vS (vB (vS (vS (vT (oR 1 [(148, .gv 3003900 (jpv jb q3.1))] kr ?_)))))))
         obtain ⟨y18, c18, hs⟩ := bS hs
         refine o_loc (F := [(3003900, .gen (EV.hide sJ (stF q3.2.2))), (900000000, gl0 ob0), (900000001, gl1 ob1 u1), (900000002, gl2 ob2 u2)]) (F' := [(3003900, .gen (EV.hide sJ (stF y18.2))), (3014900, .row 9 1 0 (mS y18.1)), (900000000, gl0 ob0), (900000001, gl1 ob1 u1), (900000002, gl2 ob2 u2)]) (v := .sl 1 3014900 ((y18.1).length) 0 ((y18.1).length)) [3003900, 900000000, 900000001, 900000002] kr kr rfl kr (loc_g (R := []) [.gv 3003900 (jpv jb q3.1)] [(1000000, 3003900), (1000001, 3014900), (900000000, 900000000), (900000001, 900000001), (900000002, 900000002)] (callV_func hbv16 kr) (wk_all (ob0 := ob0) (ob1 := ob1) (ob2 := ob2) (u1 := u1) (u2 := u2) q3.2.2 q3.1 _ c18) (.cons (.same _) (.nil)) kr kr kr kr kr kr kr kr) kr ?_
         refine oR 1 [(150, .sl 1 3010400 ((v4.2).length) 0 ((v4.2).length))] kr ?_
         obtain ⟨y19, c19, hs⟩ := bS hs
         refine o_loc (F := [(3010400, .row 9 1 0 (mS v4.2)), (3014900, .row 9 1 0 (mS y18.1))]) (F' := [(3010400, .row 9 1 0 (mS v4.2)), (3014900, .row 9 1 0 (mS y18.1))]) (v := .bool y19) [3010400, 3014900] kr kr rfl kr (loc_gcallB (vs := [.sl 1 3014900 ((y18.1).length) 0 ((y18.1).length), .sl 1 3010400 ((v4.2).length) 0 ((v4.2).length)]) (R := [(3010400, .row 9 1 0 (mS v4.2)), (3014900, .row 9 1 0 (mS y18.1))]) (callV_func hbv15 kr) (w_gr01_SameTexts y18.1 v4.2 _ c19) (.cons (.row (t := 9) (fz := 0) kr lh) (.cons (.row (t := 9) (fz := 0) kr lh) (.nil))) kr kr kr) kr ?_
         refine oR 1 [(152, .bool (!y19))] kr ?_
         refine oN (nT ?_)
         refine v_cond (!y19) kr (fun h20 => ?_) (fun h20 => ?_)
         ·replace hs := bif_t h20 hs
          refine vS (vT (oR 1 [(8, .bool false)] kr ?_))
          refine oN (nT (v_ret (rT (rB (rT (ret_fuel ?_))))))
          refine rB (ret_join ?_)
          refine rT ?_
          obtain rfl := si hs
          replace hs := hk8
          cases hs
          exact fin_ret kr kr kr
         ·replace hs := bif_f h20 hs
          refine vK (nT (vS (vS (vT (oR 2 [(154, .bool (decide (q3.2.1 = 0))), (153, iI q3.2.1)] kr ?_)))))
          refine oN (nT ?_)
          obtain ⟨z9, hs, hk9⟩ := bS hs
          refine v_join (S := Wd) (fun u => u = z9) (fun u => [(2, .vs 1 (mI one)), (3, .vs 1 (mI two)), (9, .bool y1), (10, .gv 3003900 (hpl 1 0)), (14, .sl 1 3010400 ((v4.2).length) 0 ((v4.2).length)), (17, iI q3.2.1)]) (fun u => [(3003900, .gen (EV.hide sJ (stF u))), (3010400, .row 9 1 0 (mS v4.2)), (900000000, gl0 ob0), (900000001, gl1 ob1 u1), (900000002, gl2 ob2 u2)]) ?_ (fun v9 hz => ?_)
          ·refine v_cond (decide (q3.2.1 = 0)) kr (fun h21 => ?_) (fun h21 => ?_)
           ·replace hs := bif_t h21 hs
            refine vT (oR 2 [(156, .vs 1 (mI one)), (155, .gv 3003900 (hpl 1 0))] kr ?_)
            obtain ⟨y20, c20, hs⟩ := bS hs
            refine o_loc (F := [(3003900, .gen (EV.hide sJ (stF y18.2))), (900000000, gl0 ob0), (900000001, gl1 ob1 u1), (900000002, gl2 ob2 u2)]) (F' := [(3003900, .gen (EV.hide sJ (stF y20.2))), (900000000, gl0 ob0), (900000001, gl1 ob1 u1), (900000002, gl2 ob2 u2)]) (v := .tup []) [3003900, 900000000, 900000001, 900000002] kr kr rfl kr (loc_g (R := []) [.gv 3003900 (hpl 1 0), .vs 1 (mI one)] [(1000000, 3003900), (900000000, 900000000), (900000001, 900000001), (900000002, 900000002)] (callV_func hbv29 kr) (wk_crash (ob0 := ob0) (ob1 := ob1) (ob2 := ob2) (u1 := u1) (u2 := u2) y18.2 one _ c20) vw2 kr kr kr kr kr kr kr kr) kr ?_
            refine oN ?_
            obtain rfl := si hs
            refine nrm_join y20.2 rfl ?_
            exact cut_of [2, 3, 9, 10, 14, 17] [3003900, 3010400, 900000000, 900000001, 900000002] kr kr kr
           ·replace hs := bif_f h21 hs
            refine vT (oR 2 [(159, .vs 1 (mI two)), (158, .gv 3003900 (hpl 1 0))] kr ?_)
            obtain ⟨y21, c21, hs⟩ := bS hs
            refine o_loc (F := [(3003900, .gen (EV.hide sJ (stF y18.2))), (900000000, gl0 ob0), (900000001, gl1 ob1 u1), (900000002, gl2 ob2 u2)]) (F' := [(3003900, .gen (EV.hide sJ (stF y21.2))), (900000000, gl0 ob0), (900000001, gl1 ob1 u1), (900000002, gl2 ob2 u2)]) (v := .tup []) [3003900, 900000000, 900000001, 900000002] kr kr rfl kr (loc_g (R := []) [.gv 3003900 (hpl 1 0), .vs 1 (mI two)] [(1000000, 3003900), (900000000, 900000000), (900000001, 900000001), (900000002, 900000002)] (callV_func hbv29 kr) (wk_crash (ob0 := ob0) (ob1 := ob1) (ob2 := ob2) (u1 := u1) (u2 := u2) y18.2 two _ c21) vw2 kr kr kr kr kr kr kr kr) kr ?_
            refine oN ?_
            obtain rfl := si hs
            refine nrm_join y21.2 rfl ?_
            exact cut_of [2, 3, 9, 10, 14, 17] [3003900, 3010400, 900000000, 900000001, 900000002] kr kr kr
          ·subst hz; clear hs; have hs := hk9; clear hk9
           refine nT (vS (vT (oR 1 [(161, .gv 3003900 (hpl 1 0))] kr ?_)))
           obtain ⟨y22, c22, hs⟩ := bS hs
           refine o_loc (F := [(3003900, .gen (EV.hide sJ (stF v9))), (900000000, gl0 ob0), (900000001, gl1 ob1 u1), (900000002, gl2 ob2 u2)]) (F' := [(3003900, .gen (EV.hide sJ (stF y22.2))), (900000000, gl0 ob0), (900000001, gl1 ob1 u1), (900000002, gl2 ob2 u2)]) (v := .tup []) [3003900, 900000000, 900000001, 900000002] kr kr rfl kr (loc_g (R := []) [.gv 3003900 (hpl 1 0)] [(1000000, 3003900), (900000000, 900000000), (900000001, 900000001), (900000002, 900000002)] (callV_func hbv30 kr) (wk_start (ob0 := ob0) (ob1 := ob1) (ob2 := ob2) (u1 := u1) (u2 := u2) v9 _ c22) (.cons (.same _) (.nil)) kr kr kr kr kr kr kr kr) kr ?_
           refine oN (nT (vS (vT (oR 1 [(18, iI 0)] kr ?_))))
           refine oN (nT (vS (vT (oR 1 [(164, .gv 3003900 (hpl 1 0))] kr ?_))))
           obtain ⟨y23, c23, hs⟩ := bS hs
           refine o_loc (F := [(3003900, .gen (EV.hide sJ (stF y22.2))), (900000000, gl0 ob0), (900000001, gl1 ob1 u1), (900000002, gl2 ob2 u2)]) (F' := [(3003900, .gen (EV.hide sJ (stF y23.2))), (900000000, gl0 ob0), (900000001, gl1 ob1 u1), (900000002, gl2 ob2 u2)]) (v := .tup [.gv 3003900 (jpv jb y23.1.1), iI y23.1.2]) [3003900, 900000000, 900000001, 900000002] kr kr rfl kr (loc_g (R := []) [.gv 3003900 (hpl 1 0), iI 0] [(1000000, 3003900), (900000000, 900000000), (900000001, 900000001), (900000002, 900000002)] (callV_func hbv10 kr) (wk_open (ob0 := ob0) (ob1 := ob1) (ob2 := ob2) (u1 := u1) (u2 := u2) y22.2 0 _ c23) vw2 kr kr kr kr kr kr kr kr) kr ?_
           refine oR 5 [(18, iI y23.1.2), (11, .gv 3003900 (jpv jb y23.1.1)), (167, iI y23.1.2), (166, .gv 3003900 (jpv jb y23.1.1)), (163, .tup [.gv 3003900 (jpv jb y23.1.1), iI y23.1.2])] kr ?_
           refine oN (nT (vS ?_))
           obtain ⟨z10, hs, hk10⟩ := bS hs
           refine v_join (S := Bool) (fun u => u = z10) (fun u => [(2, .vs 1 (mI one)), (3, .vs 1 (mI two)), (9, .bool y1), (10, .gv 3003900 (hpl 1 0)), (11, .gv 3003900 (jpv jb y23.1.1)), (14, .sl 1 3010400 ((v4.2).length) 0 ((v4.2).length)), (17, iI q3.2.1), (173, .bool u)]) (fun u => [(3003900, .gen (EV.hide sJ (stF y23.2))), (3010400, .row 9 1 0 (mS v4.2)), (900000000, gl0 ob0), (900000001, gl1 ob1 u1), (900000002, gl2 ob2 u2)]) ?_ (fun v10 hz => ?_)
           ·refine vT (oR 1 [(168, .gv 3003900 (jpv jb y23.1.1))] kr ?_)
            refine oP (v := .bool (decide (y23.1.1 = 0))) kr kr (loc_jpvNil_eql (k := 3003900) (a := jb) (i := y23.1.1) kr kr kr) ?_
            refine oR 1 [(170, .bool (decide (y23.1.1 = 0)))] kr ?_
            cases h22 : ((decide (y23.1.1 = 0)))
            ·replace hs := bif_f h22 hs
             refine oR 3 [(173, .bool (!(decide (y23.1.2 = 0)))), (172, .bool (!(decide (y23.1.2 = 0)))), (171, iI y23.1.2)] kr ?_
             refine oN ?_
             obtain rfl := si hs
             refine nrm_join (!(decide (y23.1.2 = 0))) rfl ?_
             exact cut_of [2, 3, 9, 10, 11, 14, 17, 173] [3003900, 3010400, 900000000, 900000001, 900000002] kr kr kr
            ·replace hs := bif_t h22 hs
             refine oR 3 [(173, .bool true), (172, .no), (171, .no)] kr ?_
             refine oN ?_
             cases hs
             refine nrm_join true rfl ?_
             exact cut_of [2, 3, 9, 10, 11, 14, 17, 173] [3003900, 3010400, 900000000, 900000001, 900000002] kr kr kr
           ·subst hz; clear hs; have hs := hk10; clear hk10
            refine nT ?_
            refine v_cond v10 kr (fun h23 => ?_) (fun h23 => ?_)
            ·replace hs := bif_t h23 hs
             refine vS (vT (oR 1 [(8, .bool false)] kr ?_))
             refine oN (nT (v_ret (rB (rT (ret_fuel ?_)))))
             refine rB (ret_join ?_)
             refine rT ?_
             obtain rfl := si hs
             replace hs := hk8
             cases hs
             exact fin_ret kr kr kr
            ·replace hs := bif_f h23 hs
             refine vK (nB (nT (vT (oR 3 [(17, iI (w64 (q3.2.1 + 1))), (147, iI (w64 (q3.2.1 + 1))), (146, iI q3.2.1)] kr ?_))))
             refine oN (nrm_fuel (y23.1.1, (w64 (q3.2.1 + 1)), y23.2) hs ?_)
             exact cut_of [2, 3, 9, 10, 11, 14, 17] [3003900, 3010400, 900000000, 900000001, 900000002] kr kr kr
        ·replace hs := bif_f h19 hs
         refine v_exit (exit_thenV (exit_fuel ?_))
         refine exit_blkV ?_
         obtain rfl := si hs
         refine nrm_join (q3.1, q3.2.2) rfl ?_
         exact cut_of [9, 11, 14] [3003900, 3010400, 900000000, 900000001, 900000002] kr kr kr
       ·subst hz; clear hs; have hs := hk8; clear hk8
        refine nT (vS ?_)
        obtain ⟨z11, hs, hk11⟩ := bS hs
        refine v_join (S := Bool) (fun u => u = z11) (fun u => [(8, .bool u)]) (fun u => (gO ob0 ob1 ob2 u1 u2)) ?_ (fun v11 hz => ?_)
        ·refine vT (oR 2 [(175, .bool y1), (174, .bool y1)] kr ?_)
         cases h24 : (y1)
         ·replace hs := bif_f h24 hs
          refine oR 6 [(8, .bool false), (180, .bool false), (179, .no), (178, .no), (177, .no), (176, .no)] kr ?_
          refine oN ?_
          cases hs
          refine nrm_join false rfl ?_
          exact cut_of [8] kG kr kr kr
         ·replace hs := bif_t h24 hs
          refine oR 1 [(176, .gv 3003900 (jpv jb v8.1))] kr ?_
          obtain ⟨y24, c24, hs⟩ := bS hs
          refine o_loc (F := [(3003900, .gen (EV.hide sJ (stF v8.2))), (900000000, gl0 ob0), (900000001, gl1 ob1 u1), (900000002, gl2 ob2 u2)]) (F' := [(3003900, .gen (EV.hide sJ (stF y24.2))), (3017700, .row 9 1 0 (mS y24.1)), (900000000, gl0 ob0), (900000001, gl1 ob1 u1), (900000002, gl2 ob2 u2)]) (v := .sl 1 3017700 ((y24.1).length) 0 ((y24.1).length)) [3003900, 900000000, 900000001, 900000002] kr kr rfl kr (loc_g (R := []) [.gv 3003900 (jpv jb v8.1)] [(1000000, 3003900), (1000001, 3017700), (900000000, 900000000), (900000001, 900000001), (900000002, 900000002)] (callV_func hbv16 kr) (wk_all (ob0 := ob0) (ob1 := ob1) (ob2 := ob2) (u1 := u1) (u2 := u2) v8.2 v8.1 _ c24) (.cons (.same _) (.nil)) kr kr kr kr kr kr kr kr) kr ?_
          refine oR 1 [(178, .sl 1 3010400 ((v4.2).length) 0 ((v4.2).length))] kr ?_
          obtain ⟨y25, c25, hs⟩ := bS hs
          refine o_loc (F := [(3010400, .row 9 1 0 (mS v4.2)), (3017700, .row 9 1 0 (mS y24.1))]) (F' := [(3010400, .row 9 1 0 (mS v4.2)), (3017700, .row 9 1 0 (mS y24.1))]) (v := .bool y25) [3010400, 3017700] kr kr rfl kr (loc_gcallB (vs := [.sl 1 3017700 ((y24.1).length) 0 ((y24.1).length), .sl 1 3010400 ((v4.2).length) 0 ((v4.2).length)]) (R := [(3010400, .row 9 1 0 (mS v4.2)), (3017700, .row 9 1 0 (mS y24.1))]) (callV_func hbv15 kr) (w_gr01_SameTexts y24.1 v4.2 _ c25) (.cons (.row (t := 9) (fz := 0) kr lh) (.cons (.row (t := 9) (fz := 0) kr lh) (.nil))) kr kr kr) kr ?_
          refine oR 2 [(8, .bool y25), (180, .bool y25)] kr ?_
          refine oN ?_
          obtain rfl := si hs
          refine nrm_join y25 rfl ?_
          exact cut_of [8] kG kr kr kr
        ·subst hz; clear hs; have hs := hk11; clear hk11
         refine nT (v_ret ?_)
         cases hs
         exact fin_ret kr kr kr
end Go.Proofs.YtoflckochjijcaaDoor
