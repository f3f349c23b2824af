/- printed by gen2.py -/
import Derived.Test.YtoflckochjijcaaDoorE
import Derived.Test.YtoflckochjijcaaDoorSD
import Derived.Test.YtoflckochjijcaaDoorSPartA
set_option linter.all false
set_option maxRecDepth 100000
namespace Go.Proofs.YtoflckochjijcaaDoor
open Go Go.RowKit Go.Eng Go.EV
variable [Fuel]
variable {ob0 ob1 ob2 : Go.Obj} {u1 u2 : TypeId}

theorem w_stringslite_HasPrefix (s : (List UInt8)) (prefix_ : (List UInt8)) (r : Bool) (hs : s_stringslite_HasPrefix s prefix_ = some r) : FnA Tryd.prog 69 [.str s, .str prefix_] [] (.bool r) [] := by
 refine fnA_of_wp (N := 18) Tryd.func69 rfl rfl rfl fun cK0 => ?_
 unfold s_stringslite_HasPrefix at hs
 refine v_same (ρ' := [(0, .str s), (1, .str prefix_)]) rfl rfl ?_
 refine vS (vT (oR 1 [(4, .bool false)] kr ?_))
 refine oN (nT (vS ?_))
 obtain ⟨z1, hs, hk1⟩ := bS hs
 refine v_join (S := Bool) (fun u => u = z1) (fun u => [(4, .bool u)]) (fun u => []) ?_ (fun v1 hz => ?_)
 ·refine vT (oR 6 [(10, .bool (decide ((List.length s : Int) ≥ (List.length prefix_ : Int)))), (9, .bool (decide ((List.length s : Int) ≥ (List.length prefix_ : Int)))), (8, iI (List.length prefix_ : Int)), (7, .str prefix_), (6, iI (List.length s : Int)), (5, .str s)] kr ?_)
  cases h1 : ((decide ((List.length s : Int) ≥ (List.length prefix_ : Int))))
  ·replace hs := bif_f h1 hs
   refine oR 8 [(4, .bool false), (17, .bool false), (16, .no), (15, .no), (14, .no), (13, .no), (12, .no), (11, .no)] kr ?_
   refine oN ?_
   obtain rfl := si hs
   refine nrm_join false rfl ?_
   exact cut_of [4] [] kr kr kr
  ·replace hs := bif_t h1 hs
   refine oR 3 [(13, iI (List.length prefix_ : Int)), (12, .str prefix_), (11, .str s)] kr ?_
   obtain ⟨x1, g1, hs⟩ := bS hs; obtain ⟨g1a, g1b, g1c, g1d⟩ := cut_some g1
   refine oP (v := .str x1) kr kr (by rw [g1d]; exact loc_sliceStr (s := s) (l := 0) (h := (List.length prefix_ : Int)) kr kr rfl ⟨.i64, by kernel_rfl⟩ g1a g1b g1c) ?_
   refine oR 4 [(4, .bool (decide (x1 = prefix_))), (17, .bool (decide (x1 = prefix_))), (16, .bool (decide (x1 = prefix_))), (15, .str prefix_)] kr ?_
   refine oN ?_
   obtain rfl := si hs
   refine nrm_join (decide (x1 = prefix_)) rfl ?_
   exact cut_of [4] [] kr kr kr
 ·subst hz; clear hs; have hs := hk1; clear hk1
  refine nT (v_ret ?_)
  obtain rfl := si hs
  exact fin_ret kr kr kr
theorem w_stringslite_CutPrefix (s : (List UInt8)) (prefix_ : (List UInt8)) (r : (List UInt8) × Bool) (hs : s_stringslite_CutPrefix s prefix_ = some r) : FnA Tryd.prog 60 [.str s, .str prefix_] [] (.tup [.str r.1, .bool r.2]) [] := by
 refine fnA_of_wp (N := 15) Tryd.func60 rfl rfl rfl fun cK0 => ?_
 unfold s_stringslite_CutPrefix at hs
 refine v_same (ρ' := [(0, .str s), (1, .str prefix_)]) rfl rfl ?_
 refine vS (vT (oR 2 [(5, .bool false), (4, .str [])] kr ?_))
 refine oN (nT (vS (vS (vT (oR 2 [(7, .str prefix_), (6, .str s)] kr ?_)))))
 obtain ⟨y1, c1, hs⟩ := bS hs
 refine oP (v := .bool y1) kr kr (loc_gcall0 (callV_func hbv69 kr) (w_stringslite_HasPrefix s prefix_ _ c1) kr) ?_
 refine oR 1 [(9, .bool (!y1))] kr ?_
 refine oN (nT ?_)
 refine v_cond (!y1) kr (fun h1 => ?_) (fun h1 => ?_)
 ·replace hs := bif_t h1 hs
  refine vS (vT (oR 3 [(5, .bool false), (4, .str s), (10, .str s)] kr ?_))
  refine oN (nT (v_ret (rT ?_)))
  obtain rfl := si hs
  exact fin_ret kr kr kr
 ·replace hs := bif_f h1 hs
  refine vK (nT (vS (vT (oR 3 [(13, iI (List.length prefix_ : Int)), (12, .str prefix_), (11, .str s)] kr ?_))))
  obtain ⟨x1, g1, hs⟩ := bS hs; obtain ⟨g1a, g1b, g1c, g1d⟩ := cut_some g1
  refine oP (v := .str x1) kr kr (by rw [g1d]; exact loc_sliceStr (s := s) (l := (List.length prefix_ : Int)) (h := (List.length s : Int)) kr kr ⟨.i64, by kernel_rfl⟩ rfl g1a g1b g1c) ?_
  refine oR 2 [(5, .bool true), (4, .str x1)] kr ?_
  refine oN (nT (v_ret ?_))
  obtain rfl := si hs
  exact fin_ret kr kr kr
theorem w_strings_CutPrefix (s : (List UInt8)) (prefix_ : (List UInt8)) (r : (List UInt8) × Bool) (hs : s_strings_CutPrefix s prefix_ = some r) : FnA Tryd.prog 51 [.str s, .str prefix_] [] (.tup [.str r.1, .bool r.2]) [] := by
 refine fnA_of_wp (N := 11) Tryd.func51 rfl rfl rfl fun cK0 => ?_
 unfold s_strings_CutPrefix at hs
 refine v_same (ρ' := [(0, .str s), (1, .str prefix_)]) rfl rfl ?_
 refine vS (vT (oR 2 [(5, .bool false), (4, .str [])] kr ?_))
 refine oN (nT (vS (vT (oR 2 [(7, .str prefix_), (6, .str s)] kr ?_))))
 obtain ⟨y1, c1, hs⟩ := bS hs
 refine oP (v := .tup [.str y1.1, .bool y1.2]) kr kr (loc_gcall0 (callV_func hbv60 kr) (w_stringslite_CutPrefix s prefix_ _ c1) kr) ?_
 refine oR 4 [(5, .bool y1.2), (4, .str y1.1), (10, .bool y1.2), (9, .str y1.1)] kr ?_
 refine oN (nT (v_ret ?_))
 obtain rfl := si hs
 exact fin_ret kr kr kr
theorem w_wire_Reader_close (r_rest : (List UInt8)) (r_bad : Bool) (end_ : (List UInt8)) (r : (List UInt8) × Bool) (hs : s_wire_Reader_close r_rest r_bad end_ = some r) : FnA Tryd.prog 43 [pO, .str end_] [(1000000, .box 74 [.str r_rest, .bool r_bad])] (.tup []) [(1000000, .box 74 [.str r.1, .bool r.2])] := by
 refine fnA_of_wp (N := 23) Tryd.func43 rfl rfl rfl fun cK0 => ?_
 unfold s_wire_Reader_close at hs
 refine v_same (ρ' := [(0, pO), (1, .str end_)]) rfl rfl ?_
 refine vS (vT (oR 5 [(11, .str end_), (10, .str r_rest), (9, pO), (8, pO), (7, pO)] kr ?_))
 obtain ⟨y1, c1, hs⟩ := bS hs
 refine oP (v := .tup [.str y1.1, .bool y1.2]) kr kr (loc_gcall0 (callV_func hbv51 kr) (w_strings_CutPrefix r_rest end_ _ c1) kr) ?_
 refine oR 5 [(5, .bool y1.2), (4, .str y1.1), (14, .bool y1.2), (13, .str y1.1), (6, .tup [.str y1.1, .bool y1.2])] kr ?_
 refine oN (nT (vS (vT (o_runh 5 [(18, pO), (17, pO), (16, .str y1.1), (15, pO)] [(1000000, .box 74 [.str y1.1, .bool r_bad])] kr ?_))))
 refine oN (nT (vS (vT (oR 2 [(20, .bool (!y1.2)), (19, .bool y1.2)] kr ?_))))
 refine oN (nT ?_)
 refine v_cond (!y1.2) kr (fun h1 => ?_) (fun h1 => ?_)
 ·replace hs := bif_t h1 hs
  refine vT (oR 1 [(21, pO)] kr ?_)
  obtain ⟨y2, c2, hs⟩ := bS hs
  refine o_loc (F := [(1000000, .box 74 [.str y1.1, .bool r_bad])]) (F' := [(1000000, .box 74 [.str [], .bool true])]) (v := .tup []) [1000000] kr kr rfl kr (loc_g (R := []) [pO] [(1000000, 1000000)] (callV_func hbv42 kr) (w_wire_Reader_fail y1.1 r_bad _ c2) (.cons (.same _) (.nil)) kr kr kr kr kr kr kr kr) kr ?_
  refine oN (fin_nrm ?_)
  obtain rfl := si hs
  exact fin_ret kr kr kr
 ·replace hs := bif_f h1 hs
  refine vK (fin_nrm ?_)
  obtain rfl := si hs
  exact fin_ret kr kr kr
theorem w_wire_Reader_Text (r_rest : (List UInt8)) (r_bad : Bool) (r : (List UInt8) × (List UInt8) × Bool) (hs : s_wire_Reader_Text r_rest r_bad = some r) : FnA Tryd.prog 21 [pO] [(1000000, .box 74 [.str r_rest, .bool r_bad]), (900000000, gl0 ob0), (900000001, gl1 ob1 u1), (900000002, gl2 ob2 u2)] (.str r.1) [(1000000, .box 74 [.str r.2.1, .bool r.2.2]), (900000000, gl0 ob0), (900000001, gl1 ob1 u1), (900000002, gl2 ob2 u2)] := by
 refine fnA_of_wp (N := 38) Tryd.func21 rfl rfl rfl fun cK0 => ?_
 unfold s_wire_Reader_Text at hs
 refine v_same (ρ' := [(0, pO)]) rfl rfl ?_
 refine vS (vT (oR 1 [(2, .str [])] kr ?_))
 refine oN (nT (vS (vT (oR 1 [(5, pO)] kr ?_))))
 obtain ⟨y1, c1, hs⟩ := bS hs
 refine o_loc (F := [(1000000, .box 74 [.str r_rest, .bool r_bad]), (900000000, gl0 ob0), (900000001, gl1 ob1 u1), (900000002, gl2 ob2 u2)]) (F' := [(1000000, .box 74 [.str y1.2.1, .bool y1.2.2]), (900000000, gl0 ob0), (900000001, gl1 ob1 u1), (900000002, gl2 ob2 u2)]) (v := iI y1.1) [1000000, 900000000, 900000001, 900000002] kr kr rfl kr (loc_g (R := []) [pO, .int .u8 58, iI 0] [(1000000, 1000000), (900000000, 900000000), (900000001, 900000001), (900000002, 900000002)] (callV_func hbv41 kr) (w_wire_Reader_number (ob0 := ob0) (ob1 := ob1) (ob2 := ob2) (u1 := u1) (u2 := u2) r_rest r_bad 58 0 _ c1) vw3 kr kr kr kr kr kr kr kr) kr ?_
 refine oR 1 [(3, iI y1.1)] kr ?_
 refine oN (nT (vS (vS (vT (oR 7 [(13, .bool (decide (y1.1 > (List.length y1.2.1 : Int)))), (12, iI (List.length y1.2.1 : Int)), (11, .str y1.2.1), (10, pO), (9, pO), (8, pO), (7, iI y1.1)] kr ?_)))))
 refine oN (nT ?_)
 refine v_cond (decide (y1.1 > (List.length y1.2.1 : Int))) kr (fun h1 => ?_) (fun h1 => ?_)
 ·replace hs := bif_t h1 hs
  refine vS (vT (oR 1 [(14, pO)] kr ?_))
  obtain ⟨y2, c2, hs⟩ := bS hs
  refine o_loc (F := [(1000000, .box 74 [.str y1.2.1, .bool y1.2.2])]) (F' := [(1000000, .box 74 [.str [], .bool true])]) (v := .tup []) [1000000] kr kr rfl kr (loc_g (R := []) [pO] [(1000000, 1000000)] (callV_func hbv42 kr) (w_wire_Reader_fail y1.2.1 y1.2.2 _ c2) (.cons (.same _) (.nil)) kr kr kr kr kr kr kr kr) kr ?_
  refine oN (nT (vS (vT (oR 1 [(2, .str [])] kr ?_))))
  refine oN (nT (v_ret (rT ?_)))
  obtain rfl := si hs
  exact fin_ret kr kr kr
 ·replace hs := bif_f h1 hs
  refine vK (nT (vS (vT (oR 5 [(20, iI y1.1), (19, .str y1.2.1), (18, pO), (17, pO), (16, pO)] kr ?_))))
  obtain ⟨x1, g1, hs⟩ := bS hs; obtain ⟨g1a, g1b, g1c, g1d⟩ := cut_some g1
  refine oP (v := .str x1) kr kr (by rw [g1d]; exact loc_sliceStr (s := y1.2.1) (l := 0) (h := y1.1) kr kr rfl ⟨.i64, by kernel_rfl⟩ g1a g1b g1c) ?_
  refine oR 1 [(4, .str x1)] kr ?_
  refine oN (nT (vS (vT (oR 6 [(27, iI y1.1), (26, .str y1.2.1), (25, pO), (24, pO), (23, pO), (22, pO)] kr ?_))))
  obtain ⟨x2, g2, hs⟩ := bS hs; obtain ⟨g2a, g2b, g2c, g2d⟩ := cut_some g2
  refine oP (v := .str x2) kr kr (by rw [g2d]; exact loc_sliceStr (s := y1.2.1) (l := y1.1) (h := (List.length y1.2.1 : Int)) kr kr ⟨.i64, by kernel_rfl⟩ rfl g2a g2b g2c) ?_
  refine o_runh 3 [(30, pO), (29, pO)] [(1000000, .box 74 [.str x2, .bool y1.2.2]), (900000000, gl0 ob0), (900000001, gl1 ob1 u1), (900000002, gl2 ob2 u2)] kr ?_
  refine oN (nT (vS (vS (vT (oR 1 [(31, pO)] kr ?_)))))
  obtain ⟨y3, c3, hs⟩ := bS hs
  refine o_loc (F := [(1000000, .box 74 [.str x2, .bool y1.2.2])]) (F' := [(1000000, .box 74 [.str y3.1, .bool y3.2])]) (v := .tup []) [1000000] kr kr rfl kr (loc_g (R := []) [pO, .str ([44] : List UInt8)] [(1000000, 1000000)] (callV_func hbv43 kr) (w_wire_Reader_close x2 y1.2.2 ([44] : List UInt8) _ c3) vw2 kr kr kr kr kr kr kr kr) kr ?_
  refine oN (nT (vS (vT (oR 4 [(36, .bool y3.2), (35, .ptr 1000000 0 1), (34, pO), (33, pO)] kr ?_))))
  refine oN (nT ?_)
  refine v_cond y3.2 kr (fun h2 => ?_) (fun h2 => ?_)
  ·replace hs := bif_t h2 hs
   refine vS (vT (oR 1 [(2, .str [])] kr ?_))
   refine oN (nT (v_ret (rT ?_)))
   obtain rfl := si hs
   exact fin_ret kr kr kr
  ·replace hs := bif_f h2 hs
   refine vK (nT (vS (vT (oR 2 [(2, .str x1), (37, .str x1)] kr ?_))))
   refine oN (nT (v_ret ?_))
   obtain rfl := si hs
   exact fin_ret kr kr kr
theorem w_wire_Reader_Num (r_rest : (List UInt8)) (r_bad : Bool) (r : Int × (List UInt8) × Bool) (hs : s_wire_Reader_Num r_rest r_bad = some r) : FnA Tryd.prog 22 [pO] [(1000000, .box 74 [.str r_rest, .bool r_bad]), (900000000, gl0 ob0), (900000001, gl1 ob1 u1), (900000002, gl2 ob2 u2)] (iI r.1) [(1000000, .box 74 [.str r.2.1, .bool r.2.2]), (900000000, gl0 ob0), (900000001, gl1 ob1 u1), (900000002, gl2 ob2 u2)] := by
 refine fnA_of_wp (N := 5) Tryd.func22 rfl rfl rfl fun cK0 => ?_
 unfold s_wire_Reader_Num at hs
 refine v_same (ρ' := [(0, pO)]) rfl rfl ?_
 refine vS (vT (oR 1 [(2, iI 0)] kr ?_))
 refine oN (nT (vS (vT (oR 1 [(3, pO)] kr ?_))))
 obtain ⟨y1, c1, hs⟩ := bS hs
 refine o_loc (F := [(1000000, .box 74 [.str r_rest, .bool r_bad]), (900000000, gl0 ob0), (900000001, gl1 ob1 u1), (900000002, gl2 ob2 u2)]) (F' := [(1000000, .box 74 [.str y1.2.1, .bool y1.2.2]), (900000000, gl0 ob0), (900000001, gl1 ob1 u1), (900000002, gl2 ob2 u2)]) (v := iI y1.1) [1000000, 900000000, 900000001, 900000002] kr kr rfl kr (loc_g (R := []) [pO, .int .u8 59, iI 0] [(1000000, 1000000), (900000000, 900000000), (900000001, 900000001), (900000002, 900000002)] (callV_func hbv41 kr) (w_wire_Reader_number (ob0 := ob0) (ob1 := ob1) (ob2 := ob2) (u1 := u1) (u2 := u2) r_rest r_bad 59 0 _ c1) vw3 kr kr kr kr kr kr kr kr) kr ?_
 refine oR 1 [(2, iI y1.1)] kr ?_
 refine oN (nT (v_ret ?_))
 obtain rfl := si hs
 exact fin_ret kr kr kr
theorem w_journal_read (s : (List UInt8)) (r : Int × (List (List UInt8))) (hs : s_journal_read s = some r) : FnA Tryd.prog 35 [.str s] (gO ob0 ob1 ob2 u1 u2) (.tup [.sl 1 2000048 ((r.2).length) 0 ((r.2).length), iI r.1]) [(2000048, .row 9 1 0 (mS r.2)), (900000000, gl0 ob0), (900000001, gl1 ob1 u1), (900000002, gl2 ob2 u2)] := by
 refine fnA_of_wp (N := 58) Tryd.func35 rfl rfl rfl fun cK0 => ?_
 unfold s_journal_read at hs
 refine v_same (ρ' := [(0, .str s)]) rfl rfl ?_
 refine vS (vT (oR 2 [(3, iI 0), (2, .nils)] kr ?_))
 refine oN (nT (v_scope ?_))
 refine vS (vT (oR 1 [(4, .nils)] kr ?_))
 refine oN (nT (vS (vT (oR 1 [(5, iI 0)] kr ?_))))
 refine oN (nT (vS (v_label ?_)))
 refine nT (vS ?_)
 obtain ⟨z1, hs, hk1⟩ := bS hs
 refine v_join (S := Int × (List (List UInt8))) (fun u => u = z1) (fun u => [(4, .sl 1 2000048 ((u.2).length) 0 ((u.2).length)), (5, iI u.1)]) (fun u => [(2000048, .row 9 1 0 (mS u.2)), (900000000, gl0 ob0), (900000001, gl1 ob1 u1), (900000002, gl2 ob2 u2)]) ?_ (fun v1 hz => ?_)
 ·refine vB ?_
  refine v_fuel (S := Int × (List (List UInt8))) (fun u => [(0, .str s), (4, .sl 1 2000048 ((u.2).length) 0 ((u.2).length)), (5, iI u.1)]) (fun u => [(2000048, .row 9 1 0 (mS u.2)), (900000000, gl0 ob0), (900000001, gl1 ob1 u1), (900000002, gl2 ob2 u2)]) (s_journal_read_L1 s) (fun _ => rfl) KK (0, []) hs (Cut.trans (cut_nilRow 4 2000048 9 1 rfl kr kr) (cut_of [0, 4, 5] [2000048, 900000000, 900000001, 900000002] kr kr kr)) (fun K1 q1 hs => ?_)
  rw [s_journal_read_L1] at hs
  show WpV cK0 Tryd.prog none 58 _ _ [(0, .str s), (4, .sl 1 2000048 ((q1.2).length) 0 ((q1.2).length)), (5, iI q1.1)] [(2000048, .row 9 1 0 (mS q1.2)), (900000000, gl0 ob0), (900000001, gl1 ob1 u1), (900000002, gl2 ob2 u2)] []
  refine vS (vS (vT (oR 4 [(13, .bool (decide (q1.1 < (List.length s : Int)))), (12, iI (List.length s : Int)), (11, .str s), (10, iI q1.1)] kr ?_)))
  refine oN (nT ?_)
  refine v_cond (decide (q1.1 < (List.length s : Int))) kr (fun h1 => ?_) (fun h1 => ?_)
  ·replace hs := bif_t h1 hs
   refine vK (nT (vB (vS (vT (oR 2 [(15, iI q1.1), (14, .str s)] kr ?_)))))
   obtain ⟨x1, g1, hs⟩ := bS hs; obtain ⟨g1a, g1b, g1c, g1d⟩ := cut_some g1
   refine oP (v := .str x1) kr kr (by rw [g1d]; exact loc_sliceStr (s := s) (l := q1.1) (h := (List.length s : Int)) kr kr ⟨.i64, by kernel_rfl⟩ rfl g1a g1b g1c) ?_
   obtain ⟨y1, c1, hs⟩ := bS hs
   refine o_loc (F := []) (F' := [(3001700, .box 74 [.str y1, .bool false])]) (v := .ptr 3001700 0 0) [] kr kr rfl kr (loc_g (R := []) [.str x1] [(5, 3001700)] (callV_func hbv19 kr) (w_wire_Open x1 _ c1) (.cons (.same _) (.nil)) kr kr kr kr kr kr kr kr) kr ?_
   refine oR 1 [(6, .ptr 3001700 0 0)] kr ?_
   refine oN (nT (vS (vT (oR 1 [(18, .ptr 3001700 0 0)] kr ?_))))
   obtain ⟨y2, c2, hs⟩ := bS hs
   refine o_loc (F := [(3001700, .box 74 [.str y1, .bool false]), (900000000, gl0 ob0), (900000001, gl1 ob1 u1), (900000002, gl2 ob2 u2)]) (F' := [(3001700, .box 74 [.str y2.2.1, .bool y2.2.2]), (900000000, gl0 ob0), (900000001, gl1 ob1 u1), (900000002, gl2 ob2 u2)]) (v := .str y2.1) [3001700, 900000000, 900000001, 900000002] kr kr rfl kr (loc_g (R := []) [.ptr 3001700 0 0] [(1000000, 3001700), (900000000, 900000000), (900000001, 900000001), (900000002, 900000002)] (callV_func hbv21 kr) (w_wire_Reader_Text (ob0 := ob0) (ob1 := ob1) (ob2 := ob2) (u1 := u1) (u2 := u2) y1 false _ c2) (.cons (.same _) (.nil)) kr kr kr kr kr kr kr kr) kr ?_
   refine oR 1 [(7, .str y2.1)] kr ?_
   refine oN (nT (vS (vT (oR 1 [(20, .ptr 3001700 0 0)] kr ?_))))
   obtain ⟨y3, c3, hs⟩ := bS hs
   refine o_loc (F := [(3001700, .box 74 [.str y2.2.1, .bool y2.2.2]), (900000000, gl0 ob0), (900000001, gl1 ob1 u1), (900000002, gl2 ob2 u2)]) (F' := [(3001700, .box 74 [.str y3.2.1, .bool y3.2.2]), (900000000, gl0 ob0), (900000001, gl1 ob1 u1), (900000002, gl2 ob2 u2)]) (v := iI y3.1) [3001700, 900000000, 900000001, 900000002] kr kr rfl kr (loc_g (R := []) [.ptr 3001700 0 0] [(1000000, 3001700), (900000000, 900000000), (900000001, 900000001), (900000002, 900000002)] (callV_func hbv22 kr) (w_wire_Reader_Num (ob0 := ob0) (ob1 := ob1) (ob2 := ob2) (u1 := u1) (u2 := u2) y2.2.1 y2.2.2 _ c3) (.cons (.same _) (.nil)) kr kr kr kr kr kr kr kr) kr ?_
   refine oR 1 [(8, iI y3.1)] kr ?_
   refine oN (nT (vS (vT (oR 1 [(22, .str y2.1)] kr ?_))))
   obtain ⟨y4, c4, hs⟩ := bS hs
   refine o_loc (F := (gO ob0 ob1 ob2 u1 u2)) (F' := (gO ob0 ob1 ob2 u1 u2)) (v := .str y4) kG kr kr rfl kr (loc_gcallL (vs := [.str y2.1]) (G := (gO ob0 ob1 ob2 u1 u2)) (R := []) (callV_func hbv37 kr) (w_journal_form (ob0 := ob0) (ob1 := ob1) (ob2 := ob2) (u1 := u1) (u2 := u2) y2.1 _ c4) kr (.cons (.same _) (.nil)) kr kr kr) kr ?_
   refine oR 1 [(9, .str y4)] kr ?_
   refine oN (nT (vS (vB (vS (vS (vT (oR 4 [(24, .bool (decide ((List.length y2.1 : Int) > 20000))), (27, .bool (decide ((List.length y2.1 : Int) > 20000))), (26, iI (List.length y2.1 : Int)), (25, .str y2.1)] kr ?_)))))))
   refine oN (nT ?_)
   obtain ⟨z2, hs, hk2⟩ := bS hs
   refine v_join (S := Bool) (fun u => u = z2) (fun u => [(0, .str s), (4, .sl 1 2000048 ((q1.2).length) 0 ((q1.2).length)), (5, iI q1.1), (7, .str y2.1), (9, .str y4), (24, .bool u)]) (fun u => [(2000048, .row 9 1 0 (mS q1.2)), (900000000, gl0 ob0), (900000001, gl1 ob1 u1), (900000002, gl2 ob2 u2)]) ?_ (fun v2 hz => ?_)
   ·refine v_cond (decide ((List.length y2.1 : Int) > 20000)) kr (fun h2 => ?_) (fun h2 => ?_)
    ·replace hs := bif_t h2 hs
     refine vK ?_
     obtain rfl := si hs
     refine nrm_join (decide ((List.length y2.1 : Int) > 20000)) rfl ?_
     exact cut_of [0, 4, 5, 7, 9, 24] [2000048, 900000000, 900000001, 900000002] kr kr kr
    ·replace hs := bif_f h2 hs
     refine vS (vT (oR 2 [(29, .str y2.1), (28, iI y3.1)] kr ?_))
     obtain ⟨y5, c5, hs⟩ := bS hs
     refine oP (v := iI y5) kr kr (loc_gcall0 (callV_func hbv25 kr) (w_journal_Sum y2.1 _ c5) kr) ?_
     refine oR 2 [(24, .bool (!(decide (y3.1 = y5)))), (31, .bool (!(decide (y3.1 = y5))))] kr ?_
     refine oN (nT ?_)
     refine v_cond (!(decide (y3.1 = y5))) kr (fun h3 => ?_) (fun h3 => ?_)
     ·replace hs := bif_t h3 hs
      refine vK ?_
      obtain rfl := si hs
      refine nrm_join (!(decide (y3.1 = y5))) rfl ?_
      exact cut_of [0, 4, 5, 7, 9, 24] [2000048, 900000000, 900000001, 900000002] kr kr kr
     ·replace hs := bif_f h3 hs
      refine vS (vT (oR 8 [(24, .bool (decide ((w64 ((List.length s : Int) - q1.1)) < (List.length y4 : Int)))), (38, .bool (decide ((w64 ((List.length s : Int) - q1.1)) < (List.length y4 : Int)))), (37, iI (List.length y4 : Int)), (36, .str y4), (35, iI (w64 ((List.length s : Int) - q1.1))), (34, iI q1.1), (33, iI (List.length s : Int)), (32, .str s)] kr ?_))
      refine oN (nT ?_)
      refine v_cond (decide ((w64 ((List.length s : Int) - q1.1)) < (List.length y4 : Int))) kr (fun h4 => ?_) (fun h4 => ?_)
      ·replace hs := bif_t h4 hs
       refine vK ?_
       obtain rfl := si hs
       refine nrm_join (decide ((w64 ((List.length s : Int) - q1.1)) < (List.length y4 : Int))) rfl ?_
       exact cut_of [0, 4, 5, 7, 9, 24] [2000048, 900000000, 900000001, 900000002] kr kr kr
      ·replace hs := bif_f h4 hs
       refine vT (oR 6 [(44, iI (w64 (q1.1 + (List.length y4 : Int)))), (43, iI (List.length y4 : Int)), (42, .str y4), (41, iI q1.1), (40, iI q1.1), (39, .str s)] kr ?_)
       obtain ⟨x2, g2, hs⟩ := bS hs; obtain ⟨g2a, g2b, g2c, g2d⟩ := cut_some g2
       refine oP (v := .str x2) kr kr (by rw [g2d]; exact loc_sliceStr (s := s) (l := q1.1) (h := (w64 (q1.1 + (List.length y4 : Int)))) kr kr ⟨.i64, by kernel_rfl⟩ ⟨.i64, by kernel_rfl⟩ g2a g2b g2c) ?_
       refine oR 3 [(24, .bool (!(decide (x2 = y4)))), (47, .bool (!(decide (x2 = y4)))), (46, .str y4)] kr ?_
       refine oN ?_
       obtain rfl := si hs
       refine nrm_join (!(decide (x2 = y4))) rfl ?_
       exact cut_of [0, 4, 5, 7, 9, 24] [2000048, 900000000, 900000001, 900000002] kr kr kr
   ·subst hz; clear hs; have hs := hk2; clear hk2
    refine nT ?_
    refine v_cond v2 kr (fun h5 => ?_) (fun h5 => ?_)
    ·replace hs := bif_t h5 hs
     refine v_exit (exit_blkV_other rfl ?_)
     refine exit_thenV (exit_blkV_other rfl ?_)
     refine exit_fuel ?_
     refine exit_blkV ?_
     obtain rfl := si hs
     refine nrm_join (q1.1, q1.2) rfl ?_
     exact cut_of [4, 5] [2000048, 900000000, 900000001, 900000002] kr kr kr
    ·replace hs := bif_f h5 hs
     refine vK (nB (nT (vT (o_runh 3 [(50, .sl 1 50 1 0 1), (49, .str y2.1), (48, .sl 1 2000048 ((q1.2).length) 0 ((q1.2).length))] [(50, .row 9 1 0 (mS [y2.1])), (2000048, .row 9 1 0 (mS q1.2)), (900000000, gl0 ob0), (900000001, gl1 ob1 u1), (900000002, gl2 ob2 u2)] kr ?_))))
     obtain ⟨_, g3, hs⟩ := bS hs; replace g3 := grd_some g3
     refine o_loc (F := [(2000048, .row 9 1 0 (mS q1.2)), (50, .row 9 1 0 (mS [y2.1]))]) (F' := [(2000048, .row 9 1 0 (mS (q1.2 ++ [y2.1]))), (50, .row 9 1 0 (mS [y2.1]))]) (v := .sl 1 2000048 (((q1.2 ++ [y2.1])).length) 0 (((q1.2 ++ [y2.1])).length)) [2000048, 50] kr kr rfl kr (loc_appendT (e := 9) (sz := 1) (bytes := 16) (L := (q1.2).length) (els := (mS q1.2)) (ys := (mS [y2.1])) kr kr (by first | exact List.length_map .. | rfl) (.sl (t := 9) (fz := 0) (ys := (mS [y2.1])) kr kr) (map_ones EV.encS (fun _ => rfl) _) (map_lens EV.encS (fun _ => rfl) _) kr (by first | exact (List.map_append ..).symm | rfl | simp only [List.map_nil, List.nil_append]) (List.length_map ..) g3 (by omega)) kr ?_
     refine oR 6 [(5, iI (w64 (q1.1 + (List.length y4 : Int)))), (4, .sl 1 2000048 (((q1.2 ++ [y2.1])).length) 0 (((q1.2 ++ [y2.1])).length)), (55, iI (w64 (q1.1 + (List.length y4 : Int)))), (54, iI (List.length y4 : Int)), (53, .str y4), (52, iI q1.1)] kr ?_
     refine oN (nB (nrm_fuel ((w64 (q1.1 + (List.length y4 : Int))), (q1.2 ++ [y2.1])) hs ?_))
     exact cut_of [0, 4, 5] [2000048, 900000000, 900000001, 900000002] kr kr kr
  ·replace hs := bif_f h1 hs
   refine v_exit (exit_thenV (exit_fuel ?_))
   refine exit_blkV ?_
   obtain rfl := si hs
   refine nrm_join (q1.1, q1.2) rfl ?_
   exact cut_of [4, 5] [2000048, 900000000, 900000001, 900000002] kr kr kr
 ·subst hz; clear hs; have hs := hk1; clear hk1
  refine nT (vS (vT (oR 4 [(3, iI v1.1), (2, .sl 1 2000048 ((v1.2).length) 0 ((v1.2).length)), (57, iI v1.1), (56, .sl 1 2000048 ((v1.2).length) 0 ((v1.2).length))] kr ?_)))
  refine oN (nT (v_ret (ret_scpV ?_)))
  obtain rfl := si hs
  exact fin_ret kr kr kr
theorem w_journal_Journal_Len (j_d_files : (List (Int × disk_file))) (j_d_queue : (List disk_sector)) (j_d_set : (List (disk_sector × Bool))) (j_d_lost : Int) (j_d_down : Bool) (j_d_armed : Int) (j_d_keep : (List Int)) (j_file : Int) (j_records : (List (List UInt8))) (j_bytes : Int) (j_broken : Bool) (r : Int × Int × Int × Bool × Int × Bool × Int × (List Int)) (hs : s_journal_Journal_Len j_d_files j_d_queue j_d_set j_d_lost j_d_down j_d_armed j_d_keep j_file j_records j_bytes j_broken = some r) : FnA Tryd.prog 17 [pO] [(1000000, .box 70 [.ptr 1000001 0 0, iI j_file, .sl 1 1000005 ((j_records).length) 0 ((j_records).length), iI j_bytes, .bool j_broken]), (1000001, .box 64 [.mp 1000002, .sl 2 1000003 ((j_d_queue).length) 0 ((j_d_queue).length), .mp 1000004, iI j_d_lost, .bool j_d_down, iI j_d_armed, .vs 1 (mI j_d_keep)]), (1000002, (oF j_d_files)), (1000003, (oQ j_d_queue)), (1000004, (oS j_d_set)), (1000005, .row 9 1 0 (mS j_records))] (iI r.1) [(1000000, .box 70 [.ptr 1000001 0 0, iI r.2.1, .sl 1 1000005 ((j_records).length) 0 ((j_records).length), iI r.2.2.1, .bool r.2.2.2.1]), (1000001, .box 64 [.mp 1000002, .sl 2 1000003 ((j_d_queue).length) 0 ((j_d_queue).length), .mp 1000004, iI r.2.2.2.2.1, .bool r.2.2.2.2.2.1, iI r.2.2.2.2.2.2.1, .vs 1 (mI r.2.2.2.2.2.2.2)]), (1000002, (oF j_d_files)), (1000003, (oQ j_d_queue)), (1000004, (oS j_d_set)), (1000005, .row 9 1 0 (mS j_records))] := by
 refine fnA_of_wp (N := 8) Tryd.func17 rfl rfl rfl fun cK0 => ?_
 unfold s_journal_Journal_Len at hs
 refine v_same (ρ' := [(0, pO)]) rfl rfl ?_
 refine vS (vT (oR 1 [(2, iI 0)] kr ?_))
 refine oN (nT (vS (vT (oR 6 [(2, iI ((j_records).length : Int)), (7, iI ((j_records).length : Int)), (6, .sl 1 1000005 ((j_records).length) 0 ((j_records).length)), (5, .ptr 1000000 0 2), (4, pO), (3, pO)] kr ?_))))
 refine oN (nT (v_ret ?_))
 obtain rfl := si hs
 exact fin_ret kr kr kr
theorem w_journal_Journal_Get (j_d_files : (List (Int × disk_file))) (j_d_queue : (List disk_sector)) (j_d_set : (List (disk_sector × Bool))) (j_d_lost : Int) (j_d_down : Bool) (j_d_armed : Int) (j_d_keep : (List Int)) (j_file : Int) (j_records : (List (List UInt8))) (j_bytes : Int) (j_broken : Bool) (i : Int) (r : (List UInt8) × Int × Int × Bool × Int × Bool × Int × (List Int)) (hs : s_journal_Journal_Get j_d_files j_d_queue j_d_set j_d_lost j_d_down j_d_armed j_d_keep j_file j_records j_bytes j_broken i = some r) : FnA Tryd.prog 18 [pO, iI i] [(1000000, .box 70 [.ptr 1000001 0 0, iI j_file, .sl 1 1000005 ((j_records).length) 0 ((j_records).length), iI j_bytes, .bool j_broken]), (1000001, .box 64 [.mp 1000002, .sl 2 1000003 ((j_d_queue).length) 0 ((j_d_queue).length), .mp 1000004, iI j_d_lost, .bool j_d_down, iI j_d_armed, .vs 1 (mI j_d_keep)]), (1000002, (oF j_d_files)), (1000003, (oQ j_d_queue)), (1000004, (oS j_d_set)), (1000005, .row 9 1 0 (mS j_records))] (.str r.1) [(1000000, .box 70 [.ptr 1000001 0 0, iI r.2.1, .sl 1 1000005 ((j_records).length) 0 ((j_records).length), iI r.2.2.1, .bool r.2.2.2.1]), (1000001, .box 64 [.mp 1000002, .sl 2 1000003 ((j_d_queue).length) 0 ((j_d_queue).length), .mp 1000004, iI r.2.2.2.2.1, .bool r.2.2.2.2.2.1, iI r.2.2.2.2.2.2.1, .vs 1 (mI r.2.2.2.2.2.2.2)]), (1000002, (oF j_d_files)), (1000003, (oQ j_d_queue)), (1000004, (oS j_d_set)), (1000005, .row 9 1 0 (mS j_records))] := by
 refine fnA_of_wp (N := 23) Tryd.func18 rfl rfl rfl fun cK0 => ?_
 unfold s_journal_Journal_Get at hs
 refine v_same (ρ' := [(0, pO), (1, iI i)]) rfl rfl ?_
 refine vS (vT (oR 1 [(4, .str [])] kr ?_))
 refine oN (nT (vS (vS ?_)))
 obtain ⟨z1, hs, hk1⟩ := bS hs
 refine v_join (S := Bool) (fun u => u = z1) (fun u => [(0, pO), (1, iI i), (15, .bool u)]) (fun u => [(1000000, .box 70 [.ptr 1000001 0 0, iI j_file, .sl 1 1000005 ((j_records).length) 0 ((j_records).length), iI j_bytes, .bool j_broken]), (1000001, .box 64 [.mp 1000002, .sl 2 1000003 ((j_d_queue).length) 0 ((j_d_queue).length), .mp 1000004, iI j_d_lost, .bool j_d_down, iI j_d_armed, .vs 1 (mI j_d_keep)]), (1000002, (oF j_d_files)), (1000003, (oQ j_d_queue)), (1000004, (oS j_d_set)), (1000005, .row 9 1 0 (mS j_records))]) ?_ (fun v1 hz => ?_)
 ·refine vT (oR 3 [(7, .bool (decide (i < 0))), (6, .bool (decide (i < 0))), (5, iI i)] kr ?_)
  cases h1 : ((decide (i < 0)))
  ·replace hs := bif_f h1 hs
   refine oR 8 [(15, .bool (decide (i ≥ ((j_records).length : Int)))), (14, .bool (decide (i ≥ ((j_records).length : Int)))), (13, iI ((j_records).length : Int)), (12, .sl 1 1000005 ((j_records).length) 0 ((j_records).length)), (11, .ptr 1000000 0 2), (10, pO), (9, pO), (8, iI i)] kr ?_
   refine oN ?_
   obtain rfl := si hs
   refine nrm_join (decide (i ≥ ((j_records).length : Int))) rfl ?_
   exact cut_of [0, 1, 15] [1000000, 1000001, 1000002, 1000003, 1000004, 1000005] kr kr kr
  ·replace hs := bif_t h1 hs
   refine oR 8 [(15, .bool true), (14, .no), (13, .no), (12, .no), (11, .no), (10, .no), (9, .no), (8, .no)] kr ?_
   refine oN ?_
   obtain rfl := si hs
   refine nrm_join true rfl ?_
   exact cut_of [0, 1, 15] [1000000, 1000001, 1000002, 1000003, 1000004, 1000005] kr kr kr
 ·subst hz; clear hs; have hs := hk1; clear hk1
  refine nT ?_
  refine v_cond v1 kr (fun h2 => ?_) (fun h2 => ?_)
  ·replace hs := bif_t h2 hs
   refine vS (vT (oR 1 [(4, .str [])] kr ?_))
   refine oN (nT (v_ret (rT ?_)))
   obtain rfl := si hs
   exact fin_ret kr kr kr
  ·replace hs := bif_f h2 hs
   refine vK (nT (vS (vT (oR 5 [(20, iI i), (19, .sl 1 1000005 ((j_records).length) 0 ((j_records).length)), (18, .ptr 1000000 0 2), (17, pO), (16, pO)] kr ?_))))
   obtain ⟨⟨g1a, g1b⟩, hs⟩ := bG hs
   refine oP (v := .ptr 1000005 ((j_records).length) ((Int.toNat i) * 1 + 0)) kr kr (loc_indexRowT (e := 9) (sz := 1) (kk := 1000005) (L := (j_records).length) (n := (j_records).length) (k := .i64) (i := i) kr kr kr g1a g1b) ?_
   obtain ⟨e1, he1, hs⟩ := bE hs
   refine o_loc (F := [(1000005, .row 9 1 0 (mS j_records))]) (F' := [(1000005, .row 9 1 0 (mS j_records))]) (v := .str e1) [1000005] kr kr rfl kr (loc_loadRow (L := (j_records).length) (off := (Int.toNat i) * 1 + 0) (els := (mS j_records)) (cs := [.str e1]) (Int.toNat i) 0 kr (by first | (simp only [List.length_map, List.length_set, cpyT_length]; done) | rfl) rfl (by rw [← he1]; exact map_get _ (by first | omega | (simp only [List.length_set, cpyT_length]; omega))) kr) kr ?_
   refine oR 1 [(4, .str e1)] kr ?_
   refine oN (nT (v_ret ?_))
   obtain rfl := si hs
   exact fin_ret kr kr kr
theorem w_journal_Journal_All (j_d_files : (List (Int × disk_file))) (j_d_queue : (List disk_sector)) (j_d_set : (List (disk_sector × Bool))) (j_d_lost : Int) (j_d_down : Bool) (j_d_armed : Int) (j_d_keep : (List Int)) (j_file : Int) (j_records : (List (List UInt8))) (j_bytes : Int) (j_broken : Bool) (r : (List (List UInt8)) × Int × Int × Bool × Int × Bool × Int × (List Int)) (hs : s_journal_Journal_All j_d_files j_d_queue j_d_set j_d_lost j_d_down j_d_armed j_d_keep j_file j_records j_bytes j_broken = some r) : FnA Tryd.prog 16 [pO] [(1000000, .box 70 [.ptr 1000001 0 0, iI j_file, .sl 1 1000005 ((j_records).length) 0 ((j_records).length), iI j_bytes, .bool j_broken]), (1000001, .box 64 [.mp 1000002, .sl 2 1000003 ((j_d_queue).length) 0 ((j_d_queue).length), .mp 1000004, iI j_d_lost, .bool j_d_down, iI j_d_armed, .vs 1 (mI j_d_keep)]), (1000002, (oF j_d_files)), (1000003, (oQ j_d_queue)), (1000004, (oS j_d_set)), (1000005, .row 9 1 0 (mS j_records))] (.sl 1 9 ((r.1).length) 0 ((r.1).length)) [(9, .row 9 1 0 (mS r.1)), (1000005, .row 9 1 0 (mS j_records)), (1000000, .box 70 [.ptr 1000001 0 0, iI r.2.1, .sl 1 1000005 ((j_records).length) 0 ((j_records).length), iI r.2.2.1, .bool r.2.2.2.1]), (1000001, .box 64 [.mp 1000002, .sl 2 1000003 ((j_d_queue).length) 0 ((j_d_queue).length), .mp 1000004, iI r.2.2.2.2.1, .bool r.2.2.2.2.2.1, iI r.2.2.2.2.2.2.1, .vs 1 (mI r.2.2.2.2.2.2.2)]), (1000002, (oF j_d_files)), (1000003, (oQ j_d_queue)), (1000004, (oS j_d_set))] := by
 refine fnA_of_wp (N := 17) Tryd.func16 rfl rfl rfl fun cK0 => ?_
 unfold s_journal_Journal_All at hs
 refine v_same (ρ' := [(0, pO)]) rfl rfl ?_
 refine vS (vT (oR 1 [(2, .nils)] kr ?_))
 refine oN (nT (vS (vT (oR 5 [(8, iI ((j_records).length : Int)), (7, .sl 1 1000005 ((j_records).length) 0 ((j_records).length)), (6, .ptr 1000000 0 2), (5, pO), (4, pO)] kr ?_))))
 obtain ⟨⟨g1a, g1b, g1c⟩, hs⟩ := bG hs
 refine o_loc (F := []) (F' := [(9, .row 9 1 0 (mS (List.replicate (Int.toNat ((j_records).length : Int)) ([] : (List UInt8)))))]) (v := .sl 1 9 (((List.replicate (Int.toNat ((j_records).length : Int)) ([] : (List UInt8)))).length) 0 (((List.replicate (Int.toNat ((j_records).length : Int)) ([] : (List UInt8)))).length)) [] kr kr rfl kr (loc_makeSliceT (L := ((List.replicate (Int.toNat ((j_records).length : Int)) ([] : (List UInt8)))).length) (e := 9) (sz := 1) (bytes := 16) (q := ((j_records).length : Int)) (k := .i64) (k2 := .i64) (cs := [.str []]) (cs2 := [.str []]) kr kr kr kr kr g1a g1b g1c (List.map_replicate (f := EV.encS)).symm (List.length_replicate ..) (fun _ _ h => h)) kr ?_
 refine oR 1 [(3, .sl 1 9 (((List.replicate (Int.toNat ((j_records).length : Int)) ([] : (List UInt8)))).length) 0 (((List.replicate (Int.toNat ((j_records).length : Int)) ([] : (List UInt8)))).length))] kr ?_
 refine oN (nT (vS (vT (oR 5 [(14, .sl 1 1000005 ((j_records).length) 0 ((j_records).length)), (13, .ptr 1000000 0 2), (12, pO), (11, pO), (10, .sl 1 9 (((List.replicate (Int.toNat ((j_records).length : Int)) ([] : (List UInt8)))).length) 0 (((List.replicate (Int.toNat ((j_records).length : Int)) ([] : (List UInt8)))).length))] kr ?_))))
 refine o_loc (F := [(9, .row 9 1 0 (mS (List.replicate (Int.toNat ((j_records).length : Int)) ([] : (List UInt8))))), (1000005, .row 9 1 0 (mS j_records))]) (F' := [(9, .row 9 1 0 (mS (cpyT (List.replicate (Int.toNat ((j_records).length : Int)) ([] : (List UInt8))) 0 (List.take (min (List.length j_records) (((List.replicate (Int.toNat ((j_records).length : Int)) ([] : (List UInt8)))).length)) j_records)))), (1000005, .row 9 1 0 (mS j_records))]) (v := iI (((min (List.length j_records) (((List.replicate (Int.toNat ((j_records).length : Int)) ([] : (List UInt8)))).length)) : Nat) : Int)) [9, 1000005] kr kr rfl kr (loc_copyT EV.encS (e := 9) (sz := 1) (bytes := 16) (k := 9) (L := (((List.replicate (Int.toNat ((j_records).length : Int)) ([] : (List UInt8)))).length)) (o := 0) (n := (((List.replicate (Int.toNat ((j_records).length : Int)) ([] : (List UInt8)))).length)) (c := (min (List.length j_records) (((List.replicate (Int.toNat ((j_records).length : Int)) ([] : (List UInt8)))).length))) (q := (List.replicate (Int.toNat ((j_records).length : Int)) ([] : (List UInt8)))) (ys := j_records) kr kr (by first | rfl | simp only [List.length_set, cpyT_length]) (by omega) (.sl (t := 9) (fz := 0) (ys := (mS j_records)) kr (by first | (simp only [List.length_map, List.length_set, cpyT_length]; done) | rfl)) (fun _ => rfl) (fun _ => rfl) kr rfl rfl) kr ?_
 refine oN (nT (vS (vT (oR 2 [(2, .sl 1 9 (((List.replicate (Int.toNat ((j_records).length : Int)) ([] : (List UInt8)))).length) 0 (((List.replicate (Int.toNat ((j_records).length : Int)) ([] : (List UInt8)))).length)), (16, .sl 1 9 (((List.replicate (Int.toNat ((j_records).length : Int)) ([] : (List UInt8)))).length) 0 (((List.replicate (Int.toNat ((j_records).length : Int)) ([] : (List UInt8)))).length))] kr ?_))))
 refine oN (nT (v_to ((2, .sl 1 9 (((cpyT (List.replicate (Int.toNat ((j_records).length : Int)) ([] : (List UInt8))) 0 (List.take (min (List.length j_records) (((List.replicate (Int.toNat ((j_records).length : Int)) ([] : (List UInt8)))).length)) j_records))).length) 0 (((cpyT (List.replicate (Int.toNat ((j_records).length : Int)) ([] : (List UInt8))) 0 (List.take (min (List.length j_records) (((List.replicate (Int.toNat ((j_records).length : Int)) ([] : (List UInt8)))).length)) j_records))).length)) :: _) _ (cut_view (t := 2) (v := .sl 1 9 (((cpyT (List.replicate (Int.toNat ((j_records).length : Int)) ([] : (List UInt8))) 0 (List.take (min (List.length j_records) (((List.replicate (Int.toNat ((j_records).length : Int)) ([] : (List UInt8)))).length)) j_records))).length) 0 (((cpyT (List.replicate (Int.toNat ((j_records).length : Int)) ([] : (List UInt8))) 0 (List.take (min (List.length j_records) (((List.replicate (Int.toNat ((j_records).length : Int)) ([] : (List UInt8)))).length)) j_records))).length)) [] [] rfl rfl (.weak (sl_len (by simp only [cpyT_length])))) ?_))
 refine v_ret ?_
 obtain rfl := si hs
 exact fin_ret kr kr kr
theorem w_journal_Journal_Append_n (j_d_files : (List (Int × disk_file))) (j_d_queue : (List disk_sector)) (j_d_set : (List (disk_sector × Bool))) (j_d_lost : Int) (j_d_down : Bool) (j_d_armed : Int) (j_d_keep : (List Int)) (j_file : Int) (j_records : (List (List UInt8))) (j_bytes : Int) (j_broken : Bool) (record : (List UInt8)) (r : Int × Int × Int × Bool × Int × Bool × Int × (List Int) × (List (Int × disk_file)) × (List disk_sector) × (List (disk_sector × Bool)) × (List (List UInt8))) (hs : s_journal_Journal_Append_n j_d_files j_d_queue j_d_set j_d_lost j_d_down j_d_armed j_d_keep j_file j_records j_bytes j_broken record = some r) : FnA Tryd.prog 11 [pO, .str record] [(1000000, .box 70 [.ptr 1000001 0 0, iI j_file, .sl 1 1000005 ((j_records).length) 0 ((j_records).length), iI j_bytes, .bool j_broken]), (1000001, .box 64 [.mp 1000002, .sl 2 1000003 ((j_d_queue).length) 0 ((j_d_queue).length), .mp 1000004, iI j_d_lost, .bool j_d_down, iI j_d_armed, .vs 1 (mI j_d_keep)]), (1000002, (oF j_d_files)), (1000003, (oQ j_d_queue)), (1000004, (oS j_d_set)), (1000005, .row 9 1 0 (mS j_records)), (900000000, gl0 ob0), (900000001, gl1 ob1 u1), (900000002, gl2 ob2 u2)] (iI r.1) [(1000000, .box 70 [.ptr 1000001 0 0, iI r.2.1, .sl 1 1000005 ((r.2.2.2.2.2.2.2.2.2.2.2).length) 0 ((r.2.2.2.2.2.2.2.2.2.2.2).length), iI r.2.2.1, .bool r.2.2.2.1]), (1000001, .box 64 [.mp 1000002, .sl 2 1000003 ((r.2.2.2.2.2.2.2.2.2.1).length) 0 ((r.2.2.2.2.2.2.2.2.2.1).length), .mp 1000004, iI r.2.2.2.2.1, .bool r.2.2.2.2.2.1, iI r.2.2.2.2.2.2.1, .vs 1 (mI r.2.2.2.2.2.2.2.1)]), (1000002, (oF r.2.2.2.2.2.2.2.2.1)), (1000003, (oQ r.2.2.2.2.2.2.2.2.2.1)), (1000004, (oS r.2.2.2.2.2.2.2.2.2.2.1)), (1000005, .row 9 1 0 (mS r.2.2.2.2.2.2.2.2.2.2.2)), (900000000, gl0 ob0), (900000001, gl1 ob1 u1), (900000002, gl2 ob2 u2)] := by
 refine fnA_of_wp (N := 67) Tryd.func11 rfl rfl rfl fun cK0 => ?_
 unfold s_journal_Journal_Append_n at hs
 refine v_same (ρ' := [(0, pO), (1, .str record)]) rfl rfl ?_
 refine vS (vT (oR 1 [(4, iI 0)] kr ?_))
 refine oN (nT (vS (vT (oR 1 [(7, .str record)] kr ?_))))
 obtain ⟨y1, c1, hs⟩ := bS hs
 refine o_loc (F := (gO ob0 ob1 ob2 u1 u2)) (F' := (gO ob0 ob1 ob2 u1 u2)) (v := .str y1) kG kr kr rfl kr (loc_gcallL (vs := [.str record]) (G := (gO ob0 ob1 ob2 u1 u2)) (R := []) (callV_func hbv37 kr) (w_journal_form (ob0 := ob0) (ob1 := ob1) (ob2 := ob2) (u1 := u1) (u2 := u2) record _ c1) kr (.cons (.same _) (.nil)) kr kr kr) kr ?_
 refine oR 1 [(5, .str y1)] kr ?_
 refine oN (nT (vS (vB (vS (vT (oR 5 [(9, .bool j_broken), (13, .bool j_broken), (12, .ptr 1000000 0 4), (11, pO), (10, pO)] kr ?_))))))
 refine oN (nT ?_)
 refine v_cond j_broken kr (fun h1 => ?_) (fun h1 => ?_)
 ·replace hs := bif_t h1 hs
  refine vS (vT (oR 1 [(4, iI 7)] kr ?_))
  refine oN (nT (v_ret (rB (rT ?_))))
  obtain rfl := si hs
  exact fin_ret kr kr kr
 ·replace hs := bif_f h1 hs
  refine vS (vT (oR 4 [(14, .bool (decide ((List.length record : Int) > 20000))), (17, .bool (decide ((List.length record : Int) > 20000))), (16, iI (List.length record : Int)), (15, .str record)] kr ?_))
  refine oN (nT ?_)
  refine v_cond (decide ((List.length record : Int) > 20000)) kr (fun h2 => ?_) (fun h2 => ?_)
  ·replace hs := bif_t h2 hs
   refine vS (vT (oR 1 [(4, iI 3)] kr ?_))
   refine oN (nT (v_ret (rB (rT ?_))))
   obtain rfl := si hs
   exact fin_ret kr kr kr
  ·replace hs := bif_f h2 hs
   refine vS (vT (oR 9 [(18, .bool (decide ((w64 (j_bytes + (List.length y1 : Int))) > 1048576))), (26, .bool (decide ((w64 (j_bytes + (List.length y1 : Int))) > 1048576))), (25, iI (w64 (j_bytes + (List.length y1 : Int)))), (24, iI (List.length y1 : Int)), (23, .str y1), (22, iI j_bytes), (21, .ptr 1000000 0 3), (20, pO), (19, pO)] kr ?_))
   refine oN (nT ?_)
   refine v_cond (decide ((w64 (j_bytes + (List.length y1 : Int))) > 1048576)) kr (fun h3 => ?_) (fun h3 => ?_)
   ·replace hs := bif_t h3 hs
    refine vS (vT (oR 1 [(4, iI 6)] kr ?_))
    refine oN (nT (v_ret (rB (rT ?_))))
    obtain rfl := si hs
    exact fin_ret kr kr kr
   ·replace hs := bif_f h3 hs
    refine vK (nB (nT (vS (vS (v_draw mixedH kr ?_)))))
    refine d_runs 13 0 [(39, .str y1), (38, iI j_bytes), (37, .ptr 1000000 0 3), (36, pO), (35, pO), (34, iI j_file), (33, .ptr 1000000 0 1), (32, pO), (31, pO), (30, .ptr 1000001 0 0), (29, pO), (28, pO), (27, pO)] [⟨12, [], []⟩, ⟨11, [], [1000000]⟩, ⟨10, [], []⟩, ⟨9, [], []⟩, ⟨8, [], []⟩, ⟨7, [], [1000000]⟩, ⟨6, [], []⟩, ⟨5, [], []⟩, ⟨4, [], []⟩, ⟨3, [], [1000000]⟩, ⟨2, [], []⟩, ⟨1, [], []⟩, ⟨0, [], []⟩] kr kr ?_
    cases c2 : (s_disk_Disk_Write_n j_d_files j_d_queue j_d_set j_d_lost j_d_down j_d_armed j_d_keep j_file j_bytes y1)
    ·replace hs := orO_none c2 hs
     cases c3 : (s_disk_Disk_Write_x j_d_files j_d_queue j_d_set j_d_lost j_d_down j_d_armed j_d_keep j_file j_bytes y1)
     ·replace hs := orO_none c3 hs
      cases hs
     ·rename_i y3; replace hs := orO_some c3 hs
      cases hs
    ·rename_i y2; replace hs := orO_some c2 hs
     refine d_loc (F := [(1000001, .box 64 [.mp 1000002, .sl 2 1000003 ((j_d_queue).length) 0 ((j_d_queue).length), .mp 1000004, iI j_d_lost, .bool j_d_down, iI j_d_armed, .vs 1 (mI j_d_keep)]), (1000002, (oF j_d_files)), (1000003, (oQ j_d_queue)), (1000004, (oS j_d_set))]) (R := []) (F' := [(1000001, .box 64 [.mp 1000002, .sl 2 1000003 ((y2.2.2.2.2.2.2.1).length) 0 ((y2.2.2.2.2.2.2.1).length), .mp 1000004, iI y2.2.1, .bool y2.2.2.1, iI y2.2.2.2.1, .vs 1 (mI y2.2.2.2.2.1)]), (1000002, (oF y2.2.2.2.2.2.1)), (1000003, (oQ y2.2.2.2.2.2.2.1)), (1000004, (oS y2.2.2.2.2.2.2.2))]) (v := iI y2.1) 13 [1000001, 1000002, 1000003, 1000004] [] rfl rfl rfl rfl kr kr kr kr kr kr kr kr (loc_g (R := []) [.ptr 1000001 0 0, iI j_file, iI j_bytes, .str y1] [(1000000, 1000001), (1000001, 1000002), (1000002, 1000003), (1000003, 1000004)] (callV_func hbv14 kr) (w_disk_Disk_Write_n j_d_files j_d_queue j_d_set j_d_lost j_d_down j_d_armed j_d_keep j_file j_bytes y1 _ c2) (.cons (.same _) vw3) kr kr kr kr kr kr kr kr) ?_
     refine d_runs 1 14 [(6, iI y2.1)] (pfp 1 14) kr kr ?_
     refine d_nil kr ?_
     refine nT (vS (vT (oR 2 [(42, .bool (!(decide (y2.1 = 0)))), (41, iI y2.1)] kr ?_)))
     refine oN (nT ?_)
     refine v_cond (!(decide (y2.1 = 0))) kr (fun h4 => ?_) (fun h4 => ?_)
     ·replace hs := bif_t h4 hs
      refine vS (vT (o_runh 4 [(45, .ptr 1000000 0 4), (44, pO), (43, pO)] [(1000001, .box 64 [.mp 1000002, .sl 2 1000003 ((y2.2.2.2.2.2.2.1).length) 0 ((y2.2.2.2.2.2.2.1).length), .mp 1000004, iI y2.2.1, .bool y2.2.2.1, iI y2.2.2.2.1, .vs 1 (mI y2.2.2.2.2.1)]), (1000002, (oF y2.2.2.2.2.2.1)), (1000003, (oQ y2.2.2.2.2.2.2.1)), (1000004, (oS y2.2.2.2.2.2.2.2)), (900000000, gl0 ob0), (900000001, gl1 ob1 u1), (900000002, gl2 ob2 u2), (1000000, .box 70 [.ptr 1000001 0 0, iI j_file, .sl 1 1000005 ((j_records).length) 0 ((j_records).length), iI j_bytes, .bool true]), (1000005, .row 9 1 0 (mS j_records))] kr ?_))
      refine oN (nT (vS (vT (oR 2 [(4, iI y2.1), (46, iI y2.1)] kr ?_))))
      refine oN (nT (v_ret (rT ?_)))
      obtain rfl := si hs
      exact fin_ret kr kr kr
     ·replace hs := bif_f h4 hs
      refine vK (nT (vS (v_draw mixedH kr ?_)))
      refine d_runh 8 0 [(54, .sl 1 54 1 0 1), (53, .str record), (52, .sl 1 1000005 ((j_records).length) 0 ((j_records).length)), (51, .ptr 1000000 0 2), (50, pO), (49, pO), (48, pO), (47, pO)] [(54, .row 9 1 0 (mS [record])), (1000001, .box 64 [.mp 1000002, .sl 2 1000003 ((y2.2.2.2.2.2.2.1).length) 0 ((y2.2.2.2.2.2.2.1).length), .mp 1000004, iI y2.2.1, .bool y2.2.2.1, iI y2.2.2.2.1, .vs 1 (mI y2.2.2.2.2.1)]), (1000002, (oF y2.2.2.2.2.2.1)), (1000003, (oQ y2.2.2.2.2.2.2.1)), (1000004, (oS y2.2.2.2.2.2.2.2)), (900000000, gl0 ob0), (900000001, gl1 ob1 u1), (900000002, gl2 ob2 u2), (1000000, .box 70 [.ptr 1000001 0 0, iI j_file, .sl 1 1000005 ((j_records).length) 0 ((j_records).length), iI j_bytes, .bool j_broken]), (1000005, .row 9 1 0 (mS j_records))] [⟨7, [54], []⟩, ⟨6, [], []⟩, ⟨5, [], [1000000]⟩, ⟨4, [], []⟩, ⟨3, [], []⟩, ⟨2, [], []⟩, ⟨1, [], []⟩, ⟨0, [], []⟩] kr kr ?_
      obtain ⟨_, g1, hs⟩ := bS hs; replace g1 := grd_some g1
      refine d_loc (F := [(1000005, .row 9 1 0 (mS j_records))]) (R := [(54, .row 9 1 0 (mS [record]))]) (F' := [(1000005, .row 9 1 0 (mS (j_records ++ [record])))]) (v := .sl 1 1000005 (((j_records ++ [record])).length) 0 (((j_records ++ [record])).length)) 8 [1000005] [54] rfl rfl rfl rfl kr kr kr kr kr kr kr kr (loc_appendT (e := 9) (sz := 1) (bytes := 16) (L := (j_records).length) (els := (mS j_records)) (ys := (mS [record])) kr kr (by first | exact List.length_map .. | rfl) (.sl (t := 9) (fz := 0) (ys := (mS [record])) kr kr) (map_ones EV.encS (fun _ => rfl) _) (map_lens EV.encS (fun _ => rfl) _) kr (by first | exact (List.map_append ..).symm | rfl | simp only [List.map_nil, List.nil_append]) (List.length_map ..) g1 (by omega)) ?_
      refine d_runh 13 9 [(66, .ptr 1000000 0 3), (65, pO), (64, .ptr 1000000 0 2), (63, pO), (62, iI (w64 (j_bytes + (List.length y1 : Int)))), (61, iI (List.length y1 : Int)), (60, .str y1), (59, iI j_bytes), (58, .ptr 1000000 0 3), (57, pO), (56, pO)] [(1000000, .box 70 [.ptr 1000001 0 0, iI j_file, .sl 1 1000005 (((j_records ++ [record])).length) 0 (((j_records ++ [record])).length), iI (w64 (j_bytes + (List.length y1 : Int))), .bool j_broken]), (1000005, .row 9 1 0 (mS (j_records ++ [record]))), (54, .row 9 1 0 (mS [record])), (1000001, .box 64 [.mp 1000002, .sl 2 1000003 ((y2.2.2.2.2.2.2.1).length) 0 ((y2.2.2.2.2.2.2.1).length), .mp 1000004, iI y2.2.1, .bool y2.2.2.1, iI y2.2.2.2.1, .vs 1 (mI y2.2.2.2.2.1)]), (1000002, (oF y2.2.2.2.2.2.1)), (1000003, (oQ y2.2.2.2.2.2.2.1)), (1000004, (oS y2.2.2.2.2.2.2.2)), (900000000, gl0 ob0), (900000001, gl1 ob1 u1), (900000002, gl2 ob2 u2)] [⟨21, [1000000], []⟩, ⟨20, [], []⟩, ⟨19, [], []⟩, ⟨18, [1000000], []⟩, ⟨17, [], []⟩, ⟨16, [], []⟩, ⟨15, [], []⟩, ⟨14, [], []⟩, ⟨13, [], []⟩, ⟨12, [], [1000000]⟩, ⟨11, [], []⟩, ⟨10, [], []⟩, ⟨9, [], []⟩] kr kr ?_
      refine d_nil kr ?_
      refine nT (vS (vT (oR 1 [(4, iI 0)] kr ?_)))
      refine oN (nT (v_ret ?_))
      obtain rfl := si hs
      exact fin_ret kr kr kr
theorem w_journal_Journal_Append_x (j_d_files : (List (Int × disk_file))) (j_d_queue : (List disk_sector)) (j_d_set : (List (disk_sector × Bool))) (j_d_lost : Int) (j_d_down : Bool) (j_d_armed : Int) (j_d_keep : (List Int)) (j_file : Int) (j_records : (List (List UInt8))) (j_bytes : Int) (j_broken : Bool) (record : (List UInt8)) (r : (List (Int × disk_file)) × Int × (List Int) × (List disk_sector) × (List (disk_sector × Bool)) × Int × Int) (hs : s_journal_Journal_Append_x j_d_files j_d_queue j_d_set j_d_lost j_d_down j_d_armed j_d_keep j_file j_records j_bytes j_broken record = some r) : FnA Tryd.prog 11 [pO, .str record] [(1000000, .box 70 [.ptr 1000001 0 0, iI j_file, .sl 1 1000005 ((j_records).length) 0 ((j_records).length), iI j_bytes, .bool j_broken]), (1000001, .box 64 [.mp 1000002, .sl 2 1000003 ((j_d_queue).length) 0 ((j_d_queue).length), .mp 1000004, iI j_d_lost, .bool j_d_down, iI j_d_armed, .vs 1 (mI j_d_keep)]), (1000002, (oF j_d_files)), (1000003, (oQ j_d_queue)), (1000004, (oS j_d_set)), (1000005, .row 9 1 0 (mS j_records)), (900000000, gl0 ob0), (900000001, gl1 ob1 u1), (900000002, gl2 ob2 u2)] (iI 8) [(3004000, (oS [])), (1000002, (oF r.1)), (1000001, .box 64 [.mp 1000002, .nils, .mp 3004000, iI r.2.1, .bool true, iI 0, .vs 1 (mI r.2.2.1)]), (1000003, (oQ r.2.2.2.1)), (1000004, (oS r.2.2.2.2.1)), (1000000, .box 70 [.ptr 1000001 0 0, iI r.2.2.2.2.2.1, .sl 1 1000005 ((j_records).length) 0 ((j_records).length), iI r.2.2.2.2.2.2, .bool true]), (1000005, .row 9 1 0 (mS j_records)), (900000000, gl0 ob0), (900000001, gl1 ob1 u1), (900000002, gl2 ob2 u2)] := by
 refine fnA_of_wp (N := 67) Tryd.func11 rfl rfl rfl fun cK0 => ?_
 unfold s_journal_Journal_Append_x at hs
 refine v_same (ρ' := [(0, pO), (1, .str record)]) rfl rfl ?_
 refine vS (vT (oR 1 [(4, iI 0)] kr ?_))
 refine oN (nT (vS (vT (oR 1 [(7, .str record)] kr ?_))))
 obtain ⟨y1, c1, hs⟩ := bS hs
 refine o_loc (F := (gO ob0 ob1 ob2 u1 u2)) (F' := (gO ob0 ob1 ob2 u1 u2)) (v := .str y1) kG kr kr rfl kr (loc_gcallL (vs := [.str record]) (G := (gO ob0 ob1 ob2 u1 u2)) (R := []) (callV_func hbv37 kr) (w_journal_form (ob0 := ob0) (ob1 := ob1) (ob2 := ob2) (u1 := u1) (u2 := u2) record _ c1) kr (.cons (.same _) (.nil)) kr kr kr) kr ?_
 refine oR 1 [(5, .str y1)] kr ?_
 refine oN (nT (vS (vB (vS (vT (oR 5 [(9, .bool j_broken), (13, .bool j_broken), (12, .ptr 1000000 0 4), (11, pO), (10, pO)] kr ?_))))))
 refine oN (nT ?_)
 refine v_cond j_broken kr (fun h1 => ?_) (fun h1 => ?_)
 ·replace hs := bif_t h1 hs
  cases hs
 ·replace hs := bif_f h1 hs
  refine vS (vT (oR 4 [(14, .bool (decide ((List.length record : Int) > 20000))), (17, .bool (decide ((List.length record : Int) > 20000))), (16, iI (List.length record : Int)), (15, .str record)] kr ?_))
  refine oN (nT ?_)
  refine v_cond (decide ((List.length record : Int) > 20000)) kr (fun h2 => ?_) (fun h2 => ?_)
  ·replace hs := bif_t h2 hs
   cases hs
  ·replace hs := bif_f h2 hs
   refine vS (vT (oR 9 [(18, .bool (decide ((w64 (j_bytes + (List.length y1 : Int))) > 1048576))), (26, .bool (decide ((w64 (j_bytes + (List.length y1 : Int))) > 1048576))), (25, iI (w64 (j_bytes + (List.length y1 : Int)))), (24, iI (List.length y1 : Int)), (23, .str y1), (22, iI j_bytes), (21, .ptr 1000000 0 3), (20, pO), (19, pO)] kr ?_))
   refine oN (nT ?_)
   refine v_cond (decide ((w64 (j_bytes + (List.length y1 : Int))) > 1048576)) kr (fun h3 => ?_) (fun h3 => ?_)
   ·replace hs := bif_t h3 hs
    cases hs
   ·replace hs := bif_f h3 hs
    refine vK (nB (nT (vS (vS (v_draw mixedH kr ?_)))))
    refine d_runs 13 0 [(39, .str y1), (38, iI j_bytes), (37, .ptr 1000000 0 3), (36, pO), (35, pO), (34, iI j_file), (33, .ptr 1000000 0 1), (32, pO), (31, pO), (30, .ptr 1000001 0 0), (29, pO), (28, pO), (27, pO)] [⟨12, [], []⟩, ⟨11, [], [1000000]⟩, ⟨10, [], []⟩, ⟨9, [], []⟩, ⟨8, [], []⟩, ⟨7, [], [1000000]⟩, ⟨6, [], []⟩, ⟨5, [], []⟩, ⟨4, [], []⟩, ⟨3, [], [1000000]⟩, ⟨2, [], []⟩, ⟨1, [], []⟩, ⟨0, [], []⟩] kr kr ?_
    cases c2 : (s_disk_Disk_Write_n j_d_files j_d_queue j_d_set j_d_lost j_d_down j_d_armed j_d_keep j_file j_bytes y1)
    ·replace hs := orO_none c2 hs
     cases c3 : (s_disk_Disk_Write_x j_d_files j_d_queue j_d_set j_d_lost j_d_down j_d_armed j_d_keep j_file j_bytes y1)
     ·replace hs := orO_none c3 hs
      cases hs
     ·rename_i y3; replace hs := orO_some c3 hs
      refine d_loc (F := [(1000001, .box 64 [.mp 1000002, .sl 2 1000003 ((j_d_queue).length) 0 ((j_d_queue).length), .mp 1000004, iI j_d_lost, .bool j_d_down, iI j_d_armed, .vs 1 (mI j_d_keep)]), (1000002, (oF j_d_files)), (1000003, (oQ j_d_queue)), (1000004, (oS j_d_set))]) (R := []) (F' := [(3004000, (oS [])), (1000002, (oF y3.1)), (1000001, .box 64 [.mp 1000002, .nils, .mp 3004000, iI y3.2.1, .bool true, iI 0, .vs 1 (mI y3.2.2.1)]), (1000003, (oQ y3.2.2.2.1)), (1000004, (oS y3.2.2.2.2))]) (v := iI 8) 13 [1000001, 1000002, 1000003, 1000004] [] rfl rfl rfl rfl kr kr kr kr kr kr kr kr (loc_g (R := []) [.ptr 1000001 0 0, iI j_file, iI j_bytes, .str y1] [(1000000, 1000001), (1000001, 1000002), (1000002, 1000003), (1000003, 1000004), (3002400, 3004000)] (callV_func hbv14 kr) (w_disk_Disk_Write_x j_d_files j_d_queue j_d_set j_d_lost j_d_down j_d_armed j_d_keep j_file j_bytes y1 _ c3) (.cons (.same _) vw3) kr kr kr kr kr kr kr kr) ?_
      refine d_runs 1 14 [(6, iI 8)] (pfp 1 14) kr kr ?_
      refine d_nil kr ?_
      refine nT (vS (vT (oR 2 [(42, .bool true), (41, iI 8)] kr ?_)))
      refine oN (nT (v_cond_t kr ?_))
      refine vS (vT (o_runh 4 [(45, .ptr 1000000 0 4), (44, pO), (43, pO)] [(3004000, (oS [])), (1000002, (oF y3.1)), (1000001, .box 64 [.mp 1000002, .nils, .mp 3004000, iI y3.2.1, .bool true, iI 0, .vs 1 (mI y3.2.2.1)]), (1000003, (oQ y3.2.2.2.1)), (1000004, (oS y3.2.2.2.2)), (900000000, gl0 ob0), (900000001, gl1 ob1 u1), (900000002, gl2 ob2 u2), (1000000, .box 70 [.ptr 1000001 0 0, iI j_file, .sl 1 1000005 ((j_records).length) 0 ((j_records).length), iI j_bytes, .bool true]), (1000005, .row 9 1 0 (mS j_records))] kr ?_))
      refine oN (nT (vS (vT (oR 2 [(4, iI 8), (46, iI 8)] kr ?_))))
      refine oN (nT (v_ret (rT ?_)))
      obtain rfl := si hs
      exact fin_ret kr kr kr
    ·rename_i y2; replace hs := orO_some c2 hs
     refine d_loc (F := [(1000001, .box 64 [.mp 1000002, .sl 2 1000003 ((j_d_queue).length) 0 ((j_d_queue).length), .mp 1000004, iI j_d_lost, .bool j_d_down, iI j_d_armed, .vs 1 (mI j_d_keep)]), (1000002, (oF j_d_files)), (1000003, (oQ j_d_queue)), (1000004, (oS j_d_set))]) (R := []) (F' := [(1000001, .box 64 [.mp 1000002, .sl 2 1000003 ((y2.2.2.2.2.2.2.1).length) 0 ((y2.2.2.2.2.2.2.1).length), .mp 1000004, iI y2.2.1, .bool y2.2.2.1, iI y2.2.2.2.1, .vs 1 (mI y2.2.2.2.2.1)]), (1000002, (oF y2.2.2.2.2.2.1)), (1000003, (oQ y2.2.2.2.2.2.2.1)), (1000004, (oS y2.2.2.2.2.2.2.2))]) (v := iI y2.1) 13 [1000001, 1000002, 1000003, 1000004] [] rfl rfl rfl rfl kr kr kr kr kr kr kr kr (loc_g (R := []) [.ptr 1000001 0 0, iI j_file, iI j_bytes, .str y1] [(1000000, 1000001), (1000001, 1000002), (1000002, 1000003), (1000003, 1000004)] (callV_func hbv14 kr) (w_disk_Disk_Write_n j_d_files j_d_queue j_d_set j_d_lost j_d_down j_d_armed j_d_keep j_file j_bytes y1 _ c2) (.cons (.same _) vw3) kr kr kr kr kr kr kr kr) ?_
     refine d_runs 1 14 [(6, iI y2.1)] (pfp 1 14) kr kr ?_
     refine d_nil kr ?_
     refine nT (vS (vT (oR 2 [(42, .bool (!(decide (y2.1 = 0)))), (41, iI y2.1)] kr ?_)))
     refine oN (nT ?_)
     refine v_cond (!(decide (y2.1 = 0))) kr (fun h4 => ?_) (fun h4 => ?_)
     ·replace hs := bif_t h4 hs
      cases hs
     ·replace hs := bif_f h4 hs
      cases hs
theorem w_disk_Disk_Read_2 (d_files : (List (Int × disk_file))) (d_set : (List (disk_sector × Bool))) (d_lost : Int) (d_down : Bool) (d_armed : Int) (d_keep : (List Int)) (f : Int) (at_ : Int) (size : Int) (r : (List UInt8) × Int × Int × Bool × Int × (List Int)) (hs : s_disk_Disk_Read_2 d_files d_set d_lost d_down d_armed d_keep f at_ size = some r) : FnA Tryd.prog 13 [pO, iI f, iI at_, iI size] [(1000000, .box 64 [.mp 1000001, .nils, .mp 1000002, iI d_lost, .bool d_down, iI d_armed, .vs 1 (mI d_keep)]), (1000001, (oF d_files)), (1000002, (oS d_set))] (.tup [.str r.1, iI r.2.1]) [(1000000, .box 64 [.mp 1000001, .nils, .mp 1000002, iI r.2.2.1, .bool r.2.2.2.1, iI r.2.2.2.2.1, .vs 1 (mI r.2.2.2.2.2)]), (1000001, (oF d_files)), (1000002, (oS d_set))] := by
 refine fnA_of_wp (N := 43) Tryd.func13 rfl rfl rfl fun cK0 => ?_
 unfold s_disk_Disk_Read_2 at hs
 refine v_same (ρ' := [(0, pO), (1, iI f), (2, iI at_), (3, iI size)]) rfl rfl ?_
 refine vS (vT (oR 2 [(9, iI 0), (8, .str [])] kr ?_))
 refine oN (nT (vS (vS (vT (oR 2 [(13, iI f), (12, pO)] kr ?_)))))
 obtain ⟨y1, c1, hs⟩ := bS hs
 refine o_loc (F := [(1000000, .box 64 [.mp 1000001, .nils, .mp 1000002, iI d_lost, .bool d_down, iI d_armed, .vs 1 (mI d_keep)]), (1000001, (oF d_files)), (1000002, (oS d_set))]) (F' := [(1000000, .box 64 [.mp 1000001, .nils, .mp 1000002, iI y1.2.1, .bool y1.2.2.1, iI y1.2.2.2.1, .vs 1 (mI y1.2.2.2.2)]), (1000001, (oF d_files)), (1000002, (oS d_set))]) (v := iI y1.1) [1000000, 1000001, 1000002] kr kr rfl kr (loc_g (R := []) [pO, iI f] [(1000000, 1000000), (1000001, 1000001), (1000002, 1000002)] (callV_func hbv38 kr) (w_disk_Disk_may_2 d_files d_set d_lost d_down d_armed d_keep f _ c1) vw2 kr kr kr kr kr kr kr kr) kr ?_
 refine oR 1 [(10, iI y1.1)] kr ?_
 refine oN (nT (vS (vT (oR 2 [(16, .bool (!(decide (y1.1 = 0)))), (15, iI y1.1)] kr ?_))))
 refine oN (nT ?_)
 refine v_cond (!(decide (y1.1 = 0))) kr (fun h1 => ?_) (fun h1 => ?_)
 ·replace hs := bif_t h1 hs
  refine vS (vT (oR 3 [(9, iI y1.1), (8, .str []), (17, iI y1.1)] kr ?_))
  refine oN (nT (v_ret (rT ?_)))
  obtain rfl := si hs
  exact fin_ret kr kr kr
 ·replace hs := bif_f h1 hs
  refine vK (nT (vS (vS ?_)))
  obtain ⟨z1, hs, hk1⟩ := bS hs
  refine v_join (S := Bool) (fun u => u = z1) (fun u => [(0, pO), (1, iI f), (2, iI at_), (3, iI size), (23, .bool u)]) (fun u => [(1000000, .box 64 [.mp 1000001, .nils, .mp 1000002, iI y1.2.1, .bool y1.2.2.1, iI y1.2.2.2.1, .vs 1 (mI y1.2.2.2.2)]), (1000001, (oF d_files)), (1000002, (oS d_set))]) ?_ (fun v1 hz => ?_)
  ·refine vT (oR 3 [(20, .bool (decide (at_ < 0))), (19, .bool (decide (at_ < 0))), (18, iI at_)] kr ?_)
   cases h2 : ((decide (at_ < 0)))
   ·replace hs := bif_f h2 hs
    refine oR 3 [(23, .bool (decide (size < 0))), (22, .bool (decide (size < 0))), (21, iI size)] kr ?_
    refine oN ?_
    obtain rfl := si hs
    refine nrm_join (decide (size < 0)) rfl ?_
    exact cut_of [0, 1, 2, 3, 23] [1000000, 1000001, 1000002] kr kr kr
   ·replace hs := bif_t h2 hs
    refine oR 3 [(23, .bool true), (22, .no), (21, .no)] kr ?_
    refine oN ?_
    obtain rfl := si hs
    refine nrm_join true rfl ?_
    exact cut_of [0, 1, 2, 3, 23] [1000000, 1000001, 1000002] kr kr kr
  ·subst hz; clear hs; have hs := hk1; clear hk1
   refine nT ?_
   refine v_cond v1 kr (fun h3 => ?_) (fun h3 => ?_)
   ·replace hs := bif_t h3 hs
    refine vS (vT (oR 2 [(9, iI 1), (8, .str [])] kr ?_))
    refine oN (nT (v_ret (rT ?_)))
    obtain rfl := si hs
    exact fin_ret kr kr kr
   ·replace hs := bif_f h3 hs
    refine vK (nT (vS (vT (oR 5 [(28, iI f), (27, .mp 1000001), (26, pO), (25, pO), (24, pO)] kr ?_))))
    refine o_loc (F := [(1000001, (oF d_files))]) (F' := [(1000001, (oF d_files))]) (v := .agg (enc_disk_file (Option.getD (mfind f d_files) (disk_file.mk [] [])))) [1000001] kr kr rfl kr (loc_lookup (et := 72) (f := (V.int .i64)) (g := (fun e => V.agg (enc_disk_file e))) (l := d_files) (a := f) (z := (disk_file.mk [] [])) (zv := .agg [.str [], .str []]) false kr kok3 kr (fun _ _ _ h => h) kr kr) kr ?_
    refine oR 2 [(11, .str ((Option.getD (mfind f d_files) (disk_file.mk [] [])).now)), (30, .str ((Option.getD (mfind f d_files) (disk_file.mk [] [])).now))] kr ?_
    refine oN (nT (vS (vT (oR 5 [(35, iI (min at_ (List.length ((Option.getD (mfind f d_files) (disk_file.mk [] [])).now) : Int))), (34, iI (List.length ((Option.getD (mfind f d_files) (disk_file.mk [] [])).now) : Int)), (33, .str ((Option.getD (mfind f d_files) (disk_file.mk [] [])).now)), (32, iI at_), (31, .str ((Option.getD (mfind f d_files) (disk_file.mk [] [])).now))] kr ?_))))
    obtain ⟨x1, g1, hs⟩ := bS hs; obtain ⟨g1a, g1b, g1c, g1d⟩ := cut_some g1
    refine oP (v := .str x1) kr kr (by rw [g1d]; exact loc_sliceStr (s := (Option.getD (mfind f d_files) (disk_file.mk [] [])).now) (l := (min at_ (List.length ((Option.getD (mfind f d_files) (disk_file.mk [] [])).now) : Int))) (h := (List.length ((Option.getD (mfind f d_files) (disk_file.mk [] [])).now) : Int)) kr kr ⟨.i64, by kernel_rfl⟩ rfl g1a g1b g1c) ?_
    refine oR 1 [(11, .str x1)] kr ?_
    refine oN (nT (vS (vT (oR 5 [(41, iI (min size (List.length x1 : Int))), (40, iI (List.length x1 : Int)), (39, .str x1), (38, iI size), (37, .str x1)] kr ?_))))
    obtain ⟨x2, g2, hs⟩ := bS hs; obtain ⟨g2a, g2b, g2c, g2d⟩ := cut_some g2
    refine oP (v := .str x2) kr kr (by rw [g2d]; exact loc_sliceStr (s := x1) (l := 0) (h := (min size (List.length x1 : Int))) kr kr rfl ⟨.i64, by kernel_rfl⟩ g2a g2b g2c) ?_
    refine oR 2 [(9, iI 0), (8, .str x2)] kr ?_
    refine oN (nT (v_ret ?_))
    obtain rfl := si hs
    exact fin_ret kr kr kr
theorem w_journal_Open_n (d_files : (List (Int × disk_file))) (d_queue : (List disk_sector)) (d_set : (List (disk_sector × Bool))) (d_lost : Int) (d_down : Bool) (d_armed : Int) (d_keep : (List Int)) (file : Int) (r : Int × Int × Bool × Int × (List Int)) (hs : s_journal_Open_n d_files d_queue d_set d_lost d_down d_armed d_keep file = some r) : FnA Tryd.prog 10 [pO, iI file] [(1000000, (bD 1000002 ((d_queue).length) [iI d_lost, .bool d_down, iI d_armed, .vs 1 (mI d_keep)])), (1000001, (oF d_files)), (1000002, (oQ d_queue)), (1000003, (oS d_set)), (900000000, gl0 ob0), (900000001, gl1 ob1 u1), (900000002, gl2 ob2 u2)] (.tup [.nilp, iI r.1]) [(1000000, (bD 1000002 ((d_queue).length) [iI r.2.1, .bool r.2.2.1, iI r.2.2.2.1, .vs 1 (mI r.2.2.2.2)])), (1000001, (oF d_files)), (1000002, (oQ d_queue)), (1000003, (oS d_set)), (900000000, gl0 ob0), (900000001, gl1 ob1 u1), (900000002, gl2 ob2 u2)] := by
 refine fnA_of_wp (N := 58) Tryd.func10 rfl rfl rfl fun cK0 => ?_
 unfold s_journal_Open_n at hs
 refine v_same (ρ' := [(0, pO), (1, iI file)]) rfl rfl ?_
 refine vS (vT (oR 2 [(5, iI 0), (4, .nilp)] kr ?_))
 refine oN (nT (vS (vS ?_)))
 obtain ⟨z1, hs, hk1⟩ := bS hs
 refine v_join (S := Bool) (fun u => u = z1) (fun u => [(0, pO), (1, iI file), (17, .bool u)]) (fun u => [(1000000, (bD 1000002 ((d_queue).length) [iI d_lost, .bool d_down, iI d_armed, .vs 1 (mI d_keep)])), (1000001, (oF d_files)), (1000002, (oQ d_queue)), (1000003, (oS d_set)), (900000000, gl0 ob0), (900000001, gl1 ob1 u1), (900000002, gl2 ob2 u2)]) ?_ (fun v1 hz => ?_)
 ·refine vT (oR 3 [(14, .bool (decide (file < 0))), (13, .bool (decide (file < 0))), (12, iI file)] kr ?_)
  cases h1 : ((decide (file < 0)))
  ·replace hs := bif_f h1 hs
   refine oR 3 [(17, .bool (decide (file > 15))), (16, .bool (decide (file > 15))), (15, iI file)] kr ?_
   refine oN ?_
   obtain rfl := si hs
   refine nrm_join (decide (file > 15)) rfl ?_
   exact cut_of [0, 1, 17] [1000000, 1000001, 1000002, 1000003, 900000000, 900000001, 900000002] kr kr kr
  ·replace hs := bif_t h1 hs
   refine oR 3 [(17, .bool true), (16, .no), (15, .no)] kr ?_
   refine oN ?_
   obtain rfl := si hs
   refine nrm_join true rfl ?_
   exact cut_of [0, 1, 17] [1000000, 1000001, 1000002, 1000003, 900000000, 900000001, 900000002] kr kr kr
 ·subst hz; clear hs; have hs := hk1; clear hk1
  refine nT ?_
  refine v_cond v1 kr (fun h2 => ?_) (fun h2 => ?_)
  ·replace hs := bif_t h2 hs
   refine vS (vT (oR 2 [(5, iI 1), (4, .nilp)] kr ?_))
   refine oN (nT (v_ret (rT ?_)))
   obtain rfl := si hs
   exact fin_ret kr kr kr
  ·replace hs := bif_f h2 hs
   refine vK (nT (vS (vS (vT (oR 2 [(19, iI file), (18, pO)] kr ?_)))))
   cases c1 : (s_disk_Disk_Sync_n d_files d_queue d_set d_lost d_down d_armed d_keep file)
   ·replace hs := orO_none c1 hs
    cases c2 : (s_disk_Disk_Sync_s d_files d_queue d_set d_lost d_down d_armed d_keep file)
    ·replace hs := orO_none c2 hs
     cases c3 : (s_disk_Disk_Sync_x d_files d_queue d_set d_lost d_down d_armed d_keep file)
     ·replace hs := orO_none c3 hs
      cases hs
     ·rename_i y3; replace hs := orO_some c3 hs
      refine o_loc (F := (dH (bD 1000002 ((d_queue).length) [iI d_lost, .bool d_down, iI d_armed, .vs 1 (mI d_keep)]) d_files d_queue d_set)) (F' := [(1000000, .box 64 [.mp 1000001, .nils, .mp 3002000, iI y3.2.1, .bool y3.2.2.1, iI y3.2.2.2.1, .vs 1 (mI y3.2.2.2.2.1)]), (1000001, (oF y3.2.2.2.2.2)), (3002000, (oS [])), (1000002, (oQ d_queue)), (1000003, (oS d_set))]) (v := iI y3.1) kD kr kr rfl kr (loc_g (R := []) [pO, iI file] [(1000000, 1000000), (1000001, 1000001), (1000002, 1000002), (1000003, 1000003), (3001300, 3002000)] (callV_func hbv34 kr) (w_disk_Disk_Sync_x d_files d_queue d_set d_lost d_down d_armed d_keep file _ c3) vw2 kr kr kr kr kr kr kr kr) kr ?_
      refine oR 1 [(6, iI y3.1)] kr ?_
      refine oN (nT (vS (vT (oR 2 [(22, .bool (!(decide (y3.1 = 0)))), (21, iI y3.1)] kr ?_))))
      refine oN (nT ?_)
      refine v_cond (!(decide (y3.1 = 0))) kr (fun h3 => ?_) (fun h3 => ?_)
      ·replace hs := bif_t h3 hs
       cases hs
      ·replace hs := bif_f h3 hs
       refine vK (nT (vS (vT (oR 4 [(28, iI file), (27, pO), (26, iI file), (25, pO)] kr ?_))))
       obtain ⟨y4, c4, hs⟩ := bS hs
       refine o_loc (F := [(1000000, .box 64 [.mp 1000001, .nils, .mp 3002000, iI y3.2.1, .bool y3.2.2.1, iI y3.2.2.2.1, .vs 1 (mI y3.2.2.2.2.1)]), (1000001, (oF y3.2.2.2.2.2)), (3002000, (oS []))]) (F' := [(1000001, (oF y3.2.2.2.2.2)), (1000000, .box 64 [.mp 1000001, .nils, .mp 3002000, iI y4.2.1, .bool y4.2.2.1, iI y4.2.2.2.1, .vs 1 (mI y4.2.2.2.2)]), (3002000, (oS []))]) (v := iI y4.1) [1000000, 1000001, 3002000] kr kr rfl kr (loc_g (R := []) [pO, iI file] [(1000000, 1000000), (1000001, 1000001), (1000002, 3002000)] (callV_func hbv12 kr) (w_disk_Disk_Size_2 y3.2.2.2.2.2 [] y3.2.1 y3.2.2.1 y3.2.2.2.1 y3.2.2.2.2.1 file _ c4) vw2 kr kr kr kr kr kr kr kr) kr ?_
       obtain ⟨y5, c5, hs⟩ := bS hs
       refine o_loc (F := [(1000000, .box 64 [.mp 1000001, .nils, .mp 3002000, iI y4.2.1, .bool y4.2.2.1, iI y4.2.2.2.1, .vs 1 (mI y4.2.2.2.2)]), (1000001, (oF y3.2.2.2.2.2)), (3002000, (oS []))]) (F' := [(1000000, .box 64 [.mp 1000001, .nils, .mp 3002000, iI y5.2.2.1, .bool y5.2.2.2.1, iI y5.2.2.2.2.1, .vs 1 (mI y5.2.2.2.2.2)]), (1000001, (oF y3.2.2.2.2.2)), (3002000, (oS []))]) (v := .tup [.str y5.1, iI y5.2.1]) [1000000, 1000001, 3002000] kr kr rfl kr (loc_g (R := []) [pO, iI file, iI 0, iI y4.1] [(1000000, 1000000), (1000001, 1000001), (1000002, 3002000)] (callV_func hbv13 kr) (w_disk_Disk_Read_2 y3.2.2.2.2.2 [] y4.2.1 y4.2.2.1 y4.2.2.2.1 y4.2.2.2.2 file 0 y4.1 _ c5) (.cons (.same _) vw3) kr kr kr kr kr kr kr kr) kr ?_
       refine oR 5 [(8, iI y5.2.1), (7, .str y5.1), (32, iI y5.2.1), (31, .str y5.1), (24, .tup [.str y5.1, iI y5.2.1])] kr ?_
       refine oN (nT (vS (vS (vT (oR 2 [(34, .bool (!(decide (y5.2.1 = 0)))), (33, iI y5.2.1)] kr ?_)))))
       refine oN (nT ?_)
       refine v_cond (!(decide (y5.2.1 = 0))) kr (fun h4 => ?_) (fun h4 => ?_)
       ·replace hs := bif_t h4 hs
        cases hs
       ·replace hs := bif_f h4 hs
        refine vK (nT (vS (vT (oR 1 [(37, .str y5.1)] kr ?_))))
        obtain ⟨y6, c6, hs⟩ := bS hs
        refine o_loc (F := (gO ob0 ob1 ob2 u1 u2)) (F' := [(3003800, .row 9 1 0 (mS y6.2)), (900000000, gl0 ob0), (900000001, gl1 ob1 u1), (900000002, gl2 ob2 u2)]) (v := .tup [.sl 1 3003800 ((y6.2).length) 0 ((y6.2).length), iI y6.1]) kG kr kr rfl kr (loc_g (R := []) [.str y5.1] [(900000000, 900000000), (900000001, 900000001), (900000002, 900000002), (2000048, 3003800)] (callV_func hbv35 kr) (w_journal_read (ob0 := ob0) (ob1 := ob1) (ob2 := ob2) (u1 := u1) (u2 := u2) y5.1 _ c6) (.cons (.same _) (.nil)) kr kr kr kr kr kr kr kr) kr ?_
        refine oR 5 [(10, iI y6.1), (9, .sl 1 3003800 ((y6.2).length) 0 ((y6.2).length)), (40, iI y6.1), (39, .sl 1 3003800 ((y6.2).length) 0 ((y6.2).length)), (36, .tup [.sl 1 3003800 ((y6.2).length) 0 ((y6.2).length), iI y6.1])] kr ?_
        refine oN (nT (vS (vS (vT (oR 4 [(44, .bool (decide (y6.1 < (List.length y5.1 : Int)))), (43, iI (List.length y5.1 : Int)), (42, .str y5.1), (41, iI y6.1)] kr ?_)))))
        refine oN (nT ?_)
        refine v_cond (decide (y6.1 < (List.length y5.1 : Int))) kr (fun h5 => ?_) (fun h5 => ?_)
        ·replace hs := bif_t h5 hs
         refine vS (vT (oR 3 [(47, iI y6.1), (46, iI file), (45, pO)] kr ?_))
         cases hs
        ·replace hs := bif_f h5 hs
         cases hs
    ·rename_i y2; replace hs := orO_some c2 hs
     refine o_loc (F := (dH (bD 1000002 ((d_queue).length) [iI d_lost, .bool d_down, iI d_armed, .vs 1 (mI d_keep)]) d_files d_queue d_set)) (F' := [(1000003, (oS y2.1)), (3002000, (oQ y2.2.1)), (1000002, .gen gone), (1000001, (oF y2.2.2.1)), (1000000, (bD 3002000 ((y2.2.1).length) [iI y2.2.2.2.1, .bool y2.2.2.2.2.1, iI y2.2.2.2.2.2.1, .vs 1 (mI y2.2.2.2.2.2.2)]))]) (v := iI 0) kD kr kr rfl kr (loc_g (R := []) [pO, iI file] [(1000000, 1000000), (1000001, 1000001), (1000002, 1000002), (1000003, 1000003), (3004100, 3002000)] (callV_func hbv34 kr) (w_disk_Disk_Sync_s d_files d_queue d_set d_lost d_down d_armed d_keep file _ c2) vw2 kr kr kr kr kr kr kr kr) kr ?_
     refine oR 1 [(6, iI 0)] kr ?_
     refine oN (nT (vS (vT (oR 2 [(22, .bool false), (21, iI 0)] kr ?_))))
     refine oN (nT (v_cond_f kr ?_))
     refine vK (nT (vS (vT (oR 4 [(28, iI file), (27, pO), (26, iI file), (25, pO)] kr ?_))))
     obtain ⟨y7, c7, hs⟩ := bS hs
     refine o_loc (F := [(1000000, (bD 3002000 ((y2.2.1).length) [iI y2.2.2.2.1, .bool y2.2.2.2.2.1, iI y2.2.2.2.2.2.1, .vs 1 (mI y2.2.2.2.2.2.2)])), (1000001, (oF y2.2.2.1)), (3002000, (oQ y2.2.1)), (1000003, (oS y2.1))]) (F' := [(1000001, (oF y2.2.2.1)), (1000000, (bD 3002000 ((y2.2.1).length) [iI y7.2.1, .bool y7.2.2.1, iI y7.2.2.2.1, .vs 1 (mI y7.2.2.2.2)])), (3002000, (oQ y2.2.1)), (1000003, (oS y2.1))]) (v := iI y7.1) [1000000, 1000001, 3002000, 1000003] kr kr rfl kr (loc_g (R := []) [pO, iI file] [(1000000, 1000000), (1000001, 1000001), (1000002, 3002000), (1000003, 1000003)] (callV_func hbv12 kr) (w_disk_Disk_Size y2.2.2.1 y2.2.1 y2.1 y2.2.2.2.1 y2.2.2.2.2.1 y2.2.2.2.2.2.1 y2.2.2.2.2.2.2 file _ c7) vw2 kr kr kr kr kr kr kr kr) kr ?_
     obtain ⟨y8, c8, hs⟩ := bS hs
     refine o_loc (F := [(1000000, (bD 3002000 ((y2.2.1).length) [iI y7.2.1, .bool y7.2.2.1, iI y7.2.2.2.1, .vs 1 (mI y7.2.2.2.2)])), (1000001, (oF y2.2.2.1)), (3002000, (oQ y2.2.1)), (1000003, (oS y2.1))]) (F' := [(1000000, (bD 3002000 ((y2.2.1).length) [iI y8.2.2.1, .bool y8.2.2.2.1, iI y8.2.2.2.2.1, .vs 1 (mI y8.2.2.2.2.2)])), (1000001, (oF y2.2.2.1)), (3002000, (oQ y2.2.1)), (1000003, (oS y2.1))]) (v := .tup [.str y8.1, iI y8.2.1]) [1000000, 1000001, 3002000, 1000003] kr kr rfl kr (loc_g (R := []) [pO, iI file, iI 0, iI y7.1] [(1000000, 1000000), (1000001, 1000001), (1000002, 3002000), (1000003, 1000003)] (callV_func hbv13 kr) (w_disk_Disk_Read y2.2.2.1 y2.2.1 y2.1 y7.2.1 y7.2.2.1 y7.2.2.2.1 y7.2.2.2.2 file 0 y7.1 _ c8) (.cons (.same _) vw3) kr kr kr kr kr kr kr kr) kr ?_
     refine oR 5 [(8, iI y8.2.1), (7, .str y8.1), (32, iI y8.2.1), (31, .str y8.1), (24, .tup [.str y8.1, iI y8.2.1])] kr ?_
     refine oN (nT (vS (vS (vT (oR 2 [(34, .bool (!(decide (y8.2.1 = 0)))), (33, iI y8.2.1)] kr ?_)))))
     refine oN (nT ?_)
     refine v_cond (!(decide (y8.2.1 = 0))) kr (fun h6 => ?_) (fun h6 => ?_)
     ·replace hs := bif_t h6 hs
      cases hs
     ·replace hs := bif_f h6 hs
      refine vK (nT (vS (vT (oR 1 [(37, .str y8.1)] kr ?_))))
      obtain ⟨y9, c9, hs⟩ := bS hs
      refine o_loc (F := (gO ob0 ob1 ob2 u1 u2)) (F' := [(3003800, .row 9 1 0 (mS y9.2)), (900000000, gl0 ob0), (900000001, gl1 ob1 u1), (900000002, gl2 ob2 u2)]) (v := .tup [.sl 1 3003800 ((y9.2).length) 0 ((y9.2).length), iI y9.1]) kG kr kr rfl kr (loc_g (R := []) [.str y8.1] [(900000000, 900000000), (900000001, 900000001), (900000002, 900000002), (2000048, 3003800)] (callV_func hbv35 kr) (w_journal_read (ob0 := ob0) (ob1 := ob1) (ob2 := ob2) (u1 := u1) (u2 := u2) y8.1 _ c9) (.cons (.same _) (.nil)) kr kr kr kr kr kr kr kr) kr ?_
      refine oR 5 [(10, iI y9.1), (9, .sl 1 3003800 ((y9.2).length) 0 ((y9.2).length)), (40, iI y9.1), (39, .sl 1 3003800 ((y9.2).length) 0 ((y9.2).length)), (36, .tup [.sl 1 3003800 ((y9.2).length) 0 ((y9.2).length), iI y9.1])] kr ?_
      refine oN (nT (vS (vS (vT (oR 4 [(44, .bool (decide (y9.1 < (List.length y8.1 : Int)))), (43, iI (List.length y8.1 : Int)), (42, .str y8.1), (41, iI y9.1)] kr ?_)))))
      refine oN (nT ?_)
      refine v_cond (decide (y9.1 < (List.length y8.1 : Int))) kr (fun h7 => ?_) (fun h7 => ?_)
      ·replace hs := bif_t h7 hs
       refine vS (vT (oR 3 [(47, iI y9.1), (46, iI file), (45, pO)] kr ?_))
       cases c10 : (s_disk_Disk_Truncate_n y2.2.2.1 y2.2.1 y2.1 y8.2.2.1 y8.2.2.2.1 y8.2.2.2.2.1 y8.2.2.2.2.2 file y9.1)
       ·replace hs := orO_none c10 hs
        cases c11 : (s_disk_Disk_Truncate_s y2.2.2.1 y2.2.1 y2.1 y8.2.2.1 y8.2.2.2.1 y8.2.2.2.2.1 y8.2.2.2.2.2 file y9.1)
        ·replace hs := orO_none c11 hs
         cases c12 : (s_disk_Disk_Truncate_x y2.2.2.1 y2.2.1 y2.1 y8.2.2.1 y8.2.2.2.1 y8.2.2.2.2.1 y8.2.2.2.2.2 file y9.1)
         ·replace hs := orO_none c12 hs
          cases hs
         ·rename_i y12; replace hs := orO_some c12 hs
          refine o_loc (F := [(1000000, (bD 3002000 ((y2.2.1).length) [iI y8.2.2.1, .bool y8.2.2.2.1, iI y8.2.2.2.2.1, .vs 1 (mI y8.2.2.2.2.2)])), (1000001, (oF y2.2.2.1)), (3002000, (oQ y2.2.1)), (1000003, (oS y2.1))]) (F' := [(1000000, .box 64 [.mp 1000001, .nils, .mp 3004800, iI y12.2.1, .bool y12.2.2.1, iI y12.2.2.2.1, .vs 1 (mI y12.2.2.2.2.1)]), (1000001, (oF y12.2.2.2.2.2)), (3004800, (oS [])), (3002000, (oQ y2.2.1)), (1000003, (oS y2.1))]) (v := iI y12.1) [1000000, 1000001, 3002000, 1000003] kr kr rfl kr (loc_g (R := []) [pO, iI file, iI y9.1] [(1000000, 1000000), (1000001, 1000001), (1000002, 3002000), (1000003, 1000003), (3001500, 3004800)] (callV_func hbv36 kr) (w_disk_Disk_Truncate_x y2.2.2.1 y2.2.1 y2.1 y8.2.2.1 y8.2.2.2.1 y8.2.2.2.2.1 y8.2.2.2.2.2 file y9.1 _ c12) vw3 kr kr kr kr kr kr kr kr) kr ?_
          refine oR 1 [(11, iI y12.1)] kr ?_
          refine oN (nT (vS (vT (oR 2 [(50, .bool (!(decide (y12.1 = 0)))), (49, iI y12.1)] kr ?_))))
          refine oN (nT ?_)
          refine v_cond (!(decide (y12.1 = 0))) kr (fun h8 => ?_) (fun h8 => ?_)
          ·replace hs := bif_t h8 hs
           cases hs
          ·replace hs := bif_f h8 hs
           cases hs
        ·rename_i y11; replace hs := orO_some c11 hs
         cases hs
       ·rename_i y10; replace hs := orO_some c10 hs
        refine o_loc (F := [(1000000, (bD 3002000 ((y2.2.1).length) [iI y8.2.2.1, .bool y8.2.2.2.1, iI y8.2.2.2.2.1, .vs 1 (mI y8.2.2.2.2.2)])), (1000001, (oF y2.2.2.1)), (3002000, (oQ y2.2.1)), (1000003, (oS y2.1))]) (F' := [(1000000, (bD 3002000 ((y2.2.1).length) [iI y10.2.1, .bool y10.2.2.1, iI y10.2.2.2.1, .vs 1 (mI y10.2.2.2.2)])), (1000001, (oF y2.2.2.1)), (3002000, (oQ y2.2.1)), (1000003, (oS y2.1))]) (v := iI y10.1) [1000000, 1000001, 3002000, 1000003] kr kr rfl kr (loc_g (R := []) [pO, iI file, iI y9.1] [(1000000, 1000000), (1000001, 1000001), (1000002, 3002000), (1000003, 1000003)] (callV_func hbv36 kr) (w_disk_Disk_Truncate_n y2.2.2.1 y2.2.1 y2.1 y8.2.2.1 y8.2.2.2.1 y8.2.2.2.2.1 y8.2.2.2.2.2 file y9.1 _ c10) vw3 kr kr kr kr kr kr kr kr) kr ?_
        refine oR 1 [(11, iI y10.1)] kr ?_
        refine oN (nT (vS (vT (oR 2 [(50, .bool (!(decide (y10.1 = 0)))), (49, iI y10.1)] kr ?_))))
        refine oN (nT ?_)
        refine v_cond (!(decide (y10.1 = 0))) kr (fun h9 => ?_) (fun h9 => ?_)
        ·replace hs := bif_t h9 hs
         cases hs
        ·replace hs := bif_f h9 hs
         cases hs
      ·replace hs := bif_f h7 hs
       cases hs
   ·rename_i y1; replace hs := orO_some c1 hs
    refine o_loc (F := (dH (bD 1000002 ((d_queue).length) [iI d_lost, .bool d_down, iI d_armed, .vs 1 (mI d_keep)]) d_files d_queue d_set)) (F' := (dH (bD 1000002 ((d_queue).length) [iI y1.2.1, .bool y1.2.2.1, iI y1.2.2.2.1, .vs 1 (mI y1.2.2.2.2)]) d_files d_queue d_set)) (v := iI y1.1) kD kr kr rfl kr (loc_g (R := []) [pO, iI file] rD (callV_func hbv34 kr) (w_disk_Disk_Sync_n d_files d_queue d_set d_lost d_down d_armed d_keep file _ c1) vw2 kr kr kr kr kr kr kr kr) kr ?_
    refine oR 1 [(6, iI y1.1)] kr ?_
    refine oN (nT (vS (vT (oR 2 [(22, .bool (!(decide (y1.1 = 0)))), (21, iI y1.1)] kr ?_))))
    refine oN (nT ?_)
    refine v_cond (!(decide (y1.1 = 0))) kr (fun h10 => ?_) (fun h10 => ?_)
    ·replace hs := bif_t h10 hs
     refine vS (vT (oR 3 [(5, iI y1.1), (4, .nilp), (23, iI y1.1)] kr ?_))
     refine oN (nT (v_ret (rT ?_)))
     obtain rfl := si hs
     exact fin_ret kr kr kr
    ·replace hs := bif_f h10 hs
     refine vK (nT (vS (vT (oR 4 [(28, iI file), (27, pO), (26, iI file), (25, pO)] kr ?_))))
     obtain ⟨y13, c13, hs⟩ := bS hs
     refine o_loc (F := (dH (bD 1000002 ((d_queue).length) [iI y1.2.1, .bool y1.2.2.1, iI y1.2.2.2.1, .vs 1 (mI y1.2.2.2.2)]) d_files d_queue d_set)) (F' := [(1000001, (oF d_files)), (1000000, (bD 1000002 ((d_queue).length) [iI y13.2.1, .bool y13.2.2.1, iI y13.2.2.2.1, .vs 1 (mI y13.2.2.2.2)])), (1000002, (oQ d_queue)), (1000003, (oS d_set))]) (v := iI y13.1) kD kr kr rfl kr (loc_g (R := []) [pO, iI file] rD (callV_func hbv12 kr) (w_disk_Disk_Size d_files d_queue d_set y1.2.1 y1.2.2.1 y1.2.2.2.1 y1.2.2.2.2 file _ c13) vw2 kr kr kr kr kr kr kr kr) kr ?_
     obtain ⟨y14, c14, hs⟩ := bS hs
     refine o_loc (F := (dH (bD 1000002 ((d_queue).length) [iI y13.2.1, .bool y13.2.2.1, iI y13.2.2.2.1, .vs 1 (mI y13.2.2.2.2)]) d_files d_queue d_set)) (F' := (dH (bD 1000002 ((d_queue).length) [iI y14.2.2.1, .bool y14.2.2.2.1, iI y14.2.2.2.2.1, .vs 1 (mI y14.2.2.2.2.2)]) d_files d_queue d_set)) (v := .tup [.str y14.1, iI y14.2.1]) kD kr kr rfl kr (loc_g (R := []) [pO, iI file, iI 0, iI y13.1] rD (callV_func hbv13 kr) (w_disk_Disk_Read d_files d_queue d_set y13.2.1 y13.2.2.1 y13.2.2.2.1 y13.2.2.2.2 file 0 y13.1 _ c14) (.cons (.same _) vw3) kr kr kr kr kr kr kr kr) kr ?_
     refine oR 5 [(8, iI y14.2.1), (7, .str y14.1), (32, iI y14.2.1), (31, .str y14.1), (24, .tup [.str y14.1, iI y14.2.1])] kr ?_
     refine oN (nT (vS (vS (vT (oR 2 [(34, .bool (!(decide (y14.2.1 = 0)))), (33, iI y14.2.1)] kr ?_)))))
     refine oN (nT ?_)
     refine v_cond (!(decide (y14.2.1 = 0))) kr (fun h11 => ?_) (fun h11 => ?_)
     ·replace hs := bif_t h11 hs
      refine vS (vT (oR 3 [(5, iI y14.2.1), (4, .nilp), (35, iI y14.2.1)] kr ?_))
      refine oN (nT (v_ret (rT ?_)))
      obtain rfl := si hs
      exact fin_ret kr kr kr
     ·replace hs := bif_f h11 hs
      refine vK (nT (vS (vT (oR 1 [(37, .str y14.1)] kr ?_))))
      obtain ⟨y15, c15, hs⟩ := bS hs
      refine o_loc (F := (gO ob0 ob1 ob2 u1 u2)) (F' := [(3003800, .row 9 1 0 (mS y15.2)), (900000000, gl0 ob0), (900000001, gl1 ob1 u1), (900000002, gl2 ob2 u2)]) (v := .tup [.sl 1 3003800 ((y15.2).length) 0 ((y15.2).length), iI y15.1]) kG kr kr rfl kr (loc_g (R := []) [.str y14.1] [(900000000, 900000000), (900000001, 900000001), (900000002, 900000002), (2000048, 3003800)] (callV_func hbv35 kr) (w_journal_read (ob0 := ob0) (ob1 := ob1) (ob2 := ob2) (u1 := u1) (u2 := u2) y14.1 _ c15) (.cons (.same _) (.nil)) kr kr kr kr kr kr kr kr) kr ?_
      refine oR 5 [(10, iI y15.1), (9, .sl 1 3003800 ((y15.2).length) 0 ((y15.2).length)), (40, iI y15.1), (39, .sl 1 3003800 ((y15.2).length) 0 ((y15.2).length)), (36, .tup [.sl 1 3003800 ((y15.2).length) 0 ((y15.2).length), iI y15.1])] kr ?_
      refine oN (nT (vS (vS (vT (oR 4 [(44, .bool (decide (y15.1 < (List.length y14.1 : Int)))), (43, iI (List.length y14.1 : Int)), (42, .str y14.1), (41, iI y15.1)] kr ?_)))))
      refine oN (nT ?_)
      refine v_cond (decide (y15.1 < (List.length y14.1 : Int))) kr (fun h12 => ?_) (fun h12 => ?_)
      ·replace hs := bif_t h12 hs
       refine vS (vT (oR 3 [(47, iI y15.1), (46, iI file), (45, pO)] kr ?_))
       cases c16 : (s_disk_Disk_Truncate_n d_files d_queue d_set y14.2.2.1 y14.2.2.2.1 y14.2.2.2.2.1 y14.2.2.2.2.2 file y15.1)
       ·replace hs := orO_none c16 hs
        cases c17 : (s_disk_Disk_Truncate_s d_files d_queue d_set y14.2.2.1 y14.2.2.2.1 y14.2.2.2.2.1 y14.2.2.2.2.2 file y15.1)
        ·replace hs := orO_none c17 hs
         cases c18 : (s_disk_Disk_Truncate_x d_files d_queue d_set y14.2.2.1 y14.2.2.2.1 y14.2.2.2.2.1 y14.2.2.2.2.2 file y15.1)
         ·replace hs := orO_none c18 hs
          cases hs
         ·rename_i y18; replace hs := orO_some c18 hs
          refine o_loc (F := (dH (bD 1000002 ((d_queue).length) [iI y14.2.2.1, .bool y14.2.2.2.1, iI y14.2.2.2.2.1, .vs 1 (mI y14.2.2.2.2.2)]) d_files d_queue d_set)) (F' := [(1000000, .box 64 [.mp 1000001, .nils, .mp 3004800, iI y18.2.1, .bool y18.2.2.1, iI y18.2.2.2.1, .vs 1 (mI y18.2.2.2.2.1)]), (1000001, (oF y18.2.2.2.2.2)), (3004800, (oS [])), (1000002, (oQ d_queue)), (1000003, (oS d_set))]) (v := iI y18.1) kD kr kr rfl kr (loc_g (R := []) [pO, iI file, iI y15.1] [(1000000, 1000000), (1000001, 1000001), (1000002, 1000002), (1000003, 1000003), (3001500, 3004800)] (callV_func hbv36 kr) (w_disk_Disk_Truncate_x d_files d_queue d_set y14.2.2.1 y14.2.2.2.1 y14.2.2.2.2.1 y14.2.2.2.2.2 file y15.1 _ c18) vw3 kr kr kr kr kr kr kr kr) kr ?_
          refine oR 1 [(11, iI y18.1)] kr ?_
          refine oN (nT (vS (vT (oR 2 [(50, .bool (!(decide (y18.1 = 0)))), (49, iI y18.1)] kr ?_))))
          refine oN (nT ?_)
          refine v_cond (!(decide (y18.1 = 0))) kr (fun h13 => ?_) (fun h13 => ?_)
          ·replace hs := bif_t h13 hs
           cases hs
          ·replace hs := bif_f h13 hs
           cases hs
        ·rename_i y17; replace hs := orO_some c17 hs
         cases hs
       ·rename_i y16; replace hs := orO_some c16 hs
        refine o_loc (F := (dH (bD 1000002 ((d_queue).length) [iI y14.2.2.1, .bool y14.2.2.2.1, iI y14.2.2.2.2.1, .vs 1 (mI y14.2.2.2.2.2)]) d_files d_queue d_set)) (F' := (dH (bD 1000002 ((d_queue).length) [iI y16.2.1, .bool y16.2.2.1, iI y16.2.2.2.1, .vs 1 (mI y16.2.2.2.2)]) d_files d_queue d_set)) (v := iI y16.1) kD kr kr rfl kr (loc_g (R := []) [pO, iI file, iI y15.1] rD (callV_func hbv36 kr) (w_disk_Disk_Truncate_n d_files d_queue d_set y14.2.2.1 y14.2.2.2.1 y14.2.2.2.2.1 y14.2.2.2.2.2 file y15.1 _ c16) vw3 kr kr kr kr kr kr kr kr) kr ?_
        refine oR 1 [(11, iI y16.1)] kr ?_
        refine oN (nT (vS (vT (oR 2 [(50, .bool (!(decide (y16.1 = 0)))), (49, iI y16.1)] kr ?_))))
        refine oN (nT ?_)
        refine v_cond (!(decide (y16.1 = 0))) kr (fun h14 => ?_) (fun h14 => ?_)
        ·replace hs := bif_t h14 hs
         refine vS (vT (oR 3 [(5, iI y16.1), (4, .nilp), (51, iI y16.1)] kr ?_))
         refine oN (nT (v_ret (rT ?_)))
         obtain rfl := si hs
         exact fin_ret kr kr kr
        ·replace hs := bif_f h14 hs
         cases hs
      ·replace hs := bif_f h12 hs
       cases hs
theorem w_journal_Open_x0 (d_files : (List (Int × disk_file))) (d_queue : (List disk_sector)) (d_set : (List (disk_sector × Bool))) (d_lost : Int) (d_down : Bool) (d_armed : Int) (d_keep : (List Int)) (file : Int) (r : Int × Int × Bool × Int × (List Int) × (List (Int × disk_file))) (hs : s_journal_Open_x0 d_files d_queue d_set d_lost d_down d_armed d_keep file = some r) : FnA Tryd.prog 10 [pO, iI file] [(1000000, (bD 1000002 ((d_queue).length) [iI d_lost, .bool d_down, iI d_armed, .vs 1 (mI d_keep)])), (1000001, (oF d_files)), (1000002, (oQ d_queue)), (1000003, (oS d_set)), (900000000, gl0 ob0), (900000001, gl1 ob1 u1), (900000002, gl2 ob2 u2)] (.tup [.nilp, iI r.1]) [(1000000, .box 64 [.mp 1000001, .nils, .mp 3002000, iI r.2.1, .bool r.2.2.1, iI r.2.2.2.1, .vs 1 (mI r.2.2.2.2.1)]), (1000001, (oF r.2.2.2.2.2)), (3002000, (oS [])), (1000002, (oQ d_queue)), (1000003, (oS d_set)), (900000000, gl0 ob0), (900000001, gl1 ob1 u1), (900000002, gl2 ob2 u2)] := by
 refine fnA_of_wp (N := 58) Tryd.func10 rfl rfl rfl fun cK0 => ?_
 unfold s_journal_Open_x0 at hs
 refine v_same (ρ' := [(0, pO), (1, iI file)]) rfl rfl ?_
 refine vS (vT (oR 2 [(5, iI 0), (4, .nilp)] kr ?_))
 refine oN (nT (vS (vS ?_)))
 obtain ⟨z1, hs, hk1⟩ := bS hs
 refine v_join (S := Bool) (fun u => u = z1) (fun u => [(0, pO), (1, iI file), (17, .bool u)]) (fun u => [(1000000, (bD 1000002 ((d_queue).length) [iI d_lost, .bool d_down, iI d_armed, .vs 1 (mI d_keep)])), (1000001, (oF d_files)), (1000002, (oQ d_queue)), (1000003, (oS d_set)), (900000000, gl0 ob0), (900000001, gl1 ob1 u1), (900000002, gl2 ob2 u2)]) ?_ (fun v1 hz => ?_)
 ·refine vT (oR 3 [(14, .bool (decide (file < 0))), (13, .bool (decide (file < 0))), (12, iI file)] kr ?_)
  cases h1 : ((decide (file < 0)))
  ·replace hs := bif_f h1 hs
   refine oR 3 [(17, .bool (decide (file > 15))), (16, .bool (decide (file > 15))), (15, iI file)] kr ?_
   refine oN ?_
   obtain rfl := si hs
   refine nrm_join (decide (file > 15)) rfl ?_
   exact cut_of [0, 1, 17] [1000000, 1000001, 1000002, 1000003, 900000000, 900000001, 900000002] kr kr kr
  ·replace hs := bif_t h1 hs
   refine oR 3 [(17, .bool true), (16, .no), (15, .no)] kr ?_
   refine oN ?_
   obtain rfl := si hs
   refine nrm_join true rfl ?_
   exact cut_of [0, 1, 17] [1000000, 1000001, 1000002, 1000003, 900000000, 900000001, 900000002] kr kr kr
 ·subst hz; clear hs; have hs := hk1; clear hk1
  refine nT ?_
  refine v_cond v1 kr (fun h2 => ?_) (fun h2 => ?_)
  ·replace hs := bif_t h2 hs
   cases hs
  ·replace hs := bif_f h2 hs
   refine vK (nT (vS (vS (vT (oR 2 [(19, iI file), (18, pO)] kr ?_)))))
   cases c1 : (s_disk_Disk_Sync_n d_files d_queue d_set d_lost d_down d_armed d_keep file)
   ·replace hs := orO_none c1 hs
    cases c2 : (s_disk_Disk_Sync_s d_files d_queue d_set d_lost d_down d_armed d_keep file)
    ·replace hs := orO_none c2 hs
     cases c3 : (s_disk_Disk_Sync_x d_files d_queue d_set d_lost d_down d_armed d_keep file)
     ·replace hs := orO_none c3 hs
      cases hs
     ·rename_i y3; replace hs := orO_some c3 hs
      refine o_loc (F := (dH (bD 1000002 ((d_queue).length) [iI d_lost, .bool d_down, iI d_armed, .vs 1 (mI d_keep)]) d_files d_queue d_set)) (F' := [(1000000, .box 64 [.mp 1000001, .nils, .mp 3002000, iI y3.2.1, .bool y3.2.2.1, iI y3.2.2.2.1, .vs 1 (mI y3.2.2.2.2.1)]), (1000001, (oF y3.2.2.2.2.2)), (3002000, (oS [])), (1000002, (oQ d_queue)), (1000003, (oS d_set))]) (v := iI y3.1) kD kr kr rfl kr (loc_g (R := []) [pO, iI file] [(1000000, 1000000), (1000001, 1000001), (1000002, 1000002), (1000003, 1000003), (3001300, 3002000)] (callV_func hbv34 kr) (w_disk_Disk_Sync_x d_files d_queue d_set d_lost d_down d_armed d_keep file _ c3) vw2 kr kr kr kr kr kr kr kr) kr ?_
      refine oR 1 [(6, iI y3.1)] kr ?_
      refine oN (nT (vS (vT (oR 2 [(22, .bool (!(decide (y3.1 = 0)))), (21, iI y3.1)] kr ?_))))
      refine oN (nT ?_)
      refine v_cond (!(decide (y3.1 = 0))) kr (fun h3 => ?_) (fun h3 => ?_)
      ·replace hs := bif_t h3 hs
       refine vS (vT (oR 3 [(5, iI y3.1), (4, .nilp), (23, iI y3.1)] kr ?_))
       refine oN (nT (v_ret (rT ?_)))
       obtain rfl := si hs
       exact fin_ret kr kr kr
      ·replace hs := bif_f h3 hs
       refine vK (nT (vS (vT (oR 4 [(28, iI file), (27, pO), (26, iI file), (25, pO)] kr ?_))))
       obtain ⟨y4, c4, hs⟩ := bS hs
       refine o_loc (F := [(1000000, .box 64 [.mp 1000001, .nils, .mp 3002000, iI y3.2.1, .bool y3.2.2.1, iI y3.2.2.2.1, .vs 1 (mI y3.2.2.2.2.1)]), (1000001, (oF y3.2.2.2.2.2)), (3002000, (oS []))]) (F' := [(1000001, (oF y3.2.2.2.2.2)), (1000000, .box 64 [.mp 1000001, .nils, .mp 3002000, iI y4.2.1, .bool y4.2.2.1, iI y4.2.2.2.1, .vs 1 (mI y4.2.2.2.2)]), (3002000, (oS []))]) (v := iI y4.1) [1000000, 1000001, 3002000] kr kr rfl kr (loc_g (R := []) [pO, iI file] [(1000000, 1000000), (1000001, 1000001), (1000002, 3002000)] (callV_func hbv12 kr) (w_disk_Disk_Size_2 y3.2.2.2.2.2 [] y3.2.1 y3.2.2.1 y3.2.2.2.1 y3.2.2.2.2.1 file _ c4) vw2 kr kr kr kr kr kr kr kr) kr ?_
       obtain ⟨y5, c5, hs⟩ := bS hs
       refine o_loc (F := [(1000000, .box 64 [.mp 1000001, .nils, .mp 3002000, iI y4.2.1, .bool y4.2.2.1, iI y4.2.2.2.1, .vs 1 (mI y4.2.2.2.2)]), (1000001, (oF y3.2.2.2.2.2)), (3002000, (oS []))]) (F' := [(1000000, .box 64 [.mp 1000001, .nils, .mp 3002000, iI y5.2.2.1, .bool y5.2.2.2.1, iI y5.2.2.2.2.1, .vs 1 (mI y5.2.2.2.2.2)]), (1000001, (oF y3.2.2.2.2.2)), (3002000, (oS []))]) (v := .tup [.str y5.1, iI y5.2.1]) [1000000, 1000001, 3002000] kr kr rfl kr (loc_g (R := []) [pO, iI file, iI 0, iI y4.1] [(1000000, 1000000), (1000001, 1000001), (1000002, 3002000)] (callV_func hbv13 kr) (w_disk_Disk_Read_2 y3.2.2.2.2.2 [] y4.2.1 y4.2.2.1 y4.2.2.2.1 y4.2.2.2.2 file 0 y4.1 _ c5) (.cons (.same _) vw3) kr kr kr kr kr kr kr kr) kr ?_
       refine oR 5 [(8, iI y5.2.1), (7, .str y5.1), (32, iI y5.2.1), (31, .str y5.1), (24, .tup [.str y5.1, iI y5.2.1])] kr ?_
       refine oN (nT (vS (vS (vT (oR 2 [(34, .bool (!(decide (y5.2.1 = 0)))), (33, iI y5.2.1)] kr ?_)))))
       refine oN (nT ?_)
       refine v_cond (!(decide (y5.2.1 = 0))) kr (fun h4 => ?_) (fun h4 => ?_)
       ·replace hs := bif_t h4 hs
        refine vS (vT (oR 3 [(5, iI y5.2.1), (4, .nilp), (35, iI y5.2.1)] kr ?_))
        refine oN (nT (v_ret (rT ?_)))
        obtain rfl := si hs
        exact fin_ret kr kr kr
       ·replace hs := bif_f h4 hs
        refine vK (nT (vS (vT (oR 1 [(37, .str y5.1)] kr ?_))))
        obtain ⟨y6, c6, hs⟩ := bS hs
        refine o_loc (F := (gO ob0 ob1 ob2 u1 u2)) (F' := [(3003800, .row 9 1 0 (mS y6.2)), (900000000, gl0 ob0), (900000001, gl1 ob1 u1), (900000002, gl2 ob2 u2)]) (v := .tup [.sl 1 3003800 ((y6.2).length) 0 ((y6.2).length), iI y6.1]) kG kr kr rfl kr (loc_g (R := []) [.str y5.1] [(900000000, 900000000), (900000001, 900000001), (900000002, 900000002), (2000048, 3003800)] (callV_func hbv35 kr) (w_journal_read (ob0 := ob0) (ob1 := ob1) (ob2 := ob2) (u1 := u1) (u2 := u2) y5.1 _ c6) (.cons (.same _) (.nil)) kr kr kr kr kr kr kr kr) kr ?_
        refine oR 5 [(10, iI y6.1), (9, .sl 1 3003800 ((y6.2).length) 0 ((y6.2).length)), (40, iI y6.1), (39, .sl 1 3003800 ((y6.2).length) 0 ((y6.2).length)), (36, .tup [.sl 1 3003800 ((y6.2).length) 0 ((y6.2).length), iI y6.1])] kr ?_
        refine oN (nT (vS (vS (vT (oR 4 [(44, .bool (decide (y6.1 < (List.length y5.1 : Int)))), (43, iI (List.length y5.1 : Int)), (42, .str y5.1), (41, iI y6.1)] kr ?_)))))
        refine oN (nT ?_)
        refine v_cond (decide (y6.1 < (List.length y5.1 : Int))) kr (fun h5 => ?_) (fun h5 => ?_)
        ·replace hs := bif_t h5 hs
         refine vS (vT (oR 3 [(47, iI y6.1), (46, iI file), (45, pO)] kr ?_))
         cases hs
        ·replace hs := bif_f h5 hs
         cases hs
    ·rename_i y2; replace hs := orO_some c2 hs
     refine o_loc (F := (dH (bD 1000002 ((d_queue).length) [iI d_lost, .bool d_down, iI d_armed, .vs 1 (mI d_keep)]) d_files d_queue d_set)) (F' := [(1000003, (oS y2.1)), (3002000, (oQ y2.2.1)), (1000002, .gen gone), (1000001, (oF y2.2.2.1)), (1000000, (bD 3002000 ((y2.2.1).length) [iI y2.2.2.2.1, .bool y2.2.2.2.2.1, iI y2.2.2.2.2.2.1, .vs 1 (mI y2.2.2.2.2.2.2)]))]) (v := iI 0) kD kr kr rfl kr (loc_g (R := []) [pO, iI file] [(1000000, 1000000), (1000001, 1000001), (1000002, 1000002), (1000003, 1000003), (3004100, 3002000)] (callV_func hbv34 kr) (w_disk_Disk_Sync_s d_files d_queue d_set d_lost d_down d_armed d_keep file _ c2) vw2 kr kr kr kr kr kr kr kr) kr ?_
     refine oR 1 [(6, iI 0)] kr ?_
     refine oN (nT (vS (vT (oR 2 [(22, .bool false), (21, iI 0)] kr ?_))))
     refine oN (nT (v_cond_f kr ?_))
     refine vK (nT (vS (vT (oR 4 [(28, iI file), (27, pO), (26, iI file), (25, pO)] kr ?_))))
     obtain ⟨y7, c7, hs⟩ := bS hs
     refine o_loc (F := [(1000000, (bD 3002000 ((y2.2.1).length) [iI y2.2.2.2.1, .bool y2.2.2.2.2.1, iI y2.2.2.2.2.2.1, .vs 1 (mI y2.2.2.2.2.2.2)])), (1000001, (oF y2.2.2.1)), (3002000, (oQ y2.2.1)), (1000003, (oS y2.1))]) (F' := [(1000001, (oF y2.2.2.1)), (1000000, (bD 3002000 ((y2.2.1).length) [iI y7.2.1, .bool y7.2.2.1, iI y7.2.2.2.1, .vs 1 (mI y7.2.2.2.2)])), (3002000, (oQ y2.2.1)), (1000003, (oS y2.1))]) (v := iI y7.1) [1000000, 1000001, 3002000, 1000003] kr kr rfl kr (loc_g (R := []) [pO, iI file] [(1000000, 1000000), (1000001, 1000001), (1000002, 3002000), (1000003, 1000003)] (callV_func hbv12 kr) (w_disk_Disk_Size y2.2.2.1 y2.2.1 y2.1 y2.2.2.2.1 y2.2.2.2.2.1 y2.2.2.2.2.2.1 y2.2.2.2.2.2.2 file _ c7) vw2 kr kr kr kr kr kr kr kr) kr ?_
     obtain ⟨y8, c8, hs⟩ := bS hs
     refine o_loc (F := [(1000000, (bD 3002000 ((y2.2.1).length) [iI y7.2.1, .bool y7.2.2.1, iI y7.2.2.2.1, .vs 1 (mI y7.2.2.2.2)])), (1000001, (oF y2.2.2.1)), (3002000, (oQ y2.2.1)), (1000003, (oS y2.1))]) (F' := [(1000000, (bD 3002000 ((y2.2.1).length) [iI y8.2.2.1, .bool y8.2.2.2.1, iI y8.2.2.2.2.1, .vs 1 (mI y8.2.2.2.2.2)])), (1000001, (oF y2.2.2.1)), (3002000, (oQ y2.2.1)), (1000003, (oS y2.1))]) (v := .tup [.str y8.1, iI y8.2.1]) [1000000, 1000001, 3002000, 1000003] kr kr rfl kr (loc_g (R := []) [pO, iI file, iI 0, iI y7.1] [(1000000, 1000000), (1000001, 1000001), (1000002, 3002000), (1000003, 1000003)] (callV_func hbv13 kr) (w_disk_Disk_Read y2.2.2.1 y2.2.1 y2.1 y7.2.1 y7.2.2.1 y7.2.2.2.1 y7.2.2.2.2 file 0 y7.1 _ c8) (.cons (.same _) vw3) kr kr kr kr kr kr kr kr) kr ?_
     refine oR 5 [(8, iI y8.2.1), (7, .str y8.1), (32, iI y8.2.1), (31, .str y8.1), (24, .tup [.str y8.1, iI y8.2.1])] kr ?_
     refine oN (nT (vS (vS (vT (oR 2 [(34, .bool (!(decide (y8.2.1 = 0)))), (33, iI y8.2.1)] kr ?_)))))
     refine oN (nT ?_)
     refine v_cond (!(decide (y8.2.1 = 0))) kr (fun h6 => ?_) (fun h6 => ?_)
     ·replace hs := bif_t h6 hs
      cases hs
     ·replace hs := bif_f h6 hs
      refine vK (nT (vS (vT (oR 1 [(37, .str y8.1)] kr ?_))))
      obtain ⟨y9, c9, hs⟩ := bS hs
      refine o_loc (F := (gO ob0 ob1 ob2 u1 u2)) (F' := [(3003800, .row 9 1 0 (mS y9.2)), (900000000, gl0 ob0), (900000001, gl1 ob1 u1), (900000002, gl2 ob2 u2)]) (v := .tup [.sl 1 3003800 ((y9.2).length) 0 ((y9.2).length), iI y9.1]) kG kr kr rfl kr (loc_g (R := []) [.str y8.1] [(900000000, 900000000), (900000001, 900000001), (900000002, 900000002), (2000048, 3003800)] (callV_func hbv35 kr) (w_journal_read (ob0 := ob0) (ob1 := ob1) (ob2 := ob2) (u1 := u1) (u2 := u2) y8.1 _ c9) (.cons (.same _) (.nil)) kr kr kr kr kr kr kr kr) kr ?_
      refine oR 5 [(10, iI y9.1), (9, .sl 1 3003800 ((y9.2).length) 0 ((y9.2).length)), (40, iI y9.1), (39, .sl 1 3003800 ((y9.2).length) 0 ((y9.2).length)), (36, .tup [.sl 1 3003800 ((y9.2).length) 0 ((y9.2).length), iI y9.1])] kr ?_
      refine oN (nT (vS (vS (vT (oR 4 [(44, .bool (decide (y9.1 < (List.length y8.1 : Int)))), (43, iI (List.length y8.1 : Int)), (42, .str y8.1), (41, iI y9.1)] kr ?_)))))
      refine oN (nT ?_)
      refine v_cond (decide (y9.1 < (List.length y8.1 : Int))) kr (fun h7 => ?_) (fun h7 => ?_)
      ·replace hs := bif_t h7 hs
       refine vS (vT (oR 3 [(47, iI y9.1), (46, iI file), (45, pO)] kr ?_))
       cases c10 : (s_disk_Disk_Truncate_n y2.2.2.1 y2.2.1 y2.1 y8.2.2.1 y8.2.2.2.1 y8.2.2.2.2.1 y8.2.2.2.2.2 file y9.1)
       ·replace hs := orO_none c10 hs
        cases c11 : (s_disk_Disk_Truncate_s y2.2.2.1 y2.2.1 y2.1 y8.2.2.1 y8.2.2.2.1 y8.2.2.2.2.1 y8.2.2.2.2.2 file y9.1)
        ·replace hs := orO_none c11 hs
         cases c12 : (s_disk_Disk_Truncate_x y2.2.2.1 y2.2.1 y2.1 y8.2.2.1 y8.2.2.2.1 y8.2.2.2.2.1 y8.2.2.2.2.2 file y9.1)
         ·replace hs := orO_none c12 hs
          cases hs
         ·rename_i y12; replace hs := orO_some c12 hs
          refine o_loc (F := [(1000000, (bD 3002000 ((y2.2.1).length) [iI y8.2.2.1, .bool y8.2.2.2.1, iI y8.2.2.2.2.1, .vs 1 (mI y8.2.2.2.2.2)])), (1000001, (oF y2.2.2.1)), (3002000, (oQ y2.2.1)), (1000003, (oS y2.1))]) (F' := [(1000000, .box 64 [.mp 1000001, .nils, .mp 3004800, iI y12.2.1, .bool y12.2.2.1, iI y12.2.2.2.1, .vs 1 (mI y12.2.2.2.2.1)]), (1000001, (oF y12.2.2.2.2.2)), (3004800, (oS [])), (3002000, (oQ y2.2.1)), (1000003, (oS y2.1))]) (v := iI y12.1) [1000000, 1000001, 3002000, 1000003] kr kr rfl kr (loc_g (R := []) [pO, iI file, iI y9.1] [(1000000, 1000000), (1000001, 1000001), (1000002, 3002000), (1000003, 1000003), (3001500, 3004800)] (callV_func hbv36 kr) (w_disk_Disk_Truncate_x y2.2.2.1 y2.2.1 y2.1 y8.2.2.1 y8.2.2.2.1 y8.2.2.2.2.1 y8.2.2.2.2.2 file y9.1 _ c12) vw3 kr kr kr kr kr kr kr kr) kr ?_
          refine oR 1 [(11, iI y12.1)] kr ?_
          refine oN (nT (vS (vT (oR 2 [(50, .bool (!(decide (y12.1 = 0)))), (49, iI y12.1)] kr ?_))))
          refine oN (nT ?_)
          refine v_cond (!(decide (y12.1 = 0))) kr (fun h8 => ?_) (fun h8 => ?_)
          ·replace hs := bif_t h8 hs
           cases hs
          ·replace hs := bif_f h8 hs
           cases hs
        ·rename_i y11; replace hs := orO_some c11 hs
         cases hs
       ·rename_i y10; replace hs := orO_some c10 hs
        refine o_loc (F := [(1000000, (bD 3002000 ((y2.2.1).length) [iI y8.2.2.1, .bool y8.2.2.2.1, iI y8.2.2.2.2.1, .vs 1 (mI y8.2.2.2.2.2)])), (1000001, (oF y2.2.2.1)), (3002000, (oQ y2.2.1)), (1000003, (oS y2.1))]) (F' := [(1000000, (bD 3002000 ((y2.2.1).length) [iI y10.2.1, .bool y10.2.2.1, iI y10.2.2.2.1, .vs 1 (mI y10.2.2.2.2)])), (1000001, (oF y2.2.2.1)), (3002000, (oQ y2.2.1)), (1000003, (oS y2.1))]) (v := iI y10.1) [1000000, 1000001, 3002000, 1000003] kr kr rfl kr (loc_g (R := []) [pO, iI file, iI y9.1] [(1000000, 1000000), (1000001, 1000001), (1000002, 3002000), (1000003, 1000003)] (callV_func hbv36 kr) (w_disk_Disk_Truncate_n y2.2.2.1 y2.2.1 y2.1 y8.2.2.1 y8.2.2.2.1 y8.2.2.2.2.1 y8.2.2.2.2.2 file y9.1 _ c10) vw3 kr kr kr kr kr kr kr kr) kr ?_
        refine oR 1 [(11, iI y10.1)] kr ?_
        refine oN (nT (vS (vT (oR 2 [(50, .bool (!(decide (y10.1 = 0)))), (49, iI y10.1)] kr ?_))))
        refine oN (nT ?_)
        refine v_cond (!(decide (y10.1 = 0))) kr (fun h9 => ?_) (fun h9 => ?_)
        ·replace hs := bif_t h9 hs
         cases hs
        ·replace hs := bif_f h9 hs
         cases hs
      ·replace hs := bif_f h7 hs
       cases hs
   ·rename_i y1; replace hs := orO_some c1 hs
    refine o_loc (F := (dH (bD 1000002 ((d_queue).length) [iI d_lost, .bool d_down, iI d_armed, .vs 1 (mI d_keep)]) d_files d_queue d_set)) (F' := (dH (bD 1000002 ((d_queue).length) [iI y1.2.1, .bool y1.2.2.1, iI y1.2.2.2.1, .vs 1 (mI y1.2.2.2.2)]) d_files d_queue d_set)) (v := iI y1.1) kD kr kr rfl kr (loc_g (R := []) [pO, iI file] rD (callV_func hbv34 kr) (w_disk_Disk_Sync_n d_files d_queue d_set d_lost d_down d_armed d_keep file _ c1) vw2 kr kr kr kr kr kr kr kr) kr ?_
    refine oR 1 [(6, iI y1.1)] kr ?_
    refine oN (nT (vS (vT (oR 2 [(22, .bool (!(decide (y1.1 = 0)))), (21, iI y1.1)] kr ?_))))
    refine oN (nT ?_)
    refine v_cond (!(decide (y1.1 = 0))) kr (fun h10 => ?_) (fun h10 => ?_)
    ·replace hs := bif_t h10 hs
     cases hs
    ·replace hs := bif_f h10 hs
     refine vK (nT (vS (vT (oR 4 [(28, iI file), (27, pO), (26, iI file), (25, pO)] kr ?_))))
     obtain ⟨y13, c13, hs⟩ := bS hs
     refine o_loc (F := (dH (bD 1000002 ((d_queue).length) [iI y1.2.1, .bool y1.2.2.1, iI y1.2.2.2.1, .vs 1 (mI y1.2.2.2.2)]) d_files d_queue d_set)) (F' := [(1000001, (oF d_files)), (1000000, (bD 1000002 ((d_queue).length) [iI y13.2.1, .bool y13.2.2.1, iI y13.2.2.2.1, .vs 1 (mI y13.2.2.2.2)])), (1000002, (oQ d_queue)), (1000003, (oS d_set))]) (v := iI y13.1) kD kr kr rfl kr (loc_g (R := []) [pO, iI file] rD (callV_func hbv12 kr) (w_disk_Disk_Size d_files d_queue d_set y1.2.1 y1.2.2.1 y1.2.2.2.1 y1.2.2.2.2 file _ c13) vw2 kr kr kr kr kr kr kr kr) kr ?_
     obtain ⟨y14, c14, hs⟩ := bS hs
     refine o_loc (F := (dH (bD 1000002 ((d_queue).length) [iI y13.2.1, .bool y13.2.2.1, iI y13.2.2.2.1, .vs 1 (mI y13.2.2.2.2)]) d_files d_queue d_set)) (F' := (dH (bD 1000002 ((d_queue).length) [iI y14.2.2.1, .bool y14.2.2.2.1, iI y14.2.2.2.2.1, .vs 1 (mI y14.2.2.2.2.2)]) d_files d_queue d_set)) (v := .tup [.str y14.1, iI y14.2.1]) kD kr kr rfl kr (loc_g (R := []) [pO, iI file, iI 0, iI y13.1] rD (callV_func hbv13 kr) (w_disk_Disk_Read d_files d_queue d_set y13.2.1 y13.2.2.1 y13.2.2.2.1 y13.2.2.2.2 file 0 y13.1 _ c14) (.cons (.same _) vw3) kr kr kr kr kr kr kr kr) kr ?_
     refine oR 5 [(8, iI y14.2.1), (7, .str y14.1), (32, iI y14.2.1), (31, .str y14.1), (24, .tup [.str y14.1, iI y14.2.1])] kr ?_
     refine oN (nT (vS (vS (vT (oR 2 [(34, .bool (!(decide (y14.2.1 = 0)))), (33, iI y14.2.1)] kr ?_)))))
     refine oN (nT ?_)
     refine v_cond (!(decide (y14.2.1 = 0))) kr (fun h11 => ?_) (fun h11 => ?_)
     ·replace hs := bif_t h11 hs
      cases hs
     ·replace hs := bif_f h11 hs
      refine vK (nT (vS (vT (oR 1 [(37, .str y14.1)] kr ?_))))
      obtain ⟨y15, c15, hs⟩ := bS hs
      refine o_loc (F := (gO ob0 ob1 ob2 u1 u2)) (F' := [(3003800, .row 9 1 0 (mS y15.2)), (900000000, gl0 ob0), (900000001, gl1 ob1 u1), (900000002, gl2 ob2 u2)]) (v := .tup [.sl 1 3003800 ((y15.2).length) 0 ((y15.2).length), iI y15.1]) kG kr kr rfl kr (loc_g (R := []) [.str y14.1] [(900000000, 900000000), (900000001, 900000001), (900000002, 900000002), (2000048, 3003800)] (callV_func hbv35 kr) (w_journal_read (ob0 := ob0) (ob1 := ob1) (ob2 := ob2) (u1 := u1) (u2 := u2) y14.1 _ c15) (.cons (.same _) (.nil)) kr kr kr kr kr kr kr kr) kr ?_
      refine oR 5 [(10, iI y15.1), (9, .sl 1 3003800 ((y15.2).length) 0 ((y15.2).length)), (40, iI y15.1), (39, .sl 1 3003800 ((y15.2).length) 0 ((y15.2).length)), (36, .tup [.sl 1 3003800 ((y15.2).length) 0 ((y15.2).length), iI y15.1])] kr ?_
      refine oN (nT (vS (vS (vT (oR 4 [(44, .bool (decide (y15.1 < (List.length y14.1 : Int)))), (43, iI (List.length y14.1 : Int)), (42, .str y14.1), (41, iI y15.1)] kr ?_)))))
      refine oN (nT ?_)
      refine v_cond (decide (y15.1 < (List.length y14.1 : Int))) kr (fun h12 => ?_) (fun h12 => ?_)
      ·replace hs := bif_t h12 hs
       refine vS (vT (oR 3 [(47, iI y15.1), (46, iI file), (45, pO)] kr ?_))
       cases c16 : (s_disk_Disk_Truncate_n d_files d_queue d_set y14.2.2.1 y14.2.2.2.1 y14.2.2.2.2.1 y14.2.2.2.2.2 file y15.1)
       ·replace hs := orO_none c16 hs
        cases c17 : (s_disk_Disk_Truncate_s d_files d_queue d_set y14.2.2.1 y14.2.2.2.1 y14.2.2.2.2.1 y14.2.2.2.2.2 file y15.1)
        ·replace hs := orO_none c17 hs
         cases c18 : (s_disk_Disk_Truncate_x d_files d_queue d_set y14.2.2.1 y14.2.2.2.1 y14.2.2.2.2.1 y14.2.2.2.2.2 file y15.1)
         ·replace hs := orO_none c18 hs
          cases hs
         ·rename_i y18; replace hs := orO_some c18 hs
          refine o_loc (F := (dH (bD 1000002 ((d_queue).length) [iI y14.2.2.1, .bool y14.2.2.2.1, iI y14.2.2.2.2.1, .vs 1 (mI y14.2.2.2.2.2)]) d_files d_queue d_set)) (F' := [(1000000, .box 64 [.mp 1000001, .nils, .mp 3004800, iI y18.2.1, .bool y18.2.2.1, iI y18.2.2.2.1, .vs 1 (mI y18.2.2.2.2.1)]), (1000001, (oF y18.2.2.2.2.2)), (3004800, (oS [])), (1000002, (oQ d_queue)), (1000003, (oS d_set))]) (v := iI y18.1) kD kr kr rfl kr (loc_g (R := []) [pO, iI file, iI y15.1] [(1000000, 1000000), (1000001, 1000001), (1000002, 1000002), (1000003, 1000003), (3001500, 3004800)] (callV_func hbv36 kr) (w_disk_Disk_Truncate_x d_files d_queue d_set y14.2.2.1 y14.2.2.2.1 y14.2.2.2.2.1 y14.2.2.2.2.2 file y15.1 _ c18) vw3 kr kr kr kr kr kr kr kr) kr ?_
          refine oR 1 [(11, iI y18.1)] kr ?_
          refine oN (nT (vS (vT (oR 2 [(50, .bool (!(decide (y18.1 = 0)))), (49, iI y18.1)] kr ?_))))
          refine oN (nT ?_)
          refine v_cond (!(decide (y18.1 = 0))) kr (fun h13 => ?_) (fun h13 => ?_)
          ·replace hs := bif_t h13 hs
           cases hs
          ·replace hs := bif_f h13 hs
           cases hs
        ·rename_i y17; replace hs := orO_some c17 hs
         cases hs
       ·rename_i y16; replace hs := orO_some c16 hs
        refine o_loc (F := (dH (bD 1000002 ((d_queue).length) [iI y14.2.2.1, .bool y14.2.2.2.1, iI y14.2.2.2.2.1, .vs 1 (mI y14.2.2.2.2.2)]) d_files d_queue d_set)) (F' := (dH (bD 1000002 ((d_queue).length) [iI y16.2.1, .bool y16.2.2.1, iI y16.2.2.2.1, .vs 1 (mI y16.2.2.2.2)]) d_files d_queue d_set)) (v := iI y16.1) kD kr kr rfl kr (loc_g (R := []) [pO, iI file, iI y15.1] rD (callV_func hbv36 kr) (w_disk_Disk_Truncate_n d_files d_queue d_set y14.2.2.1 y14.2.2.2.1 y14.2.2.2.2.1 y14.2.2.2.2.2 file y15.1 _ c16) vw3 kr kr kr kr kr kr kr kr) kr ?_
        refine oR 1 [(11, iI y16.1)] kr ?_
        refine oN (nT (vS (vT (oR 2 [(50, .bool (!(decide (y16.1 = 0)))), (49, iI y16.1)] kr ?_))))
        refine oN (nT ?_)
        refine v_cond (!(decide (y16.1 = 0))) kr (fun h14 => ?_) (fun h14 => ?_)
        ·replace hs := bif_t h14 hs
         cases hs
        ·replace hs := bif_f h14 hs
         cases hs
      ·replace hs := bif_f h12 hs
       cases hs
theorem w_journal_Open_x1 (d_files : (List (Int × disk_file))) (d_queue : (List disk_sector)) (d_set : (List (disk_sector × Bool))) (d_lost : Int) (d_down : Bool) (d_armed : Int) (d_keep : (List Int)) (file : Int) (r : Int × Int × Bool × Int × (List Int) × (List (Int × disk_file)) × (List (disk_sector × Bool))) (hs : s_journal_Open_x1 d_files d_queue d_set d_lost d_down d_armed d_keep file = some r) : FnA Tryd.prog 10 [pO, iI file] [(1000000, (bD 1000002 ((d_queue).length) [iI d_lost, .bool d_down, iI d_armed, .vs 1 (mI d_keep)])), (1000001, (oF d_files)), (1000002, (oQ d_queue)), (1000003, (oS d_set)), (900000000, gl0 ob0), (900000001, gl1 ob1 u1), (900000002, gl2 ob2 u2)] (.tup [.nilp, iI r.1]) [(1000000, .box 64 [.mp 1000001, .nils, .mp 3004800, iI r.2.1, .bool r.2.2.1, iI r.2.2.2.1, .vs 1 (mI r.2.2.2.2.1)]), (1000001, (oF r.2.2.2.2.2.1)), (3004800, (oS [])), (1000003, (oS r.2.2.2.2.2.2)), (1000002, .gen gone), (900000000, gl0 ob0), (900000001, gl1 ob1 u1), (900000002, gl2 ob2 u2)] := by
 refine fnA_of_wp (N := 58) Tryd.func10 rfl rfl rfl fun cK0 => ?_
 unfold s_journal_Open_x1 at hs
 refine v_same (ρ' := [(0, pO), (1, iI file)]) rfl rfl ?_
 refine vS (vT (oR 2 [(5, iI 0), (4, .nilp)] kr ?_))
 refine oN (nT (vS (vS ?_)))
 obtain ⟨z1, hs, hk1⟩ := bS hs
 refine v_join (S := Bool) (fun u => u = z1) (fun u => [(0, pO), (1, iI file), (17, .bool u)]) (fun u => [(1000000, (bD 1000002 ((d_queue).length) [iI d_lost, .bool d_down, iI d_armed, .vs 1 (mI d_keep)])), (1000001, (oF d_files)), (1000002, (oQ d_queue)), (1000003, (oS d_set)), (900000000, gl0 ob0), (900000001, gl1 ob1 u1), (900000002, gl2 ob2 u2)]) ?_ (fun v1 hz => ?_)
 ·refine vT (oR 3 [(14, .bool (decide (file < 0))), (13, .bool (decide (file < 0))), (12, iI file)] kr ?_)
  cases h1 : ((decide (file < 0)))
  ·replace hs := bif_f h1 hs
   refine oR 3 [(17, .bool (decide (file > 15))), (16, .bool (decide (file > 15))), (15, iI file)] kr ?_
   refine oN ?_
   obtain rfl := si hs
   refine nrm_join (decide (file > 15)) rfl ?_
   exact cut_of [0, 1, 17] [1000000, 1000001, 1000002, 1000003, 900000000, 900000001, 900000002] kr kr kr
  ·replace hs := bif_t h1 hs
   refine oR 3 [(17, .bool true), (16, .no), (15, .no)] kr ?_
   refine oN ?_
   obtain rfl := si hs
   refine nrm_join true rfl ?_
   exact cut_of [0, 1, 17] [1000000, 1000001, 1000002, 1000003, 900000000, 900000001, 900000002] kr kr kr
 ·subst hz; clear hs; have hs := hk1; clear hk1
  refine nT ?_
  refine v_cond v1 kr (fun h2 => ?_) (fun h2 => ?_)
  ·replace hs := bif_t h2 hs
   cases hs
  ·replace hs := bif_f h2 hs
   refine vK (nT (vS (vS (vT (oR 2 [(19, iI file), (18, pO)] kr ?_)))))
   cases c1 : (s_disk_Disk_Sync_n d_files d_queue d_set d_lost d_down d_armed d_keep file)
   ·replace hs := orO_none c1 hs
    cases c2 : (s_disk_Disk_Sync_s d_files d_queue d_set d_lost d_down d_armed d_keep file)
    ·replace hs := orO_none c2 hs
     cases c3 : (s_disk_Disk_Sync_x d_files d_queue d_set d_lost d_down d_armed d_keep file)
     ·replace hs := orO_none c3 hs
      cases hs
     ·rename_i y3; replace hs := orO_some c3 hs
      refine o_loc (F := (dH (bD 1000002 ((d_queue).length) [iI d_lost, .bool d_down, iI d_armed, .vs 1 (mI d_keep)]) d_files d_queue d_set)) (F' := [(1000000, .box 64 [.mp 1000001, .nils, .mp 3002000, iI y3.2.1, .bool y3.2.2.1, iI y3.2.2.2.1, .vs 1 (mI y3.2.2.2.2.1)]), (1000001, (oF y3.2.2.2.2.2)), (3002000, (oS [])), (1000002, (oQ d_queue)), (1000003, (oS d_set))]) (v := iI y3.1) kD kr kr rfl kr (loc_g (R := []) [pO, iI file] [(1000000, 1000000), (1000001, 1000001), (1000002, 1000002), (1000003, 1000003), (3001300, 3002000)] (callV_func hbv34 kr) (w_disk_Disk_Sync_x d_files d_queue d_set d_lost d_down d_armed d_keep file _ c3) vw2 kr kr kr kr kr kr kr kr) kr ?_
      refine oR 1 [(6, iI y3.1)] kr ?_
      refine oN (nT (vS (vT (oR 2 [(22, .bool (!(decide (y3.1 = 0)))), (21, iI y3.1)] kr ?_))))
      refine oN (nT ?_)
      refine v_cond (!(decide (y3.1 = 0))) kr (fun h3 => ?_) (fun h3 => ?_)
      ·replace hs := bif_t h3 hs
       cases hs
      ·replace hs := bif_f h3 hs
       refine vK (nT (vS (vT (oR 4 [(28, iI file), (27, pO), (26, iI file), (25, pO)] kr ?_))))
       obtain ⟨y4, c4, hs⟩ := bS hs
       refine o_loc (F := [(1000000, .box 64 [.mp 1000001, .nils, .mp 3002000, iI y3.2.1, .bool y3.2.2.1, iI y3.2.2.2.1, .vs 1 (mI y3.2.2.2.2.1)]), (1000001, (oF y3.2.2.2.2.2)), (3002000, (oS []))]) (F' := [(1000001, (oF y3.2.2.2.2.2)), (1000000, .box 64 [.mp 1000001, .nils, .mp 3002000, iI y4.2.1, .bool y4.2.2.1, iI y4.2.2.2.1, .vs 1 (mI y4.2.2.2.2)]), (3002000, (oS []))]) (v := iI y4.1) [1000000, 1000001, 3002000] kr kr rfl kr (loc_g (R := []) [pO, iI file] [(1000000, 1000000), (1000001, 1000001), (1000002, 3002000)] (callV_func hbv12 kr) (w_disk_Disk_Size_2 y3.2.2.2.2.2 [] y3.2.1 y3.2.2.1 y3.2.2.2.1 y3.2.2.2.2.1 file _ c4) vw2 kr kr kr kr kr kr kr kr) kr ?_
       obtain ⟨y5, c5, hs⟩ := bS hs
       refine o_loc (F := [(1000000, .box 64 [.mp 1000001, .nils, .mp 3002000, iI y4.2.1, .bool y4.2.2.1, iI y4.2.2.2.1, .vs 1 (mI y4.2.2.2.2)]), (1000001, (oF y3.2.2.2.2.2)), (3002000, (oS []))]) (F' := [(1000000, .box 64 [.mp 1000001, .nils, .mp 3002000, iI y5.2.2.1, .bool y5.2.2.2.1, iI y5.2.2.2.2.1, .vs 1 (mI y5.2.2.2.2.2)]), (1000001, (oF y3.2.2.2.2.2)), (3002000, (oS []))]) (v := .tup [.str y5.1, iI y5.2.1]) [1000000, 1000001, 3002000] kr kr rfl kr (loc_g (R := []) [pO, iI file, iI 0, iI y4.1] [(1000000, 1000000), (1000001, 1000001), (1000002, 3002000)] (callV_func hbv13 kr) (w_disk_Disk_Read_2 y3.2.2.2.2.2 [] y4.2.1 y4.2.2.1 y4.2.2.2.1 y4.2.2.2.2 file 0 y4.1 _ c5) (.cons (.same _) vw3) kr kr kr kr kr kr kr kr) kr ?_
       refine oR 5 [(8, iI y5.2.1), (7, .str y5.1), (32, iI y5.2.1), (31, .str y5.1), (24, .tup [.str y5.1, iI y5.2.1])] kr ?_
       refine oN (nT (vS (vS (vT (oR 2 [(34, .bool (!(decide (y5.2.1 = 0)))), (33, iI y5.2.1)] kr ?_)))))
       refine oN (nT ?_)
       refine v_cond (!(decide (y5.2.1 = 0))) kr (fun h4 => ?_) (fun h4 => ?_)
       ·replace hs := bif_t h4 hs
        cases hs
       ·replace hs := bif_f h4 hs
        refine vK (nT (vS (vT (oR 1 [(37, .str y5.1)] kr ?_))))
        obtain ⟨y6, c6, hs⟩ := bS hs
        refine o_loc (F := (gO ob0 ob1 ob2 u1 u2)) (F' := [(3003800, .row 9 1 0 (mS y6.2)), (900000000, gl0 ob0), (900000001, gl1 ob1 u1), (900000002, gl2 ob2 u2)]) (v := .tup [.sl 1 3003800 ((y6.2).length) 0 ((y6.2).length), iI y6.1]) kG kr kr rfl kr (loc_g (R := []) [.str y5.1] [(900000000, 900000000), (900000001, 900000001), (900000002, 900000002), (2000048, 3003800)] (callV_func hbv35 kr) (w_journal_read (ob0 := ob0) (ob1 := ob1) (ob2 := ob2) (u1 := u1) (u2 := u2) y5.1 _ c6) (.cons (.same _) (.nil)) kr kr kr kr kr kr kr kr) kr ?_
        refine oR 5 [(10, iI y6.1), (9, .sl 1 3003800 ((y6.2).length) 0 ((y6.2).length)), (40, iI y6.1), (39, .sl 1 3003800 ((y6.2).length) 0 ((y6.2).length)), (36, .tup [.sl 1 3003800 ((y6.2).length) 0 ((y6.2).length), iI y6.1])] kr ?_
        refine oN (nT (vS (vS (vT (oR 4 [(44, .bool (decide (y6.1 < (List.length y5.1 : Int)))), (43, iI (List.length y5.1 : Int)), (42, .str y5.1), (41, iI y6.1)] kr ?_)))))
        refine oN (nT ?_)
        refine v_cond (decide (y6.1 < (List.length y5.1 : Int))) kr (fun h5 => ?_) (fun h5 => ?_)
        ·replace hs := bif_t h5 hs
         refine vS (vT (oR 3 [(47, iI y6.1), (46, iI file), (45, pO)] kr ?_))
         cases hs
        ·replace hs := bif_f h5 hs
         cases hs
    ·rename_i y2; replace hs := orO_some c2 hs
     refine o_loc (F := (dH (bD 1000002 ((d_queue).length) [iI d_lost, .bool d_down, iI d_armed, .vs 1 (mI d_keep)]) d_files d_queue d_set)) (F' := [(1000003, (oS y2.1)), (3002000, (oQ y2.2.1)), (1000002, .gen gone), (1000001, (oF y2.2.2.1)), (1000000, (bD 3002000 ((y2.2.1).length) [iI y2.2.2.2.1, .bool y2.2.2.2.2.1, iI y2.2.2.2.2.2.1, .vs 1 (mI y2.2.2.2.2.2.2)]))]) (v := iI 0) kD kr kr rfl kr (loc_g (R := []) [pO, iI file] [(1000000, 1000000), (1000001, 1000001), (1000002, 1000002), (1000003, 1000003), (3004100, 3002000)] (callV_func hbv34 kr) (w_disk_Disk_Sync_s d_files d_queue d_set d_lost d_down d_armed d_keep file _ c2) vw2 kr kr kr kr kr kr kr kr) kr ?_
     refine oR 1 [(6, iI 0)] kr ?_
     refine oN (nT (vS (vT (oR 2 [(22, .bool false), (21, iI 0)] kr ?_))))
     refine oN (nT (v_cond_f kr ?_))
     refine vK (nT (vS (vT (oR 4 [(28, iI file), (27, pO), (26, iI file), (25, pO)] kr ?_))))
     obtain ⟨y7, c7, hs⟩ := bS hs
     refine o_loc (F := [(1000000, (bD 3002000 ((y2.2.1).length) [iI y2.2.2.2.1, .bool y2.2.2.2.2.1, iI y2.2.2.2.2.2.1, .vs 1 (mI y2.2.2.2.2.2.2)])), (1000001, (oF y2.2.2.1)), (3002000, (oQ y2.2.1)), (1000003, (oS y2.1))]) (F' := [(1000001, (oF y2.2.2.1)), (1000000, (bD 3002000 ((y2.2.1).length) [iI y7.2.1, .bool y7.2.2.1, iI y7.2.2.2.1, .vs 1 (mI y7.2.2.2.2)])), (3002000, (oQ y2.2.1)), (1000003, (oS y2.1))]) (v := iI y7.1) [1000000, 1000001, 3002000, 1000003] kr kr rfl kr (loc_g (R := []) [pO, iI file] [(1000000, 1000000), (1000001, 1000001), (1000002, 3002000), (1000003, 1000003)] (callV_func hbv12 kr) (w_disk_Disk_Size y2.2.2.1 y2.2.1 y2.1 y2.2.2.2.1 y2.2.2.2.2.1 y2.2.2.2.2.2.1 y2.2.2.2.2.2.2 file _ c7) vw2 kr kr kr kr kr kr kr kr) kr ?_
     obtain ⟨y8, c8, hs⟩ := bS hs
     refine o_loc (F := [(1000000, (bD 3002000 ((y2.2.1).length) [iI y7.2.1, .bool y7.2.2.1, iI y7.2.2.2.1, .vs 1 (mI y7.2.2.2.2)])), (1000001, (oF y2.2.2.1)), (3002000, (oQ y2.2.1)), (1000003, (oS y2.1))]) (F' := [(1000000, (bD 3002000 ((y2.2.1).length) [iI y8.2.2.1, .bool y8.2.2.2.1, iI y8.2.2.2.2.1, .vs 1 (mI y8.2.2.2.2.2)])), (1000001, (oF y2.2.2.1)), (3002000, (oQ y2.2.1)), (1000003, (oS y2.1))]) (v := .tup [.str y8.1, iI y8.2.1]) [1000000, 1000001, 3002000, 1000003] kr kr rfl kr (loc_g (R := []) [pO, iI file, iI 0, iI y7.1] [(1000000, 1000000), (1000001, 1000001), (1000002, 3002000), (1000003, 1000003)] (callV_func hbv13 kr) (w_disk_Disk_Read y2.2.2.1 y2.2.1 y2.1 y7.2.1 y7.2.2.1 y7.2.2.2.1 y7.2.2.2.2 file 0 y7.1 _ c8) (.cons (.same _) vw3) kr kr kr kr kr kr kr kr) kr ?_
     refine oR 5 [(8, iI y8.2.1), (7, .str y8.1), (32, iI y8.2.1), (31, .str y8.1), (24, .tup [.str y8.1, iI y8.2.1])] kr ?_
     refine oN (nT (vS (vS (vT (oR 2 [(34, .bool (!(decide (y8.2.1 = 0)))), (33, iI y8.2.1)] kr ?_)))))
     refine oN (nT ?_)
     refine v_cond (!(decide (y8.2.1 = 0))) kr (fun h6 => ?_) (fun h6 => ?_)
     ·replace hs := bif_t h6 hs
      cases hs
     ·replace hs := bif_f h6 hs
      refine vK (nT (vS (vT (oR 1 [(37, .str y8.1)] kr ?_))))
      obtain ⟨y9, c9, hs⟩ := bS hs
      refine o_loc (F := (gO ob0 ob1 ob2 u1 u2)) (F' := [(3003800, .row 9 1 0 (mS y9.2)), (900000000, gl0 ob0), (900000001, gl1 ob1 u1), (900000002, gl2 ob2 u2)]) (v := .tup [.sl 1 3003800 ((y9.2).length) 0 ((y9.2).length), iI y9.1]) kG kr kr rfl kr (loc_g (R := []) [.str y8.1] [(900000000, 900000000), (900000001, 900000001), (900000002, 900000002), (2000048, 3003800)] (callV_func hbv35 kr) (w_journal_read (ob0 := ob0) (ob1 := ob1) (ob2 := ob2) (u1 := u1) (u2 := u2) y8.1 _ c9) (.cons (.same _) (.nil)) kr kr kr kr kr kr kr kr) kr ?_
      refine oR 5 [(10, iI y9.1), (9, .sl 1 3003800 ((y9.2).length) 0 ((y9.2).length)), (40, iI y9.1), (39, .sl 1 3003800 ((y9.2).length) 0 ((y9.2).length)), (36, .tup [.sl 1 3003800 ((y9.2).length) 0 ((y9.2).length), iI y9.1])] kr ?_
      refine oN (nT (vS (vS (vT (oR 4 [(44, .bool (decide (y9.1 < (List.length y8.1 : Int)))), (43, iI (List.length y8.1 : Int)), (42, .str y8.1), (41, iI y9.1)] kr ?_)))))
      refine oN (nT ?_)
      refine v_cond (decide (y9.1 < (List.length y8.1 : Int))) kr (fun h7 => ?_) (fun h7 => ?_)
      ·replace hs := bif_t h7 hs
       refine vS (vT (oR 3 [(47, iI y9.1), (46, iI file), (45, pO)] kr ?_))
       cases c10 : (s_disk_Disk_Truncate_n y2.2.2.1 y2.2.1 y2.1 y8.2.2.1 y8.2.2.2.1 y8.2.2.2.2.1 y8.2.2.2.2.2 file y9.1)
       ·replace hs := orO_none c10 hs
        cases c11 : (s_disk_Disk_Truncate_s y2.2.2.1 y2.2.1 y2.1 y8.2.2.1 y8.2.2.2.1 y8.2.2.2.2.1 y8.2.2.2.2.2 file y9.1)
        ·replace hs := orO_none c11 hs
         cases c12 : (s_disk_Disk_Truncate_x y2.2.2.1 y2.2.1 y2.1 y8.2.2.1 y8.2.2.2.1 y8.2.2.2.2.1 y8.2.2.2.2.2 file y9.1)
         ·replace hs := orO_none c12 hs
          cases hs
         ·rename_i y12; replace hs := orO_some c12 hs
          refine o_loc (F := [(1000000, (bD 3002000 ((y2.2.1).length) [iI y8.2.2.1, .bool y8.2.2.2.1, iI y8.2.2.2.2.1, .vs 1 (mI y8.2.2.2.2.2)])), (1000001, (oF y2.2.2.1)), (3002000, (oQ y2.2.1)), (1000003, (oS y2.1))]) (F' := [(1000000, .box 64 [.mp 1000001, .nils, .mp 3004800, iI y12.2.1, .bool y12.2.2.1, iI y12.2.2.2.1, .vs 1 (mI y12.2.2.2.2.1)]), (1000001, (oF y12.2.2.2.2.2)), (3004800, (oS [])), (3002000, (oQ y2.2.1)), (1000003, (oS y2.1))]) (v := iI y12.1) [1000000, 1000001, 3002000, 1000003] kr kr rfl kr (loc_g (R := []) [pO, iI file, iI y9.1] [(1000000, 1000000), (1000001, 1000001), (1000002, 3002000), (1000003, 1000003), (3001500, 3004800)] (callV_func hbv36 kr) (w_disk_Disk_Truncate_x y2.2.2.1 y2.2.1 y2.1 y8.2.2.1 y8.2.2.2.1 y8.2.2.2.2.1 y8.2.2.2.2.2 file y9.1 _ c12) vw3 kr kr kr kr kr kr kr kr) kr ?_
          refine oR 1 [(11, iI y12.1)] kr ?_
          refine oN (nT (vS (vT (oR 2 [(50, .bool (!(decide (y12.1 = 0)))), (49, iI y12.1)] kr ?_))))
          refine oN (nT ?_)
          refine v_cond (!(decide (y12.1 = 0))) kr (fun h8 => ?_) (fun h8 => ?_)
          ·replace hs := bif_t h8 hs
           refine vS (vT (oR 3 [(5, iI y12.1), (4, .nilp), (51, iI y12.1)] kr ?_))
           refine oN (nT (v_ret (rT ?_)))
           obtain rfl := si hs
           exact fin_ret kr kr kr
          ·replace hs := bif_f h8 hs
           cases hs
        ·rename_i y11; replace hs := orO_some c11 hs
         cases hs
       ·rename_i y10; replace hs := orO_some c10 hs
        refine o_loc (F := [(1000000, (bD 3002000 ((y2.2.1).length) [iI y8.2.2.1, .bool y8.2.2.2.1, iI y8.2.2.2.2.1, .vs 1 (mI y8.2.2.2.2.2)])), (1000001, (oF y2.2.2.1)), (3002000, (oQ y2.2.1)), (1000003, (oS y2.1))]) (F' := [(1000000, (bD 3002000 ((y2.2.1).length) [iI y10.2.1, .bool y10.2.2.1, iI y10.2.2.2.1, .vs 1 (mI y10.2.2.2.2)])), (1000001, (oF y2.2.2.1)), (3002000, (oQ y2.2.1)), (1000003, (oS y2.1))]) (v := iI y10.1) [1000000, 1000001, 3002000, 1000003] kr kr rfl kr (loc_g (R := []) [pO, iI file, iI y9.1] [(1000000, 1000000), (1000001, 1000001), (1000002, 3002000), (1000003, 1000003)] (callV_func hbv36 kr) (w_disk_Disk_Truncate_n y2.2.2.1 y2.2.1 y2.1 y8.2.2.1 y8.2.2.2.1 y8.2.2.2.2.1 y8.2.2.2.2.2 file y9.1 _ c10) vw3 kr kr kr kr kr kr kr kr) kr ?_
        refine oR 1 [(11, iI y10.1)] kr ?_
        refine oN (nT (vS (vT (oR 2 [(50, .bool (!(decide (y10.1 = 0)))), (49, iI y10.1)] kr ?_))))
        refine oN (nT ?_)
        refine v_cond (!(decide (y10.1 = 0))) kr (fun h9 => ?_) (fun h9 => ?_)
        ·replace hs := bif_t h9 hs
         cases hs
        ·replace hs := bif_f h9 hs
         cases hs
      ·replace hs := bif_f h7 hs
       cases hs
   ·rename_i y1; replace hs := orO_some c1 hs
    refine o_loc (F := (dH (bD 1000002 ((d_queue).length) [iI d_lost, .bool d_down, iI d_armed, .vs 1 (mI d_keep)]) d_files d_queue d_set)) (F' := (dH (bD 1000002 ((d_queue).length) [iI y1.2.1, .bool y1.2.2.1, iI y1.2.2.2.1, .vs 1 (mI y1.2.2.2.2)]) d_files d_queue d_set)) (v := iI y1.1) kD kr kr rfl kr (loc_g (R := []) [pO, iI file] rD (callV_func hbv34 kr) (w_disk_Disk_Sync_n d_files d_queue d_set d_lost d_down d_armed d_keep file _ c1) vw2 kr kr kr kr kr kr kr kr) kr ?_
    refine oR 1 [(6, iI y1.1)] kr ?_
    refine oN (nT (vS (vT (oR 2 [(22, .bool (!(decide (y1.1 = 0)))), (21, iI y1.1)] kr ?_))))
    refine oN (nT ?_)
    refine v_cond (!(decide (y1.1 = 0))) kr (fun h10 => ?_) (fun h10 => ?_)
    ·replace hs := bif_t h10 hs
     cases hs
    ·replace hs := bif_f h10 hs
     refine vK (nT (vS (vT (oR 4 [(28, iI file), (27, pO), (26, iI file), (25, pO)] kr ?_))))
     obtain ⟨y13, c13, hs⟩ := bS hs
     refine o_loc (F := (dH (bD 1000002 ((d_queue).length) [iI y1.2.1, .bool y1.2.2.1, iI y1.2.2.2.1, .vs 1 (mI y1.2.2.2.2)]) d_files d_queue d_set)) (F' := [(1000001, (oF d_files)), (1000000, (bD 1000002 ((d_queue).length) [iI y13.2.1, .bool y13.2.2.1, iI y13.2.2.2.1, .vs 1 (mI y13.2.2.2.2)])), (1000002, (oQ d_queue)), (1000003, (oS d_set))]) (v := iI y13.1) kD kr kr rfl kr (loc_g (R := []) [pO, iI file] rD (callV_func hbv12 kr) (w_disk_Disk_Size d_files d_queue d_set y1.2.1 y1.2.2.1 y1.2.2.2.1 y1.2.2.2.2 file _ c13) vw2 kr kr kr kr kr kr kr kr) kr ?_
     obtain ⟨y14, c14, hs⟩ := bS hs
     refine o_loc (F := (dH (bD 1000002 ((d_queue).length) [iI y13.2.1, .bool y13.2.2.1, iI y13.2.2.2.1, .vs 1 (mI y13.2.2.2.2)]) d_files d_queue d_set)) (F' := (dH (bD 1000002 ((d_queue).length) [iI y14.2.2.1, .bool y14.2.2.2.1, iI y14.2.2.2.2.1, .vs 1 (mI y14.2.2.2.2.2)]) d_files d_queue d_set)) (v := .tup [.str y14.1, iI y14.2.1]) kD kr kr rfl kr (loc_g (R := []) [pO, iI file, iI 0, iI y13.1] rD (callV_func hbv13 kr) (w_disk_Disk_Read d_files d_queue d_set y13.2.1 y13.2.2.1 y13.2.2.2.1 y13.2.2.2.2 file 0 y13.1 _ c14) (.cons (.same _) vw3) kr kr kr kr kr kr kr kr) kr ?_
     refine oR 5 [(8, iI y14.2.1), (7, .str y14.1), (32, iI y14.2.1), (31, .str y14.1), (24, .tup [.str y14.1, iI y14.2.1])] kr ?_
     refine oN (nT (vS (vS (vT (oR 2 [(34, .bool (!(decide (y14.2.1 = 0)))), (33, iI y14.2.1)] kr ?_)))))
     refine oN (nT ?_)
     refine v_cond (!(decide (y14.2.1 = 0))) kr (fun h11 => ?_) (fun h11 => ?_)
     ·replace hs := bif_t h11 hs
      cases hs
     ·replace hs := bif_f h11 hs
      refine vK (nT (vS (vT (oR 1 [(37, .str y14.1)] kr ?_))))
      obtain ⟨y15, c15, hs⟩ := bS hs
      refine o_loc (F := (gO ob0 ob1 ob2 u1 u2)) (F' := [(3003800, .row 9 1 0 (mS y15.2)), (900000000, gl0 ob0), (900000001, gl1 ob1 u1), (900000002, gl2 ob2 u2)]) (v := .tup [.sl 1 3003800 ((y15.2).length) 0 ((y15.2).length), iI y15.1]) kG kr kr rfl kr (loc_g (R := []) [.str y14.1] [(900000000, 900000000), (900000001, 900000001), (900000002, 900000002), (2000048, 3003800)] (callV_func hbv35 kr) (w_journal_read (ob0 := ob0) (ob1 := ob1) (ob2 := ob2) (u1 := u1) (u2 := u2) y14.1 _ c15) (.cons (.same _) (.nil)) kr kr kr kr kr kr kr kr) kr ?_
      refine oR 5 [(10, iI y15.1), (9, .sl 1 3003800 ((y15.2).length) 0 ((y15.2).length)), (40, iI y15.1), (39, .sl 1 3003800 ((y15.2).length) 0 ((y15.2).length)), (36, .tup [.sl 1 3003800 ((y15.2).length) 0 ((y15.2).length), iI y15.1])] kr ?_
      refine oN (nT (vS (vS (vT (oR 4 [(44, .bool (decide (y15.1 < (List.length y14.1 : Int)))), (43, iI (List.length y14.1 : Int)), (42, .str y14.1), (41, iI y15.1)] kr ?_)))))
      refine oN (nT ?_)
      refine v_cond (decide (y15.1 < (List.length y14.1 : Int))) kr (fun h12 => ?_) (fun h12 => ?_)
      ·replace hs := bif_t h12 hs
       refine vS (vT (oR 3 [(47, iI y15.1), (46, iI file), (45, pO)] kr ?_))
       cases c16 : (s_disk_Disk_Truncate_n d_files d_queue d_set y14.2.2.1 y14.2.2.2.1 y14.2.2.2.2.1 y14.2.2.2.2.2 file y15.1)
       ·replace hs := orO_none c16 hs
        cases c17 : (s_disk_Disk_Truncate_s d_files d_queue d_set y14.2.2.1 y14.2.2.2.1 y14.2.2.2.2.1 y14.2.2.2.2.2 file y15.1)
        ·replace hs := orO_none c17 hs
         cases c18 : (s_disk_Disk_Truncate_x d_files d_queue d_set y14.2.2.1 y14.2.2.2.1 y14.2.2.2.2.1 y14.2.2.2.2.2 file y15.1)
         ·replace hs := orO_none c18 hs
          cases hs
         ·rename_i y18; replace hs := orO_some c18 hs
          refine o_loc (F := (dH (bD 1000002 ((d_queue).length) [iI y14.2.2.1, .bool y14.2.2.2.1, iI y14.2.2.2.2.1, .vs 1 (mI y14.2.2.2.2.2)]) d_files d_queue d_set)) (F' := [(1000000, .box 64 [.mp 1000001, .nils, .mp 3004800, iI y18.2.1, .bool y18.2.2.1, iI y18.2.2.2.1, .vs 1 (mI y18.2.2.2.2.1)]), (1000001, (oF y18.2.2.2.2.2)), (3004800, (oS [])), (1000002, (oQ d_queue)), (1000003, (oS d_set))]) (v := iI y18.1) kD kr kr rfl kr (loc_g (R := []) [pO, iI file, iI y15.1] [(1000000, 1000000), (1000001, 1000001), (1000002, 1000002), (1000003, 1000003), (3001500, 3004800)] (callV_func hbv36 kr) (w_disk_Disk_Truncate_x d_files d_queue d_set y14.2.2.1 y14.2.2.2.1 y14.2.2.2.2.1 y14.2.2.2.2.2 file y15.1 _ c18) vw3 kr kr kr kr kr kr kr kr) kr ?_
          refine oR 1 [(11, iI y18.1)] kr ?_
          refine oN (nT (vS (vT (oR 2 [(50, .bool (!(decide (y18.1 = 0)))), (49, iI y18.1)] kr ?_))))
          refine oN (nT ?_)
          refine v_cond (!(decide (y18.1 = 0))) kr (fun h13 => ?_) (fun h13 => ?_)
          ·replace hs := bif_t h13 hs
           cases hs
          ·replace hs := bif_f h13 hs
           cases hs
        ·rename_i y17; replace hs := orO_some c17 hs
         cases hs
       ·rename_i y16; replace hs := orO_some c16 hs
        refine o_loc (F := (dH (bD 1000002 ((d_queue).length) [iI y14.2.2.1, .bool y14.2.2.2.1, iI y14.2.2.2.2.1, .vs 1 (mI y14.2.2.2.2.2)]) d_files d_queue d_set)) (F' := (dH (bD 1000002 ((d_queue).length) [iI y16.2.1, .bool y16.2.2.1, iI y16.2.2.2.1, .vs 1 (mI y16.2.2.2.2)]) d_files d_queue d_set)) (v := iI y16.1) kD kr kr rfl kr (loc_g (R := []) [pO, iI file, iI y15.1] rD (callV_func hbv36 kr) (w_disk_Disk_Truncate_n d_files d_queue d_set y14.2.2.1 y14.2.2.2.1 y14.2.2.2.2.1 y14.2.2.2.2.2 file y15.1 _ c16) vw3 kr kr kr kr kr kr kr kr) kr ?_
        refine oR 1 [(11, iI y16.1)] kr ?_
        refine oN (nT (vS (vT (oR 2 [(50, .bool (!(decide (y16.1 = 0)))), (49, iI y16.1)] kr ?_))))
        refine oN (nT ?_)
        refine v_cond (!(decide (y16.1 = 0))) kr (fun h14 => ?_) (fun h14 => ?_)
        ·replace hs := bif_t h14 hs
         cases hs
        ·replace hs := bif_f h14 hs
         cases hs
      ·replace hs := bif_f h12 hs
       cases hs
theorem w_journal_Open_p1 (d_files : (List (Int × disk_file))) (d_queue : (List disk_sector)) (d_set : (List (disk_sector × Bool))) (d_lost : Int) (d_down : Bool) (d_armed : Int) (d_keep : (List Int)) (file : Int) (r : Int × Int × Int × Bool × Int × (List Int) × (List (Int × disk_file)) × (List disk_sector) × (List (disk_sector × Bool)) × (List (List UInt8))) (hs : s_journal_Open_p1 d_files d_queue d_set d_lost d_down d_armed d_keep file = some r) : FnA Tryd.prog 10 [pO, iI file] [(1000000, (bD 1000002 ((d_queue).length) [iI d_lost, .bool d_down, iI d_armed, .vs 1 (mI d_keep)])), (1000001, (oF d_files)), (1000002, (oQ d_queue)), (1000003, (oS d_set)), (900000000, gl0 ob0), (900000001, gl1 ob1 u1), (900000002, gl2 ob2 u2)] (.tup [.ptr 57 0 0, iI 0]) [(57, .box 70 [pO, iI r.1, .sl 1 3003800 ((r.2.2.2.2.2.2.2.2.2).length) 0 ((r.2.2.2.2.2.2.2.2.2).length), iI r.2.1, .bool false]), (1000000, (bD 3002000 ((r.2.2.2.2.2.2.2.1).length) [iI r.2.2.1, .bool r.2.2.2.1, iI r.2.2.2.2.1, .vs 1 (mI r.2.2.2.2.2.1)])), (1000001, (oF r.2.2.2.2.2.2.1)), (3002000, (oQ r.2.2.2.2.2.2.2.1)), (1000003, (oS r.2.2.2.2.2.2.2.2.1)), (3003800, .row 9 1 0 (mS r.2.2.2.2.2.2.2.2.2)), (1000002, .gen gone), (900000000, gl0 ob0), (900000001, gl1 ob1 u1), (900000002, gl2 ob2 u2)] := by
 refine fnA_of_wp (N := 58) Tryd.func10 rfl rfl rfl fun cK0 => ?_
 unfold s_journal_Open_p1 at hs
 refine v_same (ρ' := [(0, pO), (1, iI file)]) rfl rfl ?_
 refine vS (vT (oR 2 [(5, iI 0), (4, .nilp)] kr ?_))
 refine oN (nT (vS (vS ?_)))
 obtain ⟨z1, hs, hk1⟩ := bS hs
 refine v_join (S := Bool) (fun u => u = z1) (fun u => [(0, pO), (1, iI file), (17, .bool u)]) (fun u => [(1000000, (bD 1000002 ((d_queue).length) [iI d_lost, .bool d_down, iI d_armed, .vs 1 (mI d_keep)])), (1000001, (oF d_files)), (1000002, (oQ d_queue)), (1000003, (oS d_set)), (900000000, gl0 ob0), (900000001, gl1 ob1 u1), (900000002, gl2 ob2 u2)]) ?_ (fun v1 hz => ?_)
 ·refine vT (oR 3 [(14, .bool (decide (file < 0))), (13, .bool (decide (file < 0))), (12, iI file)] kr ?_)
  cases h1 : ((decide (file < 0)))
  ·replace hs := bif_f h1 hs
   refine oR 3 [(17, .bool (decide (file > 15))), (16, .bool (decide (file > 15))), (15, iI file)] kr ?_
   refine oN ?_
   obtain rfl := si hs
   refine nrm_join (decide (file > 15)) rfl ?_
   exact cut_of [0, 1, 17] [1000000, 1000001, 1000002, 1000003, 900000000, 900000001, 900000002] kr kr kr
  ·replace hs := bif_t h1 hs
   refine oR 3 [(17, .bool true), (16, .no), (15, .no)] kr ?_
   refine oN ?_
   obtain rfl := si hs
   refine nrm_join true rfl ?_
   exact cut_of [0, 1, 17] [1000000, 1000001, 1000002, 1000003, 900000000, 900000001, 900000002] kr kr kr
 ·subst hz; clear hs; have hs := hk1; clear hk1
  refine nT ?_
  refine v_cond v1 kr (fun h2 => ?_) (fun h2 => ?_)
  ·replace hs := bif_t h2 hs
   cases hs
  ·replace hs := bif_f h2 hs
   refine vK (nT (vS (vS (vT (oR 2 [(19, iI file), (18, pO)] kr ?_)))))
   cases c1 : (s_disk_Disk_Sync_n d_files d_queue d_set d_lost d_down d_armed d_keep file)
   ·replace hs := orO_none c1 hs
    cases c2 : (s_disk_Disk_Sync_s d_files d_queue d_set d_lost d_down d_armed d_keep file)
    ·replace hs := orO_none c2 hs
     cases c3 : (s_disk_Disk_Sync_x d_files d_queue d_set d_lost d_down d_armed d_keep file)
     ·replace hs := orO_none c3 hs
      cases hs
     ·rename_i y3; replace hs := orO_some c3 hs
      refine o_loc (F := (dH (bD 1000002 ((d_queue).length) [iI d_lost, .bool d_down, iI d_armed, .vs 1 (mI d_keep)]) d_files d_queue d_set)) (F' := [(1000000, .box 64 [.mp 1000001, .nils, .mp 3002000, iI y3.2.1, .bool y3.2.2.1, iI y3.2.2.2.1, .vs 1 (mI y3.2.2.2.2.1)]), (1000001, (oF y3.2.2.2.2.2)), (3002000, (oS [])), (1000002, (oQ d_queue)), (1000003, (oS d_set))]) (v := iI y3.1) kD kr kr rfl kr (loc_g (R := []) [pO, iI file] [(1000000, 1000000), (1000001, 1000001), (1000002, 1000002), (1000003, 1000003), (3001300, 3002000)] (callV_func hbv34 kr) (w_disk_Disk_Sync_x d_files d_queue d_set d_lost d_down d_armed d_keep file _ c3) vw2 kr kr kr kr kr kr kr kr) kr ?_
      refine oR 1 [(6, iI y3.1)] kr ?_
      refine oN (nT (vS (vT (oR 2 [(22, .bool (!(decide (y3.1 = 0)))), (21, iI y3.1)] kr ?_))))
      refine oN (nT ?_)
      refine v_cond (!(decide (y3.1 = 0))) kr (fun h3 => ?_) (fun h3 => ?_)
      ·replace hs := bif_t h3 hs
       cases hs
      ·replace hs := bif_f h3 hs
       refine vK (nT (vS (vT (oR 4 [(28, iI file), (27, pO), (26, iI file), (25, pO)] kr ?_))))
       obtain ⟨y4, c4, hs⟩ := bS hs
       refine o_loc (F := [(1000000, .box 64 [.mp 1000001, .nils, .mp 3002000, iI y3.2.1, .bool y3.2.2.1, iI y3.2.2.2.1, .vs 1 (mI y3.2.2.2.2.1)]), (1000001, (oF y3.2.2.2.2.2)), (3002000, (oS []))]) (F' := [(1000001, (oF y3.2.2.2.2.2)), (1000000, .box 64 [.mp 1000001, .nils, .mp 3002000, iI y4.2.1, .bool y4.2.2.1, iI y4.2.2.2.1, .vs 1 (mI y4.2.2.2.2)]), (3002000, (oS []))]) (v := iI y4.1) [1000000, 1000001, 3002000] kr kr rfl kr (loc_g (R := []) [pO, iI file] [(1000000, 1000000), (1000001, 1000001), (1000002, 3002000)] (callV_func hbv12 kr) (w_disk_Disk_Size_2 y3.2.2.2.2.2 [] y3.2.1 y3.2.2.1 y3.2.2.2.1 y3.2.2.2.2.1 file _ c4) vw2 kr kr kr kr kr kr kr kr) kr ?_
       obtain ⟨y5, c5, hs⟩ := bS hs
       refine o_loc (F := [(1000000, .box 64 [.mp 1000001, .nils, .mp 3002000, iI y4.2.1, .bool y4.2.2.1, iI y4.2.2.2.1, .vs 1 (mI y4.2.2.2.2)]), (1000001, (oF y3.2.2.2.2.2)), (3002000, (oS []))]) (F' := [(1000000, .box 64 [.mp 1000001, .nils, .mp 3002000, iI y5.2.2.1, .bool y5.2.2.2.1, iI y5.2.2.2.2.1, .vs 1 (mI y5.2.2.2.2.2)]), (1000001, (oF y3.2.2.2.2.2)), (3002000, (oS []))]) (v := .tup [.str y5.1, iI y5.2.1]) [1000000, 1000001, 3002000] kr kr rfl kr (loc_g (R := []) [pO, iI file, iI 0, iI y4.1] [(1000000, 1000000), (1000001, 1000001), (1000002, 3002000)] (callV_func hbv13 kr) (w_disk_Disk_Read_2 y3.2.2.2.2.2 [] y4.2.1 y4.2.2.1 y4.2.2.2.1 y4.2.2.2.2 file 0 y4.1 _ c5) (.cons (.same _) vw3) kr kr kr kr kr kr kr kr) kr ?_
       refine oR 5 [(8, iI y5.2.1), (7, .str y5.1), (32, iI y5.2.1), (31, .str y5.1), (24, .tup [.str y5.1, iI y5.2.1])] kr ?_
       refine oN (nT (vS (vS (vT (oR 2 [(34, .bool (!(decide (y5.2.1 = 0)))), (33, iI y5.2.1)] kr ?_)))))
       refine oN (nT ?_)
       refine v_cond (!(decide (y5.2.1 = 0))) kr (fun h4 => ?_) (fun h4 => ?_)
       ·replace hs := bif_t h4 hs
        cases hs
       ·replace hs := bif_f h4 hs
        refine vK (nT (vS (vT (oR 1 [(37, .str y5.1)] kr ?_))))
        obtain ⟨y6, c6, hs⟩ := bS hs
        refine o_loc (F := (gO ob0 ob1 ob2 u1 u2)) (F' := [(3003800, .row 9 1 0 (mS y6.2)), (900000000, gl0 ob0), (900000001, gl1 ob1 u1), (900000002, gl2 ob2 u2)]) (v := .tup [.sl 1 3003800 ((y6.2).length) 0 ((y6.2).length), iI y6.1]) kG kr kr rfl kr (loc_g (R := []) [.str y5.1] [(900000000, 900000000), (900000001, 900000001), (900000002, 900000002), (2000048, 3003800)] (callV_func hbv35 kr) (w_journal_read (ob0 := ob0) (ob1 := ob1) (ob2 := ob2) (u1 := u1) (u2 := u2) y5.1 _ c6) (.cons (.same _) (.nil)) kr kr kr kr kr kr kr kr) kr ?_
        refine oR 5 [(10, iI y6.1), (9, .sl 1 3003800 ((y6.2).length) 0 ((y6.2).length)), (40, iI y6.1), (39, .sl 1 3003800 ((y6.2).length) 0 ((y6.2).length)), (36, .tup [.sl 1 3003800 ((y6.2).length) 0 ((y6.2).length), iI y6.1])] kr ?_
        refine oN (nT (vS (vS (vT (oR 4 [(44, .bool (decide (y6.1 < (List.length y5.1 : Int)))), (43, iI (List.length y5.1 : Int)), (42, .str y5.1), (41, iI y6.1)] kr ?_)))))
        refine oN (nT ?_)
        refine v_cond (decide (y6.1 < (List.length y5.1 : Int))) kr (fun h5 => ?_) (fun h5 => ?_)
        ·replace hs := bif_t h5 hs
         refine vS (vT (oR 3 [(47, iI y6.1), (46, iI file), (45, pO)] kr ?_))
         cases hs
        ·replace hs := bif_f h5 hs
         cases hs
    ·rename_i y2; replace hs := orO_some c2 hs
     refine o_loc (F := (dH (bD 1000002 ((d_queue).length) [iI d_lost, .bool d_down, iI d_armed, .vs 1 (mI d_keep)]) d_files d_queue d_set)) (F' := [(1000003, (oS y2.1)), (3002000, (oQ y2.2.1)), (1000002, .gen gone), (1000001, (oF y2.2.2.1)), (1000000, (bD 3002000 ((y2.2.1).length) [iI y2.2.2.2.1, .bool y2.2.2.2.2.1, iI y2.2.2.2.2.2.1, .vs 1 (mI y2.2.2.2.2.2.2)]))]) (v := iI 0) kD kr kr rfl kr (loc_g (R := []) [pO, iI file] [(1000000, 1000000), (1000001, 1000001), (1000002, 1000002), (1000003, 1000003), (3004100, 3002000)] (callV_func hbv34 kr) (w_disk_Disk_Sync_s d_files d_queue d_set d_lost d_down d_armed d_keep file _ c2) vw2 kr kr kr kr kr kr kr kr) kr ?_
     refine oR 1 [(6, iI 0)] kr ?_
     refine oN (nT (vS (vT (oR 2 [(22, .bool false), (21, iI 0)] kr ?_))))
     refine oN (nT (v_cond_f kr ?_))
     refine vK (nT (vS (vT (oR 4 [(28, iI file), (27, pO), (26, iI file), (25, pO)] kr ?_))))
     obtain ⟨y7, c7, hs⟩ := bS hs
     refine o_loc (F := [(1000000, (bD 3002000 ((y2.2.1).length) [iI y2.2.2.2.1, .bool y2.2.2.2.2.1, iI y2.2.2.2.2.2.1, .vs 1 (mI y2.2.2.2.2.2.2)])), (1000001, (oF y2.2.2.1)), (3002000, (oQ y2.2.1)), (1000003, (oS y2.1))]) (F' := [(1000001, (oF y2.2.2.1)), (1000000, (bD 3002000 ((y2.2.1).length) [iI y7.2.1, .bool y7.2.2.1, iI y7.2.2.2.1, .vs 1 (mI y7.2.2.2.2)])), (3002000, (oQ y2.2.1)), (1000003, (oS y2.1))]) (v := iI y7.1) [1000000, 1000001, 3002000, 1000003] kr kr rfl kr (loc_g (R := []) [pO, iI file] [(1000000, 1000000), (1000001, 1000001), (1000002, 3002000), (1000003, 1000003)] (callV_func hbv12 kr) (w_disk_Disk_Size y2.2.2.1 y2.2.1 y2.1 y2.2.2.2.1 y2.2.2.2.2.1 y2.2.2.2.2.2.1 y2.2.2.2.2.2.2 file _ c7) vw2 kr kr kr kr kr kr kr kr) kr ?_
     obtain ⟨y8, c8, hs⟩ := bS hs
     refine o_loc (F := [(1000000, (bD 3002000 ((y2.2.1).length) [iI y7.2.1, .bool y7.2.2.1, iI y7.2.2.2.1, .vs 1 (mI y7.2.2.2.2)])), (1000001, (oF y2.2.2.1)), (3002000, (oQ y2.2.1)), (1000003, (oS y2.1))]) (F' := [(1000000, (bD 3002000 ((y2.2.1).length) [iI y8.2.2.1, .bool y8.2.2.2.1, iI y8.2.2.2.2.1, .vs 1 (mI y8.2.2.2.2.2)])), (1000001, (oF y2.2.2.1)), (3002000, (oQ y2.2.1)), (1000003, (oS y2.1))]) (v := .tup [.str y8.1, iI y8.2.1]) [1000000, 1000001, 3002000, 1000003] kr kr rfl kr (loc_g (R := []) [pO, iI file, iI 0, iI y7.1] [(1000000, 1000000), (1000001, 1000001), (1000002, 3002000), (1000003, 1000003)] (callV_func hbv13 kr) (w_disk_Disk_Read y2.2.2.1 y2.2.1 y2.1 y7.2.1 y7.2.2.1 y7.2.2.2.1 y7.2.2.2.2 file 0 y7.1 _ c8) (.cons (.same _) vw3) kr kr kr kr kr kr kr kr) kr ?_
     refine oR 5 [(8, iI y8.2.1), (7, .str y8.1), (32, iI y8.2.1), (31, .str y8.1), (24, .tup [.str y8.1, iI y8.2.1])] kr ?_
     refine oN (nT (vS (vS (vT (oR 2 [(34, .bool (!(decide (y8.2.1 = 0)))), (33, iI y8.2.1)] kr ?_)))))
     refine oN (nT ?_)
     refine v_cond (!(decide (y8.2.1 = 0))) kr (fun h6 => ?_) (fun h6 => ?_)
     ·replace hs := bif_t h6 hs
      cases hs
     ·replace hs := bif_f h6 hs
      refine vK (nT (vS (vT (oR 1 [(37, .str y8.1)] kr ?_))))
      obtain ⟨y9, c9, hs⟩ := bS hs
      refine o_loc (F := (gO ob0 ob1 ob2 u1 u2)) (F' := [(3003800, .row 9 1 0 (mS y9.2)), (900000000, gl0 ob0), (900000001, gl1 ob1 u1), (900000002, gl2 ob2 u2)]) (v := .tup [.sl 1 3003800 ((y9.2).length) 0 ((y9.2).length), iI y9.1]) kG kr kr rfl kr (loc_g (R := []) [.str y8.1] [(900000000, 900000000), (900000001, 900000001), (900000002, 900000002), (2000048, 3003800)] (callV_func hbv35 kr) (w_journal_read (ob0 := ob0) (ob1 := ob1) (ob2 := ob2) (u1 := u1) (u2 := u2) y8.1 _ c9) (.cons (.same _) (.nil)) kr kr kr kr kr kr kr kr) kr ?_
      refine oR 5 [(10, iI y9.1), (9, .sl 1 3003800 ((y9.2).length) 0 ((y9.2).length)), (40, iI y9.1), (39, .sl 1 3003800 ((y9.2).length) 0 ((y9.2).length)), (36, .tup [.sl 1 3003800 ((y9.2).length) 0 ((y9.2).length), iI y9.1])] kr ?_
      refine oN (nT (vS (vS (vT (oR 4 [(44, .bool (decide (y9.1 < (List.length y8.1 : Int)))), (43, iI (List.length y8.1 : Int)), (42, .str y8.1), (41, iI y9.1)] kr ?_)))))
      refine oN (nT ?_)
      refine v_cond (decide (y9.1 < (List.length y8.1 : Int))) kr (fun h7 => ?_) (fun h7 => ?_)
      ·replace hs := bif_t h7 hs
       refine vS (vT (oR 3 [(47, iI y9.1), (46, iI file), (45, pO)] kr ?_))
       cases c10 : (s_disk_Disk_Truncate_n y2.2.2.1 y2.2.1 y2.1 y8.2.2.1 y8.2.2.2.1 y8.2.2.2.2.1 y8.2.2.2.2.2 file y9.1)
       ·replace hs := orO_none c10 hs
        cases c11 : (s_disk_Disk_Truncate_s y2.2.2.1 y2.2.1 y2.1 y8.2.2.1 y8.2.2.2.1 y8.2.2.2.2.1 y8.2.2.2.2.2 file y9.1)
        ·replace hs := orO_none c11 hs
         cases c12 : (s_disk_Disk_Truncate_x y2.2.2.1 y2.2.1 y2.1 y8.2.2.1 y8.2.2.2.1 y8.2.2.2.2.1 y8.2.2.2.2.2 file y9.1)
         ·replace hs := orO_none c12 hs
          cases hs
         ·rename_i y12; replace hs := orO_some c12 hs
          refine o_loc (F := [(1000000, (bD 3002000 ((y2.2.1).length) [iI y8.2.2.1, .bool y8.2.2.2.1, iI y8.2.2.2.2.1, .vs 1 (mI y8.2.2.2.2.2)])), (1000001, (oF y2.2.2.1)), (3002000, (oQ y2.2.1)), (1000003, (oS y2.1))]) (F' := [(1000000, .box 64 [.mp 1000001, .nils, .mp 3004800, iI y12.2.1, .bool y12.2.2.1, iI y12.2.2.2.1, .vs 1 (mI y12.2.2.2.2.1)]), (1000001, (oF y12.2.2.2.2.2)), (3004800, (oS [])), (3002000, (oQ y2.2.1)), (1000003, (oS y2.1))]) (v := iI y12.1) [1000000, 1000001, 3002000, 1000003] kr kr rfl kr (loc_g (R := []) [pO, iI file, iI y9.1] [(1000000, 1000000), (1000001, 1000001), (1000002, 3002000), (1000003, 1000003), (3001500, 3004800)] (callV_func hbv36 kr) (w_disk_Disk_Truncate_x y2.2.2.1 y2.2.1 y2.1 y8.2.2.1 y8.2.2.2.1 y8.2.2.2.2.1 y8.2.2.2.2.2 file y9.1 _ c12) vw3 kr kr kr kr kr kr kr kr) kr ?_
          refine oR 1 [(11, iI y12.1)] kr ?_
          refine oN (nT (vS (vT (oR 2 [(50, .bool (!(decide (y12.1 = 0)))), (49, iI y12.1)] kr ?_))))
          refine oN (nT ?_)
          refine v_cond (!(decide (y12.1 = 0))) kr (fun h8 => ?_) (fun h8 => ?_)
          ·replace hs := bif_t h8 hs
           cases hs
          ·replace hs := bif_f h8 hs
           cases hs
        ·rename_i y11; replace hs := orO_some c11 hs
         cases hs
       ·rename_i y10; replace hs := orO_some c10 hs
        refine o_loc (F := [(1000000, (bD 3002000 ((y2.2.1).length) [iI y8.2.2.1, .bool y8.2.2.2.1, iI y8.2.2.2.2.1, .vs 1 (mI y8.2.2.2.2.2)])), (1000001, (oF y2.2.2.1)), (3002000, (oQ y2.2.1)), (1000003, (oS y2.1))]) (F' := [(1000000, (bD 3002000 ((y2.2.1).length) [iI y10.2.1, .bool y10.2.2.1, iI y10.2.2.2.1, .vs 1 (mI y10.2.2.2.2)])), (1000001, (oF y2.2.2.1)), (3002000, (oQ y2.2.1)), (1000003, (oS y2.1))]) (v := iI y10.1) [1000000, 1000001, 3002000, 1000003] kr kr rfl kr (loc_g (R := []) [pO, iI file, iI y9.1] [(1000000, 1000000), (1000001, 1000001), (1000002, 3002000), (1000003, 1000003)] (callV_func hbv36 kr) (w_disk_Disk_Truncate_n y2.2.2.1 y2.2.1 y2.1 y8.2.2.1 y8.2.2.2.1 y8.2.2.2.2.1 y8.2.2.2.2.2 file y9.1 _ c10) vw3 kr kr kr kr kr kr kr kr) kr ?_
        refine oR 1 [(11, iI y10.1)] kr ?_
        refine oN (nT (vS (vT (oR 2 [(50, .bool (!(decide (y10.1 = 0)))), (49, iI y10.1)] kr ?_))))
        refine oN (nT ?_)
        refine v_cond (!(decide (y10.1 = 0))) kr (fun h9 => ?_) (fun h9 => ?_)
        ·replace hs := bif_t h9 hs
         cases hs
        ·replace hs := bif_f h9 hs
         refine vK (nT (vS (vT (o_runh 8 [(5, iI 0), (4, .ptr 57 0 0), (57, .ptr 57 0 0), (56, .agg [pO, iI file, .sl 1 3003800 ((y9.2).length) 0 ((y9.2).length), iI y9.1, .bool false]), (55, iI y9.1), (54, .sl 1 3003800 ((y9.2).length) 0 ((y9.2).length)), (53, iI file), (52, pO)] [(57, .box 70 [pO, iI file, .sl 1 3003800 ((y9.2).length) 0 ((y9.2).length), iI y9.1, .bool false]), (1000000, (bD 3002000 ((y2.2.1).length) [iI y10.2.1, .bool y10.2.2.1, iI y10.2.2.2.1, .vs 1 (mI y10.2.2.2.2)])), (1000001, (oF y2.2.2.1)), (3002000, (oQ y2.2.1)), (1000003, (oS y2.1)), (3003800, .row 9 1 0 (mS y9.2)), (900000000, gl0 ob0), (900000001, gl1 ob1 u1), (900000002, gl2 ob2 u2), (1000002, .gen gone)] kr ?_))))
         refine oN (nT (v_ret ?_))
         obtain rfl := si hs
         exact fin_ret kr kr kr
      ·replace hs := bif_f h7 hs
       refine vK (nT (vS (vT (o_runh 8 [(5, iI 0), (4, .ptr 57 0 0), (57, .ptr 57 0 0), (56, .agg [pO, iI file, .sl 1 3003800 ((y9.2).length) 0 ((y9.2).length), iI y9.1, .bool false]), (55, iI y9.1), (54, .sl 1 3003800 ((y9.2).length) 0 ((y9.2).length)), (53, iI file), (52, pO)] [(57, .box 70 [pO, iI file, .sl 1 3003800 ((y9.2).length) 0 ((y9.2).length), iI y9.1, .bool false]), (3003800, .row 9 1 0 (mS y9.2)), (900000000, gl0 ob0), (900000001, gl1 ob1 u1), (900000002, gl2 ob2 u2), (1000000, (bD 3002000 ((y2.2.1).length) [iI y8.2.2.1, .bool y8.2.2.2.1, iI y8.2.2.2.2.1, .vs 1 (mI y8.2.2.2.2.2)])), (1000001, (oF y2.2.2.1)), (3002000, (oQ y2.2.1)), (1000003, (oS y2.1)), (1000002, .gen gone)] kr ?_))))
       refine oN (nT (v_ret ?_))
       obtain rfl := si hs
       exact fin_ret kr kr kr
   ·rename_i y1; replace hs := orO_some c1 hs
    refine o_loc (F := (dH (bD 1000002 ((d_queue).length) [iI d_lost, .bool d_down, iI d_armed, .vs 1 (mI d_keep)]) d_files d_queue d_set)) (F' := (dH (bD 1000002 ((d_queue).length) [iI y1.2.1, .bool y1.2.2.1, iI y1.2.2.2.1, .vs 1 (mI y1.2.2.2.2)]) d_files d_queue d_set)) (v := iI y1.1) kD kr kr rfl kr (loc_g (R := []) [pO, iI file] rD (callV_func hbv34 kr) (w_disk_Disk_Sync_n d_files d_queue d_set d_lost d_down d_armed d_keep file _ c1) vw2 kr kr kr kr kr kr kr kr) kr ?_
    refine oR 1 [(6, iI y1.1)] kr ?_
    refine oN (nT (vS (vT (oR 2 [(22, .bool (!(decide (y1.1 = 0)))), (21, iI y1.1)] kr ?_))))
    refine oN (nT ?_)
    refine v_cond (!(decide (y1.1 = 0))) kr (fun h10 => ?_) (fun h10 => ?_)
    ·replace hs := bif_t h10 hs
     cases hs
    ·replace hs := bif_f h10 hs
     refine vK (nT (vS (vT (oR 4 [(28, iI file), (27, pO), (26, iI file), (25, pO)] kr ?_))))
     obtain ⟨y13, c13, hs⟩ := bS hs
     refine o_loc (F := (dH (bD 1000002 ((d_queue).length) [iI y1.2.1, .bool y1.2.2.1, iI y1.2.2.2.1, .vs 1 (mI y1.2.2.2.2)]) d_files d_queue d_set)) (F' := [(1000001, (oF d_files)), (1000000, (bD 1000002 ((d_queue).length) [iI y13.2.1, .bool y13.2.2.1, iI y13.2.2.2.1, .vs 1 (mI y13.2.2.2.2)])), (1000002, (oQ d_queue)), (1000003, (oS d_set))]) (v := iI y13.1) kD kr kr rfl kr (loc_g (R := []) [pO, iI file] rD (callV_func hbv12 kr) (w_disk_Disk_Size d_files d_queue d_set y1.2.1 y1.2.2.1 y1.2.2.2.1 y1.2.2.2.2 file _ c13) vw2 kr kr kr kr kr kr kr kr) kr ?_
     obtain ⟨y14, c14, hs⟩ := bS hs
     refine o_loc (F := (dH (bD 1000002 ((d_queue).length) [iI y13.2.1, .bool y13.2.2.1, iI y13.2.2.2.1, .vs 1 (mI y13.2.2.2.2)]) d_files d_queue d_set)) (F' := (dH (bD 1000002 ((d_queue).length) [iI y14.2.2.1, .bool y14.2.2.2.1, iI y14.2.2.2.2.1, .vs 1 (mI y14.2.2.2.2.2)]) d_files d_queue d_set)) (v := .tup [.str y14.1, iI y14.2.1]) kD kr kr rfl kr (loc_g (R := []) [pO, iI file, iI 0, iI y13.1] rD (callV_func hbv13 kr) (w_disk_Disk_Read d_files d_queue d_set y13.2.1 y13.2.2.1 y13.2.2.2.1 y13.2.2.2.2 file 0 y13.1 _ c14) (.cons (.same _) vw3) kr kr kr kr kr kr kr kr) kr ?_
     refine oR 5 [(8, iI y14.2.1), (7, .str y14.1), (32, iI y14.2.1), (31, .str y14.1), (24, .tup [.str y14.1, iI y14.2.1])] kr ?_
     refine oN (nT (vS (vS (vT (oR 2 [(34, .bool (!(decide (y14.2.1 = 0)))), (33, iI y14.2.1)] kr ?_)))))
     refine oN (nT ?_)
     refine v_cond (!(decide (y14.2.1 = 0))) kr (fun h11 => ?_) (fun h11 => ?_)
     ·replace hs := bif_t h11 hs
      cases hs
     ·replace hs := bif_f h11 hs
      refine vK (nT (vS (vT (oR 1 [(37, .str y14.1)] kr ?_))))
      obtain ⟨y15, c15, hs⟩ := bS hs
      refine o_loc (F := (gO ob0 ob1 ob2 u1 u2)) (F' := [(3003800, .row 9 1 0 (mS y15.2)), (900000000, gl0 ob0), (900000001, gl1 ob1 u1), (900000002, gl2 ob2 u2)]) (v := .tup [.sl 1 3003800 ((y15.2).length) 0 ((y15.2).length), iI y15.1]) kG kr kr rfl kr (loc_g (R := []) [.str y14.1] [(900000000, 900000000), (900000001, 900000001), (900000002, 900000002), (2000048, 3003800)] (callV_func hbv35 kr) (w_journal_read (ob0 := ob0) (ob1 := ob1) (ob2 := ob2) (u1 := u1) (u2 := u2) y14.1 _ c15) (.cons (.same _) (.nil)) kr kr kr kr kr kr kr kr) kr ?_
      refine oR 5 [(10, iI y15.1), (9, .sl 1 3003800 ((y15.2).length) 0 ((y15.2).length)), (40, iI y15.1), (39, .sl 1 3003800 ((y15.2).length) 0 ((y15.2).length)), (36, .tup [.sl 1 3003800 ((y15.2).length) 0 ((y15.2).length), iI y15.1])] kr ?_
      refine oN (nT (vS (vS (vT (oR 4 [(44, .bool (decide (y15.1 < (List.length y14.1 : Int)))), (43, iI (List.length y14.1 : Int)), (42, .str y14.1), (41, iI y15.1)] kr ?_)))))
      refine oN (nT ?_)
      refine v_cond (decide (y15.1 < (List.length y14.1 : Int))) kr (fun h12 => ?_) (fun h12 => ?_)
      ·replace hs := bif_t h12 hs
       refine vS (vT (oR 3 [(47, iI y15.1), (46, iI file), (45, pO)] kr ?_))
       cases c16 : (s_disk_Disk_Truncate_n d_files d_queue d_set y14.2.2.1 y14.2.2.2.1 y14.2.2.2.2.1 y14.2.2.2.2.2 file y15.1)
       ·replace hs := orO_none c16 hs
        cases c17 : (s_disk_Disk_Truncate_s d_files d_queue d_set y14.2.2.1 y14.2.2.2.1 y14.2.2.2.2.1 y14.2.2.2.2.2 file y15.1)
        ·replace hs := orO_none c17 hs
         cases c18 : (s_disk_Disk_Truncate_x d_files d_queue d_set y14.2.2.1 y14.2.2.2.1 y14.2.2.2.2.1 y14.2.2.2.2.2 file y15.1)
         ·replace hs := orO_none c18 hs
          cases hs
         ·rename_i y18; replace hs := orO_some c18 hs
          refine o_loc (F := (dH (bD 1000002 ((d_queue).length) [iI y14.2.2.1, .bool y14.2.2.2.1, iI y14.2.2.2.2.1, .vs 1 (mI y14.2.2.2.2.2)]) d_files d_queue d_set)) (F' := [(1000000, .box 64 [.mp 1000001, .nils, .mp 3004800, iI y18.2.1, .bool y18.2.2.1, iI y18.2.2.2.1, .vs 1 (mI y18.2.2.2.2.1)]), (1000001, (oF y18.2.2.2.2.2)), (3004800, (oS [])), (1000002, (oQ d_queue)), (1000003, (oS d_set))]) (v := iI y18.1) kD kr kr rfl kr (loc_g (R := []) [pO, iI file, iI y15.1] [(1000000, 1000000), (1000001, 1000001), (1000002, 1000002), (1000003, 1000003), (3001500, 3004800)] (callV_func hbv36 kr) (w_disk_Disk_Truncate_x d_files d_queue d_set y14.2.2.1 y14.2.2.2.1 y14.2.2.2.2.1 y14.2.2.2.2.2 file y15.1 _ c18) vw3 kr kr kr kr kr kr kr kr) kr ?_
          refine oR 1 [(11, iI y18.1)] kr ?_
          refine oN (nT (vS (vT (oR 2 [(50, .bool (!(decide (y18.1 = 0)))), (49, iI y18.1)] kr ?_))))
          refine oN (nT ?_)
          refine v_cond (!(decide (y18.1 = 0))) kr (fun h13 => ?_) (fun h13 => ?_)
          ·replace hs := bif_t h13 hs
           cases hs
          ·replace hs := bif_f h13 hs
           cases hs
        ·rename_i y17; replace hs := orO_some c17 hs
         cases hs
       ·rename_i y16; replace hs := orO_some c16 hs
        refine o_loc (F := (dH (bD 1000002 ((d_queue).length) [iI y14.2.2.1, .bool y14.2.2.2.1, iI y14.2.2.2.2.1, .vs 1 (mI y14.2.2.2.2.2)]) d_files d_queue d_set)) (F' := (dH (bD 1000002 ((d_queue).length) [iI y16.2.1, .bool y16.2.2.1, iI y16.2.2.2.1, .vs 1 (mI y16.2.2.2.2)]) d_files d_queue d_set)) (v := iI y16.1) kD kr kr rfl kr (loc_g (R := []) [pO, iI file, iI y15.1] rD (callV_func hbv36 kr) (w_disk_Disk_Truncate_n d_files d_queue d_set y14.2.2.1 y14.2.2.2.1 y14.2.2.2.2.1 y14.2.2.2.2.2 file y15.1 _ c16) vw3 kr kr kr kr kr kr kr kr) kr ?_
        refine oR 1 [(11, iI y16.1)] kr ?_
        refine oN (nT (vS (vT (oR 2 [(50, .bool (!(decide (y16.1 = 0)))), (49, iI y16.1)] kr ?_))))
        refine oN (nT ?_)
        refine v_cond (!(decide (y16.1 = 0))) kr (fun h14 => ?_) (fun h14 => ?_)
        ·replace hs := bif_t h14 hs
         cases hs
        ·replace hs := bif_f h14 hs
         cases hs
      ·replace hs := bif_f h12 hs
       cases hs
theorem w_journal_Open_p2 (d_files : (List (Int × disk_file))) (d_queue : (List disk_sector)) (d_set : (List (disk_sector × Bool))) (d_lost : Int) (d_down : Bool) (d_armed : Int) (d_keep : (List Int)) (file : Int) (r : Int × Int × (List (disk_sector × Bool)) × (List disk_sector) × (List (Int × disk_file)) × Int × Bool × Int × (List Int) × (List (List UInt8))) (hs : s_journal_Open_p2 d_files d_queue d_set d_lost d_down d_armed d_keep file = some r) : FnA Tryd.prog 10 [pO, iI file] [(1000000, (bD 1000002 ((d_queue).length) [iI d_lost, .bool d_down, iI d_armed, .vs 1 (mI d_keep)])), (1000001, (oF d_files)), (1000002, (oQ d_queue)), (1000003, (oS d_set)), (900000000, gl0 ob0), (900000001, gl1 ob1 u1), (900000002, gl2 ob2 u2)] (.tup [.ptr 57 0 0, iI 0]) [(57, .box 70 [pO, iI r.1, .sl 1 3003800 ((r.2.2.2.2.2.2.2.2.2).length) 0 ((r.2.2.2.2.2.2.2.2.2).length), iI r.2.1, .bool false]), (1000003, (oS r.2.2.1)), (3004800, (oQ r.2.2.2.1)), (1000001, (oF r.2.2.2.2.1)), (1000000, (bD 3004800 ((r.2.2.2.1).length) [iI r.2.2.2.2.2.1, .bool r.2.2.2.2.2.2.1, iI r.2.2.2.2.2.2.2.1, .vs 1 (mI r.2.2.2.2.2.2.2.2.1)])), (3003800, .row 9 1 0 (mS r.2.2.2.2.2.2.2.2.2)), (1000002, .gen gone), (900000000, gl0 ob0), (900000001, gl1 ob1 u1), (900000002, gl2 ob2 u2)] := by
 refine fnA_of_wp (N := 58) Tryd.func10 rfl rfl rfl fun cK0 => ?_
 unfold s_journal_Open_p2 at hs
 refine v_same (ρ' := [(0, pO), (1, iI file)]) rfl rfl ?_
 refine vS (vT (oR 2 [(5, iI 0), (4, .nilp)] kr ?_))
 refine oN (nT (vS (vS ?_)))
 obtain ⟨z1, hs, hk1⟩ := bS hs
 refine v_join (S := Bool) (fun u => u = z1) (fun u => [(0, pO), (1, iI file), (17, .bool u)]) (fun u => [(1000000, (bD 1000002 ((d_queue).length) [iI d_lost, .bool d_down, iI d_armed, .vs 1 (mI d_keep)])), (1000001, (oF d_files)), (1000002, (oQ d_queue)), (1000003, (oS d_set)), (900000000, gl0 ob0), (900000001, gl1 ob1 u1), (900000002, gl2 ob2 u2)]) ?_ (fun v1 hz => ?_)
 ·refine vT (oR 3 [(14, .bool (decide (file < 0))), (13, .bool (decide (file < 0))), (12, iI file)] kr ?_)
  cases h1 : ((decide (file < 0)))
  ·replace hs := bif_f h1 hs
   refine oR 3 [(17, .bool (decide (file > 15))), (16, .bool (decide (file > 15))), (15, iI file)] kr ?_
   refine oN ?_
   obtain rfl := si hs
   refine nrm_join (decide (file > 15)) rfl ?_
   exact cut_of [0, 1, 17] [1000000, 1000001, 1000002, 1000003, 900000000, 900000001, 900000002] kr kr kr
  ·replace hs := bif_t h1 hs
   refine oR 3 [(17, .bool true), (16, .no), (15, .no)] kr ?_
   refine oN ?_
   obtain rfl := si hs
   refine nrm_join true rfl ?_
   exact cut_of [0, 1, 17] [1000000, 1000001, 1000002, 1000003, 900000000, 900000001, 900000002] kr kr kr
 ·subst hz; clear hs; have hs := hk1; clear hk1
  refine nT ?_
  refine v_cond v1 kr (fun h2 => ?_) (fun h2 => ?_)
  ·replace hs := bif_t h2 hs
   cases hs
  ·replace hs := bif_f h2 hs
   refine vK (nT (vS (vS (vT (oR 2 [(19, iI file), (18, pO)] kr ?_)))))
   cases c1 : (s_disk_Disk_Sync_n d_files d_queue d_set d_lost d_down d_armed d_keep file)
   ·replace hs := orO_none c1 hs
    cases c2 : (s_disk_Disk_Sync_s d_files d_queue d_set d_lost d_down d_armed d_keep file)
    ·replace hs := orO_none c2 hs
     cases c3 : (s_disk_Disk_Sync_x d_files d_queue d_set d_lost d_down d_armed d_keep file)
     ·replace hs := orO_none c3 hs
      cases hs
     ·rename_i y3; replace hs := orO_some c3 hs
      refine o_loc (F := (dH (bD 1000002 ((d_queue).length) [iI d_lost, .bool d_down, iI d_armed, .vs 1 (mI d_keep)]) d_files d_queue d_set)) (F' := [(1000000, .box 64 [.mp 1000001, .nils, .mp 3002000, iI y3.2.1, .bool y3.2.2.1, iI y3.2.2.2.1, .vs 1 (mI y3.2.2.2.2.1)]), (1000001, (oF y3.2.2.2.2.2)), (3002000, (oS [])), (1000002, (oQ d_queue)), (1000003, (oS d_set))]) (v := iI y3.1) kD kr kr rfl kr (loc_g (R := []) [pO, iI file] [(1000000, 1000000), (1000001, 1000001), (1000002, 1000002), (1000003, 1000003), (3001300, 3002000)] (callV_func hbv34 kr) (w_disk_Disk_Sync_x d_files d_queue d_set d_lost d_down d_armed d_keep file _ c3) vw2 kr kr kr kr kr kr kr kr) kr ?_
      refine oR 1 [(6, iI y3.1)] kr ?_
      refine oN (nT (vS (vT (oR 2 [(22, .bool (!(decide (y3.1 = 0)))), (21, iI y3.1)] kr ?_))))
      refine oN (nT ?_)
      refine v_cond (!(decide (y3.1 = 0))) kr (fun h3 => ?_) (fun h3 => ?_)
      ·replace hs := bif_t h3 hs
       cases hs
      ·replace hs := bif_f h3 hs
       refine vK (nT (vS (vT (oR 4 [(28, iI file), (27, pO), (26, iI file), (25, pO)] kr ?_))))
       obtain ⟨y4, c4, hs⟩ := bS hs
       refine o_loc (F := [(1000000, .box 64 [.mp 1000001, .nils, .mp 3002000, iI y3.2.1, .bool y3.2.2.1, iI y3.2.2.2.1, .vs 1 (mI y3.2.2.2.2.1)]), (1000001, (oF y3.2.2.2.2.2)), (3002000, (oS []))]) (F' := [(1000001, (oF y3.2.2.2.2.2)), (1000000, .box 64 [.mp 1000001, .nils, .mp 3002000, iI y4.2.1, .bool y4.2.2.1, iI y4.2.2.2.1, .vs 1 (mI y4.2.2.2.2)]), (3002000, (oS []))]) (v := iI y4.1) [1000000, 1000001, 3002000] kr kr rfl kr (loc_g (R := []) [pO, iI file] [(1000000, 1000000), (1000001, 1000001), (1000002, 3002000)] (callV_func hbv12 kr) (w_disk_Disk_Size_2 y3.2.2.2.2.2 [] y3.2.1 y3.2.2.1 y3.2.2.2.1 y3.2.2.2.2.1 file _ c4) vw2 kr kr kr kr kr kr kr kr) kr ?_
       obtain ⟨y5, c5, hs⟩ := bS hs
       refine o_loc (F := [(1000000, .box 64 [.mp 1000001, .nils, .mp 3002000, iI y4.2.1, .bool y4.2.2.1, iI y4.2.2.2.1, .vs 1 (mI y4.2.2.2.2)]), (1000001, (oF y3.2.2.2.2.2)), (3002000, (oS []))]) (F' := [(1000000, .box 64 [.mp 1000001, .nils, .mp 3002000, iI y5.2.2.1, .bool y5.2.2.2.1, iI y5.2.2.2.2.1, .vs 1 (mI y5.2.2.2.2.2)]), (1000001, (oF y3.2.2.2.2.2)), (3002000, (oS []))]) (v := .tup [.str y5.1, iI y5.2.1]) [1000000, 1000001, 3002000] kr kr rfl kr (loc_g (R := []) [pO, iI file, iI 0, iI y4.1] [(1000000, 1000000), (1000001, 1000001), (1000002, 3002000)] (callV_func hbv13 kr) (w_disk_Disk_Read_2 y3.2.2.2.2.2 [] y4.2.1 y4.2.2.1 y4.2.2.2.1 y4.2.2.2.2 file 0 y4.1 _ c5) (.cons (.same _) vw3) kr kr kr kr kr kr kr kr) kr ?_
       refine oR 5 [(8, iI y5.2.1), (7, .str y5.1), (32, iI y5.2.1), (31, .str y5.1), (24, .tup [.str y5.1, iI y5.2.1])] kr ?_
       refine oN (nT (vS (vS (vT (oR 2 [(34, .bool (!(decide (y5.2.1 = 0)))), (33, iI y5.2.1)] kr ?_)))))
       refine oN (nT ?_)
       refine v_cond (!(decide (y5.2.1 = 0))) kr (fun h4 => ?_) (fun h4 => ?_)
       ·replace hs := bif_t h4 hs
        cases hs
       ·replace hs := bif_f h4 hs
        refine vK (nT (vS (vT (oR 1 [(37, .str y5.1)] kr ?_))))
        obtain ⟨y6, c6, hs⟩ := bS hs
        refine o_loc (F := (gO ob0 ob1 ob2 u1 u2)) (F' := [(3003800, .row 9 1 0 (mS y6.2)), (900000000, gl0 ob0), (900000001, gl1 ob1 u1), (900000002, gl2 ob2 u2)]) (v := .tup [.sl 1 3003800 ((y6.2).length) 0 ((y6.2).length), iI y6.1]) kG kr kr rfl kr (loc_g (R := []) [.str y5.1] [(900000000, 900000000), (900000001, 900000001), (900000002, 900000002), (2000048, 3003800)] (callV_func hbv35 kr) (w_journal_read (ob0 := ob0) (ob1 := ob1) (ob2 := ob2) (u1 := u1) (u2 := u2) y5.1 _ c6) (.cons (.same _) (.nil)) kr kr kr kr kr kr kr kr) kr ?_
        refine oR 5 [(10, iI y6.1), (9, .sl 1 3003800 ((y6.2).length) 0 ((y6.2).length)), (40, iI y6.1), (39, .sl 1 3003800 ((y6.2).length) 0 ((y6.2).length)), (36, .tup [.sl 1 3003800 ((y6.2).length) 0 ((y6.2).length), iI y6.1])] kr ?_
        refine oN (nT (vS (vS (vT (oR 4 [(44, .bool (decide (y6.1 < (List.length y5.1 : Int)))), (43, iI (List.length y5.1 : Int)), (42, .str y5.1), (41, iI y6.1)] kr ?_)))))
        refine oN (nT ?_)
        refine v_cond (decide (y6.1 < (List.length y5.1 : Int))) kr (fun h5 => ?_) (fun h5 => ?_)
        ·replace hs := bif_t h5 hs
         refine vS (vT (oR 3 [(47, iI y6.1), (46, iI file), (45, pO)] kr ?_))
         cases hs
        ·replace hs := bif_f h5 hs
         cases hs
    ·rename_i y2; replace hs := orO_some c2 hs
     refine o_loc (F := (dH (bD 1000002 ((d_queue).length) [iI d_lost, .bool d_down, iI d_armed, .vs 1 (mI d_keep)]) d_files d_queue d_set)) (F' := [(1000003, (oS y2.1)), (3002000, (oQ y2.2.1)), (1000002, .gen gone), (1000001, (oF y2.2.2.1)), (1000000, (bD 3002000 ((y2.2.1).length) [iI y2.2.2.2.1, .bool y2.2.2.2.2.1, iI y2.2.2.2.2.2.1, .vs 1 (mI y2.2.2.2.2.2.2)]))]) (v := iI 0) kD kr kr rfl kr (loc_g (R := []) [pO, iI file] [(1000000, 1000000), (1000001, 1000001), (1000002, 1000002), (1000003, 1000003), (3004100, 3002000)] (callV_func hbv34 kr) (w_disk_Disk_Sync_s d_files d_queue d_set d_lost d_down d_armed d_keep file _ c2) vw2 kr kr kr kr kr kr kr kr) kr ?_
     refine oR 1 [(6, iI 0)] kr ?_
     refine oN (nT (vS (vT (oR 2 [(22, .bool false), (21, iI 0)] kr ?_))))
     refine oN (nT (v_cond_f kr ?_))
     refine vK (nT (vS (vT (oR 4 [(28, iI file), (27, pO), (26, iI file), (25, pO)] kr ?_))))
     obtain ⟨y7, c7, hs⟩ := bS hs
     refine o_loc (F := [(1000000, (bD 3002000 ((y2.2.1).length) [iI y2.2.2.2.1, .bool y2.2.2.2.2.1, iI y2.2.2.2.2.2.1, .vs 1 (mI y2.2.2.2.2.2.2)])), (1000001, (oF y2.2.2.1)), (3002000, (oQ y2.2.1)), (1000003, (oS y2.1))]) (F' := [(1000001, (oF y2.2.2.1)), (1000000, (bD 3002000 ((y2.2.1).length) [iI y7.2.1, .bool y7.2.2.1, iI y7.2.2.2.1, .vs 1 (mI y7.2.2.2.2)])), (3002000, (oQ y2.2.1)), (1000003, (oS y2.1))]) (v := iI y7.1) [1000000, 1000001, 3002000, 1000003] kr kr rfl kr (loc_g (R := []) [pO, iI file] [(1000000, 1000000), (1000001, 1000001), (1000002, 3002000), (1000003, 1000003)] (callV_func hbv12 kr) (w_disk_Disk_Size y2.2.2.1 y2.2.1 y2.1 y2.2.2.2.1 y2.2.2.2.2.1 y2.2.2.2.2.2.1 y2.2.2.2.2.2.2 file _ c7) vw2 kr kr kr kr kr kr kr kr) kr ?_
     obtain ⟨y8, c8, hs⟩ := bS hs
     refine o_loc (F := [(1000000, (bD 3002000 ((y2.2.1).length) [iI y7.2.1, .bool y7.2.2.1, iI y7.2.2.2.1, .vs 1 (mI y7.2.2.2.2)])), (1000001, (oF y2.2.2.1)), (3002000, (oQ y2.2.1)), (1000003, (oS y2.1))]) (F' := [(1000000, (bD 3002000 ((y2.2.1).length) [iI y8.2.2.1, .bool y8.2.2.2.1, iI y8.2.2.2.2.1, .vs 1 (mI y8.2.2.2.2.2)])), (1000001, (oF y2.2.2.1)), (3002000, (oQ y2.2.1)), (1000003, (oS y2.1))]) (v := .tup [.str y8.1, iI y8.2.1]) [1000000, 1000001, 3002000, 1000003] kr kr rfl kr (loc_g (R := []) [pO, iI file, iI 0, iI y7.1] [(1000000, 1000000), (1000001, 1000001), (1000002, 3002000), (1000003, 1000003)] (callV_func hbv13 kr) (w_disk_Disk_Read y2.2.2.1 y2.2.1 y2.1 y7.2.1 y7.2.2.1 y7.2.2.2.1 y7.2.2.2.2 file 0 y7.1 _ c8) (.cons (.same _) vw3) kr kr kr kr kr kr kr kr) kr ?_
     refine oR 5 [(8, iI y8.2.1), (7, .str y8.1), (32, iI y8.2.1), (31, .str y8.1), (24, .tup [.str y8.1, iI y8.2.1])] kr ?_
     refine oN (nT (vS (vS (vT (oR 2 [(34, .bool (!(decide (y8.2.1 = 0)))), (33, iI y8.2.1)] kr ?_)))))
     refine oN (nT ?_)
     refine v_cond (!(decide (y8.2.1 = 0))) kr (fun h6 => ?_) (fun h6 => ?_)
     ·replace hs := bif_t h6 hs
      cases hs
     ·replace hs := bif_f h6 hs
      refine vK (nT (vS (vT (oR 1 [(37, .str y8.1)] kr ?_))))
      obtain ⟨y9, c9, hs⟩ := bS hs
      refine o_loc (F := (gO ob0 ob1 ob2 u1 u2)) (F' := [(3003800, .row 9 1 0 (mS y9.2)), (900000000, gl0 ob0), (900000001, gl1 ob1 u1), (900000002, gl2 ob2 u2)]) (v := .tup [.sl 1 3003800 ((y9.2).length) 0 ((y9.2).length), iI y9.1]) kG kr kr rfl kr (loc_g (R := []) [.str y8.1] [(900000000, 900000000), (900000001, 900000001), (900000002, 900000002), (2000048, 3003800)] (callV_func hbv35 kr) (w_journal_read (ob0 := ob0) (ob1 := ob1) (ob2 := ob2) (u1 := u1) (u2 := u2) y8.1 _ c9) (.cons (.same _) (.nil)) kr kr kr kr kr kr kr kr) kr ?_
      refine oR 5 [(10, iI y9.1), (9, .sl 1 3003800 ((y9.2).length) 0 ((y9.2).length)), (40, iI y9.1), (39, .sl 1 3003800 ((y9.2).length) 0 ((y9.2).length)), (36, .tup [.sl 1 3003800 ((y9.2).length) 0 ((y9.2).length), iI y9.1])] kr ?_
      refine oN (nT (vS (vS (vT (oR 4 [(44, .bool (decide (y9.1 < (List.length y8.1 : Int)))), (43, iI (List.length y8.1 : Int)), (42, .str y8.1), (41, iI y9.1)] kr ?_)))))
      refine oN (nT ?_)
      refine v_cond (decide (y9.1 < (List.length y8.1 : Int))) kr (fun h7 => ?_) (fun h7 => ?_)
      ·replace hs := bif_t h7 hs
       refine vS (vT (oR 3 [(47, iI y9.1), (46, iI file), (45, pO)] kr ?_))
       cases c10 : (s_disk_Disk_Truncate_n y2.2.2.1 y2.2.1 y2.1 y8.2.2.1 y8.2.2.2.1 y8.2.2.2.2.1 y8.2.2.2.2.2 file y9.1)
       ·replace hs := orO_none c10 hs
        cases c11 : (s_disk_Disk_Truncate_s y2.2.2.1 y2.2.1 y2.1 y8.2.2.1 y8.2.2.2.1 y8.2.2.2.2.1 y8.2.2.2.2.2 file y9.1)
        ·replace hs := orO_none c11 hs
         cases c12 : (s_disk_Disk_Truncate_x y2.2.2.1 y2.2.1 y2.1 y8.2.2.1 y8.2.2.2.1 y8.2.2.2.2.1 y8.2.2.2.2.2 file y9.1)
         ·replace hs := orO_none c12 hs
          cases hs
         ·rename_i y12; replace hs := orO_some c12 hs
          refine o_loc (F := [(1000000, (bD 3002000 ((y2.2.1).length) [iI y8.2.2.1, .bool y8.2.2.2.1, iI y8.2.2.2.2.1, .vs 1 (mI y8.2.2.2.2.2)])), (1000001, (oF y2.2.2.1)), (3002000, (oQ y2.2.1)), (1000003, (oS y2.1))]) (F' := [(1000000, .box 64 [.mp 1000001, .nils, .mp 3004800, iI y12.2.1, .bool y12.2.2.1, iI y12.2.2.2.1, .vs 1 (mI y12.2.2.2.2.1)]), (1000001, (oF y12.2.2.2.2.2)), (3004800, (oS [])), (3002000, (oQ y2.2.1)), (1000003, (oS y2.1))]) (v := iI y12.1) [1000000, 1000001, 3002000, 1000003] kr kr rfl kr (loc_g (R := []) [pO, iI file, iI y9.1] [(1000000, 1000000), (1000001, 1000001), (1000002, 3002000), (1000003, 1000003), (3001500, 3004800)] (callV_func hbv36 kr) (w_disk_Disk_Truncate_x y2.2.2.1 y2.2.1 y2.1 y8.2.2.1 y8.2.2.2.1 y8.2.2.2.2.1 y8.2.2.2.2.2 file y9.1 _ c12) vw3 kr kr kr kr kr kr kr kr) kr ?_
          refine oR 1 [(11, iI y12.1)] kr ?_
          refine oN (nT (vS (vT (oR 2 [(50, .bool (!(decide (y12.1 = 0)))), (49, iI y12.1)] kr ?_))))
          refine oN (nT ?_)
          refine v_cond (!(decide (y12.1 = 0))) kr (fun h8 => ?_) (fun h8 => ?_)
          ·replace hs := bif_t h8 hs
           cases hs
          ·replace hs := bif_f h8 hs
           cases hs
        ·rename_i y11; replace hs := orO_some c11 hs
         refine o_loc (F := [(1000000, (bD 3002000 ((y2.2.1).length) [iI y8.2.2.1, .bool y8.2.2.2.1, iI y8.2.2.2.2.1, .vs 1 (mI y8.2.2.2.2.2)])), (1000001, (oF y2.2.2.1)), (3002000, (oQ y2.2.1)), (1000003, (oS y2.1))]) (F' := [(1000003, (oS y11.1)), (3004800, (oQ y11.2.1)), (3002000, .gen gone), (1000001, (oF y11.2.2.1)), (1000000, (bD 3004800 ((y11.2.1).length) [iI y11.2.2.2.1, .bool y11.2.2.2.2.1, iI y11.2.2.2.2.2.1, .vs 1 (mI y11.2.2.2.2.2.2)]))]) (v := iI 0) [1000000, 1000001, 3002000, 1000003] kr kr rfl kr (loc_g (R := []) [pO, iI file, iI y9.1] [(1000000, 1000000), (1000001, 1000001), (1000002, 3002000), (1000003, 1000003), (3004200, 3004800)] (callV_func hbv36 kr) (w_disk_Disk_Truncate_s y2.2.2.1 y2.2.1 y2.1 y8.2.2.1 y8.2.2.2.1 y8.2.2.2.2.1 y8.2.2.2.2.2 file y9.1 _ c11) vw3 kr kr kr kr kr kr kr kr) kr ?_
         refine oR 1 [(11, iI 0)] kr ?_
         refine oN (nT (vS (vT (oR 2 [(50, .bool false), (49, iI 0)] kr ?_))))
         refine oN (nT (v_cond_f kr ?_))
         refine vK (nT (vS (vT (o_runh 8 [(5, iI 0), (4, .ptr 57 0 0), (57, .ptr 57 0 0), (56, .agg [pO, iI file, .sl 1 3003800 ((y9.2).length) 0 ((y9.2).length), iI y9.1, .bool false]), (55, iI y9.1), (54, .sl 1 3003800 ((y9.2).length) 0 ((y9.2).length)), (53, iI file), (52, pO)] [(57, .box 70 [pO, iI file, .sl 1 3003800 ((y9.2).length) 0 ((y9.2).length), iI y9.1, .bool false]), (1000003, (oS y11.1)), (3004800, (oQ y11.2.1)), (3002000, .gen gone), (1000001, (oF y11.2.2.1)), (1000000, (bD 3004800 ((y11.2.1).length) [iI y11.2.2.2.1, .bool y11.2.2.2.2.1, iI y11.2.2.2.2.2.1, .vs 1 (mI y11.2.2.2.2.2.2)])), (3003800, .row 9 1 0 (mS y9.2)), (900000000, gl0 ob0), (900000001, gl1 ob1 u1), (900000002, gl2 ob2 u2), (1000002, .gen gone)] kr ?_))))
         refine oN (nT (v_ret ?_))
         obtain rfl := si hs
         exact fin_ret kr kr kr
       ·rename_i y10; replace hs := orO_some c10 hs
        refine o_loc (F := [(1000000, (bD 3002000 ((y2.2.1).length) [iI y8.2.2.1, .bool y8.2.2.2.1, iI y8.2.2.2.2.1, .vs 1 (mI y8.2.2.2.2.2)])), (1000001, (oF y2.2.2.1)), (3002000, (oQ y2.2.1)), (1000003, (oS y2.1))]) (F' := [(1000000, (bD 3002000 ((y2.2.1).length) [iI y10.2.1, .bool y10.2.2.1, iI y10.2.2.2.1, .vs 1 (mI y10.2.2.2.2)])), (1000001, (oF y2.2.2.1)), (3002000, (oQ y2.2.1)), (1000003, (oS y2.1))]) (v := iI y10.1) [1000000, 1000001, 3002000, 1000003] kr kr rfl kr (loc_g (R := []) [pO, iI file, iI y9.1] [(1000000, 1000000), (1000001, 1000001), (1000002, 3002000), (1000003, 1000003)] (callV_func hbv36 kr) (w_disk_Disk_Truncate_n y2.2.2.1 y2.2.1 y2.1 y8.2.2.1 y8.2.2.2.1 y8.2.2.2.2.1 y8.2.2.2.2.2 file y9.1 _ c10) vw3 kr kr kr kr kr kr kr kr) kr ?_
        refine oR 1 [(11, iI y10.1)] kr ?_
        refine oN (nT (vS (vT (oR 2 [(50, .bool (!(decide (y10.1 = 0)))), (49, iI y10.1)] kr ?_))))
        refine oN (nT ?_)
        refine v_cond (!(decide (y10.1 = 0))) kr (fun h9 => ?_) (fun h9 => ?_)
        ·replace hs := bif_t h9 hs
         cases hs
        ·replace hs := bif_f h9 hs
         cases hs
      ·replace hs := bif_f h7 hs
       cases hs
   ·rename_i y1; replace hs := orO_some c1 hs
    refine o_loc (F := (dH (bD 1000002 ((d_queue).length) [iI d_lost, .bool d_down, iI d_armed, .vs 1 (mI d_keep)]) d_files d_queue d_set)) (F' := (dH (bD 1000002 ((d_queue).length) [iI y1.2.1, .bool y1.2.2.1, iI y1.2.2.2.1, .vs 1 (mI y1.2.2.2.2)]) d_files d_queue d_set)) (v := iI y1.1) kD kr kr rfl kr (loc_g (R := []) [pO, iI file] rD (callV_func hbv34 kr) (w_disk_Disk_Sync_n d_files d_queue d_set d_lost d_down d_armed d_keep file _ c1) vw2 kr kr kr kr kr kr kr kr) kr ?_
    refine oR 1 [(6, iI y1.1)] kr ?_
    refine oN (nT (vS (vT (oR 2 [(22, .bool (!(decide (y1.1 = 0)))), (21, iI y1.1)] kr ?_))))
    refine oN (nT ?_)
    refine v_cond (!(decide (y1.1 = 0))) kr (fun h10 => ?_) (fun h10 => ?_)
    ·replace hs := bif_t h10 hs
     cases hs
    ·replace hs := bif_f h10 hs
     refine vK (nT (vS (vT (oR 4 [(28, iI file), (27, pO), (26, iI file), (25, pO)] kr ?_))))
     obtain ⟨y13, c13, hs⟩ := bS hs
     refine o_loc (F := (dH (bD 1000002 ((d_queue).length) [iI y1.2.1, .bool y1.2.2.1, iI y1.2.2.2.1, .vs 1 (mI y1.2.2.2.2)]) d_files d_queue d_set)) (F' := [(1000001, (oF d_files)), (1000000, (bD 1000002 ((d_queue).length) [iI y13.2.1, .bool y13.2.2.1, iI y13.2.2.2.1, .vs 1 (mI y13.2.2.2.2)])), (1000002, (oQ d_queue)), (1000003, (oS d_set))]) (v := iI y13.1) kD kr kr rfl kr (loc_g (R := []) [pO, iI file] rD (callV_func hbv12 kr) (w_disk_Disk_Size d_files d_queue d_set y1.2.1 y1.2.2.1 y1.2.2.2.1 y1.2.2.2.2 file _ c13) vw2 kr kr kr kr kr kr kr kr) kr ?_
     obtain ⟨y14, c14, hs⟩ := bS hs
     refine o_loc (F := (dH (bD 1000002 ((d_queue).length) [iI y13.2.1, .bool y13.2.2.1, iI y13.2.2.2.1, .vs 1 (mI y13.2.2.2.2)]) d_files d_queue d_set)) (F' := (dH (bD 1000002 ((d_queue).length) [iI y14.2.2.1, .bool y14.2.2.2.1, iI y14.2.2.2.2.1, .vs 1 (mI y14.2.2.2.2.2)]) d_files d_queue d_set)) (v := .tup [.str y14.1, iI y14.2.1]) kD kr kr rfl kr (loc_g (R := []) [pO, iI file, iI 0, iI y13.1] rD (callV_func hbv13 kr) (w_disk_Disk_Read d_files d_queue d_set y13.2.1 y13.2.2.1 y13.2.2.2.1 y13.2.2.2.2 file 0 y13.1 _ c14) (.cons (.same _) vw3) kr kr kr kr kr kr kr kr) kr ?_
     refine oR 5 [(8, iI y14.2.1), (7, .str y14.1), (32, iI y14.2.1), (31, .str y14.1), (24, .tup [.str y14.1, iI y14.2.1])] kr ?_
     refine oN (nT (vS (vS (vT (oR 2 [(34, .bool (!(decide (y14.2.1 = 0)))), (33, iI y14.2.1)] kr ?_)))))
     refine oN (nT ?_)
     refine v_cond (!(decide (y14.2.1 = 0))) kr (fun h11 => ?_) (fun h11 => ?_)
     ·replace hs := bif_t h11 hs
      cases hs
     ·replace hs := bif_f h11 hs
      refine vK (nT (vS (vT (oR 1 [(37, .str y14.1)] kr ?_))))
      obtain ⟨y15, c15, hs⟩ := bS hs
      refine o_loc (F := (gO ob0 ob1 ob2 u1 u2)) (F' := [(3003800, .row 9 1 0 (mS y15.2)), (900000000, gl0 ob0), (900000001, gl1 ob1 u1), (900000002, gl2 ob2 u2)]) (v := .tup [.sl 1 3003800 ((y15.2).length) 0 ((y15.2).length), iI y15.1]) kG kr kr rfl kr (loc_g (R := []) [.str y14.1] [(900000000, 900000000), (900000001, 900000001), (900000002, 900000002), (2000048, 3003800)] (callV_func hbv35 kr) (w_journal_read (ob0 := ob0) (ob1 := ob1) (ob2 := ob2) (u1 := u1) (u2 := u2) y14.1 _ c15) (.cons (.same _) (.nil)) kr kr kr kr kr kr kr kr) kr ?_
      refine oR 5 [(10, iI y15.1), (9, .sl 1 3003800 ((y15.2).length) 0 ((y15.2).length)), (40, iI y15.1), (39, .sl 1 3003800 ((y15.2).length) 0 ((y15.2).length)), (36, .tup [.sl 1 3003800 ((y15.2).length) 0 ((y15.2).length), iI y15.1])] kr ?_
      refine oN (nT (vS (vS (vT (oR 4 [(44, .bool (decide (y15.1 < (List.length y14.1 : Int)))), (43, iI (List.length y14.1 : Int)), (42, .str y14.1), (41, iI y15.1)] kr ?_)))))
      refine oN (nT ?_)
      refine v_cond (decide (y15.1 < (List.length y14.1 : Int))) kr (fun h12 => ?_) (fun h12 => ?_)
      ·replace hs := bif_t h12 hs
       refine vS (vT (oR 3 [(47, iI y15.1), (46, iI file), (45, pO)] kr ?_))
       cases c16 : (s_disk_Disk_Truncate_n d_files d_queue d_set y14.2.2.1 y14.2.2.2.1 y14.2.2.2.2.1 y14.2.2.2.2.2 file y15.1)
       ·replace hs := orO_none c16 hs
        cases c17 : (s_disk_Disk_Truncate_s d_files d_queue d_set y14.2.2.1 y14.2.2.2.1 y14.2.2.2.2.1 y14.2.2.2.2.2 file y15.1)
        ·replace hs := orO_none c17 hs
         cases c18 : (s_disk_Disk_Truncate_x d_files d_queue d_set y14.2.2.1 y14.2.2.2.1 y14.2.2.2.2.1 y14.2.2.2.2.2 file y15.1)
         ·replace hs := orO_none c18 hs
          cases hs
         ·rename_i y18; replace hs := orO_some c18 hs
          refine o_loc (F := (dH (bD 1000002 ((d_queue).length) [iI y14.2.2.1, .bool y14.2.2.2.1, iI y14.2.2.2.2.1, .vs 1 (mI y14.2.2.2.2.2)]) d_files d_queue d_set)) (F' := [(1000000, .box 64 [.mp 1000001, .nils, .mp 3004800, iI y18.2.1, .bool y18.2.2.1, iI y18.2.2.2.1, .vs 1 (mI y18.2.2.2.2.1)]), (1000001, (oF y18.2.2.2.2.2)), (3004800, (oS [])), (1000002, (oQ d_queue)), (1000003, (oS d_set))]) (v := iI y18.1) kD kr kr rfl kr (loc_g (R := []) [pO, iI file, iI y15.1] [(1000000, 1000000), (1000001, 1000001), (1000002, 1000002), (1000003, 1000003), (3001500, 3004800)] (callV_func hbv36 kr) (w_disk_Disk_Truncate_x d_files d_queue d_set y14.2.2.1 y14.2.2.2.1 y14.2.2.2.2.1 y14.2.2.2.2.2 file y15.1 _ c18) vw3 kr kr kr kr kr kr kr kr) kr ?_
          refine oR 1 [(11, iI y18.1)] kr ?_
          refine oN (nT (vS (vT (oR 2 [(50, .bool (!(decide (y18.1 = 0)))), (49, iI y18.1)] kr ?_))))
          refine oN (nT ?_)
          refine v_cond (!(decide (y18.1 = 0))) kr (fun h13 => ?_) (fun h13 => ?_)
          ·replace hs := bif_t h13 hs
           cases hs
          ·replace hs := bif_f h13 hs
           cases hs
        ·rename_i y17; replace hs := orO_some c17 hs
         cases hs
       ·rename_i y16; replace hs := orO_some c16 hs
        refine o_loc (F := (dH (bD 1000002 ((d_queue).length) [iI y14.2.2.1, .bool y14.2.2.2.1, iI y14.2.2.2.2.1, .vs 1 (mI y14.2.2.2.2.2)]) d_files d_queue d_set)) (F' := (dH (bD 1000002 ((d_queue).length) [iI y16.2.1, .bool y16.2.2.1, iI y16.2.2.2.1, .vs 1 (mI y16.2.2.2.2)]) d_files d_queue d_set)) (v := iI y16.1) kD kr kr rfl kr (loc_g (R := []) [pO, iI file, iI y15.1] rD (callV_func hbv36 kr) (w_disk_Disk_Truncate_n d_files d_queue d_set y14.2.2.1 y14.2.2.2.1 y14.2.2.2.2.1 y14.2.2.2.2.2 file y15.1 _ c16) vw3 kr kr kr kr kr kr kr kr) kr ?_
        refine oR 1 [(11, iI y16.1)] kr ?_
        refine oN (nT (vS (vT (oR 2 [(50, .bool (!(decide (y16.1 = 0)))), (49, iI y16.1)] kr ?_))))
        refine oN (nT ?_)
        refine v_cond (!(decide (y16.1 = 0))) kr (fun h14 => ?_) (fun h14 => ?_)
        ·replace hs := bif_t h14 hs
         cases hs
        ·replace hs := bif_f h14 hs
         cases hs
      ·replace hs := bif_f h12 hs
       cases hs
end Go.Proofs.YtoflckochjijcaaDoor
