/- printed by gen2.py -/
import Derived.Test.YtbejhkfojiijmaaDoorD
set_option linter.all false
set_option maxRecDepth 100000
namespace Go.Proofs.YtbejhkfojiijmaaDoor
open Go Go.RowKit Go.Eng Go.EV
variable {ob0 ob1 ob2 : Go.Obj} {u1 u2 : TypeId}
structure greenbeltlaw01_Value where
  Kind : Int
  N : Int
  S : (List UInt8)
  L : (List Int)
  T : (List (List UInt8))
  deriving Inhabited, DecidableEq
def enc_greenbeltlaw01_Value (x : greenbeltlaw01_Value) : List V := [.int .i64 x.Kind, .int .i64 x.N, .str x.S, .vs 1 (List.map EV.encI x.L), .vs 1 (List.map EV.encS x.T)]
theorem hbv44 : hasBody Tryd.prog 44 := body_of (by kernel_rfl)
theorem hbv13 : hasBody Tryd.prog 13 := body_of (by kernel_rfl)
theorem hbv11 : hasBody Tryd.prog 11 := body_of (by kernel_rfl)
theorem hbv15 : hasBody Tryd.prog 15 := body_of (by kernel_rfl)
theorem noesc75 : NoEsc Tryd.prog 75 := ⟨_, Tryd.func75, by kernel_rfl, by kernel_rfl, by kernel_rfl, by kernel_rfl⟩
theorem hbv66 : hasBody Tryd.prog 66 := body_of (by kernel_rfl)
theorem hbv59 : hasBody Tryd.prog 59 := body_of (by kernel_rfl)
theorem mixedH : Tryd.prog.follows .mixedOrders = true := by kernel_rfl
theorem hbv60 : hasBody Tryd.prog 60 := body_of (by kernel_rfl)
theorem hbv46 : hasBody Tryd.prog 46 := body_of (by kernel_rfl)
theorem hbv17 : hasBody Tryd.prog 17 := body_of (by kernel_rfl)
theorem hbv47 : hasBody Tryd.prog 47 := body_of (by kernel_rfl)
theorem hbv19 : hasBody Tryd.prog 19 := body_of (by kernel_rfl)
theorem hbv21 : hasBody Tryd.prog 21 := body_of (by kernel_rfl)
theorem hbv61 : hasBody Tryd.prog 61 := body_of (by kernel_rfl)
theorem hbv49 : hasBody Tryd.prog 49 := body_of (by kernel_rfl)
theorem hbv62 : hasBody Tryd.prog 62 := body_of (by kernel_rfl)
theorem hbv48 : hasBody Tryd.prog 48 := body_of (by kernel_rfl)
theorem hbv23 : hasBody Tryd.prog 23 := body_of (by kernel_rfl)
theorem hbv28 : hasBody Tryd.prog 28 := body_of (by kernel_rfl)
theorem hbv29 : hasBody Tryd.prog 29 := body_of (by kernel_rfl)
theorem hbv9 : hasBody Tryd.prog 9 := body_of (by kernel_rfl)
theorem hbv10 : hasBody Tryd.prog 10 := body_of (by kernel_rfl)
theorem hbv45 : hasBody Tryd.prog 45 := body_of (by kernel_rfl)
theorem hbv14 : hasBody Tryd.prog 14 := body_of (by kernel_rfl)
theorem hbv12 : hasBody Tryd.prog 12 := body_of (by kernel_rfl)
theorem hbv16 : hasBody Tryd.prog 16 := body_of (by kernel_rfl)
theorem hbv18 : hasBody Tryd.prog 18 := body_of (by kernel_rfl)
theorem hbv20 : hasBody Tryd.prog 20 := body_of (by kernel_rfl)
theorem hbv22 : hasBody Tryd.prog 22 := body_of (by kernel_rfl)
theorem hbv24 : hasBody Tryd.prog 24 := body_of (by kernel_rfl)
theorem hbv82 : hasBody Tryd.prog 82 := body_of (by kernel_rfl)
theorem hbv70 : hasBody Tryd.prog 70 := body_of (by kernel_rfl)
theorem hbv63 : hasBody Tryd.prog 63 := body_of (by kernel_rfl)
theorem hbv50 : hasBody Tryd.prog 50 := body_of (by kernel_rfl)
theorem hbv25 : hasBody Tryd.prog 25 := body_of (by kernel_rfl)
theorem hbv51 : hasBody Tryd.prog 51 := body_of (by kernel_rfl)
theorem hbv26 : hasBody Tryd.prog 26 := body_of (by kernel_rfl)
theorem hbv52 : hasBody Tryd.prog 52 := body_of (by kernel_rfl)
theorem hbv27 : hasBody Tryd.prog 27 := body_of (by kernel_rfl)
theorem hbv53 : hasBody Tryd.prog 53 := body_of (by kernel_rfl)
theorem hbv30 : hasBody Tryd.prog 30 := body_of (by kernel_rfl)
theorem hbv36 : hasBody Tryd.prog 36 := body_of (by kernel_rfl)
theorem hbv38 : hasBody Tryd.prog 38 := body_of (by kernel_rfl)
theorem hbv31 : hasBody Tryd.prog 31 := body_of (by kernel_rfl)
theorem hbv32 : hasBody Tryd.prog 32 := body_of (by kernel_rfl)
theorem hbv56 : hasBody Tryd.prog 56 := body_of (by kernel_rfl)
theorem hbv64 : hasBody Tryd.prog 64 := body_of (by kernel_rfl)
theorem hbv55 : hasBody Tryd.prog 55 := body_of (by kernel_rfl)
theorem hbv54 : hasBody Tryd.prog 54 := body_of (by kernel_rfl)
theorem hbv33 : hasBody Tryd.prog 33 := body_of (by kernel_rfl)
theorem hbv34 : hasBody Tryd.prog 34 := body_of (by kernel_rfl)
theorem hbv57 : hasBody Tryd.prog 57 := body_of (by kernel_rfl)
theorem hbv35 : hasBody Tryd.prog 35 := body_of (by kernel_rfl)
theorem hbv37 : hasBody Tryd.prog 37 := body_of (by kernel_rfl)
theorem hbv39 : hasBody Tryd.prog 39 := body_of (by kernel_rfl)
theorem hbv40 : hasBody Tryd.prog 40 := body_of (by kernel_rfl)
theorem hbv41 : hasBody Tryd.prog 41 := body_of (by kernel_rfl)
theorem hbv42 : hasBody Tryd.prog 42 := body_of (by kernel_rfl)
theorem hbv43 : hasBody Tryd.prog 43 := body_of (by kernel_rfl)
def s_wire_Int (n : Int) : Option (List UInt8) :=
  (s_itoa n).bind fun y1 => (grd (List.length y1 + List.length ([59] : List UInt8) ≤ 9223372036854775807)).bind fun _ => some (y1 ++ ([59] : List UInt8))
theorem w_wire_Int (n : Int) (r : (List UInt8)) (hs : s_wire_Int n = some r) : FnA Tryd.prog 13 [.int .i64 n] [(900000000, gl0 ob0), (900000001, gl1 ob1 u1), (900000002, gl2 ob2 u2)] (.str r) [(900000000, gl0 ob0), (900000001, gl1 ob1 u1), (900000002, gl2 ob2 u2)] := by
  refine fnA_of_wp (N := 6) Tryd.func13 rfl rfl rfl fun cK0 => ?_
  unfold s_wire_Int at hs
  refine v_same (ρ' := [(0, .int .i64 n)]) rfl rfl ?_
  refine v_seq ?_
  refine vr_text ?_
  refine o_runs 1 [(2, .str [])] (by kernel_rfl) ?_
  refine ov_nil ?_
  refine nrm_thenV ?_
  refine v_seq ?_
  refine vr_text ?_
  refine o_runs 1 [(3, .int .i64 n)] (by kernel_rfl) ?_
  obtain ⟨y1, c1, hs⟩ := bind_some hs
  refine o_loc (F := [(900000000, gl0 ob0), (900000001, gl1 ob1 u1), (900000002, gl2 ob2 u2)]) (F' := [(900000000, gl0 ob0), (900000001, gl1 ob1 u1), (900000002, gl2 ob2 u2)]) (v := .str y1) [900000000, 900000001, 900000002] (by kernel_rfl) (by kernel_rfl) rfl (by kernel_rfl) (loc_gcallL (vs := [.int .i64 n]) (G := [(900000000, gl0 ob0), (900000001, gl1 ob1 u1), (900000002, gl2 ob2 u2)]) (R := []) (callV_func hbv44 (by kernel_rfl)) (w_itoa (ob0 := ob0) (ob1 := ob1) (ob2 := ob2) (u1 := u1) (u2 := u2) n _ c1) (by kernel_rfl) (.cons (.same _) (.nil)) (by kernel_rfl) (by kernel_rfl) (by kernel_rfl)) (by kernel_rfl) ?_
  obtain ⟨_, g1, hs⟩ := bind_some hs; replace g1 := grd_some g1
  refine o_pure (v := .str (y1 ++ ([59] : List UInt8))) (by kernel_rfl) (by kernel_rfl) (loc_concat (a := y1) (b := ([59] : List UInt8)) (by kernel_rfl) (by kernel_rfl) g1) ?_
  refine o_runs 1 [(2, .str (y1 ++ ([59] : List UInt8)))] (by kernel_rfl) ?_
  refine ov_nil ?_
  refine nrm_thenV ?_
  refine v_ret ?_
  obtain rfl := Option.some.inj hs
  exact fin_ret (by kernel_rfl) (by kernel_rfl) (by kernel_rfl)
def s_wire_Num (n : Int) : Option (List UInt8) :=
  (bif (decide (n < 0)) then some [] else (s_wire_Int n).bind fun y1 => some y1)
theorem w_wire_Num (n : Int) (r : (List UInt8)) (hs : s_wire_Num n = some r) : FnA Tryd.prog 11 [.int .i64 n] [(900000000, gl0 ob0), (900000001, gl1 ob1 u1), (900000002, gl2 ob2 u2)] (.str r) [(900000000, gl0 ob0), (900000001, gl1 ob1 u1), (900000002, gl2 ob2 u2)] := by
  refine fnA_of_wp (N := 7) Tryd.func11 rfl rfl rfl fun cK0 => ?_
  unfold s_wire_Num at hs
  refine v_same (ρ' := [(0, .int .i64 n)]) rfl rfl ?_
  refine v_seq ?_
  refine vr_text ?_
  refine o_runs 1 [(2, .str [])] (by kernel_rfl) ?_
  refine ov_nil ?_
  refine nrm_thenV ?_
  refine v_seq ?_
  refine v_seq ?_
  refine vr_text ?_
  refine o_runs 2 [(4, .bool (decide (n < 0))), (3, .int .i64 n)] (by kernel_rfl) ?_
  refine ov_nil ?_
  refine nrm_thenV ?_
  refine v_cond (decide (n < 0)) (by kernel_rfl) (fun h1 => ?_) (fun h1 => ?_)
  · replace hs := bif_t h1 hs
    refine v_seq ?_
    refine vr_text ?_
    refine o_runs 1 [(2, .str [])] (by kernel_rfl) ?_
    refine ov_nil ?_
    refine nrm_thenV ?_
    refine v_ret ?_
    refine ret_thenV ?_
    obtain rfl := Option.some.inj hs
    exact fin_ret (by kernel_rfl) (by kernel_rfl) (by kernel_rfl)
  · replace hs := bif_f h1 hs
    refine v_skip ?_
    refine nrm_thenV ?_
    refine v_seq ?_
    refine vr_text ?_
    refine o_runs 1 [(5, .int .i64 n)] (by kernel_rfl) ?_
    obtain ⟨y1, c1, hs⟩ := bind_some hs
    refine o_loc (F := [(900000000, gl0 ob0), (900000001, gl1 ob1 u1), (900000002, gl2 ob2 u2)]) (F' := [(900000000, gl0 ob0), (900000001, gl1 ob1 u1), (900000002, gl2 ob2 u2)]) (v := .str y1) [900000000, 900000001, 900000002] (by kernel_rfl) (by kernel_rfl) rfl (by kernel_rfl) (loc_gcallL (vs := [.int .i64 n]) (G := [(900000000, gl0 ob0), (900000001, gl1 ob1 u1), (900000002, gl2 ob2 u2)]) (R := []) (callV_func hbv13 (by kernel_rfl)) (w_wire_Int (ob0 := ob0) (ob1 := ob1) (ob2 := ob2) (u1 := u1) (u2 := u2) n _ c1) (by kernel_rfl) (.cons (.same _) (.nil)) (by kernel_rfl) (by kernel_rfl) (by kernel_rfl)) (by kernel_rfl) ?_
    refine o_runs 1 [(2, .str y1)] (by kernel_rfl) ?_
    refine ov_nil ?_
    refine nrm_thenV ?_
    refine v_ret ?_
    obtain rfl := Option.some.inj hs
    exact fin_ret (by kernel_rfl) (by kernel_rfl) (by kernel_rfl)
def s_wire_Text (s : (List UInt8)) : Option (List UInt8) :=
  (s_itoa (List.length s : Int)).bind fun y1 => (grd (List.length y1 + List.length ([58] : List UInt8) ≤ 9223372036854775807)).bind fun _ => (grd (List.length (y1 ++ ([58] : List UInt8)) + List.length s ≤ 9223372036854775807)).bind fun _ => (grd (List.length ((y1 ++ ([58] : List UInt8)) ++ s) + List.length ([44] : List UInt8) ≤ 9223372036854775807)).bind fun _ => some (((y1 ++ ([58] : List UInt8)) ++ s) ++ ([44] : List UInt8))
theorem w_wire_Text (s : (List UInt8)) (r : (List UInt8)) (hs : s_wire_Text s = some r) : FnA Tryd.prog 15 [.str s] [(900000000, gl0 ob0), (900000001, gl1 ob1 u1), (900000002, gl2 ob2 u2)] (.str r) [(900000000, gl0 ob0), (900000001, gl1 ob1 u1), (900000002, gl2 ob2 u2)] := by
  refine fnA_of_wp (N := 10) Tryd.func15 rfl rfl rfl fun cK0 => ?_
  unfold s_wire_Text at hs
  refine v_same (ρ' := [(0, .str s)]) rfl rfl ?_
  refine v_seq ?_
  refine vr_text ?_
  refine o_runs 1 [(2, .str [])] (by kernel_rfl) ?_
  refine ov_nil ?_
  refine nrm_thenV ?_
  refine v_seq ?_
  refine vr_text ?_
  refine o_runs 2 [(4, .int .i64 (List.length s : Int)), (3, .str s)] (by kernel_rfl) ?_
  obtain ⟨y1, c1, hs⟩ := bind_some hs
  refine o_loc (F := [(900000000, gl0 ob0), (900000001, gl1 ob1 u1), (900000002, gl2 ob2 u2)]) (F' := [(900000000, gl0 ob0), (900000001, gl1 ob1 u1), (900000002, gl2 ob2 u2)]) (v := .str y1) [900000000, 900000001, 900000002] (by kernel_rfl) (by kernel_rfl) rfl (by kernel_rfl) (loc_gcallL (vs := [.int .i64 (List.length s : Int)]) (G := [(900000000, gl0 ob0), (900000001, gl1 ob1 u1), (900000002, gl2 ob2 u2)]) (R := []) (callV_func hbv44 (by kernel_rfl)) (w_itoa (ob0 := ob0) (ob1 := ob1) (ob2 := ob2) (u1 := u1) (u2 := u2) (List.length s : Int) _ c1) (by kernel_rfl) (.cons (.same _) (.nil)) (by kernel_rfl) (by kernel_rfl) (by kernel_rfl)) (by kernel_rfl) ?_
  obtain ⟨_, g1, hs⟩ := bind_some hs; replace g1 := grd_some g1
  refine o_pure (v := .str (y1 ++ ([58] : List UInt8))) (by kernel_rfl) (by kernel_rfl) (loc_concat (a := y1) (b := ([58] : List UInt8)) (by kernel_rfl) (by kernel_rfl) g1) ?_
  refine o_runs 1 [(7, .str s)] (by kernel_rfl) ?_
  obtain ⟨_, g2, hs⟩ := bind_some hs; replace g2 := grd_some g2
  refine o_pure (v := .str ((y1 ++ ([58] : List UInt8)) ++ s)) (by kernel_rfl) (by kernel_rfl) (loc_concat (a := (y1 ++ ([58] : List UInt8))) (b := s) (by kernel_rfl) (by kernel_rfl) g2) ?_
  obtain ⟨_, g3, hs⟩ := bind_some hs; replace g3 := grd_some g3
  refine o_pure (v := .str (((y1 ++ ([58] : List UInt8)) ++ s) ++ ([44] : List UInt8))) (by kernel_rfl) (by kernel_rfl) (loc_concat (a := ((y1 ++ ([58] : List UInt8)) ++ s)) (b := ([44] : List UInt8)) (by kernel_rfl) (by kernel_rfl) g3) ?_
  refine o_runs 1 [(2, .str (((y1 ++ ([58] : List UInt8)) ++ s) ++ ([44] : List UInt8)))] (by kernel_rfl) ?_
  refine ov_nil ?_
  refine nrm_thenV ?_
  refine v_ret ?_
  obtain rfl := Option.some.inj hs
  exact fin_ret (by kernel_rfl) (by kernel_rfl) (by kernel_rfl)
def s_strings_Builder_copyCheck  : Option Unit :=
  some ()
theorem w_strings_Builder_copyCheck  (r : Unit) (hs : s_strings_Builder_copyCheck  = some r) : FnA Tryd.prog 66 [.ptr 1000000 0 0] [(1000000, .box 67 [.nilp, .nils])] (.tup []) [(1000000, .box 67 [.ptr 1000000 0 0, .nils])] := by
  refine fnA_of_wp (N := 20) Tryd.func66 rfl rfl rfl fun cK0 => ?_
  unfold s_strings_Builder_copyCheck at hs
  refine v_same (ρ' := [(0, .ptr 1000000 0 0)]) rfl rfl ?_
  refine v_seq ?_
  refine vr_text ?_
  refine o_runs 5 [(6, .bool true), (5, .nilp), (4, .ptr 1000000 0 0), (3, .ptr 1000000 0 0), (2, .ptr 1000000 0 0)] (by kernel_rfl) ?_
  refine ov_nil ?_
  refine nrm_thenV ?_
  refine v_cond_t (by kernel_rfl) ?_
  refine vr_text ?_
  refine o_runs 2 [(8, .ptr 1000000 0 0), (7, .ptr 1000000 0 0)] (by kernel_rfl) ?_
  refine o_loc (F := [(1000000, .box 67 [.nilp, .nils])]) (F' := [(1000000, .box 67 [.nilp, .nils])]) (v := .ptr 1000000 0 0) [1000000] (by kernel_rfl) (by kernel_rfl) rfl (by kernel_rfl) (loc_toUnsafe (bt := 67) (cs := [.nilp, .nils]) (by kernel_rfl) (by kernel_rfl) (by kernel_rfl)) (by kernel_rfl) ?_
  refine o_pure (v := .ptr 1000000 0 0) (by kernel_rfl) (by kernel_rfl) (loc_noEsc noesc75 (by kernel_rfl)) ?_
  refine o_loc (F := [(1000000, .box 67 [.nilp, .nils])]) (F' := [(1000000, .box 67 [.nilp, .nils])]) (v := .ptr 1000000 0 0) [1000000] (by kernel_rfl) (by kernel_rfl) rfl (by kernel_rfl) (loc_fromUnsafe (bt := 67) (cs := [.nilp, .nils]) (by kernel_rfl) (by kernel_rfl)) (by kernel_rfl) ?_
  refine o_runh 3 [(13, .ptr 1000000 0 0), (12, .ptr 1000000 0 0)] [(1000000, .box 67 [.ptr 1000000 0 0, .nils])] (by kernel_rfl) ?_
  refine ov_nil ?_
  refine fin_nrm ?_
  obtain rfl := Option.some.inj hs
  exact fin_ret (by kernel_rfl) (by kernel_rfl) (by kernel_rfl)
def s_strings_Builder_WriteString (s : (List UInt8)) : Option (Int × (List UInt8)) :=
  (s_strings_Builder_copyCheck ).bind fun y1 => (grd ((s).length * 1 ≤ 140737488355328)).bind fun _ => some ((List.length s : Int), s)
theorem w_strings_Builder_WriteString (s : (List UInt8)) (r : Int × (List UInt8)) (hs : s_strings_Builder_WriteString s = some r) : FnA Tryd.prog 59 [.ptr 1000000 0 0, .str s] [(1000000, .box 67 [.nilp, .nils])] (.tup [.int .i64 r.1, .nili]) [(2000012, .row 5 1 0 (List.map encY r.2)), (1000000, .box 67 [.ptr 1000000 0 0, .sl 1 2000012 ((r.2).length) 0 ((r.2).length)])] := by
  refine fnA_of_wp (N := 19) Tryd.func59 rfl rfl rfl fun cK0 => ?_
  unfold s_strings_Builder_WriteString at hs
  refine v_same (ρ' := [(0, .ptr 1000000 0 0), (1, .str s)]) rfl rfl ?_
  refine v_seq ?_
  refine vr_text ?_
  refine o_runs 2 [(5, .nili), (4, .int .i64 0)] (by kernel_rfl) ?_
  refine ov_nil ?_
  refine nrm_thenV ?_
  refine v_seq ?_
  refine vr_text ?_
  refine o_runs 1 [(6, .ptr 1000000 0 0)] (by kernel_rfl) ?_
  obtain ⟨y1, c1, hs⟩ := bind_some hs
  refine o_loc (F := [(1000000, .box 67 [.nilp, .nils])]) (F' := [(1000000, .box 67 [.ptr 1000000 0 0, .nils])]) (v := .tup []) [1000000] (by kernel_rfl) (by kernel_rfl) rfl (by kernel_rfl) (loc_g (R := []) [.ptr 1000000 0 0] [(1000000, 1000000)] (callV_func hbv66 (by kernel_rfl)) (w_strings_Builder_copyCheck  _ c1) (.cons (.same _) (.nil)) (by kernel_rfl) (by kernel_rfl) (by kernel_rfl) (by kernel_rfl) (by kernel_rfl) (by kernel_rfl) (by kernel_rfl) (by kernel_rfl)) (by kernel_rfl) ?_
  refine ov_nil ?_
  refine nrm_thenV ?_
  refine v_seq ?_
  refine vr_text ?_
  refine o_runs 6 [(13, .str s), (12, .nils), (11, .ptr 1000000 0 1), (10, .ptr 1000000 0 0), (9, .ptr 1000000 0 0), (8, .ptr 1000000 0 0)] (by kernel_rfl) ?_
  refine o_to _ _ (cut_nilRow 12 2000012 5 1 rfl (by kernel_rfl) (by kernel_rfl)) ?_
  obtain ⟨_, g1, hs⟩ := bind_some hs; replace g1 := grd_some g1
  refine o_loc (F := [(2000012, .row 5 1 0 (List.map encY []))]) (F' := [(2000012, .row 5 1 0 (List.map encY s))]) (v := .sl 1 2000012 ((s).length) 0 ((s).length)) [2000012] (by kernel_rfl) (by kernel_rfl) rfl (by kernel_rfl) (loc_appendStrT (e := 5) (bytes := 1) (L := 0) (p := []) (s := s) (by kernel_rfl) (by kernel_rfl) (by kernel_rfl) rfl (by kernel_rfl) (by first | rfl | exact List.nil_append _) rfl g1 (by omega)) (by kernel_rfl) ?_
  refine o_runh 3 [(16, .ptr 1000000 0 1), (15, .ptr 1000000 0 0)] [(2000012, .row 5 1 0 (List.map encY s)), (1000000, .box 67 [.ptr 1000000 0 0, .sl 1 2000012 ((s).length) 0 ((s).length)])] (by kernel_rfl) ?_
  refine ov_nil ?_
  refine nrm_thenV ?_
  refine v_seq ?_
  refine vr_text ?_
  refine o_runs 4 [(5, .nili), (4, .int .i64 (List.length s : Int)), (18, .int .i64 (List.length s : Int)), (17, .str s)] (by kernel_rfl) ?_
  refine ov_nil ?_
  refine nrm_thenV ?_
  refine v_ret ?_
  obtain rfl := Option.some.inj hs
  exact fin_ret (by kernel_rfl) (by kernel_rfl) (by kernel_rfl)
def s_strings_Builder_copyCheck_2 (b_buf : (List UInt8)) : Option (List UInt8) :=
  some b_buf
theorem w_strings_Builder_copyCheck_2 (b_buf : (List UInt8)) (r : (List UInt8)) (hs : s_strings_Builder_copyCheck_2 b_buf = some r) : FnA Tryd.prog 66 [.ptr 1000000 0 0] [(1000000, .box 67 [.ptr 1000000 0 0, .sl 1 1000001 ((b_buf).length) 0 ((b_buf).length)]), (1000001, .row 5 1 0 (List.map encY b_buf))] (.tup []) [(1000000, .box 67 [.ptr 1000000 0 0, .sl 1 1000001 ((r).length) 0 ((r).length)]), (1000001, .row 5 1 0 (List.map encY r))] := by
  refine fnA_of_wp (N := 20) Tryd.func66 rfl rfl rfl fun cK0 => ?_
  unfold s_strings_Builder_copyCheck_2 at hs
  refine v_same (ρ' := [(0, .ptr 1000000 0 0)]) rfl rfl ?_
  refine v_seq ?_
  refine vr_text ?_
  refine o_runs 5 [(6, .bool false), (5, .ptr 1000000 0 0), (4, .ptr 1000000 0 0), (3, .ptr 1000000 0 0), (2, .ptr 1000000 0 0)] (by kernel_rfl) ?_
  refine ov_nil ?_
  refine nrm_thenV ?_
  refine v_cond_f (by kernel_rfl) ?_
  refine v_seq ?_
  refine vr_text ?_
  refine o_runs 5 [(18, .ptr 1000000 0 0), (17, .ptr 1000000 0 0), (16, .ptr 1000000 0 0), (15, .ptr 1000000 0 0), (14, .ptr 1000000 0 0)] (by kernel_rfl) ?_
  refine o_pure (v := .bool false) (by kernel_rfl) (by kernel_rfl) (loc_ptrSame (k := 1000000) (L := 0) (off := 0) (.inr ⟨rfl, rfl⟩) (by kernel_rfl) (by kernel_rfl) (by kernel_rfl)) ?_
  refine ov_nil ?_
  refine nrm_thenV ?_
  refine v_cond_f (by kernel_rfl) ?_
  refine v_skip ?_
  refine fin_nrm ?_
  obtain rfl := Option.some.inj hs
  exact fin_ret (by kernel_rfl) (by kernel_rfl) (by kernel_rfl)
def s_strings_Builder_WriteString_2 (b_buf : (List UInt8)) (s : (List UInt8)) : Option (Int × (List UInt8)) :=
  (s_strings_Builder_copyCheck_2 b_buf).bind fun y1 => (grd (((y1 ++ s)).length * 1 ≤ 140737488355328)).bind fun _ => some ((List.length s : Int), (y1 ++ s))
theorem w_strings_Builder_WriteString_2 (b_buf : (List UInt8)) (s : (List UInt8)) (r : Int × (List UInt8)) (hs : s_strings_Builder_WriteString_2 b_buf s = some r) : FnA Tryd.prog 59 [.ptr 1000000 0 0, .str s] [(1000000, .box 67 [.ptr 1000000 0 0, .sl 1 1000001 ((b_buf).length) 0 ((b_buf).length)]), (1000001, .row 5 1 0 (List.map encY b_buf))] (.tup [.int .i64 r.1, .nili]) [(1000001, .row 5 1 0 (List.map encY r.2)), (1000000, .box 67 [.ptr 1000000 0 0, .sl 1 1000001 ((r.2).length) 0 ((r.2).length)])] := by
  refine fnA_of_wp (N := 19) Tryd.func59 rfl rfl rfl fun cK0 => ?_
  unfold s_strings_Builder_WriteString_2 at hs
  refine v_same (ρ' := [(0, .ptr 1000000 0 0), (1, .str s)]) rfl rfl ?_
  refine v_seq ?_
  refine vr_text ?_
  refine o_runs 2 [(5, .nili), (4, .int .i64 0)] (by kernel_rfl) ?_
  refine ov_nil ?_
  refine nrm_thenV ?_
  refine v_seq ?_
  refine vr_text ?_
  refine o_runs 1 [(6, .ptr 1000000 0 0)] (by kernel_rfl) ?_
  obtain ⟨y1, c1, hs⟩ := bind_some hs
  refine o_loc (F := [(1000000, .box 67 [.ptr 1000000 0 0, .sl 1 1000001 ((b_buf).length) 0 ((b_buf).length)]), (1000001, .row 5 1 0 (List.map encY b_buf))]) (F' := [(1000000, .box 67 [.ptr 1000000 0 0, .sl 1 1000001 ((y1).length) 0 ((y1).length)]), (1000001, .row 5 1 0 (List.map encY y1))]) (v := .tup []) [1000000, 1000001] (by kernel_rfl) (by kernel_rfl) rfl (by kernel_rfl) (loc_g (R := []) [.ptr 1000000 0 0] [(1000000, 1000000), (1000001, 1000001)] (callV_func hbv66 (by kernel_rfl)) (w_strings_Builder_copyCheck_2 b_buf _ c1) (.cons (.same _) (.nil)) (by kernel_rfl) (by kernel_rfl) (by kernel_rfl) (by kernel_rfl) (by kernel_rfl) (by kernel_rfl) (by kernel_rfl) (by kernel_rfl)) (by kernel_rfl) ?_
  refine ov_nil ?_
  refine nrm_thenV ?_
  refine v_seq ?_
  refine vr_text ?_
  refine o_runs 6 [(13, .str s), (12, .sl 1 1000001 ((y1).length) 0 ((y1).length)), (11, .ptr 1000000 0 1), (10, .ptr 1000000 0 0), (9, .ptr 1000000 0 0), (8, .ptr 1000000 0 0)] (by kernel_rfl) ?_
  obtain ⟨_, g1, hs⟩ := bind_some hs; replace g1 := grd_some g1
  refine o_loc (F := [(1000001, .row 5 1 0 (List.map encY y1))]) (F' := [(1000001, .row 5 1 0 (List.map encY (y1 ++ s)))]) (v := .sl 1 1000001 (((y1 ++ s)).length) 0 (((y1 ++ s)).length)) [1000001] (by kernel_rfl) (by kernel_rfl) rfl (by kernel_rfl) (loc_appendStrT (e := 5) (bytes := 1) (L := (y1).length) (p := y1) (s := s) (by kernel_rfl) (by kernel_rfl) (by kernel_rfl) rfl (by kernel_rfl) (by first | rfl | exact List.nil_append _) rfl g1 (by omega)) (by kernel_rfl) ?_
  refine o_runh 3 [(16, .ptr 1000000 0 1), (15, .ptr 1000000 0 0)] [(1000001, .row 5 1 0 (List.map encY (y1 ++ s))), (1000000, .box 67 [.ptr 1000000 0 0, .sl 1 1000001 (((y1 ++ s)).length) 0 (((y1 ++ s)).length)])] (by kernel_rfl) ?_
  refine ov_nil ?_
  refine nrm_thenV ?_
  refine v_seq ?_
  refine vr_text ?_
  refine o_runs 4 [(5, .nili), (4, .int .i64 (List.length s : Int)), (18, .int .i64 (List.length s : Int)), (17, .str s)] (by kernel_rfl) ?_
  refine ov_nil ?_
  refine nrm_thenV ?_
  refine v_ret ?_
  obtain rfl := Option.some.inj hs
  exact fin_ret (by kernel_rfl) (by kernel_rfl) (by kernel_rfl)
def s_strings_Builder_String (b_buf : (List UInt8)) : Option ((List UInt8) × (List UInt8)) :=
  (grd (1 ≤ (b_buf).length)).bind fun _ => (grd (1 ≤ (b_buf).length ∧ (b_buf).length ≤ 9223372036854775807)).bind fun _ => some (b_buf, b_buf)
theorem w_strings_Builder_String (b_buf : (List UInt8)) (r : (List UInt8) × (List UInt8)) (hs : s_strings_Builder_String b_buf = some r) : FnA Tryd.prog 60 [.ptr 1000000 0 0] [(1000000, .box 67 [.ptr 1000000 0 0, .sl 1 1000001 ((b_buf).length) 0 ((b_buf).length)]), (1000001, .row 5 1 0 (List.map encY b_buf))] (.str r.1) [(1000001, .row 5 1 (((List.map encY r.2)).length) (List.map encY r.2)), (1000000, .box 67 [.ptr 1000000 0 0, .sl 1 1000001 ((r.2).length) 0 ((r.2).length)])] := by
  refine fnA_of_wp (N := 14) Tryd.func60 rfl rfl rfl fun cK0 => ?_
  unfold s_strings_Builder_String at hs
  refine v_same (ρ' := [(0, .ptr 1000000 0 0)]) rfl rfl ?_
  refine v_seq ?_
  refine vr_text ?_
  refine o_runs 1 [(2, .str [])] (by kernel_rfl) ?_
  refine ov_nil ?_
  refine nrm_thenV ?_
  refine v_seq ?_
  refine v_draw mixedH (by kernel_rfl) ?_
  refine d_runs 4 0 [(6, .sl 1 1000001 ((b_buf).length) 0 ((b_buf).length)), (5, .ptr 1000000 0 1), (4, .ptr 1000000 0 0), (3, .ptr 1000000 0 0)] [⟨3, [], [1000000]⟩, ⟨2, [], []⟩, ⟨1, [], []⟩, ⟨0, [], []⟩] (by kernel_rfl) (by kernel_rfl) ?_
  obtain ⟨_, g1, hs⟩ := bind_some hs; replace g1 := grd_some g1
  refine d_pure (v := .ptr 1000001 ((b_buf).length) (0 * 1 + 0)) 4 rfl rfl rfl rfl (by kernel_rfl) (by kernel_rfl) (loc_sliceData (k := 1000001) (L := (b_buf).length) (n := (b_buf).length) (by kernel_rfl) g1) ?_
  refine d_runs 5 5 [(12, .int .i64 ((b_buf).length : Int)), (11, .sl 1 1000001 ((b_buf).length) 0 ((b_buf).length)), (10, .ptr 1000000 0 1), (9, .ptr 1000000 0 0), (8, .ptr 1000000 0 0)] [⟨9, [], []⟩, ⟨8, [], [1000000]⟩, ⟨7, [], []⟩, ⟨6, [], []⟩, ⟨5, [], []⟩] (by kernel_rfl) (by kernel_rfl) ?_
  obtain ⟨_, g2, hs⟩ := bind_some hs; obtain ⟨g2a, g2b⟩ := grd_some g2
  refine d_loc (F := [(1000001, .row 5 1 0 (List.map encY b_buf))]) (R := []) (F' := [(1000001, .row 5 1 (((List.map encY b_buf)).length) (List.map encY b_buf))]) (v := .str b_buf) 10 [1000001] [] rfl rfl rfl rfl (by kernel_rfl) (by kernel_rfl) (by kernel_rfl) (by kernel_rfl) (by kernel_rfl) (by kernel_rfl) (by kernel_rfl) (by kernel_rfl) (loc_unsafeString (e := 5) (k := 1000001) (fz := 0) (L := (b_buf).length) (s := b_buf) (by kernel_rfl) (by kernel_rfl) rfl (by kernel_rfl) g2a g2b) ?_
  refine d_runs 1 11 [(2, .str b_buf)] (pfp 1 11) (by kernel_rfl) (by kernel_rfl) ?_
  refine d_nil (by kernel_rfl) ?_
  refine nrm_thenV ?_
  refine v_ret ?_
  obtain rfl := Option.some.inj hs
  exact fin_ret (by kernel_rfl) (by kernel_rfl) (by kernel_rfl)
def s_wire_list_L1 (l : (List Int)) : Nat → (Int × (List UInt8)) → Option (List UInt8)
  | 0, _ => none
  | K1 + 1, q1 => (bif (decide (q1.1 < (List.length l : Int))) then (idx l q1.1).bind fun x1 => (s_wire_Int x1).bind fun y3 => (s_strings_Builder_WriteString_2 q1.2 y3).bind fun y4 => (s_wire_list_L1 l) K1 ((w64 (q1.1 + 1)), y4.2) else some q1.2)
def s_wire_list (l : (List Int)) : Option (List UInt8) :=
  (s_itoa (List.length l : Int)).bind fun y1 => (grd (List.length y1 + List.length ([91] : List UInt8) ≤ 9223372036854775807)).bind fun _ => (s_strings_Builder_WriteString (y1 ++ ([91] : List UInt8))).bind fun y2 => ((s_wire_list_L1 l) KK (0, y2.2)).bind fun v1 => (s_strings_Builder_String v1).bind fun y5 => (grd (List.length y5.1 + List.length ([93] : List UInt8) ≤ 9223372036854775807)).bind fun _ => some (y5.1 ++ ([93] : List UInt8))
theorem w_wire_list (l : (List Int)) (r : (List UInt8)) (hs : s_wire_list l = some r) : FnA Tryd.prog 46 [.vs 1 (List.map EV.encI l), .fn 13 [] []] [(900000000, gl0 ob0), (900000001, gl1 ob1 u1), (900000002, gl2 ob2 u2)] (.str r) [(900000000, gl0 ob0), (900000001, gl1 ob1 u1), (900000002, gl2 ob2 u2)] := by
  refine fnA_of_wp (N := 26) Tryd.func46 rfl rfl rfl fun cK0 => ?_
  unfold s_wire_list at hs
  refine v_same (ρ' := [(0, .vs 1 (List.map EV.encI l)), (1, .fn 13 [] [])]) rfl rfl ?_
  refine v_seq ?_
  refine vr_text ?_
  refine o_runs 1 [(4, .str [])] (by kernel_rfl) ?_
  refine ov_nil ?_
  refine nrm_thenV ?_
  refine v_seq ?_
  refine vr_text ?_
  refine o_runh 1 [(5, .ptr 5 0 0)] [(5, .box 67 [.nilp, .nils]), (900000000, gl0 ob0), (900000001, gl1 ob1 u1), (900000002, gl2 ob2 u2)] (by kernel_rfl) ?_
  refine ov_nil ?_
  refine nrm_thenV ?_
  refine v_seq ?_
  refine vr_text ?_
  refine o_runs 1 [(8, .vs 1 (List.map EV.encI l))] (by kernel_rfl) ?_
  refine o_pure (v := .int .i64 (List.length l : Int)) (by kernel_rfl) (by kernel_rfl) (loc_lenVs (sz := 1) (els := (List.map EV.encI l)) (by kernel_rfl) (by kernel_rfl) (List.length_map ..)) ?_
  obtain ⟨y1, c1, hs⟩ := bind_some hs
  refine o_loc (F := [(900000000, gl0 ob0), (900000001, gl1 ob1 u1), (900000002, gl2 ob2 u2)]) (F' := [(900000000, gl0 ob0), (900000001, gl1 ob1 u1), (900000002, gl2 ob2 u2)]) (v := .str y1) [900000000, 900000001, 900000002] (by kernel_rfl) (by kernel_rfl) rfl (by kernel_rfl) (loc_gcallL (vs := [.int .i64 (List.length l : Int)]) (G := [(900000000, gl0 ob0), (900000001, gl1 ob1 u1), (900000002, gl2 ob2 u2)]) (R := []) (callV_func hbv44 (by kernel_rfl)) (w_itoa (ob0 := ob0) (ob1 := ob1) (ob2 := ob2) (u1 := u1) (u2 := u2) (List.length l : Int) _ c1) (by kernel_rfl) (.cons (.same _) (.nil)) (by kernel_rfl) (by kernel_rfl) (by kernel_rfl)) (by kernel_rfl) ?_
  obtain ⟨_, g1, hs⟩ := bind_some hs; replace g1 := grd_some g1
  refine o_pure (v := .str (y1 ++ ([91] : List UInt8))) (by kernel_rfl) (by kernel_rfl) (loc_concat (a := y1) (b := ([91] : List UInt8)) (by kernel_rfl) (by kernel_rfl) g1) ?_
  obtain ⟨y2, c2, hs⟩ := bind_some hs
  refine o_loc (F := [(5, .box 67 [.nilp, .nils])]) (F' := [(3001200, .row 5 1 0 (List.map encY y2.2)), (5, .box 67 [.ptr 5 0 0, .sl 1 3001200 ((y2.2).length) 0 ((y2.2).length)])]) (v := .tup [.int .i64 y2.1, .nili]) [5] (by kernel_rfl) (by kernel_rfl) rfl (by kernel_rfl) (loc_g (R := []) [.ptr 5 0 0, .str (y1 ++ ([91] : List UInt8))] [(1000000, 5), (2000012, 3001200)] (callV_func hbv59 (by kernel_rfl)) (w_strings_Builder_WriteString (y1 ++ ([91] : List UInt8)) _ c2) (.cons (.same _) (.cons (.same _) (.nil))) (by kernel_rfl) (by kernel_rfl) (by kernel_rfl) (by kernel_rfl) (by kernel_rfl) (by kernel_rfl) (by kernel_rfl) (by kernel_rfl)) (by kernel_rfl) ?_
  refine ov_nil ?_
  refine nrm_thenV ?_
  refine v_seq ?_
  refine v_seq ?_
  refine vr_text ?_
  refine o_runs 1 [(13, .vs 1 (List.map EV.encI l))] (by kernel_rfl) ?_
  refine o_pure (v := .int .i64 (List.length l : Int)) (by kernel_rfl) (by kernel_rfl) (loc_lenVs (sz := 1) (els := (List.map EV.encI l)) (by kernel_rfl) (by kernel_rfl) (List.length_map ..)) ?_
  refine o_runs 1 [(15, .int .i64 0)] (by kernel_rfl) ?_
  refine ov_nil ?_
  refine nrm_thenV ?_
  obtain ⟨z1, hs, hk1⟩ := bind_some hs
  refine v_join (S := (List UInt8)) (fun u => u = z1) (fun u => [(5, .ptr 5 0 0)]) (fun u => [(3001200, .row 5 1 0 (List.map encY u)), (5, .box 67 [.ptr 5 0 0, .sl 1 3001200 ((u).length) 0 ((u).length)]), (900000000, gl0 ob0), (900000001, gl1 ob1 u1), (900000002, gl2 ob2 u2)]) ?_ (fun v1 hz => ?_)
  · refine v_block ?_
    refine v_fuel (S := Int × (List UInt8)) (fun u => [(1, .fn 13 [] []), (5, .ptr 5 0 0), (13, .vs 1 (List.map EV.encI l)), (14, .int .i64 (List.length l : Int)), (15, .int .i64 u.1)]) (fun u => [(3001200, .row 5 1 0 (List.map encY u.2)), (5, .box 67 [.ptr 5 0 0, .sl 1 3001200 ((u.2).length) 0 ((u.2).length)]), (900000000, gl0 ob0), (900000001, gl1 ob1 u1), (900000002, gl2 ob2 u2)]) (s_wire_list_L1 l) (fun _ => rfl) KK (0, y2.2) hs (cut_of [1, 5, 13, 14, 15] [3001200, 5, 900000000, 900000001, 900000002] (by kernel_rfl) (by kernel_rfl) (by kernel_rfl)) (fun K1 q1 hs => ?_)
    rw [s_wire_list_L1] at hs
    show WpV cK0 Tryd.prog none 26 _ _ [(1, .fn 13 [] []), (5, .ptr 5 0 0), (13, .vs 1 (List.map EV.encI l)), (14, .int .i64 (List.length l : Int)), (15, .int .i64 q1.1)] [(3001200, .row 5 1 0 (List.map encY q1.2)), (5, .box 67 [.ptr 5 0 0, .sl 1 3001200 ((q1.2).length) 0 ((q1.2).length)]), (900000000, gl0 ob0), (900000001, gl1 ob1 u1), (900000002, gl2 ob2 u2)] []
    refine v_seq ?_
    refine vr_text ?_
    refine o_runs 1 [(16, .bool (decide (q1.1 < (List.length l : Int))))] (by kernel_rfl) ?_
    refine ov_nil ?_
    refine nrm_thenV ?_
    refine v_seq ?_
    refine v_cond (decide (q1.1 < (List.length l : Int))) (by kernel_rfl) (fun h1 => ?_) (fun h1 => ?_)
    · replace hs := bif_t h1 hs
      refine v_skip ?_
      refine nrm_thenV ?_
      refine v_seq ?_
      refine v_block ?_
      refine v_seq ?_
      refine vr_text ?_
      obtain ⟨x1, g2, hs⟩ := bind_some hs; obtain ⟨g2a, g2b, g2c⟩ := idx_some g2
      refine o_pure (v := .vp [.int .i64 x1] 0) (by kernel_rfl) (by kernel_rfl) (loc_indexVs (e := 3) (sz := 1) (k := .i64) (els := (List.map EV.encI l)) (cs := (EV.encI x1)) (by kernel_rfl) (by kernel_rfl) (by kernel_rfl) g2a (by rw [g2c]; exact map_get _ (by omega))) ?_
      refine o_runs 2 [(7, .int .i64 x1), (18, .int .i64 x1)] (by kernel_rfl) ?_
      refine ov_nil ?_
      refine nrm_thenV ?_
      refine vr_text ?_
      refine o_runs 2 [(20, .int .i64 x1), (19, .fn 13 [] [])] (by kernel_rfl) ?_
      obtain ⟨y3, c3, hs⟩ := bind_some hs
      refine o_loc (F := [(900000000, gl0 ob0), (900000001, gl1 ob1 u1), (900000002, gl2 ob2 u2)]) (F' := [(900000000, gl0 ob0), (900000001, gl1 ob1 u1), (900000002, gl2 ob2 u2)]) (v := .str y3) [900000000, 900000001, 900000002] (by kernel_rfl) (by kernel_rfl) rfl (by kernel_rfl) (loc_gcallL (vs := [.int .i64 x1]) (G := [(900000000, gl0 ob0), (900000001, gl1 ob1 u1), (900000002, gl2 ob2 u2)]) (R := []) (callV_val (first := []) (caps := []) hbv13 (by kernel_rfl) (by kernel_rfl)) (w_wire_Int (ob0 := ob0) (ob1 := ob1) (ob2 := ob2) (u1 := u1) (u2 := u2) x1 _ c3) (by kernel_rfl) (.cons (.same _) (.nil)) (by kernel_rfl) (by kernel_rfl) (by kernel_rfl)) (by kernel_rfl) ?_
      obtain ⟨y4, c4, hs⟩ := bind_some hs
      refine o_loc (F := [(5, .box 67 [.ptr 5 0 0, .sl 1 3001200 ((q1.2).length) 0 ((q1.2).length)]), (3001200, .row 5 1 0 (List.map encY q1.2))]) (F' := [(3001200, .row 5 1 0 (List.map encY y4.2)), (5, .box 67 [.ptr 5 0 0, .sl 1 3001200 ((y4.2).length) 0 ((y4.2).length)])]) (v := .tup [.int .i64 y4.1, .nili]) [5, 3001200] (by kernel_rfl) (by kernel_rfl) rfl (by kernel_rfl) (loc_g (R := []) [.ptr 5 0 0, .str y3] [(1000000, 5), (1000001, 3001200)] (callV_func hbv59 (by kernel_rfl)) (w_strings_Builder_WriteString_2 q1.2 y3 _ c4) (.cons (.same _) (.cons (.same _) (.nil))) (by kernel_rfl) (by kernel_rfl) (by kernel_rfl) (by kernel_rfl) (by kernel_rfl) (by kernel_rfl) (by kernel_rfl) (by kernel_rfl)) (by kernel_rfl) ?_
      refine ov_nil ?_
      refine nrm_blkV ?_
      refine nrm_thenV ?_
      refine vr_text ?_
      refine o_runs 2 [(15, .int .i64 (w64 (q1.1 + 1))), (23, .int .i64 (w64 (q1.1 + 1)))] (by kernel_rfl) ?_
      refine ov_nil ?_
      refine nrm_fuel ((w64 (q1.1 + 1)), y4.2) hs ?_
      exact cut_of [1, 5, 13, 14, 15] [3001200, 5, 900000000, 900000001, 900000002] (by kernel_rfl) (by kernel_rfl) (by kernel_rfl)
    · replace hs := bif_f h1 hs
      refine v_exit ?_
      refine exit_thenV ?_
      refine exit_fuel ?_
      refine exit_blkV ?_
      obtain rfl := Option.some.inj hs
      refine nrm_join q1.2 rfl ?_
      exact cut_of [5] [3001200, 5, 900000000, 900000001, 900000002] (by kernel_rfl) (by kernel_rfl) (by kernel_rfl)
  · subst hz; clear hs; have hs := hk1; clear hk1
    refine nrm_thenV ?_
    refine v_seq ?_
    refine vr_text ?_
    obtain ⟨y5, c5, hs⟩ := bind_some hs
    refine o_loc (F := [(5, .box 67 [.ptr 5 0 0, .sl 1 3001200 ((v1).length) 0 ((v1).length)]), (3001200, .row 5 1 0 (List.map encY v1))]) (F' := [(3001200, .row 5 1 (((List.map encY y5.2)).length) (List.map encY y5.2)), (5, .box 67 [.ptr 5 0 0, .sl 1 3001200 ((y5.2).length) 0 ((y5.2).length)])]) (v := .str y5.1) [5, 3001200] (by kernel_rfl) (by kernel_rfl) rfl (by kernel_rfl) (loc_g (R := []) [.ptr 5 0 0] [(1000000, 5), (1000001, 3001200)] (callV_func hbv60 (by kernel_rfl)) (w_strings_Builder_String v1 _ c5) (.cons (.same _) (.nil)) (by kernel_rfl) (by kernel_rfl) (by kernel_rfl) (by kernel_rfl) (by kernel_rfl) (by kernel_rfl) (by kernel_rfl) (by kernel_rfl)) (by kernel_rfl) ?_
    obtain ⟨_, g3, hs⟩ := bind_some hs; replace g3 := grd_some g3
    refine o_pure (v := .str (y5.1 ++ ([93] : List UInt8))) (by kernel_rfl) (by kernel_rfl) (loc_concat (a := y5.1) (b := ([93] : List UInt8)) (by kernel_rfl) (by kernel_rfl) g3) ?_
    refine o_runs 1 [(4, .str (y5.1 ++ ([93] : List UInt8)))] (by kernel_rfl) ?_
    refine ov_nil ?_
    refine nrm_thenV ?_
    refine v_ret ?_
    obtain rfl := Option.some.inj hs
    exact fin_ret (by kernel_rfl) (by kernel_rfl) (by kernel_rfl)
def s_wire_Nums (l : (List Int)) : Option (List UInt8) :=
  (s_wire_list l).bind fun y1 => some y1
theorem w_wire_Nums (l : (List Int)) (r : (List UInt8)) (hs : s_wire_Nums l = some r) : FnA Tryd.prog 17 [.vs 1 (List.map EV.encI l)] [(900000000, gl0 ob0), (900000001, gl1 ob1 u1), (900000002, gl2 ob2 u2)] (.str r) [(900000000, gl0 ob0), (900000001, gl1 ob1 u1), (900000002, gl2 ob2 u2)] := by
  refine fnA_of_wp (N := 5) Tryd.func17 rfl rfl rfl fun cK0 => ?_
  unfold s_wire_Nums at hs
  refine v_same (ρ' := [(0, .vs 1 (List.map EV.encI l))]) rfl rfl ?_
  refine v_seq ?_
  refine vr_text ?_
  refine o_runs 1 [(2, .str [])] (by kernel_rfl) ?_
  refine ov_nil ?_
  refine nrm_thenV ?_
  refine v_seq ?_
  refine vr_text ?_
  refine o_runs 1 [(3, .vs 1 (List.map EV.encI l))] (by kernel_rfl) ?_
  obtain ⟨y1, c1, hs⟩ := bind_some hs
  refine o_loc (F := [(900000000, gl0 ob0), (900000001, gl1 ob1 u1), (900000002, gl2 ob2 u2)]) (F' := [(900000000, gl0 ob0), (900000001, gl1 ob1 u1), (900000002, gl2 ob2 u2)]) (v := .str y1) [900000000, 900000001, 900000002] (by kernel_rfl) (by kernel_rfl) rfl (by kernel_rfl) (loc_gcallL (vs := [.vs 1 (List.map EV.encI l), .fn 13 [] []]) (G := [(900000000, gl0 ob0), (900000001, gl1 ob1 u1), (900000002, gl2 ob2 u2)]) (R := []) (callV_func hbv46 (by kernel_rfl)) (w_wire_list (ob0 := ob0) (ob1 := ob1) (ob2 := ob2) (u1 := u1) (u2 := u2) l _ c1) (by kernel_rfl) (.cons (.same _) (.cons (.same _) (.nil))) (by kernel_rfl) (by kernel_rfl) (by kernel_rfl)) (by kernel_rfl) ?_
  refine o_runs 1 [(2, .str y1)] (by kernel_rfl) ?_
  refine ov_nil ?_
  refine nrm_thenV ?_
  refine v_ret ?_
  obtain rfl := Option.some.inj hs
  exact fin_ret (by kernel_rfl) (by kernel_rfl) (by kernel_rfl)
def s_wire_list_2_L1 (l : (List (List UInt8))) : Nat → (Int × (List UInt8)) → Option (List UInt8)
  | 0, _ => none
  | K1 + 1, q1 => (bif (decide (q1.1 < (List.length l : Int))) then (idx l q1.1).bind fun x1 => (s_wire_Text x1).bind fun y3 => (s_strings_Builder_WriteString_2 q1.2 y3).bind fun y4 => (s_wire_list_2_L1 l) K1 ((w64 (q1.1 + 1)), y4.2) else some q1.2)
def s_wire_list_2 (l : (List (List UInt8))) : Option (List UInt8) :=
  (s_itoa (List.length l : Int)).bind fun y1 => (grd (List.length y1 + List.length ([91] : List UInt8) ≤ 9223372036854775807)).bind fun _ => (s_strings_Builder_WriteString (y1 ++ ([91] : List UInt8))).bind fun y2 => ((s_wire_list_2_L1 l) KK (0, y2.2)).bind fun v1 => (s_strings_Builder_String v1).bind fun y5 => (grd (List.length y5.1 + List.length ([93] : List UInt8) ≤ 9223372036854775807)).bind fun _ => some (y5.1 ++ ([93] : List UInt8))
theorem w_wire_list_2 (l : (List (List UInt8))) (r : (List UInt8)) (hs : s_wire_list_2 l = some r) : FnA Tryd.prog 47 [.vs 1 (List.map EV.encS l), .fn 15 [] []] [(900000000, gl0 ob0), (900000001, gl1 ob1 u1), (900000002, gl2 ob2 u2)] (.str r) [(900000000, gl0 ob0), (900000001, gl1 ob1 u1), (900000002, gl2 ob2 u2)] := by
  refine fnA_of_wp (N := 26) Tryd.func47 rfl rfl rfl fun cK0 => ?_
  unfold s_wire_list_2 at hs
  refine v_same (ρ' := [(0, .vs 1 (List.map EV.encS l)), (1, .fn 15 [] [])]) rfl rfl ?_
  refine v_seq ?_
  refine vr_text ?_
  refine o_runs 1 [(4, .str [])] (by kernel_rfl) ?_
  refine ov_nil ?_
  refine nrm_thenV ?_
  refine v_seq ?_
  refine vr_text ?_
  refine o_runh 1 [(5, .ptr 5 0 0)] [(5, .box 67 [.nilp, .nils]), (900000000, gl0 ob0), (900000001, gl1 ob1 u1), (900000002, gl2 ob2 u2)] (by kernel_rfl) ?_
  refine ov_nil ?_
  refine nrm_thenV ?_
  refine v_seq ?_
  refine vr_text ?_
  refine o_runs 1 [(8, .vs 1 (List.map EV.encS l))] (by kernel_rfl) ?_
  refine o_pure (v := .int .i64 (List.length l : Int)) (by kernel_rfl) (by kernel_rfl) (loc_lenVs (sz := 1) (els := (List.map EV.encS l)) (by kernel_rfl) (by kernel_rfl) (List.length_map ..)) ?_
  obtain ⟨y1, c1, hs⟩ := bind_some hs
  refine o_loc (F := [(900000000, gl0 ob0), (900000001, gl1 ob1 u1), (900000002, gl2 ob2 u2)]) (F' := [(900000000, gl0 ob0), (900000001, gl1 ob1 u1), (900000002, gl2 ob2 u2)]) (v := .str y1) [900000000, 900000001, 900000002] (by kernel_rfl) (by kernel_rfl) rfl (by kernel_rfl) (loc_gcallL (vs := [.int .i64 (List.length l : Int)]) (G := [(900000000, gl0 ob0), (900000001, gl1 ob1 u1), (900000002, gl2 ob2 u2)]) (R := []) (callV_func hbv44 (by kernel_rfl)) (w_itoa (ob0 := ob0) (ob1 := ob1) (ob2 := ob2) (u1 := u1) (u2 := u2) (List.length l : Int) _ c1) (by kernel_rfl) (.cons (.same _) (.nil)) (by kernel_rfl) (by kernel_rfl) (by kernel_rfl)) (by kernel_rfl) ?_
  obtain ⟨_, g1, hs⟩ := bind_some hs; replace g1 := grd_some g1
  refine o_pure (v := .str (y1 ++ ([91] : List UInt8))) (by kernel_rfl) (by kernel_rfl) (loc_concat (a := y1) (b := ([91] : List UInt8)) (by kernel_rfl) (by kernel_rfl) g1) ?_
  obtain ⟨y2, c2, hs⟩ := bind_some hs
  refine o_loc (F := [(5, .box 67 [.nilp, .nils])]) (F' := [(3001200, .row 5 1 0 (List.map encY y2.2)), (5, .box 67 [.ptr 5 0 0, .sl 1 3001200 ((y2.2).length) 0 ((y2.2).length)])]) (v := .tup [.int .i64 y2.1, .nili]) [5] (by kernel_rfl) (by kernel_rfl) rfl (by kernel_rfl) (loc_g (R := []) [.ptr 5 0 0, .str (y1 ++ ([91] : List UInt8))] [(1000000, 5), (2000012, 3001200)] (callV_func hbv59 (by kernel_rfl)) (w_strings_Builder_WriteString (y1 ++ ([91] : List UInt8)) _ c2) (.cons (.same _) (.cons (.same _) (.nil))) (by kernel_rfl) (by kernel_rfl) (by kernel_rfl) (by kernel_rfl) (by kernel_rfl) (by kernel_rfl) (by kernel_rfl) (by kernel_rfl)) (by kernel_rfl) ?_
  refine ov_nil ?_
  refine nrm_thenV ?_
  refine v_seq ?_
  refine v_seq ?_
  refine vr_text ?_
  refine o_runs 1 [(13, .vs 1 (List.map EV.encS l))] (by kernel_rfl) ?_
  refine o_pure (v := .int .i64 (List.length l : Int)) (by kernel_rfl) (by kernel_rfl) (loc_lenVs (sz := 1) (els := (List.map EV.encS l)) (by kernel_rfl) (by kernel_rfl) (List.length_map ..)) ?_
  refine o_runs 1 [(15, .int .i64 0)] (by kernel_rfl) ?_
  refine ov_nil ?_
  refine nrm_thenV ?_
  obtain ⟨z1, hs, hk1⟩ := bind_some hs
  refine v_join (S := (List UInt8)) (fun u => u = z1) (fun u => [(5, .ptr 5 0 0)]) (fun u => [(3001200, .row 5 1 0 (List.map encY u)), (5, .box 67 [.ptr 5 0 0, .sl 1 3001200 ((u).length) 0 ((u).length)]), (900000000, gl0 ob0), (900000001, gl1 ob1 u1), (900000002, gl2 ob2 u2)]) ?_ (fun v1 hz => ?_)
  · refine v_block ?_
    refine v_fuel (S := Int × (List UInt8)) (fun u => [(1, .fn 15 [] []), (5, .ptr 5 0 0), (13, .vs 1 (List.map EV.encS l)), (14, .int .i64 (List.length l : Int)), (15, .int .i64 u.1)]) (fun u => [(3001200, .row 5 1 0 (List.map encY u.2)), (5, .box 67 [.ptr 5 0 0, .sl 1 3001200 ((u.2).length) 0 ((u.2).length)]), (900000000, gl0 ob0), (900000001, gl1 ob1 u1), (900000002, gl2 ob2 u2)]) (s_wire_list_2_L1 l) (fun _ => rfl) KK (0, y2.2) hs (cut_of [1, 5, 13, 14, 15] [3001200, 5, 900000000, 900000001, 900000002] (by kernel_rfl) (by kernel_rfl) (by kernel_rfl)) (fun K1 q1 hs => ?_)
    rw [s_wire_list_2_L1] at hs
    show WpV cK0 Tryd.prog none 26 _ _ [(1, .fn 15 [] []), (5, .ptr 5 0 0), (13, .vs 1 (List.map EV.encS l)), (14, .int .i64 (List.length l : Int)), (15, .int .i64 q1.1)] [(3001200, .row 5 1 0 (List.map encY q1.2)), (5, .box 67 [.ptr 5 0 0, .sl 1 3001200 ((q1.2).length) 0 ((q1.2).length)]), (900000000, gl0 ob0), (900000001, gl1 ob1 u1), (900000002, gl2 ob2 u2)] []
    refine v_seq ?_
    refine vr_text ?_
    refine o_runs 1 [(16, .bool (decide (q1.1 < (List.length l : Int))))] (by kernel_rfl) ?_
    refine ov_nil ?_
    refine nrm_thenV ?_
    refine v_seq ?_
    refine v_cond (decide (q1.1 < (List.length l : Int))) (by kernel_rfl) (fun h1 => ?_) (fun h1 => ?_)
    · replace hs := bif_t h1 hs
      refine v_skip ?_
      refine nrm_thenV ?_
      refine v_seq ?_
      refine v_block ?_
      refine v_seq ?_
      refine vr_text ?_
      obtain ⟨x1, g2, hs⟩ := bind_some hs; obtain ⟨g2a, g2b, g2c⟩ := idx_some g2
      refine o_pure (v := .vp [.str x1] 0) (by kernel_rfl) (by kernel_rfl) (loc_indexVs (e := 9) (sz := 1) (k := .i64) (els := (List.map EV.encS l)) (cs := (EV.encS x1)) (by kernel_rfl) (by kernel_rfl) (by kernel_rfl) g2a (by rw [g2c]; exact map_get _ (by omega))) ?_
      refine o_runs 2 [(7, .str x1), (18, .str x1)] (by kernel_rfl) ?_
      refine ov_nil ?_
      refine nrm_thenV ?_
      refine vr_text ?_
      refine o_runs 2 [(20, .str x1), (19, .fn 15 [] [])] (by kernel_rfl) ?_
      obtain ⟨y3, c3, hs⟩ := bind_some hs
      refine o_loc (F := [(900000000, gl0 ob0), (900000001, gl1 ob1 u1), (900000002, gl2 ob2 u2)]) (F' := [(900000000, gl0 ob0), (900000001, gl1 ob1 u1), (900000002, gl2 ob2 u2)]) (v := .str y3) [900000000, 900000001, 900000002] (by kernel_rfl) (by kernel_rfl) rfl (by kernel_rfl) (loc_gcallL (vs := [.str x1]) (G := [(900000000, gl0 ob0), (900000001, gl1 ob1 u1), (900000002, gl2 ob2 u2)]) (R := []) (callV_val (first := []) (caps := []) hbv15 (by kernel_rfl) (by kernel_rfl)) (w_wire_Text (ob0 := ob0) (ob1 := ob1) (ob2 := ob2) (u1 := u1) (u2 := u2) x1 _ c3) (by kernel_rfl) (.cons (.same _) (.nil)) (by kernel_rfl) (by kernel_rfl) (by kernel_rfl)) (by kernel_rfl) ?_
      obtain ⟨y4, c4, hs⟩ := bind_some hs
      refine o_loc (F := [(5, .box 67 [.ptr 5 0 0, .sl 1 3001200 ((q1.2).length) 0 ((q1.2).length)]), (3001200, .row 5 1 0 (List.map encY q1.2))]) (F' := [(3001200, .row 5 1 0 (List.map encY y4.2)), (5, .box 67 [.ptr 5 0 0, .sl 1 3001200 ((y4.2).length) 0 ((y4.2).length)])]) (v := .tup [.int .i64 y4.1, .nili]) [5, 3001200] (by kernel_rfl) (by kernel_rfl) rfl (by kernel_rfl) (loc_g (R := []) [.ptr 5 0 0, .str y3] [(1000000, 5), (1000001, 3001200)] (callV_func hbv59 (by kernel_rfl)) (w_strings_Builder_WriteString_2 q1.2 y3 _ c4) (.cons (.same _) (.cons (.same _) (.nil))) (by kernel_rfl) (by kernel_rfl) (by kernel_rfl) (by kernel_rfl) (by kernel_rfl) (by kernel_rfl) (by kernel_rfl) (by kernel_rfl)) (by kernel_rfl) ?_
      refine ov_nil ?_
      refine nrm_blkV ?_
      refine nrm_thenV ?_
      refine vr_text ?_
      refine o_runs 2 [(15, .int .i64 (w64 (q1.1 + 1))), (23, .int .i64 (w64 (q1.1 + 1)))] (by kernel_rfl) ?_
      refine ov_nil ?_
      refine nrm_fuel ((w64 (q1.1 + 1)), y4.2) hs ?_
      exact cut_of [1, 5, 13, 14, 15] [3001200, 5, 900000000, 900000001, 900000002] (by kernel_rfl) (by kernel_rfl) (by kernel_rfl)
    · replace hs := bif_f h1 hs
      refine v_exit ?_
      refine exit_thenV ?_
      refine exit_fuel ?_
      refine exit_blkV ?_
      obtain rfl := Option.some.inj hs
      refine nrm_join q1.2 rfl ?_
      exact cut_of [5] [3001200, 5, 900000000, 900000001, 900000002] (by kernel_rfl) (by kernel_rfl) (by kernel_rfl)
  · subst hz; clear hs; have hs := hk1; clear hk1
    refine nrm_thenV ?_
    refine v_seq ?_
    refine vr_text ?_
    obtain ⟨y5, c5, hs⟩ := bind_some hs
    refine o_loc (F := [(5, .box 67 [.ptr 5 0 0, .sl 1 3001200 ((v1).length) 0 ((v1).length)]), (3001200, .row 5 1 0 (List.map encY v1))]) (F' := [(3001200, .row 5 1 (((List.map encY y5.2)).length) (List.map encY y5.2)), (5, .box 67 [.ptr 5 0 0, .sl 1 3001200 ((y5.2).length) 0 ((y5.2).length)])]) (v := .str y5.1) [5, 3001200] (by kernel_rfl) (by kernel_rfl) rfl (by kernel_rfl) (loc_g (R := []) [.ptr 5 0 0] [(1000000, 5), (1000001, 3001200)] (callV_func hbv60 (by kernel_rfl)) (w_strings_Builder_String v1 _ c5) (.cons (.same _) (.nil)) (by kernel_rfl) (by kernel_rfl) (by kernel_rfl) (by kernel_rfl) (by kernel_rfl) (by kernel_rfl) (by kernel_rfl) (by kernel_rfl)) (by kernel_rfl) ?_
    obtain ⟨_, g3, hs⟩ := bind_some hs; replace g3 := grd_some g3
    refine o_pure (v := .str (y5.1 ++ ([93] : List UInt8))) (by kernel_rfl) (by kernel_rfl) (loc_concat (a := y5.1) (b := ([93] : List UInt8)) (by kernel_rfl) (by kernel_rfl) g3) ?_
    refine o_runs 1 [(4, .str (y5.1 ++ ([93] : List UInt8)))] (by kernel_rfl) ?_
    refine ov_nil ?_
    refine nrm_thenV ?_
    refine v_ret ?_
    obtain rfl := Option.some.inj hs
    exact fin_ret (by kernel_rfl) (by kernel_rfl) (by kernel_rfl)
def s_wire_Texts (l : (List (List UInt8))) : Option (List UInt8) :=
  (s_wire_list_2 l).bind fun y1 => some y1
theorem w_wire_Texts (l : (List (List UInt8))) (r : (List UInt8)) (hs : s_wire_Texts l = some r) : FnA Tryd.prog 19 [.vs 1 (List.map EV.encS l)] [(900000000, gl0 ob0), (900000001, gl1 ob1 u1), (900000002, gl2 ob2 u2)] (.str r) [(900000000, gl0 ob0), (900000001, gl1 ob1 u1), (900000002, gl2 ob2 u2)] := by
  refine fnA_of_wp (N := 5) Tryd.func19 rfl rfl rfl fun cK0 => ?_
  unfold s_wire_Texts at hs
  refine v_same (ρ' := [(0, .vs 1 (List.map EV.encS l))]) rfl rfl ?_
  refine v_seq ?_
  refine vr_text ?_
  refine o_runs 1 [(2, .str [])] (by kernel_rfl) ?_
  refine ov_nil ?_
  refine nrm_thenV ?_
  refine v_seq ?_
  refine vr_text ?_
  refine o_runs 1 [(3, .vs 1 (List.map EV.encS l))] (by kernel_rfl) ?_
  obtain ⟨y1, c1, hs⟩ := bind_some hs
  refine o_loc (F := [(900000000, gl0 ob0), (900000001, gl1 ob1 u1), (900000002, gl2 ob2 u2)]) (F' := [(900000000, gl0 ob0), (900000001, gl1 ob1 u1), (900000002, gl2 ob2 u2)]) (v := .str y1) [900000000, 900000001, 900000002] (by kernel_rfl) (by kernel_rfl) rfl (by kernel_rfl) (loc_gcallL (vs := [.vs 1 (List.map EV.encS l), .fn 15 [] []]) (G := [(900000000, gl0 ob0), (900000001, gl1 ob1 u1), (900000002, gl2 ob2 u2)]) (R := []) (callV_func hbv47 (by kernel_rfl)) (w_wire_list_2 (ob0 := ob0) (ob1 := ob1) (ob2 := ob2) (u1 := u1) (u2 := u2) l _ c1) (by kernel_rfl) (.cons (.same _) (.cons (.same _) (.nil))) (by kernel_rfl) (by kernel_rfl) (by kernel_rfl)) (by kernel_rfl) ?_
  refine o_runs 1 [(2, .str y1)] (by kernel_rfl) ?_
  refine ov_nil ?_
  refine nrm_thenV ?_
  refine v_ret ?_
  obtain rfl := Option.some.inj hs
  exact fin_ret (by kernel_rfl) (by kernel_rfl) (by kernel_rfl)
def s_wire_Open (s : (List UInt8)) : Option (List UInt8) :=
  some s
theorem w_wire_Open (s : (List UInt8)) (r : (List UInt8)) (hs : s_wire_Open s = some r) : FnA Tryd.prog 21 [.str s] [] (.ptr 5 0 0) [(5, .box 54 [.str r, .bool false])] := by
  refine fnA_of_wp (N := 6) Tryd.func21 rfl rfl rfl fun cK0 => ?_
  unfold s_wire_Open at hs
  refine v_same (ρ' := [(0, .str s)]) rfl rfl ?_
  refine v_seq ?_
  refine vr_text ?_
  refine o_runs 1 [(2, .nilp)] (by kernel_rfl) ?_
  refine ov_nil ?_
  refine nrm_thenV ?_
  refine v_seq ?_
  refine vr_text ?_
  refine o_runh 4 [(2, .ptr 5 0 0), (5, .ptr 5 0 0), (4, .agg [.str s, .bool false]), (3, .str s)] [(5, .box 54 [.str s, .bool false])] (by kernel_rfl) ?_
  refine ov_nil ?_
  refine nrm_thenV ?_
  refine v_ret ?_
  obtain rfl := Option.some.inj hs
  exact fin_ret (by kernel_rfl) (by kernel_rfl) (by kernel_rfl)
def s_wire_Reader_fail (r_rest : (List UInt8)) (r_bad : Bool) : Option Unit :=
  some ()
theorem w_wire_Reader_fail (r_rest : (List UInt8)) (r_bad : Bool) (r : Unit) (hs : s_wire_Reader_fail r_rest r_bad = some r) : FnA Tryd.prog 49 [.ptr 1000000 0 0] [(1000000, .box 54 [.str r_rest, .bool r_bad])] (.tup []) [(1000000, .box 54 [.str [], .bool true])] := by
  refine fnA_of_wp (N := 8) Tryd.func49 rfl rfl rfl fun cK0 => ?_
  unfold s_wire_Reader_fail at hs
  refine v_same (ρ' := [(0, .ptr 1000000 0 0)]) rfl rfl ?_
  refine vr_text ?_
  refine o_runh 8 [(7, .ptr 1000000 0 1), (6, .ptr 1000000 0 0), (5, .ptr 1000000 0 0), (4, .ptr 1000000 0 0), (3, .ptr 1000000 0 0), (2, .ptr 1000000 0 0)] [(1000000, .box 54 [.str [], .bool true])] (by kernel_rfl) ?_
  refine ov_nil ?_
  refine fin_nrm ?_
  obtain rfl := Option.some.inj hs
  exact fin_ret (by kernel_rfl) (by kernel_rfl) (by kernel_rfl)
def s_wire_Reader_number (r_rest : (List UInt8)) (r_bad : Bool) (end_ : Int) (least : Int) : Option (Int × (List UInt8) × Bool) :=
  (cut r_rest 0 (min (List.length r_rest : Int) 21)).bind fun x1 => (s_indexByte x1 end_).bind fun y1 => (bif (decide (y1 < 0)) then (s_wire_Reader_fail r_rest r_bad).bind fun y2 => some (0, [], true) else (cut x1 0 y1).bind fun x2 => (grd (List.length x2 ≤ 281474976710656)).bind fun _ => (optE (atoiV x2) ((s_wire_Reader_fail r_rest r_bad).bind fun y4 => some (0, [], true)) fun y3 => ((s_itoa y3).bind fun y5 => (cut x1 0 y1).bind fun x3 => (bif (!(decide (y5 = x3))) then some true else some (decide (y3 < least)))).bind fun v1 => (bif v1 then (s_wire_Reader_fail r_rest r_bad).bind fun y6 => some (0, [], true) else (cut r_rest (w64 (y1 + 1)) (List.length r_rest : Int)).bind fun x4 => some (y3, x4, r_bad))))
theorem w_wire_Reader_number (r_rest : (List UInt8)) (r_bad : Bool) (end_ : Int) (least : Int) (r : Int × (List UInt8) × Bool) (hs : s_wire_Reader_number r_rest r_bad end_ least = some r) : FnA Tryd.prog 48 [.ptr 1000000 0 0, .int .u8 end_, .int .i64 least] [(1000000, .box 54 [.str r_rest, .bool r_bad]), (900000000, gl0 ob0), (900000001, gl1 ob1 u1), (900000002, gl2 ob2 u2)] (.int .i64 r.1) [(1000000, .box 54 [.str r.2.1, .bool r.2.2]), (900000000, gl0 ob0), (900000001, gl1 ob1 u1), (900000002, gl2 ob2 u2)] := by
  refine fnA_of_wp (N := 64) Tryd.func48 rfl rfl rfl fun cK0 => ?_
  unfold s_wire_Reader_number at hs
  refine v_same (ρ' := [(0, .ptr 1000000 0 0), (1, .int .u8 end_), (2, .int .i64 least)]) rfl rfl ?_
  refine v_seq ?_
  refine vr_text ?_
  refine o_runs 1 [(6, .int .i64 0)] (by kernel_rfl) ?_
  refine ov_nil ?_
  refine nrm_thenV ?_
  refine v_seq ?_
  refine v_draw mixedH (by kernel_rfl) ?_
  refine d_runs 10 0 [(20, .int .i64 (min (List.length r_rest : Int) 21)), (19, .int .i64 (List.length r_rest : Int)), (18, .str r_rest), (17, .ptr 1000000 0 0), (16, .ptr 1000000 0 0), (15, .ptr 1000000 0 0), (14, .str r_rest), (13, .ptr 1000000 0 0), (12, .ptr 1000000 0 0), (11, .ptr 1000000 0 0)] [⟨9, [], []⟩, ⟨8, [], []⟩, ⟨7, [], [1000000]⟩, ⟨6, [], []⟩, ⟨5, [], []⟩, ⟨4, [], []⟩, ⟨3, [], [1000000]⟩, ⟨2, [], []⟩, ⟨1, [], []⟩, ⟨0, [], []⟩] (by kernel_rfl) (by kernel_rfl) ?_
  obtain ⟨x1, g1, hs⟩ := bind_some hs; obtain ⟨g1a, g1b, g1c, g1d⟩ := cut_some g1
  refine d_pure (v := .str x1) 10 rfl rfl rfl rfl (by kernel_rfl) (by kernel_rfl) (by rw [g1d]; exact loc_sliceStr (s := r_rest) (l := 0) (h := (min (List.length r_rest : Int) 21)) (by kernel_rfl) (by kernel_rfl) rfl ⟨.i64, by kernel_rfl⟩ g1a g1b g1c) ?_
  refine d_runs 1 11 [(7, .str x1)] (pfp 1 11) (by kernel_rfl) (by kernel_rfl) ?_
  refine d_nil (by kernel_rfl) ?_
  refine nrm_thenV ?_
  refine v_seq ?_
  refine vr_text ?_
  refine o_runs 2 [(23, .int .u8 end_), (22, .str x1)] (by kernel_rfl) ?_
  obtain ⟨y1, c1, hs⟩ := bind_some hs
  refine o_pure (v := .int .i64 y1) (by kernel_rfl) (by kernel_rfl) (loc_gcall0 (callV_func hbv61 (by kernel_rfl)) (w_indexByte x1 end_ _ c1) (by kernel_rfl)) ?_
  refine o_runs 1 [(8, .int .i64 y1)] (by kernel_rfl) ?_
  refine ov_nil ?_
  refine nrm_thenV ?_
  refine v_seq ?_
  refine v_seq ?_
  refine vr_text ?_
  refine o_runs 2 [(26, .bool (decide (y1 < 0))), (25, .int .i64 y1)] (by kernel_rfl) ?_
  refine ov_nil ?_
  refine nrm_thenV ?_
  refine v_cond (decide (y1 < 0)) (by kernel_rfl) (fun h1 => ?_) (fun h1 => ?_)
  · replace hs := bif_t h1 hs
    refine v_seq ?_
    refine vr_text ?_
    refine o_runs 1 [(27, .ptr 1000000 0 0)] (by kernel_rfl) ?_
    obtain ⟨y2, c2, hs⟩ := bind_some hs
    refine o_loc (F := [(1000000, .box 54 [.str r_rest, .bool r_bad])]) (F' := [(1000000, .box 54 [.str [], .bool true])]) (v := .tup []) [1000000] (by kernel_rfl) (by kernel_rfl) rfl (by kernel_rfl) (loc_g (R := []) [.ptr 1000000 0 0] [(1000000, 1000000)] (callV_func hbv49 (by kernel_rfl)) (w_wire_Reader_fail r_rest r_bad _ c2) (.cons (.same _) (.nil)) (by kernel_rfl) (by kernel_rfl) (by kernel_rfl) (by kernel_rfl) (by kernel_rfl) (by kernel_rfl) (by kernel_rfl) (by kernel_rfl)) (by kernel_rfl) ?_
    refine ov_nil ?_
    refine nrm_thenV ?_
    refine v_seq ?_
    refine vr_text ?_
    refine o_runs 1 [(6, .int .i64 0)] (by kernel_rfl) ?_
    refine ov_nil ?_
    refine nrm_thenV ?_
    refine v_ret ?_
    refine ret_thenV ?_
    obtain rfl := Option.some.inj hs
    exact fin_ret (by kernel_rfl) (by kernel_rfl) (by kernel_rfl)
  · replace hs := bif_f h1 hs
    refine v_skip ?_
    refine nrm_thenV ?_
    refine v_seq ?_
    refine vr_text ?_
    refine o_runs 2 [(31, .int .i64 y1), (30, .str x1)] (by kernel_rfl) ?_
    obtain ⟨x2, g2, hs⟩ := bind_some hs; obtain ⟨g2a, g2b, g2c, g2d⟩ := cut_some g2
    refine o_pure (v := .str x2) (by kernel_rfl) (by kernel_rfl) (by rw [g2d]; exact loc_sliceStr (s := x1) (l := 0) (h := y1) (by kernel_rfl) (by kernel_rfl) rfl ⟨.i64, by kernel_rfl⟩ g2a g2b g2c) ?_
    obtain ⟨_, g3, hs⟩ := bind_some hs; replace g3 := grd_some g3
    cases h2 : atoiV x2
    · replace hs := optE_none h2 hs
      refine o_loc (F := [(900000000, gl0 ob0), (900000001, gl1 ob1 u1), (900000002, gl2 ob2 u2)]) (F' := [(900000000, gl0 ob0), (900000001, gl1 ob1 u1), (900000002, gl2 ob2 u2)]) (v := .tup [.int .i64 (atoiE x2), .ifc 91 .undef]) [900000000, 900000001, 900000002] (by kernel_rfl) (by kernel_rfl) rfl (by kernel_rfl) (loc_gcallL (G := [(900000000, gl0 ob0), (900000001, gl1 ob1 u1), (900000002, gl2 ob2 u2)]) (R := []) (callV_func hbv62 (by kernel_rfl)) (w_atoi_no x2 h2 g3) (by kernel_rfl) (.cons (.same _) (.nil)) (by kernel_rfl) (by kernel_rfl) (by kernel_rfl)) (by kernel_rfl) ?_
      refine o_runs 5 [(10, .ifc 91 .undef), (9, .int .i64 (atoiE x2)), (35, .ifc 91 .undef), (34, .int .i64 (atoiE x2)), (29, .tup [.int .i64 (atoiE x2), .ifc 91 .undef])] (by kernel_rfl) ?_
      refine ov_nil ?_
      refine nrm_thenV ?_
      refine v_seq ?_
      refine v_seq ?_
      refine v_draw mixedH (by kernel_rfl) ?_
      refine d_runs 1 0 [(36, .ifc 91 .undef)] (pfp 1 0) (by kernel_rfl) (by kernel_rfl) ?_
      refine d_pure (v := .bool true) 1 rfl rfl rfl rfl (by kernel_rfl) (by kernel_rfl) (loc_ifaceNil (v := .ifc 91 .undef) (b := false) (.inr ⟨91, .undef, rfl, rfl⟩) (.inr ⟨rfl, rfl⟩) (by kernel_rfl) (by kernel_rfl)) ?_
      refine d_runs 13 2 [(50, .bool true), (49, .no), (48, .no), (47, .no), (46, .bool true), (45, .bool true), (44, .no), (43, .no), (42, .no), (41, .no), (40, .no), (39, .no), (38, .bool true)] (pfp 13 14) (by kernel_rfl) (by kernel_rfl) ?_
      refine d_nil (by kernel_rfl) ?_
      refine nrm_thenV ?_
      refine v_cond_t (by kernel_rfl) ?_
      refine v_seq ?_
      refine vr_text ?_
      refine o_runs 1 [(51, .ptr 1000000 0 0)] (by kernel_rfl) ?_
      obtain ⟨y4, c3, hs⟩ := bind_some hs
      refine o_loc (F := [(1000000, .box 54 [.str r_rest, .bool r_bad])]) (F' := [(1000000, .box 54 [.str [], .bool true])]) (v := .tup []) [1000000] (by kernel_rfl) (by kernel_rfl) rfl (by kernel_rfl) (loc_g (R := []) [.ptr 1000000 0 0] [(1000000, 1000000)] (callV_func hbv49 (by kernel_rfl)) (w_wire_Reader_fail r_rest r_bad _ c3) (.cons (.same _) (.nil)) (by kernel_rfl) (by kernel_rfl) (by kernel_rfl) (by kernel_rfl) (by kernel_rfl) (by kernel_rfl) (by kernel_rfl) (by kernel_rfl)) (by kernel_rfl) ?_
      refine ov_nil ?_
      refine nrm_thenV ?_
      refine v_seq ?_
      refine vr_text ?_
      refine o_runs 1 [(6, .int .i64 0)] (by kernel_rfl) ?_
      refine ov_nil ?_
      refine nrm_thenV ?_
      refine v_ret ?_
      refine ret_thenV ?_
      obtain rfl := Option.some.inj hs
      exact fin_ret (by kernel_rfl) (by kernel_rfl) (by kernel_rfl)
    · rename_i y3
      replace hs := optE_some h2 hs
      refine o_loc (F := [(900000000, gl0 ob0), (900000001, gl1 ob1 u1), (900000002, gl2 ob2 u2)]) (F' := [(900000000, gl0 ob0), (900000001, gl1 ob1 u1), (900000002, gl2 ob2 u2)]) (v := .tup [.int .i64 y3, .nili]) [900000000, 900000001, 900000002] (by kernel_rfl) (by kernel_rfl) rfl (by kernel_rfl) (loc_gcallL (G := [(900000000, gl0 ob0), (900000001, gl1 ob1 u1), (900000002, gl2 ob2 u2)]) (R := []) (callV_func hbv62 (by kernel_rfl)) (w_atoi_ok x2 y3 h2 g3) (by kernel_rfl) (.cons (.same _) (.nil)) (by kernel_rfl) (by kernel_rfl) (by kernel_rfl)) (by kernel_rfl) ?_
      refine o_runs 5 [(10, .nili), (9, .int .i64 y3), (35, .nili), (34, .int .i64 y3), (29, .tup [.int .i64 y3, .nili])] (by kernel_rfl) ?_
      refine ov_nil ?_
      refine nrm_thenV ?_
      refine v_seq ?_
      refine v_seq ?_
      obtain ⟨z1, hs, hk1⟩ := bind_some hs
      refine v_join (S := Bool) (fun u => u = z1) (fun u => [(0, .ptr 1000000 0 0), (8, .int .i64 y1), (9, .int .i64 y3), (50, .bool u)]) (fun u => [(1000000, .box 54 [.str r_rest, .bool r_bad]), (900000000, gl0 ob0), (900000001, gl1 ob1 u1), (900000002, gl2 ob2 u2)]) ?_ (fun v1 hz => ?_)
      · refine v_draw mixedH (by kernel_rfl) ?_
        refine d_runs 1 0 [(36, .nili)] (pfp 1 0) (by kernel_rfl) (by kernel_rfl) ?_
        refine d_pure (v := .bool false) 1 rfl rfl rfl rfl (by kernel_rfl) (by kernel_rfl) (loc_ifaceNil (v := .nili) (b := true) (.inl ⟨rfl, rfl⟩) (.inr ⟨rfl, rfl⟩) (by kernel_rfl) (by kernel_rfl)) ?_
        refine d_runs 2 2 [(39, .int .i64 y3), (38, .bool false)] (pfp 2 3) (by kernel_rfl) (by kernel_rfl) ?_
        obtain ⟨y5, c4, hs⟩ := bind_some hs
        refine d_loc (F := []) (R := [(900000000, gl0 ob0), (900000001, gl1 ob1 u1), (900000002, gl2 ob2 u2)]) (F' := []) (v := .str y5) 4 [] [900000000, 900000001, 900000002] rfl rfl rfl rfl (by kernel_rfl) (by kernel_rfl) (by kernel_rfl) (by kernel_rfl) (by kernel_rfl) (by kernel_rfl) (by kernel_rfl) (by kernel_rfl) (loc_gcallL (vs := [.int .i64 y3]) (G := [(900000000, gl0 ob0), (900000001, gl1 ob1 u1), (900000002, gl2 ob2 u2)]) (R := []) (callV_func hbv44 (by kernel_rfl)) (w_itoa (ob0 := ob0) (ob1 := ob1) (ob2 := ob2) (u1 := u1) (u2 := u2) y3 _ c4) (by kernel_rfl) (.cons (.same _) (.nil)) (by kernel_rfl) (by kernel_rfl) (by kernel_rfl)) ?_
        refine d_runs 2 5 [(42, .int .i64 y1), (41, .str x1)] (pfp 2 6) (by kernel_rfl) (by kernel_rfl) ?_
        obtain ⟨x3, g4, hs⟩ := bind_some hs; obtain ⟨g4a, g4b, g4c, g4d⟩ := cut_some g4
        refine d_pure (v := .str x3) 7 rfl rfl rfl rfl (by kernel_rfl) (by kernel_rfl) (by rw [g4d]; exact loc_sliceStr (s := x1) (l := 0) (h := y1) (by kernel_rfl) (by kernel_rfl) rfl ⟨.i64, by kernel_rfl⟩ g4a g4b g4c) ?_
        refine d_runs 3 8 [(46, .bool (!(decide (y5 = x3)))), (45, .bool (!(decide (y5 = x3)))), (44, .bool (!(decide (y5 = x3))))] (pfp 3 10) (by kernel_rfl) (by kernel_rfl) ?_
        cases h3 : ((!(decide (y5 = x3))))
        · replace hs := bif_f h3 hs
          refine d_runs 4 11 [(50, .bool (decide (y3 < least))), (49, .bool (decide (y3 < least))), (48, .int .i64 least), (47, .int .i64 y3)] (pfp 4 14) (by kernel_rfl) (by kernel_rfl) ?_
          refine d_nil (by kernel_rfl) ?_
          obtain rfl := Option.some.inj hs
          refine nrm_join (decide (y3 < least)) rfl ?_
          exact cut_of [0, 8, 9, 50] [1000000, 900000000, 900000001, 900000002] (by kernel_rfl) (by kernel_rfl) (by kernel_rfl)
        · replace hs := bif_t h3 hs
          refine d_runs 4 11 [(50, .bool true), (49, .no), (48, .no), (47, .no)] (pfp 4 14) (by kernel_rfl) (by kernel_rfl) ?_
          refine d_nil (by kernel_rfl) ?_
          obtain rfl := Option.some.inj hs
          refine nrm_join true rfl ?_
          exact cut_of [0, 8, 9, 50] [1000000, 900000000, 900000001, 900000002] (by kernel_rfl) (by kernel_rfl) (by kernel_rfl)
      · subst hz; clear hs; have hs := hk1; clear hk1
        refine nrm_thenV ?_
        refine v_cond v1 (by kernel_rfl) (fun h4 => ?_) (fun h4 => ?_)
        · replace hs := bif_t h4 hs
          refine v_seq ?_
          refine vr_text ?_
          refine o_runs 1 [(51, .ptr 1000000 0 0)] (by kernel_rfl) ?_
          obtain ⟨y6, c5, hs⟩ := bind_some hs
          refine o_loc (F := [(1000000, .box 54 [.str r_rest, .bool r_bad])]) (F' := [(1000000, .box 54 [.str [], .bool true])]) (v := .tup []) [1000000] (by kernel_rfl) (by kernel_rfl) rfl (by kernel_rfl) (loc_g (R := []) [.ptr 1000000 0 0] [(1000000, 1000000)] (callV_func hbv49 (by kernel_rfl)) (w_wire_Reader_fail r_rest r_bad _ c5) (.cons (.same _) (.nil)) (by kernel_rfl) (by kernel_rfl) (by kernel_rfl) (by kernel_rfl) (by kernel_rfl) (by kernel_rfl) (by kernel_rfl) (by kernel_rfl)) (by kernel_rfl) ?_
          refine ov_nil ?_
          refine nrm_thenV ?_
          refine v_seq ?_
          refine vr_text ?_
          refine o_runs 1 [(6, .int .i64 0)] (by kernel_rfl) ?_
          refine ov_nil ?_
          refine nrm_thenV ?_
          refine v_ret ?_
          refine ret_thenV ?_
          obtain rfl := Option.some.inj hs
          exact fin_ret (by kernel_rfl) (by kernel_rfl) (by kernel_rfl)
        · replace hs := bif_f h4 hs
          refine v_skip ?_
          refine nrm_thenV ?_
          refine v_seq ?_
          refine vr_text ?_
          refine o_runs 7 [(59, .int .i64 (w64 (y1 + 1))), (58, .int .i64 y1), (57, .str r_rest), (56, .ptr 1000000 0 0), (55, .ptr 1000000 0 0), (54, .ptr 1000000 0 0), (53, .ptr 1000000 0 0)] (by kernel_rfl) ?_
          obtain ⟨x4, g5, hs⟩ := bind_some hs; obtain ⟨g5a, g5b, g5c, g5d⟩ := cut_some g5
          refine o_pure (v := .str x4) (by kernel_rfl) (by kernel_rfl) (by rw [g5d]; exact loc_sliceStr (s := r_rest) (l := (w64 (y1 + 1))) (h := (List.length r_rest : Int)) (by kernel_rfl) (by kernel_rfl) ⟨.i64, by kernel_rfl⟩ rfl g5a g5b g5c) ?_
          refine o_runh 3 [(62, .ptr 1000000 0 0), (61, .ptr 1000000 0 0)] [(1000000, .box 54 [.str x4, .bool r_bad]), (900000000, gl0 ob0), (900000001, gl1 ob1 u1), (900000002, gl2 ob2 u2)] (by kernel_rfl) ?_
          refine ov_nil ?_
          refine nrm_thenV ?_
          refine v_seq ?_
          refine vr_text ?_
          refine o_runs 2 [(6, .int .i64 y3), (63, .int .i64 y3)] (by kernel_rfl) ?_
          refine ov_nil ?_
          refine nrm_thenV ?_
          refine v_ret ?_
          obtain rfl := Option.some.inj hs
          exact fin_ret (by kernel_rfl) (by kernel_rfl) (by kernel_rfl)
def s_wire_Reader_Num (r_rest : (List UInt8)) (r_bad : Bool) : Option (Int × (List UInt8) × Bool) :=
  (s_wire_Reader_number r_rest r_bad 59 0).bind fun y1 => some (y1.1, y1.2.1, y1.2.2)
theorem w_wire_Reader_Num (r_rest : (List UInt8)) (r_bad : Bool) (r : Int × (List UInt8) × Bool) (hs : s_wire_Reader_Num r_rest r_bad = some r) : FnA Tryd.prog 23 [.ptr 1000000 0 0] [(1000000, .box 54 [.str r_rest, .bool r_bad]), (900000000, gl0 ob0), (900000001, gl1 ob1 u1), (900000002, gl2 ob2 u2)] (.int .i64 r.1) [(1000000, .box 54 [.str r.2.1, .bool r.2.2]), (900000000, gl0 ob0), (900000001, gl1 ob1 u1), (900000002, gl2 ob2 u2)] := by
  refine fnA_of_wp (N := 5) Tryd.func23 rfl rfl rfl fun cK0 => ?_
  unfold s_wire_Reader_Num at hs
  refine v_same (ρ' := [(0, .ptr 1000000 0 0)]) rfl rfl ?_
  refine v_seq ?_
  refine vr_text ?_
  refine o_runs 1 [(2, .int .i64 0)] (by kernel_rfl) ?_
  refine ov_nil ?_
  refine nrm_thenV ?_
  refine v_seq ?_
  refine vr_text ?_
  refine o_runs 1 [(3, .ptr 1000000 0 0)] (by kernel_rfl) ?_
  obtain ⟨y1, c1, hs⟩ := bind_some hs
  refine o_loc (F := [(1000000, .box 54 [.str r_rest, .bool r_bad]), (900000000, gl0 ob0), (900000001, gl1 ob1 u1), (900000002, gl2 ob2 u2)]) (F' := [(1000000, .box 54 [.str y1.2.1, .bool y1.2.2]), (900000000, gl0 ob0), (900000001, gl1 ob1 u1), (900000002, gl2 ob2 u2)]) (v := .int .i64 y1.1) [1000000, 900000000, 900000001, 900000002] (by kernel_rfl) (by kernel_rfl) rfl (by kernel_rfl) (loc_g (R := []) [.ptr 1000000 0 0, .int .u8 59, .int .i64 0] [(1000000, 1000000), (900000000, 900000000), (900000001, 900000001), (900000002, 900000002)] (callV_func hbv48 (by kernel_rfl)) (w_wire_Reader_number (ob0 := ob0) (ob1 := ob1) (ob2 := ob2) (u1 := u1) (u2 := u2) r_rest r_bad 59 0 _ c1) (.cons (.same _) (.cons (.same _) (.cons (.same _) (.nil)))) (by kernel_rfl) (by kernel_rfl) (by kernel_rfl) (by kernel_rfl) (by kernel_rfl) (by kernel_rfl) (by kernel_rfl) (by kernel_rfl)) (by kernel_rfl) ?_
  refine o_runs 1 [(2, .int .i64 y1.1)] (by kernel_rfl) ?_
  refine ov_nil ?_
  refine nrm_thenV ?_
  refine v_ret ?_
  obtain rfl := Option.some.inj hs
  exact fin_ret (by kernel_rfl) (by kernel_rfl) (by kernel_rfl)
def s_wire_Reader_Left (r_rest : (List UInt8)) (r_bad : Bool) : Option (Int × (List UInt8) × Bool) :=
  some ((List.length r_rest : Int), r_rest, r_bad)
theorem w_wire_Reader_Left (r_rest : (List UInt8)) (r_bad : Bool) (r : Int × (List UInt8) × Bool) (hs : s_wire_Reader_Left r_rest r_bad = some r) : FnA Tryd.prog 28 [.ptr 1000000 0 0] [(1000000, .box 54 [.str r_rest, .bool r_bad])] (.int .i64 r.1) [(1000000, .box 54 [.str r.2.1, .bool r.2.2])] := by
  refine fnA_of_wp (N := 8) Tryd.func28 rfl rfl rfl fun cK0 => ?_
  unfold s_wire_Reader_Left at hs
  refine v_same (ρ' := [(0, .ptr 1000000 0 0)]) rfl rfl ?_
  refine v_seq ?_
  refine vr_text ?_
  refine o_runs 1 [(2, .int .i64 0)] (by kernel_rfl) ?_
  refine ov_nil ?_
  refine nrm_thenV ?_
  refine v_seq ?_
  refine vr_text ?_
  refine o_runs 6 [(2, .int .i64 (List.length r_rest : Int)), (7, .int .i64 (List.length r_rest : Int)), (6, .str r_rest), (5, .ptr 1000000 0 0), (4, .ptr 1000000 0 0), (3, .ptr 1000000 0 0)] (by kernel_rfl) ?_
  refine ov_nil ?_
  refine nrm_thenV ?_
  refine v_ret ?_
  obtain rfl := Option.some.inj hs
  exact fin_ret (by kernel_rfl) (by kernel_rfl) (by kernel_rfl)
def s_wire_Reader_Done (r_rest : (List UInt8)) (r_bad : Bool) : Option (Bool × (List UInt8) × Bool) :=
  ((bif (!r_bad) then some (decide (r_rest = [])) else some false)).bind fun v1 => some (v1, r_rest, r_bad)
theorem w_wire_Reader_Done (r_rest : (List UInt8)) (r_bad : Bool) (r : Bool × (List UInt8) × Bool) (hs : s_wire_Reader_Done r_rest r_bad = some r) : FnA Tryd.prog 29 [.ptr 1000000 0 0] [(1000000, .box 54 [.str r_rest, .bool r_bad])] (.bool r.1) [(1000000, .box 54 [.str r.2.1, .bool r.2.2])] := by
  refine fnA_of_wp (N := 15) Tryd.func29 rfl rfl rfl fun cK0 => ?_
  unfold s_wire_Reader_Done at hs
  refine v_same (ρ' := [(0, .ptr 1000000 0 0)]) rfl rfl ?_
  refine v_seq ?_
  refine vr_text ?_
  refine o_runs 1 [(2, .bool false)] (by kernel_rfl) ?_
  refine ov_nil ?_
  refine nrm_thenV ?_
  refine v_seq ?_
  obtain ⟨z1, hs, hk1⟩ := bind_some hs
  refine v_join (S := Bool) (fun u => u = z1) (fun u => [(2, .bool u)]) (fun u => [(1000000, .box 54 [.str r_rest, .bool r_bad])]) ?_ (fun v1 hz => ?_)
  · refine vr_text ?_
    refine o_runs 6 [(8, .bool (!r_bad)), (7, .bool (!r_bad)), (6, .bool r_bad), (5, .ptr 1000000 0 1), (4, .ptr 1000000 0 0), (3, .ptr 1000000 0 0)] (by kernel_rfl) ?_
    cases h1 : ((!r_bad))
    · replace hs := bif_f h1 hs
      refine o_runs 7 [(2, .bool false), (14, .bool false), (13, .no), (12, .no), (11, .no), (10, .no), (9, .no)] (by kernel_rfl) ?_
      refine ov_nil ?_
      obtain rfl := Option.some.inj hs
      refine nrm_join false rfl ?_
      exact cut_of [2] [1000000] (by kernel_rfl) (by kernel_rfl) (by kernel_rfl)
    · replace hs := bif_t h1 hs
      refine o_runs 7 [(2, .bool (decide (r_rest = []))), (14, .bool (decide (r_rest = []))), (13, .bool (decide (r_rest = []))), (12, .str r_rest), (11, .ptr 1000000 0 0), (10, .ptr 1000000 0 0), (9, .ptr 1000000 0 0)] (by kernel_rfl) ?_
      refine ov_nil ?_
      obtain rfl := Option.some.inj hs
      refine nrm_join (decide (r_rest = [])) rfl ?_
      exact cut_of [2] [1000000] (by kernel_rfl) (by kernel_rfl) (by kernel_rfl)
  · subst hz; clear hs; have hs := hk1; clear hk1
    refine nrm_thenV ?_
    refine v_ret ?_
    obtain rfl := Option.some.inj hs
    exact fin_ret (by kernel_rfl) (by kernel_rfl) (by kernel_rfl)
def s_greenbeltlaw01_small  : Option Bool :=
  ((s_wire_Num 0).bind fun y1 => (bif (decide (y1 = ([48, 59] : List UInt8))) then (s_wire_Num 300).bind fun y2 => (bif (decide (y2 = ([51, 48, 48, 59] : List UInt8))) then (s_wire_Num (-1)).bind fun y3 => (bif (decide (y3 = [])) then (s_wire_Int (-7)).bind fun y4 => (bif (decide (y4 = ([45, 55, 59] : List UInt8))) then (s_wire_Int 7).bind fun y5 => some (decide (y5 = ([55, 59] : List UInt8))) else some false) else some false) else some false) else some false)).bind fun v1 => ((s_wire_Text ([97, 44, 98] : List UInt8)).bind fun y6 => (bif (decide (y6 = ([51, 58, 97, 44, 98, 44] : List UInt8))) then (s_wire_Nums [1, (-1)]).bind fun y7 => (bif (decide (y7 = ([50, 91, 49, 59, 45, 49, 59, 93] : List UInt8))) then (s_wire_Texts []).bind fun y8 => some (decide (y8 = ([48, 91, 93] : List UInt8))) else some false) else some false)).bind fun v2 => (s_wire_Open ([48, 48, 55, 59] : List UInt8)).bind fun y9 => (s_wire_Reader_Num y9 false).bind fun y10 => ((bif v1 then (bif v2 then (bif (decide (y10.1 = 0)) then (s_wire_Reader_Left y10.2.1 y10.2.2).bind fun y11 => (bif (decide (y11.1 = 0)) then (s_wire_Reader_Done y11.2.1 y11.2.2).bind fun y12 => some (!y12.1) else some false) else some false) else some false) else some false)).bind fun v3 => some v3
theorem w_greenbeltlaw01_small  (r : Bool) (hs : s_greenbeltlaw01_small  = some r) : FnA Tryd.prog 9 [] [(900000000, gl0 ob0), (900000001, gl1 ob1 u1), (900000002, gl2 ob2 u2)] (.bool r) [(900000000, gl0 ob0), (900000001, gl1 ob1 u1), (900000002, gl2 ob2 u2)] := by
  refine fnA_of_wp (N := 57) Tryd.func9 rfl rfl rfl fun cK0 => ?_
  unfold s_greenbeltlaw01_small at hs
  refine v_same (ρ' := []) rfl rfl ?_
  refine v_seq ?_
  refine vr_text ?_
  refine o_runs 1 [(0, .bool false)] (by kernel_rfl) ?_
  refine ov_nil ?_
  refine nrm_thenV ?_
  refine v_seq ?_
  obtain ⟨z1, hs, hk1⟩ := bind_some hs
  refine v_join (S := Bool) (fun u => u = z1) (fun u => [(1, .bool u)]) (fun u => [(900000000, gl0 ob0), (900000001, gl1 ob1 u1), (900000002, gl2 ob2 u2)]) ?_ (fun v1 hz => ?_)
  · refine vr_text ?_
    obtain ⟨y1, c1, hs⟩ := bind_some hs
    refine o_loc (F := [(900000000, gl0 ob0), (900000001, gl1 ob1 u1), (900000002, gl2 ob2 u2)]) (F' := [(900000000, gl0 ob0), (900000001, gl1 ob1 u1), (900000002, gl2 ob2 u2)]) (v := .str y1) [900000000, 900000001, 900000002] (by kernel_rfl) (by kernel_rfl) rfl (by kernel_rfl) (loc_gcallL (vs := [.int .i64 0]) (G := [(900000000, gl0 ob0), (900000001, gl1 ob1 u1), (900000002, gl2 ob2 u2)]) (R := []) (callV_func hbv11 (by kernel_rfl)) (w_wire_Num (ob0 := ob0) (ob1 := ob1) (ob2 := ob2) (u1 := u1) (u2 := u2) 0 _ c1) (by kernel_rfl) (.cons (.same _) (.nil)) (by kernel_rfl) (by kernel_rfl) (by kernel_rfl)) (by kernel_rfl) ?_
    refine o_runs 2 [(7, .bool (decide (y1 = ([48, 59] : List UInt8)))), (6, .bool (decide (y1 = ([48, 59] : List UInt8))))] (by kernel_rfl) ?_
    cases h1 : ((decide (y1 = ([48, 59] : List UInt8))))
    · replace hs := bif_f h1 hs
      refine o_runs 16 [(1, .bool false), (22, .bool false), (21, .no), (20, .no), (19, .bool false), (18, .bool false), (17, .no), (16, .no), (15, .bool false), (14, .bool false), (13, .no), (12, .no), (11, .bool false), (10, .bool false), (9, .no), (8, .no)] (by kernel_rfl) ?_
      refine ov_nil ?_
      obtain rfl := Option.some.inj hs
      refine nrm_join false rfl ?_
      exact cut_of [1] [900000000, 900000001, 900000002] (by kernel_rfl) (by kernel_rfl) (by kernel_rfl)
    · replace hs := bif_t h1 hs
      obtain ⟨y2, c2, hs⟩ := bind_some hs
      refine o_loc (F := [(900000000, gl0 ob0), (900000001, gl1 ob1 u1), (900000002, gl2 ob2 u2)]) (F' := [(900000000, gl0 ob0), (900000001, gl1 ob1 u1), (900000002, gl2 ob2 u2)]) (v := .str y2) [900000000, 900000001, 900000002] (by kernel_rfl) (by kernel_rfl) rfl (by kernel_rfl) (loc_gcallL (vs := [.int .i64 300]) (G := [(900000000, gl0 ob0), (900000001, gl1 ob1 u1), (900000002, gl2 ob2 u2)]) (R := []) (callV_func hbv11 (by kernel_rfl)) (w_wire_Num (ob0 := ob0) (ob1 := ob1) (ob2 := ob2) (u1 := u1) (u2 := u2) 300 _ c2) (by kernel_rfl) (.cons (.same _) (.nil)) (by kernel_rfl) (by kernel_rfl) (by kernel_rfl)) (by kernel_rfl) ?_
      refine o_runs 3 [(11, .bool (decide (y2 = ([51, 48, 48, 59] : List UInt8)))), (10, .bool (decide (y2 = ([51, 48, 48, 59] : List UInt8)))), (9, .bool (decide (y2 = ([51, 48, 48, 59] : List UInt8))))] (by kernel_rfl) ?_
      cases h2 : ((decide (y2 = ([51, 48, 48, 59] : List UInt8))))
      · replace hs := bif_f h2 hs
        refine o_runs 12 [(1, .bool false), (22, .bool false), (21, .no), (20, .no), (19, .bool false), (18, .bool false), (17, .no), (16, .no), (15, .bool false), (14, .bool false), (13, .no), (12, .no)] (by kernel_rfl) ?_
        refine ov_nil ?_
        obtain rfl := Option.some.inj hs
        refine nrm_join false rfl ?_
        exact cut_of [1] [900000000, 900000001, 900000002] (by kernel_rfl) (by kernel_rfl) (by kernel_rfl)
      · replace hs := bif_t h2 hs
        obtain ⟨y3, c3, hs⟩ := bind_some hs
        refine o_loc (F := [(900000000, gl0 ob0), (900000001, gl1 ob1 u1), (900000002, gl2 ob2 u2)]) (F' := [(900000000, gl0 ob0), (900000001, gl1 ob1 u1), (900000002, gl2 ob2 u2)]) (v := .str y3) [900000000, 900000001, 900000002] (by kernel_rfl) (by kernel_rfl) rfl (by kernel_rfl) (loc_gcallL (vs := [.int .i64 (-1)]) (G := [(900000000, gl0 ob0), (900000001, gl1 ob1 u1), (900000002, gl2 ob2 u2)]) (R := []) (callV_func hbv11 (by kernel_rfl)) (w_wire_Num (ob0 := ob0) (ob1 := ob1) (ob2 := ob2) (u1 := u1) (u2 := u2) (-1) _ c3) (by kernel_rfl) (.cons (.same _) (.nil)) (by kernel_rfl) (by kernel_rfl) (by kernel_rfl)) (by kernel_rfl) ?_
        refine o_runs 3 [(15, .bool (decide (y3 = []))), (14, .bool (decide (y3 = []))), (13, .bool (decide (y3 = [])))] (by kernel_rfl) ?_
        cases h3 : ((decide (y3 = [])))
        · replace hs := bif_f h3 hs
          refine o_runs 8 [(1, .bool false), (22, .bool false), (21, .no), (20, .no), (19, .bool false), (18, .bool false), (17, .no), (16, .no)] (by kernel_rfl) ?_
          refine ov_nil ?_
          obtain rfl := Option.some.inj hs
          refine nrm_join false rfl ?_
          exact cut_of [1] [900000000, 900000001, 900000002] (by kernel_rfl) (by kernel_rfl) (by kernel_rfl)
        · replace hs := bif_t h3 hs
          obtain ⟨y4, c4, hs⟩ := bind_some hs
          refine o_loc (F := [(900000000, gl0 ob0), (900000001, gl1 ob1 u1), (900000002, gl2 ob2 u2)]) (F' := [(900000000, gl0 ob0), (900000001, gl1 ob1 u1), (900000002, gl2 ob2 u2)]) (v := .str y4) [900000000, 900000001, 900000002] (by kernel_rfl) (by kernel_rfl) rfl (by kernel_rfl) (loc_gcallL (vs := [.int .i64 (-7)]) (G := [(900000000, gl0 ob0), (900000001, gl1 ob1 u1), (900000002, gl2 ob2 u2)]) (R := []) (callV_func hbv13 (by kernel_rfl)) (w_wire_Int (ob0 := ob0) (ob1 := ob1) (ob2 := ob2) (u1 := u1) (u2 := u2) (-7) _ c4) (by kernel_rfl) (.cons (.same _) (.nil)) (by kernel_rfl) (by kernel_rfl) (by kernel_rfl)) (by kernel_rfl) ?_
          refine o_runs 3 [(19, .bool (decide (y4 = ([45, 55, 59] : List UInt8)))), (18, .bool (decide (y4 = ([45, 55, 59] : List UInt8)))), (17, .bool (decide (y4 = ([45, 55, 59] : List UInt8))))] (by kernel_rfl) ?_
          cases h4 : ((decide (y4 = ([45, 55, 59] : List UInt8))))
          · replace hs := bif_f h4 hs
            refine o_runs 4 [(1, .bool false), (22, .bool false), (21, .no), (20, .no)] (by kernel_rfl) ?_
            refine ov_nil ?_
            obtain rfl := Option.some.inj hs
            refine nrm_join false rfl ?_
            exact cut_of [1] [900000000, 900000001, 900000002] (by kernel_rfl) (by kernel_rfl) (by kernel_rfl)
          · replace hs := bif_t h4 hs
            obtain ⟨y5, c5, hs⟩ := bind_some hs
            refine o_loc (F := [(900000000, gl0 ob0), (900000001, gl1 ob1 u1), (900000002, gl2 ob2 u2)]) (F' := [(900000000, gl0 ob0), (900000001, gl1 ob1 u1), (900000002, gl2 ob2 u2)]) (v := .str y5) [900000000, 900000001, 900000002] (by kernel_rfl) (by kernel_rfl) rfl (by kernel_rfl) (loc_gcallL (vs := [.int .i64 7]) (G := [(900000000, gl0 ob0), (900000001, gl1 ob1 u1), (900000002, gl2 ob2 u2)]) (R := []) (callV_func hbv13 (by kernel_rfl)) (w_wire_Int (ob0 := ob0) (ob1 := ob1) (ob2 := ob2) (u1 := u1) (u2 := u2) 7 _ c5) (by kernel_rfl) (.cons (.same _) (.nil)) (by kernel_rfl) (by kernel_rfl) (by kernel_rfl)) (by kernel_rfl) ?_
            refine o_runs 3 [(1, .bool (decide (y5 = ([55, 59] : List UInt8)))), (22, .bool (decide (y5 = ([55, 59] : List UInt8)))), (21, .bool (decide (y5 = ([55, 59] : List UInt8))))] (by kernel_rfl) ?_
            refine ov_nil ?_
            obtain rfl := Option.some.inj hs
            refine nrm_join (decide (y5 = ([55, 59] : List UInt8))) rfl ?_
            exact cut_of [1] [900000000, 900000001, 900000002] (by kernel_rfl) (by kernel_rfl) (by kernel_rfl)
  · subst hz; clear hs; have hs := hk1; clear hk1
    refine nrm_thenV ?_
    refine v_seq ?_
    obtain ⟨z2, hs, hk2⟩ := bind_some hs
    refine v_join (S := Bool) (fun u => u = z2) (fun u => [(1, .bool v1), (2, .bool u)]) (fun u => [(900000000, gl0 ob0), (900000001, gl1 ob1 u1), (900000002, gl2 ob2 u2)]) ?_ (fun v2 hz => ?_)
    · refine vr_text ?_
      obtain ⟨y6, c6, hs⟩ := bind_some hs
      refine o_loc (F := [(900000000, gl0 ob0), (900000001, gl1 ob1 u1), (900000002, gl2 ob2 u2)]) (F' := [(900000000, gl0 ob0), (900000001, gl1 ob1 u1), (900000002, gl2 ob2 u2)]) (v := .str y6) [900000000, 900000001, 900000002] (by kernel_rfl) (by kernel_rfl) rfl (by kernel_rfl) (loc_gcallL (vs := [.str ([97, 44, 98] : List UInt8)]) (G := [(900000000, gl0 ob0), (900000001, gl1 ob1 u1), (900000002, gl2 ob2 u2)]) (R := []) (callV_func hbv15 (by kernel_rfl)) (w_wire_Text (ob0 := ob0) (ob1 := ob1) (ob2 := ob2) (u1 := u1) (u2 := u2) ([97, 44, 98] : List UInt8) _ c6) (by kernel_rfl) (.cons (.same _) (.nil)) (by kernel_rfl) (by kernel_rfl) (by kernel_rfl)) (by kernel_rfl) ?_
      refine o_runs 2 [(25, .bool (decide (y6 = ([51, 58, 97, 44, 98, 44] : List UInt8)))), (24, .bool (decide (y6 = ([51, 58, 97, 44, 98, 44] : List UInt8))))] (by kernel_rfl) ?_
      cases h5 : ((decide (y6 = ([51, 58, 97, 44, 98, 44] : List UInt8))))
      · replace hs := bif_f h5 hs
        refine o_runs 9 [(2, .bool false), (33, .bool false), (32, .no), (31, .no), (30, .bool false), (29, .bool false), (28, .no), (27, .no), (26, .no)] (by kernel_rfl) ?_
        refine ov_nil ?_
        obtain rfl := Option.some.inj hs
        refine nrm_join false rfl ?_
        exact cut_of [1, 2] [900000000, 900000001, 900000002] (by kernel_rfl) (by kernel_rfl) (by kernel_rfl)
      · replace hs := bif_t h5 hs
        refine o_runh 1 [(26, .sl 1 26 2 0 2)] [(26, .row 3 1 0 (List.map EV.encI [1, (-1)])), (900000000, gl0 ob0), (900000001, gl1 ob1 u1), (900000002, gl2 ob2 u2)] (by kernel_rfl) ?_
        obtain ⟨y7, c7, hs⟩ := bind_some hs
        refine o_loc (F := [(900000000, gl0 ob0), (900000001, gl1 ob1 u1), (900000002, gl2 ob2 u2), (26, .row 3 1 0 (List.map EV.encI [1, (-1)]))]) (F' := [(900000000, gl0 ob0), (900000001, gl1 ob1 u1), (900000002, gl2 ob2 u2), (26, .row 3 1 0 (List.map EV.encI [1, (-1)]))]) (v := .str y7) [900000000, 900000001, 900000002, 26] (by kernel_rfl) (by kernel_rfl) rfl (by kernel_rfl) (loc_gcallL (vs := [.sl 1 26 2 0 2]) (G := [(900000000, gl0 ob0), (900000001, gl1 ob1 u1), (900000002, gl2 ob2 u2)]) (R := [(26, .row 3 1 0 (List.map EV.encI [1, (-1)]))]) (callV_func hbv17 (by kernel_rfl)) (w_wire_Nums (ob0 := ob0) (ob1 := ob1) (ob2 := ob2) (u1 := u1) (u2 := u2) [1, (-1)] _ c7) (by kernel_rfl) (.cons (.row (t := 3) (fz := 0) (by kernel_rfl) (by first | (simp only [List.length_map, List.length_set]; done) | rfl)) (.nil)) (by kernel_rfl) (by kernel_rfl) (by kernel_rfl)) (by kernel_rfl) ?_
        refine o_runs 3 [(30, .bool (decide (y7 = ([50, 91, 49, 59, 45, 49, 59, 93] : List UInt8)))), (29, .bool (decide (y7 = ([50, 91, 49, 59, 45, 49, 59, 93] : List UInt8)))), (28, .bool (decide (y7 = ([50, 91, 49, 59, 45, 49, 59, 93] : List UInt8))))] (by kernel_rfl) ?_
        cases h6 : ((decide (y7 = ([50, 91, 49, 59, 45, 49, 59, 93] : List UInt8))))
        · replace hs := bif_f h6 hs
          refine o_runs 4 [(2, .bool false), (33, .bool false), (32, .no), (31, .no)] (by kernel_rfl) ?_
          refine ov_nil ?_
          obtain rfl := Option.some.inj hs
          refine nrm_join false rfl ?_
          exact cut_of [1, 2] [900000000, 900000001, 900000002] (by kernel_rfl) (by kernel_rfl) (by kernel_rfl)
        · replace hs := bif_t h6 hs
          obtain ⟨y8, c8, hs⟩ := bind_some hs
          refine o_loc (F := [(900000000, gl0 ob0), (900000001, gl1 ob1 u1), (900000002, gl2 ob2 u2)]) (F' := [(900000000, gl0 ob0), (900000001, gl1 ob1 u1), (900000002, gl2 ob2 u2)]) (v := .str y8) [900000000, 900000001, 900000002] (by kernel_rfl) (by kernel_rfl) rfl (by kernel_rfl) (loc_gcallL (vs := [.nils]) (G := [(900000000, gl0 ob0), (900000001, gl1 ob1 u1), (900000002, gl2 ob2 u2)]) (R := []) (callV_func hbv19 (by kernel_rfl)) (w_wire_Texts (ob0 := ob0) (ob1 := ob1) (ob2 := ob2) (u1 := u1) (u2 := u2) [] _ c8) (by kernel_rfl) (.cons (.nils _) (.nil)) (by kernel_rfl) (by kernel_rfl) (by kernel_rfl)) (by kernel_rfl) ?_
          refine o_runs 3 [(2, .bool (decide (y8 = ([48, 91, 93] : List UInt8)))), (33, .bool (decide (y8 = ([48, 91, 93] : List UInt8)))), (32, .bool (decide (y8 = ([48, 91, 93] : List UInt8))))] (by kernel_rfl) ?_
          refine ov_nil ?_
          obtain rfl := Option.some.inj hs
          refine nrm_join (decide (y8 = ([48, 91, 93] : List UInt8))) rfl ?_
          exact cut_of [1, 2] [900000000, 900000001, 900000002] (by kernel_rfl) (by kernel_rfl) (by kernel_rfl)
    · subst hz; clear hs; have hs := hk2; clear hk2
      refine nrm_thenV ?_
      refine v_seq ?_
      refine vr_text ?_
      obtain ⟨y9, c9, hs⟩ := bind_some hs
      refine o_loc (F := []) (F' := [(3003400, .box 54 [.str y9, .bool false])]) (v := .ptr 3003400 0 0) [] (by kernel_rfl) (by kernel_rfl) rfl (by kernel_rfl) (loc_g (R := []) [.str ([48, 48, 55, 59] : List UInt8)] [(5, 3003400)] (callV_func hbv21 (by kernel_rfl)) (w_wire_Open ([48, 48, 55, 59] : List UInt8) _ c9) (.cons (.same _) (.nil)) (by kernel_rfl) (by kernel_rfl) (by kernel_rfl) (by kernel_rfl) (by kernel_rfl) (by kernel_rfl) (by kernel_rfl) (by kernel_rfl)) (by kernel_rfl) ?_
      refine o_runs 1 [(3, .ptr 3003400 0 0)] (by kernel_rfl) ?_
      refine ov_nil ?_
      refine nrm_thenV ?_
      refine v_seq ?_
      refine v_seq ?_
      refine vr_text ?_
      refine o_runs 2 [(36, .bool false), (35, .ptr 3003400 0 0)] (by kernel_rfl) ?_
      refine ov_nil ?_
      refine nrm_thenV ?_
      refine v_cond_f (by kernel_rfl) ?_
      refine v_skip ?_
      refine nrm_thenV ?_
      refine v_seq ?_
      refine vr_text ?_
      refine o_runs 1 [(37, .ptr 3003400 0 0)] (by kernel_rfl) ?_
      obtain ⟨y10, c10, hs⟩ := bind_some hs
      refine o_loc (F := [(3003400, .box 54 [.str y9, .bool false]), (900000000, gl0 ob0), (900000001, gl1 ob1 u1), (900000002, gl2 ob2 u2)]) (F' := [(3003400, .box 54 [.str y10.2.1, .bool y10.2.2]), (900000000, gl0 ob0), (900000001, gl1 ob1 u1), (900000002, gl2 ob2 u2)]) (v := .int .i64 y10.1) [3003400, 900000000, 900000001, 900000002] (by kernel_rfl) (by kernel_rfl) rfl (by kernel_rfl) (loc_g (R := []) [.ptr 3003400 0 0] [(1000000, 3003400), (900000000, 900000000), (900000001, 900000001), (900000002, 900000002)] (callV_func hbv23 (by kernel_rfl)) (w_wire_Reader_Num (ob0 := ob0) (ob1 := ob1) (ob2 := ob2) (u1 := u1) (u2 := u2) y9 false _ c10) (.cons (.same _) (.nil)) (by kernel_rfl) (by kernel_rfl) (by kernel_rfl) (by kernel_rfl) (by kernel_rfl) (by kernel_rfl) (by kernel_rfl) (by kernel_rfl)) (by kernel_rfl) ?_
      refine o_runs 1 [(4, .int .i64 y10.1)] (by kernel_rfl) ?_
      refine ov_nil ?_
      refine nrm_thenV ?_
      refine v_seq ?_
      obtain ⟨z3, hs, hk3⟩ := bind_some hs
      refine v_join (S := Bool) (fun u => u = z3) (fun u => [(0, .bool u)]) (fun u => [(900000000, gl0 ob0), (900000001, gl1 ob1 u1), (900000002, gl2 ob2 u2)]) ?_ (fun v3 hz => ?_)
      · refine vr_text ?_
        refine o_runs 2 [(40, .bool v1), (39, .bool v1)] (by kernel_rfl) ?_
        cases h7 : (v1)
        · replace hs := bif_f h7 hs
          refine o_runs 17 [(0, .bool false), (56, .bool false), (55, .no), (54, .no), (53, .no), (52, .bool false), (51, .bool false), (50, .no), (49, .no), (48, .no), (47, .bool false), (46, .bool false), (45, .no), (44, .no), (43, .bool false), (42, .bool false), (41, .no)] (by kernel_rfl) ?_
          refine ov_nil ?_
          obtain rfl := Option.some.inj hs
          refine nrm_join false rfl ?_
          exact cut_of [0] [900000000, 900000001, 900000002] (by kernel_rfl) (by kernel_rfl) (by kernel_rfl)
        · replace hs := bif_t h7 hs
          refine o_runs 3 [(43, .bool v2), (42, .bool v2), (41, .bool v2)] (by kernel_rfl) ?_
          cases h8 : (v2)
          · replace hs := bif_f h8 hs
            refine o_runs 14 [(0, .bool false), (56, .bool false), (55, .no), (54, .no), (53, .no), (52, .bool false), (51, .bool false), (50, .no), (49, .no), (48, .no), (47, .bool false), (46, .bool false), (45, .no), (44, .no)] (by kernel_rfl) ?_
            refine ov_nil ?_
            obtain rfl := Option.some.inj hs
            refine nrm_join false rfl ?_
            exact cut_of [0] [900000000, 900000001, 900000002] (by kernel_rfl) (by kernel_rfl) (by kernel_rfl)
          · replace hs := bif_t h8 hs
            refine o_runs 4 [(47, .bool (decide (y10.1 = 0))), (46, .bool (decide (y10.1 = 0))), (45, .bool (decide (y10.1 = 0))), (44, .int .i64 y10.1)] (by kernel_rfl) ?_
            cases h9 : ((decide (y10.1 = 0)))
            · replace hs := bif_f h9 hs
              refine o_runs 10 [(0, .bool false), (56, .bool false), (55, .no), (54, .no), (53, .no), (52, .bool false), (51, .bool false), (50, .no), (49, .no), (48, .no)] (by kernel_rfl) ?_
              refine ov_nil ?_
              obtain rfl := Option.some.inj hs
              refine nrm_join false rfl ?_
              exact cut_of [0] [900000000, 900000001, 900000002] (by kernel_rfl) (by kernel_rfl) (by kernel_rfl)
            · replace hs := bif_t h9 hs
              refine o_runs 1 [(48, .ptr 3003400 0 0)] (by kernel_rfl) ?_
              obtain ⟨y11, c11, hs⟩ := bind_some hs
              refine o_loc (F := [(3003400, .box 54 [.str y10.2.1, .bool y10.2.2])]) (F' := [(3003400, .box 54 [.str y11.2.1, .bool y11.2.2])]) (v := .int .i64 y11.1) [3003400] (by kernel_rfl) (by kernel_rfl) rfl (by kernel_rfl) (loc_g (R := []) [.ptr 3003400 0 0] [(1000000, 3003400)] (callV_func hbv28 (by kernel_rfl)) (w_wire_Reader_Left y10.2.1 y10.2.2 _ c11) (.cons (.same _) (.nil)) (by kernel_rfl) (by kernel_rfl) (by kernel_rfl) (by kernel_rfl) (by kernel_rfl) (by kernel_rfl) (by kernel_rfl) (by kernel_rfl)) (by kernel_rfl) ?_
              refine o_runs 3 [(52, .bool (decide (y11.1 = 0))), (51, .bool (decide (y11.1 = 0))), (50, .bool (decide (y11.1 = 0)))] (by kernel_rfl) ?_
              cases h10 : ((decide (y11.1 = 0)))
              · replace hs := bif_f h10 hs
                refine o_runs 5 [(0, .bool false), (56, .bool false), (55, .no), (54, .no), (53, .no)] (by kernel_rfl) ?_
                refine ov_nil ?_
                obtain rfl := Option.some.inj hs
                refine nrm_join false rfl ?_
                exact cut_of [0] [900000000, 900000001, 900000002] (by kernel_rfl) (by kernel_rfl) (by kernel_rfl)
              · replace hs := bif_t h10 hs
                refine o_runs 1 [(53, .ptr 3003400 0 0)] (by kernel_rfl) ?_
                obtain ⟨y12, c12, hs⟩ := bind_some hs
                refine o_loc (F := [(3003400, .box 54 [.str y11.2.1, .bool y11.2.2])]) (F' := [(3003400, .box 54 [.str y12.2.1, .bool y12.2.2])]) (v := .bool y12.1) [3003400] (by kernel_rfl) (by kernel_rfl) rfl (by kernel_rfl) (loc_g (R := []) [.ptr 3003400 0 0] [(1000000, 3003400)] (callV_func hbv29 (by kernel_rfl)) (w_wire_Reader_Done y11.2.1 y11.2.2 _ c12) (.cons (.same _) (.nil)) (by kernel_rfl) (by kernel_rfl) (by kernel_rfl) (by kernel_rfl) (by kernel_rfl) (by kernel_rfl) (by kernel_rfl) (by kernel_rfl)) (by kernel_rfl) ?_
                refine o_runs 3 [(0, .bool (!y12.1)), (56, .bool (!y12.1)), (55, .bool (!y12.1))] (by kernel_rfl) ?_
                refine ov_nil ?_
                obtain rfl := Option.some.inj hs
                refine nrm_join (!y12.1) rfl ?_
                exact cut_of [0] [900000000, 900000001, 900000002] (by kernel_rfl) (by kernel_rfl) (by kernel_rfl)
      · subst hz; clear hs; have hs := hk3; clear hk3
        refine nrm_thenV ?_
        refine v_ret ?_
        obtain rfl := Option.some.inj hs
        exact fin_ret (by kernel_rfl) (by kernel_rfl) (by kernel_rfl)
def s_greenbeltlaw01_few_L2 (l : (List greenbeltlaw01_Value)) (q1 : (Int × Int)) : Nat → (Int × Int) → Option (Bool ⊕ Int)
  | 0, _ => none
  | K2 + 1, q2 => (idx l q1.2).bind fun x7 => (bif (decide (q2.2 < (List.length x7.T : Int))) then (idx l q1.2).bind fun x8 => (idx x8.T q2.2).bind fun x9 => (bif (decide ((List.length x9 : Int) > 400)) then some (.inl false) else (idx l q1.2).bind fun x10 => (idx x10.T q2.2).bind fun x11 => (s_greenbeltlaw01_few_L2 l q1) K2 ((w64 (q2.1 + (List.length x11 : Int))), (w64 (q2.2 + 1)))) else some (.inr q2.1))
def s_greenbeltlaw01_few_L1 (l : (List greenbeltlaw01_Value)) : Nat → (Int × Int) → Option (Bool ⊕ Int)
  | 0, _ => none
  | K1 + 1, q1 => (bif (decide (q1.2 < (List.length l : Int))) then ((idx l q1.2).bind fun x1 => (bif (decide ((List.length x1.L : Int) > 400)) then some true else (idx l q1.2).bind fun x2 => (bif (decide ((List.length x2.T : Int) > 400)) then some true else (idx l q1.2).bind fun x3 => some (decide ((List.length x3.S : Int) > 400))))).bind fun v2 => (bif v2 then some (.inl false) else (idx l q1.2).bind fun x4 => (idx l q1.2).bind fun x5 => (idx l q1.2).bind fun x6 => ((s_greenbeltlaw01_few_L2 l q1) KK ((w64 ((w64 ((w64 (q1.1 + (List.length x4.S : Int))) + (List.length x5.L : Int))) + (List.length x6.T : Int))), 0) : Option (Bool ⊕ Int)).bind fun z3 => match z3 with
 | .inl r => some (.inl r)
 | .inr v3 => (s_greenbeltlaw01_few_L1 l) K1 (v3, (w64 (q1.2 + 1)))) else some (.inr q1.1))
def s_greenbeltlaw01_few (l : (List greenbeltlaw01_Value)) : Option Bool :=
  (bif (decide ((List.length l : Int) > 20)) then some false else ((s_greenbeltlaw01_few_L1 l) KK (0, 0) : Option (Bool ⊕ Int)).bind fun z1 => match z1 with
 | .inl r => some r
 | .inr v1 => some (decide (v1 ≤ 400)))
theorem w_greenbeltlaw01_few (l : (List greenbeltlaw01_Value)) (r : Bool) (hs : s_greenbeltlaw01_few l = some r) : FnA Tryd.prog 10 [.vs 5 (List.map enc_greenbeltlaw01_Value l)] [] (.bool r) [] := by
  refine fnA_of_wp (N := 95) Tryd.func10 rfl rfl rfl fun cK0 => ?_
  unfold s_greenbeltlaw01_few at hs
  refine v_same (ρ' := [(0, .vs 5 (List.map enc_greenbeltlaw01_Value l))]) rfl rfl ?_
  refine v_seq ?_
  refine vr_text ?_
  refine o_runs 1 [(2, .bool false)] (by kernel_rfl) ?_
  refine ov_nil ?_
  refine nrm_thenV ?_
  refine v_seq ?_
  refine v_seq ?_
  refine vr_text ?_
  refine o_runs 1 [(6, .vs 5 (List.map enc_greenbeltlaw01_Value l))] (by kernel_rfl) ?_
  refine o_pure (v := .int .i64 (List.length l : Int)) (by kernel_rfl) (by kernel_rfl) (loc_lenVs (sz := 5) (els := (List.map enc_greenbeltlaw01_Value l)) (by kernel_rfl) (by kernel_rfl) (List.length_map ..)) ?_
  refine o_runs 1 [(8, .bool (decide ((List.length l : Int) > 20)))] (by kernel_rfl) ?_
  refine ov_nil ?_
  refine nrm_thenV ?_
  refine v_cond (decide ((List.length l : Int) > 20)) (by kernel_rfl) (fun h1 => ?_) (fun h1 => ?_)
  · replace hs := bif_t h1 hs
    refine v_seq ?_
    refine vr_text ?_
    refine o_runs 1 [(2, .bool false)] (by kernel_rfl) ?_
    refine ov_nil ?_
    refine nrm_thenV ?_
    refine v_ret ?_
    refine ret_thenV ?_
    obtain rfl := Option.some.inj hs
    exact fin_ret (by kernel_rfl) (by kernel_rfl) (by kernel_rfl)
  · replace hs := bif_f h1 hs
    refine v_skip ?_
    refine nrm_thenV ?_
    refine v_seq ?_
    refine vr_text ?_
    refine o_runs 1 [(3, .int .i64 0)] (by kernel_rfl) ?_
    refine ov_nil ?_
    refine nrm_thenV ?_
    refine v_seq ?_
    refine v_seq ?_
    refine vr_text ?_
    refine o_runs 1 [(4, .int .i64 0)] (by kernel_rfl) ?_
    refine ov_nil ?_
    refine nrm_thenV ?_
    obtain ⟨z1, hs, hk1⟩ := bind_some hs
    refine v_join (S := Int) (fun u => z1 = .inr u) (fun u => [(3, .int .i64 u)]) (fun u => []) ?_ (fun v1 hz => ?_)
    · refine v_block ?_
      refine v_fuel (S := Int × Int) (fun u => [(0, .vs 5 (List.map enc_greenbeltlaw01_Value l)), (3, .int .i64 u.1), (4, .int .i64 u.2)]) (fun u => []) (s_greenbeltlaw01_few_L1 l) (fun _ => rfl) KK (0, 0) hs (cut_of [0, 3, 4] [] (by kernel_rfl) (by kernel_rfl) (by kernel_rfl)) (fun K1 q1 hs => ?_)
      rw [s_greenbeltlaw01_few_L1] at hs
      show WpV cK0 Tryd.prog none 95 _ _ [(0, .vs 5 (List.map enc_greenbeltlaw01_Value l)), (3, .int .i64 q1.1), (4, .int .i64 q1.2)] [] []
      refine v_seq ?_
      refine v_seq ?_
      refine vr_text ?_
      refine o_runs 2 [(10, .vs 5 (List.map enc_greenbeltlaw01_Value l)), (9, .int .i64 q1.2)] (by kernel_rfl) ?_
      refine o_pure (v := .int .i64 (List.length l : Int)) (by kernel_rfl) (by kernel_rfl) (loc_lenVs (sz := 5) (els := (List.map enc_greenbeltlaw01_Value l)) (by kernel_rfl) (by kernel_rfl) (List.length_map ..)) ?_
      refine o_runs 1 [(12, .bool (decide (q1.2 < (List.length l : Int))))] (by kernel_rfl) ?_
      refine ov_nil ?_
      refine nrm_thenV ?_
      refine v_cond (decide (q1.2 < (List.length l : Int))) (by kernel_rfl) (fun h2 => ?_) (fun h2 => ?_)
      · replace hs := bif_t h2 hs
        refine v_skip ?_
        refine nrm_thenV ?_
        refine v_seq ?_
        refine v_block ?_
        refine v_seq ?_
        refine v_seq ?_
        obtain ⟨z2, hs, hk2⟩ := bind_some hs
        refine v_join (S := Bool) (fun u => u = z2) (fun u => [(0, .vs 5 (List.map enc_greenbeltlaw01_Value l)), (3, .int .i64 q1.1), (4, .int .i64 q1.2), (39, .bool u)]) (fun u => []) ?_ (fun v2 hz => ?_)
        · refine vr_text ?_
          refine o_runs 2 [(16, .int .i64 q1.2), (15, .vs 5 (List.map enc_greenbeltlaw01_Value l))] (by kernel_rfl) ?_
          obtain ⟨x1, g1, hs⟩ := bind_some hs; obtain ⟨g1a, g1b, g1c⟩ := idx_some g1
          refine o_pure (v := .vp (enc_greenbeltlaw01_Value x1) 0) (by kernel_rfl) (by kernel_rfl) (loc_indexVs (e := 25) (sz := 5) (k := .i64) (els := (List.map enc_greenbeltlaw01_Value l)) (cs := (enc_greenbeltlaw01_Value x1)) (by kernel_rfl) (by kernel_rfl) (by kernel_rfl) g1a (by rw [g1c]; exact map_get _ (by omega))) ?_
          refine o_runs 2 [(19, .vs 1 (List.map EV.encI x1.L)), (18, .vp (enc_greenbeltlaw01_Value x1) 3)] (by kernel_rfl) ?_
          refine o_pure (v := .int .i64 (List.length x1.L : Int)) (by kernel_rfl) (by kernel_rfl) (loc_lenVs (sz := 1) (els := (List.map EV.encI x1.L)) (by kernel_rfl) (by kernel_rfl) (List.length_map ..)) ?_
          refine o_runs 2 [(22, .bool (decide ((List.length x1.L : Int) > 400))), (21, .bool (decide ((List.length x1.L : Int) > 400)))] (by kernel_rfl) ?_
          cases h3 : ((decide ((List.length x1.L : Int) > 400)))
          · replace hs := bif_f h3 hs
            refine o_runs 2 [(24, .int .i64 q1.2), (23, .vs 5 (List.map enc_greenbeltlaw01_Value l))] (by kernel_rfl) ?_
            obtain ⟨x2, g2, hs⟩ := bind_some hs; obtain ⟨g2a, g2b, g2c⟩ := idx_some g2
            refine o_pure (v := .vp (enc_greenbeltlaw01_Value x2) 0) (by kernel_rfl) (by kernel_rfl) (loc_indexVs (e := 25) (sz := 5) (k := .i64) (els := (List.map enc_greenbeltlaw01_Value l)) (cs := (enc_greenbeltlaw01_Value x2)) (by kernel_rfl) (by kernel_rfl) (by kernel_rfl) g2a (by rw [g2c]; exact map_get _ (by omega))) ?_
            refine o_runs 2 [(27, .vs 1 (List.map EV.encS x2.T)), (26, .vp (enc_greenbeltlaw01_Value x2) 4)] (by kernel_rfl) ?_
            refine o_pure (v := .int .i64 (List.length x2.T : Int)) (by kernel_rfl) (by kernel_rfl) (loc_lenVs (sz := 1) (els := (List.map EV.encS x2.T)) (by kernel_rfl) (by kernel_rfl) (List.length_map ..)) ?_
            refine o_runs 3 [(31, .bool (decide ((List.length x2.T : Int) > 400))), (30, .bool (decide ((List.length x2.T : Int) > 400))), (29, .bool (decide ((List.length x2.T : Int) > 400)))] (by kernel_rfl) ?_
            cases h4 : ((decide ((List.length x2.T : Int) > 400)))
            · replace hs := bif_f h4 hs
              refine o_runs 2 [(33, .int .i64 q1.2), (32, .vs 5 (List.map enc_greenbeltlaw01_Value l))] (by kernel_rfl) ?_
              obtain ⟨x3, g3, hs⟩ := bind_some hs; obtain ⟨g3a, g3b, g3c⟩ := idx_some g3
              refine o_pure (v := .vp (enc_greenbeltlaw01_Value x3) 0) (by kernel_rfl) (by kernel_rfl) (loc_indexVs (e := 25) (sz := 5) (k := .i64) (els := (List.map enc_greenbeltlaw01_Value l)) (cs := (enc_greenbeltlaw01_Value x3)) (by kernel_rfl) (by kernel_rfl) (by kernel_rfl) g3a (by rw [g3c]; exact map_get _ (by omega))) ?_
              refine o_runs 5 [(39, .bool (decide ((List.length x3.S : Int) > 400))), (38, .bool (decide ((List.length x3.S : Int) > 400))), (37, .int .i64 (List.length x3.S : Int)), (36, .str x3.S), (35, .vp (enc_greenbeltlaw01_Value x3) 2)] (by kernel_rfl) ?_
              refine ov_nil ?_
              obtain rfl := Option.some.inj hs
              refine nrm_join (decide ((List.length x3.S : Int) > 400)) rfl ?_
              exact cut_of [0, 3, 4, 39] [] (by kernel_rfl) (by kernel_rfl) (by kernel_rfl)
            · replace hs := bif_t h4 hs
              refine o_runs 8 [(39, .bool true), (38, .no), (37, .no), (36, .no), (35, .no), (34, .no), (33, .no), (32, .no)] (by kernel_rfl) ?_
              refine ov_nil ?_
              obtain rfl := Option.some.inj hs
              refine nrm_join true rfl ?_
              exact cut_of [0, 3, 4, 39] [] (by kernel_rfl) (by kernel_rfl) (by kernel_rfl)
          · replace hs := bif_t h3 hs
            refine o_runs 17 [(39, .bool true), (38, .no), (37, .no), (36, .no), (35, .no), (34, .no), (33, .no), (32, .no), (31, .bool true), (30, .bool true), (29, .no), (28, .no), (27, .no), (26, .no), (25, .no), (24, .no), (23, .no)] (by kernel_rfl) ?_
            refine ov_nil ?_
            obtain rfl := Option.some.inj hs
            refine nrm_join true rfl ?_
            exact cut_of [0, 3, 4, 39] [] (by kernel_rfl) (by kernel_rfl) (by kernel_rfl)
        · subst hz; clear hs; have hs := hk2; clear hk2
          refine nrm_thenV ?_
          refine v_cond v2 (by kernel_rfl) (fun h5 => ?_) (fun h5 => ?_)
          · replace hs := bif_t h5 hs
            refine v_seq ?_
            refine vr_text ?_
            refine o_runs 1 [(2, .bool false)] (by kernel_rfl) ?_
            refine ov_nil ?_
            refine nrm_thenV ?_
            refine v_ret ?_
            refine ret_thenV ?_
            refine ret_blkV ?_
            refine ret_thenV ?_
            refine ret_fuel ?_
            refine ret_blkV ?_
            refine ret_join ?_
            refine ret_thenV ?_
            obtain rfl := Option.some.inj hs
            replace hs := hk1
            obtain rfl := Option.some.inj hs
            exact fin_ret (by kernel_rfl) (by kernel_rfl) (by kernel_rfl)
          · replace hs := bif_f h5 hs
            refine v_skip ?_
            refine nrm_thenV ?_
            refine v_seq ?_
            refine v_draw mixedH (by kernel_rfl) ?_
            refine d_runs 3 0 [(42, .int .i64 q1.2), (41, .vs 5 (List.map enc_greenbeltlaw01_Value l)), (40, .int .i64 q1.1)] (pfp 3 2) (by kernel_rfl) (by kernel_rfl) ?_
            obtain ⟨x4, g4, hs⟩ := bind_some hs; obtain ⟨g4a, g4b, g4c⟩ := idx_some g4
            refine d_pure (v := .vp (enc_greenbeltlaw01_Value x4) 0) 3 rfl rfl rfl rfl (by kernel_rfl) (by kernel_rfl) (loc_indexVs (e := 25) (sz := 5) (k := .i64) (els := (List.map enc_greenbeltlaw01_Value l)) (cs := (enc_greenbeltlaw01_Value x4)) (by kernel_rfl) (by kernel_rfl) (by kernel_rfl) g4a (by rw [g4c]; exact map_get _ (by omega))) ?_
            refine d_runs 6 4 [(49, .int .i64 q1.2), (48, .vs 5 (List.map enc_greenbeltlaw01_Value l)), (47, .int .i64 (w64 (q1.1 + (List.length x4.S : Int)))), (46, .int .i64 (List.length x4.S : Int)), (45, .str x4.S), (44, .vp (enc_greenbeltlaw01_Value x4) 2)] (pfp 6 9) (by kernel_rfl) (by kernel_rfl) ?_
            obtain ⟨x5, g5, hs⟩ := bind_some hs; obtain ⟨g5a, g5b, g5c⟩ := idx_some g5
            refine d_pure (v := .vp (enc_greenbeltlaw01_Value x5) 0) 10 rfl rfl rfl rfl (by kernel_rfl) (by kernel_rfl) (loc_indexVs (e := 25) (sz := 5) (k := .i64) (els := (List.map enc_greenbeltlaw01_Value l)) (cs := (enc_greenbeltlaw01_Value x5)) (by kernel_rfl) (by kernel_rfl) (by kernel_rfl) g5a (by rw [g5c]; exact map_get _ (by omega))) ?_
            refine d_runs 2 11 [(52, .vs 1 (List.map EV.encI x5.L)), (51, .vp (enc_greenbeltlaw01_Value x5) 3)] (pfp 2 12) (by kernel_rfl) (by kernel_rfl) ?_
            refine d_pure (v := .int .i64 (List.length x5.L : Int)) 13 rfl rfl rfl rfl (by kernel_rfl) (by kernel_rfl) (loc_lenVs (sz := 1) (els := (List.map EV.encI x5.L)) (by kernel_rfl) (by kernel_rfl) (List.length_map ..)) ?_
            refine d_runs 3 14 [(56, .int .i64 q1.2), (55, .vs 5 (List.map enc_greenbeltlaw01_Value l)), (54, .int .i64 (w64 ((w64 (q1.1 + (List.length x4.S : Int))) + (List.length x5.L : Int))))] (pfp 3 16) (by kernel_rfl) (by kernel_rfl) ?_
            obtain ⟨x6, g6, hs⟩ := bind_some hs; obtain ⟨g6a, g6b, g6c⟩ := idx_some g6
            refine d_pure (v := .vp (enc_greenbeltlaw01_Value x6) 0) 17 rfl rfl rfl rfl (by kernel_rfl) (by kernel_rfl) (loc_indexVs (e := 25) (sz := 5) (k := .i64) (els := (List.map enc_greenbeltlaw01_Value l)) (cs := (enc_greenbeltlaw01_Value x6)) (by kernel_rfl) (by kernel_rfl) (by kernel_rfl) g6a (by rw [g6c]; exact map_get _ (by omega))) ?_
            refine d_runs 2 18 [(59, .vs 1 (List.map EV.encS x6.T)), (58, .vp (enc_greenbeltlaw01_Value x6) 4)] (pfp 2 19) (by kernel_rfl) (by kernel_rfl) ?_
            refine d_pure (v := .int .i64 (List.length x6.T : Int)) 20 rfl rfl rfl rfl (by kernel_rfl) (by kernel_rfl) (loc_lenVs (sz := 1) (els := (List.map EV.encS x6.T)) (by kernel_rfl) (by kernel_rfl) (List.length_map ..)) ?_
            refine d_runs 2 21 [(3, .int .i64 (w64 ((w64 ((w64 (q1.1 + (List.length x4.S : Int))) + (List.length x5.L : Int))) + (List.length x6.T : Int)))), (61, .int .i64 (w64 ((w64 ((w64 (q1.1 + (List.length x4.S : Int))) + (List.length x5.L : Int))) + (List.length x6.T : Int))))] (pfp 2 22) (by kernel_rfl) (by kernel_rfl) ?_
            refine d_nil (by kernel_rfl) ?_
            refine nrm_thenV ?_
            refine v_seq ?_
            refine vr_text ?_
            refine o_runs 1 [(5, .int .i64 0)] (by kernel_rfl) ?_
            refine ov_nil ?_
            refine nrm_thenV ?_
            obtain ⟨z3, hs, hk3⟩ := bind_some hs
            refine v_join (S := Int) (fun u => z3 = .inr u) (fun u => [(0, .vs 5 (List.map enc_greenbeltlaw01_Value l)), (3, .int .i64 u), (4, .int .i64 q1.2)]) (fun u => []) ?_ (fun v3 hz => ?_)
            · refine v_block ?_
              refine v_fuel (S := Int × Int) (fun u => [(0, .vs 5 (List.map enc_greenbeltlaw01_Value l)), (3, .int .i64 u.1), (4, .int .i64 q1.2), (5, .int .i64 u.2)]) (fun u => []) (s_greenbeltlaw01_few_L2 l q1) (fun _ => rfl) KK ((w64 ((w64 ((w64 (q1.1 + (List.length x4.S : Int))) + (List.length x5.L : Int))) + (List.length x6.T : Int))), 0) hs (cut_of [0, 3, 4, 5] [] (by kernel_rfl) (by kernel_rfl) (by kernel_rfl)) (fun K2 q2 hs => ?_)
              rw [s_greenbeltlaw01_few_L2] at hs
              show WpV cK0 Tryd.prog none 95 _ _ [(0, .vs 5 (List.map enc_greenbeltlaw01_Value l)), (3, .int .i64 q2.1), (4, .int .i64 q1.2), (5, .int .i64 q2.2)] [] []
              refine v_seq ?_
              refine v_seq ?_
              refine vr_text ?_
              refine o_runs 3 [(64, .int .i64 q1.2), (63, .vs 5 (List.map enc_greenbeltlaw01_Value l)), (62, .int .i64 q2.2)] (by kernel_rfl) ?_
              obtain ⟨x7, g7, hs⟩ := bind_some hs; obtain ⟨g7a, g7b, g7c⟩ := idx_some g7
              refine o_pure (v := .vp (enc_greenbeltlaw01_Value x7) 0) (by kernel_rfl) (by kernel_rfl) (loc_indexVs (e := 25) (sz := 5) (k := .i64) (els := (List.map enc_greenbeltlaw01_Value l)) (cs := (enc_greenbeltlaw01_Value x7)) (by kernel_rfl) (by kernel_rfl) (by kernel_rfl) g7a (by rw [g7c]; exact map_get _ (by omega))) ?_
              refine o_runs 2 [(67, .vs 1 (List.map EV.encS x7.T)), (66, .vp (enc_greenbeltlaw01_Value x7) 4)] (by kernel_rfl) ?_
              refine o_pure (v := .int .i64 (List.length x7.T : Int)) (by kernel_rfl) (by kernel_rfl) (loc_lenVs (sz := 1) (els := (List.map EV.encS x7.T)) (by kernel_rfl) (by kernel_rfl) (List.length_map ..)) ?_
              refine o_runs 1 [(69, .bool (decide (q2.2 < (List.length x7.T : Int))))] (by kernel_rfl) ?_
              refine ov_nil ?_
              refine nrm_thenV ?_
              refine v_cond (decide (q2.2 < (List.length x7.T : Int))) (by kernel_rfl) (fun h6 => ?_) (fun h6 => ?_)
              · replace hs := bif_t h6 hs
                refine v_skip ?_
                refine nrm_thenV ?_
                refine v_seq ?_
                refine v_block ?_
                refine v_seq ?_
                refine v_seq ?_
                refine vr_text ?_
                refine o_runs 2 [(73, .int .i64 q1.2), (72, .vs 5 (List.map enc_greenbeltlaw01_Value l))] (by kernel_rfl) ?_
                obtain ⟨x8, g8, hs⟩ := bind_some hs; obtain ⟨g8a, g8b, g8c⟩ := idx_some g8
                refine o_pure (v := .vp (enc_greenbeltlaw01_Value x8) 0) (by kernel_rfl) (by kernel_rfl) (loc_indexVs (e := 25) (sz := 5) (k := .i64) (els := (List.map enc_greenbeltlaw01_Value l)) (cs := (enc_greenbeltlaw01_Value x8)) (by kernel_rfl) (by kernel_rfl) (by kernel_rfl) g8a (by rw [g8c]; exact map_get _ (by omega))) ?_
                refine o_runs 3 [(77, .int .i64 q2.2), (76, .vs 1 (List.map EV.encS x8.T)), (75, .vp (enc_greenbeltlaw01_Value x8) 4)] (by kernel_rfl) ?_
                obtain ⟨x9, g9, hs⟩ := bind_some hs; obtain ⟨g9a, g9b, g9c⟩ := idx_some g9
                refine o_pure (v := .vp [.str x9] 0) (by kernel_rfl) (by kernel_rfl) (loc_indexVs (e := 9) (sz := 1) (k := .i64) (els := (List.map EV.encS x8.T)) (cs := (EV.encS x9)) (by kernel_rfl) (by kernel_rfl) (by kernel_rfl) g9a (by rw [g9c]; exact map_get _ (by omega))) ?_
                refine o_runs 3 [(81, .bool (decide ((List.length x9 : Int) > 400))), (80, .int .i64 (List.length x9 : Int)), (79, .str x9)] (by kernel_rfl) ?_
                refine ov_nil ?_
                refine nrm_thenV ?_
                refine v_cond (decide ((List.length x9 : Int) > 400)) (by kernel_rfl) (fun h7 => ?_) (fun h7 => ?_)
                · replace hs := bif_t h7 hs
                  refine v_seq ?_
                  refine vr_text ?_
                  refine o_runs 1 [(2, .bool false)] (by kernel_rfl) ?_
                  refine ov_nil ?_
                  refine nrm_thenV ?_
                  refine v_ret ?_
                  refine ret_thenV ?_
                  refine ret_blkV ?_
                  refine ret_thenV ?_
                  refine ret_fuel ?_
                  refine ret_blkV ?_
                  refine ret_join ?_
                  refine ret_blkV ?_
                  refine ret_thenV ?_
                  refine ret_fuel ?_
                  refine ret_blkV ?_
                  refine ret_join ?_
                  refine ret_thenV ?_
                  obtain rfl := Option.some.inj hs
                  replace hs := hk3
                  obtain rfl := Option.some.inj hs
                  replace hs := hk1
                  obtain rfl := Option.some.inj hs
                  exact fin_ret (by kernel_rfl) (by kernel_rfl) (by kernel_rfl)
                · replace hs := bif_f h7 hs
                  refine v_skip ?_
                  refine nrm_thenV ?_
                  refine vr_text ?_
                  refine o_runs 3 [(84, .int .i64 q1.2), (83, .vs 5 (List.map enc_greenbeltlaw01_Value l)), (82, .int .i64 q2.1)] (by kernel_rfl) ?_
                  obtain ⟨x10, g10, hs⟩ := bind_some hs; obtain ⟨g10a, g10b, g10c⟩ := idx_some g10
                  refine o_pure (v := .vp (enc_greenbeltlaw01_Value x10) 0) (by kernel_rfl) (by kernel_rfl) (loc_indexVs (e := 25) (sz := 5) (k := .i64) (els := (List.map enc_greenbeltlaw01_Value l)) (cs := (enc_greenbeltlaw01_Value x10)) (by kernel_rfl) (by kernel_rfl) (by kernel_rfl) g10a (by rw [g10c]; exact map_get _ (by omega))) ?_
                  refine o_runs 3 [(88, .int .i64 q2.2), (87, .vs 1 (List.map EV.encS x10.T)), (86, .vp (enc_greenbeltlaw01_Value x10) 4)] (by kernel_rfl) ?_
                  obtain ⟨x11, g11, hs⟩ := bind_some hs; obtain ⟨g11a, g11b, g11c⟩ := idx_some g11
                  refine o_pure (v := .vp [.str x11] 0) (by kernel_rfl) (by kernel_rfl) (loc_indexVs (e := 9) (sz := 1) (k := .i64) (els := (List.map EV.encS x10.T)) (cs := (EV.encS x11)) (by kernel_rfl) (by kernel_rfl) (by kernel_rfl) g11a (by rw [g11c]; exact map_get _ (by omega))) ?_
                  refine o_runs 4 [(3, .int .i64 (w64 (q2.1 + (List.length x11 : Int)))), (92, .int .i64 (w64 (q2.1 + (List.length x11 : Int)))), (91, .int .i64 (List.length x11 : Int)), (90, .str x11)] (by kernel_rfl) ?_
                  refine ov_nil ?_
                  refine nrm_blkV ?_
                  refine nrm_thenV ?_
                  refine vr_text ?_
                  refine o_runs 3 [(5, .int .i64 (w64 (q2.2 + 1))), (71, .int .i64 (w64 (q2.2 + 1))), (70, .int .i64 q2.2)] (by kernel_rfl) ?_
                  refine ov_nil ?_
                  refine nrm_fuel ((w64 (q2.1 + (List.length x11 : Int))), (w64 (q2.2 + 1))) hs ?_
                  exact cut_of [0, 3, 4, 5] [] (by kernel_rfl) (by kernel_rfl) (by kernel_rfl)
              · replace hs := bif_f h6 hs
                refine v_exit ?_
                refine exit_thenV ?_
                refine exit_fuel ?_
                refine exit_blkV ?_
                obtain rfl := Option.some.inj hs
                refine nrm_join q2.1 rfl ?_
                exact cut_of [0, 3, 4] [] (by kernel_rfl) (by kernel_rfl) (by kernel_rfl)
            · subst hz; clear hs; have hs := hk3; clear hk3
              refine nrm_blkV ?_
              refine nrm_thenV ?_
              refine vr_text ?_
              refine o_runs 3 [(4, .int .i64 (w64 (q1.2 + 1))), (14, .int .i64 (w64 (q1.2 + 1))), (13, .int .i64 q1.2)] (by kernel_rfl) ?_
              refine ov_nil ?_
              refine nrm_fuel (v3, (w64 (q1.2 + 1))) hs ?_
              exact cut_of [0, 3, 4] [] (by kernel_rfl) (by kernel_rfl) (by kernel_rfl)
      · replace hs := bif_f h2 hs
        refine v_exit ?_
        refine exit_thenV ?_
        refine exit_fuel ?_
        refine exit_blkV ?_
        obtain rfl := Option.some.inj hs
        refine nrm_join q1.1 rfl ?_
        exact cut_of [3] [] (by kernel_rfl) (by kernel_rfl) (by kernel_rfl)
    · subst hz; clear hs; have hs := hk1; clear hk1
      refine nrm_thenV ?_
      refine v_seq ?_
      refine vr_text ?_
      refine o_runs 3 [(2, .bool (decide (v1 ≤ 400))), (94, .bool (decide (v1 ≤ 400))), (93, .int .i64 v1)] (by kernel_rfl) ?_
      refine ov_nil ?_
      refine nrm_thenV ?_
      refine v_ret ?_
      obtain rfl := Option.some.inj hs
      exact fin_ret (by kernel_rfl) (by kernel_rfl) (by kernel_rfl)
def s_greenbeltref01_digits : Nat → Int → Option (List UInt8)
  | 0, _ => none
  | nF + 1, n => (bif (decide (n > (-10))) then some (bytesOf [(IntKind.u8.wrap ((w64 (48 - (Int.tmod n 10)))))]) else ((s_greenbeltref01_digits nF) (w64 (Int.tdiv n 10))).bind fun y1 => (grd (List.length y1 + List.length (bytesOf [(IntKind.u8.wrap ((w64 (48 - (Int.tmod n 10)))))]) ≤ 9223372036854775807)).bind fun _ => some (y1 ++ (bytesOf [(IntKind.u8.wrap ((w64 (48 - (Int.tmod n 10)))))])))
theorem ws_greenbeltref01_digits (nF : Nat) (ih_greenbeltref01_digits : ∀ (n : Int) (r : (List UInt8)), s_greenbeltref01_digits nF n = some r → FnA Tryd.prog 45 [.int .i64 n] [] (.str r) []) (n : Int) (r : (List UInt8)) (hs : s_greenbeltref01_digits (nF + 1) n = some r) : FnA Tryd.prog 45 [.int .i64 n] [] (.str r) [] := by
  refine fnA_of_wp (N := 18) Tryd.func45 rfl rfl rfl fun cK0 => ?_
  rw [s_greenbeltref01_digits] at hs
  refine v_same (ρ' := [(0, .int .i64 n)]) rfl rfl ?_
  refine v_seq ?_
  refine vr_text ?_
  refine o_runs 1 [(2, .str [])] (by kernel_rfl) ?_
  refine ov_nil ?_
  refine nrm_thenV ?_
  refine v_seq ?_
  refine vr_text ?_
  refine o_runh 5 [(8, .sl 1 8 1 0 1), (7, .int .u8 (IntKind.u8.wrap ((w64 (48 - (Int.tmod n 10)))))), (6, .int .i64 (w64 (48 - (Int.tmod n 10)))), (5, .int .i64 (Int.tmod n 10)), (4, .int .i64 n)] [(8, .row 5 1 0 (List.map (encK .u8) [(IntKind.u8.wrap ((w64 (48 - (Int.tmod n 10)))))]))] (by kernel_rfl) ?_
  refine o_loc (F := [(8, .row 5 1 0 (List.map (encK .u8) [(IntKind.u8.wrap ((w64 (48 - (Int.tmod n 10)))))]))]) (F' := [(8, .row 5 1 0 (List.map (encK .u8) [(IntKind.u8.wrap ((w64 (48 - (Int.tmod n 10)))))]))]) (v := .str (bytesOf [(IntKind.u8.wrap ((w64 (48 - (Int.tmod n 10)))))])) [8] (by kernel_rfl) (by kernel_rfl) rfl (by kernel_rfl) (loc_bytesStr (t := 5) (fz := 0) (L := 1) (l := [(IntKind.u8.wrap ((w64 (48 - (Int.tmod n 10)))))]) (by kernel_rfl) (by kernel_rfl) (by first | (simp only [List.length_map, List.length_set]; done) | rfl)) (by kernel_rfl) ?_
  refine o_runs 1 [(3, .str (bytesOf [(IntKind.u8.wrap ((w64 (48 - (Int.tmod n 10)))))]))] (by kernel_rfl) ?_
  refine ov_nil ?_
  refine nrm_thenV ?_
  refine v_seq ?_
  refine v_seq ?_
  refine vr_text ?_
  refine o_runs 2 [(11, .bool (decide (n > (-10)))), (10, .int .i64 n)] (by kernel_rfl) ?_
  refine ov_nil ?_
  refine nrm_thenV ?_
  refine v_cond (decide (n > (-10))) (by kernel_rfl) (fun h1 => ?_) (fun h1 => ?_)
  · replace hs := bif_t h1 hs
    refine v_seq ?_
    refine vr_text ?_
    refine o_runs 2 [(2, .str (bytesOf [(IntKind.u8.wrap ((w64 (48 - (Int.tmod n 10)))))])), (12, .str (bytesOf [(IntKind.u8.wrap ((w64 (48 - (Int.tmod n 10)))))]))] (by kernel_rfl) ?_
    refine ov_nil ?_
    refine nrm_thenV ?_
    refine v_ret ?_
    refine ret_thenV ?_
    obtain rfl := Option.some.inj hs
    exact fin_ret (by kernel_rfl) (by kernel_rfl) (by kernel_rfl)
  · replace hs := bif_f h1 hs
    refine v_skip ?_
    refine nrm_thenV ?_
    refine v_seq ?_
    refine vr_text ?_
    refine o_runs 2 [(14, .int .i64 (w64 (Int.tdiv n 10))), (13, .int .i64 n)] (by kernel_rfl) ?_
    obtain ⟨y1, c1, hs⟩ := bind_some hs
    refine o_pure (v := .str y1) (by kernel_rfl) (by kernel_rfl) (loc_gcall0 (callV_func hbv45 (by kernel_rfl)) (ih_greenbeltref01_digits (w64 (Int.tdiv n 10)) _ c1) (by kernel_rfl)) ?_
    refine o_runs 1 [(16, .str (bytesOf [(IntKind.u8.wrap ((w64 (48 - (Int.tmod n 10)))))]))] (by kernel_rfl) ?_
    obtain ⟨_, g1, hs⟩ := bind_some hs; replace g1 := grd_some g1
    refine o_pure (v := .str (y1 ++ (bytesOf [(IntKind.u8.wrap ((w64 (48 - (Int.tmod n 10)))))]))) (by kernel_rfl) (by kernel_rfl) (loc_concat (a := y1) (b := (bytesOf [(IntKind.u8.wrap ((w64 (48 - (Int.tmod n 10)))))])) (by kernel_rfl) (by kernel_rfl) g1) ?_
    refine o_runs 1 [(2, .str (y1 ++ (bytesOf [(IntKind.u8.wrap ((w64 (48 - (Int.tmod n 10)))))])))] (by kernel_rfl) ?_
    refine ov_nil ?_
    refine nrm_thenV ?_
    refine v_ret ?_
    obtain rfl := Option.some.inj hs
    exact fin_ret (by kernel_rfl) (by kernel_rfl) (by kernel_rfl)
theorem wr_greenbeltref01_digits : ∀ nF : Nat, (∀ (n : Int) (r : (List UInt8)), s_greenbeltref01_digits nF n = some r → FnA Tryd.prog 45 [.int .i64 n] [] (.str r) [])
  | 0 => fun n r hs => by rw [s_greenbeltref01_digits] at hs; cases hs
  | nF + 1 => fun n r hs => ws_greenbeltref01_digits nF (wr_greenbeltref01_digits nF) n r hs
theorem w_greenbeltref01_digits (nF : Nat) (n : Int) (r : (List UInt8)) (hs : s_greenbeltref01_digits nF n = some r) : FnA Tryd.prog 45 [.int .i64 n] [] (.str r) [] := (wr_greenbeltref01_digits nF) n r hs
def s_greenbeltref01_Int (n : Int) : Option (List UInt8) :=
  (bif (decide (n < 0)) then (s_greenbeltref01_digits KK n).bind fun y1 => (grd (List.length ([45] : List UInt8) + List.length y1 ≤ 9223372036854775807)).bind fun _ => (grd (List.length (([45] : List UInt8) ++ y1) + List.length ([59] : List UInt8) ≤ 9223372036854775807)).bind fun _ => some ((([45] : List UInt8) ++ y1) ++ ([59] : List UInt8)) else (s_greenbeltref01_digits KK (w64 (0 - n))).bind fun y2 => (grd (List.length y2 + List.length ([59] : List UInt8) ≤ 9223372036854775807)).bind fun _ => some (y2 ++ ([59] : List UInt8)))
theorem w_greenbeltref01_Int (n : Int) (r : (List UInt8)) (hs : s_greenbeltref01_Int n = some r) : FnA Tryd.prog 14 [.int .i64 n] [] (.str r) [] := by
  refine fnA_of_wp (N := 13) Tryd.func14 rfl rfl rfl fun cK0 => ?_
  unfold s_greenbeltref01_Int at hs
  refine v_same (ρ' := [(0, .int .i64 n)]) rfl rfl ?_
  refine v_seq ?_
  refine vr_text ?_
  refine o_runs 1 [(2, .str [])] (by kernel_rfl) ?_
  refine ov_nil ?_
  refine nrm_thenV ?_
  refine v_seq ?_
  refine v_seq ?_
  refine vr_text ?_
  refine o_runs 2 [(4, .bool (decide (n < 0))), (3, .int .i64 n)] (by kernel_rfl) ?_
  refine ov_nil ?_
  refine nrm_thenV ?_
  refine v_cond (decide (n < 0)) (by kernel_rfl) (fun h1 => ?_) (fun h1 => ?_)
  · replace hs := bif_t h1 hs
    refine v_seq ?_
    refine vr_text ?_
    refine o_runs 1 [(5, .int .i64 n)] (by kernel_rfl) ?_
    obtain ⟨y1, c1, hs⟩ := bind_some hs
    refine o_pure (v := .str y1) (by kernel_rfl) (by kernel_rfl) (loc_gcall0 (callV_func hbv45 (by kernel_rfl)) (w_greenbeltref01_digits KK n _ c1) (by kernel_rfl)) ?_
    obtain ⟨_, g1, hs⟩ := bind_some hs; replace g1 := grd_some g1
    refine o_pure (v := .str (([45] : List UInt8) ++ y1)) (by kernel_rfl) (by kernel_rfl) (loc_concat (a := ([45] : List UInt8)) (b := y1) (by kernel_rfl) (by kernel_rfl) g1) ?_
    obtain ⟨_, g2, hs⟩ := bind_some hs; replace g2 := grd_some g2
    refine o_pure (v := .str ((([45] : List UInt8) ++ y1) ++ ([59] : List UInt8))) (by kernel_rfl) (by kernel_rfl) (loc_concat (a := (([45] : List UInt8) ++ y1)) (b := ([59] : List UInt8)) (by kernel_rfl) (by kernel_rfl) g2) ?_
    refine o_runs 1 [(2, .str ((([45] : List UInt8) ++ y1) ++ ([59] : List UInt8)))] (by kernel_rfl) ?_
    refine ov_nil ?_
    refine nrm_thenV ?_
    refine v_ret ?_
    refine ret_thenV ?_
    obtain rfl := Option.some.inj hs
    exact fin_ret (by kernel_rfl) (by kernel_rfl) (by kernel_rfl)
  · replace hs := bif_f h1 hs
    refine v_skip ?_
    refine nrm_thenV ?_
    refine v_seq ?_
    refine vr_text ?_
    refine o_runs 2 [(10, .int .i64 (w64 (0 - n))), (9, .int .i64 n)] (by kernel_rfl) ?_
    obtain ⟨y2, c2, hs⟩ := bind_some hs
    refine o_pure (v := .str y2) (by kernel_rfl) (by kernel_rfl) (loc_gcall0 (callV_func hbv45 (by kernel_rfl)) (w_greenbeltref01_digits KK (w64 (0 - n)) _ c2) (by kernel_rfl)) ?_
    obtain ⟨_, g3, hs⟩ := bind_some hs; replace g3 := grd_some g3
    refine o_pure (v := .str (y2 ++ ([59] : List UInt8))) (by kernel_rfl) (by kernel_rfl) (loc_concat (a := y2) (b := ([59] : List UInt8)) (by kernel_rfl) (by kernel_rfl) g3) ?_
    refine o_runs 1 [(2, .str (y2 ++ ([59] : List UInt8)))] (by kernel_rfl) ?_
    refine ov_nil ?_
    refine nrm_thenV ?_
    refine v_ret ?_
    obtain rfl := Option.some.inj hs
    exact fin_ret (by kernel_rfl) (by kernel_rfl) (by kernel_rfl)
def s_greenbeltref01_Num (n : Int) : Option (List UInt8) :=
  (bif (decide (n < 0)) then some [] else (s_greenbeltref01_Int n).bind fun y1 => some y1)
theorem w_greenbeltref01_Num (n : Int) (r : (List UInt8)) (hs : s_greenbeltref01_Num n = some r) : FnA Tryd.prog 12 [.int .i64 n] [] (.str r) [] := by
  refine fnA_of_wp (N := 7) Tryd.func12 rfl rfl rfl fun cK0 => ?_
  unfold s_greenbeltref01_Num at hs
  refine v_same (ρ' := [(0, .int .i64 n)]) rfl rfl ?_
  refine v_seq ?_
  refine vr_text ?_
  refine o_runs 1 [(2, .str [])] (by kernel_rfl) ?_
  refine ov_nil ?_
  refine nrm_thenV ?_
  refine v_seq ?_
  refine v_seq ?_
  refine vr_text ?_
  refine o_runs 2 [(4, .bool (decide (n < 0))), (3, .int .i64 n)] (by kernel_rfl) ?_
  refine ov_nil ?_
  refine nrm_thenV ?_
  refine v_cond (decide (n < 0)) (by kernel_rfl) (fun h1 => ?_) (fun h1 => ?_)
  · replace hs := bif_t h1 hs
    refine v_seq ?_
    refine vr_text ?_
    refine o_runs 1 [(2, .str [])] (by kernel_rfl) ?_
    refine ov_nil ?_
    refine nrm_thenV ?_
    refine v_ret ?_
    refine ret_thenV ?_
    obtain rfl := Option.some.inj hs
    exact fin_ret (by kernel_rfl) (by kernel_rfl) (by kernel_rfl)
  · replace hs := bif_f h1 hs
    refine v_skip ?_
    refine nrm_thenV ?_
    refine v_seq ?_
    refine vr_text ?_
    refine o_runs 1 [(5, .int .i64 n)] (by kernel_rfl) ?_
    obtain ⟨y1, c1, hs⟩ := bind_some hs
    refine o_pure (v := .str y1) (by kernel_rfl) (by kernel_rfl) (loc_gcall0 (callV_func hbv14 (by kernel_rfl)) (w_greenbeltref01_Int n _ c1) (by kernel_rfl)) ?_
    refine o_runs 1 [(2, .str y1)] (by kernel_rfl) ?_
    refine ov_nil ?_
    refine nrm_thenV ?_
    refine v_ret ?_
    obtain rfl := Option.some.inj hs
    exact fin_ret (by kernel_rfl) (by kernel_rfl) (by kernel_rfl)
def s_greenbeltref01_Text (s : (List UInt8)) : Option (List UInt8) :=
  (s_greenbeltref01_digits KK (w64 (0 - (List.length s : Int)))).bind fun y1 => (grd (List.length y1 + List.length ([58] : List UInt8) ≤ 9223372036854775807)).bind fun _ => (grd (List.length (y1 ++ ([58] : List UInt8)) + List.length s ≤ 9223372036854775807)).bind fun _ => (grd (List.length ((y1 ++ ([58] : List UInt8)) ++ s) + List.length ([44] : List UInt8) ≤ 9223372036854775807)).bind fun _ => some (((y1 ++ ([58] : List UInt8)) ++ s) ++ ([44] : List UInt8))
theorem w_greenbeltref01_Text (s : (List UInt8)) (r : (List UInt8)) (hs : s_greenbeltref01_Text s = some r) : FnA Tryd.prog 16 [.str s] [] (.str r) [] := by
  refine fnA_of_wp (N := 11) Tryd.func16 rfl rfl rfl fun cK0 => ?_
  unfold s_greenbeltref01_Text at hs
  refine v_same (ρ' := [(0, .str s)]) rfl rfl ?_
  refine v_seq ?_
  refine vr_text ?_
  refine o_runs 1 [(2, .str [])] (by kernel_rfl) ?_
  refine ov_nil ?_
  refine nrm_thenV ?_
  refine v_seq ?_
  refine vr_text ?_
  refine o_runs 3 [(5, .int .i64 (w64 (0 - (List.length s : Int)))), (4, .int .i64 (List.length s : Int)), (3, .str s)] (by kernel_rfl) ?_
  obtain ⟨y1, c1, hs⟩ := bind_some hs
  refine o_pure (v := .str y1) (by kernel_rfl) (by kernel_rfl) (loc_gcall0 (callV_func hbv45 (by kernel_rfl)) (w_greenbeltref01_digits KK (w64 (0 - (List.length s : Int))) _ c1) (by kernel_rfl)) ?_
  obtain ⟨_, g1, hs⟩ := bind_some hs; replace g1 := grd_some g1
  refine o_pure (v := .str (y1 ++ ([58] : List UInt8))) (by kernel_rfl) (by kernel_rfl) (loc_concat (a := y1) (b := ([58] : List UInt8)) (by kernel_rfl) (by kernel_rfl) g1) ?_
  refine o_runs 1 [(8, .str s)] (by kernel_rfl) ?_
  obtain ⟨_, g2, hs⟩ := bind_some hs; replace g2 := grd_some g2
  refine o_pure (v := .str ((y1 ++ ([58] : List UInt8)) ++ s)) (by kernel_rfl) (by kernel_rfl) (loc_concat (a := (y1 ++ ([58] : List UInt8))) (b := s) (by kernel_rfl) (by kernel_rfl) g2) ?_
  obtain ⟨_, g3, hs⟩ := bind_some hs; replace g3 := grd_some g3
  refine o_pure (v := .str (((y1 ++ ([58] : List UInt8)) ++ s) ++ ([44] : List UInt8))) (by kernel_rfl) (by kernel_rfl) (loc_concat (a := ((y1 ++ ([58] : List UInt8)) ++ s)) (b := ([44] : List UInt8)) (by kernel_rfl) (by kernel_rfl) g3) ?_
  refine o_runs 1 [(2, .str (((y1 ++ ([58] : List UInt8)) ++ s) ++ ([44] : List UInt8)))] (by kernel_rfl) ?_
  refine ov_nil ?_
  refine nrm_thenV ?_
  refine v_ret ?_
  obtain rfl := Option.some.inj hs
  exact fin_ret (by kernel_rfl) (by kernel_rfl) (by kernel_rfl)
def s_greenbeltref01_Nums_L1 (l : (List Int)) : Nat → ((List UInt8) × Int) → Option (List UInt8)
  | 0, _ => none
  | K1 + 1, q1 => (bif (decide (q1.2 < (List.length l : Int))) then (idx l q1.2).bind fun x1 => (s_greenbeltref01_Int x1).bind fun y2 => (grd (List.length q1.1 + List.length y2 ≤ 9223372036854775807)).bind fun _ => (s_greenbeltref01_Nums_L1 l) K1 ((q1.1 ++ y2), (w64 (q1.2 + 1))) else some q1.1)
def s_greenbeltref01_Nums (l : (List Int)) : Option (List UInt8) :=
  (s_greenbeltref01_digits KK (w64 (0 - (List.length l : Int)))).bind fun y1 => (grd (List.length y1 + List.length ([91] : List UInt8) ≤ 9223372036854775807)).bind fun _ => ((s_greenbeltref01_Nums_L1 l) KK ((y1 ++ ([91] : List UInt8)), 0)).bind fun v1 => (grd (List.length v1 + List.length ([93] : List UInt8) ≤ 9223372036854775807)).bind fun _ => some (v1 ++ ([93] : List UInt8))
theorem w_greenbeltref01_Nums (l : (List Int)) (r : (List UInt8)) (hs : s_greenbeltref01_Nums l = some r) : FnA Tryd.prog 18 [.vs 1 (List.map EV.encI l)] [] (.str r) [] := by
  refine fnA_of_wp (N := 25) Tryd.func18 rfl rfl rfl fun cK0 => ?_
  unfold s_greenbeltref01_Nums at hs
  refine v_same (ρ' := [(0, .vs 1 (List.map EV.encI l))]) rfl rfl ?_
  refine v_seq ?_
  refine vr_text ?_
  refine o_runs 1 [(2, .str [])] (by kernel_rfl) ?_
  refine ov_nil ?_
  refine nrm_thenV ?_
  refine v_seq ?_
  refine vr_text ?_
  refine o_runs 1 [(5, .vs 1 (List.map EV.encI l))] (by kernel_rfl) ?_
  refine o_pure (v := .int .i64 (List.length l : Int)) (by kernel_rfl) (by kernel_rfl) (loc_lenVs (sz := 1) (els := (List.map EV.encI l)) (by kernel_rfl) (by kernel_rfl) (List.length_map ..)) ?_
  refine o_runs 1 [(7, .int .i64 (w64 (0 - (List.length l : Int))))] (by kernel_rfl) ?_
  obtain ⟨y1, c1, hs⟩ := bind_some hs
  refine o_pure (v := .str y1) (by kernel_rfl) (by kernel_rfl) (loc_gcall0 (callV_func hbv45 (by kernel_rfl)) (w_greenbeltref01_digits KK (w64 (0 - (List.length l : Int))) _ c1) (by kernel_rfl)) ?_
  obtain ⟨_, g1, hs⟩ := bind_some hs; replace g1 := grd_some g1
  refine o_pure (v := .str (y1 ++ ([91] : List UInt8))) (by kernel_rfl) (by kernel_rfl) (loc_concat (a := y1) (b := ([91] : List UInt8)) (by kernel_rfl) (by kernel_rfl) g1) ?_
  refine o_runs 1 [(3, .str (y1 ++ ([91] : List UInt8)))] (by kernel_rfl) ?_
  refine ov_nil ?_
  refine nrm_thenV ?_
  refine v_seq ?_
  refine v_seq ?_
  refine vr_text ?_
  refine o_runs 1 [(4, .int .i64 0)] (by kernel_rfl) ?_
  refine ov_nil ?_
  refine nrm_thenV ?_
  obtain ⟨z1, hs, hk1⟩ := bind_some hs
  refine v_join (S := (List UInt8)) (fun u => u = z1) (fun u => [(3, .str u)]) (fun u => []) ?_ (fun v1 hz => ?_)
  · refine v_block ?_
    refine v_fuel (S := (List UInt8) × Int) (fun u => [(0, .vs 1 (List.map EV.encI l)), (3, .str u.1), (4, .int .i64 u.2)]) (fun u => []) (s_greenbeltref01_Nums_L1 l) (fun _ => rfl) KK ((y1 ++ ([91] : List UInt8)), 0) hs (cut_of [0, 3, 4] [] (by kernel_rfl) (by kernel_rfl) (by kernel_rfl)) (fun K1 q1 hs => ?_)
    rw [s_greenbeltref01_Nums_L1] at hs
    show WpV cK0 Tryd.prog none 25 _ _ [(0, .vs 1 (List.map EV.encI l)), (3, .str q1.1), (4, .int .i64 q1.2)] [] []
    refine v_seq ?_
    refine v_seq ?_
    refine vr_text ?_
    refine o_runs 2 [(11, .vs 1 (List.map EV.encI l)), (10, .int .i64 q1.2)] (by kernel_rfl) ?_
    refine o_pure (v := .int .i64 (List.length l : Int)) (by kernel_rfl) (by kernel_rfl) (loc_lenVs (sz := 1) (els := (List.map EV.encI l)) (by kernel_rfl) (by kernel_rfl) (List.length_map ..)) ?_
    refine o_runs 1 [(13, .bool (decide (q1.2 < (List.length l : Int))))] (by kernel_rfl) ?_
    refine ov_nil ?_
    refine nrm_thenV ?_
    refine v_cond (decide (q1.2 < (List.length l : Int))) (by kernel_rfl) (fun h1 => ?_) (fun h1 => ?_)
    · replace hs := bif_t h1 hs
      refine v_skip ?_
      refine nrm_thenV ?_
      refine v_seq ?_
      refine v_block ?_
      refine vr_text ?_
      refine o_runs 3 [(18, .int .i64 q1.2), (17, .vs 1 (List.map EV.encI l)), (16, .str q1.1)] (by kernel_rfl) ?_
      obtain ⟨x1, g2, hs⟩ := bind_some hs; obtain ⟨g2a, g2b, g2c⟩ := idx_some g2
      refine o_pure (v := .vp [.int .i64 x1] 0) (by kernel_rfl) (by kernel_rfl) (loc_indexVs (e := 3) (sz := 1) (k := .i64) (els := (List.map EV.encI l)) (cs := (EV.encI x1)) (by kernel_rfl) (by kernel_rfl) (by kernel_rfl) g2a (by rw [g2c]; exact map_get _ (by omega))) ?_
      refine o_runs 1 [(20, .int .i64 x1)] (by kernel_rfl) ?_
      obtain ⟨y2, c2, hs⟩ := bind_some hs
      refine o_pure (v := .str y2) (by kernel_rfl) (by kernel_rfl) (loc_gcall0 (callV_func hbv14 (by kernel_rfl)) (w_greenbeltref01_Int x1 _ c2) (by kernel_rfl)) ?_
      obtain ⟨_, g3, hs⟩ := bind_some hs; replace g3 := grd_some g3
      refine o_pure (v := .str (q1.1 ++ y2)) (by kernel_rfl) (by kernel_rfl) (loc_concat (a := q1.1) (b := y2) (by kernel_rfl) (by kernel_rfl) g3) ?_
      refine o_runs 1 [(3, .str (q1.1 ++ y2))] (by kernel_rfl) ?_
      refine ov_nil ?_
      refine nrm_blkV ?_
      refine nrm_thenV ?_
      refine vr_text ?_
      refine o_runs 3 [(4, .int .i64 (w64 (q1.2 + 1))), (15, .int .i64 (w64 (q1.2 + 1))), (14, .int .i64 q1.2)] (by kernel_rfl) ?_
      refine ov_nil ?_
      refine nrm_fuel ((q1.1 ++ y2), (w64 (q1.2 + 1))) hs ?_
      exact cut_of [0, 3, 4] [] (by kernel_rfl) (by kernel_rfl) (by kernel_rfl)
    · replace hs := bif_f h1 hs
      refine v_exit ?_
      refine exit_thenV ?_
      refine exit_fuel ?_
      refine exit_blkV ?_
      obtain rfl := Option.some.inj hs
      refine nrm_join q1.1 rfl ?_
      exact cut_of [3] [] (by kernel_rfl) (by kernel_rfl) (by kernel_rfl)
  · subst hz; clear hs; have hs := hk1; clear hk1
    refine nrm_thenV ?_
    refine v_seq ?_
    refine vr_text ?_
    refine o_runs 1 [(23, .str v1)] (by kernel_rfl) ?_
    obtain ⟨_, g4, hs⟩ := bind_some hs; replace g4 := grd_some g4
    refine o_pure (v := .str (v1 ++ ([93] : List UInt8))) (by kernel_rfl) (by kernel_rfl) (loc_concat (a := v1) (b := ([93] : List UInt8)) (by kernel_rfl) (by kernel_rfl) g4) ?_
    refine o_runs 1 [(2, .str (v1 ++ ([93] : List UInt8)))] (by kernel_rfl) ?_
    refine ov_nil ?_
    refine nrm_thenV ?_
    refine v_ret ?_
    obtain rfl := Option.some.inj hs
    exact fin_ret (by kernel_rfl) (by kernel_rfl) (by kernel_rfl)
def s_greenbeltref01_Texts_L1 (l : (List (List UInt8))) : Nat → ((List UInt8) × Int) → Option (List UInt8)
  | 0, _ => none
  | K1 + 1, q1 => (bif (decide (q1.2 < (List.length l : Int))) then (idx l q1.2).bind fun x1 => (s_greenbeltref01_Text x1).bind fun y2 => (grd (List.length q1.1 + List.length y2 ≤ 9223372036854775807)).bind fun _ => (s_greenbeltref01_Texts_L1 l) K1 ((q1.1 ++ y2), (w64 (q1.2 + 1))) else some q1.1)
def s_greenbeltref01_Texts (l : (List (List UInt8))) : Option (List UInt8) :=
  (s_greenbeltref01_digits KK (w64 (0 - (List.length l : Int)))).bind fun y1 => (grd (List.length y1 + List.length ([91] : List UInt8) ≤ 9223372036854775807)).bind fun _ => ((s_greenbeltref01_Texts_L1 l) KK ((y1 ++ ([91] : List UInt8)), 0)).bind fun v1 => (grd (List.length v1 + List.length ([93] : List UInt8) ≤ 9223372036854775807)).bind fun _ => some (v1 ++ ([93] : List UInt8))
theorem w_greenbeltref01_Texts (l : (List (List UInt8))) (r : (List UInt8)) (hs : s_greenbeltref01_Texts l = some r) : FnA Tryd.prog 20 [.vs 1 (List.map EV.encS l)] [] (.str r) [] := by
  refine fnA_of_wp (N := 25) Tryd.func20 rfl rfl rfl fun cK0 => ?_
  unfold s_greenbeltref01_Texts at hs
  refine v_same (ρ' := [(0, .vs 1 (List.map EV.encS l))]) rfl rfl ?_
  refine v_seq ?_
  refine vr_text ?_
  refine o_runs 1 [(2, .str [])] (by kernel_rfl) ?_
  refine ov_nil ?_
  refine nrm_thenV ?_
  refine v_seq ?_
  refine vr_text ?_
  refine o_runs 1 [(5, .vs 1 (List.map EV.encS l))] (by kernel_rfl) ?_
  refine o_pure (v := .int .i64 (List.length l : Int)) (by kernel_rfl) (by kernel_rfl) (loc_lenVs (sz := 1) (els := (List.map EV.encS l)) (by kernel_rfl) (by kernel_rfl) (List.length_map ..)) ?_
  refine o_runs 1 [(7, .int .i64 (w64 (0 - (List.length l : Int))))] (by kernel_rfl) ?_
  obtain ⟨y1, c1, hs⟩ := bind_some hs
  refine o_pure (v := .str y1) (by kernel_rfl) (by kernel_rfl) (loc_gcall0 (callV_func hbv45 (by kernel_rfl)) (w_greenbeltref01_digits KK (w64 (0 - (List.length l : Int))) _ c1) (by kernel_rfl)) ?_
  obtain ⟨_, g1, hs⟩ := bind_some hs; replace g1 := grd_some g1
  refine o_pure (v := .str (y1 ++ ([91] : List UInt8))) (by kernel_rfl) (by kernel_rfl) (loc_concat (a := y1) (b := ([91] : List UInt8)) (by kernel_rfl) (by kernel_rfl) g1) ?_
  refine o_runs 1 [(3, .str (y1 ++ ([91] : List UInt8)))] (by kernel_rfl) ?_
  refine ov_nil ?_
  refine nrm_thenV ?_
  refine v_seq ?_
  refine v_seq ?_
  refine vr_text ?_
  refine o_runs 1 [(4, .int .i64 0)] (by kernel_rfl) ?_
  refine ov_nil ?_
  refine nrm_thenV ?_
  obtain ⟨z1, hs, hk1⟩ := bind_some hs
  refine v_join (S := (List UInt8)) (fun u => u = z1) (fun u => [(3, .str u)]) (fun u => []) ?_ (fun v1 hz => ?_)
  · refine v_block ?_
    refine v_fuel (S := (List UInt8) × Int) (fun u => [(0, .vs 1 (List.map EV.encS l)), (3, .str u.1), (4, .int .i64 u.2)]) (fun u => []) (s_greenbeltref01_Texts_L1 l) (fun _ => rfl) KK ((y1 ++ ([91] : List UInt8)), 0) hs (cut_of [0, 3, 4] [] (by kernel_rfl) (by kernel_rfl) (by kernel_rfl)) (fun K1 q1 hs => ?_)
    rw [s_greenbeltref01_Texts_L1] at hs
    show WpV cK0 Tryd.prog none 25 _ _ [(0, .vs 1 (List.map EV.encS l)), (3, .str q1.1), (4, .int .i64 q1.2)] [] []
    refine v_seq ?_
    refine v_seq ?_
    refine vr_text ?_
    refine o_runs 2 [(11, .vs 1 (List.map EV.encS l)), (10, .int .i64 q1.2)] (by kernel_rfl) ?_
    refine o_pure (v := .int .i64 (List.length l : Int)) (by kernel_rfl) (by kernel_rfl) (loc_lenVs (sz := 1) (els := (List.map EV.encS l)) (by kernel_rfl) (by kernel_rfl) (List.length_map ..)) ?_
    refine o_runs 1 [(13, .bool (decide (q1.2 < (List.length l : Int))))] (by kernel_rfl) ?_
    refine ov_nil ?_
    refine nrm_thenV ?_
    refine v_cond (decide (q1.2 < (List.length l : Int))) (by kernel_rfl) (fun h1 => ?_) (fun h1 => ?_)
    · replace hs := bif_t h1 hs
      refine v_skip ?_
      refine nrm_thenV ?_
      refine v_seq ?_
      refine v_block ?_
      refine vr_text ?_
      refine o_runs 3 [(18, .int .i64 q1.2), (17, .vs 1 (List.map EV.encS l)), (16, .str q1.1)] (by kernel_rfl) ?_
      obtain ⟨x1, g2, hs⟩ := bind_some hs; obtain ⟨g2a, g2b, g2c⟩ := idx_some g2
      refine o_pure (v := .vp [.str x1] 0) (by kernel_rfl) (by kernel_rfl) (loc_indexVs (e := 9) (sz := 1) (k := .i64) (els := (List.map EV.encS l)) (cs := (EV.encS x1)) (by kernel_rfl) (by kernel_rfl) (by kernel_rfl) g2a (by rw [g2c]; exact map_get _ (by omega))) ?_
      refine o_runs 1 [(20, .str x1)] (by kernel_rfl) ?_
      obtain ⟨y2, c2, hs⟩ := bind_some hs
      refine o_pure (v := .str y2) (by kernel_rfl) (by kernel_rfl) (loc_gcall0 (callV_func hbv16 (by kernel_rfl)) (w_greenbeltref01_Text x1 _ c2) (by kernel_rfl)) ?_
      obtain ⟨_, g3, hs⟩ := bind_some hs; replace g3 := grd_some g3
      refine o_pure (v := .str (q1.1 ++ y2)) (by kernel_rfl) (by kernel_rfl) (loc_concat (a := q1.1) (b := y2) (by kernel_rfl) (by kernel_rfl) g3) ?_
      refine o_runs 1 [(3, .str (q1.1 ++ y2))] (by kernel_rfl) ?_
      refine ov_nil ?_
      refine nrm_blkV ?_
      refine nrm_thenV ?_
      refine vr_text ?_
      refine o_runs 3 [(4, .int .i64 (w64 (q1.2 + 1))), (15, .int .i64 (w64 (q1.2 + 1))), (14, .int .i64 q1.2)] (by kernel_rfl) ?_
      refine ov_nil ?_
      refine nrm_fuel ((q1.1 ++ y2), (w64 (q1.2 + 1))) hs ?_
      exact cut_of [0, 3, 4] [] (by kernel_rfl) (by kernel_rfl) (by kernel_rfl)
    · replace hs := bif_f h1 hs
      refine v_exit ?_
      refine exit_thenV ?_
      refine exit_fuel ?_
      refine exit_blkV ?_
      obtain rfl := Option.some.inj hs
      refine nrm_join q1.1 rfl ?_
      exact cut_of [3] [] (by kernel_rfl) (by kernel_rfl) (by kernel_rfl)
  · subst hz; clear hs; have hs := hk1; clear hk1
    refine nrm_thenV ?_
    refine v_seq ?_
    refine vr_text ?_
    refine o_runs 1 [(23, .str v1)] (by kernel_rfl) ?_
    obtain ⟨_, g4, hs⟩ := bind_some hs; replace g4 := grd_some g4
    refine o_pure (v := .str (v1 ++ ([93] : List UInt8))) (by kernel_rfl) (by kernel_rfl) (loc_concat (a := v1) (b := ([93] : List UInt8)) (by kernel_rfl) (by kernel_rfl) g4) ?_
    refine o_runs 1 [(2, .str (v1 ++ ([93] : List UInt8)))] (by kernel_rfl) ?_
    refine ov_nil ?_
    refine nrm_thenV ?_
    refine v_ret ?_
    obtain rfl := Option.some.inj hs
    exact fin_ret (by kernel_rfl) (by kernel_rfl) (by kernel_rfl)
def s_greenbeltlaw01_WireWrites (v : greenbeltlaw01_Value) : Option Bool :=
  (s_greenbeltlaw01_small ).bind fun y1 => (s_greenbeltlaw01_few [v]).bind fun y2 => (bif (!y2) then some y1 else ((s_wire_Num v.N).bind fun y3 => (s_greenbeltref01_Num v.N).bind fun y4 => (bif (decide (y3 = y4)) then (s_wire_Int v.N).bind fun y5 => (s_greenbeltref01_Int v.N).bind fun y6 => (bif (decide (y5 = y6)) then (s_wire_Text v.S).bind fun y7 => (s_greenbeltref01_Text v.S).bind fun y8 => some (decide (y7 = y8)) else some false) else some false)).bind fun v1 => ((bif y1 then (bif v1 then (s_wire_Nums v.L).bind fun y9 => (s_greenbeltref01_Nums v.L).bind fun y10 => (bif (decide (y9 = y10)) then (s_wire_Texts v.T).bind fun y11 => (s_greenbeltref01_Texts v.T).bind fun y12 => some (decide (y11 = y12)) else some false) else some false) else some false)).bind fun v2 => some v2)
theorem w_greenbeltlaw01_WireWrites (v : greenbeltlaw01_Value) (r : Bool) (hs : s_greenbeltlaw01_WireWrites v = some r) : FnA Tryd.prog 3 [.agg (enc_greenbeltlaw01_Value v)] [(900000000, gl0 ob0), (900000001, gl1 ob1 u1), (900000002, gl2 ob2 u2)] (.bool r) [(900000000, gl0 ob0), (900000001, gl1 ob1 u1), (900000002, gl2 ob2 u2)] := by
  refine fnA_of_wp (N := 58) Tryd.func3 rfl rfl rfl fun cK0 => ?_
  unfold s_greenbeltlaw01_WireWrites at hs
  refine v_same (ρ' := [(0, .agg (enc_greenbeltlaw01_Value v))]) rfl rfl ?_
  refine v_seq ?_
  refine vr_text ?_
  refine o_runh 2 [(2, .bool false), (1, .ptr 1 0 0)] [(1, .box 25 [.int .i64 v.Kind, .int .i64 v.N, .str v.S, .vs 1 (List.map EV.encI v.L), .vs 1 (List.map EV.encS v.T)]), (900000000, gl0 ob0), (900000001, gl1 ob1 u1), (900000002, gl2 ob2 u2)] (by kernel_rfl) ?_
  refine ov_nil ?_
  refine nrm_thenV ?_
  refine v_seq ?_
  refine vr_text ?_
  obtain ⟨y1, c1, hs⟩ := bind_some hs
  refine o_loc (F := [(900000000, gl0 ob0), (900000001, gl1 ob1 u1), (900000002, gl2 ob2 u2)]) (F' := [(900000000, gl0 ob0), (900000001, gl1 ob1 u1), (900000002, gl2 ob2 u2)]) (v := .bool y1) [900000000, 900000001, 900000002] (by kernel_rfl) (by kernel_rfl) rfl (by kernel_rfl) (loc_gcallL (vs := []) (G := [(900000000, gl0 ob0), (900000001, gl1 ob1 u1), (900000002, gl2 ob2 u2)]) (R := []) (callV_func hbv9 (by kernel_rfl)) (w_greenbeltlaw01_small (ob0 := ob0) (ob1 := ob1) (ob2 := ob2) (u1 := u1) (u2 := u2)  _ c1) (by kernel_rfl) (.nil) (by kernel_rfl) (by kernel_rfl) (by kernel_rfl)) (by kernel_rfl) ?_
  refine o_runs 1 [(3, .bool y1)] (by kernel_rfl) ?_
  refine ov_nil ?_
  refine nrm_thenV ?_
  refine v_seq ?_
  refine v_seq ?_
  refine vr_text ?_
  refine o_runh 2 [(7, .sl 5 7 1 0 1), (6, .agg (enc_greenbeltlaw01_Value v))] [(7, .row 25 5 0 (List.map enc_greenbeltlaw01_Value [v])), (900000000, gl0 ob0), (900000001, gl1 ob1 u1), (900000002, gl2 ob2 u2), (1, .box 25 [.int .i64 v.Kind, .int .i64 v.N, .str v.S, .vs 1 (List.map EV.encI v.L), .vs 1 (List.map EV.encS v.T)])] (by kernel_rfl) ?_
  obtain ⟨y2, c2, hs⟩ := bind_some hs
  refine o_loc (F := [(7, .row 25 5 0 (List.map enc_greenbeltlaw01_Value [v]))]) (F' := [(7, .row 25 5 0 (List.map enc_greenbeltlaw01_Value [v]))]) (v := .bool y2) [7] (by kernel_rfl) (by kernel_rfl) rfl (by kernel_rfl) (loc_gcallB (vs := [.sl 5 7 1 0 1]) (R := [(7, .row 25 5 0 (List.map enc_greenbeltlaw01_Value [v]))]) (callV_func hbv10 (by kernel_rfl)) (w_greenbeltlaw01_few [v] _ c2) (.cons (.row (t := 25) (fz := 0) (by kernel_rfl) (by first | (simp only [List.length_map, List.length_set]; done) | rfl)) (.nil)) (by kernel_rfl) (by kernel_rfl) (by kernel_rfl)) (by kernel_rfl) ?_
  refine o_runs 1 [(9, .bool (!y2))] (by kernel_rfl) ?_
  refine ov_nil ?_
  refine nrm_thenV ?_
  refine v_cond (!y2) (by kernel_rfl) (fun h1 => ?_) (fun h1 => ?_)
  · replace hs := bif_t h1 hs
    refine v_seq ?_
    refine vr_text ?_
    refine o_runs 2 [(2, .bool y1), (10, .bool y1)] (by kernel_rfl) ?_
    refine ov_nil ?_
    refine nrm_thenV ?_
    refine v_ret ?_
    refine ret_thenV ?_
    obtain rfl := Option.some.inj hs
    exact fin_ret (by kernel_rfl) (by kernel_rfl) (by kernel_rfl)
  · replace hs := bif_f h1 hs
    refine v_skip ?_
    refine nrm_thenV ?_
    refine v_seq ?_
    obtain ⟨z1, hs, hk1⟩ := bind_some hs
    refine v_join (S := Bool) (fun u => u = z1) (fun u => [(1, .ptr 1 0 0), (3, .bool y1), (4, .bool u)]) (fun u => [(1, .box 25 [.int .i64 v.Kind, .int .i64 v.N, .str v.S, .vs 1 (List.map EV.encI v.L), .vs 1 (List.map EV.encS v.T)]), (900000000, gl0 ob0), (900000001, gl1 ob1 u1), (900000002, gl2 ob2 u2)]) ?_ (fun v1 hz => ?_)
    · refine v_draw mixedH (by kernel_rfl) ?_
      refine d_runs 2 0 [(12, .int .i64 v.N), (11, .ptr 1 0 1)] [⟨1, [], [1]⟩, ⟨0, [], []⟩] (by kernel_rfl) (by kernel_rfl) ?_
      obtain ⟨y3, c3, hs⟩ := bind_some hs
      refine d_loc (F := []) (R := [(900000000, gl0 ob0), (900000001, gl1 ob1 u1), (900000002, gl2 ob2 u2)]) (F' := []) (v := .str y3) 2 [] [900000000, 900000001, 900000002] rfl rfl rfl rfl (by kernel_rfl) (by kernel_rfl) (by kernel_rfl) (by kernel_rfl) (by kernel_rfl) (by kernel_rfl) (by kernel_rfl) (by kernel_rfl) (loc_gcallL (vs := [.int .i64 v.N]) (G := [(900000000, gl0 ob0), (900000001, gl1 ob1 u1), (900000002, gl2 ob2 u2)]) (R := []) (callV_func hbv11 (by kernel_rfl)) (w_wire_Num (ob0 := ob0) (ob1 := ob1) (ob2 := ob2) (u1 := u1) (u2 := u2) v.N _ c3) (by kernel_rfl) (.cons (.same _) (.nil)) (by kernel_rfl) (by kernel_rfl) (by kernel_rfl)) ?_
      refine d_runs 2 3 [(15, .int .i64 v.N), (14, .ptr 1 0 1)] [⟨4, [], [1]⟩, ⟨3, [], []⟩] (by kernel_rfl) (by kernel_rfl) ?_
      obtain ⟨y4, c4, hs⟩ := bind_some hs
      refine d_pure (v := .str y4) 5 rfl rfl rfl rfl (by kernel_rfl) (by kernel_rfl) (loc_gcall0 (callV_func hbv12 (by kernel_rfl)) (w_greenbeltref01_Num v.N _ c4) (by kernel_rfl)) ?_
      refine d_runs 2 6 [(18, .bool (decide (y3 = y4))), (17, .bool (decide (y3 = y4)))] (pfp 2 7) (by kernel_rfl) (by kernel_rfl) ?_
      cases h2 : ((decide (y3 = y4)))
      · replace hs := bif_f h2 hs
        refine d_runs 18 8 [(4, .bool false), (35, .bool false), (34, .no), (33, .no), (32, .no), (31, .no), (30, .no), (29, .no), (28, .no), (27, .bool false), (26, .bool false), (25, .no), (24, .no), (23, .no), (22, .no), (21, .no), (20, .no), (19, .no)] (pfp 18 25) (by kernel_rfl) (by kernel_rfl) ?_
        refine d_nil (by kernel_rfl) ?_
        obtain rfl := Option.some.inj hs
        refine nrm_join false rfl ?_
        exact cut_of [1, 3, 4] [1, 900000000, 900000001, 900000002] (by kernel_rfl) (by kernel_rfl) (by kernel_rfl)
      · replace hs := bif_t h2 hs
        refine d_runs 2 8 [(20, .int .i64 v.N), (19, .ptr 1 0 1)] [⟨9, [], [1]⟩, ⟨8, [], []⟩] (by kernel_rfl) (by kernel_rfl) ?_
        obtain ⟨y5, c5, hs⟩ := bind_some hs
        refine d_loc (F := []) (R := [(900000000, gl0 ob0), (900000001, gl1 ob1 u1), (900000002, gl2 ob2 u2)]) (F' := []) (v := .str y5) 10 [] [900000000, 900000001, 900000002] rfl rfl rfl rfl (by kernel_rfl) (by kernel_rfl) (by kernel_rfl) (by kernel_rfl) (by kernel_rfl) (by kernel_rfl) (by kernel_rfl) (by kernel_rfl) (loc_gcallL (vs := [.int .i64 v.N]) (G := [(900000000, gl0 ob0), (900000001, gl1 ob1 u1), (900000002, gl2 ob2 u2)]) (R := []) (callV_func hbv13 (by kernel_rfl)) (w_wire_Int (ob0 := ob0) (ob1 := ob1) (ob2 := ob2) (u1 := u1) (u2 := u2) v.N _ c5) (by kernel_rfl) (.cons (.same _) (.nil)) (by kernel_rfl) (by kernel_rfl) (by kernel_rfl)) ?_
        refine d_runs 2 11 [(23, .int .i64 v.N), (22, .ptr 1 0 1)] [⟨12, [], [1]⟩, ⟨11, [], []⟩] (by kernel_rfl) (by kernel_rfl) ?_
        obtain ⟨y6, c6, hs⟩ := bind_some hs
        refine d_pure (v := .str y6) 13 rfl rfl rfl rfl (by kernel_rfl) (by kernel_rfl) (loc_gcall0 (callV_func hbv14 (by kernel_rfl)) (w_greenbeltref01_Int v.N _ c6) (by kernel_rfl)) ?_
        refine d_runs 3 14 [(27, .bool (decide (y5 = y6))), (26, .bool (decide (y5 = y6))), (25, .bool (decide (y5 = y6)))] (pfp 3 16) (by kernel_rfl) (by kernel_rfl) ?_
        cases h3 : ((decide (y5 = y6)))
        · replace hs := bif_f h3 hs
          refine d_runs 9 17 [(4, .bool false), (35, .bool false), (34, .no), (33, .no), (32, .no), (31, .no), (30, .no), (29, .no), (28, .no)] (pfp 9 25) (by kernel_rfl) (by kernel_rfl) ?_
          refine d_nil (by kernel_rfl) ?_
          obtain rfl := Option.some.inj hs
          refine nrm_join false rfl ?_
          exact cut_of [1, 3, 4] [1, 900000000, 900000001, 900000002] (by kernel_rfl) (by kernel_rfl) (by kernel_rfl)
        · replace hs := bif_t h3 hs
          refine d_runs 2 17 [(29, .str v.S), (28, .ptr 1 0 2)] [⟨18, [], [1]⟩, ⟨17, [], []⟩] (by kernel_rfl) (by kernel_rfl) ?_
          obtain ⟨y7, c7, hs⟩ := bind_some hs
          refine d_loc (F := []) (R := [(900000000, gl0 ob0), (900000001, gl1 ob1 u1), (900000002, gl2 ob2 u2)]) (F' := []) (v := .str y7) 19 [] [900000000, 900000001, 900000002] rfl rfl rfl rfl (by kernel_rfl) (by kernel_rfl) (by kernel_rfl) (by kernel_rfl) (by kernel_rfl) (by kernel_rfl) (by kernel_rfl) (by kernel_rfl) (loc_gcallL (vs := [.str v.S]) (G := [(900000000, gl0 ob0), (900000001, gl1 ob1 u1), (900000002, gl2 ob2 u2)]) (R := []) (callV_func hbv15 (by kernel_rfl)) (w_wire_Text (ob0 := ob0) (ob1 := ob1) (ob2 := ob2) (u1 := u1) (u2 := u2) v.S _ c7) (by kernel_rfl) (.cons (.same _) (.nil)) (by kernel_rfl) (by kernel_rfl) (by kernel_rfl)) ?_
          refine d_runs 2 20 [(32, .str v.S), (31, .ptr 1 0 2)] [⟨21, [], [1]⟩, ⟨20, [], []⟩] (by kernel_rfl) (by kernel_rfl) ?_
          obtain ⟨y8, c8, hs⟩ := bind_some hs
          refine d_pure (v := .str y8) 22 rfl rfl rfl rfl (by kernel_rfl) (by kernel_rfl) (loc_gcall0 (callV_func hbv16 (by kernel_rfl)) (w_greenbeltref01_Text v.S _ c8) (by kernel_rfl)) ?_
          refine d_runs 3 23 [(4, .bool (decide (y7 = y8))), (35, .bool (decide (y7 = y8))), (34, .bool (decide (y7 = y8)))] (pfp 3 25) (by kernel_rfl) (by kernel_rfl) ?_
          refine d_nil (by kernel_rfl) ?_
          obtain rfl := Option.some.inj hs
          refine nrm_join (decide (y7 = y8)) rfl ?_
          exact cut_of [1, 3, 4] [1, 900000000, 900000001, 900000002] (by kernel_rfl) (by kernel_rfl) (by kernel_rfl)
    · subst hz; clear hs; have hs := hk1; clear hk1
      refine nrm_thenV ?_
      refine v_seq ?_
      obtain ⟨z2, hs, hk2⟩ := bind_some hs
      refine v_join (S := Bool) (fun u => u = z2) (fun u => [(2, .bool u)]) (fun u => [(900000000, gl0 ob0), (900000001, gl1 ob1 u1), (900000002, gl2 ob2 u2)]) ?_ (fun v2 hz => ?_)
      · refine v_draw mixedH (by kernel_rfl) ?_
        refine d_runs 2 0 [(37, .bool y1), (36, .bool y1)] (pfp 2 1) (by kernel_rfl) (by kernel_rfl) ?_
        cases h4 : (y1)
        · replace hs := bif_f h4 hs
          refine d_runs 21 2 [(2, .bool false), (57, .bool false), (56, .no), (55, .no), (54, .no), (53, .no), (52, .no), (51, .no), (50, .no), (49, .bool false), (48, .bool false), (47, .no), (46, .no), (45, .no), (44, .no), (43, .no), (42, .no), (41, .no), (40, .bool false), (39, .bool false), (38, .no)] (pfp 21 22) (by kernel_rfl) (by kernel_rfl) ?_
          refine d_nil (by kernel_rfl) ?_
          obtain rfl := Option.some.inj hs
          refine nrm_join false rfl ?_
          exact cut_of [2] [900000000, 900000001, 900000002] (by kernel_rfl) (by kernel_rfl) (by kernel_rfl)
        · replace hs := bif_t h4 hs
          refine d_runs 3 2 [(40, .bool v1), (39, .bool v1), (38, .bool v1)] (pfp 3 4) (by kernel_rfl) (by kernel_rfl) ?_
          cases h5 : (v1)
          · replace hs := bif_f h5 hs
            refine d_runs 18 5 [(2, .bool false), (57, .bool false), (56, .no), (55, .no), (54, .no), (53, .no), (52, .no), (51, .no), (50, .no), (49, .bool false), (48, .bool false), (47, .no), (46, .no), (45, .no), (44, .no), (43, .no), (42, .no), (41, .no)] (pfp 18 22) (by kernel_rfl) (by kernel_rfl) ?_
            refine d_nil (by kernel_rfl) ?_
            obtain rfl := Option.some.inj hs
            refine nrm_join false rfl ?_
            exact cut_of [2] [900000000, 900000001, 900000002] (by kernel_rfl) (by kernel_rfl) (by kernel_rfl)
          · replace hs := bif_t h5 hs
            refine d_runs 2 5 [(42, .vs 1 (List.map EV.encI v.L)), (41, .ptr 1 0 3)] [⟨6, [], [1]⟩, ⟨5, [], []⟩] (by kernel_rfl) (by kernel_rfl) ?_
            obtain ⟨y9, c9, hs⟩ := bind_some hs
            refine d_loc (F := []) (R := [(900000000, gl0 ob0), (900000001, gl1 ob1 u1), (900000002, gl2 ob2 u2)]) (F' := []) (v := .str y9) 7 [] [900000000, 900000001, 900000002] rfl rfl rfl rfl (by kernel_rfl) (by kernel_rfl) (by kernel_rfl) (by kernel_rfl) (by kernel_rfl) (by kernel_rfl) (by kernel_rfl) (by kernel_rfl) (loc_gcallL (vs := [.vs 1 (List.map EV.encI v.L)]) (G := [(900000000, gl0 ob0), (900000001, gl1 ob1 u1), (900000002, gl2 ob2 u2)]) (R := []) (callV_func hbv17 (by kernel_rfl)) (w_wire_Nums (ob0 := ob0) (ob1 := ob1) (ob2 := ob2) (u1 := u1) (u2 := u2) v.L _ c9) (by kernel_rfl) (.cons (.same _) (.nil)) (by kernel_rfl) (by kernel_rfl) (by kernel_rfl)) ?_
            refine d_runs 2 8 [(45, .vs 1 (List.map EV.encI v.L)), (44, .ptr 1 0 3)] [⟨9, [], [1]⟩, ⟨8, [], []⟩] (by kernel_rfl) (by kernel_rfl) ?_
            obtain ⟨y10, c10, hs⟩ := bind_some hs
            refine d_pure (v := .str y10) 10 rfl rfl rfl rfl (by kernel_rfl) (by kernel_rfl) (loc_gcall0 (callV_func hbv18 (by kernel_rfl)) (w_greenbeltref01_Nums v.L _ c10) (by kernel_rfl)) ?_
            refine d_runs 3 11 [(49, .bool (decide (y9 = y10))), (48, .bool (decide (y9 = y10))), (47, .bool (decide (y9 = y10)))] (pfp 3 13) (by kernel_rfl) (by kernel_rfl) ?_
            cases h6 : ((decide (y9 = y10)))
            · replace hs := bif_f h6 hs
              refine d_runs 9 14 [(2, .bool false), (57, .bool false), (56, .no), (55, .no), (54, .no), (53, .no), (52, .no), (51, .no), (50, .no)] (pfp 9 22) (by kernel_rfl) (by kernel_rfl) ?_
              refine d_nil (by kernel_rfl) ?_
              obtain rfl := Option.some.inj hs
              refine nrm_join false rfl ?_
              exact cut_of [2] [900000000, 900000001, 900000002] (by kernel_rfl) (by kernel_rfl) (by kernel_rfl)
            · replace hs := bif_t h6 hs
              refine d_runs 2 14 [(51, .vs 1 (List.map EV.encS v.T)), (50, .ptr 1 0 4)] [⟨15, [], [1]⟩, ⟨14, [], []⟩] (by kernel_rfl) (by kernel_rfl) ?_
              obtain ⟨y11, c11, hs⟩ := bind_some hs
              refine d_loc (F := []) (R := [(900000000, gl0 ob0), (900000001, gl1 ob1 u1), (900000002, gl2 ob2 u2)]) (F' := []) (v := .str y11) 16 [] [900000000, 900000001, 900000002] rfl rfl rfl rfl (by kernel_rfl) (by kernel_rfl) (by kernel_rfl) (by kernel_rfl) (by kernel_rfl) (by kernel_rfl) (by kernel_rfl) (by kernel_rfl) (loc_gcallL (vs := [.vs 1 (List.map EV.encS v.T)]) (G := [(900000000, gl0 ob0), (900000001, gl1 ob1 u1), (900000002, gl2 ob2 u2)]) (R := []) (callV_func hbv19 (by kernel_rfl)) (w_wire_Texts (ob0 := ob0) (ob1 := ob1) (ob2 := ob2) (u1 := u1) (u2 := u2) v.T _ c11) (by kernel_rfl) (.cons (.same _) (.nil)) (by kernel_rfl) (by kernel_rfl) (by kernel_rfl)) ?_
              refine d_runs 2 17 [(54, .vs 1 (List.map EV.encS v.T)), (53, .ptr 1 0 4)] [⟨18, [], [1]⟩, ⟨17, [], []⟩] (by kernel_rfl) (by kernel_rfl) ?_
              obtain ⟨y12, c12, hs⟩ := bind_some hs
              refine d_pure (v := .str y12) 19 rfl rfl rfl rfl (by kernel_rfl) (by kernel_rfl) (loc_gcall0 (callV_func hbv20 (by kernel_rfl)) (w_greenbeltref01_Texts v.T _ c12) (by kernel_rfl)) ?_
              refine d_runs 3 20 [(2, .bool (decide (y11 = y12))), (57, .bool (decide (y11 = y12))), (56, .bool (decide (y11 = y12)))] (pfp 3 22) (by kernel_rfl) (by kernel_rfl) ?_
              refine d_nil (by kernel_rfl) ?_
              obtain rfl := Option.some.inj hs
              refine nrm_join (decide (y11 = y12)) rfl ?_
              exact cut_of [2] [900000000, 900000001, 900000002] (by kernel_rfl) (by kernel_rfl) (by kernel_rfl)
      · subst hz; clear hs; have hs := hk2; clear hk2
        refine nrm_thenV ?_
        refine v_ret ?_
        obtain rfl := Option.some.inj hs
        exact fin_ret (by kernel_rfl) (by kernel_rfl) (by kernel_rfl)
def s_greenbeltlaw01_kind (v : greenbeltlaw01_Value) : Option Int :=
  ((bif (decide ((Int.tmod v.Kind 5) < 0)) then some (w64 ((Int.tmod v.Kind 5) + 5)) else some (Int.tmod v.Kind 5))).bind fun v1 => some v1
theorem w_greenbeltlaw01_kind (v : greenbeltlaw01_Value) (r : Int) (hs : s_greenbeltlaw01_kind v = some r) : FnA Tryd.prog 22 [.agg (enc_greenbeltlaw01_Value v)] [] (.int .i64 r) [] := by
  refine fnA_of_wp (N := 12) Tryd.func22 rfl rfl rfl fun cK0 => ?_
  unfold s_greenbeltlaw01_kind at hs
  refine v_same (ρ' := [(0, .agg (enc_greenbeltlaw01_Value v))]) rfl rfl ?_
  refine v_seq ?_
  refine vr_text ?_
  refine o_runh 2 [(2, .int .i64 0), (1, .ptr 1 0 0)] [(1, .box 25 [.int .i64 v.Kind, .int .i64 v.N, .str v.S, .vs 1 (List.map EV.encI v.L), .vs 1 (List.map EV.encS v.T)])] (by kernel_rfl) ?_
  refine ov_nil ?_
  refine nrm_thenV ?_
  refine v_seq ?_
  refine vr_text ?_
  refine o_runs 4 [(3, .int .i64 (Int.tmod v.Kind 5)), (6, .int .i64 (Int.tmod v.Kind 5)), (5, .int .i64 v.Kind), (4, .ptr 1 0 0)] (by kernel_rfl) ?_
  refine ov_nil ?_
  refine nrm_thenV ?_
  refine v_seq ?_
  refine v_seq ?_
  refine vr_text ?_
  refine o_runs 2 [(8, .bool (decide ((Int.tmod v.Kind 5) < 0))), (7, .int .i64 (Int.tmod v.Kind 5))] (by kernel_rfl) ?_
  refine ov_nil ?_
  refine nrm_thenV ?_
  obtain ⟨z1, hs, hk1⟩ := bind_some hs
  refine v_join (S := Int) (fun u => u = z1) (fun u => [(3, .int .i64 u)]) (fun u => []) ?_ (fun v1 hz => ?_)
  · refine v_cond (decide ((Int.tmod v.Kind 5) < 0)) (by kernel_rfl) (fun h1 => ?_) (fun h1 => ?_)
    · replace hs := bif_t h1 hs
      refine vr_text ?_
      refine o_runs 3 [(3, .int .i64 (w64 ((Int.tmod v.Kind 5) + 5))), (10, .int .i64 (w64 ((Int.tmod v.Kind 5) + 5))), (9, .int .i64 (Int.tmod v.Kind 5))] (by kernel_rfl) ?_
      refine ov_nil ?_
      obtain rfl := Option.some.inj hs
      refine nrm_join (w64 ((Int.tmod v.Kind 5) + 5)) rfl ?_
      exact cut_of [3] [] (by kernel_rfl) (by kernel_rfl) (by kernel_rfl)
    · replace hs := bif_f h1 hs
      refine v_skip ?_
      obtain rfl := Option.some.inj hs
      refine nrm_join (Int.tmod v.Kind 5) rfl ?_
      exact cut_of [3] [] (by kernel_rfl) (by kernel_rfl) (by kernel_rfl)
  · subst hz; clear hs; have hs := hk1; clear hk1
    refine nrm_thenV ?_
    refine v_seq ?_
    refine vr_text ?_
    refine o_runs 2 [(2, .int .i64 v1), (11, .int .i64 v1)] (by kernel_rfl) ?_
    refine ov_nil ?_
    refine nrm_thenV ?_
    refine v_ret ?_
    obtain rfl := Option.some.inj hs
    exact fin_ret (by kernel_rfl) (by kernel_rfl) (by kernel_rfl)
def s_wire_Reader_Int (r_rest : (List UInt8)) (r_bad : Bool) : Option (Int × (List UInt8) × Bool) :=
  (s_wire_Reader_number r_rest r_bad 59 (-9223372036854775808)).bind fun y1 => some (y1.1, y1.2.1, y1.2.2)
theorem w_wire_Reader_Int (r_rest : (List UInt8)) (r_bad : Bool) (r : Int × (List UInt8) × Bool) (hs : s_wire_Reader_Int r_rest r_bad = some r) : FnA Tryd.prog 24 [.ptr 1000000 0 0] [(1000000, .box 54 [.str r_rest, .bool r_bad]), (900000000, gl0 ob0), (900000001, gl1 ob1 u1), (900000002, gl2 ob2 u2)] (.int .i64 r.1) [(1000000, .box 54 [.str r.2.1, .bool r.2.2]), (900000000, gl0 ob0), (900000001, gl1 ob1 u1), (900000002, gl2 ob2 u2)] := by
  refine fnA_of_wp (N := 5) Tryd.func24 rfl rfl rfl fun cK0 => ?_
  unfold s_wire_Reader_Int at hs
  refine v_same (ρ' := [(0, .ptr 1000000 0 0)]) rfl rfl ?_
  refine v_seq ?_
  refine vr_text ?_
  refine o_runs 1 [(2, .int .i64 0)] (by kernel_rfl) ?_
  refine ov_nil ?_
  refine nrm_thenV ?_
  refine v_seq ?_
  refine vr_text ?_
  refine o_runs 1 [(3, .ptr 1000000 0 0)] (by kernel_rfl) ?_
  obtain ⟨y1, c1, hs⟩ := bind_some hs
  refine o_loc (F := [(1000000, .box 54 [.str r_rest, .bool r_bad]), (900000000, gl0 ob0), (900000001, gl1 ob1 u1), (900000002, gl2 ob2 u2)]) (F' := [(1000000, .box 54 [.str y1.2.1, .bool y1.2.2]), (900000000, gl0 ob0), (900000001, gl1 ob1 u1), (900000002, gl2 ob2 u2)]) (v := .int .i64 y1.1) [1000000, 900000000, 900000001, 900000002] (by kernel_rfl) (by kernel_rfl) rfl (by kernel_rfl) (loc_g (R := []) [.ptr 1000000 0 0, .int .u8 59, .int .i64 (-9223372036854775808)] [(1000000, 1000000), (900000000, 900000000), (900000001, 900000001), (900000002, 900000002)] (callV_func hbv48 (by kernel_rfl)) (w_wire_Reader_number (ob0 := ob0) (ob1 := ob1) (ob2 := ob2) (u1 := u1) (u2 := u2) r_rest r_bad 59 (-9223372036854775808) _ c1) (.cons (.same _) (.cons (.same _) (.cons (.same _) (.nil)))) (by kernel_rfl) (by kernel_rfl) (by kernel_rfl) (by kernel_rfl) (by kernel_rfl) (by kernel_rfl) (by kernel_rfl) (by kernel_rfl)) (by kernel_rfl) ?_
  refine o_runs 1 [(2, .int .i64 y1.1)] (by kernel_rfl) ?_
  refine ov_nil ?_
  refine nrm_thenV ?_
  refine v_ret ?_
  obtain rfl := Option.some.inj hs
  exact fin_ret (by kernel_rfl) (by kernel_rfl) (by kernel_rfl)
def s_stringslite_HasPrefix (s : (List UInt8)) (prefix_ : (List UInt8)) : Option Bool :=
  ((bif (decide ((List.length s : Int) ≥ (List.length prefix_ : Int))) then (cut s 0 (List.length prefix_ : Int)).bind fun x1 => some (decide (x1 = prefix_)) else some false)).bind fun v1 => some v1
theorem w_stringslite_HasPrefix (s : (List UInt8)) (prefix_ : (List UInt8)) (r : Bool) (hs : s_stringslite_HasPrefix s prefix_ = some r) : FnA Tryd.prog 82 [.str s, .str prefix_] [] (.bool r) [] := by
  refine fnA_of_wp (N := 18) Tryd.func82 rfl rfl rfl fun cK0 => ?_
  unfold s_stringslite_HasPrefix at hs
  refine v_same (ρ' := [(0, .str s), (1, .str prefix_)]) rfl rfl ?_
  refine v_seq ?_
  refine vr_text ?_
  refine o_runs 1 [(4, .bool false)] (by kernel_rfl) ?_
  refine ov_nil ?_
  refine nrm_thenV ?_
  refine v_seq ?_
  obtain ⟨z1, hs, hk1⟩ := bind_some hs
  refine v_join (S := Bool) (fun u => u = z1) (fun u => [(4, .bool u)]) (fun u => []) ?_ (fun v1 hz => ?_)
  · refine vr_text ?_
    refine o_runs 6 [(10, .bool (decide ((List.length s : Int) ≥ (List.length prefix_ : Int)))), (9, .bool (decide ((List.length s : Int) ≥ (List.length prefix_ : Int)))), (8, .int .i64 (List.length prefix_ : Int)), (7, .str prefix_), (6, .int .i64 (List.length s : Int)), (5, .str s)] (by kernel_rfl) ?_
    cases h1 : ((decide ((List.length s : Int) ≥ (List.length prefix_ : Int))))
    · replace hs := bif_f h1 hs
      refine o_runs 8 [(4, .bool false), (17, .bool false), (16, .no), (15, .no), (14, .no), (13, .no), (12, .no), (11, .no)] (by kernel_rfl) ?_
      refine ov_nil ?_
      obtain rfl := Option.some.inj hs
      refine nrm_join false rfl ?_
      exact cut_of [4] [] (by kernel_rfl) (by kernel_rfl) (by kernel_rfl)
    · replace hs := bif_t h1 hs
      refine o_runs 3 [(13, .int .i64 (List.length prefix_ : Int)), (12, .str prefix_), (11, .str s)] (by kernel_rfl) ?_
      obtain ⟨x1, g1, hs⟩ := bind_some hs; obtain ⟨g1a, g1b, g1c, g1d⟩ := cut_some g1
      refine o_pure (v := .str x1) (by kernel_rfl) (by kernel_rfl) (by rw [g1d]; exact loc_sliceStr (s := s) (l := 0) (h := (List.length prefix_ : Int)) (by kernel_rfl) (by kernel_rfl) rfl ⟨.i64, by kernel_rfl⟩ g1a g1b g1c) ?_
      refine o_runs 4 [(4, .bool (decide (x1 = prefix_))), (17, .bool (decide (x1 = prefix_))), (16, .bool (decide (x1 = prefix_))), (15, .str prefix_)] (by kernel_rfl) ?_
      refine ov_nil ?_
      obtain rfl := Option.some.inj hs
      refine nrm_join (decide (x1 = prefix_)) rfl ?_
      exact cut_of [4] [] (by kernel_rfl) (by kernel_rfl) (by kernel_rfl)
  · subst hz; clear hs; have hs := hk1; clear hk1
    refine nrm_thenV ?_
    refine v_ret ?_
    obtain rfl := Option.some.inj hs
    exact fin_ret (by kernel_rfl) (by kernel_rfl) (by kernel_rfl)
def s_stringslite_CutPrefix (s : (List UInt8)) (prefix_ : (List UInt8)) : Option ((List UInt8) × Bool) :=
  (s_stringslite_HasPrefix s prefix_).bind fun y1 => (bif (!y1) then some (s, false) else (cut s (List.length prefix_ : Int) (List.length s : Int)).bind fun x1 => some (x1, true))
theorem w_stringslite_CutPrefix (s : (List UInt8)) (prefix_ : (List UInt8)) (r : (List UInt8) × Bool) (hs : s_stringslite_CutPrefix s prefix_ = some r) : FnA Tryd.prog 70 [.str s, .str prefix_] [] (.tup [.str r.1, .bool r.2]) [] := by
  refine fnA_of_wp (N := 15) Tryd.func70 rfl rfl rfl fun cK0 => ?_
  unfold s_stringslite_CutPrefix at hs
  refine v_same (ρ' := [(0, .str s), (1, .str prefix_)]) rfl rfl ?_
  refine v_seq ?_
  refine vr_text ?_
  refine o_runs 2 [(5, .bool false), (4, .str [])] (by kernel_rfl) ?_
  refine ov_nil ?_
  refine nrm_thenV ?_
  refine v_seq ?_
  refine v_seq ?_
  refine vr_text ?_
  refine o_runs 2 [(7, .str prefix_), (6, .str s)] (by kernel_rfl) ?_
  obtain ⟨y1, c1, hs⟩ := bind_some hs
  refine o_pure (v := .bool y1) (by kernel_rfl) (by kernel_rfl) (loc_gcall0 (callV_func hbv82 (by kernel_rfl)) (w_stringslite_HasPrefix s prefix_ _ c1) (by kernel_rfl)) ?_
  refine o_runs 1 [(9, .bool (!y1))] (by kernel_rfl) ?_
  refine ov_nil ?_
  refine nrm_thenV ?_
  refine v_cond (!y1) (by kernel_rfl) (fun h1 => ?_) (fun h1 => ?_)
  · replace hs := bif_t h1 hs
    refine v_seq ?_
    refine vr_text ?_
    refine o_runs 3 [(5, .bool false), (4, .str s), (10, .str s)] (by kernel_rfl) ?_
    refine ov_nil ?_
    refine nrm_thenV ?_
    refine v_ret ?_
    refine ret_thenV ?_
    obtain rfl := Option.some.inj hs
    exact fin_ret (by kernel_rfl) (by kernel_rfl) (by kernel_rfl)
  · replace hs := bif_f h1 hs
    refine v_skip ?_
    refine nrm_thenV ?_
    refine v_seq ?_
    refine vr_text ?_
    refine o_runs 3 [(13, .int .i64 (List.length prefix_ : Int)), (12, .str prefix_), (11, .str s)] (by kernel_rfl) ?_
    obtain ⟨x1, g1, hs⟩ := bind_some hs; obtain ⟨g1a, g1b, g1c, g1d⟩ := cut_some g1
    refine o_pure (v := .str x1) (by kernel_rfl) (by kernel_rfl) (by rw [g1d]; exact loc_sliceStr (s := s) (l := (List.length prefix_ : Int)) (h := (List.length s : Int)) (by kernel_rfl) (by kernel_rfl) ⟨.i64, by kernel_rfl⟩ rfl g1a g1b g1c) ?_
    refine o_runs 2 [(5, .bool true), (4, .str x1)] (by kernel_rfl) ?_
    refine ov_nil ?_
    refine nrm_thenV ?_
    refine v_ret ?_
    obtain rfl := Option.some.inj hs
    exact fin_ret (by kernel_rfl) (by kernel_rfl) (by kernel_rfl)
def s_strings_CutPrefix (s : (List UInt8)) (prefix_ : (List UInt8)) : Option ((List UInt8) × Bool) :=
  (s_stringslite_CutPrefix s prefix_).bind fun y1 => some (y1.1, y1.2)
theorem w_strings_CutPrefix (s : (List UInt8)) (prefix_ : (List UInt8)) (r : (List UInt8) × Bool) (hs : s_strings_CutPrefix s prefix_ = some r) : FnA Tryd.prog 63 [.str s, .str prefix_] [] (.tup [.str r.1, .bool r.2]) [] := by
  refine fnA_of_wp (N := 11) Tryd.func63 rfl rfl rfl fun cK0 => ?_
  unfold s_strings_CutPrefix at hs
  refine v_same (ρ' := [(0, .str s), (1, .str prefix_)]) rfl rfl ?_
  refine v_seq ?_
  refine vr_text ?_
  refine o_runs 2 [(5, .bool false), (4, .str [])] (by kernel_rfl) ?_
  refine ov_nil ?_
  refine nrm_thenV ?_
  refine v_seq ?_
  refine vr_text ?_
  refine o_runs 2 [(7, .str prefix_), (6, .str s)] (by kernel_rfl) ?_
  obtain ⟨y1, c1, hs⟩ := bind_some hs
  refine o_pure (v := .tup [.str y1.1, .bool y1.2]) (by kernel_rfl) (by kernel_rfl) (loc_gcall0 (callV_func hbv70 (by kernel_rfl)) (w_stringslite_CutPrefix s prefix_ _ c1) (by kernel_rfl)) ?_
  refine o_runs 4 [(5, .bool y1.2), (4, .str y1.1), (10, .bool y1.2), (9, .str y1.1)] (by kernel_rfl) ?_
  refine ov_nil ?_
  refine nrm_thenV ?_
  refine v_ret ?_
  obtain rfl := Option.some.inj hs
  exact fin_ret (by kernel_rfl) (by kernel_rfl) (by kernel_rfl)
def s_wire_Reader_close (r_rest : (List UInt8)) (r_bad : Bool) (end_ : (List UInt8)) : Option ((List UInt8) × Bool) :=
  (s_strings_CutPrefix r_rest end_).bind fun y1 => (bif (!y1.2) then (s_wire_Reader_fail y1.1 r_bad).bind fun y2 => some ([], true) else some (y1.1, r_bad))
theorem w_wire_Reader_close (r_rest : (List UInt8)) (r_bad : Bool) (end_ : (List UInt8)) (r : (List UInt8) × Bool) (hs : s_wire_Reader_close r_rest r_bad end_ = some r) : FnA Tryd.prog 50 [.ptr 1000000 0 0, .str end_] [(1000000, .box 54 [.str r_rest, .bool r_bad])] (.tup []) [(1000000, .box 54 [.str r.1, .bool r.2])] := by
  refine fnA_of_wp (N := 23) Tryd.func50 rfl rfl rfl fun cK0 => ?_
  unfold s_wire_Reader_close at hs
  refine v_same (ρ' := [(0, .ptr 1000000 0 0), (1, .str end_)]) rfl rfl ?_
  refine v_seq ?_
  refine vr_text ?_
  refine o_runs 5 [(11, .str end_), (10, .str r_rest), (9, .ptr 1000000 0 0), (8, .ptr 1000000 0 0), (7, .ptr 1000000 0 0)] (by kernel_rfl) ?_
  obtain ⟨y1, c1, hs⟩ := bind_some hs
  refine o_pure (v := .tup [.str y1.1, .bool y1.2]) (by kernel_rfl) (by kernel_rfl) (loc_gcall0 (callV_func hbv63 (by kernel_rfl)) (w_strings_CutPrefix r_rest end_ _ c1) (by kernel_rfl)) ?_
  refine o_runs 5 [(5, .bool y1.2), (4, .str y1.1), (14, .bool y1.2), (13, .str y1.1), (6, .tup [.str y1.1, .bool y1.2])] (by kernel_rfl) ?_
  refine ov_nil ?_
  refine nrm_thenV ?_
  refine v_seq ?_
  refine vr_text ?_
  refine o_runh 5 [(18, .ptr 1000000 0 0), (17, .ptr 1000000 0 0), (16, .str y1.1), (15, .ptr 1000000 0 0)] [(1000000, .box 54 [.str y1.1, .bool r_bad])] (by kernel_rfl) ?_
  refine ov_nil ?_
  refine nrm_thenV ?_
  refine v_seq ?_
  refine vr_text ?_
  refine o_runs 2 [(20, .bool (!y1.2)), (19, .bool y1.2)] (by kernel_rfl) ?_
  refine ov_nil ?_
  refine nrm_thenV ?_
  refine v_cond (!y1.2) (by kernel_rfl) (fun h1 => ?_) (fun h1 => ?_)
  · replace hs := bif_t h1 hs
    refine vr_text ?_
    refine o_runs 1 [(21, .ptr 1000000 0 0)] (by kernel_rfl) ?_
    obtain ⟨y2, c2, hs⟩ := bind_some hs
    refine o_loc (F := [(1000000, .box 54 [.str y1.1, .bool r_bad])]) (F' := [(1000000, .box 54 [.str [], .bool true])]) (v := .tup []) [1000000] (by kernel_rfl) (by kernel_rfl) rfl (by kernel_rfl) (loc_g (R := []) [.ptr 1000000 0 0] [(1000000, 1000000)] (callV_func hbv49 (by kernel_rfl)) (w_wire_Reader_fail y1.1 r_bad _ c2) (.cons (.same _) (.nil)) (by kernel_rfl) (by kernel_rfl) (by kernel_rfl) (by kernel_rfl) (by kernel_rfl) (by kernel_rfl) (by kernel_rfl) (by kernel_rfl)) (by kernel_rfl) ?_
    refine ov_nil ?_
    refine fin_nrm ?_
    obtain rfl := Option.some.inj hs
    exact fin_ret (by kernel_rfl) (by kernel_rfl) (by kernel_rfl)
  · replace hs := bif_f h1 hs
    refine v_skip ?_
    refine fin_nrm ?_
    obtain rfl := Option.some.inj hs
    exact fin_ret (by kernel_rfl) (by kernel_rfl) (by kernel_rfl)
def s_wire_Reader_Text (r_rest : (List UInt8)) (r_bad : Bool) : Option ((List UInt8) × (List UInt8) × Bool) :=
  (s_wire_Reader_number r_rest r_bad 58 0).bind fun y1 => (bif (decide (y1.1 > (List.length y1.2.1 : Int))) then (s_wire_Reader_fail y1.2.1 y1.2.2).bind fun y2 => some ([], [], true) else (cut y1.2.1 0 y1.1).bind fun x1 => (cut y1.2.1 y1.1 (List.length y1.2.1 : Int)).bind fun x2 => (s_wire_Reader_close x2 y1.2.2 ([44] : List UInt8)).bind fun y3 => (bif y3.2 then some ([], y3.1, y3.2) else some (x1, y3.1, y3.2)))
theorem w_wire_Reader_Text (r_rest : (List UInt8)) (r_bad : Bool) (r : (List UInt8) × (List UInt8) × Bool) (hs : s_wire_Reader_Text r_rest r_bad = some r) : FnA Tryd.prog 25 [.ptr 1000000 0 0] [(1000000, .box 54 [.str r_rest, .bool r_bad]), (900000000, gl0 ob0), (900000001, gl1 ob1 u1), (900000002, gl2 ob2 u2)] (.str r.1) [(1000000, .box 54 [.str r.2.1, .bool r.2.2]), (900000000, gl0 ob0), (900000001, gl1 ob1 u1), (900000002, gl2 ob2 u2)] := by
  refine fnA_of_wp (N := 38) Tryd.func25 rfl rfl rfl fun cK0 => ?_
  unfold s_wire_Reader_Text at hs
  refine v_same (ρ' := [(0, .ptr 1000000 0 0)]) rfl rfl ?_
  refine v_seq ?_
  refine vr_text ?_
  refine o_runs 1 [(2, .str [])] (by kernel_rfl) ?_
  refine ov_nil ?_
  refine nrm_thenV ?_
  refine v_seq ?_
  refine vr_text ?_
  refine o_runs 1 [(5, .ptr 1000000 0 0)] (by kernel_rfl) ?_
  obtain ⟨y1, c1, hs⟩ := bind_some hs
  refine o_loc (F := [(1000000, .box 54 [.str r_rest, .bool r_bad]), (900000000, gl0 ob0), (900000001, gl1 ob1 u1), (900000002, gl2 ob2 u2)]) (F' := [(1000000, .box 54 [.str y1.2.1, .bool y1.2.2]), (900000000, gl0 ob0), (900000001, gl1 ob1 u1), (900000002, gl2 ob2 u2)]) (v := .int .i64 y1.1) [1000000, 900000000, 900000001, 900000002] (by kernel_rfl) (by kernel_rfl) rfl (by kernel_rfl) (loc_g (R := []) [.ptr 1000000 0 0, .int .u8 58, .int .i64 0] [(1000000, 1000000), (900000000, 900000000), (900000001, 900000001), (900000002, 900000002)] (callV_func hbv48 (by kernel_rfl)) (w_wire_Reader_number (ob0 := ob0) (ob1 := ob1) (ob2 := ob2) (u1 := u1) (u2 := u2) r_rest r_bad 58 0 _ c1) (.cons (.same _) (.cons (.same _) (.cons (.same _) (.nil)))) (by kernel_rfl) (by kernel_rfl) (by kernel_rfl) (by kernel_rfl) (by kernel_rfl) (by kernel_rfl) (by kernel_rfl) (by kernel_rfl)) (by kernel_rfl) ?_
  refine o_runs 1 [(3, .int .i64 y1.1)] (by kernel_rfl) ?_
  refine ov_nil ?_
  refine nrm_thenV ?_
  refine v_seq ?_
  refine v_seq ?_
  refine vr_text ?_
  refine o_runs 7 [(13, .bool (decide (y1.1 > (List.length y1.2.1 : Int)))), (12, .int .i64 (List.length y1.2.1 : Int)), (11, .str y1.2.1), (10, .ptr 1000000 0 0), (9, .ptr 1000000 0 0), (8, .ptr 1000000 0 0), (7, .int .i64 y1.1)] (by kernel_rfl) ?_
  refine ov_nil ?_
  refine nrm_thenV ?_
  refine v_cond (decide (y1.1 > (List.length y1.2.1 : Int))) (by kernel_rfl) (fun h1 => ?_) (fun h1 => ?_)
  · replace hs := bif_t h1 hs
    refine v_seq ?_
    refine vr_text ?_
    refine o_runs 1 [(14, .ptr 1000000 0 0)] (by kernel_rfl) ?_
    obtain ⟨y2, c2, hs⟩ := bind_some hs
    refine o_loc (F := [(1000000, .box 54 [.str y1.2.1, .bool y1.2.2])]) (F' := [(1000000, .box 54 [.str [], .bool true])]) (v := .tup []) [1000000] (by kernel_rfl) (by kernel_rfl) rfl (by kernel_rfl) (loc_g (R := []) [.ptr 1000000 0 0] [(1000000, 1000000)] (callV_func hbv49 (by kernel_rfl)) (w_wire_Reader_fail y1.2.1 y1.2.2 _ c2) (.cons (.same _) (.nil)) (by kernel_rfl) (by kernel_rfl) (by kernel_rfl) (by kernel_rfl) (by kernel_rfl) (by kernel_rfl) (by kernel_rfl) (by kernel_rfl)) (by kernel_rfl) ?_
    refine ov_nil ?_
    refine nrm_thenV ?_
    refine v_seq ?_
    refine vr_text ?_
    refine o_runs 1 [(2, .str [])] (by kernel_rfl) ?_
    refine ov_nil ?_
    refine nrm_thenV ?_
    refine v_ret ?_
    refine ret_thenV ?_
    obtain rfl := Option.some.inj hs
    exact fin_ret (by kernel_rfl) (by kernel_rfl) (by kernel_rfl)
  · replace hs := bif_f h1 hs
    refine v_skip ?_
    refine nrm_thenV ?_
    refine v_seq ?_
    refine vr_text ?_
    refine o_runs 5 [(20, .int .i64 y1.1), (19, .str y1.2.1), (18, .ptr 1000000 0 0), (17, .ptr 1000000 0 0), (16, .ptr 1000000 0 0)] (by kernel_rfl) ?_
    obtain ⟨x1, g1, hs⟩ := bind_some hs; obtain ⟨g1a, g1b, g1c, g1d⟩ := cut_some g1
    refine o_pure (v := .str x1) (by kernel_rfl) (by kernel_rfl) (by rw [g1d]; exact loc_sliceStr (s := y1.2.1) (l := 0) (h := y1.1) (by kernel_rfl) (by kernel_rfl) rfl ⟨.i64, by kernel_rfl⟩ g1a g1b g1c) ?_
    refine o_runs 1 [(4, .str x1)] (by kernel_rfl) ?_
    refine ov_nil ?_
    refine nrm_thenV ?_
    refine v_seq ?_
    refine vr_text ?_
    refine o_runs 6 [(27, .int .i64 y1.1), (26, .str y1.2.1), (25, .ptr 1000000 0 0), (24, .ptr 1000000 0 0), (23, .ptr 1000000 0 0), (22, .ptr 1000000 0 0)] (by kernel_rfl) ?_
    obtain ⟨x2, g2, hs⟩ := bind_some hs; obtain ⟨g2a, g2b, g2c, g2d⟩ := cut_some g2
    refine o_pure (v := .str x2) (by kernel_rfl) (by kernel_rfl) (by rw [g2d]; exact loc_sliceStr (s := y1.2.1) (l := y1.1) (h := (List.length y1.2.1 : Int)) (by kernel_rfl) (by kernel_rfl) ⟨.i64, by kernel_rfl⟩ rfl g2a g2b g2c) ?_
    refine o_runh 3 [(30, .ptr 1000000 0 0), (29, .ptr 1000000 0 0)] [(1000000, .box 54 [.str x2, .bool y1.2.2]), (900000000, gl0 ob0), (900000001, gl1 ob1 u1), (900000002, gl2 ob2 u2)] (by kernel_rfl) ?_
    refine ov_nil ?_
    refine nrm_thenV ?_
    refine v_seq ?_
    refine v_seq ?_
    refine vr_text ?_
    refine o_runs 1 [(31, .ptr 1000000 0 0)] (by kernel_rfl) ?_
    obtain ⟨y3, c3, hs⟩ := bind_some hs
    refine o_loc (F := [(1000000, .box 54 [.str x2, .bool y1.2.2])]) (F' := [(1000000, .box 54 [.str y3.1, .bool y3.2])]) (v := .tup []) [1000000] (by kernel_rfl) (by kernel_rfl) rfl (by kernel_rfl) (loc_g (R := []) [.ptr 1000000 0 0, .str ([44] : List UInt8)] [(1000000, 1000000)] (callV_func hbv50 (by kernel_rfl)) (w_wire_Reader_close x2 y1.2.2 ([44] : List UInt8) _ c3) (.cons (.same _) (.cons (.same _) (.nil))) (by kernel_rfl) (by kernel_rfl) (by kernel_rfl) (by kernel_rfl) (by kernel_rfl) (by kernel_rfl) (by kernel_rfl) (by kernel_rfl)) (by kernel_rfl) ?_
    refine ov_nil ?_
    refine nrm_thenV ?_
    refine v_seq ?_
    refine vr_text ?_
    refine o_runs 4 [(36, .bool y3.2), (35, .ptr 1000000 0 1), (34, .ptr 1000000 0 0), (33, .ptr 1000000 0 0)] (by kernel_rfl) ?_
    refine ov_nil ?_
    refine nrm_thenV ?_
    refine v_cond y3.2 (by kernel_rfl) (fun h2 => ?_) (fun h2 => ?_)
    · replace hs := bif_t h2 hs
      refine v_seq ?_
      refine vr_text ?_
      refine o_runs 1 [(2, .str [])] (by kernel_rfl) ?_
      refine ov_nil ?_
      refine nrm_thenV ?_
      refine v_ret ?_
      refine ret_thenV ?_
      obtain rfl := Option.some.inj hs
      exact fin_ret (by kernel_rfl) (by kernel_rfl) (by kernel_rfl)
    · replace hs := bif_f h2 hs
      refine v_skip ?_
      refine nrm_thenV ?_
      refine v_seq ?_
      refine vr_text ?_
      refine o_runs 2 [(2, .str x1), (37, .str x1)] (by kernel_rfl) ?_
      refine ov_nil ?_
      refine nrm_thenV ?_
      refine v_ret ?_
      obtain rfl := Option.some.inj hs
      exact fin_ret (by kernel_rfl) (by kernel_rfl) (by kernel_rfl)
def s_wire_items_L1  : Nat → (Int × (List UInt8) × Bool × (List Int)) → Option ((List UInt8) × Bool × (List Int))
  | 0, _ => none
  | K1 + 1, q1 => ((bif (decide (q1.1 > 0)) then some (!q1.2.2.1) else some false)).bind fun v2 => (bif v2 then (s_wire_Reader_Int q1.2.1 q1.2.2.1).bind fun y2 => (grd (((q1.2.2.2 ++ [y2.1])).length * 8 ≤ 140737488355328)).bind fun _ => s_wire_items_L1 K1 ((w64 (q1.1 - 1)), y2.2.1, y2.2.2, (q1.2.2.2 ++ [y2.1])) else some (q1.2.1, q1.2.2.1, q1.2.2.2))
def s_wire_items (r_rest : (List UInt8)) (r_bad : Bool) : Option ((List Int) × (List UInt8) × Bool) :=
  (s_wire_Reader_number r_rest r_bad 91 0).bind fun y1 => (s_wire_items_L1 KK (y1.1, y1.2.1, y1.2.2, [])).bind fun v1 => (s_wire_Reader_close v1.1 v1.2.1 ([93] : List UInt8)).bind fun y3 => (bif y3.2 then some ([], y3.1, y3.2) else some (v1.2.2, y3.1, y3.2))
theorem w_wire_items (r_rest : (List UInt8)) (r_bad : Bool) (r : (List Int) × (List UInt8) × Bool) (hs : s_wire_items r_rest r_bad = some r) : FnA Tryd.prog 51 [.ptr 1000000 0 0, .fn 24 [.ptr 1000000 0 0] []] [(1000000, .box 54 [.str r_rest, .bool r_bad]), (900000000, gl0 ob0), (900000001, gl1 ob1 u1), (900000002, gl2 ob2 u2)] (.vs 1 (List.map EV.encI r.1)) [(1000000, .box 54 [.str r.2.1, .bool r.2.2]), (900000000, gl0 ob0), (900000001, gl1 ob1 u1), (900000002, gl2 ob2 u2)] := by
  refine fnA_of_wp (N := 32) Tryd.func51 rfl rfl rfl fun cK0 => ?_
  unfold s_wire_items at hs
  refine v_same (ρ' := [(0, .ptr 1000000 0 0), (1, .fn 24 [.ptr 1000000 0 0] [])]) rfl rfl ?_
  refine v_seq ?_
  refine vr_text ?_
  refine o_runs 1 [(4, .nils)] (by kernel_rfl) ?_
  refine ov_nil ?_
  refine nrm_thenV ?_
  refine v_seq ?_
  refine vr_text ?_
  refine o_runs 1 [(5, .nils)] (by kernel_rfl) ?_
  refine ov_nil ?_
  refine nrm_thenV ?_
  refine v_seq ?_
  refine v_seq ?_
  refine vr_text ?_
  refine o_runs 1 [(7, .ptr 1000000 0 0)] (by kernel_rfl) ?_
  obtain ⟨y1, c1, hs⟩ := bind_some hs
  refine o_loc (F := [(1000000, .box 54 [.str r_rest, .bool r_bad]), (900000000, gl0 ob0), (900000001, gl1 ob1 u1), (900000002, gl2 ob2 u2)]) (F' := [(1000000, .box 54 [.str y1.2.1, .bool y1.2.2]), (900000000, gl0 ob0), (900000001, gl1 ob1 u1), (900000002, gl2 ob2 u2)]) (v := .int .i64 y1.1) [1000000, 900000000, 900000001, 900000002] (by kernel_rfl) (by kernel_rfl) rfl (by kernel_rfl) (loc_g (R := []) [.ptr 1000000 0 0, .int .u8 91, .int .i64 0] [(1000000, 1000000), (900000000, 900000000), (900000001, 900000001), (900000002, 900000002)] (callV_func hbv48 (by kernel_rfl)) (w_wire_Reader_number (ob0 := ob0) (ob1 := ob1) (ob2 := ob2) (u1 := u1) (u2 := u2) r_rest r_bad 91 0 _ c1) (.cons (.same _) (.cons (.same _) (.cons (.same _) (.nil)))) (by kernel_rfl) (by kernel_rfl) (by kernel_rfl) (by kernel_rfl) (by kernel_rfl) (by kernel_rfl) (by kernel_rfl) (by kernel_rfl)) (by kernel_rfl) ?_
  refine o_runs 1 [(6, .int .i64 y1.1)] (by kernel_rfl) ?_
  refine ov_nil ?_
  refine nrm_thenV ?_
  obtain ⟨z1, hs, hk1⟩ := bind_some hs
  refine v_join (S := (List UInt8) × Bool × (List Int)) (fun u => u = z1) (fun u => [(0, .ptr 1000000 0 0), (5, .sl 1 2000020 ((u.2.2).length) 0 ((u.2.2).length))]) (fun u => [(1000000, .box 54 [.str u.1, .bool u.2.1]), (2000020, .row 3 1 0 (List.map EV.encI u.2.2)), (900000000, gl0 ob0), (900000001, gl1 ob1 u1), (900000002, gl2 ob2 u2)]) ?_ (fun v1 hz => ?_)
  · refine v_block ?_
    refine v_fuel (S := Int × (List UInt8) × Bool × (List Int)) (fun u => [(0, .ptr 1000000 0 0), (1, .fn 24 [.ptr 1000000 0 0] []), (5, .sl 1 2000020 ((u.2.2.2).length) 0 ((u.2.2.2).length)), (6, .int .i64 u.1)]) (fun u => [(1000000, .box 54 [.str u.2.1, .bool u.2.2.1]), (2000020, .row 3 1 0 (List.map EV.encI u.2.2.2)), (900000000, gl0 ob0), (900000001, gl1 ob1 u1), (900000002, gl2 ob2 u2)]) s_wire_items_L1 (fun _ => rfl) KK (y1.1, y1.2.1, y1.2.2, []) hs (Cut.trans (cut_nilRow 5 2000020 3 1 rfl (by kernel_rfl) (by kernel_rfl)) (cut_of [0, 1, 5, 6] [1000000, 2000020, 900000000, 900000001, 900000002] (by kernel_rfl) (by kernel_rfl) (by kernel_rfl))) (fun K1 q1 hs => ?_)
    rw [s_wire_items_L1] at hs
    show WpV cK0 Tryd.prog none 32 _ _ [(0, .ptr 1000000 0 0), (1, .fn 24 [.ptr 1000000 0 0] []), (5, .sl 1 2000020 ((q1.2.2.2).length) 0 ((q1.2.2.2).length)), (6, .int .i64 q1.1)] [(1000000, .box 54 [.str q1.2.1, .bool q1.2.2.1]), (2000020, .row 3 1 0 (List.map EV.encI q1.2.2.2)), (900000000, gl0 ob0), (900000001, gl1 ob1 u1), (900000002, gl2 ob2 u2)] []
    refine v_seq ?_
    refine v_seq ?_
    obtain ⟨z2, hs, hk2⟩ := bind_some hs
    refine v_join (S := Bool) (fun u => u = z2) (fun u => [(0, .ptr 1000000 0 0), (1, .fn 24 [.ptr 1000000 0 0] []), (5, .sl 1 2000020 ((q1.2.2.2).length) 0 ((q1.2.2.2).length)), (6, .int .i64 q1.1), (17, .bool u)]) (fun u => [(1000000, .box 54 [.str q1.2.1, .bool q1.2.2.1]), (2000020, .row 3 1 0 (List.map EV.encI q1.2.2.2)), (900000000, gl0 ob0), (900000001, gl1 ob1 u1), (900000002, gl2 ob2 u2)]) ?_ (fun v2 hz => ?_)
    · refine vr_text ?_
      refine o_runs 3 [(11, .bool (decide (q1.1 > 0))), (10, .bool (decide (q1.1 > 0))), (9, .int .i64 q1.1)] (by kernel_rfl) ?_
      cases h1 : ((decide (q1.1 > 0)))
      · replace hs := bif_f h1 hs
        refine o_runs 6 [(17, .bool false), (16, .no), (15, .no), (14, .no), (13, .no), (12, .no)] (by kernel_rfl) ?_
        refine ov_nil ?_
        obtain rfl := Option.some.inj hs
        refine nrm_join false rfl ?_
        exact cut_of [0, 1, 5, 6, 17] [1000000, 2000020, 900000000, 900000001, 900000002] (by kernel_rfl) (by kernel_rfl) (by kernel_rfl)
      · replace hs := bif_t h1 hs
        refine o_runs 6 [(17, .bool (!q1.2.2.1)), (16, .bool (!q1.2.2.1)), (15, .bool q1.2.2.1), (14, .ptr 1000000 0 1), (13, .ptr 1000000 0 0), (12, .ptr 1000000 0 0)] (by kernel_rfl) ?_
        refine ov_nil ?_
        obtain rfl := Option.some.inj hs
        refine nrm_join (!q1.2.2.1) rfl ?_
        exact cut_of [0, 1, 5, 6, 17] [1000000, 2000020, 900000000, 900000001, 900000002] (by kernel_rfl) (by kernel_rfl) (by kernel_rfl)
    · subst hz; clear hs; have hs := hk2; clear hk2
      refine nrm_thenV ?_
      refine v_cond v2 (by kernel_rfl) (fun h2 => ?_) (fun h2 => ?_)
      · replace hs := bif_t h2 hs
        refine v_skip ?_
        refine nrm_thenV ?_
        refine v_seq ?_
        refine v_block ?_
        refine vr_text ?_
        refine o_runs 2 [(21, .fn 24 [.ptr 1000000 0 0] []), (20, .sl 1 2000020 ((q1.2.2.2).length) 0 ((q1.2.2.2).length))] (by kernel_rfl) ?_
        obtain ⟨y2, c2, hs⟩ := bind_some hs
        refine o_loc (F := [(1000000, .box 54 [.str q1.2.1, .bool q1.2.2.1]), (900000000, gl0 ob0), (900000001, gl1 ob1 u1), (900000002, gl2 ob2 u2)]) (F' := [(1000000, .box 54 [.str y2.2.1, .bool y2.2.2]), (900000000, gl0 ob0), (900000001, gl1 ob1 u1), (900000002, gl2 ob2 u2)]) (v := .int .i64 y2.1) [1000000, 900000000, 900000001, 900000002] (by kernel_rfl) (by kernel_rfl) rfl (by kernel_rfl) (loc_g (R := []) [.ptr 1000000 0 0] [(1000000, 1000000), (900000000, 900000000), (900000001, 900000001), (900000002, 900000002)] (callV_val (first := [.ptr 1000000 0 0]) (caps := []) hbv24 (by kernel_rfl) (by kernel_rfl)) (w_wire_Reader_Int (ob0 := ob0) (ob1 := ob1) (ob2 := ob2) (u1 := u1) (u2 := u2) q1.2.1 q1.2.2.1 _ c2) (.cons (.same _) (.nil)) (by kernel_rfl) (by kernel_rfl) (by kernel_rfl) (by kernel_rfl) (by kernel_rfl) (by kernel_rfl) (by kernel_rfl) (by kernel_rfl)) (by kernel_rfl) ?_
        refine o_runh 1 [(23, .sl 1 23 1 0 1)] [(23, .row 3 1 0 (List.map EV.encI [y2.1])), (1000000, .box 54 [.str y2.2.1, .bool y2.2.2]), (900000000, gl0 ob0), (900000001, gl1 ob1 u1), (900000002, gl2 ob2 u2), (2000020, .row 3 1 0 (List.map EV.encI q1.2.2.2))] (by kernel_rfl) ?_
        obtain ⟨_, g1, hs⟩ := bind_some hs; replace g1 := grd_some g1
        refine o_loc (F := [(2000020, .row 3 1 0 (List.map EV.encI q1.2.2.2)), (23, .row 3 1 0 (List.map EV.encI [y2.1]))]) (F' := [(2000020, .row 3 1 0 (List.map EV.encI (q1.2.2.2 ++ [y2.1]))), (23, .row 3 1 0 (List.map EV.encI [y2.1]))]) (v := .sl 1 2000020 (((q1.2.2.2 ++ [y2.1])).length) 0 (((q1.2.2.2 ++ [y2.1])).length)) [2000020, 23] (by kernel_rfl) (by kernel_rfl) rfl (by kernel_rfl) (loc_appendT (e := 3) (sz := 1) (bytes := 8) (L := (q1.2.2.2).length) (els := (List.map EV.encI q1.2.2.2)) (ys := (List.map EV.encI [y2.1])) (by kernel_rfl) (by kernel_rfl) (by first | exact List.length_map .. | rfl) (.sl (t := 3) (fz := 0) (ys := (List.map EV.encI [y2.1])) (by kernel_rfl) (by kernel_rfl)) (map_ones EV.encI (fun _ => rfl) _) (map_lens EV.encI (fun _ => rfl) _) (by kernel_rfl) (by first | exact (List.map_append ..).symm | rfl | simp only [List.map_nil, List.nil_append]) (List.length_map ..) g1 (by omega)) (by kernel_rfl) ?_
        refine o_runs 1 [(5, .sl 1 2000020 (((q1.2.2.2 ++ [y2.1])).length) 0 (((q1.2.2.2 ++ [y2.1])).length))] (by kernel_rfl) ?_
        refine ov_nil ?_
        refine nrm_blkV ?_
        refine nrm_thenV ?_
        refine vr_text ?_
        refine o_runs 3 [(6, .int .i64 (w64 (q1.1 - 1))), (19, .int .i64 (w64 (q1.1 - 1))), (18, .int .i64 q1.1)] (by kernel_rfl) ?_
        refine ov_nil ?_
        refine nrm_fuel ((w64 (q1.1 - 1)), y2.2.1, y2.2.2, (q1.2.2.2 ++ [y2.1])) hs ?_
        exact cut_of [0, 1, 5, 6] [1000000, 2000020, 900000000, 900000001, 900000002] (by kernel_rfl) (by kernel_rfl) (by kernel_rfl)
      · replace hs := bif_f h2 hs
        refine v_exit ?_
        refine exit_thenV ?_
        refine exit_fuel ?_
        refine exit_blkV ?_
        obtain rfl := Option.some.inj hs
        refine nrm_join (q1.2.1, q1.2.2.1, q1.2.2.2) rfl ?_
        exact cut_of [0, 5] [1000000, 2000020, 900000000, 900000001, 900000002] (by kernel_rfl) (by kernel_rfl) (by kernel_rfl)
  · subst hz; clear hs; have hs := hk1; clear hk1
    refine nrm_thenV ?_
    refine v_seq ?_
    refine v_seq ?_
    refine vr_text ?_
    refine o_runs 1 [(25, .ptr 1000000 0 0)] (by kernel_rfl) ?_
    obtain ⟨y3, c3, hs⟩ := bind_some hs
    refine o_loc (F := [(1000000, .box 54 [.str v1.1, .bool v1.2.1])]) (F' := [(1000000, .box 54 [.str y3.1, .bool y3.2])]) (v := .tup []) [1000000] (by kernel_rfl) (by kernel_rfl) rfl (by kernel_rfl) (loc_g (R := []) [.ptr 1000000 0 0, .str ([93] : List UInt8)] [(1000000, 1000000)] (callV_func hbv50 (by kernel_rfl)) (w_wire_Reader_close v1.1 v1.2.1 ([93] : List UInt8) _ c3) (.cons (.same _) (.cons (.same _) (.nil))) (by kernel_rfl) (by kernel_rfl) (by kernel_rfl) (by kernel_rfl) (by kernel_rfl) (by kernel_rfl) (by kernel_rfl) (by kernel_rfl)) (by kernel_rfl) ?_
    refine ov_nil ?_
    refine nrm_thenV ?_
    refine v_seq ?_
    refine vr_text ?_
    refine o_runs 4 [(30, .bool y3.2), (29, .ptr 1000000 0 1), (28, .ptr 1000000 0 0), (27, .ptr 1000000 0 0)] (by kernel_rfl) ?_
    refine ov_nil ?_
    refine nrm_thenV ?_
    refine v_cond y3.2 (by kernel_rfl) (fun h3 => ?_) (fun h3 => ?_)
    · replace hs := bif_t h3 hs
      refine v_seq ?_
      refine vr_text ?_
      refine o_runs 1 [(4, .nils)] (by kernel_rfl) ?_
      refine ov_nil ?_
      refine nrm_thenV ?_
      refine v_to ((4, .vs 1 (List.map EV.encI [])) :: _) _ (cut_view (R := []) (ks := []) (by kernel_rfl) (by kernel_rfl) (.nils 1)) ?_
      refine v_ret ?_
      refine ret_thenV ?_
      obtain rfl := Option.some.inj hs
      exact fin_ret (by kernel_rfl) (by kernel_rfl) (by kernel_rfl)
    · replace hs := bif_f h3 hs
      refine v_skip ?_
      refine nrm_thenV ?_
      refine v_seq ?_
      refine vr_text ?_
      refine o_runs 2 [(4, .sl 1 2000020 ((v1.2.2).length) 0 ((v1.2.2).length)), (31, .sl 1 2000020 ((v1.2.2).length) 0 ((v1.2.2).length))] (by kernel_rfl) ?_
      refine ov_nil ?_
      refine nrm_thenV ?_
      refine v_to _ [(2000020, .row 3 1 (((List.map EV.encI v1.2.2)).length) (List.map EV.encI v1.2.2)), (1000000, .box 54 [.str y3.1, .bool y3.2]), (900000000, gl0 ob0), (900000001, gl1 ob1 u1), (900000002, gl2 ob2 u2)] (cut_freeze (F := [(2000020, .row 3 1 0 (List.map EV.encI v1.2.2))]) [2000020] rfl (by kernel_rfl) (by kernel_rfl)) ?_
      refine v_to ((4, .vs 1 (List.map EV.encI v1.2.2)) :: _) _ (cut_view (R := [(2000020, .row 3 1 (((List.map EV.encI v1.2.2)).length) (List.map EV.encI v1.2.2))]) (ks := [2000020]) (by kernel_rfl) (by kernel_rfl) (.row (t := 3) (fz := (((List.map EV.encI v1.2.2)).length)) (by kernel_rfl) (by first | (simp only [List.length_map, List.length_set]; done) | rfl))) ?_
      refine v_ret ?_
      obtain rfl := Option.some.inj hs
      exact fin_ret (by kernel_rfl) (by kernel_rfl) (by kernel_rfl)
def s_wire_Reader_Nums (r_rest : (List UInt8)) (r_bad : Bool) : Option ((List Int) × (List UInt8) × Bool) :=
  (s_wire_items r_rest r_bad).bind fun y1 => some (y1.1, y1.2.1, y1.2.2)
theorem w_wire_Reader_Nums (r_rest : (List UInt8)) (r_bad : Bool) (r : (List Int) × (List UInt8) × Bool) (hs : s_wire_Reader_Nums r_rest r_bad = some r) : FnA Tryd.prog 26 [.ptr 1000000 0 0] [(1000000, .box 54 [.str r_rest, .bool r_bad]), (900000000, gl0 ob0), (900000001, gl1 ob1 u1), (900000002, gl2 ob2 u2)] (.vs 1 (List.map EV.encI r.1)) [(1000000, .box 54 [.str r.2.1, .bool r.2.2]), (900000000, gl0 ob0), (900000001, gl1 ob1 u1), (900000002, gl2 ob2 u2)] := by
  refine fnA_of_wp (N := 7) Tryd.func26 rfl rfl rfl fun cK0 => ?_
  unfold s_wire_Reader_Nums at hs
  refine v_same (ρ' := [(0, .ptr 1000000 0 0)]) rfl rfl ?_
  refine v_seq ?_
  refine vr_text ?_
  refine o_runs 1 [(2, .nils)] (by kernel_rfl) ?_
  refine ov_nil ?_
  refine nrm_thenV ?_
  refine v_seq ?_
  refine vr_text ?_
  refine o_runs 3 [(5, .fn 24 [.ptr 1000000 0 0] []), (4, .ptr 1000000 0 0), (3, .ptr 1000000 0 0)] (by kernel_rfl) ?_
  obtain ⟨y1, c1, hs⟩ := bind_some hs
  refine o_loc (F := [(1000000, .box 54 [.str r_rest, .bool r_bad]), (900000000, gl0 ob0), (900000001, gl1 ob1 u1), (900000002, gl2 ob2 u2)]) (F' := [(1000000, .box 54 [.str y1.2.1, .bool y1.2.2]), (900000000, gl0 ob0), (900000001, gl1 ob1 u1), (900000002, gl2 ob2 u2)]) (v := .vs 1 (List.map EV.encI y1.1)) [1000000, 900000000, 900000001, 900000002] (by kernel_rfl) (by kernel_rfl) rfl (by kernel_rfl) (loc_g (R := []) [.ptr 1000000 0 0, .fn 24 [.ptr 1000000 0 0] []] [(1000000, 1000000), (900000000, 900000000), (900000001, 900000001), (900000002, 900000002)] (callV_func hbv51 (by kernel_rfl)) (w_wire_items (ob0 := ob0) (ob1 := ob1) (ob2 := ob2) (u1 := u1) (u2 := u2) r_rest r_bad _ c1) (.cons (.same _) (.cons (.same _) (.nil))) (by kernel_rfl) (by kernel_rfl) (by kernel_rfl) (by kernel_rfl) (by kernel_rfl) (by kernel_rfl) (by kernel_rfl) (by kernel_rfl)) (by kernel_rfl) ?_
  refine o_runs 1 [(2, .vs 1 (List.map EV.encI y1.1))] (by kernel_rfl) ?_
  refine ov_nil ?_
  refine nrm_thenV ?_
  refine v_ret ?_
  obtain rfl := Option.some.inj hs
  exact fin_ret (by kernel_rfl) (by kernel_rfl) (by kernel_rfl)
def s_wire_items_2_L1  : Nat → (Int × (List UInt8) × Bool × (List (List UInt8))) → Option ((List UInt8) × Bool × (List (List UInt8)))
  | 0, _ => none
  | K1 + 1, q1 => ((bif (decide (q1.1 > 0)) then some (!q1.2.2.1) else some false)).bind fun v2 => (bif v2 then (s_wire_Reader_Text q1.2.1 q1.2.2.1).bind fun y2 => (grd (((q1.2.2.2 ++ [y2.1])).length * 16 ≤ 140737488355328)).bind fun _ => s_wire_items_2_L1 K1 ((w64 (q1.1 - 1)), y2.2.1, y2.2.2, (q1.2.2.2 ++ [y2.1])) else some (q1.2.1, q1.2.2.1, q1.2.2.2))
def s_wire_items_2 (r_rest : (List UInt8)) (r_bad : Bool) : Option ((List (List UInt8)) × (List UInt8) × Bool) :=
  (s_wire_Reader_number r_rest r_bad 91 0).bind fun y1 => (s_wire_items_2_L1 KK (y1.1, y1.2.1, y1.2.2, [])).bind fun v1 => (s_wire_Reader_close v1.1 v1.2.1 ([93] : List UInt8)).bind fun y3 => (bif y3.2 then some ([], y3.1, y3.2) else some (v1.2.2, y3.1, y3.2))
theorem w_wire_items_2 (r_rest : (List UInt8)) (r_bad : Bool) (r : (List (List UInt8)) × (List UInt8) × Bool) (hs : s_wire_items_2 r_rest r_bad = some r) : FnA Tryd.prog 52 [.ptr 1000000 0 0, .fn 25 [.ptr 1000000 0 0] []] [(1000000, .box 54 [.str r_rest, .bool r_bad]), (900000000, gl0 ob0), (900000001, gl1 ob1 u1), (900000002, gl2 ob2 u2)] (.vs 1 (List.map EV.encS r.1)) [(1000000, .box 54 [.str r.2.1, .bool r.2.2]), (900000000, gl0 ob0), (900000001, gl1 ob1 u1), (900000002, gl2 ob2 u2)] := by
  refine fnA_of_wp (N := 32) Tryd.func52 rfl rfl rfl fun cK0 => ?_
  unfold s_wire_items_2 at hs
  refine v_same (ρ' := [(0, .ptr 1000000 0 0), (1, .fn 25 [.ptr 1000000 0 0] [])]) rfl rfl ?_
  refine v_seq ?_
  refine vr_text ?_
  refine o_runs 1 [(4, .nils)] (by kernel_rfl) ?_
  refine ov_nil ?_
  refine nrm_thenV ?_
  refine v_seq ?_
  refine vr_text ?_
  refine o_runs 1 [(5, .nils)] (by kernel_rfl) ?_
  refine ov_nil ?_
  refine nrm_thenV ?_
  refine v_seq ?_
  refine v_seq ?_
  refine vr_text ?_
  refine o_runs 1 [(7, .ptr 1000000 0 0)] (by kernel_rfl) ?_
  obtain ⟨y1, c1, hs⟩ := bind_some hs
  refine o_loc (F := [(1000000, .box 54 [.str r_rest, .bool r_bad]), (900000000, gl0 ob0), (900000001, gl1 ob1 u1), (900000002, gl2 ob2 u2)]) (F' := [(1000000, .box 54 [.str y1.2.1, .bool y1.2.2]), (900000000, gl0 ob0), (900000001, gl1 ob1 u1), (900000002, gl2 ob2 u2)]) (v := .int .i64 y1.1) [1000000, 900000000, 900000001, 900000002] (by kernel_rfl) (by kernel_rfl) rfl (by kernel_rfl) (loc_g (R := []) [.ptr 1000000 0 0, .int .u8 91, .int .i64 0] [(1000000, 1000000), (900000000, 900000000), (900000001, 900000001), (900000002, 900000002)] (callV_func hbv48 (by kernel_rfl)) (w_wire_Reader_number (ob0 := ob0) (ob1 := ob1) (ob2 := ob2) (u1 := u1) (u2 := u2) r_rest r_bad 91 0 _ c1) (.cons (.same _) (.cons (.same _) (.cons (.same _) (.nil)))) (by kernel_rfl) (by kernel_rfl) (by kernel_rfl) (by kernel_rfl) (by kernel_rfl) (by kernel_rfl) (by kernel_rfl) (by kernel_rfl)) (by kernel_rfl) ?_
  refine o_runs 1 [(6, .int .i64 y1.1)] (by kernel_rfl) ?_
  refine ov_nil ?_
  refine nrm_thenV ?_
  obtain ⟨z1, hs, hk1⟩ := bind_some hs
  refine v_join (S := (List UInt8) × Bool × (List (List UInt8))) (fun u => u = z1) (fun u => [(0, .ptr 1000000 0 0), (5, .sl 1 2000020 ((u.2.2).length) 0 ((u.2.2).length))]) (fun u => [(1000000, .box 54 [.str u.1, .bool u.2.1]), (2000020, .row 9 1 0 (List.map EV.encS u.2.2)), (900000000, gl0 ob0), (900000001, gl1 ob1 u1), (900000002, gl2 ob2 u2)]) ?_ (fun v1 hz => ?_)
  · refine v_block ?_
    refine v_fuel (S := Int × (List UInt8) × Bool × (List (List UInt8))) (fun u => [(0, .ptr 1000000 0 0), (1, .fn 25 [.ptr 1000000 0 0] []), (5, .sl 1 2000020 ((u.2.2.2).length) 0 ((u.2.2.2).length)), (6, .int .i64 u.1)]) (fun u => [(1000000, .box 54 [.str u.2.1, .bool u.2.2.1]), (2000020, .row 9 1 0 (List.map EV.encS u.2.2.2)), (900000000, gl0 ob0), (900000001, gl1 ob1 u1), (900000002, gl2 ob2 u2)]) s_wire_items_2_L1 (fun _ => rfl) KK (y1.1, y1.2.1, y1.2.2, []) hs (Cut.trans (cut_nilRow 5 2000020 9 1 rfl (by kernel_rfl) (by kernel_rfl)) (cut_of [0, 1, 5, 6] [1000000, 2000020, 900000000, 900000001, 900000002] (by kernel_rfl) (by kernel_rfl) (by kernel_rfl))) (fun K1 q1 hs => ?_)
    rw [s_wire_items_2_L1] at hs
    show WpV cK0 Tryd.prog none 32 _ _ [(0, .ptr 1000000 0 0), (1, .fn 25 [.ptr 1000000 0 0] []), (5, .sl 1 2000020 ((q1.2.2.2).length) 0 ((q1.2.2.2).length)), (6, .int .i64 q1.1)] [(1000000, .box 54 [.str q1.2.1, .bool q1.2.2.1]), (2000020, .row 9 1 0 (List.map EV.encS q1.2.2.2)), (900000000, gl0 ob0), (900000001, gl1 ob1 u1), (900000002, gl2 ob2 u2)] []
    refine v_seq ?_
    refine v_seq ?_
    obtain ⟨z2, hs, hk2⟩ := bind_some hs
    refine v_join (S := Bool) (fun u => u = z2) (fun u => [(0, .ptr 1000000 0 0), (1, .fn 25 [.ptr 1000000 0 0] []), (5, .sl 1 2000020 ((q1.2.2.2).length) 0 ((q1.2.2.2).length)), (6, .int .i64 q1.1), (17, .bool u)]) (fun u => [(1000000, .box 54 [.str q1.2.1, .bool q1.2.2.1]), (2000020, .row 9 1 0 (List.map EV.encS q1.2.2.2)), (900000000, gl0 ob0), (900000001, gl1 ob1 u1), (900000002, gl2 ob2 u2)]) ?_ (fun v2 hz => ?_)
    · refine vr_text ?_
      refine o_runs 3 [(11, .bool (decide (q1.1 > 0))), (10, .bool (decide (q1.1 > 0))), (9, .int .i64 q1.1)] (by kernel_rfl) ?_
      cases h1 : ((decide (q1.1 > 0)))
      · replace hs := bif_f h1 hs
        refine o_runs 6 [(17, .bool false), (16, .no), (15, .no), (14, .no), (13, .no), (12, .no)] (by kernel_rfl) ?_
        refine ov_nil ?_
        obtain rfl := Option.some.inj hs
        refine nrm_join false rfl ?_
        exact cut_of [0, 1, 5, 6, 17] [1000000, 2000020, 900000000, 900000001, 900000002] (by kernel_rfl) (by kernel_rfl) (by kernel_rfl)
      · replace hs := bif_t h1 hs
        refine o_runs 6 [(17, .bool (!q1.2.2.1)), (16, .bool (!q1.2.2.1)), (15, .bool q1.2.2.1), (14, .ptr 1000000 0 1), (13, .ptr 1000000 0 0), (12, .ptr 1000000 0 0)] (by kernel_rfl) ?_
        refine ov_nil ?_
        obtain rfl := Option.some.inj hs
        refine nrm_join (!q1.2.2.1) rfl ?_
        exact cut_of [0, 1, 5, 6, 17] [1000000, 2000020, 900000000, 900000001, 900000002] (by kernel_rfl) (by kernel_rfl) (by kernel_rfl)
    · subst hz; clear hs; have hs := hk2; clear hk2
      refine nrm_thenV ?_
      refine v_cond v2 (by kernel_rfl) (fun h2 => ?_) (fun h2 => ?_)
      · replace hs := bif_t h2 hs
        refine v_skip ?_
        refine nrm_thenV ?_
        refine v_seq ?_
        refine v_block ?_
        refine vr_text ?_
        refine o_runs 2 [(21, .fn 25 [.ptr 1000000 0 0] []), (20, .sl 1 2000020 ((q1.2.2.2).length) 0 ((q1.2.2.2).length))] (by kernel_rfl) ?_
        obtain ⟨y2, c2, hs⟩ := bind_some hs
        refine o_loc (F := [(1000000, .box 54 [.str q1.2.1, .bool q1.2.2.1]), (900000000, gl0 ob0), (900000001, gl1 ob1 u1), (900000002, gl2 ob2 u2)]) (F' := [(1000000, .box 54 [.str y2.2.1, .bool y2.2.2]), (900000000, gl0 ob0), (900000001, gl1 ob1 u1), (900000002, gl2 ob2 u2)]) (v := .str y2.1) [1000000, 900000000, 900000001, 900000002] (by kernel_rfl) (by kernel_rfl) rfl (by kernel_rfl) (loc_g (R := []) [.ptr 1000000 0 0] [(1000000, 1000000), (900000000, 900000000), (900000001, 900000001), (900000002, 900000002)] (callV_val (first := [.ptr 1000000 0 0]) (caps := []) hbv25 (by kernel_rfl) (by kernel_rfl)) (w_wire_Reader_Text (ob0 := ob0) (ob1 := ob1) (ob2 := ob2) (u1 := u1) (u2 := u2) q1.2.1 q1.2.2.1 _ c2) (.cons (.same _) (.nil)) (by kernel_rfl) (by kernel_rfl) (by kernel_rfl) (by kernel_rfl) (by kernel_rfl) (by kernel_rfl) (by kernel_rfl) (by kernel_rfl)) (by kernel_rfl) ?_
        refine o_runh 1 [(23, .sl 1 23 1 0 1)] [(23, .row 9 1 0 (List.map EV.encS [y2.1])), (1000000, .box 54 [.str y2.2.1, .bool y2.2.2]), (900000000, gl0 ob0), (900000001, gl1 ob1 u1), (900000002, gl2 ob2 u2), (2000020, .row 9 1 0 (List.map EV.encS q1.2.2.2))] (by kernel_rfl) ?_
        obtain ⟨_, g1, hs⟩ := bind_some hs; replace g1 := grd_some g1
        refine o_loc (F := [(2000020, .row 9 1 0 (List.map EV.encS q1.2.2.2)), (23, .row 9 1 0 (List.map EV.encS [y2.1]))]) (F' := [(2000020, .row 9 1 0 (List.map EV.encS (q1.2.2.2 ++ [y2.1]))), (23, .row 9 1 0 (List.map EV.encS [y2.1]))]) (v := .sl 1 2000020 (((q1.2.2.2 ++ [y2.1])).length) 0 (((q1.2.2.2 ++ [y2.1])).length)) [2000020, 23] (by kernel_rfl) (by kernel_rfl) rfl (by kernel_rfl) (loc_appendT (e := 9) (sz := 1) (bytes := 16) (L := (q1.2.2.2).length) (els := (List.map EV.encS q1.2.2.2)) (ys := (List.map EV.encS [y2.1])) (by kernel_rfl) (by kernel_rfl) (by first | exact List.length_map .. | rfl) (.sl (t := 9) (fz := 0) (ys := (List.map EV.encS [y2.1])) (by kernel_rfl) (by kernel_rfl)) (map_ones EV.encS (fun _ => rfl) _) (map_lens EV.encS (fun _ => rfl) _) (by kernel_rfl) (by first | exact (List.map_append ..).symm | rfl | simp only [List.map_nil, List.nil_append]) (List.length_map ..) g1 (by omega)) (by kernel_rfl) ?_
        refine o_runs 1 [(5, .sl 1 2000020 (((q1.2.2.2 ++ [y2.1])).length) 0 (((q1.2.2.2 ++ [y2.1])).length))] (by kernel_rfl) ?_
        refine ov_nil ?_
        refine nrm_blkV ?_
        refine nrm_thenV ?_
        refine vr_text ?_
        refine o_runs 3 [(6, .int .i64 (w64 (q1.1 - 1))), (19, .int .i64 (w64 (q1.1 - 1))), (18, .int .i64 q1.1)] (by kernel_rfl) ?_
        refine ov_nil ?_
        refine nrm_fuel ((w64 (q1.1 - 1)), y2.2.1, y2.2.2, (q1.2.2.2 ++ [y2.1])) hs ?_
        exact cut_of [0, 1, 5, 6] [1000000, 2000020, 900000000, 900000001, 900000002] (by kernel_rfl) (by kernel_rfl) (by kernel_rfl)
      · replace hs := bif_f h2 hs
        refine v_exit ?_
        refine exit_thenV ?_
        refine exit_fuel ?_
        refine exit_blkV ?_
        obtain rfl := Option.some.inj hs
        refine nrm_join (q1.2.1, q1.2.2.1, q1.2.2.2) rfl ?_
        exact cut_of [0, 5] [1000000, 2000020, 900000000, 900000001, 900000002] (by kernel_rfl) (by kernel_rfl) (by kernel_rfl)
  · subst hz; clear hs; have hs := hk1; clear hk1
    refine nrm_thenV ?_
    refine v_seq ?_
    refine v_seq ?_
    refine vr_text ?_
    refine o_runs 1 [(25, .ptr 1000000 0 0)] (by kernel_rfl) ?_
    obtain ⟨y3, c3, hs⟩ := bind_some hs
    refine o_loc (F := [(1000000, .box 54 [.str v1.1, .bool v1.2.1])]) (F' := [(1000000, .box 54 [.str y3.1, .bool y3.2])]) (v := .tup []) [1000000] (by kernel_rfl) (by kernel_rfl) rfl (by kernel_rfl) (loc_g (R := []) [.ptr 1000000 0 0, .str ([93] : List UInt8)] [(1000000, 1000000)] (callV_func hbv50 (by kernel_rfl)) (w_wire_Reader_close v1.1 v1.2.1 ([93] : List UInt8) _ c3) (.cons (.same _) (.cons (.same _) (.nil))) (by kernel_rfl) (by kernel_rfl) (by kernel_rfl) (by kernel_rfl) (by kernel_rfl) (by kernel_rfl) (by kernel_rfl) (by kernel_rfl)) (by kernel_rfl) ?_
    refine ov_nil ?_
    refine nrm_thenV ?_
    refine v_seq ?_
    refine vr_text ?_
    refine o_runs 4 [(30, .bool y3.2), (29, .ptr 1000000 0 1), (28, .ptr 1000000 0 0), (27, .ptr 1000000 0 0)] (by kernel_rfl) ?_
    refine ov_nil ?_
    refine nrm_thenV ?_
    refine v_cond y3.2 (by kernel_rfl) (fun h3 => ?_) (fun h3 => ?_)
    · replace hs := bif_t h3 hs
      refine v_seq ?_
      refine vr_text ?_
      refine o_runs 1 [(4, .nils)] (by kernel_rfl) ?_
      refine ov_nil ?_
      refine nrm_thenV ?_
      refine v_to ((4, .vs 1 (List.map EV.encS [])) :: _) _ (cut_view (R := []) (ks := []) (by kernel_rfl) (by kernel_rfl) (.nils 1)) ?_
      refine v_ret ?_
      refine ret_thenV ?_
      obtain rfl := Option.some.inj hs
      exact fin_ret (by kernel_rfl) (by kernel_rfl) (by kernel_rfl)
    · replace hs := bif_f h3 hs
      refine v_skip ?_
      refine nrm_thenV ?_
      refine v_seq ?_
      refine vr_text ?_
      refine o_runs 2 [(4, .sl 1 2000020 ((v1.2.2).length) 0 ((v1.2.2).length)), (31, .sl 1 2000020 ((v1.2.2).length) 0 ((v1.2.2).length))] (by kernel_rfl) ?_
      refine ov_nil ?_
      refine nrm_thenV ?_
      refine v_to _ [(2000020, .row 9 1 (((List.map EV.encS v1.2.2)).length) (List.map EV.encS v1.2.2)), (1000000, .box 54 [.str y3.1, .bool y3.2]), (900000000, gl0 ob0), (900000001, gl1 ob1 u1), (900000002, gl2 ob2 u2)] (cut_freeze (F := [(2000020, .row 9 1 0 (List.map EV.encS v1.2.2))]) [2000020] rfl (by kernel_rfl) (by kernel_rfl)) ?_
      refine v_to ((4, .vs 1 (List.map EV.encS v1.2.2)) :: _) _ (cut_view (R := [(2000020, .row 9 1 (((List.map EV.encS v1.2.2)).length) (List.map EV.encS v1.2.2))]) (ks := [2000020]) (by kernel_rfl) (by kernel_rfl) (.row (t := 9) (fz := (((List.map EV.encS v1.2.2)).length)) (by kernel_rfl) (by first | (simp only [List.length_map, List.length_set]; done) | rfl))) ?_
      refine v_ret ?_
      obtain rfl := Option.some.inj hs
      exact fin_ret (by kernel_rfl) (by kernel_rfl) (by kernel_rfl)
def s_wire_Reader_Texts (r_rest : (List UInt8)) (r_bad : Bool) : Option ((List (List UInt8)) × (List UInt8) × Bool) :=
  (s_wire_items_2 r_rest r_bad).bind fun y1 => some (y1.1, y1.2.1, y1.2.2)
theorem w_wire_Reader_Texts (r_rest : (List UInt8)) (r_bad : Bool) (r : (List (List UInt8)) × (List UInt8) × Bool) (hs : s_wire_Reader_Texts r_rest r_bad = some r) : FnA Tryd.prog 27 [.ptr 1000000 0 0] [(1000000, .box 54 [.str r_rest, .bool r_bad]), (900000000, gl0 ob0), (900000001, gl1 ob1 u1), (900000002, gl2 ob2 u2)] (.vs 1 (List.map EV.encS r.1)) [(1000000, .box 54 [.str r.2.1, .bool r.2.2]), (900000000, gl0 ob0), (900000001, gl1 ob1 u1), (900000002, gl2 ob2 u2)] := by
  refine fnA_of_wp (N := 7) Tryd.func27 rfl rfl rfl fun cK0 => ?_
  unfold s_wire_Reader_Texts at hs
  refine v_same (ρ' := [(0, .ptr 1000000 0 0)]) rfl rfl ?_
  refine v_seq ?_
  refine vr_text ?_
  refine o_runs 1 [(2, .nils)] (by kernel_rfl) ?_
  refine ov_nil ?_
  refine nrm_thenV ?_
  refine v_seq ?_
  refine vr_text ?_
  refine o_runs 3 [(5, .fn 25 [.ptr 1000000 0 0] []), (4, .ptr 1000000 0 0), (3, .ptr 1000000 0 0)] (by kernel_rfl) ?_
  obtain ⟨y1, c1, hs⟩ := bind_some hs
  refine o_loc (F := [(1000000, .box 54 [.str r_rest, .bool r_bad]), (900000000, gl0 ob0), (900000001, gl1 ob1 u1), (900000002, gl2 ob2 u2)]) (F' := [(1000000, .box 54 [.str y1.2.1, .bool y1.2.2]), (900000000, gl0 ob0), (900000001, gl1 ob1 u1), (900000002, gl2 ob2 u2)]) (v := .vs 1 (List.map EV.encS y1.1)) [1000000, 900000000, 900000001, 900000002] (by kernel_rfl) (by kernel_rfl) rfl (by kernel_rfl) (loc_g (R := []) [.ptr 1000000 0 0, .fn 25 [.ptr 1000000 0 0] []] [(1000000, 1000000), (900000000, 900000000), (900000001, 900000001), (900000002, 900000002)] (callV_func hbv52 (by kernel_rfl)) (w_wire_items_2 (ob0 := ob0) (ob1 := ob1) (ob2 := ob2) (u1 := u1) (u2 := u2) r_rest r_bad _ c1) (.cons (.same _) (.cons (.same _) (.nil))) (by kernel_rfl) (by kernel_rfl) (by kernel_rfl) (by kernel_rfl) (by kernel_rfl) (by kernel_rfl) (by kernel_rfl) (by kernel_rfl)) (by kernel_rfl) ?_
  refine o_runs 1 [(2, .vs 1 (List.map EV.encS y1.1))] (by kernel_rfl) ?_
  refine ov_nil ?_
  refine nrm_thenV ?_
  refine v_ret ?_
  obtain rfl := Option.some.inj hs
  exact fin_ret (by kernel_rfl) (by kernel_rfl) (by kernel_rfl)
def s_greenbeltlaw01_WireAgain (s : (List UInt8)) (what : Int) : Option Bool :=
  (s_greenbeltlaw01_small ).bind fun y1 => (bif (decide ((List.length s : Int) > 400)) then some y1 else (s_wire_Open s).bind fun y2 => (s_greenbeltlaw01_kind (greenbeltlaw01_Value.mk what 0 [] [] [])).bind fun y3 => ((bif (decide (y3 = 0)) then (s_wire_Reader_Num y2 false).bind fun y4 => (s_wire_Num y4.1).bind fun y5 => some (y5, y4.2.1, y4.2.2) else (bif (decide (y3 = 1)) then (s_wire_Reader_Int y2 false).bind fun y6 => (s_wire_Int y6.1).bind fun y7 => some (y7, y6.2.1, y6.2.2) else (bif (decide (y3 = 2)) then (s_wire_Reader_Text y2 false).bind fun y8 => (s_wire_Text y8.1).bind fun y9 => some (y9, y8.2.1, y8.2.2) else (bif (decide (y3 = 3)) then (s_wire_Reader_Nums y2 false).bind fun y10 => (s_wire_Nums y10.1).bind fun y11 => some (y11, y10.2.1, y10.2.2) else (s_wire_Reader_Texts y2 false).bind fun y12 => (s_wire_Texts y12.1).bind fun y13 => some (y13, y12.2.1, y12.2.2)))))).bind fun v1 => ((s_wire_Reader_Left v1.2.1 v1.2.2).bind fun y14 => (bif (decide (y14.1 = 0)) then (s_wire_Reader_Done y14.2.1 y14.2.2).bind fun y15 => some ((!y15.1), y15.2.1, y15.2.2) else some (false, y14.2.1, y14.2.2))).bind fun v2 => (bif v2.1 then some y1 else (s_wire_Reader_Left v2.2.1 v2.2.2).bind fun y16 => ((bif y1 then (bif (decide ((w64 ((List.length s : Int) - y16.1)) ≥ 0)) then (bif (decide ((w64 ((List.length s : Int) - y16.1)) ≤ (List.length s : Int))) then (cut s 0 (max 0 (min (w64 ((List.length s : Int) - y16.1)) (List.length s : Int)))).bind fun x1 => some (decide (v1.1 = x1)) else some false) else some false) else some false)).bind fun v3 => some v3))
theorem w_greenbeltlaw01_WireAgain (s : (List UInt8)) (what : Int) (r : Bool) (hs : s_greenbeltlaw01_WireAgain s what = some r) : FnA Tryd.prog 4 [.str s, .int .i64 what] [(900000000, gl0 ob0), (900000001, gl1 ob1 u1), (900000002, gl2 ob2 u2)] (.bool r) [(900000000, gl0 ob0), (900000001, gl1 ob1 u1), (900000002, gl2 ob2 u2)] := by
  refine fnA_of_wp (N := 80) Tryd.func4 rfl rfl rfl fun cK0 => ?_
  unfold s_greenbeltlaw01_WireAgain at hs
  refine v_same (ρ' := [(0, .str s), (1, .int .i64 what)]) rfl rfl ?_
  refine v_seq ?_
  refine vr_text ?_
  refine o_runs 1 [(4, .bool false)] (by kernel_rfl) ?_
  refine ov_nil ?_
  refine nrm_thenV ?_
  refine v_seq ?_
  refine vr_text ?_
  obtain ⟨y1, c1, hs⟩ := bind_some hs
  refine o_loc (F := [(900000000, gl0 ob0), (900000001, gl1 ob1 u1), (900000002, gl2 ob2 u2)]) (F' := [(900000000, gl0 ob0), (900000001, gl1 ob1 u1), (900000002, gl2 ob2 u2)]) (v := .bool y1) [900000000, 900000001, 900000002] (by kernel_rfl) (by kernel_rfl) rfl (by kernel_rfl) (loc_gcallL (vs := []) (G := [(900000000, gl0 ob0), (900000001, gl1 ob1 u1), (900000002, gl2 ob2 u2)]) (R := []) (callV_func hbv9 (by kernel_rfl)) (w_greenbeltlaw01_small (ob0 := ob0) (ob1 := ob1) (ob2 := ob2) (u1 := u1) (u2 := u2)  _ c1) (by kernel_rfl) (.nil) (by kernel_rfl) (by kernel_rfl) (by kernel_rfl)) (by kernel_rfl) ?_
  refine o_runs 1 [(5, .bool y1)] (by kernel_rfl) ?_
  refine ov_nil ?_
  refine nrm_thenV ?_
  refine v_seq ?_
  refine v_seq ?_
  refine vr_text ?_
  refine o_runs 3 [(12, .bool (decide ((List.length s : Int) > 400))), (11, .int .i64 (List.length s : Int)), (10, .str s)] (by kernel_rfl) ?_
  refine ov_nil ?_
  refine nrm_thenV ?_
  refine v_cond (decide ((List.length s : Int) > 400)) (by kernel_rfl) (fun h1 => ?_) (fun h1 => ?_)
  · replace hs := bif_t h1 hs
    refine v_seq ?_
    refine vr_text ?_
    refine o_runs 2 [(4, .bool y1), (13, .bool y1)] (by kernel_rfl) ?_
    refine ov_nil ?_
    refine nrm_thenV ?_
    refine v_ret ?_
    refine ret_thenV ?_
    obtain rfl := Option.some.inj hs
    exact fin_ret (by kernel_rfl) (by kernel_rfl) (by kernel_rfl)
  · replace hs := bif_f h1 hs
    refine v_skip ?_
    refine nrm_thenV ?_
    refine v_seq ?_
    refine vr_text ?_
    refine o_runs 1 [(14, .str s)] (by kernel_rfl) ?_
    obtain ⟨y2, c2, hs⟩ := bind_some hs
    refine o_loc (F := []) (F' := [(3001500, .box 54 [.str y2, .bool false])]) (v := .ptr 3001500 0 0) [] (by kernel_rfl) (by kernel_rfl) rfl (by kernel_rfl) (loc_g (R := []) [.str s] [(5, 3001500)] (callV_func hbv21 (by kernel_rfl)) (w_wire_Open s _ c2) (.cons (.same _) (.nil)) (by kernel_rfl) (by kernel_rfl) (by kernel_rfl) (by kernel_rfl) (by kernel_rfl) (by kernel_rfl) (by kernel_rfl) (by kernel_rfl)) (by kernel_rfl) ?_
    refine o_runs 1 [(6, .ptr 3001500 0 0)] (by kernel_rfl) ?_
    refine ov_nil ?_
    refine nrm_thenV ?_
    refine v_seq ?_
    refine v_seq ?_
    refine vr_text ?_
    refine o_runs 2 [(17, .bool false), (16, .ptr 3001500 0 0)] (by kernel_rfl) ?_
    refine ov_nil ?_
    refine nrm_thenV ?_
    refine v_cond_f (by kernel_rfl) ?_
    refine v_skip ?_
    refine nrm_thenV ?_
    refine v_seq ?_
    refine vr_text ?_
    refine o_runs 1 [(7, .str [])] (by kernel_rfl) ?_
    refine ov_nil ?_
    refine nrm_thenV ?_
    refine v_seq ?_
    refine v_seq ?_
    refine vr_text ?_
    refine o_runs 2 [(19, .agg [.int .i64 what, .int .i64 0, .str [], .nils, .nils]), (18, .int .i64 what)] (by kernel_rfl) ?_
    obtain ⟨y3, c3, hs⟩ := bind_some hs
    refine o_loc (F := []) (F' := []) (v := .int .i64 y3) [] (by kernel_rfl) (by kernel_rfl) rfl (by kernel_rfl) (loc_gcallB (vs := [.agg [.int .i64 what, .int .i64 0, .str [], .nils, .nils]]) (R := []) (callV_func hbv22 (by kernel_rfl)) (w_greenbeltlaw01_kind (greenbeltlaw01_Value.mk what 0 [] [] []) _ c3) (.cons (.agg (.cons (.same _) (.cons (.same _) (.cons (.same _) (.cons (.nils _) (.cons (.nils _) (.nil))))))) (.nil)) (by kernel_rfl) (by kernel_rfl) (by kernel_rfl)) (by kernel_rfl) ?_
    refine ov_nil ?_
    refine nrm_thenV ?_
    refine v_block ?_
    refine v_seq ?_
    refine vr_text ?_
    refine o_runs 2 [(24, .bool (decide (y3 = 0))), (25, .bool (decide (y3 = 0)))] (by kernel_rfl) ?_
    refine ov_nil ?_
    refine nrm_thenV ?_
    obtain ⟨z1, hs, hk1⟩ := bind_some hs
    refine v_join (S := (List UInt8) × (List UInt8) × Bool) (fun u => u = z1) (fun u => [(0, .str s), (5, .bool y1), (6, .ptr 3001500 0 0), (7, .str u.1)]) (fun u => [(3001500, .box 54 [.str u.2.1, .bool u.2.2]), (900000000, gl0 ob0), (900000001, gl1 ob1 u1), (900000002, gl2 ob2 u2)]) ?_ (fun v1 hz => ?_)
    · refine v_cond (decide (y3 = 0)) (by kernel_rfl) (fun h2 => ?_) (fun h2 => ?_)
      · replace hs := bif_t h2 hs
        refine vr_text ?_
        refine o_runs 1 [(26, .ptr 3001500 0 0)] (by kernel_rfl) ?_
        obtain ⟨y4, c4, hs⟩ := bind_some hs
        refine o_loc (F := [(3001500, .box 54 [.str y2, .bool false]), (900000000, gl0 ob0), (900000001, gl1 ob1 u1), (900000002, gl2 ob2 u2)]) (F' := [(3001500, .box 54 [.str y4.2.1, .bool y4.2.2]), (900000000, gl0 ob0), (900000001, gl1 ob1 u1), (900000002, gl2 ob2 u2)]) (v := .int .i64 y4.1) [3001500, 900000000, 900000001, 900000002] (by kernel_rfl) (by kernel_rfl) rfl (by kernel_rfl) (loc_g (R := []) [.ptr 3001500 0 0] [(1000000, 3001500), (900000000, 900000000), (900000001, 900000001), (900000002, 900000002)] (callV_func hbv23 (by kernel_rfl)) (w_wire_Reader_Num (ob0 := ob0) (ob1 := ob1) (ob2 := ob2) (u1 := u1) (u2 := u2) y2 false _ c4) (.cons (.same _) (.nil)) (by kernel_rfl) (by kernel_rfl) (by kernel_rfl) (by kernel_rfl) (by kernel_rfl) (by kernel_rfl) (by kernel_rfl) (by kernel_rfl)) (by kernel_rfl) ?_
        obtain ⟨y5, c5, hs⟩ := bind_some hs
        refine o_loc (F := [(900000000, gl0 ob0), (900000001, gl1 ob1 u1), (900000002, gl2 ob2 u2)]) (F' := [(900000000, gl0 ob0), (900000001, gl1 ob1 u1), (900000002, gl2 ob2 u2)]) (v := .str y5) [900000000, 900000001, 900000002] (by kernel_rfl) (by kernel_rfl) rfl (by kernel_rfl) (loc_gcallL (vs := [.int .i64 y4.1]) (G := [(900000000, gl0 ob0), (900000001, gl1 ob1 u1), (900000002, gl2 ob2 u2)]) (R := []) (callV_func hbv11 (by kernel_rfl)) (w_wire_Num (ob0 := ob0) (ob1 := ob1) (ob2 := ob2) (u1 := u1) (u2 := u2) y4.1 _ c5) (by kernel_rfl) (.cons (.same _) (.nil)) (by kernel_rfl) (by kernel_rfl) (by kernel_rfl)) (by kernel_rfl) ?_
        refine o_runs 1 [(7, .str y5)] (by kernel_rfl) ?_
        refine ov_nil ?_
        obtain rfl := Option.some.inj hs
        refine nrm_join (y5, y4.2.1, y4.2.2) rfl ?_
        exact cut_of [0, 5, 6, 7] [3001500, 900000000, 900000001, 900000002] (by kernel_rfl) (by kernel_rfl) (by kernel_rfl)
      · replace hs := bif_f h2 hs
        refine v_seq ?_
        refine vr_text ?_
        refine o_runs 2 [(29, .bool (decide (y3 = 1))), (30, .bool (decide (y3 = 1)))] (by kernel_rfl) ?_
        refine ov_nil ?_
        refine nrm_thenV ?_
        refine v_cond (decide (y3 = 1)) (by kernel_rfl) (fun h3 => ?_) (fun h3 => ?_)
        · replace hs := bif_t h3 hs
          refine vr_text ?_
          refine o_runs 1 [(31, .ptr 3001500 0 0)] (by kernel_rfl) ?_
          obtain ⟨y6, c6, hs⟩ := bind_some hs
          refine o_loc (F := [(3001500, .box 54 [.str y2, .bool false]), (900000000, gl0 ob0), (900000001, gl1 ob1 u1), (900000002, gl2 ob2 u2)]) (F' := [(3001500, .box 54 [.str y6.2.1, .bool y6.2.2]), (900000000, gl0 ob0), (900000001, gl1 ob1 u1), (900000002, gl2 ob2 u2)]) (v := .int .i64 y6.1) [3001500, 900000000, 900000001, 900000002] (by kernel_rfl) (by kernel_rfl) rfl (by kernel_rfl) (loc_g (R := []) [.ptr 3001500 0 0] [(1000000, 3001500), (900000000, 900000000), (900000001, 900000001), (900000002, 900000002)] (callV_func hbv24 (by kernel_rfl)) (w_wire_Reader_Int (ob0 := ob0) (ob1 := ob1) (ob2 := ob2) (u1 := u1) (u2 := u2) y2 false _ c6) (.cons (.same _) (.nil)) (by kernel_rfl) (by kernel_rfl) (by kernel_rfl) (by kernel_rfl) (by kernel_rfl) (by kernel_rfl) (by kernel_rfl) (by kernel_rfl)) (by kernel_rfl) ?_
          obtain ⟨y7, c7, hs⟩ := bind_some hs
          refine o_loc (F := [(900000000, gl0 ob0), (900000001, gl1 ob1 u1), (900000002, gl2 ob2 u2)]) (F' := [(900000000, gl0 ob0), (900000001, gl1 ob1 u1), (900000002, gl2 ob2 u2)]) (v := .str y7) [900000000, 900000001, 900000002] (by kernel_rfl) (by kernel_rfl) rfl (by kernel_rfl) (loc_gcallL (vs := [.int .i64 y6.1]) (G := [(900000000, gl0 ob0), (900000001, gl1 ob1 u1), (900000002, gl2 ob2 u2)]) (R := []) (callV_func hbv13 (by kernel_rfl)) (w_wire_Int (ob0 := ob0) (ob1 := ob1) (ob2 := ob2) (u1 := u1) (u2 := u2) y6.1 _ c7) (by kernel_rfl) (.cons (.same _) (.nil)) (by kernel_rfl) (by kernel_rfl) (by kernel_rfl)) (by kernel_rfl) ?_
          refine o_runs 1 [(7, .str y7)] (by kernel_rfl) ?_
          refine ov_nil ?_
          obtain rfl := Option.some.inj hs
          refine nrm_join (y7, y6.2.1, y6.2.2) rfl ?_
          exact cut_of [0, 5, 6, 7] [3001500, 900000000, 900000001, 900000002] (by kernel_rfl) (by kernel_rfl) (by kernel_rfl)
        · replace hs := bif_f h3 hs
          refine v_seq ?_
          refine vr_text ?_
          refine o_runs 2 [(34, .bool (decide (y3 = 2))), (35, .bool (decide (y3 = 2)))] (by kernel_rfl) ?_
          refine ov_nil ?_
          refine nrm_thenV ?_
          refine v_cond (decide (y3 = 2)) (by kernel_rfl) (fun h4 => ?_) (fun h4 => ?_)
          · replace hs := bif_t h4 hs
            refine vr_text ?_
            refine o_runs 1 [(36, .ptr 3001500 0 0)] (by kernel_rfl) ?_
            obtain ⟨y8, c8, hs⟩ := bind_some hs
            refine o_loc (F := [(3001500, .box 54 [.str y2, .bool false]), (900000000, gl0 ob0), (900000001, gl1 ob1 u1), (900000002, gl2 ob2 u2)]) (F' := [(3001500, .box 54 [.str y8.2.1, .bool y8.2.2]), (900000000, gl0 ob0), (900000001, gl1 ob1 u1), (900000002, gl2 ob2 u2)]) (v := .str y8.1) [3001500, 900000000, 900000001, 900000002] (by kernel_rfl) (by kernel_rfl) rfl (by kernel_rfl) (loc_g (R := []) [.ptr 3001500 0 0] [(1000000, 3001500), (900000000, 900000000), (900000001, 900000001), (900000002, 900000002)] (callV_func hbv25 (by kernel_rfl)) (w_wire_Reader_Text (ob0 := ob0) (ob1 := ob1) (ob2 := ob2) (u1 := u1) (u2 := u2) y2 false _ c8) (.cons (.same _) (.nil)) (by kernel_rfl) (by kernel_rfl) (by kernel_rfl) (by kernel_rfl) (by kernel_rfl) (by kernel_rfl) (by kernel_rfl) (by kernel_rfl)) (by kernel_rfl) ?_
            obtain ⟨y9, c9, hs⟩ := bind_some hs
            refine o_loc (F := [(900000000, gl0 ob0), (900000001, gl1 ob1 u1), (900000002, gl2 ob2 u2)]) (F' := [(900000000, gl0 ob0), (900000001, gl1 ob1 u1), (900000002, gl2 ob2 u2)]) (v := .str y9) [900000000, 900000001, 900000002] (by kernel_rfl) (by kernel_rfl) rfl (by kernel_rfl) (loc_gcallL (vs := [.str y8.1]) (G := [(900000000, gl0 ob0), (900000001, gl1 ob1 u1), (900000002, gl2 ob2 u2)]) (R := []) (callV_func hbv15 (by kernel_rfl)) (w_wire_Text (ob0 := ob0) (ob1 := ob1) (ob2 := ob2) (u1 := u1) (u2 := u2) y8.1 _ c9) (by kernel_rfl) (.cons (.same _) (.nil)) (by kernel_rfl) (by kernel_rfl) (by kernel_rfl)) (by kernel_rfl) ?_
            refine o_runs 1 [(7, .str y9)] (by kernel_rfl) ?_
            refine ov_nil ?_
            obtain rfl := Option.some.inj hs
            refine nrm_join (y9, y8.2.1, y8.2.2) rfl ?_
            exact cut_of [0, 5, 6, 7] [3001500, 900000000, 900000001, 900000002] (by kernel_rfl) (by kernel_rfl) (by kernel_rfl)
          · replace hs := bif_f h4 hs
            refine v_seq ?_
            refine vr_text ?_
            refine o_runs 2 [(39, .bool (decide (y3 = 3))), (40, .bool (decide (y3 = 3)))] (by kernel_rfl) ?_
            refine ov_nil ?_
            refine nrm_thenV ?_
            refine v_cond (decide (y3 = 3)) (by kernel_rfl) (fun h5 => ?_) (fun h5 => ?_)
            · replace hs := bif_t h5 hs
              refine vr_text ?_
              refine o_runs 1 [(41, .ptr 3001500 0 0)] (by kernel_rfl) ?_
              obtain ⟨y10, c10, hs⟩ := bind_some hs
              refine o_loc (F := [(3001500, .box 54 [.str y2, .bool false]), (900000000, gl0 ob0), (900000001, gl1 ob1 u1), (900000002, gl2 ob2 u2)]) (F' := [(3001500, .box 54 [.str y10.2.1, .bool y10.2.2]), (900000000, gl0 ob0), (900000001, gl1 ob1 u1), (900000002, gl2 ob2 u2)]) (v := .vs 1 (List.map EV.encI y10.1)) [3001500, 900000000, 900000001, 900000002] (by kernel_rfl) (by kernel_rfl) rfl (by kernel_rfl) (loc_g (R := []) [.ptr 3001500 0 0] [(1000000, 3001500), (900000000, 900000000), (900000001, 900000001), (900000002, 900000002)] (callV_func hbv26 (by kernel_rfl)) (w_wire_Reader_Nums (ob0 := ob0) (ob1 := ob1) (ob2 := ob2) (u1 := u1) (u2 := u2) y2 false _ c10) (.cons (.same _) (.nil)) (by kernel_rfl) (by kernel_rfl) (by kernel_rfl) (by kernel_rfl) (by kernel_rfl) (by kernel_rfl) (by kernel_rfl) (by kernel_rfl)) (by kernel_rfl) ?_
              obtain ⟨y11, c11, hs⟩ := bind_some hs
              refine o_loc (F := [(900000000, gl0 ob0), (900000001, gl1 ob1 u1), (900000002, gl2 ob2 u2)]) (F' := [(900000000, gl0 ob0), (900000001, gl1 ob1 u1), (900000002, gl2 ob2 u2)]) (v := .str y11) [900000000, 900000001, 900000002] (by kernel_rfl) (by kernel_rfl) rfl (by kernel_rfl) (loc_gcallL (vs := [.vs 1 (List.map EV.encI y10.1)]) (G := [(900000000, gl0 ob0), (900000001, gl1 ob1 u1), (900000002, gl2 ob2 u2)]) (R := []) (callV_func hbv17 (by kernel_rfl)) (w_wire_Nums (ob0 := ob0) (ob1 := ob1) (ob2 := ob2) (u1 := u1) (u2 := u2) y10.1 _ c11) (by kernel_rfl) (.cons (.same _) (.nil)) (by kernel_rfl) (by kernel_rfl) (by kernel_rfl)) (by kernel_rfl) ?_
              refine o_runs 1 [(7, .str y11)] (by kernel_rfl) ?_
              refine ov_nil ?_
              obtain rfl := Option.some.inj hs
              refine nrm_join (y11, y10.2.1, y10.2.2) rfl ?_
              exact cut_of [0, 5, 6, 7] [3001500, 900000000, 900000001, 900000002] (by kernel_rfl) (by kernel_rfl) (by kernel_rfl)
            · replace hs := bif_f h5 hs
              refine vr_text ?_
              refine o_runs 1 [(21, .ptr 3001500 0 0)] (by kernel_rfl) ?_
              obtain ⟨y12, c12, hs⟩ := bind_some hs
              refine o_loc (F := [(3001500, .box 54 [.str y2, .bool false]), (900000000, gl0 ob0), (900000001, gl1 ob1 u1), (900000002, gl2 ob2 u2)]) (F' := [(3001500, .box 54 [.str y12.2.1, .bool y12.2.2]), (900000000, gl0 ob0), (900000001, gl1 ob1 u1), (900000002, gl2 ob2 u2)]) (v := .vs 1 (List.map EV.encS y12.1)) [3001500, 900000000, 900000001, 900000002] (by kernel_rfl) (by kernel_rfl) rfl (by kernel_rfl) (loc_g (R := []) [.ptr 3001500 0 0] [(1000000, 3001500), (900000000, 900000000), (900000001, 900000001), (900000002, 900000002)] (callV_func hbv27 (by kernel_rfl)) (w_wire_Reader_Texts (ob0 := ob0) (ob1 := ob1) (ob2 := ob2) (u1 := u1) (u2 := u2) y2 false _ c12) (.cons (.same _) (.nil)) (by kernel_rfl) (by kernel_rfl) (by kernel_rfl) (by kernel_rfl) (by kernel_rfl) (by kernel_rfl) (by kernel_rfl) (by kernel_rfl)) (by kernel_rfl) ?_
              obtain ⟨y13, c13, hs⟩ := bind_some hs
              refine o_loc (F := [(900000000, gl0 ob0), (900000001, gl1 ob1 u1), (900000002, gl2 ob2 u2)]) (F' := [(900000000, gl0 ob0), (900000001, gl1 ob1 u1), (900000002, gl2 ob2 u2)]) (v := .str y13) [900000000, 900000001, 900000002] (by kernel_rfl) (by kernel_rfl) rfl (by kernel_rfl) (loc_gcallL (vs := [.vs 1 (List.map EV.encS y12.1)]) (G := [(900000000, gl0 ob0), (900000001, gl1 ob1 u1), (900000002, gl2 ob2 u2)]) (R := []) (callV_func hbv19 (by kernel_rfl)) (w_wire_Texts (ob0 := ob0) (ob1 := ob1) (ob2 := ob2) (u1 := u1) (u2 := u2) y12.1 _ c13) (by kernel_rfl) (.cons (.same _) (.nil)) (by kernel_rfl) (by kernel_rfl) (by kernel_rfl)) (by kernel_rfl) ?_
              refine o_runs 1 [(7, .str y13)] (by kernel_rfl) ?_
              refine ov_nil ?_
              obtain rfl := Option.some.inj hs
              refine nrm_join (y13, y12.2.1, y12.2.2) rfl ?_
              exact cut_of [0, 5, 6, 7] [3001500, 900000000, 900000001, 900000002] (by kernel_rfl) (by kernel_rfl) (by kernel_rfl)
    · subst hz; clear hs; have hs := hk1; clear hk1
      refine nrm_blkV ?_
      refine nrm_thenV ?_
      refine v_seq ?_
      refine v_seq ?_
      obtain ⟨z2, hs, hk2⟩ := bind_some hs
      refine v_join (S := Bool × (List UInt8) × Bool) (fun u => u = z2) (fun u => [(0, .str s), (5, .bool y1), (6, .ptr 3001500 0 0), (7, .str v1.1), (51, .bool u.1)]) (fun u => [(3001500, .box 54 [.str u.2.1, .bool u.2.2]), (900000000, gl0 ob0), (900000001, gl1 ob1 u1), (900000002, gl2 ob2 u2)]) ?_ (fun v2 hz => ?_)
      · refine vr_text ?_
        refine o_runs 1 [(44, .ptr 3001500 0 0)] (by kernel_rfl) ?_
        obtain ⟨y14, c14, hs⟩ := bind_some hs
        refine o_loc (F := [(3001500, .box 54 [.str v1.2.1, .bool v1.2.2])]) (F' := [(3001500, .box 54 [.str y14.2.1, .bool y14.2.2])]) (v := .int .i64 y14.1) [3001500] (by kernel_rfl) (by kernel_rfl) rfl (by kernel_rfl) (loc_g (R := []) [.ptr 3001500 0 0] [(1000000, 3001500)] (callV_func hbv28 (by kernel_rfl)) (w_wire_Reader_Left v1.2.1 v1.2.2 _ c14) (.cons (.same _) (.nil)) (by kernel_rfl) (by kernel_rfl) (by kernel_rfl) (by kernel_rfl) (by kernel_rfl) (by kernel_rfl) (by kernel_rfl) (by kernel_rfl)) (by kernel_rfl) ?_
        refine o_runs 2 [(47, .bool (decide (y14.1 = 0))), (46, .bool (decide (y14.1 = 0)))] (by kernel_rfl) ?_
        cases h6 : ((decide (y14.1 = 0)))
        · replace hs := bif_f h6 hs
          refine o_runs 4 [(51, .bool false), (50, .no), (49, .no), (48, .no)] (by kernel_rfl) ?_
          refine ov_nil ?_
          obtain rfl := Option.some.inj hs
          refine nrm_join (false, y14.2.1, y14.2.2) rfl ?_
          exact cut_of [0, 5, 6, 7, 51] [3001500, 900000000, 900000001, 900000002] (by kernel_rfl) (by kernel_rfl) (by kernel_rfl)
        · replace hs := bif_t h6 hs
          refine o_runs 1 [(48, .ptr 3001500 0 0)] (by kernel_rfl) ?_
          obtain ⟨y15, c15, hs⟩ := bind_some hs
          refine o_loc (F := [(3001500, .box 54 [.str y14.2.1, .bool y14.2.2])]) (F' := [(3001500, .box 54 [.str y15.2.1, .bool y15.2.2])]) (v := .bool y15.1) [3001500] (by kernel_rfl) (by kernel_rfl) rfl (by kernel_rfl) (loc_g (R := []) [.ptr 3001500 0 0] [(1000000, 3001500)] (callV_func hbv29 (by kernel_rfl)) (w_wire_Reader_Done y14.2.1 y14.2.2 _ c15) (.cons (.same _) (.nil)) (by kernel_rfl) (by kernel_rfl) (by kernel_rfl) (by kernel_rfl) (by kernel_rfl) (by kernel_rfl) (by kernel_rfl) (by kernel_rfl)) (by kernel_rfl) ?_
          refine o_runs 2 [(51, .bool (!y15.1)), (50, .bool (!y15.1))] (by kernel_rfl) ?_
          refine ov_nil ?_
          obtain rfl := Option.some.inj hs
          refine nrm_join ((!y15.1), y15.2.1, y15.2.2) rfl ?_
          exact cut_of [0, 5, 6, 7, 51] [3001500, 900000000, 900000001, 900000002] (by kernel_rfl) (by kernel_rfl) (by kernel_rfl)
      · subst hz; clear hs; have hs := hk2; clear hk2
        refine nrm_thenV ?_
        refine v_cond v2.1 (by kernel_rfl) (fun h7 => ?_) (fun h7 => ?_)
        · replace hs := bif_t h7 hs
          refine v_seq ?_
          refine vr_text ?_
          refine o_runs 2 [(4, .bool y1), (52, .bool y1)] (by kernel_rfl) ?_
          refine ov_nil ?_
          refine nrm_thenV ?_
          refine v_ret ?_
          refine ret_thenV ?_
          obtain rfl := Option.some.inj hs
          exact fin_ret (by kernel_rfl) (by kernel_rfl) (by kernel_rfl)
        · replace hs := bif_f h7 hs
          refine v_skip ?_
          refine nrm_thenV ?_
          refine v_seq ?_
          refine vr_text ?_
          refine o_runs 3 [(55, .ptr 3001500 0 0), (54, .int .i64 (List.length s : Int)), (53, .str s)] (by kernel_rfl) ?_
          obtain ⟨y16, c16, hs⟩ := bind_some hs
          refine o_loc (F := [(3001500, .box 54 [.str v2.2.1, .bool v2.2.2])]) (F' := [(3001500, .box 54 [.str y16.2.1, .bool y16.2.2])]) (v := .int .i64 y16.1) [3001500] (by kernel_rfl) (by kernel_rfl) rfl (by kernel_rfl) (loc_g (R := []) [.ptr 3001500 0 0] [(1000000, 3001500)] (callV_func hbv28 (by kernel_rfl)) (w_wire_Reader_Left v2.2.1 v2.2.2 _ c16) (.cons (.same _) (.nil)) (by kernel_rfl) (by kernel_rfl) (by kernel_rfl) (by kernel_rfl) (by kernel_rfl) (by kernel_rfl) (by kernel_rfl) (by kernel_rfl)) (by kernel_rfl) ?_
          refine o_runs 2 [(8, .int .i64 (w64 ((List.length s : Int) - y16.1))), (57, .int .i64 (w64 ((List.length s : Int) - y16.1)))] (by kernel_rfl) ?_
          refine ov_nil ?_
          refine nrm_thenV ?_
          refine v_seq ?_
          obtain ⟨z3, hs, hk3⟩ := bind_some hs
          refine v_join (S := Bool) (fun u => u = z3) (fun u => [(4, .bool u)]) (fun u => [(900000000, gl0 ob0), (900000001, gl1 ob1 u1), (900000002, gl2 ob2 u2)]) ?_ (fun v3 hz => ?_)
          · refine vr_text ?_
            refine o_runs 2 [(59, .bool y1), (58, .bool y1)] (by kernel_rfl) ?_
            cases h8 : (y1)
            · replace hs := bif_f h8 hs
              refine o_runs 21 [(4, .bool false), (79, .bool false), (78, .no), (77, .no), (76, .no), (75, .no), (74, .no), (73, .no), (72, .no), (71, .no), (70, .no), (69, .bool false), (68, .bool false), (67, .no), (66, .no), (65, .no), (64, .no), (63, .bool false), (62, .bool false), (61, .no), (60, .no)] (by kernel_rfl) ?_
              refine ov_nil ?_
              obtain rfl := Option.some.inj hs
              refine nrm_join false rfl ?_
              exact cut_of [4] [900000000, 900000001, 900000002] (by kernel_rfl) (by kernel_rfl) (by kernel_rfl)
            · replace hs := bif_t h8 hs
              refine o_runs 4 [(63, .bool (decide ((w64 ((List.length s : Int) - y16.1)) ≥ 0))), (62, .bool (decide ((w64 ((List.length s : Int) - y16.1)) ≥ 0))), (61, .bool (decide ((w64 ((List.length s : Int) - y16.1)) ≥ 0))), (60, .int .i64 (w64 ((List.length s : Int) - y16.1)))] (by kernel_rfl) ?_
              cases h9 : ((decide ((w64 ((List.length s : Int) - y16.1)) ≥ 0)))
              · replace hs := bif_f h9 hs
                refine o_runs 17 [(4, .bool false), (79, .bool false), (78, .no), (77, .no), (76, .no), (75, .no), (74, .no), (73, .no), (72, .no), (71, .no), (70, .no), (69, .bool false), (68, .bool false), (67, .no), (66, .no), (65, .no), (64, .no)] (by kernel_rfl) ?_
                refine ov_nil ?_
                obtain rfl := Option.some.inj hs
                refine nrm_join false rfl ?_
                exact cut_of [4] [900000000, 900000001, 900000002] (by kernel_rfl) (by kernel_rfl) (by kernel_rfl)
              · replace hs := bif_t h9 hs
                refine o_runs 6 [(69, .bool (decide ((w64 ((List.length s : Int) - y16.1)) ≤ (List.length s : Int)))), (68, .bool (decide ((w64 ((List.length s : Int) - y16.1)) ≤ (List.length s : Int)))), (67, .bool (decide ((w64 ((List.length s : Int) - y16.1)) ≤ (List.length s : Int)))), (66, .int .i64 (List.length s : Int)), (65, .str s), (64, .int .i64 (w64 ((List.length s : Int) - y16.1)))] (by kernel_rfl) ?_
                cases h10 : ((decide ((w64 ((List.length s : Int) - y16.1)) ≤ (List.length s : Int))))
                · replace hs := bif_f h10 hs
                  refine o_runs 11 [(4, .bool false), (79, .bool false), (78, .no), (77, .no), (76, .no), (75, .no), (74, .no), (73, .no), (72, .no), (71, .no), (70, .no)] (by kernel_rfl) ?_
                  refine ov_nil ?_
                  obtain rfl := Option.some.inj hs
                  refine nrm_join false rfl ?_
                  exact cut_of [4] [900000000, 900000001, 900000002] (by kernel_rfl) (by kernel_rfl) (by kernel_rfl)
                · replace hs := bif_t h10 hs
                  refine o_runs 7 [(76, .int .i64 (max 0 (min (w64 ((List.length s : Int) - y16.1)) (List.length s : Int)))), (75, .int .i64 (min (w64 ((List.length s : Int) - y16.1)) (List.length s : Int))), (74, .int .i64 (List.length s : Int)), (73, .str s), (72, .int .i64 (w64 ((List.length s : Int) - y16.1))), (71, .str s), (70, .str v1.1)] (by kernel_rfl) ?_
                  obtain ⟨x1, g1, hs⟩ := bind_some hs; obtain ⟨g1a, g1b, g1c, g1d⟩ := cut_some g1
                  refine o_pure (v := .str x1) (by kernel_rfl) (by kernel_rfl) (by rw [g1d]; exact loc_sliceStr (s := s) (l := 0) (h := (max 0 (min (w64 ((List.length s : Int) - y16.1)) (List.length s : Int)))) (by kernel_rfl) (by kernel_rfl) rfl ⟨.i64, by kernel_rfl⟩ g1a g1b g1c) ?_
                  refine o_runs 3 [(4, .bool (decide (v1.1 = x1))), (79, .bool (decide (v1.1 = x1))), (78, .bool (decide (v1.1 = x1)))] (by kernel_rfl) ?_
                  refine ov_nil ?_
                  obtain rfl := Option.some.inj hs
                  refine nrm_join (decide (v1.1 = x1)) rfl ?_
                  exact cut_of [4] [900000000, 900000001, 900000002] (by kernel_rfl) (by kernel_rfl) (by kernel_rfl)
          · subst hz; clear hs; have hs := hk3; clear hk3
            refine nrm_thenV ?_
            refine v_ret ?_
            obtain rfl := Option.some.inj hs
            exact fin_ret (by kernel_rfl) (by kernel_rfl) (by kernel_rfl)
def s_greenbeltlaw01_number (n : Int) : Option Int :=
  (bif (decide (n < 0)) then some (w64 (0 - (w64 (n + 1)))) else some n)
theorem w_greenbeltlaw01_number (n : Int) (r : Int) (hs : s_greenbeltlaw01_number n = some r) : FnA Tryd.prog 53 [.int .i64 n] [] (.int .i64 r) [] := by
  refine fnA_of_wp (N := 9) Tryd.func53 rfl rfl rfl fun cK0 => ?_
  unfold s_greenbeltlaw01_number at hs
  refine v_same (ρ' := [(0, .int .i64 n)]) rfl rfl ?_
  refine v_seq ?_
  refine vr_text ?_
  refine o_runs 1 [(2, .int .i64 0)] (by kernel_rfl) ?_
  refine ov_nil ?_
  refine nrm_thenV ?_
  refine v_seq ?_
  refine v_seq ?_
  refine vr_text ?_
  refine o_runs 2 [(4, .bool (decide (n < 0))), (3, .int .i64 n)] (by kernel_rfl) ?_
  refine ov_nil ?_
  refine nrm_thenV ?_
  refine v_cond (decide (n < 0)) (by kernel_rfl) (fun h1 => ?_) (fun h1 => ?_)
  · replace hs := bif_t h1 hs
    refine v_seq ?_
    refine vr_text ?_
    refine o_runs 4 [(2, .int .i64 (w64 (0 - (w64 (n + 1))))), (7, .int .i64 (w64 (0 - (w64 (n + 1))))), (6, .int .i64 (w64 (n + 1))), (5, .int .i64 n)] (by kernel_rfl) ?_
    refine ov_nil ?_
    refine nrm_thenV ?_
    refine v_ret ?_
    refine ret_thenV ?_
    obtain rfl := Option.some.inj hs
    exact fin_ret (by kernel_rfl) (by kernel_rfl) (by kernel_rfl)
  · replace hs := bif_f h1 hs
    refine v_skip ?_
    refine nrm_thenV ?_
    refine v_seq ?_
    refine vr_text ?_
    refine o_runs 2 [(2, .int .i64 n), (8, .int .i64 n)] (by kernel_rfl) ?_
    refine ov_nil ?_
    refine nrm_thenV ?_
    refine v_ret ?_
    obtain rfl := Option.some.inj hs
    exact fin_ret (by kernel_rfl) (by kernel_rfl) (by kernel_rfl)
end Go.Proofs.YtbejhkfojiijmaaDoor
