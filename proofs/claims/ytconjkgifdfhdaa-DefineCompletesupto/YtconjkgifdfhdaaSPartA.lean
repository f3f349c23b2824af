/- printed by gen2.py -/
import Derived.Test.YtconjkgifdfhdaaE
import Derived.Test.YtconjkgifdfhdaaSD
set_option linter.all false
set_option maxRecDepth 100000
namespace Go.Proofs.Ytconjkgifdfhdaa
open Go Go.RowKit Go.Eng Go.EV
variable [Fuel]

theorem hbv33 : hasBody Try.prog 33 := body_of kr
theorem hbv15 : hasBody Try.prog 15 := body_of kr
theorem kok9 : KeyOK Try.prog 9 V.str (fun s : List UInt8 => Value.string ⟨s.toArray⟩) := keyOK_str kr
theorem hbv42 : hasBody Try.prog 42 := body_of kr
theorem hbv44 : hasBody Try.prog 44 := body_of kr
theorem hbv43 : hasBody Try.prog 43 := body_of kr
theorem hbv59 : hasBody Try.prog 59 := body_of kr
theorem hbv17 : hasBody Try.prog 17 := body_of kr
theorem mixedH : Try.prog.follows .mixedOrders = true := by kernel_rfl
theorem hbv35 : hasBody Try.prog 35 := body_of kr
theorem hbv111 : hasBody Try.prog 111 := body_of kr
theorem hbv103 : hasBody Try.prog 103 := body_of kr
theorem hbv89 : hasBody Try.prog 89 := body_of kr
theorem hbv104 : hasBody Try.prog 104 := body_of kr
theorem hbv90 : hasBody Try.prog 90 := body_of kr
theorem hbv75 : hasBody Try.prog 75 := body_of kr
theorem hbv54 : hasBody Try.prog 54 := body_of kr
theorem hbv91 : hasBody Try.prog 91 := body_of kr
theorem hbv76 : hasBody Try.prog 76 := body_of kr
theorem hbv55 : hasBody Try.prog 55 := body_of kr
theorem hbv36 : hasBody Try.prog 36 := body_of kr
theorem hbv57 : hasBody Try.prog 57 := body_of kr
theorem hbv77 : hasBody Try.prog 77 := body_of kr
theorem hbv56 : hasBody Try.prog 56 := body_of kr
theorem hbv37 : hasBody Try.prog 37 := body_of kr
theorem hbv11 : hasBody Try.prog 11 := body_of kr
theorem hbv13 : hasBody Try.prog 13 := body_of kr
theorem hbv14 : hasBody Try.prog 14 := body_of kr
theorem hbv19 : hasBody Try.prog 19 := body_of kr
theorem hbv21 : hasBody Try.prog 21 := body_of kr
theorem hbv9 : hasBody Try.prog 9 := body_of kr
theorem hbv34 : hasBody Try.prog 34 := body_of kr
theorem hbv10 : hasBody Try.prog 10 := body_of kr
theorem hbv23 : hasBody Try.prog 23 := body_of kr
theorem w_greenbeltlaw16_name (s : (List UInt8)) (r : Expr) (hs : s_greenbeltlaw16_name s = some r) : FnA Try.prog 33 [.str s] [] (.agg (enc_Expr r)) [] := by
 refine fnA_of_wp (N := 5) Try.func33 rfl rfl rfl fun cK0 => ?_
 unfold s_greenbeltlaw16_name at hs
 refine v_same (ρ' := [(0, .str s)]) rfl rfl ?_
 refine vS (vT (o_runh 1 [(2, .ptr 2 0 0)] [(2, .box 44 [.int .i64 0, .int .i64 0, .str [], .str [], .nils])] kr ?_))
 refine oN (nT (vS (vT (o_runh 3 [(4, .agg [.int .i64 1, .int .i64 0, .str s, .str [], .nils]), (3, .str s)] [(2, .box 44 [.int .i64 1, .int .i64 0, .str s, .str [], .nils])] kr ?_))))
 refine oN (nT (v_to _ [(2, .box 44 [.int .i64 1, .int .i64 0, .str s, .str [], .vs 5 (encs_Expr [])])] (cut_box (k := 2) (t := 44) (cs := [.int .i64 1, .int .i64 0, .str s, .str [], .nils]) (cs' := [.int .i64 1, .int .i64 0, .str s, .str [], .vs 5 (encs_Expr [])]) [] [] kr kr kr (.cons (.same _) (.cons (.same _) (.cons (.same _) (.cons (.same _) (.cons (.nils 5) (.nil)))))) kr) ?_))
 refine v_ret ?_
 obtain rfl := si hs
 exact fin_ret kr kr kr
theorem w_define_Measures  (r : (List (List UInt8))) (hs : s_define_Measures  = some r) : FnA Try.prog 15 [] [] (.vs 1 (mS r)) [] := by
 refine fnA_of_wp (N := 2) Try.func15 rfl rfl rfl fun cK0 => ?_
 unfold s_define_Measures at hs
 refine v_same (ρ' := []) rfl rfl ?_
 refine vS (vT (oR 1 [(0, .nils)] kr ?_))
 refine oN (nT (vS (vT (o_runh 2 [(0, .sl 1 1 9 0 9), (1, .sl 1 1 9 0 9)] [(1, .row 9 1 0 (mS [([97, 114, 101, 97] : List UInt8), ([99, 111, 118, 101, 114] : List UInt8), ([102, 108, 111, 111, 114] : List UInt8), ([102, 108, 111, 111, 114, 115] : List UInt8), ([104, 101, 105, 103, 104, 116] : List UInt8), ([104, 111, 109, 101, 115] : List UInt8), ([114, 117, 110, 111, 102, 102] : List UInt8), ([115, 101, 116, 98, 97, 99, 107] : List UInt8), ([116, 114, 97, 102, 102, 105, 99] : List UInt8)]))] kr ?_))))
 refine oN (nT (v_to _ [(1, .row 9 1 (((mS [([97, 114, 101, 97] : List UInt8), ([99, 111, 118, 101, 114] : List UInt8), ([102, 108, 111, 111, 114] : List UInt8), ([102, 108, 111, 111, 114, 115] : List UInt8), ([104, 101, 105, 103, 104, 116] : List UInt8), ([104, 111, 109, 101, 115] : List UInt8), ([114, 117, 110, 111, 102, 102] : List UInt8), ([115, 101, 116, 98, 97, 99, 107] : List UInt8), ([116, 114, 97, 102, 102, 105, 99] : List UInt8)])).length) (mS [([97, 114, 101, 97] : List UInt8), ([99, 111, 118, 101, 114] : List UInt8), ([102, 108, 111, 111, 114] : List UInt8), ([102, 108, 111, 111, 114, 115] : List UInt8), ([104, 101, 105, 103, 104, 116] : List UInt8), ([104, 111, 109, 101, 115] : List UInt8), ([114, 117, 110, 111, 102, 102] : List UInt8), ([115, 101, 116, 98, 97, 99, 107] : List UInt8), ([116, 114, 97, 102, 102, 105, 99] : List UInt8)]))] (cut_freeze (F := [(1, .row 9 1 0 (mS [([97, 114, 101, 97] : List UInt8), ([99, 111, 118, 101, 114] : List UInt8), ([102, 108, 111, 111, 114] : List UInt8), ([102, 108, 111, 111, 114, 115] : List UInt8), ([104, 101, 105, 103, 104, 116] : List UInt8), ([104, 111, 109, 101, 115] : List UInt8), ([114, 117, 110, 111, 102, 102] : List UInt8), ([115, 101, 116, 98, 97, 99, 107] : List UInt8), ([116, 114, 97, 102, 102, 105, 99] : List UInt8)]))]) [1] rfl kr kr) ?_))
 refine v_to ((0, .vs 1 (mS [([97, 114, 101, 97] : List UInt8), ([99, 111, 118, 101, 114] : List UInt8), ([102, 108, 111, 111, 114] : List UInt8), ([102, 108, 111, 111, 114, 115] : List UInt8), ([104, 101, 105, 103, 104, 116] : List UInt8), ([104, 111, 109, 101, 115] : List UInt8), ([114, 117, 110, 111, 102, 102] : List UInt8), ([115, 101, 116, 98, 97, 99, 107] : List UInt8), ([116, 114, 97, 102, 102, 105, 99] : List UInt8)])) :: _) _ (cut_view (R := [(1, .row 9 1 (((mS [([97, 114, 101, 97] : List UInt8), ([99, 111, 118, 101, 114] : List UInt8), ([102, 108, 111, 111, 114] : List UInt8), ([102, 108, 111, 111, 114, 115] : List UInt8), ([104, 101, 105, 103, 104, 116] : List UInt8), ([104, 111, 109, 101, 115] : List UInt8), ([114, 117, 110, 111, 102, 102] : List UInt8), ([115, 101, 116, 98, 97, 99, 107] : List UInt8), ([116, 114, 97, 102, 102, 105, 99] : List UInt8)])).length) (mS [([97, 114, 101, 97] : List UInt8), ([99, 111, 118, 101, 114] : List UInt8), ([102, 108, 111, 111, 114] : List UInt8), ([102, 108, 111, 111, 114, 115] : List UInt8), ([104, 101, 105, 103, 104, 116] : List UInt8), ([104, 111, 109, 101, 115] : List UInt8), ([114, 117, 110, 111, 102, 102] : List UInt8), ([115, 101, 116, 98, 97, 99, 107] : List UInt8), ([116, 114, 97, 102, 102, 105, 99] : List UInt8)]))]) (ks := [1]) kr kr (.row (t := 9) (fz := (((mS [([97, 114, 101, 97] : List UInt8), ([99, 111, 118, 101, 114] : List UInt8), ([102, 108, 111, 111, 114] : List UInt8), ([102, 108, 111, 111, 114, 115] : List UInt8), ([104, 101, 105, 103, 104, 116] : List UInt8), ([104, 111, 109, 101, 115] : List UInt8), ([114, 117, 110, 111, 102, 102] : List UInt8), ([115, 101, 116, 98, 97, 99, 107] : List UInt8), ([116, 114, 97, 102, 102, 105, 99] : List UInt8)])).length)) kr (by first | (simp only [List.length_map, List.length_set, cpyT_length]; done) | rfl))) ?_
 refine v_ret ?_
 obtain rfl := si hs
 exact fin_ret kr kr kr
theorem w_define_names (e : Expr) (r : Int × Int × (List UInt8) × (List UInt8) × (List Expr)) (hs : s_define_names e = some r) : FnA Try.prog 42 [.agg (enc_Expr e)] [] (.fn 59 [] [.ptr 1 0 0]) [(1, .box 44 [.int .i64 r.1, .int .i64 r.2.1, .str r.2.2.1, .str r.2.2.2.1, .vs 5 (encs_Expr r.2.2.2.2)])] := by
 refine fnA_of_wp (N := 4) Try.func42 rfl rfl rfl fun cK0 => ?_
 unfold s_define_names at hs
 refine v_same (ρ' := [(0, .agg (enc_Expr e))]) rfl rfl ?_
 refine vS (vT (o_runh 2 [(2, .nilf), (1, .ptr 1 0 0)] [(1, .box 44 (enc_Expr e))] kr ?_))
 refine oN (nT (vS (vT (oR 2 [(2, .fn 59 [] [.ptr 1 0 0]), (3, .fn 59 [] [.ptr 1 0 0])] kr ?_))))
 refine oN (nT (v_ret ?_))
 obtain rfl := si hs
 exact fin_ret kr kr kr
theorem w_maps_Keys (m_ : (List ((List UInt8) × Bool))) (r : Unit) (hs : s_maps_Keys m_ = some r) : FnA Try.prog 44 [.mp 1000000] [(1000000, .map (encM V.str V.bool m_))] (.fn 62 [] [.ptr 1 0 0]) [(1, .box 67 [.mp 1000000]), (1000000, .map (encM V.str V.bool m_))] := by
 refine fnA_of_wp (N := 4) Try.func44 rfl rfl rfl fun cK0 => ?_
 unfold s_maps_Keys at hs
 refine v_same (ρ' := [(0, .mp 1000000)]) rfl rfl ?_
 refine vS (vT (o_runh 2 [(2, .nilf), (1, .ptr 1 0 0)] [(1, .box 67 [.mp 1000000]), (1000000, .map (encM V.str V.bool m_))] kr ?_))
 refine oN (nT (vS (vT (oR 2 [(2, .fn 62 [] [.ptr 1 0 0]), (3, .fn 62 [] [.ptr 1 0 0])] kr ?_))))
 refine oN (nT (v_ret ?_))
 obtain rfl := si hs
 exact fin_ret kr kr kr
theorem w_define_Names (e : Expr) (r : (List (List UInt8))) (hs : s_define_Names e = some r) : FnA Try.prog 17 [.agg (enc_Expr e)] [] (.vs 1 (mS r)) [] := by
 refine fnA_of_wp (N := 14) Try.func17 rfl rfl rfl fun cK0 => ?_
 unfold s_define_Names at hs
 refine v_same (ρ' := [(0, .agg (enc_Expr e))]) rfl rfl ?_
 refine vS (vT (o_runh 2 [(2, .nils), (1, .ptr 1 0 0)] [(1, .box 44 (enc_Expr e))] kr ?_))
 refine oN (nT (vS (vT (o_runh 3 [(3, .ptr 3 0 0), (5, .mp 5)] [(3, .box 67 [.mp 5]), (5, .map (encM V.str V.bool [])), (1, .box 44 (enc_Expr e))] kr ?_))))
 refine oN (nT (vS (vS (vT (oR 1 [(6, .agg (enc_Expr e))] kr ?_)))))
 obtain ⟨y1, c1, hs⟩ := bS hs
 refine o_loc (F := []) (F' := [(3000700, .box 44 [.int .i64 y1.1, .int .i64 y1.2.1, .str y1.2.2.1, .str y1.2.2.2.1, .vs 5 (encs_Expr y1.2.2.2.2)])]) (v := .fn 59 [] [.ptr 3000700 0 0]) [] kr kr rfl kr (loc_g (R := []) [.agg (enc_Expr e)] [(1, 3000700)] (callV_func hbv42 kr) (w_define_names e _ c1) (.cons (.same _) (.nil)) kr kr kr kr kr kr kr kr) kr ?_
 refine oN (nT ?_)
 obtain ⟨z1, hs, hk1⟩ := bS hs
 refine v_join (S := (List ((List UInt8) × Bool))) (fun u => u = z1) (fun u => [(3, .ptr 3 0 0)]) (fun u => [(3, .box 67 [.mp 5]), (5, .map (encM V.str V.bool u))]) ?_ (fun v1 hz => ?_)
 ·refine vB (v_to [(3, .ptr 3 0 0), (7, .fn 59 [] [.ptr 3000700 0 0])] [(3000700, .box 44 [.int .i64 y1.1, .int .i64 y1.2.1, .str y1.2.2.1, .str y1.2.2.2.1, .vs 5 (encs_Expr y1.2.2.2.2)]), (3, .box 67 [.mp 5]), (5, .map (encM V.str V.bool []))] (cut_of [3, 7] [3000700, 3, 5] kr kr kr) ?_)
  refine v_rangeF (Sg := (List ((List UInt8) × Bool))) (enc := V.str) (val := (fun s : List UInt8 => Value.string ⟨s.toArray⟩)) (caps := [.ptr 3000700 0 0]) (F := [(3000700, .box 44 [.int .i64 y1.1, .int .i64 y1.2.1, .str y1.2.2.1, .str y1.2.2.2.1, .vs 5 (encs_Expr y1.2.2.2.2)])]) [3000700] (fun u => [(3000700, .box 44 [.int .i64 y1.1, .int .i64 y1.2.1, .str y1.2.2.1, .str y1.2.2.2.1, .vs 5 (encs_Expr y1.2.2.2.2)]), (3, .box 67 [.mp 5]), (5, .map (encM V.str V.bool u))]) s_define_Names_L1 [] kr hbv59 (iter_names 3000700 (Expr.mk y1.1 y1.2.1 y1.2.2.1 y1.2.2.2.1 y1.2.2.2.2)) kr kr (fun _ _ _ => rfl) hs (fun _ => by kernel_rfl) kr (fun lR1 x1 xs1 q1 cR1 hs => ?_) (fun q1 hs => ?_)
  ·rw [s_define_Names_L1] at hs
   show WpV cR1 Try.prog (some lR1) 14 _ _ [(4, .str x1), (8, .str x1), (3, .ptr 3 0 0), (7, .fn 59 [] [.ptr 3000700 0 0])] [(3000700, .box 44 [.int .i64 y1.1, .int .i64 y1.2.1, .str y1.2.2.1, .str y1.2.2.2.1, .vs 5 (encs_Expr y1.2.2.2.2)]), (3, .box 67 [.mp 5]), (5, .map (encM V.str V.bool q1))] []
   refine vB (vT (oR 2 [(10, .str x1), (9, .mp 5)] kr ?_))
   refine o_loc (F := [(5, .map (encM V.str V.bool q1))]) (F' := [(5, .map (encM V.str V.bool (mset x1 true q1)))]) (v := .no) [5] kr kr rfl kr (loc_mapUpdate (et := 4) (f := V.str) (g := V.bool) (l := q1) (a := x1) (c := true) kr kok9 kr kr kr kr kr) kr ?_
   refine oN (nB (nrm_round (mset x1 true q1) hs ?_))
   exact cut_of [] [3000700, 3, 5] kr kr kr
  ·rw [s_define_Names_L1] at hs
   refine nB ?_
   obtain rfl := si hs
   refine nrm_join q1 rfl ?_
   exact cut_of [3] [3, 5] kr kr kr
 ·subst hz; clear hs; have hs := hk1; clear hk1
  refine nT (vS (vT (oR 1 [(11, .mp 5)] kr ?_)))
  obtain ⟨y2, c2, hs⟩ := bS hs
  refine o_loc (F := [(5, .map (encM V.str V.bool v1))]) (F' := [(3001200, .box 67 [.mp 5]), (5, .map (encM V.str V.bool v1))]) (v := .fn 62 [] [.ptr 3001200 0 0]) [5] kr kr rfl kr (loc_g (R := []) [.mp 5] [(1000000, 5), (1, 3001200)] (callV_func hbv44 kr) (w_maps_Keys v1 _ c2) (.cons (.same _) (.nil)) kr kr kr kr kr kr kr kr) kr ?_
  obtain ⟨_, g1, hs⟩ := bS hs; replace g1 := grd_some g1
  refine o_loc (F := [(3001200, .box 67 [.mp 5]), (5, .map (encM V.str V.bool v1))]) (F' := [(3001200, .box 67 [.mp 5]), (5, .map (encM V.str V.bool v1))]) (v := .vs 1 (mS (sortKeys v1))) [3001200, 5] kr kr rfl kr (loc_g (R := []) [.fn 62 [] [.ptr 3001200 0 0]] [(1000000, 3001200), (1000001, 5)] (callV_func hbv43 kr) (w_sorted_keys v1 g1) (.cons (.same _) .nil) kr kr kr kr kr kr kr kr) kr ?_
  refine oR 1 [(2, .vs 1 (mS (sortKeys v1)))] kr ?_
  refine oN (nT (v_ret ?_))
  obtain rfl := si hs
  exact fin_ret kr kr kr
theorem w_define_newGraph (l : (List Def)) (r : (List Def) × (List (List Int))) (hs : s_define_newGraph l = some r) : FnA Try.prog 35 [.vs 6 (mM enc_Def l)] [] (.ptr 31 0 0) [(31, .box 99 [.vs 6 (mM enc_Def r.1), .vs 1 (List.map (encL 1 EV.encI) r.2)])] := by
 refine fnA_of_wp (N := 73) Try.func35 rfl rfl rfl fun cK0 => ?_
 unfold s_define_newGraph at hs
 refine v_same (ρ' := [(0, .vs 6 (mM enc_Def l))]) rfl rfl ?_
 refine vS (vT (oR 1 [(2, .nilp)] kr ?_))
 refine oN (nT (vS (vT (o_runh 2 [(3, .mp 13), (13, .mp 13)] [(13, .map (encM V.str (V.int .i64) []))] kr ?_))))
 refine oN (nT (vS (vS (vT (oR 1 [(14, .vs 6 (mM enc_Def l))] kr ?_)))))
 refine oP (v := .int .i64 (List.length l : Int)) kr kr (loc_lenVs (sz := 6) (els := (mM enc_Def l)) kr kr (List.length_map ..)) ?_
 refine oR 1 [(16, .int .i64 0)] kr ?_
 refine oN (nT ?_)
 obtain ⟨z1, hs, hk1⟩ := bS hs
 refine v_join (S := (List ((List UInt8) × Int))) (fun u => u = z1) (fun u => [(0, .vs 6 (mM enc_Def l)), (3, .mp 13)]) (fun u => [(13, .map (encM V.str (V.int .i64) u))]) ?_ (fun v1 hz => ?_)
 ·refine vB ?_
  refine v_fuel (S := Int × (List ((List UInt8) × Int))) (fun u => [(0, .vs 6 (mM enc_Def l)), (3, .mp 13), (14, .vs 6 (mM enc_Def l)), (15, .int .i64 (List.length l : Int)), (16, .int .i64 u.1)]) (fun u => [(13, .map (encM V.str (V.int .i64) u.2))]) (s_define_newGraph_L1 l) (fun _ => rfl) KK (0, []) hs (cut_of [0, 3, 14, 15, 16] [13] kr kr kr) (fun K1 q1 hs => ?_)
  rw [s_define_newGraph_L1] at hs
  show WpV cK0 Try.prog none 73 _ _ [(0, .vs 6 (mM enc_Def l)), (3, .mp 13), (14, .vs 6 (mM enc_Def l)), (15, .int .i64 (List.length l : Int)), (16, .int .i64 q1.1)] [(13, .map (encM V.str (V.int .i64) q1.2))] []
  refine vS (vT (oR 1 [(17, .bool (decide (q1.1 < (List.length l : Int))))] kr ?_))
  refine oN (nT (vS ?_))
  refine v_cond (decide (q1.1 < (List.length l : Int))) kr (fun h1 => ?_) (fun h1 => ?_)
  ·replace hs := bif_t h1 hs
   refine vK (nT (vS (vB (vS (vT (oR 1 [(18, .int .i64 q1.1)] kr ?_))))))
   obtain ⟨x1, g1, hs⟩ := bS hs; obtain ⟨g1a, g1b, g1c⟩ := idx_some g1
   refine oP (v := .vp (enc_Def x1) 0) kr kr (loc_indexVs (e := 46) (sz := 6) (k := .i64) (els := (mM enc_Def l)) (cs := (enc_Def x1)) kr kr kr g1a (by rw [g1c]; exact map_get _ (by omega))) ?_
   refine o_runh 4 [(4, .int .i64 q1.1), (5, .ptr 5 0 0), (20, .agg (enc_Def x1))] [(5, .box 46 [.str x1.Name, .int .i64 x1.Body.Op, .int .i64 x1.Body.N, .str x1.Body.S, .str x1.Body.Key, .vs 5 (encs_Expr x1.Body.Args)]), (13, .map (encM V.str (V.int .i64) q1.2))] kr ?_
   refine oN (nT (vT (oR 4 [(24, .int .i64 q1.1), (23, .str x1.Name), (22, .ptr 5 0 0), (21, .mp 13)] kr ?_)))
   refine o_loc (F := [(13, .map (encM V.str (V.int .i64) q1.2))]) (F' := [(13, .map (encM V.str (V.int .i64) (mset x1.Name q1.1 q1.2)))]) (v := .no) [13] kr kr rfl kr (loc_mapUpdate (et := 3) (f := V.str) (g := (V.int .i64)) (l := q1.2) (a := x1.Name) (c := q1.1) kr kok9 kr kr kr kr kr) kr ?_
   refine oN (nB (nT (vT (oR 2 [(16, .int .i64 (w64 (q1.1 + 1))), (25, .int .i64 (w64 (q1.1 + 1)))] kr ?_))))
   refine oN (nrm_fuel ((w64 (q1.1 + 1)), (mset x1.Name q1.1 q1.2)) hs ?_)
   exact cut_of [0, 3, 14, 15, 16] [13] kr kr kr
  ·replace hs := bif_f h1 hs
   refine v_exit (exit_thenV (exit_fuel ?_))
   refine exit_blkV ?_
   obtain rfl := si hs
   refine nrm_join q1.2 rfl ?_
   exact cut_of [0, 3] [13] kr kr kr
 ·subst hz; clear hs; have hs := hk1; clear hk1
  refine nT (vS (vT (oR 2 [(27, .vs 6 (mM enc_Def l)), (26, .vs 6 (mM enc_Def l))] kr ?_)))
  refine oP (v := .int .i64 (List.length l : Int)) kr kr (loc_lenVs (sz := 6) (els := (mM enc_Def l)) kr kr (List.length_map ..)) ?_
  obtain ⟨⟨g2a, g2b, g2c⟩, hs⟩ := bG hs
  refine o_loc (F := []) (F' := [(29, .nest 33 3 1 none (encN EV.encI (List.replicate (Int.toNat (List.length l : Int)) ([] : List Int))))]) (v := .sl 1 29 0 0 (List.length (List.replicate (Int.toNat (List.length l : Int)) ([] : List Int)))) [] kr kr rfl kr (loc_makeNestT EV.encI (d := 29) (e := 33) (e2 := 3) (sz2 := 1) (bytes := 24) (L := (List.length (List.replicate (Int.toNat (List.length l : Int)) ([] : List Int)))) (q := (List.length l : Int)) (k := .i64) (k2 := .i64) kr kr kr kr g2a g2b g2c (List.length_replicate ..) kr) kr ?_
  refine o_runh 3 [(6, .ptr 31 0 0), (31, .ptr 31 0 0), (30, .agg [.vs 6 (mM enc_Def l), .sl 1 29 0 0 (List.length (List.replicate (Int.toNat (List.length l : Int)) ([] : List Int)))])] [(31, .box 99 [.vs 6 (mM enc_Def l), .sl 1 29 0 0 (List.length (List.replicate (Int.toNat (List.length l : Int)) ([] : List Int)))]), (29, .nest 33 3 1 none (encN EV.encI (List.replicate (Int.toNat (List.length l : Int)) ([] : List Int)))), (13, .map (encM V.str (V.int .i64) v1))] kr ?_
  refine oN (nT (vS (vS (vT (oR 1 [(32, .vs 6 (mM enc_Def l))] kr ?_)))))
  refine oP (v := .int .i64 (List.length l : Int)) kr kr (loc_lenVs (sz := 6) (els := (mM enc_Def l)) kr kr (List.length_map ..)) ?_
  refine oR 1 [(34, .int .i64 0)] kr ?_
  refine oN (nT ?_)
  obtain ⟨z2, hs, hk2⟩ := bS hs
  refine v_join (S := (List (List Int))) (fun u => u = z2) (fun u => [(6, .ptr 31 0 0)]) (fun u => [(31, .box 99 [.vs 6 (mM enc_Def l), .sl 1 29 0 0 (List.length u)]), (29, .nest 33 3 1 none (encN EV.encI u))]) ?_ (fun v2 hz => ?_)
  ·refine vB ?_
   refine v_fuel (S := Int × (List (List Int))) (fun u => [(3, .mp 13), (6, .ptr 31 0 0), (32, .vs 6 (mM enc_Def l)), (33, .int .i64 (List.length l : Int)), (34, .int .i64 u.1)]) (fun u => [(31, .box 99 [.vs 6 (mM enc_Def l), .sl 1 29 0 0 (List.length u.2)]), (29, .nest 33 3 1 none (encN EV.encI u.2)), (13, .map (encM V.str (V.int .i64) v1))]) (s_define_newGraph_L2 l v1) (fun _ => rfl) KK (0, (List.replicate (Int.toNat (List.length l : Int)) ([] : List Int))) hs (cut_of [3, 6, 32, 33, 34] [31, 29, 13] kr kr kr) (fun K2 q2 hs => ?_)
   rw [s_define_newGraph_L2] at hs
   show WpV cK0 Try.prog none 73 _ _ [(3, .mp 13), (6, .ptr 31 0 0), (32, .vs 6 (mM enc_Def l)), (33, .int .i64 (List.length l : Int)), (34, .int .i64 q2.1)] [(31, .box 99 [.vs 6 (mM enc_Def l), .sl 1 29 0 0 (List.length q2.2)]), (29, .nest 33 3 1 none (encN EV.encI q2.2)), (13, .map (encM V.str (V.int .i64) v1))] []
   refine vS (vT (oR 1 [(35, .bool (decide (q2.1 < (List.length l : Int))))] kr ?_))
   refine oN (nT (vS ?_))
   refine v_cond (decide (q2.1 < (List.length l : Int))) kr (fun h2 => ?_) (fun h2 => ?_)
   ·replace hs := bif_t h2 hs
    refine vK (nT (vS (vB (vS (vT (oR 1 [(36, .int .i64 q2.1)] kr ?_))))))
    obtain ⟨x2, g3, hs⟩ := bS hs; obtain ⟨g3a, g3b, g3c⟩ := idx_some g3
    refine oP (v := .vp (enc_Def x2) 0) kr kr (loc_indexVs (e := 46) (sz := 6) (k := .i64) (els := (mM enc_Def l)) (cs := (enc_Def x2)) kr kr kr g3a (by rw [g3c]; exact map_get _ (by omega))) ?_
    refine o_runh 4 [(7, .int .i64 q2.1), (8, .ptr 8 0 0), (38, .agg (enc_Def x2))] [(8, .box 46 [.str x2.Name, .int .i64 x2.Body.Op, .int .i64 x2.Body.N, .str x2.Body.S, .str x2.Body.Key, .vs 5 (encs_Expr x2.Body.Args)]), (31, .box 99 [.vs 6 (mM enc_Def l), .sl 1 29 0 0 (List.length q2.2)]), (29, .nest 33 3 1 none (encN EV.encI q2.2)), (13, .map (encM V.str (V.int .i64) v1))] kr ?_
    refine oN (nT (vS (vT (oR 2 [(40, .agg (enc_Expr x2.Body)), (39, .ptr 8 0 1)] kr ?_))))
    obtain ⟨y1, c1, hs⟩ := bS hs
    refine oP (v := .vs 1 (mS y1)) kr kr (loc_gcall0 (callV_func hbv17 kr) (w_define_Names x2.Body _ c1) kr) ?_
    refine oP (v := .int .i64 (List.length y1 : Int)) kr kr (loc_lenVs (sz := 1) (els := (mS y1)) kr kr (List.length_map ..)) ?_
    refine oR 1 [(43, .int .i64 0)] kr ?_
    refine oN (nT ?_)
    obtain ⟨z3, hs, hk3⟩ := bS hs
    refine v_join (S := (List (List Int))) (fun u => u = z3) (fun u => [(3, .mp 13), (6, .ptr 31 0 0), (32, .vs 6 (mM enc_Def l)), (33, .int .i64 (List.length l : Int)), (34, .int .i64 q2.1)]) (fun u => [(31, .box 99 [.vs 6 (mM enc_Def l), .sl 1 29 0 0 (List.length u)]), (29, .nest 33 3 1 none (encN EV.encI u)), (13, .map (encM V.str (V.int .i64) v1))]) ?_ (fun v3 hz => ?_)
    ·refine vB ?_
     refine v_fuel (S := Int × (List (List Int))) (fun u => [(3, .mp 13), (6, .ptr 31 0 0), (7, .int .i64 q2.1), (32, .vs 6 (mM enc_Def l)), (33, .int .i64 (List.length l : Int)), (34, .int .i64 q2.1), (41, .vs 1 (mS y1)), (42, .int .i64 (List.length y1 : Int)), (43, .int .i64 u.1)]) (fun u => [(31, .box 99 [.vs 6 (mM enc_Def l), .sl 1 29 0 0 (List.length u.2)]), (29, .nest 33 3 1 none (encN EV.encI u.2)), (13, .map (encM V.str (V.int .i64) v1))]) (s_define_newGraph_L3 v1 y1 q2) (fun _ => rfl) KK (0, q2.2) hs (cut_of [3, 6, 7, 32, 33, 34, 41, 42, 43] [31, 29, 13] kr kr kr) (fun K3 q3 hs => ?_)
     rw [s_define_newGraph_L3] at hs
     show WpV cK0 Try.prog none 73 _ _ [(3, .mp 13), (6, .ptr 31 0 0), (7, .int .i64 q2.1), (32, .vs 6 (mM enc_Def l)), (33, .int .i64 (List.length l : Int)), (34, .int .i64 q2.1), (41, .vs 1 (mS y1)), (42, .int .i64 (List.length y1 : Int)), (43, .int .i64 q3.1)] [(31, .box 99 [.vs 6 (mM enc_Def l), .sl 1 29 0 0 (List.length q3.2)]), (29, .nest 33 3 1 none (encN EV.encI q3.2)), (13, .map (encM V.str (V.int .i64) v1))] []
     refine vS (vT (oR 1 [(44, .bool (decide (q3.1 < (List.length y1 : Int))))] kr ?_))
     refine oN (nT (vS ?_))
     refine v_cond (decide (q3.1 < (List.length y1 : Int))) kr (fun h3 => ?_) (fun h3 => ?_)
     ·replace hs := bif_t h3 hs
      refine vK (nT (vS (vB (vS (vT ?_)))))
      obtain ⟨x3, g4, hs⟩ := bS hs; obtain ⟨g4a, g4b, g4c⟩ := idx_some g4
      refine oP (v := .vp [.str x3] 0) kr kr (loc_indexVs (e := 9) (sz := 1) (k := .i64) (els := (mS y1)) (cs := (EV.encS x3)) kr kr kr g4a (by rw [g4c]; exact map_get _ (by omega))) ?_
      refine oR 2 [(10, .str x3), (46, .str x3)] kr ?_
      refine oN (nT (vS (vT (oR 2 [(49, .str x3), (48, .mp 13)] kr ?_))))
      refine o_loc (F := [(13, .map (encM V.str (V.int .i64) v1))]) (F' := [(13, .map (encM V.str (V.int .i64) v1))]) (v := .tup [.int .i64 (Option.getD (mfind x3 v1) 0), .bool (Option.isSome (mfind x3 v1))]) [13] kr kr rfl kr (loc_lookup (et := 3) (f := V.str) (g := (V.int .i64)) (l := v1) (a := x3) (z := 0) (zv := .int .i64 0) true kr kok9 kr (fun _ _ _ h => h) kr kr) kr ?_
      refine oR 5 [(12, .bool (Option.isSome (mfind x3 v1))), (11, .int .i64 (Option.getD (mfind x3 v1) 0)), (52, .bool (Option.isSome (mfind x3 v1))), (51, .int .i64 (Option.getD (mfind x3 v1) 0)), (47, .tup [.int .i64 (Option.getD (mfind x3 v1) 0), .bool (Option.isSome (mfind x3 v1))])] kr ?_
      refine oN (nT (vS (vT (oR 1 [(53, .bool (Option.isSome (mfind x3 v1)))] kr ?_))))
      refine oN (nT ?_)
      obtain ⟨z4, hs, hk4⟩ := bS hs
      refine v_join (S := (List (List Int))) (fun u => u = z4) (fun u => [(3, .mp 13), (6, .ptr 31 0 0), (7, .int .i64 q2.1), (32, .vs 6 (mM enc_Def l)), (33, .int .i64 (List.length l : Int)), (34, .int .i64 q2.1), (41, .vs 1 (mS y1)), (42, .int .i64 (List.length y1 : Int)), (43, .int .i64 q3.1)]) (fun u => [(29, .nest 33 3 1 none (encN EV.encI u)), (13, .map (encM V.str (V.int .i64) v1)), (31, .box 99 [.vs 6 (mM enc_Def l), .sl 1 29 0 0 (List.length u)])]) ?_ (fun v4 hz => ?_)
      ·refine v_cond (Option.isSome (mfind x3 v1)) kr (fun h4 => ?_) (fun h4 => ?_)
       ·replace hs := bif_t h4 hs
        refine v_draw mixedH kr ?_
        refine d_runs 10 0 [(63, .int .i64 q2.1), (62, .sl 1 29 0 0 (List.length q3.2)), (61, .ptr 31 0 1), (60, .ptr 31 0 0), (59, .ptr 31 0 0), (58, .int .i64 q2.1), (57, .sl 1 29 0 0 (List.length q3.2)), (56, .ptr 31 0 1), (55, .ptr 31 0 0), (54, .ptr 31 0 0)] [⟨9, [], []⟩, ⟨8, [], [31]⟩, ⟨7, [], []⟩, ⟨6, [], []⟩, ⟨5, [], []⟩, ⟨4, [], []⟩, ⟨3, [], [31]⟩, ⟨2, [], []⟩, ⟨1, [], []⟩, ⟨0, [], []⟩] kr kr ?_
        obtain ⟨⟨g5a, g5b⟩, hs⟩ := bG hs
        refine d_pure (v := .ptr 29 0 ((Int.toNat q2.1) * 1 + 0)) 10 rfl rfl rfl rfl kr kr (loc_indexRowT (e := 33) (sz := 1) (kk := 29) (L := 0) (n := (List.length q3.2)) (k := .i64) (i := q2.1) kr kr kr g5a g5b) ?_
        obtain ⟨e1, he1, hs⟩ := bE hs
        refine d_loc (F := []) (R := [(29, .nest 33 3 1 none (encN EV.encI q3.2))]) (F' := []) (v := hdN 1 29 (Int.toNat q2.1) (mI e1)) 11 [] [29] rfl rfl rfl rfl kr kr kr kr kr kr kr kr (loc_loadNestT EV.encI (et := 33) (e2 := 3) (sz2 := 1) (k := 29) (i := (Int.toNat q2.1)) (p := q3.2) (l := e1) kr (by omega) he1 kr) ?_
        refine d_runh 2 12 [(67, .sl 1 67 1 0 1), (66, .int .i64 (Option.getD (mfind x3 v1) 0))] [(67, .row 3 1 0 (mI [(Option.getD (mfind x3 v1) 0)])), (13, .map (encM V.str (V.int .i64) v1)), (31, .box 99 [.vs 6 (mM enc_Def l), .sl 1 29 0 0 (List.length q3.2)]), (29, .nest 33 3 1 none (encN EV.encI q3.2))] [⟨13, [67], []⟩, ⟨12, [], []⟩] kr kr ?_
        obtain ⟨_, g6, hs⟩ := bS hs; replace g6 := grd_some g6
        refine d_loc (F := [(29, .nest 33 3 1 none (encN EV.encI q3.2))]) (R := [(67, .row 3 1 0 (mI [(Option.getD (mfind x3 v1) 0)]))]) (F' := [(29, .nest 33 3 1 (some (Int.toNat q2.1)) (encN EV.encI (List.set q3.2 (Int.toNat q2.1) (e1 ++ [(Option.getD (mfind x3 v1) 0)]))))]) (v := .sl 1 29 (code (Int.toNat q2.1) (List.length (e1 ++ [(Option.getD (mfind x3 v1) 0)]))) 0 (List.length (e1 ++ [(Option.getD (mfind x3 v1) 0)]))) 14 [29] [67] rfl rfl rfl rfl kr kr kr kr kr kr kr kr (loc_appendNestT EV.encI (et := 33) (e := 3) (sz := 1) (bytes := 8) (k := 29) (i := (Int.toNat q2.1)) (n := (List.length (e1 ++ [(Option.getD (mfind x3 v1) 0)]))) (p := q3.2) (l := e1) (ys := [(Option.getD (mfind x3 v1) 0)]) kr kr (by omega) (by assumption) (.sl (t := 3) (fz := 0) (ys := (mI [(Option.getD (mfind x3 v1) 0)])) kr kr) (map_ones EV.encI (fun _ => rfl) _) (map_lens EV.encI (fun _ => rfl) _) kr kr rfl g6 (by omega)) ?_
        obtain ⟨⟨g7a, g7b⟩, hs⟩ := bG hs
        refine d_pure (v := .ptr 29 0 ((Int.toNat q2.1) * 1 + 0)) 15 rfl rfl rfl rfl kr kr (loc_indexRowT (e := 33) (sz := 1) (kk := 29) (L := 0) (n := (List.length q3.2)) (k := .i64) (i := q2.1) kr kr kr g7a g7b) ?_
        refine d_loc (F := [(29, .nest 33 3 1 (some (Int.toNat q2.1)) (encN EV.encI (List.set q3.2 (Int.toNat q2.1) (e1 ++ [(Option.getD (mfind x3 v1) 0)]))))]) (R := []) (F' := [(29, .nest 33 3 1 none (encN EV.encI (List.set q3.2 (Int.toNat q2.1) (e1 ++ [(Option.getD (mfind x3 v1) 0)]))))]) (v := .no) 16 [29] [] rfl rfl rfl rfl kr kr kr kr kr kr kr kr (loc_storeNestT EV.encI (et := 33) (e := 3) (sz := 1) (k := 29) (i := (Int.toNat q2.1)) (n := (List.length (e1 ++ [(Option.getD (mfind x3 v1) 0)]))) (p := q3.2) (l := (e1 ++ [(Option.getD (mfind x3 v1) 0)])) kr (by first | omega | (simp only [List.length_set, cpyT_length]; omega)) kr rfl (by simp) kr) ?_
        refine d_nil kr ?_
        obtain rfl := si hs
        refine nrm_join (List.set q3.2 (Int.toNat q2.1) (e1 ++ [(Option.getD (mfind x3 v1) 0)])) rfl ?_
        exact Cut.trans (cut_same (H1 := [(29, .nest 33 3 1 none (encN EV.encI (List.set q3.2 (Int.toNat q2.1) (e1 ++ [(Option.getD (mfind x3 v1) 0)])))), (67, .row 3 1 0 (mI [(Option.getD (mfind x3 v1) 0)])), (13, .map (encM V.str (V.int .i64) v1)), (31, .box 99 [.vs 6 (mM enc_Def l), .sl 1 29 0 0 (List.length q3.2)])]) rfl kr) (Cut.trans (cut_same (H1 := [(29, .nest 33 3 1 none (encN EV.encI (List.set q3.2 (Int.toNat q2.1) (e1 ++ [(Option.getD (mfind x3 v1) 0)])))), (67, .row 3 1 0 (mI [(Option.getD (mfind x3 v1) 0)])), (13, .map (encM V.str (V.int .i64) v1)), (31, .box 99 [.vs 6 (mM enc_Def l), .sl 1 29 0 0 (List.length (List.set q3.2 (Int.toNat q2.1) (e1 ++ [(Option.getD (mfind x3 v1) 0)])))])]) rfl (by first | (simp only [List.length_set, cpyT_length]; done) | rfl)) (cut_of [3, 6, 7, 32, 33, 34, 41, 42, 43] [29, 13, 31] kr kr kr))
       ·replace hs := bif_f h4 hs
        refine vK ?_
        obtain rfl := si hs
        refine nrm_join q3.2 rfl ?_
        exact cut_of [3, 6, 7, 32, 33, 34, 41, 42, 43] [29, 13, 31] kr kr kr
      ·subst hz; clear hs; have hs := hk4; clear hk4
       refine nB (nT (vT (oR 2 [(43, .int .i64 (w64 (q3.1 + 1))), (70, .int .i64 (w64 (q3.1 + 1)))] kr ?_)))
       refine oN (nrm_fuel ((w64 (q3.1 + 1)), v4) hs ?_)
       exact cut_of [3, 6, 7, 32, 33, 34, 41, 42, 43] [31, 29, 13] kr kr kr
     ·replace hs := bif_f h3 hs
      refine v_exit (exit_thenV (exit_fuel ?_))
      refine exit_blkV ?_
      obtain rfl := si hs
      refine nrm_join q3.2 rfl ?_
      exact cut_of [3, 6, 32, 33, 34] [31, 29, 13] kr kr kr
    ·subst hz; clear hs; have hs := hk3; clear hk3
     refine nB (nT (vT (oR 2 [(34, .int .i64 (w64 (q2.1 + 1))), (71, .int .i64 (w64 (q2.1 + 1)))] kr ?_)))
     refine oN (nrm_fuel ((w64 (q2.1 + 1)), v3) hs ?_)
     exact cut_of [3, 6, 32, 33, 34] [31, 29, 13] kr kr kr
   ·replace hs := bif_f h2 hs
    refine v_exit (exit_thenV (exit_fuel ?_))
    refine exit_blkV ?_
    obtain rfl := si hs
    refine nrm_join q2.2 rfl ?_
    exact cut_of [6] [31, 29] kr kr kr
  ·subst hz; clear hs; have hs := hk2; clear hk2
   refine nT (vS (vT (oR 2 [(2, .ptr 31 0 0), (72, .ptr 31 0 0)] kr ?_)))
   refine oN (nT (v_to _ [(29, .nest 33 3 1 (some 0) []), (31, .box 99 [.vs 6 (mM enc_Def l), .vs 1 (List.map (encL 1 EV.encI) v2)])] (cut_nest (k := 29) (t := 33) (e := 3) (sz := 1) (n := (List.length v2)) (kb := 31) (tb := 99) (ls := encN EV.encI v2) (cs := [.vs 6 (mM enc_Def l), .sl 1 29 0 0 (List.length v2)]) (cs' := [.vs 6 (mM enc_Def l), .vs 1 (List.map (encL 1 EV.encI) v2)]) kr kr (.same (.nest (encN_len EV.encI v2) (rowsN_encN EV.encI 1 v2) (.nil))) kr) ?_))
   refine v_ret ?_
   obtain rfl := si hs
   exact fin_ret kr kr kr
theorem w_bits_Mul64 (x : Int) (y : Int) (r : Int × Int) (hs : s_bits_Mul64 x y = some r) : FnA Try.prog 111 [.int .u64 x, .int .u64 y] [] (.tup [.int .u64 r.1, .int .u64 r.2]) [] := by
 refine fnA_of_wp (N := 51) Try.func111 rfl rfl rfl fun cK0 => ?_
 unfold s_bits_Mul64 at hs
 refine v_same (ρ' := [(0, .int .u64 x), (1, .int .u64 y)]) rfl rfl ?_
 refine vS (vT (oR 2 [(5, .int .u64 0), (4, .int .u64 0)] kr ?_))
 refine oN (nT (vS (vT (oR 3 [(6, .int .u64 (uw ((BitVec.ofInt ub x &&& BitVec.ofInt ub 4294967295).toNat : Int))), (15, .int .u64 (uw ((BitVec.ofInt ub x &&& BitVec.ofInt ub 4294967295).toNat : Int))), (14, .int .u64 x)] kr ?_))))
 refine oN (nT (vS (vT (oR 3 [(7, .int .u64 (Int.fdiv x (2 ^ (min (32 : Int).toNat ub)))), (17, .int .u64 (Int.fdiv x (2 ^ (min (32 : Int).toNat ub)))), (16, .int .u64 x)] kr ?_))))
 refine oN (nT (vS (vT (oR 3 [(8, .int .u64 (uw ((BitVec.ofInt ub y &&& BitVec.ofInt ub 4294967295).toNat : Int))), (19, .int .u64 (uw ((BitVec.ofInt ub y &&& BitVec.ofInt ub 4294967295).toNat : Int))), (18, .int .u64 y)] kr ?_))))
 refine oN (nT (vS (vT (oR 3 [(9, .int .u64 (Int.fdiv y (2 ^ (min (32 : Int).toNat ub)))), (21, .int .u64 (Int.fdiv y (2 ^ (min (32 : Int).toNat ub)))), (20, .int .u64 y)] kr ?_))))
 refine oN (nT (vS (vT (oR 4 [(10, .int .u64 (uw ((uw ((BitVec.ofInt ub x &&& BitVec.ofInt ub 4294967295).toNat : Int)) * (uw ((BitVec.ofInt ub y &&& BitVec.ofInt ub 4294967295).toNat : Int))))), (24, .int .u64 (uw ((uw ((BitVec.ofInt ub x &&& BitVec.ofInt ub 4294967295).toNat : Int)) * (uw ((BitVec.ofInt ub y &&& BitVec.ofInt ub 4294967295).toNat : Int))))), (23, .int .u64 (uw ((BitVec.ofInt ub y &&& BitVec.ofInt ub 4294967295).toNat : Int))), (22, .int .u64 (uw ((BitVec.ofInt ub x &&& BitVec.ofInt ub 4294967295).toNat : Int)))] kr ?_))))
 refine oN (nT (vS (vT (oR 7 [(11, .int .u64 (uw ((uw ((Int.fdiv x (2 ^ (min (32 : Int).toNat ub))) * (uw ((BitVec.ofInt ub y &&& BitVec.ofInt ub 4294967295).toNat : Int)))) + (Int.fdiv (uw ((uw ((BitVec.ofInt ub x &&& BitVec.ofInt ub 4294967295).toNat : Int)) * (uw ((BitVec.ofInt ub y &&& BitVec.ofInt ub 4294967295).toNat : Int)))) (2 ^ (min (32 : Int).toNat ub)))))), (30, .int .u64 (uw ((uw ((Int.fdiv x (2 ^ (min (32 : Int).toNat ub))) * (uw ((BitVec.ofInt ub y &&& BitVec.ofInt ub 4294967295).toNat : Int)))) + (Int.fdiv (uw ((uw ((BitVec.ofInt ub x &&& BitVec.ofInt ub 4294967295).toNat : Int)) * (uw ((BitVec.ofInt ub y &&& BitVec.ofInt ub 4294967295).toNat : Int)))) (2 ^ (min (32 : Int).toNat ub)))))), (29, .int .u64 (Int.fdiv (uw ((uw ((BitVec.ofInt ub x &&& BitVec.ofInt ub 4294967295).toNat : Int)) * (uw ((BitVec.ofInt ub y &&& BitVec.ofInt ub 4294967295).toNat : Int)))) (2 ^ (min (32 : Int).toNat ub)))), (28, .int .u64 (uw ((uw ((BitVec.ofInt ub x &&& BitVec.ofInt ub 4294967295).toNat : Int)) * (uw ((BitVec.ofInt ub y &&& BitVec.ofInt ub 4294967295).toNat : Int))))), (27, .int .u64 (uw ((Int.fdiv x (2 ^ (min (32 : Int).toNat ub))) * (uw ((BitVec.ofInt ub y &&& BitVec.ofInt ub 4294967295).toNat : Int))))), (26, .int .u64 (uw ((BitVec.ofInt ub y &&& BitVec.ofInt ub 4294967295).toNat : Int))), (25, .int .u64 (Int.fdiv x (2 ^ (min (32 : Int).toNat ub))))] kr ?_))))
 refine oN (nT (vS (vT (oR 3 [(12, .int .u64 (uw ((BitVec.ofInt ub (uw ((uw ((Int.fdiv x (2 ^ (min (32 : Int).toNat ub))) * (uw ((BitVec.ofInt ub y &&& BitVec.ofInt ub 4294967295).toNat : Int)))) + (Int.fdiv (uw ((uw ((BitVec.ofInt ub x &&& BitVec.ofInt ub 4294967295).toNat : Int)) * (uw ((BitVec.ofInt ub y &&& BitVec.ofInt ub 4294967295).toNat : Int)))) (2 ^ (min (32 : Int).toNat ub))))) &&& BitVec.ofInt ub 4294967295).toNat : Int))), (32, .int .u64 (uw ((BitVec.ofInt ub (uw ((uw ((Int.fdiv x (2 ^ (min (32 : Int).toNat ub))) * (uw ((BitVec.ofInt ub y &&& BitVec.ofInt ub 4294967295).toNat : Int)))) + (Int.fdiv (uw ((uw ((BitVec.ofInt ub x &&& BitVec.ofInt ub 4294967295).toNat : Int)) * (uw ((BitVec.ofInt ub y &&& BitVec.ofInt ub 4294967295).toNat : Int)))) (2 ^ (min (32 : Int).toNat ub))))) &&& BitVec.ofInt ub 4294967295).toNat : Int))), (31, .int .u64 (uw ((uw ((Int.fdiv x (2 ^ (min (32 : Int).toNat ub))) * (uw ((BitVec.ofInt ub y &&& BitVec.ofInt ub 4294967295).toNat : Int)))) + (Int.fdiv (uw ((uw ((BitVec.ofInt ub x &&& BitVec.ofInt ub 4294967295).toNat : Int)) * (uw ((BitVec.ofInt ub y &&& BitVec.ofInt ub 4294967295).toNat : Int)))) (2 ^ (min (32 : Int).toNat ub))))))] kr ?_))))
 refine oN (nT (vS (vT (oR 3 [(13, .int .u64 (Int.fdiv (uw ((uw ((Int.fdiv x (2 ^ (min (32 : Int).toNat ub))) * (uw ((BitVec.ofInt ub y &&& BitVec.ofInt ub 4294967295).toNat : Int)))) + (Int.fdiv (uw ((uw ((BitVec.ofInt ub x &&& BitVec.ofInt ub 4294967295).toNat : Int)) * (uw ((BitVec.ofInt ub y &&& BitVec.ofInt ub 4294967295).toNat : Int)))) (2 ^ (min (32 : Int).toNat ub))))) (2 ^ (min (32 : Int).toNat ub)))), (34, .int .u64 (Int.fdiv (uw ((uw ((Int.fdiv x (2 ^ (min (32 : Int).toNat ub))) * (uw ((BitVec.ofInt ub y &&& BitVec.ofInt ub 4294967295).toNat : Int)))) + (Int.fdiv (uw ((uw ((BitVec.ofInt ub x &&& BitVec.ofInt ub 4294967295).toNat : Int)) * (uw ((BitVec.ofInt ub y &&& BitVec.ofInt ub 4294967295).toNat : Int)))) (2 ^ (min (32 : Int).toNat ub))))) (2 ^ (min (32 : Int).toNat ub)))), (33, .int .u64 (uw ((uw ((Int.fdiv x (2 ^ (min (32 : Int).toNat ub))) * (uw ((BitVec.ofInt ub y &&& BitVec.ofInt ub 4294967295).toNat : Int)))) + (Int.fdiv (uw ((uw ((BitVec.ofInt ub x &&& BitVec.ofInt ub 4294967295).toNat : Int)) * (uw ((BitVec.ofInt ub y &&& BitVec.ofInt ub 4294967295).toNat : Int)))) (2 ^ (min (32 : Int).toNat ub))))))] kr ?_))))
 refine oN (nT (vS (vT (oR 6 [(12, .int .u64 (uw ((uw ((BitVec.ofInt ub (uw ((uw ((Int.fdiv x (2 ^ (min (32 : Int).toNat ub))) * (uw ((BitVec.ofInt ub y &&& BitVec.ofInt ub 4294967295).toNat : Int)))) + (Int.fdiv (uw ((uw ((BitVec.ofInt ub x &&& BitVec.ofInt ub 4294967295).toNat : Int)) * (uw ((BitVec.ofInt ub y &&& BitVec.ofInt ub 4294967295).toNat : Int)))) (2 ^ (min (32 : Int).toNat ub))))) &&& BitVec.ofInt ub 4294967295).toNat : Int)) + (uw ((uw ((BitVec.ofInt ub x &&& BitVec.ofInt ub 4294967295).toNat : Int)) * (Int.fdiv y (2 ^ (min (32 : Int).toNat ub)))))))), (39, .int .u64 (uw ((uw ((BitVec.ofInt ub (uw ((uw ((Int.fdiv x (2 ^ (min (32 : Int).toNat ub))) * (uw ((BitVec.ofInt ub y &&& BitVec.ofInt ub 4294967295).toNat : Int)))) + (Int.fdiv (uw ((uw ((BitVec.ofInt ub x &&& BitVec.ofInt ub 4294967295).toNat : Int)) * (uw ((BitVec.ofInt ub y &&& BitVec.ofInt ub 4294967295).toNat : Int)))) (2 ^ (min (32 : Int).toNat ub))))) &&& BitVec.ofInt ub 4294967295).toNat : Int)) + (uw ((uw ((BitVec.ofInt ub x &&& BitVec.ofInt ub 4294967295).toNat : Int)) * (Int.fdiv y (2 ^ (min (32 : Int).toNat ub)))))))), (38, .int .u64 (uw ((uw ((BitVec.ofInt ub x &&& BitVec.ofInt ub 4294967295).toNat : Int)) * (Int.fdiv y (2 ^ (min (32 : Int).toNat ub)))))), (37, .int .u64 (Int.fdiv y (2 ^ (min (32 : Int).toNat ub)))), (36, .int .u64 (uw ((BitVec.ofInt ub x &&& BitVec.ofInt ub 4294967295).toNat : Int))), (35, .int .u64 (uw ((BitVec.ofInt ub (uw ((uw ((Int.fdiv x (2 ^ (min (32 : Int).toNat ub))) * (uw ((BitVec.ofInt ub y &&& BitVec.ofInt ub 4294967295).toNat : Int)))) + (Int.fdiv (uw ((uw ((BitVec.ofInt ub x &&& BitVec.ofInt ub 4294967295).toNat : Int)) * (uw ((BitVec.ofInt ub y &&& BitVec.ofInt ub 4294967295).toNat : Int)))) (2 ^ (min (32 : Int).toNat ub))))) &&& BitVec.ofInt ub 4294967295).toNat : Int)))] kr ?_))))
 refine oN (nT (vS (vT (oR 9 [(4, .int .u64 (uw ((uw ((uw ((Int.fdiv x (2 ^ (min (32 : Int).toNat ub))) * (Int.fdiv y (2 ^ (min (32 : Int).toNat ub))))) + (Int.fdiv (uw ((uw ((Int.fdiv x (2 ^ (min (32 : Int).toNat ub))) * (uw ((BitVec.ofInt ub y &&& BitVec.ofInt ub 4294967295).toNat : Int)))) + (Int.fdiv (uw ((uw ((BitVec.ofInt ub x &&& BitVec.ofInt ub 4294967295).toNat : Int)) * (uw ((BitVec.ofInt ub y &&& BitVec.ofInt ub 4294967295).toNat : Int)))) (2 ^ (min (32 : Int).toNat ub))))) (2 ^ (min (32 : Int).toNat ub))))) + (Int.fdiv (uw ((uw ((BitVec.ofInt ub (uw ((uw ((Int.fdiv x (2 ^ (min (32 : Int).toNat ub))) * (uw ((BitVec.ofInt ub y &&& BitVec.ofInt ub 4294967295).toNat : Int)))) + (Int.fdiv (uw ((uw ((BitVec.ofInt ub x &&& BitVec.ofInt ub 4294967295).toNat : Int)) * (uw ((BitVec.ofInt ub y &&& BitVec.ofInt ub 4294967295).toNat : Int)))) (2 ^ (min (32 : Int).toNat ub))))) &&& BitVec.ofInt ub 4294967295).toNat : Int)) + (uw ((uw ((BitVec.ofInt ub x &&& BitVec.ofInt ub 4294967295).toNat : Int)) * (Int.fdiv y (2 ^ (min (32 : Int).toNat ub))))))) (2 ^ (min (32 : Int).toNat ub)))))), (47, .int .u64 (uw ((uw ((uw ((Int.fdiv x (2 ^ (min (32 : Int).toNat ub))) * (Int.fdiv y (2 ^ (min (32 : Int).toNat ub))))) + (Int.fdiv (uw ((uw ((Int.fdiv x (2 ^ (min (32 : Int).toNat ub))) * (uw ((BitVec.ofInt ub y &&& BitVec.ofInt ub 4294967295).toNat : Int)))) + (Int.fdiv (uw ((uw ((BitVec.ofInt ub x &&& BitVec.ofInt ub 4294967295).toNat : Int)) * (uw ((BitVec.ofInt ub y &&& BitVec.ofInt ub 4294967295).toNat : Int)))) (2 ^ (min (32 : Int).toNat ub))))) (2 ^ (min (32 : Int).toNat ub))))) + (Int.fdiv (uw ((uw ((BitVec.ofInt ub (uw ((uw ((Int.fdiv x (2 ^ (min (32 : Int).toNat ub))) * (uw ((BitVec.ofInt ub y &&& BitVec.ofInt ub 4294967295).toNat : Int)))) + (Int.fdiv (uw ((uw ((BitVec.ofInt ub x &&& BitVec.ofInt ub 4294967295).toNat : Int)) * (uw ((BitVec.ofInt ub y &&& BitVec.ofInt ub 4294967295).toNat : Int)))) (2 ^ (min (32 : Int).toNat ub))))) &&& BitVec.ofInt ub 4294967295).toNat : Int)) + (uw ((uw ((BitVec.ofInt ub x &&& BitVec.ofInt ub 4294967295).toNat : Int)) * (Int.fdiv y (2 ^ (min (32 : Int).toNat ub))))))) (2 ^ (min (32 : Int).toNat ub)))))), (46, .int .u64 (Int.fdiv (uw ((uw ((BitVec.ofInt ub (uw ((uw ((Int.fdiv x (2 ^ (min (32 : Int).toNat ub))) * (uw ((BitVec.ofInt ub y &&& BitVec.ofInt ub 4294967295).toNat : Int)))) + (Int.fdiv (uw ((uw ((BitVec.ofInt ub x &&& BitVec.ofInt ub 4294967295).toNat : Int)) * (uw ((BitVec.ofInt ub y &&& BitVec.ofInt ub 4294967295).toNat : Int)))) (2 ^ (min (32 : Int).toNat ub))))) &&& BitVec.ofInt ub 4294967295).toNat : Int)) + (uw ((uw ((BitVec.ofInt ub x &&& BitVec.ofInt ub 4294967295).toNat : Int)) * (Int.fdiv y (2 ^ (min (32 : Int).toNat ub))))))) (2 ^ (min (32 : Int).toNat ub)))), (45, .int .u64 (uw ((uw ((BitVec.ofInt ub (uw ((uw ((Int.fdiv x (2 ^ (min (32 : Int).toNat ub))) * (uw ((BitVec.ofInt ub y &&& BitVec.ofInt ub 4294967295).toNat : Int)))) + (Int.fdiv (uw ((uw ((BitVec.ofInt ub x &&& BitVec.ofInt ub 4294967295).toNat : Int)) * (uw ((BitVec.ofInt ub y &&& BitVec.ofInt ub 4294967295).toNat : Int)))) (2 ^ (min (32 : Int).toNat ub))))) &&& BitVec.ofInt ub 4294967295).toNat : Int)) + (uw ((uw ((BitVec.ofInt ub x &&& BitVec.ofInt ub 4294967295).toNat : Int)) * (Int.fdiv y (2 ^ (min (32 : Int).toNat ub)))))))), (44, .int .u64 (uw ((uw ((Int.fdiv x (2 ^ (min (32 : Int).toNat ub))) * (Int.fdiv y (2 ^ (min (32 : Int).toNat ub))))) + (Int.fdiv (uw ((uw ((Int.fdiv x (2 ^ (min (32 : Int).toNat ub))) * (uw ((BitVec.ofInt ub y &&& BitVec.ofInt ub 4294967295).toNat : Int)))) + (Int.fdiv (uw ((uw ((BitVec.ofInt ub x &&& BitVec.ofInt ub 4294967295).toNat : Int)) * (uw ((BitVec.ofInt ub y &&& BitVec.ofInt ub 4294967295).toNat : Int)))) (2 ^ (min (32 : Int).toNat ub))))) (2 ^ (min (32 : Int).toNat ub)))))), (43, .int .u64 (Int.fdiv (uw ((uw ((Int.fdiv x (2 ^ (min (32 : Int).toNat ub))) * (uw ((BitVec.ofInt ub y &&& BitVec.ofInt ub 4294967295).toNat : Int)))) + (Int.fdiv (uw ((uw ((BitVec.ofInt ub x &&& BitVec.ofInt ub 4294967295).toNat : Int)) * (uw ((BitVec.ofInt ub y &&& BitVec.ofInt ub 4294967295).toNat : Int)))) (2 ^ (min (32 : Int).toNat ub))))) (2 ^ (min (32 : Int).toNat ub)))), (42, .int .u64 (uw ((Int.fdiv x (2 ^ (min (32 : Int).toNat ub))) * (Int.fdiv y (2 ^ (min (32 : Int).toNat ub)))))), (41, .int .u64 (Int.fdiv y (2 ^ (min (32 : Int).toNat ub)))), (40, .int .u64 (Int.fdiv x (2 ^ (min (32 : Int).toNat ub))))] kr ?_))))
 refine oN (nT (vS (vT (oR 4 [(5, .int .u64 (uw (x * y))), (50, .int .u64 (uw (x * y))), (49, .int .u64 y), (48, .int .u64 x)] kr ?_))))
 refine oN (nT (v_ret ?_))
 obtain rfl := si hs
 exact fin_ret kr kr kr
theorem w_bits_Mul (x : Int) (y : Int) (r : Int × Int) (hs : s_bits_Mul x y = some r) : FnA Try.prog 103 [.int .u64 x, .int .u64 y] [] (.tup [.int .u64 r.1, .int .u64 r.2]) [] := by
 refine fnA_of_wp (N := 30) Try.func103 rfl rfl rfl fun cK0 => ?_
 unfold s_bits_Mul at hs
 refine v_same (ρ' := [(0, .int .u64 x), (1, .int .u64 y)]) rfl rfl ?_
 refine vS (vT (oR 2 [(5, .int .u64 0), (4, .int .u64 0)] kr ?_))
 refine oN (nT (vS (v_cond_f kr ?_)))
 refine vK (nT (vS (vT (oR 2 [(24, .int .u64 y), (23, .int .u64 x)] kr ?_))))
 obtain ⟨y1, c1, hs⟩ := bS hs
 refine oP (v := .tup [.int .u64 y1.1, .int .u64 y1.2]) kr kr (loc_gcall0 (callV_func hbv111 kr) (w_bits_Mul64 x y _ c1) kr) ?_
 refine oR 5 [(9, .int .u64 y1.2), (8, .int .u64 y1.1), (27, .int .u64 y1.2), (26, .int .u64 y1.1), (22, .tup [.int .u64 y1.1, .int .u64 y1.2])] kr ?_
 refine oN (nT (vS (vT (oR 4 [(5, .int .u64 y1.2), (4, .int .u64 y1.1), (29, .int .u64 y1.2), (28, .int .u64 y1.1)] kr ?_))))
 refine oN (nT (v_ret ?_))
 obtain rfl := si hs
 exact fin_ret kr kr kr
theorem w_slices_Repeat (x : (List Int)) (count : Int) (r : (List Int)) (hs : s_slices_Repeat x count = some r) : FnA Try.prog 89 [.vs 1 (mI x), .int .i64 count] [] (.sl 1 30 ((r).length) 0 ((r).length)) [(30, .row 3 1 0 (mI r))] := by
 refine fnA_of_wp (N := 48) Try.func89 rfl rfl rfl fun cK0 => ?_
 unfold s_slices_Repeat at hs
 refine v_same (ρ' := [(0, .vs 1 (mI x)), (1, .int .i64 count)]) rfl rfl ?_
 refine vS (vT (oR 1 [(4, .nils)] kr ?_))
 refine oN (nT (vS (vS (vT (oR 2 [(10, .bool (decide (count < 0))), (9, .int .i64 count)] kr ?_)))))
 refine oN (nT ?_)
 refine v_cond (decide (count < 0)) kr (fun h1 => ?_) (fun h1 => ?_)
 ·replace hs := bif_t h1 hs
  cases hs
 ·replace hs := bif_f h1 hs
  refine vK (nT (vS (vT (oR 1 [(13, .vs 1 (mI x))] kr ?_))))
  refine oP (v := .int .i64 (List.length x : Int)) kr kr (loc_lenVs (sz := 1) (els := (mI x)) kr kr (List.length_map ..)) ?_
  refine oR 3 [(17, .int .u64 (uw (count))), (16, .int .i64 count), (15, .int .u64 (uw ((List.length x : Int))))] kr ?_
  obtain ⟨y1, c1, hs⟩ := bS hs
  refine oP (v := .tup [.int .u64 y1.1, .int .u64 y1.2]) kr kr (loc_gcall0 (callV_func hbv103 kr) (w_bits_Mul (uw ((List.length x : Int))) (uw (count)) _ c1) kr) ?_
  refine oR 5 [(6, .int .u64 y1.2), (5, .int .u64 y1.1), (20, .int .u64 y1.2), (19, .int .u64 y1.1), (12, .tup [.int .u64 y1.1, .int .u64 y1.2])] kr ?_
  refine oN (nT (vS (vS ?_)))
  obtain ⟨z1, hs, hk1⟩ := bS hs
  refine v_join (S := Bool) (fun u => u = z1) (fun u => [(0, .vs 1 (mI x)), (6, .int .u64 y1.2), (26, .bool u)]) (fun u => []) ?_ (fun v1 hz => ?_)
  ·refine vT (oR 3 [(23, .bool (decide (y1.1 > 0))), (22, .bool (decide (y1.1 > 0))), (21, .int .u64 y1.1)] kr ?_)
   cases h2 : ((decide (y1.1 > 0)))
   ·replace hs := bif_f h2 hs
    refine oR 3 [(26, .bool (decide (y1.2 > 9223372036854775807))), (25, .bool (decide (y1.2 > 9223372036854775807))), (24, .int .u64 y1.2)] kr ?_
    refine oN ?_
    obtain rfl := si hs
    refine nrm_join (decide (y1.2 > 9223372036854775807)) rfl ?_
    exact cut_of [0, 6, 26] [] kr kr kr
   ·replace hs := bif_t h2 hs
    refine oR 3 [(26, .bool true), (25, .no), (24, .no)] kr ?_
    refine oN ?_
    obtain rfl := si hs
    refine nrm_join true rfl ?_
    exact cut_of [0, 6, 26] [] kr kr kr
  ·subst hz; clear hs; have hs := hk1; clear hk1
   refine nT ?_
   refine v_cond v1 kr (fun h3 => ?_) (fun h3 => ?_)
   ·replace hs := bif_t h3 hs
    cases hs
   ·replace hs := bif_f h3 hs
    refine vK (nT (vS (vT (oR 2 [(29, .int .i64 (w64 (y1.2))), (28, .int .u64 y1.2)] kr ?_))))
    obtain ⟨⟨g1a, g1b, g1c⟩, hs⟩ := bG hs
    refine o_loc (F := []) (F' := [(30, .row 3 1 0 (mI (List.replicate (Int.toNat (w64 (y1.2))) (0 : Int))))]) (v := .sl 1 30 (((List.replicate (Int.toNat (w64 (y1.2))) (0 : Int))).length) 0 (((List.replicate (Int.toNat (w64 (y1.2))) (0 : Int))).length)) [] kr kr rfl kr (loc_makeSliceT (L := ((List.replicate (Int.toNat (w64 (y1.2))) (0 : Int))).length) (e := 3) (sz := 1) (bytes := 8) (q := (w64 (y1.2))) (k := .i64) (k2 := .i64) (cs := [.int .i64 0]) (cs2 := [.int .i64 0]) kr kr kr kr kr g1a g1b g1c (List.map_replicate (f := EV.encI)).symm (List.length_replicate ..) (fun _ _ h => h)) kr ?_
    refine oR 1 [(7, .sl 1 30 (((List.replicate (Int.toNat (w64 (y1.2))) (0 : Int))).length) 0 (((List.replicate (Int.toNat (w64 (y1.2))) (0 : Int))).length))] kr ?_
    refine oN (nT (vS (vT (oR 2 [(32, .vs 1 (mI x)), (31, .sl 1 30 (((List.replicate (Int.toNat (w64 (y1.2))) (0 : Int))).length) 0 (((List.replicate (Int.toNat (w64 (y1.2))) (0 : Int))).length))] kr ?_))))
    refine o_loc (F := [(30, .row 3 1 0 (mI (List.replicate (Int.toNat (w64 (y1.2))) (0 : Int))))]) (F' := [(30, .row 3 1 0 (mI (cpyT (List.replicate (Int.toNat (w64 (y1.2))) (0 : Int)) 0 (List.take (min (List.length x) (((List.replicate (Int.toNat (w64 (y1.2))) (0 : Int))).length)) x))))]) (v := .int .i64 (((min (List.length x) (((List.replicate (Int.toNat (w64 (y1.2))) (0 : Int))).length)) : Nat) : Int)) [30] kr kr rfl kr (loc_copyT EV.encI (e := 3) (sz := 1) (bytes := 8) (k := 30) (L := (((List.replicate (Int.toNat (w64 (y1.2))) (0 : Int))).length)) (o := 0) (n := (((List.replicate (Int.toNat (w64 (y1.2))) (0 : Int))).length)) (c := (min (List.length x) (((List.replicate (Int.toNat (w64 (y1.2))) (0 : Int))).length))) (q := (List.replicate (Int.toNat (w64 (y1.2))) (0 : Int))) (ys := x) kr kr (by first | rfl | simp only [List.length_set, cpyT_length]) (by omega) (by have := Src.vs (sz := 1) (R := []) (mI x); exact this) (fun _ => rfl) (fun _ => rfl) kr rfl rfl) kr ?_
    refine oR 1 [(8, .int .i64 (((min (List.length x) (((List.replicate (Int.toNat (w64 (y1.2))) (0 : Int))).length)) : Nat) : Int))] kr ?_
    refine oN (nT (vS ?_))
    obtain ⟨z2, hs, hk2⟩ := bS hs
    refine v_join (S := (List Int)) (fun u => u = z2) (fun u => [(7, .sl 1 30 ((u).length) 0 ((u).length))]) (fun u => [(30, .row 3 1 0 (mI u))]) ?_ (fun v2 hz => ?_)
    ·refine vB ?_
     refine v_fuel (S := Int × (List Int)) (fun u => [(7, .sl 1 30 ((u.2).length) 0 ((u.2).length)), (8, .int .i64 u.1)]) (fun u => [(30, .row 3 1 0 (mI u.2))]) s_slices_Repeat_L1 (fun _ => rfl) KK ((((min (List.length x) (((List.replicate (Int.toNat (w64 (y1.2))) (0 : Int))).length)) : Nat) : Int), (cpyT (List.replicate (Int.toNat (w64 (y1.2))) (0 : Int)) 0 (List.take (min (List.length x) (((List.replicate (Int.toNat (w64 (y1.2))) (0 : Int))).length)) x))) hs (Cut.trans (cut_eq 7 (v := .sl 1 30 (((List.replicate (Int.toNat (w64 (y1.2))) (0 : Int))).length) 0 (((List.replicate (Int.toNat (w64 (y1.2))) (0 : Int))).length)) (v' := .sl 1 30 (((cpyT (List.replicate (Int.toNat (w64 (y1.2))) (0 : Int)) 0 (List.take (min (List.length x) (((List.replicate (Int.toNat (w64 (y1.2))) (0 : Int))).length)) x))).length) 0 (((cpyT (List.replicate (Int.toNat (w64 (y1.2))) (0 : Int)) 0 (List.take (min (List.length x) (((List.replicate (Int.toNat (w64 (y1.2))) (0 : Int))).length)) x))).length)) kr (by first | rfl | simp only [List.length_set, cpyT_length])) (cut_of [7, 8] [30] kr kr kr)) (fun K1 q1 hs => ?_)
     rw [s_slices_Repeat_L1] at hs
     show WpV cK0 Try.prog none 48 _ _ [(7, .sl 1 30 ((q1.2).length) 0 ((q1.2).length)), (8, .int .i64 q1.1)] [(30, .row 3 1 0 (mI q1.2))] []
     refine vS (vS (vT (oR 4 [(37, .bool (decide (q1.1 < ((q1.2).length : Int)))), (36, .int .i64 ((q1.2).length : Int)), (35, .sl 1 30 ((q1.2).length) 0 ((q1.2).length)), (34, .int .i64 q1.1)] kr ?_)))
     refine oN (nT ?_)
     refine v_cond (decide (q1.1 < ((q1.2).length : Int))) kr (fun h4 => ?_) (fun h4 => ?_)
     ·replace hs := bif_t h4 hs
      refine vK (nT (vB (v_draw mixedH kr ?_)))
      refine d_runs 3 0 [(40, .int .i64 q1.1), (39, .sl 1 30 ((q1.2).length) 0 ((q1.2).length)), (38, .int .i64 q1.1)] (pfp 3 2) kr kr ?_
      obtain ⟨⟨g2a, g2b, g2c⟩, hs⟩ := bG hs
      refine d_pure (v := .sl 1 30 ((q1.2).length) (Int.toNat q1.1) (Int.toNat ((q1.2).length : Int) - Int.toNat q1.1)) 3 rfl rfl rfl rfl kr kr (loc_sliceRowT (e := 3) (sz := 1) (k := 30) (L := ((q1.2).length)) (n := (q1.2).length) (l := q1.1) (h := ((q1.2).length : Int)) kr kr ⟨.i64, by kernel_rfl⟩ rfl g2a g2b g2c) ?_
      refine d_runs 2 4 [(43, .int .i64 q1.1), (42, .sl 1 30 ((q1.2).length) 0 ((q1.2).length))] (pfp 2 5) kr kr ?_
      obtain ⟨⟨g3a, g3b, g3c⟩, hs⟩ := bG hs
      refine d_pure (v := .sl 1 30 ((q1.2).length) (Int.toNat 0) (Int.toNat q1.1 - Int.toNat 0)) 6 rfl rfl rfl rfl kr kr (loc_sliceRowT (e := 3) (sz := 1) (k := 30) (L := ((q1.2).length)) (n := (q1.2).length) (l := 0) (h := q1.1) kr kr rfl ⟨.i64, by kernel_rfl⟩ g3a g3b g3c) ?_
      refine d_loc (F := [(30, .row 3 1 0 (mI q1.2))]) (R := []) (F' := [(30, .row 3 1 0 (mI (cpyT q1.2 (Int.toNat q1.1) (List.take (min (Int.toNat q1.1 - Int.toNat 0) (Int.toNat ((q1.2).length : Int) - Int.toNat q1.1)) (List.take (Int.toNat q1.1 - Int.toNat 0) (List.drop (Int.toNat 0) q1.2))))))]) (v := .int .i64 (((min (Int.toNat q1.1 - Int.toNat 0) (Int.toNat ((q1.2).length : Int) - Int.toNat q1.1)) : Nat) : Int)) 7 [30] [] rfl rfl rfl rfl kr kr kr kr kr kr kr kr (loc_copySelfT EV.encI (e := 3) (sz := 1) (bytes := 8) (k := 30) (L := ((q1.2).length)) (o := (Int.toNat q1.1)) (n := (Int.toNat ((q1.2).length : Int) - Int.toNat q1.1)) (o2 := (Int.toNat 0)) (n2 := (Int.toNat q1.1 - Int.toNat 0)) (c := (min (Int.toNat q1.1 - Int.toNat 0) (Int.toNat ((q1.2).length : Int) - Int.toNat q1.1))) (q := q1.2) kr kr kr (by first | rfl | simp only [List.length_set, cpyT_length]) (by omega) (by omega) (fun _ => rfl) (fun _ => rfl) rfl rfl) ?_
      refine d_runs 2 8 [(8, .int .i64 (w64 (q1.1 + (((min (Int.toNat q1.1 - Int.toNat 0) (Int.toNat ((q1.2).length : Int) - Int.toNat q1.1)) : Nat) : Int)))), (46, .int .i64 (w64 (q1.1 + (((min (Int.toNat q1.1 - Int.toNat 0) (Int.toNat ((q1.2).length : Int) - Int.toNat q1.1)) : Nat) : Int))))] (pfp 2 9) kr kr ?_
      refine d_nil kr ?_
      refine nB (nrm_fuel ((w64 (q1.1 + (((min (Int.toNat q1.1 - Int.toNat 0) (Int.toNat ((q1.2).length : Int) - Int.toNat q1.1)) : Nat) : Int))), (cpyT q1.2 (Int.toNat q1.1) (List.take (min (Int.toNat q1.1 - Int.toNat 0) (Int.toNat ((q1.2).length : Int) - Int.toNat q1.1)) (List.take (Int.toNat q1.1 - Int.toNat 0) (List.drop (Int.toNat 0) q1.2))))) hs ?_)
      exact Cut.trans (cut_eq 7 (v := .sl 1 30 ((q1.2).length) 0 ((q1.2).length)) (v' := .sl 1 30 (((cpyT q1.2 (Int.toNat q1.1) (List.take (min (Int.toNat q1.1 - Int.toNat 0) (Int.toNat ((q1.2).length : Int) - Int.toNat q1.1)) (List.take (Int.toNat q1.1 - Int.toNat 0) (List.drop (Int.toNat 0) q1.2))))).length) 0 (((cpyT q1.2 (Int.toNat q1.1) (List.take (min (Int.toNat q1.1 - Int.toNat 0) (Int.toNat ((q1.2).length : Int) - Int.toNat q1.1)) (List.take (Int.toNat q1.1 - Int.toNat 0) (List.drop (Int.toNat 0) q1.2))))).length)) kr (by first | rfl | simp only [List.length_set, cpyT_length])) (cut_of [7, 8] [30] kr kr kr)
     ·replace hs := bif_f h4 hs
      refine v_exit (exit_thenV (exit_fuel ?_))
      refine exit_blkV ?_
      obtain rfl := si hs
      refine nrm_join q1.2 rfl ?_
      exact cut_of [7] [30] kr kr kr
    ·subst hz; clear hs; have hs := hk2; clear hk2
     refine nT (vS (vT (oR 2 [(4, .sl 1 30 ((v2).length) 0 ((v2).length)), (47, .sl 1 30 ((v2).length) 0 ((v2).length))] kr ?_)))
     refine oN (nT (v_ret ?_))
     obtain rfl := si hs
     exact fin_ret kr kr kr
theorem w_slices_Index (s : (List Int)) (v : Int) (r : Int) (hs : s_slices_Index s v = some r) : FnA Try.prog 104 [.vs 1 (mI s), .int .i64 v] [] (.int .i64 r) [] := by
 refine fnA_of_wp (N := 19) Try.func104 rfl rfl rfl fun cK0 => ?_
 unfold s_slices_Index at hs
 refine v_same (ρ' := [(0, .vs 1 (mI s)), (1, .int .i64 v)]) rfl rfl ?_
 refine vS (vT (oR 1 [(4, .int .i64 0)] kr ?_))
 refine oN (nT (vS (vS (vT (oR 1 [(6, .vs 1 (mI s))] kr ?_)))))
 refine oP (v := .int .i64 (List.length s : Int)) kr kr (loc_lenVs (sz := 1) (els := (mI s)) kr kr (List.length_map ..)) ?_
 refine oR 1 [(8, .int .i64 0)] kr ?_
 refine oN (nT ?_)
 obtain ⟨z1, hs, hk1⟩ := bS hs
 refine v_join (S := Unit) (fun u => z1 = .inr u) (fun u => []) (fun u => []) ?_ (fun v1 hz => ?_)
 ·refine vB ?_
  refine v_fuel (S := Int) (fun u => [(0, .vs 1 (mI s)), (1, .int .i64 v), (7, .int .i64 (List.length s : Int)), (8, .int .i64 u)]) (fun u => []) (s_slices_Index_L1 s v) (fun _ => rfl) KK 0 hs (cut_of [0, 1, 7, 8] [] kr kr kr) (fun K1 q1 hs => ?_)
  rw [s_slices_Index_L1] at hs
  show WpV cK0 Try.prog none 19 _ _ [(0, .vs 1 (mI s)), (1, .int .i64 v), (7, .int .i64 (List.length s : Int)), (8, .int .i64 q1)] [] []
  refine vS (vT (oR 1 [(9, .bool (decide (q1 < (List.length s : Int))))] kr ?_))
  refine oN (nT (vS ?_))
  refine v_cond (decide (q1 < (List.length s : Int))) kr (fun h1 => ?_) (fun h1 => ?_)
  ·replace hs := bif_t h1 hs
   refine vK (nT (vS (vB (vS (vT (oR 2 [(5, .int .i64 q1), (10, .int .i64 q1)] kr ?_))))))
   refine oN (nT (vS (vT (oR 3 [(13, .int .i64 q1), (12, .vs 1 (mI s)), (11, .int .i64 v)] kr ?_))))
   obtain ⟨x1, g1, hs⟩ := bS hs; obtain ⟨g1a, g1b, g1c⟩ := idx_some g1
   refine oP (v := .vp [.int .i64 x1] 0) kr kr (loc_indexVs (e := 3) (sz := 1) (k := .i64) (els := (mI s)) (cs := (EV.encI x1)) kr kr kr g1a (by rw [g1c]; exact map_get _ (by omega))) ?_
   refine oR 2 [(16, .bool (decide (v = x1))), (15, .int .i64 x1)] kr ?_
   refine oN (nT ?_)
   refine v_cond (decide (v = x1)) kr (fun h2 => ?_) (fun h2 => ?_)
   ·replace hs := bif_t h2 hs
    refine vS (vT (oR 2 [(4, .int .i64 q1), (17, .int .i64 q1)] kr ?_))
    refine oN (nT (v_ret (rB (rT (ret_fuel ?_)))))
    refine rB (ret_join ?_)
    refine rT ?_
    obtain rfl := si hs
    replace hs := hk1
    obtain rfl := si hs
    exact fin_ret kr kr kr
   ·replace hs := bif_f h2 hs
    refine vK (nB (nT (vT (oR 2 [(8, .int .i64 (w64 (q1 + 1))), (18, .int .i64 (w64 (q1 + 1)))] kr ?_))))
    refine oN (nrm_fuel (w64 (q1 + 1)) hs ?_)
    exact cut_of [0, 1, 7, 8] [] kr kr kr
  ·replace hs := bif_f h1 hs
   refine v_exit (exit_thenV (exit_fuel ?_))
   refine exit_blkV ?_
   obtain rfl := si hs
   refine nrm_join () rfl ?_
   exact cut_of [] [] kr kr kr
 ·subst hz; clear hs; have hs := hk1; clear hk1
  refine nT (vS (vT (oR 1 [(4, .int .i64 (-1))] kr ?_)))
  refine oN (nT (v_ret ?_))
  obtain rfl := si hs
  exact fin_ret kr kr kr
theorem w_slices_Contains (s : (List Int)) (v : Int) (r : Bool) (hs : s_slices_Contains s v = some r) : FnA Try.prog 90 [.vs 1 (mI s), .int .i64 v] [] (.bool r) [] := by
 refine fnA_of_wp (N := 9) Try.func90 rfl rfl rfl fun cK0 => ?_
 unfold s_slices_Contains at hs
 refine v_same (ρ' := [(0, .vs 1 (mI s)), (1, .int .i64 v)]) rfl rfl ?_
 refine vS (vT (oR 1 [(4, .bool false)] kr ?_))
 refine oN (nT (vS (vT (oR 2 [(6, .int .i64 v), (5, .vs 1 (mI s))] kr ?_))))
 obtain ⟨y1, c1, hs⟩ := bS hs
 refine oP (v := .int .i64 y1) kr kr (loc_gcall0 (callV_func hbv104 kr) (w_slices_Index s v _ c1) kr) ?_
 refine oR 2 [(4, .bool (decide (y1 ≥ 0))), (8, .bool (decide (y1 ≥ 0)))] kr ?_
 refine oN (nT (v_ret ?_))
 obtain rfl := si hs
 exact fin_ret kr kr kr
theorem w_define_graph_distances (g_defs : (List Def)) (g_uses : (List (List Int))) (to : Int) (r : (List Int) × (List Def) × (List (List Int))) (hs : s_define_graph_distances g_defs g_uses to = some r) : FnA Try.prog 75 [.ptr 1000000 0 0, .int .i64 to] [(1000000, .box 99 [.vs 6 (mM enc_Def g_defs), .vs 1 (List.map (encL 1 EV.encI) g_uses)])] (.vs 1 (mI r.1)) [(1000000, .box 99 [.vs 6 (mM enc_Def r.2.1), .vs 1 (List.map (encL 1 EV.encI) r.2.2)])] := by
 refine fnA_of_wp (N := 64) Try.func75 rfl rfl rfl fun cK0 => ?_
 unfold s_define_graph_distances at hs
 refine v_same (ρ' := [(0, .ptr 1000000 0 0), (1, .int .i64 to)]) rfl rfl ?_
 refine vS (vT (oR 1 [(4, .nils)] kr ?_))
 refine oN (nT (vS (vT (o_runh 5 [(14, .vs 6 (mM enc_Def g_defs)), (13, .ptr 1000000 0 0), (12, .ptr 1000000 0 0), (11, .ptr 1000000 0 0), (10, .sl 1 10 1 0 1)] [(10, .row 3 1 0 (mI [(-1)])), (1000000, .box 99 [.vs 6 (mM enc_Def g_defs), .vs 1 (List.map (encL 1 EV.encI) g_uses)])] kr ?_))))
 refine oP (v := .int .i64 (List.length g_defs : Int)) kr kr (loc_lenVs (sz := 6) (els := (mM enc_Def g_defs)) kr kr (List.length_map ..)) ?_
 obtain ⟨y1, c1, hs⟩ := bS hs
 refine o_to _ [(10, .row 3 1 (((mI [(-1)])).length) (mI [(-1)])), (1000000, .box 99 [.vs 6 (mM enc_Def g_defs), .vs 1 (List.map (encL 1 EV.encI) g_uses)])] (cut_freeze (F := [(10, .row 3 1 0 (mI [(-1)]))]) [10] rfl kr kr) ?_
 refine o_loc (F := [(10, .row 3 1 (((mI [(-1)])).length) (mI [(-1)]))]) (F' := [(3001600, .row 3 1 0 (mI y1)), (10, .row 3 1 (((mI [(-1)])).length) (mI [(-1)]))]) (v := .sl 1 3001600 ((y1).length) 0 ((y1).length)) [10] kr kr rfl kr (loc_g (R := [(10, .row 3 1 (((mI [(-1)])).length) (mI [(-1)]))]) [.sl 1 10 1 0 1, .int .i64 (List.length g_defs : Int)] [(30, 3001600)] (callV_func hbv89 kr) (w_slices_Repeat [(-1)] (List.length g_defs : Int) _ c1) (.cons (.row (t := 3) (fz := (((mI [(-1)])).length)) kr (by first | (simp only [List.length_map, List.length_set, cpyT_length]; done) | rfl)) (.cons (.same _) (.nil))) kr kr kr kr kr kr kr kr) kr ?_
 refine oR 1 [(5, .sl 1 3001600 ((y1).length) 0 ((y1).length))] kr ?_
 refine oN (nT (vS (vT (oR 2 [(18, .int .i64 to), (17, .sl 1 3001600 ((y1).length) 0 ((y1).length))] kr ?_))))
 obtain ⟨⟨g1a, g1b⟩, hs⟩ := bG hs
 refine oP (v := .ptr 3001600 ((y1).length) ((Int.toNat to) * 1 + 0)) kr kr (loc_indexRowT (e := 3) (sz := 1) (kk := 3001600) (L := (y1).length) (n := (y1).length) (k := .i64) (i := to) kr kr kr g1a g1b) ?_
 obtain ⟨e1, he1, hs⟩ := bE hs
 refine o_loc (F := [(3001600, .row 3 1 0 (mI y1))]) (F' := [(3001600, .row 3 1 0 (mI (List.set y1 (Int.toNat to) 0)))]) (v := .no) [3001600] kr kr rfl kr (loc_storeRowT (L := (y1).length) (off := (Int.toNat to) * 1 + 0) (els := (mI y1)) (cs := [.int .i64 e1]) (c' := [.int .i64 0]) (Int.toNat to) 0 kr (by first | (simp only [List.length_map, List.length_set, cpyT_length]; done) | rfl) rfl (by rw [← he1]; exact map_get _ (by first | omega | (simp only [List.length_set, cpyT_length]; omega))) (by first | exact Nat.zero_le _ | omega) kr kr kr kr kr kr List.map_set.symm) kr ?_
 refine oN (nT (vS (vT (o_runh 3 [(6, .sl 1 21 1 0 1), (21, .sl 1 21 1 0 1), (20, .int .i64 to)] [(21, .row 3 1 0 (mI [to])), (3001600, .row 3 1 0 (mI (List.set y1 (Int.toNat to) 0))), (10, .row 3 1 (((mI [(-1)])).length) (mI [(-1)])), (1000000, .box 99 [.vs 6 (mM enc_Def g_defs), .vs 1 (List.map (encL 1 EV.encI) g_uses)])] kr ?_))))
 refine oN (nT (vS ?_))
 obtain ⟨z1, hs, hk1⟩ := bS hs
 refine v_join (S := (List Int)) (fun u => u = z1) (fun u => [(5, .sl 1 3001600 ((u).length) 0 ((u).length))]) (fun u => [(3001600, .row 3 1 0 (mI u)), (1000000, .box 99 [.vs 6 (mM enc_Def g_defs), .vs 1 (List.map (encL 1 EV.encI) g_uses)])]) ?_ (fun v1 hz => ?_)
 ·refine vB (v_to _ [(21, .gen (que 3 1 1 (mI [to]))), (3001600, .row 3 1 0 (mI (List.set y1 (Int.toNat to) 0))), (10, .row 3 1 (((mI [(-1)])).length) (mI [(-1)])), (1000000, .box 99 [.vs 6 (mM enc_Def g_defs), .vs 1 (List.map (encL 1 EV.encI) g_uses)])] (cut_que 6 21 (e := 3) (sz := 1) (n := 1) (els := (mI [to])) kr kr (by first | rfl | simp) (by simp) kr) ?_)
  refine v_fuel (S := (List Int) × Nat × (List Int)) (fun u => [(0, .ptr 1000000 0 0), (5, .sl 1 3001600 ((u.2.2).length) 0 ((u.2.2).length)), (6, .gv 21 (qv true 1 u.2.1 (List.length u.1)))]) (fun u => [(21, .gen (que 3 1 u.2.1 (mI u.1))), (3001600, .row 3 1 0 (mI u.2.2)), (1000000, .box 99 [.vs 6 (mM enc_Def g_defs), .vs 1 (List.map (encL 1 EV.encI) g_uses)])]) (s_define_graph_distances_L1 g_uses) (fun _ => rfl) KK ([to], 1, (List.set y1 (Int.toNat to) 0)) hs (Cut.trans (cut_eq 5 (v := .sl 1 3001600 ((y1).length) 0 ((y1).length)) (v' := .sl 1 3001600 (((List.set y1 (Int.toNat to) 0)).length) 0 (((List.set y1 (Int.toNat to) 0)).length)) kr (by first | rfl | simp only [List.length_set, cpyT_length])) (Cut.trans (cut_eq 6 (v := .gv 21 (qv true 1 1 1)) (v' := .gv 21 (qv true 1 1 (List.length [to]))) kr (by first | rfl | simp only [List.length_set, cpyT_length])) (cut_of [0, 5, 6] [21, 3001600, 1000000] kr kr kr))) (fun K1 q1 hs => ?_)
  rw [s_define_graph_distances_L1] at hs
  show WpV cK0 Try.prog none 64 _ _ [(0, .ptr 1000000 0 0), (5, .sl 1 3001600 ((q1.2.2).length) 0 ((q1.2.2).length)), (6, .gv 21 (qv true 1 q1.2.1 (List.length q1.1)))] [(21, .gen (que 3 1 q1.2.1 (mI q1.1))), (3001600, .row 3 1 0 (mI q1.2.2)), (1000000, .box 99 [.vs 6 (mM enc_Def g_defs), .vs 1 (List.map (encL 1 EV.encI) g_uses)])] []
  refine vS (vS (vT (oR 1 [(22, .gv 21 (qv true 1 q1.2.1 (List.length q1.1)))] kr ?_)))
  refine oP (v := .int .i64 ((List.length q1.1) : Int)) kr kr (loc_lenQ (k := 21) (sz := 1) (ver := q1.2.1) (n := (List.length q1.1)) kr kr) ?_
  refine oR 1 [(24, .bool (decide (((List.length q1.1) : Int) > 0)))] kr ?_
  refine oN (nT ?_)
  refine v_cond (decide (((List.length q1.1) : Int) > 0)) kr (fun h1 => ?_) (fun h1 => ?_)
  ·replace hs := bif_t h1 hs
   refine vK (nT (vB (vS (vT (oR 1 [(25, .gv 21 (qv true 1 q1.2.1 (List.length q1.1)))] kr ?_)))))
   obtain ⟨⟨g2a, g2b⟩, hs⟩ := bG hs
   refine oP (v := .gv 21 (qv false 1 q1.2.1 ((Int.toNat 0) * 1))) kr kr (loc_indexQ (e := 3) (sz := 1) (kk := 21) (ver := q1.2.1) (n := (List.length q1.1)) (k := .i64) (i := 0) kr kr kr g2a g2b) ?_
   obtain ⟨e2, he2, hs⟩ := bE hs
   refine o_loc (F := [(21, .gen (que 3 1 q1.2.1 (mI q1.1)))]) (F' := [(21, .gen (que 3 1 q1.2.1 (mI q1.1)))]) (v := .int .i64 e2) [21] kr kr rfl kr (loc_loadQ (et := 3) (sz := 1) (k := 21) (ver := q1.2.1) (n := (Int.toNat 0) * 1) (els := (mI q1.1)) (cs := [.int .i64 e2]) (Int.toNat 0) kr kr (by rw [← he2]; exact map_get _ (by omega)) kr) kr ?_
   refine oR 1 [(7, .int .i64 e2)] kr ?_
   refine oN (nT (vS (vT (oR 1 [(28, .gv 21 (qv true 1 q1.2.1 (List.length q1.1)))] kr ?_))))
   obtain ⟨_, g3, hs⟩ := bS hs; replace g3 := grd_some g3
   refine o_loc (F := [(21, .gen (que 3 1 q1.2.1 (mI q1.1)))]) (F' := [(21, .gen (que 3 1 (q1.2.1 + 1) (mI (List.drop 1 q1.1))))]) (v := .gv 21 (qv true 1 (q1.2.1 + 1) (List.length (List.drop 1 q1.1)))) [21] kr kr rfl kr (loc_popQT EV.encI (e := 3) (et := 3) (sz := 1) (k := 21) (ver := q1.2.1) (n := (List.length q1.1)) (p := q1.1) (kk := .i64) kr kr kr rfl g3 rfl) kr ?_
   refine oR 1 [(6, .gv 21 (qv true 1 (q1.2.1 + 1) (List.length (List.drop 1 q1.1))))] kr ?_
   refine oN (nT (vS (vT (oR 4 [(33, .vs 1 (List.map (encL 1 EV.encI) g_uses)), (32, .ptr 1000000 0 1), (31, .ptr 1000000 0 0), (30, .ptr 1000000 0 0)] kr ?_))))
   refine oP (v := .int .i64 (List.length g_uses : Int)) kr kr (loc_lenVs (sz := 1) (els := (List.map (encL 1 EV.encI) g_uses)) kr kr (List.length_map ..)) ?_
   refine oR 1 [(35, .int .i64 0)] kr ?_
   refine oN (nT ?_)
   obtain ⟨z2, hs, hk2⟩ := bS hs
   refine v_join (S := (List Int) × Nat × (List Int)) (fun u => u = z2) (fun u => [(0, .ptr 1000000 0 0), (5, .sl 1 3001600 ((u.2.2).length) 0 ((u.2.2).length)), (6, .gv 21 (qv true 1 u.2.1 (List.length u.1)))]) (fun u => [(21, .gen (que 3 1 u.2.1 (mI u.1))), (3001600, .row 3 1 0 (mI u.2.2)), (1000000, .box 99 [.vs 6 (mM enc_Def g_defs), .vs 1 (List.map (encL 1 EV.encI) g_uses)])]) ?_ (fun v2 hz => ?_)
   ·refine vB ?_
    refine v_fuel (S := Int × (List Int) × Nat × (List Int)) (fun u => [(0, .ptr 1000000 0 0), (5, .sl 1 3001600 ((u.2.2.2).length) 0 ((u.2.2.2).length)), (6, .gv 21 (qv true 1 u.2.2.1 (List.length u.2.1))), (7, .int .i64 e2), (33, .vs 1 (List.map (encL 1 EV.encI) g_uses)), (34, .int .i64 (List.length g_uses : Int)), (35, .int .i64 u.1)]) (fun u => [(21, .gen (que 3 1 u.2.2.1 (mI u.2.1))), (3001600, .row 3 1 0 (mI u.2.2.2)), (1000000, .box 99 [.vs 6 (mM enc_Def g_defs), .vs 1 (List.map (encL 1 EV.encI) g_uses)])]) (s_define_graph_distances_L2 g_uses e2) (fun _ => rfl) KK (0, (List.drop 1 q1.1), (q1.2.1 + 1), q1.2.2) hs (cut_of [0, 5, 6, 7, 33, 34, 35] [21, 3001600, 1000000] kr kr kr) (fun K2 q2 hs => ?_)
    rw [s_define_graph_distances_L2] at hs
    show WpV cK0 Try.prog none 64 _ _ [(0, .ptr 1000000 0 0), (5, .sl 1 3001600 ((q2.2.2.2).length) 0 ((q2.2.2.2).length)), (6, .gv 21 (qv true 1 q2.2.2.1 (List.length q2.2.1))), (7, .int .i64 e2), (33, .vs 1 (List.map (encL 1 EV.encI) g_uses)), (34, .int .i64 (List.length g_uses : Int)), (35, .int .i64 q2.1)] [(21, .gen (que 3 1 q2.2.2.1 (mI q2.2.1))), (3001600, .row 3 1 0 (mI q2.2.2.2)), (1000000, .box 99 [.vs 6 (mM enc_Def g_defs), .vs 1 (List.map (encL 1 EV.encI) g_uses)])] []
    refine vS (vT (oR 1 [(36, .bool (decide (q2.1 < (List.length g_uses : Int))))] kr ?_))
    refine oN (nT (vS ?_))
    refine v_cond (decide (q2.1 < (List.length g_uses : Int))) kr (fun h2 => ?_) (fun h2 => ?_)
    ·replace hs := bif_t h2 hs
     refine vK (nT (vS (vB (vS (vT (oR 1 [(37, .int .i64 q2.1)] kr ?_))))))
     obtain ⟨x1, g4, hs⟩ := bS hs; obtain ⟨g4a, g4b, g4c⟩ := idx_some g4
     refine oP (v := .vp [.vs 1 (mI x1)] 0) kr kr (loc_indexVs (e := 33) (sz := 1) (k := .i64) (els := (List.map (encL 1 EV.encI) g_uses)) (cs := ((encL 1 EV.encI) x1)) kr kr kr g4a (by rw [g4c]; exact map_get _ (by omega))) ?_
     refine oR 3 [(9, .vs 1 (mI x1)), (8, .int .i64 q2.1), (39, .vs 1 (mI x1))] kr ?_
     refine oN (nT (vS ?_))
     obtain ⟨z3, hs, hk3⟩ := bS hs
     refine v_join (S := Bool × (List Int) × Nat) (fun u => u = z3) (fun u => [(0, .ptr 1000000 0 0), (5, .sl 1 3001600 ((q2.2.2.2).length) 0 ((q2.2.2.2).length)), (6, .gv 21 (qv true 1 u.2.2 (List.length u.2.1))), (7, .int .i64 e2), (8, .int .i64 q2.1), (33, .vs 1 (List.map (encL 1 EV.encI) g_uses)), (34, .int .i64 (List.length g_uses : Int)), (35, .int .i64 q2.1), (49, .bool u.1)]) (fun u => [(3001600, .row 3 1 0 (mI q2.2.2.2)), (21, .gen (que 3 1 u.2.2 (mI u.2.1))), (1000000, .box 99 [.vs 6 (mM enc_Def g_defs), .vs 1 (List.map (encL 1 EV.encI) g_uses)])]) ?_ (fun v3 hz => ?_)
     ·refine vT (oR 2 [(41, .int .i64 q2.1), (40, .sl 1 3001600 ((q2.2.2.2).length) 0 ((q2.2.2.2).length))] kr ?_)
      obtain ⟨⟨g5a, g5b⟩, hs⟩ := bG hs
      refine oP (v := .ptr 3001600 ((q2.2.2.2).length) ((Int.toNat q2.1) * 1 + 0)) kr kr (loc_indexRowT (e := 3) (sz := 1) (kk := 3001600) (L := (q2.2.2.2).length) (n := (q2.2.2.2).length) (k := .i64) (i := q2.1) kr kr kr g5a g5b) ?_
      obtain ⟨e3, he3, hs⟩ := bE hs
      refine o_loc (F := [(3001600, .row 3 1 0 (mI q2.2.2.2))]) (F' := [(3001600, .row 3 1 0 (mI q2.2.2.2))]) (v := .int .i64 e3) [3001600] kr kr rfl kr (loc_loadRow (L := (q2.2.2.2).length) (off := (Int.toNat q2.1) * 1 + 0) (els := (mI q2.2.2.2)) (cs := [.int .i64 e3]) (Int.toNat q2.1) 0 kr (by first | (simp only [List.length_map, List.length_set, cpyT_length]; done) | rfl) rfl (by rw [← he3]; exact map_get _ (by first | omega | (simp only [List.length_set, cpyT_length]; omega))) kr) kr ?_
      refine oR 2 [(45, .bool (decide (e3 < 0))), (44, .bool (decide (e3 < 0)))] kr ?_
      cases h3 : ((decide (e3 < 0)))
      ·replace hs := bif_f h3 hs
       refine oR 4 [(49, .bool false), (48, .no), (47, .no), (46, .no)] kr ?_
       refine oN ?_
       obtain rfl := si hs
       refine nrm_join (false, q2.2.1, q2.2.2.1) rfl ?_
       exact cut_of [0, 5, 6, 7, 8, 33, 34, 35, 49] [3001600, 21, 1000000] kr kr kr
      ·replace hs := bif_t h3 hs
       refine oR 2 [(47, .int .i64 e2), (46, .vs 1 (mI x1))] kr ?_
       obtain ⟨y2, c2, hs⟩ := bS hs
       refine oP (v := .bool y2) kr kr (loc_gcall0 (callV_func hbv90 kr) (w_slices_Contains x1 e2 _ c2) kr) ?_
       refine oR 1 [(49, .bool y2)] kr ?_
       refine oN ?_
       obtain rfl := si hs
       refine nrm_join (y2, q2.2.1, q2.2.2.1) rfl ?_
       exact cut_of [0, 5, 6, 7, 8, 33, 34, 35, 49] [3001600, 21, 1000000] kr kr kr
     ·subst hz; clear hs; have hs := hk3; clear hk3
      refine nT ?_
      obtain ⟨z4, hs, hk4⟩ := bS hs
      refine v_join (S := (List Int) × Nat × (List Int)) (fun u => u = z4) (fun u => [(0, .ptr 1000000 0 0), (5, .sl 1 3001600 ((u.2.2).length) 0 ((u.2.2).length)), (6, .gv 21 (qv true 1 u.2.1 (List.length u.1))), (7, .int .i64 e2), (33, .vs 1 (List.map (encL 1 EV.encI) g_uses)), (34, .int .i64 (List.length g_uses : Int)), (35, .int .i64 q2.1)]) (fun u => [(21, .gen (que 3 1 u.2.1 (mI u.1))), (3001600, .row 3 1 0 (mI u.2.2)), (1000000, .box 99 [.vs 6 (mM enc_Def g_defs), .vs 1 (List.map (encL 1 EV.encI) g_uses)])]) ?_ (fun v4 hz => ?_)
      ·refine v_cond v3.1 kr (fun h4 => ?_) (fun h4 => ?_)
       ·replace hs := bif_t h4 hs
        refine vS (vT (oR 4 [(53, .int .i64 e2), (52, .sl 1 3001600 ((q2.2.2.2).length) 0 ((q2.2.2.2).length)), (51, .int .i64 q2.1), (50, .sl 1 3001600 ((q2.2.2.2).length) 0 ((q2.2.2.2).length))] kr ?_))
        obtain ⟨⟨g6a, g6b⟩, hs⟩ := bG hs
        refine oP (v := .ptr 3001600 ((q2.2.2.2).length) ((Int.toNat e2) * 1 + 0)) kr kr (loc_indexRowT (e := 3) (sz := 1) (kk := 3001600) (L := (q2.2.2.2).length) (n := (q2.2.2.2).length) (k := .i64) (i := e2) kr kr kr g6a g6b) ?_
        obtain ⟨e4, he4, hs⟩ := bE hs
        refine o_loc (F := [(3001600, .row 3 1 0 (mI q2.2.2.2))]) (F' := [(3001600, .row 3 1 0 (mI q2.2.2.2))]) (v := .int .i64 e4) [3001600] kr kr rfl kr (loc_loadRow (L := (q2.2.2.2).length) (off := (Int.toNat e2) * 1 + 0) (els := (mI q2.2.2.2)) (cs := [.int .i64 e4]) (Int.toNat e2) 0 kr (by first | (simp only [List.length_map, List.length_set, cpyT_length]; done) | rfl) rfl (by rw [← he4]; exact map_get _ (by first | omega | (simp only [List.length_set, cpyT_length]; omega))) kr) kr ?_
        refine oR 1 [(56, .int .i64 (w64 (e4 + 1)))] kr ?_
        obtain ⟨⟨g7a, g7b⟩, hs⟩ := bG hs
        refine oP (v := .ptr 3001600 ((q2.2.2.2).length) ((Int.toNat q2.1) * 1 + 0)) kr kr (loc_indexRowT (e := 3) (sz := 1) (kk := 3001600) (L := (q2.2.2.2).length) (n := (q2.2.2.2).length) (k := .i64) (i := q2.1) kr kr kr g7a g7b) ?_
        obtain ⟨e5, he5, hs⟩ := bE hs
        refine o_loc (F := [(3001600, .row 3 1 0 (mI q2.2.2.2))]) (F' := [(3001600, .row 3 1 0 (mI (List.set q2.2.2.2 (Int.toNat q2.1) (w64 (e4 + 1)))))]) (v := .no) [3001600] kr kr rfl kr (loc_storeRowT (L := (q2.2.2.2).length) (off := (Int.toNat q2.1) * 1 + 0) (els := (mI q2.2.2.2)) (cs := [.int .i64 e5]) (c' := [.int .i64 (w64 (e4 + 1))]) (Int.toNat q2.1) 0 kr (by first | (simp only [List.length_map, List.length_set, cpyT_length]; done) | rfl) rfl (by rw [← he5]; exact map_get _ (by first | omega | (simp only [List.length_set, cpyT_length]; omega))) (by first | exact Nat.zero_le _ | omega) kr kr kr kr kr kr List.map_set.symm) kr ?_
        refine oN (nT (vT (o_runh 3 [(60, .sl 1 60 1 0 1), (59, .int .i64 q2.1), (58, .gv 21 (qv true 1 v3.2.2 (List.length v3.2.1)))] [(60, .row 3 1 0 (mI [q2.1])), (3001600, .row 3 1 0 (mI (List.set q2.2.2.2 (Int.toNat q2.1) (w64 (e4 + 1))))), (21, .gen (que 3 1 v3.2.2 (mI v3.2.1))), (1000000, .box 99 [.vs 6 (mM enc_Def g_defs), .vs 1 (List.map (encL 1 EV.encI) g_uses)])] kr ?_)))
        obtain ⟨_, g8, hs⟩ := bS hs; replace g8 := grd_some g8
        refine o_loc (F := [(21, .gen (que 3 1 v3.2.2 (mI v3.2.1))), (60, .row 3 1 0 (mI [q2.1]))]) (F' := [(21, .gen (que 3 1 (v3.2.2 + 1) (mI (v3.2.1 ++ [q2.1])))), (60, .row 3 1 0 (mI [q2.1]))]) (v := .gv 21 (qv true 1 (v3.2.2 + 1) (List.length (v3.2.1 ++ [q2.1])))) [21, 60] kr kr rfl kr (loc_appendQ (e := 3) (sz := 1) (bytes := 8) (k := 21) (ver := v3.2.2) (n := (List.length v3.2.1)) (n' := (List.length (v3.2.1 ++ [q2.1]))) (els := (mI v3.2.1)) (ys := (mI [q2.1])) kr kr (by first | exact List.length_map .. | simp only [List.length_map]) (.sl (t := 3) (fz := 0) (ys := (mI [q2.1])) kr kr) (map_ones EV.encI (fun _ => rfl) _) (map_lens EV.encI (fun _ => rfl) _) kr kr (by exact (List.map_append ..).symm) (List.length_map ..) g8 (by omega)) kr ?_
        refine oR 1 [(6, .gv 21 (qv true 1 (v3.2.2 + 1) (List.length (v3.2.1 ++ [q2.1]))))] kr ?_
        refine oN ?_
        obtain rfl := si hs
        refine nrm_join ((v3.2.1 ++ [q2.1]), (v3.2.2 + 1), (List.set q2.2.2.2 (Int.toNat q2.1) (w64 (e4 + 1)))) rfl ?_
        exact Cut.trans (cut_eq 5 (v := .sl 1 3001600 ((q2.2.2.2).length) 0 ((q2.2.2.2).length)) (v' := .sl 1 3001600 (((List.set q2.2.2.2 (Int.toNat q2.1) (w64 (e4 + 1)))).length) 0 (((List.set q2.2.2.2 (Int.toNat q2.1) (w64 (e4 + 1)))).length)) kr (by first | rfl | simp only [List.length_set, cpyT_length])) (cut_of [0, 5, 6, 7, 33, 34, 35] [21, 3001600, 1000000] kr kr kr)
       ·replace hs := bif_f h4 hs
        refine vK ?_
        obtain rfl := si hs
        refine nrm_join (v3.2.1, v3.2.2, q2.2.2.2) rfl ?_
        exact cut_of [0, 5, 6, 7, 33, 34, 35] [21, 3001600, 1000000] kr kr kr
      ·subst hz; clear hs; have hs := hk4; clear hk4
       refine nB (nT (vT (oR 2 [(35, .int .i64 (w64 (q2.1 + 1))), (62, .int .i64 (w64 (q2.1 + 1)))] kr ?_)))
       refine oN (nrm_fuel ((w64 (q2.1 + 1)), v4.1, v4.2.1, v4.2.2) hs ?_)
       exact cut_of [0, 5, 6, 7, 33, 34, 35] [21, 3001600, 1000000] kr kr kr
    ·replace hs := bif_f h2 hs
     refine v_exit (exit_thenV (exit_fuel ?_))
     refine exit_blkV ?_
     obtain rfl := si hs
     refine nrm_join (q2.2.1, q2.2.2.1, q2.2.2.2) rfl ?_
     exact cut_of [0, 5, 6] [21, 3001600, 1000000] kr kr kr
   ·subst hz; clear hs; have hs := hk2; clear hk2
    refine nB (nrm_fuel (v2.1, v2.2.1, v2.2.2) hs ?_)
    exact cut_of [0, 5, 6] [21, 3001600, 1000000] kr kr kr
  ·replace hs := bif_f h1 hs
   refine v_exit (exit_thenV (exit_fuel ?_))
   refine exit_blkV ?_
   obtain rfl := si hs
   refine nrm_join q1.2.2 rfl ?_
   exact cut_of [5] [3001600, 1000000] kr kr kr
 ·subst hz; clear hs; have hs := hk1; clear hk1
  refine nT (vS (vT (oR 2 [(4, .sl 1 3001600 ((v1).length) 0 ((v1).length)), (63, .sl 1 3001600 ((v1).length) 0 ((v1).length))] kr ?_)))
  refine oN (nT (v_to _ [(3001600, .row 3 1 (((mI v1)).length) (mI v1)), (1000000, .box 99 [.vs 6 (mM enc_Def g_defs), .vs 1 (List.map (encL 1 EV.encI) g_uses)])] (cut_freeze (F := [(3001600, .row 3 1 0 (mI v1))]) [3001600] rfl kr kr) ?_))
  refine v_to ((4, .vs 1 (mI v1)) :: _) _ (cut_view (R := [(3001600, .row 3 1 (((mI v1)).length) (mI v1))]) (ks := [3001600]) kr kr (.row (t := 3) (fz := (((mI v1)).length)) kr (by first | (simp only [List.length_map, List.length_set, cpyT_length]; done) | rfl))) ?_
  refine v_ret ?_
  obtain rfl := si hs
  exact fin_ret kr kr kr
theorem w_define_graph_circle (g_defs : (List Def)) (g_uses : (List (List Int))) (from_ : Int) (r : (List (List UInt8)) × (List Def) × (List (List Int))) (hs : s_define_graph_circle g_defs g_uses from_ = some r) : FnA Try.prog 54 [.ptr 1000000 0 0, .int .i64 from_] [(1000000, .box 99 [.vs 6 (mM enc_Def g_defs), .vs 1 (List.map (encL 1 EV.encI) g_uses)])] (nz 1 (mS r.1)) [(1000000, .box 99 [.vs 6 (mM enc_Def r.2.1), .vs 1 (List.map (encL 1 EV.encI) r.2.2)])] := by
 refine fnA_of_wp (N := 67) Try.func54 rfl rfl rfl fun cK0 => ?_
 unfold s_define_graph_circle at hs
 refine v_same (ρ' := [(0, .ptr 1000000 0 0), (1, .int .i64 from_)]) rfl rfl ?_
 refine vS (vT (oR 1 [(4, .nils)] kr ?_))
 refine oN (nT (vS (vT (oR 2 [(12, .int .i64 from_), (11, .ptr 1000000 0 0)] kr ?_))))
 obtain ⟨y1, c1, hs⟩ := bS hs
 refine o_loc (F := [(1000000, .box 99 [.vs 6 (mM enc_Def g_defs), .vs 1 (List.map (encL 1 EV.encI) g_uses)])]) (F' := [(1000000, .box 99 [.vs 6 (mM enc_Def y1.2.1), .vs 1 (List.map (encL 1 EV.encI) y1.2.2)])]) (v := .vs 1 (mI y1.1)) [1000000] kr kr rfl kr (loc_g (R := []) [.ptr 1000000 0 0, .int .i64 from_] [(1000000, 1000000)] (callV_func hbv75 kr) (w_define_graph_distances g_defs g_uses from_ _ c1) (.cons (.same _) (.cons (.same _) (.nil))) kr kr kr kr kr kr kr kr) kr ?_
 refine oR 1 [(5, .vs 1 (mI y1.1))] kr ?_
 refine oN (nT (vS (vT (oR 1 [(6, .nils)] kr ?_))))
 refine oN (nT (vS (vT (oR 2 [(7, .int .i64 from_), (14, .int .i64 from_)] kr ?_))))
 refine oN (nT ?_)
 obtain ⟨z1, hs, hk1⟩ := bS hs
 refine v_join (S := Unit) (fun u => False) (fun u => []) (fun u => []) ?_ (fun v1 hz => ?_)
 ·refine vB ?_
  refine v_fuel (S := Int × (List (List UInt8))) (fun u => [(0, .ptr 1000000 0 0), (1, .int .i64 from_), (5, .vs 1 (mI y1.1)), (6, .sl 1 2000015 ((u.2).length) 0 ((u.2).length)), (7, .int .i64 u.1)]) (fun u => [(1000000, .box 99 [.vs 6 (mM enc_Def y1.2.1), .vs 1 (List.map (encL 1 EV.encI) y1.2.2)]), (2000015, .row 9 1 0 (mS u.2))]) (s_define_graph_circle_L1 from_ y1) (fun _ => rfl) KK (from_, []) hs (Cut.trans (cut_nilRow 6 2000015 9 1 rfl kr kr) (cut_of [0, 1, 5, 6, 7] [1000000, 2000015] kr kr kr)) (fun K1 q1 hs => ?_)
  rw [s_define_graph_circle_L1] at hs
  show WpV cK0 Try.prog none 67 _ _ [(0, .ptr 1000000 0 0), (1, .int .i64 from_), (5, .vs 1 (mI y1.1)), (6, .sl 1 2000015 ((q1.2).length) 0 ((q1.2).length)), (7, .int .i64 q1.1)] [(1000000, .box 99 [.vs 6 (mM enc_Def y1.2.1), .vs 1 (List.map (encL 1 EV.encI) y1.2.2)]), (2000015, .row 9 1 0 (mS q1.2))] []
  refine vB (vS (vT (oR 6 [(20, .int .i64 q1.1), (19, .vs 6 (mM enc_Def y1.2.1)), (18, .ptr 1000000 0 0), (17, .ptr 1000000 0 0), (16, .ptr 1000000 0 0), (15, .sl 1 2000015 ((q1.2).length) 0 ((q1.2).length))] kr ?_)))
  obtain ⟨x1, g1, hs⟩ := bS hs; obtain ⟨g1a, g1b, g1c⟩ := idx_some g1
  refine oP (v := .vp (enc_Def x1) 0) kr kr (loc_indexVs (e := 46) (sz := 6) (k := .i64) (els := (mM enc_Def y1.2.1)) (cs := (enc_Def x1)) kr kr kr g1a (by rw [g1c]; exact map_get _ (by omega))) ?_
  refine o_runh 3 [(24, .sl 1 24 1 0 1), (23, .str x1.Name), (22, .vp (enc_Def x1) 0)] [(24, .row 9 1 0 (mS [x1.Name])), (1000000, .box 99 [.vs 6 (mM enc_Def y1.2.1), .vs 1 (List.map (encL 1 EV.encI) y1.2.2)]), (2000015, .row 9 1 0 (mS q1.2))] kr ?_
  obtain ⟨_, g2, hs⟩ := bS hs; replace g2 := grd_some g2
  refine o_loc (F := [(2000015, .row 9 1 0 (mS q1.2)), (24, .row 9 1 0 (mS [x1.Name]))]) (F' := [(2000015, .row 9 1 0 (mS (q1.2 ++ [x1.Name]))), (24, .row 9 1 0 (mS [x1.Name]))]) (v := .sl 1 2000015 (((q1.2 ++ [x1.Name])).length) 0 (((q1.2 ++ [x1.Name])).length)) [2000015, 24] kr kr rfl kr (loc_appendT (e := 9) (sz := 1) (bytes := 16) (L := (q1.2).length) (els := (mS q1.2)) (ys := (mS [x1.Name])) kr kr (by first | exact List.length_map .. | rfl) (.sl (t := 9) (fz := 0) (ys := (mS [x1.Name])) kr kr) (map_ones EV.encS (fun _ => rfl) _) (map_lens EV.encS (fun _ => rfl) _) kr (by first | exact (List.map_append ..).symm | rfl | simp only [List.map_nil, List.nil_append]) (List.length_map ..) g2 (by omega)) kr ?_
  refine oR 1 [(6, .sl 1 2000015 (((q1.2 ++ [x1.Name])).length) 0 (((q1.2 ++ [x1.Name])).length))] kr ?_
  refine oN (nT (vS (vT (oR 1 [(8, .int .i64 (-1))] kr ?_))))
  refine oN (nT (vS (vS (vT (oR 5 [(30, .int .i64 q1.1), (29, .vs 1 (List.map (encL 1 EV.encI) y1.2.2)), (28, .ptr 1000000 0 1), (27, .ptr 1000000 0 0), (26, .ptr 1000000 0 0)] kr ?_)))))
  obtain ⟨x2, g3, hs⟩ := bS hs; obtain ⟨g3a, g3b, g3c⟩ := idx_some g3
  refine oP (v := .vp [.vs 1 (mI x2)] 0) kr kr (loc_indexVs (e := 33) (sz := 1) (k := .i64) (els := (List.map (encL 1 EV.encI) y1.2.2)) (cs := ((encL 1 EV.encI) x2)) kr kr kr g3a (by rw [g3c]; exact map_get _ (by omega))) ?_
  refine oR 1 [(32, .vs 1 (mI x2))] kr ?_
  refine oP (v := .int .i64 (List.length x2 : Int)) kr kr (loc_lenVs (sz := 1) (els := (mI x2)) kr kr (List.length_map ..)) ?_
  refine oR 1 [(34, .int .i64 0)] kr ?_
  refine oN (nT ?_)
  obtain ⟨z2, hs, hk2⟩ := bS hs
  refine v_join (S := Int) (fun u => u = z2) (fun u => [(0, .ptr 1000000 0 0), (1, .int .i64 from_), (5, .vs 1 (mI y1.1)), (6, .sl 1 2000015 (((q1.2 ++ [x1.Name])).length) 0 (((q1.2 ++ [x1.Name])).length)), (8, .int .i64 u)]) (fun u => [(2000015, .row 9 1 0 (mS (q1.2 ++ [x1.Name]))), (1000000, .box 99 [.vs 6 (mM enc_Def y1.2.1), .vs 1 (List.map (encL 1 EV.encI) y1.2.2)])]) ?_ (fun v2 hz => ?_)
  ·refine vB ?_
   refine v_fuel (S := Int × Int) (fun u => [(0, .ptr 1000000 0 0), (1, .int .i64 from_), (5, .vs 1 (mI y1.1)), (6, .sl 1 2000015 (((q1.2 ++ [x1.Name])).length) 0 (((q1.2 ++ [x1.Name])).length)), (8, .int .i64 u.1), (32, .vs 1 (mI x2)), (33, .int .i64 (List.length x2 : Int)), (34, .int .i64 u.2)]) (fun u => [(2000015, .row 9 1 0 (mS (q1.2 ++ [x1.Name]))), (1000000, .box 99 [.vs 6 (mM enc_Def y1.2.1), .vs 1 (List.map (encL 1 EV.encI) y1.2.2)])]) (s_define_graph_circle_L2 y1 x2) (fun _ => rfl) KK ((-1), 0) hs (cut_of [0, 1, 5, 6, 8, 32, 33, 34] [2000015, 1000000] kr kr kr) (fun K2 q2 hs => ?_)
   rw [s_define_graph_circle_L2] at hs
   show WpV cK0 Try.prog none 67 _ _ [(0, .ptr 1000000 0 0), (1, .int .i64 from_), (5, .vs 1 (mI y1.1)), (6, .sl 1 2000015 (((q1.2 ++ [x1.Name])).length) 0 (((q1.2 ++ [x1.Name])).length)), (8, .int .i64 q2.1), (32, .vs 1 (mI x2)), (33, .int .i64 (List.length x2 : Int)), (34, .int .i64 q2.2)] [(2000015, .row 9 1 0 (mS (q1.2 ++ [x1.Name]))), (1000000, .box 99 [.vs 6 (mM enc_Def y1.2.1), .vs 1 (List.map (encL 1 EV.encI) y1.2.2)])] []
   refine vS (vT (oR 1 [(35, .bool (decide (q2.2 < (List.length x2 : Int))))] kr ?_))
   refine oN (nT (vS ?_))
   refine v_cond (decide (q2.2 < (List.length x2 : Int))) kr (fun h1 => ?_) (fun h1 => ?_)
   ·replace hs := bif_t h1 hs
    refine vK (nT (vS (vB (vS (vT ?_)))))
    obtain ⟨x3, g4, hs⟩ := bS hs; obtain ⟨g4a, g4b, g4c⟩ := idx_some g4
    refine oP (v := .vp [.int .i64 x3] 0) kr kr (loc_indexVs (e := 3) (sz := 1) (k := .i64) (els := (mI x2)) (cs := (EV.encI x3)) kr kr kr g4a (by rw [g4c]; exact map_get _ (by omega))) ?_
    refine oR 2 [(10, .int .i64 x3), (37, .int .i64 x3)] kr ?_
    refine oN (nT (vS ?_))
    obtain ⟨z3, hs, hk3⟩ := bS hs
    refine v_join (S := Bool) (fun u => u = z3) (fun u => [(0, .ptr 1000000 0 0), (1, .int .i64 from_), (5, .vs 1 (mI y1.1)), (6, .sl 1 2000015 (((q1.2 ++ [x1.Name])).length) 0 (((q1.2 ++ [x1.Name])).length)), (8, .int .i64 q2.1), (10, .int .i64 x3), (32, .vs 1 (mI x2)), (33, .int .i64 (List.length x2 : Int)), (34, .int .i64 q2.2), (57, .bool u)]) (fun u => [(2000015, .row 9 1 0 (mS (q1.2 ++ [x1.Name]))), (1000000, .box 99 [.vs 6 (mM enc_Def y1.2.1), .vs 1 (List.map (encL 1 EV.encI) y1.2.2)])]) ?_ (fun v3 hz => ?_)
    ·refine v_draw mixedH kr ?_
     refine d_runs 2 0 [(39, .int .i64 x3), (38, .vs 1 (mI y1.1))] (pfp 2 1) kr kr ?_
     obtain ⟨x4, g5, hs⟩ := bS hs; obtain ⟨g5a, g5b, g5c⟩ := idx_some g5
     refine d_pure (v := .vp [.int .i64 x4] 0) 2 rfl rfl rfl rfl kr kr (loc_indexVs (e := 3) (sz := 1) (k := .i64) (els := (mI y1.1)) (cs := (EV.encI x4)) kr kr kr g5a (by rw [g5c]; exact map_get _ (by omega))) ?_
     refine d_runs 3 3 [(43, .bool (decide (x4 ≥ 0))), (42, .bool (decide (x4 ≥ 0))), (41, .int .i64 x4)] (pfp 3 5) kr kr ?_
     cases h2 : ((decide (x4 ≥ 0)))
     ·replace hs := bif_f h2 hs
      refine d_runs 14 6 [(57, .bool false), (56, .no), (55, .no), (54, .no), (53, .no), (52, .no), (51, .no), (50, .no), (49, .no), (48, .no), (47, .no), (46, .no), (45, .no), (44, .no)] (pfp 14 19) kr kr ?_
      refine d_nil kr ?_
      obtain rfl := si hs
      refine nrm_join false rfl ?_
      exact cut_of [0, 1, 5, 6, 8, 10, 32, 33, 34, 57] [2000015, 1000000] kr kr kr
     ·replace hs := bif_t h2 hs
      refine d_runs 3 6 [(46, .bool (decide (q2.1 < 0))), (45, .bool (decide (q2.1 < 0))), (44, .int .i64 q2.1)] (pfp 3 8) kr kr ?_
      cases h3 : ((decide (q2.1 < 0)))
      ·replace hs := bif_f h3 hs
       refine d_runs 2 9 [(48, .int .i64 x3), (47, .vs 1 (mI y1.1))] (pfp 2 10) kr kr ?_
       obtain ⟨x5, g6, hs⟩ := bS hs; obtain ⟨g6a, g6b, g6c⟩ := idx_some g6
       refine d_pure (v := .vp [.int .i64 x5] 0) 11 rfl rfl rfl rfl kr kr (loc_indexVs (e := 3) (sz := 1) (k := .i64) (els := (mI y1.1)) (cs := (EV.encI x5)) kr kr kr g6a (by rw [g6c]; exact map_get _ (by omega))) ?_
       refine d_runs 3 12 [(52, .int .i64 q2.1), (51, .vs 1 (mI y1.1)), (50, .int .i64 x5)] (pfp 3 14) kr kr ?_
       obtain ⟨x6, g7, hs⟩ := bS hs; obtain ⟨g7a, g7b, g7c⟩ := idx_some g7
       refine d_pure (v := .vp [.int .i64 x6] 0) 15 rfl rfl rfl rfl kr kr (loc_indexVs (e := 3) (sz := 1) (k := .i64) (els := (mI y1.1)) (cs := (EV.encI x6)) kr kr kr g7a (by rw [g7c]; exact map_get _ (by omega))) ?_
       refine d_runs 4 16 [(57, .bool (decide (x5 < x6))), (56, .bool (decide (x5 < x6))), (55, .bool (decide (x5 < x6))), (54, .int .i64 x6)] (pfp 4 19) kr kr ?_
       refine d_nil kr ?_
       obtain rfl := si hs
       refine nrm_join (decide (x5 < x6)) rfl ?_
       exact cut_of [0, 1, 5, 6, 8, 10, 32, 33, 34, 57] [2000015, 1000000] kr kr kr
      ·replace hs := bif_t h3 hs
       refine d_runs 11 9 [(57, .bool true), (56, .bool true), (55, .no), (54, .no), (53, .no), (52, .no), (51, .no), (50, .no), (49, .no), (48, .no), (47, .no)] (pfp 11 19) kr kr ?_
       refine d_nil kr ?_
       obtain rfl := si hs
       refine nrm_join true rfl ?_
       exact cut_of [0, 1, 5, 6, 8, 10, 32, 33, 34, 57] [2000015, 1000000] kr kr kr
    ·subst hz; clear hs; have hs := hk3; clear hk3
     refine nT ?_
     obtain ⟨z4, hs, hk4⟩ := bS hs
     refine v_join (S := Int) (fun u => u = z4) (fun u => [(0, .ptr 1000000 0 0), (1, .int .i64 from_), (5, .vs 1 (mI y1.1)), (6, .sl 1 2000015 (((q1.2 ++ [x1.Name])).length) 0 (((q1.2 ++ [x1.Name])).length)), (8, .int .i64 u), (32, .vs 1 (mI x2)), (33, .int .i64 (List.length x2 : Int)), (34, .int .i64 q2.2)]) (fun u => [(2000015, .row 9 1 0 (mS (q1.2 ++ [x1.Name]))), (1000000, .box 99 [.vs 6 (mM enc_Def y1.2.1), .vs 1 (List.map (encL 1 EV.encI) y1.2.2)])]) ?_ (fun v4 hz => ?_)
     ·refine v_cond v3 kr (fun h4 => ?_) (fun h4 => ?_)
      ·replace hs := bif_t h4 hs
       refine vT (oR 2 [(8, .int .i64 x3), (58, .int .i64 x3)] kr ?_)
       refine oN ?_
       obtain rfl := si hs
       refine nrm_join x3 rfl ?_
       exact cut_of [0, 1, 5, 6, 8, 32, 33, 34] [2000015, 1000000] kr kr kr
      ·replace hs := bif_f h4 hs
       refine vK ?_
       obtain rfl := si hs
       refine nrm_join q2.1 rfl ?_
       exact cut_of [0, 1, 5, 6, 8, 32, 33, 34] [2000015, 1000000] kr kr kr
     ·subst hz; clear hs; have hs := hk4; clear hk4
      refine nB (nT (vT (oR 2 [(34, .int .i64 (w64 (q2.2 + 1))), (59, .int .i64 (w64 (q2.2 + 1)))] kr ?_)))
      refine oN (nrm_fuel (v4, (w64 (q2.2 + 1))) hs ?_)
      exact cut_of [0, 1, 5, 6, 8, 32, 33, 34] [2000015, 1000000] kr kr kr
   ·replace hs := bif_f h1 hs
    refine v_exit (exit_thenV (exit_fuel ?_))
    refine exit_blkV ?_
    obtain rfl := si hs
    refine nrm_join q2.1 rfl ?_
    exact cut_of [0, 1, 5, 6, 8] [2000015, 1000000] kr kr kr
  ·subst hz; clear hs; have hs := hk2; clear hk2
   refine nT (vS (vS (vT (oR 2 [(61, .bool (decide (v2 < 0))), (60, .int .i64 v2)] kr ?_))))
   refine oN (nT ?_)
   refine v_cond (decide (v2 < 0)) kr (fun h5 => ?_) (fun h5 => ?_)
   ·replace hs := bif_t h5 hs
    refine vS (vT (oR 1 [(4, .nils)] kr ?_))
    refine oN (nT (v_to ((4, nz 1 (mS [])) :: _) _ (cut_view (t := 4) (v := nz 1 (mS [])) [] [] rfl rfl (.weak (nz_nil rfl))) ?_))
    refine v_ret (rT (rB (ret_fuel ?_)))
    refine rB (ret_join ?_)
    obtain rfl := si hs
    replace hs := hk1
    obtain rfl := si hs
    exact fin_ret kr kr kr
   ·replace hs := bif_f h5 hs
    refine vK (nT (vS (vS (vT (oR 3 [(64, .bool (decide (v2 = from_))), (63, .int .i64 from_), (62, .int .i64 v2)] kr ?_)))))
    refine oN (nT ?_)
    refine v_cond (decide (v2 = from_)) kr (fun h6 => ?_) (fun h6 => ?_)
    ·replace hs := bif_t h6 hs
     refine vS (vT (oR 2 [(4, .sl 1 2000015 (((q1.2 ++ [x1.Name])).length) 0 (((q1.2 ++ [x1.Name])).length)), (65, .sl 1 2000015 (((q1.2 ++ [x1.Name])).length) 0 (((q1.2 ++ [x1.Name])).length))] kr ?_))
     refine oN (nT (v_to _ [(2000015, .row 9 1 (((mS (q1.2 ++ [x1.Name]))).length) (mS (q1.2 ++ [x1.Name]))), (1000000, .box 99 [.vs 6 (mM enc_Def y1.2.1), .vs 1 (List.map (encL 1 EV.encI) y1.2.2)])] (cut_freeze (F := [(2000015, .row 9 1 0 (mS (q1.2 ++ [x1.Name])))]) [2000015] rfl kr kr) ?_))
     refine v_to ((4, .vs 1 (mS (q1.2 ++ [x1.Name]))) :: _) _ (cut_view (R := [(2000015, .row 9 1 (((mS (q1.2 ++ [x1.Name]))).length) (mS (q1.2 ++ [x1.Name])))]) (ks := [2000015]) kr kr (.row (t := 9) (fz := (((mS (q1.2 ++ [x1.Name]))).length)) kr (by first | (simp only [List.length_map, List.length_set, cpyT_length]; done) | rfl))) ?_
     obtain ⟨_, g8, hs⟩ := bS hs; replace g8 := grd_some g8
     refine v_to ((4, nz 1 (mS (q1.2 ++ [x1.Name]))) :: _) _ (cut_view (t := 4) (v := nz 1 (mS (q1.2 ++ [x1.Name]))) [] [] rfl rfl (.weak (nz_map g8))) ?_
     refine v_ret (rT (rB (ret_fuel ?_)))
     refine rB (ret_join ?_)
     obtain rfl := si hs
     replace hs := hk1
     obtain rfl := si hs
     exact fin_ret kr kr kr
    ·replace hs := bif_f h6 hs
     refine vK (nT (vT (oR 2 [(7, .int .i64 v2), (66, .int .i64 v2)] kr ?_)))
     refine oN (nB (nrm_fuel (v2, (q1.2 ++ [x1.Name])) hs ?_))
     exact cut_of [0, 1, 5, 6, 7] [1000000, 2000015] kr kr kr
 ·exact hz.elim
theorem w_cmp_isNaN (x : (List UInt8)) (r : Bool) (hs : s_cmp_isNaN x = some r) : FnA Try.prog 91 [.str x] [] (.bool r) [] := by
 refine fnA_of_wp (N := 6) Try.func91 rfl rfl rfl fun cK0 => ?_
 unfold s_cmp_isNaN at hs
 refine v_same (ρ' := [(0, .str x)]) rfl rfl ?_
 refine vS (vT (oR 1 [(2, .bool false)] kr ?_))
 refine oN (nT (vS (vT (oR 4 [(2, .bool (!(decide (x = x)))), (5, .bool (!(decide (x = x)))), (4, .str x), (3, .str x)] kr ?_))))
 refine oN (nT (v_ret ?_))
 obtain rfl := si hs
 exact fin_ret kr kr kr
theorem w_cmp_Compare (x : (List UInt8)) (y : (List UInt8)) (r : Int) (hs : s_cmp_Compare x y = some r) : FnA Try.prog 76 [.str x, .str y] [] (.int .i64 r) [] := by
 refine fnA_of_wp (N := 20) Try.func76 rfl rfl rfl fun cK0 => ?_
 unfold s_cmp_Compare at hs
 refine v_same (ρ' := [(0, .str x), (1, .str y)]) rfl rfl ?_
 refine vS (vT (oR 1 [(4, .int .i64 0)] kr ?_))
 refine oN (nT (vS (vT (oR 1 [(7, .str x)] kr ?_))))
 obtain ⟨y1, c1, hs⟩ := bS hs
 refine oP (v := .bool y1) kr kr (loc_gcall0 (callV_func hbv91 kr) (w_cmp_isNaN x _ c1) kr) ?_
 refine oR 1 [(5, .bool y1)] kr ?_
 refine oN (nT (vS (vT (oR 1 [(9, .str y)] kr ?_))))
 obtain ⟨y2, c2, hs⟩ := bS hs
 refine oP (v := .bool y2) kr kr (loc_gcall0 (callV_func hbv91 kr) (w_cmp_isNaN y _ c2) kr) ?_
 refine oR 1 [(6, .bool y2)] kr ?_
 refine oN (nT (vS (vS (vT (oR 1 [(11, .bool y1)] kr ?_)))))
 refine oN (nT ?_)
 refine v_cond y1 kr (fun h1 => ?_) (fun h1 => ?_)
 ·replace hs := bif_t h1 hs
  refine vS (vS (vT (oR 1 [(12, .bool y2)] kr ?_)))
  refine oN (nT ?_)
  refine v_cond y2 kr (fun h2 => ?_) (fun h2 => ?_)
  ·replace hs := bif_t h2 hs
   refine vS (vT (oR 1 [(4, .int .i64 0)] kr ?_))
   refine oN (nT (v_ret (rT (rT ?_))))
   obtain rfl := si hs
   exact fin_ret kr kr kr
  ·replace hs := bif_f h2 hs
   refine vK (nT (vS (vT (oR 1 [(4, .int .i64 (-1))] kr ?_))))
   refine oN (nT (v_ret (rT ?_)))
   obtain rfl := si hs
   exact fin_ret kr kr kr
 ·replace hs := bif_f h1 hs
  refine vK (nT (vS (vS (vT (oR 1 [(13, .bool y2)] kr ?_)))))
  refine oN (nT ?_)
  refine v_cond y2 kr (fun h3 => ?_) (fun h3 => ?_)
  ·replace hs := bif_t h3 hs
   refine vS (vT (oR 1 [(4, .int .i64 1)] kr ?_))
   refine oN (nT (v_ret (rT ?_)))
   obtain rfl := si hs
   exact fin_ret kr kr kr
  ·replace hs := bif_f h3 hs
   refine vK (nT (vS (vS (vT (oR 3 [(16, .bool (Op.bytesLess x y)), (15, .str y), (14, .str x)] kr ?_)))))
   refine oN (nT ?_)
   refine v_cond (Op.bytesLess x y) kr (fun h4 => ?_) (fun h4 => ?_)
   ·replace hs := bif_t h4 hs
    refine vS (vT (oR 1 [(4, .int .i64 (-1))] kr ?_))
    refine oN (nT (v_ret (rT ?_)))
    obtain rfl := si hs
    exact fin_ret kr kr kr
   ·replace hs := bif_f h4 hs
    refine vK (nT (vS (vS (vT (oR 3 [(19, .bool (!((Op.bytesLess x y) || (decide (x = y))))), (18, .str y), (17, .str x)] kr ?_)))))
    refine oN (nT ?_)
    refine v_cond (!((Op.bytesLess x y) || (decide (x = y)))) kr (fun h5 => ?_) (fun h5 => ?_)
    ·replace hs := bif_t h5 hs
     refine vS (vT (oR 1 [(4, .int .i64 1)] kr ?_))
     refine oN (nT (v_ret (rT ?_)))
     obtain rfl := si hs
     exact fin_ret kr kr kr
    ·replace hs := bif_f h5 hs
     refine vK (nT (vS (vT (oR 1 [(4, .int .i64 0)] kr ?_))))
     refine oN (nT (v_ret ?_))
     obtain rfl := si hs
     exact fin_ret kr kr kr
theorem w_slices_Compare (s1 : (List (List UInt8))) (s2 : (List (List UInt8))) (r : Int) (hs : s_slices_Compare s1 s2 = some r) : FnA Try.prog 55 [.vs 1 (mS s1), .vs 1 (mS s2)] [] (.int .i64 r) [] := by
 refine fnA_of_wp (N := 36) Try.func55 rfl rfl rfl fun cK0 => ?_
 unfold s_slices_Compare at hs
 refine v_same (ρ' := [(0, .vs 1 (mS s1)), (1, .vs 1 (mS s2))]) rfl rfl ?_
 refine vS (vT (oR 1 [(4, .int .i64 0)] kr ?_))
 refine oN (nT (vS (vS (vT (oR 1 [(9, .vs 1 (mS s1))] kr ?_)))))
 refine oP (v := .int .i64 (List.length s1 : Int)) kr kr (loc_lenVs (sz := 1) (els := (mS s1)) kr kr (List.length_map ..)) ?_
 refine oR 1 [(11, .int .i64 0)] kr ?_
 refine oN (nT ?_)
 obtain ⟨z1, hs, hk1⟩ := bS hs
 refine v_join (S := Unit) (fun u => z1 = .inr u) (fun u => [(0, .vs 1 (mS s1)), (1, .vs 1 (mS s2))]) (fun u => []) ?_ (fun v1 hz => ?_)
 ·refine vB ?_
  refine v_fuel (S := Int) (fun u => [(0, .vs 1 (mS s1)), (1, .vs 1 (mS s2)), (9, .vs 1 (mS s1)), (10, .int .i64 (List.length s1 : Int)), (11, .int .i64 u)]) (fun u => []) (s_slices_Compare_L1 s1 s2) (fun _ => rfl) KK 0 hs (cut_of [0, 1, 9, 10, 11] [] kr kr kr) (fun K1 q1 hs => ?_)
  rw [s_slices_Compare_L1] at hs
  show WpV cK0 Try.prog none 36 _ _ [(0, .vs 1 (mS s1)), (1, .vs 1 (mS s2)), (9, .vs 1 (mS s1)), (10, .int .i64 (List.length s1 : Int)), (11, .int .i64 q1)] [] []
  refine vS (vT (oR 1 [(12, .bool (decide (q1 < (List.length s1 : Int))))] kr ?_))
  refine oN (nT (vS ?_))
  refine v_cond (decide (q1 < (List.length s1 : Int))) kr (fun h1 => ?_) (fun h1 => ?_)
  ·replace hs := bif_t h1 hs
   refine vK (nT (vS (vB (vS (vT (oR 1 [(13, .int .i64 q1)] kr ?_))))))
   obtain ⟨x1, g1, hs⟩ := bS hs; obtain ⟨g1a, g1b, g1c⟩ := idx_some g1
   refine oP (v := .vp [.str x1] 0) kr kr (loc_indexVs (e := 9) (sz := 1) (k := .i64) (els := (mS s1)) (cs := (EV.encS x1)) kr kr kr g1a (by rw [g1c]; exact map_get _ (by omega))) ?_
   refine oR 3 [(6, .str x1), (5, .int .i64 q1), (15, .str x1)] kr ?_
   refine oN (nT (vS (vS (vT (oR 2 [(17, .vs 1 (mS s2)), (16, .int .i64 q1)] kr ?_)))))
   refine oP (v := .int .i64 (List.length s2 : Int)) kr kr (loc_lenVs (sz := 1) (els := (mS s2)) kr kr (List.length_map ..)) ?_
   refine oR 1 [(19, .bool (decide (q1 ≥ (List.length s2 : Int))))] kr ?_
   refine oN (nT ?_)
   refine v_cond (decide (q1 ≥ (List.length s2 : Int))) kr (fun h2 => ?_) (fun h2 => ?_)
   ·replace hs := bif_t h2 hs
    refine vS (vT (oR 1 [(4, .int .i64 1)] kr ?_))
    refine oN (nT (v_ret (rT (rB (rT (ret_fuel ?_))))))
    refine rB (ret_join ?_)
    refine rT ?_
    obtain rfl := si hs
    replace hs := hk1
    obtain rfl := si hs
    exact fin_ret kr kr kr
   ·replace hs := bif_f h2 hs
    refine vK (nT (vS (vT (oR 2 [(21, .int .i64 q1), (20, .vs 1 (mS s2))] kr ?_))))
    obtain ⟨x2, g2, hs⟩ := bS hs; obtain ⟨g2a, g2b, g2c⟩ := idx_some g2
    refine oP (v := .vp [.str x2] 0) kr kr (loc_indexVs (e := 9) (sz := 1) (k := .i64) (els := (mS s2)) (cs := (EV.encS x2)) kr kr kr g2a (by rw [g2c]; exact map_get _ (by omega))) ?_
    refine oR 2 [(7, .str x2), (23, .str x2)] kr ?_
    refine oN (nT (vS (vT (oR 2 [(25, .str x2), (24, .str x1)] kr ?_))))
    obtain ⟨y1, c1, hs⟩ := bS hs
    refine oP (v := .int .i64 y1) kr kr (loc_gcall0 (callV_func hbv76 kr) (w_cmp_Compare x1 x2 _ c1) kr) ?_
    refine oR 1 [(8, .int .i64 y1)] kr ?_
    refine oN (nT (vS (vT (oR 2 [(28, .bool (!(decide (y1 = 0)))), (27, .int .i64 y1)] kr ?_))))
    refine oN (nT ?_)
    refine v_cond (!(decide (y1 = 0))) kr (fun h3 => ?_) (fun h3 => ?_)
    ·replace hs := bif_t h3 hs
     refine vS (vT (oR 2 [(4, .int .i64 y1), (29, .int .i64 y1)] kr ?_))
     refine oN (nT (v_ret (rB (rT (ret_fuel ?_)))))
     refine rB (ret_join ?_)
     refine rT ?_
     obtain rfl := si hs
     replace hs := hk1
     obtain rfl := si hs
     exact fin_ret kr kr kr
    ·replace hs := bif_f h3 hs
     refine vK (nB (nT (vT (oR 2 [(11, .int .i64 (w64 (q1 + 1))), (30, .int .i64 (w64 (q1 + 1)))] kr ?_))))
     refine oN (nrm_fuel (w64 (q1 + 1)) hs ?_)
     exact cut_of [0, 1, 9, 10, 11] [] kr kr kr
  ·replace hs := bif_f h1 hs
   refine v_exit (exit_thenV (exit_fuel ?_))
   refine exit_blkV ?_
   obtain rfl := si hs
   refine nrm_join () rfl ?_
   exact cut_of [0, 1] [] kr kr kr
 ·subst hz; clear hs; have hs := hk1; clear hk1
  refine nT (vS (vS (vT (oR 1 [(31, .vs 1 (mS s1))] kr ?_))))
  refine oP (v := .int .i64 (List.length s1 : Int)) kr kr (loc_lenVs (sz := 1) (els := (mS s1)) kr kr (List.length_map ..)) ?_
  refine oR 1 [(33, .vs 1 (mS s2))] kr ?_
  refine oP (v := .int .i64 (List.length s2 : Int)) kr kr (loc_lenVs (sz := 1) (els := (mS s2)) kr kr (List.length_map ..)) ?_
  refine oR 1 [(35, .bool (decide ((List.length s1 : Int) < (List.length s2 : Int))))] kr ?_
  refine oN (nT ?_)
  refine v_cond (decide ((List.length s1 : Int) < (List.length s2 : Int))) kr (fun h4 => ?_) (fun h4 => ?_)
  ·replace hs := bif_t h4 hs
   refine vS (vT (oR 1 [(4, .int .i64 (-1))] kr ?_))
   refine oN (nT (v_ret (rT ?_)))
   obtain rfl := si hs
   exact fin_ret kr kr kr
  ·replace hs := bif_f h4 hs
   refine vK (nT (vS (vT (oR 1 [(4, .int .i64 0)] kr ?_))))
   refine oN (nT (v_ret ?_))
   obtain rfl := si hs
   exact fin_ret kr kr kr
theorem w_define_graph_smallest (g_defs : (List Def)) (g_uses : (List (List Int))) (r : (List (List UInt8)) × (List Def) × (List (List Int))) (hs : s_define_graph_smallest g_defs g_uses = some r) : FnA Try.prog 36 [.ptr 1000000 0 0] [(1000000, .box 99 [.vs 6 (mM enc_Def g_defs), .vs 1 (List.map (encL 1 EV.encI) g_uses)])] (nz 1 (mS r.1)) [(1000000, .box 99 [.vs 6 (mM enc_Def r.2.1), .vs 1 (List.map (encL 1 EV.encI) r.2.2)])] := by
 refine fnA_of_wp (N := 44) Try.func36 rfl rfl rfl fun cK0 => ?_
 unfold s_define_graph_smallest at hs
 refine v_same (ρ' := [(0, .ptr 1000000 0 0)]) rfl rfl ?_
 refine vS (vT (oR 1 [(2, .nils)] kr ?_))
 refine oN (nT (vS (vT (oR 1 [(3, .nils)] kr ?_))))
 refine oN (nT (vS (vS (vT (oR 4 [(9, .vs 6 (mM enc_Def g_defs)), (8, .ptr 1000000 0 0), (7, .ptr 1000000 0 0), (6, .ptr 1000000 0 0)] kr ?_)))))
 refine oP (v := .int .i64 (List.length g_defs : Int)) kr kr (loc_lenVs (sz := 6) (els := (mM enc_Def g_defs)) kr kr (List.length_map ..)) ?_
 refine oR 1 [(11, .int .i64 0)] kr ?_
 refine oN (nT ?_)
 obtain ⟨z1, hs, hk1⟩ := bS hs
 refine v_join (S := (List (List UInt8)) × (List Def) × (List (List Int))) (fun u => u = z1) (fun u => [(3, nz 1 (mS u.1))]) (fun u => [(1000000, .box 99 [.vs 6 (mM enc_Def u.2.1), .vs 1 (List.map (encL 1 EV.encI) u.2.2)])]) ?_ (fun v1 hz => ?_)
 ·refine vB ?_
  refine v_fuel (S := (List (List UInt8)) × Int × (List Def) × (List (List Int))) (fun u => [(0, .ptr 1000000 0 0), (3, nz 1 (mS u.1)), (10, .int .i64 (List.length g_defs : Int)), (11, .int .i64 u.2.1)]) (fun u => [(1000000, .box 99 [.vs 6 (mM enc_Def u.2.2.1), .vs 1 (List.map (encL 1 EV.encI) u.2.2.2)])]) (s_define_graph_smallest_L1 g_defs) (fun _ => rfl) KK ([], 0, g_defs, g_uses) hs (Cut.trans (cut_view (t := 3) (v := nz 1 (mS [])) [] [] rfl rfl (.weak (nz_nil rfl))) (cut_of [0, 3, 10, 11] [1000000] kr kr kr)) (fun K1 q1 hs => ?_)
  rw [s_define_graph_smallest_L1] at hs
  show WpV cK0 Try.prog none 44 _ _ [(0, .ptr 1000000 0 0), (3, nz 1 (mS q1.1)), (10, .int .i64 (List.length g_defs : Int)), (11, .int .i64 q1.2.1)] [(1000000, .box 99 [.vs 6 (mM enc_Def q1.2.2.1), .vs 1 (List.map (encL 1 EV.encI) q1.2.2.2)])] []
  refine vS (vT (oR 1 [(12, .bool (decide (q1.2.1 < (List.length g_defs : Int))))] kr ?_))
  refine oN (nT (vS ?_))
  refine v_cond (decide (q1.2.1 < (List.length g_defs : Int))) kr (fun h1 => ?_) (fun h1 => ?_)
  ·replace hs := bif_t h1 hs
   refine vK (nT (vS ?_))
   obtain ⟨z2, hs, hk2⟩ := bS hs
   refine v_join (S := (List (List UInt8)) × (List Def) × (List (List Int))) (fun u => u = z2) (fun u => [(0, .ptr 1000000 0 0), (3, nz 1 (mS u.1)), (10, .int .i64 (List.length g_defs : Int)), (11, .int .i64 q1.2.1)]) (fun u => [(1000000, .box 99 [.vs 6 (mM enc_Def u.2.1), .vs 1 (List.map (encL 1 EV.encI) u.2.2)])]) ?_ (fun v2 hz => ?_)
   ·refine vB (vS (vT (oR 2 [(4, .int .i64 q1.2.1), (13, .int .i64 q1.2.1)] kr ?_)))
    refine oN (nT (vS (vT (oR 2 [(15, .int .i64 q1.2.1), (14, .ptr 1000000 0 0)] kr ?_))))
    obtain ⟨y1, c1, hs⟩ := bS hs
    refine o_loc (F := [(1000000, .box 99 [.vs 6 (mM enc_Def q1.2.2.1), .vs 1 (List.map (encL 1 EV.encI) q1.2.2.2)])]) (F' := [(1000000, .box 99 [.vs 6 (mM enc_Def y1.2.1), .vs 1 (List.map (encL 1 EV.encI) y1.2.2)])]) (v := nz 1 (mS y1.1)) [1000000] kr kr rfl kr (loc_g (R := []) [.ptr 1000000 0 0, .int .i64 q1.2.1] [(1000000, 1000000)] (callV_func hbv54 kr) (w_define_graph_circle q1.2.2.1 q1.2.2.2 q1.2.1 _ c1) (.cons (.same _) (.cons (.same _) (.nil))) kr kr kr kr kr kr kr kr) kr ?_
    refine oR 1 [(5, nz 1 (mS y1.1))] kr ?_
    refine oN (nT (vS (vS (vT (oR 1 [(17, nz 1 (mS y1.1))] kr ?_)))))
    refine oP (v := .bool (List.isEmpty y1.1)) kr kr (loc_isNilZ (sz := 1) (els := (mS y1.1)) (b := (List.isEmpty y1.1)) kr kr kr (by cases (y1.1 : List _) <;> rfl)) ?_
    refine oN (nT ?_)
    refine v_cond (List.isEmpty y1.1) kr (fun h2 => ?_) (fun h2 => ?_)
    ·replace hs := bif_t h2 hs
     refine v_exit (exit_thenV (exit_blkV ?_))
     obtain rfl := si hs
     refine nrm_join (q1.1, y1.2.1, y1.2.2) rfl ?_
     exact cut_of [0, 3, 10, 11] [1000000] kr kr kr
    ·replace hs := bif_f h2 hs
     refine vK (nT (vS ?_))
     obtain ⟨z3, hs, hk3⟩ := bS hs
     refine v_join (S := (List (List UInt8)) × (List (List UInt8)) × Bool) (fun u => u = z3) (fun u => [(0, .ptr 1000000 0 0), (3, nz 1 (mS u.1)), (5, nz 1 (mS u.2.1)), (10, .int .i64 (List.length g_defs : Int)), (11, .int .i64 q1.2.1), (40, .bool u.2.2)]) (fun u => [(1000000, .box 99 [.vs 6 (mM enc_Def y1.2.1), .vs 1 (List.map (encL 1 EV.encI) y1.2.2)])]) ?_ (fun v3 hz => ?_)
     ·refine vT (oR 1 [(19, nz 1 (mS q1.1))] kr ?_)
      refine oP (v := .bool (List.isEmpty q1.1)) kr kr (loc_isNilZ (sz := 1) (els := (mS q1.1)) (b := (List.isEmpty q1.1)) kr kr kr (by cases (q1.1 : List _) <;> rfl)) ?_
      refine oR 1 [(21, .bool (List.isEmpty q1.1))] kr ?_
      cases h3 : ((List.isEmpty q1.1))
      ·replace hs := bif_f h3 hs
       refine oR 1 [(22, nz 1 (mS y1.1))] kr ?_
       refine oP (v := .int .i64 (List.length y1.1 : Int)) kr kr (loc_lenZ (sz := 1) (els := (mS y1.1)) kr kr (List.length_map ..)) ?_
       refine oR 1 [(24, nz 1 (mS q1.1))] kr ?_
       refine oP (v := .int .i64 (List.length q1.1 : Int)) kr kr (loc_lenZ (sz := 1) (els := (mS q1.1)) kr kr (List.length_map ..)) ?_
       refine oR 3 [(28, .bool (decide ((List.length y1.1 : Int) < (List.length q1.1 : Int)))), (27, .bool (decide ((List.length y1.1 : Int) < (List.length q1.1 : Int)))), (26, .bool (decide ((List.length y1.1 : Int) < (List.length q1.1 : Int))))] kr ?_
       cases h4 : ((decide ((List.length y1.1 : Int) < (List.length q1.1 : Int))))
       ·replace hs := bif_f h4 hs
        refine oR 1 [(29, nz 1 (mS y1.1))] kr ?_
        refine oP (v := .int .i64 (List.length y1.1 : Int)) kr kr (loc_lenZ (sz := 1) (els := (mS y1.1)) kr kr (List.length_map ..)) ?_
        refine oR 1 [(31, nz 1 (mS q1.1))] kr ?_
        refine oP (v := .int .i64 (List.length q1.1 : Int)) kr kr (loc_lenZ (sz := 1) (els := (mS q1.1)) kr kr (List.length_map ..)) ?_
        refine oR 2 [(34, .bool (decide ((List.length y1.1 : Int) = (List.length q1.1 : Int)))), (33, .bool (decide ((List.length y1.1 : Int) = (List.length q1.1 : Int))))] kr ?_
        cases h5 : ((decide ((List.length y1.1 : Int) = (List.length q1.1 : Int))))
        ·replace hs := bif_f h5 hs
         refine oR 6 [(40, .bool false), (39, .bool false), (38, .no), (37, .no), (36, .no), (35, .no)] kr ?_
         refine oN ?_
         obtain rfl := si hs
         refine nrm_join (q1.1, y1.1, false) rfl ?_
         exact cut_of [0, 3, 5, 10, 11, 40] [1000000] kr kr kr
        ·replace hs := bif_t h5 hs
         refine oR 2 [(36, nz 1 (mS q1.1)), (35, nz 1 (mS y1.1))] kr ?_
         obtain ⟨y2, c2, hs⟩ := bS hs
         refine o_loc (F := []) (F' := []) (v := .int .i64 y2) [] kr kr rfl kr (loc_gcallB (vs := [nz 1 (mS y1.1), nz 1 (mS q1.1)]) (R := []) (callV_func hbv55 kr) (w_slices_Compare y1.1 q1.1 _ c2) (.cons (.nz _ _) (.cons (.nz _ _) (.nil))) kr kr kr) kr ?_
         refine oR 3 [(40, .bool (decide (y2 < 0))), (39, .bool (decide (y2 < 0))), (38, .bool (decide (y2 < 0)))] kr ?_
         refine oN ?_
         obtain rfl := si hs
         refine nrm_join (q1.1, y1.1, (decide (y2 < 0))) rfl ?_
         exact cut_of [0, 3, 5, 10, 11, 40] [1000000] kr kr kr
       ·replace hs := bif_t h4 hs
        refine oR 12 [(40, .bool true), (39, .no), (38, .no), (37, .no), (36, .no), (35, .no), (34, .no), (33, .no), (32, .no), (31, .no), (30, .no), (29, .no)] kr ?_
        refine oN ?_
        obtain rfl := si hs
        refine nrm_join (q1.1, y1.1, true) rfl ?_
        exact cut_of [0, 3, 5, 10, 11, 40] [1000000] kr kr kr
      ·replace hs := bif_t h3 hs
       refine oR 19 [(40, .bool true), (39, .no), (38, .no), (37, .no), (36, .no), (35, .no), (34, .no), (33, .no), (32, .no), (31, .no), (30, .no), (29, .no), (28, .bool true), (27, .bool true), (26, .no), (25, .no), (24, .no), (23, .no), (22, .no)] kr ?_
       refine oN ?_
       obtain rfl := si hs
       refine nrm_join (q1.1, y1.1, true) rfl ?_
       exact cut_of [0, 3, 5, 10, 11, 40] [1000000] kr kr kr
     ·subst hz; clear hs; have hs := hk3; clear hk3
      refine nT ?_
      obtain ⟨z4, hs, hk4⟩ := bS hs
      refine v_join (S := (List (List UInt8))) (fun u => u = z4) (fun u => [(0, .ptr 1000000 0 0), (3, nz 1 (mS u)), (10, .int .i64 (List.length g_defs : Int)), (11, .int .i64 q1.2.1)]) (fun u => [(1000000, .box 99 [.vs 6 (mM enc_Def y1.2.1), .vs 1 (List.map (encL 1 EV.encI) y1.2.2)])]) ?_ (fun v4 hz => ?_)
      ·refine v_cond v3.2.2 kr (fun h6 => ?_) (fun h6 => ?_)
       ·replace hs := bif_t h6 hs
        refine vT (oR 2 [(3, nz 1 (mS v3.2.1)), (41, nz 1 (mS v3.2.1))] kr ?_)
        refine oN ?_
        obtain rfl := si hs
        refine nrm_join v3.2.1 rfl ?_
        exact cut_of [0, 3, 10, 11] [1000000] kr kr kr
       ·replace hs := bif_f h6 hs
        refine vK ?_
        obtain rfl := si hs
        refine nrm_join v3.1 rfl ?_
        exact cut_of [0, 3, 10, 11] [1000000] kr kr kr
      ·subst hz; clear hs; have hs := hk4; clear hk4
       refine nB ?_
       obtain rfl := si hs
       refine nrm_join (v4, y1.2.1, y1.2.2) rfl ?_
       exact cut_of [0, 3, 10, 11] [1000000] kr kr kr
   ·subst hz; clear hs; have hs := hk2; clear hk2
    refine nT (vT (oR 2 [(11, .int .i64 (w64 (q1.2.1 + 1))), (42, .int .i64 (w64 (q1.2.1 + 1)))] kr ?_))
    refine oN (nrm_fuel (v2.1, (w64 (q1.2.1 + 1)), v2.2.1, v2.2.2) hs ?_)
    exact cut_of [0, 3, 10, 11] [1000000] kr kr kr
  ·replace hs := bif_f h1 hs
   refine v_exit (exit_thenV (exit_fuel ?_))
   refine exit_blkV ?_
   obtain rfl := si hs
   refine nrm_join (q1.1, q1.2.2.1, q1.2.2.2) rfl ?_
   exact cut_of [3] [1000000] kr kr kr
 ·subst hz; clear hs; have hs := hk1; clear hk1
  refine nT (vS (vT (oR 2 [(2, nz 1 (mS v1.1)), (43, nz 1 (mS v1.1))] kr ?_)))
  refine oN (nT (v_ret ?_))
  obtain rfl := si hs
  exact fin_ret kr kr kr
theorem w_define_graph_order_1 (k : Int) (a1 : (List Bool)) (r : Bool × (List Bool)) (hs : s_define_graph_order_1 k a1 = some r) : FnA Try.prog 57 [.int .i64 k, .ptr 1000000 0 0] [(1000000, .box 74 [.sl 1 1000001 ((a1).length) 0 ((a1).length)]), (1000001, .row 4 1 0 (mB a1))] (.bool r.1) [(1000001, .row 4 1 0 (mB r.2)), (1000000, .box 74 [.sl 1 1000001 ((r.2).length) 0 ((r.2).length)])] := by
 refine fnA_of_wp (N := 9) Try.func57 rfl rfl rfl fun cK0 => ?_
 unfold s_define_graph_order_1 at hs
 refine v_same (ρ' := [(0, .int .i64 k), (1, .ptr 1000000 0 0)]) rfl rfl ?_
 refine vS (vT (oR 1 [(3, .bool false)] kr ?_))
 refine oN (nT (vS (vT (oR 2 [(5, .int .i64 k), (4, .sl 1 1000001 ((a1).length) 0 ((a1).length))] kr ?_))))
 obtain ⟨⟨g1a, g1b⟩, hs⟩ := bG hs
 refine oP (v := .ptr 1000001 ((a1).length) ((Int.toNat k) * 1 + 0)) kr kr (loc_indexRowT (e := 4) (sz := 1) (kk := 1000001) (L := (a1).length) (n := (a1).length) (k := .i64) (i := k) kr kr kr g1a g1b) ?_
 obtain ⟨e1, he1, hs⟩ := bE hs
 refine o_loc (F := [(1000001, .row 4 1 0 (mB a1))]) (F' := [(1000001, .row 4 1 0 (mB a1))]) (v := .bool e1) [1000001] kr kr rfl kr (loc_loadRow (L := (a1).length) (off := (Int.toNat k) * 1 + 0) (els := (mB a1)) (cs := [.bool e1]) (Int.toNat k) 0 kr (by first | (simp only [List.length_map, List.length_set, cpyT_length]; done) | rfl) rfl (by rw [← he1]; exact map_get _ (by first | omega | (simp only [List.length_set, cpyT_length]; omega))) kr) kr ?_
 refine oR 2 [(3, .bool (!e1)), (8, .bool (!e1))] kr ?_
 refine oN (nT (v_ret ?_))
 obtain rfl := si hs
 exact fin_ret kr kr kr
theorem w_slices_IndexFunc (s : (List Int)) (k : (List Bool)) (r : Int × (List Bool)) (hs : s_slices_IndexFunc s k = some r) : FnA Try.prog 77 [.vs 1 (mI s), .fn 57 [] [.ptr 1000000 0 0]] [(1000000, .box 74 [.sl 1 1000001 ((k).length) 0 ((k).length)]), (1000001, .row 4 1 0 (mB k))] (.int .i64 r.1) [(1000001, .row 4 1 0 (mB r.2)), (1000000, .box 74 [.sl 1 1000001 ((r.2).length) 0 ((r.2).length)])] := by
 refine fnA_of_wp (N := 19) Try.func77 rfl rfl rfl fun cK0 => ?_
 unfold s_slices_IndexFunc at hs
 refine v_same (ρ' := [(0, .vs 1 (mI s)), (1, .fn 57 [] [.ptr 1000000 0 0])]) rfl rfl ?_
 refine vS (vT (oR 1 [(4, .int .i64 0)] kr ?_))
 refine oN (nT (vS (vS (vT (oR 1 [(6, .vs 1 (mI s))] kr ?_)))))
 refine oP (v := .int .i64 (List.length s : Int)) kr kr (loc_lenVs (sz := 1) (els := (mI s)) kr kr (List.length_map ..)) ?_
 refine oR 1 [(8, .int .i64 0)] kr ?_
 refine oN (nT ?_)
 obtain ⟨z1, hs, hk1⟩ := bS hs
 refine v_join (S := (List Bool)) (fun u => z1 = .inr u) (fun u => []) (fun u => [(1000000, .box 74 [.sl 1 1000001 ((u).length) 0 ((u).length)]), (1000001, .row 4 1 0 (mB u))]) ?_ (fun v1 hz => ?_)
 ·refine vB ?_
  refine v_fuel (S := Int × (List Bool)) (fun u => [(0, .vs 1 (mI s)), (1, .fn 57 [] [.ptr 1000000 0 0]), (7, .int .i64 (List.length s : Int)), (8, .int .i64 u.1)]) (fun u => [(1000000, .box 74 [.sl 1 1000001 ((u.2).length) 0 ((u.2).length)]), (1000001, .row 4 1 0 (mB u.2))]) (s_slices_IndexFunc_L1 s) (fun _ => rfl) KK (0, k) hs (cut_of [0, 1, 7, 8] [1000000, 1000001] kr kr kr) (fun K1 q1 hs => ?_)
  rw [s_slices_IndexFunc_L1] at hs
  show WpV cK0 Try.prog none 19 _ _ [(0, .vs 1 (mI s)), (1, .fn 57 [] [.ptr 1000000 0 0]), (7, .int .i64 (List.length s : Int)), (8, .int .i64 q1.1)] [(1000000, .box 74 [.sl 1 1000001 ((q1.2).length) 0 ((q1.2).length)]), (1000001, .row 4 1 0 (mB q1.2))] []
  refine vS (vT (oR 1 [(9, .bool (decide (q1.1 < (List.length s : Int))))] kr ?_))
  refine oN (nT (vS ?_))
  refine v_cond (decide (q1.1 < (List.length s : Int))) kr (fun h1 => ?_) (fun h1 => ?_)
  ·replace hs := bif_t h1 hs
   refine vK (nT (vS (vB (vS (vT (oR 2 [(5, .int .i64 q1.1), (10, .int .i64 q1.1)] kr ?_))))))
   refine oN (nT (vS (vT (oR 3 [(13, .int .i64 q1.1), (12, .vs 1 (mI s)), (11, .fn 57 [] [.ptr 1000000 0 0])] kr ?_))))
   obtain ⟨x1, g1, hs⟩ := bS hs; obtain ⟨g1a, g1b, g1c⟩ := idx_some g1
   refine oP (v := .vp [.int .i64 x1] 0) kr kr (loc_indexVs (e := 3) (sz := 1) (k := .i64) (els := (mI s)) (cs := (EV.encI x1)) kr kr kr g1a (by rw [g1c]; exact map_get _ (by omega))) ?_
   refine oR 1 [(15, .int .i64 x1)] kr ?_
   obtain ⟨y1, c1, hs⟩ := bS hs
   refine o_loc (F := [(1000000, .box 74 [.sl 1 1000001 ((q1.2).length) 0 ((q1.2).length)]), (1000001, .row 4 1 0 (mB q1.2))]) (F' := [(1000001, .row 4 1 0 (mB y1.2)), (1000000, .box 74 [.sl 1 1000001 ((y1.2).length) 0 ((y1.2).length)])]) (v := .bool y1.1) [1000000, 1000001] kr kr rfl kr (loc_g (R := []) [.int .i64 x1, .ptr 1000000 0 0] [(1000000, 1000000), (1000001, 1000001)] (callV_val (first := []) (caps := [.ptr 1000000 0 0]) hbv57 kr kr) (w_define_graph_order_1 x1 q1.2 _ c1) (.cons (.same _) (.cons (.same _) (.nil))) kr kr kr kr kr kr kr kr) kr ?_
   refine oN (nT ?_)
   refine v_cond y1.1 kr (fun h2 => ?_) (fun h2 => ?_)
   ·replace hs := bif_t h2 hs
    refine vS (vT (oR 2 [(4, .int .i64 q1.1), (17, .int .i64 q1.1)] kr ?_))
    refine oN (nT (v_ret (rB (rT (ret_fuel ?_)))))
    refine rB (ret_join ?_)
    refine rT ?_
    obtain rfl := si hs
    replace hs := hk1
    obtain rfl := si hs
    exact fin_ret kr kr kr
   ·replace hs := bif_f h2 hs
    refine vK (nB (nT (vT (oR 2 [(8, .int .i64 (w64 (q1.1 + 1))), (18, .int .i64 (w64 (q1.1 + 1)))] kr ?_))))
    refine oN (nrm_fuel ((w64 (q1.1 + 1)), y1.2) hs ?_)
    exact cut_of [0, 1, 7, 8] [1000000, 1000001] kr kr kr
  ·replace hs := bif_f h1 hs
   refine v_exit (exit_thenV (exit_fuel ?_))
   refine exit_blkV ?_
   obtain rfl := si hs
   refine nrm_join q1.2 rfl ?_
   exact cut_of [] [1000000, 1000001] kr kr kr
 ·subst hz; clear hs; have hs := hk1; clear hk1
  refine nT (vS (vT (oR 1 [(4, .int .i64 (-1))] kr ?_)))
  refine oN (nT (v_ret ?_))
  obtain rfl := si hs
  exact fin_ret kr kr kr
theorem w_slices_ContainsFunc (s : (List Int)) (k : (List Bool)) (r : Bool × (List Bool)) (hs : s_slices_ContainsFunc s k = some r) : FnA Try.prog 56 [.vs 1 (mI s), .fn 57 [] [.ptr 1000000 0 0]] [(1000000, .box 74 [.sl 1 1000001 ((k).length) 0 ((k).length)]), (1000001, .row 4 1 0 (mB k))] (.bool r.1) [(1000001, .row 4 1 0 (mB r.2)), (1000000, .box 74 [.sl 1 1000001 ((r.2).length) 0 ((r.2).length)])] := by
 refine fnA_of_wp (N := 9) Try.func56 rfl rfl rfl fun cK0 => ?_
 unfold s_slices_ContainsFunc at hs
 refine v_same (ρ' := [(0, .vs 1 (mI s)), (1, .fn 57 [] [.ptr 1000000 0 0])]) rfl rfl ?_
 refine vS (vT (oR 1 [(4, .bool false)] kr ?_))
 refine oN (nT (vS (vT (oR 2 [(6, .fn 57 [] [.ptr 1000000 0 0]), (5, .vs 1 (mI s))] kr ?_))))
 obtain ⟨y1, c1, hs⟩ := bS hs
 refine o_loc (F := [(1000000, .box 74 [.sl 1 1000001 ((k).length) 0 ((k).length)]), (1000001, .row 4 1 0 (mB k))]) (F' := [(1000001, .row 4 1 0 (mB y1.2)), (1000000, .box 74 [.sl 1 1000001 ((y1.2).length) 0 ((y1.2).length)])]) (v := .int .i64 y1.1) [1000000, 1000001] kr kr rfl kr (loc_g (R := []) [.vs 1 (mI s), .fn 57 [] [.ptr 1000000 0 0]] [(1000000, 1000000), (1000001, 1000001)] (callV_func hbv77 kr) (w_slices_IndexFunc s k _ c1) (.cons (.same _) (.cons (.same _) (.nil))) kr kr kr kr kr kr kr kr) kr ?_
 refine oR 2 [(4, .bool (decide (y1.1 ≥ 0))), (8, .bool (decide (y1.1 ≥ 0)))] kr ?_
 refine oN (nT (v_ret ?_))
 obtain rfl := si hs
 exact fin_ret kr kr kr
theorem w_define_graph_order (g_defs : (List Def)) (g_uses : (List (List Int))) (r : (List Int) × (List Def) × (List (List Int))) (hs : s_define_graph_order g_defs g_uses = some r) : FnA Try.prog 37 [.ptr 1000000 0 0] [(1000000, .box 99 [.vs 6 (mM enc_Def g_defs), .vs 1 (List.map (encL 1 EV.encI) g_uses)])] (.vs 1 (mI r.1)) [(1000000, .box 99 [.vs 6 (mM enc_Def r.2.1), .vs 1 (List.map (encL 1 EV.encI) r.2.2)])] := by
 refine fnA_of_wp (N := 78) Try.func37 rfl rfl rfl fun cK0 => ?_
 unfold s_define_graph_order at hs
 refine v_same (ρ' := [(0, .ptr 1000000 0 0)]) rfl rfl ?_
 refine vS (vT (oR 1 [(2, .nils)] kr ?_))
 refine oN (nT (vS (vT (oR 4 [(12, .vs 6 (mM enc_Def g_defs)), (11, .ptr 1000000 0 0), (10, .ptr 1000000 0 0), (9, .ptr 1000000 0 0)] kr ?_))))
 refine oP (v := .int .i64 (List.length g_defs : Int)) kr kr (loc_lenVs (sz := 6) (els := (mM enc_Def g_defs)) kr kr (List.length_map ..)) ?_
 obtain ⟨⟨g1a, g1b, g1c⟩, hs⟩ := bG hs
 refine o_loc (F := []) (F' := [(14, .row 4 1 0 (mB (List.replicate (Int.toNat (List.length g_defs : Int)) (false : Bool))))]) (v := .sl 1 14 (((List.replicate (Int.toNat (List.length g_defs : Int)) (false : Bool))).length) 0 (((List.replicate (Int.toNat (List.length g_defs : Int)) (false : Bool))).length)) [] kr kr rfl kr (loc_makeSliceT (L := ((List.replicate (Int.toNat (List.length g_defs : Int)) (false : Bool))).length) (e := 4) (sz := 1) (bytes := 1) (q := (List.length g_defs : Int)) (k := .i64) (k2 := .i64) (cs := [.bool false]) (cs2 := [.bool false]) kr kr kr kr kr g1a g1b g1c (List.map_replicate (f := EV.encB)).symm (List.length_replicate ..) (fun _ _ h => h)) kr ?_
 refine o_runh 2 [(3, .ptr 3 0 0)] [(3, .box 74 [.sl 1 14 (((List.replicate (Int.toNat (List.length g_defs : Int)) (false : Bool))).length) 0 (((List.replicate (Int.toNat (List.length g_defs : Int)) (false : Bool))).length)]), (14, .row 4 1 0 (mB (List.replicate (Int.toNat (List.length g_defs : Int)) (false : Bool)))), (1000000, .box 99 [.vs 6 (mM enc_Def g_defs), .vs 1 (List.map (encL 1 EV.encI) g_uses)])] kr ?_
 refine oN (nT (vS (vT (oR 1 [(4, .nils)] kr ?_))))
 refine oN (nT (vS (vS (vT (oR 4 [(18, .vs 6 (mM enc_Def g_defs)), (17, .ptr 1000000 0 0), (16, .ptr 1000000 0 0), (15, .ptr 1000000 0 0)] kr ?_)))))
 refine oP (v := .int .i64 (List.length g_defs : Int)) kr kr (loc_lenVs (sz := 6) (els := (mM enc_Def g_defs)) kr kr (List.length_map ..)) ?_
 refine oR 1 [(20, .int .i64 0)] kr ?_
 refine oN (nT ?_)
 obtain ⟨z1, hs, hk1⟩ := bS hs
 refine v_join (S := (List Int)) (fun u => u = z1) (fun u => [(4, .sl 1 2000072 ((u).length) 0 ((u).length))]) (fun u => [(1000000, .box 99 [.vs 6 (mM enc_Def g_defs), .vs 1 (List.map (encL 1 EV.encI) g_uses)]), (2000072, .row 3 1 0 (mI u))]) ?_ (fun v1 hz => ?_)
 ·refine vB ?_
  refine v_fuel (S := Int × (List Bool) × (List Int)) (fun u => [(0, .ptr 1000000 0 0), (3, .ptr 3 0 0), (4, .sl 1 2000072 ((u.2.2).length) 0 ((u.2.2).length)), (19, .int .i64 (List.length g_defs : Int)), (20, .int .i64 u.1)]) (fun u => [(3, .box 74 [.sl 1 14 ((u.2.1).length) 0 ((u.2.1).length)]), (14, .row 4 1 0 (mB u.2.1)), (1000000, .box 99 [.vs 6 (mM enc_Def g_defs), .vs 1 (List.map (encL 1 EV.encI) g_uses)]), (2000072, .row 3 1 0 (mI u.2.2))]) (s_define_graph_order_L1 g_defs g_uses) (fun _ => rfl) KK (0, (List.replicate (Int.toNat (List.length g_defs : Int)) (false : Bool)), []) hs (Cut.trans (cut_nilRow 4 2000072 3 1 rfl kr kr) (cut_of [0, 3, 4, 19, 20] [3, 14, 1000000, 2000072] kr kr kr)) (fun K1 q1 hs => ?_)
  rw [s_define_graph_order_L1] at hs
  show WpV cK0 Try.prog none 78 _ _ [(0, .ptr 1000000 0 0), (3, .ptr 3 0 0), (4, .sl 1 2000072 ((q1.2.2).length) 0 ((q1.2.2).length)), (19, .int .i64 (List.length g_defs : Int)), (20, .int .i64 q1.1)] [(3, .box 74 [.sl 1 14 ((q1.2.1).length) 0 ((q1.2.1).length)]), (14, .row 4 1 0 (mB q1.2.1)), (1000000, .box 99 [.vs 6 (mM enc_Def g_defs), .vs 1 (List.map (encL 1 EV.encI) g_uses)]), (2000072, .row 3 1 0 (mI q1.2.2))] []
  refine vS (vT (oR 1 [(21, .bool (decide (q1.1 < (List.length g_defs : Int))))] kr ?_))
  refine oN (nT (vS ?_))
  refine v_cond (decide (q1.1 < (List.length g_defs : Int))) kr (fun h1 => ?_) (fun h1 => ?_)
  ·replace hs := bif_t h1 hs
   refine vK (nT (vS (vB (vS (vT (oR 1 [(5, .int .i64 (-1))] kr ?_))))))
   refine oN (nT (vS (vS (vT (oR 4 [(25, .vs 1 (List.map (encL 1 EV.encI) g_uses)), (24, .ptr 1000000 0 1), (23, .ptr 1000000 0 0), (22, .ptr 1000000 0 0)] kr ?_)))))
   refine oP (v := .int .i64 (List.length g_uses : Int)) kr kr (loc_lenVs (sz := 1) (els := (List.map (encL 1 EV.encI) g_uses)) kr kr (List.length_map ..)) ?_
   refine oR 1 [(27, .int .i64 0)] kr ?_
   refine oN (nT ?_)
   obtain ⟨z2, hs, hk2⟩ := bS hs
   refine v_join (S := Int × (List Bool)) (fun u => u = z2) (fun u => [(0, .ptr 1000000 0 0), (3, .ptr 3 0 0), (4, .sl 1 2000072 ((q1.2.2).length) 0 ((q1.2.2).length)), (5, .int .i64 u.1), (19, .int .i64 (List.length g_defs : Int)), (20, .int .i64 q1.1)]) (fun u => [(3, .box 74 [.sl 1 14 ((u.2).length) 0 ((u.2).length)]), (14, .row 4 1 0 (mB u.2)), (1000000, .box 99 [.vs 6 (mM enc_Def g_defs), .vs 1 (List.map (encL 1 EV.encI) g_uses)]), (2000072, .row 3 1 0 (mI q1.2.2))]) ?_ (fun v2 hz => ?_)
   ·refine vB ?_
    refine v_fuel (S := Int × Int × (List Bool)) (fun u => [(0, .ptr 1000000 0 0), (3, .ptr 3 0 0), (4, .sl 1 2000072 ((q1.2.2).length) 0 ((q1.2.2).length)), (5, .int .i64 u.1), (19, .int .i64 (List.length g_defs : Int)), (20, .int .i64 q1.1), (25, .vs 1 (List.map (encL 1 EV.encI) g_uses)), (26, .int .i64 (List.length g_uses : Int)), (27, .int .i64 u.2.1)]) (fun u => [(3, .box 74 [.sl 1 14 ((u.2.2).length) 0 ((u.2.2).length)]), (14, .row 4 1 0 (mB u.2.2)), (1000000, .box 99 [.vs 6 (mM enc_Def g_defs), .vs 1 (List.map (encL 1 EV.encI) g_uses)]), (2000072, .row 3 1 0 (mI q1.2.2))]) (s_define_graph_order_L2 g_defs g_uses) (fun _ => rfl) KK ((-1), 0, q1.2.1) hs (cut_of [0, 3, 4, 5, 19, 20, 25, 26, 27] [3, 14, 1000000, 2000072] kr kr kr) (fun K2 q2 hs => ?_)
    rw [s_define_graph_order_L2] at hs
    show WpV cK0 Try.prog none 78 _ _ [(0, .ptr 1000000 0 0), (3, .ptr 3 0 0), (4, .sl 1 2000072 ((q1.2.2).length) 0 ((q1.2.2).length)), (5, .int .i64 q2.1), (19, .int .i64 (List.length g_defs : Int)), (20, .int .i64 q1.1), (25, .vs 1 (List.map (encL 1 EV.encI) g_uses)), (26, .int .i64 (List.length g_uses : Int)), (27, .int .i64 q2.2.1)] [(3, .box 74 [.sl 1 14 ((q2.2.2).length) 0 ((q2.2.2).length)]), (14, .row 4 1 0 (mB q2.2.2)), (1000000, .box 99 [.vs 6 (mM enc_Def g_defs), .vs 1 (List.map (encL 1 EV.encI) g_uses)]), (2000072, .row 3 1 0 (mI q1.2.2))] []
    refine vS (vT (oR 1 [(28, .bool (decide (q2.2.1 < (List.length g_uses : Int))))] kr ?_))
    refine oN (nT (vS ?_))
    refine v_cond (decide (q2.2.1 < (List.length g_uses : Int))) kr (fun h2 => ?_) (fun h2 => ?_)
    ·replace hs := bif_t h2 hs
     refine vK (nT (vS (vB (vS (vT (oR 1 [(29, .int .i64 q2.2.1)] kr ?_))))))
     obtain ⟨x1, g2, hs⟩ := bS hs; obtain ⟨g2a, g2b, g2c⟩ := idx_some g2
     refine oP (v := .vp [.vs 1 (mI x1)] 0) kr kr (loc_indexVs (e := 33) (sz := 1) (k := .i64) (els := (List.map (encL 1 EV.encI) g_uses)) (cs := ((encL 1 EV.encI) x1)) kr kr kr g2a (by rw [g2c]; exact map_get _ (by omega))) ?_
     refine oR 3 [(7, .vs 1 (mI x1)), (6, .int .i64 q2.2.1), (31, .vs 1 (mI x1))] kr ?_
     refine oN (nT (vS (vT (oR 2 [(33, .fn 57 [] [.ptr 3 0 0]), (32, .vs 1 (mI x1))] kr ?_))))
     obtain ⟨y1, c1, hs⟩ := bS hs
     refine o_loc (F := [(3, .box 74 [.sl 1 14 ((q2.2.2).length) 0 ((q2.2.2).length)]), (14, .row 4 1 0 (mB q2.2.2))]) (F' := [(14, .row 4 1 0 (mB y1.2)), (3, .box 74 [.sl 1 14 ((y1.2).length) 0 ((y1.2).length)])]) (v := .bool y1.1) [3, 14] kr kr rfl kr (loc_g (R := []) [.vs 1 (mI x1), .fn 57 [] [.ptr 3 0 0]] [(1000000, 3), (1000001, 14)] (callV_func hbv56 kr) (w_slices_ContainsFunc x1 q2.2.2 _ c1) (.cons (.same _) (.cons (.same _) (.nil))) kr kr kr kr kr kr kr kr) kr ?_
     refine oR 1 [(8, .bool y1.1)] kr ?_
     refine oN (nT (vS ?_))
     obtain ⟨z3, hs, hk3⟩ := bS hs
     refine v_join (S := Bool) (fun u => u = z3) (fun u => [(0, .ptr 1000000 0 0), (3, .ptr 3 0 0), (4, .sl 1 2000072 ((q1.2.2).length) 0 ((q1.2.2).length)), (5, .int .i64 q2.1), (6, .int .i64 q2.2.1), (19, .int .i64 (List.length g_defs : Int)), (20, .int .i64 q1.1), (25, .vs 1 (List.map (encL 1 EV.encI) g_uses)), (26, .int .i64 (List.length g_uses : Int)), (27, .int .i64 q2.2.1), (66, .bool u)]) (fun u => [(14, .row 4 1 0 (mB y1.2)), (3, .box 74 [.sl 1 14 ((y1.2).length) 0 ((y1.2).length)]), (1000000, .box 99 [.vs 6 (mM enc_Def g_defs), .vs 1 (List.map (encL 1 EV.encI) g_uses)]), (2000072, .row 3 1 0 (mI q1.2.2))]) ?_ (fun v3 hz => ?_)
     ·refine v_draw mixedH kr ?_
      refine d_runs 2 0 [(36, .int .i64 q2.2.1), (35, .sl 1 14 ((y1.2).length) 0 ((y1.2).length))] [⟨1, [], []⟩, ⟨0, [], [3]⟩] kr kr ?_
      obtain ⟨⟨g3a, g3b⟩, hs⟩ := bG hs
      refine d_pure (v := .ptr 14 ((y1.2).length) ((Int.toNat q2.2.1) * 1 + 0)) 2 rfl rfl rfl rfl kr kr (loc_indexRowT (e := 4) (sz := 1) (kk := 14) (L := (y1.2).length) (n := (y1.2).length) (k := .i64) (i := q2.2.1) kr kr kr g3a g3b) ?_
      obtain ⟨e1, he1, hs⟩ := bE hs
      refine d_loc (F := []) (R := [(14, .row 4 1 0 (mB y1.2))]) (F' := []) (v := .bool e1) 3 [] [14] rfl rfl rfl rfl kr kr kr kr kr kr kr kr (loc_loadRow (L := (y1.2).length) (off := (Int.toNat q2.2.1) * 1 + 0) (els := (mB y1.2)) (cs := [.bool e1]) (Int.toNat q2.2.1) 0 kr (by first | (simp only [List.length_map, List.length_set, cpyT_length]; done) | rfl) rfl (by rw [← he1]; exact map_get _ (by first | omega | (simp only [List.length_set, cpyT_length]; omega))) kr) ?_
      refine d_runs 2 4 [(40, .bool (!e1)), (39, .bool (!e1))] (pfp 2 5) kr kr ?_
      cases h3 : ((!e1))
      ·replace hs := bif_f h3 hs
       refine d_runs 26 6 [(66, .bool false), (65, .no), (64, .no), (63, .no), (62, .no), (61, .no), (60, .no), (59, .no), (58, .no), (57, .no), (56, .no), (55, .no), (54, .no), (53, .no), (52, .no), (51, .no), (50, .no), (49, .no), (48, .no), (47, .no), (46, .no), (45, .no), (44, .bool false), (43, .bool false), (42, .no), (41, .no)] (pfp 26 31) kr kr ?_
       refine d_nil kr ?_
       obtain rfl := si hs
       refine nrm_join false rfl ?_
       exact cut_of [0, 3, 4, 5, 6, 19, 20, 25, 26, 27, 66] [14, 3, 1000000, 2000072] kr kr kr
      ·replace hs := bif_t h3 hs
       refine d_runs 4 6 [(44, .bool (!y1.1)), (43, .bool (!y1.1)), (42, .bool (!y1.1)), (41, .bool y1.1)] (pfp 4 9) kr kr ?_
       cases h4 : ((!y1.1))
       ·replace hs := bif_f h4 hs
        refine d_runs 22 10 [(66, .bool false), (65, .no), (64, .no), (63, .no), (62, .no), (61, .no), (60, .no), (59, .no), (58, .no), (57, .no), (56, .no), (55, .no), (54, .no), (53, .no), (52, .no), (51, .no), (50, .no), (49, .no), (48, .no), (47, .no), (46, .no), (45, .no)] (pfp 22 31) kr kr ?_
        refine d_nil kr ?_
        obtain rfl := si hs
        refine nrm_join false rfl ?_
        exact cut_of [0, 3, 4, 5, 6, 19, 20, 25, 26, 27, 66] [14, 3, 1000000, 2000072] kr kr kr
       ·replace hs := bif_t h4 hs
        refine d_runs 3 10 [(47, .bool (decide (q2.1 < 0))), (46, .bool (decide (q2.1 < 0))), (45, .int .i64 q2.1)] (pfp 3 12) kr kr ?_
        cases h5 : ((decide (q2.1 < 0)))
        ·replace hs := bif_f h5 hs
         refine d_runs 5 13 [(52, .int .i64 q2.2.1), (51, .vs 6 (mM enc_Def g_defs)), (50, .ptr 1000000 0 0), (49, .ptr 1000000 0 0), (48, .ptr 1000000 0 0)] [⟨17, [], []⟩, ⟨16, [], [1000000]⟩, ⟨15, [], []⟩, ⟨14, [], []⟩, ⟨13, [], []⟩] kr kr ?_
         obtain ⟨x2, g4, hs⟩ := bS hs; obtain ⟨g4a, g4b, g4c⟩ := idx_some g4
         refine d_pure (v := .vp (enc_Def x2) 0) 18 rfl rfl rfl rfl kr kr (loc_indexVs (e := 46) (sz := 6) (k := .i64) (els := (mM enc_Def g_defs)) (cs := (enc_Def x2)) kr kr kr g4a (by rw [g4c]; exact map_get _ (by omega))) ?_
         refine d_runs 7 19 [(60, .int .i64 q2.1), (59, .vs 6 (mM enc_Def g_defs)), (58, .ptr 1000000 0 0), (57, .ptr 1000000 0 0), (56, .ptr 1000000 0 0), (55, .str x2.Name), (54, .vp (enc_Def x2) 0)] [⟨25, [], []⟩, ⟨24, [], [1000000]⟩, ⟨23, [], []⟩, ⟨22, [], []⟩, ⟨21, [], []⟩, ⟨20, [], []⟩, ⟨19, [], []⟩] kr kr ?_
         obtain ⟨x3, g5, hs⟩ := bS hs; obtain ⟨g5a, g5b, g5c⟩ := idx_some g5
         refine d_pure (v := .vp (enc_Def x3) 0) 26 rfl rfl rfl rfl kr kr (loc_indexVs (e := 46) (sz := 6) (k := .i64) (els := (mM enc_Def g_defs)) (cs := (enc_Def x3)) kr kr kr g5a (by rw [g5c]; exact map_get _ (by omega))) ?_
         refine d_runs 5 27 [(66, .bool (Op.bytesLess x2.Name x3.Name)), (65, .bool (Op.bytesLess x2.Name x3.Name)), (64, .bool (Op.bytesLess x2.Name x3.Name)), (63, .str x3.Name), (62, .vp (enc_Def x3) 0)] (pfp 5 31) kr kr ?_
         refine d_nil kr ?_
         obtain rfl := si hs
         refine nrm_join (Op.bytesLess x2.Name x3.Name) rfl ?_
         exact cut_of [0, 3, 4, 5, 6, 19, 20, 25, 26, 27, 66] [14, 3, 1000000, 2000072] kr kr kr
        ·replace hs := bif_t h5 hs
         refine d_runs 19 13 [(66, .bool true), (65, .bool true), (64, .no), (63, .no), (62, .no), (61, .no), (60, .no), (59, .no), (58, .no), (57, .no), (56, .no), (55, .no), (54, .no), (53, .no), (52, .no), (51, .no), (50, .no), (49, .no), (48, .no)] (pfp 19 31) kr kr ?_
         refine d_nil kr ?_
         obtain rfl := si hs
         refine nrm_join true rfl ?_
         exact cut_of [0, 3, 4, 5, 6, 19, 20, 25, 26, 27, 66] [14, 3, 1000000, 2000072] kr kr kr
     ·subst hz; clear hs; have hs := hk3; clear hk3
      refine nT ?_
      obtain ⟨z4, hs, hk4⟩ := bS hs
      refine v_join (S := Int) (fun u => u = z4) (fun u => [(0, .ptr 1000000 0 0), (3, .ptr 3 0 0), (4, .sl 1 2000072 ((q1.2.2).length) 0 ((q1.2.2).length)), (5, .int .i64 u), (19, .int .i64 (List.length g_defs : Int)), (20, .int .i64 q1.1), (25, .vs 1 (List.map (encL 1 EV.encI) g_uses)), (26, .int .i64 (List.length g_uses : Int)), (27, .int .i64 q2.2.1)]) (fun u => [(14, .row 4 1 0 (mB y1.2)), (3, .box 74 [.sl 1 14 ((y1.2).length) 0 ((y1.2).length)]), (1000000, .box 99 [.vs 6 (mM enc_Def g_defs), .vs 1 (List.map (encL 1 EV.encI) g_uses)]), (2000072, .row 3 1 0 (mI q1.2.2))]) ?_ (fun v4 hz => ?_)
      ·refine v_cond v3 kr (fun h6 => ?_) (fun h6 => ?_)
       ·replace hs := bif_t h6 hs
        refine vT (oR 2 [(5, .int .i64 q2.2.1), (67, .int .i64 q2.2.1)] kr ?_)
        refine oN ?_
        obtain rfl := si hs
        refine nrm_join q2.2.1 rfl ?_
        exact cut_of [0, 3, 4, 5, 19, 20, 25, 26, 27] [14, 3, 1000000, 2000072] kr kr kr
       ·replace hs := bif_f h6 hs
        refine vK ?_
        obtain rfl := si hs
        refine nrm_join q2.1 rfl ?_
        exact cut_of [0, 3, 4, 5, 19, 20, 25, 26, 27] [14, 3, 1000000, 2000072] kr kr kr
      ·subst hz; clear hs; have hs := hk4; clear hk4
       refine nB (nT (vT (oR 2 [(27, .int .i64 (w64 (q2.2.1 + 1))), (68, .int .i64 (w64 (q2.2.1 + 1)))] kr ?_)))
       refine oN (nrm_fuel (v4, (w64 (q2.2.1 + 1)), y1.2) hs ?_)
       exact cut_of [0, 3, 4, 5, 19, 20, 25, 26, 27] [3, 14, 1000000, 2000072] kr kr kr
    ·replace hs := bif_f h2 hs
     refine v_exit (exit_thenV (exit_fuel ?_))
     refine exit_blkV ?_
     obtain rfl := si hs
     refine nrm_join (q2.1, q2.2.2) rfl ?_
     exact cut_of [0, 3, 4, 5, 19, 20] [3, 14, 1000000, 2000072] kr kr kr
   ·subst hz; clear hs; have hs := hk2; clear hk2
    refine nT (vS (vT (oR 2 [(70, .int .i64 v2.1), (69, .sl 1 14 ((v2.2).length) 0 ((v2.2).length))] kr ?_)))
    obtain ⟨⟨g6a, g6b⟩, hs⟩ := bG hs
    refine oP (v := .ptr 14 ((v2.2).length) ((Int.toNat v2.1) * 1 + 0)) kr kr (loc_indexRowT (e := 4) (sz := 1) (kk := 14) (L := (v2.2).length) (n := (v2.2).length) (k := .i64) (i := v2.1) kr kr kr g6a g6b) ?_
    obtain ⟨e2, he2, hs⟩ := bE hs
    refine o_loc (F := [(14, .row 4 1 0 (mB v2.2))]) (F' := [(14, .row 4 1 0 (mB (List.set v2.2 (Int.toNat v2.1) true)))]) (v := .no) [14] kr kr rfl kr (loc_storeRowT (L := (v2.2).length) (off := (Int.toNat v2.1) * 1 + 0) (els := (mB v2.2)) (cs := [.bool e2]) (c' := [.bool true]) (Int.toNat v2.1) 0 kr (by first | (simp only [List.length_map, List.length_set, cpyT_length]; done) | rfl) rfl (by rw [← he2]; exact map_get _ (by first | omega | (simp only [List.length_set, cpyT_length]; omega))) (by first | exact Nat.zero_le _ | omega) kr kr kr kr kr kr List.map_set.symm) kr ?_
    refine oN (nT (vT (o_runh 3 [(74, .sl 1 74 1 0 1), (73, .int .i64 v2.1), (72, .sl 1 2000072 ((q1.2.2).length) 0 ((q1.2.2).length))] [(74, .row 3 1 0 (mI [v2.1])), (14, .row 4 1 0 (mB (List.set v2.2 (Int.toNat v2.1) true))), (3, .box 74 [.sl 1 14 ((v2.2).length) 0 ((v2.2).length)]), (1000000, .box 99 [.vs 6 (mM enc_Def g_defs), .vs 1 (List.map (encL 1 EV.encI) g_uses)]), (2000072, .row 3 1 0 (mI q1.2.2))] kr ?_)))
    obtain ⟨_, g7, hs⟩ := bS hs; replace g7 := grd_some g7
    refine o_loc (F := [(2000072, .row 3 1 0 (mI q1.2.2)), (74, .row 3 1 0 (mI [v2.1]))]) (F' := [(2000072, .row 3 1 0 (mI (q1.2.2 ++ [v2.1]))), (74, .row 3 1 0 (mI [v2.1]))]) (v := .sl 1 2000072 (((q1.2.2 ++ [v2.1])).length) 0 (((q1.2.2 ++ [v2.1])).length)) [2000072, 74] kr kr rfl kr (loc_appendT (e := 3) (sz := 1) (bytes := 8) (L := (q1.2.2).length) (els := (mI q1.2.2)) (ys := (mI [v2.1])) kr kr (by first | exact List.length_map .. | rfl) (.sl (t := 3) (fz := 0) (ys := (mI [v2.1])) kr kr) (map_ones EV.encI (fun _ => rfl) _) (map_lens EV.encI (fun _ => rfl) _) kr (by first | exact (List.map_append ..).symm | rfl | simp only [List.map_nil, List.nil_append]) (List.length_map ..) g7 (by omega)) kr ?_
    refine oR 1 [(4, .sl 1 2000072 (((q1.2.2 ++ [v2.1])).length) 0 (((q1.2.2 ++ [v2.1])).length))] kr ?_
    refine oN (nB (nT (vT (oR 2 [(20, .int .i64 (w64 (q1.1 + 1))), (76, .int .i64 (w64 (q1.1 + 1)))] kr ?_))))
    refine oN (nrm_fuel ((w64 (q1.1 + 1)), (List.set v2.2 (Int.toNat v2.1) true), (q1.2.2 ++ [v2.1])) hs ?_)
    exact Cut.trans (cut_same (H1 := [(2000072, .row 3 1 0 (mI (q1.2.2 ++ [v2.1]))), (74, .row 3 1 0 (mI [v2.1])), (14, .row 4 1 0 (mB (List.set v2.2 (Int.toNat v2.1) true))), (3, .box 74 [.sl 1 14 ((v2.2).length) 0 ((v2.2).length)]), (1000000, .box 99 [.vs 6 (mM enc_Def g_defs), .vs 1 (List.map (encL 1 EV.encI) g_uses)])]) rfl kr) (Cut.trans (cut_same (H1 := [(2000072, .row 3 1 0 (mI (q1.2.2 ++ [v2.1]))), (74, .row 3 1 0 (mI [v2.1])), (14, .row 4 1 0 (mB (List.set v2.2 (Int.toNat v2.1) true))), (3, .box 74 [.sl 1 14 (((List.set v2.2 (Int.toNat v2.1) true)).length) 0 (((List.set v2.2 (Int.toNat v2.1) true)).length)]), (1000000, .box 99 [.vs 6 (mM enc_Def g_defs), .vs 1 (List.map (encL 1 EV.encI) g_uses)])]) rfl (by first | (simp only [List.length_set, cpyT_length]; done) | rfl)) (cut_of [0, 3, 4, 19, 20] [3, 14, 1000000, 2000072] kr kr kr))
  ·replace hs := bif_f h1 hs
   refine v_exit (exit_thenV (exit_fuel ?_))
   refine exit_blkV ?_
   obtain rfl := si hs
   refine nrm_join q1.2.2 rfl ?_
   exact cut_of [4] [1000000, 2000072] kr kr kr
 ·subst hz; clear hs; have hs := hk1; clear hk1
  refine nT (vS (vT (oR 2 [(2, .sl 1 2000072 ((v1).length) 0 ((v1).length)), (77, .sl 1 2000072 ((v1).length) 0 ((v1).length))] kr ?_)))
  refine oN (nT (v_to _ [(2000072, .row 3 1 (((mI v1)).length) (mI v1)), (1000000, .box 99 [.vs 6 (mM enc_Def g_defs), .vs 1 (List.map (encL 1 EV.encI) g_uses)])] (cut_freeze (F := [(2000072, .row 3 1 0 (mI v1))]) [2000072] rfl kr kr) ?_))
  refine v_to ((2, .vs 1 (mI v1)) :: _) _ (cut_view (R := [(2000072, .row 3 1 (((mI v1)).length) (mI v1))]) (ks := [2000072]) kr kr (.row (t := 3) (fz := (((mI v1)).length)) kr (by first | (simp only [List.length_map, List.length_set, cpyT_length]; done) | rfl))) ?_
  refine v_ret ?_
  obtain rfl := si hs
  exact fin_ret kr kr kr
theorem w_define_Order (p_Defs : (List Def)) (p_Tables : (List Table)) (p_Zones : (List Zone)) (p_Rules : (List Rule)) (p_Caps : (List Cap)) (p_Views : (List View)) (p_Sun : (List Point3)) (p_Hours : Int) (r : (List Int) × (List (List UInt8)) × Int) (hs : s_define_Order p_Defs p_Tables p_Zones p_Rules p_Caps p_Views p_Sun p_Hours = some r) : FnA Try.prog 11 [.agg [.vs 6 (mM enc_Def p_Defs), .vs 3 (mM enc_Table p_Tables), .vs 3 (mM enc_Zone p_Zones), .vs 20 (mM enc_Rule p_Rules), .vs 4 (mM enc_Cap p_Caps), .vs 6 (mM enc_View p_Views), .vs 3 (mM enc_Point3 p_Sun), .int .i64 p_Hours]] [] (.tup [.vs 1 (mI r.1), .vs 1 (mS r.2.1), .int .i64 r.2.2]) [] := by
 refine fnA_of_wp (N := 47) Try.func11 rfl rfl rfl fun cK0 => ?_
 unfold s_define_Order at hs
 refine v_same (ρ' := [(0, .agg [.vs 6 (mM enc_Def p_Defs), .vs 3 (mM enc_Table p_Tables), .vs 3 (mM enc_Zone p_Zones), .vs 20 (mM enc_Rule p_Rules), .vs 4 (mM enc_Cap p_Caps), .vs 6 (mM enc_View p_Views), .vs 3 (mM enc_Point3 p_Sun), .int .i64 p_Hours])]) rfl rfl ?_
 refine vS (vT (o_runh 4 [(4, .int .i64 0), (3, .nils), (2, .nils), (1, .ptr 1 0 0)] [(1, .box 30 [.vs 6 (mM enc_Def p_Defs), .vs 3 (mM enc_Table p_Tables), .vs 3 (mM enc_Zone p_Zones), .vs 20 (mM enc_Rule p_Rules), .vs 4 (mM enc_Cap p_Caps), .vs 6 (mM enc_View p_Views), .vs 3 (mM enc_Point3 p_Sun), .int .i64 p_Hours])] kr ?_))
 refine oN (nT (vS (vT (o_runh 2 [(5, .mp 12), (12, .mp 12)] [(12, .map (encM V.str V.bool [])), (1, .box 30 [.vs 6 (mM enc_Def p_Defs), .vs 3 (mM enc_Table p_Tables), .vs 3 (mM enc_Zone p_Zones), .vs 20 (mM enc_Rule p_Rules), .vs 4 (mM enc_Cap p_Caps), .vs 6 (mM enc_View p_Views), .vs 3 (mM enc_Point3 p_Sun), .int .i64 p_Hours])] kr ?_))))
 refine oN (nT (vS (vS (vT ?_))))
 obtain ⟨y1, c1, hs⟩ := bS hs
 refine oP (v := .vs 1 (mS y1)) kr kr (loc_gcall0 (callV_func hbv15 kr) (w_define_Measures  _ c1) kr) ?_
 refine oP (v := .int .i64 (List.length y1 : Int)) kr kr (loc_lenVs (sz := 1) (els := (mS y1)) kr kr (List.length_map ..)) ?_
 refine oR 1 [(15, .int .i64 0)] kr ?_
 refine oN (nT ?_)
 obtain ⟨z1, hs, hk1⟩ := bS hs
 refine v_join (S := (List ((List UInt8) × Bool))) (fun u => u = z1) (fun u => [(1, .ptr 1 0 0), (5, .mp 12)]) (fun u => [(12, .map (encM V.str V.bool u)), (1, .box 30 [.vs 6 (mM enc_Def p_Defs), .vs 3 (mM enc_Table p_Tables), .vs 3 (mM enc_Zone p_Zones), .vs 20 (mM enc_Rule p_Rules), .vs 4 (mM enc_Cap p_Caps), .vs 6 (mM enc_View p_Views), .vs 3 (mM enc_Point3 p_Sun), .int .i64 p_Hours])]) ?_ (fun v1 hz => ?_)
 ·refine vB ?_
  refine v_fuel (S := Int × (List ((List UInt8) × Bool))) (fun u => [(1, .ptr 1 0 0), (5, .mp 12), (13, .vs 1 (mS y1)), (14, .int .i64 (List.length y1 : Int)), (15, .int .i64 u.1)]) (fun u => [(12, .map (encM V.str V.bool u.2)), (1, .box 30 [.vs 6 (mM enc_Def p_Defs), .vs 3 (mM enc_Table p_Tables), .vs 3 (mM enc_Zone p_Zones), .vs 20 (mM enc_Rule p_Rules), .vs 4 (mM enc_Cap p_Caps), .vs 6 (mM enc_View p_Views), .vs 3 (mM enc_Point3 p_Sun), .int .i64 p_Hours])]) (s_define_Order_L1 y1) (fun _ => rfl) KK (0, []) hs (cut_of [1, 5, 13, 14, 15] [12, 1] kr kr kr) (fun K1 q1 hs => ?_)
  rw [s_define_Order_L1] at hs
  show WpV cK0 Try.prog none 47 _ _ [(1, .ptr 1 0 0), (5, .mp 12), (13, .vs 1 (mS y1)), (14, .int .i64 (List.length y1 : Int)), (15, .int .i64 q1.1)] [(12, .map (encM V.str V.bool q1.2)), (1, .box 30 [.vs 6 (mM enc_Def p_Defs), .vs 3 (mM enc_Table p_Tables), .vs 3 (mM enc_Zone p_Zones), .vs 20 (mM enc_Rule p_Rules), .vs 4 (mM enc_Cap p_Caps), .vs 6 (mM enc_View p_Views), .vs 3 (mM enc_Point3 p_Sun), .int .i64 p_Hours])] []
  refine vS (vT (oR 1 [(16, .bool (decide (q1.1 < (List.length y1 : Int))))] kr ?_))
  refine oN (nT (vS ?_))
  refine v_cond (decide (q1.1 < (List.length y1 : Int))) kr (fun h1 => ?_) (fun h1 => ?_)
  ·replace hs := bif_t h1 hs
   refine vK (nT (vS (vB (vS (vT ?_)))))
   obtain ⟨x1, g1, hs⟩ := bS hs; obtain ⟨g1a, g1b, g1c⟩ := idx_some g1
   refine oP (v := .vp [.str x1] 0) kr kr (loc_indexVs (e := 9) (sz := 1) (k := .i64) (els := (mS y1)) (cs := (EV.encS x1)) kr kr kr g1a (by rw [g1c]; exact map_get _ (by omega))) ?_
   refine oR 2 [(7, .str x1), (18, .str x1)] kr ?_
   refine oN (nT (vT (oR 2 [(20, .str x1), (19, .mp 12)] kr ?_)))
   refine o_loc (F := [(12, .map (encM V.str V.bool q1.2))]) (F' := [(12, .map (encM V.str V.bool (mset x1 true q1.2)))]) (v := .no) [12] kr kr rfl kr (loc_mapUpdate (et := 4) (f := V.str) (g := V.bool) (l := q1.2) (a := x1) (c := true) kr kok9 kr kr kr kr kr) kr ?_
   refine oN (nB (nT (vT (oR 2 [(15, .int .i64 (w64 (q1.1 + 1))), (21, .int .i64 (w64 (q1.1 + 1)))] kr ?_))))
   refine oN (nrm_fuel ((w64 (q1.1 + 1)), (mset x1 true q1.2)) hs ?_)
   exact cut_of [1, 5, 13, 14, 15] [12, 1] kr kr kr
  ·replace hs := bif_f h1 hs
   refine v_exit (exit_thenV (exit_fuel ?_))
   refine exit_blkV ?_
   obtain rfl := si hs
   refine nrm_join q1.2 rfl ?_
   exact cut_of [1, 5] [12, 1] kr kr kr
 ·subst hz; clear hs; have hs := hk1; clear hk1
  refine nT (vS (vS (vT (oR 2 [(23, .vs 6 (mM enc_Def p_Defs)), (22, .ptr 1 0 0)] kr ?_))))
  refine oP (v := .int .i64 (List.length p_Defs : Int)) kr kr (loc_lenVs (sz := 6) (els := (mM enc_Def p_Defs)) kr kr (List.length_map ..)) ?_
  refine oR 1 [(25, .int .i64 0)] kr ?_
  refine oN (nT ?_)
  obtain ⟨z2, hs, hk2⟩ := bS hs
  refine v_join (S := Unit) (fun u => z2 = .inr u) (fun u => [(1, .ptr 1 0 0)]) (fun u => [(1, .box 30 [.vs 6 (mM enc_Def p_Defs), .vs 3 (mM enc_Table p_Tables), .vs 3 (mM enc_Zone p_Zones), .vs 20 (mM enc_Rule p_Rules), .vs 4 (mM enc_Cap p_Caps), .vs 6 (mM enc_View p_Views), .vs 3 (mM enc_Point3 p_Sun), .int .i64 p_Hours])]) ?_ (fun v2 hz => ?_)
  ·refine vB ?_
   refine v_fuel (S := Int × (List ((List UInt8) × Bool))) (fun u => [(1, .ptr 1 0 0), (5, .mp 12), (23, .vs 6 (mM enc_Def p_Defs)), (24, .int .i64 (List.length p_Defs : Int)), (25, .int .i64 u.1)]) (fun u => [(12, .map (encM V.str V.bool u.2)), (1, .box 30 [.vs 6 (mM enc_Def p_Defs), .vs 3 (mM enc_Table p_Tables), .vs 3 (mM enc_Zone p_Zones), .vs 20 (mM enc_Rule p_Rules), .vs 4 (mM enc_Cap p_Caps), .vs 6 (mM enc_View p_Views), .vs 3 (mM enc_Point3 p_Sun), .int .i64 p_Hours])]) (s_define_Order_L2 p_Defs) (fun _ => rfl) KK (0, v1) hs (cut_of [1, 5, 23, 24, 25] [12, 1] kr kr kr) (fun K2 q2 hs => ?_)
   rw [s_define_Order_L2] at hs
   show WpV cK0 Try.prog none 47 _ _ [(1, .ptr 1 0 0), (5, .mp 12), (23, .vs 6 (mM enc_Def p_Defs)), (24, .int .i64 (List.length p_Defs : Int)), (25, .int .i64 q2.1)] [(12, .map (encM V.str V.bool q2.2)), (1, .box 30 [.vs 6 (mM enc_Def p_Defs), .vs 3 (mM enc_Table p_Tables), .vs 3 (mM enc_Zone p_Zones), .vs 20 (mM enc_Rule p_Rules), .vs 4 (mM enc_Cap p_Caps), .vs 6 (mM enc_View p_Views), .vs 3 (mM enc_Point3 p_Sun), .int .i64 p_Hours])] []
   refine vS (vT (oR 1 [(26, .bool (decide (q2.1 < (List.length p_Defs : Int))))] kr ?_))
   refine oN (nT (vS ?_))
   refine v_cond (decide (q2.1 < (List.length p_Defs : Int))) kr (fun h2 => ?_) (fun h2 => ?_)
   ·replace hs := bif_t h2 hs
    refine vK (nT (vS (vB (vS (vT ?_)))))
    obtain ⟨x2, g2, hs⟩ := bS hs; obtain ⟨g2a, g2b, g2c⟩ := idx_some g2
    refine oP (v := .vp (enc_Def x2) 0) kr kr (loc_indexVs (e := 46) (sz := 6) (k := .i64) (els := (mM enc_Def p_Defs)) (cs := (enc_Def x2)) kr kr kr g2a (by rw [g2c]; exact map_get _ (by omega))) ?_
    refine o_runh 3 [(9, .ptr 9 0 0), (28, .agg (enc_Def x2))] [(9, .box 46 [.str x2.Name, .int .i64 x2.Body.Op, .int .i64 x2.Body.N, .str x2.Body.S, .str x2.Body.Key, .vs 5 (encs_Expr x2.Body.Args)]), (12, .map (encM V.str V.bool q2.2)), (1, .box 30 [.vs 6 (mM enc_Def p_Defs), .vs 3 (mM enc_Table p_Tables), .vs 3 (mM enc_Zone p_Zones), .vs 20 (mM enc_Rule p_Rules), .vs 4 (mM enc_Cap p_Caps), .vs 6 (mM enc_View p_Views), .vs 3 (mM enc_Point3 p_Sun), .int .i64 p_Hours])] kr ?_
    refine oN (nT (vS (vS (vT (oR 3 [(31, .str x2.Name), (30, .ptr 9 0 0), (29, .mp 12)] kr ?_)))))
    refine o_loc (F := [(12, .map (encM V.str V.bool q2.2))]) (F' := [(12, .map (encM V.str V.bool q2.2))]) (v := .bool (Option.getD (mfind x2.Name q2.2) false)) [12] kr kr rfl kr (loc_lookup (et := 4) (f := V.str) (g := V.bool) (l := q2.2) (a := x2.Name) (z := false) (zv := .bool false) false kr kok9 kr (fun _ _ _ h => h) kr kr) kr ?_
    refine oN (nT ?_)
    refine v_cond (Option.getD (mfind x2.Name q2.2) false) kr (fun h3 => ?_) (fun h3 => ?_)
    ·replace hs := bif_t h3 hs
     refine vS (vT (oR 3 [(4, .int .i64 5), (3, .nils), (2, .nils)] kr ?_))
     refine oN (nT (v_to ((2, .vs 1 (mI [])) :: _) _ (cut_view (R := []) (ks := []) kr kr (.nils 1)) ?_))
     refine v_to ((3, .vs 1 (mS [])) :: _) _ (cut_view (R := []) (ks := []) kr kr (.nils 1)) ?_
     refine v_ret (rT (rB (rT (ret_fuel ?_))))
     refine rB (ret_join ?_)
     refine rT ?_
     obtain rfl := si hs
     replace hs := hk2
     obtain rfl := si hs
     exact fin_ret kr kr kr
    ·replace hs := bif_f h3 hs
     refine vK (nT (vT (oR 3 [(35, .str x2.Name), (34, .ptr 9 0 0), (33, .mp 12)] kr ?_)))
     refine o_loc (F := [(12, .map (encM V.str V.bool q2.2))]) (F' := [(12, .map (encM V.str V.bool (mset x2.Name true q2.2)))]) (v := .no) [12] kr kr rfl kr (loc_mapUpdate (et := 4) (f := V.str) (g := V.bool) (l := q2.2) (a := x2.Name) (c := true) kr kok9 kr kr kr kr kr) kr ?_
     refine oN (nB (nT (vT (oR 2 [(25, .int .i64 (w64 (q2.1 + 1))), (36, .int .i64 (w64 (q2.1 + 1)))] kr ?_))))
     refine oN (nrm_fuel ((w64 (q2.1 + 1)), (mset x2.Name true q2.2)) hs ?_)
     exact cut_of [1, 5, 23, 24, 25] [12, 1] kr kr kr
   ·replace hs := bif_f h2 hs
    refine v_exit (exit_thenV (exit_fuel ?_))
    refine exit_blkV ?_
    obtain rfl := si hs
    refine nrm_join () rfl ?_
    exact cut_of [1] [1] kr kr kr
  ·subst hz; clear hs; have hs := hk2; clear hk2
   refine nT (vS (vT (oR 2 [(38, .vs 6 (mM enc_Def p_Defs)), (37, .ptr 1 0 0)] kr ?_)))
   obtain ⟨y2, c2, hs⟩ := bS hs
   refine o_loc (F := []) (F' := [(3003900, .box 99 [.vs 6 (mM enc_Def y2.1), .vs 1 (List.map (encL 1 EV.encI) y2.2)])]) (v := .ptr 3003900 0 0) [] kr kr rfl kr (loc_g (R := []) [.vs 6 (mM enc_Def p_Defs)] [(31, 3003900)] (callV_func hbv35 kr) (w_define_newGraph p_Defs _ c2) (.cons (.same _) (.nil)) kr kr kr kr kr kr kr kr) kr ?_
   refine oR 1 [(10, .ptr 3003900 0 0)] kr ?_
   refine oN (nT (vS (vS (vT (oR 1 [(40, .ptr 3003900 0 0)] kr ?_)))))
   obtain ⟨y3, c3, hs⟩ := bS hs
   refine o_loc (F := [(3003900, .box 99 [.vs 6 (mM enc_Def y2.1), .vs 1 (List.map (encL 1 EV.encI) y2.2)])]) (F' := [(3003900, .box 99 [.vs 6 (mM enc_Def y3.2.1), .vs 1 (List.map (encL 1 EV.encI) y3.2.2)])]) (v := nz 1 (mS y3.1)) [3003900] kr kr rfl kr (loc_g (R := []) [.ptr 3003900 0 0] [(1000000, 3003900)] (callV_func hbv36 kr) (w_define_graph_smallest y2.1 y2.2 _ c3) (.cons (.same _) (.nil)) kr kr kr kr kr kr kr kr) kr ?_
   refine oR 1 [(11, nz 1 (mS y3.1))] kr ?_
   refine oN (nT (vS (vT (oR 1 [(42, nz 1 (mS y3.1))] kr ?_))))
   refine oP (v := .bool (!(List.isEmpty y3.1))) kr kr (loc_notNilZ (sz := 1) (els := (mS y3.1)) (b := (!(List.isEmpty y3.1))) kr kr kr (by cases (y3.1 : List _) <;> rfl)) ?_
   refine oN (nT ?_)
   refine v_cond (!(List.isEmpty y3.1)) kr (fun h4 => ?_) (fun h4 => ?_)
   ·replace hs := bif_t h4 hs
    refine vS (vT (oR 4 [(4, .int .i64 16), (3, nz 1 (mS y3.1)), (2, .nils), (44, nz 1 (mS y3.1))] kr ?_))
    refine oN (nT (v_to ((2, .vs 1 (mI [])) :: _) _ (cut_view (R := []) (ks := []) kr kr (.nils 1)) ?_))
    refine v_to ((3, .vs 1 (mS y3.1)) :: _) _ (cut_view (R := []) (ks := []) kr kr (.nz _ _)) ?_
    refine v_ret (rT ?_)
    obtain rfl := si hs
    exact fin_ret kr kr kr
   ·replace hs := bif_f h4 hs
    refine vK (nT (vS (vT (oR 1 [(45, .ptr 3003900 0 0)] kr ?_))))
    obtain ⟨y4, c4, hs⟩ := bS hs
    refine o_loc (F := [(3003900, .box 99 [.vs 6 (mM enc_Def y3.2.1), .vs 1 (List.map (encL 1 EV.encI) y3.2.2)])]) (F' := [(3003900, .box 99 [.vs 6 (mM enc_Def y4.2.1), .vs 1 (List.map (encL 1 EV.encI) y4.2.2)])]) (v := .vs 1 (mI y4.1)) [3003900] kr kr rfl kr (loc_g (R := []) [.ptr 3003900 0 0] [(1000000, 3003900)] (callV_func hbv37 kr) (w_define_graph_order y3.2.1 y3.2.2 _ c4) (.cons (.same _) (.nil)) kr kr kr kr kr kr kr kr) kr ?_
    refine oR 3 [(4, .int .i64 0), (3, .nils), (2, .vs 1 (mI y4.1))] kr ?_
    refine oN (nT (v_to ((3, .vs 1 (mS [])) :: _) _ (cut_view (R := []) (ks := []) kr kr (.nils 1)) ?_))
    refine v_ret ?_
    obtain rfl := si hs
    exact fin_ret kr kr kr
theorem w_greenbeltref01_SameNums (a : (List Int)) (b : (List Int)) (r : Bool) (hs : s_greenbeltref01_SameNums a b = some r) : FnA Try.prog 13 [.vs 1 (mI a), .vs 1 (mI b)] [] (.bool r) [] := by
 refine fnA_of_wp (N := 26) Try.func13 rfl rfl rfl fun cK0 => ?_
 unfold s_greenbeltref01_SameNums at hs
 refine v_same (ρ' := [(0, .vs 1 (mI a)), (1, .vs 1 (mI b))]) rfl rfl ?_
 refine vS (vT (oR 1 [(4, .bool false)] kr ?_))
 refine oN (nT (vS (vS (vT (oR 1 [(6, .vs 1 (mI a))] kr ?_)))))
 refine oP (v := .int .i64 (List.length a : Int)) kr kr (loc_lenVs (sz := 1) (els := (mI a)) kr kr (List.length_map ..)) ?_
 refine oR 1 [(8, .vs 1 (mI b))] kr ?_
 refine oP (v := .int .i64 (List.length b : Int)) kr kr (loc_lenVs (sz := 1) (els := (mI b)) kr kr (List.length_map ..)) ?_
 refine oR 1 [(10, .bool (!(decide ((List.length a : Int) = (List.length b : Int)))))] kr ?_
 refine oN (nT ?_)
 refine v_cond (!(decide ((List.length a : Int) = (List.length b : Int)))) kr (fun h1 => ?_) (fun h1 => ?_)
 ·replace hs := bif_t h1 hs
  refine vS (vT (oR 1 [(4, .bool false)] kr ?_))
  refine oN (nT (v_ret (rT ?_)))
  obtain rfl := si hs
  exact fin_ret kr kr kr
 ·replace hs := bif_f h1 hs
  refine vK (nT (vS (vS (vT (oR 1 [(5, .int .i64 0)] kr ?_)))))
  refine oN (nT ?_)
  obtain ⟨z1, hs, hk1⟩ := bS hs
  refine v_join (S := Unit) (fun u => z1 = .inr u) (fun u => []) (fun u => []) ?_ (fun v1 hz => ?_)
  ·refine vB ?_
   refine v_fuel (S := Int) (fun u => [(0, .vs 1 (mI a)), (1, .vs 1 (mI b)), (5, .int .i64 u)]) (fun u => []) (s_greenbeltref01_SameNums_L1 a b) (fun _ => rfl) KK 0 hs (cut_of [0, 1, 5] [] kr kr kr) (fun K1 q1 hs => ?_)
   rw [s_greenbeltref01_SameNums_L1] at hs
   show WpV cK0 Try.prog none 26 _ _ [(0, .vs 1 (mI a)), (1, .vs 1 (mI b)), (5, .int .i64 q1)] [] []
   refine vS (vS (vT (oR 2 [(12, .vs 1 (mI a)), (11, .int .i64 q1)] kr ?_)))
   refine oP (v := .int .i64 (List.length a : Int)) kr kr (loc_lenVs (sz := 1) (els := (mI a)) kr kr (List.length_map ..)) ?_
   refine oR 1 [(14, .bool (decide (q1 < (List.length a : Int))))] kr ?_
   refine oN (nT ?_)
   refine v_cond (decide (q1 < (List.length a : Int))) kr (fun h2 => ?_) (fun h2 => ?_)
   ·replace hs := bif_t h2 hs
    refine vK (nT (vS (vB (vS (v_draw mixedH kr ?_)))))
    refine d_runs 2 0 [(18, .int .i64 q1), (17, .vs 1 (mI a))] (pfp 2 1) kr kr ?_
    obtain ⟨x1, g1, hs⟩ := bS hs; obtain ⟨g1a, g1b, g1c⟩ := idx_some g1
    refine d_pure (v := .vp [.int .i64 x1] 0) 2 rfl rfl rfl rfl kr kr (loc_indexVs (e := 3) (sz := 1) (k := .i64) (els := (mI a)) (cs := (EV.encI x1)) kr kr kr g1a (by rw [g1c]; exact map_get _ (by omega))) ?_
    refine d_runs 3 3 [(22, .int .i64 q1), (21, .vs 1 (mI b)), (20, .int .i64 x1)] (pfp 3 5) kr kr ?_
    obtain ⟨x2, g2, hs⟩ := bS hs; obtain ⟨g2a, g2b, g2c⟩ := idx_some g2
    refine d_pure (v := .vp [.int .i64 x2] 0) 6 rfl rfl rfl rfl kr kr (loc_indexVs (e := 3) (sz := 1) (k := .i64) (els := (mI b)) (cs := (EV.encI x2)) kr kr kr g2a (by rw [g2c]; exact map_get _ (by omega))) ?_
    refine d_runs 2 7 [(25, .bool (!(decide (x1 = x2)))), (24, .int .i64 x2)] (pfp 2 8) kr kr ?_
    refine d_nil kr ?_
    refine nT ?_
    refine v_cond (!(decide (x1 = x2))) kr (fun h3 => ?_) (fun h3 => ?_)
    ·replace hs := bif_t h3 hs
     refine vS (vT (oR 1 [(4, .bool false)] kr ?_))
     refine oN (nT (v_ret (rB (rT (ret_fuel ?_)))))
     refine rB (ret_join ?_)
     refine rT ?_
     obtain rfl := si hs
     replace hs := hk1
     obtain rfl := si hs
     exact fin_ret kr kr kr
    ·replace hs := bif_f h3 hs
     refine vK (nB (nT (vT (oR 3 [(5, .int .i64 (w64 (q1 + 1))), (16, .int .i64 (w64 (q1 + 1))), (15, .int .i64 q1)] kr ?_))))
     refine oN (nrm_fuel (w64 (q1 + 1)) hs ?_)
     exact cut_of [0, 1, 5] [] kr kr kr
   ·replace hs := bif_f h2 hs
    refine v_exit (exit_thenV (exit_fuel ?_))
    refine exit_blkV ?_
    obtain rfl := si hs
    refine nrm_join () rfl ?_
    exact cut_of [] [] kr kr kr
  ·subst hz; clear hs; have hs := hk1; clear hk1
   refine nT (vS (vT (oR 1 [(4, .bool true)] kr ?_)))
   refine oN (nT (v_ret ?_))
   obtain rfl := si hs
   exact fin_ret kr kr kr
theorem w_greenbeltref01_SameTexts (a : (List (List UInt8))) (b : (List (List UInt8))) (r : Bool) (hs : s_greenbeltref01_SameTexts a b = some r) : FnA Try.prog 14 [.vs 1 (mS a), .vs 1 (mS b)] [] (.bool r) [] := by
 refine fnA_of_wp (N := 26) Try.func14 rfl rfl rfl fun cK0 => ?_
 unfold s_greenbeltref01_SameTexts at hs
 refine v_same (ρ' := [(0, .vs 1 (mS a)), (1, .vs 1 (mS b))]) rfl rfl ?_
 refine vS (vT (oR 1 [(4, .bool false)] kr ?_))
 refine oN (nT (vS (vS (vT (oR 1 [(6, .vs 1 (mS a))] kr ?_)))))
 refine oP (v := .int .i64 (List.length a : Int)) kr kr (loc_lenVs (sz := 1) (els := (mS a)) kr kr (List.length_map ..)) ?_
 refine oR 1 [(8, .vs 1 (mS b))] kr ?_
 refine oP (v := .int .i64 (List.length b : Int)) kr kr (loc_lenVs (sz := 1) (els := (mS b)) kr kr (List.length_map ..)) ?_
 refine oR 1 [(10, .bool (!(decide ((List.length a : Int) = (List.length b : Int)))))] kr ?_
 refine oN (nT ?_)
 refine v_cond (!(decide ((List.length a : Int) = (List.length b : Int)))) kr (fun h1 => ?_) (fun h1 => ?_)
 ·replace hs := bif_t h1 hs
  refine vS (vT (oR 1 [(4, .bool false)] kr ?_))
  refine oN (nT (v_ret (rT ?_)))
  obtain rfl := si hs
  exact fin_ret kr kr kr
 ·replace hs := bif_f h1 hs
  refine vK (nT (vS (vS (vT (oR 1 [(5, .int .i64 0)] kr ?_)))))
  refine oN (nT ?_)
  obtain ⟨z1, hs, hk1⟩ := bS hs
  refine v_join (S := Unit) (fun u => z1 = .inr u) (fun u => []) (fun u => []) ?_ (fun v1 hz => ?_)
  ·refine vB ?_
   refine v_fuel (S := Int) (fun u => [(0, .vs 1 (mS a)), (1, .vs 1 (mS b)), (5, .int .i64 u)]) (fun u => []) (s_greenbeltref01_SameTexts_L1 a b) (fun _ => rfl) KK 0 hs (cut_of [0, 1, 5] [] kr kr kr) (fun K1 q1 hs => ?_)
   rw [s_greenbeltref01_SameTexts_L1] at hs
   show WpV cK0 Try.prog none 26 _ _ [(0, .vs 1 (mS a)), (1, .vs 1 (mS b)), (5, .int .i64 q1)] [] []
   refine vS (vS (vT (oR 2 [(12, .vs 1 (mS a)), (11, .int .i64 q1)] kr ?_)))
   refine oP (v := .int .i64 (List.length a : Int)) kr kr (loc_lenVs (sz := 1) (els := (mS a)) kr kr (List.length_map ..)) ?_
   refine oR 1 [(14, .bool (decide (q1 < (List.length a : Int))))] kr ?_
   refine oN (nT ?_)
   refine v_cond (decide (q1 < (List.length a : Int))) kr (fun h2 => ?_) (fun h2 => ?_)
   ·replace hs := bif_t h2 hs
    refine vK (nT (vS (vB (vS (v_draw mixedH kr ?_)))))
    refine d_runs 2 0 [(18, .int .i64 q1), (17, .vs 1 (mS a))] (pfp 2 1) kr kr ?_
    obtain ⟨x1, g1, hs⟩ := bS hs; obtain ⟨g1a, g1b, g1c⟩ := idx_some g1
    refine d_pure (v := .vp [.str x1] 0) 2 rfl rfl rfl rfl kr kr (loc_indexVs (e := 9) (sz := 1) (k := .i64) (els := (mS a)) (cs := (EV.encS x1)) kr kr kr g1a (by rw [g1c]; exact map_get _ (by omega))) ?_
    refine d_runs 3 3 [(22, .int .i64 q1), (21, .vs 1 (mS b)), (20, .str x1)] (pfp 3 5) kr kr ?_
    obtain ⟨x2, g2, hs⟩ := bS hs; obtain ⟨g2a, g2b, g2c⟩ := idx_some g2
    refine d_pure (v := .vp [.str x2] 0) 6 rfl rfl rfl rfl kr kr (loc_indexVs (e := 9) (sz := 1) (k := .i64) (els := (mS b)) (cs := (EV.encS x2)) kr kr kr g2a (by rw [g2c]; exact map_get _ (by omega))) ?_
    refine d_runs 2 7 [(25, .bool (!(decide (x1 = x2)))), (24, .str x2)] (pfp 2 8) kr kr ?_
    refine d_nil kr ?_
    refine nT ?_
    refine v_cond (!(decide (x1 = x2))) kr (fun h3 => ?_) (fun h3 => ?_)
    ·replace hs := bif_t h3 hs
     refine vS (vT (oR 1 [(4, .bool false)] kr ?_))
     refine oN (nT (v_ret (rB (rT (ret_fuel ?_)))))
     refine rB (ret_join ?_)
     refine rT ?_
     obtain rfl := si hs
     replace hs := hk1
     obtain rfl := si hs
     exact fin_ret kr kr kr
    ·replace hs := bif_f h3 hs
     refine vK (nB (nT (vT (oR 3 [(5, .int .i64 (w64 (q1 + 1))), (16, .int .i64 (w64 (q1 + 1))), (15, .int .i64 q1)] kr ?_))))
     refine oN (nrm_fuel (w64 (q1 + 1)) hs ?_)
     exact cut_of [0, 1, 5] [] kr kr kr
   ·replace hs := bif_f h2 hs
    refine v_exit (exit_thenV (exit_fuel ?_))
    refine exit_blkV ?_
    obtain rfl := si hs
    refine nrm_join () rfl ?_
    exact cut_of [] [] kr kr kr
  ·subst hz; clear hs; have hs := hk1; clear hk1
   refine nT (vS (vT (oR 1 [(4, .bool true)] kr ?_)))
   refine oN (nT (v_ret ?_))
   obtain rfl := si hs
   exact fin_ret kr kr kr
theorem w_define_Reaches (p_Defs : (List Def)) (p_Tables : (List Table)) (p_Zones : (List Zone)) (p_Rules : (List Rule)) (p_Caps : (List Cap)) (p_Views : (List View)) (p_Sun : (List Point3)) (p_Hours : Int) (name : (List UInt8)) (r : (List (List UInt8))) (hs : s_define_Reaches p_Defs p_Tables p_Zones p_Rules p_Caps p_Views p_Sun p_Hours name = some r) : FnA Try.prog 19 [.agg [.vs 6 (mM enc_Def p_Defs), .vs 3 (mM enc_Table p_Tables), .vs 3 (mM enc_Zone p_Zones), .vs 20 (mM enc_Rule p_Rules), .vs 4 (mM enc_Cap p_Caps), .vs 6 (mM enc_View p_Views), .vs 3 (mM enc_Point3 p_Sun), .int .i64 p_Hours], .str name] [] (.vs 1 (mS r)) [] := by
 refine fnA_of_wp (N := 70) Try.func19 rfl rfl rfl fun cK0 => ?_
 unfold s_define_Reaches at hs
 refine v_same (ρ' := [(0, .agg [.vs 6 (mM enc_Def p_Defs), .vs 3 (mM enc_Table p_Tables), .vs 3 (mM enc_Zone p_Zones), .vs 20 (mM enc_Rule p_Rules), .vs 4 (mM enc_Cap p_Caps), .vs 6 (mM enc_View p_Views), .vs 3 (mM enc_Point3 p_Sun), .int .i64 p_Hours]), (1, .str name)]) rfl rfl ?_
 refine vS (vT (o_runh 2 [(4, .nils), (2, .ptr 2 0 0)] [(2, .box 30 [.vs 6 (mM enc_Def p_Defs), .vs 3 (mM enc_Table p_Tables), .vs 3 (mM enc_Zone p_Zones), .vs 20 (mM enc_Rule p_Rules), .vs 4 (mM enc_Cap p_Caps), .vs 6 (mM enc_View p_Views), .vs 3 (mM enc_Point3 p_Sun), .int .i64 p_Hours])] kr ?_))
 refine oN (nT (vS (vT (o_loc (F := []) (F' := [(14, .gen (mro 44 5 (encR V.str encs_Expr []) none))]) (v := .mp 14) [] kr kr rfl kr (loc_makeMapR 44 5 kr) kr ?_))))
 refine oR 1 [(5, .mp 14)] kr ?_
 refine oN (nT (vS (vS (vT (oR 2 [(16, .vs 6 (mM enc_Def p_Defs)), (15, .ptr 2 0 0)] kr ?_)))))
 refine oP (v := .int .i64 (List.length p_Defs : Int)) kr kr (loc_lenVs (sz := 6) (els := (mM enc_Def p_Defs)) kr kr (List.length_map ..)) ?_
 refine oR 1 [(18, .int .i64 0)] kr ?_
 refine oN (nT ?_)
 obtain ⟨z1, hs, hk1⟩ := bS hs
 refine v_join (S := (List ((List UInt8) × (List Expr)))) (fun u => u = z1) (fun u => [(1, .str name), (5, .mp 14)]) (fun u => [(14, .gen (mro 44 5 (encR V.str encs_Expr u) none))]) ?_ (fun v1 hz => ?_)
 ·refine vB ?_
  refine v_fuel (S := Int × (List ((List UInt8) × (List Expr)))) (fun u => [(1, .str name), (5, .mp 14), (16, .vs 6 (mM enc_Def p_Defs)), (17, .int .i64 (List.length p_Defs : Int)), (18, .int .i64 u.1)]) (fun u => [(14, .gen (mro 44 5 (encR V.str encs_Expr u.2) none))]) (s_define_Reaches_L1 p_Defs) (fun _ => rfl) KK (0, []) hs (cut_of [1, 5, 16, 17, 18] [14] kr kr kr) (fun K1 q1 hs => ?_)
  rw [s_define_Reaches_L1] at hs
  show WpV cK0 Try.prog none 70 _ _ [(1, .str name), (5, .mp 14), (16, .vs 6 (mM enc_Def p_Defs)), (17, .int .i64 (List.length p_Defs : Int)), (18, .int .i64 q1.1)] [(14, .gen (mro 44 5 (encR V.str encs_Expr q1.2) none))] []
  refine vS (vT (oR 1 [(19, .bool (decide (q1.1 < (List.length p_Defs : Int))))] kr ?_))
  refine oN (nT (vS ?_))
  refine v_cond (decide (q1.1 < (List.length p_Defs : Int))) kr (fun h1 => ?_) (fun h1 => ?_)
  ·replace hs := bif_t h1 hs
   refine vK (nT (vS (vB (vS (vT ?_)))))
   obtain ⟨x1, g1, hs⟩ := bS hs; obtain ⟨g1a, g1b, g1c⟩ := idx_some g1
   refine oP (v := .vp (enc_Def x1) 0) kr kr (loc_indexVs (e := 46) (sz := 6) (k := .i64) (els := (mM enc_Def p_Defs)) (cs := (enc_Def x1)) kr kr kr g1a (by rw [g1c]; exact map_get _ (by omega))) ?_
   refine o_runh 3 [(7, .ptr 7 0 0), (21, .agg (enc_Def x1))] [(7, .box 46 [.str x1.Name, .int .i64 x1.Body.Op, .int .i64 x1.Body.N, .str x1.Body.S, .str x1.Body.Key, .vs 5 (encs_Expr x1.Body.Args)]), (14, .gen (mro 44 5 (encR V.str encs_Expr q1.2) none))] kr ?_
   refine oN (nT (v_draw mixedH kr ?_))
   refine d_runs 6 0 [(27, .str x1.Name), (26, .ptr 7 0 0), (25, .mp 14), (24, .str x1.Name), (23, .ptr 7 0 0), (22, .mp 14)] [⟨5, [], [7]⟩, ⟨4, [], []⟩, ⟨3, [], []⟩, ⟨2, [], [7]⟩, ⟨1, [], []⟩, ⟨0, [], []⟩] kr kr ?_
   refine d_loc (F := [(14, .gen (mro 44 5 (encR V.str encs_Expr q1.2) none))]) (R := []) (F' := [(14, .gen (mro 44 5 (encR V.str encs_Expr q1.2) (some (mix x1.Name q1.2)))), (28, .row 44 5 0 (encs_Expr (Option.getD (mfind x1.Name q1.2) [])))]) (v := .sl 5 28 (List.length (Option.getD (mfind x1.Name q1.2) [])) 0 (List.length (Option.getD (mfind x1.Name q1.2) []))) 6 [14] [] rfl rfl rfl rfl kr kr kr kr kr kr kr kr (loc_lookupR (f := V.str) (G := encs_Expr) (et := 42) (k := 14) (d := 28) (e := 44) (sz := 5) (n := (List.length (Option.getD (mfind x1.Name q1.2) []))) (l := q1.2) (a := x1.Name) kr kok9 kr kr kr rfl kr (by rw [encs_Expr_eq, List.length_map])) ?_
   refine d_runs 2 7 [(30, .agg (enc_Expr x1.Body)), (29, .ptr 7 0 1)] [⟨8, [], [7]⟩, ⟨7, [], []⟩] kr kr ?_
   refine d_loc (F := []) (R := []) (F' := [(31, .row 44 5 0 (encs_Expr [x1.Body]))]) (v := .sl 5 31 1 0 1) 9 [] [] rfl rfl rfl rfl kr kr kr kr kr kr kr kr (loc_buildSliceW (e := 44) (sz := 5) (els := [(enc_Expr x1.Body)]) (els2 := [(enc_Expr x1.Body)]) (fl := (enc_Expr x1.Body)) (fl2 := (enc_Expr x1.Body)) kr kr kr kr kr (wk_same (wk_same (wk_same (wk_same (wk_same wk_nil))))) kr kr (Eq.trans kr (encs_Expr_eq _).symm)) ?_
   obtain ⟨_, g2, hs⟩ := bS hs; replace g2 := grd_some g2
   refine d_loc (F := [(28, .row 44 5 0 (encs_Expr (Option.getD (mfind x1.Name q1.2) [])))]) (R := [(31, .row 44 5 0 (encs_Expr [x1.Body]))]) (F' := [(28, .row 44 5 0 (encs_Expr ((Option.getD (mfind x1.Name q1.2) []) ++ [x1.Body])))]) (v := .sl 5 28 ((((Option.getD (mfind x1.Name q1.2) []) ++ [x1.Body])).length) 0 ((((Option.getD (mfind x1.Name q1.2) []) ++ [x1.Body])).length)) 10 [28] [31] rfl rfl rfl rfl kr kr kr kr kr kr kr kr (loc_appendT (e := 44) (sz := 5) (bytes := 72) (L := (List.length (Option.getD (mfind x1.Name q1.2) []))) (els := (encs_Expr (Option.getD (mfind x1.Name q1.2) []))) (ys := (encs_Expr [x1.Body])) kr kr (by first | rfl | rw [encs_Expr_eq, List.length_map]) (.sl (t := 44) (fz := 0) (ys := (encs_Expr [x1.Body])) kr kr) (by rw [encs_Expr_eq]; exact map_ones enc_Expr (fun _ => rfl) _) (by rw [encs_Expr_eq]; exact map_lens enc_Expr (fun _ => rfl) _) kr (by first | rfl | rw [encs_Expr_eq, encs_Expr_eq, encs_Expr_eq, List.map_append]) (by rw [encs_Expr_eq, List.length_map]) g2 (by omega)) ?_
   refine d_loc (F := [(14, .gen (mro 44 5 (encR V.str encs_Expr q1.2) (some (mix x1.Name q1.2)))), (28, .row 44 5 0 (encs_Expr ((Option.getD (mfind x1.Name q1.2) []) ++ [x1.Body])))]) (R := []) (F' := [(14, .gen (mro 44 5 (encR V.str encs_Expr (mset x1.Name ((Option.getD (mfind x1.Name q1.2) []) ++ [x1.Body]) q1.2)) none)), (28, .gen gone)]) (v := .no) 11 [14, 28] [] rfl rfl rfl rfl kr kr kr kr kr kr kr kr (loc_mapUpdateR (f := V.str) (G := encs_Expr) (et := 42) (k := 14) (d := 28) (e := 44) (sz := 5) (n := (((Option.getD (mfind x1.Name q1.2) []) ++ [x1.Body])).length) (l := q1.2) (a := x1.Name) (els := ((Option.getD (mfind x1.Name q1.2) []) ++ [x1.Body])) kr kok9 kr kr kr kr (by rw [encs_Expr_eq, List.length_map]) (fun q => by rw [encs_Expr_eq, List.length_map]) (by simp only [List.length_append, List.length_cons, List.length_nil]; omega)) ?_
   refine d_nil kr ?_
   refine nB (nT (vT (oR 2 [(18, .int .i64 (w64 (q1.1 + 1))), (33, .int .i64 (w64 (q1.1 + 1)))] kr ?_)))
   refine oN (nrm_fuel ((w64 (q1.1 + 1)), (mset x1.Name ((Option.getD (mfind x1.Name q1.2) []) ++ [x1.Body]) q1.2)) hs ?_)
   exact cut_of [1, 5, 16, 17, 18] [14] kr kr kr
  ·replace hs := bif_f h1 hs
   refine v_exit (exit_thenV (exit_fuel ?_))
   refine exit_blkV ?_
   obtain rfl := si hs
   refine nrm_join q1.2 rfl ?_
   exact cut_of [1, 5] [14] kr kr kr
 ·subst hz; clear hs; have hs := hk1; clear hk1
  refine nT (vS (vT (o_runh 3 [(8, .ptr 8 0 0), (34, .mp 34)] [(8, .box 67 [.mp 34]), (34, .map (encM V.str V.bool [])), (14, .gen (mro 44 5 (encR V.str encs_Expr v1) none))] kr ?_)))
  refine oN (nT (vS (vT (o_runh 4 [(9, .ptr 9 0 0), (36, .sl 1 36 1 0 1), (35, .str name)] [(9, .box 34 [.sl 1 36 1 0 1]), (36, .row 9 1 0 (mS [name])), (8, .box 67 [.mp 34]), (34, .map (encM V.str V.bool [])), (14, .gen (mro 44 5 (encR V.str encs_Expr v1) none))] kr ?_))))
  refine oN (nT (vS ?_))
  obtain ⟨z2, hs, hk2⟩ := bS hs
  refine v_join (S := (List ((List UInt8) × Bool))) (fun u => u = z2) (fun u => [(8, .ptr 8 0 0)]) (fun u => [(8, .box 67 [.mp 34]), (34, .map (encM V.str V.bool u))]) ?_ (fun v2 hz => ?_)
  ·refine vB (v_to _ [(36, .gen (que 9 1 1 (mS [name]))), (9, .box 34 [.gv 36 (qv true 1 1 1)]), (8, .box 67 [.mp 34]), (34, .map (encM V.str V.bool [])), (14, .gen (mro 44 5 (encR V.str encs_Expr v1) none))] (cut_queBox 9 0 36 (e := 9) (sz := 1) (n := 1) (t := 34) (els := (mS [name])) (cs := [.sl 1 36 1 0 1]) (cs' := [.gv 36 (qv true 1 1 1)]) kr kr kr kr (by first | rfl | simp) (by simp) kr) ?_)
   refine v_to _ [(14, .map (encM V.str (fun e => V.vs 5 (encs_Expr e)) v1)), (36, .gen (que 9 1 1 (mS [name]))), (9, .box 34 [.gv 36 (qv true 1 1 1)]), (8, .box 67 [.mp 34]), (34, .map (encM V.str V.bool []))] (cut_killRT V.str encs_Expr 14 (e := 44) (sz := 5) (l := v1) kr kr) ?_
   refine v_fuel (S := (List (List UInt8)) × Nat × (List ((List UInt8) × Bool))) (fun u => [(5, .mp 14), (8, .ptr 8 0 0), (9, .ptr 9 0 0)]) (fun u => [(14, .map (encM V.str (fun e => V.vs 5 (encs_Expr e)) v1)), (36, .gen (que 9 1 u.2.1 (mS u.1))), (9, .box 34 [.gv 36 (qv true 1 u.2.1 (List.length u.1))]), (8, .box 67 [.mp 34]), (34, .map (encM V.str V.bool u.2.2))]) (s_define_Reaches_L2 v1) (fun _ => rfl) KK ([name], 1, []) hs (Cut.trans (cut_same (H1 := [(14, .map (encM V.str (fun e => V.vs 5 (encs_Expr e)) v1)), (36, .gen (que 9 1 1 (mS [name]))), (9, .box 34 [.gv 36 (qv true 1 1 1)]), (8, .box 67 [.mp 34]), (34, .map (encM V.str V.bool []))]) rfl kr) (Cut.trans (cut_same (H1 := [(14, .map (encM V.str (fun e => V.vs 5 (encs_Expr e)) v1)), (36, .gen (que 9 1 1 (mS [name]))), (9, .box 34 [.gv 36 (qv true 1 1 (List.length [name]))]), (8, .box 67 [.mp 34]), (34, .map (encM V.str V.bool []))]) rfl (by first | (simp only [List.length_set, cpyT_length]; done) | rfl)) (cut_of [5, 8, 9] [14, 36, 9, 8, 34] kr kr kr))) (fun K2 q2 hs => ?_)
   rw [s_define_Reaches_L2] at hs
   show WpV cK0 Try.prog none 70 _ _ [(5, .mp 14), (8, .ptr 8 0 0), (9, .ptr 9 0 0)] [(14, .map (encM V.str (fun e => V.vs 5 (encs_Expr e)) v1)), (36, .gen (que 9 1 q2.2.1 (mS q2.1))), (9, .box 34 [.gv 36 (qv true 1 q2.2.1 (List.length q2.1))]), (8, .box 67 [.mp 34]), (34, .map (encM V.str V.bool q2.2.2))] []
   refine vS (vS (vT (oR 1 [(37, .gv 36 (qv true 1 q2.2.1 (List.length q2.1)))] kr ?_)))
   refine oP (v := .int .i64 ((List.length q2.1) : Int)) kr kr (loc_lenQ (k := 36) (sz := 1) (ver := q2.2.1) (n := (List.length q2.1)) kr kr) ?_
   refine oR 1 [(39, .bool (decide (((List.length q2.1) : Int) > 0)))] kr ?_
   refine oN (nT ?_)
   refine v_cond (decide (((List.length q2.1) : Int) > 0)) kr (fun h2 => ?_) (fun h2 => ?_)
   ·replace hs := bif_t h2 hs
    refine vK (nT (vB (vS (vT (oR 1 [(40, .gv 36 (qv true 1 q2.2.1 (List.length q2.1)))] kr ?_)))))
    obtain ⟨⟨g3a, g3b⟩, hs⟩ := bG hs
    refine oP (v := .gv 36 (qv false 1 q2.2.1 ((Int.toNat 0) * 1))) kr kr (loc_indexQ (e := 9) (sz := 1) (kk := 36) (ver := q2.2.1) (n := (List.length q2.1)) (k := .i64) (i := 0) kr kr kr g3a g3b) ?_
    obtain ⟨e1, he1, hs⟩ := bE hs
    refine o_loc (F := [(36, .gen (que 9 1 q2.2.1 (mS q2.1)))]) (F' := [(36, .gen (que 9 1 q2.2.1 (mS q2.1)))]) (v := .str e1) [36] kr kr rfl kr (loc_loadQ (et := 9) (sz := 1) (k := 36) (ver := q2.2.1) (n := (Int.toNat 0) * 1) (els := (mS q2.1)) (cs := [.str e1]) (Int.toNat 0) kr kr (by rw [← he1]; exact map_get _ (by omega)) kr) kr ?_
    refine oR 1 [(10, .str e1)] kr ?_
    refine oN (nT (vS (vT (oR 1 [(43, .gv 36 (qv true 1 q2.2.1 (List.length q2.1)))] kr ?_))))
    obtain ⟨_, g4, hs⟩ := bS hs; replace g4 := grd_some g4
    refine o_loc (F := [(36, .gen (que 9 1 q2.2.1 (mS q2.1)))]) (F' := [(36, .gen (que 9 1 (q2.2.1 + 1) (mS (List.drop 1 q2.1))))]) (v := .gv 36 (qv true 1 (q2.2.1 + 1) (List.length (List.drop 1 q2.1)))) [36] kr kr rfl kr (loc_popQT EV.encS (e := 9) (et := 9) (sz := 1) (k := 36) (ver := q2.2.1) (n := (List.length q2.1)) (p := q2.1) (kk := .i64) kr kr kr rfl g4 rfl) kr ?_
    refine o_runh 1 [] [(36, .gen (que 9 1 (q2.2.1 + 1) (mS (List.drop 1 q2.1)))), (14, .map (encM V.str (fun e => V.vs 5 (encs_Expr e)) v1)), (9, .box 34 [.gv 36 (qv true 1 (q2.2.1 + 1) (List.length (List.drop 1 q2.1)))]), (8, .box 67 [.mp 34]), (34, .map (encM V.str V.bool q2.2.2))] kr ?_
    refine oN (nT (vS (vT (oR 2 [(46, .str e1), (45, .mp 14)] kr ?_))))
    refine o_loc (F := [(14, .map (encM V.str (fun e => V.vs 5 (encs_Expr e)) v1))]) (F' := [(14, .map (encM V.str (fun e => V.vs 5 (encs_Expr e)) v1))]) (v := .vs 5 (encs_Expr (Option.getD (mfind e1 v1) []))) [14] kr kr rfl kr (loc_lookup (et := 42) (f := V.str) (g := (fun e => V.vs 5 (encs_Expr e))) (l := v1) (a := e1) (z := []) (zv := .nils) false kr kok9 kr (fun _ _ _ h => nils_vs h) kr kr) kr ?_
    refine oP (v := .int .i64 (List.length (Option.getD (mfind e1 v1) []) : Int)) kr kr (loc_lenVs (sz := 5) (els := (encs_Expr (Option.getD (mfind e1 v1) []))) kr kr (by rw [encs_Expr_eq, List.length_map])) ?_
    refine oR 1 [(49, .int .i64 0)] kr ?_
    refine oN (nT ?_)
    obtain ⟨z3, hs, hk3⟩ := bS hs
    refine v_join (S := (List (List UInt8)) × Nat × (List ((List UInt8) × Bool))) (fun u => u = z3) (fun u => [(5, .mp 14), (8, .ptr 8 0 0), (9, .ptr 9 0 0)]) (fun u => [(14, .map (encM V.str (fun e => V.vs 5 (encs_Expr e)) v1)), (36, .gen (que 9 1 u.2.1 (mS u.1))), (9, .box 34 [.gv 36 (qv true 1 u.2.1 (List.length u.1))]), (8, .box 67 [.mp 34]), (34, .map (encM V.str V.bool u.2.2))]) ?_ (fun v3 hz => ?_)
    ·refine vB ?_
     refine v_fuel (S := Int × (List (List UInt8)) × Nat × (List ((List UInt8) × Bool))) (fun u => [(5, .mp 14), (8, .ptr 8 0 0), (9, .ptr 9 0 0), (47, .vs 5 (encs_Expr (Option.getD (mfind e1 v1) []))), (48, .int .i64 (List.length (Option.getD (mfind e1 v1) []) : Int)), (49, .int .i64 u.1)]) (fun u => [(14, .map (encM V.str (fun e => V.vs 5 (encs_Expr e)) v1)), (36, .gen (que 9 1 u.2.2.1 (mS u.2.1))), (9, .box 34 [.gv 36 (qv true 1 u.2.2.1 (List.length u.2.1))]), (8, .box 67 [.mp 34]), (34, .map (encM V.str V.bool u.2.2.2))]) (s_define_Reaches_L3 v1 e1) (fun _ => rfl) KK (0, (List.drop 1 q2.1), (q2.2.1 + 1), q2.2.2) hs (cut_of [5, 8, 9, 47, 48, 49] [14, 36, 9, 8, 34] kr kr kr) (fun K3 q3 hs => ?_)
     rw [s_define_Reaches_L3] at hs
     show WpV cK0 Try.prog none 70 _ _ [(5, .mp 14), (8, .ptr 8 0 0), (9, .ptr 9 0 0), (47, .vs 5 (encs_Expr (Option.getD (mfind e1 v1) []))), (48, .int .i64 (List.length (Option.getD (mfind e1 v1) []) : Int)), (49, .int .i64 q3.1)] [(14, .map (encM V.str (fun e => V.vs 5 (encs_Expr e)) v1)), (36, .gen (que 9 1 q3.2.2.1 (mS q3.2.1))), (9, .box 34 [.gv 36 (qv true 1 q3.2.2.1 (List.length q3.2.1))]), (8, .box 67 [.mp 34]), (34, .map (encM V.str V.bool q3.2.2.2))] []
     refine vS (vT (oR 1 [(50, .bool (decide (q3.1 < (List.length (Option.getD (mfind e1 v1) []) : Int))))] kr ?_))
     refine oN (nT (vS ?_))
     refine v_cond (decide (q3.1 < (List.length (Option.getD (mfind e1 v1) []) : Int))) kr (fun h3 => ?_) (fun h3 => ?_)
     ·replace hs := bif_t h3 hs
      refine vK (nT (vS (vB (vS (vT ?_)))))
      obtain ⟨x2, g5, hs⟩ := bS hs; obtain ⟨g5a, g5b, g5c⟩ := idx_some g5
      refine oP (v := .vp (enc_Expr x2) 0) kr kr (loc_indexVs (e := 44) (sz := 5) (k := .i64) (els := (encs_Expr (Option.getD (mfind e1 v1) []))) (cs := (enc_Expr x2)) kr kr kr g5a (by rw [g5c, encs_Expr_eq]; exact map_get _ (by omega))) ?_
      refine o_runh 3 [(12, .ptr 12 0 0), (52, .agg (enc_Expr x2))] [(12, .box 44 (enc_Expr x2)), (14, .map (encM V.str (fun e => V.vs 5 (encs_Expr e)) v1)), (36, .gen (que 9 1 q3.2.2.1 (mS q3.2.1))), (9, .box 34 [.gv 36 (qv true 1 q3.2.2.1 (List.length q3.2.1))]), (8, .box 67 [.mp 34]), (34, .map (encM V.str V.bool q3.2.2.2))] kr ?_
      refine oN (nT (vS (vT (oR 1 [(53, .agg (enc_Expr x2))] kr ?_))))
      obtain ⟨y1, c1, hs⟩ := bS hs
      refine o_loc (F := []) (F' := [(3005400, .box 44 [.int .i64 y1.1, .int .i64 y1.2.1, .str y1.2.2.1, .str y1.2.2.2.1, .vs 5 (encs_Expr y1.2.2.2.2)])]) (v := .fn 59 [] [.ptr 3005400 0 0]) [] kr kr rfl kr (loc_g (R := []) [.agg (enc_Expr x2)] [(1, 3005400)] (callV_func hbv42 kr) (w_define_names x2 _ c1) (.cons (.same _) (.nil)) kr kr kr kr kr kr kr kr) kr ?_
      refine oN (nT ?_)
      obtain ⟨z4, hs, hk4⟩ := bS hs
      refine v_join (S := (List (List UInt8)) × Nat × (List ((List UInt8) × Bool))) (fun u => u = z4) (fun u => [(5, .mp 14), (8, .ptr 8 0 0), (9, .ptr 9 0 0), (47, .vs 5 (encs_Expr (Option.getD (mfind e1 v1) []))), (48, .int .i64 (List.length (Option.getD (mfind e1 v1) []) : Int)), (49, .int .i64 q3.1)]) (fun u => [(14, .map (encM V.str (fun e => V.vs 5 (encs_Expr e)) v1)), (36, .gen (que 9 1 u.2.1 (mS u.1))), (9, .box 34 [.gv 36 (qv true 1 u.2.1 (List.length u.1))]), (8, .box 67 [.mp 34]), (34, .map (encM V.str V.bool u.2.2))]) ?_ (fun v4 hz => ?_)
      ·refine vB (v_to [(5, .mp 14), (8, .ptr 8 0 0), (9, .ptr 9 0 0), (47, .vs 5 (encs_Expr (Option.getD (mfind e1 v1) []))), (48, .int .i64 (List.length (Option.getD (mfind e1 v1) []) : Int)), (49, .int .i64 q3.1), (54, .fn 59 [] [.ptr 3005400 0 0])] [(3005400, .box 44 [.int .i64 y1.1, .int .i64 y1.2.1, .str y1.2.2.1, .str y1.2.2.2.1, .vs 5 (encs_Expr y1.2.2.2.2)]), (14, .map (encM V.str (fun e => V.vs 5 (encs_Expr e)) v1)), (36, .gen (que 9 1 q3.2.2.1 (mS q3.2.1))), (9, .box 34 [.gv 36 (qv true 1 q3.2.2.1 (List.length q3.2.1))]), (8, .box 67 [.mp 34]), (34, .map (encM V.str V.bool q3.2.2.2))] (cut_of [5, 8, 9, 47, 48, 49, 54] [3005400, 14, 36, 9, 8, 34] kr kr kr) ?_)
       refine v_rangeF (Sg := (List (List UInt8)) × Nat × (List ((List UInt8) × Bool))) (enc := V.str) (val := (fun s : List UInt8 => Value.string ⟨s.toArray⟩)) (caps := [.ptr 3005400 0 0]) (F := [(3005400, .box 44 [.int .i64 y1.1, .int .i64 y1.2.1, .str y1.2.2.1, .str y1.2.2.2.1, .vs 5 (encs_Expr y1.2.2.2.2)])]) [3005400] (fun u => [(3005400, .box 44 [.int .i64 y1.1, .int .i64 y1.2.1, .str y1.2.2.1, .str y1.2.2.2.1, .vs 5 (encs_Expr y1.2.2.2.2)]), (14, .map (encM V.str (fun e => V.vs 5 (encs_Expr e)) v1)), (36, .gen (que 9 1 u.2.1 (mS u.1))), (9, .box 34 [.gv 36 (qv true 1 u.2.1 (List.length u.1))]), (8, .box 67 [.mp 34]), (34, .map (encM V.str V.bool u.2.2))]) s_define_Reaches_L4 (q3.2.1, q3.2.2.1, q3.2.2.2) kr hbv59 (iter_names 3005400 (Expr.mk y1.1 y1.2.1 y1.2.2.1 y1.2.2.2.1 y1.2.2.2.2)) kr kr (fun _ _ _ => rfl) hs (fun _ => by kernel_rfl) kr (fun lR1 x3 xs1 q4 cR1 hs => ?_) (fun q4 hs => ?_)
       ·rw [s_define_Reaches_L4] at hs
        show WpV cR1 Try.prog (some lR1) 70 _ _ [(13, .str x3), (55, .str x3), (5, .mp 14), (8, .ptr 8 0 0), (9, .ptr 9 0 0), (47, .vs 5 (encs_Expr (Option.getD (mfind e1 v1) []))), (48, .int .i64 (List.length (Option.getD (mfind e1 v1) []) : Int)), (49, .int .i64 q3.1), (54, .fn 59 [] [.ptr 3005400 0 0])] [(3005400, .box 44 [.int .i64 y1.1, .int .i64 y1.2.1, .str y1.2.2.1, .str y1.2.2.2.1, .vs 5 (encs_Expr y1.2.2.2.2)]), (14, .map (encM V.str (fun e => V.vs 5 (encs_Expr e)) v1)), (36, .gen (que 9 1 q4.2.1 (mS q4.1))), (9, .box 34 [.gv 36 (qv true 1 q4.2.1 (List.length q4.1))]), (8, .box 67 [.mp 34]), (34, .map (encM V.str V.bool q4.2.2))] []
        refine vB (vS (vT (oR 2 [(57, .str x3), (56, .mp 34)] kr ?_)))
        refine o_loc (F := [(34, .map (encM V.str V.bool q4.2.2))]) (F' := [(34, .map (encM V.str V.bool q4.2.2))]) (v := .bool (Option.getD (mfind x3 q4.2.2) false)) [34] kr kr rfl kr (loc_lookup (et := 4) (f := V.str) (g := V.bool) (l := q4.2.2) (a := x3) (z := false) (zv := .bool false) false kr kok9 kr (fun _ _ _ h => h) kr kr) kr ?_
        refine oR 1 [(59, .bool (!(Option.getD (mfind x3 q4.2.2) false)))] kr ?_
        refine oN (nT ?_)
        obtain ⟨z5, hs, hk5⟩ := bS hs
        refine v_join (S := (List (List UInt8)) × Nat × (List ((List UInt8) × Bool))) (fun u => u = z5) (fun u => []) (fun u => [(36, .gen (que 9 1 u.2.1 (mS u.1))), (34, .map (encM V.str V.bool u.2.2)), (3005400, .box 44 [.int .i64 y1.1, .int .i64 y1.2.1, .str y1.2.2.1, .str y1.2.2.2.1, .vs 5 (encs_Expr y1.2.2.2.2)]), (14, .map (encM V.str (fun e => V.vs 5 (encs_Expr e)) v1)), (9, .box 34 [.gv 36 (qv true 1 u.2.1 (List.length u.1))]), (8, .box 67 [.mp 34])]) ?_ (fun v5 hz => ?_)
        ·refine v_cond (!(Option.getD (mfind x3 q4.2.2) false)) kr (fun h4 => ?_) (fun h4 => ?_)
         ·replace hs := bif_t h4 hs
          refine vS (vT (oR 2 [(61, .str x3), (60, .mp 34)] kr ?_))
          refine o_loc (F := [(34, .map (encM V.str V.bool q4.2.2))]) (F' := [(34, .map (encM V.str V.bool (mset x3 true q4.2.2)))]) (v := .no) [34] kr kr rfl kr (loc_mapUpdate (et := 4) (f := V.str) (g := V.bool) (l := q4.2.2) (a := x3) (c := true) kr kok9 kr kr kr kr kr) kr ?_
          refine oN (nT (vT (o_runh 3 [(64, .sl 1 64 1 0 1), (63, .str x3), (62, .gv 36 (qv true 1 q4.2.1 (List.length q4.1)))] [(64, .row 9 1 0 (mS [x3])), (34, .map (encM V.str V.bool (mset x3 true q4.2.2))), (3005400, .box 44 [.int .i64 y1.1, .int .i64 y1.2.1, .str y1.2.2.1, .str y1.2.2.2.1, .vs 5 (encs_Expr y1.2.2.2.2)]), (14, .map (encM V.str (fun e => V.vs 5 (encs_Expr e)) v1)), (36, .gen (que 9 1 q4.2.1 (mS q4.1))), (9, .box 34 [.gv 36 (qv true 1 q4.2.1 (List.length q4.1))]), (8, .box 67 [.mp 34])] kr ?_)))
          obtain ⟨_, g6, hs⟩ := bS hs; replace g6 := grd_some g6
          refine o_loc (F := [(36, .gen (que 9 1 q4.2.1 (mS q4.1))), (64, .row 9 1 0 (mS [x3]))]) (F' := [(36, .gen (que 9 1 (q4.2.1 + 1) (mS (q4.1 ++ [x3])))), (64, .row 9 1 0 (mS [x3]))]) (v := .gv 36 (qv true 1 (q4.2.1 + 1) (List.length (q4.1 ++ [x3])))) [36, 64] kr kr rfl kr (loc_appendQ (e := 9) (sz := 1) (bytes := 16) (k := 36) (ver := q4.2.1) (n := (List.length q4.1)) (n' := (List.length (q4.1 ++ [x3]))) (els := (mS q4.1)) (ys := (mS [x3])) kr kr (by first | exact List.length_map .. | simp only [List.length_map]) (.sl (t := 9) (fz := 0) (ys := (mS [x3])) kr kr) (map_ones EV.encS (fun _ => rfl) _) (map_lens EV.encS (fun _ => rfl) _) kr kr (by exact (List.map_append ..).symm) (List.length_map ..) g6 (by omega)) kr ?_
          refine o_runh 1 [] [(36, .gen (que 9 1 (q4.2.1 + 1) (mS (q4.1 ++ [x3])))), (64, .row 9 1 0 (mS [x3])), (34, .map (encM V.str V.bool (mset x3 true q4.2.2))), (3005400, .box 44 [.int .i64 y1.1, .int .i64 y1.2.1, .str y1.2.2.1, .str y1.2.2.2.1, .vs 5 (encs_Expr y1.2.2.2.2)]), (14, .map (encM V.str (fun e => V.vs 5 (encs_Expr e)) v1)), (9, .box 34 [.gv 36 (qv true 1 (q4.2.1 + 1) (List.length (q4.1 ++ [x3])))]), (8, .box 67 [.mp 34])] kr ?_
          refine oN ?_
          obtain rfl := si hs
          refine nrm_join ((q4.1 ++ [x3]), (q4.2.1 + 1), (mset x3 true q4.2.2)) rfl ?_
          exact cut_of [] [36, 34, 3005400, 14, 9, 8] kr kr kr
         ·replace hs := bif_f h4 hs
          refine vK ?_
          obtain rfl := si hs
          refine nrm_join (q4.1, q4.2.1, q4.2.2) rfl ?_
          exact cut_of [] [36, 34, 3005400, 14, 9, 8] kr kr kr
        ·subst hz; clear hs; have hs := hk5; clear hk5
         refine nB (nrm_round (v5.1, v5.2.1, v5.2.2) hs ?_)
         exact cut_of [] [3005400, 14, 36, 9, 8, 34] kr kr kr
       ·rw [s_define_Reaches_L4] at hs
        refine nB ?_
        obtain rfl := si hs
        refine nrm_join (q4.1, q4.2.1, q4.2.2) rfl ?_
        exact cut_of [5, 8, 9, 47, 48, 49] [14, 36, 9, 8, 34] kr kr kr
      ·subst hz; clear hs; have hs := hk4; clear hk4
       refine nB (nT (vT (oR 2 [(49, .int .i64 (w64 (q3.1 + 1))), (66, .int .i64 (w64 (q3.1 + 1)))] kr ?_)))
       refine oN (nrm_fuel ((w64 (q3.1 + 1)), v4.1, v4.2.1, v4.2.2) hs ?_)
       exact cut_of [5, 8, 9, 47, 48, 49] [14, 36, 9, 8, 34] kr kr kr
     ·replace hs := bif_f h3 hs
      refine v_exit (exit_thenV (exit_fuel ?_))
      refine exit_blkV ?_
      obtain rfl := si hs
      refine nrm_join (q3.2.1, q3.2.2.1, q3.2.2.2) rfl ?_
      exact cut_of [5, 8, 9] [14, 36, 9, 8, 34] kr kr kr
    ·subst hz; clear hs; have hs := hk3; clear hk3
     refine nB (nrm_fuel (v3.1, v3.2.1, v3.2.2) hs ?_)
     exact cut_of [5, 8, 9] [14, 36, 9, 8, 34] kr kr kr
   ·replace hs := bif_f h2 hs
    refine v_exit (exit_thenV (exit_fuel ?_))
    refine exit_blkV ?_
    obtain rfl := si hs
    refine nrm_join q2.2.2 rfl ?_
    exact cut_of [8] [8, 34] kr kr kr
  ·subst hz; clear hs; have hs := hk2; clear hk2
   refine nT (vS (vT (oR 1 [(67, .mp 34)] kr ?_)))
   obtain ⟨y2, c2, hs⟩ := bS hs
   refine o_loc (F := [(34, .map (encM V.str V.bool v2))]) (F' := [(3006800, .box 67 [.mp 34]), (34, .map (encM V.str V.bool v2))]) (v := .fn 62 [] [.ptr 3006800 0 0]) [34] kr kr rfl kr (loc_g (R := []) [.mp 34] [(1000000, 34), (1, 3006800)] (callV_func hbv44 kr) (w_maps_Keys v2 _ c2) (.cons (.same _) (.nil)) kr kr kr kr kr kr kr kr) kr ?_
   obtain ⟨_, g7, hs⟩ := bS hs; replace g7 := grd_some g7
   refine o_loc (F := [(3006800, .box 67 [.mp 34]), (34, .map (encM V.str V.bool v2))]) (F' := [(3006800, .box 67 [.mp 34]), (34, .map (encM V.str V.bool v2))]) (v := .vs 1 (mS (sortKeys v2))) [3006800, 34] kr kr rfl kr (loc_g (R := []) [.fn 62 [] [.ptr 3006800 0 0]] [(1000000, 3006800), (1000001, 34)] (callV_func hbv43 kr) (w_sorted_keys v2 g7) (.cons (.same _) .nil) kr kr kr kr kr kr kr kr) kr ?_
   refine oR 1 [(4, .vs 1 (mS (sortKeys v2)))] kr ?_
   refine oN (nT (v_ret ?_))
   obtain rfl := si hs
   exact fin_ret kr kr kr
end Go.Proofs.Ytconjkgifdfhdaa
