/- printed by gen2.py -/
import Derived.Test.YtconjkgifdfhdabGreatE
import Derived.Test.YtconjkgifdfhdabGreatSD
set_option linter.all false
set_option maxRecDepth 100000
namespace Go.Proofs.YtconjkgifdfhdabGreat
open Go Go.RowKit Go.Eng Go.EV
variable [Fuel]

theorem hbv17 : hasBody Tryz.prog 17 := body_of kr
theorem hbv16 : hasBody Tryz.prog 16 := body_of kr
theorem mixedH : Tryz.prog.follows .mixedOrders = true := by kernel_rfl
theorem hbv18 : hasBody Tryz.prog 18 := body_of kr
theorem hbv35 : hasBody Tryz.prog 35 := body_of kr
theorem hbv20 : hasBody Tryz.prog 20 := body_of kr
theorem hbv7 : hasBody Tryz.prog 7 := body_of kr
theorem kok9 : KeyOK Tryz.prog 9 V.str (fun s : List UInt8 => Value.string ⟨s.toArray⟩) := keyOK_str kr
theorem hbv54 : hasBody Tryz.prog 54 := body_of kr
theorem hbv73 : hasBody Tryz.prog 73 := body_of kr
theorem hbv75 : hasBody Tryz.prog 75 := body_of kr
theorem hbv74 : hasBody Tryz.prog 74 := body_of kr
theorem hbv79 : hasBody Tryz.prog 79 := body_of kr
theorem hbv67 : hasBody Tryz.prog 67 := body_of kr
theorem hbv55 : hasBody Tryz.prog 55 := body_of kr
theorem hbv103 : hasBody Tryz.prog 103 := body_of kr
theorem hbv89 : hasBody Tryz.prog 89 := body_of kr
theorem hbv83 : hasBody Tryz.prog 83 := body_of kr
theorem hbv90 : hasBody Tryz.prog 90 := body_of kr
theorem hbv84 : hasBody Tryz.prog 84 := body_of kr
theorem hbv76 : hasBody Tryz.prog 76 := body_of kr
theorem hbv68 : hasBody Tryz.prog 68 := body_of kr
theorem hbv85 : hasBody Tryz.prog 85 := body_of kr
theorem hbv77 : hasBody Tryz.prog 77 := body_of kr
theorem hbv69 : hasBody Tryz.prog 69 := body_of kr
theorem hbv56 : hasBody Tryz.prog 56 := body_of kr
theorem hbv71 : hasBody Tryz.prog 71 := body_of kr
theorem hbv78 : hasBody Tryz.prog 78 := body_of kr
theorem hbv70 : hasBody Tryz.prog 70 := body_of kr
theorem hbv57 : hasBody Tryz.prog 57 := body_of kr
theorem hbv42 : hasBody Tryz.prog 42 := body_of kr
theorem hbv58 : hasBody Tryz.prog 58 := body_of kr
theorem hbv38 : hasBody Tryz.prog 38 := body_of kr
theorem hbv60 : hasBody Tryz.prog 60 := body_of kr
theorem hbv59 : hasBody Tryz.prog 59 := body_of kr
theorem hbv43 : hasBody Tryz.prog 43 := body_of kr
theorem hbv37 : hasBody Tryz.prog 37 := body_of kr
theorem hbv24 : hasBody Tryz.prog 24 := body_of kr
theorem hbv44 : hasBody Tryz.prog 44 := body_of kr
theorem hbv32 : hasBody Tryz.prog 32 := body_of kr
theorem hbv61 : hasBody Tryz.prog 61 := body_of kr
theorem hbv45 : hasBody Tryz.prog 45 := body_of kr
theorem hbv31 : hasBody Tryz.prog 31 := body_of kr
theorem hbv11 : hasBody Tryz.prog 11 := body_of kr
theorem hbv22 : hasBody Tryz.prog 22 := body_of kr
theorem hbv26 : hasBody Tryz.prog 26 := body_of kr
theorem hbv25 : hasBody Tryz.prog 25 := body_of kr
theorem hbv28 : hasBody Tryz.prog 28 := body_of kr
theorem hbv39 : hasBody Tryz.prog 39 := body_of kr
theorem hbv27 : hasBody Tryz.prog 27 := body_of kr
theorem hbv23 : hasBody Tryz.prog 23 := body_of kr
theorem hbv40 : hasBody Tryz.prog 40 := body_of kr
theorem hbv29 : hasBody Tryz.prog 29 := body_of kr
theorem hbv9 : hasBody Tryz.prog 9 := body_of kr
theorem hbv4 : hasBody Tryz.prog 4 := body_of kr
theorem hbv19 : hasBody Tryz.prog 19 := body_of kr
theorem hbv6 : hasBody Tryz.prog 6 := body_of kr
theorem hbv5 : hasBody Tryz.prog 5 := body_of kr
theorem hbv36 : hasBody Tryz.prog 36 := body_of kr
theorem hbv21 : hasBody Tryz.prog 21 := body_of kr
theorem hbv8 : hasBody Tryz.prog 8 := body_of kr
theorem hbv41 : hasBody Tryz.prog 41 := body_of kr
theorem hbv30 : hasBody Tryz.prog 30 := body_of kr
theorem hbv10 : hasBody Tryz.prog 10 := body_of kr
theorem hbv64 : hasBody Tryz.prog 64 := body_of kr
theorem hbv63 : hasBody Tryz.prog 63 := body_of kr
theorem hbv50 : hasBody Tryz.prog 50 := body_of kr
theorem hbv72 : hasBody Tryz.prog 72 := body_of kr
theorem hbv65 : hasBody Tryz.prog 65 := body_of kr
theorem hbv51 : hasBody Tryz.prog 51 := body_of kr
theorem hbv66 : hasBody Tryz.prog 66 := body_of kr
theorem hbv52 : hasBody Tryz.prog 52 := body_of kr
theorem hbv53 : hasBody Tryz.prog 53 := body_of kr
theorem hbv34 : hasBody Tryz.prog 34 := body_of kr
theorem hbv46 : hasBody Tryz.prog 46 := body_of kr
theorem hbv47 : hasBody Tryz.prog 47 := body_of kr
theorem hbv48 : hasBody Tryz.prog 48 := body_of kr
theorem hbv33 : hasBody Tryz.prog 33 := body_of kr
theorem hbv62 : hasBody Tryz.prog 62 := body_of kr
theorem hbv49 : hasBody Tryz.prog 49 := body_of kr
theorem hbv15 : hasBody Tryz.prog 15 := body_of kr
theorem hbv12 : hasBody Tryz.prog 12 := body_of kr
theorem hbv14 : hasBody Tryz.prog 14 := body_of kr
theorem hbv13 : hasBody Tryz.prog 13 := body_of kr
theorem w_gl17_num (n : Int) (r : Expr) (hs : s_gl17_num n = some r) : FnA Tryz.prog 17 [.int .i64 n] [] (.agg (enc_Expr r)) [] := by
 refine fnA_of_wp (N := 5) Tryz.func17 rfl rfl rfl fun cK0 => ?_
 unfold s_gl17_num at hs
 refine v_same (ρ' := [(0, .int .i64 n)]) rfl rfl ?_
 refine vS (vT (o_runh 1 [(2, .ptr 2 0 0)] [(2, .box 35 [.int .i64 0, .int .i64 0, .str [], .str [], .nils])] kr ?_))
 refine oN (nT (vS (vT (o_runh 3 [(4, .agg [.int .i64 0, .int .i64 n, .str [], .str [], .nils]), (3, .int .i64 n)] [(2, .box 35 [.int .i64 0, .int .i64 n, .str [], .str [], .nils])] kr ?_))))
 refine oN (nT (v_to _ [(2, .box 35 [.int .i64 0, .int .i64 n, .str [], .str [], .vs 5 (encs_Expr [])])] (cut_box (k := 2) (t := 35) (cs := [.int .i64 0, .int .i64 n, .str [], .str [], .nils]) (cs' := [.int .i64 0, .int .i64 n, .str [], .str [], .vs 5 (encs_Expr [])]) [] [] kr kr kr (.cons (.same _) (.cons (.same _) (.cons (.same _) (.cons (.same _) (.cons (.nils 5) (.nil)))))) kr) ?_))
 refine v_ret ?_
 cases hs
 exact fin_ret kr kr kr
theorem w_gl17_op (kind : Int) (args : (List Expr)) (r : Expr) (hs : s_gl17_op kind args = some r) : FnA Tryz.prog 16 [.int .i64 kind, .vs 5 (encs_Expr args)] [] (.agg (enc_Expr r)) [] := by
 refine fnA_of_wp (N := 8) Tryz.func16 rfl rfl rfl fun cK0 => ?_
 unfold s_gl17_op at hs
 refine v_same (ρ' := [(0, .int .i64 kind), (1, .vs 5 (encs_Expr args))]) rfl rfl ?_
 refine vS (vT (o_runh 1 [(4, .ptr 4 0 0)] [(4, .box 35 [.int .i64 0, .int .i64 0, .str [], .str [], .nils])] kr ?_))
 refine oN (nT (vS (vT (o_runh 4 [(7, .agg [.int .i64 kind, .int .i64 0, .str [], .str [], .vs 5 (encs_Expr args)]), (6, .vs 5 (encs_Expr args)), (5, .int .i64 kind)] [(4, .box 35 [.int .i64 kind, .int .i64 0, .str [], .str [], .vs 5 (encs_Expr args)])] kr ?_))))
 refine oN (nT (v_ret ?_))
 cases hs
 exact fin_ret kr kr kr
theorem w_gl17_name (s : Sr) (r : Expr) (hs : s_gl17_name s = some r) : FnA Tryz.prog 18 [.str s] [] (.agg (enc_Expr r)) [] := by
 refine fnA_of_wp (N := 5) Tryz.func18 rfl rfl rfl fun cK0 => ?_
 unfold s_gl17_name at hs
 refine v_same (ρ' := [(0, .str s)]) rfl rfl ?_
 refine vS (vT (o_runh 1 [(2, .ptr 2 0 0)] [(2, .box 35 [.int .i64 0, .int .i64 0, .str [], .str [], .nils])] kr ?_))
 refine oN (nT (vS (vT (o_runh 3 [(4, .agg [.int .i64 1, .int .i64 0, .str s, .str [], .nils]), (3, .str s)] [(2, .box 35 [.int .i64 1, .int .i64 0, .str s, .str [], .nils])] kr ?_))))
 refine oN (nT (v_to _ [(2, .box 35 [.int .i64 1, .int .i64 0, .str s, .str [], .vs 5 (encs_Expr [])])] (cut_box (k := 2) (t := 35) (cs := [.int .i64 1, .int .i64 0, .str s, .str [], .nils]) (cs' := [.int .i64 1, .int .i64 0, .str s, .str [], .vs 5 (encs_Expr [])]) [] [] kr kr kr (.cons (.same _) (.cons (.same _) (.cons (.same _) (.cons (.same _) (.cons (.nils 5) (.nil)))))) kr) ?_))
 refine v_ret ?_
 cases hs
 exact fin_ret kr kr kr
theorem w_expr_arity (op : Int) (r : Int × Bool) (hs : s_expr_arity op = some r) : FnA Tryz.prog 35 [.int .i64 op] [] (.tup [.int .i64 r.1, .bool r.2]) [] := by
 refine fnA_of_wp (N := 21) Tryz.func35 rfl rfl rfl fun cK0 => ?_
 unfold s_expr_arity at hs
 refine v_same (ρ' := [(0, .int .i64 op)]) rfl rfl ?_
 refine vS (vT (oR 2 [(3, .bool false), (2, .int .i64 0)] kr ?_))
 refine oN (nT (vS (vS (vT (oR 1 [(4, .int .i64 op)] kr ?_)))))
 refine oN (nT (vB (vS (vS (vT (oR 2 [(5, .bool (decide (op = 0))), (6, .bool (decide (op = 0)))] kr ?_))))))
 refine oN (nT ?_)
 obtain ⟨z1, hs, hk1⟩ := bS hs
 refine v_join (S := Bool) (fun u => u = z1) (fun u => [(0, .int .i64 op), (4, .int .i64 op), (5, .bool u)]) (fun u => []) ?_ (fun v1 hz => ?_)
 ·refine v_cond (decide (op = 0)) kr (fun h1 => ?_) (fun h1 => ?_)
  ·replace hs := bif_t h1 hs
   refine vK ?_
   obtain rfl := si hs
   refine nrm_join (decide (op = 0)) rfl ?_
   exact cut_of [0, 4, 5] [] kr kr kr
  ·replace hs := bif_f h1 hs
   refine vS (vT (oR 2 [(5, .bool (decide (op = 1))), (7, .bool (decide (op = 1)))] kr ?_))
   refine oN (nT ?_)
   refine v_cond (decide (op = 1)) kr (fun h2 => ?_) (fun h2 => ?_)
   ·replace hs := bif_t h2 hs
    refine vK ?_
    obtain rfl := si hs
    refine nrm_join (decide (op = 1)) rfl ?_
    exact cut_of [0, 4, 5] [] kr kr kr
   ·replace hs := bif_f h2 hs
    refine vS (vT (oR 2 [(5, .bool (decide (op = 2))), (8, .bool (decide (op = 2)))] kr ?_))
    refine oN (nT ?_)
    refine v_cond (decide (op = 2)) kr (fun h3 => ?_) (fun h3 => ?_)
    ·replace hs := bif_t h3 hs
     refine vK ?_
     obtain rfl := si hs
     refine nrm_join (decide (op = 2)) rfl ?_
     exact cut_of [0, 4, 5] [] kr kr kr
    ·replace hs := bif_f h3 hs
     refine vT (oR 2 [(5, .bool (decide (op = 3))), (9, .bool (decide (op = 3)))] kr ?_)
     refine oN ?_
     obtain rfl := si hs
     refine nrm_join (decide (op = 3)) rfl ?_
     exact cut_of [0, 4, 5] [] kr kr kr
 ·subst hz; clear hs; have hs := hk1; clear hk1
  refine nT ?_
  refine v_cond v1 kr (fun h4 => ?_) (fun h4 => ?_)
  ·replace hs := bif_t h4 hs
   refine vS (vT (oR 2 [(3, .bool true), (2, .int .i64 0)] kr ?_))
   refine oN (nT (v_ret (rB (rT ?_))))
   cases hs
   exact fin_ret kr kr kr
  ·replace hs := bif_f h4 hs
   refine vS (vS (vT (oR 2 [(10, .bool (decide (op = 9))), (11, .bool (decide (op = 9)))] kr ?_)))
   refine oN (nT ?_)
   obtain ⟨z2, hs, hk2⟩ := bS hs
   refine v_join (S := Bool) (fun u => u = z2) (fun u => [(0, .int .i64 op), (4, .int .i64 op), (10, .bool u)]) (fun u => []) ?_ (fun v2 hz => ?_)
   ·refine v_cond (decide (op = 9)) kr (fun h5 => ?_) (fun h5 => ?_)
    ·replace hs := bif_t h5 hs
     refine vK ?_
     obtain rfl := si hs
     refine nrm_join (decide (op = 9)) rfl ?_
     exact cut_of [0, 4, 10] [] kr kr kr
    ·replace hs := bif_f h5 hs
     refine vT (oR 2 [(10, .bool (decide (op = 15))), (12, .bool (decide (op = 15)))] kr ?_)
     refine oN ?_
     obtain rfl := si hs
     refine nrm_join (decide (op = 15)) rfl ?_
     exact cut_of [0, 4, 10] [] kr kr kr
   ·subst hz; clear hs; have hs := hk2; clear hk2
    refine nT ?_
    refine v_cond v2 kr (fun h6 => ?_) (fun h6 => ?_)
    ·replace hs := bif_t h6 hs
     refine vS (vT (oR 2 [(3, .bool true), (2, .int .i64 1)] kr ?_))
     refine oN (nT (v_ret (rB (rT ?_))))
     cases hs
     exact fin_ret kr kr kr
    ·replace hs := bif_f h6 hs
     refine vS (vT (oR 2 [(13, .bool (decide (op = 16))), (14, .bool (decide (op = 16)))] kr ?_))
     refine oN (nT ?_)
     refine v_cond (decide (op = 16)) kr (fun h7 => ?_) (fun h7 => ?_)
     ·replace hs := bif_t h7 hs
      refine vS (vT (oR 2 [(3, .bool true), (2, .int .i64 3)] kr ?_))
      refine oN (nT (v_ret (rB (rT ?_))))
      cases hs
      exact fin_ret kr kr kr
     ·replace hs := bif_f h7 hs
      refine vK (nB (nT (vS ?_)))
      obtain ⟨z3, hs, hk3⟩ := bS hs
      refine v_join (S := Bool) (fun u => u = z3) (fun u => [(2, .int .i64 2), (3, .bool u)]) (fun u => []) ?_ (fun v3 hz => ?_)
      ·refine vT (oR 3 [(17, .bool (decide (op ≥ 0))), (16, .bool (decide (op ≥ 0))), (15, .int .i64 op)] kr ?_)
       cases h8 : ((decide (op ≥ 0)))
       ·replace hs := bif_f h8 hs
        refine oR 5 [(3, .bool false), (2, .int .i64 2), (20, .bool false), (19, .no), (18, .no)] kr ?_
        refine oN ?_
        cases hs
        refine nrm_join false rfl ?_
        exact cut_of [2, 3] [] kr kr kr
       ·replace hs := bif_t h8 hs
        refine oR 5 [(3, .bool (decide (op < 17))), (2, .int .i64 2), (20, .bool (decide (op < 17))), (19, .bool (decide (op < 17))), (18, .int .i64 op)] kr ?_
        refine oN ?_
        obtain rfl := si hs
        refine nrm_join (decide (op < 17)) rfl ?_
        exact cut_of [2, 3] [] kr kr kr
      ·subst hz; clear hs; have hs := hk3; clear hk3
       refine nT (v_ret ?_)
       cases hs
       exact fin_ret kr kr kr
theorem ws_expr_levels (nF : Nat) (ih_expr_levels : ∀ (e : Expr) (above : Int) (r : Int), s_expr_levels nF e above = some r → FnA Tryz.prog 20 [.agg (enc_Expr e), .int .i64 above] [] (.int .i64 r) []) (e : Expr) (above : Int) (r : Int) (hs : s_expr_levels (nF + 1) e above = some r) : FnA Tryz.prog 20 [.agg (enc_Expr e), .int .i64 above] [] (.int .i64 r) [] := by
 refine fnA_of_wp (N := 45) Tryz.func20 rfl rfl rfl fun cK0 => ?_
 rw [s_expr_levels] at hs
 refine v_same (ρ' := [(0, .agg (enc_Expr e)), (1, .int .i64 above)]) rfl rfl ?_
 refine vS (vT (o_runh 2 [(4, .int .i64 0), (2, .ptr 2 0 0)] [(2, .box 35 (enc_Expr e))] kr ?_))
 refine oN (nT (vS (vT (oR 2 [(12, .int .i64 e.Op), (11, .ptr 2 0 0)] kr ?_))))
 obtain ⟨y1, c1, hs⟩ := bS hs
 refine oP (v := .tup [.int .i64 y1.1, .bool y1.2]) kr kr (loc_gcall0 (callV_func hbv35 kr) (w_expr_arity e.Op _ c1) kr) ?_
 refine oR 5 [(6, .bool y1.2), (5, .int .i64 y1.1), (15, .bool y1.2), (14, .int .i64 y1.1), (10, .tup [.int .i64 y1.1, .bool y1.2])] kr ?_
 refine oN (nT (vS (vS ?_)))
 obtain ⟨z1, hs, hk1⟩ := bS hs
 refine v_join (S := Bool) (fun u => u = z1) (fun u => [(1, .int .i64 above), (2, .ptr 2 0 0), (28, .bool u)]) (fun u => [(2, .box 35 (enc_Expr e))]) ?_ (fun v1 hz => ?_)
 ·refine vT (oR 3 [(18, .bool (!y1.2)), (17, .bool (!y1.2)), (16, .bool y1.2)] kr ?_)
  cases h1 : ((!y1.2))
  ·replace hs := bif_f h1 hs
   refine oR 3 [(21, .vs 5 (encs_Expr e.Args)), (20, .ptr 2 0 4), (19, .int .i64 y1.1)] kr ?_
   refine oP (v := .int .i64 (List.length e.Args : Int)) kr kr (loc_lenVs (sz := 5) (els := (encs_Expr e.Args)) kr kr (by rw [encs_Expr_eq, List.length_map])) ?_
   refine oR 3 [(25, .bool (!(decide (y1.1 = (List.length e.Args : Int))))), (24, .bool (!(decide (y1.1 = (List.length e.Args : Int))))), (23, .bool (!(decide (y1.1 = (List.length e.Args : Int)))))] kr ?_
   cases h2 : ((!(decide (y1.1 = (List.length e.Args : Int)))))
   ·replace hs := bif_f h2 hs
    refine oR 3 [(28, .bool (decide (above ≥ 12))), (27, .bool (decide (above ≥ 12))), (26, .int .i64 above)] kr ?_
    refine oN ?_
    obtain rfl := si hs
    refine nrm_join (decide (above ≥ 12)) rfl ?_
    exact cut_of [1, 2, 28] [2] kr kr kr
   ·replace hs := bif_t h2 hs
    refine oR 3 [(28, .bool true), (27, .no), (26, .no)] kr ?_
    refine oN ?_
    cases hs
    refine nrm_join true rfl ?_
    exact cut_of [1, 2, 28] [2] kr kr kr
  ·replace hs := bif_t h1 hs
   refine oR 10 [(28, .bool true), (27, .no), (26, .no), (25, .bool true), (24, .bool true), (23, .no), (22, .no), (21, .no), (20, .no), (19, .no)] kr ?_
   refine oN ?_
   cases hs
   refine nrm_join true rfl ?_
   exact cut_of [1, 2, 28] [2] kr kr kr
 ·subst hz; clear hs; have hs := hk1; clear hk1
  refine nT ?_
  refine v_cond v1 kr (fun h3 => ?_) (fun h3 => ?_)
  ·replace hs := bif_t h3 hs
   refine vS (vT (oR 1 [(4, .int .i64 13)] kr ?_))
   refine oN (nT (v_ret (rT ?_)))
   cases hs
   exact fin_ret kr kr kr
  ·replace hs := bif_f h3 hs
   refine vK (nT (vS (vT (oR 1 [(7, .int .i64 0)] kr ?_))))
   refine oN (nT (vS (vS (vT (oR 2 [(30, .vs 5 (encs_Expr e.Args)), (29, .ptr 2 0 4)] kr ?_)))))
   refine oP (v := .int .i64 (List.length e.Args : Int)) kr kr (loc_lenVs (sz := 5) (els := (encs_Expr e.Args)) kr kr (by rw [encs_Expr_eq, List.length_map])) ?_
   refine oR 1 [(32, .int .i64 0)] kr ?_
   refine oN (nT ?_)
   obtain ⟨z2, hs, hk2⟩ := bS hs
   refine v_join (S := Int) (fun u => u = z2) (fun u => [(7, .int .i64 u)]) (fun u => []) ?_ (fun v2 hz => ?_)
   ·refine vB ?_
    refine v_fuel (S := Int × Int) (fun u => [(1, .int .i64 above), (7, .int .i64 u.1), (30, .vs 5 (encs_Expr e.Args)), (31, .int .i64 (List.length e.Args : Int)), (32, .int .i64 u.2)]) (fun u => []) (s_expr_levels_L1 (s_expr_levels nF) e above) (fun _ => rfl) KK (0, 0) hs (cut_of [1, 7, 30, 31, 32] [] kr kr kr) (fun K1 q1 hs => ?_)
    rw [s_expr_levels_L1] at hs
    show WpV cK0 Tryz.prog none 45 _ _ [(1, .int .i64 above), (7, .int .i64 q1.1), (30, .vs 5 (encs_Expr e.Args)), (31, .int .i64 (List.length e.Args : Int)), (32, .int .i64 q1.2)] [] []
    refine vS (vT (oR 1 [(33, .bool (decide (q1.2 < (List.length e.Args : Int))))] kr ?_))
    refine oN (nT (vS ?_))
    refine v_cond (decide (q1.2 < (List.length e.Args : Int))) kr (fun h4 => ?_) (fun h4 => ?_)
    ·replace hs := bif_t h4 hs
     refine vK (nT (vS (vB (vS (vT ?_)))))
     obtain ⟨x1, g1, hs⟩ := bS hs; obtain ⟨g1a, g1b, g1c⟩ := idx_some g1
     refine oP (v := .vp (enc_Expr x1) 0) kr kr (loc_indexVs (e := 35) (sz := 5) (k := .i64) (els := (encs_Expr e.Args)) (cs := (enc_Expr x1)) kr kr kr g1a (by rw [g1c, encs_Expr_eq]; exact map_get _ (by omega))) ?_
     refine o_runh 3 [(9, .ptr 9 0 0), (35, .agg (enc_Expr x1))] [(9, .box 35 (enc_Expr x1))] kr ?_
     refine oN (nT (vT (oR 4 [(39, .int .i64 (w64 (above + 1))), (38, .int .i64 above), (37, .agg (enc_Expr x1)), (36, .int .i64 q1.1)] kr ?_)))
     obtain ⟨y2, c2, hs⟩ := bS hs
     refine oP (v := .int .i64 y2) kr kr (loc_gcall0 (callV_func hbv20 kr) (ih_expr_levels x1 (w64 (above + 1)) _ c2) kr) ?_
     refine oR 2 [(7, .int .i64 (max q1.1 y2)), (41, .int .i64 (max q1.1 y2))] kr ?_
     refine oN (nB (nT (vT (oR 2 [(32, .int .i64 (w64 (q1.2 + 1))), (42, .int .i64 (w64 (q1.2 + 1)))] kr ?_))))
     refine oN (nrm_fuel ((max q1.1 y2), (w64 (q1.2 + 1))) hs ?_)
     exact cut_of [1, 7, 30, 31, 32] [] kr kr kr
    ·replace hs := bif_f h4 hs
     refine v_exit (exit_thenV (exit_fuel ?_))
     refine exit_blkV ?_
     obtain rfl := si hs
     refine nrm_join q1.1 rfl ?_
     exact cut_of [7] [] kr kr kr
   ·subst hz; clear hs; have hs := hk2; clear hk2
    refine nT (vS (vT (oR 3 [(4, .int .i64 (w64 (v2 + 1))), (44, .int .i64 (w64 (v2 + 1))), (43, .int .i64 v2)] kr ?_)))
    refine oN (nT (v_ret ?_))
    cases hs
    exact fin_ret kr kr kr
theorem wr_expr_levels : ∀ nF : Nat, (∀ (e : Expr) (above : Int) (r : Int), s_expr_levels nF e above = some r → FnA Tryz.prog 20 [.agg (enc_Expr e), .int .i64 above] [] (.int .i64 r) [])
 | 0 => fun e above r hs => (by rw [s_expr_levels] at hs; cases hs)
 | nF + 1 => fun e above r hs => ws_expr_levels nF (wr_expr_levels nF) e above r hs
theorem w_expr_levels (nF : Nat) (e : Expr) (above : Int) (r : Int) (hs : s_expr_levels nF e above = some r) : FnA Tryz.prog 20 [.agg (enc_Expr e), .int .i64 above] [] (.int .i64 r) [] := (wr_expr_levels nF) e above r hs
theorem w_expr_Right (e : Expr) (r : Bool) (hs : s_expr_Right e = some r) : FnA Tryz.prog 7 [.agg (enc_Expr e)] [] (.bool r) [] := by
 refine fnA_of_wp (N := 6) Tryz.func7 rfl rfl rfl fun cK0 => ?_
 unfold s_expr_Right at hs
 refine v_same (ρ' := [(0, .agg (enc_Expr e))]) rfl rfl ?_
 refine vS (vT (o_runh 2 [(2, .bool false), (1, .ptr 1 0 0)] [(1, .box 35 (enc_Expr e))] kr ?_))
 refine oN (nT (vS (vT (oR 1 [(3, .agg (enc_Expr e))] kr ?_))))
 obtain ⟨y1, c1, hs⟩ := bS hs
 refine oP (v := .int .i64 y1) kr kr (loc_gcall0 (callV_func hbv20 kr) (w_expr_levels KK e 0 _ c1) kr) ?_
 refine oR 2 [(2, .bool (decide (y1 ≤ 12))), (5, .bool (decide (y1 ≤ 12)))] kr ?_
 refine oN (nT (v_ret ?_))
 cases hs
 exact fin_ret kr kr kr
theorem w_define_Measures  (r : (List Sr)) (hs : s_define_Measures  = some r) : FnA Tryz.prog 54 [] [] (.vs 1 (mS r)) [] := by
 refine fnA_of_wp (N := 2) Tryz.func54 rfl rfl rfl fun cK0 => ?_
 unfold s_define_Measures at hs
 refine v_same (ρ' := []) rfl rfl ?_
 refine vS (vT (oR 1 [(0, .nils)] kr ?_))
 refine oN (nT (vS (vT (o_runh 2 [(0, .sl 1 1 9 0 9), (1, .sl 1 1 9 0 9)] [(1, .row 9 1 0 (mS lq0))] kr ?_))))
 refine oN (nT (v_to _ [(1, .row 9 1 (((mS lq0)).length) (mS lq0))] (cut_freeze (F := [(1, .row 9 1 0 (mS lq0))]) [1] rfl kr kr) ?_))
 refine v_to ((0, .vs 1 (mS [ls0, ls1, ls2, ls3, ls4, ls5, ls6, ls7, ls8])) :: _) _ (cut_view (R := [(1, .row 9 1 (((mS [ls0, ls1, ls2, ls3, ls4, ls5, ls6, ls7, ls8])).length) (mS [ls0, ls1, ls2, ls3, ls4, ls5, ls6, ls7, ls8]))]) (ks := [1]) kr kr (.row (t := 9) (fz := (((mS [ls0, ls1, ls2, ls3, ls4, ls5, ls6, ls7, ls8])).length)) kr lh)) ?_
 refine v_ret ?_
 cases hs
 exact fin_ret kr kr kr
theorem w_define_names (e : Expr) (r : Int × Int × Sr × Sr × (List Expr)) (hs : s_define_names e = some r) : FnA Tryz.prog 73 [.agg (enc_Expr e)] [] (.fn 79 [] [.ptr 1 0 0]) [(1, .box 35 [.int .i64 r.1, .int .i64 r.2.1, .str r.2.2.1, .str r.2.2.2.1, .vs 5 (encs_Expr r.2.2.2.2)])] := by
 refine fnA_of_wp (N := 4) Tryz.func73 rfl rfl rfl fun cK0 => ?_
 unfold s_define_names at hs
 refine v_same (ρ' := [(0, .agg (enc_Expr e))]) rfl rfl ?_
 refine vS (vT (o_runh 2 [(2, .nilf), (1, .ptr 1 0 0)] [(1, .box 35 (enc_Expr e))] kr ?_))
 refine oN (nT (vS (vT (oR 2 [(2, .fn 79 [] [.ptr 1 0 0]), (3, .fn 79 [] [.ptr 1 0 0])] kr ?_))))
 refine oN (nT (v_ret ?_))
 cases hs
 exact fin_ret kr kr kr
theorem w_maps_Keys (m_ : (List (Sr × Bool))) (r : Unit) (hs : s_maps_Keys m_ = some r) : FnA Tryz.prog 75 [.mp 1000000] [(1000000, .map (encM V.str V.bool m_))] (.fn 82 [] [.ptr 1 0 0]) [(1, .box 85 [.mp 1000000]), (1000000, .map (encM V.str V.bool m_))] := by
 refine fnA_of_wp (N := 4) Tryz.func75 rfl rfl rfl fun cK0 => ?_
 unfold s_maps_Keys at hs
 refine v_same (ρ' := [(0, .mp 1000000)]) rfl rfl ?_
 refine vS (vT (o_runh 2 [(2, .nilf), (1, .ptr 1 0 0)] [(1, .box 85 [.mp 1000000]), (1000000, .map (encM V.str V.bool m_))] kr ?_))
 refine oN (nT (vS (vT (oR 2 [(2, .fn 82 [] [.ptr 1 0 0]), (3, .fn 82 [] [.ptr 1 0 0])] kr ?_))))
 refine oN (nT (v_ret ?_))
 cases hs
 exact fin_ret kr kr kr
theorem w_define_Names (e : Expr) (r : (List Sr)) (hs : s_define_Names e = some r) : FnA Tryz.prog 67 [.agg (enc_Expr e)] [] (.vs 1 (mS r)) [] := by
 refine fnA_of_wp (N := 14) Tryz.func67 rfl rfl rfl fun cK0 => ?_
 unfold s_define_Names at hs
 refine v_same (ρ' := [(0, .agg (enc_Expr e))]) rfl rfl ?_
 refine vS (vT (o_runh 2 [(2, .nils), (1, .ptr 1 0 0)] [(1, .box 35 (enc_Expr e))] kr ?_))
 refine oN (nT (vS (vT (o_runh 3 [(3, .ptr 3 0 0), (5, .mp 5)] [(3, .box 85 [.mp 5]), (5, .map (encM V.str V.bool [])), (1, .box 35 (enc_Expr e))] kr ?_))))
 refine oN (nT (vS (vS (vT (oR 1 [(6, .agg (enc_Expr e))] kr ?_)))))
 obtain ⟨y1, c1, hs⟩ := bS hs
 refine o_loc (F := []) (F' := [(3000700, .box 35 [.int .i64 y1.1, .int .i64 y1.2.1, .str y1.2.2.1, .str y1.2.2.2.1, .vs 5 (encs_Expr y1.2.2.2.2)])]) (v := .fn 79 [] [.ptr 3000700 0 0]) [] kr kr rfl kr (loc_g (R := []) [.agg (enc_Expr e)] [(1, 3000700)] (callV_func hbv73 kr) (w_define_names e _ c1) (.cons (.same _) (.nil)) kr kr kr kr kr kr kr kr) kr ?_
 refine oN (nT ?_)
 obtain ⟨z1, hs, hk1⟩ := bS hs
 refine v_join (S := (List (Sr × Bool))) (fun u => u = z1) (fun u => [(3, .ptr 3 0 0)]) (fun u => [(3, .box 85 [.mp 5]), (5, .map (encM V.str V.bool u))]) ?_ (fun v1 hz => ?_)
 ·refine vB (v_to [(3, .ptr 3 0 0), (7, .fn 79 [] [.ptr 3000700 0 0])] [(3000700, .box 35 [.int .i64 y1.1, .int .i64 y1.2.1, .str y1.2.2.1, .str y1.2.2.2.1, .vs 5 (encs_Expr y1.2.2.2.2)]), (3, .box 85 [.mp 5]), (5, .map (encM V.str V.bool []))] (cut_of [3, 7] [3000700, 3, 5] kr kr kr) ?_)
  refine v_rangeF (Sg := (List (Sr × Bool))) (enc := V.str) (val := (fun s : Sr => Value.string ⟨s.toArray⟩)) (caps := [.ptr 3000700 0 0]) (F := [(3000700, .box 35 [.int .i64 y1.1, .int .i64 y1.2.1, .str y1.2.2.1, .str y1.2.2.2.1, .vs 5 (encs_Expr y1.2.2.2.2)])]) [3000700] (fun u => [(3000700, .box 35 [.int .i64 y1.1, .int .i64 y1.2.1, .str y1.2.2.1, .str y1.2.2.2.1, .vs 5 (encs_Expr y1.2.2.2.2)]), (3, .box 85 [.mp 5]), (5, .map (encM V.str V.bool u))]) s_define_Names_L1 [] kr hbv79 (iter_names 3000700 (Expr.mk y1.1 y1.2.1 y1.2.2.1 y1.2.2.2.1 y1.2.2.2.2)) kr kr (fun _ _ _ => rfl) hs (fun _ => by kernel_rfl) kr (fun lR1 x1 xs1 q1 cR1 hs => ?_) (fun q1 hs => ?_)
  ·rw [s_define_Names_L1] at hs
   show WpV cR1 Tryz.prog (some lR1) 14 _ _ [(4, .str x1), (8, .str x1), (3, .ptr 3 0 0), (7, .fn 79 [] [.ptr 3000700 0 0])] [(3000700, .box 35 [.int .i64 y1.1, .int .i64 y1.2.1, .str y1.2.2.1, .str y1.2.2.2.1, .vs 5 (encs_Expr y1.2.2.2.2)]), (3, .box 85 [.mp 5]), (5, .map (encM V.str V.bool q1))] []
   refine vB (vT (oR 2 [(10, .str x1), (9, .mp 5)] kr ?_))
   refine o_loc (F := [(5, .map (encM V.str V.bool q1))]) (F' := [(5, .map (encM V.str V.bool (mset x1 true q1)))]) (v := .no) [5] kr kr rfl kr (loc_mapUpdate (et := 4) (f := V.str) (g := V.bool) (l := q1) (a := x1) (c := true) kr kok9 kr kr kr kr kr) kr ?_
   refine oN (nB (nrm_round (mset x1 true q1) hs ?_))
   exact cut_of [] [3000700, 3, 5] kr kr kr
  ·rw [s_define_Names_L1] at hs
   refine nB ?_
   obtain rfl := si hs
   refine nrm_join q1 rfl ?_
   exact cut_of [3] [3, 5] kr kr kr
 ·subst hz; clear hs; have hs := hk1; clear hk1
  refine nT (vS (vT (oR 1 [(11, .mp 5)] kr ?_)))
  obtain ⟨y2, c2, hs⟩ := bS hs
  refine o_loc (F := [(5, .map (encM V.str V.bool v1))]) (F' := [(3001200, .box 85 [.mp 5]), (5, .map (encM V.str V.bool v1))]) (v := .fn 82 [] [.ptr 3001200 0 0]) [5] kr kr rfl kr (loc_g (R := []) [.mp 5] [(1000000, 5), (1, 3001200)] (callV_func hbv75 kr) (w_maps_Keys v1 _ c2) (.cons (.same _) (.nil)) kr kr kr kr kr kr kr kr) kr ?_
  obtain ⟨_, g1, hs⟩ := bS hs; replace g1 := grd_some g1
  refine o_loc (F := [(3001200, .box 85 [.mp 5]), (5, .map (encM V.str V.bool v1))]) (F' := [(3001200, .box 85 [.mp 5]), (5, .map (encM V.str V.bool v1))]) (v := .vs 1 (mS (sortKeys v1))) [3001200, 5] kr kr rfl kr (loc_g (R := []) [.fn 82 [] [.ptr 3001200 0 0]] [(1000000, 3001200), (1000001, 5)] (callV_func hbv74 kr) (w_sorted_keys v1 g1) (.cons (.same _) .nil) kr kr kr kr kr kr kr kr) kr ?_
  refine oR 1 [(2, .vs 1 (mS (sortKeys v1)))] kr ?_
  refine oN (nT (v_ret ?_))
  cases hs
  exact fin_ret kr kr kr
theorem w_define_newGraph (l : (List Def)) (r : (List Def) × (List (List Int))) (hs : s_define_newGraph l = some r) : FnA Tryz.prog 55 [.vs 6 (mM enc_Def l)] [] (.ptr 31 0 0) [(31, .box 106 [.vs 6 (mM enc_Def r.1), .vs 1 (List.map (encL 1 EV.encI) r.2)])] := by
 refine fnA_of_wp (N := 73) Tryz.func55 rfl rfl rfl fun cK0 => ?_
 unfold s_define_newGraph at hs
 refine v_same (ρ' := [(0, .vs 6 (mM enc_Def l))]) rfl rfl ?_
 refine vS (vT (oR 1 [(2, .nilp)] kr ?_))
 refine oN (nT (vS (vT (o_runh 2 [(3, .mp 13), (13, .mp 13)] [(13, .map (encM V.str (V.int .i64) []))] kr ?_))))
 refine oN (nT (vS (vS (vT (oR 1 [(14, .vs 6 (mM enc_Def l))] kr ?_)))))
 refine oP (v := .int .i64 (List.length l : Int)) kr kr (loc_lenVs (sz := 6) (els := (mM enc_Def l)) kr kr lM) ?_
 refine oR 1 [(16, .int .i64 0)] kr ?_
 refine oN (nT ?_)
 obtain ⟨z1, hs, hk1⟩ := bS hs
 refine v_join (S := (List (Sr × Int))) (fun u => u = z1) (fun u => [(0, .vs 6 (mM enc_Def l)), (3, .mp 13)]) (fun u => [(13, .map (encM V.str (V.int .i64) u))]) ?_ (fun v1 hz => ?_)
 ·refine vB ?_
  refine v_fuel (S := Int × (List (Sr × Int))) (fun u => [(0, .vs 6 (mM enc_Def l)), (3, .mp 13), (14, .vs 6 (mM enc_Def l)), (15, .int .i64 (List.length l : Int)), (16, .int .i64 u.1)]) (fun u => [(13, .map (encM V.str (V.int .i64) u.2))]) (s_define_newGraph_L1 l) (fun _ => rfl) KK (0, []) hs (cut_of [0, 3, 14, 15, 16] [13] kr kr kr) (fun K1 q1 hs => ?_)
  rw [s_define_newGraph_L1] at hs
  show WpV cK0 Tryz.prog none 73 _ _ [(0, .vs 6 (mM enc_Def l)), (3, .mp 13), (14, .vs 6 (mM enc_Def l)), (15, .int .i64 (List.length l : Int)), (16, .int .i64 q1.1)] [(13, .map (encM V.str (V.int .i64) q1.2))] []
  refine vS (vT (oR 1 [(17, .bool (decide (q1.1 < (List.length l : Int))))] kr ?_))
  refine oN (nT (vS ?_))
  refine v_cond (decide (q1.1 < (List.length l : Int))) kr (fun h1 => ?_) (fun h1 => ?_)
  ·replace hs := bif_t h1 hs
   refine vK (nT (vS (vB (vS (vT (oR 1 [(18, .int .i64 q1.1)] kr ?_))))))
   obtain ⟨x1, g1, hs⟩ := bS hs; obtain ⟨g1a, g1b, g1c⟩ := idx_some g1
   refine oP (v := .vp (enc_Def x1) 0) kr kr (loc_indexVs (e := 51) (sz := 6) (k := .i64) (els := (mM enc_Def l)) (cs := (enc_Def x1)) kr kr kr g1a (by rw [g1c]; exact map_get _ (by omega))) ?_
   refine o_runh 4 [(4, .int .i64 q1.1), (5, .ptr 5 0 0), (20, .agg (enc_Def x1))] [(5, .box 51 [.str x1.Name, .int .i64 x1.Body.Op, .int .i64 x1.Body.N, .str x1.Body.S, .str x1.Body.Key, .vs 5 (encs_Expr x1.Body.Args)]), (13, .map (encM V.str (V.int .i64) q1.2))] kr ?_
   refine oN (nT (vT (oR 4 [(24, .int .i64 q1.1), (23, .str x1.Name), (22, .ptr 5 0 0), (21, .mp 13)] kr ?_)))
   refine o_loc (F := [(13, .map (encM V.str (V.int .i64) q1.2))]) (F' := [(13, .map (encM V.str (V.int .i64) (mset x1.Name q1.1 q1.2)))]) (v := .no) [13] kr kr rfl kr (loc_mapUpdate (et := 3) (f := V.str) (g := (V.int .i64)) (l := q1.2) (a := x1.Name) (c := q1.1) kr kok9 kr kr kr kr kr) kr ?_
   refine oN (nB (nT (vT (oR 2 [(16, .int .i64 (w64 (q1.1 + 1))), (25, .int .i64 (w64 (q1.1 + 1)))] kr ?_))))
   refine oN (nrm_fuel ((w64 (q1.1 + 1)), (mset x1.Name q1.1 q1.2)) hs ?_)
   exact cut_of [0, 3, 14, 15, 16] [13] kr kr kr
  ·replace hs := bif_f h1 hs
   refine v_exit (exit_thenV (exit_fuel ?_))
   refine exit_blkV ?_
   obtain rfl := si hs
   refine nrm_join q1.2 rfl ?_
   exact cut_of [0, 3] [13] kr kr kr
 ·subst hz; clear hs; have hs := hk1; clear hk1
  refine nT (vS (vT (oR 2 [(27, .vs 6 (mM enc_Def l)), (26, .vs 6 (mM enc_Def l))] kr ?_)))
  refine oP (v := .int .i64 (List.length l : Int)) kr kr (loc_lenVs (sz := 6) (els := (mM enc_Def l)) kr kr lM) ?_
  obtain ⟨⟨g2a, g2b, g2c⟩, hs⟩ := bG hs
  refine o_loc (F := []) (F' := [(29, .nest 45 3 1 none (encN EV.encI (List.replicate (Int.toNat (List.length l : Int)) ([] : List Int))))]) (v := .sl 1 29 0 0 (List.length (List.replicate (Int.toNat (List.length l : Int)) ([] : List Int)))) [] kr kr rfl kr (loc_makeNestT EV.encI (d := 29) (e := 45) (e2 := 3) (sz2 := 1) (bytes := 24) (L := (List.length (List.replicate (Int.toNat (List.length l : Int)) ([] : List Int)))) (q := (List.length l : Int)) (k := .i64) (k2 := .i64) kr kr kr kr g2a g2b g2c (List.length_replicate ..) kr) kr ?_
  refine o_runh 3 [(6, .ptr 31 0 0), (31, .ptr 31 0 0), (30, .agg [.vs 6 (mM enc_Def l), .sl 1 29 0 0 (List.length (List.replicate (Int.toNat (List.length l : Int)) ([] : List Int)))])] [(31, .box 106 [.vs 6 (mM enc_Def l), .sl 1 29 0 0 (List.length (List.replicate (Int.toNat (List.length l : Int)) ([] : List Int)))]), (29, .nest 45 3 1 none (encN EV.encI (List.replicate (Int.toNat (List.length l : Int)) ([] : List Int)))), (13, .map (encM V.str (V.int .i64) v1))] kr ?_
  refine oN (nT (vS (vS (vT (oR 1 [(32, .vs 6 (mM enc_Def l))] kr ?_)))))
  refine oP (v := .int .i64 (List.length l : Int)) kr kr (loc_lenVs (sz := 6) (els := (mM enc_Def l)) kr kr lM) ?_
  refine oR 1 [(34, .int .i64 0)] kr ?_
  refine oN (nT ?_)
  obtain ⟨z2, hs, hk2⟩ := bS hs
  refine v_join (S := (List (List Int))) (fun u => u = z2) (fun u => [(6, .ptr 31 0 0)]) (fun u => [(31, .box 106 [.vs 6 (mM enc_Def l), .sl 1 29 0 0 (List.length u)]), (29, .nest 45 3 1 none (encN EV.encI u))]) ?_ (fun v2 hz => ?_)
  ·refine vB ?_
   refine v_fuel (S := Int × (List (List Int))) (fun u => [(3, .mp 13), (6, .ptr 31 0 0), (32, .vs 6 (mM enc_Def l)), (33, .int .i64 (List.length l : Int)), (34, .int .i64 u.1)]) (fun u => [(31, .box 106 [.vs 6 (mM enc_Def l), .sl 1 29 0 0 (List.length u.2)]), (29, .nest 45 3 1 none (encN EV.encI u.2)), (13, .map (encM V.str (V.int .i64) v1))]) (s_define_newGraph_L2 l v1) (fun _ => rfl) KK (0, (List.replicate (Int.toNat (List.length l : Int)) ([] : List Int))) hs (cut_of [3, 6, 32, 33, 34] [31, 29, 13] kr kr kr) (fun K2 q2 hs => ?_)
   rw [s_define_newGraph_L2] at hs
   show WpV cK0 Tryz.prog none 73 _ _ [(3, .mp 13), (6, .ptr 31 0 0), (32, .vs 6 (mM enc_Def l)), (33, .int .i64 (List.length l : Int)), (34, .int .i64 q2.1)] [(31, .box 106 [.vs 6 (mM enc_Def l), .sl 1 29 0 0 (List.length q2.2)]), (29, .nest 45 3 1 none (encN EV.encI q2.2)), (13, .map (encM V.str (V.int .i64) v1))] []
   refine vS (vT (oR 1 [(35, .bool (decide (q2.1 < (List.length l : Int))))] kr ?_))
   refine oN (nT (vS ?_))
   refine v_cond (decide (q2.1 < (List.length l : Int))) kr (fun h2 => ?_) (fun h2 => ?_)
   ·replace hs := bif_t h2 hs
    refine vK (nT (vS (vB (vS (vT (oR 1 [(36, .int .i64 q2.1)] kr ?_))))))
    obtain ⟨x2, g3, hs⟩ := bS hs; obtain ⟨g3a, g3b, g3c⟩ := idx_some g3
    refine oP (v := .vp (enc_Def x2) 0) kr kr (loc_indexVs (e := 51) (sz := 6) (k := .i64) (els := (mM enc_Def l)) (cs := (enc_Def x2)) kr kr kr g3a (by rw [g3c]; exact map_get _ (by omega))) ?_
    refine o_runh 4 [(7, .int .i64 q2.1), (8, .ptr 8 0 0), (38, .agg (enc_Def x2))] [(8, .box 51 [.str x2.Name, .int .i64 x2.Body.Op, .int .i64 x2.Body.N, .str x2.Body.S, .str x2.Body.Key, .vs 5 (encs_Expr x2.Body.Args)]), (31, .box 106 [.vs 6 (mM enc_Def l), .sl 1 29 0 0 (List.length q2.2)]), (29, .nest 45 3 1 none (encN EV.encI q2.2)), (13, .map (encM V.str (V.int .i64) v1))] kr ?_
    refine oN (nT (vS (vT (oR 2 [(40, .agg (enc_Expr x2.Body)), (39, .ptr 8 0 1)] kr ?_))))
    obtain ⟨y1, c1, hs⟩ := bS hs
    refine oP (v := .vs 1 (mS y1)) kr kr (loc_gcall0 (callV_func hbv67 kr) (w_define_Names x2.Body _ c1) kr) ?_
    refine oP (v := .int .i64 (List.length y1 : Int)) kr kr (loc_lenVs (sz := 1) (els := (mS y1)) kr kr lM) ?_
    refine oR 1 [(43, .int .i64 0)] kr ?_
    refine oN (nT ?_)
    obtain ⟨z3, hs, hk3⟩ := bS hs
    refine v_join (S := (List (List Int))) (fun u => u = z3) (fun u => [(3, .mp 13), (6, .ptr 31 0 0), (32, .vs 6 (mM enc_Def l)), (33, .int .i64 (List.length l : Int)), (34, .int .i64 q2.1)]) (fun u => [(31, .box 106 [.vs 6 (mM enc_Def l), .sl 1 29 0 0 (List.length u)]), (29, .nest 45 3 1 none (encN EV.encI u)), (13, .map (encM V.str (V.int .i64) v1))]) ?_ (fun v3 hz => ?_)
    ·refine vB ?_
     refine v_fuel (S := Int × (List (List Int))) (fun u => [(3, .mp 13), (6, .ptr 31 0 0), (7, .int .i64 q2.1), (32, .vs 6 (mM enc_Def l)), (33, .int .i64 (List.length l : Int)), (34, .int .i64 q2.1), (41, .vs 1 (mS y1)), (42, .int .i64 (List.length y1 : Int)), (43, .int .i64 u.1)]) (fun u => [(31, .box 106 [.vs 6 (mM enc_Def l), .sl 1 29 0 0 (List.length u.2)]), (29, .nest 45 3 1 none (encN EV.encI u.2)), (13, .map (encM V.str (V.int .i64) v1))]) (s_define_newGraph_L3 v1 y1 q2) (fun _ => rfl) KK (0, q2.2) hs (cut_of [3, 6, 7, 32, 33, 34, 41, 42, 43] [31, 29, 13] kr kr kr) (fun K3 q3 hs => ?_)
     rw [s_define_newGraph_L3] at hs
     show WpV cK0 Tryz.prog none 73 _ _ [(3, .mp 13), (6, .ptr 31 0 0), (7, .int .i64 q2.1), (32, .vs 6 (mM enc_Def l)), (33, .int .i64 (List.length l : Int)), (34, .int .i64 q2.1), (41, .vs 1 (mS y1)), (42, .int .i64 (List.length y1 : Int)), (43, .int .i64 q3.1)] [(31, .box 106 [.vs 6 (mM enc_Def l), .sl 1 29 0 0 (List.length q3.2)]), (29, .nest 45 3 1 none (encN EV.encI q3.2)), (13, .map (encM V.str (V.int .i64) v1))] []
     refine vS (vT (oR 1 [(44, .bool (decide (q3.1 < (List.length y1 : Int))))] kr ?_))
     refine oN (nT (vS ?_))
     refine v_cond (decide (q3.1 < (List.length y1 : Int))) kr (fun h3 => ?_) (fun h3 => ?_)
     ·replace hs := bif_t h3 hs
      refine vK (nT (vS (vB (vS (vT ?_)))))
      obtain ⟨x3, g4, hs⟩ := bS hs; obtain ⟨g4a, g4b, g4c⟩ := idx_some g4
      refine oP (v := .vp [.str x3] 0) kr kr (loc_indexVs (e := 9) (sz := 1) (k := .i64) (els := (mS y1)) (cs := (EV.encS x3)) kr kr kr g4a (by rw [g4c]; exact map_get _ (by omega))) ?_
      refine oR 2 [(10, .str x3), (46, .str x3)] kr ?_
      refine oN (nT (vS (vT (oR 2 [(49, .str x3), (48, .mp 13)] kr ?_))))
      refine o_loc (F := [(13, .map (encM V.str (V.int .i64) v1))]) (F' := [(13, .map (encM V.str (V.int .i64) v1))]) (v := .tup [.int .i64 (Option.getD (mfind x3 v1) 0), .bool (Option.isSome (mfind x3 v1))]) [13] kr kr rfl kr (loc_lookup (et := 3) (f := V.str) (g := (V.int .i64)) (l := v1) (a := x3) (z := 0) (zv := .int .i64 0) true kr kok9 kr (fun _ _ _ h => h) kr kr) kr ?_
      refine oR 5 [(12, .bool (Option.isSome (mfind x3 v1))), (11, .int .i64 (Option.getD (mfind x3 v1) 0)), (52, .bool (Option.isSome (mfind x3 v1))), (51, .int .i64 (Option.getD (mfind x3 v1) 0)), (47, .tup [.int .i64 (Option.getD (mfind x3 v1) 0), .bool (Option.isSome (mfind x3 v1))])] kr ?_
      refine oN (nT (vS (vT (oR 1 [(53, .bool (Option.isSome (mfind x3 v1)))] kr ?_))))
      refine oN (nT ?_)
      obtain ⟨z4, hs, hk4⟩ := bS hs
      refine v_join (S := (List (List Int))) (fun u => u = z4) (fun u => [(3, .mp 13), (6, .ptr 31 0 0), (7, .int .i64 q2.1), (32, .vs 6 (mM enc_Def l)), (33, .int .i64 (List.length l : Int)), (34, .int .i64 q2.1), (41, .vs 1 (mS y1)), (42, .int .i64 (List.length y1 : Int)), (43, .int .i64 q3.1)]) (fun u => [(29, .nest 45 3 1 none (encN EV.encI u)), (13, .map (encM V.str (V.int .i64) v1)), (31, .box 106 [.vs 6 (mM enc_Def l), .sl 1 29 0 0 (List.length u)])]) ?_ (fun v4 hz => ?_)
      ·refine v_cond (Option.isSome (mfind x3 v1)) kr (fun h4 => ?_) (fun h4 => ?_)
       ·replace hs := bif_t h4 hs
        refine v_draw mixedH kr ?_
        refine d_runs 10 0 [(63, .int .i64 q2.1), (62, .sl 1 29 0 0 (List.length q3.2)), (61, .ptr 31 0 1), (60, .ptr 31 0 0), (59, .ptr 31 0 0), (58, .int .i64 q2.1), (57, .sl 1 29 0 0 (List.length q3.2)), (56, .ptr 31 0 1), (55, .ptr 31 0 0), (54, .ptr 31 0 0)] [⟨9, [], []⟩, ⟨8, [], [31]⟩, ⟨7, [], []⟩, ⟨6, [], []⟩, ⟨5, [], []⟩, ⟨4, [], []⟩, ⟨3, [], [31]⟩, ⟨2, [], []⟩, ⟨1, [], []⟩, ⟨0, [], []⟩] kr kr ?_
        obtain ⟨⟨g5a, g5b⟩, hs⟩ := bG hs
        refine d_pure (v := .ptr 29 0 ((Int.toNat q2.1) * 1 + 0)) 10 rfl rfl rfl rfl kr kr (loc_indexRowT (e := 45) (sz := 1) (kk := 29) (L := 0) (n := (List.length q3.2)) (k := .i64) (i := q2.1) kr kr kr g5a g5b) ?_
        obtain ⟨e1, he1, hs⟩ := bE hs
        refine d_loc (F := []) (R := [(29, .nest 45 3 1 none (encN EV.encI q3.2))]) (F' := []) (v := hdN 1 29 (Int.toNat q2.1) (mI e1)) 11 [] [29] rfl rfl rfl rfl kr kr kr kr kr kr kr kr (loc_loadNestT EV.encI (et := 45) (e2 := 3) (sz2 := 1) (k := 29) (i := (Int.toNat q2.1)) (p := q3.2) (l := e1) kr (by omega) he1 kr) ?_
        refine d_runh 2 12 [(67, .sl 1 67 1 0 1), (66, .int .i64 (Option.getD (mfind x3 v1) 0))] [(67, .row 3 1 0 (mI [(Option.getD (mfind x3 v1) 0)])), (13, .map (encM V.str (V.int .i64) v1)), (31, .box 106 [.vs 6 (mM enc_Def l), .sl 1 29 0 0 (List.length q3.2)]), (29, .nest 45 3 1 none (encN EV.encI q3.2))] [⟨13, [67], []⟩, ⟨12, [], []⟩] kr kr ?_
        obtain ⟨_, g6, hs⟩ := bS hs; replace g6 := grd_some g6
        refine d_loc (F := [(29, .nest 45 3 1 none (encN EV.encI q3.2))]) (R := [(67, .row 3 1 0 (mI [(Option.getD (mfind x3 v1) 0)]))]) (F' := [(29, .nest 45 3 1 (some (Int.toNat q2.1)) (encN EV.encI (List.set q3.2 (Int.toNat q2.1) (e1 ++ [(Option.getD (mfind x3 v1) 0)]))))]) (v := .sl 1 29 (code (Int.toNat q2.1) (List.length (e1 ++ [(Option.getD (mfind x3 v1) 0)]))) 0 (List.length (e1 ++ [(Option.getD (mfind x3 v1) 0)]))) 14 [29] [67] rfl rfl rfl rfl kr kr kr kr kr kr kr kr (loc_appendNestT EV.encI (et := 45) (e := 3) (sz := 1) (bytes := 8) (k := 29) (i := (Int.toNat q2.1)) (n := (List.length (e1 ++ [(Option.getD (mfind x3 v1) 0)]))) (p := q3.2) (l := e1) (ys := [(Option.getD (mfind x3 v1) 0)]) kr kr (by omega) (by assumption) (.sl (t := 3) (fz := 0) (ys := (mI [(Option.getD (mfind x3 v1) 0)])) kr kr) (map_ones EV.encI (fun _ => rfl) _) (map_lens EV.encI (fun _ => rfl) _) kr kr rfl g6 (by omega)) ?_
        obtain ⟨⟨g7a, g7b⟩, hs⟩ := bG hs
        refine d_pure (v := .ptr 29 0 ((Int.toNat q2.1) * 1 + 0)) 15 rfl rfl rfl rfl kr kr (loc_indexRowT (e := 45) (sz := 1) (kk := 29) (L := 0) (n := (List.length q3.2)) (k := .i64) (i := q2.1) kr kr kr g7a g7b) ?_
        refine d_loc (F := [(29, .nest 45 3 1 (some (Int.toNat q2.1)) (encN EV.encI (List.set q3.2 (Int.toNat q2.1) (e1 ++ [(Option.getD (mfind x3 v1) 0)]))))]) (R := []) (F' := [(29, .nest 45 3 1 none (encN EV.encI (List.set q3.2 (Int.toNat q2.1) (e1 ++ [(Option.getD (mfind x3 v1) 0)]))))]) (v := .no) 16 [29] [] rfl rfl rfl rfl kr kr kr kr kr kr kr kr (loc_storeNestT EV.encI (et := 45) (e := 3) (sz := 1) (k := 29) (i := (Int.toNat q2.1)) (n := (List.length (e1 ++ [(Option.getD (mfind x3 v1) 0)]))) (p := q3.2) (l := (e1 ++ [(Option.getD (mfind x3 v1) 0)])) kr (by first | omega | (simp only [List.length_set, cpyT_length]; omega)) kr rfl (by simp) kr) ?_
        refine d_nil kr ?_
        obtain rfl := si hs
        refine nrm_join (List.set q3.2 (Int.toNat q2.1) (e1 ++ [(Option.getD (mfind x3 v1) 0)])) rfl ?_
        exact Cut.trans (cut_same (H1 := [(29, .nest 45 3 1 none (encN EV.encI (List.set q3.2 (Int.toNat q2.1) (e1 ++ [(Option.getD (mfind x3 v1) 0)])))), (67, .row 3 1 0 (mI [(Option.getD (mfind x3 v1) 0)])), (13, .map (encM V.str (V.int .i64) v1)), (31, .box 106 [.vs 6 (mM enc_Def l), .sl 1 29 0 0 (List.length q3.2)])]) rfl kr) (Cut.trans (cut_same (H1 := [(29, .nest 45 3 1 none (encN EV.encI (List.set q3.2 (Int.toNat q2.1) (e1 ++ [(Option.getD (mfind x3 v1) 0)])))), (67, .row 3 1 0 (mI [(Option.getD (mfind x3 v1) 0)])), (13, .map (encM V.str (V.int .i64) v1)), (31, .box 106 [.vs 6 (mM enc_Def l), .sl 1 29 0 0 (List.length (List.set q3.2 (Int.toNat q2.1) (e1 ++ [(Option.getD (mfind x3 v1) 0)])))])]) rfl (by first | (simp only [List.length_set, cpyT_length]; done) | rfl)) (cut_of [3, 6, 7, 32, 33, 34, 41, 42, 43] [29, 13, 31] kr kr kr))
       ·replace hs := bif_f h4 hs
        refine vK ?_
        obtain rfl := si hs
        refine nrm_join q3.2 rfl ?_
        exact cut_of [3, 6, 7, 32, 33, 34, 41, 42, 43] [29, 13, 31] kr kr kr
      ·subst hz; clear hs; have hs := hk4; clear hk4
       refine nB (nT (vT (oR 2 [(43, .int .i64 (w64 (q3.1 + 1))), (70, .int .i64 (w64 (q3.1 + 1)))] kr ?_)))
       refine oN (nrm_fuel ((w64 (q3.1 + 1)), v4) hs ?_)
       exact cut_of [3, 6, 7, 32, 33, 34, 41, 42, 43] [31, 29, 13] kr kr kr
     ·replace hs := bif_f h3 hs
      refine v_exit (exit_thenV (exit_fuel ?_))
      refine exit_blkV ?_
      obtain rfl := si hs
      refine nrm_join q3.2 rfl ?_
      exact cut_of [3, 6, 32, 33, 34] [31, 29, 13] kr kr kr
    ·subst hz; clear hs; have hs := hk3; clear hk3
     refine nB (nT (vT (oR 2 [(34, .int .i64 (w64 (q2.1 + 1))), (71, .int .i64 (w64 (q2.1 + 1)))] kr ?_)))
     refine oN (nrm_fuel ((w64 (q2.1 + 1)), v3) hs ?_)
     exact cut_of [3, 6, 32, 33, 34] [31, 29, 13] kr kr kr
   ·replace hs := bif_f h2 hs
    refine v_exit (exit_thenV (exit_fuel ?_))
    refine exit_blkV ?_
    obtain rfl := si hs
    refine nrm_join q2.2 rfl ?_
    exact cut_of [6] [31, 29] kr kr kr
  ·subst hz; clear hs; have hs := hk2; clear hk2
   refine nT (vS (vT (oR 2 [(2, .ptr 31 0 0), (72, .ptr 31 0 0)] kr ?_)))
   refine oN (nT (v_to _ [(29, .nest 45 3 1 (some 0) []), (31, .box 106 [.vs 6 (mM enc_Def l), .vs 1 (mLI v2)])] (cut_nest (k := 29) (t := 45) (e := 3) (sz := 1) (n := (List.length v2)) (kb := 31) (tb := 106) (ls := encN EV.encI v2) (cs := [.vs 6 (mM enc_Def l), .sl 1 29 0 0 (List.length v2)]) (cs' := [.vs 6 (mM enc_Def l), .vs 1 (mLI v2)]) kr kr (.same (.nest (encN_len EV.encI v2) (rowsN_encN EV.encI 1 v2) (.nil))) kr) ?_))
   refine v_ret ?_
   cases hs
   exact fin_ret kr kr kr
theorem w_bits_Mul64 (x : Int) (y : Int) (r : Int × Int) (hs : s_bits_Mul64 x y = some r) : FnA Tryz.prog 103 [.int .u64 x, .int .u64 y] [] (.tup [.int .u64 r.1, .int .u64 r.2]) [] := by
 refine fnA_of_wp (N := 51) Tryz.func103 rfl rfl rfl fun cK0 => ?_
 unfold s_bits_Mul64 at hs
 refine v_same (ρ' := [(0, .int .u64 x), (1, .int .u64 y)]) rfl rfl ?_
 refine vS (vT (oR 2 [(5, .int .u64 0), (4, .int .u64 0)] kr ?_))
 refine oN (nT (vS (vT (oR 3 [(6, .int .u64 (uL x)), (15, .int .u64 (uL x)), (14, .int .u64 x)] kr ?_))))
 refine oN (nT (vS (vT (oR 3 [(7, .int .u64 (uH x)), (17, .int .u64 (uH x)), (16, .int .u64 x)] kr ?_))))
 refine oN (nT (vS (vT (oR 3 [(8, .int .u64 (uL y)), (19, .int .u64 (uL y)), (18, .int .u64 y)] kr ?_))))
 refine oN (nT (vS (vT (oR 3 [(9, .int .u64 (uH y)), (21, .int .u64 (uH y)), (20, .int .u64 y)] kr ?_))))
 refine oN (nT (vS (vT (oR 4 [(10, .int .u64 (uw ((uL x) * (uL y)))), (24, .int .u64 (uw ((uL x) * (uL y)))), (23, .int .u64 (uL y)), (22, .int .u64 (uL x))] kr ?_))))
 refine oN (nT (vS (vT (oR 7 [(11, .int .u64 (uw ((uw ((uH x) * (uL y))) + (Int.fdiv (uw ((uL x) * (uL y))) (2 ^ (min (32 : Int).toNat ub)))))), (30, .int .u64 (uw ((uw ((uH x) * (uL y))) + (Int.fdiv (uw ((uL x) * (uL y))) (2 ^ (min (32 : Int).toNat ub)))))), (29, .int .u64 (Int.fdiv (uw ((uL x) * (uL y))) (2 ^ (min (32 : Int).toNat ub)))), (28, .int .u64 (uw ((uL x) * (uL y)))), (27, .int .u64 (uw ((uH x) * (uL y)))), (26, .int .u64 (uL y)), (25, .int .u64 (uH x))] kr ?_))))
 refine oN (nT (vS (vT (oR 3 [(12, .int .u64 (uw ((BitVec.ofInt ub (uw ((uw ((uH x) * (uL y))) + (Int.fdiv (uw ((uL x) * (uL y))) (2 ^ (min (32 : Int).toNat ub))))) &&& BitVec.ofInt ub 4294967295).toNat : Int))), (32, .int .u64 (uw ((BitVec.ofInt ub (uw ((uw ((uH x) * (uL y))) + (Int.fdiv (uw ((uL x) * (uL y))) (2 ^ (min (32 : Int).toNat ub))))) &&& BitVec.ofInt ub 4294967295).toNat : Int))), (31, .int .u64 (uw ((uw ((uH x) * (uL y))) + (Int.fdiv (uw ((uL x) * (uL y))) (2 ^ (min (32 : Int).toNat ub))))))] kr ?_))))
 refine oN (nT (vS (vT (oR 3 [(13, .int .u64 (Int.fdiv (uw ((uw ((uH x) * (uL y))) + (Int.fdiv (uw ((uL x) * (uL y))) (2 ^ (min (32 : Int).toNat ub))))) (2 ^ (min (32 : Int).toNat ub)))), (34, .int .u64 (Int.fdiv (uw ((uw ((uH x) * (uL y))) + (Int.fdiv (uw ((uL x) * (uL y))) (2 ^ (min (32 : Int).toNat ub))))) (2 ^ (min (32 : Int).toNat ub)))), (33, .int .u64 (uw ((uw ((uH x) * (uL y))) + (Int.fdiv (uw ((uL x) * (uL y))) (2 ^ (min (32 : Int).toNat ub))))))] kr ?_))))
 refine oN (nT (vS (vT (oR 6 [(12, .int .u64 (uw ((uw ((BitVec.ofInt ub (uw ((uw ((uH x) * (uL y))) + (Int.fdiv (uw ((uL x) * (uL y))) (2 ^ (min (32 : Int).toNat ub))))) &&& BitVec.ofInt ub 4294967295).toNat : Int)) + (uw ((uL x) * (uH y)))))), (39, .int .u64 (uw ((uw ((BitVec.ofInt ub (uw ((uw ((uH x) * (uL y))) + (Int.fdiv (uw ((uL x) * (uL y))) (2 ^ (min (32 : Int).toNat ub))))) &&& BitVec.ofInt ub 4294967295).toNat : Int)) + (uw ((uL x) * (uH y)))))), (38, .int .u64 (uw ((uL x) * (uH y)))), (37, .int .u64 (uH y)), (36, .int .u64 (uL x)), (35, .int .u64 (uw ((BitVec.ofInt ub (uw ((uw ((uH x) * (uL y))) + (Int.fdiv (uw ((uL x) * (uL y))) (2 ^ (min (32 : Int).toNat ub))))) &&& BitVec.ofInt ub 4294967295).toNat : Int)))] kr ?_))))
 refine oN (nT (vS (vT (oR 9 [(4, .int .u64 (uw ((uw ((uw ((uH x) * (uH y))) + (Int.fdiv (uw ((uw ((uH x) * (uL y))) + (Int.fdiv (uw ((uL x) * (uL y))) (2 ^ (min (32 : Int).toNat ub))))) (2 ^ (min (32 : Int).toNat ub))))) + (Int.fdiv (uw ((uw ((BitVec.ofInt ub (uw ((uw ((uH x) * (uL y))) + (Int.fdiv (uw ((uL x) * (uL y))) (2 ^ (min (32 : Int).toNat ub))))) &&& BitVec.ofInt ub 4294967295).toNat : Int)) + (uw ((uL x) * (uH y))))) (2 ^ (min (32 : Int).toNat ub)))))), (47, .int .u64 (uw ((uw ((uw ((uH x) * (uH y))) + (Int.fdiv (uw ((uw ((uH x) * (uL y))) + (Int.fdiv (uw ((uL x) * (uL y))) (2 ^ (min (32 : Int).toNat ub))))) (2 ^ (min (32 : Int).toNat ub))))) + (Int.fdiv (uw ((uw ((BitVec.ofInt ub (uw ((uw ((uH x) * (uL y))) + (Int.fdiv (uw ((uL x) * (uL y))) (2 ^ (min (32 : Int).toNat ub))))) &&& BitVec.ofInt ub 4294967295).toNat : Int)) + (uw ((uL x) * (uH y))))) (2 ^ (min (32 : Int).toNat ub)))))), (46, .int .u64 (Int.fdiv (uw ((uw ((BitVec.ofInt ub (uw ((uw ((uH x) * (uL y))) + (Int.fdiv (uw ((uL x) * (uL y))) (2 ^ (min (32 : Int).toNat ub))))) &&& BitVec.ofInt ub 4294967295).toNat : Int)) + (uw ((uL x) * (uH y))))) (2 ^ (min (32 : Int).toNat ub)))), (45, .int .u64 (uw ((uw ((BitVec.ofInt ub (uw ((uw ((uH x) * (uL y))) + (Int.fdiv (uw ((uL x) * (uL y))) (2 ^ (min (32 : Int).toNat ub))))) &&& BitVec.ofInt ub 4294967295).toNat : Int)) + (uw ((uL x) * (uH y)))))), (44, .int .u64 (uw ((uw ((uH x) * (uH y))) + (Int.fdiv (uw ((uw ((uH x) * (uL y))) + (Int.fdiv (uw ((uL x) * (uL y))) (2 ^ (min (32 : Int).toNat ub))))) (2 ^ (min (32 : Int).toNat ub)))))), (43, .int .u64 (Int.fdiv (uw ((uw ((uH x) * (uL y))) + (Int.fdiv (uw ((uL x) * (uL y))) (2 ^ (min (32 : Int).toNat ub))))) (2 ^ (min (32 : Int).toNat ub)))), (42, .int .u64 (uw ((uH x) * (uH y)))), (41, .int .u64 (uH y)), (40, .int .u64 (uH x))] kr ?_))))
 refine oN (nT (vS (vT (oR 4 [(5, .int .u64 (uw (x * y))), (50, .int .u64 (uw (x * y))), (49, .int .u64 y), (48, .int .u64 x)] kr ?_))))
 refine oN (nT (v_ret ?_))
 cases hs
 exact fin_ret kr kr kr
theorem w_bits_Mul (x : Int) (y : Int) (r : Int × Int) (hs : s_bits_Mul x y = some r) : FnA Tryz.prog 89 [.int .u64 x, .int .u64 y] [] (.tup [.int .u64 r.1, .int .u64 r.2]) [] := by
 refine fnA_of_wp (N := 30) Tryz.func89 rfl rfl rfl fun cK0 => ?_
 unfold s_bits_Mul at hs
 refine v_same (ρ' := [(0, .int .u64 x), (1, .int .u64 y)]) rfl rfl ?_
 refine vS (vT (oR 2 [(5, .int .u64 0), (4, .int .u64 0)] kr ?_))
 refine oN (nT (vS (v_cond_f kr ?_)))
 refine vK (nT (vS (vT (oR 2 [(24, .int .u64 y), (23, .int .u64 x)] kr ?_))))
 obtain ⟨y1, c1, hs⟩ := bS hs
 refine oP (v := .tup [.int .u64 y1.1, .int .u64 y1.2]) kr kr (loc_gcall0 (callV_func hbv103 kr) (w_bits_Mul64 x y _ c1) kr) ?_
 refine oR 5 [(9, .int .u64 y1.2), (8, .int .u64 y1.1), (27, .int .u64 y1.2), (26, .int .u64 y1.1), (22, .tup [.int .u64 y1.1, .int .u64 y1.2])] kr ?_
 refine oN (nT (vS (vT (oR 4 [(5, .int .u64 y1.2), (4, .int .u64 y1.1), (29, .int .u64 y1.2), (28, .int .u64 y1.1)] kr ?_))))
 refine oN (nT (v_ret ?_))
 cases hs
 exact fin_ret kr kr kr
theorem w_slices_Repeat (x : (List Int)) (count : Int) (r : (List Int)) (hs : s_slices_Repeat x count = some r) : FnA Tryz.prog 83 [.vs 1 (mI x), .int .i64 count] [] (.sl 1 30 ((r).length) 0 ((r).length)) [(30, .row 3 1 0 (mI r))] := by
 refine fnA_of_wp (N := 48) Tryz.func83 rfl rfl rfl fun cK0 => ?_
 unfold s_slices_Repeat at hs
 refine v_same (ρ' := [(0, .vs 1 (mI x)), (1, .int .i64 count)]) rfl rfl ?_
 refine vS (vT (oR 1 [(4, .nils)] kr ?_))
 refine oN (nT (vS (vS (vT (oR 2 [(10, .bool (decide (count < 0))), (9, .int .i64 count)] kr ?_)))))
 refine oN (nT ?_)
 refine v_cond (decide (count < 0)) kr (fun h1 => ?_) (fun h1 => ?_)
 ·replace hs := bif_t h1 hs
  cases hs
 ·replace hs := bif_f h1 hs
  refine vK (nT (vS (vT (oR 1 [(13, .vs 1 (mI x))] kr ?_))))
  refine oP (v := .int .i64 (List.length x : Int)) kr kr (loc_lenVs (sz := 1) (els := (mI x)) kr kr lM) ?_
  refine oR 3 [(17, .int .u64 (uw (count))), (16, .int .i64 count), (15, .int .u64 (uw ((List.length x : Int))))] kr ?_
  obtain ⟨y1, c1, hs⟩ := bS hs
  refine oP (v := .tup [.int .u64 y1.1, .int .u64 y1.2]) kr kr (loc_gcall0 (callV_func hbv89 kr) (w_bits_Mul (uw ((List.length x : Int))) (uw (count)) _ c1) kr) ?_
  refine oR 5 [(6, .int .u64 y1.2), (5, .int .u64 y1.1), (20, .int .u64 y1.2), (19, .int .u64 y1.1), (12, .tup [.int .u64 y1.1, .int .u64 y1.2])] kr ?_
  refine oN (nT (vS (vS ?_)))
  obtain ⟨z1, hs, hk1⟩ := bS hs
  refine v_join (S := Bool) (fun u => u = z1) (fun u => [(0, .vs 1 (mI x)), (6, .int .u64 y1.2), (26, .bool u)]) (fun u => []) ?_ (fun v1 hz => ?_)
  ·refine vT (oR 3 [(23, .bool (decide (y1.1 > 0))), (22, .bool (decide (y1.1 > 0))), (21, .int .u64 y1.1)] kr ?_)
   cases h2 : ((decide (y1.1 > 0)))
   ·replace hs := bif_f h2 hs
    refine oR 3 [(26, .bool (decide (y1.2 > 9223372036854775807))), (25, .bool (decide (y1.2 > 9223372036854775807))), (24, .int .u64 y1.2)] kr ?_
    refine oN ?_
    obtain rfl := si hs
    refine nrm_join (decide (y1.2 > 9223372036854775807)) rfl ?_
    exact cut_of [0, 6, 26] [] kr kr kr
   ·replace hs := bif_t h2 hs
    refine oR 3 [(26, .bool true), (25, .no), (24, .no)] kr ?_
    refine oN ?_
    cases hs
    refine nrm_join true rfl ?_
    exact cut_of [0, 6, 26] [] kr kr kr
  ·subst hz; clear hs; have hs := hk1; clear hk1
   refine nT ?_
   refine v_cond v1 kr (fun h3 => ?_) (fun h3 => ?_)
   ·replace hs := bif_t h3 hs
    cases hs
   ·replace hs := bif_f h3 hs
    refine vK (nT (vS (vT (oR 2 [(29, .int .i64 (w64 (y1.2))), (28, .int .u64 y1.2)] kr ?_))))
    obtain ⟨⟨g1a, g1b, g1c⟩, hs⟩ := bG hs
    refine o_loc (F := []) (F' := [(30, .row 3 1 0 (mI (List.replicate (Int.toNat (w64 (y1.2))) (0 : Int))))]) (v := .sl 1 30 (((List.replicate (Int.toNat (w64 (y1.2))) (0 : Int))).length) 0 (((List.replicate (Int.toNat (w64 (y1.2))) (0 : Int))).length)) [] kr kr rfl kr (loc_makeSliceT (L := ((List.replicate (Int.toNat (w64 (y1.2))) (0 : Int))).length) (e := 3) (sz := 1) (bytes := 8) (q := (w64 (y1.2))) (k := .i64) (k2 := .i64) (cs := [.int .i64 0]) (cs2 := [.int .i64 0]) kr kr kr kr kr g1a g1b g1c (List.map_replicate (f := EV.encI)).symm (List.length_replicate ..) (fun _ _ h => h)) kr ?_
    refine oR 1 [(7, .sl 1 30 (((List.replicate (Int.toNat (w64 (y1.2))) (0 : Int))).length) 0 (((List.replicate (Int.toNat (w64 (y1.2))) (0 : Int))).length))] kr ?_
    refine oN (nT (vS (vT (oR 2 [(32, .vs 1 (mI x)), (31, .sl 1 30 (((List.replicate (Int.toNat (w64 (y1.2))) (0 : Int))).length) 0 (((List.replicate (Int.toNat (w64 (y1.2))) (0 : Int))).length))] kr ?_))))
    refine o_loc (F := [(30, .row 3 1 0 (mI (List.replicate (Int.toNat (w64 (y1.2))) (0 : Int))))]) (F' := [(30, .row 3 1 0 (mI (cpyT (List.replicate (Int.toNat (w64 (y1.2))) (0 : Int)) 0 (List.take (min (List.length x) (((List.replicate (Int.toNat (w64 (y1.2))) (0 : Int))).length)) x))))]) (v := .int .i64 (((min (List.length x) (((List.replicate (Int.toNat (w64 (y1.2))) (0 : Int))).length)) : Nat) : Int)) [30] kr kr rfl kr (loc_copyT EV.encI (e := 3) (sz := 1) (bytes := 8) (k := 30) (L := (((List.replicate (Int.toNat (w64 (y1.2))) (0 : Int))).length)) (o := 0) (n := (((List.replicate (Int.toNat (w64 (y1.2))) (0 : Int))).length)) (c := (min (List.length x) (((List.replicate (Int.toNat (w64 (y1.2))) (0 : Int))).length))) (q := (List.replicate (Int.toNat (w64 (y1.2))) (0 : Int))) (ys := x) kr kr (by first | rfl | simp only [List.length_set, cpyT_length]) (by omega) (by have := Src.vs (sz := 1) (R := []) (mI x); exact this) (fun _ => rfl) (fun _ => rfl) kr rfl rfl) kr ?_
    refine oR 1 [(8, .int .i64 (((min (List.length x) (((List.replicate (Int.toNat (w64 (y1.2))) (0 : Int))).length)) : Nat) : Int))] kr ?_
    refine oN (nT (vS ?_))
    obtain ⟨z2, hs, hk2⟩ := bS hs
    refine v_join (S := (List Int)) (fun u => u = z2) (fun u => [(7, .sl 1 30 ((u).length) 0 ((u).length))]) (fun u => [(30, .row 3 1 0 (mI u))]) ?_ (fun v2 hz => ?_)
    ·refine vB ?_
     refine v_fuel (S := Int × (List Int)) (fun u => [(7, .sl 1 30 ((u.2).length) 0 ((u.2).length)), (8, .int .i64 u.1)]) (fun u => [(30, .row 3 1 0 (mI u.2))]) s_slices_Repeat_L1 (fun _ => rfl) KK ((((min (List.length x) (((List.replicate (Int.toNat (w64 (y1.2))) (0 : Int))).length)) : Nat) : Int), (cpyT (List.replicate (Int.toNat (w64 (y1.2))) (0 : Int)) 0 (List.take (min (List.length x) (((List.replicate (Int.toNat (w64 (y1.2))) (0 : Int))).length)) x))) hs (Cut.trans (cut_eq 7 (v := .sl 1 30 (((List.replicate (Int.toNat (w64 (y1.2))) (0 : Int))).length) 0 (((List.replicate (Int.toNat (w64 (y1.2))) (0 : Int))).length)) (v' := .sl 1 30 (((cpyT (List.replicate (Int.toNat (w64 (y1.2))) (0 : Int)) 0 (List.take (min (List.length x) (((List.replicate (Int.toNat (w64 (y1.2))) (0 : Int))).length)) x))).length) 0 (((cpyT (List.replicate (Int.toNat (w64 (y1.2))) (0 : Int)) 0 (List.take (min (List.length x) (((List.replicate (Int.toNat (w64 (y1.2))) (0 : Int))).length)) x))).length)) kr (by first | rfl | simp only [List.length_set, cpyT_length])) (cut_of [7, 8] [30] kr kr kr)) (fun K1 q1 hs => ?_)
     rw [s_slices_Repeat_L1] at hs
     show WpV cK0 Tryz.prog none 48 _ _ [(7, .sl 1 30 ((q1.2).length) 0 ((q1.2).length)), (8, .int .i64 q1.1)] [(30, .row 3 1 0 (mI q1.2))] []
     refine vS (vS (vT (oR 4 [(37, .bool (decide (q1.1 < ((q1.2).length : Int)))), (36, .int .i64 ((q1.2).length : Int)), (35, .sl 1 30 ((q1.2).length) 0 ((q1.2).length)), (34, .int .i64 q1.1)] kr ?_)))
     refine oN (nT ?_)
     refine v_cond (decide (q1.1 < ((q1.2).length : Int))) kr (fun h4 => ?_) (fun h4 => ?_)
     ·replace hs := bif_t h4 hs
      refine vK (nT (vB (v_draw mixedH kr ?_)))
      refine d_runs 3 0 [(40, .int .i64 q1.1), (39, .sl 1 30 ((q1.2).length) 0 ((q1.2).length)), (38, .int .i64 q1.1)] (pfp 3 2) kr kr ?_
      obtain ⟨⟨g2a, g2b, g2c⟩, hs⟩ := bG hs
      refine d_pure (v := .sl 1 30 ((q1.2).length) (Int.toNat q1.1) (Int.toNat ((q1.2).length : Int) - Int.toNat q1.1)) 3 rfl rfl rfl rfl kr kr (loc_sliceRowT (e := 3) (sz := 1) (k := 30) (L := ((q1.2).length)) (n := (q1.2).length) (l := q1.1) (h := ((q1.2).length : Int)) kr kr ⟨.i64, by kernel_rfl⟩ rfl g2a g2b g2c) ?_
      refine d_runs 2 4 [(43, .int .i64 q1.1), (42, .sl 1 30 ((q1.2).length) 0 ((q1.2).length))] (pfp 2 5) kr kr ?_
      obtain ⟨⟨g3a, g3b, g3c⟩, hs⟩ := bG hs
      refine d_pure (v := .sl 1 30 ((q1.2).length) (Int.toNat 0) (Int.toNat q1.1 - Int.toNat 0)) 6 rfl rfl rfl rfl kr kr (loc_sliceRowT (e := 3) (sz := 1) (k := 30) (L := ((q1.2).length)) (n := (q1.2).length) (l := 0) (h := q1.1) kr kr rfl ⟨.i64, by kernel_rfl⟩ g3a g3b g3c) ?_
      refine d_loc (F := [(30, .row 3 1 0 (mI q1.2))]) (R := []) (F' := [(30, .row 3 1 0 (mI (cpyT q1.2 (Int.toNat q1.1) (List.take (min (Int.toNat q1.1 - Int.toNat 0) (Int.toNat ((q1.2).length : Int) - Int.toNat q1.1)) (List.take (Int.toNat q1.1 - Int.toNat 0) (List.drop (Int.toNat 0) q1.2))))))]) (v := .int .i64 (((min (Int.toNat q1.1 - Int.toNat 0) (Int.toNat ((q1.2).length : Int) - Int.toNat q1.1)) : Nat) : Int)) 7 [30] [] rfl rfl rfl rfl kr kr kr kr kr kr kr kr (loc_copySelfT EV.encI (e := 3) (sz := 1) (bytes := 8) (k := 30) (L := ((q1.2).length)) (o := (Int.toNat q1.1)) (n := (Int.toNat ((q1.2).length : Int) - Int.toNat q1.1)) (o2 := (Int.toNat 0)) (n2 := (Int.toNat q1.1 - Int.toNat 0)) (c := (min (Int.toNat q1.1 - Int.toNat 0) (Int.toNat ((q1.2).length : Int) - Int.toNat q1.1))) (q := q1.2) kr kr kr (by first | rfl | simp only [List.length_set, cpyT_length]) (by omega) (by omega) (fun _ => rfl) (fun _ => rfl) rfl rfl) ?_
      refine d_runs 2 8 [(8, .int .i64 (w64 (q1.1 + (((min (Int.toNat q1.1 - Int.toNat 0) (Int.toNat ((q1.2).length : Int) - Int.toNat q1.1)) : Nat) : Int)))), (46, .int .i64 (w64 (q1.1 + (((min (Int.toNat q1.1 - Int.toNat 0) (Int.toNat ((q1.2).length : Int) - Int.toNat q1.1)) : Nat) : Int))))] (pfp 2 9) kr kr ?_
      refine d_nil kr ?_
      refine nB (nrm_fuel ((w64 (q1.1 + (((min (Int.toNat q1.1 - Int.toNat 0) (Int.toNat ((q1.2).length : Int) - Int.toNat q1.1)) : Nat) : Int))), (cpyT q1.2 (Int.toNat q1.1) (List.take (min (Int.toNat q1.1 - Int.toNat 0) (Int.toNat ((q1.2).length : Int) - Int.toNat q1.1)) (List.take (Int.toNat q1.1 - Int.toNat 0) (List.drop (Int.toNat 0) q1.2))))) hs ?_)
      exact Cut.trans (cut_eq 7 (v := .sl 1 30 ((q1.2).length) 0 ((q1.2).length)) (v' := .sl 1 30 (((cpyT q1.2 (Int.toNat q1.1) (List.take (min (Int.toNat q1.1 - Int.toNat 0) (Int.toNat ((q1.2).length : Int) - Int.toNat q1.1)) (List.take (Int.toNat q1.1 - Int.toNat 0) (List.drop (Int.toNat 0) q1.2))))).length) 0 (((cpyT q1.2 (Int.toNat q1.1) (List.take (min (Int.toNat q1.1 - Int.toNat 0) (Int.toNat ((q1.2).length : Int) - Int.toNat q1.1)) (List.take (Int.toNat q1.1 - Int.toNat 0) (List.drop (Int.toNat 0) q1.2))))).length)) kr (by first | rfl | simp only [List.length_set, cpyT_length])) (cut_of [7, 8] [30] kr kr kr)
     ·replace hs := bif_f h4 hs
      refine v_exit (exit_thenV (exit_fuel ?_))
      refine exit_blkV ?_
      obtain rfl := si hs
      refine nrm_join q1.2 rfl ?_
      exact cut_of [7] [30] kr kr kr
    ·subst hz; clear hs; have hs := hk2; clear hk2
     refine nT (vS (vT (oR 2 [(4, .sl 1 30 ((v2).length) 0 ((v2).length)), (47, .sl 1 30 ((v2).length) 0 ((v2).length))] kr ?_)))
     refine oN (nT (v_ret ?_))
     cases hs
     exact fin_ret kr kr kr
theorem w_slices_Index (s : (List Int)) (v : Int) (r : Int) (hs : s_slices_Index s v = some r) : FnA Tryz.prog 90 [.vs 1 (mI s), .int .i64 v] [] (.int .i64 r) [] := by
 refine fnA_of_wp (N := 19) Tryz.func90 rfl rfl rfl fun cK0 => ?_
 unfold s_slices_Index at hs
 refine v_same (ρ' := [(0, .vs 1 (mI s)), (1, .int .i64 v)]) rfl rfl ?_
 refine vS (vT (oR 1 [(4, .int .i64 0)] kr ?_))
 refine oN (nT (vS (vS (vT (oR 1 [(6, .vs 1 (mI s))] kr ?_)))))
 refine oP (v := .int .i64 (List.length s : Int)) kr kr (loc_lenVs (sz := 1) (els := (mI s)) kr kr lM) ?_
 refine oR 1 [(8, .int .i64 0)] kr ?_
 refine oN (nT ?_)
 obtain ⟨z1, hs, hk1⟩ := bS hs
 refine v_join (S := Unit) (fun u => z1 = .inr u) (fun u => []) (fun u => []) ?_ (fun v1 hz => ?_)
 ·refine vB ?_
  refine v_fuel (S := Int) (fun u => [(0, .vs 1 (mI s)), (1, .int .i64 v), (7, .int .i64 (List.length s : Int)), (8, .int .i64 u)]) (fun u => []) (s_slices_Index_L1 s v) (fun _ => rfl) KK 0 hs (cut_of [0, 1, 7, 8] [] kr kr kr) (fun K1 q1 hs => ?_)
  rw [s_slices_Index_L1] at hs
  show WpV cK0 Tryz.prog none 19 _ _ [(0, .vs 1 (mI s)), (1, .int .i64 v), (7, .int .i64 (List.length s : Int)), (8, .int .i64 q1)] [] []
  refine vS (vT (oR 1 [(9, .bool (decide (q1 < (List.length s : Int))))] kr ?_))
  refine oN (nT (vS ?_))
  refine v_cond (decide (q1 < (List.length s : Int))) kr (fun h1 => ?_) (fun h1 => ?_)
  ·replace hs := bif_t h1 hs
   refine vK (nT (vS (vB (vS (vT (oR 2 [(5, .int .i64 q1), (10, .int .i64 q1)] kr ?_))))))
   refine oN (nT (vS (vT (oR 3 [(13, .int .i64 q1), (12, .vs 1 (mI s)), (11, .int .i64 v)] kr ?_))))
   obtain ⟨x1, g1, hs⟩ := bS hs; obtain ⟨g1a, g1b, g1c⟩ := idx_some g1
   refine oP (v := .vp [.int .i64 x1] 0) kr kr (loc_indexVs (e := 3) (sz := 1) (k := .i64) (els := (mI s)) (cs := (EV.encI x1)) kr kr kr g1a (by rw [g1c]; exact map_get _ (by omega))) ?_
   refine oR 2 [(16, .bool (decide (v = x1))), (15, .int .i64 x1)] kr ?_
   refine oN (nT ?_)
   refine v_cond (decide (v = x1)) kr (fun h2 => ?_) (fun h2 => ?_)
   ·replace hs := bif_t h2 hs
    refine vS (vT (oR 2 [(4, .int .i64 q1), (17, .int .i64 q1)] kr ?_))
    refine oN (nT (v_ret (rB (rT (ret_fuel ?_)))))
    refine rB (ret_join ?_)
    refine rT ?_
    obtain rfl := si hs
    replace hs := hk1
    cases hs
    exact fin_ret kr kr kr
   ·replace hs := bif_f h2 hs
    refine vK (nB (nT (vT (oR 2 [(8, .int .i64 (w64 (q1 + 1))), (18, .int .i64 (w64 (q1 + 1)))] kr ?_))))
    refine oN (nrm_fuel (w64 (q1 + 1)) hs ?_)
    exact cut_of [0, 1, 7, 8] [] kr kr kr
  ·replace hs := bif_f h1 hs
   refine v_exit (exit_thenV (exit_fuel ?_))
   refine exit_blkV ?_
   cases hs
   refine nrm_join () rfl ?_
   exact cut_of [] [] kr kr kr
 ·subst hz; clear hs; have hs := hk1; clear hk1
  refine nT (vS (vT (oR 1 [(4, .int .i64 (-1))] kr ?_)))
  refine oN (nT (v_ret ?_))
  cases hs
  exact fin_ret kr kr kr
theorem w_slices_Contains (s : (List Int)) (v : Int) (r : Bool) (hs : s_slices_Contains s v = some r) : FnA Tryz.prog 84 [.vs 1 (mI s), .int .i64 v] [] (.bool r) [] := by
 refine fnA_of_wp (N := 9) Tryz.func84 rfl rfl rfl fun cK0 => ?_
 unfold s_slices_Contains at hs
 refine v_same (ρ' := [(0, .vs 1 (mI s)), (1, .int .i64 v)]) rfl rfl ?_
 refine vS (vT (oR 1 [(4, .bool false)] kr ?_))
 refine oN (nT (vS (vT (oR 2 [(6, .int .i64 v), (5, .vs 1 (mI s))] kr ?_))))
 obtain ⟨y1, c1, hs⟩ := bS hs
 refine oP (v := .int .i64 y1) kr kr (loc_gcall0 (callV_func hbv90 kr) (w_slices_Index s v _ c1) kr) ?_
 refine oR 2 [(4, .bool (decide (y1 ≥ 0))), (8, .bool (decide (y1 ≥ 0)))] kr ?_
 refine oN (nT (v_ret ?_))
 cases hs
 exact fin_ret kr kr kr
theorem w_define_graph_distances (g_defs : (List Def)) (g_uses : (List (List Int))) (to : Int) (r : (List Int) × (List Def) × (List (List Int))) (hs : s_define_graph_distances g_defs g_uses to = some r) : FnA Tryz.prog 76 [.ptr 1000000 0 0, .int .i64 to] [(1000000, .box 106 [.vs 6 (mM enc_Def g_defs), .vs 1 (List.map (encL 1 EV.encI) g_uses)])] (.vs 1 (mI r.1)) [(1000000, .box 106 [.vs 6 (mM enc_Def r.2.1), .vs 1 (List.map (encL 1 EV.encI) r.2.2)])] := by
 refine fnA_of_wp (N := 64) Tryz.func76 rfl rfl rfl fun cK0 => ?_
 unfold s_define_graph_distances at hs
 refine v_same (ρ' := [(0, .ptr 1000000 0 0), (1, .int .i64 to)]) rfl rfl ?_
 refine vS (vT (oR 1 [(4, .nils)] kr ?_))
 refine oN (nT (vS (vT (o_runh 5 [(14, .vs 6 (mM enc_Def g_defs)), (13, .ptr 1000000 0 0), (12, .ptr 1000000 0 0), (11, .ptr 1000000 0 0), (10, .sl 1 10 1 0 1)] [(10, .row 3 1 0 (mI [(-1)])), (1000000, .box 106 [.vs 6 (mM enc_Def g_defs), .vs 1 (mLI g_uses)])] kr ?_))))
 refine oP (v := .int .i64 (List.length g_defs : Int)) kr kr (loc_lenVs (sz := 6) (els := (mM enc_Def g_defs)) kr kr lM) ?_
 obtain ⟨y1, c1, hs⟩ := bS hs
 refine o_to _ [(10, .row 3 1 (((mI [(-1)])).length) (mI [(-1)])), (1000000, .box 106 [.vs 6 (mM enc_Def g_defs), .vs 1 (mLI g_uses)])] (cut_freeze (F := [(10, .row 3 1 0 (mI [(-1)]))]) [10] rfl kr kr) ?_
 refine o_loc (F := [(10, .row 3 1 (((mI [(-1)])).length) (mI [(-1)]))]) (F' := [(3001600, .row 3 1 0 (mI y1)), (10, .row 3 1 (((mI [(-1)])).length) (mI [(-1)]))]) (v := .sl 1 3001600 ((y1).length) 0 ((y1).length)) [10] kr kr rfl kr (loc_g (R := [(10, .row 3 1 (((mI [(-1)])).length) (mI [(-1)]))]) [.sl 1 10 1 0 1, .int .i64 (List.length g_defs : Int)] [(30, 3001600)] (callV_func hbv83 kr) (w_slices_Repeat [(-1)] (List.length g_defs : Int) _ c1) (.cons (.row (t := 3) (fz := (((mI [(-1)])).length)) kr lh) (.cons (.same _) (.nil))) kr kr kr kr kr kr kr kr) kr ?_
 refine oR 1 [(5, .sl 1 3001600 ((y1).length) 0 ((y1).length))] kr ?_
 refine oN (nT (vS (vT (oR 2 [(18, .int .i64 to), (17, .sl 1 3001600 ((y1).length) 0 ((y1).length))] kr ?_))))
 obtain ⟨⟨g1a, g1b⟩, hs⟩ := bG hs
 refine oP (v := .ptr 3001600 ((y1).length) ((Int.toNat to) * 1 + 0)) kr kr (loc_indexRowT (e := 3) (sz := 1) (kk := 3001600) (L := (y1).length) (n := (y1).length) (k := .i64) (i := to) kr kr kr g1a g1b) ?_
 obtain ⟨e1, he1, hs⟩ := bE hs
 refine o_loc (F := [(3001600, .row 3 1 0 (mI y1))]) (F' := [(3001600, .row 3 1 0 (mI (List.set y1 (Int.toNat to) 0)))]) (v := .no) [3001600] kr kr rfl kr (loc_storeRowT (L := (y1).length) (off := (Int.toNat to) * 1 + 0) (els := (mI y1)) (cs := [.int .i64 e1]) (c' := [.int .i64 0]) (Int.toNat to) 0 kr lh rfl (by rw [← he1]; exact map_get _ (by first | omega | (simp only [List.length_set, cpyT_length]; omega))) (by first | exact Nat.zero_le _ | omega) kr kr kr kr kr kr List.map_set.symm) kr ?_
 refine oN (nT (vS (vT (o_runh 3 [(6, .sl 1 21 1 0 1), (21, .sl 1 21 1 0 1), (20, .int .i64 to)] [(21, .row 3 1 0 (mI [to])), (3001600, .row 3 1 0 (mI (List.set y1 (Int.toNat to) 0))), (10, .row 3 1 (((mI [(-1)])).length) (mI [(-1)])), (1000000, .box 106 [.vs 6 (mM enc_Def g_defs), .vs 1 (mLI g_uses)])] kr ?_))))
 refine oN (nT (vS ?_))
 obtain ⟨z1, hs, hk1⟩ := bS hs
 refine v_join (S := (List Int)) (fun u => u = z1) (fun u => [(5, .sl 1 3001600 ((u).length) 0 ((u).length))]) (fun u => [(3001600, .row 3 1 0 (mI u)), (1000000, .box 106 [.vs 6 (mM enc_Def g_defs), .vs 1 (mLI g_uses)])]) ?_ (fun v1 hz => ?_)
 ·refine vB (v_to _ [(21, .gen (que 3 1 1 (mI [to]))), (3001600, .row 3 1 0 (mI (List.set y1 (Int.toNat to) 0))), (10, .row 3 1 (((mI [(-1)])).length) (mI [(-1)])), (1000000, .box 106 [.vs 6 (mM enc_Def g_defs), .vs 1 (mLI g_uses)])] (cut_que 6 21 (e := 3) (sz := 1) (n := 1) (els := (mI [to])) kr kr (by first | rfl | simp) (by simp) kr) ?_)
  refine v_fuel (S := (List Int) × Nat × (List Int)) (fun u => [(0, .ptr 1000000 0 0), (5, .sl 1 3001600 ((u.2.2).length) 0 ((u.2.2).length)), (6, .gv 21 (qv true 1 u.2.1 (List.length u.1)))]) (fun u => [(21, .gen (que 3 1 u.2.1 (mI u.1))), (3001600, .row 3 1 0 (mI u.2.2)), (1000000, .box 106 [.vs 6 (mM enc_Def g_defs), .vs 1 (mLI g_uses)])]) (s_define_graph_distances_L1 g_uses) (fun _ => rfl) KK ([to], 1, (List.set y1 (Int.toNat to) 0)) hs (Cut.trans (cut_eq 5 (v := .sl 1 3001600 ((y1).length) 0 ((y1).length)) (v' := .sl 1 3001600 (((List.set y1 (Int.toNat to) 0)).length) 0 (((List.set y1 (Int.toNat to) 0)).length)) kr (by first | rfl | simp only [List.length_set, cpyT_length])) (Cut.trans (cut_eq 6 (v := .gv 21 (qv true 1 1 1)) (v' := .gv 21 (qv true 1 1 (List.length [to]))) kr (by first | rfl | simp only [List.length_set, cpyT_length])) (cut_of [0, 5, 6] [21, 3001600, 1000000] kr kr kr))) (fun K1 q1 hs => ?_)
  rw [s_define_graph_distances_L1] at hs
  show WpV cK0 Tryz.prog none 64 _ _ [(0, .ptr 1000000 0 0), (5, .sl 1 3001600 ((q1.2.2).length) 0 ((q1.2.2).length)), (6, .gv 21 (qv true 1 q1.2.1 (List.length q1.1)))] [(21, .gen (que 3 1 q1.2.1 (mI q1.1))), (3001600, .row 3 1 0 (mI q1.2.2)), (1000000, .box 106 [.vs 6 (mM enc_Def g_defs), .vs 1 (mLI g_uses)])] []
  refine vS (vS (vT (oR 1 [(22, .gv 21 (qv true 1 q1.2.1 (List.length q1.1)))] kr ?_)))
  refine oP (v := .int .i64 ((List.length q1.1) : Int)) kr kr (loc_lenQ (k := 21) (sz := 1) (ver := q1.2.1) (n := (List.length q1.1)) kr kr) ?_
  refine oR 1 [(24, .bool (decide (((List.length q1.1) : Int) > 0)))] kr ?_
  refine oN (nT ?_)
  refine v_cond (decide (((List.length q1.1) : Int) > 0)) kr (fun h1 => ?_) (fun h1 => ?_)
  ·replace hs := bif_t h1 hs
   refine vK (nT (vB (vS (vT (oR 1 [(25, .gv 21 (qv true 1 q1.2.1 (List.length q1.1)))] kr ?_)))))
   obtain ⟨⟨g2a, g2b⟩, hs⟩ := bG hs
   refine oP (v := .gv 21 (qv false 1 q1.2.1 ((Int.toNat 0) * 1))) kr kr (loc_indexQ (e := 3) (sz := 1) (kk := 21) (ver := q1.2.1) (n := (List.length q1.1)) (k := .i64) (i := 0) kr kr kr g2a g2b) ?_
   obtain ⟨e2, he2, hs⟩ := bE hs
   refine o_loc (F := [(21, .gen (que 3 1 q1.2.1 (mI q1.1)))]) (F' := [(21, .gen (que 3 1 q1.2.1 (mI q1.1)))]) (v := .int .i64 e2) [21] kr kr rfl kr (loc_loadQ (et := 3) (sz := 1) (k := 21) (ver := q1.2.1) (n := (Int.toNat 0) * 1) (els := (mI q1.1)) (cs := [.int .i64 e2]) (Int.toNat 0) kr kr (by rw [← he2]; exact map_get _ (by omega)) kr) kr ?_
   refine oR 1 [(7, .int .i64 e2)] kr ?_
   refine oN (nT (vS (vT (oR 1 [(28, .gv 21 (qv true 1 q1.2.1 (List.length q1.1)))] kr ?_))))
   obtain ⟨_, g3, hs⟩ := bS hs; replace g3 := grd_some g3
   refine o_loc (F := [(21, .gen (que 3 1 q1.2.1 (mI q1.1)))]) (F' := [(21, .gen (que 3 1 (q1.2.1 + 1) (mI (List.drop 1 q1.1))))]) (v := .gv 21 (qv true 1 (q1.2.1 + 1) (List.length (List.drop 1 q1.1)))) [21] kr kr rfl kr (loc_popQT EV.encI (e := 3) (et := 3) (sz := 1) (k := 21) (ver := q1.2.1) (n := (List.length q1.1)) (p := q1.1) (kk := .i64) kr kr kr rfl g3 rfl) kr ?_
   refine oR 1 [(6, .gv 21 (qv true 1 (q1.2.1 + 1) (List.length (List.drop 1 q1.1))))] kr ?_
   refine oN (nT (vS (vT (oR 4 [(33, .vs 1 (mLI g_uses)), (32, .ptr 1000000 0 1), (31, .ptr 1000000 0 0), (30, .ptr 1000000 0 0)] kr ?_))))
   refine oP (v := .int .i64 (List.length g_uses : Int)) kr kr (loc_lenVs (sz := 1) (els := (mLI g_uses)) kr kr lM) ?_
   refine oR 1 [(35, .int .i64 0)] kr ?_
   refine oN (nT ?_)
   obtain ⟨z2, hs, hk2⟩ := bS hs
   refine v_join (S := (List Int) × Nat × (List Int)) (fun u => u = z2) (fun u => [(0, .ptr 1000000 0 0), (5, .sl 1 3001600 ((u.2.2).length) 0 ((u.2.2).length)), (6, .gv 21 (qv true 1 u.2.1 (List.length u.1)))]) (fun u => [(21, .gen (que 3 1 u.2.1 (mI u.1))), (3001600, .row 3 1 0 (mI u.2.2)), (1000000, .box 106 [.vs 6 (mM enc_Def g_defs), .vs 1 (mLI g_uses)])]) ?_ (fun v2 hz => ?_)
   ·refine vB ?_
    refine v_fuel (S := Int × (List Int) × Nat × (List Int)) (fun u => [(0, .ptr 1000000 0 0), (5, .sl 1 3001600 ((u.2.2.2).length) 0 ((u.2.2.2).length)), (6, .gv 21 (qv true 1 u.2.2.1 (List.length u.2.1))), (7, .int .i64 e2), (33, .vs 1 (mLI g_uses)), (34, .int .i64 (List.length g_uses : Int)), (35, .int .i64 u.1)]) (fun u => [(21, .gen (que 3 1 u.2.2.1 (mI u.2.1))), (3001600, .row 3 1 0 (mI u.2.2.2)), (1000000, .box 106 [.vs 6 (mM enc_Def g_defs), .vs 1 (mLI g_uses)])]) (s_define_graph_distances_L2 g_uses e2) (fun _ => rfl) KK (0, (List.drop 1 q1.1), (q1.2.1 + 1), q1.2.2) hs (cut_of [0, 5, 6, 7, 33, 34, 35] [21, 3001600, 1000000] kr kr kr) (fun K2 q2 hs => ?_)
    rw [s_define_graph_distances_L2] at hs
    show WpV cK0 Tryz.prog none 64 _ _ [(0, .ptr 1000000 0 0), (5, .sl 1 3001600 ((q2.2.2.2).length) 0 ((q2.2.2.2).length)), (6, .gv 21 (qv true 1 q2.2.2.1 (List.length q2.2.1))), (7, .int .i64 e2), (33, .vs 1 (mLI g_uses)), (34, .int .i64 (List.length g_uses : Int)), (35, .int .i64 q2.1)] [(21, .gen (que 3 1 q2.2.2.1 (mI q2.2.1))), (3001600, .row 3 1 0 (mI q2.2.2.2)), (1000000, .box 106 [.vs 6 (mM enc_Def g_defs), .vs 1 (mLI g_uses)])] []
    refine vS (vT (oR 1 [(36, .bool (decide (q2.1 < (List.length g_uses : Int))))] kr ?_))
    refine oN (nT (vS ?_))
    refine v_cond (decide (q2.1 < (List.length g_uses : Int))) kr (fun h2 => ?_) (fun h2 => ?_)
    ·replace hs := bif_t h2 hs
     refine vK (nT (vS (vB (vS (vT (oR 1 [(37, .int .i64 q2.1)] kr ?_))))))
     obtain ⟨x1, g4, hs⟩ := bS hs; obtain ⟨g4a, g4b, g4c⟩ := idx_some g4
     refine oP (v := .vp [.vs 1 (mI x1)] 0) kr kr (loc_indexVs (e := 45) (sz := 1) (k := .i64) (els := (mLI g_uses)) (cs := (eI x1)) kr kr kr g4a (by rw [g4c]; exact map_get _ (by omega))) ?_
     refine oR 3 [(9, .vs 1 (mI x1)), (8, .int .i64 q2.1), (39, .vs 1 (mI x1))] kr ?_
     refine oN (nT (vS ?_))
     obtain ⟨z3, hs, hk3⟩ := bS hs
     refine v_join (S := Bool × (List Int) × Nat) (fun u => u = z3) (fun u => [(0, .ptr 1000000 0 0), (5, .sl 1 3001600 ((q2.2.2.2).length) 0 ((q2.2.2.2).length)), (6, .gv 21 (qv true 1 u.2.2 (List.length u.2.1))), (7, .int .i64 e2), (8, .int .i64 q2.1), (33, .vs 1 (mLI g_uses)), (34, .int .i64 (List.length g_uses : Int)), (35, .int .i64 q2.1), (49, .bool u.1)]) (fun u => [(3001600, .row 3 1 0 (mI q2.2.2.2)), (21, .gen (que 3 1 u.2.2 (mI u.2.1))), (1000000, .box 106 [.vs 6 (mM enc_Def g_defs), .vs 1 (mLI g_uses)])]) ?_ (fun v3 hz => ?_)
     ·refine vT (oR 2 [(41, .int .i64 q2.1), (40, .sl 1 3001600 ((q2.2.2.2).length) 0 ((q2.2.2.2).length))] kr ?_)
      obtain ⟨⟨g5a, g5b⟩, hs⟩ := bG hs
      refine oP (v := .ptr 3001600 ((q2.2.2.2).length) ((Int.toNat q2.1) * 1 + 0)) kr kr (loc_indexRowT (e := 3) (sz := 1) (kk := 3001600) (L := (q2.2.2.2).length) (n := (q2.2.2.2).length) (k := .i64) (i := q2.1) kr kr kr g5a g5b) ?_
      obtain ⟨e3, he3, hs⟩ := bE hs
      refine o_loc (F := [(3001600, .row 3 1 0 (mI q2.2.2.2))]) (F' := [(3001600, .row 3 1 0 (mI q2.2.2.2))]) (v := .int .i64 e3) [3001600] kr kr rfl kr (loc_loadRow (L := (q2.2.2.2).length) (off := (Int.toNat q2.1) * 1 + 0) (els := (mI q2.2.2.2)) (cs := [.int .i64 e3]) (Int.toNat q2.1) 0 kr lh rfl (by rw [← he3]; exact map_get _ (by first | omega | (simp only [List.length_set, cpyT_length]; omega))) kr) kr ?_
      refine oR 2 [(45, .bool (decide (e3 < 0))), (44, .bool (decide (e3 < 0)))] kr ?_
      cases h3 : ((decide (e3 < 0)))
      ·replace hs := bif_f h3 hs
       refine oR 4 [(49, .bool false), (48, .no), (47, .no), (46, .no)] kr ?_
       refine oN ?_
       obtain rfl := si hs
       refine nrm_join (false, q2.2.1, q2.2.2.1) rfl ?_
       exact cut_of [0, 5, 6, 7, 8, 33, 34, 35, 49] [3001600, 21, 1000000] kr kr kr
      ·replace hs := bif_t h3 hs
       refine oR 2 [(47, .int .i64 e2), (46, .vs 1 (mI x1))] kr ?_
       obtain ⟨y2, c2, hs⟩ := bS hs
       refine oP (v := .bool y2) kr kr (loc_gcall0 (callV_func hbv84 kr) (w_slices_Contains x1 e2 _ c2) kr) ?_
       refine oR 1 [(49, .bool y2)] kr ?_
       refine oN ?_
       obtain rfl := si hs
       refine nrm_join (y2, q2.2.1, q2.2.2.1) rfl ?_
       exact cut_of [0, 5, 6, 7, 8, 33, 34, 35, 49] [3001600, 21, 1000000] kr kr kr
     ·subst hz; clear hs; have hs := hk3; clear hk3
      refine nT ?_
      obtain ⟨z4, hs, hk4⟩ := bS hs
      refine v_join (S := (List Int) × Nat × (List Int)) (fun u => u = z4) (fun u => [(0, .ptr 1000000 0 0), (5, .sl 1 3001600 ((u.2.2).length) 0 ((u.2.2).length)), (6, .gv 21 (qv true 1 u.2.1 (List.length u.1))), (7, .int .i64 e2), (33, .vs 1 (mLI g_uses)), (34, .int .i64 (List.length g_uses : Int)), (35, .int .i64 q2.1)]) (fun u => [(21, .gen (que 3 1 u.2.1 (mI u.1))), (3001600, .row 3 1 0 (mI u.2.2)), (1000000, .box 106 [.vs 6 (mM enc_Def g_defs), .vs 1 (mLI g_uses)])]) ?_ (fun v4 hz => ?_)
      ·refine v_cond v3.1 kr (fun h4 => ?_) (fun h4 => ?_)
       ·replace hs := bif_t h4 hs
        refine vS (vT (oR 4 [(53, .int .i64 e2), (52, .sl 1 3001600 ((q2.2.2.2).length) 0 ((q2.2.2.2).length)), (51, .int .i64 q2.1), (50, .sl 1 3001600 ((q2.2.2.2).length) 0 ((q2.2.2.2).length))] kr ?_))
        obtain ⟨⟨g6a, g6b⟩, hs⟩ := bG hs
        refine oP (v := .ptr 3001600 ((q2.2.2.2).length) ((Int.toNat e2) * 1 + 0)) kr kr (loc_indexRowT (e := 3) (sz := 1) (kk := 3001600) (L := (q2.2.2.2).length) (n := (q2.2.2.2).length) (k := .i64) (i := e2) kr kr kr g6a g6b) ?_
        obtain ⟨e4, he4, hs⟩ := bE hs
        refine o_loc (F := [(3001600, .row 3 1 0 (mI q2.2.2.2))]) (F' := [(3001600, .row 3 1 0 (mI q2.2.2.2))]) (v := .int .i64 e4) [3001600] kr kr rfl kr (loc_loadRow (L := (q2.2.2.2).length) (off := (Int.toNat e2) * 1 + 0) (els := (mI q2.2.2.2)) (cs := [.int .i64 e4]) (Int.toNat e2) 0 kr lh rfl (by rw [← he4]; exact map_get _ (by first | omega | (simp only [List.length_set, cpyT_length]; omega))) kr) kr ?_
        refine oR 1 [(56, .int .i64 (w64 (e4 + 1)))] kr ?_
        obtain ⟨⟨g7a, g7b⟩, hs⟩ := bG hs
        refine oP (v := .ptr 3001600 ((q2.2.2.2).length) ((Int.toNat q2.1) * 1 + 0)) kr kr (loc_indexRowT (e := 3) (sz := 1) (kk := 3001600) (L := (q2.2.2.2).length) (n := (q2.2.2.2).length) (k := .i64) (i := q2.1) kr kr kr g7a g7b) ?_
        obtain ⟨e5, he5, hs⟩ := bE hs
        refine o_loc (F := [(3001600, .row 3 1 0 (mI q2.2.2.2))]) (F' := [(3001600, .row 3 1 0 (mI (List.set q2.2.2.2 (Int.toNat q2.1) (w64 (e4 + 1)))))]) (v := .no) [3001600] kr kr rfl kr (loc_storeRowT (L := (q2.2.2.2).length) (off := (Int.toNat q2.1) * 1 + 0) (els := (mI q2.2.2.2)) (cs := [.int .i64 e5]) (c' := [.int .i64 (w64 (e4 + 1))]) (Int.toNat q2.1) 0 kr lh rfl (by rw [← he5]; exact map_get _ (by first | omega | (simp only [List.length_set, cpyT_length]; omega))) (by first | exact Nat.zero_le _ | omega) kr kr kr kr kr kr List.map_set.symm) kr ?_
        refine oN (nT (vT (o_runh 3 [(60, .sl 1 60 1 0 1), (59, .int .i64 q2.1), (58, .gv 21 (qv true 1 v3.2.2 (List.length v3.2.1)))] [(60, .row 3 1 0 (mI [q2.1])), (3001600, .row 3 1 0 (mI (List.set q2.2.2.2 (Int.toNat q2.1) (w64 (e4 + 1))))), (21, .gen (que 3 1 v3.2.2 (mI v3.2.1))), (1000000, .box 106 [.vs 6 (mM enc_Def g_defs), .vs 1 (mLI g_uses)])] kr ?_)))
        obtain ⟨_, g8, hs⟩ := bS hs; replace g8 := grd_some g8
        refine o_loc (F := [(21, .gen (que 3 1 v3.2.2 (mI v3.2.1))), (60, .row 3 1 0 (mI [q2.1]))]) (F' := [(21, .gen (que 3 1 (v3.2.2 + 1) (mI (v3.2.1 ++ [q2.1])))), (60, .row 3 1 0 (mI [q2.1]))]) (v := .gv 21 (qv true 1 (v3.2.2 + 1) (List.length (v3.2.1 ++ [q2.1])))) [21, 60] kr kr rfl kr (loc_appendQ (e := 3) (sz := 1) (bytes := 8) (k := 21) (ver := v3.2.2) (n := (List.length v3.2.1)) (n' := (List.length (v3.2.1 ++ [q2.1]))) (els := (mI v3.2.1)) (ys := (mI [q2.1])) kr kr (by first | exact List.length_map .. | simp only [List.length_map]) (.sl (t := 3) (fz := 0) (ys := (mI [q2.1])) kr kr) (map_ones EV.encI (fun _ => rfl) _) (map_lens EV.encI (fun _ => rfl) _) kr kr (by exact (List.map_append ..).symm) lM g8 (by omega)) kr ?_
        refine oR 1 [(6, .gv 21 (qv true 1 (v3.2.2 + 1) (List.length (v3.2.1 ++ [q2.1]))))] kr ?_
        refine oN ?_
        obtain rfl := si hs
        refine nrm_join ((v3.2.1 ++ [q2.1]), (v3.2.2 + 1), (List.set q2.2.2.2 (Int.toNat q2.1) (w64 (e4 + 1)))) rfl ?_
        exact Cut.trans (cut_eq 5 (v := .sl 1 3001600 ((q2.2.2.2).length) 0 ((q2.2.2.2).length)) (v' := .sl 1 3001600 (((List.set q2.2.2.2 (Int.toNat q2.1) (w64 (e4 + 1)))).length) 0 (((List.set q2.2.2.2 (Int.toNat q2.1) (w64 (e4 + 1)))).length)) kr (by first | rfl | simp only [List.length_set, cpyT_length])) (cut_of [0, 5, 6, 7, 33, 34, 35] [21, 3001600, 1000000] kr kr kr)
       ·replace hs := bif_f h4 hs
        refine vK ?_
        obtain rfl := si hs
        refine nrm_join (v3.2.1, v3.2.2, q2.2.2.2) rfl ?_
        exact cut_of [0, 5, 6, 7, 33, 34, 35] [21, 3001600, 1000000] kr kr kr
      ·subst hz; clear hs; have hs := hk4; clear hk4
       refine nB (nT (vT (oR 2 [(35, .int .i64 (w64 (q2.1 + 1))), (62, .int .i64 (w64 (q2.1 + 1)))] kr ?_)))
       refine oN (nrm_fuel ((w64 (q2.1 + 1)), v4.1, v4.2.1, v4.2.2) hs ?_)
       exact cut_of [0, 5, 6, 7, 33, 34, 35] [21, 3001600, 1000000] kr kr kr
    ·replace hs := bif_f h2 hs
     refine v_exit (exit_thenV (exit_fuel ?_))
     refine exit_blkV ?_
     obtain rfl := si hs
     refine nrm_join (q2.2.1, q2.2.2.1, q2.2.2.2) rfl ?_
     exact cut_of [0, 5, 6] [21, 3001600, 1000000] kr kr kr
   ·subst hz; clear hs; have hs := hk2; clear hk2
    refine nB (nrm_fuel (v2.1, v2.2.1, v2.2.2) hs ?_)
    exact cut_of [0, 5, 6] [21, 3001600, 1000000] kr kr kr
  ·replace hs := bif_f h1 hs
   refine v_exit (exit_thenV (exit_fuel ?_))
   refine exit_blkV ?_
   obtain rfl := si hs
   refine nrm_join q1.2.2 rfl ?_
   exact cut_of [5] [3001600, 1000000] kr kr kr
 ·subst hz; clear hs; have hs := hk1; clear hk1
  refine nT (vS (vT (oR 2 [(4, .sl 1 3001600 ((v1).length) 0 ((v1).length)), (63, .sl 1 3001600 ((v1).length) 0 ((v1).length))] kr ?_)))
  refine oN (nT (v_to _ [(3001600, .row 3 1 (((mI v1)).length) (mI v1)), (1000000, .box 106 [.vs 6 (mM enc_Def g_defs), .vs 1 (mLI g_uses)])] (cut_freeze (F := [(3001600, .row 3 1 0 (mI v1))]) [3001600] rfl kr kr) ?_))
  refine v_to ((4, .vs 1 (mI v1)) :: _) _ (cut_view (R := [(3001600, .row 3 1 (((mI v1)).length) (mI v1))]) (ks := [3001600]) kr kr (.row (t := 3) (fz := (((mI v1)).length)) kr lh)) ?_
  refine v_ret ?_
  cases hs
  exact fin_ret kr kr kr
theorem w_define_graph_circle (g_defs : (List Def)) (g_uses : (List (List Int))) (from_ : Int) (r : (List Sr) × (List Def) × (List (List Int))) (hs : s_define_graph_circle g_defs g_uses from_ = some r) : FnA Tryz.prog 68 [.ptr 1000000 0 0, .int .i64 from_] [(1000000, .box 106 [.vs 6 (mM enc_Def g_defs), .vs 1 (List.map (encL 1 EV.encI) g_uses)])] (nz 1 (mS r.1)) [(1000000, .box 106 [.vs 6 (mM enc_Def r.2.1), .vs 1 (List.map (encL 1 EV.encI) r.2.2)])] := by
 refine fnA_of_wp (N := 67) Tryz.func68 rfl rfl rfl fun cK0 => ?_
 unfold s_define_graph_circle at hs
 refine v_same (ρ' := [(0, .ptr 1000000 0 0), (1, .int .i64 from_)]) rfl rfl ?_
 refine vS (vT (oR 1 [(4, .nils)] kr ?_))
 refine oN (nT (vS (vT (oR 2 [(12, .int .i64 from_), (11, .ptr 1000000 0 0)] kr ?_))))
 obtain ⟨y1, c1, hs⟩ := bS hs
 refine o_loc (F := [(1000000, .box 106 [.vs 6 (mM enc_Def g_defs), .vs 1 (mLI g_uses)])]) (F' := [(1000000, .box 106 [.vs 6 (mM enc_Def y1.2.1), .vs 1 (mLI y1.2.2)])]) (v := .vs 1 (mI y1.1)) [1000000] kr kr rfl kr (loc_g (R := []) [.ptr 1000000 0 0, .int .i64 from_] [(1000000, 1000000)] (callV_func hbv76 kr) (w_define_graph_distances g_defs g_uses from_ _ c1) (.cons (.same _) (.cons (.same _) (.nil))) kr kr kr kr kr kr kr kr) kr ?_
 refine oR 1 [(5, .vs 1 (mI y1.1))] kr ?_
 refine oN (nT (vS (vT (oR 1 [(6, .nils)] kr ?_))))
 refine oN (nT (vS (vT (oR 2 [(7, .int .i64 from_), (14, .int .i64 from_)] kr ?_))))
 refine oN (nT ?_)
 obtain ⟨z1, hs, hk1⟩ := bS hs
 refine v_join (S := Unit) (fun u => False) (fun u => []) (fun u => []) ?_ (fun v1 hz => ?_)
 ·refine vB ?_
  refine v_fuel (S := Int × (List Sr)) (fun u => [(0, .ptr 1000000 0 0), (1, .int .i64 from_), (5, .vs 1 (mI y1.1)), (6, .sl 1 2000015 ((u.2).length) 0 ((u.2).length)), (7, .int .i64 u.1)]) (fun u => [(1000000, .box 106 [.vs 6 (mM enc_Def y1.2.1), .vs 1 (mLI y1.2.2)]), (2000015, .row 9 1 0 (mS u.2))]) (s_define_graph_circle_L1 from_ y1) (fun _ => rfl) KK (from_, []) hs (Cut.trans (cut_nilRow 6 2000015 9 1 rfl kr kr) (cut_of [0, 1, 5, 6, 7] [1000000, 2000015] kr kr kr)) (fun K1 q1 hs => ?_)
  rw [s_define_graph_circle_L1] at hs
  show WpV cK0 Tryz.prog none 67 _ _ [(0, .ptr 1000000 0 0), (1, .int .i64 from_), (5, .vs 1 (mI y1.1)), (6, .sl 1 2000015 ((q1.2).length) 0 ((q1.2).length)), (7, .int .i64 q1.1)] [(1000000, .box 106 [.vs 6 (mM enc_Def y1.2.1), .vs 1 (mLI y1.2.2)]), (2000015, .row 9 1 0 (mS q1.2))] []
  refine vB (vS (vT (oR 6 [(20, .int .i64 q1.1), (19, .vs 6 (mM enc_Def y1.2.1)), (18, .ptr 1000000 0 0), (17, .ptr 1000000 0 0), (16, .ptr 1000000 0 0), (15, .sl 1 2000015 ((q1.2).length) 0 ((q1.2).length))] kr ?_)))
  obtain ⟨x1, g1, hs⟩ := bS hs; obtain ⟨g1a, g1b, g1c⟩ := idx_some g1
  refine oP (v := .vp (enc_Def x1) 0) kr kr (loc_indexVs (e := 51) (sz := 6) (k := .i64) (els := (mM enc_Def y1.2.1)) (cs := (enc_Def x1)) kr kr kr g1a (by rw [g1c]; exact map_get _ (by omega))) ?_
  refine o_runh 3 [(24, .sl 1 24 1 0 1), (23, .str x1.Name), (22, .vp (enc_Def x1) 0)] [(24, .row 9 1 0 (mS [x1.Name])), (1000000, .box 106 [.vs 6 (mM enc_Def y1.2.1), .vs 1 (mLI y1.2.2)]), (2000015, .row 9 1 0 (mS q1.2))] kr ?_
  obtain ⟨_, g2, hs⟩ := bS hs; replace g2 := grd_some g2
  refine o_loc (F := [(2000015, .row 9 1 0 (mS q1.2)), (24, .row 9 1 0 (mS [x1.Name]))]) (F' := [(2000015, .row 9 1 0 (mS (q1.2 ++ [x1.Name]))), (24, .row 9 1 0 (mS [x1.Name]))]) (v := .sl 1 2000015 (((q1.2 ++ [x1.Name])).length) 0 (((q1.2 ++ [x1.Name])).length)) [2000015, 24] kr kr rfl kr (loc_appendT (e := 9) (sz := 1) (bytes := 16) (L := (q1.2).length) (els := (mS q1.2)) (ys := (mS [x1.Name])) kr kr (by first | exact List.length_map .. | rfl) (.sl (t := 9) (fz := 0) (ys := (mS [x1.Name])) kr kr) (map_ones EV.encS (fun _ => rfl) _) (map_lens EV.encS (fun _ => rfl) _) kr (by first | exact (List.map_append ..).symm | rfl | simp only [List.map_nil, List.nil_append]) (List.length_map ..) g2 (by omega)) kr ?_
  refine oR 1 [(6, .sl 1 2000015 (((q1.2 ++ [x1.Name])).length) 0 (((q1.2 ++ [x1.Name])).length))] kr ?_
  refine oN (nT (vS (vT (oR 1 [(8, .int .i64 (-1))] kr ?_))))
  refine oN (nT (vS (vS (vT (oR 5 [(30, .int .i64 q1.1), (29, .vs 1 (mLI y1.2.2)), (28, .ptr 1000000 0 1), (27, .ptr 1000000 0 0), (26, .ptr 1000000 0 0)] kr ?_)))))
  obtain ⟨x2, g3, hs⟩ := bS hs; obtain ⟨g3a, g3b, g3c⟩ := idx_some g3
  refine oP (v := .vp [.vs 1 (mI x2)] 0) kr kr (loc_indexVs (e := 45) (sz := 1) (k := .i64) (els := (mLI y1.2.2)) (cs := (eI x2)) kr kr kr g3a (by rw [g3c]; exact map_get _ (by omega))) ?_
  refine oR 1 [(32, .vs 1 (mI x2))] kr ?_
  refine oP (v := .int .i64 (List.length x2 : Int)) kr kr (loc_lenVs (sz := 1) (els := (mI x2)) kr kr lM) ?_
  refine oR 1 [(34, .int .i64 0)] kr ?_
  refine oN (nT ?_)
  obtain ⟨z2, hs, hk2⟩ := bS hs
  refine v_join (S := Int) (fun u => u = z2) (fun u => [(0, .ptr 1000000 0 0), (1, .int .i64 from_), (5, .vs 1 (mI y1.1)), (6, .sl 1 2000015 (((q1.2 ++ [x1.Name])).length) 0 (((q1.2 ++ [x1.Name])).length)), (8, .int .i64 u)]) (fun u => [(2000015, .row 9 1 0 (mS (q1.2 ++ [x1.Name]))), (1000000, .box 106 [.vs 6 (mM enc_Def y1.2.1), .vs 1 (mLI y1.2.2)])]) ?_ (fun v2 hz => ?_)
  ·refine vB ?_
   refine v_fuel (S := Int × Int) (fun u => [(0, .ptr 1000000 0 0), (1, .int .i64 from_), (5, .vs 1 (mI y1.1)), (6, .sl 1 2000015 (((q1.2 ++ [x1.Name])).length) 0 (((q1.2 ++ [x1.Name])).length)), (8, .int .i64 u.1), (32, .vs 1 (mI x2)), (33, .int .i64 (List.length x2 : Int)), (34, .int .i64 u.2)]) (fun u => [(2000015, .row 9 1 0 (mS (q1.2 ++ [x1.Name]))), (1000000, .box 106 [.vs 6 (mM enc_Def y1.2.1), .vs 1 (mLI y1.2.2)])]) (s_define_graph_circle_L2 y1 x2) (fun _ => rfl) KK ((-1), 0) hs (cut_of [0, 1, 5, 6, 8, 32, 33, 34] [2000015, 1000000] kr kr kr) (fun K2 q2 hs => ?_)
   rw [s_define_graph_circle_L2] at hs
   show WpV cK0 Tryz.prog none 67 _ _ [(0, .ptr 1000000 0 0), (1, .int .i64 from_), (5, .vs 1 (mI y1.1)), (6, .sl 1 2000015 (((q1.2 ++ [x1.Name])).length) 0 (((q1.2 ++ [x1.Name])).length)), (8, .int .i64 q2.1), (32, .vs 1 (mI x2)), (33, .int .i64 (List.length x2 : Int)), (34, .int .i64 q2.2)] [(2000015, .row 9 1 0 (mS (q1.2 ++ [x1.Name]))), (1000000, .box 106 [.vs 6 (mM enc_Def y1.2.1), .vs 1 (mLI y1.2.2)])] []
   refine vS (vT (oR 1 [(35, .bool (decide (q2.2 < (List.length x2 : Int))))] kr ?_))
   refine oN (nT (vS ?_))
   refine v_cond (decide (q2.2 < (List.length x2 : Int))) kr (fun h1 => ?_) (fun h1 => ?_)
   ·replace hs := bif_t h1 hs
    refine vK (nT (vS (vB (vS (vT ?_)))))
    obtain ⟨x3, g4, hs⟩ := bS hs; obtain ⟨g4a, g4b, g4c⟩ := idx_some g4
    refine oP (v := .vp [.int .i64 x3] 0) kr kr (loc_indexVs (e := 3) (sz := 1) (k := .i64) (els := (mI x2)) (cs := (EV.encI x3)) kr kr kr g4a (by rw [g4c]; exact map_get _ (by omega))) ?_
    refine oR 2 [(10, .int .i64 x3), (37, .int .i64 x3)] kr ?_
    refine oN (nT (vS ?_))
    obtain ⟨z3, hs, hk3⟩ := bS hs
    refine v_join (S := Bool) (fun u => u = z3) (fun u => [(0, .ptr 1000000 0 0), (1, .int .i64 from_), (5, .vs 1 (mI y1.1)), (6, .sl 1 2000015 (((q1.2 ++ [x1.Name])).length) 0 (((q1.2 ++ [x1.Name])).length)), (8, .int .i64 q2.1), (10, .int .i64 x3), (32, .vs 1 (mI x2)), (33, .int .i64 (List.length x2 : Int)), (34, .int .i64 q2.2), (57, .bool u)]) (fun u => [(2000015, .row 9 1 0 (mS (q1.2 ++ [x1.Name]))), (1000000, .box 106 [.vs 6 (mM enc_Def y1.2.1), .vs 1 (mLI y1.2.2)])]) ?_ (fun v3 hz => ?_)
    ·refine v_draw mixedH kr ?_
     refine d_runs 2 0 [(39, .int .i64 x3), (38, .vs 1 (mI y1.1))] (pfp 2 1) kr kr ?_
     obtain ⟨x4, g5, hs⟩ := bS hs; obtain ⟨g5a, g5b, g5c⟩ := idx_some g5
     refine d_pure (v := .vp [.int .i64 x4] 0) 2 rfl rfl rfl rfl kr kr (loc_indexVs (e := 3) (sz := 1) (k := .i64) (els := (mI y1.1)) (cs := (EV.encI x4)) kr kr kr g5a (by rw [g5c]; exact map_get _ (by omega))) ?_
     refine d_runs 3 3 [(43, .bool (decide (x4 ≥ 0))), (42, .bool (decide (x4 ≥ 0))), (41, .int .i64 x4)] (pfp 3 5) kr kr ?_
     cases h2 : ((decide (x4 ≥ 0)))
     ·replace hs := bif_f h2 hs
      refine d_runs 14 6 [(57, .bool false), (56, .no), (55, .no), (54, .no), (53, .no), (52, .no), (51, .no), (50, .no), (49, .no), (48, .no), (47, .no), (46, .no), (45, .no), (44, .no)] (pfp 14 19) kr kr ?_
      refine d_nil kr ?_
      cases hs
      refine nrm_join false rfl ?_
      exact cut_of [0, 1, 5, 6, 8, 10, 32, 33, 34, 57] [2000015, 1000000] kr kr kr
     ·replace hs := bif_t h2 hs
      refine d_runs 3 6 [(46, .bool (decide (q2.1 < 0))), (45, .bool (decide (q2.1 < 0))), (44, .int .i64 q2.1)] (pfp 3 8) kr kr ?_
      cases h3 : ((decide (q2.1 < 0)))
      ·replace hs := bif_f h3 hs
       refine d_runs 2 9 [(48, .int .i64 x3), (47, .vs 1 (mI y1.1))] (pfp 2 10) kr kr ?_
       obtain ⟨x5, g6, hs⟩ := bS hs; obtain ⟨g6a, g6b, g6c⟩ := idx_some g6
       refine d_pure (v := .vp [.int .i64 x5] 0) 11 rfl rfl rfl rfl kr kr (loc_indexVs (e := 3) (sz := 1) (k := .i64) (els := (mI y1.1)) (cs := (EV.encI x5)) kr kr kr g6a (by rw [g6c]; exact map_get _ (by omega))) ?_
       refine d_runs 3 12 [(52, .int .i64 q2.1), (51, .vs 1 (mI y1.1)), (50, .int .i64 x5)] (pfp 3 14) kr kr ?_
       obtain ⟨x6, g7, hs⟩ := bS hs; obtain ⟨g7a, g7b, g7c⟩ := idx_some g7
       refine d_pure (v := .vp [.int .i64 x6] 0) 15 rfl rfl rfl rfl kr kr (loc_indexVs (e := 3) (sz := 1) (k := .i64) (els := (mI y1.1)) (cs := (EV.encI x6)) kr kr kr g7a (by rw [g7c]; exact map_get _ (by omega))) ?_
       refine d_runs 4 16 [(57, .bool (decide (x5 < x6))), (56, .bool (decide (x5 < x6))), (55, .bool (decide (x5 < x6))), (54, .int .i64 x6)] (pfp 4 19) kr kr ?_
       refine d_nil kr ?_
       obtain rfl := si hs
       refine nrm_join (decide (x5 < x6)) rfl ?_
       exact cut_of [0, 1, 5, 6, 8, 10, 32, 33, 34, 57] [2000015, 1000000] kr kr kr
      ·replace hs := bif_t h3 hs
       refine d_runs 11 9 [(57, .bool true), (56, .bool true), (55, .no), (54, .no), (53, .no), (52, .no), (51, .no), (50, .no), (49, .no), (48, .no), (47, .no)] (pfp 11 19) kr kr ?_
       refine d_nil kr ?_
       cases hs
       refine nrm_join true rfl ?_
       exact cut_of [0, 1, 5, 6, 8, 10, 32, 33, 34, 57] [2000015, 1000000] kr kr kr
    ·subst hz; clear hs; have hs := hk3; clear hk3
     refine nT ?_
     obtain ⟨z4, hs, hk4⟩ := bS hs
     refine v_join (S := Int) (fun u => u = z4) (fun u => [(0, .ptr 1000000 0 0), (1, .int .i64 from_), (5, .vs 1 (mI y1.1)), (6, .sl 1 2000015 (((q1.2 ++ [x1.Name])).length) 0 (((q1.2 ++ [x1.Name])).length)), (8, .int .i64 u), (32, .vs 1 (mI x2)), (33, .int .i64 (List.length x2 : Int)), (34, .int .i64 q2.2)]) (fun u => [(2000015, .row 9 1 0 (mS (q1.2 ++ [x1.Name]))), (1000000, .box 106 [.vs 6 (mM enc_Def y1.2.1), .vs 1 (mLI y1.2.2)])]) ?_ (fun v4 hz => ?_)
     ·refine v_cond v3 kr (fun h4 => ?_) (fun h4 => ?_)
      ·replace hs := bif_t h4 hs
       refine vT (oR 2 [(8, .int .i64 x3), (58, .int .i64 x3)] kr ?_)
       refine oN ?_
       obtain rfl := si hs
       refine nrm_join x3 rfl ?_
       exact cut_of [0, 1, 5, 6, 8, 32, 33, 34] [2000015, 1000000] kr kr kr
      ·replace hs := bif_f h4 hs
       refine vK ?_
       obtain rfl := si hs
       refine nrm_join q2.1 rfl ?_
       exact cut_of [0, 1, 5, 6, 8, 32, 33, 34] [2000015, 1000000] kr kr kr
     ·subst hz; clear hs; have hs := hk4; clear hk4
      refine nB (nT (vT (oR 2 [(34, .int .i64 (w64 (q2.2 + 1))), (59, .int .i64 (w64 (q2.2 + 1)))] kr ?_)))
      refine oN (nrm_fuel (v4, (w64 (q2.2 + 1))) hs ?_)
      exact cut_of [0, 1, 5, 6, 8, 32, 33, 34] [2000015, 1000000] kr kr kr
   ·replace hs := bif_f h1 hs
    refine v_exit (exit_thenV (exit_fuel ?_))
    refine exit_blkV ?_
    obtain rfl := si hs
    refine nrm_join q2.1 rfl ?_
    exact cut_of [0, 1, 5, 6, 8] [2000015, 1000000] kr kr kr
  ·subst hz; clear hs; have hs := hk2; clear hk2
   refine nT (vS (vS (vT (oR 2 [(61, .bool (decide (v2 < 0))), (60, .int .i64 v2)] kr ?_))))
   refine oN (nT ?_)
   refine v_cond (decide (v2 < 0)) kr (fun h5 => ?_) (fun h5 => ?_)
   ·replace hs := bif_t h5 hs
    refine vS (vT (oR 1 [(4, .nils)] kr ?_))
    refine oN (nT (v_to ((4, nz 1 (mS [])) :: _) _ (cut_view (t := 4) (v := nz 1 (mS [])) [] [] rfl rfl (.weak (nz_nil rfl))) ?_))
    refine v_ret (rT (rB (ret_fuel ?_)))
    refine rB (ret_join ?_)
    obtain rfl := si hs
    replace hs := hk1
    cases hs
    exact fin_ret kr kr kr
   ·replace hs := bif_f h5 hs
    refine vK (nT (vS (vS (vT (oR 3 [(64, .bool (decide (v2 = from_))), (63, .int .i64 from_), (62, .int .i64 v2)] kr ?_)))))
    refine oN (nT ?_)
    refine v_cond (decide (v2 = from_)) kr (fun h6 => ?_) (fun h6 => ?_)
    ·replace hs := bif_t h6 hs
     refine vS (vT (oR 2 [(4, .sl 1 2000015 (((q1.2 ++ [x1.Name])).length) 0 (((q1.2 ++ [x1.Name])).length)), (65, .sl 1 2000015 (((q1.2 ++ [x1.Name])).length) 0 (((q1.2 ++ [x1.Name])).length))] kr ?_))
     refine oN (nT (v_to _ [(2000015, .row 9 1 (((mS (q1.2 ++ [x1.Name]))).length) (mS (q1.2 ++ [x1.Name]))), (1000000, .box 106 [.vs 6 (mM enc_Def y1.2.1), .vs 1 (mLI y1.2.2)])] (cut_freeze (F := [(2000015, .row 9 1 0 (mS (q1.2 ++ [x1.Name])))]) [2000015] rfl kr kr) ?_))
     refine v_to ((4, .vs 1 (mS (q1.2 ++ [x1.Name]))) :: _) _ (cut_view (R := [(2000015, .row 9 1 (((mS (q1.2 ++ [x1.Name]))).length) (mS (q1.2 ++ [x1.Name])))]) (ks := [2000015]) kr kr (.row (t := 9) (fz := (((mS (q1.2 ++ [x1.Name]))).length)) kr lh)) ?_
     obtain ⟨_, g8, hs⟩ := bS hs; replace g8 := grd_some g8
     refine v_to ((4, nz 1 (mS (q1.2 ++ [x1.Name]))) :: _) _ (cut_view (t := 4) (v := nz 1 (mS (q1.2 ++ [x1.Name]))) [] [] rfl rfl (.weak (nz_map g8))) ?_
     refine v_ret (rT (rB (ret_fuel ?_)))
     refine rB (ret_join ?_)
     obtain rfl := si hs
     replace hs := hk1
     cases hs
     exact fin_ret kr kr kr
    ·replace hs := bif_f h6 hs
     refine vK (nT (vT (oR 2 [(7, .int .i64 v2), (66, .int .i64 v2)] kr ?_)))
     refine oN (nB (nrm_fuel (v2, (q1.2 ++ [x1.Name])) hs ?_))
     exact cut_of [0, 1, 5, 6, 7] [1000000, 2000015] kr kr kr
 ·exact hz.elim
theorem w_cmp_isNaN (x : Sr) (r : Bool) (hs : s_cmp_isNaN x = some r) : FnA Tryz.prog 85 [.str x] [] (.bool r) [] := by
 refine fnA_of_wp (N := 6) Tryz.func85 rfl rfl rfl fun cK0 => ?_
 unfold s_cmp_isNaN at hs
 refine v_same (ρ' := [(0, .str x)]) rfl rfl ?_
 refine vS (vT (oR 1 [(2, .bool false)] kr ?_))
 refine oN (nT (vS (vT (oR 4 [(2, .bool (!(decide (x = x)))), (5, .bool (!(decide (x = x)))), (4, .str x), (3, .str x)] kr ?_))))
 refine oN (nT (v_ret ?_))
 cases hs
 exact fin_ret kr kr kr
theorem w_cmp_Compare (x : Sr) (y : Sr) (r : Int) (hs : s_cmp_Compare x y = some r) : FnA Tryz.prog 77 [.str x, .str y] [] (.int .i64 r) [] := by
 refine fnA_of_wp (N := 20) Tryz.func77 rfl rfl rfl fun cK0 => ?_
 unfold s_cmp_Compare at hs
 refine v_same (ρ' := [(0, .str x), (1, .str y)]) rfl rfl ?_
 refine vS (vT (oR 1 [(4, .int .i64 0)] kr ?_))
 refine oN (nT (vS (vT (oR 1 [(7, .str x)] kr ?_))))
 obtain ⟨y1, c1, hs⟩ := bS hs
 refine oP (v := .bool y1) kr kr (loc_gcall0 (callV_func hbv85 kr) (w_cmp_isNaN x _ c1) kr) ?_
 refine oR 1 [(5, .bool y1)] kr ?_
 refine oN (nT (vS (vT (oR 1 [(9, .str y)] kr ?_))))
 obtain ⟨y2, c2, hs⟩ := bS hs
 refine oP (v := .bool y2) kr kr (loc_gcall0 (callV_func hbv85 kr) (w_cmp_isNaN y _ c2) kr) ?_
 refine oR 1 [(6, .bool y2)] kr ?_
 refine oN (nT (vS (vS (vT (oR 1 [(11, .bool y1)] kr ?_)))))
 refine oN (nT ?_)
 refine v_cond y1 kr (fun h1 => ?_) (fun h1 => ?_)
 ·replace hs := bif_t h1 hs
  refine vS (vS (vT (oR 1 [(12, .bool y2)] kr ?_)))
  refine oN (nT ?_)
  refine v_cond y2 kr (fun h2 => ?_) (fun h2 => ?_)
  ·replace hs := bif_t h2 hs
   refine vS (vT (oR 1 [(4, .int .i64 0)] kr ?_))
   refine oN (nT (v_ret (rT (rT ?_))))
   cases hs
   exact fin_ret kr kr kr
  ·replace hs := bif_f h2 hs
   refine vK (nT (vS (vT (oR 1 [(4, .int .i64 (-1))] kr ?_))))
   refine oN (nT (v_ret (rT ?_)))
   cases hs
   exact fin_ret kr kr kr
 ·replace hs := bif_f h1 hs
  refine vK (nT (vS (vS (vT (oR 1 [(13, .bool y2)] kr ?_)))))
  refine oN (nT ?_)
  refine v_cond y2 kr (fun h3 => ?_) (fun h3 => ?_)
  ·replace hs := bif_t h3 hs
   refine vS (vT (oR 1 [(4, .int .i64 1)] kr ?_))
   refine oN (nT (v_ret (rT ?_)))
   cases hs
   exact fin_ret kr kr kr
  ·replace hs := bif_f h3 hs
   refine vK (nT (vS (vS (vT (oR 3 [(16, .bool (Op.bytesLess x y)), (15, .str y), (14, .str x)] kr ?_)))))
   refine oN (nT ?_)
   refine v_cond (Op.bytesLess x y) kr (fun h4 => ?_) (fun h4 => ?_)
   ·replace hs := bif_t h4 hs
    refine vS (vT (oR 1 [(4, .int .i64 (-1))] kr ?_))
    refine oN (nT (v_ret (rT ?_)))
    cases hs
    exact fin_ret kr kr kr
   ·replace hs := bif_f h4 hs
    refine vK (nT (vS (vS (vT (oR 3 [(19, .bool (!((Op.bytesLess x y) || (decide (x = y))))), (18, .str y), (17, .str x)] kr ?_)))))
    refine oN (nT ?_)
    refine v_cond (!((Op.bytesLess x y) || (decide (x = y)))) kr (fun h5 => ?_) (fun h5 => ?_)
    ·replace hs := bif_t h5 hs
     refine vS (vT (oR 1 [(4, .int .i64 1)] kr ?_))
     refine oN (nT (v_ret (rT ?_)))
     cases hs
     exact fin_ret kr kr kr
    ·replace hs := bif_f h5 hs
     refine vK (nT (vS (vT (oR 1 [(4, .int .i64 0)] kr ?_))))
     refine oN (nT (v_ret ?_))
     cases hs
     exact fin_ret kr kr kr
theorem w_slices_Compare (s1 : (List Sr)) (s2 : (List Sr)) (r : Int) (hs : s_slices_Compare s1 s2 = some r) : FnA Tryz.prog 69 [.vs 1 (mS s1), .vs 1 (mS s2)] [] (.int .i64 r) [] := by
 refine fnA_of_wp (N := 36) Tryz.func69 rfl rfl rfl fun cK0 => ?_
 unfold s_slices_Compare at hs
 refine v_same (ρ' := [(0, .vs 1 (mS s1)), (1, .vs 1 (mS s2))]) rfl rfl ?_
 refine vS (vT (oR 1 [(4, .int .i64 0)] kr ?_))
 refine oN (nT (vS (vS (vT (oR 1 [(9, .vs 1 (mS s1))] kr ?_)))))
 refine oP (v := .int .i64 (List.length s1 : Int)) kr kr (loc_lenVs (sz := 1) (els := (mS s1)) kr kr lM) ?_
 refine oR 1 [(11, .int .i64 0)] kr ?_
 refine oN (nT ?_)
 obtain ⟨z1, hs, hk1⟩ := bS hs
 refine v_join (S := Unit) (fun u => z1 = .inr u) (fun u => [(0, .vs 1 (mS s1)), (1, .vs 1 (mS s2))]) (fun u => []) ?_ (fun v1 hz => ?_)
 ·refine vB ?_
  refine v_fuel (S := Int) (fun u => [(0, .vs 1 (mS s1)), (1, .vs 1 (mS s2)), (9, .vs 1 (mS s1)), (10, .int .i64 (List.length s1 : Int)), (11, .int .i64 u)]) (fun u => []) (s_slices_Compare_L1 s1 s2) (fun _ => rfl) KK 0 hs (cut_of [0, 1, 9, 10, 11] [] kr kr kr) (fun K1 q1 hs => ?_)
  rw [s_slices_Compare_L1] at hs
  show WpV cK0 Tryz.prog none 36 _ _ [(0, .vs 1 (mS s1)), (1, .vs 1 (mS s2)), (9, .vs 1 (mS s1)), (10, .int .i64 (List.length s1 : Int)), (11, .int .i64 q1)] [] []
  refine vS (vT (oR 1 [(12, .bool (decide (q1 < (List.length s1 : Int))))] kr ?_))
  refine oN (nT (vS ?_))
  refine v_cond (decide (q1 < (List.length s1 : Int))) kr (fun h1 => ?_) (fun h1 => ?_)
  ·replace hs := bif_t h1 hs
   refine vK (nT (vS (vB (vS (vT (oR 1 [(13, .int .i64 q1)] kr ?_))))))
   obtain ⟨x1, g1, hs⟩ := bS hs; obtain ⟨g1a, g1b, g1c⟩ := idx_some g1
   refine oP (v := .vp [.str x1] 0) kr kr (loc_indexVs (e := 9) (sz := 1) (k := .i64) (els := (mS s1)) (cs := (EV.encS x1)) kr kr kr g1a (by rw [g1c]; exact map_get _ (by omega))) ?_
   refine oR 3 [(6, .str x1), (5, .int .i64 q1), (15, .str x1)] kr ?_
   refine oN (nT (vS (vS (vT (oR 2 [(17, .vs 1 (mS s2)), (16, .int .i64 q1)] kr ?_)))))
   refine oP (v := .int .i64 (List.length s2 : Int)) kr kr (loc_lenVs (sz := 1) (els := (mS s2)) kr kr lM) ?_
   refine oR 1 [(19, .bool (decide (q1 ≥ (List.length s2 : Int))))] kr ?_
   refine oN (nT ?_)
   refine v_cond (decide (q1 ≥ (List.length s2 : Int))) kr (fun h2 => ?_) (fun h2 => ?_)
   ·replace hs := bif_t h2 hs
    refine vS (vT (oR 1 [(4, .int .i64 1)] kr ?_))
    refine oN (nT (v_ret (rT (rB (rT (ret_fuel ?_))))))
    refine rB (ret_join ?_)
    refine rT ?_
    obtain rfl := si hs
    replace hs := hk1
    cases hs
    exact fin_ret kr kr kr
   ·replace hs := bif_f h2 hs
    refine vK (nT (vS (vT (oR 2 [(21, .int .i64 q1), (20, .vs 1 (mS s2))] kr ?_))))
    obtain ⟨x2, g2, hs⟩ := bS hs; obtain ⟨g2a, g2b, g2c⟩ := idx_some g2
    refine oP (v := .vp [.str x2] 0) kr kr (loc_indexVs (e := 9) (sz := 1) (k := .i64) (els := (mS s2)) (cs := (EV.encS x2)) kr kr kr g2a (by rw [g2c]; exact map_get _ (by omega))) ?_
    refine oR 2 [(7, .str x2), (23, .str x2)] kr ?_
    refine oN (nT (vS (vT (oR 2 [(25, .str x2), (24, .str x1)] kr ?_))))
    obtain ⟨y1, c1, hs⟩ := bS hs
    refine oP (v := .int .i64 y1) kr kr (loc_gcall0 (callV_func hbv77 kr) (w_cmp_Compare x1 x2 _ c1) kr) ?_
    refine oR 1 [(8, .int .i64 y1)] kr ?_
    refine oN (nT (vS (vT (oR 2 [(28, .bool (!(decide (y1 = 0)))), (27, .int .i64 y1)] kr ?_))))
    refine oN (nT ?_)
    refine v_cond (!(decide (y1 = 0))) kr (fun h3 => ?_) (fun h3 => ?_)
    ·replace hs := bif_t h3 hs
     refine vS (vT (oR 2 [(4, .int .i64 y1), (29, .int .i64 y1)] kr ?_))
     refine oN (nT (v_ret (rB (rT (ret_fuel ?_)))))
     refine rB (ret_join ?_)
     refine rT ?_
     obtain rfl := si hs
     replace hs := hk1
     cases hs
     exact fin_ret kr kr kr
    ·replace hs := bif_f h3 hs
     refine vK (nB (nT (vT (oR 2 [(11, .int .i64 (w64 (q1 + 1))), (30, .int .i64 (w64 (q1 + 1)))] kr ?_))))
     refine oN (nrm_fuel (w64 (q1 + 1)) hs ?_)
     exact cut_of [0, 1, 9, 10, 11] [] kr kr kr
  ·replace hs := bif_f h1 hs
   refine v_exit (exit_thenV (exit_fuel ?_))
   refine exit_blkV ?_
   cases hs
   refine nrm_join () rfl ?_
   exact cut_of [0, 1] [] kr kr kr
 ·subst hz; clear hs; have hs := hk1; clear hk1
  refine nT (vS (vS (vT (oR 1 [(31, .vs 1 (mS s1))] kr ?_))))
  refine oP (v := .int .i64 (List.length s1 : Int)) kr kr (loc_lenVs (sz := 1) (els := (mS s1)) kr kr lM) ?_
  refine oR 1 [(33, .vs 1 (mS s2))] kr ?_
  refine oP (v := .int .i64 (List.length s2 : Int)) kr kr (loc_lenVs (sz := 1) (els := (mS s2)) kr kr lM) ?_
  refine oR 1 [(35, .bool (decide ((List.length s1 : Int) < (List.length s2 : Int))))] kr ?_
  refine oN (nT ?_)
  refine v_cond (decide ((List.length s1 : Int) < (List.length s2 : Int))) kr (fun h4 => ?_) (fun h4 => ?_)
  ·replace hs := bif_t h4 hs
   refine vS (vT (oR 1 [(4, .int .i64 (-1))] kr ?_))
   refine oN (nT (v_ret (rT ?_)))
   cases hs
   exact fin_ret kr kr kr
  ·replace hs := bif_f h4 hs
   refine vK (nT (vS (vT (oR 1 [(4, .int .i64 0)] kr ?_))))
   refine oN (nT (v_ret ?_))
   cases hs
   exact fin_ret kr kr kr
theorem w_define_graph_smallest (g_defs : (List Def)) (g_uses : (List (List Int))) (r : (List Sr) × (List Def) × (List (List Int))) (hs : s_define_graph_smallest g_defs g_uses = some r) : FnA Tryz.prog 56 [.ptr 1000000 0 0] [(1000000, .box 106 [.vs 6 (mM enc_Def g_defs), .vs 1 (List.map (encL 1 EV.encI) g_uses)])] (nz 1 (mS r.1)) [(1000000, .box 106 [.vs 6 (mM enc_Def r.2.1), .vs 1 (List.map (encL 1 EV.encI) r.2.2)])] := by
 refine fnA_of_wp (N := 44) Tryz.func56 rfl rfl rfl fun cK0 => ?_
 unfold s_define_graph_smallest at hs
 refine v_same (ρ' := [(0, .ptr 1000000 0 0)]) rfl rfl ?_
 refine vS (vT (oR 1 [(2, .nils)] kr ?_))
 refine oN (nT (vS (vT (oR 1 [(3, .nils)] kr ?_))))
 refine oN (nT (vS (vS (vT (oR 4 [(9, .vs 6 (mM enc_Def g_defs)), (8, .ptr 1000000 0 0), (7, .ptr 1000000 0 0), (6, .ptr 1000000 0 0)] kr ?_)))))
 refine oP (v := .int .i64 (List.length g_defs : Int)) kr kr (loc_lenVs (sz := 6) (els := (mM enc_Def g_defs)) kr kr lM) ?_
 refine oR 1 [(11, .int .i64 0)] kr ?_
 refine oN (nT ?_)
 obtain ⟨z1, hs, hk1⟩ := bS hs
 refine v_join (S := (List Sr) × (List Def) × (List (List Int))) (fun u => u = z1) (fun u => [(3, nz 1 (mS u.1))]) (fun u => [(1000000, .box 106 [.vs 6 (mM enc_Def u.2.1), .vs 1 (mLI u.2.2)])]) ?_ (fun v1 hz => ?_)
 ·refine vB ?_
  refine v_fuel (S := (List Sr) × Int × (List Def) × (List (List Int))) (fun u => [(0, .ptr 1000000 0 0), (3, nz 1 (mS u.1)), (10, .int .i64 (List.length g_defs : Int)), (11, .int .i64 u.2.1)]) (fun u => [(1000000, .box 106 [.vs 6 (mM enc_Def u.2.2.1), .vs 1 (mLI u.2.2.2)])]) (s_define_graph_smallest_L1 g_defs) (fun _ => rfl) KK ([], 0, g_defs, g_uses) hs (Cut.trans (cut_view (t := 3) (v := nz 1 (mS [])) [] [] rfl rfl (.weak (nz_nil rfl))) (cut_of [0, 3, 10, 11] [1000000] kr kr kr)) (fun K1 q1 hs => ?_)
  rw [s_define_graph_smallest_L1] at hs
  show WpV cK0 Tryz.prog none 44 _ _ [(0, .ptr 1000000 0 0), (3, nz 1 (mS q1.1)), (10, .int .i64 (List.length g_defs : Int)), (11, .int .i64 q1.2.1)] [(1000000, .box 106 [.vs 6 (mM enc_Def q1.2.2.1), .vs 1 (mLI q1.2.2.2)])] []
  refine vS (vT (oR 1 [(12, .bool (decide (q1.2.1 < (List.length g_defs : Int))))] kr ?_))
  refine oN (nT (vS ?_))
  refine v_cond (decide (q1.2.1 < (List.length g_defs : Int))) kr (fun h1 => ?_) (fun h1 => ?_)
  ·replace hs := bif_t h1 hs
   refine vK (nT (vS ?_))
   obtain ⟨z2, hs, hk2⟩ := bS hs
   refine v_join (S := (List Sr) × (List Def) × (List (List Int))) (fun u => u = z2) (fun u => [(0, .ptr 1000000 0 0), (3, nz 1 (mS u.1)), (10, .int .i64 (List.length g_defs : Int)), (11, .int .i64 q1.2.1)]) (fun u => [(1000000, .box 106 [.vs 6 (mM enc_Def u.2.1), .vs 1 (mLI u.2.2)])]) ?_ (fun v2 hz => ?_)
   ·refine vB (vS (vT (oR 2 [(4, .int .i64 q1.2.1), (13, .int .i64 q1.2.1)] kr ?_)))
    refine oN (nT (vS (vT (oR 2 [(15, .int .i64 q1.2.1), (14, .ptr 1000000 0 0)] kr ?_))))
    obtain ⟨y1, c1, hs⟩ := bS hs
    refine o_loc (F := [(1000000, .box 106 [.vs 6 (mM enc_Def q1.2.2.1), .vs 1 (mLI q1.2.2.2)])]) (F' := [(1000000, .box 106 [.vs 6 (mM enc_Def y1.2.1), .vs 1 (mLI y1.2.2)])]) (v := nz 1 (mS y1.1)) [1000000] kr kr rfl kr (loc_g (R := []) [.ptr 1000000 0 0, .int .i64 q1.2.1] [(1000000, 1000000)] (callV_func hbv68 kr) (w_define_graph_circle q1.2.2.1 q1.2.2.2 q1.2.1 _ c1) (.cons (.same _) (.cons (.same _) (.nil))) kr kr kr kr kr kr kr kr) kr ?_
    refine oR 1 [(5, nz 1 (mS y1.1))] kr ?_
    refine oN (nT (vS (vS (vT (oR 1 [(17, nz 1 (mS y1.1))] kr ?_)))))
    refine oP (v := .bool (List.isEmpty y1.1)) kr kr (loc_isNilZ (sz := 1) (els := (mS y1.1)) (b := (List.isEmpty y1.1)) kr kr kr (by cases (y1.1 : List _) <;> rfl)) ?_
    refine oN (nT ?_)
    refine v_cond (List.isEmpty y1.1) kr (fun h2 => ?_) (fun h2 => ?_)
    ·replace hs := bif_t h2 hs
     refine v_exit (exit_thenV (exit_blkV ?_))
     obtain rfl := si hs
     refine nrm_join (q1.1, y1.2.1, y1.2.2) rfl ?_
     exact cut_of [0, 3, 10, 11] [1000000] kr kr kr
    ·replace hs := bif_f h2 hs
     refine vK (nT (vS ?_))
     obtain ⟨z3, hs, hk3⟩ := bS hs
     refine v_join (S := (List Sr) × (List Sr) × Bool) (fun u => u = z3) (fun u => [(0, .ptr 1000000 0 0), (3, nz 1 (mS u.1)), (5, nz 1 (mS u.2.1)), (10, .int .i64 (List.length g_defs : Int)), (11, .int .i64 q1.2.1), (40, .bool u.2.2)]) (fun u => [(1000000, .box 106 [.vs 6 (mM enc_Def y1.2.1), .vs 1 (mLI y1.2.2)])]) ?_ (fun v3 hz => ?_)
     ·refine vT (oR 1 [(19, nz 1 (mS q1.1))] kr ?_)
      refine oP (v := .bool (List.isEmpty q1.1)) kr kr (loc_isNilZ (sz := 1) (els := (mS q1.1)) (b := (List.isEmpty q1.1)) kr kr kr (by cases (q1.1 : List _) <;> rfl)) ?_
      refine oR 1 [(21, .bool (List.isEmpty q1.1))] kr ?_
      cases h3 : ((List.isEmpty q1.1))
      ·replace hs := bif_f h3 hs
       refine oR 1 [(22, nz 1 (mS y1.1))] kr ?_
       refine oP (v := .int .i64 (List.length y1.1 : Int)) kr kr (loc_lenZ (sz := 1) (els := (mS y1.1)) kr kr lM) ?_
       refine oR 1 [(24, nz 1 (mS q1.1))] kr ?_
       refine oP (v := .int .i64 (List.length q1.1 : Int)) kr kr (loc_lenZ (sz := 1) (els := (mS q1.1)) kr kr lM) ?_
       refine oR 3 [(28, .bool (decide ((List.length y1.1 : Int) < (List.length q1.1 : Int)))), (27, .bool (decide ((List.length y1.1 : Int) < (List.length q1.1 : Int)))), (26, .bool (decide ((List.length y1.1 : Int) < (List.length q1.1 : Int))))] kr ?_
       cases h4 : ((decide ((List.length y1.1 : Int) < (List.length q1.1 : Int))))
       ·replace hs := bif_f h4 hs
        refine oR 1 [(29, nz 1 (mS y1.1))] kr ?_
        refine oP (v := .int .i64 (List.length y1.1 : Int)) kr kr (loc_lenZ (sz := 1) (els := (mS y1.1)) kr kr lM) ?_
        refine oR 1 [(31, nz 1 (mS q1.1))] kr ?_
        refine oP (v := .int .i64 (List.length q1.1 : Int)) kr kr (loc_lenZ (sz := 1) (els := (mS q1.1)) kr kr lM) ?_
        refine oR 2 [(34, .bool (decide ((List.length y1.1 : Int) = (List.length q1.1 : Int)))), (33, .bool (decide ((List.length y1.1 : Int) = (List.length q1.1 : Int))))] kr ?_
        cases h5 : ((decide ((List.length y1.1 : Int) = (List.length q1.1 : Int))))
        ·replace hs := bif_f h5 hs
         refine oR 6 [(40, .bool false), (39, .bool false), (38, .no), (37, .no), (36, .no), (35, .no)] kr ?_
         refine oN ?_
         obtain rfl := si hs
         refine nrm_join (q1.1, y1.1, false) rfl ?_
         exact cut_of [0, 3, 5, 10, 11, 40] [1000000] kr kr kr
        ·replace hs := bif_t h5 hs
         refine oR 2 [(36, nz 1 (mS q1.1)), (35, nz 1 (mS y1.1))] kr ?_
         obtain ⟨y2, c2, hs⟩ := bS hs
         refine o_loc (F := []) (F' := []) (v := .int .i64 y2) [] kr kr rfl kr (loc_gcallB (vs := [nz 1 (mS y1.1), nz 1 (mS q1.1)]) (R := []) (callV_func hbv69 kr) (w_slices_Compare y1.1 q1.1 _ c2) (.cons (.nz _ _) (.cons (.nz _ _) (.nil))) kr kr kr) kr ?_
         refine oR 3 [(40, .bool (decide (y2 < 0))), (39, .bool (decide (y2 < 0))), (38, .bool (decide (y2 < 0)))] kr ?_
         refine oN ?_
         obtain rfl := si hs
         refine nrm_join (q1.1, y1.1, (decide (y2 < 0))) rfl ?_
         exact cut_of [0, 3, 5, 10, 11, 40] [1000000] kr kr kr
       ·replace hs := bif_t h4 hs
        refine oR 12 [(40, .bool true), (39, .no), (38, .no), (37, .no), (36, .no), (35, .no), (34, .no), (33, .no), (32, .no), (31, .no), (30, .no), (29, .no)] kr ?_
        refine oN ?_
        obtain rfl := si hs
        refine nrm_join (q1.1, y1.1, true) rfl ?_
        exact cut_of [0, 3, 5, 10, 11, 40] [1000000] kr kr kr
      ·replace hs := bif_t h3 hs
       refine oR 19 [(40, .bool true), (39, .no), (38, .no), (37, .no), (36, .no), (35, .no), (34, .no), (33, .no), (32, .no), (31, .no), (30, .no), (29, .no), (28, .bool true), (27, .bool true), (26, .no), (25, .no), (24, .no), (23, .no), (22, .no)] kr ?_
       refine oN ?_
       obtain rfl := si hs
       refine nrm_join (q1.1, y1.1, true) rfl ?_
       exact cut_of [0, 3, 5, 10, 11, 40] [1000000] kr kr kr
     ·subst hz; clear hs; have hs := hk3; clear hk3
      refine nT ?_
      obtain ⟨z4, hs, hk4⟩ := bS hs
      refine v_join (S := (List Sr)) (fun u => u = z4) (fun u => [(0, .ptr 1000000 0 0), (3, nz 1 (mS u)), (10, .int .i64 (List.length g_defs : Int)), (11, .int .i64 q1.2.1)]) (fun u => [(1000000, .box 106 [.vs 6 (mM enc_Def y1.2.1), .vs 1 (mLI y1.2.2)])]) ?_ (fun v4 hz => ?_)
      ·refine v_cond v3.2.2 kr (fun h6 => ?_) (fun h6 => ?_)
       ·replace hs := bif_t h6 hs
        refine vT (oR 2 [(3, nz 1 (mS v3.2.1)), (41, nz 1 (mS v3.2.1))] kr ?_)
        refine oN ?_
        obtain rfl := si hs
        refine nrm_join v3.2.1 rfl ?_
        exact cut_of [0, 3, 10, 11] [1000000] kr kr kr
       ·replace hs := bif_f h6 hs
        refine vK ?_
        obtain rfl := si hs
        refine nrm_join v3.1 rfl ?_
        exact cut_of [0, 3, 10, 11] [1000000] kr kr kr
      ·subst hz; clear hs; have hs := hk4; clear hk4
       refine nB ?_
       obtain rfl := si hs
       refine nrm_join (v4, y1.2.1, y1.2.2) rfl ?_
       exact cut_of [0, 3, 10, 11] [1000000] kr kr kr
   ·subst hz; clear hs; have hs := hk2; clear hk2
    refine nT (vT (oR 2 [(11, .int .i64 (w64 (q1.2.1 + 1))), (42, .int .i64 (w64 (q1.2.1 + 1)))] kr ?_))
    refine oN (nrm_fuel (v2.1, (w64 (q1.2.1 + 1)), v2.2.1, v2.2.2) hs ?_)
    exact cut_of [0, 3, 10, 11] [1000000] kr kr kr
  ·replace hs := bif_f h1 hs
   refine v_exit (exit_thenV (exit_fuel ?_))
   refine exit_blkV ?_
   obtain rfl := si hs
   refine nrm_join (q1.1, q1.2.2.1, q1.2.2.2) rfl ?_
   exact cut_of [3] [1000000] kr kr kr
 ·subst hz; clear hs; have hs := hk1; clear hk1
  refine nT (vS (vT (oR 2 [(2, nz 1 (mS v1.1)), (43, nz 1 (mS v1.1))] kr ?_)))
  refine oN (nT (v_ret ?_))
  cases hs
  exact fin_ret kr kr kr
theorem w_define_graph_order_1 (k : Int) (a1 : (List Bool)) (r : Bool × (List Bool)) (hs : s_define_graph_order_1 k a1 = some r) : FnA Tryz.prog 71 [.int .i64 k, .ptr 1000000 0 0] [(1000000, .box 93 [.sl 1 1000001 ((a1).length) 0 ((a1).length)]), (1000001, .row 4 1 0 (mB a1))] (.bool r.1) [(1000001, .row 4 1 0 (mB r.2)), (1000000, .box 93 [.sl 1 1000001 ((r.2).length) 0 ((r.2).length)])] := by
 refine fnA_of_wp (N := 9) Tryz.func71 rfl rfl rfl fun cK0 => ?_
 unfold s_define_graph_order_1 at hs
 refine v_same (ρ' := [(0, .int .i64 k), (1, .ptr 1000000 0 0)]) rfl rfl ?_
 refine vS (vT (oR 1 [(3, .bool false)] kr ?_))
 refine oN (nT (vS (vT (oR 2 [(5, .int .i64 k), (4, .sl 1 1000001 ((a1).length) 0 ((a1).length))] kr ?_))))
 obtain ⟨⟨g1a, g1b⟩, hs⟩ := bG hs
 refine oP (v := .ptr 1000001 ((a1).length) ((Int.toNat k) * 1 + 0)) kr kr (loc_indexRowT (e := 4) (sz := 1) (kk := 1000001) (L := (a1).length) (n := (a1).length) (k := .i64) (i := k) kr kr kr g1a g1b) ?_
 obtain ⟨e1, he1, hs⟩ := bE hs
 refine o_loc (F := [(1000001, .row 4 1 0 (mB a1))]) (F' := [(1000001, .row 4 1 0 (mB a1))]) (v := .bool e1) [1000001] kr kr rfl kr (loc_loadRow (L := (a1).length) (off := (Int.toNat k) * 1 + 0) (els := (mB a1)) (cs := [.bool e1]) (Int.toNat k) 0 kr lh rfl (by rw [← he1]; exact map_get _ (by first | omega | (simp only [List.length_set, cpyT_length]; omega))) kr) kr ?_
 refine oR 2 [(3, .bool (!e1)), (8, .bool (!e1))] kr ?_
 refine oN (nT (v_ret ?_))
 cases hs
 exact fin_ret kr kr kr
theorem w_slices_IndexFunc (s : (List Int)) (k : (List Bool)) (r : Int × (List Bool)) (hs : s_slices_IndexFunc s k = some r) : FnA Tryz.prog 78 [.vs 1 (mI s), .fn 71 [] [.ptr 1000000 0 0]] [(1000000, .box 93 [.sl 1 1000001 ((k).length) 0 ((k).length)]), (1000001, .row 4 1 0 (mB k))] (.int .i64 r.1) [(1000001, .row 4 1 0 (mB r.2)), (1000000, .box 93 [.sl 1 1000001 ((r.2).length) 0 ((r.2).length)])] := by
 refine fnA_of_wp (N := 19) Tryz.func78 rfl rfl rfl fun cK0 => ?_
 unfold s_slices_IndexFunc at hs
 refine v_same (ρ' := [(0, .vs 1 (mI s)), (1, .fn 71 [] [.ptr 1000000 0 0])]) rfl rfl ?_
 refine vS (vT (oR 1 [(4, .int .i64 0)] kr ?_))
 refine oN (nT (vS (vS (vT (oR 1 [(6, .vs 1 (mI s))] kr ?_)))))
 refine oP (v := .int .i64 (List.length s : Int)) kr kr (loc_lenVs (sz := 1) (els := (mI s)) kr kr lM) ?_
 refine oR 1 [(8, .int .i64 0)] kr ?_
 refine oN (nT ?_)
 obtain ⟨z1, hs, hk1⟩ := bS hs
 refine v_join (S := (List Bool)) (fun u => z1 = .inr u) (fun u => []) (fun u => [(1000000, .box 93 [.sl 1 1000001 ((u).length) 0 ((u).length)]), (1000001, .row 4 1 0 (mB u))]) ?_ (fun v1 hz => ?_)
 ·refine vB ?_
  refine v_fuel (S := Int × (List Bool)) (fun u => [(0, .vs 1 (mI s)), (1, .fn 71 [] [.ptr 1000000 0 0]), (7, .int .i64 (List.length s : Int)), (8, .int .i64 u.1)]) (fun u => [(1000000, .box 93 [.sl 1 1000001 ((u.2).length) 0 ((u.2).length)]), (1000001, .row 4 1 0 (mB u.2))]) (s_slices_IndexFunc_L1 s) (fun _ => rfl) KK (0, k) hs (cut_of [0, 1, 7, 8] [1000000, 1000001] kr kr kr) (fun K1 q1 hs => ?_)
  rw [s_slices_IndexFunc_L1] at hs
  show WpV cK0 Tryz.prog none 19 _ _ [(0, .vs 1 (mI s)), (1, .fn 71 [] [.ptr 1000000 0 0]), (7, .int .i64 (List.length s : Int)), (8, .int .i64 q1.1)] [(1000000, .box 93 [.sl 1 1000001 ((q1.2).length) 0 ((q1.2).length)]), (1000001, .row 4 1 0 (mB q1.2))] []
  refine vS (vT (oR 1 [(9, .bool (decide (q1.1 < (List.length s : Int))))] kr ?_))
  refine oN (nT (vS ?_))
  refine v_cond (decide (q1.1 < (List.length s : Int))) kr (fun h1 => ?_) (fun h1 => ?_)
  ·replace hs := bif_t h1 hs
   refine vK (nT (vS (vB (vS (vT (oR 2 [(5, .int .i64 q1.1), (10, .int .i64 q1.1)] kr ?_))))))
   refine oN (nT (vS (vT (oR 3 [(13, .int .i64 q1.1), (12, .vs 1 (mI s)), (11, .fn 71 [] [.ptr 1000000 0 0])] kr ?_))))
   obtain ⟨x1, g1, hs⟩ := bS hs; obtain ⟨g1a, g1b, g1c⟩ := idx_some g1
   refine oP (v := .vp [.int .i64 x1] 0) kr kr (loc_indexVs (e := 3) (sz := 1) (k := .i64) (els := (mI s)) (cs := (EV.encI x1)) kr kr kr g1a (by rw [g1c]; exact map_get _ (by omega))) ?_
   refine oR 1 [(15, .int .i64 x1)] kr ?_
   obtain ⟨y1, c1, hs⟩ := bS hs
   refine o_loc (F := [(1000000, .box 93 [.sl 1 1000001 ((q1.2).length) 0 ((q1.2).length)]), (1000001, .row 4 1 0 (mB q1.2))]) (F' := [(1000001, .row 4 1 0 (mB y1.2)), (1000000, .box 93 [.sl 1 1000001 ((y1.2).length) 0 ((y1.2).length)])]) (v := .bool y1.1) [1000000, 1000001] kr kr rfl kr (loc_g (R := []) [.int .i64 x1, .ptr 1000000 0 0] [(1000000, 1000000), (1000001, 1000001)] (callV_val (first := []) (caps := [.ptr 1000000 0 0]) hbv71 kr kr) (w_define_graph_order_1 x1 q1.2 _ c1) (.cons (.same _) (.cons (.same _) (.nil))) kr kr kr kr kr kr kr kr) kr ?_
   refine oN (nT ?_)
   refine v_cond y1.1 kr (fun h2 => ?_) (fun h2 => ?_)
   ·replace hs := bif_t h2 hs
    refine vS (vT (oR 2 [(4, .int .i64 q1.1), (17, .int .i64 q1.1)] kr ?_))
    refine oN (nT (v_ret (rB (rT (ret_fuel ?_)))))
    refine rB (ret_join ?_)
    refine rT ?_
    obtain rfl := si hs
    replace hs := hk1
    cases hs
    exact fin_ret kr kr kr
   ·replace hs := bif_f h2 hs
    refine vK (nB (nT (vT (oR 2 [(8, .int .i64 (w64 (q1.1 + 1))), (18, .int .i64 (w64 (q1.1 + 1)))] kr ?_))))
    refine oN (nrm_fuel ((w64 (q1.1 + 1)), y1.2) hs ?_)
    exact cut_of [0, 1, 7, 8] [1000000, 1000001] kr kr kr
  ·replace hs := bif_f h1 hs
   refine v_exit (exit_thenV (exit_fuel ?_))
   refine exit_blkV ?_
   obtain rfl := si hs
   refine nrm_join q1.2 rfl ?_
   exact cut_of [] [1000000, 1000001] kr kr kr
 ·subst hz; clear hs; have hs := hk1; clear hk1
  refine nT (vS (vT (oR 1 [(4, .int .i64 (-1))] kr ?_)))
  refine oN (nT (v_ret ?_))
  cases hs
  exact fin_ret kr kr kr
theorem w_slices_ContainsFunc (s : (List Int)) (k : (List Bool)) (r : Bool × (List Bool)) (hs : s_slices_ContainsFunc s k = some r) : FnA Tryz.prog 70 [.vs 1 (mI s), .fn 71 [] [.ptr 1000000 0 0]] [(1000000, .box 93 [.sl 1 1000001 ((k).length) 0 ((k).length)]), (1000001, .row 4 1 0 (mB k))] (.bool r.1) [(1000001, .row 4 1 0 (mB r.2)), (1000000, .box 93 [.sl 1 1000001 ((r.2).length) 0 ((r.2).length)])] := by
 refine fnA_of_wp (N := 9) Tryz.func70 rfl rfl rfl fun cK0 => ?_
 unfold s_slices_ContainsFunc at hs
 refine v_same (ρ' := [(0, .vs 1 (mI s)), (1, .fn 71 [] [.ptr 1000000 0 0])]) rfl rfl ?_
 refine vS (vT (oR 1 [(4, .bool false)] kr ?_))
 refine oN (nT (vS (vT (oR 2 [(6, .fn 71 [] [.ptr 1000000 0 0]), (5, .vs 1 (mI s))] kr ?_))))
 obtain ⟨y1, c1, hs⟩ := bS hs
 refine o_loc (F := [(1000000, .box 93 [.sl 1 1000001 ((k).length) 0 ((k).length)]), (1000001, .row 4 1 0 (mB k))]) (F' := [(1000001, .row 4 1 0 (mB y1.2)), (1000000, .box 93 [.sl 1 1000001 ((y1.2).length) 0 ((y1.2).length)])]) (v := .int .i64 y1.1) [1000000, 1000001] kr kr rfl kr (loc_g (R := []) [.vs 1 (mI s), .fn 71 [] [.ptr 1000000 0 0]] [(1000000, 1000000), (1000001, 1000001)] (callV_func hbv78 kr) (w_slices_IndexFunc s k _ c1) (.cons (.same _) (.cons (.same _) (.nil))) kr kr kr kr kr kr kr kr) kr ?_
 refine oR 2 [(4, .bool (decide (y1.1 ≥ 0))), (8, .bool (decide (y1.1 ≥ 0)))] kr ?_
 refine oN (nT (v_ret ?_))
 cases hs
 exact fin_ret kr kr kr
theorem w_define_graph_order (g_defs : (List Def)) (g_uses : (List (List Int))) (r : (List Int) × (List Def) × (List (List Int))) (hs : s_define_graph_order g_defs g_uses = some r) : FnA Tryz.prog 57 [.ptr 1000000 0 0] [(1000000, .box 106 [.vs 6 (mM enc_Def g_defs), .vs 1 (List.map (encL 1 EV.encI) g_uses)])] (.vs 1 (mI r.1)) [(1000000, .box 106 [.vs 6 (mM enc_Def r.2.1), .vs 1 (List.map (encL 1 EV.encI) r.2.2)])] := by
 refine fnA_of_wp (N := 78) Tryz.func57 rfl rfl rfl fun cK0 => ?_
 unfold s_define_graph_order at hs
 refine v_same (ρ' := [(0, .ptr 1000000 0 0)]) rfl rfl ?_
 refine vS (vT (oR 1 [(2, .nils)] kr ?_))
 refine oN (nT (vS (vT (oR 4 [(12, .vs 6 (mM enc_Def g_defs)), (11, .ptr 1000000 0 0), (10, .ptr 1000000 0 0), (9, .ptr 1000000 0 0)] kr ?_))))
 refine oP (v := .int .i64 (List.length g_defs : Int)) kr kr (loc_lenVs (sz := 6) (els := (mM enc_Def g_defs)) kr kr lM) ?_
 obtain ⟨⟨g1a, g1b, g1c⟩, hs⟩ := bG hs
 refine o_loc (F := []) (F' := [(14, .row 4 1 0 (mB (uR g_defs (false : Bool))))]) (v := .sl 1 14 (((uR g_defs (false : Bool))).length) 0 (((uR g_defs (false : Bool))).length)) [] kr kr rfl kr (loc_makeSliceT (L := ((uR g_defs (false : Bool))).length) (e := 4) (sz := 1) (bytes := 1) (q := (List.length g_defs : Int)) (k := .i64) (k2 := .i64) (cs := [.bool false]) (cs2 := [.bool false]) kr kr kr kr kr g1a g1b g1c (List.map_replicate (f := EV.encB)).symm (List.length_replicate ..) (fun _ _ h => h)) kr ?_
 refine o_runh 2 [(3, .ptr 3 0 0)] [(3, .box 93 [.sl 1 14 (((uR g_defs (false : Bool))).length) 0 (((uR g_defs (false : Bool))).length)]), (14, .row 4 1 0 (mB (uR g_defs (false : Bool)))), (1000000, .box 106 [.vs 6 (mM enc_Def g_defs), .vs 1 (mLI g_uses)])] kr ?_
 refine oN (nT (vS (vT (oR 1 [(4, .nils)] kr ?_))))
 refine oN (nT (vS (vS (vT (oR 4 [(18, .vs 6 (mM enc_Def g_defs)), (17, .ptr 1000000 0 0), (16, .ptr 1000000 0 0), (15, .ptr 1000000 0 0)] kr ?_)))))
 refine oP (v := .int .i64 (List.length g_defs : Int)) kr kr (loc_lenVs (sz := 6) (els := (mM enc_Def g_defs)) kr kr lM) ?_
 refine oR 1 [(20, .int .i64 0)] kr ?_
 refine oN (nT ?_)
 obtain ⟨z1, hs, hk1⟩ := bS hs
 refine v_join (S := (List Int)) (fun u => u = z1) (fun u => [(4, .sl 1 2000072 ((u).length) 0 ((u).length))]) (fun u => [(1000000, .box 106 [.vs 6 (mM enc_Def g_defs), .vs 1 (mLI g_uses)]), (2000072, .row 3 1 0 (mI u))]) ?_ (fun v1 hz => ?_)
 ·refine vB ?_
  refine v_fuel (S := Int × (List Bool) × (List Int)) (fun u => [(0, .ptr 1000000 0 0), (3, .ptr 3 0 0), (4, .sl 1 2000072 ((u.2.2).length) 0 ((u.2.2).length)), (19, .int .i64 (List.length g_defs : Int)), (20, .int .i64 u.1)]) (fun u => [(3, .box 93 [.sl 1 14 ((u.2.1).length) 0 ((u.2.1).length)]), (14, .row 4 1 0 (mB u.2.1)), (1000000, .box 106 [.vs 6 (mM enc_Def g_defs), .vs 1 (mLI g_uses)]), (2000072, .row 3 1 0 (mI u.2.2))]) (s_define_graph_order_L1 g_defs g_uses) (fun _ => rfl) KK (0, (uR g_defs (false : Bool)), []) hs (Cut.trans (cut_nilRow 4 2000072 3 1 rfl kr kr) (cut_of [0, 3, 4, 19, 20] [3, 14, 1000000, 2000072] kr kr kr)) (fun K1 q1 hs => ?_)
  rw [s_define_graph_order_L1] at hs
  show WpV cK0 Tryz.prog none 78 _ _ [(0, .ptr 1000000 0 0), (3, .ptr 3 0 0), (4, .sl 1 2000072 ((q1.2.2).length) 0 ((q1.2.2).length)), (19, .int .i64 (List.length g_defs : Int)), (20, .int .i64 q1.1)] [(3, .box 93 [.sl 1 14 ((q1.2.1).length) 0 ((q1.2.1).length)]), (14, .row 4 1 0 (mB q1.2.1)), (1000000, .box 106 [.vs 6 (mM enc_Def g_defs), .vs 1 (mLI g_uses)]), (2000072, .row 3 1 0 (mI q1.2.2))] []
  refine vS (vT (oR 1 [(21, .bool (decide (q1.1 < (List.length g_defs : Int))))] kr ?_))
  refine oN (nT (vS ?_))
  refine v_cond (decide (q1.1 < (List.length g_defs : Int))) kr (fun h1 => ?_) (fun h1 => ?_)
  ·replace hs := bif_t h1 hs
   refine vK (nT (vS (vB (vS (vT (oR 1 [(5, .int .i64 (-1))] kr ?_))))))
   refine oN (nT (vS (vS (vT (oR 4 [(25, .vs 1 (mLI g_uses)), (24, .ptr 1000000 0 1), (23, .ptr 1000000 0 0), (22, .ptr 1000000 0 0)] kr ?_)))))
   refine oP (v := .int .i64 (List.length g_uses : Int)) kr kr (loc_lenVs (sz := 1) (els := (mLI g_uses)) kr kr lM) ?_
   refine oR 1 [(27, .int .i64 0)] kr ?_
   refine oN (nT ?_)
   obtain ⟨z2, hs, hk2⟩ := bS hs
   refine v_join (S := Int × (List Bool)) (fun u => u = z2) (fun u => [(0, .ptr 1000000 0 0), (3, .ptr 3 0 0), (4, .sl 1 2000072 ((q1.2.2).length) 0 ((q1.2.2).length)), (5, .int .i64 u.1), (19, .int .i64 (List.length g_defs : Int)), (20, .int .i64 q1.1)]) (fun u => [(3, .box 93 [.sl 1 14 ((u.2).length) 0 ((u.2).length)]), (14, .row 4 1 0 (mB u.2)), (1000000, .box 106 [.vs 6 (mM enc_Def g_defs), .vs 1 (mLI g_uses)]), (2000072, .row 3 1 0 (mI q1.2.2))]) ?_ (fun v2 hz => ?_)
   ·refine vB ?_
    refine v_fuel (S := Int × Int × (List Bool)) (fun u => [(0, .ptr 1000000 0 0), (3, .ptr 3 0 0), (4, .sl 1 2000072 ((q1.2.2).length) 0 ((q1.2.2).length)), (5, .int .i64 u.1), (19, .int .i64 (List.length g_defs : Int)), (20, .int .i64 q1.1), (25, .vs 1 (mLI g_uses)), (26, .int .i64 (List.length g_uses : Int)), (27, .int .i64 u.2.1)]) (fun u => [(3, .box 93 [.sl 1 14 ((u.2.2).length) 0 ((u.2.2).length)]), (14, .row 4 1 0 (mB u.2.2)), (1000000, .box 106 [.vs 6 (mM enc_Def g_defs), .vs 1 (mLI g_uses)]), (2000072, .row 3 1 0 (mI q1.2.2))]) (s_define_graph_order_L2 g_defs g_uses) (fun _ => rfl) KK ((-1), 0, q1.2.1) hs (cut_of [0, 3, 4, 5, 19, 20, 25, 26, 27] [3, 14, 1000000, 2000072] kr kr kr) (fun K2 q2 hs => ?_)
    rw [s_define_graph_order_L2] at hs
    show WpV cK0 Tryz.prog none 78 _ _ [(0, .ptr 1000000 0 0), (3, .ptr 3 0 0), (4, .sl 1 2000072 ((q1.2.2).length) 0 ((q1.2.2).length)), (5, .int .i64 q2.1), (19, .int .i64 (List.length g_defs : Int)), (20, .int .i64 q1.1), (25, .vs 1 (mLI g_uses)), (26, .int .i64 (List.length g_uses : Int)), (27, .int .i64 q2.2.1)] [(3, .box 93 [.sl 1 14 ((q2.2.2).length) 0 ((q2.2.2).length)]), (14, .row 4 1 0 (mB q2.2.2)), (1000000, .box 106 [.vs 6 (mM enc_Def g_defs), .vs 1 (mLI g_uses)]), (2000072, .row 3 1 0 (mI q1.2.2))] []
    refine vS (vT (oR 1 [(28, .bool (decide (q2.2.1 < (List.length g_uses : Int))))] kr ?_))
    refine oN (nT (vS ?_))
    refine v_cond (decide (q2.2.1 < (List.length g_uses : Int))) kr (fun h2 => ?_) (fun h2 => ?_)
    ·replace hs := bif_t h2 hs
     refine vK (nT (vS (vB (vS (vT (oR 1 [(29, .int .i64 q2.2.1)] kr ?_))))))
     obtain ⟨x1, g2, hs⟩ := bS hs; obtain ⟨g2a, g2b, g2c⟩ := idx_some g2
     refine oP (v := .vp [.vs 1 (mI x1)] 0) kr kr (loc_indexVs (e := 45) (sz := 1) (k := .i64) (els := (mLI g_uses)) (cs := (eI x1)) kr kr kr g2a (by rw [g2c]; exact map_get _ (by omega))) ?_
     refine oR 3 [(7, .vs 1 (mI x1)), (6, .int .i64 q2.2.1), (31, .vs 1 (mI x1))] kr ?_
     refine oN (nT (vS (vT (oR 2 [(33, .fn 71 [] [.ptr 3 0 0]), (32, .vs 1 (mI x1))] kr ?_))))
     obtain ⟨y1, c1, hs⟩ := bS hs
     refine o_loc (F := [(3, .box 93 [.sl 1 14 ((q2.2.2).length) 0 ((q2.2.2).length)]), (14, .row 4 1 0 (mB q2.2.2))]) (F' := [(14, .row 4 1 0 (mB y1.2)), (3, .box 93 [.sl 1 14 ((y1.2).length) 0 ((y1.2).length)])]) (v := .bool y1.1) [3, 14] kr kr rfl kr (loc_g (R := []) [.vs 1 (mI x1), .fn 71 [] [.ptr 3 0 0]] [(1000000, 3), (1000001, 14)] (callV_func hbv70 kr) (w_slices_ContainsFunc x1 q2.2.2 _ c1) (.cons (.same _) (.cons (.same _) (.nil))) kr kr kr kr kr kr kr kr) kr ?_
     refine oR 1 [(8, .bool y1.1)] kr ?_
     refine oN (nT (vS ?_))
     obtain ⟨z3, hs, hk3⟩ := bS hs
     refine v_join (S := Bool) (fun u => u = z3) (fun u => [(0, .ptr 1000000 0 0), (3, .ptr 3 0 0), (4, .sl 1 2000072 ((q1.2.2).length) 0 ((q1.2.2).length)), (5, .int .i64 q2.1), (6, .int .i64 q2.2.1), (19, .int .i64 (List.length g_defs : Int)), (20, .int .i64 q1.1), (25, .vs 1 (mLI g_uses)), (26, .int .i64 (List.length g_uses : Int)), (27, .int .i64 q2.2.1), (66, .bool u)]) (fun u => [(14, .row 4 1 0 (mB y1.2)), (3, .box 93 [.sl 1 14 ((y1.2).length) 0 ((y1.2).length)]), (1000000, .box 106 [.vs 6 (mM enc_Def g_defs), .vs 1 (mLI g_uses)]), (2000072, .row 3 1 0 (mI q1.2.2))]) ?_ (fun v3 hz => ?_)
     ·refine v_draw mixedH kr ?_
      refine d_runs 2 0 [(36, .int .i64 q2.2.1), (35, .sl 1 14 ((y1.2).length) 0 ((y1.2).length))] [⟨1, [], []⟩, ⟨0, [], [3]⟩] kr kr ?_
      obtain ⟨⟨g3a, g3b⟩, hs⟩ := bG hs
      refine d_pure (v := .ptr 14 ((y1.2).length) ((Int.toNat q2.2.1) * 1 + 0)) 2 rfl rfl rfl rfl kr kr (loc_indexRowT (e := 4) (sz := 1) (kk := 14) (L := (y1.2).length) (n := (y1.2).length) (k := .i64) (i := q2.2.1) kr kr kr g3a g3b) ?_
      obtain ⟨e1, he1, hs⟩ := bE hs
      refine d_loc (F := []) (R := [(14, .row 4 1 0 (mB y1.2))]) (F' := []) (v := .bool e1) 3 [] [14] rfl rfl rfl rfl kr kr kr kr kr kr kr kr (loc_loadRow (L := (y1.2).length) (off := (Int.toNat q2.2.1) * 1 + 0) (els := (mB y1.2)) (cs := [.bool e1]) (Int.toNat q2.2.1) 0 kr lh rfl (by rw [← he1]; exact map_get _ (by first | omega | (simp only [List.length_set, cpyT_length]; omega))) kr) ?_
      refine d_runs 2 4 [(40, .bool (!e1)), (39, .bool (!e1))] (pfp 2 5) kr kr ?_
      cases h3 : ((!e1))
      ·replace hs := bif_f h3 hs
       refine d_runs 26 6 [(66, .bool false), (65, .no), (64, .no), (63, .no), (62, .no), (61, .no), (60, .no), (59, .no), (58, .no), (57, .no), (56, .no), (55, .no), (54, .no), (53, .no), (52, .no), (51, .no), (50, .no), (49, .no), (48, .no), (47, .no), (46, .no), (45, .no), (44, .bool false), (43, .bool false), (42, .no), (41, .no)] (pfp 26 31) kr kr ?_
       refine d_nil kr ?_
       cases hs
       refine nrm_join false rfl ?_
       exact cut_of [0, 3, 4, 5, 6, 19, 20, 25, 26, 27, 66] [14, 3, 1000000, 2000072] kr kr kr
      ·replace hs := bif_t h3 hs
       refine d_runs 4 6 [(44, .bool (!y1.1)), (43, .bool (!y1.1)), (42, .bool (!y1.1)), (41, .bool y1.1)] (pfp 4 9) kr kr ?_
       cases h4 : ((!y1.1))
       ·replace hs := bif_f h4 hs
        refine d_runs 22 10 [(66, .bool false), (65, .no), (64, .no), (63, .no), (62, .no), (61, .no), (60, .no), (59, .no), (58, .no), (57, .no), (56, .no), (55, .no), (54, .no), (53, .no), (52, .no), (51, .no), (50, .no), (49, .no), (48, .no), (47, .no), (46, .no), (45, .no)] (pfp 22 31) kr kr ?_
        refine d_nil kr ?_
        cases hs
        refine nrm_join false rfl ?_
        exact cut_of [0, 3, 4, 5, 6, 19, 20, 25, 26, 27, 66] [14, 3, 1000000, 2000072] kr kr kr
       ·replace hs := bif_t h4 hs
        refine d_runs 3 10 [(47, .bool (decide (q2.1 < 0))), (46, .bool (decide (q2.1 < 0))), (45, .int .i64 q2.1)] (pfp 3 12) kr kr ?_
        cases h5 : ((decide (q2.1 < 0)))
        ·replace hs := bif_f h5 hs
         refine d_runs 5 13 [(52, .int .i64 q2.2.1), (51, .vs 6 (mM enc_Def g_defs)), (50, .ptr 1000000 0 0), (49, .ptr 1000000 0 0), (48, .ptr 1000000 0 0)] [⟨17, [], []⟩, ⟨16, [], [1000000]⟩, ⟨15, [], []⟩, ⟨14, [], []⟩, ⟨13, [], []⟩] kr kr ?_
         obtain ⟨x2, g4, hs⟩ := bS hs; obtain ⟨g4a, g4b, g4c⟩ := idx_some g4
         refine d_pure (v := .vp (enc_Def x2) 0) 18 rfl rfl rfl rfl kr kr (loc_indexVs (e := 51) (sz := 6) (k := .i64) (els := (mM enc_Def g_defs)) (cs := (enc_Def x2)) kr kr kr g4a (by rw [g4c]; exact map_get _ (by omega))) ?_
         refine d_runs 7 19 [(60, .int .i64 q2.1), (59, .vs 6 (mM enc_Def g_defs)), (58, .ptr 1000000 0 0), (57, .ptr 1000000 0 0), (56, .ptr 1000000 0 0), (55, .str x2.Name), (54, .vp (enc_Def x2) 0)] [⟨25, [], []⟩, ⟨24, [], [1000000]⟩, ⟨23, [], []⟩, ⟨22, [], []⟩, ⟨21, [], []⟩, ⟨20, [], []⟩, ⟨19, [], []⟩] kr kr ?_
         obtain ⟨x3, g5, hs⟩ := bS hs; obtain ⟨g5a, g5b, g5c⟩ := idx_some g5
         refine d_pure (v := .vp (enc_Def x3) 0) 26 rfl rfl rfl rfl kr kr (loc_indexVs (e := 51) (sz := 6) (k := .i64) (els := (mM enc_Def g_defs)) (cs := (enc_Def x3)) kr kr kr g5a (by rw [g5c]; exact map_get _ (by omega))) ?_
         refine d_runs 5 27 [(66, .bool (Op.bytesLess x2.Name x3.Name)), (65, .bool (Op.bytesLess x2.Name x3.Name)), (64, .bool (Op.bytesLess x2.Name x3.Name)), (63, .str x3.Name), (62, .vp (enc_Def x3) 0)] (pfp 5 31) kr kr ?_
         refine d_nil kr ?_
         obtain rfl := si hs
         refine nrm_join (Op.bytesLess x2.Name x3.Name) rfl ?_
         exact cut_of [0, 3, 4, 5, 6, 19, 20, 25, 26, 27, 66] [14, 3, 1000000, 2000072] kr kr kr
        ·replace hs := bif_t h5 hs
         refine d_runs 19 13 [(66, .bool true), (65, .bool true), (64, .no), (63, .no), (62, .no), (61, .no), (60, .no), (59, .no), (58, .no), (57, .no), (56, .no), (55, .no), (54, .no), (53, .no), (52, .no), (51, .no), (50, .no), (49, .no), (48, .no)] (pfp 19 31) kr kr ?_
         refine d_nil kr ?_
         cases hs
         refine nrm_join true rfl ?_
         exact cut_of [0, 3, 4, 5, 6, 19, 20, 25, 26, 27, 66] [14, 3, 1000000, 2000072] kr kr kr
     ·subst hz; clear hs; have hs := hk3; clear hk3
      refine nT ?_
      obtain ⟨z4, hs, hk4⟩ := bS hs
      refine v_join (S := Int) (fun u => u = z4) (fun u => [(0, .ptr 1000000 0 0), (3, .ptr 3 0 0), (4, .sl 1 2000072 ((q1.2.2).length) 0 ((q1.2.2).length)), (5, .int .i64 u), (19, .int .i64 (List.length g_defs : Int)), (20, .int .i64 q1.1), (25, .vs 1 (mLI g_uses)), (26, .int .i64 (List.length g_uses : Int)), (27, .int .i64 q2.2.1)]) (fun u => [(14, .row 4 1 0 (mB y1.2)), (3, .box 93 [.sl 1 14 ((y1.2).length) 0 ((y1.2).length)]), (1000000, .box 106 [.vs 6 (mM enc_Def g_defs), .vs 1 (mLI g_uses)]), (2000072, .row 3 1 0 (mI q1.2.2))]) ?_ (fun v4 hz => ?_)
      ·refine v_cond v3 kr (fun h6 => ?_) (fun h6 => ?_)
       ·replace hs := bif_t h6 hs
        refine vT (oR 2 [(5, .int .i64 q2.2.1), (67, .int .i64 q2.2.1)] kr ?_)
        refine oN ?_
        obtain rfl := si hs
        refine nrm_join q2.2.1 rfl ?_
        exact cut_of [0, 3, 4, 5, 19, 20, 25, 26, 27] [14, 3, 1000000, 2000072] kr kr kr
       ·replace hs := bif_f h6 hs
        refine vK ?_
        obtain rfl := si hs
        refine nrm_join q2.1 rfl ?_
        exact cut_of [0, 3, 4, 5, 19, 20, 25, 26, 27] [14, 3, 1000000, 2000072] kr kr kr
      ·subst hz; clear hs; have hs := hk4; clear hk4
       refine nB (nT (vT (oR 2 [(27, .int .i64 (w64 (q2.2.1 + 1))), (68, .int .i64 (w64 (q2.2.1 + 1)))] kr ?_)))
       refine oN (nrm_fuel (v4, (w64 (q2.2.1 + 1)), y1.2) hs ?_)
       exact cut_of [0, 3, 4, 5, 19, 20, 25, 26, 27] [3, 14, 1000000, 2000072] kr kr kr
    ·replace hs := bif_f h2 hs
     refine v_exit (exit_thenV (exit_fuel ?_))
     refine exit_blkV ?_
     obtain rfl := si hs
     refine nrm_join (q2.1, q2.2.2) rfl ?_
     exact cut_of [0, 3, 4, 5, 19, 20] [3, 14, 1000000, 2000072] kr kr kr
   ·subst hz; clear hs; have hs := hk2; clear hk2
    refine nT (vS (vT (oR 2 [(70, .int .i64 v2.1), (69, .sl 1 14 ((v2.2).length) 0 ((v2.2).length))] kr ?_)))
    obtain ⟨⟨g6a, g6b⟩, hs⟩ := bG hs
    refine oP (v := .ptr 14 ((v2.2).length) ((Int.toNat v2.1) * 1 + 0)) kr kr (loc_indexRowT (e := 4) (sz := 1) (kk := 14) (L := (v2.2).length) (n := (v2.2).length) (k := .i64) (i := v2.1) kr kr kr g6a g6b) ?_
    obtain ⟨e2, he2, hs⟩ := bE hs
    refine o_loc (F := [(14, .row 4 1 0 (mB v2.2))]) (F' := [(14, .row 4 1 0 (mB (List.set v2.2 (Int.toNat v2.1) true)))]) (v := .no) [14] kr kr rfl kr (loc_storeRowT (L := (v2.2).length) (off := (Int.toNat v2.1) * 1 + 0) (els := (mB v2.2)) (cs := [.bool e2]) (c' := [.bool true]) (Int.toNat v2.1) 0 kr lh rfl (by rw [← he2]; exact map_get _ (by first | omega | (simp only [List.length_set, cpyT_length]; omega))) (by first | exact Nat.zero_le _ | omega) kr kr kr kr kr kr List.map_set.symm) kr ?_
    refine oN (nT (vT (o_runh 3 [(74, .sl 1 74 1 0 1), (73, .int .i64 v2.1), (72, .sl 1 2000072 ((q1.2.2).length) 0 ((q1.2.2).length))] [(74, .row 3 1 0 (mI [v2.1])), (14, .row 4 1 0 (mB (List.set v2.2 (Int.toNat v2.1) true))), (3, .box 93 [.sl 1 14 ((v2.2).length) 0 ((v2.2).length)]), (1000000, .box 106 [.vs 6 (mM enc_Def g_defs), .vs 1 (mLI g_uses)]), (2000072, .row 3 1 0 (mI q1.2.2))] kr ?_)))
    obtain ⟨_, g7, hs⟩ := bS hs; replace g7 := grd_some g7
    refine o_loc (F := [(2000072, .row 3 1 0 (mI q1.2.2)), (74, .row 3 1 0 (mI [v2.1]))]) (F' := [(2000072, .row 3 1 0 (mI (q1.2.2 ++ [v2.1]))), (74, .row 3 1 0 (mI [v2.1]))]) (v := .sl 1 2000072 (((q1.2.2 ++ [v2.1])).length) 0 (((q1.2.2 ++ [v2.1])).length)) [2000072, 74] kr kr rfl kr (loc_appendT (e := 3) (sz := 1) (bytes := 8) (L := (q1.2.2).length) (els := (mI q1.2.2)) (ys := (mI [v2.1])) kr kr (by first | exact List.length_map .. | rfl) (.sl (t := 3) (fz := 0) (ys := (mI [v2.1])) kr kr) (map_ones EV.encI (fun _ => rfl) _) (map_lens EV.encI (fun _ => rfl) _) kr (by first | exact (List.map_append ..).symm | rfl | simp only [List.map_nil, List.nil_append]) (List.length_map ..) g7 (by omega)) kr ?_
    refine oR 1 [(4, .sl 1 2000072 (((q1.2.2 ++ [v2.1])).length) 0 (((q1.2.2 ++ [v2.1])).length))] kr ?_
    refine oN (nB (nT (vT (oR 2 [(20, .int .i64 (w64 (q1.1 + 1))), (76, .int .i64 (w64 (q1.1 + 1)))] kr ?_))))
    refine oN (nrm_fuel ((w64 (q1.1 + 1)), (List.set v2.2 (Int.toNat v2.1) true), (q1.2.2 ++ [v2.1])) hs ?_)
    exact Cut.trans (cut_same (H1 := [(2000072, .row 3 1 0 (mI (q1.2.2 ++ [v2.1]))), (74, .row 3 1 0 (mI [v2.1])), (14, .row 4 1 0 (mB (List.set v2.2 (Int.toNat v2.1) true))), (3, .box 93 [.sl 1 14 ((v2.2).length) 0 ((v2.2).length)]), (1000000, .box 106 [.vs 6 (mM enc_Def g_defs), .vs 1 (mLI g_uses)])]) rfl kr) (Cut.trans (cut_same (H1 := [(2000072, .row 3 1 0 (mI (q1.2.2 ++ [v2.1]))), (74, .row 3 1 0 (mI [v2.1])), (14, .row 4 1 0 (mB (List.set v2.2 (Int.toNat v2.1) true))), (3, .box 93 [.sl 1 14 (((List.set v2.2 (Int.toNat v2.1) true)).length) 0 (((List.set v2.2 (Int.toNat v2.1) true)).length)]), (1000000, .box 106 [.vs 6 (mM enc_Def g_defs), .vs 1 (mLI g_uses)])]) rfl (by first | (simp only [List.length_set, cpyT_length]; done) | rfl)) (cut_of [0, 3, 4, 19, 20] [3, 14, 1000000, 2000072] kr kr kr))
  ·replace hs := bif_f h1 hs
   refine v_exit (exit_thenV (exit_fuel ?_))
   refine exit_blkV ?_
   obtain rfl := si hs
   refine nrm_join q1.2.2 rfl ?_
   exact cut_of [4] [1000000, 2000072] kr kr kr
 ·subst hz; clear hs; have hs := hk1; clear hk1
  refine nT (vS (vT (oR 2 [(2, .sl 1 2000072 ((v1).length) 0 ((v1).length)), (77, .sl 1 2000072 ((v1).length) 0 ((v1).length))] kr ?_)))
  refine oN (nT (v_to _ [(2000072, .row 3 1 (((mI v1)).length) (mI v1)), (1000000, .box 106 [.vs 6 (mM enc_Def g_defs), .vs 1 (mLI g_uses)])] (cut_freeze (F := [(2000072, .row 3 1 0 (mI v1))]) [2000072] rfl kr kr) ?_))
  refine v_to ((2, .vs 1 (mI v1)) :: _) _ (cut_view (R := [(2000072, .row 3 1 (((mI v1)).length) (mI v1))]) (ks := [2000072]) kr kr (.row (t := 3) (fz := (((mI v1)).length)) kr lh)) ?_
  refine v_ret ?_
  cases hs
  exact fin_ret kr kr kr
theorem w_define_Order (p : Plan) (r : (List Int) × (List Sr) × Int) (hs : s_define_Order p = some r) : FnA Tryz.prog 42 [.agg (enc_Plan p)] [] (.tup [.vs 1 (mI r.1), .vs 1 (mS r.2.1), .int .i64 r.2.2]) [] := by
 refine fnA_of_wp (N := 47) Tryz.func42 rfl rfl rfl fun cK0 => ?_
 unfold s_define_Order at hs
 refine v_same (ρ' := [(0, .agg (enc_Plan p))]) rfl rfl ?_
 refine vS (vT (o_runh 4 [(4, .int .i64 0), (3, .nils), (2, .nils), (1, .ptr 1 0 0)] [(1, .box 30 (enc_Plan p))] kr ?_))
 refine oN (nT (vS (vT (o_runh 2 [(5, .mp 12), (12, .mp 12)] [(12, .map (encM V.str V.bool [])), (1, .box 30 (enc_Plan p))] kr ?_))))
 refine oN (nT (vS (vS (vT ?_))))
 obtain ⟨y1, c1, hs⟩ := bS hs
 refine oP (v := .vs 1 (mS y1)) kr kr (loc_gcall0 (callV_func hbv54 kr) (w_define_Measures  _ c1) kr) ?_
 refine oP (v := .int .i64 (List.length y1 : Int)) kr kr (loc_lenVs (sz := 1) (els := (mS y1)) kr kr lM) ?_
 refine oR 1 [(15, .int .i64 0)] kr ?_
 refine oN (nT ?_)
 obtain ⟨z1, hs, hk1⟩ := bS hs
 refine v_join (S := (List (Sr × Bool))) (fun u => u = z1) (fun u => [(1, .ptr 1 0 0), (5, .mp 12)]) (fun u => [(12, .map (encM V.str V.bool u)), (1, .box 30 (enc_Plan p))]) ?_ (fun v1 hz => ?_)
 ·refine vB ?_
  refine v_fuel (S := Int × (List (Sr × Bool))) (fun u => [(1, .ptr 1 0 0), (5, .mp 12), (13, .vs 1 (mS y1)), (14, .int .i64 (List.length y1 : Int)), (15, .int .i64 u.1)]) (fun u => [(12, .map (encM V.str V.bool u.2)), (1, .box 30 (enc_Plan p))]) (s_define_Order_L1 y1) (fun _ => rfl) KK (0, []) hs (cut_of [1, 5, 13, 14, 15] [12, 1] kr kr kr) (fun K1 q1 hs => ?_)
  rw [s_define_Order_L1] at hs
  show WpV cK0 Tryz.prog none 47 _ _ [(1, .ptr 1 0 0), (5, .mp 12), (13, .vs 1 (mS y1)), (14, .int .i64 (List.length y1 : Int)), (15, .int .i64 q1.1)] [(12, .map (encM V.str V.bool q1.2)), (1, .box 30 (enc_Plan p))] []
  refine vS (vT (oR 1 [(16, .bool (decide (q1.1 < (List.length y1 : Int))))] kr ?_))
  refine oN (nT (vS ?_))
  refine v_cond (decide (q1.1 < (List.length y1 : Int))) kr (fun h1 => ?_) (fun h1 => ?_)
  ·replace hs := bif_t h1 hs
   refine vK (nT (vS (vB (vS (vT ?_)))))
   obtain ⟨x1, g1, hs⟩ := bS hs; obtain ⟨g1a, g1b, g1c⟩ := idx_some g1
   refine oP (v := .vp [.str x1] 0) kr kr (loc_indexVs (e := 9) (sz := 1) (k := .i64) (els := (mS y1)) (cs := (EV.encS x1)) kr kr kr g1a (by rw [g1c]; exact map_get _ (by omega))) ?_
   refine oR 2 [(7, .str x1), (18, .str x1)] kr ?_
   refine oN (nT (vT (oR 2 [(20, .str x1), (19, .mp 12)] kr ?_)))
   refine o_loc (F := [(12, .map (encM V.str V.bool q1.2))]) (F' := [(12, .map (encM V.str V.bool (mset x1 true q1.2)))]) (v := .no) [12] kr kr rfl kr (loc_mapUpdate (et := 4) (f := V.str) (g := V.bool) (l := q1.2) (a := x1) (c := true) kr kok9 kr kr kr kr kr) kr ?_
   refine oN (nB (nT (vT (oR 2 [(15, .int .i64 (w64 (q1.1 + 1))), (21, .int .i64 (w64 (q1.1 + 1)))] kr ?_))))
   refine oN (nrm_fuel ((w64 (q1.1 + 1)), (mset x1 true q1.2)) hs ?_)
   exact cut_of [1, 5, 13, 14, 15] [12, 1] kr kr kr
  ·replace hs := bif_f h1 hs
   refine v_exit (exit_thenV (exit_fuel ?_))
   refine exit_blkV ?_
   obtain rfl := si hs
   refine nrm_join q1.2 rfl ?_
   exact cut_of [1, 5] [12, 1] kr kr kr
 ·subst hz; clear hs; have hs := hk1; clear hk1
  refine nT (vS (vS (vT (oR 2 [(23, .vs 6 (mM enc_Def p.Defs)), (22, .ptr 1 0 0)] kr ?_))))
  refine oP (v := .int .i64 (List.length p.Defs : Int)) kr kr (loc_lenVs (sz := 6) (els := (mM enc_Def p.Defs)) kr kr lM) ?_
  refine oR 1 [(25, .int .i64 0)] kr ?_
  refine oN (nT ?_)
  obtain ⟨z2, hs, hk2⟩ := bS hs
  refine v_join (S := Unit) (fun u => z2 = .inr u) (fun u => [(1, .ptr 1 0 0)]) (fun u => [(1, .box 30 (enc_Plan p))]) ?_ (fun v2 hz => ?_)
  ·refine vB ?_
   refine v_fuel (S := Int × (List (Sr × Bool))) (fun u => [(1, .ptr 1 0 0), (5, .mp 12), (23, .vs 6 (mM enc_Def p.Defs)), (24, .int .i64 (List.length p.Defs : Int)), (25, .int .i64 u.1)]) (fun u => [(12, .map (encM V.str V.bool u.2)), (1, .box 30 (enc_Plan p))]) (s_define_Order_L2 p) (fun _ => rfl) KK (0, v1) hs (cut_of [1, 5, 23, 24, 25] [12, 1] kr kr kr) (fun K2 q2 hs => ?_)
   rw [s_define_Order_L2] at hs
   show WpV cK0 Tryz.prog none 47 _ _ [(1, .ptr 1 0 0), (5, .mp 12), (23, .vs 6 (mM enc_Def p.Defs)), (24, .int .i64 (List.length p.Defs : Int)), (25, .int .i64 q2.1)] [(12, .map (encM V.str V.bool q2.2)), (1, .box 30 (enc_Plan p))] []
   refine vS (vT (oR 1 [(26, .bool (decide (q2.1 < (List.length p.Defs : Int))))] kr ?_))
   refine oN (nT (vS ?_))
   refine v_cond (decide (q2.1 < (List.length p.Defs : Int))) kr (fun h2 => ?_) (fun h2 => ?_)
   ·replace hs := bif_t h2 hs
    refine vK (nT (vS (vB (vS (vT ?_)))))
    obtain ⟨x2, g2, hs⟩ := bS hs; obtain ⟨g2a, g2b, g2c⟩ := idx_some g2
    refine oP (v := .vp (enc_Def x2) 0) kr kr (loc_indexVs (e := 51) (sz := 6) (k := .i64) (els := (mM enc_Def p.Defs)) (cs := (enc_Def x2)) kr kr kr g2a (by rw [g2c]; exact map_get _ (by omega))) ?_
    refine o_runh 3 [(9, .ptr 9 0 0), (28, .agg (enc_Def x2))] [(9, .box 51 [.str x2.Name, .int .i64 x2.Body.Op, .int .i64 x2.Body.N, .str x2.Body.S, .str x2.Body.Key, .vs 5 (encs_Expr x2.Body.Args)]), (12, .map (encM V.str V.bool q2.2)), (1, .box 30 (enc_Plan p))] kr ?_
    refine oN (nT (vS (vS (vT (oR 3 [(31, .str x2.Name), (30, .ptr 9 0 0), (29, .mp 12)] kr ?_)))))
    refine o_loc (F := [(12, .map (encM V.str V.bool q2.2))]) (F' := [(12, .map (encM V.str V.bool q2.2))]) (v := .bool (Option.getD (mfind x2.Name q2.2) false)) [12] kr kr rfl kr (loc_lookup (et := 4) (f := V.str) (g := V.bool) (l := q2.2) (a := x2.Name) (z := false) (zv := .bool false) false kr kok9 kr (fun _ _ _ h => h) kr kr) kr ?_
    refine oN (nT ?_)
    refine v_cond (Option.getD (mfind x2.Name q2.2) false) kr (fun h3 => ?_) (fun h3 => ?_)
    ·replace hs := bif_t h3 hs
     refine vS (vT (oR 3 [(4, .int .i64 5), (3, .nils), (2, .nils)] kr ?_))
     refine oN (nT (v_to ((2, .vs 1 (mI [])) :: _) _ (cut_view (R := []) (ks := []) kr kr (.nils 1)) ?_))
     refine v_to ((3, .vs 1 (mS [])) :: _) _ (cut_view (R := []) (ks := []) kr kr (.nils 1)) ?_
     refine v_ret (rT (rB (rT (ret_fuel ?_))))
     refine rB (ret_join ?_)
     refine rT ?_
     obtain rfl := si hs
     replace hs := hk2
     cases hs
     exact fin_ret kr kr kr
    ·replace hs := bif_f h3 hs
     refine vK (nT (vT (oR 3 [(35, .str x2.Name), (34, .ptr 9 0 0), (33, .mp 12)] kr ?_)))
     refine o_loc (F := [(12, .map (encM V.str V.bool q2.2))]) (F' := [(12, .map (encM V.str V.bool (mset x2.Name true q2.2)))]) (v := .no) [12] kr kr rfl kr (loc_mapUpdate (et := 4) (f := V.str) (g := V.bool) (l := q2.2) (a := x2.Name) (c := true) kr kok9 kr kr kr kr kr) kr ?_
     refine oN (nB (nT (vT (oR 2 [(25, .int .i64 (w64 (q2.1 + 1))), (36, .int .i64 (w64 (q2.1 + 1)))] kr ?_))))
     refine oN (nrm_fuel ((w64 (q2.1 + 1)), (mset x2.Name true q2.2)) hs ?_)
     exact cut_of [1, 5, 23, 24, 25] [12, 1] kr kr kr
   ·replace hs := bif_f h2 hs
    refine v_exit (exit_thenV (exit_fuel ?_))
    refine exit_blkV ?_
    cases hs
    refine nrm_join () rfl ?_
    exact cut_of [1] [1] kr kr kr
  ·subst hz; clear hs; have hs := hk2; clear hk2
   refine nT (vS (vT (oR 2 [(38, .vs 6 (mM enc_Def p.Defs)), (37, .ptr 1 0 0)] kr ?_)))
   obtain ⟨y2, c2, hs⟩ := bS hs
   refine o_loc (F := []) (F' := [(3003900, .box 106 [.vs 6 (mM enc_Def y2.1), .vs 1 (mLI y2.2)])]) (v := .ptr 3003900 0 0) [] kr kr rfl kr (loc_g (R := []) [.vs 6 (mM enc_Def p.Defs)] [(31, 3003900)] (callV_func hbv55 kr) (w_define_newGraph p.Defs _ c2) (.cons (.same _) (.nil)) kr kr kr kr kr kr kr kr) kr ?_
   refine oR 1 [(10, .ptr 3003900 0 0)] kr ?_
   refine oN (nT (vS (vS (vT (oR 1 [(40, .ptr 3003900 0 0)] kr ?_)))))
   obtain ⟨y3, c3, hs⟩ := bS hs
   refine o_loc (F := [(3003900, .box 106 [.vs 6 (mM enc_Def y2.1), .vs 1 (mLI y2.2)])]) (F' := [(3003900, .box 106 [.vs 6 (mM enc_Def y3.2.1), .vs 1 (mLI y3.2.2)])]) (v := nz 1 (mS y3.1)) [3003900] kr kr rfl kr (loc_g (R := []) [.ptr 3003900 0 0] [(1000000, 3003900)] (callV_func hbv56 kr) (w_define_graph_smallest y2.1 y2.2 _ c3) (.cons (.same _) (.nil)) kr kr kr kr kr kr kr kr) kr ?_
   refine oR 1 [(11, nz 1 (mS y3.1))] kr ?_
   refine oN (nT (vS (vT (oR 1 [(42, nz 1 (mS y3.1))] kr ?_))))
   refine oP (v := .bool (!(List.isEmpty y3.1))) kr kr (loc_notNilZ (sz := 1) (els := (mS y3.1)) (b := (!(List.isEmpty y3.1))) kr kr kr (by cases (y3.1 : List _) <;> rfl)) ?_
   refine oN (nT ?_)
   refine v_cond (!(List.isEmpty y3.1)) kr (fun h4 => ?_) (fun h4 => ?_)
   ·replace hs := bif_t h4 hs
    refine vS (vT (oR 4 [(4, .int .i64 16), (3, nz 1 (mS y3.1)), (2, .nils), (44, nz 1 (mS y3.1))] kr ?_))
    refine oN (nT (v_to ((2, .vs 1 (mI [])) :: _) _ (cut_view (R := []) (ks := []) kr kr (.nils 1)) ?_))
    refine v_to ((3, .vs 1 (mS y3.1)) :: _) _ (cut_view (R := []) (ks := []) kr kr (.nz _ _)) ?_
    refine v_ret (rT ?_)
    cases hs
    exact fin_ret kr kr kr
   ·replace hs := bif_f h4 hs
    refine vK (nT (vS (vT (oR 1 [(45, .ptr 3003900 0 0)] kr ?_))))
    obtain ⟨y4, c4, hs⟩ := bS hs
    refine o_loc (F := [(3003900, .box 106 [.vs 6 (mM enc_Def y3.2.1), .vs 1 (mLI y3.2.2)])]) (F' := [(3003900, .box 106 [.vs 6 (mM enc_Def y4.2.1), .vs 1 (mLI y4.2.2)])]) (v := .vs 1 (mI y4.1)) [3003900] kr kr rfl kr (loc_g (R := []) [.ptr 3003900 0 0] [(1000000, 3003900)] (callV_func hbv57 kr) (w_define_graph_order y3.2.1 y3.2.2 _ c4) (.cons (.same _) (.nil)) kr kr kr kr kr kr kr kr) kr ?_
    refine oR 3 [(4, .int .i64 0), (3, .nils), (2, .vs 1 (mI y4.1))] kr ?_
    refine oN (nT (v_to ((3, .vs 1 (mS [])) :: _) _ (cut_view (R := []) (ks := []) kr kr (.nils 1)) ?_))
    refine v_ret ?_
    cases hs
    exact fin_ret kr kr kr
theorem w_expr_context_row_1 (t : Table) (a1_Op : Int) (a1_N : Int) (a1_S : Sr) (a1_Key : Sr) (a1_Args : (List Expr)) (r : Bool × Int × Int × Sr × Sr × (List Expr)) (hs : s_expr_context_row_1 t a1_Op a1_N a1_S a1_Key a1_Args = some r) : FnA Tryz.prog 58 [.agg (enc_Table t), .ptr 1000000 0 0] [(1000000, .box 35 [.int .i64 a1_Op, .int .i64 a1_N, .str a1_S, .str a1_Key, .vs 5 (encs_Expr a1_Args)])] (.bool r.1) [(1000000, .box 35 [.int .i64 r.2.1, .int .i64 r.2.2.1, .str r.2.2.2.1, .str r.2.2.2.2.1, .vs 5 (encs_Expr r.2.2.2.2.2)])] := by
 refine fnA_of_wp (N := 9) Tryz.func58 rfl rfl rfl fun cK0 => ?_
 unfold s_expr_context_row_1 at hs
 refine v_same (ρ' := [(0, .agg (enc_Table t)), (1, .ptr 1000000 0 0)]) rfl rfl ?_
 refine vS (vT (o_runh 2 [(3, .bool false), (2, .ptr 2 0 0)] [(2, .box 57 [.str t.Name, .vs 2 (mM enc_Entry t.Rows), .int .i64 t.Else]), (1000000, .box 35 [.int .i64 a1_Op, .int .i64 a1_N, .str a1_S, .str a1_Key, .vs 5 (encs_Expr a1_Args)])] kr ?_))
 refine oN (nT (vS (vT (oR 6 [(3, .bool (decide (t.Name = a1_S))), (8, .bool (decide (t.Name = a1_S))), (7, .str a1_S), (6, .ptr 1000000 0 2), (5, .str t.Name), (4, .ptr 2 0 0)] kr ?_))))
 refine oN (nT (v_ret ?_))
 cases hs
 exact fin_ret kr kr kr
theorem w_slices_IndexFunc_2 (s : (List Table)) (t_Op : Int) (t_N : Int) (t_S : Sr) (t_Key : Sr) (t_Args : (List Expr)) (r : Int × Int × Int × Sr × Sr × (List Expr)) (hs : s_slices_IndexFunc_2 s t_Op t_N t_S t_Key t_Args = some r) : FnA Tryz.prog 38 [.vs 3 (mM enc_Table s), .fn 58 [] [.ptr 1000000 0 0]] [(1000000, .box 35 [.int .i64 t_Op, .int .i64 t_N, .str t_S, .str t_Key, .vs 5 (encs_Expr t_Args)])] (.int .i64 r.1) [(1000000, .box 35 [.int .i64 r.2.1, .int .i64 r.2.2.1, .str r.2.2.2.1, .str r.2.2.2.2.1, .vs 5 (encs_Expr r.2.2.2.2.2)])] := by
 refine fnA_of_wp (N := 19) Tryz.func38 rfl rfl rfl fun cK0 => ?_
 unfold s_slices_IndexFunc_2 at hs
 refine v_same (ρ' := [(0, .vs 3 (mM enc_Table s)), (1, .fn 58 [] [.ptr 1000000 0 0])]) rfl rfl ?_
 refine vS (vT (oR 1 [(4, .int .i64 0)] kr ?_))
 refine oN (nT (vS (vS (vT (oR 1 [(6, .vs 3 (mM enc_Table s))] kr ?_)))))
 refine oP (v := .int .i64 (List.length s : Int)) kr kr (loc_lenVs (sz := 3) (els := (mM enc_Table s)) kr kr lM) ?_
 refine oR 1 [(8, .int .i64 0)] kr ?_
 refine oN (nT ?_)
 obtain ⟨z1, hs, hk1⟩ := bS hs
 refine v_join (S := Int × Int × Sr × Sr × (List Expr)) (fun u => z1 = .inr u) (fun u => []) (fun u => [(1000000, .box 35 [.int .i64 u.1, .int .i64 u.2.1, .str u.2.2.1, .str u.2.2.2.1, .vs 5 (encs_Expr u.2.2.2.2)])]) ?_ (fun v1 hz => ?_)
 ·refine vB ?_
  refine v_fuel (S := Int × Int × Int × Sr × Sr × (List Expr)) (fun u => [(0, .vs 3 (mM enc_Table s)), (1, .fn 58 [] [.ptr 1000000 0 0]), (7, .int .i64 (List.length s : Int)), (8, .int .i64 u.1)]) (fun u => [(1000000, .box 35 [.int .i64 u.2.1, .int .i64 u.2.2.1, .str u.2.2.2.1, .str u.2.2.2.2.1, .vs 5 (encs_Expr u.2.2.2.2.2)])]) (s_slices_IndexFunc_2_L1 s) (fun _ => rfl) KK (0, t_Op, t_N, t_S, t_Key, t_Args) hs (cut_of [0, 1, 7, 8] [1000000] kr kr kr) (fun K1 q1 hs => ?_)
  rw [s_slices_IndexFunc_2_L1] at hs
  show WpV cK0 Tryz.prog none 19 _ _ [(0, .vs 3 (mM enc_Table s)), (1, .fn 58 [] [.ptr 1000000 0 0]), (7, .int .i64 (List.length s : Int)), (8, .int .i64 q1.1)] [(1000000, .box 35 [.int .i64 q1.2.1, .int .i64 q1.2.2.1, .str q1.2.2.2.1, .str q1.2.2.2.2.1, .vs 5 (encs_Expr q1.2.2.2.2.2)])] []
  refine vS (vT (oR 1 [(9, .bool (decide (q1.1 < (List.length s : Int))))] kr ?_))
  refine oN (nT (vS ?_))
  refine v_cond (decide (q1.1 < (List.length s : Int))) kr (fun h1 => ?_) (fun h1 => ?_)
  ·replace hs := bif_t h1 hs
   refine vK (nT (vS (vB (vS (vT (oR 2 [(5, .int .i64 q1.1), (10, .int .i64 q1.1)] kr ?_))))))
   refine oN (nT (vS (vT (oR 3 [(13, .int .i64 q1.1), (12, .vs 3 (mM enc_Table s)), (11, .fn 58 [] [.ptr 1000000 0 0])] kr ?_))))
   obtain ⟨x1, g1, hs⟩ := bS hs; obtain ⟨g1a, g1b, g1c⟩ := idx_some g1
   refine oP (v := .vp (enc_Table x1) 0) kr kr (loc_indexVs (e := 57) (sz := 3) (k := .i64) (els := (mM enc_Table s)) (cs := (enc_Table x1)) kr kr kr g1a (by rw [g1c]; exact map_get _ (by omega))) ?_
   refine oR 1 [(15, .agg (enc_Table x1))] kr ?_
   obtain ⟨y1, c1, hs⟩ := bS hs
   refine o_loc (F := [(1000000, .box 35 [.int .i64 q1.2.1, .int .i64 q1.2.2.1, .str q1.2.2.2.1, .str q1.2.2.2.2.1, .vs 5 (encs_Expr q1.2.2.2.2.2)])]) (F' := [(1000000, .box 35 [.int .i64 y1.2.1, .int .i64 y1.2.2.1, .str y1.2.2.2.1, .str y1.2.2.2.2.1, .vs 5 (encs_Expr y1.2.2.2.2.2)])]) (v := .bool y1.1) [1000000] kr kr rfl kr (loc_g (R := []) [.agg (enc_Table x1), .ptr 1000000 0 0] [(1000000, 1000000)] (callV_val (first := []) (caps := [.ptr 1000000 0 0]) hbv58 kr kr) (w_expr_context_row_1 x1 q1.2.1 q1.2.2.1 q1.2.2.2.1 q1.2.2.2.2.1 q1.2.2.2.2.2 _ c1) (.cons (.same _) (.cons (.same _) (.nil))) kr kr kr kr kr kr kr kr) kr ?_
   refine oN (nT ?_)
   refine v_cond y1.1 kr (fun h2 => ?_) (fun h2 => ?_)
   ·replace hs := bif_t h2 hs
    refine vS (vT (oR 2 [(4, .int .i64 q1.1), (17, .int .i64 q1.1)] kr ?_))
    refine oN (nT (v_ret (rB (rT (ret_fuel ?_)))))
    refine rB (ret_join ?_)
    refine rT ?_
    obtain rfl := si hs
    replace hs := hk1
    cases hs
    exact fin_ret kr kr kr
   ·replace hs := bif_f h2 hs
    refine vK (nB (nT (vT (oR 2 [(8, .int .i64 (w64 (q1.1 + 1))), (18, .int .i64 (w64 (q1.1 + 1)))] kr ?_))))
    refine oN (nrm_fuel ((w64 (q1.1 + 1)), y1.2.1, y1.2.2.1, y1.2.2.2.1, y1.2.2.2.2.1, y1.2.2.2.2.2) hs ?_)
    exact cut_of [0, 1, 7, 8] [1000000] kr kr kr
  ·replace hs := bif_f h1 hs
   refine v_exit (exit_thenV (exit_fuel ?_))
   refine exit_blkV ?_
   obtain rfl := si hs
   refine nrm_join (q1.2.1, q1.2.2.1, q1.2.2.2.1, q1.2.2.2.2.1, q1.2.2.2.2.2) rfl ?_
   exact cut_of [] [1000000] kr kr kr
 ·subst hz; clear hs; have hs := hk1; clear hk1
  refine nT (vS (vT (oR 1 [(4, .int .i64 (-1))] kr ?_)))
  refine oN (nT (v_ret ?_))
  cases hs
  exact fin_ret kr kr kr
theorem w_expr_context_row_2 (r_ : Entry) (a1_Op : Int) (a1_N : Int) (a1_S : Sr) (a1_Key : Sr) (a1_Args : (List Expr)) (r : Bool × Int × Int × Sr × Sr × (List Expr)) (hs : s_expr_context_row_2 r_ a1_Op a1_N a1_S a1_Key a1_Args = some r) : FnA Tryz.prog 60 [.agg (enc_Entry r_), .ptr 1000000 0 0] [(1000000, .box 35 [.int .i64 a1_Op, .int .i64 a1_N, .str a1_S, .str a1_Key, .vs 5 (encs_Expr a1_Args)])] (.bool r.1) [(1000000, .box 35 [.int .i64 r.2.1, .int .i64 r.2.2.1, .str r.2.2.2.1, .str r.2.2.2.2.1, .vs 5 (encs_Expr r.2.2.2.2.2)])] := by
 refine fnA_of_wp (N := 9) Tryz.func60 rfl rfl rfl fun cK0 => ?_
 unfold s_expr_context_row_2 at hs
 refine v_same (ρ' := [(0, .agg (enc_Entry r_)), (1, .ptr 1000000 0 0)]) rfl rfl ?_
 refine vS (vT (o_runh 2 [(3, .bool false), (2, .ptr 2 0 0)] [(2, .box 40 [.str r_.Name, .int .i64 r_.N]), (1000000, .box 35 [.int .i64 a1_Op, .int .i64 a1_N, .str a1_S, .str a1_Key, .vs 5 (encs_Expr a1_Args)])] kr ?_))
 refine oN (nT (vS (vT (oR 6 [(3, .bool (decide (r_.Name = a1_Key))), (8, .bool (decide (r_.Name = a1_Key))), (7, .str a1_Key), (6, .ptr 1000000 0 3), (5, .str r_.Name), (4, .ptr 2 0 0)] kr ?_))))
 refine oN (nT (v_ret ?_))
 cases hs
 exact fin_ret kr kr kr
theorem w_slices_IndexFunc_3 (s : (List Entry)) (r_Op : Int) (r_N : Int) (r_S : Sr) (r_Key : Sr) (r_Args : (List Expr)) (r : Int × Int × Int × Sr × Sr × (List Expr)) (hs : s_slices_IndexFunc_3 s r_Op r_N r_S r_Key r_Args = some r) : FnA Tryz.prog 59 [.vs 2 (mM enc_Entry s), .fn 60 [] [.ptr 1000000 0 0]] [(1000000, .box 35 [.int .i64 r_Op, .int .i64 r_N, .str r_S, .str r_Key, .vs 5 (encs_Expr r_Args)])] (.int .i64 r.1) [(1000000, .box 35 [.int .i64 r.2.1, .int .i64 r.2.2.1, .str r.2.2.2.1, .str r.2.2.2.2.1, .vs 5 (encs_Expr r.2.2.2.2.2)])] := by
 refine fnA_of_wp (N := 19) Tryz.func59 rfl rfl rfl fun cK0 => ?_
 unfold s_slices_IndexFunc_3 at hs
 refine v_same (ρ' := [(0, .vs 2 (mM enc_Entry s)), (1, .fn 60 [] [.ptr 1000000 0 0])]) rfl rfl ?_
 refine vS (vT (oR 1 [(4, .int .i64 0)] kr ?_))
 refine oN (nT (vS (vS (vT (oR 1 [(6, .vs 2 (mM enc_Entry s))] kr ?_)))))
 refine oP (v := .int .i64 (List.length s : Int)) kr kr (loc_lenVs (sz := 2) (els := (mM enc_Entry s)) kr kr lM) ?_
 refine oR 1 [(8, .int .i64 0)] kr ?_
 refine oN (nT ?_)
 obtain ⟨z1, hs, hk1⟩ := bS hs
 refine v_join (S := Int × Int × Sr × Sr × (List Expr)) (fun u => z1 = .inr u) (fun u => []) (fun u => [(1000000, .box 35 [.int .i64 u.1, .int .i64 u.2.1, .str u.2.2.1, .str u.2.2.2.1, .vs 5 (encs_Expr u.2.2.2.2)])]) ?_ (fun v1 hz => ?_)
 ·refine vB ?_
  refine v_fuel (S := Int × Int × Int × Sr × Sr × (List Expr)) (fun u => [(0, .vs 2 (mM enc_Entry s)), (1, .fn 60 [] [.ptr 1000000 0 0]), (7, .int .i64 (List.length s : Int)), (8, .int .i64 u.1)]) (fun u => [(1000000, .box 35 [.int .i64 u.2.1, .int .i64 u.2.2.1, .str u.2.2.2.1, .str u.2.2.2.2.1, .vs 5 (encs_Expr u.2.2.2.2.2)])]) (s_slices_IndexFunc_3_L1 s) (fun _ => rfl) KK (0, r_Op, r_N, r_S, r_Key, r_Args) hs (cut_of [0, 1, 7, 8] [1000000] kr kr kr) (fun K1 q1 hs => ?_)
  rw [s_slices_IndexFunc_3_L1] at hs
  show WpV cK0 Tryz.prog none 19 _ _ [(0, .vs 2 (mM enc_Entry s)), (1, .fn 60 [] [.ptr 1000000 0 0]), (7, .int .i64 (List.length s : Int)), (8, .int .i64 q1.1)] [(1000000, .box 35 [.int .i64 q1.2.1, .int .i64 q1.2.2.1, .str q1.2.2.2.1, .str q1.2.2.2.2.1, .vs 5 (encs_Expr q1.2.2.2.2.2)])] []
  refine vS (vT (oR 1 [(9, .bool (decide (q1.1 < (List.length s : Int))))] kr ?_))
  refine oN (nT (vS ?_))
  refine v_cond (decide (q1.1 < (List.length s : Int))) kr (fun h1 => ?_) (fun h1 => ?_)
  ·replace hs := bif_t h1 hs
   refine vK (nT (vS (vB (vS (vT (oR 2 [(5, .int .i64 q1.1), (10, .int .i64 q1.1)] kr ?_))))))
   refine oN (nT (vS (vT (oR 3 [(13, .int .i64 q1.1), (12, .vs 2 (mM enc_Entry s)), (11, .fn 60 [] [.ptr 1000000 0 0])] kr ?_))))
   obtain ⟨x1, g1, hs⟩ := bS hs; obtain ⟨g1a, g1b, g1c⟩ := idx_some g1
   refine oP (v := .vp (enc_Entry x1) 0) kr kr (loc_indexVs (e := 40) (sz := 2) (k := .i64) (els := (mM enc_Entry s)) (cs := (enc_Entry x1)) kr kr kr g1a (by rw [g1c]; exact map_get _ (by omega))) ?_
   refine oR 1 [(15, .agg (enc_Entry x1))] kr ?_
   obtain ⟨y1, c1, hs⟩ := bS hs
   refine o_loc (F := [(1000000, .box 35 [.int .i64 q1.2.1, .int .i64 q1.2.2.1, .str q1.2.2.2.1, .str q1.2.2.2.2.1, .vs 5 (encs_Expr q1.2.2.2.2.2)])]) (F' := [(1000000, .box 35 [.int .i64 y1.2.1, .int .i64 y1.2.2.1, .str y1.2.2.2.1, .str y1.2.2.2.2.1, .vs 5 (encs_Expr y1.2.2.2.2.2)])]) (v := .bool y1.1) [1000000] kr kr rfl kr (loc_g (R := []) [.agg (enc_Entry x1), .ptr 1000000 0 0] [(1000000, 1000000)] (callV_val (first := []) (caps := [.ptr 1000000 0 0]) hbv60 kr kr) (w_expr_context_row_2 x1 q1.2.1 q1.2.2.1 q1.2.2.2.1 q1.2.2.2.2.1 q1.2.2.2.2.2 _ c1) (.cons (.same _) (.cons (.same _) (.nil))) kr kr kr kr kr kr kr kr) kr ?_
   refine oN (nT ?_)
   refine v_cond y1.1 kr (fun h2 => ?_) (fun h2 => ?_)
   ·replace hs := bif_t h2 hs
    refine vS (vT (oR 2 [(4, .int .i64 q1.1), (17, .int .i64 q1.1)] kr ?_))
    refine oN (nT (v_ret (rB (rT (ret_fuel ?_)))))
    refine rB (ret_join ?_)
    refine rT ?_
    obtain rfl := si hs
    replace hs := hk1
    cases hs
    exact fin_ret kr kr kr
   ·replace hs := bif_f h2 hs
    refine vK (nB (nT (vT (oR 2 [(8, .int .i64 (w64 (q1.1 + 1))), (18, .int .i64 (w64 (q1.1 + 1)))] kr ?_))))
    refine oN (nrm_fuel ((w64 (q1.1 + 1)), y1.2.1, y1.2.2.1, y1.2.2.2.1, y1.2.2.2.2.1, y1.2.2.2.2.2) hs ?_)
    exact cut_of [0, 1, 7, 8] [1000000] kr kr kr
  ·replace hs := bif_f h1 hs
   refine v_exit (exit_thenV (exit_fuel ?_))
   refine exit_blkV ?_
   obtain rfl := si hs
   refine nrm_join (q1.2.1, q1.2.2.1, q1.2.2.2.1, q1.2.2.2.2.1, q1.2.2.2.2.2) rfl ?_
   exact cut_of [] [1000000] kr kr kr
 ·subst hz; clear hs; have hs := hk1; clear hk1
  refine nT (vS (vT (oR 1 [(4, .int .i64 (-1))] kr ?_)))
  refine oN (nT (v_ret ?_))
  cases hs
  exact fin_ret kr kr kr
theorem w_expr_context_row (c_plan : Plan) (c_known : (List (Sr × Int))) (c_zones : (List Sr)) (e : Expr) (r : Int) (hs : s_expr_context_row c_plan c_known c_zones e = some r) : FnA Tryz.prog 43 [.agg (enc_Plan c_plan ++ [.mp 1000000, .vs 1 (mS c_zones)]), .agg (enc_Expr e)] [(1000000, .map (encM V.str (V.int .i64) c_known))] (.int .i64 r) [(1000000, .map (encM V.str (V.int .i64) c_known))] := by
 refine fnA_of_wp (N := 35) Tryz.func43 rfl rfl rfl fun cK0 => ?_
 unfold s_expr_context_row at hs
 refine v_same (ρ' := [(0, .agg (enc_Plan c_plan ++ [.mp 1000000, .vs 1 (mS c_zones)])), (1, .agg (enc_Expr e))]) rfl rfl ?_
 refine vS (vT (o_runh 3 [(4, .int .i64 0), (3, .ptr 3 0 0), (2, .ptr 2 0 0)] [(3, .box 35 (enc_Expr e)), (2, .box 71 (enc_Plan c_plan ++ [.mp 1000000, .vs 1 (mS c_zones)])), (1000000, .map (encM V.str (V.int .i64) c_known))] kr ?_))
 refine oN (nT (vS (vT (oR 4 [(11, .fn 58 [] [.ptr 3 0 0]), (10, .vs 3 (mM enc_Table c_plan.Tables)), (9, .ptr 2 0 1), (8, .ptr 2 0 0)] kr ?_))))
 obtain ⟨y1, c1, hs⟩ := bS hs
 refine o_loc (F := [(3, .box 35 (enc_Expr e))]) (F' := [(3, .box 35 [.int .i64 y1.2.1, .int .i64 y1.2.2.1, .str y1.2.2.2.1, .str y1.2.2.2.2.1, .vs 5 (encs_Expr y1.2.2.2.2.2)])]) (v := .int .i64 y1.1) [3] kr kr rfl kr (loc_g (R := []) [.vs 3 (mM enc_Table c_plan.Tables), .fn 58 [] [.ptr 3 0 0]] [(1000000, 3)] (callV_func hbv38 kr) (w_slices_IndexFunc_2 c_plan.Tables e.Op e.N e.S e.Key e.Args _ c1) (.cons (.same _) (.cons (.same _) (.nil))) kr kr kr kr kr kr kr kr) kr ?_
 refine oR 1 [(5, .int .i64 y1.1)] kr ?_
 refine oN (nT (vS (vS (vT (oR 2 [(14, .bool (decide (y1.1 < 0))), (13, .int .i64 y1.1)] kr ?_)))))
 refine oN (nT ?_)
 refine v_cond (decide (y1.1 < 0)) kr (fun h1 => ?_) (fun h1 => ?_)
 ·replace hs := bif_t h1 hs
  refine vS (vT (oR 1 [(4, .int .i64 0)] kr ?_))
  refine oN (nT (v_ret (rT ?_)))
  cases hs
  exact fin_ret kr kr kr
 ·replace hs := bif_f h1 hs
  refine vK (nT (vS (vT (oR 4 [(18, .int .i64 y1.1), (17, .vs 3 (mM enc_Table c_plan.Tables)), (16, .ptr 2 0 1), (15, .ptr 2 0 0)] kr ?_))))
  obtain ⟨x1, g1, hs⟩ := bS hs; obtain ⟨g1a, g1b, g1c⟩ := idx_some g1
  refine oP (v := .vp (enc_Table x1) 0) kr kr (loc_indexVs (e := 57) (sz := 3) (k := .i64) (els := (mM enc_Table c_plan.Tables)) (cs := (enc_Table x1)) kr kr kr g1a (by rw [g1c]; exact map_get _ (by omega))) ?_
  refine o_runh 3 [(6, .ptr 6 0 0), (20, .agg (enc_Table x1))] [(6, .box 57 [.str x1.Name, .vs 2 (mM enc_Entry x1.Rows), .int .i64 x1.Else]), (3, .box 35 [.int .i64 y1.2.1, .int .i64 y1.2.2.1, .str y1.2.2.2.1, .str y1.2.2.2.2.1, .vs 5 (encs_Expr y1.2.2.2.2.2)]), (2, .box 71 (enc_Plan c_plan ++ [.mp 1000000, .vs 1 (mS c_zones)])), (1000000, .map (encM V.str (V.int .i64) c_known))] kr ?_
  refine oN (nT (vS (vS (vT (oR 3 [(23, .fn 60 [] [.ptr 3 0 0]), (22, .vs 2 (mM enc_Entry x1.Rows)), (21, .ptr 6 0 1)] kr ?_)))))
  obtain ⟨y2, c2, hs⟩ := bS hs
  refine o_loc (F := [(3, .box 35 [.int .i64 y1.2.1, .int .i64 y1.2.2.1, .str y1.2.2.2.1, .str y1.2.2.2.2.1, .vs 5 (encs_Expr y1.2.2.2.2.2)])]) (F' := [(3, .box 35 [.int .i64 y2.2.1, .int .i64 y2.2.2.1, .str y2.2.2.2.1, .str y2.2.2.2.2.1, .vs 5 (encs_Expr y2.2.2.2.2.2)])]) (v := .int .i64 y2.1) [3] kr kr rfl kr (loc_g (R := []) [.vs 2 (mM enc_Entry x1.Rows), .fn 60 [] [.ptr 3 0 0]] [(1000000, 3)] (callV_func hbv59 kr) (w_slices_IndexFunc_3 x1.Rows y1.2.1 y1.2.2.1 y1.2.2.2.1 y1.2.2.2.2.1 y1.2.2.2.2.2 _ c2) (.cons (.same _) (.cons (.same _) (.nil))) kr kr kr kr kr kr kr kr) kr ?_
  refine oR 1 [(7, .int .i64 y2.1)] kr ?_
  refine oN (nT (vS (vT (oR 2 [(26, .bool (decide (y2.1 ≥ 0))), (25, .int .i64 y2.1)] kr ?_))))
  refine oN (nT ?_)
  refine v_cond (decide (y2.1 ≥ 0)) kr (fun h2 => ?_) (fun h2 => ?_)
  ·replace hs := bif_t h2 hs
   refine vS (vT (oR 3 [(29, .int .i64 y2.1), (28, .vs 2 (mM enc_Entry x1.Rows)), (27, .ptr 6 0 1)] kr ?_))
   obtain ⟨x2, g2, hs⟩ := bS hs; obtain ⟨g2a, g2b, g2c⟩ := idx_some g2
   refine oP (v := .vp (enc_Entry x2) 0) kr kr (loc_indexVs (e := 40) (sz := 2) (k := .i64) (els := (mM enc_Entry x1.Rows)) (cs := (enc_Entry x2)) kr kr kr g2a (by rw [g2c]; exact map_get _ (by omega))) ?_
   refine oR 3 [(4, .int .i64 x2.N), (32, .int .i64 x2.N), (31, .vp (enc_Entry x2) 1)] kr ?_
   refine oN (nT (v_ret (rT ?_)))
   cases hs
   exact fin_ret kr kr kr
  ·replace hs := bif_f h2 hs
   refine vK (nT (vS (vT (oR 3 [(4, .int .i64 x1.Else), (34, .int .i64 x1.Else), (33, .ptr 6 0 2)] kr ?_))))
   refine oN (nT (v_ret ?_))
   cases hs
   exact fin_ret kr kr kr
theorem w_slices_Index_2 (s : (List Sr)) (v : Sr) (r : Int) (hs : s_slices_Index_2 s v = some r) : FnA Tryz.prog 37 [.vs 1 (mS s), .str v] [] (.int .i64 r) [] := by
 refine fnA_of_wp (N := 19) Tryz.func37 rfl rfl rfl fun cK0 => ?_
 unfold s_slices_Index_2 at hs
 refine v_same (ρ' := [(0, .vs 1 (mS s)), (1, .str v)]) rfl rfl ?_
 refine vS (vT (oR 1 [(4, .int .i64 0)] kr ?_))
 refine oN (nT (vS (vS (vT (oR 1 [(6, .vs 1 (mS s))] kr ?_)))))
 refine oP (v := .int .i64 (List.length s : Int)) kr kr (loc_lenVs (sz := 1) (els := (mS s)) kr kr lM) ?_
 refine oR 1 [(8, .int .i64 0)] kr ?_
 refine oN (nT ?_)
 obtain ⟨z1, hs, hk1⟩ := bS hs
 refine v_join (S := Unit) (fun u => z1 = .inr u) (fun u => []) (fun u => []) ?_ (fun v1 hz => ?_)
 ·refine vB ?_
  refine v_fuel (S := Int) (fun u => [(0, .vs 1 (mS s)), (1, .str v), (7, .int .i64 (List.length s : Int)), (8, .int .i64 u)]) (fun u => []) (s_slices_Index_2_L1 s v) (fun _ => rfl) KK 0 hs (cut_of [0, 1, 7, 8] [] kr kr kr) (fun K1 q1 hs => ?_)
  rw [s_slices_Index_2_L1] at hs
  show WpV cK0 Tryz.prog none 19 _ _ [(0, .vs 1 (mS s)), (1, .str v), (7, .int .i64 (List.length s : Int)), (8, .int .i64 q1)] [] []
  refine vS (vT (oR 1 [(9, .bool (decide (q1 < (List.length s : Int))))] kr ?_))
  refine oN (nT (vS ?_))
  refine v_cond (decide (q1 < (List.length s : Int))) kr (fun h1 => ?_) (fun h1 => ?_)
  ·replace hs := bif_t h1 hs
   refine vK (nT (vS (vB (vS (vT (oR 2 [(5, .int .i64 q1), (10, .int .i64 q1)] kr ?_))))))
   refine oN (nT (vS (vT (oR 3 [(13, .int .i64 q1), (12, .vs 1 (mS s)), (11, .str v)] kr ?_))))
   obtain ⟨x1, g1, hs⟩ := bS hs; obtain ⟨g1a, g1b, g1c⟩ := idx_some g1
   refine oP (v := .vp [.str x1] 0) kr kr (loc_indexVs (e := 9) (sz := 1) (k := .i64) (els := (mS s)) (cs := (EV.encS x1)) kr kr kr g1a (by rw [g1c]; exact map_get _ (by omega))) ?_
   refine oR 2 [(16, .bool (decide (v = x1))), (15, .str x1)] kr ?_
   refine oN (nT ?_)
   refine v_cond (decide (v = x1)) kr (fun h2 => ?_) (fun h2 => ?_)
   ·replace hs := bif_t h2 hs
    refine vS (vT (oR 2 [(4, .int .i64 q1), (17, .int .i64 q1)] kr ?_))
    refine oN (nT (v_ret (rB (rT (ret_fuel ?_)))))
    refine rB (ret_join ?_)
    refine rT ?_
    obtain rfl := si hs
    replace hs := hk1
    cases hs
    exact fin_ret kr kr kr
   ·replace hs := bif_f h2 hs
    refine vK (nB (nT (vT (oR 2 [(8, .int .i64 (w64 (q1 + 1))), (18, .int .i64 (w64 (q1 + 1)))] kr ?_))))
    refine oN (nrm_fuel (w64 (q1 + 1)) hs ?_)
    exact cut_of [0, 1, 7, 8] [] kr kr kr
  ·replace hs := bif_f h1 hs
   refine v_exit (exit_thenV (exit_fuel ?_))
   refine exit_blkV ?_
   cases hs
   refine nrm_join () rfl ?_
   exact cut_of [] [] kr kr kr
 ·subst hz; clear hs; have hs := hk1; clear hk1
  refine nT (vS (vT (oR 1 [(4, .int .i64 (-1))] kr ?_)))
  refine oN (nT (v_ret ?_))
  cases hs
  exact fin_ret kr kr kr
theorem w_slices_Contains_2 (s : (List Sr)) (v : Sr) (r : Bool) (hs : s_slices_Contains_2 s v = some r) : FnA Tryz.prog 24 [.vs 1 (mS s), .str v] [] (.bool r) [] := by
 refine fnA_of_wp (N := 9) Tryz.func24 rfl rfl rfl fun cK0 => ?_
 unfold s_slices_Contains_2 at hs
 refine v_same (ρ' := [(0, .vs 1 (mS s)), (1, .str v)]) rfl rfl ?_
 refine vS (vT (oR 1 [(4, .bool false)] kr ?_))
 refine oN (nT (vS (vT (oR 2 [(6, .str v), (5, .vs 1 (mS s))] kr ?_))))
 obtain ⟨y1, c1, hs⟩ := bS hs
 refine oP (v := .int .i64 y1) kr kr (loc_gcall0 (callV_func hbv37 kr) (w_slices_Index_2 s v _ c1) kr) ?_
 refine oR 2 [(4, .bool (decide (y1 ≥ 0))), (8, .bool (decide (y1 ≥ 0)))] kr ?_
 refine oN (nT (v_ret ?_))
 cases hs
 exact fin_ret kr kr kr
theorem w_expr_bit (ok : Bool) (r : Int) (hs : s_expr_bit ok = some r) : FnA Tryz.prog 44 [.bool ok] [] (.int .i64 r) [] := by
 refine fnA_of_wp (N := 4) Tryz.func44 rfl rfl rfl fun cK0 => ?_
 unfold s_expr_bit at hs
 refine v_same (ρ' := [(0, .bool ok)]) rfl rfl ?_
 refine vS (vT (oR 1 [(2, .int .i64 0)] kr ?_))
 refine oN (nT (vS (vS (vT (oR 1 [(3, .bool ok)] kr ?_)))))
 refine oN (nT ?_)
 refine v_cond ok kr (fun h1 => ?_) (fun h1 => ?_)
 ·replace hs := bif_t h1 hs
  refine vS (vT (oR 1 [(2, .int .i64 1)] kr ?_))
  refine oN (nT (v_ret (rT ?_)))
  cases hs
  exact fin_ret kr kr kr
 ·replace hs := bif_f h1 hs
  refine vK (nT (vS (vT (oR 1 [(2, .int .i64 0)] kr ?_))))
  refine oN (nT (v_ret ?_))
  cases hs
  exact fin_ret kr kr kr
theorem w_expr_quotient (a : Int) (b : Int) (r : Int) (hs : s_expr_quotient a b = some r) : FnA Tryz.prog 61 [.int .i64 a, .int .i64 b] [] (.int .i64 r) [] := by
 refine fnA_of_wp (N := 27) Tryz.func61 rfl rfl rfl fun cK0 => ?_
 unfold s_expr_quotient at hs
 refine v_same (ρ' := [(0, .int .i64 a), (1, .int .i64 b)]) rfl rfl ?_
 refine vS (vT (oR 1 [(4, .int .i64 0)] kr ?_))
 refine oN (nT (vS (vS (vT (oR 2 [(8, .bool (decide (b = 0))), (7, .int .i64 b)] kr ?_)))))
 refine oN (nT ?_)
 refine v_cond (decide (b = 0)) kr (fun h1 => ?_) (fun h1 => ?_)
 ·replace hs := bif_t h1 hs
  refine vS (vT (oR 1 [(4, .int .i64 0)] kr ?_))
  refine oN (nT (v_ret (rT ?_)))
  cases hs
  exact fin_ret kr kr kr
 ·replace hs := bif_f h1 hs
  refine vK (nT (vS (vT (oR 2 [(10, .int .i64 b), (9, .int .i64 a)] kr ?_))))
  obtain ⟨_, g1, hs⟩ := bS hs; replace g1 := grd_some g1
  refine oP (v := .int .i64 (w64 (Int.tdiv a b))) kr kr (loc_div (k := .i64) (a := a) (b := b) (by simp) kr kr g1) ?_
  refine oR 1 [(5, .int .i64 (w64 (Int.tdiv a b)))] kr ?_
  refine oN (nT (vS (vS (vT (oR 2 [(13, .int .i64 b), (12, .int .i64 a)] kr ?_)))))
  obtain ⟨_, g2, hs⟩ := bS hs; replace g2 := grd_some g2
  refine oP (v := .int .i64 (Int.tmod a b)) kr kr (loc_div (k := .i64) (a := a) (b := b) (by simp) kr kr g2) ?_
  refine oR 1 [(6, .int .i64 (Int.tmod a b))] kr ?_
  refine oN (nT (vS ?_))
  obtain ⟨z1, hs, hk1⟩ := bS hs
  refine v_join (S := Bool) (fun u => u = z1) (fun u => [(5, .int .i64 (w64 (Int.tdiv a b))), (23, .bool u)]) (fun u => []) ?_ (fun v1 hz => ?_)
  ·refine vT (oR 3 [(17, .bool (!(decide ((Int.tmod a b) = 0)))), (16, .bool (!(decide ((Int.tmod a b) = 0)))), (15, .int .i64 (Int.tmod a b))] kr ?_)
   cases h2 : ((!(decide ((Int.tmod a b) = 0))))
   ·replace hs := bif_f h2 hs
    refine oR 6 [(23, .bool false), (22, .no), (21, .no), (20, .no), (19, .no), (18, .no)] kr ?_
    refine oN ?_
    cases hs
    refine nrm_join false rfl ?_
    exact cut_of [5, 23] [] kr kr kr
   ·replace hs := bif_t h2 hs
    refine oR 6 [(23, .bool (!((decide ((Int.tmod a b) < 0)) == (decide (b < 0))))), (22, .bool (!((decide ((Int.tmod a b) < 0)) == (decide (b < 0))))), (21, .bool (decide (b < 0))), (20, .int .i64 b), (19, .bool (decide ((Int.tmod a b) < 0))), (18, .int .i64 (Int.tmod a b))] kr ?_
    refine oN ?_
    obtain rfl := si hs
    refine nrm_join (!((decide ((Int.tmod a b) < 0)) == (decide (b < 0)))) rfl ?_
    exact cut_of [5, 23] [] kr kr kr
  ·subst hz; clear hs; have hs := hk1; clear hk1
   refine nT ?_
   obtain ⟨z2, hs, hk2⟩ := bS hs
   refine v_join (S := Int) (fun u => u = z2) (fun u => [(5, .int .i64 u)]) (fun u => []) ?_ (fun v2 hz => ?_)
   ·refine v_cond v1 kr (fun h3 => ?_) (fun h3 => ?_)
    ·replace hs := bif_t h3 hs
     refine vT (oR 3 [(5, .int .i64 (w64 ((w64 (Int.tdiv a b)) - 1))), (25, .int .i64 (w64 ((w64 (Int.tdiv a b)) - 1))), (24, .int .i64 (w64 (Int.tdiv a b)))] kr ?_)
     refine oN ?_
     obtain rfl := si hs
     refine nrm_join (w64 ((w64 (Int.tdiv a b)) - 1)) rfl ?_
     exact cut_of [5] [] kr kr kr
    ·replace hs := bif_f h3 hs
     refine vK ?_
     obtain rfl := si hs
     refine nrm_join (w64 (Int.tdiv a b)) rfl ?_
     exact cut_of [5] [] kr kr kr
   ·subst hz; clear hs; have hs := hk2; clear hk2
    refine nT (vS (vT (oR 2 [(4, .int .i64 v2), (26, .int .i64 v2)] kr ?_)))
    refine oN (nT (v_ret ?_))
    cases hs
    exact fin_ret kr kr kr
theorem w_expr_binary (op : Int) (a : Int) (b : Int) (r : Int) (hs : s_expr_binary op a b = some r) : FnA Tryz.prog 45 [.int .i64 op, .int .i64 a, .int .i64 b] [] (.int .i64 r) [] := by
 refine fnA_of_wp (N := 73) Tryz.func45 rfl rfl rfl fun cK0 => ?_
 unfold s_expr_binary at hs
 refine v_same (ρ' := [(0, .int .i64 op), (1, .int .i64 a), (2, .int .i64 b)]) rfl rfl ?_
 refine vS (vT (oR 1 [(6, .int .i64 0)] kr ?_))
 refine oN (nT (vS (vS (vT (oR 1 [(7, .int .i64 op)] kr ?_)))))
 refine oN (nT (vB (vS (vT (oR 2 [(8, .bool (decide (op = 4))), (9, .bool (decide (op = 4)))] kr ?_)))))
 refine oN (nT ?_)
 refine v_cond (decide (op = 4)) kr (fun h1 => ?_) (fun h1 => ?_)
 ·replace hs := bif_t h1 hs
  refine vS (vT (oR 4 [(6, .int .i64 (w64 (a + b))), (12, .int .i64 (w64 (a + b))), (11, .int .i64 b), (10, .int .i64 a)] kr ?_))
  refine oN (nT (v_ret (rB (rT ?_))))
  cases hs
  exact fin_ret kr kr kr
 ·replace hs := bif_f h1 hs
  refine vS (vT (oR 2 [(13, .bool (decide (op = 5))), (14, .bool (decide (op = 5)))] kr ?_))
  refine oN (nT ?_)
  refine v_cond (decide (op = 5)) kr (fun h2 => ?_) (fun h2 => ?_)
  ·replace hs := bif_t h2 hs
   refine vS (vT (oR 4 [(6, .int .i64 (w64 (a - b))), (17, .int .i64 (w64 (a - b))), (16, .int .i64 b), (15, .int .i64 a)] kr ?_))
   refine oN (nT (v_ret (rB (rT ?_))))
   cases hs
   exact fin_ret kr kr kr
  ·replace hs := bif_f h2 hs
   refine vS (vT (oR 2 [(18, .bool (decide (op = 6))), (19, .bool (decide (op = 6)))] kr ?_))
   refine oN (nT ?_)
   refine v_cond (decide (op = 6)) kr (fun h3 => ?_) (fun h3 => ?_)
   ·replace hs := bif_t h3 hs
    refine vS (vT (oR 4 [(6, .int .i64 (w64 (a * b))), (22, .int .i64 (w64 (a * b))), (21, .int .i64 b), (20, .int .i64 a)] kr ?_))
    refine oN (nT (v_ret (rB (rT ?_))))
    cases hs
    exact fin_ret kr kr kr
   ·replace hs := bif_f h3 hs
    refine vS (vT (oR 2 [(23, .bool (decide (op = 7))), (24, .bool (decide (op = 7)))] kr ?_))
    refine oN (nT ?_)
    refine v_cond (decide (op = 7)) kr (fun h4 => ?_) (fun h4 => ?_)
    ·replace hs := bif_t h4 hs
     refine vS (vT (oR 2 [(26, .int .i64 b), (25, .int .i64 a)] kr ?_))
     obtain ⟨y1, c1, hs⟩ := bS hs
     refine oP (v := .int .i64 y1) kr kr (loc_gcall0 (callV_func hbv61 kr) (w_expr_quotient a b _ c1) kr) ?_
     refine oR 1 [(6, .int .i64 y1)] kr ?_
     refine oN (nT (v_ret (rB (rT ?_))))
     cases hs
     exact fin_ret kr kr kr
    ·replace hs := bif_f h4 hs
     refine vS (vT (oR 2 [(28, .bool (decide (op = 8))), (29, .bool (decide (op = 8)))] kr ?_))
     refine oN (nT ?_)
     refine v_cond (decide (op = 8)) kr (fun h5 => ?_) (fun h5 => ?_)
     ·replace hs := bif_t h5 hs
      refine vS (vS (vT (oR 2 [(31, .bool (decide (b = 0))), (30, .int .i64 b)] kr ?_)))
      refine oN (nT ?_)
      refine v_cond (decide (b = 0)) kr (fun h6 => ?_) (fun h6 => ?_)
      ·replace hs := bif_t h6 hs
       refine vS (vT (oR 1 [(6, .int .i64 0)] kr ?_))
       refine oN (nT (v_ret (rT (rB (rT ?_)))))
       cases hs
       exact fin_ret kr kr kr
      ·replace hs := bif_f h6 hs
       refine vK (nT (vS (vT (oR 3 [(34, .int .i64 b), (33, .int .i64 a), (32, .int .i64 a)] kr ?_))))
       obtain ⟨y2, c2, hs⟩ := bS hs
       refine oP (v := .int .i64 y2) kr kr (loc_gcall0 (callV_func hbv61 kr) (w_expr_quotient a b _ c2) kr) ?_
       refine oR 4 [(6, .int .i64 (w64 (a - (w64 (y2 * b))))), (38, .int .i64 (w64 (a - (w64 (y2 * b))))), (37, .int .i64 (w64 (y2 * b))), (36, .int .i64 b)] kr ?_
       refine oN (nT (v_ret (rB (rT ?_))))
       cases hs
       exact fin_ret kr kr kr
     ·replace hs := bif_f h5 hs
      refine vS (vT (oR 2 [(39, .bool (decide (op = 10))), (40, .bool (decide (op = 10)))] kr ?_))
      refine oN (nT ?_)
      refine v_cond (decide (op = 10)) kr (fun h7 => ?_) (fun h7 => ?_)
      ·replace hs := bif_t h7 hs
       refine vS (vT (oR 3 [(43, .bool (decide (a = b))), (42, .int .i64 b), (41, .int .i64 a)] kr ?_))
       obtain ⟨y3, c3, hs⟩ := bS hs
       refine oP (v := .int .i64 y3) kr kr (loc_gcall0 (callV_func hbv44 kr) (w_expr_bit (decide (a = b)) _ c3) kr) ?_
       refine oR 1 [(6, .int .i64 y3)] kr ?_
       refine oN (nT (v_ret (rB (rT ?_))))
       cases hs
       exact fin_ret kr kr kr
      ·replace hs := bif_f h7 hs
       refine vS (vT (oR 2 [(45, .bool (decide (op = 11))), (46, .bool (decide (op = 11)))] kr ?_))
       refine oN (nT ?_)
       refine v_cond (decide (op = 11)) kr (fun h8 => ?_) (fun h8 => ?_)
       ·replace hs := bif_t h8 hs
        refine vS (vT (oR 3 [(49, .bool (decide (a < b))), (48, .int .i64 b), (47, .int .i64 a)] kr ?_))
        obtain ⟨y4, c4, hs⟩ := bS hs
        refine oP (v := .int .i64 y4) kr kr (loc_gcall0 (callV_func hbv44 kr) (w_expr_bit (decide (a < b)) _ c4) kr) ?_
        refine oR 1 [(6, .int .i64 y4)] kr ?_
        refine oN (nT (v_ret (rB (rT ?_))))
        cases hs
        exact fin_ret kr kr kr
       ·replace hs := bif_f h8 hs
        refine vS (vT (oR 2 [(51, .bool (decide (op = 12))), (52, .bool (decide (op = 12)))] kr ?_))
        refine oN (nT ?_)
        refine v_cond (decide (op = 12)) kr (fun h9 => ?_) (fun h9 => ?_)
        ·replace hs := bif_t h9 hs
         refine vS (vT (oR 3 [(55, .bool (decide (a ≤ b))), (54, .int .i64 b), (53, .int .i64 a)] kr ?_))
         obtain ⟨y5, c5, hs⟩ := bS hs
         refine oP (v := .int .i64 y5) kr kr (loc_gcall0 (callV_func hbv44 kr) (w_expr_bit (decide (a ≤ b)) _ c5) kr) ?_
         refine oR 1 [(6, .int .i64 y5)] kr ?_
         refine oN (nT (v_ret (rB (rT ?_))))
         cases hs
         exact fin_ret kr kr kr
        ·replace hs := bif_f h9 hs
         refine vS (vT (oR 2 [(57, .bool (decide (op = 13))), (58, .bool (decide (op = 13)))] kr ?_))
         refine oN (nT ?_)
         refine v_cond (decide (op = 13)) kr (fun h10 => ?_) (fun h10 => ?_)
         ·replace hs := bif_t h10 hs
          refine vS ?_
          obtain ⟨z1, hs, hk1⟩ := bS hs
          refine v_join (S := Int) (fun u => u = z1) (fun u => [(6, .int .i64 u)]) (fun u => []) ?_ (fun v1 hz => ?_)
          ·refine vT (oR 3 [(61, .bool (!(decide (a = 0)))), (60, .bool (!(decide (a = 0)))), (59, .int .i64 a)] kr ?_)
           cases h11 : ((!(decide (a = 0))))
           ·replace hs := bif_f h11 hs
            refine oR 3 [(64, .bool false), (63, .no), (62, .no)] kr ?_
            obtain ⟨y6, c6, hs⟩ := bS hs
            refine oP (v := .int .i64 y6) kr kr (loc_gcall0 (callV_func hbv44 kr) (w_expr_bit false _ c6) kr) ?_
            refine oR 1 [(6, .int .i64 y6)] kr ?_
            refine oN ?_
            obtain rfl := si hs
            refine nrm_join y6 rfl ?_
            exact cut_of [6] [] kr kr kr
           ·replace hs := bif_t h11 hs
            refine oR 3 [(64, .bool (!(decide (b = 0)))), (63, .bool (!(decide (b = 0)))), (62, .int .i64 b)] kr ?_
            obtain ⟨y7, c7, hs⟩ := bS hs
            refine oP (v := .int .i64 y7) kr kr (loc_gcall0 (callV_func hbv44 kr) (w_expr_bit (!(decide (b = 0))) _ c7) kr) ?_
            refine oR 1 [(6, .int .i64 y7)] kr ?_
            refine oN ?_
            obtain rfl := si hs
            refine nrm_join y7 rfl ?_
            exact cut_of [6] [] kr kr kr
          ·subst hz; clear hs; have hs := hk1; clear hk1
           refine nT (v_ret (rB (rT ?_)))
           cases hs
           exact fin_ret kr kr kr
         ·replace hs := bif_f h10 hs
          refine vK (nB (nT (vS ?_)))
          obtain ⟨z2, hs, hk2⟩ := bS hs
          refine v_join (S := Int) (fun u => u = z2) (fun u => [(6, .int .i64 u)]) (fun u => []) ?_ (fun v2 hz => ?_)
          ·refine vT (oR 3 [(68, .bool (!(decide (a = 0)))), (67, .bool (!(decide (a = 0)))), (66, .int .i64 a)] kr ?_)
           cases h12 : ((!(decide (a = 0))))
           ·replace hs := bif_f h12 hs
            refine oR 3 [(71, .bool (!(decide (b = 0)))), (70, .bool (!(decide (b = 0)))), (69, .int .i64 b)] kr ?_
            obtain ⟨y8, c8, hs⟩ := bS hs
            refine oP (v := .int .i64 y8) kr kr (loc_gcall0 (callV_func hbv44 kr) (w_expr_bit (!(decide (b = 0))) _ c8) kr) ?_
            refine oR 1 [(6, .int .i64 y8)] kr ?_
            refine oN ?_
            obtain rfl := si hs
            refine nrm_join y8 rfl ?_
            exact cut_of [6] [] kr kr kr
           ·replace hs := bif_t h12 hs
            refine oR 3 [(71, .bool true), (70, .no), (69, .no)] kr ?_
            obtain ⟨y9, c9, hs⟩ := bS hs
            refine oP (v := .int .i64 y9) kr kr (loc_gcall0 (callV_func hbv44 kr) (w_expr_bit true _ c9) kr) ?_
            refine oR 1 [(6, .int .i64 y9)] kr ?_
            refine oN ?_
            obtain rfl := si hs
            refine nrm_join y9 rfl ?_
            exact cut_of [6] [] kr kr kr
          ·subst hz; clear hs; have hs := hk2; clear hk2
           refine nT (v_ret ?_)
           cases hs
           exact fin_ret kr kr kr
theorem ws_expr_context_value (nF : Nat) (ih_expr_context_value : ∀ (c_plan : Plan) (c_known : (List (Sr × Int))) (c_zones : (List Sr)) (e : Expr) (r : Int), s_expr_context_value nF c_plan c_known c_zones e = some r → FnA Tryz.prog 32 [.agg (enc_Plan c_plan ++ [.mp 1000000, .vs 1 (mS c_zones)]), .agg (enc_Expr e)] [(1000000, .map (encM V.str (V.int .i64) c_known))] (.int .i64 r) [(1000000, .map (encM V.str (V.int .i64) c_known))]) (c_plan : Plan) (c_known : (List (Sr × Int))) (c_zones : (List Sr)) (e : Expr) (r : Int) (hs : s_expr_context_value (nF + 1) c_plan c_known c_zones e = some r) : FnA Tryz.prog 32 [.agg (enc_Plan c_plan ++ [.mp 1000000, .vs 1 (mS c_zones)]), .agg (enc_Expr e)] [(1000000, .map (encM V.str (V.int .i64) c_known))] (.int .i64 r) [(1000000, .map (encM V.str (V.int .i64) c_known))] := by
 refine fnA_of_wp (N := 102) Tryz.func32 rfl rfl rfl fun cK0 => ?_
 rw [s_expr_context_value] at hs
 refine v_same (ρ' := [(0, .agg (enc_Plan c_plan ++ [.mp 1000000, .vs 1 (mS c_zones)])), (1, .agg (enc_Expr e))]) rfl rfl ?_
 refine vS (vT (o_runh 3 [(4, .int .i64 0), (3, .ptr 3 0 0), (2, .ptr 2 0 0)] [(3, .box 35 (enc_Expr e)), (2, .box 71 (enc_Plan c_plan ++ [.mp 1000000, .vs 1 (mS c_zones)])), (1000000, .map (encM V.str (V.int .i64) c_known))] kr ?_))
 refine oN (nT (vS (vT (oR 1 [(5, .nils)] kr ?_))))
 refine oN (nT (vS (vS (vT (oR 2 [(9, .vs 5 (encs_Expr e.Args)), (8, .ptr 3 0 4)] kr ?_)))))
 refine oP (v := .int .i64 (List.length e.Args : Int)) kr kr (loc_lenVs (sz := 5) (els := (encs_Expr e.Args)) kr kr (by rw [encs_Expr_eq, List.length_map])) ?_
 refine oR 1 [(11, .int .i64 0)] kr ?_
 refine oN (nT ?_)
 obtain ⟨z1, hs, hk1⟩ := bS hs
 refine v_join (S := (List Int)) (fun u => u = z1) (fun u => [(2, .ptr 2 0 0), (3, .ptr 3 0 0), (5, .sl 1 2000035 ((u).length) 0 ((u).length))]) (fun u => [(3, .box 35 (enc_Expr e)), (2, .box 71 (enc_Plan c_plan ++ [.mp 1000000, .vs 1 (mS c_zones)])), (1000000, .map (encM V.str (V.int .i64) c_known)), (2000035, .row 3 1 0 (mI u))]) ?_ (fun v1 hz => ?_)
 ·refine vB ?_
  refine v_fuel (S := Int × (List Int)) (fun u => [(2, .ptr 2 0 0), (3, .ptr 3 0 0), (5, .sl 1 2000035 ((u.2).length) 0 ((u.2).length)), (9, .vs 5 (encs_Expr e.Args)), (10, .int .i64 (List.length e.Args : Int)), (11, .int .i64 u.1)]) (fun u => [(3, .box 35 (enc_Expr e)), (2, .box 71 (enc_Plan c_plan ++ [.mp 1000000, .vs 1 (mS c_zones)])), (1000000, .map (encM V.str (V.int .i64) c_known)), (2000035, .row 3 1 0 (mI u.2))]) (s_expr_context_value_L1 (s_expr_context_value nF) c_plan c_known c_zones e) (fun _ => rfl) KK (0, []) hs (Cut.trans (cut_nilRow 5 2000035 3 1 rfl kr kr) (cut_of [2, 3, 5, 9, 10, 11] [3, 2, 1000000, 2000035] kr kr kr)) (fun K1 q1 hs => ?_)
  rw [s_expr_context_value_L1] at hs
  show WpV cK0 Tryz.prog none 102 _ _ [(2, .ptr 2 0 0), (3, .ptr 3 0 0), (5, .sl 1 2000035 ((q1.2).length) 0 ((q1.2).length)), (9, .vs 5 (encs_Expr e.Args)), (10, .int .i64 (List.length e.Args : Int)), (11, .int .i64 q1.1)] [(3, .box 35 (enc_Expr e)), (2, .box 71 (enc_Plan c_plan ++ [.mp 1000000, .vs 1 (mS c_zones)])), (1000000, .map (encM V.str (V.int .i64) c_known)), (2000035, .row 3 1 0 (mI q1.2))] []
  refine vS (vT (oR 1 [(12, .bool (decide (q1.1 < (List.length e.Args : Int))))] kr ?_))
  refine oN (nT (vS ?_))
  refine v_cond (decide (q1.1 < (List.length e.Args : Int))) kr (fun h1 => ?_) (fun h1 => ?_)
  ·replace hs := bif_t h1 hs
   refine vK (nT (vS ?_))
   obtain ⟨z2, hs, hk2⟩ := bS hs
   refine v_join (S := (List Int)) (fun u => u = z2) (fun u => [(2, .ptr 2 0 0), (3, .ptr 3 0 0), (5, .sl 1 2000035 ((u).length) 0 ((u).length)), (9, .vs 5 (encs_Expr e.Args)), (10, .int .i64 (List.length e.Args : Int)), (11, .int .i64 q1.1)]) (fun u => [(2000035, .row 3 1 0 (mI u)), (3, .box 35 (enc_Expr e)), (2, .box 71 (enc_Plan c_plan ++ [.mp 1000000, .vs 1 (mS c_zones)])), (1000000, .map (encM V.str (V.int .i64) c_known))]) ?_ (fun v2 hz => ?_)
   ·refine vB (vS (vT (oR 1 [(13, .int .i64 q1.1)] kr ?_)))
    obtain ⟨x1, g1, hs⟩ := bS hs; obtain ⟨g1a, g1b, g1c⟩ := idx_some g1
    refine oP (v := .vp (enc_Expr x1) 0) kr kr (loc_indexVs (e := 35) (sz := 5) (k := .i64) (els := (encs_Expr e.Args)) (cs := (enc_Expr x1)) kr kr kr g1a (by rw [g1c, encs_Expr_eq]; exact map_get _ (by omega))) ?_
    refine o_runh 4 [(6, .int .i64 q1.1), (7, .ptr 7 0 0), (15, .agg (enc_Expr x1))] [(7, .box 35 (enc_Expr x1)), (3, .box 35 (enc_Expr e)), (2, .box 71 (enc_Plan c_plan ++ [.mp 1000000, .vs 1 (mS c_zones)])), (1000000, .map (encM V.str (V.int .i64) c_known)), (2000035, .row 3 1 0 (mI q1.2))] kr ?_
    refine oN (nT (vS (vS ?_)))
    obtain ⟨z3, hs, hk3⟩ := bS hs
    refine v_join (S := Bool) (fun u => u = z3) (fun u => [(2, .ptr 2 0 0), (3, .ptr 3 0 0), (5, .sl 1 2000035 ((q1.2).length) 0 ((q1.2).length)), (7, .ptr 7 0 0), (9, .vs 5 (encs_Expr e.Args)), (10, .int .i64 (List.length e.Args : Int)), (11, .int .i64 q1.1), (31, .bool u)]) (fun u => [(7, .box 35 (enc_Expr x1)), (3, .box 35 (enc_Expr e)), (2, .box 71 (enc_Plan c_plan ++ [.mp 1000000, .vs 1 (mS c_zones)])), (1000000, .map (encM V.str (V.int .i64) c_known)), (2000035, .row 3 1 0 (mI q1.2))]) ?_ (fun v3 hz => ?_)
    ·refine vT (oR 4 [(19, .bool (decide (e.Op = 16))), (18, .bool (decide (e.Op = 16))), (17, .int .i64 e.Op), (16, .ptr 3 0 0)] kr ?_)
     cases h2 : ((decide (e.Op = 16)))
     ·replace hs := bif_f h2 hs
      refine oR 12 [(31, .bool false), (30, .no), (29, .no), (28, .no), (27, .no), (26, .no), (25, .no), (24, .no), (23, .bool false), (22, .bool false), (21, .no), (20, .no)] kr ?_
      refine oN ?_
      cases hs
      refine nrm_join false rfl ?_
      exact cut_of [2, 3, 5, 7, 9, 10, 11, 31] [7, 3, 2, 1000000, 2000035] kr kr kr
     ·replace hs := bif_t h2 hs
      refine oR 4 [(23, .bool (decide (q1.1 > 0))), (22, .bool (decide (q1.1 > 0))), (21, .bool (decide (q1.1 > 0))), (20, .int .i64 q1.1)] kr ?_
      cases h3 : ((decide (q1.1 > 0)))
      ·replace hs := bif_f h3 hs
       refine oR 8 [(31, .bool false), (30, .no), (29, .no), (28, .no), (27, .no), (26, .no), (25, .no), (24, .no)] kr ?_
       refine oN ?_
       cases hs
       refine nrm_join false rfl ?_
       exact cut_of [2, 3, 5, 7, 9, 10, 11, 31] [7, 3, 2, 1000000, 2000035] kr kr kr
      ·replace hs := bif_t h3 hs
       refine oR 1 [(24, .sl 1 2000035 ((q1.2).length) 0 ((q1.2).length))] kr ?_
       obtain ⟨⟨g2a, g2b⟩, hs⟩ := bG hs
       refine oP (v := .ptr 2000035 ((q1.2).length) ((Int.toNat 0) * 1 + 0)) kr kr (loc_indexRowT (e := 3) (sz := 1) (kk := 2000035) (L := (q1.2).length) (n := (q1.2).length) (k := .i64) (i := 0) kr kr kr g2a g2b) ?_
       obtain ⟨e1, he1, hs⟩ := bE hs
       refine o_loc (F := [(2000035, .row 3 1 0 (mI q1.2))]) (F' := [(2000035, .row 3 1 0 (mI q1.2))]) (v := .int .i64 e1) [2000035] kr kr rfl kr (loc_loadRow (L := (q1.2).length) (off := (Int.toNat 0) * 1 + 0) (els := (mI q1.2)) (cs := [.int .i64 e1]) (Int.toNat 0) 0 kr lh rfl (by rw [← he1]; exact map_get _ (by first | omega | (simp only [List.length_set, cpyT_length]; omega))) kr) kr ?_
       refine oR 5 [(31, .bool (!((!(decide (e1 = 0))) == (decide (q1.1 = 1))))), (30, .bool (!((!(decide (e1 = 0))) == (decide (q1.1 = 1))))), (29, .bool (decide (q1.1 = 1))), (28, .int .i64 q1.1), (27, .bool (!(decide (e1 = 0))))] kr ?_
       refine oN ?_
       obtain rfl := si hs
       refine nrm_join (!((!(decide (e1 = 0))) == (decide (q1.1 = 1)))) rfl ?_
       exact cut_of [2, 3, 5, 7, 9, 10, 11, 31] [7, 3, 2, 1000000, 2000035] kr kr kr
    ·subst hz; clear hs; have hs := hk3; clear hk3
     refine nT ?_
     refine v_cond v3 kr (fun h4 => ?_) (fun h4 => ?_)
     ·replace hs := bif_t h4 hs
      refine vS (vT (o_runh 2 [(33, .sl 1 33 1 0 1), (32, .sl 1 2000035 ((q1.2).length) 0 ((q1.2).length))] [(33, .row 3 1 0 (mI [0])), (7, .box 35 (enc_Expr x1)), (3, .box 35 (enc_Expr e)), (2, .box 71 (enc_Plan c_plan ++ [.mp 1000000, .vs 1 (mS c_zones)])), (1000000, .map (encM V.str (V.int .i64) c_known)), (2000035, .row 3 1 0 (mI q1.2))] kr ?_))
      obtain ⟨_, g3, hs⟩ := bS hs; replace g3 := grd_some g3
      refine o_loc (F := [(2000035, .row 3 1 0 (mI q1.2)), (33, .row 3 1 0 (mI [0]))]) (F' := [(2000035, .row 3 1 0 (mI (q1.2 ++ [0]))), (33, .row 3 1 0 (mI [0]))]) (v := .sl 1 2000035 (((q1.2 ++ [0])).length) 0 (((q1.2 ++ [0])).length)) [2000035, 33] kr kr rfl kr (loc_appendT (e := 3) (sz := 1) (bytes := 8) (L := (q1.2).length) (els := (mI q1.2)) (ys := (mI [0])) kr kr (by first | exact List.length_map .. | rfl) (.sl (t := 3) (fz := 0) (ys := (mI [0])) kr kr) (map_ones EV.encI (fun _ => rfl) _) (map_lens EV.encI (fun _ => rfl) _) kr (by first | exact (List.map_append ..).symm | rfl | simp only [List.map_nil, List.nil_append]) (List.length_map ..) g3 (by omega)) kr ?_
      refine oR 1 [(5, .sl 1 2000035 (((q1.2 ++ [0])).length) 0 (((q1.2 ++ [0])).length))] kr ?_
      refine oN (nT (v_exit (exit_thenV (exit_blkV ?_))))
      obtain rfl := si hs
      refine nrm_join (q1.2 ++ [0]) rfl ?_
      exact cut_of [2, 3, 5, 9, 10, 11] [2000035, 3, 2, 1000000] kr kr kr
     ·replace hs := bif_f h4 hs
      refine vK (nT (vT (oR 3 [(37, .agg (enc_Expr x1)), (36, .agg (enc_Plan c_plan ++ [.mp 1000000, .vs 1 (mS c_zones)])), (35, .sl 1 2000035 ((q1.2).length) 0 ((q1.2).length))] kr ?_)))
      obtain ⟨y1, c1, hs⟩ := bS hs
      refine o_loc (F := [(1000000, .map (encM V.str (V.int .i64) c_known))]) (F' := [(1000000, .map (encM V.str (V.int .i64) c_known))]) (v := .int .i64 y1) [1000000] kr kr rfl kr (loc_g (R := []) [.agg (enc_Plan c_plan ++ [.mp 1000000, .vs 1 (mS c_zones)]), .agg (enc_Expr x1)] [(1000000, 1000000)] (callV_func hbv32 kr) (ih_expr_context_value c_plan c_known c_zones x1 _ c1) (.cons (.same _) (.cons (.same _) (.nil))) kr kr kr kr kr kr kr kr) kr ?_
      refine o_runh 1 [(39, .sl 1 39 1 0 1)] [(39, .row 3 1 0 (mI [y1])), (1000000, .map (encM V.str (V.int .i64) c_known)), (7, .box 35 (enc_Expr x1)), (3, .box 35 (enc_Expr e)), (2, .box 71 (enc_Plan c_plan ++ [.mp 1000000, .vs 1 (mS c_zones)])), (2000035, .row 3 1 0 (mI q1.2))] kr ?_
      obtain ⟨_, g4, hs⟩ := bS hs; replace g4 := grd_some g4
      refine o_loc (F := [(2000035, .row 3 1 0 (mI q1.2)), (39, .row 3 1 0 (mI [y1]))]) (F' := [(2000035, .row 3 1 0 (mI (q1.2 ++ [y1]))), (39, .row 3 1 0 (mI [y1]))]) (v := .sl 1 2000035 (((q1.2 ++ [y1])).length) 0 (((q1.2 ++ [y1])).length)) [2000035, 39] kr kr rfl kr (loc_appendT (e := 3) (sz := 1) (bytes := 8) (L := (q1.2).length) (els := (mI q1.2)) (ys := (mI [y1])) kr kr (by first | exact List.length_map .. | rfl) (.sl (t := 3) (fz := 0) (ys := (mI [y1])) kr kr) (map_ones EV.encI (fun _ => rfl) _) (map_lens EV.encI (fun _ => rfl) _) kr (by first | exact (List.map_append ..).symm | rfl | simp only [List.map_nil, List.nil_append]) (List.length_map ..) g4 (by omega)) kr ?_
      refine oR 1 [(5, .sl 1 2000035 (((q1.2 ++ [y1])).length) 0 (((q1.2 ++ [y1])).length))] kr ?_
      refine oN (nB ?_)
      obtain rfl := si hs
      refine nrm_join (q1.2 ++ [y1]) rfl ?_
      exact cut_of [2, 3, 5, 9, 10, 11] [2000035, 3, 2, 1000000] kr kr kr
   ·subst hz; clear hs; have hs := hk2; clear hk2
    refine nT (vT (oR 2 [(11, .int .i64 (w64 (q1.1 + 1))), (41, .int .i64 (w64 (q1.1 + 1)))] kr ?_))
    refine oN (nrm_fuel ((w64 (q1.1 + 1)), v2) hs ?_)
    exact cut_of [2, 3, 5, 9, 10, 11] [3, 2, 1000000, 2000035] kr kr kr
  ·replace hs := bif_f h1 hs
   refine v_exit (exit_thenV (exit_fuel ?_))
   refine exit_blkV ?_
   obtain rfl := si hs
   refine nrm_join q1.2 rfl ?_
   exact cut_of [2, 3, 5] [3, 2, 1000000, 2000035] kr kr kr
 ·subst hz; clear hs; have hs := hk1; clear hk1
  refine nT (vS (vS (vT (oR 2 [(43, .int .i64 e.Op), (42, .ptr 3 0 0)] kr ?_))))
  refine oN (nT (vB (vS (vT (oR 2 [(44, .bool (decide (e.Op = 0))), (45, .bool (decide (e.Op = 0)))] kr ?_)))))
  refine oN (nT ?_)
  refine v_cond (decide (e.Op = 0)) kr (fun h5 => ?_) (fun h5 => ?_)
  ·replace hs := bif_t h5 hs
   refine vS (vT (oR 3 [(4, .int .i64 e.N), (47, .int .i64 e.N), (46, .ptr 3 0 1)] kr ?_))
   refine oN (nT (v_ret (rB (rT ?_))))
   cases hs
   exact fin_ret kr kr kr
  ·replace hs := bif_f h5 hs
   refine vS (vT (oR 2 [(48, .bool (decide (e.Op = 1))), (49, .bool (decide (e.Op = 1)))] kr ?_))
   refine oN (nT ?_)
   refine v_cond (decide (e.Op = 1)) kr (fun h6 => ?_) (fun h6 => ?_)
   ·replace hs := bif_t h6 hs
    refine vS (vT (oR 4 [(53, .str e.S), (52, .ptr 3 0 2), (51, .mp 1000000), (50, .ptr 2 0 8)] kr ?_))
    refine o_loc (F := [(1000000, .map (encM V.str (V.int .i64) c_known))]) (F' := [(1000000, .map (encM V.str (V.int .i64) c_known))]) (v := .int .i64 (Option.getD (mfind e.S c_known) 0)) [1000000] kr kr rfl kr (loc_lookup (et := 3) (f := V.str) (g := (V.int .i64)) (l := c_known) (a := e.S) (z := 0) (zv := .int .i64 0) false kr kok9 kr (fun _ _ _ h => h) kr kr) kr ?_
    refine oR 1 [(4, .int .i64 (Option.getD (mfind e.S c_known) 0))] kr ?_
    refine oN (nT (v_ret (rB (rT ?_))))
    cases hs
    exact fin_ret kr kr kr
   ·replace hs := bif_f h6 hs
    refine vS (vT (oR 2 [(55, .bool (decide (e.Op = 2))), (56, .bool (decide (e.Op = 2)))] kr ?_))
    refine oN (nT ?_)
    refine v_cond (decide (e.Op = 2)) kr (fun h7 => ?_) (fun h7 => ?_)
    ·replace hs := bif_t h7 hs
     refine vS (vT (oR 2 [(58, .agg (enc_Expr e)), (57, .agg (enc_Plan c_plan ++ [.mp 1000000, .vs 1 (mS c_zones)]))] kr ?_))
     obtain ⟨y2, c2, hs⟩ := bS hs
     refine o_loc (F := [(1000000, .map (encM V.str (V.int .i64) c_known))]) (F' := [(1000000, .map (encM V.str (V.int .i64) c_known))]) (v := .int .i64 y2) [1000000] kr kr rfl kr (loc_g (R := []) [.agg (enc_Plan c_plan ++ [.mp 1000000, .vs 1 (mS c_zones)]), .agg (enc_Expr e)] [(1000000, 1000000)] (callV_func hbv43 kr) (w_expr_context_row c_plan c_known c_zones e _ c2) (.cons (.same _) (.cons (.same _) (.nil))) kr kr kr kr kr kr kr kr) kr ?_
     refine oR 1 [(4, .int .i64 y2)] kr ?_
     refine oN (nT (v_ret (rB (rT ?_))))
     cases hs
     exact fin_ret kr kr kr
    ·replace hs := bif_f h7 hs
     refine vS (vT (oR 2 [(60, .bool (decide (e.Op = 3))), (61, .bool (decide (e.Op = 3)))] kr ?_))
     refine oN (nT ?_)
     refine v_cond (decide (e.Op = 3)) kr (fun h8 => ?_) (fun h8 => ?_)
     ·replace hs := bif_t h8 hs
      refine vS (vT (oR 4 [(65, .str e.S), (64, .ptr 3 0 2), (63, .vs 1 (mS c_zones)), (62, .ptr 2 0 9)] kr ?_))
      obtain ⟨y3, c3, hs⟩ := bS hs
      refine oP (v := .bool y3) kr kr (loc_gcall0 (callV_func hbv24 kr) (w_slices_Contains_2 c_zones e.S _ c3) kr) ?_
      obtain ⟨y4, c4, hs⟩ := bS hs
      refine oP (v := .int .i64 y4) kr kr (loc_gcall0 (callV_func hbv44 kr) (w_expr_bit y3 _ c4) kr) ?_
      refine oR 1 [(4, .int .i64 y4)] kr ?_
      refine oN (nT (v_ret (rB (rT ?_))))
      cases hs
      exact fin_ret kr kr kr
     ·replace hs := bif_f h8 hs
      refine vS (vT (oR 2 [(68, .bool (decide (e.Op = 9))), (69, .bool (decide (e.Op = 9)))] kr ?_))
      refine oN (nT ?_)
      refine v_cond (decide (e.Op = 9)) kr (fun h9 => ?_) (fun h9 => ?_)
      ·replace hs := bif_t h9 hs
       refine vS (vT (oR 1 [(70, .sl 1 2000035 ((v1).length) 0 ((v1).length))] kr ?_))
       obtain ⟨⟨g5a, g5b⟩, hs⟩ := bG hs
       refine oP (v := .ptr 2000035 ((v1).length) ((Int.toNat 0) * 1 + 0)) kr kr (loc_indexRowT (e := 3) (sz := 1) (kk := 2000035) (L := (v1).length) (n := (v1).length) (k := .i64) (i := 0) kr kr kr g5a g5b) ?_
       obtain ⟨e2, he2, hs⟩ := bE hs
       refine o_loc (F := [(2000035, .row 3 1 0 (mI v1))]) (F' := [(2000035, .row 3 1 0 (mI v1))]) (v := .int .i64 e2) [2000035] kr kr rfl kr (loc_loadRow (L := (v1).length) (off := (Int.toNat 0) * 1 + 0) (els := (mI v1)) (cs := [.int .i64 e2]) (Int.toNat 0) 0 kr lh rfl (by rw [← he2]; exact map_get _ (by first | omega | (simp only [List.length_set, cpyT_length]; omega))) kr) kr ?_
       refine oR 2 [(4, .int .i64 (w64 (0 - e2))), (73, .int .i64 (w64 (0 - e2)))] kr ?_
       refine oN (nT (v_ret (rB (rT ?_))))
       cases hs
       exact fin_ret kr kr kr
      ·replace hs := bif_f h9 hs
       refine vS (vT (oR 2 [(74, .bool (decide (e.Op = 15))), (75, .bool (decide (e.Op = 15)))] kr ?_))
       refine oN (nT ?_)
       refine v_cond (decide (e.Op = 15)) kr (fun h10 => ?_) (fun h10 => ?_)
       ·replace hs := bif_t h10 hs
        refine vS (vT (oR 1 [(76, .sl 1 2000035 ((v1).length) 0 ((v1).length))] kr ?_))
        obtain ⟨⟨g6a, g6b⟩, hs⟩ := bG hs
        refine oP (v := .ptr 2000035 ((v1).length) ((Int.toNat 0) * 1 + 0)) kr kr (loc_indexRowT (e := 3) (sz := 1) (kk := 2000035) (L := (v1).length) (n := (v1).length) (k := .i64) (i := 0) kr kr kr g6a g6b) ?_
        obtain ⟨e3, he3, hs⟩ := bE hs
        refine o_loc (F := [(2000035, .row 3 1 0 (mI v1))]) (F' := [(2000035, .row 3 1 0 (mI v1))]) (v := .int .i64 e3) [2000035] kr kr rfl kr (loc_loadRow (L := (v1).length) (off := (Int.toNat 0) * 1 + 0) (els := (mI v1)) (cs := [.int .i64 e3]) (Int.toNat 0) 0 kr lh rfl (by rw [← he3]; exact map_get _ (by first | omega | (simp only [List.length_set, cpyT_length]; omega))) kr) kr ?_
        refine oR 1 [(79, .bool (decide (e3 = 0)))] kr ?_
        obtain ⟨y5, c5, hs⟩ := bS hs
        refine oP (v := .int .i64 y5) kr kr (loc_gcall0 (callV_func hbv44 kr) (w_expr_bit (decide (e3 = 0)) _ c5) kr) ?_
        refine oR 1 [(4, .int .i64 y5)] kr ?_
        refine oN (nT (v_ret (rB (rT ?_))))
        cases hs
        exact fin_ret kr kr kr
       ·replace hs := bif_f h10 hs
        refine vS (vT (oR 2 [(81, .bool (decide (e.Op = 16))), (82, .bool (decide (e.Op = 16)))] kr ?_))
        refine oN (nT ?_)
        refine v_cond (decide (e.Op = 16)) kr (fun h11 => ?_) (fun h11 => ?_)
        ·replace hs := bif_t h11 hs
         refine vS (vS (vT (oR 1 [(83, .sl 1 2000035 ((v1).length) 0 ((v1).length))] kr ?_)))
         obtain ⟨⟨g7a, g7b⟩, hs⟩ := bG hs
         refine oP (v := .ptr 2000035 ((v1).length) ((Int.toNat 0) * 1 + 0)) kr kr (loc_indexRowT (e := 3) (sz := 1) (kk := 2000035) (L := (v1).length) (n := (v1).length) (k := .i64) (i := 0) kr kr kr g7a g7b) ?_
         obtain ⟨e4, he4, hs⟩ := bE hs
         refine o_loc (F := [(2000035, .row 3 1 0 (mI v1))]) (F' := [(2000035, .row 3 1 0 (mI v1))]) (v := .int .i64 e4) [2000035] kr kr rfl kr (loc_loadRow (L := (v1).length) (off := (Int.toNat 0) * 1 + 0) (els := (mI v1)) (cs := [.int .i64 e4]) (Int.toNat 0) 0 kr lh rfl (by rw [← he4]; exact map_get _ (by first | omega | (simp only [List.length_set, cpyT_length]; omega))) kr) kr ?_
         refine oR 1 [(86, .bool (!(decide (e4 = 0))))] kr ?_
         refine oN (nT ?_)
         refine v_cond (!(decide (e4 = 0))) kr (fun h12 => ?_) (fun h12 => ?_)
         ·replace hs := bif_t h12 hs
          refine vS (vT (oR 1 [(87, .sl 1 2000035 ((v1).length) 0 ((v1).length))] kr ?_))
          obtain ⟨⟨g8a, g8b⟩, hs⟩ := bG hs
          refine oP (v := .ptr 2000035 ((v1).length) ((Int.toNat 1) * 1 + 0)) kr kr (loc_indexRowT (e := 3) (sz := 1) (kk := 2000035) (L := (v1).length) (n := (v1).length) (k := .i64) (i := 1) kr kr kr g8a g8b) ?_
          obtain ⟨e5, he5, hs⟩ := bE hs
          refine o_loc (F := [(2000035, .row 3 1 0 (mI v1))]) (F' := [(2000035, .row 3 1 0 (mI v1))]) (v := .int .i64 e5) [2000035] kr kr rfl kr (loc_loadRow (L := (v1).length) (off := (Int.toNat 1) * 1 + 0) (els := (mI v1)) (cs := [.int .i64 e5]) (Int.toNat 1) 0 kr lh rfl (by rw [← he5]; exact map_get _ (by first | omega | (simp only [List.length_set, cpyT_length]; omega))) kr) kr ?_
          refine oR 1 [(4, .int .i64 e5)] kr ?_
          refine oN (nT (v_ret (rT (rB (rT ?_)))))
          cases hs
          exact fin_ret kr kr kr
         ·replace hs := bif_f h12 hs
          refine vK (nT (vS (vT (oR 1 [(90, .sl 1 2000035 ((v1).length) 0 ((v1).length))] kr ?_))))
          obtain ⟨⟨g9a, g9b⟩, hs⟩ := bG hs
          refine oP (v := .ptr 2000035 ((v1).length) ((Int.toNat 2) * 1 + 0)) kr kr (loc_indexRowT (e := 3) (sz := 1) (kk := 2000035) (L := (v1).length) (n := (v1).length) (k := .i64) (i := 2) kr kr kr g9a g9b) ?_
          obtain ⟨e6, he6, hs⟩ := bE hs
          refine o_loc (F := [(2000035, .row 3 1 0 (mI v1))]) (F' := [(2000035, .row 3 1 0 (mI v1))]) (v := .int .i64 e6) [2000035] kr kr rfl kr (loc_loadRow (L := (v1).length) (off := (Int.toNat 2) * 1 + 0) (els := (mI v1)) (cs := [.int .i64 e6]) (Int.toNat 2) 0 kr lh rfl (by rw [← he6]; exact map_get _ (by first | omega | (simp only [List.length_set, cpyT_length]; omega))) kr) kr ?_
          refine oR 1 [(4, .int .i64 e6)] kr ?_
          refine oN (nT (v_ret (rB (rT ?_))))
          cases hs
          exact fin_ret kr kr kr
        ·replace hs := bif_f h11 hs
         refine vK (nB (nT (vS (v_draw mixedH kr ?_))))
         refine d_runs 3 0 [(95, .sl 1 2000035 ((v1).length) 0 ((v1).length)), (94, .int .i64 e.Op), (93, .ptr 3 0 0)] [⟨2, [], []⟩, ⟨1, [], [3]⟩, ⟨0, [], []⟩] kr kr ?_
         obtain ⟨⟨g10a, g10b⟩, hs⟩ := bG hs
         refine d_pure (v := .ptr 2000035 ((v1).length) ((Int.toNat 0) * 1 + 0)) 3 rfl rfl rfl rfl kr kr (loc_indexRowT (e := 3) (sz := 1) (kk := 2000035) (L := (v1).length) (n := (v1).length) (k := .i64) (i := 0) kr kr kr g10a g10b) ?_
         obtain ⟨e7, he7, hs⟩ := bE hs
         refine d_loc (F := []) (R := [(2000035, .row 3 1 0 (mI v1))]) (F' := []) (v := .int .i64 e7) 4 [] [2000035] rfl rfl rfl rfl kr kr kr kr kr kr kr kr (loc_loadRow (L := (v1).length) (off := (Int.toNat 0) * 1 + 0) (els := (mI v1)) (cs := [.int .i64 e7]) (Int.toNat 0) 0 kr lh rfl (by rw [← he7]; exact map_get _ (by first | omega | (simp only [List.length_set, cpyT_length]; omega))) kr) ?_
         refine d_runs 1 5 [(98, .sl 1 2000035 ((v1).length) 0 ((v1).length))] (pfp 1 5) kr kr ?_
         obtain ⟨⟨g11a, g11b⟩, hs⟩ := bG hs
         refine d_pure (v := .ptr 2000035 ((v1).length) ((Int.toNat 1) * 1 + 0)) 6 rfl rfl rfl rfl kr kr (loc_indexRowT (e := 3) (sz := 1) (kk := 2000035) (L := (v1).length) (n := (v1).length) (k := .i64) (i := 1) kr kr kr g11a g11b) ?_
         obtain ⟨e8, he8, hs⟩ := bE hs
         refine d_loc (F := []) (R := [(2000035, .row 3 1 0 (mI v1))]) (F' := []) (v := .int .i64 e8) 7 [] [2000035] rfl rfl rfl rfl kr kr kr kr kr kr kr kr (loc_loadRow (L := (v1).length) (off := (Int.toNat 1) * 1 + 0) (els := (mI v1)) (cs := [.int .i64 e8]) (Int.toNat 1) 0 kr lh rfl (by rw [← he8]; exact map_get _ (by first | omega | (simp only [List.length_set, cpyT_length]; omega))) kr) ?_
         obtain ⟨y6, c6, hs⟩ := bS hs
         refine d_pure (v := .int .i64 y6) 8 rfl rfl rfl rfl kr kr (loc_gcall0 (callV_func hbv45 kr) (w_expr_binary e.Op e7 e8 _ c6) kr) ?_
         refine d_runs 1 9 [(4, .int .i64 y6)] (pfp 1 9) kr kr ?_
         refine d_nil kr ?_
         refine nT (v_ret ?_)
         cases hs
         exact fin_ret kr kr kr
theorem wr_expr_context_value : ∀ nF : Nat, (∀ (c_plan : Plan) (c_known : (List (Sr × Int))) (c_zones : (List Sr)) (e : Expr) (r : Int), s_expr_context_value nF c_plan c_known c_zones e = some r → FnA Tryz.prog 32 [.agg (enc_Plan c_plan ++ [.mp 1000000, .vs 1 (mS c_zones)]), .agg (enc_Expr e)] [(1000000, .map (encM V.str (V.int .i64) c_known))] (.int .i64 r) [(1000000, .map (encM V.str (V.int .i64) c_known))])
 | 0 => fun c_plan c_known c_zones e r hs => (by rw [s_expr_context_value] at hs; cases hs)
 | nF + 1 => fun c_plan c_known c_zones e r hs => ws_expr_context_value nF (wr_expr_context_value nF) c_plan c_known c_zones e r hs
theorem w_expr_context_value (nF : Nat) (c_plan : Plan) (c_known : (List (Sr × Int))) (c_zones : (List Sr)) (e : Expr) (r : Int) (hs : s_expr_context_value nF c_plan c_known c_zones e = some r) : FnA Tryz.prog 32 [.agg (enc_Plan c_plan ++ [.mp 1000000, .vs 1 (mS c_zones)]), .agg (enc_Expr e)] [(1000000, .map (encM V.str (V.int .i64) c_known))] (.int .i64 r) [(1000000, .map (encM V.str (V.int .i64) c_known))] := (wr_expr_context_value nF) c_plan c_known c_zones e r hs
theorem w_expr_prepare (p : Plan) (measures : (List Entry)) (zones : (List Sr)) (r : Plan × (List Sr) × (List Int) × (List (Sr × Int))) (hs : s_expr_prepare p measures zones = some r) : FnA Tryz.prog 31 [.agg (enc_Plan p), .vs 2 (mM enc_Entry measures), .vs 1 (mS zones)] [] (.tup [.agg (enc_Plan r.1 ++ [.mp 20, .vs 1 (mS r.2.1)]), .vs 1 (mI r.2.2.1)]) [(20, .map (encM V.str (V.int .i64) r.2.2.2))] := by
 refine fnA_of_wp (N := 96) Tryz.func31 rfl rfl rfl fun cK0 => ?_
 unfold s_expr_prepare at hs
 refine v_same (ρ' := [(0, .agg (enc_Plan p)), (1, .vs 2 (mM enc_Entry measures)), (2, .vs 1 (mS zones))]) rfl rfl ?_
 refine vS (vT (o_runh 3 [(7, .nils), (6, .ptr 6 0 0), (3, .ptr 3 0 0)] [(6, .box 71 [.nils, .nils, .nils, .nils, .nils, .nils, .nils, .int .i64 0, .nilm, .nils]), (3, .box 30 (enc_Plan p))] kr ?_))
 refine oN (nT (vS (vT (o_runh 6 [(8, .ptr 8 0 0), (22, .agg (enc_Plan p ++ [.mp 20, .vs 1 (mS zones)])), (21, .vs 1 (mS zones)), (20, .mp 20), (19, .agg (enc_Plan p))] [(8, .box 71 (enc_Plan p ++ [.mp 20, .vs 1 (mS zones)])), (20, .map (encM V.str (V.int .i64) [])), (6, .box 71 [.nils, .nils, .nils, .nils, .nils, .nils, .nils, .int .i64 0, .nilm, .nils]), (3, .box 30 (enc_Plan p))] kr ?_))))
 refine oN (nT (vS (vT (o_runh 2 [(9, .mp 23), (23, .mp 23)] [(23, .map (encM V.str V.bool [])), (8, .box 71 (enc_Plan p ++ [.mp 20, .vs 1 (mS zones)])), (20, .map (encM V.str (V.int .i64) [])), (6, .box 71 [.nils, .nils, .nils, .nils, .nils, .nils, .nils, .int .i64 0, .nilm, .nils]), (3, .box 30 (enc_Plan p))] kr ?_))))
 refine oN (nT (vS (vS (vT (oR 1 [(24, .vs 2 (mM enc_Entry measures))] kr ?_)))))
 refine oP (v := .int .i64 (List.length measures : Int)) kr kr (loc_lenVs (sz := 2) (els := (mM enc_Entry measures)) kr kr lM) ?_
 refine oR 1 [(26, .int .i64 0)] kr ?_
 refine oN (nT ?_)
 obtain ⟨z1, hs, hk1⟩ := bS hs
 refine v_join (S := (List (Sr × Bool)) × (List (Sr × Int))) (fun u => u = z1) (fun u => [(3, .ptr 3 0 0), (6, .ptr 6 0 0), (8, .ptr 8 0 0), (9, .mp 23)]) (fun u => [(23, .map (encM V.str V.bool u.1)), (8, .box 71 (enc_Plan p ++ [.mp 20, .vs 1 (mS zones)])), (20, .map (encM V.str (V.int .i64) u.2)), (6, .box 71 [.nils, .nils, .nils, .nils, .nils, .nils, .nils, .int .i64 0, .nilm, .nils]), (3, .box 30 (enc_Plan p))]) ?_ (fun v1 hz => ?_)
 ·refine vB ?_
  refine v_fuel (S := Int × (List (Sr × Bool)) × (List (Sr × Int))) (fun u => [(3, .ptr 3 0 0), (6, .ptr 6 0 0), (8, .ptr 8 0 0), (9, .mp 23), (24, .vs 2 (mM enc_Entry measures)), (25, .int .i64 (List.length measures : Int)), (26, .int .i64 u.1)]) (fun u => [(23, .map (encM V.str V.bool u.2.1)), (8, .box 71 (enc_Plan p ++ [.mp 20, .vs 1 (mS zones)])), (20, .map (encM V.str (V.int .i64) u.2.2)), (6, .box 71 [.nils, .nils, .nils, .nils, .nils, .nils, .nils, .int .i64 0, .nilm, .nils]), (3, .box 30 (enc_Plan p))]) (s_expr_prepare_L1 measures) (fun _ => rfl) KK (0, [], []) hs (cut_of [3, 6, 8, 9, 24, 25, 26] [23, 8, 20, 6, 3] kr kr kr) (fun K1 q1 hs => ?_)
  rw [s_expr_prepare_L1] at hs
  show WpV cK0 Tryz.prog none 96 _ _ [(3, .ptr 3 0 0), (6, .ptr 6 0 0), (8, .ptr 8 0 0), (9, .mp 23), (24, .vs 2 (mM enc_Entry measures)), (25, .int .i64 (List.length measures : Int)), (26, .int .i64 q1.1)] [(23, .map (encM V.str V.bool q1.2.1)), (8, .box 71 (enc_Plan p ++ [.mp 20, .vs 1 (mS zones)])), (20, .map (encM V.str (V.int .i64) q1.2.2)), (6, .box 71 [.nils, .nils, .nils, .nils, .nils, .nils, .nils, .int .i64 0, .nilm, .nils]), (3, .box 30 (enc_Plan p))] []
  refine vS (vT (oR 1 [(27, .bool (decide (q1.1 < (List.length measures : Int))))] kr ?_))
  refine oN (nT (vS ?_))
  refine v_cond (decide (q1.1 < (List.length measures : Int))) kr (fun h1 => ?_) (fun h1 => ?_)
  ·replace hs := bif_t h1 hs
   refine vK (nT (vS (vB (vS (vT ?_)))))
   obtain ⟨x1, g1, hs⟩ := bS hs; obtain ⟨g1a, g1b, g1c⟩ := idx_some g1
   refine oP (v := .vp (enc_Entry x1) 0) kr kr (loc_indexVs (e := 40) (sz := 2) (k := .i64) (els := (mM enc_Entry measures)) (cs := (enc_Entry x1)) kr kr kr g1a (by rw [g1c]; exact map_get _ (by omega))) ?_
   refine o_runh 3 [(11, .ptr 11 0 0), (29, .agg (enc_Entry x1))] [(11, .box 40 [.str x1.Name, .int .i64 x1.N]), (23, .map (encM V.str V.bool q1.2.1)), (8, .box 71 (enc_Plan p ++ [.mp 20, .vs 1 (mS zones)])), (20, .map (encM V.str (V.int .i64) q1.2.2)), (6, .box 71 [.nils, .nils, .nils, .nils, .nils, .nils, .nils, .int .i64 0, .nilm, .nils]), (3, .box 30 (enc_Plan p))] kr ?_
   refine oN (nT (vS (vT (oR 3 [(32, .str x1.Name), (31, .ptr 11 0 0), (30, .mp 23)] kr ?_))))
   refine o_loc (F := [(23, .map (encM V.str V.bool q1.2.1))]) (F' := [(23, .map (encM V.str V.bool q1.2.1))]) (v := .bool (Option.getD (mfind x1.Name q1.2.1) false)) [23] kr kr rfl kr (loc_lookup (et := 4) (f := V.str) (g := V.bool) (l := q1.2.1) (a := x1.Name) (z := false) (zv := .bool false) false kr kok9 kr (fun _ _ _ h => h) kr kr) kr ?_
   refine oR 1 [(34, .bool (!(Option.getD (mfind x1.Name q1.2.1) false)))] kr ?_
   refine oN (nT ?_)
   obtain ⟨z2, hs, hk2⟩ := bS hs
   refine v_join (S := (List (Sr × Bool)) × (List (Sr × Int))) (fun u => u = z2) (fun u => [(3, .ptr 3 0 0), (6, .ptr 6 0 0), (8, .ptr 8 0 0), (9, .mp 23), (24, .vs 2 (mM enc_Entry measures)), (25, .int .i64 (List.length measures : Int)), (26, .int .i64 q1.1)]) (fun u => [(23, .map (encM V.str V.bool u.1)), (20, .map (encM V.str (V.int .i64) u.2)), (8, .box 71 (enc_Plan p ++ [.mp 20, .vs 1 (mS zones)])), (6, .box 71 [.nils, .nils, .nils, .nils, .nils, .nils, .nils, .int .i64 0, .nilm, .nils]), (3, .box 30 (enc_Plan p))]) ?_ (fun v2 hz => ?_)
   ·refine v_cond (!(Option.getD (mfind x1.Name q1.2.1) false)) kr (fun h2 => ?_) (fun h2 => ?_)
    ·replace hs := bif_t h2 hs
     refine v_draw mixedH kr ?_
     refine d_runs 9 0 [(43, .int .i64 x1.N), (42, .ptr 11 0 1), (41, .str x1.Name), (40, .ptr 11 0 0), (39, .mp 23), (38, .str x1.Name), (37, .ptr 11 0 0), (36, .mp 20), (35, .ptr 8 0 8)] [⟨8, [], [11]⟩, ⟨7, [], []⟩, ⟨6, [], [11]⟩, ⟨5, [], []⟩, ⟨4, [], []⟩, ⟨3, [], [11]⟩, ⟨2, [], []⟩, ⟨1, [], [8]⟩, ⟨0, [], []⟩] kr kr ?_
     refine d_loc (F := [(20, .map (encM V.str (V.int .i64) q1.2.2))]) (R := []) (F' := [(20, .map (encM V.str (V.int .i64) (mset x1.Name x1.N q1.2.2)))]) (v := .no) 9 [20] [] rfl rfl rfl rfl kr kr kr kr kr kr kr kr (loc_mapUpdate (et := 3) (f := V.str) (g := (V.int .i64)) (l := q1.2.2) (a := x1.Name) (c := x1.N) kr kok9 kr kr kr kr kr) ?_
     refine d_loc (F := [(23, .map (encM V.str V.bool q1.2.1))]) (R := []) (F' := [(23, .map (encM V.str V.bool (mset x1.Name true q1.2.1)))]) (v := .no) 10 [23] [] rfl rfl rfl rfl kr kr kr kr kr kr kr kr (loc_mapUpdate (et := 4) (f := V.str) (g := V.bool) (l := q1.2.1) (a := x1.Name) (c := true) kr kok9 kr kr kr kr kr) ?_
     refine d_nil kr ?_
     obtain rfl := si hs
     refine nrm_join ((mset x1.Name true q1.2.1), (mset x1.Name x1.N q1.2.2)) rfl ?_
     exact cut_of [3, 6, 8, 9, 24, 25, 26] [23, 20, 8, 6, 3] kr kr kr
    ·replace hs := bif_f h2 hs
     refine vK ?_
     obtain rfl := si hs
     refine nrm_join (q1.2.1, q1.2.2) rfl ?_
     exact cut_of [3, 6, 8, 9, 24, 25, 26] [23, 20, 8, 6, 3] kr kr kr
   ·subst hz; clear hs; have hs := hk2; clear hk2
    refine nB (nT (vT (oR 2 [(26, .int .i64 (w64 (q1.1 + 1))), (44, .int .i64 (w64 (q1.1 + 1)))] kr ?_)))
    refine oN (nrm_fuel ((w64 (q1.1 + 1)), v2.1, v2.2) hs ?_)
    exact cut_of [3, 6, 8, 9, 24, 25, 26] [23, 8, 20, 6, 3] kr kr kr
  ·replace hs := bif_f h1 hs
   refine v_exit (exit_thenV (exit_fuel ?_))
   refine exit_blkV ?_
   obtain rfl := si hs
   refine nrm_join (q1.2.1, q1.2.2) rfl ?_
   exact cut_of [3, 6, 8, 9] [23, 8, 20, 6, 3] kr kr kr
 ·subst hz; clear hs; have hs := hk1; clear hk1
  refine nT (vS (vT (oR 2 [(46, .vs 6 (mM enc_Def p.Defs)), (45, .ptr 3 0 0)] kr ?_)))
  refine oP (v := .int .i64 (List.length p.Defs : Int)) kr kr (loc_lenVs (sz := 6) (els := (mM enc_Def p.Defs)) kr kr lM) ?_
  obtain ⟨⟨g2a, g2b, g2c⟩, hs⟩ := bG hs
  refine o_loc (F := []) (F' := [(48, .row 3 1 0 (mI (uR p.Defs (0 : Int))))]) (v := .sl 1 48 (((uR p.Defs (0 : Int))).length) 0 (((uR p.Defs (0 : Int))).length)) [] kr kr rfl kr (loc_makeSliceT (L := ((uR p.Defs (0 : Int))).length) (e := 3) (sz := 1) (bytes := 8) (q := (List.length p.Defs : Int)) (k := .i64) (k2 := .i64) (cs := [.int .i64 0]) (cs2 := [.int .i64 0]) kr kr kr kr kr g2a g2b g2c (List.map_replicate (f := EV.encI)).symm (List.length_replicate ..) (fun _ _ h => h)) kr ?_
  refine oR 1 [(12, .sl 1 48 (((uR p.Defs (0 : Int))).length) 0 (((uR p.Defs (0 : Int))).length))] kr ?_
  refine oN (nT (vS (vT (oR 1 [(50, .agg (enc_Plan p))] kr ?_))))
  obtain ⟨y1, c1, hs⟩ := bS hs
  refine oP (v := .tup [.vs 1 (mI y1.1), .vs 1 (mS y1.2.1), .int .i64 y1.2.2]) kr kr (loc_gcall0 (callV_func hbv42 kr) (w_define_Order p _ c1) kr) ?_
  refine oR 7 [(15, .int .i64 y1.2.2), (14, .vs 1 (mS y1.2.1)), (13, .vs 1 (mI y1.1)), (54, .int .i64 y1.2.2), (53, .vs 1 (mS y1.2.1)), (52, .vs 1 (mI y1.1)), (49, .tup [.vs 1 (mI y1.1), .vs 1 (mS y1.2.1), .int .i64 y1.2.2])] kr ?_
  refine oN (nT (vS (vS (vT (oR 2 [(56, .bool (!(decide (y1.2.2 = 0)))), (55, .int .i64 y1.2.2)] kr ?_)))))
  refine oN (nT ?_)
  refine v_cond (!(decide (y1.2.2 = 0))) kr (fun h3 => ?_) (fun h3 => ?_)
  ·replace hs := bif_t h3 hs
   refine vS (vT (o_runh 4 [(7, .sl 1 48 (((uR p.Defs (0 : Int))).length) 0 (((uR p.Defs (0 : Int))).length)), (58, .sl 1 48 (((uR p.Defs (0 : Int))).length) 0 (((uR p.Defs (0 : Int))).length)), (57, .agg (enc_Plan p ++ [.mp 20, .vs 1 (mS zones)]))] [(48, .row 3 1 0 (mI (uR p.Defs (0 : Int)))), (23, .map (encM V.str V.bool v1.1)), (8, .box 71 (enc_Plan p ++ [.mp 20, .vs 1 (mS zones)])), (20, .map (encM V.str (V.int .i64) v1.2)), (6, .box 71 (enc_Plan p ++ [.mp 20, .vs 1 (mS zones)])), (3, .box 30 (enc_Plan p))] kr ?_))
   refine oN (nT (v_to _ [(48, .row 3 1 (((mI (uR p.Defs (0 : Int)))).length) (mI (uR p.Defs (0 : Int)))), (23, .map (encM V.str V.bool v1.1)), (8, .box 71 (enc_Plan p ++ [.mp 20, .vs 1 (mS zones)])), (20, .map (encM V.str (V.int .i64) v1.2)), (6, .box 71 (enc_Plan p ++ [.mp 20, .vs 1 (mS zones)])), (3, .box 30 (enc_Plan p))] (cut_freeze (F := [(48, .row 3 1 0 (mI (uR p.Defs (0 : Int))))]) [48] rfl kr kr) ?_))
   refine v_to ((7, .vs 1 (mI (uR p.Defs (0 : Int)))) :: _) _ (cut_view (R := [(48, .row 3 1 (((mI (uR p.Defs (0 : Int)))).length) (mI (uR p.Defs (0 : Int))))]) (ks := [48]) kr kr (.row (t := 3) (fz := (((mI (uR p.Defs (0 : Int)))).length)) kr lh)) ?_
   refine v_ret (rT ?_)
   cases hs
   exact fin_ret kr kr kr
  ·replace hs := bif_f h3 hs
   refine vK (nT (vS (vS (vT (oR 1 [(59, .vs 1 (mI y1.1))] kr ?_)))))
   refine oP (v := .int .i64 (List.length y1.1 : Int)) kr kr (loc_lenVs (sz := 1) (els := (mI y1.1)) kr kr lM) ?_
   refine oR 1 [(61, .int .i64 0)] kr ?_
   refine oN (nT ?_)
   obtain ⟨z3, hs, hk3⟩ := bS hs
   refine v_join (S := (List Int) × (List (Sr × Int))) (fun u => u = z3) (fun u => [(6, .ptr 6 0 0), (8, .ptr 8 0 0), (12, .sl 1 48 ((u.1).length) 0 ((u.1).length))]) (fun u => [(48, .row 3 1 0 (mI u.1)), (8, .box 71 (enc_Plan p ++ [.mp 20, .vs 1 (mS zones)])), (20, .map (encM V.str (V.int .i64) u.2)), (6, .box 71 [.nils, .nils, .nils, .nils, .nils, .nils, .nils, .int .i64 0, .nilm, .nils])]) ?_ (fun v3 hz => ?_)
   ·refine vB ?_
    refine v_fuel (S := Int × (List Int) × (List (Sr × Int))) (fun u => [(3, .ptr 3 0 0), (6, .ptr 6 0 0), (8, .ptr 8 0 0), (9, .mp 23), (12, .sl 1 48 ((u.2.1).length) 0 ((u.2.1).length)), (59, .vs 1 (mI y1.1)), (60, .int .i64 (List.length y1.1 : Int)), (61, .int .i64 u.1)]) (fun u => [(48, .row 3 1 0 (mI u.2.1)), (23, .map (encM V.str V.bool v1.1)), (8, .box 71 (enc_Plan p ++ [.mp 20, .vs 1 (mS zones)])), (20, .map (encM V.str (V.int .i64) u.2.2)), (6, .box 71 [.nils, .nils, .nils, .nils, .nils, .nils, .nils, .int .i64 0, .nilm, .nils]), (3, .box 30 (enc_Plan p))]) (s_expr_prepare_L2 p zones v1 y1) (fun _ => rfl) KK (0, (uR p.Defs (0 : Int)), v1.2) hs (cut_of [3, 6, 8, 9, 12, 59, 60, 61] [48, 23, 8, 20, 6, 3] kr kr kr) (fun K2 q2 hs => ?_)
    rw [s_expr_prepare_L2] at hs
    show WpV cK0 Tryz.prog none 96 _ _ [(3, .ptr 3 0 0), (6, .ptr 6 0 0), (8, .ptr 8 0 0), (9, .mp 23), (12, .sl 1 48 ((q2.2.1).length) 0 ((q2.2.1).length)), (59, .vs 1 (mI y1.1)), (60, .int .i64 (List.length y1.1 : Int)), (61, .int .i64 q2.1)] [(48, .row 3 1 0 (mI q2.2.1)), (23, .map (encM V.str V.bool v1.1)), (8, .box 71 (enc_Plan p ++ [.mp 20, .vs 1 (mS zones)])), (20, .map (encM V.str (V.int .i64) q2.2.2)), (6, .box 71 [.nils, .nils, .nils, .nils, .nils, .nils, .nils, .int .i64 0, .nilm, .nils]), (3, .box 30 (enc_Plan p))] []
    refine vS (vT (oR 1 [(62, .bool (decide (q2.1 < (List.length y1.1 : Int))))] kr ?_))
    refine oN (nT (vS ?_))
    refine v_cond (decide (q2.1 < (List.length y1.1 : Int))) kr (fun h4 => ?_) (fun h4 => ?_)
    ·replace hs := bif_t h4 hs
     refine vK (nT (vS (vB (vS (vT ?_)))))
     obtain ⟨x2, g3, hs⟩ := bS hs; obtain ⟨g3a, g3b, g3c⟩ := idx_some g3
     refine oP (v := .vp [.int .i64 x2] 0) kr kr (loc_indexVs (e := 3) (sz := 1) (k := .i64) (els := (mI y1.1)) (cs := (EV.encI x2)) kr kr kr g3a (by rw [g3c]; exact map_get _ (by omega))) ?_
     refine oR 2 [(17, .int .i64 x2), (64, .int .i64 x2)] kr ?_
     refine oN (nT (vS (vT (oR 3 [(67, .int .i64 x2), (66, .vs 6 (mM enc_Def p.Defs)), (65, .ptr 3 0 0)] kr ?_))))
     obtain ⟨x3, g4, hs⟩ := bS hs; obtain ⟨g4a, g4b, g4c⟩ := idx_some g4
     refine oP (v := .vp (enc_Def x3) 0) kr kr (loc_indexVs (e := 51) (sz := 6) (k := .i64) (els := (mM enc_Def p.Defs)) (cs := (enc_Def x3)) kr kr kr g4a (by rw [g4c]; exact map_get _ (by omega))) ?_
     refine o_runh 3 [(18, .ptr 18 0 0), (69, .agg (enc_Def x3))] [(18, .box 51 [.str x3.Name, .int .i64 x3.Body.Op, .int .i64 x3.Body.N, .str x3.Body.S, .str x3.Body.Key, .vs 5 (encs_Expr x3.Body.Args)]), (48, .row 3 1 0 (mI q2.2.1)), (23, .map (encM V.str V.bool v1.1)), (8, .box 71 (enc_Plan p ++ [.mp 20, .vs 1 (mS zones)])), (20, .map (encM V.str (V.int .i64) q2.2.2)), (6, .box 71 [.nils, .nils, .nils, .nils, .nils, .nils, .nils, .int .i64 0, .nilm, .nils]), (3, .box 30 (enc_Plan p))] kr ?_
     refine oN (nT (vS (vS (vT (oR 2 [(71, .agg (enc_Expr x3.Body)), (70, .ptr 18 0 1)] kr ?_)))))
     obtain ⟨y2, c2, hs⟩ := bS hs
     refine oP (v := .bool y2) kr kr (loc_gcall0 (callV_func hbv7 kr) (w_expr_Right x3.Body _ c2) kr) ?_
     refine oN (nT ?_)
     obtain ⟨z4, hs, hk4⟩ := bS hs
     refine v_join (S := (List Int)) (fun u => u = z4) (fun u => [(3, .ptr 3 0 0), (6, .ptr 6 0 0), (8, .ptr 8 0 0), (9, .mp 23), (12, .sl 1 48 ((u).length) 0 ((u).length)), (17, .int .i64 x2), (18, .ptr 18 0 0), (59, .vs 1 (mI y1.1)), (60, .int .i64 (List.length y1.1 : Int)), (61, .int .i64 q2.1)]) (fun u => [(48, .row 3 1 0 (mI u)), (20, .map (encM V.str (V.int .i64) q2.2.2)), (18, .box 51 [.str x3.Name, .int .i64 x3.Body.Op, .int .i64 x3.Body.N, .str x3.Body.S, .str x3.Body.Key, .vs 5 (encs_Expr x3.Body.Args)]), (23, .map (encM V.str V.bool v1.1)), (8, .box 71 (enc_Plan p ++ [.mp 20, .vs 1 (mS zones)])), (6, .box 71 [.nils, .nils, .nils, .nils, .nils, .nils, .nils, .int .i64 0, .nilm, .nils]), (3, .box 30 (enc_Plan p))]) ?_ (fun v4 hz => ?_)
     ·refine v_cond y2 kr (fun h5 => ?_) (fun h5 => ?_)
      ·replace hs := bif_t h5 hs
       refine vT (oR 5 [(77, .agg (enc_Expr x3.Body)), (76, .ptr 18 0 1), (75, .agg (enc_Plan p ++ [.mp 20, .vs 1 (mS zones)])), (74, .int .i64 x2), (73, .sl 1 48 ((q2.2.1).length) 0 ((q2.2.1).length))] kr ?_)
       obtain ⟨y3, c3, hs⟩ := bS hs
       refine o_loc (F := [(20, .map (encM V.str (V.int .i64) q2.2.2))]) (F' := [(20, .map (encM V.str (V.int .i64) q2.2.2))]) (v := .int .i64 y3) [20] kr kr rfl kr (loc_g (R := []) [.agg (enc_Plan p ++ [.mp 20, .vs 1 (mS zones)]), .agg (enc_Expr x3.Body)] [(1000000, 20)] (callV_func hbv32 kr) (w_expr_context_value KK p q2.2.2 zones x3.Body _ c3) (.cons (.same _) (.cons (.same _) (.nil))) kr kr kr kr kr kr kr kr) kr ?_
       obtain ⟨⟨g5a, g5b⟩, hs⟩ := bG hs
       refine oP (v := .ptr 48 ((q2.2.1).length) ((Int.toNat x2) * 1 + 0)) kr kr (loc_indexRowT (e := 3) (sz := 1) (kk := 48) (L := (q2.2.1).length) (n := (q2.2.1).length) (k := .i64) (i := x2) kr kr kr g5a g5b) ?_
       obtain ⟨e1, he1, hs⟩ := bE hs
       refine o_loc (F := [(48, .row 3 1 0 (mI q2.2.1))]) (F' := [(48, .row 3 1 0 (mI (List.set q2.2.1 (Int.toNat x2) y3)))]) (v := .no) [48] kr kr rfl kr (loc_storeRowT (L := (q2.2.1).length) (off := (Int.toNat x2) * 1 + 0) (els := (mI q2.2.1)) (cs := [.int .i64 e1]) (c' := [.int .i64 y3]) (Int.toNat x2) 0 kr lh rfl (by rw [← he1]; exact map_get _ (by first | omega | (simp only [List.length_set, cpyT_length]; omega))) (by first | exact Nat.zero_le _ | omega) kr kr kr kr kr kr List.map_set.symm) kr ?_
       refine oN ?_
       obtain rfl := si hs
       refine nrm_join (List.set q2.2.1 (Int.toNat x2) y3) rfl ?_
       exact Cut.trans (cut_eq 12 (v := .sl 1 48 ((q2.2.1).length) 0 ((q2.2.1).length)) (v' := .sl 1 48 (((List.set q2.2.1 (Int.toNat x2) y3)).length) 0 (((List.set q2.2.1 (Int.toNat x2) y3)).length)) kr (by first | rfl | simp only [List.length_set, cpyT_length])) (cut_of [3, 6, 8, 9, 12, 17, 18, 59, 60, 61] [48, 20, 18, 23, 8, 6, 3] kr kr kr)
      ·replace hs := bif_f h5 hs
       refine vK ?_
       obtain rfl := si hs
       refine nrm_join q2.2.1 rfl ?_
       exact cut_of [3, 6, 8, 9, 12, 17, 18, 59, 60, 61] [48, 20, 18, 23, 8, 6, 3] kr kr kr
     ·subst hz; clear hs; have hs := hk4; clear hk4
      refine nT (vS (vT (oR 3 [(82, .str x3.Name), (81, .ptr 18 0 0), (80, .mp 23)] kr ?_)))
      refine o_loc (F := [(23, .map (encM V.str V.bool v1.1))]) (F' := [(23, .map (encM V.str V.bool v1.1))]) (v := .bool (Option.getD (mfind x3.Name v1.1) false)) [23] kr kr rfl kr (loc_lookup (et := 4) (f := V.str) (g := V.bool) (l := v1.1) (a := x3.Name) (z := false) (zv := .bool false) false kr kok9 kr (fun _ _ _ h => h) kr kr) kr ?_
      refine oR 1 [(84, .bool (!(Option.getD (mfind x3.Name v1.1) false)))] kr ?_
      refine oN (nT ?_)
      obtain ⟨z5, hs, hk5⟩ := bS hs
      refine v_join (S := (List (Sr × Int))) (fun u => u = z5) (fun u => [(3, .ptr 3 0 0), (6, .ptr 6 0 0), (8, .ptr 8 0 0), (9, .mp 23), (12, .sl 1 48 ((v4).length) 0 ((v4).length)), (59, .vs 1 (mI y1.1)), (60, .int .i64 (List.length y1.1 : Int)), (61, .int .i64 q2.1)]) (fun u => [(20, .map (encM V.str (V.int .i64) u)), (23, .map (encM V.str V.bool v1.1)), (48, .row 3 1 0 (mI v4)), (8, .box 71 (enc_Plan p ++ [.mp 20, .vs 1 (mS zones)])), (6, .box 71 [.nils, .nils, .nils, .nils, .nils, .nils, .nils, .int .i64 0, .nilm, .nils]), (3, .box 30 (enc_Plan p))]) ?_ (fun v5 hz => ?_)
      ·refine v_cond (!(Option.getD (mfind x3.Name v1.1) false)) kr (fun h6 => ?_) (fun h6 => ?_)
       ·replace hs := bif_t h6 hs
        refine v_draw mixedH kr ?_
        refine d_runs 6 0 [(90, .int .i64 x2), (89, .sl 1 48 ((v4).length) 0 ((v4).length)), (88, .str x3.Name), (87, .ptr 18 0 0), (86, .mp 20), (85, .ptr 8 0 8)] [⟨5, [], []⟩, ⟨4, [], []⟩, ⟨3, [], [18]⟩, ⟨2, [], []⟩, ⟨1, [], [8]⟩, ⟨0, [], []⟩] kr kr ?_
        obtain ⟨⟨g6a, g6b⟩, hs⟩ := bG hs
        refine d_pure (v := .ptr 48 ((v4).length) ((Int.toNat x2) * 1 + 0)) 6 rfl rfl rfl rfl kr kr (loc_indexRowT (e := 3) (sz := 1) (kk := 48) (L := (v4).length) (n := (v4).length) (k := .i64) (i := x2) kr kr kr g6a g6b) ?_
        obtain ⟨e2, he2, hs⟩ := bE hs
        refine d_loc (F := []) (R := [(48, .row 3 1 0 (mI v4))]) (F' := []) (v := .int .i64 e2) 7 [] [48] rfl rfl rfl rfl kr kr kr kr kr kr kr kr (loc_loadRow (L := (v4).length) (off := (Int.toNat x2) * 1 + 0) (els := (mI v4)) (cs := [.int .i64 e2]) (Int.toNat x2) 0 kr lh rfl (by rw [← he2]; exact map_get _ (by first | omega | (simp only [List.length_set, cpyT_length]; omega))) kr) ?_
        refine d_loc (F := [(20, .map (encM V.str (V.int .i64) q2.2.2))]) (R := []) (F' := [(20, .map (encM V.str (V.int .i64) (mset x3.Name e2 q2.2.2)))]) (v := .no) 8 [20] [] rfl rfl rfl rfl kr kr kr kr kr kr kr kr (loc_mapUpdate (et := 3) (f := V.str) (g := (V.int .i64)) (l := q2.2.2) (a := x3.Name) (c := e2) kr kok9 kr kr kr kr kr) ?_
        refine d_nil kr ?_
        obtain rfl := si hs
        refine nrm_join (mset x3.Name e2 q2.2.2) rfl ?_
        exact cut_of [3, 6, 8, 9, 12, 59, 60, 61] [20, 23, 48, 8, 6, 3] kr kr kr
       ·replace hs := bif_f h6 hs
        refine vK ?_
        obtain rfl := si hs
        refine nrm_join q2.2.2 rfl ?_
        exact cut_of [3, 6, 8, 9, 12, 59, 60, 61] [20, 23, 48, 8, 6, 3] kr kr kr
      ·subst hz; clear hs; have hs := hk5; clear hk5
       refine nB (nT (vT (oR 2 [(61, .int .i64 (w64 (q2.1 + 1))), (93, .int .i64 (w64 (q2.1 + 1)))] kr ?_)))
       refine oN (nrm_fuel ((w64 (q2.1 + 1)), v4, v5) hs ?_)
       exact cut_of [3, 6, 8, 9, 12, 59, 60, 61] [48, 23, 8, 20, 6, 3] kr kr kr
    ·replace hs := bif_f h4 hs
     refine v_exit (exit_thenV (exit_fuel ?_))
     refine exit_blkV ?_
     obtain rfl := si hs
     refine nrm_join (q2.2.1, q2.2.2) rfl ?_
     exact cut_of [6, 8, 12] [48, 8, 20, 6] kr kr kr
   ·subst hz; clear hs; have hs := hk3; clear hk3
    refine nT (vS (vT (o_runh 4 [(7, .sl 1 48 ((v3.1).length) 0 ((v3.1).length)), (95, .sl 1 48 ((v3.1).length) 0 ((v3.1).length)), (94, .agg (enc_Plan p ++ [.mp 20, .vs 1 (mS zones)]))] [(48, .row 3 1 0 (mI v3.1)), (8, .box 71 (enc_Plan p ++ [.mp 20, .vs 1 (mS zones)])), (20, .map (encM V.str (V.int .i64) v3.2)), (6, .box 71 (enc_Plan p ++ [.mp 20, .vs 1 (mS zones)]))] kr ?_)))
    refine oN (nT (v_to _ [(48, .row 3 1 (((mI v3.1)).length) (mI v3.1)), (8, .box 71 (enc_Plan p ++ [.mp 20, .vs 1 (mS zones)])), (20, .map (encM V.str (V.int .i64) v3.2)), (6, .box 71 (enc_Plan p ++ [.mp 20, .vs 1 (mS zones)]))] (cut_freeze (F := [(48, .row 3 1 0 (mI v3.1))]) [48] rfl kr kr) ?_))
    refine v_to ((7, .vs 1 (mI v3.1)) :: _) _ (cut_view (R := [(48, .row 3 1 (((mI v3.1)).length) (mI v3.1))]) (ks := [48]) kr kr (.row (t := 3) (fz := (((mI v3.1)).length)) kr lh)) ?_
    refine v_ret ?_
    cases hs
    exact fin_ret kr kr kr
theorem w_expr_Eval (pD9 : (List Def)) (pT9 : (List Table)) (pZ9 : (List Zone)) (pR9 : (List Rule)) (pC9 : (List Cap)) (pV9 : (List View)) (pS9 : (List Point3)) (pH9 : Int) (measures : (List Entry)) (zones : (List Sr)) (e : Expr) (r : Int) (hs : s_expr_Eval pD9 pT9 pZ9 pR9 pC9 pV9 pS9 pH9 measures zones e = some r) : FnA Tryz.prog 11 [.agg (pL pD9 pT9 pZ9 pR9 pC9 pV9 pS9 pH9), .vs 2 (mM enc_Entry measures), .vs 1 (mS zones), .agg (enc_Expr e)] [] (.int .i64 r) [] := by
 refine fnA_of_wp (N := 24) Tryz.func11 rfl rfl rfl fun cK0 => ?_
 unfold s_expr_Eval at hs
 refine v_same (ρ' := [(0, .agg (pL pD9 pT9 pZ9 pR9 pC9 pV9 pS9 pH9)), (1, .vs 2 (mM enc_Entry measures)), (2, .vs 1 (mS zones)), (3, .agg (enc_Expr e))]) rfl rfl ?_
 refine vS (vT (o_runh 3 [(8, .int .i64 0), (7, .ptr 7 0 0), (4, .ptr 4 0 0)] [(7, .box 35 (enc_Expr e)), (4, .box 30 (pL pD9 pT9 pZ9 pR9 pC9 pV9 pS9 pH9))] kr ?_))
 refine oN (nT (vS (vS (vT (oR 1 [(11, .agg (enc_Expr e))] kr ?_)))))
 obtain ⟨y1, c1, hs⟩ := bS hs
 refine oP (v := .bool y1) kr kr (loc_gcall0 (callV_func hbv7 kr) (w_expr_Right e _ c1) kr) ?_
 refine oR 1 [(13, .bool (!y1))] kr ?_
 refine oN (nT ?_)
 refine v_cond (!y1) kr (fun h1 => ?_) (fun h1 => ?_)
 ·replace hs := bif_t h1 hs
  refine vS (vT (oR 1 [(8, .int .i64 0)] kr ?_))
  refine oN (nT (v_ret (rT ?_)))
  cases hs
  exact fin_ret kr kr kr
 ·replace hs := bif_f h1 hs
  refine vK (nT (vS (vT (oR 3 [(17, .vs 1 (mS zones)), (16, .vs 2 (mM enc_Entry measures)), (15, .agg (pL pD9 pT9 pZ9 pR9 pC9 pV9 pS9 pH9))] kr ?_))))
  obtain ⟨y2, c2, hs⟩ := bS hs
  refine o_loc (F := []) (F' := [(3001800, .map (encM V.str (V.int .i64) y2.2.2.2))]) (v := .tup [.agg (enc_Plan y2.1 ++ [.mp 3001800, .vs 1 (mS y2.2.1)]), .vs 1 (mI y2.2.2.1)]) [] kr kr rfl kr (loc_g (R := []) [.agg (pL pD9 pT9 pZ9 pR9 pC9 pV9 pS9 pH9), .vs 2 (mM enc_Entry measures), .vs 1 (mS zones)] [(20, 3001800)] (callV_func hbv31 kr) (w_expr_prepare (Plan.mk pD9 pT9 pZ9 pR9 pC9 pV9 pS9 pH9) measures zones _ c2) (.cons (.same _) (.cons (.same _) (.cons (.same _) (.nil)))) kr kr kr kr kr kr kr kr) kr ?_
  refine o_runh 6 [(10, .vs 1 (mI y2.2.2.1)), (9, .ptr 9 0 0), (20, .vs 1 (mI y2.2.2.1)), (19, .agg (enc_Plan y2.1 ++ [.mp 3001800, .vs 1 (mS y2.2.1)])), (14, .tup [.agg (enc_Plan y2.1 ++ [.mp 3001800, .vs 1 (mS y2.2.1)]), .vs 1 (mI y2.2.2.1)])] [(9, .box 71 (enc_Plan y2.1 ++ [.mp 3001800, .vs 1 (mS y2.2.1)])), (3001800, .map (encM V.str (V.int .i64) y2.2.2.2)), (7, .box 35 (enc_Expr e)), (4, .box 30 (pL pD9 pT9 pZ9 pR9 pC9 pV9 pS9 pH9))] kr ?_
  refine oN (nT (vS (vT (oR 2 [(22, .agg (enc_Expr e)), (21, .agg (enc_Plan y2.1 ++ [.mp 3001800, .vs 1 (mS y2.2.1)]))] kr ?_))))
  obtain ⟨y3, c3, hs⟩ := bS hs
  refine o_loc (F := [(3001800, .map (encM V.str (V.int .i64) y2.2.2.2))]) (F' := [(3001800, .map (encM V.str (V.int .i64) y2.2.2.2))]) (v := .int .i64 y3) [3001800] kr kr rfl kr (loc_g (R := []) [.agg (enc_Plan y2.1 ++ [.mp 3001800, .vs 1 (mS y2.2.1)]), .agg (enc_Expr e)] [(1000000, 3001800)] (callV_func hbv32 kr) (w_expr_context_value KK y2.1 y2.2.2.2 y2.2.1 e _ c3) (.cons (.same _) (.cons (.same _) (.nil))) kr kr kr kr kr kr kr kr) kr ?_
  refine oR 1 [(8, .int .i64 y3)] kr ?_
  refine oN (nT (v_ret ?_))
  cases hs
  exact fin_ret kr kr kr
theorem w_slices_Clone (s : (List Sr)) (r : (List Sr)) (hs : s_slices_Clone s = some r) : FnA Tryz.prog 22 [.vs 1 (mS s)] [] (.sl 1 5 ((r).length) 0 ((r).length)) [(5, .row 9 1 0 (mS r))] := by
 refine fnA_of_wp (N := 8) Tryz.func22 rfl rfl rfl fun cK0 => ?_
 unfold s_slices_Clone at hs
 refine v_same (ρ' := [(0, .vs 1 (mS s))]) rfl rfl ?_
 refine vS (vT (oR 1 [(2, .nils)] kr ?_))
 refine oN (nT (vS (vS (vT (oR 1 [(3, .vs 1 (mS s))] kr ?_)))))
 replace hs := nd_some hs
 refine o_isNil (n := ((mS s)).length) kr kr kr kr kr (fun h1 => ?_) ?_
 ·replace hs := hs.1 (by simpa using h1)
  refine oN (nT (v_cond_t kr ?_))
  refine vS (vT (oR 1 [(2, .nils)] kr ?_))
  refine oN (nT (v_to _ _ (cut_nilRow 2 5 9 1 rfl kr kr) ?_))
  refine v_ret (rT ?_)
  cases hs
  exact fin_ret kr kr kr
 ·replace hs := hs.2
  refine oN (nT (v_cond_f kr ?_))
  refine vK (nT (vS (vT (o_runh 2 [(6, .vs 1 (mS s)), (5, .sl 1 5 0 0 0)] [(5, .row 9 1 0 (mS []))] kr ?_))))
  obtain ⟨_, g1, hs⟩ := bS hs; replace g1 := grd_some g1
  refine o_loc (F := [(5, .row 9 1 0 (mS []))]) (F' := [(5, .row 9 1 0 (mS s))]) (v := .sl 1 5 ((s).length) 0 ((s).length)) [5] kr kr rfl kr (loc_appendT (e := 9) (sz := 1) (bytes := 16) (L := 0) (els := (mS [])) (ys := (mS s)) kr kr (by first | exact List.length_map .. | rfl) (by have := Src.vs (sz := 1) (R := []) (mS s); exact this) (map_ones EV.encS (fun _ => rfl) _) (map_lens EV.encS (fun _ => rfl) _) kr (by first | exact (List.map_append ..).symm | rfl | simp only [List.map_nil, List.nil_append]) (List.length_map ..) g1 (by omega)) kr ?_
  refine oR 1 [(2, .sl 1 5 ((s).length) 0 ((s).length))] kr ?_
  refine oN (nT (v_ret ?_))
  cases hs
  exact fin_ret kr kr kr
theorem w_expr_Check_1_1 (t : Table) (a1_Op : Int) (a1_N : Int) (a1_S : Sr) (a1_Key : Sr) (a1_Args : (List Expr)) (r : Bool × Int × Int × Sr × Sr × (List Expr)) (hs : s_expr_Check_1_1 t a1_Op a1_N a1_S a1_Key a1_Args = some r) : FnA Tryz.prog 26 [.agg (enc_Table t), .ptr 1000000 0 0] [(1000000, .box 35 [.int .i64 a1_Op, .int .i64 a1_N, .str a1_S, .str a1_Key, .vs 5 (encs_Expr a1_Args)])] (.bool r.1) [(1000000, .box 35 [.int .i64 r.2.1, .int .i64 r.2.2.1, .str r.2.2.2.1, .str r.2.2.2.2.1, .vs 5 (encs_Expr r.2.2.2.2.2)])] := by
 refine fnA_of_wp (N := 9) Tryz.func26 rfl rfl rfl fun cK0 => ?_
 unfold s_expr_Check_1_1 at hs
 refine v_same (ρ' := [(0, .agg (enc_Table t)), (1, .ptr 1000000 0 0)]) rfl rfl ?_
 refine vS (vT (o_runh 2 [(3, .bool false), (2, .ptr 2 0 0)] [(2, .box 57 [.str t.Name, .vs 2 (mM enc_Entry t.Rows), .int .i64 t.Else]), (1000000, .box 35 [.int .i64 a1_Op, .int .i64 a1_N, .str a1_S, .str a1_Key, .vs 5 (encs_Expr a1_Args)])] kr ?_))
 refine oN (nT (vS (vT (oR 6 [(3, .bool (decide (t.Name = a1_S))), (8, .bool (decide (t.Name = a1_S))), (7, .str a1_S), (6, .ptr 1000000 0 2), (5, .str t.Name), (4, .ptr 2 0 0)] kr ?_))))
 refine oN (nT (v_ret ?_))
 cases hs
 exact fin_ret kr kr kr
theorem w_slices_IndexFunc_4 (s : (List Table)) (t_Op : Int) (t_N : Int) (t_S : Sr) (t_Key : Sr) (t_Args : (List Expr)) (r : Int × Int × Int × Sr × Sr × (List Expr)) (hs : s_slices_IndexFunc_4 s t_Op t_N t_S t_Key t_Args = some r) : FnA Tryz.prog 38 [.vs 3 (mM enc_Table s), .fn 26 [] [.ptr 1000000 0 0]] [(1000000, .box 35 [.int .i64 t_Op, .int .i64 t_N, .str t_S, .str t_Key, .vs 5 (encs_Expr t_Args)])] (.int .i64 r.1) [(1000000, .box 35 [.int .i64 r.2.1, .int .i64 r.2.2.1, .str r.2.2.2.1, .str r.2.2.2.2.1, .vs 5 (encs_Expr r.2.2.2.2.2)])] := by
 refine fnA_of_wp (N := 19) Tryz.func38 rfl rfl rfl fun cK0 => ?_
 unfold s_slices_IndexFunc_4 at hs
 refine v_same (ρ' := [(0, .vs 3 (mM enc_Table s)), (1, .fn 26 [] [.ptr 1000000 0 0])]) rfl rfl ?_
 refine vS (vT (oR 1 [(4, .int .i64 0)] kr ?_))
 refine oN (nT (vS (vS (vT (oR 1 [(6, .vs 3 (mM enc_Table s))] kr ?_)))))
 refine oP (v := .int .i64 (List.length s : Int)) kr kr (loc_lenVs (sz := 3) (els := (mM enc_Table s)) kr kr lM) ?_
 refine oR 1 [(8, .int .i64 0)] kr ?_
 refine oN (nT ?_)
 obtain ⟨z1, hs, hk1⟩ := bS hs
 refine v_join (S := Int × Int × Sr × Sr × (List Expr)) (fun u => z1 = .inr u) (fun u => []) (fun u => [(1000000, .box 35 [.int .i64 u.1, .int .i64 u.2.1, .str u.2.2.1, .str u.2.2.2.1, .vs 5 (encs_Expr u.2.2.2.2)])]) ?_ (fun v1 hz => ?_)
 ·refine vB ?_
  refine v_fuel (S := Int × Int × Int × Sr × Sr × (List Expr)) (fun u => [(0, .vs 3 (mM enc_Table s)), (1, .fn 26 [] [.ptr 1000000 0 0]), (7, .int .i64 (List.length s : Int)), (8, .int .i64 u.1)]) (fun u => [(1000000, .box 35 [.int .i64 u.2.1, .int .i64 u.2.2.1, .str u.2.2.2.1, .str u.2.2.2.2.1, .vs 5 (encs_Expr u.2.2.2.2.2)])]) (s_slices_IndexFunc_4_L1 s) (fun _ => rfl) KK (0, t_Op, t_N, t_S, t_Key, t_Args) hs (cut_of [0, 1, 7, 8] [1000000] kr kr kr) (fun K1 q1 hs => ?_)
  rw [s_slices_IndexFunc_4_L1] at hs
  show WpV cK0 Tryz.prog none 19 _ _ [(0, .vs 3 (mM enc_Table s)), (1, .fn 26 [] [.ptr 1000000 0 0]), (7, .int .i64 (List.length s : Int)), (8, .int .i64 q1.1)] [(1000000, .box 35 [.int .i64 q1.2.1, .int .i64 q1.2.2.1, .str q1.2.2.2.1, .str q1.2.2.2.2.1, .vs 5 (encs_Expr q1.2.2.2.2.2)])] []
  refine vS (vT (oR 1 [(9, .bool (decide (q1.1 < (List.length s : Int))))] kr ?_))
  refine oN (nT (vS ?_))
  refine v_cond (decide (q1.1 < (List.length s : Int))) kr (fun h1 => ?_) (fun h1 => ?_)
  ·replace hs := bif_t h1 hs
   refine vK (nT (vS (vB (vS (vT (oR 2 [(5, .int .i64 q1.1), (10, .int .i64 q1.1)] kr ?_))))))
   refine oN (nT (vS (vT (oR 3 [(13, .int .i64 q1.1), (12, .vs 3 (mM enc_Table s)), (11, .fn 26 [] [.ptr 1000000 0 0])] kr ?_))))
   obtain ⟨x1, g1, hs⟩ := bS hs; obtain ⟨g1a, g1b, g1c⟩ := idx_some g1
   refine oP (v := .vp (enc_Table x1) 0) kr kr (loc_indexVs (e := 57) (sz := 3) (k := .i64) (els := (mM enc_Table s)) (cs := (enc_Table x1)) kr kr kr g1a (by rw [g1c]; exact map_get _ (by omega))) ?_
   refine oR 1 [(15, .agg (enc_Table x1))] kr ?_
   obtain ⟨y1, c1, hs⟩ := bS hs
   refine o_loc (F := [(1000000, .box 35 [.int .i64 q1.2.1, .int .i64 q1.2.2.1, .str q1.2.2.2.1, .str q1.2.2.2.2.1, .vs 5 (encs_Expr q1.2.2.2.2.2)])]) (F' := [(1000000, .box 35 [.int .i64 y1.2.1, .int .i64 y1.2.2.1, .str y1.2.2.2.1, .str y1.2.2.2.2.1, .vs 5 (encs_Expr y1.2.2.2.2.2)])]) (v := .bool y1.1) [1000000] kr kr rfl kr (loc_g (R := []) [.agg (enc_Table x1), .ptr 1000000 0 0] [(1000000, 1000000)] (callV_val (first := []) (caps := [.ptr 1000000 0 0]) hbv26 kr kr) (w_expr_Check_1_1 x1 q1.2.1 q1.2.2.1 q1.2.2.2.1 q1.2.2.2.2.1 q1.2.2.2.2.2 _ c1) (.cons (.same _) (.cons (.same _) (.nil))) kr kr kr kr kr kr kr kr) kr ?_
   refine oN (nT ?_)
   refine v_cond y1.1 kr (fun h2 => ?_) (fun h2 => ?_)
   ·replace hs := bif_t h2 hs
    refine vS (vT (oR 2 [(4, .int .i64 q1.1), (17, .int .i64 q1.1)] kr ?_))
    refine oN (nT (v_ret (rB (rT (ret_fuel ?_)))))
    refine rB (ret_join ?_)
    refine rT ?_
    obtain rfl := si hs
    replace hs := hk1
    cases hs
    exact fin_ret kr kr kr
   ·replace hs := bif_f h2 hs
    refine vK (nB (nT (vT (oR 2 [(8, .int .i64 (w64 (q1.1 + 1))), (18, .int .i64 (w64 (q1.1 + 1)))] kr ?_))))
    refine oN (nrm_fuel ((w64 (q1.1 + 1)), y1.2.1, y1.2.2.1, y1.2.2.2.1, y1.2.2.2.2.1, y1.2.2.2.2.2) hs ?_)
    exact cut_of [0, 1, 7, 8] [1000000] kr kr kr
  ·replace hs := bif_f h1 hs
   refine v_exit (exit_thenV (exit_fuel ?_))
   refine exit_blkV ?_
   obtain rfl := si hs
   refine nrm_join (q1.2.1, q1.2.2.1, q1.2.2.2.1, q1.2.2.2.2.1, q1.2.2.2.2.2) rfl ?_
   exact cut_of [] [1000000] kr kr kr
 ·subst hz; clear hs; have hs := hk1; clear hk1
  refine nT (vS (vT (oR 1 [(4, .int .i64 (-1))] kr ?_)))
  refine oN (nT (v_ret ?_))
  cases hs
  exact fin_ret kr kr kr
theorem w_slices_ContainsFunc_2 (s : (List Table)) (t_Op : Int) (t_N : Int) (t_S : Sr) (t_Key : Sr) (t_Args : (List Expr)) (r : Bool × Int × Int × Sr × Sr × (List Expr)) (hs : s_slices_ContainsFunc_2 s t_Op t_N t_S t_Key t_Args = some r) : FnA Tryz.prog 25 [.vs 3 (mM enc_Table s), .fn 26 [] [.ptr 1000000 0 0]] [(1000000, .box 35 [.int .i64 t_Op, .int .i64 t_N, .str t_S, .str t_Key, .vs 5 (encs_Expr t_Args)])] (.bool r.1) [(1000000, .box 35 [.int .i64 r.2.1, .int .i64 r.2.2.1, .str r.2.2.2.1, .str r.2.2.2.2.1, .vs 5 (encs_Expr r.2.2.2.2.2)])] := by
 refine fnA_of_wp (N := 9) Tryz.func25 rfl rfl rfl fun cK0 => ?_
 unfold s_slices_ContainsFunc_2 at hs
 refine v_same (ρ' := [(0, .vs 3 (mM enc_Table s)), (1, .fn 26 [] [.ptr 1000000 0 0])]) rfl rfl ?_
 refine vS (vT (oR 1 [(4, .bool false)] kr ?_))
 refine oN (nT (vS (vT (oR 2 [(6, .fn 26 [] [.ptr 1000000 0 0]), (5, .vs 3 (mM enc_Table s))] kr ?_))))
 obtain ⟨y1, c1, hs⟩ := bS hs
 refine o_loc (F := [(1000000, .box 35 [.int .i64 t_Op, .int .i64 t_N, .str t_S, .str t_Key, .vs 5 (encs_Expr t_Args)])]) (F' := [(1000000, .box 35 [.int .i64 y1.2.1, .int .i64 y1.2.2.1, .str y1.2.2.2.1, .str y1.2.2.2.2.1, .vs 5 (encs_Expr y1.2.2.2.2.2)])]) (v := .int .i64 y1.1) [1000000] kr kr rfl kr (loc_g (R := []) [.vs 3 (mM enc_Table s), .fn 26 [] [.ptr 1000000 0 0]] [(1000000, 1000000)] (callV_func hbv38 kr) (w_slices_IndexFunc_4 s t_Op t_N t_S t_Key t_Args _ c1) (.cons (.same _) (.cons (.same _) (.nil))) kr kr kr kr kr kr kr kr) kr ?_
 refine oR 2 [(4, .bool (decide (y1.1 ≥ 0))), (8, .bool (decide (y1.1 ≥ 0)))] kr ?_
 refine oN (nT (v_ret ?_))
 cases hs
 exact fin_ret kr kr kr
theorem w_expr_Check_1_2 (z : Zone) (a1_Op : Int) (a1_N : Int) (a1_S : Sr) (a1_Key : Sr) (a1_Args : (List Expr)) (r : Bool × Int × Int × Sr × Sr × (List Expr)) (hs : s_expr_Check_1_2 z a1_Op a1_N a1_S a1_Key a1_Args = some r) : FnA Tryz.prog 28 [.agg (enc_Zone z), .ptr 1000000 0 0] [(1000000, .box 35 [.int .i64 a1_Op, .int .i64 a1_N, .str a1_S, .str a1_Key, .vs 5 (encs_Expr a1_Args)])] (.bool r.1) [(1000000, .box 35 [.int .i64 r.2.1, .int .i64 r.2.2.1, .str r.2.2.2.1, .str r.2.2.2.2.1, .vs 5 (encs_Expr r.2.2.2.2.2)])] := by
 refine fnA_of_wp (N := 9) Tryz.func28 rfl rfl rfl fun cK0 => ?_
 unfold s_expr_Check_1_2 at hs
 refine v_same (ρ' := [(0, .agg (enc_Zone z)), (1, .ptr 1000000 0 0)]) rfl rfl ?_
 refine vS (vT (o_runh 2 [(3, .bool false), (2, .ptr 2 0 0)] [(2, .box 54 [.str z.Name, .bool z.Overlay, .vs 2 (mM enc_Point z.Corners)]), (1000000, .box 35 [.int .i64 a1_Op, .int .i64 a1_N, .str a1_S, .str a1_Key, .vs 5 (encs_Expr a1_Args)])] kr ?_))
 refine oN (nT (vS (vT (oR 6 [(3, .bool (decide (z.Name = a1_S))), (8, .bool (decide (z.Name = a1_S))), (7, .str a1_S), (6, .ptr 1000000 0 2), (5, .str z.Name), (4, .ptr 2 0 0)] kr ?_))))
 refine oN (nT (v_ret ?_))
 cases hs
 exact fin_ret kr kr kr
theorem w_slices_IndexFunc_5 (s : (List Zone)) (z_Op : Int) (z_N : Int) (z_S : Sr) (z_Key : Sr) (z_Args : (List Expr)) (r : Int × Int × Int × Sr × Sr × (List Expr)) (hs : s_slices_IndexFunc_5 s z_Op z_N z_S z_Key z_Args = some r) : FnA Tryz.prog 39 [.vs 3 (mM enc_Zone s), .fn 28 [] [.ptr 1000000 0 0]] [(1000000, .box 35 [.int .i64 z_Op, .int .i64 z_N, .str z_S, .str z_Key, .vs 5 (encs_Expr z_Args)])] (.int .i64 r.1) [(1000000, .box 35 [.int .i64 r.2.1, .int .i64 r.2.2.1, .str r.2.2.2.1, .str r.2.2.2.2.1, .vs 5 (encs_Expr r.2.2.2.2.2)])] := by
 refine fnA_of_wp (N := 19) Tryz.func39 rfl rfl rfl fun cK0 => ?_
 unfold s_slices_IndexFunc_5 at hs
 refine v_same (ρ' := [(0, .vs 3 (mM enc_Zone s)), (1, .fn 28 [] [.ptr 1000000 0 0])]) rfl rfl ?_
 refine vS (vT (oR 1 [(4, .int .i64 0)] kr ?_))
 refine oN (nT (vS (vS (vT (oR 1 [(6, .vs 3 (mM enc_Zone s))] kr ?_)))))
 refine oP (v := .int .i64 (List.length s : Int)) kr kr (loc_lenVs (sz := 3) (els := (mM enc_Zone s)) kr kr lM) ?_
 refine oR 1 [(8, .int .i64 0)] kr ?_
 refine oN (nT ?_)
 obtain ⟨z1, hs, hk1⟩ := bS hs
 refine v_join (S := Int × Int × Sr × Sr × (List Expr)) (fun u => z1 = .inr u) (fun u => []) (fun u => [(1000000, .box 35 [.int .i64 u.1, .int .i64 u.2.1, .str u.2.2.1, .str u.2.2.2.1, .vs 5 (encs_Expr u.2.2.2.2)])]) ?_ (fun v1 hz => ?_)
 ·refine vB ?_
  refine v_fuel (S := Int × Int × Int × Sr × Sr × (List Expr)) (fun u => [(0, .vs 3 (mM enc_Zone s)), (1, .fn 28 [] [.ptr 1000000 0 0]), (7, .int .i64 (List.length s : Int)), (8, .int .i64 u.1)]) (fun u => [(1000000, .box 35 [.int .i64 u.2.1, .int .i64 u.2.2.1, .str u.2.2.2.1, .str u.2.2.2.2.1, .vs 5 (encs_Expr u.2.2.2.2.2)])]) (s_slices_IndexFunc_5_L1 s) (fun _ => rfl) KK (0, z_Op, z_N, z_S, z_Key, z_Args) hs (cut_of [0, 1, 7, 8] [1000000] kr kr kr) (fun K1 q1 hs => ?_)
  rw [s_slices_IndexFunc_5_L1] at hs
  show WpV cK0 Tryz.prog none 19 _ _ [(0, .vs 3 (mM enc_Zone s)), (1, .fn 28 [] [.ptr 1000000 0 0]), (7, .int .i64 (List.length s : Int)), (8, .int .i64 q1.1)] [(1000000, .box 35 [.int .i64 q1.2.1, .int .i64 q1.2.2.1, .str q1.2.2.2.1, .str q1.2.2.2.2.1, .vs 5 (encs_Expr q1.2.2.2.2.2)])] []
  refine vS (vT (oR 1 [(9, .bool (decide (q1.1 < (List.length s : Int))))] kr ?_))
  refine oN (nT (vS ?_))
  refine v_cond (decide (q1.1 < (List.length s : Int))) kr (fun h1 => ?_) (fun h1 => ?_)
  ·replace hs := bif_t h1 hs
   refine vK (nT (vS (vB (vS (vT (oR 2 [(5, .int .i64 q1.1), (10, .int .i64 q1.1)] kr ?_))))))
   refine oN (nT (vS (vT (oR 3 [(13, .int .i64 q1.1), (12, .vs 3 (mM enc_Zone s)), (11, .fn 28 [] [.ptr 1000000 0 0])] kr ?_))))
   obtain ⟨x1, g1, hs⟩ := bS hs; obtain ⟨g1a, g1b, g1c⟩ := idx_some g1
   refine oP (v := .vp (enc_Zone x1) 0) kr kr (loc_indexVs (e := 54) (sz := 3) (k := .i64) (els := (mM enc_Zone s)) (cs := (enc_Zone x1)) kr kr kr g1a (by rw [g1c]; exact map_get _ (by omega))) ?_
   refine oR 1 [(15, .agg (enc_Zone x1))] kr ?_
   obtain ⟨y1, c1, hs⟩ := bS hs
   refine o_loc (F := [(1000000, .box 35 [.int .i64 q1.2.1, .int .i64 q1.2.2.1, .str q1.2.2.2.1, .str q1.2.2.2.2.1, .vs 5 (encs_Expr q1.2.2.2.2.2)])]) (F' := [(1000000, .box 35 [.int .i64 y1.2.1, .int .i64 y1.2.2.1, .str y1.2.2.2.1, .str y1.2.2.2.2.1, .vs 5 (encs_Expr y1.2.2.2.2.2)])]) (v := .bool y1.1) [1000000] kr kr rfl kr (loc_g (R := []) [.agg (enc_Zone x1), .ptr 1000000 0 0] [(1000000, 1000000)] (callV_val (first := []) (caps := [.ptr 1000000 0 0]) hbv28 kr kr) (w_expr_Check_1_2 x1 q1.2.1 q1.2.2.1 q1.2.2.2.1 q1.2.2.2.2.1 q1.2.2.2.2.2 _ c1) (.cons (.same _) (.cons (.same _) (.nil))) kr kr kr kr kr kr kr kr) kr ?_
   refine oN (nT ?_)
   refine v_cond y1.1 kr (fun h2 => ?_) (fun h2 => ?_)
   ·replace hs := bif_t h2 hs
    refine vS (vT (oR 2 [(4, .int .i64 q1.1), (17, .int .i64 q1.1)] kr ?_))
    refine oN (nT (v_ret (rB (rT (ret_fuel ?_)))))
    refine rB (ret_join ?_)
    refine rT ?_
    obtain rfl := si hs
    replace hs := hk1
    cases hs
    exact fin_ret kr kr kr
   ·replace hs := bif_f h2 hs
    refine vK (nB (nT (vT (oR 2 [(8, .int .i64 (w64 (q1.1 + 1))), (18, .int .i64 (w64 (q1.1 + 1)))] kr ?_))))
    refine oN (nrm_fuel ((w64 (q1.1 + 1)), y1.2.1, y1.2.2.1, y1.2.2.2.1, y1.2.2.2.2.1, y1.2.2.2.2.2) hs ?_)
    exact cut_of [0, 1, 7, 8] [1000000] kr kr kr
  ·replace hs := bif_f h1 hs
   refine v_exit (exit_thenV (exit_fuel ?_))
   refine exit_blkV ?_
   obtain rfl := si hs
   refine nrm_join (q1.2.1, q1.2.2.1, q1.2.2.2.1, q1.2.2.2.2.1, q1.2.2.2.2.2) rfl ?_
   exact cut_of [] [1000000] kr kr kr
 ·subst hz; clear hs; have hs := hk1; clear hk1
  refine nT (vS (vT (oR 1 [(4, .int .i64 (-1))] kr ?_)))
  refine oN (nT (v_ret ?_))
  cases hs
  exact fin_ret kr kr kr
theorem w_slices_ContainsFunc_3 (s : (List Zone)) (z_Op : Int) (z_N : Int) (z_S : Sr) (z_Key : Sr) (z_Args : (List Expr)) (r : Bool × Int × Int × Sr × Sr × (List Expr)) (hs : s_slices_ContainsFunc_3 s z_Op z_N z_S z_Key z_Args = some r) : FnA Tryz.prog 27 [.vs 3 (mM enc_Zone s), .fn 28 [] [.ptr 1000000 0 0]] [(1000000, .box 35 [.int .i64 z_Op, .int .i64 z_N, .str z_S, .str z_Key, .vs 5 (encs_Expr z_Args)])] (.bool r.1) [(1000000, .box 35 [.int .i64 r.2.1, .int .i64 r.2.2.1, .str r.2.2.2.1, .str r.2.2.2.2.1, .vs 5 (encs_Expr r.2.2.2.2.2)])] := by
 refine fnA_of_wp (N := 9) Tryz.func27 rfl rfl rfl fun cK0 => ?_
 unfold s_slices_ContainsFunc_3 at hs
 refine v_same (ρ' := [(0, .vs 3 (mM enc_Zone s)), (1, .fn 28 [] [.ptr 1000000 0 0])]) rfl rfl ?_
 refine vS (vT (oR 1 [(4, .bool false)] kr ?_))
 refine oN (nT (vS (vT (oR 2 [(6, .fn 28 [] [.ptr 1000000 0 0]), (5, .vs 3 (mM enc_Zone s))] kr ?_))))
 obtain ⟨y1, c1, hs⟩ := bS hs
 refine o_loc (F := [(1000000, .box 35 [.int .i64 z_Op, .int .i64 z_N, .str z_S, .str z_Key, .vs 5 (encs_Expr z_Args)])]) (F' := [(1000000, .box 35 [.int .i64 y1.2.1, .int .i64 y1.2.2.1, .str y1.2.2.2.1, .str y1.2.2.2.2.1, .vs 5 (encs_Expr y1.2.2.2.2.2)])]) (v := .int .i64 y1.1) [1000000] kr kr rfl kr (loc_g (R := []) [.vs 3 (mM enc_Zone s), .fn 28 [] [.ptr 1000000 0 0]] [(1000000, 1000000)] (callV_func hbv39 kr) (w_slices_IndexFunc_5 s z_Op z_N z_S z_Key z_Args _ c1) (.cons (.same _) (.cons (.same _) (.nil))) kr kr kr kr kr kr kr kr) kr ?_
 refine oR 2 [(4, .bool (decide (y1.1 ≥ 0))), (8, .bool (decide (y1.1 ≥ 0)))] kr ?_
 refine oN (nT (v_ret ?_))
 cases hs
 exact fin_ret kr kr kr
theorem ws_slices_IndexFunc_6 (nF : Nat) (ih_slices_IndexFunc_6 : ∀ (s : (List Expr)) (c_2 : (List Sr)) (c_1D9 : (List Def)) (c_1T9 : (List Table)) (c_1Z9 : (List Zone)) (c_1R9 : (List Rule)) (c_1C9 : (List Cap)) (c_1V9 : (List View)) (c_1S9 : (List Point3)) (c_1H9 : Int) (r : Int × (List Sr) × (List Def) × (List Table) × (List Zone) × (List Rule) × (List Cap) × (List View) × (List Point3) × Int), s_slices_IndexFunc_6 nF s c_2 c_1D9 c_1T9 c_1Z9 c_1R9 c_1C9 c_1V9 c_1S9 c_1H9 = some r → FnA Tryz.prog 40 [.vs 5 (encs_Expr s), .fn 23 [] [.ptr 1000000 0 0, .ptr 1000002 0 0, .ptr 1000003 0 0]] [(1000000, .box 32 [.sl 1 1000001 ((c_2).length) 0 ((c_2).length)]), (1000001, .row 9 1 0 (mS c_2)), (1000002, .box 30 (pL c_1D9 c_1T9 c_1Z9 c_1R9 c_1C9 c_1V9 c_1S9 c_1H9)), bx0] (.int .i64 r.1) [(1000001, .row 9 1 0 (mS r.2.1)), (1000000, .box 32 [.sl 1 1000001 ((r.2.1).length) 0 ((r.2.1).length)]), (1000002, .box 30 (pL r.2.2.1 r.2.2.2.1 r.2.2.2.2.1 r.2.2.2.2.2.1 r.2.2.2.2.2.2.1 r.2.2.2.2.2.2.2.1 r.2.2.2.2.2.2.2.2.1 r.2.2.2.2.2.2.2.2.2)), bx0]) (ih_slices_ContainsFunc_4 : ∀ (s : (List Expr)) (c_2 : (List Sr)) (c_1D9 : (List Def)) (c_1T9 : (List Table)) (c_1Z9 : (List Zone)) (c_1R9 : (List Rule)) (c_1C9 : (List Cap)) (c_1V9 : (List View)) (c_1S9 : (List Point3)) (c_1H9 : Int) (r : Bool × (List Sr) × (List Def) × (List Table) × (List Zone) × (List Rule) × (List Cap) × (List View) × (List Point3) × Int), s_slices_ContainsFunc_4 nF s c_2 c_1D9 c_1T9 c_1Z9 c_1R9 c_1C9 c_1V9 c_1S9 c_1H9 = some r → FnA Tryz.prog 29 [.vs 5 (encs_Expr s), .fn 23 [] [.ptr 1000000 0 0, .ptr 1000002 0 0, .ptr 1000003 0 0]] [(1000000, .box 32 [.sl 1 1000001 ((c_2).length) 0 ((c_2).length)]), (1000001, .row 9 1 0 (mS c_2)), (1000002, .box 30 (pL c_1D9 c_1T9 c_1Z9 c_1R9 c_1C9 c_1V9 c_1S9 c_1H9)), bx0] (.bool r.1) [(1000001, .row 9 1 0 (mS r.2.1)), (1000000, .box 32 [.sl 1 1000001 ((r.2.1).length) 0 ((r.2.1).length)]), (1000002, .box 30 (pL r.2.2.1 r.2.2.2.1 r.2.2.2.2.1 r.2.2.2.2.2.1 r.2.2.2.2.2.2.1 r.2.2.2.2.2.2.2.1 r.2.2.2.2.2.2.2.2.1 r.2.2.2.2.2.2.2.2.2)), bx0]) (ih_expr_Check_1 : ∀ (e : Expr) (a1 : (List Sr)) (a2D9 : (List Def)) (a2T9 : (List Table)) (a2Z9 : (List Zone)) (a2R9 : (List Rule)) (a2C9 : (List Cap)) (a2V9 : (List View)) (a2S9 : (List Point3)) (a2H9 : Int) (r : Bool × (List Sr) × (List Def) × (List Table) × (List Zone) × (List Rule) × (List Cap) × (List View) × (List Point3) × Int), s_expr_Check_1 nF e a1 a2D9 a2T9 a2Z9 a2R9 a2C9 a2V9 a2S9 a2H9 = some r → FnA Tryz.prog 23 [.agg (enc_Expr e), .ptr 1000000 0 0, .ptr 1000002 0 0, .ptr 1000003 0 0] [(1000000, .box 32 [.sl 1 1000001 ((a1).length) 0 ((a1).length)]), (1000001, .row 9 1 0 (mS a1)), (1000002, .box 30 (pL a2D9 a2T9 a2Z9 a2R9 a2C9 a2V9 a2S9 a2H9)), bx0] (.bool r.1) [(1000001, .row 9 1 0 (mS r.2.1)), (1000000, .box 32 [.sl 1 1000001 ((r.2.1).length) 0 ((r.2.1).length)]), (1000002, .box 30 (pL r.2.2.1 r.2.2.2.1 r.2.2.2.2.1 r.2.2.2.2.2.1 r.2.2.2.2.2.2.1 r.2.2.2.2.2.2.2.1 r.2.2.2.2.2.2.2.2.1 r.2.2.2.2.2.2.2.2.2)), bx0]) (s : (List Expr)) (c_2 : (List Sr)) (c_1D9 : (List Def)) (c_1T9 : (List Table)) (c_1Z9 : (List Zone)) (c_1R9 : (List Rule)) (c_1C9 : (List Cap)) (c_1V9 : (List View)) (c_1S9 : (List Point3)) (c_1H9 : Int) (r : Int × (List Sr) × (List Def) × (List Table) × (List Zone) × (List Rule) × (List Cap) × (List View) × (List Point3) × Int) (hs : s_slices_IndexFunc_6 (nF + 1) s c_2 c_1D9 c_1T9 c_1Z9 c_1R9 c_1C9 c_1V9 c_1S9 c_1H9 = some r) : FnA Tryz.prog 40 [.vs 5 (encs_Expr s), .fn 23 [] [.ptr 1000000 0 0, .ptr 1000002 0 0, .ptr 1000003 0 0]] [(1000000, .box 32 [.sl 1 1000001 ((c_2).length) 0 ((c_2).length)]), (1000001, .row 9 1 0 (mS c_2)), (1000002, .box 30 (pL c_1D9 c_1T9 c_1Z9 c_1R9 c_1C9 c_1V9 c_1S9 c_1H9)), bx0] (.int .i64 r.1) [(1000001, .row 9 1 0 (mS r.2.1)), (1000000, .box 32 [.sl 1 1000001 ((r.2.1).length) 0 ((r.2.1).length)]), (1000002, .box 30 (pL r.2.2.1 r.2.2.2.1 r.2.2.2.2.1 r.2.2.2.2.2.1 r.2.2.2.2.2.2.1 r.2.2.2.2.2.2.2.1 r.2.2.2.2.2.2.2.2.1 r.2.2.2.2.2.2.2.2.2)), bx0] := by
 refine fnA_of_wp (N := 19) Tryz.func40 rfl rfl rfl fun cK0 => ?_
 rw [s_slices_IndexFunc_6] at hs
 refine v_same (ρ' := [(0, .vs 5 (encs_Expr s)), (1, .fn 23 [] [.ptr 1000000 0 0, .ptr 1000002 0 0, .ptr 1000003 0 0])]) rfl rfl ?_
 refine vS (vT (oR 1 [(4, .int .i64 0)] kr ?_))
 refine oN (nT (vS (vS (vT (oR 1 [(6, .vs 5 (encs_Expr s))] kr ?_)))))
 refine oP (v := .int .i64 (List.length s : Int)) kr kr (loc_lenVs (sz := 5) (els := (encs_Expr s)) kr kr (by rw [encs_Expr_eq, List.length_map])) ?_
 refine oR 1 [(8, .int .i64 0)] kr ?_
 refine oN (nT ?_)
 obtain ⟨z1, hs, hk1⟩ := bS hs
 refine v_join (S := (List Sr) × (List Def) × (List Table) × (List Zone) × (List Rule) × (List Cap) × (List View) × (List Point3) × Int) (fun u => z1 = .inr u) (fun u => []) (fun u => [(1000000, .box 32 [.sl 1 1000001 ((u.1).length) 0 ((u.1).length)]), (1000001, .row 9 1 0 (mS u.1)), (1000002, .box 30 (pL u.2.1 u.2.2.1 u.2.2.2.1 u.2.2.2.2.1 u.2.2.2.2.2.1 u.2.2.2.2.2.2.1 u.2.2.2.2.2.2.2.1 u.2.2.2.2.2.2.2.2)), bx0]) ?_ (fun v1 hz => ?_)
 ·refine vB ?_
  refine v_fuel (S := Int × (List Sr) × (List Def) × (List Table) × (List Zone) × (List Rule) × (List Cap) × (List View) × (List Point3) × Int) (fun u => [(0, .vs 5 (encs_Expr s)), (1, .fn 23 [] [.ptr 1000000 0 0, .ptr 1000002 0 0, .ptr 1000003 0 0]), (7, .int .i64 (List.length s : Int)), (8, .int .i64 u.1)]) (fun u => [(1000000, .box 32 [.sl 1 1000001 ((u.2.1).length) 0 ((u.2.1).length)]), (1000001, .row 9 1 0 (mS u.2.1)), (1000002, .box 30 (pL u.2.2.1 u.2.2.2.1 u.2.2.2.2.1 u.2.2.2.2.2.1 u.2.2.2.2.2.2.1 u.2.2.2.2.2.2.2.1 u.2.2.2.2.2.2.2.2.1 u.2.2.2.2.2.2.2.2.2)), bx0]) (s_slices_IndexFunc_6_L1 (s_expr_Check_1 nF) s) (fun _ => rfl) KK (0, c_2, c_1D9, c_1T9, c_1Z9, c_1R9, c_1C9, c_1V9, c_1S9, c_1H9) hs (cut_of [0, 1, 7, 8] [1000000, 1000001, 1000002, 1000003] kr kr kr) (fun K1 q1 hs => ?_)
  rw [s_slices_IndexFunc_6_L1] at hs
  show WpV cK0 Tryz.prog none 19 _ _ [(0, .vs 5 (encs_Expr s)), (1, .fn 23 [] [.ptr 1000000 0 0, .ptr 1000002 0 0, .ptr 1000003 0 0]), (7, .int .i64 (List.length s : Int)), (8, .int .i64 q1.1)] [(1000000, .box 32 [.sl 1 1000001 ((q1.2.1).length) 0 ((q1.2.1).length)]), (1000001, .row 9 1 0 (mS q1.2.1)), (1000002, .box 30 (pL q1.2.2.1 q1.2.2.2.1 q1.2.2.2.2.1 q1.2.2.2.2.2.1 q1.2.2.2.2.2.2.1 q1.2.2.2.2.2.2.2.1 q1.2.2.2.2.2.2.2.2.1 q1.2.2.2.2.2.2.2.2.2)), bx0] []
  refine vS (vT (oR 1 [(9, .bool (decide (q1.1 < (List.length s : Int))))] kr ?_))
  refine oN (nT (vS ?_))
  refine v_cond (decide (q1.1 < (List.length s : Int))) kr (fun h1 => ?_) (fun h1 => ?_)
  ·replace hs := bif_t h1 hs
   refine vK (nT (vS (vB (vS (vT (oR 2 [(5, .int .i64 q1.1), (10, .int .i64 q1.1)] kr ?_))))))
   refine oN (nT (vS (vT (oR 3 [(13, .int .i64 q1.1), (12, .vs 5 (encs_Expr s)), (11, .fn 23 [] [.ptr 1000000 0 0, .ptr 1000002 0 0, .ptr 1000003 0 0])] kr ?_))))
   obtain ⟨x1, g1, hs⟩ := bS hs; obtain ⟨g1a, g1b, g1c⟩ := idx_some g1
   refine oP (v := .vp (enc_Expr x1) 0) kr kr (loc_indexVs (e := 35) (sz := 5) (k := .i64) (els := (encs_Expr s)) (cs := (enc_Expr x1)) kr kr kr g1a (by rw [g1c, encs_Expr_eq]; exact map_get _ (by omega))) ?_
   refine oR 1 [(15, .agg (enc_Expr x1))] kr ?_
   obtain ⟨y1, c1, hs⟩ := bS hs
   refine o_loc (F := [(1000000, .box 32 [.sl 1 1000001 ((q1.2.1).length) 0 ((q1.2.1).length)]), (1000001, .row 9 1 0 (mS q1.2.1)), (1000002, .box 30 (pL q1.2.2.1 q1.2.2.2.1 q1.2.2.2.2.1 q1.2.2.2.2.2.1 q1.2.2.2.2.2.2.1 q1.2.2.2.2.2.2.2.1 q1.2.2.2.2.2.2.2.2.1 q1.2.2.2.2.2.2.2.2.2)), bx0]) (F' := [(1000001, .row 9 1 0 (mS y1.2.1)), (1000000, .box 32 [.sl 1 1000001 ((y1.2.1).length) 0 ((y1.2.1).length)]), (1000002, .box 30 (pL y1.2.2.1 y1.2.2.2.1 y1.2.2.2.2.1 y1.2.2.2.2.2.1 y1.2.2.2.2.2.2.1 y1.2.2.2.2.2.2.2.1 y1.2.2.2.2.2.2.2.2.1 y1.2.2.2.2.2.2.2.2.2)), bx0]) (v := .bool y1.1) [1000000, 1000001, 1000002, 1000003] kr kr rfl kr (loc_g (R := []) [.agg (enc_Expr x1), .ptr 1000000 0 0, .ptr 1000002 0 0, .ptr 1000003 0 0] [(1000000, 1000000), (1000001, 1000001), (1000002, 1000002), (1000003, 1000003)] (callV_val (first := []) (caps := [.ptr 1000000 0 0, .ptr 1000002 0 0, .ptr 1000003 0 0]) hbv23 kr kr) (ih_expr_Check_1 x1 q1.2.1 q1.2.2.1 q1.2.2.2.1 q1.2.2.2.2.1 q1.2.2.2.2.2.1 q1.2.2.2.2.2.2.1 q1.2.2.2.2.2.2.2.1 q1.2.2.2.2.2.2.2.2.1 q1.2.2.2.2.2.2.2.2.2 _ c1) (.cons (.same _) (.cons (.same _) (.cons (.same _) (.cons (.same _) (.nil))))) kr kr kr kr kr kr kr kr) kr ?_
   refine oN (nT ?_)
   refine v_cond y1.1 kr (fun h2 => ?_) (fun h2 => ?_)
   ·replace hs := bif_t h2 hs
    refine vS (vT (oR 2 [(4, .int .i64 q1.1), (17, .int .i64 q1.1)] kr ?_))
    refine oN (nT (v_ret (rB (rT (ret_fuel ?_)))))
    refine rB (ret_join ?_)
    refine rT ?_
    obtain rfl := si hs
    replace hs := hk1
    cases hs
    exact fin_ret kr kr kr
   ·replace hs := bif_f h2 hs
    refine vK (nB (nT (vT (oR 2 [(8, .int .i64 (w64 (q1.1 + 1))), (18, .int .i64 (w64 (q1.1 + 1)))] kr ?_))))
    refine oN (nrm_fuel ((w64 (q1.1 + 1)), y1.2.1, y1.2.2.1, y1.2.2.2.1, y1.2.2.2.2.1, y1.2.2.2.2.2.1, y1.2.2.2.2.2.2.1, y1.2.2.2.2.2.2.2.1, y1.2.2.2.2.2.2.2.2.1, y1.2.2.2.2.2.2.2.2.2) hs ?_)
    exact cut_of [0, 1, 7, 8] [1000000, 1000001, 1000002, 1000003] kr kr kr
  ·replace hs := bif_f h1 hs
   refine v_exit (exit_thenV (exit_fuel ?_))
   refine exit_blkV ?_
   obtain rfl := si hs
   refine nrm_join (q1.2.1, q1.2.2.1, q1.2.2.2.1, q1.2.2.2.2.1, q1.2.2.2.2.2.1, q1.2.2.2.2.2.2.1, q1.2.2.2.2.2.2.2.1, q1.2.2.2.2.2.2.2.2.1, q1.2.2.2.2.2.2.2.2.2) rfl ?_
   exact cut_of [] [1000000, 1000001, 1000002, 1000003] kr kr kr
 ·subst hz; clear hs; have hs := hk1; clear hk1
  refine nT (vS (vT (oR 1 [(4, .int .i64 (-1))] kr ?_)))
  refine oN (nT (v_ret ?_))
  cases hs
  exact fin_ret kr kr kr
theorem ws_slices_ContainsFunc_4 (nF : Nat) (ih_slices_IndexFunc_6 : ∀ (s : (List Expr)) (c_2 : (List Sr)) (c_1D9 : (List Def)) (c_1T9 : (List Table)) (c_1Z9 : (List Zone)) (c_1R9 : (List Rule)) (c_1C9 : (List Cap)) (c_1V9 : (List View)) (c_1S9 : (List Point3)) (c_1H9 : Int) (r : Int × (List Sr) × (List Def) × (List Table) × (List Zone) × (List Rule) × (List Cap) × (List View) × (List Point3) × Int), s_slices_IndexFunc_6 nF s c_2 c_1D9 c_1T9 c_1Z9 c_1R9 c_1C9 c_1V9 c_1S9 c_1H9 = some r → FnA Tryz.prog 40 [.vs 5 (encs_Expr s), .fn 23 [] [.ptr 1000000 0 0, .ptr 1000002 0 0, .ptr 1000003 0 0]] [(1000000, .box 32 [.sl 1 1000001 ((c_2).length) 0 ((c_2).length)]), (1000001, .row 9 1 0 (mS c_2)), (1000002, .box 30 (pL c_1D9 c_1T9 c_1Z9 c_1R9 c_1C9 c_1V9 c_1S9 c_1H9)), bx0] (.int .i64 r.1) [(1000001, .row 9 1 0 (mS r.2.1)), (1000000, .box 32 [.sl 1 1000001 ((r.2.1).length) 0 ((r.2.1).length)]), (1000002, .box 30 (pL r.2.2.1 r.2.2.2.1 r.2.2.2.2.1 r.2.2.2.2.2.1 r.2.2.2.2.2.2.1 r.2.2.2.2.2.2.2.1 r.2.2.2.2.2.2.2.2.1 r.2.2.2.2.2.2.2.2.2)), bx0]) (ih_slices_ContainsFunc_4 : ∀ (s : (List Expr)) (c_2 : (List Sr)) (c_1D9 : (List Def)) (c_1T9 : (List Table)) (c_1Z9 : (List Zone)) (c_1R9 : (List Rule)) (c_1C9 : (List Cap)) (c_1V9 : (List View)) (c_1S9 : (List Point3)) (c_1H9 : Int) (r : Bool × (List Sr) × (List Def) × (List Table) × (List Zone) × (List Rule) × (List Cap) × (List View) × (List Point3) × Int), s_slices_ContainsFunc_4 nF s c_2 c_1D9 c_1T9 c_1Z9 c_1R9 c_1C9 c_1V9 c_1S9 c_1H9 = some r → FnA Tryz.prog 29 [.vs 5 (encs_Expr s), .fn 23 [] [.ptr 1000000 0 0, .ptr 1000002 0 0, .ptr 1000003 0 0]] [(1000000, .box 32 [.sl 1 1000001 ((c_2).length) 0 ((c_2).length)]), (1000001, .row 9 1 0 (mS c_2)), (1000002, .box 30 (pL c_1D9 c_1T9 c_1Z9 c_1R9 c_1C9 c_1V9 c_1S9 c_1H9)), bx0] (.bool r.1) [(1000001, .row 9 1 0 (mS r.2.1)), (1000000, .box 32 [.sl 1 1000001 ((r.2.1).length) 0 ((r.2.1).length)]), (1000002, .box 30 (pL r.2.2.1 r.2.2.2.1 r.2.2.2.2.1 r.2.2.2.2.2.1 r.2.2.2.2.2.2.1 r.2.2.2.2.2.2.2.1 r.2.2.2.2.2.2.2.2.1 r.2.2.2.2.2.2.2.2.2)), bx0]) (ih_expr_Check_1 : ∀ (e : Expr) (a1 : (List Sr)) (a2D9 : (List Def)) (a2T9 : (List Table)) (a2Z9 : (List Zone)) (a2R9 : (List Rule)) (a2C9 : (List Cap)) (a2V9 : (List View)) (a2S9 : (List Point3)) (a2H9 : Int) (r : Bool × (List Sr) × (List Def) × (List Table) × (List Zone) × (List Rule) × (List Cap) × (List View) × (List Point3) × Int), s_expr_Check_1 nF e a1 a2D9 a2T9 a2Z9 a2R9 a2C9 a2V9 a2S9 a2H9 = some r → FnA Tryz.prog 23 [.agg (enc_Expr e), .ptr 1000000 0 0, .ptr 1000002 0 0, .ptr 1000003 0 0] [(1000000, .box 32 [.sl 1 1000001 ((a1).length) 0 ((a1).length)]), (1000001, .row 9 1 0 (mS a1)), (1000002, .box 30 (pL a2D9 a2T9 a2Z9 a2R9 a2C9 a2V9 a2S9 a2H9)), bx0] (.bool r.1) [(1000001, .row 9 1 0 (mS r.2.1)), (1000000, .box 32 [.sl 1 1000001 ((r.2.1).length) 0 ((r.2.1).length)]), (1000002, .box 30 (pL r.2.2.1 r.2.2.2.1 r.2.2.2.2.1 r.2.2.2.2.2.1 r.2.2.2.2.2.2.1 r.2.2.2.2.2.2.2.1 r.2.2.2.2.2.2.2.2.1 r.2.2.2.2.2.2.2.2.2)), bx0]) (s : (List Expr)) (c_2 : (List Sr)) (c_1D9 : (List Def)) (c_1T9 : (List Table)) (c_1Z9 : (List Zone)) (c_1R9 : (List Rule)) (c_1C9 : (List Cap)) (c_1V9 : (List View)) (c_1S9 : (List Point3)) (c_1H9 : Int) (r : Bool × (List Sr) × (List Def) × (List Table) × (List Zone) × (List Rule) × (List Cap) × (List View) × (List Point3) × Int) (hs : s_slices_ContainsFunc_4 (nF + 1) s c_2 c_1D9 c_1T9 c_1Z9 c_1R9 c_1C9 c_1V9 c_1S9 c_1H9 = some r) : FnA Tryz.prog 29 [.vs 5 (encs_Expr s), .fn 23 [] [.ptr 1000000 0 0, .ptr 1000002 0 0, .ptr 1000003 0 0]] [(1000000, .box 32 [.sl 1 1000001 ((c_2).length) 0 ((c_2).length)]), (1000001, .row 9 1 0 (mS c_2)), (1000002, .box 30 (pL c_1D9 c_1T9 c_1Z9 c_1R9 c_1C9 c_1V9 c_1S9 c_1H9)), bx0] (.bool r.1) [(1000001, .row 9 1 0 (mS r.2.1)), (1000000, .box 32 [.sl 1 1000001 ((r.2.1).length) 0 ((r.2.1).length)]), (1000002, .box 30 (pL r.2.2.1 r.2.2.2.1 r.2.2.2.2.1 r.2.2.2.2.2.1 r.2.2.2.2.2.2.1 r.2.2.2.2.2.2.2.1 r.2.2.2.2.2.2.2.2.1 r.2.2.2.2.2.2.2.2.2)), bx0] := by
 refine fnA_of_wp (N := 9) Tryz.func29 rfl rfl rfl fun cK0 => ?_
 rw [s_slices_ContainsFunc_4] at hs
 refine v_same (ρ' := [(0, .vs 5 (encs_Expr s)), (1, .fn 23 [] [.ptr 1000000 0 0, .ptr 1000002 0 0, .ptr 1000003 0 0])]) rfl rfl ?_
 refine vS (vT (oR 1 [(4, .bool false)] kr ?_))
 refine oN (nT (vS (vT (oR 2 [(6, .fn 23 [] [.ptr 1000000 0 0, .ptr 1000002 0 0, .ptr 1000003 0 0]), (5, .vs 5 (encs_Expr s))] kr ?_))))
 obtain ⟨y1, c1, hs⟩ := bS hs
 refine o_loc (F := [(1000000, .box 32 [.sl 1 1000001 ((c_2).length) 0 ((c_2).length)]), (1000001, .row 9 1 0 (mS c_2)), (1000002, .box 30 (pL c_1D9 c_1T9 c_1Z9 c_1R9 c_1C9 c_1V9 c_1S9 c_1H9)), bx0]) (F' := [(1000001, .row 9 1 0 (mS y1.2.1)), (1000000, .box 32 [.sl 1 1000001 ((y1.2.1).length) 0 ((y1.2.1).length)]), (1000002, .box 30 (pL y1.2.2.1 y1.2.2.2.1 y1.2.2.2.2.1 y1.2.2.2.2.2.1 y1.2.2.2.2.2.2.1 y1.2.2.2.2.2.2.2.1 y1.2.2.2.2.2.2.2.2.1 y1.2.2.2.2.2.2.2.2.2)), bx0]) (v := .int .i64 y1.1) [1000000, 1000001, 1000002, 1000003] kr kr rfl kr (loc_g (R := []) [.vs 5 (encs_Expr s), .fn 23 [] [.ptr 1000000 0 0, .ptr 1000002 0 0, .ptr 1000003 0 0]] [(1000000, 1000000), (1000001, 1000001), (1000002, 1000002), (1000003, 1000003)] (callV_func hbv40 kr) (ih_slices_IndexFunc_6 s c_2 c_1D9 c_1T9 c_1Z9 c_1R9 c_1C9 c_1V9 c_1S9 c_1H9 _ c1) (.cons (.same _) (.cons (.same _) (.nil))) kr kr kr kr kr kr kr kr) kr ?_
 refine oR 2 [(4, .bool (decide (y1.1 ≥ 0))), (8, .bool (decide (y1.1 ≥ 0)))] kr ?_
 refine oN (nT (v_ret ?_))
 cases hs
 exact fin_ret kr kr kr
theorem ws_expr_Check_1 (nF : Nat) (ih_slices_IndexFunc_6 : ∀ (s : (List Expr)) (c_2 : (List Sr)) (c_1D9 : (List Def)) (c_1T9 : (List Table)) (c_1Z9 : (List Zone)) (c_1R9 : (List Rule)) (c_1C9 : (List Cap)) (c_1V9 : (List View)) (c_1S9 : (List Point3)) (c_1H9 : Int) (r : Int × (List Sr) × (List Def) × (List Table) × (List Zone) × (List Rule) × (List Cap) × (List View) × (List Point3) × Int), s_slices_IndexFunc_6 nF s c_2 c_1D9 c_1T9 c_1Z9 c_1R9 c_1C9 c_1V9 c_1S9 c_1H9 = some r → FnA Tryz.prog 40 [.vs 5 (encs_Expr s), .fn 23 [] [.ptr 1000000 0 0, .ptr 1000002 0 0, .ptr 1000003 0 0]] [(1000000, .box 32 [.sl 1 1000001 ((c_2).length) 0 ((c_2).length)]), (1000001, .row 9 1 0 (mS c_2)), (1000002, .box 30 (pL c_1D9 c_1T9 c_1Z9 c_1R9 c_1C9 c_1V9 c_1S9 c_1H9)), bx0] (.int .i64 r.1) [(1000001, .row 9 1 0 (mS r.2.1)), (1000000, .box 32 [.sl 1 1000001 ((r.2.1).length) 0 ((r.2.1).length)]), (1000002, .box 30 (pL r.2.2.1 r.2.2.2.1 r.2.2.2.2.1 r.2.2.2.2.2.1 r.2.2.2.2.2.2.1 r.2.2.2.2.2.2.2.1 r.2.2.2.2.2.2.2.2.1 r.2.2.2.2.2.2.2.2.2)), bx0]) (ih_slices_ContainsFunc_4 : ∀ (s : (List Expr)) (c_2 : (List Sr)) (c_1D9 : (List Def)) (c_1T9 : (List Table)) (c_1Z9 : (List Zone)) (c_1R9 : (List Rule)) (c_1C9 : (List Cap)) (c_1V9 : (List View)) (c_1S9 : (List Point3)) (c_1H9 : Int) (r : Bool × (List Sr) × (List Def) × (List Table) × (List Zone) × (List Rule) × (List Cap) × (List View) × (List Point3) × Int), s_slices_ContainsFunc_4 nF s c_2 c_1D9 c_1T9 c_1Z9 c_1R9 c_1C9 c_1V9 c_1S9 c_1H9 = some r → FnA Tryz.prog 29 [.vs 5 (encs_Expr s), .fn 23 [] [.ptr 1000000 0 0, .ptr 1000002 0 0, .ptr 1000003 0 0]] [(1000000, .box 32 [.sl 1 1000001 ((c_2).length) 0 ((c_2).length)]), (1000001, .row 9 1 0 (mS c_2)), (1000002, .box 30 (pL c_1D9 c_1T9 c_1Z9 c_1R9 c_1C9 c_1V9 c_1S9 c_1H9)), bx0] (.bool r.1) [(1000001, .row 9 1 0 (mS r.2.1)), (1000000, .box 32 [.sl 1 1000001 ((r.2.1).length) 0 ((r.2.1).length)]), (1000002, .box 30 (pL r.2.2.1 r.2.2.2.1 r.2.2.2.2.1 r.2.2.2.2.2.1 r.2.2.2.2.2.2.1 r.2.2.2.2.2.2.2.1 r.2.2.2.2.2.2.2.2.1 r.2.2.2.2.2.2.2.2.2)), bx0]) (ih_expr_Check_1 : ∀ (e : Expr) (a1 : (List Sr)) (a2D9 : (List Def)) (a2T9 : (List Table)) (a2Z9 : (List Zone)) (a2R9 : (List Rule)) (a2C9 : (List Cap)) (a2V9 : (List View)) (a2S9 : (List Point3)) (a2H9 : Int) (r : Bool × (List Sr) × (List Def) × (List Table) × (List Zone) × (List Rule) × (List Cap) × (List View) × (List Point3) × Int), s_expr_Check_1 nF e a1 a2D9 a2T9 a2Z9 a2R9 a2C9 a2V9 a2S9 a2H9 = some r → FnA Tryz.prog 23 [.agg (enc_Expr e), .ptr 1000000 0 0, .ptr 1000002 0 0, .ptr 1000003 0 0] [(1000000, .box 32 [.sl 1 1000001 ((a1).length) 0 ((a1).length)]), (1000001, .row 9 1 0 (mS a1)), (1000002, .box 30 (pL a2D9 a2T9 a2Z9 a2R9 a2C9 a2V9 a2S9 a2H9)), bx0] (.bool r.1) [(1000001, .row 9 1 0 (mS r.2.1)), (1000000, .box 32 [.sl 1 1000001 ((r.2.1).length) 0 ((r.2.1).length)]), (1000002, .box 30 (pL r.2.2.1 r.2.2.2.1 r.2.2.2.2.1 r.2.2.2.2.2.1 r.2.2.2.2.2.2.1 r.2.2.2.2.2.2.2.1 r.2.2.2.2.2.2.2.2.1 r.2.2.2.2.2.2.2.2.2)), bx0]) (e : Expr) (a1 : (List Sr)) (a2D9 : (List Def)) (a2T9 : (List Table)) (a2Z9 : (List Zone)) (a2R9 : (List Rule)) (a2C9 : (List Cap)) (a2V9 : (List View)) (a2S9 : (List Point3)) (a2H9 : Int) (r : Bool × (List Sr) × (List Def) × (List Table) × (List Zone) × (List Rule) × (List Cap) × (List View) × (List Point3) × Int) (hs : s_expr_Check_1 (nF + 1) e a1 a2D9 a2T9 a2Z9 a2R9 a2C9 a2V9 a2S9 a2H9 = some r) : FnA Tryz.prog 23 [.agg (enc_Expr e), .ptr 1000000 0 0, .ptr 1000002 0 0, .ptr 1000003 0 0] [(1000000, .box 32 [.sl 1 1000001 ((a1).length) 0 ((a1).length)]), (1000001, .row 9 1 0 (mS a1)), (1000002, .box 30 (pL a2D9 a2T9 a2Z9 a2R9 a2C9 a2V9 a2S9 a2H9)), bx0] (.bool r.1) [(1000001, .row 9 1 0 (mS r.2.1)), (1000000, .box 32 [.sl 1 1000001 ((r.2.1).length) 0 ((r.2.1).length)]), (1000002, .box 30 (pL r.2.2.1 r.2.2.2.1 r.2.2.2.2.1 r.2.2.2.2.2.1 r.2.2.2.2.2.2.1 r.2.2.2.2.2.2.2.1 r.2.2.2.2.2.2.2.2.1 r.2.2.2.2.2.2.2.2.2)), bx0] := by
 refine fnA_of_wp (N := 33) Tryz.func23 rfl rfl rfl fun cK0 => ?_
 rw [s_expr_Check_1] at hs
 refine v_same (ρ' := [(0, .agg (enc_Expr e)), (1, .ptr 1000000 0 0), (2, .ptr 1000002 0 0), (3, .ptr 1000003 0 0)]) rfl rfl ?_
 refine vS (vT (o_runh 2 [(5, .bool false), (4, .ptr 4 0 0)] [(4, .box 35 (enc_Expr e)), (1000000, .box 32 [.sl 1 1000001 ((a1).length) 0 ((a1).length)]), (1000001, .row 9 1 0 (mS a1)), (1000002, .box 30 (pL a2D9 a2T9 a2Z9 a2R9 a2C9 a2V9 a2S9 a2H9)), bx0] kr ?_))
 refine oN (nT (vS (vS (vT (oR 2 [(7, .int .i64 e.Op), (6, .ptr 4 0 0)] kr ?_)))))
 refine oN (nT (vB (vS (vT (oR 2 [(8, .bool (decide (e.Op = 1))), (9, .bool (decide (e.Op = 1)))] kr ?_)))))
 refine oN (nT ?_)
 refine v_cond (decide (e.Op = 1)) kr (fun h1 => ?_) (fun h1 => ?_)
 ·replace hs := bif_t h1 hs
  refine vS (vT (oR 3 [(12, .str e.S), (11, .ptr 4 0 2), (10, .sl 1 1000001 ((a1).length) 0 ((a1).length))] kr ?_))
  obtain ⟨y1, c1, hs⟩ := bS hs
  refine o_loc (F := [(1000001, .row 9 1 0 (mS a1))]) (F' := [(1000001, .row 9 1 0 (mS a1))]) (v := .bool y1) [1000001] kr kr rfl kr (loc_gcallB (vs := [.sl 1 1000001 ((a1).length) 0 ((a1).length), .str e.S]) (R := [(1000001, .row 9 1 0 (mS a1))]) (callV_func hbv24 kr) (w_slices_Contains_2 a1 e.S _ c1) (.cons (.row (t := 9) (fz := 0) kr lh) (.cons (.same _) (.nil))) kr kr kr) kr ?_
  refine oR 2 [(5, .bool (!y1)), (14, .bool (!y1))] kr ?_
  refine oN (nT (v_ret (rB (rT ?_))))
  cases hs
  exact fin_ret kr kr kr
 ·replace hs := bif_f h1 hs
  refine vS (vT (oR 2 [(15, .bool (decide (e.Op = 2))), (16, .bool (decide (e.Op = 2)))] kr ?_))
  refine oN (nT ?_)
  refine v_cond (decide (e.Op = 2)) kr (fun h2 => ?_) (fun h2 => ?_)
  ·replace hs := bif_t h2 hs
   refine vS (vT (oR 3 [(19, .fn 26 [] [.ptr 4 0 0]), (18, .vs 3 (mM enc_Table a2T9)), (17, .ptr 1000002 0 1)] kr ?_))
   obtain ⟨y2, c2, hs⟩ := bS hs
   refine o_loc (F := [(4, .box 35 (enc_Expr e))]) (F' := [(4, .box 35 [.int .i64 y2.2.1, .int .i64 y2.2.2.1, .str y2.2.2.2.1, .str y2.2.2.2.2.1, .vs 5 (encs_Expr y2.2.2.2.2.2)])]) (v := .bool y2.1) [4] kr kr rfl kr (loc_g (R := []) [.vs 3 (mM enc_Table a2T9), .fn 26 [] [.ptr 4 0 0]] [(1000000, 4)] (callV_func hbv25 kr) (w_slices_ContainsFunc_2 a2T9 e.Op e.N e.S e.Key e.Args _ c2) (.cons (.same _) (.cons (.same _) (.nil))) kr kr kr kr kr kr kr kr) kr ?_
   refine oR 2 [(5, .bool (!y2.1)), (21, .bool (!y2.1))] kr ?_
   refine oN (nT (v_ret (rB (rT ?_))))
   cases hs
   exact fin_ret kr kr kr
  ·replace hs := bif_f h2 hs
   refine vS (vT (oR 2 [(22, .bool (decide (e.Op = 3))), (23, .bool (decide (e.Op = 3)))] kr ?_))
   refine oN (nT ?_)
   refine v_cond (decide (e.Op = 3)) kr (fun h3 => ?_) (fun h3 => ?_)
   ·replace hs := bif_t h3 hs
    refine vS (vT (oR 3 [(26, .fn 28 [] [.ptr 4 0 0]), (25, .vs 3 (mM enc_Zone a2Z9)), (24, .ptr 1000002 0 2)] kr ?_))
    obtain ⟨y3, c3, hs⟩ := bS hs
    refine o_loc (F := [(4, .box 35 (enc_Expr e))]) (F' := [(4, .box 35 [.int .i64 y3.2.1, .int .i64 y3.2.2.1, .str y3.2.2.2.1, .str y3.2.2.2.2.1, .vs 5 (encs_Expr y3.2.2.2.2.2)])]) (v := .bool y3.1) [4] kr kr rfl kr (loc_g (R := []) [.vs 3 (mM enc_Zone a2Z9), .fn 28 [] [.ptr 4 0 0]] [(1000000, 4)] (callV_func hbv27 kr) (w_slices_ContainsFunc_3 a2Z9 e.Op e.N e.S e.Key e.Args _ c3) (.cons (.same _) (.cons (.same _) (.nil))) kr kr kr kr kr kr kr kr) kr ?_
    refine oR 2 [(5, .bool (!y3.1)), (28, .bool (!y3.1))] kr ?_
    refine oN (nT (v_ret (rB (rT ?_))))
    cases hs
    exact fin_ret kr kr kr
   ·replace hs := bif_f h3 hs
    refine vK (nB (nT (vS (vT (oR 3 [(31, .fn 23 [] [.ptr 1000000 0 0, .ptr 1000002 0 0, .ptr 1000003 0 0]), (30, .vs 5 (encs_Expr e.Args)), (29, .ptr 4 0 4)] kr ?_)))))
    obtain ⟨y4, c4, hs⟩ := bS hs
    refine o_loc (F := [(1000000, .box 32 [.sl 1 1000001 ((a1).length) 0 ((a1).length)]), (1000001, .row 9 1 0 (mS a1)), (1000002, .box 30 (pL a2D9 a2T9 a2Z9 a2R9 a2C9 a2V9 a2S9 a2H9)), bx0]) (F' := [(1000001, .row 9 1 0 (mS y4.2.1)), (1000000, .box 32 [.sl 1 1000001 ((y4.2.1).length) 0 ((y4.2.1).length)]), (1000002, .box 30 (pL y4.2.2.1 y4.2.2.2.1 y4.2.2.2.2.1 y4.2.2.2.2.2.1 y4.2.2.2.2.2.2.1 y4.2.2.2.2.2.2.2.1 y4.2.2.2.2.2.2.2.2.1 y4.2.2.2.2.2.2.2.2.2)), bx0]) (v := .bool y4.1) [1000000, 1000001, 1000002, 1000003] kr kr rfl kr (loc_g (R := []) [.vs 5 (encs_Expr e.Args), .fn 23 [] [.ptr 1000000 0 0, .ptr 1000002 0 0, .ptr 1000003 0 0]] [(1000000, 1000000), (1000001, 1000001), (1000002, 1000002), (1000003, 1000003)] (callV_func hbv29 kr) (ih_slices_ContainsFunc_4 e.Args a1 a2D9 a2T9 a2Z9 a2R9 a2C9 a2V9 a2S9 a2H9 _ c4) (.cons (.same _) (.cons (.same _) (.nil))) kr kr kr kr kr kr kr kr) kr ?_
    refine oR 1 [(5, .bool y4.1)] kr ?_
    refine oN (nT (v_ret ?_))
    cases hs
    exact fin_ret kr kr kr
theorem wr_expr_Check_1 : ∀ nF : Nat, (∀ (s : (List Expr)) (c_2 : (List Sr)) (c_1D9 : (List Def)) (c_1T9 : (List Table)) (c_1Z9 : (List Zone)) (c_1R9 : (List Rule)) (c_1C9 : (List Cap)) (c_1V9 : (List View)) (c_1S9 : (List Point3)) (c_1H9 : Int) (r : Int × (List Sr) × (List Def) × (List Table) × (List Zone) × (List Rule) × (List Cap) × (List View) × (List Point3) × Int), s_slices_IndexFunc_6 nF s c_2 c_1D9 c_1T9 c_1Z9 c_1R9 c_1C9 c_1V9 c_1S9 c_1H9 = some r → FnA Tryz.prog 40 [.vs 5 (encs_Expr s), .fn 23 [] [.ptr 1000000 0 0, .ptr 1000002 0 0, .ptr 1000003 0 0]] [(1000000, .box 32 [.sl 1 1000001 ((c_2).length) 0 ((c_2).length)]), (1000001, .row 9 1 0 (mS c_2)), (1000002, .box 30 (pL c_1D9 c_1T9 c_1Z9 c_1R9 c_1C9 c_1V9 c_1S9 c_1H9)), bx0] (.int .i64 r.1) [(1000001, .row 9 1 0 (mS r.2.1)), (1000000, .box 32 [.sl 1 1000001 ((r.2.1).length) 0 ((r.2.1).length)]), (1000002, .box 30 (pL r.2.2.1 r.2.2.2.1 r.2.2.2.2.1 r.2.2.2.2.2.1 r.2.2.2.2.2.2.1 r.2.2.2.2.2.2.2.1 r.2.2.2.2.2.2.2.2.1 r.2.2.2.2.2.2.2.2.2)), bx0]) ∧ (∀ (s : (List Expr)) (c_2 : (List Sr)) (c_1D9 : (List Def)) (c_1T9 : (List Table)) (c_1Z9 : (List Zone)) (c_1R9 : (List Rule)) (c_1C9 : (List Cap)) (c_1V9 : (List View)) (c_1S9 : (List Point3)) (c_1H9 : Int) (r : Bool × (List Sr) × (List Def) × (List Table) × (List Zone) × (List Rule) × (List Cap) × (List View) × (List Point3) × Int), s_slices_ContainsFunc_4 nF s c_2 c_1D9 c_1T9 c_1Z9 c_1R9 c_1C9 c_1V9 c_1S9 c_1H9 = some r → FnA Tryz.prog 29 [.vs 5 (encs_Expr s), .fn 23 [] [.ptr 1000000 0 0, .ptr 1000002 0 0, .ptr 1000003 0 0]] [(1000000, .box 32 [.sl 1 1000001 ((c_2).length) 0 ((c_2).length)]), (1000001, .row 9 1 0 (mS c_2)), (1000002, .box 30 (pL c_1D9 c_1T9 c_1Z9 c_1R9 c_1C9 c_1V9 c_1S9 c_1H9)), bx0] (.bool r.1) [(1000001, .row 9 1 0 (mS r.2.1)), (1000000, .box 32 [.sl 1 1000001 ((r.2.1).length) 0 ((r.2.1).length)]), (1000002, .box 30 (pL r.2.2.1 r.2.2.2.1 r.2.2.2.2.1 r.2.2.2.2.2.1 r.2.2.2.2.2.2.1 r.2.2.2.2.2.2.2.1 r.2.2.2.2.2.2.2.2.1 r.2.2.2.2.2.2.2.2.2)), bx0]) ∧ (∀ (e : Expr) (a1 : (List Sr)) (a2D9 : (List Def)) (a2T9 : (List Table)) (a2Z9 : (List Zone)) (a2R9 : (List Rule)) (a2C9 : (List Cap)) (a2V9 : (List View)) (a2S9 : (List Point3)) (a2H9 : Int) (r : Bool × (List Sr) × (List Def) × (List Table) × (List Zone) × (List Rule) × (List Cap) × (List View) × (List Point3) × Int), s_expr_Check_1 nF e a1 a2D9 a2T9 a2Z9 a2R9 a2C9 a2V9 a2S9 a2H9 = some r → FnA Tryz.prog 23 [.agg (enc_Expr e), .ptr 1000000 0 0, .ptr 1000002 0 0, .ptr 1000003 0 0] [(1000000, .box 32 [.sl 1 1000001 ((a1).length) 0 ((a1).length)]), (1000001, .row 9 1 0 (mS a1)), (1000002, .box 30 (pL a2D9 a2T9 a2Z9 a2R9 a2C9 a2V9 a2S9 a2H9)), bx0] (.bool r.1) [(1000001, .row 9 1 0 (mS r.2.1)), (1000000, .box 32 [.sl 1 1000001 ((r.2.1).length) 0 ((r.2.1).length)]), (1000002, .box 30 (pL r.2.2.1 r.2.2.2.1 r.2.2.2.2.1 r.2.2.2.2.2.1 r.2.2.2.2.2.2.1 r.2.2.2.2.2.2.2.1 r.2.2.2.2.2.2.2.2.1 r.2.2.2.2.2.2.2.2.2)), bx0])
 | 0 => ⟨fun s c_2 c_1D9 c_1T9 c_1Z9 c_1R9 c_1C9 c_1V9 c_1S9 c_1H9 r hs => (by rw [s_slices_IndexFunc_6] at hs; cases hs), fun s c_2 c_1D9 c_1T9 c_1Z9 c_1R9 c_1C9 c_1V9 c_1S9 c_1H9 r hs => (by rw [s_slices_ContainsFunc_4] at hs; cases hs), fun e a1 a2D9 a2T9 a2Z9 a2R9 a2C9 a2V9 a2S9 a2H9 r hs => (by rw [s_expr_Check_1] at hs; cases hs)⟩
 | nF + 1 => ⟨fun s c_2 c_1D9 c_1T9 c_1Z9 c_1R9 c_1C9 c_1V9 c_1S9 c_1H9 r hs => ws_slices_IndexFunc_6 nF (wr_expr_Check_1 nF).1 (wr_expr_Check_1 nF).2.1 (wr_expr_Check_1 nF).2.2 s c_2 c_1D9 c_1T9 c_1Z9 c_1R9 c_1C9 c_1V9 c_1S9 c_1H9 r hs, fun s c_2 c_1D9 c_1T9 c_1Z9 c_1R9 c_1C9 c_1V9 c_1S9 c_1H9 r hs => ws_slices_ContainsFunc_4 nF (wr_expr_Check_1 nF).1 (wr_expr_Check_1 nF).2.1 (wr_expr_Check_1 nF).2.2 s c_2 c_1D9 c_1T9 c_1Z9 c_1R9 c_1C9 c_1V9 c_1S9 c_1H9 r hs, fun e a1 a2D9 a2T9 a2Z9 a2R9 a2C9 a2V9 a2S9 a2H9 r hs => ws_expr_Check_1 nF (wr_expr_Check_1 nF).1 (wr_expr_Check_1 nF).2.1 (wr_expr_Check_1 nF).2.2 e a1 a2D9 a2T9 a2Z9 a2R9 a2C9 a2V9 a2S9 a2H9 r hs⟩
theorem w_expr_Check_1 (nF : Nat) (e : Expr) (a1 : (List Sr)) (a2D9 : (List Def)) (a2T9 : (List Table)) (a2Z9 : (List Zone)) (a2R9 : (List Rule)) (a2C9 : (List Cap)) (a2V9 : (List View)) (a2S9 : (List Point3)) (a2H9 : Int) (r : Bool × (List Sr) × (List Def) × (List Table) × (List Zone) × (List Rule) × (List Cap) × (List View) × (List Point3) × Int) (hs : s_expr_Check_1 nF e a1 a2D9 a2T9 a2Z9 a2R9 a2C9 a2V9 a2S9 a2H9 = some r) : FnA Tryz.prog 23 [.agg (enc_Expr e), .ptr 1000000 0 0, .ptr 1000002 0 0, .ptr 1000003 0 0] [(1000000, .box 32 [.sl 1 1000001 ((a1).length) 0 ((a1).length)]), (1000001, .row 9 1 0 (mS a1)), (1000002, .box 30 (pL a2D9 a2T9 a2Z9 a2R9 a2C9 a2V9 a2S9 a2H9)), bx0] (.bool r.1) [(1000001, .row 9 1 0 (mS r.2.1)), (1000000, .box 32 [.sl 1 1000001 ((r.2.1).length) 0 ((r.2.1).length)]), (1000002, .box 30 (pL r.2.2.1 r.2.2.2.1 r.2.2.2.2.1 r.2.2.2.2.2.1 r.2.2.2.2.2.2.1 r.2.2.2.2.2.2.2.1 r.2.2.2.2.2.2.2.2.1 r.2.2.2.2.2.2.2.2.2)), bx0] := (wr_expr_Check_1 nF).2.2 e a1 a2D9 a2T9 a2Z9 a2R9 a2C9 a2V9 a2S9 a2H9 r hs
theorem w_expr_Check (pD9 : (List Def)) (pT9 : (List Table)) (pZ9 : (List Zone)) (pR9 : (List Rule)) (pC9 : (List Cap)) (pV9 : (List View)) (pS9 : (List Point3)) (pH9 : Int) (measures : (List Sr)) (e : Expr) (r : Int) (hs : s_expr_Check pD9 pT9 pZ9 pR9 pC9 pV9 pS9 pH9 measures e = some r) : FnA Tryz.prog 9 [.agg (pL pD9 pT9 pZ9 pR9 pC9 pV9 pS9 pH9), .vs 1 (mS measures), .agg (enc_Expr e)] [] (.int .i64 r) [] := by
 refine fnA_of_wp (N := 33) Tryz.func9 rfl rfl rfl fun cK0 => ?_
 unfold s_expr_Check at hs
 refine v_same (ρ' := [(0, .agg (pL pD9 pT9 pZ9 pR9 pC9 pV9 pS9 pH9)), (1, .vs 1 (mS measures)), (2, .agg (enc_Expr e))]) rfl rfl ?_
 refine vS (vT (o_runh 3 [(6, .int .i64 0), (5, .ptr 5 0 0), (3, .ptr 3 0 0)] [(5, .box 35 (enc_Expr e)), (3, .box 30 (pL pD9 pT9 pZ9 pR9 pC9 pV9 pS9 pH9))] kr ?_))
 refine oN (nT (vS (vS (vT (oR 1 [(11, .agg (enc_Expr e))] kr ?_)))))
 obtain ⟨y1, c1, hs⟩ := bS hs
 refine oP (v := .bool y1) kr kr (loc_gcall0 (callV_func hbv7 kr) (w_expr_Right e _ c1) kr) ?_
 refine oR 1 [(13, .bool (!y1))] kr ?_
 refine oN (nT ?_)
 refine v_cond (!y1) kr (fun h1 => ?_) (fun h1 => ?_)
 ·replace hs := bif_t h1 hs
  refine vS (vT (oR 1 [(6, .int .i64 1)] kr ?_))
  refine oN (nT (v_ret (rT ?_)))
  cases hs
  exact fin_ret kr kr kr
 ·replace hs := bif_f h1 hs
  refine vK (nT (vS (vT (oR 1 [(14, .vs 1 (mS measures))] kr ?_))))
  obtain ⟨y2, c2, hs⟩ := bS hs
  refine o_loc (F := []) (F' := [(3001500, .row 9 1 0 (mS y2))]) (v := .sl 1 3001500 ((y2).length) 0 ((y2).length)) [] kr kr rfl kr (loc_g (R := []) [.vs 1 (mS measures)] [(5, 3001500)] (callV_func hbv22 kr) (w_slices_Clone measures _ c2) (.cons (.same _) (.nil)) kr kr kr kr kr kr kr kr) kr ?_
  refine o_runh 2 [(7, .ptr 7 0 0)] [(7, .box 32 [.sl 1 3001500 ((y2).length) 0 ((y2).length)]), (3001500, .row 9 1 0 (mS y2)), (5, .box 35 (enc_Expr e)), (3, .box 30 (pL pD9 pT9 pZ9 pR9 pC9 pV9 pS9 pH9))] kr ?_
  refine oN (nT (vS (vS (vT (oR 2 [(17, .vs 6 (mM enc_Def pD9)), (16, .ptr 3 0 0)] kr ?_)))))
  refine oP (v := .int .i64 (List.length pD9 : Int)) kr kr (loc_lenVs (sz := 6) (els := (mM enc_Def pD9)) kr kr lM) ?_
  refine oR 1 [(19, .int .i64 0)] kr ?_
  refine oN (nT ?_)
  obtain ⟨z1, hs, hk1⟩ := bS hs
  refine v_join (S := (List Sr)) (fun u => u = z1) (fun u => [(3, .ptr 3 0 0), (5, .ptr 5 0 0), (7, .ptr 7 0 0)]) (fun u => [(7, .box 32 [.sl 1 3001500 ((u).length) 0 ((u).length)]), (3001500, .row 9 1 0 (mS u)), (5, .box 35 (enc_Expr e)), (3, .box 30 (pL pD9 pT9 pZ9 pR9 pC9 pV9 pS9 pH9))]) ?_ (fun v1 hz => ?_)
  ·refine vB ?_
   refine v_fuel (S := Int × (List Sr)) (fun u => [(3, .ptr 3 0 0), (5, .ptr 5 0 0), (7, .ptr 7 0 0), (17, .vs 6 (mM enc_Def pD9)), (18, .int .i64 (List.length pD9 : Int)), (19, .int .i64 u.1)]) (fun u => [(7, .box 32 [.sl 1 3001500 ((u.2).length) 0 ((u.2).length)]), (3001500, .row 9 1 0 (mS u.2)), (5, .box 35 (enc_Expr e)), (3, .box 30 (pL pD9 pT9 pZ9 pR9 pC9 pV9 pS9 pH9))]) (s_expr_Check_L1 pD9) (fun _ => rfl) KK (0, y2) hs (cut_of [3, 5, 7, 17, 18, 19] [7, 3001500, 5, 3] kr kr kr) (fun K1 q1 hs => ?_)
   rw [s_expr_Check_L1] at hs
   show WpV cK0 Tryz.prog none 33 _ _ [(3, .ptr 3 0 0), (5, .ptr 5 0 0), (7, .ptr 7 0 0), (17, .vs 6 (mM enc_Def pD9)), (18, .int .i64 (List.length pD9 : Int)), (19, .int .i64 q1.1)] [(7, .box 32 [.sl 1 3001500 ((q1.2).length) 0 ((q1.2).length)]), (3001500, .row 9 1 0 (mS q1.2)), (5, .box 35 (enc_Expr e)), (3, .box 30 (pL pD9 pT9 pZ9 pR9 pC9 pV9 pS9 pH9))] []
   refine vS (vT (oR 1 [(20, .bool (decide (q1.1 < (List.length pD9 : Int))))] kr ?_))
   refine oN (nT (vS ?_))
   refine v_cond (decide (q1.1 < (List.length pD9 : Int))) kr (fun h2 => ?_) (fun h2 => ?_)
   ·replace hs := bif_t h2 hs
    refine vK (nT (vS (vB (vS (vT ?_)))))
    obtain ⟨x1, g1, hs⟩ := bS hs; obtain ⟨g1a, g1b, g1c⟩ := idx_some g1
    refine oP (v := .vp (enc_Def x1) 0) kr kr (loc_indexVs (e := 51) (sz := 6) (k := .i64) (els := (mM enc_Def pD9)) (cs := (enc_Def x1)) kr kr kr g1a (by rw [g1c]; exact map_get _ (by omega))) ?_
    refine o_runh 3 [(9, .ptr 9 0 0), (22, .agg (enc_Def x1))] [(9, .box 51 [.str x1.Name, .int .i64 x1.Body.Op, .int .i64 x1.Body.N, .str x1.Body.S, .str x1.Body.Key, .vs 5 (encs_Expr x1.Body.Args)]), (7, .box 32 [.sl 1 3001500 ((q1.2).length) 0 ((q1.2).length)]), (3001500, .row 9 1 0 (mS q1.2)), (5, .box 35 (enc_Expr e)), (3, .box 30 (pL pD9 pT9 pZ9 pR9 pC9 pV9 pS9 pH9))] kr ?_
    refine oN (nT (vT (o_runh 4 [(26, .sl 1 26 1 0 1), (25, .str x1.Name), (24, .ptr 9 0 0), (23, .sl 1 3001500 ((q1.2).length) 0 ((q1.2).length))] [(26, .row 9 1 0 (mS [x1.Name])), (9, .box 51 [.str x1.Name, .int .i64 x1.Body.Op, .int .i64 x1.Body.N, .str x1.Body.S, .str x1.Body.Key, .vs 5 (encs_Expr x1.Body.Args)]), (7, .box 32 [.sl 1 3001500 ((q1.2).length) 0 ((q1.2).length)]), (3001500, .row 9 1 0 (mS q1.2)), (5, .box 35 (enc_Expr e)), (3, .box 30 (pL pD9 pT9 pZ9 pR9 pC9 pV9 pS9 pH9))] kr ?_)))
    obtain ⟨_, g2, hs⟩ := bS hs; replace g2 := grd_some g2
    refine o_loc (F := [(3001500, .row 9 1 0 (mS q1.2)), (26, .row 9 1 0 (mS [x1.Name]))]) (F' := [(3001500, .row 9 1 0 (mS (q1.2 ++ [x1.Name]))), (26, .row 9 1 0 (mS [x1.Name]))]) (v := .sl 1 3001500 (((q1.2 ++ [x1.Name])).length) 0 (((q1.2 ++ [x1.Name])).length)) [3001500, 26] kr kr rfl kr (loc_appendT (e := 9) (sz := 1) (bytes := 16) (L := (q1.2).length) (els := (mS q1.2)) (ys := (mS [x1.Name])) kr kr (by first | exact List.length_map .. | rfl) (.sl (t := 9) (fz := 0) (ys := (mS [x1.Name])) kr kr) (map_ones EV.encS (fun _ => rfl) _) (map_lens EV.encS (fun _ => rfl) _) kr (by first | exact (List.map_append ..).symm | rfl | simp only [List.map_nil, List.nil_append]) (List.length_map ..) g2 (by omega)) kr ?_
    refine o_runh 1 [] [(3001500, .row 9 1 0 (mS (q1.2 ++ [x1.Name]))), (26, .row 9 1 0 (mS [x1.Name])), (9, .box 51 [.str x1.Name, .int .i64 x1.Body.Op, .int .i64 x1.Body.N, .str x1.Body.S, .str x1.Body.Key, .vs 5 (encs_Expr x1.Body.Args)]), (7, .box 32 [.sl 1 3001500 (((q1.2 ++ [x1.Name])).length) 0 (((q1.2 ++ [x1.Name])).length)]), (5, .box 35 (enc_Expr e)), (3, .box 30 (pL pD9 pT9 pZ9 pR9 pC9 pV9 pS9 pH9))] kr ?_
    refine oN (nB (nT (vT (oR 2 [(19, .int .i64 (w64 (q1.1 + 1))), (28, .int .i64 (w64 (q1.1 + 1)))] kr ?_))))
    refine oN (nrm_fuel ((w64 (q1.1 + 1)), (q1.2 ++ [x1.Name])) hs ?_)
    exact cut_of [3, 5, 7, 17, 18, 19] [7, 3001500, 5, 3] kr kr kr
   ·replace hs := bif_f h2 hs
    refine v_exit (exit_thenV (exit_fuel ?_))
    refine exit_blkV ?_
    obtain rfl := si hs
    refine nrm_join q1.2 rfl ?_
    exact cut_of [3, 5, 7] [7, 3001500, 5, 3] kr kr kr
  ·subst hz; clear hs; have hs := hk1; clear hk1
   refine nT (vS (vT (o_runh 1 [(10, .ptr 10 0 0)] [(10, .box 38 [.nilf]), (7, .box 32 [.sl 1 3001500 ((v1).length) 0 ((v1).length)]), (3001500, .row 9 1 0 (mS v1)), (5, .box 35 (enc_Expr e)), (3, .box 30 (pL pD9 pT9 pZ9 pR9 pC9 pV9 pS9 pH9))] kr ?_)))
   refine oN (nT (vS (vT (o_runh 2 [(29, .fn 23 [] [.ptr 7 0 0, .ptr 3 0 0, .ptr 10 0 0])] [bx1, (7, .box 32 [.sl 1 3001500 ((v1).length) 0 ((v1).length)]), (3001500, .row 9 1 0 (mS v1)), (5, .box 35 (enc_Expr e)), (3, .box 30 (pL pD9 pT9 pZ9 pR9 pC9 pV9 pS9 pH9))] kr ?_))))
   refine oN (nT (vS (vS (vT (oR 2 [(31, .agg (enc_Expr e)), (30, .fn 23 [] [.ptr 7 0 0, .ptr 3 0 0, .ptr 10 0 0])] kr ?_)))))
   obtain ⟨y3, c3, hs⟩ := bS hs
   refine o_loc (F := [(7, .box 32 [.sl 1 3001500 ((v1).length) 0 ((v1).length)]), (3001500, .row 9 1 0 (mS v1)), (3, .box 30 (pL pD9 pT9 pZ9 pR9 pC9 pV9 pS9 pH9)), bx1]) (F' := [(3001500, .row 9 1 0 (mS y3.2.1)), (7, .box 32 [.sl 1 3001500 ((y3.2.1).length) 0 ((y3.2.1).length)]), (3, .box 30 (pL y3.2.2.1 y3.2.2.2.1 y3.2.2.2.2.1 y3.2.2.2.2.2.1 y3.2.2.2.2.2.2.1 y3.2.2.2.2.2.2.2.1 y3.2.2.2.2.2.2.2.2.1 y3.2.2.2.2.2.2.2.2.2)), bx1]) (v := .bool y3.1) [7, 3001500, 3, 10] kr kr rfl kr (loc_g (R := []) [.agg (enc_Expr e), .ptr 7 0 0, .ptr 3 0 0, .ptr 10 0 0] [(1000000, 7), (1000001, 3001500), (1000002, 3), (1000003, 10)] (callV_val (first := []) (caps := [.ptr 7 0 0, .ptr 3 0 0, .ptr 10 0 0]) hbv23 kr kr) (w_expr_Check_1 KK e v1 pD9 pT9 pZ9 pR9 pC9 pV9 pS9 pH9 _ c3) (.cons (.same _) (.cons (.same _) (.cons (.same _) (.cons (.same _) (.nil))))) kr kr kr kr kr kr kr kr) kr ?_
   refine oN (nT ?_)
   refine v_cond y3.1 kr (fun h3 => ?_) (fun h3 => ?_)
   ·replace hs := bif_t h3 hs
    refine vS (vT (oR 1 [(6, .int .i64 15)] kr ?_))
    refine oN (nT (v_ret (rT ?_)))
    cases hs
    exact fin_ret kr kr kr
   ·replace hs := bif_f h3 hs
    refine vK (nT (vS (vT (oR 1 [(6, .int .i64 0)] kr ?_))))
    refine oN (nT (v_ret ?_))
    cases hs
    exact fin_ret kr kr kr
end Go.Proofs.YtconjkgifdfhdabGreat
