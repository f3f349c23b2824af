/- printed by gen2.py -/
import Derived.Test.YtbejhkfojiijmaaDoorD
import Derived.Test.YtbejhkfojiijmaaDoorSPartA
set_option linter.all false
set_option maxRecDepth 100000
namespace Go.Proofs.YtbejhkfojiijmaaDoor
open Go Go.RowKit Go.Eng Go.EV
variable {ob0 ob1 ob2 : Go.Obj} {u1 u2 : TypeId}
def s_greenbeltlaw01_write (v : greenbeltlaw01_Value) : Option (List UInt8) :=
  (s_greenbeltlaw01_kind v).bind fun y1 => (bif (decide (y1 = 0)) then (s_greenbeltlaw01_number v.N).bind fun y2 => (s_wire_Num y2).bind fun y3 => some y3 else (bif (decide (y1 = 1)) then (s_wire_Int v.N).bind fun y4 => some y4 else (bif (decide (y1 = 2)) then (s_wire_Text v.S).bind fun y5 => some y5 else (bif (decide (y1 = 3)) then (s_wire_Nums v.L).bind fun y6 => some y6 else (s_wire_Texts v.T).bind fun y7 => some y7))))
theorem w_greenbeltlaw01_write (v : greenbeltlaw01_Value) (r : (List UInt8)) (hs : s_greenbeltlaw01_write v = some r) : FnA Tryd.prog 30 [.agg (enc_greenbeltlaw01_Value v)] [(900000000, gl0 ob0), (900000001, gl1 ob1 u1), (900000002, gl2 ob2 u2)] (.str r) [(900000000, gl0 ob0), (900000001, gl1 ob1 u1), (900000002, gl2 ob2 u2)] := by
  refine fnA_of_wp (N := 29) Tryd.func30 rfl rfl rfl fun cK0 => ?_
  unfold s_greenbeltlaw01_write at hs
  refine v_same (ρ' := [(0, .agg (enc_greenbeltlaw01_Value v))]) rfl rfl ?_
  refine v_seq ?_
  refine vr_text ?_
  refine o_runh 2 [(2, .str []), (1, .ptr 1 0 0)] [(1, .box 25 [.int .i64 v.Kind, .int .i64 v.N, .str v.S, .vs 1 (List.map EV.encI v.L), .vs 1 (List.map EV.encS v.T)]), (900000000, gl0 ob0), (900000001, gl1 ob1 u1), (900000002, gl2 ob2 u2)] (by kernel_rfl) ?_
  refine ov_nil ?_
  refine nrm_thenV ?_
  refine v_seq ?_
  refine v_seq ?_
  refine vr_text ?_
  refine o_runs 1 [(3, .agg (enc_greenbeltlaw01_Value v))] (by kernel_rfl) ?_
  obtain ⟨y1, c1, hs⟩ := bind_some hs
  refine o_pure (v := .int .i64 y1) (by kernel_rfl) (by kernel_rfl) (loc_gcall0 (callV_func hbv22 (by kernel_rfl)) (w_greenbeltlaw01_kind v _ c1) (by kernel_rfl)) ?_
  refine ov_nil ?_
  refine nrm_thenV ?_
  refine v_block ?_
  refine v_seq ?_
  refine vr_text ?_
  refine o_runs 2 [(5, .bool (decide (y1 = 0))), (6, .bool (decide (y1 = 0)))] (by kernel_rfl) ?_
  refine ov_nil ?_
  refine nrm_thenV ?_
  refine v_cond (decide (y1 = 0)) (by kernel_rfl) (fun h1 => ?_) (fun h1 => ?_)
  · replace hs := bif_t h1 hs
    refine v_seq ?_
    refine vr_text ?_
    refine o_runs 2 [(8, .int .i64 v.N), (7, .ptr 1 0 1)] (by kernel_rfl) ?_
    obtain ⟨y2, c2, hs⟩ := bind_some hs
    refine o_pure (v := .int .i64 y2) (by kernel_rfl) (by kernel_rfl) (loc_gcall0 (callV_func hbv53 (by kernel_rfl)) (w_greenbeltlaw01_number v.N _ c2) (by kernel_rfl)) ?_
    obtain ⟨y3, c3, hs⟩ := bind_some hs
    refine o_loc (F := [(900000000, gl0 ob0), (900000001, gl1 ob1 u1), (900000002, gl2 ob2 u2)]) (F' := [(900000000, gl0 ob0), (900000001, gl1 ob1 u1), (900000002, gl2 ob2 u2)]) (v := .str y3) [900000000, 900000001, 900000002] (by kernel_rfl) (by kernel_rfl) rfl (by kernel_rfl) (loc_gcallL (vs := [.int .i64 y2]) (G := [(900000000, gl0 ob0), (900000001, gl1 ob1 u1), (900000002, gl2 ob2 u2)]) (R := []) (callV_func hbv11 (by kernel_rfl)) (w_wire_Num (ob0 := ob0) (ob1 := ob1) (ob2 := ob2) (u1 := u1) (u2 := u2) y2 _ c3) (by kernel_rfl) (.cons (.same _) (.nil)) (by kernel_rfl) (by kernel_rfl) (by kernel_rfl)) (by kernel_rfl) ?_
    refine o_runs 1 [(2, .str y3)] (by kernel_rfl) ?_
    refine ov_nil ?_
    refine nrm_thenV ?_
    refine v_ret ?_
    refine ret_blkV ?_
    refine ret_thenV ?_
    obtain rfl := Option.some.inj hs
    exact fin_ret (by kernel_rfl) (by kernel_rfl) (by kernel_rfl)
  · replace hs := bif_f h1 hs
    refine v_seq ?_
    refine vr_text ?_
    refine o_runs 2 [(11, .bool (decide (y1 = 1))), (12, .bool (decide (y1 = 1)))] (by kernel_rfl) ?_
    refine ov_nil ?_
    refine nrm_thenV ?_
    refine v_cond (decide (y1 = 1)) (by kernel_rfl) (fun h2 => ?_) (fun h2 => ?_)
    · replace hs := bif_t h2 hs
      refine v_seq ?_
      refine vr_text ?_
      refine o_runs 2 [(14, .int .i64 v.N), (13, .ptr 1 0 1)] (by kernel_rfl) ?_
      obtain ⟨y4, c4, hs⟩ := bind_some hs
      refine o_loc (F := [(900000000, gl0 ob0), (900000001, gl1 ob1 u1), (900000002, gl2 ob2 u2)]) (F' := [(900000000, gl0 ob0), (900000001, gl1 ob1 u1), (900000002, gl2 ob2 u2)]) (v := .str y4) [900000000, 900000001, 900000002] (by kernel_rfl) (by kernel_rfl) rfl (by kernel_rfl) (loc_gcallL (vs := [.int .i64 v.N]) (G := [(900000000, gl0 ob0), (900000001, gl1 ob1 u1), (900000002, gl2 ob2 u2)]) (R := []) (callV_func hbv13 (by kernel_rfl)) (w_wire_Int (ob0 := ob0) (ob1 := ob1) (ob2 := ob2) (u1 := u1) (u2 := u2) v.N _ c4) (by kernel_rfl) (.cons (.same _) (.nil)) (by kernel_rfl) (by kernel_rfl) (by kernel_rfl)) (by kernel_rfl) ?_
      refine o_runs 1 [(2, .str y4)] (by kernel_rfl) ?_
      refine ov_nil ?_
      refine nrm_thenV ?_
      refine v_ret ?_
      refine ret_blkV ?_
      refine ret_thenV ?_
      obtain rfl := Option.some.inj hs
      exact fin_ret (by kernel_rfl) (by kernel_rfl) (by kernel_rfl)
    · replace hs := bif_f h2 hs
      refine v_seq ?_
      refine vr_text ?_
      refine o_runs 2 [(16, .bool (decide (y1 = 2))), (17, .bool (decide (y1 = 2)))] (by kernel_rfl) ?_
      refine ov_nil ?_
      refine nrm_thenV ?_
      refine v_cond (decide (y1 = 2)) (by kernel_rfl) (fun h3 => ?_) (fun h3 => ?_)
      · replace hs := bif_t h3 hs
        refine v_seq ?_
        refine vr_text ?_
        refine o_runs 2 [(19, .str v.S), (18, .ptr 1 0 2)] (by kernel_rfl) ?_
        obtain ⟨y5, c5, hs⟩ := bind_some hs
        refine o_loc (F := [(900000000, gl0 ob0), (900000001, gl1 ob1 u1), (900000002, gl2 ob2 u2)]) (F' := [(900000000, gl0 ob0), (900000001, gl1 ob1 u1), (900000002, gl2 ob2 u2)]) (v := .str y5) [900000000, 900000001, 900000002] (by kernel_rfl) (by kernel_rfl) rfl (by kernel_rfl) (loc_gcallL (vs := [.str v.S]) (G := [(900000000, gl0 ob0), (900000001, gl1 ob1 u1), (900000002, gl2 ob2 u2)]) (R := []) (callV_func hbv15 (by kernel_rfl)) (w_wire_Text (ob0 := ob0) (ob1 := ob1) (ob2 := ob2) (u1 := u1) (u2 := u2) v.S _ c5) (by kernel_rfl) (.cons (.same _) (.nil)) (by kernel_rfl) (by kernel_rfl) (by kernel_rfl)) (by kernel_rfl) ?_
        refine o_runs 1 [(2, .str y5)] (by kernel_rfl) ?_
        refine ov_nil ?_
        refine nrm_thenV ?_
        refine v_ret ?_
        refine ret_blkV ?_
        refine ret_thenV ?_
        obtain rfl := Option.some.inj hs
        exact fin_ret (by kernel_rfl) (by kernel_rfl) (by kernel_rfl)
      · replace hs := bif_f h3 hs
        refine v_seq ?_
        refine vr_text ?_
        refine o_runs 2 [(21, .bool (decide (y1 = 3))), (22, .bool (decide (y1 = 3)))] (by kernel_rfl) ?_
        refine ov_nil ?_
        refine nrm_thenV ?_
        refine v_cond (decide (y1 = 3)) (by kernel_rfl) (fun h4 => ?_) (fun h4 => ?_)
        · replace hs := bif_t h4 hs
          refine v_seq ?_
          refine vr_text ?_
          refine o_runs 2 [(24, .vs 1 (List.map EV.encI v.L)), (23, .ptr 1 0 3)] (by kernel_rfl) ?_
          obtain ⟨y6, c6, hs⟩ := bind_some hs
          refine o_loc (F := [(900000000, gl0 ob0), (900000001, gl1 ob1 u1), (900000002, gl2 ob2 u2)]) (F' := [(900000000, gl0 ob0), (900000001, gl1 ob1 u1), (900000002, gl2 ob2 u2)]) (v := .str y6) [900000000, 900000001, 900000002] (by kernel_rfl) (by kernel_rfl) rfl (by kernel_rfl) (loc_gcallL (vs := [.vs 1 (List.map EV.encI v.L)]) (G := [(900000000, gl0 ob0), (900000001, gl1 ob1 u1), (900000002, gl2 ob2 u2)]) (R := []) (callV_func hbv17 (by kernel_rfl)) (w_wire_Nums (ob0 := ob0) (ob1 := ob1) (ob2 := ob2) (u1 := u1) (u2 := u2) v.L _ c6) (by kernel_rfl) (.cons (.same _) (.nil)) (by kernel_rfl) (by kernel_rfl) (by kernel_rfl)) (by kernel_rfl) ?_
          refine o_runs 1 [(2, .str y6)] (by kernel_rfl) ?_
          refine ov_nil ?_
          refine nrm_thenV ?_
          refine v_ret ?_
          refine ret_blkV ?_
          refine ret_thenV ?_
          obtain rfl := Option.some.inj hs
          exact fin_ret (by kernel_rfl) (by kernel_rfl) (by kernel_rfl)
        · replace hs := bif_f h4 hs
          refine v_skip ?_
          refine nrm_blkV ?_
          refine nrm_thenV ?_
          refine v_seq ?_
          refine vr_text ?_
          refine o_runs 2 [(27, .vs 1 (List.map EV.encS v.T)), (26, .ptr 1 0 4)] (by kernel_rfl) ?_
          obtain ⟨y7, c7, hs⟩ := bind_some hs
          refine o_loc (F := [(900000000, gl0 ob0), (900000001, gl1 ob1 u1), (900000002, gl2 ob2 u2)]) (F' := [(900000000, gl0 ob0), (900000001, gl1 ob1 u1), (900000002, gl2 ob2 u2)]) (v := .str y7) [900000000, 900000001, 900000002] (by kernel_rfl) (by kernel_rfl) rfl (by kernel_rfl) (loc_gcallL (vs := [.vs 1 (List.map EV.encS v.T)]) (G := [(900000000, gl0 ob0), (900000001, gl1 ob1 u1), (900000002, gl2 ob2 u2)]) (R := []) (callV_func hbv19 (by kernel_rfl)) (w_wire_Texts (ob0 := ob0) (ob1 := ob1) (ob2 := ob2) (u1 := u1) (u2 := u2) v.T _ c7) (by kernel_rfl) (.cons (.same _) (.nil)) (by kernel_rfl) (by kernel_rfl) (by kernel_rfl)) (by kernel_rfl) ?_
          refine o_runs 1 [(2, .str y7)] (by kernel_rfl) ?_
          refine ov_nil ?_
          refine nrm_thenV ?_
          refine v_ret ?_
          obtain rfl := Option.some.inj hs
          exact fin_ret (by kernel_rfl) (by kernel_rfl) (by kernel_rfl)
def s_greenbeltref01_SameNums_L1 (a : (List Int)) (b : (List Int)) : Nat → Int → Option (Bool ⊕ Unit)
  | 0, _ => none
  | K1 + 1, q1 => (bif (decide (q1 < (List.length a : Int))) then (idx a q1).bind fun x1 => (idx b q1).bind fun x2 => (bif (!(decide (x1 = x2))) then some (.inl false) else (s_greenbeltref01_SameNums_L1 a b) K1 (w64 (q1 + 1))) else some (.inr ()))
def s_greenbeltref01_SameNums (a : (List Int)) (b : (List Int)) : Option Bool :=
  (bif (!(decide ((List.length a : Int) = (List.length b : Int)))) then some false else ((s_greenbeltref01_SameNums_L1 a b) KK 0 : Option (Bool ⊕ Unit)).bind fun z1 => match z1 with
 | .inl r => some r
 | .inr v1 => some true)
theorem w_greenbeltref01_SameNums (a : (List Int)) (b : (List Int)) (r : Bool) (hs : s_greenbeltref01_SameNums a b = some r) : FnA Tryd.prog 36 [.vs 1 (List.map EV.encI a), .vs 1 (List.map EV.encI b)] [] (.bool r) [] := by
  refine fnA_of_wp (N := 26) Tryd.func36 rfl rfl rfl fun cK0 => ?_
  unfold s_greenbeltref01_SameNums at hs
  refine v_same (ρ' := [(0, .vs 1 (List.map EV.encI a)), (1, .vs 1 (List.map EV.encI b))]) rfl rfl ?_
  refine v_seq ?_
  refine vr_text ?_
  refine o_runs 1 [(4, .bool false)] (by kernel_rfl) ?_
  refine ov_nil ?_
  refine nrm_thenV ?_
  refine v_seq ?_
  refine v_seq ?_
  refine vr_text ?_
  refine o_runs 1 [(6, .vs 1 (List.map EV.encI a))] (by kernel_rfl) ?_
  refine o_pure (v := .int .i64 (List.length a : Int)) (by kernel_rfl) (by kernel_rfl) (loc_lenVs (sz := 1) (els := (List.map EV.encI a)) (by kernel_rfl) (by kernel_rfl) (List.length_map ..)) ?_
  refine o_runs 1 [(8, .vs 1 (List.map EV.encI b))] (by kernel_rfl) ?_
  refine o_pure (v := .int .i64 (List.length b : Int)) (by kernel_rfl) (by kernel_rfl) (loc_lenVs (sz := 1) (els := (List.map EV.encI b)) (by kernel_rfl) (by kernel_rfl) (List.length_map ..)) ?_
  refine o_runs 1 [(10, .bool (!(decide ((List.length a : Int) = (List.length b : Int)))))] (by kernel_rfl) ?_
  refine ov_nil ?_
  refine nrm_thenV ?_
  refine v_cond (!(decide ((List.length a : Int) = (List.length b : Int)))) (by kernel_rfl) (fun h1 => ?_) (fun h1 => ?_)
  · replace hs := bif_t h1 hs
    refine v_seq ?_
    refine vr_text ?_
    refine o_runs 1 [(4, .bool false)] (by kernel_rfl) ?_
    refine ov_nil ?_
    refine nrm_thenV ?_
    refine v_ret ?_
    refine ret_thenV ?_
    obtain rfl := Option.some.inj hs
    exact fin_ret (by kernel_rfl) (by kernel_rfl) (by kernel_rfl)
  · replace hs := bif_f h1 hs
    refine v_skip ?_
    refine nrm_thenV ?_
    refine v_seq ?_
    refine v_seq ?_
    refine vr_text ?_
    refine o_runs 1 [(5, .int .i64 0)] (by kernel_rfl) ?_
    refine ov_nil ?_
    refine nrm_thenV ?_
    obtain ⟨z1, hs, hk1⟩ := bind_some hs
    refine v_join (S := Unit) (fun u => z1 = .inr u) (fun u => []) (fun u => []) ?_ (fun v1 hz => ?_)
    · refine v_block ?_
      refine v_fuel (S := Int) (fun u => [(0, .vs 1 (List.map EV.encI a)), (1, .vs 1 (List.map EV.encI b)), (5, .int .i64 u)]) (fun u => []) (s_greenbeltref01_SameNums_L1 a b) (fun _ => rfl) KK 0 hs (cut_of [0, 1, 5] [] (by kernel_rfl) (by kernel_rfl) (by kernel_rfl)) (fun K1 q1 hs => ?_)
      rw [s_greenbeltref01_SameNums_L1] at hs
      show WpV cK0 Tryd.prog none 26 _ _ [(0, .vs 1 (List.map EV.encI a)), (1, .vs 1 (List.map EV.encI b)), (5, .int .i64 q1)] [] []
      refine v_seq ?_
      refine v_seq ?_
      refine vr_text ?_
      refine o_runs 2 [(12, .vs 1 (List.map EV.encI a)), (11, .int .i64 q1)] (by kernel_rfl) ?_
      refine o_pure (v := .int .i64 (List.length a : Int)) (by kernel_rfl) (by kernel_rfl) (loc_lenVs (sz := 1) (els := (List.map EV.encI a)) (by kernel_rfl) (by kernel_rfl) (List.length_map ..)) ?_
      refine o_runs 1 [(14, .bool (decide (q1 < (List.length a : Int))))] (by kernel_rfl) ?_
      refine ov_nil ?_
      refine nrm_thenV ?_
      refine v_cond (decide (q1 < (List.length a : Int))) (by kernel_rfl) (fun h2 => ?_) (fun h2 => ?_)
      · replace hs := bif_t h2 hs
        refine v_skip ?_
        refine nrm_thenV ?_
        refine v_seq ?_
        refine v_block ?_
        refine v_seq ?_
        refine v_draw mixedH (by kernel_rfl) ?_
        refine d_runs 2 0 [(18, .int .i64 q1), (17, .vs 1 (List.map EV.encI a))] (pfp 2 1) (by kernel_rfl) (by kernel_rfl) ?_
        obtain ⟨x1, g1, hs⟩ := bind_some hs; obtain ⟨g1a, g1b, g1c⟩ := idx_some g1
        refine d_pure (v := .vp [.int .i64 x1] 0) 2 rfl rfl rfl rfl (by kernel_rfl) (by kernel_rfl) (loc_indexVs (e := 3) (sz := 1) (k := .i64) (els := (List.map EV.encI a)) (cs := (EV.encI x1)) (by kernel_rfl) (by kernel_rfl) (by kernel_rfl) g1a (by rw [g1c]; exact map_get _ (by omega))) ?_
        refine d_runs 3 3 [(22, .int .i64 q1), (21, .vs 1 (List.map EV.encI b)), (20, .int .i64 x1)] (pfp 3 5) (by kernel_rfl) (by kernel_rfl) ?_
        obtain ⟨x2, g2, hs⟩ := bind_some hs; obtain ⟨g2a, g2b, g2c⟩ := idx_some g2
        refine d_pure (v := .vp [.int .i64 x2] 0) 6 rfl rfl rfl rfl (by kernel_rfl) (by kernel_rfl) (loc_indexVs (e := 3) (sz := 1) (k := .i64) (els := (List.map EV.encI b)) (cs := (EV.encI x2)) (by kernel_rfl) (by kernel_rfl) (by kernel_rfl) g2a (by rw [g2c]; exact map_get _ (by omega))) ?_
        refine d_runs 2 7 [(25, .bool (!(decide (x1 = x2)))), (24, .int .i64 x2)] (pfp 2 8) (by kernel_rfl) (by kernel_rfl) ?_
        refine d_nil (by kernel_rfl) ?_
        refine nrm_thenV ?_
        refine v_cond (!(decide (x1 = x2))) (by kernel_rfl) (fun h3 => ?_) (fun h3 => ?_)
        · replace hs := bif_t h3 hs
          refine v_seq ?_
          refine vr_text ?_
          refine o_runs 1 [(4, .bool false)] (by kernel_rfl) ?_
          refine ov_nil ?_
          refine nrm_thenV ?_
          refine v_ret ?_
          refine ret_blkV ?_
          refine ret_thenV ?_
          refine ret_fuel ?_
          refine ret_blkV ?_
          refine ret_join ?_
          refine ret_thenV ?_
          obtain rfl := Option.some.inj hs
          replace hs := hk1
          obtain rfl := Option.some.inj hs
          exact fin_ret (by kernel_rfl) (by kernel_rfl) (by kernel_rfl)
        · replace hs := bif_f h3 hs
          refine v_skip ?_
          refine nrm_blkV ?_
          refine nrm_thenV ?_
          refine vr_text ?_
          refine o_runs 3 [(5, .int .i64 (w64 (q1 + 1))), (16, .int .i64 (w64 (q1 + 1))), (15, .int .i64 q1)] (by kernel_rfl) ?_
          refine ov_nil ?_
          refine nrm_fuel (w64 (q1 + 1)) hs ?_
          exact cut_of [0, 1, 5] [] (by kernel_rfl) (by kernel_rfl) (by kernel_rfl)
      · replace hs := bif_f h2 hs
        refine v_exit ?_
        refine exit_thenV ?_
        refine exit_fuel ?_
        refine exit_blkV ?_
        obtain rfl := Option.some.inj hs
        refine nrm_join () rfl ?_
        exact cut_of [] [] (by kernel_rfl) (by kernel_rfl) (by kernel_rfl)
    · subst hz; clear hs; have hs := hk1; clear hk1
      refine nrm_thenV ?_
      refine v_seq ?_
      refine vr_text ?_
      refine o_runs 1 [(4, .bool true)] (by kernel_rfl) ?_
      refine ov_nil ?_
      refine nrm_thenV ?_
      refine v_ret ?_
      obtain rfl := Option.some.inj hs
      exact fin_ret (by kernel_rfl) (by kernel_rfl) (by kernel_rfl)
def s_greenbeltref01_SameTexts_L1 (a : (List (List UInt8))) (b : (List (List UInt8))) : Nat → Int → Option (Bool ⊕ Unit)
  | 0, _ => none
  | K1 + 1, q1 => (bif (decide (q1 < (List.length a : Int))) then (idx a q1).bind fun x1 => (idx b q1).bind fun x2 => (bif (!(decide (x1 = x2))) then some (.inl false) else (s_greenbeltref01_SameTexts_L1 a b) K1 (w64 (q1 + 1))) else some (.inr ()))
def s_greenbeltref01_SameTexts (a : (List (List UInt8))) (b : (List (List UInt8))) : Option Bool :=
  (bif (!(decide ((List.length a : Int) = (List.length b : Int)))) then some false else ((s_greenbeltref01_SameTexts_L1 a b) KK 0 : Option (Bool ⊕ Unit)).bind fun z1 => match z1 with
 | .inl r => some r
 | .inr v1 => some true)
theorem w_greenbeltref01_SameTexts (a : (List (List UInt8))) (b : (List (List UInt8))) (r : Bool) (hs : s_greenbeltref01_SameTexts a b = some r) : FnA Tryd.prog 38 [.vs 1 (List.map EV.encS a), .vs 1 (List.map EV.encS b)] [] (.bool r) [] := by
  refine fnA_of_wp (N := 26) Tryd.func38 rfl rfl rfl fun cK0 => ?_
  unfold s_greenbeltref01_SameTexts at hs
  refine v_same (ρ' := [(0, .vs 1 (List.map EV.encS a)), (1, .vs 1 (List.map EV.encS b))]) rfl rfl ?_
  refine v_seq ?_
  refine vr_text ?_
  refine o_runs 1 [(4, .bool false)] (by kernel_rfl) ?_
  refine ov_nil ?_
  refine nrm_thenV ?_
  refine v_seq ?_
  refine v_seq ?_
  refine vr_text ?_
  refine o_runs 1 [(6, .vs 1 (List.map EV.encS a))] (by kernel_rfl) ?_
  refine o_pure (v := .int .i64 (List.length a : Int)) (by kernel_rfl) (by kernel_rfl) (loc_lenVs (sz := 1) (els := (List.map EV.encS a)) (by kernel_rfl) (by kernel_rfl) (List.length_map ..)) ?_
  refine o_runs 1 [(8, .vs 1 (List.map EV.encS b))] (by kernel_rfl) ?_
  refine o_pure (v := .int .i64 (List.length b : Int)) (by kernel_rfl) (by kernel_rfl) (loc_lenVs (sz := 1) (els := (List.map EV.encS b)) (by kernel_rfl) (by kernel_rfl) (List.length_map ..)) ?_
  refine o_runs 1 [(10, .bool (!(decide ((List.length a : Int) = (List.length b : Int)))))] (by kernel_rfl) ?_
  refine ov_nil ?_
  refine nrm_thenV ?_
  refine v_cond (!(decide ((List.length a : Int) = (List.length b : Int)))) (by kernel_rfl) (fun h1 => ?_) (fun h1 => ?_)
  · replace hs := bif_t h1 hs
    refine v_seq ?_
    refine vr_text ?_
    refine o_runs 1 [(4, .bool false)] (by kernel_rfl) ?_
    refine ov_nil ?_
    refine nrm_thenV ?_
    refine v_ret ?_
    refine ret_thenV ?_
    obtain rfl := Option.some.inj hs
    exact fin_ret (by kernel_rfl) (by kernel_rfl) (by kernel_rfl)
  · replace hs := bif_f h1 hs
    refine v_skip ?_
    refine nrm_thenV ?_
    refine v_seq ?_
    refine v_seq ?_
    refine vr_text ?_
    refine o_runs 1 [(5, .int .i64 0)] (by kernel_rfl) ?_
    refine ov_nil ?_
    refine nrm_thenV ?_
    obtain ⟨z1, hs, hk1⟩ := bind_some hs
    refine v_join (S := Unit) (fun u => z1 = .inr u) (fun u => []) (fun u => []) ?_ (fun v1 hz => ?_)
    · refine v_block ?_
      refine v_fuel (S := Int) (fun u => [(0, .vs 1 (List.map EV.encS a)), (1, .vs 1 (List.map EV.encS b)), (5, .int .i64 u)]) (fun u => []) (s_greenbeltref01_SameTexts_L1 a b) (fun _ => rfl) KK 0 hs (cut_of [0, 1, 5] [] (by kernel_rfl) (by kernel_rfl) (by kernel_rfl)) (fun K1 q1 hs => ?_)
      rw [s_greenbeltref01_SameTexts_L1] at hs
      show WpV cK0 Tryd.prog none 26 _ _ [(0, .vs 1 (List.map EV.encS a)), (1, .vs 1 (List.map EV.encS b)), (5, .int .i64 q1)] [] []
      refine v_seq ?_
      refine v_seq ?_
      refine vr_text ?_
      refine o_runs 2 [(12, .vs 1 (List.map EV.encS a)), (11, .int .i64 q1)] (by kernel_rfl) ?_
      refine o_pure (v := .int .i64 (List.length a : Int)) (by kernel_rfl) (by kernel_rfl) (loc_lenVs (sz := 1) (els := (List.map EV.encS a)) (by kernel_rfl) (by kernel_rfl) (List.length_map ..)) ?_
      refine o_runs 1 [(14, .bool (decide (q1 < (List.length a : Int))))] (by kernel_rfl) ?_
      refine ov_nil ?_
      refine nrm_thenV ?_
      refine v_cond (decide (q1 < (List.length a : Int))) (by kernel_rfl) (fun h2 => ?_) (fun h2 => ?_)
      · replace hs := bif_t h2 hs
        refine v_skip ?_
        refine nrm_thenV ?_
        refine v_seq ?_
        refine v_block ?_
        refine v_seq ?_
        refine v_draw mixedH (by kernel_rfl) ?_
        refine d_runs 2 0 [(18, .int .i64 q1), (17, .vs 1 (List.map EV.encS a))] (pfp 2 1) (by kernel_rfl) (by kernel_rfl) ?_
        obtain ⟨x1, g1, hs⟩ := bind_some hs; obtain ⟨g1a, g1b, g1c⟩ := idx_some g1
        refine d_pure (v := .vp [.str x1] 0) 2 rfl rfl rfl rfl (by kernel_rfl) (by kernel_rfl) (loc_indexVs (e := 9) (sz := 1) (k := .i64) (els := (List.map EV.encS a)) (cs := (EV.encS x1)) (by kernel_rfl) (by kernel_rfl) (by kernel_rfl) g1a (by rw [g1c]; exact map_get _ (by omega))) ?_
        refine d_runs 3 3 [(22, .int .i64 q1), (21, .vs 1 (List.map EV.encS b)), (20, .str x1)] (pfp 3 5) (by kernel_rfl) (by kernel_rfl) ?_
        obtain ⟨x2, g2, hs⟩ := bind_some hs; obtain ⟨g2a, g2b, g2c⟩ := idx_some g2
        refine d_pure (v := .vp [.str x2] 0) 6 rfl rfl rfl rfl (by kernel_rfl) (by kernel_rfl) (loc_indexVs (e := 9) (sz := 1) (k := .i64) (els := (List.map EV.encS b)) (cs := (EV.encS x2)) (by kernel_rfl) (by kernel_rfl) (by kernel_rfl) g2a (by rw [g2c]; exact map_get _ (by omega))) ?_
        refine d_runs 2 7 [(25, .bool (!(decide (x1 = x2)))), (24, .str x2)] (pfp 2 8) (by kernel_rfl) (by kernel_rfl) ?_
        refine d_nil (by kernel_rfl) ?_
        refine nrm_thenV ?_
        refine v_cond (!(decide (x1 = x2))) (by kernel_rfl) (fun h3 => ?_) (fun h3 => ?_)
        · replace hs := bif_t h3 hs
          refine v_seq ?_
          refine vr_text ?_
          refine o_runs 1 [(4, .bool false)] (by kernel_rfl) ?_
          refine ov_nil ?_
          refine nrm_thenV ?_
          refine v_ret ?_
          refine ret_blkV ?_
          refine ret_thenV ?_
          refine ret_fuel ?_
          refine ret_blkV ?_
          refine ret_join ?_
          refine ret_thenV ?_
          obtain rfl := Option.some.inj hs
          replace hs := hk1
          obtain rfl := Option.some.inj hs
          exact fin_ret (by kernel_rfl) (by kernel_rfl) (by kernel_rfl)
        · replace hs := bif_f h3 hs
          refine v_skip ?_
          refine nrm_blkV ?_
          refine nrm_thenV ?_
          refine vr_text ?_
          refine o_runs 3 [(5, .int .i64 (w64 (q1 + 1))), (16, .int .i64 (w64 (q1 + 1))), (15, .int .i64 q1)] (by kernel_rfl) ?_
          refine ov_nil ?_
          refine nrm_fuel (w64 (q1 + 1)) hs ?_
          exact cut_of [0, 1, 5] [] (by kernel_rfl) (by kernel_rfl) (by kernel_rfl)
      · replace hs := bif_f h2 hs
        refine v_exit ?_
        refine exit_thenV ?_
        refine exit_fuel ?_
        refine exit_blkV ?_
        obtain rfl := Option.some.inj hs
        refine nrm_join () rfl ?_
        exact cut_of [] [] (by kernel_rfl) (by kernel_rfl) (by kernel_rfl)
    · subst hz; clear hs; have hs := hk1; clear hk1
      refine nrm_thenV ?_
      refine v_seq ?_
      refine vr_text ?_
      refine o_runs 1 [(4, .bool true)] (by kernel_rfl) ?_
      refine ov_nil ?_
      refine nrm_thenV ?_
      refine v_ret ?_
      obtain rfl := Option.some.inj hs
      exact fin_ret (by kernel_rfl) (by kernel_rfl) (by kernel_rfl)
def s_greenbeltlaw01_equal (r_rest : (List UInt8)) (r_bad : Bool) (v : greenbeltlaw01_Value) : Option (Bool × (List UInt8) × Bool) :=
  (s_greenbeltlaw01_kind v).bind fun y1 => (bif (decide (y1 = 0)) then (s_wire_Reader_Num r_rest r_bad).bind fun y2 => (s_greenbeltlaw01_number v.N).bind fun y3 => some ((decide (y2.1 = y3)), y2.2.1, y2.2.2) else (bif (decide (y1 = 1)) then (s_wire_Reader_Int r_rest r_bad).bind fun y4 => some ((decide (y4.1 = v.N)), y4.2.1, y4.2.2) else (bif (decide (y1 = 2)) then (s_wire_Reader_Text r_rest r_bad).bind fun y5 => some ((decide (y5.1 = v.S)), y5.2.1, y5.2.2) else (bif (decide (y1 = 3)) then (s_wire_Reader_Nums r_rest r_bad).bind fun y6 => (s_greenbeltref01_SameNums y6.1 v.L).bind fun y7 => some (y7, y6.2.1, y6.2.2) else (s_wire_Reader_Texts r_rest r_bad).bind fun y8 => (s_greenbeltref01_SameTexts y8.1 v.T).bind fun y9 => some (y9, y8.2.1, y8.2.2)))))
theorem w_greenbeltlaw01_equal (r_rest : (List UInt8)) (r_bad : Bool) (v : greenbeltlaw01_Value) (r : Bool × (List UInt8) × Bool) (hs : s_greenbeltlaw01_equal r_rest r_bad v = some r) : FnA Tryd.prog 31 [.ptr 1000000 0 0, .agg (enc_greenbeltlaw01_Value v)] [(1000000, .box 54 [.str r_rest, .bool r_bad]), (900000000, gl0 ob0), (900000001, gl1 ob1 u1), (900000002, gl2 ob2 u2)] (.bool r.1) [(1000000, .box 54 [.str r.2.1, .bool r.2.2]), (900000000, gl0 ob0), (900000001, gl1 ob1 u1), (900000002, gl2 ob2 u2)] := by
  refine fnA_of_wp (N := 41) Tryd.func31 rfl rfl rfl fun cK0 => ?_
  unfold s_greenbeltlaw01_equal at hs
  refine v_same (ρ' := [(0, .ptr 1000000 0 0), (1, .agg (enc_greenbeltlaw01_Value v))]) rfl rfl ?_
  refine v_seq ?_
  refine vr_text ?_
  refine o_runh 2 [(4, .bool false), (3, .ptr 3 0 0)] [(3, .box 25 [.int .i64 v.Kind, .int .i64 v.N, .str v.S, .vs 1 (List.map EV.encI v.L), .vs 1 (List.map EV.encS v.T)]), (1000000, .box 54 [.str r_rest, .bool r_bad]), (900000000, gl0 ob0), (900000001, gl1 ob1 u1), (900000002, gl2 ob2 u2)] (by kernel_rfl) ?_
  refine ov_nil ?_
  refine nrm_thenV ?_
  refine v_seq ?_
  refine v_seq ?_
  refine vr_text ?_
  refine o_runs 1 [(5, .agg (enc_greenbeltlaw01_Value v))] (by kernel_rfl) ?_
  obtain ⟨y1, c1, hs⟩ := bind_some hs
  refine o_pure (v := .int .i64 y1) (by kernel_rfl) (by kernel_rfl) (loc_gcall0 (callV_func hbv22 (by kernel_rfl)) (w_greenbeltlaw01_kind v _ c1) (by kernel_rfl)) ?_
  refine ov_nil ?_
  refine nrm_thenV ?_
  refine v_block ?_
  refine v_seq ?_
  refine vr_text ?_
  refine o_runs 2 [(7, .bool (decide (y1 = 0))), (8, .bool (decide (y1 = 0)))] (by kernel_rfl) ?_
  refine ov_nil ?_
  refine nrm_thenV ?_
  refine v_cond (decide (y1 = 0)) (by kernel_rfl) (fun h1 => ?_) (fun h1 => ?_)
  · replace hs := bif_t h1 hs
    refine v_seq ?_
    refine v_draw mixedH (by kernel_rfl) ?_
    refine d_runs 1 0 [(9, .ptr 1000000 0 0)] (pfp 1 0) (by kernel_rfl) (by kernel_rfl) ?_
    obtain ⟨y2, c2, hs⟩ := bind_some hs
    refine d_loc (F := [(1000000, .box 54 [.str r_rest, .bool r_bad])]) (R := [(900000000, gl0 ob0), (900000001, gl1 ob1 u1), (900000002, gl2 ob2 u2)]) (F' := [(1000000, .box 54 [.str y2.2.1, .bool y2.2.2])]) (v := .int .i64 y2.1) 1 [1000000] [900000000, 900000001, 900000002] rfl rfl rfl rfl (by kernel_rfl) (by kernel_rfl) (by kernel_rfl) (by kernel_rfl) (by kernel_rfl) (by kernel_rfl) (by kernel_rfl) (by kernel_rfl) (loc_g (R := []) [.ptr 1000000 0 0] [(1000000, 1000000), (900000000, 900000000), (900000001, 900000001), (900000002, 900000002)] (callV_func hbv23 (by kernel_rfl)) (w_wire_Reader_Num (ob0 := ob0) (ob1 := ob1) (ob2 := ob2) (u1 := u1) (u2 := u2) r_rest r_bad _ c2) (.cons (.same _) (.nil)) (by kernel_rfl) (by kernel_rfl) (by kernel_rfl) (by kernel_rfl) (by kernel_rfl) (by kernel_rfl) (by kernel_rfl) (by kernel_rfl)) ?_
    refine d_runs 2 2 [(12, .int .i64 v.N), (11, .ptr 3 0 1)] [⟨3, [], [3]⟩, ⟨2, [], []⟩] (by kernel_rfl) (by kernel_rfl) ?_
    obtain ⟨y3, c3, hs⟩ := bind_some hs
    refine d_pure (v := .int .i64 y3) 4 rfl rfl rfl rfl (by kernel_rfl) (by kernel_rfl) (loc_gcall0 (callV_func hbv53 (by kernel_rfl)) (w_greenbeltlaw01_number v.N _ c3) (by kernel_rfl)) ?_
    refine d_runs 2 5 [(4, .bool (decide (y2.1 = y3))), (14, .bool (decide (y2.1 = y3)))] (pfp 2 6) (by kernel_rfl) (by kernel_rfl) ?_
    refine d_nil (by kernel_rfl) ?_
    refine nrm_thenV ?_
    refine v_ret ?_
    refine ret_blkV ?_
    refine ret_thenV ?_
    obtain rfl := Option.some.inj hs
    exact fin_ret (by kernel_rfl) (by kernel_rfl) (by kernel_rfl)
  · replace hs := bif_f h1 hs
    refine v_seq ?_
    refine vr_text ?_
    refine o_runs 2 [(15, .bool (decide (y1 = 1))), (16, .bool (decide (y1 = 1)))] (by kernel_rfl) ?_
    refine ov_nil ?_
    refine nrm_thenV ?_
    refine v_cond (decide (y1 = 1)) (by kernel_rfl) (fun h2 => ?_) (fun h2 => ?_)
    · replace hs := bif_t h2 hs
      refine v_seq ?_
      refine v_draw mixedH (by kernel_rfl) ?_
      refine d_runs 1 0 [(17, .ptr 1000000 0 0)] (pfp 1 0) (by kernel_rfl) (by kernel_rfl) ?_
      obtain ⟨y4, c4, hs⟩ := bind_some hs
      refine d_loc (F := [(1000000, .box 54 [.str r_rest, .bool r_bad])]) (R := [(900000000, gl0 ob0), (900000001, gl1 ob1 u1), (900000002, gl2 ob2 u2)]) (F' := [(1000000, .box 54 [.str y4.2.1, .bool y4.2.2])]) (v := .int .i64 y4.1) 1 [1000000] [900000000, 900000001, 900000002] rfl rfl rfl rfl (by kernel_rfl) (by kernel_rfl) (by kernel_rfl) (by kernel_rfl) (by kernel_rfl) (by kernel_rfl) (by kernel_rfl) (by kernel_rfl) (loc_g (R := []) [.ptr 1000000 0 0] [(1000000, 1000000), (900000000, 900000000), (900000001, 900000001), (900000002, 900000002)] (callV_func hbv24 (by kernel_rfl)) (w_wire_Reader_Int (ob0 := ob0) (ob1 := ob1) (ob2 := ob2) (u1 := u1) (u2 := u2) r_rest r_bad _ c4) (.cons (.same _) (.nil)) (by kernel_rfl) (by kernel_rfl) (by kernel_rfl) (by kernel_rfl) (by kernel_rfl) (by kernel_rfl) (by kernel_rfl) (by kernel_rfl)) ?_
      refine d_runs 4 2 [(4, .bool (decide (y4.1 = v.N))), (21, .bool (decide (y4.1 = v.N))), (20, .int .i64 v.N), (19, .ptr 3 0 1)] [⟨5, [], []⟩, ⟨4, [], []⟩, ⟨3, [], [3]⟩, ⟨2, [], []⟩] (by kernel_rfl) (by kernel_rfl) ?_
      refine d_nil (by kernel_rfl) ?_
      refine nrm_thenV ?_
      refine v_ret ?_
      refine ret_blkV ?_
      refine ret_thenV ?_
      obtain rfl := Option.some.inj hs
      exact fin_ret (by kernel_rfl) (by kernel_rfl) (by kernel_rfl)
    · replace hs := bif_f h2 hs
      refine v_seq ?_
      refine vr_text ?_
      refine o_runs 2 [(22, .bool (decide (y1 = 2))), (23, .bool (decide (y1 = 2)))] (by kernel_rfl) ?_
      refine ov_nil ?_
      refine nrm_thenV ?_
      refine v_cond (decide (y1 = 2)) (by kernel_rfl) (fun h3 => ?_) (fun h3 => ?_)
      · replace hs := bif_t h3 hs
        refine v_seq ?_
        refine v_draw mixedH (by kernel_rfl) ?_
        refine d_runs 1 0 [(24, .ptr 1000000 0 0)] (pfp 1 0) (by kernel_rfl) (by kernel_rfl) ?_
        obtain ⟨y5, c5, hs⟩ := bind_some hs
        refine d_loc (F := [(1000000, .box 54 [.str r_rest, .bool r_bad])]) (R := [(900000000, gl0 ob0), (900000001, gl1 ob1 u1), (900000002, gl2 ob2 u2)]) (F' := [(1000000, .box 54 [.str y5.2.1, .bool y5.2.2])]) (v := .str y5.1) 1 [1000000] [900000000, 900000001, 900000002] rfl rfl rfl rfl (by kernel_rfl) (by kernel_rfl) (by kernel_rfl) (by kernel_rfl) (by kernel_rfl) (by kernel_rfl) (by kernel_rfl) (by kernel_rfl) (loc_g (R := []) [.ptr 1000000 0 0] [(1000000, 1000000), (900000000, 900000000), (900000001, 900000001), (900000002, 900000002)] (callV_func hbv25 (by kernel_rfl)) (w_wire_Reader_Text (ob0 := ob0) (ob1 := ob1) (ob2 := ob2) (u1 := u1) (u2 := u2) r_rest r_bad _ c5) (.cons (.same _) (.nil)) (by kernel_rfl) (by kernel_rfl) (by kernel_rfl) (by kernel_rfl) (by kernel_rfl) (by kernel_rfl) (by kernel_rfl) (by kernel_rfl)) ?_
        refine d_runs 4 2 [(4, .bool (decide (y5.1 = v.S))), (28, .bool (decide (y5.1 = v.S))), (27, .str v.S), (26, .ptr 3 0 2)] [⟨5, [], []⟩, ⟨4, [], []⟩, ⟨3, [], [3]⟩, ⟨2, [], []⟩] (by kernel_rfl) (by kernel_rfl) ?_
        refine d_nil (by kernel_rfl) ?_
        refine nrm_thenV ?_
        refine v_ret ?_
        refine ret_blkV ?_
        refine ret_thenV ?_
        obtain rfl := Option.some.inj hs
        exact fin_ret (by kernel_rfl) (by kernel_rfl) (by kernel_rfl)
      · replace hs := bif_f h3 hs
        refine v_seq ?_
        refine vr_text ?_
        refine o_runs 2 [(29, .bool (decide (y1 = 3))), (30, .bool (decide (y1 = 3)))] (by kernel_rfl) ?_
        refine ov_nil ?_
        refine nrm_thenV ?_
        refine v_cond (decide (y1 = 3)) (by kernel_rfl) (fun h4 => ?_) (fun h4 => ?_)
        · replace hs := bif_t h4 hs
          refine v_seq ?_
          refine v_draw mixedH (by kernel_rfl) ?_
          refine d_runs 1 0 [(31, .ptr 1000000 0 0)] (pfp 1 0) (by kernel_rfl) (by kernel_rfl) ?_
          obtain ⟨y6, c6, hs⟩ := bind_some hs
          refine d_loc (F := [(1000000, .box 54 [.str r_rest, .bool r_bad])]) (R := [(900000000, gl0 ob0), (900000001, gl1 ob1 u1), (900000002, gl2 ob2 u2)]) (F' := [(1000000, .box 54 [.str y6.2.1, .bool y6.2.2])]) (v := .vs 1 (List.map EV.encI y6.1)) 1 [1000000] [900000000, 900000001, 900000002] rfl rfl rfl rfl (by kernel_rfl) (by kernel_rfl) (by kernel_rfl) (by kernel_rfl) (by kernel_rfl) (by kernel_rfl) (by kernel_rfl) (by kernel_rfl) (loc_g (R := []) [.ptr 1000000 0 0] [(1000000, 1000000), (900000000, 900000000), (900000001, 900000001), (900000002, 900000002)] (callV_func hbv26 (by kernel_rfl)) (w_wire_Reader_Nums (ob0 := ob0) (ob1 := ob1) (ob2 := ob2) (u1 := u1) (u2 := u2) r_rest r_bad _ c6) (.cons (.same _) (.nil)) (by kernel_rfl) (by kernel_rfl) (by kernel_rfl) (by kernel_rfl) (by kernel_rfl) (by kernel_rfl) (by kernel_rfl) (by kernel_rfl)) ?_
          refine d_runs 2 2 [(34, .vs 1 (List.map EV.encI v.L)), (33, .ptr 3 0 3)] [⟨3, [], [3]⟩, ⟨2, [], []⟩] (by kernel_rfl) (by kernel_rfl) ?_
          obtain ⟨y7, c7, hs⟩ := bind_some hs
          refine d_pure (v := .bool y7) 4 rfl rfl rfl rfl (by kernel_rfl) (by kernel_rfl) (loc_gcall0 (callV_func hbv36 (by kernel_rfl)) (w_greenbeltref01_SameNums y6.1 v.L _ c7) (by kernel_rfl)) ?_
          refine d_runs 1 5 [(4, .bool y7)] (pfp 1 5) (by kernel_rfl) (by kernel_rfl) ?_
          refine d_nil (by kernel_rfl) ?_
          refine nrm_thenV ?_
          refine v_ret ?_
          refine ret_blkV ?_
          refine ret_thenV ?_
          obtain rfl := Option.some.inj hs
          exact fin_ret (by kernel_rfl) (by kernel_rfl) (by kernel_rfl)
        · replace hs := bif_f h4 hs
          refine v_skip ?_
          refine nrm_blkV ?_
          refine nrm_thenV ?_
          refine v_seq ?_
          refine v_draw mixedH (by kernel_rfl) ?_
          refine d_runs 1 0 [(36, .ptr 1000000 0 0)] (pfp 1 0) (by kernel_rfl) (by kernel_rfl) ?_
          obtain ⟨y8, c8, hs⟩ := bind_some hs
          refine d_loc (F := [(1000000, .box 54 [.str r_rest, .bool r_bad])]) (R := [(900000000, gl0 ob0), (900000001, gl1 ob1 u1), (900000002, gl2 ob2 u2)]) (F' := [(1000000, .box 54 [.str y8.2.1, .bool y8.2.2])]) (v := .vs 1 (List.map EV.encS y8.1)) 1 [1000000] [900000000, 900000001, 900000002] rfl rfl rfl rfl (by kernel_rfl) (by kernel_rfl) (by kernel_rfl) (by kernel_rfl) (by kernel_rfl) (by kernel_rfl) (by kernel_rfl) (by kernel_rfl) (loc_g (R := []) [.ptr 1000000 0 0] [(1000000, 1000000), (900000000, 900000000), (900000001, 900000001), (900000002, 900000002)] (callV_func hbv27 (by kernel_rfl)) (w_wire_Reader_Texts (ob0 := ob0) (ob1 := ob1) (ob2 := ob2) (u1 := u1) (u2 := u2) r_rest r_bad _ c8) (.cons (.same _) (.nil)) (by kernel_rfl) (by kernel_rfl) (by kernel_rfl) (by kernel_rfl) (by kernel_rfl) (by kernel_rfl) (by kernel_rfl) (by kernel_rfl)) ?_
          refine d_runs 2 2 [(39, .vs 1 (List.map EV.encS v.T)), (38, .ptr 3 0 4)] [⟨3, [], [3]⟩, ⟨2, [], []⟩] (by kernel_rfl) (by kernel_rfl) ?_
          obtain ⟨y9, c9, hs⟩ := bind_some hs
          refine d_pure (v := .bool y9) 4 rfl rfl rfl rfl (by kernel_rfl) (by kernel_rfl) (loc_gcall0 (callV_func hbv38 (by kernel_rfl)) (w_greenbeltref01_SameTexts y8.1 v.T _ c9) (by kernel_rfl)) ?_
          refine d_runs 1 5 [(4, .bool y9)] (pfp 1 5) (by kernel_rfl) (by kernel_rfl) ?_
          refine d_nil (by kernel_rfl) ?_
          refine nrm_thenV ?_
          refine v_ret ?_
          obtain rfl := Option.some.inj hs
          exact fin_ret (by kernel_rfl) (by kernel_rfl) (by kernel_rfl)
def s_greenbeltlaw01_WirePrefix (v : greenbeltlaw01_Value) (w_ : greenbeltlaw01_Value) : Option Bool :=
  (s_greenbeltlaw01_small ).bind fun y1 => ((s_greenbeltlaw01_few [v]).bind fun y2 => (bif (!y2) then some true else (s_greenbeltlaw01_few [w_]).bind fun y3 => (bif (!y3) then some true else (s_greenbeltlaw01_kind v).bind fun y4 => (s_greenbeltlaw01_kind w_).bind fun y5 => some (!(decide (y4 = y5)))))).bind fun v1 => (bif v1 then some y1 else (s_greenbeltlaw01_write v).bind fun y6 => (s_greenbeltlaw01_write w_).bind fun y7 => ((bif (decide ((List.length y6 : Int) > (List.length y7 : Int))) then some true else (cut y7 0 (min (List.length y6 : Int) (List.length y7 : Int))).bind fun x1 => some (!(decide (x1 = y6))))).bind fun v2 => (bif v2 then some y1 else (s_wire_Open y6).bind fun y8 => ((bif y1 then (bif (decide (y6 = y7)) then (s_greenbeltlaw01_equal y8 false w_).bind fun y9 => some y9.1 else some false) else some false)).bind fun v3 => some v3))
theorem w_greenbeltlaw01_WirePrefix (v : greenbeltlaw01_Value) (w_ : greenbeltlaw01_Value) (r : Bool) (hs : s_greenbeltlaw01_WirePrefix v w_ = some r) : FnA Tryd.prog 5 [.agg (enc_greenbeltlaw01_Value v), .agg (enc_greenbeltlaw01_Value w_)] [(900000000, gl0 ob0), (900000001, gl1 ob1 u1), (900000002, gl2 ob2 u2)] (.bool r) [(900000000, gl0 ob0), (900000001, gl1 ob1 u1), (900000002, gl2 ob2 u2)] := by
  refine fnA_of_wp (N := 66) Tryd.func5 rfl rfl rfl fun cK0 => ?_
  unfold s_greenbeltlaw01_WirePrefix at hs
  refine v_same (ρ' := [(0, .agg (enc_greenbeltlaw01_Value v)), (1, .agg (enc_greenbeltlaw01_Value w_))]) rfl rfl ?_
  refine v_seq ?_
  refine vr_text ?_
  refine o_runh 3 [(4, .bool false), (3, .ptr 3 0 0), (2, .ptr 2 0 0)] [(3, .box 25 [.int .i64 w_.Kind, .int .i64 w_.N, .str w_.S, .vs 1 (List.map EV.encI w_.L), .vs 1 (List.map EV.encS w_.T)]), (2, .box 25 [.int .i64 v.Kind, .int .i64 v.N, .str v.S, .vs 1 (List.map EV.encI v.L), .vs 1 (List.map EV.encS v.T)]), (900000000, gl0 ob0), (900000001, gl1 ob1 u1), (900000002, gl2 ob2 u2)] (by kernel_rfl) ?_
  refine ov_nil ?_
  refine nrm_thenV ?_
  refine v_seq ?_
  refine vr_text ?_
  obtain ⟨y1, c1, hs⟩ := bind_some hs
  refine o_loc (F := [(900000000, gl0 ob0), (900000001, gl1 ob1 u1), (900000002, gl2 ob2 u2)]) (F' := [(900000000, gl0 ob0), (900000001, gl1 ob1 u1), (900000002, gl2 ob2 u2)]) (v := .bool y1) [900000000, 900000001, 900000002] (by kernel_rfl) (by kernel_rfl) rfl (by kernel_rfl) (loc_gcallL (vs := []) (G := [(900000000, gl0 ob0), (900000001, gl1 ob1 u1), (900000002, gl2 ob2 u2)]) (R := []) (callV_func hbv9 (by kernel_rfl)) (w_greenbeltlaw01_small (ob0 := ob0) (ob1 := ob1) (ob2 := ob2) (u1 := u1) (u2 := u2)  _ c1) (by kernel_rfl) (.nil) (by kernel_rfl) (by kernel_rfl) (by kernel_rfl)) (by kernel_rfl) ?_
  refine o_runs 1 [(5, .bool y1)] (by kernel_rfl) ?_
  refine ov_nil ?_
  refine nrm_thenV ?_
  refine v_seq ?_
  refine v_seq ?_
  obtain ⟨z1, hs, hk1⟩ := bind_some hs
  refine v_join (S := Bool) (fun u => u = z1) (fun u => [(2, .ptr 2 0 0), (3, .ptr 3 0 0), (5, .bool y1), (26, .bool u)]) (fun u => [(3, .box 25 [.int .i64 w_.Kind, .int .i64 w_.N, .str w_.S, .vs 1 (List.map EV.encI w_.L), .vs 1 (List.map EV.encS w_.T)]), (2, .box 25 [.int .i64 v.Kind, .int .i64 v.N, .str v.S, .vs 1 (List.map EV.encI v.L), .vs 1 (List.map EV.encS v.T)]), (900000000, gl0 ob0), (900000001, gl1 ob1 u1), (900000002, gl2 ob2 u2)]) ?_ (fun v1 hz => ?_)
  · refine v_draw mixedH (by kernel_rfl) ?_
    refine d_runh 2 0 [(11, .sl 5 11 1 0 1), (10, .agg (enc_greenbeltlaw01_Value v))] [(11, .row 25 5 0 (List.map enc_greenbeltlaw01_Value [v])), (900000000, gl0 ob0), (900000001, gl1 ob1 u1), (900000002, gl2 ob2 u2), (3, .box 25 [.int .i64 w_.Kind, .int .i64 w_.N, .str w_.S, .vs 1 (List.map EV.encI w_.L), .vs 1 (List.map EV.encS w_.T)]), (2, .box 25 [.int .i64 v.Kind, .int .i64 v.N, .str v.S, .vs 1 (List.map EV.encI v.L), .vs 1 (List.map EV.encS v.T)])] [⟨1, [11], []⟩, ⟨0, [], [2]⟩] (by kernel_rfl) (by kernel_rfl) ?_
    obtain ⟨y2, c2, hs⟩ := bind_some hs
    refine d_loc (F := []) (R := [(11, .row 25 5 0 (List.map enc_greenbeltlaw01_Value [v]))]) (F' := []) (v := .bool y2) 2 [] [11] rfl rfl rfl rfl (by kernel_rfl) (by kernel_rfl) (by kernel_rfl) (by kernel_rfl) (by kernel_rfl) (by kernel_rfl) (by kernel_rfl) (by kernel_rfl) (loc_gcallB (vs := [.sl 5 11 1 0 1]) (R := [(11, .row 25 5 0 (List.map enc_greenbeltlaw01_Value [v]))]) (callV_func hbv10 (by kernel_rfl)) (w_greenbeltlaw01_few [v] _ c2) (.cons (.row (t := 25) (fz := 0) (by kernel_rfl) (by first | (simp only [List.length_map, List.length_set]; done) | rfl)) (.nil)) (by kernel_rfl) (by kernel_rfl) (by kernel_rfl)) ?_
    refine d_runs 2 3 [(14, .bool (!y2)), (13, .bool (!y2))] (pfp 2 4) (by kernel_rfl) (by kernel_rfl) ?_
    cases h1 : ((!y2))
    · replace hs := bif_f h1 hs
      refine d_runh 2 5 [(16, .sl 5 16 1 0 1), (15, .agg (enc_greenbeltlaw01_Value w_))] [(16, .row 25 5 0 (List.map enc_greenbeltlaw01_Value [w_])), (11, .row 25 5 0 (List.map enc_greenbeltlaw01_Value [v])), (900000000, gl0 ob0), (900000001, gl1 ob1 u1), (900000002, gl2 ob2 u2), (3, .box 25 [.int .i64 w_.Kind, .int .i64 w_.N, .str w_.S, .vs 1 (List.map EV.encI w_.L), .vs 1 (List.map EV.encS w_.T)]), (2, .box 25 [.int .i64 v.Kind, .int .i64 v.N, .str v.S, .vs 1 (List.map EV.encI v.L), .vs 1 (List.map EV.encS v.T)])] [⟨6, [16], []⟩, ⟨5, [], [3]⟩] (by kernel_rfl) (by kernel_rfl) ?_
      obtain ⟨y3, c3, hs⟩ := bind_some hs
      refine d_loc (F := []) (R := [(16, .row 25 5 0 (List.map enc_greenbeltlaw01_Value [w_]))]) (F' := []) (v := .bool y3) 7 [] [16] rfl rfl rfl rfl (by kernel_rfl) (by kernel_rfl) (by kernel_rfl) (by kernel_rfl) (by kernel_rfl) (by kernel_rfl) (by kernel_rfl) (by kernel_rfl) (loc_gcallB (vs := [.sl 5 16 1 0 1]) (R := [(16, .row 25 5 0 (List.map enc_greenbeltlaw01_Value [w_]))]) (callV_func hbv10 (by kernel_rfl)) (w_greenbeltlaw01_few [w_] _ c3) (.cons (.row (t := 25) (fz := 0) (by kernel_rfl) (by first | (simp only [List.length_map, List.length_set]; done) | rfl)) (.nil)) (by kernel_rfl) (by kernel_rfl) (by kernel_rfl)) ?_
      refine d_runs 3 8 [(20, .bool (!y3)), (19, .bool (!y3)), (18, .bool (!y3))] (pfp 3 10) (by kernel_rfl) (by kernel_rfl) ?_
      cases h2 : ((!y3))
      · replace hs := bif_f h2 hs
        refine d_runs 1 11 [(21, .agg (enc_greenbeltlaw01_Value v))] [⟨11, [], [2]⟩] (by kernel_rfl) (by kernel_rfl) ?_
        obtain ⟨y4, c4, hs⟩ := bind_some hs
        refine d_pure (v := .int .i64 y4) 12 rfl rfl rfl rfl (by kernel_rfl) (by kernel_rfl) (loc_gcall0 (callV_func hbv22 (by kernel_rfl)) (w_greenbeltlaw01_kind v _ c4) (by kernel_rfl)) ?_
        refine d_runs 1 13 [(23, .agg (enc_greenbeltlaw01_Value w_))] [⟨13, [], [3]⟩] (by kernel_rfl) (by kernel_rfl) ?_
        obtain ⟨y5, c5, hs⟩ := bind_some hs
        refine d_pure (v := .int .i64 y5) 14 rfl rfl rfl rfl (by kernel_rfl) (by kernel_rfl) (loc_gcall0 (callV_func hbv22 (by kernel_rfl)) (w_greenbeltlaw01_kind w_ _ c5) (by kernel_rfl)) ?_
        refine d_runs 2 15 [(26, .bool (!(decide (y4 = y5)))), (25, .bool (!(decide (y4 = y5))))] (pfp 2 16) (by kernel_rfl) (by kernel_rfl) ?_
        refine d_nil (by kernel_rfl) ?_
        obtain rfl := Option.some.inj hs
        refine nrm_join (!(decide (y4 = y5))) rfl ?_
        exact cut_of [2, 3, 5, 26] [3, 2, 900000000, 900000001, 900000002] (by kernel_rfl) (by kernel_rfl) (by kernel_rfl)
      · replace hs := bif_t h2 hs
        refine d_runs 6 11 [(26, .bool true), (25, .no), (24, .no), (23, .no), (22, .no), (21, .no)] (pfp 6 16) (by kernel_rfl) (by kernel_rfl) ?_
        refine d_nil (by kernel_rfl) ?_
        obtain rfl := Option.some.inj hs
        refine nrm_join true rfl ?_
        exact cut_of [2, 3, 5, 26] [3, 2, 900000000, 900000001, 900000002] (by kernel_rfl) (by kernel_rfl) (by kernel_rfl)
    · replace hs := bif_t h1 hs
      refine d_runs 12 5 [(26, .bool true), (25, .no), (24, .no), (23, .no), (22, .no), (21, .no), (20, .bool true), (19, .bool true), (18, .no), (17, .no), (16, .no), (15, .no)] (pfp 12 16) (by kernel_rfl) (by kernel_rfl) ?_
      refine d_nil (by kernel_rfl) ?_
      obtain rfl := Option.some.inj hs
      refine nrm_join true rfl ?_
      exact cut_of [2, 3, 5, 26] [3, 2, 900000000, 900000001, 900000002] (by kernel_rfl) (by kernel_rfl) (by kernel_rfl)
  · subst hz; clear hs; have hs := hk1; clear hk1
    refine nrm_thenV ?_
    refine v_cond v1 (by kernel_rfl) (fun h3 => ?_) (fun h3 => ?_)
    · replace hs := bif_t h3 hs
      refine v_seq ?_
      refine vr_text ?_
      refine o_runs 2 [(4, .bool y1), (27, .bool y1)] (by kernel_rfl) ?_
      refine ov_nil ?_
      refine nrm_thenV ?_
      refine v_ret ?_
      refine ret_thenV ?_
      obtain rfl := Option.some.inj hs
      exact fin_ret (by kernel_rfl) (by kernel_rfl) (by kernel_rfl)
    · replace hs := bif_f h3 hs
      refine v_skip ?_
      refine nrm_thenV ?_
      refine v_seq ?_
      refine vr_text ?_
      refine o_runs 1 [(28, .agg (enc_greenbeltlaw01_Value v))] (by kernel_rfl) ?_
      obtain ⟨y6, c6, hs⟩ := bind_some hs
      refine o_loc (F := [(900000000, gl0 ob0), (900000001, gl1 ob1 u1), (900000002, gl2 ob2 u2)]) (F' := [(900000000, gl0 ob0), (900000001, gl1 ob1 u1), (900000002, gl2 ob2 u2)]) (v := .str y6) [900000000, 900000001, 900000002] (by kernel_rfl) (by kernel_rfl) rfl (by kernel_rfl) (loc_gcallL (vs := [.agg (enc_greenbeltlaw01_Value v)]) (G := [(900000000, gl0 ob0), (900000001, gl1 ob1 u1), (900000002, gl2 ob2 u2)]) (R := []) (callV_func hbv30 (by kernel_rfl)) (w_greenbeltlaw01_write (ob0 := ob0) (ob1 := ob1) (ob2 := ob2) (u1 := u1) (u2 := u2) v _ c6) (by kernel_rfl) (.cons (.same _) (.nil)) (by kernel_rfl) (by kernel_rfl) (by kernel_rfl)) (by kernel_rfl) ?_
      refine o_runs 1 [(6, .str y6)] (by kernel_rfl) ?_
      refine ov_nil ?_
      refine nrm_thenV ?_
      refine v_seq ?_
      refine vr_text ?_
      refine o_runs 1 [(30, .agg (enc_greenbeltlaw01_Value w_))] (by kernel_rfl) ?_
      obtain ⟨y7, c7, hs⟩ := bind_some hs
      refine o_loc (F := [(900000000, gl0 ob0), (900000001, gl1 ob1 u1), (900000002, gl2 ob2 u2)]) (F' := [(900000000, gl0 ob0), (900000001, gl1 ob1 u1), (900000002, gl2 ob2 u2)]) (v := .str y7) [900000000, 900000001, 900000002] (by kernel_rfl) (by kernel_rfl) rfl (by kernel_rfl) (loc_gcallL (vs := [.agg (enc_greenbeltlaw01_Value w_)]) (G := [(900000000, gl0 ob0), (900000001, gl1 ob1 u1), (900000002, gl2 ob2 u2)]) (R := []) (callV_func hbv30 (by kernel_rfl)) (w_greenbeltlaw01_write (ob0 := ob0) (ob1 := ob1) (ob2 := ob2) (u1 := u1) (u2 := u2) w_ _ c7) (by kernel_rfl) (.cons (.same _) (.nil)) (by kernel_rfl) (by kernel_rfl) (by kernel_rfl)) (by kernel_rfl) ?_
      refine o_runs 1 [(7, .str y7)] (by kernel_rfl) ?_
      refine ov_nil ?_
      refine nrm_thenV ?_
      refine v_seq ?_
      refine v_seq ?_
      obtain ⟨z2, hs, hk2⟩ := bind_some hs
      refine v_join (S := Bool) (fun u => u = z2) (fun u => [(3, .ptr 3 0 0), (5, .bool y1), (6, .str y6), (7, .str y7), (47, .bool u)]) (fun u => [(3, .box 25 [.int .i64 w_.Kind, .int .i64 w_.N, .str w_.S, .vs 1 (List.map EV.encI w_.L), .vs 1 (List.map EV.encS w_.T)]), (900000000, gl0 ob0), (900000001, gl1 ob1 u1), (900000002, gl2 ob2 u2)]) ?_ (fun v2 hz => ?_)
      · refine vr_text ?_
        refine o_runs 6 [(37, .bool (decide ((List.length y6 : Int) > (List.length y7 : Int)))), (36, .bool (decide ((List.length y6 : Int) > (List.length y7 : Int)))), (35, .int .i64 (List.length y7 : Int)), (34, .str y7), (33, .int .i64 (List.length y6 : Int)), (32, .str y6)] (by kernel_rfl) ?_
        cases h4 : ((decide ((List.length y6 : Int) > (List.length y7 : Int))))
        · replace hs := bif_f h4 hs
          refine o_runs 6 [(43, .int .i64 (min (List.length y6 : Int) (List.length y7 : Int))), (42, .int .i64 (List.length y7 : Int)), (41, .str y7), (40, .int .i64 (List.length y6 : Int)), (39, .str y6), (38, .str y7)] (by kernel_rfl) ?_
          obtain ⟨x1, g1, hs⟩ := bind_some hs; obtain ⟨g1a, g1b, g1c, g1d⟩ := cut_some g1
          refine o_pure (v := .str x1) (by kernel_rfl) (by kernel_rfl) (by rw [g1d]; exact loc_sliceStr (s := y7) (l := 0) (h := (min (List.length y6 : Int) (List.length y7 : Int))) (by kernel_rfl) (by kernel_rfl) rfl ⟨.i64, by kernel_rfl⟩ g1a g1b g1c) ?_
          refine o_runs 3 [(47, .bool (!(decide (x1 = y6)))), (46, .bool (!(decide (x1 = y6)))), (45, .str y6)] (by kernel_rfl) ?_
          refine ov_nil ?_
          obtain rfl := Option.some.inj hs
          refine nrm_join (!(decide (x1 = y6))) rfl ?_
          exact cut_of [3, 5, 6, 7, 47] [3, 900000000, 900000001, 900000002] (by kernel_rfl) (by kernel_rfl) (by kernel_rfl)
        · replace hs := bif_t h4 hs
          refine o_runs 10 [(47, .bool true), (46, .no), (45, .no), (44, .no), (43, .no), (42, .no), (41, .no), (40, .no), (39, .no), (38, .no)] (by kernel_rfl) ?_
          refine ov_nil ?_
          obtain rfl := Option.some.inj hs
          refine nrm_join true rfl ?_
          exact cut_of [3, 5, 6, 7, 47] [3, 900000000, 900000001, 900000002] (by kernel_rfl) (by kernel_rfl) (by kernel_rfl)
      · subst hz; clear hs; have hs := hk2; clear hk2
        refine nrm_thenV ?_
        refine v_cond v2 (by kernel_rfl) (fun h5 => ?_) (fun h5 => ?_)
        · replace hs := bif_t h5 hs
          refine v_seq ?_
          refine vr_text ?_
          refine o_runs 2 [(4, .bool y1), (48, .bool y1)] (by kernel_rfl) ?_
          refine ov_nil ?_
          refine nrm_thenV ?_
          refine v_ret ?_
          refine ret_thenV ?_
          obtain rfl := Option.some.inj hs
          exact fin_ret (by kernel_rfl) (by kernel_rfl) (by kernel_rfl)
        · replace hs := bif_f h5 hs
          refine v_skip ?_
          refine nrm_thenV ?_
          refine v_seq ?_
          refine vr_text ?_
          refine o_runs 1 [(49, .str y6)] (by kernel_rfl) ?_
          obtain ⟨y8, c8, hs⟩ := bind_some hs
          refine o_loc (F := []) (F' := [(3005000, .box 54 [.str y8, .bool false])]) (v := .ptr 3005000 0 0) [] (by kernel_rfl) (by kernel_rfl) rfl (by kernel_rfl) (loc_g (R := []) [.str y6] [(5, 3005000)] (callV_func hbv21 (by kernel_rfl)) (w_wire_Open y6 _ c8) (.cons (.same _) (.nil)) (by kernel_rfl) (by kernel_rfl) (by kernel_rfl) (by kernel_rfl) (by kernel_rfl) (by kernel_rfl) (by kernel_rfl) (by kernel_rfl)) (by kernel_rfl) ?_
          refine o_runs 1 [(8, .ptr 3005000 0 0)] (by kernel_rfl) ?_
          refine ov_nil ?_
          refine nrm_thenV ?_
          refine v_seq ?_
          obtain ⟨z3, hs, hk3⟩ := bind_some hs
          refine v_join (S := Bool) (fun u => u = z3) (fun u => [(4, .bool u)]) (fun u => [(900000000, gl0 ob0), (900000001, gl1 ob1 u1), (900000002, gl2 ob2 u2)]) ?_ (fun v3 hz => ?_)
          · refine vr_text ?_
            refine o_runs 2 [(52, .bool y1), (51, .bool y1)] (by kernel_rfl) ?_
            cases h6 : (y1)
            · replace hs := bif_f h6 hs
              refine o_runs 14 [(4, .bool false), (65, .bool false), (64, .no), (63, .no), (62, .no), (61, .bool false), (60, .bool false), (59, .no), (58, .no), (57, .no), (56, .bool false), (55, .bool false), (54, .no), (53, .no)] (by kernel_rfl) ?_
              refine ov_nil ?_
              obtain rfl := Option.some.inj hs
              refine nrm_join false rfl ?_
              exact cut_of [4] [900000000, 900000001, 900000002] (by kernel_rfl) (by kernel_rfl) (by kernel_rfl)
            · replace hs := bif_t h6 hs
              refine o_runs 9 [(61, .bool (decide (y6 = y7))), (60, .bool (decide (y6 = y7))), (59, .bool (decide (y6 = y7))), (58, .str y7), (57, .str y6), (56, .bool true), (55, .bool true), (54, .bool true), (53, .ptr 3005000 0 0)] (by kernel_rfl) ?_
              cases h7 : ((decide (y6 = y7)))
              · replace hs := bif_f h7 hs
                refine o_runs 5 [(4, .bool false), (65, .bool false), (64, .no), (63, .no), (62, .no)] (by kernel_rfl) ?_
                refine ov_nil ?_
                obtain rfl := Option.some.inj hs
                refine nrm_join false rfl ?_
                exact cut_of [4] [900000000, 900000001, 900000002] (by kernel_rfl) (by kernel_rfl) (by kernel_rfl)
              · replace hs := bif_t h7 hs
                refine o_runs 2 [(63, .agg (enc_greenbeltlaw01_Value w_)), (62, .ptr 3005000 0 0)] (by kernel_rfl) ?_
                obtain ⟨y9, c9, hs⟩ := bind_some hs
                refine o_loc (F := [(3005000, .box 54 [.str y8, .bool false]), (900000000, gl0 ob0), (900000001, gl1 ob1 u1), (900000002, gl2 ob2 u2)]) (F' := [(3005000, .box 54 [.str y9.2.1, .bool y9.2.2]), (900000000, gl0 ob0), (900000001, gl1 ob1 u1), (900000002, gl2 ob2 u2)]) (v := .bool y9.1) [3005000, 900000000, 900000001, 900000002] (by kernel_rfl) (by kernel_rfl) rfl (by kernel_rfl) (loc_g (R := []) [.ptr 3005000 0 0, .agg (enc_greenbeltlaw01_Value w_)] [(1000000, 3005000), (900000000, 900000000), (900000001, 900000001), (900000002, 900000002)] (callV_func hbv31 (by kernel_rfl)) (w_greenbeltlaw01_equal (ob0 := ob0) (ob1 := ob1) (ob2 := ob2) (u1 := u1) (u2 := u2) y8 false w_ _ c9) (.cons (.same _) (.cons (.same _) (.nil))) (by kernel_rfl) (by kernel_rfl) (by kernel_rfl) (by kernel_rfl) (by kernel_rfl) (by kernel_rfl) (by kernel_rfl) (by kernel_rfl)) (by kernel_rfl) ?_
                refine o_runs 2 [(4, .bool y9.1), (65, .bool y9.1)] (by kernel_rfl) ?_
                refine ov_nil ?_
                obtain rfl := Option.some.inj hs
                refine nrm_join y9.1 rfl ?_
                exact cut_of [4] [900000000, 900000001, 900000002] (by kernel_rfl) (by kernel_rfl) (by kernel_rfl)
          · subst hz; clear hs; have hs := hk3; clear hk3
            refine nrm_thenV ?_
            refine v_ret ?_
            obtain rfl := Option.some.inj hs
            exact fin_ret (by kernel_rfl) (by kernel_rfl) (by kernel_rfl)
def s_greenbeltlaw01_WireNests_L1 (l : (List greenbeltlaw01_Value)) : Nat → (Int × (List (List UInt8))) → Option (List (List UInt8))
  | 0, _ => none
  | K1 + 1, q1 => (bif (decide (q1.1 < (List.length l : Int))) then (idx l q1.1).bind fun x1 => (s_greenbeltlaw01_write x1).bind fun y3 => (grd (((q1.2 ++ [y3])).length * 16 ≤ 140737488355328)).bind fun _ => (s_greenbeltlaw01_WireNests_L1 l) K1 ((w64 (q1.1 + 1)), (q1.2 ++ [y3])) else some q1.2)
def s_greenbeltlaw01_WireNests_L2 (l : (List greenbeltlaw01_Value)) (y10 : ((List (List UInt8)) × (List UInt8) × Bool)) : Nat → Int → Option (Bool ⊕ Unit)
  | 0, _ => none
  | K2 + 1, q2 => (bif (decide (q2 < (List.length l : Int))) then (idx y10.1 q2).bind fun x2 => (s_wire_Open x2).bind fun y12 => ((idx l q2).bind fun x3 => (s_greenbeltlaw01_equal y12 false x3).bind fun y13 => (bif (!y13.1) then some true else (s_wire_Reader_Done y13.2.1 y13.2.2).bind fun y14 => some (!y14.1))).bind fun v4 => (bif v4 then some (.inl false) else (s_greenbeltlaw01_WireNests_L2 l y10) K2 (w64 (q2 + 1))) else some (.inr ()))
def s_greenbeltlaw01_WireNests (l : (List greenbeltlaw01_Value)) : Option Bool :=
  (s_greenbeltlaw01_small ).bind fun y1 => (s_greenbeltlaw01_few l).bind fun y2 => (bif (!y2) then some y1 else ((s_greenbeltlaw01_WireNests_L1 l) KK (0, [])).bind fun v1 => (s_wire_Texts v1).bind fun y4 => (s_wire_Text y4).bind fun y5 => (s_wire_Open y5).bind fun y6 => (s_wire_Reader_Text y6 false).bind fun y7 => (s_wire_Open y7.1).bind fun y8 => (s_wire_Reader_Done y7.2.1 y7.2.2).bind fun y9 => (bif (!y9.1) then some false else (s_wire_Reader_Texts y8 false).bind fun y10 => ((bif (!(decide ((List.length y10.1 : Int) = (List.length l : Int)))) then some true else (s_wire_Reader_Done y10.2.1 y10.2.2).bind fun y11 => some (!y11.1))).bind fun v2 => (bif v2 then some false else ((s_greenbeltlaw01_WireNests_L2 l y10) KK 0 : Option (Bool ⊕ Unit)).bind fun z3 => match z3 with
 | .inl r => some r
 | .inr v3 => some y1)))
theorem w_greenbeltlaw01_WireNests (l : (List greenbeltlaw01_Value)) (r : Bool) (hs : s_greenbeltlaw01_WireNests l = some r) : FnA Tryd.prog 6 [.vs 5 (List.map enc_greenbeltlaw01_Value l)] [(900000000, gl0 ob0), (900000001, gl1 ob1 u1), (900000002, gl2 ob2 u2)] (.bool r) [(900000000, gl0 ob0), (900000001, gl1 ob1 u1), (900000002, gl2 ob2 u2)] := by
  refine fnA_of_wp (N := 86) Tryd.func6 rfl rfl rfl fun cK0 => ?_
  unfold s_greenbeltlaw01_WireNests at hs
  refine v_same (ρ' := [(0, .vs 5 (List.map enc_greenbeltlaw01_Value l))]) rfl rfl ?_
  refine v_seq ?_
  refine vr_text ?_
  refine o_runs 1 [(2, .bool false)] (by kernel_rfl) ?_
  refine ov_nil ?_
  refine nrm_thenV ?_
  refine v_seq ?_
  refine vr_text ?_
  obtain ⟨y1, c1, hs⟩ := bind_some hs
  refine o_loc (F := [(900000000, gl0 ob0), (900000001, gl1 ob1 u1), (900000002, gl2 ob2 u2)]) (F' := [(900000000, gl0 ob0), (900000001, gl1 ob1 u1), (900000002, gl2 ob2 u2)]) (v := .bool y1) [900000000, 900000001, 900000002] (by kernel_rfl) (by kernel_rfl) rfl (by kernel_rfl) (loc_gcallL (vs := []) (G := [(900000000, gl0 ob0), (900000001, gl1 ob1 u1), (900000002, gl2 ob2 u2)]) (R := []) (callV_func hbv9 (by kernel_rfl)) (w_greenbeltlaw01_small (ob0 := ob0) (ob1 := ob1) (ob2 := ob2) (u1 := u1) (u2 := u2)  _ c1) (by kernel_rfl) (.nil) (by kernel_rfl) (by kernel_rfl) (by kernel_rfl)) (by kernel_rfl) ?_
  refine o_runs 1 [(3, .bool y1)] (by kernel_rfl) ?_
  refine ov_nil ?_
  refine nrm_thenV ?_
  refine v_seq ?_
  refine v_seq ?_
  refine vr_text ?_
  refine o_runs 1 [(12, .vs 5 (List.map enc_greenbeltlaw01_Value l))] (by kernel_rfl) ?_
  obtain ⟨y2, c2, hs⟩ := bind_some hs
  refine o_pure (v := .bool y2) (by kernel_rfl) (by kernel_rfl) (loc_gcall0 (callV_func hbv10 (by kernel_rfl)) (w_greenbeltlaw01_few l _ c2) (by kernel_rfl)) ?_
  refine o_runs 1 [(14, .bool (!y2))] (by kernel_rfl) ?_
  refine ov_nil ?_
  refine nrm_thenV ?_
  refine v_cond (!y2) (by kernel_rfl) (fun h1 => ?_) (fun h1 => ?_)
  · replace hs := bif_t h1 hs
    refine v_seq ?_
    refine vr_text ?_
    refine o_runs 2 [(2, .bool y1), (15, .bool y1)] (by kernel_rfl) ?_
    refine ov_nil ?_
    refine nrm_thenV ?_
    refine v_ret ?_
    refine ret_thenV ?_
    obtain rfl := Option.some.inj hs
    exact fin_ret (by kernel_rfl) (by kernel_rfl) (by kernel_rfl)
  · replace hs := bif_f h1 hs
    refine v_skip ?_
    refine nrm_thenV ?_
    refine v_seq ?_
    refine vr_text ?_
    refine o_runs 1 [(4, .nils)] (by kernel_rfl) ?_
    refine ov_nil ?_
    refine nrm_thenV ?_
    refine v_seq ?_
    refine v_seq ?_
    refine vr_text ?_
    refine o_runs 1 [(5, .int .i64 0)] (by kernel_rfl) ?_
    refine ov_nil ?_
    refine nrm_thenV ?_
    obtain ⟨z1, hs, hk1⟩ := bind_some hs
    refine v_join (S := (List (List UInt8))) (fun u => u = z1) (fun u => [(0, .vs 5 (List.map enc_greenbeltlaw01_Value l)), (3, .bool y1), (4, .sl 1 2000022 ((u).length) 0 ((u).length))]) (fun u => [(2000022, .row 9 1 0 (List.map EV.encS u)), (900000000, gl0 ob0), (900000001, gl1 ob1 u1), (900000002, gl2 ob2 u2)]) ?_ (fun v1 hz => ?_)
    · refine v_block ?_
      refine v_fuel (S := Int × (List (List UInt8))) (fun u => [(0, .vs 5 (List.map enc_greenbeltlaw01_Value l)), (3, .bool y1), (4, .sl 1 2000022 ((u.2).length) 0 ((u.2).length)), (5, .int .i64 u.1)]) (fun u => [(2000022, .row 9 1 0 (List.map EV.encS u.2)), (900000000, gl0 ob0), (900000001, gl1 ob1 u1), (900000002, gl2 ob2 u2)]) (s_greenbeltlaw01_WireNests_L1 l) (fun _ => rfl) KK (0, []) hs (Cut.trans (cut_nilRow 4 2000022 9 1 rfl (by kernel_rfl) (by kernel_rfl)) (cut_of [0, 3, 4, 5] [2000022, 900000000, 900000001, 900000002] (by kernel_rfl) (by kernel_rfl) (by kernel_rfl))) (fun K1 q1 hs => ?_)
      rw [s_greenbeltlaw01_WireNests_L1] at hs
      show WpV cK0 Tryd.prog none 86 _ _ [(0, .vs 5 (List.map enc_greenbeltlaw01_Value l)), (3, .bool y1), (4, .sl 1 2000022 ((q1.2).length) 0 ((q1.2).length)), (5, .int .i64 q1.1)] [(2000022, .row 9 1 0 (List.map EV.encS q1.2)), (900000000, gl0 ob0), (900000001, gl1 ob1 u1), (900000002, gl2 ob2 u2)] []
      refine v_seq ?_
      refine v_seq ?_
      refine vr_text ?_
      refine o_runs 2 [(17, .vs 5 (List.map enc_greenbeltlaw01_Value l)), (16, .int .i64 q1.1)] (by kernel_rfl) ?_
      refine o_pure (v := .int .i64 (List.length l : Int)) (by kernel_rfl) (by kernel_rfl) (loc_lenVs (sz := 5) (els := (List.map enc_greenbeltlaw01_Value l)) (by kernel_rfl) (by kernel_rfl) (List.length_map ..)) ?_
      refine o_runs 1 [(19, .bool (decide (q1.1 < (List.length l : Int))))] (by kernel_rfl) ?_
      refine ov_nil ?_
      refine nrm_thenV ?_
      refine v_cond (decide (q1.1 < (List.length l : Int))) (by kernel_rfl) (fun h2 => ?_) (fun h2 => ?_)
      · replace hs := bif_t h2 hs
        refine v_skip ?_
        refine nrm_thenV ?_
        refine v_seq ?_
        refine v_block ?_
        refine vr_text ?_
        refine o_runs 3 [(24, .int .i64 q1.1), (23, .vs 5 (List.map enc_greenbeltlaw01_Value l)), (22, .sl 1 2000022 ((q1.2).length) 0 ((q1.2).length))] (by kernel_rfl) ?_
        obtain ⟨x1, g1, hs⟩ := bind_some hs; obtain ⟨g1a, g1b, g1c⟩ := idx_some g1
        refine o_pure (v := .vp (enc_greenbeltlaw01_Value x1) 0) (by kernel_rfl) (by kernel_rfl) (loc_indexVs (e := 25) (sz := 5) (k := .i64) (els := (List.map enc_greenbeltlaw01_Value l)) (cs := (enc_greenbeltlaw01_Value x1)) (by kernel_rfl) (by kernel_rfl) (by kernel_rfl) g1a (by rw [g1c]; exact map_get _ (by omega))) ?_
        refine o_runs 1 [(26, .agg (enc_greenbeltlaw01_Value x1))] (by kernel_rfl) ?_
        obtain ⟨y3, c3, hs⟩ := bind_some hs
        refine o_loc (F := [(900000000, gl0 ob0), (900000001, gl1 ob1 u1), (900000002, gl2 ob2 u2)]) (F' := [(900000000, gl0 ob0), (900000001, gl1 ob1 u1), (900000002, gl2 ob2 u2)]) (v := .str y3) [900000000, 900000001, 900000002] (by kernel_rfl) (by kernel_rfl) rfl (by kernel_rfl) (loc_gcallL (vs := [.agg (enc_greenbeltlaw01_Value x1)]) (G := [(900000000, gl0 ob0), (900000001, gl1 ob1 u1), (900000002, gl2 ob2 u2)]) (R := []) (callV_func hbv30 (by kernel_rfl)) (w_greenbeltlaw01_write (ob0 := ob0) (ob1 := ob1) (ob2 := ob2) (u1 := u1) (u2 := u2) x1 _ c3) (by kernel_rfl) (.cons (.same _) (.nil)) (by kernel_rfl) (by kernel_rfl) (by kernel_rfl)) (by kernel_rfl) ?_
        refine o_runh 1 [(28, .sl 1 28 1 0 1)] [(28, .row 9 1 0 (List.map EV.encS [y3])), (900000000, gl0 ob0), (900000001, gl1 ob1 u1), (900000002, gl2 ob2 u2), (2000022, .row 9 1 0 (List.map EV.encS q1.2))] (by kernel_rfl) ?_
        obtain ⟨_, g2, hs⟩ := bind_some hs; replace g2 := grd_some g2
        refine o_loc (F := [(2000022, .row 9 1 0 (List.map EV.encS q1.2)), (28, .row 9 1 0 (List.map EV.encS [y3]))]) (F' := [(2000022, .row 9 1 0 (List.map EV.encS (q1.2 ++ [y3]))), (28, .row 9 1 0 (List.map EV.encS [y3]))]) (v := .sl 1 2000022 (((q1.2 ++ [y3])).length) 0 (((q1.2 ++ [y3])).length)) [2000022, 28] (by kernel_rfl) (by kernel_rfl) rfl (by kernel_rfl) (loc_appendT (e := 9) (sz := 1) (bytes := 16) (L := (q1.2).length) (els := (List.map EV.encS q1.2)) (ys := (List.map EV.encS [y3])) (by kernel_rfl) (by kernel_rfl) (by first | exact List.length_map .. | rfl) (.sl (t := 9) (fz := 0) (ys := (List.map EV.encS [y3])) (by kernel_rfl) (by kernel_rfl)) (map_ones EV.encS (fun _ => rfl) _) (map_lens EV.encS (fun _ => rfl) _) (by kernel_rfl) (by first | exact (List.map_append ..).symm | rfl | simp only [List.map_nil, List.nil_append]) (List.length_map ..) g2 (by omega)) (by kernel_rfl) ?_
        refine o_runs 1 [(4, .sl 1 2000022 (((q1.2 ++ [y3])).length) 0 (((q1.2 ++ [y3])).length))] (by kernel_rfl) ?_
        refine ov_nil ?_
        refine nrm_blkV ?_
        refine nrm_thenV ?_
        refine vr_text ?_
        refine o_runs 3 [(5, .int .i64 (w64 (q1.1 + 1))), (21, .int .i64 (w64 (q1.1 + 1))), (20, .int .i64 q1.1)] (by kernel_rfl) ?_
        refine ov_nil ?_
        refine nrm_fuel ((w64 (q1.1 + 1)), (q1.2 ++ [y3])) hs ?_
        exact cut_of [0, 3, 4, 5] [2000022, 900000000, 900000001, 900000002] (by kernel_rfl) (by kernel_rfl) (by kernel_rfl)
      · replace hs := bif_f h2 hs
        refine v_exit ?_
        refine exit_thenV ?_
        refine exit_fuel ?_
        refine exit_blkV ?_
        obtain rfl := Option.some.inj hs
        refine nrm_join q1.2 rfl ?_
        exact cut_of [0, 3, 4] [2000022, 900000000, 900000001, 900000002] (by kernel_rfl) (by kernel_rfl) (by kernel_rfl)
    · subst hz; clear hs; have hs := hk1; clear hk1
      refine nrm_thenV ?_
      refine v_seq ?_
      refine vr_text ?_
      refine o_runs 1 [(30, .sl 1 2000022 ((v1).length) 0 ((v1).length))] (by kernel_rfl) ?_
      obtain ⟨y4, c4, hs⟩ := bind_some hs
      refine o_loc (F := [(900000000, gl0 ob0), (900000001, gl1 ob1 u1), (900000002, gl2 ob2 u2), (2000022, .row 9 1 0 (List.map EV.encS v1))]) (F' := [(900000000, gl0 ob0), (900000001, gl1 ob1 u1), (900000002, gl2 ob2 u2), (2000022, .row 9 1 0 (List.map EV.encS v1))]) (v := .str y4) [900000000, 900000001, 900000002, 2000022] (by kernel_rfl) (by kernel_rfl) rfl (by kernel_rfl) (loc_gcallL (vs := [.sl 1 2000022 ((v1).length) 0 ((v1).length)]) (G := [(900000000, gl0 ob0), (900000001, gl1 ob1 u1), (900000002, gl2 ob2 u2)]) (R := [(2000022, .row 9 1 0 (List.map EV.encS v1))]) (callV_func hbv19 (by kernel_rfl)) (w_wire_Texts (ob0 := ob0) (ob1 := ob1) (ob2 := ob2) (u1 := u1) (u2 := u2) v1 _ c4) (by kernel_rfl) (.cons (.row (t := 9) (fz := 0) (by kernel_rfl) (by first | (simp only [List.length_map, List.length_set]; done) | rfl)) (.nil)) (by kernel_rfl) (by kernel_rfl) (by kernel_rfl)) (by kernel_rfl) ?_
      obtain ⟨y5, c5, hs⟩ := bind_some hs
      refine o_loc (F := [(900000000, gl0 ob0), (900000001, gl1 ob1 u1), (900000002, gl2 ob2 u2)]) (F' := [(900000000, gl0 ob0), (900000001, gl1 ob1 u1), (900000002, gl2 ob2 u2)]) (v := .str y5) [900000000, 900000001, 900000002] (by kernel_rfl) (by kernel_rfl) rfl (by kernel_rfl) (loc_gcallL (vs := [.str y4]) (G := [(900000000, gl0 ob0), (900000001, gl1 ob1 u1), (900000002, gl2 ob2 u2)]) (R := []) (callV_func hbv15 (by kernel_rfl)) (w_wire_Text (ob0 := ob0) (ob1 := ob1) (ob2 := ob2) (u1 := u1) (u2 := u2) y4 _ c5) (by kernel_rfl) (.cons (.same _) (.nil)) (by kernel_rfl) (by kernel_rfl) (by kernel_rfl)) (by kernel_rfl) ?_
      obtain ⟨y6, c6, hs⟩ := bind_some hs
      refine o_loc (F := []) (F' := [(3003300, .box 54 [.str y6, .bool false])]) (v := .ptr 3003300 0 0) [] (by kernel_rfl) (by kernel_rfl) rfl (by kernel_rfl) (loc_g (R := []) [.str y5] [(5, 3003300)] (callV_func hbv21 (by kernel_rfl)) (w_wire_Open y5 _ c6) (.cons (.same _) (.nil)) (by kernel_rfl) (by kernel_rfl) (by kernel_rfl) (by kernel_rfl) (by kernel_rfl) (by kernel_rfl) (by kernel_rfl) (by kernel_rfl)) (by kernel_rfl) ?_
      refine o_runs 1 [(6, .ptr 3003300 0 0)] (by kernel_rfl) ?_
      refine ov_nil ?_
      refine nrm_thenV ?_
      refine v_seq ?_
      refine v_seq ?_
      refine vr_text ?_
      refine o_runs 2 [(35, .bool false), (34, .ptr 3003300 0 0)] (by kernel_rfl) ?_
      refine ov_nil ?_
      refine nrm_thenV ?_
      refine v_cond_f (by kernel_rfl) ?_
      refine v_skip ?_
      refine nrm_thenV ?_
      refine v_seq ?_
      refine vr_text ?_
      refine o_runs 1 [(36, .ptr 3003300 0 0)] (by kernel_rfl) ?_
      obtain ⟨y7, c7, hs⟩ := bind_some hs
      refine o_loc (F := [(3003300, .box 54 [.str y6, .bool false]), (900000000, gl0 ob0), (900000001, gl1 ob1 u1), (900000002, gl2 ob2 u2)]) (F' := [(3003300, .box 54 [.str y7.2.1, .bool y7.2.2]), (900000000, gl0 ob0), (900000001, gl1 ob1 u1), (900000002, gl2 ob2 u2)]) (v := .str y7.1) [3003300, 900000000, 900000001, 900000002] (by kernel_rfl) (by kernel_rfl) rfl (by kernel_rfl) (loc_g (R := []) [.ptr 3003300 0 0] [(1000000, 3003300), (900000000, 900000000), (900000001, 900000001), (900000002, 900000002)] (callV_func hbv25 (by kernel_rfl)) (w_wire_Reader_Text (ob0 := ob0) (ob1 := ob1) (ob2 := ob2) (u1 := u1) (u2 := u2) y6 false _ c7) (.cons (.same _) (.nil)) (by kernel_rfl) (by kernel_rfl) (by kernel_rfl) (by kernel_rfl) (by kernel_rfl) (by kernel_rfl) (by kernel_rfl) (by kernel_rfl)) (by kernel_rfl) ?_
      obtain ⟨y8, c8, hs⟩ := bind_some hs
      refine o_loc (F := []) (F' := [(3003800, .box 54 [.str y8, .bool false])]) (v := .ptr 3003800 0 0) [] (by kernel_rfl) (by kernel_rfl) rfl (by kernel_rfl) (loc_g (R := []) [.str y7.1] [(5, 3003800)] (callV_func hbv21 (by kernel_rfl)) (w_wire_Open y7.1 _ c8) (.cons (.same _) (.nil)) (by kernel_rfl) (by kernel_rfl) (by kernel_rfl) (by kernel_rfl) (by kernel_rfl) (by kernel_rfl) (by kernel_rfl) (by kernel_rfl)) (by kernel_rfl) ?_
      refine o_runs 1 [(7, .ptr 3003800 0 0)] (by kernel_rfl) ?_
      refine ov_nil ?_
      refine nrm_thenV ?_
      refine v_seq ?_
      refine v_seq ?_
      refine vr_text ?_
      refine o_runs 4 [(42, .ptr 3003300 0 0), (41, .bool false), (40, .bool false), (39, .ptr 3003800 0 0)] (by kernel_rfl) ?_
      obtain ⟨y9, c9, hs⟩ := bind_some hs
      refine o_loc (F := [(3003300, .box 54 [.str y7.2.1, .bool y7.2.2])]) (F' := [(3003300, .box 54 [.str y9.2.1, .bool y9.2.2])]) (v := .bool y9.1) [3003300] (by kernel_rfl) (by kernel_rfl) rfl (by kernel_rfl) (loc_g (R := []) [.ptr 3003300 0 0] [(1000000, 3003300)] (callV_func hbv29 (by kernel_rfl)) (w_wire_Reader_Done y7.2.1 y7.2.2 _ c9) (.cons (.same _) (.nil)) (by kernel_rfl) (by kernel_rfl) (by kernel_rfl) (by kernel_rfl) (by kernel_rfl) (by kernel_rfl) (by kernel_rfl) (by kernel_rfl)) (by kernel_rfl) ?_
      refine o_runs 2 [(45, .bool (!y9.1)), (44, .bool (!y9.1))] (by kernel_rfl) ?_
      refine ov_nil ?_
      refine nrm_thenV ?_
      refine v_cond (!y9.1) (by kernel_rfl) (fun h3 => ?_) (fun h3 => ?_)
      · replace hs := bif_t h3 hs
        refine v_seq ?_
        refine vr_text ?_
        refine o_runs 1 [(2, .bool false)] (by kernel_rfl) ?_
        refine ov_nil ?_
        refine nrm_thenV ?_
        refine v_ret ?_
        refine ret_thenV ?_
        obtain rfl := Option.some.inj hs
        exact fin_ret (by kernel_rfl) (by kernel_rfl) (by kernel_rfl)
      · replace hs := bif_f h3 hs
        refine v_skip ?_
        refine nrm_thenV ?_
        refine v_seq ?_
        refine vr_text ?_
        refine o_runs 1 [(46, .ptr 3003800 0 0)] (by kernel_rfl) ?_
        obtain ⟨y10, c10, hs⟩ := bind_some hs
        refine o_loc (F := [(3003800, .box 54 [.str y8, .bool false]), (900000000, gl0 ob0), (900000001, gl1 ob1 u1), (900000002, gl2 ob2 u2)]) (F' := [(3003800, .box 54 [.str y10.2.1, .bool y10.2.2]), (900000000, gl0 ob0), (900000001, gl1 ob1 u1), (900000002, gl2 ob2 u2)]) (v := .vs 1 (List.map EV.encS y10.1)) [3003800, 900000000, 900000001, 900000002] (by kernel_rfl) (by kernel_rfl) rfl (by kernel_rfl) (loc_g (R := []) [.ptr 3003800 0 0] [(1000000, 3003800), (900000000, 900000000), (900000001, 900000001), (900000002, 900000002)] (callV_func hbv27 (by kernel_rfl)) (w_wire_Reader_Texts (ob0 := ob0) (ob1 := ob1) (ob2 := ob2) (u1 := u1) (u2 := u2) y8 false _ c10) (.cons (.same _) (.nil)) (by kernel_rfl) (by kernel_rfl) (by kernel_rfl) (by kernel_rfl) (by kernel_rfl) (by kernel_rfl) (by kernel_rfl) (by kernel_rfl)) (by kernel_rfl) ?_
        refine o_runs 1 [(8, .vs 1 (List.map EV.encS y10.1))] (by kernel_rfl) ?_
        refine ov_nil ?_
        refine nrm_thenV ?_
        refine v_seq ?_
        refine v_seq ?_
        obtain ⟨z2, hs, hk2⟩ := bind_some hs
        refine v_join (S := Bool) (fun u => u = z2) (fun u => [(0, .vs 5 (List.map enc_greenbeltlaw01_Value l)), (3, .bool y1), (8, .vs 1 (List.map EV.encS y10.1)), (57, .bool u)]) (fun u => [(900000000, gl0 ob0), (900000001, gl1 ob1 u1), (900000002, gl2 ob2 u2)]) ?_ (fun v2 hz => ?_)
        · refine vr_text ?_
          refine o_runs 1 [(48, .vs 1 (List.map EV.encS y10.1))] (by kernel_rfl) ?_
          refine o_pure (v := .int .i64 (List.length y10.1 : Int)) (by kernel_rfl) (by kernel_rfl) (loc_lenVs (sz := 1) (els := (List.map EV.encS y10.1)) (by kernel_rfl) (by kernel_rfl) (List.length_map ..)) ?_
          refine o_runs 1 [(50, .vs 5 (List.map enc_greenbeltlaw01_Value l))] (by kernel_rfl) ?_
          refine o_pure (v := .int .i64 (List.length l : Int)) (by kernel_rfl) (by kernel_rfl) (loc_lenVs (sz := 5) (els := (List.map enc_greenbeltlaw01_Value l)) (by kernel_rfl) (by kernel_rfl) (List.length_map ..)) ?_
          refine o_runs 2 [(53, .bool (!(decide ((List.length y10.1 : Int) = (List.length l : Int))))), (52, .bool (!(decide ((List.length y10.1 : Int) = (List.length l : Int)))))] (by kernel_rfl) ?_
          cases h4 : ((!(decide ((List.length y10.1 : Int) = (List.length l : Int)))))
          · replace hs := bif_f h4 hs
            refine o_runs 1 [(54, .ptr 3003800 0 0)] (by kernel_rfl) ?_
            obtain ⟨y11, c11, hs⟩ := bind_some hs
            refine o_loc (F := [(3003800, .box 54 [.str y10.2.1, .bool y10.2.2])]) (F' := [(3003800, .box 54 [.str y11.2.1, .bool y11.2.2])]) (v := .bool y11.1) [3003800] (by kernel_rfl) (by kernel_rfl) rfl (by kernel_rfl) (loc_g (R := []) [.ptr 3003800 0 0] [(1000000, 3003800)] (callV_func hbv29 (by kernel_rfl)) (w_wire_Reader_Done y10.2.1 y10.2.2 _ c11) (.cons (.same _) (.nil)) (by kernel_rfl) (by kernel_rfl) (by kernel_rfl) (by kernel_rfl) (by kernel_rfl) (by kernel_rfl) (by kernel_rfl) (by kernel_rfl)) (by kernel_rfl) ?_
            refine o_runs 2 [(57, .bool (!y11.1)), (56, .bool (!y11.1))] (by kernel_rfl) ?_
            refine ov_nil ?_
            obtain rfl := Option.some.inj hs
            refine nrm_join (!y11.1) rfl ?_
            exact cut_of [0, 3, 8, 57] [900000000, 900000001, 900000002] (by kernel_rfl) (by kernel_rfl) (by kernel_rfl)
          · replace hs := bif_t h4 hs
            refine o_runs 4 [(57, .bool true), (56, .no), (55, .no), (54, .no)] (by kernel_rfl) ?_
            refine ov_nil ?_
            obtain rfl := Option.some.inj hs
            refine nrm_join true rfl ?_
            exact cut_of [0, 3, 8, 57] [900000000, 900000001, 900000002] (by kernel_rfl) (by kernel_rfl) (by kernel_rfl)
        · subst hz; clear hs; have hs := hk2; clear hk2
          refine nrm_thenV ?_
          refine v_cond v2 (by kernel_rfl) (fun h5 => ?_) (fun h5 => ?_)
          · replace hs := bif_t h5 hs
            refine v_seq ?_
            refine vr_text ?_
            refine o_runs 1 [(2, .bool false)] (by kernel_rfl) ?_
            refine ov_nil ?_
            refine nrm_thenV ?_
            refine v_ret ?_
            refine ret_thenV ?_
            obtain rfl := Option.some.inj hs
            exact fin_ret (by kernel_rfl) (by kernel_rfl) (by kernel_rfl)
          · replace hs := bif_f h5 hs
            refine v_skip ?_
            refine nrm_thenV ?_
            refine v_seq ?_
            refine v_seq ?_
            refine vr_text ?_
            refine o_runs 1 [(9, .int .i64 0)] (by kernel_rfl) ?_
            refine ov_nil ?_
            refine nrm_thenV ?_
            obtain ⟨z3, hs, hk3⟩ := bind_some hs
            refine v_join (S := Unit) (fun u => z3 = .inr u) (fun u => [(3, .bool y1)]) (fun u => [(900000000, gl0 ob0), (900000001, gl1 ob1 u1), (900000002, gl2 ob2 u2)]) ?_ (fun v3 hz => ?_)
            · refine v_block ?_
              refine v_fuel (S := Int) (fun u => [(0, .vs 5 (List.map enc_greenbeltlaw01_Value l)), (3, .bool y1), (8, .vs 1 (List.map EV.encS y10.1)), (9, .int .i64 u)]) (fun u => [(900000000, gl0 ob0), (900000001, gl1 ob1 u1), (900000002, gl2 ob2 u2)]) (s_greenbeltlaw01_WireNests_L2 l y10) (fun _ => rfl) KK 0 hs (cut_of [0, 3, 8, 9] [900000000, 900000001, 900000002] (by kernel_rfl) (by kernel_rfl) (by kernel_rfl)) (fun K2 q2 hs => ?_)
              rw [s_greenbeltlaw01_WireNests_L2] at hs
              show WpV cK0 Tryd.prog none 86 _ _ [(0, .vs 5 (List.map enc_greenbeltlaw01_Value l)), (3, .bool y1), (8, .vs 1 (List.map EV.encS y10.1)), (9, .int .i64 q2)] [(900000000, gl0 ob0), (900000001, gl1 ob1 u1), (900000002, gl2 ob2 u2)] []
              refine v_seq ?_
              refine v_seq ?_
              refine vr_text ?_
              refine o_runs 2 [(59, .vs 5 (List.map enc_greenbeltlaw01_Value l)), (58, .int .i64 q2)] (by kernel_rfl) ?_
              refine o_pure (v := .int .i64 (List.length l : Int)) (by kernel_rfl) (by kernel_rfl) (loc_lenVs (sz := 5) (els := (List.map enc_greenbeltlaw01_Value l)) (by kernel_rfl) (by kernel_rfl) (List.length_map ..)) ?_
              refine o_runs 1 [(61, .bool (decide (q2 < (List.length l : Int))))] (by kernel_rfl) ?_
              refine ov_nil ?_
              refine nrm_thenV ?_
              refine v_cond (decide (q2 < (List.length l : Int))) (by kernel_rfl) (fun h6 => ?_) (fun h6 => ?_)
              · replace hs := bif_t h6 hs
                refine v_skip ?_
                refine nrm_thenV ?_
                refine v_seq ?_
                refine v_block ?_
                refine v_seq ?_
                refine vr_text ?_
                refine o_runs 2 [(65, .int .i64 q2), (64, .vs 1 (List.map EV.encS y10.1))] (by kernel_rfl) ?_
                obtain ⟨x2, g3, hs⟩ := bind_some hs; obtain ⟨g3a, g3b, g3c⟩ := idx_some g3
                refine o_pure (v := .vp [.str x2] 0) (by kernel_rfl) (by kernel_rfl) (loc_indexVs (e := 9) (sz := 1) (k := .i64) (els := (List.map EV.encS y10.1)) (cs := (EV.encS x2)) (by kernel_rfl) (by kernel_rfl) (by kernel_rfl) g3a (by rw [g3c]; exact map_get _ (by omega))) ?_
                refine o_runs 1 [(67, .str x2)] (by kernel_rfl) ?_
                obtain ⟨y12, c12, hs⟩ := bind_some hs
                refine o_loc (F := []) (F' := [(3006800, .box 54 [.str y12, .bool false])]) (v := .ptr 3006800 0 0) [] (by kernel_rfl) (by kernel_rfl) rfl (by kernel_rfl) (loc_g (R := []) [.str x2] [(5, 3006800)] (callV_func hbv21 (by kernel_rfl)) (w_wire_Open x2 _ c12) (.cons (.same _) (.nil)) (by kernel_rfl) (by kernel_rfl) (by kernel_rfl) (by kernel_rfl) (by kernel_rfl) (by kernel_rfl) (by kernel_rfl) (by kernel_rfl)) (by kernel_rfl) ?_
                refine o_runs 1 [(10, .ptr 3006800 0 0)] (by kernel_rfl) ?_
                refine ov_nil ?_
                refine nrm_thenV ?_
                refine v_seq ?_
                obtain ⟨z4, hs, hk4⟩ := bind_some hs
                refine v_join (S := Bool) (fun u => u = z4) (fun u => [(0, .vs 5 (List.map enc_greenbeltlaw01_Value l)), (3, .bool y1), (8, .vs 1 (List.map EV.encS y10.1)), (9, .int .i64 q2), (84, .bool u)]) (fun u => [(900000000, gl0 ob0), (900000001, gl1 ob1 u1), (900000002, gl2 ob2 u2)]) ?_ (fun v4 hz => ?_)
                · refine vr_text ?_
                  refine o_runs 6 [(74, .int .i64 q2), (73, .vs 5 (List.map enc_greenbeltlaw01_Value l)), (72, .ptr 3006800 0 0), (71, .bool false), (70, .bool false), (69, .ptr 3006800 0 0)] (by kernel_rfl) ?_
                  obtain ⟨x3, g4, hs⟩ := bind_some hs; obtain ⟨g4a, g4b, g4c⟩ := idx_some g4
                  refine o_pure (v := .vp (enc_greenbeltlaw01_Value x3) 0) (by kernel_rfl) (by kernel_rfl) (loc_indexVs (e := 25) (sz := 5) (k := .i64) (els := (List.map enc_greenbeltlaw01_Value l)) (cs := (enc_greenbeltlaw01_Value x3)) (by kernel_rfl) (by kernel_rfl) (by kernel_rfl) g4a (by rw [g4c]; exact map_get _ (by omega))) ?_
                  refine o_runs 1 [(76, .agg (enc_greenbeltlaw01_Value x3))] (by kernel_rfl) ?_
                  obtain ⟨y13, c13, hs⟩ := bind_some hs
                  refine o_loc (F := [(3006800, .box 54 [.str y12, .bool false]), (900000000, gl0 ob0), (900000001, gl1 ob1 u1), (900000002, gl2 ob2 u2)]) (F' := [(3006800, .box 54 [.str y13.2.1, .bool y13.2.2]), (900000000, gl0 ob0), (900000001, gl1 ob1 u1), (900000002, gl2 ob2 u2)]) (v := .bool y13.1) [3006800, 900000000, 900000001, 900000002] (by kernel_rfl) (by kernel_rfl) rfl (by kernel_rfl) (loc_g (R := []) [.ptr 3006800 0 0, .agg (enc_greenbeltlaw01_Value x3)] [(1000000, 3006800), (900000000, 900000000), (900000001, 900000001), (900000002, 900000002)] (callV_func hbv31 (by kernel_rfl)) (w_greenbeltlaw01_equal (ob0 := ob0) (ob1 := ob1) (ob2 := ob2) (u1 := u1) (u2 := u2) y12 false x3 _ c13) (.cons (.same _) (.cons (.same _) (.nil))) (by kernel_rfl) (by kernel_rfl) (by kernel_rfl) (by kernel_rfl) (by kernel_rfl) (by kernel_rfl) (by kernel_rfl) (by kernel_rfl)) (by kernel_rfl) ?_
                  refine o_runs 3 [(80, .bool (!y13.1)), (79, .bool (!y13.1)), (78, .bool (!y13.1))] (by kernel_rfl) ?_
                  cases h7 : ((!y13.1))
                  · replace hs := bif_f h7 hs
                    refine o_runs 1 [(81, .ptr 3006800 0 0)] (by kernel_rfl) ?_
                    obtain ⟨y14, c14, hs⟩ := bind_some hs
                    refine o_loc (F := [(3006800, .box 54 [.str y13.2.1, .bool y13.2.2])]) (F' := [(3006800, .box 54 [.str y14.2.1, .bool y14.2.2])]) (v := .bool y14.1) [3006800] (by kernel_rfl) (by kernel_rfl) rfl (by kernel_rfl) (loc_g (R := []) [.ptr 3006800 0 0] [(1000000, 3006800)] (callV_func hbv29 (by kernel_rfl)) (w_wire_Reader_Done y13.2.1 y13.2.2 _ c14) (.cons (.same _) (.nil)) (by kernel_rfl) (by kernel_rfl) (by kernel_rfl) (by kernel_rfl) (by kernel_rfl) (by kernel_rfl) (by kernel_rfl) (by kernel_rfl)) (by kernel_rfl) ?_
                    refine o_runs 2 [(84, .bool (!y14.1)), (83, .bool (!y14.1))] (by kernel_rfl) ?_
                    refine ov_nil ?_
                    obtain rfl := Option.some.inj hs
                    refine nrm_join (!y14.1) rfl ?_
                    exact cut_of [0, 3, 8, 9, 84] [900000000, 900000001, 900000002] (by kernel_rfl) (by kernel_rfl) (by kernel_rfl)
                  · replace hs := bif_t h7 hs
                    refine o_runs 4 [(84, .bool true), (83, .no), (82, .no), (81, .no)] (by kernel_rfl) ?_
                    refine ov_nil ?_
                    obtain rfl := Option.some.inj hs
                    refine nrm_join true rfl ?_
                    exact cut_of [0, 3, 8, 9, 84] [900000000, 900000001, 900000002] (by kernel_rfl) (by kernel_rfl) (by kernel_rfl)
                · subst hz; clear hs; have hs := hk4; clear hk4
                  refine nrm_thenV ?_
                  refine v_cond v4 (by kernel_rfl) (fun h8 => ?_) (fun h8 => ?_)
                  · replace hs := bif_t h8 hs
                    refine v_seq ?_
                    refine vr_text ?_
                    refine o_runs 1 [(2, .bool false)] (by kernel_rfl) ?_
                    refine ov_nil ?_
                    refine nrm_thenV ?_
                    refine v_ret ?_
                    refine ret_blkV ?_
                    refine ret_thenV ?_
                    refine ret_fuel ?_
                    refine ret_blkV ?_
                    refine ret_join ?_
                    refine ret_thenV ?_
                    obtain rfl := Option.some.inj hs
                    replace hs := hk3
                    obtain rfl := Option.some.inj hs
                    exact fin_ret (by kernel_rfl) (by kernel_rfl) (by kernel_rfl)
                  · replace hs := bif_f h8 hs
                    refine v_skip ?_
                    refine nrm_blkV ?_
                    refine nrm_thenV ?_
                    refine vr_text ?_
                    refine o_runs 3 [(9, .int .i64 (w64 (q2 + 1))), (63, .int .i64 (w64 (q2 + 1))), (62, .int .i64 q2)] (by kernel_rfl) ?_
                    refine ov_nil ?_
                    refine nrm_fuel (w64 (q2 + 1)) hs ?_
                    exact cut_of [0, 3, 8, 9] [900000000, 900000001, 900000002] (by kernel_rfl) (by kernel_rfl) (by kernel_rfl)
              · replace hs := bif_f h6 hs
                refine v_exit ?_
                refine exit_thenV ?_
                refine exit_fuel ?_
                refine exit_blkV ?_
                obtain rfl := Option.some.inj hs
                refine nrm_join () rfl ?_
                exact cut_of [3] [900000000, 900000001, 900000002] (by kernel_rfl) (by kernel_rfl) (by kernel_rfl)
            · subst hz; clear hs; have hs := hk3; clear hk3
              refine nrm_thenV ?_
              refine v_seq ?_
              refine vr_text ?_
              refine o_runs 2 [(2, .bool y1), (85, .bool y1)] (by kernel_rfl) ?_
              refine ov_nil ?_
              refine nrm_thenV ?_
              refine v_ret ?_
              obtain rfl := Option.some.inj hs
              exact fin_ret (by kernel_rfl) (by kernel_rfl) (by kernel_rfl)
def s_greenbeltref01_Open (s : (List UInt8)) : Option (List UInt8) :=
  some s
theorem w_greenbeltref01_Open (s : (List UInt8)) (r : (List UInt8)) (hs : s_greenbeltref01_Open s = some r) : FnA Tryd.prog 32 [.str s] [] (.ptr 5 0 0) [(5, .box 61 [.str r, .bool false])] := by
  refine fnA_of_wp (N := 6) Tryd.func32 rfl rfl rfl fun cK0 => ?_
  unfold s_greenbeltref01_Open at hs
  refine v_same (ρ' := [(0, .str s)]) rfl rfl ?_
  refine v_seq ?_
  refine vr_text ?_
  refine o_runs 1 [(2, .nilp)] (by kernel_rfl) ?_
  refine ov_nil ?_
  refine nrm_thenV ?_
  refine v_seq ?_
  refine vr_text ?_
  refine o_runh 4 [(2, .ptr 5 0 0), (5, .ptr 5 0 0), (4, .agg [.str s, .bool false]), (3, .str s)] [(5, .box 61 [.str s, .bool false])] (by kernel_rfl) ?_
  refine ov_nil ?_
  refine nrm_thenV ?_
  refine v_ret ?_
  obtain rfl := Option.some.inj hs
  exact fin_ret (by kernel_rfl) (by kernel_rfl) (by kernel_rfl)
def s_greenbeltref01_Reader_fail (r_Rest : (List UInt8)) (r_Bad : Bool) : Option Unit :=
  some ()
theorem w_greenbeltref01_Reader_fail (r_Rest : (List UInt8)) (r_Bad : Bool) (r : Unit) (hs : s_greenbeltref01_Reader_fail r_Rest r_Bad = some r) : FnA Tryd.prog 56 [.ptr 1000000 0 0] [(1000000, .box 61 [.str r_Rest, .bool r_Bad])] (.int .i64 0) [(1000000, .box 61 [.str [], .bool true])] := by
  refine fnA_of_wp (N := 9) Tryd.func56 rfl rfl rfl fun cK0 => ?_
  unfold s_greenbeltref01_Reader_fail at hs
  refine v_same (ρ' := [(0, .ptr 1000000 0 0)]) rfl rfl ?_
  refine v_seq ?_
  refine vr_text ?_
  refine o_runs 1 [(2, .int .i64 0)] (by kernel_rfl) ?_
  refine ov_nil ?_
  refine nrm_thenV ?_
  refine v_seq ?_
  refine vr_text ?_
  refine o_runh 4 [(5, .ptr 1000000 0 0), (4, .ptr 1000000 0 0), (3, .ptr 1000000 0 0)] [(1000000, .box 61 [.str [], .bool r_Bad])] (by kernel_rfl) ?_
  refine ov_nil ?_
  refine nrm_thenV ?_
  refine v_seq ?_
  refine vr_text ?_
  refine o_runh 4 [(8, .ptr 1000000 0 1), (7, .ptr 1000000 0 0), (6, .ptr 1000000 0 0)] [(1000000, .box 61 [.str [], .bool true])] (by kernel_rfl) ?_
  refine ov_nil ?_
  refine nrm_thenV ?_
  refine v_seq ?_
  refine vr_text ?_
  refine o_runs 1 [(2, .int .i64 0)] (by kernel_rfl) ?_
  refine ov_nil ?_
  refine nrm_thenV ?_
  refine v_ret ?_
  obtain rfl := Option.some.inj hs
  exact fin_ret (by kernel_rfl) (by kernel_rfl) (by kernel_rfl)
def s_greenbeltref01_Back_L1 (s : (List UInt8)) : Nat → (Int × Int) → Option ((Int × Bool) ⊕ Int)
  | 0, _ => none
  | K1 + 1, q1 => (bif (decide (q1.2 < (List.length s : Int))) then ((idx s q1.2).bind fun x2 => (bif (decide ((x2.toNat : Int) < 48)) then some true else (idx s q1.2).bind fun x3 => (bif (decide ((x3.toNat : Int) > 57)) then some true else some (decide (q1.2 > 20))))).bind fun v4 => (bif v4 then some (.inl (0, false)) else (idx s q1.2).bind fun x4 => (s_greenbeltref01_Back_L1 s) K1 ((w64 ((w64 (10 * q1.1)) - (w64 ((IntKind.u8.wrap ((x4.toNat : Int) - 48)))))), (w64 (q1.2 + 1)))) else some (.inr q1.1))
def s_greenbeltref01_Back (s : (List UInt8)) : Option (Int × Bool) :=
  ((bif (decide ((List.length s : Int) > 0)) then (idx s 0).bind fun x1 => some (decide ((x1.toNat : Int) = 45)) else some false)).bind fun v1 => ((bif v1 then some 1 else some 0)).bind fun v2 => ((s_greenbeltref01_Back_L1 s) KK (0, v2) : Option ((Int × Bool) ⊕ Int)).bind fun z3 => match z3 with
 | .inl r => some r
 | .inr v3 => ((bif (decide (v2 = 0)) then some (w64 (0 - v3)) else some v3)).bind fun v5 => (s_greenbeltref01_Int v5).bind fun y1 => (grd (List.length s + List.length ([59] : List UInt8) ≤ 9223372036854775807)).bind fun _ => some (v5, (decide (y1 = (s ++ ([59] : List UInt8)))))
theorem w_greenbeltref01_Back (s : (List UInt8)) (r : Int × Bool) (hs : s_greenbeltref01_Back s = some r) : FnA Tryd.prog 64 [.str s] [] (.tup [.int .i64 r.1, .bool r.2]) [] := by
  refine fnA_of_wp (N := 54) Tryd.func64 rfl rfl rfl fun cK0 => ?_
  unfold s_greenbeltref01_Back at hs
  refine v_same (ρ' := [(0, .str s)]) rfl rfl ?_
  refine v_seq ?_
  refine vr_text ?_
  refine o_runs 2 [(3, .bool false), (2, .int .i64 0)] (by kernel_rfl) ?_
  refine ov_nil ?_
  refine nrm_thenV ?_
  refine v_seq ?_
  refine vr_text ?_
  refine o_runs 1 [(4, .int .i64 0)] (by kernel_rfl) ?_
  refine ov_nil ?_
  refine nrm_thenV ?_
  refine v_seq ?_
  refine v_seq ?_
  obtain ⟨z1, hs, hk1⟩ := bind_some hs
  refine v_join (S := Bool) (fun u => u = z1) (fun u => [(0, .str s), (4, .int .i64 0), (14, .bool u)]) (fun u => []) ?_ (fun v1 hz => ?_)
  · refine vr_text ?_
    refine o_runs 4 [(10, .bool (decide ((List.length s : Int) > 0))), (9, .bool (decide ((List.length s : Int) > 0))), (8, .int .i64 (List.length s : Int)), (7, .str s)] (by kernel_rfl) ?_
    cases h1 : ((decide ((List.length s : Int) > 0)))
    · replace hs := bif_f h1 hs
      refine o_runs 4 [(14, .bool false), (13, .no), (12, .no), (11, .no)] (by kernel_rfl) ?_
      refine ov_nil ?_
      obtain rfl := Option.some.inj hs
      refine nrm_join false rfl ?_
      exact cut_of [0, 4, 14] [] (by kernel_rfl) (by kernel_rfl) (by kernel_rfl)
    · replace hs := bif_t h1 hs
      refine o_runs 1 [(11, .str s)] (by kernel_rfl) ?_
      obtain ⟨x1, g1, hs⟩ := bind_some hs; obtain ⟨g1a, g1b, g1c⟩ := idx_some g1
      refine o_pure (v := .int .u8 (x1.toNat : Int)) (by kernel_rfl) (by kernel_rfl) (by rw [g1c]; exact loc_indexStr (k := .i64) (i := 0) (l := s) (by kernel_rfl) (by kernel_rfl) (by kernel_rfl) g1a g1b) ?_
      refine o_runs 2 [(14, .bool (decide ((x1.toNat : Int) = 45))), (13, .bool (decide ((x1.toNat : Int) = 45)))] (by kernel_rfl) ?_
      refine ov_nil ?_
      obtain rfl := Option.some.inj hs
      refine nrm_join (decide ((x1.toNat : Int) = 45)) rfl ?_
      exact cut_of [0, 4, 14] [] (by kernel_rfl) (by kernel_rfl) (by kernel_rfl)
  · subst hz; clear hs; have hs := hk1; clear hk1
    refine nrm_thenV ?_
    obtain ⟨z2, hs, hk2⟩ := bind_some hs
    refine v_join (S := Int) (fun u => u = z2) (fun u => [(0, .str s), (4, .int .i64 u)]) (fun u => []) ?_ (fun v2 hz => ?_)
    · refine v_cond v1 (by kernel_rfl) (fun h2 => ?_) (fun h2 => ?_)
      · replace hs := bif_t h2 hs
        refine vr_text ?_
        refine o_runs 1 [(4, .int .i64 1)] (by kernel_rfl) ?_
        refine ov_nil ?_
        obtain rfl := Option.some.inj hs
        refine nrm_join 1 rfl ?_
        exact cut_of [0, 4] [] (by kernel_rfl) (by kernel_rfl) (by kernel_rfl)
      · replace hs := bif_f h2 hs
        refine v_skip ?_
        obtain rfl := Option.some.inj hs
        refine nrm_join 0 rfl ?_
        exact cut_of [0, 4] [] (by kernel_rfl) (by kernel_rfl) (by kernel_rfl)
    · subst hz; clear hs; have hs := hk2; clear hk2
      refine nrm_thenV ?_
      refine v_seq ?_
      refine vr_text ?_
      refine o_runs 1 [(5, .int .i64 0)] (by kernel_rfl) ?_
      refine ov_nil ?_
      refine nrm_thenV ?_
      refine v_seq ?_
      refine v_seq ?_
      refine vr_text ?_
      refine o_runs 2 [(6, .int .i64 v2), (15, .int .i64 v2)] (by kernel_rfl) ?_
      refine ov_nil ?_
      refine nrm_thenV ?_
      obtain ⟨z3, hs, hk3⟩ := bind_some hs
      refine v_join (S := Int) (fun u => z3 = .inr u) (fun u => [(0, .str s), (4, .int .i64 v2), (5, .int .i64 u)]) (fun u => []) ?_ (fun v3 hz => ?_)
      · refine v_block ?_
        refine v_fuel (S := Int × Int) (fun u => [(0, .str s), (4, .int .i64 v2), (5, .int .i64 u.1), (6, .int .i64 u.2)]) (fun u => []) (s_greenbeltref01_Back_L1 s) (fun _ => rfl) KK (0, v2) hs (cut_of [0, 4, 5, 6] [] (by kernel_rfl) (by kernel_rfl) (by kernel_rfl)) (fun K1 q1 hs => ?_)
        rw [s_greenbeltref01_Back_L1] at hs
        show WpV cK0 Tryd.prog none 54 _ _ [(0, .str s), (4, .int .i64 v2), (5, .int .i64 q1.1), (6, .int .i64 q1.2)] [] []
        refine v_seq ?_
        refine v_seq ?_
        refine vr_text ?_
        refine o_runs 4 [(19, .bool (decide (q1.2 < (List.length s : Int)))), (18, .int .i64 (List.length s : Int)), (17, .str s), (16, .int .i64 q1.2)] (by kernel_rfl) ?_
        refine ov_nil ?_
        refine nrm_thenV ?_
        refine v_cond (decide (q1.2 < (List.length s : Int))) (by kernel_rfl) (fun h3 => ?_) (fun h3 => ?_)
        · replace hs := bif_t h3 hs
          refine v_skip ?_
          refine nrm_thenV ?_
          refine v_seq ?_
          refine v_block ?_
          refine v_seq ?_
          refine v_seq ?_
          obtain ⟨z4, hs, hk4⟩ := bind_some hs
          refine v_join (S := Bool) (fun u => u = z4) (fun u => [(0, .str s), (4, .int .i64 v2), (5, .int .i64 q1.1), (6, .int .i64 q1.2), (35, .bool u)]) (fun u => []) ?_ (fun v4 hz => ?_)
          · refine vr_text ?_
            refine o_runs 2 [(23, .int .i64 q1.2), (22, .str s)] (by kernel_rfl) ?_
            obtain ⟨x2, g2, hs⟩ := bind_some hs; obtain ⟨g2a, g2b, g2c⟩ := idx_some g2
            refine o_pure (v := .int .u8 (x2.toNat : Int)) (by kernel_rfl) (by kernel_rfl) (by rw [g2c]; exact loc_indexStr (k := .i64) (i := q1.2) (l := s) (by kernel_rfl) (by kernel_rfl) (by kernel_rfl) g2a g2b) ?_
            refine o_runs 2 [(26, .bool (decide ((x2.toNat : Int) < 48))), (25, .bool (decide ((x2.toNat : Int) < 48)))] (by kernel_rfl) ?_
            cases h4 : ((decide ((x2.toNat : Int) < 48)))
            · replace hs := bif_f h4 hs
              refine o_runs 2 [(28, .int .i64 q1.2), (27, .str s)] (by kernel_rfl) ?_
              obtain ⟨x3, g3, hs⟩ := bind_some hs; obtain ⟨g3a, g3b, g3c⟩ := idx_some g3
              refine o_pure (v := .int .u8 (x3.toNat : Int)) (by kernel_rfl) (by kernel_rfl) (by rw [g3c]; exact loc_indexStr (k := .i64) (i := q1.2) (l := s) (by kernel_rfl) (by kernel_rfl) (by kernel_rfl) g3a g3b) ?_
              refine o_runs 3 [(32, .bool (decide ((x3.toNat : Int) > 57))), (31, .bool (decide ((x3.toNat : Int) > 57))), (30, .bool (decide ((x3.toNat : Int) > 57)))] (by kernel_rfl) ?_
              cases h5 : ((decide ((x3.toNat : Int) > 57)))
              · replace hs := bif_f h5 hs
                refine o_runs 3 [(35, .bool (decide (q1.2 > 20))), (34, .bool (decide (q1.2 > 20))), (33, .int .i64 q1.2)] (by kernel_rfl) ?_
                refine ov_nil ?_
                obtain rfl := Option.some.inj hs
                refine nrm_join (decide (q1.2 > 20)) rfl ?_
                exact cut_of [0, 4, 5, 6, 35] [] (by kernel_rfl) (by kernel_rfl) (by kernel_rfl)
              · replace hs := bif_t h5 hs
                refine o_runs 3 [(35, .bool true), (34, .no), (33, .no)] (by kernel_rfl) ?_
                refine ov_nil ?_
                obtain rfl := Option.some.inj hs
                refine nrm_join true rfl ?_
                exact cut_of [0, 4, 5, 6, 35] [] (by kernel_rfl) (by kernel_rfl) (by kernel_rfl)
            · replace hs := bif_t h4 hs
              refine o_runs 9 [(35, .bool true), (34, .no), (33, .no), (32, .bool true), (31, .bool true), (30, .no), (29, .no), (28, .no), (27, .no)] (by kernel_rfl) ?_
              refine ov_nil ?_
              obtain rfl := Option.some.inj hs
              refine nrm_join true rfl ?_
              exact cut_of [0, 4, 5, 6, 35] [] (by kernel_rfl) (by kernel_rfl) (by kernel_rfl)
          · subst hz; clear hs; have hs := hk4; clear hk4
            refine nrm_thenV ?_
            refine v_cond v4 (by kernel_rfl) (fun h6 => ?_) (fun h6 => ?_)
            · replace hs := bif_t h6 hs
              refine v_seq ?_
              refine vr_text ?_
              refine o_runs 2 [(3, .bool false), (2, .int .i64 0)] (by kernel_rfl) ?_
              refine ov_nil ?_
              refine nrm_thenV ?_
              refine v_ret ?_
              refine ret_thenV ?_
              refine ret_blkV ?_
              refine ret_thenV ?_
              refine ret_fuel ?_
              refine ret_blkV ?_
              refine ret_join ?_
              refine ret_thenV ?_
              obtain rfl := Option.some.inj hs
              replace hs := hk3
              obtain rfl := Option.some.inj hs
              exact fin_ret (by kernel_rfl) (by kernel_rfl) (by kernel_rfl)
            · replace hs := bif_f h6 hs
              refine v_skip ?_
              refine nrm_thenV ?_
              refine vr_text ?_
              refine o_runs 4 [(39, .int .i64 q1.2), (38, .str s), (37, .int .i64 (w64 (10 * q1.1))), (36, .int .i64 q1.1)] (by kernel_rfl) ?_
              obtain ⟨x4, g4, hs⟩ := bind_some hs; obtain ⟨g4a, g4b, g4c⟩ := idx_some g4
              refine o_pure (v := .int .u8 (x4.toNat : Int)) (by kernel_rfl) (by kernel_rfl) (by rw [g4c]; exact loc_indexStr (k := .i64) (i := q1.2) (l := s) (by kernel_rfl) (by kernel_rfl) (by kernel_rfl) g4a g4b) ?_
              refine o_runs 4 [(5, .int .i64 (w64 ((w64 (10 * q1.1)) - (w64 ((IntKind.u8.wrap ((x4.toNat : Int) - 48))))))), (43, .int .i64 (w64 ((w64 (10 * q1.1)) - (w64 ((IntKind.u8.wrap ((x4.toNat : Int) - 48))))))), (42, .int .i64 (w64 ((IntKind.u8.wrap ((x4.toNat : Int) - 48))))), (41, .int .u8 (IntKind.u8.wrap ((x4.toNat : Int) - 48)))] (by kernel_rfl) ?_
              refine ov_nil ?_
              refine nrm_blkV ?_
              refine nrm_thenV ?_
              refine vr_text ?_
              refine o_runs 3 [(6, .int .i64 (w64 (q1.2 + 1))), (21, .int .i64 (w64 (q1.2 + 1))), (20, .int .i64 q1.2)] (by kernel_rfl) ?_
              refine ov_nil ?_
              refine nrm_fuel ((w64 ((w64 (10 * q1.1)) - (w64 ((IntKind.u8.wrap ((x4.toNat : Int) - 48)))))), (w64 (q1.2 + 1))) hs ?_
              exact cut_of [0, 4, 5, 6] [] (by kernel_rfl) (by kernel_rfl) (by kernel_rfl)
        · replace hs := bif_f h3 hs
          refine v_exit ?_
          refine exit_thenV ?_
          refine exit_fuel ?_
          refine exit_blkV ?_
          obtain rfl := Option.some.inj hs
          refine nrm_join q1.1 rfl ?_
          exact cut_of [0, 4, 5] [] (by kernel_rfl) (by kernel_rfl) (by kernel_rfl)
      · subst hz; clear hs; have hs := hk3; clear hk3
        refine nrm_thenV ?_
        refine v_seq ?_
        refine v_seq ?_
        refine vr_text ?_
        refine o_runs 2 [(45, .bool (decide (v2 = 0))), (44, .int .i64 v2)] (by kernel_rfl) ?_
        refine ov_nil ?_
        refine nrm_thenV ?_
        obtain ⟨z5, hs, hk5⟩ := bind_some hs
        refine v_join (S := Int) (fun u => u = z5) (fun u => [(0, .str s), (5, .int .i64 u)]) (fun u => []) ?_ (fun v5 hz => ?_)
        · refine v_cond (decide (v2 = 0)) (by kernel_rfl) (fun h7 => ?_) (fun h7 => ?_)
          · replace hs := bif_t h7 hs
            refine vr_text ?_
            refine o_runs 3 [(5, .int .i64 (w64 (0 - v3))), (47, .int .i64 (w64 (0 - v3))), (46, .int .i64 v3)] (by kernel_rfl) ?_
            refine ov_nil ?_
            obtain rfl := Option.some.inj hs
            refine nrm_join (w64 (0 - v3)) rfl ?_
            exact cut_of [0, 5] [] (by kernel_rfl) (by kernel_rfl) (by kernel_rfl)
          · replace hs := bif_f h7 hs
            refine v_skip ?_
            obtain rfl := Option.some.inj hs
            refine nrm_join v3 rfl ?_
            exact cut_of [0, 5] [] (by kernel_rfl) (by kernel_rfl) (by kernel_rfl)
        · subst hz; clear hs; have hs := hk5; clear hk5
          refine nrm_thenV ?_
          refine v_seq ?_
          refine vr_text ?_
          refine o_runs 2 [(49, .int .i64 v5), (48, .int .i64 v5)] (by kernel_rfl) ?_
          obtain ⟨y1, c1, hs⟩ := bind_some hs
          refine o_pure (v := .str y1) (by kernel_rfl) (by kernel_rfl) (loc_gcall0 (callV_func hbv14 (by kernel_rfl)) (w_greenbeltref01_Int v5 _ c1) (by kernel_rfl)) ?_
          refine o_runs 1 [(51, .str s)] (by kernel_rfl) ?_
          obtain ⟨_, g5, hs⟩ := bind_some hs; replace g5 := grd_some g5
          refine o_pure (v := .str (s ++ ([59] : List UInt8))) (by kernel_rfl) (by kernel_rfl) (loc_concat (a := s) (b := ([59] : List UInt8)) (by kernel_rfl) (by kernel_rfl) g5) ?_
          refine o_runs 3 [(3, .bool (decide (y1 = (s ++ ([59] : List UInt8))))), (2, .int .i64 v5), (53, .bool (decide (y1 = (s ++ ([59] : List UInt8)))))] (by kernel_rfl) ?_
          refine ov_nil ?_
          refine nrm_thenV ?_
          refine v_ret ?_
          obtain rfl := Option.some.inj hs
          exact fin_ret (by kernel_rfl) (by kernel_rfl) (by kernel_rfl)
def s_greenbeltref01_Reader_ahead_L1 (r_Rest : (List UInt8)) (end_ : Int) : Nat → Int → Option Int
  | 0, _ => none
  | K1 + 1, q1 => ((bif (decide (q1 < (List.length r_Rest : Int))) then (bif (decide (q1 < 21)) then (idx r_Rest q1).bind fun x1 => some (!(decide ((x1.toNat : Int) = end_))) else some false) else some false)).bind fun v2 => (bif v2 then (s_greenbeltref01_Reader_ahead_L1 r_Rest end_) K1 (w64 (q1 + 1)) else some q1)
def s_greenbeltref01_Reader_ahead (r_Rest : (List UInt8)) (r_Bad : Bool) (end_ : Int) : Option (Int × (List UInt8) × Bool) :=
  ((s_greenbeltref01_Reader_ahead_L1 r_Rest end_) KK 0).bind fun v1 => (bif (decide (v1 ≥ (List.length r_Rest : Int))) then (s_greenbeltref01_Reader_fail r_Rest r_Bad).bind fun y1 => some (0, [], true) else (idx r_Rest v1).bind fun x2 => (bif (!(decide ((x2.toNat : Int) = end_))) then (s_greenbeltref01_Reader_fail r_Rest r_Bad).bind fun y2 => some (0, [], true) else (cut r_Rest 0 v1).bind fun x3 => (s_greenbeltref01_Back x3).bind fun y3 => (bif (!y3.2) then (s_greenbeltref01_Reader_fail r_Rest r_Bad).bind fun y4 => some (0, [], true) else (cut r_Rest (w64 (v1 + 1)) (List.length r_Rest : Int)).bind fun x4 => some (y3.1, x4, r_Bad))))
theorem w_greenbeltref01_Reader_ahead (r_Rest : (List UInt8)) (r_Bad : Bool) (end_ : Int) (r : Int × (List UInt8) × Bool) (hs : s_greenbeltref01_Reader_ahead r_Rest r_Bad end_ = some r) : FnA Tryd.prog 55 [.ptr 1000000 0 0, .int .u8 end_] [(1000000, .box 61 [.str r_Rest, .bool r_Bad])] (.int .i64 r.1) [(1000000, .box 61 [.str r.2.1, .bool r.2.2])] := by
  refine fnA_of_wp (N := 75) Tryd.func55 rfl rfl rfl fun cK0 => ?_
  unfold s_greenbeltref01_Reader_ahead at hs
  refine v_same (ρ' := [(0, .ptr 1000000 0 0), (1, .int .u8 end_)]) rfl rfl ?_
  refine v_seq ?_
  refine vr_text ?_
  refine o_runs 1 [(4, .int .i64 0)] (by kernel_rfl) ?_
  refine ov_nil ?_
  refine nrm_thenV ?_
  refine v_seq ?_
  refine vr_text ?_
  refine o_runs 1 [(5, .int .i64 0)] (by kernel_rfl) ?_
  refine ov_nil ?_
  refine nrm_thenV ?_
  refine v_seq ?_
  obtain ⟨z1, hs, hk1⟩ := bind_some hs
  refine v_join (S := Int) (fun u => u = z1) (fun u => [(0, .ptr 1000000 0 0), (1, .int .u8 end_), (5, .int .i64 u)]) (fun u => [(1000000, .box 61 [.str r_Rest, .bool r_Bad])]) ?_ (fun v1 hz => ?_)
  · refine v_block ?_
    refine v_fuel (S := Int) (fun u => [(0, .ptr 1000000 0 0), (1, .int .u8 end_), (5, .int .i64 u)]) (fun u => [(1000000, .box 61 [.str r_Rest, .bool r_Bad])]) (s_greenbeltref01_Reader_ahead_L1 r_Rest end_) (fun _ => rfl) KK 0 hs (cut_of [0, 1, 5] [1000000] (by kernel_rfl) (by kernel_rfl) (by kernel_rfl)) (fun K1 q1 hs => ?_)
    rw [s_greenbeltref01_Reader_ahead_L1] at hs
    show WpV cK0 Tryd.prog none 75 _ _ [(0, .ptr 1000000 0 0), (1, .int .u8 end_), (5, .int .i64 q1)] [(1000000, .box 61 [.str r_Rest, .bool r_Bad])] []
    refine v_seq ?_
    refine v_seq ?_
    obtain ⟨z2, hs, hk2⟩ := bind_some hs
    refine v_join (S := Bool) (fun u => u = z2) (fun u => [(0, .ptr 1000000 0 0), (1, .int .u8 end_), (5, .int .i64 q1), (28, .bool u)]) (fun u => [(1000000, .box 61 [.str r_Rest, .bool r_Bad])]) ?_ (fun v2 hz => ?_)
    · refine vr_text ?_
      refine o_runs 8 [(15, .bool (decide (q1 < (List.length r_Rest : Int)))), (14, .bool (decide (q1 < (List.length r_Rest : Int)))), (13, .int .i64 (List.length r_Rest : Int)), (12, .str r_Rest), (11, .ptr 1000000 0 0), (10, .ptr 1000000 0 0), (9, .ptr 1000000 0 0), (8, .int .i64 q1)] (by kernel_rfl) ?_
      cases h1 : ((decide (q1 < (List.length r_Rest : Int))))
      · replace hs := bif_f h1 hs
        refine o_runs 13 [(28, .bool false), (27, .no), (26, .no), (25, .no), (24, .no), (23, .no), (22, .no), (21, .no), (20, .no), (19, .bool false), (18, .bool false), (17, .no), (16, .no)] (by kernel_rfl) ?_
        refine ov_nil ?_
        obtain rfl := Option.some.inj hs
        refine nrm_join false rfl ?_
        exact cut_of [0, 1, 5, 28] [1000000] (by kernel_rfl) (by kernel_rfl) (by kernel_rfl)
      · replace hs := bif_t h1 hs
        refine o_runs 4 [(19, .bool (decide (q1 < 21))), (18, .bool (decide (q1 < 21))), (17, .bool (decide (q1 < 21))), (16, .int .i64 q1)] (by kernel_rfl) ?_
        cases h2 : ((decide (q1 < 21)))
        · replace hs := bif_f h2 hs
          refine o_runs 9 [(28, .bool false), (27, .no), (26, .no), (25, .no), (24, .no), (23, .no), (22, .no), (21, .no), (20, .no)] (by kernel_rfl) ?_
          refine ov_nil ?_
          obtain rfl := Option.some.inj hs
          refine nrm_join false rfl ?_
          exact cut_of [0, 1, 5, 28] [1000000] (by kernel_rfl) (by kernel_rfl) (by kernel_rfl)
        · replace hs := bif_t h2 hs
          refine o_runs 5 [(24, .int .i64 q1), (23, .str r_Rest), (22, .ptr 1000000 0 0), (21, .ptr 1000000 0 0), (20, .ptr 1000000 0 0)] (by kernel_rfl) ?_
          obtain ⟨x1, g1, hs⟩ := bind_some hs; obtain ⟨g1a, g1b, g1c⟩ := idx_some g1
          refine o_pure (v := .int .u8 (x1.toNat : Int)) (by kernel_rfl) (by kernel_rfl) (by rw [g1c]; exact loc_indexStr (k := .i64) (i := q1) (l := r_Rest) (by kernel_rfl) (by kernel_rfl) (by kernel_rfl) g1a g1b) ?_
          refine o_runs 3 [(28, .bool (!(decide ((x1.toNat : Int) = end_)))), (27, .bool (!(decide ((x1.toNat : Int) = end_)))), (26, .int .u8 end_)] (by kernel_rfl) ?_
          refine ov_nil ?_
          obtain rfl := Option.some.inj hs
          refine nrm_join (!(decide ((x1.toNat : Int) = end_))) rfl ?_
          exact cut_of [0, 1, 5, 28] [1000000] (by kernel_rfl) (by kernel_rfl) (by kernel_rfl)
    · subst hz; clear hs; have hs := hk2; clear hk2
      refine nrm_thenV ?_
      refine v_cond v2 (by kernel_rfl) (fun h3 => ?_) (fun h3 => ?_)
      · replace hs := bif_t h3 hs
        refine v_skip ?_
        refine nrm_thenV ?_
        refine v_block ?_
        refine vr_text ?_
        refine o_runs 3 [(5, .int .i64 (w64 (q1 + 1))), (30, .int .i64 (w64 (q1 + 1))), (29, .int .i64 q1)] (by kernel_rfl) ?_
        refine ov_nil ?_
        refine nrm_blkV ?_
        refine nrm_fuel (w64 (q1 + 1)) hs ?_
        exact cut_of [0, 1, 5] [1000000] (by kernel_rfl) (by kernel_rfl) (by kernel_rfl)
      · replace hs := bif_f h3 hs
        refine v_exit ?_
        refine exit_thenV ?_
        refine exit_fuel ?_
        refine exit_blkV ?_
        obtain rfl := Option.some.inj hs
        refine nrm_join q1 rfl ?_
        exact cut_of [0, 1, 5] [1000000] (by kernel_rfl) (by kernel_rfl) (by kernel_rfl)
  · subst hz; clear hs; have hs := hk1; clear hk1
    refine nrm_thenV ?_
    refine v_seq ?_
    refine v_seq ?_
    refine vr_text ?_
    refine o_runs 7 [(37, .bool (decide (v1 ≥ (List.length r_Rest : Int)))), (36, .int .i64 (List.length r_Rest : Int)), (35, .str r_Rest), (34, .ptr 1000000 0 0), (33, .ptr 1000000 0 0), (32, .ptr 1000000 0 0), (31, .int .i64 v1)] (by kernel_rfl) ?_
    refine ov_nil ?_
    refine nrm_thenV ?_
    refine v_cond (decide (v1 ≥ (List.length r_Rest : Int))) (by kernel_rfl) (fun h4 => ?_) (fun h4 => ?_)
    · replace hs := bif_t h4 hs
      refine v_seq ?_
      refine vr_text ?_
      refine o_runs 1 [(38, .ptr 1000000 0 0)] (by kernel_rfl) ?_
      obtain ⟨y1, c1, hs⟩ := bind_some hs
      refine o_loc (F := [(1000000, .box 61 [.str r_Rest, .bool r_Bad])]) (F' := [(1000000, .box 61 [.str [], .bool true])]) (v := .int .i64 0) [1000000] (by kernel_rfl) (by kernel_rfl) rfl (by kernel_rfl) (loc_g (R := []) [.ptr 1000000 0 0] [(1000000, 1000000)] (callV_func hbv56 (by kernel_rfl)) (w_greenbeltref01_Reader_fail r_Rest r_Bad _ c1) (.cons (.same _) (.nil)) (by kernel_rfl) (by kernel_rfl) (by kernel_rfl) (by kernel_rfl) (by kernel_rfl) (by kernel_rfl) (by kernel_rfl) (by kernel_rfl)) (by kernel_rfl) ?_
      refine o_runs 1 [(4, .int .i64 0)] (by kernel_rfl) ?_
      refine ov_nil ?_
      refine nrm_thenV ?_
      refine v_ret ?_
      refine ret_thenV ?_
      obtain rfl := Option.some.inj hs
      exact fin_ret (by kernel_rfl) (by kernel_rfl) (by kernel_rfl)
    · replace hs := bif_f h4 hs
      refine v_skip ?_
      refine nrm_thenV ?_
      refine v_seq ?_
      refine v_seq ?_
      refine vr_text ?_
      refine o_runs 5 [(44, .int .i64 v1), (43, .str r_Rest), (42, .ptr 1000000 0 0), (41, .ptr 1000000 0 0), (40, .ptr 1000000 0 0)] (by kernel_rfl) ?_
      obtain ⟨x2, g2, hs⟩ := bind_some hs; obtain ⟨g2a, g2b, g2c⟩ := idx_some g2
      refine o_pure (v := .int .u8 (x2.toNat : Int)) (by kernel_rfl) (by kernel_rfl) (by rw [g2c]; exact loc_indexStr (k := .i64) (i := v1) (l := r_Rest) (by kernel_rfl) (by kernel_rfl) (by kernel_rfl) g2a g2b) ?_
      refine o_runs 2 [(47, .bool (!(decide ((x2.toNat : Int) = end_)))), (46, .int .u8 end_)] (by kernel_rfl) ?_
      refine ov_nil ?_
      refine nrm_thenV ?_
      refine v_cond (!(decide ((x2.toNat : Int) = end_))) (by kernel_rfl) (fun h5 => ?_) (fun h5 => ?_)
      · replace hs := bif_t h5 hs
        refine v_seq ?_
        refine vr_text ?_
        refine o_runs 1 [(48, .ptr 1000000 0 0)] (by kernel_rfl) ?_
        obtain ⟨y2, c2, hs⟩ := bind_some hs
        refine o_loc (F := [(1000000, .box 61 [.str r_Rest, .bool r_Bad])]) (F' := [(1000000, .box 61 [.str [], .bool true])]) (v := .int .i64 0) [1000000] (by kernel_rfl) (by kernel_rfl) rfl (by kernel_rfl) (loc_g (R := []) [.ptr 1000000 0 0] [(1000000, 1000000)] (callV_func hbv56 (by kernel_rfl)) (w_greenbeltref01_Reader_fail r_Rest r_Bad _ c2) (.cons (.same _) (.nil)) (by kernel_rfl) (by kernel_rfl) (by kernel_rfl) (by kernel_rfl) (by kernel_rfl) (by kernel_rfl) (by kernel_rfl) (by kernel_rfl)) (by kernel_rfl) ?_
        refine o_runs 1 [(4, .int .i64 0)] (by kernel_rfl) ?_
        refine ov_nil ?_
        refine nrm_thenV ?_
        refine v_ret ?_
        refine ret_thenV ?_
        obtain rfl := Option.some.inj hs
        exact fin_ret (by kernel_rfl) (by kernel_rfl) (by kernel_rfl)
      · replace hs := bif_f h5 hs
        refine v_skip ?_
        refine nrm_thenV ?_
        refine v_seq ?_
        refine vr_text ?_
        refine o_runs 5 [(55, .int .i64 v1), (54, .str r_Rest), (53, .ptr 1000000 0 0), (52, .ptr 1000000 0 0), (51, .ptr 1000000 0 0)] (by kernel_rfl) ?_
        obtain ⟨x3, g3, hs⟩ := bind_some hs; obtain ⟨g3a, g3b, g3c, g3d⟩ := cut_some g3
        refine o_pure (v := .str x3) (by kernel_rfl) (by kernel_rfl) (by rw [g3d]; exact loc_sliceStr (s := r_Rest) (l := 0) (h := v1) (by kernel_rfl) (by kernel_rfl) rfl ⟨.i64, by kernel_rfl⟩ g3a g3b g3c) ?_
        obtain ⟨y3, c3, hs⟩ := bind_some hs
        refine o_pure (v := .tup [.int .i64 y3.1, .bool y3.2]) (by kernel_rfl) (by kernel_rfl) (loc_gcall0 (callV_func hbv64 (by kernel_rfl)) (w_greenbeltref01_Back x3 _ c3) (by kernel_rfl)) ?_
        refine o_runs 5 [(7, .bool y3.2), (6, .int .i64 y3.1), (59, .bool y3.2), (58, .int .i64 y3.1), (50, .tup [.int .i64 y3.1, .bool y3.2])] (by kernel_rfl) ?_
        refine ov_nil ?_
        refine nrm_thenV ?_
        refine v_seq ?_
        refine v_seq ?_
        refine vr_text ?_
        refine o_runs 2 [(61, .bool (!y3.2)), (60, .bool y3.2)] (by kernel_rfl) ?_
        refine ov_nil ?_
        refine nrm_thenV ?_
        refine v_cond (!y3.2) (by kernel_rfl) (fun h6 => ?_) (fun h6 => ?_)
        · replace hs := bif_t h6 hs
          refine v_seq ?_
          refine vr_text ?_
          refine o_runs 1 [(62, .ptr 1000000 0 0)] (by kernel_rfl) ?_
          obtain ⟨y4, c4, hs⟩ := bind_some hs
          refine o_loc (F := [(1000000, .box 61 [.str r_Rest, .bool r_Bad])]) (F' := [(1000000, .box 61 [.str [], .bool true])]) (v := .int .i64 0) [1000000] (by kernel_rfl) (by kernel_rfl) rfl (by kernel_rfl) (loc_g (R := []) [.ptr 1000000 0 0] [(1000000, 1000000)] (callV_func hbv56 (by kernel_rfl)) (w_greenbeltref01_Reader_fail r_Rest r_Bad _ c4) (.cons (.same _) (.nil)) (by kernel_rfl) (by kernel_rfl) (by kernel_rfl) (by kernel_rfl) (by kernel_rfl) (by kernel_rfl) (by kernel_rfl) (by kernel_rfl)) (by kernel_rfl) ?_
          refine o_runs 1 [(4, .int .i64 0)] (by kernel_rfl) ?_
          refine ov_nil ?_
          refine nrm_thenV ?_
          refine v_ret ?_
          refine ret_thenV ?_
          obtain rfl := Option.some.inj hs
          exact fin_ret (by kernel_rfl) (by kernel_rfl) (by kernel_rfl)
        · replace hs := bif_f h6 hs
          refine v_skip ?_
          refine nrm_thenV ?_
          refine v_seq ?_
          refine vr_text ?_
          refine o_runs 7 [(70, .int .i64 (w64 (v1 + 1))), (69, .int .i64 v1), (68, .str r_Rest), (67, .ptr 1000000 0 0), (66, .ptr 1000000 0 0), (65, .ptr 1000000 0 0), (64, .ptr 1000000 0 0)] (by kernel_rfl) ?_
          obtain ⟨x4, g4, hs⟩ := bind_some hs; obtain ⟨g4a, g4b, g4c, g4d⟩ := cut_some g4
          refine o_pure (v := .str x4) (by kernel_rfl) (by kernel_rfl) (by rw [g4d]; exact loc_sliceStr (s := r_Rest) (l := (w64 (v1 + 1))) (h := (List.length r_Rest : Int)) (by kernel_rfl) (by kernel_rfl) ⟨.i64, by kernel_rfl⟩ rfl g4a g4b g4c) ?_
          refine o_runh 3 [(73, .ptr 1000000 0 0), (72, .ptr 1000000 0 0)] [(1000000, .box 61 [.str x4, .bool r_Bad])] (by kernel_rfl) ?_
          refine ov_nil ?_
          refine nrm_thenV ?_
          refine v_seq ?_
          refine vr_text ?_
          refine o_runs 2 [(4, .int .i64 y3.1), (74, .int .i64 y3.1)] (by kernel_rfl) ?_
          refine ov_nil ?_
          refine nrm_thenV ?_
          refine v_ret ?_
          obtain rfl := Option.some.inj hs
          exact fin_ret (by kernel_rfl) (by kernel_rfl) (by kernel_rfl)
def s_greenbeltref01_Reader_number (r_Rest : (List UInt8)) (r_Bad : Bool) (end_ : Int) : Option (Int × (List UInt8) × Bool) :=
  (s_greenbeltref01_Reader_ahead r_Rest r_Bad end_).bind fun y1 => (bif (decide (y1.1 < 0)) then (s_greenbeltref01_Reader_fail y1.2.1 y1.2.2).bind fun y2 => some (0, [], true) else some (y1.1, y1.2.1, y1.2.2))
theorem w_greenbeltref01_Reader_number (r_Rest : (List UInt8)) (r_Bad : Bool) (end_ : Int) (r : Int × (List UInt8) × Bool) (hs : s_greenbeltref01_Reader_number r_Rest r_Bad end_ = some r) : FnA Tryd.prog 54 [.ptr 1000000 0 0, .int .u8 end_] [(1000000, .box 61 [.str r_Rest, .bool r_Bad])] (.int .i64 r.1) [(1000000, .box 61 [.str r.2.1, .bool r.2.2])] := by
  refine fnA_of_wp (N := 14) Tryd.func54 rfl rfl rfl fun cK0 => ?_
  unfold s_greenbeltref01_Reader_number at hs
  refine v_same (ρ' := [(0, .ptr 1000000 0 0), (1, .int .u8 end_)]) rfl rfl ?_
  refine v_seq ?_
  refine vr_text ?_
  refine o_runs 1 [(4, .int .i64 0)] (by kernel_rfl) ?_
  refine ov_nil ?_
  refine nrm_thenV ?_
  refine v_seq ?_
  refine vr_text ?_
  refine o_runs 2 [(7, .int .u8 end_), (6, .ptr 1000000 0 0)] (by kernel_rfl) ?_
  obtain ⟨y1, c1, hs⟩ := bind_some hs
  refine o_loc (F := [(1000000, .box 61 [.str r_Rest, .bool r_Bad])]) (F' := [(1000000, .box 61 [.str y1.2.1, .bool y1.2.2])]) (v := .int .i64 y1.1) [1000000] (by kernel_rfl) (by kernel_rfl) rfl (by kernel_rfl) (loc_g (R := []) [.ptr 1000000 0 0, .int .u8 end_] [(1000000, 1000000)] (callV_func hbv55 (by kernel_rfl)) (w_greenbeltref01_Reader_ahead r_Rest r_Bad end_ _ c1) (.cons (.same _) (.cons (.same _) (.nil))) (by kernel_rfl) (by kernel_rfl) (by kernel_rfl) (by kernel_rfl) (by kernel_rfl) (by kernel_rfl) (by kernel_rfl) (by kernel_rfl)) (by kernel_rfl) ?_
  refine o_runs 1 [(5, .int .i64 y1.1)] (by kernel_rfl) ?_
  refine ov_nil ?_
  refine nrm_thenV ?_
  refine v_seq ?_
  refine v_seq ?_
  refine vr_text ?_
  refine o_runs 2 [(10, .bool (decide (y1.1 < 0))), (9, .int .i64 y1.1)] (by kernel_rfl) ?_
  refine ov_nil ?_
  refine nrm_thenV ?_
  refine v_cond (decide (y1.1 < 0)) (by kernel_rfl) (fun h1 => ?_) (fun h1 => ?_)
  · replace hs := bif_t h1 hs
    refine v_seq ?_
    refine vr_text ?_
    refine o_runs 1 [(11, .ptr 1000000 0 0)] (by kernel_rfl) ?_
    obtain ⟨y2, c2, hs⟩ := bind_some hs
    refine o_loc (F := [(1000000, .box 61 [.str y1.2.1, .bool y1.2.2])]) (F' := [(1000000, .box 61 [.str [], .bool true])]) (v := .int .i64 0) [1000000] (by kernel_rfl) (by kernel_rfl) rfl (by kernel_rfl) (loc_g (R := []) [.ptr 1000000 0 0] [(1000000, 1000000)] (callV_func hbv56 (by kernel_rfl)) (w_greenbeltref01_Reader_fail y1.2.1 y1.2.2 _ c2) (.cons (.same _) (.nil)) (by kernel_rfl) (by kernel_rfl) (by kernel_rfl) (by kernel_rfl) (by kernel_rfl) (by kernel_rfl) (by kernel_rfl) (by kernel_rfl)) (by kernel_rfl) ?_
    refine o_runs 1 [(4, .int .i64 0)] (by kernel_rfl) ?_
    refine ov_nil ?_
    refine nrm_thenV ?_
    refine v_ret ?_
    refine ret_thenV ?_
    obtain rfl := Option.some.inj hs
    exact fin_ret (by kernel_rfl) (by kernel_rfl) (by kernel_rfl)
  · replace hs := bif_f h1 hs
    refine v_skip ?_
    refine nrm_thenV ?_
    refine v_seq ?_
    refine vr_text ?_
    refine o_runs 2 [(4, .int .i64 y1.1), (13, .int .i64 y1.1)] (by kernel_rfl) ?_
    refine ov_nil ?_
    refine nrm_thenV ?_
    refine v_ret ?_
    obtain rfl := Option.some.inj hs
    exact fin_ret (by kernel_rfl) (by kernel_rfl) (by kernel_rfl)
def s_greenbeltref01_Reader_Num (r_Rest : (List UInt8)) (r_Bad : Bool) : Option (Int × (List UInt8) × Bool) :=
  (s_greenbeltref01_Reader_number r_Rest r_Bad 59).bind fun y1 => some (y1.1, y1.2.1, y1.2.2)
theorem w_greenbeltref01_Reader_Num (r_Rest : (List UInt8)) (r_Bad : Bool) (r : Int × (List UInt8) × Bool) (hs : s_greenbeltref01_Reader_Num r_Rest r_Bad = some r) : FnA Tryd.prog 33 [.ptr 1000000 0 0] [(1000000, .box 61 [.str r_Rest, .bool r_Bad])] (.int .i64 r.1) [(1000000, .box 61 [.str r.2.1, .bool r.2.2])] := by
  refine fnA_of_wp (N := 5) Tryd.func33 rfl rfl rfl fun cK0 => ?_
  unfold s_greenbeltref01_Reader_Num at hs
  refine v_same (ρ' := [(0, .ptr 1000000 0 0)]) rfl rfl ?_
  refine v_seq ?_
  refine vr_text ?_
  refine o_runs 1 [(2, .int .i64 0)] (by kernel_rfl) ?_
  refine ov_nil ?_
  refine nrm_thenV ?_
  refine v_seq ?_
  refine vr_text ?_
  refine o_runs 1 [(3, .ptr 1000000 0 0)] (by kernel_rfl) ?_
  obtain ⟨y1, c1, hs⟩ := bind_some hs
  refine o_loc (F := [(1000000, .box 61 [.str r_Rest, .bool r_Bad])]) (F' := [(1000000, .box 61 [.str y1.2.1, .bool y1.2.2])]) (v := .int .i64 y1.1) [1000000] (by kernel_rfl) (by kernel_rfl) rfl (by kernel_rfl) (loc_g (R := []) [.ptr 1000000 0 0, .int .u8 59] [(1000000, 1000000)] (callV_func hbv54 (by kernel_rfl)) (w_greenbeltref01_Reader_number r_Rest r_Bad 59 _ c1) (.cons (.same _) (.cons (.same _) (.nil))) (by kernel_rfl) (by kernel_rfl) (by kernel_rfl) (by kernel_rfl) (by kernel_rfl) (by kernel_rfl) (by kernel_rfl) (by kernel_rfl)) (by kernel_rfl) ?_
  refine o_runs 1 [(2, .int .i64 y1.1)] (by kernel_rfl) ?_
  refine ov_nil ?_
  refine nrm_thenV ?_
  refine v_ret ?_
  obtain rfl := Option.some.inj hs
  exact fin_ret (by kernel_rfl) (by kernel_rfl) (by kernel_rfl)
def s_greenbeltref01_Reader_Int (r_Rest : (List UInt8)) (r_Bad : Bool) : Option (Int × (List UInt8) × Bool) :=
  (s_greenbeltref01_Reader_ahead r_Rest r_Bad 59).bind fun y1 => some (y1.1, y1.2.1, y1.2.2)
theorem w_greenbeltref01_Reader_Int (r_Rest : (List UInt8)) (r_Bad : Bool) (r : Int × (List UInt8) × Bool) (hs : s_greenbeltref01_Reader_Int r_Rest r_Bad = some r) : FnA Tryd.prog 34 [.ptr 1000000 0 0] [(1000000, .box 61 [.str r_Rest, .bool r_Bad])] (.int .i64 r.1) [(1000000, .box 61 [.str r.2.1, .bool r.2.2])] := by
  refine fnA_of_wp (N := 5) Tryd.func34 rfl rfl rfl fun cK0 => ?_
  unfold s_greenbeltref01_Reader_Int at hs
  refine v_same (ρ' := [(0, .ptr 1000000 0 0)]) rfl rfl ?_
  refine v_seq ?_
  refine vr_text ?_
  refine o_runs 1 [(2, .int .i64 0)] (by kernel_rfl) ?_
  refine ov_nil ?_
  refine nrm_thenV ?_
  refine v_seq ?_
  refine vr_text ?_
  refine o_runs 1 [(3, .ptr 1000000 0 0)] (by kernel_rfl) ?_
  obtain ⟨y1, c1, hs⟩ := bind_some hs
  refine o_loc (F := [(1000000, .box 61 [.str r_Rest, .bool r_Bad])]) (F' := [(1000000, .box 61 [.str y1.2.1, .bool y1.2.2])]) (v := .int .i64 y1.1) [1000000] (by kernel_rfl) (by kernel_rfl) rfl (by kernel_rfl) (loc_g (R := []) [.ptr 1000000 0 0, .int .u8 59] [(1000000, 1000000)] (callV_func hbv55 (by kernel_rfl)) (w_greenbeltref01_Reader_ahead r_Rest r_Bad 59 _ c1) (.cons (.same _) (.cons (.same _) (.nil))) (by kernel_rfl) (by kernel_rfl) (by kernel_rfl) (by kernel_rfl) (by kernel_rfl) (by kernel_rfl) (by kernel_rfl) (by kernel_rfl)) (by kernel_rfl) ?_
  refine o_runs 1 [(2, .int .i64 y1.1)] (by kernel_rfl) ?_
  refine ov_nil ?_
  refine nrm_thenV ?_
  refine v_ret ?_
  obtain rfl := Option.some.inj hs
  exact fin_ret (by kernel_rfl) (by kernel_rfl) (by kernel_rfl)
def s_greenbeltref01_Reader_close (r_Rest : (List UInt8)) (r_Bad : Bool) (end_ : Int) : Option (Bool × (List UInt8) × Bool) :=
  (bif (decide ((List.length r_Rest : Int) = 0)) then (s_greenbeltref01_Reader_fail r_Rest r_Bad).bind fun y1 => some (false, [], true) else (idx r_Rest 0).bind fun x1 => (bif (!(decide ((x1.toNat : Int) = end_))) then (s_greenbeltref01_Reader_fail r_Rest r_Bad).bind fun y2 => some (false, [], true) else (cut r_Rest 1 (List.length r_Rest : Int)).bind fun x2 => some (true, x2, r_Bad)))
theorem w_greenbeltref01_Reader_close (r_Rest : (List UInt8)) (r_Bad : Bool) (end_ : Int) (r : Bool × (List UInt8) × Bool) (hs : s_greenbeltref01_Reader_close r_Rest r_Bad end_ = some r) : FnA Tryd.prog 57 [.ptr 1000000 0 0, .int .u8 end_] [(1000000, .box 61 [.str r_Rest, .bool r_Bad])] (.bool r.1) [(1000000, .box 61 [.str r.2.1, .bool r.2.2])] := by
  refine fnA_of_wp (N := 30) Tryd.func57 rfl rfl rfl fun cK0 => ?_
  unfold s_greenbeltref01_Reader_close at hs
  refine v_same (ρ' := [(0, .ptr 1000000 0 0), (1, .int .u8 end_)]) rfl rfl ?_
  refine v_seq ?_
  refine vr_text ?_
  refine o_runs 1 [(4, .bool false)] (by kernel_rfl) ?_
  refine ov_nil ?_
  refine nrm_thenV ?_
  refine v_seq ?_
  refine v_seq ?_
  refine vr_text ?_
  refine o_runs 6 [(10, .bool (decide ((List.length r_Rest : Int) = 0))), (9, .int .i64 (List.length r_Rest : Int)), (8, .str r_Rest), (7, .ptr 1000000 0 0), (6, .ptr 1000000 0 0), (5, .ptr 1000000 0 0)] (by kernel_rfl) ?_
  refine ov_nil ?_
  refine nrm_thenV ?_
  refine v_cond (decide ((List.length r_Rest : Int) = 0)) (by kernel_rfl) (fun h1 => ?_) (fun h1 => ?_)
  · replace hs := bif_t h1 hs
    refine v_seq ?_
    refine vr_text ?_
    refine o_runs 1 [(11, .ptr 1000000 0 0)] (by kernel_rfl) ?_
    obtain ⟨y1, c1, hs⟩ := bind_some hs
    refine o_loc (F := [(1000000, .box 61 [.str r_Rest, .bool r_Bad])]) (F' := [(1000000, .box 61 [.str [], .bool true])]) (v := .int .i64 0) [1000000] (by kernel_rfl) (by kernel_rfl) rfl (by kernel_rfl) (loc_g (R := []) [.ptr 1000000 0 0] [(1000000, 1000000)] (callV_func hbv56 (by kernel_rfl)) (w_greenbeltref01_Reader_fail r_Rest r_Bad _ c1) (.cons (.same _) (.nil)) (by kernel_rfl) (by kernel_rfl) (by kernel_rfl) (by kernel_rfl) (by kernel_rfl) (by kernel_rfl) (by kernel_rfl) (by kernel_rfl)) (by kernel_rfl) ?_
    refine ov_nil ?_
    refine nrm_thenV ?_
    refine v_seq ?_
    refine vr_text ?_
    refine o_runs 1 [(4, .bool false)] (by kernel_rfl) ?_
    refine ov_nil ?_
    refine nrm_thenV ?_
    refine v_ret ?_
    refine ret_thenV ?_
    obtain rfl := Option.some.inj hs
    exact fin_ret (by kernel_rfl) (by kernel_rfl) (by kernel_rfl)
  · replace hs := bif_f h1 hs
    refine v_skip ?_
    refine nrm_thenV ?_
    refine v_seq ?_
    refine v_seq ?_
    refine vr_text ?_
    refine o_runs 4 [(16, .str r_Rest), (15, .ptr 1000000 0 0), (14, .ptr 1000000 0 0), (13, .ptr 1000000 0 0)] (by kernel_rfl) ?_
    obtain ⟨x1, g1, hs⟩ := bind_some hs; obtain ⟨g1a, g1b, g1c⟩ := idx_some g1
    refine o_pure (v := .int .u8 (x1.toNat : Int)) (by kernel_rfl) (by kernel_rfl) (by rw [g1c]; exact loc_indexStr (k := .i64) (i := 0) (l := r_Rest) (by kernel_rfl) (by kernel_rfl) (by kernel_rfl) g1a g1b) ?_
    refine o_runs 2 [(19, .bool (!(decide ((x1.toNat : Int) = end_)))), (18, .int .u8 end_)] (by kernel_rfl) ?_
    refine ov_nil ?_
    refine nrm_thenV ?_
    refine v_cond (!(decide ((x1.toNat : Int) = end_))) (by kernel_rfl) (fun h2 => ?_) (fun h2 => ?_)
    · replace hs := bif_t h2 hs
      refine v_seq ?_
      refine vr_text ?_
      refine o_runs 1 [(20, .ptr 1000000 0 0)] (by kernel_rfl) ?_
      obtain ⟨y2, c2, hs⟩ := bind_some hs
      refine o_loc (F := [(1000000, .box 61 [.str r_Rest, .bool r_Bad])]) (F' := [(1000000, .box 61 [.str [], .bool true])]) (v := .int .i64 0) [1000000] (by kernel_rfl) (by kernel_rfl) rfl (by kernel_rfl) (loc_g (R := []) [.ptr 1000000 0 0] [(1000000, 1000000)] (callV_func hbv56 (by kernel_rfl)) (w_greenbeltref01_Reader_fail r_Rest r_Bad _ c2) (.cons (.same _) (.nil)) (by kernel_rfl) (by kernel_rfl) (by kernel_rfl) (by kernel_rfl) (by kernel_rfl) (by kernel_rfl) (by kernel_rfl) (by kernel_rfl)) (by kernel_rfl) ?_
      refine ov_nil ?_
      refine nrm_thenV ?_
      refine v_seq ?_
      refine vr_text ?_
      refine o_runs 1 [(4, .bool false)] (by kernel_rfl) ?_
      refine ov_nil ?_
      refine nrm_thenV ?_
      refine v_ret ?_
      refine ret_thenV ?_
      obtain rfl := Option.some.inj hs
      exact fin_ret (by kernel_rfl) (by kernel_rfl) (by kernel_rfl)
    · replace hs := bif_f h2 hs
      refine v_skip ?_
      refine nrm_thenV ?_
      refine v_seq ?_
      refine vr_text ?_
      refine o_runs 5 [(26, .str r_Rest), (25, .ptr 1000000 0 0), (24, .ptr 1000000 0 0), (23, .ptr 1000000 0 0), (22, .ptr 1000000 0 0)] (by kernel_rfl) ?_
      obtain ⟨x2, g2, hs⟩ := bind_some hs; obtain ⟨g2a, g2b, g2c, g2d⟩ := cut_some g2
      refine o_pure (v := .str x2) (by kernel_rfl) (by kernel_rfl) (by rw [g2d]; exact loc_sliceStr (s := r_Rest) (l := 1) (h := (List.length r_Rest : Int)) (by kernel_rfl) (by kernel_rfl) ⟨.i64, by kernel_rfl⟩ rfl g2a g2b g2c) ?_
      refine o_runh 3 [(29, .ptr 1000000 0 0), (28, .ptr 1000000 0 0)] [(1000000, .box 61 [.str x2, .bool r_Bad])] (by kernel_rfl) ?_
      refine ov_nil ?_
      refine nrm_thenV ?_
      refine v_seq ?_
      refine vr_text ?_
      refine o_runs 1 [(4, .bool true)] (by kernel_rfl) ?_
      refine ov_nil ?_
      refine nrm_thenV ?_
      refine v_ret ?_
      obtain rfl := Option.some.inj hs
      exact fin_ret (by kernel_rfl) (by kernel_rfl) (by kernel_rfl)
def s_greenbeltref01_Reader_Text (r_Rest : (List UInt8)) (r_Bad : Bool) : Option ((List UInt8) × (List UInt8) × Bool) :=
  (s_greenbeltref01_Reader_number r_Rest r_Bad 58).bind fun y1 => ((bif y1.2.2 then some (true, true) else some ((decide (y1.1 ≥ (List.length y1.2.1 : Int))), false))).bind fun v1 => (bif v1.1 then (s_greenbeltref01_Reader_fail y1.2.1 v1.2).bind fun y2 => some ([], [], true) else (cut y1.2.1 0 y1.1).bind fun x1 => (cut y1.2.1 y1.1 (List.length y1.2.1 : Int)).bind fun x2 => (s_greenbeltref01_Reader_close x2 v1.2 44).bind fun y3 => (bif (!y3.1) then some ([], y3.2.1, y3.2.2) else some (x1, y3.2.1, y3.2.2)))
theorem w_greenbeltref01_Reader_Text (r_Rest : (List UInt8)) (r_Bad : Bool) (r : (List UInt8) × (List UInt8) × Bool) (hs : s_greenbeltref01_Reader_Text r_Rest r_Bad = some r) : FnA Tryd.prog 35 [.ptr 1000000 0 0] [(1000000, .box 61 [.str r_Rest, .bool r_Bad])] (.str r.1) [(1000000, .box 61 [.str r.2.1, .bool r.2.2])] := by
  refine fnA_of_wp (N := 41) Tryd.func35 rfl rfl rfl fun cK0 => ?_
  unfold s_greenbeltref01_Reader_Text at hs
  refine v_same (ρ' := [(0, .ptr 1000000 0 0)]) rfl rfl ?_
  refine v_seq ?_
  refine vr_text ?_
  refine o_runs 1 [(2, .str [])] (by kernel_rfl) ?_
  refine ov_nil ?_
  refine nrm_thenV ?_
  refine v_seq ?_
  refine vr_text ?_
  refine o_runs 1 [(5, .ptr 1000000 0 0)] (by kernel_rfl) ?_
  obtain ⟨y1, c1, hs⟩ := bind_some hs
  refine o_loc (F := [(1000000, .box 61 [.str r_Rest, .bool r_Bad])]) (F' := [(1000000, .box 61 [.str y1.2.1, .bool y1.2.2])]) (v := .int .i64 y1.1) [1000000] (by kernel_rfl) (by kernel_rfl) rfl (by kernel_rfl) (loc_g (R := []) [.ptr 1000000 0 0, .int .u8 58] [(1000000, 1000000)] (callV_func hbv54 (by kernel_rfl)) (w_greenbeltref01_Reader_number r_Rest r_Bad 58 _ c1) (.cons (.same _) (.cons (.same _) (.nil))) (by kernel_rfl) (by kernel_rfl) (by kernel_rfl) (by kernel_rfl) (by kernel_rfl) (by kernel_rfl) (by kernel_rfl) (by kernel_rfl)) (by kernel_rfl) ?_
  refine o_runs 1 [(3, .int .i64 y1.1)] (by kernel_rfl) ?_
  refine ov_nil ?_
  refine nrm_thenV ?_
  refine v_seq ?_
  refine v_seq ?_
  obtain ⟨z1, hs, hk1⟩ := bind_some hs
  refine v_join (S := Bool × Bool) (fun u => u = z1) (fun u => [(0, .ptr 1000000 0 0), (3, .int .i64 y1.1), (19, .bool u.1)]) (fun u => [(1000000, .box 61 [.str y1.2.1, .bool u.2])]) ?_ (fun v1 hz => ?_)
  · refine vr_text ?_
    refine o_runs 5 [(11, .bool y1.2.2), (10, .bool y1.2.2), (9, .ptr 1000000 0 1), (8, .ptr 1000000 0 0), (7, .ptr 1000000 0 0)] (by kernel_rfl) ?_
    cases h1 : (y1.2.2)
    · replace hs := bif_f h1 hs
      refine o_runs 8 [(19, .bool (decide (y1.1 ≥ (List.length y1.2.1 : Int)))), (18, .bool (decide (y1.1 ≥ (List.length y1.2.1 : Int)))), (17, .int .i64 (List.length y1.2.1 : Int)), (16, .str y1.2.1), (15, .ptr 1000000 0 0), (14, .ptr 1000000 0 0), (13, .ptr 1000000 0 0), (12, .int .i64 y1.1)] (by kernel_rfl) ?_
      refine ov_nil ?_
      obtain rfl := Option.some.inj hs
      refine nrm_join ((decide (y1.1 ≥ (List.length y1.2.1 : Int))), false) rfl ?_
      exact cut_of [0, 3, 19] [1000000] (by kernel_rfl) (by kernel_rfl) (by kernel_rfl)
    · replace hs := bif_t h1 hs
      refine o_runs 8 [(19, .bool true), (18, .no), (17, .no), (16, .no), (15, .no), (14, .no), (13, .no), (12, .no)] (by kernel_rfl) ?_
      refine ov_nil ?_
      obtain rfl := Option.some.inj hs
      refine nrm_join (true, true) rfl ?_
      exact cut_of [0, 3, 19] [1000000] (by kernel_rfl) (by kernel_rfl) (by kernel_rfl)
  · subst hz; clear hs; have hs := hk1; clear hk1
    refine nrm_thenV ?_
    refine v_cond v1.1 (by kernel_rfl) (fun h2 => ?_) (fun h2 => ?_)
    · replace hs := bif_t h2 hs
      refine v_seq ?_
      refine vr_text ?_
      refine o_runs 1 [(20, .ptr 1000000 0 0)] (by kernel_rfl) ?_
      obtain ⟨y2, c2, hs⟩ := bind_some hs
      refine o_loc (F := [(1000000, .box 61 [.str y1.2.1, .bool v1.2])]) (F' := [(1000000, .box 61 [.str [], .bool true])]) (v := .int .i64 0) [1000000] (by kernel_rfl) (by kernel_rfl) rfl (by kernel_rfl) (loc_g (R := []) [.ptr 1000000 0 0] [(1000000, 1000000)] (callV_func hbv56 (by kernel_rfl)) (w_greenbeltref01_Reader_fail y1.2.1 v1.2 _ c2) (.cons (.same _) (.nil)) (by kernel_rfl) (by kernel_rfl) (by kernel_rfl) (by kernel_rfl) (by kernel_rfl) (by kernel_rfl) (by kernel_rfl) (by kernel_rfl)) (by kernel_rfl) ?_
      refine ov_nil ?_
      refine nrm_thenV ?_
      refine v_seq ?_
      refine vr_text ?_
      refine o_runs 1 [(2, .str [])] (by kernel_rfl) ?_
      refine ov_nil ?_
      refine nrm_thenV ?_
      refine v_ret ?_
      refine ret_thenV ?_
      obtain rfl := Option.some.inj hs
      exact fin_ret (by kernel_rfl) (by kernel_rfl) (by kernel_rfl)
    · replace hs := bif_f h2 hs
      refine v_skip ?_
      refine nrm_thenV ?_
      refine v_seq ?_
      refine vr_text ?_
      refine o_runs 5 [(26, .int .i64 y1.1), (25, .str y1.2.1), (24, .ptr 1000000 0 0), (23, .ptr 1000000 0 0), (22, .ptr 1000000 0 0)] (by kernel_rfl) ?_
      obtain ⟨x1, g1, hs⟩ := bind_some hs; obtain ⟨g1a, g1b, g1c, g1d⟩ := cut_some g1
      refine o_pure (v := .str x1) (by kernel_rfl) (by kernel_rfl) (by rw [g1d]; exact loc_sliceStr (s := y1.2.1) (l := 0) (h := y1.1) (by kernel_rfl) (by kernel_rfl) rfl ⟨.i64, by kernel_rfl⟩ g1a g1b g1c) ?_
      refine o_runs 1 [(4, .str x1)] (by kernel_rfl) ?_
      refine ov_nil ?_
      refine nrm_thenV ?_
      refine v_seq ?_
      refine vr_text ?_
      refine o_runs 6 [(33, .int .i64 y1.1), (32, .str y1.2.1), (31, .ptr 1000000 0 0), (30, .ptr 1000000 0 0), (29, .ptr 1000000 0 0), (28, .ptr 1000000 0 0)] (by kernel_rfl) ?_
      obtain ⟨x2, g2, hs⟩ := bind_some hs; obtain ⟨g2a, g2b, g2c, g2d⟩ := cut_some g2
      refine o_pure (v := .str x2) (by kernel_rfl) (by kernel_rfl) (by rw [g2d]; exact loc_sliceStr (s := y1.2.1) (l := y1.1) (h := (List.length y1.2.1 : Int)) (by kernel_rfl) (by kernel_rfl) ⟨.i64, by kernel_rfl⟩ rfl g2a g2b g2c) ?_
      refine o_runh 3 [(36, .ptr 1000000 0 0), (35, .ptr 1000000 0 0)] [(1000000, .box 61 [.str x2, .bool v1.2])] (by kernel_rfl) ?_
      refine ov_nil ?_
      refine nrm_thenV ?_
      refine v_seq ?_
      refine v_seq ?_
      refine vr_text ?_
      refine o_runs 1 [(37, .ptr 1000000 0 0)] (by kernel_rfl) ?_
      obtain ⟨y3, c3, hs⟩ := bind_some hs
      refine o_loc (F := [(1000000, .box 61 [.str x2, .bool v1.2])]) (F' := [(1000000, .box 61 [.str y3.2.1, .bool y3.2.2])]) (v := .bool y3.1) [1000000] (by kernel_rfl) (by kernel_rfl) rfl (by kernel_rfl) (loc_g (R := []) [.ptr 1000000 0 0, .int .u8 44] [(1000000, 1000000)] (callV_func hbv57 (by kernel_rfl)) (w_greenbeltref01_Reader_close x2 v1.2 44 _ c3) (.cons (.same _) (.cons (.same _) (.nil))) (by kernel_rfl) (by kernel_rfl) (by kernel_rfl) (by kernel_rfl) (by kernel_rfl) (by kernel_rfl) (by kernel_rfl) (by kernel_rfl)) (by kernel_rfl) ?_
      refine o_runs 1 [(39, .bool (!y3.1))] (by kernel_rfl) ?_
      refine ov_nil ?_
      refine nrm_thenV ?_
      refine v_cond (!y3.1) (by kernel_rfl) (fun h3 => ?_) (fun h3 => ?_)
      · replace hs := bif_t h3 hs
        refine v_seq ?_
        refine vr_text ?_
        refine o_runs 1 [(2, .str [])] (by kernel_rfl) ?_
        refine ov_nil ?_
        refine nrm_thenV ?_
        refine v_ret ?_
        refine ret_thenV ?_
        obtain rfl := Option.some.inj hs
        exact fin_ret (by kernel_rfl) (by kernel_rfl) (by kernel_rfl)
      · replace hs := bif_f h3 hs
        refine v_skip ?_
        refine nrm_thenV ?_
        refine v_seq ?_
        refine vr_text ?_
        refine o_runs 2 [(2, .str x1), (40, .str x1)] (by kernel_rfl) ?_
        refine ov_nil ?_
        refine nrm_thenV ?_
        refine v_ret ?_
        obtain rfl := Option.some.inj hs
        exact fin_ret (by kernel_rfl) (by kernel_rfl) (by kernel_rfl)
def s_greenbeltref01_Reader_Nums_L1 (y1 : (Int × (List UInt8) × Bool)) : Nat → (Int × (List UInt8) × Bool × (List Int)) → Option ((List UInt8) × Bool × (List Int))
  | 0, _ => none
  | K1 + 1, q1 => ((bif (decide (q1.1 < y1.1)) then some (!q1.2.2.1) else some false)).bind fun v2 => (bif v2 then (s_greenbeltref01_Reader_Int q1.2.1 q1.2.2.1).bind fun y2 => (grd (((q1.2.2.2 ++ [y2.1])).length * 8 ≤ 140737488355328)).bind fun _ => (s_greenbeltref01_Reader_Nums_L1 y1) K1 ((w64 (q1.1 + 1)), y2.2.1, y2.2.2, (q1.2.2.2 ++ [y2.1])) else some (q1.2.1, q1.2.2.1, q1.2.2.2))
def s_greenbeltref01_Reader_Nums (r_Rest : (List UInt8)) (r_Bad : Bool) : Option ((List Int) × (List UInt8) × Bool) :=
  (s_greenbeltref01_Reader_number r_Rest r_Bad 91).bind fun y1 => ((s_greenbeltref01_Reader_Nums_L1 y1) KK (0, y1.2.1, y1.2.2, [])).bind fun v1 => ((bif v1.2.1 then some (true, v1.1, true) else (s_greenbeltref01_Reader_close v1.1 false 93).bind fun y3 => some ((!y3.1), y3.2.1, y3.2.2))).bind fun v3 => (bif v3.1 then some ([], v3.2.1, v3.2.2) else some (v1.2.2, v3.2.1, v3.2.2))
theorem w_greenbeltref01_Reader_Nums (r_Rest : (List UInt8)) (r_Bad : Bool) (r : (List Int) × (List UInt8) × Bool) (hs : s_greenbeltref01_Reader_Nums r_Rest r_Bad = some r) : FnA Tryd.prog 37 [.ptr 1000000 0 0] [(1000000, .box 61 [.str r_Rest, .bool r_Bad])] (.vs 1 (List.map EV.encI r.1)) [(1000000, .box 61 [.str r.2.1, .bool r.2.2])] := by
  refine fnA_of_wp (N := 35) Tryd.func37 rfl rfl rfl fun cK0 => ?_
  unfold s_greenbeltref01_Reader_Nums at hs
  refine v_same (ρ' := [(0, .ptr 1000000 0 0)]) rfl rfl ?_
  refine v_seq ?_
  refine vr_text ?_
  refine o_runs 1 [(2, .nils)] (by kernel_rfl) ?_
  refine ov_nil ?_
  refine nrm_thenV ?_
  refine v_seq ?_
  refine vr_text ?_
  refine o_runs 1 [(6, .ptr 1000000 0 0)] (by kernel_rfl) ?_
  obtain ⟨y1, c1, hs⟩ := bind_some hs
  refine o_loc (F := [(1000000, .box 61 [.str r_Rest, .bool r_Bad])]) (F' := [(1000000, .box 61 [.str y1.2.1, .bool y1.2.2])]) (v := .int .i64 y1.1) [1000000] (by kernel_rfl) (by kernel_rfl) rfl (by kernel_rfl) (loc_g (R := []) [.ptr 1000000 0 0, .int .u8 91] [(1000000, 1000000)] (callV_func hbv54 (by kernel_rfl)) (w_greenbeltref01_Reader_number r_Rest r_Bad 91 _ c1) (.cons (.same _) (.cons (.same _) (.nil))) (by kernel_rfl) (by kernel_rfl) (by kernel_rfl) (by kernel_rfl) (by kernel_rfl) (by kernel_rfl) (by kernel_rfl) (by kernel_rfl)) (by kernel_rfl) ?_
  refine o_runs 1 [(3, .int .i64 y1.1)] (by kernel_rfl) ?_
  refine ov_nil ?_
  refine nrm_thenV ?_
  refine v_seq ?_
  refine vr_text ?_
  refine o_runs 1 [(4, .nils)] (by kernel_rfl) ?_
  refine ov_nil ?_
  refine nrm_thenV ?_
  refine v_seq ?_
  refine v_seq ?_
  refine vr_text ?_
  refine o_runs 1 [(5, .int .i64 0)] (by kernel_rfl) ?_
  refine ov_nil ?_
  refine nrm_thenV ?_
  obtain ⟨z1, hs, hk1⟩ := bind_some hs
  refine v_join (S := (List UInt8) × Bool × (List Int)) (fun u => u = z1) (fun u => [(0, .ptr 1000000 0 0), (4, .sl 1 2000020 ((u.2.2).length) 0 ((u.2.2).length))]) (fun u => [(1000000, .box 61 [.str u.1, .bool u.2.1]), (2000020, .row 3 1 0 (List.map EV.encI u.2.2))]) ?_ (fun v1 hz => ?_)
  · refine v_block ?_
    refine v_fuel (S := Int × (List UInt8) × Bool × (List Int)) (fun u => [(0, .ptr 1000000 0 0), (3, .int .i64 y1.1), (4, .sl 1 2000020 ((u.2.2.2).length) 0 ((u.2.2.2).length)), (5, .int .i64 u.1)]) (fun u => [(1000000, .box 61 [.str u.2.1, .bool u.2.2.1]), (2000020, .row 3 1 0 (List.map EV.encI u.2.2.2))]) (s_greenbeltref01_Reader_Nums_L1 y1) (fun _ => rfl) KK (0, y1.2.1, y1.2.2, []) hs (Cut.trans (cut_nilRow 4 2000020 3 1 rfl (by kernel_rfl) (by kernel_rfl)) (cut_of [0, 3, 4, 5] [1000000, 2000020] (by kernel_rfl) (by kernel_rfl) (by kernel_rfl))) (fun K1 q1 hs => ?_)
    rw [s_greenbeltref01_Reader_Nums_L1] at hs
    show WpV cK0 Tryd.prog none 35 _ _ [(0, .ptr 1000000 0 0), (3, .int .i64 y1.1), (4, .sl 1 2000020 ((q1.2.2.2).length) 0 ((q1.2.2.2).length)), (5, .int .i64 q1.1)] [(1000000, .box 61 [.str q1.2.1, .bool q1.2.2.1]), (2000020, .row 3 1 0 (List.map EV.encI q1.2.2.2))] []
    refine v_seq ?_
    refine v_seq ?_
    obtain ⟨z2, hs, hk2⟩ := bind_some hs
    refine v_join (S := Bool) (fun u => u = z2) (fun u => [(0, .ptr 1000000 0 0), (3, .int .i64 y1.1), (4, .sl 1 2000020 ((q1.2.2.2).length) 0 ((q1.2.2.2).length)), (5, .int .i64 q1.1), (17, .bool u)]) (fun u => [(1000000, .box 61 [.str q1.2.1, .bool q1.2.2.1]), (2000020, .row 3 1 0 (List.map EV.encI q1.2.2.2))]) ?_ (fun v2 hz => ?_)
    · refine vr_text ?_
      refine o_runs 4 [(11, .bool (decide (q1.1 < y1.1))), (10, .bool (decide (q1.1 < y1.1))), (9, .int .i64 y1.1), (8, .int .i64 q1.1)] (by kernel_rfl) ?_
      cases h1 : ((decide (q1.1 < y1.1)))
      · replace hs := bif_f h1 hs
        refine o_runs 6 [(17, .bool false), (16, .no), (15, .no), (14, .no), (13, .no), (12, .no)] (by kernel_rfl) ?_
        refine ov_nil ?_
        obtain rfl := Option.some.inj hs
        refine nrm_join false rfl ?_
        exact cut_of [0, 3, 4, 5, 17] [1000000, 2000020] (by kernel_rfl) (by kernel_rfl) (by kernel_rfl)
      · replace hs := bif_t h1 hs
        refine o_runs 6 [(17, .bool (!q1.2.2.1)), (16, .bool (!q1.2.2.1)), (15, .bool q1.2.2.1), (14, .ptr 1000000 0 1), (13, .ptr 1000000 0 0), (12, .ptr 1000000 0 0)] (by kernel_rfl) ?_
        refine ov_nil ?_
        obtain rfl := Option.some.inj hs
        refine nrm_join (!q1.2.2.1) rfl ?_
        exact cut_of [0, 3, 4, 5, 17] [1000000, 2000020] (by kernel_rfl) (by kernel_rfl) (by kernel_rfl)
    · subst hz; clear hs; have hs := hk2; clear hk2
      refine nrm_thenV ?_
      refine v_cond v2 (by kernel_rfl) (fun h2 => ?_) (fun h2 => ?_)
      · replace hs := bif_t h2 hs
        refine v_skip ?_
        refine nrm_thenV ?_
        refine v_seq ?_
        refine v_block ?_
        refine vr_text ?_
        refine o_runs 2 [(21, .ptr 1000000 0 0), (20, .sl 1 2000020 ((q1.2.2.2).length) 0 ((q1.2.2.2).length))] (by kernel_rfl) ?_
        obtain ⟨y2, c2, hs⟩ := bind_some hs
        refine o_loc (F := [(1000000, .box 61 [.str q1.2.1, .bool q1.2.2.1])]) (F' := [(1000000, .box 61 [.str y2.2.1, .bool y2.2.2])]) (v := .int .i64 y2.1) [1000000] (by kernel_rfl) (by kernel_rfl) rfl (by kernel_rfl) (loc_g (R := []) [.ptr 1000000 0 0] [(1000000, 1000000)] (callV_func hbv34 (by kernel_rfl)) (w_greenbeltref01_Reader_Int q1.2.1 q1.2.2.1 _ c2) (.cons (.same _) (.nil)) (by kernel_rfl) (by kernel_rfl) (by kernel_rfl) (by kernel_rfl) (by kernel_rfl) (by kernel_rfl) (by kernel_rfl) (by kernel_rfl)) (by kernel_rfl) ?_
        refine o_runh 1 [(23, .sl 1 23 1 0 1)] [(23, .row 3 1 0 (List.map EV.encI [y2.1])), (1000000, .box 61 [.str y2.2.1, .bool y2.2.2]), (2000020, .row 3 1 0 (List.map EV.encI q1.2.2.2))] (by kernel_rfl) ?_
        obtain ⟨_, g1, hs⟩ := bind_some hs; replace g1 := grd_some g1
        refine o_loc (F := [(2000020, .row 3 1 0 (List.map EV.encI q1.2.2.2)), (23, .row 3 1 0 (List.map EV.encI [y2.1]))]) (F' := [(2000020, .row 3 1 0 (List.map EV.encI (q1.2.2.2 ++ [y2.1]))), (23, .row 3 1 0 (List.map EV.encI [y2.1]))]) (v := .sl 1 2000020 (((q1.2.2.2 ++ [y2.1])).length) 0 (((q1.2.2.2 ++ [y2.1])).length)) [2000020, 23] (by kernel_rfl) (by kernel_rfl) rfl (by kernel_rfl) (loc_appendT (e := 3) (sz := 1) (bytes := 8) (L := (q1.2.2.2).length) (els := (List.map EV.encI q1.2.2.2)) (ys := (List.map EV.encI [y2.1])) (by kernel_rfl) (by kernel_rfl) (by first | exact List.length_map .. | rfl) (.sl (t := 3) (fz := 0) (ys := (List.map EV.encI [y2.1])) (by kernel_rfl) (by kernel_rfl)) (map_ones EV.encI (fun _ => rfl) _) (map_lens EV.encI (fun _ => rfl) _) (by kernel_rfl) (by first | exact (List.map_append ..).symm | rfl | simp only [List.map_nil, List.nil_append]) (List.length_map ..) g1 (by omega)) (by kernel_rfl) ?_
        refine o_runs 1 [(4, .sl 1 2000020 (((q1.2.2.2 ++ [y2.1])).length) 0 (((q1.2.2.2 ++ [y2.1])).length))] (by kernel_rfl) ?_
        refine ov_nil ?_
        refine nrm_blkV ?_
        refine nrm_thenV ?_
        refine vr_text ?_
        refine o_runs 3 [(5, .int .i64 (w64 (q1.1 + 1))), (19, .int .i64 (w64 (q1.1 + 1))), (18, .int .i64 q1.1)] (by kernel_rfl) ?_
        refine ov_nil ?_
        refine nrm_fuel ((w64 (q1.1 + 1)), y2.2.1, y2.2.2, (q1.2.2.2 ++ [y2.1])) hs ?_
        exact cut_of [0, 3, 4, 5] [1000000, 2000020] (by kernel_rfl) (by kernel_rfl) (by kernel_rfl)
      · replace hs := bif_f h2 hs
        refine v_exit ?_
        refine exit_thenV ?_
        refine exit_fuel ?_
        refine exit_blkV ?_
        obtain rfl := Option.some.inj hs
        refine nrm_join (q1.2.1, q1.2.2.1, q1.2.2.2) rfl ?_
        exact cut_of [0, 4] [1000000, 2000020] (by kernel_rfl) (by kernel_rfl) (by kernel_rfl)
  · subst hz; clear hs; have hs := hk1; clear hk1
    refine nrm_thenV ?_
    refine v_seq ?_
    refine v_seq ?_
    obtain ⟨z3, hs, hk3⟩ := bind_some hs
    refine v_join (S := Bool × (List UInt8) × Bool) (fun u => u = z3) (fun u => [(4, .sl 1 2000020 ((v1.2.2).length) 0 ((v1.2.2).length)), (33, .bool u.1)]) (fun u => [(1000000, .box 61 [.str u.2.1, .bool u.2.2]), (2000020, .row 3 1 0 (List.map EV.encI v1.2.2))]) ?_ (fun v3 hz => ?_)
    · refine vr_text ?_
      refine o_runs 5 [(29, .bool v1.2.1), (28, .bool v1.2.1), (27, .ptr 1000000 0 1), (26, .ptr 1000000 0 0), (25, .ptr 1000000 0 0)] (by kernel_rfl) ?_
      cases h3 : (v1.2.1)
      · replace hs := bif_f h3 hs
        refine o_runs 1 [(30, .ptr 1000000 0 0)] (by kernel_rfl) ?_
        obtain ⟨y3, c3, hs⟩ := bind_some hs
        refine o_loc (F := [(1000000, .box 61 [.str v1.1, .bool false])]) (F' := [(1000000, .box 61 [.str y3.2.1, .bool y3.2.2])]) (v := .bool y3.1) [1000000] (by kernel_rfl) (by kernel_rfl) rfl (by kernel_rfl) (loc_g (R := []) [.ptr 1000000 0 0, .int .u8 93] [(1000000, 1000000)] (callV_func hbv57 (by kernel_rfl)) (w_greenbeltref01_Reader_close v1.1 false 93 _ c3) (.cons (.same _) (.cons (.same _) (.nil))) (by kernel_rfl) (by kernel_rfl) (by kernel_rfl) (by kernel_rfl) (by kernel_rfl) (by kernel_rfl) (by kernel_rfl) (by kernel_rfl)) (by kernel_rfl) ?_
        refine o_runs 2 [(33, .bool (!y3.1)), (32, .bool (!y3.1))] (by kernel_rfl) ?_
        refine ov_nil ?_
        obtain rfl := Option.some.inj hs
        refine nrm_join ((!y3.1), y3.2.1, y3.2.2) rfl ?_
        exact cut_of [4, 33] [1000000, 2000020] (by kernel_rfl) (by kernel_rfl) (by kernel_rfl)
      · replace hs := bif_t h3 hs
        refine o_runs 4 [(33, .bool true), (32, .no), (31, .no), (30, .no)] (by kernel_rfl) ?_
        refine ov_nil ?_
        obtain rfl := Option.some.inj hs
        refine nrm_join (true, v1.1, true) rfl ?_
        exact cut_of [4, 33] [1000000, 2000020] (by kernel_rfl) (by kernel_rfl) (by kernel_rfl)
    · subst hz; clear hs; have hs := hk3; clear hk3
      refine nrm_thenV ?_
      refine v_cond v3.1 (by kernel_rfl) (fun h4 => ?_) (fun h4 => ?_)
      · replace hs := bif_t h4 hs
        refine v_seq ?_
        refine vr_text ?_
        refine o_runs 1 [(2, .nils)] (by kernel_rfl) ?_
        refine ov_nil ?_
        refine nrm_thenV ?_
        refine v_to ((2, .vs 1 (List.map EV.encI [])) :: _) _ (cut_view (R := []) (ks := []) (by kernel_rfl) (by kernel_rfl) (.nils 1)) ?_
        refine v_ret ?_
        refine ret_thenV ?_
        obtain rfl := Option.some.inj hs
        exact fin_ret (by kernel_rfl) (by kernel_rfl) (by kernel_rfl)
      · replace hs := bif_f h4 hs
        refine v_skip ?_
        refine nrm_thenV ?_
        refine v_seq ?_
        refine vr_text ?_
        refine o_runs 2 [(2, .sl 1 2000020 ((v1.2.2).length) 0 ((v1.2.2).length)), (34, .sl 1 2000020 ((v1.2.2).length) 0 ((v1.2.2).length))] (by kernel_rfl) ?_
        refine ov_nil ?_
        refine nrm_thenV ?_
        refine v_to _ [(2000020, .row 3 1 (((List.map EV.encI v1.2.2)).length) (List.map EV.encI v1.2.2)), (1000000, .box 61 [.str v3.2.1, .bool v3.2.2])] (cut_freeze (F := [(2000020, .row 3 1 0 (List.map EV.encI v1.2.2))]) [2000020] rfl (by kernel_rfl) (by kernel_rfl)) ?_
        refine v_to ((2, .vs 1 (List.map EV.encI v1.2.2)) :: _) _ (cut_view (R := [(2000020, .row 3 1 (((List.map EV.encI v1.2.2)).length) (List.map EV.encI v1.2.2))]) (ks := [2000020]) (by kernel_rfl) (by kernel_rfl) (.row (t := 3) (fz := (((List.map EV.encI v1.2.2)).length)) (by kernel_rfl) (by first | (simp only [List.length_map, List.length_set]; done) | rfl))) ?_
        refine v_ret ?_
        obtain rfl := Option.some.inj hs
        exact fin_ret (by kernel_rfl) (by kernel_rfl) (by kernel_rfl)
def s_greenbeltref01_Reader_Texts_L1 (y1 : (Int × (List UInt8) × Bool)) : Nat → (Int × (List UInt8) × Bool × (List (List UInt8))) → Option ((List UInt8) × Bool × (List (List UInt8)))
  | 0, _ => none
  | K1 + 1, q1 => ((bif (decide (q1.1 < y1.1)) then some (!q1.2.2.1) else some false)).bind fun v2 => (bif v2 then (s_greenbeltref01_Reader_Text q1.2.1 q1.2.2.1).bind fun y2 => (grd (((q1.2.2.2 ++ [y2.1])).length * 16 ≤ 140737488355328)).bind fun _ => (s_greenbeltref01_Reader_Texts_L1 y1) K1 ((w64 (q1.1 + 1)), y2.2.1, y2.2.2, (q1.2.2.2 ++ [y2.1])) else some (q1.2.1, q1.2.2.1, q1.2.2.2))
def s_greenbeltref01_Reader_Texts (r_Rest : (List UInt8)) (r_Bad : Bool) : Option ((List (List UInt8)) × (List UInt8) × Bool) :=
  (s_greenbeltref01_Reader_number r_Rest r_Bad 91).bind fun y1 => ((s_greenbeltref01_Reader_Texts_L1 y1) KK (0, y1.2.1, y1.2.2, [])).bind fun v1 => ((bif v1.2.1 then some (true, v1.1, true) else (s_greenbeltref01_Reader_close v1.1 false 93).bind fun y3 => some ((!y3.1), y3.2.1, y3.2.2))).bind fun v3 => (bif v3.1 then some ([], v3.2.1, v3.2.2) else some (v1.2.2, v3.2.1, v3.2.2))
theorem w_greenbeltref01_Reader_Texts (r_Rest : (List UInt8)) (r_Bad : Bool) (r : (List (List UInt8)) × (List UInt8) × Bool) (hs : s_greenbeltref01_Reader_Texts r_Rest r_Bad = some r) : FnA Tryd.prog 39 [.ptr 1000000 0 0] [(1000000, .box 61 [.str r_Rest, .bool r_Bad])] (.vs 1 (List.map EV.encS r.1)) [(1000000, .box 61 [.str r.2.1, .bool r.2.2])] := by
  refine fnA_of_wp (N := 35) Tryd.func39 rfl rfl rfl fun cK0 => ?_
  unfold s_greenbeltref01_Reader_Texts at hs
  refine v_same (ρ' := [(0, .ptr 1000000 0 0)]) rfl rfl ?_
  refine v_seq ?_
  refine vr_text ?_
  refine o_runs 1 [(2, .nils)] (by kernel_rfl) ?_
  refine ov_nil ?_
  refine nrm_thenV ?_
  refine v_seq ?_
  refine vr_text ?_
  refine o_runs 1 [(6, .ptr 1000000 0 0)] (by kernel_rfl) ?_
  obtain ⟨y1, c1, hs⟩ := bind_some hs
  refine o_loc (F := [(1000000, .box 61 [.str r_Rest, .bool r_Bad])]) (F' := [(1000000, .box 61 [.str y1.2.1, .bool y1.2.2])]) (v := .int .i64 y1.1) [1000000] (by kernel_rfl) (by kernel_rfl) rfl (by kernel_rfl) (loc_g (R := []) [.ptr 1000000 0 0, .int .u8 91] [(1000000, 1000000)] (callV_func hbv54 (by kernel_rfl)) (w_greenbeltref01_Reader_number r_Rest r_Bad 91 _ c1) (.cons (.same _) (.cons (.same _) (.nil))) (by kernel_rfl) (by kernel_rfl) (by kernel_rfl) (by kernel_rfl) (by kernel_rfl) (by kernel_rfl) (by kernel_rfl) (by kernel_rfl)) (by kernel_rfl) ?_
  refine o_runs 1 [(3, .int .i64 y1.1)] (by kernel_rfl) ?_
  refine ov_nil ?_
  refine nrm_thenV ?_
  refine v_seq ?_
  refine vr_text ?_
  refine o_runs 1 [(4, .nils)] (by kernel_rfl) ?_
  refine ov_nil ?_
  refine nrm_thenV ?_
  refine v_seq ?_
  refine v_seq ?_
  refine vr_text ?_
  refine o_runs 1 [(5, .int .i64 0)] (by kernel_rfl) ?_
  refine ov_nil ?_
  refine nrm_thenV ?_
  obtain ⟨z1, hs, hk1⟩ := bind_some hs
  refine v_join (S := (List UInt8) × Bool × (List (List UInt8))) (fun u => u = z1) (fun u => [(0, .ptr 1000000 0 0), (4, .sl 1 2000020 ((u.2.2).length) 0 ((u.2.2).length))]) (fun u => [(1000000, .box 61 [.str u.1, .bool u.2.1]), (2000020, .row 9 1 0 (List.map EV.encS u.2.2))]) ?_ (fun v1 hz => ?_)
  · refine v_block ?_
    refine v_fuel (S := Int × (List UInt8) × Bool × (List (List UInt8))) (fun u => [(0, .ptr 1000000 0 0), (3, .int .i64 y1.1), (4, .sl 1 2000020 ((u.2.2.2).length) 0 ((u.2.2.2).length)), (5, .int .i64 u.1)]) (fun u => [(1000000, .box 61 [.str u.2.1, .bool u.2.2.1]), (2000020, .row 9 1 0 (List.map EV.encS u.2.2.2))]) (s_greenbeltref01_Reader_Texts_L1 y1) (fun _ => rfl) KK (0, y1.2.1, y1.2.2, []) hs (Cut.trans (cut_nilRow 4 2000020 9 1 rfl (by kernel_rfl) (by kernel_rfl)) (cut_of [0, 3, 4, 5] [1000000, 2000020] (by kernel_rfl) (by kernel_rfl) (by kernel_rfl))) (fun K1 q1 hs => ?_)
    rw [s_greenbeltref01_Reader_Texts_L1] at hs
    show WpV cK0 Tryd.prog none 35 _ _ [(0, .ptr 1000000 0 0), (3, .int .i64 y1.1), (4, .sl 1 2000020 ((q1.2.2.2).length) 0 ((q1.2.2.2).length)), (5, .int .i64 q1.1)] [(1000000, .box 61 [.str q1.2.1, .bool q1.2.2.1]), (2000020, .row 9 1 0 (List.map EV.encS q1.2.2.2))] []
    refine v_seq ?_
    refine v_seq ?_
    obtain ⟨z2, hs, hk2⟩ := bind_some hs
    refine v_join (S := Bool) (fun u => u = z2) (fun u => [(0, .ptr 1000000 0 0), (3, .int .i64 y1.1), (4, .sl 1 2000020 ((q1.2.2.2).length) 0 ((q1.2.2.2).length)), (5, .int .i64 q1.1), (17, .bool u)]) (fun u => [(1000000, .box 61 [.str q1.2.1, .bool q1.2.2.1]), (2000020, .row 9 1 0 (List.map EV.encS q1.2.2.2))]) ?_ (fun v2 hz => ?_)
    · refine vr_text ?_
      refine o_runs 4 [(11, .bool (decide (q1.1 < y1.1))), (10, .bool (decide (q1.1 < y1.1))), (9, .int .i64 y1.1), (8, .int .i64 q1.1)] (by kernel_rfl) ?_
      cases h1 : ((decide (q1.1 < y1.1)))
      · replace hs := bif_f h1 hs
        refine o_runs 6 [(17, .bool false), (16, .no), (15, .no), (14, .no), (13, .no), (12, .no)] (by kernel_rfl) ?_
        refine ov_nil ?_
        obtain rfl := Option.some.inj hs
        refine nrm_join false rfl ?_
        exact cut_of [0, 3, 4, 5, 17] [1000000, 2000020] (by kernel_rfl) (by kernel_rfl) (by kernel_rfl)
      · replace hs := bif_t h1 hs
        refine o_runs 6 [(17, .bool (!q1.2.2.1)), (16, .bool (!q1.2.2.1)), (15, .bool q1.2.2.1), (14, .ptr 1000000 0 1), (13, .ptr 1000000 0 0), (12, .ptr 1000000 0 0)] (by kernel_rfl) ?_
        refine ov_nil ?_
        obtain rfl := Option.some.inj hs
        refine nrm_join (!q1.2.2.1) rfl ?_
        exact cut_of [0, 3, 4, 5, 17] [1000000, 2000020] (by kernel_rfl) (by kernel_rfl) (by kernel_rfl)
    · subst hz; clear hs; have hs := hk2; clear hk2
      refine nrm_thenV ?_
      refine v_cond v2 (by kernel_rfl) (fun h2 => ?_) (fun h2 => ?_)
      · replace hs := bif_t h2 hs
        refine v_skip ?_
        refine nrm_thenV ?_
        refine v_seq ?_
        refine v_block ?_
        refine vr_text ?_
        refine o_runs 2 [(21, .ptr 1000000 0 0), (20, .sl 1 2000020 ((q1.2.2.2).length) 0 ((q1.2.2.2).length))] (by kernel_rfl) ?_
        obtain ⟨y2, c2, hs⟩ := bind_some hs
        refine o_loc (F := [(1000000, .box 61 [.str q1.2.1, .bool q1.2.2.1])]) (F' := [(1000000, .box 61 [.str y2.2.1, .bool y2.2.2])]) (v := .str y2.1) [1000000] (by kernel_rfl) (by kernel_rfl) rfl (by kernel_rfl) (loc_g (R := []) [.ptr 1000000 0 0] [(1000000, 1000000)] (callV_func hbv35 (by kernel_rfl)) (w_greenbeltref01_Reader_Text q1.2.1 q1.2.2.1 _ c2) (.cons (.same _) (.nil)) (by kernel_rfl) (by kernel_rfl) (by kernel_rfl) (by kernel_rfl) (by kernel_rfl) (by kernel_rfl) (by kernel_rfl) (by kernel_rfl)) (by kernel_rfl) ?_
        refine o_runh 1 [(23, .sl 1 23 1 0 1)] [(23, .row 9 1 0 (List.map EV.encS [y2.1])), (1000000, .box 61 [.str y2.2.1, .bool y2.2.2]), (2000020, .row 9 1 0 (List.map EV.encS q1.2.2.2))] (by kernel_rfl) ?_
        obtain ⟨_, g1, hs⟩ := bind_some hs; replace g1 := grd_some g1
        refine o_loc (F := [(2000020, .row 9 1 0 (List.map EV.encS q1.2.2.2)), (23, .row 9 1 0 (List.map EV.encS [y2.1]))]) (F' := [(2000020, .row 9 1 0 (List.map EV.encS (q1.2.2.2 ++ [y2.1]))), (23, .row 9 1 0 (List.map EV.encS [y2.1]))]) (v := .sl 1 2000020 (((q1.2.2.2 ++ [y2.1])).length) 0 (((q1.2.2.2 ++ [y2.1])).length)) [2000020, 23] (by kernel_rfl) (by kernel_rfl) rfl (by kernel_rfl) (loc_appendT (e := 9) (sz := 1) (bytes := 16) (L := (q1.2.2.2).length) (els := (List.map EV.encS q1.2.2.2)) (ys := (List.map EV.encS [y2.1])) (by kernel_rfl) (by kernel_rfl) (by first | exact List.length_map .. | rfl) (.sl (t := 9) (fz := 0) (ys := (List.map EV.encS [y2.1])) (by kernel_rfl) (by kernel_rfl)) (map_ones EV.encS (fun _ => rfl) _) (map_lens EV.encS (fun _ => rfl) _) (by kernel_rfl) (by first | exact (List.map_append ..).symm | rfl | simp only [List.map_nil, List.nil_append]) (List.length_map ..) g1 (by omega)) (by kernel_rfl) ?_
        refine o_runs 1 [(4, .sl 1 2000020 (((q1.2.2.2 ++ [y2.1])).length) 0 (((q1.2.2.2 ++ [y2.1])).length))] (by kernel_rfl) ?_
        refine ov_nil ?_
        refine nrm_blkV ?_
        refine nrm_thenV ?_
        refine vr_text ?_
        refine o_runs 3 [(5, .int .i64 (w64 (q1.1 + 1))), (19, .int .i64 (w64 (q1.1 + 1))), (18, .int .i64 q1.1)] (by kernel_rfl) ?_
        refine ov_nil ?_
        refine nrm_fuel ((w64 (q1.1 + 1)), y2.2.1, y2.2.2, (q1.2.2.2 ++ [y2.1])) hs ?_
        exact cut_of [0, 3, 4, 5] [1000000, 2000020] (by kernel_rfl) (by kernel_rfl) (by kernel_rfl)
      · replace hs := bif_f h2 hs
        refine v_exit ?_
        refine exit_thenV ?_
        refine exit_fuel ?_
        refine exit_blkV ?_
        obtain rfl := Option.some.inj hs
        refine nrm_join (q1.2.1, q1.2.2.1, q1.2.2.2) rfl ?_
        exact cut_of [0, 4] [1000000, 2000020] (by kernel_rfl) (by kernel_rfl) (by kernel_rfl)
  · subst hz; clear hs; have hs := hk1; clear hk1
    refine nrm_thenV ?_
    refine v_seq ?_
    refine v_seq ?_
    obtain ⟨z3, hs, hk3⟩ := bind_some hs
    refine v_join (S := Bool × (List UInt8) × Bool) (fun u => u = z3) (fun u => [(4, .sl 1 2000020 ((v1.2.2).length) 0 ((v1.2.2).length)), (33, .bool u.1)]) (fun u => [(1000000, .box 61 [.str u.2.1, .bool u.2.2]), (2000020, .row 9 1 0 (List.map EV.encS v1.2.2))]) ?_ (fun v3 hz => ?_)
    · refine vr_text ?_
      refine o_runs 5 [(29, .bool v1.2.1), (28, .bool v1.2.1), (27, .ptr 1000000 0 1), (26, .ptr 1000000 0 0), (25, .ptr 1000000 0 0)] (by kernel_rfl) ?_
      cases h3 : (v1.2.1)
      · replace hs := bif_f h3 hs
        refine o_runs 1 [(30, .ptr 1000000 0 0)] (by kernel_rfl) ?_
        obtain ⟨y3, c3, hs⟩ := bind_some hs
        refine o_loc (F := [(1000000, .box 61 [.str v1.1, .bool false])]) (F' := [(1000000, .box 61 [.str y3.2.1, .bool y3.2.2])]) (v := .bool y3.1) [1000000] (by kernel_rfl) (by kernel_rfl) rfl (by kernel_rfl) (loc_g (R := []) [.ptr 1000000 0 0, .int .u8 93] [(1000000, 1000000)] (callV_func hbv57 (by kernel_rfl)) (w_greenbeltref01_Reader_close v1.1 false 93 _ c3) (.cons (.same _) (.cons (.same _) (.nil))) (by kernel_rfl) (by kernel_rfl) (by kernel_rfl) (by kernel_rfl) (by kernel_rfl) (by kernel_rfl) (by kernel_rfl) (by kernel_rfl)) (by kernel_rfl) ?_
        refine o_runs 2 [(33, .bool (!y3.1)), (32, .bool (!y3.1))] (by kernel_rfl) ?_
        refine ov_nil ?_
        obtain rfl := Option.some.inj hs
        refine nrm_join ((!y3.1), y3.2.1, y3.2.2) rfl ?_
        exact cut_of [4, 33] [1000000, 2000020] (by kernel_rfl) (by kernel_rfl) (by kernel_rfl)
      · replace hs := bif_t h3 hs
        refine o_runs 4 [(33, .bool true), (32, .no), (31, .no), (30, .no)] (by kernel_rfl) ?_
        refine ov_nil ?_
        obtain rfl := Option.some.inj hs
        refine nrm_join (true, v1.1, true) rfl ?_
        exact cut_of [4, 33] [1000000, 2000020] (by kernel_rfl) (by kernel_rfl) (by kernel_rfl)
    · subst hz; clear hs; have hs := hk3; clear hk3
      refine nrm_thenV ?_
      refine v_cond v3.1 (by kernel_rfl) (fun h4 => ?_) (fun h4 => ?_)
      · replace hs := bif_t h4 hs
        refine v_seq ?_
        refine vr_text ?_
        refine o_runs 1 [(2, .nils)] (by kernel_rfl) ?_
        refine ov_nil ?_
        refine nrm_thenV ?_
        refine v_to ((2, .vs 1 (List.map EV.encS [])) :: _) _ (cut_view (R := []) (ks := []) (by kernel_rfl) (by kernel_rfl) (.nils 1)) ?_
        refine v_ret ?_
        refine ret_thenV ?_
        obtain rfl := Option.some.inj hs
        exact fin_ret (by kernel_rfl) (by kernel_rfl) (by kernel_rfl)
      · replace hs := bif_f h4 hs
        refine v_skip ?_
        refine nrm_thenV ?_
        refine v_seq ?_
        refine vr_text ?_
        refine o_runs 2 [(2, .sl 1 2000020 ((v1.2.2).length) 0 ((v1.2.2).length)), (34, .sl 1 2000020 ((v1.2.2).length) 0 ((v1.2.2).length))] (by kernel_rfl) ?_
        refine ov_nil ?_
        refine nrm_thenV ?_
        refine v_to _ [(2000020, .row 9 1 (((List.map EV.encS v1.2.2)).length) (List.map EV.encS v1.2.2)), (1000000, .box 61 [.str v3.2.1, .bool v3.2.2])] (cut_freeze (F := [(2000020, .row 9 1 0 (List.map EV.encS v1.2.2))]) [2000020] rfl (by kernel_rfl) (by kernel_rfl)) ?_
        refine v_to ((2, .vs 1 (List.map EV.encS v1.2.2)) :: _) _ (cut_view (R := [(2000020, .row 9 1 (((List.map EV.encS v1.2.2)).length) (List.map EV.encS v1.2.2))]) (ks := [2000020]) (by kernel_rfl) (by kernel_rfl) (.row (t := 9) (fz := (((List.map EV.encS v1.2.2)).length)) (by kernel_rfl) (by first | (simp only [List.length_map, List.length_set]; done) | rfl))) ?_
        refine v_ret ?_
        obtain rfl := Option.some.inj hs
        exact fin_ret (by kernel_rfl) (by kernel_rfl) (by kernel_rfl)
def s_greenbeltref01_Reader_Left (r_Rest : (List UInt8)) (r_Bad : Bool) : Option (Int × (List UInt8) × Bool) :=
  some ((List.length r_Rest : Int), r_Rest, r_Bad)
theorem w_greenbeltref01_Reader_Left (r_Rest : (List UInt8)) (r_Bad : Bool) (r : Int × (List UInt8) × Bool) (hs : s_greenbeltref01_Reader_Left r_Rest r_Bad = some r) : FnA Tryd.prog 40 [.ptr 1000000 0 0] [(1000000, .box 61 [.str r_Rest, .bool r_Bad])] (.int .i64 r.1) [(1000000, .box 61 [.str r.2.1, .bool r.2.2])] := by
  refine fnA_of_wp (N := 8) Tryd.func40 rfl rfl rfl fun cK0 => ?_
  unfold s_greenbeltref01_Reader_Left at hs
  refine v_same (ρ' := [(0, .ptr 1000000 0 0)]) rfl rfl ?_
  refine v_seq ?_
  refine vr_text ?_
  refine o_runs 1 [(2, .int .i64 0)] (by kernel_rfl) ?_
  refine ov_nil ?_
  refine nrm_thenV ?_
  refine v_seq ?_
  refine vr_text ?_
  refine o_runs 6 [(2, .int .i64 (List.length r_Rest : Int)), (7, .int .i64 (List.length r_Rest : Int)), (6, .str r_Rest), (5, .ptr 1000000 0 0), (4, .ptr 1000000 0 0), (3, .ptr 1000000 0 0)] (by kernel_rfl) ?_
  refine ov_nil ?_
  refine nrm_thenV ?_
  refine v_ret ?_
  obtain rfl := Option.some.inj hs
  exact fin_ret (by kernel_rfl) (by kernel_rfl) (by kernel_rfl)
def s_greenbeltref01_Reader_Done (r_Rest : (List UInt8)) (r_Bad : Bool) : Option (Bool × (List UInt8) × Bool) :=
  ((bif (!r_Bad) then some (decide (r_Rest = [])) else some false)).bind fun v1 => some (v1, r_Rest, r_Bad)
theorem w_greenbeltref01_Reader_Done (r_Rest : (List UInt8)) (r_Bad : Bool) (r : Bool × (List UInt8) × Bool) (hs : s_greenbeltref01_Reader_Done r_Rest r_Bad = some r) : FnA Tryd.prog 41 [.ptr 1000000 0 0] [(1000000, .box 61 [.str r_Rest, .bool r_Bad])] (.bool r.1) [(1000000, .box 61 [.str r.2.1, .bool r.2.2])] := by
  refine fnA_of_wp (N := 15) Tryd.func41 rfl rfl rfl fun cK0 => ?_
  unfold s_greenbeltref01_Reader_Done at hs
  refine v_same (ρ' := [(0, .ptr 1000000 0 0)]) rfl rfl ?_
  refine v_seq ?_
  refine vr_text ?_
  refine o_runs 1 [(2, .bool false)] (by kernel_rfl) ?_
  refine ov_nil ?_
  refine nrm_thenV ?_
  refine v_seq ?_
  obtain ⟨z1, hs, hk1⟩ := bind_some hs
  refine v_join (S := Bool) (fun u => u = z1) (fun u => [(2, .bool u)]) (fun u => [(1000000, .box 61 [.str r_Rest, .bool r_Bad])]) ?_ (fun v1 hz => ?_)
  · refine vr_text ?_
    refine o_runs 6 [(8, .bool (!r_Bad)), (7, .bool (!r_Bad)), (6, .bool r_Bad), (5, .ptr 1000000 0 1), (4, .ptr 1000000 0 0), (3, .ptr 1000000 0 0)] (by kernel_rfl) ?_
    cases h1 : ((!r_Bad))
    · replace hs := bif_f h1 hs
      refine o_runs 7 [(2, .bool false), (14, .bool false), (13, .no), (12, .no), (11, .no), (10, .no), (9, .no)] (by kernel_rfl) ?_
      refine ov_nil ?_
      obtain rfl := Option.some.inj hs
      refine nrm_join false rfl ?_
      exact cut_of [2] [1000000] (by kernel_rfl) (by kernel_rfl) (by kernel_rfl)
    · replace hs := bif_t h1 hs
      refine o_runs 7 [(2, .bool (decide (r_Rest = []))), (14, .bool (decide (r_Rest = []))), (13, .bool (decide (r_Rest = []))), (12, .str r_Rest), (11, .ptr 1000000 0 0), (10, .ptr 1000000 0 0), (9, .ptr 1000000 0 0)] (by kernel_rfl) ?_
      refine ov_nil ?_
      obtain rfl := Option.some.inj hs
      refine nrm_join (decide (r_Rest = [])) rfl ?_
      exact cut_of [2] [1000000] (by kernel_rfl) (by kernel_rfl) (by kernel_rfl)
  · subst hz; clear hs; have hs := hk1; clear hk1
    refine nrm_thenV ?_
    refine v_ret ?_
    obtain rfl := Option.some.inj hs
    exact fin_ret (by kernel_rfl) (by kernel_rfl) (by kernel_rfl)
def s_wire_Reader_Rest (r_rest : (List UInt8)) (r_bad : Bool) : Option ((List UInt8) × Bool) :=
  some (r_rest, r_bad)
theorem w_wire_Reader_Rest (r_rest : (List UInt8)) (r_bad : Bool) (r : (List UInt8) × Bool) (hs : s_wire_Reader_Rest r_rest r_bad = some r) : FnA Tryd.prog 42 [.ptr 1000000 0 0] [(1000000, .box 54 [.str r_rest, .bool r_bad])] (.str r.1) [(1000000, .box 54 [.str [], .bool r.2])] := by
  refine fnA_of_wp (N := 12) Tryd.func42 rfl rfl rfl fun cK0 => ?_
  unfold s_wire_Reader_Rest at hs
  refine v_same (ρ' := [(0, .ptr 1000000 0 0)]) rfl rfl ?_
  refine v_seq ?_
  refine vr_text ?_
  refine o_runs 1 [(2, .str [])] (by kernel_rfl) ?_
  refine ov_nil ?_
  refine nrm_thenV ?_
  refine v_seq ?_
  refine vr_text ?_
  refine o_runs 5 [(3, .str r_rest), (7, .str r_rest), (6, .ptr 1000000 0 0), (5, .ptr 1000000 0 0), (4, .ptr 1000000 0 0)] (by kernel_rfl) ?_
  refine ov_nil ?_
  refine nrm_thenV ?_
  refine v_seq ?_
  refine vr_text ?_
  refine o_runh 4 [(10, .ptr 1000000 0 0), (9, .ptr 1000000 0 0), (8, .ptr 1000000 0 0)] [(1000000, .box 54 [.str [], .bool r_bad])] (by kernel_rfl) ?_
  refine ov_nil ?_
  refine nrm_thenV ?_
  refine v_seq ?_
  refine vr_text ?_
  refine o_runs 2 [(2, .str r_rest), (11, .str r_rest)] (by kernel_rfl) ?_
  refine ov_nil ?_
  refine nrm_thenV ?_
  refine v_ret ?_
  obtain rfl := Option.some.inj hs
  exact fin_ret (by kernel_rfl) (by kernel_rfl) (by kernel_rfl)
def s_greenbeltref01_Reader_Tail (r_Rest : (List UInt8)) (r_Bad : Bool) : Option ((List UInt8) × Bool) :=
  some (r_Rest, r_Bad)
theorem w_greenbeltref01_Reader_Tail (r_Rest : (List UInt8)) (r_Bad : Bool) (r : (List UInt8) × Bool) (hs : s_greenbeltref01_Reader_Tail r_Rest r_Bad = some r) : FnA Tryd.prog 43 [.ptr 1000000 0 0] [(1000000, .box 61 [.str r_Rest, .bool r_Bad])] (.str r.1) [(1000000, .box 61 [.str [], .bool r.2])] := by
  refine fnA_of_wp (N := 12) Tryd.func43 rfl rfl rfl fun cK0 => ?_
  unfold s_greenbeltref01_Reader_Tail at hs
  refine v_same (ρ' := [(0, .ptr 1000000 0 0)]) rfl rfl ?_
  refine v_seq ?_
  refine vr_text ?_
  refine o_runs 1 [(2, .str [])] (by kernel_rfl) ?_
  refine ov_nil ?_
  refine nrm_thenV ?_
  refine v_seq ?_
  refine vr_text ?_
  refine o_runs 5 [(3, .str r_Rest), (7, .str r_Rest), (6, .ptr 1000000 0 0), (5, .ptr 1000000 0 0), (4, .ptr 1000000 0 0)] (by kernel_rfl) ?_
  refine ov_nil ?_
  refine nrm_thenV ?_
  refine v_seq ?_
  refine vr_text ?_
  refine o_runh 4 [(10, .ptr 1000000 0 0), (9, .ptr 1000000 0 0), (8, .ptr 1000000 0 0)] [(1000000, .box 61 [.str [], .bool r_Bad])] (by kernel_rfl) ?_
  refine ov_nil ?_
  refine nrm_thenV ?_
  refine v_seq ?_
  refine vr_text ?_
  refine o_runs 2 [(2, .str r_Rest), (11, .str r_Rest)] (by kernel_rfl) ?_
  refine ov_nil ?_
  refine nrm_thenV ?_
  refine v_ret ?_
  obtain rfl := Option.some.inj hs
  exact fin_ret (by kernel_rfl) (by kernel_rfl) (by kernel_rfl)
def s_greenbeltlaw01_WireReads_L1 (calls : (List Int)) : Nat → (Int × (List UInt8) × Bool × (List UInt8) × Bool) → Option (Bool ⊕ ((List UInt8) × Bool × (List UInt8) × Bool))
  | 0, _ => none
  | K1 + 1, q1 => (bif (decide (q1.1 < (List.length calls : Int))) then (idx calls q1.1).bind fun x1 => (s_greenbeltlaw01_kind (greenbeltlaw01_Value.mk x1 0 [] [] [])).bind fun y4 => ((bif (decide (y4 = 0)) then (s_wire_Reader_Num q1.2.2.2.1 q1.2.2.2.2).bind fun y5 => (s_greenbeltref01_Reader_Num q1.2.1 q1.2.2.1).bind fun y6 => some ((decide (y5.1 = y6.1)), y6.2.1, y6.2.2, y5.2.1, y5.2.2) else (bif (decide (y4 = 1)) then (s_wire_Reader_Int q1.2.2.2.1 q1.2.2.2.2).bind fun y7 => (s_greenbeltref01_Reader_Int q1.2.1 q1.2.2.1).bind fun y8 => some ((decide (y7.1 = y8.1)), y8.2.1, y8.2.2, y7.2.1, y7.2.2) else (bif (decide (y4 = 2)) then (s_wire_Reader_Text q1.2.2.2.1 q1.2.2.2.2).bind fun y9 => (s_greenbeltref01_Reader_Text q1.2.1 q1.2.2.1).bind fun y10 => some ((decide (y9.1 = y10.1)), y10.2.1, y10.2.2, y9.2.1, y9.2.2) else (bif (decide (y4 = 3)) then (s_wire_Reader_Nums q1.2.2.2.1 q1.2.2.2.2).bind fun y11 => (s_greenbeltref01_Reader_Nums q1.2.1 q1.2.2.1).bind fun y12 => (s_greenbeltref01_SameNums y11.1 y12.1).bind fun y13 => some (y13, y12.2.1, y12.2.2, y11.2.1, y11.2.2) else (s_wire_Reader_Texts q1.2.2.2.1 q1.2.2.2.2).bind fun y14 => (s_greenbeltref01_Reader_Texts q1.2.1 q1.2.2.1).bind fun y15 => (s_greenbeltref01_SameTexts y14.1 y15.1).bind fun y16 => some (y16, y15.2.1, y15.2.2, y14.2.1, y14.2.2)))))).bind fun v3 => ((bif (!v3.1) then some (true, v3.2.1, v3.2.2.1, v3.2.2.2.1, v3.2.2.2.2) else (s_wire_Reader_Left v3.2.2.2.1 v3.2.2.2.2).bind fun y17 => (s_greenbeltref01_Reader_Left v3.2.1 v3.2.2.1).bind fun y18 => (bif (!(decide (y17.1 = y18.1))) then some (true, y18.2.1, y18.2.2, y17.2.1, y17.2.2) else (s_wire_Reader_Done y17.2.1 y17.2.2).bind fun y19 => (s_greenbeltref01_Reader_Done y18.2.1 y18.2.2).bind fun y20 => some ((!(y19.1 == y20.1)), y20.2.1, y20.2.2, y19.2.1, y19.2.2)))).bind fun v4 => (bif v4.1 then some (.inl false) else (s_greenbeltlaw01_WireReads_L1 calls) K1 ((w64 (q1.1 + 1)), v4.2.1, v4.2.2.1, v4.2.2.2.1, v4.2.2.2.2)) else some (.inr (q1.2.1, q1.2.2.1, q1.2.2.2.1, q1.2.2.2.2)))
def s_greenbeltlaw01_WireReads (s : (List UInt8)) (calls : (List Int)) : Option Bool :=
  (s_greenbeltlaw01_small ).bind fun y1 => ((bif (decide ((List.length s : Int) > 400)) then some true else some (decide ((List.length calls : Int) > 20)))).bind fun v1 => (bif v1 then some y1 else (s_wire_Open s).bind fun y2 => (s_greenbeltref01_Open s).bind fun y3 => ((s_greenbeltlaw01_WireReads_L1 calls) KK (0, y3, false, y2, false) : Option (Bool ⊕ ((List UInt8) × Bool × (List UInt8) × Bool))).bind fun z2 => match z2 with
 | .inl r => some r
 | .inr v2 => ((bif y1 then (s_wire_Reader_Rest v2.2.2.1 v2.2.2.2).bind fun y21 => (s_greenbeltref01_Reader_Tail v2.1 v2.2.1).bind fun y22 => (bif (decide (y21.1 = y22.1)) then (s_wire_Reader_Left [] y21.2).bind fun y23 => (s_greenbeltref01_Reader_Left [] y22.2).bind fun y24 => (bif (decide (y23.1 = y24.1)) then (s_wire_Reader_Done y23.2.1 y23.2.2).bind fun y25 => (s_greenbeltref01_Reader_Done y24.2.1 y24.2.2).bind fun y26 => some (y25.1 == y26.1) else some false) else some false) else some false)).bind fun v5 => some v5)
theorem w_greenbeltlaw01_WireReads (s : (List UInt8)) (calls : (List Int)) (r : Bool) (hs : s_greenbeltlaw01_WireReads s calls = some r) : FnA Tryd.prog 7 [.str s, .vs 1 (List.map EV.encI calls)] [(900000000, gl0 ob0), (900000001, gl1 ob1 u1), (900000002, gl2 ob2 u2)] (.bool r) [(900000000, gl0 ob0), (900000001, gl1 ob1 u1), (900000002, gl2 ob2 u2)] := by
  refine fnA_of_wp (N := 109) Tryd.func7 rfl rfl rfl fun cK0 => ?_
  unfold s_greenbeltlaw01_WireReads at hs
  refine v_same (ρ' := [(0, .str s), (1, .vs 1 (List.map EV.encI calls))]) rfl rfl ?_
  refine v_seq ?_
  refine vr_text ?_
  refine o_runs 1 [(4, .bool false)] (by kernel_rfl) ?_
  refine ov_nil ?_
  refine nrm_thenV ?_
  refine v_seq ?_
  refine vr_text ?_
  obtain ⟨y1, c1, hs⟩ := bind_some hs
  refine o_loc (F := [(900000000, gl0 ob0), (900000001, gl1 ob1 u1), (900000002, gl2 ob2 u2)]) (F' := [(900000000, gl0 ob0), (900000001, gl1 ob1 u1), (900000002, gl2 ob2 u2)]) (v := .bool y1) [900000000, 900000001, 900000002] (by kernel_rfl) (by kernel_rfl) rfl (by kernel_rfl) (loc_gcallL (vs := []) (G := [(900000000, gl0 ob0), (900000001, gl1 ob1 u1), (900000002, gl2 ob2 u2)]) (R := []) (callV_func hbv9 (by kernel_rfl)) (w_greenbeltlaw01_small (ob0 := ob0) (ob1 := ob1) (ob2 := ob2) (u1 := u1) (u2 := u2)  _ c1) (by kernel_rfl) (.nil) (by kernel_rfl) (by kernel_rfl) (by kernel_rfl)) (by kernel_rfl) ?_
  refine o_runs 1 [(5, .bool y1)] (by kernel_rfl) ?_
  refine ov_nil ?_
  refine nrm_thenV ?_
  refine v_seq ?_
  refine v_seq ?_
  obtain ⟨z1, hs, hk1⟩ := bind_some hs
  refine v_join (S := Bool) (fun u => u = z1) (fun u => [(0, .str s), (1, .vs 1 (List.map EV.encI calls)), (5, .bool y1), (18, .bool u)]) (fun u => [(900000000, gl0 ob0), (900000001, gl1 ob1 u1), (900000002, gl2 ob2 u2)]) ?_ (fun v1 hz => ?_)
  · refine vr_text ?_
    refine o_runs 4 [(14, .bool (decide ((List.length s : Int) > 400))), (13, .bool (decide ((List.length s : Int) > 400))), (12, .int .i64 (List.length s : Int)), (11, .str s)] (by kernel_rfl) ?_
    cases h1 : ((decide ((List.length s : Int) > 400)))
    · replace hs := bif_f h1 hs
      refine o_runs 1 [(15, .vs 1 (List.map EV.encI calls))] (by kernel_rfl) ?_
      refine o_pure (v := .int .i64 (List.length calls : Int)) (by kernel_rfl) (by kernel_rfl) (loc_lenVs (sz := 1) (els := (List.map EV.encI calls)) (by kernel_rfl) (by kernel_rfl) (List.length_map ..)) ?_
      refine o_runs 2 [(18, .bool (decide ((List.length calls : Int) > 20))), (17, .bool (decide ((List.length calls : Int) > 20)))] (by kernel_rfl) ?_
      refine ov_nil ?_
      obtain rfl := Option.some.inj hs
      refine nrm_join (decide ((List.length calls : Int) > 20)) rfl ?_
      exact cut_of [0, 1, 5, 18] [900000000, 900000001, 900000002] (by kernel_rfl) (by kernel_rfl) (by kernel_rfl)
    · replace hs := bif_t h1 hs
      refine o_runs 4 [(18, .bool true), (17, .no), (16, .no), (15, .no)] (by kernel_rfl) ?_
      refine ov_nil ?_
      obtain rfl := Option.some.inj hs
      refine nrm_join true rfl ?_
      exact cut_of [0, 1, 5, 18] [900000000, 900000001, 900000002] (by kernel_rfl) (by kernel_rfl) (by kernel_rfl)
  · subst hz; clear hs; have hs := hk1; clear hk1
    refine nrm_thenV ?_
    refine v_cond v1 (by kernel_rfl) (fun h2 => ?_) (fun h2 => ?_)
    · replace hs := bif_t h2 hs
      refine v_seq ?_
      refine vr_text ?_
      refine o_runs 2 [(4, .bool y1), (19, .bool y1)] (by kernel_rfl) ?_
      refine ov_nil ?_
      refine nrm_thenV ?_
      refine v_ret ?_
      refine ret_thenV ?_
      obtain rfl := Option.some.inj hs
      exact fin_ret (by kernel_rfl) (by kernel_rfl) (by kernel_rfl)
    · replace hs := bif_f h2 hs
      refine v_skip ?_
      refine nrm_thenV ?_
      refine v_seq ?_
      refine vr_text ?_
      refine o_runs 1 [(20, .str s)] (by kernel_rfl) ?_
      obtain ⟨y2, c2, hs⟩ := bind_some hs
      refine o_loc (F := []) (F' := [(3002100, .box 54 [.str y2, .bool false])]) (v := .ptr 3002100 0 0) [] (by kernel_rfl) (by kernel_rfl) rfl (by kernel_rfl) (loc_g (R := []) [.str s] [(5, 3002100)] (callV_func hbv21 (by kernel_rfl)) (w_wire_Open s _ c2) (.cons (.same _) (.nil)) (by kernel_rfl) (by kernel_rfl) (by kernel_rfl) (by kernel_rfl) (by kernel_rfl) (by kernel_rfl) (by kernel_rfl) (by kernel_rfl)) (by kernel_rfl) ?_
      refine o_runs 1 [(6, .ptr 3002100 0 0)] (by kernel_rfl) ?_
      refine ov_nil ?_
      refine nrm_thenV ?_
      refine v_seq ?_
      refine vr_text ?_
      refine o_runs 1 [(22, .str s)] (by kernel_rfl) ?_
      obtain ⟨y3, c3, hs⟩ := bind_some hs
      refine o_loc (F := []) (F' := [(3002300, .box 61 [.str y3, .bool false])]) (v := .ptr 3002300 0 0) [] (by kernel_rfl) (by kernel_rfl) rfl (by kernel_rfl) (loc_g (R := []) [.str s] [(5, 3002300)] (callV_func hbv32 (by kernel_rfl)) (w_greenbeltref01_Open s _ c3) (.cons (.same _) (.nil)) (by kernel_rfl) (by kernel_rfl) (by kernel_rfl) (by kernel_rfl) (by kernel_rfl) (by kernel_rfl) (by kernel_rfl) (by kernel_rfl)) (by kernel_rfl) ?_
      refine o_runs 1 [(7, .ptr 3002300 0 0)] (by kernel_rfl) ?_
      refine ov_nil ?_
      refine nrm_thenV ?_
      refine v_seq ?_
      refine v_seq ?_
      refine vr_text ?_
      refine o_runs 2 [(25, .bool false), (24, .ptr 3002100 0 0)] (by kernel_rfl) ?_
      refine ov_nil ?_
      refine nrm_thenV ?_
      refine v_cond_f (by kernel_rfl) ?_
      refine v_skip ?_
      refine nrm_thenV ?_
      refine v_seq ?_
      refine v_seq ?_
      refine vr_text ?_
      refine o_runs 1 [(8, .int .i64 0)] (by kernel_rfl) ?_
      refine ov_nil ?_
      refine nrm_thenV ?_
      obtain ⟨z2, hs, hk2⟩ := bind_some hs
      refine v_join (S := (List UInt8) × Bool × (List UInt8) × Bool) (fun u => z2 = .inr u) (fun u => [(5, .bool y1), (6, .ptr 3002100 0 0), (7, .ptr 3002300 0 0)]) (fun u => [(3002300, .box 61 [.str u.1, .bool u.2.1]), (3002100, .box 54 [.str u.2.2.1, .bool u.2.2.2]), (900000000, gl0 ob0), (900000001, gl1 ob1 u1), (900000002, gl2 ob2 u2)]) ?_ (fun v2 hz => ?_)
      · refine v_block ?_
        refine v_fuel (S := Int × (List UInt8) × Bool × (List UInt8) × Bool) (fun u => [(1, .vs 1 (List.map EV.encI calls)), (5, .bool y1), (6, .ptr 3002100 0 0), (7, .ptr 3002300 0 0), (8, .int .i64 u.1)]) (fun u => [(3002300, .box 61 [.str u.2.1, .bool u.2.2.1]), (3002100, .box 54 [.str u.2.2.2.1, .bool u.2.2.2.2]), (900000000, gl0 ob0), (900000001, gl1 ob1 u1), (900000002, gl2 ob2 u2)]) (s_greenbeltlaw01_WireReads_L1 calls) (fun _ => rfl) KK (0, y3, false, y2, false) hs (cut_of [1, 5, 6, 7, 8] [3002300, 3002100, 900000000, 900000001, 900000002] (by kernel_rfl) (by kernel_rfl) (by kernel_rfl)) (fun K1 q1 hs => ?_)
        rw [s_greenbeltlaw01_WireReads_L1] at hs
        show WpV cK0 Tryd.prog none 109 _ _ [(1, .vs 1 (List.map EV.encI calls)), (5, .bool y1), (6, .ptr 3002100 0 0), (7, .ptr 3002300 0 0), (8, .int .i64 q1.1)] [(3002300, .box 61 [.str q1.2.1, .bool q1.2.2.1]), (3002100, .box 54 [.str q1.2.2.2.1, .bool q1.2.2.2.2]), (900000000, gl0 ob0), (900000001, gl1 ob1 u1), (900000002, gl2 ob2 u2)] []
        refine v_seq ?_
        refine v_seq ?_
        refine vr_text ?_
        refine o_runs 2 [(27, .vs 1 (List.map EV.encI calls)), (26, .int .i64 q1.1)] (by kernel_rfl) ?_
        refine o_pure (v := .int .i64 (List.length calls : Int)) (by kernel_rfl) (by kernel_rfl) (loc_lenVs (sz := 1) (els := (List.map EV.encI calls)) (by kernel_rfl) (by kernel_rfl) (List.length_map ..)) ?_
        refine o_runs 1 [(29, .bool (decide (q1.1 < (List.length calls : Int))))] (by kernel_rfl) ?_
        refine ov_nil ?_
        refine nrm_thenV ?_
        refine v_cond (decide (q1.1 < (List.length calls : Int))) (by kernel_rfl) (fun h3 => ?_) (fun h3 => ?_)
        · replace hs := bif_t h3 hs
          refine v_skip ?_
          refine nrm_thenV ?_
          refine v_seq ?_
          refine v_block ?_
          refine v_seq ?_
          refine vr_text ?_
          refine o_runs 1 [(9, .bool false)] (by kernel_rfl) ?_
          refine ov_nil ?_
          refine nrm_thenV ?_
          refine v_seq ?_
          refine v_seq ?_
          refine vr_text ?_
          refine o_runs 2 [(33, .int .i64 q1.1), (32, .vs 1 (List.map EV.encI calls))] (by kernel_rfl) ?_
          obtain ⟨x1, g1, hs⟩ := bind_some hs; obtain ⟨g1a, g1b, g1c⟩ := idx_some g1
          refine o_pure (v := .vp [.int .i64 x1] 0) (by kernel_rfl) (by kernel_rfl) (loc_indexVs (e := 3) (sz := 1) (k := .i64) (els := (List.map EV.encI calls)) (cs := (EV.encI x1)) (by kernel_rfl) (by kernel_rfl) (by kernel_rfl) g1a (by rw [g1c]; exact map_get _ (by omega))) ?_
          refine o_runs 2 [(36, .agg [.int .i64 x1, .int .i64 0, .str [], .nils, .nils]), (35, .int .i64 x1)] (by kernel_rfl) ?_
          obtain ⟨y4, c4, hs⟩ := bind_some hs
          refine o_loc (F := []) (F' := []) (v := .int .i64 y4) [] (by kernel_rfl) (by kernel_rfl) rfl (by kernel_rfl) (loc_gcallB (vs := [.agg [.int .i64 x1, .int .i64 0, .str [], .nils, .nils]]) (R := []) (callV_func hbv22 (by kernel_rfl)) (w_greenbeltlaw01_kind (greenbeltlaw01_Value.mk x1 0 [] [] []) _ c4) (.cons (.agg (.cons (.same _) (.cons (.same _) (.cons (.same _) (.cons (.nils _) (.cons (.nils _) (.nil))))))) (.nil)) (by kernel_rfl) (by kernel_rfl) (by kernel_rfl)) (by kernel_rfl) ?_
          refine ov_nil ?_
          refine nrm_thenV ?_
          refine v_block ?_
          refine v_seq ?_
          refine vr_text ?_
          refine o_runs 2 [(43, .bool (decide (y4 = 0))), (44, .bool (decide (y4 = 0)))] (by kernel_rfl) ?_
          refine ov_nil ?_
          refine nrm_thenV ?_
          obtain ⟨z3, hs, hk3⟩ := bind_some hs
          refine v_join (S := Bool × (List UInt8) × Bool × (List UInt8) × Bool) (fun u => u = z3) (fun u => [(1, .vs 1 (List.map EV.encI calls)), (5, .bool y1), (6, .ptr 3002100 0 0), (7, .ptr 3002300 0 0), (8, .int .i64 q1.1), (9, .bool u.1)]) (fun u => [(3002300, .box 61 [.str u.2.1, .bool u.2.2.1]), (3002100, .box 54 [.str u.2.2.2.1, .bool u.2.2.2.2]), (900000000, gl0 ob0), (900000001, gl1 ob1 u1), (900000002, gl2 ob2 u2)]) ?_ (fun v3 hz => ?_)
          · refine v_cond (decide (y4 = 0)) (by kernel_rfl) (fun h4 => ?_) (fun h4 => ?_)
            · replace hs := bif_t h4 hs
              refine vr_text ?_
              refine o_runs 1 [(45, .ptr 3002100 0 0)] (by kernel_rfl) ?_
              obtain ⟨y5, c5, hs⟩ := bind_some hs
              refine o_loc (F := [(3002100, .box 54 [.str q1.2.2.2.1, .bool q1.2.2.2.2]), (900000000, gl0 ob0), (900000001, gl1 ob1 u1), (900000002, gl2 ob2 u2)]) (F' := [(3002100, .box 54 [.str y5.2.1, .bool y5.2.2]), (900000000, gl0 ob0), (900000001, gl1 ob1 u1), (900000002, gl2 ob2 u2)]) (v := .int .i64 y5.1) [3002100, 900000000, 900000001, 900000002] (by kernel_rfl) (by kernel_rfl) rfl (by kernel_rfl) (loc_g (R := []) [.ptr 3002100 0 0] [(1000000, 3002100), (900000000, 900000000), (900000001, 900000001), (900000002, 900000002)] (callV_func hbv23 (by kernel_rfl)) (w_wire_Reader_Num (ob0 := ob0) (ob1 := ob1) (ob2 := ob2) (u1 := u1) (u2 := u2) q1.2.2.2.1 q1.2.2.2.2 _ c5) (.cons (.same _) (.nil)) (by kernel_rfl) (by kernel_rfl) (by kernel_rfl) (by kernel_rfl) (by kernel_rfl) (by kernel_rfl) (by kernel_rfl) (by kernel_rfl)) (by kernel_rfl) ?_
              refine o_runs 1 [(47, .ptr 3002300 0 0)] (by kernel_rfl) ?_
              obtain ⟨y6, c6, hs⟩ := bind_some hs
              refine o_loc (F := [(3002300, .box 61 [.str q1.2.1, .bool q1.2.2.1])]) (F' := [(3002300, .box 61 [.str y6.2.1, .bool y6.2.2])]) (v := .int .i64 y6.1) [3002300] (by kernel_rfl) (by kernel_rfl) rfl (by kernel_rfl) (loc_g (R := []) [.ptr 3002300 0 0] [(1000000, 3002300)] (callV_func hbv33 (by kernel_rfl)) (w_greenbeltref01_Reader_Num q1.2.1 q1.2.2.1 _ c6) (.cons (.same _) (.nil)) (by kernel_rfl) (by kernel_rfl) (by kernel_rfl) (by kernel_rfl) (by kernel_rfl) (by kernel_rfl) (by kernel_rfl) (by kernel_rfl)) (by kernel_rfl) ?_
              refine o_runs 2 [(9, .bool (decide (y5.1 = y6.1))), (49, .bool (decide (y5.1 = y6.1)))] (by kernel_rfl) ?_
              refine ov_nil ?_
              obtain rfl := Option.some.inj hs
              refine nrm_join ((decide (y5.1 = y6.1)), y6.2.1, y6.2.2, y5.2.1, y5.2.2) rfl ?_
              exact cut_of [1, 5, 6, 7, 8, 9] [3002300, 3002100, 900000000, 900000001, 900000002] (by kernel_rfl) (by kernel_rfl) (by kernel_rfl)
            · replace hs := bif_f h4 hs
              refine v_seq ?_
              refine vr_text ?_
              refine o_runs 2 [(50, .bool (decide (y4 = 1))), (51, .bool (decide (y4 = 1)))] (by kernel_rfl) ?_
              refine ov_nil ?_
              refine nrm_thenV ?_
              refine v_cond (decide (y4 = 1)) (by kernel_rfl) (fun h5 => ?_) (fun h5 => ?_)
              · replace hs := bif_t h5 hs
                refine vr_text ?_
                refine o_runs 1 [(52, .ptr 3002100 0 0)] (by kernel_rfl) ?_
                obtain ⟨y7, c7, hs⟩ := bind_some hs
                refine o_loc (F := [(3002100, .box 54 [.str q1.2.2.2.1, .bool q1.2.2.2.2]), (900000000, gl0 ob0), (900000001, gl1 ob1 u1), (900000002, gl2 ob2 u2)]) (F' := [(3002100, .box 54 [.str y7.2.1, .bool y7.2.2]), (900000000, gl0 ob0), (900000001, gl1 ob1 u1), (900000002, gl2 ob2 u2)]) (v := .int .i64 y7.1) [3002100, 900000000, 900000001, 900000002] (by kernel_rfl) (by kernel_rfl) rfl (by kernel_rfl) (loc_g (R := []) [.ptr 3002100 0 0] [(1000000, 3002100), (900000000, 900000000), (900000001, 900000001), (900000002, 900000002)] (callV_func hbv24 (by kernel_rfl)) (w_wire_Reader_Int (ob0 := ob0) (ob1 := ob1) (ob2 := ob2) (u1 := u1) (u2 := u2) q1.2.2.2.1 q1.2.2.2.2 _ c7) (.cons (.same _) (.nil)) (by kernel_rfl) (by kernel_rfl) (by kernel_rfl) (by kernel_rfl) (by kernel_rfl) (by kernel_rfl) (by kernel_rfl) (by kernel_rfl)) (by kernel_rfl) ?_
                refine o_runs 1 [(54, .ptr 3002300 0 0)] (by kernel_rfl) ?_
                obtain ⟨y8, c8, hs⟩ := bind_some hs
                refine o_loc (F := [(3002300, .box 61 [.str q1.2.1, .bool q1.2.2.1])]) (F' := [(3002300, .box 61 [.str y8.2.1, .bool y8.2.2])]) (v := .int .i64 y8.1) [3002300] (by kernel_rfl) (by kernel_rfl) rfl (by kernel_rfl) (loc_g (R := []) [.ptr 3002300 0 0] [(1000000, 3002300)] (callV_func hbv34 (by kernel_rfl)) (w_greenbeltref01_Reader_Int q1.2.1 q1.2.2.1 _ c8) (.cons (.same _) (.nil)) (by kernel_rfl) (by kernel_rfl) (by kernel_rfl) (by kernel_rfl) (by kernel_rfl) (by kernel_rfl) (by kernel_rfl) (by kernel_rfl)) (by kernel_rfl) ?_
                refine o_runs 2 [(9, .bool (decide (y7.1 = y8.1))), (56, .bool (decide (y7.1 = y8.1)))] (by kernel_rfl) ?_
                refine ov_nil ?_
                obtain rfl := Option.some.inj hs
                refine nrm_join ((decide (y7.1 = y8.1)), y8.2.1, y8.2.2, y7.2.1, y7.2.2) rfl ?_
                exact cut_of [1, 5, 6, 7, 8, 9] [3002300, 3002100, 900000000, 900000001, 900000002] (by kernel_rfl) (by kernel_rfl) (by kernel_rfl)
              · replace hs := bif_f h5 hs
                refine v_seq ?_
                refine vr_text ?_
                refine o_runs 2 [(57, .bool (decide (y4 = 2))), (58, .bool (decide (y4 = 2)))] (by kernel_rfl) ?_
                refine ov_nil ?_
                refine nrm_thenV ?_
                refine v_cond (decide (y4 = 2)) (by kernel_rfl) (fun h6 => ?_) (fun h6 => ?_)
                · replace hs := bif_t h6 hs
                  refine vr_text ?_
                  refine o_runs 1 [(59, .ptr 3002100 0 0)] (by kernel_rfl) ?_
                  obtain ⟨y9, c9, hs⟩ := bind_some hs
                  refine o_loc (F := [(3002100, .box 54 [.str q1.2.2.2.1, .bool q1.2.2.2.2]), (900000000, gl0 ob0), (900000001, gl1 ob1 u1), (900000002, gl2 ob2 u2)]) (F' := [(3002100, .box 54 [.str y9.2.1, .bool y9.2.2]), (900000000, gl0 ob0), (900000001, gl1 ob1 u1), (900000002, gl2 ob2 u2)]) (v := .str y9.1) [3002100, 900000000, 900000001, 900000002] (by kernel_rfl) (by kernel_rfl) rfl (by kernel_rfl) (loc_g (R := []) [.ptr 3002100 0 0] [(1000000, 3002100), (900000000, 900000000), (900000001, 900000001), (900000002, 900000002)] (callV_func hbv25 (by kernel_rfl)) (w_wire_Reader_Text (ob0 := ob0) (ob1 := ob1) (ob2 := ob2) (u1 := u1) (u2 := u2) q1.2.2.2.1 q1.2.2.2.2 _ c9) (.cons (.same _) (.nil)) (by kernel_rfl) (by kernel_rfl) (by kernel_rfl) (by kernel_rfl) (by kernel_rfl) (by kernel_rfl) (by kernel_rfl) (by kernel_rfl)) (by kernel_rfl) ?_
                  refine o_runs 1 [(61, .ptr 3002300 0 0)] (by kernel_rfl) ?_
                  obtain ⟨y10, c10, hs⟩ := bind_some hs
                  refine o_loc (F := [(3002300, .box 61 [.str q1.2.1, .bool q1.2.2.1])]) (F' := [(3002300, .box 61 [.str y10.2.1, .bool y10.2.2])]) (v := .str y10.1) [3002300] (by kernel_rfl) (by kernel_rfl) rfl (by kernel_rfl) (loc_g (R := []) [.ptr 3002300 0 0] [(1000000, 3002300)] (callV_func hbv35 (by kernel_rfl)) (w_greenbeltref01_Reader_Text q1.2.1 q1.2.2.1 _ c10) (.cons (.same _) (.nil)) (by kernel_rfl) (by kernel_rfl) (by kernel_rfl) (by kernel_rfl) (by kernel_rfl) (by kernel_rfl) (by kernel_rfl) (by kernel_rfl)) (by kernel_rfl) ?_
                  refine o_runs 2 [(9, .bool (decide (y9.1 = y10.1))), (63, .bool (decide (y9.1 = y10.1)))] (by kernel_rfl) ?_
                  refine ov_nil ?_
                  obtain rfl := Option.some.inj hs
                  refine nrm_join ((decide (y9.1 = y10.1)), y10.2.1, y10.2.2, y9.2.1, y9.2.2) rfl ?_
                  exact cut_of [1, 5, 6, 7, 8, 9] [3002300, 3002100, 900000000, 900000001, 900000002] (by kernel_rfl) (by kernel_rfl) (by kernel_rfl)
                · replace hs := bif_f h6 hs
                  refine v_seq ?_
                  refine vr_text ?_
                  refine o_runs 2 [(64, .bool (decide (y4 = 3))), (65, .bool (decide (y4 = 3)))] (by kernel_rfl) ?_
                  refine ov_nil ?_
                  refine nrm_thenV ?_
                  refine v_cond (decide (y4 = 3)) (by kernel_rfl) (fun h7 => ?_) (fun h7 => ?_)
                  · replace hs := bif_t h7 hs
                    refine vr_text ?_
                    refine o_runs 1 [(66, .ptr 3002100 0 0)] (by kernel_rfl) ?_
                    obtain ⟨y11, c11, hs⟩ := bind_some hs
                    refine o_loc (F := [(3002100, .box 54 [.str q1.2.2.2.1, .bool q1.2.2.2.2]), (900000000, gl0 ob0), (900000001, gl1 ob1 u1), (900000002, gl2 ob2 u2)]) (F' := [(3002100, .box 54 [.str y11.2.1, .bool y11.2.2]), (900000000, gl0 ob0), (900000001, gl1 ob1 u1), (900000002, gl2 ob2 u2)]) (v := .vs 1 (List.map EV.encI y11.1)) [3002100, 900000000, 900000001, 900000002] (by kernel_rfl) (by kernel_rfl) rfl (by kernel_rfl) (loc_g (R := []) [.ptr 3002100 0 0] [(1000000, 3002100), (900000000, 900000000), (900000001, 900000001), (900000002, 900000002)] (callV_func hbv26 (by kernel_rfl)) (w_wire_Reader_Nums (ob0 := ob0) (ob1 := ob1) (ob2 := ob2) (u1 := u1) (u2 := u2) q1.2.2.2.1 q1.2.2.2.2 _ c11) (.cons (.same _) (.nil)) (by kernel_rfl) (by kernel_rfl) (by kernel_rfl) (by kernel_rfl) (by kernel_rfl) (by kernel_rfl) (by kernel_rfl) (by kernel_rfl)) (by kernel_rfl) ?_
                    refine o_runs 1 [(68, .ptr 3002300 0 0)] (by kernel_rfl) ?_
                    obtain ⟨y12, c12, hs⟩ := bind_some hs
                    refine o_loc (F := [(3002300, .box 61 [.str q1.2.1, .bool q1.2.2.1])]) (F' := [(3002300, .box 61 [.str y12.2.1, .bool y12.2.2])]) (v := .vs 1 (List.map EV.encI y12.1)) [3002300] (by kernel_rfl) (by kernel_rfl) rfl (by kernel_rfl) (loc_g (R := []) [.ptr 3002300 0 0] [(1000000, 3002300)] (callV_func hbv37 (by kernel_rfl)) (w_greenbeltref01_Reader_Nums q1.2.1 q1.2.2.1 _ c12) (.cons (.same _) (.nil)) (by kernel_rfl) (by kernel_rfl) (by kernel_rfl) (by kernel_rfl) (by kernel_rfl) (by kernel_rfl) (by kernel_rfl) (by kernel_rfl)) (by kernel_rfl) ?_
                    obtain ⟨y13, c13, hs⟩ := bind_some hs
                    refine o_pure (v := .bool y13) (by kernel_rfl) (by kernel_rfl) (loc_gcall0 (callV_func hbv36 (by kernel_rfl)) (w_greenbeltref01_SameNums y11.1 y12.1 _ c13) (by kernel_rfl)) ?_
                    refine o_runs 1 [(9, .bool y13)] (by kernel_rfl) ?_
                    refine ov_nil ?_
                    obtain rfl := Option.some.inj hs
                    refine nrm_join (y13, y12.2.1, y12.2.2, y11.2.1, y11.2.2) rfl ?_
                    exact cut_of [1, 5, 6, 7, 8, 9] [3002300, 3002100, 900000000, 900000001, 900000002] (by kernel_rfl) (by kernel_rfl) (by kernel_rfl)
                  · replace hs := bif_f h7 hs
                    refine vr_text ?_
                    refine o_runs 1 [(38, .ptr 3002100 0 0)] (by kernel_rfl) ?_
                    obtain ⟨y14, c14, hs⟩ := bind_some hs
                    refine o_loc (F := [(3002100, .box 54 [.str q1.2.2.2.1, .bool q1.2.2.2.2]), (900000000, gl0 ob0), (900000001, gl1 ob1 u1), (900000002, gl2 ob2 u2)]) (F' := [(3002100, .box 54 [.str y14.2.1, .bool y14.2.2]), (900000000, gl0 ob0), (900000001, gl1 ob1 u1), (900000002, gl2 ob2 u2)]) (v := .vs 1 (List.map EV.encS y14.1)) [3002100, 900000000, 900000001, 900000002] (by kernel_rfl) (by kernel_rfl) rfl (by kernel_rfl) (loc_g (R := []) [.ptr 3002100 0 0] [(1000000, 3002100), (900000000, 900000000), (900000001, 900000001), (900000002, 900000002)] (callV_func hbv27 (by kernel_rfl)) (w_wire_Reader_Texts (ob0 := ob0) (ob1 := ob1) (ob2 := ob2) (u1 := u1) (u2 := u2) q1.2.2.2.1 q1.2.2.2.2 _ c14) (.cons (.same _) (.nil)) (by kernel_rfl) (by kernel_rfl) (by kernel_rfl) (by kernel_rfl) (by kernel_rfl) (by kernel_rfl) (by kernel_rfl) (by kernel_rfl)) (by kernel_rfl) ?_
                    refine o_runs 1 [(40, .ptr 3002300 0 0)] (by kernel_rfl) ?_
                    obtain ⟨y15, c15, hs⟩ := bind_some hs
                    refine o_loc (F := [(3002300, .box 61 [.str q1.2.1, .bool q1.2.2.1])]) (F' := [(3002300, .box 61 [.str y15.2.1, .bool y15.2.2])]) (v := .vs 1 (List.map EV.encS y15.1)) [3002300] (by kernel_rfl) (by kernel_rfl) rfl (by kernel_rfl) (loc_g (R := []) [.ptr 3002300 0 0] [(1000000, 3002300)] (callV_func hbv39 (by kernel_rfl)) (w_greenbeltref01_Reader_Texts q1.2.1 q1.2.2.1 _ c15) (.cons (.same _) (.nil)) (by kernel_rfl) (by kernel_rfl) (by kernel_rfl) (by kernel_rfl) (by kernel_rfl) (by kernel_rfl) (by kernel_rfl) (by kernel_rfl)) (by kernel_rfl) ?_
                    obtain ⟨y16, c16, hs⟩ := bind_some hs
                    refine o_pure (v := .bool y16) (by kernel_rfl) (by kernel_rfl) (loc_gcall0 (callV_func hbv38 (by kernel_rfl)) (w_greenbeltref01_SameTexts y14.1 y15.1 _ c16) (by kernel_rfl)) ?_
                    refine o_runs 1 [(9, .bool y16)] (by kernel_rfl) ?_
                    refine ov_nil ?_
                    obtain rfl := Option.some.inj hs
                    refine nrm_join (y16, y15.2.1, y15.2.2, y14.2.1, y14.2.2) rfl ?_
                    exact cut_of [1, 5, 6, 7, 8, 9] [3002300, 3002100, 900000000, 900000001, 900000002] (by kernel_rfl) (by kernel_rfl) (by kernel_rfl)
          · subst hz; clear hs; have hs := hk3; clear hk3
            refine nrm_blkV ?_
            refine nrm_thenV ?_
            refine v_seq ?_
            obtain ⟨z4, hs, hk4⟩ := bind_some hs
            refine v_join (S := Bool × (List UInt8) × Bool × (List UInt8) × Bool) (fun u => u = z4) (fun u => [(1, .vs 1 (List.map EV.encI calls)), (5, .bool y1), (6, .ptr 3002100 0 0), (7, .ptr 3002300 0 0), (8, .int .i64 q1.1), (86, .bool u.1)]) (fun u => [(3002300, .box 61 [.str u.2.1, .bool u.2.2.1]), (3002100, .box 54 [.str u.2.2.2.1, .bool u.2.2.2.2]), (900000000, gl0 ob0), (900000001, gl1 ob1 u1), (900000002, gl2 ob2 u2)]) ?_ (fun v4 hz => ?_)
            · refine vr_text ?_
              refine o_runs 3 [(73, .bool (!v3.1)), (72, .bool (!v3.1)), (71, .bool v3.1)] (by kernel_rfl) ?_
              cases h8 : ((!v3.1))
              · replace hs := bif_f h8 hs
                refine o_runs 1 [(74, .ptr 3002100 0 0)] (by kernel_rfl) ?_
                obtain ⟨y17, c17, hs⟩ := bind_some hs
                refine o_loc (F := [(3002100, .box 54 [.str v3.2.2.2.1, .bool v3.2.2.2.2])]) (F' := [(3002100, .box 54 [.str y17.2.1, .bool y17.2.2])]) (v := .int .i64 y17.1) [3002100] (by kernel_rfl) (by kernel_rfl) rfl (by kernel_rfl) (loc_g (R := []) [.ptr 3002100 0 0] [(1000000, 3002100)] (callV_func hbv28 (by kernel_rfl)) (w_wire_Reader_Left v3.2.2.2.1 v3.2.2.2.2 _ c17) (.cons (.same _) (.nil)) (by kernel_rfl) (by kernel_rfl) (by kernel_rfl) (by kernel_rfl) (by kernel_rfl) (by kernel_rfl) (by kernel_rfl) (by kernel_rfl)) (by kernel_rfl) ?_
                refine o_runs 1 [(76, .ptr 3002300 0 0)] (by kernel_rfl) ?_
                obtain ⟨y18, c18, hs⟩ := bind_some hs
                refine o_loc (F := [(3002300, .box 61 [.str v3.2.1, .bool v3.2.2.1])]) (F' := [(3002300, .box 61 [.str y18.2.1, .bool y18.2.2])]) (v := .int .i64 y18.1) [3002300] (by kernel_rfl) (by kernel_rfl) rfl (by kernel_rfl) (loc_g (R := []) [.ptr 3002300 0 0] [(1000000, 3002300)] (callV_func hbv40 (by kernel_rfl)) (w_greenbeltref01_Reader_Left v3.2.1 v3.2.2.1 _ c18) (.cons (.same _) (.nil)) (by kernel_rfl) (by kernel_rfl) (by kernel_rfl) (by kernel_rfl) (by kernel_rfl) (by kernel_rfl) (by kernel_rfl) (by kernel_rfl)) (by kernel_rfl) ?_
                refine o_runs 3 [(80, .bool (!(decide (y17.1 = y18.1)))), (79, .bool (!(decide (y17.1 = y18.1)))), (78, .bool (!(decide (y17.1 = y18.1))))] (by kernel_rfl) ?_
                cases h9 : ((!(decide (y17.1 = y18.1))))
                · replace hs := bif_f h9 hs
                  refine o_runs 1 [(81, .ptr 3002100 0 0)] (by kernel_rfl) ?_
                  obtain ⟨y19, c19, hs⟩ := bind_some hs
                  refine o_loc (F := [(3002100, .box 54 [.str y17.2.1, .bool y17.2.2])]) (F' := [(3002100, .box 54 [.str y19.2.1, .bool y19.2.2])]) (v := .bool y19.1) [3002100] (by kernel_rfl) (by kernel_rfl) rfl (by kernel_rfl) (loc_g (R := []) [.ptr 3002100 0 0] [(1000000, 3002100)] (callV_func hbv29 (by kernel_rfl)) (w_wire_Reader_Done y17.2.1 y17.2.2 _ c19) (.cons (.same _) (.nil)) (by kernel_rfl) (by kernel_rfl) (by kernel_rfl) (by kernel_rfl) (by kernel_rfl) (by kernel_rfl) (by kernel_rfl) (by kernel_rfl)) (by kernel_rfl) ?_
                  refine o_runs 1 [(83, .ptr 3002300 0 0)] (by kernel_rfl) ?_
                  obtain ⟨y20, c20, hs⟩ := bind_some hs
                  refine o_loc (F := [(3002300, .box 61 [.str y18.2.1, .bool y18.2.2])]) (F' := [(3002300, .box 61 [.str y20.2.1, .bool y20.2.2])]) (v := .bool y20.1) [3002300] (by kernel_rfl) (by kernel_rfl) rfl (by kernel_rfl) (loc_g (R := []) [.ptr 3002300 0 0] [(1000000, 3002300)] (callV_func hbv41 (by kernel_rfl)) (w_greenbeltref01_Reader_Done y18.2.1 y18.2.2 _ c20) (.cons (.same _) (.nil)) (by kernel_rfl) (by kernel_rfl) (by kernel_rfl) (by kernel_rfl) (by kernel_rfl) (by kernel_rfl) (by kernel_rfl) (by kernel_rfl)) (by kernel_rfl) ?_
                  refine o_runs 2 [(86, .bool (!(y19.1 == y20.1))), (85, .bool (!(y19.1 == y20.1)))] (by kernel_rfl) ?_
                  refine ov_nil ?_
                  obtain rfl := Option.some.inj hs
                  refine nrm_join ((!(y19.1 == y20.1)), y20.2.1, y20.2.2, y19.2.1, y19.2.2) rfl ?_
                  exact cut_of [1, 5, 6, 7, 8, 86] [3002300, 3002100, 900000000, 900000001, 900000002] (by kernel_rfl) (by kernel_rfl) (by kernel_rfl)
                · replace hs := bif_t h9 hs
                  refine o_runs 6 [(86, .bool true), (85, .no), (84, .no), (83, .no), (82, .no), (81, .no)] (by kernel_rfl) ?_
                  refine ov_nil ?_
                  obtain rfl := Option.some.inj hs
                  refine nrm_join (true, y18.2.1, y18.2.2, y17.2.1, y17.2.2) rfl ?_
                  exact cut_of [1, 5, 6, 7, 8, 86] [3002300, 3002100, 900000000, 900000001, 900000002] (by kernel_rfl) (by kernel_rfl) (by kernel_rfl)
              · replace hs := bif_t h8 hs
                refine o_runs 13 [(86, .bool true), (85, .no), (84, .no), (83, .no), (82, .no), (81, .no), (80, .bool true), (79, .bool true), (78, .no), (77, .no), (76, .no), (75, .no), (74, .no)] (by kernel_rfl) ?_
                refine ov_nil ?_
                obtain rfl := Option.some.inj hs
                refine nrm_join (true, v3.2.1, v3.2.2.1, v3.2.2.2.1, v3.2.2.2.2) rfl ?_
                exact cut_of [1, 5, 6, 7, 8, 86] [3002300, 3002100, 900000000, 900000001, 900000002] (by kernel_rfl) (by kernel_rfl) (by kernel_rfl)
            · subst hz; clear hs; have hs := hk4; clear hk4
              refine nrm_thenV ?_
              refine v_cond v4.1 (by kernel_rfl) (fun h10 => ?_) (fun h10 => ?_)
              · replace hs := bif_t h10 hs
                refine v_seq ?_
                refine vr_text ?_
                refine o_runs 1 [(4, .bool false)] (by kernel_rfl) ?_
                refine ov_nil ?_
                refine nrm_thenV ?_
                refine v_ret ?_
                refine ret_blkV ?_
                refine ret_thenV ?_
                refine ret_fuel ?_
                refine ret_blkV ?_
                refine ret_join ?_
                refine ret_thenV ?_
                obtain rfl := Option.some.inj hs
                replace hs := hk2
                obtain rfl := Option.some.inj hs
                exact fin_ret (by kernel_rfl) (by kernel_rfl) (by kernel_rfl)
              · replace hs := bif_f h10 hs
                refine v_skip ?_
                refine nrm_blkV ?_
                refine nrm_thenV ?_
                refine vr_text ?_
                refine o_runs 3 [(8, .int .i64 (w64 (q1.1 + 1))), (31, .int .i64 (w64 (q1.1 + 1))), (30, .int .i64 q1.1)] (by kernel_rfl) ?_
                refine ov_nil ?_
                refine nrm_fuel ((w64 (q1.1 + 1)), v4.2.1, v4.2.2.1, v4.2.2.2.1, v4.2.2.2.2) hs ?_
                exact cut_of [1, 5, 6, 7, 8] [3002300, 3002100, 900000000, 900000001, 900000002] (by kernel_rfl) (by kernel_rfl) (by kernel_rfl)
        · replace hs := bif_f h3 hs
          refine v_exit ?_
          refine exit_thenV ?_
          refine exit_fuel ?_
          refine exit_blkV ?_
          obtain rfl := Option.some.inj hs
          refine nrm_join (q1.2.1, q1.2.2.1, q1.2.2.2.1, q1.2.2.2.2) rfl ?_
          exact cut_of [5, 6, 7] [3002300, 3002100, 900000000, 900000001, 900000002] (by kernel_rfl) (by kernel_rfl) (by kernel_rfl)
      · subst hz; clear hs; have hs := hk2; clear hk2
        refine nrm_thenV ?_
        refine v_seq ?_
        obtain ⟨z5, hs, hk5⟩ := bind_some hs
        refine v_join (S := Bool) (fun u => u = z5) (fun u => [(4, .bool u)]) (fun u => [(900000000, gl0 ob0), (900000001, gl1 ob1 u1), (900000002, gl2 ob2 u2)]) ?_ (fun v5 hz => ?_)
        · refine vr_text ?_
          refine o_runs 2 [(88, .bool y1), (87, .bool y1)] (by kernel_rfl) ?_
          cases h11 : (y1)
          · replace hs := bif_f h11 hs
            refine o_runs 21 [(4, .bool false), (108, .bool false), (107, .no), (106, .no), (105, .no), (104, .no), (103, .no), (102, .bool false), (101, .bool false), (100, .no), (99, .no), (98, .no), (97, .no), (96, .no), (95, .bool false), (94, .bool false), (93, .no), (92, .no), (91, .no), (90, .no), (89, .no)] (by kernel_rfl) ?_
            refine ov_nil ?_
            obtain rfl := Option.some.inj hs
            refine nrm_join false rfl ?_
            exact cut_of [4] [900000000, 900000001, 900000002] (by kernel_rfl) (by kernel_rfl) (by kernel_rfl)
          · replace hs := bif_t h11 hs
            refine o_runs 1 [(89, .ptr 3002100 0 0)] (by kernel_rfl) ?_
            obtain ⟨y21, c21, hs⟩ := bind_some hs
            refine o_loc (F := [(3002100, .box 54 [.str v2.2.2.1, .bool v2.2.2.2])]) (F' := [(3002100, .box 54 [.str [], .bool y21.2])]) (v := .str y21.1) [3002100] (by kernel_rfl) (by kernel_rfl) rfl (by kernel_rfl) (loc_g (R := []) [.ptr 3002100 0 0] [(1000000, 3002100)] (callV_func hbv42 (by kernel_rfl)) (w_wire_Reader_Rest v2.2.2.1 v2.2.2.2 _ c21) (.cons (.same _) (.nil)) (by kernel_rfl) (by kernel_rfl) (by kernel_rfl) (by kernel_rfl) (by kernel_rfl) (by kernel_rfl) (by kernel_rfl) (by kernel_rfl)) (by kernel_rfl) ?_
            refine o_runs 1 [(91, .ptr 3002300 0 0)] (by kernel_rfl) ?_
            obtain ⟨y22, c22, hs⟩ := bind_some hs
            refine o_loc (F := [(3002300, .box 61 [.str v2.1, .bool v2.2.1])]) (F' := [(3002300, .box 61 [.str [], .bool y22.2])]) (v := .str y22.1) [3002300] (by kernel_rfl) (by kernel_rfl) rfl (by kernel_rfl) (loc_g (R := []) [.ptr 3002300 0 0] [(1000000, 3002300)] (callV_func hbv43 (by kernel_rfl)) (w_greenbeltref01_Reader_Tail v2.1 v2.2.1 _ c22) (.cons (.same _) (.nil)) (by kernel_rfl) (by kernel_rfl) (by kernel_rfl) (by kernel_rfl) (by kernel_rfl) (by kernel_rfl) (by kernel_rfl) (by kernel_rfl)) (by kernel_rfl) ?_
            refine o_runs 3 [(95, .bool (decide (y21.1 = y22.1))), (94, .bool (decide (y21.1 = y22.1))), (93, .bool (decide (y21.1 = y22.1)))] (by kernel_rfl) ?_
            cases h12 : ((decide (y21.1 = y22.1)))
            · replace hs := bif_f h12 hs
              refine o_runs 14 [(4, .bool false), (108, .bool false), (107, .no), (106, .no), (105, .no), (104, .no), (103, .no), (102, .bool false), (101, .bool false), (100, .no), (99, .no), (98, .no), (97, .no), (96, .no)] (by kernel_rfl) ?_
              refine ov_nil ?_
              obtain rfl := Option.some.inj hs
              refine nrm_join false rfl ?_
              exact cut_of [4] [900000000, 900000001, 900000002] (by kernel_rfl) (by kernel_rfl) (by kernel_rfl)
            · replace hs := bif_t h12 hs
              refine o_runs 1 [(96, .ptr 3002100 0 0)] (by kernel_rfl) ?_
              obtain ⟨y23, c23, hs⟩ := bind_some hs
              refine o_loc (F := [(3002100, .box 54 [.str [], .bool y21.2])]) (F' := [(3002100, .box 54 [.str y23.2.1, .bool y23.2.2])]) (v := .int .i64 y23.1) [3002100] (by kernel_rfl) (by kernel_rfl) rfl (by kernel_rfl) (loc_g (R := []) [.ptr 3002100 0 0] [(1000000, 3002100)] (callV_func hbv28 (by kernel_rfl)) (w_wire_Reader_Left [] y21.2 _ c23) (.cons (.same _) (.nil)) (by kernel_rfl) (by kernel_rfl) (by kernel_rfl) (by kernel_rfl) (by kernel_rfl) (by kernel_rfl) (by kernel_rfl) (by kernel_rfl)) (by kernel_rfl) ?_
              refine o_runs 1 [(98, .ptr 3002300 0 0)] (by kernel_rfl) ?_
              obtain ⟨y24, c24, hs⟩ := bind_some hs
              refine o_loc (F := [(3002300, .box 61 [.str [], .bool y22.2])]) (F' := [(3002300, .box 61 [.str y24.2.1, .bool y24.2.2])]) (v := .int .i64 y24.1) [3002300] (by kernel_rfl) (by kernel_rfl) rfl (by kernel_rfl) (loc_g (R := []) [.ptr 3002300 0 0] [(1000000, 3002300)] (callV_func hbv40 (by kernel_rfl)) (w_greenbeltref01_Reader_Left [] y22.2 _ c24) (.cons (.same _) (.nil)) (by kernel_rfl) (by kernel_rfl) (by kernel_rfl) (by kernel_rfl) (by kernel_rfl) (by kernel_rfl) (by kernel_rfl) (by kernel_rfl)) (by kernel_rfl) ?_
              refine o_runs 3 [(102, .bool (decide (y23.1 = y24.1))), (101, .bool (decide (y23.1 = y24.1))), (100, .bool (decide (y23.1 = y24.1)))] (by kernel_rfl) ?_
              cases h13 : ((decide (y23.1 = y24.1)))
              · replace hs := bif_f h13 hs
                refine o_runs 7 [(4, .bool false), (108, .bool false), (107, .no), (106, .no), (105, .no), (104, .no), (103, .no)] (by kernel_rfl) ?_
                refine ov_nil ?_
                obtain rfl := Option.some.inj hs
                refine nrm_join false rfl ?_
                exact cut_of [4] [900000000, 900000001, 900000002] (by kernel_rfl) (by kernel_rfl) (by kernel_rfl)
              · replace hs := bif_t h13 hs
                refine o_runs 1 [(103, .ptr 3002100 0 0)] (by kernel_rfl) ?_
                obtain ⟨y25, c25, hs⟩ := bind_some hs
                refine o_loc (F := [(3002100, .box 54 [.str y23.2.1, .bool y23.2.2])]) (F' := [(3002100, .box 54 [.str y25.2.1, .bool y25.2.2])]) (v := .bool y25.1) [3002100] (by kernel_rfl) (by kernel_rfl) rfl (by kernel_rfl) (loc_g (R := []) [.ptr 3002100 0 0] [(1000000, 3002100)] (callV_func hbv29 (by kernel_rfl)) (w_wire_Reader_Done y23.2.1 y23.2.2 _ c25) (.cons (.same _) (.nil)) (by kernel_rfl) (by kernel_rfl) (by kernel_rfl) (by kernel_rfl) (by kernel_rfl) (by kernel_rfl) (by kernel_rfl) (by kernel_rfl)) (by kernel_rfl) ?_
                refine o_runs 1 [(105, .ptr 3002300 0 0)] (by kernel_rfl) ?_
                obtain ⟨y26, c26, hs⟩ := bind_some hs
                refine o_loc (F := [(3002300, .box 61 [.str y24.2.1, .bool y24.2.2])]) (F' := [(3002300, .box 61 [.str y26.2.1, .bool y26.2.2])]) (v := .bool y26.1) [3002300] (by kernel_rfl) (by kernel_rfl) rfl (by kernel_rfl) (loc_g (R := []) [.ptr 3002300 0 0] [(1000000, 3002300)] (callV_func hbv41 (by kernel_rfl)) (w_greenbeltref01_Reader_Done y24.2.1 y24.2.2 _ c26) (.cons (.same _) (.nil)) (by kernel_rfl) (by kernel_rfl) (by kernel_rfl) (by kernel_rfl) (by kernel_rfl) (by kernel_rfl) (by kernel_rfl) (by kernel_rfl)) (by kernel_rfl) ?_
                refine o_runs 3 [(4, .bool (y25.1 == y26.1)), (108, .bool (y25.1 == y26.1)), (107, .bool (y25.1 == y26.1))] (by kernel_rfl) ?_
                refine ov_nil ?_
                obtain rfl := Option.some.inj hs
                refine nrm_join (y25.1 == y26.1) rfl ?_
                exact cut_of [4] [900000000, 900000001, 900000002] (by kernel_rfl) (by kernel_rfl) (by kernel_rfl)
        · subst hz; clear hs; have hs := hk5; clear hk5
          refine nrm_thenV ?_
          refine v_ret ?_
          obtain rfl := Option.some.inj hs
          exact fin_ret (by kernel_rfl) (by kernel_rfl) (by kernel_rfl)
def s_greenbeltlaw01_WireBack_L1 (l : (List greenbeltlaw01_Value)) : Nat → ((List UInt8) × Int) → Option (List UInt8)
  | 0, _ => none
  | K1 + 1, q1 => (bif (decide (q1.2 < (List.length l : Int))) then (idx l q1.2).bind fun x1 => (s_greenbeltlaw01_write x1).bind fun y3 => (grd (List.length q1.1 + List.length y3 ≤ 9223372036854775807)).bind fun _ => (s_greenbeltlaw01_WireBack_L1 l) K1 ((q1.1 ++ y3), (w64 (q1.2 + 1))) else some q1.1)
def s_greenbeltlaw01_WireBack_L2 (l : (List greenbeltlaw01_Value)) : Nat → (Int × (List UInt8) × Bool) → Option (Bool ⊕ ((List UInt8) × Bool))
  | 0, _ => none
  | K2 + 1, q2 => (bif (decide (q2.1 < (List.length l : Int))) then (idx l q2.1).bind fun x2 => (s_greenbeltlaw01_equal q2.2.1 q2.2.2 x2).bind fun y5 => (bif (!y5.1) then some (.inl false) else (s_greenbeltlaw01_WireBack_L2 l) K2 ((w64 (q2.1 + 1)), y5.2.1, y5.2.2)) else some (.inr (q2.2.1, q2.2.2)))
def s_greenbeltlaw01_WireBack (l : (List greenbeltlaw01_Value)) (tail : (List UInt8)) : Option Bool :=
  (s_greenbeltlaw01_small ).bind fun y1 => ((s_greenbeltlaw01_few l).bind fun y2 => (bif (!y2) then some true else some (decide ((List.length tail : Int) > 400)))).bind fun v1 => (bif v1 then some y1 else ((s_greenbeltlaw01_WireBack_L1 l) KK ([], 0)).bind fun v2 => (grd (List.length v2 + List.length tail ≤ 9223372036854775807)).bind fun _ => (s_wire_Open (v2 ++ tail)).bind fun y4 => ((s_greenbeltlaw01_WireBack_L2 l) KK (0, y4, false) : Option (Bool ⊕ ((List UInt8) × Bool))).bind fun z3 => match z3 with
 | .inl r => some r
 | .inr v3 => (s_wire_Reader_Left v3.1 v3.2).bind fun y6 => (s_wire_Reader_Done y6.2.1 y6.2.2).bind fun y7 => ((bif y1 then (bif (decide (y6.1 = (List.length tail : Int))) then (bif (y7.1 == (decide (tail = []))) then (s_wire_Reader_Rest y7.2.1 y7.2.2).bind fun y8 => (bif (decide (y8.1 = tail)) then (s_wire_Reader_Done [] y8.2).bind fun y9 => (bif y9.1 then (s_wire_Reader_Left y9.2.1 y9.2.2).bind fun y10 => some (decide (y10.1 = 0)) else some false) else some false) else some false) else some false) else some false)).bind fun v4 => some v4)
theorem w_greenbeltlaw01_WireBack (l : (List greenbeltlaw01_Value)) (tail : (List UInt8)) (r : Bool) (hs : s_greenbeltlaw01_WireBack l tail = some r) : FnA Tryd.prog 8 [.vs 5 (List.map enc_greenbeltlaw01_Value l), .str tail] [(900000000, gl0 ob0), (900000001, gl1 ob1 u1), (900000002, gl2 ob2 u2)] (.bool r) [(900000000, gl0 ob0), (900000001, gl1 ob1 u1), (900000002, gl2 ob2 u2)] := by
  refine fnA_of_wp (N := 86) Tryd.func8 rfl rfl rfl fun cK0 => ?_
  unfold s_greenbeltlaw01_WireBack at hs
  refine v_same (ρ' := [(0, .vs 5 (List.map enc_greenbeltlaw01_Value l)), (1, .str tail)]) rfl rfl ?_
  refine v_seq ?_
  refine vr_text ?_
  refine o_runs 1 [(4, .bool false)] (by kernel_rfl) ?_
  refine ov_nil ?_
  refine nrm_thenV ?_
  refine v_seq ?_
  refine vr_text ?_
  obtain ⟨y1, c1, hs⟩ := bind_some hs
  refine o_loc (F := [(900000000, gl0 ob0), (900000001, gl1 ob1 u1), (900000002, gl2 ob2 u2)]) (F' := [(900000000, gl0 ob0), (900000001, gl1 ob1 u1), (900000002, gl2 ob2 u2)]) (v := .bool y1) [900000000, 900000001, 900000002] (by kernel_rfl) (by kernel_rfl) rfl (by kernel_rfl) (loc_gcallL (vs := []) (G := [(900000000, gl0 ob0), (900000001, gl1 ob1 u1), (900000002, gl2 ob2 u2)]) (R := []) (callV_func hbv9 (by kernel_rfl)) (w_greenbeltlaw01_small (ob0 := ob0) (ob1 := ob1) (ob2 := ob2) (u1 := u1) (u2 := u2)  _ c1) (by kernel_rfl) (.nil) (by kernel_rfl) (by kernel_rfl) (by kernel_rfl)) (by kernel_rfl) ?_
  refine o_runs 1 [(5, .bool y1)] (by kernel_rfl) ?_
  refine ov_nil ?_
  refine nrm_thenV ?_
  refine v_seq ?_
  refine v_seq ?_
  obtain ⟨z1, hs, hk1⟩ := bind_some hs
  refine v_join (S := Bool) (fun u => u = z1) (fun u => [(0, .vs 5 (List.map enc_greenbeltlaw01_Value l)), (1, .str tail), (5, .bool y1), (20, .bool u)]) (fun u => [(900000000, gl0 ob0), (900000001, gl1 ob1 u1), (900000002, gl2 ob2 u2)]) ?_ (fun v1 hz => ?_)
  · refine vr_text ?_
    refine o_runs 1 [(13, .vs 5 (List.map enc_greenbeltlaw01_Value l))] (by kernel_rfl) ?_
    obtain ⟨y2, c2, hs⟩ := bind_some hs
    refine o_pure (v := .bool y2) (by kernel_rfl) (by kernel_rfl) (loc_gcall0 (callV_func hbv10 (by kernel_rfl)) (w_greenbeltlaw01_few l _ c2) (by kernel_rfl)) ?_
    refine o_runs 2 [(16, .bool (!y2)), (15, .bool (!y2))] (by kernel_rfl) ?_
    cases h1 : ((!y2))
    · replace hs := bif_f h1 hs
      refine o_runs 4 [(20, .bool (decide ((List.length tail : Int) > 400))), (19, .bool (decide ((List.length tail : Int) > 400))), (18, .int .i64 (List.length tail : Int)), (17, .str tail)] (by kernel_rfl) ?_
      refine ov_nil ?_
      obtain rfl := Option.some.inj hs
      refine nrm_join (decide ((List.length tail : Int) > 400)) rfl ?_
      exact cut_of [0, 1, 5, 20] [900000000, 900000001, 900000002] (by kernel_rfl) (by kernel_rfl) (by kernel_rfl)
    · replace hs := bif_t h1 hs
      refine o_runs 4 [(20, .bool true), (19, .no), (18, .no), (17, .no)] (by kernel_rfl) ?_
      refine ov_nil ?_
      obtain rfl := Option.some.inj hs
      refine nrm_join true rfl ?_
      exact cut_of [0, 1, 5, 20] [900000000, 900000001, 900000002] (by kernel_rfl) (by kernel_rfl) (by kernel_rfl)
  · subst hz; clear hs; have hs := hk1; clear hk1
    refine nrm_thenV ?_
    refine v_cond v1 (by kernel_rfl) (fun h2 => ?_) (fun h2 => ?_)
    · replace hs := bif_t h2 hs
      refine v_seq ?_
      refine vr_text ?_
      refine o_runs 2 [(4, .bool y1), (21, .bool y1)] (by kernel_rfl) ?_
      refine ov_nil ?_
      refine nrm_thenV ?_
      refine v_ret ?_
      refine ret_thenV ?_
      obtain rfl := Option.some.inj hs
      exact fin_ret (by kernel_rfl) (by kernel_rfl) (by kernel_rfl)
    · replace hs := bif_f h2 hs
      refine v_skip ?_
      refine nrm_thenV ?_
      refine v_seq ?_
      refine vr_text ?_
      refine o_runs 1 [(6, .str [])] (by kernel_rfl) ?_
      refine ov_nil ?_
      refine nrm_thenV ?_
      refine v_seq ?_
      refine v_seq ?_
      refine vr_text ?_
      refine o_runs 1 [(7, .int .i64 0)] (by kernel_rfl) ?_
      refine ov_nil ?_
      refine nrm_thenV ?_
      obtain ⟨z2, hs, hk2⟩ := bind_some hs
      refine v_join (S := (List UInt8)) (fun u => u = z2) (fun u => [(0, .vs 5 (List.map enc_greenbeltlaw01_Value l)), (1, .str tail), (5, .bool y1), (6, .str u)]) (fun u => [(900000000, gl0 ob0), (900000001, gl1 ob1 u1), (900000002, gl2 ob2 u2)]) ?_ (fun v2 hz => ?_)
      · refine v_block ?_
        refine v_fuel (S := (List UInt8) × Int) (fun u => [(0, .vs 5 (List.map enc_greenbeltlaw01_Value l)), (1, .str tail), (5, .bool y1), (6, .str u.1), (7, .int .i64 u.2)]) (fun u => [(900000000, gl0 ob0), (900000001, gl1 ob1 u1), (900000002, gl2 ob2 u2)]) (s_greenbeltlaw01_WireBack_L1 l) (fun _ => rfl) KK ([], 0) hs (cut_of [0, 1, 5, 6, 7] [900000000, 900000001, 900000002] (by kernel_rfl) (by kernel_rfl) (by kernel_rfl)) (fun K1 q1 hs => ?_)
        rw [s_greenbeltlaw01_WireBack_L1] at hs
        show WpV cK0 Tryd.prog none 86 _ _ [(0, .vs 5 (List.map enc_greenbeltlaw01_Value l)), (1, .str tail), (5, .bool y1), (6, .str q1.1), (7, .int .i64 q1.2)] [(900000000, gl0 ob0), (900000001, gl1 ob1 u1), (900000002, gl2 ob2 u2)] []
        refine v_seq ?_
        refine v_seq ?_
        refine vr_text ?_
        refine o_runs 2 [(23, .vs 5 (List.map enc_greenbeltlaw01_Value l)), (22, .int .i64 q1.2)] (by kernel_rfl) ?_
        refine o_pure (v := .int .i64 (List.length l : Int)) (by kernel_rfl) (by kernel_rfl) (loc_lenVs (sz := 5) (els := (List.map enc_greenbeltlaw01_Value l)) (by kernel_rfl) (by kernel_rfl) (List.length_map ..)) ?_
        refine o_runs 1 [(25, .bool (decide (q1.2 < (List.length l : Int))))] (by kernel_rfl) ?_
        refine ov_nil ?_
        refine nrm_thenV ?_
        refine v_cond (decide (q1.2 < (List.length l : Int))) (by kernel_rfl) (fun h3 => ?_) (fun h3 => ?_)
        · replace hs := bif_t h3 hs
          refine v_skip ?_
          refine nrm_thenV ?_
          refine v_seq ?_
          refine v_block ?_
          refine vr_text ?_
          refine o_runs 3 [(30, .int .i64 q1.2), (29, .vs 5 (List.map enc_greenbeltlaw01_Value l)), (28, .str q1.1)] (by kernel_rfl) ?_
          obtain ⟨x1, g1, hs⟩ := bind_some hs; obtain ⟨g1a, g1b, g1c⟩ := idx_some g1
          refine o_pure (v := .vp (enc_greenbeltlaw01_Value x1) 0) (by kernel_rfl) (by kernel_rfl) (loc_indexVs (e := 25) (sz := 5) (k := .i64) (els := (List.map enc_greenbeltlaw01_Value l)) (cs := (enc_greenbeltlaw01_Value x1)) (by kernel_rfl) (by kernel_rfl) (by kernel_rfl) g1a (by rw [g1c]; exact map_get _ (by omega))) ?_
          refine o_runs 1 [(32, .agg (enc_greenbeltlaw01_Value x1))] (by kernel_rfl) ?_
          obtain ⟨y3, c3, hs⟩ := bind_some hs
          refine o_loc (F := [(900000000, gl0 ob0), (900000001, gl1 ob1 u1), (900000002, gl2 ob2 u2)]) (F' := [(900000000, gl0 ob0), (900000001, gl1 ob1 u1), (900000002, gl2 ob2 u2)]) (v := .str y3) [900000000, 900000001, 900000002] (by kernel_rfl) (by kernel_rfl) rfl (by kernel_rfl) (loc_gcallL (vs := [.agg (enc_greenbeltlaw01_Value x1)]) (G := [(900000000, gl0 ob0), (900000001, gl1 ob1 u1), (900000002, gl2 ob2 u2)]) (R := []) (callV_func hbv30 (by kernel_rfl)) (w_greenbeltlaw01_write (ob0 := ob0) (ob1 := ob1) (ob2 := ob2) (u1 := u1) (u2 := u2) x1 _ c3) (by kernel_rfl) (.cons (.same _) (.nil)) (by kernel_rfl) (by kernel_rfl) (by kernel_rfl)) (by kernel_rfl) ?_
          obtain ⟨_, g2, hs⟩ := bind_some hs; replace g2 := grd_some g2
          refine o_pure (v := .str (q1.1 ++ y3)) (by kernel_rfl) (by kernel_rfl) (loc_concat (a := q1.1) (b := y3) (by kernel_rfl) (by kernel_rfl) g2) ?_
          refine o_runs 1 [(6, .str (q1.1 ++ y3))] (by kernel_rfl) ?_
          refine ov_nil ?_
          refine nrm_blkV ?_
          refine nrm_thenV ?_
          refine vr_text ?_
          refine o_runs 3 [(7, .int .i64 (w64 (q1.2 + 1))), (27, .int .i64 (w64 (q1.2 + 1))), (26, .int .i64 q1.2)] (by kernel_rfl) ?_
          refine ov_nil ?_
          refine nrm_fuel ((q1.1 ++ y3), (w64 (q1.2 + 1))) hs ?_
          exact cut_of [0, 1, 5, 6, 7] [900000000, 900000001, 900000002] (by kernel_rfl) (by kernel_rfl) (by kernel_rfl)
        · replace hs := bif_f h3 hs
          refine v_exit ?_
          refine exit_thenV ?_
          refine exit_fuel ?_
          refine exit_blkV ?_
          obtain rfl := Option.some.inj hs
          refine nrm_join q1.1 rfl ?_
          exact cut_of [0, 1, 5, 6] [900000000, 900000001, 900000002] (by kernel_rfl) (by kernel_rfl) (by kernel_rfl)
      · subst hz; clear hs; have hs := hk2; clear hk2
        refine nrm_thenV ?_
        refine v_seq ?_
        refine vr_text ?_
        refine o_runs 2 [(36, .str tail), (35, .str v2)] (by kernel_rfl) ?_
        obtain ⟨_, g3, hs⟩ := bind_some hs; replace g3 := grd_some g3
        refine o_pure (v := .str (v2 ++ tail)) (by kernel_rfl) (by kernel_rfl) (loc_concat (a := v2) (b := tail) (by kernel_rfl) (by kernel_rfl) g3) ?_
        obtain ⟨y4, c4, hs⟩ := bind_some hs
        refine o_loc (F := []) (F' := [(3003800, .box 54 [.str y4, .bool false])]) (v := .ptr 3003800 0 0) [] (by kernel_rfl) (by kernel_rfl) rfl (by kernel_rfl) (loc_g (R := []) [.str (v2 ++ tail)] [(5, 3003800)] (callV_func hbv21 (by kernel_rfl)) (w_wire_Open (v2 ++ tail) _ c4) (.cons (.same _) (.nil)) (by kernel_rfl) (by kernel_rfl) (by kernel_rfl) (by kernel_rfl) (by kernel_rfl) (by kernel_rfl) (by kernel_rfl) (by kernel_rfl)) (by kernel_rfl) ?_
        refine o_runs 1 [(8, .ptr 3003800 0 0)] (by kernel_rfl) ?_
        refine ov_nil ?_
        refine nrm_thenV ?_
        refine v_seq ?_
        refine v_seq ?_
        refine vr_text ?_
        refine o_runs 2 [(40, .bool false), (39, .ptr 3003800 0 0)] (by kernel_rfl) ?_
        refine ov_nil ?_
        refine nrm_thenV ?_
        refine v_cond_f (by kernel_rfl) ?_
        refine v_skip ?_
        refine nrm_thenV ?_
        refine v_seq ?_
        refine v_seq ?_
        refine vr_text ?_
        refine o_runs 1 [(9, .int .i64 0)] (by kernel_rfl) ?_
        refine ov_nil ?_
        refine nrm_thenV ?_
        obtain ⟨z3, hs, hk3⟩ := bind_some hs
        refine v_join (S := (List UInt8) × Bool) (fun u => z3 = .inr u) (fun u => [(1, .str tail), (5, .bool y1), (8, .ptr 3003800 0 0)]) (fun u => [(3003800, .box 54 [.str u.1, .bool u.2]), (900000000, gl0 ob0), (900000001, gl1 ob1 u1), (900000002, gl2 ob2 u2)]) ?_ (fun v3 hz => ?_)
        · refine v_block ?_
          refine v_fuel (S := Int × (List UInt8) × Bool) (fun u => [(0, .vs 5 (List.map enc_greenbeltlaw01_Value l)), (1, .str tail), (5, .bool y1), (8, .ptr 3003800 0 0), (9, .int .i64 u.1)]) (fun u => [(3003800, .box 54 [.str u.2.1, .bool u.2.2]), (900000000, gl0 ob0), (900000001, gl1 ob1 u1), (900000002, gl2 ob2 u2)]) (s_greenbeltlaw01_WireBack_L2 l) (fun _ => rfl) KK (0, y4, false) hs (cut_of [0, 1, 5, 8, 9] [3003800, 900000000, 900000001, 900000002] (by kernel_rfl) (by kernel_rfl) (by kernel_rfl)) (fun K2 q2 hs => ?_)
          rw [s_greenbeltlaw01_WireBack_L2] at hs
          show WpV cK0 Tryd.prog none 86 _ _ [(0, .vs 5 (List.map enc_greenbeltlaw01_Value l)), (1, .str tail), (5, .bool y1), (8, .ptr 3003800 0 0), (9, .int .i64 q2.1)] [(3003800, .box 54 [.str q2.2.1, .bool q2.2.2]), (900000000, gl0 ob0), (900000001, gl1 ob1 u1), (900000002, gl2 ob2 u2)] []
          refine v_seq ?_
          refine v_seq ?_
          refine vr_text ?_
          refine o_runs 2 [(42, .vs 5 (List.map enc_greenbeltlaw01_Value l)), (41, .int .i64 q2.1)] (by kernel_rfl) ?_
          refine o_pure (v := .int .i64 (List.length l : Int)) (by kernel_rfl) (by kernel_rfl) (loc_lenVs (sz := 5) (els := (List.map enc_greenbeltlaw01_Value l)) (by kernel_rfl) (by kernel_rfl) (List.length_map ..)) ?_
          refine o_runs 1 [(44, .bool (decide (q2.1 < (List.length l : Int))))] (by kernel_rfl) ?_
          refine ov_nil ?_
          refine nrm_thenV ?_
          refine v_cond (decide (q2.1 < (List.length l : Int))) (by kernel_rfl) (fun h4 => ?_) (fun h4 => ?_)
          · replace hs := bif_t h4 hs
            refine v_skip ?_
            refine nrm_thenV ?_
            refine v_seq ?_
            refine v_block ?_
            refine v_seq ?_
            refine vr_text ?_
            refine o_runs 3 [(49, .int .i64 q2.1), (48, .vs 5 (List.map enc_greenbeltlaw01_Value l)), (47, .ptr 3003800 0 0)] (by kernel_rfl) ?_
            obtain ⟨x2, g4, hs⟩ := bind_some hs; obtain ⟨g4a, g4b, g4c⟩ := idx_some g4
            refine o_pure (v := .vp (enc_greenbeltlaw01_Value x2) 0) (by kernel_rfl) (by kernel_rfl) (loc_indexVs (e := 25) (sz := 5) (k := .i64) (els := (List.map enc_greenbeltlaw01_Value l)) (cs := (enc_greenbeltlaw01_Value x2)) (by kernel_rfl) (by kernel_rfl) (by kernel_rfl) g4a (by rw [g4c]; exact map_get _ (by omega))) ?_
            refine o_runs 1 [(51, .agg (enc_greenbeltlaw01_Value x2))] (by kernel_rfl) ?_
            obtain ⟨y5, c5, hs⟩ := bind_some hs
            refine o_loc (F := [(3003800, .box 54 [.str q2.2.1, .bool q2.2.2]), (900000000, gl0 ob0), (900000001, gl1 ob1 u1), (900000002, gl2 ob2 u2)]) (F' := [(3003800, .box 54 [.str y5.2.1, .bool y5.2.2]), (900000000, gl0 ob0), (900000001, gl1 ob1 u1), (900000002, gl2 ob2 u2)]) (v := .bool y5.1) [3003800, 900000000, 900000001, 900000002] (by kernel_rfl) (by kernel_rfl) rfl (by kernel_rfl) (loc_g (R := []) [.ptr 3003800 0 0, .agg (enc_greenbeltlaw01_Value x2)] [(1000000, 3003800), (900000000, 900000000), (900000001, 900000001), (900000002, 900000002)] (callV_func hbv31 (by kernel_rfl)) (w_greenbeltlaw01_equal (ob0 := ob0) (ob1 := ob1) (ob2 := ob2) (u1 := u1) (u2 := u2) q2.2.1 q2.2.2 x2 _ c5) (.cons (.same _) (.cons (.same _) (.nil))) (by kernel_rfl) (by kernel_rfl) (by kernel_rfl) (by kernel_rfl) (by kernel_rfl) (by kernel_rfl) (by kernel_rfl) (by kernel_rfl)) (by kernel_rfl) ?_
            refine o_runs 1 [(53, .bool (!y5.1))] (by kernel_rfl) ?_
            refine ov_nil ?_
            refine nrm_thenV ?_
            refine v_cond (!y5.1) (by kernel_rfl) (fun h5 => ?_) (fun h5 => ?_)
            · replace hs := bif_t h5 hs
              refine v_seq ?_
              refine vr_text ?_
              refine o_runs 1 [(4, .bool false)] (by kernel_rfl) ?_
              refine ov_nil ?_
              refine nrm_thenV ?_
              refine v_ret ?_
              refine ret_blkV ?_
              refine ret_thenV ?_
              refine ret_fuel ?_
              refine ret_blkV ?_
              refine ret_join ?_
              refine ret_thenV ?_
              obtain rfl := Option.some.inj hs
              replace hs := hk3
              obtain rfl := Option.some.inj hs
              exact fin_ret (by kernel_rfl) (by kernel_rfl) (by kernel_rfl)
            · replace hs := bif_f h5 hs
              refine v_skip ?_
              refine nrm_blkV ?_
              refine nrm_thenV ?_
              refine vr_text ?_
              refine o_runs 3 [(9, .int .i64 (w64 (q2.1 + 1))), (46, .int .i64 (w64 (q2.1 + 1))), (45, .int .i64 q2.1)] (by kernel_rfl) ?_
              refine ov_nil ?_
              refine nrm_fuel ((w64 (q2.1 + 1)), y5.2.1, y5.2.2) hs ?_
              exact cut_of [0, 1, 5, 8, 9] [3003800, 900000000, 900000001, 900000002] (by kernel_rfl) (by kernel_rfl) (by kernel_rfl)
          · replace hs := bif_f h4 hs
            refine v_exit ?_
            refine exit_thenV ?_
            refine exit_fuel ?_
            refine exit_blkV ?_
            obtain rfl := Option.some.inj hs
            refine nrm_join (q2.2.1, q2.2.2) rfl ?_
            exact cut_of [1, 5, 8] [3003800, 900000000, 900000001, 900000002] (by kernel_rfl) (by kernel_rfl) (by kernel_rfl)
        · subst hz; clear hs; have hs := hk3; clear hk3
          refine nrm_thenV ?_
          refine v_seq ?_
          refine vr_text ?_
          refine o_runs 1 [(54, .ptr 3003800 0 0)] (by kernel_rfl) ?_
          obtain ⟨y6, c6, hs⟩ := bind_some hs
          refine o_loc (F := [(3003800, .box 54 [.str v3.1, .bool v3.2])]) (F' := [(3003800, .box 54 [.str y6.2.1, .bool y6.2.2])]) (v := .int .i64 y6.1) [3003800] (by kernel_rfl) (by kernel_rfl) rfl (by kernel_rfl) (loc_g (R := []) [.ptr 3003800 0 0] [(1000000, 3003800)] (callV_func hbv28 (by kernel_rfl)) (w_wire_Reader_Left v3.1 v3.2 _ c6) (.cons (.same _) (.nil)) (by kernel_rfl) (by kernel_rfl) (by kernel_rfl) (by kernel_rfl) (by kernel_rfl) (by kernel_rfl) (by kernel_rfl) (by kernel_rfl)) (by kernel_rfl) ?_
          refine o_runs 1 [(10, .int .i64 y6.1)] (by kernel_rfl) ?_
          refine ov_nil ?_
          refine nrm_thenV ?_
          refine v_seq ?_
          refine vr_text ?_
          refine o_runs 1 [(56, .ptr 3003800 0 0)] (by kernel_rfl) ?_
          obtain ⟨y7, c7, hs⟩ := bind_some hs
          refine o_loc (F := [(3003800, .box 54 [.str y6.2.1, .bool y6.2.2])]) (F' := [(3003800, .box 54 [.str y7.2.1, .bool y7.2.2])]) (v := .bool y7.1) [3003800] (by kernel_rfl) (by kernel_rfl) rfl (by kernel_rfl) (loc_g (R := []) [.ptr 3003800 0 0] [(1000000, 3003800)] (callV_func hbv29 (by kernel_rfl)) (w_wire_Reader_Done y6.2.1 y6.2.2 _ c7) (.cons (.same _) (.nil)) (by kernel_rfl) (by kernel_rfl) (by kernel_rfl) (by kernel_rfl) (by kernel_rfl) (by kernel_rfl) (by kernel_rfl) (by kernel_rfl)) (by kernel_rfl) ?_
          refine o_runs 1 [(11, .bool y7.1)] (by kernel_rfl) ?_
          refine ov_nil ?_
          refine nrm_thenV ?_
          refine v_seq ?_
          obtain ⟨z4, hs, hk4⟩ := bind_some hs
          refine v_join (S := Bool) (fun u => u = z4) (fun u => [(4, .bool u)]) (fun u => [(900000000, gl0 ob0), (900000001, gl1 ob1 u1), (900000002, gl2 ob2 u2)]) ?_ (fun v4 hz => ?_)
          · refine vr_text ?_
            refine o_runs 2 [(59, .bool y1), (58, .bool y1)] (by kernel_rfl) ?_
            cases h6 : (y1)
            · replace hs := bif_f h6 hs
              refine o_runs 27 [(4, .bool false), (85, .bool false), (84, .no), (83, .no), (82, .no), (81, .bool false), (80, .bool false), (79, .no), (78, .no), (77, .bool false), (76, .bool false), (75, .no), (74, .no), (73, .no), (72, .no), (71, .bool false), (70, .bool false), (69, .no), (68, .no), (67, .no), (66, .no), (65, .bool false), (64, .bool false), (63, .no), (62, .no), (61, .no), (60, .no)] (by kernel_rfl) ?_
              refine ov_nil ?_
              obtain rfl := Option.some.inj hs
              refine nrm_join false rfl ?_
              exact cut_of [4] [900000000, 900000001, 900000002] (by kernel_rfl) (by kernel_rfl) (by kernel_rfl)
            · replace hs := bif_t h6 hs
              refine o_runs 6 [(65, .bool (decide (y6.1 = (List.length tail : Int)))), (64, .bool (decide (y6.1 = (List.length tail : Int)))), (63, .bool (decide (y6.1 = (List.length tail : Int)))), (62, .int .i64 (List.length tail : Int)), (61, .str tail), (60, .int .i64 y6.1)] (by kernel_rfl) ?_
              cases h7 : ((decide (y6.1 = (List.length tail : Int))))
              · replace hs := bif_f h7 hs
                refine o_runs 21 [(4, .bool false), (85, .bool false), (84, .no), (83, .no), (82, .no), (81, .bool false), (80, .bool false), (79, .no), (78, .no), (77, .bool false), (76, .bool false), (75, .no), (74, .no), (73, .no), (72, .no), (71, .bool false), (70, .bool false), (69, .no), (68, .no), (67, .no), (66, .no)] (by kernel_rfl) ?_
                refine ov_nil ?_
                obtain rfl := Option.some.inj hs
                refine nrm_join false rfl ?_
                exact cut_of [4] [900000000, 900000001, 900000002] (by kernel_rfl) (by kernel_rfl) (by kernel_rfl)
              · replace hs := bif_t h7 hs
                refine o_runs 6 [(71, .bool (y7.1 == (decide (tail = [])))), (70, .bool (y7.1 == (decide (tail = [])))), (69, .bool (y7.1 == (decide (tail = [])))), (68, .bool (decide (tail = []))), (67, .str tail), (66, .bool y7.1)] (by kernel_rfl) ?_
                cases h8 : ((y7.1 == (decide (tail = []))))
                · replace hs := bif_f h8 hs
                  refine o_runs 15 [(4, .bool false), (85, .bool false), (84, .no), (83, .no), (82, .no), (81, .bool false), (80, .bool false), (79, .no), (78, .no), (77, .bool false), (76, .bool false), (75, .no), (74, .no), (73, .no), (72, .no)] (by kernel_rfl) ?_
                  refine ov_nil ?_
                  obtain rfl := Option.some.inj hs
                  refine nrm_join false rfl ?_
                  exact cut_of [4] [900000000, 900000001, 900000002] (by kernel_rfl) (by kernel_rfl) (by kernel_rfl)
                · replace hs := bif_t h8 hs
                  refine o_runs 1 [(72, .ptr 3003800 0 0)] (by kernel_rfl) ?_
                  obtain ⟨y8, c8, hs⟩ := bind_some hs
                  refine o_loc (F := [(3003800, .box 54 [.str y7.2.1, .bool y7.2.2])]) (F' := [(3003800, .box 54 [.str [], .bool y8.2])]) (v := .str y8.1) [3003800] (by kernel_rfl) (by kernel_rfl) rfl (by kernel_rfl) (loc_g (R := []) [.ptr 3003800 0 0] [(1000000, 3003800)] (callV_func hbv42 (by kernel_rfl)) (w_wire_Reader_Rest y7.2.1 y7.2.2 _ c8) (.cons (.same _) (.nil)) (by kernel_rfl) (by kernel_rfl) (by kernel_rfl) (by kernel_rfl) (by kernel_rfl) (by kernel_rfl) (by kernel_rfl) (by kernel_rfl)) (by kernel_rfl) ?_
                  refine o_runs 4 [(77, .bool (decide (y8.1 = tail))), (76, .bool (decide (y8.1 = tail))), (75, .bool (decide (y8.1 = tail))), (74, .str tail)] (by kernel_rfl) ?_
                  cases h9 : ((decide (y8.1 = tail)))
                  · replace hs := bif_f h9 hs
                    refine o_runs 9 [(4, .bool false), (85, .bool false), (84, .no), (83, .no), (82, .no), (81, .bool false), (80, .bool false), (79, .no), (78, .no)] (by kernel_rfl) ?_
                    refine ov_nil ?_
                    obtain rfl := Option.some.inj hs
                    refine nrm_join false rfl ?_
                    exact cut_of [4] [900000000, 900000001, 900000002] (by kernel_rfl) (by kernel_rfl) (by kernel_rfl)
                  · replace hs := bif_t h9 hs
                    refine o_runs 1 [(78, .ptr 3003800 0 0)] (by kernel_rfl) ?_
                    obtain ⟨y9, c9, hs⟩ := bind_some hs
                    refine o_loc (F := [(3003800, .box 54 [.str [], .bool y8.2])]) (F' := [(3003800, .box 54 [.str y9.2.1, .bool y9.2.2])]) (v := .bool y9.1) [3003800] (by kernel_rfl) (by kernel_rfl) rfl (by kernel_rfl) (loc_g (R := []) [.ptr 3003800 0 0] [(1000000, 3003800)] (callV_func hbv29 (by kernel_rfl)) (w_wire_Reader_Done [] y8.2 _ c9) (.cons (.same _) (.nil)) (by kernel_rfl) (by kernel_rfl) (by kernel_rfl) (by kernel_rfl) (by kernel_rfl) (by kernel_rfl) (by kernel_rfl) (by kernel_rfl)) (by kernel_rfl) ?_
                    refine o_runs 2 [(81, .bool y9.1), (80, .bool y9.1)] (by kernel_rfl) ?_
                    cases h10 : (y9.1)
                    · replace hs := bif_f h10 hs
                      refine o_runs 5 [(4, .bool false), (85, .bool false), (84, .no), (83, .no), (82, .no)] (by kernel_rfl) ?_
                      refine ov_nil ?_
                      obtain rfl := Option.some.inj hs
                      refine nrm_join false rfl ?_
                      exact cut_of [4] [900000000, 900000001, 900000002] (by kernel_rfl) (by kernel_rfl) (by kernel_rfl)
                    · replace hs := bif_t h10 hs
                      refine o_runs 1 [(82, .ptr 3003800 0 0)] (by kernel_rfl) ?_
                      obtain ⟨y10, c10, hs⟩ := bind_some hs
                      refine o_loc (F := [(3003800, .box 54 [.str y9.2.1, .bool y9.2.2])]) (F' := [(3003800, .box 54 [.str y10.2.1, .bool y10.2.2])]) (v := .int .i64 y10.1) [3003800] (by kernel_rfl) (by kernel_rfl) rfl (by kernel_rfl) (loc_g (R := []) [.ptr 3003800 0 0] [(1000000, 3003800)] (callV_func hbv28 (by kernel_rfl)) (w_wire_Reader_Left y9.2.1 y9.2.2 _ c10) (.cons (.same _) (.nil)) (by kernel_rfl) (by kernel_rfl) (by kernel_rfl) (by kernel_rfl) (by kernel_rfl) (by kernel_rfl) (by kernel_rfl) (by kernel_rfl)) (by kernel_rfl) ?_
                      refine o_runs 3 [(4, .bool (decide (y10.1 = 0))), (85, .bool (decide (y10.1 = 0))), (84, .bool (decide (y10.1 = 0)))] (by kernel_rfl) ?_
                      refine ov_nil ?_
                      obtain rfl := Option.some.inj hs
                      refine nrm_join (decide (y10.1 = 0)) rfl ?_
                      exact cut_of [4] [900000000, 900000001, 900000002] (by kernel_rfl) (by kernel_rfl) (by kernel_rfl)
          · subst hz; clear hs; have hs := hk4; clear hk4
            refine nrm_thenV ?_
            refine v_ret ?_
            obtain rfl := Option.some.inj hs
            exact fin_ret (by kernel_rfl) (by kernel_rfl) (by kernel_rfl)
end Go.Proofs.YtbejhkfojiijmaaDoor
