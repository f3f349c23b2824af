/- printed by gen2.py -/
import Derived.Test.YtpabacdeogeehaaGreatDoorE
import Derived.Test.YtpabacdeogeehaaGreatDoorSD
set_option linter.all false
set_option maxRecDepth 100000
namespace Go.Proofs.YtpabacdeogeehaaGreatDoor
open Go Go.RowKit Go.Eng Go.EV
variable [Fuel]
variable {ob0 ob1 ob2 : Go.Obj} {u1 u2 : TypeId}

theorem hbv15 : hasBody Tryz.prog 15 := body_of (by kernel_rfl)
theorem mixedH : Tryz.prog.follows .mixedOrders = true := by kernel_rfl
theorem hbv18 : hasBody Tryz.prog 18 := body_of (by kernel_rfl)
theorem hbv6 : hasBody Tryz.prog 6 := body_of (by kernel_rfl)
theorem hbv33 : hasBody Tryz.prog 33 := body_of (by kernel_rfl)
theorem hbv34 : hasBody Tryz.prog 34 := body_of (by kernel_rfl)
theorem hbv59 : hasBody Tryz.prog 59 := body_of (by kernel_rfl)
theorem hbv21 : hasBody Tryz.prog 21 := body_of (by kernel_rfl)
theorem hbv8 : hasBody Tryz.prog 8 := body_of (by kernel_rfl)
theorem hbv41 : hasBody Tryz.prog 41 := body_of (by kernel_rfl)
theorem hbv42 : hasBody Tryz.prog 42 := body_of (by kernel_rfl)
theorem hbv25 : hasBody Tryz.prog 25 := body_of (by kernel_rfl)
theorem hbv10 : hasBody Tryz.prog 10 := body_of (by kernel_rfl)
theorem hbv16 : hasBody Tryz.prog 16 := body_of (by kernel_rfl)
theorem hbv30 : hasBody Tryz.prog 30 := body_of (by kernel_rfl)
theorem hbv17 : hasBody Tryz.prog 17 := body_of (by kernel_rfl)
theorem hbv19 : hasBody Tryz.prog 19 := body_of (by kernel_rfl)
theorem hbv20 : hasBody Tryz.prog 20 := body_of (by kernel_rfl)
theorem hbv7 : hasBody Tryz.prog 7 := body_of (by kernel_rfl)
theorem hbv4 : hasBody Tryz.prog 4 := body_of (by kernel_rfl)
theorem hbv5 : hasBody Tryz.prog 5 := body_of (by kernel_rfl)
theorem hbv60 : hasBody Tryz.prog 60 := body_of (by kernel_rfl)
theorem hbv35 : hasBody Tryz.prog 35 := body_of (by kernel_rfl)
theorem hbv22 : hasBody Tryz.prog 22 := body_of (by kernel_rfl)
theorem kok9 : KeyOK Tryz.prog 9 V.str (fun s : List UInt8 => Value.string ⟨s.toArray⟩) := keyOK_str (by kernel_rfl)
theorem hbv61 : hasBody Tryz.prog 61 := body_of (by kernel_rfl)
theorem hbv105 : hasBody Tryz.prog 105 := body_of (by kernel_rfl)
theorem hbv107 : hasBody Tryz.prog 107 := body_of (by kernel_rfl)
theorem hbv106 : hasBody Tryz.prog 106 := body_of (by kernel_rfl)
theorem hbv126 : hasBody Tryz.prog 126 := body_of (by kernel_rfl)
theorem hbv84 : hasBody Tryz.prog 84 := body_of (by kernel_rfl)
theorem hbv62 : hasBody Tryz.prog 62 := body_of (by kernel_rfl)
theorem hbv63 : hasBody Tryz.prog 63 := body_of (by kernel_rfl)
theorem hbv88 : hasBody Tryz.prog 88 := body_of (by kernel_rfl)
theorem hbv110 : hasBody Tryz.prog 110 := body_of (by kernel_rfl)
theorem hbv87 : hasBody Tryz.prog 87 := body_of (by kernel_rfl)
theorem hbv64 : hasBody Tryz.prog 64 := body_of (by kernel_rfl)
theorem hbv36 : hasBody Tryz.prog 36 := body_of (by kernel_rfl)
theorem hbv66 : hasBody Tryz.prog 66 := body_of (by kernel_rfl)
theorem hbv65 : hasBody Tryz.prog 65 := body_of (by kernel_rfl)
theorem hbv68 : hasBody Tryz.prog 68 := body_of (by kernel_rfl)
theorem hbv67 : hasBody Tryz.prog 67 := body_of (by kernel_rfl)
theorem hbv37 : hasBody Tryz.prog 37 := body_of (by kernel_rfl)
theorem hbv69 : hasBody Tryz.prog 69 := body_of (by kernel_rfl)
theorem hbv39 : hasBody Tryz.prog 39 := body_of (by kernel_rfl)
theorem hbv38 : hasBody Tryz.prog 38 := body_of (by kernel_rfl)
theorem hbv24 : hasBody Tryz.prog 24 := body_of (by kernel_rfl)
theorem hbv70 : hasBody Tryz.prog 70 := body_of (by kernel_rfl)
theorem hbv40 : hasBody Tryz.prog 40 := body_of (by kernel_rfl)
theorem hbv23 : hasBody Tryz.prog 23 := body_of (by kernel_rfl)
theorem hbv9 : hasBody Tryz.prog 9 := body_of (by kernel_rfl)
theorem hbv44 : hasBody Tryz.prog 44 := body_of (by kernel_rfl)
theorem noesc98 : NoEsc Tryz.prog 98 := ⟨_, Tryz.func98, by kernel_rfl, by kernel_rfl, by kernel_rfl, by kernel_rfl⟩
theorem hbv72 : hasBody Tryz.prog 72 := body_of (by kernel_rfl)
theorem hbv43 : hasBody Tryz.prog 43 := body_of (by kernel_rfl)
theorem hbv27 : hasBody Tryz.prog 27 := body_of (by kernel_rfl)
theorem hbv45 : hasBody Tryz.prog 45 := body_of (by kernel_rfl)
theorem hbv26 : hasBody Tryz.prog 26 := body_of (by kernel_rfl)
theorem hbv11 : hasBody Tryz.prog 11 := body_of (by kernel_rfl)
theorem hbv12 : hasBody Tryz.prog 12 := body_of (by kernel_rfl)
theorem hbv74 : hasBody Tryz.prog 74 := body_of (by kernel_rfl)
theorem hbv75 : hasBody Tryz.prog 75 := body_of (by kernel_rfl)
theorem hbv76 : hasBody Tryz.prog 76 := body_of (by kernel_rfl)
theorem hbv46 : hasBody Tryz.prog 46 := body_of (by kernel_rfl)
theorem hbv29 : hasBody Tryz.prog 29 := body_of (by kernel_rfl)
theorem hbv125 : hasBody Tryz.prog 125 := body_of (by kernel_rfl)
theorem hbv103 : hasBody Tryz.prog 103 := body_of (by kernel_rfl)
theorem hbv77 : hasBody Tryz.prog 77 := body_of (by kernel_rfl)
theorem hbv47 : hasBody Tryz.prog 47 := body_of (by kernel_rfl)
theorem hbv28 : hasBody Tryz.prog 28 := body_of (by kernel_rfl)
theorem hbv13 : hasBody Tryz.prog 13 := body_of (by kernel_rfl)
theorem hbv14 : hasBody Tryz.prog 14 := body_of (by kernel_rfl)
theorem w_greenbeltlaw44_sample  (r : (List Fact)) (hs : s_greenbeltlaw44_sample  = some r) : FnA Tryz.prog 15 [] [] (.vs 5 (List.map enc_Fact r)) [] := by
 refine fnA_of_wp (N := 5) Tryz.func15 rfl rfl rfl fun cK0 => ?_
 unfold s_greenbeltlaw44_sample at hs
 refine v_same (ρ' := []) rfl rfl ?_
 refine v_seq (vr_text (o_runs 1 [(0, .nils)] (by kernel_rfl) ?_))
 refine ov_nil (nrm_thenV (v_seq (vr_text (o_runh 5 [(0, .sl 5 4 3 0 3), (4, .sl 5 4 3 0 3), (3, .agg [.str ([97, 114, 101, 97] : List UInt8), .int .i64 95, .int .i64 15, .int .i64 0, .int .i64 12]), (2, .agg [.str ([97, 114, 101, 97] : List UInt8), .int .i64 90, .int .i64 10, .int .i64 20, .int .i64 8]), (1, .agg [.str ([97, 114, 101, 97] : List UInt8), .int .i64 100, .int .i64 0, .int .i64 0, .int .i64 5])] [(4, .row 48 5 0 (List.map enc_Fact [(Fact.mk ([97, 114, 101, 97] : List UInt8) 100 0 0 5), (Fact.mk ([97, 114, 101, 97] : List UInt8) 90 10 20 8), (Fact.mk ([97, 114, 101, 97] : List UInt8) 95 15 0 12)]))] (by kernel_rfl) ?_))))
 refine ov_nil (nrm_thenV (v_to _ [(4, .row 48 5 (((List.map enc_Fact [(Fact.mk ([97, 114, 101, 97] : List UInt8) 100 0 0 5), (Fact.mk ([97, 114, 101, 97] : List UInt8) 90 10 20 8), (Fact.mk ([97, 114, 101, 97] : List UInt8) 95 15 0 12)])).length) (List.map enc_Fact [(Fact.mk ([97, 114, 101, 97] : List UInt8) 100 0 0 5), (Fact.mk ([97, 114, 101, 97] : List UInt8) 90 10 20 8), (Fact.mk ([97, 114, 101, 97] : List UInt8) 95 15 0 12)]))] (cut_freeze (F := [(4, .row 48 5 0 (List.map enc_Fact [(Fact.mk ([97, 114, 101, 97] : List UInt8) 100 0 0 5), (Fact.mk ([97, 114, 101, 97] : List UInt8) 90 10 20 8), (Fact.mk ([97, 114, 101, 97] : List UInt8) 95 15 0 12)]))]) [4] rfl (by kernel_rfl) (by kernel_rfl)) ?_))
 refine v_to ((0, .vs 5 (List.map enc_Fact [(Fact.mk ([97, 114, 101, 97] : List UInt8) 100 0 0 5), (Fact.mk ([97, 114, 101, 97] : List UInt8) 90 10 20 8), (Fact.mk ([97, 114, 101, 97] : List UInt8) 95 15 0 12)])) :: _) _ (cut_view (R := [(4, .row 48 5 (((List.map enc_Fact [(Fact.mk ([97, 114, 101, 97] : List UInt8) 100 0 0 5), (Fact.mk ([97, 114, 101, 97] : List UInt8) 90 10 20 8), (Fact.mk ([97, 114, 101, 97] : List UInt8) 95 15 0 12)])).length) (List.map enc_Fact [(Fact.mk ([97, 114, 101, 97] : List UInt8) 100 0 0 5), (Fact.mk ([97, 114, 101, 97] : List UInt8) 90 10 20 8), (Fact.mk ([97, 114, 101, 97] : List UInt8) 95 15 0 12)]))]) (ks := [4]) (by kernel_rfl) (by kernel_rfl) (.row (t := 48) (fz := (((List.map enc_Fact [(Fact.mk ([97, 114, 101, 97] : List UInt8) 100 0 0 5), (Fact.mk ([97, 114, 101, 97] : List UInt8) 90 10 20 8), (Fact.mk ([97, 114, 101, 97] : List UInt8) 95 15 0 12)])).length)) (by kernel_rfl) (by first | (simp only [List.length_map, List.length_set]; done) | rfl))) ?_
 refine v_ret ?_
 obtain rfl := si hs
 exact fin_ret (by kernel_rfl) (by kernel_rfl) (by kernel_rfl)
theorem w_fact_valid (f : Fact) (r : Bool) (hs : s_fact_valid f = some r) : FnA Tryz.prog 18 [.agg (enc_Fact f)] [] (.bool r) [] := by
 refine fnA_of_wp (N := 42) Tryz.func18 rfl rfl rfl fun cK0 => ?_
 unfold s_fact_valid at hs
 refine v_same (ρ' := [(0, .agg (enc_Fact f))]) rfl rfl ?_
 refine v_seq (vr_text (o_runh 2 [(2, .bool false), (1, .ptr 1 0 0)] [(1, .box 48 [.str f.Key, .int .i64 f.Value, .int .i64 f.From, .int .i64 f.Until, .int .i64 f.Known])] (by kernel_rfl) ?_))
 refine ov_nil (nrm_thenV (v_seq ?_))
 obtain ⟨z1, hs, hk1⟩ := bind_some hs
 refine v_join (S := Bool) (fun u => u = z1) (fun u => [(2, .bool u)]) (fun u => []) ?_ (fun v1 hz => ?_)
 ·refine vr_text (o_runs 4 [(6, .bool (!(decide (f.Key = [])))), (5, .bool (!(decide (f.Key = [])))), (4, .str f.Key), (3, .ptr 1 0 0)] (by kernel_rfl) ?_)
  cases h1 : ((!(decide (f.Key = []))))
  ·replace hs := bif_f h1 hs
   refine o_runs 36 [(2, .bool false), (41, .bool false), (40, .no), (39, .no), (38, .no), (37, .no), (36, .no), (35, .no), (34, .no), (33, .no), (32, .no), (31, .no), (30, .bool false), (29, .bool false), (28, .no), (27, .no), (26, .no), (25, .no), (24, .no), (23, .no), (22, .no), (21, .no), (20, .bool false), (19, .bool false), (18, .no), (17, .no), (16, .no), (15, .no), (14, .no), (13, .no), (12, .bool false), (11, .bool false), (10, .no), (9, .no), (8, .no), (7, .no)] (by kernel_rfl) ?_
   refine ov_nil ?_
   obtain rfl := si hs
   refine nrm_join false rfl ?_
   exact cut_of [2] [] (by kernel_rfl) (by kernel_rfl) (by kernel_rfl)
  ·replace hs := bif_t h1 hs
   refine o_runs 6 [(12, .bool (decide ((List.length f.Key : Int) ≤ 20))), (11, .bool (decide ((List.length f.Key : Int) ≤ 20))), (10, .bool (decide ((List.length f.Key : Int) ≤ 20))), (9, .int .i64 (List.length f.Key : Int)), (8, .str f.Key), (7, .ptr 1 0 0)] (by kernel_rfl) ?_
   cases h2 : ((decide ((List.length f.Key : Int) ≤ 20)))
   ·replace hs := bif_f h2 hs
    refine o_runs 30 [(2, .bool false), (41, .bool false), (40, .no), (39, .no), (38, .no), (37, .no), (36, .no), (35, .no), (34, .no), (33, .no), (32, .no), (31, .no), (30, .bool false), (29, .bool false), (28, .no), (27, .no), (26, .no), (25, .no), (24, .no), (23, .no), (22, .no), (21, .no), (20, .bool false), (19, .bool false), (18, .no), (17, .no), (16, .no), (15, .no), (14, .no), (13, .no)] (by kernel_rfl) ?_
    refine ov_nil ?_
    obtain rfl := si hs
    refine nrm_join false rfl ?_
    exact cut_of [2] [] (by kernel_rfl) (by kernel_rfl) (by kernel_rfl)
   ·replace hs := bif_t h2 hs
    refine o_runs 8 [(20, .bool (decide ((min f.From f.Known) ≥ 0))), (19, .bool (decide ((min f.From f.Known) ≥ 0))), (18, .bool (decide ((min f.From f.Known) ≥ 0))), (17, .int .i64 (min f.From f.Known)), (16, .int .i64 f.Known), (15, .ptr 1 0 4), (14, .int .i64 f.From), (13, .ptr 1 0 2)] (by kernel_rfl) ?_
    cases h3 : ((decide ((min f.From f.Known) ≥ 0)))
    ·replace hs := bif_f h3 hs
     refine o_runs 22 [(2, .bool false), (41, .bool false), (40, .no), (39, .no), (38, .no), (37, .no), (36, .no), (35, .no), (34, .no), (33, .no), (32, .no), (31, .no), (30, .bool false), (29, .bool false), (28, .no), (27, .no), (26, .no), (25, .no), (24, .no), (23, .no), (22, .no), (21, .no)] (by kernel_rfl) ?_
     refine ov_nil ?_
     obtain rfl := si hs
     refine nrm_join false rfl ?_
     exact cut_of [2] [] (by kernel_rfl) (by kernel_rfl) (by kernel_rfl)
    ·replace hs := bif_t h3 hs
     refine o_runs 10 [(30, .bool (decide ((max (max f.From f.Until) f.Known) ≤ 1073741824))), (29, .bool (decide ((max (max f.From f.Until) f.Known) ≤ 1073741824))), (28, .bool (decide ((max (max f.From f.Until) f.Known) ≤ 1073741824))), (27, .int .i64 (max (max f.From f.Until) f.Known)), (26, .int .i64 f.Known), (25, .ptr 1 0 4), (24, .int .i64 f.Until), (23, .ptr 1 0 3), (22, .int .i64 f.From), (21, .ptr 1 0 2)] (by kernel_rfl) ?_
     cases h4 : ((decide ((max (max f.From f.Until) f.Known) ≤ 1073741824)))
     ·replace hs := bif_f h4 hs
      refine o_runs 12 [(2, .bool false), (41, .bool false), (40, .no), (39, .no), (38, .no), (37, .no), (36, .no), (35, .no), (34, .no), (33, .no), (32, .no), (31, .no)] (by kernel_rfl) ?_
      refine ov_nil ?_
      obtain rfl := si hs
      refine nrm_join false rfl ?_
      exact cut_of [2] [] (by kernel_rfl) (by kernel_rfl) (by kernel_rfl)
     ·replace hs := bif_t h4 hs
      refine o_runs 4 [(34, .bool (decide (f.Until = 0))), (33, .bool (decide (f.Until = 0))), (32, .int .i64 f.Until), (31, .ptr 1 0 3)] (by kernel_rfl) ?_
      cases h5 : ((decide (f.Until = 0)))
      ·replace hs := bif_f h5 hs
       refine o_runs 8 [(2, .bool (decide (f.Until > f.From))), (41, .bool (decide (f.Until > f.From))), (40, .bool (decide (f.Until > f.From))), (39, .bool (decide (f.Until > f.From))), (38, .int .i64 f.From), (37, .ptr 1 0 2), (36, .int .i64 f.Until), (35, .ptr 1 0 3)] (by kernel_rfl) ?_
       refine ov_nil ?_
       obtain rfl := si hs
       refine nrm_join (decide (f.Until > f.From)) rfl ?_
       exact cut_of [2] [] (by kernel_rfl) (by kernel_rfl) (by kernel_rfl)
      ·replace hs := bif_t h5 hs
       refine o_runs 8 [(2, .bool true), (41, .bool true), (40, .bool true), (39, .no), (38, .no), (37, .no), (36, .no), (35, .no)] (by kernel_rfl) ?_
       refine ov_nil ?_
       obtain rfl := si hs
       refine nrm_join true rfl ?_
       exact cut_of [2] [] (by kernel_rfl) (by kernel_rfl) (by kernel_rfl)
 ·subst hz; clear hs; have hs := hk1; clear hk1
  refine nrm_thenV (v_ret ?_)
  obtain rfl := si hs
  exact fin_ret (by kernel_rfl) (by kernel_rfl) (by kernel_rfl)
theorem w_fact_Right (base : (List Fact)) (r : Bool) (hs : s_fact_Right base = some r) : FnA Tryz.prog 6 [.vs 5 (List.map enc_Fact base)] [] (.bool r) [] := by
 refine fnA_of_wp (N := 34) Tryz.func6 rfl rfl rfl fun cK0 => ?_
 unfold s_fact_Right at hs
 refine v_same (ρ' := [(0, .vs 5 (List.map enc_Fact base))]) rfl rfl ?_
 refine v_seq (vr_text (o_runs 1 [(2, .bool false)] (by kernel_rfl) ?_))
 refine ov_nil (nrm_thenV (v_seq (v_seq (vr_text (o_runs 1 [(5, .vs 5 (List.map enc_Fact base))] (by kernel_rfl) ?_)))))
 refine o_pure (v := .int .i64 (List.length base : Int)) (by kernel_rfl) (by kernel_rfl) (loc_lenVs (sz := 5) (els := (List.map enc_Fact base)) (by kernel_rfl) (by kernel_rfl) (List.length_map ..)) ?_
 refine o_runs 1 [(7, .int .i64 0)] (by kernel_rfl) ?_
 refine ov_nil (nrm_thenV ?_)
 obtain ⟨z1, hs, hk1⟩ := bind_some hs
 refine v_join (S := Unit) (fun u => z1 = .inr u) (fun u => [(0, .vs 5 (List.map enc_Fact base))]) (fun u => []) ?_ (fun v1 hz => ?_)
 ·refine v_block ?_
  refine v_fuel (S := Int) (fun u => [(0, .vs 5 (List.map enc_Fact base)), (5, .vs 5 (List.map enc_Fact base)), (6, .int .i64 (List.length base : Int)), (7, .int .i64 u)]) (fun u => []) (s_fact_Right_L1 base) (fun _ => rfl) KK 0 hs (cut_of [0, 5, 6, 7] [] (by kernel_rfl) (by kernel_rfl) (by kernel_rfl)) (fun K1 q1 hs => ?_)
  rw [s_fact_Right_L1] at hs
  show WpV cK0 Tryz.prog none 34 _ _ [(0, .vs 5 (List.map enc_Fact base)), (5, .vs 5 (List.map enc_Fact base)), (6, .int .i64 (List.length base : Int)), (7, .int .i64 q1)] [] []
  refine v_seq (vr_text (o_runs 1 [(8, .bool (decide (q1 < (List.length base : Int))))] (by kernel_rfl) ?_))
  refine ov_nil (nrm_thenV (v_seq ?_))
  refine v_cond (decide (q1 < (List.length base : Int))) (by kernel_rfl) (fun h1 => ?_) (fun h1 => ?_)
  ·replace hs := bif_t h1 hs
   refine v_skip (nrm_thenV (v_seq (v_block (v_seq (vr_text (o_runs 1 [(9, .int .i64 q1)] (by kernel_rfl) ?_))))))
   obtain ⟨x1, g1, hs⟩ := bind_some hs; obtain ⟨g1a, g1b, g1c⟩ := idx_some g1
   refine o_pure (v := .vp (enc_Fact x1) 0) (by kernel_rfl) (by kernel_rfl) (loc_indexVs (e := 48) (sz := 5) (k := .i64) (els := (List.map enc_Fact base)) (cs := (enc_Fact x1)) (by kernel_rfl) (by kernel_rfl) (by kernel_rfl) g1a (by rw [g1c]; exact map_get _ (by omega))) ?_
   refine o_runh 4 [(3, .int .i64 q1), (4, .ptr 4 0 0), (11, .agg (enc_Fact x1))] [(4, .box 48 [.str x1.Key, .int .i64 x1.Value, .int .i64 x1.From, .int .i64 x1.Until, .int .i64 x1.Known])] (by kernel_rfl) ?_
   refine ov_nil (nrm_thenV (v_seq ?_))
   obtain ⟨z2, hs, hk2⟩ := bind_some hs
   refine v_join (S := Bool) (fun u => u = z2) (fun u => [(0, .vs 5 (List.map enc_Fact base)), (5, .vs 5 (List.map enc_Fact base)), (6, .int .i64 (List.length base : Int)), (7, .int .i64 q1), (29, .bool u)]) (fun u => []) ?_ (fun v2 hz => ?_)
   ·refine v_draw mixedH (by kernel_rfl) ?_
    refine d_runs 1 0 [(12, .agg (enc_Fact x1))] [⟨0, [], [4]⟩] (by kernel_rfl) (by kernel_rfl) ?_
    obtain ⟨y1, c1, hs⟩ := bind_some hs
    refine d_pure (v := .bool y1) 1 rfl rfl rfl rfl (by kernel_rfl) (by kernel_rfl) (loc_gcall0 (callV_func hbv18 (by kernel_rfl)) (w_fact_valid x1 _ c1) (by kernel_rfl)) ?_
    refine d_runs 2 2 [(15, .bool (!y1)), (14, .bool (!y1))] (pfp 2 3) (by kernel_rfl) (by kernel_rfl) ?_
    cases h2 : ((!y1))
    ·replace hs := bif_f h2 hs
     refine d_runs 3 4 [(18, .bool (decide (q1 > 0))), (17, .bool (decide (q1 > 0))), (16, .int .i64 q1)] (pfp 3 6) (by kernel_rfl) (by kernel_rfl) ?_
     cases h3 : ((decide (q1 > 0)))
     ·replace hs := bif_f h3 hs
      refine d_runs 11 7 [(29, .bool false), (28, .bool false), (27, .no), (26, .no), (25, .no), (24, .no), (23, .no), (22, .no), (21, .no), (20, .no), (19, .no)] (pfp 11 17) (by kernel_rfl) (by kernel_rfl) ?_
      refine d_nil (by kernel_rfl) ?_
      obtain rfl := si hs
      refine nrm_join false rfl ?_
      exact cut_of [0, 5, 6, 7, 29] [] (by kernel_rfl) (by kernel_rfl) (by kernel_rfl)
     ·replace hs := bif_t h3 hs
      refine d_runs 5 7 [(23, .int .i64 (w64 (q1 - 1))), (22, .int .i64 q1), (21, .vs 5 (List.map enc_Fact base)), (20, .int .i64 x1.Known), (19, .ptr 4 0 4)] [⟨11, [], []⟩, ⟨10, [], []⟩, ⟨9, [], []⟩, ⟨8, [], [4]⟩, ⟨7, [], []⟩] (by kernel_rfl) (by kernel_rfl) ?_
      obtain ⟨x2, g2, hs⟩ := bind_some hs; obtain ⟨g2a, g2b, g2c⟩ := idx_some g2
      refine d_pure (v := .vp (enc_Fact x2) 0) 12 rfl rfl rfl rfl (by kernel_rfl) (by kernel_rfl) (loc_indexVs (e := 48) (sz := 5) (k := .i64) (els := (List.map enc_Fact base)) (cs := (enc_Fact x2)) (by kernel_rfl) (by kernel_rfl) (by kernel_rfl) g2a (by rw [g2c]; exact map_get _ (by omega))) ?_
      refine d_runs 5 13 [(29, .bool (decide (x1.Known < x2.Known))), (28, .bool (decide (x1.Known < x2.Known))), (27, .bool (decide (x1.Known < x2.Known))), (26, .int .i64 x2.Known), (25, .vp (enc_Fact x2) 4)] (pfp 5 17) (by kernel_rfl) (by kernel_rfl) ?_
      refine d_nil (by kernel_rfl) ?_
      obtain rfl := si hs
      refine nrm_join (decide (x1.Known < x2.Known)) rfl ?_
      exact cut_of [0, 5, 6, 7, 29] [] (by kernel_rfl) (by kernel_rfl) (by kernel_rfl)
    ·replace hs := bif_t h2 hs
     refine d_runs 14 4 [(29, .bool true), (28, .no), (27, .no), (26, .no), (25, .no), (24, .no), (23, .no), (22, .no), (21, .no), (20, .no), (19, .no), (18, .no), (17, .no), (16, .no)] (pfp 14 17) (by kernel_rfl) (by kernel_rfl) ?_
     refine d_nil (by kernel_rfl) ?_
     obtain rfl := si hs
     refine nrm_join true rfl ?_
     exact cut_of [0, 5, 6, 7, 29] [] (by kernel_rfl) (by kernel_rfl) (by kernel_rfl)
   ·subst hz; clear hs; have hs := hk2; clear hk2
    refine nrm_thenV ?_
    refine v_cond v2 (by kernel_rfl) (fun h4 => ?_) (fun h4 => ?_)
    ·replace hs := bif_t h4 hs
     refine v_seq (vr_text (o_runs 1 [(2, .bool false)] (by kernel_rfl) ?_))
     refine ov_nil (nrm_thenV (v_ret (ret_blkV (ret_thenV (ret_fuel ?_)))))
     refine ret_blkV (ret_join ?_)
     refine ret_thenV ?_
     obtain rfl := si hs
     replace hs := hk1
     obtain rfl := si hs
     exact fin_ret (by kernel_rfl) (by kernel_rfl) (by kernel_rfl)
    ·replace hs := bif_f h4 hs
     refine v_skip (nrm_blkV (nrm_thenV (vr_text (o_runs 2 [(7, .int .i64 (w64 (q1 + 1))), (30, .int .i64 (w64 (q1 + 1)))] (by kernel_rfl) ?_))))
     refine ov_nil (nrm_fuel (w64 (q1 + 1)) hs ?_)
     exact cut_of [0, 5, 6, 7] [] (by kernel_rfl) (by kernel_rfl) (by kernel_rfl)
  ·replace hs := bif_f h1 hs
   refine v_exit (exit_thenV (exit_fuel ?_))
   refine exit_blkV ?_
   obtain rfl := si hs
   refine nrm_join () rfl ?_
   exact cut_of [0] [] (by kernel_rfl) (by kernel_rfl) (by kernel_rfl)
 ·subst hz; clear hs; have hs := hk1; clear hk1
  refine nrm_thenV (v_seq (vr_text (o_runs 1 [(31, .vs 5 (List.map enc_Fact base))] (by kernel_rfl) ?_)))
  refine o_pure (v := .int .i64 (List.length base : Int)) (by kernel_rfl) (by kernel_rfl) (loc_lenVs (sz := 5) (els := (List.map enc_Fact base)) (by kernel_rfl) (by kernel_rfl) (List.length_map ..)) ?_
  refine o_runs 2 [(2, .bool (decide ((List.length base : Int) ≤ 5000))), (33, .bool (decide ((List.length base : Int) ≤ 5000)))] (by kernel_rfl) ?_
  refine ov_nil (nrm_thenV (v_ret ?_))
  obtain rfl := si hs
  exact fin_ret (by kernel_rfl) (by kernel_rfl) (by kernel_rfl)
theorem w_fact_last (base : (List Fact)) (key : (List UInt8)) (known : Int) (r : Int × (List UInt8) × (List Fact)) (hs : s_fact_last base key known = some r) : FnA Tryz.prog 33 [.vs 5 (List.map enc_Fact base), .str key, .int .i64 known] [] (.fn 59 [] [.ptr 3 0 0, .ptr 4 0 0, .ptr 5 0 0]) [(5, .box 3 [.int .i64 r.1]), (4, .box 9 [.str r.2.1]), (3, .box 22 [.vs 5 (List.map enc_Fact r.2.2)])] := by
 refine fnA_of_wp (N := 8) Tryz.func33 rfl rfl rfl fun cK0 => ?_
 unfold s_fact_last at hs
 refine v_same (ρ' := [(0, .vs 5 (List.map enc_Fact base)), (1, .str key), (2, .int .i64 known)]) rfl rfl ?_
 refine v_seq (vr_text (o_runh 4 [(6, .nilf), (5, .ptr 5 0 0), (4, .ptr 4 0 0), (3, .ptr 3 0 0)] [(5, .box 3 [.int .i64 known]), (4, .box 9 [.str key]), (3, .box 22 [.vs 5 (List.map enc_Fact base)])] (by kernel_rfl) ?_))
 refine ov_nil (nrm_thenV (v_seq (vr_text (o_runs 2 [(6, .fn 59 [] [.ptr 3 0 0, .ptr 4 0 0, .ptr 5 0 0]), (7, .fn 59 [] [.ptr 3 0 0, .ptr 4 0 0, .ptr 5 0 0])] (by kernel_rfl) ?_))))
 refine ov_nil (nrm_thenV (v_ret ?_))
 obtain rfl := si hs
 exact fin_ret (by kernel_rfl) (by kernel_rfl) (by kernel_rfl)
theorem w_fact_end (f : Fact) (r : Int) (hs : s_fact_end f = some r) : FnA Tryz.prog 34 [.agg (enc_Fact f)] [] (.int .i64 r) [] := by
 refine fnA_of_wp (N := 8) Tryz.func34 rfl rfl rfl fun cK0 => ?_
 unfold s_fact_end at hs
 refine v_same (ρ' := [(0, .agg (enc_Fact f))]) rfl rfl ?_
 refine v_seq (vr_text (o_runh 2 [(2, .int .i64 0), (1, .ptr 1 0 0)] [(1, .box 48 [.str f.Key, .int .i64 f.Value, .int .i64 f.From, .int .i64 f.Until, .int .i64 f.Known])] (by kernel_rfl) ?_))
 refine ov_nil (nrm_thenV (v_seq (v_seq (vr_text (o_runs 3 [(5, .bool (decide (f.Until = 0))), (4, .int .i64 f.Until), (3, .ptr 1 0 3)] (by kernel_rfl) ?_)))))
 refine ov_nil (nrm_thenV ?_)
 refine v_cond (decide (f.Until = 0)) (by kernel_rfl) (fun h1 => ?_) (fun h1 => ?_)
 ·replace hs := bif_t h1 hs
  refine v_seq (vr_text (o_runs 1 [(2, .int .i64 1073741825)] (by kernel_rfl) ?_))
  refine ov_nil (nrm_thenV (v_ret (ret_thenV ?_)))
  obtain rfl := si hs
  exact fin_ret (by kernel_rfl) (by kernel_rfl) (by kernel_rfl)
 ·replace hs := bif_f h1 hs
  refine v_skip (nrm_thenV (v_seq (vr_text (o_runs 3 [(2, .int .i64 f.Until), (7, .int .i64 f.Until), (6, .ptr 1 0 3)] (by kernel_rfl) ?_))))
  refine ov_nil (nrm_thenV (v_ret ?_))
  obtain rfl := si hs
  exact fin_ret (by kernel_rfl) (by kernel_rfl) (by kernel_rfl)
theorem w_fact_counts (base : (List Fact)) (key : (List UInt8)) (day : Int) (known : Int) (r : Int) (hs : s_fact_counts base key day known = some r) : FnA Tryz.prog 21 [.vs 5 (List.map enc_Fact base), .str key, .int .i64 day, .int .i64 known] [] (.int .i64 r) [] := by
 refine fnA_of_wp (N := 32) Tryz.func21 rfl rfl rfl fun cK0 => ?_
 unfold s_fact_counts at hs
 refine v_same (ρ' := [(0, .vs 5 (List.map enc_Fact base)), (1, .str key), (2, .int .i64 day), (3, .int .i64 known)]) rfl rfl ?_
 refine v_seq (vr_text (o_runh 3 [(8, .ptr 8 0 0), (6, .ptr 6 0 0), (4, .ptr 4 0 0)] [(8, .box 3 [.int .i64 0]), (6, .box 3 [.int .i64 day]), (4, .box 22 [.vs 5 (List.map enc_Fact base)])] (by kernel_rfl) ?_))
 refine ov_nil (nrm_thenV (v_seq (v_seq (vr_text (o_runs 3 [(12, .int .i64 known), (11, .str key), (10, .vs 5 (List.map enc_Fact base))] (by kernel_rfl) ?_)))))
 obtain ⟨y1, c1, hs⟩ := bind_some hs
 refine o_loc (F := []) (F' := [(3001300, .box 3 [.int .i64 y1.1]), (3001301, .box 9 [.str y1.2.1]), (3001302, .box 22 [.vs 5 (List.map enc_Fact y1.2.2)])]) (v := .fn 59 [] [.ptr 3001302 0 0, .ptr 3001301 0 0, .ptr 3001300 0 0]) [] (by kernel_rfl) (by kernel_rfl) rfl (by kernel_rfl) (loc_g (R := []) [.vs 5 (List.map enc_Fact base), .str key, .int .i64 known] [(5, 3001300), (4, 3001301), (3, 3001302)] (callV_func hbv33 (by kernel_rfl)) (w_fact_last base key known _ c1) (.cons (.same _) (.cons (.same _) (.cons (.same _) (.nil)))) (by kernel_rfl) (by kernel_rfl) (by kernel_rfl) (by kernel_rfl) (by kernel_rfl) (by kernel_rfl) (by kernel_rfl) (by kernel_rfl)) (by kernel_rfl) ?_
 refine ov_nil (nrm_thenV ?_)
 obtain ⟨z1, hs, hk1⟩ := bind_some hs
 refine v_join (S := Unit) (fun u => z1 = .inr u) (fun u => [(8, .ptr 8 0 0)]) (fun u => [(8, .box 3 [.int .i64 0])]) ?_ (fun v1 hz => ?_)
 ·refine v_block (v_to [(4, .ptr 4 0 0), (6, .ptr 6 0 0), (8, .ptr 8 0 0), (13, .fn 59 [] [.ptr 3001302 0 0, .ptr 3001301 0 0, .ptr 3001300 0 0])] [(3001300, .box 3 [.int .i64 y1.1]), (3001301, .box 9 [.str y1.2.1]), (3001302, .box 22 [.vs 5 (List.map enc_Fact y1.2.2)]), (8, .box 3 [.int .i64 0]), (6, .box 3 [.int .i64 day]), (4, .box 22 [.vs 5 (List.map enc_Fact base)])] (cut_of [4, 6, 8, 13] [3001300, 3001301, 3001302, 8, 6, 4] (by kernel_rfl) (by kernel_rfl) (by kernel_rfl)) ?_)
  refine v_rangeF (Sg := Unit) (enc := (V.int .i64)) (val := (fun n : Int => Value.int .i64 n)) (caps := [.ptr 3001302 0 0, .ptr 3001301 0 0, .ptr 3001300 0 0]) (F := [(3001302, .box 22 [.vs 5 (List.map enc_Fact y1.2.2)]), (3001301, .box 9 [.str y1.2.1]), (3001300, .box 3 [.int .i64 y1.1])]) [3001302, 3001301, 3001300] (fun u => [(3001300, .box 3 [.int .i64 y1.1]), (3001301, .box 9 [.str y1.2.1]), (3001302, .box 22 [.vs 5 (List.map enc_Fact y1.2.2)]), (8, .box 3 [.int .i64 0]), (6, .box 3 [.int .i64 day]), (4, .box 22 [.vs 5 (List.map enc_Fact base)])]) (s_fact_counts_L1 base day) () (by kernel_rfl) hbv59 (iter_last 3001302 3001301 3001300 y1.2.2 y1.2.1 y1.1) (by kernel_rfl) (by kernel_rfl) (fun _ _ _ => rfl) hs (fun _ => by kernel_rfl) (by kernel_rfl) (fun lR1 x1 xs1 q1 cR1 hs => ?_) (fun q1 hs => ?_)
  ·rw [s_fact_counts_L1] at hs
   show WpV cR1 Tryz.prog (some lR1) 32 _ _ [(9, .int .i64 x1), (14, .int .i64 x1), (4, .ptr 4 0 0), (6, .ptr 6 0 0), (8, .ptr 8 0 0), (13, .fn 59 [] [.ptr 3001302 0 0, .ptr 3001301 0 0, .ptr 3001300 0 0])] [(3001300, .box 3 [.int .i64 y1.1]), (3001301, .box 9 [.str y1.2.1]), (3001302, .box 22 [.vs 5 (List.map enc_Fact y1.2.2)]), (8, .box 3 [.int .i64 0]), (6, .box 3 [.int .i64 day]), (4, .box 22 [.vs 5 (List.map enc_Fact base)])] []
   refine v_block (v_seq ?_)
   obtain ⟨z2, hs, hk2⟩ := bind_some hs
   refine v_join (S := Bool) (fun u => u = z2) (fun u => [(8, .ptr 8 0 0), (9, .int .i64 x1), (30, .bool u)]) (fun u => [(3001300, .box 3 [.int .i64 y1.1]), (3001301, .box 9 [.str y1.2.1]), (3001302, .box 22 [.vs 5 (List.map enc_Fact y1.2.2)]), (8, .box 3 [.int .i64 0]), (6, .box 3 [.int .i64 day]), (4, .box 22 [.vs 5 (List.map enc_Fact base)])]) ?_ (fun v2 hz => ?_)
   ·refine v_draw mixedH (by kernel_rfl) ?_
    refine d_runs 2 0 [(16, .int .i64 x1), (15, .vs 5 (List.map enc_Fact base))] [⟨1, [], []⟩, ⟨0, [], [4]⟩] (by kernel_rfl) (by kernel_rfl) ?_
    obtain ⟨x2, g1, hs⟩ := bind_some hs; obtain ⟨g1a, g1b, g1c⟩ := idx_some g1
    refine d_pure (v := .vp (enc_Fact x2) 0) 2 rfl rfl rfl rfl (by kernel_rfl) (by kernel_rfl) (loc_indexVs (e := 48) (sz := 5) (k := .i64) (els := (List.map enc_Fact base)) (cs := (enc_Fact x2)) (by kernel_rfl) (by kernel_rfl) (by kernel_rfl) g1a (by rw [g1c]; exact map_get _ (by omega))) ?_
    refine d_runs 5 3 [(22, .bool (decide (x2.From ≤ day))), (21, .bool (decide (x2.From ≤ day))), (20, .int .i64 day), (19, .int .i64 x2.From), (18, .vp (enc_Fact x2) 2)] [⟨7, [], []⟩, ⟨6, [], []⟩, ⟨5, [], [6]⟩, ⟨4, [], []⟩, ⟨3, [], []⟩] (by kernel_rfl) (by kernel_rfl) ?_
    cases h1 : ((decide (x2.From ≤ day)))
    ·replace hs := bif_f h1 hs
     refine d_runs 8 8 [(30, .bool false), (29, .no), (28, .no), (27, .no), (26, .no), (25, .no), (24, .no), (23, .no)] (pfp 8 15) (by kernel_rfl) (by kernel_rfl) ?_
     refine d_nil (by kernel_rfl) ?_
     obtain rfl := si hs
     refine nrm_join false rfl ?_
     exact cut_of [8, 9, 30] [3001300, 3001301, 3001302, 8, 6, 4] (by kernel_rfl) (by kernel_rfl) (by kernel_rfl)
    ·replace hs := bif_t h1 hs
     refine d_runs 3 8 [(25, .int .i64 x1), (24, .vs 5 (List.map enc_Fact base)), (23, .int .i64 day)] [⟨10, [], []⟩, ⟨9, [], [4]⟩, ⟨8, [], [6]⟩] (by kernel_rfl) (by kernel_rfl) ?_
     obtain ⟨x3, g2, hs⟩ := bind_some hs; obtain ⟨g2a, g2b, g2c⟩ := idx_some g2
     refine d_pure (v := .vp (enc_Fact x3) 0) 11 rfl rfl rfl rfl (by kernel_rfl) (by kernel_rfl) (loc_indexVs (e := 48) (sz := 5) (k := .i64) (els := (List.map enc_Fact base)) (cs := (enc_Fact x3)) (by kernel_rfl) (by kernel_rfl) (by kernel_rfl) g2a (by rw [g2c]; exact map_get _ (by omega))) ?_
     refine d_runs 1 12 [(27, .agg (enc_Fact x3))] (pfp 1 12) (by kernel_rfl) (by kernel_rfl) ?_
     obtain ⟨y2, c2, hs⟩ := bind_some hs
     refine d_pure (v := .int .i64 y2) 13 rfl rfl rfl rfl (by kernel_rfl) (by kernel_rfl) (loc_gcall0 (callV_func hbv34 (by kernel_rfl)) (w_fact_end x3 _ c2) (by kernel_rfl)) ?_
     refine d_runs 2 14 [(30, .bool (decide (day < y2))), (29, .bool (decide (day < y2)))] (pfp 2 15) (by kernel_rfl) (by kernel_rfl) ?_
     refine d_nil (by kernel_rfl) ?_
     obtain rfl := si hs
     refine nrm_join (decide (day < y2)) rfl ?_
     exact cut_of [8, 9, 30] [3001300, 3001301, 3001302, 8, 6, 4] (by kernel_rfl) (by kernel_rfl) (by kernel_rfl)
   ·subst hz; clear hs; have hs := hk2; clear hk2
    refine nrm_thenV ?_
    refine v_cond v2 (by kernel_rfl) (fun h2 => ?_) (fun h2 => ?_)
    ·replace hs := bif_t h2 hs
     refine v_seq (vr_text (o_runh 2 [(31, .int .i64 x1)] [(3001300, .box 3 [.int .i64 y1.1]), (3001301, .box 9 [.str y1.2.1]), (3001302, .box 22 [.vs 5 (List.map enc_Fact y1.2.2)]), (8, .box 3 [.int .i64 x1]), (6, .box 3 [.int .i64 day]), (4, .box 22 [.vs 5 (List.map enc_Fact base)])] (by kernel_rfl) ?_))
     refine ov_nil (nrm_thenV (v_ret (ret_blkV (ret_round [(4, .box 22 [.vs 5 (List.map enc_Fact base)]), (6, .box 3 [.int .i64 day]), (8, .box 3 [.int .i64 x1]), (3001302, .box 22 [.vs 5 (List.map enc_Fact y1.2.2)]), (3001301, .box 9 [.str y1.2.1]), (3001300, .box 3 [.int .i64 y1.1])] (cut_of [] [4, 6, 8, 3001302, 3001301, 3001300] (by kernel_rfl) (by kernel_rfl) (by kernel_rfl)) ?_))))
     refine ret_blkV (ret_join ?_)
     refine ret_thenV ?_
     obtain rfl := si hs
     replace hs := hk1
     obtain rfl := si hs
     exact fin_ret (by kernel_rfl) (by kernel_rfl) (by kernel_rfl)
    ·replace hs := bif_f h2 hs
     refine v_skip (nrm_blkV (nrm_round () hs ?_))
     exact cut_of [] [3001300, 3001301, 3001302, 8, 6, 4] (by kernel_rfl) (by kernel_rfl) (by kernel_rfl)
  ·rw [s_fact_counts_L1] at hs
   refine nrm_blkV ?_
   obtain rfl := si hs
   refine nrm_join () rfl ?_
   exact cut_of [8] [8] (by kernel_rfl) (by kernel_rfl) (by kernel_rfl)
 ·subst hz; clear hs; have hs := hk1; clear hk1
  refine nrm_thenV (v_seq (vr_text (o_runh 1 [] [(8, .box 3 [.int .i64 (-1)])] (by kernel_rfl) ?_)))
  refine ov_nil (nrm_thenV (v_ret ?_))
  obtain rfl := si hs
  exact fin_ret (by kernel_rfl) (by kernel_rfl) (by kernel_rfl)
theorem w_fact_At (base : (List Fact)) (key : (List UInt8)) (day : Int) (known : Int) (r : Int × Bool) (hs : s_fact_At base key day known = some r) : FnA Tryz.prog 8 [.vs 5 (List.map enc_Fact base), .str key, .int .i64 day, .int .i64 known] [] (.tup [.int .i64 r.1, .bool r.2]) [] := by
 refine fnA_of_wp (N := 34) Tryz.func8 rfl rfl rfl fun cK0 => ?_
 unfold s_fact_At at hs
 refine v_same (ρ' := [(0, .vs 5 (List.map enc_Fact base)), (1, .str key), (2, .int .i64 day), (3, .int .i64 known)]) rfl rfl ?_
 refine v_seq (vr_text (o_runs 2 [(9, .bool false), (8, .int .i64 0)] (by kernel_rfl) ?_))
 refine ov_nil (nrm_thenV (v_seq (v_seq ?_)))
 obtain ⟨z1, hs, hk1⟩ := bind_some hs
 refine v_join (S := Bool) (fun u => u = z1) (fun u => [(0, .vs 5 (List.map enc_Fact base)), (1, .str key), (2, .int .i64 day), (3, .int .i64 known), (21, .bool u)]) (fun u => []) ?_ (fun v1 hz => ?_)
 ·refine vr_text (o_runs 3 [(13, .bool (decide (day < 0))), (12, .bool (decide (day < 0))), (11, .int .i64 day)] (by kernel_rfl) ?_)
  cases h1 : ((decide (day < 0)))
  ·replace hs := bif_f h1 hs
   refine o_runs 4 [(17, .bool (decide (day > 1073741824))), (16, .bool (decide (day > 1073741824))), (15, .bool (decide (day > 1073741824))), (14, .int .i64 day)] (by kernel_rfl) ?_
   cases h2 : ((decide (day > 1073741824)))
   ·replace hs := bif_f h2 hs
    refine o_runs 1 [(18, .vs 5 (List.map enc_Fact base))] (by kernel_rfl) ?_
    obtain ⟨y1, c1, hs⟩ := bind_some hs
    refine o_pure (v := .bool y1) (by kernel_rfl) (by kernel_rfl) (loc_gcall0 (callV_func hbv6 (by kernel_rfl)) (w_fact_Right base _ c1) (by kernel_rfl)) ?_
    refine o_runs 2 [(21, .bool (!y1)), (20, .bool (!y1))] (by kernel_rfl) ?_
    refine ov_nil ?_
    obtain rfl := si hs
    refine nrm_join (!y1) rfl ?_
    exact cut_of [0, 1, 2, 3, 21] [] (by kernel_rfl) (by kernel_rfl) (by kernel_rfl)
   ·replace hs := bif_t h2 hs
    refine o_runs 4 [(21, .bool true), (20, .no), (19, .no), (18, .no)] (by kernel_rfl) ?_
    refine ov_nil ?_
    obtain rfl := si hs
    refine nrm_join true rfl ?_
    exact cut_of [0, 1, 2, 3, 21] [] (by kernel_rfl) (by kernel_rfl) (by kernel_rfl)
  ·replace hs := bif_t h1 hs
   refine o_runs 8 [(21, .bool true), (20, .no), (19, .no), (18, .no), (17, .bool true), (16, .bool true), (15, .no), (14, .no)] (by kernel_rfl) ?_
   refine ov_nil ?_
   obtain rfl := si hs
   refine nrm_join true rfl ?_
   exact cut_of [0, 1, 2, 3, 21] [] (by kernel_rfl) (by kernel_rfl) (by kernel_rfl)
 ·subst hz; clear hs; have hs := hk1; clear hk1
  refine nrm_thenV ?_
  refine v_cond v1 (by kernel_rfl) (fun h3 => ?_) (fun h3 => ?_)
  ·replace hs := bif_t h3 hs
   refine v_seq (vr_text (o_runs 2 [(9, .bool false), (8, .int .i64 0)] (by kernel_rfl) ?_))
   refine ov_nil (nrm_thenV (v_ret (ret_thenV ?_)))
   obtain rfl := si hs
   exact fin_ret (by kernel_rfl) (by kernel_rfl) (by kernel_rfl)
  ·replace hs := bif_f h3 hs
   refine v_skip (nrm_thenV (v_seq (vr_text (o_runs 4 [(25, .int .i64 known), (24, .int .i64 day), (23, .str key), (22, .vs 5 (List.map enc_Fact base))] (by kernel_rfl) ?_))))
   obtain ⟨y2, c2, hs⟩ := bind_some hs
   refine o_pure (v := .int .i64 y2) (by kernel_rfl) (by kernel_rfl) (loc_gcall0 (callV_func hbv21 (by kernel_rfl)) (w_fact_counts base key day known _ c2) (by kernel_rfl)) ?_
   refine o_runs 1 [(10, .int .i64 y2)] (by kernel_rfl) ?_
   refine ov_nil (nrm_thenV (v_seq (v_seq (vr_text (o_runs 2 [(28, .bool (decide (y2 < 0))), (27, .int .i64 y2)] (by kernel_rfl) ?_)))))
   refine ov_nil (nrm_thenV ?_)
   refine v_cond (decide (y2 < 0)) (by kernel_rfl) (fun h4 => ?_) (fun h4 => ?_)
   ·replace hs := bif_t h4 hs
    refine v_seq (vr_text (o_runs 2 [(9, .bool false), (8, .int .i64 0)] (by kernel_rfl) ?_))
    refine ov_nil (nrm_thenV (v_ret (ret_thenV ?_)))
    obtain rfl := si hs
    exact fin_ret (by kernel_rfl) (by kernel_rfl) (by kernel_rfl)
   ·replace hs := bif_f h4 hs
    refine v_skip (nrm_thenV (v_seq (vr_text (o_runs 2 [(30, .int .i64 y2), (29, .vs 5 (List.map enc_Fact base))] (by kernel_rfl) ?_))))
    obtain ⟨x1, g1, hs⟩ := bind_some hs; obtain ⟨g1a, g1b, g1c⟩ := idx_some g1
    refine o_pure (v := .vp (enc_Fact x1) 0) (by kernel_rfl) (by kernel_rfl) (loc_indexVs (e := 48) (sz := 5) (k := .i64) (els := (List.map enc_Fact base)) (cs := (enc_Fact x1)) (by kernel_rfl) (by kernel_rfl) (by kernel_rfl) g1a (by rw [g1c]; exact map_get _ (by omega))) ?_
    refine o_runs 4 [(9, .bool true), (8, .int .i64 x1.Value), (33, .int .i64 x1.Value), (32, .vp (enc_Fact x1) 1)] (by kernel_rfl) ?_
    refine ov_nil (nrm_thenV (v_ret ?_))
    obtain rfl := si hs
    exact fin_ret (by kernel_rfl) (by kernel_rfl) (by kernel_rfl)
theorem w_fact_days (base : (List Fact)) (key : (List UInt8)) (r : (List Int)) (hs : s_fact_days base key = some r) : FnA Tryz.prog 25 [.vs 5 (List.map enc_Fact base), .str key] [] (.vs 1 (List.map EV.encI r)) [] := by
 refine fnA_of_wp (N := 31) Tryz.func25 rfl rfl rfl fun cK0 => ?_
 unfold s_fact_days at hs
 refine v_same (ρ' := [(0, .vs 5 (List.map enc_Fact base)), (1, .str key)]) rfl rfl ?_
 refine v_seq (vr_text (o_runs 1 [(4, .nils)] (by kernel_rfl) ?_))
 refine ov_nil (nrm_thenV (v_seq (vr_text (o_runh 2 [(5, .sl 1 8 2 0 2), (8, .sl 1 8 2 0 2)] [(8, .row 3 1 0 (List.map EV.encI [0, 1073741825]))] (by kernel_rfl) ?_))))
 refine ov_nil (nrm_thenV (v_seq (v_seq (vr_text (o_runs 1 [(9, .vs 5 (List.map enc_Fact base))] (by kernel_rfl) ?_)))))
 refine o_pure (v := .int .i64 (List.length base : Int)) (by kernel_rfl) (by kernel_rfl) (loc_lenVs (sz := 5) (els := (List.map enc_Fact base)) (by kernel_rfl) (by kernel_rfl) (List.length_map ..)) ?_
 refine o_runs 1 [(11, .int .i64 0)] (by kernel_rfl) ?_
 refine ov_nil (nrm_thenV ?_)
 obtain ⟨z1, hs, hk1⟩ := bind_some hs
 refine v_join (S := (List Int)) (fun u => u = z1) (fun u => [(5, .sl 1 8 ((u).length) 0 ((u).length))]) (fun u => [(8, .row 3 1 0 (List.map EV.encI u))]) ?_ (fun v1 hz => ?_)
 ·refine v_block ?_
  refine v_fuel (S := Int × (List Int)) (fun u => [(1, .str key), (5, .sl 1 8 ((u.2).length) 0 ((u.2).length)), (9, .vs 5 (List.map enc_Fact base)), (10, .int .i64 (List.length base : Int)), (11, .int .i64 u.1)]) (fun u => [(8, .row 3 1 0 (List.map EV.encI u.2))]) (s_fact_days_L1 base key) (fun _ => rfl) KK (0, [0, 1073741825]) hs (Cut.trans (cut_eq 5 (v := .sl 1 8 2 0 2) (v' := .sl 1 8 (([0, 1073741825]).length) 0 (([0, 1073741825]).length)) (by kernel_rfl) (by first | rfl | simp only [List.length_set])) (cut_of [1, 5, 9, 10, 11] [8] (by kernel_rfl) (by kernel_rfl) (by kernel_rfl))) (fun K1 q1 hs => ?_)
  rw [s_fact_days_L1] at hs
  show WpV cK0 Tryz.prog none 31 _ _ [(1, .str key), (5, .sl 1 8 ((q1.2).length) 0 ((q1.2).length)), (9, .vs 5 (List.map enc_Fact base)), (10, .int .i64 (List.length base : Int)), (11, .int .i64 q1.1)] [(8, .row 3 1 0 (List.map EV.encI q1.2))] []
  refine v_seq (vr_text (o_runs 1 [(12, .bool (decide (q1.1 < (List.length base : Int))))] (by kernel_rfl) ?_))
  refine ov_nil (nrm_thenV (v_seq ?_))
  refine v_cond (decide (q1.1 < (List.length base : Int))) (by kernel_rfl) (fun h1 => ?_) (fun h1 => ?_)
  ·replace hs := bif_t h1 hs
   refine v_skip (nrm_thenV (v_seq (v_block (v_seq (vr_text ?_)))))
   obtain ⟨x1, g1, hs⟩ := bind_some hs; obtain ⟨g1a, g1b, g1c⟩ := idx_some g1
   refine o_pure (v := .vp (enc_Fact x1) 0) (by kernel_rfl) (by kernel_rfl) (loc_indexVs (e := 48) (sz := 5) (k := .i64) (els := (List.map enc_Fact base)) (cs := (enc_Fact x1)) (by kernel_rfl) (by kernel_rfl) (by kernel_rfl) g1a (by rw [g1c]; exact map_get _ (by omega))) ?_
   refine o_runh 3 [(7, .ptr 7 0 0), (14, .agg (enc_Fact x1))] [(7, .box 48 [.str x1.Key, .int .i64 x1.Value, .int .i64 x1.From, .int .i64 x1.Until, .int .i64 x1.Known]), (8, .row 3 1 0 (List.map EV.encI q1.2))] (by kernel_rfl) ?_
   refine ov_nil (nrm_thenV (v_seq (vr_text (o_runs 4 [(18, .bool (decide (x1.Key = key))), (17, .str key), (16, .str x1.Key), (15, .ptr 7 0 0)] (by kernel_rfl) ?_))))
   refine ov_nil (nrm_thenV ?_)
   obtain ⟨z2, hs, hk2⟩ := bind_some hs
   refine v_join (S := (List Int)) (fun u => u = z2) (fun u => [(1, .str key), (5, .sl 1 8 ((u).length) 0 ((u).length)), (9, .vs 5 (List.map enc_Fact base)), (10, .int .i64 (List.length base : Int)), (11, .int .i64 q1.1)]) (fun u => [(8, .row 3 1 0 (List.map EV.encI u))]) ?_ (fun v2 hz => ?_)
   ·refine v_cond (decide (x1.Key = key)) (by kernel_rfl) (fun h2 => ?_) (fun h2 => ?_)
    ·replace hs := bif_t h2 hs
     refine v_draw mixedH (by kernel_rfl) ?_
     refine d_runs 4 0 [(22, .agg (enc_Fact x1)), (21, .int .i64 x1.From), (20, .ptr 7 0 2), (19, .sl 1 8 ((q1.2).length) 0 ((q1.2).length))] [⟨3, [], [7]⟩, ⟨2, [], [7]⟩, ⟨1, [], []⟩, ⟨0, [], []⟩] (by kernel_rfl) (by kernel_rfl) ?_
     obtain ⟨y1, c1, hs⟩ := bind_some hs
     refine d_pure (v := .int .i64 y1) 4 rfl rfl rfl rfl (by kernel_rfl) (by kernel_rfl) (loc_gcall0 (callV_func hbv34 (by kernel_rfl)) (w_fact_end x1 _ c1) (by kernel_rfl)) ?_
     refine d_runh 1 5 [(24, .sl 1 24 2 0 2)] [(24, .row 3 1 0 (List.map EV.encI [x1.From, y1])), (7, .box 48 [.str x1.Key, .int .i64 x1.Value, .int .i64 x1.From, .int .i64 x1.Until, .int .i64 x1.Known]), (8, .row 3 1 0 (List.map EV.encI q1.2))] [⟨5, [24], []⟩] (by kernel_rfl) (by kernel_rfl) ?_
     obtain ⟨_, g2, hs⟩ := bind_some hs; replace g2 := grd_some g2
     refine d_loc (F := [(8, .row 3 1 0 (List.map EV.encI q1.2))]) (R := [(24, .row 3 1 0 (List.map EV.encI [x1.From, y1]))]) (F' := [(8, .row 3 1 0 (List.map EV.encI (q1.2 ++ [x1.From, y1])))]) (v := .sl 1 8 (((q1.2 ++ [x1.From, y1])).length) 0 (((q1.2 ++ [x1.From, y1])).length)) 6 [8] [24] rfl rfl rfl rfl (by kernel_rfl) (by kernel_rfl) (by kernel_rfl) (by kernel_rfl) (by kernel_rfl) (by kernel_rfl) (by kernel_rfl) (by kernel_rfl) (loc_appendT (e := 3) (sz := 1) (bytes := 8) (L := (q1.2).length) (els := (List.map EV.encI q1.2)) (ys := (List.map EV.encI [x1.From, y1])) (by kernel_rfl) (by kernel_rfl) (by first | exact List.length_map .. | rfl) (.sl (t := 3) (fz := 0) (ys := (List.map EV.encI [x1.From, y1])) (by kernel_rfl) (by kernel_rfl)) (map_ones EV.encI (fun _ => rfl) _) (map_lens EV.encI (fun _ => rfl) _) (by kernel_rfl) (by first | exact (List.map_append ..).symm | rfl | simp only [List.map_nil, List.nil_append]) (List.length_map ..) g2 (by omega)) ?_
     refine d_runs 1 7 [(5, .sl 1 8 (((q1.2 ++ [x1.From, y1])).length) 0 (((q1.2 ++ [x1.From, y1])).length))] (pfp 1 7) (by kernel_rfl) (by kernel_rfl) ?_
     refine d_nil (by kernel_rfl) ?_
     obtain rfl := si hs
     refine nrm_join (q1.2 ++ [x1.From, y1]) rfl ?_
     exact cut_of [1, 5, 9, 10, 11] [8] (by kernel_rfl) (by kernel_rfl) (by kernel_rfl)
    ·replace hs := bif_f h2 hs
     refine v_skip ?_
     obtain rfl := si hs
     refine nrm_join q1.2 rfl ?_
     exact cut_of [1, 5, 9, 10, 11] [8] (by kernel_rfl) (by kernel_rfl) (by kernel_rfl)
   ·subst hz; clear hs; have hs := hk2; clear hk2
    refine nrm_blkV (nrm_thenV (vr_text (o_runs 2 [(11, .int .i64 (w64 (q1.1 + 1))), (26, .int .i64 (w64 (q1.1 + 1)))] (by kernel_rfl) ?_)))
    refine ov_nil (nrm_fuel ((w64 (q1.1 + 1)), v2) hs ?_)
    exact cut_of [1, 5, 9, 10, 11] [8] (by kernel_rfl) (by kernel_rfl) (by kernel_rfl)
  ·replace hs := bif_f h1 hs
   refine v_exit (exit_thenV (exit_fuel ?_))
   refine exit_blkV ?_
   obtain rfl := si hs
   refine nrm_join q1.2 rfl ?_
   exact cut_of [5] [8] (by kernel_rfl) (by kernel_rfl) (by kernel_rfl)
 ·subst hz; clear hs; have hs := hk1; clear hk1
  refine nrm_thenV (v_seq (vr_text (o_runs 1 [(27, .sl 1 8 ((v1).length) 0 ((v1).length))] (by kernel_rfl) ?_)))
  obtain ⟨_, g3, hs⟩ := bind_some hs; replace g3 := grd_some g3
  refine o_loc (F := [(8, .row 3 1 0 (List.map EV.encI v1))]) (F' := [(8, .row 3 1 0 (List.map EV.encI (sortI v1)))]) (v := .tup []) [8] (by kernel_rfl) (by kernel_rfl) rfl (by kernel_rfl) (loc_g (R := []) [.sl 1 8 ((v1).length) 0 ((v1).length)] [(1000000, 8)] (callV_func hbv41 (by kernel_rfl)) (w_sort_int v1 g3) (.cons (.same _) .nil) (by kernel_rfl) (by kernel_rfl) (by kernel_rfl) (by kernel_rfl) (by kernel_rfl) (by kernel_rfl) (by kernel_rfl) (by kernel_rfl)) (by kernel_rfl) ?_
  refine ov_nil (nrm_thenV (v_seq (vr_text (o_runs 1 [(29, .sl 1 8 ((v1).length) 0 ((v1).length))] (by kernel_rfl) ?_))))
  refine o_loc (F := [(8, .row 3 1 0 (List.map EV.encI (sortI v1)))]) (F' := [(8, .row 3 1 ((sortI v1).length) (List.map EV.encI ((Lib.compact (sortI v1)) ++ List.replicate ((sortI v1).length - (Lib.compact (sortI v1)).length) (0 : Int))))]) (v := .vs 1 (List.map EV.encI (Lib.compact (sortI v1)))) [8] (by kernel_rfl) (by kernel_rfl) rfl (by kernel_rfl) (loc_g (R := []) [.sl 1 8 ((v1).length) 0 ((v1).length)] [(1000000, 8)] (callV_func hbv42 (by kernel_rfl)) (w_compact_int (sortI v1) (L := ((v1).length)) (by first | rfl | exact (sortI_length _).symm | exact (sortS_length _).symm)) (.cons (.same _) .nil) (by kernel_rfl) (by kernel_rfl) (by kernel_rfl) (by kernel_rfl) (by kernel_rfl) (by kernel_rfl) (by kernel_rfl) (by kernel_rfl)) (by kernel_rfl) ?_
  refine o_runs 1 [(4, .vs 1 (List.map EV.encI (Lib.compact (sortI v1))))] (by kernel_rfl) ?_
  refine ov_nil (nrm_thenV (v_ret ?_))
  obtain rfl := si hs
  exact fin_ret (by kernel_rfl) (by kernel_rfl) (by kernel_rfl)
theorem w_fact_History (base : (List Fact)) (key : (List UInt8)) (known : Int) (r : (List Fact)) (hs : s_fact_History base key known = some r) : FnA Tryz.prog 10 [.vs 5 (List.map enc_Fact base), .str key, .int .i64 known] [] (.vs 5 (List.map enc_Fact r)) [] := by
 refine fnA_of_wp (N := 77) Tryz.func10 rfl rfl rfl fun cK0 => ?_
 unfold s_fact_History at hs
 refine v_same (ρ' := [(0, .vs 5 (List.map enc_Fact base)), (1, .str key), (2, .int .i64 known)]) rfl rfl ?_
 refine v_seq (vr_text (o_runs 1 [(6, .nils)] (by kernel_rfl) ?_))
 refine ov_nil (nrm_thenV (v_seq (v_seq (vr_text (o_runs 1 [(15, .vs 5 (List.map enc_Fact base))] (by kernel_rfl) ?_)))))
 obtain ⟨y1, c1, hs⟩ := bind_some hs
 refine o_pure (v := .bool y1) (by kernel_rfl) (by kernel_rfl) (loc_gcall0 (callV_func hbv6 (by kernel_rfl)) (w_fact_Right base _ c1) (by kernel_rfl)) ?_
 refine o_runs 1 [(17, .bool (!y1))] (by kernel_rfl) ?_
 refine ov_nil (nrm_thenV ?_)
 refine v_cond (!y1) (by kernel_rfl) (fun h1 => ?_) (fun h1 => ?_)
 ·replace hs := bif_t h1 hs
  refine v_seq (vr_text (o_runs 1 [(6, .nils)] (by kernel_rfl) ?_))
  refine ov_nil (nrm_thenV (v_to ((6, .vs 5 (List.map enc_Fact [])) :: _) _ (cut_view (R := []) (ks := []) (by kernel_rfl) (by kernel_rfl) (.nils 5)) ?_))
  refine v_ret (ret_thenV ?_)
  obtain rfl := si hs
  exact fin_ret (by kernel_rfl) (by kernel_rfl) (by kernel_rfl)
 ·replace hs := bif_f h1 hs
  refine v_skip (nrm_thenV (v_seq (vr_text (o_runs 1 [(7, .nils)] (by kernel_rfl) ?_))))
  refine ov_nil (nrm_thenV (v_seq (vr_text (o_runs 2 [(19, .str key), (18, .vs 5 (List.map enc_Fact base))] (by kernel_rfl) ?_))))
  obtain ⟨y2, c2, hs⟩ := bind_some hs
  refine o_pure (v := .vs 1 (List.map EV.encI y2)) (by kernel_rfl) (by kernel_rfl) (loc_gcall0 (callV_func hbv25 (by kernel_rfl)) (w_fact_days base key _ c2) (by kernel_rfl)) ?_
  refine o_runs 2 [(9, .int .i64 (-1)), (8, .vs 1 (List.map EV.encI y2))] (by kernel_rfl) ?_
  refine ov_nil (nrm_thenV (v_seq (v_seq (vr_text (o_runs 2 [(22, .vs 1 (List.map EV.encI y2)), (21, .vs 1 (List.map EV.encI y2))] (by kernel_rfl) ?_)))))
  refine o_pure (v := .int .i64 (List.length y2 : Int)) (by kernel_rfl) (by kernel_rfl) (loc_lenVs (sz := 1) (els := (List.map EV.encI y2)) (by kernel_rfl) (by kernel_rfl) (List.length_map ..)) ?_
  refine o_runs 1 [(24, .int .i64 (w64 ((List.length y2 : Int) - 1)))] (by kernel_rfl) ?_
  obtain ⟨x1, g1, hs⟩ := bind_some hs; obtain ⟨g1a, g1b, g1c, g1d⟩ := cut_some g1
  refine o_pure (v := .vs 1 (List.map EV.encI x1)) (by kernel_rfl) (by kernel_rfl) (loc_sliceVsT (e := 3) (sz := 1) (l := 0) (h := (w64 ((List.length y2 : Int) - 1))) (els := (List.map EV.encI y2)) (by kernel_rfl) (by kernel_rfl) rfl ⟨.i64, by kernel_rfl⟩ g1a g1b (by simpa only [List.length_map] using g1c) (by rw [g1d, List.map_drop, List.map_take])) ?_
  refine o_pure (v := .int .i64 (List.length x1 : Int)) (by kernel_rfl) (by kernel_rfl) (loc_lenVs (sz := 1) (els := (List.map EV.encI x1)) (by kernel_rfl) (by kernel_rfl) (List.length_map ..)) ?_
  refine o_runs 1 [(27, .int .i64 0)] (by kernel_rfl) ?_
  refine ov_nil (nrm_thenV ?_)
  obtain ⟨z1, hs, hk1⟩ := bind_some hs
  refine v_join (S := (List Fact)) (fun u => u = z1) (fun u => [(7, .sl 5 2000070 ((u).length) 0 ((u).length))]) (fun u => [(2000070, .row 48 5 0 (List.map enc_Fact u))]) ?_ (fun v1 hz => ?_)
  ·refine v_block ?_
   refine v_fuel (S := Int × Int × (List Fact)) (fun u => [(0, .vs 5 (List.map enc_Fact base)), (1, .str key), (2, .int .i64 known), (7, .sl 5 2000070 ((u.2.2).length) 0 ((u.2.2).length)), (8, .vs 1 (List.map EV.encI y2)), (9, .int .i64 u.1), (25, .vs 1 (List.map EV.encI x1)), (26, .int .i64 (List.length x1 : Int)), (27, .int .i64 u.2.1)]) (fun u => [(2000070, .row 48 5 0 (List.map enc_Fact u.2.2))]) (s_fact_History_L1 base key known y2 x1) (fun _ => rfl) KK ((-1), 0, []) hs (Cut.trans (cut_nilRow 7 2000070 48 5 rfl (by kernel_rfl) (by kernel_rfl)) (cut_of [0, 1, 2, 7, 8, 9, 25, 26, 27] [2000070] (by kernel_rfl) (by kernel_rfl) (by kernel_rfl))) (fun K1 q1 hs => ?_)
   rw [s_fact_History_L1] at hs
   show WpV cK0 Tryz.prog none 77 _ _ [(0, .vs 5 (List.map enc_Fact base)), (1, .str key), (2, .int .i64 known), (7, .sl 5 2000070 ((q1.2.2).length) 0 ((q1.2.2).length)), (8, .vs 1 (List.map EV.encI y2)), (9, .int .i64 q1.1), (25, .vs 1 (List.map EV.encI x1)), (26, .int .i64 (List.length x1 : Int)), (27, .int .i64 q1.2.1)] [(2000070, .row 48 5 0 (List.map enc_Fact q1.2.2))] []
   refine v_seq (vr_text (o_runs 1 [(28, .bool (decide (q1.2.1 < (List.length x1 : Int))))] (by kernel_rfl) ?_))
   refine ov_nil (nrm_thenV (v_seq ?_))
   refine v_cond (decide (q1.2.1 < (List.length x1 : Int))) (by kernel_rfl) (fun h2 => ?_) (fun h2 => ?_)
   ·replace hs := bif_t h2 hs
    refine v_skip (nrm_thenV (v_seq (v_block (v_seq (vr_text (o_runs 1 [(29, .int .i64 q1.2.1)] (by kernel_rfl) ?_))))))
    obtain ⟨x2, g2, hs⟩ := bind_some hs; obtain ⟨g2a, g2b, g2c⟩ := idx_some g2
    refine o_pure (v := .vp [.int .i64 x2] 0) (by kernel_rfl) (by kernel_rfl) (loc_indexVs (e := 3) (sz := 1) (k := .i64) (els := (List.map EV.encI x1)) (cs := (EV.encI x2)) (by kernel_rfl) (by kernel_rfl) (by kernel_rfl) g2a (by rw [g2c]; exact map_get _ (by omega))) ?_
    refine o_runs 3 [(11, .int .i64 x2), (10, .int .i64 q1.2.1), (31, .int .i64 x2)] (by kernel_rfl) ?_
    refine ov_nil (nrm_thenV (v_seq (vr_text (o_runs 4 [(35, .int .i64 known), (34, .int .i64 x2), (33, .str key), (32, .vs 5 (List.map enc_Fact base))] (by kernel_rfl) ?_))))
    obtain ⟨y3, c3, hs⟩ := bind_some hs
    refine o_pure (v := .int .i64 y3) (by kernel_rfl) (by kernel_rfl) (loc_gcall0 (callV_func hbv21 (by kernel_rfl)) (w_fact_counts base key x2 known _ c3) (by kernel_rfl)) ?_
    refine o_runs 1 [(12, .int .i64 y3)] (by kernel_rfl) ?_
    refine ov_nil (nrm_thenV (v_seq (vr_text (o_runs 3 [(39, .int .i64 (w64 (q1.2.1 + 1))), (38, .int .i64 q1.2.1), (37, .vs 1 (List.map EV.encI y2))] (by kernel_rfl) ?_))))
    obtain ⟨x3, g3, hs⟩ := bind_some hs; obtain ⟨g3a, g3b, g3c⟩ := idx_some g3
    refine o_pure (v := .vp [.int .i64 x3] 0) (by kernel_rfl) (by kernel_rfl) (loc_indexVs (e := 3) (sz := 1) (k := .i64) (els := (List.map EV.encI y2)) (cs := (EV.encI x3)) (by kernel_rfl) (by kernel_rfl) (by kernel_rfl) g3a (by rw [g3c]; exact map_get _ (by omega))) ?_
    refine o_runs 2 [(13, .int .i64 x3), (41, .int .i64 x3)] (by kernel_rfl) ?_
    refine ov_nil (nrm_thenV (v_seq (v_seq (vr_text (o_runs 2 [(43, .bool (decide (x3 > 1073741824))), (42, .int .i64 x3)] (by kernel_rfl) ?_)))))
    refine ov_nil (nrm_thenV ?_)
    obtain ⟨z2, hs, hk2⟩ := bind_some hs
    refine v_join (S := Int) (fun u => u = z2) (fun u => [(0, .vs 5 (List.map enc_Fact base)), (1, .str key), (2, .int .i64 known), (7, .sl 5 2000070 ((q1.2.2).length) 0 ((q1.2.2).length)), (8, .vs 1 (List.map EV.encI y2)), (9, .int .i64 q1.1), (11, .int .i64 x2), (12, .int .i64 y3), (13, .int .i64 u), (25, .vs 1 (List.map EV.encI x1)), (26, .int .i64 (List.length x1 : Int)), (27, .int .i64 q1.2.1)]) (fun u => [(2000070, .row 48 5 0 (List.map enc_Fact q1.2.2))]) ?_ (fun v2 hz => ?_)
    ·refine v_cond (decide (x3 > 1073741824)) (by kernel_rfl) (fun h3 => ?_) (fun h3 => ?_)
     ·replace hs := bif_t h3 hs
      refine vr_text (o_runs 1 [(13, .int .i64 0)] (by kernel_rfl) ?_)
      refine ov_nil ?_
      obtain rfl := si hs
      refine nrm_join 0 rfl ?_
      exact cut_of [0, 1, 2, 7, 8, 9, 11, 12, 13, 25, 26, 27] [2000070] (by kernel_rfl) (by kernel_rfl) (by kernel_rfl)
     ·replace hs := bif_f h3 hs
      refine v_skip ?_
      obtain rfl := si hs
      refine nrm_join x3 rfl ?_
      exact cut_of [0, 1, 2, 7, 8, 9, 11, 12, 13, 25, 26, 27] [2000070] (by kernel_rfl) (by kernel_rfl) (by kernel_rfl)
    ·subst hz; clear hs; have hs := hk2; clear hk2
     refine nrm_thenV (v_seq (v_block (v_seq ?_)))
     obtain ⟨z3, hs, hk3⟩ := bind_some hs
     refine v_join (S := Bool) (fun u => u = z3) (fun u => [(0, .vs 5 (List.map enc_Fact base)), (1, .str key), (2, .int .i64 known), (7, .sl 5 2000070 ((q1.2.2).length) 0 ((q1.2.2).length)), (8, .vs 1 (List.map EV.encI y2)), (11, .int .i64 x2), (12, .int .i64 y3), (13, .int .i64 v2), (25, .vs 1 (List.map EV.encI x1)), (26, .int .i64 (List.length x1 : Int)), (27, .int .i64 q1.2.1), (44, .bool u)]) (fun u => [(2000070, .row 48 5 0 (List.map enc_Fact q1.2.2))]) ?_ (fun v3 hz => ?_)
     ·refine vr_text (o_runs 3 [(47, .bool (decide (y3 ≥ 0))), (46, .bool (decide (y3 ≥ 0))), (45, .int .i64 y3)] (by kernel_rfl) ?_)
      cases h4 : ((decide (y3 ≥ 0)))
      ·replace hs := bif_f h4 hs
       refine o_runs 5 [(44, .bool false), (51, .bool false), (50, .no), (49, .no), (48, .no)] (by kernel_rfl) ?_
       refine ov_nil ?_
       obtain rfl := si hs
       refine nrm_join false rfl ?_
       exact cut_of [0, 1, 2, 7, 8, 11, 12, 13, 25, 26, 27, 44] [2000070] (by kernel_rfl) (by kernel_rfl) (by kernel_rfl)
      ·replace hs := bif_t h4 hs
       refine o_runs 5 [(44, .bool (decide (y3 = q1.1))), (51, .bool (decide (y3 = q1.1))), (50, .bool (decide (y3 = q1.1))), (49, .int .i64 q1.1), (48, .int .i64 y3)] (by kernel_rfl) ?_
       refine ov_nil ?_
       obtain rfl := si hs
       refine nrm_join (decide (y3 = q1.1)) rfl ?_
       exact cut_of [0, 1, 2, 7, 8, 11, 12, 13, 25, 26, 27, 44] [2000070] (by kernel_rfl) (by kernel_rfl) (by kernel_rfl)
     ·subst hz; clear hs; have hs := hk3; clear hk3
      refine nrm_thenV ?_
      obtain ⟨z4, hs, hk4⟩ := bind_some hs
      refine v_join (S := (List Fact)) (fun u => u = z4) (fun u => [(0, .vs 5 (List.map enc_Fact base)), (1, .str key), (2, .int .i64 known), (7, .sl 5 2000070 ((u).length) 0 ((u).length)), (8, .vs 1 (List.map EV.encI y2)), (12, .int .i64 y3), (25, .vs 1 (List.map EV.encI x1)), (26, .int .i64 (List.length x1 : Int)), (27, .int .i64 q1.2.1)]) (fun u => [(2000070, .row 48 5 0 (List.map enc_Fact u))]) ?_ (fun v4 hz => ?_)
      ·refine v_cond v3 (by kernel_rfl) (fun h5 => ?_) (fun h5 => ?_)
       ·replace hs := bif_t h5 hs
        refine vr_text (o_runs 5 [(56, .int .i64 v2), (55, .int .i64 (w64 (((q1.2.2).length : Int) - 1))), (54, .int .i64 ((q1.2.2).length : Int)), (53, .sl 5 2000070 ((q1.2.2).length) 0 ((q1.2.2).length)), (52, .sl 5 2000070 ((q1.2.2).length) 0 ((q1.2.2).length))] (by kernel_rfl) ?_)
        obtain ⟨_, g4, hs⟩ := bind_some hs; obtain ⟨g4a, g4b⟩ := grd_some g4
        refine o_pure (v := .ptr 2000070 ((q1.2.2).length) ((Int.toNat (w64 (((q1.2.2).length : Int) - 1))) * 5 + 0)) (by kernel_rfl) (by kernel_rfl) (loc_indexRowT (e := 48) (sz := 5) (kk := 2000070) (L := (q1.2.2).length) (n := (q1.2.2).length) (k := .i64) (i := (w64 (((q1.2.2).length : Int) - 1))) (by kernel_rfl) (by kernel_rfl) (by kernel_rfl) g4a g4b) ?_
        refine o_runs 1 [(58, .ptr 2000070 ((q1.2.2).length) ((Int.toNat (w64 (((q1.2.2).length : Int) - 1))) * 5 + 3))] (by kernel_rfl) ?_
        obtain ⟨e1, he1, hs⟩ := bind_some hs; replace he1 := Option.some.inj he1
        refine o_loc (F := [(2000070, .row 48 5 0 (List.map enc_Fact q1.2.2))]) (F' := [(2000070, .row 48 5 0 (List.map enc_Fact (List.set q1.2.2 (Int.toNat (w64 (((q1.2.2).length : Int) - 1))) (Fact.mk e1.Key e1.Value e1.From v2 e1.Known))))]) (v := .no) [2000070] (by kernel_rfl) (by kernel_rfl) rfl (by kernel_rfl) (loc_storeRowT (L := (q1.2.2).length) (off := (Int.toNat (w64 (((q1.2.2).length : Int) - 1))) * 5 + 3) (els := (List.map enc_Fact q1.2.2)) (cs := (enc_Fact e1)) (c' := (enc_Fact (Fact.mk e1.Key e1.Value e1.From v2 e1.Known))) (Int.toNat (w64 (((q1.2.2).length : Int) - 1))) 3 (by kernel_rfl) (by first | (simp only [List.length_map, List.length_set]; done) | rfl) rfl (by rw [← he1]; exact map_get _ (by first | omega | (simp only [List.length_set]; omega))) (by first | exact Nat.zero_le _ | omega) (by kernel_rfl) (by kernel_rfl) (by kernel_rfl) (by kernel_rfl) (by kernel_rfl) (by kernel_rfl) List.map_set.symm) (by kernel_rfl) ?_
        refine ov_nil ?_
        obtain rfl := si hs
        refine nrm_join (List.set q1.2.2 (Int.toNat (w64 (((q1.2.2).length : Int) - 1))) (Fact.mk e1.Key e1.Value e1.From v2 e1.Known)) rfl ?_
        exact Cut.trans (cut_eq 7 (v := .sl 5 2000070 ((q1.2.2).length) 0 ((q1.2.2).length)) (v' := .sl 5 2000070 (((List.set q1.2.2 (Int.toNat (w64 (((q1.2.2).length : Int) - 1))) (Fact.mk e1.Key e1.Value e1.From v2 e1.Known))).length) 0 (((List.set q1.2.2 (Int.toNat (w64 (((q1.2.2).length : Int) - 1))) (Fact.mk e1.Key e1.Value e1.From v2 e1.Known))).length)) (by kernel_rfl) (by first | rfl | simp only [List.length_set])) (cut_of [0, 1, 2, 7, 8, 12, 25, 26, 27] [2000070] (by kernel_rfl) (by kernel_rfl) (by kernel_rfl))
       ·replace hs := bif_f h5 hs
        refine v_seq (vr_text (o_runs 3 [(59, .bool (decide (y3 ≥ 0))), (61, .bool (decide (y3 ≥ 0))), (60, .int .i64 y3)] (by kernel_rfl) ?_))
        refine ov_nil (nrm_thenV ?_)
        refine v_cond (decide (y3 ≥ 0)) (by kernel_rfl) (fun h6 => ?_) (fun h6 => ?_)
        ·replace hs := bif_t h6 hs
         refine v_seq (vr_text (o_runs 2 [(63, .int .i64 y3), (62, .vs 5 (List.map enc_Fact base))] (by kernel_rfl) ?_))
         obtain ⟨x4, g5, hs⟩ := bind_some hs; obtain ⟨g5a, g5b, g5c⟩ := idx_some g5
         refine o_pure (v := .vp (enc_Fact x4) 0) (by kernel_rfl) (by kernel_rfl) (loc_indexVs (e := 48) (sz := 5) (k := .i64) (els := (List.map enc_Fact base)) (cs := (enc_Fact x4)) (by kernel_rfl) (by kernel_rfl) (by kernel_rfl) g5a (by rw [g5c]; exact map_get _ (by omega))) ?_
         refine o_runh 3 [(14, .ptr 14 0 0), (65, .agg (enc_Fact x4))] [(14, .box 48 [.str x4.Key, .int .i64 x4.Value, .int .i64 x4.From, .int .i64 x4.Until, .int .i64 x4.Known]), (2000070, .row 48 5 0 (List.map enc_Fact q1.2.2))] (by kernel_rfl) ?_
         refine ov_nil (nrm_thenV (v_seq (vr_text (o_runh 6 [(69, .ptr 14 0 3), (68, .ptr 14 0 2), (67, .int .i64 v2), (66, .int .i64 x2)] [(14, .box 48 [.str x4.Key, .int .i64 x4.Value, .int .i64 x2, .int .i64 v2, .int .i64 x4.Known]), (2000070, .row 48 5 0 (List.map enc_Fact q1.2.2))] (by kernel_rfl) ?_))))
         refine ov_nil (nrm_thenV (vr_text (o_runh 3 [(72, .sl 5 72 1 0 1), (71, .agg [.str x4.Key, .int .i64 x4.Value, .int .i64 x2, .int .i64 v2, .int .i64 x4.Known]), (70, .sl 5 2000070 ((q1.2.2).length) 0 ((q1.2.2).length))] [(72, .row 48 5 0 (List.map enc_Fact [(Fact.mk x4.Key x4.Value x2 v2 x4.Known)])), (14, .box 48 [.str x4.Key, .int .i64 x4.Value, .int .i64 x2, .int .i64 v2, .int .i64 x4.Known]), (2000070, .row 48 5 0 (List.map enc_Fact q1.2.2))] (by kernel_rfl) ?_)))
         obtain ⟨_, g6, hs⟩ := bind_some hs; replace g6 := grd_some g6
         refine o_loc (F := [(2000070, .row 48 5 0 (List.map enc_Fact q1.2.2)), (72, .row 48 5 0 (List.map enc_Fact [(Fact.mk x4.Key x4.Value x2 v2 x4.Known)]))]) (F' := [(2000070, .row 48 5 0 (List.map enc_Fact (q1.2.2 ++ [(Fact.mk x4.Key x4.Value x2 v2 x4.Known)]))), (72, .row 48 5 0 (List.map enc_Fact [(Fact.mk x4.Key x4.Value x2 v2 x4.Known)]))]) (v := .sl 5 2000070 (((q1.2.2 ++ [(Fact.mk x4.Key x4.Value x2 v2 x4.Known)])).length) 0 (((q1.2.2 ++ [(Fact.mk x4.Key x4.Value x2 v2 x4.Known)])).length)) [2000070, 72] (by kernel_rfl) (by kernel_rfl) rfl (by kernel_rfl) (loc_appendT (e := 48) (sz := 5) (bytes := 48) (L := (q1.2.2).length) (els := (List.map enc_Fact q1.2.2)) (ys := (List.map enc_Fact [(Fact.mk x4.Key x4.Value x2 v2 x4.Known)])) (by kernel_rfl) (by kernel_rfl) (by first | exact List.length_map .. | rfl) (.sl (t := 48) (fz := 0) (ys := (List.map enc_Fact [(Fact.mk x4.Key x4.Value x2 v2 x4.Known)])) (by kernel_rfl) (by kernel_rfl)) (map_ones enc_Fact (fun _ => rfl) _) (map_lens enc_Fact (fun _ => rfl) _) (by kernel_rfl) (by first | exact (List.map_append ..).symm | rfl | simp only [List.map_nil, List.nil_append]) (List.length_map ..) g6 (by omega)) (by kernel_rfl) ?_
         refine o_runs 1 [(7, .sl 5 2000070 (((q1.2.2 ++ [(Fact.mk x4.Key x4.Value x2 v2 x4.Known)])).length) 0 (((q1.2.2 ++ [(Fact.mk x4.Key x4.Value x2 v2 x4.Known)])).length))] (by kernel_rfl) ?_
         refine ov_nil ?_
         obtain rfl := si hs
         refine nrm_join (q1.2.2 ++ [(Fact.mk x4.Key x4.Value x2 v2 x4.Known)]) rfl ?_
         exact cut_of [0, 1, 2, 7, 8, 12, 25, 26, 27] [2000070] (by kernel_rfl) (by kernel_rfl) (by kernel_rfl)
        ·replace hs := bif_f h6 hs
         refine v_skip ?_
         obtain rfl := si hs
         refine nrm_join q1.2.2 rfl ?_
         exact cut_of [0, 1, 2, 7, 8, 12, 25, 26, 27] [2000070] (by kernel_rfl) (by kernel_rfl) (by kernel_rfl)
      ·subst hz; clear hs; have hs := hk4; clear hk4
       refine nrm_blkV (nrm_thenV (vr_text (o_runs 2 [(9, .int .i64 y3), (74, .int .i64 y3)] (by kernel_rfl) ?_)))
       refine ov_nil (nrm_blkV (nrm_thenV (vr_text (o_runs 2 [(27, .int .i64 (w64 (q1.2.1 + 1))), (75, .int .i64 (w64 (q1.2.1 + 1)))] (by kernel_rfl) ?_))))
       refine ov_nil (nrm_fuel (y3, (w64 (q1.2.1 + 1)), v4) hs ?_)
       exact cut_of [0, 1, 2, 7, 8, 9, 25, 26, 27] [2000070] (by kernel_rfl) (by kernel_rfl) (by kernel_rfl)
   ·replace hs := bif_f h2 hs
    refine v_exit (exit_thenV (exit_fuel ?_))
    refine exit_blkV ?_
    obtain rfl := si hs
    refine nrm_join q1.2.2 rfl ?_
    exact cut_of [7] [2000070] (by kernel_rfl) (by kernel_rfl) (by kernel_rfl)
  ·subst hz; clear hs; have hs := hk1; clear hk1
   refine nrm_thenV (v_seq (vr_text (o_runs 2 [(6, .sl 5 2000070 ((v1).length) 0 ((v1).length)), (76, .sl 5 2000070 ((v1).length) 0 ((v1).length))] (by kernel_rfl) ?_)))
   refine ov_nil (nrm_thenV (v_to _ [(2000070, .row 48 5 (((List.map enc_Fact v1)).length) (List.map enc_Fact v1))] (cut_freeze (F := [(2000070, .row 48 5 0 (List.map enc_Fact v1))]) [2000070] rfl (by kernel_rfl) (by kernel_rfl)) ?_))
   refine v_to ((6, .vs 5 (List.map enc_Fact v1)) :: _) _ (cut_view (R := [(2000070, .row 48 5 (((List.map enc_Fact v1)).length) (List.map enc_Fact v1))]) (ks := [2000070]) (by kernel_rfl) (by kernel_rfl) (.row (t := 48) (fz := (((List.map enc_Fact v1)).length)) (by kernel_rfl) (by first | (simp only [List.length_map, List.length_set]; done) | rfl))) ?_
   refine v_ret ?_
   obtain rfl := si hs
   exact fin_ret (by kernel_rfl) (by kernel_rfl) (by kernel_rfl)
theorem w_fact_Corrections (base : (List Fact)) (key : (List UInt8)) (before : Int) (after : Int) (r : (List Stay)) (hs : s_fact_Corrections base key before after = some r) : FnA Tryz.prog 16 [.vs 5 (List.map enc_Fact base), .str key, .int .i64 before, .int .i64 after] [] (.vs 2 (List.map enc_Stay r)) [] := by
 refine fnA_of_wp (N := 91) Tryz.func16 rfl rfl rfl fun cK0 => ?_
 unfold s_fact_Corrections at hs
 refine v_same (ρ' := [(0, .vs 5 (List.map enc_Fact base)), (1, .str key), (2, .int .i64 before), (3, .int .i64 after)]) rfl rfl ?_
 refine v_seq (vr_text (o_runs 1 [(8, .nils)] (by kernel_rfl) ?_))
 refine ov_nil (nrm_thenV (v_seq (v_seq (vr_text (o_runs 1 [(19, .vs 5 (List.map enc_Fact base))] (by kernel_rfl) ?_)))))
 obtain ⟨y1, c1, hs⟩ := bind_some hs
 refine o_pure (v := .bool y1) (by kernel_rfl) (by kernel_rfl) (loc_gcall0 (callV_func hbv6 (by kernel_rfl)) (w_fact_Right base _ c1) (by kernel_rfl)) ?_
 refine o_runs 1 [(21, .bool (!y1))] (by kernel_rfl) ?_
 refine ov_nil (nrm_thenV ?_)
 refine v_cond (!y1) (by kernel_rfl) (fun h1 => ?_) (fun h1 => ?_)
 ·replace hs := bif_t h1 hs
  refine v_seq (vr_text (o_runs 1 [(8, .nils)] (by kernel_rfl) ?_))
  refine ov_nil (nrm_thenV (v_to ((8, .vs 2 (List.map enc_Stay [])) :: _) _ (cut_view (R := []) (ks := []) (by kernel_rfl) (by kernel_rfl) (.nils 2)) ?_))
  refine v_ret (ret_thenV ?_)
  obtain rfl := si hs
  exact fin_ret (by kernel_rfl) (by kernel_rfl) (by kernel_rfl)
 ·replace hs := bif_f h1 hs
  refine v_skip (nrm_thenV (v_seq (vr_text (o_runs 1 [(9, .nils)] (by kernel_rfl) ?_))))
  refine ov_nil (nrm_thenV (v_seq (vr_text (o_runs 2 [(23, .str key), (22, .vs 5 (List.map enc_Fact base))] (by kernel_rfl) ?_))))
  obtain ⟨y2, c2, hs⟩ := bind_some hs
  refine o_pure (v := .vs 1 (List.map EV.encI y2)) (by kernel_rfl) (by kernel_rfl) (loc_gcall0 (callV_func hbv25 (by kernel_rfl)) (w_fact_days base key _ c2) (by kernel_rfl)) ?_
  refine o_runs 2 [(11, .bool false), (10, .vs 1 (List.map EV.encI y2))] (by kernel_rfl) ?_
  refine ov_nil (nrm_thenV (v_seq (v_seq (vr_text (o_runs 2 [(26, .vs 1 (List.map EV.encI y2)), (25, .vs 1 (List.map EV.encI y2))] (by kernel_rfl) ?_)))))
  refine o_pure (v := .int .i64 (List.length y2 : Int)) (by kernel_rfl) (by kernel_rfl) (loc_lenVs (sz := 1) (els := (List.map EV.encI y2)) (by kernel_rfl) (by kernel_rfl) (List.length_map ..)) ?_
  refine o_runs 1 [(28, .int .i64 (w64 ((List.length y2 : Int) - 1)))] (by kernel_rfl) ?_
  obtain ⟨x1, g1, hs⟩ := bind_some hs; obtain ⟨g1a, g1b, g1c, g1d⟩ := cut_some g1
  refine o_pure (v := .vs 1 (List.map EV.encI x1)) (by kernel_rfl) (by kernel_rfl) (loc_sliceVsT (e := 3) (sz := 1) (l := 0) (h := (w64 ((List.length y2 : Int) - 1))) (els := (List.map EV.encI y2)) (by kernel_rfl) (by kernel_rfl) rfl ⟨.i64, by kernel_rfl⟩ g1a g1b (by simpa only [List.length_map] using g1c) (by rw [g1d, List.map_drop, List.map_take])) ?_
  refine o_pure (v := .int .i64 (List.length x1 : Int)) (by kernel_rfl) (by kernel_rfl) (loc_lenVs (sz := 1) (els := (List.map EV.encI x1)) (by kernel_rfl) (by kernel_rfl) (List.length_map ..)) ?_
  refine o_runs 1 [(31, .int .i64 0)] (by kernel_rfl) ?_
  refine ov_nil (nrm_thenV ?_)
  obtain ⟨z1, hs, hk1⟩ := bind_some hs
  refine v_join (S := (List Stay)) (fun u => u = z1) (fun u => [(9, .sl 2 2000077 ((u).length) 0 ((u).length))]) (fun u => [(2000077, .row 61 2 0 (List.map enc_Stay u))]) ?_ (fun v1 hz => ?_)
  ·refine v_block ?_
   refine v_fuel (S := Bool × Int × (List Stay)) (fun u => [(0, .vs 5 (List.map enc_Fact base)), (1, .str key), (2, .int .i64 before), (3, .int .i64 after), (9, .sl 2 2000077 ((u.2.2).length) 0 ((u.2.2).length)), (10, .vs 1 (List.map EV.encI y2)), (11, .bool u.1), (29, .vs 1 (List.map EV.encI x1)), (30, .int .i64 (List.length x1 : Int)), (31, .int .i64 u.2.1)]) (fun u => [(2000077, .row 61 2 0 (List.map enc_Stay u.2.2))]) (s_fact_Corrections_L1 base key before after y2 x1) (fun _ => rfl) KK (false, 0, []) hs (Cut.trans (cut_nilRow 9 2000077 61 2 rfl (by kernel_rfl) (by kernel_rfl)) (cut_of [0, 1, 2, 3, 9, 10, 11, 29, 30, 31] [2000077] (by kernel_rfl) (by kernel_rfl) (by kernel_rfl))) (fun K1 q1 hs => ?_)
   rw [s_fact_Corrections_L1] at hs
   show WpV cK0 Tryz.prog none 91 _ _ [(0, .vs 5 (List.map enc_Fact base)), (1, .str key), (2, .int .i64 before), (3, .int .i64 after), (9, .sl 2 2000077 ((q1.2.2).length) 0 ((q1.2.2).length)), (10, .vs 1 (List.map EV.encI y2)), (11, .bool q1.1), (29, .vs 1 (List.map EV.encI x1)), (30, .int .i64 (List.length x1 : Int)), (31, .int .i64 q1.2.1)] [(2000077, .row 61 2 0 (List.map enc_Stay q1.2.2))] []
   refine v_seq (vr_text (o_runs 1 [(32, .bool (decide (q1.2.1 < (List.length x1 : Int))))] (by kernel_rfl) ?_))
   refine ov_nil (nrm_thenV (v_seq ?_))
   refine v_cond (decide (q1.2.1 < (List.length x1 : Int))) (by kernel_rfl) (fun h2 => ?_) (fun h2 => ?_)
   ·replace hs := bif_t h2 hs
    refine v_skip (nrm_thenV (v_seq (v_block (v_seq (vr_text (o_runs 1 [(33, .int .i64 q1.2.1)] (by kernel_rfl) ?_))))))
    obtain ⟨x2, g2, hs⟩ := bind_some hs; obtain ⟨g2a, g2b, g2c⟩ := idx_some g2
    refine o_pure (v := .vp [.int .i64 x2] 0) (by kernel_rfl) (by kernel_rfl) (loc_indexVs (e := 3) (sz := 1) (k := .i64) (els := (List.map EV.encI x1)) (cs := (EV.encI x2)) (by kernel_rfl) (by kernel_rfl) (by kernel_rfl) g2a (by rw [g2c]; exact map_get _ (by omega))) ?_
    refine o_runs 3 [(13, .int .i64 x2), (12, .int .i64 q1.2.1), (35, .int .i64 x2)] (by kernel_rfl) ?_
    refine ov_nil (nrm_thenV (v_seq (vr_text (o_runs 4 [(40, .int .i64 before), (39, .int .i64 x2), (38, .str key), (37, .vs 5 (List.map enc_Fact base))] (by kernel_rfl) ?_))))
    obtain ⟨y3, c3, hs⟩ := bind_some hs
    refine o_pure (v := .tup [.int .i64 y3.1, .bool y3.2]) (by kernel_rfl) (by kernel_rfl) (loc_gcall0 (callV_func hbv8 (by kernel_rfl)) (w_fact_At base key x2 before _ c3) (by kernel_rfl)) ?_
    refine o_runs 5 [(15, .bool y3.2), (14, .int .i64 y3.1), (43, .bool y3.2), (42, .int .i64 y3.1), (36, .tup [.int .i64 y3.1, .bool y3.2])] (by kernel_rfl) ?_
    refine ov_nil (nrm_thenV (v_seq (vr_text (o_runs 4 [(48, .int .i64 after), (47, .int .i64 x2), (46, .str key), (45, .vs 5 (List.map enc_Fact base))] (by kernel_rfl) ?_))))
    obtain ⟨y4, c4, hs⟩ := bind_some hs
    refine o_pure (v := .tup [.int .i64 y4.1, .bool y4.2]) (by kernel_rfl) (by kernel_rfl) (loc_gcall0 (callV_func hbv8 (by kernel_rfl)) (w_fact_At base key x2 after _ c4) (by kernel_rfl)) ?_
    refine o_runs 5 [(17, .bool y4.2), (16, .int .i64 y4.1), (51, .bool y4.2), (50, .int .i64 y4.1), (44, .tup [.int .i64 y4.1, .bool y4.2])] (by kernel_rfl) ?_
    refine ov_nil (nrm_thenV (v_seq ?_))
    obtain ⟨z2, hs, hk2⟩ := bind_some hs
    refine v_join (S := Bool) (fun u => u = z2) (fun u => [(0, .vs 5 (List.map enc_Fact base)), (1, .str key), (2, .int .i64 before), (3, .int .i64 after), (9, .sl 2 2000077 ((q1.2.2).length) 0 ((q1.2.2).length)), (10, .vs 1 (List.map EV.encI y2)), (11, .bool q1.1), (12, .int .i64 q1.2.1), (13, .int .i64 x2), (18, .bool u), (29, .vs 1 (List.map EV.encI x1)), (30, .int .i64 (List.length x1 : Int)), (31, .int .i64 q1.2.1)]) (fun u => [(2000077, .row 61 2 0 (List.map enc_Stay q1.2.2))]) ?_ (fun v2 hz => ?_)
    ·refine vr_text (o_runs 4 [(55, .bool (!(decide (y3.1 = y4.1)))), (54, .bool (!(decide (y3.1 = y4.1)))), (53, .int .i64 y4.1), (52, .int .i64 y3.1)] (by kernel_rfl) ?_)
     cases h3 : ((!(decide (y3.1 = y4.1))))
     ·replace hs := bif_f h3 hs
      refine o_runs 5 [(18, .bool (!(y3.2 == y4.2))), (59, .bool (!(y3.2 == y4.2))), (58, .bool (!(y3.2 == y4.2))), (57, .bool y4.2), (56, .bool y3.2)] (by kernel_rfl) ?_
      refine ov_nil ?_
      obtain rfl := si hs
      refine nrm_join (!(y3.2 == y4.2)) rfl ?_
      exact cut_of [0, 1, 2, 3, 9, 10, 11, 12, 13, 18, 29, 30, 31] [2000077] (by kernel_rfl) (by kernel_rfl) (by kernel_rfl)
     ·replace hs := bif_t h3 hs
      refine o_runs 5 [(18, .bool true), (59, .bool true), (58, .no), (57, .no), (56, .no)] (by kernel_rfl) ?_
      refine ov_nil ?_
      obtain rfl := si hs
      refine nrm_join true rfl ?_
      exact cut_of [0, 1, 2, 3, 9, 10, 11, 12, 13, 18, 29, 30, 31] [2000077] (by kernel_rfl) (by kernel_rfl) (by kernel_rfl)
    ·subst hz; clear hs; have hs := hk2; clear hk2
     refine nrm_thenV (v_seq (v_seq ?_))
     obtain ⟨z3, hs, hk3⟩ := bind_some hs
     refine v_join (S := Bool × Bool) (fun u => u = z3) (fun u => [(0, .vs 5 (List.map enc_Fact base)), (1, .str key), (2, .int .i64 before), (3, .int .i64 after), (9, .sl 2 2000077 ((q1.2.2).length) 0 ((q1.2.2).length)), (10, .vs 1 (List.map EV.encI y2)), (12, .int .i64 q1.2.1), (13, .int .i64 x2), (18, .bool u.1), (29, .vs 1 (List.map EV.encI x1)), (30, .int .i64 (List.length x1 : Int)), (31, .int .i64 q1.2.1), (63, .bool u.2)]) (fun u => [(2000077, .row 61 2 0 (List.map enc_Stay q1.2.2))]) ?_ (fun v3 hz => ?_)
     ·refine vr_text (o_runs 2 [(61, .bool v2), (60, .bool v2)] (by kernel_rfl) ?_)
      cases h4 : (v2)
      ·replace hs := bif_f h4 hs
       refine o_runs 2 [(63, .bool false), (62, .no)] (by kernel_rfl) ?_
       refine ov_nil ?_
       obtain rfl := si hs
       refine nrm_join (false, false) rfl ?_
       exact cut_of [0, 1, 2, 3, 9, 10, 12, 13, 18, 29, 30, 31, 63] [2000077] (by kernel_rfl) (by kernel_rfl) (by kernel_rfl)
      ·replace hs := bif_t h4 hs
       refine o_runs 2 [(63, .bool q1.1), (62, .bool q1.1)] (by kernel_rfl) ?_
       refine ov_nil ?_
       obtain rfl := si hs
       refine nrm_join (true, q1.1) rfl ?_
       exact cut_of [0, 1, 2, 3, 9, 10, 12, 13, 18, 29, 30, 31, 63] [2000077] (by kernel_rfl) (by kernel_rfl) (by kernel_rfl)
     ·subst hz; clear hs; have hs := hk3; clear hk3
      refine nrm_thenV ?_
      obtain ⟨z4, hs, hk4⟩ := bind_some hs
      refine v_join (S := (List Stay)) (fun u => u = z4) (fun u => [(0, .vs 5 (List.map enc_Fact base)), (1, .str key), (2, .int .i64 before), (3, .int .i64 after), (9, .sl 2 2000077 ((u).length) 0 ((u).length)), (10, .vs 1 (List.map EV.encI y2)), (18, .bool v3.1), (29, .vs 1 (List.map EV.encI x1)), (30, .int .i64 (List.length x1 : Int)), (31, .int .i64 q1.2.1)]) (fun u => [(2000077, .row 61 2 0 (List.map enc_Stay u))]) ?_ (fun v4 hz => ?_)
      ·refine v_cond v3.2 (by kernel_rfl) (fun h5 => ?_) (fun h5 => ?_)
       ·replace hs := bif_t h5 hs
        refine vr_text (o_runs 7 [(70, .int .i64 (w64 (q1.2.1 + 1))), (69, .int .i64 q1.2.1), (68, .vs 1 (List.map EV.encI y2)), (67, .int .i64 (w64 (((q1.2.2).length : Int) - 1))), (66, .int .i64 ((q1.2.2).length : Int)), (65, .sl 2 2000077 ((q1.2.2).length) 0 ((q1.2.2).length)), (64, .sl 2 2000077 ((q1.2.2).length) 0 ((q1.2.2).length))] (by kernel_rfl) ?_)
        obtain ⟨x3, g3, hs⟩ := bind_some hs; obtain ⟨g3a, g3b, g3c⟩ := idx_some g3
        refine o_pure (v := .vp [.int .i64 x3] 0) (by kernel_rfl) (by kernel_rfl) (loc_indexVs (e := 3) (sz := 1) (k := .i64) (els := (List.map EV.encI y2)) (cs := (EV.encI x3)) (by kernel_rfl) (by kernel_rfl) (by kernel_rfl) g3a (by rw [g3c]; exact map_get _ (by omega))) ?_
        refine o_runs 2 [(73, .int .i64 (w64 (x3 - 1))), (72, .int .i64 x3)] (by kernel_rfl) ?_
        obtain ⟨_, g4, hs⟩ := bind_some hs; obtain ⟨g4a, g4b⟩ := grd_some g4
        refine o_pure (v := .ptr 2000077 ((q1.2.2).length) ((Int.toNat (w64 (((q1.2.2).length : Int) - 1))) * 2 + 0)) (by kernel_rfl) (by kernel_rfl) (loc_indexRowT (e := 61) (sz := 2) (kk := 2000077) (L := (q1.2.2).length) (n := (q1.2.2).length) (k := .i64) (i := (w64 (((q1.2.2).length : Int) - 1))) (by kernel_rfl) (by kernel_rfl) (by kernel_rfl) g4a g4b) ?_
        refine o_runs 1 [(75, .ptr 2000077 ((q1.2.2).length) ((Int.toNat (w64 (((q1.2.2).length : Int) - 1))) * 2 + 1))] (by kernel_rfl) ?_
        obtain ⟨e1, he1, hs⟩ := bind_some hs; replace he1 := Option.some.inj he1
        refine o_loc (F := [(2000077, .row 61 2 0 (List.map enc_Stay q1.2.2))]) (F' := [(2000077, .row 61 2 0 (List.map enc_Stay (List.set q1.2.2 (Int.toNat (w64 (((q1.2.2).length : Int) - 1))) (Stay.mk e1.From (w64 (x3 - 1))))))]) (v := .no) [2000077] (by kernel_rfl) (by kernel_rfl) rfl (by kernel_rfl) (loc_storeRowT (L := (q1.2.2).length) (off := (Int.toNat (w64 (((q1.2.2).length : Int) - 1))) * 2 + 1) (els := (List.map enc_Stay q1.2.2)) (cs := (enc_Stay e1)) (c' := (enc_Stay (Stay.mk e1.From (w64 (x3 - 1))))) (Int.toNat (w64 (((q1.2.2).length : Int) - 1))) 1 (by kernel_rfl) (by first | (simp only [List.length_map, List.length_set]; done) | rfl) rfl (by rw [← he1]; exact map_get _ (by first | omega | (simp only [List.length_set]; omega))) (by first | exact Nat.zero_le _ | omega) (by kernel_rfl) (by kernel_rfl) (by kernel_rfl) (by kernel_rfl) (by kernel_rfl) (by kernel_rfl) List.map_set.symm) (by kernel_rfl) ?_
        refine ov_nil ?_
        obtain rfl := si hs
        refine nrm_join (List.set q1.2.2 (Int.toNat (w64 (((q1.2.2).length : Int) - 1))) (Stay.mk e1.From (w64 (x3 - 1)))) rfl ?_
        exact Cut.trans (cut_eq 9 (v := .sl 2 2000077 ((q1.2.2).length) 0 ((q1.2.2).length)) (v' := .sl 2 2000077 (((List.set q1.2.2 (Int.toNat (w64 (((q1.2.2).length : Int) - 1))) (Stay.mk e1.From (w64 (x3 - 1))))).length) 0 (((List.set q1.2.2 (Int.toNat (w64 (((q1.2.2).length : Int) - 1))) (Stay.mk e1.From (w64 (x3 - 1))))).length)) (by kernel_rfl) (by first | rfl | simp only [List.length_set])) (cut_of [0, 1, 2, 3, 9, 10, 18, 29, 30, 31] [2000077] (by kernel_rfl) (by kernel_rfl) (by kernel_rfl))
       ·replace hs := bif_f h5 hs
        refine v_seq (vr_text (o_runs 1 [(76, .bool v3.1)] (by kernel_rfl) ?_))
        refine ov_nil (nrm_thenV ?_)
        refine v_cond v3.1 (by kernel_rfl) (fun h6 => ?_) (fun h6 => ?_)
        ·replace hs := bif_t h6 hs
         refine vr_text (o_runs 5 [(81, .int .i64 (w64 (q1.2.1 + 1))), (80, .int .i64 q1.2.1), (79, .vs 1 (List.map EV.encI y2)), (78, .int .i64 x2), (77, .sl 2 2000077 ((q1.2.2).length) 0 ((q1.2.2).length))] (by kernel_rfl) ?_)
         obtain ⟨x4, g5, hs⟩ := bind_some hs; obtain ⟨g5a, g5b, g5c⟩ := idx_some g5
         refine o_pure (v := .vp [.int .i64 x4] 0) (by kernel_rfl) (by kernel_rfl) (loc_indexVs (e := 3) (sz := 1) (k := .i64) (els := (List.map EV.encI y2)) (cs := (EV.encI x4)) (by kernel_rfl) (by kernel_rfl) (by kernel_rfl) g5a (by rw [g5c]; exact map_get _ (by omega))) ?_
         refine o_runh 4 [(86, .sl 2 86 1 0 1), (85, .agg [.int .i64 x2, .int .i64 (w64 (x4 - 1))]), (84, .int .i64 (w64 (x4 - 1))), (83, .int .i64 x4)] [(86, .row 61 2 0 (List.map enc_Stay [(Stay.mk x2 (w64 (x4 - 1)))])), (2000077, .row 61 2 0 (List.map enc_Stay q1.2.2))] (by kernel_rfl) ?_
         obtain ⟨_, g6, hs⟩ := bind_some hs; replace g6 := grd_some g6
         refine o_loc (F := [(2000077, .row 61 2 0 (List.map enc_Stay q1.2.2)), (86, .row 61 2 0 (List.map enc_Stay [(Stay.mk x2 (w64 (x4 - 1)))]))]) (F' := [(2000077, .row 61 2 0 (List.map enc_Stay (q1.2.2 ++ [(Stay.mk x2 (w64 (x4 - 1)))]))), (86, .row 61 2 0 (List.map enc_Stay [(Stay.mk x2 (w64 (x4 - 1)))]))]) (v := .sl 2 2000077 (((q1.2.2 ++ [(Stay.mk x2 (w64 (x4 - 1)))])).length) 0 (((q1.2.2 ++ [(Stay.mk x2 (w64 (x4 - 1)))])).length)) [2000077, 86] (by kernel_rfl) (by kernel_rfl) rfl (by kernel_rfl) (loc_appendT (e := 61) (sz := 2) (bytes := 16) (L := (q1.2.2).length) (els := (List.map enc_Stay q1.2.2)) (ys := (List.map enc_Stay [(Stay.mk x2 (w64 (x4 - 1)))])) (by kernel_rfl) (by kernel_rfl) (by first | exact List.length_map .. | rfl) (.sl (t := 61) (fz := 0) (ys := (List.map enc_Stay [(Stay.mk x2 (w64 (x4 - 1)))])) (by kernel_rfl) (by kernel_rfl)) (map_ones enc_Stay (fun _ => rfl) _) (map_lens enc_Stay (fun _ => rfl) _) (by kernel_rfl) (by first | exact (List.map_append ..).symm | rfl | simp only [List.map_nil, List.nil_append]) (List.length_map ..) g6 (by omega)) (by kernel_rfl) ?_
         refine o_runs 1 [(9, .sl 2 2000077 (((q1.2.2 ++ [(Stay.mk x2 (w64 (x4 - 1)))])).length) 0 (((q1.2.2 ++ [(Stay.mk x2 (w64 (x4 - 1)))])).length))] (by kernel_rfl) ?_
         refine ov_nil ?_
         obtain rfl := si hs
         refine nrm_join (q1.2.2 ++ [(Stay.mk x2 (w64 (x4 - 1)))]) rfl ?_
         exact cut_of [0, 1, 2, 3, 9, 10, 18, 29, 30, 31] [2000077] (by kernel_rfl) (by kernel_rfl) (by kernel_rfl)
        ·replace hs := bif_f h6 hs
         refine v_skip ?_
         obtain rfl := si hs
         refine nrm_join q1.2.2 rfl ?_
         exact cut_of [0, 1, 2, 3, 9, 10, 18, 29, 30, 31] [2000077] (by kernel_rfl) (by kernel_rfl) (by kernel_rfl)
      ·subst hz; clear hs; have hs := hk4; clear hk4
       refine nrm_thenV (vr_text (o_runs 2 [(11, .bool v3.1), (88, .bool v3.1)] (by kernel_rfl) ?_))
       refine ov_nil (nrm_blkV (nrm_thenV (vr_text (o_runs 2 [(31, .int .i64 (w64 (q1.2.1 + 1))), (89, .int .i64 (w64 (q1.2.1 + 1)))] (by kernel_rfl) ?_))))
       refine ov_nil (nrm_fuel (v3.1, (w64 (q1.2.1 + 1)), v4) hs ?_)
       exact cut_of [0, 1, 2, 3, 9, 10, 11, 29, 30, 31] [2000077] (by kernel_rfl) (by kernel_rfl) (by kernel_rfl)
   ·replace hs := bif_f h2 hs
    refine v_exit (exit_thenV (exit_fuel ?_))
    refine exit_blkV ?_
    obtain rfl := si hs
    refine nrm_join q1.2.2 rfl ?_
    exact cut_of [9] [2000077] (by kernel_rfl) (by kernel_rfl) (by kernel_rfl)
  ·subst hz; clear hs; have hs := hk1; clear hk1
   refine nrm_thenV (v_seq (vr_text (o_runs 2 [(8, .sl 2 2000077 ((v1).length) 0 ((v1).length)), (90, .sl 2 2000077 ((v1).length) 0 ((v1).length))] (by kernel_rfl) ?_)))
   refine ov_nil (nrm_thenV (v_to _ [(2000077, .row 61 2 (((List.map enc_Stay v1)).length) (List.map enc_Stay v1))] (cut_freeze (F := [(2000077, .row 61 2 0 (List.map enc_Stay v1))]) [2000077] rfl (by kernel_rfl) (by kernel_rfl)) ?_))
   refine v_to ((8, .vs 2 (List.map enc_Stay v1)) :: _) _ (cut_view (R := [(2000077, .row 61 2 (((List.map enc_Stay v1)).length) (List.map enc_Stay v1))]) (ks := [2000077]) (by kernel_rfl) (by kernel_rfl) (.row (t := 61) (fz := (((List.map enc_Stay v1)).length)) (by kernel_rfl) (by first | (simp only [List.length_map, List.length_set]; done) | rfl))) ?_
   refine v_ret ?_
   obtain rfl := si hs
   exact fin_ret (by kernel_rfl) (by kernel_rfl) (by kernel_rfl)
theorem w_slices_Clone (s : (List Fact)) (r : (List Fact)) (hs : s_slices_Clone s = some r) : FnA Tryz.prog 30 [.vs 5 (List.map enc_Fact s)] [] (.sl 5 5 ((r).length) 0 ((r).length)) [(5, .row 48 5 0 (List.map enc_Fact r))] := by
 refine fnA_of_wp (N := 8) Tryz.func30 rfl rfl rfl fun cK0 => ?_
 unfold s_slices_Clone at hs
 refine v_same (ρ' := [(0, .vs 5 (List.map enc_Fact s))]) rfl rfl ?_
 refine v_seq (vr_text (o_runs 1 [(2, .nils)] (by kernel_rfl) ?_))
 refine ov_nil (nrm_thenV (v_seq (v_seq (vr_text (o_runs 1 [(3, .vs 5 (List.map enc_Fact s))] (by kernel_rfl) ?_)))))
 replace hs := nd_some hs
 refine o_isNil (n := ((List.map enc_Fact s)).length) (by kernel_rfl) (by kernel_rfl) (by kernel_rfl) (by kernel_rfl) (by kernel_rfl) (fun h1 => ?_) ?_
 ·replace hs := hs.1 (by simpa using h1)
  refine ov_nil (nrm_thenV (v_cond_t (by kernel_rfl) ?_))
  refine v_seq (vr_text (o_runs 1 [(2, .nils)] (by kernel_rfl) ?_))
  refine ov_nil (nrm_thenV (v_to _ _ (cut_nilRow 2 5 48 5 rfl (by kernel_rfl) (by kernel_rfl)) ?_))
  refine v_ret (ret_thenV ?_)
  obtain rfl := si hs
  exact fin_ret (by kernel_rfl) (by kernel_rfl) (by kernel_rfl)
 ·replace hs := hs.2
  refine ov_nil (nrm_thenV (v_cond_f (by kernel_rfl) ?_))
  refine v_skip (nrm_thenV (v_seq (vr_text (o_runh 2 [(6, .vs 5 (List.map enc_Fact s)), (5, .sl 5 5 0 0 0)] [(5, .row 48 5 0 (List.map enc_Fact []))] (by kernel_rfl) ?_))))
  obtain ⟨_, g1, hs⟩ := bind_some hs; replace g1 := grd_some g1
  refine o_loc (F := [(5, .row 48 5 0 (List.map enc_Fact []))]) (F' := [(5, .row 48 5 0 (List.map enc_Fact s))]) (v := .sl 5 5 ((s).length) 0 ((s).length)) [5] (by kernel_rfl) (by kernel_rfl) rfl (by kernel_rfl) (loc_appendT (e := 48) (sz := 5) (bytes := 48) (L := 0) (els := (List.map enc_Fact [])) (ys := (List.map enc_Fact s)) (by kernel_rfl) (by kernel_rfl) (by first | exact List.length_map .. | rfl) (by have := Src.vs (sz := 5) (R := []) (List.map enc_Fact s); exact this) (map_ones enc_Fact (fun _ => rfl) _) (map_lens enc_Fact (fun _ => rfl) _) (by kernel_rfl) (by first | exact (List.map_append ..).symm | rfl | simp only [List.map_nil, List.nil_append]) (List.length_map ..) g1 (by omega)) (by kernel_rfl) ?_
  refine o_runs 1 [(2, .sl 5 5 ((s).length) 0 ((s).length))] (by kernel_rfl) ?_
  refine ov_nil (nrm_thenV (v_ret ?_))
  obtain rfl := si hs
  exact fin_ret (by kernel_rfl) (by kernel_rfl) (by kernel_rfl)
theorem w_fact_Put (base : (List Fact)) (f : Fact) (r : (List Fact) × Int) (hs : s_fact_Put base f = some r) : FnA Tryz.prog 17 [.vs 5 (List.map enc_Fact base), .agg (enc_Fact f)] [] (.tup [.vs 5 (List.map enc_Fact r.1), .int .i64 r.2]) [] := by
 refine fnA_of_wp (N := 40) Tryz.func17 rfl rfl rfl fun cK0 => ?_
 unfold s_fact_Put at hs
 refine v_same (ρ' := [(0, .vs 5 (List.map enc_Fact base)), (1, .agg (enc_Fact f))]) rfl rfl ?_
 refine v_seq (vr_text (o_runh 3 [(5, .int .i64 0), (4, .nils), (3, .ptr 3 0 0)] [(3, .box 48 [.str f.Key, .int .i64 f.Value, .int .i64 f.From, .int .i64 f.Until, .int .i64 f.Known])] (by kernel_rfl) ?_))
 refine ov_nil (nrm_thenV (v_seq (vr_text (o_runs 1 [(7, .vs 5 (List.map enc_Fact base))] (by kernel_rfl) ?_))))
 refine o_pure (v := .int .i64 (List.length base : Int)) (by kernel_rfl) (by kernel_rfl) (loc_lenVs (sz := 5) (els := (List.map enc_Fact base)) (by kernel_rfl) (by kernel_rfl) (List.length_map ..)) ?_
 refine o_runs 1 [(6, .int .i64 (List.length base : Int))] (by kernel_rfl) ?_
 refine ov_nil (nrm_thenV (v_seq (v_block (v_seq ?_))))
 obtain ⟨z1, hs, hk1⟩ := bind_some hs
 refine v_join (S := Bool) (fun u => u = z1) (fun u => [(0, .vs 5 (List.map enc_Fact base)), (3, .ptr 3 0 0), (6, .int .i64 (List.length base : Int)), (9, .bool u)]) (fun u => [(3, .box 48 [.str f.Key, .int .i64 f.Value, .int .i64 f.From, .int .i64 f.Until, .int .i64 f.Known])]) ?_ (fun v1 hz => ?_)
 ·refine vr_text (o_runs 1 [(10, .vs 5 (List.map enc_Fact base))] (by kernel_rfl) ?_)
  obtain ⟨y1, c1, hs⟩ := bind_some hs
  refine o_pure (v := .bool y1) (by kernel_rfl) (by kernel_rfl) (loc_gcall0 (callV_func hbv6 (by kernel_rfl)) (w_fact_Right base _ c1) (by kernel_rfl)) ?_
  refine o_runs 2 [(13, .bool (!y1)), (12, .bool (!y1))] (by kernel_rfl) ?_
  cases h1 : ((!y1))
  ·replace hs := bif_f h1 hs
   refine o_runs 1 [(14, .agg (enc_Fact f))] (by kernel_rfl) ?_
   obtain ⟨y2, c2, hs⟩ := bind_some hs
   refine o_pure (v := .bool y2) (by kernel_rfl) (by kernel_rfl) (loc_gcall0 (callV_func hbv18 (by kernel_rfl)) (w_fact_valid f _ c2) (by kernel_rfl)) ?_
   refine o_runs 3 [(9, .bool (!y2)), (17, .bool (!y2)), (16, .bool (!y2))] (by kernel_rfl) ?_
   refine ov_nil ?_
   obtain rfl := si hs
   refine nrm_join (!y2) rfl ?_
   exact cut_of [0, 3, 6, 9] [3] (by kernel_rfl) (by kernel_rfl) (by kernel_rfl)
  ·replace hs := bif_t h1 hs
   refine o_runs 5 [(9, .bool true), (17, .bool true), (16, .no), (15, .no), (14, .no)] (by kernel_rfl) ?_
   refine ov_nil ?_
   obtain rfl := si hs
   refine nrm_join true rfl ?_
   exact cut_of [0, 3, 6, 9] [3] (by kernel_rfl) (by kernel_rfl) (by kernel_rfl)
 ·subst hz; clear hs; have hs := hk1; clear hk1
  refine nrm_thenV ?_
  refine v_cond v1 (by kernel_rfl) (fun h2 => ?_) (fun h2 => ?_)
  ·replace hs := bif_t h2 hs
   refine v_seq (vr_text (o_runs 2 [(5, .int .i64 1), (4, .nils)] (by kernel_rfl) ?_))
   refine ov_nil (nrm_thenV (v_to ((4, .vs 5 (List.map enc_Fact [])) :: _) _ (cut_view (R := []) (ks := []) (by kernel_rfl) (by kernel_rfl) (.nils 5)) ?_))
   refine v_ret (ret_blkV (ret_thenV ?_))
   obtain rfl := si hs
   exact fin_ret (by kernel_rfl) (by kernel_rfl) (by kernel_rfl)
  ·replace hs := bif_f h2 hs
   refine v_seq ?_
   obtain ⟨z2, hs, hk2⟩ := bind_some hs
   refine v_join (S := Bool) (fun u => u = z2) (fun u => [(0, .vs 5 (List.map enc_Fact base)), (3, .ptr 3 0 0), (6, .int .i64 (List.length base : Int)), (18, .bool u)]) (fun u => [(3, .box 48 [.str f.Key, .int .i64 f.Value, .int .i64 f.From, .int .i64 f.Until, .int .i64 f.Known])]) ?_ (fun v2 hz => ?_)
   ·refine v_draw mixedH (by kernel_rfl) ?_
    refine d_runs 3 0 [(21, .bool (decide ((List.length base : Int) > 0))), (20, .bool (decide ((List.length base : Int) > 0))), (19, .int .i64 (List.length base : Int))] (pfp 3 2) (by kernel_rfl) (by kernel_rfl) ?_
    cases h3 : ((decide ((List.length base : Int) > 0)))
    ·replace hs := bif_f h3 hs
     refine d_runs 11 3 [(18, .bool false), (31, .bool false), (30, .no), (29, .no), (28, .no), (27, .no), (26, .no), (25, .no), (24, .no), (23, .no), (22, .no)] (pfp 11 13) (by kernel_rfl) (by kernel_rfl) ?_
     refine d_nil (by kernel_rfl) ?_
     obtain rfl := si hs
     refine nrm_join false rfl ?_
     exact cut_of [0, 3, 6, 18] [3] (by kernel_rfl) (by kernel_rfl) (by kernel_rfl)
    ·replace hs := bif_t h3 hs
     refine d_runs 5 3 [(26, .int .i64 (w64 ((List.length base : Int) - 1))), (25, .int .i64 (List.length base : Int)), (24, .vs 5 (List.map enc_Fact base)), (23, .int .i64 f.Known), (22, .ptr 3 0 4)] [⟨7, [], []⟩, ⟨6, [], []⟩, ⟨5, [], []⟩, ⟨4, [], [3]⟩, ⟨3, [], []⟩] (by kernel_rfl) (by kernel_rfl) ?_
     obtain ⟨x1, g1, hs⟩ := bind_some hs; obtain ⟨g1a, g1b, g1c⟩ := idx_some g1
     refine d_pure (v := .vp (enc_Fact x1) 0) 8 rfl rfl rfl rfl (by kernel_rfl) (by kernel_rfl) (loc_indexVs (e := 48) (sz := 5) (k := .i64) (els := (List.map enc_Fact base)) (cs := (enc_Fact x1)) (by kernel_rfl) (by kernel_rfl) (by kernel_rfl) g1a (by rw [g1c]; exact map_get _ (by omega))) ?_
     refine d_runs 5 9 [(18, .bool (decide (f.Known < x1.Known))), (31, .bool (decide (f.Known < x1.Known))), (30, .bool (decide (f.Known < x1.Known))), (29, .int .i64 x1.Known), (28, .vp (enc_Fact x1) 4)] (pfp 5 13) (by kernel_rfl) (by kernel_rfl) ?_
     refine d_nil (by kernel_rfl) ?_
     obtain rfl := si hs
     refine nrm_join (decide (f.Known < x1.Known)) rfl ?_
     exact cut_of [0, 3, 6, 18] [3] (by kernel_rfl) (by kernel_rfl) (by kernel_rfl)
   ·subst hz; clear hs; have hs := hk2; clear hk2
    refine nrm_thenV ?_
    refine v_cond v2 (by kernel_rfl) (fun h4 => ?_) (fun h4 => ?_)
    ·replace hs := bif_t h4 hs
     refine v_seq (vr_text (o_runs 2 [(5, .int .i64 20), (4, .nils)] (by kernel_rfl) ?_))
     refine ov_nil (nrm_thenV (v_to ((4, .vs 5 (List.map enc_Fact [])) :: _) _ (cut_view (R := []) (ks := []) (by kernel_rfl) (by kernel_rfl) (.nils 5)) ?_))
     refine v_ret (ret_blkV (ret_thenV ?_))
     obtain rfl := si hs
     exact fin_ret (by kernel_rfl) (by kernel_rfl) (by kernel_rfl)
    ·replace hs := bif_f h4 hs
     refine v_seq (vr_text (o_runs 3 [(32, .bool (decide ((List.length base : Int) = 5000))), (34, .bool (decide ((List.length base : Int) = 5000))), (33, .int .i64 (List.length base : Int))] (by kernel_rfl) ?_))
     refine ov_nil (nrm_thenV ?_)
     refine v_cond (decide ((List.length base : Int) = 5000)) (by kernel_rfl) (fun h5 => ?_) (fun h5 => ?_)
     ·replace hs := bif_t h5 hs
      refine v_seq (vr_text (o_runs 2 [(5, .int .i64 6), (4, .nils)] (by kernel_rfl) ?_))
      refine ov_nil (nrm_thenV (v_to ((4, .vs 5 (List.map enc_Fact [])) :: _) _ (cut_view (R := []) (ks := []) (by kernel_rfl) (by kernel_rfl) (.nils 5)) ?_))
      refine v_ret (ret_blkV (ret_thenV ?_))
      obtain rfl := si hs
      exact fin_ret (by kernel_rfl) (by kernel_rfl) (by kernel_rfl)
     ·replace hs := bif_f h5 hs
      refine v_skip (nrm_blkV (nrm_thenV (v_seq (v_draw mixedH (by kernel_rfl) ?_))))
      refine d_runs 1 0 [(35, .vs 5 (List.map enc_Fact base))] (pfp 1 0) (by kernel_rfl) (by kernel_rfl) ?_
      obtain ⟨y3, c3, hs⟩ := bind_some hs
      refine d_loc (F := []) (R := []) (F' := [(3003600, .row 48 5 0 (List.map enc_Fact y3))]) (v := .sl 5 3003600 ((y3).length) 0 ((y3).length)) 1 [] [] rfl rfl rfl rfl (by kernel_rfl) (by kernel_rfl) (by kernel_rfl) (by kernel_rfl) (by kernel_rfl) (by kernel_rfl) (by kernel_rfl) (by kernel_rfl) (loc_g (R := []) [.vs 5 (List.map enc_Fact base)] [(5, 3003600)] (callV_func hbv30 (by kernel_rfl)) (w_slices_Clone base _ c3) (.cons (.same _) (.nil)) (by kernel_rfl) (by kernel_rfl) (by kernel_rfl) (by kernel_rfl) (by kernel_rfl) (by kernel_rfl) (by kernel_rfl) (by kernel_rfl)) ?_
      refine d_runh 2 2 [(38, .sl 5 38 1 0 1), (37, .agg (enc_Fact f))] [(38, .row 48 5 0 (List.map enc_Fact [f])), (3003600, .row 48 5 0 (List.map enc_Fact y3)), (3, .box 48 [.str f.Key, .int .i64 f.Value, .int .i64 f.From, .int .i64 f.Until, .int .i64 f.Known])] [⟨3, [38], []⟩, ⟨2, [], [3]⟩] (by kernel_rfl) (by kernel_rfl) ?_
      obtain ⟨_, g2, hs⟩ := bind_some hs; replace g2 := grd_some g2
      refine d_loc (F := [(3003600, .row 48 5 0 (List.map enc_Fact y3))]) (R := [(38, .row 48 5 0 (List.map enc_Fact [f]))]) (F' := [(3003600, .row 48 5 0 (List.map enc_Fact (y3 ++ [f])))]) (v := .sl 5 3003600 (((y3 ++ [f])).length) 0 (((y3 ++ [f])).length)) 4 [3003600] [38] rfl rfl rfl rfl (by kernel_rfl) (by kernel_rfl) (by kernel_rfl) (by kernel_rfl) (by kernel_rfl) (by kernel_rfl) (by kernel_rfl) (by kernel_rfl) (loc_appendT (e := 48) (sz := 5) (bytes := 48) (L := (y3).length) (els := (List.map enc_Fact y3)) (ys := (List.map enc_Fact [f])) (by kernel_rfl) (by kernel_rfl) (by first | exact List.length_map .. | rfl) (.sl (t := 48) (fz := 0) (ys := (List.map enc_Fact [f])) (by kernel_rfl) (by kernel_rfl)) (map_ones enc_Fact (fun _ => rfl) _) (map_lens enc_Fact (fun _ => rfl) _) (by kernel_rfl) (by first | exact (List.map_append ..).symm | rfl | simp only [List.map_nil, List.nil_append]) (List.length_map ..) g2 (by omega)) ?_
      refine d_runs 2 5 [(5, .int .i64 0), (4, .sl 5 3003600 (((y3 ++ [f])).length) 0 (((y3 ++ [f])).length))] (pfp 2 6) (by kernel_rfl) (by kernel_rfl) ?_
      refine d_nil (by kernel_rfl) ?_
      refine nrm_thenV (v_to _ [(3003600, .row 48 5 (((List.map enc_Fact (y3 ++ [f]))).length) (List.map enc_Fact (y3 ++ [f]))), (38, .row 48 5 0 (List.map enc_Fact [f])), (3, .box 48 [.str f.Key, .int .i64 f.Value, .int .i64 f.From, .int .i64 f.Until, .int .i64 f.Known])] (cut_freeze (F := [(3003600, .row 48 5 0 (List.map enc_Fact (y3 ++ [f])))]) [3003600] rfl (by kernel_rfl) (by kernel_rfl)) ?_)
      refine v_to ((4, .vs 5 (List.map enc_Fact (y3 ++ [f]))) :: _) _ (cut_view (R := [(3003600, .row 48 5 (((List.map enc_Fact (y3 ++ [f]))).length) (List.map enc_Fact (y3 ++ [f])))]) (ks := [3003600]) (by kernel_rfl) (by kernel_rfl) (.row (t := 48) (fz := (((List.map enc_Fact (y3 ++ [f]))).length)) (by kernel_rfl) (by first | (simp only [List.length_map, List.length_set]; done) | rfl))) ?_
      refine v_ret ?_
      obtain rfl := si hs
      exact fin_ret (by kernel_rfl) (by kernel_rfl) (by kernel_rfl)
theorem w_fact_Keys (base : (List Fact)) (r : (List (List UInt8))) (hs : s_fact_Keys base = some r) : FnA Tryz.prog 7 [.vs 5 (List.map enc_Fact base)] [] (.vs 1 (List.map EV.encS r)) [] := by
 refine fnA_of_wp (N := 25) Tryz.func7 rfl rfl rfl fun cK0 => ?_
 unfold s_fact_Keys at hs
 refine v_same (ρ' := [(0, .vs 5 (List.map enc_Fact base))]) rfl rfl ?_
 refine v_seq (vr_text (o_runs 1 [(2, .nils)] (by kernel_rfl) ?_))
 refine ov_nil (nrm_thenV (v_seq (v_seq (vr_text (o_runs 1 [(6, .vs 5 (List.map enc_Fact base))] (by kernel_rfl) ?_)))))
 obtain ⟨y1, c1, hs⟩ := bind_some hs
 refine o_pure (v := .bool y1) (by kernel_rfl) (by kernel_rfl) (loc_gcall0 (callV_func hbv6 (by kernel_rfl)) (w_fact_Right base _ c1) (by kernel_rfl)) ?_
 refine o_runs 1 [(8, .bool (!y1))] (by kernel_rfl) ?_
 refine ov_nil (nrm_thenV ?_)
 refine v_cond (!y1) (by kernel_rfl) (fun h1 => ?_) (fun h1 => ?_)
 ·replace hs := bif_t h1 hs
  refine v_seq (vr_text (o_runs 1 [(2, .nils)] (by kernel_rfl) ?_))
  refine ov_nil (nrm_thenV (v_to ((2, .vs 1 (List.map EV.encS [])) :: _) _ (cut_view (R := []) (ks := []) (by kernel_rfl) (by kernel_rfl) (.nils 1)) ?_))
  refine v_ret (ret_thenV ?_)
  obtain rfl := si hs
  exact fin_ret (by kernel_rfl) (by kernel_rfl) (by kernel_rfl)
 ·replace hs := bif_f h1 hs
  refine v_skip (nrm_thenV (v_seq (vr_text (o_runs 1 [(3, .nils)] (by kernel_rfl) ?_))))
  refine ov_nil (nrm_thenV (v_seq (v_seq (vr_text (o_runs 1 [(9, .vs 5 (List.map enc_Fact base))] (by kernel_rfl) ?_)))))
  refine o_pure (v := .int .i64 (List.length base : Int)) (by kernel_rfl) (by kernel_rfl) (loc_lenVs (sz := 5) (els := (List.map enc_Fact base)) (by kernel_rfl) (by kernel_rfl) (List.length_map ..)) ?_
  refine o_runs 1 [(11, .int .i64 0)] (by kernel_rfl) ?_
  refine ov_nil (nrm_thenV ?_)
  obtain ⟨z1, hs, hk1⟩ := bind_some hs
  refine v_join (S := (List (List UInt8))) (fun u => u = z1) (fun u => [(3, .sl 1 2000015 ((u).length) 0 ((u).length))]) (fun u => [(2000015, .row 9 1 0 (List.map EV.encS u))]) ?_ (fun v1 hz => ?_)
  ·refine v_block ?_
   refine v_fuel (S := Int × (List (List UInt8))) (fun u => [(3, .sl 1 2000015 ((u.2).length) 0 ((u.2).length)), (9, .vs 5 (List.map enc_Fact base)), (10, .int .i64 (List.length base : Int)), (11, .int .i64 u.1)]) (fun u => [(2000015, .row 9 1 0 (List.map EV.encS u.2))]) (s_fact_Keys_L1 base) (fun _ => rfl) KK (0, []) hs (Cut.trans (cut_nilRow 3 2000015 9 1 rfl (by kernel_rfl) (by kernel_rfl)) (cut_of [3, 9, 10, 11] [2000015] (by kernel_rfl) (by kernel_rfl) (by kernel_rfl))) (fun K1 q1 hs => ?_)
   rw [s_fact_Keys_L1] at hs
   show WpV cK0 Tryz.prog none 25 _ _ [(3, .sl 1 2000015 ((q1.2).length) 0 ((q1.2).length)), (9, .vs 5 (List.map enc_Fact base)), (10, .int .i64 (List.length base : Int)), (11, .int .i64 q1.1)] [(2000015, .row 9 1 0 (List.map EV.encS q1.2))] []
   refine v_seq (vr_text (o_runs 1 [(12, .bool (decide (q1.1 < (List.length base : Int))))] (by kernel_rfl) ?_))
   refine ov_nil (nrm_thenV (v_seq ?_))
   refine v_cond (decide (q1.1 < (List.length base : Int))) (by kernel_rfl) (fun h2 => ?_) (fun h2 => ?_)
   ·replace hs := bif_t h2 hs
    refine v_skip (nrm_thenV (v_seq (v_block (v_seq (vr_text ?_)))))
    obtain ⟨x1, g1, hs⟩ := bind_some hs; obtain ⟨g1a, g1b, g1c⟩ := idx_some g1
    refine o_pure (v := .vp (enc_Fact x1) 0) (by kernel_rfl) (by kernel_rfl) (loc_indexVs (e := 48) (sz := 5) (k := .i64) (els := (List.map enc_Fact base)) (cs := (enc_Fact x1)) (by kernel_rfl) (by kernel_rfl) (by kernel_rfl) g1a (by rw [g1c]; exact map_get _ (by omega))) ?_
    refine o_runh 3 [(5, .ptr 5 0 0), (14, .agg (enc_Fact x1))] [(5, .box 48 [.str x1.Key, .int .i64 x1.Value, .int .i64 x1.From, .int .i64 x1.Until, .int .i64 x1.Known]), (2000015, .row 9 1 0 (List.map EV.encS q1.2))] (by kernel_rfl) ?_
    refine ov_nil (nrm_thenV (vr_text (o_runh 4 [(18, .sl 1 18 1 0 1), (17, .str x1.Key), (16, .ptr 5 0 0), (15, .sl 1 2000015 ((q1.2).length) 0 ((q1.2).length))] [(18, .row 9 1 0 (List.map EV.encS [x1.Key])), (5, .box 48 [.str x1.Key, .int .i64 x1.Value, .int .i64 x1.From, .int .i64 x1.Until, .int .i64 x1.Known]), (2000015, .row 9 1 0 (List.map EV.encS q1.2))] (by kernel_rfl) ?_)))
    obtain ⟨_, g2, hs⟩ := bind_some hs; replace g2 := grd_some g2
    refine o_loc (F := [(2000015, .row 9 1 0 (List.map EV.encS q1.2)), (18, .row 9 1 0 (List.map EV.encS [x1.Key]))]) (F' := [(2000015, .row 9 1 0 (List.map EV.encS (q1.2 ++ [x1.Key]))), (18, .row 9 1 0 (List.map EV.encS [x1.Key]))]) (v := .sl 1 2000015 (((q1.2 ++ [x1.Key])).length) 0 (((q1.2 ++ [x1.Key])).length)) [2000015, 18] (by kernel_rfl) (by kernel_rfl) rfl (by kernel_rfl) (loc_appendT (e := 9) (sz := 1) (bytes := 16) (L := (q1.2).length) (els := (List.map EV.encS q1.2)) (ys := (List.map EV.encS [x1.Key])) (by kernel_rfl) (by kernel_rfl) (by first | exact List.length_map .. | rfl) (.sl (t := 9) (fz := 0) (ys := (List.map EV.encS [x1.Key])) (by kernel_rfl) (by kernel_rfl)) (map_ones EV.encS (fun _ => rfl) _) (map_lens EV.encS (fun _ => rfl) _) (by kernel_rfl) (by first | exact (List.map_append ..).symm | rfl | simp only [List.map_nil, List.nil_append]) (List.length_map ..) g2 (by omega)) (by kernel_rfl) ?_
    refine o_runs 1 [(3, .sl 1 2000015 (((q1.2 ++ [x1.Key])).length) 0 (((q1.2 ++ [x1.Key])).length))] (by kernel_rfl) ?_
    refine ov_nil (nrm_blkV (nrm_thenV (vr_text (o_runs 2 [(11, .int .i64 (w64 (q1.1 + 1))), (20, .int .i64 (w64 (q1.1 + 1)))] (by kernel_rfl) ?_))))
    refine ov_nil (nrm_fuel ((w64 (q1.1 + 1)), (q1.2 ++ [x1.Key])) hs ?_)
    exact cut_of [3, 9, 10, 11] [2000015] (by kernel_rfl) (by kernel_rfl) (by kernel_rfl)
   ·replace hs := bif_f h2 hs
    refine v_exit (exit_thenV (exit_fuel ?_))
    refine exit_blkV ?_
    obtain rfl := si hs
    refine nrm_join q1.2 rfl ?_
    exact cut_of [3] [2000015] (by kernel_rfl) (by kernel_rfl) (by kernel_rfl)
  ·subst hz; clear hs; have hs := hk1; clear hk1
   refine nrm_thenV (v_seq (vr_text (o_runs 1 [(21, .sl 1 2000015 ((v1).length) 0 ((v1).length))] (by kernel_rfl) ?_)))
   obtain ⟨_, g3, hs⟩ := bind_some hs; replace g3 := grd_some g3
   refine o_loc (F := [(2000015, .row 9 1 0 (List.map EV.encS v1))]) (F' := [(2000015, .row 9 1 0 (List.map EV.encS (sortS v1)))]) (v := .tup []) [2000015] (by kernel_rfl) (by kernel_rfl) rfl (by kernel_rfl) (loc_g (R := []) [.sl 1 2000015 ((v1).length) 0 ((v1).length)] [(1000000, 2000015)] (callV_func hbv19 (by kernel_rfl)) (w_sort_str v1 g3) (.cons (.same _) .nil) (by kernel_rfl) (by kernel_rfl) (by kernel_rfl) (by kernel_rfl) (by kernel_rfl) (by kernel_rfl) (by kernel_rfl) (by kernel_rfl)) (by kernel_rfl) ?_
   refine ov_nil (nrm_thenV (v_seq (vr_text (o_runs 1 [(23, .sl 1 2000015 ((v1).length) 0 ((v1).length))] (by kernel_rfl) ?_))))
   refine o_loc (F := [(2000015, .row 9 1 0 (List.map EV.encS (sortS v1)))]) (F' := [(2000015, .row 9 1 ((sortS v1).length) (List.map EV.encS ((Lib.compact (sortS v1)) ++ List.replicate ((sortS v1).length - (Lib.compact (sortS v1)).length) ([] : List UInt8))))]) (v := .vs 1 (List.map EV.encS (Lib.compact (sortS v1)))) [2000015] (by kernel_rfl) (by kernel_rfl) rfl (by kernel_rfl) (loc_g (R := []) [.sl 1 2000015 ((v1).length) 0 ((v1).length)] [(1000000, 2000015)] (callV_func hbv20 (by kernel_rfl)) (w_compact_str (sortS v1) (L := ((v1).length)) (by first | rfl | exact (sortI_length _).symm | exact (sortS_length _).symm)) (.cons (.same _) .nil) (by kernel_rfl) (by kernel_rfl) (by kernel_rfl) (by kernel_rfl) (by kernel_rfl) (by kernel_rfl) (by kernel_rfl) (by kernel_rfl)) (by kernel_rfl) ?_
   refine o_runs 1 [(2, .vs 1 (List.map EV.encS (Lib.compact (sortS v1))))] (by kernel_rfl) ?_
   refine ov_nil (nrm_thenV (v_ret ?_))
   obtain rfl := si hs
   exact fin_ret (by kernel_rfl) (by kernel_rfl) (by kernel_rfl)
theorem w_greenbeltlaw44_small  (r : Bool) (hs : s_greenbeltlaw44_small  = some r) : FnA Tryz.prog 4 [] [] (.bool r) [] := by
 refine fnA_of_wp (N := 162) Tryz.func4 rfl rfl rfl fun cK0 => ?_
 unfold s_greenbeltlaw44_small at hs
 refine v_same (ρ' := []) rfl rfl ?_
 refine v_seq (vr_text (o_runs 1 [(0, .bool false)] (by kernel_rfl) ?_))
 refine ov_nil (nrm_thenV (v_seq (vr_text ?_)))
 obtain ⟨y1, c1, hs⟩ := bind_some hs
 refine o_pure (v := .vs 5 (List.map enc_Fact y1)) (by kernel_rfl) (by kernel_rfl) (loc_gcall0 (callV_func hbv15 (by kernel_rfl)) (w_greenbeltlaw44_sample  _ c1) (by kernel_rfl)) ?_
 refine o_runs 1 [(1, .vs 5 (List.map enc_Fact y1))] (by kernel_rfl) ?_
 refine ov_nil (nrm_thenV (v_seq (vr_text (o_runs 1 [(19, .vs 5 (List.map enc_Fact y1))] (by kernel_rfl) ?_))))
 obtain ⟨y2, c2, hs⟩ := bind_some hs
 refine o_pure (v := .tup [.int .i64 y2.1, .bool y2.2]) (by kernel_rfl) (by kernel_rfl) (loc_gcall0 (callV_func hbv8 (by kernel_rfl)) (w_fact_At y1 ([97, 114, 101, 97] : List UInt8) 12 4 _ c2) (by kernel_rfl)) ?_
 refine o_runs 5 [(3, .bool y2.2), (2, .int .i64 y2.1), (22, .bool y2.2), (21, .int .i64 y2.1), (18, .tup [.int .i64 y2.1, .bool y2.2])] (by kernel_rfl) ?_
 refine ov_nil (nrm_thenV (v_seq (vr_text (o_runs 1 [(24, .vs 5 (List.map enc_Fact y1))] (by kernel_rfl) ?_))))
 obtain ⟨y3, c3, hs⟩ := bind_some hs
 refine o_pure (v := .tup [.int .i64 y3.1, .bool y3.2]) (by kernel_rfl) (by kernel_rfl) (loc_gcall0 (callV_func hbv8 (by kernel_rfl)) (w_fact_At y1 ([97, 114, 101, 97] : List UInt8) 12 5 _ c3) (by kernel_rfl)) ?_
 refine o_runs 5 [(5, .bool y3.2), (4, .int .i64 y3.1), (27, .bool y3.2), (26, .int .i64 y3.1), (23, .tup [.int .i64 y3.1, .bool y3.2])] (by kernel_rfl) ?_
 refine ov_nil (nrm_thenV (v_seq (vr_text (o_runs 1 [(29, .vs 5 (List.map enc_Fact y1))] (by kernel_rfl) ?_))))
 obtain ⟨y4, c4, hs⟩ := bind_some hs
 refine o_pure (v := .tup [.int .i64 y4.1, .bool y4.2]) (by kernel_rfl) (by kernel_rfl) (loc_gcall0 (callV_func hbv8 (by kernel_rfl)) (w_fact_At y1 ([97, 114, 101, 97] : List UInt8) 12 8 _ c4) (by kernel_rfl)) ?_
 refine o_runs 5 [(7, .bool y4.2), (6, .int .i64 y4.1), (32, .bool y4.2), (31, .int .i64 y4.1), (28, .tup [.int .i64 y4.1, .bool y4.2])] (by kernel_rfl) ?_
 refine ov_nil (nrm_thenV (v_seq (vr_text (o_runs 1 [(33, .vs 5 (List.map enc_Fact y1))] (by kernel_rfl) ?_))))
 obtain ⟨y5, c5, hs⟩ := bind_some hs
 refine o_pure (v := .vs 5 (List.map enc_Fact y5)) (by kernel_rfl) (by kernel_rfl) (loc_gcall0 (callV_func hbv10 (by kernel_rfl)) (w_fact_History y1 ([97, 114, 101, 97] : List UInt8) 12 _ c5) (by kernel_rfl)) ?_
 refine o_runs 1 [(8, .vs 5 (List.map enc_Fact y5))] (by kernel_rfl) ?_
 refine ov_nil (nrm_thenV (v_seq (vr_text (o_runs 1 [(35, .vs 5 (List.map enc_Fact y1))] (by kernel_rfl) ?_))))
 obtain ⟨y6, c6, hs⟩ := bind_some hs
 refine o_pure (v := .vs 2 (List.map enc_Stay y6)) (by kernel_rfl) (by kernel_rfl) (loc_gcall0 (callV_func hbv16 (by kernel_rfl)) (w_fact_Corrections y1 ([97, 114, 101, 97] : List UInt8) 8 12 _ c6) (by kernel_rfl)) ?_
 refine o_runs 1 [(9, .vs 2 (List.map enc_Stay y6))] (by kernel_rfl) ?_
 refine ov_nil (nrm_thenV (v_seq (vr_text (o_runs 1 [(37, .vs 5 (List.map enc_Fact y1))] (by kernel_rfl) ?_))))
 obtain ⟨y7, c7, hs⟩ := bind_some hs
 refine o_pure (v := .vs 2 (List.map enc_Stay y7)) (by kernel_rfl) (by kernel_rfl) (loc_gcall0 (callV_func hbv16 (by kernel_rfl)) (w_fact_Corrections y1 ([97, 114, 101, 97] : List UInt8) 4 8 _ c7) (by kernel_rfl)) ?_
 refine o_runs 1 [(10, .vs 2 (List.map enc_Stay y7))] (by kernel_rfl) ?_
 refine ov_nil (nrm_thenV (v_seq (vr_text (o_runs 2 [(41, .agg [.str ([97] : List UInt8), .int .i64 0, .int .i64 0, .int .i64 0, .int .i64 11]), (40, .vs 5 (List.map enc_Fact y1))] (by kernel_rfl) ?_))))
 obtain ⟨y8, c8, hs⟩ := bind_some hs
 refine o_pure (v := .tup [.vs 5 (List.map enc_Fact y8.1), .int .i64 y8.2]) (by kernel_rfl) (by kernel_rfl) (loc_gcall0 (callV_func hbv17 (by kernel_rfl)) (w_fact_Put y1 (Fact.mk ([97] : List UInt8) 0 0 0 11) _ c8) (by kernel_rfl)) ?_
 refine o_runs 5 [(12, .int .i64 y8.2), (11, .vs 5 (List.map enc_Fact y8.1)), (44, .int .i64 y8.2), (43, .vs 5 (List.map enc_Fact y8.1)), (39, .tup [.vs 5 (List.map enc_Fact y8.1), .int .i64 y8.2])] (by kernel_rfl) ?_
 refine ov_nil (nrm_thenV (v_seq (vr_text (o_runs 2 [(47, .agg [.str ([97] : List UInt8), .int .i64 0, .int .i64 0, .int .i64 0, .int .i64 12]), (46, .vs 5 (List.map enc_Fact y1))] (by kernel_rfl) ?_))))
 obtain ⟨y9, c9, hs⟩ := bind_some hs
 refine o_pure (v := .tup [.vs 5 (List.map enc_Fact y9.1), .int .i64 y9.2]) (by kernel_rfl) (by kernel_rfl) (loc_gcall0 (callV_func hbv17 (by kernel_rfl)) (w_fact_Put y1 (Fact.mk ([97] : List UInt8) 0 0 0 12) _ c9) (by kernel_rfl)) ?_
 refine o_runs 5 [(14, .int .i64 y9.2), (13, .vs 5 (List.map enc_Fact y9.1)), (50, .int .i64 y9.2), (49, .vs 5 (List.map enc_Fact y9.1)), (45, .tup [.vs 5 (List.map enc_Fact y9.1), .int .i64 y9.2])] (by kernel_rfl) ?_
 refine ov_nil (nrm_thenV (v_seq (vr_text (o_runs 1 [(51, .vs 5 (List.map enc_Fact y1))] (by kernel_rfl) ?_))))
 obtain ⟨y10, c10, hs⟩ := bind_some hs
 refine o_pure (v := .vs 1 (List.map EV.encS y10)) (by kernel_rfl) (by kernel_rfl) (loc_gcall0 (callV_func hbv7 (by kernel_rfl)) (w_fact_Keys y1 _ c10) (by kernel_rfl)) ?_
 refine o_runs 1 [(15, .vs 1 (List.map EV.encS y10))] (by kernel_rfl) ?_
 refine ov_nil (nrm_thenV (v_seq (v_seq ?_)))
 obtain ⟨z1, hs, hk1⟩ := bind_some hs
 refine v_join (S := Bool) (fun u => u = z1) (fun u => [(1, .vs 5 (List.map enc_Fact y1)), (3, .bool y2.2), (4, .int .i64 y3.1), (5, .bool y3.2), (6, .int .i64 y4.1), (7, .bool y4.2), (8, .vs 5 (List.map enc_Fact y5)), (9, .vs 2 (List.map enc_Stay y6)), (10, .vs 2 (List.map enc_Stay y7)), (12, .int .i64 y8.2), (14, .int .i64 y9.2), (15, .vs 1 (List.map EV.encS y10)), (70, .bool u)]) (fun u => []) ?_ (fun v1 hz => ?_)
 ·refine vr_text (o_runs 1 [(53, .vs 5 (List.map enc_Fact y5))] (by kernel_rfl) ?_)
  refine o_pure (v := .int .i64 (List.length y5 : Int)) (by kernel_rfl) (by kernel_rfl) (loc_lenVs (sz := 5) (els := (List.map enc_Fact y5)) (by kernel_rfl) (by kernel_rfl) (List.length_map ..)) ?_
  refine o_runs 2 [(56, .bool (!(decide ((List.length y5 : Int) = 3)))), (55, .bool (!(decide ((List.length y5 : Int) = 3))))] (by kernel_rfl) ?_
  cases h1 : ((!(decide ((List.length y5 : Int) = 3))))
  ·replace hs := bif_f h1 hs
   refine o_runs 1 [(57, .vs 2 (List.map enc_Stay y6))] (by kernel_rfl) ?_
   refine o_pure (v := .int .i64 (List.length y6 : Int)) (by kernel_rfl) (by kernel_rfl) (loc_lenVs (sz := 2) (els := (List.map enc_Stay y6)) (by kernel_rfl) (by kernel_rfl) (List.length_map ..)) ?_
   refine o_runs 3 [(61, .bool (!(decide ((List.length y6 : Int) = 1)))), (60, .bool (!(decide ((List.length y6 : Int) = 1)))), (59, .bool (!(decide ((List.length y6 : Int) = 1))))] (by kernel_rfl) ?_
   cases h2 : ((!(decide ((List.length y6 : Int) = 1))))
   ·replace hs := bif_f h2 hs
    refine o_runs 1 [(62, .vs 2 (List.map enc_Stay y7))] (by kernel_rfl) ?_
    refine o_pure (v := .int .i64 (List.length y7 : Int)) (by kernel_rfl) (by kernel_rfl) (loc_lenVs (sz := 2) (els := (List.map enc_Stay y7)) (by kernel_rfl) (by kernel_rfl) (List.length_map ..)) ?_
    refine o_runs 3 [(66, .bool (!(decide ((List.length y7 : Int) = 1)))), (65, .bool (!(decide ((List.length y7 : Int) = 1)))), (64, .bool (!(decide ((List.length y7 : Int) = 1))))] (by kernel_rfl) ?_
    cases h3 : ((!(decide ((List.length y7 : Int) = 1))))
    ·replace hs := bif_f h3 hs
     refine o_runs 1 [(67, .vs 1 (List.map EV.encS y10))] (by kernel_rfl) ?_
     refine o_pure (v := .int .i64 (List.length y10 : Int)) (by kernel_rfl) (by kernel_rfl) (loc_lenVs (sz := 1) (els := (List.map EV.encS y10)) (by kernel_rfl) (by kernel_rfl) (List.length_map ..)) ?_
     refine o_runs 2 [(70, .bool (!(decide ((List.length y10 : Int) = 1)))), (69, .bool (!(decide ((List.length y10 : Int) = 1))))] (by kernel_rfl) ?_
     refine ov_nil ?_
     obtain rfl := si hs
     refine nrm_join (!(decide ((List.length y10 : Int) = 1))) rfl ?_
     exact cut_of [1, 3, 4, 5, 6, 7, 8, 9, 10, 12, 14, 15, 70] [] (by kernel_rfl) (by kernel_rfl) (by kernel_rfl)
    ·replace hs := bif_t h3 hs
     refine o_runs 4 [(70, .bool true), (69, .no), (68, .no), (67, .no)] (by kernel_rfl) ?_
     refine ov_nil ?_
     obtain rfl := si hs
     refine nrm_join true rfl ?_
     exact cut_of [1, 3, 4, 5, 6, 7, 8, 9, 10, 12, 14, 15, 70] [] (by kernel_rfl) (by kernel_rfl) (by kernel_rfl)
   ·replace hs := bif_t h2 hs
    refine o_runs 9 [(70, .bool true), (69, .no), (68, .no), (67, .no), (66, .bool true), (65, .bool true), (64, .no), (63, .no), (62, .no)] (by kernel_rfl) ?_
    refine ov_nil ?_
    obtain rfl := si hs
    refine nrm_join true rfl ?_
    exact cut_of [1, 3, 4, 5, 6, 7, 8, 9, 10, 12, 14, 15, 70] [] (by kernel_rfl) (by kernel_rfl) (by kernel_rfl)
  ·replace hs := bif_t h1 hs
   refine o_runs 14 [(70, .bool true), (69, .no), (68, .no), (67, .no), (66, .bool true), (65, .bool true), (64, .no), (63, .no), (62, .no), (61, .bool true), (60, .bool true), (59, .no), (58, .no), (57, .no)] (by kernel_rfl) ?_
   refine ov_nil ?_
   obtain rfl := si hs
   refine nrm_join true rfl ?_
   exact cut_of [1, 3, 4, 5, 6, 7, 8, 9, 10, 12, 14, 15, 70] [] (by kernel_rfl) (by kernel_rfl) (by kernel_rfl)
 ·subst hz; clear hs; have hs := hk1; clear hk1
  refine nrm_thenV ?_
  refine v_cond v1 (by kernel_rfl) (fun h4 => ?_) (fun h4 => ?_)
  ·replace hs := bif_t h4 hs
   refine v_seq (vr_text (o_runs 1 [(0, .bool false)] (by kernel_rfl) ?_))
   refine ov_nil (nrm_thenV (v_ret (ret_thenV ?_)))
   obtain rfl := si hs
   exact fin_ret (by kernel_rfl) (by kernel_rfl) (by kernel_rfl)
  ·replace hs := bif_f h4 hs
   refine v_skip (nrm_thenV (v_seq ?_))
   obtain ⟨z2, hs, hk2⟩ := bind_some hs
   refine v_join (S := Bool) (fun u => u = z2) (fun u => [(8, .vs 5 (List.map enc_Fact y5)), (9, .vs 2 (List.map enc_Stay y6)), (10, .vs 2 (List.map enc_Stay y7)), (16, .bool u)]) (fun u => []) ?_ (fun v2 hz => ?_)
   ·refine vr_text (o_runs 3 [(73, .bool (!y2.2)), (72, .bool (!y2.2)), (71, .bool y2.2)] (by kernel_rfl) ?_)
    cases h5 : ((!y2.2))
    ·replace hs := bif_f h5 hs
     refine o_runs 32 [(16, .bool false), (104, .bool false), (103, .no), (102, .no), (101, .no), (100, .no), (99, .bool false), (98, .bool false), (97, .no), (96, .no), (95, .bool false), (94, .bool false), (93, .no), (92, .no), (91, .bool false), (90, .bool false), (89, .no), (88, .no), (87, .bool false), (86, .bool false), (85, .no), (84, .no), (83, .bool false), (82, .bool false), (81, .no), (80, .bool false), (79, .bool false), (78, .no), (77, .no), (76, .bool false), (75, .bool false), (74, .no)] (by kernel_rfl) ?_
     refine ov_nil ?_
     obtain rfl := si hs
     refine nrm_join false rfl ?_
     exact cut_of [8, 9, 10, 16] [] (by kernel_rfl) (by kernel_rfl) (by kernel_rfl)
    ·replace hs := bif_t h5 hs
     refine o_runs 3 [(76, .bool y3.2), (75, .bool y3.2), (74, .bool y3.2)] (by kernel_rfl) ?_
     cases h6 : (y3.2)
     ·replace hs := bif_f h6 hs
      refine o_runs 29 [(16, .bool false), (104, .bool false), (103, .no), (102, .no), (101, .no), (100, .no), (99, .bool false), (98, .bool false), (97, .no), (96, .no), (95, .bool false), (94, .bool false), (93, .no), (92, .no), (91, .bool false), (90, .bool false), (89, .no), (88, .no), (87, .bool false), (86, .bool false), (85, .no), (84, .no), (83, .bool false), (82, .bool false), (81, .no), (80, .bool false), (79, .bool false), (78, .no), (77, .no)] (by kernel_rfl) ?_
      refine ov_nil ?_
      obtain rfl := si hs
      refine nrm_join false rfl ?_
      exact cut_of [8, 9, 10, 16] [] (by kernel_rfl) (by kernel_rfl) (by kernel_rfl)
     ·replace hs := bif_t h6 hs
      refine o_runs 4 [(80, .bool (decide (y3.1 = 100))), (79, .bool (decide (y3.1 = 100))), (78, .bool (decide (y3.1 = 100))), (77, .int .i64 y3.1)] (by kernel_rfl) ?_
      cases h7 : ((decide (y3.1 = 100)))
      ·replace hs := bif_f h7 hs
       refine o_runs 25 [(16, .bool false), (104, .bool false), (103, .no), (102, .no), (101, .no), (100, .no), (99, .bool false), (98, .bool false), (97, .no), (96, .no), (95, .bool false), (94, .bool false), (93, .no), (92, .no), (91, .bool false), (90, .bool false), (89, .no), (88, .no), (87, .bool false), (86, .bool false), (85, .no), (84, .no), (83, .bool false), (82, .bool false), (81, .no)] (by kernel_rfl) ?_
       refine ov_nil ?_
       obtain rfl := si hs
       refine nrm_join false rfl ?_
       exact cut_of [8, 9, 10, 16] [] (by kernel_rfl) (by kernel_rfl) (by kernel_rfl)
      ·replace hs := bif_t h7 hs
       refine o_runs 3 [(83, .bool y4.2), (82, .bool y4.2), (81, .bool y4.2)] (by kernel_rfl) ?_
       cases h8 : (y4.2)
       ·replace hs := bif_f h8 hs
        refine o_runs 22 [(16, .bool false), (104, .bool false), (103, .no), (102, .no), (101, .no), (100, .no), (99, .bool false), (98, .bool false), (97, .no), (96, .no), (95, .bool false), (94, .bool false), (93, .no), (92, .no), (91, .bool false), (90, .bool false), (89, .no), (88, .no), (87, .bool false), (86, .bool false), (85, .no), (84, .no)] (by kernel_rfl) ?_
        refine ov_nil ?_
        obtain rfl := si hs
        refine nrm_join false rfl ?_
        exact cut_of [8, 9, 10, 16] [] (by kernel_rfl) (by kernel_rfl) (by kernel_rfl)
       ·replace hs := bif_t h8 hs
        refine o_runs 4 [(87, .bool (decide (y4.1 = 90))), (86, .bool (decide (y4.1 = 90))), (85, .bool (decide (y4.1 = 90))), (84, .int .i64 y4.1)] (by kernel_rfl) ?_
        cases h9 : ((decide (y4.1 = 90)))
        ·replace hs := bif_f h9 hs
         refine o_runs 18 [(16, .bool false), (104, .bool false), (103, .no), (102, .no), (101, .no), (100, .no), (99, .bool false), (98, .bool false), (97, .no), (96, .no), (95, .bool false), (94, .bool false), (93, .no), (92, .no), (91, .bool false), (90, .bool false), (89, .no), (88, .no)] (by kernel_rfl) ?_
         refine ov_nil ?_
         obtain rfl := si hs
         refine nrm_join false rfl ?_
         exact cut_of [8, 9, 10, 16] [] (by kernel_rfl) (by kernel_rfl) (by kernel_rfl)
        ·replace hs := bif_t h9 hs
         refine o_runs 4 [(91, .bool (decide (y8.2 = 20))), (90, .bool (decide (y8.2 = 20))), (89, .bool (decide (y8.2 = 20))), (88, .int .i64 y8.2)] (by kernel_rfl) ?_
         cases h10 : ((decide (y8.2 = 20)))
         ·replace hs := bif_f h10 hs
          refine o_runs 14 [(16, .bool false), (104, .bool false), (103, .no), (102, .no), (101, .no), (100, .no), (99, .bool false), (98, .bool false), (97, .no), (96, .no), (95, .bool false), (94, .bool false), (93, .no), (92, .no)] (by kernel_rfl) ?_
          refine ov_nil ?_
          obtain rfl := si hs
          refine nrm_join false rfl ?_
          exact cut_of [8, 9, 10, 16] [] (by kernel_rfl) (by kernel_rfl) (by kernel_rfl)
         ·replace hs := bif_t h10 hs
          refine o_runs 4 [(95, .bool (decide (y9.2 = 0))), (94, .bool (decide (y9.2 = 0))), (93, .bool (decide (y9.2 = 0))), (92, .int .i64 y9.2)] (by kernel_rfl) ?_
          cases h11 : ((decide (y9.2 = 0)))
          ·replace hs := bif_f h11 hs
           refine o_runs 10 [(16, .bool false), (104, .bool false), (103, .no), (102, .no), (101, .no), (100, .no), (99, .bool false), (98, .bool false), (97, .no), (96, .no)] (by kernel_rfl) ?_
           refine ov_nil ?_
           obtain rfl := si hs
           refine nrm_join false rfl ?_
           exact cut_of [8, 9, 10, 16] [] (by kernel_rfl) (by kernel_rfl) (by kernel_rfl)
          ·replace hs := bif_t h11 hs
           refine o_runs 1 [(96, .vs 5 (List.map enc_Fact y1))] (by kernel_rfl) ?_
           obtain ⟨y11, c11, hs⟩ := bind_some hs
           refine o_pure (v := .bool y11) (by kernel_rfl) (by kernel_rfl) (loc_gcall0 (callV_func hbv6 (by kernel_rfl)) (w_fact_Right y1 _ c11) (by kernel_rfl)) ?_
           refine o_runs 2 [(99, .bool y11), (98, .bool y11)] (by kernel_rfl) ?_
           cases h12 : (y11)
           ·replace hs := bif_f h12 hs
            refine o_runs 6 [(16, .bool false), (104, .bool false), (103, .no), (102, .no), (101, .no), (100, .no)] (by kernel_rfl) ?_
            refine ov_nil ?_
            obtain rfl := si hs
            refine nrm_join false rfl ?_
            exact cut_of [8, 9, 10, 16] [] (by kernel_rfl) (by kernel_rfl) (by kernel_rfl)
           ·replace hs := bif_t h12 hs
            refine o_runs 1 [(100, .vs 1 (List.map EV.encS y10))] (by kernel_rfl) ?_
            obtain ⟨x1, g1, hs⟩ := bind_some hs; obtain ⟨g1a, g1b, g1c⟩ := idx_some g1
            refine o_pure (v := .vp [.str x1] 0) (by kernel_rfl) (by kernel_rfl) (loc_indexVs (e := 9) (sz := 1) (k := .i64) (els := (List.map EV.encS y10)) (cs := (EV.encS x1)) (by kernel_rfl) (by kernel_rfl) (by kernel_rfl) g1a (by rw [g1c]; exact map_get _ (by omega))) ?_
            refine o_runs 4 [(16, .bool (decide (x1 = ([97, 114, 101, 97] : List UInt8)))), (104, .bool (decide (x1 = ([97, 114, 101, 97] : List UInt8)))), (103, .bool (decide (x1 = ([97, 114, 101, 97] : List UInt8)))), (102, .str x1)] (by kernel_rfl) ?_
            refine ov_nil ?_
            obtain rfl := si hs
            refine nrm_join (decide (x1 = ([97, 114, 101, 97] : List UInt8))) rfl ?_
            exact cut_of [8, 9, 10, 16] [] (by kernel_rfl) (by kernel_rfl) (by kernel_rfl)
   ·subst hz; clear hs; have hs := hk2; clear hk2
    refine nrm_thenV (v_seq ?_)
    obtain ⟨z3, hs, hk3⟩ := bind_some hs
    refine v_join (S := Bool) (fun u => u = z3) (fun u => [(0, .bool u)]) (fun u => []) ?_ (fun v3 hz => ?_)
    ·refine vr_text (o_runs 2 [(106, .bool v2), (105, .bool v2)] (by kernel_rfl) ?_)
     cases h13 : (v2)
     ·replace hs := bif_f h13 hs
      refine o_runs 56 [(0, .bool false), (161, .bool false), (160, .no), (159, .no), (158, .no), (157, .no), (156, .no), (155, .bool false), (154, .bool false), (153, .no), (152, .no), (151, .no), (150, .no), (149, .no), (148, .bool false), (147, .bool false), (146, .no), (145, .no), (144, .no), (143, .no), (142, .no), (141, .bool false), (140, .bool false), (139, .no), (138, .no), (137, .no), (136, .no), (135, .no), (134, .bool false), (133, .bool false), (132, .no), (131, .no), (130, .no), (129, .no), (128, .no), (127, .bool false), (126, .bool false), (125, .no), (124, .no), (123, .no), (122, .no), (121, .no), (120, .bool false), (119, .bool false), (118, .no), (117, .no), (116, .no), (115, .no), (114, .no), (113, .bool false), (112, .bool false), (111, .no), (110, .no), (109, .no), (108, .no), (107, .no)] (by kernel_rfl) ?_
      refine ov_nil ?_
      obtain rfl := si hs
      refine nrm_join false rfl ?_
      exact cut_of [0] [] (by kernel_rfl) (by kernel_rfl) (by kernel_rfl)
     ·replace hs := bif_t h13 hs
      refine o_runs 1 [(107, .vs 2 (List.map enc_Stay y6))] (by kernel_rfl) ?_
      obtain ⟨x2, g2, hs⟩ := bind_some hs; obtain ⟨g2a, g2b, g2c⟩ := idx_some g2
      refine o_pure (v := .vp (enc_Stay x2) 0) (by kernel_rfl) (by kernel_rfl) (loc_indexVs (e := 61) (sz := 2) (k := .i64) (els := (List.map enc_Stay y6)) (cs := (enc_Stay x2)) (by kernel_rfl) (by kernel_rfl) (by kernel_rfl) g2a (by rw [g2c]; exact map_get _ (by omega))) ?_
      refine o_runs 5 [(113, .bool (decide (x2.From = 15) && (decide (x2.To = 1073741824)))), (112, .bool (decide (x2.From = 15) && (decide (x2.To = 1073741824)))), (111, .bool (decide (x2.From = 15) && (decide (x2.To = 1073741824)))), (110, .agg [.int .i64 15, .int .i64 1073741824]), (109, .agg (enc_Stay x2))] (by kernel_rfl) ?_
      cases h14 : ((decide (x2.From = 15) && (decide (x2.To = 1073741824))))
      ·replace hs := bif_f h14 hs
       refine o_runs 49 [(0, .bool false), (161, .bool false), (160, .no), (159, .no), (158, .no), (157, .no), (156, .no), (155, .bool false), (154, .bool false), (153, .no), (152, .no), (151, .no), (150, .no), (149, .no), (148, .bool false), (147, .bool false), (146, .no), (145, .no), (144, .no), (143, .no), (142, .no), (141, .bool false), (140, .bool false), (139, .no), (138, .no), (137, .no), (136, .no), (135, .no), (134, .bool false), (133, .bool false), (132, .no), (131, .no), (130, .no), (129, .no), (128, .no), (127, .bool false), (126, .bool false), (125, .no), (124, .no), (123, .no), (122, .no), (121, .no), (120, .bool false), (119, .bool false), (118, .no), (117, .no), (116, .no), (115, .no), (114, .no)] (by kernel_rfl) ?_
       refine ov_nil ?_
       obtain rfl := si hs
       refine nrm_join false rfl ?_
       exact cut_of [0] [] (by kernel_rfl) (by kernel_rfl) (by kernel_rfl)
      ·replace hs := bif_t h14 hs
       refine o_runs 1 [(114, .vs 2 (List.map enc_Stay y7))] (by kernel_rfl) ?_
       obtain ⟨x3, g3, hs⟩ := bind_some hs; obtain ⟨g3a, g3b, g3c⟩ := idx_some g3
       refine o_pure (v := .vp (enc_Stay x3) 0) (by kernel_rfl) (by kernel_rfl) (loc_indexVs (e := 61) (sz := 2) (k := .i64) (els := (List.map enc_Stay y7)) (cs := (enc_Stay x3)) (by kernel_rfl) (by kernel_rfl) (by kernel_rfl) g3a (by rw [g3c]; exact map_get _ (by omega))) ?_
       refine o_runs 5 [(120, .bool (decide (x3.From = 0) && (decide (x3.To = 1073741824)))), (119, .bool (decide (x3.From = 0) && (decide (x3.To = 1073741824)))), (118, .bool (decide (x3.From = 0) && (decide (x3.To = 1073741824)))), (117, .agg [.int .i64 0, .int .i64 1073741824]), (116, .agg (enc_Stay x3))] (by kernel_rfl) ?_
       cases h15 : ((decide (x3.From = 0) && (decide (x3.To = 1073741824))))
       ·replace hs := bif_f h15 hs
        refine o_runs 42 [(0, .bool false), (161, .bool false), (160, .no), (159, .no), (158, .no), (157, .no), (156, .no), (155, .bool false), (154, .bool false), (153, .no), (152, .no), (151, .no), (150, .no), (149, .no), (148, .bool false), (147, .bool false), (146, .no), (145, .no), (144, .no), (143, .no), (142, .no), (141, .bool false), (140, .bool false), (139, .no), (138, .no), (137, .no), (136, .no), (135, .no), (134, .bool false), (133, .bool false), (132, .no), (131, .no), (130, .no), (129, .no), (128, .no), (127, .bool false), (126, .bool false), (125, .no), (124, .no), (123, .no), (122, .no), (121, .no)] (by kernel_rfl) ?_
        refine ov_nil ?_
        obtain rfl := si hs
        refine nrm_join false rfl ?_
        exact cut_of [0] [] (by kernel_rfl) (by kernel_rfl) (by kernel_rfl)
       ·replace hs := bif_t h15 hs
        refine o_runs 1 [(121, .vs 5 (List.map enc_Fact y5))] (by kernel_rfl) ?_
        obtain ⟨x4, g4, hs⟩ := bind_some hs; obtain ⟨g4a, g4b, g4c⟩ := idx_some g4
        refine o_pure (v := .vp (enc_Fact x4) 0) (by kernel_rfl) (by kernel_rfl) (loc_indexVs (e := 48) (sz := 5) (k := .i64) (els := (List.map enc_Fact y5)) (cs := (enc_Fact x4)) (by kernel_rfl) (by kernel_rfl) (by kernel_rfl) g4a (by rw [g4c]; exact map_get _ (by omega))) ?_
        refine o_runs 5 [(127, .bool (decide (x4.Until = 10))), (126, .bool (decide (x4.Until = 10))), (125, .bool (decide (x4.Until = 10))), (124, .int .i64 x4.Until), (123, .vp (enc_Fact x4) 3)] (by kernel_rfl) ?_
        cases h16 : ((decide (x4.Until = 10)))
        ·replace hs := bif_f h16 hs
         refine o_runs 35 [(0, .bool false), (161, .bool false), (160, .no), (159, .no), (158, .no), (157, .no), (156, .no), (155, .bool false), (154, .bool false), (153, .no), (152, .no), (151, .no), (150, .no), (149, .no), (148, .bool false), (147, .bool false), (146, .no), (145, .no), (144, .no), (143, .no), (142, .no), (141, .bool false), (140, .bool false), (139, .no), (138, .no), (137, .no), (136, .no), (135, .no), (134, .bool false), (133, .bool false), (132, .no), (131, .no), (130, .no), (129, .no), (128, .no)] (by kernel_rfl) ?_
         refine ov_nil ?_
         obtain rfl := si hs
         refine nrm_join false rfl ?_
         exact cut_of [0] [] (by kernel_rfl) (by kernel_rfl) (by kernel_rfl)
        ·replace hs := bif_t h16 hs
         refine o_runs 1 [(128, .vs 5 (List.map enc_Fact y5))] (by kernel_rfl) ?_
         obtain ⟨x5, g5, hs⟩ := bind_some hs; obtain ⟨g5a, g5b, g5c⟩ := idx_some g5
         refine o_pure (v := .vp (enc_Fact x5) 0) (by kernel_rfl) (by kernel_rfl) (loc_indexVs (e := 48) (sz := 5) (k := .i64) (els := (List.map enc_Fact y5)) (cs := (enc_Fact x5)) (by kernel_rfl) (by kernel_rfl) (by kernel_rfl) g5a (by rw [g5c]; exact map_get _ (by omega))) ?_
         refine o_runs 5 [(134, .bool (decide (x5.From = 10))), (133, .bool (decide (x5.From = 10))), (132, .bool (decide (x5.From = 10))), (131, .int .i64 x5.From), (130, .vp (enc_Fact x5) 2)] (by kernel_rfl) ?_
         cases h17 : ((decide (x5.From = 10)))
         ·replace hs := bif_f h17 hs
          refine o_runs 28 [(0, .bool false), (161, .bool false), (160, .no), (159, .no), (158, .no), (157, .no), (156, .no), (155, .bool false), (154, .bool false), (153, .no), (152, .no), (151, .no), (150, .no), (149, .no), (148, .bool false), (147, .bool false), (146, .no), (145, .no), (144, .no), (143, .no), (142, .no), (141, .bool false), (140, .bool false), (139, .no), (138, .no), (137, .no), (136, .no), (135, .no)] (by kernel_rfl) ?_
          refine ov_nil ?_
          obtain rfl := si hs
          refine nrm_join false rfl ?_
          exact cut_of [0] [] (by kernel_rfl) (by kernel_rfl) (by kernel_rfl)
         ·replace hs := bif_t h17 hs
          refine o_runs 1 [(135, .vs 5 (List.map enc_Fact y5))] (by kernel_rfl) ?_
          obtain ⟨x6, g6, hs⟩ := bind_some hs; obtain ⟨g6a, g6b, g6c⟩ := idx_some g6
          refine o_pure (v := .vp (enc_Fact x6) 0) (by kernel_rfl) (by kernel_rfl) (loc_indexVs (e := 48) (sz := 5) (k := .i64) (els := (List.map enc_Fact y5)) (cs := (enc_Fact x6)) (by kernel_rfl) (by kernel_rfl) (by kernel_rfl) g6a (by rw [g6c]; exact map_get _ (by omega))) ?_
          refine o_runs 5 [(141, .bool (decide (x6.Until = 15))), (140, .bool (decide (x6.Until = 15))), (139, .bool (decide (x6.Until = 15))), (138, .int .i64 x6.Until), (137, .vp (enc_Fact x6) 3)] (by kernel_rfl) ?_
          cases h18 : ((decide (x6.Until = 15)))
          ·replace hs := bif_f h18 hs
           refine o_runs 21 [(0, .bool false), (161, .bool false), (160, .no), (159, .no), (158, .no), (157, .no), (156, .no), (155, .bool false), (154, .bool false), (153, .no), (152, .no), (151, .no), (150, .no), (149, .no), (148, .bool false), (147, .bool false), (146, .no), (145, .no), (144, .no), (143, .no), (142, .no)] (by kernel_rfl) ?_
           refine ov_nil ?_
           obtain rfl := si hs
           refine nrm_join false rfl ?_
           exact cut_of [0] [] (by kernel_rfl) (by kernel_rfl) (by kernel_rfl)
          ·replace hs := bif_t h18 hs
           refine o_runs 1 [(142, .vs 5 (List.map enc_Fact y5))] (by kernel_rfl) ?_
           obtain ⟨x7, g7, hs⟩ := bind_some hs; obtain ⟨g7a, g7b, g7c⟩ := idx_some g7
           refine o_pure (v := .vp (enc_Fact x7) 0) (by kernel_rfl) (by kernel_rfl) (loc_indexVs (e := 48) (sz := 5) (k := .i64) (els := (List.map enc_Fact y5)) (cs := (enc_Fact x7)) (by kernel_rfl) (by kernel_rfl) (by kernel_rfl) g7a (by rw [g7c]; exact map_get _ (by omega))) ?_
           refine o_runs 5 [(148, .bool (decide (x7.From = 15))), (147, .bool (decide (x7.From = 15))), (146, .bool (decide (x7.From = 15))), (145, .int .i64 x7.From), (144, .vp (enc_Fact x7) 2)] (by kernel_rfl) ?_
           cases h19 : ((decide (x7.From = 15)))
           ·replace hs := bif_f h19 hs
            refine o_runs 14 [(0, .bool false), (161, .bool false), (160, .no), (159, .no), (158, .no), (157, .no), (156, .no), (155, .bool false), (154, .bool false), (153, .no), (152, .no), (151, .no), (150, .no), (149, .no)] (by kernel_rfl) ?_
            refine ov_nil ?_
            obtain rfl := si hs
            refine nrm_join false rfl ?_
            exact cut_of [0] [] (by kernel_rfl) (by kernel_rfl) (by kernel_rfl)
           ·replace hs := bif_t h19 hs
            refine o_runs 1 [(149, .vs 5 (List.map enc_Fact y5))] (by kernel_rfl) ?_
            obtain ⟨x8, g8, hs⟩ := bind_some hs; obtain ⟨g8a, g8b, g8c⟩ := idx_some g8
            refine o_pure (v := .vp (enc_Fact x8) 0) (by kernel_rfl) (by kernel_rfl) (loc_indexVs (e := 48) (sz := 5) (k := .i64) (els := (List.map enc_Fact y5)) (cs := (enc_Fact x8)) (by kernel_rfl) (by kernel_rfl) (by kernel_rfl) g8a (by rw [g8c]; exact map_get _ (by omega))) ?_
            refine o_runs 5 [(155, .bool (decide (x8.Until = 0))), (154, .bool (decide (x8.Until = 0))), (153, .bool (decide (x8.Until = 0))), (152, .int .i64 x8.Until), (151, .vp (enc_Fact x8) 3)] (by kernel_rfl) ?_
            cases h20 : ((decide (x8.Until = 0)))
            ·replace hs := bif_f h20 hs
             refine o_runs 7 [(0, .bool false), (161, .bool false), (160, .no), (159, .no), (158, .no), (157, .no), (156, .no)] (by kernel_rfl) ?_
             refine ov_nil ?_
             obtain rfl := si hs
             refine nrm_join false rfl ?_
             exact cut_of [0] [] (by kernel_rfl) (by kernel_rfl) (by kernel_rfl)
            ·replace hs := bif_t h20 hs
             refine o_runs 1 [(156, .vs 5 (List.map enc_Fact y5))] (by kernel_rfl) ?_
             obtain ⟨x9, g9, hs⟩ := bind_some hs; obtain ⟨g9a, g9b, g9c⟩ := idx_some g9
             refine o_pure (v := .vp (enc_Fact x9) 0) (by kernel_rfl) (by kernel_rfl) (loc_indexVs (e := 48) (sz := 5) (k := .i64) (els := (List.map enc_Fact y5)) (cs := (enc_Fact x9)) (by kernel_rfl) (by kernel_rfl) (by kernel_rfl) g9a (by rw [g9c]; exact map_get _ (by omega))) ?_
             refine o_runs 5 [(0, .bool (decide (x9.Value = 95))), (161, .bool (decide (x9.Value = 95))), (160, .bool (decide (x9.Value = 95))), (159, .int .i64 x9.Value), (158, .vp (enc_Fact x9) 1)] (by kernel_rfl) ?_
             refine ov_nil ?_
             obtain rfl := si hs
             refine nrm_join (decide (x9.Value = 95)) rfl ?_
             exact cut_of [0] [] (by kernel_rfl) (by kernel_rfl) (by kernel_rfl)
    ·subst hz; clear hs; have hs := hk3; clear hk3
     refine nrm_thenV (v_ret ?_)
     obtain rfl := si hs
     exact fin_ret (by kernel_rfl) (by kernel_rfl) (by kernel_rfl)
theorem w_greenbeltlaw44_few (base : (List Fact)) (r : Bool) (hs : s_greenbeltlaw44_few base = some r) : FnA Tryz.prog 5 [.vs 5 (List.map enc_Fact base)] [] (.bool r) [] := by
 refine fnA_of_wp (N := 20) Tryz.func5 rfl rfl rfl fun cK0 => ?_
 unfold s_greenbeltlaw44_few at hs
 refine v_same (ρ' := [(0, .vs 5 (List.map enc_Fact base))]) rfl rfl ?_
 refine v_seq (vr_text (o_runs 1 [(2, .bool false)] (by kernel_rfl) ?_))
 refine ov_nil (nrm_thenV (v_seq (v_seq (vr_text (o_runs 1 [(3, .int .i64 0)] (by kernel_rfl) ?_)))))
 refine ov_nil (nrm_thenV ?_)
 obtain ⟨z1, hs, hk1⟩ := bind_some hs
 refine v_join (S := Unit) (fun u => z1 = .inr u) (fun u => [(0, .vs 5 (List.map enc_Fact base))]) (fun u => []) ?_ (fun v1 hz => ?_)
 ·refine v_block ?_
  refine v_fuel (S := Int) (fun u => [(0, .vs 5 (List.map enc_Fact base)), (3, .int .i64 u)]) (fun u => []) (s_greenbeltlaw44_few_L1 base) (fun _ => rfl) KK 0 hs (cut_of [0, 3] [] (by kernel_rfl) (by kernel_rfl) (by kernel_rfl)) (fun K1 q1 hs => ?_)
  rw [s_greenbeltlaw44_few_L1] at hs
  show WpV cK0 Tryz.prog none 20 _ _ [(0, .vs 5 (List.map enc_Fact base)), (3, .int .i64 q1)] [] []
  refine v_seq (v_seq (vr_text (o_runs 2 [(5, .vs 5 (List.map enc_Fact base)), (4, .int .i64 q1)] (by kernel_rfl) ?_)))
  refine o_pure (v := .int .i64 (List.length base : Int)) (by kernel_rfl) (by kernel_rfl) (loc_lenVs (sz := 5) (els := (List.map enc_Fact base)) (by kernel_rfl) (by kernel_rfl) (List.length_map ..)) ?_
  refine o_runs 1 [(7, .bool (decide (q1 < (List.length base : Int))))] (by kernel_rfl) ?_
  refine ov_nil (nrm_thenV ?_)
  refine v_cond (decide (q1 < (List.length base : Int))) (by kernel_rfl) (fun h1 => ?_) (fun h1 => ?_)
  ·replace hs := bif_t h1 hs
   refine v_skip (nrm_thenV (v_seq (v_block (v_seq (vr_text (o_runs 2 [(11, .int .i64 q1), (10, .vs 5 (List.map enc_Fact base))] (by kernel_rfl) ?_))))))
   obtain ⟨x1, g1, hs⟩ := bind_some hs; obtain ⟨g1a, g1b, g1c⟩ := idx_some g1
   refine o_pure (v := .vp (enc_Fact x1) 0) (by kernel_rfl) (by kernel_rfl) (loc_indexVs (e := 48) (sz := 5) (k := .i64) (els := (List.map enc_Fact base)) (cs := (enc_Fact x1)) (by kernel_rfl) (by kernel_rfl) (by kernel_rfl) g1a (by rw [g1c]; exact map_get _ (by omega))) ?_
   refine o_runs 4 [(16, .bool (decide ((List.length x1.Key : Int) > 40))), (15, .int .i64 (List.length x1.Key : Int)), (14, .str x1.Key), (13, .vp (enc_Fact x1) 0)] (by kernel_rfl) ?_
   refine ov_nil (nrm_thenV ?_)
   refine v_cond (decide ((List.length x1.Key : Int) > 40)) (by kernel_rfl) (fun h2 => ?_) (fun h2 => ?_)
   ·replace hs := bif_t h2 hs
    refine v_seq (vr_text (o_runs 1 [(2, .bool false)] (by kernel_rfl) ?_))
    refine ov_nil (nrm_thenV (v_ret (ret_blkV (ret_thenV (ret_fuel ?_)))))
    refine ret_blkV (ret_join ?_)
    refine ret_thenV ?_
    obtain rfl := si hs
    replace hs := hk1
    obtain rfl := si hs
    exact fin_ret (by kernel_rfl) (by kernel_rfl) (by kernel_rfl)
   ·replace hs := bif_f h2 hs
    refine v_skip (nrm_blkV (nrm_thenV (vr_text (o_runs 3 [(3, .int .i64 (w64 (q1 + 1))), (9, .int .i64 (w64 (q1 + 1))), (8, .int .i64 q1)] (by kernel_rfl) ?_))))
    refine ov_nil (nrm_fuel (w64 (q1 + 1)) hs ?_)
    exact cut_of [0, 3] [] (by kernel_rfl) (by kernel_rfl) (by kernel_rfl)
  ·replace hs := bif_f h1 hs
   refine v_exit (exit_thenV (exit_fuel ?_))
   refine exit_blkV ?_
   obtain rfl := si hs
   refine nrm_join () rfl ?_
   exact cut_of [0] [] (by kernel_rfl) (by kernel_rfl) (by kernel_rfl)
 ·subst hz; clear hs; have hs := hk1; clear hk1
  refine nrm_thenV (v_seq (vr_text (o_runs 1 [(17, .vs 5 (List.map enc_Fact base))] (by kernel_rfl) ?_)))
  refine o_pure (v := .int .i64 (List.length base : Int)) (by kernel_rfl) (by kernel_rfl) (loc_lenVs (sz := 5) (els := (List.map enc_Fact base)) (by kernel_rfl) (by kernel_rfl) (List.length_map ..)) ?_
  refine o_runs 2 [(2, .bool (decide ((List.length base : Int) ≤ 16))), (19, .bool (decide ((List.length base : Int) ≤ 16)))] (by kernel_rfl) ?_
  refine ov_nil (nrm_thenV (v_ret ?_))
  obtain rfl := si hs
  exact fin_ret (by kernel_rfl) (by kernel_rfl) (by kernel_rfl)
theorem w_expr_arity (op : Int) (r : Int × Bool) (hs : s_expr_arity op = some r) : FnA Tryz.prog 60 [.int .i64 op] [] (.tup [.int .i64 r.1, .bool r.2]) [] := by
 refine fnA_of_wp (N := 21) Tryz.func60 rfl rfl rfl fun cK0 => ?_
 unfold s_expr_arity at hs
 refine v_same (ρ' := [(0, .int .i64 op)]) rfl rfl ?_
 refine v_seq (vr_text (o_runs 2 [(3, .bool false), (2, .int .i64 0)] (by kernel_rfl) ?_))
 refine ov_nil (nrm_thenV (v_seq (v_seq (vr_text (o_runs 1 [(4, .int .i64 op)] (by kernel_rfl) ?_)))))
 refine ov_nil (nrm_thenV (v_block (v_seq (v_seq (vr_text (o_runs 2 [(5, .bool (decide (op = 0))), (6, .bool (decide (op = 0)))] (by kernel_rfl) ?_))))))
 refine ov_nil (nrm_thenV ?_)
 obtain ⟨z1, hs, hk1⟩ := bind_some hs
 refine v_join (S := Bool) (fun u => u = z1) (fun u => [(0, .int .i64 op), (4, .int .i64 op), (5, .bool u)]) (fun u => []) ?_ (fun v1 hz => ?_)
 ·refine v_cond (decide (op = 0)) (by kernel_rfl) (fun h1 => ?_) (fun h1 => ?_)
  ·replace hs := bif_t h1 hs
   refine v_skip ?_
   obtain rfl := si hs
   refine nrm_join (decide (op = 0)) rfl ?_
   exact cut_of [0, 4, 5] [] (by kernel_rfl) (by kernel_rfl) (by kernel_rfl)
  ·replace hs := bif_f h1 hs
   refine v_seq (vr_text (o_runs 2 [(5, .bool (decide (op = 1))), (7, .bool (decide (op = 1)))] (by kernel_rfl) ?_))
   refine ov_nil (nrm_thenV ?_)
   refine v_cond (decide (op = 1)) (by kernel_rfl) (fun h2 => ?_) (fun h2 => ?_)
   ·replace hs := bif_t h2 hs
    refine v_skip ?_
    obtain rfl := si hs
    refine nrm_join (decide (op = 1)) rfl ?_
    exact cut_of [0, 4, 5] [] (by kernel_rfl) (by kernel_rfl) (by kernel_rfl)
   ·replace hs := bif_f h2 hs
    refine v_seq (vr_text (o_runs 2 [(5, .bool (decide (op = 2))), (8, .bool (decide (op = 2)))] (by kernel_rfl) ?_))
    refine ov_nil (nrm_thenV ?_)
    refine v_cond (decide (op = 2)) (by kernel_rfl) (fun h3 => ?_) (fun h3 => ?_)
    ·replace hs := bif_t h3 hs
     refine v_skip ?_
     obtain rfl := si hs
     refine nrm_join (decide (op = 2)) rfl ?_
     exact cut_of [0, 4, 5] [] (by kernel_rfl) (by kernel_rfl) (by kernel_rfl)
    ·replace hs := bif_f h3 hs
     refine vr_text (o_runs 2 [(5, .bool (decide (op = 3))), (9, .bool (decide (op = 3)))] (by kernel_rfl) ?_)
     refine ov_nil ?_
     obtain rfl := si hs
     refine nrm_join (decide (op = 3)) rfl ?_
     exact cut_of [0, 4, 5] [] (by kernel_rfl) (by kernel_rfl) (by kernel_rfl)
 ·subst hz; clear hs; have hs := hk1; clear hk1
  refine nrm_thenV ?_
  refine v_cond v1 (by kernel_rfl) (fun h4 => ?_) (fun h4 => ?_)
  ·replace hs := bif_t h4 hs
   refine v_seq (vr_text (o_runs 2 [(3, .bool true), (2, .int .i64 0)] (by kernel_rfl) ?_))
   refine ov_nil (nrm_thenV (v_ret (ret_blkV (ret_thenV ?_))))
   obtain rfl := si hs
   exact fin_ret (by kernel_rfl) (by kernel_rfl) (by kernel_rfl)
  ·replace hs := bif_f h4 hs
   refine v_seq (v_seq (vr_text (o_runs 2 [(10, .bool (decide (op = 9))), (11, .bool (decide (op = 9)))] (by kernel_rfl) ?_)))
   refine ov_nil (nrm_thenV ?_)
   obtain ⟨z2, hs, hk2⟩ := bind_some hs
   refine v_join (S := Bool) (fun u => u = z2) (fun u => [(0, .int .i64 op), (4, .int .i64 op), (10, .bool u)]) (fun u => []) ?_ (fun v2 hz => ?_)
   ·refine v_cond (decide (op = 9)) (by kernel_rfl) (fun h5 => ?_) (fun h5 => ?_)
    ·replace hs := bif_t h5 hs
     refine v_skip ?_
     obtain rfl := si hs
     refine nrm_join (decide (op = 9)) rfl ?_
     exact cut_of [0, 4, 10] [] (by kernel_rfl) (by kernel_rfl) (by kernel_rfl)
    ·replace hs := bif_f h5 hs
     refine vr_text (o_runs 2 [(10, .bool (decide (op = 15))), (12, .bool (decide (op = 15)))] (by kernel_rfl) ?_)
     refine ov_nil ?_
     obtain rfl := si hs
     refine nrm_join (decide (op = 15)) rfl ?_
     exact cut_of [0, 4, 10] [] (by kernel_rfl) (by kernel_rfl) (by kernel_rfl)
   ·subst hz; clear hs; have hs := hk2; clear hk2
    refine nrm_thenV ?_
    refine v_cond v2 (by kernel_rfl) (fun h6 => ?_) (fun h6 => ?_)
    ·replace hs := bif_t h6 hs
     refine v_seq (vr_text (o_runs 2 [(3, .bool true), (2, .int .i64 1)] (by kernel_rfl) ?_))
     refine ov_nil (nrm_thenV (v_ret (ret_blkV (ret_thenV ?_))))
     obtain rfl := si hs
     exact fin_ret (by kernel_rfl) (by kernel_rfl) (by kernel_rfl)
    ·replace hs := bif_f h6 hs
     refine v_seq (vr_text (o_runs 2 [(13, .bool (decide (op = 16))), (14, .bool (decide (op = 16)))] (by kernel_rfl) ?_))
     refine ov_nil (nrm_thenV ?_)
     refine v_cond (decide (op = 16)) (by kernel_rfl) (fun h7 => ?_) (fun h7 => ?_)
     ·replace hs := bif_t h7 hs
      refine v_seq (vr_text (o_runs 2 [(3, .bool true), (2, .int .i64 3)] (by kernel_rfl) ?_))
      refine ov_nil (nrm_thenV (v_ret (ret_blkV (ret_thenV ?_))))
      obtain rfl := si hs
      exact fin_ret (by kernel_rfl) (by kernel_rfl) (by kernel_rfl)
     ·replace hs := bif_f h7 hs
      refine v_skip (nrm_blkV (nrm_thenV (v_seq ?_)))
      obtain ⟨z3, hs, hk3⟩ := bind_some hs
      refine v_join (S := Bool) (fun u => u = z3) (fun u => [(2, .int .i64 2), (3, .bool u)]) (fun u => []) ?_ (fun v3 hz => ?_)
      ·refine vr_text (o_runs 3 [(17, .bool (decide (op ≥ 0))), (16, .bool (decide (op ≥ 0))), (15, .int .i64 op)] (by kernel_rfl) ?_)
       cases h8 : ((decide (op ≥ 0)))
       ·replace hs := bif_f h8 hs
        refine o_runs 5 [(3, .bool false), (2, .int .i64 2), (20, .bool false), (19, .no), (18, .no)] (by kernel_rfl) ?_
        refine ov_nil ?_
        obtain rfl := si hs
        refine nrm_join false rfl ?_
        exact cut_of [2, 3] [] (by kernel_rfl) (by kernel_rfl) (by kernel_rfl)
       ·replace hs := bif_t h8 hs
        refine o_runs 5 [(3, .bool (decide (op < 17))), (2, .int .i64 2), (20, .bool (decide (op < 17))), (19, .bool (decide (op < 17))), (18, .int .i64 op)] (by kernel_rfl) ?_
        refine ov_nil ?_
        obtain rfl := si hs
        refine nrm_join (decide (op < 17)) rfl ?_
        exact cut_of [2, 3] [] (by kernel_rfl) (by kernel_rfl) (by kernel_rfl)
      ·subst hz; clear hs; have hs := hk3; clear hk3
       refine nrm_thenV (v_ret ?_)
       obtain rfl := si hs
       exact fin_ret (by kernel_rfl) (by kernel_rfl) (by kernel_rfl)
theorem ws_expr_levels (nF : Nat) (ih_expr_levels : ∀ (e : Expr) (above : Int) (r : Int), s_expr_levels nF e above = some r → FnA Tryz.prog 35 [.agg (enc_Expr e), .int .i64 above] [] (.int .i64 r) []) (e : Expr) (above : Int) (r : Int) (hs : s_expr_levels (nF + 1) e above = some r) : FnA Tryz.prog 35 [.agg (enc_Expr e), .int .i64 above] [] (.int .i64 r) [] := by
 refine fnA_of_wp (N := 45) Tryz.func35 rfl rfl rfl fun cK0 => ?_
 rw [s_expr_levels] at hs
 refine v_same (ρ' := [(0, .agg (enc_Expr e)), (1, .int .i64 above)]) rfl rfl ?_
 refine v_seq (vr_text (o_runh 2 [(4, .int .i64 0), (2, .ptr 2 0 0)] [(2, .box 34 [.int .i64 e.Op, .int .i64 e.N, .str e.S, .str e.Key, .vs 5 (encs_Expr e.Args)])] (by kernel_rfl) ?_))
 refine ov_nil (nrm_thenV (v_seq (vr_text (o_runs 2 [(12, .int .i64 e.Op), (11, .ptr 2 0 0)] (by kernel_rfl) ?_))))
 obtain ⟨y1, c1, hs⟩ := bind_some hs
 refine o_pure (v := .tup [.int .i64 y1.1, .bool y1.2]) (by kernel_rfl) (by kernel_rfl) (loc_gcall0 (callV_func hbv60 (by kernel_rfl)) (w_expr_arity e.Op _ c1) (by kernel_rfl)) ?_
 refine o_runs 5 [(6, .bool y1.2), (5, .int .i64 y1.1), (15, .bool y1.2), (14, .int .i64 y1.1), (10, .tup [.int .i64 y1.1, .bool y1.2])] (by kernel_rfl) ?_
 refine ov_nil (nrm_thenV (v_seq (v_seq ?_)))
 obtain ⟨z1, hs, hk1⟩ := bind_some hs
 refine v_join (S := Bool) (fun u => u = z1) (fun u => [(1, .int .i64 above), (2, .ptr 2 0 0), (28, .bool u)]) (fun u => [(2, .box 34 [.int .i64 e.Op, .int .i64 e.N, .str e.S, .str e.Key, .vs 5 (encs_Expr e.Args)])]) ?_ (fun v1 hz => ?_)
 ·refine vr_text (o_runs 3 [(18, .bool (!y1.2)), (17, .bool (!y1.2)), (16, .bool y1.2)] (by kernel_rfl) ?_)
  cases h1 : ((!y1.2))
  ·replace hs := bif_f h1 hs
   refine o_runs 3 [(21, .vs 5 (encs_Expr e.Args)), (20, .ptr 2 0 4), (19, .int .i64 y1.1)] (by kernel_rfl) ?_
   refine o_pure (v := .int .i64 (List.length e.Args : Int)) (by kernel_rfl) (by kernel_rfl) (loc_lenVs (sz := 5) (els := (encs_Expr e.Args)) (by kernel_rfl) (by kernel_rfl) (by rw [encs_Expr_eq, List.length_map])) ?_
   refine o_runs 3 [(25, .bool (!(decide (y1.1 = (List.length e.Args : Int))))), (24, .bool (!(decide (y1.1 = (List.length e.Args : Int))))), (23, .bool (!(decide (y1.1 = (List.length e.Args : Int)))))] (by kernel_rfl) ?_
   cases h2 : ((!(decide (y1.1 = (List.length e.Args : Int)))))
   ·replace hs := bif_f h2 hs
    refine o_runs 3 [(28, .bool (decide (above ≥ 12))), (27, .bool (decide (above ≥ 12))), (26, .int .i64 above)] (by kernel_rfl) ?_
    refine ov_nil ?_
    obtain rfl := si hs
    refine nrm_join (decide (above ≥ 12)) rfl ?_
    exact cut_of [1, 2, 28] [2] (by kernel_rfl) (by kernel_rfl) (by kernel_rfl)
   ·replace hs := bif_t h2 hs
    refine o_runs 3 [(28, .bool true), (27, .no), (26, .no)] (by kernel_rfl) ?_
    refine ov_nil ?_
    obtain rfl := si hs
    refine nrm_join true rfl ?_
    exact cut_of [1, 2, 28] [2] (by kernel_rfl) (by kernel_rfl) (by kernel_rfl)
  ·replace hs := bif_t h1 hs
   refine o_runs 10 [(28, .bool true), (27, .no), (26, .no), (25, .bool true), (24, .bool true), (23, .no), (22, .no), (21, .no), (20, .no), (19, .no)] (by kernel_rfl) ?_
   refine ov_nil ?_
   obtain rfl := si hs
   refine nrm_join true rfl ?_
   exact cut_of [1, 2, 28] [2] (by kernel_rfl) (by kernel_rfl) (by kernel_rfl)
 ·subst hz; clear hs; have hs := hk1; clear hk1
  refine nrm_thenV ?_
  refine v_cond v1 (by kernel_rfl) (fun h3 => ?_) (fun h3 => ?_)
  ·replace hs := bif_t h3 hs
   refine v_seq (vr_text (o_runs 1 [(4, .int .i64 13)] (by kernel_rfl) ?_))
   refine ov_nil (nrm_thenV (v_ret (ret_thenV ?_)))
   obtain rfl := si hs
   exact fin_ret (by kernel_rfl) (by kernel_rfl) (by kernel_rfl)
  ·replace hs := bif_f h3 hs
   refine v_skip (nrm_thenV (v_seq (vr_text (o_runs 1 [(7, .int .i64 0)] (by kernel_rfl) ?_))))
   refine ov_nil (nrm_thenV (v_seq (v_seq (vr_text (o_runs 2 [(30, .vs 5 (encs_Expr e.Args)), (29, .ptr 2 0 4)] (by kernel_rfl) ?_)))))
   refine o_pure (v := .int .i64 (List.length e.Args : Int)) (by kernel_rfl) (by kernel_rfl) (loc_lenVs (sz := 5) (els := (encs_Expr e.Args)) (by kernel_rfl) (by kernel_rfl) (by rw [encs_Expr_eq, List.length_map])) ?_
   refine o_runs 1 [(32, .int .i64 0)] (by kernel_rfl) ?_
   refine ov_nil (nrm_thenV ?_)
   obtain ⟨z2, hs, hk2⟩ := bind_some hs
   refine v_join (S := Int) (fun u => u = z2) (fun u => [(7, .int .i64 u)]) (fun u => []) ?_ (fun v2 hz => ?_)
   ·refine v_block ?_
    refine v_fuel (S := Int × Int) (fun u => [(1, .int .i64 above), (7, .int .i64 u.1), (30, .vs 5 (encs_Expr e.Args)), (31, .int .i64 (List.length e.Args : Int)), (32, .int .i64 u.2)]) (fun u => []) (s_expr_levels_L1 (s_expr_levels nF) e above) (fun _ => rfl) KK (0, 0) hs (cut_of [1, 7, 30, 31, 32] [] (by kernel_rfl) (by kernel_rfl) (by kernel_rfl)) (fun K1 q1 hs => ?_)
    rw [s_expr_levels_L1] at hs
    show WpV cK0 Tryz.prog none 45 _ _ [(1, .int .i64 above), (7, .int .i64 q1.1), (30, .vs 5 (encs_Expr e.Args)), (31, .int .i64 (List.length e.Args : Int)), (32, .int .i64 q1.2)] [] []
    refine v_seq (vr_text (o_runs 1 [(33, .bool (decide (q1.2 < (List.length e.Args : Int))))] (by kernel_rfl) ?_))
    refine ov_nil (nrm_thenV (v_seq ?_))
    refine v_cond (decide (q1.2 < (List.length e.Args : Int))) (by kernel_rfl) (fun h4 => ?_) (fun h4 => ?_)
    ·replace hs := bif_t h4 hs
     refine v_skip (nrm_thenV (v_seq (v_block (v_seq (vr_text ?_)))))
     obtain ⟨x1, g1, hs⟩ := bind_some hs; obtain ⟨g1a, g1b, g1c⟩ := idx_some g1
     refine o_pure (v := .vp (enc_Expr x1) 0) (by kernel_rfl) (by kernel_rfl) (loc_indexVs (e := 34) (sz := 5) (k := .i64) (els := (encs_Expr e.Args)) (cs := (enc_Expr x1)) (by kernel_rfl) (by kernel_rfl) (by kernel_rfl) g1a (by rw [g1c, encs_Expr_eq]; exact map_get _ (by omega))) ?_
     refine o_runh 3 [(9, .ptr 9 0 0), (35, .agg (enc_Expr x1))] [(9, .box 34 [.int .i64 x1.Op, .int .i64 x1.N, .str x1.S, .str x1.Key, .vs 5 (encs_Expr x1.Args)])] (by kernel_rfl) ?_
     refine ov_nil (nrm_thenV (vr_text (o_runs 4 [(39, .int .i64 (w64 (above + 1))), (38, .int .i64 above), (37, .agg (enc_Expr x1)), (36, .int .i64 q1.1)] (by kernel_rfl) ?_)))
     obtain ⟨y2, c2, hs⟩ := bind_some hs
     refine o_pure (v := .int .i64 y2) (by kernel_rfl) (by kernel_rfl) (loc_gcall0 (callV_func hbv35 (by kernel_rfl)) (ih_expr_levels x1 (w64 (above + 1)) _ c2) (by kernel_rfl)) ?_
     refine o_runs 2 [(7, .int .i64 (max q1.1 y2)), (41, .int .i64 (max q1.1 y2))] (by kernel_rfl) ?_
     refine ov_nil (nrm_blkV (nrm_thenV (vr_text (o_runs 2 [(32, .int .i64 (w64 (q1.2 + 1))), (42, .int .i64 (w64 (q1.2 + 1)))] (by kernel_rfl) ?_))))
     refine ov_nil (nrm_fuel ((max q1.1 y2), (w64 (q1.2 + 1))) hs ?_)
     exact cut_of [1, 7, 30, 31, 32] [] (by kernel_rfl) (by kernel_rfl) (by kernel_rfl)
    ·replace hs := bif_f h4 hs
     refine v_exit (exit_thenV (exit_fuel ?_))
     refine exit_blkV ?_
     obtain rfl := si hs
     refine nrm_join q1.1 rfl ?_
     exact cut_of [7] [] (by kernel_rfl) (by kernel_rfl) (by kernel_rfl)
   ·subst hz; clear hs; have hs := hk2; clear hk2
    refine nrm_thenV (v_seq (vr_text (o_runs 3 [(4, .int .i64 (w64 (v2 + 1))), (44, .int .i64 (w64 (v2 + 1))), (43, .int .i64 v2)] (by kernel_rfl) ?_)))
    refine ov_nil (nrm_thenV (v_ret ?_))
    obtain rfl := si hs
    exact fin_ret (by kernel_rfl) (by kernel_rfl) (by kernel_rfl)
theorem wr_expr_levels : ∀ nF : Nat, (∀ (e : Expr) (above : Int) (r : Int), s_expr_levels nF e above = some r → FnA Tryz.prog 35 [.agg (enc_Expr e), .int .i64 above] [] (.int .i64 r) [])
 | 0 => fun e above r hs => by rw [s_expr_levels] at hs; cases hs
 | nF + 1 => fun e above r hs => ws_expr_levels nF (wr_expr_levels nF) e above r hs
theorem w_expr_levels (nF : Nat) (e : Expr) (above : Int) (r : Int) (hs : s_expr_levels nF e above = some r) : FnA Tryz.prog 35 [.agg (enc_Expr e), .int .i64 above] [] (.int .i64 r) [] := (wr_expr_levels nF) e above r hs
theorem w_expr_Right (e : Expr) (r : Bool) (hs : s_expr_Right e = some r) : FnA Tryz.prog 22 [.agg (enc_Expr e)] [] (.bool r) [] := by
 refine fnA_of_wp (N := 6) Tryz.func22 rfl rfl rfl fun cK0 => ?_
 unfold s_expr_Right at hs
 refine v_same (ρ' := [(0, .agg (enc_Expr e))]) rfl rfl ?_
 refine v_seq (vr_text (o_runh 2 [(2, .bool false), (1, .ptr 1 0 0)] [(1, .box 34 [.int .i64 e.Op, .int .i64 e.N, .str e.S, .str e.Key, .vs 5 (encs_Expr e.Args)])] (by kernel_rfl) ?_))
 refine ov_nil (nrm_thenV (v_seq (vr_text (o_runs 1 [(3, .agg (enc_Expr e))] (by kernel_rfl) ?_))))
 obtain ⟨y1, c1, hs⟩ := bind_some hs
 refine o_pure (v := .int .i64 y1) (by kernel_rfl) (by kernel_rfl) (loc_gcall0 (callV_func hbv35 (by kernel_rfl)) (w_expr_levels KK e 0 _ c1) (by kernel_rfl)) ?_
 refine o_runs 2 [(2, .bool (decide (y1 ≤ 12))), (5, .bool (decide (y1 ≤ 12)))] (by kernel_rfl) ?_
 refine ov_nil (nrm_thenV (v_ret ?_))
 obtain rfl := si hs
 exact fin_ret (by kernel_rfl) (by kernel_rfl) (by kernel_rfl)
theorem w_define_Measures  (r : (List (List UInt8))) (hs : s_define_Measures  = some r) : FnA Tryz.prog 61 [] [] (.vs 1 (List.map EV.encS r)) [] := by
 refine fnA_of_wp (N := 2) Tryz.func61 rfl rfl rfl fun cK0 => ?_
 unfold s_define_Measures at hs
 refine v_same (ρ' := []) rfl rfl ?_
 refine v_seq (vr_text (o_runs 1 [(0, .nils)] (by kernel_rfl) ?_))
 refine ov_nil (nrm_thenV (v_seq (vr_text (o_runh 2 [(0, .sl 1 1 9 0 9), (1, .sl 1 1 9 0 9)] [(1, .row 9 1 0 (List.map EV.encS [([97, 114, 101, 97] : List UInt8), ([99, 111, 118, 101, 114] : List UInt8), ([102, 108, 111, 111, 114] : List UInt8), ([102, 108, 111, 111, 114, 115] : List UInt8), ([104, 101, 105, 103, 104, 116] : List UInt8), ([104, 111, 109, 101, 115] : List UInt8), ([114, 117, 110, 111, 102, 102] : List UInt8), ([115, 101, 116, 98, 97, 99, 107] : List UInt8), ([116, 114, 97, 102, 102, 105, 99] : List UInt8)]))] (by kernel_rfl) ?_))))
 refine ov_nil (nrm_thenV (v_to _ [(1, .row 9 1 (((List.map EV.encS [([97, 114, 101, 97] : List UInt8), ([99, 111, 118, 101, 114] : List UInt8), ([102, 108, 111, 111, 114] : List UInt8), ([102, 108, 111, 111, 114, 115] : List UInt8), ([104, 101, 105, 103, 104, 116] : List UInt8), ([104, 111, 109, 101, 115] : List UInt8), ([114, 117, 110, 111, 102, 102] : List UInt8), ([115, 101, 116, 98, 97, 99, 107] : List UInt8), ([116, 114, 97, 102, 102, 105, 99] : List UInt8)])).length) (List.map EV.encS [([97, 114, 101, 97] : List UInt8), ([99, 111, 118, 101, 114] : List UInt8), ([102, 108, 111, 111, 114] : List UInt8), ([102, 108, 111, 111, 114, 115] : List UInt8), ([104, 101, 105, 103, 104, 116] : List UInt8), ([104, 111, 109, 101, 115] : List UInt8), ([114, 117, 110, 111, 102, 102] : List UInt8), ([115, 101, 116, 98, 97, 99, 107] : List UInt8), ([116, 114, 97, 102, 102, 105, 99] : List UInt8)]))] (cut_freeze (F := [(1, .row 9 1 0 (List.map EV.encS [([97, 114, 101, 97] : List UInt8), ([99, 111, 118, 101, 114] : List UInt8), ([102, 108, 111, 111, 114] : List UInt8), ([102, 108, 111, 111, 114, 115] : List UInt8), ([104, 101, 105, 103, 104, 116] : List UInt8), ([104, 111, 109, 101, 115] : List UInt8), ([114, 117, 110, 111, 102, 102] : List UInt8), ([115, 101, 116, 98, 97, 99, 107] : List UInt8), ([116, 114, 97, 102, 102, 105, 99] : List UInt8)]))]) [1] rfl (by kernel_rfl) (by kernel_rfl)) ?_))
 refine v_to ((0, .vs 1 (List.map EV.encS [([97, 114, 101, 97] : List UInt8), ([99, 111, 118, 101, 114] : List UInt8), ([102, 108, 111, 111, 114] : List UInt8), ([102, 108, 111, 111, 114, 115] : List UInt8), ([104, 101, 105, 103, 104, 116] : List UInt8), ([104, 111, 109, 101, 115] : List UInt8), ([114, 117, 110, 111, 102, 102] : List UInt8), ([115, 101, 116, 98, 97, 99, 107] : List UInt8), ([116, 114, 97, 102, 102, 105, 99] : List UInt8)])) :: _) _ (cut_view (R := [(1, .row 9 1 (((List.map EV.encS [([97, 114, 101, 97] : List UInt8), ([99, 111, 118, 101, 114] : List UInt8), ([102, 108, 111, 111, 114] : List UInt8), ([102, 108, 111, 111, 114, 115] : List UInt8), ([104, 101, 105, 103, 104, 116] : List UInt8), ([104, 111, 109, 101, 115] : List UInt8), ([114, 117, 110, 111, 102, 102] : List UInt8), ([115, 101, 116, 98, 97, 99, 107] : List UInt8), ([116, 114, 97, 102, 102, 105, 99] : List UInt8)])).length) (List.map EV.encS [([97, 114, 101, 97] : List UInt8), ([99, 111, 118, 101, 114] : List UInt8), ([102, 108, 111, 111, 114] : List UInt8), ([102, 108, 111, 111, 114, 115] : List UInt8), ([104, 101, 105, 103, 104, 116] : List UInt8), ([104, 111, 109, 101, 115] : List UInt8), ([114, 117, 110, 111, 102, 102] : List UInt8), ([115, 101, 116, 98, 97, 99, 107] : List UInt8), ([116, 114, 97, 102, 102, 105, 99] : List UInt8)]))]) (ks := [1]) (by kernel_rfl) (by kernel_rfl) (.row (t := 9) (fz := (((List.map EV.encS [([97, 114, 101, 97] : List UInt8), ([99, 111, 118, 101, 114] : List UInt8), ([102, 108, 111, 111, 114] : List UInt8), ([102, 108, 111, 111, 114, 115] : List UInt8), ([104, 101, 105, 103, 104, 116] : List UInt8), ([104, 111, 109, 101, 115] : List UInt8), ([114, 117, 110, 111, 102, 102] : List UInt8), ([115, 101, 116, 98, 97, 99, 107] : List UInt8), ([116, 114, 97, 102, 102, 105, 99] : List UInt8)])).length)) (by kernel_rfl) (by first | (simp only [List.length_map, List.length_set]; done) | rfl))) ?_
 refine v_ret ?_
 obtain rfl := si hs
 exact fin_ret (by kernel_rfl) (by kernel_rfl) (by kernel_rfl)
theorem w_define_names (e : Expr) (r : Int × Int × (List UInt8) × (List UInt8) × (List Expr)) (hs : s_define_names e = some r) : FnA Tryz.prog 105 [.agg (enc_Expr e)] [] (.fn 126 [] [.ptr 1 0 0]) [(1, .box 34 [.int .i64 r.1, .int .i64 r.2.1, .str r.2.2.1, .str r.2.2.2.1, .vs 5 (encs_Expr r.2.2.2.2)])] := by
 refine fnA_of_wp (N := 4) Tryz.func105 rfl rfl rfl fun cK0 => ?_
 unfold s_define_names at hs
 refine v_same (ρ' := [(0, .agg (enc_Expr e))]) rfl rfl ?_
 refine v_seq (vr_text (o_runh 2 [(2, .nilf), (1, .ptr 1 0 0)] [(1, .box 34 [.int .i64 e.Op, .int .i64 e.N, .str e.S, .str e.Key, .vs 5 (encs_Expr e.Args)])] (by kernel_rfl) ?_))
 refine ov_nil (nrm_thenV (v_seq (vr_text (o_runs 2 [(2, .fn 126 [] [.ptr 1 0 0]), (3, .fn 126 [] [.ptr 1 0 0])] (by kernel_rfl) ?_))))
 refine ov_nil (nrm_thenV (v_ret ?_))
 obtain rfl := si hs
 exact fin_ret (by kernel_rfl) (by kernel_rfl) (by kernel_rfl)
theorem w_maps_Keys (m_ : (List ((List UInt8) × Bool))) (r : Unit) (hs : s_maps_Keys m_ = some r) : FnA Tryz.prog 107 [.mp 1000000] [(1000000, .map (encM V.str V.bool m_))] (.fn 128 [] [.ptr 1 0 0]) [(1, .box 89 [.mp 1000000]), (1000000, .map (encM V.str V.bool m_))] := by
 refine fnA_of_wp (N := 4) Tryz.func107 rfl rfl rfl fun cK0 => ?_
 unfold s_maps_Keys at hs
 refine v_same (ρ' := [(0, .mp 1000000)]) rfl rfl ?_
 refine v_seq (vr_text (o_runh 2 [(2, .nilf), (1, .ptr 1 0 0)] [(1, .box 89 [.mp 1000000]), (1000000, .map (encM V.str V.bool m_))] (by kernel_rfl) ?_))
 refine ov_nil (nrm_thenV (v_seq (vr_text (o_runs 2 [(2, .fn 128 [] [.ptr 1 0 0]), (3, .fn 128 [] [.ptr 1 0 0])] (by kernel_rfl) ?_))))
 refine ov_nil (nrm_thenV (v_ret ?_))
 obtain rfl := si hs
 exact fin_ret (by kernel_rfl) (by kernel_rfl) (by kernel_rfl)
theorem w_define_Names (e : Expr) (r : (List (List UInt8))) (hs : s_define_Names e = some r) : FnA Tryz.prog 84 [.agg (enc_Expr e)] [] (.vs 1 (List.map EV.encS r)) [] := by
 refine fnA_of_wp (N := 14) Tryz.func84 rfl rfl rfl fun cK0 => ?_
 unfold s_define_Names at hs
 refine v_same (ρ' := [(0, .agg (enc_Expr e))]) rfl rfl ?_
 refine v_seq (vr_text (o_runh 2 [(2, .nils), (1, .ptr 1 0 0)] [(1, .box 34 [.int .i64 e.Op, .int .i64 e.N, .str e.S, .str e.Key, .vs 5 (encs_Expr e.Args)])] (by kernel_rfl) ?_))
 refine ov_nil (nrm_thenV (v_seq (vr_text (o_runh 3 [(3, .ptr 3 0 0), (5, .mp 5)] [(3, .box 89 [.mp 5]), (5, .map (encM V.str V.bool [])), (1, .box 34 [.int .i64 e.Op, .int .i64 e.N, .str e.S, .str e.Key, .vs 5 (encs_Expr e.Args)])] (by kernel_rfl) ?_))))
 refine ov_nil (nrm_thenV (v_seq (v_seq (vr_text (o_runs 1 [(6, .agg (enc_Expr e))] (by kernel_rfl) ?_)))))
 obtain ⟨y1, c1, hs⟩ := bind_some hs
 refine o_loc (F := []) (F' := [(3000700, .box 34 [.int .i64 y1.1, .int .i64 y1.2.1, .str y1.2.2.1, .str y1.2.2.2.1, .vs 5 (encs_Expr y1.2.2.2.2)])]) (v := .fn 126 [] [.ptr 3000700 0 0]) [] (by kernel_rfl) (by kernel_rfl) rfl (by kernel_rfl) (loc_g (R := []) [.agg (enc_Expr e)] [(1, 3000700)] (callV_func hbv105 (by kernel_rfl)) (w_define_names e _ c1) (.cons (.same _) (.nil)) (by kernel_rfl) (by kernel_rfl) (by kernel_rfl) (by kernel_rfl) (by kernel_rfl) (by kernel_rfl) (by kernel_rfl) (by kernel_rfl)) (by kernel_rfl) ?_
 refine ov_nil (nrm_thenV ?_)
 obtain ⟨z1, hs, hk1⟩ := bind_some hs
 refine v_join (S := (List ((List UInt8) × Bool))) (fun u => u = z1) (fun u => [(3, .ptr 3 0 0)]) (fun u => [(3, .box 89 [.mp 5]), (5, .map (encM V.str V.bool u))]) ?_ (fun v1 hz => ?_)
 ·refine v_block (v_to [(3, .ptr 3 0 0), (7, .fn 126 [] [.ptr 3000700 0 0])] [(3000700, .box 34 [.int .i64 y1.1, .int .i64 y1.2.1, .str y1.2.2.1, .str y1.2.2.2.1, .vs 5 (encs_Expr y1.2.2.2.2)]), (3, .box 89 [.mp 5]), (5, .map (encM V.str V.bool []))] (cut_of [3, 7] [3000700, 3, 5] (by kernel_rfl) (by kernel_rfl) (by kernel_rfl)) ?_)
  refine v_rangeF (Sg := (List ((List UInt8) × Bool))) (enc := V.str) (val := (fun s : List UInt8 => Value.string ⟨s.toArray⟩)) (caps := [.ptr 3000700 0 0]) (F := [(3000700, .box 34 [.int .i64 y1.1, .int .i64 y1.2.1, .str y1.2.2.1, .str y1.2.2.2.1, .vs 5 (encs_Expr y1.2.2.2.2)])]) [3000700] (fun u => [(3000700, .box 34 [.int .i64 y1.1, .int .i64 y1.2.1, .str y1.2.2.1, .str y1.2.2.2.1, .vs 5 (encs_Expr y1.2.2.2.2)]), (3, .box 89 [.mp 5]), (5, .map (encM V.str V.bool u))]) s_define_Names_L1 [] (by kernel_rfl) hbv126 (iter_names 3000700 (Expr.mk y1.1 y1.2.1 y1.2.2.1 y1.2.2.2.1 y1.2.2.2.2)) (by kernel_rfl) (by kernel_rfl) (fun _ _ _ => rfl) hs (fun _ => by kernel_rfl) (by kernel_rfl) (fun lR1 x1 xs1 q1 cR1 hs => ?_) (fun q1 hs => ?_)
  ·rw [s_define_Names_L1] at hs
   show WpV cR1 Tryz.prog (some lR1) 14 _ _ [(4, .str x1), (8, .str x1), (3, .ptr 3 0 0), (7, .fn 126 [] [.ptr 3000700 0 0])] [(3000700, .box 34 [.int .i64 y1.1, .int .i64 y1.2.1, .str y1.2.2.1, .str y1.2.2.2.1, .vs 5 (encs_Expr y1.2.2.2.2)]), (3, .box 89 [.mp 5]), (5, .map (encM V.str V.bool q1))] []
   refine v_block (vr_text (o_runs 2 [(10, .str x1), (9, .mp 5)] (by kernel_rfl) ?_))
   refine o_loc (F := [(5, .map (encM V.str V.bool q1))]) (F' := [(5, .map (encM V.str V.bool (mset x1 true q1)))]) (v := .no) [5] (by kernel_rfl) (by kernel_rfl) rfl (by kernel_rfl) (loc_mapUpdate (et := 4) (f := V.str) (g := V.bool) (l := q1) (a := x1) (c := true) (by kernel_rfl) kok9 (by kernel_rfl) (by kernel_rfl) (by kernel_rfl) (by kernel_rfl) (by kernel_rfl)) (by kernel_rfl) ?_
   refine ov_nil (nrm_blkV (nrm_round (mset x1 true q1) hs ?_))
   exact cut_of [] [3000700, 3, 5] (by kernel_rfl) (by kernel_rfl) (by kernel_rfl)
  ·rw [s_define_Names_L1] at hs
   refine nrm_blkV ?_
   obtain rfl := si hs
   refine nrm_join q1 rfl ?_
   exact cut_of [3] [3, 5] (by kernel_rfl) (by kernel_rfl) (by kernel_rfl)
 ·subst hz; clear hs; have hs := hk1; clear hk1
  refine nrm_thenV (v_seq (vr_text (o_runs 1 [(11, .mp 5)] (by kernel_rfl) ?_)))
  obtain ⟨y2, c2, hs⟩ := bind_some hs
  refine o_loc (F := [(5, .map (encM V.str V.bool v1))]) (F' := [(3001200, .box 89 [.mp 5]), (5, .map (encM V.str V.bool v1))]) (v := .fn 128 [] [.ptr 3001200 0 0]) [5] (by kernel_rfl) (by kernel_rfl) rfl (by kernel_rfl) (loc_g (R := []) [.mp 5] [(1000000, 5), (1, 3001200)] (callV_func hbv107 (by kernel_rfl)) (w_maps_Keys v1 _ c2) (.cons (.same _) (.nil)) (by kernel_rfl) (by kernel_rfl) (by kernel_rfl) (by kernel_rfl) (by kernel_rfl) (by kernel_rfl) (by kernel_rfl) (by kernel_rfl)) (by kernel_rfl) ?_
  obtain ⟨_, g1, hs⟩ := bind_some hs; replace g1 := grd_some g1
  refine o_loc (F := [(3001200, .box 89 [.mp 5]), (5, .map (encM V.str V.bool v1))]) (F' := [(3001200, .box 89 [.mp 5]), (5, .map (encM V.str V.bool v1))]) (v := .vs 1 (List.map EV.encS (sortKeys v1))) [3001200, 5] (by kernel_rfl) (by kernel_rfl) rfl (by kernel_rfl) (loc_g (R := []) [.fn 128 [] [.ptr 3001200 0 0]] [(1000000, 3001200), (1000001, 5)] (callV_func hbv106 (by kernel_rfl)) (w_sorted_keys v1 g1) (.cons (.same _) .nil) (by kernel_rfl) (by kernel_rfl) (by kernel_rfl) (by kernel_rfl) (by kernel_rfl) (by kernel_rfl) (by kernel_rfl) (by kernel_rfl)) (by kernel_rfl) ?_
  refine o_runs 1 [(2, .vs 1 (List.map EV.encS (sortKeys v1)))] (by kernel_rfl) ?_
  refine ov_nil (nrm_thenV (v_ret ?_))
  obtain rfl := si hs
  exact fin_ret (by kernel_rfl) (by kernel_rfl) (by kernel_rfl)
theorem w_define_newGraph (l : (List Def)) (r : (List Def) × (List (List Int))) (hs : s_define_newGraph l = some r) : FnA Tryz.prog 62 [.vs 6 (List.map enc_Def l)] [] (.ptr 31 0 0) [(31, .box 149 [.vs 6 (List.map enc_Def r.1), .sl 1 29 ((r.2).length) 0 ((r.2).length)]), (29, .row 49 1 0 (List.map (encL 1 EV.encI) r.2))] := by
 refine fnA_of_wp (N := 73) Tryz.func62 rfl rfl rfl fun cK0 => ?_
 unfold s_define_newGraph at hs
 refine v_same (ρ' := [(0, .vs 6 (List.map enc_Def l))]) rfl rfl ?_
 refine v_seq (vr_text (o_runs 1 [(2, .nilp)] (by kernel_rfl) ?_))
 refine ov_nil (nrm_thenV (v_seq (vr_text (o_runh 2 [(3, .mp 13), (13, .mp 13)] [(13, .map (encM V.str (V.int .i64) []))] (by kernel_rfl) ?_))))
 refine ov_nil (nrm_thenV (v_seq (v_seq (vr_text (o_runs 1 [(14, .vs 6 (List.map enc_Def l))] (by kernel_rfl) ?_)))))
 refine o_pure (v := .int .i64 (List.length l : Int)) (by kernel_rfl) (by kernel_rfl) (loc_lenVs (sz := 6) (els := (List.map enc_Def l)) (by kernel_rfl) (by kernel_rfl) (List.length_map ..)) ?_
 refine o_runs 1 [(16, .int .i64 0)] (by kernel_rfl) ?_
 refine ov_nil (nrm_thenV ?_)
 obtain ⟨z1, hs, hk1⟩ := bind_some hs
 refine v_join (S := (List ((List UInt8) × Int))) (fun u => u = z1) (fun u => [(0, .vs 6 (List.map enc_Def l)), (3, .mp 13)]) (fun u => [(13, .map (encM V.str (V.int .i64) u))]) ?_ (fun v1 hz => ?_)
 ·refine v_block ?_
  refine v_fuel (S := Int × (List ((List UInt8) × Int))) (fun u => [(0, .vs 6 (List.map enc_Def l)), (3, .mp 13), (14, .vs 6 (List.map enc_Def l)), (15, .int .i64 (List.length l : Int)), (16, .int .i64 u.1)]) (fun u => [(13, .map (encM V.str (V.int .i64) u.2))]) (s_define_newGraph_L1 l) (fun _ => rfl) KK (0, []) hs (cut_of [0, 3, 14, 15, 16] [13] (by kernel_rfl) (by kernel_rfl) (by kernel_rfl)) (fun K1 q1 hs => ?_)
  rw [s_define_newGraph_L1] at hs
  show WpV cK0 Tryz.prog none 73 _ _ [(0, .vs 6 (List.map enc_Def l)), (3, .mp 13), (14, .vs 6 (List.map enc_Def l)), (15, .int .i64 (List.length l : Int)), (16, .int .i64 q1.1)] [(13, .map (encM V.str (V.int .i64) q1.2))] []
  refine v_seq (vr_text (o_runs 1 [(17, .bool (decide (q1.1 < (List.length l : Int))))] (by kernel_rfl) ?_))
  refine ov_nil (nrm_thenV (v_seq ?_))
  refine v_cond (decide (q1.1 < (List.length l : Int))) (by kernel_rfl) (fun h1 => ?_) (fun h1 => ?_)
  ·replace hs := bif_t h1 hs
   refine v_skip (nrm_thenV (v_seq (v_block (v_seq (vr_text (o_runs 1 [(18, .int .i64 q1.1)] (by kernel_rfl) ?_))))))
   obtain ⟨x1, g1, hs⟩ := bind_some hs; obtain ⟨g1a, g1b, g1c⟩ := idx_some g1
   refine o_pure (v := .vp (enc_Def x1) 0) (by kernel_rfl) (by kernel_rfl) (loc_indexVs (e := 93) (sz := 6) (k := .i64) (els := (List.map enc_Def l)) (cs := (enc_Def x1)) (by kernel_rfl) (by kernel_rfl) (by kernel_rfl) g1a (by rw [g1c]; exact map_get _ (by omega))) ?_
   refine o_runh 4 [(4, .int .i64 q1.1), (5, .ptr 5 0 0), (20, .agg (enc_Def x1))] [(5, .box 93 [.str x1.Name, .int .i64 x1.Body.Op, .int .i64 x1.Body.N, .str x1.Body.S, .str x1.Body.Key, .vs 5 (encs_Expr x1.Body.Args)]), (13, .map (encM V.str (V.int .i64) q1.2))] (by kernel_rfl) ?_
   refine ov_nil (nrm_thenV (vr_text (o_runs 4 [(24, .int .i64 q1.1), (23, .str x1.Name), (22, .ptr 5 0 0), (21, .mp 13)] (by kernel_rfl) ?_)))
   refine o_loc (F := [(13, .map (encM V.str (V.int .i64) q1.2))]) (F' := [(13, .map (encM V.str (V.int .i64) (mset x1.Name q1.1 q1.2)))]) (v := .no) [13] (by kernel_rfl) (by kernel_rfl) rfl (by kernel_rfl) (loc_mapUpdate (et := 3) (f := V.str) (g := (V.int .i64)) (l := q1.2) (a := x1.Name) (c := q1.1) (by kernel_rfl) kok9 (by kernel_rfl) (by kernel_rfl) (by kernel_rfl) (by kernel_rfl) (by kernel_rfl)) (by kernel_rfl) ?_
   refine ov_nil (nrm_blkV (nrm_thenV (vr_text (o_runs 2 [(16, .int .i64 (w64 (q1.1 + 1))), (25, .int .i64 (w64 (q1.1 + 1)))] (by kernel_rfl) ?_))))
   refine ov_nil (nrm_fuel ((w64 (q1.1 + 1)), (mset x1.Name q1.1 q1.2)) hs ?_)
   exact cut_of [0, 3, 14, 15, 16] [13] (by kernel_rfl) (by kernel_rfl) (by kernel_rfl)
  ·replace hs := bif_f h1 hs
   refine v_exit (exit_thenV (exit_fuel ?_))
   refine exit_blkV ?_
   obtain rfl := si hs
   refine nrm_join q1.2 rfl ?_
   exact cut_of [0, 3] [13] (by kernel_rfl) (by kernel_rfl) (by kernel_rfl)
 ·subst hz; clear hs; have hs := hk1; clear hk1
  refine nrm_thenV (v_seq (vr_text (o_runs 2 [(27, .vs 6 (List.map enc_Def l)), (26, .vs 6 (List.map enc_Def l))] (by kernel_rfl) ?_)))
  refine o_pure (v := .int .i64 (List.length l : Int)) (by kernel_rfl) (by kernel_rfl) (loc_lenVs (sz := 6) (els := (List.map enc_Def l)) (by kernel_rfl) (by kernel_rfl) (List.length_map ..)) ?_
  obtain ⟨_, g2, hs⟩ := bind_some hs; obtain ⟨g2a, g2b, g2c⟩ := grd_some g2
  refine o_loc (F := []) (F' := [(29, .row 49 1 0 (List.map (encL 1 EV.encI) (List.replicate (Int.toNat (List.length l : Int)) ([] : (List Int)))))]) (v := .sl 1 29 (((List.replicate (Int.toNat (List.length l : Int)) ([] : (List Int)))).length) 0 (((List.replicate (Int.toNat (List.length l : Int)) ([] : (List Int)))).length)) [] (by kernel_rfl) (by kernel_rfl) rfl (by kernel_rfl) (loc_makeSliceT (L := ((List.replicate (Int.toNat (List.length l : Int)) ([] : (List Int)))).length) (e := 49) (sz := 1) (bytes := 24) (q := (List.length l : Int)) (k := .i64) (k2 := .i64) (cs := [.nils]) (cs2 := [.vs 1 (List.map EV.encI [])]) (by kernel_rfl) (by kernel_rfl) (by kernel_rfl) (by kernel_rfl) (by kernel_rfl) g2a g2b g2c (List.map_replicate (f := (encL 1 EV.encI))).symm (List.length_replicate ..) (fun _ _ h => nils_row h)) (by kernel_rfl) ?_
  refine o_runh 3 [(6, .ptr 31 0 0), (31, .ptr 31 0 0), (30, .agg [.vs 6 (List.map enc_Def l), .sl 1 29 (((List.replicate (Int.toNat (List.length l : Int)) ([] : (List Int)))).length) 0 (((List.replicate (Int.toNat (List.length l : Int)) ([] : (List Int)))).length)])] [(31, .box 149 [.vs 6 (List.map enc_Def l), .sl 1 29 (((List.replicate (Int.toNat (List.length l : Int)) ([] : (List Int)))).length) 0 (((List.replicate (Int.toNat (List.length l : Int)) ([] : (List Int)))).length)]), (29, .row 49 1 0 (List.map (encL 1 EV.encI) (List.replicate (Int.toNat (List.length l : Int)) ([] : (List Int))))), (13, .map (encM V.str (V.int .i64) v1))] (by kernel_rfl) ?_
  refine ov_nil (nrm_thenV (v_seq (v_seq (vr_text (o_runs 1 [(32, .vs 6 (List.map enc_Def l))] (by kernel_rfl) ?_)))))
  refine o_pure (v := .int .i64 (List.length l : Int)) (by kernel_rfl) (by kernel_rfl) (loc_lenVs (sz := 6) (els := (List.map enc_Def l)) (by kernel_rfl) (by kernel_rfl) (List.length_map ..)) ?_
  refine o_runs 1 [(34, .int .i64 0)] (by kernel_rfl) ?_
  refine ov_nil (nrm_thenV ?_)
  obtain ⟨z2, hs, hk2⟩ := bind_some hs
  refine v_join (S := Unit) (fun u => u = z2) (fun u => [(6, .ptr 31 0 0)]) (fun u => [(31, .box 149 [.vs 6 (List.map enc_Def l), .sl 1 29 (((List.replicate (Int.toNat (List.length l : Int)) ([] : (List Int)))).length) 0 (((List.replicate (Int.toNat (List.length l : Int)) ([] : (List Int)))).length)]), (29, .row 49 1 0 (List.map (encL 1 EV.encI) (List.replicate (Int.toNat (List.length l : Int)) ([] : (List Int)))))]) ?_ (fun v2 hz => ?_)
  ·refine v_block ?_
   refine v_fuel (S := Int) (fun u => [(3, .mp 13), (6, .ptr 31 0 0), (32, .vs 6 (List.map enc_Def l)), (33, .int .i64 (List.length l : Int)), (34, .int .i64 u)]) (fun u => [(31, .box 149 [.vs 6 (List.map enc_Def l), .sl 1 29 (((List.replicate (Int.toNat (List.length l : Int)) ([] : (List Int)))).length) 0 (((List.replicate (Int.toNat (List.length l : Int)) ([] : (List Int)))).length)]), (29, .row 49 1 0 (List.map (encL 1 EV.encI) (List.replicate (Int.toNat (List.length l : Int)) ([] : (List Int))))), (13, .map (encM V.str (V.int .i64) v1))]) (s_define_newGraph_L2 l v1) (fun _ => rfl) KK 0 hs (cut_of [3, 6, 32, 33, 34] [31, 29, 13] (by kernel_rfl) (by kernel_rfl) (by kernel_rfl)) (fun K2 q2 hs => ?_)
   rw [s_define_newGraph_L2] at hs
   show WpV cK0 Tryz.prog none 73 _ _ [(3, .mp 13), (6, .ptr 31 0 0), (32, .vs 6 (List.map enc_Def l)), (33, .int .i64 (List.length l : Int)), (34, .int .i64 q2)] [(31, .box 149 [.vs 6 (List.map enc_Def l), .sl 1 29 (((List.replicate (Int.toNat (List.length l : Int)) ([] : (List Int)))).length) 0 (((List.replicate (Int.toNat (List.length l : Int)) ([] : (List Int)))).length)]), (29, .row 49 1 0 (List.map (encL 1 EV.encI) (List.replicate (Int.toNat (List.length l : Int)) ([] : (List Int))))), (13, .map (encM V.str (V.int .i64) v1))] []
   refine v_seq (vr_text (o_runs 1 [(35, .bool (decide (q2 < (List.length l : Int))))] (by kernel_rfl) ?_))
   refine ov_nil (nrm_thenV (v_seq ?_))
   refine v_cond (decide (q2 < (List.length l : Int))) (by kernel_rfl) (fun h2 => ?_) (fun h2 => ?_)
   ·replace hs := bif_t h2 hs
    refine v_skip (nrm_thenV (v_seq (v_block (v_seq (vr_text (o_runs 1 [(36, .int .i64 q2)] (by kernel_rfl) ?_))))))
    obtain ⟨x2, g3, hs⟩ := bind_some hs; obtain ⟨g3a, g3b, g3c⟩ := idx_some g3
    refine o_pure (v := .vp (enc_Def x2) 0) (by kernel_rfl) (by kernel_rfl) (loc_indexVs (e := 93) (sz := 6) (k := .i64) (els := (List.map enc_Def l)) (cs := (enc_Def x2)) (by kernel_rfl) (by kernel_rfl) (by kernel_rfl) g3a (by rw [g3c]; exact map_get _ (by omega))) ?_
    refine o_runh 4 [(7, .int .i64 q2), (8, .ptr 8 0 0), (38, .agg (enc_Def x2))] [(8, .box 93 [.str x2.Name, .int .i64 x2.Body.Op, .int .i64 x2.Body.N, .str x2.Body.S, .str x2.Body.Key, .vs 5 (encs_Expr x2.Body.Args)]), (31, .box 149 [.vs 6 (List.map enc_Def l), .sl 1 29 (((List.replicate (Int.toNat (List.length l : Int)) ([] : (List Int)))).length) 0 (((List.replicate (Int.toNat (List.length l : Int)) ([] : (List Int)))).length)]), (29, .row 49 1 0 (List.map (encL 1 EV.encI) (List.replicate (Int.toNat (List.length l : Int)) ([] : (List Int))))), (13, .map (encM V.str (V.int .i64) v1))] (by kernel_rfl) ?_
    refine ov_nil (nrm_thenV (v_seq (vr_text (o_runs 2 [(40, .agg (enc_Expr x2.Body)), (39, .ptr 8 0 1)] (by kernel_rfl) ?_))))
    obtain ⟨y1, c1, hs⟩ := bind_some hs
    refine o_pure (v := .vs 1 (List.map EV.encS y1)) (by kernel_rfl) (by kernel_rfl) (loc_gcall0 (callV_func hbv84 (by kernel_rfl)) (w_define_Names x2.Body _ c1) (by kernel_rfl)) ?_
    refine o_pure (v := .int .i64 (List.length y1 : Int)) (by kernel_rfl) (by kernel_rfl) (loc_lenVs (sz := 1) (els := (List.map EV.encS y1)) (by kernel_rfl) (by kernel_rfl) (List.length_map ..)) ?_
    refine o_runs 1 [(43, .int .i64 0)] (by kernel_rfl) ?_
    refine ov_nil (nrm_thenV ?_)
    obtain ⟨z3, hs, hk3⟩ := bind_some hs
    refine v_join (S := Unit) (fun u => u = z3) (fun u => [(3, .mp 13), (6, .ptr 31 0 0), (32, .vs 6 (List.map enc_Def l)), (33, .int .i64 (List.length l : Int)), (34, .int .i64 q2)]) (fun u => [(31, .box 149 [.vs 6 (List.map enc_Def l), .sl 1 29 (((List.replicate (Int.toNat (List.length l : Int)) ([] : (List Int)))).length) 0 (((List.replicate (Int.toNat (List.length l : Int)) ([] : (List Int)))).length)]), (29, .row 49 1 0 (List.map (encL 1 EV.encI) (List.replicate (Int.toNat (List.length l : Int)) ([] : (List Int))))), (13, .map (encM V.str (V.int .i64) v1))]) ?_ (fun v3 hz => ?_)
    ·refine v_block ?_
     refine v_fuel (S := Int) (fun u => [(3, .mp 13), (6, .ptr 31 0 0), (7, .int .i64 q2), (32, .vs 6 (List.map enc_Def l)), (33, .int .i64 (List.length l : Int)), (34, .int .i64 q2), (41, .vs 1 (List.map EV.encS y1)), (42, .int .i64 (List.length y1 : Int)), (43, .int .i64 u)]) (fun u => [(31, .box 149 [.vs 6 (List.map enc_Def l), .sl 1 29 (((List.replicate (Int.toNat (List.length l : Int)) ([] : (List Int)))).length) 0 (((List.replicate (Int.toNat (List.length l : Int)) ([] : (List Int)))).length)]), (29, .row 49 1 0 (List.map (encL 1 EV.encI) (List.replicate (Int.toNat (List.length l : Int)) ([] : (List Int))))), (13, .map (encM V.str (V.int .i64) v1))]) (s_define_newGraph_L3 v1 y1) (fun _ => rfl) KK 0 hs (cut_of [3, 6, 7, 32, 33, 34, 41, 42, 43] [31, 29, 13] (by kernel_rfl) (by kernel_rfl) (by kernel_rfl)) (fun K3 q3 hs => ?_)
     rw [s_define_newGraph_L3] at hs
     show WpV cK0 Tryz.prog none 73 _ _ [(3, .mp 13), (6, .ptr 31 0 0), (7, .int .i64 q2), (32, .vs 6 (List.map enc_Def l)), (33, .int .i64 (List.length l : Int)), (34, .int .i64 q2), (41, .vs 1 (List.map EV.encS y1)), (42, .int .i64 (List.length y1 : Int)), (43, .int .i64 q3)] [(31, .box 149 [.vs 6 (List.map enc_Def l), .sl 1 29 (((List.replicate (Int.toNat (List.length l : Int)) ([] : (List Int)))).length) 0 (((List.replicate (Int.toNat (List.length l : Int)) ([] : (List Int)))).length)]), (29, .row 49 1 0 (List.map (encL 1 EV.encI) (List.replicate (Int.toNat (List.length l : Int)) ([] : (List Int))))), (13, .map (encM V.str (V.int .i64) v1))] []
     refine v_seq (vr_text (o_runs 1 [(44, .bool (decide (q3 < (List.length y1 : Int))))] (by kernel_rfl) ?_))
     refine ov_nil (nrm_thenV (v_seq ?_))
     refine v_cond (decide (q3 < (List.length y1 : Int))) (by kernel_rfl) (fun h3 => ?_) (fun h3 => ?_)
     ·replace hs := bif_t h3 hs
      refine v_skip (nrm_thenV (v_seq (v_block (v_seq (vr_text ?_)))))
      obtain ⟨x3, g4, hs⟩ := bind_some hs; obtain ⟨g4a, g4b, g4c⟩ := idx_some g4
      refine o_pure (v := .vp [.str x3] 0) (by kernel_rfl) (by kernel_rfl) (loc_indexVs (e := 9) (sz := 1) (k := .i64) (els := (List.map EV.encS y1)) (cs := (EV.encS x3)) (by kernel_rfl) (by kernel_rfl) (by kernel_rfl) g4a (by rw [g4c]; exact map_get _ (by omega))) ?_
      refine o_runs 2 [(10, .str x3), (46, .str x3)] (by kernel_rfl) ?_
      refine ov_nil (nrm_thenV (v_seq (vr_text (o_runs 2 [(49, .str x3), (48, .mp 13)] (by kernel_rfl) ?_))))
      refine o_loc (F := [(13, .map (encM V.str (V.int .i64) v1))]) (F' := [(13, .map (encM V.str (V.int .i64) v1))]) (v := .tup [.int .i64 (Option.getD (mfind x3 v1) 0), .bool (Option.isSome (mfind x3 v1))]) [13] (by kernel_rfl) (by kernel_rfl) rfl (by kernel_rfl) (loc_lookup (et := 3) (f := V.str) (g := (V.int .i64)) (l := v1) (a := x3) (z := 0) (zv := .int .i64 0) true (by kernel_rfl) kok9 (by kernel_rfl) (fun _ _ _ h => h) (by kernel_rfl) (by kernel_rfl)) (by kernel_rfl) ?_
      refine o_runs 5 [(12, .bool (Option.isSome (mfind x3 v1))), (11, .int .i64 (Option.getD (mfind x3 v1) 0)), (52, .bool (Option.isSome (mfind x3 v1))), (51, .int .i64 (Option.getD (mfind x3 v1) 0)), (47, .tup [.int .i64 (Option.getD (mfind x3 v1) 0), .bool (Option.isSome (mfind x3 v1))])] (by kernel_rfl) ?_
      refine ov_nil (nrm_thenV (v_seq (vr_text (o_runs 1 [(53, .bool (Option.isSome (mfind x3 v1)))] (by kernel_rfl) ?_))))
      refine ov_nil (nrm_thenV ?_)
      refine v_cond (Option.isSome (mfind x3 v1)) (by kernel_rfl) (fun h4 => ?_) (fun h4 => ?_)
      ·replace hs := bif_t h4 hs
       cases hs
      ·replace hs := bif_f h4 hs
       refine v_skip (nrm_blkV (nrm_thenV (vr_text (o_runs 2 [(43, .int .i64 (w64 (q3 + 1))), (70, .int .i64 (w64 (q3 + 1)))] (by kernel_rfl) ?_))))
       refine ov_nil (nrm_fuel (w64 (q3 + 1)) hs ?_)
       exact cut_of [3, 6, 7, 32, 33, 34, 41, 42, 43] [31, 29, 13] (by kernel_rfl) (by kernel_rfl) (by kernel_rfl)
     ·replace hs := bif_f h3 hs
      refine v_exit (exit_thenV (exit_fuel ?_))
      refine exit_blkV ?_
      obtain rfl := si hs
      refine nrm_join () rfl ?_
      exact cut_of [3, 6, 32, 33, 34] [31, 29, 13] (by kernel_rfl) (by kernel_rfl) (by kernel_rfl)
    ·subst hz; clear hs; have hs := hk3; clear hk3
     refine nrm_blkV (nrm_thenV (vr_text (o_runs 2 [(34, .int .i64 (w64 (q2 + 1))), (71, .int .i64 (w64 (q2 + 1)))] (by kernel_rfl) ?_)))
     refine ov_nil (nrm_fuel (w64 (q2 + 1)) hs ?_)
     exact cut_of [3, 6, 32, 33, 34] [31, 29, 13] (by kernel_rfl) (by kernel_rfl) (by kernel_rfl)
   ·replace hs := bif_f h2 hs
    refine v_exit (exit_thenV (exit_fuel ?_))
    refine exit_blkV ?_
    obtain rfl := si hs
    refine nrm_join () rfl ?_
    exact cut_of [6] [31, 29] (by kernel_rfl) (by kernel_rfl) (by kernel_rfl)
  ·subst hz; clear hs; have hs := hk2; clear hk2
   refine nrm_thenV (v_seq (vr_text (o_runs 2 [(2, .ptr 31 0 0), (72, .ptr 31 0 0)] (by kernel_rfl) ?_)))
   refine ov_nil (nrm_thenV (v_ret ?_))
   obtain rfl := si hs
   exact fin_ret (by kernel_rfl) (by kernel_rfl) (by kernel_rfl)
theorem w_define_graph_smallest (g_defs : (List Def)) (g_uses : (List (List Int))) (r : (List Def) × (List (List Int))) (hs : s_define_graph_smallest g_defs g_uses = some r) : FnA Tryz.prog 63 [.ptr 1000000 0 0] [(1000000, .box 149 [.vs 6 (List.map enc_Def g_defs), .sl 1 1000001 ((g_uses).length) 0 ((g_uses).length)]), (1000001, .row 49 1 0 (List.map (encL 1 EV.encI) g_uses))] (.nils) [(1000000, .box 149 [.vs 6 (List.map enc_Def r.1), .sl 1 1000001 ((r.2).length) 0 ((r.2).length)]), (1000001, .row 49 1 0 (List.map (encL 1 EV.encI) r.2))] := by
 refine fnA_of_wp (N := 44) Tryz.func63 rfl rfl rfl fun cK0 => ?_
 unfold s_define_graph_smallest at hs
 refine v_same (ρ' := [(0, .ptr 1000000 0 0)]) rfl rfl ?_
 refine v_seq (vr_text (o_runs 1 [(2, .nils)] (by kernel_rfl) ?_))
 refine ov_nil (nrm_thenV (v_seq (vr_text (o_runs 1 [(3, .nils)] (by kernel_rfl) ?_))))
 refine ov_nil (nrm_thenV (v_seq (v_seq (vr_text (o_runs 4 [(9, .vs 6 (List.map enc_Def g_defs)), (8, .ptr 1000000 0 0), (7, .ptr 1000000 0 0), (6, .ptr 1000000 0 0)] (by kernel_rfl) ?_)))))
 refine o_pure (v := .int .i64 (List.length g_defs : Int)) (by kernel_rfl) (by kernel_rfl) (loc_lenVs (sz := 6) (els := (List.map enc_Def g_defs)) (by kernel_rfl) (by kernel_rfl) (List.length_map ..)) ?_
 refine o_runs 1 [(11, .int .i64 0)] (by kernel_rfl) ?_
 refine ov_nil (nrm_thenV ?_)
 obtain ⟨z1, hs, hk1⟩ := bind_some hs
 refine v_join (S := Unit) (fun u => u = z1) (fun u => [(3, .nils)]) (fun u => [(1000000, .box 149 [.vs 6 (List.map enc_Def g_defs), .sl 1 1000001 ((g_uses).length) 0 ((g_uses).length)]), (1000001, .row 49 1 0 (List.map (encL 1 EV.encI) g_uses))]) ?_ (fun v1 hz => ?_)
 ·refine v_block ?_
  refine v_fuel (S := Unit) (fun u => [(0, .ptr 1000000 0 0), (3, .nils), (10, .int .i64 (List.length g_defs : Int)), (11, .int .i64 0)]) (fun u => [(1000000, .box 149 [.vs 6 (List.map enc_Def g_defs), .sl 1 1000001 ((g_uses).length) 0 ((g_uses).length)]), (1000001, .row 49 1 0 (List.map (encL 1 EV.encI) g_uses))]) (s_define_graph_smallest_L1 g_defs) (fun _ => rfl) KK () hs (cut_of [0, 3, 10, 11] [1000000, 1000001] (by kernel_rfl) (by kernel_rfl) (by kernel_rfl)) (fun K1 q1 hs => ?_)
  rw [s_define_graph_smallest_L1] at hs
  show WpV cK0 Tryz.prog none 44 _ _ [(0, .ptr 1000000 0 0), (3, .nils), (10, .int .i64 (List.length g_defs : Int)), (11, .int .i64 0)] [(1000000, .box 149 [.vs 6 (List.map enc_Def g_defs), .sl 1 1000001 ((g_uses).length) 0 ((g_uses).length)]), (1000001, .row 49 1 0 (List.map (encL 1 EV.encI) g_uses))] []
  refine v_seq (vr_text (o_runs 1 [(12, .bool (decide (0 < (List.length g_defs : Int))))] (by kernel_rfl) ?_))
  refine ov_nil (nrm_thenV (v_seq ?_))
  refine v_cond (decide (0 < (List.length g_defs : Int))) (by kernel_rfl) (fun h1 => ?_) (fun h1 => ?_)
  ·replace hs := bif_t h1 hs
   cases hs
  ·replace hs := bif_f h1 hs
   refine v_exit (exit_thenV (exit_fuel ?_))
   refine exit_blkV ?_
   obtain rfl := si hs
   refine nrm_join () rfl ?_
   exact cut_of [3] [1000000, 1000001] (by kernel_rfl) (by kernel_rfl) (by kernel_rfl)
 ·subst hz; clear hs; have hs := hk1; clear hk1
  refine nrm_thenV (v_seq (vr_text (o_runs 2 [(2, .nils), (43, .nils)] (by kernel_rfl) ?_)))
  refine ov_nil (nrm_thenV (v_ret ?_))
  obtain rfl := si hs
  exact fin_ret (by kernel_rfl) (by kernel_rfl) (by kernel_rfl)
theorem w_define_graph_order_1 (k : Int) (a1 : (List Bool)) (r : Bool × (List Bool)) (hs : s_define_graph_order_1 k a1 = some r) : FnA Tryz.prog 88 [.int .i64 k, .ptr 1000000 0 0] [(1000000, .box 153 [.sl 1 1000001 ((a1).length) 0 ((a1).length)]), (1000001, .row 4 1 0 (List.map EV.encB a1))] (.bool r.1) [(1000001, .row 4 1 0 (List.map EV.encB r.2)), (1000000, .box 153 [.sl 1 1000001 ((r.2).length) 0 ((r.2).length)])] := by
 refine fnA_of_wp (N := 9) Tryz.func88 rfl rfl rfl fun cK0 => ?_
 unfold s_define_graph_order_1 at hs
 refine v_same (ρ' := [(0, .int .i64 k), (1, .ptr 1000000 0 0)]) rfl rfl ?_
 refine v_seq (vr_text (o_runs 1 [(3, .bool false)] (by kernel_rfl) ?_))
 refine ov_nil (nrm_thenV (v_seq (vr_text (o_runs 2 [(5, .int .i64 k), (4, .sl 1 1000001 ((a1).length) 0 ((a1).length))] (by kernel_rfl) ?_))))
 obtain ⟨_, g1, hs⟩ := bind_some hs; obtain ⟨g1a, g1b⟩ := grd_some g1
 refine o_pure (v := .ptr 1000001 ((a1).length) ((Int.toNat k) * 1 + 0)) (by kernel_rfl) (by kernel_rfl) (loc_indexRowT (e := 4) (sz := 1) (kk := 1000001) (L := (a1).length) (n := (a1).length) (k := .i64) (i := k) (by kernel_rfl) (by kernel_rfl) (by kernel_rfl) g1a g1b) ?_
 obtain ⟨e1, he1, hs⟩ := bind_some hs; replace he1 := Option.some.inj he1
 refine o_loc (F := [(1000001, .row 4 1 0 (List.map EV.encB a1))]) (F' := [(1000001, .row 4 1 0 (List.map EV.encB a1))]) (v := .bool e1) [1000001] (by kernel_rfl) (by kernel_rfl) rfl (by kernel_rfl) (loc_loadRow (L := (a1).length) (off := (Int.toNat k) * 1 + 0) (els := (List.map EV.encB a1)) (cs := [.bool e1]) (Int.toNat k) 0 (by kernel_rfl) (by first | (simp only [List.length_map, List.length_set]; done) | rfl) rfl (by rw [← he1]; exact map_get _ (by first | omega | (simp only [List.length_set]; omega))) (by kernel_rfl)) (by kernel_rfl) ?_
 refine o_runs 2 [(3, .bool (!e1)), (8, .bool (!e1))] (by kernel_rfl) ?_
 refine ov_nil (nrm_thenV (v_ret ?_))
 obtain rfl := si hs
 exact fin_ret (by kernel_rfl) (by kernel_rfl) (by kernel_rfl)
theorem w_slices_IndexFunc (s : (List Int)) (k : (List Bool)) (r : Int × (List Bool)) (hs : s_slices_IndexFunc s k = some r) : FnA Tryz.prog 110 [.vs 1 (List.map EV.encI s), .fn 88 [] [.ptr 1000000 0 0]] [(1000000, .box 153 [.sl 1 1000001 ((k).length) 0 ((k).length)]), (1000001, .row 4 1 0 (List.map EV.encB k))] (.int .i64 r.1) [(1000001, .row 4 1 0 (List.map EV.encB r.2)), (1000000, .box 153 [.sl 1 1000001 ((r.2).length) 0 ((r.2).length)])] := by
 refine fnA_of_wp (N := 19) Tryz.func110 rfl rfl rfl fun cK0 => ?_
 unfold s_slices_IndexFunc at hs
 refine v_same (ρ' := [(0, .vs 1 (List.map EV.encI s)), (1, .fn 88 [] [.ptr 1000000 0 0])]) rfl rfl ?_
 refine v_seq (vr_text (o_runs 1 [(4, .int .i64 0)] (by kernel_rfl) ?_))
 refine ov_nil (nrm_thenV (v_seq (v_seq (vr_text (o_runs 1 [(6, .vs 1 (List.map EV.encI s))] (by kernel_rfl) ?_)))))
 refine o_pure (v := .int .i64 (List.length s : Int)) (by kernel_rfl) (by kernel_rfl) (loc_lenVs (sz := 1) (els := (List.map EV.encI s)) (by kernel_rfl) (by kernel_rfl) (List.length_map ..)) ?_
 refine o_runs 1 [(8, .int .i64 0)] (by kernel_rfl) ?_
 refine ov_nil (nrm_thenV ?_)
 obtain ⟨z1, hs, hk1⟩ := bind_some hs
 refine v_join (S := (List Bool)) (fun u => z1 = .inr u) (fun u => []) (fun u => [(1000000, .box 153 [.sl 1 1000001 ((u).length) 0 ((u).length)]), (1000001, .row 4 1 0 (List.map EV.encB u))]) ?_ (fun v1 hz => ?_)
 ·refine v_block ?_
  refine v_fuel (S := Int × (List Bool)) (fun u => [(0, .vs 1 (List.map EV.encI s)), (1, .fn 88 [] [.ptr 1000000 0 0]), (7, .int .i64 (List.length s : Int)), (8, .int .i64 u.1)]) (fun u => [(1000000, .box 153 [.sl 1 1000001 ((u.2).length) 0 ((u.2).length)]), (1000001, .row 4 1 0 (List.map EV.encB u.2))]) (s_slices_IndexFunc_L1 s) (fun _ => rfl) KK (0, k) hs (cut_of [0, 1, 7, 8] [1000000, 1000001] (by kernel_rfl) (by kernel_rfl) (by kernel_rfl)) (fun K1 q1 hs => ?_)
  rw [s_slices_IndexFunc_L1] at hs
  show WpV cK0 Tryz.prog none 19 _ _ [(0, .vs 1 (List.map EV.encI s)), (1, .fn 88 [] [.ptr 1000000 0 0]), (7, .int .i64 (List.length s : Int)), (8, .int .i64 q1.1)] [(1000000, .box 153 [.sl 1 1000001 ((q1.2).length) 0 ((q1.2).length)]), (1000001, .row 4 1 0 (List.map EV.encB q1.2))] []
  refine v_seq (vr_text (o_runs 1 [(9, .bool (decide (q1.1 < (List.length s : Int))))] (by kernel_rfl) ?_))
  refine ov_nil (nrm_thenV (v_seq ?_))
  refine v_cond (decide (q1.1 < (List.length s : Int))) (by kernel_rfl) (fun h1 => ?_) (fun h1 => ?_)
  ·replace hs := bif_t h1 hs
   refine v_skip (nrm_thenV (v_seq (v_block (v_seq (vr_text (o_runs 2 [(5, .int .i64 q1.1), (10, .int .i64 q1.1)] (by kernel_rfl) ?_))))))
   refine ov_nil (nrm_thenV (v_seq (vr_text (o_runs 3 [(13, .int .i64 q1.1), (12, .vs 1 (List.map EV.encI s)), (11, .fn 88 [] [.ptr 1000000 0 0])] (by kernel_rfl) ?_))))
   obtain ⟨x1, g1, hs⟩ := bind_some hs; obtain ⟨g1a, g1b, g1c⟩ := idx_some g1
   refine o_pure (v := .vp [.int .i64 x1] 0) (by kernel_rfl) (by kernel_rfl) (loc_indexVs (e := 3) (sz := 1) (k := .i64) (els := (List.map EV.encI s)) (cs := (EV.encI x1)) (by kernel_rfl) (by kernel_rfl) (by kernel_rfl) g1a (by rw [g1c]; exact map_get _ (by omega))) ?_
   refine o_runs 1 [(15, .int .i64 x1)] (by kernel_rfl) ?_
   obtain ⟨y1, c1, hs⟩ := bind_some hs
   refine o_loc (F := [(1000000, .box 153 [.sl 1 1000001 ((q1.2).length) 0 ((q1.2).length)]), (1000001, .row 4 1 0 (List.map EV.encB q1.2))]) (F' := [(1000001, .row 4 1 0 (List.map EV.encB y1.2)), (1000000, .box 153 [.sl 1 1000001 ((y1.2).length) 0 ((y1.2).length)])]) (v := .bool y1.1) [1000000, 1000001] (by kernel_rfl) (by kernel_rfl) rfl (by kernel_rfl) (loc_g (R := []) [.int .i64 x1, .ptr 1000000 0 0] [(1000000, 1000000), (1000001, 1000001)] (callV_val (first := []) (caps := [.ptr 1000000 0 0]) hbv88 (by kernel_rfl) (by kernel_rfl)) (w_define_graph_order_1 x1 q1.2 _ c1) (.cons (.same _) (.cons (.same _) (.nil))) (by kernel_rfl) (by kernel_rfl) (by kernel_rfl) (by kernel_rfl) (by kernel_rfl) (by kernel_rfl) (by kernel_rfl) (by kernel_rfl)) (by kernel_rfl) ?_
   refine ov_nil (nrm_thenV ?_)
   refine v_cond y1.1 (by kernel_rfl) (fun h2 => ?_) (fun h2 => ?_)
   ·replace hs := bif_t h2 hs
    refine v_seq (vr_text (o_runs 2 [(4, .int .i64 q1.1), (17, .int .i64 q1.1)] (by kernel_rfl) ?_))
    refine ov_nil (nrm_thenV (v_ret (ret_blkV (ret_thenV (ret_fuel ?_)))))
    refine ret_blkV (ret_join ?_)
    refine ret_thenV ?_
    obtain rfl := si hs
    replace hs := hk1
    obtain rfl := si hs
    exact fin_ret (by kernel_rfl) (by kernel_rfl) (by kernel_rfl)
   ·replace hs := bif_f h2 hs
    refine v_skip (nrm_blkV (nrm_thenV (vr_text (o_runs 2 [(8, .int .i64 (w64 (q1.1 + 1))), (18, .int .i64 (w64 (q1.1 + 1)))] (by kernel_rfl) ?_))))
    refine ov_nil (nrm_fuel ((w64 (q1.1 + 1)), y1.2) hs ?_)
    exact cut_of [0, 1, 7, 8] [1000000, 1000001] (by kernel_rfl) (by kernel_rfl) (by kernel_rfl)
  ·replace hs := bif_f h1 hs
   refine v_exit (exit_thenV (exit_fuel ?_))
   refine exit_blkV ?_
   obtain rfl := si hs
   refine nrm_join q1.2 rfl ?_
   exact cut_of [] [1000000, 1000001] (by kernel_rfl) (by kernel_rfl) (by kernel_rfl)
 ·subst hz; clear hs; have hs := hk1; clear hk1
  refine nrm_thenV (v_seq (vr_text (o_runs 1 [(4, .int .i64 (-1))] (by kernel_rfl) ?_)))
  refine ov_nil (nrm_thenV (v_ret ?_))
  obtain rfl := si hs
  exact fin_ret (by kernel_rfl) (by kernel_rfl) (by kernel_rfl)
theorem w_slices_ContainsFunc (s : (List Int)) (k : (List Bool)) (r : Bool × (List Bool)) (hs : s_slices_ContainsFunc s k = some r) : FnA Tryz.prog 87 [.vs 1 (List.map EV.encI s), .fn 88 [] [.ptr 1000000 0 0]] [(1000000, .box 153 [.sl 1 1000001 ((k).length) 0 ((k).length)]), (1000001, .row 4 1 0 (List.map EV.encB k))] (.bool r.1) [(1000001, .row 4 1 0 (List.map EV.encB r.2)), (1000000, .box 153 [.sl 1 1000001 ((r.2).length) 0 ((r.2).length)])] := by
 refine fnA_of_wp (N := 9) Tryz.func87 rfl rfl rfl fun cK0 => ?_
 unfold s_slices_ContainsFunc at hs
 refine v_same (ρ' := [(0, .vs 1 (List.map EV.encI s)), (1, .fn 88 [] [.ptr 1000000 0 0])]) rfl rfl ?_
 refine v_seq (vr_text (o_runs 1 [(4, .bool false)] (by kernel_rfl) ?_))
 refine ov_nil (nrm_thenV (v_seq (vr_text (o_runs 2 [(6, .fn 88 [] [.ptr 1000000 0 0]), (5, .vs 1 (List.map EV.encI s))] (by kernel_rfl) ?_))))
 obtain ⟨y1, c1, hs⟩ := bind_some hs
 refine o_loc (F := [(1000000, .box 153 [.sl 1 1000001 ((k).length) 0 ((k).length)]), (1000001, .row 4 1 0 (List.map EV.encB k))]) (F' := [(1000001, .row 4 1 0 (List.map EV.encB y1.2)), (1000000, .box 153 [.sl 1 1000001 ((y1.2).length) 0 ((y1.2).length)])]) (v := .int .i64 y1.1) [1000000, 1000001] (by kernel_rfl) (by kernel_rfl) rfl (by kernel_rfl) (loc_g (R := []) [.vs 1 (List.map EV.encI s), .fn 88 [] [.ptr 1000000 0 0]] [(1000000, 1000000), (1000001, 1000001)] (callV_func hbv110 (by kernel_rfl)) (w_slices_IndexFunc s k _ c1) (.cons (.same _) (.cons (.same _) (.nil))) (by kernel_rfl) (by kernel_rfl) (by kernel_rfl) (by kernel_rfl) (by kernel_rfl) (by kernel_rfl) (by kernel_rfl) (by kernel_rfl)) (by kernel_rfl) ?_
 refine o_runs 2 [(4, .bool (decide (y1.1 ≥ 0))), (8, .bool (decide (y1.1 ≥ 0)))] (by kernel_rfl) ?_
 refine ov_nil (nrm_thenV (v_ret ?_))
 obtain rfl := si hs
 exact fin_ret (by kernel_rfl) (by kernel_rfl) (by kernel_rfl)
theorem w_define_graph_order (g_defs : (List Def)) (g_uses : (List (List Int))) (r : (List Int) × (List Def) × (List (List Int))) (hs : s_define_graph_order g_defs g_uses = some r) : FnA Tryz.prog 64 [.ptr 1000000 0 0] [(1000000, .box 149 [.vs 6 (List.map enc_Def g_defs), .sl 1 1000001 ((g_uses).length) 0 ((g_uses).length)]), (1000001, .row 49 1 0 (List.map (encL 1 EV.encI) g_uses))] (.vs 1 (List.map EV.encI r.1)) [(1000000, .box 149 [.vs 6 (List.map enc_Def r.2.1), .sl 1 1000001 ((r.2.2).length) 0 ((r.2.2).length)]), (1000001, .row 49 1 0 (List.map (encL 1 EV.encI) r.2.2))] := by
 refine fnA_of_wp (N := 78) Tryz.func64 rfl rfl rfl fun cK0 => ?_
 unfold s_define_graph_order at hs
 refine v_same (ρ' := [(0, .ptr 1000000 0 0)]) rfl rfl ?_
 refine v_seq (vr_text (o_runs 1 [(2, .nils)] (by kernel_rfl) ?_))
 refine ov_nil (nrm_thenV (v_seq (vr_text (o_runs 4 [(12, .vs 6 (List.map enc_Def g_defs)), (11, .ptr 1000000 0 0), (10, .ptr 1000000 0 0), (9, .ptr 1000000 0 0)] (by kernel_rfl) ?_))))
 refine o_pure (v := .int .i64 (List.length g_defs : Int)) (by kernel_rfl) (by kernel_rfl) (loc_lenVs (sz := 6) (els := (List.map enc_Def g_defs)) (by kernel_rfl) (by kernel_rfl) (List.length_map ..)) ?_
 obtain ⟨_, g1, hs⟩ := bind_some hs; obtain ⟨g1a, g1b, g1c⟩ := grd_some g1
 refine o_loc (F := []) (F' := [(14, .row 4 1 0 (List.map EV.encB (List.replicate (Int.toNat (List.length g_defs : Int)) (false : Bool))))]) (v := .sl 1 14 (((List.replicate (Int.toNat (List.length g_defs : Int)) (false : Bool))).length) 0 (((List.replicate (Int.toNat (List.length g_defs : Int)) (false : Bool))).length)) [] (by kernel_rfl) (by kernel_rfl) rfl (by kernel_rfl) (loc_makeSliceT (L := ((List.replicate (Int.toNat (List.length g_defs : Int)) (false : Bool))).length) (e := 4) (sz := 1) (bytes := 1) (q := (List.length g_defs : Int)) (k := .i64) (k2 := .i64) (cs := [.bool false]) (cs2 := [.bool false]) (by kernel_rfl) (by kernel_rfl) (by kernel_rfl) (by kernel_rfl) (by kernel_rfl) g1a g1b g1c (List.map_replicate (f := EV.encB)).symm (List.length_replicate ..) (fun _ _ h => h)) (by kernel_rfl) ?_
 refine o_runh 2 [(3, .ptr 3 0 0)] [(3, .box 153 [.sl 1 14 (((List.replicate (Int.toNat (List.length g_defs : Int)) (false : Bool))).length) 0 (((List.replicate (Int.toNat (List.length g_defs : Int)) (false : Bool))).length)]), (14, .row 4 1 0 (List.map EV.encB (List.replicate (Int.toNat (List.length g_defs : Int)) (false : Bool)))), (1000000, .box 149 [.vs 6 (List.map enc_Def g_defs), .sl 1 1000001 ((g_uses).length) 0 ((g_uses).length)]), (1000001, .row 49 1 0 (List.map (encL 1 EV.encI) g_uses))] (by kernel_rfl) ?_
 refine ov_nil (nrm_thenV (v_seq (vr_text (o_runs 1 [(4, .nils)] (by kernel_rfl) ?_))))
 refine ov_nil (nrm_thenV (v_seq (v_seq (vr_text (o_runs 4 [(18, .vs 6 (List.map enc_Def g_defs)), (17, .ptr 1000000 0 0), (16, .ptr 1000000 0 0), (15, .ptr 1000000 0 0)] (by kernel_rfl) ?_)))))
 refine o_pure (v := .int .i64 (List.length g_defs : Int)) (by kernel_rfl) (by kernel_rfl) (loc_lenVs (sz := 6) (els := (List.map enc_Def g_defs)) (by kernel_rfl) (by kernel_rfl) (List.length_map ..)) ?_
 refine o_runs 1 [(20, .int .i64 0)] (by kernel_rfl) ?_
 refine ov_nil (nrm_thenV ?_)
 obtain ⟨z1, hs, hk1⟩ := bind_some hs
 refine v_join (S := (List Int)) (fun u => u = z1) (fun u => [(4, .sl 1 2000072 ((u).length) 0 ((u).length))]) (fun u => [(1000000, .box 149 [.vs 6 (List.map enc_Def g_defs), .sl 1 1000001 ((g_uses).length) 0 ((g_uses).length)]), (1000001, .row 49 1 0 (List.map (encL 1 EV.encI) g_uses)), (2000072, .row 3 1 0 (List.map EV.encI u))]) ?_ (fun v1 hz => ?_)
 ·refine v_block ?_
  refine v_fuel (S := Int × (List Bool) × (List Int)) (fun u => [(0, .ptr 1000000 0 0), (3, .ptr 3 0 0), (4, .sl 1 2000072 ((u.2.2).length) 0 ((u.2.2).length)), (19, .int .i64 (List.length g_defs : Int)), (20, .int .i64 u.1)]) (fun u => [(3, .box 153 [.sl 1 14 ((u.2.1).length) 0 ((u.2.1).length)]), (14, .row 4 1 0 (List.map EV.encB u.2.1)), (1000000, .box 149 [.vs 6 (List.map enc_Def g_defs), .sl 1 1000001 ((g_uses).length) 0 ((g_uses).length)]), (1000001, .row 49 1 0 (List.map (encL 1 EV.encI) g_uses)), (2000072, .row 3 1 0 (List.map EV.encI u.2.2))]) (s_define_graph_order_L1 g_defs g_uses) (fun _ => rfl) KK (0, (List.replicate (Int.toNat (List.length g_defs : Int)) (false : Bool)), []) hs (Cut.trans (cut_nilRow 4 2000072 3 1 rfl (by kernel_rfl) (by kernel_rfl)) (cut_of [0, 3, 4, 19, 20] [3, 14, 1000000, 1000001, 2000072] (by kernel_rfl) (by kernel_rfl) (by kernel_rfl))) (fun K1 q1 hs => ?_)
  rw [s_define_graph_order_L1] at hs
  show WpV cK0 Tryz.prog none 78 _ _ [(0, .ptr 1000000 0 0), (3, .ptr 3 0 0), (4, .sl 1 2000072 ((q1.2.2).length) 0 ((q1.2.2).length)), (19, .int .i64 (List.length g_defs : Int)), (20, .int .i64 q1.1)] [(3, .box 153 [.sl 1 14 ((q1.2.1).length) 0 ((q1.2.1).length)]), (14, .row 4 1 0 (List.map EV.encB q1.2.1)), (1000000, .box 149 [.vs 6 (List.map enc_Def g_defs), .sl 1 1000001 ((g_uses).length) 0 ((g_uses).length)]), (1000001, .row 49 1 0 (List.map (encL 1 EV.encI) g_uses)), (2000072, .row 3 1 0 (List.map EV.encI q1.2.2))] []
  refine v_seq (vr_text (o_runs 1 [(21, .bool (decide (q1.1 < (List.length g_defs : Int))))] (by kernel_rfl) ?_))
  refine ov_nil (nrm_thenV (v_seq ?_))
  refine v_cond (decide (q1.1 < (List.length g_defs : Int))) (by kernel_rfl) (fun h1 => ?_) (fun h1 => ?_)
  ·replace hs := bif_t h1 hs
   refine v_skip (nrm_thenV (v_seq (v_block (v_seq (vr_text (o_runs 1 [(5, .int .i64 (-1))] (by kernel_rfl) ?_))))))
   refine ov_nil (nrm_thenV (v_seq (v_seq (vr_text (o_runs 6 [(27, .int .i64 0), (26, .int .i64 ((g_uses).length : Int)), (25, .sl 1 1000001 ((g_uses).length) 0 ((g_uses).length)), (24, .ptr 1000000 0 1), (23, .ptr 1000000 0 0), (22, .ptr 1000000 0 0)] (by kernel_rfl) ?_)))))
   refine ov_nil (nrm_thenV ?_)
   obtain ⟨z2, hs, hk2⟩ := bind_some hs
   refine v_join (S := Int × (List Bool)) (fun u => u = z2) (fun u => [(0, .ptr 1000000 0 0), (3, .ptr 3 0 0), (4, .sl 1 2000072 ((q1.2.2).length) 0 ((q1.2.2).length)), (5, .int .i64 u.1), (19, .int .i64 (List.length g_defs : Int)), (20, .int .i64 q1.1)]) (fun u => [(3, .box 153 [.sl 1 14 ((u.2).length) 0 ((u.2).length)]), (14, .row 4 1 0 (List.map EV.encB u.2)), (1000000, .box 149 [.vs 6 (List.map enc_Def g_defs), .sl 1 1000001 ((g_uses).length) 0 ((g_uses).length)]), (1000001, .row 49 1 0 (List.map (encL 1 EV.encI) g_uses)), (2000072, .row 3 1 0 (List.map EV.encI q1.2.2))]) ?_ (fun v2 hz => ?_)
   ·refine v_block ?_
    refine v_fuel (S := Int × Int × (List Bool)) (fun u => [(0, .ptr 1000000 0 0), (3, .ptr 3 0 0), (4, .sl 1 2000072 ((q1.2.2).length) 0 ((q1.2.2).length)), (5, .int .i64 u.1), (19, .int .i64 (List.length g_defs : Int)), (20, .int .i64 q1.1), (25, .sl 1 1000001 ((g_uses).length) 0 ((g_uses).length)), (26, .int .i64 ((g_uses).length : Int)), (27, .int .i64 u.2.1)]) (fun u => [(3, .box 153 [.sl 1 14 ((u.2.2).length) 0 ((u.2.2).length)]), (14, .row 4 1 0 (List.map EV.encB u.2.2)), (1000000, .box 149 [.vs 6 (List.map enc_Def g_defs), .sl 1 1000001 ((g_uses).length) 0 ((g_uses).length)]), (1000001, .row 49 1 0 (List.map (encL 1 EV.encI) g_uses)), (2000072, .row 3 1 0 (List.map EV.encI q1.2.2))]) (s_define_graph_order_L2 g_defs g_uses) (fun _ => rfl) KK ((-1), 0, q1.2.1) hs (cut_of [0, 3, 4, 5, 19, 20, 25, 26, 27] [3, 14, 1000000, 1000001, 2000072] (by kernel_rfl) (by kernel_rfl) (by kernel_rfl)) (fun K2 q2 hs => ?_)
    rw [s_define_graph_order_L2] at hs
    show WpV cK0 Tryz.prog none 78 _ _ [(0, .ptr 1000000 0 0), (3, .ptr 3 0 0), (4, .sl 1 2000072 ((q1.2.2).length) 0 ((q1.2.2).length)), (5, .int .i64 q2.1), (19, .int .i64 (List.length g_defs : Int)), (20, .int .i64 q1.1), (25, .sl 1 1000001 ((g_uses).length) 0 ((g_uses).length)), (26, .int .i64 ((g_uses).length : Int)), (27, .int .i64 q2.2.1)] [(3, .box 153 [.sl 1 14 ((q2.2.2).length) 0 ((q2.2.2).length)]), (14, .row 4 1 0 (List.map EV.encB q2.2.2)), (1000000, .box 149 [.vs 6 (List.map enc_Def g_defs), .sl 1 1000001 ((g_uses).length) 0 ((g_uses).length)]), (1000001, .row 49 1 0 (List.map (encL 1 EV.encI) g_uses)), (2000072, .row 3 1 0 (List.map EV.encI q1.2.2))] []
    refine v_seq (vr_text (o_runs 1 [(28, .bool (decide (q2.2.1 < ((g_uses).length : Int))))] (by kernel_rfl) ?_))
    refine ov_nil (nrm_thenV (v_seq ?_))
    refine v_cond (decide (q2.2.1 < ((g_uses).length : Int))) (by kernel_rfl) (fun h2 => ?_) (fun h2 => ?_)
    ·replace hs := bif_t h2 hs
     refine v_skip (nrm_thenV (v_seq (v_block (v_seq (vr_text (o_runs 1 [(29, .int .i64 q2.2.1)] (by kernel_rfl) ?_))))))
     obtain ⟨_, g2, hs⟩ := bind_some hs; obtain ⟨g2a, g2b⟩ := grd_some g2
     refine o_pure (v := .ptr 1000001 ((g_uses).length) ((Int.toNat q2.2.1) * 1 + 0)) (by kernel_rfl) (by kernel_rfl) (loc_indexRowT (e := 49) (sz := 1) (kk := 1000001) (L := (g_uses).length) (n := (g_uses).length) (k := .i64) (i := q2.2.1) (by kernel_rfl) (by kernel_rfl) (by kernel_rfl) g2a g2b) ?_
     obtain ⟨e1, he1, hs⟩ := bind_some hs; replace he1 := Option.some.inj he1
     refine o_loc (F := [(1000001, .row 49 1 0 (List.map (encL 1 EV.encI) g_uses))]) (F' := [(1000001, .row 49 1 0 (List.map (encL 1 EV.encI) g_uses))]) (v := .vs 1 (List.map EV.encI e1)) [1000001] (by kernel_rfl) (by kernel_rfl) rfl (by kernel_rfl) (loc_loadRow (L := (g_uses).length) (off := (Int.toNat q2.2.1) * 1 + 0) (els := (List.map (encL 1 EV.encI) g_uses)) (cs := [.vs 1 (List.map EV.encI e1)]) (Int.toNat q2.2.1) 0 (by kernel_rfl) (by first | (simp only [List.length_map, List.length_set]; done) | rfl) rfl (by rw [← he1]; exact map_get _ (by first | omega | (simp only [List.length_set]; omega))) (by kernel_rfl)) (by kernel_rfl) ?_
     refine o_runs 2 [(7, .vs 1 (List.map EV.encI e1)), (6, .int .i64 q2.2.1)] (by kernel_rfl) ?_
     refine ov_nil (nrm_thenV (v_seq (vr_text (o_runs 2 [(33, .fn 88 [] [.ptr 3 0 0]), (32, .vs 1 (List.map EV.encI e1))] (by kernel_rfl) ?_))))
     obtain ⟨y1, c1, hs⟩ := bind_some hs
     refine o_loc (F := [(3, .box 153 [.sl 1 14 ((q2.2.2).length) 0 ((q2.2.2).length)]), (14, .row 4 1 0 (List.map EV.encB q2.2.2))]) (F' := [(14, .row 4 1 0 (List.map EV.encB y1.2)), (3, .box 153 [.sl 1 14 ((y1.2).length) 0 ((y1.2).length)])]) (v := .bool y1.1) [3, 14] (by kernel_rfl) (by kernel_rfl) rfl (by kernel_rfl) (loc_g (R := []) [.vs 1 (List.map EV.encI e1), .fn 88 [] [.ptr 3 0 0]] [(1000000, 3), (1000001, 14)] (callV_func hbv87 (by kernel_rfl)) (w_slices_ContainsFunc e1 q2.2.2 _ c1) (.cons (.same _) (.cons (.same _) (.nil))) (by kernel_rfl) (by kernel_rfl) (by kernel_rfl) (by kernel_rfl) (by kernel_rfl) (by kernel_rfl) (by kernel_rfl) (by kernel_rfl)) (by kernel_rfl) ?_
     refine o_runs 1 [(8, .bool y1.1)] (by kernel_rfl) ?_
     refine ov_nil (nrm_thenV (v_seq ?_))
     obtain ⟨z3, hs, hk3⟩ := bind_some hs
     refine v_join (S := Bool) (fun u => u = z3) (fun u => [(0, .ptr 1000000 0 0), (3, .ptr 3 0 0), (4, .sl 1 2000072 ((q1.2.2).length) 0 ((q1.2.2).length)), (5, .int .i64 q2.1), (6, .int .i64 q2.2.1), (19, .int .i64 (List.length g_defs : Int)), (20, .int .i64 q1.1), (25, .sl 1 1000001 ((g_uses).length) 0 ((g_uses).length)), (26, .int .i64 ((g_uses).length : Int)), (27, .int .i64 q2.2.1), (66, .bool u)]) (fun u => [(14, .row 4 1 0 (List.map EV.encB y1.2)), (3, .box 153 [.sl 1 14 ((y1.2).length) 0 ((y1.2).length)]), (1000001, .row 49 1 0 (List.map (encL 1 EV.encI) g_uses)), (1000000, .box 149 [.vs 6 (List.map enc_Def g_defs), .sl 1 1000001 ((g_uses).length) 0 ((g_uses).length)]), (2000072, .row 3 1 0 (List.map EV.encI q1.2.2))]) ?_ (fun v3 hz => ?_)
     ·refine v_draw mixedH (by kernel_rfl) ?_
      refine d_runs 2 0 [(36, .int .i64 q2.2.1), (35, .sl 1 14 ((y1.2).length) 0 ((y1.2).length))] [⟨1, [], []⟩, ⟨0, [], [3]⟩] (by kernel_rfl) (by kernel_rfl) ?_
      obtain ⟨_, g3, hs⟩ := bind_some hs; obtain ⟨g3a, g3b⟩ := grd_some g3
      refine d_pure (v := .ptr 14 ((y1.2).length) ((Int.toNat q2.2.1) * 1 + 0)) 2 rfl rfl rfl rfl (by kernel_rfl) (by kernel_rfl) (loc_indexRowT (e := 4) (sz := 1) (kk := 14) (L := (y1.2).length) (n := (y1.2).length) (k := .i64) (i := q2.2.1) (by kernel_rfl) (by kernel_rfl) (by kernel_rfl) g3a g3b) ?_
      obtain ⟨e2, he2, hs⟩ := bind_some hs; replace he2 := Option.some.inj he2
      refine d_loc (F := []) (R := [(14, .row 4 1 0 (List.map EV.encB y1.2))]) (F' := []) (v := .bool e2) 3 [] [14] rfl rfl rfl rfl (by kernel_rfl) (by kernel_rfl) (by kernel_rfl) (by kernel_rfl) (by kernel_rfl) (by kernel_rfl) (by kernel_rfl) (by kernel_rfl) (loc_loadRow (L := (y1.2).length) (off := (Int.toNat q2.2.1) * 1 + 0) (els := (List.map EV.encB y1.2)) (cs := [.bool e2]) (Int.toNat q2.2.1) 0 (by kernel_rfl) (by first | (simp only [List.length_map, List.length_set]; done) | rfl) rfl (by rw [← he2]; exact map_get _ (by first | omega | (simp only [List.length_set]; omega))) (by kernel_rfl)) ?_
      refine d_runs 2 4 [(40, .bool (!e2)), (39, .bool (!e2))] (pfp 2 5) (by kernel_rfl) (by kernel_rfl) ?_
      cases h3 : ((!e2))
      ·replace hs := bif_f h3 hs
       refine d_runs 26 6 [(66, .bool false), (65, .no), (64, .no), (63, .no), (62, .no), (61, .no), (60, .no), (59, .no), (58, .no), (57, .no), (56, .no), (55, .no), (54, .no), (53, .no), (52, .no), (51, .no), (50, .no), (49, .no), (48, .no), (47, .no), (46, .no), (45, .no), (44, .bool false), (43, .bool false), (42, .no), (41, .no)] (pfp 26 31) (by kernel_rfl) (by kernel_rfl) ?_
       refine d_nil (by kernel_rfl) ?_
       obtain rfl := si hs
       refine nrm_join false rfl ?_
       exact cut_of [0, 3, 4, 5, 6, 19, 20, 25, 26, 27, 66] [14, 3, 1000001, 1000000, 2000072] (by kernel_rfl) (by kernel_rfl) (by kernel_rfl)
      ·replace hs := bif_t h3 hs
       refine d_runs 4 6 [(44, .bool (!y1.1)), (43, .bool (!y1.1)), (42, .bool (!y1.1)), (41, .bool y1.1)] (pfp 4 9) (by kernel_rfl) (by kernel_rfl) ?_
       cases h4 : ((!y1.1))
       ·replace hs := bif_f h4 hs
        refine d_runs 22 10 [(66, .bool false), (65, .no), (64, .no), (63, .no), (62, .no), (61, .no), (60, .no), (59, .no), (58, .no), (57, .no), (56, .no), (55, .no), (54, .no), (53, .no), (52, .no), (51, .no), (50, .no), (49, .no), (48, .no), (47, .no), (46, .no), (45, .no)] (pfp 22 31) (by kernel_rfl) (by kernel_rfl) ?_
        refine d_nil (by kernel_rfl) ?_
        obtain rfl := si hs
        refine nrm_join false rfl ?_
        exact cut_of [0, 3, 4, 5, 6, 19, 20, 25, 26, 27, 66] [14, 3, 1000001, 1000000, 2000072] (by kernel_rfl) (by kernel_rfl) (by kernel_rfl)
       ·replace hs := bif_t h4 hs
        refine d_runs 3 10 [(47, .bool (decide (q2.1 < 0))), (46, .bool (decide (q2.1 < 0))), (45, .int .i64 q2.1)] (pfp 3 12) (by kernel_rfl) (by kernel_rfl) ?_
        cases h5 : ((decide (q2.1 < 0)))
        ·replace hs := bif_f h5 hs
         refine d_runs 5 13 [(52, .int .i64 q2.2.1), (51, .vs 6 (List.map enc_Def g_defs)), (50, .ptr 1000000 0 0), (49, .ptr 1000000 0 0), (48, .ptr 1000000 0 0)] [⟨17, [], []⟩, ⟨16, [], [1000000]⟩, ⟨15, [], []⟩, ⟨14, [], []⟩, ⟨13, [], []⟩] (by kernel_rfl) (by kernel_rfl) ?_
         obtain ⟨x1, g4, hs⟩ := bind_some hs; obtain ⟨g4a, g4b, g4c⟩ := idx_some g4
         refine d_pure (v := .vp (enc_Def x1) 0) 18 rfl rfl rfl rfl (by kernel_rfl) (by kernel_rfl) (loc_indexVs (e := 93) (sz := 6) (k := .i64) (els := (List.map enc_Def g_defs)) (cs := (enc_Def x1)) (by kernel_rfl) (by kernel_rfl) (by kernel_rfl) g4a (by rw [g4c]; exact map_get _ (by omega))) ?_
         refine d_runs 7 19 [(60, .int .i64 q2.1), (59, .vs 6 (List.map enc_Def g_defs)), (58, .ptr 1000000 0 0), (57, .ptr 1000000 0 0), (56, .ptr 1000000 0 0), (55, .str x1.Name), (54, .vp (enc_Def x1) 0)] [⟨25, [], []⟩, ⟨24, [], [1000000]⟩, ⟨23, [], []⟩, ⟨22, [], []⟩, ⟨21, [], []⟩, ⟨20, [], []⟩, ⟨19, [], []⟩] (by kernel_rfl) (by kernel_rfl) ?_
         obtain ⟨x2, g5, hs⟩ := bind_some hs; obtain ⟨g5a, g5b, g5c⟩ := idx_some g5
         refine d_pure (v := .vp (enc_Def x2) 0) 26 rfl rfl rfl rfl (by kernel_rfl) (by kernel_rfl) (loc_indexVs (e := 93) (sz := 6) (k := .i64) (els := (List.map enc_Def g_defs)) (cs := (enc_Def x2)) (by kernel_rfl) (by kernel_rfl) (by kernel_rfl) g5a (by rw [g5c]; exact map_get _ (by omega))) ?_
         refine d_runs 5 27 [(66, .bool (Op.bytesLess x1.Name x2.Name)), (65, .bool (Op.bytesLess x1.Name x2.Name)), (64, .bool (Op.bytesLess x1.Name x2.Name)), (63, .str x2.Name), (62, .vp (enc_Def x2) 0)] (pfp 5 31) (by kernel_rfl) (by kernel_rfl) ?_
         refine d_nil (by kernel_rfl) ?_
         obtain rfl := si hs
         refine nrm_join (Op.bytesLess x1.Name x2.Name) rfl ?_
         exact cut_of [0, 3, 4, 5, 6, 19, 20, 25, 26, 27, 66] [14, 3, 1000001, 1000000, 2000072] (by kernel_rfl) (by kernel_rfl) (by kernel_rfl)
        ·replace hs := bif_t h5 hs
         refine d_runs 19 13 [(66, .bool true), (65, .bool true), (64, .no), (63, .no), (62, .no), (61, .no), (60, .no), (59, .no), (58, .no), (57, .no), (56, .no), (55, .no), (54, .no), (53, .no), (52, .no), (51, .no), (50, .no), (49, .no), (48, .no)] (pfp 19 31) (by kernel_rfl) (by kernel_rfl) ?_
         refine d_nil (by kernel_rfl) ?_
         obtain rfl := si hs
         refine nrm_join true rfl ?_
         exact cut_of [0, 3, 4, 5, 6, 19, 20, 25, 26, 27, 66] [14, 3, 1000001, 1000000, 2000072] (by kernel_rfl) (by kernel_rfl) (by kernel_rfl)
     ·subst hz; clear hs; have hs := hk3; clear hk3
      refine nrm_thenV ?_
      obtain ⟨z4, hs, hk4⟩ := bind_some hs
      refine v_join (S := Int) (fun u => u = z4) (fun u => [(0, .ptr 1000000 0 0), (3, .ptr 3 0 0), (4, .sl 1 2000072 ((q1.2.2).length) 0 ((q1.2.2).length)), (5, .int .i64 u), (19, .int .i64 (List.length g_defs : Int)), (20, .int .i64 q1.1), (25, .sl 1 1000001 ((g_uses).length) 0 ((g_uses).length)), (26, .int .i64 ((g_uses).length : Int)), (27, .int .i64 q2.2.1)]) (fun u => [(14, .row 4 1 0 (List.map EV.encB y1.2)), (3, .box 153 [.sl 1 14 ((y1.2).length) 0 ((y1.2).length)]), (1000001, .row 49 1 0 (List.map (encL 1 EV.encI) g_uses)), (1000000, .box 149 [.vs 6 (List.map enc_Def g_defs), .sl 1 1000001 ((g_uses).length) 0 ((g_uses).length)]), (2000072, .row 3 1 0 (List.map EV.encI q1.2.2))]) ?_ (fun v4 hz => ?_)
      ·refine v_cond v3 (by kernel_rfl) (fun h6 => ?_) (fun h6 => ?_)
       ·replace hs := bif_t h6 hs
        refine vr_text (o_runs 2 [(5, .int .i64 q2.2.1), (67, .int .i64 q2.2.1)] (by kernel_rfl) ?_)
        refine ov_nil ?_
        obtain rfl := si hs
        refine nrm_join q2.2.1 rfl ?_
        exact cut_of [0, 3, 4, 5, 19, 20, 25, 26, 27] [14, 3, 1000001, 1000000, 2000072] (by kernel_rfl) (by kernel_rfl) (by kernel_rfl)
       ·replace hs := bif_f h6 hs
        refine v_skip ?_
        obtain rfl := si hs
        refine nrm_join q2.1 rfl ?_
        exact cut_of [0, 3, 4, 5, 19, 20, 25, 26, 27] [14, 3, 1000001, 1000000, 2000072] (by kernel_rfl) (by kernel_rfl) (by kernel_rfl)
      ·subst hz; clear hs; have hs := hk4; clear hk4
       refine nrm_blkV (nrm_thenV (vr_text (o_runs 2 [(27, .int .i64 (w64 (q2.2.1 + 1))), (68, .int .i64 (w64 (q2.2.1 + 1)))] (by kernel_rfl) ?_)))
       refine ov_nil (nrm_fuel (v4, (w64 (q2.2.1 + 1)), y1.2) hs ?_)
       exact cut_of [0, 3, 4, 5, 19, 20, 25, 26, 27] [3, 14, 1000000, 1000001, 2000072] (by kernel_rfl) (by kernel_rfl) (by kernel_rfl)
    ·replace hs := bif_f h2 hs
     refine v_exit (exit_thenV (exit_fuel ?_))
     refine exit_blkV ?_
     obtain rfl := si hs
     refine nrm_join (q2.1, q2.2.2) rfl ?_
     exact cut_of [0, 3, 4, 5, 19, 20] [3, 14, 1000000, 1000001, 2000072] (by kernel_rfl) (by kernel_rfl) (by kernel_rfl)
   ·subst hz; clear hs; have hs := hk2; clear hk2
    refine nrm_thenV (v_seq (vr_text (o_runs 2 [(70, .int .i64 v2.1), (69, .sl 1 14 ((v2.2).length) 0 ((v2.2).length))] (by kernel_rfl) ?_)))
    obtain ⟨_, g6, hs⟩ := bind_some hs; obtain ⟨g6a, g6b⟩ := grd_some g6
    refine o_pure (v := .ptr 14 ((v2.2).length) ((Int.toNat v2.1) * 1 + 0)) (by kernel_rfl) (by kernel_rfl) (loc_indexRowT (e := 4) (sz := 1) (kk := 14) (L := (v2.2).length) (n := (v2.2).length) (k := .i64) (i := v2.1) (by kernel_rfl) (by kernel_rfl) (by kernel_rfl) g6a g6b) ?_
    obtain ⟨e3, he3, hs⟩ := bind_some hs; replace he3 := Option.some.inj he3
    refine o_loc (F := [(14, .row 4 1 0 (List.map EV.encB v2.2))]) (F' := [(14, .row 4 1 0 (List.map EV.encB (List.set v2.2 (Int.toNat v2.1) true)))]) (v := .no) [14] (by kernel_rfl) (by kernel_rfl) rfl (by kernel_rfl) (loc_storeRowT (L := (v2.2).length) (off := (Int.toNat v2.1) * 1 + 0) (els := (List.map EV.encB v2.2)) (cs := [.bool e3]) (c' := [.bool true]) (Int.toNat v2.1) 0 (by kernel_rfl) (by first | (simp only [List.length_map, List.length_set]; done) | rfl) rfl (by rw [← he3]; exact map_get _ (by first | omega | (simp only [List.length_set]; omega))) (by first | exact Nat.zero_le _ | omega) (by kernel_rfl) (by kernel_rfl) (by kernel_rfl) (by kernel_rfl) (by kernel_rfl) (by kernel_rfl) List.map_set.symm) (by kernel_rfl) ?_
    refine ov_nil (nrm_thenV (vr_text (o_runh 3 [(74, .sl 1 74 1 0 1), (73, .int .i64 v2.1), (72, .sl 1 2000072 ((q1.2.2).length) 0 ((q1.2.2).length))] [(74, .row 3 1 0 (List.map EV.encI [v2.1])), (14, .row 4 1 0 (List.map EV.encB (List.set v2.2 (Int.toNat v2.1) true))), (3, .box 153 [.sl 1 14 ((v2.2).length) 0 ((v2.2).length)]), (1000000, .box 149 [.vs 6 (List.map enc_Def g_defs), .sl 1 1000001 ((g_uses).length) 0 ((g_uses).length)]), (1000001, .row 49 1 0 (List.map (encL 1 EV.encI) g_uses)), (2000072, .row 3 1 0 (List.map EV.encI q1.2.2))] (by kernel_rfl) ?_)))
    obtain ⟨_, g7, hs⟩ := bind_some hs; replace g7 := grd_some g7
    refine o_loc (F := [(2000072, .row 3 1 0 (List.map EV.encI q1.2.2)), (74, .row 3 1 0 (List.map EV.encI [v2.1]))]) (F' := [(2000072, .row 3 1 0 (List.map EV.encI (q1.2.2 ++ [v2.1]))), (74, .row 3 1 0 (List.map EV.encI [v2.1]))]) (v := .sl 1 2000072 (((q1.2.2 ++ [v2.1])).length) 0 (((q1.2.2 ++ [v2.1])).length)) [2000072, 74] (by kernel_rfl) (by kernel_rfl) rfl (by kernel_rfl) (loc_appendT (e := 3) (sz := 1) (bytes := 8) (L := (q1.2.2).length) (els := (List.map EV.encI q1.2.2)) (ys := (List.map EV.encI [v2.1])) (by kernel_rfl) (by kernel_rfl) (by first | exact List.length_map .. | rfl) (.sl (t := 3) (fz := 0) (ys := (List.map EV.encI [v2.1])) (by kernel_rfl) (by kernel_rfl)) (map_ones EV.encI (fun _ => rfl) _) (map_lens EV.encI (fun _ => rfl) _) (by kernel_rfl) (by first | exact (List.map_append ..).symm | rfl | simp only [List.map_nil, List.nil_append]) (List.length_map ..) g7 (by omega)) (by kernel_rfl) ?_
    refine o_runs 1 [(4, .sl 1 2000072 (((q1.2.2 ++ [v2.1])).length) 0 (((q1.2.2 ++ [v2.1])).length))] (by kernel_rfl) ?_
    refine ov_nil (nrm_blkV (nrm_thenV (vr_text (o_runs 2 [(20, .int .i64 (w64 (q1.1 + 1))), (76, .int .i64 (w64 (q1.1 + 1)))] (by kernel_rfl) ?_))))
    refine ov_nil (nrm_fuel ((w64 (q1.1 + 1)), (List.set v2.2 (Int.toNat v2.1) true), (q1.2.2 ++ [v2.1])) hs ?_)
    exact Cut.trans (cut_same (H1 := [(2000072, .row 3 1 0 (List.map EV.encI (q1.2.2 ++ [v2.1]))), (74, .row 3 1 0 (List.map EV.encI [v2.1])), (14, .row 4 1 0 (List.map EV.encB (List.set v2.2 (Int.toNat v2.1) true))), (3, .box 153 [.sl 1 14 ((v2.2).length) 0 ((v2.2).length)]), (1000000, .box 149 [.vs 6 (List.map enc_Def g_defs), .sl 1 1000001 ((g_uses).length) 0 ((g_uses).length)]), (1000001, .row 49 1 0 (List.map (encL 1 EV.encI) g_uses))]) rfl (by kernel_rfl)) (Cut.trans (cut_same (H1 := [(2000072, .row 3 1 0 (List.map EV.encI (q1.2.2 ++ [v2.1]))), (74, .row 3 1 0 (List.map EV.encI [v2.1])), (14, .row 4 1 0 (List.map EV.encB (List.set v2.2 (Int.toNat v2.1) true))), (3, .box 153 [.sl 1 14 (((List.set v2.2 (Int.toNat v2.1) true)).length) 0 (((List.set v2.2 (Int.toNat v2.1) true)).length)]), (1000000, .box 149 [.vs 6 (List.map enc_Def g_defs), .sl 1 1000001 ((g_uses).length) 0 ((g_uses).length)]), (1000001, .row 49 1 0 (List.map (encL 1 EV.encI) g_uses))]) rfl (by simp only [List.length_set])) (cut_of [0, 3, 4, 19, 20] [3, 14, 1000000, 1000001, 2000072] (by kernel_rfl) (by kernel_rfl) (by kernel_rfl)))
  ·replace hs := bif_f h1 hs
   refine v_exit (exit_thenV (exit_fuel ?_))
   refine exit_blkV ?_
   obtain rfl := si hs
   refine nrm_join q1.2.2 rfl ?_
   exact cut_of [4] [1000000, 1000001, 2000072] (by kernel_rfl) (by kernel_rfl) (by kernel_rfl)
 ·subst hz; clear hs; have hs := hk1; clear hk1
  refine nrm_thenV (v_seq (vr_text (o_runs 2 [(2, .sl 1 2000072 ((v1).length) 0 ((v1).length)), (77, .sl 1 2000072 ((v1).length) 0 ((v1).length))] (by kernel_rfl) ?_)))
  refine ov_nil (nrm_thenV (v_to _ [(2000072, .row 3 1 (((List.map EV.encI v1)).length) (List.map EV.encI v1)), (1000000, .box 149 [.vs 6 (List.map enc_Def g_defs), .sl 1 1000001 ((g_uses).length) 0 ((g_uses).length)]), (1000001, .row 49 1 0 (List.map (encL 1 EV.encI) g_uses))] (cut_freeze (F := [(2000072, .row 3 1 0 (List.map EV.encI v1))]) [2000072] rfl (by kernel_rfl) (by kernel_rfl)) ?_))
  refine v_to ((2, .vs 1 (List.map EV.encI v1)) :: _) _ (cut_view (R := [(2000072, .row 3 1 (((List.map EV.encI v1)).length) (List.map EV.encI v1))]) (ks := [2000072]) (by kernel_rfl) (by kernel_rfl) (.row (t := 3) (fz := (((List.map EV.encI v1)).length)) (by kernel_rfl) (by first | (simp only [List.length_map, List.length_set]; done) | rfl))) ?_
  refine v_ret ?_
  obtain rfl := si hs
  exact fin_ret (by kernel_rfl) (by kernel_rfl) (by kernel_rfl)
theorem w_define_Order (p : Plan) (r : (List Int) × Int) (hs : s_define_Order p = some r) : FnA Tryz.prog 36 [.agg (enc_Plan p)] [] (.tup [.vs 1 (List.map EV.encI r.1), .nils, .int .i64 r.2]) [] := by
 refine fnA_of_wp (N := 47) Tryz.func36 rfl rfl rfl fun cK0 => ?_
 unfold s_define_Order at hs
 refine v_same (ρ' := [(0, .agg (enc_Plan p))]) rfl rfl ?_
 refine v_seq (vr_text (o_runh 4 [(4, .int .i64 0), (3, .nils), (2, .nils), (1, .ptr 1 0 0)] [(1, .box 44 [.vs 6 (List.map enc_Def p.Defs), .vs 3 (List.map enc_Table p.Tables), .vs 3 (List.map enc_Zone p.Zones), .vs 20 (List.map enc_Rule p.Rules), .vs 4 (List.map enc_Cap p.Caps), .vs 6 (List.map enc_View p.Views), .vs 3 (List.map enc_Point3 p.Sun), .int .i64 p.Hours])] (by kernel_rfl) ?_))
 refine ov_nil (nrm_thenV (v_seq (vr_text (o_runh 2 [(5, .mp 12), (12, .mp 12)] [(12, .map (encM V.str V.bool [])), (1, .box 44 [.vs 6 (List.map enc_Def p.Defs), .vs 3 (List.map enc_Table p.Tables), .vs 3 (List.map enc_Zone p.Zones), .vs 20 (List.map enc_Rule p.Rules), .vs 4 (List.map enc_Cap p.Caps), .vs 6 (List.map enc_View p.Views), .vs 3 (List.map enc_Point3 p.Sun), .int .i64 p.Hours])] (by kernel_rfl) ?_))))
 refine ov_nil (nrm_thenV (v_seq (v_seq (vr_text ?_))))
 obtain ⟨y1, c1, hs⟩ := bind_some hs
 refine o_pure (v := .vs 1 (List.map EV.encS y1)) (by kernel_rfl) (by kernel_rfl) (loc_gcall0 (callV_func hbv61 (by kernel_rfl)) (w_define_Measures  _ c1) (by kernel_rfl)) ?_
 refine o_pure (v := .int .i64 (List.length y1 : Int)) (by kernel_rfl) (by kernel_rfl) (loc_lenVs (sz := 1) (els := (List.map EV.encS y1)) (by kernel_rfl) (by kernel_rfl) (List.length_map ..)) ?_
 refine o_runs 1 [(15, .int .i64 0)] (by kernel_rfl) ?_
 refine ov_nil (nrm_thenV ?_)
 obtain ⟨z1, hs, hk1⟩ := bind_some hs
 refine v_join (S := (List ((List UInt8) × Bool))) (fun u => u = z1) (fun u => [(1, .ptr 1 0 0), (5, .mp 12)]) (fun u => [(12, .map (encM V.str V.bool u)), (1, .box 44 [.vs 6 (List.map enc_Def p.Defs), .vs 3 (List.map enc_Table p.Tables), .vs 3 (List.map enc_Zone p.Zones), .vs 20 (List.map enc_Rule p.Rules), .vs 4 (List.map enc_Cap p.Caps), .vs 6 (List.map enc_View p.Views), .vs 3 (List.map enc_Point3 p.Sun), .int .i64 p.Hours])]) ?_ (fun v1 hz => ?_)
 ·refine v_block ?_
  refine v_fuel (S := Int × (List ((List UInt8) × Bool))) (fun u => [(1, .ptr 1 0 0), (5, .mp 12), (13, .vs 1 (List.map EV.encS y1)), (14, .int .i64 (List.length y1 : Int)), (15, .int .i64 u.1)]) (fun u => [(12, .map (encM V.str V.bool u.2)), (1, .box 44 [.vs 6 (List.map enc_Def p.Defs), .vs 3 (List.map enc_Table p.Tables), .vs 3 (List.map enc_Zone p.Zones), .vs 20 (List.map enc_Rule p.Rules), .vs 4 (List.map enc_Cap p.Caps), .vs 6 (List.map enc_View p.Views), .vs 3 (List.map enc_Point3 p.Sun), .int .i64 p.Hours])]) (s_define_Order_L1 y1) (fun _ => rfl) KK (0, []) hs (cut_of [1, 5, 13, 14, 15] [12, 1] (by kernel_rfl) (by kernel_rfl) (by kernel_rfl)) (fun K1 q1 hs => ?_)
  rw [s_define_Order_L1] at hs
  show WpV cK0 Tryz.prog none 47 _ _ [(1, .ptr 1 0 0), (5, .mp 12), (13, .vs 1 (List.map EV.encS y1)), (14, .int .i64 (List.length y1 : Int)), (15, .int .i64 q1.1)] [(12, .map (encM V.str V.bool q1.2)), (1, .box 44 [.vs 6 (List.map enc_Def p.Defs), .vs 3 (List.map enc_Table p.Tables), .vs 3 (List.map enc_Zone p.Zones), .vs 20 (List.map enc_Rule p.Rules), .vs 4 (List.map enc_Cap p.Caps), .vs 6 (List.map enc_View p.Views), .vs 3 (List.map enc_Point3 p.Sun), .int .i64 p.Hours])] []
  refine v_seq (vr_text (o_runs 1 [(16, .bool (decide (q1.1 < (List.length y1 : Int))))] (by kernel_rfl) ?_))
  refine ov_nil (nrm_thenV (v_seq ?_))
  refine v_cond (decide (q1.1 < (List.length y1 : Int))) (by kernel_rfl) (fun h1 => ?_) (fun h1 => ?_)
  ·replace hs := bif_t h1 hs
   refine v_skip (nrm_thenV (v_seq (v_block (v_seq (vr_text ?_)))))
   obtain ⟨x1, g1, hs⟩ := bind_some hs; obtain ⟨g1a, g1b, g1c⟩ := idx_some g1
   refine o_pure (v := .vp [.str x1] 0) (by kernel_rfl) (by kernel_rfl) (loc_indexVs (e := 9) (sz := 1) (k := .i64) (els := (List.map EV.encS y1)) (cs := (EV.encS x1)) (by kernel_rfl) (by kernel_rfl) (by kernel_rfl) g1a (by rw [g1c]; exact map_get _ (by omega))) ?_
   refine o_runs 2 [(7, .str x1), (18, .str x1)] (by kernel_rfl) ?_
   refine ov_nil (nrm_thenV (vr_text (o_runs 2 [(20, .str x1), (19, .mp 12)] (by kernel_rfl) ?_)))
   refine o_loc (F := [(12, .map (encM V.str V.bool q1.2))]) (F' := [(12, .map (encM V.str V.bool (mset x1 true q1.2)))]) (v := .no) [12] (by kernel_rfl) (by kernel_rfl) rfl (by kernel_rfl) (loc_mapUpdate (et := 4) (f := V.str) (g := V.bool) (l := q1.2) (a := x1) (c := true) (by kernel_rfl) kok9 (by kernel_rfl) (by kernel_rfl) (by kernel_rfl) (by kernel_rfl) (by kernel_rfl)) (by kernel_rfl) ?_
   refine ov_nil (nrm_blkV (nrm_thenV (vr_text (o_runs 2 [(15, .int .i64 (w64 (q1.1 + 1))), (21, .int .i64 (w64 (q1.1 + 1)))] (by kernel_rfl) ?_))))
   refine ov_nil (nrm_fuel ((w64 (q1.1 + 1)), (mset x1 true q1.2)) hs ?_)
   exact cut_of [1, 5, 13, 14, 15] [12, 1] (by kernel_rfl) (by kernel_rfl) (by kernel_rfl)
  ·replace hs := bif_f h1 hs
   refine v_exit (exit_thenV (exit_fuel ?_))
   refine exit_blkV ?_
   obtain rfl := si hs
   refine nrm_join q1.2 rfl ?_
   exact cut_of [1, 5] [12, 1] (by kernel_rfl) (by kernel_rfl) (by kernel_rfl)
 ·subst hz; clear hs; have hs := hk1; clear hk1
  refine nrm_thenV (v_seq (v_seq (vr_text (o_runs 2 [(23, .vs 6 (List.map enc_Def p.Defs)), (22, .ptr 1 0 0)] (by kernel_rfl) ?_))))
  refine o_pure (v := .int .i64 (List.length p.Defs : Int)) (by kernel_rfl) (by kernel_rfl) (loc_lenVs (sz := 6) (els := (List.map enc_Def p.Defs)) (by kernel_rfl) (by kernel_rfl) (List.length_map ..)) ?_
  refine o_runs 1 [(25, .int .i64 0)] (by kernel_rfl) ?_
  refine ov_nil (nrm_thenV ?_)
  obtain ⟨z2, hs, hk2⟩ := bind_some hs
  refine v_join (S := Unit) (fun u => z2 = .inr u) (fun u => [(1, .ptr 1 0 0)]) (fun u => [(1, .box 44 [.vs 6 (List.map enc_Def p.Defs), .vs 3 (List.map enc_Table p.Tables), .vs 3 (List.map enc_Zone p.Zones), .vs 20 (List.map enc_Rule p.Rules), .vs 4 (List.map enc_Cap p.Caps), .vs 6 (List.map enc_View p.Views), .vs 3 (List.map enc_Point3 p.Sun), .int .i64 p.Hours])]) ?_ (fun v2 hz => ?_)
  ·refine v_block ?_
   refine v_fuel (S := Int × (List ((List UInt8) × Bool))) (fun u => [(1, .ptr 1 0 0), (5, .mp 12), (23, .vs 6 (List.map enc_Def p.Defs)), (24, .int .i64 (List.length p.Defs : Int)), (25, .int .i64 u.1)]) (fun u => [(12, .map (encM V.str V.bool u.2)), (1, .box 44 [.vs 6 (List.map enc_Def p.Defs), .vs 3 (List.map enc_Table p.Tables), .vs 3 (List.map enc_Zone p.Zones), .vs 20 (List.map enc_Rule p.Rules), .vs 4 (List.map enc_Cap p.Caps), .vs 6 (List.map enc_View p.Views), .vs 3 (List.map enc_Point3 p.Sun), .int .i64 p.Hours])]) (s_define_Order_L2 p) (fun _ => rfl) KK (0, v1) hs (cut_of [1, 5, 23, 24, 25] [12, 1] (by kernel_rfl) (by kernel_rfl) (by kernel_rfl)) (fun K2 q2 hs => ?_)
   rw [s_define_Order_L2] at hs
   show WpV cK0 Tryz.prog none 47 _ _ [(1, .ptr 1 0 0), (5, .mp 12), (23, .vs 6 (List.map enc_Def p.Defs)), (24, .int .i64 (List.length p.Defs : Int)), (25, .int .i64 q2.1)] [(12, .map (encM V.str V.bool q2.2)), (1, .box 44 [.vs 6 (List.map enc_Def p.Defs), .vs 3 (List.map enc_Table p.Tables), .vs 3 (List.map enc_Zone p.Zones), .vs 20 (List.map enc_Rule p.Rules), .vs 4 (List.map enc_Cap p.Caps), .vs 6 (List.map enc_View p.Views), .vs 3 (List.map enc_Point3 p.Sun), .int .i64 p.Hours])] []
   refine v_seq (vr_text (o_runs 1 [(26, .bool (decide (q2.1 < (List.length p.Defs : Int))))] (by kernel_rfl) ?_))
   refine ov_nil (nrm_thenV (v_seq ?_))
   refine v_cond (decide (q2.1 < (List.length p.Defs : Int))) (by kernel_rfl) (fun h2 => ?_) (fun h2 => ?_)
   ·replace hs := bif_t h2 hs
    refine v_skip (nrm_thenV (v_seq (v_block (v_seq (vr_text ?_)))))
    obtain ⟨x2, g2, hs⟩ := bind_some hs; obtain ⟨g2a, g2b, g2c⟩ := idx_some g2
    refine o_pure (v := .vp (enc_Def x2) 0) (by kernel_rfl) (by kernel_rfl) (loc_indexVs (e := 93) (sz := 6) (k := .i64) (els := (List.map enc_Def p.Defs)) (cs := (enc_Def x2)) (by kernel_rfl) (by kernel_rfl) (by kernel_rfl) g2a (by rw [g2c]; exact map_get _ (by omega))) ?_
    refine o_runh 3 [(9, .ptr 9 0 0), (28, .agg (enc_Def x2))] [(9, .box 93 [.str x2.Name, .int .i64 x2.Body.Op, .int .i64 x2.Body.N, .str x2.Body.S, .str x2.Body.Key, .vs 5 (encs_Expr x2.Body.Args)]), (12, .map (encM V.str V.bool q2.2)), (1, .box 44 [.vs 6 (List.map enc_Def p.Defs), .vs 3 (List.map enc_Table p.Tables), .vs 3 (List.map enc_Zone p.Zones), .vs 20 (List.map enc_Rule p.Rules), .vs 4 (List.map enc_Cap p.Caps), .vs 6 (List.map enc_View p.Views), .vs 3 (List.map enc_Point3 p.Sun), .int .i64 p.Hours])] (by kernel_rfl) ?_
    refine ov_nil (nrm_thenV (v_seq (v_seq (vr_text (o_runs 3 [(31, .str x2.Name), (30, .ptr 9 0 0), (29, .mp 12)] (by kernel_rfl) ?_)))))
    refine o_loc (F := [(12, .map (encM V.str V.bool q2.2))]) (F' := [(12, .map (encM V.str V.bool q2.2))]) (v := .bool (Option.getD (mfind x2.Name q2.2) false)) [12] (by kernel_rfl) (by kernel_rfl) rfl (by kernel_rfl) (loc_lookup (et := 4) (f := V.str) (g := V.bool) (l := q2.2) (a := x2.Name) (z := false) (zv := .bool false) false (by kernel_rfl) kok9 (by kernel_rfl) (fun _ _ _ h => h) (by kernel_rfl) (by kernel_rfl)) (by kernel_rfl) ?_
    refine ov_nil (nrm_thenV ?_)
    refine v_cond (Option.getD (mfind x2.Name q2.2) false) (by kernel_rfl) (fun h3 => ?_) (fun h3 => ?_)
    ·replace hs := bif_t h3 hs
     refine v_seq (vr_text (o_runs 3 [(4, .int .i64 5), (3, .nils), (2, .nils)] (by kernel_rfl) ?_))
     refine ov_nil (nrm_thenV (v_to ((2, .vs 1 (List.map EV.encI [])) :: _) _ (cut_view (R := []) (ks := []) (by kernel_rfl) (by kernel_rfl) (.nils 1)) ?_))
     refine v_ret (ret_thenV (ret_blkV (ret_thenV (ret_fuel ?_))))
     refine ret_blkV (ret_join ?_)
     refine ret_thenV ?_
     obtain rfl := si hs
     replace hs := hk2
     obtain rfl := si hs
     exact fin_ret (by kernel_rfl) (by kernel_rfl) (by kernel_rfl)
    ·replace hs := bif_f h3 hs
     refine v_skip (nrm_thenV (vr_text (o_runs 3 [(35, .str x2.Name), (34, .ptr 9 0 0), (33, .mp 12)] (by kernel_rfl) ?_)))
     refine o_loc (F := [(12, .map (encM V.str V.bool q2.2))]) (F' := [(12, .map (encM V.str V.bool (mset x2.Name true q2.2)))]) (v := .no) [12] (by kernel_rfl) (by kernel_rfl) rfl (by kernel_rfl) (loc_mapUpdate (et := 4) (f := V.str) (g := V.bool) (l := q2.2) (a := x2.Name) (c := true) (by kernel_rfl) kok9 (by kernel_rfl) (by kernel_rfl) (by kernel_rfl) (by kernel_rfl) (by kernel_rfl)) (by kernel_rfl) ?_
     refine ov_nil (nrm_blkV (nrm_thenV (vr_text (o_runs 2 [(25, .int .i64 (w64 (q2.1 + 1))), (36, .int .i64 (w64 (q2.1 + 1)))] (by kernel_rfl) ?_))))
     refine ov_nil (nrm_fuel ((w64 (q2.1 + 1)), (mset x2.Name true q2.2)) hs ?_)
     exact cut_of [1, 5, 23, 24, 25] [12, 1] (by kernel_rfl) (by kernel_rfl) (by kernel_rfl)
   ·replace hs := bif_f h2 hs
    refine v_exit (exit_thenV (exit_fuel ?_))
    refine exit_blkV ?_
    obtain rfl := si hs
    refine nrm_join () rfl ?_
    exact cut_of [1] [1] (by kernel_rfl) (by kernel_rfl) (by kernel_rfl)
  ·subst hz; clear hs; have hs := hk2; clear hk2
   refine nrm_thenV (v_seq (vr_text (o_runs 2 [(38, .vs 6 (List.map enc_Def p.Defs)), (37, .ptr 1 0 0)] (by kernel_rfl) ?_)))
   obtain ⟨y2, c2, hs⟩ := bind_some hs
   refine o_loc (F := []) (F' := [(3003900, .box 149 [.vs 6 (List.map enc_Def y2.1), .sl 1 3003901 ((y2.2).length) 0 ((y2.2).length)]), (3003901, .row 49 1 0 (List.map (encL 1 EV.encI) y2.2))]) (v := .ptr 3003900 0 0) [] (by kernel_rfl) (by kernel_rfl) rfl (by kernel_rfl) (loc_g (R := []) [.vs 6 (List.map enc_Def p.Defs)] [(31, 3003900), (29, 3003901)] (callV_func hbv62 (by kernel_rfl)) (w_define_newGraph p.Defs _ c2) (.cons (.same _) (.nil)) (by kernel_rfl) (by kernel_rfl) (by kernel_rfl) (by kernel_rfl) (by kernel_rfl) (by kernel_rfl) (by kernel_rfl) (by kernel_rfl)) (by kernel_rfl) ?_
   refine o_runs 1 [(10, .ptr 3003900 0 0)] (by kernel_rfl) ?_
   refine ov_nil (nrm_thenV (v_seq (v_seq (vr_text (o_runs 1 [(40, .ptr 3003900 0 0)] (by kernel_rfl) ?_)))))
   obtain ⟨y3, c3, hs⟩ := bind_some hs
   refine o_loc (F := [(3003900, .box 149 [.vs 6 (List.map enc_Def y2.1), .sl 1 3003901 ((y2.2).length) 0 ((y2.2).length)]), (3003901, .row 49 1 0 (List.map (encL 1 EV.encI) y2.2))]) (F' := [(3003900, .box 149 [.vs 6 (List.map enc_Def y3.1), .sl 1 3003901 ((y3.2).length) 0 ((y3.2).length)]), (3003901, .row 49 1 0 (List.map (encL 1 EV.encI) y3.2))]) (v := .nils) [3003900, 3003901] (by kernel_rfl) (by kernel_rfl) rfl (by kernel_rfl) (loc_g (R := []) [.ptr 3003900 0 0] [(1000000, 3003900), (1000001, 3003901)] (callV_func hbv63 (by kernel_rfl)) (w_define_graph_smallest y2.1 y2.2 _ c3) (.cons (.same _) (.nil)) (by kernel_rfl) (by kernel_rfl) (by kernel_rfl) (by kernel_rfl) (by kernel_rfl) (by kernel_rfl) (by kernel_rfl) (by kernel_rfl)) (by kernel_rfl) ?_
   refine o_runs 1 [(11, .nils)] (by kernel_rfl) ?_
   refine ov_nil (nrm_thenV (v_seq (vr_text (o_runs 2 [(43, .bool false), (42, .nils)] (by kernel_rfl) ?_))))
   refine ov_nil (nrm_thenV (v_cond_f (by kernel_rfl) ?_))
   refine v_skip (nrm_thenV (v_seq (vr_text (o_runs 1 [(45, .ptr 3003900 0 0)] (by kernel_rfl) ?_))))
   obtain ⟨y4, c4, hs⟩ := bind_some hs
   refine o_loc (F := [(3003900, .box 149 [.vs 6 (List.map enc_Def y3.1), .sl 1 3003901 ((y3.2).length) 0 ((y3.2).length)]), (3003901, .row 49 1 0 (List.map (encL 1 EV.encI) y3.2))]) (F' := [(3003900, .box 149 [.vs 6 (List.map enc_Def y4.2.1), .sl 1 3003901 ((y4.2.2).length) 0 ((y4.2.2).length)]), (3003901, .row 49 1 0 (List.map (encL 1 EV.encI) y4.2.2))]) (v := .vs 1 (List.map EV.encI y4.1)) [3003900, 3003901] (by kernel_rfl) (by kernel_rfl) rfl (by kernel_rfl) (loc_g (R := []) [.ptr 3003900 0 0] [(1000000, 3003900), (1000001, 3003901)] (callV_func hbv64 (by kernel_rfl)) (w_define_graph_order y3.1 y3.2 _ c4) (.cons (.same _) (.nil)) (by kernel_rfl) (by kernel_rfl) (by kernel_rfl) (by kernel_rfl) (by kernel_rfl) (by kernel_rfl) (by kernel_rfl) (by kernel_rfl)) (by kernel_rfl) ?_
   refine o_runs 3 [(4, .int .i64 0), (3, .nils), (2, .vs 1 (List.map EV.encI y4.1))] (by kernel_rfl) ?_
   refine ov_nil (nrm_thenV (v_ret ?_))
   obtain rfl := si hs
   exact fin_ret (by kernel_rfl) (by kernel_rfl) (by kernel_rfl)
end Go.Proofs.YtpabacdeogeehaaGreatDoor
