/- printed by gen2.py -/
import Derived.Test.YtnnieebmbepjpaaT
set_option linter.all false
set_option maxRecDepth 100000
namespace Go.Proofs.Ytnnieebmbepjpaa
open Go Go.RowKit Go.Eng Go.EV

theorem hbv7 : hasBody Try.prog 7 := body_of (by kernel_rfl)
theorem hbv8 : hasBody Try.prog 8 := body_of (by kernel_rfl)
theorem hbv15 : hasBody Try.prog 15 := body_of (by kernel_rfl)
theorem hbv18 : hasBody Try.prog 18 := body_of (by kernel_rfl)
theorem hbv11 : hasBody Try.prog 11 := body_of (by kernel_rfl)
theorem mixedH : Try.prog.follows .mixedOrders = true := by kernel_rfl
theorem hbv23 : hasBody Try.prog 23 := body_of (by kernel_rfl)
theorem hbv21 : hasBody Try.prog 21 := body_of (by kernel_rfl)
theorem hbv20 : hasBody Try.prog 20 := body_of (by kernel_rfl)
def s_greenbeltlaw44_FactHistory_L2 (base : (List Fact)) (key : (List UInt8)) (y4 : (List Fact)) (q1 : (Bool × Int)) : Nat → (Bool × Int) → Option Bool
  | 0, _ => none
  | K2 + 1, q2 => (bif (decide (q2.2 < (List.length base : Int))) then (idx base q2.2).bind fun x15 => ((bif q2.1 then some true else (bif (decide (x15.key = key)) then (idx y4 q1.2).bind fun x16 => (bif (decide (x15.value = x16.value)) then (idx y4 q1.2).bind fun x17 => (bif (decide (x15.known = x17.known)) then (idx y4 q1.2).bind fun x18 => (bif (decide (x15.from_ ≤ x18.from_)) then (bif (decide (x15.until_ = 0)) then some true else (idx y4 q1.2).bind fun x19 => (bif (!(decide (x19.until_ = 0))) then (idx y4 q1.2).bind fun x20 => some (decide (x20.until_ ≤ x15.until_)) else some false)) else some false) else some false) else some false) else some false))).bind fun v7 => (s_greenbeltlaw44_FactHistory_L2 base key y4 q1) K2 (v7, (w64 (q2.2 + 1))) else some q2.1)
def s_greenbeltlaw44_FactHistory_L1 (base : (List Fact)) (key : (List UInt8)) (day : Int) (known : Int) (y4 : (List Fact)) (y5 : (Int × Bool)) : Nat → (Bool × Int) → Option (Bool ⊕ Bool)
  | 0, _ => none
  | K1 + 1, q1 => (bif (decide (q1.2 < (List.length y4 : Int))) then ((idx y4 q1.2).bind fun x1 => (bif (!(decide (x1.key = key))) then some true else (idx y4 q1.2).bind fun x2 => (bif (decide (x2.known > known)) then some true else (idx y4 q1.2).bind fun x3 => (bif (decide (x3.from_ < 0)) then some true else (idx y4 q1.2).bind fun x4 => (bif (!(decide (x4.until_ = 0))) then (idx y4 q1.2).bind fun x8 => (idx y4 q1.2).bind fun x9 => (bif (decide (x8.until_ ≤ x9.from_)) then some true else (bif (decide (q1.2 > 0)) then (idx y4 (w64 (q1.2 - 1))).bind fun x10 => (bif (decide (x10.until_ = 0)) then some true else (idx y4 (w64 (q1.2 - 1))).bind fun x11 => (idx y4 q1.2).bind fun x12 => some (decide (x11.until_ > x12.from_))) else some false)) else (bif (decide (q1.2 > 0)) then (idx y4 (w64 (q1.2 - 1))).bind fun x5 => (bif (decide (x5.until_ = 0)) then some true else (idx y4 (w64 (q1.2 - 1))).bind fun x6 => (idx y4 q1.2).bind fun x7 => some (decide (x6.until_ > x7.from_))) else some false)))))).bind fun v3 => (bif v3 then some (.inl false) else (idx y4 q1.2).bind fun x13 => (s_has x13 day).bind fun y6 => ((bif y6 then ((bif (!y5.2) then some true else (idx y4 q1.2).bind fun x14 => some (!(decide (y5.1 = x14.value))))).bind fun v5 => (bif v5 then some (.inl false) else some (.inr true)) else some (.inr q1.1)) : Option (Bool ⊕ Bool)).bind fun z4 => match z4 with
 | .inl r => some (.inl r)
 | .inr v4 => ((s_greenbeltlaw44_FactHistory_L2 base key y4 q1) KK (false, 0)).bind fun v6 => (bif (!v6) then some (.inl false) else (s_greenbeltlaw44_FactHistory_L1 base key day known y4 y5) K1 (v4, (w64 (q1.2 + 1))))) else some (.inr q1.1))
def s_greenbeltlaw44_FactHistory (base : (List Fact)) (key : (List UInt8)) (day : Int) (known : Int) : Option Bool :=
  (s_small ).bind fun y1 => ((s_few base).bind fun y2 => (bif (!y2) then some true else (s_right base).bind fun y3 => (bif (!y3) then some true else (bif (decide (day < 0)) then some true else some (decide (day > 1073741824)))))).bind fun v1 => (bif v1 then some y1 else (s_hist base key known).bind fun y4 => (s_at base key day known).bind fun y5 => ((s_greenbeltlaw44_FactHistory_L1 base key day known y4 y5) KK (false, 0) : Option (Bool ⊕ Bool)).bind fun z2 => match z2 with
 | .inl r => some r
 | .inr v2 => ((bif y1 then some (v2 == y5.2) else some false)).bind fun v8 => some v8)
theorem w_greenbeltlaw44_FactHistory (base : (List Fact)) (key : (List UInt8)) (day : Int) (known : Int) (r : Bool) (hs : s_greenbeltlaw44_FactHistory base key day known = some r) : FnA Try.prog 5 [.vs 5 (List.map enc_Fact base), .str key, .int .i64 day, .int .i64 known] [] (.bool r) [] := by
  refine fnA_of_wp (N := 221) Try.func5 rfl rfl rfl fun cK0 => ?_
  unfold s_greenbeltlaw44_FactHistory at hs
  refine v_same (ρ' := [(0, .vs 5 (List.map enc_Fact base)), (1, .str key), (2, .int .i64 day), (3, .int .i64 known)]) rfl rfl ?_
  refine v_seq ?_
  refine vr_text ?_
  refine o_runs 1 [(8, .bool false)] (by kernel_rfl) ?_
  refine ov_nil ?_
  refine nrm_thenV ?_
  refine v_seq ?_
  refine vr_text ?_
  obtain ⟨y1, c1, hs⟩ := bind_some hs
  refine o_pure (v := .bool y1) (by kernel_rfl) (by kernel_rfl) (loc_gcall0 (callV_func hbv7 (by kernel_rfl)) (w_small  _ c1) (by kernel_rfl)) ?_
  refine o_runs 1 [(9, .bool y1)] (by kernel_rfl) ?_
  refine ov_nil ?_
  refine nrm_thenV ?_
  refine v_seq ?_
  refine v_seq ?_
  obtain ⟨z1, hs, hk1⟩ := bind_some hs
  refine v_join (S := Bool) (fun u => u = z1) (fun u => [(0, .vs 5 (List.map enc_Fact base)), (1, .str key), (2, .int .i64 day), (3, .int .i64 known), (9, .bool y1), (34, .bool u)]) (fun u => []) ?_ (fun v1 hz => ?_)
  · refine vr_text ?_
    refine o_runs 1 [(19, .vs 5 (List.map enc_Fact base))] (by kernel_rfl) ?_
    obtain ⟨y2, c2, hs⟩ := bind_some hs
    refine o_pure (v := .bool y2) (by kernel_rfl) (by kernel_rfl) (loc_gcall0 (callV_func hbv8 (by kernel_rfl)) (w_few base _ c2) (by kernel_rfl)) ?_
    refine o_runs 2 [(22, .bool (!y2)), (21, .bool (!y2))] (by kernel_rfl) ?_
    cases h1 : ((!y2))
    · replace hs := bif_f h1 hs
      refine o_runs 1 [(23, .vs 5 (List.map enc_Fact base))] (by kernel_rfl) ?_
      obtain ⟨y3, c3, hs⟩ := bind_some hs
      refine o_pure (v := .bool y3) (by kernel_rfl) (by kernel_rfl) (loc_gcall0 (callV_func hbv15 (by kernel_rfl)) (w_right base _ c3) (by kernel_rfl)) ?_
      refine o_runs 3 [(27, .bool (!y3)), (26, .bool (!y3)), (25, .bool (!y3))] (by kernel_rfl) ?_
      cases h2 : ((!y3))
      · replace hs := bif_f h2 hs
        refine o_runs 4 [(31, .bool (decide (day < 0))), (30, .bool (decide (day < 0))), (29, .bool (decide (day < 0))), (28, .int .i64 day)] (by kernel_rfl) ?_
        cases h3 : ((decide (day < 0)))
        · replace hs := bif_f h3 hs
          refine o_runs 3 [(34, .bool (decide (day > 1073741824))), (33, .bool (decide (day > 1073741824))), (32, .int .i64 day)] (by kernel_rfl) ?_
          refine ov_nil ?_
          obtain rfl := Option.some.inj hs
          refine nrm_join (decide (day > 1073741824)) rfl ?_
          exact cut_of [0, 1, 2, 3, 9, 34] [] (by kernel_rfl) (by kernel_rfl) (by kernel_rfl)
        · replace hs := bif_t h3 hs
          refine o_runs 3 [(34, .bool true), (33, .no), (32, .no)] (by kernel_rfl) ?_
          refine ov_nil ?_
          obtain rfl := Option.some.inj hs
          refine nrm_join true rfl ?_
          exact cut_of [0, 1, 2, 3, 9, 34] [] (by kernel_rfl) (by kernel_rfl) (by kernel_rfl)
      · replace hs := bif_t h2 hs
        refine o_runs 7 [(34, .bool true), (33, .no), (32, .no), (31, .bool true), (30, .bool true), (29, .no), (28, .no)] (by kernel_rfl) ?_
        refine ov_nil ?_
        obtain rfl := Option.some.inj hs
        refine nrm_join true rfl ?_
        exact cut_of [0, 1, 2, 3, 9, 34] [] (by kernel_rfl) (by kernel_rfl) (by kernel_rfl)
    · replace hs := bif_t h1 hs
      refine o_runs 12 [(34, .bool true), (33, .no), (32, .no), (31, .bool true), (30, .bool true), (29, .no), (28, .no), (27, .bool true), (26, .bool true), (25, .no), (24, .no), (23, .no)] (by kernel_rfl) ?_
      refine ov_nil ?_
      obtain rfl := Option.some.inj hs
      refine nrm_join true rfl ?_
      exact cut_of [0, 1, 2, 3, 9, 34] [] (by kernel_rfl) (by kernel_rfl) (by kernel_rfl)
  · subst hz; clear hs; have hs := hk1; clear hk1
    refine nrm_thenV ?_
    refine v_cond v1 (by kernel_rfl) (fun h4 => ?_) (fun h4 => ?_)
    · replace hs := bif_t h4 hs
      refine v_seq ?_
      refine vr_text ?_
      refine o_runs 2 [(8, .bool y1), (35, .bool y1)] (by kernel_rfl) ?_
      refine ov_nil ?_
      refine nrm_thenV ?_
      refine v_ret ?_
      refine ret_thenV ?_
      obtain rfl := Option.some.inj hs
      exact fin_ret (by kernel_rfl) (by kernel_rfl) (by kernel_rfl)
    · replace hs := bif_f h4 hs
      refine v_skip ?_
      refine nrm_thenV ?_
      refine v_seq ?_
      refine vr_text ?_
      refine o_runs 3 [(38, .int .i64 known), (37, .str key), (36, .vs 5 (List.map enc_Fact base))] (by kernel_rfl) ?_
      obtain ⟨y4, c4, hs⟩ := bind_some hs
      refine o_pure (v := .vs 5 (List.map enc_Fact y4)) (by kernel_rfl) (by kernel_rfl) (loc_gcall0 (callV_func hbv18 (by kernel_rfl)) (w_hist base key known _ c4) (by kernel_rfl)) ?_
      refine o_runs 1 [(10, .vs 5 (List.map enc_Fact y4))] (by kernel_rfl) ?_
      refine ov_nil ?_
      refine nrm_thenV ?_
      refine v_seq ?_
      refine vr_text ?_
      refine o_runs 4 [(44, .int .i64 known), (43, .int .i64 day), (42, .str key), (41, .vs 5 (List.map enc_Fact base))] (by kernel_rfl) ?_
      obtain ⟨y5, c5, hs⟩ := bind_some hs
      refine o_pure (v := .tup [.int .i64 y5.1, .bool y5.2]) (by kernel_rfl) (by kernel_rfl) (loc_gcall0 (callV_func hbv11 (by kernel_rfl)) (w_at base key day known _ c5) (by kernel_rfl)) ?_
      refine o_runs 5 [(12, .bool y5.2), (11, .int .i64 y5.1), (47, .bool y5.2), (46, .int .i64 y5.1), (40, .tup [.int .i64 y5.1, .bool y5.2])] (by kernel_rfl) ?_
      refine ov_nil ?_
      refine nrm_thenV ?_
      refine v_seq ?_
      refine vr_text ?_
      refine o_runs 1 [(13, .bool false)] (by kernel_rfl) ?_
      refine ov_nil ?_
      refine nrm_thenV ?_
      refine v_seq ?_
      refine v_seq ?_
      refine vr_text ?_
      refine o_runs 1 [(14, .int .i64 0)] (by kernel_rfl) ?_
      refine ov_nil ?_
      refine nrm_thenV ?_
      obtain ⟨z2, hs, hk2⟩ := bind_some hs
      refine v_join (S := Bool) (fun u => z2 = .inr u) (fun u => [(9, .bool y1), (12, .bool y5.2), (13, .bool u)]) (fun u => []) ?_ (fun v2 hz => ?_)
      · refine v_block ?_
        refine v_fuel (S := Bool × Int) (fun u => [(0, .vs 5 (List.map enc_Fact base)), (1, .str key), (2, .int .i64 day), (3, .int .i64 known), (9, .bool y1), (10, .vs 5 (List.map enc_Fact y4)), (11, .int .i64 y5.1), (12, .bool y5.2), (13, .bool u.1), (14, .int .i64 u.2)]) (fun u => []) (s_greenbeltlaw44_FactHistory_L1 base key day known y4 y5) (fun _ => rfl) KK (false, 0) hs (cut_of [0, 1, 2, 3, 9, 10, 11, 12, 13, 14] [] (by kernel_rfl) (by kernel_rfl) (by kernel_rfl)) (fun K1 q1 hs => ?_)
        rw [s_greenbeltlaw44_FactHistory_L1] at hs
        show WpV cK0 Try.prog none 221 _ _ [(0, .vs 5 (List.map enc_Fact base)), (1, .str key), (2, .int .i64 day), (3, .int .i64 known), (9, .bool y1), (10, .vs 5 (List.map enc_Fact y4)), (11, .int .i64 y5.1), (12, .bool y5.2), (13, .bool q1.1), (14, .int .i64 q1.2)] [] []
        refine v_seq ?_
        refine v_seq ?_
        refine vr_text ?_
        refine o_runs 2 [(49, .vs 5 (List.map enc_Fact y4)), (48, .int .i64 q1.2)] (by kernel_rfl) ?_
        refine o_pure (v := .int .i64 (List.length y4 : Int)) (by kernel_rfl) (by kernel_rfl) (loc_lenVs (sz := 5) (els := (List.map enc_Fact y4)) (by kernel_rfl) (by kernel_rfl) (List.length_map ..)) ?_
        refine o_runs 1 [(51, .bool (decide (q1.2 < (List.length y4 : Int))))] (by kernel_rfl) ?_
        refine ov_nil ?_
        refine nrm_thenV ?_
        refine v_cond (decide (q1.2 < (List.length y4 : Int))) (by kernel_rfl) (fun h5 => ?_) (fun h5 => ?_)
        · replace hs := bif_t h5 hs
          refine v_skip ?_
          refine nrm_thenV ?_
          refine v_seq ?_
          refine v_block ?_
          refine v_seq ?_
          refine v_seq ?_
          obtain ⟨z3, hs, hk3⟩ := bind_some hs
          refine v_join (S := Bool) (fun u => u = z3) (fun u => [(0, .vs 5 (List.map enc_Fact base)), (1, .str key), (2, .int .i64 day), (3, .int .i64 known), (9, .bool y1), (10, .vs 5 (List.map enc_Fact y4)), (11, .int .i64 y5.1), (12, .bool y5.2), (13, .bool q1.1), (14, .int .i64 q1.2), (125, .bool u)]) (fun u => []) ?_ (fun v3 hz => ?_)
          · refine v_draw mixedH (by kernel_rfl) ?_
            refine d_runs 2 0 [(55, .int .i64 q1.2), (54, .vs 5 (List.map enc_Fact y4))] (pfp 2 1) (by kernel_rfl) (by kernel_rfl) ?_
            obtain ⟨x1, g1, hs⟩ := bind_some hs; obtain ⟨g1a, g1b, g1c⟩ := idx_some g1
            refine d_pure (v := .vp (enc_Fact x1) 0) 2 rfl rfl rfl rfl (by kernel_rfl) (by kernel_rfl) (loc_indexVs (e := 24) (sz := 5) (k := .i64) (els := (List.map enc_Fact y4)) (cs := (enc_Fact x1)) (by kernel_rfl) (by kernel_rfl) (by kernel_rfl) g1a (by rw [g1c]; exact map_get _ (by omega))) ?_
            refine d_runs 5 3 [(61, .bool (!(decide (x1.key = key)))), (60, .bool (!(decide (x1.key = key)))), (59, .str key), (58, .str x1.key), (57, .vp (enc_Fact x1) 0)] (pfp 5 7) (by kernel_rfl) (by kernel_rfl) ?_
            cases h6 : ((!(decide (x1.key = key))))
            · replace hs := bif_f h6 hs
              refine d_runs 2 8 [(63, .int .i64 q1.2), (62, .vs 5 (List.map enc_Fact y4))] (pfp 2 9) (by kernel_rfl) (by kernel_rfl) ?_
              obtain ⟨x2, g2, hs⟩ := bind_some hs; obtain ⟨g2a, g2b, g2c⟩ := idx_some g2
              refine d_pure (v := .vp (enc_Fact x2) 0) 10 rfl rfl rfl rfl (by kernel_rfl) (by kernel_rfl) (loc_indexVs (e := 24) (sz := 5) (k := .i64) (els := (List.map enc_Fact y4)) (cs := (enc_Fact x2)) (by kernel_rfl) (by kernel_rfl) (by kernel_rfl) g2a (by rw [g2c]; exact map_get _ (by omega))) ?_
              refine d_runs 6 11 [(70, .bool (decide (x2.known > known))), (69, .bool (decide (x2.known > known))), (68, .bool (decide (x2.known > known))), (67, .int .i64 known), (66, .int .i64 x2.known), (65, .vp (enc_Fact x2) 4)] (pfp 6 16) (by kernel_rfl) (by kernel_rfl) ?_
              cases h7 : ((decide (x2.known > known)))
              · replace hs := bif_f h7 hs
                refine d_runs 2 17 [(72, .int .i64 q1.2), (71, .vs 5 (List.map enc_Fact y4))] (pfp 2 18) (by kernel_rfl) (by kernel_rfl) ?_
                obtain ⟨x3, g3, hs⟩ := bind_some hs; obtain ⟨g3a, g3b, g3c⟩ := idx_some g3
                refine d_pure (v := .vp (enc_Fact x3) 0) 19 rfl rfl rfl rfl (by kernel_rfl) (by kernel_rfl) (loc_indexVs (e := 24) (sz := 5) (k := .i64) (els := (List.map enc_Fact y4)) (cs := (enc_Fact x3)) (by kernel_rfl) (by kernel_rfl) (by kernel_rfl) g3a (by rw [g3c]; exact map_get _ (by omega))) ?_
                refine d_runs 5 20 [(78, .bool (decide (x3.from_ < 0))), (77, .bool (decide (x3.from_ < 0))), (76, .bool (decide (x3.from_ < 0))), (75, .int .i64 x3.from_), (74, .vp (enc_Fact x3) 2)] (pfp 5 24) (by kernel_rfl) (by kernel_rfl) ?_
                cases h8 : ((decide (x3.from_ < 0)))
                · replace hs := bif_f h8 hs
                  refine d_runs 2 25 [(80, .int .i64 q1.2), (79, .vs 5 (List.map enc_Fact y4))] (pfp 2 26) (by kernel_rfl) (by kernel_rfl) ?_
                  obtain ⟨x4, g4, hs⟩ := bind_some hs; obtain ⟨g4a, g4b, g4c⟩ := idx_some g4
                  refine d_pure (v := .vp (enc_Fact x4) 0) 27 rfl rfl rfl rfl (by kernel_rfl) (by kernel_rfl) (loc_indexVs (e := 24) (sz := 5) (k := .i64) (els := (List.map enc_Fact y4)) (cs := (enc_Fact x4)) (by kernel_rfl) (by kernel_rfl) (by kernel_rfl) g4a (by rw [g4c]; exact map_get _ (by omega))) ?_
                  refine d_runs 4 28 [(85, .bool (!(decide (x4.until_ = 0)))), (84, .bool (!(decide (x4.until_ = 0)))), (83, .int .i64 x4.until_), (82, .vp (enc_Fact x4) 3)] (pfp 4 31) (by kernel_rfl) (by kernel_rfl) ?_
                  cases h9 : ((!(decide (x4.until_ = 0))))
                  · replace hs := bif_f h9 hs
                    refine d_runs 17 32 [(102, .bool (decide (q1.2 > 0))), (101, .bool (decide (q1.2 > 0))), (100, .int .i64 q1.2), (99, .bool false), (98, .bool false), (97, .bool false), (96, .no), (95, .no), (94, .no), (93, .no), (92, .no), (91, .no), (90, .no), (89, .no), (88, .no), (87, .no), (86, .no)] (pfp 17 48) (by kernel_rfl) (by kernel_rfl) ?_
                    cases h10 : ((decide (q1.2 > 0)))
                    · replace hs := bif_f h10 hs
                      refine d_runs 23 49 [(125, .bool false), (124, .bool false), (123, .no), (122, .no), (121, .no), (120, .no), (119, .no), (118, .no), (117, .no), (116, .no), (115, .no), (114, .no), (113, .no), (112, .no), (111, .no), (110, .no), (109, .no), (108, .no), (107, .no), (106, .no), (105, .no), (104, .no), (103, .no)] (pfp 23 71) (by kernel_rfl) (by kernel_rfl) ?_
                      refine d_nil (by kernel_rfl) ?_
                      obtain rfl := Option.some.inj hs
                      refine nrm_join false rfl ?_
                      exact cut_of [0, 1, 2, 3, 9, 10, 11, 12, 13, 14, 125] [] (by kernel_rfl) (by kernel_rfl) (by kernel_rfl)
                    · replace hs := bif_t h10 hs
                      refine d_runs 3 49 [(105, .int .i64 (w64 (q1.2 - 1))), (104, .int .i64 q1.2), (103, .vs 5 (List.map enc_Fact y4))] (pfp 3 51) (by kernel_rfl) (by kernel_rfl) ?_
                      obtain ⟨x5, g5, hs⟩ := bind_some hs; obtain ⟨g5a, g5b, g5c⟩ := idx_some g5
                      refine d_pure (v := .vp (enc_Fact x5) 0) 52 rfl rfl rfl rfl (by kernel_rfl) (by kernel_rfl) (loc_indexVs (e := 24) (sz := 5) (k := .i64) (els := (List.map enc_Fact y4)) (cs := (enc_Fact x5)) (by kernel_rfl) (by kernel_rfl) (by kernel_rfl) g5a (by rw [g5c]; exact map_get _ (by omega))) ?_
                      refine d_runs 4 53 [(110, .bool (decide (x5.until_ = 0))), (109, .bool (decide (x5.until_ = 0))), (108, .int .i64 x5.until_), (107, .vp (enc_Fact x5) 3)] (pfp 4 56) (by kernel_rfl) (by kernel_rfl) ?_
                      cases h11 : ((decide (x5.until_ = 0)))
                      · replace hs := bif_f h11 hs
                        refine d_runs 3 57 [(113, .int .i64 (w64 (q1.2 - 1))), (112, .int .i64 q1.2), (111, .vs 5 (List.map enc_Fact y4))] (pfp 3 59) (by kernel_rfl) (by kernel_rfl) ?_
                        obtain ⟨x6, g6, hs⟩ := bind_some hs; obtain ⟨g6a, g6b, g6c⟩ := idx_some g6
                        refine d_pure (v := .vp (enc_Fact x6) 0) 60 rfl rfl rfl rfl (by kernel_rfl) (by kernel_rfl) (loc_indexVs (e := 24) (sz := 5) (k := .i64) (els := (List.map enc_Fact y4)) (cs := (enc_Fact x6)) (by kernel_rfl) (by kernel_rfl) (by kernel_rfl) g6a (by rw [g6c]; exact map_get _ (by omega))) ?_
                        refine d_runs 4 61 [(118, .int .i64 q1.2), (117, .vs 5 (List.map enc_Fact y4)), (116, .int .i64 x6.until_), (115, .vp (enc_Fact x6) 3)] (pfp 4 64) (by kernel_rfl) (by kernel_rfl) ?_
                        obtain ⟨x7, g7, hs⟩ := bind_some hs; obtain ⟨g7a, g7b, g7c⟩ := idx_some g7
                        refine d_pure (v := .vp (enc_Fact x7) 0) 65 rfl rfl rfl rfl (by kernel_rfl) (by kernel_rfl) (loc_indexVs (e := 24) (sz := 5) (k := .i64) (els := (List.map enc_Fact y4)) (cs := (enc_Fact x7)) (by kernel_rfl) (by kernel_rfl) (by kernel_rfl) g7a (by rw [g7c]; exact map_get _ (by omega))) ?_
                        refine d_runs 6 66 [(125, .bool (decide (x6.until_ > x7.from_))), (124, .bool (decide (x6.until_ > x7.from_))), (123, .bool (decide (x6.until_ > x7.from_))), (122, .bool (decide (x6.until_ > x7.from_))), (121, .int .i64 x7.from_), (120, .vp (enc_Fact x7) 2)] (pfp 6 71) (by kernel_rfl) (by kernel_rfl) ?_
                        refine d_nil (by kernel_rfl) ?_
                        obtain rfl := Option.some.inj hs
                        refine nrm_join (decide (x6.until_ > x7.from_)) rfl ?_
                        exact cut_of [0, 1, 2, 3, 9, 10, 11, 12, 13, 14, 125] [] (by kernel_rfl) (by kernel_rfl) (by kernel_rfl)
                      · replace hs := bif_t h11 hs
                        refine d_runs 15 57 [(125, .bool true), (124, .bool true), (123, .bool true), (122, .no), (121, .no), (120, .no), (119, .no), (118, .no), (117, .no), (116, .no), (115, .no), (114, .no), (113, .no), (112, .no), (111, .no)] (pfp 15 71) (by kernel_rfl) (by kernel_rfl) ?_
                        refine d_nil (by kernel_rfl) ?_
                        obtain rfl := Option.some.inj hs
                        refine nrm_join true rfl ?_
                        exact cut_of [0, 1, 2, 3, 9, 10, 11, 12, 13, 14, 125] [] (by kernel_rfl) (by kernel_rfl) (by kernel_rfl)
                  · replace hs := bif_t h9 hs
                    refine d_runs 2 32 [(87, .int .i64 q1.2), (86, .vs 5 (List.map enc_Fact y4))] (pfp 2 33) (by kernel_rfl) (by kernel_rfl) ?_
                    obtain ⟨x8, g8, hs⟩ := bind_some hs; obtain ⟨g8a, g8b, g8c⟩ := idx_some g8
                    refine d_pure (v := .vp (enc_Fact x8) 0) 34 rfl rfl rfl rfl (by kernel_rfl) (by kernel_rfl) (loc_indexVs (e := 24) (sz := 5) (k := .i64) (els := (List.map enc_Fact y4)) (cs := (enc_Fact x8)) (by kernel_rfl) (by kernel_rfl) (by kernel_rfl) g8a (by rw [g8c]; exact map_get _ (by omega))) ?_
                    refine d_runs 4 35 [(92, .int .i64 q1.2), (91, .vs 5 (List.map enc_Fact y4)), (90, .int .i64 x8.until_), (89, .vp (enc_Fact x8) 3)] (pfp 4 38) (by kernel_rfl) (by kernel_rfl) ?_
                    obtain ⟨x9, g9, hs⟩ := bind_some hs; obtain ⟨g9a, g9b, g9c⟩ := idx_some g9
                    refine d_pure (v := .vp (enc_Fact x9) 0) 39 rfl rfl rfl rfl (by kernel_rfl) (by kernel_rfl) (loc_indexVs (e := 24) (sz := 5) (k := .i64) (els := (List.map enc_Fact y4)) (cs := (enc_Fact x9)) (by kernel_rfl) (by kernel_rfl) (by kernel_rfl) g9a (by rw [g9c]; exact map_get _ (by omega))) ?_
                    refine d_runs 6 40 [(99, .bool (decide (x8.until_ ≤ x9.from_))), (98, .bool (decide (x8.until_ ≤ x9.from_))), (97, .bool (decide (x8.until_ ≤ x9.from_))), (96, .bool (decide (x8.until_ ≤ x9.from_))), (95, .int .i64 x9.from_), (94, .vp (enc_Fact x9) 2)] (pfp 6 45) (by kernel_rfl) (by kernel_rfl) ?_
                    cases h12 : ((decide (x8.until_ ≤ x9.from_)))
                    · replace hs := bif_f h12 hs
                      refine d_runs 3 46 [(102, .bool (decide (q1.2 > 0))), (101, .bool (decide (q1.2 > 0))), (100, .int .i64 q1.2)] (pfp 3 48) (by kernel_rfl) (by kernel_rfl) ?_
                      cases h13 : ((decide (q1.2 > 0)))
                      · replace hs := bif_f h13 hs
                        refine d_runs 23 49 [(125, .bool false), (124, .bool false), (123, .no), (122, .no), (121, .no), (120, .no), (119, .no), (118, .no), (117, .no), (116, .no), (115, .no), (114, .no), (113, .no), (112, .no), (111, .no), (110, .no), (109, .no), (108, .no), (107, .no), (106, .no), (105, .no), (104, .no), (103, .no)] (pfp 23 71) (by kernel_rfl) (by kernel_rfl) ?_
                        refine d_nil (by kernel_rfl) ?_
                        obtain rfl := Option.some.inj hs
                        refine nrm_join false rfl ?_
                        exact cut_of [0, 1, 2, 3, 9, 10, 11, 12, 13, 14, 125] [] (by kernel_rfl) (by kernel_rfl) (by kernel_rfl)
                      · replace hs := bif_t h13 hs
                        refine d_runs 3 49 [(105, .int .i64 (w64 (q1.2 - 1))), (104, .int .i64 q1.2), (103, .vs 5 (List.map enc_Fact y4))] (pfp 3 51) (by kernel_rfl) (by kernel_rfl) ?_
                        obtain ⟨x10, g10, hs⟩ := bind_some hs; obtain ⟨g10a, g10b, g10c⟩ := idx_some g10
                        refine d_pure (v := .vp (enc_Fact x10) 0) 52 rfl rfl rfl rfl (by kernel_rfl) (by kernel_rfl) (loc_indexVs (e := 24) (sz := 5) (k := .i64) (els := (List.map enc_Fact y4)) (cs := (enc_Fact x10)) (by kernel_rfl) (by kernel_rfl) (by kernel_rfl) g10a (by rw [g10c]; exact map_get _ (by omega))) ?_
                        refine d_runs 4 53 [(110, .bool (decide (x10.until_ = 0))), (109, .bool (decide (x10.until_ = 0))), (108, .int .i64 x10.until_), (107, .vp (enc_Fact x10) 3)] (pfp 4 56) (by kernel_rfl) (by kernel_rfl) ?_
                        cases h14 : ((decide (x10.until_ = 0)))
                        · replace hs := bif_f h14 hs
                          refine d_runs 3 57 [(113, .int .i64 (w64 (q1.2 - 1))), (112, .int .i64 q1.2), (111, .vs 5 (List.map enc_Fact y4))] (pfp 3 59) (by kernel_rfl) (by kernel_rfl) ?_
                          obtain ⟨x11, g11, hs⟩ := bind_some hs; obtain ⟨g11a, g11b, g11c⟩ := idx_some g11
                          refine d_pure (v := .vp (enc_Fact x11) 0) 60 rfl rfl rfl rfl (by kernel_rfl) (by kernel_rfl) (loc_indexVs (e := 24) (sz := 5) (k := .i64) (els := (List.map enc_Fact y4)) (cs := (enc_Fact x11)) (by kernel_rfl) (by kernel_rfl) (by kernel_rfl) g11a (by rw [g11c]; exact map_get _ (by omega))) ?_
                          refine d_runs 4 61 [(118, .int .i64 q1.2), (117, .vs 5 (List.map enc_Fact y4)), (116, .int .i64 x11.until_), (115, .vp (enc_Fact x11) 3)] (pfp 4 64) (by kernel_rfl) (by kernel_rfl) ?_
                          obtain ⟨x12, g12, hs⟩ := bind_some hs; obtain ⟨g12a, g12b, g12c⟩ := idx_some g12
                          refine d_pure (v := .vp (enc_Fact x12) 0) 65 rfl rfl rfl rfl (by kernel_rfl) (by kernel_rfl) (loc_indexVs (e := 24) (sz := 5) (k := .i64) (els := (List.map enc_Fact y4)) (cs := (enc_Fact x12)) (by kernel_rfl) (by kernel_rfl) (by kernel_rfl) g12a (by rw [g12c]; exact map_get _ (by omega))) ?_
                          refine d_runs 6 66 [(125, .bool (decide (x11.until_ > x12.from_))), (124, .bool (decide (x11.until_ > x12.from_))), (123, .bool (decide (x11.until_ > x12.from_))), (122, .bool (decide (x11.until_ > x12.from_))), (121, .int .i64 x12.from_), (120, .vp (enc_Fact x12) 2)] (pfp 6 71) (by kernel_rfl) (by kernel_rfl) ?_
                          refine d_nil (by kernel_rfl) ?_
                          obtain rfl := Option.some.inj hs
                          refine nrm_join (decide (x11.until_ > x12.from_)) rfl ?_
                          exact cut_of [0, 1, 2, 3, 9, 10, 11, 12, 13, 14, 125] [] (by kernel_rfl) (by kernel_rfl) (by kernel_rfl)
                        · replace hs := bif_t h14 hs
                          refine d_runs 15 57 [(125, .bool true), (124, .bool true), (123, .bool true), (122, .no), (121, .no), (120, .no), (119, .no), (118, .no), (117, .no), (116, .no), (115, .no), (114, .no), (113, .no), (112, .no), (111, .no)] (pfp 15 71) (by kernel_rfl) (by kernel_rfl) ?_
                          refine d_nil (by kernel_rfl) ?_
                          obtain rfl := Option.some.inj hs
                          refine nrm_join true rfl ?_
                          exact cut_of [0, 1, 2, 3, 9, 10, 11, 12, 13, 14, 125] [] (by kernel_rfl) (by kernel_rfl) (by kernel_rfl)
                    · replace hs := bif_t h12 hs
                      refine d_runs 26 46 [(125, .bool true), (124, .no), (123, .no), (122, .no), (121, .no), (120, .no), (119, .no), (118, .no), (117, .no), (116, .no), (115, .no), (114, .no), (113, .no), (112, .no), (111, .no), (110, .no), (109, .no), (108, .no), (107, .no), (106, .no), (105, .no), (104, .no), (103, .no), (102, .no), (101, .no), (100, .no)] (pfp 26 71) (by kernel_rfl) (by kernel_rfl) ?_
                      refine d_nil (by kernel_rfl) ?_
                      obtain rfl := Option.some.inj hs
                      refine nrm_join true rfl ?_
                      exact cut_of [0, 1, 2, 3, 9, 10, 11, 12, 13, 14, 125] [] (by kernel_rfl) (by kernel_rfl) (by kernel_rfl)
                · replace hs := bif_t h8 hs
                  refine d_runs 47 25 [(125, .bool true), (124, .no), (123, .no), (122, .no), (121, .no), (120, .no), (119, .no), (118, .no), (117, .no), (116, .no), (115, .no), (114, .no), (113, .no), (112, .no), (111, .no), (110, .no), (109, .no), (108, .no), (107, .no), (106, .no), (105, .no), (104, .no), (103, .no), (102, .no), (101, .no), (100, .no), (99, .bool true), (98, .bool true), (97, .no), (96, .no), (95, .no), (94, .no), (93, .no), (92, .no), (91, .no), (90, .no), (89, .no), (88, .no), (87, .no), (86, .no), (85, .no), (84, .no), (83, .no), (82, .no), (81, .no), (80, .no), (79, .no)] (pfp 47 71) (by kernel_rfl) (by kernel_rfl) ?_
                  refine d_nil (by kernel_rfl) ?_
                  obtain rfl := Option.some.inj hs
                  refine nrm_join true rfl ?_
                  exact cut_of [0, 1, 2, 3, 9, 10, 11, 12, 13, 14, 125] [] (by kernel_rfl) (by kernel_rfl) (by kernel_rfl)
              · replace hs := bif_t h7 hs
                refine d_runs 55 17 [(125, .bool true), (124, .no), (123, .no), (122, .no), (121, .no), (120, .no), (119, .no), (118, .no), (117, .no), (116, .no), (115, .no), (114, .no), (113, .no), (112, .no), (111, .no), (110, .no), (109, .no), (108, .no), (107, .no), (106, .no), (105, .no), (104, .no), (103, .no), (102, .no), (101, .no), (100, .no), (99, .bool true), (98, .bool true), (97, .no), (96, .no), (95, .no), (94, .no), (93, .no), (92, .no), (91, .no), (90, .no), (89, .no), (88, .no), (87, .no), (86, .no), (85, .no), (84, .no), (83, .no), (82, .no), (81, .no), (80, .no), (79, .no), (78, .bool true), (77, .bool true), (76, .no), (75, .no), (74, .no), (73, .no), (72, .no), (71, .no)] (pfp 55 71) (by kernel_rfl) (by kernel_rfl) ?_
                refine d_nil (by kernel_rfl) ?_
                obtain rfl := Option.some.inj hs
                refine nrm_join true rfl ?_
                exact cut_of [0, 1, 2, 3, 9, 10, 11, 12, 13, 14, 125] [] (by kernel_rfl) (by kernel_rfl) (by kernel_rfl)
            · replace hs := bif_t h6 hs
              refine d_runs 64 8 [(125, .bool true), (124, .no), (123, .no), (122, .no), (121, .no), (120, .no), (119, .no), (118, .no), (117, .no), (116, .no), (115, .no), (114, .no), (113, .no), (112, .no), (111, .no), (110, .no), (109, .no), (108, .no), (107, .no), (106, .no), (105, .no), (104, .no), (103, .no), (102, .no), (101, .no), (100, .no), (99, .bool true), (98, .bool true), (97, .no), (96, .no), (95, .no), (94, .no), (93, .no), (92, .no), (91, .no), (90, .no), (89, .no), (88, .no), (87, .no), (86, .no), (85, .no), (84, .no), (83, .no), (82, .no), (81, .no), (80, .no), (79, .no), (78, .bool true), (77, .bool true), (76, .no), (75, .no), (74, .no), (73, .no), (72, .no), (71, .no), (70, .bool true), (69, .bool true), (68, .no), (67, .no), (66, .no), (65, .no), (64, .no), (63, .no), (62, .no)] (pfp 64 71) (by kernel_rfl) (by kernel_rfl) ?_
              refine d_nil (by kernel_rfl) ?_
              obtain rfl := Option.some.inj hs
              refine nrm_join true rfl ?_
              exact cut_of [0, 1, 2, 3, 9, 10, 11, 12, 13, 14, 125] [] (by kernel_rfl) (by kernel_rfl) (by kernel_rfl)
          · subst hz; clear hs; have hs := hk3; clear hk3
            refine nrm_thenV ?_
            refine v_cond v3 (by kernel_rfl) (fun h15 => ?_) (fun h15 => ?_)
            · replace hs := bif_t h15 hs
              refine v_seq ?_
              refine vr_text ?_
              refine o_runs 1 [(8, .bool false)] (by kernel_rfl) ?_
              refine ov_nil ?_
              refine nrm_thenV ?_
              refine v_ret ?_
              refine ret_thenV ?_
              refine ret_blkV ?_
              refine ret_thenV ?_
              refine ret_fuel ?_
              refine ret_blkV ?_
              refine ret_join ?_
              refine ret_thenV ?_
              obtain rfl := Option.some.inj hs
              replace hs := hk2
              obtain rfl := Option.some.inj hs
              exact fin_ret (by kernel_rfl) (by kernel_rfl) (by kernel_rfl)
            · replace hs := bif_f h15 hs
              refine v_skip ?_
              refine nrm_thenV ?_
              refine v_seq ?_
              refine v_seq ?_
              refine vr_text ?_
              refine o_runs 2 [(127, .int .i64 q1.2), (126, .vs 5 (List.map enc_Fact y4))] (by kernel_rfl) ?_
              obtain ⟨x13, g13, hs⟩ := bind_some hs; obtain ⟨g13a, g13b, g13c⟩ := idx_some g13
              refine o_pure (v := .vp (enc_Fact x13) 0) (by kernel_rfl) (by kernel_rfl) (loc_indexVs (e := 24) (sz := 5) (k := .i64) (els := (List.map enc_Fact y4)) (cs := (enc_Fact x13)) (by kernel_rfl) (by kernel_rfl) (by kernel_rfl) g13a (by rw [g13c]; exact map_get _ (by omega))) ?_
              refine o_runs 2 [(130, .int .i64 day), (129, .agg (enc_Fact x13))] (by kernel_rfl) ?_
              obtain ⟨y6, c6, hs⟩ := bind_some hs
              refine o_pure (v := .bool y6) (by kernel_rfl) (by kernel_rfl) (loc_gcall0 (callV_func hbv23 (by kernel_rfl)) (w_has x13 day _ c6) (by kernel_rfl)) ?_
              refine ov_nil ?_
              refine nrm_thenV ?_
              obtain ⟨z4, hs, hk4⟩ := bind_some hs
              refine v_join (S := Bool) (fun u => z4 = .inr u) (fun u => [(0, .vs 5 (List.map enc_Fact base)), (1, .str key), (2, .int .i64 day), (3, .int .i64 known), (9, .bool y1), (10, .vs 5 (List.map enc_Fact y4)), (11, .int .i64 y5.1), (12, .bool y5.2), (13, .bool u), (14, .int .i64 q1.2)]) (fun u => []) ?_ (fun v4 hz => ?_)
              · refine v_cond y6 (by kernel_rfl) (fun h16 => ?_) (fun h16 => ?_)
                · replace hs := bif_t h16 hs
                  refine v_seq ?_
                  refine vr_text ?_
                  refine o_runs 1 [(13, .bool true)] (by kernel_rfl) ?_
                  refine ov_nil ?_
                  refine nrm_thenV ?_
                  refine v_seq ?_
                  obtain ⟨z5, hs, hk5⟩ := bind_some hs
                  refine v_join (S := Bool) (fun u => u = z5) (fun u => [(0, .vs 5 (List.map enc_Fact base)), (1, .str key), (2, .int .i64 day), (3, .int .i64 known), (9, .bool y1), (10, .vs 5 (List.map enc_Fact y4)), (11, .int .i64 y5.1), (12, .bool y5.2), (13, .bool true), (14, .int .i64 q1.2), (142, .bool u)]) (fun u => []) ?_ (fun v5 hz => ?_)
                  · refine vr_text ?_
                    refine o_runs 3 [(134, .bool (!y5.2)), (133, .bool (!y5.2)), (132, .bool y5.2)] (by kernel_rfl) ?_
                    cases h17 : ((!y5.2))
                    · replace hs := bif_f h17 hs
                      refine o_runs 3 [(137, .int .i64 q1.2), (136, .vs 5 (List.map enc_Fact y4)), (135, .int .i64 y5.1)] (by kernel_rfl) ?_
                      obtain ⟨x14, g14, hs⟩ := bind_some hs; obtain ⟨g14a, g14b, g14c⟩ := idx_some g14
                      refine o_pure (v := .vp (enc_Fact x14) 0) (by kernel_rfl) (by kernel_rfl) (loc_indexVs (e := 24) (sz := 5) (k := .i64) (els := (List.map enc_Fact y4)) (cs := (enc_Fact x14)) (by kernel_rfl) (by kernel_rfl) (by kernel_rfl) g14a (by rw [g14c]; exact map_get _ (by omega))) ?_
                      refine o_runs 4 [(142, .bool (!(decide (y5.1 = x14.value)))), (141, .bool (!(decide (y5.1 = x14.value)))), (140, .int .i64 x14.value), (139, .vp (enc_Fact x14) 1)] (by kernel_rfl) ?_
                      refine ov_nil ?_
                      obtain rfl := Option.some.inj hs
                      refine nrm_join (!(decide (y5.1 = x14.value))) rfl ?_
                      exact cut_of [0, 1, 2, 3, 9, 10, 11, 12, 13, 14, 142] [] (by kernel_rfl) (by kernel_rfl) (by kernel_rfl)
                    · replace hs := bif_t h17 hs
                      refine o_runs 8 [(142, .bool true), (141, .no), (140, .no), (139, .no), (138, .no), (137, .no), (136, .no), (135, .no)] (by kernel_rfl) ?_
                      refine ov_nil ?_
                      obtain rfl := Option.some.inj hs
                      refine nrm_join true rfl ?_
                      exact cut_of [0, 1, 2, 3, 9, 10, 11, 12, 13, 14, 142] [] (by kernel_rfl) (by kernel_rfl) (by kernel_rfl)
                  · subst hz; clear hs; have hs := hk5; clear hk5
                    refine nrm_thenV ?_
                    refine v_cond v5 (by kernel_rfl) (fun h18 => ?_) (fun h18 => ?_)
                    · replace hs := bif_t h18 hs
                      refine v_seq ?_
                      refine vr_text ?_
                      refine o_runs 1 [(8, .bool false)] (by kernel_rfl) ?_
                      refine ov_nil ?_
                      refine nrm_thenV ?_
                      refine v_ret ?_
                      refine ret_join ?_
                      refine ret_thenV ?_
                      refine ret_blkV ?_
                      refine ret_thenV ?_
                      refine ret_fuel ?_
                      refine ret_blkV ?_
                      refine ret_join ?_
                      refine ret_thenV ?_
                      obtain rfl := Option.some.inj hs
                      replace hs := hk4
                      obtain rfl := Option.some.inj hs
                      replace hs := hk2
                      obtain rfl := Option.some.inj hs
                      exact fin_ret (by kernel_rfl) (by kernel_rfl) (by kernel_rfl)
                    · replace hs := bif_f h18 hs
                      refine v_skip ?_
                      obtain rfl := Option.some.inj hs
                      refine nrm_join true rfl ?_
                      exact cut_of [0, 1, 2, 3, 9, 10, 11, 12, 13, 14] [] (by kernel_rfl) (by kernel_rfl) (by kernel_rfl)
                · replace hs := bif_f h16 hs
                  refine v_skip ?_
                  obtain rfl := Option.some.inj hs
                  refine nrm_join q1.1 rfl ?_
                  exact cut_of [0, 1, 2, 3, 9, 10, 11, 12, 13, 14] [] (by kernel_rfl) (by kernel_rfl) (by kernel_rfl)
              · subst hz; clear hs; have hs := hk4; clear hk4
                refine nrm_thenV ?_
                refine v_seq ?_
                refine vr_text ?_
                refine o_runs 1 [(15, .bool false)] (by kernel_rfl) ?_
                refine ov_nil ?_
                refine nrm_thenV ?_
                refine v_seq ?_
                refine v_seq ?_
                refine vr_text ?_
                refine o_runs 1 [(16, .int .i64 0)] (by kernel_rfl) ?_
                refine ov_nil ?_
                refine nrm_thenV ?_
                obtain ⟨z6, hs, hk6⟩ := bind_some hs
                refine v_join (S := Bool) (fun u => u = z6) (fun u => [(0, .vs 5 (List.map enc_Fact base)), (1, .str key), (2, .int .i64 day), (3, .int .i64 known), (9, .bool y1), (10, .vs 5 (List.map enc_Fact y4)), (11, .int .i64 y5.1), (12, .bool y5.2), (13, .bool v4), (14, .int .i64 q1.2), (15, .bool u)]) (fun u => []) ?_ (fun v6 hz => ?_)
                · refine v_block ?_
                  refine v_fuel (S := Bool × Int) (fun u => [(0, .vs 5 (List.map enc_Fact base)), (1, .str key), (2, .int .i64 day), (3, .int .i64 known), (9, .bool y1), (10, .vs 5 (List.map enc_Fact y4)), (11, .int .i64 y5.1), (12, .bool y5.2), (13, .bool v4), (14, .int .i64 q1.2), (15, .bool u.1), (16, .int .i64 u.2)]) (fun u => []) (s_greenbeltlaw44_FactHistory_L2 base key y4 q1) (fun _ => rfl) KK (false, 0) hs (cut_of [0, 1, 2, 3, 9, 10, 11, 12, 13, 14, 15, 16] [] (by kernel_rfl) (by kernel_rfl) (by kernel_rfl)) (fun K2 q2 hs => ?_)
                  rw [s_greenbeltlaw44_FactHistory_L2] at hs
                  show WpV cK0 Try.prog none 221 _ _ [(0, .vs 5 (List.map enc_Fact base)), (1, .str key), (2, .int .i64 day), (3, .int .i64 known), (9, .bool y1), (10, .vs 5 (List.map enc_Fact y4)), (11, .int .i64 y5.1), (12, .bool y5.2), (13, .bool v4), (14, .int .i64 q1.2), (15, .bool q2.1), (16, .int .i64 q2.2)] [] []
                  refine v_seq ?_
                  refine v_seq ?_
                  refine vr_text ?_
                  refine o_runs 2 [(144, .vs 5 (List.map enc_Fact base)), (143, .int .i64 q2.2)] (by kernel_rfl) ?_
                  refine o_pure (v := .int .i64 (List.length base : Int)) (by kernel_rfl) (by kernel_rfl) (loc_lenVs (sz := 5) (els := (List.map enc_Fact base)) (by kernel_rfl) (by kernel_rfl) (List.length_map ..)) ?_
                  refine o_runs 1 [(146, .bool (decide (q2.2 < (List.length base : Int))))] (by kernel_rfl) ?_
                  refine ov_nil ?_
                  refine nrm_thenV ?_
                  refine v_cond (decide (q2.2 < (List.length base : Int))) (by kernel_rfl) (fun h19 => ?_) (fun h19 => ?_)
                  · replace hs := bif_t h19 hs
                    refine v_skip ?_
                    refine nrm_thenV ?_
                    refine v_seq ?_
                    refine v_block ?_
                    refine v_seq ?_
                    refine vr_text ?_
                    refine o_runs 2 [(150, .int .i64 q2.2), (149, .vs 5 (List.map enc_Fact base))] (by kernel_rfl) ?_
                    obtain ⟨x15, g15, hs⟩ := bind_some hs; obtain ⟨g15a, g15b, g15c⟩ := idx_some g15
                    refine o_pure (v := .vp (enc_Fact x15) 0) (by kernel_rfl) (by kernel_rfl) (loc_indexVs (e := 24) (sz := 5) (k := .i64) (els := (List.map enc_Fact base)) (cs := (enc_Fact x15)) (by kernel_rfl) (by kernel_rfl) (by kernel_rfl) g15a (by rw [g15c]; exact map_get _ (by omega))) ?_
                    refine o_runh 3 [(17, .ptr 17 0 0), (152, .agg (enc_Fact x15))] [(17, .box 24 [.str x15.key, .int .i64 x15.value, .int .i64 x15.from_, .int .i64 x15.until_, .int .i64 x15.known])] (by kernel_rfl) ?_
                    refine ov_nil ?_
                    refine nrm_thenV ?_
                    obtain ⟨z7, hs, hk7⟩ := bind_some hs
                    refine v_join (S := Bool) (fun u => u = z7) (fun u => [(0, .vs 5 (List.map enc_Fact base)), (1, .str key), (2, .int .i64 day), (3, .int .i64 known), (9, .bool y1), (10, .vs 5 (List.map enc_Fact y4)), (11, .int .i64 y5.1), (12, .bool y5.2), (13, .bool v4), (14, .int .i64 q1.2), (15, .bool u), (16, .int .i64 q2.2)]) (fun u => []) ?_ (fun v7 hz => ?_)
                    · refine v_draw mixedH (by kernel_rfl) ?_
                      refine d_runs 2 0 [(154, .bool q2.1), (153, .bool q2.1)] (pfp 2 1) (by kernel_rfl) (by kernel_rfl) ?_
                      cases h20 : (q2.1)
                      · replace hs := bif_f h20 hs
                        refine d_runs 5 2 [(159, .bool (decide (x15.key = key))), (158, .bool (decide (x15.key = key))), (157, .str key), (156, .str x15.key), (155, .ptr 17 0 0)] [⟨6, [], []⟩, ⟨5, [], []⟩, ⟨4, [], []⟩, ⟨3, [], [17]⟩, ⟨2, [], []⟩] (by kernel_rfl) (by kernel_rfl) ?_
                        cases h21 : ((decide (x15.key = key)))
                        · replace hs := bif_f h21 hs
                          refine d_runs 54 7 [(15, .bool false), (212, .bool false), (211, .bool false), (210, .no), (209, .no), (208, .no), (207, .no), (206, .no), (205, .no), (204, .no), (203, .no), (202, .no), (201, .no), (200, .no), (199, .no), (198, .no), (197, .no), (196, .no), (195, .no), (194, .no), (193, .no), (192, .no), (191, .no), (190, .no), (189, .bool false), (188, .bool false), (187, .no), (186, .no), (185, .no), (184, .no), (183, .no), (182, .no), (181, .no), (180, .no), (179, .bool false), (178, .bool false), (177, .no), (176, .no), (175, .no), (174, .no), (173, .no), (172, .no), (171, .no), (170, .no), (169, .bool false), (168, .bool false), (167, .no), (166, .no), (165, .no), (164, .no), (163, .no), (162, .no), (161, .no), (160, .no)] (pfp 54 60) (by kernel_rfl) (by kernel_rfl) ?_
                          refine d_nil (by kernel_rfl) ?_
                          obtain rfl := Option.some.inj hs
                          refine nrm_join false rfl ?_
                          exact cut_of [0, 1, 2, 3, 9, 10, 11, 12, 13, 14, 15, 16] [] (by kernel_rfl) (by kernel_rfl) (by kernel_rfl)
                        · replace hs := bif_t h21 hs
                          refine d_runs 4 7 [(163, .int .i64 q1.2), (162, .vs 5 (List.map enc_Fact y4)), (161, .int .i64 x15.value), (160, .ptr 17 0 1)] [⟨10, [], []⟩, ⟨9, [], []⟩, ⟨8, [], [17]⟩, ⟨7, [], []⟩] (by kernel_rfl) (by kernel_rfl) ?_
                          obtain ⟨x16, g16, hs⟩ := bind_some hs; obtain ⟨g16a, g16b, g16c⟩ := idx_some g16
                          refine d_pure (v := .vp (enc_Fact x16) 0) 11 rfl rfl rfl rfl (by kernel_rfl) (by kernel_rfl) (loc_indexVs (e := 24) (sz := 5) (k := .i64) (els := (List.map enc_Fact y4)) (cs := (enc_Fact x16)) (by kernel_rfl) (by kernel_rfl) (by kernel_rfl) g16a (by rw [g16c]; exact map_get _ (by omega))) ?_
                          refine d_runs 5 12 [(169, .bool (decide (x15.value = x16.value))), (168, .bool (decide (x15.value = x16.value))), (167, .bool (decide (x15.value = x16.value))), (166, .int .i64 x16.value), (165, .vp (enc_Fact x16) 1)] (pfp 5 16) (by kernel_rfl) (by kernel_rfl) ?_
                          cases h22 : ((decide (x15.value = x16.value)))
                          · replace hs := bif_f h22 hs
                            refine d_runs 44 17 [(15, .bool false), (212, .bool false), (211, .bool false), (210, .no), (209, .no), (208, .no), (207, .no), (206, .no), (205, .no), (204, .no), (203, .no), (202, .no), (201, .no), (200, .no), (199, .no), (198, .no), (197, .no), (196, .no), (195, .no), (194, .no), (193, .no), (192, .no), (191, .no), (190, .no), (189, .bool false), (188, .bool false), (187, .no), (186, .no), (185, .no), (184, .no), (183, .no), (182, .no), (181, .no), (180, .no), (179, .bool false), (178, .bool false), (177, .no), (176, .no), (175, .no), (174, .no), (173, .no), (172, .no), (171, .no), (170, .no)] (pfp 44 60) (by kernel_rfl) (by kernel_rfl) ?_
                            refine d_nil (by kernel_rfl) ?_
                            obtain rfl := Option.some.inj hs
                            refine nrm_join false rfl ?_
                            exact cut_of [0, 1, 2, 3, 9, 10, 11, 12, 13, 14, 15, 16] [] (by kernel_rfl) (by kernel_rfl) (by kernel_rfl)
                          · replace hs := bif_t h22 hs
                            refine d_runs 4 17 [(173, .int .i64 q1.2), (172, .vs 5 (List.map enc_Fact y4)), (171, .int .i64 x15.known), (170, .ptr 17 0 4)] [⟨20, [], []⟩, ⟨19, [], []⟩, ⟨18, [], [17]⟩, ⟨17, [], []⟩] (by kernel_rfl) (by kernel_rfl) ?_
                            obtain ⟨x17, g17, hs⟩ := bind_some hs; obtain ⟨g17a, g17b, g17c⟩ := idx_some g17
                            refine d_pure (v := .vp (enc_Fact x17) 0) 21 rfl rfl rfl rfl (by kernel_rfl) (by kernel_rfl) (loc_indexVs (e := 24) (sz := 5) (k := .i64) (els := (List.map enc_Fact y4)) (cs := (enc_Fact x17)) (by kernel_rfl) (by kernel_rfl) (by kernel_rfl) g17a (by rw [g17c]; exact map_get _ (by omega))) ?_
                            refine d_runs 5 22 [(179, .bool (decide (x15.known = x17.known))), (178, .bool (decide (x15.known = x17.known))), (177, .bool (decide (x15.known = x17.known))), (176, .int .i64 x17.known), (175, .vp (enc_Fact x17) 4)] (pfp 5 26) (by kernel_rfl) (by kernel_rfl) ?_
                            cases h23 : ((decide (x15.known = x17.known)))
                            · replace hs := bif_f h23 hs
                              refine d_runs 34 27 [(15, .bool false), (212, .bool false), (211, .bool false), (210, .no), (209, .no), (208, .no), (207, .no), (206, .no), (205, .no), (204, .no), (203, .no), (202, .no), (201, .no), (200, .no), (199, .no), (198, .no), (197, .no), (196, .no), (195, .no), (194, .no), (193, .no), (192, .no), (191, .no), (190, .no), (189, .bool false), (188, .bool false), (187, .no), (186, .no), (185, .no), (184, .no), (183, .no), (182, .no), (181, .no), (180, .no)] (pfp 34 60) (by kernel_rfl) (by kernel_rfl) ?_
                              refine d_nil (by kernel_rfl) ?_
                              obtain rfl := Option.some.inj hs
                              refine nrm_join false rfl ?_
                              exact cut_of [0, 1, 2, 3, 9, 10, 11, 12, 13, 14, 15, 16] [] (by kernel_rfl) (by kernel_rfl) (by kernel_rfl)
                            · replace hs := bif_t h23 hs
                              refine d_runs 4 27 [(183, .int .i64 q1.2), (182, .vs 5 (List.map enc_Fact y4)), (181, .int .i64 x15.from_), (180, .ptr 17 0 2)] [⟨30, [], []⟩, ⟨29, [], []⟩, ⟨28, [], [17]⟩, ⟨27, [], []⟩] (by kernel_rfl) (by kernel_rfl) ?_
                              obtain ⟨x18, g18, hs⟩ := bind_some hs; obtain ⟨g18a, g18b, g18c⟩ := idx_some g18
                              refine d_pure (v := .vp (enc_Fact x18) 0) 31 rfl rfl rfl rfl (by kernel_rfl) (by kernel_rfl) (loc_indexVs (e := 24) (sz := 5) (k := .i64) (els := (List.map enc_Fact y4)) (cs := (enc_Fact x18)) (by kernel_rfl) (by kernel_rfl) (by kernel_rfl) g18a (by rw [g18c]; exact map_get _ (by omega))) ?_
                              refine d_runs 5 32 [(189, .bool (decide (x15.from_ ≤ x18.from_))), (188, .bool (decide (x15.from_ ≤ x18.from_))), (187, .bool (decide (x15.from_ ≤ x18.from_))), (186, .int .i64 x18.from_), (185, .vp (enc_Fact x18) 2)] (pfp 5 36) (by kernel_rfl) (by kernel_rfl) ?_
                              cases h24 : ((decide (x15.from_ ≤ x18.from_)))
                              · replace hs := bif_f h24 hs
                                refine d_runs 24 37 [(15, .bool false), (212, .bool false), (211, .bool false), (210, .no), (209, .no), (208, .no), (207, .no), (206, .no), (205, .no), (204, .no), (203, .no), (202, .no), (201, .no), (200, .no), (199, .no), (198, .no), (197, .no), (196, .no), (195, .no), (194, .no), (193, .no), (192, .no), (191, .no), (190, .no)] (pfp 24 60) (by kernel_rfl) (by kernel_rfl) ?_
                                refine d_nil (by kernel_rfl) ?_
                                obtain rfl := Option.some.inj hs
                                refine nrm_join false rfl ?_
                                exact cut_of [0, 1, 2, 3, 9, 10, 11, 12, 13, 14, 15, 16] [] (by kernel_rfl) (by kernel_rfl) (by kernel_rfl)
                              · replace hs := bif_t h24 hs
                                refine d_runs 4 37 [(193, .bool (decide (x15.until_ = 0))), (192, .bool (decide (x15.until_ = 0))), (191, .int .i64 x15.until_), (190, .ptr 17 0 3)] [⟨40, [], []⟩, ⟨39, [], []⟩, ⟨38, [], [17]⟩, ⟨37, [], []⟩] (by kernel_rfl) (by kernel_rfl) ?_
                                cases h25 : ((decide (x15.until_ = 0)))
                                · replace hs := bif_f h25 hs
                                  refine d_runs 2 41 [(195, .int .i64 q1.2), (194, .vs 5 (List.map enc_Fact y4))] (pfp 2 42) (by kernel_rfl) (by kernel_rfl) ?_
                                  obtain ⟨x19, g19, hs⟩ := bind_some hs; obtain ⟨g19a, g19b, g19c⟩ := idx_some g19
                                  refine d_pure (v := .vp (enc_Fact x19) 0) 43 rfl rfl rfl rfl (by kernel_rfl) (by kernel_rfl) (loc_indexVs (e := 24) (sz := 5) (k := .i64) (els := (List.map enc_Fact y4)) (cs := (enc_Fact x19)) (by kernel_rfl) (by kernel_rfl) (by kernel_rfl) g19a (by rw [g19c]; exact map_get _ (by omega))) ?_
                                  refine d_runs 4 44 [(200, .bool (!(decide (x19.until_ = 0)))), (199, .bool (!(decide (x19.until_ = 0)))), (198, .int .i64 x19.until_), (197, .vp (enc_Fact x19) 3)] (pfp 4 47) (by kernel_rfl) (by kernel_rfl) ?_
                                  cases h26 : ((!(decide (x19.until_ = 0))))
                                  · replace hs := bif_f h26 hs
                                    refine d_runs 13 48 [(15, .bool false), (212, .bool false), (211, .bool false), (210, .bool false), (209, .bool false), (208, .no), (207, .no), (206, .no), (205, .no), (204, .no), (203, .no), (202, .no), (201, .no)] (pfp 13 60) (by kernel_rfl) (by kernel_rfl) ?_
                                    refine d_nil (by kernel_rfl) ?_
                                    obtain rfl := Option.some.inj hs
                                    refine nrm_join false rfl ?_
                                    exact cut_of [0, 1, 2, 3, 9, 10, 11, 12, 13, 14, 15, 16] [] (by kernel_rfl) (by kernel_rfl) (by kernel_rfl)
                                  · replace hs := bif_t h26 hs
                                    refine d_runs 2 48 [(202, .int .i64 q1.2), (201, .vs 5 (List.map enc_Fact y4))] (pfp 2 49) (by kernel_rfl) (by kernel_rfl) ?_
                                    obtain ⟨x20, g20, hs⟩ := bind_some hs; obtain ⟨g20a, g20b, g20c⟩ := idx_some g20
                                    refine d_pure (v := .vp (enc_Fact x20) 0) 50 rfl rfl rfl rfl (by kernel_rfl) (by kernel_rfl) (loc_indexVs (e := 24) (sz := 5) (k := .i64) (els := (List.map enc_Fact y4)) (cs := (enc_Fact x20)) (by kernel_rfl) (by kernel_rfl) (by kernel_rfl) g20a (by rw [g20c]; exact map_get _ (by omega))) ?_
                                    refine d_runs 10 51 [(15, .bool (decide (x20.until_ ≤ x15.until_))), (212, .bool (decide (x20.until_ ≤ x15.until_))), (211, .bool (decide (x20.until_ ≤ x15.until_))), (210, .bool (decide (x20.until_ ≤ x15.until_))), (209, .bool (decide (x20.until_ ≤ x15.until_))), (208, .bool (decide (x20.until_ ≤ x15.until_))), (207, .int .i64 x15.until_), (206, .ptr 17 0 3), (205, .int .i64 x20.until_), (204, .vp (enc_Fact x20) 3)] [⟨60, [], []⟩, ⟨59, [], []⟩, ⟨58, [], []⟩, ⟨57, [], []⟩, ⟨56, [], []⟩, ⟨55, [], []⟩, ⟨54, [], [17]⟩, ⟨53, [], []⟩, ⟨52, [], []⟩, ⟨51, [], []⟩] (by kernel_rfl) (by kernel_rfl) ?_
                                    refine d_nil (by kernel_rfl) ?_
                                    obtain rfl := Option.some.inj hs
                                    refine nrm_join (decide (x20.until_ ≤ x15.until_)) rfl ?_
                                    exact cut_of [0, 1, 2, 3, 9, 10, 11, 12, 13, 14, 15, 16] [] (by kernel_rfl) (by kernel_rfl) (by kernel_rfl)
                                · replace hs := bif_t h25 hs
                                  refine d_runs 20 41 [(15, .bool true), (212, .bool true), (211, .bool true), (210, .bool true), (209, .no), (208, .no), (207, .no), (206, .no), (205, .no), (204, .no), (203, .no), (202, .no), (201, .no), (200, .no), (199, .no), (198, .no), (197, .no), (196, .no), (195, .no), (194, .no)] (pfp 20 60) (by kernel_rfl) (by kernel_rfl) ?_
                                  refine d_nil (by kernel_rfl) ?_
                                  obtain rfl := Option.some.inj hs
                                  refine nrm_join true rfl ?_
                                  exact cut_of [0, 1, 2, 3, 9, 10, 11, 12, 13, 14, 15, 16] [] (by kernel_rfl) (by kernel_rfl) (by kernel_rfl)
                      · replace hs := bif_t h20 hs
                        refine d_runs 59 2 [(15, .bool true), (212, .bool true), (211, .no), (210, .no), (209, .no), (208, .no), (207, .no), (206, .no), (205, .no), (204, .no), (203, .no), (202, .no), (201, .no), (200, .no), (199, .no), (198, .no), (197, .no), (196, .no), (195, .no), (194, .no), (193, .no), (192, .no), (191, .no), (190, .no), (189, .no), (188, .no), (187, .no), (186, .no), (185, .no), (184, .no), (183, .no), (182, .no), (181, .no), (180, .no), (179, .no), (178, .no), (177, .no), (176, .no), (175, .no), (174, .no), (173, .no), (172, .no), (171, .no), (170, .no), (169, .no), (168, .no), (167, .no), (166, .no), (165, .no), (164, .no), (163, .no), (162, .no), (161, .no), (160, .no), (159, .no), (158, .no), (157, .no), (156, .no), (155, .no)] (pfp 59 60) (by kernel_rfl) (by kernel_rfl) ?_
                        refine d_nil (by kernel_rfl) ?_
                        obtain rfl := Option.some.inj hs
                        refine nrm_join true rfl ?_
                        exact cut_of [0, 1, 2, 3, 9, 10, 11, 12, 13, 14, 15, 16] [] (by kernel_rfl) (by kernel_rfl) (by kernel_rfl)
                    · subst hz; clear hs; have hs := hk7; clear hk7
                      refine nrm_blkV ?_
                      refine nrm_thenV ?_
                      refine vr_text ?_
                      refine o_runs 3 [(16, .int .i64 (w64 (q2.2 + 1))), (148, .int .i64 (w64 (q2.2 + 1))), (147, .int .i64 q2.2)] (by kernel_rfl) ?_
                      refine ov_nil ?_
                      refine nrm_fuel (v7, (w64 (q2.2 + 1))) hs ?_
                      exact cut_of [0, 1, 2, 3, 9, 10, 11, 12, 13, 14, 15, 16] [] (by kernel_rfl) (by kernel_rfl) (by kernel_rfl)
                  · replace hs := bif_f h19 hs
                    refine v_exit ?_
                    refine exit_thenV ?_
                    refine exit_fuel ?_
                    refine exit_blkV ?_
                    obtain rfl := Option.some.inj hs
                    refine nrm_join q2.1 rfl ?_
                    exact cut_of [0, 1, 2, 3, 9, 10, 11, 12, 13, 14, 15] [] (by kernel_rfl) (by kernel_rfl) (by kernel_rfl)
                · subst hz; clear hs; have hs := hk6; clear hk6
                  refine nrm_thenV ?_
                  refine v_seq ?_
                  refine vr_text ?_
                  refine o_runs 2 [(214, .bool (!v6)), (213, .bool v6)] (by kernel_rfl) ?_
                  refine ov_nil ?_
                  refine nrm_thenV ?_
                  refine v_cond (!v6) (by kernel_rfl) (fun h27 => ?_) (fun h27 => ?_)
                  · replace hs := bif_t h27 hs
                    refine v_seq ?_
                    refine vr_text ?_
                    refine o_runs 1 [(8, .bool false)] (by kernel_rfl) ?_
                    refine ov_nil ?_
                    refine nrm_thenV ?_
                    refine v_ret ?_
                    refine ret_blkV ?_
                    refine ret_thenV ?_
                    refine ret_fuel ?_
                    refine ret_blkV ?_
                    refine ret_join ?_
                    refine ret_thenV ?_
                    obtain rfl := Option.some.inj hs
                    replace hs := hk2
                    obtain rfl := Option.some.inj hs
                    exact fin_ret (by kernel_rfl) (by kernel_rfl) (by kernel_rfl)
                  · replace hs := bif_f h27 hs
                    refine v_skip ?_
                    refine nrm_blkV ?_
                    refine nrm_thenV ?_
                    refine vr_text ?_
                    refine o_runs 3 [(14, .int .i64 (w64 (q1.2 + 1))), (53, .int .i64 (w64 (q1.2 + 1))), (52, .int .i64 q1.2)] (by kernel_rfl) ?_
                    refine ov_nil ?_
                    refine nrm_fuel (v4, (w64 (q1.2 + 1))) hs ?_
                    exact cut_of [0, 1, 2, 3, 9, 10, 11, 12, 13, 14] [] (by kernel_rfl) (by kernel_rfl) (by kernel_rfl)
        · replace hs := bif_f h5 hs
          refine v_exit ?_
          refine exit_thenV ?_
          refine exit_fuel ?_
          refine exit_blkV ?_
          obtain rfl := Option.some.inj hs
          refine nrm_join q1.1 rfl ?_
          exact cut_of [9, 12, 13] [] (by kernel_rfl) (by kernel_rfl) (by kernel_rfl)
      · subst hz; clear hs; have hs := hk2; clear hk2
        refine nrm_thenV ?_
        refine v_seq ?_
        obtain ⟨z8, hs, hk8⟩ := bind_some hs
        refine v_join (S := Bool) (fun u => u = z8) (fun u => [(8, .bool u)]) (fun u => []) ?_ (fun v8 hz => ?_)
        · refine vr_text ?_
          refine o_runs 2 [(216, .bool y1), (215, .bool y1)] (by kernel_rfl) ?_
          cases h28 : (y1)
          · replace hs := bif_f h28 hs
            refine o_runs 5 [(8, .bool false), (220, .bool false), (219, .no), (218, .no), (217, .no)] (by kernel_rfl) ?_
            refine ov_nil ?_
            obtain rfl := Option.some.inj hs
            refine nrm_join false rfl ?_
            exact cut_of [8] [] (by kernel_rfl) (by kernel_rfl) (by kernel_rfl)
          · replace hs := bif_t h28 hs
            refine o_runs 5 [(8, .bool (v2 == y5.2)), (220, .bool (v2 == y5.2)), (219, .bool (v2 == y5.2)), (218, .bool y5.2), (217, .bool v2)] (by kernel_rfl) ?_
            refine ov_nil ?_
            obtain rfl := Option.some.inj hs
            refine nrm_join (v2 == y5.2) rfl ?_
            exact cut_of [8] [] (by kernel_rfl) (by kernel_rfl) (by kernel_rfl)
        · subst hz; clear hs; have hs := hk8; clear hk8
          refine nrm_thenV ?_
          refine v_ret ?_
          obtain rfl := Option.some.inj hs
          exact fin_ret (by kernel_rfl) (by kernel_rfl) (by kernel_rfl)
def s_greenbeltlaw44_FactCorrects_L1 (day : Int) (y4 : (List Stay)) : Nat → (Bool × Int) → Option (Bool ⊕ Bool)
  | 0, _ => none
  | K1 + 1, q1 => (bif (decide (q1.2 < (List.length y4 : Int))) then ((idx y4 q1.2).bind fun x1 => (bif (decide (x1.from_ < 0)) then some true else (idx y4 q1.2).bind fun x2 => (idx y4 q1.2).bind fun x3 => (bif (decide (x2.to < x3.from_)) then some true else (idx y4 q1.2).bind fun x4 => (bif (decide (x4.to > 1073741824)) then some true else (bif (decide (q1.2 > 0)) then (idx y4 (w64 (q1.2 - 1))).bind fun x5 => (idx y4 q1.2).bind fun x6 => some (decide (x5.to ≥ (w64 (x6.from_ - 1)))) else some false))))).bind fun v3 => (bif v3 then some (.inl false) else ((bif q1.1 then some true else (idx y4 q1.2).bind fun x7 => (bif (decide (x7.from_ ≤ day)) then (idx y4 q1.2).bind fun x8 => some (decide (day ≤ x8.to)) else some false))).bind fun v4 => (s_greenbeltlaw44_FactCorrects_L1 day y4) K1 (v4, (w64 (q1.2 + 1)))) else some (.inr q1.1))
def s_greenbeltlaw44_FactCorrects (base : (List Fact)) (key : (List UInt8)) (day : Int) (k : Int) (n : Int) : Option Bool :=
  (s_small ).bind fun y1 => ((s_few base).bind fun y2 => (bif (!y2) then some true else (s_right base).bind fun y3 => (bif (!y3) then some true else (bif (decide (day < 0)) then some true else some (decide (day > 1073741824)))))).bind fun v1 => (bif v1 then some y1 else (s_cor base key k n).bind fun y4 => (s_at base key day k).bind fun y5 => (s_at base key day n).bind fun y6 => ((s_greenbeltlaw44_FactCorrects_L1 day y4) KK (false, 0) : Option (Bool ⊕ Bool)).bind fun z2 => match z2 with
 | .inl r => some r
 | .inr v2 => ((bif y1 then (bif (!(decide (y5.1 = y6.1))) then (bif (v2 == true) then (s_cor base key n k).bind fun y9 => (s_stays y4 y9).bind fun y10 => some y10 else some false) else (bif (v2 == (!(y5.2 == y6.2))) then (s_cor base key n k).bind fun y7 => (s_stays y4 y7).bind fun y8 => some y8 else some false)) else some false)).bind fun v5 => some v5)
theorem w_greenbeltlaw44_FactCorrects (base : (List Fact)) (key : (List UInt8)) (day : Int) (k : Int) (n : Int) (r : Bool) (hs : s_greenbeltlaw44_FactCorrects base key day k n = some r) : FnA Try.prog 6 [.vs 5 (List.map enc_Fact base), .str key, .int .i64 day, .int .i64 k, .int .i64 n] [] (.bool r) [] := by
  refine fnA_of_wp (N := 151) Try.func6 rfl rfl rfl fun cK0 => ?_
  unfold s_greenbeltlaw44_FactCorrects at hs
  refine v_same (ρ' := [(0, .vs 5 (List.map enc_Fact base)), (1, .str key), (2, .int .i64 day), (3, .int .i64 k), (4, .int .i64 n)]) rfl rfl ?_
  refine v_seq ?_
  refine vr_text ?_
  refine o_runs 1 [(10, .bool false)] (by kernel_rfl) ?_
  refine ov_nil ?_
  refine nrm_thenV ?_
  refine v_seq ?_
  refine vr_text ?_
  obtain ⟨y1, c1, hs⟩ := bind_some hs
  refine o_pure (v := .bool y1) (by kernel_rfl) (by kernel_rfl) (loc_gcall0 (callV_func hbv7 (by kernel_rfl)) (w_small  _ c1) (by kernel_rfl)) ?_
  refine o_runs 1 [(11, .bool y1)] (by kernel_rfl) ?_
  refine ov_nil ?_
  refine nrm_thenV ?_
  refine v_seq ?_
  refine v_seq ?_
  obtain ⟨z1, hs, hk1⟩ := bind_some hs
  refine v_join (S := Bool) (fun u => u = z1) (fun u => [(0, .vs 5 (List.map enc_Fact base)), (1, .str key), (2, .int .i64 day), (3, .int .i64 k), (4, .int .i64 n), (11, .bool y1), (35, .bool u)]) (fun u => []) ?_ (fun v1 hz => ?_)
  · refine vr_text ?_
    refine o_runs 1 [(20, .vs 5 (List.map enc_Fact base))] (by kernel_rfl) ?_
    obtain ⟨y2, c2, hs⟩ := bind_some hs
    refine o_pure (v := .bool y2) (by kernel_rfl) (by kernel_rfl) (loc_gcall0 (callV_func hbv8 (by kernel_rfl)) (w_few base _ c2) (by kernel_rfl)) ?_
    refine o_runs 2 [(23, .bool (!y2)), (22, .bool (!y2))] (by kernel_rfl) ?_
    cases h1 : ((!y2))
    · replace hs := bif_f h1 hs
      refine o_runs 1 [(24, .vs 5 (List.map enc_Fact base))] (by kernel_rfl) ?_
      obtain ⟨y3, c3, hs⟩ := bind_some hs
      refine o_pure (v := .bool y3) (by kernel_rfl) (by kernel_rfl) (loc_gcall0 (callV_func hbv15 (by kernel_rfl)) (w_right base _ c3) (by kernel_rfl)) ?_
      refine o_runs 3 [(28, .bool (!y3)), (27, .bool (!y3)), (26, .bool (!y3))] (by kernel_rfl) ?_
      cases h2 : ((!y3))
      · replace hs := bif_f h2 hs
        refine o_runs 4 [(32, .bool (decide (day < 0))), (31, .bool (decide (day < 0))), (30, .bool (decide (day < 0))), (29, .int .i64 day)] (by kernel_rfl) ?_
        cases h3 : ((decide (day < 0)))
        · replace hs := bif_f h3 hs
          refine o_runs 3 [(35, .bool (decide (day > 1073741824))), (34, .bool (decide (day > 1073741824))), (33, .int .i64 day)] (by kernel_rfl) ?_
          refine ov_nil ?_
          obtain rfl := Option.some.inj hs
          refine nrm_join (decide (day > 1073741824)) rfl ?_
          exact cut_of [0, 1, 2, 3, 4, 11, 35] [] (by kernel_rfl) (by kernel_rfl) (by kernel_rfl)
        · replace hs := bif_t h3 hs
          refine o_runs 3 [(35, .bool true), (34, .no), (33, .no)] (by kernel_rfl) ?_
          refine ov_nil ?_
          obtain rfl := Option.some.inj hs
          refine nrm_join true rfl ?_
          exact cut_of [0, 1, 2, 3, 4, 11, 35] [] (by kernel_rfl) (by kernel_rfl) (by kernel_rfl)
      · replace hs := bif_t h2 hs
        refine o_runs 7 [(35, .bool true), (34, .no), (33, .no), (32, .bool true), (31, .bool true), (30, .no), (29, .no)] (by kernel_rfl) ?_
        refine ov_nil ?_
        obtain rfl := Option.some.inj hs
        refine nrm_join true rfl ?_
        exact cut_of [0, 1, 2, 3, 4, 11, 35] [] (by kernel_rfl) (by kernel_rfl) (by kernel_rfl)
    · replace hs := bif_t h1 hs
      refine o_runs 12 [(35, .bool true), (34, .no), (33, .no), (32, .bool true), (31, .bool true), (30, .no), (29, .no), (28, .bool true), (27, .bool true), (26, .no), (25, .no), (24, .no)] (by kernel_rfl) ?_
      refine ov_nil ?_
      obtain rfl := Option.some.inj hs
      refine nrm_join true rfl ?_
      exact cut_of [0, 1, 2, 3, 4, 11, 35] [] (by kernel_rfl) (by kernel_rfl) (by kernel_rfl)
  · subst hz; clear hs; have hs := hk1; clear hk1
    refine nrm_thenV ?_
    refine v_cond v1 (by kernel_rfl) (fun h4 => ?_) (fun h4 => ?_)
    · replace hs := bif_t h4 hs
      refine v_seq ?_
      refine vr_text ?_
      refine o_runs 2 [(10, .bool y1), (36, .bool y1)] (by kernel_rfl) ?_
      refine ov_nil ?_
      refine nrm_thenV ?_
      refine v_ret ?_
      refine ret_thenV ?_
      obtain rfl := Option.some.inj hs
      exact fin_ret (by kernel_rfl) (by kernel_rfl) (by kernel_rfl)
    · replace hs := bif_f h4 hs
      refine v_skip ?_
      refine nrm_thenV ?_
      refine v_seq ?_
      refine vr_text ?_
      refine o_runs 4 [(40, .int .i64 n), (39, .int .i64 k), (38, .str key), (37, .vs 5 (List.map enc_Fact base))] (by kernel_rfl) ?_
      obtain ⟨y4, c4, hs⟩ := bind_some hs
      refine o_pure (v := .vs 2 (List.map enc_Stay y4)) (by kernel_rfl) (by kernel_rfl) (loc_gcall0 (callV_func hbv21 (by kernel_rfl)) (w_cor base key k n _ c4) (by kernel_rfl)) ?_
      refine o_runs 1 [(12, .vs 2 (List.map enc_Stay y4))] (by kernel_rfl) ?_
      refine ov_nil ?_
      refine nrm_thenV ?_
      refine v_seq ?_
      refine vr_text ?_
      refine o_runs 4 [(46, .int .i64 k), (45, .int .i64 day), (44, .str key), (43, .vs 5 (List.map enc_Fact base))] (by kernel_rfl) ?_
      obtain ⟨y5, c5, hs⟩ := bind_some hs
      refine o_pure (v := .tup [.int .i64 y5.1, .bool y5.2]) (by kernel_rfl) (by kernel_rfl) (loc_gcall0 (callV_func hbv11 (by kernel_rfl)) (w_at base key day k _ c5) (by kernel_rfl)) ?_
      refine o_runs 5 [(14, .bool y5.2), (13, .int .i64 y5.1), (49, .bool y5.2), (48, .int .i64 y5.1), (42, .tup [.int .i64 y5.1, .bool y5.2])] (by kernel_rfl) ?_
      refine ov_nil ?_
      refine nrm_thenV ?_
      refine v_seq ?_
      refine vr_text ?_
      refine o_runs 4 [(54, .int .i64 n), (53, .int .i64 day), (52, .str key), (51, .vs 5 (List.map enc_Fact base))] (by kernel_rfl) ?_
      obtain ⟨y6, c6, hs⟩ := bind_some hs
      refine o_pure (v := .tup [.int .i64 y6.1, .bool y6.2]) (by kernel_rfl) (by kernel_rfl) (loc_gcall0 (callV_func hbv11 (by kernel_rfl)) (w_at base key day n _ c6) (by kernel_rfl)) ?_
      refine o_runs 5 [(16, .bool y6.2), (15, .int .i64 y6.1), (57, .bool y6.2), (56, .int .i64 y6.1), (50, .tup [.int .i64 y6.1, .bool y6.2])] (by kernel_rfl) ?_
      refine ov_nil ?_
      refine nrm_thenV ?_
      refine v_seq ?_
      refine vr_text ?_
      refine o_runs 1 [(17, .bool false)] (by kernel_rfl) ?_
      refine ov_nil ?_
      refine nrm_thenV ?_
      refine v_seq ?_
      refine v_seq ?_
      refine vr_text ?_
      refine o_runs 1 [(18, .int .i64 0)] (by kernel_rfl) ?_
      refine ov_nil ?_
      refine nrm_thenV ?_
      obtain ⟨z2, hs, hk2⟩ := bind_some hs
      refine v_join (S := Bool) (fun u => z2 = .inr u) (fun u => [(0, .vs 5 (List.map enc_Fact base)), (1, .str key), (3, .int .i64 k), (4, .int .i64 n), (11, .bool y1), (12, .vs 2 (List.map enc_Stay y4)), (13, .int .i64 y5.1), (14, .bool y5.2), (15, .int .i64 y6.1), (16, .bool y6.2), (17, .bool u)]) (fun u => []) ?_ (fun v2 hz => ?_)
      · refine v_block ?_
        refine v_fuel (S := Bool × Int) (fun u => [(0, .vs 5 (List.map enc_Fact base)), (1, .str key), (2, .int .i64 day), (3, .int .i64 k), (4, .int .i64 n), (11, .bool y1), (12, .vs 2 (List.map enc_Stay y4)), (13, .int .i64 y5.1), (14, .bool y5.2), (15, .int .i64 y6.1), (16, .bool y6.2), (17, .bool u.1), (18, .int .i64 u.2)]) (fun u => []) (s_greenbeltlaw44_FactCorrects_L1 day y4) (fun _ => rfl) KK (false, 0) hs (cut_of [0, 1, 2, 3, 4, 11, 12, 13, 14, 15, 16, 17, 18] [] (by kernel_rfl) (by kernel_rfl) (by kernel_rfl)) (fun K1 q1 hs => ?_)
        rw [s_greenbeltlaw44_FactCorrects_L1] at hs
        show WpV cK0 Try.prog none 151 _ _ [(0, .vs 5 (List.map enc_Fact base)), (1, .str key), (2, .int .i64 day), (3, .int .i64 k), (4, .int .i64 n), (11, .bool y1), (12, .vs 2 (List.map enc_Stay y4)), (13, .int .i64 y5.1), (14, .bool y5.2), (15, .int .i64 y6.1), (16, .bool y6.2), (17, .bool q1.1), (18, .int .i64 q1.2)] [] []
        refine v_seq ?_
        refine v_seq ?_
        refine vr_text ?_
        refine o_runs 2 [(59, .vs 2 (List.map enc_Stay y4)), (58, .int .i64 q1.2)] (by kernel_rfl) ?_
        refine o_pure (v := .int .i64 (List.length y4 : Int)) (by kernel_rfl) (by kernel_rfl) (loc_lenVs (sz := 2) (els := (List.map enc_Stay y4)) (by kernel_rfl) (by kernel_rfl) (List.length_map ..)) ?_
        refine o_runs 1 [(61, .bool (decide (q1.2 < (List.length y4 : Int))))] (by kernel_rfl) ?_
        refine ov_nil ?_
        refine nrm_thenV ?_
        refine v_cond (decide (q1.2 < (List.length y4 : Int))) (by kernel_rfl) (fun h5 => ?_) (fun h5 => ?_)
        · replace hs := bif_t h5 hs
          refine v_skip ?_
          refine nrm_thenV ?_
          refine v_seq ?_
          refine v_block ?_
          refine v_seq ?_
          refine v_seq ?_
          obtain ⟨z3, hs, hk3⟩ := bind_some hs
          refine v_join (S := Bool) (fun u => u = z3) (fun u => [(0, .vs 5 (List.map enc_Fact base)), (1, .str key), (2, .int .i64 day), (3, .int .i64 k), (4, .int .i64 n), (11, .bool y1), (12, .vs 2 (List.map enc_Stay y4)), (13, .int .i64 y5.1), (14, .bool y5.2), (15, .int .i64 y6.1), (16, .bool y6.2), (17, .bool q1.1), (18, .int .i64 q1.2), (109, .bool u)]) (fun u => []) ?_ (fun v3 hz => ?_)
          · refine v_draw mixedH (by kernel_rfl) ?_
            refine d_runs 2 0 [(65, .int .i64 q1.2), (64, .vs 2 (List.map enc_Stay y4))] (pfp 2 1) (by kernel_rfl) (by kernel_rfl) ?_
            obtain ⟨x1, g1, hs⟩ := bind_some hs; obtain ⟨g1a, g1b, g1c⟩ := idx_some g1
            refine d_pure (v := .vp (enc_Stay x1) 0) 2 rfl rfl rfl rfl (by kernel_rfl) (by kernel_rfl) (loc_indexVs (e := 44) (sz := 2) (k := .i64) (els := (List.map enc_Stay y4)) (cs := (enc_Stay x1)) (by kernel_rfl) (by kernel_rfl) (by kernel_rfl) g1a (by rw [g1c]; exact map_get _ (by omega))) ?_
            refine d_runs 4 3 [(70, .bool (decide (x1.from_ < 0))), (69, .bool (decide (x1.from_ < 0))), (68, .int .i64 x1.from_), (67, .vp (enc_Stay x1) 0)] (pfp 4 6) (by kernel_rfl) (by kernel_rfl) ?_
            cases h6 : ((decide (x1.from_ < 0)))
            · replace hs := bif_f h6 hs
              refine d_runs 2 7 [(72, .int .i64 q1.2), (71, .vs 2 (List.map enc_Stay y4))] (pfp 2 8) (by kernel_rfl) (by kernel_rfl) ?_
              obtain ⟨x2, g2, hs⟩ := bind_some hs; obtain ⟨g2a, g2b, g2c⟩ := idx_some g2
              refine d_pure (v := .vp (enc_Stay x2) 0) 9 rfl rfl rfl rfl (by kernel_rfl) (by kernel_rfl) (loc_indexVs (e := 44) (sz := 2) (k := .i64) (els := (List.map enc_Stay y4)) (cs := (enc_Stay x2)) (by kernel_rfl) (by kernel_rfl) (by kernel_rfl) g2a (by rw [g2c]; exact map_get _ (by omega))) ?_
              refine d_runs 4 10 [(77, .int .i64 q1.2), (76, .vs 2 (List.map enc_Stay y4)), (75, .int .i64 x2.to), (74, .vp (enc_Stay x2) 1)] (pfp 4 13) (by kernel_rfl) (by kernel_rfl) ?_
              obtain ⟨x3, g3, hs⟩ := bind_some hs; obtain ⟨g3a, g3b, g3c⟩ := idx_some g3
              refine d_pure (v := .vp (enc_Stay x3) 0) 14 rfl rfl rfl rfl (by kernel_rfl) (by kernel_rfl) (loc_indexVs (e := 44) (sz := 2) (k := .i64) (els := (List.map enc_Stay y4)) (cs := (enc_Stay x3)) (by kernel_rfl) (by kernel_rfl) (by kernel_rfl) g3a (by rw [g3c]; exact map_get _ (by omega))) ?_
              refine d_runs 5 15 [(83, .bool (decide (x2.to < x3.from_))), (82, .bool (decide (x2.to < x3.from_))), (81, .bool (decide (x2.to < x3.from_))), (80, .int .i64 x3.from_), (79, .vp (enc_Stay x3) 0)] (pfp 5 19) (by kernel_rfl) (by kernel_rfl) ?_
              cases h7 : ((decide (x2.to < x3.from_)))
              · replace hs := bif_f h7 hs
                refine d_runs 2 20 [(85, .int .i64 q1.2), (84, .vs 2 (List.map enc_Stay y4))] (pfp 2 21) (by kernel_rfl) (by kernel_rfl) ?_
                obtain ⟨x4, g4, hs⟩ := bind_some hs; obtain ⟨g4a, g4b, g4c⟩ := idx_some g4
                refine d_pure (v := .vp (enc_Stay x4) 0) 22 rfl rfl rfl rfl (by kernel_rfl) (by kernel_rfl) (loc_indexVs (e := 44) (sz := 2) (k := .i64) (els := (List.map enc_Stay y4)) (cs := (enc_Stay x4)) (by kernel_rfl) (by kernel_rfl) (by kernel_rfl) g4a (by rw [g4c]; exact map_get _ (by omega))) ?_
                refine d_runs 5 23 [(91, .bool (decide (x4.to > 1073741824))), (90, .bool (decide (x4.to > 1073741824))), (89, .bool (decide (x4.to > 1073741824))), (88, .int .i64 x4.to), (87, .vp (enc_Stay x4) 1)] (pfp 5 27) (by kernel_rfl) (by kernel_rfl) ?_
                cases h8 : ((decide (x4.to > 1073741824)))
                · replace hs := bif_f h8 hs
                  refine d_runs 3 28 [(94, .bool (decide (q1.2 > 0))), (93, .bool (decide (q1.2 > 0))), (92, .int .i64 q1.2)] (pfp 3 30) (by kernel_rfl) (by kernel_rfl) ?_
                  cases h9 : ((decide (q1.2 > 0)))
                  · replace hs := bif_f h9 hs
                    refine d_runs 15 31 [(109, .bool false), (108, .bool false), (107, .no), (106, .no), (105, .no), (104, .no), (103, .no), (102, .no), (101, .no), (100, .no), (99, .no), (98, .no), (97, .no), (96, .no), (95, .no)] (pfp 15 45) (by kernel_rfl) (by kernel_rfl) ?_
                    refine d_nil (by kernel_rfl) ?_
                    obtain rfl := Option.some.inj hs
                    refine nrm_join false rfl ?_
                    exact cut_of [0, 1, 2, 3, 4, 11, 12, 13, 14, 15, 16, 17, 18, 109] [] (by kernel_rfl) (by kernel_rfl) (by kernel_rfl)
                  · replace hs := bif_t h9 hs
                    refine d_runs 3 31 [(97, .int .i64 (w64 (q1.2 - 1))), (96, .int .i64 q1.2), (95, .vs 2 (List.map enc_Stay y4))] (pfp 3 33) (by kernel_rfl) (by kernel_rfl) ?_
                    obtain ⟨x5, g5, hs⟩ := bind_some hs; obtain ⟨g5a, g5b, g5c⟩ := idx_some g5
                    refine d_pure (v := .vp (enc_Stay x5) 0) 34 rfl rfl rfl rfl (by kernel_rfl) (by kernel_rfl) (loc_indexVs (e := 44) (sz := 2) (k := .i64) (els := (List.map enc_Stay y4)) (cs := (enc_Stay x5)) (by kernel_rfl) (by kernel_rfl) (by kernel_rfl) g5a (by rw [g5c]; exact map_get _ (by omega))) ?_
                    refine d_runs 4 35 [(102, .int .i64 q1.2), (101, .vs 2 (List.map enc_Stay y4)), (100, .int .i64 x5.to), (99, .vp (enc_Stay x5) 1)] (pfp 4 38) (by kernel_rfl) (by kernel_rfl) ?_
                    obtain ⟨x6, g6, hs⟩ := bind_some hs; obtain ⟨g6a, g6b, g6c⟩ := idx_some g6
                    refine d_pure (v := .vp (enc_Stay x6) 0) 39 rfl rfl rfl rfl (by kernel_rfl) (by kernel_rfl) (loc_indexVs (e := 44) (sz := 2) (k := .i64) (els := (List.map enc_Stay y4)) (cs := (enc_Stay x6)) (by kernel_rfl) (by kernel_rfl) (by kernel_rfl) g6a (by rw [g6c]; exact map_get _ (by omega))) ?_
                    refine d_runs 6 40 [(109, .bool (decide (x5.to ≥ (w64 (x6.from_ - 1))))), (108, .bool (decide (x5.to ≥ (w64 (x6.from_ - 1))))), (107, .bool (decide (x5.to ≥ (w64 (x6.from_ - 1))))), (106, .int .i64 (w64 (x6.from_ - 1))), (105, .int .i64 x6.from_), (104, .vp (enc_Stay x6) 0)] (pfp 6 45) (by kernel_rfl) (by kernel_rfl) ?_
                    refine d_nil (by kernel_rfl) ?_
                    obtain rfl := Option.some.inj hs
                    refine nrm_join (decide (x5.to ≥ (w64 (x6.from_ - 1)))) rfl ?_
                    exact cut_of [0, 1, 2, 3, 4, 11, 12, 13, 14, 15, 16, 17, 18, 109] [] (by kernel_rfl) (by kernel_rfl) (by kernel_rfl)
                · replace hs := bif_t h8 hs
                  refine d_runs 18 28 [(109, .bool true), (108, .no), (107, .no), (106, .no), (105, .no), (104, .no), (103, .no), (102, .no), (101, .no), (100, .no), (99, .no), (98, .no), (97, .no), (96, .no), (95, .no), (94, .no), (93, .no), (92, .no)] (pfp 18 45) (by kernel_rfl) (by kernel_rfl) ?_
                  refine d_nil (by kernel_rfl) ?_
                  obtain rfl := Option.some.inj hs
                  refine nrm_join true rfl ?_
                  exact cut_of [0, 1, 2, 3, 4, 11, 12, 13, 14, 15, 16, 17, 18, 109] [] (by kernel_rfl) (by kernel_rfl) (by kernel_rfl)
              · replace hs := bif_t h7 hs
                refine d_runs 26 20 [(109, .bool true), (108, .no), (107, .no), (106, .no), (105, .no), (104, .no), (103, .no), (102, .no), (101, .no), (100, .no), (99, .no), (98, .no), (97, .no), (96, .no), (95, .no), (94, .no), (93, .no), (92, .no), (91, .bool true), (90, .bool true), (89, .no), (88, .no), (87, .no), (86, .no), (85, .no), (84, .no)] (pfp 26 45) (by kernel_rfl) (by kernel_rfl) ?_
                refine d_nil (by kernel_rfl) ?_
                obtain rfl := Option.some.inj hs
                refine nrm_join true rfl ?_
                exact cut_of [0, 1, 2, 3, 4, 11, 12, 13, 14, 15, 16, 17, 18, 109] [] (by kernel_rfl) (by kernel_rfl) (by kernel_rfl)
            · replace hs := bif_t h6 hs
              refine d_runs 39 7 [(109, .bool true), (108, .no), (107, .no), (106, .no), (105, .no), (104, .no), (103, .no), (102, .no), (101, .no), (100, .no), (99, .no), (98, .no), (97, .no), (96, .no), (95, .no), (94, .no), (93, .no), (92, .no), (91, .bool true), (90, .bool true), (89, .no), (88, .no), (87, .no), (86, .no), (85, .no), (84, .no), (83, .bool true), (82, .bool true), (81, .no), (80, .no), (79, .no), (78, .no), (77, .no), (76, .no), (75, .no), (74, .no), (73, .no), (72, .no), (71, .no)] (pfp 39 45) (by kernel_rfl) (by kernel_rfl) ?_
              refine d_nil (by kernel_rfl) ?_
              obtain rfl := Option.some.inj hs
              refine nrm_join true rfl ?_
              exact cut_of [0, 1, 2, 3, 4, 11, 12, 13, 14, 15, 16, 17, 18, 109] [] (by kernel_rfl) (by kernel_rfl) (by kernel_rfl)
          · subst hz; clear hs; have hs := hk3; clear hk3
            refine nrm_thenV ?_
            refine v_cond v3 (by kernel_rfl) (fun h10 => ?_) (fun h10 => ?_)
            · replace hs := bif_t h10 hs
              refine v_seq ?_
              refine vr_text ?_
              refine o_runs 1 [(10, .bool false)] (by kernel_rfl) ?_
              refine ov_nil ?_
              refine nrm_thenV ?_
              refine v_ret ?_
              refine ret_thenV ?_
              refine ret_blkV ?_
              refine ret_thenV ?_
              refine ret_fuel ?_
              refine ret_blkV ?_
              refine ret_join ?_
              refine ret_thenV ?_
              obtain rfl := Option.some.inj hs
              replace hs := hk2
              obtain rfl := Option.some.inj hs
              exact fin_ret (by kernel_rfl) (by kernel_rfl) (by kernel_rfl)
            · replace hs := bif_f h10 hs
              refine v_skip ?_
              refine nrm_thenV ?_
              obtain ⟨z4, hs, hk4⟩ := bind_some hs
              refine v_join (S := Bool) (fun u => u = z4) (fun u => [(0, .vs 5 (List.map enc_Fact base)), (1, .str key), (2, .int .i64 day), (3, .int .i64 k), (4, .int .i64 n), (11, .bool y1), (12, .vs 2 (List.map enc_Stay y4)), (13, .int .i64 y5.1), (14, .bool y5.2), (15, .int .i64 y6.1), (16, .bool y6.2), (17, .bool u), (18, .int .i64 q1.2)]) (fun u => []) ?_ (fun v4 hz => ?_)
              · refine vr_text ?_
                refine o_runs 2 [(111, .bool q1.1), (110, .bool q1.1)] (by kernel_rfl) ?_
                cases h11 : (q1.1)
                · replace hs := bif_f h11 hs
                  refine o_runs 2 [(113, .int .i64 q1.2), (112, .vs 2 (List.map enc_Stay y4))] (by kernel_rfl) ?_
                  obtain ⟨x7, g7, hs⟩ := bind_some hs; obtain ⟨g7a, g7b, g7c⟩ := idx_some g7
                  refine o_pure (v := .vp (enc_Stay x7) 0) (by kernel_rfl) (by kernel_rfl) (loc_indexVs (e := 44) (sz := 2) (k := .i64) (els := (List.map enc_Stay y4)) (cs := (enc_Stay x7)) (by kernel_rfl) (by kernel_rfl) (by kernel_rfl) g7a (by rw [g7c]; exact map_get _ (by omega))) ?_
                  refine o_runs 5 [(119, .bool (decide (x7.from_ ≤ day))), (118, .bool (decide (x7.from_ ≤ day))), (117, .int .i64 day), (116, .int .i64 x7.from_), (115, .vp (enc_Stay x7) 0)] (by kernel_rfl) ?_
                  cases h12 : ((decide (x7.from_ ≤ day)))
                  · replace hs := bif_f h12 hs
                    refine o_runs 10 [(17, .bool false), (128, .bool false), (127, .bool false), (126, .no), (125, .no), (124, .no), (123, .no), (122, .no), (121, .no), (120, .no)] (by kernel_rfl) ?_
                    refine ov_nil ?_
                    obtain rfl := Option.some.inj hs
                    refine nrm_join false rfl ?_
                    exact cut_of [0, 1, 2, 3, 4, 11, 12, 13, 14, 15, 16, 17, 18] [] (by kernel_rfl) (by kernel_rfl) (by kernel_rfl)
                  · replace hs := bif_t h12 hs
                    refine o_runs 3 [(122, .int .i64 q1.2), (121, .vs 2 (List.map enc_Stay y4)), (120, .int .i64 day)] (by kernel_rfl) ?_
                    obtain ⟨x8, g8, hs⟩ := bind_some hs; obtain ⟨g8a, g8b, g8c⟩ := idx_some g8
                    refine o_pure (v := .vp (enc_Stay x8) 0) (by kernel_rfl) (by kernel_rfl) (loc_indexVs (e := 44) (sz := 2) (k := .i64) (els := (List.map enc_Stay y4)) (cs := (enc_Stay x8)) (by kernel_rfl) (by kernel_rfl) (by kernel_rfl) g8a (by rw [g8c]; exact map_get _ (by omega))) ?_
                    refine o_runs 6 [(17, .bool (decide (day ≤ x8.to))), (128, .bool (decide (day ≤ x8.to))), (127, .bool (decide (day ≤ x8.to))), (126, .bool (decide (day ≤ x8.to))), (125, .int .i64 x8.to), (124, .vp (enc_Stay x8) 1)] (by kernel_rfl) ?_
                    refine ov_nil ?_
                    obtain rfl := Option.some.inj hs
                    refine nrm_join (decide (day ≤ x8.to)) rfl ?_
                    exact cut_of [0, 1, 2, 3, 4, 11, 12, 13, 14, 15, 16, 17, 18] [] (by kernel_rfl) (by kernel_rfl) (by kernel_rfl)
                · replace hs := bif_t h11 hs
                  refine o_runs 18 [(17, .bool true), (128, .bool true), (127, .no), (126, .no), (125, .no), (124, .no), (123, .no), (122, .no), (121, .no), (120, .no), (119, .no), (118, .no), (117, .no), (116, .no), (115, .no), (114, .no), (113, .no), (112, .no)] (by kernel_rfl) ?_
                  refine ov_nil ?_
                  obtain rfl := Option.some.inj hs
                  refine nrm_join true rfl ?_
                  exact cut_of [0, 1, 2, 3, 4, 11, 12, 13, 14, 15, 16, 17, 18] [] (by kernel_rfl) (by kernel_rfl) (by kernel_rfl)
              · subst hz; clear hs; have hs := hk4; clear hk4
                refine nrm_blkV ?_
                refine nrm_thenV ?_
                refine vr_text ?_
                refine o_runs 3 [(18, .int .i64 (w64 (q1.2 + 1))), (63, .int .i64 (w64 (q1.2 + 1))), (62, .int .i64 q1.2)] (by kernel_rfl) ?_
                refine ov_nil ?_
                refine nrm_fuel (v4, (w64 (q1.2 + 1))) hs ?_
                exact cut_of [0, 1, 2, 3, 4, 11, 12, 13, 14, 15, 16, 17, 18] [] (by kernel_rfl) (by kernel_rfl) (by kernel_rfl)
        · replace hs := bif_f h5 hs
          refine v_exit ?_
          refine exit_thenV ?_
          refine exit_fuel ?_
          refine exit_blkV ?_
          obtain rfl := Option.some.inj hs
          refine nrm_join q1.1 rfl ?_
          exact cut_of [0, 1, 3, 4, 11, 12, 13, 14, 15, 16, 17] [] (by kernel_rfl) (by kernel_rfl) (by kernel_rfl)
      · subst hz; clear hs; have hs := hk2; clear hk2
        refine nrm_thenV ?_
        refine v_seq ?_
        obtain ⟨z5, hs, hk5⟩ := bind_some hs
        refine v_join (S := Bool) (fun u => u = z5) (fun u => [(10, .bool u)]) (fun u => []) ?_ (fun v5 hz => ?_)
        · refine vr_text ?_
          refine o_runs 2 [(130, .bool y1), (129, .bool y1)] (by kernel_rfl) ?_
          cases h13 : (y1)
          · replace hs := bif_f h13 hs
            refine o_runs 21 [(10, .bool false), (150, .bool false), (149, .no), (148, .no), (147, .no), (146, .no), (145, .no), (144, .no), (143, .no), (142, .bool false), (141, .bool false), (140, .no), (139, .no), (138, .no), (137, .no), (136, .no), (135, .no), (134, .no), (133, .no), (132, .no), (131, .no)] (by kernel_rfl) ?_
            refine ov_nil ?_
            obtain rfl := Option.some.inj hs
            refine nrm_join false rfl ?_
            exact cut_of [10] [] (by kernel_rfl) (by kernel_rfl) (by kernel_rfl)
          · replace hs := bif_t h13 hs
            refine o_runs 5 [(135, .bool (!(decide (y5.1 = y6.1)))), (134, .bool (!(decide (y5.1 = y6.1)))), (133, .int .i64 y6.1), (132, .int .i64 y5.1), (131, .bool v2)] (by kernel_rfl) ?_
            cases h14 : ((!(decide (y5.1 = y6.1))))
            · replace hs := bif_f h14 hs
              refine o_runs 7 [(142, .bool (v2 == (!(y5.2 == y6.2)))), (141, .bool (v2 == (!(y5.2 == y6.2)))), (140, .bool (v2 == (!(y5.2 == y6.2)))), (139, .bool (!(y5.2 == y6.2))), (138, .bool (!(y5.2 == y6.2))), (137, .bool y6.2), (136, .bool y5.2)] (by kernel_rfl) ?_
              cases h15 : ((v2 == (!(y5.2 == y6.2))))
              · replace hs := bif_f h15 hs
                refine o_runs 9 [(10, .bool false), (150, .bool false), (149, .no), (148, .no), (147, .no), (146, .no), (145, .no), (144, .no), (143, .no)] (by kernel_rfl) ?_
                refine ov_nil ?_
                obtain rfl := Option.some.inj hs
                refine nrm_join false rfl ?_
                exact cut_of [10] [] (by kernel_rfl) (by kernel_rfl) (by kernel_rfl)
              · replace hs := bif_t h15 hs
                refine o_runs 5 [(147, .int .i64 k), (146, .int .i64 n), (145, .str key), (144, .vs 5 (List.map enc_Fact base)), (143, .vs 2 (List.map enc_Stay y4))] (by kernel_rfl) ?_
                obtain ⟨y7, c7, hs⟩ := bind_some hs
                refine o_pure (v := .vs 2 (List.map enc_Stay y7)) (by kernel_rfl) (by kernel_rfl) (loc_gcall0 (callV_func hbv21 (by kernel_rfl)) (w_cor base key n k _ c7) (by kernel_rfl)) ?_
                obtain ⟨y8, c8, hs⟩ := bind_some hs
                refine o_pure (v := .bool y8) (by kernel_rfl) (by kernel_rfl) (loc_gcall0 (callV_func hbv20 (by kernel_rfl)) (w_stays y4 y7 _ c8) (by kernel_rfl)) ?_
                refine o_runs 2 [(10, .bool y8), (150, .bool y8)] (by kernel_rfl) ?_
                refine ov_nil ?_
                obtain rfl := Option.some.inj hs
                refine nrm_join y8 rfl ?_
                exact cut_of [10] [] (by kernel_rfl) (by kernel_rfl) (by kernel_rfl)
            · replace hs := bif_t h14 hs
              refine o_runs 7 [(142, .bool (v2 == true)), (141, .bool (v2 == true)), (140, .bool (v2 == true)), (139, .bool true), (138, .no), (137, .no), (136, .no)] (by kernel_rfl) ?_
              cases h16 : ((v2 == true))
              · replace hs := bif_f h16 hs
                refine o_runs 9 [(10, .bool false), (150, .bool false), (149, .no), (148, .no), (147, .no), (146, .no), (145, .no), (144, .no), (143, .no)] (by kernel_rfl) ?_
                refine ov_nil ?_
                obtain rfl := Option.some.inj hs
                refine nrm_join false rfl ?_
                exact cut_of [10] [] (by kernel_rfl) (by kernel_rfl) (by kernel_rfl)
              · replace hs := bif_t h16 hs
                refine o_runs 5 [(147, .int .i64 k), (146, .int .i64 n), (145, .str key), (144, .vs 5 (List.map enc_Fact base)), (143, .vs 2 (List.map enc_Stay y4))] (by kernel_rfl) ?_
                obtain ⟨y9, c9, hs⟩ := bind_some hs
                refine o_pure (v := .vs 2 (List.map enc_Stay y9)) (by kernel_rfl) (by kernel_rfl) (loc_gcall0 (callV_func hbv21 (by kernel_rfl)) (w_cor base key n k _ c9) (by kernel_rfl)) ?_
                obtain ⟨y10, c10, hs⟩ := bind_some hs
                refine o_pure (v := .bool y10) (by kernel_rfl) (by kernel_rfl) (loc_gcall0 (callV_func hbv20 (by kernel_rfl)) (w_stays y4 y9 _ c10) (by kernel_rfl)) ?_
                refine o_runs 2 [(10, .bool y10), (150, .bool y10)] (by kernel_rfl) ?_
                refine ov_nil ?_
                obtain rfl := Option.some.inj hs
                refine nrm_join y10 rfl ?_
                exact cut_of [10] [] (by kernel_rfl) (by kernel_rfl) (by kernel_rfl)
        · subst hz; clear hs; have hs := hk5; clear hk5
          refine nrm_thenV ?_
          refine v_ret ?_
          obtain rfl := Option.some.inj hs
          exact fin_ret (by kernel_rfl) (by kernel_rfl) (by kernel_rfl)
end Go.Proofs.Ytnnieebmbepjpaa
