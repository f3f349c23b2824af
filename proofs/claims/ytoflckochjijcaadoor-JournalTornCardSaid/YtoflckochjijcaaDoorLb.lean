/- Walks; printed by laws.py. -/
import Derived.Test.YtoflckochjijcaaDoorH
import Derived.Test.YtoflckochjijcaaDoorLbD
import Derived.Test.YtoflckochjijcaaDoorLa
set_option linter.all false
set_option maxRecDepth 100000
namespace Go.Proofs.YtoflckochjijcaaDoor
open Go Go.RowKit Go.Eng Go.EV
variable [Fuel]
variable {ob0 ob1 ob2 : Go.Obj} {u1 u2 : TypeId}
theorem hbv8 : hasBody Tryd.prog 8 := body_of kr
theorem w_greenbeltlaw03_texts (l : (List (List UInt8))) (r : Bool) (hs : s_greenbeltlaw03_texts l = some r) : FnA Tryd.prog 8 [.vs 1 (mS l)] [] (.bool r) [] := by
 refine fnA_of_wp (N := 19) Tryd.func8 rfl rfl rfl fun cK0 => ?_
 unfold s_greenbeltlaw03_texts at hs
 refine v_same (ρ' := [(0, .vs 1 (mS l))]) rfl rfl ?_
 refine vS (vT (oR 1 [(2, .bool false)] kr ?_))
 refine oN (nT (vS (vS (vT (oR 1 [(3, iI 0)] kr ?_)))))
 refine oN (nT ?_)
 obtain ⟨z1, hs, hk1⟩ := bS hs
 refine v_join (S := Unit) (fun u => z1 = .inr u) (fun u => [(0, .vs 1 (mS l))]) (fun u => []) ?_ (fun v1 hz => ?_)
 ·refine vB ?_
  refine v_fuel (S := Int) (fun u => [(0, .vs 1 (mS l)), (3, iI u)]) (fun u => []) (s_greenbeltlaw03_texts_L1 l) (fun _ => rfl) KK 0 hs (cut_of [0, 3] [] kr kr kr) (fun K1 q1 hs => ?_)
  rw [s_greenbeltlaw03_texts_L1] at hs
  show WpV cK0 Tryd.prog none 19 _ _ [(0, .vs 1 (mS l)), (3, iI q1)] [] []
  refine vS (vS (vT (oR 2 [(5, .vs 1 (mS l)), (4, iI q1)] kr ?_)))
  refine oP (v := iI (List.length l : Int)) kr kr (loc_lenVs (sz := 1) (els := (mS l)) kr kr (List.length_map ..)) ?_
  refine oR 1 [(7, .bool (decide (q1 < (List.length l : Int))))] kr ?_
  refine oN (nT ?_)
  refine v_cond (decide (q1 < (List.length l : Int))) kr (fun h1 => ?_) (fun h1 => ?_)
  ·replace hs := bif_t h1 hs
   refine vK (nT (vS (vB (vS (vT (oR 2 [(11, iI q1), (10, .vs 1 (mS l))] kr ?_))))))
   obtain ⟨x1, g1, hs⟩ := bS hs; obtain ⟨g1a, g1b, g1c⟩ := idx_some g1
   refine oP (v := .vp [.str x1] 0) kr kr (loc_indexVs (e := 9) (sz := 1) (k := .i64) (els := (mS l)) (cs := (EV.encS x1)) kr kr kr g1a (by rw [g1c]; exact map_get _ (by omega))) ?_
   refine oR 3 [(15, .bool (decide ((List.length x1 : Int) > 200))), (14, iI (List.length x1 : Int)), (13, .str x1)] kr ?_
   refine oN (nT ?_)
   refine v_cond (decide ((List.length x1 : Int) > 200)) kr (fun h2 => ?_) (fun h2 => ?_)
   ·replace hs := bif_t h2 hs
    refine vS (vT (oR 1 [(2, .bool false)] kr ?_))
    refine oN (nT (v_ret (rB (rT (ret_fuel ?_)))))
    refine rB (ret_join ?_)
    refine rT ?_
    obtain rfl := si hs
    replace hs := hk1
    obtain rfl := si hs
    exact fin_ret kr kr kr
   ·replace hs := bif_f h2 hs
    refine vK (nB (nT (vT (oR 3 [(3, iI (w64 (q1 + 1))), (9, iI (w64 (q1 + 1))), (8, iI q1)] kr ?_))))
    refine oN (nrm_fuel (w64 (q1 + 1)) hs ?_)
    exact cut_of [0, 3] [] kr kr kr
  ·replace hs := bif_f h1 hs
   refine v_exit (exit_thenV (exit_fuel ?_))
   refine exit_blkV ?_
   obtain rfl := si hs
   refine nrm_join () rfl ?_
   exact cut_of [0] [] kr kr kr
 ·subst hz; clear hs; have hs := hk1; clear hk1
  refine nT (vS (vT (oR 1 [(16, .vs 1 (mS l))] kr ?_)))
  refine oP (v := iI (List.length l : Int)) kr kr (loc_lenVs (sz := 1) (els := (mS l)) kr kr (List.length_map ..)) ?_
  refine oR 2 [(2, .bool (decide ((List.length l : Int) ≤ 8))), (18, .bool (decide ((List.length l : Int) ≤ 8)))] kr ?_
  refine oN (nT (v_ret ?_))
  obtain rfl := si hs
  exact fin_ret kr kr kr
end Go.Proofs.YtoflckochjijcaaDoor
