/- printed by gen2.py -/
import Derived.Test.YtoflckochjijcaaDoorE
import Derived.Test.YtoflckochjijcaaDoorSD
set_option linter.all false
set_option maxRecDepth 100000
namespace Go.Proofs.YtoflckochjijcaaDoor
open Go Go.RowKit Go.Eng Go.EV
variable [Fuel]
variable {ob0 ob1 ob2 : Go.Obj} {u1 u2 : TypeId}

theorem kok3 : KeyOK Tryd.prog 3 (V.int .i64) (fun n : Int => Value.int .i64 n) := keyOK_int kr
theorem hbv38 : hasBody Tryd.prog 38 := body_of kr
theorem mixedH : Tryd.prog.follows .mixedOrders = true := by kernel_rfl
theorem hbv46 : hasBody Tryd.prog 46 := body_of kr
theorem hbv39 : hasBody Tryd.prog 39 := body_of kr
theorem hbv29 : hasBody Tryd.prog 29 := body_of kr
theorem hbv54 : hasBody Tryd.prog 54 := body_of kr
theorem hbv62 : hasBody Tryd.prog 62 := body_of kr
theorem hbv53 : hasBody Tryd.prog 53 := body_of kr
theorem hbv55 : hasBody Tryd.prog 55 := body_of kr
theorem hbv48 : hasBody Tryd.prog 48 := body_of kr
theorem hbv12 : hasBody Tryd.prog 12 := body_of kr
theorem kok78 : KeyOK Tryd.prog 78 (fun e => V.agg (enc_disk_sector e)) (fun e : disk_sector => Value.agg (vals_disk_sector e).toArray) := keyOK_disk_sector kr
theorem hbv40 : hasBody Tryd.prog 40 := body_of kr
theorem hbv44 : hasBody Tryd.prog 44 := body_of kr
theorem hbv23 : hasBody Tryd.prog 23 := body_of kr
theorem hbv25 : hasBody Tryd.prog 25 := body_of kr
theorem hbv45 : hasBody Tryd.prog 45 := body_of kr
theorem hbv24 : hasBody Tryd.prog 24 := body_of kr
theorem hbv19 : hasBody Tryd.prog 19 := body_of kr
theorem hbv49 : hasBody Tryd.prog 49 := body_of kr
theorem hbv42 : hasBody Tryd.prog 42 := body_of kr
theorem hbv50 : hasBody Tryd.prog 50 := body_of kr
theorem hbv41 : hasBody Tryd.prog 41 := body_of kr
theorem hbv69 : hasBody Tryd.prog 69 := body_of kr
theorem hbv60 : hasBody Tryd.prog 60 := body_of kr
theorem hbv51 : hasBody Tryd.prog 51 := body_of kr
theorem hbv43 : hasBody Tryd.prog 43 := body_of kr
theorem hbv21 : hasBody Tryd.prog 21 := body_of kr
theorem hbv22 : hasBody Tryd.prog 22 := body_of kr
theorem hbv37 : hasBody Tryd.prog 37 := body_of kr
theorem hbv34 : hasBody Tryd.prog 34 := body_of kr
theorem hbv14 : hasBody Tryd.prog 14 := body_of kr
theorem hbv13 : hasBody Tryd.prog 13 := body_of kr
theorem hbv35 : hasBody Tryd.prog 35 := body_of kr
theorem hbv36 : hasBody Tryd.prog 36 := body_of kr
theorem w_disk_Disk_Size (d_files : (List (Int × disk_file))) (d_queue : (List disk_sector)) (d_set : (List (disk_sector × Bool))) (d_lost : Int) (d_down : Bool) (d_armed : Int) (d_keep : (List Int)) (f : Int) (r : Int × Int × Bool × Int × (List Int)) (hs : s_disk_Disk_Size d_files d_queue d_set d_lost d_down d_armed d_keep f = some r) : FnA Tryd.prog 12 [pO, iI f] (dH (bD 1000002 ((d_queue).length) [iI d_lost, .bool d_down, iI d_armed, .vs 1 (mI d_keep)]) d_files d_queue d_set) (iI r.1) [(1000001, (oF d_files)), (1000000, (bD 1000002 ((d_queue).length) [iI r.2.1, .bool r.2.2.1, iI r.2.2.2.1, .vs 1 (mI r.2.2.2.2)])), (1000002, (oQ d_queue)), (1000003, (oS d_set))] := by
 refine fnA_of_wp (N := 13) Tryd.func12 rfl rfl rfl fun cK0 => ?_
 unfold s_disk_Disk_Size at hs
 refine v_same (ρ' := [(0, pO), (1, iI f)]) rfl rfl ?_
 refine vS (vT (oR 1 [(4, iI 0)] kr ?_))
 refine oN (nT (vS (vT (oR 5 [(9, iI f), (8, .mp 1000001), (7, pO), (6, pO), (5, pO)] kr ?_))))
 refine o_loc (F := [(1000001, (oF d_files))]) (F' := [(1000001, (oF d_files))]) (v := .agg (enc_disk_file (Option.getD (mfind f d_files) (disk_file.mk [] [])))) [1000001] kr kr rfl kr (loc_lookup (et := 72) (f := (V.int .i64)) (g := (fun e => V.agg (enc_disk_file e))) (l := d_files) (a := f) (z := (disk_file.mk [] [])) (zv := .agg [.str [], .str []]) false kr kok3 kr (fun _ _ _ h => h) kr kr) kr ?_
 refine oR 3 [(4, iI (List.length ((Option.getD (mfind f d_files) (disk_file.mk [] [])).now) : Int)), (12, iI (List.length ((Option.getD (mfind f d_files) (disk_file.mk [] [])).now) : Int)), (11, .str ((Option.getD (mfind f d_files) (disk_file.mk [] [])).now))] kr ?_
 refine oN (nT (v_ret ?_))
 obtain rfl := si hs
 exact fin_ret kr kr kr
theorem w_disk_Disk_may (d_files : (List (Int × disk_file))) (d_queue : (List disk_sector)) (d_set : (List (disk_sector × Bool))) (d_lost : Int) (d_down : Bool) (d_armed : Int) (d_keep : (List Int)) (f : Int) (r : Int × Int × Bool × Int × (List Int)) (hs : s_disk_Disk_may d_files d_queue d_set d_lost d_down d_armed d_keep f = some r) : FnA Tryd.prog 38 [pO, iI f] (dH (bD 1000002 ((d_queue).length) [iI d_lost, .bool d_down, iI d_armed, .vs 1 (mI d_keep)]) d_files d_queue d_set) (iI r.1) (dH (bD 1000002 ((d_queue).length) [iI r.2.1, .bool r.2.2.1, iI r.2.2.2.1, .vs 1 (mI r.2.2.2.2)]) d_files d_queue d_set) := by
 refine fnA_of_wp (N := 17) Tryd.func38 rfl rfl rfl fun cK0 => ?_
 unfold s_disk_Disk_may at hs
 refine v_same (ρ' := [(0, pO), (1, iI f)]) rfl rfl ?_
 refine vS (vT (oR 1 [(4, iI 0)] kr ?_))
 refine oN (nT (vS (vB (vS (vT (oR 5 [(5, .bool d_down), (9, .bool d_down), (8, .ptr 1000000 0 4), (7, pO), (6, pO)] kr ?_))))))
 refine oN (nT ?_)
 refine v_cond d_down kr (fun h1 => ?_) (fun h1 => ?_)
 ·replace hs := bif_t h1 hs
  refine vS (vT (oR 1 [(4, iI 8)] kr ?_))
  refine oN (nT (v_ret (rB (rT ?_))))
  obtain rfl := si hs
  exact fin_ret kr kr kr
 ·replace hs := bif_f h1 hs
  refine vS ?_
  obtain ⟨z1, hs, hk1⟩ := bS hs
  refine v_join (S := Bool) (fun u => u = z1) (fun u => [(10, .bool u)]) (fun u => (dH (bD 1000002 ((d_queue).length) [iI d_lost, .bool d_down, iI d_armed, .vs 1 (mI d_keep)]) d_files d_queue d_set)) ?_ (fun v1 hz => ?_)
  ·refine vT (oR 3 [(13, .bool (decide (f < 0))), (12, .bool (decide (f < 0))), (11, iI f)] kr ?_)
   cases h2 : ((decide (f < 0)))
   ·replace hs := bif_f h2 hs
    refine oR 4 [(10, .bool (decide (f ≥ 16))), (16, .bool (decide (f ≥ 16))), (15, .bool (decide (f ≥ 16))), (14, iI f)] kr ?_
    refine oN ?_
    obtain rfl := si hs
    refine nrm_join (decide (f ≥ 16)) rfl ?_
    exact cut_of [10] kD kr kr kr
   ·replace hs := bif_t h2 hs
    refine oR 4 [(10, .bool true), (16, .bool true), (15, .no), (14, .no)] kr ?_
    refine oN ?_
    obtain rfl := si hs
    refine nrm_join true rfl ?_
    exact cut_of [10] kD kr kr kr
  ·subst hz; clear hs; have hs := hk1; clear hk1
   refine nT ?_
   refine v_cond v1 kr (fun h3 => ?_) (fun h3 => ?_)
   ·replace hs := bif_t h3 hs
    refine vS (vT (oR 1 [(4, iI 1)] kr ?_))
    refine oN (nT (v_ret (rB (rT ?_))))
    obtain rfl := si hs
    exact fin_ret kr kr kr
   ·replace hs := bif_f h3 hs
    refine vK (nB (nT (vS (vT (oR 1 [(4, iI 0)] kr ?_)))))
    refine oN (nT (v_ret ?_))
    obtain rfl := si hs
    exact fin_ret kr kr kr
theorem w_disk_Disk_Read (d_files : (List (Int × disk_file))) (d_queue : (List disk_sector)) (d_set : (List (disk_sector × Bool))) (d_lost : Int) (d_down : Bool) (d_armed : Int) (d_keep : (List Int)) (f : Int) (at_ : Int) (size : Int) (r : (List UInt8) × Int × Int × Bool × Int × (List Int)) (hs : s_disk_Disk_Read d_files d_queue d_set d_lost d_down d_armed d_keep f at_ size = some r) : FnA Tryd.prog 13 [pO, iI f, iI at_, iI size] (dH (bD 1000002 ((d_queue).length) [iI d_lost, .bool d_down, iI d_armed, .vs 1 (mI d_keep)]) d_files d_queue d_set) (.tup [.str r.1, iI r.2.1]) (dH (bD 1000002 ((d_queue).length) [iI r.2.2.1, .bool r.2.2.2.1, iI r.2.2.2.2.1, .vs 1 (mI r.2.2.2.2.2)]) d_files d_queue d_set) := by
 refine fnA_of_wp (N := 43) Tryd.func13 rfl rfl rfl fun cK0 => ?_
 unfold s_disk_Disk_Read at hs
 refine v_same (ρ' := [(0, pO), (1, iI f), (2, iI at_), (3, iI size)]) rfl rfl ?_
 refine vS (vT (oR 2 [(9, iI 0), (8, .str [])] kr ?_))
 refine oN (nT (vS (vS (vT (oR 2 [(13, iI f), (12, pO)] kr ?_)))))
 obtain ⟨y1, c1, hs⟩ := bS hs
 refine o_loc (F := (dH (bD 1000002 ((d_queue).length) [iI d_lost, .bool d_down, iI d_armed, .vs 1 (mI d_keep)]) d_files d_queue d_set)) (F' := (dH (bD 1000002 ((d_queue).length) [iI y1.2.1, .bool y1.2.2.1, iI y1.2.2.2.1, .vs 1 (mI y1.2.2.2.2)]) d_files d_queue d_set)) (v := iI y1.1) kD kr kr rfl kr (loc_g (R := []) [pO, iI f] rD (callV_func hbv38 kr) (w_disk_Disk_may d_files d_queue d_set d_lost d_down d_armed d_keep f _ c1) vw2 kr kr kr kr kr kr kr kr) kr ?_
 refine oR 1 [(10, iI y1.1)] kr ?_
 refine oN (nT (vS (vT (oR 2 [(16, .bool (!(decide (y1.1 = 0)))), (15, iI y1.1)] kr ?_))))
 refine oN (nT ?_)
 refine v_cond (!(decide (y1.1 = 0))) kr (fun h1 => ?_) (fun h1 => ?_)
 ·replace hs := bif_t h1 hs
  refine vS (vT (oR 3 [(9, iI y1.1), (8, .str []), (17, iI y1.1)] kr ?_))
  refine oN (nT (v_ret (rT ?_)))
  obtain rfl := si hs
  exact fin_ret kr kr kr
 ·replace hs := bif_f h1 hs
  refine vK (nT (vS (vS ?_)))
  obtain ⟨z1, hs, hk1⟩ := bS hs
  refine v_join (S := Bool) (fun u => u = z1) (fun u => [(0, pO), (1, iI f), (2, iI at_), (3, iI size), (23, .bool u)]) (fun u => (dH (bD 1000002 ((d_queue).length) [iI y1.2.1, .bool y1.2.2.1, iI y1.2.2.2.1, .vs 1 (mI y1.2.2.2.2)]) d_files d_queue d_set)) ?_ (fun v1 hz => ?_)
  ·refine vT (oR 3 [(20, .bool (decide (at_ < 0))), (19, .bool (decide (at_ < 0))), (18, iI at_)] kr ?_)
   cases h2 : ((decide (at_ < 0)))
   ·replace hs := bif_f h2 hs
    refine oR 3 [(23, .bool (decide (size < 0))), (22, .bool (decide (size < 0))), (21, iI size)] kr ?_
    refine oN ?_
    obtain rfl := si hs
    refine nrm_join (decide (size < 0)) rfl ?_
    exact cut_of [0, 1, 2, 3, 23] kD kr kr kr
   ·replace hs := bif_t h2 hs
    refine oR 3 [(23, .bool true), (22, .no), (21, .no)] kr ?_
    refine oN ?_
    obtain rfl := si hs
    refine nrm_join true rfl ?_
    exact cut_of [0, 1, 2, 3, 23] kD kr kr kr
  ·subst hz; clear hs; have hs := hk1; clear hk1
   refine nT ?_
   refine v_cond v1 kr (fun h3 => ?_) (fun h3 => ?_)
   ·replace hs := bif_t h3 hs
    refine vS (vT (oR 2 [(9, iI 1), (8, .str [])] kr ?_))
    refine oN (nT (v_ret (rT ?_)))
    obtain rfl := si hs
    exact fin_ret kr kr kr
   ·replace hs := bif_f h3 hs
    refine vK (nT (vS (vT (oR 5 [(28, iI f), (27, .mp 1000001), (26, pO), (25, pO), (24, pO)] kr ?_))))
    refine o_loc (F := [(1000001, (oF d_files))]) (F' := [(1000001, (oF d_files))]) (v := .agg (enc_disk_file (Option.getD (mfind f d_files) (disk_file.mk [] [])))) [1000001] kr kr rfl kr (loc_lookup (et := 72) (f := (V.int .i64)) (g := (fun e => V.agg (enc_disk_file e))) (l := d_files) (a := f) (z := (disk_file.mk [] [])) (zv := .agg [.str [], .str []]) false kr kok3 kr (fun _ _ _ h => h) kr kr) kr ?_
    refine oR 2 [(11, .str ((Option.getD (mfind f d_files) (disk_file.mk [] [])).now)), (30, .str ((Option.getD (mfind f d_files) (disk_file.mk [] [])).now))] kr ?_
    refine oN (nT (vS (vT (oR 5 [(35, iI (min at_ (List.length ((Option.getD (mfind f d_files) (disk_file.mk [] [])).now) : Int))), (34, iI (List.length ((Option.getD (mfind f d_files) (disk_file.mk [] [])).now) : Int)), (33, .str ((Option.getD (mfind f d_files) (disk_file.mk [] [])).now)), (32, iI at_), (31, .str ((Option.getD (mfind f d_files) (disk_file.mk [] [])).now))] kr ?_))))
    obtain ⟨x1, g1, hs⟩ := bS hs; obtain ⟨g1a, g1b, g1c, g1d⟩ := cut_some g1
    refine oP (v := .str x1) kr kr (by rw [g1d]; exact loc_sliceStr (s := (Option.getD (mfind f d_files) (disk_file.mk [] [])).now) (l := (min at_ (List.length ((Option.getD (mfind f d_files) (disk_file.mk [] [])).now) : Int))) (h := (List.length ((Option.getD (mfind f d_files) (disk_file.mk [] [])).now) : Int)) kr kr ⟨.i64, by kernel_rfl⟩ rfl g1a g1b g1c) ?_
    refine oR 1 [(11, .str x1)] kr ?_
    refine oN (nT (vS (vT (oR 5 [(41, iI (min size (List.length x1 : Int))), (40, iI (List.length x1 : Int)), (39, .str x1), (38, iI size), (37, .str x1)] kr ?_))))
    obtain ⟨x2, g2, hs⟩ := bS hs; obtain ⟨g2a, g2b, g2c, g2d⟩ := cut_some g2
    refine oP (v := .str x2) kr kr (by rw [g2d]; exact loc_sliceStr (s := x1) (l := 0) (h := (min size (List.length x1 : Int))) kr kr rfl ⟨.i64, by kernel_rfl⟩ g2a g2b g2c) ?_
    refine oR 2 [(9, iI 0), (8, .str x2)] kr ?_
    refine oN (nT (v_ret ?_))
    obtain rfl := si hs
    exact fin_ret kr kr kr
theorem w_disk_put (s : (List UInt8)) (at_ : Int) (t : (List UInt8)) (r : (List UInt8)) (hs : s_disk_put s at_ t = some r) : FnA Tryd.prog 46 [.str s, iI at_, .str t] [] (.str r) [] := by
 refine fnA_of_wp (N := 29) Tryd.func46 rfl rfl rfl fun cK0 => ?_
 unfold s_disk_put at hs
 refine v_same (ρ' := [(0, .str s), (1, iI at_), (2, .str t)]) rfl rfl ?_
 refine vS (vT (oR 1 [(6, .str [])] kr ?_))
 refine oN (nT (vS (vS (vT (oR 2 [(9, .bool (decide (t = []))), (8, .str t)] kr ?_)))))
 refine oN (nT ?_)
 refine v_cond (decide (t = [])) kr (fun h1 => ?_) (fun h1 => ?_)
 ·replace hs := bif_t h1 hs
  refine vS (vT (oR 2 [(6, .str s), (10, .str s)] kr ?_))
  refine oN (nT (v_ret (rT ?_)))
  obtain rfl := si hs
  exact fin_ret kr kr kr
 ·replace hs := bif_f h1 hs
  refine vK (nT (vS (vT (oR 7 [(17, iI (max (List.length s : Int) (w64 (at_ + (List.length t : Int))))), (16, iI (w64 (at_ + (List.length t : Int)))), (15, iI (List.length t : Int)), (14, .str t), (13, iI at_), (12, iI (List.length s : Int)), (11, .str s)] kr ?_))))
  obtain ⟨⟨g1a, g1b, g1c⟩, hs⟩ := bG hs
  refine o_loc (F := []) (F' := [(18, .row 5 1 0 (List.map (encK .u8) (List.replicate (Int.toNat (max (List.length s : Int) (w64 (at_ + (List.length t : Int))))) (0 : Int))))]) (v := .sl 1 18 (((List.replicate (Int.toNat (max (List.length s : Int) (w64 (at_ + (List.length t : Int))))) (0 : Int))).length) 0 (((List.replicate (Int.toNat (max (List.length s : Int) (w64 (at_ + (List.length t : Int))))) (0 : Int))).length)) [] kr kr rfl kr (loc_makeSliceT (L := ((List.replicate (Int.toNat (max (List.length s : Int) (w64 (at_ + (List.length t : Int))))) (0 : Int))).length) (e := 5) (sz := 1) (bytes := 1) (q := (max (List.length s : Int) (w64 (at_ + (List.length t : Int))))) (k := .i64) (k2 := .i64) (cs := [.int .u8 0]) (cs2 := [.int .u8 0]) kr kr kr kr kr g1a g1b g1c (List.map_replicate (f := (encK .u8))).symm (List.length_replicate ..) (fun _ _ h => h)) kr ?_
  refine oR 1 [(7, .sl 1 18 (((List.replicate (Int.toNat (max (List.length s : Int) (w64 (at_ + (List.length t : Int))))) (0 : Int))).length) 0 (((List.replicate (Int.toNat (max (List.length s : Int) (w64 (at_ + (List.length t : Int))))) (0 : Int))).length))] kr ?_
  refine oN (nT (vS (vT (oR 2 [(20, .str s), (19, .sl 1 18 (((List.replicate (Int.toNat (max (List.length s : Int) (w64 (at_ + (List.length t : Int))))) (0 : Int))).length) 0 (((List.replicate (Int.toNat (max (List.length s : Int) (w64 (at_ + (List.length t : Int))))) (0 : Int))).length))] kr ?_))))
  refine o_loc (F := [(18, .row 5 1 0 (List.map (encK .u8) (List.replicate (Int.toNat (max (List.length s : Int) (w64 (at_ + (List.length t : Int))))) (0 : Int))))]) (F' := [(18, .row 5 1 0 (List.map (encK .u8) (cpyT (List.replicate (Int.toNat (max (List.length s : Int) (w64 (at_ + (List.length t : Int))))) (0 : Int)) 0 (List.map (fun b => (b.toNat : Int)) (List.take (min (List.length s) (((List.replicate (Int.toNat (max (List.length s : Int) (w64 (at_ + (List.length t : Int))))) (0 : Int))).length)) s)))))]) (v := iI (((min (List.length s) (((List.replicate (Int.toNat (max (List.length s : Int) (w64 (at_ + (List.length t : Int))))) (0 : Int))).length)) : Nat) : Int)) [18] kr kr rfl kr (loc_copyStr (e := 5) (bytes := 1) (k := 18) (L := (((List.replicate (Int.toNat (max (List.length s : Int) (w64 (at_ + (List.length t : Int))))) (0 : Int))).length)) (o := 0) (n := (((List.replicate (Int.toNat (max (List.length s : Int) (w64 (at_ + (List.length t : Int))))) (0 : Int))).length)) (c := (min (List.length s) (((List.replicate (Int.toNat (max (List.length s : Int) (w64 (at_ + (List.length t : Int))))) (0 : Int))).length))) (q := (List.replicate (Int.toNat (max (List.length s : Int) (w64 (at_ + (List.length t : Int))))) (0 : Int))) (ys := s) kr kr (by first | rfl | simp only [List.length_set, cpyT_length]) (by omega) kr rfl rfl) kr ?_
  refine oN (nT (vS (vT (oR 2 [(23, iI at_), (22, .sl 1 18 (((List.replicate (Int.toNat (max (List.length s : Int) (w64 (at_ + (List.length t : Int))))) (0 : Int))).length) 0 (((List.replicate (Int.toNat (max (List.length s : Int) (w64 (at_ + (List.length t : Int))))) (0 : Int))).length))] kr ?_))))
  obtain ⟨⟨g2a, g2b, g2c⟩, hs⟩ := bG hs
  refine oP (v := .sl 1 18 (((List.replicate (Int.toNat (max (List.length s : Int) (w64 (at_ + (List.length t : Int))))) (0 : Int))).length) (Int.toNat at_) (Int.toNat (((List.replicate (Int.toNat (max (List.length s : Int) (w64 (at_ + (List.length t : Int))))) (0 : Int))).length : Int) - Int.toNat at_)) kr kr (loc_sliceRowT (e := 5) (sz := 1) (k := 18) (L := (((List.replicate (Int.toNat (max (List.length s : Int) (w64 (at_ + (List.length t : Int))))) (0 : Int))).length)) (n := ((List.replicate (Int.toNat (max (List.length s : Int) (w64 (at_ + (List.length t : Int))))) (0 : Int))).length) (l := at_) (h := (((List.replicate (Int.toNat (max (List.length s : Int) (w64 (at_ + (List.length t : Int))))) (0 : Int))).length : Int)) kr kr ⟨.i64, by kernel_rfl⟩ rfl g2a g2b g2c) ?_
  refine oR 1 [(25, .str t)] kr ?_
  refine o_loc (F := [(18, .row 5 1 0 (List.map (encK .u8) (cpyT (List.replicate (Int.toNat (max (List.length s : Int) (w64 (at_ + (List.length t : Int))))) (0 : Int)) 0 (List.map (fun b => (b.toNat : Int)) (List.take (min (List.length s) (((List.replicate (Int.toNat (max (List.length s : Int) (w64 (at_ + (List.length t : Int))))) (0 : Int))).length)) s)))))]) (F' := [(18, .row 5 1 0 (List.map (encK .u8) (cpyT (cpyT (List.replicate (Int.toNat (max (List.length s : Int) (w64 (at_ + (List.length t : Int))))) (0 : Int)) 0 (List.map (fun b => (b.toNat : Int)) (List.take (min (List.length s) (((List.replicate (Int.toNat (max (List.length s : Int) (w64 (at_ + (List.length t : Int))))) (0 : Int))).length)) s))) (Int.toNat at_) (List.map (fun b => (b.toNat : Int)) (List.take (min (List.length t) (Int.toNat (((List.replicate (Int.toNat (max (List.length s : Int) (w64 (at_ + (List.length t : Int))))) (0 : Int))).length : Int) - Int.toNat at_)) t)))))]) (v := iI (((min (List.length t) (Int.toNat (((List.replicate (Int.toNat (max (List.length s : Int) (w64 (at_ + (List.length t : Int))))) (0 : Int))).length : Int) - Int.toNat at_)) : Nat) : Int)) [18] kr kr rfl kr (loc_copyStr (e := 5) (bytes := 1) (k := 18) (L := (((List.replicate (Int.toNat (max (List.length s : Int) (w64 (at_ + (List.length t : Int))))) (0 : Int))).length)) (o := (Int.toNat at_)) (n := (Int.toNat (((List.replicate (Int.toNat (max (List.length s : Int) (w64 (at_ + (List.length t : Int))))) (0 : Int))).length : Int) - Int.toNat at_)) (c := (min (List.length t) (Int.toNat (((List.replicate (Int.toNat (max (List.length s : Int) (w64 (at_ + (List.length t : Int))))) (0 : Int))).length : Int) - Int.toNat at_))) (q := (cpyT (List.replicate (Int.toNat (max (List.length s : Int) (w64 (at_ + (List.length t : Int))))) (0 : Int)) 0 (List.map (fun b => (b.toNat : Int)) (List.take (min (List.length s) (((List.replicate (Int.toNat (max (List.length s : Int) (w64 (at_ + (List.length t : Int))))) (0 : Int))).length)) s)))) (ys := t) kr kr (by first | rfl | simp only [List.length_set, cpyT_length]) (by omega) kr rfl rfl) kr ?_
  refine oN (nT (vS (vT (oR 1 [(27, .sl 1 18 (((List.replicate (Int.toNat (max (List.length s : Int) (w64 (at_ + (List.length t : Int))))) (0 : Int))).length) 0 (((List.replicate (Int.toNat (max (List.length s : Int) (w64 (at_ + (List.length t : Int))))) (0 : Int))).length))] kr ?_))))
  refine o_loc (F := [(18, .row 5 1 0 (List.map (encK .u8) (cpyT (cpyT (List.replicate (Int.toNat (max (List.length s : Int) (w64 (at_ + (List.length t : Int))))) (0 : Int)) 0 (List.map (fun b => (b.toNat : Int)) (List.take (min (List.length s) (((List.replicate (Int.toNat (max (List.length s : Int) (w64 (at_ + (List.length t : Int))))) (0 : Int))).length)) s))) (Int.toNat at_) (List.map (fun b => (b.toNat : Int)) (List.take (min (List.length t) (Int.toNat (((List.replicate (Int.toNat (max (List.length s : Int) (w64 (at_ + (List.length t : Int))))) (0 : Int))).length : Int) - Int.toNat at_)) t)))))]) (F' := [(18, .row 5 1 0 (List.map (encK .u8) (cpyT (cpyT (List.replicate (Int.toNat (max (List.length s : Int) (w64 (at_ + (List.length t : Int))))) (0 : Int)) 0 (List.map (fun b => (b.toNat : Int)) (List.take (min (List.length s) (((List.replicate (Int.toNat (max (List.length s : Int) (w64 (at_ + (List.length t : Int))))) (0 : Int))).length)) s))) (Int.toNat at_) (List.map (fun b => (b.toNat : Int)) (List.take (min (List.length t) (Int.toNat (((List.replicate (Int.toNat (max (List.length s : Int) (w64 (at_ + (List.length t : Int))))) (0 : Int))).length : Int) - Int.toNat at_)) t)))))]) (v := .str (bytesOf (cpyT (cpyT (List.replicate (Int.toNat (max (List.length s : Int) (w64 (at_ + (List.length t : Int))))) (0 : Int)) 0 (List.map (fun b => (b.toNat : Int)) (List.take (min (List.length s) (((List.replicate (Int.toNat (max (List.length s : Int) (w64 (at_ + (List.length t : Int))))) (0 : Int))).length)) s))) (Int.toNat at_) (List.map (fun b => (b.toNat : Int)) (List.take (min (List.length t) (Int.toNat (((List.replicate (Int.toNat (max (List.length s : Int) (w64 (at_ + (List.length t : Int))))) (0 : Int))).length : Int) - Int.toNat at_)) t))))) [18] kr kr rfl kr (loc_bytesStr (t := 5) (fz := 0) (L := ((List.replicate (Int.toNat (max (List.length s : Int) (w64 (at_ + (List.length t : Int))))) (0 : Int))).length) (l := (cpyT (cpyT (List.replicate (Int.toNat (max (List.length s : Int) (w64 (at_ + (List.length t : Int))))) (0 : Int)) 0 (List.map (fun b => (b.toNat : Int)) (List.take (min (List.length s) (((List.replicate (Int.toNat (max (List.length s : Int) (w64 (at_ + (List.length t : Int))))) (0 : Int))).length)) s))) (Int.toNat at_) (List.map (fun b => (b.toNat : Int)) (List.take (min (List.length t) (Int.toNat (((List.replicate (Int.toNat (max (List.length s : Int) (w64 (at_ + (List.length t : Int))))) (0 : Int))).length : Int) - Int.toNat at_)) t)))) kr kr (by first | (simp only [List.length_map, List.length_set, cpyT_length]; done) | rfl)) kr ?_
  refine oR 1 [(6, .str (bytesOf (cpyT (cpyT (List.replicate (Int.toNat (max (List.length s : Int) (w64 (at_ + (List.length t : Int))))) (0 : Int)) 0 (List.map (fun b => (b.toNat : Int)) (List.take (min (List.length s) (((List.replicate (Int.toNat (max (List.length s : Int) (w64 (at_ + (List.length t : Int))))) (0 : Int))).length)) s))) (Int.toNat at_) (List.map (fun b => (b.toNat : Int)) (List.take (min (List.length t) (Int.toNat (((List.replicate (Int.toNat (max (List.length s : Int) (w64 (at_ + (List.length t : Int))))) (0 : Int))).length : Int) - Int.toNat at_)) t)))))] kr ?_
  refine oN (nT (v_ret ?_))
  obtain rfl := si hs
  exact fin_ret kr kr kr
theorem w_disk_Disk_Crash_n (d_files : (List (Int × disk_file))) (d_queue : (List disk_sector)) (d_set : (List (disk_sector × Bool))) (d_lost : Int) (d_down : Bool) (d_armed : Int) (d_keep : (List Int)) (keep : (List Int)) (r : Int × Bool × Int × (List Int)) (hs : s_disk_Disk_Crash_n d_files d_queue d_set d_lost d_down d_armed d_keep keep = some r) : FnA Tryd.prog 29 [pO, .vs 1 (mI keep)] (dH (bD 1000002 ((d_queue).length) [iI d_lost, .bool d_down, iI d_armed, .vs 1 (mI d_keep)]) d_files d_queue d_set) (.tup []) (dH (bD 1000002 ((d_queue).length) [iI r.1, .bool r.2.1, iI r.2.2.1, .vs 1 (mI r.2.2.2)]) d_files d_queue d_set) := by
 refine fnA_of_wp (N := 111) Tryd.func29 rfl rfl rfl fun cK0 => ?_
 unfold s_disk_Disk_Crash_n at hs
 refine v_same (ρ' := [(0, pO), (1, .vs 1 (mI keep))]) rfl rfl ?_
 refine vS (vS (vT (oR 4 [(13, .bool d_down), (12, .ptr 1000000 0 4), (11, pO), (10, pO)] kr ?_)))
 refine oN (nT ?_)
 refine v_cond d_down kr (fun h1 => ?_) (fun h1 => ?_)
 ·replace hs := bif_t h1 hs
  refine v_ret (rT ?_)
  obtain rfl := si hs
  exact fin_ret kr kr kr
 ·replace hs := bif_f h1 hs
  cases hs
theorem w_disk_Disk_Crash_x (d_files : (List (Int × disk_file))) (d_queue : (List disk_sector)) (d_set : (List (disk_sector × Bool))) (d_lost : Int) (d_down : Bool) (d_armed : Int) (d_keep : (List Int)) (keep : (List Int)) (r : (List (Int × disk_file)) × Int × (List Int)) (hs : s_disk_Disk_Crash_x d_files d_queue d_set d_lost d_down d_armed d_keep keep = some r) : FnA Tryd.prog 29 [pO, .vs 1 (mI keep)] (dH (bD 1000002 ((d_queue).length) [iI d_lost, .bool d_down, iI d_armed, .vs 1 (mI d_keep)]) d_files d_queue d_set) (.tup []) [(106, (oS [])), (1000001, (oF r.1)), (1000000, .box 64 [.mp 1000001, .nils, .mp 106, iI r.2.1, .bool true, iI 0, .vs 1 (mI r.2.2)]), (1000002, (oQ d_queue)), (1000003, (oS d_set))] := by
 refine fnA_of_wp (N := 111) Tryd.func29 rfl rfl rfl fun cK0 => ?_
 unfold s_disk_Disk_Crash_x at hs
 refine v_same (ρ' := [(0, pO), (1, .vs 1 (mI keep))]) rfl rfl ?_
 refine vS (vS (vT (oR 4 [(13, .bool d_down), (12, .ptr 1000000 0 4), (11, pO), (10, pO)] kr ?_)))
 refine oN (nT ?_)
 refine v_cond d_down kr (fun h1 => ?_) (fun h1 => ?_)
 ·replace hs := bif_t h1 hs
  cases hs
 ·replace hs := bif_f h1 hs
  refine vK (nT (vS (vT (o_runh 8 [(19, .ptr 1000000 0 5), (18, pO), (17, .ptr 1000000 0 4), (16, pO), (15, pO), (14, pO)] (dH (bD 1000002 ((d_queue).length) [iI d_lost, .bool true, iI 0, .vs 1 (mI d_keep)]) d_files d_queue d_set) kr ?_))))
  refine oN (nT (vS (vS (vT (oR 6 [(25, iI 0), (24, iI ((d_queue).length : Int)), (23, .sl 2 1000002 ((d_queue).length) 0 ((d_queue).length)), (22, .ptr 1000000 0 1), (21, pO), (20, pO)] kr ?_)))))
  refine oN (nT ?_)
  obtain ⟨z1, hs, hk1⟩ := bS hs
  refine v_join (S := (List (Int × disk_file))) (fun u => u = z1) (fun u => [(0, pO)]) (fun u => (dH (bD 1000002 ((d_queue).length) [iI d_lost, .bool true, iI 0, .vs 1 (mI d_keep)]) u d_queue d_set)) ?_ (fun v1 hz => ?_)
  ·refine vB ?_
   refine v_fuel (S := Int × (List (Int × disk_file))) (fun u => [(0, pO), (1, .vs 1 (mI keep)), (23, .sl 2 1000002 ((d_queue).length) 0 ((d_queue).length)), (24, iI ((d_queue).length : Int)), (25, iI u.1)]) (fun u => (dH (bD 1000002 ((d_queue).length) [iI d_lost, .bool true, iI 0, .vs 1 (mI d_keep)]) u.2 d_queue d_set)) (s_disk_Disk_Crash_x_L1 d_queue keep) (fun _ => rfl) KK (0, d_files) hs (cut_of [0, 1, 23, 24, 25] kD kr kr kr) (fun K1 q1 hs => ?_)
   rw [s_disk_Disk_Crash_x_L1] at hs
   show WpV cK0 Tryd.prog none 111 _ _ [(0, pO), (1, .vs 1 (mI keep)), (23, .sl 2 1000002 ((d_queue).length) 0 ((d_queue).length)), (24, iI ((d_queue).length : Int)), (25, iI q1.1)] (dH (bD 1000002 ((d_queue).length) [iI d_lost, .bool true, iI 0, .vs 1 (mI d_keep)]) q1.2 d_queue d_set) []
   refine vS (vT (oR 1 [(26, .bool (decide (q1.1 < ((d_queue).length : Int))))] kr ?_))
   refine oN (nT (vS ?_))
   refine v_cond (decide (q1.1 < ((d_queue).length : Int))) kr (fun h2 => ?_) (fun h2 => ?_)
   ·replace hs := bif_t h2 hs
    refine vK (nT (vS ?_))
    obtain ⟨z2, hs, hk2⟩ := bS hs
    refine v_join (S := (List (Int × disk_file))) (fun u => u = z2) (fun u => [(0, pO), (1, .vs 1 (mI keep)), (23, .sl 2 1000002 ((d_queue).length) 0 ((d_queue).length)), (24, iI ((d_queue).length : Int)), (25, iI q1.1)]) (fun u => [(1000002, (oQ d_queue)), (1000000, (bD 1000002 ((d_queue).length) [iI d_lost, .bool true, iI 0, .vs 1 (mI d_keep)])), (1000001, (oF u)), (1000003, (oS d_set))]) ?_ (fun v2 hz => ?_)
    ·refine vB (vS (vT (oR 1 [(27, iI q1.1)] kr ?_)))
     obtain ⟨⟨g1a, g1b⟩, hs⟩ := bG hs
     refine oP (v := .ptr 1000002 ((d_queue).length) ((Int.toNat q1.1) * 2 + 0)) kr kr (loc_indexRowT (e := 78) (sz := 2) (kk := 1000002) (L := (d_queue).length) (n := (d_queue).length) (k := .i64) (i := q1.1) kr kr kr g1a g1b) ?_
     obtain ⟨e1, he1, hs⟩ := bE hs
     refine o_loc (F := [(1000002, (oQ d_queue))]) (F' := [(1000002, (oQ d_queue))]) (v := .agg (enc_disk_sector e1)) [1000002] kr kr rfl kr (loc_loadRow (L := (d_queue).length) (off := (Int.toNat q1.1) * 2 + 0) (els := (mM enc_disk_sector d_queue)) (cs := (enc_disk_sector e1)) (Int.toNat q1.1) 0 kr (by first | (simp only [List.length_map, List.length_set, cpyT_length]; done) | rfl) rfl (by rw [← he1]; exact map_get _ (by first | omega | (simp only [List.length_set, cpyT_length]; omega))) kr) kr ?_
     refine o_runh 3 [(4, iI q1.1), (5, .ptr 5 0 0)] [(5, .box 78 [iI e1.file, iI e1.number]), (1000002, (oQ d_queue)), (1000000, (bD 1000002 ((d_queue).length) [iI d_lost, .bool true, iI 0, .vs 1 (mI d_keep)])), (1000001, (oF q1.2)), (1000003, (oS d_set))] kr ?_
     refine oN (nT (vS (v_draw mixedH kr ?_)))
     refine d_runs 6 0 [(35, iI e1.file), (34, .ptr 5 0 0), (33, .mp 1000001), (32, pO), (31, pO), (30, pO)] [⟨5, [], [5]⟩, ⟨4, [], []⟩, ⟨3, [], [1000000]⟩, ⟨2, [], []⟩, ⟨1, [], []⟩, ⟨0, [], []⟩] kr kr ?_
     refine d_loc (F := []) (R := [(1000001, (oF q1.2))]) (F' := []) (v := .agg (enc_disk_file (Option.getD (mfind e1.file q1.2) (disk_file.mk [] [])))) 6 [] [1000001] rfl rfl rfl rfl kr kr kr kr kr kr kr kr (loc_lookup (et := 72) (f := (V.int .i64)) (g := (fun e => V.agg (enc_disk_file e))) (l := q1.2) (a := e1.file) (z := (disk_file.mk [] [])) (zv := .agg [.str [], .str []]) false kr kok3 kr (fun _ _ _ h => h) kr kr) ?_
     refine d_runh 6 7 [(7, iI (w64 (e1.number * 64))), (6, .ptr 6 0 0), (39, iI (w64 (e1.number * 64))), (38, iI e1.number), (37, .ptr 5 0 1)] [(6, .box 72 [.str ((Option.getD (mfind e1.file q1.2) (disk_file.mk [] [])).now), .str ((Option.getD (mfind e1.file q1.2) (disk_file.mk [] [])).last)]), (5, .box 78 [iI e1.file, iI e1.number]), (1000002, (oQ d_queue)), (1000000, (bD 1000002 ((d_queue).length) [iI d_lost, .bool true, iI 0, .vs 1 (mI d_keep)])), (1000001, (oF q1.2)), (1000003, (oS d_set))] [⟨12, [], []⟩, ⟨11, [6], []⟩, ⟨10, [6], []⟩, ⟨9, [], []⟩, ⟨8, [], [5]⟩, ⟨7, [], []⟩] kr kr ?_
     refine d_nil kr ?_
     refine nT (vS (vS ?_))
     obtain ⟨z3, hs, hk3⟩ := bS hs
     refine v_join (S := Bool) (fun u => u = z3) (fun u => [(0, pO), (1, .vs 1 (mI keep)), (5, .ptr 5 0 0), (6, .ptr 6 0 0), (7, iI (w64 (e1.number * 64))), (23, .sl 2 1000002 ((d_queue).length) 0 ((d_queue).length)), (24, iI ((d_queue).length : Int)), (25, iI q1.1), (60, .bool u)]) (fun u => [(6, .box 72 [.str ((Option.getD (mfind e1.file q1.2) (disk_file.mk [] [])).now), .str ((Option.getD (mfind e1.file q1.2) (disk_file.mk [] [])).last)]), (5, .box 78 [iI e1.file, iI e1.number]), (1000002, (oQ d_queue)), (1000000, (bD 1000002 ((d_queue).length) [iI d_lost, .bool true, iI 0, .vs 1 (mI d_keep)])), (1000001, (oF q1.2)), (1000003, (oS d_set))]) ?_ (fun v3 hz => ?_)
     ·refine vT (oR 1 [(40, .vs 1 (mI keep))] kr ?_)
      refine oP (v := iI (List.length keep : Int)) kr kr (loc_lenVs (sz := 1) (els := (mI keep)) kr kr (List.length_map ..)) ?_
      refine oR 2 [(43, .bool (decide ((List.length keep : Int) = 0))), (42, .bool (decide ((List.length keep : Int) = 0)))] kr ?_
      cases h3 : ((decide ((List.length keep : Int) = 0)))
      ·replace hs := bif_f h3 hs
       refine oR 3 [(46, .vs 1 (mI keep)), (45, iI q1.1), (44, .vs 1 (mI keep))] kr ?_
       refine oP (v := iI (List.length keep : Int)) kr kr (loc_lenVs (sz := 1) (els := (mI keep)) kr kr (List.length_map ..)) ?_
       obtain ⟨_, g2, hs⟩ := bS hs; replace g2 := grd_some g2
       refine oP (v := iI (Int.tmod q1.1 (List.length keep : Int))) kr kr (loc_div (k := .i64) (a := q1.1) (b := (List.length keep : Int)) (by simp) kr kr g2) ?_
       obtain ⟨x1, g3, hs⟩ := bS hs; obtain ⟨g3a, g3b, g3c⟩ := idx_some g3
       refine oP (v := .vp [iI x1] 0) kr kr (loc_indexVs (e := 3) (sz := 1) (k := .i64) (els := (mI keep)) (cs := (EV.encI x1)) kr kr kr g3a (by rw [g3c]; exact map_get _ (by omega))) ?_
       refine oR 5 [(54, .bool (decide ((IntKind.i64.wrap ((BitVec.ofInt IntKind.i64.bits x1 &&& BitVec.ofInt IntKind.i64.bits 1).toNat : Int)) = 0))), (53, .bool (decide ((IntKind.i64.wrap ((BitVec.ofInt IntKind.i64.bits x1 &&& BitVec.ofInt IntKind.i64.bits 1).toNat : Int)) = 0))), (52, .bool (decide ((IntKind.i64.wrap ((BitVec.ofInt IntKind.i64.bits x1 &&& BitVec.ofInt IntKind.i64.bits 1).toNat : Int)) = 0))), (51, iI (IntKind.i64.wrap ((BitVec.ofInt IntKind.i64.bits x1 &&& BitVec.ofInt IntKind.i64.bits 1).toNat : Int))), (50, iI x1)] kr ?_
       cases h4 : ((decide ((IntKind.i64.wrap ((BitVec.ofInt IntKind.i64.bits x1 &&& BitVec.ofInt IntKind.i64.bits 1).toNat : Int)) = 0)))
       ·replace hs := bif_f h4 hs
        refine oR 6 [(60, .bool (decide ((w64 (e1.number * 64)) ≥ (List.length ((Option.getD (mfind e1.file q1.2) (disk_file.mk [] [])).now) : Int)))), (59, .bool (decide ((w64 (e1.number * 64)) ≥ (List.length ((Option.getD (mfind e1.file q1.2) (disk_file.mk [] [])).now) : Int)))), (58, iI (List.length ((Option.getD (mfind e1.file q1.2) (disk_file.mk [] [])).now) : Int)), (57, .str ((Option.getD (mfind e1.file q1.2) (disk_file.mk [] [])).now)), (56, .ptr 6 0 0), (55, iI (w64 (e1.number * 64)))] kr ?_
        refine oN ?_
        obtain rfl := si hs
        refine nrm_join (decide ((w64 (e1.number * 64)) ≥ (List.length ((Option.getD (mfind e1.file q1.2) (disk_file.mk [] [])).now) : Int))) rfl ?_
        exact cut_of [0, 1, 5, 6, 7, 23, 24, 25, 60] [6, 5, 1000002, 1000000, 1000001, 1000003] kr kr kr
       ·replace hs := bif_t h4 hs
        refine oR 6 [(60, .bool true), (59, .no), (58, .no), (57, .no), (56, .no), (55, .no)] kr ?_
        refine oN ?_
        obtain rfl := si hs
        refine nrm_join true rfl ?_
        exact cut_of [0, 1, 5, 6, 7, 23, 24, 25, 60] [6, 5, 1000002, 1000000, 1000001, 1000003] kr kr kr
      ·replace hs := bif_t h3 hs
       refine oR 17 [(60, .bool true), (59, .no), (58, .no), (57, .no), (56, .no), (55, .no), (54, .bool true), (53, .bool true), (52, .no), (51, .no), (50, .no), (49, .no), (48, .no), (47, .no), (46, .no), (45, .no), (44, .no)] kr ?_
       refine oN ?_
       obtain rfl := si hs
       refine nrm_join true rfl ?_
       exact cut_of [0, 1, 5, 6, 7, 23, 24, 25, 60] [6, 5, 1000002, 1000000, 1000001, 1000003] kr kr kr
     ·subst hz; clear hs; have hs := hk3; clear hk3
      refine nT ?_
      refine v_cond v3 kr (fun h5 => ?_) (fun h5 => ?_)
      ·replace hs := bif_t h5 hs
       refine v_exit (exit_thenV (exit_blkV ?_))
       obtain rfl := si hs
       refine nrm_join q1.2 rfl ?_
       exact cut_of [0, 1, 23, 24, 25] [1000002, 1000000, 1000001, 1000003] kr kr kr
      ·replace hs := bif_f h5 hs
       refine vK (nT (vS (v_draw mixedH kr ?_)))
       refine d_runs 12 0 [(72, iI (min (w64 ((w64 (e1.number * 64)) + 64)) (List.length ((Option.getD (mfind e1.file q1.2) (disk_file.mk [] [])).now) : Int))), (71, iI (List.length ((Option.getD (mfind e1.file q1.2) (disk_file.mk [] [])).now) : Int)), (70, .str ((Option.getD (mfind e1.file q1.2) (disk_file.mk [] [])).now)), (69, .ptr 6 0 0), (68, iI (w64 ((w64 (e1.number * 64)) + 64))), (67, iI (w64 (e1.number * 64))), (66, iI (w64 (e1.number * 64))), (65, .str ((Option.getD (mfind e1.file q1.2) (disk_file.mk [] [])).now)), (64, .ptr 6 0 0), (63, iI (w64 (e1.number * 64))), (62, .str ((Option.getD (mfind e1.file q1.2) (disk_file.mk [] [])).last)), (61, .ptr 6 0 1)] [⟨11, [], []⟩, ⟨10, [], []⟩, ⟨9, [], [6]⟩, ⟨8, [], []⟩, ⟨7, [], []⟩, ⟨6, [], []⟩, ⟨5, [], []⟩, ⟨4, [], [6]⟩, ⟨3, [], []⟩, ⟨2, [], []⟩, ⟨1, [], [6]⟩, ⟨0, [], []⟩] kr kr ?_
       obtain ⟨x2, g4, hs⟩ := bS hs; obtain ⟨g4a, g4b, g4c, g4d⟩ := cut_some g4
       refine d_pure (v := .str x2) 12 rfl rfl rfl rfl kr kr (by rw [g4d]; exact loc_sliceStr (s := (Option.getD (mfind e1.file q1.2) (disk_file.mk [] [])).now) (l := (w64 (e1.number * 64))) (h := (min (w64 ((w64 (e1.number * 64)) + 64)) (List.length ((Option.getD (mfind e1.file q1.2) (disk_file.mk [] [])).now) : Int))) kr kr ⟨.i64, by kernel_rfl⟩ ⟨.i64, by kernel_rfl⟩ g4a g4b g4c) ?_
       obtain ⟨y1, c1, hs⟩ := bS hs
       refine d_pure (v := .str y1) 13 rfl rfl rfl rfl kr kr (loc_gcall0 (callV_func hbv46 kr) (w_disk_put ((Option.getD (mfind e1.file q1.2) (disk_file.mk [] [])).last) (w64 (e1.number * 64)) x2 _ c1) kr) ?_
       refine d_runh 2 14 [(75, .ptr 6 0 1)] [(6, .box 72 [.str ((Option.getD (mfind e1.file q1.2) (disk_file.mk [] [])).now), .str y1]), (5, .box 78 [iI e1.file, iI e1.number]), (1000002, (oQ d_queue)), (1000000, (bD 1000002 ((d_queue).length) [iI d_lost, .bool true, iI 0, .vs 1 (mI d_keep)])), (1000001, (oF q1.2)), (1000003, (oS d_set))] [⟨15, [6], []⟩, ⟨14, [], []⟩] kr kr ?_
       refine d_nil kr ?_
       refine nT (v_draw mixedH kr ?_)
       refine d_runs 7 0 [(82, .agg [.str ((Option.getD (mfind e1.file q1.2) (disk_file.mk [] [])).now), .str y1]), (81, iI e1.file), (80, .ptr 5 0 0), (79, .mp 1000001), (78, pO), (77, pO), (76, pO)] [⟨6, [], [6]⟩, ⟨5, [], [5]⟩, ⟨4, [], []⟩, ⟨3, [], [1000000]⟩, ⟨2, [], []⟩, ⟨1, [], []⟩, ⟨0, [], []⟩] kr kr ?_
       refine d_loc (F := [(1000001, (oF q1.2))]) (R := []) (F' := [(1000001, (oF (mset e1.file (disk_file.mk ((Option.getD (mfind e1.file q1.2) (disk_file.mk [] [])).now) y1) q1.2)))]) (v := .no) 7 [1000001] [] rfl rfl rfl rfl kr kr kr kr kr kr kr kr (loc_mapUpdate (et := 72) (f := (V.int .i64)) (g := (fun e => V.agg (enc_disk_file e))) (l := q1.2) (a := e1.file) (c := (disk_file.mk ((Option.getD (mfind e1.file q1.2) (disk_file.mk [] [])).now) y1)) kr kok3 kr kr kr kr kr) ?_
       refine d_nil kr ?_
       refine nB ?_
       obtain rfl := si hs
       refine nrm_join (mset e1.file (disk_file.mk ((Option.getD (mfind e1.file q1.2) (disk_file.mk [] [])).now) y1) q1.2) rfl ?_
       exact cut_of [0, 1, 23, 24, 25] [1000002, 1000000, 1000001, 1000003] kr kr kr
    ·subst hz; clear hs; have hs := hk2; clear hk2
     refine nT (vT (oR 2 [(25, iI (w64 (q1.1 + 1))), (83, iI (w64 (q1.1 + 1)))] kr ?_))
     refine oN (nrm_fuel ((w64 (q1.1 + 1)), v2) hs ?_)
     exact cut_of [0, 1, 23, 24, 25] kD kr kr kr
   ·replace hs := bif_f h2 hs
    refine v_exit (exit_thenV (exit_fuel ?_))
    refine exit_blkV ?_
    obtain rfl := si hs
    refine nrm_join q1.2 rfl ?_
    exact cut_of [0] kD kr kr kr
  ·subst hz; clear hs; have hs := hk1; clear hk1
   refine nT (vS (vS (vT (oR 4 [(87, .mp 1000001), (86, pO), (85, pO), (84, pO)] kr ?_))))
   refine ov_alt (F := [(1000001, (oF v1))]) 88 [1000001] rfl kr kr kr rfl (locA_range (kt := 3) (et := 72) (k := 1000001) kr kr) (fun i => rfl) (fun q2 _ => ?_)
   refine oN (nT (v_to [(0, pO), (88, .gv 1000001 (itV q2))] [(1000001, .gen (mapIt q2 (unm (encM (V.int .i64) (fun e => V.agg (enc_disk_file e)) v1)) none)), (1000000, (bD 1000002 ((d_queue).length) [iI d_lost, .bool true, iI 0, .vs 1 (mI d_keep)])), (1000002, (oQ d_queue)), (1000003, (oS d_set))] (cut_of [0, 88] [1000001, 1000000, 1000002, 1000003] kr kr kr) ?_))
   obtain ⟨_, h6, hs⟩ := bS hs; replace h6 := grd_some h6
   refine v_crash2 (files := v1) (queue := d_queue) (dset := d_set) h6 kr ?_
   refine nT (vT (o_runh 9 [(110, .ptr 1000000 0 2), (109, pO), (108, .ptr 1000000 0 1), (107, pO), (106, .mp 106), (105, pO), (104, pO)] [(106, (oS [])), (1000001, (oF (both2 v1))), (1000000, .box 64 [.mp 1000001, .nils, .mp 106, iI d_lost, .bool true, iI 0, .vs 1 (mI d_keep)]), (1000002, (oQ d_queue)), (1000003, (oS d_set))] kr ?_))
   refine oN (fin_nrm ?_)
   obtain rfl := si hs
   exact fin_ret kr kr kr
theorem w_disk_Disk_ends (d_files : (List (Int × disk_file))) (d_queue : (List disk_sector)) (d_set : (List (disk_sector × Bool))) (d_lost : Int) (d_down : Bool) (d_armed : Int) (d_keep : (List Int)) (r : Bool × Int × Bool × Int × (List Int)) (hs : s_disk_Disk_ends d_files d_queue d_set d_lost d_down d_armed d_keep = some r) : FnA Tryd.prog 39 [pO] (dH (bD 1000002 ((d_queue).length) [iI d_lost, .bool d_down, iI d_armed, .vs 1 (mI d_keep)]) d_files d_queue d_set) (.bool r.1) (dH (bD 1000002 ((d_queue).length) [iI r.2.1, .bool r.2.2.1, iI r.2.2.2.1, .vs 1 (mI r.2.2.2.2)]) d_files d_queue d_set) := by
 refine fnA_of_wp (N := 26) Tryd.func39 rfl rfl rfl fun cK0 => ?_
 unfold s_disk_Disk_ends at hs
 refine v_same (ρ' := [(0, pO)]) rfl rfl ?_
 refine vS (vT (oR 1 [(2, .bool false)] kr ?_))
 refine oN (nT (vS (vS ?_)))
 obtain ⟨z1, hs, hk1⟩ := bS hs
 refine v_join (S := Bool × Bool) (fun u => u = z1) (fun u => [(0, pO), (13, .bool u.1)]) (fun u => (dH (bD 1000002 ((d_queue).length) [iI d_lost, .bool u.2, iI d_armed, .vs 1 (mI d_keep)]) d_files d_queue d_set)) ?_ (fun v1 hz => ?_)
 ·refine vT (oR 5 [(7, .bool d_down), (6, .bool d_down), (5, .ptr 1000000 0 4), (4, pO), (3, pO)] kr ?_)
  cases h1 : (d_down)
  ·replace hs := bif_f h1 hs
   refine oR 6 [(13, .bool (decide (d_armed = 0))), (12, .bool (decide (d_armed = 0))), (11, iI d_armed), (10, .ptr 1000000 0 5), (9, pO), (8, pO)] kr ?_
   refine oN ?_
   obtain rfl := si hs
   refine nrm_join ((decide (d_armed = 0)), false) rfl ?_
   exact cut_of [0, 13] kD kr kr kr
  ·replace hs := bif_t h1 hs
   refine oR 6 [(13, .bool true), (12, .no), (11, .no), (10, .no), (9, .no), (8, .no)] kr ?_
   refine oN ?_
   obtain rfl := si hs
   refine nrm_join (true, true) rfl ?_
   exact cut_of [0, 13] kD kr kr kr
 ·subst hz; clear hs; have hs := hk1; clear hk1
  refine nT ?_
  refine v_cond v1.1 kr (fun h2 => ?_) (fun h2 => ?_)
  ·replace hs := bif_t h2 hs
   refine vS (vT (oR 1 [(2, .bool false)] kr ?_))
   refine oN (nT (v_ret (rT ?_)))
   obtain rfl := si hs
   exact fin_ret kr kr kr
  ·replace hs := bif_f h2 hs
   refine vK (nT (vS (vT (o_runh 8 [(20, .ptr 1000000 0 5), (19, pO), (18, iI (w64 (d_armed - 1))), (17, iI d_armed), (16, .ptr 1000000 0 5), (15, pO), (14, pO)] (dH (bD 1000002 ((d_queue).length) [iI d_lost, .bool v1.2, iI (w64 (d_armed - 1)), .vs 1 (mI d_keep)]) d_files d_queue d_set) kr ?_))))
   refine oN (nT (vS (vT (oR 6 [(2, .bool (decide ((w64 (d_armed - 1)) = 0))), (25, .bool (decide ((w64 (d_armed - 1)) = 0))), (24, iI (w64 (d_armed - 1))), (23, .ptr 1000000 0 5), (22, pO), (21, pO)] kr ?_))))
   refine oN (nT (v_ret ?_))
   obtain rfl := si hs
   exact fin_ret kr kr kr
theorem w_disk_Disk_may_2 (d_files : (List (Int × disk_file))) (d_set : (List (disk_sector × Bool))) (d_lost : Int) (d_down : Bool) (d_armed : Int) (d_keep : (List Int)) (f : Int) (r : Int × Int × Bool × Int × (List Int)) (hs : s_disk_Disk_may_2 d_files d_set d_lost d_down d_armed d_keep f = some r) : FnA Tryd.prog 38 [pO, iI f] [(1000000, .box 64 [.mp 1000001, .nils, .mp 1000002, iI d_lost, .bool d_down, iI d_armed, .vs 1 (mI d_keep)]), (1000001, (oF d_files)), (1000002, (oS d_set))] (iI r.1) [(1000000, .box 64 [.mp 1000001, .nils, .mp 1000002, iI r.2.1, .bool r.2.2.1, iI r.2.2.2.1, .vs 1 (mI r.2.2.2.2)]), (1000001, (oF d_files)), (1000002, (oS d_set))] := by
 refine fnA_of_wp (N := 17) Tryd.func38 rfl rfl rfl fun cK0 => ?_
 unfold s_disk_Disk_may_2 at hs
 refine v_same (ρ' := [(0, pO), (1, iI f)]) rfl rfl ?_
 refine vS (vT (oR 1 [(4, iI 0)] kr ?_))
 refine oN (nT (vS (vB (vS (vT (oR 5 [(5, .bool d_down), (9, .bool d_down), (8, .ptr 1000000 0 4), (7, pO), (6, pO)] kr ?_))))))
 refine oN (nT ?_)
 refine v_cond d_down kr (fun h1 => ?_) (fun h1 => ?_)
 ·replace hs := bif_t h1 hs
  refine vS (vT (oR 1 [(4, iI 8)] kr ?_))
  refine oN (nT (v_ret (rB (rT ?_))))
  obtain rfl := si hs
  exact fin_ret kr kr kr
 ·replace hs := bif_f h1 hs
  refine vS ?_
  obtain ⟨z1, hs, hk1⟩ := bS hs
  refine v_join (S := Bool) (fun u => u = z1) (fun u => [(10, .bool u)]) (fun u => [(1000000, .box 64 [.mp 1000001, .nils, .mp 1000002, iI d_lost, .bool d_down, iI d_armed, .vs 1 (mI d_keep)]), (1000001, (oF d_files)), (1000002, (oS d_set))]) ?_ (fun v1 hz => ?_)
  ·refine vT (oR 3 [(13, .bool (decide (f < 0))), (12, .bool (decide (f < 0))), (11, iI f)] kr ?_)
   cases h2 : ((decide (f < 0)))
   ·replace hs := bif_f h2 hs
    refine oR 4 [(10, .bool (decide (f ≥ 16))), (16, .bool (decide (f ≥ 16))), (15, .bool (decide (f ≥ 16))), (14, iI f)] kr ?_
    refine oN ?_
    obtain rfl := si hs
    refine nrm_join (decide (f ≥ 16)) rfl ?_
    exact cut_of [10] [1000000, 1000001, 1000002] kr kr kr
   ·replace hs := bif_t h2 hs
    refine oR 4 [(10, .bool true), (16, .bool true), (15, .no), (14, .no)] kr ?_
    refine oN ?_
    obtain rfl := si hs
    refine nrm_join true rfl ?_
    exact cut_of [10] [1000000, 1000001, 1000002] kr kr kr
  ·subst hz; clear hs; have hs := hk1; clear hk1
   refine nT ?_
   refine v_cond v1 kr (fun h3 => ?_) (fun h3 => ?_)
   ·replace hs := bif_t h3 hs
    refine vS (vT (oR 1 [(4, iI 1)] kr ?_))
    refine oN (nT (v_ret (rB (rT ?_))))
    obtain rfl := si hs
    exact fin_ret kr kr kr
   ·replace hs := bif_f h3 hs
    refine vK (nB (nT (vS (vT (oR 1 [(4, iI 0)] kr ?_)))))
    refine oN (nT (v_ret ?_))
    obtain rfl := si hs
    exact fin_ret kr kr kr
theorem w_disk_Disk_settle_1 (p : disk_sector) (a1 : Int) (r : Bool × Int) (hs : s_disk_Disk_settle_1 p a1 = some r) : FnA Tryd.prog 54 [.agg (enc_disk_sector p), pO] [(1000000, .box 3 [iI a1])] (.bool r.1) [(1000000, .box 3 [iI r.2])] := by
 refine fnA_of_wp (N := 8) Tryd.func54 rfl rfl rfl fun cK0 => ?_
 unfold s_disk_Disk_settle_1 at hs
 refine v_same (ρ' := [(0, .agg (enc_disk_sector p)), (1, pO)]) rfl rfl ?_
 refine vS (vT (o_runh 2 [(3, .bool false), (2, .ptr 2 0 0)] [(2, .box 78 [iI p.file, iI p.number]), (1000000, .box 3 [iI a1])] kr ?_))
 refine oN (nT (vS (vT (oR 5 [(3, .bool (decide (p.file = a1))), (7, .bool (decide (p.file = a1))), (6, iI a1), (5, iI p.file), (4, .ptr 2 0 0)] kr ?_))))
 refine oN (nT (v_ret ?_))
 obtain rfl := si hs
 exact fin_ret kr kr kr
theorem w_slices_IndexFunc_2 (s : (List disk_sector)) (p : Int) (r : Int × Int) (hs : s_slices_IndexFunc_2 s p = some r) : FnA Tryd.prog 62 [.sl 2 1000000 ((s).length) 0 ((s).length), .fn 54 [] [.ptr 1000001 0 0]] [(1000000, (oQ s)), (1000001, .box 3 [iI p])] (iI r.1) [(1000001, .box 3 [iI r.2]), (1000000, (oQ s))] := by
 refine fnA_of_wp (N := 19) Tryd.func62 rfl rfl rfl fun cK0 => ?_
 unfold s_slices_IndexFunc_2 at hs
 refine v_same (ρ' := [(0, .sl 2 1000000 ((s).length) 0 ((s).length)), (1, .fn 54 [] [.ptr 1000001 0 0])]) rfl rfl ?_
 refine vS (vT (oR 1 [(4, iI 0)] kr ?_))
 refine oN (nT (vS (vS (vT (oR 3 [(8, iI 0), (7, iI ((s).length : Int)), (6, .sl 2 1000000 ((s).length) 0 ((s).length))] kr ?_)))))
 refine oN (nT ?_)
 obtain ⟨z1, hs, hk1⟩ := bS hs
 refine v_join (S := Int) (fun u => z1 = .inr u) (fun u => []) (fun u => [(1000000, (oQ s)), (1000001, .box 3 [iI u])]) ?_ (fun v1 hz => ?_)
 ·refine vB ?_
  refine v_fuel (S := Int × Int) (fun u => [(0, .sl 2 1000000 ((s).length) 0 ((s).length)), (1, .fn 54 [] [.ptr 1000001 0 0]), (7, iI ((s).length : Int)), (8, iI u.1)]) (fun u => [(1000000, (oQ s)), (1000001, .box 3 [iI u.2])]) (s_slices_IndexFunc_2_L1 s) (fun _ => rfl) KK (0, p) hs (cut_of [0, 1, 7, 8] [1000000, 1000001] kr kr kr) (fun K1 q1 hs => ?_)
  rw [s_slices_IndexFunc_2_L1] at hs
  show WpV cK0 Tryd.prog none 19 _ _ [(0, .sl 2 1000000 ((s).length) 0 ((s).length)), (1, .fn 54 [] [.ptr 1000001 0 0]), (7, iI ((s).length : Int)), (8, iI q1.1)] [(1000000, (oQ s)), (1000001, .box 3 [iI q1.2])] []
  refine vS (vT (oR 1 [(9, .bool (decide (q1.1 < ((s).length : Int))))] kr ?_))
  refine oN (nT (vS ?_))
  refine v_cond (decide (q1.1 < ((s).length : Int))) kr (fun h1 => ?_) (fun h1 => ?_)
  ·replace hs := bif_t h1 hs
   refine vK (nT (vS (vB (vS (vT (oR 2 [(5, iI q1.1), (10, iI q1.1)] kr ?_))))))
   refine oN (nT (vS (vT (oR 3 [(13, iI q1.1), (12, .sl 2 1000000 ((s).length) 0 ((s).length)), (11, .fn 54 [] [.ptr 1000001 0 0])] kr ?_))))
   obtain ⟨⟨g1a, g1b⟩, hs⟩ := bG hs
   refine oP (v := .ptr 1000000 ((s).length) ((Int.toNat q1.1) * 2 + 0)) kr kr (loc_indexRowT (e := 78) (sz := 2) (kk := 1000000) (L := (s).length) (n := (s).length) (k := .i64) (i := q1.1) kr kr kr g1a g1b) ?_
   obtain ⟨e1, he1, hs⟩ := bE hs
   refine o_loc (F := [(1000000, (oQ s))]) (F' := [(1000000, (oQ s))]) (v := .agg (enc_disk_sector e1)) [1000000] kr kr rfl kr (loc_loadRow (L := (s).length) (off := (Int.toNat q1.1) * 2 + 0) (els := (mM enc_disk_sector s)) (cs := (enc_disk_sector e1)) (Int.toNat q1.1) 0 kr (by first | (simp only [List.length_map, List.length_set, cpyT_length]; done) | rfl) rfl (by rw [← he1]; exact map_get _ (by first | omega | (simp only [List.length_set, cpyT_length]; omega))) kr) kr ?_
   obtain ⟨y1, c1, hs⟩ := bS hs
   refine o_loc (F := [(1000001, .box 3 [iI q1.2])]) (F' := [(1000001, .box 3 [iI y1.2])]) (v := .bool y1.1) [1000001] kr kr rfl kr (loc_g (R := []) [.agg (enc_disk_sector e1), .ptr 1000001 0 0] [(1000000, 1000001)] (callV_val (first := []) (caps := [.ptr 1000001 0 0]) hbv54 kr kr) (w_disk_Disk_settle_1 e1 q1.2 _ c1) vw2 kr kr kr kr kr kr kr kr) kr ?_
   refine oN (nT ?_)
   refine v_cond y1.1 kr (fun h2 => ?_) (fun h2 => ?_)
   ·replace hs := bif_t h2 hs
    refine vS (vT (oR 2 [(4, iI q1.1), (17, iI q1.1)] kr ?_))
    refine oN (nT (v_ret (rB (rT (ret_fuel ?_)))))
    refine rB (ret_join ?_)
    refine rT ?_
    obtain rfl := si hs
    replace hs := hk1
    obtain rfl := si hs
    exact fin_ret kr kr kr
   ·replace hs := bif_f h2 hs
    refine vK (nB (nT (vT (oR 2 [(8, iI (w64 (q1.1 + 1))), (18, iI (w64 (q1.1 + 1)))] kr ?_))))
    refine oN (nrm_fuel ((w64 (q1.1 + 1)), y1.2) hs ?_)
    exact cut_of [0, 1, 7, 8] [1000000, 1000001] kr kr kr
  ·replace hs := bif_f h1 hs
   refine v_exit (exit_thenV (exit_fuel ?_))
   refine exit_blkV ?_
   obtain rfl := si hs
   refine nrm_join q1.2 rfl ?_
   exact cut_of [] [1000000, 1000001] kr kr kr
 ·subst hz; clear hs; have hs := hk1; clear hk1
  refine nT (vS (vT (oR 1 [(4, iI (-1))] kr ?_)))
  refine oN (nT (v_ret ?_))
  obtain rfl := si hs
  exact fin_ret kr kr kr
theorem w_slices_DeleteFunc_2 (s : (List disk_sector)) (p : Int) (r : (List disk_sector) × Int) (hs : s_slices_DeleteFunc_2 s p = some r) : FnA Tryd.prog 53 [.sl 2 1000000 ((s).length) 0 ((s).length), .fn 54 [] [.ptr 1000001 0 0]] [(1000000, (oQ s)), (1000001, .box 3 [iI p])] (.sl 2 2800004 ((r.1).length) 0 ((r.1).length)) [(2800004, (oQ r.1)), (1000000, .gen gone), (1000001, .box 3 [iI r.2])] := by
 refine fnA_of_wp (N := 42) Tryd.func53 rfl rfl rfl fun cK0 => ?_
 unfold s_slices_DeleteFunc_2 at hs
 refine v_same (ρ' := [(0, .sl 2 1000000 ((s).length) 0 ((s).length)), (1, .fn 54 [] [.ptr 1000001 0 0])]) rfl rfl ?_
 refine vS (vT (oR 1 [(4, .nils)] kr ?_))
 refine oN (nT (vS (vT (oR 2 [(9, .fn 54 [] [.ptr 1000001 0 0]), (8, .sl 2 1000000 ((s).length) 0 ((s).length))] kr ?_))))
 obtain ⟨y1, c1, hs⟩ := bS hs
 refine o_loc (F := [(1000000, (oQ s)), (1000001, .box 3 [iI p])]) (F' := [(1000001, .box 3 [iI y1.2]), (1000000, (oQ s))]) (v := iI y1.1) [1000000, 1000001] kr kr rfl kr (loc_g (R := []) [.sl 2 1000000 ((s).length) 0 ((s).length), .fn 54 [] [.ptr 1000001 0 0]] [(1000000, 1000000), (1000001, 1000001)] (callV_func hbv62 kr) (w_slices_IndexFunc_2 s p _ c1) vw2 kr kr kr kr kr kr kr kr) kr ?_
 refine oR 1 [(5, iI y1.1)] kr ?_
 refine oN (nT (vS (vS (vT (oR 2 [(12, .bool (decide (y1.1 = (-1)))), (11, iI y1.1)] kr ?_)))))
 refine oN (nT ?_)
 refine v_cond (decide (y1.1 = (-1))) kr (fun h1 => ?_) (fun h1 => ?_)
 ·replace hs := bif_t h1 hs
  refine vS (vT (oR 2 [(4, .sl 2 1000000 ((s).length) 0 ((s).length)), (13, .sl 2 1000000 ((s).length) 0 ((s).length))] kr ?_))
  refine oN (nT (v_to ((4, .sl 2 2800004 ((List.take ((s).length) s)).length 0 ((List.take ((s).length) s)).length) :: _) [(2800004, (oQ (List.take ((s).length) s))), (1000000, .gen gone), (1000001, .box 3 [iI y1.2])] (cut_trunc 4 1000000 2800004 (e := 78) (sz := 2) (L := ((s).length)) (n := ((s).length)) (els := (List.map enc_disk_sector s)) kr kr kr (by first | (simp only [List.length_map, List.length_set, cpyT_length]; done) | rfl) (by omega) (List.map_take ..).symm (n' := ((List.take ((s).length) s)).length) (by simp only [List.length_take, List.length_set, cpyT_length]; omega) kr) ?_))
  refine v_ret (rT ?_)
  obtain rfl := si hs
  exact fin_ret kr kr kr
 ·replace hs := bif_f h1 hs
  refine vK (nT (vS (vS (vT (oR 3 [(6, iI (w64 (y1.1 + 1))), (15, iI (w64 (y1.1 + 1))), (14, iI y1.1)] kr ?_)))))
  refine oN (nT ?_)
  obtain ⟨z1, hs, hk1⟩ := bS hs
  refine v_join (S := Int × Int × (List disk_sector)) (fun u => u = z1) (fun u => [(0, .sl 2 1000000 ((u.2.2).length) 0 ((u.2.2).length)), (5, iI u.1)]) (fun u => [(1000001, .box 3 [iI u.2.1]), (1000000, (oQ u.2.2))]) ?_ (fun v1 hz => ?_)
  ·refine vB ?_
   refine v_fuel (S := Int × Int × Int × (List disk_sector)) (fun u => [(0, .sl 2 1000000 ((u.2.2.2).length) 0 ((u.2.2.2).length)), (1, .fn 54 [] [.ptr 1000001 0 0]), (5, iI u.1), (6, iI u.2.1)]) (fun u => [(1000001, .box 3 [iI u.2.2.1]), (1000000, (oQ u.2.2.2))]) s_slices_DeleteFunc_2_L1 (fun _ => rfl) KK (y1.1, (w64 (y1.1 + 1)), y1.2, s) hs (cut_of [0, 1, 5, 6] [1000001, 1000000] kr kr kr) (fun K1 q1 hs => ?_)
   rw [s_slices_DeleteFunc_2_L1] at hs
   show WpV cK0 Tryd.prog none 42 _ _ [(0, .sl 2 1000000 ((q1.2.2.2).length) 0 ((q1.2.2.2).length)), (1, .fn 54 [] [.ptr 1000001 0 0]), (5, iI q1.1), (6, iI q1.2.1)] [(1000001, .box 3 [iI q1.2.2.1]), (1000000, (oQ q1.2.2.2))] []
   refine vS (vS (vT (oR 4 [(19, .bool (decide (q1.2.1 < ((q1.2.2.2).length : Int)))), (18, iI ((q1.2.2.2).length : Int)), (17, .sl 2 1000000 ((q1.2.2.2).length) 0 ((q1.2.2.2).length)), (16, iI q1.2.1)] kr ?_)))
   refine oN (nT ?_)
   refine v_cond (decide (q1.2.1 < ((q1.2.2.2).length : Int))) kr (fun h2 => ?_) (fun h2 => ?_)
   ·replace hs := bif_t h2 hs
    refine vK (nT (vS (vB (vS (vT (oR 2 [(23, iI q1.2.1), (22, .sl 2 1000000 ((q1.2.2.2).length) 0 ((q1.2.2.2).length))] kr ?_))))))
    obtain ⟨⟨g1a, g1b⟩, hs⟩ := bG hs
    refine oP (v := .ptr 1000000 ((q1.2.2.2).length) ((Int.toNat q1.2.1) * 2 + 0)) kr kr (loc_indexRowT (e := 78) (sz := 2) (kk := 1000000) (L := (q1.2.2.2).length) (n := (q1.2.2.2).length) (k := .i64) (i := q1.2.1) kr kr kr g1a g1b) ?_
    obtain ⟨e1, he1, hs⟩ := bE hs
    refine o_loc (F := [(1000000, (oQ q1.2.2.2))]) (F' := [(1000000, (oQ q1.2.2.2))]) (v := .agg (enc_disk_sector e1)) [1000000] kr kr rfl kr (loc_loadRow (L := (q1.2.2.2).length) (off := (Int.toNat q1.2.1) * 2 + 0) (els := (mM enc_disk_sector q1.2.2.2)) (cs := (enc_disk_sector e1)) (Int.toNat q1.2.1) 0 kr (by first | (simp only [List.length_map, List.length_set, cpyT_length]; done) | rfl) rfl (by rw [← he1]; exact map_get _ (by first | omega | (simp only [List.length_set, cpyT_length]; omega))) kr) kr ?_
    refine o_runh 2 [(7, .ptr 7 0 0)] [(7, .box 78 [iI e1.file, iI e1.number]), (1000000, (oQ q1.2.2.2)), (1000001, .box 3 [iI q1.2.2.1])] kr ?_
    refine oN (nT (vS (vT (oR 2 [(27, .agg (enc_disk_sector e1)), (26, .fn 54 [] [.ptr 1000001 0 0])] kr ?_))))
    obtain ⟨y2, c2, hs⟩ := bS hs
    refine o_loc (F := [(1000001, .box 3 [iI q1.2.2.1])]) (F' := [(1000001, .box 3 [iI y2.2])]) (v := .bool y2.1) [1000001] kr kr rfl kr (loc_g (R := []) [.agg (enc_disk_sector e1), .ptr 1000001 0 0] [(1000000, 1000001)] (callV_val (first := []) (caps := [.ptr 1000001 0 0]) hbv54 kr kr) (w_disk_Disk_settle_1 e1 q1.2.2.1 _ c2) vw2 kr kr kr kr kr kr kr kr) kr ?_
    refine oR 1 [(29, .bool (!y2.1))] kr ?_
    refine oN (nT ?_)
    obtain ⟨z2, hs, hk2⟩ := bS hs
    refine v_join (S := Int × (List disk_sector)) (fun u => u = z2) (fun u => [(0, .sl 2 1000000 ((u.2).length) 0 ((u.2).length)), (1, .fn 54 [] [.ptr 1000001 0 0]), (5, iI u.1), (6, iI q1.2.1)]) (fun u => [(1000000, (oQ u.2)), (1000001, .box 3 [iI y2.2])]) ?_ (fun v2 hz => ?_)
    ·refine v_cond (!y2.1) kr (fun h3 => ?_) (fun h3 => ?_)
     ·replace hs := bif_t h3 hs
      refine vS (vT (oR 3 [(32, .agg (enc_disk_sector e1)), (31, iI q1.1), (30, .sl 2 1000000 ((q1.2.2.2).length) 0 ((q1.2.2.2).length))] kr ?_))
      obtain ⟨⟨g2a, g2b⟩, hs⟩ := bG hs
      refine oP (v := .ptr 1000000 ((q1.2.2.2).length) ((Int.toNat q1.1) * 2 + 0)) kr kr (loc_indexRowT (e := 78) (sz := 2) (kk := 1000000) (L := (q1.2.2.2).length) (n := (q1.2.2.2).length) (k := .i64) (i := q1.1) kr kr kr g2a g2b) ?_
      obtain ⟨e2, he2, hs⟩ := bE hs
      refine o_loc (F := [(1000000, (oQ q1.2.2.2))]) (F' := [(1000000, (oQ (List.set q1.2.2.2 (Int.toNat q1.1) e1)))]) (v := .no) [1000000] kr kr rfl kr (loc_storeRowT (L := (q1.2.2.2).length) (off := (Int.toNat q1.1) * 2 + 0) (els := (mM enc_disk_sector q1.2.2.2)) (cs := (enc_disk_sector e2)) (c' := (enc_disk_sector e1)) (Int.toNat q1.1) 0 kr (by first | (simp only [List.length_map, List.length_set, cpyT_length]; done) | rfl) rfl (by rw [← he2]; exact map_get _ (by first | omega | (simp only [List.length_set, cpyT_length]; omega))) (by first | exact Nat.zero_le _ | omega) kr kr kr kr kr kr List.map_set.symm) kr ?_
      refine oN (nT (vT (oR 3 [(5, iI (w64 (q1.1 + 1))), (35, iI (w64 (q1.1 + 1))), (34, iI q1.1)] kr ?_)))
      refine oN ?_
      obtain rfl := si hs
      refine nrm_join ((w64 (q1.1 + 1)), (List.set q1.2.2.2 (Int.toNat q1.1) e1)) rfl ?_
      exact Cut.trans (cut_eq 0 (v := .sl 2 1000000 ((q1.2.2.2).length) 0 ((q1.2.2.2).length)) (v' := .sl 2 1000000 (((List.set q1.2.2.2 (Int.toNat q1.1) e1)).length) 0 (((List.set q1.2.2.2 (Int.toNat q1.1) e1)).length)) kr (by first | rfl | simp only [List.length_set, cpyT_length])) (cut_of [0, 1, 5, 6] [1000000, 1000001] kr kr kr)
     ·replace hs := bif_f h3 hs
      refine vK ?_
      obtain rfl := si hs
      refine nrm_join (q1.1, q1.2.2.2) rfl ?_
      exact cut_of [0, 1, 5, 6] [1000000, 1000001] kr kr kr
    ·subst hz; clear hs; have hs := hk2; clear hk2
     refine nB (nT (vT (oR 3 [(6, iI (w64 (q1.2.1 + 1))), (21, iI (w64 (q1.2.1 + 1))), (20, iI q1.2.1)] kr ?_)))
     refine oN (nrm_fuel (v2.1, (w64 (q1.2.1 + 1)), y2.2, v2.2) hs ?_)
     exact cut_of [0, 1, 5, 6] [1000001, 1000000] kr kr kr
   ·replace hs := bif_f h2 hs
    refine v_exit (exit_thenV (exit_fuel ?_))
    refine exit_blkV ?_
    obtain rfl := si hs
    refine nrm_join (q1.1, q1.2.2.1, q1.2.2.2) rfl ?_
    exact cut_of [0, 5] [1000001, 1000000] kr kr kr
  ·subst hz; clear hs; have hs := hk1; clear hk1
   refine nT (vS (vT (oR 2 [(37, iI v1.1), (36, .sl 2 1000000 ((v1.2.2).length) 0 ((v1.2.2).length))] kr ?_)))
   obtain ⟨⟨g3a, g3b, g3c⟩, hs⟩ := bG hs
   refine oP (v := .sl 2 1000000 ((v1.2.2).length) (Int.toNat v1.1) (Int.toNat ((v1.2.2).length : Int) - Int.toNat v1.1)) kr kr (loc_sliceRowT (e := 78) (sz := 2) (k := 1000000) (L := ((v1.2.2).length)) (n := (v1.2.2).length) (l := v1.1) (h := ((v1.2.2).length : Int)) kr kr ⟨.i64, by kernel_rfl⟩ rfl g3a g3b g3c) ?_
   refine o_loc (F := [(1000000, (oQ v1.2.2))]) (F' := [(1000000, (oQ (cpyT v1.2.2 (Int.toNat v1.1) (List.replicate (Int.toNat ((v1.2.2).length : Int) - Int.toNat v1.1) (disk_sector.mk 0 0)))))]) (v := .tup []) [1000000] kr kr rfl kr (loc_clearT enc_disk_sector (e := 78) (sz := 2) (bytes := 16) (k := 1000000) (L := ((v1.2.2).length)) (o := (Int.toNat v1.1)) (n := (Int.toNat ((v1.2.2).length : Int) - Int.toNat v1.1)) (q := v1.2.2) (zz := (disk_sector.mk 0 0)) (cs := [iI 0, iI 0]) kr kr (fun _ _ h => h) kr kr kr (by first | rfl | simp only [List.length_set, cpyT_length]) (by omega) rfl) kr ?_
   refine oN (nT (vS (vT (oR 2 [(40, iI v1.1), (39, .sl 2 1000000 ((v1.2.2).length) 0 ((v1.2.2).length))] kr ?_))))
   obtain ⟨⟨g4a, g4b, g4c⟩, hs⟩ := bG hs
   refine oP (v := .sl 2 1000000 ((v1.2.2).length) (Int.toNat 0) (Int.toNat v1.1 - Int.toNat 0)) kr kr (loc_sliceRowT (e := 78) (sz := 2) (k := 1000000) (L := ((v1.2.2).length)) (n := (v1.2.2).length) (l := 0) (h := v1.1) kr kr rfl ⟨.i64, by kernel_rfl⟩ g4a g4b g4c) ?_
   refine oR 1 [(4, .sl 2 1000000 ((v1.2.2).length) (Int.toNat 0) (Int.toNat v1.1 - Int.toNat 0))] kr ?_
   refine oN (nT (v_to ((4, .sl 2 2800004 ((List.take (Int.toNat v1.1 - Int.toNat 0) (cpyT v1.2.2 (Int.toNat v1.1) (List.replicate (Int.toNat ((v1.2.2).length : Int) - Int.toNat v1.1) (disk_sector.mk 0 0))))).length 0 ((List.take (Int.toNat v1.1 - Int.toNat 0) (cpyT v1.2.2 (Int.toNat v1.1) (List.replicate (Int.toNat ((v1.2.2).length : Int) - Int.toNat v1.1) (disk_sector.mk 0 0))))).length) :: _) [(2800004, (oQ (List.take (Int.toNat v1.1 - Int.toNat 0) (cpyT v1.2.2 (Int.toNat v1.1) (List.replicate (Int.toNat ((v1.2.2).length : Int) - Int.toNat v1.1) (disk_sector.mk 0 0)))))), (1000000, .gen gone), (1000001, .box 3 [iI v1.2.1])] (cut_trunc 4 1000000 2800004 (e := 78) (sz := 2) (L := ((v1.2.2).length)) (n := (Int.toNat v1.1 - Int.toNat 0)) (els := (List.map enc_disk_sector (cpyT v1.2.2 (Int.toNat v1.1) (List.replicate (Int.toNat ((v1.2.2).length : Int) - Int.toNat v1.1) (disk_sector.mk 0 0))))) kr kr kr (by first | (simp only [List.length_map, List.length_set, cpyT_length]; done) | rfl) (by omega) (List.map_take ..).symm (n' := ((List.take (Int.toNat v1.1 - Int.toNat 0) (cpyT v1.2.2 (Int.toNat v1.1) (List.replicate (Int.toNat ((v1.2.2).length : Int) - Int.toNat v1.1) (disk_sector.mk 0 0))))).length) (by simp only [List.length_take, List.length_set, cpyT_length]; omega) kr) ?_))
   refine v_ret ?_
   obtain rfl := si hs
   exact fin_ret kr kr kr
theorem w_disk_Disk_settle_2 (d_files : (List (Int × disk_file))) (d_queue : (List disk_sector)) (d_set : (List (disk_sector × Bool))) (d_lost : Int) (d_down : Bool) (d_armed : Int) (d_keep : (List Int)) (f : Int) (s : (List UInt8)) (r : (List (disk_sector × Bool)) × (List disk_sector) × (List (Int × disk_file)) × Int × Bool × Int × (List Int)) (hs : s_disk_Disk_settle_2 d_files d_queue d_set d_lost d_down d_armed d_keep f s = some r) : FnA Tryd.prog 48 [pO, iI f, .str s] (dH (bD 1000002 ((d_queue).length) [iI d_lost, .bool d_down, iI d_armed, .vs 1 (mI d_keep)]) d_files d_queue d_set) (.tup []) [(1000003, (oS r.1)), (3002000, (oQ r.2.1)), (1000002, .gen gone), (1000001, (oF r.2.2.1)), (1000000, (bD 3002000 ((r.2.1).length) [iI r.2.2.2.1, .bool r.2.2.2.2.1, iI r.2.2.2.2.2.1, .vs 1 (mI r.2.2.2.2.2.2)]))] := by
 refine fnA_of_wp (N := 29) Tryd.func48 rfl rfl rfl fun cK0 => ?_
 unfold s_disk_Disk_settle_2 at hs
 refine v_same (ρ' := [(0, pO), (1, iI f), (2, .str s)]) rfl rfl ?_
 refine vS (vT (o_runh 1 [(4, .ptr 4 0 0)] [(4, .box 3 [iI f]), (1000000, (bD 1000002 ((d_queue).length) [iI d_lost, .bool d_down, iI d_armed, .vs 1 (mI d_keep)])), (1000001, (oF d_files)), (1000002, (oQ d_queue)), (1000003, (oS d_set))] kr ?_))
 refine oN (nT (vS (v_draw mixedH kr ?_)))
 refine d_runs 8 0 [(13, .agg [.str s, .str s]), (12, .str s), (11, .str s), (10, iI f), (9, .mp 1000001), (8, pO), (7, pO), (6, pO)] [⟨7, [], []⟩, ⟨6, [], []⟩, ⟨5, [], []⟩, ⟨4, [], [4]⟩, ⟨3, [], [1000000]⟩, ⟨2, [], []⟩, ⟨1, [], []⟩, ⟨0, [], []⟩] kr kr ?_
 refine d_loc (F := [(1000001, (oF d_files))]) (R := []) (F' := [(1000001, (oF (mset f (disk_file.mk s s) d_files)))]) (v := .no) 8 [1000001] [] rfl rfl rfl rfl kr kr kr kr kr kr kr kr (loc_mapUpdate (et := 72) (f := (V.int .i64)) (g := (fun e => V.agg (enc_disk_file e))) (l := d_files) (a := f) (c := (disk_file.mk s s)) kr kok3 kr kr kr kr kr) ?_
 refine d_nil kr ?_
 refine nT (vS (vT (oR 6 [(19, .fn 54 [] [.ptr 4 0 0]), (18, .sl 2 1000002 ((d_queue).length) 0 ((d_queue).length)), (17, .ptr 1000000 0 1), (16, pO), (15, pO), (14, pO)] kr ?_)))
 obtain ⟨y1, c1, hs⟩ := bS hs
 refine o_loc (F := [(1000002, (oQ d_queue)), (4, .box 3 [iI f])]) (F' := [(3002000, (oQ y1.1)), (1000002, .gen gone), (4, .box 3 [iI y1.2])]) (v := .sl 2 3002000 ((y1.1).length) 0 ((y1.1).length)) [1000002, 4] kr kr rfl kr (loc_g (R := []) [.sl 2 1000002 ((d_queue).length) 0 ((d_queue).length), .fn 54 [] [.ptr 4 0 0]] [(1000000, 1000002), (1000001, 4), (2800004, 3002000)] (callV_func hbv53 kr) (w_slices_DeleteFunc_2 d_queue f _ c1) vw2 kr kr kr kr kr kr kr kr) kr ?_
 refine o_runh 3 [(22, .ptr 1000000 0 1), (21, pO)] [(3002000, (oQ y1.1)), (1000002, .gen gone), (4, .box 3 [iI y1.2]), (1000001, (oF (mset f (disk_file.mk s s) d_files))), (1000000, (bD 3002000 ((y1.1).length) [iI d_lost, .bool d_down, iI d_armed, .vs 1 (mI d_keep)])), (1000003, (oS d_set))] kr ?_
 refine oN (nT (vT (oR 5 [(27, .fn 56 [] [.ptr 4 0 0]), (26, .mp 1000003), (25, .ptr 1000000 0 2), (24, pO), (23, pO)] kr ?_)))
 obtain ⟨_, g1, hs⟩ := bS hs; replace g1 := grd_some g1
 refine o_loc (F := [(1000003, (oS d_set)), (4, .box 3 [iI y1.2])]) (F' := [(1000003, (oS (List.filter (fun p => !decide (p.1.file = y1.2)) d_set))), (4, .box 3 [iI y1.2])]) (v := .tup []) [1000003, 4] kr kr rfl kr (loc_g (R := []) [.mp 1000003, .fn 56 [] [.ptr 4 0 0]] [(1000000, 1000003), (1000001, 4)] (callV_func hbv55 kr) (w_maps_DeleteFunc d_set y1.2 g1) (.cons (.same _) (.cons (.same _) .nil)) kr kr kr kr kr kr kr kr) kr ?_
 refine oN (fin_nrm ?_)
 obtain rfl := si hs
 exact fin_ret kr kr kr
theorem w_disk_Disk_Sync_n (d_files : (List (Int × disk_file))) (d_queue : (List disk_sector)) (d_set : (List (disk_sector × Bool))) (d_lost : Int) (d_down : Bool) (d_armed : Int) (d_keep : (List Int)) (f : Int) (r : Int × Int × Bool × Int × (List Int)) (hs : s_disk_Disk_Sync_n d_files d_queue d_set d_lost d_down d_armed d_keep f = some r) : FnA Tryd.prog 34 [pO, iI f] (dH (bD 1000002 ((d_queue).length) [iI d_lost, .bool d_down, iI d_armed, .vs 1 (mI d_keep)]) d_files d_queue d_set) (iI r.1) (dH (bD 1000002 ((d_queue).length) [iI r.2.1, .bool r.2.2.1, iI r.2.2.2.1, .vs 1 (mI r.2.2.2.2)]) d_files d_queue d_set) := by
 refine fnA_of_wp (N := 42) Tryd.func34 rfl rfl rfl fun cK0 => ?_
 unfold s_disk_Disk_Sync_n at hs
 refine v_same (ρ' := [(0, pO), (1, iI f)]) rfl rfl ?_
 refine vS (vT (oR 1 [(4, iI 0)] kr ?_))
 refine oN (nT (vS (vS (vT (oR 1 [(6, pO)] kr ?_)))))
 obtain ⟨y1, c1, hs⟩ := bS hs
 refine o_loc (F := (dH (bD 1000002 ((d_queue).length) [iI d_lost, .bool d_down, iI d_armed, .vs 1 (mI d_keep)]) d_files d_queue d_set)) (F' := (dH (bD 1000002 ((d_queue).length) [iI y1.2.1, .bool y1.2.2.1, iI y1.2.2.2.1, .vs 1 (mI y1.2.2.2.2)]) d_files d_queue d_set)) (v := .bool y1.1) kD kr kr rfl kr (loc_g (R := []) [pO] rD (callV_func hbv39 kr) (w_disk_Disk_ends d_files d_queue d_set d_lost d_down d_armed d_keep _ c1) (.cons (.same _) (.nil)) kr kr kr kr kr kr kr kr) kr ?_
 refine oN (nT ?_)
 refine v_cond y1.1 kr (fun h1 => ?_) (fun h1 => ?_)
 ·replace hs := bif_t h1 hs
  refine vT (oR 5 [(12, .vs 1 (mI y1.2.2.2.2)), (11, .ptr 1000000 0 6), (10, pO), (9, pO), (8, pO)] kr ?_)
  cases c2 : (s_disk_Disk_Crash_n d_files d_queue d_set y1.2.1 y1.2.2.1 y1.2.2.2.1 y1.2.2.2.2 y1.2.2.2.2)
  ·replace hs := orO_none c2 hs
   cases c3 : (s_disk_Disk_Crash_x d_files d_queue d_set y1.2.1 y1.2.2.1 y1.2.2.2.1 y1.2.2.2.2 y1.2.2.2.2)
   ·replace hs := orO_none c3 hs
    cases hs
   ·rename_i y3; replace hs := orO_some c3 hs
    refine o_loc (F := (dH (bD 1000002 ((d_queue).length) [iI y1.2.1, .bool y1.2.2.1, iI y1.2.2.2.1, .vs 1 (mI y1.2.2.2.2)]) d_files d_queue d_set)) (F' := [(3001300, (oS [])), (1000001, (oF y3.1)), (1000000, .box 64 [.mp 1000001, .nils, .mp 3001300, iI y3.2.1, .bool true, iI 0, .vs 1 (mI y3.2.2)]), (1000002, (oQ d_queue)), (1000003, (oS d_set))]) (v := .tup []) kD kr kr rfl kr (loc_g (R := []) [pO, .vs 1 (mI y1.2.2.2.2)] [(1000000, 1000000), (1000001, 1000001), (1000002, 1000002), (1000003, 1000003), (106, 3001300)] (callV_func hbv29 kr) (w_disk_Disk_Crash_x d_files d_queue d_set y1.2.1 y1.2.2.1 y1.2.2.2.1 y1.2.2.2.2 y1.2.2.2.2 _ c3) vw2 kr kr kr kr kr kr kr kr) kr ?_
    refine oN (nT (vS (vS (vT (oR 2 [(15, iI f), (14, pO)] kr ?_)))))
    obtain ⟨y4, c4, hs⟩ := bS hs
    refine o_loc (F := [(1000000, .box 64 [.mp 1000001, .nils, .mp 3001300, iI y3.2.1, .bool true, iI 0, .vs 1 (mI y3.2.2)]), (1000001, (oF y3.1)), (3001300, (oS []))]) (F' := [(1000000, .box 64 [.mp 1000001, .nils, .mp 3001300, iI y4.2.1, .bool y4.2.2.1, iI y4.2.2.2.1, .vs 1 (mI y4.2.2.2.2)]), (1000001, (oF y3.1)), (3001300, (oS []))]) (v := iI y4.1) [1000000, 1000001, 3001300] kr kr rfl kr (loc_g (R := []) [pO, iI f] [(1000000, 1000000), (1000001, 1000001), (1000002, 3001300)] (callV_func hbv38 kr) (w_disk_Disk_may_2 y3.1 [] y3.2.1 true 0 y3.2.2 f _ c4) vw2 kr kr kr kr kr kr kr kr) kr ?_
    refine oR 1 [(5, iI y4.1)] kr ?_
    refine oN (nT (vS (vT (oR 2 [(18, .bool (!(decide (y4.1 = 0)))), (17, iI y4.1)] kr ?_))))
    refine oN (nT ?_)
    refine v_cond (!(decide (y4.1 = 0))) kr (fun h2 => ?_) (fun h2 => ?_)
    ·replace hs := bif_t h2 hs
     cases hs
    ·replace hs := bif_f h2 hs
     refine vK (nT (vS (vS (vT (oR 5 [(24, .bool (decide (y4.2.1 > 0))), (23, iI y4.2.1), (22, .ptr 1000000 0 3), (21, pO), (20, pO)] kr ?_)))))
     refine oN (nT ?_)
     refine v_cond (decide (y4.2.1 > 0)) kr (fun h3 => ?_) (fun h3 => ?_)
     ·replace hs := bif_t h3 hs
      cases hs
     ·replace hs := bif_f h3 hs
      cases hs
  ·rename_i y2; replace hs := orO_some c2 hs
   refine o_loc (F := (dH (bD 1000002 ((d_queue).length) [iI y1.2.1, .bool y1.2.2.1, iI y1.2.2.2.1, .vs 1 (mI y1.2.2.2.2)]) d_files d_queue d_set)) (F' := (dH (bD 1000002 ((d_queue).length) [iI y2.1, .bool y2.2.1, iI y2.2.2.1, .vs 1 (mI y2.2.2.2)]) d_files d_queue d_set)) (v := .tup []) kD kr kr rfl kr (loc_g (R := []) [pO, .vs 1 (mI y1.2.2.2.2)] rD (callV_func hbv29 kr) (w_disk_Disk_Crash_n d_files d_queue d_set y1.2.1 y1.2.2.1 y1.2.2.2.1 y1.2.2.2.2 y1.2.2.2.2 _ c2) vw2 kr kr kr kr kr kr kr kr) kr ?_
   refine oN (nT (vS (vS (vT (oR 2 [(15, iI f), (14, pO)] kr ?_)))))
   obtain ⟨y6, c6, hs⟩ := bS hs
   refine o_loc (F := (dH (bD 1000002 ((d_queue).length) [iI y2.1, .bool y2.2.1, iI y2.2.2.1, .vs 1 (mI y2.2.2.2)]) d_files d_queue d_set)) (F' := (dH (bD 1000002 ((d_queue).length) [iI y6.2.1, .bool y6.2.2.1, iI y6.2.2.2.1, .vs 1 (mI y6.2.2.2.2)]) d_files d_queue d_set)) (v := iI y6.1) kD kr kr rfl kr (loc_g (R := []) [pO, iI f] rD (callV_func hbv38 kr) (w_disk_Disk_may d_files d_queue d_set y2.1 y2.2.1 y2.2.2.1 y2.2.2.2 f _ c6) vw2 kr kr kr kr kr kr kr kr) kr ?_
   refine oR 1 [(5, iI y6.1)] kr ?_
   refine oN (nT (vS (vT (oR 2 [(18, .bool (!(decide (y6.1 = 0)))), (17, iI y6.1)] kr ?_))))
   refine oN (nT ?_)
   refine v_cond (!(decide (y6.1 = 0))) kr (fun h4 => ?_) (fun h4 => ?_)
   ·replace hs := bif_t h4 hs
    refine vS (vT (oR 2 [(4, iI y6.1), (19, iI y6.1)] kr ?_))
    refine oN (nT (v_ret (rT ?_)))
    obtain rfl := si hs
    exact fin_ret kr kr kr
   ·replace hs := bif_f h4 hs
    refine vK (nT (vS (vS (vT (oR 5 [(24, .bool (decide (y6.2.1 > 0))), (23, iI y6.2.1), (22, .ptr 1000000 0 3), (21, pO), (20, pO)] kr ?_)))))
    refine oN (nT ?_)
    refine v_cond (decide (y6.2.1 > 0)) kr (fun h5 => ?_) (fun h5 => ?_)
    ·replace hs := bif_t h5 hs
     refine vS (vT (o_runh 8 [(31, .ptr 1000000 0 3), (30, pO), (29, iI (w64 (y6.2.1 - 1))), (28, iI y6.2.1), (27, .ptr 1000000 0 3), (26, pO), (25, pO)] (dH (bD 1000002 ((d_queue).length) [iI (w64 (y6.2.1 - 1)), .bool y6.2.2.1, iI y6.2.2.2.1, .vs 1 (mI y6.2.2.2.2)]) d_files d_queue d_set) kr ?_))
     refine oN (nT (vS (vT (oR 1 [(4, iI 9)] kr ?_))))
     refine oN (nT (v_ret (rT ?_)))
     obtain rfl := si hs
     exact fin_ret kr kr kr
    ·replace hs := bif_f h5 hs
     cases hs
 ·replace hs := bif_f h1 hs
  refine vK (nT (vS (vS (vT (oR 2 [(15, iI f), (14, pO)] kr ?_)))))
  obtain ⟨y8, c8, hs⟩ := bS hs
  refine o_loc (F := (dH (bD 1000002 ((d_queue).length) [iI y1.2.1, .bool y1.2.2.1, iI y1.2.2.2.1, .vs 1 (mI y1.2.2.2.2)]) d_files d_queue d_set)) (F' := (dH (bD 1000002 ((d_queue).length) [iI y8.2.1, .bool y8.2.2.1, iI y8.2.2.2.1, .vs 1 (mI y8.2.2.2.2)]) d_files d_queue d_set)) (v := iI y8.1) kD kr kr rfl kr (loc_g (R := []) [pO, iI f] rD (callV_func hbv38 kr) (w_disk_Disk_may d_files d_queue d_set y1.2.1 y1.2.2.1 y1.2.2.2.1 y1.2.2.2.2 f _ c8) vw2 kr kr kr kr kr kr kr kr) kr ?_
  refine oR 1 [(5, iI y8.1)] kr ?_
  refine oN (nT (vS (vT (oR 2 [(18, .bool (!(decide (y8.1 = 0)))), (17, iI y8.1)] kr ?_))))
  refine oN (nT ?_)
  refine v_cond (!(decide (y8.1 = 0))) kr (fun h6 => ?_) (fun h6 => ?_)
  ·replace hs := bif_t h6 hs
   refine vS (vT (oR 2 [(4, iI y8.1), (19, iI y8.1)] kr ?_))
   refine oN (nT (v_ret (rT ?_)))
   obtain rfl := si hs
   exact fin_ret kr kr kr
  ·replace hs := bif_f h6 hs
   refine vK (nT (vS (vS (vT (oR 5 [(24, .bool (decide (y8.2.1 > 0))), (23, iI y8.2.1), (22, .ptr 1000000 0 3), (21, pO), (20, pO)] kr ?_)))))
   refine oN (nT ?_)
   refine v_cond (decide (y8.2.1 > 0)) kr (fun h7 => ?_) (fun h7 => ?_)
   ·replace hs := bif_t h7 hs
    refine vS (vT (o_runh 8 [(31, .ptr 1000000 0 3), (30, pO), (29, iI (w64 (y8.2.1 - 1))), (28, iI y8.2.1), (27, .ptr 1000000 0 3), (26, pO), (25, pO)] (dH (bD 1000002 ((d_queue).length) [iI (w64 (y8.2.1 - 1)), .bool y8.2.2.1, iI y8.2.2.2.1, .vs 1 (mI y8.2.2.2.2)]) d_files d_queue d_set) kr ?_))
    refine oN (nT (vS (vT (oR 1 [(4, iI 9)] kr ?_))))
    refine oN (nT (v_ret (rT ?_)))
    obtain rfl := si hs
    exact fin_ret kr kr kr
   ·replace hs := bif_f h7 hs
    cases hs
theorem w_disk_Disk_Sync_s (d_files : (List (Int × disk_file))) (d_queue : (List disk_sector)) (d_set : (List (disk_sector × Bool))) (d_lost : Int) (d_down : Bool) (d_armed : Int) (d_keep : (List Int)) (f : Int) (r : (List (disk_sector × Bool)) × (List disk_sector) × (List (Int × disk_file)) × Int × Bool × Int × (List Int)) (hs : s_disk_Disk_Sync_s d_files d_queue d_set d_lost d_down d_armed d_keep f = some r) : FnA Tryd.prog 34 [pO, iI f] (dH (bD 1000002 ((d_queue).length) [iI d_lost, .bool d_down, iI d_armed, .vs 1 (mI d_keep)]) d_files d_queue d_set) (iI 0) [(1000003, (oS r.1)), (3004100, (oQ r.2.1)), (1000002, .gen gone), (1000001, (oF r.2.2.1)), (1000000, (bD 3004100 ((r.2.1).length) [iI r.2.2.2.1, .bool r.2.2.2.2.1, iI r.2.2.2.2.2.1, .vs 1 (mI r.2.2.2.2.2.2)]))] := by
 refine fnA_of_wp (N := 42) Tryd.func34 rfl rfl rfl fun cK0 => ?_
 unfold s_disk_Disk_Sync_s at hs
 refine v_same (ρ' := [(0, pO), (1, iI f)]) rfl rfl ?_
 refine vS (vT (oR 1 [(4, iI 0)] kr ?_))
 refine oN (nT (vS (vS (vT (oR 1 [(6, pO)] kr ?_)))))
 obtain ⟨y1, c1, hs⟩ := bS hs
 refine o_loc (F := (dH (bD 1000002 ((d_queue).length) [iI d_lost, .bool d_down, iI d_armed, .vs 1 (mI d_keep)]) d_files d_queue d_set)) (F' := (dH (bD 1000002 ((d_queue).length) [iI y1.2.1, .bool y1.2.2.1, iI y1.2.2.2.1, .vs 1 (mI y1.2.2.2.2)]) d_files d_queue d_set)) (v := .bool y1.1) kD kr kr rfl kr (loc_g (R := []) [pO] rD (callV_func hbv39 kr) (w_disk_Disk_ends d_files d_queue d_set d_lost d_down d_armed d_keep _ c1) (.cons (.same _) (.nil)) kr kr kr kr kr kr kr kr) kr ?_
 refine oN (nT ?_)
 refine v_cond y1.1 kr (fun h1 => ?_) (fun h1 => ?_)
 ·replace hs := bif_t h1 hs
  refine vT (oR 5 [(12, .vs 1 (mI y1.2.2.2.2)), (11, .ptr 1000000 0 6), (10, pO), (9, pO), (8, pO)] kr ?_)
  cases c2 : (s_disk_Disk_Crash_n d_files d_queue d_set y1.2.1 y1.2.2.1 y1.2.2.2.1 y1.2.2.2.2 y1.2.2.2.2)
  ·replace hs := orO_none c2 hs
   cases c3 : (s_disk_Disk_Crash_x d_files d_queue d_set y1.2.1 y1.2.2.1 y1.2.2.2.1 y1.2.2.2.2 y1.2.2.2.2)
   ·replace hs := orO_none c3 hs
    cases hs
   ·rename_i y3; replace hs := orO_some c3 hs
    refine o_loc (F := (dH (bD 1000002 ((d_queue).length) [iI y1.2.1, .bool y1.2.2.1, iI y1.2.2.2.1, .vs 1 (mI y1.2.2.2.2)]) d_files d_queue d_set)) (F' := [(3001300, (oS [])), (1000001, (oF y3.1)), (1000000, .box 64 [.mp 1000001, .nils, .mp 3001300, iI y3.2.1, .bool true, iI 0, .vs 1 (mI y3.2.2)]), (1000002, (oQ d_queue)), (1000003, (oS d_set))]) (v := .tup []) kD kr kr rfl kr (loc_g (R := []) [pO, .vs 1 (mI y1.2.2.2.2)] [(1000000, 1000000), (1000001, 1000001), (1000002, 1000002), (1000003, 1000003), (106, 3001300)] (callV_func hbv29 kr) (w_disk_Disk_Crash_x d_files d_queue d_set y1.2.1 y1.2.2.1 y1.2.2.2.1 y1.2.2.2.2 y1.2.2.2.2 _ c3) vw2 kr kr kr kr kr kr kr kr) kr ?_
    refine oN (nT (vS (vS (vT (oR 2 [(15, iI f), (14, pO)] kr ?_)))))
    obtain ⟨y4, c4, hs⟩ := bS hs
    refine o_loc (F := [(1000000, .box 64 [.mp 1000001, .nils, .mp 3001300, iI y3.2.1, .bool true, iI 0, .vs 1 (mI y3.2.2)]), (1000001, (oF y3.1)), (3001300, (oS []))]) (F' := [(1000000, .box 64 [.mp 1000001, .nils, .mp 3001300, iI y4.2.1, .bool y4.2.2.1, iI y4.2.2.2.1, .vs 1 (mI y4.2.2.2.2)]), (1000001, (oF y3.1)), (3001300, (oS []))]) (v := iI y4.1) [1000000, 1000001, 3001300] kr kr rfl kr (loc_g (R := []) [pO, iI f] [(1000000, 1000000), (1000001, 1000001), (1000002, 3001300)] (callV_func hbv38 kr) (w_disk_Disk_may_2 y3.1 [] y3.2.1 true 0 y3.2.2 f _ c4) vw2 kr kr kr kr kr kr kr kr) kr ?_
    refine oR 1 [(5, iI y4.1)] kr ?_
    refine oN (nT (vS (vT (oR 2 [(18, .bool (!(decide (y4.1 = 0)))), (17, iI y4.1)] kr ?_))))
    refine oN (nT ?_)
    refine v_cond (!(decide (y4.1 = 0))) kr (fun h2 => ?_) (fun h2 => ?_)
    ·replace hs := bif_t h2 hs
     cases hs
    ·replace hs := bif_f h2 hs
     refine vK (nT (vS (vS (vT (oR 5 [(24, .bool (decide (y4.2.1 > 0))), (23, iI y4.2.1), (22, .ptr 1000000 0 3), (21, pO), (20, pO)] kr ?_)))))
     refine oN (nT ?_)
     refine v_cond (decide (y4.2.1 > 0)) kr (fun h3 => ?_) (fun h3 => ?_)
     ·replace hs := bif_t h3 hs
      cases hs
     ·replace hs := bif_f h3 hs
      cases hs
  ·rename_i y2; replace hs := orO_some c2 hs
   refine o_loc (F := (dH (bD 1000002 ((d_queue).length) [iI y1.2.1, .bool y1.2.2.1, iI y1.2.2.2.1, .vs 1 (mI y1.2.2.2.2)]) d_files d_queue d_set)) (F' := (dH (bD 1000002 ((d_queue).length) [iI y2.1, .bool y2.2.1, iI y2.2.2.1, .vs 1 (mI y2.2.2.2)]) d_files d_queue d_set)) (v := .tup []) kD kr kr rfl kr (loc_g (R := []) [pO, .vs 1 (mI y1.2.2.2.2)] rD (callV_func hbv29 kr) (w_disk_Disk_Crash_n d_files d_queue d_set y1.2.1 y1.2.2.1 y1.2.2.2.1 y1.2.2.2.2 y1.2.2.2.2 _ c2) vw2 kr kr kr kr kr kr kr kr) kr ?_
   refine oN (nT (vS (vS (vT (oR 2 [(15, iI f), (14, pO)] kr ?_)))))
   obtain ⟨y6, c6, hs⟩ := bS hs
   refine o_loc (F := (dH (bD 1000002 ((d_queue).length) [iI y2.1, .bool y2.2.1, iI y2.2.2.1, .vs 1 (mI y2.2.2.2)]) d_files d_queue d_set)) (F' := (dH (bD 1000002 ((d_queue).length) [iI y6.2.1, .bool y6.2.2.1, iI y6.2.2.2.1, .vs 1 (mI y6.2.2.2.2)]) d_files d_queue d_set)) (v := iI y6.1) kD kr kr rfl kr (loc_g (R := []) [pO, iI f] rD (callV_func hbv38 kr) (w_disk_Disk_may d_files d_queue d_set y2.1 y2.2.1 y2.2.2.1 y2.2.2.2 f _ c6) vw2 kr kr kr kr kr kr kr kr) kr ?_
   refine oR 1 [(5, iI y6.1)] kr ?_
   refine oN (nT (vS (vT (oR 2 [(18, .bool (!(decide (y6.1 = 0)))), (17, iI y6.1)] kr ?_))))
   refine oN (nT ?_)
   refine v_cond (!(decide (y6.1 = 0))) kr (fun h4 => ?_) (fun h4 => ?_)
   ·replace hs := bif_t h4 hs
    cases hs
   ·replace hs := bif_f h4 hs
    refine vK (nT (vS (vS (vT (oR 5 [(24, .bool (decide (y6.2.1 > 0))), (23, iI y6.2.1), (22, .ptr 1000000 0 3), (21, pO), (20, pO)] kr ?_)))))
    refine oN (nT ?_)
    refine v_cond (decide (y6.2.1 > 0)) kr (fun h5 => ?_) (fun h5 => ?_)
    ·replace hs := bif_t h5 hs
     cases hs
    ·replace hs := bif_f h5 hs
     refine vK (nT (vS (vT (oR 7 [(38, iI f), (37, .mp 1000001), (36, pO), (35, pO), (34, pO), (33, iI f), (32, pO)] kr ?_))))
     refine o_loc (F := [(1000001, (oF d_files))]) (F' := [(1000001, (oF d_files))]) (v := .agg (enc_disk_file (Option.getD (mfind f d_files) (disk_file.mk [] [])))) [1000001] kr kr rfl kr (loc_lookup (et := 72) (f := (V.int .i64)) (g := (fun e => V.agg (enc_disk_file e))) (l := d_files) (a := f) (z := (disk_file.mk [] [])) (zv := .agg [.str [], .str []]) false kr kok3 kr (fun _ _ _ h => h) kr kr) kr ?_
     refine oR 1 [(40, .str ((Option.getD (mfind f d_files) (disk_file.mk [] [])).now))] kr ?_
     obtain ⟨y7, c7, hs⟩ := bS hs
     refine o_loc (F := (dH (bD 1000002 ((d_queue).length) [iI y6.2.1, .bool y6.2.2.1, iI y6.2.2.2.1, .vs 1 (mI y6.2.2.2.2)]) d_files d_queue d_set)) (F' := [(1000003, (oS y7.1)), (3004100, (oQ y7.2.1)), (1000002, .gen gone), (1000001, (oF y7.2.2.1)), (1000000, (bD 3004100 ((y7.2.1).length) [iI y7.2.2.2.1, .bool y7.2.2.2.2.1, iI y7.2.2.2.2.2.1, .vs 1 (mI y7.2.2.2.2.2.2)]))]) (v := .tup []) kD kr kr rfl kr (loc_g (R := []) [pO, iI f, .str ((Option.getD (mfind f d_files) (disk_file.mk [] [])).now)] [(1000000, 1000000), (1000001, 1000001), (1000002, 1000002), (1000003, 1000003), (3002000, 3004100)] (callV_func hbv48 kr) (w_disk_Disk_settle_2 d_files d_queue d_set y6.2.1 y6.2.2.1 y6.2.2.2.1 y6.2.2.2.2 f ((Option.getD (mfind f d_files) (disk_file.mk [] [])).now) _ c7) vw3 kr kr kr kr kr kr kr kr) kr ?_
     refine oN (nT (vS (vT (oR 1 [(4, iI 0)] kr ?_))))
     refine oN (nT (v_ret ?_))
     obtain rfl := si hs
     exact fin_ret kr kr kr
 ·replace hs := bif_f h1 hs
  refine vK (nT (vS (vS (vT (oR 2 [(15, iI f), (14, pO)] kr ?_)))))
  obtain ⟨y8, c8, hs⟩ := bS hs
  refine o_loc (F := (dH (bD 1000002 ((d_queue).length) [iI y1.2.1, .bool y1.2.2.1, iI y1.2.2.2.1, .vs 1 (mI y1.2.2.2.2)]) d_files d_queue d_set)) (F' := (dH (bD 1000002 ((d_queue).length) [iI y8.2.1, .bool y8.2.2.1, iI y8.2.2.2.1, .vs 1 (mI y8.2.2.2.2)]) d_files d_queue d_set)) (v := iI y8.1) kD kr kr rfl kr (loc_g (R := []) [pO, iI f] rD (callV_func hbv38 kr) (w_disk_Disk_may d_files d_queue d_set y1.2.1 y1.2.2.1 y1.2.2.2.1 y1.2.2.2.2 f _ c8) vw2 kr kr kr kr kr kr kr kr) kr ?_
  refine oR 1 [(5, iI y8.1)] kr ?_
  refine oN (nT (vS (vT (oR 2 [(18, .bool (!(decide (y8.1 = 0)))), (17, iI y8.1)] kr ?_))))
  refine oN (nT ?_)
  refine v_cond (!(decide (y8.1 = 0))) kr (fun h6 => ?_) (fun h6 => ?_)
  ·replace hs := bif_t h6 hs
   cases hs
  ·replace hs := bif_f h6 hs
   refine vK (nT (vS (vS (vT (oR 5 [(24, .bool (decide (y8.2.1 > 0))), (23, iI y8.2.1), (22, .ptr 1000000 0 3), (21, pO), (20, pO)] kr ?_)))))
   refine oN (nT ?_)
   refine v_cond (decide (y8.2.1 > 0)) kr (fun h7 => ?_) (fun h7 => ?_)
   ·replace hs := bif_t h7 hs
    cases hs
   ·replace hs := bif_f h7 hs
    refine vK (nT (vS (vT (oR 7 [(38, iI f), (37, .mp 1000001), (36, pO), (35, pO), (34, pO), (33, iI f), (32, pO)] kr ?_))))
    refine o_loc (F := [(1000001, (oF d_files))]) (F' := [(1000001, (oF d_files))]) (v := .agg (enc_disk_file (Option.getD (mfind f d_files) (disk_file.mk [] [])))) [1000001] kr kr rfl kr (loc_lookup (et := 72) (f := (V.int .i64)) (g := (fun e => V.agg (enc_disk_file e))) (l := d_files) (a := f) (z := (disk_file.mk [] [])) (zv := .agg [.str [], .str []]) false kr kok3 kr (fun _ _ _ h => h) kr kr) kr ?_
    refine oR 1 [(40, .str ((Option.getD (mfind f d_files) (disk_file.mk [] [])).now))] kr ?_
    obtain ⟨y9, c9, hs⟩ := bS hs
    refine o_loc (F := (dH (bD 1000002 ((d_queue).length) [iI y8.2.1, .bool y8.2.2.1, iI y8.2.2.2.1, .vs 1 (mI y8.2.2.2.2)]) d_files d_queue d_set)) (F' := [(1000003, (oS y9.1)), (3004100, (oQ y9.2.1)), (1000002, .gen gone), (1000001, (oF y9.2.2.1)), (1000000, (bD 3004100 ((y9.2.1).length) [iI y9.2.2.2.1, .bool y9.2.2.2.2.1, iI y9.2.2.2.2.2.1, .vs 1 (mI y9.2.2.2.2.2.2)]))]) (v := .tup []) kD kr kr rfl kr (loc_g (R := []) [pO, iI f, .str ((Option.getD (mfind f d_files) (disk_file.mk [] [])).now)] [(1000000, 1000000), (1000001, 1000001), (1000002, 1000002), (1000003, 1000003), (3002000, 3004100)] (callV_func hbv48 kr) (w_disk_Disk_settle_2 d_files d_queue d_set y8.2.1 y8.2.2.1 y8.2.2.2.1 y8.2.2.2.2 f ((Option.getD (mfind f d_files) (disk_file.mk [] [])).now) _ c9) vw3 kr kr kr kr kr kr kr kr) kr ?_
    refine oN (nT (vS (vT (oR 1 [(4, iI 0)] kr ?_))))
    refine oN (nT (v_ret ?_))
    obtain rfl := si hs
    exact fin_ret kr kr kr
theorem w_disk_Disk_Sync_x (d_files : (List (Int × disk_file))) (d_queue : (List disk_sector)) (d_set : (List (disk_sector × Bool))) (d_lost : Int) (d_down : Bool) (d_armed : Int) (d_keep : (List Int)) (f : Int) (r : Int × Int × Bool × Int × (List Int) × (List (Int × disk_file))) (hs : s_disk_Disk_Sync_x d_files d_queue d_set d_lost d_down d_armed d_keep f = some r) : FnA Tryd.prog 34 [pO, iI f] (dH (bD 1000002 ((d_queue).length) [iI d_lost, .bool d_down, iI d_armed, .vs 1 (mI d_keep)]) d_files d_queue d_set) (iI r.1) [(1000000, .box 64 [.mp 1000001, .nils, .mp 3001300, iI r.2.1, .bool r.2.2.1, iI r.2.2.2.1, .vs 1 (mI r.2.2.2.2.1)]), (1000001, (oF r.2.2.2.2.2)), (3001300, (oS [])), (1000002, (oQ d_queue)), (1000003, (oS d_set))] := by
 refine fnA_of_wp (N := 42) Tryd.func34 rfl rfl rfl fun cK0 => ?_
 unfold s_disk_Disk_Sync_x at hs
 refine v_same (ρ' := [(0, pO), (1, iI f)]) rfl rfl ?_
 refine vS (vT (oR 1 [(4, iI 0)] kr ?_))
 refine oN (nT (vS (vS (vT (oR 1 [(6, pO)] kr ?_)))))
 obtain ⟨y1, c1, hs⟩ := bS hs
 refine o_loc (F := (dH (bD 1000002 ((d_queue).length) [iI d_lost, .bool d_down, iI d_armed, .vs 1 (mI d_keep)]) d_files d_queue d_set)) (F' := (dH (bD 1000002 ((d_queue).length) [iI y1.2.1, .bool y1.2.2.1, iI y1.2.2.2.1, .vs 1 (mI y1.2.2.2.2)]) d_files d_queue d_set)) (v := .bool y1.1) kD kr kr rfl kr (loc_g (R := []) [pO] rD (callV_func hbv39 kr) (w_disk_Disk_ends d_files d_queue d_set d_lost d_down d_armed d_keep _ c1) (.cons (.same _) (.nil)) kr kr kr kr kr kr kr kr) kr ?_
 refine oN (nT ?_)
 refine v_cond y1.1 kr (fun h1 => ?_) (fun h1 => ?_)
 ·replace hs := bif_t h1 hs
  refine vT (oR 5 [(12, .vs 1 (mI y1.2.2.2.2)), (11, .ptr 1000000 0 6), (10, pO), (9, pO), (8, pO)] kr ?_)
  cases c2 : (s_disk_Disk_Crash_n d_files d_queue d_set y1.2.1 y1.2.2.1 y1.2.2.2.1 y1.2.2.2.2 y1.2.2.2.2)
  ·replace hs := orO_none c2 hs
   cases c3 : (s_disk_Disk_Crash_x d_files d_queue d_set y1.2.1 y1.2.2.1 y1.2.2.2.1 y1.2.2.2.2 y1.2.2.2.2)
   ·replace hs := orO_none c3 hs
    cases hs
   ·rename_i y3; replace hs := orO_some c3 hs
    refine o_loc (F := (dH (bD 1000002 ((d_queue).length) [iI y1.2.1, .bool y1.2.2.1, iI y1.2.2.2.1, .vs 1 (mI y1.2.2.2.2)]) d_files d_queue d_set)) (F' := [(3001300, (oS [])), (1000001, (oF y3.1)), (1000000, .box 64 [.mp 1000001, .nils, .mp 3001300, iI y3.2.1, .bool true, iI 0, .vs 1 (mI y3.2.2)]), (1000002, (oQ d_queue)), (1000003, (oS d_set))]) (v := .tup []) kD kr kr rfl kr (loc_g (R := []) [pO, .vs 1 (mI y1.2.2.2.2)] [(1000000, 1000000), (1000001, 1000001), (1000002, 1000002), (1000003, 1000003), (106, 3001300)] (callV_func hbv29 kr) (w_disk_Disk_Crash_x d_files d_queue d_set y1.2.1 y1.2.2.1 y1.2.2.2.1 y1.2.2.2.2 y1.2.2.2.2 _ c3) vw2 kr kr kr kr kr kr kr kr) kr ?_
    refine oN (nT (vS (vS (vT (oR 2 [(15, iI f), (14, pO)] kr ?_)))))
    obtain ⟨y4, c4, hs⟩ := bS hs
    refine o_loc (F := [(1000000, .box 64 [.mp 1000001, .nils, .mp 3001300, iI y3.2.1, .bool true, iI 0, .vs 1 (mI y3.2.2)]), (1000001, (oF y3.1)), (3001300, (oS []))]) (F' := [(1000000, .box 64 [.mp 1000001, .nils, .mp 3001300, iI y4.2.1, .bool y4.2.2.1, iI y4.2.2.2.1, .vs 1 (mI y4.2.2.2.2)]), (1000001, (oF y3.1)), (3001300, (oS []))]) (v := iI y4.1) [1000000, 1000001, 3001300] kr kr rfl kr (loc_g (R := []) [pO, iI f] [(1000000, 1000000), (1000001, 1000001), (1000002, 3001300)] (callV_func hbv38 kr) (w_disk_Disk_may_2 y3.1 [] y3.2.1 true 0 y3.2.2 f _ c4) vw2 kr kr kr kr kr kr kr kr) kr ?_
    refine oR 1 [(5, iI y4.1)] kr ?_
    refine oN (nT (vS (vT (oR 2 [(18, .bool (!(decide (y4.1 = 0)))), (17, iI y4.1)] kr ?_))))
    refine oN (nT ?_)
    refine v_cond (!(decide (y4.1 = 0))) kr (fun h2 => ?_) (fun h2 => ?_)
    ·replace hs := bif_t h2 hs
     refine vS (vT (oR 2 [(4, iI y4.1), (19, iI y4.1)] kr ?_))
     refine oN (nT (v_ret (rT ?_)))
     obtain rfl := si hs
     exact fin_ret kr kr kr
    ·replace hs := bif_f h2 hs
     refine vK (nT (vS (vS (vT (oR 5 [(24, .bool (decide (y4.2.1 > 0))), (23, iI y4.2.1), (22, .ptr 1000000 0 3), (21, pO), (20, pO)] kr ?_)))))
     refine oN (nT ?_)
     refine v_cond (decide (y4.2.1 > 0)) kr (fun h3 => ?_) (fun h3 => ?_)
     ·replace hs := bif_t h3 hs
      refine vS (vT (o_runh 8 [(31, .ptr 1000000 0 3), (30, pO), (29, iI (w64 (y4.2.1 - 1))), (28, iI y4.2.1), (27, .ptr 1000000 0 3), (26, pO), (25, pO)] [(1000000, .box 64 [.mp 1000001, .nils, .mp 3001300, iI (w64 (y4.2.1 - 1)), .bool y4.2.2.1, iI y4.2.2.2.1, .vs 1 (mI y4.2.2.2.2)]), (1000001, (oF y3.1)), (3001300, (oS [])), (1000002, (oQ d_queue)), (1000003, (oS d_set))] kr ?_))
      refine oN (nT (vS (vT (oR 1 [(4, iI 9)] kr ?_))))
      refine oN (nT (v_ret (rT ?_)))
      obtain rfl := si hs
      exact fin_ret kr kr kr
     ·replace hs := bif_f h3 hs
      cases hs
  ·rename_i y2; replace hs := orO_some c2 hs
   refine o_loc (F := (dH (bD 1000002 ((d_queue).length) [iI y1.2.1, .bool y1.2.2.1, iI y1.2.2.2.1, .vs 1 (mI y1.2.2.2.2)]) d_files d_queue d_set)) (F' := (dH (bD 1000002 ((d_queue).length) [iI y2.1, .bool y2.2.1, iI y2.2.2.1, .vs 1 (mI y2.2.2.2)]) d_files d_queue d_set)) (v := .tup []) kD kr kr rfl kr (loc_g (R := []) [pO, .vs 1 (mI y1.2.2.2.2)] rD (callV_func hbv29 kr) (w_disk_Disk_Crash_n d_files d_queue d_set y1.2.1 y1.2.2.1 y1.2.2.2.1 y1.2.2.2.2 y1.2.2.2.2 _ c2) vw2 kr kr kr kr kr kr kr kr) kr ?_
   refine oN (nT (vS (vS (vT (oR 2 [(15, iI f), (14, pO)] kr ?_)))))
   obtain ⟨y6, c6, hs⟩ := bS hs
   refine o_loc (F := (dH (bD 1000002 ((d_queue).length) [iI y2.1, .bool y2.2.1, iI y2.2.2.1, .vs 1 (mI y2.2.2.2)]) d_files d_queue d_set)) (F' := (dH (bD 1000002 ((d_queue).length) [iI y6.2.1, .bool y6.2.2.1, iI y6.2.2.2.1, .vs 1 (mI y6.2.2.2.2)]) d_files d_queue d_set)) (v := iI y6.1) kD kr kr rfl kr (loc_g (R := []) [pO, iI f] rD (callV_func hbv38 kr) (w_disk_Disk_may d_files d_queue d_set y2.1 y2.2.1 y2.2.2.1 y2.2.2.2 f _ c6) vw2 kr kr kr kr kr kr kr kr) kr ?_
   refine oR 1 [(5, iI y6.1)] kr ?_
   refine oN (nT (vS (vT (oR 2 [(18, .bool (!(decide (y6.1 = 0)))), (17, iI y6.1)] kr ?_))))
   refine oN (nT ?_)
   refine v_cond (!(decide (y6.1 = 0))) kr (fun h4 => ?_) (fun h4 => ?_)
   ·replace hs := bif_t h4 hs
    cases hs
   ·replace hs := bif_f h4 hs
    refine vK (nT (vS (vS (vT (oR 5 [(24, .bool (decide (y6.2.1 > 0))), (23, iI y6.2.1), (22, .ptr 1000000 0 3), (21, pO), (20, pO)] kr ?_)))))
    refine oN (nT ?_)
    refine v_cond (decide (y6.2.1 > 0)) kr (fun h5 => ?_) (fun h5 => ?_)
    ·replace hs := bif_t h5 hs
     cases hs
    ·replace hs := bif_f h5 hs
     cases hs
 ·replace hs := bif_f h1 hs
  refine vK (nT (vS (vS (vT (oR 2 [(15, iI f), (14, pO)] kr ?_)))))
  obtain ⟨y8, c8, hs⟩ := bS hs
  refine o_loc (F := (dH (bD 1000002 ((d_queue).length) [iI y1.2.1, .bool y1.2.2.1, iI y1.2.2.2.1, .vs 1 (mI y1.2.2.2.2)]) d_files d_queue d_set)) (F' := (dH (bD 1000002 ((d_queue).length) [iI y8.2.1, .bool y8.2.2.1, iI y8.2.2.2.1, .vs 1 (mI y8.2.2.2.2)]) d_files d_queue d_set)) (v := iI y8.1) kD kr kr rfl kr (loc_g (R := []) [pO, iI f] rD (callV_func hbv38 kr) (w_disk_Disk_may d_files d_queue d_set y1.2.1 y1.2.2.1 y1.2.2.2.1 y1.2.2.2.2 f _ c8) vw2 kr kr kr kr kr kr kr kr) kr ?_
  refine oR 1 [(5, iI y8.1)] kr ?_
  refine oN (nT (vS (vT (oR 2 [(18, .bool (!(decide (y8.1 = 0)))), (17, iI y8.1)] kr ?_))))
  refine oN (nT ?_)
  refine v_cond (!(decide (y8.1 = 0))) kr (fun h6 => ?_) (fun h6 => ?_)
  ·replace hs := bif_t h6 hs
   cases hs
  ·replace hs := bif_f h6 hs
   refine vK (nT (vS (vS (vT (oR 5 [(24, .bool (decide (y8.2.1 > 0))), (23, iI y8.2.1), (22, .ptr 1000000 0 3), (21, pO), (20, pO)] kr ?_)))))
   refine oN (nT ?_)
   refine v_cond (decide (y8.2.1 > 0)) kr (fun h7 => ?_) (fun h7 => ?_)
   ·replace hs := bif_t h7 hs
    cases hs
   ·replace hs := bif_f h7 hs
    cases hs
theorem w_disk_Disk_Size_2 (d_files : (List (Int × disk_file))) (d_set : (List (disk_sector × Bool))) (d_lost : Int) (d_down : Bool) (d_armed : Int) (d_keep : (List Int)) (f : Int) (r : Int × Int × Bool × Int × (List Int)) (hs : s_disk_Disk_Size_2 d_files d_set d_lost d_down d_armed d_keep f = some r) : FnA Tryd.prog 12 [pO, iI f] [(1000000, .box 64 [.mp 1000001, .nils, .mp 1000002, iI d_lost, .bool d_down, iI d_armed, .vs 1 (mI d_keep)]), (1000001, (oF d_files)), (1000002, (oS d_set))] (iI r.1) [(1000001, (oF d_files)), (1000000, .box 64 [.mp 1000001, .nils, .mp 1000002, iI r.2.1, .bool r.2.2.1, iI r.2.2.2.1, .vs 1 (mI r.2.2.2.2)]), (1000002, (oS d_set))] := by
 refine fnA_of_wp (N := 13) Tryd.func12 rfl rfl rfl fun cK0 => ?_
 unfold s_disk_Disk_Size_2 at hs
 refine v_same (ρ' := [(0, pO), (1, iI f)]) rfl rfl ?_
 refine vS (vT (oR 1 [(4, iI 0)] kr ?_))
 refine oN (nT (vS (vT (oR 5 [(9, iI f), (8, .mp 1000001), (7, pO), (6, pO), (5, pO)] kr ?_))))
 refine o_loc (F := [(1000001, (oF d_files))]) (F' := [(1000001, (oF d_files))]) (v := .agg (enc_disk_file (Option.getD (mfind f d_files) (disk_file.mk [] [])))) [1000001] kr kr rfl kr (loc_lookup (et := 72) (f := (V.int .i64)) (g := (fun e => V.agg (enc_disk_file e))) (l := d_files) (a := f) (z := (disk_file.mk [] [])) (zv := .agg [.str [], .str []]) false kr kok3 kr (fun _ _ _ h => h) kr kr) kr ?_
 refine oR 3 [(4, iI (List.length ((Option.getD (mfind f d_files) (disk_file.mk [] [])).now) : Int)), (12, iI (List.length ((Option.getD (mfind f d_files) (disk_file.mk [] [])).now) : Int)), (11, .str ((Option.getD (mfind f d_files) (disk_file.mk [] [])).now))] kr ?_
 refine oN (nT (v_ret ?_))
 obtain rfl := si hs
 exact fin_ret kr kr kr
theorem w_disk_Disk_Truncate_n (d_files : (List (Int × disk_file))) (d_queue : (List disk_sector)) (d_set : (List (disk_sector × Bool))) (d_lost : Int) (d_down : Bool) (d_armed : Int) (d_keep : (List Int)) (f : Int) (size : Int) (r : Int × Int × Bool × Int × (List Int)) (hs : s_disk_Disk_Truncate_n d_files d_queue d_set d_lost d_down d_armed d_keep f size = some r) : FnA Tryd.prog 36 [pO, iI f, iI size] (dH (bD 1000002 ((d_queue).length) [iI d_lost, .bool d_down, iI d_armed, .vs 1 (mI d_keep)]) d_files d_queue d_set) (iI r.1) (dH (bD 1000002 ((d_queue).length) [iI r.2.1, .bool r.2.2.1, iI r.2.2.2.1, .vs 1 (mI r.2.2.2.2)]) d_files d_queue d_set) := by
 refine fnA_of_wp (N := 43) Tryd.func36 rfl rfl rfl fun cK0 => ?_
 unfold s_disk_Disk_Truncate_n at hs
 refine v_same (ρ' := [(0, pO), (1, iI f), (2, iI size)]) rfl rfl ?_
 refine vS (vT (oR 1 [(6, iI 0)] kr ?_))
 refine oN (nT (vS (vS (vT (oR 1 [(8, pO)] kr ?_)))))
 obtain ⟨y1, c1, hs⟩ := bS hs
 refine o_loc (F := (dH (bD 1000002 ((d_queue).length) [iI d_lost, .bool d_down, iI d_armed, .vs 1 (mI d_keep)]) d_files d_queue d_set)) (F' := (dH (bD 1000002 ((d_queue).length) [iI y1.2.1, .bool y1.2.2.1, iI y1.2.2.2.1, .vs 1 (mI y1.2.2.2.2)]) d_files d_queue d_set)) (v := .bool y1.1) kD kr kr rfl kr (loc_g (R := []) [pO] rD (callV_func hbv39 kr) (w_disk_Disk_ends d_files d_queue d_set d_lost d_down d_armed d_keep _ c1) (.cons (.same _) (.nil)) kr kr kr kr kr kr kr kr) kr ?_
 refine oN (nT ?_)
 refine v_cond y1.1 kr (fun h1 => ?_) (fun h1 => ?_)
 ·replace hs := bif_t h1 hs
  refine vT (oR 5 [(14, .vs 1 (mI y1.2.2.2.2)), (13, .ptr 1000000 0 6), (12, pO), (11, pO), (10, pO)] kr ?_)
  cases c2 : (s_disk_Disk_Crash_n d_files d_queue d_set y1.2.1 y1.2.2.1 y1.2.2.2.1 y1.2.2.2.2 y1.2.2.2.2)
  ·replace hs := orO_none c2 hs
   cases c3 : (s_disk_Disk_Crash_x d_files d_queue d_set y1.2.1 y1.2.2.1 y1.2.2.2.1 y1.2.2.2.2 y1.2.2.2.2)
   ·replace hs := orO_none c3 hs
    cases hs
   ·rename_i y3; replace hs := orO_some c3 hs
    refine o_loc (F := (dH (bD 1000002 ((d_queue).length) [iI y1.2.1, .bool y1.2.2.1, iI y1.2.2.2.1, .vs 1 (mI y1.2.2.2.2)]) d_files d_queue d_set)) (F' := [(3001500, (oS [])), (1000001, (oF y3.1)), (1000000, .box 64 [.mp 1000001, .nils, .mp 3001500, iI y3.2.1, .bool true, iI 0, .vs 1 (mI y3.2.2)]), (1000002, (oQ d_queue)), (1000003, (oS d_set))]) (v := .tup []) kD kr kr rfl kr (loc_g (R := []) [pO, .vs 1 (mI y1.2.2.2.2)] [(1000000, 1000000), (1000001, 1000001), (1000002, 1000002), (1000003, 1000003), (106, 3001500)] (callV_func hbv29 kr) (w_disk_Disk_Crash_x d_files d_queue d_set y1.2.1 y1.2.2.1 y1.2.2.2.1 y1.2.2.2.2 y1.2.2.2.2 _ c3) vw2 kr kr kr kr kr kr kr kr) kr ?_
    refine oN (nT (vS (vS (vT (oR 2 [(17, iI f), (16, pO)] kr ?_)))))
    obtain ⟨y4, c4, hs⟩ := bS hs
    refine o_loc (F := [(1000000, .box 64 [.mp 1000001, .nils, .mp 3001500, iI y3.2.1, .bool true, iI 0, .vs 1 (mI y3.2.2)]), (1000001, (oF y3.1)), (3001500, (oS []))]) (F' := [(1000000, .box 64 [.mp 1000001, .nils, .mp 3001500, iI y4.2.1, .bool y4.2.2.1, iI y4.2.2.2.1, .vs 1 (mI y4.2.2.2.2)]), (1000001, (oF y3.1)), (3001500, (oS []))]) (v := iI y4.1) [1000000, 1000001, 3001500] kr kr rfl kr (loc_g (R := []) [pO, iI f] [(1000000, 1000000), (1000001, 1000001), (1000002, 3001500)] (callV_func hbv38 kr) (w_disk_Disk_may_2 y3.1 [] y3.2.1 true 0 y3.2.2 f _ c4) vw2 kr kr kr kr kr kr kr kr) kr ?_
    refine oR 1 [(7, iI y4.1)] kr ?_
    refine oN (nT (vS (vT (oR 2 [(20, .bool (!(decide (y4.1 = 0)))), (19, iI y4.1)] kr ?_))))
    refine oN (nT ?_)
    refine v_cond (!(decide (y4.1 = 0))) kr (fun h2 => ?_) (fun h2 => ?_)
    ·replace hs := bif_t h2 hs
     cases hs
    ·replace hs := bif_f h2 hs
     refine vK (nT (vS (vS ?_)))
     obtain ⟨z1, hs, hk1⟩ := bS hs
     refine v_join (S := Bool × Int × Bool × Int × (List Int)) (fun u => u = z1) (fun u => [(0, pO), (1, iI f), (2, iI size), (30, .bool u.1)]) (fun u => [(1000001, (oF y3.1)), (1000000, .box 64 [.mp 1000001, .nils, .mp 3001500, iI u.2.1, .bool u.2.2.1, iI u.2.2.2.1, .vs 1 (mI u.2.2.2.2)]), (3001500, (oS [])), (1000002, (oQ d_queue)), (1000003, (oS d_set))]) ?_ (fun v1 hz => ?_)
     ·refine vT (oR 3 [(24, .bool (decide (size < 0))), (23, .bool (decide (size < 0))), (22, iI size)] kr ?_)
      cases h3 : ((decide (size < 0)))
      ·replace hs := bif_f h3 hs
       refine oR 3 [(27, iI f), (26, pO), (25, iI size)] kr ?_
       obtain ⟨y5, c5, hs⟩ := bS hs
       refine o_loc (F := [(1000000, .box 64 [.mp 1000001, .nils, .mp 3001500, iI y4.2.1, .bool y4.2.2.1, iI y4.2.2.2.1, .vs 1 (mI y4.2.2.2.2)]), (1000001, (oF y3.1)), (3001500, (oS []))]) (F' := [(1000001, (oF y3.1)), (1000000, .box 64 [.mp 1000001, .nils, .mp 3001500, iI y5.2.1, .bool y5.2.2.1, iI y5.2.2.2.1, .vs 1 (mI y5.2.2.2.2)]), (3001500, (oS []))]) (v := iI y5.1) [1000000, 1000001, 3001500] kr kr rfl kr (loc_g (R := []) [pO, iI f] [(1000000, 1000000), (1000001, 1000001), (1000002, 3001500)] (callV_func hbv12 kr) (w_disk_Disk_Size_2 y3.1 [] y4.2.1 y4.2.2.1 y4.2.2.2.1 y4.2.2.2.2 f _ c5) vw2 kr kr kr kr kr kr kr kr) kr ?_
       refine oR 2 [(30, .bool (decide (size > y5.1))), (29, .bool (decide (size > y5.1)))] kr ?_
       refine oN ?_
       obtain rfl := si hs
       refine nrm_join ((decide (size > y5.1)), y5.2.1, y5.2.2.1, y5.2.2.2.1, y5.2.2.2.2) rfl ?_
       exact cut_of [0, 1, 2, 30] [1000001, 1000000, 3001500, 1000002, 1000003] kr kr kr
      ·replace hs := bif_t h3 hs
       refine oR 6 [(30, .bool true), (29, .no), (28, .no), (27, .no), (26, .no), (25, .no)] kr ?_
       refine oN ?_
       obtain rfl := si hs
       refine nrm_join (true, y4.2.1, y4.2.2.1, y4.2.2.2.1, y4.2.2.2.2) rfl ?_
       exact cut_of [0, 1, 2, 30] [1000001, 1000000, 3001500, 1000002, 1000003] kr kr kr
     ·subst hz; clear hs; have hs := hk1; clear hk1
      refine nT ?_
      refine v_cond v1.1 kr (fun h4 => ?_) (fun h4 => ?_)
      ·replace hs := bif_t h4 hs
       cases hs
      ·replace hs := bif_f h4 hs
       cases hs
  ·rename_i y2; replace hs := orO_some c2 hs
   refine o_loc (F := (dH (bD 1000002 ((d_queue).length) [iI y1.2.1, .bool y1.2.2.1, iI y1.2.2.2.1, .vs 1 (mI y1.2.2.2.2)]) d_files d_queue d_set)) (F' := (dH (bD 1000002 ((d_queue).length) [iI y2.1, .bool y2.2.1, iI y2.2.2.1, .vs 1 (mI y2.2.2.2)]) d_files d_queue d_set)) (v := .tup []) kD kr kr rfl kr (loc_g (R := []) [pO, .vs 1 (mI y1.2.2.2.2)] rD (callV_func hbv29 kr) (w_disk_Disk_Crash_n d_files d_queue d_set y1.2.1 y1.2.2.1 y1.2.2.2.1 y1.2.2.2.2 y1.2.2.2.2 _ c2) vw2 kr kr kr kr kr kr kr kr) kr ?_
   refine oN (nT (vS (vS (vT (oR 2 [(17, iI f), (16, pO)] kr ?_)))))
   obtain ⟨y7, c7, hs⟩ := bS hs
   refine o_loc (F := (dH (bD 1000002 ((d_queue).length) [iI y2.1, .bool y2.2.1, iI y2.2.2.1, .vs 1 (mI y2.2.2.2)]) d_files d_queue d_set)) (F' := (dH (bD 1000002 ((d_queue).length) [iI y7.2.1, .bool y7.2.2.1, iI y7.2.2.2.1, .vs 1 (mI y7.2.2.2.2)]) d_files d_queue d_set)) (v := iI y7.1) kD kr kr rfl kr (loc_g (R := []) [pO, iI f] rD (callV_func hbv38 kr) (w_disk_Disk_may d_files d_queue d_set y2.1 y2.2.1 y2.2.2.1 y2.2.2.2 f _ c7) vw2 kr kr kr kr kr kr kr kr) kr ?_
   refine oR 1 [(7, iI y7.1)] kr ?_
   refine oN (nT (vS (vT (oR 2 [(20, .bool (!(decide (y7.1 = 0)))), (19, iI y7.1)] kr ?_))))
   refine oN (nT ?_)
   refine v_cond (!(decide (y7.1 = 0))) kr (fun h5 => ?_) (fun h5 => ?_)
   ·replace hs := bif_t h5 hs
    refine vS (vT (oR 2 [(6, iI y7.1), (21, iI y7.1)] kr ?_))
    refine oN (nT (v_ret (rT ?_)))
    obtain rfl := si hs
    exact fin_ret kr kr kr
   ·replace hs := bif_f h5 hs
    refine vK (nT (vS (vS ?_)))
    obtain ⟨z2, hs, hk2⟩ := bS hs
    refine v_join (S := Bool × Int × Bool × Int × (List Int)) (fun u => u = z2) (fun u => [(0, pO), (1, iI f), (2, iI size), (30, .bool u.1)]) (fun u => [(1000001, (oF d_files)), (1000000, (bD 1000002 ((d_queue).length) [iI u.2.1, .bool u.2.2.1, iI u.2.2.2.1, .vs 1 (mI u.2.2.2.2)])), (1000002, (oQ d_queue)), (1000003, (oS d_set))]) ?_ (fun v2 hz => ?_)
    ·refine vT (oR 3 [(24, .bool (decide (size < 0))), (23, .bool (decide (size < 0))), (22, iI size)] kr ?_)
     cases h6 : ((decide (size < 0)))
     ·replace hs := bif_f h6 hs
      refine oR 3 [(27, iI f), (26, pO), (25, iI size)] kr ?_
      obtain ⟨y8, c8, hs⟩ := bS hs
      refine o_loc (F := (dH (bD 1000002 ((d_queue).length) [iI y7.2.1, .bool y7.2.2.1, iI y7.2.2.2.1, .vs 1 (mI y7.2.2.2.2)]) d_files d_queue d_set)) (F' := [(1000001, (oF d_files)), (1000000, (bD 1000002 ((d_queue).length) [iI y8.2.1, .bool y8.2.2.1, iI y8.2.2.2.1, .vs 1 (mI y8.2.2.2.2)])), (1000002, (oQ d_queue)), (1000003, (oS d_set))]) (v := iI y8.1) kD kr kr rfl kr (loc_g (R := []) [pO, iI f] rD (callV_func hbv12 kr) (w_disk_Disk_Size d_files d_queue d_set y7.2.1 y7.2.2.1 y7.2.2.2.1 y7.2.2.2.2 f _ c8) vw2 kr kr kr kr kr kr kr kr) kr ?_
      refine oR 2 [(30, .bool (decide (size > y8.1))), (29, .bool (decide (size > y8.1)))] kr ?_
      refine oN ?_
      obtain rfl := si hs
      refine nrm_join ((decide (size > y8.1)), y8.2.1, y8.2.2.1, y8.2.2.2.1, y8.2.2.2.2) rfl ?_
      exact cut_of [0, 1, 2, 30] [1000001, 1000000, 1000002, 1000003] kr kr kr
     ·replace hs := bif_t h6 hs
      refine oR 6 [(30, .bool true), (29, .no), (28, .no), (27, .no), (26, .no), (25, .no)] kr ?_
      refine oN ?_
      obtain rfl := si hs
      refine nrm_join (true, y7.2.1, y7.2.2.1, y7.2.2.2.1, y7.2.2.2.2) rfl ?_
      exact cut_of [0, 1, 2, 30] [1000001, 1000000, 1000002, 1000003] kr kr kr
    ·subst hz; clear hs; have hs := hk2; clear hk2
     refine nT ?_
     refine v_cond v2.1 kr (fun h7 => ?_) (fun h7 => ?_)
     ·replace hs := bif_t h7 hs
      refine vS (vT (oR 1 [(6, iI 1)] kr ?_))
      refine oN (nT (v_ret (rT ?_)))
      obtain rfl := si hs
      exact fin_ret kr kr kr
     ·replace hs := bif_f h7 hs
      cases hs
 ·replace hs := bif_f h1 hs
  refine vK (nT (vS (vS (vT (oR 2 [(17, iI f), (16, pO)] kr ?_)))))
  obtain ⟨y10, c10, hs⟩ := bS hs
  refine o_loc (F := (dH (bD 1000002 ((d_queue).length) [iI y1.2.1, .bool y1.2.2.1, iI y1.2.2.2.1, .vs 1 (mI y1.2.2.2.2)]) d_files d_queue d_set)) (F' := (dH (bD 1000002 ((d_queue).length) [iI y10.2.1, .bool y10.2.2.1, iI y10.2.2.2.1, .vs 1 (mI y10.2.2.2.2)]) d_files d_queue d_set)) (v := iI y10.1) kD kr kr rfl kr (loc_g (R := []) [pO, iI f] rD (callV_func hbv38 kr) (w_disk_Disk_may d_files d_queue d_set y1.2.1 y1.2.2.1 y1.2.2.2.1 y1.2.2.2.2 f _ c10) vw2 kr kr kr kr kr kr kr kr) kr ?_
  refine oR 1 [(7, iI y10.1)] kr ?_
  refine oN (nT (vS (vT (oR 2 [(20, .bool (!(decide (y10.1 = 0)))), (19, iI y10.1)] kr ?_))))
  refine oN (nT ?_)
  refine v_cond (!(decide (y10.1 = 0))) kr (fun h8 => ?_) (fun h8 => ?_)
  ·replace hs := bif_t h8 hs
   refine vS (vT (oR 2 [(6, iI y10.1), (21, iI y10.1)] kr ?_))
   refine oN (nT (v_ret (rT ?_)))
   obtain rfl := si hs
   exact fin_ret kr kr kr
  ·replace hs := bif_f h8 hs
   refine vK (nT (vS (vS ?_)))
   obtain ⟨z3, hs, hk3⟩ := bS hs
   refine v_join (S := Bool × Int × Bool × Int × (List Int)) (fun u => u = z3) (fun u => [(0, pO), (1, iI f), (2, iI size), (30, .bool u.1)]) (fun u => [(1000001, (oF d_files)), (1000000, (bD 1000002 ((d_queue).length) [iI u.2.1, .bool u.2.2.1, iI u.2.2.2.1, .vs 1 (mI u.2.2.2.2)])), (1000002, (oQ d_queue)), (1000003, (oS d_set))]) ?_ (fun v3 hz => ?_)
   ·refine vT (oR 3 [(24, .bool (decide (size < 0))), (23, .bool (decide (size < 0))), (22, iI size)] kr ?_)
    cases h9 : ((decide (size < 0)))
    ·replace hs := bif_f h9 hs
     refine oR 3 [(27, iI f), (26, pO), (25, iI size)] kr ?_
     obtain ⟨y11, c11, hs⟩ := bS hs
     refine o_loc (F := (dH (bD 1000002 ((d_queue).length) [iI y10.2.1, .bool y10.2.2.1, iI y10.2.2.2.1, .vs 1 (mI y10.2.2.2.2)]) d_files d_queue d_set)) (F' := [(1000001, (oF d_files)), (1000000, (bD 1000002 ((d_queue).length) [iI y11.2.1, .bool y11.2.2.1, iI y11.2.2.2.1, .vs 1 (mI y11.2.2.2.2)])), (1000002, (oQ d_queue)), (1000003, (oS d_set))]) (v := iI y11.1) kD kr kr rfl kr (loc_g (R := []) [pO, iI f] rD (callV_func hbv12 kr) (w_disk_Disk_Size d_files d_queue d_set y10.2.1 y10.2.2.1 y10.2.2.2.1 y10.2.2.2.2 f _ c11) vw2 kr kr kr kr kr kr kr kr) kr ?_
     refine oR 2 [(30, .bool (decide (size > y11.1))), (29, .bool (decide (size > y11.1)))] kr ?_
     refine oN ?_
     obtain rfl := si hs
     refine nrm_join ((decide (size > y11.1)), y11.2.1, y11.2.2.1, y11.2.2.2.1, y11.2.2.2.2) rfl ?_
     exact cut_of [0, 1, 2, 30] [1000001, 1000000, 1000002, 1000003] kr kr kr
    ·replace hs := bif_t h9 hs
     refine oR 6 [(30, .bool true), (29, .no), (28, .no), (27, .no), (26, .no), (25, .no)] kr ?_
     refine oN ?_
     obtain rfl := si hs
     refine nrm_join (true, y10.2.1, y10.2.2.1, y10.2.2.2.1, y10.2.2.2.2) rfl ?_
     exact cut_of [0, 1, 2, 30] [1000001, 1000000, 1000002, 1000003] kr kr kr
   ·subst hz; clear hs; have hs := hk3; clear hk3
    refine nT ?_
    refine v_cond v3.1 kr (fun h10 => ?_) (fun h10 => ?_)
    ·replace hs := bif_t h10 hs
     refine vS (vT (oR 1 [(6, iI 1)] kr ?_))
     refine oN (nT (v_ret (rT ?_)))
     obtain rfl := si hs
     exact fin_ret kr kr kr
    ·replace hs := bif_f h10 hs
     cases hs
theorem w_disk_Disk_Truncate_s (d_files : (List (Int × disk_file))) (d_queue : (List disk_sector)) (d_set : (List (disk_sector × Bool))) (d_lost : Int) (d_down : Bool) (d_armed : Int) (d_keep : (List Int)) (f : Int) (size : Int) (r : (List (disk_sector × Bool)) × (List disk_sector) × (List (Int × disk_file)) × Int × Bool × Int × (List Int)) (hs : s_disk_Disk_Truncate_s d_files d_queue d_set d_lost d_down d_armed d_keep f size = some r) : FnA Tryd.prog 36 [pO, iI f, iI size] (dH (bD 1000002 ((d_queue).length) [iI d_lost, .bool d_down, iI d_armed, .vs 1 (mI d_keep)]) d_files d_queue d_set) (iI 0) [(1000003, (oS r.1)), (3004200, (oQ r.2.1)), (1000002, .gen gone), (1000001, (oF r.2.2.1)), (1000000, (bD 3004200 ((r.2.1).length) [iI r.2.2.2.1, .bool r.2.2.2.2.1, iI r.2.2.2.2.2.1, .vs 1 (mI r.2.2.2.2.2.2)]))] := by
 refine fnA_of_wp (N := 43) Tryd.func36 rfl rfl rfl fun cK0 => ?_
 unfold s_disk_Disk_Truncate_s at hs
 refine v_same (ρ' := [(0, pO), (1, iI f), (2, iI size)]) rfl rfl ?_
 refine vS (vT (oR 1 [(6, iI 0)] kr ?_))
 refine oN (nT (vS (vS (vT (oR 1 [(8, pO)] kr ?_)))))
 obtain ⟨y1, c1, hs⟩ := bS hs
 refine o_loc (F := (dH (bD 1000002 ((d_queue).length) [iI d_lost, .bool d_down, iI d_armed, .vs 1 (mI d_keep)]) d_files d_queue d_set)) (F' := (dH (bD 1000002 ((d_queue).length) [iI y1.2.1, .bool y1.2.2.1, iI y1.2.2.2.1, .vs 1 (mI y1.2.2.2.2)]) d_files d_queue d_set)) (v := .bool y1.1) kD kr kr rfl kr (loc_g (R := []) [pO] rD (callV_func hbv39 kr) (w_disk_Disk_ends d_files d_queue d_set d_lost d_down d_armed d_keep _ c1) (.cons (.same _) (.nil)) kr kr kr kr kr kr kr kr) kr ?_
 refine oN (nT ?_)
 refine v_cond y1.1 kr (fun h1 => ?_) (fun h1 => ?_)
 ·replace hs := bif_t h1 hs
  refine vT (oR 5 [(14, .vs 1 (mI y1.2.2.2.2)), (13, .ptr 1000000 0 6), (12, pO), (11, pO), (10, pO)] kr ?_)
  cases c2 : (s_disk_Disk_Crash_n d_files d_queue d_set y1.2.1 y1.2.2.1 y1.2.2.2.1 y1.2.2.2.2 y1.2.2.2.2)
  ·replace hs := orO_none c2 hs
   cases c3 : (s_disk_Disk_Crash_x d_files d_queue d_set y1.2.1 y1.2.2.1 y1.2.2.2.1 y1.2.2.2.2 y1.2.2.2.2)
   ·replace hs := orO_none c3 hs
    cases hs
   ·rename_i y3; replace hs := orO_some c3 hs
    refine o_loc (F := (dH (bD 1000002 ((d_queue).length) [iI y1.2.1, .bool y1.2.2.1, iI y1.2.2.2.1, .vs 1 (mI y1.2.2.2.2)]) d_files d_queue d_set)) (F' := [(3001500, (oS [])), (1000001, (oF y3.1)), (1000000, .box 64 [.mp 1000001, .nils, .mp 3001500, iI y3.2.1, .bool true, iI 0, .vs 1 (mI y3.2.2)]), (1000002, (oQ d_queue)), (1000003, (oS d_set))]) (v := .tup []) kD kr kr rfl kr (loc_g (R := []) [pO, .vs 1 (mI y1.2.2.2.2)] [(1000000, 1000000), (1000001, 1000001), (1000002, 1000002), (1000003, 1000003), (106, 3001500)] (callV_func hbv29 kr) (w_disk_Disk_Crash_x d_files d_queue d_set y1.2.1 y1.2.2.1 y1.2.2.2.1 y1.2.2.2.2 y1.2.2.2.2 _ c3) vw2 kr kr kr kr kr kr kr kr) kr ?_
    refine oN (nT (vS (vS (vT (oR 2 [(17, iI f), (16, pO)] kr ?_)))))
    obtain ⟨y4, c4, hs⟩ := bS hs
    refine o_loc (F := [(1000000, .box 64 [.mp 1000001, .nils, .mp 3001500, iI y3.2.1, .bool true, iI 0, .vs 1 (mI y3.2.2)]), (1000001, (oF y3.1)), (3001500, (oS []))]) (F' := [(1000000, .box 64 [.mp 1000001, .nils, .mp 3001500, iI y4.2.1, .bool y4.2.2.1, iI y4.2.2.2.1, .vs 1 (mI y4.2.2.2.2)]), (1000001, (oF y3.1)), (3001500, (oS []))]) (v := iI y4.1) [1000000, 1000001, 3001500] kr kr rfl kr (loc_g (R := []) [pO, iI f] [(1000000, 1000000), (1000001, 1000001), (1000002, 3001500)] (callV_func hbv38 kr) (w_disk_Disk_may_2 y3.1 [] y3.2.1 true 0 y3.2.2 f _ c4) vw2 kr kr kr kr kr kr kr kr) kr ?_
    refine oR 1 [(7, iI y4.1)] kr ?_
    refine oN (nT (vS (vT (oR 2 [(20, .bool (!(decide (y4.1 = 0)))), (19, iI y4.1)] kr ?_))))
    refine oN (nT ?_)
    refine v_cond (!(decide (y4.1 = 0))) kr (fun h2 => ?_) (fun h2 => ?_)
    ·replace hs := bif_t h2 hs
     cases hs
    ·replace hs := bif_f h2 hs
     refine vK (nT (vS (vS ?_)))
     obtain ⟨z1, hs, hk1⟩ := bS hs
     refine v_join (S := Bool × Int × Bool × Int × (List Int)) (fun u => u = z1) (fun u => [(0, pO), (1, iI f), (2, iI size), (30, .bool u.1)]) (fun u => [(1000001, (oF y3.1)), (1000000, .box 64 [.mp 1000001, .nils, .mp 3001500, iI u.2.1, .bool u.2.2.1, iI u.2.2.2.1, .vs 1 (mI u.2.2.2.2)]), (3001500, (oS [])), (1000002, (oQ d_queue)), (1000003, (oS d_set))]) ?_ (fun v1 hz => ?_)
     ·refine vT (oR 3 [(24, .bool (decide (size < 0))), (23, .bool (decide (size < 0))), (22, iI size)] kr ?_)
      cases h3 : ((decide (size < 0)))
      ·replace hs := bif_f h3 hs
       refine oR 3 [(27, iI f), (26, pO), (25, iI size)] kr ?_
       obtain ⟨y5, c5, hs⟩ := bS hs
       refine o_loc (F := [(1000000, .box 64 [.mp 1000001, .nils, .mp 3001500, iI y4.2.1, .bool y4.2.2.1, iI y4.2.2.2.1, .vs 1 (mI y4.2.2.2.2)]), (1000001, (oF y3.1)), (3001500, (oS []))]) (F' := [(1000001, (oF y3.1)), (1000000, .box 64 [.mp 1000001, .nils, .mp 3001500, iI y5.2.1, .bool y5.2.2.1, iI y5.2.2.2.1, .vs 1 (mI y5.2.2.2.2)]), (3001500, (oS []))]) (v := iI y5.1) [1000000, 1000001, 3001500] kr kr rfl kr (loc_g (R := []) [pO, iI f] [(1000000, 1000000), (1000001, 1000001), (1000002, 3001500)] (callV_func hbv12 kr) (w_disk_Disk_Size_2 y3.1 [] y4.2.1 y4.2.2.1 y4.2.2.2.1 y4.2.2.2.2 f _ c5) vw2 kr kr kr kr kr kr kr kr) kr ?_
       refine oR 2 [(30, .bool (decide (size > y5.1))), (29, .bool (decide (size > y5.1)))] kr ?_
       refine oN ?_
       obtain rfl := si hs
       refine nrm_join ((decide (size > y5.1)), y5.2.1, y5.2.2.1, y5.2.2.2.1, y5.2.2.2.2) rfl ?_
       exact cut_of [0, 1, 2, 30] [1000001, 1000000, 3001500, 1000002, 1000003] kr kr kr
      ·replace hs := bif_t h3 hs
       refine oR 6 [(30, .bool true), (29, .no), (28, .no), (27, .no), (26, .no), (25, .no)] kr ?_
       refine oN ?_
       obtain rfl := si hs
       refine nrm_join (true, y4.2.1, y4.2.2.1, y4.2.2.2.1, y4.2.2.2.2) rfl ?_
       exact cut_of [0, 1, 2, 30] [1000001, 1000000, 3001500, 1000002, 1000003] kr kr kr
     ·subst hz; clear hs; have hs := hk1; clear hk1
      refine nT ?_
      refine v_cond v1.1 kr (fun h4 => ?_) (fun h4 => ?_)
      ·replace hs := bif_t h4 hs
       cases hs
      ·replace hs := bif_f h4 hs
       cases hs
  ·rename_i y2; replace hs := orO_some c2 hs
   refine o_loc (F := (dH (bD 1000002 ((d_queue).length) [iI y1.2.1, .bool y1.2.2.1, iI y1.2.2.2.1, .vs 1 (mI y1.2.2.2.2)]) d_files d_queue d_set)) (F' := (dH (bD 1000002 ((d_queue).length) [iI y2.1, .bool y2.2.1, iI y2.2.2.1, .vs 1 (mI y2.2.2.2)]) d_files d_queue d_set)) (v := .tup []) kD kr kr rfl kr (loc_g (R := []) [pO, .vs 1 (mI y1.2.2.2.2)] rD (callV_func hbv29 kr) (w_disk_Disk_Crash_n d_files d_queue d_set y1.2.1 y1.2.2.1 y1.2.2.2.1 y1.2.2.2.2 y1.2.2.2.2 _ c2) vw2 kr kr kr kr kr kr kr kr) kr ?_
   refine oN (nT (vS (vS (vT (oR 2 [(17, iI f), (16, pO)] kr ?_)))))
   obtain ⟨y7, c7, hs⟩ := bS hs
   refine o_loc (F := (dH (bD 1000002 ((d_queue).length) [iI y2.1, .bool y2.2.1, iI y2.2.2.1, .vs 1 (mI y2.2.2.2)]) d_files d_queue d_set)) (F' := (dH (bD 1000002 ((d_queue).length) [iI y7.2.1, .bool y7.2.2.1, iI y7.2.2.2.1, .vs 1 (mI y7.2.2.2.2)]) d_files d_queue d_set)) (v := iI y7.1) kD kr kr rfl kr (loc_g (R := []) [pO, iI f] rD (callV_func hbv38 kr) (w_disk_Disk_may d_files d_queue d_set y2.1 y2.2.1 y2.2.2.1 y2.2.2.2 f _ c7) vw2 kr kr kr kr kr kr kr kr) kr ?_
   refine oR 1 [(7, iI y7.1)] kr ?_
   refine oN (nT (vS (vT (oR 2 [(20, .bool (!(decide (y7.1 = 0)))), (19, iI y7.1)] kr ?_))))
   refine oN (nT ?_)
   refine v_cond (!(decide (y7.1 = 0))) kr (fun h5 => ?_) (fun h5 => ?_)
   ·replace hs := bif_t h5 hs
    cases hs
   ·replace hs := bif_f h5 hs
    refine vK (nT (vS (vS ?_)))
    obtain ⟨z2, hs, hk2⟩ := bS hs
    refine v_join (S := Bool × Int × Bool × Int × (List Int)) (fun u => u = z2) (fun u => [(0, pO), (1, iI f), (2, iI size), (30, .bool u.1)]) (fun u => [(1000001, (oF d_files)), (1000000, (bD 1000002 ((d_queue).length) [iI u.2.1, .bool u.2.2.1, iI u.2.2.2.1, .vs 1 (mI u.2.2.2.2)])), (1000002, (oQ d_queue)), (1000003, (oS d_set))]) ?_ (fun v2 hz => ?_)
    ·refine vT (oR 3 [(24, .bool (decide (size < 0))), (23, .bool (decide (size < 0))), (22, iI size)] kr ?_)
     cases h6 : ((decide (size < 0)))
     ·replace hs := bif_f h6 hs
      refine oR 3 [(27, iI f), (26, pO), (25, iI size)] kr ?_
      obtain ⟨y8, c8, hs⟩ := bS hs
      refine o_loc (F := (dH (bD 1000002 ((d_queue).length) [iI y7.2.1, .bool y7.2.2.1, iI y7.2.2.2.1, .vs 1 (mI y7.2.2.2.2)]) d_files d_queue d_set)) (F' := [(1000001, (oF d_files)), (1000000, (bD 1000002 ((d_queue).length) [iI y8.2.1, .bool y8.2.2.1, iI y8.2.2.2.1, .vs 1 (mI y8.2.2.2.2)])), (1000002, (oQ d_queue)), (1000003, (oS d_set))]) (v := iI y8.1) kD kr kr rfl kr (loc_g (R := []) [pO, iI f] rD (callV_func hbv12 kr) (w_disk_Disk_Size d_files d_queue d_set y7.2.1 y7.2.2.1 y7.2.2.2.1 y7.2.2.2.2 f _ c8) vw2 kr kr kr kr kr kr kr kr) kr ?_
      refine oR 2 [(30, .bool (decide (size > y8.1))), (29, .bool (decide (size > y8.1)))] kr ?_
      refine oN ?_
      obtain rfl := si hs
      refine nrm_join ((decide (size > y8.1)), y8.2.1, y8.2.2.1, y8.2.2.2.1, y8.2.2.2.2) rfl ?_
      exact cut_of [0, 1, 2, 30] [1000001, 1000000, 1000002, 1000003] kr kr kr
     ·replace hs := bif_t h6 hs
      refine oR 6 [(30, .bool true), (29, .no), (28, .no), (27, .no), (26, .no), (25, .no)] kr ?_
      refine oN ?_
      obtain rfl := si hs
      refine nrm_join (true, y7.2.1, y7.2.2.1, y7.2.2.2.1, y7.2.2.2.2) rfl ?_
      exact cut_of [0, 1, 2, 30] [1000001, 1000000, 1000002, 1000003] kr kr kr
    ·subst hz; clear hs; have hs := hk2; clear hk2
     refine nT ?_
     refine v_cond v2.1 kr (fun h7 => ?_) (fun h7 => ?_)
     ·replace hs := bif_t h7 hs
      cases hs
     ·replace hs := bif_f h7 hs
      refine vK (nT (vS (vT (oR 7 [(37, iI f), (36, .mp 1000001), (35, pO), (34, pO), (33, pO), (32, iI f), (31, pO)] kr ?_))))
      refine o_loc (F := [(1000001, (oF d_files))]) (F' := [(1000001, (oF d_files))]) (v := .agg (enc_disk_file (Option.getD (mfind f d_files) (disk_file.mk [] [])))) [1000001] kr kr rfl kr (loc_lookup (et := 72) (f := (V.int .i64)) (g := (fun e => V.agg (enc_disk_file e))) (l := d_files) (a := f) (z := (disk_file.mk [] [])) (zv := .agg [.str [], .str []]) false kr kok3 kr (fun _ _ _ h => h) kr kr) kr ?_
      refine oR 2 [(40, iI size), (39, .str ((Option.getD (mfind f d_files) (disk_file.mk [] [])).now))] kr ?_
      obtain ⟨x2, g2, hs⟩ := bS hs; obtain ⟨g2a, g2b, g2c, g2d⟩ := cut_some g2
      refine oP (v := .str x2) kr kr (by rw [g2d]; exact loc_sliceStr (s := (Option.getD (mfind f d_files) (disk_file.mk [] [])).now) (l := 0) (h := size) kr kr rfl ⟨.i64, by kernel_rfl⟩ g2a g2b g2c) ?_
      obtain ⟨y9, c9, hs⟩ := bS hs
      refine o_loc (F := (dH (bD 1000002 ((d_queue).length) [iI v2.2.1, .bool v2.2.2.1, iI v2.2.2.2.1, .vs 1 (mI v2.2.2.2.2)]) d_files d_queue d_set)) (F' := [(1000003, (oS y9.1)), (3004200, (oQ y9.2.1)), (1000002, .gen gone), (1000001, (oF y9.2.2.1)), (1000000, (bD 3004200 ((y9.2.1).length) [iI y9.2.2.2.1, .bool y9.2.2.2.2.1, iI y9.2.2.2.2.2.1, .vs 1 (mI y9.2.2.2.2.2.2)]))]) (v := .tup []) kD kr kr rfl kr (loc_g (R := []) [pO, iI f, .str x2] [(1000000, 1000000), (1000001, 1000001), (1000002, 1000002), (1000003, 1000003), (3002000, 3004200)] (callV_func hbv48 kr) (w_disk_Disk_settle_2 d_files d_queue d_set v2.2.1 v2.2.2.1 v2.2.2.2.1 v2.2.2.2.2 f x2 _ c9) vw3 kr kr kr kr kr kr kr kr) kr ?_
      refine oN (nT (vS (vT (oR 1 [(6, iI 0)] kr ?_))))
      refine oN (nT (v_ret ?_))
      obtain rfl := si hs
      exact fin_ret kr kr kr
 ·replace hs := bif_f h1 hs
  refine vK (nT (vS (vS (vT (oR 2 [(17, iI f), (16, pO)] kr ?_)))))
  obtain ⟨y10, c10, hs⟩ := bS hs
  refine o_loc (F := (dH (bD 1000002 ((d_queue).length) [iI y1.2.1, .bool y1.2.2.1, iI y1.2.2.2.1, .vs 1 (mI y1.2.2.2.2)]) d_files d_queue d_set)) (F' := (dH (bD 1000002 ((d_queue).length) [iI y10.2.1, .bool y10.2.2.1, iI y10.2.2.2.1, .vs 1 (mI y10.2.2.2.2)]) d_files d_queue d_set)) (v := iI y10.1) kD kr kr rfl kr (loc_g (R := []) [pO, iI f] rD (callV_func hbv38 kr) (w_disk_Disk_may d_files d_queue d_set y1.2.1 y1.2.2.1 y1.2.2.2.1 y1.2.2.2.2 f _ c10) vw2 kr kr kr kr kr kr kr kr) kr ?_
  refine oR 1 [(7, iI y10.1)] kr ?_
  refine oN (nT (vS (vT (oR 2 [(20, .bool (!(decide (y10.1 = 0)))), (19, iI y10.1)] kr ?_))))
  refine oN (nT ?_)
  refine v_cond (!(decide (y10.1 = 0))) kr (fun h8 => ?_) (fun h8 => ?_)
  ·replace hs := bif_t h8 hs
   cases hs
  ·replace hs := bif_f h8 hs
   refine vK (nT (vS (vS ?_)))
   obtain ⟨z3, hs, hk3⟩ := bS hs
   refine v_join (S := Bool × Int × Bool × Int × (List Int)) (fun u => u = z3) (fun u => [(0, pO), (1, iI f), (2, iI size), (30, .bool u.1)]) (fun u => [(1000001, (oF d_files)), (1000000, (bD 1000002 ((d_queue).length) [iI u.2.1, .bool u.2.2.1, iI u.2.2.2.1, .vs 1 (mI u.2.2.2.2)])), (1000002, (oQ d_queue)), (1000003, (oS d_set))]) ?_ (fun v3 hz => ?_)
   ·refine vT (oR 3 [(24, .bool (decide (size < 0))), (23, .bool (decide (size < 0))), (22, iI size)] kr ?_)
    cases h9 : ((decide (size < 0)))
    ·replace hs := bif_f h9 hs
     refine oR 3 [(27, iI f), (26, pO), (25, iI size)] kr ?_
     obtain ⟨y11, c11, hs⟩ := bS hs
     refine o_loc (F := (dH (bD 1000002 ((d_queue).length) [iI y10.2.1, .bool y10.2.2.1, iI y10.2.2.2.1, .vs 1 (mI y10.2.2.2.2)]) d_files d_queue d_set)) (F' := [(1000001, (oF d_files)), (1000000, (bD 1000002 ((d_queue).length) [iI y11.2.1, .bool y11.2.2.1, iI y11.2.2.2.1, .vs 1 (mI y11.2.2.2.2)])), (1000002, (oQ d_queue)), (1000003, (oS d_set))]) (v := iI y11.1) kD kr kr rfl kr (loc_g (R := []) [pO, iI f] rD (callV_func hbv12 kr) (w_disk_Disk_Size d_files d_queue d_set y10.2.1 y10.2.2.1 y10.2.2.2.1 y10.2.2.2.2 f _ c11) vw2 kr kr kr kr kr kr kr kr) kr ?_
     refine oR 2 [(30, .bool (decide (size > y11.1))), (29, .bool (decide (size > y11.1)))] kr ?_
     refine oN ?_
     obtain rfl := si hs
     refine nrm_join ((decide (size > y11.1)), y11.2.1, y11.2.2.1, y11.2.2.2.1, y11.2.2.2.2) rfl ?_
     exact cut_of [0, 1, 2, 30] [1000001, 1000000, 1000002, 1000003] kr kr kr
    ·replace hs := bif_t h9 hs
     refine oR 6 [(30, .bool true), (29, .no), (28, .no), (27, .no), (26, .no), (25, .no)] kr ?_
     refine oN ?_
     obtain rfl := si hs
     refine nrm_join (true, y10.2.1, y10.2.2.1, y10.2.2.2.1, y10.2.2.2.2) rfl ?_
     exact cut_of [0, 1, 2, 30] [1000001, 1000000, 1000002, 1000003] kr kr kr
   ·subst hz; clear hs; have hs := hk3; clear hk3
    refine nT ?_
    refine v_cond v3.1 kr (fun h10 => ?_) (fun h10 => ?_)
    ·replace hs := bif_t h10 hs
     cases hs
    ·replace hs := bif_f h10 hs
     refine vK (nT (vS (vT (oR 7 [(37, iI f), (36, .mp 1000001), (35, pO), (34, pO), (33, pO), (32, iI f), (31, pO)] kr ?_))))
     refine o_loc (F := [(1000001, (oF d_files))]) (F' := [(1000001, (oF d_files))]) (v := .agg (enc_disk_file (Option.getD (mfind f d_files) (disk_file.mk [] [])))) [1000001] kr kr rfl kr (loc_lookup (et := 72) (f := (V.int .i64)) (g := (fun e => V.agg (enc_disk_file e))) (l := d_files) (a := f) (z := (disk_file.mk [] [])) (zv := .agg [.str [], .str []]) false kr kok3 kr (fun _ _ _ h => h) kr kr) kr ?_
     refine oR 2 [(40, iI size), (39, .str ((Option.getD (mfind f d_files) (disk_file.mk [] [])).now))] kr ?_
     obtain ⟨x3, g3, hs⟩ := bS hs; obtain ⟨g3a, g3b, g3c, g3d⟩ := cut_some g3
     refine oP (v := .str x3) kr kr (by rw [g3d]; exact loc_sliceStr (s := (Option.getD (mfind f d_files) (disk_file.mk [] [])).now) (l := 0) (h := size) kr kr rfl ⟨.i64, by kernel_rfl⟩ g3a g3b g3c) ?_
     obtain ⟨y12, c12, hs⟩ := bS hs
     refine o_loc (F := (dH (bD 1000002 ((d_queue).length) [iI v3.2.1, .bool v3.2.2.1, iI v3.2.2.2.1, .vs 1 (mI v3.2.2.2.2)]) d_files d_queue d_set)) (F' := [(1000003, (oS y12.1)), (3004200, (oQ y12.2.1)), (1000002, .gen gone), (1000001, (oF y12.2.2.1)), (1000000, (bD 3004200 ((y12.2.1).length) [iI y12.2.2.2.1, .bool y12.2.2.2.2.1, iI y12.2.2.2.2.2.1, .vs 1 (mI y12.2.2.2.2.2.2)]))]) (v := .tup []) kD kr kr rfl kr (loc_g (R := []) [pO, iI f, .str x3] [(1000000, 1000000), (1000001, 1000001), (1000002, 1000002), (1000003, 1000003), (3002000, 3004200)] (callV_func hbv48 kr) (w_disk_Disk_settle_2 d_files d_queue d_set v3.2.1 v3.2.2.1 v3.2.2.2.1 v3.2.2.2.2 f x3 _ c12) vw3 kr kr kr kr kr kr kr kr) kr ?_
     refine oN (nT (vS (vT (oR 1 [(6, iI 0)] kr ?_))))
     refine oN (nT (v_ret ?_))
     obtain rfl := si hs
     exact fin_ret kr kr kr
theorem w_disk_Disk_Truncate_x (d_files : (List (Int × disk_file))) (d_queue : (List disk_sector)) (d_set : (List (disk_sector × Bool))) (d_lost : Int) (d_down : Bool) (d_armed : Int) (d_keep : (List Int)) (f : Int) (size : Int) (r : Int × Int × Bool × Int × (List Int) × (List (Int × disk_file))) (hs : s_disk_Disk_Truncate_x d_files d_queue d_set d_lost d_down d_armed d_keep f size = some r) : FnA Tryd.prog 36 [pO, iI f, iI size] (dH (bD 1000002 ((d_queue).length) [iI d_lost, .bool d_down, iI d_armed, .vs 1 (mI d_keep)]) d_files d_queue d_set) (iI r.1) [(1000000, .box 64 [.mp 1000001, .nils, .mp 3001500, iI r.2.1, .bool r.2.2.1, iI r.2.2.2.1, .vs 1 (mI r.2.2.2.2.1)]), (1000001, (oF r.2.2.2.2.2)), (3001500, (oS [])), (1000002, (oQ d_queue)), (1000003, (oS d_set))] := by
 refine fnA_of_wp (N := 43) Tryd.func36 rfl rfl rfl fun cK0 => ?_
 unfold s_disk_Disk_Truncate_x at hs
 refine v_same (ρ' := [(0, pO), (1, iI f), (2, iI size)]) rfl rfl ?_
 refine vS (vT (oR 1 [(6, iI 0)] kr ?_))
 refine oN (nT (vS (vS (vT (oR 1 [(8, pO)] kr ?_)))))
 obtain ⟨y1, c1, hs⟩ := bS hs
 refine o_loc (F := (dH (bD 1000002 ((d_queue).length) [iI d_lost, .bool d_down, iI d_armed, .vs 1 (mI d_keep)]) d_files d_queue d_set)) (F' := (dH (bD 1000002 ((d_queue).length) [iI y1.2.1, .bool y1.2.2.1, iI y1.2.2.2.1, .vs 1 (mI y1.2.2.2.2)]) d_files d_queue d_set)) (v := .bool y1.1) kD kr kr rfl kr (loc_g (R := []) [pO] rD (callV_func hbv39 kr) (w_disk_Disk_ends d_files d_queue d_set d_lost d_down d_armed d_keep _ c1) (.cons (.same _) (.nil)) kr kr kr kr kr kr kr kr) kr ?_
 refine oN (nT ?_)
 refine v_cond y1.1 kr (fun h1 => ?_) (fun h1 => ?_)
 ·replace hs := bif_t h1 hs
  refine vT (oR 5 [(14, .vs 1 (mI y1.2.2.2.2)), (13, .ptr 1000000 0 6), (12, pO), (11, pO), (10, pO)] kr ?_)
  cases c2 : (s_disk_Disk_Crash_n d_files d_queue d_set y1.2.1 y1.2.2.1 y1.2.2.2.1 y1.2.2.2.2 y1.2.2.2.2)
  ·replace hs := orO_none c2 hs
   cases c3 : (s_disk_Disk_Crash_x d_files d_queue d_set y1.2.1 y1.2.2.1 y1.2.2.2.1 y1.2.2.2.2 y1.2.2.2.2)
   ·replace hs := orO_none c3 hs
    cases hs
   ·rename_i y3; replace hs := orO_some c3 hs
    refine o_loc (F := (dH (bD 1000002 ((d_queue).length) [iI y1.2.1, .bool y1.2.2.1, iI y1.2.2.2.1, .vs 1 (mI y1.2.2.2.2)]) d_files d_queue d_set)) (F' := [(3001500, (oS [])), (1000001, (oF y3.1)), (1000000, .box 64 [.mp 1000001, .nils, .mp 3001500, iI y3.2.1, .bool true, iI 0, .vs 1 (mI y3.2.2)]), (1000002, (oQ d_queue)), (1000003, (oS d_set))]) (v := .tup []) kD kr kr rfl kr (loc_g (R := []) [pO, .vs 1 (mI y1.2.2.2.2)] [(1000000, 1000000), (1000001, 1000001), (1000002, 1000002), (1000003, 1000003), (106, 3001500)] (callV_func hbv29 kr) (w_disk_Disk_Crash_x d_files d_queue d_set y1.2.1 y1.2.2.1 y1.2.2.2.1 y1.2.2.2.2 y1.2.2.2.2 _ c3) vw2 kr kr kr kr kr kr kr kr) kr ?_
    refine oN (nT (vS (vS (vT (oR 2 [(17, iI f), (16, pO)] kr ?_)))))
    obtain ⟨y4, c4, hs⟩ := bS hs
    refine o_loc (F := [(1000000, .box 64 [.mp 1000001, .nils, .mp 3001500, iI y3.2.1, .bool true, iI 0, .vs 1 (mI y3.2.2)]), (1000001, (oF y3.1)), (3001500, (oS []))]) (F' := [(1000000, .box 64 [.mp 1000001, .nils, .mp 3001500, iI y4.2.1, .bool y4.2.2.1, iI y4.2.2.2.1, .vs 1 (mI y4.2.2.2.2)]), (1000001, (oF y3.1)), (3001500, (oS []))]) (v := iI y4.1) [1000000, 1000001, 3001500] kr kr rfl kr (loc_g (R := []) [pO, iI f] [(1000000, 1000000), (1000001, 1000001), (1000002, 3001500)] (callV_func hbv38 kr) (w_disk_Disk_may_2 y3.1 [] y3.2.1 true 0 y3.2.2 f _ c4) vw2 kr kr kr kr kr kr kr kr) kr ?_
    refine oR 1 [(7, iI y4.1)] kr ?_
    refine oN (nT (vS (vT (oR 2 [(20, .bool (!(decide (y4.1 = 0)))), (19, iI y4.1)] kr ?_))))
    refine oN (nT ?_)
    refine v_cond (!(decide (y4.1 = 0))) kr (fun h2 => ?_) (fun h2 => ?_)
    ·replace hs := bif_t h2 hs
     refine vS (vT (oR 2 [(6, iI y4.1), (21, iI y4.1)] kr ?_))
     refine oN (nT (v_ret (rT ?_)))
     obtain rfl := si hs
     exact fin_ret kr kr kr
    ·replace hs := bif_f h2 hs
     refine vK (nT (vS (vS ?_)))
     obtain ⟨z1, hs, hk1⟩ := bS hs
     refine v_join (S := Bool × Int × Bool × Int × (List Int)) (fun u => u = z1) (fun u => [(0, pO), (1, iI f), (2, iI size), (30, .bool u.1)]) (fun u => [(1000001, (oF y3.1)), (1000000, .box 64 [.mp 1000001, .nils, .mp 3001500, iI u.2.1, .bool u.2.2.1, iI u.2.2.2.1, .vs 1 (mI u.2.2.2.2)]), (3001500, (oS [])), (1000002, (oQ d_queue)), (1000003, (oS d_set))]) ?_ (fun v1 hz => ?_)
     ·refine vT (oR 3 [(24, .bool (decide (size < 0))), (23, .bool (decide (size < 0))), (22, iI size)] kr ?_)
      cases h3 : ((decide (size < 0)))
      ·replace hs := bif_f h3 hs
       refine oR 3 [(27, iI f), (26, pO), (25, iI size)] kr ?_
       obtain ⟨y5, c5, hs⟩ := bS hs
       refine o_loc (F := [(1000000, .box 64 [.mp 1000001, .nils, .mp 3001500, iI y4.2.1, .bool y4.2.2.1, iI y4.2.2.2.1, .vs 1 (mI y4.2.2.2.2)]), (1000001, (oF y3.1)), (3001500, (oS []))]) (F' := [(1000001, (oF y3.1)), (1000000, .box 64 [.mp 1000001, .nils, .mp 3001500, iI y5.2.1, .bool y5.2.2.1, iI y5.2.2.2.1, .vs 1 (mI y5.2.2.2.2)]), (3001500, (oS []))]) (v := iI y5.1) [1000000, 1000001, 3001500] kr kr rfl kr (loc_g (R := []) [pO, iI f] [(1000000, 1000000), (1000001, 1000001), (1000002, 3001500)] (callV_func hbv12 kr) (w_disk_Disk_Size_2 y3.1 [] y4.2.1 y4.2.2.1 y4.2.2.2.1 y4.2.2.2.2 f _ c5) vw2 kr kr kr kr kr kr kr kr) kr ?_
       refine oR 2 [(30, .bool (decide (size > y5.1))), (29, .bool (decide (size > y5.1)))] kr ?_
       refine oN ?_
       obtain rfl := si hs
       refine nrm_join ((decide (size > y5.1)), y5.2.1, y5.2.2.1, y5.2.2.2.1, y5.2.2.2.2) rfl ?_
       exact cut_of [0, 1, 2, 30] [1000001, 1000000, 3001500, 1000002, 1000003] kr kr kr
      ·replace hs := bif_t h3 hs
       refine oR 6 [(30, .bool true), (29, .no), (28, .no), (27, .no), (26, .no), (25, .no)] kr ?_
       refine oN ?_
       obtain rfl := si hs
       refine nrm_join (true, y4.2.1, y4.2.2.1, y4.2.2.2.1, y4.2.2.2.2) rfl ?_
       exact cut_of [0, 1, 2, 30] [1000001, 1000000, 3001500, 1000002, 1000003] kr kr kr
     ·subst hz; clear hs; have hs := hk1; clear hk1
      refine nT ?_
      refine v_cond v1.1 kr (fun h4 => ?_) (fun h4 => ?_)
      ·replace hs := bif_t h4 hs
       refine vS (vT (oR 1 [(6, iI 1)] kr ?_))
       refine oN (nT (v_ret (rT ?_)))
       obtain rfl := si hs
       exact fin_ret kr kr kr
      ·replace hs := bif_f h4 hs
       cases hs
  ·rename_i y2; replace hs := orO_some c2 hs
   refine o_loc (F := (dH (bD 1000002 ((d_queue).length) [iI y1.2.1, .bool y1.2.2.1, iI y1.2.2.2.1, .vs 1 (mI y1.2.2.2.2)]) d_files d_queue d_set)) (F' := (dH (bD 1000002 ((d_queue).length) [iI y2.1, .bool y2.2.1, iI y2.2.2.1, .vs 1 (mI y2.2.2.2)]) d_files d_queue d_set)) (v := .tup []) kD kr kr rfl kr (loc_g (R := []) [pO, .vs 1 (mI y1.2.2.2.2)] rD (callV_func hbv29 kr) (w_disk_Disk_Crash_n d_files d_queue d_set y1.2.1 y1.2.2.1 y1.2.2.2.1 y1.2.2.2.2 y1.2.2.2.2 _ c2) vw2 kr kr kr kr kr kr kr kr) kr ?_
   refine oN (nT (vS (vS (vT (oR 2 [(17, iI f), (16, pO)] kr ?_)))))
   obtain ⟨y7, c7, hs⟩ := bS hs
   refine o_loc (F := (dH (bD 1000002 ((d_queue).length) [iI y2.1, .bool y2.2.1, iI y2.2.2.1, .vs 1 (mI y2.2.2.2)]) d_files d_queue d_set)) (F' := (dH (bD 1000002 ((d_queue).length) [iI y7.2.1, .bool y7.2.2.1, iI y7.2.2.2.1, .vs 1 (mI y7.2.2.2.2)]) d_files d_queue d_set)) (v := iI y7.1) kD kr kr rfl kr (loc_g (R := []) [pO, iI f] rD (callV_func hbv38 kr) (w_disk_Disk_may d_files d_queue d_set y2.1 y2.2.1 y2.2.2.1 y2.2.2.2 f _ c7) vw2 kr kr kr kr kr kr kr kr) kr ?_
   refine oR 1 [(7, iI y7.1)] kr ?_
   refine oN (nT (vS (vT (oR 2 [(20, .bool (!(decide (y7.1 = 0)))), (19, iI y7.1)] kr ?_))))
   refine oN (nT ?_)
   refine v_cond (!(decide (y7.1 = 0))) kr (fun h5 => ?_) (fun h5 => ?_)
   ·replace hs := bif_t h5 hs
    cases hs
   ·replace hs := bif_f h5 hs
    refine vK (nT (vS (vS ?_)))
    obtain ⟨z2, hs, hk2⟩ := bS hs
    refine v_join (S := Bool × Int × Bool × Int × (List Int)) (fun u => u = z2) (fun u => [(0, pO), (1, iI f), (2, iI size), (30, .bool u.1)]) (fun u => [(1000001, (oF d_files)), (1000000, (bD 1000002 ((d_queue).length) [iI u.2.1, .bool u.2.2.1, iI u.2.2.2.1, .vs 1 (mI u.2.2.2.2)])), (1000002, (oQ d_queue)), (1000003, (oS d_set))]) ?_ (fun v2 hz => ?_)
    ·refine vT (oR 3 [(24, .bool (decide (size < 0))), (23, .bool (decide (size < 0))), (22, iI size)] kr ?_)
     cases h6 : ((decide (size < 0)))
     ·replace hs := bif_f h6 hs
      refine oR 3 [(27, iI f), (26, pO), (25, iI size)] kr ?_
      obtain ⟨y8, c8, hs⟩ := bS hs
      refine o_loc (F := (dH (bD 1000002 ((d_queue).length) [iI y7.2.1, .bool y7.2.2.1, iI y7.2.2.2.1, .vs 1 (mI y7.2.2.2.2)]) d_files d_queue d_set)) (F' := [(1000001, (oF d_files)), (1000000, (bD 1000002 ((d_queue).length) [iI y8.2.1, .bool y8.2.2.1, iI y8.2.2.2.1, .vs 1 (mI y8.2.2.2.2)])), (1000002, (oQ d_queue)), (1000003, (oS d_set))]) (v := iI y8.1) kD kr kr rfl kr (loc_g (R := []) [pO, iI f] rD (callV_func hbv12 kr) (w_disk_Disk_Size d_files d_queue d_set y7.2.1 y7.2.2.1 y7.2.2.2.1 y7.2.2.2.2 f _ c8) vw2 kr kr kr kr kr kr kr kr) kr ?_
      refine oR 2 [(30, .bool (decide (size > y8.1))), (29, .bool (decide (size > y8.1)))] kr ?_
      refine oN ?_
      obtain rfl := si hs
      refine nrm_join ((decide (size > y8.1)), y8.2.1, y8.2.2.1, y8.2.2.2.1, y8.2.2.2.2) rfl ?_
      exact cut_of [0, 1, 2, 30] [1000001, 1000000, 1000002, 1000003] kr kr kr
     ·replace hs := bif_t h6 hs
      refine oR 6 [(30, .bool true), (29, .no), (28, .no), (27, .no), (26, .no), (25, .no)] kr ?_
      refine oN ?_
      obtain rfl := si hs
      refine nrm_join (true, y7.2.1, y7.2.2.1, y7.2.2.2.1, y7.2.2.2.2) rfl ?_
      exact cut_of [0, 1, 2, 30] [1000001, 1000000, 1000002, 1000003] kr kr kr
    ·subst hz; clear hs; have hs := hk2; clear hk2
     refine nT ?_
     refine v_cond v2.1 kr (fun h7 => ?_) (fun h7 => ?_)
     ·replace hs := bif_t h7 hs
      cases hs
     ·replace hs := bif_f h7 hs
      cases hs
 ·replace hs := bif_f h1 hs
  refine vK (nT (vS (vS (vT (oR 2 [(17, iI f), (16, pO)] kr ?_)))))
  obtain ⟨y10, c10, hs⟩ := bS hs
  refine o_loc (F := (dH (bD 1000002 ((d_queue).length) [iI y1.2.1, .bool y1.2.2.1, iI y1.2.2.2.1, .vs 1 (mI y1.2.2.2.2)]) d_files d_queue d_set)) (F' := (dH (bD 1000002 ((d_queue).length) [iI y10.2.1, .bool y10.2.2.1, iI y10.2.2.2.1, .vs 1 (mI y10.2.2.2.2)]) d_files d_queue d_set)) (v := iI y10.1) kD kr kr rfl kr (loc_g (R := []) [pO, iI f] rD (callV_func hbv38 kr) (w_disk_Disk_may d_files d_queue d_set y1.2.1 y1.2.2.1 y1.2.2.2.1 y1.2.2.2.2 f _ c10) vw2 kr kr kr kr kr kr kr kr) kr ?_
  refine oR 1 [(7, iI y10.1)] kr ?_
  refine oN (nT (vS (vT (oR 2 [(20, .bool (!(decide (y10.1 = 0)))), (19, iI y10.1)] kr ?_))))
  refine oN (nT ?_)
  refine v_cond (!(decide (y10.1 = 0))) kr (fun h8 => ?_) (fun h8 => ?_)
  ·replace hs := bif_t h8 hs
   cases hs
  ·replace hs := bif_f h8 hs
   refine vK (nT (vS (vS ?_)))
   obtain ⟨z3, hs, hk3⟩ := bS hs
   refine v_join (S := Bool × Int × Bool × Int × (List Int)) (fun u => u = z3) (fun u => [(0, pO), (1, iI f), (2, iI size), (30, .bool u.1)]) (fun u => [(1000001, (oF d_files)), (1000000, (bD 1000002 ((d_queue).length) [iI u.2.1, .bool u.2.2.1, iI u.2.2.2.1, .vs 1 (mI u.2.2.2.2)])), (1000002, (oQ d_queue)), (1000003, (oS d_set))]) ?_ (fun v3 hz => ?_)
   ·refine vT (oR 3 [(24, .bool (decide (size < 0))), (23, .bool (decide (size < 0))), (22, iI size)] kr ?_)
    cases h9 : ((decide (size < 0)))
    ·replace hs := bif_f h9 hs
     refine oR 3 [(27, iI f), (26, pO), (25, iI size)] kr ?_
     obtain ⟨y11, c11, hs⟩ := bS hs
     refine o_loc (F := (dH (bD 1000002 ((d_queue).length) [iI y10.2.1, .bool y10.2.2.1, iI y10.2.2.2.1, .vs 1 (mI y10.2.2.2.2)]) d_files d_queue d_set)) (F' := [(1000001, (oF d_files)), (1000000, (bD 1000002 ((d_queue).length) [iI y11.2.1, .bool y11.2.2.1, iI y11.2.2.2.1, .vs 1 (mI y11.2.2.2.2)])), (1000002, (oQ d_queue)), (1000003, (oS d_set))]) (v := iI y11.1) kD kr kr rfl kr (loc_g (R := []) [pO, iI f] rD (callV_func hbv12 kr) (w_disk_Disk_Size d_files d_queue d_set y10.2.1 y10.2.2.1 y10.2.2.2.1 y10.2.2.2.2 f _ c11) vw2 kr kr kr kr kr kr kr kr) kr ?_
     refine oR 2 [(30, .bool (decide (size > y11.1))), (29, .bool (decide (size > y11.1)))] kr ?_
     refine oN ?_
     obtain rfl := si hs
     refine nrm_join ((decide (size > y11.1)), y11.2.1, y11.2.2.1, y11.2.2.2.1, y11.2.2.2.2) rfl ?_
     exact cut_of [0, 1, 2, 30] [1000001, 1000000, 1000002, 1000003] kr kr kr
    ·replace hs := bif_t h9 hs
     refine oR 6 [(30, .bool true), (29, .no), (28, .no), (27, .no), (26, .no), (25, .no)] kr ?_
     refine oN ?_
     obtain rfl := si hs
     refine nrm_join (true, y10.2.1, y10.2.2.1, y10.2.2.2.1, y10.2.2.2.2) rfl ?_
     exact cut_of [0, 1, 2, 30] [1000001, 1000000, 1000002, 1000003] kr kr kr
   ·subst hz; clear hs; have hs := hk3; clear hk3
    refine nT ?_
    refine v_cond v3.1 kr (fun h10 => ?_) (fun h10 => ?_)
    ·replace hs := bif_t h10 hs
     cases hs
    ·replace hs := bif_f h10 hs
     cases hs
theorem w_disk_Disk_write (d_files : (List (Int × disk_file))) (d_queue : (List disk_sector)) (d_set : (List (disk_sector × Bool))) (d_lost : Int) (d_down : Bool) (d_armed : Int) (d_keep : (List Int)) (f : Int) (at_ : Int) (s : (List UInt8)) (r : Int × Int × Bool × Int × (List Int) × (List (Int × disk_file)) × (List disk_sector) × (List (disk_sector × Bool))) (hs : s_disk_Disk_write d_files d_queue d_set d_lost d_down d_armed d_keep f at_ s = some r) : FnA Tryd.prog 40 [pO, iI f, iI at_, .str s] (dH (bD 1000002 ((d_queue).length) [iI d_lost, .bool d_down, iI d_armed, .vs 1 (mI d_keep)]) d_files d_queue d_set) (iI r.1) (dH (bD 1000002 ((r.2.2.2.2.2.2.1).length) [iI r.2.1, .bool r.2.2.1, iI r.2.2.2.1, .vs 1 (mI r.2.2.2.2.1)]) r.2.2.2.2.2.1 r.2.2.2.2.2.2.1 r.2.2.2.2.2.2.2) := by
 refine fnA_of_wp (N := 92) Tryd.func40 rfl rfl rfl fun cK0 => ?_
 unfold s_disk_Disk_write at hs
 refine v_same (ρ' := [(0, pO), (1, iI f), (2, iI at_), (3, .str s)]) rfl rfl ?_
 refine vS (vT (oR 1 [(8, iI 0)] kr ?_))
 refine oN (nT (vS (vS (vT (oR 2 [(14, iI f), (13, pO)] kr ?_)))))
 obtain ⟨y1, c1, hs⟩ := bS hs
 refine o_loc (F := (dH (bD 1000002 ((d_queue).length) [iI d_lost, .bool d_down, iI d_armed, .vs 1 (mI d_keep)]) d_files d_queue d_set)) (F' := (dH (bD 1000002 ((d_queue).length) [iI y1.2.1, .bool y1.2.2.1, iI y1.2.2.2.1, .vs 1 (mI y1.2.2.2.2)]) d_files d_queue d_set)) (v := iI y1.1) kD kr kr rfl kr (loc_g (R := []) [pO, iI f] rD (callV_func hbv38 kr) (w_disk_Disk_may d_files d_queue d_set d_lost d_down d_armed d_keep f _ c1) vw2 kr kr kr kr kr kr kr kr) kr ?_
 refine oR 1 [(9, iI y1.1)] kr ?_
 refine oN (nT (vS (vT (oR 2 [(17, .bool (!(decide (y1.1 = 0)))), (16, iI y1.1)] kr ?_))))
 refine oN (nT ?_)
 refine v_cond (!(decide (y1.1 = 0))) kr (fun h1 => ?_) (fun h1 => ?_)
 ·replace hs := bif_t h1 hs
  refine vS (vT (oR 2 [(8, iI y1.1), (18, iI y1.1)] kr ?_))
  refine oN (nT (v_ret (rT ?_)))
  obtain rfl := si hs
  exact fin_ret kr kr kr
 ·replace hs := bif_f h1 hs
  refine vK (nT (vS (vB (vS (vT (oR 3 [(19, .bool (decide (at_ < 0))), (21, .bool (decide (at_ < 0))), (20, iI at_)] kr ?_))))))
  refine oN (nT ?_)
  refine v_cond (decide (at_ < 0)) kr (fun h2 => ?_) (fun h2 => ?_)
  ·replace hs := bif_t h2 hs
   refine vS (vT (oR 1 [(8, iI 1)] kr ?_))
   refine oN (nT (v_ret (rB (rT ?_))))
   obtain rfl := si hs
   exact fin_ret kr kr kr
  ·replace hs := bif_f h2 hs
   refine vS ?_
   obtain ⟨z1, hs, hk1⟩ := bS hs
   refine v_join (S := Bool) (fun u => u = z1) (fun u => [(0, pO), (1, iI f), (2, iI at_), (3, .str s), (22, .bool u)]) (fun u => (dH (bD 1000002 ((d_queue).length) [iI y1.2.1, .bool y1.2.2.1, iI y1.2.2.2.1, .vs 1 (mI y1.2.2.2.2)]) d_files d_queue d_set)) ?_ (fun v1 hz => ?_)
   ·refine vT (oR 3 [(25, .bool (decide (at_ > 16777216))), (24, .bool (decide (at_ > 16777216))), (23, iI at_)] kr ?_)
    cases h3 : ((decide (at_ > 16777216)))
    ·replace hs := bif_f h3 hs
     refine oR 7 [(22, .bool (decide ((List.length s : Int) > (w64 (16777216 - at_))))), (31, .bool (decide ((List.length s : Int) > (w64 (16777216 - at_))))), (30, .bool (decide ((List.length s : Int) > (w64 (16777216 - at_))))), (29, iI (w64 (16777216 - at_))), (28, iI at_), (27, iI (List.length s : Int)), (26, .str s)] kr ?_
     refine oN ?_
     obtain rfl := si hs
     refine nrm_join (decide ((List.length s : Int) > (w64 (16777216 - at_)))) rfl ?_
     exact cut_of [0, 1, 2, 3, 22] kD kr kr kr
    ·replace hs := bif_t h3 hs
     refine oR 7 [(22, .bool true), (31, .bool true), (30, .no), (29, .no), (28, .no), (27, .no), (26, .no)] kr ?_
     refine oN ?_
     obtain rfl := si hs
     refine nrm_join true rfl ?_
     exact cut_of [0, 1, 2, 3, 22] kD kr kr kr
   ·subst hz; clear hs; have hs := hk1; clear hk1
    refine nT ?_
    refine v_cond v1 kr (fun h4 => ?_) (fun h4 => ?_)
    ·replace hs := bif_t h4 hs
     refine vS (vT (oR 1 [(8, iI 6)] kr ?_))
     refine oN (nT (v_ret (rB (rT ?_))))
     obtain rfl := si hs
     exact fin_ret kr kr kr
    ·replace hs := bif_f h4 hs
     refine vS (vT (oR 3 [(32, .bool (decide (s = []))), (34, .bool (decide (s = []))), (33, .str s)] kr ?_))
     refine oN (nT ?_)
     refine v_cond (decide (s = [])) kr (fun h5 => ?_) (fun h5 => ?_)
     ·replace hs := bif_t h5 hs
      refine vS (vT (oR 1 [(8, iI 0)] kr ?_))
      refine oN (nT (v_ret (rB (rT ?_))))
      obtain rfl := si hs
      exact fin_ret kr kr kr
     ·replace hs := bif_f h5 hs
      refine vK (nB (nT (vS (vT (oR 5 [(39, iI f), (38, .mp 1000001), (37, pO), (36, pO), (35, pO)] kr ?_)))))
      refine o_loc (F := [(1000001, (oF d_files))]) (F' := [(1000001, (oF d_files))]) (v := .agg (enc_disk_file (Option.getD (mfind f d_files) (disk_file.mk [] [])))) [1000001] kr kr rfl kr (loc_lookup (et := 72) (f := (V.int .i64)) (g := (fun e => V.agg (enc_disk_file e))) (l := d_files) (a := f) (z := (disk_file.mk [] [])) (zv := .agg [.str [], .str []]) false kr kok3 kr (fun _ _ _ h => h) kr kr) kr ?_
      refine o_runh 2 [(10, .ptr 10 0 0)] [(10, .box 72 [.str ((Option.getD (mfind f d_files) (disk_file.mk [] [])).now), .str ((Option.getD (mfind f d_files) (disk_file.mk [] [])).last)]), (1000001, (oF d_files)), (1000000, (bD 1000002 ((d_queue).length) [iI y1.2.1, .bool y1.2.2.1, iI y1.2.2.2.1, .vs 1 (mI y1.2.2.2.2)])), (1000002, (oQ d_queue)), (1000003, (oS d_set))] kr ?_
      refine oN (nT (vS (vT (oR 4 [(44, .str s), (43, iI at_), (42, .str ((Option.getD (mfind f d_files) (disk_file.mk [] [])).now)), (41, .ptr 10 0 0)] kr ?_))))
      obtain ⟨y2, c2, hs⟩ := bS hs
      refine oP (v := .str y2) kr kr (loc_gcall0 (callV_func hbv46 kr) (w_disk_put ((Option.getD (mfind f d_files) (disk_file.mk [] [])).now) at_ s _ c2) kr) ?_
      refine o_runh 2 [(46, .ptr 10 0 0)] [(10, .box 72 [.str y2, .str ((Option.getD (mfind f d_files) (disk_file.mk [] [])).last)]), (1000001, (oF d_files)), (1000000, (bD 1000002 ((d_queue).length) [iI y1.2.1, .bool y1.2.2.1, iI y1.2.2.2.1, .vs 1 (mI y1.2.2.2.2)])), (1000002, (oQ d_queue)), (1000003, (oS d_set))] kr ?_
      refine oN (nT (vS (v_draw mixedH kr ?_)))
      refine d_runs 6 0 [(52, .agg [.str y2, .str ((Option.getD (mfind f d_files) (disk_file.mk [] [])).last)]), (51, iI f), (50, .mp 1000001), (49, pO), (48, pO), (47, pO)] [⟨5, [], [10]⟩, ⟨4, [], []⟩, ⟨3, [], [1000000]⟩, ⟨2, [], []⟩, ⟨1, [], []⟩, ⟨0, [], []⟩] kr kr ?_
      refine d_loc (F := [(1000001, (oF d_files))]) (R := []) (F' := [(1000001, (oF (mset f (disk_file.mk y2 ((Option.getD (mfind f d_files) (disk_file.mk [] [])).last)) d_files)))]) (v := .no) 6 [1000001] [] rfl rfl rfl rfl kr kr kr kr kr kr kr kr (loc_mapUpdate (et := 72) (f := (V.int .i64)) (g := (fun e => V.agg (enc_disk_file e))) (l := d_files) (a := f) (c := (disk_file.mk y2 ((Option.getD (mfind f d_files) (disk_file.mk [] [])).last))) kr kok3 kr kr kr kr kr) ?_
      refine d_nil kr ?_
      refine nT (vS (vS (vT (oR 3 [(11, iI (w64 (Int.tdiv at_ 64))), (54, iI (w64 (Int.tdiv at_ 64))), (53, iI at_)] kr ?_))))
      refine oN (nT ?_)
      obtain ⟨z2, hs, hk2⟩ := bS hs
      refine v_join (S := (List disk_sector) × (List (disk_sector × Bool))) (fun u => u = z2) (fun u => []) (fun u => [(1000001, (oF (mset f (disk_file.mk y2 ((Option.getD (mfind f d_files) (disk_file.mk [] [])).last)) d_files))), (1000000, (bD 1000002 ((u.1).length) [iI y1.2.1, .bool y1.2.2.1, iI y1.2.2.2.1, .vs 1 (mI y1.2.2.2.2)])), (1000002, (oQ u.1)), (1000003, (oS u.2))]) ?_ (fun v2 hz => ?_)
      ·refine vB ?_
       refine v_fuel (S := Int × (List disk_sector) × (List (disk_sector × Bool))) (fun u => [(0, pO), (1, iI f), (2, iI at_), (3, .str s), (11, iI u.1)]) (fun u => [(1000001, (oF (mset f (disk_file.mk y2 ((Option.getD (mfind f d_files) (disk_file.mk [] [])).last)) d_files))), (1000000, (bD 1000002 ((u.2.1).length) [iI y1.2.1, .bool y1.2.2.1, iI y1.2.2.2.1, .vs 1 (mI y1.2.2.2.2)])), (1000002, (oQ u.2.1)), (1000003, (oS u.2.2))]) (s_disk_Disk_write_L1 f at_ s) (fun _ => rfl) KK ((w64 (Int.tdiv at_ 64)), d_queue, d_set) hs (cut_of [0, 1, 2, 3, 11] [1000001, 1000000, 1000002, 1000003] kr kr kr) (fun K1 q1 hs => ?_)
       rw [s_disk_Disk_write_L1] at hs
       show WpV cK0 Tryd.prog none 92 _ _ [(0, pO), (1, iI f), (2, iI at_), (3, .str s), (11, iI q1.1)] [(1000001, (oF (mset f (disk_file.mk y2 ((Option.getD (mfind f d_files) (disk_file.mk [] [])).last)) d_files))), (1000000, (bD 1000002 ((q1.2.1).length) [iI y1.2.1, .bool y1.2.2.1, iI y1.2.2.2.1, .vs 1 (mI y1.2.2.2.2)])), (1000002, (oQ q1.2.1)), (1000003, (oS q1.2.2))] []
       refine vS (vS (vT (oR 8 [(62, .bool (decide (q1.1 ≤ (w64 (Int.tdiv (w64 ((w64 (at_ + (List.length s : Int))) - 1)) 64))))), (61, iI (w64 (Int.tdiv (w64 ((w64 (at_ + (List.length s : Int))) - 1)) 64))), (60, iI (w64 ((w64 (at_ + (List.length s : Int))) - 1))), (59, iI (w64 (at_ + (List.length s : Int)))), (58, iI (List.length s : Int)), (57, .str s), (56, iI at_), (55, iI q1.1)] kr ?_)))
       refine oN (nT ?_)
       refine v_cond (decide (q1.1 ≤ (w64 (Int.tdiv (w64 ((w64 (at_ + (List.length s : Int))) - 1)) 64)))) kr (fun h6 => ?_) (fun h6 => ?_)
       ·replace hs := bif_t h6 hs
        refine vK (nT (vS (vB (vS (vT (o_runh 5 [(12, .ptr 12 0 0), (67, .agg [iI f, iI q1.1]), (66, iI q1.1), (65, iI f)] [(12, .box 78 [iI f, iI q1.1]), (1000001, (oF (mset f (disk_file.mk y2 ((Option.getD (mfind f d_files) (disk_file.mk [] [])).last)) d_files))), (1000000, (bD 1000002 ((q1.2.1).length) [iI y1.2.1, .bool y1.2.2.1, iI y1.2.2.2.1, .vs 1 (mI y1.2.2.2.2)])), (1000002, (oQ q1.2.1)), (1000003, (oS q1.2.2))] kr ?_))))))
        refine oN (nT (vS (v_draw mixedH kr ?_)))
        refine d_runs 5 0 [(72, .agg [iI f, iI q1.1]), (71, .mp 1000003), (70, .ptr 1000000 0 2), (69, pO), (68, pO)] [⟨4, [], [12]⟩, ⟨3, [], [1000000]⟩, ⟨2, [], []⟩, ⟨1, [], []⟩, ⟨0, [], []⟩] kr kr ?_
        refine d_loc (F := []) (R := [(1000003, (oS q1.2.2))]) (F' := []) (v := .bool (Option.getD (mfind (disk_sector.mk f q1.1) q1.2.2) false)) 5 [] [1000003] rfl rfl rfl rfl kr kr kr kr kr kr kr kr (loc_lookup (et := 4) (f := (fun e => V.agg (enc_disk_sector e))) (g := V.bool) (l := q1.2.2) (a := (disk_sector.mk f q1.1)) (z := false) (zv := .bool false) false kr kok78 kr (fun _ _ _ h => h) kr kr) ?_
        refine d_runs 1 6 [(74, .bool (!(Option.getD (mfind (disk_sector.mk f q1.1) q1.2.2) false)))] (pfp 1 6) kr kr ?_
        refine d_nil kr ?_
        refine nT ?_
        obtain ⟨z3, hs, hk3⟩ := bS hs
        refine v_join (S := (List (disk_sector × Bool)) × (List disk_sector)) (fun u => u = z3) (fun u => [(0, pO), (1, iI f), (2, iI at_), (3, .str s), (11, iI q1.1)]) (fun u => [(1000003, (oS u.1)), (1000000, (bD 1000002 ((u.2).length) [iI y1.2.1, .bool y1.2.2.1, iI y1.2.2.2.1, .vs 1 (mI y1.2.2.2.2)])), (1000002, (oQ u.2)), (1000001, (oF (mset f (disk_file.mk y2 ((Option.getD (mfind f d_files) (disk_file.mk [] [])).last)) d_files)))]) ?_ (fun v3 hz => ?_)
        ·refine v_cond (!(Option.getD (mfind (disk_sector.mk f q1.1) q1.2.2) false)) kr (fun h7 => ?_) (fun h7 => ?_)
         ·replace hs := bif_t h7 hs
          refine v_stamp 1000003 (mix (disk_sector.mk f q1.1) q1.2.2) (l := encM (fun e => V.agg (enc_disk_sector e)) V.bool q1.2.2) kr (fun e1 => [(1000003, .gen (mapB (encM (fun e => V.agg (enc_disk_sector e)) V.bool q1.2.2) (mix (disk_sector.mk f q1.1) q1.2.2) e1)), (12, .box 78 [iI f, iI q1.1]), (1000001, (oF (mset f (disk_file.mk y2 ((Option.getD (mfind f d_files) (disk_file.mk [] [])).last)) d_files))), (1000000, (bD 1000002 ((q1.2.1).length) [iI y1.2.1, .bool y1.2.2.1, iI y1.2.2.2.1, .vs 1 (mI y1.2.2.2.2)])), (1000002, (oQ q1.2.1))]) (fun _ => by kernel_rfl) (fun e1 => ?_)
          refine v_draw mixedH kr ?_
          refine d_runh 12 0 [(86, .sl 2 86 1 0 1), (85, .agg [iI f, iI q1.1]), (84, .sl 2 1000002 ((q1.2.1).length) 0 ((q1.2.1).length)), (83, .ptr 1000000 0 1), (82, pO), (81, pO), (80, .agg [iI f, iI q1.1]), (79, .mp 1000003), (78, .ptr 1000000 0 2), (77, pO), (76, pO), (75, pO)] [(86, (oQ [(disk_sector.mk f q1.1)])), (1000003, .gen (mapB (encM (fun e => V.agg (enc_disk_sector e)) V.bool q1.2.2) (mix (disk_sector.mk f q1.1) q1.2.2) e1)), (12, .box 78 [iI f, iI q1.1]), (1000001, (oF (mset f (disk_file.mk y2 ((Option.getD (mfind f d_files) (disk_file.mk [] [])).last)) d_files))), (1000000, (bD 1000002 ((q1.2.1).length) [iI y1.2.1, .bool y1.2.2.1, iI y1.2.2.2.1, .vs 1 (mI y1.2.2.2.2)])), (1000002, (oQ q1.2.1))] [⟨11, [86], []⟩, ⟨10, [], [12]⟩, ⟨9, [], [1000000]⟩, ⟨8, [], []⟩, ⟨7, [], []⟩, ⟨6, [], []⟩, ⟨5, [], [12]⟩, ⟨4, [], [1000000]⟩, ⟨3, [], []⟩, ⟨2, [], []⟩, ⟨1, [], []⟩, ⟨0, [], []⟩] kr kr ?_
          obtain ⟨_, g1, hs⟩ := bS hs; replace g1 := grd_some g1
          refine d_loc (F := [(1000002, (oQ q1.2.1))]) (R := [(86, (oQ [(disk_sector.mk f q1.1)]))]) (F' := [(1000002, (oQ (q1.2.1 ++ [(disk_sector.mk f q1.1)])))]) (v := .sl 2 1000002 (((q1.2.1 ++ [(disk_sector.mk f q1.1)])).length) 0 (((q1.2.1 ++ [(disk_sector.mk f q1.1)])).length)) 12 [1000002] [86] rfl rfl rfl rfl kr kr kr kr kr kr kr kr (loc_appendT (e := 78) (sz := 2) (bytes := 16) (L := (q1.2.1).length) (els := (mM enc_disk_sector q1.2.1)) (ys := (mM enc_disk_sector [(disk_sector.mk f q1.1)])) kr kr (by first | exact List.length_map .. | rfl) (.sl (t := 78) (fz := 0) (ys := (mM enc_disk_sector [(disk_sector.mk f q1.1)])) kr kr) (map_ones enc_disk_sector (fun _ => rfl) _) (map_lens enc_disk_sector (fun _ => rfl) _) kr (by first | exact (List.map_append ..).symm | rfl | simp only [List.map_nil, List.nil_append]) (List.length_map ..) g1 (by omega)) ?_
          refine d_runh 3 13 [(89, .ptr 1000000 0 1), (88, pO)] [(1000000, (bD 1000002 (((q1.2.1 ++ [(disk_sector.mk f q1.1)])).length) [iI y1.2.1, .bool y1.2.2.1, iI y1.2.2.2.1, .vs 1 (mI y1.2.2.2.2)])), (1000002, (oQ (q1.2.1 ++ [(disk_sector.mk f q1.1)]))), (86, (oQ [(disk_sector.mk f q1.1)])), (1000003, .gen (mapB (encM (fun e => V.agg (enc_disk_sector e)) V.bool q1.2.2) (mix (disk_sector.mk f q1.1) q1.2.2) e1)), (12, .box 78 [iI f, iI q1.1]), (1000001, (oF (mset f (disk_file.mk y2 ((Option.getD (mfind f d_files) (disk_file.mk [] [])).last)) d_files)))] [⟨15, [1000000], []⟩, ⟨14, [], []⟩, ⟨13, [], []⟩] kr kr ?_
          refine d_loc (F := [(1000003, .gen (mapB (encM (fun e => V.agg (enc_disk_sector e)) V.bool q1.2.2) (mix (disk_sector.mk f q1.1) q1.2.2) e1))]) (R := []) (F' := [(1000003, .gen (mapB (encM (fun e => V.agg (enc_disk_sector e)) V.bool (ment (disk_sector.mk f q1.1) false q1.2.2)) (mix (disk_sector.mk f q1.1) q1.2.2) e1))]) (v := .tup [.bool (Option.getD (mfind (disk_sector.mk f q1.1) q1.2.2) false), iI (e1 : Int)]) 16 [1000003] [] rfl rfl rfl rfl kr kr kr kr kr kr kr kr (loc_mapEntryB (et := 4) (f := (fun e => V.agg (enc_disk_sector e))) (g := V.bool) (l := q1.2.2) (a := (disk_sector.mk f q1.1)) (z := false) (zv := .bool false) (s := e1) kr kok78 kr kr (fun _ _ _ h => h) kr kr) ?_
          refine d_runs 1 17 [(91, iI (e1 : Int))] (pfp 1 17) kr kr ?_
          refine d_loc (F := [(1000003, .gen (mapB (encM (fun e => V.agg (enc_disk_sector e)) V.bool (ment (disk_sector.mk f q1.1) false q1.2.2)) (mix (disk_sector.mk f q1.1) q1.2.2) e1))]) (R := []) (F' := [(1000003, (oS (mset (disk_sector.mk f q1.1) true q1.2.2)))]) (v := .no) 18 [1000003] [] rfl rfl rfl rfl kr kr kr kr kr kr kr kr (loc_entryStoreC (f := (fun e => V.agg (enc_disk_sector e))) (g := V.bool) (l := q1.2.2) (a := (disk_sector.mk f q1.1)) (c := true) (z := false) (s := e1) kok78 kr kr kr kr) ?_
          refine d_nil kr ?_
          obtain rfl := si hs
          refine nrm_join ((mset (disk_sector.mk f q1.1) true q1.2.2), (q1.2.1 ++ [(disk_sector.mk f q1.1)])) rfl ?_
          exact cut_of [0, 1, 2, 3, 11] [1000003, 1000000, 1000002, 1000001] kr kr kr
         ·replace hs := bif_f h7 hs
          refine vK ?_
          obtain rfl := si hs
          refine nrm_join (q1.2.2, q1.2.1) rfl ?_
          exact cut_of [0, 1, 2, 3, 11] [1000003, 1000000, 1000002, 1000001] kr kr kr
        ·subst hz; clear hs; have hs := hk3; clear hk3
         refine nB (nT (vT (oR 3 [(11, iI (w64 (q1.1 + 1))), (64, iI (w64 (q1.1 + 1))), (63, iI q1.1)] kr ?_)))
         refine oN (nrm_fuel ((w64 (q1.1 + 1)), v3.2, v3.1) hs ?_)
         exact cut_of [0, 1, 2, 3, 11] [1000001, 1000000, 1000002, 1000003] kr kr kr
       ·replace hs := bif_f h6 hs
        refine v_exit (exit_thenV (exit_fuel ?_))
        refine exit_blkV ?_
        obtain rfl := si hs
        refine nrm_join (q1.2.1, q1.2.2) rfl ?_
        exact cut_of [] [1000001, 1000000, 1000002, 1000003] kr kr kr
      ·subst hz; clear hs; have hs := hk2; clear hk2
       refine nT (vS (vT (oR 1 [(8, iI 0)] kr ?_)))
       refine oN (nT (v_ret ?_))
       obtain rfl := si hs
       exact fin_ret kr kr kr
theorem w_disk_Disk_Write_n (d_files : (List (Int × disk_file))) (d_queue : (List disk_sector)) (d_set : (List (disk_sector × Bool))) (d_lost : Int) (d_down : Bool) (d_armed : Int) (d_keep : (List Int)) (f : Int) (at_ : Int) (s : (List UInt8)) (r : Int × Int × Bool × Int × (List Int) × (List (Int × disk_file)) × (List disk_sector) × (List (disk_sector × Bool))) (hs : s_disk_Disk_Write_n d_files d_queue d_set d_lost d_down d_armed d_keep f at_ s = some r) : FnA Tryd.prog 14 [pO, iI f, iI at_, .str s] (dH (bD 1000002 ((d_queue).length) [iI d_lost, .bool d_down, iI d_armed, .vs 1 (mI d_keep)]) d_files d_queue d_set) (iI r.1) (dH (bD 1000002 ((r.2.2.2.2.2.2.1).length) [iI r.2.1, .bool r.2.2.1, iI r.2.2.2.1, .vs 1 (mI r.2.2.2.2.1)]) r.2.2.2.2.2.1 r.2.2.2.2.2.2.1 r.2.2.2.2.2.2.2) := by
 refine fnA_of_wp (N := 26) Tryd.func14 rfl rfl rfl fun cK0 => ?_
 unfold s_disk_Disk_Write_n at hs
 refine v_same (ρ' := [(0, pO), (1, iI f), (2, iI at_), (3, .str s)]) rfl rfl ?_
 refine vS (vT (oR 1 [(8, iI 0)] kr ?_))
 refine oN (nT (vS (vT (oR 1 [(11, pO)] kr ?_))))
 obtain ⟨y1, c1, hs⟩ := bS hs
 refine o_loc (F := (dH (bD 1000002 ((d_queue).length) [iI d_lost, .bool d_down, iI d_armed, .vs 1 (mI d_keep)]) d_files d_queue d_set)) (F' := (dH (bD 1000002 ((d_queue).length) [iI y1.2.1, .bool y1.2.2.1, iI y1.2.2.2.1, .vs 1 (mI y1.2.2.2.2)]) d_files d_queue d_set)) (v := .bool y1.1) kD kr kr rfl kr (loc_g (R := []) [pO] rD (callV_func hbv39 kr) (w_disk_Disk_ends d_files d_queue d_set d_lost d_down d_armed d_keep _ c1) (.cons (.same _) (.nil)) kr kr kr kr kr kr kr kr) kr ?_
 refine oR 1 [(9, .bool y1.1)] kr ?_
 refine oN (nT (vS (vT (oR 4 [(16, .str s), (15, iI at_), (14, iI f), (13, pO)] kr ?_))))
 obtain ⟨y2, c2, hs⟩ := bS hs
 refine o_loc (F := (dH (bD 1000002 ((d_queue).length) [iI y1.2.1, .bool y1.2.2.1, iI y1.2.2.2.1, .vs 1 (mI y1.2.2.2.2)]) d_files d_queue d_set)) (F' := (dH (bD 1000002 ((y2.2.2.2.2.2.2.1).length) [iI y2.2.1, .bool y2.2.2.1, iI y2.2.2.2.1, .vs 1 (mI y2.2.2.2.2.1)]) y2.2.2.2.2.2.1 y2.2.2.2.2.2.2.1 y2.2.2.2.2.2.2.2)) (v := iI y2.1) kD kr kr rfl kr (loc_g (R := []) [pO, iI f, iI at_, .str s] rD (callV_func hbv40 kr) (w_disk_Disk_write d_files d_queue d_set y1.2.1 y1.2.2.1 y1.2.2.2.1 y1.2.2.2.2 f at_ s _ c2) (.cons (.same _) vw3) kr kr kr kr kr kr kr kr) kr ?_
 refine oR 1 [(10, iI y2.1)] kr ?_
 refine oN (nT (vS (vS (vT (oR 1 [(18, .bool y1.1)] kr ?_)))))
 refine oN (nT ?_)
 refine v_cond y1.1 kr (fun h1 => ?_) (fun h1 => ?_)
 ·replace hs := bif_t h1 hs
  refine vS (vT (oR 5 [(23, .vs 1 (mI y2.2.2.2.2.1)), (22, .ptr 1000000 0 6), (21, pO), (20, pO), (19, pO)] kr ?_))
  cases c3 : (s_disk_Disk_Crash_n y2.2.2.2.2.2.1 y2.2.2.2.2.2.2.1 y2.2.2.2.2.2.2.2 y2.2.1 y2.2.2.1 y2.2.2.2.1 y2.2.2.2.2.1 y2.2.2.2.2.1)
  ·replace hs := orO_none c3 hs
   cases c4 : (s_disk_Disk_Crash_x y2.2.2.2.2.2.1 y2.2.2.2.2.2.2.1 y2.2.2.2.2.2.2.2 y2.2.1 y2.2.2.1 y2.2.2.2.1 y2.2.2.2.2.1 y2.2.2.2.2.1)
   ·replace hs := orO_none c4 hs
    cases hs
   ·rename_i y4; replace hs := orO_some c4 hs
    cases hs
  ·rename_i y3; replace hs := orO_some c3 hs
   refine o_loc (F := (dH (bD 1000002 ((y2.2.2.2.2.2.2.1).length) [iI y2.2.1, .bool y2.2.2.1, iI y2.2.2.2.1, .vs 1 (mI y2.2.2.2.2.1)]) y2.2.2.2.2.2.1 y2.2.2.2.2.2.2.1 y2.2.2.2.2.2.2.2)) (F' := (dH (bD 1000002 ((y2.2.2.2.2.2.2.1).length) [iI y3.1, .bool y3.2.1, iI y3.2.2.1, .vs 1 (mI y3.2.2.2)]) y2.2.2.2.2.2.1 y2.2.2.2.2.2.2.1 y2.2.2.2.2.2.2.2)) (v := .tup []) kD kr kr rfl kr (loc_g (R := []) [pO, .vs 1 (mI y2.2.2.2.2.1)] rD (callV_func hbv29 kr) (w_disk_Disk_Crash_n y2.2.2.2.2.2.1 y2.2.2.2.2.2.2.1 y2.2.2.2.2.2.2.2 y2.2.1 y2.2.2.1 y2.2.2.2.1 y2.2.2.2.2.1 y2.2.2.2.2.1 _ c3) vw2 kr kr kr kr kr kr kr kr) kr ?_
   refine oN (nT (vS (vT (oR 1 [(8, iI 8)] kr ?_))))
   refine oN (nT (v_ret (rT ?_)))
   obtain rfl := si hs
   exact fin_ret kr kr kr
 ·replace hs := bif_f h1 hs
  refine vK (nT (vS (vT (oR 2 [(8, iI y2.1), (25, iI y2.1)] kr ?_))))
  refine oN (nT (v_ret ?_))
  obtain rfl := si hs
  exact fin_ret kr kr kr
theorem w_disk_Disk_Write_x (d_files : (List (Int × disk_file))) (d_queue : (List disk_sector)) (d_set : (List (disk_sector × Bool))) (d_lost : Int) (d_down : Bool) (d_armed : Int) (d_keep : (List Int)) (f : Int) (at_ : Int) (s : (List UInt8)) (r : (List (Int × disk_file)) × Int × (List Int) × (List disk_sector) × (List (disk_sector × Bool))) (hs : s_disk_Disk_Write_x d_files d_queue d_set d_lost d_down d_armed d_keep f at_ s = some r) : FnA Tryd.prog 14 [pO, iI f, iI at_, .str s] (dH (bD 1000002 ((d_queue).length) [iI d_lost, .bool d_down, iI d_armed, .vs 1 (mI d_keep)]) d_files d_queue d_set) (iI 8) [(3002400, (oS [])), (1000001, (oF r.1)), (1000000, .box 64 [.mp 1000001, .nils, .mp 3002400, iI r.2.1, .bool true, iI 0, .vs 1 (mI r.2.2.1)]), (1000002, (oQ r.2.2.2.1)), (1000003, (oS r.2.2.2.2))] := by
 refine fnA_of_wp (N := 26) Tryd.func14 rfl rfl rfl fun cK0 => ?_
 unfold s_disk_Disk_Write_x at hs
 refine v_same (ρ' := [(0, pO), (1, iI f), (2, iI at_), (3, .str s)]) rfl rfl ?_
 refine vS (vT (oR 1 [(8, iI 0)] kr ?_))
 refine oN (nT (vS (vT (oR 1 [(11, pO)] kr ?_))))
 obtain ⟨y1, c1, hs⟩ := bS hs
 refine o_loc (F := (dH (bD 1000002 ((d_queue).length) [iI d_lost, .bool d_down, iI d_armed, .vs 1 (mI d_keep)]) d_files d_queue d_set)) (F' := (dH (bD 1000002 ((d_queue).length) [iI y1.2.1, .bool y1.2.2.1, iI y1.2.2.2.1, .vs 1 (mI y1.2.2.2.2)]) d_files d_queue d_set)) (v := .bool y1.1) kD kr kr rfl kr (loc_g (R := []) [pO] rD (callV_func hbv39 kr) (w_disk_Disk_ends d_files d_queue d_set d_lost d_down d_armed d_keep _ c1) (.cons (.same _) (.nil)) kr kr kr kr kr kr kr kr) kr ?_
 refine oR 1 [(9, .bool y1.1)] kr ?_
 refine oN (nT (vS (vT (oR 4 [(16, .str s), (15, iI at_), (14, iI f), (13, pO)] kr ?_))))
 obtain ⟨y2, c2, hs⟩ := bS hs
 refine o_loc (F := (dH (bD 1000002 ((d_queue).length) [iI y1.2.1, .bool y1.2.2.1, iI y1.2.2.2.1, .vs 1 (mI y1.2.2.2.2)]) d_files d_queue d_set)) (F' := (dH (bD 1000002 ((y2.2.2.2.2.2.2.1).length) [iI y2.2.1, .bool y2.2.2.1, iI y2.2.2.2.1, .vs 1 (mI y2.2.2.2.2.1)]) y2.2.2.2.2.2.1 y2.2.2.2.2.2.2.1 y2.2.2.2.2.2.2.2)) (v := iI y2.1) kD kr kr rfl kr (loc_g (R := []) [pO, iI f, iI at_, .str s] rD (callV_func hbv40 kr) (w_disk_Disk_write d_files d_queue d_set y1.2.1 y1.2.2.1 y1.2.2.2.1 y1.2.2.2.2 f at_ s _ c2) (.cons (.same _) vw3) kr kr kr kr kr kr kr kr) kr ?_
 refine oR 1 [(10, iI y2.1)] kr ?_
 refine oN (nT (vS (vS (vT (oR 1 [(18, .bool y1.1)] kr ?_)))))
 refine oN (nT ?_)
 refine v_cond y1.1 kr (fun h1 => ?_) (fun h1 => ?_)
 ·replace hs := bif_t h1 hs
  refine vS (vT (oR 5 [(23, .vs 1 (mI y2.2.2.2.2.1)), (22, .ptr 1000000 0 6), (21, pO), (20, pO), (19, pO)] kr ?_))
  cases c3 : (s_disk_Disk_Crash_n y2.2.2.2.2.2.1 y2.2.2.2.2.2.2.1 y2.2.2.2.2.2.2.2 y2.2.1 y2.2.2.1 y2.2.2.2.1 y2.2.2.2.2.1 y2.2.2.2.2.1)
  ·replace hs := orO_none c3 hs
   cases c4 : (s_disk_Disk_Crash_x y2.2.2.2.2.2.1 y2.2.2.2.2.2.2.1 y2.2.2.2.2.2.2.2 y2.2.1 y2.2.2.1 y2.2.2.2.1 y2.2.2.2.2.1 y2.2.2.2.2.1)
   ·replace hs := orO_none c4 hs
    cases hs
   ·rename_i y4; replace hs := orO_some c4 hs
    refine o_loc (F := (dH (bD 1000002 ((y2.2.2.2.2.2.2.1).length) [iI y2.2.1, .bool y2.2.2.1, iI y2.2.2.2.1, .vs 1 (mI y2.2.2.2.2.1)]) y2.2.2.2.2.2.1 y2.2.2.2.2.2.2.1 y2.2.2.2.2.2.2.2)) (F' := [(3002400, (oS [])), (1000001, (oF y4.1)), (1000000, .box 64 [.mp 1000001, .nils, .mp 3002400, iI y4.2.1, .bool true, iI 0, .vs 1 (mI y4.2.2)]), (1000002, (oQ y2.2.2.2.2.2.2.1)), (1000003, (oS y2.2.2.2.2.2.2.2))]) (v := .tup []) kD kr kr rfl kr (loc_g (R := []) [pO, .vs 1 (mI y2.2.2.2.2.1)] [(1000000, 1000000), (1000001, 1000001), (1000002, 1000002), (1000003, 1000003), (106, 3002400)] (callV_func hbv29 kr) (w_disk_Disk_Crash_x y2.2.2.2.2.2.1 y2.2.2.2.2.2.2.1 y2.2.2.2.2.2.2.2 y2.2.1 y2.2.2.1 y2.2.2.2.1 y2.2.2.2.2.1 y2.2.2.2.2.1 _ c4) vw2 kr kr kr kr kr kr kr kr) kr ?_
    refine oN (nT (vS (vT (oR 1 [(8, iI 8)] kr ?_))))
    refine oN (nT (v_ret (rT ?_)))
    obtain rfl := si hs
    exact fin_ret kr kr kr
  ·rename_i y3; replace hs := orO_some c3 hs
   cases hs
 ·replace hs := bif_f h1 hs
  cases hs
theorem w_disk_New  (r : Unit) (hs : s_disk_New  = some r) : FnA Tryd.prog 9 [] [] (.ptr 4 0 0) [(4, .box 64 [.mp 1, .nils, .mp 2, iI 0, .bool false, iI 0, .nils]), (2, (oS [])), (1, (oF []))] := by
 refine fnA_of_wp (N := 5) Tryd.func9 rfl rfl rfl fun cK0 => ?_
 unfold s_disk_New at hs
 refine v_same (ρ' := []) rfl rfl ?_
 refine vS (vT (oR 1 [(0, .nilp)] kr ?_))
 refine oN (nT (vS (vT (o_runh 5 [(0, .ptr 4 0 0), (4, .ptr 4 0 0), (3, .agg [.mp 1, .nils, .mp 2, iI 0, .bool false, iI 0, .nils]), (2, .mp 2), (1, .mp 1)] [(4, .box 64 [.mp 1, .nils, .mp 2, iI 0, .bool false, iI 0, .nils]), (2, (oS [])), (1, (oF []))] kr ?_))))
 refine oN (nT (v_ret ?_))
 obtain rfl := si hs
 exact fin_ret kr kr kr
theorem w_journal_Sum (record : (List UInt8)) (r : Int) (hs : s_journal_Sum record = some r) : FnA Tryd.prog 25 [.str record] [] (iI r) [] := by
 refine fnA_of_wp (N := 22) Tryd.func25 rfl rfl rfl fun cK0 => ?_
 unfold s_journal_Sum at hs
 refine v_same (ρ' := [(0, .str record)]) rfl rfl ?_
 refine vS (vT (oR 1 [(2, iI 0)] kr ?_))
 refine oN (nT (vS (vT (oR 1 [(3, iI 0)] kr ?_))))
 refine oN (nT (vS (vS (vT (oR 3 [(7, iI 0), (6, iI (List.length record : Int)), (5, .str record)] kr ?_)))))
 refine oN (nT ?_)
 obtain ⟨z1, hs, hk1⟩ := bS hs
 refine v_join (S := Int) (fun u => u = z1) (fun u => [(3, iI u)]) (fun u => []) ?_ (fun v1 hz => ?_)
 ·refine vB ?_
  refine v_fuel (S := Int × Int) (fun u => [(0, .str record), (3, iI u.1), (6, iI (List.length record : Int)), (7, iI u.2)]) (fun u => []) (s_journal_Sum_L1 record) (fun _ => rfl) KK (0, 0) hs (cut_of [0, 3, 6, 7] [] kr kr kr) (fun K1 q1 hs => ?_)
  rw [s_journal_Sum_L1] at hs
  show WpV cK0 Tryd.prog none 22 _ _ [(0, .str record), (3, iI q1.1), (6, iI (List.length record : Int)), (7, iI q1.2)] [] []
  refine vS (vT (oR 1 [(8, .bool (decide (q1.2 < (List.length record : Int))))] kr ?_))
  refine oN (nT (vS ?_))
  refine v_cond (decide (q1.2 < (List.length record : Int))) kr (fun h1 => ?_) (fun h1 => ?_)
  ·replace hs := bif_t h1 hs
   refine vK (nT (vS (vB (vS (vT (oR 2 [(4, iI q1.2), (9, iI q1.2)] kr ?_))))))
   refine oN (nT (vT (oR 3 [(12, iI q1.2), (11, .str record), (10, iI q1.1)] kr ?_)))
   obtain ⟨x1, g1, hs⟩ := bS hs; obtain ⟨g1a, g1b, g1c⟩ := idx_some g1
   refine oP (v := .int .u8 (x1.toNat : Int)) kr kr (by rw [g1c]; exact loc_indexStr (k := .i64) (i := q1.2) (l := record) kr kr kr g1a g1b) ?_
   refine oR 7 [(3, iI (Int.tmod (w64 (q1.1 + (w64 ((w64 ((x1.toNat : Int))) * (w64 (q1.2 + 1)))))) 2147483647)), (19, iI (Int.tmod (w64 (q1.1 + (w64 ((w64 ((x1.toNat : Int))) * (w64 (q1.2 + 1)))))) 2147483647)), (18, iI (w64 (q1.1 + (w64 ((w64 ((x1.toNat : Int))) * (w64 (q1.2 + 1))))))), (17, iI (w64 ((w64 ((x1.toNat : Int))) * (w64 (q1.2 + 1))))), (16, iI (w64 (q1.2 + 1))), (15, iI q1.2), (14, iI (w64 ((x1.toNat : Int))))] kr ?_
   refine oN (nB (nT (vT (oR 2 [(7, iI (w64 (q1.2 + 1))), (20, iI (w64 (q1.2 + 1)))] kr ?_))))
   refine oN (nrm_fuel ((Int.tmod (w64 (q1.1 + (w64 ((w64 ((x1.toNat : Int))) * (w64 (q1.2 + 1)))))) 2147483647), (w64 (q1.2 + 1))) hs ?_)
   exact cut_of [0, 3, 6, 7] [] kr kr kr
  ·replace hs := bif_f h1 hs
   refine v_exit (exit_thenV (exit_fuel ?_))
   refine exit_blkV ?_
   obtain rfl := si hs
   refine nrm_join q1.1 rfl ?_
   exact cut_of [3] [] kr kr kr
 ·subst hz; clear hs; have hs := hk1; clear hk1
  refine nT (vS (vT (oR 2 [(2, iI v1), (21, iI v1)] kr ?_)))
  refine oN (nT (v_ret ?_))
  obtain rfl := si hs
  exact fin_ret kr kr kr
theorem w_wire_Text (s : (List UInt8)) (r : (List UInt8)) (hs : s_wire_Text s = some r) : FnA Tryd.prog 23 [.str s] (gO ob0 ob1 ob2 u1 u2) (.str r) (gO ob0 ob1 ob2 u1 u2) := by
 refine fnA_of_wp (N := 10) Tryd.func23 rfl rfl rfl fun cK0 => ?_
 unfold s_wire_Text at hs
 refine v_same (ρ' := [(0, .str s)]) rfl rfl ?_
 refine vS (vT (oR 1 [(2, .str [])] kr ?_))
 refine oN (nT (vS (vT (oR 2 [(4, iI (List.length s : Int)), (3, .str s)] kr ?_))))
 obtain ⟨y1, c1, hs⟩ := bS hs
 refine o_loc (F := (gO ob0 ob1 ob2 u1 u2)) (F' := (gO ob0 ob1 ob2 u1 u2)) (v := .str y1) kG kr kr rfl kr (loc_gcallL (vs := [iI (List.length s : Int)]) (G := (gO ob0 ob1 ob2 u1 u2)) (R := []) (callV_func hbv44 kr) (w_itoa (ob0 := ob0) (ob1 := ob1) (ob2 := ob2) (u1 := u1) (u2 := u2) (List.length s : Int) _ c1) kr (.cons (.same _) (.nil)) kr kr kr) kr ?_
 obtain ⟨_, g1, hs⟩ := bS hs; replace g1 := grd_some g1
 refine oP (v := .str (y1 ++ ([58] : List UInt8))) kr kr (loc_concat (a := y1) (b := ([58] : List UInt8)) kr kr g1) ?_
 refine oR 1 [(7, .str s)] kr ?_
 obtain ⟨_, g2, hs⟩ := bS hs; replace g2 := grd_some g2
 refine oP (v := .str ((y1 ++ ([58] : List UInt8)) ++ s)) kr kr (loc_concat (a := (y1 ++ ([58] : List UInt8))) (b := s) kr kr g2) ?_
 obtain ⟨_, g3, hs⟩ := bS hs; replace g3 := grd_some g3
 refine oP (v := .str (((y1 ++ ([58] : List UInt8)) ++ s) ++ ([44] : List UInt8))) kr kr (loc_concat (a := ((y1 ++ ([58] : List UInt8)) ++ s)) (b := ([44] : List UInt8)) kr kr g3) ?_
 refine oR 1 [(2, .str (((y1 ++ ([58] : List UInt8)) ++ s) ++ ([44] : List UInt8)))] kr ?_
 refine oN (nT (v_ret ?_))
 obtain rfl := si hs
 exact fin_ret kr kr kr
theorem w_wire_Int (n : Int) (r : (List UInt8)) (hs : s_wire_Int n = some r) : FnA Tryd.prog 45 [iI n] (gO ob0 ob1 ob2 u1 u2) (.str r) (gO ob0 ob1 ob2 u1 u2) := by
 refine fnA_of_wp (N := 6) Tryd.func45 rfl rfl rfl fun cK0 => ?_
 unfold s_wire_Int at hs
 refine v_same (ρ' := [(0, iI n)]) rfl rfl ?_
 refine vS (vT (oR 1 [(2, .str [])] kr ?_))
 refine oN (nT (vS (vT (oR 1 [(3, iI n)] kr ?_))))
 obtain ⟨y1, c1, hs⟩ := bS hs
 refine o_loc (F := (gO ob0 ob1 ob2 u1 u2)) (F' := (gO ob0 ob1 ob2 u1 u2)) (v := .str y1) kG kr kr rfl kr (loc_gcallL (vs := [iI n]) (G := (gO ob0 ob1 ob2 u1 u2)) (R := []) (callV_func hbv44 kr) (w_itoa (ob0 := ob0) (ob1 := ob1) (ob2 := ob2) (u1 := u1) (u2 := u2) n _ c1) kr (.cons (.same _) (.nil)) kr kr kr) kr ?_
 obtain ⟨_, g1, hs⟩ := bS hs; replace g1 := grd_some g1
 refine oP (v := .str (y1 ++ ([59] : List UInt8))) kr kr (loc_concat (a := y1) (b := ([59] : List UInt8)) kr kr g1) ?_
 refine oR 1 [(2, .str (y1 ++ ([59] : List UInt8)))] kr ?_
 refine oN (nT (v_ret ?_))
 obtain rfl := si hs
 exact fin_ret kr kr kr
theorem w_wire_Num (n : Int) (r : (List UInt8)) (hs : s_wire_Num n = some r) : FnA Tryd.prog 24 [iI n] (gO ob0 ob1 ob2 u1 u2) (.str r) (gO ob0 ob1 ob2 u1 u2) := by
 refine fnA_of_wp (N := 7) Tryd.func24 rfl rfl rfl fun cK0 => ?_
 unfold s_wire_Num at hs
 refine v_same (ρ' := [(0, iI n)]) rfl rfl ?_
 refine vS (vT (oR 1 [(2, .str [])] kr ?_))
 refine oN (nT (vS (vS (vT (oR 2 [(4, .bool (decide (n < 0))), (3, iI n)] kr ?_)))))
 refine oN (nT ?_)
 refine v_cond (decide (n < 0)) kr (fun h1 => ?_) (fun h1 => ?_)
 ·replace hs := bif_t h1 hs
  refine vS (vT (oR 1 [(2, .str [])] kr ?_))
  refine oN (nT (v_ret (rT ?_)))
  obtain rfl := si hs
  exact fin_ret kr kr kr
 ·replace hs := bif_f h1 hs
  refine vK (nT (vS (vT (oR 1 [(5, iI n)] kr ?_))))
  obtain ⟨y1, c1, hs⟩ := bS hs
  refine o_loc (F := (gO ob0 ob1 ob2 u1 u2)) (F' := (gO ob0 ob1 ob2 u1 u2)) (v := .str y1) kG kr kr rfl kr (loc_gcallL (vs := [iI n]) (G := (gO ob0 ob1 ob2 u1 u2)) (R := []) (callV_func hbv45 kr) (w_wire_Int (ob0 := ob0) (ob1 := ob1) (ob2 := ob2) (u1 := u1) (u2 := u2) n _ c1) kr (.cons (.same _) (.nil)) kr kr kr) kr ?_
  refine oR 1 [(2, .str y1)] kr ?_
  refine oN (nT (v_ret ?_))
  obtain rfl := si hs
  exact fin_ret kr kr kr
theorem w_journal_form (record : (List UInt8)) (r : (List UInt8)) (hs : s_journal_form record = some r) : FnA Tryd.prog 37 [.str record] (gO ob0 ob1 ob2 u1 u2) (.str r) (gO ob0 ob1 ob2 u1 u2) := by
 refine fnA_of_wp (N := 9) Tryd.func37 rfl rfl rfl fun cK0 => ?_
 unfold s_journal_form at hs
 refine v_same (ρ' := [(0, .str record)]) rfl rfl ?_
 refine vS (vT (oR 1 [(2, .str [])] kr ?_))
 refine oN (nT (vS (vT (oR 1 [(3, .str record)] kr ?_))))
 obtain ⟨y1, c1, hs⟩ := bS hs
 refine o_loc (F := (gO ob0 ob1 ob2 u1 u2)) (F' := (gO ob0 ob1 ob2 u1 u2)) (v := .str y1) kG kr kr rfl kr (loc_gcallL (vs := [.str record]) (G := (gO ob0 ob1 ob2 u1 u2)) (R := []) (callV_func hbv23 kr) (w_wire_Text (ob0 := ob0) (ob1 := ob1) (ob2 := ob2) (u1 := u1) (u2 := u2) record _ c1) kr (.cons (.same _) (.nil)) kr kr kr) kr ?_
 refine oR 1 [(5, .str record)] kr ?_
 obtain ⟨y2, c2, hs⟩ := bS hs
 refine oP (v := iI y2) kr kr (loc_gcall0 (callV_func hbv25 kr) (w_journal_Sum record _ c2) kr) ?_
 obtain ⟨y3, c3, hs⟩ := bS hs
 refine o_loc (F := (gO ob0 ob1 ob2 u1 u2)) (F' := (gO ob0 ob1 ob2 u1 u2)) (v := .str y3) kG kr kr rfl kr (loc_gcallL (vs := [iI y2]) (G := (gO ob0 ob1 ob2 u1 u2)) (R := []) (callV_func hbv24 kr) (w_wire_Num (ob0 := ob0) (ob1 := ob1) (ob2 := ob2) (u1 := u1) (u2 := u2) y2 _ c3) kr (.cons (.same _) (.nil)) kr kr kr) kr ?_
 obtain ⟨_, g1, hs⟩ := bS hs; replace g1 := grd_some g1
 refine oP (v := .str (y1 ++ y3)) kr kr (loc_concat (a := y1) (b := y3) kr kr g1) ?_
 refine oR 1 [(2, .str (y1 ++ y3))] kr ?_
 refine oN (nT (v_ret ?_))
 obtain rfl := si hs
 exact fin_ret kr kr kr
theorem w_wire_Open (s : (List UInt8)) (r : (List UInt8)) (hs : s_wire_Open s = some r) : FnA Tryd.prog 19 [.str s] [] (.ptr 5 0 0) [(5, .box 74 [.str r, .bool false])] := by
 refine fnA_of_wp (N := 6) Tryd.func19 rfl rfl rfl fun cK0 => ?_
 unfold s_wire_Open at hs
 refine v_same (ρ' := [(0, .str s)]) rfl rfl ?_
 refine vS (vT (oR 1 [(2, .nilp)] kr ?_))
 refine oN (nT (vS (vT (o_runh 4 [(2, .ptr 5 0 0), (5, .ptr 5 0 0), (4, .agg [.str s, .bool false]), (3, .str s)] [(5, .box 74 [.str s, .bool false])] kr ?_))))
 refine oN (nT (v_ret ?_))
 obtain rfl := si hs
 exact fin_ret kr kr kr
theorem w_wire_Reader_fail (r_rest : (List UInt8)) (r_bad : Bool) (r : Unit) (hs : s_wire_Reader_fail r_rest r_bad = some r) : FnA Tryd.prog 42 [pO] [(1000000, .box 74 [.str r_rest, .bool r_bad])] (.tup []) [(1000000, .box 74 [.str [], .bool true])] := by
 refine fnA_of_wp (N := 8) Tryd.func42 rfl rfl rfl fun cK0 => ?_
 unfold s_wire_Reader_fail at hs
 refine v_same (ρ' := [(0, pO)]) rfl rfl ?_
 refine vT (o_runh 8 [(7, .ptr 1000000 0 1), (6, pO), (5, pO), (4, pO), (3, pO), (2, pO)] [(1000000, .box 74 [.str [], .bool true])] kr ?_)
 refine oN (fin_nrm ?_)
 obtain rfl := si hs
 exact fin_ret kr kr kr
theorem w_wire_Reader_number (r_rest : (List UInt8)) (r_bad : Bool) (end_ : Int) (least : Int) (r : Int × (List UInt8) × Bool) (hs : s_wire_Reader_number r_rest r_bad end_ least = some r) : FnA Tryd.prog 41 [pO, .int .u8 end_, iI least] [(1000000, .box 74 [.str r_rest, .bool r_bad]), (900000000, gl0 ob0), (900000001, gl1 ob1 u1), (900000002, gl2 ob2 u2)] (iI r.1) [(1000000, .box 74 [.str r.2.1, .bool r.2.2]), (900000000, gl0 ob0), (900000001, gl1 ob1 u1), (900000002, gl2 ob2 u2)] := by
 refine fnA_of_wp (N := 64) Tryd.func41 rfl rfl rfl fun cK0 => ?_
 unfold s_wire_Reader_number at hs
 refine v_same (ρ' := [(0, pO), (1, .int .u8 end_), (2, iI least)]) rfl rfl ?_
 refine vS (vT (oR 1 [(6, iI 0)] kr ?_))
 refine oN (nT (vS (v_draw mixedH kr ?_)))
 refine d_runs 10 0 [(20, iI (min (List.length r_rest : Int) 21)), (19, iI (List.length r_rest : Int)), (18, .str r_rest), (17, pO), (16, pO), (15, pO), (14, .str r_rest), (13, pO), (12, pO), (11, pO)] [⟨9, [], []⟩, ⟨8, [], []⟩, ⟨7, [], [1000000]⟩, ⟨6, [], []⟩, ⟨5, [], []⟩, ⟨4, [], []⟩, ⟨3, [], [1000000]⟩, ⟨2, [], []⟩, ⟨1, [], []⟩, ⟨0, [], []⟩] kr kr ?_
 obtain ⟨x1, g1, hs⟩ := bS hs; obtain ⟨g1a, g1b, g1c, g1d⟩ := cut_some g1
 refine d_pure (v := .str x1) 10 rfl rfl rfl rfl kr kr (by rw [g1d]; exact loc_sliceStr (s := r_rest) (l := 0) (h := (min (List.length r_rest : Int) 21)) kr kr rfl ⟨.i64, by kernel_rfl⟩ g1a g1b g1c) ?_
 refine d_runs 1 11 [(7, .str x1)] (pfp 1 11) kr kr ?_
 refine d_nil kr ?_
 refine nT (vS (vT (oR 2 [(23, .int .u8 end_), (22, .str x1)] kr ?_)))
 obtain ⟨y1, c1, hs⟩ := bS hs
 refine oP (v := iI y1) kr kr (loc_gcall0 (callV_func hbv49 kr) (w_indexByte x1 end_ _ c1) kr) ?_
 refine oR 1 [(8, iI y1)] kr ?_
 refine oN (nT (vS (vS (vT (oR 2 [(26, .bool (decide (y1 < 0))), (25, iI y1)] kr ?_)))))
 refine oN (nT ?_)
 refine v_cond (decide (y1 < 0)) kr (fun h1 => ?_) (fun h1 => ?_)
 ·replace hs := bif_t h1 hs
  refine vS (vT (oR 1 [(27, pO)] kr ?_))
  obtain ⟨y2, c2, hs⟩ := bS hs
  refine o_loc (F := [(1000000, .box 74 [.str r_rest, .bool r_bad])]) (F' := [(1000000, .box 74 [.str [], .bool true])]) (v := .tup []) [1000000] kr kr rfl kr (loc_g (R := []) [pO] [(1000000, 1000000)] (callV_func hbv42 kr) (w_wire_Reader_fail r_rest r_bad _ c2) (.cons (.same _) (.nil)) kr kr kr kr kr kr kr kr) kr ?_
  refine oN (nT (vS (vT (oR 1 [(6, iI 0)] kr ?_))))
  refine oN (nT (v_ret (rT ?_)))
  obtain rfl := si hs
  exact fin_ret kr kr kr
 ·replace hs := bif_f h1 hs
  refine vK (nT (vS (vT (oR 2 [(31, iI y1), (30, .str x1)] kr ?_))))
  obtain ⟨x2, g2, hs⟩ := bS hs; obtain ⟨g2a, g2b, g2c, g2d⟩ := cut_some g2
  refine oP (v := .str x2) kr kr (by rw [g2d]; exact loc_sliceStr (s := x1) (l := 0) (h := y1) kr kr rfl ⟨.i64, by kernel_rfl⟩ g2a g2b g2c) ?_
  obtain ⟨_, g3, hs⟩ := bS hs; replace g3 := grd_some g3
  cases h2 : atoiV x2
  ·replace hs := optE_none h2 hs
   refine o_loc (F := (gO ob0 ob1 ob2 u1 u2)) (F' := (gO ob0 ob1 ob2 u1 u2)) (v := .tup [iI (atoiE x2), .ifc 99 .undef]) kG kr kr rfl kr (loc_gcallL (G := (gO ob0 ob1 ob2 u1 u2)) (R := []) (callV_func hbv50 kr) (w_atoi_no x2 h2 g3) kr (.cons (.same _) (.nil)) kr kr kr) kr ?_
   refine oR 5 [(10, .ifc 99 .undef), (9, iI (atoiE x2)), (35, .ifc 99 .undef), (34, iI (atoiE x2)), (29, .tup [iI (atoiE x2), .ifc 99 .undef])] kr ?_
   refine oN (nT (vS (vS (v_draw mixedH kr ?_))))
   refine d_runs 1 0 [(36, .ifc 99 .undef)] (pfp 1 0) kr kr ?_
   refine d_pure (v := .bool true) 1 rfl rfl rfl rfl kr kr (loc_ifaceNil (v := .ifc 99 .undef) (b := false) (.inr ⟨99, .undef, rfl, rfl⟩) (.inr ⟨rfl, rfl⟩) kr kr) ?_
   refine d_runs 13 2 [(50, .bool true), (49, .no), (48, .no), (47, .no), (46, .bool true), (45, .bool true), (44, .no), (43, .no), (42, .no), (41, .no), (40, .no), (39, .no), (38, .bool true)] (pfp 13 14) kr kr ?_
   refine d_nil kr ?_
   refine nT (v_cond_t kr ?_)
   refine vS (vT (oR 1 [(51, pO)] kr ?_))
   obtain ⟨y4, c3, hs⟩ := bS hs
   refine o_loc (F := [(1000000, .box 74 [.str r_rest, .bool r_bad])]) (F' := [(1000000, .box 74 [.str [], .bool true])]) (v := .tup []) [1000000] kr kr rfl kr (loc_g (R := []) [pO] [(1000000, 1000000)] (callV_func hbv42 kr) (w_wire_Reader_fail r_rest r_bad _ c3) (.cons (.same _) (.nil)) kr kr kr kr kr kr kr kr) kr ?_
   refine oN (nT (vS (vT (oR 1 [(6, iI 0)] kr ?_))))
   refine oN (nT (v_ret (rT ?_)))
   obtain rfl := si hs
   exact fin_ret kr kr kr
  ·rename_i y3
   replace hs := optE_some h2 hs
   refine o_loc (F := (gO ob0 ob1 ob2 u1 u2)) (F' := (gO ob0 ob1 ob2 u1 u2)) (v := .tup [iI y3, .nili]) kG kr kr rfl kr (loc_gcallL (G := (gO ob0 ob1 ob2 u1 u2)) (R := []) (callV_func hbv50 kr) (w_atoi_ok x2 y3 h2 g3) kr (.cons (.same _) (.nil)) kr kr kr) kr ?_
   refine oR 5 [(10, .nili), (9, iI y3), (35, .nili), (34, iI y3), (29, .tup [iI y3, .nili])] kr ?_
   refine oN (nT (vS (vS ?_)))
   obtain ⟨z1, hs, hk1⟩ := bS hs
   refine v_join (S := Bool) (fun u => u = z1) (fun u => [(0, pO), (8, iI y1), (9, iI y3), (50, .bool u)]) (fun u => [(1000000, .box 74 [.str r_rest, .bool r_bad]), (900000000, gl0 ob0), (900000001, gl1 ob1 u1), (900000002, gl2 ob2 u2)]) ?_ (fun v1 hz => ?_)
   ·refine v_draw mixedH kr ?_
    refine d_runs 1 0 [(36, .nili)] (pfp 1 0) kr kr ?_
    refine d_pure (v := .bool false) 1 rfl rfl rfl rfl kr kr (loc_ifaceNil (v := .nili) (b := true) (.inl ⟨rfl, rfl⟩) (.inr ⟨rfl, rfl⟩) kr kr) ?_
    refine d_runs 2 2 [(39, iI y3), (38, .bool false)] (pfp 2 3) kr kr ?_
    obtain ⟨y5, c4, hs⟩ := bS hs
    refine d_loc (F := []) (R := (gO ob0 ob1 ob2 u1 u2)) (F' := []) (v := .str y5) 4 [] kG rfl rfl rfl rfl kr kr kr kr kr kr kr kr (loc_gcallL (vs := [iI y3]) (G := (gO ob0 ob1 ob2 u1 u2)) (R := []) (callV_func hbv44 kr) (w_itoa (ob0 := ob0) (ob1 := ob1) (ob2 := ob2) (u1 := u1) (u2 := u2) y3 _ c4) kr (.cons (.same _) (.nil)) kr kr kr) ?_
    refine d_runs 2 5 [(42, iI y1), (41, .str x1)] (pfp 2 6) kr kr ?_
    obtain ⟨x3, g4, hs⟩ := bS hs; obtain ⟨g4a, g4b, g4c, g4d⟩ := cut_some g4
    refine d_pure (v := .str x3) 7 rfl rfl rfl rfl kr kr (by rw [g4d]; exact loc_sliceStr (s := x1) (l := 0) (h := y1) kr kr rfl ⟨.i64, by kernel_rfl⟩ g4a g4b g4c) ?_
    refine d_runs 3 8 [(46, .bool (!(decide (y5 = x3)))), (45, .bool (!(decide (y5 = x3)))), (44, .bool (!(decide (y5 = x3))))] (pfp 3 10) kr kr ?_
    cases h3 : ((!(decide (y5 = x3))))
    ·replace hs := bif_f h3 hs
     refine d_runs 4 11 [(50, .bool (decide (y3 < least))), (49, .bool (decide (y3 < least))), (48, iI least), (47, iI y3)] (pfp 4 14) kr kr ?_
     refine d_nil kr ?_
     obtain rfl := si hs
     refine nrm_join (decide (y3 < least)) rfl ?_
     exact cut_of [0, 8, 9, 50] [1000000, 900000000, 900000001, 900000002] kr kr kr
    ·replace hs := bif_t h3 hs
     refine d_runs 4 11 [(50, .bool true), (49, .no), (48, .no), (47, .no)] (pfp 4 14) kr kr ?_
     refine d_nil kr ?_
     obtain rfl := si hs
     refine nrm_join true rfl ?_
     exact cut_of [0, 8, 9, 50] [1000000, 900000000, 900000001, 900000002] kr kr kr
   ·subst hz; clear hs; have hs := hk1; clear hk1
    refine nT ?_
    refine v_cond v1 kr (fun h4 => ?_) (fun h4 => ?_)
    ·replace hs := bif_t h4 hs
     refine vS (vT (oR 1 [(51, pO)] kr ?_))
     obtain ⟨y6, c5, hs⟩ := bS hs
     refine o_loc (F := [(1000000, .box 74 [.str r_rest, .bool r_bad])]) (F' := [(1000000, .box 74 [.str [], .bool true])]) (v := .tup []) [1000000] kr kr rfl kr (loc_g (R := []) [pO] [(1000000, 1000000)] (callV_func hbv42 kr) (w_wire_Reader_fail r_rest r_bad _ c5) (.cons (.same _) (.nil)) kr kr kr kr kr kr kr kr) kr ?_
     refine oN (nT (vS (vT (oR 1 [(6, iI 0)] kr ?_))))
     refine oN (nT (v_ret (rT ?_)))
     obtain rfl := si hs
     exact fin_ret kr kr kr
    ·replace hs := bif_f h4 hs
     refine vK (nT (vS (vT (oR 7 [(59, iI (w64 (y1 + 1))), (58, iI y1), (57, .str r_rest), (56, pO), (55, pO), (54, pO), (53, pO)] kr ?_))))
     obtain ⟨x4, g5, hs⟩ := bS hs; obtain ⟨g5a, g5b, g5c, g5d⟩ := cut_some g5
     refine oP (v := .str x4) kr kr (by rw [g5d]; exact loc_sliceStr (s := r_rest) (l := (w64 (y1 + 1))) (h := (List.length r_rest : Int)) kr kr ⟨.i64, by kernel_rfl⟩ rfl g5a g5b g5c) ?_
     refine o_runh 3 [(62, pO), (61, pO)] [(1000000, .box 74 [.str x4, .bool r_bad]), (900000000, gl0 ob0), (900000001, gl1 ob1 u1), (900000002, gl2 ob2 u2)] kr ?_
     refine oN (nT (vS (vT (oR 2 [(6, iI y3), (63, iI y3)] kr ?_))))
     refine oN (nT (v_ret ?_))
     obtain rfl := si hs
     exact fin_ret kr kr kr
end Go.Proofs.YtoflckochjijcaaDoor
