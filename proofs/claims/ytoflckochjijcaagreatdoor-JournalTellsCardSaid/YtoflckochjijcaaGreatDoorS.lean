/- printed by gen2.py -/
import Derived.Test.YtoflckochjijcaaGreatDoorE
import Derived.Test.YtoflckochjijcaaGreatDoorSD
set_option linter.all false
set_option maxRecDepth 100000
namespace Go.Proofs.YtoflckochjijcaaGreatDoor
open Go Go.RowKit Go.Eng Go.EV
variable [Fuel]
variable {ob0 ob1 ob2 : Go.Obj} {u1 u2 : TypeId}

theorem hbv46 : hasBody Tryz.prog 46 := body_of kr
theorem kok3 : KeyOK Tryz.prog 3 (V.int .i64) (fun n : Int => Value.int .i64 n) := keyOK_int kr
theorem hbv44 : hasBody Tryz.prog 44 := body_of kr
theorem mixedH : Tryz.prog.follows .mixedOrders = true := by kernel_rfl
theorem kok76 : KeyOK Tryz.prog 76 (fun e => V.agg (enc_disk_sector e)) (fun e : disk_sector => Value.agg (vals_disk_sector e).toArray) := keyOK_disk_sector kr
theorem hbv70 : hasBody Tryz.prog 70 := body_of kr
theorem hbv84 : hasBody Tryz.prog 84 := body_of kr
theorem hbv69 : hasBody Tryz.prog 69 := body_of kr
theorem hbv71 : hasBody Tryz.prog 71 := body_of kr
theorem w_disk_Disk_may (d_files : (List (Int × disk_file))) (d_queue : (List disk_sector)) (d_set : (List (disk_sector × Bool))) (d_lost : Int) (d_down : Bool) (d_armed : Int) (d_keep : (List Int)) (f : Int) (r : Int × Int × Bool × Int × (List Int)) (hs : s_disk_Disk_may d_files d_queue d_set d_lost d_down d_armed d_keep f = some r) : FnA Tryz.prog 46 [.ptr 1000000 0 0, .int .i64 f] [(1000000, .box 60 [.mp 1000001, .sl 2 1000002 ((d_queue).length) 0 ((d_queue).length), .mp 1000003, .int .i64 d_lost, .bool d_down, .int .i64 d_armed, .vs 1 (mI d_keep)]), (1000001, .map (encM (V.int .i64) (fun e => V.agg (enc_disk_file e)) d_files)), (1000002, .row 76 2 0 (mM enc_disk_sector d_queue)), (1000003, .map (encM (fun e => V.agg (enc_disk_sector e)) V.bool d_set))] (.int .i64 r.1) [(1000000, .box 60 [.mp 1000001, .sl 2 1000002 ((d_queue).length) 0 ((d_queue).length), .mp 1000003, .int .i64 r.2.1, .bool r.2.2.1, .int .i64 r.2.2.2.1, .vs 1 (mI r.2.2.2.2)]), (1000001, .map (encM (V.int .i64) (fun e => V.agg (enc_disk_file e)) d_files)), (1000002, .row 76 2 0 (mM enc_disk_sector d_queue)), (1000003, .map (encM (fun e => V.agg (enc_disk_sector e)) V.bool d_set))] := by
 refine fnA_of_wp (N := 17) Tryz.func46 rfl rfl rfl fun cK0 => ?_
 unfold s_disk_Disk_may at hs
 refine v_same (ρ' := [(0, .ptr 1000000 0 0), (1, .int .i64 f)]) rfl rfl ?_
 refine vS (vT (oR 1 [(4, .int .i64 0)] kr ?_))
 refine oN (nT (vS (vB (vS (vT (oR 5 [(5, .bool d_down), (9, .bool d_down), (8, .ptr 1000000 0 4), (7, .ptr 1000000 0 0), (6, .ptr 1000000 0 0)] kr ?_))))))
 refine oN (nT ?_)
 refine v_cond d_down kr (fun h1 => ?_) (fun h1 => ?_)
 ·replace hs := bif_t h1 hs
  refine vS (vT (oR 1 [(4, .int .i64 8)] kr ?_))
  refine oN (nT (v_ret (rB (rT ?_))))
  obtain rfl := si hs
  exact fin_ret kr kr kr
 ·replace hs := bif_f h1 hs
  refine vS ?_
  obtain ⟨z1, hs, hk1⟩ := bS hs
  refine v_join (S := Bool) (fun u => u = z1) (fun u => [(10, .bool u)]) (fun u => [(1000000, .box 60 [.mp 1000001, .sl 2 1000002 ((d_queue).length) 0 ((d_queue).length), .mp 1000003, .int .i64 d_lost, .bool d_down, .int .i64 d_armed, .vs 1 (mI d_keep)]), (1000001, .map (encM (V.int .i64) (fun e => V.agg (enc_disk_file e)) d_files)), (1000002, .row 76 2 0 (mM enc_disk_sector d_queue)), (1000003, .map (encM (fun e => V.agg (enc_disk_sector e)) V.bool d_set))]) ?_ (fun v1 hz => ?_)
  ·refine vT (oR 3 [(13, .bool (decide (f < 0))), (12, .bool (decide (f < 0))), (11, .int .i64 f)] kr ?_)
   cases h2 : ((decide (f < 0)))
   ·replace hs := bif_f h2 hs
    refine oR 4 [(10, .bool (decide (f ≥ 16))), (16, .bool (decide (f ≥ 16))), (15, .bool (decide (f ≥ 16))), (14, .int .i64 f)] kr ?_
    refine oN ?_
    obtain rfl := si hs
    refine nrm_join (decide (f ≥ 16)) rfl ?_
    exact cut_of [10] [1000000, 1000001, 1000002, 1000003] kr kr kr
   ·replace hs := bif_t h2 hs
    refine oR 4 [(10, .bool true), (16, .bool true), (15, .no), (14, .no)] kr ?_
    refine oN ?_
    obtain rfl := si hs
    refine nrm_join true rfl ?_
    exact cut_of [10] [1000000, 1000001, 1000002, 1000003] kr kr kr
  ·subst hz; clear hs; have hs := hk1; clear hk1
   refine nT ?_
   refine v_cond v1 kr (fun h3 => ?_) (fun h3 => ?_)
   ·replace hs := bif_t h3 hs
    refine vS (vT (oR 1 [(4, .int .i64 1)] kr ?_))
    refine oN (nT (v_ret (rB (rT ?_))))
    obtain rfl := si hs
    exact fin_ret kr kr kr
   ·replace hs := bif_f h3 hs
    refine vK (nB (nT (vS (vT (oR 1 [(4, .int .i64 0)] kr ?_)))))
    refine oN (nT (v_ret ?_))
    obtain rfl := si hs
    exact fin_ret kr kr kr
theorem w_disk_put (s : (List UInt8)) (at_ : Int) (t : (List UInt8)) (r : (List UInt8)) (hs : s_disk_put s at_ t = some r) : FnA Tryz.prog 44 [.str s, .int .i64 at_, .str t] [] (.str r) [] := by
 refine fnA_of_wp (N := 29) Tryz.func44 rfl rfl rfl fun cK0 => ?_
 unfold s_disk_put at hs
 refine v_same (ρ' := [(0, .str s), (1, .int .i64 at_), (2, .str t)]) rfl rfl ?_
 refine vS (vT (oR 1 [(6, .str [])] kr ?_))
 refine oN (nT (vS (vS (vT (oR 2 [(9, .bool (decide (t = []))), (8, .str t)] kr ?_)))))
 refine oN (nT ?_)
 refine v_cond (decide (t = [])) kr (fun h1 => ?_) (fun h1 => ?_)
 ·replace hs := bif_t h1 hs
  refine vS (vT (oR 2 [(6, .str s), (10, .str s)] kr ?_))
  refine oN (nT (v_ret (rT ?_)))
  obtain rfl := si hs
  exact fin_ret kr kr kr
 ·replace hs := bif_f h1 hs
  refine vK (nT (vS (vT (oR 7 [(17, .int .i64 (max (List.length s : Int) (w64 (at_ + (List.length t : Int))))), (16, .int .i64 (w64 (at_ + (List.length t : Int)))), (15, .int .i64 (List.length t : Int)), (14, .str t), (13, .int .i64 at_), (12, .int .i64 (List.length s : Int)), (11, .str s)] kr ?_))))
  obtain ⟨⟨g1a, g1b, g1c⟩, hs⟩ := bG hs
  refine o_loc (F := []) (F' := [(18, .row 5 1 0 (List.map (encK .u8) (List.replicate (Int.toNat (max (List.length s : Int) (w64 (at_ + (List.length t : Int))))) (0 : Int))))]) (v := .sl 1 18 (((List.replicate (Int.toNat (max (List.length s : Int) (w64 (at_ + (List.length t : Int))))) (0 : Int))).length) 0 (((List.replicate (Int.toNat (max (List.length s : Int) (w64 (at_ + (List.length t : Int))))) (0 : Int))).length)) [] kr kr rfl kr (loc_makeSliceT (L := ((List.replicate (Int.toNat (max (List.length s : Int) (w64 (at_ + (List.length t : Int))))) (0 : Int))).length) (e := 5) (sz := 1) (bytes := 1) (q := (max (List.length s : Int) (w64 (at_ + (List.length t : Int))))) (k := .i64) (k2 := .i64) (cs := [.int .u8 0]) (cs2 := [.int .u8 0]) kr kr kr kr kr g1a g1b g1c (List.map_replicate (f := (encK .u8))).symm (List.length_replicate ..) (fun _ _ h => h)) kr ?_
  refine oR 1 [(7, .sl 1 18 (((List.replicate (Int.toNat (max (List.length s : Int) (w64 (at_ + (List.length t : Int))))) (0 : Int))).length) 0 (((List.replicate (Int.toNat (max (List.length s : Int) (w64 (at_ + (List.length t : Int))))) (0 : Int))).length))] kr ?_
  refine oN (nT (vS (vT (oR 2 [(20, .str s), (19, .sl 1 18 (((List.replicate (Int.toNat (max (List.length s : Int) (w64 (at_ + (List.length t : Int))))) (0 : Int))).length) 0 (((List.replicate (Int.toNat (max (List.length s : Int) (w64 (at_ + (List.length t : Int))))) (0 : Int))).length))] kr ?_))))
  refine o_loc (F := [(18, .row 5 1 0 (List.map (encK .u8) (List.replicate (Int.toNat (max (List.length s : Int) (w64 (at_ + (List.length t : Int))))) (0 : Int))))]) (F' := [(18, .row 5 1 0 (List.map (encK .u8) (cpyT (List.replicate (Int.toNat (max (List.length s : Int) (w64 (at_ + (List.length t : Int))))) (0 : Int)) 0 (List.map (fun b => (b.toNat : Int)) (List.take (min (List.length s) (((List.replicate (Int.toNat (max (List.length s : Int) (w64 (at_ + (List.length t : Int))))) (0 : Int))).length)) s)))))]) (v := .int .i64 (((min (List.length s) (((List.replicate (Int.toNat (max (List.length s : Int) (w64 (at_ + (List.length t : Int))))) (0 : Int))).length)) : Nat) : Int)) [18] kr kr rfl kr (loc_copyStr (e := 5) (bytes := 1) (k := 18) (L := (((List.replicate (Int.toNat (max (List.length s : Int) (w64 (at_ + (List.length t : Int))))) (0 : Int))).length)) (o := 0) (n := (((List.replicate (Int.toNat (max (List.length s : Int) (w64 (at_ + (List.length t : Int))))) (0 : Int))).length)) (c := (min (List.length s) (((List.replicate (Int.toNat (max (List.length s : Int) (w64 (at_ + (List.length t : Int))))) (0 : Int))).length))) (q := (List.replicate (Int.toNat (max (List.length s : Int) (w64 (at_ + (List.length t : Int))))) (0 : Int))) (ys := s) kr kr (by first | rfl | simp only [List.length_set, cpyT_length]) (by omega) kr rfl rfl) kr ?_
  refine oN (nT (vS (vT (oR 2 [(23, .int .i64 at_), (22, .sl 1 18 (((List.replicate (Int.toNat (max (List.length s : Int) (w64 (at_ + (List.length t : Int))))) (0 : Int))).length) 0 (((List.replicate (Int.toNat (max (List.length s : Int) (w64 (at_ + (List.length t : Int))))) (0 : Int))).length))] kr ?_))))
  obtain ⟨⟨g2a, g2b, g2c⟩, hs⟩ := bG hs
  refine oP (v := .sl 1 18 (((List.replicate (Int.toNat (max (List.length s : Int) (w64 (at_ + (List.length t : Int))))) (0 : Int))).length) (Int.toNat at_) (Int.toNat (((List.replicate (Int.toNat (max (List.length s : Int) (w64 (at_ + (List.length t : Int))))) (0 : Int))).length : Int) - Int.toNat at_)) kr kr (loc_sliceRowT (e := 5) (sz := 1) (k := 18) (L := (((List.replicate (Int.toNat (max (List.length s : Int) (w64 (at_ + (List.length t : Int))))) (0 : Int))).length)) (n := ((List.replicate (Int.toNat (max (List.length s : Int) (w64 (at_ + (List.length t : Int))))) (0 : Int))).length) (l := at_) (h := (((List.replicate (Int.toNat (max (List.length s : Int) (w64 (at_ + (List.length t : Int))))) (0 : Int))).length : Int)) kr kr ⟨.i64, by kernel_rfl⟩ rfl g2a g2b g2c) ?_
  refine oR 1 [(25, .str t)] kr ?_
  refine o_loc (F := [(18, .row 5 1 0 (List.map (encK .u8) (cpyT (List.replicate (Int.toNat (max (List.length s : Int) (w64 (at_ + (List.length t : Int))))) (0 : Int)) 0 (List.map (fun b => (b.toNat : Int)) (List.take (min (List.length s) (((List.replicate (Int.toNat (max (List.length s : Int) (w64 (at_ + (List.length t : Int))))) (0 : Int))).length)) s)))))]) (F' := [(18, .row 5 1 0 (List.map (encK .u8) (cpyT (cpyT (List.replicate (Int.toNat (max (List.length s : Int) (w64 (at_ + (List.length t : Int))))) (0 : Int)) 0 (List.map (fun b => (b.toNat : Int)) (List.take (min (List.length s) (((List.replicate (Int.toNat (max (List.length s : Int) (w64 (at_ + (List.length t : Int))))) (0 : Int))).length)) s))) (Int.toNat at_) (List.map (fun b => (b.toNat : Int)) (List.take (min (List.length t) (Int.toNat (((List.replicate (Int.toNat (max (List.length s : Int) (w64 (at_ + (List.length t : Int))))) (0 : Int))).length : Int) - Int.toNat at_)) t)))))]) (v := .int .i64 (((min (List.length t) (Int.toNat (((List.replicate (Int.toNat (max (List.length s : Int) (w64 (at_ + (List.length t : Int))))) (0 : Int))).length : Int) - Int.toNat at_)) : Nat) : Int)) [18] kr kr rfl kr (loc_copyStr (e := 5) (bytes := 1) (k := 18) (L := (((List.replicate (Int.toNat (max (List.length s : Int) (w64 (at_ + (List.length t : Int))))) (0 : Int))).length)) (o := (Int.toNat at_)) (n := (Int.toNat (((List.replicate (Int.toNat (max (List.length s : Int) (w64 (at_ + (List.length t : Int))))) (0 : Int))).length : Int) - Int.toNat at_)) (c := (min (List.length t) (Int.toNat (((List.replicate (Int.toNat (max (List.length s : Int) (w64 (at_ + (List.length t : Int))))) (0 : Int))).length : Int) - Int.toNat at_))) (q := (cpyT (List.replicate (Int.toNat (max (List.length s : Int) (w64 (at_ + (List.length t : Int))))) (0 : Int)) 0 (List.map (fun b => (b.toNat : Int)) (List.take (min (List.length s) (((List.replicate (Int.toNat (max (List.length s : Int) (w64 (at_ + (List.length t : Int))))) (0 : Int))).length)) s)))) (ys := t) kr kr (by first | rfl | simp only [List.length_set, cpyT_length]) (by omega) kr rfl rfl) kr ?_
  refine oN (nT (vS (vT (oR 1 [(27, .sl 1 18 (((List.replicate (Int.toNat (max (List.length s : Int) (w64 (at_ + (List.length t : Int))))) (0 : Int))).length) 0 (((List.replicate (Int.toNat (max (List.length s : Int) (w64 (at_ + (List.length t : Int))))) (0 : Int))).length))] kr ?_))))
  refine o_loc (F := [(18, .row 5 1 0 (List.map (encK .u8) (cpyT (cpyT (List.replicate (Int.toNat (max (List.length s : Int) (w64 (at_ + (List.length t : Int))))) (0 : Int)) 0 (List.map (fun b => (b.toNat : Int)) (List.take (min (List.length s) (((List.replicate (Int.toNat (max (List.length s : Int) (w64 (at_ + (List.length t : Int))))) (0 : Int))).length)) s))) (Int.toNat at_) (List.map (fun b => (b.toNat : Int)) (List.take (min (List.length t) (Int.toNat (((List.replicate (Int.toNat (max (List.length s : Int) (w64 (at_ + (List.length t : Int))))) (0 : Int))).length : Int) - Int.toNat at_)) t)))))]) (F' := [(18, .row 5 1 0 (List.map (encK .u8) (cpyT (cpyT (List.replicate (Int.toNat (max (List.length s : Int) (w64 (at_ + (List.length t : Int))))) (0 : Int)) 0 (List.map (fun b => (b.toNat : Int)) (List.take (min (List.length s) (((List.replicate (Int.toNat (max (List.length s : Int) (w64 (at_ + (List.length t : Int))))) (0 : Int))).length)) s))) (Int.toNat at_) (List.map (fun b => (b.toNat : Int)) (List.take (min (List.length t) (Int.toNat (((List.replicate (Int.toNat (max (List.length s : Int) (w64 (at_ + (List.length t : Int))))) (0 : Int))).length : Int) - Int.toNat at_)) t)))))]) (v := .str (bytesOf (cpyT (cpyT (List.replicate (Int.toNat (max (List.length s : Int) (w64 (at_ + (List.length t : Int))))) (0 : Int)) 0 (List.map (fun b => (b.toNat : Int)) (List.take (min (List.length s) (((List.replicate (Int.toNat (max (List.length s : Int) (w64 (at_ + (List.length t : Int))))) (0 : Int))).length)) s))) (Int.toNat at_) (List.map (fun b => (b.toNat : Int)) (List.take (min (List.length t) (Int.toNat (((List.replicate (Int.toNat (max (List.length s : Int) (w64 (at_ + (List.length t : Int))))) (0 : Int))).length : Int) - Int.toNat at_)) t))))) [18] kr kr rfl kr (loc_bytesStr (t := 5) (fz := 0) (L := ((List.replicate (Int.toNat (max (List.length s : Int) (w64 (at_ + (List.length t : Int))))) (0 : Int))).length) (l := (cpyT (cpyT (List.replicate (Int.toNat (max (List.length s : Int) (w64 (at_ + (List.length t : Int))))) (0 : Int)) 0 (List.map (fun b => (b.toNat : Int)) (List.take (min (List.length s) (((List.replicate (Int.toNat (max (List.length s : Int) (w64 (at_ + (List.length t : Int))))) (0 : Int))).length)) s))) (Int.toNat at_) (List.map (fun b => (b.toNat : Int)) (List.take (min (List.length t) (Int.toNat (((List.replicate (Int.toNat (max (List.length s : Int) (w64 (at_ + (List.length t : Int))))) (0 : Int))).length : Int) - Int.toNat at_)) t)))) kr kr (by first | (simp only [List.length_map, List.length_set, cpyT_length]; done) | rfl)) kr ?_
  refine oR 1 [(6, .str (bytesOf (cpyT (cpyT (List.replicate (Int.toNat (max (List.length s : Int) (w64 (at_ + (List.length t : Int))))) (0 : Int)) 0 (List.map (fun b => (b.toNat : Int)) (List.take (min (List.length s) (((List.replicate (Int.toNat (max (List.length s : Int) (w64 (at_ + (List.length t : Int))))) (0 : Int))).length)) s))) (Int.toNat at_) (List.map (fun b => (b.toNat : Int)) (List.take (min (List.length t) (Int.toNat (((List.replicate (Int.toNat (max (List.length s : Int) (w64 (at_ + (List.length t : Int))))) (0 : Int))).length : Int) - Int.toNat at_)) t)))))] kr ?_
  refine oN (nT (v_ret ?_))
  obtain rfl := si hs
  exact fin_ret kr kr kr
theorem w_disk_Disk_write (d_files : (List (Int × disk_file))) (d_queue : (List disk_sector)) (d_set : (List (disk_sector × Bool))) (d_lost : Int) (d_down : Bool) (d_armed : Int) (d_keep : (List Int)) (f : Int) (at_ : Int) (s : (List UInt8)) (r : Int × Int × Bool × Int × (List Int) × (List (Int × disk_file)) × (List disk_sector) × (List (disk_sector × Bool))) (hs : s_disk_Disk_write d_files d_queue d_set d_lost d_down d_armed d_keep f at_ s = some r) : FnA Tryz.prog 50 [.ptr 1000000 0 0, .int .i64 f, .int .i64 at_, .str s] [(1000000, .box 60 [.mp 1000001, .sl 2 1000002 ((d_queue).length) 0 ((d_queue).length), .mp 1000003, .int .i64 d_lost, .bool d_down, .int .i64 d_armed, .vs 1 (mI d_keep)]), (1000001, .map (encM (V.int .i64) (fun e => V.agg (enc_disk_file e)) d_files)), (1000002, .row 76 2 0 (mM enc_disk_sector d_queue)), (1000003, .map (encM (fun e => V.agg (enc_disk_sector e)) V.bool d_set))] (.int .i64 r.1) [(1000000, .box 60 [.mp 1000001, .sl 2 1000002 ((r.2.2.2.2.2.2.1).length) 0 ((r.2.2.2.2.2.2.1).length), .mp 1000003, .int .i64 r.2.1, .bool r.2.2.1, .int .i64 r.2.2.2.1, .vs 1 (mI r.2.2.2.2.1)]), (1000001, .map (encM (V.int .i64) (fun e => V.agg (enc_disk_file e)) r.2.2.2.2.2.1)), (1000002, .row 76 2 0 (mM enc_disk_sector r.2.2.2.2.2.2.1)), (1000003, .map (encM (fun e => V.agg (enc_disk_sector e)) V.bool r.2.2.2.2.2.2.2))] := by
 refine fnA_of_wp (N := 92) Tryz.func50 rfl rfl rfl fun cK0 => ?_
 unfold s_disk_Disk_write at hs
 refine v_same (ρ' := [(0, .ptr 1000000 0 0), (1, .int .i64 f), (2, .int .i64 at_), (3, .str s)]) rfl rfl ?_
 refine vS (vT (oR 1 [(8, .int .i64 0)] kr ?_))
 refine oN (nT (vS (vS (vT (oR 2 [(14, .int .i64 f), (13, .ptr 1000000 0 0)] kr ?_)))))
 obtain ⟨y1, c1, hs⟩ := bS hs
 refine o_loc (F := [(1000000, .box 60 [.mp 1000001, .sl 2 1000002 ((d_queue).length) 0 ((d_queue).length), .mp 1000003, .int .i64 d_lost, .bool d_down, .int .i64 d_armed, .vs 1 (mI d_keep)]), (1000001, .map (encM (V.int .i64) (fun e => V.agg (enc_disk_file e)) d_files)), (1000002, .row 76 2 0 (mM enc_disk_sector d_queue)), (1000003, .map (encM (fun e => V.agg (enc_disk_sector e)) V.bool d_set))]) (F' := [(1000000, .box 60 [.mp 1000001, .sl 2 1000002 ((d_queue).length) 0 ((d_queue).length), .mp 1000003, .int .i64 y1.2.1, .bool y1.2.2.1, .int .i64 y1.2.2.2.1, .vs 1 (mI y1.2.2.2.2)]), (1000001, .map (encM (V.int .i64) (fun e => V.agg (enc_disk_file e)) d_files)), (1000002, .row 76 2 0 (mM enc_disk_sector d_queue)), (1000003, .map (encM (fun e => V.agg (enc_disk_sector e)) V.bool d_set))]) (v := .int .i64 y1.1) [1000000, 1000001, 1000002, 1000003] kr kr rfl kr (loc_g (R := []) [.ptr 1000000 0 0, .int .i64 f] [(1000000, 1000000), (1000001, 1000001), (1000002, 1000002), (1000003, 1000003)] (callV_func hbv46 kr) (w_disk_Disk_may d_files d_queue d_set d_lost d_down d_armed d_keep f _ c1) (.cons (.same _) (.cons (.same _) (.nil))) kr kr kr kr kr kr kr kr) kr ?_
 refine oR 1 [(9, .int .i64 y1.1)] kr ?_
 refine oN (nT (vS (vT (oR 2 [(17, .bool (!(decide (y1.1 = 0)))), (16, .int .i64 y1.1)] kr ?_))))
 refine oN (nT ?_)
 refine v_cond (!(decide (y1.1 = 0))) kr (fun h1 => ?_) (fun h1 => ?_)
 ·replace hs := bif_t h1 hs
  refine vS (vT (oR 2 [(8, .int .i64 y1.1), (18, .int .i64 y1.1)] kr ?_))
  refine oN (nT (v_ret (rT ?_)))
  obtain rfl := si hs
  exact fin_ret kr kr kr
 ·replace hs := bif_f h1 hs
  refine vK (nT (vS (vB (vS (vT (oR 3 [(19, .bool (decide (at_ < 0))), (21, .bool (decide (at_ < 0))), (20, .int .i64 at_)] kr ?_))))))
  refine oN (nT ?_)
  refine v_cond (decide (at_ < 0)) kr (fun h2 => ?_) (fun h2 => ?_)
  ·replace hs := bif_t h2 hs
   refine vS (vT (oR 1 [(8, .int .i64 1)] kr ?_))
   refine oN (nT (v_ret (rB (rT ?_))))
   obtain rfl := si hs
   exact fin_ret kr kr kr
  ·replace hs := bif_f h2 hs
   refine vS ?_
   obtain ⟨z1, hs, hk1⟩ := bS hs
   refine v_join (S := Bool) (fun u => u = z1) (fun u => [(0, .ptr 1000000 0 0), (1, .int .i64 f), (2, .int .i64 at_), (3, .str s), (22, .bool u)]) (fun u => [(1000000, .box 60 [.mp 1000001, .sl 2 1000002 ((d_queue).length) 0 ((d_queue).length), .mp 1000003, .int .i64 y1.2.1, .bool y1.2.2.1, .int .i64 y1.2.2.2.1, .vs 1 (mI y1.2.2.2.2)]), (1000001, .map (encM (V.int .i64) (fun e => V.agg (enc_disk_file e)) d_files)), (1000002, .row 76 2 0 (mM enc_disk_sector d_queue)), (1000003, .map (encM (fun e => V.agg (enc_disk_sector e)) V.bool d_set))]) ?_ (fun v1 hz => ?_)
   ·refine vT (oR 3 [(25, .bool (decide (at_ > 16777216))), (24, .bool (decide (at_ > 16777216))), (23, .int .i64 at_)] kr ?_)
    cases h3 : ((decide (at_ > 16777216)))
    ·replace hs := bif_f h3 hs
     refine oR 7 [(22, .bool (decide ((List.length s : Int) > (w64 (16777216 - at_))))), (31, .bool (decide ((List.length s : Int) > (w64 (16777216 - at_))))), (30, .bool (decide ((List.length s : Int) > (w64 (16777216 - at_))))), (29, .int .i64 (w64 (16777216 - at_))), (28, .int .i64 at_), (27, .int .i64 (List.length s : Int)), (26, .str s)] kr ?_
     refine oN ?_
     obtain rfl := si hs
     refine nrm_join (decide ((List.length s : Int) > (w64 (16777216 - at_)))) rfl ?_
     exact cut_of [0, 1, 2, 3, 22] [1000000, 1000001, 1000002, 1000003] kr kr kr
    ·replace hs := bif_t h3 hs
     refine oR 7 [(22, .bool true), (31, .bool true), (30, .no), (29, .no), (28, .no), (27, .no), (26, .no)] kr ?_
     refine oN ?_
     obtain rfl := si hs
     refine nrm_join true rfl ?_
     exact cut_of [0, 1, 2, 3, 22] [1000000, 1000001, 1000002, 1000003] kr kr kr
   ·subst hz; clear hs; have hs := hk1; clear hk1
    refine nT ?_
    refine v_cond v1 kr (fun h4 => ?_) (fun h4 => ?_)
    ·replace hs := bif_t h4 hs
     refine vS (vT (oR 1 [(8, .int .i64 6)] kr ?_))
     refine oN (nT (v_ret (rB (rT ?_))))
     obtain rfl := si hs
     exact fin_ret kr kr kr
    ·replace hs := bif_f h4 hs
     refine vS (vT (oR 3 [(32, .bool (decide (s = []))), (34, .bool (decide (s = []))), (33, .str s)] kr ?_))
     refine oN (nT ?_)
     refine v_cond (decide (s = [])) kr (fun h5 => ?_) (fun h5 => ?_)
     ·replace hs := bif_t h5 hs
      refine vS (vT (oR 1 [(8, .int .i64 0)] kr ?_))
      refine oN (nT (v_ret (rB (rT ?_))))
      obtain rfl := si hs
      exact fin_ret kr kr kr
     ·replace hs := bif_f h5 hs
      refine vK (nB (nT (vS (vT (oR 5 [(39, .int .i64 f), (38, .mp 1000001), (37, .ptr 1000000 0 0), (36, .ptr 1000000 0 0), (35, .ptr 1000000 0 0)] kr ?_)))))
      refine o_loc (F := [(1000001, .map (encM (V.int .i64) (fun e => V.agg (enc_disk_file e)) d_files))]) (F' := [(1000001, .map (encM (V.int .i64) (fun e => V.agg (enc_disk_file e)) d_files))]) (v := .agg (enc_disk_file (Option.getD (mfind f d_files) (disk_file.mk [] [])))) [1000001] kr kr rfl kr (loc_lookup (et := 78) (f := (V.int .i64)) (g := (fun e => V.agg (enc_disk_file e))) (l := d_files) (a := f) (z := (disk_file.mk [] [])) (zv := .agg [.str [], .str []]) false kr kok3 kr (fun _ _ _ h => h) kr kr) kr ?_
      refine o_runh 2 [(10, .ptr 10 0 0)] [(10, .box 78 [.str ((Option.getD (mfind f d_files) (disk_file.mk [] [])).now), .str ((Option.getD (mfind f d_files) (disk_file.mk [] [])).last)]), (1000001, .map (encM (V.int .i64) (fun e => V.agg (enc_disk_file e)) d_files)), (1000000, .box 60 [.mp 1000001, .sl 2 1000002 ((d_queue).length) 0 ((d_queue).length), .mp 1000003, .int .i64 y1.2.1, .bool y1.2.2.1, .int .i64 y1.2.2.2.1, .vs 1 (mI y1.2.2.2.2)]), (1000002, .row 76 2 0 (mM enc_disk_sector d_queue)), (1000003, .map (encM (fun e => V.agg (enc_disk_sector e)) V.bool d_set))] kr ?_
      refine oN (nT (vS (vT (oR 4 [(44, .str s), (43, .int .i64 at_), (42, .str ((Option.getD (mfind f d_files) (disk_file.mk [] [])).now)), (41, .ptr 10 0 0)] kr ?_))))
      obtain ⟨y2, c2, hs⟩ := bS hs
      refine oP (v := .str y2) kr kr (loc_gcall0 (callV_func hbv44 kr) (w_disk_put ((Option.getD (mfind f d_files) (disk_file.mk [] [])).now) at_ s _ c2) kr) ?_
      refine o_runh 2 [(46, .ptr 10 0 0)] [(10, .box 78 [.str y2, .str ((Option.getD (mfind f d_files) (disk_file.mk [] [])).last)]), (1000001, .map (encM (V.int .i64) (fun e => V.agg (enc_disk_file e)) d_files)), (1000000, .box 60 [.mp 1000001, .sl 2 1000002 ((d_queue).length) 0 ((d_queue).length), .mp 1000003, .int .i64 y1.2.1, .bool y1.2.2.1, .int .i64 y1.2.2.2.1, .vs 1 (mI y1.2.2.2.2)]), (1000002, .row 76 2 0 (mM enc_disk_sector d_queue)), (1000003, .map (encM (fun e => V.agg (enc_disk_sector e)) V.bool d_set))] kr ?_
      refine oN (nT (vS (v_draw mixedH kr ?_)))
      refine d_runs 6 0 [(52, .agg [.str y2, .str ((Option.getD (mfind f d_files) (disk_file.mk [] [])).last)]), (51, .int .i64 f), (50, .mp 1000001), (49, .ptr 1000000 0 0), (48, .ptr 1000000 0 0), (47, .ptr 1000000 0 0)] [⟨5, [], [10]⟩, ⟨4, [], []⟩, ⟨3, [], [1000000]⟩, ⟨2, [], []⟩, ⟨1, [], []⟩, ⟨0, [], []⟩] kr kr ?_
      refine d_loc (F := [(1000001, .map (encM (V.int .i64) (fun e => V.agg (enc_disk_file e)) d_files))]) (R := []) (F' := [(1000001, .map (encM (V.int .i64) (fun e => V.agg (enc_disk_file e)) (mset f (disk_file.mk y2 ((Option.getD (mfind f d_files) (disk_file.mk [] [])).last)) d_files)))]) (v := .no) 6 [1000001] [] rfl rfl rfl rfl kr kr kr kr kr kr kr kr (loc_mapUpdate (et := 78) (f := (V.int .i64)) (g := (fun e => V.agg (enc_disk_file e))) (l := d_files) (a := f) (c := (disk_file.mk y2 ((Option.getD (mfind f d_files) (disk_file.mk [] [])).last))) kr kok3 kr kr kr kr kr) ?_
      refine d_nil kr ?_
      refine nT (vS (vS (vT (oR 3 [(11, .int .i64 (w64 (Int.tdiv at_ 64))), (54, .int .i64 (w64 (Int.tdiv at_ 64))), (53, .int .i64 at_)] kr ?_))))
      refine oN (nT ?_)
      obtain ⟨z2, hs, hk2⟩ := bS hs
      refine v_join (S := (List disk_sector) × (List (disk_sector × Bool))) (fun u => u = z2) (fun u => []) (fun u => [(1000001, .map (encM (V.int .i64) (fun e => V.agg (enc_disk_file e)) (mset f (disk_file.mk y2 ((Option.getD (mfind f d_files) (disk_file.mk [] [])).last)) d_files))), (1000000, .box 60 [.mp 1000001, .sl 2 1000002 ((u.1).length) 0 ((u.1).length), .mp 1000003, .int .i64 y1.2.1, .bool y1.2.2.1, .int .i64 y1.2.2.2.1, .vs 1 (mI y1.2.2.2.2)]), (1000002, .row 76 2 0 (mM enc_disk_sector u.1)), (1000003, .map (encM (fun e => V.agg (enc_disk_sector e)) V.bool u.2))]) ?_ (fun v2 hz => ?_)
      ·refine vB ?_
       refine v_fuel (S := Int × (List disk_sector) × (List (disk_sector × Bool))) (fun u => [(0, .ptr 1000000 0 0), (1, .int .i64 f), (2, .int .i64 at_), (3, .str s), (11, .int .i64 u.1)]) (fun u => [(1000001, .map (encM (V.int .i64) (fun e => V.agg (enc_disk_file e)) (mset f (disk_file.mk y2 ((Option.getD (mfind f d_files) (disk_file.mk [] [])).last)) d_files))), (1000000, .box 60 [.mp 1000001, .sl 2 1000002 ((u.2.1).length) 0 ((u.2.1).length), .mp 1000003, .int .i64 y1.2.1, .bool y1.2.2.1, .int .i64 y1.2.2.2.1, .vs 1 (mI y1.2.2.2.2)]), (1000002, .row 76 2 0 (mM enc_disk_sector u.2.1)), (1000003, .map (encM (fun e => V.agg (enc_disk_sector e)) V.bool u.2.2))]) (s_disk_Disk_write_L1 f at_ s) (fun _ => rfl) KK ((w64 (Int.tdiv at_ 64)), d_queue, d_set) hs (cut_of [0, 1, 2, 3, 11] [1000001, 1000000, 1000002, 1000003] kr kr kr) (fun K1 q1 hs => ?_)
       rw [s_disk_Disk_write_L1] at hs
       show WpV cK0 Tryz.prog none 92 _ _ [(0, .ptr 1000000 0 0), (1, .int .i64 f), (2, .int .i64 at_), (3, .str s), (11, .int .i64 q1.1)] [(1000001, .map (encM (V.int .i64) (fun e => V.agg (enc_disk_file e)) (mset f (disk_file.mk y2 ((Option.getD (mfind f d_files) (disk_file.mk [] [])).last)) d_files))), (1000000, .box 60 [.mp 1000001, .sl 2 1000002 ((q1.2.1).length) 0 ((q1.2.1).length), .mp 1000003, .int .i64 y1.2.1, .bool y1.2.2.1, .int .i64 y1.2.2.2.1, .vs 1 (mI y1.2.2.2.2)]), (1000002, .row 76 2 0 (mM enc_disk_sector q1.2.1)), (1000003, .map (encM (fun e => V.agg (enc_disk_sector e)) V.bool q1.2.2))] []
       refine vS (vS (vT (oR 8 [(62, .bool (decide (q1.1 ≤ (w64 (Int.tdiv (w64 ((w64 (at_ + (List.length s : Int))) - 1)) 64))))), (61, .int .i64 (w64 (Int.tdiv (w64 ((w64 (at_ + (List.length s : Int))) - 1)) 64))), (60, .int .i64 (w64 ((w64 (at_ + (List.length s : Int))) - 1))), (59, .int .i64 (w64 (at_ + (List.length s : Int)))), (58, .int .i64 (List.length s : Int)), (57, .str s), (56, .int .i64 at_), (55, .int .i64 q1.1)] kr ?_)))
       refine oN (nT ?_)
       refine v_cond (decide (q1.1 ≤ (w64 (Int.tdiv (w64 ((w64 (at_ + (List.length s : Int))) - 1)) 64)))) kr (fun h6 => ?_) (fun h6 => ?_)
       ·replace hs := bif_t h6 hs
        refine vK (nT (vS (vB (vS (vT (o_runh 5 [(12, .ptr 12 0 0), (67, .agg [.int .i64 f, .int .i64 q1.1]), (66, .int .i64 q1.1), (65, .int .i64 f)] [(12, .box 76 [.int .i64 f, .int .i64 q1.1]), (1000001, .map (encM (V.int .i64) (fun e => V.agg (enc_disk_file e)) (mset f (disk_file.mk y2 ((Option.getD (mfind f d_files) (disk_file.mk [] [])).last)) d_files))), (1000000, .box 60 [.mp 1000001, .sl 2 1000002 ((q1.2.1).length) 0 ((q1.2.1).length), .mp 1000003, .int .i64 y1.2.1, .bool y1.2.2.1, .int .i64 y1.2.2.2.1, .vs 1 (mI y1.2.2.2.2)]), (1000002, .row 76 2 0 (mM enc_disk_sector q1.2.1)), (1000003, .map (encM (fun e => V.agg (enc_disk_sector e)) V.bool q1.2.2))] kr ?_))))))
        refine oN (nT (vS (v_draw mixedH kr ?_)))
        refine d_runs 5 0 [(72, .agg [.int .i64 f, .int .i64 q1.1]), (71, .mp 1000003), (70, .ptr 1000000 0 2), (69, .ptr 1000000 0 0), (68, .ptr 1000000 0 0)] [⟨4, [], [12]⟩, ⟨3, [], [1000000]⟩, ⟨2, [], []⟩, ⟨1, [], []⟩, ⟨0, [], []⟩] kr kr ?_
        refine d_loc (F := []) (R := [(1000003, .map (encM (fun e => V.agg (enc_disk_sector e)) V.bool q1.2.2))]) (F' := []) (v := .bool (Option.getD (mfind (disk_sector.mk f q1.1) q1.2.2) false)) 5 [] [1000003] rfl rfl rfl rfl kr kr kr kr kr kr kr kr (loc_lookup (et := 4) (f := (fun e => V.agg (enc_disk_sector e))) (g := V.bool) (l := q1.2.2) (a := (disk_sector.mk f q1.1)) (z := false) (zv := .bool false) false kr kok76 kr (fun _ _ _ h => h) kr kr) ?_
        refine d_runs 1 6 [(74, .bool (!(Option.getD (mfind (disk_sector.mk f q1.1) q1.2.2) false)))] (pfp 1 6) kr kr ?_
        refine d_nil kr ?_
        refine nT ?_
        obtain ⟨z3, hs, hk3⟩ := bS hs
        refine v_join (S := (List (disk_sector × Bool)) × (List disk_sector)) (fun u => u = z3) (fun u => [(0, .ptr 1000000 0 0), (1, .int .i64 f), (2, .int .i64 at_), (3, .str s), (11, .int .i64 q1.1)]) (fun u => [(1000003, .map (encM (fun e => V.agg (enc_disk_sector e)) V.bool u.1)), (1000000, .box 60 [.mp 1000001, .sl 2 1000002 ((u.2).length) 0 ((u.2).length), .mp 1000003, .int .i64 y1.2.1, .bool y1.2.2.1, .int .i64 y1.2.2.2.1, .vs 1 (mI y1.2.2.2.2)]), (1000002, .row 76 2 0 (mM enc_disk_sector u.2)), (1000001, .map (encM (V.int .i64) (fun e => V.agg (enc_disk_file e)) (mset f (disk_file.mk y2 ((Option.getD (mfind f d_files) (disk_file.mk [] [])).last)) d_files)))]) ?_ (fun v3 hz => ?_)
        ·refine v_cond (!(Option.getD (mfind (disk_sector.mk f q1.1) q1.2.2) false)) kr (fun h7 => ?_) (fun h7 => ?_)
         ·replace hs := bif_t h7 hs
          refine v_stamp 1000003 (mix (disk_sector.mk f q1.1) q1.2.2) (l := encM (fun e => V.agg (enc_disk_sector e)) V.bool q1.2.2) kr (fun e1 => [(1000003, .gen (mapB (encM (fun e => V.agg (enc_disk_sector e)) V.bool q1.2.2) (mix (disk_sector.mk f q1.1) q1.2.2) e1)), (12, .box 76 [.int .i64 f, .int .i64 q1.1]), (1000001, .map (encM (V.int .i64) (fun e => V.agg (enc_disk_file e)) (mset f (disk_file.mk y2 ((Option.getD (mfind f d_files) (disk_file.mk [] [])).last)) d_files))), (1000000, .box 60 [.mp 1000001, .sl 2 1000002 ((q1.2.1).length) 0 ((q1.2.1).length), .mp 1000003, .int .i64 y1.2.1, .bool y1.2.2.1, .int .i64 y1.2.2.2.1, .vs 1 (mI y1.2.2.2.2)]), (1000002, .row 76 2 0 (mM enc_disk_sector q1.2.1))]) (fun _ => by kernel_rfl) (fun e1 => ?_)
          refine v_draw mixedH kr ?_
          refine d_runh 12 0 [(86, .sl 2 86 1 0 1), (85, .agg [.int .i64 f, .int .i64 q1.1]), (84, .sl 2 1000002 ((q1.2.1).length) 0 ((q1.2.1).length)), (83, .ptr 1000000 0 1), (82, .ptr 1000000 0 0), (81, .ptr 1000000 0 0), (80, .agg [.int .i64 f, .int .i64 q1.1]), (79, .mp 1000003), (78, .ptr 1000000 0 2), (77, .ptr 1000000 0 0), (76, .ptr 1000000 0 0), (75, .ptr 1000000 0 0)] [(86, .row 76 2 0 (mM enc_disk_sector [(disk_sector.mk f q1.1)])), (1000003, .gen (mapB (encM (fun e => V.agg (enc_disk_sector e)) V.bool q1.2.2) (mix (disk_sector.mk f q1.1) q1.2.2) e1)), (12, .box 76 [.int .i64 f, .int .i64 q1.1]), (1000001, .map (encM (V.int .i64) (fun e => V.agg (enc_disk_file e)) (mset f (disk_file.mk y2 ((Option.getD (mfind f d_files) (disk_file.mk [] [])).last)) d_files))), (1000000, .box 60 [.mp 1000001, .sl 2 1000002 ((q1.2.1).length) 0 ((q1.2.1).length), .mp 1000003, .int .i64 y1.2.1, .bool y1.2.2.1, .int .i64 y1.2.2.2.1, .vs 1 (mI y1.2.2.2.2)]), (1000002, .row 76 2 0 (mM enc_disk_sector q1.2.1))] [⟨11, [86], []⟩, ⟨10, [], [12]⟩, ⟨9, [], [1000000]⟩, ⟨8, [], []⟩, ⟨7, [], []⟩, ⟨6, [], []⟩, ⟨5, [], [12]⟩, ⟨4, [], [1000000]⟩, ⟨3, [], []⟩, ⟨2, [], []⟩, ⟨1, [], []⟩, ⟨0, [], []⟩] kr kr ?_
          obtain ⟨_, g1, hs⟩ := bS hs; replace g1 := grd_some g1
          refine d_loc (F := [(1000002, .row 76 2 0 (mM enc_disk_sector q1.2.1))]) (R := [(86, .row 76 2 0 (mM enc_disk_sector [(disk_sector.mk f q1.1)]))]) (F' := [(1000002, .row 76 2 0 (mM enc_disk_sector (q1.2.1 ++ [(disk_sector.mk f q1.1)])))]) (v := .sl 2 1000002 (((q1.2.1 ++ [(disk_sector.mk f q1.1)])).length) 0 (((q1.2.1 ++ [(disk_sector.mk f q1.1)])).length)) 12 [1000002] [86] rfl rfl rfl rfl kr kr kr kr kr kr kr kr (loc_appendT (e := 76) (sz := 2) (bytes := 16) (L := (q1.2.1).length) (els := (mM enc_disk_sector q1.2.1)) (ys := (mM enc_disk_sector [(disk_sector.mk f q1.1)])) kr kr (by first | exact List.length_map .. | rfl) (.sl (t := 76) (fz := 0) (ys := (mM enc_disk_sector [(disk_sector.mk f q1.1)])) kr kr) (map_ones enc_disk_sector (fun _ => rfl) _) (map_lens enc_disk_sector (fun _ => rfl) _) kr (by first | exact (List.map_append ..).symm | rfl | simp only [List.map_nil, List.nil_append]) (List.length_map ..) g1 (by omega)) ?_
          refine d_runh 3 13 [(89, .ptr 1000000 0 1), (88, .ptr 1000000 0 0)] [(1000000, .box 60 [.mp 1000001, .sl 2 1000002 (((q1.2.1 ++ [(disk_sector.mk f q1.1)])).length) 0 (((q1.2.1 ++ [(disk_sector.mk f q1.1)])).length), .mp 1000003, .int .i64 y1.2.1, .bool y1.2.2.1, .int .i64 y1.2.2.2.1, .vs 1 (mI y1.2.2.2.2)]), (1000002, .row 76 2 0 (mM enc_disk_sector (q1.2.1 ++ [(disk_sector.mk f q1.1)]))), (86, .row 76 2 0 (mM enc_disk_sector [(disk_sector.mk f q1.1)])), (1000003, .gen (mapB (encM (fun e => V.agg (enc_disk_sector e)) V.bool q1.2.2) (mix (disk_sector.mk f q1.1) q1.2.2) e1)), (12, .box 76 [.int .i64 f, .int .i64 q1.1]), (1000001, .map (encM (V.int .i64) (fun e => V.agg (enc_disk_file e)) (mset f (disk_file.mk y2 ((Option.getD (mfind f d_files) (disk_file.mk [] [])).last)) d_files)))] [⟨15, [1000000], []⟩, ⟨14, [], []⟩, ⟨13, [], []⟩] kr kr ?_
          refine d_loc (F := [(1000003, .gen (mapB (encM (fun e => V.agg (enc_disk_sector e)) V.bool q1.2.2) (mix (disk_sector.mk f q1.1) q1.2.2) e1))]) (R := []) (F' := [(1000003, .gen (mapB (encM (fun e => V.agg (enc_disk_sector e)) V.bool (ment (disk_sector.mk f q1.1) false q1.2.2)) (mix (disk_sector.mk f q1.1) q1.2.2) e1))]) (v := .tup [.bool (Option.getD (mfind (disk_sector.mk f q1.1) q1.2.2) false), .int .i64 (e1 : Int)]) 16 [1000003] [] rfl rfl rfl rfl kr kr kr kr kr kr kr kr (loc_mapEntryB (et := 4) (f := (fun e => V.agg (enc_disk_sector e))) (g := V.bool) (l := q1.2.2) (a := (disk_sector.mk f q1.1)) (z := false) (zv := .bool false) (s := e1) kr kok76 kr kr (fun _ _ _ h => h) kr kr) ?_
          refine d_runs 1 17 [(91, .int .i64 (e1 : Int))] (pfp 1 17) kr kr ?_
          refine d_loc (F := [(1000003, .gen (mapB (encM (fun e => V.agg (enc_disk_sector e)) V.bool (ment (disk_sector.mk f q1.1) false q1.2.2)) (mix (disk_sector.mk f q1.1) q1.2.2) e1))]) (R := []) (F' := [(1000003, .map (encM (fun e => V.agg (enc_disk_sector e)) V.bool (mset (disk_sector.mk f q1.1) true q1.2.2)))]) (v := .no) 18 [1000003] [] rfl rfl rfl rfl kr kr kr kr kr kr kr kr (loc_entryStoreC (f := (fun e => V.agg (enc_disk_sector e))) (g := V.bool) (l := q1.2.2) (a := (disk_sector.mk f q1.1)) (c := true) (z := false) (s := e1) kok76 kr kr kr kr) ?_
          refine d_nil kr ?_
          obtain rfl := si hs
          refine nrm_join ((mset (disk_sector.mk f q1.1) true q1.2.2), (q1.2.1 ++ [(disk_sector.mk f q1.1)])) rfl ?_
          exact cut_of [0, 1, 2, 3, 11] [1000003, 1000000, 1000002, 1000001] kr kr kr
         ·replace hs := bif_f h7 hs
          refine vK ?_
          obtain rfl := si hs
          refine nrm_join (q1.2.2, q1.2.1) rfl ?_
          exact cut_of [0, 1, 2, 3, 11] [1000003, 1000000, 1000002, 1000001] kr kr kr
        ·subst hz; clear hs; have hs := hk3; clear hk3
         refine nB (nT (vT (oR 3 [(11, .int .i64 (w64 (q1.1 + 1))), (64, .int .i64 (w64 (q1.1 + 1))), (63, .int .i64 q1.1)] kr ?_)))
         refine oN (nrm_fuel ((w64 (q1.1 + 1)), v3.2, v3.1) hs ?_)
         exact cut_of [0, 1, 2, 3, 11] [1000001, 1000000, 1000002, 1000003] kr kr kr
       ·replace hs := bif_f h6 hs
        refine v_exit (exit_thenV (exit_fuel ?_))
        refine exit_blkV ?_
        obtain rfl := si hs
        refine nrm_join (q1.2.1, q1.2.2) rfl ?_
        exact cut_of [] [1000001, 1000000, 1000002, 1000003] kr kr kr
      ·subst hz; clear hs; have hs := hk2; clear hk2
       refine nT (vS (vT (oR 1 [(8, .int .i64 0)] kr ?_)))
       refine oN (nT (v_ret ?_))
       obtain rfl := si hs
       exact fin_ret kr kr kr
theorem w_disk_Disk_settle_1 (p : disk_sector) (a1 : Int) (r : Bool × Int) (hs : s_disk_Disk_settle_1 p a1 = some r) : FnA Tryz.prog 70 [.agg (enc_disk_sector p), .ptr 1000000 0 0] [(1000000, .box 3 [.int .i64 a1])] (.bool r.1) [(1000000, .box 3 [.int .i64 r.2])] := by
 refine fnA_of_wp (N := 8) Tryz.func70 rfl rfl rfl fun cK0 => ?_
 unfold s_disk_Disk_settle_1 at hs
 refine v_same (ρ' := [(0, .agg (enc_disk_sector p)), (1, .ptr 1000000 0 0)]) rfl rfl ?_
 refine vS (vT (o_runh 2 [(3, .bool false), (2, .ptr 2 0 0)] [(2, .box 76 [.int .i64 p.file, .int .i64 p.number]), (1000000, .box 3 [.int .i64 a1])] kr ?_))
 refine oN (nT (vS (vT (oR 5 [(3, .bool (decide (p.file = a1))), (7, .bool (decide (p.file = a1))), (6, .int .i64 a1), (5, .int .i64 p.file), (4, .ptr 2 0 0)] kr ?_))))
 refine oN (nT (v_ret ?_))
 obtain rfl := si hs
 exact fin_ret kr kr kr
theorem w_slices_IndexFunc (s : (List disk_sector)) (p : Int) (r : Int × Int) (hs : s_slices_IndexFunc s p = some r) : FnA Tryz.prog 84 [.sl 2 1000000 ((s).length) 0 ((s).length), .fn 70 [] [.ptr 1000001 0 0]] [(1000000, .row 76 2 0 (mM enc_disk_sector s)), (1000001, .box 3 [.int .i64 p])] (.int .i64 r.1) [(1000001, .box 3 [.int .i64 r.2]), (1000000, .row 76 2 0 (mM enc_disk_sector s))] := by
 refine fnA_of_wp (N := 19) Tryz.func84 rfl rfl rfl fun cK0 => ?_
 unfold s_slices_IndexFunc at hs
 refine v_same (ρ' := [(0, .sl 2 1000000 ((s).length) 0 ((s).length)), (1, .fn 70 [] [.ptr 1000001 0 0])]) rfl rfl ?_
 refine vS (vT (oR 1 [(4, .int .i64 0)] kr ?_))
 refine oN (nT (vS (vS (vT (oR 3 [(8, .int .i64 0), (7, .int .i64 ((s).length : Int)), (6, .sl 2 1000000 ((s).length) 0 ((s).length))] kr ?_)))))
 refine oN (nT ?_)
 obtain ⟨z1, hs, hk1⟩ := bS hs
 refine v_join (S := Int) (fun u => z1 = .inr u) (fun u => []) (fun u => [(1000000, .row 76 2 0 (mM enc_disk_sector s)), (1000001, .box 3 [.int .i64 u])]) ?_ (fun v1 hz => ?_)
 ·refine vB ?_
  refine v_fuel (S := Int × Int) (fun u => [(0, .sl 2 1000000 ((s).length) 0 ((s).length)), (1, .fn 70 [] [.ptr 1000001 0 0]), (7, .int .i64 ((s).length : Int)), (8, .int .i64 u.1)]) (fun u => [(1000000, .row 76 2 0 (mM enc_disk_sector s)), (1000001, .box 3 [.int .i64 u.2])]) (s_slices_IndexFunc_L1 s) (fun _ => rfl) KK (0, p) hs (cut_of [0, 1, 7, 8] [1000000, 1000001] kr kr kr) (fun K1 q1 hs => ?_)
  rw [s_slices_IndexFunc_L1] at hs
  show WpV cK0 Tryz.prog none 19 _ _ [(0, .sl 2 1000000 ((s).length) 0 ((s).length)), (1, .fn 70 [] [.ptr 1000001 0 0]), (7, .int .i64 ((s).length : Int)), (8, .int .i64 q1.1)] [(1000000, .row 76 2 0 (mM enc_disk_sector s)), (1000001, .box 3 [.int .i64 q1.2])] []
  refine vS (vT (oR 1 [(9, .bool (decide (q1.1 < ((s).length : Int))))] kr ?_))
  refine oN (nT (vS ?_))
  refine v_cond (decide (q1.1 < ((s).length : Int))) kr (fun h1 => ?_) (fun h1 => ?_)
  ·replace hs := bif_t h1 hs
   refine vK (nT (vS (vB (vS (vT (oR 2 [(5, .int .i64 q1.1), (10, .int .i64 q1.1)] kr ?_))))))
   refine oN (nT (vS (vT (oR 3 [(13, .int .i64 q1.1), (12, .sl 2 1000000 ((s).length) 0 ((s).length)), (11, .fn 70 [] [.ptr 1000001 0 0])] kr ?_))))
   obtain ⟨⟨g1a, g1b⟩, hs⟩ := bG hs
   refine oP (v := .ptr 1000000 ((s).length) ((Int.toNat q1.1) * 2 + 0)) kr kr (loc_indexRowT (e := 76) (sz := 2) (kk := 1000000) (L := (s).length) (n := (s).length) (k := .i64) (i := q1.1) kr kr kr g1a g1b) ?_
   obtain ⟨e1, he1, hs⟩ := bE hs
   refine o_loc (F := [(1000000, .row 76 2 0 (mM enc_disk_sector s))]) (F' := [(1000000, .row 76 2 0 (mM enc_disk_sector s))]) (v := .agg (enc_disk_sector e1)) [1000000] kr kr rfl kr (loc_loadRow (L := (s).length) (off := (Int.toNat q1.1) * 2 + 0) (els := (mM enc_disk_sector s)) (cs := (enc_disk_sector e1)) (Int.toNat q1.1) 0 kr (by first | (simp only [List.length_map, List.length_set, cpyT_length]; done) | rfl) rfl (by rw [← he1]; exact map_get _ (by first | omega | (simp only [List.length_set, cpyT_length]; omega))) kr) kr ?_
   obtain ⟨y1, c1, hs⟩ := bS hs
   refine o_loc (F := [(1000001, .box 3 [.int .i64 q1.2])]) (F' := [(1000001, .box 3 [.int .i64 y1.2])]) (v := .bool y1.1) [1000001] kr kr rfl kr (loc_g (R := []) [.agg (enc_disk_sector e1), .ptr 1000001 0 0] [(1000000, 1000001)] (callV_val (first := []) (caps := [.ptr 1000001 0 0]) hbv70 kr kr) (w_disk_Disk_settle_1 e1 q1.2 _ c1) (.cons (.same _) (.cons (.same _) (.nil))) kr kr kr kr kr kr kr kr) kr ?_
   refine oN (nT ?_)
   refine v_cond y1.1 kr (fun h2 => ?_) (fun h2 => ?_)
   ·replace hs := bif_t h2 hs
    refine vS (vT (oR 2 [(4, .int .i64 q1.1), (17, .int .i64 q1.1)] kr ?_))
    refine oN (nT (v_ret (rB (rT (ret_fuel ?_)))))
    refine rB (ret_join ?_)
    refine rT ?_
    obtain rfl := si hs
    replace hs := hk1
    obtain rfl := si hs
    exact fin_ret kr kr kr
   ·replace hs := bif_f h2 hs
    refine vK (nB (nT (vT (oR 2 [(8, .int .i64 (w64 (q1.1 + 1))), (18, .int .i64 (w64 (q1.1 + 1)))] kr ?_))))
    refine oN (nrm_fuel ((w64 (q1.1 + 1)), y1.2) hs ?_)
    exact cut_of [0, 1, 7, 8] [1000000, 1000001] kr kr kr
  ·replace hs := bif_f h1 hs
   refine v_exit (exit_thenV (exit_fuel ?_))
   refine exit_blkV ?_
   obtain rfl := si hs
   refine nrm_join q1.2 rfl ?_
   exact cut_of [] [1000000, 1000001] kr kr kr
 ·subst hz; clear hs; have hs := hk1; clear hk1
  refine nT (vS (vT (oR 1 [(4, .int .i64 (-1))] kr ?_)))
  refine oN (nT (v_ret ?_))
  obtain rfl := si hs
  exact fin_ret kr kr kr
theorem w_slices_DeleteFunc (s : (List disk_sector)) (p : Int) (r : (List disk_sector) × Int) (hs : s_slices_DeleteFunc s p = some r) : FnA Tryz.prog 69 [.sl 2 1000000 ((s).length) 0 ((s).length), .fn 70 [] [.ptr 1000001 0 0]] [(1000000, .row 76 2 0 (mM enc_disk_sector s)), (1000001, .box 3 [.int .i64 p])] (.sl 2 2800004 ((r.1).length) 0 ((r.1).length)) [(2800004, .row 76 2 0 (mM enc_disk_sector r.1)), (1000000, .gen gone), (1000001, .box 3 [.int .i64 r.2])] := by
 refine fnA_of_wp (N := 42) Tryz.func69 rfl rfl rfl fun cK0 => ?_
 unfold s_slices_DeleteFunc at hs
 refine v_same (ρ' := [(0, .sl 2 1000000 ((s).length) 0 ((s).length)), (1, .fn 70 [] [.ptr 1000001 0 0])]) rfl rfl ?_
 refine vS (vT (oR 1 [(4, .nils)] kr ?_))
 refine oN (nT (vS (vT (oR 2 [(9, .fn 70 [] [.ptr 1000001 0 0]), (8, .sl 2 1000000 ((s).length) 0 ((s).length))] kr ?_))))
 obtain ⟨y1, c1, hs⟩ := bS hs
 refine o_loc (F := [(1000000, .row 76 2 0 (mM enc_disk_sector s)), (1000001, .box 3 [.int .i64 p])]) (F' := [(1000001, .box 3 [.int .i64 y1.2]), (1000000, .row 76 2 0 (mM enc_disk_sector s))]) (v := .int .i64 y1.1) [1000000, 1000001] kr kr rfl kr (loc_g (R := []) [.sl 2 1000000 ((s).length) 0 ((s).length), .fn 70 [] [.ptr 1000001 0 0]] [(1000000, 1000000), (1000001, 1000001)] (callV_func hbv84 kr) (w_slices_IndexFunc s p _ c1) (.cons (.same _) (.cons (.same _) (.nil))) kr kr kr kr kr kr kr kr) kr ?_
 refine oR 1 [(5, .int .i64 y1.1)] kr ?_
 refine oN (nT (vS (vS (vT (oR 2 [(12, .bool (decide (y1.1 = (-1)))), (11, .int .i64 y1.1)] kr ?_)))))
 refine oN (nT ?_)
 refine v_cond (decide (y1.1 = (-1))) kr (fun h1 => ?_) (fun h1 => ?_)
 ·replace hs := bif_t h1 hs
  refine vS (vT (oR 2 [(4, .sl 2 1000000 ((s).length) 0 ((s).length)), (13, .sl 2 1000000 ((s).length) 0 ((s).length))] kr ?_))
  refine oN (nT (v_to ((4, .sl 2 2800004 ((List.take ((s).length) s)).length 0 ((List.take ((s).length) s)).length) :: _) [(2800004, .row 76 2 0 (List.map enc_disk_sector (List.take ((s).length) s))), (1000000, .gen gone), (1000001, .box 3 [.int .i64 y1.2])] (cut_trunc 4 1000000 2800004 (e := 76) (sz := 2) (L := ((s).length)) (n := ((s).length)) (els := (List.map enc_disk_sector s)) kr kr kr (by first | (simp only [List.length_map, List.length_set, cpyT_length]; done) | rfl) (by omega) (List.map_take ..).symm (n' := ((List.take ((s).length) s)).length) (by simp only [List.length_take, List.length_set, cpyT_length]; omega) kr) ?_))
  refine v_ret (rT ?_)
  obtain rfl := si hs
  exact fin_ret kr kr kr
 ·replace hs := bif_f h1 hs
  refine vK (nT (vS (vS (vT (oR 3 [(6, .int .i64 (w64 (y1.1 + 1))), (15, .int .i64 (w64 (y1.1 + 1))), (14, .int .i64 y1.1)] kr ?_)))))
  refine oN (nT ?_)
  obtain ⟨z1, hs, hk1⟩ := bS hs
  refine v_join (S := Int × Int × (List disk_sector)) (fun u => u = z1) (fun u => [(0, .sl 2 1000000 ((u.2.2).length) 0 ((u.2.2).length)), (5, .int .i64 u.1)]) (fun u => [(1000001, .box 3 [.int .i64 u.2.1]), (1000000, .row 76 2 0 (mM enc_disk_sector u.2.2))]) ?_ (fun v1 hz => ?_)
  ·refine vB ?_
   refine v_fuel (S := Int × Int × Int × (List disk_sector)) (fun u => [(0, .sl 2 1000000 ((u.2.2.2).length) 0 ((u.2.2.2).length)), (1, .fn 70 [] [.ptr 1000001 0 0]), (5, .int .i64 u.1), (6, .int .i64 u.2.1)]) (fun u => [(1000001, .box 3 [.int .i64 u.2.2.1]), (1000000, .row 76 2 0 (mM enc_disk_sector u.2.2.2))]) s_slices_DeleteFunc_L1 (fun _ => rfl) KK (y1.1, (w64 (y1.1 + 1)), y1.2, s) hs (cut_of [0, 1, 5, 6] [1000001, 1000000] kr kr kr) (fun K1 q1 hs => ?_)
   rw [s_slices_DeleteFunc_L1] at hs
   show WpV cK0 Tryz.prog none 42 _ _ [(0, .sl 2 1000000 ((q1.2.2.2).length) 0 ((q1.2.2.2).length)), (1, .fn 70 [] [.ptr 1000001 0 0]), (5, .int .i64 q1.1), (6, .int .i64 q1.2.1)] [(1000001, .box 3 [.int .i64 q1.2.2.1]), (1000000, .row 76 2 0 (mM enc_disk_sector q1.2.2.2))] []
   refine vS (vS (vT (oR 4 [(19, .bool (decide (q1.2.1 < ((q1.2.2.2).length : Int)))), (18, .int .i64 ((q1.2.2.2).length : Int)), (17, .sl 2 1000000 ((q1.2.2.2).length) 0 ((q1.2.2.2).length)), (16, .int .i64 q1.2.1)] kr ?_)))
   refine oN (nT ?_)
   refine v_cond (decide (q1.2.1 < ((q1.2.2.2).length : Int))) kr (fun h2 => ?_) (fun h2 => ?_)
   ·replace hs := bif_t h2 hs
    refine vK (nT (vS (vB (vS (vT (oR 2 [(23, .int .i64 q1.2.1), (22, .sl 2 1000000 ((q1.2.2.2).length) 0 ((q1.2.2.2).length))] kr ?_))))))
    obtain ⟨⟨g1a, g1b⟩, hs⟩ := bG hs
    refine oP (v := .ptr 1000000 ((q1.2.2.2).length) ((Int.toNat q1.2.1) * 2 + 0)) kr kr (loc_indexRowT (e := 76) (sz := 2) (kk := 1000000) (L := (q1.2.2.2).length) (n := (q1.2.2.2).length) (k := .i64) (i := q1.2.1) kr kr kr g1a g1b) ?_
    obtain ⟨e1, he1, hs⟩ := bE hs
    refine o_loc (F := [(1000000, .row 76 2 0 (mM enc_disk_sector q1.2.2.2))]) (F' := [(1000000, .row 76 2 0 (mM enc_disk_sector q1.2.2.2))]) (v := .agg (enc_disk_sector e1)) [1000000] kr kr rfl kr (loc_loadRow (L := (q1.2.2.2).length) (off := (Int.toNat q1.2.1) * 2 + 0) (els := (mM enc_disk_sector q1.2.2.2)) (cs := (enc_disk_sector e1)) (Int.toNat q1.2.1) 0 kr (by first | (simp only [List.length_map, List.length_set, cpyT_length]; done) | rfl) rfl (by rw [← he1]; exact map_get _ (by first | omega | (simp only [List.length_set, cpyT_length]; omega))) kr) kr ?_
    refine o_runh 2 [(7, .ptr 7 0 0)] [(7, .box 76 [.int .i64 e1.file, .int .i64 e1.number]), (1000000, .row 76 2 0 (mM enc_disk_sector q1.2.2.2)), (1000001, .box 3 [.int .i64 q1.2.2.1])] kr ?_
    refine oN (nT (vS (vT (oR 2 [(27, .agg (enc_disk_sector e1)), (26, .fn 70 [] [.ptr 1000001 0 0])] kr ?_))))
    obtain ⟨y2, c2, hs⟩ := bS hs
    refine o_loc (F := [(1000001, .box 3 [.int .i64 q1.2.2.1])]) (F' := [(1000001, .box 3 [.int .i64 y2.2])]) (v := .bool y2.1) [1000001] kr kr rfl kr (loc_g (R := []) [.agg (enc_disk_sector e1), .ptr 1000001 0 0] [(1000000, 1000001)] (callV_val (first := []) (caps := [.ptr 1000001 0 0]) hbv70 kr kr) (w_disk_Disk_settle_1 e1 q1.2.2.1 _ c2) (.cons (.same _) (.cons (.same _) (.nil))) kr kr kr kr kr kr kr kr) kr ?_
    refine oR 1 [(29, .bool (!y2.1))] kr ?_
    refine oN (nT ?_)
    obtain ⟨z2, hs, hk2⟩ := bS hs
    refine v_join (S := Int × (List disk_sector)) (fun u => u = z2) (fun u => [(0, .sl 2 1000000 ((u.2).length) 0 ((u.2).length)), (1, .fn 70 [] [.ptr 1000001 0 0]), (5, .int .i64 u.1), (6, .int .i64 q1.2.1)]) (fun u => [(1000000, .row 76 2 0 (mM enc_disk_sector u.2)), (1000001, .box 3 [.int .i64 y2.2])]) ?_ (fun v2 hz => ?_)
    ·refine v_cond (!y2.1) kr (fun h3 => ?_) (fun h3 => ?_)
     ·replace hs := bif_t h3 hs
      refine vS (vT (oR 3 [(32, .agg (enc_disk_sector e1)), (31, .int .i64 q1.1), (30, .sl 2 1000000 ((q1.2.2.2).length) 0 ((q1.2.2.2).length))] kr ?_))
      obtain ⟨⟨g2a, g2b⟩, hs⟩ := bG hs
      refine oP (v := .ptr 1000000 ((q1.2.2.2).length) ((Int.toNat q1.1) * 2 + 0)) kr kr (loc_indexRowT (e := 76) (sz := 2) (kk := 1000000) (L := (q1.2.2.2).length) (n := (q1.2.2.2).length) (k := .i64) (i := q1.1) kr kr kr g2a g2b) ?_
      obtain ⟨e2, he2, hs⟩ := bE hs
      refine o_loc (F := [(1000000, .row 76 2 0 (mM enc_disk_sector q1.2.2.2))]) (F' := [(1000000, .row 76 2 0 (mM enc_disk_sector (List.set q1.2.2.2 (Int.toNat q1.1) e1)))]) (v := .no) [1000000] kr kr rfl kr (loc_storeRowT (L := (q1.2.2.2).length) (off := (Int.toNat q1.1) * 2 + 0) (els := (mM enc_disk_sector q1.2.2.2)) (cs := (enc_disk_sector e2)) (c' := (enc_disk_sector e1)) (Int.toNat q1.1) 0 kr (by first | (simp only [List.length_map, List.length_set, cpyT_length]; done) | rfl) rfl (by rw [← he2]; exact map_get _ (by first | omega | (simp only [List.length_set, cpyT_length]; omega))) (by first | exact Nat.zero_le _ | omega) kr kr kr kr kr kr List.map_set.symm) kr ?_
      refine oN (nT (vT (oR 3 [(5, .int .i64 (w64 (q1.1 + 1))), (35, .int .i64 (w64 (q1.1 + 1))), (34, .int .i64 q1.1)] kr ?_)))
      refine oN ?_
      obtain rfl := si hs
      refine nrm_join ((w64 (q1.1 + 1)), (List.set q1.2.2.2 (Int.toNat q1.1) e1)) rfl ?_
      exact Cut.trans (cut_eq 0 (v := .sl 2 1000000 ((q1.2.2.2).length) 0 ((q1.2.2.2).length)) (v' := .sl 2 1000000 (((List.set q1.2.2.2 (Int.toNat q1.1) e1)).length) 0 (((List.set q1.2.2.2 (Int.toNat q1.1) e1)).length)) kr (by first | rfl | simp only [List.length_set, cpyT_length])) (cut_of [0, 1, 5, 6] [1000000, 1000001] kr kr kr)
     ·replace hs := bif_f h3 hs
      refine vK ?_
      obtain rfl := si hs
      refine nrm_join (q1.1, q1.2.2.2) rfl ?_
      exact cut_of [0, 1, 5, 6] [1000000, 1000001] kr kr kr
    ·subst hz; clear hs; have hs := hk2; clear hk2
     refine nB (nT (vT (oR 3 [(6, .int .i64 (w64 (q1.2.1 + 1))), (21, .int .i64 (w64 (q1.2.1 + 1))), (20, .int .i64 q1.2.1)] kr ?_)))
     refine oN (nrm_fuel (v2.1, (w64 (q1.2.1 + 1)), y2.2, v2.2) hs ?_)
     exact cut_of [0, 1, 5, 6] [1000001, 1000000] kr kr kr
   ·replace hs := bif_f h2 hs
    refine v_exit (exit_thenV (exit_fuel ?_))
    refine exit_blkV ?_
    obtain rfl := si hs
    refine nrm_join (q1.1, q1.2.2.1, q1.2.2.2) rfl ?_
    exact cut_of [0, 5] [1000001, 1000000] kr kr kr
  ·subst hz; clear hs; have hs := hk1; clear hk1
   refine nT (vS (vT (oR 2 [(37, .int .i64 v1.1), (36, .sl 2 1000000 ((v1.2.2).length) 0 ((v1.2.2).length))] kr ?_)))
   obtain ⟨⟨g3a, g3b, g3c⟩, hs⟩ := bG hs
   refine oP (v := .sl 2 1000000 ((v1.2.2).length) (Int.toNat v1.1) (Int.toNat ((v1.2.2).length : Int) - Int.toNat v1.1)) kr kr (loc_sliceRowT (e := 76) (sz := 2) (k := 1000000) (L := ((v1.2.2).length)) (n := (v1.2.2).length) (l := v1.1) (h := ((v1.2.2).length : Int)) kr kr ⟨.i64, by kernel_rfl⟩ rfl g3a g3b g3c) ?_
   refine o_loc (F := [(1000000, .row 76 2 0 (mM enc_disk_sector v1.2.2))]) (F' := [(1000000, .row 76 2 0 (mM enc_disk_sector (cpyT v1.2.2 (Int.toNat v1.1) (List.replicate (Int.toNat ((v1.2.2).length : Int) - Int.toNat v1.1) (disk_sector.mk 0 0)))))]) (v := .tup []) [1000000] kr kr rfl kr (loc_clearT enc_disk_sector (e := 76) (sz := 2) (bytes := 16) (k := 1000000) (L := ((v1.2.2).length)) (o := (Int.toNat v1.1)) (n := (Int.toNat ((v1.2.2).length : Int) - Int.toNat v1.1)) (q := v1.2.2) (zz := (disk_sector.mk 0 0)) (cs := [.int .i64 0, .int .i64 0]) kr kr (fun _ _ h => h) kr kr kr (by first | rfl | simp only [List.length_set, cpyT_length]) (by omega) rfl) kr ?_
   refine oN (nT (vS (vT (oR 2 [(40, .int .i64 v1.1), (39, .sl 2 1000000 ((v1.2.2).length) 0 ((v1.2.2).length))] kr ?_))))
   obtain ⟨⟨g4a, g4b, g4c⟩, hs⟩ := bG hs
   refine oP (v := .sl 2 1000000 ((v1.2.2).length) (Int.toNat 0) (Int.toNat v1.1 - Int.toNat 0)) kr kr (loc_sliceRowT (e := 76) (sz := 2) (k := 1000000) (L := ((v1.2.2).length)) (n := (v1.2.2).length) (l := 0) (h := v1.1) kr kr rfl ⟨.i64, by kernel_rfl⟩ g4a g4b g4c) ?_
   refine oR 1 [(4, .sl 2 1000000 ((v1.2.2).length) (Int.toNat 0) (Int.toNat v1.1 - Int.toNat 0))] kr ?_
   refine oN (nT (v_to ((4, .sl 2 2800004 ((List.take (Int.toNat v1.1 - Int.toNat 0) (cpyT v1.2.2 (Int.toNat v1.1) (List.replicate (Int.toNat ((v1.2.2).length : Int) - Int.toNat v1.1) (disk_sector.mk 0 0))))).length 0 ((List.take (Int.toNat v1.1 - Int.toNat 0) (cpyT v1.2.2 (Int.toNat v1.1) (List.replicate (Int.toNat ((v1.2.2).length : Int) - Int.toNat v1.1) (disk_sector.mk 0 0))))).length) :: _) [(2800004, .row 76 2 0 (List.map enc_disk_sector (List.take (Int.toNat v1.1 - Int.toNat 0) (cpyT v1.2.2 (Int.toNat v1.1) (List.replicate (Int.toNat ((v1.2.2).length : Int) - Int.toNat v1.1) (disk_sector.mk 0 0)))))), (1000000, .gen gone), (1000001, .box 3 [.int .i64 v1.2.1])] (cut_trunc 4 1000000 2800004 (e := 76) (sz := 2) (L := ((v1.2.2).length)) (n := (Int.toNat v1.1 - Int.toNat 0)) (els := (List.map enc_disk_sector (cpyT v1.2.2 (Int.toNat v1.1) (List.replicate (Int.toNat ((v1.2.2).length : Int) - Int.toNat v1.1) (disk_sector.mk 0 0))))) kr kr kr (by first | (simp only [List.length_map, List.length_set, cpyT_length]; done) | rfl) (by omega) (List.map_take ..).symm (n' := ((List.take (Int.toNat v1.1 - Int.toNat 0) (cpyT v1.2.2 (Int.toNat v1.1) (List.replicate (Int.toNat ((v1.2.2).length : Int) - Int.toNat v1.1) (disk_sector.mk 0 0))))).length) (by simp only [List.length_take, List.length_set, cpyT_length]; omega) kr) ?_))
   refine v_ret ?_
   obtain rfl := si hs
   exact fin_ret kr kr kr
theorem w_disk_Disk_settle (d_files : (List (Int × disk_file))) (d_queue : (List disk_sector)) (d_set : (List (disk_sector × Bool))) (d_lost : Int) (d_down : Bool) (d_armed : Int) (d_keep : (List Int)) (f : Int) (s : (List UInt8)) (r : (List (disk_sector × Bool)) × (List disk_sector) × (List (Int × disk_file)) × Int × Bool × Int × (List Int)) (hs : s_disk_Disk_settle d_files d_queue d_set d_lost d_down d_armed d_keep f s = some r) : FnA Tryz.prog 51 [.ptr 1000000 0 0, .int .i64 f, .str s] [(1000000, .box 60 [.mp 1000001, .sl 2 1000002 ((d_queue).length) 0 ((d_queue).length), .mp 1000003, .int .i64 d_lost, .bool d_down, .int .i64 d_armed, .vs 1 (mI d_keep)]), (1000001, .map (encM (V.int .i64) (fun e => V.agg (enc_disk_file e)) d_files)), (1000002, .row 76 2 0 (mM enc_disk_sector d_queue)), (1000003, .map (encM (fun e => V.agg (enc_disk_sector e)) V.bool d_set))] (.tup []) [(1000003, .map (encM (fun e => V.agg (enc_disk_sector e)) V.bool r.1)), (3002000, .row 76 2 0 (mM enc_disk_sector r.2.1)), (1000002, .gen gone), (1000001, .map (encM (V.int .i64) (fun e => V.agg (enc_disk_file e)) r.2.2.1)), (1000000, .box 60 [.mp 1000001, .sl 2 3002000 ((r.2.1).length) 0 ((r.2.1).length), .mp 1000003, .int .i64 r.2.2.2.1, .bool r.2.2.2.2.1, .int .i64 r.2.2.2.2.2.1, .vs 1 (mI r.2.2.2.2.2.2)])] := by
 refine fnA_of_wp (N := 29) Tryz.func51 rfl rfl rfl fun cK0 => ?_
 unfold s_disk_Disk_settle at hs
 refine v_same (ρ' := [(0, .ptr 1000000 0 0), (1, .int .i64 f), (2, .str s)]) rfl rfl ?_
 refine vS (vT (o_runh 1 [(4, .ptr 4 0 0)] [(4, .box 3 [.int .i64 f]), (1000000, .box 60 [.mp 1000001, .sl 2 1000002 ((d_queue).length) 0 ((d_queue).length), .mp 1000003, .int .i64 d_lost, .bool d_down, .int .i64 d_armed, .vs 1 (mI d_keep)]), (1000001, .map (encM (V.int .i64) (fun e => V.agg (enc_disk_file e)) d_files)), (1000002, .row 76 2 0 (mM enc_disk_sector d_queue)), (1000003, .map (encM (fun e => V.agg (enc_disk_sector e)) V.bool d_set))] kr ?_))
 refine oN (nT (vS (v_draw mixedH kr ?_)))
 refine d_runs 8 0 [(13, .agg [.str s, .str s]), (12, .str s), (11, .str s), (10, .int .i64 f), (9, .mp 1000001), (8, .ptr 1000000 0 0), (7, .ptr 1000000 0 0), (6, .ptr 1000000 0 0)] [⟨7, [], []⟩, ⟨6, [], []⟩, ⟨5, [], []⟩, ⟨4, [], [4]⟩, ⟨3, [], [1000000]⟩, ⟨2, [], []⟩, ⟨1, [], []⟩, ⟨0, [], []⟩] kr kr ?_
 refine d_loc (F := [(1000001, .map (encM (V.int .i64) (fun e => V.agg (enc_disk_file e)) d_files))]) (R := []) (F' := [(1000001, .map (encM (V.int .i64) (fun e => V.agg (enc_disk_file e)) (mset f (disk_file.mk s s) d_files)))]) (v := .no) 8 [1000001] [] rfl rfl rfl rfl kr kr kr kr kr kr kr kr (loc_mapUpdate (et := 78) (f := (V.int .i64)) (g := (fun e => V.agg (enc_disk_file e))) (l := d_files) (a := f) (c := (disk_file.mk s s)) kr kok3 kr kr kr kr kr) ?_
 refine d_nil kr ?_
 refine nT (vS (vT (oR 6 [(19, .fn 70 [] [.ptr 4 0 0]), (18, .sl 2 1000002 ((d_queue).length) 0 ((d_queue).length)), (17, .ptr 1000000 0 1), (16, .ptr 1000000 0 0), (15, .ptr 1000000 0 0), (14, .ptr 1000000 0 0)] kr ?_)))
 obtain ⟨y1, c1, hs⟩ := bS hs
 refine o_loc (F := [(1000002, .row 76 2 0 (mM enc_disk_sector d_queue)), (4, .box 3 [.int .i64 f])]) (F' := [(3002000, .row 76 2 0 (mM enc_disk_sector y1.1)), (1000002, .gen gone), (4, .box 3 [.int .i64 y1.2])]) (v := .sl 2 3002000 ((y1.1).length) 0 ((y1.1).length)) [1000002, 4] kr kr rfl kr (loc_g (R := []) [.sl 2 1000002 ((d_queue).length) 0 ((d_queue).length), .fn 70 [] [.ptr 4 0 0]] [(1000000, 1000002), (1000001, 4), (2800004, 3002000)] (callV_func hbv69 kr) (w_slices_DeleteFunc d_queue f _ c1) (.cons (.same _) (.cons (.same _) (.nil))) kr kr kr kr kr kr kr kr) kr ?_
 refine o_runh 3 [(22, .ptr 1000000 0 1), (21, .ptr 1000000 0 0)] [(3002000, .row 76 2 0 (mM enc_disk_sector y1.1)), (1000002, .gen gone), (4, .box 3 [.int .i64 y1.2]), (1000001, .map (encM (V.int .i64) (fun e => V.agg (enc_disk_file e)) (mset f (disk_file.mk s s) d_files))), (1000000, .box 60 [.mp 1000001, .sl 2 3002000 ((y1.1).length) 0 ((y1.1).length), .mp 1000003, .int .i64 d_lost, .bool d_down, .int .i64 d_armed, .vs 1 (mI d_keep)]), (1000003, .map (encM (fun e => V.agg (enc_disk_sector e)) V.bool d_set))] kr ?_
 refine oN (nT (vT (oR 5 [(27, .fn 72 [] [.ptr 4 0 0]), (26, .mp 1000003), (25, .ptr 1000000 0 2), (24, .ptr 1000000 0 0), (23, .ptr 1000000 0 0)] kr ?_)))
 obtain ⟨_, g1, hs⟩ := bS hs; replace g1 := grd_some g1
 refine o_loc (F := [(1000003, .map (encM (fun e => V.agg (enc_disk_sector e)) V.bool d_set)), (4, .box 3 [.int .i64 y1.2])]) (F' := [(1000003, .map (encM (fun e => V.agg (enc_disk_sector e)) V.bool (List.filter (fun p => !decide (p.1.file = y1.2)) d_set))), (4, .box 3 [.int .i64 y1.2])]) (v := .tup []) [1000003, 4] kr kr rfl kr (loc_g (R := []) [.mp 1000003, .fn 72 [] [.ptr 4 0 0]] [(1000000, 1000003), (1000001, 4)] (callV_func hbv71 kr) (w_maps_DeleteFunc d_set y1.2 g1) (.cons (.same _) (.cons (.same _) .nil)) kr kr kr kr kr kr kr kr) kr ?_
 refine oN (fin_nrm ?_)
 obtain rfl := si hs
 exact fin_ret kr kr kr
theorem w_disk_Disk_Crash_n (d_files : (List (Int × disk_file))) (d_queue : (List disk_sector)) (d_set : (List (disk_sector × Bool))) (d_lost : Int) (d_down : Bool) (d_armed : Int) (d_keep : (List Int)) (keep : (List Int)) (r : Int × Bool × Int × (List Int)) (hs : s_disk_Disk_Crash_n d_files d_queue d_set d_lost d_down d_armed d_keep keep = some r) : FnA Tryz.prog 20 [.ptr 1000000 0 0, .vs 1 (mI keep)] [(1000000, .box 60 [.mp 1000001, .sl 2 1000002 ((d_queue).length) 0 ((d_queue).length), .mp 1000003, .int .i64 d_lost, .bool d_down, .int .i64 d_armed, .vs 1 (mI d_keep)]), (1000001, .map (encM (V.int .i64) (fun e => V.agg (enc_disk_file e)) d_files)), (1000002, .row 76 2 0 (mM enc_disk_sector d_queue)), (1000003, .map (encM (fun e => V.agg (enc_disk_sector e)) V.bool d_set))] (.tup []) [(1000000, .box 60 [.mp 1000001, .sl 2 1000002 ((d_queue).length) 0 ((d_queue).length), .mp 1000003, .int .i64 r.1, .bool r.2.1, .int .i64 r.2.2.1, .vs 1 (mI r.2.2.2)]), (1000001, .map (encM (V.int .i64) (fun e => V.agg (enc_disk_file e)) d_files)), (1000002, .row 76 2 0 (mM enc_disk_sector d_queue)), (1000003, .map (encM (fun e => V.agg (enc_disk_sector e)) V.bool d_set))] := by
 refine fnA_of_wp (N := 111) Tryz.func20 rfl rfl rfl fun cK0 => ?_
 unfold s_disk_Disk_Crash_n at hs
 refine v_same (ρ' := [(0, .ptr 1000000 0 0), (1, .vs 1 (mI keep))]) rfl rfl ?_
 refine vS (vS (vT (oR 4 [(13, .bool d_down), (12, .ptr 1000000 0 4), (11, .ptr 1000000 0 0), (10, .ptr 1000000 0 0)] kr ?_)))
 refine oN (nT ?_)
 refine v_cond d_down kr (fun h1 => ?_) (fun h1 => ?_)
 ·replace hs := bif_t h1 hs
  refine v_ret (rT ?_)
  obtain rfl := si hs
  exact fin_ret kr kr kr
 ·replace hs := bif_f h1 hs
  cases hs
theorem w_disk_Disk_Crash_x (d_files : (List (Int × disk_file))) (d_queue : (List disk_sector)) (d_set : (List (disk_sector × Bool))) (d_lost : Int) (d_down : Bool) (d_armed : Int) (d_keep : (List Int)) (keep : (List Int)) (r : (List (Int × disk_file)) × Int × (List Int)) (hs : s_disk_Disk_Crash_x d_files d_queue d_set d_lost d_down d_armed d_keep keep = some r) : FnA Tryz.prog 20 [.ptr 1000000 0 0, .vs 1 (mI keep)] [(1000000, .box 60 [.mp 1000001, .sl 2 1000002 ((d_queue).length) 0 ((d_queue).length), .mp 1000003, .int .i64 d_lost, .bool d_down, .int .i64 d_armed, .vs 1 (mI d_keep)]), (1000001, .map (encM (V.int .i64) (fun e => V.agg (enc_disk_file e)) d_files)), (1000002, .row 76 2 0 (mM enc_disk_sector d_queue)), (1000003, .map (encM (fun e => V.agg (enc_disk_sector e)) V.bool d_set))] (.tup []) [(106, .map (encM (fun e => V.agg (enc_disk_sector e)) V.bool [])), (1000001, .map (encM (V.int .i64) (fun e => V.agg (enc_disk_file e)) r.1)), (1000000, .box 60 [.mp 1000001, .nils, .mp 106, .int .i64 r.2.1, .bool true, .int .i64 0, .vs 1 (mI r.2.2)]), (1000002, .row 76 2 0 (mM enc_disk_sector d_queue)), (1000003, .map (encM (fun e => V.agg (enc_disk_sector e)) V.bool d_set))] := by
 refine fnA_of_wp (N := 111) Tryz.func20 rfl rfl rfl fun cK0 => ?_
 unfold s_disk_Disk_Crash_x at hs
 refine v_same (ρ' := [(0, .ptr 1000000 0 0), (1, .vs 1 (mI keep))]) rfl rfl ?_
 refine vS (vS (vT (oR 4 [(13, .bool d_down), (12, .ptr 1000000 0 4), (11, .ptr 1000000 0 0), (10, .ptr 1000000 0 0)] kr ?_)))
 refine oN (nT ?_)
 refine v_cond d_down kr (fun h1 => ?_) (fun h1 => ?_)
 ·replace hs := bif_t h1 hs
  cases hs
 ·replace hs := bif_f h1 hs
  refine vK (nT (vS (vT (o_runh 8 [(19, .ptr 1000000 0 5), (18, .ptr 1000000 0 0), (17, .ptr 1000000 0 4), (16, .ptr 1000000 0 0), (15, .ptr 1000000 0 0), (14, .ptr 1000000 0 0)] [(1000000, .box 60 [.mp 1000001, .sl 2 1000002 ((d_queue).length) 0 ((d_queue).length), .mp 1000003, .int .i64 d_lost, .bool true, .int .i64 0, .vs 1 (mI d_keep)]), (1000001, .map (encM (V.int .i64) (fun e => V.agg (enc_disk_file e)) d_files)), (1000002, .row 76 2 0 (mM enc_disk_sector d_queue)), (1000003, .map (encM (fun e => V.agg (enc_disk_sector e)) V.bool d_set))] kr ?_))))
  refine oN (nT (vS (vS (vT (oR 6 [(25, .int .i64 0), (24, .int .i64 ((d_queue).length : Int)), (23, .sl 2 1000002 ((d_queue).length) 0 ((d_queue).length)), (22, .ptr 1000000 0 1), (21, .ptr 1000000 0 0), (20, .ptr 1000000 0 0)] kr ?_)))))
  refine oN (nT ?_)
  obtain ⟨z1, hs, hk1⟩ := bS hs
  refine v_join (S := (List (Int × disk_file))) (fun u => u = z1) (fun u => [(0, .ptr 1000000 0 0)]) (fun u => [(1000000, .box 60 [.mp 1000001, .sl 2 1000002 ((d_queue).length) 0 ((d_queue).length), .mp 1000003, .int .i64 d_lost, .bool true, .int .i64 0, .vs 1 (mI d_keep)]), (1000001, .map (encM (V.int .i64) (fun e => V.agg (enc_disk_file e)) u)), (1000002, .row 76 2 0 (mM enc_disk_sector d_queue)), (1000003, .map (encM (fun e => V.agg (enc_disk_sector e)) V.bool d_set))]) ?_ (fun v1 hz => ?_)
  ·refine vB ?_
   refine v_fuel (S := Int × (List (Int × disk_file))) (fun u => [(0, .ptr 1000000 0 0), (1, .vs 1 (mI keep)), (23, .sl 2 1000002 ((d_queue).length) 0 ((d_queue).length)), (24, .int .i64 ((d_queue).length : Int)), (25, .int .i64 u.1)]) (fun u => [(1000000, .box 60 [.mp 1000001, .sl 2 1000002 ((d_queue).length) 0 ((d_queue).length), .mp 1000003, .int .i64 d_lost, .bool true, .int .i64 0, .vs 1 (mI d_keep)]), (1000001, .map (encM (V.int .i64) (fun e => V.agg (enc_disk_file e)) u.2)), (1000002, .row 76 2 0 (mM enc_disk_sector d_queue)), (1000003, .map (encM (fun e => V.agg (enc_disk_sector e)) V.bool d_set))]) (s_disk_Disk_Crash_x_L1 d_queue keep) (fun _ => rfl) KK (0, d_files) hs (cut_of [0, 1, 23, 24, 25] [1000000, 1000001, 1000002, 1000003] kr kr kr) (fun K1 q1 hs => ?_)
   rw [s_disk_Disk_Crash_x_L1] at hs
   show WpV cK0 Tryz.prog none 111 _ _ [(0, .ptr 1000000 0 0), (1, .vs 1 (mI keep)), (23, .sl 2 1000002 ((d_queue).length) 0 ((d_queue).length)), (24, .int .i64 ((d_queue).length : Int)), (25, .int .i64 q1.1)] [(1000000, .box 60 [.mp 1000001, .sl 2 1000002 ((d_queue).length) 0 ((d_queue).length), .mp 1000003, .int .i64 d_lost, .bool true, .int .i64 0, .vs 1 (mI d_keep)]), (1000001, .map (encM (V.int .i64) (fun e => V.agg (enc_disk_file e)) q1.2)), (1000002, .row 76 2 0 (mM enc_disk_sector d_queue)), (1000003, .map (encM (fun e => V.agg (enc_disk_sector e)) V.bool d_set))] []
   refine vS (vT (oR 1 [(26, .bool (decide (q1.1 < ((d_queue).length : Int))))] kr ?_))
   refine oN (nT (vS ?_))
   refine v_cond (decide (q1.1 < ((d_queue).length : Int))) kr (fun h2 => ?_) (fun h2 => ?_)
   ·replace hs := bif_t h2 hs
    refine vK (nT (vS ?_))
    obtain ⟨z2, hs, hk2⟩ := bS hs
    refine v_join (S := (List (Int × disk_file))) (fun u => u = z2) (fun u => [(0, .ptr 1000000 0 0), (1, .vs 1 (mI keep)), (23, .sl 2 1000002 ((d_queue).length) 0 ((d_queue).length)), (24, .int .i64 ((d_queue).length : Int)), (25, .int .i64 q1.1)]) (fun u => [(1000002, .row 76 2 0 (mM enc_disk_sector d_queue)), (1000000, .box 60 [.mp 1000001, .sl 2 1000002 ((d_queue).length) 0 ((d_queue).length), .mp 1000003, .int .i64 d_lost, .bool true, .int .i64 0, .vs 1 (mI d_keep)]), (1000001, .map (encM (V.int .i64) (fun e => V.agg (enc_disk_file e)) u)), (1000003, .map (encM (fun e => V.agg (enc_disk_sector e)) V.bool d_set))]) ?_ (fun v2 hz => ?_)
    ·refine vB (vS (vT (oR 1 [(27, .int .i64 q1.1)] kr ?_)))
     obtain ⟨⟨g1a, g1b⟩, hs⟩ := bG hs
     refine oP (v := .ptr 1000002 ((d_queue).length) ((Int.toNat q1.1) * 2 + 0)) kr kr (loc_indexRowT (e := 76) (sz := 2) (kk := 1000002) (L := (d_queue).length) (n := (d_queue).length) (k := .i64) (i := q1.1) kr kr kr g1a g1b) ?_
     obtain ⟨e1, he1, hs⟩ := bE hs
     refine o_loc (F := [(1000002, .row 76 2 0 (mM enc_disk_sector d_queue))]) (F' := [(1000002, .row 76 2 0 (mM enc_disk_sector d_queue))]) (v := .agg (enc_disk_sector e1)) [1000002] kr kr rfl kr (loc_loadRow (L := (d_queue).length) (off := (Int.toNat q1.1) * 2 + 0) (els := (mM enc_disk_sector d_queue)) (cs := (enc_disk_sector e1)) (Int.toNat q1.1) 0 kr (by first | (simp only [List.length_map, List.length_set, cpyT_length]; done) | rfl) rfl (by rw [← he1]; exact map_get _ (by first | omega | (simp only [List.length_set, cpyT_length]; omega))) kr) kr ?_
     refine o_runh 3 [(4, .int .i64 q1.1), (5, .ptr 5 0 0)] [(5, .box 76 [.int .i64 e1.file, .int .i64 e1.number]), (1000002, .row 76 2 0 (mM enc_disk_sector d_queue)), (1000000, .box 60 [.mp 1000001, .sl 2 1000002 ((d_queue).length) 0 ((d_queue).length), .mp 1000003, .int .i64 d_lost, .bool true, .int .i64 0, .vs 1 (mI d_keep)]), (1000001, .map (encM (V.int .i64) (fun e => V.agg (enc_disk_file e)) q1.2)), (1000003, .map (encM (fun e => V.agg (enc_disk_sector e)) V.bool d_set))] kr ?_
     refine oN (nT (vS (v_draw mixedH kr ?_)))
     refine d_runs 6 0 [(35, .int .i64 e1.file), (34, .ptr 5 0 0), (33, .mp 1000001), (32, .ptr 1000000 0 0), (31, .ptr 1000000 0 0), (30, .ptr 1000000 0 0)] [⟨5, [], [5]⟩, ⟨4, [], []⟩, ⟨3, [], [1000000]⟩, ⟨2, [], []⟩, ⟨1, [], []⟩, ⟨0, [], []⟩] kr kr ?_
     refine d_loc (F := []) (R := [(1000001, .map (encM (V.int .i64) (fun e => V.agg (enc_disk_file e)) q1.2))]) (F' := []) (v := .agg (enc_disk_file (Option.getD (mfind e1.file q1.2) (disk_file.mk [] [])))) 6 [] [1000001] rfl rfl rfl rfl kr kr kr kr kr kr kr kr (loc_lookup (et := 78) (f := (V.int .i64)) (g := (fun e => V.agg (enc_disk_file e))) (l := q1.2) (a := e1.file) (z := (disk_file.mk [] [])) (zv := .agg [.str [], .str []]) false kr kok3 kr (fun _ _ _ h => h) kr kr) ?_
     refine d_runh 6 7 [(7, .int .i64 (w64 (e1.number * 64))), (6, .ptr 6 0 0), (39, .int .i64 (w64 (e1.number * 64))), (38, .int .i64 e1.number), (37, .ptr 5 0 1)] [(6, .box 78 [.str ((Option.getD (mfind e1.file q1.2) (disk_file.mk [] [])).now), .str ((Option.getD (mfind e1.file q1.2) (disk_file.mk [] [])).last)]), (5, .box 76 [.int .i64 e1.file, .int .i64 e1.number]), (1000002, .row 76 2 0 (mM enc_disk_sector d_queue)), (1000000, .box 60 [.mp 1000001, .sl 2 1000002 ((d_queue).length) 0 ((d_queue).length), .mp 1000003, .int .i64 d_lost, .bool true, .int .i64 0, .vs 1 (mI d_keep)]), (1000001, .map (encM (V.int .i64) (fun e => V.agg (enc_disk_file e)) q1.2)), (1000003, .map (encM (fun e => V.agg (enc_disk_sector e)) V.bool d_set))] [⟨12, [], []⟩, ⟨11, [6], []⟩, ⟨10, [6], []⟩, ⟨9, [], []⟩, ⟨8, [], [5]⟩, ⟨7, [], []⟩] kr kr ?_
     refine d_nil kr ?_
     refine nT (vS (vS ?_))
     obtain ⟨z3, hs, hk3⟩ := bS hs
     refine v_join (S := Bool) (fun u => u = z3) (fun u => [(0, .ptr 1000000 0 0), (1, .vs 1 (mI keep)), (5, .ptr 5 0 0), (6, .ptr 6 0 0), (7, .int .i64 (w64 (e1.number * 64))), (23, .sl 2 1000002 ((d_queue).length) 0 ((d_queue).length)), (24, .int .i64 ((d_queue).length : Int)), (25, .int .i64 q1.1), (60, .bool u)]) (fun u => [(6, .box 78 [.str ((Option.getD (mfind e1.file q1.2) (disk_file.mk [] [])).now), .str ((Option.getD (mfind e1.file q1.2) (disk_file.mk [] [])).last)]), (5, .box 76 [.int .i64 e1.file, .int .i64 e1.number]), (1000002, .row 76 2 0 (mM enc_disk_sector d_queue)), (1000000, .box 60 [.mp 1000001, .sl 2 1000002 ((d_queue).length) 0 ((d_queue).length), .mp 1000003, .int .i64 d_lost, .bool true, .int .i64 0, .vs 1 (mI d_keep)]), (1000001, .map (encM (V.int .i64) (fun e => V.agg (enc_disk_file e)) q1.2)), (1000003, .map (encM (fun e => V.agg (enc_disk_sector e)) V.bool d_set))]) ?_ (fun v3 hz => ?_)
     ·refine vT (oR 1 [(40, .vs 1 (mI keep))] kr ?_)
      refine oP (v := .int .i64 (List.length keep : Int)) kr kr (loc_lenVs (sz := 1) (els := (mI keep)) kr kr (List.length_map ..)) ?_
      refine oR 2 [(43, .bool (decide ((List.length keep : Int) = 0))), (42, .bool (decide ((List.length keep : Int) = 0)))] kr ?_
      cases h3 : ((decide ((List.length keep : Int) = 0)))
      ·replace hs := bif_f h3 hs
       refine oR 3 [(46, .vs 1 (mI keep)), (45, .int .i64 q1.1), (44, .vs 1 (mI keep))] kr ?_
       refine oP (v := .int .i64 (List.length keep : Int)) kr kr (loc_lenVs (sz := 1) (els := (mI keep)) kr kr (List.length_map ..)) ?_
       obtain ⟨_, g2, hs⟩ := bS hs; replace g2 := grd_some g2
       refine oP (v := .int .i64 (Int.tmod q1.1 (List.length keep : Int))) kr kr (loc_div (k := .i64) (a := q1.1) (b := (List.length keep : Int)) (by simp) kr kr g2) ?_
       obtain ⟨x1, g3, hs⟩ := bS hs; obtain ⟨g3a, g3b, g3c⟩ := idx_some g3
       refine oP (v := .vp [.int .i64 x1] 0) kr kr (loc_indexVs (e := 3) (sz := 1) (k := .i64) (els := (mI keep)) (cs := (EV.encI x1)) kr kr kr g3a (by rw [g3c]; exact map_get _ (by omega))) ?_
       refine oR 5 [(54, .bool (decide ((IntKind.i64.wrap ((BitVec.ofInt IntKind.i64.bits x1 &&& BitVec.ofInt IntKind.i64.bits 1).toNat : Int)) = 0))), (53, .bool (decide ((IntKind.i64.wrap ((BitVec.ofInt IntKind.i64.bits x1 &&& BitVec.ofInt IntKind.i64.bits 1).toNat : Int)) = 0))), (52, .bool (decide ((IntKind.i64.wrap ((BitVec.ofInt IntKind.i64.bits x1 &&& BitVec.ofInt IntKind.i64.bits 1).toNat : Int)) = 0))), (51, .int .i64 (IntKind.i64.wrap ((BitVec.ofInt IntKind.i64.bits x1 &&& BitVec.ofInt IntKind.i64.bits 1).toNat : Int))), (50, .int .i64 x1)] kr ?_
       cases h4 : ((decide ((IntKind.i64.wrap ((BitVec.ofInt IntKind.i64.bits x1 &&& BitVec.ofInt IntKind.i64.bits 1).toNat : Int)) = 0)))
       ·replace hs := bif_f h4 hs
        refine oR 6 [(60, .bool (decide ((w64 (e1.number * 64)) ≥ (List.length ((Option.getD (mfind e1.file q1.2) (disk_file.mk [] [])).now) : Int)))), (59, .bool (decide ((w64 (e1.number * 64)) ≥ (List.length ((Option.getD (mfind e1.file q1.2) (disk_file.mk [] [])).now) : Int)))), (58, .int .i64 (List.length ((Option.getD (mfind e1.file q1.2) (disk_file.mk [] [])).now) : Int)), (57, .str ((Option.getD (mfind e1.file q1.2) (disk_file.mk [] [])).now)), (56, .ptr 6 0 0), (55, .int .i64 (w64 (e1.number * 64)))] kr ?_
        refine oN ?_
        obtain rfl := si hs
        refine nrm_join (decide ((w64 (e1.number * 64)) ≥ (List.length ((Option.getD (mfind e1.file q1.2) (disk_file.mk [] [])).now) : Int))) rfl ?_
        exact cut_of [0, 1, 5, 6, 7, 23, 24, 25, 60] [6, 5, 1000002, 1000000, 1000001, 1000003] kr kr kr
       ·replace hs := bif_t h4 hs
        refine oR 6 [(60, .bool true), (59, .no), (58, .no), (57, .no), (56, .no), (55, .no)] kr ?_
        refine oN ?_
        obtain rfl := si hs
        refine nrm_join true rfl ?_
        exact cut_of [0, 1, 5, 6, 7, 23, 24, 25, 60] [6, 5, 1000002, 1000000, 1000001, 1000003] kr kr kr
      ·replace hs := bif_t h3 hs
       refine oR 17 [(60, .bool true), (59, .no), (58, .no), (57, .no), (56, .no), (55, .no), (54, .bool true), (53, .bool true), (52, .no), (51, .no), (50, .no), (49, .no), (48, .no), (47, .no), (46, .no), (45, .no), (44, .no)] kr ?_
       refine oN ?_
       obtain rfl := si hs
       refine nrm_join true rfl ?_
       exact cut_of [0, 1, 5, 6, 7, 23, 24, 25, 60] [6, 5, 1000002, 1000000, 1000001, 1000003] kr kr kr
     ·subst hz; clear hs; have hs := hk3; clear hk3
      refine nT ?_
      refine v_cond v3 kr (fun h5 => ?_) (fun h5 => ?_)
      ·replace hs := bif_t h5 hs
       refine v_exit (exit_thenV (exit_blkV ?_))
       obtain rfl := si hs
       refine nrm_join q1.2 rfl ?_
       exact cut_of [0, 1, 23, 24, 25] [1000002, 1000000, 1000001, 1000003] kr kr kr
      ·replace hs := bif_f h5 hs
       refine vK (nT (vS (v_draw mixedH kr ?_)))
       refine d_runs 12 0 [(72, .int .i64 (min (w64 ((w64 (e1.number * 64)) + 64)) (List.length ((Option.getD (mfind e1.file q1.2) (disk_file.mk [] [])).now) : Int))), (71, .int .i64 (List.length ((Option.getD (mfind e1.file q1.2) (disk_file.mk [] [])).now) : Int)), (70, .str ((Option.getD (mfind e1.file q1.2) (disk_file.mk [] [])).now)), (69, .ptr 6 0 0), (68, .int .i64 (w64 ((w64 (e1.number * 64)) + 64))), (67, .int .i64 (w64 (e1.number * 64))), (66, .int .i64 (w64 (e1.number * 64))), (65, .str ((Option.getD (mfind e1.file q1.2) (disk_file.mk [] [])).now)), (64, .ptr 6 0 0), (63, .int .i64 (w64 (e1.number * 64))), (62, .str ((Option.getD (mfind e1.file q1.2) (disk_file.mk [] [])).last)), (61, .ptr 6 0 1)] [⟨11, [], []⟩, ⟨10, [], []⟩, ⟨9, [], [6]⟩, ⟨8, [], []⟩, ⟨7, [], []⟩, ⟨6, [], []⟩, ⟨5, [], []⟩, ⟨4, [], [6]⟩, ⟨3, [], []⟩, ⟨2, [], []⟩, ⟨1, [], [6]⟩, ⟨0, [], []⟩] kr kr ?_
       obtain ⟨x2, g4, hs⟩ := bS hs; obtain ⟨g4a, g4b, g4c, g4d⟩ := cut_some g4
       refine d_pure (v := .str x2) 12 rfl rfl rfl rfl kr kr (by rw [g4d]; exact loc_sliceStr (s := (Option.getD (mfind e1.file q1.2) (disk_file.mk [] [])).now) (l := (w64 (e1.number * 64))) (h := (min (w64 ((w64 (e1.number * 64)) + 64)) (List.length ((Option.getD (mfind e1.file q1.2) (disk_file.mk [] [])).now) : Int))) kr kr ⟨.i64, by kernel_rfl⟩ ⟨.i64, by kernel_rfl⟩ g4a g4b g4c) ?_
       obtain ⟨y1, c1, hs⟩ := bS hs
       refine d_pure (v := .str y1) 13 rfl rfl rfl rfl kr kr (loc_gcall0 (callV_func hbv44 kr) (w_disk_put ((Option.getD (mfind e1.file q1.2) (disk_file.mk [] [])).last) (w64 (e1.number * 64)) x2 _ c1) kr) ?_
       refine d_runh 2 14 [(75, .ptr 6 0 1)] [(6, .box 78 [.str ((Option.getD (mfind e1.file q1.2) (disk_file.mk [] [])).now), .str y1]), (5, .box 76 [.int .i64 e1.file, .int .i64 e1.number]), (1000002, .row 76 2 0 (mM enc_disk_sector d_queue)), (1000000, .box 60 [.mp 1000001, .sl 2 1000002 ((d_queue).length) 0 ((d_queue).length), .mp 1000003, .int .i64 d_lost, .bool true, .int .i64 0, .vs 1 (mI d_keep)]), (1000001, .map (encM (V.int .i64) (fun e => V.agg (enc_disk_file e)) q1.2)), (1000003, .map (encM (fun e => V.agg (enc_disk_sector e)) V.bool d_set))] [⟨15, [6], []⟩, ⟨14, [], []⟩] kr kr ?_
       refine d_nil kr ?_
       refine nT (v_draw mixedH kr ?_)
       refine d_runs 7 0 [(82, .agg [.str ((Option.getD (mfind e1.file q1.2) (disk_file.mk [] [])).now), .str y1]), (81, .int .i64 e1.file), (80, .ptr 5 0 0), (79, .mp 1000001), (78, .ptr 1000000 0 0), (77, .ptr 1000000 0 0), (76, .ptr 1000000 0 0)] [⟨6, [], [6]⟩, ⟨5, [], [5]⟩, ⟨4, [], []⟩, ⟨3, [], [1000000]⟩, ⟨2, [], []⟩, ⟨1, [], []⟩, ⟨0, [], []⟩] kr kr ?_
       refine d_loc (F := [(1000001, .map (encM (V.int .i64) (fun e => V.agg (enc_disk_file e)) q1.2))]) (R := []) (F' := [(1000001, .map (encM (V.int .i64) (fun e => V.agg (enc_disk_file e)) (mset e1.file (disk_file.mk ((Option.getD (mfind e1.file q1.2) (disk_file.mk [] [])).now) y1) q1.2)))]) (v := .no) 7 [1000001] [] rfl rfl rfl rfl kr kr kr kr kr kr kr kr (loc_mapUpdate (et := 78) (f := (V.int .i64)) (g := (fun e => V.agg (enc_disk_file e))) (l := q1.2) (a := e1.file) (c := (disk_file.mk ((Option.getD (mfind e1.file q1.2) (disk_file.mk [] [])).now) y1)) kr kok3 kr kr kr kr kr) ?_
       refine d_nil kr ?_
       refine nB ?_
       obtain rfl := si hs
       refine nrm_join (mset e1.file (disk_file.mk ((Option.getD (mfind e1.file q1.2) (disk_file.mk [] [])).now) y1) q1.2) rfl ?_
       exact cut_of [0, 1, 23, 24, 25] [1000002, 1000000, 1000001, 1000003] kr kr kr
    ·subst hz; clear hs; have hs := hk2; clear hk2
     refine nT (vT (oR 2 [(25, .int .i64 (w64 (q1.1 + 1))), (83, .int .i64 (w64 (q1.1 + 1)))] kr ?_))
     refine oN (nrm_fuel ((w64 (q1.1 + 1)), v2) hs ?_)
     exact cut_of [0, 1, 23, 24, 25] [1000000, 1000001, 1000002, 1000003] kr kr kr
   ·replace hs := bif_f h2 hs
    refine v_exit (exit_thenV (exit_fuel ?_))
    refine exit_blkV ?_
    obtain rfl := si hs
    refine nrm_join q1.2 rfl ?_
    exact cut_of [0] [1000000, 1000001, 1000002, 1000003] kr kr kr
  ·subst hz; clear hs; have hs := hk1; clear hk1
   refine nT (vS (vS (vT (oR 4 [(87, .mp 1000001), (86, .ptr 1000000 0 0), (85, .ptr 1000000 0 0), (84, .ptr 1000000 0 0)] kr ?_))))
   refine ov_alt (F := [(1000001, .map (encM (V.int .i64) (fun e => V.agg (enc_disk_file e)) v1))]) 88 [1000001] rfl kr kr kr rfl (locA_range (kt := 3) (et := 78) (k := 1000001) kr kr) (fun i => rfl) (fun q2 _ => ?_)
   refine oN (nT (v_to [(0, .ptr 1000000 0 0), (88, .gv 1000001 (itV q2))] [(1000001, .gen (mapIt q2 (unm (encM (V.int .i64) (fun e => V.agg (enc_disk_file e)) v1)) none)), (1000000, .box 60 [.mp 1000001, .sl 2 1000002 ((d_queue).length) 0 ((d_queue).length), .mp 1000003, .int .i64 d_lost, .bool true, .int .i64 0, .vs 1 (mI d_keep)]), (1000002, .row 76 2 0 (mM enc_disk_sector d_queue)), (1000003, .map (encM (fun e => V.agg (enc_disk_sector e)) V.bool d_set))] (cut_of [0, 88] [1000001, 1000000, 1000002, 1000003] kr kr kr) ?_))
   obtain ⟨_, h6, hs⟩ := bS hs; replace h6 := grd_some h6
   refine v_crash2 (files := v1) (queue := d_queue) (dset := d_set) h6 kr ?_
   refine nT (vT (o_runh 9 [(110, .ptr 1000000 0 2), (109, .ptr 1000000 0 0), (108, .ptr 1000000 0 1), (107, .ptr 1000000 0 0), (106, .mp 106), (105, .ptr 1000000 0 0), (104, .ptr 1000000 0 0)] [(106, .map (encM (fun e => V.agg (enc_disk_sector e)) V.bool [])), (1000001, .map (encM (V.int .i64) (fun e => V.agg (enc_disk_file e)) (both2 v1))), (1000000, .box 60 [.mp 1000001, .nils, .mp 106, .int .i64 d_lost, .bool true, .int .i64 0, .vs 1 (mI d_keep)]), (1000002, .row 76 2 0 (mM enc_disk_sector d_queue)), (1000003, .map (encM (fun e => V.agg (enc_disk_sector e)) V.bool d_set))] kr ?_))
   refine oN (fin_nrm ?_)
   obtain rfl := si hs
   exact fin_ret kr kr kr
theorem w_slices_Clone (s : (List Int)) (r : (List Int)) (hs : s_slices_Clone s = some r) : FnA Tryz.prog 43 [.vs 1 (mI s)] [] (.vs 1 (mI r)) [] := by
 refine fnA_of_wp (N := 8) Tryz.func43 rfl rfl rfl fun cK0 => ?_
 unfold s_slices_Clone at hs
 refine v_same (ρ' := [(0, .vs 1 (mI s))]) rfl rfl ?_
 refine vS (vT (oR 1 [(2, .nils)] kr ?_))
 refine oN (nT (vS (vS (vT (oR 1 [(3, .vs 1 (mI s))] kr ?_)))))
 replace hs := nd_some hs
 refine o_isNil (n := ((mI s)).length) kr kr kr kr kr (fun h1 => ?_) ?_
 ·replace hs := hs.1 (by simpa using h1)
  refine oN (nT (v_cond_t kr ?_))
  refine vS (vT (oR 1 [(2, .nils)] kr ?_))
  refine oN (nT (v_to ((2, .vs 1 (mI [])) :: _) _ (cut_view (R := []) (ks := []) kr kr (.nils 1)) ?_))
  refine v_ret (rT ?_)
  obtain rfl := si hs
  exact fin_ret kr kr kr
 ·replace hs := hs.2
  refine oN (nT (v_cond_f kr ?_))
  refine vK (nT (vS (vT (o_runh 2 [(6, .vs 1 (mI s)), (5, .sl 1 5 0 0 0)] [(5, .row 3 1 0 (mI []))] kr ?_))))
  obtain ⟨_, g1, hs⟩ := bS hs; replace g1 := grd_some g1
  refine o_loc (F := [(5, .row 3 1 0 (mI []))]) (F' := [(5, .row 3 1 0 (mI s))]) (v := .sl 1 5 ((s).length) 0 ((s).length)) [5] kr kr rfl kr (loc_appendT (e := 3) (sz := 1) (bytes := 8) (L := 0) (els := (mI [])) (ys := (mI s)) kr kr (by first | exact List.length_map .. | rfl) (by have := Src.vs (sz := 1) (R := []) (mI s); exact this) (map_ones EV.encI (fun _ => rfl) _) (map_lens EV.encI (fun _ => rfl) _) kr (by first | exact (List.map_append ..).symm | rfl | simp only [List.map_nil, List.nil_append]) (List.length_map ..) g1 (by omega)) kr ?_
  refine oR 1 [(2, .sl 1 5 ((s).length) 0 ((s).length))] kr ?_
  refine oN (nT (v_to _ [(5, .row 3 1 (((mI s)).length) (mI s))] (cut_freeze (F := [(5, .row 3 1 0 (mI s))]) [5] rfl kr kr) ?_))
  refine v_to ((2, .vs 1 (mI s)) :: _) _ (cut_view (R := [(5, .row 3 1 (((mI s)).length) (mI s))]) (ks := [5]) kr kr (.row (t := 3) (fz := (((mI s)).length)) kr (by first | (simp only [List.length_map, List.length_set, cpyT_length]; done) | rfl))) ?_
  refine v_ret ?_
  obtain rfl := si hs
  exact fin_ret kr kr kr
end Go.Proofs.YtoflckochjijcaaGreatDoor
