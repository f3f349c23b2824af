/- Crash's second loop, by hand: a range over a map that stores. -/
import Derived.Test.YtoflckochjijcaaGreatDoorG
set_option linter.all false
set_option maxRecDepth 100000
namespace Go.Proofs.YtoflckochjijcaaGreatDoor
open Go Go.RowKit Go.Eng Go.EV
def seqR : Code → Code | .seq _ y => y | c => c
def seqL : Code → Code | .seq x _ => x | c => c
abbrev gF : disk_file → V := fun e => V.agg (enc_disk_file e)
theorem mixJ : Tryz.prog.follows .mixedOrders = true := by kernel_rfl
theorem kokJ : KeyOK Tryz.prog 3 (V.int .i64) (fun n : Int => Value.int .i64 n) := keyOK_int (by kernel_rfl)
def unseenF (g : List (Bool × Int × disk_file)) : Nat := (g.filter fun p => !p.1).length
abbrev crE (q : Nat) : Env := [(0, .ptr 1000000 0 0), (88, .gv 1000001 (itV q))]
abbrev crH (queue : List disk_sector) (dset : List (disk_sector × Bool)) (lost : Int) (keep : List Int) (o : EV.Obj) : Heap := [(1000001, o), (1000000, .box 60 [.mp 1000001, .sl 2 1000002 ((queue).length) 0 ((queue).length), .mp 1000003, .int .i64 lost, .bool true, .int .i64 0, .vs 1 (List.map EV.encI keep)]), (1000002, .row 76 2 0 (List.map enc_disk_sector queue)), (1000003, .map (encM fS V.bool dset))]
theorem set_mid {α : Type} (x y : α) (b : List α) : ∀ a : List α, (a ++ x :: b).set a.length y = a ++ y :: b
 | [] => rfl
 | z :: a => by simp [set_mid x y b a]
theorem both_set {a b : List (Bool × Int × disk_file)} {x : Bool × Int × disk_file} {y : disk_file} (hy : disk_both y = disk_both x.2.2) {l : List (Int × disk_file)} (h : both2 ((a ++ x :: b).map (·.2)) = l) : both2 ((a ++ (true, x.2.1, y) :: b).map (·.2)) = l := by
 rw [← h]; simp [both2, hy]
theorem v_crash2 {c : Ctx [1000000, 1000001, 1000002, 1000003]} {code : Code} {Q : PostV} {files : List (Int × disk_file)} {queue : List disk_sector} {dset : List (disk_sector × Bool)} {lost : Int} {keep : List Int} {q : Nat} (hn : (files.map (·.1)).Nodup)
  (hc : code = seqR (seqL (seqR (seqR (seqR (Tryz.f20.body.getD .skip)))))) (h : Q .normal [(0, .ptr 1000000 0 0)] (crH queue dset lost keep (.map (encM (V.int .i64) gF (both2 files)))) []) :
  WpV c Tryz.prog none 111 code Q (crE q) (crH queue dset lost keep (.gen (mapIt q (unm (encM (V.int .i64) gF files)) none))) [] := by
 subst hc
 refine v_block ?_
 refine v_rounds (fun _ : List (Bool × Int × disk_file) => crE q) (fun g => crH queue dset lost keep (.gen (mapIt q (encIt (V.int .i64) gF g) none)))
  (fun g => (g.map (·.2.1)).Nodup ∧ (∀ p ∈ g, p.1 = true → p.2.2 = disk_both p.2.2) ∧ both2 (g.map (·.2)) = both2 files) unseenF (files.map fun p => (false, p)) ⟨by rw [List.map_map]; exact hn, fun p hp h => ?_, by rw [List.map_map]; congr 1; exact List.map_id files⟩ ?_ fun g hg => ?_
 ·obtain ⟨q, _, rfl⟩ := List.mem_map.1 hp
  cases h
 ·rw [show encIt (V.int .i64) gF (files.map fun p => (false, p)) = unm (encM (V.int .i64) gF files) by simp [encIt, unm, encM, Function.comp_def]]
  exact cut_of [0, 88] [1000001, 1000000, 1000002, 1000003] (by kernel_rfl) (by kernel_rfl) (by kernel_rfl)
 obtain ⟨i1, i2, i3⟩ := hg
 refine v_seq ?_
 refine vr_text ?_
 refine ov_alt (F := [(1000001, .gen (mapIt q (encIt (V.int .i64) gF g) none))]) 89 [1000001] rfl (by kernel_rfl) (by kernel_rfl) (by kernel_rfl) rfl (locA_next (k := 1000001) (by kernel_rfl)) (fun i => by cases i <;> rfl) (fun i hi => ?_)
 cases i with
 | none =>
  refine o_runs 1 [(90, .bool false)] (by kernel_rfl) ?_
  refine ov_nil ?_
  refine nrm_thenV ?_
  refine v_seq ?_
  refine v_cond_f (by kernel_rfl) ?_
  have hall : ∀ p ∈ g, p.1 = true := fun p hp => hi (p.1, .int .i64 p.2.1, gF p.2.2) (List.mem_map.2 ⟨p, hp, rfl⟩)
  have hl : g.map (·.2) = both2 files := by
   rw [← i3, both2, List.map_map]
   refine List.map_congr_left fun p hp => ?_
   have := i2 p hp (hall p hp)
   show p.2 = (p.2.1, disk_both p.2.2)
   rw [← this]
  have hH : unmk (encIt (V.int .i64) gF g) = encM (V.int .i64) gF (both2 files) := by rw [unmk_encIt, hl]
  refine v_to _ (crH queue dset lost keep (.map (encM (V.int .i64) gF (both2 files)))) (cut_itEnd q 1000001 (l := encIt (V.int .i64) gF g) (cur := none) (by kernel_rfl) (by rw [hH]; kernel_rfl)) ?_
  refine v_to [(0, .ptr 1000000 0 0)] (crH queue dset lost keep (.map (encM (V.int .i64) gF (both2 files)))) (cut_of [0] [1000001, 1000000, 1000002, 1000003] (by kernel_rfl) (by kernel_rfl) (by kernel_rfl)) ?_
  refine v_exit ?_
  refine exit_thenV ?_
  refine exit_head ?_
  refine exit_blkV ?_
  exact h
 | some j =>
  obtain ⟨p0, hp0, hf0⟩ := hi
  obtain ⟨p1, hq, rfl⟩ : ∃ q, g[j]? = some q ∧ (q.1, V.int .i64 q.2.1, gF q.2.2) = p0 := by
   simp only [encIt, List.getElem?_map] at hp0
   obtain ⟨q, hq, e⟩ := Option.map_eq_some_iff.1 hp0
   exact ⟨q, hq, e⟩
  obtain ⟨b0, s, bv⟩ := p1
  have hf0 : b0 = false := hf0
  subst hf0
  let g' := g.modify j fun p => (true, p.2)
  have hg' : g'[j]? = some (true, s, bv) := by simp [g', hq]
  have hv8 : nextV (encIt (V.int .i64) gF g) (some j) = .tup [.bool true, .int .i64 s, gF bv] := by
   simp [nextV, encIt, hq]
  have hH8 : nextF q 1000001 (encIt (V.int .i64) gF g) none (some j) ++ remH [1000001] (crH queue dset lost keep (.gen (mapIt q (encIt (V.int .i64) gF g) none))) = crH queue dset lost keep (.gen (mapIt q (encIt (V.int .i64) gF g') (some j))) := by
   rw [← mark_encIt]; rfl
  rw [hv8, hH8]
  refine o_runs 1 [(90, .bool true)] (by kernel_rfl) ?_
  refine ov_nil ?_
  refine nrm_thenV ?_
  refine v_seq ?_
  refine v_cond_t (by kernel_rfl) ?_
  refine v_skip ?_
  refine nrm_thenV ?_
  refine v_block ?_
  refine v_seq ?_
  refine vr_text ?_
  refine o_loc (F := [(1000001, .gen (mapIt q (encIt (V.int .i64) gF g') (some j)))]) (F' := [(1000001, .gen (mapIt q (encIt (V.int .i64) gF g') (some j)))]) (v := .tup [.int .i64 s, gF bv]) [1000001] (by kernel_rfl) (by kernel_rfl) rfl (by kernel_rfl) (loc_entry (k := 1000001) (i := j) (p := (true, .int .i64 s, gF bv)) (by kernel_rfl) (by simp [encIt, hg'])) (by kernel_rfl) ?_
  refine o_runh 5 [(8, .int .i64 s), (9, .ptr 9 0 0), (93, gF bv), (92, .int .i64 s)] ((9, .box 78 (enc_disk_file bv)) :: crH queue dset lost keep (.gen (mapIt q (encIt (V.int .i64) gF g') (some j)))) (by kernel_rfl) ?_
  refine ov_nil ?_
  refine nrm_thenV ?_
  refine v_draw mixJ (by kernel_rfl) ?_
  refine d_runs 10 0 [(103, gF (disk_both bv)), (102, .str bv.last), (101, .ptr 9 0 1), (100, .str bv.last), (99, .ptr 9 0 1), (98, .int .i64 s), (97, .mp 1000001), (96, .ptr 1000000 0 0), (95, .ptr 1000000 0 0), (94, .ptr 1000000 0 0)] [⟨9, [], []⟩, ⟨8, [], [9]⟩, ⟨7, [], []⟩, ⟨6, [], [9]⟩, ⟨5, [], []⟩, ⟨4, [], []⟩, ⟨3, [], [1000000]⟩, ⟨2, [], []⟩, ⟨1, [], []⟩, ⟨0, [], []⟩] (by kernel_rfl) (by kernel_rfl) ?_
  have hnd : (g'.map (·.2.1)).Nodup := by
   have : g'.map (·.2.1) = g.map (·.2.1) := by
    apply List.ext_getElem?
    intro i
    simp only [g', List.getElem?_map, List.getElem?_modify]
    cases g[i]? with
    | none => rfl
    | some p => simp only [Option.map_some]; split <;> rfl
   rw [this]; exact i1
  refine d_loc (F := [(1000001, .gen (mapIt q (encIt (V.int .i64) gF g') (some j)))]) (R := []) (F' := [(1000001, .gen (mapIt q (encIt (V.int .i64) gF (g'.set j (true, s, disk_both bv))) none))]) (v := .no) 10 [1000001] [] rfl rfl rfl rfl (by kernel_rfl) (by kernel_rfl) (by kernel_rfl) (by kernel_rfl) (by kernel_rfl) (by kernel_rfl) (by kernel_rfl) (by kernel_rfl) (loc_storeIt (et := 78) (k := 1000001) (f := (V.int .i64)) (g := gF) (L := g') (cur := some j) (b0 := true) (a := s) (c0 := bv) (c := disk_both bv) (by kernel_rfl) kokJ (by kernel_rfl) (by kernel_rfl) (by kernel_rfl) (by kernel_rfl) (by kernel_rfl) hg' hnd) ?_
  refine d_nil (by kernel_rfl) ?_
  refine nrm_blkV ?_
  obtain ⟨a, b, rfl, rfl⟩ := gsplit_at hq
  have hg1 : g'.set a.length (true, s, disk_both bv) = a ++ (true, s, disk_both bv) :: b := by
   show ((a ++ (false, s, bv) :: b).modify a.length _).set a.length _ = _
   rw [modify_mid]
   exact set_mid _ _ b a
  have hnd1 : ((a ++ (true, s, disk_both bv) :: b).map (·.2.1)).Nodup := by
   have e : (a ++ (true, s, disk_both bv) :: b).map (·.2.1) = (a ++ (false, s, bv) :: b).map (·.2.1) := by simp
   rw [e]; exact i1
  rw [hg1]
  refine nrm_head (a ++ (true, s, disk_both bv) :: b) ⟨hnd1, fun p hp h' => ?_, both_set (x := (false, s, bv)) (y := disk_both bv) rfl i3⟩ ?_ (cut_of [0, 88] [1000001, 1000000, 1000002, 1000003] (by kernel_rfl) (by kernel_rfl) (by kernel_rfl))
  ·rcases List.mem_append.1 hp with hp | hp
   ·exact i2 p (List.mem_append_left _ hp) h'
   ·rcases List.mem_cons.1 hp with rfl | hp
    ·rfl
    ·exact i2 p (List.mem_append_right _ (List.mem_cons_of_mem _ hp)) h'
  ·simp [unseenF, List.filter_append]
end Go.Proofs.YtoflckochjijcaaGreatDoor
