/- maps.DeleteFunc, by hand: a range over a map that deletes. -/
import Derived.Test.YtoflckochjijcaaGreatDoorB
set_option linter.all false
set_option maxRecDepth 100000
namespace Go.Proofs.YtoflckochjijcaaGreatDoor
open Go Go.RowKit Go.Eng Go.EV
theorem hbG56 : hasBody Tryz.prog 72 := body_of (by kernel_rfl)
abbrev fS : disk_sector → V := fun e => V.agg (enc_disk_sector e)
theorem w_settle_set (p : disk_sector) (x_ : Bool) (a2 : Int) : FnA Tryz.prog 72 [.agg (enc_disk_sector p), .bool x_, .ptr 1000000 0 0] [(1000000, .box 3 [.int .i64 a2])] (.bool (decide (p.file = a2))) [(1000000, .box 3 [.int .i64 a2])] := by
 refine fnA_of_wp (N := 10) Tryz.func72 rfl rfl rfl fun cK0 => ?_
 refine v_same (ρ' := [(0, .agg (enc_disk_sector p)), (1, .bool x_), (2, .ptr 1000000 0 0)]) rfl rfl ?_
 refine v_seq ?_
 refine vr_text ?_
 refine o_runh 2 [(5, .bool false), (3, .ptr 3 0 0)] [(3, .box 76 [.int .i64 p.file, .int .i64 p.number]), (1000000, .box 3 [.int .i64 a2])] (by kernel_rfl) ?_
 refine ov_nil ?_
 refine nrm_thenV ?_
 refine v_seq ?_
 refine vr_text ?_
 refine o_runs 5 [(5, .bool (decide (p.file = a2))), (9, .bool (decide (p.file = a2))), (8, .int .i64 a2), (7, .int .i64 p.file), (6, .ptr 3 0 0)] (by kernel_rfl) ?_
 refine ov_nil ?_
 refine nrm_thenV ?_
 refine v_ret ?_
 exact fin_ret (by kernel_rfl) (by kernel_rfl) (by kernel_rfl)
def unseen (g : List (Bool × disk_sector × Bool)) : Nat := (g.filter fun p => !p.1).length
theorem modify_mid {α : Type} (f : α → α) (x : α) (b : List α) : ∀ a : List α, (a ++ x :: b).modify a.length f = a ++ f x :: b
 | [] => rfl
 | y :: a => by simp [modify_mid f x b a]
theorem erase_mid {α : Type} (x : α) (b : List α) : ∀ a : List α, (a ++ x :: b).eraseIdx a.length = a ++ b
 | [] => rfl
 | y :: a => by simp [erase_mid x b a]
theorem gsplit_at {α : Type} {l : List α} {j : Nat} {x : α} (h : l[j]? = some x) : ∃ a b, l = a ++ x :: b ∧ a.length = j := by
 obtain ⟨hj, rfl⟩ := List.getElem?_eq_some_iff.1 h
 exact ⟨l.take j, l.drop (j + 1), by rw [List.getElem_cons_drop, List.take_append_drop], by rw [List.length_take]; omega⟩
theorem w_maps_DeleteFunc (l : List (disk_sector × Bool)) (fv : Int) (hn : (l.map (·.1)).Nodup) :
  FnA Tryz.prog 71 [.mp 1000000, .fn 72 [] [.ptr 1000001 0 0]] [(1000000, .map (encM fS V.bool l)), (1000001, .box 3 [.int .i64 fv])] (.tup []) [(1000000, .map (encM fS V.bool (l.filter fun p => !decide (p.1.file = fv)))), (1000001, .box 3 [.int .i64 fv])] := by
 refine fnA_of_wp (N := 19) Tryz.func71 rfl rfl rfl fun cK0 => ?_
 refine v_same (ρ' := [(0, .mp 1000000), (1, .fn 72 [] [.ptr 1000001 0 0])]) rfl rfl ?_
 refine v_seq ?_
 refine vr_text ?_
 refine o_runs 1 [(6, .mp 1000000)] (by kernel_rfl) ?_
 refine ov_alt (F := [(1000000, .map (encM fS V.bool l))]) 7 [1000000] rfl (by kernel_rfl) (by kernel_rfl) (by kernel_rfl) rfl (locA_range (kt := 76) (et := 4) (k := 1000000) (by kernel_rfl) (by kernel_rfl)) (fun i => rfl) (fun q _ => ?_)
 refine ov_nil ?_
 refine nrm_thenV ?_
 refine v_block ?_
 refine v_rounds (fun _ : List (Bool × disk_sector × Bool) => [(0, .mp 1000000), (1, .fn 72 [] [.ptr 1000001 0 0]), (7, .gv 1000000 (itV q))]) (fun g => [(1000000, .gen (mapIt q (encIt fS V.bool g) none)), (1000001, .box 3 [.int .i64 fv])])
  (fun g => (g.map (·.2.1)).Nodup ∧ (∀ p ∈ g, p.1 = true → p.2.1.file ≠ fv) ∧ (g.map (·.2)).filter (fun p => !decide (p.1.file = fv)) = l.filter fun p => !decide (p.1.file = fv)) unseen (l.map fun p => (false, p)) ⟨by rw [List.map_map]; exact hn, fun p hp h => ?_, by rw [List.map_map]; congr 1; exact List.map_id l⟩ ?_ fun g hg => ?_
 ·obtain ⟨q, _, rfl⟩ := List.mem_map.1 hp
  cases h
 ·rw [show encIt fS V.bool (l.map fun p => (false, p)) = unm (encM fS V.bool l) by simp [encIt, unm, encM, Function.comp_def]]
  exact cut_of [0, 1, 7] [1000000, 1000001] (by kernel_rfl) (by kernel_rfl) (by kernel_rfl)
 obtain ⟨i1, i2, i3⟩ := hg
 refine v_seq ?_
 refine vr_text ?_
 refine ov_alt (F := [(1000000, .gen (mapIt q (encIt fS V.bool g) none))]) 8 [1000000] rfl (by kernel_rfl) (by kernel_rfl) (by kernel_rfl) rfl (locA_next (k := 1000000) (by kernel_rfl)) (fun i => by cases i <;> rfl) (fun i hi => ?_)
 cases i with
 | none =>
  refine o_runs 1 [(9, .bool false)] (by kernel_rfl) ?_
  refine ov_nil ?_
  refine nrm_thenV ?_
  refine v_seq ?_
  refine v_cond_f (by kernel_rfl) ?_
  have hall : ∀ p ∈ g, p.1 = true := fun p hp => by
   have := hi (p.1, fS p.2.1, .bool p.2.2) (List.mem_map.2 ⟨p, hp, rfl⟩)
   exact this
  have hl : g.map (·.2) = l.filter fun p => !decide (p.1.file = fv) := by
   rw [← i3]
   symm
   rw [List.filter_eq_self]
   intro q hq
   obtain ⟨p, hp, rfl⟩ := List.mem_map.1 hq
   have := i2 p hp (hall p hp)
   simp [this]
  have hH : unmk (encIt fS V.bool g) = encM fS V.bool (l.filter fun p => !decide (p.1.file = fv)) := by rw [unmk_encIt, hl]
  refine v_to _ [(1000000, .map (encM fS V.bool (l.filter fun p => !decide (p.1.file = fv)))), (1000001, .box 3 [.int .i64 fv])] (cut_itEnd q 1000000 (l := encIt fS V.bool g) (cur := none) (by kernel_rfl) (by rw [hH]; kernel_rfl)) ?_
  refine v_exit ?_
  refine exit_thenV ?_
  refine exit_head ?_
  refine exit_blkV ?_
  refine fin_nrm ?_
  exact fin_ret (by kernel_rfl) (by kernel_rfl) (by kernel_rfl)
 | some j =>
  obtain ⟨p0, hp0, hf0⟩ := hi
  obtain ⟨q, hq, rfl⟩ : ∃ q, g[j]? = some q ∧ (q.1, fS q.2.1, V.bool q.2.2) = p0 := by
   simp only [encIt, List.getElem?_map] at hp0
   obtain ⟨q, hq, e⟩ := Option.map_eq_some_iff.1 hp0
   exact ⟨q, hq, e⟩
  obtain ⟨b0, s, bv⟩ := q
  have hf0 : b0 = false := hf0
  subst hf0
  let g' := g.modify j fun p => (true, p.2)
  have hg' : g'[j]? = some (true, s, bv) := by simp [g', hq]
  have hv8 : nextV (encIt fS V.bool g) (some j) = .tup [.bool true, fS s, .bool bv] := by
   simp [nextV, encIt, hq]
  have hH8 : nextF q 1000000 (encIt fS V.bool g) none (some j) ++ remH [1000000] [(1000000, .gen (mapIt q (encIt fS V.bool g) none)), (1000001, .box 3 [.int .i64 fv])] = [(1000000, .gen (mapIt q (encIt fS V.bool g') (some j))), (1000001, .box 3 [.int .i64 fv])] := by
   rw [← mark_encIt]; rfl
  rw [hv8, hH8]
  refine o_runs 1 [(9, .bool true)] (by kernel_rfl) ?_
  refine ov_nil ?_
  refine nrm_thenV ?_
  refine v_seq ?_
  refine v_cond_t (by kernel_rfl) ?_
  refine v_skip ?_
  refine nrm_thenV ?_
  refine v_block ?_
  refine v_seq ?_
  refine vr_text ?_
  refine o_loc (F := [(1000000, .gen (mapIt q (encIt fS V.bool g') (some j)))]) (F' := [(1000000, .gen (mapIt q (encIt fS V.bool g') (some j)))]) (v := .tup [fS s, .bool bv]) [1000000] (by kernel_rfl) (by kernel_rfl) rfl (by kernel_rfl) (loc_entry (k := 1000000) (i := j) (p := (true, fS s, .bool bv)) (by kernel_rfl) (by simp [encIt, hg'])) (by kernel_rfl) ?_
  refine o_runh 5 [(5, .bool bv), (4, .ptr 4 0 0), (12, .bool bv), (11, fS s)] [(4, .box 76 (enc_disk_sector s)), (1000000, .gen (mapIt q (encIt fS V.bool g') (some j))), (1000001, .box 3 [.int .i64 fv])] (by kernel_rfl) ?_
  refine ov_nil ?_
  refine nrm_thenV ?_
  refine v_seq ?_
  refine vr_text ?_
  refine o_runs 3 [(15, .bool bv), (14, fS s), (13, .fn 72 [] [.ptr 1000001 0 0])] (by kernel_rfl) ?_
  refine o_loc (F := [(1000001, .box 3 [.int .i64 fv])]) (F' := [(1000001, .box 3 [.int .i64 fv])]) (v := .bool (decide (s.file = fv))) [1000001] (by kernel_rfl) (by kernel_rfl) rfl (by kernel_rfl) (loc_g (R := []) [.agg (enc_disk_sector s), .bool bv, .ptr 1000001 0 0] [(1000000, 1000001)] (callV_val (first := []) (caps := [.ptr 1000001 0 0]) hbG56 (by kernel_rfl) (by kernel_rfl)) (w_settle_set s bv fv) (.cons (.same _) (.cons (.same _) (.cons (.same _) .nil))) (by kernel_rfl) (by kernel_rfl) (by kernel_rfl) (by kernel_rfl) (by kernel_rfl) (by kernel_rfl) (by kernel_rfl) (by kernel_rfl)) (by kernel_rfl) ?_
  refine ov_nil ?_
  refine nrm_thenV ?_
  have hnd : (g'.map (·.2.1)).Nodup := by
   have : g'.map (·.2.1) = g.map (·.2.1) := by
    apply List.ext_getElem?
    intro i
    simp only [g', List.getElem?_map, List.getElem?_modify]
    cases g[i]? with
    | none => rfl
    | some p => simp only [Option.map_some]; split <;> rfl
   rw [this]; exact i1
  refine v_cond (decide (s.file = fv)) (by kernel_rfl) (fun h => ?_) (fun h => ?_)
  ·refine vr_text ?_
   refine o_runs 2 [(18, fS s), (17, .mp 1000000)] (by kernel_rfl) ?_
   refine o_loc (F := [(1000000, .gen (mapIt q (encIt fS V.bool g') (some j)))]) (F' := [(1000000, .gen (mapIt q (encIt fS V.bool (g'.eraseIdx j)) none))]) (v := .tup []) [1000000] (by kernel_rfl) (by kernel_rfl) rfl (by kernel_rfl) (loc_deleteIt (kt := 76) (et := 4) (k := 1000000) (i := j) (f := fS) (g := V.bool) (L := g') (cur := some j) (b0 := true) (a := s) (c0 := bv) (by kernel_rfl) (keyOK_disk_sector (by kernel_rfl)) (by kernel_rfl) (by kernel_rfl) hg' hnd) (by kernel_rfl) ?_
   refine ov_nil ?_
   refine nrm_blkV ?_
   obtain ⟨a, b, rfl, rfl⟩ := gsplit_at hq
   have hg1 : g'.eraseIdx a.length = a ++ b := by
    show ((a ++ (false, s, bv) :: b).modify a.length _).eraseIdx a.length = _
    rw [modify_mid, erase_mid]
   have hsub : (a ++ b).Sublist (a ++ (false, s, bv) :: b) := List.Sublist.append_left (List.sublist_cons_self ..) a
   rw [hg1]
   refine nrm_head (a ++ b) ⟨i1.sublist (hsub.map _), fun p hp h => i2 p (hsub.subset hp) h, ?_⟩ ?_ (cut_of [0, 1, 7] [1000000, 1000001] (by kernel_rfl) (by kernel_rfl) (by kernel_rfl))
   ·rw [← i3]; simp [h]
   ·simp [unseen, List.filter_append]
  ·refine v_skip ?_
   refine nrm_blkV ?_
   obtain ⟨a, b, rfl, rfl⟩ := gsplit_at hq
   have hg1 : g' = a ++ (true, s, bv) :: b := by
    show (a ++ (false, s, bv) :: b).modify a.length _ = _
    rw [modify_mid]
   rw [hg1] at hnd ⊢
   refine nrm_head (a ++ (true, s, bv) :: b) ⟨hnd, fun p hp h' => ?_, ?_⟩ ?_ (Cut.trans (cut_itCur q 1000000 (l := encIt fS V.bool (a ++ (true, s, bv) :: b)) (cur := some a.length) (by kernel_rfl) rfl) (cut_of [0, 1, 7] [1000000, 1000001] (by kernel_rfl) (by kernel_rfl) (by kernel_rfl)))
   ·rcases List.mem_append.1 hp with hp | hp
    ·exact i2 p (List.mem_append_left _ hp) h'
    ·rcases List.mem_cons.1 hp with rfl | hp
     ·exact of_decide_eq_false h
     ·exact i2 p (List.mem_append_right _ (List.mem_cons_of_mem _ hp)) h'
   ·rw [← i3]; simp
   ·simp [unseen, List.filter_append]
end Go.Proofs.YtoflckochjijcaaGreatDoor
