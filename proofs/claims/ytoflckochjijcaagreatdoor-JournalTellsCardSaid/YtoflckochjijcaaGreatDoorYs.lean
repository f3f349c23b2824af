/- The code's disk does what the plain disk does. -/
import Derived.Test.YtoflckochjijcaaGreatDoorYr
set_option linter.all false
set_option maxRecDepth 100000
namespace Go.Proofs.YtoflckochjijcaaGreatDoor.E
open Go Go.RowKit Go.Eng Go.EV Go.EQ Go.Lib
variable [Fuel]
variable {F : List (Int × disk_file)} {Q : List disk_sector} {S : List (disk_sector × Bool)} {lost a : Int} {down : Bool} {keep : List Int} {m : SM} {C : Nat}
theorem sec_getD {q : List Nat} {i n : Nat} {r : List Nat} (h : q.drop i = n :: r) : i < q.length ∧ (q.map sec).getD i default = sec n ∧ q.drop (i + 1) = r := by
 have hi : i < q.length := by
  have := congrArg List.length h
  simp at this; omega
 rw [List.drop_eq_getElem_cons hi] at h
 simp only [List.cons.injEq] at h
 refine ⟨hi, ?_, h.2⟩
 rw [List.getD_eq_getElem?_getD, List.getElem?_map, List.getElem?_eq_getElem hi, h.1]
 rfl
theorem c_hit {now last : List UInt8} {i n : Nat} (hk : keep.length ≤ 1099511627776) (hn : n ≤ 1000000) (h : FS now last F) :
  (bif (decide ((List.length keep : Int) = 0)) then some true else (grd ((List.length keep : Int) ≠ 0)).bind fun _ => (idx keep (Int.tmod (i : Int) (List.length keep : Int))).bind fun x1 => (bif (decide ((IntKind.i64.wrap ((BitVec.ofInt IntKind.i64.bits x1 &&& BitVec.ofInt IntKind.i64.bits 1).toNat : Int)) = 0)) then some true else some (decide ((w64 ((sec n).number * 64)) ≥ (List.length ((Option.getD (mfind (sec n).file F) (disk_file.mk [] [])).now) : Int))))) = some (!(hit now keep i n)) := by
 by_cases h0 : keep = []
 ·subst h0
  simp [hit]
 ·have hp : 0 < keep.length := List.length_pos_iff.2 h0
  rw [show decide ((keep.length : Int) = 0) = false by simp [h0], cond_false]
  rw [grd_ofI (by omega), Option.bind_some]
  have hm : Int.tmod (i : Int) (keep.length : Int) = ((i % keep.length : Nat) : Int) := by
   rw [Int.tmod_eq_emod_of_nonneg (by omega)]; rfl
  rw [hm, idx_of (Nat.mod_lt _ hp), Option.bind_some]
  have hw : w64 ((sec n).number * 64) = ((n * 64 : Nat) : Int) := by
   show w64 ((n : Int) * 64) = _
   rw [w64_id (by omega) (by omega)]; omega
  rw [hw]
  change (bif decide (kb (keep.getD (i % keep.length) default) = 0) then some true else some (decide (((n * 64 : Nat) : Int) ≥ (List.length (((mfind 3 F).getD (disk_file.mk ([] : List UInt8) ([] : List UInt8))).now) : Int)))) = _
  rw [h.find]
  have hk0 : decide (keep ≠ []) = true := by simpa using h0
  rcases kb01 (keep.getD (i % keep.length) default) with e | e
  ·rw [hit, e, hk0]; rfl
  ·rw [hit, e, hk0]
   simp only [Bool.true_and, decide_true, show decide ((1 : Int) = 0) = false from rfl, cond_false]
   by_cases hlt : n * 64 < now.length
   ·have : ¬ (((n * 64 : Nat) : Int) ≥ (now.length : Int)) := by omega
    simp only [this, hlt, decide_false, decide_true, Bool.not_true]
   ·have : ((n * 64 : Nat) : Int) ≥ (now.length : Int) := by omega
    simp only [this, hlt, decide_false, decide_true, Bool.not_false]
theorem c_crash_L {now : List UInt8} {q : List Nat} (hk : keep.length ≤ 1099511627776) (hql : q.length ≤ 1000000) (hqn : ∀ n ∈ q, n ≤ 1000000) (hn : now.length ≤ 2097152) : ∀ (r : List Nat) (i fuel : Nat) (l : List UInt8) (F : List (Int × disk_file)), q.drop i = r → r.length < fuel → i ≤ q.length → l.length ≤ 2097152 → FS now l F →
  ∃ F', s_disk_Disk_Crash_x_L1 (q.map sec) keep fuel ((i : Int), F) = some F' ∧ FS now (surv now keep i r l) F' := by
 intro r
 induction r with
 | nil =>
  intro i fuel l F hd hf hi hl h
  obtain ⟨f, rfl⟩ : ∃ f, fuel = f + 1 := ⟨fuel - 1, by omega⟩
  have hle : q.length ≤ i := by simpa using hd
  refine ⟨F, ?_, h⟩
  rw [s_disk_Disk_Crash_x_L1]
  simp only [show decide ((i : Int) < ((q.map sec).length : Int)) = false by simp; omega, cond_false]
 | cons n r ih =>
  intro i fuel l F hd hf hi hl h
  obtain ⟨f, rfl⟩ : ∃ f, fuel = f + 1 := ⟨fuel - 1, by omega⟩
  obtain ⟨h1, h2, h3⟩ := sec_getD hd
  have hnb : n ≤ 1000000 := hqn n (by
   have : n ∈ q.drop i := by rw [hd]; exact List.mem_cons_self ..
   exact List.mem_of_mem_drop this)
  rw [s_disk_Disk_Crash_x_L1]
  simp only [show decide ((i : Int) < ((q.map sec).length : Int)) = true by simp; omega, cond_true, Int.toNat_natCast, Option.bind_some, h2]
  rw [grd_ofI (by simp only [List.length_map]; omega), Option.bind_some, c_hit hk hnb h, Option.bind_some, w64_id (n := (i : Int) + 1) (by omega) (by omega)]
  simp only [surv]
  cases hh : hit now keep i n with
  | false =>
   rw [Bool.not_false, cond_true, Option.bind_some, cond_false]
   exact ih (i + 1) f l F h3 (by simp only [List.length_cons] at hf; omega) (by omega) hl h
  | true =>
   rw [Bool.not_true, cond_false, cond_true]
   simp only [hit, Bool.and_eq_true, decide_eq_true_eq] at hh
   have hlt2 := hh.2.2
   have hw : w64 ((sec n).number * 64) = ((n * 64 : Nat) : Int) := by
    show w64 ((n : Int) * 64) = _
    rw [w64_id (by omega) (by omega)]; omega
   rw [hw]
   change ∃ F', ((cut (((mfind 3 F).getD (disk_file.mk ([] : List UInt8) ([] : List UInt8))).now) ((n * 64 : Nat) : Int) (min (w64 (((n * 64 : Nat) : Int) + 64)) ((((mfind 3 F).getD (disk_file.mk ([] : List UInt8) ([] : List UInt8))).now).length : Int))).bind fun x2 => (s_disk_put (((mfind 3 F).getD (disk_file.mk ([] : List UInt8) ([] : List UInt8))).last) ((n * 64 : Nat) : Int) x2).bind fun y1 => some (mset 3 (disk_file.mk (((mfind 3 F).getD (disk_file.mk ([] : List UInt8) ([] : List UInt8))).now) y1) F)).bind _ = some F' ∧ _
   rw [h.find]
   have hc : cut now ((n * 64 : Nat) : Int) (min (w64 (((n * 64 : Nat) : Int) + 64)) (now.length : Int)) = some ((now.take (min (n * 64 + 64) now.length)).drop (n * 64)) := by
    rw [w64_id (by omega) (by omega)]
    unfold cut
    rw [if_pos ⟨by omega, by omega, by omega⟩]
    congr 2
    congr 1
    omega
   have htl : ((now.take (min (n * 64 + 64) now.length)).drop (n * 64)).length = min (n * 64 + 64) now.length - n * 64 := by
    rw [List.length_drop, List.length_take]; omega
   simp only
   rw [hc, Option.bind_some, put_spec (by intro h; rw [h] at htl; simp at htl; omega) (by omega) (by omega), Option.bind_some, Option.bind_some, h.set]
   exact ih (i + 1) f _ _ h3 (by simp only [List.length_cons] at hf; omega) (by omega) (putL_max hl (by omega)) (.inl rfl)
theorem c_crash {k0 : List Int} (h : CR F Q S m) (hm : OKm C m) (hC : C ≤ 1000000) (hk : keep.length ≤ 1099511627776) :
  ∃ F', e_disk_crash_x F Q S lost false a k0 keep = some ([], F', lost, true, 0, k0) ∧ CR F' [] [] (crashS m keep) := by
 have hql := hm.ql
 obtain ⟨F', h1, h2⟩ := c_crash_L (q := m.q) hk (by omega) hm.qn hm.now m.q 0 KK m.last F rfl (kk_lt (by omega)) (Nat.zero_le _) hm.last h.f
 refine ⟨both2 F', ?_, ⟨h2.both, rfl, List.nodup_nil, fun n => by simp [mfind, crashS]⟩⟩
 unfold e_disk_crash_x s_disk_Disk_Crash_x
 rw [cond_false, h.q, show ((0 : Int), F) = (((0 : Nat) : Int), F) from rfl, h1, Option.bind_some, grd_ofI h2.nd, Option.bind_some]
 rfl
theorem c_crash_n {k0 : List Int} : e_disk_crash_n F Q S lost false a k0 keep = none := rfl
theorem index_cons (n : Nat) (r : List Nat) : s_slices_IndexFunc ((n :: r).map sec) 3 = some (0, 3) := by
 obtain ⟨k, hk⟩ := kk_succ
 unfold s_slices_IndexFunc
 rw [hk, s_slices_IndexFunc_L1]
 have : decide (((0 : Int), (3 : Int)).1 < (((n :: r).map sec).length : Int)) = true := by simp
 simp only [this, cond_true, Option.bind_some, s_disk_Disk_settle_1]
 rw [grd_ofI (by simp), Option.bind_some]
 simp [sec]
theorem index_nil : s_slices_IndexFunc [] 3 = some (-1, 3) := by
 obtain ⟨k, hk⟩ := kk_succ
 unfold s_slices_IndexFunc
 rw [hk, s_slices_IndexFunc_L1]
 rfl
theorem delf_L (q : List Nat) (hq : q.length ≤ 1000000) : ∀ (r : List Nat) (j fuel : Nat), q.drop j = r → j ≤ q.length → r.length < fuel → s_slices_DeleteFunc_L1 fuel ((0 : Int), (j : Int), 3, q.map sec) = some (0, 3, q.map sec) := by
 intro r
 induction r with
 | nil =>
  intro j fuel hd hj hf
  obtain ⟨f, rfl⟩ : ∃ f, fuel = f + 1 := ⟨fuel - 1, by omega⟩
  have hle : q.length ≤ j := by simpa using hd
  rw [s_slices_DeleteFunc_L1]
  simp only [show decide ((j : Int) < ((q.map sec).length : Int)) = false by simp; omega, cond_false]
 | cons n r ih =>
  intro j fuel hd hj hf
  obtain ⟨f, rfl⟩ : ∃ f, fuel = f + 1 := ⟨fuel - 1, by omega⟩
  obtain ⟨h1, h2, h3⟩ := sec_getD hd
  rw [s_slices_DeleteFunc_L1]
  simp only [show decide ((j : Int) < ((q.map sec).length : Int)) = true by simp; omega, cond_true, Int.toNat_natCast, Option.bind_some, s_disk_Disk_settle_1, h2]
  rw [grd_ofI (by simp only [List.length_map]; omega), Option.bind_some, w64_id (n := (j : Int) + 1) (by omega) (by omega)]
  simp only [sec, decide_true, Bool.not_true, cond_false, Option.bind_some]
  exact ih (j + 1) f h3 (by omega) (by simp only [List.length_cons] at hf; omega)
theorem c_delf {q : List Nat} (hq : q.length ≤ 1000000) : s_slices_DeleteFunc (q.map sec) 3 = some ([], 3) := by
 unfold s_slices_DeleteFunc
 cases q with
 | nil =>
  rw [List.map_nil, index_nil]
  rfl
 | cons n r =>
  rw [index_cons, Option.bind_some]
  simp only [show decide ((0 : Int) = -1) = false from rfl, cond_false]
  have := delf_L (n :: r) hq r 1 KK rfl (by simp) (kk_lt (by simp only [List.length_cons] at hq; omega))
  rw [show w64 ((0 : Int) + 1) = ((1 : Nat) : Int) from rfl, this, Option.bind_some]
  rw [grd_ofI (by simp only [List.length_map, List.length_cons]; omega), Option.bind_some, grd_ofI (by simp only [List.length_map, List.length_cons]; omega), Option.bind_some]
  simp
theorem c_settle {s : List UInt8} (h : CR F Q S m) (hm : OKm C m) (hC : C ≤ 1000000) :
  ∃ S', e_disk_settle F Q S lost down a keep 3 s = some (S', [], [(3, ⟨s, s⟩)], lost, down, a, keep) ∧ SS S' [] := by
 have hql := hm.ql
 refine ⟨List.filter (fun p => !decide (p.1.file = 3)) S, ?_, ?_, fun n => ?_⟩
 ·unfold e_disk_settle s_disk_Disk_settle
  rw [h.q, c_delf (by omega), Option.bind_some, grd_ofI h.s.1, Option.bind_some, h.f.set]
 ·have := h.s.1
  exact List.Nodup.sublist (List.Sublist.map _ (List.filter_sublist ..)) this
 ·have : ∀ l : List (disk_sector × Bool), mfind (sec n) (List.filter (fun p => !decide (p.1.file = 3)) l) = none := fun l => by
   induction l with
   | nil => rfl
   | cons p r ih =>
    rw [List.filter_cons]
    split
    ·rename_i hp
     simp only [mfind]
     rw [if_neg, ih]
     intro e
     rw [← e] at hp
     simp [sec] at hp
    ·exact ih
  rw [this]
  simp
theorem c_ends (hm : OKm C m) : s_disk_Disk_ends F Q S lost m.down m.armed keep = some (endB m, (comeS m).armed) := by
 have := hm.armed
 unfold s_disk_Disk_ends
 cases hd : m.down with
 | true => simp [endB, comeS, hd]
 | false =>
  simp only [cond_false, Option.bind_some]
  by_cases h0 : m.armed = 0
  ·simp [endB, comeS, hd, h0]
  ·simp only [h0, decide_false, cond_false]
   rw [w64_id (by omega) (by omega)]
   by_cases h1 : m.armed = 1
   ·simp [endB, comeS, hd, h1]
   ·have : ¬ m.armed - 1 = 0 := by omega
    simp [endB, comeS, hd, h0, h1, this]
theorem c_may : s_disk_Disk_may F Q S lost down a keep 3 = some (bif down then 8 else 0) := by
 cases down <;> rfl
end Go.Proofs.YtoflckochjijcaaGreatDoor.E
