/- A disk with one file, in plain Lean. -/
import Derived.Test.YtoflckochjijcaaGreatDoorYq
set_option linter.all false
set_option maxRecDepth 100000
namespace Go.Proofs.YtoflckochjijcaaGreatDoor.E
open Go Go.RowKit Go.Eng Go.EV Go.EQ Go.Lib
variable [Fuel]
theorem small_spec [inst : Fuel] : s_greenbeltlaw03_small = some true := by
 obtain ⟨n, hn⟩ := inst
 obtain ⟨m, rfl⟩ : ∃ m, n = m + 200 := ⟨n - 200, by omega⟩
 kernel_rfl
def putL (s : List UInt8) (a : Nat) (t : List UInt8) : List UInt8 := (s ++ List.replicate (a + t.length - s.length) 0).take a ++ t ++ s.drop (a + t.length)
theorem bytesOf_toNat (s : List UInt8) : bytesOf (s.map fun b => (b.toNat : Int)) = s := by
 unfold bytesOf
 rw [List.map_map]
 refine (List.map_congr_left fun b _ => ?_).trans (List.map_id s)
 simp
theorem bytesOf_append (a b : List Int) : bytesOf (a ++ b) = bytesOf a ++ bytesOf b := by simp [bytesOf]
theorem put_spec {s t : List UInt8} {a : Nat} (ht : t ≠ []) (hs : s.length ≤ 1099511627776) (ha : a + t.length ≤ 1099511627776) : s_disk_put s (a : Int) t = some (putL s a t) := by
 unfold s_disk_put
 have htp : 0 < t.length := List.length_pos_iff.2 ht
 have e1 : w64 ((a : Int) + (t.length : Int)) = ((a + t.length : Nat) : Int) := by rw [w64_id (by omega) (by omega)]; rfl
 have e2 : max (s.length : Int) ((a + t.length : Nat) : Int) = ((max s.length (a + t.length) : Nat) : Int) := by omega
 rw [show decide (t = []) = false by simp [ht], cond_false, e1, e2]
 simp only [Int.toNat_natCast, List.length_replicate]
 rw [grd_ofI (by omega), Option.bind_some, grd_ofI (by omega), Option.bind_some]
 congr 1
 rw [show min s.length (max s.length (a + t.length)) = s.length by omega, show min t.length (max s.length (a + t.length) - a) = t.length by omega]
 rw [List.take_length, List.take_length, cpyT_eq (o := a) (by rw [cpyT_length, List.length_map, List.length_replicate]; omega), cpyT_eq (by simp; omega)]
 simp only [cpy, List.take_zero, List.nil_append, List.length_map, Nat.zero_add, List.drop_replicate]
 rw [bytesOf_append, bytesOf_append, bytesOf_toNat, putL]
 have e3 : bytesOf (s.map (fun b => (b.toNat : Int)) ++ List.replicate (max s.length (a + t.length) - s.length) 0) = s ++ List.replicate (a + t.length - s.length) 0 := by
  rw [bytesOf_append, bytesOf_toNat]
  congr 1
  rw [show max s.length (a + t.length) - s.length = a + t.length - s.length by omega]
  simp [bytesOf]
 have e4 : ∀ l k, bytesOf (List.take k l) = (bytesOf l).take k := fun l k => by simp [bytesOf, List.map_take]
 have e5 : ∀ l k, bytesOf (List.drop k l) = (bytesOf l).drop k := fun l k => by simp [bytesOf, List.map_drop]
 rw [e4, e5, e3]
 congr 1
 rw [List.drop_append]
 rw [show (List.replicate (a + t.length - s.length) (0 : UInt8)).drop (a + t.length - s.length) = [] by simp]
 simp
theorem putL_length (s : List UInt8) (a : Nat) (t : List UInt8) : (putL s a t).length = max s.length (a + t.length) := by
 simp only [putL, List.length_append, List.length_take, List.length_replicate, List.length_drop]
 omega
structure SM where
 now : List UInt8
 last : List UInt8
 q : List Nat
 lost : Int
 armed : Int
 down : Bool
 keep : List Int
def addQ : Nat → Nat → List Nat → List Nat
 | _, 0, q => q
 | i, k + 1, q => addQ (i + 1) k (if i ∈ q then q else q ++ [i])
def addS (m : SM) (a : Nat) (s : List UInt8) : SM := { m with now := putL m.now a s, q := addQ (a / 64) ((a + s.length - 1) / 64 + 1 - a / 64) m.q }
def kb (x : Int) : Int := IntKind.i64.wrap ((BitVec.ofInt IntKind.i64.bits x &&& BitVec.ofInt IntKind.i64.bits 1).toNat : Int)
theorem kb01 (x : Int) : kb x = 0 ∨ kb x = 1 := by
 unfold kb
 have h : (BitVec.ofInt IntKind.i64.bits x &&& BitVec.ofInt IntKind.i64.bits 1).toNat < 2 := by
  rw [BitVec.toNat_and]
  have : (BitVec.ofInt IntKind.i64.bits 1).toNat = 1 := by decide
  rw [this, Nat.and_one_is_mod]
  omega
 generalize (BitVec.ofInt IntKind.i64.bits x &&& BitVec.ofInt IntKind.i64.bits 1).toNat = n at h
 rcases (show n = 0 ∨ n = 1 by omega) with rfl | rfl
 ·left; decide
 ·right; decide
def hit (now : List UInt8) (keep : List Int) (i n : Nat) : Bool := decide (keep ≠ []) && (decide (kb (keep.getD (i % keep.length) default) = 1) && decide (n * 64 < now.length))
def surv (now : List UInt8) (keep : List Int) : Nat → List Nat → List UInt8 → List UInt8
 | _, [], l => l
 | i, n :: r, l => surv now keep (i + 1) r (bif hit now keep i n then putL l (n * 64) ((now.take (min (n * 64 + 64) now.length)).drop (n * 64)) else l)
def crashS (m : SM) (keep : List Int) : SM := { m with now := surv m.now keep 0 m.q m.last, last := surv m.now keep 0 m.q m.last, q := [], down := true, armed := 0 }
def endB (m : SM) : Bool := !m.down && decide (m.armed = 1)
def comeS (m : SM) : SM := { m with armed := if m.down = true ∨ m.armed = 0 then m.armed else m.armed - 1 }
structure OKm (C : Nat) (m : SM) : Prop where
 now : m.now.length ≤ 2097152
 last : m.last.length ≤ 2097152
 ql : m.q.length ≤ C
 qn : ∀ n ∈ m.q, n ≤ 1000000
 lost : 0 ≤ m.lost ∧ m.lost ≤ 9223372036854775807
 armed : 0 ≤ m.armed ∧ m.armed ≤ 9223372036854775807
 keep : m.keep.length ≤ 1099511627776
theorem putL_max {l : List UInt8} {a : Nat} {t : List UInt8} {B : Nat} (h : l.length ≤ B) (h2 : a + t.length ≤ B) : (putL l a t).length ≤ B := by
 rw [putL_length]; omega
theorem surv_len {now : List UInt8} {keep : List Int} {B : Nat} (hn : now.length ≤ B) : ∀ (q : List Nat) (i : Nat) (l : List UInt8), l.length ≤ B → (surv now keep i q l).length ≤ B
 | [], _, _, h => h
 | n :: r, i, l, h => by
  refine surv_len hn r (i + 1) _ ?_
  cases hh : hit now keep i n with
  | false => exact h
  | true =>
   simp only [hit, Bool.and_eq_true, decide_eq_true_eq] at hh
   have := hh.2.2
   refine putL_max h ?_
   simp only [List.length_drop, List.length_take]
   omega
theorem OKm.crash {C : Nat} {m : SM} {k : List Int} (h : OKm C m) : OKm C (crashS m k) := by
 refine ⟨surv_len h.now _ _ _ h.last, surv_len h.now _ _ _ h.last, Nat.zero_le _, (fun _ h => by cases h), h.lost, (show 0 ≤ (0 : Int) ∧ (0 : Int) ≤ 9223372036854775807 by decide), h.keep⟩
theorem OKm.come {C : Nat} {m : SM} (h : OKm C m) : OKm C (comeS m) := by
 refine ⟨h.now, h.last, h.ql, h.qn, h.lost, ?_, h.keep⟩
 have := h.armed
 simp only [comeS]
 split
 ·exact this
 ·rename_i h2
  have : m.armed ≠ 0 := fun e => h2 (.inr e)
  omega
theorem addQ_spec : ∀ (k i : Nat) (q : List Nat), (addQ i k q).length ≤ q.length + k ∧ ∀ n ∈ addQ i k q, n ∈ q ∨ (i ≤ n ∧ n < i + k)
 | 0, i, q => ⟨Nat.le_refl _, fun n h => .inl h⟩
 | k + 1, i, q => by
  simp only [addQ]
  by_cases hi : i ∈ q
  ·rw [if_pos hi]
   obtain ⟨h1, h2⟩ := addQ_spec k (i + 1) q
   exact ⟨by omega, fun n hn => (h2 n hn).imp id fun h => by omega⟩
  ·rw [if_neg hi]
   obtain ⟨h1, h2⟩ := addQ_spec k (i + 1) (q ++ [i])
   rw [List.length_append, List.length_singleton] at h1
   refine ⟨by omega, fun n hn => ?_⟩
   rcases h2 n hn with h | h
   ·rcases List.mem_append.1 h with h | h
    ·exact .inl h
    ·rw [List.mem_singleton.1 h]; right; omega
   ·right; omega
theorem OKm.add {C : Nat} {m : SM} {a : Nat} {s : List UInt8} (h : OKm C m) (ha : a + s.length ≤ 2097152) (hs : s ≠ []) : OKm (C + s.length + 2) (addS m a s) := by
 have hp : 0 < s.length := List.length_pos_iff.2 hs
 obtain ⟨h1, h2⟩ := addQ_spec ((a + s.length - 1) / 64 + 1 - a / 64) (a / 64) m.q
 refine ⟨putL_max h.now ha, h.last, ?_, fun n hn => ?_, h.lost, h.armed, h.keep⟩
 ·have := h.ql
  show (addQ _ _ _).length ≤ _
  omega
 ·rcases h2 n hn with h3 | h3
  ·exact h.qn n h3
  ·omega
theorem OKm.mono {C D : Nat} {m : SM} (h : OKm C m) (hd : C ≤ D) : OKm D m := ⟨h.now, h.last, Nat.le_trans h.ql hd, h.qn, h.lost, h.armed, h.keep⟩
/- the code's disk -/
def sec (n : Nat) : disk_sector := ⟨3, n⟩
def FS (now last : List UInt8) (F : List (Int × disk_file)) : Prop := F = [(3, ⟨now, last⟩)] ∨ (F = [] ∧ now = [] ∧ last = [])
theorem FS.find {now last : List UInt8} {F : List (Int × disk_file)} (h : FS now last F) : (mfind 3 F).getD (disk_file.mk ([] : List UInt8) ([] : List UInt8)) = ⟨now, last⟩ := by
 rcases h with rfl | ⟨rfl, rfl, rfl⟩ <;> simp [mfind]
theorem FS.set {now last : List UInt8} {F : List (Int × disk_file)} (h : FS now last F) (v : disk_file) : mset 3 v F = [(3, v)] := by
 rcases h with rfl | ⟨rfl, rfl, rfl⟩ <;> simp [mset]
theorem FS.nd {now last : List UInt8} {F : List (Int × disk_file)} (h : FS now last F) : (F.map (·.1)).Nodup := by
 rcases h with rfl | ⟨rfl, rfl, rfl⟩ <;> simp
theorem FS.both {now last : List UInt8} {F : List (Int × disk_file)} (h : FS now last F) : FS last last (both2 F) := by
 rcases h with rfl | ⟨rfl, rfl, rfl⟩
 ·exact .inl rfl
 ·exact .inr ⟨rfl, rfl, rfl⟩
def SS (S : List (disk_sector × Bool)) (q : List Nat) : Prop := (S.map (·.1)).Nodup ∧ ∀ n : Nat, (mfind (sec n) S).getD false = decide (n ∈ q)
structure CR (F : List (Int × disk_file)) (Q : List disk_sector) (S : List (disk_sector × Bool)) (m : SM) : Prop where
 f : FS m.now m.last F
 q : Q = m.q.map sec
 s : SS S m.q
theorem sec_inj {n k : Nat} (h : sec n = sec k) : n = k := by
 have := congrArg disk_sector.number h
 simp only [sec] at this
 omega
theorem mfind_mset {α β : Type} [DecidableEq α] (a : α) (b : β) (c : α) : ∀ l : List (α × β), mfind c (mset a b l) = if c = a then some b else mfind c l
 | [] => by simp [mset, mfind]
 | (k, v) :: r => by
  simp only [mset]
  by_cases h : a = k
  ·subst h
   rw [if_pos rfl]
   simp only [mfind]
   split <;> rfl
  ·rw [if_neg h]
   simp only [mfind]
   by_cases h2 : c = k
   ·rw [if_pos h2, if_pos h2, if_neg (fun e => h (e.symm.trans h2))]
   ·rw [if_neg h2, if_neg h2]; exact mfind_mset a b c r
theorem mem_mset {α β : Type} [DecidableEq α] (a : α) (b : β) : ∀ (l : List (α × β)) (x : α), x ∈ (mset a b l).map (·.1) → x = a ∨ x ∈ l.map (·.1)
 | [], x, h => by simp [mset] at h; exact .inl h
 | (k, c) :: r, x, h => by
  simp only [mset] at h
  split at h
  ·simp only [List.map_cons, List.mem_cons] at h ⊢
   rcases h with h | h
   ·exact .inl h
   ·exact .inr (.inr h)
  ·simp only [List.map_cons, List.mem_cons] at h ⊢
   rcases h with h | h
   ·exact .inr (.inl h)
   ·rcases mem_mset a b r x h with h | h
    ·exact .inl h
    ·exact .inr (.inr h)
theorem nodup_mset {α β : Type} [DecidableEq α] (a : α) (b : β) : ∀ (l : List (α × β)), (l.map (·.1)).Nodup → ((mset a b l).map (·.1)).Nodup
 | [], _ => by simp [mset]
 | (k, c) :: r, h => by
  simp only [List.map_cons, List.nodup_cons] at h
  simp only [mset]
  split
  ·rename_i e; subst e; simpa using h
  ·rename_i e
   simp only [List.map_cons, List.nodup_cons]
   refine ⟨fun hm => ?_, nodup_mset a b r h.2⟩
   rcases mem_mset a b r k hm with hm | hm
   ·exact e hm.symm
   ·exact h.1 hm
theorem SS.add {S : List (disk_sector × Bool)} {q : List Nat} (h : SS S q) (i : Nat) : SS (mset (sec i) true S) (q ++ [i]) := by
 refine ⟨nodup_mset _ _ _ h.1, fun n => ?_⟩
 rw [mfind_mset]
 by_cases e : n = i
 ·subst e; simp
 ·rw [if_neg fun h => e (sec_inj h), h.2 n]
  simp [e]
variable {F : List (Int × disk_file)} {Q : List disk_sector} {S : List (disk_sector × Bool)} {lost a : Int} {down : Bool} {keep : List Int} {m : SM} {C : Nat}
theorem c_write_L {at_ : Int} {s : List UInt8} {e : Nat} (he : w64 (Int.tdiv (w64 ((w64 (at_ + (List.length s : Int))) - 1)) 64) = (e : Int)) (hE : e ≤ 1000000) : ∀ (k i fuel : Nat) (q : List Nat) (st : List (disk_sector × Bool)), k = e + 1 - i → i ≤ e + 1 → k < fuel → SS st q → q.length + k ≤ 1000000000 →
  ∃ st', s_disk_Disk_write_L1 3 at_ s fuel ((i : Int), q.map sec, st) = some ((addQ i k q).map sec, st') ∧ SS st' (addQ i k q) := by
 intro k
 induction k with
 | zero =>
  intro i fuel q st hk hi hf hst hn
  obtain ⟨fu, rfl⟩ : ∃ fu, fuel = fu + 1 := ⟨fuel - 1, by omega⟩
  refine ⟨st, ?_, hst⟩
  rw [s_disk_Disk_write_L1, he]
  simp only [show decide ((i : Int) ≤ (e : Int)) = false by simp; omega, cond_false, addQ]
 | succ k ih =>
  intro i fuel q st hk hi hf hst hn
  obtain ⟨fu, rfl⟩ : ∃ fu, fuel = fu + 1 := ⟨fuel - 1, by omega⟩
  rw [s_disk_Disk_write_L1, he]
  simp only [show decide ((i : Int) ≤ (e : Int)) = true by simp; omega, cond_true]
  rw [w64_id (n := (i : Int) + 1) (by omega) (by omega)]
  have hfd := hst.2 i
  change (mfind (disk_sector.mk 3 (i : Int)) st).getD false = _ at hfd
  rw [hfd]
  simp only [addQ]
  by_cases hin : i ∈ q
  ·simp only [hin, decide_true, Bool.not_true, cond_false, Option.bind_some, if_true]
   exact ih (i + 1) fu q st (by omega) (by omega) (by omega) hst (by omega)
  ·simp only [hin, decide_false, Bool.not_false, cond_true, if_false]
   have hl : (q.map sec ++ [disk_sector.mk 3 (i : Int)]).length = q.length + 1 := by simp
   rw [grd_ofI (by omega), Option.bind_some, Option.bind_some]
   have := ih (i + 1) fu (q ++ [i]) (mset (sec i) true st) (by omega) (by omega) (by omega) (hst.add i) (by simp only [List.length_append, List.length_singleton]; omega)
   rw [List.map_append, List.map_singleton] at this
   exact this
theorem c_write {at_ : Nat} {s : List UInt8} (h : CR F Q S m) (hm : OKm C m) (hC : C ≤ 1000000) (hs0 : s ≠ []) (hl : at_ + s.length ≤ 2097152) :
  ∃ F' Q' S', s_disk_Disk_write F Q S lost false a keep 3 (at_ : Int) s = some (0, lost, false, a, keep, F', Q', S') ∧ CR F' Q' S' (addS m at_ s) := by
 have hsp : 0 < s.length := List.length_pos_iff.2 hs0
 have e1 : w64 ((at_ : Int) + (s.length : Int)) = ((at_ + s.length : Nat) : Int) := by rw [w64_id (by omega) (by omega)]; rfl
 have e2 : w64 (((at_ + s.length : Nat) : Int) - 1) = ((at_ + s.length - 1 : Nat) : Int) := by rw [w64_id (by omega) (by omega)]; omega
 have e3 : w64 (Int.tdiv ((at_ + s.length - 1 : Nat) : Int) 64) = (((at_ + s.length - 1) / 64 : Nat) : Int) := by
  rw [Int.tdiv_eq_ediv_of_nonneg (by omega), w64_id (by omega) (by omega)]; omega
 have e4 : w64 (Int.tdiv (at_ : Int) 64) = ((at_ / 64 : Nat) : Int) := by
  rw [Int.tdiv_eq_ediv_of_nonneg (by omega), w64_id (by omega) (by omega)]; omega
 have hql := hm.ql
 obtain ⟨st', h1, h3⟩ := c_write_L (at_ := (at_ : Int)) (s := s) (e := (at_ + s.length - 1) / 64) (by rw [e1, e2, e3]) (by omega) _ (at_ / 64) KK m.q S rfl (by omega) (kk_lt (by omega)) h.s (by omega)
 refine ⟨[(3, ⟨putL m.now at_ s, m.last⟩)], _, st', ?_, ⟨.inl rfl, rfl, h3⟩⟩
 unfold s_disk_Disk_write
 rw [show Go.Proofs.YtoflckochjijcaaGreatDoor.s_disk_Disk_may F Q S lost false a keep 3 = some (0, lost, false, a, keep) from rfl, Option.bind_some]
 simp only [decide_true, Bool.not_true, cond_false, show decide ((at_ : Int) < 0) = false by simp, show decide ((at_ : Int) > 16777216) = false by simp; omega]
 rw [w64_id (n := 16777216 - (at_ : Int)) (by omega) (by omega)]
 have h16 : ¬ ((s.length : Int) > 16777216 - (at_ : Int)) := by omega
 simp only [h16, decide_false, Option.bind_some, cond_false, hs0]
 change ((s_disk_put (((mfind 3 F).getD (disk_file.mk ([] : List UInt8) ([] : List UInt8))).now) (at_ : Int) s).bind fun y2 => ((s_disk_Disk_write_L1 3 (at_ : Int) s) KK ((w64 (Int.tdiv (at_ : Int) 64)), Q, S)).bind fun v2 => some (0, lost, false, a, keep, (mset 3 (disk_file.mk y2 (((mfind 3 F).getD (disk_file.mk ([] : List UInt8) ([] : List UInt8))).last)) F), v2.1, v2.2)) = _
 have hnw := hm.now
 rw [h.f.find, put_spec hs0 (by simp only; omega) (by omega), Option.bind_some, e4, h.q, h1, Option.bind_some, h.f.set]
 rfl
end Go.Proofs.YtoflckochjijcaaGreatDoor.E
