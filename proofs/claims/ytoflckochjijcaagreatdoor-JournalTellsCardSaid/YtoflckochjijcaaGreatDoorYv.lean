/- The reference's disk does what the plain disk does. -/
import Derived.Test.YtoflckochjijcaaGreatDoorYu
set_option linter.all false
set_option maxRecDepth 100000
namespace Go.Proofs.YtoflckochjijcaaGreatDoor.E
open Go Go.RowKit Go.Eng Go.EV Go.EQ Go.Lib
variable [Fuel]
def rsec (n : Nat) : greenbeltref02_Sector := ⟨3, n⟩
def RF (now last : List UInt8) (F : List greenbeltref02_File) : Prop := F = [⟨3, now, last⟩] ∨ (F = [] ∧ now = [] ∧ last = [])
structure RR (F : List greenbeltref02_File) (Q : List greenbeltref02_Sector) (m : SM) : Prop where
 f : RF m.now m.last F
 q : Q = m.q.map rsec
variable {F : List greenbeltref02_File} {Q : List greenbeltref02_Sector} {lost a : Int} {down : Bool} {keep : List Int} {m : SM} {C : Nat} {now last : List UInt8}
theorem r_get (h : RF now last F) : s_greenbeltref02_Disk_get F Q lost down a keep 3 = some (3, now, last) := by
 obtain ⟨k, hk⟩ := kk_succ
 unfold s_greenbeltref02_Disk_get
 rw [hk, s_greenbeltref02_Disk_get_L1]
 rcases h with rfl | ⟨rfl, rfl, rfl⟩
 ·simp only [List.length_singleton, show decide ((0 : Int) < ((1 : Nat) : Int)) = true from rfl, cond_true]
  rw [show idx [(⟨3, now, last⟩ : greenbeltref02_File)] 0 = some ⟨3, now, last⟩ from rfl, Option.bind_some, Option.bind_some]
  rfl
 ·rfl
theorem r_set {v w : List UInt8} (h : RF now last F) : s_greenbeltref02_Disk_set F Q lost down a keep ⟨3, v, w⟩ = some [⟨3, v, w⟩] := by
 obtain ⟨k, hk⟩ : ∃ k, KK = k + 2 := ⟨KK - 2, by have := kk_lt (n := 1) (by omega); omega⟩
 unfold s_greenbeltref02_Disk_set
 rw [hk, s_greenbeltref02_Disk_set_L1]
 rcases h with rfl | ⟨rfl, rfl, rfl⟩
 ·simp only [List.length_singleton, show decide ((0 : Int) < ((1 : Nat) : Int)) = true from rfl, cond_true]
  rw [show idx [(⟨3, now, last⟩ : greenbeltref02_File)] 0 = some ⟨3, now, last⟩ from rfl, Option.bind_some]
  simp only [decide_true, Bool.not_true, cond_false, Option.bind_some]
  rw [show w64 ((0 : Int) + 1) = 1 from rfl, s_greenbeltref02_Disk_set_L1]
  rfl
 ·rfl
theorem set_take {α : Type} {q : List α} {j : Nat} {x : α} (h : j < q.length) : (q.set j x).take (j + 1) = q.take j ++ [x] := by
 rw [List.set_eq_take_append_cons_drop, if_pos h, List.take_append]
 have : (q.take j).length = j := by rw [List.length_take]; omega
 rw [this, show j + 1 - j = 1 by omega, List.take_of_length_le (by omega)]
 rfl
theorem set_drop {α : Type} {q : List α} {j n : Nat} {x : α} (h : j < n) : (q.set j x).drop n = q.drop n := by
 rw [List.drop_set, if_pos h]
theorem rput_L2 (t : List UInt8) (p : Nat) : ∀ (k i fuel : Nat) (q : List Int), k = t.length - i → i ≤ t.length → k < fuel → p + t.length ≤ q.length → q.length ≤ 1099511627776 →
  s_greenbeltref02_Put_L2 (p : Int) t fuel ((i : Int), q) = some (q.take (p + i) ++ (t.drop i).map (fun b => ((b.toNat : Nat) : Int)) ++ q.drop (p + t.length)) := by
 intro k
 induction k with
 | zero =>
  intro i fuel q hk hi hf hq hql
  obtain ⟨f, rfl⟩ : ∃ f, fuel = f + 1 := ⟨fuel - 1, by omega⟩
  have : i = t.length := by omega
  subst this
  rw [s_greenbeltref02_Put_L2]
  simp
 | succ k ih =>
  intro i fuel q hk hi hf hq hql
  obtain ⟨f, rfl⟩ : ∃ f, fuel = f + 1 := ⟨fuel - 1, by omega⟩
  have hlt : i < t.length := by omega
  rw [s_greenbeltref02_Put_L2]
  have e1 : w64 ((i : Int) + 1) = ((i + 1 : Nat) : Int) := by rw [w64_id (by omega) (by omega)]; rfl
  have e2 : w64 ((p : Int) + (i : Int)) = ((p + i : Nat) : Int) := by rw [w64_id (by omega) (by omega)]; rfl
  simp only [show decide ((i : Int) < (t.length : Int)) = true by simp; omega, cond_true, idx_of hlt, Option.bind_some, e1, e2, Int.toNat_natCast]
  rw [grd_ofI (by omega), Option.bind_some, List.getElem?_eq_getElem (by omega), Option.bind_some, ih (i + 1) f _ (by omega) (by omega) (by omega) (by rw [List.length_set]; omega) (by rw [List.length_set]; omega)]
  rw [show p + (i + 1) = p + i + 1 by omega, set_take (by omega), set_drop (by omega), drop_cons hlt]
  simp
theorem rput_L1 (t : List UInt8) (p : Nat) (hp : p + t.length ≤ 1099511627776) : ∀ (k fuel : Nat) (q : List Int), k = p + t.length - q.length → k < fuel → q.length ≤ 1099511627776 →
  s_greenbeltref02_Put_L1 (p : Int) t fuel q = some (q ++ List.replicate k 0) := by
 intro k
 induction k with
 | zero =>
  intro fuel q hk hf hq
  obtain ⟨f, rfl⟩ : ∃ f, fuel = f + 1 := ⟨fuel - 1, by omega⟩
  rw [s_greenbeltref02_Put_L1, w64_id (by omega) (by omega)]
  have : ¬ (((q.length : Nat) : Int) < (p : Int) + ((t.length : Nat) : Int)) := by omega
  simp only [this, decide_false, cond_false, List.replicate_zero, List.append_nil]
 | succ k ih =>
  intro fuel q hk hf hq
  obtain ⟨f, rfl⟩ : ∃ f, fuel = f + 1 := ⟨fuel - 1, by omega⟩
  rw [s_greenbeltref02_Put_L1, w64_id (by omega) (by omega)]
  have : (((q.length : Nat) : Int) < (p : Int) + ((t.length : Nat) : Int)) := by omega
  simp only [this, decide_true, cond_true]
  rw [grd_ofI (by simp only [List.length_append, List.length_singleton]; omega), Option.bind_some, ih f (q ++ [0]) (by simp only [List.length_append, List.length_singleton]; omega) (by omega) (by simp only [List.length_append, List.length_singleton]; omega)]
  rw [List.append_assoc, List.singleton_append, ← List.replicate_succ]
theorem r_put {s t : List UInt8} {p : Nat} (ht : t ≠ []) (hs : s.length ≤ 549755813888) (hp : p + t.length ≤ 549755813888) : s_greenbeltref02_Put s (p : Int) t = some (putL s p t) := by
 unfold s_greenbeltref02_Put
 have hi : (intsOf s).length = s.length := by simp [intsOf]
 simp only [ht, decide_false, cond_false]
 rw [grd_ofI (by omega), Option.bind_some, rput_L1 t p (by omega) (p + t.length - s.length) KK (intsOf s) (by omega) (kk_lt (by omega)) (by omega), Option.bind_some]
 have hl : (intsOf s ++ List.replicate (p + t.length - s.length) 0).length = s.length + (p + t.length - s.length) := by simp [hi]
 rw [show ((0 : Int), intsOf s ++ List.replicate (p + t.length - s.length) 0) = (((0 : Nat) : Int), intsOf s ++ List.replicate (p + t.length - s.length) 0) from rfl, rput_L2 t p t.length 0 KK _ (by omega) (by omega) (kk_lt (by omega)) (by rw [hl]; omega) (by rw [hl]; omega), Option.bind_some]
 congr 1
 rw [bytesOf_append, bytesOf_append, List.drop_zero, bytesOf_toNat, putL]
 have e3 : bytesOf (intsOf s ++ List.replicate (p + t.length - s.length) 0) = s ++ List.replicate (p + t.length - s.length) 0 := by
  rw [bytesOf_append]
  congr 1
  ·exact bytesOf_toNat s
  ·simp [bytesOf]
 have e4 : ∀ l k, bytesOf (List.take k l) = (bytesOf l).take k := fun l k => by simp [bytesOf, List.map_take]
 have e5 : ∀ l k, bytesOf (List.drop k l) = (bytesOf l).drop k := fun l k => by simp [bytesOf, List.map_drop]
 rw [e4, e5, e3, Nat.add_zero]
 congr 1
 rw [List.drop_append]
 rw [show (List.replicate (p + t.length - s.length) (0 : UInt8)).drop (p + t.length - s.length) = [] by simp]
 simp
theorem rsec_get {q : List Nat} {i n : Nat} {r : List Nat} (h : q.drop i = n :: r) : i < q.length ∧ (q.map rsec)[i]? = some (rsec n) ∧ q.drop (i + 1) = r := by
 have hi : i < q.length := by
  have := congrArg List.length h
  simp at this; omega
 rw [List.drop_eq_getElem_cons hi] at h
 simp only [List.cons.injEq] at h
 refine ⟨hi, ?_, h.2⟩
 rw [List.getElem?_map, List.getElem?_eq_getElem hi, h.1]
 rfl
theorem r_pending_L {q : List Nat} (hq : q.length ≤ 1000000000000) (n : Nat) : ∀ (r : List Nat) (i fuel : Nat), q.drop i = r → i ≤ q.length → r.length < fuel →
  s_greenbeltref02_Disk_pending_L1 3 (n : Int) F lost down a keep (q.map rsec) fuel (i : Int) = some (if n ∈ r then .inl true else .inr ()) := by
 intro r
 induction r with
 | nil =>
  intro i fuel hd hi hf
  obtain ⟨f, rfl⟩ : ∃ f, fuel = f + 1 := ⟨fuel - 1, by omega⟩
  have hle : q.length ≤ i := by simpa using hd
  rw [s_greenbeltref02_Disk_pending_L1]
  simp only [show decide ((i : Int) < ((q.map rsec).length : Int)) = false by simp; omega, cond_false]
  simp
 | cons k r ih =>
  intro i fuel hd hi hf
  obtain ⟨f, rfl⟩ : ∃ f, fuel = f + 1 := ⟨fuel - 1, by omega⟩
  obtain ⟨h1, h2, h3⟩ := rsec_get hd
  rw [s_greenbeltref02_Disk_pending_L1]
  simp only [show decide ((i : Int) < ((q.map rsec).length : Int)) = true by simp; omega, cond_true, Int.toNat_natCast, h2, Option.bind_some]
  rw [grd_ofI (by simp only [List.length_map]; omega), Option.bind_some, Option.bind_some]
  simp only [rsec, decide_true, cond_true, Option.bind_some]
  by_cases hk : k = n
  ·subst hk; simp
  ·have : ¬ ((k : Int) = (n : Int)) := by omega
   simp only [this, decide_false, cond_false]
   rw [w64_id (by omega) (by omega)]
   have hnk : ¬ n = k := fun e => hk e.symm
   rw [show ((i : Int) + 1) = ((i + 1 : Nat) : Int) by omega]
   have := ih (i + 1) f h3 (by omega) (by simp only [List.length_cons] at hf; omega)
   simp only [List.mem_cons, hnk, false_or]
   exact this
theorem r_pending {q : List Nat} (hq : q.length ≤ 1000000000) (n : Nat) : s_greenbeltref02_Disk_pending F (q.map rsec) lost down a keep 3 (n : Int) = some (decide (n ∈ q)) := by
 unfold s_greenbeltref02_Disk_pending
 have := r_pending_L (F := F) (lost := lost) (down := down) (a := a) (keep := keep) (q := q) (by omega) n q 0 KK rfl (Nat.zero_le _) (kk_lt (by omega))
 rw [show (0 : Int) = ((0 : Nat) : Int) from rfl, this, Option.bind_some]
 by_cases h : n ∈ q <;> simp [h, sumC]
theorem r_add_L {at_ : Int} {s : List UInt8} {e : Nat} (he : w64 (Int.tdiv (w64 ((w64 (at_ + (List.length s : Int))) - 1)) 64) = (e : Int)) (hE : e ≤ 1000000) : ∀ (k i fuel : Nat) (q : List Nat), k = e + 1 - i → i ≤ e + 1 → k < fuel → q.length + k ≤ 1000000000 →
  s_greenbeltref02_Disk_add_L1 3 at_ s F lost down a keep fuel ((i : Int), q.map rsec) = some ((addQ i k q).map rsec) := by
 intro k
 induction k with
 | zero =>
  intro i fuel q hk hi hf hn
  obtain ⟨fu, rfl⟩ : ∃ fu, fuel = fu + 1 := ⟨fuel - 1, by omega⟩
  rw [s_greenbeltref02_Disk_add_L1, he]
  simp only [show decide ((i : Int) ≤ (e : Int)) = false by simp; omega, cond_false, addQ]
 | succ k ih =>
  intro i fuel q hk hi hf hn
  obtain ⟨fu, rfl⟩ : ∃ fu, fuel = fu + 1 := ⟨fuel - 1, by omega⟩
  rw [s_greenbeltref02_Disk_add_L1, he]
  simp only [show decide ((i : Int) ≤ (e : Int)) = true by simp; omega, cond_true]
  rw [w64_id (n := (i : Int) + 1) (by omega) (by omega), r_pending (by omega), Option.bind_some]
  simp only [addQ]
  by_cases hin : i ∈ q
  ·simp only [hin, decide_true, Bool.not_true, cond_false, Option.bind_some, if_true]
   exact ih (i + 1) fu q (by omega) (by omega) (by omega) (by omega)
  ·simp only [hin, decide_false, Bool.not_false, cond_true, if_false]
   rw [grd_ofI (by simp only [List.length_append, List.length_singleton, List.length_map]; omega), Option.bind_some, Option.bind_some]
   have := ih (i + 1) fu (q ++ [i]) (by omega) (by omega) (by omega) (by simp only [List.length_append, List.length_singleton]; omega)
   rw [List.map_append, List.map_singleton] at this
   exact this
theorem r_add {at_ : Nat} {s : List UInt8} (h : RR F Q m) (hm : OKm C m) (hC : C ≤ 1000000) (hs0 : s ≠ []) (hl : at_ + s.length ≤ 2097152) :
  ∃ F' Q', s_greenbeltref02_Disk_add F Q lost down a keep 3 (at_ : Int) s = some (F', Q') ∧ RR F' Q' (addS m at_ s) := by
 have hsp : 0 < s.length := List.length_pos_iff.2 hs0
 have e1 : w64 ((at_ : Int) + (s.length : Int)) = ((at_ + s.length : Nat) : Int) := by rw [w64_id (by omega) (by omega)]; rfl
 have e2 : w64 (((at_ + s.length : Nat) : Int) - 1) = ((at_ + s.length - 1 : Nat) : Int) := by rw [w64_id (by omega) (by omega)]; omega
 have e3 : w64 (Int.tdiv ((at_ + s.length - 1 : Nat) : Int) 64) = (((at_ + s.length - 1) / 64 : Nat) : Int) := by
  rw [Int.tdiv_eq_ediv_of_nonneg (by omega), w64_id (by omega) (by omega)]; omega
 have e4 : w64 (Int.tdiv (at_ : Int) 64) = ((at_ / 64 : Nat) : Int) := by
  rw [Int.tdiv_eq_ediv_of_nonneg (by omega), w64_id (by omega) (by omega)]; omega
 have hql := hm.ql
 have hnw := hm.now
 refine ⟨[⟨3, putL m.now at_ s, m.last⟩], _, ?_, ⟨.inl rfl, rfl⟩⟩
 unfold s_greenbeltref02_Disk_add
 simp only [hs0, decide_false, cond_false]
 rw [r_get h.f, Option.bind_some]
 dsimp only
 rw [r_put hs0 (by omega) (by omega), Option.bind_some, r_set h.f, Option.bind_some, e4, h.q, r_add_L (e := (at_ + s.length - 1) / 64) (by rw [e1, e2, e3]) (by omega) _ (at_ / 64) KK m.q rfl (by omega) (kk_lt (by omega)) (by omega), Option.bind_some]
 rfl
end Go.Proofs.YtoflckochjijcaaGreatDoor.E
