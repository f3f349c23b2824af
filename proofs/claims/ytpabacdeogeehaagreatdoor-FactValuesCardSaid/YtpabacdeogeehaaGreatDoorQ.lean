/- Keys, entries, the history's bounds. -/
import Derived.Test.YtpabacdeogeehaaGreatDoorO
set_option linter.all false
set_option maxRecDepth 100000
namespace Go.Proofs.YtpabacdeogeehaaGreatDoor
open Go Go.RowKit Go.Eng Go.EV
theorem sortI_mem {l : List Int} {x : Int} : x ∈ sortI l ↔ x ∈ l := (List.mergeSort_perm _ _).mem_iff
theorem sortS_mem {l : List (List UInt8)} {x : List UInt8} : x ∈ sortS l ↔ x ∈ l := (List.mergeSort_perm _ _).mem_iff
section
variable {α : Type} [Inhabited α] [DecidableEq α]
theorem upTo_mem (d : Array α) (x : α) : ∀ m, m ≤ d.size → (x ∈ Lib.compactUpTo d m ↔ ∃ j, j < m ∧ d[j]! = x)
 | 0, _ => by simp [Lib.compactUpTo]
 | m + 1, hm => by
  rw [Lib.compactUpTo_succ, List.mem_append, upTo_mem d x m (by omega)]
  constructor
  ·rintro (⟨j, hj, e⟩ | h)
   ·exact ⟨j, by omega, e⟩
   ·split at h
    ·rw [List.mem_singleton] at h; exact ⟨m, by omega, h.symm⟩
    ·cases h
  ·rintro ⟨j, hj, e⟩
   by_cases hjm : j < m
   ·exact .inl ⟨j, hjm, e⟩
   ·obtain rfl : j = m := by omega
    cases hk : Lib.keeps d j with
    | true => exact .inr (by rw [if_pos rfl, List.mem_singleton]; exact e.symm)
    | false =>
     unfold Lib.keeps at hk
     rw [decide_eq_false_iff_not, not_or] at hk
     refine .inl ⟨j - 1, by omega, ?_⟩
     rw [← e]
     exact (Classical.not_not.1 hk.2).symm
theorem compact_mem {l : List α} {x : α} : x ∈ Lib.compact l ↔ x ∈ l := by
 unfold Lib.compact
 rw [upTo_mem _ _ _ (by simp)]
 constructor
 ·rintro ⟨j, hj, e⟩
  rw [← e]
  simp [hj]
 ·intro h
  obtain ⟨j, hj, e⟩ := List.getElem_of_mem h
  exact ⟨j, by simpa using hj, by simp [hj, e]⟩
end
variable [Fuel]
theorem foldlM_pick {α β : Type} (p : α → Bool) (g : α → β) (c cap : Nat) : ∀ (l : List α) (s : List β), (s.length + l.length) * c ≤ cap →
  l.foldlM (m := Option) (fun s x => bif p x then (grd ((s ++ [g x]).length * c ≤ cap)).bind fun _ => some (s ++ [g x]) else some s) s = some (s ++ (l.filter p).map g)
 | [], s, _ => by simp
 | x :: l, s, h => by
  have h1 : (s ++ [g x]).length * c ≤ cap := Nat.le_trans (Nat.mul_le_mul_right c (by simp)) h
  rw [List.foldlM_cons]
  cases hp : p x with
  | true =>
   rw [cond_true, grd_of h1]
   show List.foldlM _ (s ++ [g x]) l = _
   rw [foldlM_pick p g c cap l _ (by simpa [Nat.add_assoc, Nat.add_comm 1] using h)]
   simp [List.filter_cons, hp]
  | false =>
   rw [cond_false]
   show List.foldlM _ s l = _
   rw [foldlM_pick p g c cap l s (Nat.le_trans (Nat.mul_le_mul_right c (by simp)) h)]
   simp [List.filter_cons, hp]
def keysV (base : List Fact) : List (List UInt8) := Lib.compact (sortS (base.map (·.Key)))
theorem s_Keys {base : List Fact} (h : base.length ≤ 16) (hr : rightB base = true) : s_fact_Keys base = some (keysV base) := by
 have key := fold_loopO (L := s_fact_Keys_L1 base) (l := base) (fun x s => (grd ((s ++ [x.Key]).length * 16 ≤ 140737488355328)).bind fun _ => some (s ++ [x.Key])) id (by omega) (fun K i s => by
  rw [s_fact_Keys_L1]
  cases decide (i < (base.length : Int)) with
  | false => rfl
  | true =>
   simp only [cond_true]
   cases idx base i with
   | none => rfl
   | some x =>
    simp only [Option.bind_some]
    cases grd ((s ++ [x.Key]).length * 16 ≤ 140737488355328) <;> rfl) base.length 0 KK [] (by omega) (by have := KK_big; omega)
 rw [show ((0 : Nat) : Int) = 0 from rfl, List.drop_zero, foldlM_push (fun x : Fact => x.Key) 16 140737488355328 _ _ (by simp; omega)] at key
 unfold s_fact_Keys keysV
 rw [s_Right (by omega), hr, Option.bind_some]
 simp only [Bool.not_true, cond_false]
 rw [key, Option.map_some, Option.bind_some, id, List.nil_append, grd_of (by simp; omega)]; rfl
theorem keysV_mem {base : List Fact} {k : List UInt8} : k ∈ keysV base ↔ k ∈ base.map (·.Key) := by unfold keysV; rw [compact_mem, sortS_mem]
theorem keysV_len (base : List Fact) : (keysV base).length ≤ base.length := by
 unfold keysV
 have := Lib.compact_length_le (sortS (base.map (·.Key)))
 rw [sortS_length, List.length_map] at this; exact this
def entriesV (base : List Fact) (day known : Int) : List Entry := ((keysV base).filter fun k => (atF base k day known).2).map fun k => Entry.mk k (atF base k day known).1
theorem s_entries {base : List Fact} (h : base.length ≤ 16) (day known : Int) : s_greenbeltlaw44_FactValues_L1 base day known (keysV base) KK (0, []) = some (entriesV base day known) := by
 have hl := keysV_len base
 have key := fold_loopO (L := s_greenbeltlaw44_FactValues_L1 base day known (keysV base)) (l := keysV base) (fun x s => bif (atF base x day known).2 then (grd ((s ++ [Entry.mk x (atF base x day known).1]).length * 24 ≤ 140737488355328)).bind fun _ => some (s ++ [Entry.mk x (atF base x day known).1]) else some s) id (by omega) (fun K i s => by
  rw [s_greenbeltlaw44_FactValues_L1]
  simp only [s_At (show base.length < 2 ^ 62 by omega), Option.bind_some]
  cases decide (i < ((keysV base).length : Int)) with
  | false => rfl
  | true =>
   simp only [cond_true]
   cases idx (keysV base) i with
   | none => rfl
   | some x =>
    simp only [Option.bind_some]) (keysV base).length 0 KK [] (by omega) (by have := KK_big; omega)
 rw [show ((0 : Nat) : Int) = 0 from rfl, List.drop_zero, foldlM_pick (fun x => (atF base x day known).2) (fun x => Entry.mk x (atF base x day known).1) 24 140737488355328 _ _ (by simp; omega)] at key
 rw [key]; rfl
theorem firstE_pick (p : List UInt8 → Bool) (v : List UInt8 → Int) (key : List UInt8) : ∀ l : List (List UInt8), firstE ((l.filter p).map fun k => Entry.mk k (v k)) key = if key ∈ l ∧ p key = true then some (v key) else none
 | [] => by simp [firstE]
 | x :: l => by
  have ih := firstE_pick p v key l
  rw [List.filter_cons]
  by_cases hx : x = key
  ·subst hx
   cases hp : p x with
   | true =>
    rw [if_pos rfl, if_pos ⟨List.mem_cons_self .., rfl⟩]
    unfold firstE
    rw [List.map_cons, List.find?_cons, decide_eq_true rfl]; rfl
   | false =>
    rw [if_neg (by simp), ih, hp]; simp
  ·have hm : key ∈ x :: l ↔ key ∈ l := by rw [List.mem_cons]; exact ⟨fun h => h.elim (fun e => absurd e.symm hx) id, .inr⟩
   cases hp : p x with
   | true =>
    rw [if_pos rfl]
    unfold firstE at ih ⊢
    rw [List.map_cons, List.find?_cons, decide_eq_false hx, ih]
    simp only [hm]
   | false =>
    rw [if_neg (by simp), ih]
    simp only [hm]
theorem atF_key {base : List Fact} {key : List UInt8} {day known : Int} (h : (atF base key day known).2 = true) : key ∈ base.map (·.Key) := by
 unfold atF at h
 split at h
 ·cases h
 ·split at h
  ·cases h
  ·rename_i hc
   have hlt := countsV_lt base key day known hc
   unfold countsV at hc hlt
   cases hf : (lastIdx base key known).find? (hitB base day) with
   | none => rw [hf] at hc; simp at hc
   | some i =>
    have hm := List.mem_of_find?_eq_some hf
    have hk : ∀ n, n ≤ base.length → i ∈ lastFrom base key known n → key ∈ base.map (·.Key) := by
     intro n
     induction n with
     | zero => intro _ hh; simp [lastFrom] at hh
     | succ n ih =>
      intro hn hh
      simp only [lastFrom] at hh
      split at hh
      ·rename_i hcd
       rcases List.mem_cons.1 hh with rfl | hh
       ·unfold condB at hcd
        rw [Int.toNat_natCast, Bool.and_eq_true, decide_eq_true_eq] at hcd
        rw [← hcd.1]
        exact List.mem_map.2 ⟨_, getD_mem (by omega), rfl⟩
       ·exact ih (by omega) hh
      ·exact ih (by omega) hh
    exact hk _ (Nat.le_refl _) hm
theorem atF_none {base : List Fact} {key : List UInt8} {day known : Int} (h : (atF base key day known).2 = false) : (atF base key day known).1 = 0 := by
 unfold atF at h ⊢
 split
 ·rfl
 ·rename_i h1
  rw [if_neg h1] at h
  split
  ·rfl
  ·rename_i h2; rw [if_neg h2] at h; cases h
theorem entries_first (base : List Fact) (key : List UInt8) (day known : Int) : (firstE (entriesV base day known) key).getD 0 = (atF base key day known).1 := by
 unfold entriesV
 rw [firstE_pick (fun k => (atF base k day known).2) (fun k => (atF base k day known).1)]
 cases h : (atF base key day known).2 with
 | true => rw [if_pos ⟨keysV_mem.2 (atF_key h), rfl⟩]; rfl
 | false => rw [if_neg (by simp), atF_none h]; rfl
end Go.Proofs.YtpabacdeogeehaaGreatDoor
