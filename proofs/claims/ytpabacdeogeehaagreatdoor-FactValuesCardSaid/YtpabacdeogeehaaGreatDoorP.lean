/- Plain lemmas. -/
import Derived.Test.YtpabacdeogeehaaGreatDoorSD
set_option linter.all false
set_option maxRecDepth 100000
namespace Go.Proofs.YtpabacdeogeehaaGreatDoor
open Go Go.RowKit Go.Eng Go.EV
variable [Fuel]
theorem KK_big : 18446744073709551616 ≤ KK := Fuel.big
theorem grd_of {p : Prop} [Decidable p] (h : p) : grd p = some () := by unfold grd; rw [if_pos h]
theorem idx_of {α : Type} [Inhabited α] {l : List α} {i : Nat} (h : i < l.length) : idx l (i : Int) = some (l.getD i default) := by
 unfold idx; rw [if_pos ⟨by omega, by omega⟩]; simp
end Go.Proofs.YtpabacdeogeehaaGreatDoor
namespace Go.Proofs.YtpabacdeogeehaaGreatDoor
open Go Go.RowKit Go.Eng Go.EV
variable [Fuel]
theorem drop_cons {α : Type} [Inhabited α] {l : List α} {i : Nat} (hi : i < l.length) : l.drop i = l.getD i default :: l.drop (i + 1) := by
 rw [List.drop_eq_getElem_cons hi, List.getD_eq_getElem?_getD, List.getElem?_eq_getElem hi]; rfl
theorem fold_loopO {α S T : Type} [Inhabited α] {L : Nat → Int × S → Option T} {l : List α} (step : α → S → Option S) (fin : S → T) (hl : l.length < 2 ^ 62)
  (heq : ∀ K i s, L (K + 1) (i, s) = (bif decide (i < (l.length : Int)) then (idx l i).bind fun x => (step x s).bind fun s' => L K (w64 (i + 1), s') else some (fin s))) :
  ∀ (n i K : Nat) (s : S), i + n = l.length → n < K → L K ((i : Int), s) = ((l.drop i).foldlM (fun s x => step x s) s).map fin
 | 0, i, K, s, h, hK => by
  obtain ⟨K, rfl⟩ : ∃ K', K = K' + 1 := ⟨K - 1, by omega⟩
  rw [heq, decide_eq_false (by omega), cond_false, List.drop_of_length_le (by omega)]
  rfl
 | n + 1, i, K, s, h, hK => by
  obtain ⟨K, rfl⟩ : ∃ K', K = K' + 1 := ⟨K - 1, by omega⟩
  have hi : i < l.length := by omega
  rw [heq, decide_eq_true (by omega), cond_true, idx_of hi, Option.bind_some, w64_id (by omega) (by omega), show ((i : Int) + 1) = ((i + 1 : Nat) : Int) by omega, drop_cons hi, List.foldlM_cons]
  cases hs : step (l.getD i default) s with
  | none => rfl
  | some s' =>
   rw [Option.bind_some, fold_loopO step fin hl heq n (i + 1) K s' (by omega) (by omega)]
   rfl
theorem find_loop {α R : Type} [Inhabited α] {L : Nat → Int → Option (R ⊕ Unit)} {l : List α} (test : Nat → α → Bool) (r : R) (hl : l.length < 2 ^ 62)
  (heq : ∀ K (i : Nat), i < l.length → L (K + 1) (i : Int) = bif test i (l.getD i default) then some (.inl r) else L K ((i + 1 : Nat) : Int)) (hend : ∀ K, L (K + 1) (l.length : Int) = some (.inr ())) :
  ∀ (n i K : Nat), i + n = l.length → n < K → L K (i : Int) = some (bif (List.range' i n).any (fun j => test j (l.getD j default)) then .inl r else .inr ())
 | 0, i, K, h, hK => by
  obtain ⟨K, rfl⟩ : ∃ K', K = K' + 1 := ⟨K - 1, by omega⟩
  rw [show i = l.length by omega, hend]; rfl
 | n + 1, i, K, h, hK => by
  obtain ⟨K, rfl⟩ : ∃ K', K = K' + 1 := ⟨K - 1, by omega⟩
  rw [heq K i (by omega), List.range'_succ, List.any_cons]
  cases ht : test i (l.getD i default) with
  | true => rw [cond_true, Bool.true_or]; rfl
  | false => rw [cond_false, Bool.false_or, find_loop test r hl heq hend n (i + 1) K (by omega) (by omega)]
def validB (f : Fact) : Bool := !(decide (f.Key = [])) && (decide ((List.length f.Key : Int) ≤ 20) && (decide ((min f.From f.Known) ≥ 0) && (decide ((max (max f.From f.Until) f.Known) ≤ 1073741824) && (decide (f.Until = 0) || decide (f.Until > f.From)))))
theorem s_valid (f : Fact) : s_fact_valid f = some (validB f) := by
 unfold s_fact_valid validB
 cases decide (f.Key = []) <;> cases decide ((List.length f.Key : Int) ≤ 20) <;> cases decide ((min f.From f.Known) ≥ 0) <;> cases decide ((max (max f.From f.Until) f.Known) ≤ 1073741824) <;> cases decide (f.Until = 0) <;> rfl
def okAt (base : List Fact) (i : Nat) (x : Fact) : Bool := validB x && !(decide (0 < i) && decide (x.Known < (base.getD (i - 1) default).Known))
def rightB (base : List Fact) : Bool := !(List.range' 0 base.length).any (fun j => !okAt base j (base.getD j default)) && decide ((List.length base : Int) ≤ 5000)
theorem s_Right {base : List Fact} (h : base.length < 2 ^ 62) : s_fact_Right base = some (rightB base) := by
 have key := find_loop (L := s_fact_Right_L1 base) (l := base) (fun i x => !okAt base i x) false h (fun K i hi => by
  rw [s_fact_Right_L1, decide_eq_true (by omega), cond_true, idx_of hi, Option.bind_some, s_valid, Option.bind_some, w64_id (by omega) (by omega), w64_id (by omega) (by omega), show ((i : Int) + 1) = ((i + 1 : Nat) : Int) by omega]
  unfold okAt
  cases validB (base.getD i default) with
  | false => rfl
  | true =>
   by_cases h0 : 0 < i
   ·rw [decide_eq_true (show ((i : Int) > 0) by omega), decide_eq_true h0, show ((i : Int) - 1) = ((i - 1 : Nat) : Int) by omega, idx_of (by omega)]
    simp only [Option.bind_some, Bool.not_true, cond_false, cond_true]
    cases decide ((base.getD i default).Known < (base.getD (i - 1) default).Known) <;> rfl
   ·rw [decide_eq_false (show ¬ ((i : Int) > 0) by omega), decide_eq_false h0]; rfl) (fun K => by
  rw [s_fact_Right_L1, decide_eq_false (by omega), cond_false]) base.length 0 KK (by omega) (by have := KK_big; omega)
 unfold s_fact_Right rightB
 rw [show ((0 : Nat) : Int) = 0 from rfl] at key
 rw [key, Option.bind_some]
 cases (List.range' 0 base.length).any (fun j => !okAt base j (base.getD j default)) <;> rfl
end Go.Proofs.YtpabacdeogeehaaGreatDoor
namespace Go.Proofs.YtpabacdeogeehaaGreatDoor
open Go Go.RowKit Go.Eng Go.EV
variable [Fuel]
theorem lastIdx_mem {base : List Fact} {key : List UInt8} {known i : Int} (h : i ∈ lastIdx base key known) : 0 ≤ i ∧ i.toNat < base.length := by
 have key' : ∀ n, i ∈ lastFrom base key known n → 0 ≤ i ∧ i.toNat < n := by
  intro n
  induction n with
  | zero => intro h; simp [lastFrom] at h
  | succ n ih =>
   intro h
   simp only [lastFrom] at h
   split at h
   ·rcases List.mem_cons.1 h with rfl | h
    ·omega
    ·have := ih h; omega
   ·have := ih h; omega
 exact key' _ h
def endV (f : Fact) : Int := if f.Until = 0 then 1073741825 else f.Until
theorem s_end (f : Fact) : s_fact_end f = some (endV f) := by
 unfold s_fact_end endV
 by_cases h : f.Until = 0
 ·rw [decide_eq_true h, if_pos h]; rfl
 ·rw [decide_eq_false h, if_neg h]; rfl
def hitB (base : List Fact) (day i : Int) : Bool := decide ((base.getD i.toNat default).From ≤ day) && decide (day < endV (base.getD i.toNat default))
theorem counts_L1 (base : List Fact) (day : Int) : ∀ xs : List Int, (∀ i ∈ xs, 0 ≤ i ∧ i.toNat < base.length) → s_fact_counts_L1 base day xs () = some (match xs.find? (hitB base day) with | some i => .inl i | none => .inr ())
 | [], _ => rfl
 | x :: xs, h => by
  obtain ⟨h1, h2⟩ := h x (List.mem_cons_self ..)
  have hx : idx base x = some (base.getD x.toNat default) := by
   have := idx_of h2
   rwa [show ((x.toNat : Nat) : Int) = x by omega] at this
  have ih := counts_L1 base day xs fun i hi => h i (List.mem_cons_of_mem _ hi)
  have hh : (idx base x).bind (fun x2 => (bif decide (x2.From ≤ day) then (idx base x).bind fun x3 => (s_fact_end x3).bind fun y2 => some (decide (day < y2)) else some false)) = some (hitB base day x) := by
   rw [hx, Option.bind_some, Option.bind_some, s_end, Option.bind_some]
   unfold hitB
   cases decide ((base.getD x.toNat default).From ≤ day) <;> rfl
  rw [s_fact_counts_L1, hh, Option.bind_some, List.find?_cons]
  cases hitB base day x with
  | true => rfl
  | false => rw [cond_false]; exact ih
def countsV (base : List Fact) (key : List UInt8) (day known : Int) : Int := ((lastIdx base key known).find? (hitB base day)).getD (-1)
theorem s_counts (base : List Fact) (key : List UInt8) (day known : Int) : s_fact_counts base key day known = some (countsV base key day known) := by
 unfold s_fact_counts s_fact_last countsV
 rw [Option.bind_some, counts_L1 base day _ fun i hi => lastIdx_mem hi, Option.bind_some]
 cases (lastIdx base key known).find? (hitB base day) <;> rfl
theorem countsV_lt (base : List Fact) (key : List UInt8) (day known : Int) (h : ¬ countsV base key day known < 0) : (countsV base key day known).toNat < base.length := by
 unfold countsV at h ⊢
 cases hf : (lastIdx base key known).find? (hitB base day) with
 | none => rw [hf] at h; simp at h
 | some i => exact (lastIdx_mem (List.mem_of_find?_eq_some hf)).2
def atF (base : List Fact) (key : List UInt8) (day known : Int) : Int × Bool :=
 if day < 0 ∨ day > 1073741824 ∨ rightB base = false then (0, false) else if countsV base key day known < 0 then (0, false) else ((base.getD (countsV base key day known).toNat default).Value, true)
theorem s_At {base : List Fact} (h : base.length < 2 ^ 62) (key : List UInt8) (day known : Int) : s_fact_At base key day known = some (atF base key day known) := by
 unfold s_fact_At atF
 rw [s_Right h, s_counts, Option.bind_some, Option.bind_some]
 have tail : (bif decide (countsV base key day known < 0) then some ((0 : Int), false) else (idx base (countsV base key day known)).bind fun x1 => some (x1.Value, true)) = some (if countsV base key day known < 0 then (0, false) else ((base.getD (countsV base key day known).toNat default).Value, true)) := by
  by_cases h2 : countsV base key day known < 0
  ·rw [decide_eq_true h2, if_pos h2]; rfl
  ·have hx := idx_of (countsV_lt base key day known h2)
   rw [show (((countsV base key day known).toNat : Nat) : Int) = countsV base key day known by omega] at hx
   rw [decide_eq_false h2, if_neg h2, cond_false, hx]; rfl
 rw [tail]
 by_cases h1 : day < 0
 ·rw [decide_eq_true h1, if_pos (show day < 0 ∨ day > 1073741824 ∨ rightB base = false from .inl h1)]; rfl
 ·by_cases h2 : day > 1073741824
  ·rw [decide_eq_false h1, decide_eq_true h2, if_pos (show day < 0 ∨ day > 1073741824 ∨ rightB base = false from .inr (.inl h2))]; rfl
  ·cases hr : rightB base with
   | false => rw [decide_eq_false h1, decide_eq_false h2, if_pos (show day < 0 ∨ day > 1073741824 ∨ false = false from .inr (.inr rfl))]; rfl
   | true => rw [decide_eq_false h1, decide_eq_false h2, if_neg (show ¬ (day < 0 ∨ day > 1073741824 ∨ true = false) by simp; omega)]; rfl
theorem foldlM_push {α β : Type} (g : α → β) (c : Nat) (cap : Nat) (l : List α) : ∀ (s : List β), (s.length + l.length) * c ≤ cap →
  l.foldlM (m := Option) (fun s x => (grd ((s ++ [g x]).length * c ≤ cap)).bind fun _ => some (s ++ [g x])) s = some (s ++ l.map g) := by
 induction l with
 | nil => intro s _; simp [List.foldlM]
 | cons x l ih =>
  intro s h
  have h1 : (s ++ [g x]).length * c ≤ cap := by
   refine Nat.le_trans (Nat.mul_le_mul_right c ?_) h
   simp
  rw [List.foldlM_cons, grd_of h1]
  show List.foldlM _ (s ++ [g x]) l = _
  rw [ih (s ++ [g x]) (by simpa [Nat.add_assoc, Nat.add_comm 1] using h)]
  simp
end Go.Proofs.YtpabacdeogeehaaGreatDoor
