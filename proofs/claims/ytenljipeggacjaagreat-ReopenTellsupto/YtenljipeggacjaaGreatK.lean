/- The reference returns the same: bases, levels, names. -/
import Derived.Test.YtenljipeggacjaaGreatZ
import Derived.Sort.Walk0
set_option linter.all false
set_option maxRecDepth 100000
namespace Go.Proofs.YtenljipeggacjaaGreat
open Go Go.RowKit Go.Eng Go.EV
variable [Fuel]
theorem s_Valid44 (f : Fact) : s_greenbeltref44_Valid f = some (validB f) := by
 unfold s_greenbeltref44_Valid validB
 by_cases h0 : f.Key = []
 ·rw [decide_eq_true (show (List.length f.Key : Int) < 1 by rw [h0]; decide), decide_eq_true h0]; rfl
 ·have h1 : ¬ (List.length f.Key : Int) < 1 := fun h => h0 (List.length_eq_zero_iff.1 (by omega))
  rw [decide_eq_false h1, decide_eq_false h0]
  by_cases h2 : (List.length f.Key : Int) ≤ 20
  ·rw [decide_eq_false (show ¬ (List.length f.Key : Int) > 20 by omega), decide_eq_true h2]
   by_cases h3 : f.From < 0
   ·rw [decide_eq_true h3, decide_eq_false (show ¬ min f.From f.Known ≥ 0 by omega)]; rfl
   by_cases h4 : f.From > 1073741824
   ·rw [decide_eq_false h3, decide_eq_true h4, decide_eq_false (show ¬ max (max f.From f.Until) f.Known ≤ 1073741824 by omega)]; cases decide (min f.From f.Known ≥ 0) <;> rfl
   by_cases h5 : f.Known < 0
   ·rw [decide_eq_false h3, decide_eq_false h4, decide_eq_true h5, decide_eq_false (show ¬ min f.From f.Known ≥ 0 by omega)]; rfl
   by_cases h6 : f.Known > 1073741824
   ·rw [decide_eq_false h3, decide_eq_false h4, decide_eq_false h5, decide_eq_true h6, decide_eq_false (show ¬ max (max f.From f.Until) f.Known ≤ 1073741824 by omega)]; cases decide (min f.From f.Known ≥ 0) <;> rfl
   rw [decide_eq_false h3, decide_eq_false h4, decide_eq_false h5, decide_eq_false h6, decide_eq_true (show min f.From f.Known ≥ 0 by omega)]
   by_cases h7 : f.Until = 0
   ·rw [decide_eq_true h7, decide_eq_true (show max (max f.From f.Until) f.Known ≤ 1073741824 by omega)]; rfl
   by_cases h8 : f.Until > f.From
   ·by_cases h9 : f.Until ≤ 1073741824
    ·rw [decide_eq_false h7, decide_eq_true h8, decide_eq_true h9, decide_eq_true (show max (max f.From f.Until) f.Known ≤ 1073741824 by omega)]; rfl
    ·rw [decide_eq_false h7, decide_eq_true h8, decide_eq_false h9, decide_eq_false (show ¬ max (max f.From f.Until) f.Known ≤ 1073741824 by omega)]; rfl
   ·rw [decide_eq_false h7, decide_eq_false h8]; cases decide (max (max f.From f.Until) f.Known ≤ 1073741824) <;> rfl
  ·rw [decide_eq_true (show (List.length f.Key : Int) > 20 by omega), decide_eq_false h2]; rfl
theorem s_Right44 {base : List Fact} (h : base.length < 2 ^ 62) : s_greenbeltref44_Right base = some (rightB base) := by
 have key := find_loop (L := s_greenbeltref44_Right_L1 base) (l := base) (fun i x => !okAt base i x) false h (fun K i hi => by
  rw [s_greenbeltref44_Right_L1, decide_eq_true (by omega), cond_true, idx_of hi, Option.bind_some, s_Valid44, Option.bind_some, w64_id (by omega) (by omega), w64_id (by omega) (by omega), show ((i : Int) + 1) = ((i + 1 : Nat) : Int) by omega]
  unfold okAt
  cases validB (base.getD i default) with
  | false => rfl
  | true =>
   by_cases h0 : 0 < i
   ·rw [decide_eq_true (show ((i : Int) > 0) by omega), decide_eq_true h0, show ((i : Int) - 1) = ((i - 1 : Nat) : Int) by omega, idx_of (show i - 1 < base.length by omega)]
    simp only [Option.bind_some, Bool.not_true, cond_false, cond_true]
    cases decide ((base.getD i default).Known < (base.getD (i - 1) default).Known) <;> rfl
   ·rw [decide_eq_false (show ¬ ((i : Int) > 0) by omega), decide_eq_false h0]; rfl) (fun K => by
  rw [s_greenbeltref44_Right_L1, decide_eq_false (by omega), cond_false]) base.length 0 KK (by omega) (by have := KK_big; omega)
 unfold s_greenbeltref44_Right rightB
 rw [show ((0 : Nat) : Int) = 0 from rfl] at key
 rw [key]
 by_cases h5 : base.length > 5000
 ·rw [decide_eq_true (show (base.length : Int) > 5000 by omega), decide_eq_false (show ¬ (base.length : Int) ≤ 5000 by omega), Bool.and_false]; rfl
 ·rw [decide_eq_false (show ¬ (base.length : Int) > 5000 by omega), decide_eq_true (show (base.length : Int) ≤ 5000 by omega), Bool.and_true, cond_false, Option.bind_some]
  cases (List.range' 0 base.length).any (fun j => !okAt base j (base.getD j default)) <;> rfl
def cF (base : List Fact) (key : List UInt8) (day known : Int) (n : Nat) : Int := ((lastFrom base key known n).find? (hitB base day)).getD (-1)
theorem s_Has44 {f : Fact} {day : Int} (h : day ≤ 1073741824) : s_greenbeltref44_Has f day = some (decide (f.From ≤ day) && decide (day < endV f)) := by
 unfold s_greenbeltref44_Has endV
 by_cases h0 : f.From ≤ day
 ·rw [decide_eq_true h0, decide_eq_true h]
  by_cases h1 : f.Until = 0
  ·rw [decide_eq_true h1, if_pos h1, decide_eq_true (show day < 1073741825 by omega)]; rfl
  ·rw [decide_eq_false h1, if_neg h1]; rfl
 ·rw [decide_eq_false h0]; rfl
theorem counts_loop44 {base : List Fact} {key : List UInt8} {day known : Int} (h : base.length < 2 ^ 62) (hd : day ≤ 1073741824) : ∀ (n i K : Nat), i + n = base.length → n < K → s_greenbeltref44_counts_L1 base key day known K (cF base key day known i, (i : Int)) = some (cF base key day known base.length)
 | 0, i, K, hi, hK => by
  obtain ⟨K, rfl⟩ : ∃ K', K = K' + 1 := ⟨K - 1, by omega⟩
  rw [s_greenbeltref44_counts_L1, decide_eq_false (by simp only; omega), cond_false, show i = base.length by omega]
 | n + 1, i, K, hi, hK => by
  obtain ⟨K, rfl⟩ : ∃ K', K = K' + 1 := ⟨K - 1, by omega⟩
  have hl : i < base.length := by omega
  have ih := counts_loop44 (key := key) (known := known) h hd n (i + 1) K (by omega) (by omega)
  rw [s_greenbeltref44_counts_L1, decide_eq_true (by simp only; omega), cond_true]
  simp only [idx_of hl, Option.bind_some, s_Has44 hd]
  rw [w64_id (by omega) (by omega), show ((i : Int) + 1) = ((i + 1 : Nat) : Int) by omega]
  have hs : cF base key day known (i + 1) = bif (decide ((base.getD i default).Key = key) && decide ((base.getD i default).Known ≤ known)) && (decide ((base.getD i default).From ≤ day) && decide (day < endV (base.getD i default))) then (i : Int) else cF base key day known i := by
   unfold cF
   rw [lastFrom]
   unfold condB
   rw [Int.toNat_natCast]
   cases hc : (decide ((base.getD i default).Key = key) && decide ((base.getD i default).Known ≤ known)) with
   | false => rw [if_neg (by simp)]; rfl
   | true =>
    rw [if_pos rfl, List.find?_cons, show hitB base day (i : Int) = (decide ((base.getD i default).From ≤ day) && decide (day < endV (base.getD i default))) from by unfold hitB; rw [Int.toNat_natCast]]
    cases (decide ((base.getD i default).From ≤ day) && decide (day < endV (base.getD i default))) <;> rfl
  rw [← ih, hs]
  cases decide ((base.getD i default).Key = key) <;> cases decide ((base.getD i default).Known ≤ known) <;> cases decide ((base.getD i default).From ≤ day) <;> cases decide (day < endV (base.getD i default)) <;> rfl
theorem s_At44 {base : List Fact} (h : base.length < 2 ^ 62) (key : List UInt8) (day known : Int) : s_greenbeltref44_At base key day known = some (atF base key day known) := by
 unfold s_greenbeltref44_At atF
 rw [s_Right44 h, Option.bind_some]
 cases hr : rightB base with
 | false => rw [if_pos (by simp)]; rfl
 | true =>
  by_cases h1 : day < 0
  ·rw [decide_eq_true h1, if_pos (.inl h1)]; rfl
  by_cases h2 : day > 1073741824
  ·rw [decide_eq_false h1, decide_eq_true h2, if_pos (.inr (.inl h2))]; rfl
  rw [decide_eq_false h1, decide_eq_false h2, if_neg (by simp; omega)]
  have key' := counts_loop44 (key := key) (known := known) h (show day ≤ 1073741824 by omega) base.length 0 KK (by omega) (by have := KK_big; omega)
  have e : s_greenbeltref44_counts base key day known = some (countsV base key day known) := by
   unfold s_greenbeltref44_counts
   rw [show (cF base key day known 0, ((0 : Nat) : Int)) = ((-1 : Int), (0 : Int)) from rfl] at key'
   rw [key']; rfl
  rw [e]
  simp only [Bool.not_true, cond_false, Option.bind_some]
  by_cases h3 : countsV base key day known < 0
  ·rw [decide_eq_true h3, if_pos h3]; rfl
  ·have hx := idx_of (countsV_lt base key day known h3)
   rw [show (((countsV base key day known).toNat : Nat) : Int) = countsV base key day known by omega] at hx
   rw [decide_eq_false h3, if_neg h3, cond_false, hx]; rfl
theorem s_arity17 (op : Int) : s_greenbeltref17_arity op = some (if (arV op).2 = true then (arV op).1 else -1) := by
 unfold s_greenbeltref17_arity arV
 by_cases h0 : op = 0
 ·subst h0; rfl
 by_cases h1 : op = 1
 ·subst h1; rfl
 by_cases h2 : op = 2
 ·subst h2; rfl
 by_cases h3 : op = 3
 ·subst h3; rfl
 by_cases h9 : op = 9
 ·subst h9; rfl
 by_cases h15 : op = 15
 ·subst h15; rfl
 by_cases h16 : op = 16
 ·subst h16; rfl
 simp only [h0, h1, h2, h3, h9, h15, h16, decide_false, cond_false, Option.bind_some, or_self, if_false]
 by_cases h : op < 0
 ·rw [decide_eq_true h, decide_eq_false (show ¬ 0 ≤ op by omega)]; rfl
 ·rw [decide_eq_false h, decide_eq_true (show 0 ≤ op by omega)]
  by_cases h' : op ≥ 17
  ·rw [decide_eq_true h', decide_eq_false (show ¬ op < 17 by omega)]; rfl
  ·rw [decide_eq_false h', decide_eq_true (show op < 17 by omega)]; rfl
theorem fits_loop {rc : Expr → Int → Option Bool} {e : Expr} {lv : Int} (p : Expr → Bool) (hl : e.Args.length ≤ 3) (hx : ∀ x ∈ e.Args, rc x (w64 (lv - 1)) = some (p x)) : ∀ (n i K : Nat), i + n = e.Args.length → n < K → s_greenbeltref17_fits_L1 rc e lv K (i : Int) = some (if (e.Args.drop i).all p = true then .inr () else .inl false)
 | 0, i, K, hi, hK => by
  obtain ⟨K, rfl⟩ : ∃ K', K = K' + 1 := ⟨K - 1, by omega⟩
  rw [s_greenbeltref17_fits_L1, decide_eq_false (by omega), cond_false, List.drop_of_length_le (by omega)]; rfl
 | n + 1, i, K, hi, hK => by
  obtain ⟨K, rfl⟩ : ∃ K', K = K' + 1 := ⟨K - 1, by omega⟩
  have hlt : i < e.Args.length := by omega
  rw [s_greenbeltref17_fits_L1, decide_eq_true (by omega), cond_true, idx_of hlt, Option.bind_some, hx _ (getD_mem hlt), Option.bind_some, w64_id (n := (i : Int) + 1) (by omega) (by omega), show ((i : Int) + 1) = ((i + 1 : Nat) : Int) by omega, fits_loop p hl hx n (i + 1) K (by omega) (by omega), drop_cons hlt, List.all_cons]
  cases p (e.Args.getD i default) <;> rfl
theorem s_fits : ∀ (n : Nat) (e : Expr) (K : Nat), n ≤ 12 → n < K → s_greenbeltref17_fits K e (n : Int) = some (decide (levV n e ≤ n))
 | 0, e, K, hn, hK => by
  obtain ⟨K, rfl⟩ : ∃ K', K = K' + 1 := ⟨K - 1, by omega⟩
  rw [s_greenbeltref17_fits]; rfl
 | n + 1, e, K, hn, hK => by
  obtain ⟨K, rfl⟩ : ∃ K', K = K' + 1 := ⟨K - 1, by omega⟩
  rw [s_greenbeltref17_fits, s_arity17, decide_eq_false (show ¬ ((n + 1 : Nat) : Int) < 1 by omega)]
  have ha := arV_le e.Op
  by_cases hbad : (arV e.Op).2 = false ∨ (arV e.Op).1 ≠ e.Args.length
  ·have : ¬ (if (arV e.Op).2 = true then (arV e.Op).1 else -1) = (e.Args.length : Int) := by
    split
    ·rename_i h2
     rcases hbad with h | h
     ·rw [h] at h2; cases h2
     ·exact h
    ·omega
   rw [levV, if_pos hbad, decide_eq_false (show ¬ (13 : Int) ≤ ((n + 1 : Nat) : Int) by omega)]
   simp only [Option.bind_some, cond_false]
   rw [decide_eq_false this]; rfl
  ·have h2 : (arV e.Op).2 = true := by
    cases h : (arV e.Op).2 with
    | true => rfl
    | false => exact absurd (.inl h) hbad
   have h1 : (arV e.Op).1 = e.Args.length := by
    by_cases h : (arV e.Op).1 = e.Args.length
    ·exact h
    ·exact absurd (.inr h) hbad
   rw [if_pos h2, h1]
   simp only [Option.bind_some, cond_false, decide_true, Bool.not_true]
   have key := fits_loop (rc := s_greenbeltref17_fits K) (e := e) (lv := ((n + 1 : Nat) : Int)) (fun x => decide (levV n x ≤ n)) (by omega) (fun x _ => by rw [w64_id (by omega) (by omega), show ((n + 1 : Nat) : Int) - 1 = (n : Int) by omega]; exact s_fits n x K (by omega) (by omega)) e.Args.length 0 KK (by omega) (by have := KK_big; omega)
   rw [show ((0 : Nat) : Int) = 0 from rfl, List.drop_zero] at key
   rw [key, Option.bind_some, levV, if_neg hbad]
   have hb := foldl_max (levV n) (13 + n) e.Args 0 (fun x _ => levV_le n x) (by omega)
   by_cases hall : e.Args.all (fun x => decide (levV n x ≤ n)) = true
   ·rw [if_pos hall]
    have hall' := List.all_eq_true.1 hall
    have := (foldl_max (levV n) n e.Args 0 (fun x hx => of_decide_eq_true (hall' x hx)) (by omega)).1
    rw [decide_eq_true (by omega)]
   ·rw [if_neg hall]
    rw [decide_eq_false]
    intro hle
    refine hall (List.all_eq_true.2 fun x hx => decide_eq_true ?_)
    have := hb.2.2 x hx
    omega
theorem s_Right17 (e : Expr) : s_greenbeltref17_Right e = some (decide (exRight e)) := by
 unfold s_greenbeltref17_Right
 have := s_fits 12 e KK (by omega) (by have := KK_big; omega)
 rw [show ((12 : Nat) : Int) = 12 from rfl] at this
 rw [this]; rfl
theorem s_Right45 (f : Formula) : s_greenbeltref45_Right f = some (RightB f) := by
 unfold s_greenbeltref45_Right RightB
 rw [s_Right17, Option.bind_some]
 cases decide (exRight f.Body) with
 | false => rfl
 | true =>
  by_cases h1 : f.Day ≥ 0 <;> by_cases h2 : f.Day ≤ 1073741824 <;> by_cases h3 : f.Known ≥ 0 <;> by_cases h4 : f.Known ≤ 1073741824 <;>
   simp only [h1, h2, h3, h4, decide_true, decide_false, cond_true, cond_false, Option.bind_some, Bool.true_and] <;>
   congr 1 <;> simp [Bool.and_eq_true] <;> omega
end Go.Proofs.YtenljipeggacjaaGreat
