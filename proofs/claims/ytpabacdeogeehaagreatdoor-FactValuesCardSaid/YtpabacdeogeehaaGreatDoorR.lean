/- The history: it comes back, and its numbers are ints. -/
import Derived.Test.YtpabacdeogeehaaGreatDoorQ
set_option linter.all false
set_option maxRecDepth 100000
namespace Go.Proofs.YtpabacdeogeehaaGreatDoor
open Go Go.RowKit Go.Eng Go.EV
def goodF (f : Fact) : Prop := I64 f.Value ∧ I64 f.From ∧ I64 f.Until ∧ I64 f.Known
variable [Fuel]
theorem endV_i64 {f : Fact} (h : goodF f) : I64 (endV f) := by
 unfold endV
 split
 ·exact ⟨by omega, by omega⟩
 ·exact h.2.2.1
def dayStep (key : List UInt8) (x : Fact) (s : List Int) : Option (List Int) := bif decide (x.Key = key) then (grd ((s ++ [x.From, endV x]).length * 8 ≤ 140737488355328)).bind fun _ => some (s ++ [x.From, endV x]) else some s
theorem days_fold (key : List UInt8) : ∀ (l : List Fact) (s : List Int), s.length + 2 * l.length ≤ 1000 → (∀ f ∈ l, goodF f) → (∀ x ∈ s, I64 x) →
  ∃ r, l.foldlM (m := Option) (fun s x => dayStep key x s) s = some r ∧ s.length ≤ r.length ∧ r.length ≤ s.length + 2 * l.length ∧ ∀ x ∈ r, I64 x
 | [], s, _, _, hs => ⟨s, rfl, Nat.le_refl _, by simp, hs⟩
 | f :: l, s, hl, hg, hs => by
  rw [List.length_cons] at hl
  have hf := hg f (List.mem_cons_self ..)
  rw [List.foldlM_cons]
  unfold dayStep
  cases decide (f.Key = key) with
  | false =>
   obtain ⟨r, h1, h2, h3, h4⟩ := days_fold key l s (by omega) (fun x hx => hg x (List.mem_cons_of_mem _ hx)) hs
   exact ⟨r, h1, h2, by rw [List.length_cons]; omega, h4⟩
  | true =>
   obtain ⟨r, h1, h2, h3, h4⟩ := days_fold key l (s ++ [f.From, endV f]) (by simp; omega) (fun x hx => hg x (List.mem_cons_of_mem _ hx)) (fun x hx => by
    simp only [List.mem_append, List.mem_cons, List.not_mem_nil, or_false] at hx
    rcases hx with hx | rfl | rfl
    ·exact hs x hx
    ·exact hf.2.1
    ·exact endV_i64 hf)
   simp only [List.length_append, List.length_cons, List.length_nil] at h2 h3
   rw [cond_true, grd_of (by simp; omega)]
   exact ⟨r, h1, by omega, by rw [List.length_cons]; omega, h4⟩
theorem days_ex {base : List Fact} (key : List UInt8) (h : base.length ≤ 16) (hg : ∀ f ∈ base, goodF f) : ∃ d, s_fact_days base key = some d ∧ 1 ≤ d.length ∧ d.length ≤ 100 ∧ ∀ x ∈ d, I64 x := by
 obtain ⟨r, h1, h2, h3, h4⟩ := days_fold key base [0, 1073741825] (by simp; omega) hg (fun x hx => by
  simp only [List.mem_cons, List.not_mem_nil, or_false] at hx
  rcases hx with rfl | rfl <;> exact ⟨by omega, by omega⟩)
 have key' := fold_loopO (L := s_fact_days_L1 base key) (l := base) (dayStep key) id (by omega) (fun K i s => by
  rw [s_fact_days_L1]
  simp only [s_end, Option.bind_some]
  cases decide (i < (base.length : Int)) with
  | false => rfl
  | true =>
   simp only [cond_true]
   cases idx base i with
   | none => rfl
   | some x =>
    simp only [Option.bind_some]
    unfold dayStep
    cases decide (x.Key = key) with
    | false => rfl
    | true =>
     simp only [cond_true]) base.length 0 KK [0, 1073741825] (by omega) (by have := KK_big; omega)
 rw [show ((0 : Nat) : Int) = 0 from rfl, List.drop_zero, h1, Option.map_some, id] at key'
 simp only [List.length_cons, List.length_nil] at h2 h3
 have hl := Lib.compact_length_le (sortI r)
 rw [sortI_length] at hl
 have hm : ∀ x, x ∈ Lib.compact (sortI r) ↔ x ∈ r := fun x => by rw [compact_mem, sortI_mem]
 refine ⟨Lib.compact (sortI r), ?_, ?_, by omega, fun x hx => h4 x ((hm x).1 hx)⟩
 ·unfold s_fact_days
  rw [key', Option.bind_some, grd_of (by omega)]; rfl
 ·cases hr : r with
  | nil => rw [hr] at h2; simp at h2
  | cons a r' =>
   have : a ∈ Lib.compact (sortI r) := (hm a).2 (by rw [hr]; exact List.mem_cons_self ..)
   rw [← hr]
   exact List.length_pos_of_mem this
theorem hist_loop {base : List Fact} {key : List UInt8} {known : Int} {y2 x1 : List Int} (hg : ∀ f ∈ base, goodF f) (hy : y2.length = x1.length + 1) (hx : x1.length ≤ 100) (hd : ∀ x ∈ y2, I64 x) (hd1 : ∀ x ∈ x1, I64 x) :
  ∀ (n i K : Nat) (was : Int) (out : List Fact), i + n = x1.length → n < K → out.length ≤ i → (was ≥ 0 → out ≠ []) → (∀ f ∈ out, goodF f) → ∃ r, s_fact_History_L1 base key known y2 x1 K (was, (i : Int), out) = some r ∧ r.length ≤ x1.length ∧ ∀ f ∈ r, goodF f
 | 0, i, K, was, out, hi, hK, ho, hw, hgo => by
  obtain ⟨K, rfl⟩ : ∃ K', K = K' + 1 := ⟨K - 1, by omega⟩
  rw [s_fact_History_L1, decide_eq_false (by simp only; omega), cond_false]
  exact ⟨out, rfl, by omega, hgo⟩
 | n + 1, i, K, was, out, hi, hK, ho, hw, hgo => by
  obtain ⟨K, rfl⟩ : ∃ K', K = K' + 1 := ⟨K - 1, by omega⟩
  have hl : i < x1.length := by omega
  rw [s_fact_History_L1, decide_eq_true (by simp only; omega), cond_true]
  simp only
  rw [idx_of hl, Option.bind_some, s_counts, Option.bind_some, w64_id (n := (i : Int) + 1) (by omega) (by omega), show ((i : Int) + 1) = ((i + 1 : Nat) : Int) by omega, idx_of (show i + 1 < y2.length by omega), Option.bind_some]
  have hx2 : I64 (x1.getD i default) := hd1 _ (getD_mem hl)
  have hx3 : I64 (y2.getD (i + 1) default) := hd _ (getD_mem (by omega))
  have hv2 : ∃ v2, (bif decide (y2.getD (i + 1) default > 1073741824) then some (0 : Int) else some (y2.getD (i + 1) default)) = some v2 ∧ I64 v2 := by
   cases decide (y2.getD (i + 1) default > 1073741824) with
   | true => exact ⟨0, rfl, ⟨by omega, by omega⟩⟩
   | false => exact ⟨_, rfl, hx3⟩
  obtain ⟨v2, e2, g2⟩ := hv2
  rw [e2, Option.bind_some]
  by_cases hc : countsV base key (x1.getD i default) known ≥ 0
  ·have hlt := countsV_lt base key (x1.getD i default) known (by omega)
   have hix := idx_of hlt
   rw [show (((countsV base key (x1.getD i default) known).toNat : Nat) : Int) = countsV base key (x1.getD i default) known by omega] at hix
   have hgb := hg _ (getD_mem hlt)
   rw [decide_eq_true hc]
   by_cases hwas : countsV base key (x1.getD i default) known = was
   ·have hne := hw (by omega)
    have hpos : 0 < out.length := List.length_pos_iff.2 hne
    rw [decide_eq_true hwas, w64_id (n := (out.length : Int) - 1) (by omega) (by omega)]
    simp only [cond_true, Option.bind_some]
    rw [grd_of ⟨by omega, by omega⟩]
    simp only [Option.bind_some]
    have hlast := hgo _ (getD_mem (l := out) (i := ((out.length : Int) - 1).toNat) (by omega))
    exact hist_loop hg hy hx hd hd1 n (i + 1) K _ _ (by omega) (by omega) (by rw [List.length_set]; omega) (fun _ h => by
     have := congrArg List.length h
     rw [List.length_set, List.length_nil] at this; omega) (fun f hf => by
     rcases List.mem_or_eq_of_mem_set hf with hf | rfl
     ·exact hgo f hf
     ·exact ⟨hlast.1, hlast.2.1, g2, hlast.2.2.2⟩)
   ·rw [decide_eq_false hwas]
    simp only [cond_true, cond_false, Option.bind_some]
    rw [hix]
    simp only [Option.bind_some]
    rw [grd_of (by simp; omega)]
    simp only [Option.bind_some]
    exact hist_loop hg hy hx hd hd1 n (i + 1) K _ _ (by omega) (by omega) (by simp; omega) (fun _ => by simp) (fun f hf => by
     simp only [List.mem_append, List.mem_singleton] at hf
     rcases hf with hf | rfl
     ·exact hgo f hf
     ·exact ⟨hgb.1, hx2, g2, hgb.2.2.2⟩)
  ·rw [decide_eq_false hc]
   simp only [cond_false, Option.bind_some]
   exact hist_loop hg hy hx hd hd1 n (i + 1) K _ _ (by omega) (by omega) (by omega) (fun h => absurd h hc) hgo
theorem history_ex {base : List Fact} (key : List UInt8) (known : Int) (h : base.length ≤ 16) (hg : ∀ f ∈ base, goodF f) : ∃ l, s_fact_History base key known = some l ∧ l.length ≤ 100 ∧ ∀ f ∈ l, goodF f := by
 unfold s_fact_History
 rw [s_Right (by omega), Option.bind_some]
 cases rightB base with
 | false => exact ⟨[], rfl, by simp, fun f hf => by cases hf⟩
 | true =>
  obtain ⟨d, h1, h2, h3, h4⟩ := days_ex key h hg
  have hc : cut d 0 (w64 ((d.length : Int) - 1)) = some (d.take (d.length - 1)) := by
   rw [w64_id (by omega) (by omega), show (d.length : Int) - 1 = ((d.length - 1 : Nat) : Int) by omega]
   unfold cut
   rw [if_pos ⟨by omega, by omega, by omega⟩, Int.toNat_natCast]; rfl
  obtain ⟨r, e1, e2, e3⟩ := hist_loop (key := key) (known := known) (y2 := d) (x1 := d.take (d.length - 1)) hg (by simp; omega) (by simp; omega) h4 (fun x hx => h4 x (List.mem_of_mem_take hx)) (d.take (d.length - 1)).length 0 KK (-1) [] (by omega) (by simp; have := KK_big; omega) (by simp) (fun h => by omega) (fun f hf => by cases hf)
  simp only [Bool.not_true, cond_false, h1, Option.bind_some]
  rw [hc, Option.bind_some]
  rw [show ((0 : Nat) : Int) = 0 from rfl] at e1
  rw [e1]
  refine ⟨r, rfl, ?_, e3⟩
  rw [List.length_take] at e2; omega
end Go.Proofs.YtpabacdeogeehaaGreatDoor
