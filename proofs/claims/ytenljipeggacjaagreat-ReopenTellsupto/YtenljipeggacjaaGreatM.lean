/- ReopenTells is true, of formulas that weigh little. -/
import Derived.Test.YtenljipeggacjaaGreatVb
set_option linter.all false
set_option maxRecDepth 100000
namespace Go.Proofs.YtenljipeggacjaaGreat
open Go Go.RowKit Go.Eng Go.EV
variable [Fuel]
def okW (f : Formula) : Prop := okF f ∧ wtE f.Body ≤ 1048576
theorem okW.few {f : Formula} (h : okW f) : (namesL f.Body).length ≤ 1000000 := by
 have := names_wt _ f.Body (Nat.le_refl _)
 have := h.2
 omega
theorem ask_lenW {base : List Fact} {f : Formula} {known : Int} (h : okW f) : (askF base f known).length ≤ 1000000 := by
 have h1 := h.few
 have h2 := len_namesV f.Body
 unfold askF
 rw [List.length_map]; omega
theorem s_Ask45 {base : List Fact} {f : Formula} {known : Int} (h : base.length < 2 ^ 62) (hw : wtE f.Body ≤ 1048576) : s_greenbeltref45_Ask base f known = some (askF base f known) := by
 have h1 := names_wt _ f.Body (Nat.le_refl _)
 have hn := len_namesV f.Body
 unfold s_greenbeltref45_Ask askF
 rw [s_NamesR hw, Option.bind_some]
 have key := fold_loopO (L := s_greenbeltref45_Ask_L1 base f known (namesV f.Body)) (l := namesV f.Body) (fun x s => (grd ((s ++ [lookF base x f.Day known]).length * 40 ≤ 140737488355328)).bind fun _ => some (s ++ [lookF base x f.Day known])) id (by omega) (fun K i s => by
  rw [s_greenbeltref45_Ask_L1]
  simp only [s_At44 h, Option.bind_some]
  cases decide (i < ((namesV f.Body).length : Int)) with
  | false => rfl
  | true =>
   simp only [cond_true]
   cases idx (namesV f.Body) i with
   | none => rfl
   | some x =>
    simp only [Option.bind_some]
    show (grd ((s ++ [lookF base x f.Day known]).length * 40 ≤ 140737488355328)).bind _ = _
    cases grd ((s ++ [lookF base x f.Day known]).length * 40 ≤ 140737488355328) <;> rfl) (namesV f.Body).length 0 KK [] (by omega) (by have := KK_big; omega)
 rw [show ((0 : Nat) : Int) = 0 from rfl] at key
 rw [key, List.drop_zero, foldlM_push (fun s => lookF base s f.Day known) 40 140737488355328 _ _ (by simp; omega)]
 simp
theorem value_L1_eq (told : List Asked) : ∀ (K : Nat) (q : Int × List Entry), s_greenbeltref45_Value_L1 told K q = s_reopen_value_L1 told K q
 | 0, q => rfl
 | K + 1, q => by
  rw [s_greenbeltref45_Value_L1, s_reopen_value_L1]
  cases decide (q.1 < (told.length : Int)) with
  | false => rfl
  | true =>
   simp only [cond_true]
   cases hi : idx told q.1 with
   | none => rfl
   | some x =>
    simp only [Option.bind_some]
    cases x.There with
    | false => simp only [cond_false, Option.bind_some]; exact value_L1_eq told K _
    | true =>
     simp only [cond_true]
     cases grd ((q.2 ++ [Entry.mk x.Key x.Value]).length * 24 ≤ 140737488355328) with
     | none => rfl
     | some u => simp only [Option.bind_some]; exact value_L1_eq told K _
theorem entries_ex {told : List Asked} (h : told.length ≤ 1000000) : ∃ s', s_reopen_value_L1 told KK (0, []) = some s' ∧ s'.length ≤ told.length := by
 have key := fold_loopO (L := s_reopen_value_L1 told) (l := told) (fun x s => bif x.There then (grd ((s ++ [Entry.mk x.Key x.Value]).length * 24 ≤ 140737488355328)).bind fun _ => some (s ++ [Entry.mk x.Key x.Value]) else some s) id (by omega) (fun K i s => by
  rw [s_reopen_value_L1]
  cases decide (i < (told.length : Int)) with
  | false => rfl
  | true =>
   simp only [cond_true]) told.length 0 KK [] (by omega) (by have := KK_big; omega)
 obtain ⟨s', h1, h2⟩ := foldlM_ex List.length (f := fun (s : List Entry) (x : Asked) => bif x.There then (grd ((s ++ [Entry.mk x.Key x.Value]).length * 24 ≤ 140737488355328)).bind fun _ => some (s ++ [Entry.mk x.Key x.Value]) else some s) 1000000 told [] (by simpa using h) (fun x s hs => by
  cases x.There
  ·exact ⟨_, rfl, by simp⟩
  ·rw [cond_true, grd_of (by simp; omega)]
   exact ⟨_, rfl, by simp⟩)
 rw [List.drop_zero, h1, Option.map_some, show ((0 : Nat) : Int) = 0 from rfl] at key
 exact ⟨s', key, by simpa using h2⟩
theorem s_Value45 {base : List Fact} {f : Formula} {known : Int} (h : base.length < 2 ^ 62) (hw : okW f) : s_greenbeltref45_Value base f known = some (valE f.Body (askF base f known)) := by
 have hl := ask_lenW (base := base) (known := known) hw
 obtain ⟨s', h1, h2⟩ := entries_ex hl
 have hv := s_value f hl
 unfold s_reopen_value at hv
 unfold s_greenbeltref45_Value
 rw [s_Ask45 h hw.2, Option.bind_some, value_L1_eq, h1, Option.bind_some, show Plan.mk [] [] [] [] [] [] [] 0 = plan0 from rfl, eval17 (by omega)]
 rw [h1, Option.bind_some, show Plan.mk [] [] [] [] [] [] [] 0 = plan0 from rfl] at hv
 exact hv
theorem s_Make45 {base : List Fact} {f : Formula} (h : base.length < 2 ^ 62) (hw : okW f) : s_greenbeltref45_Make base f = some (if rightB base = true ∧ RightB f = true then (makeF base f, 0) else (bad0, 1)) := by
 unfold s_greenbeltref45_Make
 rw [s_Right44 h, s_Right45, Option.bind_some]
 cases hb : rightB base with
 | false => rw [if_neg (by simp)]; rfl
 | true =>
  cases hf : RightB f with
  | false => rw [if_neg (by simp)]; rfl
  | true =>
   rw [if_pos ⟨rfl, rfl⟩, s_Value45 h hw]
   simp only [Bool.not_true, cond_false, Option.bind_some]
   rw [s_Ask45 (f := Formula.mk f.Id f.Day f.Known f.Body (valE f.Body (askF base f f.Known)) f.Asked) h hw.2]
   rfl
theorem s_Holds45 {base : List Fact} {f : Formula} (h : base.length < 2 ^ 62) (hw : okW f) : s_greenbeltref45_Holds base f = some (holdsB base f) := by
 unfold s_greenbeltref45_Holds holdsB
 rw [s_Make45 h hw, Option.bind_some]
 cases hb : rightB base with
 | false => rw [if_neg (by simp)]; rfl
 | true =>
  cases hf : RightB f with
  | false => rw [if_neg (by simp)]; rfl
  | true =>
   rw [if_pos ⟨rfl, rfl⟩]
   have : (makeF base f).Asked.length < 2 ^ 62 := by have := ask_lenW (base := base) (known := f.Known) hw; show (askF base f f.Known).length < _; omega
   simp only [s_Same this]
   cases decide ((makeF base f).Result = f.Result) <;> rfl
theorem s_Stale45 {base : List Fact} {f : Formula} {known : Int} (h : base.length < 2 ^ 62) (hl : f.Asked.length ≤ 1000000) : s_greenbeltref45_Stale base f known = some (staleF base f.Asked known) := by
 have key := fold_loopO (L := s_greenbeltref45_Stale_L1 base f known) (l := f.Asked) (fun x s => bif (!decide (lookF base x.Key x.Day known = x)) then (grd ((s ++ [x.Key]).length * 16 ≤ 140737488355328)).bind fun _ => some (s ++ [x.Key]) else some s) id (by omega) (fun K i s => by
  rw [s_greenbeltref45_Stale_L1]
  simp only [s_At44 h, Option.bind_some]
  cases decide (i < (f.Asked.length : Int)) with
  | false => rfl
  | true =>
   simp only [cond_true]
   cases idx f.Asked i with
   | none => rfl
   | some x =>
    simp only [Option.bind_some]
    have hx : (bif (!decide ((atF base x.Key x.Day known).1 = x.Value)) then some true else some (!((atF base x.Key x.Day known).2 == x.There))) = some (!decide (lookF base x.Key x.Day known = x)) := by
     rw [← asked_eq]
     simp only [lookF, decide_true, Bool.true_and]
     by_cases hv : (atF base x.Key x.Day known).1 = x.Value
     ·simp [hv]
     ·simp [hv]
    rw [hx, Option.bind_some]) f.Asked.length 0 KK [] (by omega) (by have := KK_big; omega)
 rw [List.drop_zero, stale_fold _ _ (by simp; omega), Option.map_some, show ((0 : Nat) : Int) = 0 from rfl] at key
 unfold s_greenbeltref45_Stale
 rw [key]; rfl
theorem whichV_len {α : Type} (p : α → Bool) : ∀ (l : List α) (i : Int), (whichV p i l).length ≤ l.length
 | [], i => by simp [whichV]
 | x :: l, i => by
  have := whichV_len p l (i + 1)
  rw [whichV]
  split
  ·simp; omega
  ·simp; omega
theorem pick_loop {α : Type} [Inhabited α] {L : Nat → Int × List Int → Option (List Int)} {l : List α} (p : α → Bool)
  (heq : ∀ K (i : Nat) s, i < l.length → s.length ≤ i → L (K + 1) ((i : Int), s) = L K (((i + 1 : Nat) : Int), if p (l.getD i default) then s ++ [(i : Int)] else s)) (hend : ∀ K s, L (K + 1) ((l.length : Int), s) = some s) :
  ∀ (n i K : Nat) (s : List Int), i + n = l.length → n < K → s.length ≤ i → L K ((i : Int), s) = some (s ++ whichV p i (l.drop i))
 | 0, i, K, s, h, hK, _ => by
  obtain ⟨K, rfl⟩ : ∃ K', K = K' + 1 := ⟨K - 1, by omega⟩
  rw [show i = l.length by omega, hend, List.drop_length, whichV, List.append_nil]
 | n + 1, i, K, s, h, hK, hs => by
  obtain ⟨K, rfl⟩ : ∃ K', K = K' + 1 := ⟨K - 1, by omega⟩
  rw [heq K i s (by omega) hs, drop_cons (by omega), whichV]
  cases hp : p (l.getD i default) with
  | true =>
   rw [if_pos rfl, if_pos rfl, pick_loop p heq hend n (i + 1) K _ (by omega) (by omega) (by simp; omega)]
   simp
  | false =>
   rw [if_neg (by simp), if_neg (by simp), pick_loop p heq hend n (i + 1) K _ (by omega) (by omega) (by omega)]
   simp
theorem s_Touched45 {base : List Fact} {l : List Formula} {known : Int} (h : base.length < 2 ^ 62) (hl : l.length ≤ 1000) (hk : ∀ f ∈ l, f.Asked.length ≤ 1000000) : s_greenbeltref45_Touched base l known = some (whichV (touchB base known) 0 l) := by
 unfold s_greenbeltref45_Touched
 have key := pick_loop (L := s_greenbeltref45_Touched_L1 base l known) (l := l) (touchB base known) (fun K i s hi hs => by
  rw [s_greenbeltref45_Touched_L1, decide_eq_true (by simp only; omega), cond_true, idx_of hi, Option.bind_some]
  simp only
  rw [s_Stale45 h (hk _ (getD_mem hi)), Option.bind_some, w64_id (by omega) (by omega), show ((i : Int) + 1) = ((i + 1 : Nat) : Int) by omega]
  rw [grd_of (show (s ++ [(i : Int)]).length * 8 ≤ 140737488355328 by simp; omega), show decide (((staleF base (l.getD i default).Asked known).length : Int) > 0) = touchB base known (l.getD i default) from decide_eq_decide.2 (by omega)]
  cases touchB base known (l.getD i default) <;> rfl) (fun K s => by
  rw [s_greenbeltref45_Touched_L1, decide_eq_false (by simp only; omega), cond_false]) l.length 0 KK [] (by omega) (by have := KK_big; omega) (by simp)
 rw [show ((0 : Nat) : Int) = 0 from rfl] at key
 rw [key]
 rfl
theorem s_Reopened45 {base : List Fact} {l : List Formula} {known : Int} (h : base.length < 2 ^ 62) (hl : l.length ≤ 1000) (hk : ∀ f ∈ l, okW f) : s_greenbeltref45_Reopened base l known = some (whichV (fun f => rightB base && outB base known f) 0 l) := by
 unfold s_greenbeltref45_Reopened
 have key := pick_loop (L := s_greenbeltref45_Reopened_L1 base l known) (l := l) (fun f => rightB base && outB base known f) (fun K i s hi hs => by
  rw [s_greenbeltref45_Reopened_L1, decide_eq_true (by simp only; omega), cond_true]
  simp only
  rw [idx_of hi, s_Right44 h]
  simp only [Option.bind_some, s_Right45]
  rw [s_Value45 h (hk _ (getD_mem hi)), w64_id (by omega) (by omega), show ((i : Int) + 1) = ((i + 1 : Nat) : Int) by omega, grd_of (show (s ++ [(i : Int)]).length * 8 ≤ 140737488355328 by simp; omega)]
  unfold outB
  cases rightB base with
  | false => rfl
  | true =>
   cases RightB (l.getD i default) with
   | false => rfl
   | true =>
    simp only [Option.bind_some, cond_true, Bool.true_and]
    cases decide (valE (l.getD i default).Body (askF base (l.getD i default) known) = (l.getD i default).Result) <;> rfl) (fun K s => by
  rw [s_greenbeltref45_Reopened_L1, decide_eq_false (by simp only; omega), cond_false]) l.length 0 KK [] (by omega) (by have := KK_big; omega) (by simp)
 rw [show ((0 : Nat) : Int) = 0 from rfl] at key
 rw [key]
 rfl
theorem which_and {α : Type} (b : Bool) (p : α → Bool) : ∀ (l : List α) (i : Int), whichV (fun x => b && p x) i l = if b = true then whichV p i l else []
 | [], i => by simp [whichV]
 | x :: l, i => by
  rw [whichV, whichV, which_and b p l]
  cases b <;> simp
theorem s_same {a : Formula} (h : a.Asked.length < 2 ^ 62) : s_greenbeltlaw45_same a a = some true := by
 unfold s_greenbeltlaw45_same
 rw [s_Same h, decide_eq_true rfl, decide_eq_true rfl, decide_eq_true rfl, decide_eq_true rfl, decide_eq_true rfl]; rfl
theorem few_loop2 {l : List Formula} (h : ∀ f ∈ l, okF f) : ∀ (n i K : Nat), i + n = 9 → n < K → ∃ r, s_greenbeltref45_Few_L1 l K (i : Int) = some r ∧ (∀ b, r = .inl b → b = false) ∧ (r = .inr () → ∀ j, i ≤ j → j < l.length → j ≤ 8 → (l.getD j default).Asked.length ≤ 20)
 | n, i, K, hi, hK => by
  obtain ⟨K, rfl⟩ : ∃ K', K = K' + 1 := ⟨K - 1, by omega⟩
  rw [s_greenbeltref45_Few_L1]
  by_cases h1 : i < l.length
  ·by_cases h2 : i ≤ 8
   ·obtain ⟨y, hy⟩ := size_ex _ _ (Nat.le_refl _) (h _ (getD_mem h1)).1 KK (h _ (getD_mem h1)).2
    rw [decide_eq_true (show (i : Int) < (l.length : Int) by omega), decide_eq_true (show (i : Int) ≤ 8 by omega), cond_true, Option.bind_some, cond_true, idx_of h1]
    simp only [Option.bind_some]
    rw [hy, Option.bind_some]
    obtain ⟨n, rfl⟩ : ∃ n', n = n' + 1 := ⟨n - 1, by omega⟩
    obtain ⟨r, hr, hb, hj⟩ := few_loop2 h n (i + 1) K (by omega) (by omega)
    rw [w64_id (by omega) (by omega), show ((i : Int) + 1) = ((i + 1 : Nat) : Int) by omega, hr]
    cases decide (y > 40) with
    | true => exact ⟨_, rfl, fun b e => by (cases e; rfl), fun e => by cases e⟩
    | false =>
     simp only [cond_false, Option.bind_some]
     by_cases h20 : (List.length (l.getD i default).Asked : Int) > 20
     ·rw [decide_eq_true h20]; exact ⟨_, rfl, fun b e => by (cases e; rfl), fun e => by cases e⟩
     ·rw [decide_eq_false h20]
      refine ⟨_, rfl, hb, fun e j h3 h4 h5 => ?_⟩
      by_cases hij : i = j
      ·subst hij; omega
      ·exact hj e j (by omega) h4 h5
   ·rw [decide_eq_true (show (i : Int) < (l.length : Int) by omega), decide_eq_false (show ¬ (i : Int) ≤ 8 by omega)]
    exact ⟨_, rfl, fun b e => by (cases e), fun _ j h3 h4 h5 => by omega⟩
  ·rw [decide_eq_false (show ¬ (i : Int) < (l.length : Int) by omega)]
   exact ⟨_, rfl, fun b e => by (cases e), fun _ j h3 h4 h5 => by omega⟩
theorem few_ex2 (base : List Fact) {l : List Formula} (h : ∀ f ∈ l, okF f) : ∃ b, s_greenbeltref45_Few base l = some b ∧ (b = true → base.length ≤ 30 ∧ l.length ≤ 8 ∧ ∀ f ∈ l, f.Asked.length ≤ 20) := by
 obtain ⟨r, hr, hb, hj⟩ := few_loop2 h 9 0 KK (by omega) (by have := KK_big; omega)
 rw [show ((0 : Nat) : Int) = 0 from rfl] at hr
 unfold s_greenbeltref45_Few
 rw [hr, Option.bind_some]
 cases r with
 | inl b => exact ⟨b, rfl, fun e => by have := hb b rfl; rw [e] at this; cases this⟩
 | inr u =>
  by_cases h1 : base.length ≤ 30
  ·refine ⟨decide ((List.length l : Int) ≤ 8), by rw [decide_eq_true (show (base.length : Int) ≤ 30 by omega)]; rfl, fun e => ?_⟩
   have := of_decide_eq_true e
   refine ⟨h1, by omega, fun f hf => ?_⟩
   obtain ⟨j, hjl, rfl⟩ := List.getElem_of_mem hf
   have := hj rfl j (by omega) hjl (by omega)
   rwa [List.getD_eq_getElem?_getD, List.getElem?_eq_getElem hjl] at this
  ·exact ⟨false, by rw [decide_eq_false (show ¬ (base.length : Int) ≤ 30 by omega)]; rfl, fun e => by cases e⟩
theorem all_loop {T : Type} {L : Nat → Int → Option T} {len : Nat} {r : T} (heq : ∀ K (i : Nat), i < len → L (K + 1) (i : Int) = L K ((i + 1 : Nat) : Int)) (hend : ∀ K, L (K + 1) (len : Int) = some r) : ∀ (n i K : Nat), i + n = len → n < K → L K (i : Int) = some r
 | 0, i, K, h, hK => by
  obtain ⟨K, rfl⟩ : ∃ K', K = K' + 1 := ⟨K - 1, by omega⟩
  rw [show i = len by omega, hend]
 | n + 1, i, K, h, hK => by
  obtain ⟨K, rfl⟩ : ∃ K', K = K' + 1 := ⟨K - 1, by omega⟩
  rw [heq K i (by omega), all_loop heq hend n (i + 1) K (by omega) (by omega)]
theorem holds_made {base : List Fact} {f : Formula} (hb : rightB base = true) (hr : RightB f = true) : holdsB base (makeF base f) = true := by
 unfold holdsB
 have h1 : (makeF base (makeF base f)).Asked = (makeF base f).Asked := rfl
 have h2 : (makeF base (makeF base f)).Result = (makeF base f).Result := rfl
 rw [h1, h2, hb, show RightB (makeF base f) = true from hr, decide_eq_true rfl, decide_eq_true rfl]; rfl
theorem tells_L1 {base : List Fact} {l : List Formula} {known : Int} (h : base.length < 2 ^ 62) (hl : l.length ≤ 1000) (hk : ∀ f ∈ l, okW f ∧ f.Asked.length ≤ 1000000) : s_greenbeltlaw45_ReopenTells_L1 base l known KK 0 = some (.inr ()) := by
 have key := all_loop (L := s_greenbeltlaw45_ReopenTells_L1 base l known) (len := l.length) (r := .inr ()) (fun K i hi => by
  obtain ⟨hw, ha⟩ := hk _ (getD_mem hi)
  have hi0 := idx_of hi
  generalize l.getD i default = f at *
  have hok : okN f := hw.1.names
  have hm : ∀ kn, (askF base f kn).length < 2 ^ 62 := fun kn => by have := ask_lenW (base := base) (known := kn) hw; omega
  have hst : (staleF base f.Asked known).length < 2 ^ 62 := by
   unfold staleF
   have := List.length_filter_le (fun x => !decide (lookF base x.Key x.Day known = x)) f.Asked
   rw [List.length_map]; omega
  rw [s_greenbeltlaw45_ReopenTells_L1, decide_eq_true (by omega), cond_true, hi0]
  simp only [Option.bind_some]
  rw [s_Make h hok, s_Make45 h hw, s_rRight, s_Right45, s_Holds h hok, s_Holds45 h hw, s_Ask h hw.few hok, s_Ask45 h hw.2, s_Stale h ha, s_Stale45 h ha]
  simp only [Option.bind_some, beq_self_eq_true, Bool.not_true, cond_false]
  rw [s_Same (hm _), s_Texts hst, w64_id (by omega) (by omega), show ((i : Int) + 1) = ((i + 1 : Nat) : Int) by omega]
  simp only [eq_self, decide_true, Option.bind_some, Bool.not_true, cond_false]
  by_cases hg : rightB base = true ∧ RightB f = true
  ·rw [if_pos hg, s_same (hm f.Known)]
   simp only [Option.bind_some, Bool.not_true, cond_false, decide_true, cond_true]
   rw [s_Holds h (show okN (makeF base f) from hok), holds_made hg.1 hg.2]
   simp only [Option.bind_some, Bool.not_true, cond_false]
   have hn := hw.few
   rw [show (makeF base f).Body = f.Body from rfl, s_Names (by omega) hok]
   have he : ((namesV f.Body).length : Int) = ((makeF base f).Asked.length : Int) := by
    show ((namesV f.Body).length : Int) = ((askF base f f.Known).length : Int)
    unfold askF; rw [List.length_map]
   rw [Option.bind_some, decide_eq_true he]; rfl
  ·rw [if_neg hg, s_same (show bad0.Asked.length < 2 ^ 62 by decide)]; rfl) (fun K => by
  rw [s_greenbeltlaw45_ReopenTells_L1, decide_eq_false (by omega), cond_false]) l.length 0 KK (by omega) (by have := KK_big; omega)
 exact key
theorem tells_true {base : List Fact} {l : List Formula} (known : Int) (hf : ∀ f ∈ l, okW f) : s_greenbeltlaw45_ReopenTells base l known = some true := by
 obtain ⟨b, hb, hfew⟩ := few_ex2 base (fun f h => (hf f h).1)
 unfold s_greenbeltlaw45_ReopenTells
 rw [small_true, hb]
 simp only [Option.bind_some]
 cases b with
 | false => rfl
 | true =>
  obtain ⟨hbl, hll, hA⟩ := hfew rfl
  have hA' : ∀ f ∈ l, f.Asked.length ≤ 1000000 := fun f h => by have := hA f h; omega
  have w1 := whichV_len (touchB base known) l 0
  have w2 := whichV_len (outB base known) l 0
  simp only [Bool.not_true, cond_false]
  rw [tells_L1 (by omega) (by omega) (fun f h => ⟨hf f h, hA' f h⟩), s_Touched (by omega) (by omega) hA', s_Touched45 (by omega) (by omega) hA', s_Reopened (by omega) (by omega) (fun f h => (hf f h).1.names), s_Reopened45 (by omega) (by omega) hf, which_and]
  simp only [Option.bind_some, cond_true]
  rw [s_Ints (by omega), decide_eq_true rfl]
  simp only [Option.bind_some, cond_true]
  rw [s_Ints (by split <;> (try simp) <;> omega), decide_eq_true rfl]; rfl
#print axioms tells_true
end Go.Proofs.YtenljipeggacjaaGreat
