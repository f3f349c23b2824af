/- What Make, Stale, Touched and Reopened return. -/
import Derived.Test.YtenljipeggacjaaGreatU
set_option linter.all false
set_option maxRecDepth 100000
namespace Go.Proofs.YtenljipeggacjaaGreat
open Go Go.RowKit Go.Eng Go.EV
variable [Fuel]
theorem foldlM_ex {α S : Type} (len : S → Nat) {f : S → α → Option S} (c : Nat) : ∀ (l : List α) (s : S), len s + l.length ≤ c → (∀ x s, len s < c → ∃ s', f s x = some s' ∧ len s' ≤ len s + 1) → ∃ s', l.foldlM f s = some s' ∧ len s' ≤ len s + l.length
 | [], s, _, _ => ⟨s, rfl, by simp⟩
 | x :: l, s, h, hf => by
  rw [List.length_cons] at h
  obtain ⟨s', h1, h2⟩ := hf x s (by omega)
  obtain ⟨s2, h3, h4⟩ := foldlM_ex len c l s' (by omega) hf
  refine ⟨s2, by rw [List.foldlM_cons, h1]; exact h3, by rw [List.length_cons]; omega⟩
theorem order0 : s_define_Order plan0 = some ([], 0) := by
 obtain ⟨k, hk⟩ := KK_succ
 unfold s_define_Order s_define_newGraph s_define_graph_smallest s_define_graph_order
 rw [hk]; rfl
theorem prepare_ex {m : List Entry} (h : m.length < 2 ^ 62) : ∃ known, s_expr_prepare plan0 m [] = some (plan0, [], [], known) := by
 have key := fold_loopO (L := s_expr_prepare_L1 m) (l := m) (fun x s => bif (!(Option.getD (mfind x.Name s.1) false)) then some ((mset x.Name true s.1), (mset x.Name x.N s.2)) else some (s.1, s.2)) id h (fun K i s => by
  rw [s_expr_prepare_L1]
  cases decide (i < (m.length : Int)) with
  | false => rfl
  | true =>
   simp only [cond_true]) m.length 0 KK ([], []) (by omega) (by have := KK_big; omega)
 obtain ⟨s', h1, _⟩ := foldlM_ex (fun _ => 0) (f := fun (s : List (List UInt8 × Bool) × List (List UInt8 × Int)) (x : Entry) => bif (!(Option.getD (mfind x.Name s.1) false)) then some ((mset x.Name true s.1), (mset x.Name x.N s.2)) else some (s.1, s.2)) (m.length + 1) m ([], []) (by simp) (fun x s _ => by
  cases Option.getD (mfind x.Name s.1) false
  ·exact ⟨_, rfl, by simp⟩
  ·exact ⟨_, rfl, by simp⟩)
 obtain ⟨k, hk⟩ := KK_succ
 rw [List.drop_zero, h1, Option.map_some, show ((0 : Nat) : Int) = 0 from rfl] at key
 refine ⟨s'.2, ?_⟩
 unfold s_expr_prepare
 rw [key, Option.bind_some, order0, grd_of ⟨by decide, by decide, by decide⟩, Option.bind_some, Option.bind_some, hk]
 rfl
theorem eval_ex {m : List Entry} (h : m.length < 2 ^ 62) (e : Expr) : ∃ v, s_expr_Eval plan0 m [] e = some v := by
 unfold s_expr_Eval
 rw [s_exRight, Option.bind_some]
 by_cases hr : exRight e
 ·obtain ⟨known, hp⟩ := prepare_ex h
  obtain ⟨v, hv⟩ := value_total known 12 e KK (by omega) (by have := KK_big; omega) hr
  rw [decide_eq_true hr, hp]
  simp only [Bool.not_true, cond_false, Option.bind_some]
  rw [hv]; exact ⟨_, rfl⟩
 ·rw [decide_eq_false hr]; exact ⟨_, rfl⟩
theorem value_ex (f : Formula) {told : List Asked} (h : told.length ≤ 1000000) : ∃ v, s_reopen_value f told = some v := by
 have key := fold_loopO (L := s_reopen_value_L1 told) (l := told) (fun x s => bif x.There then (grd ((s ++ [Entry.mk x.Key x.Value]).length * 24 ≤ 140737488355328)).bind fun _ => some (s ++ [Entry.mk x.Key x.Value]) else some s) id (by omega) (fun K i s => by
  rw [s_reopen_value_L1]
  cases decide (i < (told.length : Int)) with
  | false => rfl
  | true =>
   simp only [cond_true]) told.length 0 KK [] (by omega) (by have := KK_big; omega)
 obtain ⟨s', h1, h2⟩ := foldlM_ex List.length (f := fun (s : List Entry) (x : Asked) => bif x.There then (grd ((s ++ [Entry.mk x.Key x.Value]).length * 24 ≤ 140737488355328)).bind fun _ => some (s ++ [Entry.mk x.Key x.Value]) else some s) 1000000 told [] (by simpa using h) (fun x s hs => by
  cases x.There
  ·exact ⟨_, rfl, by simp⟩
  ·rw [cond_true, grd_of (by simp; omega)]
   exact ⟨_, rfl, by simp⟩)
 obtain ⟨v, hv⟩ := eval_ex (m := s') (by simp at h2; omega) f.Body
 rw [List.drop_zero, h1, Option.map_some, show ((0 : Nat) : Int) = 0 from rfl] at key
 unfold s_reopen_value
 rw [key, Option.bind_some, show Plan.mk [] [] [] [] [] [] [] 0 = plan0 from rfl, id, hv]
 exact ⟨_, rfl⟩
def valE (e : Expr) (told : List Asked) : Int := (s_reopen_value ⟨0, 0, 0, e, 0, []⟩ told).getD 0
theorem s_value (f : Formula) {told : List Asked} (h : told.length ≤ 1000000) : s_reopen_value f told = some (valE f.Body told) := by
 obtain ⟨v, hv⟩ := value_ex f h
 have : s_reopen_value ⟨0, 0, 0, f.Body, 0, []⟩ told = s_reopen_value f told := rfl
 unfold valE
 rw [this, hv]; rfl
def RightB (f : Formula) : Bool := decide (exRight f.Body) && (decide (min f.Day f.Known ≥ 0) && decide (max f.Day f.Known ≤ 1073741824))
theorem s_rRight (f : Formula) : s_reopen_Right f = some (RightB f) := by
 unfold s_reopen_Right RightB
 rw [s_exRight, Option.bind_some]
 cases decide (exRight f.Body) <;> cases decide (min f.Day f.Known ≥ 0) <;> rfl
theorem RightB_ex {f : Formula} (h : RightB f = true) : exRight f.Body := by
 unfold RightB at h
 rw [Bool.and_eq_true, decide_eq_true_eq] at h
 exact h.1
def okN (f : Formula) : Prop := ∀ k ∈ namesL f.Body, k.length ≤ 9223372036854775807
def makeF (base : List Fact) (f : Formula) : Formula := Formula.mk f.Id f.Day f.Known f.Body (valE f.Body (askF base f f.Known)) (askF base f f.Known)
theorem ask_len {base : List Fact} {f : Formula} {known : Int} (h : exRight f.Body) : (askF base f known).length ≤ 1000000 := by
 have h1 := names_few h
 have h2 := len_namesV f.Body
 unfold askF
 rw [List.length_map]; omega
def bad0 : Formula := Formula.mk 0 0 0 (Expr.mk 0 0 [] [] []) 0 []
theorem s_Make {base : List Fact} {f : Formula} (h : base.length < 2 ^ 62) (hk : okN f) : s_reopen_Make base f = some (if rightB base = true ∧ RightB f = true then (makeF base f, 0) else (bad0, 1)) := by
 unfold s_reopen_Make
 rw [s_Right h, s_rRight, Option.bind_some]
 cases hb : rightB base with
 | false => rw [if_neg (by simp)]; rfl
 | true =>
  cases hf : RightB f with
  | false => rw [if_neg (by simp)]; rfl
  | true =>
   have hr := RightB_ex hf
   rw [if_pos ⟨rfl, rfl⟩, s_Ask h (names_few hr) hk]
   simp only [Bool.not_true, cond_false, Option.bind_some]
   rw [s_value _ (ask_len hr)]
   rfl
theorem asked_eq (x y : Asked) : (decide (x.Key = y.Key) && (decide (x.Day = y.Day) && (decide (x.Value = y.Value) && (x.There == y.There)))) = decide (x = y) := by
 obtain ⟨a, b, c, d⟩ := x
 obtain ⟨a', b', c', d'⟩ := y
 by_cases h1 : a = a' <;> by_cases h2 : b = b' <;> by_cases h3 : c = c' <;> cases d <;> cases d' <;> simp [h1, h2, h3]
def staleF (base : List Fact) (l : List Asked) (known : Int) : List (List UInt8) := (l.filter fun x => !decide (lookF base x.Key x.Day known = x)).map (·.Key)
theorem stale_fold {base : List Fact} {known : Int} : ∀ (l : List Asked) (s : List (List UInt8)), (s.length + l.length) * 16 ≤ 140737488355328 →
  l.foldlM (m := Option) (fun s x => bif (!decide (lookF base x.Key x.Day known = x)) then (grd ((s ++ [x.Key]).length * 16 ≤ 140737488355328)).bind fun _ => some (s ++ [x.Key]) else some s) s = some (s ++ staleF base l known)
 | [], s, _ => by simp [staleF]
 | x :: l, s, h => by
  rw [List.length_cons] at h
  rw [List.foldlM_cons]
  cases hd : decide (lookF base x.Key x.Day known = x) with
  | true =>
   rw [Bool.not_true, cond_false]
   show List.foldlM _ s l = _
   rw [stale_fold l s (by omega)]
   simp [staleF, List.filter_cons, hd]
  | false =>
   rw [Bool.not_false, cond_true, grd_of (by simp; omega)]
   show List.foldlM _ (s ++ [x.Key]) l = _
   rw [stale_fold l _ (by simp; omega)]
   simp [staleF, List.filter_cons, hd]
theorem s_Stale {base : List Fact} {f : Formula} {known : Int} (h : base.length < 2 ^ 62) (hl : f.Asked.length ≤ 1000000) : s_reopen_Stale base f known = some (staleF base f.Asked known) := by
 have key := fold_loopO (L := s_reopen_Stale_L1 base f known) (l := f.Asked) (fun x s => bif (!decide (lookF base x.Key x.Day known = x)) then (grd ((s ++ [x.Key]).length * 16 ≤ 140737488355328)).bind fun _ => some (s ++ [x.Key]) else some s) id (by omega) (fun K i s => by
  rw [s_reopen_Stale_L1]
  simp only [s_look h, Option.bind_some, asked_eq]
  cases decide (i < (f.Asked.length : Int)) with
  | false => rfl
  | true =>
   simp only [cond_true]) f.Asked.length 0 KK [] (by omega) (by have := KK_big; omega)
 rw [List.drop_zero, stale_fold _ _ (by simp; omega), Option.map_some, show ((0 : Nat) : Int) = 0 from rfl] at key
 unfold s_reopen_Stale
 rw [key]; rfl
def whichV {α : Type} (p : α → Bool) : Int → List α → List Int
 | _, [] => []
 | i, x :: r => if p x then i :: whichV p (i + 1) r else whichV p (i + 1) r
theorem which_loop {α A B : Type} [Inhabited α] {L : Nat → Int × A × B × List Int → Option (A × B × List Int)} {l : List α} (p : α → Bool) (a : A) (b : B)
  (heq : ∀ K (i : Nat) s, i < l.length → s.length ≤ i → L (K + 1) ((i : Int), a, b, s) = L K (((i + 1 : Nat) : Int), a, b, if p (l.getD i default) then s ++ [(i : Int)] else s)) (hend : ∀ K s, L (K + 1) ((l.length : Int), a, b, s) = some (a, b, s)) :
  ∀ (n i K : Nat) (s : List Int), i + n = l.length → n < K → s.length ≤ i → L K ((i : Int), a, b, s) = some (a, b, s ++ whichV p i (l.drop i))
 | 0, i, K, s, h, hK, _ => by
  obtain ⟨K, rfl⟩ : ∃ K', K = K' + 1 := ⟨K - 1, by omega⟩
  rw [show i = l.length by omega, hend, List.drop_length, whichV, List.append_nil]
 | n + 1, i, K, s, h, hK, hs => by
  obtain ⟨K, rfl⟩ : ∃ K', K = K' + 1 := ⟨K - 1, by omega⟩
  rw [heq K i s (by omega) hs, drop_cons (by omega), whichV]
  cases hp : p (l.getD i default) with
  | true =>
   rw [if_pos rfl, if_pos rfl, which_loop p a b heq hend n (i + 1) K _ (by omega) (by omega) (by simp; omega)]
   simp
  | false =>
   rw [if_neg (by simp), if_neg (by simp), which_loop p a b heq hend n (i + 1) K _ (by omega) (by omega) (by omega)]
   simp
def outB (base : List Fact) (known : Int) (f : Formula) : Bool := RightB f && !decide (valE f.Body (askF base f known) = f.Result)
theorem s_out {base : List Fact} {f : Formula} {known : Int} (h : base.length < 2 ^ 62) (hk : okN f) : s_reopen_Reopened_1 f base known = some (outB base known f, base, known) := by
 unfold s_reopen_Reopened_1 outB
 rw [s_rRight, Option.bind_some]
 cases hf : RightB f with
 | false => rfl
 | true =>
  have hr := RightB_ex hf
  rw [cond_true, s_Ask h (names_few hr) hk, Option.bind_some, s_value _ (ask_len hr)]; rfl
def touchB (base : List Fact) (known : Int) (f : Formula) : Bool := decide ((staleF base f.Asked known).length > 0)
theorem s_touch {base : List Fact} {f : Formula} {known : Int} (h : base.length < 2 ^ 62) (hl : f.Asked.length ≤ 1000000) : s_reopen_Touched_1 f base known = some (touchB base known f, base, known) := by
 unfold s_reopen_Touched_1 touchB
 rw [s_Stale h hl, Option.bind_some]
 congr 2
 exact decide_eq_decide.2 (by omega)
theorem getD_mem {α : Type} [Inhabited α] {l : List α} {i : Nat} (h : i < l.length) : l.getD i default ∈ l := by
 rw [List.getD_eq_getElem?_getD, List.getElem?_eq_getElem h]; exact List.getElem_mem _
theorem s_Reopened {base : List Fact} {l : List Formula} {known : Int} (h : base.length < 2 ^ 62) (hl : l.length ≤ 1000) (hk : ∀ f ∈ l, okN f) : s_reopen_Reopened base l known = some (if rightB base then whichV (outB base known) 0 l else []) := by
 unfold s_reopen_Reopened s_reopen_which
 rw [s_Right h, Option.bind_some]
 have key := which_loop (L := s_reopen_which_L1 l) (l := l) (outB base known) base known (fun K i s hi hs => by
  rw [s_reopen_which_L1, decide_eq_true (by omega), cond_true, idx_of hi, Option.bind_some]
  simp only
  rw [s_out h (hk _ (getD_mem hi)), Option.bind_some, w64_id (by omega) (by omega), show ((i : Int) + 1) = ((i + 1 : Nat) : Int) by omega]
  simp only
  rw [grd_of (show (s ++ [(i : Int)]).length * 8 ≤ 140737488355328 by simp; omega)]
  cases outB base known (l.getD i default) <;> rfl) (fun K s => by
  rw [s_reopen_which_L1, decide_eq_false (by omega), cond_false]) l.length 0 KK [] (by omega) (by have := KK_big; omega) (by simp)
 rw [show ((0 : Nat) : Int) = 0 from rfl] at key
 rw [key]
 cases rightB base <;> rfl
theorem s_Touched {base : List Fact} {l : List Formula} {known : Int} (h : base.length < 2 ^ 62) (hl : l.length ≤ 1000) (hk : ∀ f ∈ l, f.Asked.length ≤ 1000000) : s_reopen_Touched base l known = some (whichV (touchB base known) 0 l) := by
 unfold s_reopen_Touched s_reopen_which_2
 have key := which_loop (L := s_reopen_which_2_L1 l) (l := l) (touchB base known) base known (fun K i s hi hs => by
  rw [s_reopen_which_2_L1, decide_eq_true (by omega), cond_true, idx_of hi, Option.bind_some]
  simp only
  rw [s_touch h (hk _ (getD_mem hi)), Option.bind_some, w64_id (by omega) (by omega), show ((i : Int) + 1) = ((i + 1 : Nat) : Int) by omega]
  simp only
  rw [grd_of (show (s ++ [(i : Int)]).length * 8 ≤ 140737488355328 by simp; omega)]
  cases touchB base known (l.getD i default) <;> rfl) (fun K s => by
  rw [s_reopen_which_2_L1, decide_eq_false (by omega), cond_false]) l.length 0 KK [] (by omega) (by have := KK_big; omega) (by simp)
 rw [show ((0 : Nat) : Int) = 0 from rfl] at key
 rw [key]
 rfl
theorem eq_loop {α : Type} [Inhabited α] [DecidableEq α] {L : Nat → Int → Option (Bool ⊕ Unit)} {a b : List α} (hab : a.length = b.length) (hl : a.length < 2 ^ 62)
  (heq : ∀ K i, L (K + 1) i = (bif decide (i < (a.length : Int)) then (idx a i).bind fun x => (idx b i).bind fun y => bif (!decide (x = y)) then some (.inl false) else L K (w64 (i + 1)) else some (.inr ()))) :
  ∀ (n i K : Nat), i + n = a.length → n < K → L K (i : Int) = some (if a.drop i = b.drop i then .inr () else .inl false)
 | 0, i, K, h, hK => by
  obtain ⟨K, rfl⟩ : ∃ K', K = K' + 1 := ⟨K - 1, by omega⟩
  rw [heq, decide_eq_false (by omega), cond_false, List.drop_of_length_le (by omega), List.drop_of_length_le (by omega), if_pos rfl]
 | n + 1, i, K, h, hK => by
  obtain ⟨K, rfl⟩ : ∃ K', K = K' + 1 := ⟨K - 1, by omega⟩
  have hi : i < a.length := by omega
  rw [heq, decide_eq_true (by omega), cond_true, idx_of hi, idx_of (l := b) (i := i) (by omega), Option.bind_some, Option.bind_some, w64_id (by omega) (by omega), show ((i : Int) + 1) = ((i + 1 : Nat) : Int) by omega, eq_loop hab hl heq n (i + 1) K (by omega) (by omega), drop_cons hi, drop_cons (l := b) (i := i) (by omega)]
  by_cases hx : a.getD i default = b.getD i default
  ·rw [decide_eq_true hx, hx]; simp only [Bool.not_true, cond_false, List.cons.injEq, true_and]
  ·rw [decide_eq_false hx]; simp only [Bool.not_false, cond_true, List.cons.injEq, hx, false_and, if_false]
theorem s_Same {a b : List Asked} (hl : a.length < 2 ^ 62) : s_greenbeltref45_SameAsked a b = some (decide (a = b)) := by
 unfold s_greenbeltref45_SameAsked
 by_cases hab : a.length = b.length
 ·have key := eq_loop (L := s_greenbeltref45_SameAsked_L1 a b) hab hl (fun K i => by rw [s_greenbeltref45_SameAsked_L1]; simp only [asked_eq]) a.length 0 KK (by omega) (by have := KK_big; omega)
  rw [show ((0 : Nat) : Int) = 0 from rfl, List.drop_zero, List.drop_zero] at key
  rw [decide_eq_true (by omega), key]
  by_cases h : a = b
  ·rw [if_pos h, decide_eq_true h]; rfl
  ·rw [if_neg h, decide_eq_false h]; rfl
 ·rw [decide_eq_false (by omega), decide_eq_false (fun h => hab (congrArg _ h))]; rfl
theorem s_Equal {a b : List Asked} (hl : a.length < 2 ^ 62) : s_slices_Equal a b = some (decide (a = b)) := by
 unfold s_slices_Equal
 by_cases hab : a.length = b.length
 ·have key := eq_loop (L := s_slices_Equal_L1 a b) hab hl (fun K i => by rw [s_slices_Equal_L1]; simp only [asked_eq]) a.length 0 KK (by omega) (by have := KK_big; omega)
  rw [show ((0 : Nat) : Int) = 0 from rfl, List.drop_zero, List.drop_zero] at key
  rw [decide_eq_true (by omega), key]
  by_cases h : a = b
  ·rw [if_pos h, decide_eq_true h]; rfl
  ·rw [if_neg h, decide_eq_false h]; rfl
 ·rw [decide_eq_false (by omega), decide_eq_false (fun h => hab (congrArg _ h))]; rfl
theorem s_Ints {a b : List Int} (hl : a.length < 2 ^ 62) : s_greenbeltref45_Ints a b = some (decide (a = b)) := by
 unfold s_greenbeltref45_Ints
 by_cases hab : a.length = b.length
 ·have key := eq_loop (L := s_greenbeltref45_Ints_L1 a b) hab hl (fun K i => by rw [s_greenbeltref45_Ints_L1]) a.length 0 KK (by omega) (by have := KK_big; omega)
  rw [show ((0 : Nat) : Int) = 0 from rfl, List.drop_zero, List.drop_zero] at key
  rw [decide_eq_true (by omega), key]
  by_cases h : a = b
  ·rw [if_pos h, decide_eq_true h]; rfl
  ·rw [if_neg h, decide_eq_false h]; rfl
 ·rw [decide_eq_false (by omega), decide_eq_false (fun h => hab (congrArg _ h))]; rfl
theorem s_Texts {a b : List (List UInt8)} (hl : a.length < 2 ^ 62) : s_greenbeltref45_Texts a b = some (decide (a = b)) := by
 unfold s_greenbeltref45_Texts
 by_cases hab : a.length = b.length
 ·have key := eq_loop (L := s_greenbeltref45_Texts_L1 a b) hab hl (fun K i => by rw [s_greenbeltref45_Texts_L1]) a.length 0 KK (by omega) (by have := KK_big; omega)
  rw [show ((0 : Nat) : Int) = 0 from rfl, List.drop_zero, List.drop_zero] at key
  rw [decide_eq_true (by omega), key]
  by_cases h : a = b
  ·rw [if_pos h, decide_eq_true h]; rfl
  ·rw [if_neg h, decide_eq_false h]; rfl
 ·rw [decide_eq_false (by omega), decide_eq_false (fun h => hab (congrArg _ h))]; rfl
def holdsB (base : List Fact) (f : Formula) : Bool := rightB base && RightB f && decide ((makeF base f).Result = f.Result) && decide ((makeF base f).Asked = f.Asked)
theorem s_Holds {base : List Fact} {f : Formula} (h : base.length < 2 ^ 62) (hk : okN f) : s_reopen_Holds base f = some (holdsB base f) := by
 unfold s_reopen_Holds holdsB
 rw [s_Make h hk, Option.bind_some]
 cases hb : rightB base with
 | false => rw [if_neg (by simp)]; rfl
 | true =>
  cases hf : RightB f with
  | false => rw [if_neg (by simp)]; rfl
  | true =>
   rw [if_pos ⟨rfl, rfl⟩]
   have : (makeF base f).Asked.length < 2 ^ 62 := by have := ask_len (base := base) (known := f.Known) (RightB_ex hf); show (askF base f f.Known).length < _; omega
   simp only [s_Equal this]
   cases decide ((makeF base f).Result = f.Result) <;> rfl
theorem any_loop {α : Type} [Inhabited α] {L : Nat → Int → Option (Bool ⊕ Unit)} {l : List α} (test : α → Bool) (hl : l.length < 2 ^ 62)
  (heq : ∀ K i, L (K + 1) i = (bif decide (i < (l.length : Int)) then (idx l i).bind fun x => bif test x then some (.inl true) else L K (w64 (i + 1)) else some (.inr ()))) :
  ∀ (n i K : Nat), i + n = l.length → n < K → L K (i : Int) = some (bif (l.drop i).any test then .inl true else .inr ())
 | 0, i, K, h, hK => by
  obtain ⟨K, rfl⟩ : ∃ K', K = K' + 1 := ⟨K - 1, by omega⟩
  rw [heq, decide_eq_false (by omega), cond_false, List.drop_of_length_le (by omega)]; rfl
 | n + 1, i, K, h, hK => by
  obtain ⟨K, rfl⟩ : ∃ K', K = K' + 1 := ⟨K - 1, by omega⟩
  have hi : i < l.length := by omega
  rw [heq, decide_eq_true (by omega), cond_true, idx_of hi, Option.bind_some, w64_id (by omega) (by omega), show ((i : Int) + 1) = ((i + 1 : Nat) : Int) by omega, any_loop test hl heq n (i + 1) K (by omega) (by omega), drop_cons hi, List.any_cons]
  cases test (l.getD i default) <;> rfl
end Go.Proofs.YtenljipeggacjaaGreat
