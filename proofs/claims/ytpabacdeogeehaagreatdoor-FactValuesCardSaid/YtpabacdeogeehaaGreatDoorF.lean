/- Evaluation with an empty plan. -/
import Derived.Test.YtpabacdeogeehaaGreatDoorP
set_option linter.all false
set_option maxRecDepth 100000
namespace Go.Proofs.YtpabacdeogeehaaGreatDoor
open Go Go.RowKit Go.Eng Go.EV
variable [Fuel]
theorem KK_succ : ∃ k, KK = k + 10 := ⟨KK - 10, by have := KK_big; omega⟩
theorem fold_loopS {α S T : Type} [Inhabited α] {L : Nat → S × Int → Option T} {l : List α} (step : α → S → Option S) (fin : S → T) (hl : l.length < 2 ^ 62)
  (heq : ∀ K i s, L (K + 1) (s, i) = (bif decide (i < (l.length : Int)) then (idx l i).bind fun x => (step x s).bind fun s' => L K (s', w64 (i + 1)) else some (fin s))) :
  ∀ (n i K : Nat) (s : S), i + n = l.length → n < K → L K (s, (i : Int)) = ((l.drop i).foldlM (fun s x => step x s) s).map fin
 | 0, i, K, s, h, hK => by
  obtain ⟨K, rfl⟩ : ∃ K', K = K' + 1 := ⟨K - 1, by omega⟩
  rw [heq, decide_eq_false (by omega), cond_false, List.drop_of_length_le (by omega)]
  rfl
 | n + 1, i, K, s, h, hK => by
  obtain ⟨K, rfl⟩ : ∃ K', K = K' + 1 := ⟨K - 1, by omega⟩
  have hi : i < l.length := by omega
  rw [heq, decide_eq_true (by omega), cond_true, idx_of hi, Option.bind_some, w64_id (by omega) (by omega), show ((i : Int) + 1) = ((i + 1 : Nat) : Int) by omega, drop_cons hi, List.foldlM_cons]
  cases hs : step (l.getD i default) s with
  | none => rfl
  | some s' =>
   rw [Option.bind_some, fold_loopS step fin hl heq n (i + 1) K s' (by omega) (by omega)]
   rfl
def plan0 : Plan := Plan.mk [] [] [] [] [] [] [] 0
theorem order0 : s_define_Order plan0 = some ([], 0) := by
 obtain ⟨k, hk⟩ := KK_succ
 unfold s_define_Order s_define_newGraph s_define_graph_smallest s_define_graph_order
 rw [hk]; rfl
theorem getD_mem {α : Type} [Inhabited α] {l : List α} {i : Nat} (h : i < l.length) : l.getD i default ∈ l := by
 rw [List.getD_eq_getElem?_getD, List.getElem?_eq_getElem h]; exact List.getElem_mem _
theorem mfind_mset {α β : Type} [DecidableEq α] (a c : α) (b : β) : ∀ l : List (α × β), mfind c (mset a b l) = if c = a then some b else mfind c l
 | [] => by
  rw [mset, mfind]
  rfl
 | (k, d) :: r => by
  have ih := mfind_mset a c b r
  rw [mset]
  by_cases h : a = k
  ·subst h
   rw [if_pos rfl, mfind, mfind]
   by_cases hc : c = a
   ·rw [if_pos hc, if_pos hc]
   ·rw [if_neg hc, if_neg hc, if_neg hc]
  ·rw [if_neg h, mfind, mfind, ih]
   by_cases hc : c = k
   ·subst hc
    rw [if_pos rfl, if_neg (fun e => h e.symm), if_pos rfl]
   ·rw [if_neg hc, if_neg hc]
def firstE (m : List Entry) (s : List UInt8) : Option Int := (m.find? fun x => decide (x.Name = s)).map (·.N)
def prepStep (x : Entry) (s : List (List UInt8 × Bool) × List (List UInt8 × Int)) : Option (List (List UInt8 × Bool) × List (List UInt8 × Int)) := bif (!(Option.getD (mfind x.Name s.1) false)) then some ((mset x.Name true s.1), (mset x.Name x.N s.2)) else some (s.1, s.2)
theorem prep_fold : ∀ (m : List Entry) (s : List (List UInt8 × Bool) × List (List UInt8 × Int)), (∀ k, mfind k s.1 = if (mfind k s.2).isSome then some true else none) →
  ∃ s', m.foldlM (m := Option) (fun s x => prepStep x s) s = some s' ∧ ∀ k, mfind k s'.2 = match mfind k s.2 with | some v => some v | none => firstE m k
 | [], s, h => ⟨s, rfl, fun k => by cases mfind k s.2 <;> rfl⟩
 | x :: m, s, h => by
  rw [List.foldlM_cons]
  unfold prepStep
  have hx := h x.Name
  cases hf : mfind x.Name s.2 with
  | some v =>
   rw [hf] at hx
   rw [hx]
   obtain ⟨s', h1, h2⟩ := prep_fold m s h
   refine ⟨s', h1, fun k => ?_⟩
   rw [h2]
   cases hk : mfind k s.2 with
   | some v => rfl
   | none =>
    show firstE m k = firstE (x :: m) k
    unfold firstE
    rw [List.find?_cons, decide_eq_false (fun e => by rw [e, hk] at hf; cases hf)]
  | none =>
   rw [hf] at hx
   rw [hx]
   obtain ⟨s', h1, h2⟩ := prep_fold m (mset x.Name true s.1, mset x.Name x.N s.2) (fun k => by
    rw [mfind_mset, mfind_mset]
    by_cases hk : k = x.Name
    ·rw [if_pos hk, if_pos hk]; rfl
    ·rw [if_neg hk, if_neg hk]; exact h k)
   refine ⟨s', h1, fun k => ?_⟩
   rw [h2]
   simp only
   rw [mfind_mset]
   by_cases hk : k = x.Name
   ·subst hk
    rw [if_pos rfl, hf]
    show some x.N = firstE (x :: m) x.Name
    unfold firstE
    rw [List.find?_cons, decide_eq_true rfl]; rfl
   ·rw [if_neg hk]
    cases mfind k s.2 with
    | some v => rfl
    | none =>
     show firstE m k = firstE (x :: m) k
     unfold firstE
     rw [List.find?_cons, decide_eq_false (fun e => hk e.symm)]
theorem prepare_known {m : List Entry} (h : m.length < 2 ^ 62) : ∃ known, s_expr_prepare plan0 m [] = some (plan0, [], [], known) ∧ ∀ k, mfind k known = firstE m k := by
 have key := fold_loopO (L := s_expr_prepare_L1 m) (l := m) prepStep id h (fun K i s => by
  rw [s_expr_prepare_L1]
  cases decide (i < (m.length : Int)) with
  | false => rfl
  | true => simp only [cond_true]; rfl) m.length 0 KK ([], []) (by omega) (by have := KK_big; omega)
 obtain ⟨s', h1, h2⟩ := prep_fold m ([], []) (fun k => rfl)
 obtain ⟨k, hk⟩ := KK_succ
 rw [List.drop_zero, h1, Option.map_some, show ((0 : Nat) : Int) = 0 from rfl] at key
 refine ⟨s'.2, ?_, fun k => h2 k⟩
 unfold s_expr_prepare
 rw [key, Option.bind_some, order0, grd_of ⟨by decide, by decide, by decide⟩, Option.bind_some, Option.bind_some, hk]
 rfl
end Go.Proofs.YtpabacdeogeehaaGreatDoor
