/- The reference has the same values. -/
import Derived.Test.YtenljipeggacjaaGreatN
set_option linter.all false
set_option maxRecDepth 100000
namespace Go.Proofs.YtenljipeggacjaaGreat
open Go Go.RowKit Go.Eng Go.EV
theorem mfind_mset {α β : Type} [DecidableEq α] (a c : α) (b : β) : ∀ l : List (α × β), mfind c (mset a b l) = if c = a then some b else mfind c l
  | [] => by
    rw [mset, mfind]
    rfl
  | (k, d) :: r => by
    have ih := mfind_mset a c b r
    rw [mset]
    by_cases h : a = k
    · subst h
      rw [if_pos rfl, mfind, mfind]
      by_cases hc : c = a
      · rw [if_pos hc, if_pos hc]
      · rw [if_neg hc, if_neg hc, if_neg hc]
    · rw [if_neg h, mfind, mfind, ih]
      by_cases hc : c = k
      · subst hc
        rw [if_pos rfl, if_neg (fun e => h e.symm), if_pos rfl]
      · rw [if_neg hc, if_neg hc]
/-- The value of the first entry of a name. -/
def firstE (m : List Entry) (s : List UInt8) : Option Int := (m.find? fun x => decide (x.Name = s)).map (·.N)
variable [Fuel]
def prepStep (x : Entry) (s : List (List UInt8 × Bool) × List (List UInt8 × Int)) : Option (List (List UInt8 × Bool) × List (List UInt8 × Int)) := bif (!(Option.getD (mfind x.Name s.1) false)) then some ((mset x.Name true s.1), (mset x.Name x.N s.2)) else some (s.1, s.2)
theorem prep_fold : ∀ (m : List Entry) (s : List (List UInt8 × Bool) × List (List UInt8 × Int)), (∀ k, mfind k s.1 = if (mfind k s.2).isSome then some true else none) →
    ∃ s', m.foldlM (m := Option) (fun s x => prepStep x s) s = some s' ∧ ∀ k, mfind k s'.2 = match mfind k s.2 with | some v => some v | none => firstE m k
  | [], s, h => ⟨s, rfl, fun k => by cases mfind k s.2 <;> rfl⟩
  | x :: m, s, h => by
    rw [List.foldlM_cons]
    unfold prepStep
    have hx := h x.Name
    cases hf : mfind x.Name s.2 with
    | some v =>
      rw [hf] at hx
      rw [hx]
      obtain ⟨s', h1, h2⟩ := prep_fold m s h
      refine ⟨s', h1, fun k => ?_⟩
      rw [h2]
      cases hk : mfind k s.2 with
      | some v => rfl
      | none =>
        show firstE m k = firstE (x :: m) k
        unfold firstE
        rw [List.find?_cons, decide_eq_false (fun e => by rw [e, hk] at hf; cases hf)]
    | none =>
      rw [hf] at hx
      rw [hx]
      obtain ⟨s', h1, h2⟩ := prep_fold m (mset x.Name true s.1, mset x.Name x.N s.2) (fun k => by
        rw [mfind_mset, mfind_mset]
        by_cases hk : k = x.Name
        · rw [if_pos hk, if_pos hk]; rfl
        · rw [if_neg hk, if_neg hk]; exact h k)
      refine ⟨s', h1, fun k => ?_⟩
      rw [h2]
      simp only
      rw [mfind_mset]
      by_cases hk : k = x.Name
      · subst hk
        rw [if_pos rfl, hf]
        show some x.N = firstE (x :: m) x.Name
        unfold firstE
        rw [List.find?_cons, decide_eq_true rfl]; rfl
      · rw [if_neg hk]
        cases mfind k s.2 with
        | some v => rfl
        | none =>
          show firstE m k = firstE (x :: m) k
          unfold firstE
          rw [List.find?_cons, decide_eq_false (fun e => hk e.symm)]
theorem prepare_known {m : List Entry} (h : m.length < 2 ^ 62) : ∃ known, s_expr_prepare plan0 m [] = some (plan0, [], [], known) ∧ ∀ k, mfind k known = firstE m k := by
  have key := fold_loopO (L := s_expr_prepare_L1 m) (l := m) prepStep id h (fun K i s => by
    rw [s_expr_prepare_L1]
    cases decide (i < (m.length : Int)) with
    | false => rfl
    | true => simp only [cond_true]; rfl) m.length 0 KK ([], []) (by omega) (by have := KK_big; omega)
  obtain ⟨s', h1, h2⟩ := prep_fold m ([], []) (fun k => rfl)
  obtain ⟨k, hk⟩ := KK_succ
  rw [List.drop_zero, h1, Option.map_some, show ((0 : Nat) : Int) = 0 from rfl] at key
  refine ⟨s'.2, ?_, fun k => h2 k⟩
  unfold s_expr_prepare
  rw [key, Option.bind_some, order0, grd_of ⟨by decide, by decide, by decide⟩, Option.bind_some, Option.bind_some, hk]
  rfl
theorem named_loop {m : List Entry} {s : List UInt8} (h : m.length < 2 ^ 62) : ∀ (n i K : Nat), i + n = m.length → n < K → s_greenbeltref17_named_L1 m s K (i : Int) = some (match firstE (m.drop i) s with | some v => .inl v | none => .inr ())
  | 0, i, K, hi, hK => by
    obtain ⟨K, rfl⟩ : ∃ K', K = K' + 1 := ⟨K - 1, by omega⟩
    rw [s_greenbeltref17_named_L1, decide_eq_false (by omega), cond_false, List.drop_of_length_le (by omega)]; rfl
  | n + 1, i, K, hi, hK => by
    obtain ⟨K, rfl⟩ : ∃ K', K = K' + 1 := ⟨K - 1, by omega⟩
    have hl : i < m.length := by omega
    rw [s_greenbeltref17_named_L1, decide_eq_true (by omega), cond_true, idx_of hl, Option.bind_some, Option.bind_some, w64_id (by omega) (by omega), show ((i : Int) + 1) = ((i + 1 : Nat) : Int) by omega, named_loop h n (i + 1) K (by omega) (by omega), drop_cons hl]
    unfold firstE
    rw [List.find?_cons]
    cases decide ((m.getD i default).Name = s) <;> rfl
theorem s_named {m : List Entry} {s : List UInt8} (h : m.length < 2 ^ 62) : s_greenbeltref17_named plan0 m [] s = some ((firstE m s).getD 0) := by
  have key := named_loop (s := s) h m.length 0 KK (by omega) (by have := KK_big; omega)
  rw [show ((0 : Nat) : Int) = 0 from rfl, List.drop_zero] at key
  obtain ⟨k, hk⟩ := KK_succ
  have h2 : s_greenbeltref17_named_L2 plan0 [] s KK 0 = some (.inr ()) := by rw [hk]; rfl
  unfold s_greenbeltref17_named
  rw [key, h2]
  cases firstE m s <;> rfl
theorem row17 (name key : List UInt8) : s_greenbeltref17_row plan0 name key = some 0 := by
  obtain ⟨k, hk⟩ := KK_succ
  unfold s_greenbeltref17_row
  rw [hk]; rfl
theorem row0 (known : List (List UInt8 × Int)) (e : Expr) : s_expr_context_row plan0 known [] e = some 0 := by
  obtain ⟨k, hk⟩ := KK_succ
  unfold s_expr_context_row s_slices_IndexFunc_2
  rw [hk]; rfl
theorem has17 (s : List UInt8) : s_greenbeltref17_has [] s = some false := by
  obtain ⟨k, hk⟩ := KK_succ
  unfold s_greenbeltref17_has
  rw [hk]; rfl
theorem contains0 (s : List UInt8) : s_slices_Contains [] s = some false := by
  obtain ⟨k, hk⟩ := KK_succ
  unfold s_slices_Contains s_slices_Index
  rw [hk]; rfl
theorem bit17 (b : Bool) : s_greenbeltref17_bit b = s_expr_bit b := rfl
theorem tmod_neg (a b : Int) (h : Int.tmod a b ≠ 0) : decide (Int.tmod a b < 0) = decide (a < 0) := by
  apply decide_eq_decide.2
  constructor
  · intro h1
    by_cases ha : a < 0
    · exact ha
    · have := Int.tmod_nonneg b (show 0 ≤ a by omega); omega
  · intro h1
    have h2 : 0 ≤ (-a).tmod b := Int.tmod_nonneg b (by omega)
    rw [Int.neg_tmod] at h2
    omega
theorem floor17 (a b : Int) : s_greenbeltref17_Floor a b = s_expr_quotient a b := by
  unfold s_greenbeltref17_Floor s_expr_quotient
  by_cases hb : b = 0
  · rw [decide_eq_true hb]; rfl
  · rw [decide_eq_false hb, grd_of hb]
    simp only [cond_false, Option.bind_some]
    by_cases h : Int.tmod a b = 0
    · rw [decide_eq_true h]; rfl
    · rw [tmod_neg a b h]
theorem two17 (op a b : Int) : s_greenbeltref17_two op a b = s_expr_binary op a b := by
  unfold s_greenbeltref17_two s_expr_binary
  simp only [floor17, bit17, Int.mul_comm]
end Go.Proofs.YtenljipeggacjaaGreat
