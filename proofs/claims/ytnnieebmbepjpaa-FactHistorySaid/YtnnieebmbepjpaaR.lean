/- the plain mathematics of chapter 44: the corrections' ranges -/
import Derived.Test.YtnnieebmbepjpaaL
set_option linter.all false
namespace Go.Proofs.Ytnnieebmbepjpaa
open Go Go.Eng
def CInv (df : Int → Bool) (n : Nat) (s : List Stay × Bool) : Prop :=
  (∀ x ∈ s.1, 0 ≤ x.from_ ∧ x.from_ ≤ x.to ∧ x.to < n) ∧ s.1.Pairwise (fun x y => x.to < y.from_ - 1) ∧
  (s.2 = true → ∃ m x, s.1 = m ++ [x] ∧ x.to = (n : Int) - 1) ∧ (s.2 = false → ∀ x ∈ s.1, x.to < (n : Int) - 1) ∧
  ∀ d : Int, 0 ≤ d → d < n → (df d = true ↔ ∃ x ∈ s.1, x.from_ ≤ d ∧ d ≤ x.to)
theorem cinv_step (df : Int → Bool) (n : Nat) (s : List Stay × Bool) (h : CInv df n s) : CInv df (n + 1) (corOut s.1 s.2 (df n) n ((n : Int) + 1), df n) := by
  obtain ⟨h1, h2, h3, h4, h5⟩ := h
  obtain ⟨out, last⟩ := s
  simp only at h1 h2 h3 h4 h5 ⊢
  cases hd : df (n : Int) with
  | false =>
    have e : corOut out last false n ((n : Int) + 1) = out := by simp [corOut]
    rw [e]
    refine ⟨fun x hx => ?_, h2, fun hh => (by cases hh), fun _ x hx => ?_, fun d h0 hdn => ?_⟩
    · have := h1 x hx; first | omega | (simp only; omega)
    · have := h1 x hx; first | omega | (simp only; omega)
    · by_cases hdn' : d < n
      · exact h5 d h0 hdn'
      · have : d = n := by omega
        subst this
        rw [hd]
        refine ⟨fun hh => (by cases hh), fun ⟨x, hx, _, h7⟩ => ?_⟩
        have := h1 x hx; omega
  | true =>
    cases last with
    | true =>
      obtain ⟨m, x, hm, hx⟩ := h3 rfl
      subst hm
      have e : corOut (m ++ [x]) true true n ((n : Int) + 1) = m ++ [{ x with to := n }] := by
        have : corOut (m ++ [x]) true true n ((n : Int) + 1) = (m ++ [x]).set (((m ++ [x]).length : Int) - 1).toNat { (m ++ [x]).getD (((m ++ [x]).length : Int) - 1).toNat default with to := (n : Int) + 1 - 1 } := by simp only [corOut, Bool.and_self, if_true]
        rw [this, show (n : Int) + 1 - 1 = n by omega, set_last, get_last]
      rw [e]
      have hp := List.pairwise_append.1 h2
      have hx1 := h1 x (by simp)
      refine ⟨fun y hy => ?_, List.pairwise_append.2 ⟨hp.1, by simp, fun y hy z hz => ?_⟩, fun _ => ⟨m, _, rfl, (by first | omega | (simp only; omega))⟩, fun hh => (by cases hh), fun d h0 hdn => ?_⟩
      · rcases List.mem_append.1 hy with hy | hy
        · have := h1 y (List.mem_append_left _ hy); omega
        · rw [List.mem_singleton] at hy; subst hy; first | omega | (simp only; omega)
      · rw [List.mem_singleton] at hz; subst hz
        exact hp.2.2 y hy x (by simp)
      · constructor
        · intro hh
          by_cases hdn' : d < n
          · obtain ⟨y, hy, h6, h7⟩ := (h5 d h0 hdn').1 hh
            rcases List.mem_append.1 hy with hy | hy
            · exact ⟨y, List.mem_append_left _ hy, h6, h7⟩
            · rw [List.mem_singleton] at hy; subst hy
              exact ⟨_, List.mem_append_right _ (List.mem_singleton.2 rfl), h6, (by first | omega | (simp only; omega))⟩
          · exact ⟨_, List.mem_append_right _ (List.mem_singleton.2 rfl), (by first | omega | (simp only; omega)), (by first | omega | (simp only; omega))⟩
        · intro ⟨y, hy, h6, h7⟩
          by_cases hdn' : d < n
          · rcases List.mem_append.1 hy with hy | hy
            · exact (h5 d h0 hdn').2 ⟨y, List.mem_append_left _ hy, h6, h7⟩
            · rw [List.mem_singleton] at hy; subst hy
              exact (h5 d h0 hdn').2 ⟨x, by simp, h6, by omega⟩
          · have : d = n := by omega
            subst this; exact hd
    | false =>
      have e : corOut out false true n ((n : Int) + 1) = out ++ [{ from_ := n, to := n }] := by
        simp only [corOut, Bool.and_false, Bool.false_eq_true, if_false, if_true]
        rw [show (n : Int) + 1 - 1 = n by omega]
      rw [e]
      have h4 := h4 rfl
      refine ⟨fun y hy => ?_, List.pairwise_append.2 ⟨h2, by simp, fun y hy z hz => ?_⟩, fun _ => ⟨out, _, rfl, (by first | omega | (simp only; omega))⟩, fun hh => (by cases hh), fun d h0 hdn => ?_⟩
      · rcases List.mem_append.1 hy with hy | hy
        · have := h1 y hy; omega
        · rw [List.mem_singleton] at hy; subst hy; first | omega | (simp only; omega)
      · rw [List.mem_singleton] at hz; subst hz
        have := h4 y hy
        first | omega | (simp only; omega)
      · constructor
        · intro hh
          by_cases hdn' : d < n
          · obtain ⟨y, hy, h6, h7⟩ := (h5 d h0 hdn').1 hh
            exact ⟨y, List.mem_append_left _ hy, h6, h7⟩
          · exact ⟨_, List.mem_append_right _ (List.mem_singleton.2 rfl), (by first | omega | (simp only; omega)), (by first | omega | (simp only; omega))⟩
        · intro ⟨y, hy, h6, h7⟩
          by_cases hdn' : d < n
          · rcases List.mem_append.1 hy with hy | hy
            · exact (h5 d h0 hdn').2 ⟨y, hy, h6, h7⟩
            · rw [List.mem_singleton] at hy; subst hy
              simp only at h6; omega
          · have : d = n := by omega
            subst this; exact hd
theorem cinv_all (base : List Fact) (key : List UInt8) (a b : Int) : ∀ n, CInv (diffB base key a b) n (unitF (cstep base key a b) ([], false) n)
  | 0 => ⟨by simp [unitF], by simp [unitF], by simp [unitF], by simp [unitF], fun d h0 h => by omega⟩
  | n + 1 => cinv_step _ n _ (cinv_all base key a b n)
theorem getD_mem {α : Type} [Inhabited α] {l : List α} {i : Nat} (h : i < l.length) : l.getD i default ∈ l := by
  simp [List.getD_eq_getElem?_getD, h]
theorem pair_getD {α : Type} [Inhabited α] {l : List α} {p : α → α → Prop} (hp : l.Pairwise p) {i j : Nat} (hij : i < j) (hj : j < l.length) : p (l.getD i default) (l.getD j default) := by
  have hi : i < l.length := by omega
  simp only [List.getD_eq_getElem?_getD, List.getElem?_eq_getElem hi, List.getElem?_eq_getElem hj, Option.getD_some]
  exact List.pairwise_iff_getElem.1 hp i j hi hj hij
theorem cor_inv {base : List Fact} {key : List UInt8} {a b : Int} (h : rightB base = true) : (∀ x ∈ corOf base key a b, 0 ≤ x.from_ ∧ x.from_ ≤ x.to ∧ x.to < 1073741825) ∧ (corOf base key a b).Pairwise (fun x y => x.to < y.from_ - 1) ∧
    ∀ d : Int, 0 ≤ d → d ≤ 1073741824 → (diffB base key a b d = true ↔ ∃ x ∈ corOf base key a b, x.from_ ≤ d ∧ d ≤ x.to) := by
  obtain ⟨h1, h2, _, _, h5⟩ := cinv_all base key a b 1073741825
  rw [cor_unit h]
  exact ⟨h1, h2, fun d h0 hd => h5 d h0 (by omega)⟩
theorem cor_ok (base : List Fact) (key : List UInt8) (a b : Int) (h : rightB base = true) (i : Nat) (hi : i < (corOf base key a b).length)
    (hc : (((decide (((corOf base key a b).getD i default).from_ < 0) || decide (((corOf base key a b).getD i default).to < ((corOf base key a b).getD i default).from_)) || decide (((corOf base key a b).getD i default).to > 1073741824)) ||
      (decide ((i : Int) > 0) && decide (((corOf base key a b).getD ((i : Int) - 1).toNat default).to ≥ ((corOf base key a b).getD i default).from_ - 1))) = true) : False := by
  obtain ⟨h1, h2, _⟩ := cor_inv (key := key) (a := a) (b := b) h
  have hx := h1 _ (getD_mem hi)
  simp only [Bool.or_eq_true, Bool.and_eq_true, decide_eq_true_eq] at hc
  rcases hc with ((hc | hc) | hc) | ⟨h0, hc⟩
  · omega
  · omega
  · omega
  · have := pair_getD h2 (show ((i : Int) - 1).toNat < i by omega) hi
    omega
theorem inTo_spec (l : List Stay) (day : Int) : ∀ n, n ≤ l.length → (inTo l day n = true ↔ ∃ j, j < n ∧ (l.getD j default).from_ ≤ day ∧ day ≤ (l.getD j default).to)
  | 0, _ => by simp [inTo]
  | n + 1, h => by
    have ih := inTo_spec l day n (by omega)
    rw [inTo, Bool.or_eq_true, ih, Bool.and_eq_true, decide_eq_true_eq, decide_eq_true_eq]
    constructor
    · rintro (⟨j, hj, hh⟩ | hh)
      · exact ⟨j, by omega, hh⟩
      · exact ⟨n, by omega, hh⟩
    · rintro ⟨j, hj, hh⟩
      rcases Nat.lt_succ_iff_lt_or_eq.1 hj with hj | rfl
      · exact .inl ⟨j, hj, hh⟩
      · exact .inr hh
theorem diff_comm (base : List Fact) (key : List UInt8) (a b d : Int) : diffB base key a b d = diffB base key b a d := by
  unfold diffB
  rw [show decide ((atOf base key d a).1 = (atOf base key d b).1) = decide ((atOf base key d b).1 = (atOf base key d a).1) by rw [decide_eq_decide]; exact eq_comm]
  cases (atOf base key d a).2 <;> cases (atOf base key d b).2 <;> rfl
theorem cor_comm (base : List Fact) (key : List UInt8) (a b : Int) (h : rightB base = true) : corOf base key a b = corOf base key b a := by
  rw [cor_unit h, cor_unit h]
  have : cstep base key a b = cstep base key b a := by
    funext s c d; unfold cstep; rw [diff_comm]
  rw [this]
theorem cor_found (base : List Fact) (key : List UInt8) (a b day : Int) (h : rightB base = true) (h0 : 0 ≤ day) (hd : day ≤ 1073741824) (i : Nat) (hi : i = (corOf base key a b).length) :
    ((inTo (corOf base key a b) day i == ((!decide ((atOf base key day a).1 = (atOf base key day b).1)) || (!((atOf base key day a).2 == (atOf base key day b).2)))) && decide (corOf base key a b = corOf base key b a)) = true := by
  subst hi
  obtain ⟨_, _, h3⟩ := cor_inv (key := key) (a := a) (b := b) h
  have e : inTo (corOf base key a b) day (corOf base key a b).length = diffB base key a b day := by
    rw [Bool.eq_iff_iff, inTo_spec _ _ _ (Nat.le_refl _), h3 day h0 hd]
    constructor
    · rintro ⟨j, hj, hh⟩; exact ⟨_, getD_mem hj, hh⟩
    · rintro ⟨x, hx, hh⟩
      obtain ⟨j, hj, rfl⟩ := List.getElem_of_mem hx
      exact ⟨j, hj, by simpa [List.getD_eq_getElem?_getD, hj] using hh⟩
  rw [e, decide_eq_true (cor_comm base key a b h)]
  unfold diffB
  simp
end Go.Proofs.Ytnnieebmbepjpaa
