/- The laws in plain Lean. -/
import Derived.Test.YtenljipeggacjaaZ
import Derived.Test.YtenljipeggacjaaQ
set_option linter.all false
set_option maxRecDepth 100000
namespace Go.Proofs.Ytenljipeggacjaa
open Go Go.RowKit Go.Eng Go.EV
theorem whichV_mem {α : Type} [Inhabited α] (p : α → Bool) : ∀ (l : List α) (i j : Int), j ∈ whichV p i l ↔ ∃ k : Nat, k < l.length ∧ j = i + (k : Int) ∧ p (l.getD k default) = true
  | [], i, j => by simp [whichV]
  | x :: l, i, j => by
    have ih := whichV_mem p l (i + 1) j
    have key : (∃ k : Nat, k < (x :: l).length ∧ j = i + (k : Int) ∧ p ((x :: l).getD k default) = true) ↔ (j = i ∧ p x = true) ∨ ∃ k : Nat, k < l.length ∧ j = i + 1 + (k : Int) ∧ p (l.getD k default) = true := by
      constructor
      · rintro ⟨k, h1, h2, h3⟩
        cases k with
        | zero => exact .inl ⟨by omega, by simpa using h3⟩
        | succ k => exact .inr ⟨k, by simpa using h1, by omega, by simpa using h3⟩
      · rintro (⟨h1, h2⟩ | ⟨k, h1, h2, h3⟩)
        · exact ⟨0, by simp, by omega, by simpa using h2⟩
        · exact ⟨k + 1, by simp; omega, by omega, by simpa using h3⟩
    rw [key, ← ih, whichV]
    cases hp : p x with
    | true => rw [if_pos rfl, List.mem_cons]; simp
    | false => rw [if_neg (by simp)]; simp
theorem whichV_has {α : Type} [Inhabited α] (p : α → Bool) {l : List α} {k : Nat} (h : k < l.length) : decide ((k : Int) ∈ whichV p 0 l) = p (l.getD k default) := by
  rw [Bool.eq_iff_iff, decide_eq_true_eq, whichV_mem]
  constructor
  · rintro ⟨k', h1, h2, h3⟩
    have : k = k' := by omega
    subst this; exact h3
  · intro h2; exact ⟨k, h, by omega, h2⟩
theorem whichV_len {α : Type} (p : α → Bool) : ∀ (l : List α) (i : Int), (whichV p i l).length ≤ l.length
  | [], i => by simp [whichV]
  | x :: l, i => by
    have := whichV_len p l (i + 1)
    rw [whichV]
    split
    · simp; omega
    · simp; omega
theorem whichV_lt {α : Type} [Inhabited α] (p : α → Bool) : ∀ (l : List α) (i : Int), (whichV p i l).Pairwise (· < ·)
  | [], i => by simp [whichV]
  | x :: l, i => by
    have ih := whichV_lt p l (i + 1)
    rw [whichV]
    split
    · rw [List.pairwise_cons]
      refine ⟨fun j hj => ?_, ih⟩
      obtain ⟨k, _, h2, _⟩ := (whichV_mem p l (i + 1) j).1 hj
      omega
    · exact ih
theorem getD_map {α β : Type} [Inhabited α] [Inhabited β] (g : α → β) {l : List α} {i : Nat} (h : i < l.length) : (l.map g).getD i default = g (l.getD i default) := by
  simp [List.getD_eq_getElem?_getD, List.getElem?_eq_getElem h]
theorem whichV_congr {α : Type} {p q : α → Bool} : ∀ {l : List α} {i : Int}, (∀ x ∈ l, p x = q x) → whichV p i l = whichV q i l
  | [], _, _ => rfl
  | x :: l, i, h => by rw [whichV, whichV, h x (List.mem_cons_self ..), whichV_congr fun y hy => h y (List.mem_cons_of_mem _ hy)]
theorem whichV_nil {α : Type} {p : α → Bool} : ∀ {l : List α} {i : Int}, (∀ x ∈ l, p x = false) → whichV p i l = []
  | [], _, _ => rfl
  | x :: l, i, h => by rw [whichV, h x (List.mem_cons_self ..), whichV_nil fun y hy => h y (List.mem_cons_of_mem _ hy)]; rfl
variable [Fuel]
theorem all_loop {T : Type} {L : Nat → Int → Option T} {len : Nat} {r : T} (heq : ∀ K (i : Nat), i < len → L (K + 1) (i : Int) = L K ((i + 1 : Nat) : Int)) (hend : ∀ K, L (K + 1) (len : Int) = some r) : ∀ (n i K : Nat), i + n = len → n < K → L K (i : Int) = some r
  | 0, i, K, h, hK => by
    obtain ⟨K, rfl⟩ : ∃ K', K = K' + 1 := ⟨K - 1, by omega⟩
    rw [show i = len by omega, hend]
  | n + 1, i, K, h, hK => by
    obtain ⟨K, rfl⟩ : ∃ K', K = K' + 1 := ⟨K - 1, by omega⟩
    rw [heq K i (by omega), all_loop heq hend n (i + 1) K (by omega) (by omega)]
theorem stale_nil' (base base' : List Fact) (f : Formula) (k0 known : Int) : staleF base' (askF base f k0) known = [] ↔ askF base' f known = askF base f k0 := by
  unfold staleF askF
  generalize namesV f.Body = l
  rw [List.map_eq_nil_iff]
  induction l with
  | nil => simp
  | cons s l ih =>
    rw [List.map_cons, List.map_cons, List.filter_cons]
    by_cases h : lookF base' s f.Day known = lookF base s f.Day k0
    · have e : decide (lookF base' (lookF base s f.Day k0).Key (lookF base s f.Day k0).Day known = lookF base s f.Day k0) = true := decide_eq_true h
      rw [e, if_neg (by simp), ih]
      constructor
      · intro h2; rw [h2, h]
      · intro h2; exact (List.cons.inj h2).2
    · have e : decide (lookF base' (lookF base s f.Day k0).Key (lookF base s f.Day k0).Day known = lookF base s f.Day k0) = false := decide_eq_false h
      rw [e, if_pos (by simp)]
      constructor
      · intro h2; cases h2
      · intro h2; exact absurd (List.cons.inj h2).1 h
/-- Touched: it asks something else. -/
theorem touch_make (base base' : List Fact) (f : Formula) (known : Int) : touchB base' known (makeF base f) = !decide (askF base' f known = askF base f f.Known) := by
  have h := stale_nil' base base' f f.Known known
  unfold touchB
  rw [show (makeF base f).Asked = askF base f f.Known from rfl]
  by_cases h2 : askF base' f known = askF base f f.Known
  · rw [decide_eq_true h2, h.2 h2]; rfl
  · rw [decide_eq_false h2, decide_eq_true]; rfl
    exact Nat.pos_of_ne_zero fun h3 => h2 (h.1 (List.length_eq_zero_iff.1 h3))
theorem out_make (base base' : List Fact) {f : Formula} (known : Int) (h : RightB f = true) : outB base' known (makeF base f) = !decide (valE f.Body (askF base' f known) = valE f.Body (askF base f f.Known)) := by
  unfold outB
  rw [show RightB (makeF base f) = RightB f from rfl, h]; rfl
theorem okN_make {base : List Fact} {f : Formula} (h : okN f) : okN (makeF base f) := h
theorem good_iff {base : List Fact} {f : Formula} : goodB base f = true ↔ rightB base = true ∧ RightB f = true := by unfold goodB; rw [Bool.and_eq_true]
theorem right_known {f : Formula} {known : Int} (h : RightB f = true) (h0 : 0 ≤ known) (h1 : known ≤ 1073741824) : RightB (Formula.mk f.Id f.Day known f.Body f.Result f.Asked) = true := by
  unfold RightB at h ⊢
  simp only [Bool.and_eq_true, decide_eq_true_eq] at h ⊢
  refine ⟨h.1, by omega, by omega⟩
end Go.Proofs.Ytenljipeggacjaa
