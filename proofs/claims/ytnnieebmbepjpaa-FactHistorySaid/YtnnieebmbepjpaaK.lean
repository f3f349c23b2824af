/- the plain mathematics of chapter 44: sorted lists without doubles; keys -/
import Derived.Test.YtnnieebmbepjpaaF
import Derived.Sort.Walk0
set_option linter.all false
namespace Go.Proofs.Ytnnieebmbepjpaa
open Go Go.Eng
section
variable {α : Type} {lt : α → α → Prop}
theorem ssorted_ext (irr : ∀ a, ¬ lt a a) (asym : ∀ a b, lt a b → ¬ lt b a) : ∀ l m : List α, l.Pairwise lt → m.Pairwise lt → (∀ x, x ∈ l ↔ x ∈ m) → l = m
  | [], [], _, _, _ => rfl
  | [], b :: m, _, _, h => by have := (h b).2 (by simp); cases this
  | a :: l, [], _, _, h => by have := (h a).1 (by simp); cases this
  | a :: l, b :: m, hl, hm, h => by
    have hl := List.pairwise_cons.1 hl
    have hm := List.pairwise_cons.1 hm
    have hab : a = b := by
      rcases List.mem_cons.1 ((h a).1 (by simp)) with e | e
      · exact e
      · rcases List.mem_cons.1 ((h b).2 (by simp)) with e' | e'
        · exact e'.symm
        · exact (asym _ _ (hl.1 b e') (hm.1 a e)).elim
    subst hab
    congr 1
    refine ssorted_ext irr asym l m hl.2 hm.2 fun x => ⟨fun hx => ?_, fun hx => ?_⟩
    · rcases List.mem_cons.1 ((h x).1 (List.mem_cons_of_mem _ hx)) with e | e
      · subst e; exact (irr _ (hl.1 _ hx)).elim
      · exact e
    · rcases List.mem_cons.1 ((h x).2 (List.mem_cons_of_mem _ hx)) with e | e
      · subst e; exact (irr _ (hm.1 _ hx)).elim
      · exact e
theorem compactUpTo_spec [Inhabited α] [DecidableEq α] {le : α → α → Prop} (hlt : ∀ a b, le a b → a ≠ b → lt a b) (anti : ∀ a b, le a b → le b a → a = b) (d : Array α) (hs : ∀ i j, i ≤ j → j < d.size → le d[i]! d[j]!) : ∀ m, m ≤ d.size →
    (∀ x ∈ Lib.compactUpTo d m, ∃ j, j < m ∧ x = d[j]!) ∧ (∀ j, j < m → d[j]! ∈ Lib.compactUpTo d m) ∧ (Lib.compactUpTo d m).Pairwise lt
  | 0, _ => ⟨by simp [Lib.compactUpTo], by simp, by simp [Lib.compactUpTo]⟩
  | m + 1, hm => by
    obtain ⟨h1, h2, h3⟩ := compactUpTo_spec hlt anti d hs m (by omega)
    rw [Lib.compactUpTo_succ]
    cases hk : Lib.keeps d m with
    | true =>
      simp only [if_true]
      refine ⟨fun x hx => ?_, fun j hj => ?_, ?_⟩
      · rcases List.mem_append.1 hx with hx | hx
        · obtain ⟨j, hj, e⟩ := h1 x hx; exact ⟨j, by omega, e⟩
        · rw [List.mem_singleton] at hx; exact ⟨m, by omega, hx⟩
      · rcases Nat.lt_succ_iff_lt_or_eq.1 hj with hj | rfl
        · exact List.mem_append_left _ (h2 j hj)
        · exact List.mem_append_right _ (by simp)
      · refine List.pairwise_append.2 ⟨h3, by simp, fun x hx y hy => ?_⟩
        rw [List.mem_singleton] at hy
        subst hy
        obtain ⟨j, hj, rfl⟩ := h1 x hx
        refine hlt _ _ (hs j m (by omega) (by omega)) fun e => ?_
        simp only [Lib.keeps, decide_eq_true_eq] at hk
        rcases hk with hk | hk
        · omega
        · exact hk (anti _ _ (e ▸ hs j (m - 1) (by omega) (by omega)) (hs (m - 1) m (by omega) (by omega)))
    | false =>
      simp only [Bool.false_eq_true, if_false, List.append_nil]
      simp only [Lib.keeps, decide_eq_false_iff_not, not_or, Decidable.not_not] at hk
      refine ⟨fun x hx => ?_, fun j hj => ?_, h3⟩
      · obtain ⟨j, hj, e⟩ := h1 x hx; exact ⟨j, by omega, e⟩
      · rcases Nat.lt_succ_iff_lt_or_eq.1 hj with hj | rfl
        · exact h2 j hj
        · rw [hk.2]; exact h2 (j - 1) (by omega)
theorem compact_spec [Inhabited α] [DecidableEq α] {le : α → α → Prop} (refl : ∀ a, le a a) (hlt : ∀ a b, le a b → a ≠ b → lt a b) (anti : ∀ a b, le a b → le b a → a = b) (l : List α) (hs : l.Pairwise le) :
    (∀ x, x ∈ Lib.compact l ↔ x ∈ l) ∧ (Lib.compact l).Pairwise lt := by
  obtain ⟨h1, h2, h3⟩ := compactUpTo_spec hlt anti l.toArray (fun i j hij hj => by
    simp only [List.size_toArray] at hj
    have hi : i < l.length := by omega
    simp only [List.getElem!_toArray, List.getElem!_eq_getElem?_getD, List.getElem?_eq_getElem hj, List.getElem?_eq_getElem hi, Option.getD_some]
    rcases Nat.lt_or_eq_of_le hij with h | h
    · exact List.pairwise_iff_getElem.1 hs i j hi hj h
    · subst h; exact refl _) l.length (by simp)
  refine ⟨fun x => ⟨fun hx => ?_, fun hx => ?_⟩, h3⟩
  · exact compact_mem hx
  · obtain ⟨j, hj, rfl⟩ := List.getElem_of_mem hx
    have := h2 j hj
    unfold Lib.compact
    simpa [hj] using this
end
theorem lt_of_le_ne (a b : List UInt8) (h : a ≤ b) (hn : a ≠ b) : a < b := Decidable.byContradiction fun hh => hn (List.le_antisymm h (List.not_lt.1 hh))
theorem keysOf_spec {base : List Fact} (h : rightB base = true) : (∀ x, x ∈ keysOf base ↔ x ∈ keysTo base base.length) ∧ (keysOf base).Pairwise (· < ·) := by
  have hs : ((keysTo base base.length).mergeSort fun x y => decide (x ≤ y)).Pairwise (· ≤ ·) :=
    (List.pairwise_mergeSort (fun a b c h1 h2 => by simp only [decide_eq_true_eq] at *; exact List.le_trans h1 h2) (fun a b => by simp only [Bool.or_eq_true, decide_eq_true_eq]; exact List.le_total a b) _).imp (fun h => by simpa using h)
  have hc := compact_spec (lt := (· < ·)) List.le_refl lt_of_le_ne (fun a b => List.le_antisymm) _ hs
  unfold keysOf
  rw [h]
  simp only [Bool.not_true, Bool.false_eq_true, if_false]
  exact ⟨fun x => (hc.1 x).trans List.mem_mergeSort, hc.2⟩
theorem rkIns_nil (key : List UInt8) : rkIns [] key = [key] := rfl
theorem rkIns_cons (a : List UInt8) (l : List (List UInt8)) (key : List UInt8) : rkIns (a :: l) key = if a < key then a :: rkIns l key else if a = key then a :: l else key :: a :: l := by
  unfold rkIns
  by_cases h : a < key
  · have hb : Op.bytesLess a key = true := by rw [bytesLess_eq]; exact decide_eq_true h
    rw [List.takeWhile_cons_of_pos (p := fun x => Op.bytesLess x key) hb, if_pos h]
    simp only [List.length_cons, List.take_succ_cons, List.drop_succ_cons, List.getD_cons_succ, List.cons_append]
    have e : decide (((l.takeWhile fun x => Op.bytesLess x key).length + 1 : Nat) < ((l.length + 1 : Nat) : Int)) = decide (((l.takeWhile fun x => Op.bytesLess x key).length : Int) < (l.length : Int)) := by rw [decide_eq_decide]; omega
    rw [e]
    split <;> rfl
  · have hb : ¬ Op.bytesLess a key = true := by rw [bytesLess_eq]; simpa using h
    rw [List.takeWhile_cons_of_neg (p := fun x => Op.bytesLess x key) hb, if_neg h]
    simp only [List.length_nil, List.length_cons, List.take_zero, List.drop_zero, List.getD_cons_zero, List.nil_append]
    have e : decide (((0 : Nat) : Int) < ((l.length + 1 : Nat) : Int)) = true := decide_eq_true (by omega)
    rw [e]
    by_cases he : a = key
    · simp [he]
    · simp [he]
theorem rkIns_spec (key : List UInt8) : ∀ l : List (List UInt8), l.Pairwise (· < ·) → (∀ x, x ∈ rkIns l key ↔ x ∈ l ∨ x = key) ∧ (rkIns l key).Pairwise (· < ·)
  | [], _ => by rw [rkIns_nil]; simp
  | a :: l, h => by
    have hp := List.pairwise_cons.1 h
    obtain ⟨h1, h2⟩ := rkIns_spec key l hp.2
    rw [rkIns_cons]
    by_cases hlt : a < key
    · rw [if_pos hlt]
      refine ⟨fun x => ?_, List.pairwise_cons.2 ⟨fun x hx => ?_, h2⟩⟩
      · rw [List.mem_cons, h1, List.mem_cons]; exact ⟨fun h => h.elim (fun h => .inl (.inl h)) (fun h => h.elim (fun h => .inl (.inr h)) .inr), fun h => h.elim (fun h => h.elim .inl (fun h => .inr (.inl h))) (fun h => .inr (.inr h))⟩
      · rcases (h1 x).1 hx with hx | rfl
        · exact hp.1 x hx
        · exact hlt
    · rw [if_neg hlt]
      by_cases he : a = key
      · rw [if_pos he]
        subst he
        refine ⟨fun x => ⟨.inl, fun h => h.elim id (fun e => by rw [e]; simp)⟩, h⟩
      · rw [if_neg he]
        have hka : key < a := lt_of_le_ne _ _ (List.not_lt.1 hlt) (Ne.symm he)
        refine ⟨fun x => ?_, List.pairwise_cons.2 ⟨fun x hx => ?_, h⟩⟩
        · rw [List.mem_cons]; exact ⟨fun h => h.elim .inr .inl, fun h => h.elim .inr .inl⟩
        · rcases List.mem_cons.1 hx with rfl | hx
          · exact hka
          · exact List.lt_trans hka (hp.1 x hx)
theorem rkTo_spec (base : List Fact) : ∀ k, (∀ x, x ∈ rkTo base k ↔ x ∈ keysTo base k) ∧ (rkTo base k).Pairwise (· < ·)
  | 0 => by simp [rkTo, keysTo]
  | k + 1 => by
    obtain ⟨h1, h2⟩ := rkTo_spec base k
    obtain ⟨h3, h4⟩ := rkIns_spec (base.getD k default).key _ h2
    refine ⟨fun x => ?_, h4⟩
    rw [rkTo, h3, h1, keysTo, List.mem_append, List.mem_singleton]
theorem rkeys_eq (base : List Fact) : rkeysOf base = keysOf base := by
  cases hr : rightB base with
  | false => simp [rkeysOf, keysOf, rright_eq, hr]
  | true =>
    obtain ⟨h1, h2⟩ := keysOf_spec hr
    obtain ⟨h3, h4⟩ := rkTo_spec base base.length
    have e : rkeysOf base = rkTo base base.length := by simp [rkeysOf, rright_eq, hr]
    rw [e]
    exact ssorted_ext (lt := (· < ·)) (fun a => List.lt_irrefl a) (fun a b h h' => List.lt_irrefl _ (List.lt_trans h h')) _ _ h4 h2 (fun x => (h3 x).trans (h1 x).symm)
end Go.Proofs.Ytnnieebmbepjpaa
