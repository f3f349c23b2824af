/- What the walked functions of wire compute. -/
import Derived.Test.YtbejhkfojiijmaaDoorS
import Derived.Test.YtbejhkfojiijmaaDoorM
set_option linter.all false
set_option maxRecDepth 100000
namespace Go.Proofs.YtbejhkfojiijmaaDoor
open Go Go.Lib Go.EV

theorem grd_of {p : Prop} [Decidable p] (h : p) : grd p = some () := if_pos h
theorem idx_of {α : Type} [Inhabited α] {l : List α} {i : Nat} (h : i < l.length) : idx l (i : Int) = some (l.getD i default) := by
  unfold idx; rw [if_pos ⟨by omega, by omega⟩]; rfl
theorem cut_tk {α : Type} {l : List α} {k : Nat} (h : k ≤ l.length) : cut l 0 (k : Int) = some (l.take k) := by
  unfold cut; rw [if_pos ⟨by omega, by omega, by omega⟩]; rfl
theorem cut_dr {α : Type} {l : List α} {k : Nat} (h : k ≤ l.length) : cut l (k : Int) (l.length : Int) = some (l.drop k) := by
  unfold cut; rw [if_pos ⟨by omega, by omega, by omega⟩]; simp
theorem w64_id {n : Int} (h0 : -9223372036854775808 ≤ n) (h1 : n ≤ 9223372036854775807) : w64 n = n := by
  exact Eng.wrap64_id h0 h1
theorem s_itoa_of {n : Int} (h : I64 n) : s_itoa n = some (itoa n) := by
  unfold s_itoa; rw [grd_of (p := -9223372036854775808 ≤ n ∧ n ≤ 9223372036854775807) h]; rfl
theorem s_Int {n : Int} (h : I64 n) : s_wire_Int n = some (encN 59 n) := by
  unfold s_wire_Int
  rw [s_itoa_of h, Option.bind_some, grd_of (by have := itoa_len h; simp only [List.length_singleton]; omega)]; rfl
theorem s_Num {n : Int} (h : I64 n) : s_wire_Num n = some (if n < 0 then [] else encN 59 n) := by
  unfold s_wire_Num
  by_cases h0 : n < 0
  · simp [h0]
  · simp [h0, s_Int h]
theorem s_Text {s : List UInt8} (h : s.length ≤ 4611686018427387904) : s_wire_Text s = some (encT s) := by
  unfold s_wire_Text
  have h1 : I64 (s.length : Int) := ⟨by omega, by omega⟩
  have := itoa_len h1
  rw [s_itoa_of h1, Option.bind_some, grd_of (by simp only [List.length_singleton]; omega), Option.bind_some, grd_of (by simp only [List.length_append, List.length_singleton]; omega), Option.bind_some, grd_of (by simp only [List.length_append, List.length_singleton]; omega)]; rfl
theorem s_Write {b s : List UInt8} (h : (b ++ s).length ≤ 140737488355328) : s_strings_Builder_WriteString_2 b s = some ((s.length : Int), b ++ s) := by
  unfold s_strings_Builder_WriteString_2 s_strings_Builder_copyCheck_2
  rw [Option.bind_some, grd_of (by omega)]; rfl
theorem s_Write1 {s : List UInt8} (h : s.length ≤ 140737488355328) : s_strings_Builder_WriteString s = some ((s.length : Int), s) := by
  unfold s_strings_Builder_WriteString s_strings_Builder_copyCheck
  rw [Option.bind_some, grd_of (by omega)]; rfl
theorem s_Str {s : List UInt8} (h0 : 1 ≤ s.length) (h : s.length ≤ 140737488355328) : s_strings_Builder_String s = some (s, s) := by
  unfold s_strings_Builder_String
  rw [grd_of h0, Option.bind_some, grd_of ⟨h0, by omega⟩]; rfl
theorem kk {n : Nat} (h : n ≤ 140737488355328) : ∃ k, KK = k + 1 ∧ n ≤ k := ⟨18446744073709551615, rfl, by omega⟩
theorem drop_cons {α : Type} [Inhabited α] {l : List α} {i : Nat} (h : i < l.length) : l.drop i = l.getD i default :: l.drop (i + 1) := by
  rw [List.drop_eq_getElem_cons h]; simp [List.getD_eq_getElem?_getD, List.getElem?_eq_getElem h]
theorem getD_mem {α : Type} [Inhabited α] {l : List α} {i : Nat} (h : i < l.length) : l.getD i default ∈ l := by
  simp [List.getD_eq_getElem?_getD, List.getElem?_eq_getElem h]
theorem list_L (l : List Int) (hl : ∀ x ∈ l, I64 x) : ∀ (k i fuel : Nat) (b : List UInt8), k = l.length - i → i ≤ l.length → k < fuel → (b ++ (l.drop i).flatMap (encN 59)).length ≤ 140737488355328 → l.length < 4611686018427387904 →
    s_wire_list_L1 l fuel ((i : Int), b) = some (b ++ (l.drop i).flatMap (encN 59)) := by
  intro k
  induction k with
  | zero =>
    intro i fuel b hk hi hf hb hll
    cases fuel with
    | zero => omega
    | succ fuel =>
      have : i = l.length := by omega
      subst this
      simp [s_wire_list_L1]
  | succ k ih =>
    intro i fuel b hk hi hf hb hll
    cases fuel with
    | zero => omega
    | succ fuel =>
      have hi' : i < l.length := by omega
      rw [drop_cons hi', List.flatMap_cons, ← List.append_assoc] at hb ⊢
      unfold s_wire_list_L1
      have hc : decide ((i : Int) < (l.length : Int)) = true := by simp; omega
      simp only [hc, cond_true]
      rw [idx_of hi', Option.bind_some, s_Int (hl _ (getD_mem hi')), Option.bind_some, s_Write (by simp only [List.length_append] at hb ⊢; omega), Option.bind_some]
      simp only
      rw [w64_id (by omega) (by omega), show ((i : Int) + 1) = ((i + 1 : Nat) : Int) by omega]
      exact ih (i + 1) fuel _ (by omega) (by omega) (by omega) hb hll
theorem s_Nums {l : List Int} (hl : ∀ x ∈ l, I64 x) (hb : (encL (encN 59) l).length ≤ 140737488355328) (hll : l.length < 4611686018427387904) : s_wire_Nums l = some (encL (encN 59) l) := by
  have h1 : I64 (l.length : Int) := ⟨by omega, by omega⟩
  have := itoa_len h1
  simp only [encL, List.length_append, List.length_singleton] at hb
  unfold s_wire_Nums s_wire_list
  rw [s_itoa_of h1, Option.bind_some, grd_of (by simp only [List.length_singleton]; omega), Option.bind_some, s_Write1 (by simp only [List.length_append, List.length_singleton]; omega), Option.bind_some]
  rw [show (0 : Int) = ((0 : Nat) : Int) from rfl, list_L l hl l.length 0 KK _ (by omega) (by omega) (by unfold KK; omega) (by simp only [List.length_append, List.length_singleton, List.drop_zero]; omega) hll, Option.bind_some,
    s_Str (by simp only [List.length_append, List.length_singleton]; omega) (by simp only [List.length_append, List.length_singleton, List.drop_zero]; omega), Option.bind_some, grd_of (by simp only [List.length_append, List.length_singleton, List.drop_zero]; omega)]
  rfl
theorem list_L2 (l : List (List UInt8)) (hl : ∀ x ∈ l, x.length ≤ 4611686018427387904) : ∀ (k i fuel : Nat) (b : List UInt8), k = l.length - i → i ≤ l.length → k < fuel → (b ++ (l.drop i).flatMap (encT)).length ≤ 140737488355328 → l.length < 4611686018427387904 →
    s_wire_list_2_L1 l fuel ((i : Int), b) = some (b ++ (l.drop i).flatMap (encT)) := by
  intro k
  induction k with
  | zero =>
    intro i fuel b hk hi hf hb hll
    cases fuel with
    | zero => omega
    | succ fuel =>
      have : i = l.length := by omega
      subst this
      simp [s_wire_list_2_L1]
  | succ k ih =>
    intro i fuel b hk hi hf hb hll
    cases fuel with
    | zero => omega
    | succ fuel =>
      have hi' : i < l.length := by omega
      rw [drop_cons hi', List.flatMap_cons, ← List.append_assoc] at hb ⊢
      unfold s_wire_list_2_L1
      have hc : decide ((i : Int) < (l.length : Int)) = true := by simp; omega
      simp only [hc, cond_true]
      rw [idx_of hi', Option.bind_some, s_Text (hl _ (getD_mem hi')), Option.bind_some, s_Write (by simp only [List.length_append] at hb ⊢; omega), Option.bind_some]
      simp only
      rw [w64_id (by omega) (by omega), show ((i : Int) + 1) = ((i + 1 : Nat) : Int) by omega]
      exact ih (i + 1) fuel _ (by omega) (by omega) (by omega) hb hll
theorem s_Texts {l : List (List UInt8)} (hl : ∀ x ∈ l, x.length ≤ 4611686018427387904) (hb : (encL (encT) l).length ≤ 140737488355328) (hll : l.length < 4611686018427387904) : s_wire_Texts l = some (encL (encT) l) := by
  have h1 : I64 (l.length : Int) := ⟨by omega, by omega⟩
  have := itoa_len h1
  simp only [encL, List.length_append, List.length_singleton] at hb
  unfold s_wire_Texts s_wire_list_2
  rw [s_itoa_of h1, Option.bind_some, grd_of (by simp only [List.length_singleton]; omega), Option.bind_some, s_Write1 (by simp only [List.length_append, List.length_singleton]; omega), Option.bind_some]
  rw [show (0 : Int) = ((0 : Nat) : Int) from rfl, list_L2 l hl l.length 0 KK _ (by omega) (by omega) (by unfold KK; omega) (by simp only [List.length_append, List.length_singleton, List.drop_zero]; omega) hll, Option.bind_some,
    s_Str (by simp only [List.length_append, List.length_singleton]; omega) (by simp only [List.length_append, List.length_singleton, List.drop_zero]; omega), Option.bind_some, grd_of (by simp only [List.length_append, List.length_singleton, List.drop_zero]; omega)]
  rfl
end Go.Proofs.YtbejhkfojiijmaaDoor
