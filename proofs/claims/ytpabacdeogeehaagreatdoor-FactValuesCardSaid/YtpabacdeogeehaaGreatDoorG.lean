/- What the walked functions of wire compute. -/
import Derived.Test.YtpabacdeogeehaaGreatDoorF
import Derived.Test.YtpabacdeogeehaaGreatDoorM
set_option linter.all false
set_option maxRecDepth 100000
namespace Go.Proofs.YtpabacdeogeehaaGreatDoor
open Go Go.Lib Go.EV
variable [Fuel]

theorem cut_tk {α : Type} {l : List α} {k : Nat} (h : k ≤ l.length) : cut l 0 (k : Int) = some (l.take k) := by
 unfold cut; rw [if_pos ⟨by omega, by omega, by omega⟩]; rfl
theorem cut_dr {α : Type} {l : List α} {k : Nat} (h : k ≤ l.length) : cut l (k : Int) (l.length : Int) = some (l.drop k) := by
 unfold cut; rw [if_pos ⟨by omega, by omega, by omega⟩]; simp
theorem s_itoa_of {n : Int} (h : I64 n) : s_itoa n = some (itoa n) := by
 unfold s_itoa; rw [grd_of (p := -9223372036854775808 ≤ n ∧ n ≤ 9223372036854775807) h]; rfl
theorem s_Int {n : Int} (h : I64 n) : s_wire_Int n = some (encN 59 n) := by
 unfold s_wire_Int
 rw [s_itoa_of h, Option.bind_some, grd_of (by have := itoa_len h; simp only [List.length_singleton]; omega)]; rfl
theorem s_Write {b s : List UInt8} (h : (b ++ s).length ≤ 140737488355328) : s_strings_Builder_WriteString_2 b s = some ((s.length : Int), b ++ s) := by
 unfold s_strings_Builder_WriteString_2 s_strings_Builder_copyCheck_2
 rw [Option.bind_some, grd_of (by omega)]; rfl
theorem s_Write1 {s : List UInt8} (h : s.length ≤ 140737488355328) : s_strings_Builder_WriteString s = some ((s.length : Int), s) := by
 unfold s_strings_Builder_WriteString s_strings_Builder_copyCheck
 rw [Option.bind_some, grd_of (by omega)]; rfl
theorem s_Str {s : List UInt8} (h0 : 1 ≤ s.length) (h : s.length ≤ 140737488355328) : s_strings_Builder_String s = some (s, s) := by
 unfold s_strings_Builder_String
 rw [grd_of h0, Option.bind_some, grd_of ⟨h0, by omega⟩]; rfl
theorem kk {n : Nat} (h : n ≤ 140737488355328) : ∃ k, KK = k + 1 ∧ n ≤ k := ⟨KK - 1, by have := KK_big; omega, by have := KK_big; omega⟩
theorem list_L (l : List Int) (hl : ∀ x ∈ l, I64 x) : ∀ (k i fuel : Nat) (b : List UInt8), k = l.length - i → i ≤ l.length → k < fuel → (b ++ (l.drop i).flatMap (encN 59)).length ≤ 140737488355328 → l.length < 4611686018427387904 →
  s_wire_list_L1 l fuel ((i : Int), b) = some (b ++ (l.drop i).flatMap (encN 59)) := by
 intro k
 induction k with
 | zero =>
  intro i fuel b hk hi hf hb hll
  cases fuel with
  | zero => omega
  | succ fuel =>
   have : i = l.length := by omega
   subst this
   simp [s_wire_list_L1]
 | succ k ih =>
  intro i fuel b hk hi hf hb hll
  cases fuel with
  | zero => omega
  | succ fuel =>
   have hi' : i < l.length := by omega
   rw [drop_cons hi', List.flatMap_cons, ← List.append_assoc] at hb ⊢
   unfold s_wire_list_L1
   have hc : decide ((i : Int) < (l.length : Int)) = true := by simp; omega
   simp only [hc, cond_true]
   rw [idx_of hi', Option.bind_some, s_Int (hl _ (getD_mem hi')), Option.bind_some, s_Write (by simp only [List.length_append] at hb ⊢; omega), Option.bind_some]
   simp only
   rw [w64_id (by omega) (by omega), show ((i : Int) + 1) = ((i + 1 : Nat) : Int) by omega]
   exact ih (i + 1) fuel _ (by omega) (by omega) (by omega) hb hll
theorem s_Nums {l : List Int} (hl : ∀ x ∈ l, I64 x) (hb : (encL (encN 59) l).length ≤ 140737488355328) (hll : l.length < 4611686018427387904) : s_wire_Nums l = some (encL (encN 59) l) := by
 have h1 : I64 (l.length : Int) := ⟨by omega, by omega⟩
 have := itoa_len h1
 simp only [encL, List.length_append, List.length_singleton] at hb
 unfold s_wire_Nums s_wire_list
 rw [s_itoa_of h1, Option.bind_some, grd_of (by simp only [List.length_singleton]; omega), Option.bind_some, s_Write1 (by simp only [List.length_append, List.length_singleton]; omega), Option.bind_some]
 rw [show (0 : Int) = ((0 : Nat) : Int) from rfl, list_L l hl l.length 0 KK _ (by omega) (by omega) (by have := KK_big; omega) (by simp only [List.length_append, List.length_singleton, List.drop_zero]; omega) hll, Option.bind_some,
  s_Str (by simp only [List.length_append, List.length_singleton]; omega) (by simp only [List.length_append, List.length_singleton, List.drop_zero]; omega), Option.bind_some, grd_of (by simp only [List.length_append, List.length_singleton, List.drop_zero]; omega)]
 rfl
end Go.Proofs.YtpabacdeogeehaaGreatDoor
