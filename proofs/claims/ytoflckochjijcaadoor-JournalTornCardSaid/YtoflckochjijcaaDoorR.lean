/- What all statements have in common: comparing lists, the bounds, the examples of the documentation; JournalReads. -/
import Derived.Test.YtoflckochjijcaaDoorQ
import Derived.Test.YtoflckochjijcaaDoorLbD
set_option linter.all false
set_option maxRecDepth 100000
namespace Go.Proofs.YtoflckochjijcaaDoor
open Go Go.RowKit Go.Eng Go.EV Go.Lib
variable [Fuel]
theorem same_L (a b : List (List UInt8)) (hl : a.length = b.length) (hs : a.length ≤ 1099511627776) : ∀ (k i fuel : Nat), k = a.length - i → i ≤ a.length → k < fuel → s_greenbeltref01_SameTexts_L1 a b fuel (i : Int) = some (if a.drop i = b.drop i then .inr () else .inl false) := by
 intro k
 induction k with
 | zero =>
  intro i fuel hk hi hf
  obtain ⟨f, rfl⟩ : ∃ f, fuel = f + 1 := ⟨fuel - 1, by omega⟩
  rw [s_greenbeltref01_SameTexts_L1]
  rw [show decide ((i : Int) < (a.length : Int)) = false by simp; omega, cond_false, List.drop_eq_nil_of_le (by omega), List.drop_eq_nil_of_le (by omega)]
  rfl
 | succ k ih =>
  intro i fuel hk hi hf
  obtain ⟨f, rfl⟩ : ∃ f, fuel = f + 1 := ⟨fuel - 1, by omega⟩
  have hlt : i < a.length := by omega
  have hlb : i < b.length := by omega
  rw [s_greenbeltref01_SameTexts_L1]
  rw [show decide ((i : Int) < (a.length : Int)) = true by simp; omega, cond_true, idx_of hlt, Option.bind_some, idx_of hlb, Option.bind_some, w64_id (by omega) (by omega)]
  rw [drop_cons hlt, drop_cons hlb]
  by_cases he : a.getD i default = b.getD i default
  ·rw [show (!decide (a.getD i default = b.getD i default)) = false by simp only [he, decide_true, Bool.not_true], cond_false]
   have := ih (i + 1) f (by omega) (by omega) (by omega)
   rw [show ((i : Int) + 1) = ((i + 1 : Nat) : Int) from rfl, this, he]
   simp
  ·rw [show (!decide (a.getD i default = b.getD i default)) = true by simp only [he, decide_false, Bool.not_false], cond_true, if_neg (fun h => he (List.cons.inj h).1)]
theorem same_spec {a b : List (List UInt8)} (hs : a.length ≤ 1099511627776) : s_greenbeltref01_SameTexts a b = some (decide (a = b)) := by
 unfold s_greenbeltref01_SameTexts
 by_cases hl : a.length = b.length
 ·rw [show (!decide ((a.length : Int) = (b.length : Int))) = false by simp [hl], cond_false]
  have := same_L a b hl hs a.length 0 KK (by omega) (by omega) (kk_lt (by omega))
  rw [show ((0 : Int)) = ((0 : Nat) : Int) from rfl, this]
  simp only [List.drop_zero, Option.bind_some]
  by_cases h : a = b
  ·simp [h]
  ·simp [h]
 ·rw [show (!decide ((a.length : Int) = (b.length : Int))) = true by simp; omega, cond_true]
  have : a ≠ b := fun h => hl (by rw [h])
  simp [this]
theorem texts_L (l : List (List UInt8)) (hs : l.length ≤ 9223372036854775807) : ∀ (k i fuel : Nat), k = l.length - i → i ≤ l.length → k < fuel → s_greenbeltlaw03_texts_L1 l fuel (i : Int) = some (.inl false) ∨ (s_greenbeltlaw03_texts_L1 l fuel (i : Int) = some (.inr ()) ∧ ∀ o ∈ l.drop i, o.length ≤ 200) := by
 intro k
 induction k with
 | zero =>
  intro i fuel hk hi hf
  obtain ⟨f, rfl⟩ : ∃ f, fuel = f + 1 := ⟨fuel - 1, by omega⟩
  right
  rw [s_greenbeltlaw03_texts_L1]
  rw [show decide ((i : Int) < (l.length : Int)) = false by simp; omega, cond_false, List.drop_eq_nil_of_le (by omega)]
  exact ⟨rfl, fun o ho => by cases ho⟩
 | succ k ih =>
  intro i fuel hk hi hf
  obtain ⟨f, rfl⟩ : ∃ f, fuel = f + 1 := ⟨fuel - 1, by omega⟩
  have hlt : i < l.length := by omega
  rw [s_greenbeltlaw03_texts_L1]
  rw [show decide ((i : Int) < (l.length : Int)) = true by simp; omega, cond_true, idx_of hlt, Option.bind_some, w64_id (by omega) (by omega)]
  rw [drop_cons hlt]
  by_cases h1 : (l.getD i default).length ≤ 200
  ·rw [show decide (((l.getD i default).length : Int) > 200) = false from decide_eq_false (by omega), cond_false]
   rcases ih (i + 1) f (by omega) (by omega) (by omega) with h | ⟨h, h3⟩
   ·exact .inl h
   ·refine .inr ⟨h, fun o ho => ?_⟩
    rcases List.mem_cons.1 ho with rfl | ho
    ·exact h1
    ·exact h3 o ho
  ·rw [show decide (((l.getD i default).length : Int) > 200) = true from decide_eq_true (by omega), cond_true]
   exact .inl rfl
theorem texts_spec {l : List (List UInt8)} (hs : l.length ≤ 9223372036854775807) : ∃ b, s_greenbeltlaw03_texts l = some b ∧ (b = true → l.length ≤ 8 ∧ ∀ o ∈ l, o.length ≤ 200) := by
 unfold s_greenbeltlaw03_texts
 rcases texts_L l hs l.length 0 KK (by omega) (by omega) (kk_lt (by omega)) with h | ⟨h, h2⟩
 ·rw [show ((0 : Int)) = ((0 : Nat) : Int) from rfl, h]
  exact ⟨false, rfl, fun h => by cases h⟩
 ·rw [show ((0 : Int)) = ((0 : Nat) : Int) from rfl, h]
  exact ⟨_, rfl, fun h => ⟨by have := of_decide_eq_true h; omega, fun o ho => h2 o (by rwa [List.drop_zero])⟩⟩
/- the examples -/
theorem form_ab : form [97, 98] = [50, 58, 97, 98, 44, 50, 57, 51, 59] := by
 simp [form, encT, encN, jsum, sumW, itoa, decDigits]
theorem form_e : form [] = [48, 58, 44, 48, 59] := by
 simp [form, encT, encN, jsum, sumW, itoa, decDigits]
theorem nil_dec : Parsed [] [] := parsed_nil dec_form_nil
theorem bad_dec : Dec form okF [49, 58, 97, 44, 57, 56, 59] = none := Dec_no fun t u ht h => by
 have e : encT [97] ++ [57, 56, 59] = encT t ++ (encN 59 (jsum t) ++ u) := by
  rw [← List.append_assoc, ← form, ← h]
  simp [encT, itoa, decDigits]
 obtain ⟨rfl, h2⟩ := pf_text _ _ _ _ (by simp [okT]) (okT_of ht) e
 simp [encN, jsum, sumW, itoa, decDigits] at h2
theorem qok_nil (n : Nat) : QOK n [] := ⟨Nat.zero_le _, fun _ h => by cases h⟩
theorem j_nil : jsum [] = 0 := by simp [jsum, sumW]
theorem j_a : jsum [97] = 97 := by simp [jsum, sumW]
theorem j_ab : jsum [97, 98] = 293 := by simp [jsum, sumW]
abbrev litS : List UInt8 := [50, 58, 97, 98, 44, 50, 57, 51, 59, 49, 58, 97, 44, 57, 56, 59]
theorem lit_parsed : Parsed litS [[97, 98]] := by
 have := parsed_cons (t := [97, 98]) (by simp [okF]) (parsed_nil bad_dec)
 rw [form_ab] at this
 exact this
theorem small_spec : s_greenbeltlaw03_small = some true := by
 have l1 : (form [97, 98]).length = 9 := by rw [form_ab]; rfl
 have l2 : (form []).length = 5 := by rw [form_e]; rfl
 obtain ⟨q1, t1, e1, hq1, ht1⟩ := open_p1 (F := []) (Q := []) (S := []) (a := 0) (f := 3) (keep := []) (js := []) (n := 0) (x := []) (l := []) (by decide) (by decide) (by decide) (by decide) (by decide) (qok_nil 0) (by decide) List.nodup_nil rfl (by decide) nil_dec rfl
 let F1 : List (Int × disk_file) := mset 3 ⟨[], []⟩ []
 have s1 : k_open ⟨⟨[], [], [], 0, false, 0, []⟩, []⟩ 3 = some ((1, 0), ⟨⟨F1, q1, t1, 0, false, 0, []⟩, [⟨3, [], ((([] : List UInt8).length : Nat) : Int), false⟩]⟩) := e1
 obtain ⟨q2, t2, e2, hq2, ht2⟩ := append_ok (F := F1) (Q := q1) (S := t1) (lost := 0) (a := 0) (keep := []) (js := [⟨3, [], ((([] : List UInt8).length : Nat) : Int), false⟩]) (n := 0) (jn := 1) (r := [97, 98]) (jf := 3) (recs := []) (x := []) (by decide) (by decide) rfl (by decide) (by rw [l1]; decide) (by decide) (by decide) (by decide) (by decide) (by decide) rfl hq1 ht1 (by decide)
 let F2 : List (Int × disk_file) := mset 3 ⟨form [97, 98], []⟩ F1
 have s2 : k_append ⟨⟨F1, q1, t1, 0, false, 0, []⟩, [⟨3, [], ((([] : List UInt8).length : Nat) : Int), false⟩]⟩ 1 [97, 98] = some (0, ⟨⟨F2, q2, t2, 0, false, 0, []⟩, [⟨3, [[97, 98]], ((form [97, 98]).length : Int), false⟩]⟩) := e2
 obtain ⟨q3, t3, e3, hq3, ht3⟩ := append_ok (F := F2) (Q := q2) (S := t2) (lost := 0) (a := 0) (keep := []) (js := [⟨3, [[97, 98]], ((form [97, 98]).length : Int), false⟩]) (jn := 1) (r := []) (jf := 3) (recs := [[97, 98]]) (x := form [97, 98]) (by decide) (by decide) rfl (by decide) (by rw [l1, l2]; decide) (by decide) (by decide) (by decide) (by decide) (by decide) rfl hq2 ht2 (by rw [l1]; decide)
 let F3 : List (Int × disk_file) := mset 3 ⟨form [97, 98] ++ form [], []⟩ F2
 have s3 : k_append ⟨⟨F2, q2, t2, 0, false, 0, []⟩, [⟨3, [[97, 98]], ((form [97, 98]).length : Int), false⟩]⟩ 1 [] = some (0, ⟨⟨F3, q3, t3, 0, false, 0, []⟩, [⟨3, [[97, 98], []], ((form [97, 98] ++ form []).length : Int), false⟩]⟩) := e3
 have s4 := kread_spec (F := F3) (Q := q3) (S := t3) (lost := 0) (a := 0) (f := 3) (keep := []) (js := [⟨3, [[97, 98], []], ((form [97, 98] ++ form []).length : Int), false⟩]) (s := form [97, 98] ++ form []) (m := 99) (by decide) (by decide) rfl (by rw [List.length_append, l1, l2]; decide)
 obtain ⟨q4, t4, e4, hq4, ht4⟩ := kwrite_spec (F := F3) (Q := q3) (S := t3) (lost := 0) (a := 0) (f := 4) (keep := []) (js := [⟨3, [[97, 98], []], ((form [97, 98] ++ form []).length : Int), false⟩]) (s := litS) (x := []) (by decide) (by decide) (by decide) (by decide) (by decide) rfl (by decide) (by decide) hq3 ht3 (by rw [l1, l2]; decide)
 let F4 : List (Int × disk_file) := mset 4 ⟨litS, []⟩ F3
 have s5 : k_write ⟨⟨F3, q3, t3, 0, false, 0, []⟩, [⟨3, [[97, 98], []], ((form [97, 98] ++ form []).length : Int), false⟩]⟩ 4 0 litS = some (0, ⟨⟨F4, q4, t4, 0, false, 0, []⟩, [⟨3, [[97, 98], []], ((form [97, 98] ++ form []).length : Int), false⟩]⟩) := e4
 have hfo : forms [[97, 98]] = form [97, 98] := forms_one _
 obtain ⟨q5, t5, e5, hq5, ht5⟩ := open_p2 (F := F4) (Q := q4) (S := t4) (a := 0) (f := 4) (keep := []) (js := [⟨3, [[97, 98], []], ((form [97, 98] ++ form []).length : Int), false⟩]) (x := litS) (l := [[97, 98]]) (by decide) (by decide) (by decide) (by decide) (by decide) (by decide) hq4 (by rw [l1, l2]; decide) ht4 rfl (by decide) lit_parsed (by rw [hfo, l1]; decide)
 let F5 : List (Int × disk_file) := mset 4 ⟨forms [[97, 98]], forms [[97, 98]]⟩ (mset 4 ⟨litS, litS⟩ F4)
 let J5 : List Jrn := [⟨3, [[97, 98], []], ((form [97, 98] ++ form []).length : Int), false⟩, ⟨4, [[97, 98]], ((forms [[97, 98]]).length : Int), false⟩]
 have s6 : k_open ⟨⟨F4, q4, t4, 0, false, 0, []⟩, [⟨3, [[97, 98], []], ((form [97, 98] ++ form []).length : Int), false⟩]⟩ 4 = some ((2, 0), ⟨⟨F5, q5, t5, 0, false, 0, []⟩, J5⟩) := e5
 have s7 : k_len ⟨⟨F5, q5, t5, 0, false, 0, []⟩, J5⟩ 1 = some (2, ⟨⟨F5, q5, t5, 0, false, 0, []⟩, J5⟩) := len_spec (j := ⟨3, [[97, 98], []], ((form [97, 98] ++ form []).length : Int), false⟩) (show (2 : Nat) < 400000 by decide) (by decide) rfl
 have s8 : k_get ⟨⟨F5, q5, t5, 0, false, 0, []⟩, J5⟩ 1 0 = some ([97, 98], ⟨⟨F5, q5, t5, 0, false, 0, []⟩, J5⟩) := get_spec (j := ⟨3, [[97, 98], []], ((form [97, 98] ++ form []).length : Int), false⟩) (show (2 : Nat) < 400000 by decide) (by decide) rfl (by decide)
 have s9 : k_all ⟨⟨F5, q5, t5, 0, false, 0, []⟩, J5⟩ 2 = some ([[97, 98]], ⟨⟨F5, q5, t5, 0, false, 0, []⟩, J5⟩) := all_spec (j := ⟨4, [[97, 98]], ((forms [[97, 98]]).length : Int), false⟩) (show (2 : Nat) < 400000 by decide) (by decide) rfl (by decide)
 have s10 : k_size ⟨⟨F5, q5, t5, 0, false, 0, []⟩, J5⟩ 4 = some (((forms [[97, 98]]).length : Int), ⟨⟨F5, q5, t5, 0, false, 0, []⟩, J5⟩) := ksize_spec (show (2 : Nat) < 400000 by decide)
 have c1 : decide (form [97, 98] ++ form [] = ([50, 58, 97, 98, 44, 50, 57, 51, 59, 48, 58, 44, 48, 59] : List UInt8)) = true := by rw [form_ab, form_e]; rfl
 have c2 : s_greenbeltref01_SameTexts [[97, 98]] [([97, 98] : List UInt8)] = some true := by rw [same_spec (by decide)]; rfl
 have c3 : decide (((forms [[97, 98]]).length : Int) = 9) = true := by rw [hfo, l1]; rfl
 have s4' : k_read ⟨⟨F3, q3, t3, 0, false, 0, []⟩, [⟨3, [[97, 98], []], ((form [97, 98] ++ form []).length : Int), false⟩]⟩ 3 0 99 = some ((form [97, 98] ++ form [], 0), ⟨⟨F3, q3, t3, 0, false, 0, []⟩, [⟨3, [[97, 98], []], ((form [97, 98] ++ form []).length : Int), false⟩]⟩) := s4
 unfold s_greenbeltlaw03_small
 rw [show k_new = some ((), ⟨⟨[], [], [], 0, false, 0, []⟩, []⟩) from rfl, Option.bind_some, s1, Option.bind_some]
 rw [show decide ((((1 : Nat), (0 : Int)), (⟨⟨F1, q1, t1, 0, false, 0, []⟩, [⟨3, [], ((([] : List UInt8).length : Nat) : Int), false⟩]⟩ : Wd)).1.1 = 0) = false from rfl, cond_false, s2, Option.bind_some, s3, Option.bind_some, s4', Option.bind_some, s5, Option.bind_some, s6, Option.bind_some]
 rw [show decide ((((2 : Nat), (0 : Int)), (⟨⟨F5, q5, t5, 0, false, 0, []⟩, J5⟩ : Wd)).1.1 = 0) = false from rfl, cond_false]
 rw [sum_spec (by decide), sum_spec (by decide), sum_spec (by decide), j_nil, j_a, j_ab]
 simp only [Option.bind_some, decide_true, cond_true, c1, s7, s8, s9, c2, s10, c3]
end Go.Proofs.YtoflckochjijcaaDoor
