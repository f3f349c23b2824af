/- The reference's sums, forms, records. -/
import Derived.Test.YtoflckochjijcaaGreatDoorYp
set_option linter.all false
set_option maxRecDepth 100000
namespace Go.Proofs.YtoflckochjijcaaGreatDoor.E
open Go Go.RowKit Go.Eng Go.EV Go.EQ Go.Lib
variable [Fuel]
theorem rsum_L (s : List UInt8) (hs : s.length ≤ 1099511627776) : ∀ (k i fuel n : Nat), k = s.length - i → i ≤ s.length → k < fuel → n < 2147483647 → s_greenbeltref03_Sum_L1 s fuel ((n : Int), (i : Int)) = some (((n + sumW i (s.drop i)) % 2147483647 : Nat) : Int) := by
 intro k
 induction k with
 | zero =>
  intro i fuel n hk hi hf hn
  obtain ⟨f, rfl⟩ : ∃ f, fuel = f + 1 := ⟨fuel - 1, by omega⟩
  have : i = s.length := by omega
  subst this
  rw [s_greenbeltref03_Sum_L1]
  simp [sumW, Nat.mod_eq_of_lt hn]
 | succ k ih =>
  intro i fuel n hk hi hf hn
  obtain ⟨f, rfl⟩ : ∃ f, fuel = f + 1 := ⟨fuel - 1, by omega⟩
  have hlt : i < s.length := by omega
  rw [s_greenbeltref03_Sum_L1]
  have hb : (s.getD i default).toNat < 256 := UInt8.toNat_lt _
  have hm : (s.getD i default).toNat * (i + 1) ≤ 256 * (i + 1) := Nat.mul_le_mul_right _ (by omega)
  have e1 : w64 ((i : Int) + 1) = ((i + 1 : Nat) : Int) := by rw [w64_id (by omega) (by omega)]; rfl
  have e0 : w64 (((s.getD i default).toNat : Int)) = ((s.getD i default).toNat : Int) := w64_id (by omega) (by omega)
  have e2 : w64 (((s.getD i default).toNat : Int) * ((i + 1 : Nat) : Int)) = (((s.getD i default).toNat * (i + 1) : Nat) : Int) := by
   rw [← Int.natCast_mul]; exact w64_id (by omega) (by omega)
  have e3 : w64 ((n : Int) + (((s.getD i default).toNat * (i + 1) : Nat) : Int)) = ((n + (s.getD i default).toNat * (i + 1) : Nat) : Int) := by
   rw [← Int.natCast_add]; exact w64_id (by omega) (by omega)
  have e4 : Int.tmod (((n + (s.getD i default).toNat * (i + 1) : Nat) : Int)) 2147483647 = (((n + (s.getD i default).toNat * (i + 1)) % 2147483647 : Nat) : Int) := by
   rw [Int.tmod_eq_emod_of_nonneg (by omega)]; rfl
  simp only [show decide (((n : Int), (i : Int)).2 < (s.length : Int)) = true by simp; omega, cond_true, idx_of hlt, Option.bind_some, e1, e0, e2, e3, e4]
  rw [ih (i + 1) f _ (by omega) (by omega) (by omega) (Nat.mod_lt _ (by omega)), drop_cons hlt, sumW]
  congr 2
  omega
theorem rsum_spec {s : List UInt8} (h : s.length ≤ 1099511627776) : s_greenbeltref03_Sum s = some (jsum s) := by
 unfold s_greenbeltref03_Sum
 have := rsum_L s h s.length 0 KK 0 (by omega) (by omega) (kk_lt (by omega)) (by omega)
 rw [show ((0 : Int), (0 : Int)) = (((0 : Nat) : Int), ((0 : Nat) : Int)) from rfl, this]
 simp [jsum]
theorem rform_spec {t : List UInt8} (h : t.length ≤ 1099511627776) : s_greenbeltref03_Form t = some (form t) := by
 unfold s_greenbeltref03_Form
 have h1 := jsum_lt t
 rw [r_Text (by omega), Option.bind_some, rsum_spec h, Option.bind_some, r_Num (jsum_ok t).1, Option.bind_some, if_neg (by omega)]
 have hl := form_len t h
 simp only [form, List.length_append] at hl
 rw [grd_of (by omega)]
 rfl
theorem rforms_L (l : List (List UInt8)) (hl : ∀ t ∈ l, t.length ≤ 1099511627776) (hl2 : l.length ≤ 1099511627776) (hs : (forms l).length ≤ 1099511627776) : ∀ (k i fuel : Nat), k = l.length - i → i ≤ l.length → k < fuel →
  s_greenbeltref03_Forms_L1 l fuel (forms (l.take i), (i : Int)) = some (forms l) := by
 intro k
 induction k with
 | zero =>
  intro i fuel hk hi hf
  obtain ⟨f, rfl⟩ : ∃ f, fuel = f + 1 := ⟨fuel - 1, by omega⟩
  have : i = l.length := by omega
  subst this
  rw [s_greenbeltref03_Forms_L1]
  simp
 | succ k ih =>
  intro i fuel hk hi hf
  obtain ⟨f, rfl⟩ : ∃ f, fuel = f + 1 := ⟨fuel - 1, by omega⟩
  have hlt : i < l.length := by omega
  have hm := hl _ (getD_mem hlt)
  have e1 : w64 ((i : Int) + 1) = ((i + 1 : Nat) : Int) := by rw [w64_id (by omega) (by omega)]; rfl
  have e2 : forms (l.take (i + 1)) = forms (l.take i) ++ form (l.getD i default) := by
   rw [← forms_one, ← forms_append]
   congr 1
   rw [List.take_succ, List.getElem?_eq_getElem hlt]
   simp [List.getD_eq_getElem?_getD, List.getElem?_eq_getElem hlt]
  have e3 : (forms (l.take (i + 1))).length ≤ (forms l).length := by
   conv => rhs; rw [← List.take_append_drop (i + 1) l, forms_append, List.length_append]
   omega
  rw [e2, List.length_append] at e3
  rw [s_greenbeltref03_Forms_L1]
  simp only [show decide ((i : Int) < (l.length : Int)) = true by simp; omega, cond_true, idx_of hlt, Option.bind_some, rform_spec hm, e1]
  rw [grd_of (by omega), Option.bind_some, ← e2]
  exact ih (i + 1) f (by omega) (by omega) (by omega)
theorem rforms_spec {l : List (List UInt8)} (hl : ∀ t ∈ l, t.length ≤ 1099511627776) (hs : (forms l).length ≤ 1099511627776) : s_greenbeltref03_Forms l = some (forms l) := by
 have hl2 := forms_length l
 unfold s_greenbeltref03_Forms
 have := rforms_L l hl (by omega) hs l.length 0 KK (by omega) (by omega) (kk_lt (by omega))
 simp only [List.take_zero] at this
 rw [show (([] : List UInt8), (0 : Int)) = (forms [], ((0 : Nat) : Int)) from rfl, this]
 rfl
theorem records_L : ∀ (k fuel : Nat) (out l : List (List UInt8)) (x : List UInt8), x.length ≤ k → k < fuel → out.length + x.length ≤ 1099511627776 → Parsed x l →
  ∃ z, s_greenbeltref03_Records_L1 fuel (out, x, false) = some z ∧ (z = .inl (out ++ l) ∨ z = .inr (out ++ l)) := by
 intro k
 induction k with
 | zero =>
  intro fuel out l x hk hf hb hl
  obtain ⟨f, rfl⟩ : ∃ f, fuel = f + 1 := ⟨fuel - 1, by omega⟩
  have : x = [] := List.eq_nil_of_length_eq_zero (by omega)
  subst this
  have := parsed_none hl dec_form_nil
  subst this
  rw [s_greenbeltref03_Records_L1]
  exact ⟨.inr out, by simp [s_greenbeltref01_Reader_Left], .inr (by simp)⟩
 | succ k ih =>
  intro fuel out l x hk hf hb hl
  obtain ⟨f, rfl⟩ : ∃ f, fuel = f + 1 := ⟨fuel - 1, by omega⟩
  rw [s_greenbeltref03_Records_L1]
  by_cases hx : x = []
  ·subst hx
   have := parsed_none hl dec_form_nil
   subst this
   exact ⟨.inr out, by simp [s_greenbeltref01_Reader_Left], .inr (by simp)⟩
  have hxp : 0 < x.length := List.length_pos_iff.2 hx
  dsimp only
  rw [show s_greenbeltref01_Reader_Left x false = some (x.length : Int) from rfl, Option.bind_some, show decide ((x.length : Int) > 0) = true by simp; omega, cond_true, rtext_spec (fun h => by cases h) (by omega), Option.bind_some]
  cases hD : Dec form okF x with
  | none =>
   have := parsed_none hl hD
   subst this
   refine ⟨.inl out, ?_, .inl (by simp)⟩
   cases hT : Dec encT okT x with
   | none =>
    simp only [rd_none]
    rw [rNum_spec (by simp), Option.bind_some, dec_num_nil, rd_none]
    rfl
   | some p =>
    obtain ⟨t, u⟩ := p
    obtain ⟨ht, hxe⟩ := Dec_is hT
    have hul : u.length ≤ x.length ∧ t.length ≤ x.length := by rw [hxe, encT]; simp; omega
    simp only [rd_some]
    rw [rNum_spec (by omega), Option.bind_some]
    cases hN : Dec (encN 59) (okN 0) u with
    | none => simp only [rd_none]; rfl
    | some p =>
     obtain ⟨n, v⟩ := p
     obtain ⟨hn, hue⟩ := Dec_is hN
     simp only [rd_some, cond_false]
     by_cases h1 : (t.length : Int) > 20000
     ·simp only [h1, decide_true, cond_true, Option.bind_some]
     ·simp only [h1, decide_false, cond_false]
      rw [rsum_spec (by omega), Option.bind_some]
      by_cases h2 : n = jsum t
      ·exact absurd (by rw [hxe, hue, h2, form, List.append_assoc]) (Dec_none hD t v (show t.length ≤ 20000 by omega))
      ·simp only [h2, decide_false, Bool.not_false, Option.bind_some, cond_true]
  | some p =>
   obtain ⟨t, v⟩ := p
   obtain ⟨ht, hxe⟩ := Dec_is hD
   obtain ⟨l', rfl, hl'⟩ := parsed_split hl hD
   have e1 : Dec encT okT x = some (t, encN 59 (jsum t) ++ v) := Dec_of pf_text (okT_of ht) (by rw [hxe, form, List.append_assoc])
   have e2 : Dec (encN 59) (okN 0) (encN 59 (jsum t) ++ v) = some (jsum t, v) := Dec_of (pf_num st59 0) (jsum_ok t) rfl
   have hfp := form_pos t
   have hvl : x.length = (form t).length + v.length := by rw [hxe, List.length_append]
   have hnl : (encN 59 (jsum t) ++ v).length ≤ x.length := by rw [hxe, form]; simp
   have ht' : t.length ≤ 20000 := ht
   rw [e1]
   simp only [rd_some]
   rw [rNum_spec (by omega), Option.bind_some, e2]
   simp only [rd_some, cond_false]
   have h1 : ¬ ((t.length : Int) > 20000) := by omega
   simp only [h1, decide_false, cond_false]
   rw [rsum_spec (by omega), Option.bind_some]
   simp only [decide_true, Bool.not_true, Option.bind_some, cond_false]
   obtain ⟨z, h1, h2⟩ := ih f (out ++ [t]) l' v (by omega) (by omega) (by simp only [List.length_append, List.length_singleton]; omega) hl'
   exact ⟨z, Option.bind_eq_some_iff.2 ⟨(), grd_ofI (by simp only [List.length_append, List.length_singleton]; omega), h1⟩, by simpa using h2⟩
theorem records_spec {s : List UInt8} {l : List (List UInt8)} (hs : s.length ≤ 1099511627776) (h : Parsed s l) : s_greenbeltref03_Records s = some l := by
 unfold s_greenbeltref03_Records
 rw [show s_greenbeltref01_Open s = some (s, false) from rfl, Option.bind_some]
 obtain ⟨z, h1, h2⟩ := records_L s.length KK [] l s (Nat.le_refl _) (kk_lt (by omega)) (by simpa using hs) h
 rw [h1, Option.bind_some]
 rcases h2 with rfl | rfl <;> rfl
end Go.Proofs.YtoflckochjijcaaGreatDoor.E
