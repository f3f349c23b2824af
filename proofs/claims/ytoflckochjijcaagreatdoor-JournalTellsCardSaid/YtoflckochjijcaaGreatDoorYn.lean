/- Sums, forms, the code's reading. -/
import Derived.Test.YtoflckochjijcaaGreatDoorYm
set_option linter.all false
set_option maxRecDepth 100000
namespace Go.Proofs.YtoflckochjijcaaGreatDoor.E
open Go Go.RowKit Go.Eng Go.EV Go.EQ Go.Lib
variable [Fuel]
theorem grd_ofI {p : Prop} {i : Decidable p} (h : p) : @grd p i = some () := if_pos h
def sumW : Nat → List UInt8 → Nat
 | _, [] => 0
 | i, b :: r => b.toNat * (i + 1) + sumW (i + 1) r
def jsum (s : List UInt8) : Int := ((sumW 0 s % 2147483647 : Nat) : Int)
theorem kk_lt {n : Nat} (h : n < 18446744073709551616) : n < KK := Nat.lt_of_lt_of_le h Fuel.big
theorem kk_succ : ∃ k, KK = k + 1 := ⟨KK - 1, by have := kk_lt (n := 0) (by omega); omega⟩
theorem sum_L (s : List UInt8) (hs : s.length ≤ 1099511627776) : ∀ (k i fuel n : Nat), k = s.length - i → i ≤ s.length → k < fuel → n < 2147483647 → s_journal_Sum_L1 s (s.length : Int) fuel ((n : Int), (i : Int)) = some (((n + sumW i (s.drop i)) % 2147483647 : Nat) : Int) := by
 intro k
 induction k with
 | zero =>
  intro i fuel n hk hi hf hn
  obtain ⟨f, rfl⟩ : ∃ f, fuel = f + 1 := ⟨fuel - 1, by omega⟩
  have : i = s.length := by omega
  subst this
  rw [s_journal_Sum_L1]
  simp [sumW, Nat.mod_eq_of_lt hn]
 | succ k ih =>
  intro i fuel n hk hi hf hn
  obtain ⟨f, rfl⟩ : ∃ f, fuel = f + 1 := ⟨fuel - 1, by omega⟩
  have hlt : i < s.length := by omega
  rw [s_journal_Sum_L1]
  have hb : (s.getD i default).toNat < 256 := UInt8.toNat_lt _
  have hm : (s.getD i default).toNat * (i + 1) ≤ 256 * (i + 1) := Nat.mul_le_mul_right _ (by omega)
  have e1 : w64 ((i : Int) + 1) = ((i + 1 : Nat) : Int) := by rw [w64_id (by omega) (by omega)]; rfl
  have e0 : w64 (((s.getD i default).toNat : Int)) = ((s.getD i default).toNat : Int) := w64_id (by omega) (by omega)
  have e2 : w64 (((s.getD i default).toNat : Int) * ((i + 1 : Nat) : Int)) = (((s.getD i default).toNat * (i + 1) : Nat) : Int) := by
   rw [← Int.natCast_mul]; exact w64_id (by omega) (by omega)
  have e3 : w64 ((n : Int) + (((s.getD i default).toNat * (i + 1) : Nat) : Int)) = ((n + (s.getD i default).toNat * (i + 1) : Nat) : Int) := by
   rw [← Int.natCast_add]; exact w64_id (by omega) (by omega)
  have e4 : Int.tmod (((n + (s.getD i default).toNat * (i + 1) : Nat) : Int)) 2147483647 = (((n + (s.getD i default).toNat * (i + 1)) % 2147483647 : Nat) : Int) := by
   rw [Int.tmod_eq_emod_of_nonneg (by omega)]; rfl
  simp only [show decide (((n : Int), (i : Int)).2 < (s.length : Int)) = true by simp; omega, cond_true, idx_of hlt, Option.bind_some, e1, e0, e2, e3, e4]
  rw [ih (i + 1) f _ (by omega) (by omega) (by omega) (Nat.mod_lt _ (by omega)), drop_cons hlt, sumW]
  congr 2
  omega
theorem sum_spec {s : List UInt8} (h : s.length ≤ 1099511627776) : s_journal_Sum s = some (jsum s) := by
 unfold s_journal_Sum
 have := sum_L s h s.length 0 KK 0 (by omega) (by omega) (kk_lt (by omega)) (by omega)
 rw [show ((0 : Int), (0 : Int)) = (((0 : Nat) : Int), ((0 : Nat) : Int)) from rfl, this]
 simp [jsum]
def form (t : List UInt8) : List UInt8 := encT t ++ encN 59 (jsum t)
def okF (t : List UInt8) : Prop := t.length ≤ 20000
theorem jsum_lt (t : List UInt8) : 0 ≤ jsum t ∧ jsum t < 2147483647 := by
 unfold jsum
 have := Nat.mod_lt (sumW 0 t) (show 0 < 2147483647 by omega)
 omega
theorem jsum_ok (t : List UInt8) : okN 0 (jsum t) := ⟨⟨by have := jsum_lt t; omega, by have := jsum_lt t; omega⟩, (jsum_lt t).1⟩
theorem encT_len (t : List UInt8) (h : t.length ≤ 1099511627776) : (encT t).length ≤ t.length + 22 := by
 simp only [encT, List.length_append, List.length_singleton]
 have := itoa_len (n := (t.length : Int)) ⟨by omega, by omega⟩
 omega
theorem encN_len {n : Int} (h : I64 n) : (encN 59 n).length ≤ 21 := by
 simp only [encN, List.length_append, List.length_singleton]
 have := itoa_len h
 omega
theorem form_len (t : List UInt8) (h : t.length ≤ 1099511627776) : (form t).length ≤ t.length + 43 := by
 have h1 := encT_len t h
 have h2 := encN_len (jsum_ok t).1
 simp only [form, List.length_append]; omega
theorem form_pos (t : List UInt8) : 1 ≤ (form t).length := by
 simp only [form, encT, List.length_append, List.length_singleton]; omega
theorem form_spec {t : List UInt8} (h : t.length ≤ 1099511627776) : s_journal_form t = some (form t) := by
 unfold s_journal_form
 have h1 := jsum_lt t
 rw [s_Text (by omega), Option.bind_some, sum_spec h, Option.bind_some, s_Num (jsum_ok t).1, Option.bind_some, if_neg (by omega)]
 have hl := form_len t h
 simp only [form, List.length_append] at hl
 rw [grd_of (by omega)]
 rfl
theorem st59 : stop 59 := ⟨by decide, by decide⟩
theorem okT_of {t : List UInt8} (h : okF t) : okT t := by unfold okF at h; unfold okT; omega
theorem pf_form : PF form okF := fun x y t u hx hy hh => by
 simp only [form, List.append_assoc] at hh
 obtain ⟨rfl, h2⟩ := pf_text _ _ _ _ (okT_of hx) (okT_of hy) hh
 exact ⟨rfl, List.append_cancel_left h2⟩
def forms (l : List (List UInt8)) : List UInt8 := l.flatMap form
theorem forms_append (a b : List (List UInt8)) : forms (a ++ b) = forms a ++ forms b := by simp [forms]
theorem forms_one (t : List UInt8) : forms [t] = form t := by simp [forms]
theorem forms_cons (t : List UInt8) (l : List (List UInt8)) : forms (t :: l) = form t ++ forms l := by simp [forms]
theorem forms_length (l : List (List UInt8)) : l.length ≤ (forms l).length := by
 induction l with
 | nil => simp
 | cons t l ih => rw [forms_cons, List.length_append, List.length_cons]; have := form_pos t; omega
def Parsed (s : List UInt8) (l : List (List UInt8)) : Prop := (∀ t ∈ l, okF t) ∧ ∃ v, s = forms l ++ v ∧ Dec form okF v = none
theorem dec_form_nil : Dec form okF [] = none := Dec_no fun t u _ h => by
 have := form_pos t
 have := congrArg List.length h
 simp at this; omega
theorem parsed_nil {s : List UInt8} (h : Dec form okF s = none) : Parsed s [] := ⟨(fun _ h => nomatch h), s, rfl, h⟩
theorem parsed_cons {t v : List UInt8} {l : List (List UInt8)} (h : okF t) (hl : Parsed v l) : Parsed (form t ++ v) (t :: l) := by
 obtain ⟨h2, u, rfl, h3⟩ := hl
 refine ⟨fun x hx => ?_, u, by rw [forms_cons, List.append_assoc], h3⟩
 rcases List.mem_cons.1 hx with rfl | hx
 ·exact h
 ·exact h2 x hx
theorem parsed_ex : ∀ (n : Nat) (s : List UInt8), s.length ≤ n → ∃ l, Parsed s l := by
 intro n
 induction n with
 | zero =>
  intro s hs
  have : s = [] := List.eq_nil_of_length_eq_zero (by omega)
  subst this
  exact ⟨[], parsed_nil dec_form_nil⟩
 | succ n ih =>
  intro s hs
  cases hD : Dec form okF s with
  | none => exact ⟨[], parsed_nil hD⟩
  | some p =>
   obtain ⟨t, v⟩ := p
   obtain ⟨h1, rfl⟩ := Dec_is hD
   have := form_pos t
   obtain ⟨l, h⟩ := ih v (by simp only [List.length_append] at hs; omega)
   exact ⟨t :: l, parsed_cons h1 h⟩
theorem parsed_split {s t v : List UInt8} {l : List (List UInt8)} (h : Parsed s l) (hD : Dec form okF s = some (t, v)) : ∃ k, l = t :: k ∧ Parsed v k := by
 obtain ⟨h1, u, rfl, h3⟩ := h
 cases l with
 | nil => rw [show forms [] ++ u = u from rfl, h3] at hD; cases hD
 | cons x k =>
  have hx := h1 x (List.mem_cons_self ..)
  rw [forms_cons, List.append_assoc, Dec_of pf_form hx rfl] at hD
  cases hD
  exact ⟨k, rfl, fun y hy => h1 y (List.mem_cons_of_mem _ hy), u, rfl, h3⟩
theorem parsed_none {s : List UInt8} {l : List (List UInt8)} (h : Parsed s l) (hD : Dec form okF s = none) : l = [] := by
 obtain ⟨h1, u, rfl, h3⟩ := h
 cases l with
 | nil => rfl
 | cons x k =>
  have hx := h1 x (List.mem_cons_self ..)
  rw [forms_cons, List.append_assoc, Dec_of pf_form hx rfl] at hD
  cases hD
theorem read_cmp (s x : List UInt8) (p : Nat) (hp : p ≤ s.length) (hx : s.drop p = x) (hs : s.length ≤ 1099511627776) (t : List UInt8) (n : Int) (ht : t.length ≤ 1099511627776) :
  ∃ b, (bif (decide ((List.length t : Int) > 20000)) then some (decide ((List.length t : Int) > 20000)) else (s_journal_Sum t).bind fun y5 => (bif (!(decide (n = y5))) then some (!(decide (n = y5))) else (bif (decide ((w64 ((List.length s : Int) - (p : Int))) < (List.length (form t) : Int))) then some (decide ((w64 ((List.length s : Int) - (p : Int))) < (List.length (form t) : Int))) else (cut s (p : Int) (w64 ((p : Int) + (List.length (form t) : Int)))).bind fun x2 => some (!(decide (x2 = form t)))))) = some b ∧
   (b = false ↔ okF t ∧ n = jsum t ∧ ∃ v, x = form t ++ v) := by
 have hfl := form_len t ht
 have hxl : x.length = s.length - p := by rw [← hx, List.length_drop]
 by_cases h1 : t.length ≤ 20000
 ·rw [show decide ((t.length : Int) > 20000) = false by simp; omega, cond_false, sum_spec ht, Option.bind_some]
  by_cases h2 : n = jsum t
  ·rw [show (!(decide (n = jsum t))) = false by simp [h2], cond_false, w64_id (by omega) (by omega)]
   by_cases h3 : (form t).length ≤ x.length
   ·rw [show decide (((s.length : Int) - (p : Int)) < ((form t).length : Int)) = false by simp; omega, cond_false, w64_id (by omega) (by omega)]
    have hc : cut s (p : Int) ((p : Int) + ((form t).length : Int)) = some (x.take (form t).length) := by
     unfold cut
     rw [if_pos ⟨by omega, by omega, by omega⟩, ← hx]
     congr 1
     rw [show ((p : Int) + ((form t).length : Int)).toNat = p + (form t).length by omega, show ((p : Int)).toNat = p by omega, List.drop_take]
     congr 1; omega
    rw [hc, Option.bind_some]
    refine ⟨_, rfl, ?_⟩
    simp only [Bool.not_eq_false', decide_eq_true_eq]
    constructor
    ·intro h
     exact ⟨h1, h2, x.drop (form t).length, by conv => lhs; rw [← List.take_append_drop (form t).length x, h]⟩
    ·rintro ⟨_, _, v, rfl⟩
     simp
   ·rw [show decide (((s.length : Int) - (p : Int)) < ((form t).length : Int)) = true by simp; omega, cond_true]
    refine ⟨true, rfl, ?_⟩
    simp only [Bool.true_eq_false, false_iff, not_and, not_exists]
    intro _ _ v h
    have := congrArg List.length h
    simp at this; omega
  ·rw [show (!(decide (n = jsum t))) = true by simp [h2], cond_true]
   exact ⟨true, rfl, by simp [h2]⟩
 ·rw [show decide ((t.length : Int) > 20000) = true by simp; omega, cond_true]
  exact ⟨true, rfl, by simp [okF, h1]⟩
theorem read_L (s : List UInt8) (hs : s.length ≤ 1099511627776) : ∀ (k fuel : Nat) (a l : List (List UInt8)) (x : List UInt8), x.length ≤ k → k < fuel → s = forms a ++ x → Parsed x l →
  s_journal_read_L1 s fuel (((forms a).length : Int), a) = some (((forms (a ++ l)).length : Int), a ++ l) := by
 intro k
 induction k with
 | zero =>
  intro fuel a l x hk hf he hl
  obtain ⟨f, rfl⟩ : ∃ f, fuel = f + 1 := ⟨fuel - 1, by omega⟩
  have : x = [] := List.eq_nil_of_length_eq_zero (by omega)
  subst this
  have := parsed_none hl dec_form_nil
  subst this
  rw [s_journal_read_L1, he]
  simp
 | succ k ih =>
  intro fuel a l x hk hf he hl
  obtain ⟨f, rfl⟩ : ∃ f, fuel = f + 1 := ⟨fuel - 1, by omega⟩
  by_cases hx0 : x = []
  ·subst hx0
   have := parsed_none hl dec_form_nil
   subst this
   rw [s_journal_read_L1, he]
   simp
  have hxp : 0 < x.length := List.length_pos_iff.2 hx0
  have hsl : s.length = (forms a).length + x.length := by rw [he, List.length_append]
  have hdr : s.drop (forms a).length = x := by rw [he]; simp
  have hxl : x.length ≤ 140737488355328 := by omega
  rw [s_journal_read_L1]
  simp only [show decide (((forms a).length : Int) < (s.length : Int)) = true by simp; omega, cond_true]
  rw [cut_dr (by omega), Option.bind_some, hdr, show s_wire_Open x = some (x, false) from rfl, Option.bind_some]
  dsimp only
  rw [text_spec (fun h => by cases h) hxl, Option.bind_some]
  have hrd : (rd (Dec encT okT x) [] false).1.length ≤ x.length ∧ (rd (Dec encT okT x) [] false).2.1.length ≤ x.length := by
   cases hT : Dec encT okT x with
   | none => simp [rd]
   | some p =>
    obtain ⟨t, u⟩ := p
    obtain ⟨_, rfl⟩ := Dec_is hT
    simp only [rd, encT, List.length_append, List.length_singleton]; omega
  rw [Num_spec (by omega), Option.bind_some, form_spec (by omega), Option.bind_some]
  obtain ⟨b, hb, hb2⟩ := read_cmp s x (forms a).length (by omega) hdr hs (rd (Dec encT okT x) [] false).1 (rd (Dec (encN 59) (okN 0) (rd (Dec encT okT x) [] false).2.1) 0 (rd (Dec encT okT x) [] false).2.2).1 (by omega)
  rw [hb, Option.bind_some]
  cases hD : Dec form okF x with
  | none =>
   have := parsed_none hl hD
   subst this
   have hbt : b = true := by
    cases b with
    | true => rfl
    | false =>
     obtain ⟨h1, _, v, h3⟩ := hb2.1 rfl
     exact absurd h3 (Dec_none hD _ _ h1)
   subst hbt
   simp
  | some p =>
   obtain ⟨t, v⟩ := p
   obtain ⟨ht, hxe⟩ := Dec_is hD
   obtain ⟨l', rfl, hl'⟩ := parsed_split hl hD
   have e1 : Dec encT okT x = some (t, encN 59 (jsum t) ++ v) := Dec_of pf_text (okT_of ht) (by rw [hxe, form, List.append_assoc])
   have e2 : Dec (encN 59) (okN 0) (encN 59 (jsum t) ++ v) = some (jsum t, v) := Dec_of (pf_num st59 0) (jsum_ok t) rfl
   have hbf : b = false := hb2.2 (by
    rw [e1]
    simp only [rd, e2]
    exact ⟨ht, trivial, v, hxe⟩)
   subst hbf
   rw [e1]
   simp only [rd, cond_false]
   have hfp := form_pos t
   have hvl : x.length = (form t).length + v.length := by rw [hxe, List.length_append]
   have hal := forms_length (a ++ [t])
   have hfa : (forms (a ++ [t])).length = (forms a).length + (form t).length := by rw [forms_append, forms_one, List.length_append]
   refine Option.bind_eq_some_iff.2 ⟨(), grd_ofI (by omega), ?_⟩
   rw [w64_id (by omega) (by omega)]
   have := ih f (a ++ [t]) l' v (by omega) (by omega) (by rw [forms_append, forms_one, List.append_assoc, ← hxe, he]) hl'
   rw [hfa, Int.natCast_add] at this
   rw [this]
   simp
theorem read_spec {s : List UInt8} {l : List (List UInt8)} (hs : s.length ≤ 1099511627776) (h : Parsed s l) : s_journal_read s = some (((forms l).length : Int), l) := by
 unfold s_journal_read
 have := read_L s hs s.length KK [] l s (Nat.le_refl _) (kk_lt (by omega)) rfl h
 simp only [forms, List.flatMap_nil, List.length_nil, List.nil_append] at this
 rw [show ((0 : Int), ([] : List (List UInt8))) = (((0 : Nat) : Int), []) from rfl, this]
 rfl
end Go.Proofs.YtoflckochjijcaaGreatDoor.E
