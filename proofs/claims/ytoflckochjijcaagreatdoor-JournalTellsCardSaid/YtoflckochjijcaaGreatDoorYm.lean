/- Numerals, writers, readers: out of the texts for chapter 1. -/
import Derived.Test.YtoflckochjijcaaGreatDoorXD
set_option linter.all false
set_option maxRecDepth 100000
namespace Go.Proofs.YtoflckochjijcaaGreatDoor.E
open Go Go.RowKit Go.Eng Go.EV Go.EQ Go.Lib
variable [Fuel]

def I64 (n : Int) : Prop := -9223372036854775808 ≤ n ∧ n ≤ 9223372036854775807
theorem nDigits_le : ∀ (k u : Nat), u < 10 ^ (k + 1) → nDigits u ≤ k + 1
 | 0, u, h => by rw [nDigits_small (by simpa using h)]; omega
 | k + 1, u, h => by
  by_cases h10 : u < 10
  ·rw [nDigits_small h10]; omega
  ·rw [nDigits, dif_neg h10]
   have := nDigits_le k (u / 10) (by rw [Nat.div_lt_iff_lt_mul (by omega)]; rw [Nat.pow_succ] at h; exact h)
   omega
theorem dec_len {u : Nat} (h : u < 10 ^ 19) : (decDigits u).length ≤ 19 := by rw [decDigits_length]; exact nDigits_le 18 u h
theorem itoa_len {n : Int} (h : I64 n) : (itoa n).length ≤ 20 := by
 unfold itoa
 obtain ⟨h0, h1⟩ := h
 split
 ·have := dec_len (u := n.natAbs) (by omega); simp only [List.length_cons]; omega
 ·have := dec_len (u := n.toNat) (by omega); omega
theorem dec_ne : ∀ u : Nat, decDigits u ≠ [] := fun u h => by
 rw [decDigits] at h
 split at h
 ·cases h
 ·simp at h
theorem byte_dig {d : Nat} (h : d < 10) : (UInt8.ofNat (48 + d)).toNat = 48 + d := by
 simp [UInt8.toNat_ofNat']; omega
theorem dig_mem (u : Nat) : ∀ c ∈ decDigits u, 48 ≤ c.toNat ∧ c.toNat ≤ 57 := by
 induction u using Nat.strongRecOn with
 | ind u ih =>
  intro c hc
  rw [decDigits] at hc
  split at hc
  ·rename_i h
   simp only [List.mem_singleton] at hc
   subst hc; rw [byte_dig h]; omega
  ·rename_i h
   rcases List.mem_append.1 hc with hc | hc
   ·exact ih (u / 10) (by omega) c hc
   ·simp only [List.mem_singleton] at hc
    subst hc; rw [byte_dig (Nat.mod_lt _ (by omega))]; omega
theorem itoa_mem {n : Int} {c : UInt8} (h : c ∈ itoa n) : c.toNat = 45 ∨ (48 ≤ c.toNat ∧ c.toNat ≤ 57) := by
 unfold itoa at h
 split at h
 ·rcases List.mem_cons.1 h with rfl | h
  ·exact .inl rfl
  ·exact .inr (dig_mem _ _ h)
 ·exact .inr (dig_mem _ _ h)
theorem parse_app (m : List UInt8) : ∀ (l : List UInt8) (acc v : Nat), parseUint10 acc l = .ok v → parseUint10 acc (l ++ m) = parseUint10 v m
 | [], acc, v, h => by simp only [parseUint10] at h; injection h with h; subst h; rfl
 | c :: l, acc, v, h => by
  simp only [parseUint10, List.cons_append] at h ⊢
  split at h
  ·split at h
   ·cases h
   ·split at h
    ·cases h
    ·rename_i h1 h2 h3
     rw [if_pos h1, if_neg h2, if_neg h3]
     exact parse_app m l _ v h
  ·cases h
theorem parse_dec (u : Nat) (hu : u < 18446744073709551616) : parseUint10 0 (decDigits u) = .ok u := by
 induction u using Nat.strongRecOn with
 | ind u ih =>
  rw [decDigits]
  split
  ·rename_i h
   simp only [parseUint10, byte_dig h]
   rw [if_pos (by omega), if_neg (by omega), if_neg (by omega)]
   congr 1; omega
  ·rename_i h
   rw [parse_app _ _ _ _ (ih (u / 10) (by omega) (by omega))]
   have hm : u % 10 < 10 := Nat.mod_lt _ (by omega)
   simp only [parseUint10, byte_dig hm]
   rw [if_pos (by omega), if_neg (by omega), if_neg (by omega)]
   congr 1; omega
theorem parseMag_dec (u : Nat) (hu : u < 18446744073709551616) : parseMag (decDigits u) = .ok u := by
 unfold parseMag
 rw [if_neg (dec_ne u)]; exact parse_dec u hu
theorem atoi_itoa {n : Int} (h : I64 n) : atoiAll (itoa n) = .ok n := by
 obtain ⟨h0, h1⟩ := h
 unfold itoa
 split
 ·rename_i hn
  simp only [atoiAll]
  rw [if_pos (by right; rfl), parseMag_dec _ (by omega)]
  have h45 : (45 : UInt8).toNat = 45 := rfl
  simp only [h45]
  rw [if_neg (by simp), if_neg (by omega)]
  simp
  omega
 ·rename_i hn
  have hne := dec_ne n.toNat
  cases hd : decDigits n.toNat with
  | nil => exact absurd hd hne
  | cons c r =>
   have hc := dig_mem n.toNat c (by rw [hd]; exact List.mem_cons_self ..)
   simp only [atoiAll]
   rw [if_neg (by omega), ← hd, parseMag_dec _ (by omega)]
   have h45 : ¬ c.toNat = 45 := by omega
   simp only [h45, not_false_eq_true, true_and, false_and, if_false]
   rw [if_neg (by omega)]
   congr 1; omega
theorem itoa_inj {n k : Int} (h : I64 n) (h' : I64 k) (e : itoa n = itoa k) : n = k := by
 have := atoi_itoa h
 rw [e, atoi_itoa h'] at this
 injection this with this
 exact this.symm
/- lists -/
theorem split_at {α : Type} {e : α} : ∀ {a b t u : List α}, e ∉ a → e ∉ b → a ++ e :: t = b ++ e :: u → a = b ∧ t = u
 | [], [], t, u, _, _, h => by injection h with _ h; exact ⟨rfl, h⟩
 | [], y :: b, t, u, _, hb, h => by injection h with h _; exact absurd (by rw [h]; exact List.mem_cons_self ..) hb
 | x :: a, [], t, u, ha, _, h => by injection h with h _; exact absurd (by rw [← h]; exact List.mem_cons_self ..) ha
 | x :: a, y :: b, t, u, ha, hb, h => by
  injection h with h1 h2
  obtain ⟨h3, h4⟩ := split_at (fun hm => ha (List.mem_cons_of_mem _ hm)) (fun hm => hb (List.mem_cons_of_mem _ hm)) h2
  exact ⟨by rw [h1, h3], h4⟩
/- codes -/
section
variable {α : Type}
def PF (enc : α → List UInt8) (ok : α → Prop) : Prop := ∀ x y t u, ok x → ok y → enc x ++ t = enc y ++ u → x = y ∧ t = u
open Classical in
noncomputable def Dec (enc : α → List UInt8) (ok : α → Prop) (s : List UInt8) : Option (α × List UInt8) :=
 if h : ∃ p : α × List UInt8, ok p.1 ∧ s = enc p.1 ++ p.2 then some h.choose else none
variable {enc : α → List UInt8} {ok : α → Prop}
theorem Dec_of (h : PF enc ok) {x : α} {s t : List UInt8} (hx : ok x) (e : s = enc x ++ t) : Dec enc ok s = some (x, t) := by
 unfold Dec
 have hex : ∃ p : α × List UInt8, ok p.1 ∧ s = enc p.1 ++ p.2 := ⟨(x, t), hx, e⟩
 rw [dif_pos hex]
 have := hex.choose_spec
 obtain ⟨h1, h2⟩ := h _ _ _ _ this.1 hx (this.2.symm.trans e)
 congr 1
 exact Prod.ext h1 h2
theorem Dec_no {s : List UInt8} (h : ∀ x t, ok x → s ≠ enc x ++ t) : Dec enc ok s = none := by
 unfold Dec
 rw [dif_neg]
 rintro ⟨⟨x, t⟩, h1, h2⟩
 exact h x t h1 h2
theorem Dec_is {s : List UInt8} {x : α} {t : List UInt8} (h : Dec enc ok s = some (x, t)) : ok x ∧ s = enc x ++ t := by
 unfold Dec at h
 split at h
 ·rename_i hex
  have := hex.choose_spec
  injection h with h
  rw [h] at this
  exact this
 ·cases h
theorem Dec_none {s : List UInt8} (h : Dec enc ok s = none) : ∀ x t, ok x → s ≠ enc x ++ t := by
 unfold Dec at h
 split at h
 ·cases h
 ·rename_i hex
  intro x t h1 h2
  exact hex ⟨(x, t), h1, h2⟩
noncomputable def rd (D : Option (α × List UInt8)) (z : α) (bad : Bool) : α × List UInt8 × Bool := match D with
 | some (x, t) => (x, t, bad)
 | none => (z, [], true)
end
def encN (e : UInt8) (n : Int) : List UInt8 := itoa n ++ [e]
def encT (s : List UInt8) : List UInt8 := ((itoa s.length ++ [58]) ++ s) ++ [44]
def encL {α : Type} (enc : α → List UInt8) (l : List α) : List UInt8 := ((itoa l.length ++ [91]) ++ l.flatMap enc) ++ [93]
def okN (least : Int) (n : Int) : Prop := I64 n ∧ least ≤ n
def okT (s : List UInt8) : Prop := s.length < 9223372036854775808
def okL {α : Type} (ok : α → Prop) (l : List α) : Prop := l.length < 9223372036854775808 ∧ ∀ x ∈ l, ok x
def stop (e : UInt8) : Prop := e.toNat ≠ 45 ∧ (e.toNat < 48 ∨ 57 < e.toNat)
theorem stop_not {e : UInt8} (h : stop e) (n : Int) : e ∉ itoa n := fun hm => by
 rcases itoa_mem hm with h1 | h1
 ·exact h.1 h1
 ·rcases h.2 with h2 | h2 <;> omega
theorem i64_len {k : Nat} (h : k < 9223372036854775808) : I64 (k : Int) := ⟨by omega, by omega⟩
theorem pf_num {e : UInt8} (h : stop e) (least : Int) : PF (encN e) (okN least) := fun x y t u hx hy hh => by
 simp only [encN, List.append_assoc, List.singleton_append] at hh
 obtain ⟨h1, h2⟩ := split_at (stop_not h x) (stop_not h y) hh
 exact ⟨itoa_inj hx.1 hy.1 h1, h2⟩
theorem pf_text : PF encT okT := fun x y t u hx hy hh => by
 simp only [encT, List.append_assoc, List.singleton_append] at hh
 obtain ⟨h1, h2⟩ := split_at (stop_not (e := 58) ⟨by decide, by decide⟩ x.length) (stop_not (e := 58) ⟨by decide, by decide⟩ y.length) hh
 have hl : x.length = y.length := by have := itoa_inj (i64_len hx) (i64_len hy) h1; omega
 obtain ⟨h3, h4⟩ := List.append_inj h2 hl
 injection h4 with _ h4
 exact ⟨h3, h4⟩
theorem index_at {e : UInt8} : ∀ {a b : List UInt8}, e ∉ a → indexByte (a ++ e :: b) e = a.length
 | [], b, _ => by simp [indexByte]
 | x :: a, b, h => by
  have h1 : ¬ x = e := fun e1 => h (by rw [e1]; exact List.mem_cons_self ..)
  have ih := index_at (b := b) (fun hm => h (List.mem_cons_of_mem x hm))
  simp only [List.cons_append, indexByte]
  rw [ih]
  simp [h1]

theorem grd_of {p : Prop} [Decidable p] (h : p) : grd p = some () := if_pos h
theorem idx_of {α : Type} [Inhabited α] {l : List α} {i : Nat} (h : i < l.length) : idx l (i : Int) = some (l.getD i default) := by
 unfold idx; rw [if_pos ⟨by omega, by omega⟩]; rfl
theorem cut_tk {α : Type} {l : List α} {k : Nat} (h : k ≤ l.length) : cut l 0 (k : Int) = some (l.take k) := by
 unfold cut; rw [if_pos ⟨by omega, by omega, by omega⟩]; rfl
theorem cut_dr {α : Type} {l : List α} {k : Nat} (h : k ≤ l.length) : cut l (k : Int) (l.length : Int) = some (l.drop k) := by
 unfold cut; rw [if_pos ⟨by omega, by omega, by omega⟩]; simp
theorem w64_id {n : Int} (h0 : -9223372036854775808 ≤ n) (h1 : n ≤ 9223372036854775807) : w64 n = n := by
 exact Eng.wrap64_id h0 h1
theorem s_itoa_of {n : Int} (h : I64 n) : s_itoa n = some (itoa n) := by
 unfold s_itoa; rw [grd_of (p := -9223372036854775808 ≤ n ∧ n ≤ 9223372036854775807) h]; rfl
theorem e_itoa_of {n : Int} (h : I64 n) : e_itoa n = some (itoa n) := s_itoa_of h
theorem e_ok_of {s : List UInt8} (h : s.length ≤ 281474976710656) : e_atoi_ok s = atoiV s := by unfold e_atoi_ok; rw [grd_of h, Option.bind_some]
theorem e_no_of {s : List UInt8} (h : s.length ≤ 281474976710656) : e_atoi_no s = match atoiV s with | none => some (atoiE s) | some _ => none := by unfold e_atoi_no; rw [grd_of h, Option.bind_some]; cases atoiV s <;> rfl
theorem s_Int {n : Int} (h : I64 n) : s_wire_Int n = some (encN 59 n) := by
 unfold s_wire_Int
 rw [e_itoa_of h, Option.bind_some, grd_of (by have := itoa_len h; simp only [List.length_singleton]; omega)]; rfl
theorem s_Num {n : Int} (h : I64 n) : s_wire_Num n = some (if n < 0 then [] else encN 59 n) := by
 unfold s_wire_Num
 by_cases h0 : n < 0
 ·simp [h0]
 ·simp [h0, s_Int h]
theorem s_Text {s : List UInt8} (h : s.length ≤ 4611686018427387904) : s_wire_Text s = some (encT s) := by
 unfold s_wire_Text
 have h1 : I64 (s.length : Int) := ⟨by omega, by omega⟩
 have := itoa_len h1
 rw [e_itoa_of h1, Option.bind_some, grd_of (by simp only [List.length_singleton]; omega), Option.bind_some, grd_of (by simp only [List.length_append, List.length_singleton]; omega), Option.bind_some, grd_of (by simp only [List.length_append, List.length_singleton]; omega)]; rfl
theorem drop_cons {α : Type} [Inhabited α] {l : List α} {i : Nat} (h : i < l.length) : l.drop i = l.getD i default :: l.drop (i + 1) := by
 rw [List.drop_eq_getElem_cons h]; simp [List.getD_eq_getElem?_getD, List.getElem?_eq_getElem h]
theorem getD_mem {α : Type} [Inhabited α] {l : List α} {i : Nat} (h : i < l.length) : l.getD i default ∈ l := by
 simp [List.getD_eq_getElem?_getD, List.getElem?_eq_getElem h]

theorem atoiV_is {s : List UInt8} {v : Int} (h : atoiV s = some v) : atoiAll s = .ok v := by
 unfold atoiV at h
 split at h
 ·injection h with h; subst h; assumption
 ·cases h
theorem atoiV_itoa {n : Int} (h : I64 n) : atoiV (itoa n) = some n := by unfold atoiV; rw [atoi_itoa h]
theorem atoiV_i64 {s : List UInt8} {v : Int} (h : atoiV s = some v) : I64 v := atoiAll_bounds (atoiV_is h)
theorem head_of {e : UInt8} {n : Int} {rest t : List UInt8} (hs : stop e) (hn : I64 n) (h : rest = itoa n ++ e :: t) (K : Nat) (hK : min rest.length 21 ≤ K) :
  indexByte (rest.take K) e = ((itoa n).length : Int) ∧ (rest.take K).take (itoa n).length = itoa n := by
 have hl := itoa_len hn
 have hK' : (itoa n ++ [e]).length ≤ K := by
  have : rest.length = (itoa n).length + (t.length + 1) := by rw [h]; simp
  simp only [List.length_append, List.length_singleton]; omega
 have e1 : rest.take K = itoa n ++ e :: t.take (K - (itoa n ++ [e]).length) := by
  rw [h, show itoa n ++ e :: t = (itoa n ++ [e]) ++ t by simp, List.take_append, List.take_of_length_le hK']; simp
 rw [e1]
 exact ⟨index_at (stop_not hs n), by rw [List.take_left]⟩
theorem num_nonempty {e : UInt8} {n : Int} {t : List UInt8} : encN e n ++ t ≠ [] := by simp [encN]
theorem rd_some {α : Type} (x z : α) (t : List UInt8) (bad : Bool) : rd (some (x, t)) z bad = (x, t, bad) := rfl
theorem rd_none {α : Type} (z : α) (bad : Bool) : rd none z bad = (z, [], true) := rfl
theorem number_spec {rest : List UInt8} {bad : Bool} {ei least : Int} {e : UInt8} (he : ei.toNat.toUInt8 = e) (hs : stop e) (hlen : rest.length ≤ 140737488355328) :
  s_wire_Reader_number rest bad ei least = some (rd (Dec (encN e) (okN least) rest) 0 bad) := by
 have key : ∀ n t, I64 n → rest = encN e n ++ t → indexByte (rest.take (min rest.length 21)) e = ((itoa n).length : Int) ∧ (rest.take (min rest.length 21)).take (itoa n).length = itoa n := fun n t hn h =>
  head_of hs hn (by simpa [encN] using h) _ (Nat.le_refl _)
 unfold s_wire_Reader_number
 rw [show min (rest.length : Int) 21 = ((min rest.length 21 : Nat) : Int) by omega, cut_tk (by omega), Option.bind_some]
 obtain ⟨head, hhead⟩ : ∃ head, head = rest.take (min rest.length 21) := ⟨_, rfl⟩
 rw [← hhead] at key ⊢
 have hhl : head.length = min rest.length 21 := by rw [hhead, List.length_take]; omega
 unfold e_indexByte s_indexByte
 rw [Option.bind_some, he]
 have hge := indexByte_ge head e
 by_cases h0 : indexByte head e < 0
 ·have hD : Dec (encN e) (okN least) rest = none := Dec_no fun n t hn h => by have := (key n t hn.1 h).1; omega
  simp [h0, hD, rd, s_wire_Reader_fail]
 ·obtain ⟨k, hk⟩ : ∃ k : Nat, indexByte head e = k := ⟨(indexByte head e).toNat, (Int.toNat_of_nonneg (by omega)).symm⟩
  obtain ⟨hat, _⟩ := indexByte_some hk
  have hkl : k < head.length := (List.getElem?_eq_some_iff.1 hat).1
  rw [hk] at key ⊢
  have hk0 : decide ((k : Int) < 0) = false := by simp
  simp only [hk0, cond_false]
  rw [cut_tk (by omega), Option.bind_some, e_ok_of (by rw [List.length_take]; omega), e_no_of (by rw [List.length_take]; omega)]
  have hrk : rest[k]? = some e := by
   rw [hhead, List.getElem?_take] at hat
   split at hat
   ·exact hat
   ·cases hat
  have htk : head.take k = rest.take k := by rw [hhead, List.take_take]; congr 1; omega
  have hsplit : rest = rest.take k ++ e :: rest.drop (k + 1) := by
   obtain ⟨h1, h2⟩ := List.getElem?_eq_some_iff.1 hrk
   rw [← h2, ← List.drop_eq_getElem_cons h1, List.take_append_drop]
  have key2 : ∀ n t, I64 n → rest = encN e n ++ t → head.take k = itoa n := fun n t hn h => by
   obtain ⟨h1, h2⟩ := key n t hn h
   rw [← h2]; congr 1; omega
  cases hv : atoiV (head.take k) with
  | none =>
   have hD : Dec (encN e) (okN least) rest = none := Dec_no fun n t hn h => by rw [key2 n t hn.1 h, atoiV_itoa hn.1] at hv; cases hv
   simp [orC, hD, rd, s_wire_Reader_fail]
  | some v =>
   have hi := atoiV_i64 hv
   simp only [orC]
   rw [e_itoa_of hi, Option.bind_some, Option.bind_some]
   by_cases heq : itoa v = head.take k
   ·simp only [heq, decide_true, Bool.not_true, cond_false, Option.bind_some]
    by_cases hlt : v < least
    ·have hD : Dec (encN e) (okN least) rest = none := Dec_no fun n t hn h => by
      have := itoa_inj hi hn.1 (heq.trans (key2 n t hn.1 h))
      have := hn.2; omega
     simp [hlt, hD, rd, s_wire_Reader_fail]
    ·have hD : Dec (encN e) (okN least) rest = some (v, rest.drop (k + 1)) := Dec_of (pf_num hs least) ⟨hi, by omega⟩ (by
      rw [encN, List.append_assoc, List.singleton_append, heq, htk]; exact hsplit)
     have hlt' : decide (v < least) = false := by simp; omega
     simp only [hlt', cond_false, hD, rd]
     rw [w64_id (by omega) (by omega), show ((k : Int) + 1) = ((k + 1 : Nat) : Int) by omega, cut_dr (by omega)]; rfl
   ·have hD : Dec (encN e) (okN least) rest = none := Dec_no fun n t hn h => by
     have h1 := key2 n t hn.1 h
     rw [h1, atoiV_itoa hn.1] at hv
     injection hv with hv
     exact heq (by rw [← hv, h1])
    simp [heq, hD, rd, s_wire_Reader_fail]
def cls (x : List UInt8) (c : UInt8) : Option (List UInt8) := match x with | d :: u => if d = c then some u else none | [] => none
theorem cls_is {x u : List UInt8} {c : UInt8} (h : cls x c = some u) : x = c :: u := by
 cases x with
 | nil => cases h
 | cons d x =>
  simp only [cls] at h
  split at h
  ·injection h with h; subst h; subst_vars; rfl
  ·cases h
theorem cls_cons (c : UInt8) (u : List UInt8) : cls (c :: u) c = some u := by simp [cls]
theorem close_spec (x : List UInt8) (bad : Bool) (c : UInt8) : s_wire_Reader_close x bad [c] = some (match cls x c with | some u => (u, bad) | none => ([], true)) := by
 unfold s_wire_Reader_close s_strings_CutPrefix s_stringslite_CutPrefix s_stringslite_HasPrefix
 cases x with
 | nil => simp [cls, s_wire_Reader_fail]
 | cons d u =>
  have h1 : decide (((d :: u).length : Int) ≥ (([c] : List UInt8).length : Int)) = true := by simp; omega
  simp only [h1, cond_true]
  rw [show ((([c] : List UInt8).length : Nat) : Int) = ((1 : Nat) : Int) from rfl, cut_tk (by simp), cut_dr (by simp)]
  by_cases hd : d = c
  ·subst hd; simp [cls]
  ·simp [cls, hd, s_wire_Reader_fail]
theorem dec_num_nil {e : UInt8} {least : Int} : Dec (encN e) (okN least) [] = none := Dec_no fun _ _ _ h => num_nonempty h.symm
theorem len_shape (s u : List UInt8) : encT s ++ u = encN 58 s.length ++ (s ++ 44 :: u) := by simp [encT, encN]
theorem text_spec {rest : List UInt8} {bad : Bool} (hinv : bad = true → rest = []) (hlen : rest.length ≤ 140737488355328) : s_wire_Reader_Text rest bad = some (rd (Dec encT okT rest) [] bad) := by
 have hst : stop 58 := ⟨by decide, by decide⟩
 unfold s_wire_Reader_Text
 rw [number_spec (e := 58) rfl hst hlen, Option.bind_some]
 cases hD : Dec (encN 58) (okN 0) rest with
 | none =>
  have h2 : Dec encT okT rest = none := Dec_no fun s u hs h => Dec_none hD s.length _ ⟨i64_len hs, by omega⟩ (h.trans (len_shape s u))
  simp only [rd, h2]
  rw [show cut ([] : List UInt8) 0 0 = some [] from rfl, show cut ([] : List UInt8) 0 (([] : List UInt8).length : Int) = some [] from rfl]
  simp [close_spec, cls]
 | some p =>
  obtain ⟨n, t⟩ := p
  obtain ⟨⟨hn, h0⟩, hr⟩ := Dec_is hD
  obtain ⟨k, rfl⟩ : ∃ k : Nat, n = k := ⟨n.toNat, (Int.toNat_of_nonneg h0).symm⟩
  have hrl : rest.length = (itoa (k : Int)).length + 1 + t.length := by rw [hr]; simp only [encN, List.length_append, List.length_singleton]
  have hbad : bad = false := by
   cases bad with
   | false => rfl
   | true => rw [hinv rfl] at hr; exact absurd hr.symm num_nonempty
  subst hbad
  have uniq : ∀ s u, okT s → rest = encT s ++ u → s.length = k ∧ t = s ++ 44 :: u := fun s u hs h => by
   obtain ⟨h1, h2⟩ := pf_num hst 0 _ _ _ _ ⟨hn, h0⟩ ⟨i64_len hs, by omega⟩ (hr.symm.trans (h.trans (len_shape s u)))
   exact ⟨by omega, h2⟩
  rw [rd_some]
  by_cases hk : t.length < k
  ·have h2 : Dec encT okT rest = none := Dec_no fun s u hs h => by
    obtain ⟨h3, h4⟩ := uniq s u hs h
    rw [h4] at hk; simp at hk; omega
   have : decide ((k : Int) > (t.length : Int)) = true := by simp; omega
   rw [this, h2]
   simp [s_wire_Reader_fail, rd]
  ·have : decide ((k : Int) > (t.length : Int)) = false := by simp; omega
   rw [this, cond_false]
   simp only []
   rw [cut_tk (l := t) (k := k) (by omega), Option.bind_some, cut_dr (l := t) (k := k) (by omega), Option.bind_some, close_spec, Option.bind_some]
   cases hc : cls (t.drop k) 44 with
   | none =>
    have h2 : Dec encT okT rest = none := Dec_no fun s u hs h => by
     obtain ⟨h3, h4⟩ := uniq s u hs h
     rw [h4, ← h3, List.drop_left, cls_cons] at hc; cases hc
    simp [h2, rd]
   | some u =>
    have hu := cls_is hc
    have htk : (t.take k).length = k := by rw [List.length_take]; omega
    have h2 : Dec encT okT rest = some (t.take k, u) := Dec_of pf_text (by show (t.take k).length < _; omega) (by
     rw [len_shape, htk, hr, ← hu, List.take_append_drop])
    simp [h2, rd]
theorem Num_spec {rest : List UInt8} {bad : Bool} (hlen : rest.length ≤ 140737488355328) : s_wire_Reader_Num rest bad = some (rd (Dec (encN 59) (okN 0) rest) 0 bad) := by
 unfold s_wire_Reader_Num
 rw [number_spec (e := 59) rfl ⟨by decide, by decide⟩ hlen]; rfl
end Go.Proofs.YtoflckochjijcaaGreatDoor.E
