/- Plain mathematics: decimal numerals, prefix-free codes. -/
import Derived.Lib.AtoiAllCases
import Derived.Lib.IndexLaws
import Derived.Lib.ItoaMem
set_option linter.all false
namespace Go.Proofs.YtpabacdeogeehaaGreatDoor
open Go Go.Lib

def I64 (n : Int) : Prop := -9223372036854775808 ≤ n ∧ n ≤ 9223372036854775807
theorem nDigits_le : ∀ (k u : Nat), u < 10 ^ (k + 1) → nDigits u ≤ k + 1
 | 0, u, h => by rw [nDigits_small (by simpa using h)]; omega
 | k + 1, u, h => by
  by_cases h10 : u < 10
  ·rw [nDigits_small h10]; omega
  ·rw [nDigits, dif_neg h10]
   have := nDigits_le k (u / 10) (by rw [Nat.div_lt_iff_lt_mul (by omega)]; rw [Nat.pow_succ] at h; exact h)
   omega
theorem dec_len {u : Nat} (h : u < 10 ^ 19) : (decDigits u).length ≤ 19 := by rw [decDigits_length]; exact nDigits_le 18 u h
theorem itoa_len {n : Int} (h : I64 n) : (itoa n).length ≤ 20 := by
 unfold itoa
 obtain ⟨h0, h1⟩ := h
 split
 ·have := dec_len (u := n.natAbs) (by omega); simp only [List.length_cons]; omega
 ·have := dec_len (u := n.toNat) (by omega); omega
theorem dec_ne : ∀ u : Nat, decDigits u ≠ [] := fun u h => by
 rw [decDigits] at h
 split at h
 ·cases h
 ·simp at h
theorem byte_dig {d : Nat} (h : d < 10) : (UInt8.ofNat (48 + d)).toNat = 48 + d := by
 simp [UInt8.toNat_ofNat']; omega
theorem dig_mem (u : Nat) : ∀ c ∈ decDigits u, 48 ≤ c.toNat ∧ c.toNat ≤ 57 := by
 induction u using Nat.strongRecOn with
 | ind u ih =>
  intro c hc
  rw [decDigits] at hc
  split at hc
  ·rename_i h
   simp only [List.mem_singleton] at hc
   subst hc; rw [byte_dig h]; omega
  ·rename_i h
   rcases List.mem_append.1 hc with hc | hc
   ·exact ih (u / 10) (by omega) c hc
   ·simp only [List.mem_singleton] at hc
    subst hc; rw [byte_dig (Nat.mod_lt _ (by omega))]; omega
theorem itoa_mem {n : Int} {c : UInt8} (h : c ∈ itoa n) : c.toNat = 45 ∨ (48 ≤ c.toNat ∧ c.toNat ≤ 57) := by
 unfold itoa at h
 split at h
 ·rcases List.mem_cons.1 h with rfl | h
  ·exact .inl rfl
  ·exact .inr (dig_mem _ _ h)
 ·exact .inr (dig_mem _ _ h)
theorem parse_app (m : List UInt8) : ∀ (l : List UInt8) (acc v : Nat), parseUint10 acc l = .ok v → parseUint10 acc (l ++ m) = parseUint10 v m
 | [], acc, v, h => by simp only [parseUint10] at h; injection h with h; subst h; rfl
 | c :: l, acc, v, h => by
  simp only [parseUint10, List.cons_append] at h ⊢
  split at h
  ·split at h
   ·cases h
   ·split at h
    ·cases h
    ·rename_i h1 h2 h3
     rw [if_pos h1, if_neg h2, if_neg h3]
     exact parse_app m l _ v h
  ·cases h
theorem parse_dec (u : Nat) (hu : u < 18446744073709551616) : parseUint10 0 (decDigits u) = .ok u := by
 induction u using Nat.strongRecOn with
 | ind u ih =>
  rw [decDigits]
  split
  ·rename_i h
   simp only [parseUint10, byte_dig h]
   rw [if_pos (by omega), if_neg (by omega), if_neg (by omega)]
   congr 1; omega
  ·rename_i h
   rw [parse_app _ _ _ _ (ih (u / 10) (by omega) (by omega))]
   have hm : u % 10 < 10 := Nat.mod_lt _ (by omega)
   simp only [parseUint10, byte_dig hm]
   rw [if_pos (by omega), if_neg (by omega), if_neg (by omega)]
   congr 1; omega
theorem parseMag_dec (u : Nat) (hu : u < 18446744073709551616) : parseMag (decDigits u) = .ok u := by
 unfold parseMag
 rw [if_neg (dec_ne u)]; exact parse_dec u hu
theorem atoi_itoa {n : Int} (h : I64 n) : atoiAll (itoa n) = .ok n := by
 obtain ⟨h0, h1⟩ := h
 unfold itoa
 split
 ·rename_i hn
  simp only [atoiAll]
  rw [if_pos (by right; rfl), parseMag_dec _ (by omega)]
  have h45 : (45 : UInt8).toNat = 45 := rfl
  simp only [h45]
  rw [if_neg (by simp), if_neg (by omega)]
  simp
  omega
 ·rename_i hn
  have hne := dec_ne n.toNat
  cases hd : decDigits n.toNat with
  | nil => exact absurd hd hne
  | cons c r =>
   have hc := dig_mem n.toNat c (by rw [hd]; exact List.mem_cons_self ..)
   simp only [atoiAll]
   rw [if_neg (by omega), ← hd, parseMag_dec _ (by omega)]
   have h45 : ¬ c.toNat = 45 := by omega
   simp only [h45, not_false_eq_true, true_and, false_and, if_false]
   rw [if_neg (by omega)]
   congr 1; omega
theorem itoa_inj {n k : Int} (h : I64 n) (h' : I64 k) (e : itoa n = itoa k) : n = k := by
 have := atoi_itoa h
 rw [e, atoi_itoa h'] at this
 injection this with this
 exact this.symm
/- lists -/
theorem split_at {α : Type} {e : α} : ∀ {a b t u : List α}, e ∉ a → e ∉ b → a ++ e :: t = b ++ e :: u → a = b ∧ t = u
 | [], [], t, u, _, _, h => by injection h with _ h; exact ⟨rfl, h⟩
 | [], y :: b, t, u, _, hb, h => by injection h with h _; exact absurd (by rw [h]; exact List.mem_cons_self ..) hb
 | x :: a, [], t, u, ha, _, h => by injection h with h _; exact absurd (by rw [← h]; exact List.mem_cons_self ..) ha
 | x :: a, y :: b, t, u, ha, hb, h => by
  injection h with h1 h2
  obtain ⟨h3, h4⟩ := split_at (fun hm => ha (List.mem_cons_of_mem _ hm)) (fun hm => hb (List.mem_cons_of_mem _ hm)) h2
  exact ⟨by rw [h1, h3], h4⟩
/- codes -/
section
variable {α : Type}
def PF (enc : α → List UInt8) (ok : α → Prop) : Prop := ∀ x y t u, ok x → ok y → enc x ++ t = enc y ++ u → x = y ∧ t = u
open Classical in
noncomputable def Dec (enc : α → List UInt8) (ok : α → Prop) (s : List UInt8) : Option (α × List UInt8) :=
 if h : ∃ p : α × List UInt8, ok p.1 ∧ s = enc p.1 ++ p.2 then some h.choose else none
variable {enc : α → List UInt8} {ok : α → Prop}
theorem Dec_of (h : PF enc ok) {x : α} {s t : List UInt8} (hx : ok x) (e : s = enc x ++ t) : Dec enc ok s = some (x, t) := by
 unfold Dec
 have hex : ∃ p : α × List UInt8, ok p.1 ∧ s = enc p.1 ++ p.2 := ⟨(x, t), hx, e⟩
 rw [dif_pos hex]
 have := hex.choose_spec
 obtain ⟨h1, h2⟩ := h _ _ _ _ this.1 hx (this.2.symm.trans e)
 congr 1
 exact Prod.ext h1 h2
theorem Dec_no {s : List UInt8} (h : ∀ x t, ok x → s ≠ enc x ++ t) : Dec enc ok s = none := by
 unfold Dec
 rw [dif_neg]
 rintro ⟨⟨x, t⟩, h1, h2⟩
 exact h x t h1 h2
theorem Dec_is {s : List UInt8} {x : α} {t : List UInt8} (h : Dec enc ok s = some (x, t)) : ok x ∧ s = enc x ++ t := by
 unfold Dec at h
 split at h
 ·rename_i hex
  have := hex.choose_spec
  injection h with h
  rw [h] at this
  exact this
 ·cases h
theorem Dec_none {s : List UInt8} (h : Dec enc ok s = none) : ∀ x t, ok x → s ≠ enc x ++ t := by
 unfold Dec at h
 split at h
 ·cases h
 ·rename_i hex
  intro x t h1 h2
  exact hex ⟨(x, t), h1, h2⟩
noncomputable def rd (D : Option (α × List UInt8)) (z : α) (bad : Bool) : α × List UInt8 × Bool := match D with
 | some (x, t) => (x, t, bad)
 | none => (z, [], true)
end
def encN (e : UInt8) (n : Int) : List UInt8 := itoa n ++ [e]
def encT (s : List UInt8) : List UInt8 := ((itoa s.length ++ [58]) ++ s) ++ [44]
def encL {α : Type} (enc : α → List UInt8) (l : List α) : List UInt8 := ((itoa l.length ++ [91]) ++ l.flatMap enc) ++ [93]
def okN (least : Int) (n : Int) : Prop := I64 n ∧ least ≤ n
def okT (s : List UInt8) : Prop := s.length < 9223372036854775808
def okL {α : Type} (ok : α → Prop) (l : List α) : Prop := l.length < 9223372036854775808 ∧ ∀ x ∈ l, ok x
def stop (e : UInt8) : Prop := e.toNat ≠ 45 ∧ (e.toNat < 48 ∨ 57 < e.toNat)
theorem stop_not {e : UInt8} (h : stop e) (n : Int) : e ∉ itoa n := fun hm => by
 rcases itoa_mem hm with h1 | h1
 ·exact h.1 h1
 ·rcases h.2 with h2 | h2 <;> omega
theorem i64_len {k : Nat} (h : k < 9223372036854775808) : I64 (k : Int) := ⟨by omega, by omega⟩
theorem pf_num {e : UInt8} (h : stop e) (least : Int) : PF (encN e) (okN least) := fun x y t u hx hy hh => by
 simp only [encN, List.append_assoc, List.singleton_append] at hh
 obtain ⟨h1, h2⟩ := split_at (stop_not h x) (stop_not h y) hh
 exact ⟨itoa_inj hx.1 hy.1 h1, h2⟩
theorem pf_many {α : Type} {enc : α → List UInt8} {ok : α → Prop} (h : PF enc ok) : ∀ (l k : List α) (t u : List UInt8), (∀ x ∈ l, ok x) → (∀ x ∈ k, ok x) → l.length = k.length → l.flatMap enc ++ t = k.flatMap enc ++ u → l = k ∧ t = u
 | [], [], t, u, _, _, _, hh => ⟨rfl, by simpa using hh⟩
 | [], _ :: _, _, _, _, _, hl, _ => by simp at hl
 | _ :: _, [], _, _, _, _, hl, _ => by simp at hl
 | x :: l, y :: k, t, u, hx, hy, hl, hh => by
  simp only [List.flatMap_cons, List.append_assoc] at hh
  obtain ⟨h1, h2⟩ := h x y _ _ (hx x (List.mem_cons_self ..)) (hy y (List.mem_cons_self ..)) hh
  obtain ⟨h3, h4⟩ := pf_many h l k t u (fun z hz => hx z (List.mem_cons_of_mem _ hz)) (fun z hz => hy z (List.mem_cons_of_mem _ hz)) (by simpa using hl) h2
  exact ⟨by rw [h1, h3], h4⟩
theorem pf_list {α : Type} {enc : α → List UInt8} {ok : α → Prop} (h : PF enc ok) : PF (encL enc) (okL ok) := fun x y t u hx hy hh => by
 simp only [encL, List.append_assoc, List.singleton_append] at hh
 obtain ⟨h1, h2⟩ := split_at (stop_not (e := 91) ⟨by decide, by decide⟩ x.length) (stop_not (e := 91) ⟨by decide, by decide⟩ y.length) hh
 have hl : x.length = y.length := by have := itoa_inj (i64_len hx.1) (i64_len hy.1) h1; omega
 obtain ⟨h3, h4⟩ := pf_many h x y _ _ hx.2 hy.2 hl h2
 injection h4 with _ h4
 exact ⟨h3, h4⟩
/- where a byte stands -/
theorem index_at {e : UInt8} : ∀ {a b : List UInt8}, e ∉ a → indexByte (a ++ e :: b) e = a.length
 | [], b, _ => by simp [indexByte]
 | x :: a, b, h => by
  have h1 : ¬ x = e := fun e1 => h (by rw [e1]; exact List.mem_cons_self ..)
  have ih := index_at (b := b) (fun hm => h (List.mem_cons_of_mem x hm))
  simp only [List.cons_append, indexByte]
  rw [ih]
  simp [h1]
end Go.Proofs.YtpabacdeogeehaaGreatDoor
