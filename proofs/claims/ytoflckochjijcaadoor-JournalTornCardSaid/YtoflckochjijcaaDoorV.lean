/- Torn records: what is read of a torn file is a beginning of what was there. -/
import Derived.Test.YtoflckochjijcaaDoorR
set_option linter.all false
set_option maxRecDepth 100000
namespace Go.Proofs.YtoflckochjijcaaDoor
open Go Go.RowKit Go.Eng Go.EV Go.Lib
variable [Fuel]
def Sub : List UInt8 → List UInt8 → Prop
 | [], _ => True
 | _ :: _, [] => False
 | b :: x, c :: f => (b = c ∨ b = 0) ∧ Sub x f
theorem sub_refl : ∀ x : List UInt8, Sub x x
 | [] => trivial
 | b :: x => ⟨.inl rfl, sub_refl x⟩
theorem sub_iff : ∀ {x f : List UInt8}, Sub x f ↔ x.length ≤ f.length ∧ ∀ (i : Nat) (b : UInt8), x[i]? = some b → f[i]? = some b ∨ b = 0
 | [], f => ⟨fun _ => ⟨Nat.zero_le _, fun i b h => by simp at h⟩, fun _ => trivial⟩
 | b :: x, [] => ⟨fun h => h.elim, fun h => by have := h.1; simp at this⟩
 | b :: x, c :: f => by
  constructor
  ·rintro ⟨h1, h2⟩
   obtain ⟨h3, h4⟩ := sub_iff.1 h2
   refine ⟨by simpa using h3, fun i d hd => ?_⟩
   cases i with
   | zero =>
    simp at hd; subst hd
    rcases h1 with rfl | h1
    ·exact .inl rfl
    ·exact .inr h1
   | succ i => simpa using h4 i d (by simpa using hd)
  ·rintro ⟨h1, h2⟩
   refine ⟨?_, sub_iff.2 ⟨by simpa using h1, fun i d hd => by simpa using h2 (i + 1) d (by simpa using hd)⟩⟩
   rcases h2 0 b rfl with h | h
   ·left; simpa using h.symm
   ·exact .inr h
theorem sub_app : ∀ {a b f : List UInt8}, Sub (a ++ b) f → ∃ f1 f2, f = f1 ++ f2 ∧ f1.length = a.length ∧ Sub a f1 ∧ Sub b f2
 | [], b, f, h => ⟨[], f, rfl, rfl, trivial, h⟩
 | x :: a, b, [], h => h.elim
 | x :: a, b, c :: f, h => by
  obtain ⟨f1, f2, rfl, h1, h2, h3⟩ := sub_app h.2
  exact ⟨c :: f1, f2, rfl, by simp [h1], ⟨h.1, h2⟩, h3⟩
theorem sub_nz : ∀ {a f : List UInt8}, Sub a f → f.length = a.length → (∀ b ∈ a, b ≠ 0) → f = a
 | [], f, _, hl, _ => List.eq_nil_of_length_eq_zero (by simpa using hl)
 | b :: a, [], h, _, _ => h.elim
 | b :: a, c :: f, h, hl, hn => by
  have := sub_nz h.2 (by simpa using hl) fun x hx => hn x (List.mem_cons_of_mem _ hx)
  subst this
  rcases h.1 with rfl | h1
  ·rfl
  ·exact absurd h1 (hn b (List.mem_cons_self ..))
theorem sum_sub : ∀ {t r : List UInt8} {i : Nat}, Sub t r → r.length = t.length → sumW i t ≤ sumW i r ∧ (sumW i t = sumW i r → t = r)
 | [], r, i, _, hl => by
  have : r = [] := List.eq_nil_of_length_eq_zero (by simpa using hl)
  subst this; exact ⟨Nat.le_refl _, fun _ => rfl⟩
 | b :: t, [], _, h, _ => h.elim
 | b :: t, c :: r, i, h, hl => by
  obtain ⟨h1, h2⟩ := sum_sub (i := i + 1) h.2 (by simpa using hl)
  rcases h.1 with rfl | hb
  ·exact ⟨by simp only [sumW]; omega, fun e => by rw [h2 (by simp only [sumW] at e; omega)]⟩
  ·subst hb
   refine ⟨by simp only [sumW, UInt8.toNat_zero, Nat.zero_mul]; omega, fun e => ?_⟩
   simp only [sumW, UInt8.toNat_zero, Nat.zero_mul, Nat.zero_add] at e
   have hc : c.toNat * (i + 1) = 0 := by omega
   have hc0 : c.toNat = 0 := by
    rcases Nat.mul_eq_zero.1 hc with h | h
    ·exact h
    ·omega
   have : c = 0 := UInt8.toNat_inj.1 (by rw [hc0]; rfl)
   subst this
   rw [h2 (by omega)]
theorem sumW_le : ∀ (t : List UInt8) (i : Nat), sumW i t ≤ 256 * (i + t.length) * t.length
 | [], i => by simp [sumW]
 | b :: t, i => by
  have h := sumW_le t (i + 1)
  have hb : b.toNat < 256 := UInt8.toNat_lt _
  have h1 : b.toNat * (i + 1) ≤ 256 * (i + 1) := Nat.mul_le_mul_right _ (by omega)
  have h2 : 256 * (i + 1) ≤ 256 * (i + (t.length + 1)) := Nat.mul_le_mul_left _ (by omega)
  simp only [sumW, List.length_cons]
  rw [show i + 1 + t.length = i + (t.length + 1) by omega] at h
  rw [Nat.mul_add (256 * (i + (t.length + 1))), Nat.mul_one]
  omega
theorem jsum_small {t : List UInt8} (h : t.length ≤ 2000) : jsum t = ((sumW 0 t : Nat) : Int) := by
 unfold jsum
 have := sumW_le t 0
 have h2 : 256 * (0 + t.length) * t.length ≤ 256 * 2000 * 2000 := Nat.mul_le_mul (by omega) h
 rw [Nat.mod_eq_of_lt (by omega)]
theorem itoa_nz {n : Int} : ∀ b ∈ itoa n, b ≠ 0 := fun b hb h => by
 subst h
 have := itoa_mem hb
 simp at this
theorem rec_sub {t r v g : List UInt8} (ht : okF t) (hr : r.length ≤ 2000) (h : Sub (form t ++ v) (form r ++ g)) : t = r ∧ Sub v g := by
 have ht' : t.length ≤ 20000 := ht
 have e : form t ++ v = (itoa t.length ++ [58]) ++ (t ++ ([44] ++ ((itoa (jsum t) ++ [59]) ++ v))) := by
  simp [form, encT, encN]
 rw [e] at h
 obtain ⟨f1, f2, hf, hl1, hs1, hs2⟩ := sub_app h
 have hh := sub_nz hs1 hl1 (fun b hb => by
  rcases List.mem_append.1 hb with hb | hb
  ·exact itoa_nz b hb
  ·rw [List.mem_singleton.1 hb]; decide)
 subst hh
 have e2 : form r ++ g = itoa r.length ++ 58 :: (r ++ ([44] ++ ((itoa (jsum r) ++ [59]) ++ g))) := by
  simp [form, encT, encN]
 rw [e2] at hf
 simp only [List.append_assoc, List.singleton_append] at hf
 obtain ⟨h1, h2⟩ := split_at (stop_not st58 _) (stop_not st58 _) hf
 have hlen : (r.length : Int) = (t.length : Int) := itoa_inj ⟨by omega, by omega⟩ ⟨by omega, by omega⟩ h1
 have hlen : r.length = t.length := by omega
 obtain ⟨r1, g1, hg, hl3, hs3, hs4⟩ := sub_app hs2
 obtain ⟨hr1, hg1⟩ := List.append_inj (h2.trans hg) (hlen.trans hl3.symm)
 subst hr1
 subst hg1
 obtain ⟨c1, g2, hg2, hl4, hs5, hs6⟩ := sub_app hs4
 have hc1 : c1 = [44] := sub_nz hs5 hl4 (by decide)
 subst hc1
 have hg2 : itoa (jsum r) ++ 59 :: g = g2 := by simpa using hg2
 subst hg2
 obtain ⟨s1, g3, hg3, hl5, hs7, hs8⟩ := sub_app hs6
 have hs1 := sub_nz hs7 hl5 (fun b hb => by
  rcases List.mem_append.1 hb with hb | hb
  ·exact itoa_nz b hb
  ·rw [List.mem_singleton.1 hb]; decide)
 subst hs1
 simp only [List.append_assoc, List.singleton_append] at hg3
 obtain ⟨h5, h6⟩ := split_at (stop_not st59 _) (stop_not st59 _) hg3
 have hj := itoa_inj (jsum_ok r).1 (jsum_ok t).1 h5
 rw [jsum_small hr, jsum_small (by omega)] at hj
 have := (sum_sub (i := 0) hs3 hlen).2 (by omega)
 exact ⟨this, by rw [h6]; exact hs8⟩
theorem parse_sub : ∀ {A : List (List UInt8)} {x : List UInt8} {l : List (List UInt8)}, (∀ t ∈ A, t.length ≤ 2000) → Sub x (forms A) → Parsed x l → l <+: A
 | [], x, l, _, h, hl => by
  have : x = [] := List.eq_nil_of_length_eq_zero (by have := (sub_iff.1 h).1; simpa [forms] using this)
  subst this
  rw [parsed_none hl dec_form_nil]
  exact List.prefix_refl _
 | r :: A, x, l, hA, h, hl => by
  cases hD : Dec form okF x with
  | none => rw [parsed_none hl hD]; exact List.nil_prefix
  | some p =>
   obtain ⟨t, v⟩ := p
   obtain ⟨ht, rfl⟩ := Dec_is hD
   obtain ⟨l', rfl, hl'⟩ := parsed_split hl hD
   rw [forms_cons] at h
   obtain ⟨rfl, h2⟩ := rec_sub ht (hA r (List.mem_cons_self ..)) h
   exact (List.cons_prefix_cons).2 ⟨rfl, parse_sub (fun y hy => hA y (List.mem_cons_of_mem _ hy)) h2 hl'⟩
def Pr (A sure : List (List UInt8)) (x : List UInt8) : Prop := Sub x (forms A) ∧ forms sure <+: x
end Go.Proofs.YtoflckochjijcaaDoor
