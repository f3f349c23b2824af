/- The reference of wire. -/
import Derived.Test.YtoflckochjijcaaGreatDoorYn
import Derived.Laws.BitsLemmas
set_option linter.all false
set_option maxRecDepth 100000
namespace Go.Proofs.YtoflckochjijcaaGreatDoor.E
open Go Go.RowKit Go.Eng Go.EV Go.EQ Go.Lib
variable [Fuel]
theorem w64_i64 (n : Int) : I64 (w64 n) := by
 show I64 (IntKind.i64.wrap n)
 rw [IntKind.wrap_i64]; unfold I64; omega
theorem dig_byte {n : Int} (h0 : n ≤ 0) : bytesOf [IntKind.u8.wrap (w64 (48 - Int.tmod n 10))] = [UInt8.ofNat (48 + n.natAbs % 10)] := by
 obtain ⟨u, rfl⟩ : ∃ u : Nat, n = -(u : Int) := ⟨n.natAbs, by omega⟩
 have h1 : Int.tmod (-(u : Int)) 10 = -((u % 10 : Nat) : Int) := by
  rw [Int.neg_tmod]; congr 1
 rw [h1, w64_id (by omega) (by omega), IntKind.wrap_u8]
 simp only [bytesOf, List.map_cons, List.map_nil, Int.natAbs_neg, Int.natAbs_natCast]
 congr 2
 omega
theorem digits_L (u : Nat) : ∀ (fuel : Nat), u < fuel → u ≤ 9223372036854775808 → s_greenbeltref01_digits fuel (-(u : Int)) = some (decDigits u) := by
 induction u using Nat.strongRecOn with
 | ind u ih =>
  intro fuel hf hu
  cases fuel with
  | zero => omega
  | succ fuel =>
   unfold s_greenbeltref01_digits
   rw [dig_byte (by omega), decDigits]
   by_cases h : u < 10
   ·have : decide (-(u : Int) > -10) = true := decide_eq_true (by omega)
    rw [this, cond_true, dif_pos h]
    simp only [Int.natAbs_neg, Int.natAbs_natCast]
    rw [Nat.mod_eq_of_lt h]
   ·have : decide (-(u : Int) > -10) = false := decide_eq_false (by omega)
    rw [this, cond_false, dif_neg h]
    have h1 : Int.tdiv (-(u : Int)) 10 = -((u / 10 : Nat) : Int) := by rw [Int.neg_tdiv]; congr 1
    rw [h1, w64_id (by omega) (by omega), ih (u / 10) (by omega) fuel (by omega) (by omega), Option.bind_some]
    have hl := dec_len (u := u / 10) (by omega)
    rw [grd_of (by simp only [List.length_singleton]; omega)]
    simp
theorem digits_of {u : Nat} (hu : u ≤ 9223372036854775808) : s_greenbeltref01_digits KK (-(u : Int)) = some (decDigits u) := digits_L u KK (kk_lt (by omega)) hu
theorem itoa_nat (u : Nat) : itoa (u : Int) = decDigits u := by unfold itoa; rw [if_neg (by omega)]; simp
theorem r_Int {n : Int} (h : I64 n) : s_greenbeltref01_Int n = some (encN 59 n) := by
 obtain ⟨h0, h1⟩ := h
 unfold s_greenbeltref01_Int encN itoa
 by_cases hn : n < 0
 ·obtain ⟨u, rfl⟩ : ∃ u : Nat, n = -(u : Int) := ⟨n.natAbs, by omega⟩
  have hd : decide (-(u : Int) < 0) = true := decide_eq_true (by omega)
  have hl := dec_len (u := u) (by omega)
  rw [hd, cond_true, if_pos hn, digits_of (by omega), Option.bind_some, grd_of (by simp only [List.length_singleton]; omega), Option.bind_some, grd_of (by simp only [List.length_append, List.length_singleton]; omega)]
  simp
 ·obtain ⟨u, rfl⟩ : ∃ u : Nat, n = (u : Int) := ⟨n.toNat, by omega⟩
  have hd : decide ((u : Int) < 0) = false := by simp
  have hl := dec_len (u := u) (by omega)
  rw [hd, cond_false, if_neg hn, w64_id (by omega) (by omega), show (0 - (u : Int)) = -(u : Int) by omega, digits_of (by omega), Option.bind_some, grd_of (by simp only [List.length_singleton]; omega)]
  simp
theorem r_Num {n : Int} (h : I64 n) : s_greenbeltref01_Num n = some (if n < 0 then [] else encN 59 n) := by
 unfold s_greenbeltref01_Num
 by_cases h0 : n < 0
 ·simp [h0]
 ·simp [h0, r_Int h]
theorem r_digits {u : Nat} (h : u ≤ 9223372036854775807) : s_greenbeltref01_digits KK (w64 (0 - (u : Int))) = some (itoa (u : Int)) := by
 rw [w64_id (by omega) (by omega), show (0 - (u : Int)) = -(u : Int) by omega, digits_of (by omega), itoa_nat]
theorem r_Text {s : List UInt8} (h : s.length ≤ 4611686018427387904) : s_greenbeltref01_Text s = some (encT s) := by
 unfold s_greenbeltref01_Text
 have h1 : I64 (s.length : Int) := ⟨by omega, by omega⟩
 have := itoa_len h1
 rw [r_digits (by omega), Option.bind_some, grd_of (by simp only [List.length_singleton]; omega), Option.bind_some, grd_of (by simp only [List.length_append, List.length_singleton]; omega), Option.bind_some, grd_of (by simp only [List.length_append, List.length_singleton]; omega)]; rfl
def dv (c : UInt8) : Int := (c.toNat : Int) - 48
def proc (n : Int) (l : List UInt8) : Int := l.foldl (fun n c => 10 * n - dv c) n
def digs (l : List UInt8) : Prop := ∀ c ∈ l, 48 ≤ c.toNat ∧ c.toNat ≤ 57
theorem proc_le : ∀ (l : List UInt8) (n : Int), digs l → n ≤ 0 → proc n l ≤ n
 | [], n, _, _ => Int.le_refl _
 | c :: l, n, h, hn => by
  have hc := h c (List.mem_cons_self ..)
  have : 10 * n - dv c ≤ n := by unfold dv; omega
  have h2 := proc_le l (10 * n - dv c) (fun x hx => h x (List.mem_cons_of_mem _ hx)) (by omega)
  show proc (10 * n - dv c) l ≤ n
  omega
theorem proc_dec (u : Nat) : proc 0 (decDigits u) = -(u : Int) := by
 induction u using Nat.strongRecOn with
 | ind u ih =>
  rw [decDigits]
  split
  ·rename_i h
   show 10 * 0 - dv _ = _
   unfold dv; rw [byte_dig h]; omega
  ·rename_i h
   have h1 := ih (u / 10) (by omega)
   unfold proc at h1 ⊢
   rw [List.foldl_append, h1]
   show 10 * -((u / 10 : Nat) : Int) - dv _ = _
   unfold dv; rw [byte_dig (Nat.mod_lt _ (by omega))]; omega
theorem getD_of {s : List UInt8} {i : Nat} {c : UInt8} {r : List UInt8} (h : s.drop i = c :: r) : i < s.length ∧ s.getD i default = c ∧ s.drop (i + 1) = r := by
 have hi : i < s.length := by
  rcases Nat.lt_or_ge i s.length with h1 | h1
  ·exact h1
  ·rw [List.drop_eq_nil_of_le h1] at h; cases h
 rw [drop_cons hi] at h
 injection h with h1 h2
 exact ⟨hi, h1, h2⟩
theorem u8_sub {c : UInt8} (h : 48 ≤ c.toNat ∧ c.toNat ≤ 57) : w64 (IntKind.u8.wrap ((c.toNat : Int) - 48)) = dv c := by
 rw [IntKind.wrap_u8, w64_id (by omega) (by omega)]; unfold dv; omega
theorem back_digits (s : List UInt8) (c1 : Int) : ∀ (a : List UInt8) (i fuel : Nat) (n : Int), s.drop i = a → digs a → n ≤ 0 → -9223372036854775808 ≤ proc n a → s.length ≤ 21 → a.length < fuel →
  s_greenbeltref01_Back_L1 s c1 fuel (n, (i : Int)) = some (.inr (proc n a))
 | [], i, fuel, n, hd, _, hn, hp, hs, hf => by
  cases fuel with
  | zero => simp at hf
  | succ fuel =>
   have hi : s.length ≤ i := by simpa using hd
   have : decide ((i : Int) < (s.length : Int)) = false := decide_eq_false (by omega)
   unfold s_greenbeltref01_Back_L1
   simp only [this, cond_false]; rfl
 | c :: a, i, fuel, n, hd, hg, hn, hp, hs, hf => by
  cases fuel with
  | zero => simp at hf
  | succ fuel =>
   obtain ⟨hi, h1, h2⟩ := getD_of hd
   have hc := hg c (List.mem_cons_self ..)
   have hg' : digs a := fun x hx => hg x (List.mem_cons_of_mem _ hx)
   have hdv : dv c = (c.toNat : Int) - 48 := rfl
   have hp' : -9223372036854775808 ≤ proc (10 * n - dv c) a := hp
   have hle := proc_le a (10 * n - dv c) hg' (by omega)
   have e1 : decide ((i : Int) < (s.length : Int)) = true := decide_eq_true (by omega)
   have e2 : decide ((c.toNat : Int) < 48) = false := decide_eq_false (by omega)
   have e3 : decide ((c.toNat : Int) > 57) = false := decide_eq_false (by omega)
   have e4 : decide ((i : Int) > 20) = false := decide_eq_false (by omega)
   unfold s_greenbeltref01_Back_L1
   simp only [e1, cond_true]
   rw [idx_of hi]
   simp only [Option.bind_some, h1, e2, e3, e4, cond_false]
   rw [idx_of hi, Option.bind_some, h1, u8_sub hc, w64_id (n := 10 * n) (by omega) (by omega), w64_id (n := 10 * n - dv c) (by omega) (by omega), w64_id (n := (i : Int) + 1) (by omega) (by omega), show ((i : Int) + 1) = ((i + 1 : Nat) : Int) by omega]
   exact back_digits s _ a (i + 1) fuel _ h2 hg' (by omega) hp' hs (by simp at hf; omega)
theorem back_total (s : List UInt8) (c1 : Int) (hs : s.length ≤ 21) : ∀ (k i fuel : Nat) (n : Int), k = s.length - i → I64 n → k < fuel → ∃ z, s_greenbeltref01_Back_L1 s c1 fuel (n, (i : Int)) = some z ∧ (z = .inl (0, false) ∨ ∃ v, z = .inr v ∧ I64 v) := by
 intro k
 induction k with
 | zero =>
  intro i fuel n hk hn hf
  cases fuel with
  | zero => omega
  | succ fuel =>
   have : decide ((i : Int) < (s.length : Int)) = false := decide_eq_false (by omega)
   unfold s_greenbeltref01_Back_L1
   simp only [this, cond_false]
   exact ⟨_, rfl, .inr ⟨_, rfl, hn⟩⟩
 | succ k ih =>
  intro i fuel n hk hn hf
  cases fuel with
  | zero => omega
  | succ fuel =>
   have hi : i < s.length := by omega
   have e1 : decide ((i : Int) < (s.length : Int)) = true := decide_eq_true (by omega)
   unfold s_greenbeltref01_Back_L1
   simp only [e1, cond_true]
   rw [idx_of hi]
   simp only [Option.bind_some]
   cases e2 : decide (((s.getD i default).toNat : Int) < 48)
   ·simp only [cond_false]
    cases e3 : decide (((s.getD i default).toNat : Int) > 57)
    ·simp only [cond_false, Option.bind_some]
     cases e4 : decide ((i : Int) > 20)
     ·simp only [cond_false]
      rw [idx_of hi, Option.bind_some, w64_id (n := (i : Int) + 1) (by omega) (by omega), show ((i : Int) + 1) = ((i + 1 : Nat) : Int) by omega]
      exact ih (i + 1) fuel _ (by omega) (w64_i64 _) (by omega)
     ·exact ⟨_, rfl, .inl rfl⟩
    ·exact ⟨_, rfl, .inl rfl⟩
   ·exact ⟨_, rfl, .inl rfl⟩
theorem back_itoa {n : Int} (h : I64 n) : s_greenbeltref01_Back (itoa n) = some (n, true) := by
 have hl := itoa_len h
 have fin : ∀ v, v = n → ((s_greenbeltref01_Int v).bind fun y1 => (grd (List.length (itoa n) + List.length ([59] : List UInt8) ≤ 9223372036854775807)).bind fun _ => some (v, (decide (y1 = (itoa n ++ ([59] : List UInt8)))))) = some (n, true) := fun v hv => by
  subst hv
  rw [r_Int h, Option.bind_some, grd_of (by simp only [List.length_singleton]; omega)]
  simp [encN]
 obtain ⟨h0, h1⟩ := h
 unfold s_greenbeltref01_Back
 by_cases hn : n < 0
 ·obtain ⟨u, rfl⟩ : ∃ u : Nat, n = -(u : Int) := ⟨n.natAbs, by omega⟩
  have hi : itoa (-(u : Int)) = 45 :: decDigits u := by unfold itoa; rw [if_pos hn]; simp
  have e1 : decide (((itoa (-(u : Int))).length : Int) > 0) = true := decide_eq_true (by rw [hi]; simp only [List.length_cons]; omega)
  have hfirst : (bif decide (((itoa (-(u : Int))).length : Int) > 0) then (idx (itoa (-(u : Int))) 0).bind fun x3 => some (decide (((x3.toNat : Nat) : Int) = 45)) else some false) = some true := by
   rw [e1, cond_true, show (0 : Int) = ((0 : Nat) : Int) from rfl, idx_of (by rw [hi]; simp), Option.bind_some]
   exact congrArg some (by rw [hi]; rfl)
  rw [hfirst]
  simp only [Option.bind_some, cond_true]
  have hb : s_greenbeltref01_Back_L1 (itoa (-(u : Int))) 1 KK (0, 1) = some (.inr (proc 0 (decDigits u))) := back_digits (itoa (-(u : Int))) 1 (decDigits u) 1 KK 0 (by rw [hi]; rfl) (dig_mem u) (by omega) (by rw [proc_dec]; omega) (by omega) (by have := dec_len (u := u) (by omega); exact kk_lt (by omega))
  rw [hb, Option.bind_some, proc_dec]
  simp only [sumC, show decide ((1 : Int) = 0) = false from rfl, cond_false, Option.bind_some]
  exact fin _ rfl
 ·obtain ⟨u, rfl⟩ : ∃ u : Nat, n = (u : Int) := ⟨n.toNat, by omega⟩
  have hi := itoa_nat u
  have hlen : 0 < (decDigits u).length := by cases hd : decDigits u with | nil => exact absurd hd (dec_ne u) | cons c r => simp
  have e1 : decide (((itoa (u : Int)).length : Int) > 0) = true := decide_eq_true (by rw [hi]; omega)
  have hfirst : (bif decide (((itoa (u : Int)).length : Int) > 0) then (idx (itoa (u : Int)) 0).bind fun x3 => some (decide (((x3.toNat : Nat) : Int) = 45)) else some false) = some false := by
   rw [e1, cond_true, show (0 : Int) = ((0 : Nat) : Int) from rfl, idx_of (by rw [hi]; omega), Option.bind_some]
   have := dig_mem u _ (by rw [← hi]; exact getD_mem (l := itoa (u : Int)) (i := 0) (by rw [hi]; omega))
   exact congrArg some (decide_eq_false (by omega))
  rw [hfirst]
  simp only [Option.bind_some, cond_false]
  have hb : s_greenbeltref01_Back_L1 (itoa (u : Int)) 0 KK (0, 0) = some (.inr (proc 0 (decDigits u))) := back_digits (itoa (u : Int)) 0 (decDigits u) 0 KK 0 (by rw [hi]; rfl) (dig_mem u) (by omega) (by rw [proc_dec]; omega) (by omega) (by have := dec_len (u := u) (by omega); exact kk_lt (by omega))
  rw [hb, Option.bind_some, proc_dec]
  simp only [sumC, show decide ((0 : Int) = 0) = true from rfl, cond_true, Option.bind_some]
  exact fin _ (by rw [w64_id (by omega) (by omega)]; omega)
theorem back_spec (s : List UInt8) (hs : s.length ≤ 21) : ∃ v b, s_greenbeltref01_Back s = some (v, b) ∧ (b = true → I64 v ∧ s = itoa v) := by
 have fin : ∀ v, I64 v → ∃ v' b, ((s_greenbeltref01_Int v).bind fun y1 => (grd (List.length s + List.length ([59] : List UInt8) ≤ 9223372036854775807)).bind fun _ => some (v, (decide (y1 = (s ++ ([59] : List UInt8)))))) = some (v', b) ∧ (b = true → I64 v' ∧ s = itoa v') := fun v hv => by
  rw [r_Int hv, Option.bind_some, grd_of (by simp only [List.length_singleton]; omega)]
  refine ⟨_, _, rfl, fun h => ⟨hv, ?_⟩⟩
  have := of_decide_eq_true h
  exact (List.append_cancel_right (show itoa v ++ [59] = s ++ [59] from this)).symm
 unfold s_greenbeltref01_Back
 have first : ∃ b : Bool, (bif decide ((s.length : Int) > 0) then (idx s 0).bind fun x3 => some (decide (((x3.toNat : Nat) : Int) = 45)) else some false) = some b := by
  by_cases h : 0 < s.length
  ·have e1 : decide ((s.length : Int) > 0) = true := decide_eq_true (by omega)
   rw [e1, cond_true, show (0 : Int) = ((0 : Nat) : Int) from rfl, idx_of h]
   exact ⟨_, rfl⟩
  ·have e1 : decide ((s.length : Int) > 0) = false := decide_eq_false (by omega)
   rw [e1, cond_false]; exact ⟨_, rfl⟩
 obtain ⟨b, hb⟩ := first
 rw [hb, Option.bind_some]
 have second : ∃ i : Nat, (bif b then some (1 : Int) else some 0) = some (i : Int) := by cases b with | false => exact ⟨0, rfl⟩ | true => exact ⟨1, rfl⟩
 obtain ⟨i, hi⟩ := second
 rw [hi, Option.bind_some]
 obtain ⟨z, hz, h⟩ := back_total s (i : Int) hs (s.length - i) i KK 0 rfl ⟨by omega, by omega⟩ (kk_lt (by omega))
 rw [hz, Option.bind_some]
 rcases h with rfl | ⟨v, rfl, hv⟩
 ·exact ⟨_, _, rfl, fun h => by cases h⟩
 ·simp only [sumC]
  have third : ∃ v', (bif decide ((i : Int) = 0) then some (w64 (0 - v)) else some v) = some v' ∧ I64 v' := by
   cases decide ((i : Int) = 0)
   ·exact ⟨_, rfl, hv⟩
   ·exact ⟨_, rfl, w64_i64 _⟩
  obtain ⟨v', hv', hv2⟩ := third
  rw [hv', Option.bind_some]
  exact fin v' hv2
/- ahead -/
theorem ahead_L (s : List UInt8) (c2 : Bool) (ei : Int) (e : UInt8) (he : ei = (e.toNat : Int)) : ∀ (k i fuel : Nat), k = 21 - i → i ≤ 21 → i ≤ s.length → (∀ j, j < i → s[j]? ≠ some e) → k < fuel →
  ∃ m : Nat, s_greenbeltref01_Reader_ahead_L1 ei s c2 fuel (i : Int) = some (m : Int) ∧ m ≤ 21 ∧ m ≤ s.length ∧ (∀ j, j < m → s[j]? ≠ some e) ∧ (m = s.length ∨ m = 21 ∨ s[m]? = some e) := by
 intro k
 induction k with
 | zero =>
  intro i fuel hk hi hl hj hf
  cases fuel with
  | zero => omega
  | succ fuel =>
   have : i = 21 := by omega
   subst this
   refine ⟨21, ?_, by omega, hl, hj, .inr (.inl rfl)⟩
   unfold s_greenbeltref01_Reader_ahead_L1
   cases decide (((21 : Nat) : Int) < (s.length : Int)) <;> rfl
 | succ k ih =>
  intro i fuel hk hi hl hj hf
  cases fuel with
  | zero => omega
  | succ fuel =>
   unfold s_greenbeltref01_Reader_ahead_L1
   by_cases h1 : i < s.length
   ·have e1 : decide ((i : Int) < (s.length : Int)) = true := decide_eq_true (by omega)
    have e2 : decide ((i : Int) < 21) = true := decide_eq_true (by omega)
    simp only [e1, e2, cond_true]
    rw [idx_of h1]
    have hg : s[i]? = some (s.getD i default) := by simp [List.getD_eq_getElem?_getD, List.getElem?_eq_getElem h1]
    by_cases h3 : s.getD i default = e
    ·have e3 : decide (((s.getD i default).toNat : Int) = ei) = true := by rw [h3, he]; simp
     simp only [Option.bind_some, e3, Bool.not_true, cond_false]
     exact ⟨i, rfl, by omega, by omega, hj, .inr (.inr (by rw [hg, h3]))⟩
    ·have e3 : decide (((s.getD i default).toNat : Int) = ei) = false := by
      rw [he]; simp only [decide_eq_false_iff_not]; intro h4; exact h3 (UInt8.toNat_inj.1 (by omega))
     simp only [Option.bind_some, e3, Bool.not_false, cond_true]
     rw [w64_id (by omega) (by omega), show ((i : Int) + 1) = ((i + 1 : Nat) : Int) by omega]
     refine ih (i + 1) fuel (by omega) (by omega) (by omega) (fun j h => ?_) (by omega)
     by_cases h5 : j = i
     ·subst h5; rw [hg]; intro h6; injection h6 with h6; exact h3 h6
     ·exact hj j (by omega)
   ·have e1 : decide ((i : Int) < (s.length : Int)) = false := decide_eq_false (by omega)
    simp only [e1, cond_false, Option.bind_some]
    exact ⟨i, rfl, by omega, by omega, hj, .inl (by omega)⟩
def m63 : Int := -9223372036854775808
theorem ahead_spec {rest : List UInt8} {bad : Bool} {ei : Int} {e : UInt8} (he : ei = (e.toNat : Int)) (hs : stop e) (hlen : rest.length ≤ 140737488355328) :
  s_greenbeltref01_Reader_ahead rest bad ei = some (rd (Dec (encN e) (okN m63) rest) 0 bad) := by
 unfold s_greenbeltref01_Reader_ahead
 obtain ⟨m, hm, h1, h2, h3, h4⟩ := ahead_L rest _ ei e he 21 0 KK rfl (by omega) (by omega) (fun j h => by omega) (kk_lt (by omega))
 rw [show (0 : Int) = ((0 : Nat) : Int) from rfl, hm, Option.bind_some]
 have key : ∀ n t, I64 n → rest = encN e n ++ t → m = (itoa n).length ∧ rest[m]? = some e ∧ m < rest.length := fun n t hn h => by
  have h : rest = itoa n ++ e :: t := by simpa [encN] using h
  have hl := itoa_len hn
  have hat : rest[(itoa n).length]? = some e := by rw [h]; simp
  have hno : ∀ j, j < (itoa n).length → rest[j]? ≠ some e := fun j hj e1 => by
   rw [h, List.getElem?_append_left hj] at e1
   exact stop_not hs n (List.mem_of_getElem? e1)
  have hrl : rest.length = (itoa n).length + (t.length + 1) := by rw [h]; simp
  have hmm : m = (itoa n).length := by
   rcases Nat.lt_trichotomy m (itoa n).length with h5 | h5 | h5
   ·rcases h4 with h4 | h4 | h4
    ·omega
    ·omega
    ·exact absurd h4 (hno m h5)
   ·exact h5
   ·exact absurd hat (h3 _ h5)
  exact ⟨hmm, by rw [hmm]; exact hat, by omega⟩
 by_cases hlt : rest.length ≤ m
 ·have hD : Dec (encN e) (okN m63) rest = none := Dec_no fun n t hn h => by have := (key n t hn.1 h).2.2; omega
  have e1 : decide ((m : Int) ≥ (rest.length : Int)) = true := decide_eq_true (by omega)
  rw [e1, hD]; rfl
 ·have e1 : decide ((m : Int) ≥ (rest.length : Int)) = false := decide_eq_false (by omega)
  rw [e1, cond_false, idx_of (by omega), Option.bind_some]
  have hg : rest[m]? = some (rest.getD m default) := by simp [List.getD_eq_getElem?_getD, List.getElem?_eq_getElem (show m < rest.length by omega)]
  by_cases h5 : rest.getD m default = e
  ·have e2 : decide (((rest.getD m default).toNat : Int) = ei) = true := by rw [h5, he]; simp
   rw [e2, Bool.not_true, cond_false, show ((0 : Nat) : Int) = 0 from rfl, cut_tk (by omega), Option.bind_some]
   have hsplit : rest = rest.take m ++ e :: rest.drop (m + 1) := by
    rw [← h5, ← drop_cons (show m < rest.length by omega), List.take_append_drop]
   have htl : (rest.take m).length = m := by rw [List.length_take]; omega
   obtain ⟨v, b, hb, h6⟩ := back_spec (rest.take m) (by omega)
   rw [hb, Option.bind_some]
   have key2 : ∀ n t, I64 n → rest = encN e n ++ t → v = n ∧ b = true := fun n t hn h => by
    have hm' := (key n t hn h).1
    have : rest.take m = itoa n := by rw [h, encN, List.append_assoc, hm', List.take_left]
    rw [this, back_itoa hn] at hb
    injection hb with hb
    injection hb with h7 h8
    exact ⟨h7.symm, h8.symm⟩
   cases b with
   | false =>
    have hD : Dec (encN e) (okN m63) rest = none := Dec_no fun n t hn h => by cases (key2 n t hn.1 h).2
    rw [hD]; rfl
   | true =>
    obtain ⟨h7, h8⟩ := h6 rfl
    have hD : Dec (encN e) (okN m63) rest = some (v, rest.drop (m + 1)) := Dec_of (pf_num hs m63) ⟨h7, h7.1⟩ (by
     rw [encN, List.append_assoc, List.singleton_append, ← h8]; exact hsplit)
    simp only [Bool.not_true, cond_false]
    rw [w64_id (by omega) (by omega), show ((m : Int) + 1) = ((m + 1 : Nat) : Int) by omega, cut_dr (by omega), hD]; rfl
  ·have e2 : decide (((rest.getD m default).toNat : Int) = ei) = false := by
    rw [he]; simp only [decide_eq_false_iff_not]; intro h6; exact h5 (UInt8.toNat_inj.1 (by omega))
   have hD : Dec (encN e) (okN m63) rest = none := Dec_no fun n t hn h => by
    have := (key n t hn.1 h).2.1
    rw [hg] at this; injection this with this; exact h5 this
   rw [e2, hD]; rfl
theorem rnumber_spec {rest : List UInt8} {bad : Bool} {ei : Int} {e : UInt8} (he : ei = (e.toNat : Int)) (hs : stop e) (hlen : rest.length ≤ 140737488355328) :
  s_greenbeltref01_Reader_number rest bad ei = some (rd (Dec (encN e) (okN 0) rest) 0 bad) := by
 unfold s_greenbeltref01_Reader_number
 rw [ahead_spec he hs hlen, Option.bind_some]
 cases hD : Dec (encN e) (okN m63) rest with
 | none =>
  have h2 : Dec (encN e) (okN 0) rest = none := Dec_no fun n t hn h => Dec_none hD n t ⟨hn.1, hn.1.1⟩ h
  rw [h2]; rfl
 | some p =>
  obtain ⟨n, t⟩ := p
  obtain ⟨h1, h2⟩ := Dec_is hD
  rw [rd_some]
  by_cases h0 : n < 0
  ·have h3 : Dec (encN e) (okN 0) rest = none := Dec_no fun k u hk h => by
    have := (pf_num hs m63 _ _ _ _ h1 ⟨hk.1, hk.1.1⟩ (h2.symm.trans h)).1
    have := hk.2; omega
   rw [h3]; simp [h0, s_greenbeltref01_Reader_fail, rd]
  ·rw [Dec_of (pf_num hs 0) ⟨h1.1, by omega⟩ h2]; simp [h0, rd]
theorem rNum_spec {rest : List UInt8} {bad : Bool} (hlen : rest.length ≤ 140737488355328) : s_greenbeltref01_Reader_Num rest bad = some (rd (Dec (encN 59) (okN 0) rest) 0 bad) := by
 unfold s_greenbeltref01_Reader_Num
 rw [rnumber_spec (ei := 59) (e := 59) rfl ⟨by decide, by decide⟩ hlen]; rfl
theorem rclose_spec (x : List UInt8) (bad : Bool) (c : UInt8) (ei : Int) (he : ei = (c.toNat : Int)) (hl : x.length ≤ 140737488355328) : s_greenbeltref01_Reader_close x bad ei = some (match cls x c with | some u => (true, u, bad) | none => (false, [], true)) := by
 unfold s_greenbeltref01_Reader_close
 cases x with
 | nil => rfl
 | cons d u =>
  have e1 : decide (((d :: u).length : Int) = 0) = false := by simp; omega
  rw [e1, cond_false, show (0 : Int) = ((0 : Nat) : Int) from rfl, idx_of (by simp), Option.bind_some]
  by_cases hd : d = c
  ·subst hd
   have e2 : decide ((((d :: u).getD 0 default).toNat : Int) = ei) = true := by rw [he]; simp
   rw [e2, show (1 : Int) = ((1 : Nat) : Int) from rfl, Bool.not_true, cond_false, cut_dr (by simp)]
   simp [cls]
  ·have e2 : decide ((((d :: u).getD 0 default).toNat : Int) = ei) = false := by
    rw [he]; simp only [decide_eq_false_iff_not]; intro h; exact hd (UInt8.toNat_inj.1 (by have h : (d.toNat : Int) = c.toNat := h; omega))
   rw [e2]; simp [cls, hd, s_greenbeltref01_Reader_fail]
theorem rtext_spec {rest : List UInt8} {bad : Bool} (hinv : bad = true → rest = []) (hlen : rest.length ≤ 140737488355328) : s_greenbeltref01_Reader_Text rest bad = some (rd (Dec encT okT rest) [] bad) := by
 have hst : stop 58 := ⟨by decide, by decide⟩
 unfold s_greenbeltref01_Reader_Text
 rw [rnumber_spec (ei := 58) (e := 58) rfl hst hlen, Option.bind_some]
 cases hD : Dec (encN 58) (okN 0) rest with
 | none =>
  have h2 : Dec encT okT rest = none := Dec_no fun s u hs h => Dec_none hD s.length _ ⟨i64_len hs, by omega⟩ (h.trans (len_shape s u))
  rw [h2]; rfl
 | some p =>
  obtain ⟨n, t⟩ := p
  obtain ⟨⟨hn, h0⟩, hr⟩ := Dec_is hD
  obtain ⟨k, rfl⟩ : ∃ k : Nat, n = k := ⟨n.toNat, (Int.toNat_of_nonneg h0).symm⟩
  have hrl : rest.length = (itoa (k : Int)).length + 1 + t.length := by rw [hr]; simp only [encN, List.length_append, List.length_singleton]
  have hbad : bad = false := by
   cases bad with
   | false => rfl
   | true => rw [hinv rfl] at hr; exact absurd hr.symm num_nonempty
  subst hbad
  have uniq : ∀ s u, okT s → rest = encT s ++ u → s.length = k ∧ t = s ++ 44 :: u := fun s u hs h => by
   obtain ⟨h1, h2⟩ := pf_num hst 0 _ _ _ _ ⟨hn, h0⟩ ⟨i64_len hs, by omega⟩ (hr.symm.trans (h.trans (len_shape s u)))
   exact ⟨by omega, h2⟩
  rw [rd_some]
  by_cases hk : t.length ≤ k
  ·have h2 : Dec encT okT rest = none := Dec_no fun s u hs h => by
    obtain ⟨h3, h4⟩ := uniq s u hs h
    rw [h4] at hk; simp at hk; omega
   have : decide ((k : Int) ≥ (t.length : Int)) = true := decide_eq_true (by omega)
   simp only [cond_false]
   rw [this, h2]; rfl
  ·have : decide ((k : Int) ≥ (t.length : Int)) = false := decide_eq_false (by omega)
   simp only [cond_false]
   rw [this, Option.bind_some, cond_false]
   rw [cut_tk (l := t) (k := k) (by omega), Option.bind_some, cut_dr (l := t) (k := k) (by omega), Option.bind_some, rclose_spec _ _ 44 44 rfl (by rw [List.length_drop]; omega), Option.bind_some]
   cases hc : cls (t.drop k) 44 with
   | none =>
    have h2 : Dec encT okT rest = none := Dec_no fun s u hs h => by
     obtain ⟨h3, h4⟩ := uniq s u hs h
     rw [h4, ← h3, List.drop_left, cls_cons] at hc; cases hc
    simp [h2, rd]
   | some u =>
    have hu := cls_is hc
    have htk : (t.take k).length = k := by rw [List.length_take]; omega
    have h2 : Dec encT okT rest = some (t.take k, u) := Dec_of pf_text (by show (t.take k).length < _; omega) (by
     rw [len_shape, htk, hr, ← hu, List.take_append_drop])
    simp [h2, rd]
end Go.Proofs.YtoflckochjijcaaGreatDoor.E
