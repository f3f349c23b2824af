/- The readers of wire read what the codes say. -/
import Derived.Test.YtpabacdeogeehaaGreatDoorG
set_option linter.all false
set_option maxRecDepth 100000
namespace Go.Proofs.YtpabacdeogeehaaGreatDoor
open Go Go.Lib Go.EV
variable [Fuel]

theorem atoiV_is {s : List UInt8} {v : Int} (h : atoiV s = some v) : atoiAll s = .ok v := by
 unfold atoiV at h
 split at h
 ·injection h with h; subst h; assumption
 ·cases h
theorem atoiV_itoa {n : Int} (h : I64 n) : atoiV (itoa n) = some n := by unfold atoiV; rw [atoi_itoa h]
theorem atoiV_i64 {s : List UInt8} {v : Int} (h : atoiV s = some v) : I64 v := atoiAll_bounds (atoiV_is h)
theorem head_of {e : UInt8} {n : Int} {rest t : List UInt8} (hs : stop e) (hn : I64 n) (h : rest = itoa n ++ e :: t) (K : Nat) (hK : min rest.length 21 ≤ K) :
  indexByte (rest.take K) e = ((itoa n).length : Int) ∧ (rest.take K).take (itoa n).length = itoa n := by
 have hl := itoa_len hn
 have hK' : (itoa n ++ [e]).length ≤ K := by
  have : rest.length = (itoa n).length + (t.length + 1) := by rw [h]; simp
  simp only [List.length_append, List.length_singleton]; omega
 have e1 : rest.take K = itoa n ++ e :: t.take (K - (itoa n ++ [e]).length) := by
  rw [h, show itoa n ++ e :: t = (itoa n ++ [e]) ++ t by simp, List.take_append, List.take_of_length_le hK']; simp
 rw [e1]
 exact ⟨index_at (stop_not hs n), by rw [List.take_left]⟩
theorem num_nonempty {e : UInt8} {n : Int} {t : List UInt8} : encN e n ++ t ≠ [] := by simp [encN]
theorem number_spec {rest : List UInt8} {bad : Bool} {ei least : Int} {e : UInt8} (he : ei.toNat.toUInt8 = e) (hs : stop e) (hlen : rest.length ≤ 140737488355328) :
  s_wire_Reader_number rest bad ei least = some (rd (Dec (encN e) (okN least) rest) 0 bad) := by
 have key : ∀ n t, I64 n → rest = encN e n ++ t → indexByte (rest.take (min rest.length 21)) e = ((itoa n).length : Int) ∧ (rest.take (min rest.length 21)).take (itoa n).length = itoa n := fun n t hn h =>
  head_of hs hn (by simpa [encN] using h) _ (Nat.le_refl _)
 unfold s_wire_Reader_number
 rw [show min (rest.length : Int) 21 = ((min rest.length 21 : Nat) : Int) by omega, cut_tk (by omega), Option.bind_some]
 obtain ⟨head, hhead⟩ : ∃ head, head = rest.take (min rest.length 21) := ⟨_, rfl⟩
 rw [← hhead] at key ⊢
 have hhl : head.length = min rest.length 21 := by rw [hhead, List.length_take]; omega
 unfold s_indexByte
 rw [Option.bind_some, he]
 have hge := indexByte_ge head e
 by_cases h0 : indexByte head e < 0
 ·have hD : Dec (encN e) (okN least) rest = none := Dec_no fun n t hn h => by have := (key n t hn.1 h).1; omega
  simp [h0, hD, rd, s_wire_Reader_fail]
 ·obtain ⟨k, hk⟩ : ∃ k : Nat, indexByte head e = k := ⟨(indexByte head e).toNat, (Int.toNat_of_nonneg (by omega)).symm⟩
  obtain ⟨hat, _⟩ := indexByte_some hk
  have hkl : k < head.length := (List.getElem?_eq_some_iff.1 hat).1
  rw [hk] at key ⊢
  have hk0 : decide ((k : Int) < 0) = false := by simp
  simp only [hk0, cond_false]
  rw [cut_tk (by omega), Option.bind_some, grd_of (by rw [List.length_take]; omega), Option.bind_some]
  have hrk : rest[k]? = some e := by
   rw [hhead, List.getElem?_take] at hat
   split at hat
   ·exact hat
   ·cases hat
  have htk : head.take k = rest.take k := by rw [hhead, List.take_take]; congr 1; omega
  have hsplit : rest = rest.take k ++ e :: rest.drop (k + 1) := by
   obtain ⟨h1, h2⟩ := List.getElem?_eq_some_iff.1 hrk
   rw [← h2, ← List.drop_eq_getElem_cons h1, List.take_append_drop]
  have key2 : ∀ n t, I64 n → rest = encN e n ++ t → head.take k = itoa n := fun n t hn h => by
   obtain ⟨h1, h2⟩ := key n t hn h
   rw [← h2]; congr 1; omega
  cases hv : atoiV (head.take k) with
  | none =>
   have hD : Dec (encN e) (okN least) rest = none := Dec_no fun n t hn h => by rw [key2 n t hn.1 h, atoiV_itoa hn.1] at hv; cases hv
   simp [optE, hD, rd, s_wire_Reader_fail]
  | some v =>
   have hi := atoiV_i64 hv
   simp only [optE]
   rw [s_itoa_of hi, Option.bind_some, Option.bind_some]
   by_cases heq : itoa v = head.take k
   ·simp only [heq, decide_true, Bool.not_true, cond_false, Option.bind_some]
    by_cases hlt : v < least
    ·have hD : Dec (encN e) (okN least) rest = none := Dec_no fun n t hn h => by
      have := itoa_inj hi hn.1 (heq.trans (key2 n t hn.1 h))
      have := hn.2; omega
     simp [hlt, hD, rd, s_wire_Reader_fail]
    ·have hD : Dec (encN e) (okN least) rest = some (v, rest.drop (k + 1)) := Dec_of (pf_num hs least) ⟨hi, by omega⟩ (by
      rw [encN, List.append_assoc, List.singleton_append, heq, htk]; exact hsplit)
     have hlt' : decide (v < least) = false := by simp; omega
     simp only [hlt', cond_false, hD, rd]
     rw [w64_id (by omega) (by omega), show ((k : Int) + 1) = ((k + 1 : Nat) : Int) by omega, cut_dr (by omega)]; rfl
   ·have hD : Dec (encN e) (okN least) rest = none := Dec_no fun n t hn h => by
     have h1 := key2 n t hn.1 h
     rw [h1, atoiV_itoa hn.1] at hv
     injection hv with hv
     exact heq (by rw [← hv, h1])
    simp [heq, hD, rd, s_wire_Reader_fail]
def cls (x : List UInt8) (c : UInt8) : Option (List UInt8) := match x with | d :: u => if d = c then some u else none | [] => none
theorem cls_is {x u : List UInt8} {c : UInt8} (h : cls x c = some u) : x = c :: u := by
 cases x with
 | nil => cases h
 | cons d x =>
  simp only [cls] at h
  split at h
  ·injection h with h; subst h; subst_vars; rfl
  ·cases h
theorem cls_cons (c : UInt8) (u : List UInt8) : cls (c :: u) c = some u := by simp [cls]
theorem close_spec (x : List UInt8) (bad : Bool) (c : UInt8) : s_wire_Reader_close x bad [c] = some (match cls x c with | some u => (u, bad) | none => ([], true)) := by
 unfold s_wire_Reader_close s_strings_CutPrefix s_stringslite_CutPrefix s_stringslite_HasPrefix
 cases x with
 | nil => simp [cls, s_wire_Reader_fail]
 | cons d u =>
  have h1 : decide (((d :: u).length : Int) ≥ (([c] : List UInt8).length : Int)) = true := by simp; omega
  simp only [h1, cond_true]
  rw [show ((([c] : List UInt8).length : Nat) : Int) = ((1 : Nat) : Int) from rfl, cut_tk (by simp), cut_dr (by simp)]
  by_cases hd : d = c
  ·subst hd; simp [cls]
  ·simp [cls, hd, s_wire_Reader_fail]
def many {α : Type} (D : List UInt8 → Option (α × List UInt8)) : Nat → List UInt8 → Option (List α × List UInt8)
 | 0, r => some ([], r)
 | k + 1, r => match D r with
  | none => none
  | some (x, t) => match many D k t with
   | none => none
   | some (l, u) => some (x :: l, u)
section
variable {α : Type} {enc : α → List UInt8} {ok : α → Prop}
theorem many_is : ∀ {k : Nat} {r : List UInt8} {l : List α} {u : List UInt8}, many (Dec enc ok) k r = some (l, u) → l.length = k ∧ (∀ x ∈ l, ok x) ∧ r = l.flatMap enc ++ u
 | 0, r, l, u, h => by
  simp only [many, Option.some.injEq, Prod.mk.injEq] at h
  obtain ⟨rfl, rfl⟩ := h
  exact ⟨rfl, fun _ h => (by cases h), by simp⟩
 | k + 1, r, l, u, h => by
  simp only [many] at h
  split at h
  ·cases h
  ·rename_i x t hD
   split at h
   ·cases h
   ·rename_i l' u' hm
    simp only [Option.some.injEq, Prod.mk.injEq] at h
    obtain ⟨rfl, rfl⟩ := h
    obtain ⟨h1, h2⟩ := Dec_is hD
    obtain ⟨h3, h4, h5⟩ := many_is hm
    refine ⟨by simp [h3], fun y hy => ?_, by rw [h2, h5]; simp⟩
    rcases List.mem_cons.1 hy with rfl | hy
    ·exact h1
    ·exact h4 y hy
theorem many_of (h : PF enc ok) : ∀ {l : List α} {u : List UInt8}, (∀ x ∈ l, ok x) → many (Dec enc ok) l.length (l.flatMap enc ++ u) = some (l, u)
 | [], u, _ => by simp [many]
 | x :: l, u, hl => by
  simp only [List.length_cons, many, List.flatMap_cons, List.append_assoc]
  rw [Dec_of h (hl x (List.mem_cons_self ..)) rfl]
  simp only
  rw [many_of h (fun y hy => hl y (List.mem_cons_of_mem _ hy))]
end
theorem Int_spec {rest : List UInt8} {bad : Bool} (hlen : rest.length ≤ 140737488355328) : s_wire_Reader_Int rest bad = some (rd (Dec (encN 59) (okN (-9223372036854775808)) rest) 0 bad) := by
 unfold s_wire_Reader_Int
 rw [number_spec (e := 59) rfl ⟨by decide, by decide⟩ hlen]; rfl
theorem list_shape {α : Type} (enc : α → List UInt8) (l : List α) (u : List UInt8) : encL enc l ++ u = encN 91 l.length ++ (l.flatMap enc ++ 93 :: u) := by simp [encL, encN]
def eI : Int → List UInt8 := encN 59
def kI : Int → Prop := okN (-9223372036854775808)
theorem pfI : PF eI kI := pf_num ⟨by decide, by decide⟩ _
theorem eI_len (x : Int) : 1 ≤ (eI x).length := by simp [eI, encN]
theorem items_L : ∀ (k fuel : Nat) (rest : List UInt8) (out : List Int), k < fuel → k < 9223372036854775808 → out.length + rest.length ≤ 1000000000000 →
  (∀ l u, many (Dec eI kI) k rest = some (l, u) → s_wire_items_L1 fuel ((k : Int), rest, false, out) = some (u, false, out ++ l)) ∧ (many (Dec eI kI) k rest = none → ∃ o, s_wire_items_L1 fuel ((k : Int), rest, false, out) = some ([], true, o)) := by
 intro k
 induction k with
 | zero =>
  intro fuel rest out hf hk hb
  cases fuel with
  | zero => omega
  | succ fuel =>
   refine ⟨fun l u h => ?_, fun h => by cases h⟩
   simp only [many, Option.some.injEq, Prod.mk.injEq] at h
   obtain ⟨rfl, rfl⟩ := h
   simp [s_wire_items_L1]
 | succ k ih =>
  intro fuel rest out hf hk hb
  cases fuel with
  | zero => omega
  | succ fuel =>
   have h0 : decide (((k + 1 : Nat) : Int) > 0) = true := by simp <;> omega
   have hw : w64 (((k + 1 : Nat) : Int) - 1) = (k : Int) := by rw [w64_id (by omega) (by omega)]; omega
   unfold s_wire_items_L1
   simp only [h0, cond_true, Bool.not_false, Option.bind_some]
   rw [Int_spec (by omega), Option.bind_some]
   show (∀ l u, many (Dec eI kI) (k + 1) rest = some (l, u) → ((grd ((out ++ [(rd (Dec eI kI rest) 0 false).1]).length * 8 ≤ 140737488355328)).bind fun _ => s_wire_items_L1 fuel (w64 (((k + 1 : Nat) : Int) - 1), (rd (Dec eI kI rest) 0 false).2.1, (rd (Dec eI kI rest) 0 false).2.2, out ++ [(rd (Dec eI kI rest) 0 false).1])) = some (u, false, out ++ l)) ∧ (many (Dec eI kI) (k + 1) rest = none → ∃ o, ((grd ((out ++ [(rd (Dec eI kI rest) 0 false).1]).length * 8 ≤ 140737488355328)).bind fun _ => s_wire_items_L1 fuel (w64 (((k + 1 : Nat) : Int) - 1), (rd (Dec eI kI rest) 0 false).2.1, (rd (Dec eI kI rest) 0 false).2.2, out ++ [(rd (Dec eI kI rest) 0 false).1])) = some ([], true, o))
   rw [grd_of (by simp only [List.length_append, List.length_singleton]; omega), Option.bind_some, hw]
   simp only [many]
   cases hD : Dec eI kI rest with
   | none =>
    refine ⟨fun l u h => (by cases h), fun _ => ⟨out ++ [0], ?_⟩⟩
    cases fuel with
    | zero => omega
    | succ fuel =>
     simp only [rd]
     unfold s_wire_items_L1
     cases hk0 : decide ((k : Int) > 0) <;> simp
   | some p =>
    obtain ⟨x, t⟩ := p
    obtain ⟨h1, h2⟩ := Dec_is hD
    have hlt : t.length + 1 ≤ rest.length := by rw [h2, List.length_append]; have := eI_len x; omega
    obtain ⟨i1, i2⟩ := ih fuel t (out ++ [x]) (by omega) (by omega) (by simp only [List.length_append, List.length_singleton]; omega)
    simp only [rd]
    cases hm : many (Dec eI kI) k t with
    | none => exact ⟨fun l u h => (by cases h), fun _ => i2 hm⟩
    | some q =>
     obtain ⟨l', u'⟩ := q
     refine ⟨fun l u h => ?_, fun h => by cases h⟩
     simp only [Option.some.injEq, Prod.mk.injEq] at h
     obtain ⟨rfl, rfl⟩ := h
     rw [i1 l' u' hm]; simp
theorem Nums_spec {rest : List UInt8} {bad : Bool} (hinv : bad = true → rest = []) (hlen : rest.length ≤ 1000000000000) : s_wire_Reader_Nums rest bad = some (rd (Dec (encL eI) (okL kI) rest) [] bad) := by
 have hst : stop 91 := ⟨by decide, by decide⟩
 unfold s_wire_Reader_Nums s_wire_items
 rw [number_spec (e := 91) rfl hst (by omega), Option.bind_some]
 cases hD : Dec (encN 91) (okN 0) rest with
 | none =>
  have h2 : Dec (encL eI) (okL kI) rest = none := Dec_no fun s u hs h => Dec_none hD s.length _ ⟨i64_len hs.1, by omega⟩ (h.trans (list_shape eI s u))
  simp only [rd, h2]
  have : s_wire_items_L1 KK (0, [], true, []) = some ([], true, []) := by
   obtain ⟨n, hn, _⟩ := kk (n := 0) (by omega)
   rw [hn]; simp [s_wire_items_L1]
  rw [this, Option.bind_some, close_spec]
  simp [cls]
 | some p =>
  obtain ⟨n, t⟩ := p
  obtain ⟨⟨hn, h0⟩, hr⟩ := Dec_is hD
  obtain ⟨k, rfl⟩ : ∃ k : Nat, n = k := ⟨n.toNat, (Int.toNat_of_nonneg h0).symm⟩
  have hrl : rest.length = (itoa (k : Int)).length + 1 + t.length := by rw [hr]; simp only [encN, List.length_append, List.length_singleton]
  have hbad : bad = false := by
   cases bad with
   | false => rfl
   | true => rw [hinv rfl] at hr; exact absurd hr.symm num_nonempty
  subst hbad
  have uniq : ∀ s u, okL kI s → rest = encL eI s ++ u → s.length = k ∧ t = s.flatMap eI ++ 93 :: u := fun s u hs h => by
   obtain ⟨h1, h2⟩ := pf_num hst 0 _ _ _ _ ⟨hn, h0⟩ ⟨i64_len hs.1, by omega⟩ (hr.symm.trans (h.trans (list_shape eI s u)))
   exact ⟨by omega, h2⟩
  simp only [rd]
  obtain ⟨i1, i2⟩ := items_L k KK t [] (by have := hn.2; have := KK_big; omega) (by have := hn.2; omega) (by simp; omega)
  cases hm : many (Dec eI kI) k t with
  | none =>
   obtain ⟨o, ho⟩ := i2 hm
   rw [ho, Option.bind_some, close_spec]
   have h2 : Dec (encL eI) (okL kI) rest = none := Dec_no fun s u hs h => by
    obtain ⟨h3, h4⟩ := uniq s u hs h
    rw [h4, ← h3, many_of pfI hs.2] at hm; cases hm
   simp [cls, h2]
  | some q =>
   obtain ⟨l, u⟩ := q
   rw [i1 l u hm, Option.bind_some, close_spec]
   obtain ⟨g1, g2, g3⟩ := many_is hm
   cases hc : cls u 93 with
   | none =>
    have h2 : Dec (encL eI) (okL kI) rest = none := Dec_no fun s v hs h => by
     obtain ⟨h3, h4⟩ := uniq s v hs h
     rw [h4, ← h3, many_of pfI hs.2] at hm
     simp only [Option.some.injEq, Prod.mk.injEq] at hm
     rw [← hm.2, cls_cons] at hc; cases hc
    simp [h2]
   | some v =>
    have hv := cls_is hc
    have h2 : Dec (encL eI) (okL kI) rest = some (l, v) := Dec_of (pf_list pfI) ⟨by rw [g1]; have := hn.2; omega, g2⟩ (by rw [list_shape, g1, hr, g3, hv])
    simp [h2]
end Go.Proofs.YtpabacdeogeehaaGreatDoor
