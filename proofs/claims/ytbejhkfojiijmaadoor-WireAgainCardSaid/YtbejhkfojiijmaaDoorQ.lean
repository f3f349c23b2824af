/- The laws of wire hold of what the walked functions compute. -/
import Derived.Test.YtbejhkfojiijmaaDoorP
set_option linter.all false
set_option maxRecDepth 100000
namespace Go.Proofs.YtbejhkfojiijmaaDoor
open Go Go.Lib Go.EV

abbrev Val := greenbeltlaw01_Value
def vOK (v : Val) : Prop := I64 v.N ∧ ∀ x ∈ v.L, I64 x
/- the small examples -/
theorem itoa_small {u : Nat} (h : u < 10) : itoa (u : Int) = [UInt8.ofNat (48 + u)] := by rw [itoa_nat, decDigits_one h]
theorem small_true : s_greenbeltlaw01_small = some true := by
  have i0 : itoa 0 = [48] := itoa_small (u := 0) (by omega)
  have i1 : itoa 1 = [49] := itoa_small (u := 1) (by omega)
  have i2 : itoa 2 = [50] := itoa_small (u := 2) (by omega)
  have i3 : itoa 3 = [51] := itoa_small (u := 3) (by omega)
  have i7 : itoa 7 = [55] := itoa_small (u := 7) (by omega)
  have i300 : itoa 300 = [51, 48, 48] := by
    rw [show (300 : Int) = ((300 : Nat) : Int) from rfl, itoa_nat, decDigits, dif_neg (by omega), decDigits, dif_neg (by omega), decDigits, dif_pos (by omega)]; rfl
  have im7 : itoa (-7) = [45, 55] := by
    unfold itoa; rw [if_pos (by omega), show (-7 : Int).natAbs = 7 from rfl, decDigits_one (by omega)]; rfl
  have im1 : itoa (-1) = [45, 49] := by
    unfold itoa; rw [if_pos (by omega), show (-1 : Int).natAbs = 1 from rfl, decDigits_one (by omega)]; rfl
  have hI : ∀ n : Int, -1000 ≤ n → n ≤ 1000 → I64 n := fun n h1 h2 => ⟨by omega, by omega⟩
  have n1 : s_wire_Num 0 = some [48, 59] := by rw [s_Num (hI _ (by omega) (by omega))]; simp [encN, i0]
  have n2 : s_wire_Num 300 = some [51, 48, 48, 59] := by rw [s_Num (hI _ (by omega) (by omega))]; simp [encN, i300]
  have n3 : s_wire_Num (-1) = some [] := by rw [s_Num (hI _ (by omega) (by omega))]; simp
  have n4 : s_wire_Int (-7) = some [45, 55, 59] := by rw [s_Int (hI _ (by omega) (by omega))]; simp [encN, im7]
  have n5 : s_wire_Int 7 = some [55, 59] := by rw [s_Int (hI _ (by omega) (by omega))]; simp [encN, i7]
  have n6 : s_wire_Text [97, 44, 98] = some [51, 58, 97, 44, 98, 44] := by
    rw [s_Text (by simp)]; simp only [encT]; rw [show ((([97, 44, 98] : List UInt8).length : Nat) : Int) = 3 from rfl, i3]; rfl
  have e7 : encL (encN 59) [1, -1] = [50, 91, 49, 59, 45, 49, 59, 93] := by
    simp only [encL, List.flatMap_cons, List.flatMap_nil, encN]; rw [show ((([1, -1] : List Int).length : Nat) : Int) = 2 from rfl, i2, i1, im1]; rfl
  have n7 : s_wire_Nums [1, -1] = some [50, 91, 49, 59, 45, 49, 59, 93] := by
    rw [s_Nums (fun x hx => by simp at hx; rcases hx with rfl | rfl <;> exact hI _ (by omega) (by omega)) (by rw [e7]; simp) (by simp), e7]
  have e8 : encL encT [] = [48, 91, 93] := by
    simp only [encL, List.flatMap_nil]; rw [show ((([] : List (List UInt8)).length : Nat) : Int) = 0 from rfl, i0]; rfl
  have n8 : s_wire_Texts [] = some [48, 91, 93] := by
    rw [s_Texts (fun x hx => by cases hx) (by rw [e8]; simp) (by simp), e8]
  have d9 : Dec (encN 59) (okN 0) [48, 48, 55, 59] = none := Dec_no fun n t hn h => by
    have h : ([48, 48, 55] : List UInt8) ++ 59 :: [] = itoa n ++ 59 :: t := by simpa [encN] using h
    obtain ⟨h1, _⟩ := split_at (e := 59) (by decide) (stop_not ⟨by decide, by decide⟩ n) h
    have h2 := atoi_itoa hn.1
    rw [← h1] at h2
    have h3 : atoiAll [48, 48, 55] = .ok 7 := by decide
    rw [h3] at h2
    injection h2 with h2
    rw [← h2, i7] at h1
    cases h1
  have n9 : s_wire_Reader_Num [48, 48, 55, 59] false = some (0, [], true) := by rw [Num_spec (by simp), d9]; rfl
  unfold s_greenbeltlaw01_small
  rw [n1, n2, n3, n4, n5, n6, n7, n8]
  simp [s_wire_Open, n9, s_wire_Reader_Left, s_wire_Reader_Done]
/- kinds -/
theorem kind_of (v : Val) : s_greenbeltlaw01_kind v = some (v.Kind % 5) := by
  unfold s_greenbeltlaw01_kind
  have h := Int.tmod_add_mul_tdiv v.Kind 5
  rcases Int.le_total 0 v.Kind with h0 | h0
  · have h1 : v.Kind.tmod 5 = v.Kind % 5 := Int.tmod_eq_emod_of_nonneg h0
    rw [h1]
    have : decide (v.Kind % 5 < 0) = false := decide_eq_false (by omega)
    rw [this]; rfl
  · obtain ⟨u, hu⟩ : ∃ u : Nat, v.Kind = -(u : Int) := ⟨v.Kind.natAbs, by omega⟩
    have h1 : v.Kind.tmod 5 = -((u % 5 : Nat) : Int) := by rw [hu, Int.neg_tmod]; congr 1
    rw [h1, hu]
    by_cases h5 : u % 5 = 0
    · rw [h5]; simp; omega
    · have : decide (-((u % 5 : Nat) : Int) < 0) = true := decide_eq_true (by omega)
      rw [this, cond_true, Option.bind_some, w64_id (by omega) (by omega)]
      congr 1; omega
theorem kind_range (n : Int) : n % 5 = 0 ∨ n % 5 = 1 ∨ n % 5 = 2 ∨ n % 5 = 3 ∨ n % 5 = 4 := by omega
def nn (n : Int) : Int := if n < 0 then -(n + 1) else n
theorem nn_ok {n : Int} (h : I64 n) : okN 0 (nn n) := by
  obtain ⟨h0, h1⟩ := h
  unfold nn okN I64; split <;> omega
theorem number_of {n : Int} (h : I64 n) : s_greenbeltlaw01_number n = some (nn n) := by
  obtain ⟨h0, h1⟩ := h
  unfold s_greenbeltlaw01_number nn
  by_cases hn : n < 0
  · have : decide (n < 0) = true := decide_eq_true hn
    rw [this, cond_true, if_pos hn, w64_id (n := n + 1) (by omega) (by omega), w64_id (by omega) (by omega)]
    congr 1; omega
  · have : decide (n < 0) = false := decide_eq_false hn
    rw [this, if_neg hn]; rfl
/- sizes -/
def tot (v : Val) : Nat := v.S.length + v.L.length + v.T.length + (v.T.map List.length).sum
theorem few_L2 (l : List Val) (i : Nat) (hi : i < l.length) (a : Int) : ∀ (k j fuel : Nat) (n : Int), k = ((l.getD i default).T).length - j → j ≤ ((l.getD i default).T).length → k < fuel → 0 ≤ n → n + 400 * k ≤ 1000000000 →
    (l.getD i default).T.length ≤ 400 →
    ∃ z, s_greenbeltlaw01_few_L2 l (a, (i : Int)) fuel (n, (j : Int)) = some z ∧ (z = .inl false ∨ z = .inr (n + ((((l.getD i default).T.drop j).map List.length).sum : Nat)) ∧ ((((l.getD i default).T.drop j).map List.length).sum) ≤ 400 * k) := by
  intro k
  induction k with
  | zero =>
    intro j fuel n hk hj hf h0 hn hT
    cases fuel with
    | zero => omega
    | succ fuel =>
      have e1 : decide ((j : Int) < ((l.getD i default).T.length : Int)) = false := decide_eq_false (by omega)
      unfold s_greenbeltlaw01_few_L2
      rw [idx_of hi, Option.bind_some]
      simp only [e1, cond_false]
      refine ⟨_, rfl, .inr ⟨?_, ?_⟩⟩
      · rw [List.drop_eq_nil_of_le (by omega)]; simp
      · rw [List.drop_eq_nil_of_le (by omega)]; simp
  | succ k ih =>
    intro j fuel n hk hj hf h0 hn hT
    cases fuel with
    | zero => omega
    | succ fuel =>
      have hj' : j < (l.getD i default).T.length := by omega
      have e1 : decide ((j : Int) < ((l.getD i default).T.length : Int)) = true := decide_eq_true (by omega)
      unfold s_greenbeltlaw01_few_L2
      rw [idx_of hi, Option.bind_some]
      simp only [e1, cond_true, Option.bind_some]
      rw [idx_of hj', Option.bind_some]
      rw [drop_cons hj', List.map_cons, List.sum_cons]
      by_cases h4 : ((l.getD i default).T.getD j default).length ≤ 400
      · have e2 : decide ((((l.getD i default).T.getD j default).length : Int) > 400) = false := decide_eq_false (by omega)
        rw [e2, cond_false, Option.bind_some]
        rw [w64_id (n := n + _) (by omega) (by omega), w64_id (n := (j : Int) + 1) (by omega) (by omega), show ((j : Int) + 1) = ((j + 1 : Nat) : Int) by omega]
        obtain ⟨z, hz, h⟩ := ih (j + 1) fuel (n + (((l.getD i default).T.getD j default).length : Int)) (by omega) (by omega) (by omega) (by omega) (by omega) hT
        refine ⟨z, hz, h.imp id fun ⟨h1, h2⟩ => ⟨?_, by omega⟩⟩
        rw [h1]; congr 1; omega
      · have e2 : decide ((((l.getD i default).T.getD j default).length : Int) > 400) = true := decide_eq_true (by omega)
        rw [e2]; exact ⟨_, rfl, .inl rfl⟩
theorem few_L1 (l : List Val) (hll : l.length ≤ 20) : ∀ (k i fuel : Nat) (n : Int), k = l.length - i → i ≤ l.length → k < fuel → 0 ≤ n → n + 200000 * k ≤ 100000000 →
    ∃ z, s_greenbeltlaw01_few_L1 l fuel (n, (i : Int)) = some z ∧ (z = .inl false ∨ z = .inr (n + ((((l.drop i).map tot).sum : Nat) : Int))) := by
  intro k
  induction k with
  | zero =>
    intro i fuel n hk hi hf h0 hn
    cases fuel with
    | zero => omega
    | succ fuel =>
      have e1 : decide ((i : Int) < (l.length : Int)) = false := decide_eq_false (by omega)
      unfold s_greenbeltlaw01_few_L1
      simp only [e1, cond_false]
      refine ⟨_, rfl, .inr ?_⟩
      rw [List.drop_eq_nil_of_le (by omega)]; simp
  | succ k ih =>
    intro i fuel n hk hi hf h0 hn
    cases fuel with
    | zero => omega
    | succ fuel =>
      have hi' : i < l.length := by omega
      have e1 : decide ((i : Int) < (l.length : Int)) = true := decide_eq_true (by omega)
      unfold s_greenbeltlaw01_few_L1
      simp only [e1, cond_true]
      rw [idx_of hi']
      simp only [Option.bind_some]
      obtain ⟨v, hv⟩ : ∃ v, v = l.getD i default := ⟨_, rfl⟩
      have hL2 := few_L2 l i hi' n
      rw [← hv] at hL2 ⊢
      rw [drop_cons hi', ← hv, List.map_cons, List.sum_cons]
      by_cases h1 : v.L.length ≤ 400
      · by_cases h2 : v.T.length ≤ 400
        · by_cases h3 : v.S.length ≤ 400
          · have e2 : decide ((v.L.length : Int) > 400) = false := decide_eq_false (by omega)
            have e3 : decide ((v.T.length : Int) > 400) = false := decide_eq_false (by omega)
            have e4 : decide ((v.S.length : Int) > 400) = false := decide_eq_false (by omega)
            simp only [e2, e3, e4, cond_false, Option.bind_some]
            rw [w64_id (n := n + _) (by omega) (by omega), w64_id (n := n + _ + _) (by omega) (by omega), w64_id (n := n + _ + _ + _) (by omega) (by omega)]
            obtain ⟨z, hz, h⟩ := hL2 v.T.length 0 KK (n + v.S.length + v.L.length + v.T.length) (by omega) (by omega) (by unfold KK; omega) (by omega) (by omega) h2
            rw [show (0 : Int) = ((0 : Nat) : Int) from rfl, hz, Option.bind_some]
            rcases h with rfl | ⟨rfl, h5⟩
            · exact ⟨_, rfl, .inl rfl⟩
            · simp only
              rw [w64_id (n := (i : Int) + 1) (by omega) (by omega), show ((i : Int) + 1) = ((i + 1 : Nat) : Int) by omega]
              rw [List.drop_zero] at h5 ⊢
              obtain ⟨z, hz, h⟩ := ih (i + 1) fuel (n + v.S.length + v.L.length + v.T.length + ((v.T.map List.length).sum : Nat)) (by omega) (by omega) (by omega) (by omega) (by omega)
              refine ⟨z, hz, h.imp id fun h => ?_⟩
              rw [h]; unfold tot; congr 1; omega
          · have e2 : decide ((v.L.length : Int) > 400) = false := decide_eq_false (by omega)
            have e3 : decide ((v.T.length : Int) > 400) = false := decide_eq_false (by omega)
            have e4 : decide ((v.S.length : Int) > 400) = true := decide_eq_true (by omega)
            simp only [e2, e3, e4, cond_false, cond_true, Option.bind_some]
            exact ⟨_, rfl, .inl rfl⟩
        · have e2 : decide ((v.L.length : Int) > 400) = false := decide_eq_false (by omega)
          have e3 : decide ((v.T.length : Int) > 400) = true := decide_eq_true (by omega)
          simp only [e2, e3, cond_false, cond_true, Option.bind_some]
          exact ⟨_, rfl, .inl rfl⟩
      · have e2 : decide ((v.L.length : Int) > 400) = true := decide_eq_true (by omega)
        simp only [e2, cond_true, Option.bind_some]
        exact ⟨_, rfl, .inl rfl⟩
theorem few_of (l : List Val) : ∃ b, s_greenbeltlaw01_few l = some b ∧ (b = true → l.length ≤ 20 ∧ (l.map tot).sum ≤ 400) := by
  unfold s_greenbeltlaw01_few
  by_cases h : l.length ≤ 20
  · have e1 : decide ((l.length : Int) > 20) = false := decide_eq_false (by omega)
    rw [e1, cond_false, show ((0 : Int), (0 : Int)) = ((0 : Int), ((0 : Nat) : Int)) from rfl]
    obtain ⟨z, hz, h2⟩ := few_L1 l h l.length 0 KK 0 (by omega) (by omega) (by unfold KK; omega) (by omega) (by omega)
    rw [hz, Option.bind_some]
    rcases h2 with rfl | rfl
    · exact ⟨_, rfl, fun h => by cases h⟩
    · refine ⟨_, rfl, fun h3 => ⟨h, ?_⟩⟩
      have := of_decide_eq_true h3
      rw [List.drop_zero] at this; omega
  · have e1 : decide ((l.length : Int) > 20) = true := decide_eq_true (by omega)
    rw [e1]; exact ⟨_, rfl, fun h => by cases h⟩
/- what is written -/
def wr (v : Val) : List UInt8 := if v.Kind % 5 = 0 then encN 59 (nn v.N) else if v.Kind % 5 = 1 then encN 59 v.N else if v.Kind % 5 = 2 then encT v.S else if v.Kind % 5 = 3 then encL eI v.L else encL encT v.T
theorem encN_len {e : UInt8} {n : Int} (h : I64 n) : (encN e n).length ≤ 21 := by have := itoa_len h; simp only [encN, List.length_append, List.length_singleton]; omega
theorem encT_len {s : List UInt8} (h : s.length ≤ 4611686018427387904) : (encT s).length ≤ s.length + 22 := by
  have := itoa_len (n := (s.length : Int)) ⟨by omega, by omega⟩
  simp only [encT, List.length_append, List.length_singleton]; omega
theorem flatI_len : ∀ {l : List Int}, (∀ x ∈ l, I64 x) → (l.flatMap eI).length ≤ 21 * l.length
  | [], _ => by simp
  | x :: l, h => by
    have h1 := encN_len (e := 59) (h x (List.mem_cons_self ..))
    have h2 := flatI_len (fun y hy => h y (List.mem_cons_of_mem x hy))
    have h1 : (eI x).length ≤ 21 := h1
    simp only [List.flatMap_cons, List.length_append, List.length_cons]; omega
theorem flatT_len : ∀ {l : List (List UInt8)}, (∀ x ∈ l, x.length ≤ 4611686018427387904) → (l.flatMap encT).length ≤ 22 * l.length + (l.map List.length).sum
  | [], _ => by simp
  | x :: l, h => by
    have h1 := encT_len (h x (List.mem_cons_self ..))
    have h2 := flatT_len (fun y hy => h y (List.mem_cons_of_mem x hy))
    simp only [List.flatMap_cons, List.length_append, List.length_cons, List.map_cons, List.sum_cons]; omega
theorem mem_sum : ∀ {l : List (List UInt8)} {x : List UInt8}, x ∈ l → x.length ≤ (l.map List.length).sum
  | y :: l, x, h => by
    rw [List.map_cons, List.sum_cons]
    rcases List.mem_cons.1 h with rfl | h
    · omega
    · have := mem_sum h; omega
theorem encLI_len {l : List Int} (h : ∀ x ∈ l, I64 x) (hl : l.length ≤ 1000000000) : (encL eI l).length ≤ 22 + 21 * l.length := by
  have h1 := itoa_len (n := (l.length : Int)) ⟨by omega, by omega⟩
  have h2 := flatI_len h
  simp only [encL, List.length_append, List.length_singleton]; omega
theorem encLT_len {l : List (List UInt8)} (hs : (l.map List.length).sum ≤ 1000000000) (hl : l.length ≤ 1000000000) : (encL encT l).length ≤ 22 + 22 * l.length + (l.map List.length).sum := by
  have h1 := itoa_len (n := (l.length : Int)) ⟨by omega, by omega⟩
  have h2 := flatT_len (l := l) (fun x hx => by have := mem_sum hx; omega)
  simp only [encL, List.length_append, List.length_singleton]; omega
theorem wr_len {v : Val} (hv : vOK v) (ht : tot v ≤ 400) : (wr v).length ≤ 10000 := by
  unfold tot at ht
  have h1 := encN_len (e := 59) hv.1
  have h2 := encN_len (e := 59) (nn_ok hv.1).1
  have h3 := encT_len (s := v.S) (by omega)
  have h4 := encLI_len hv.2 (by omega)
  have h5 := encLT_len (l := v.T) (by omega) (by omega)
  unfold wr
  split
  · omega
  · split
    · omega
    · split
      · omega
      · split
        · omega
        · omega
theorem T_ok {v : Val} (ht : tot v ≤ 400) : ∀ x ∈ v.T, x.length ≤ 400 := fun x hx => by have := mem_sum hx; unfold tot at ht; omega
theorem write_of {v : Val} (hv : vOK v) (ht : tot v ≤ 400) : s_greenbeltlaw01_write v = some (wr v) := by
  have hT := T_ok ht
  have ht' := ht
  unfold tot at ht'
  have h4 := encLI_len hv.2 (by omega)
  have h5 := encLT_len (l := v.T) (by omega) (by omega)
  unfold s_greenbeltlaw01_write wr
  rw [kind_of, Option.bind_some]
  rcases kind_range v.Kind with h | h | h | h | h <;> rw [h]
  · have := (nn_ok hv.1).2
    simp [number_of hv.1, s_Num (nn_ok hv.1).1]; omega
  · simp [s_Int hv.1]
  · simp [s_Text (s := v.S) (by omega)]
  · have h4 : (encL (encN 59) v.L).length ≤ 22 + 21 * v.L.length := h4
    have := s_Nums hv.2 (by omega) (by omega)
    simp [this]; rfl
  · have := s_Texts (l := v.T) (fun x hx => by have := hT x hx; omega) (by omega) (by omega)
    simp [this]
theorem sameNums (a : List Int) (h : a.length < 4611686018427387904) : s_greenbeltref01_SameNums a a = some true := by
  have key : ∀ (k i fuel : Nat), k = a.length - i → i ≤ a.length → k < fuel → s_greenbeltref01_SameNums_L1 a a fuel (i : Int) = some (.inr ()) := by
    intro k
    induction k with
    | zero =>
      intro i fuel hk hi hf
      cases fuel with
      | zero => omega
      | succ fuel =>
        have e1 : decide ((i : Int) < (a.length : Int)) = false := decide_eq_false (by omega)
        unfold s_greenbeltref01_SameNums_L1
        rw [e1]; rfl
    | succ k ih =>
      intro i fuel hk hi hf
      cases fuel with
      | zero => omega
      | succ fuel =>
        have e1 : decide ((i : Int) < (a.length : Int)) = true := decide_eq_true (by omega)
        unfold s_greenbeltref01_SameNums_L1
        rw [e1, cond_true, idx_of (by omega), Option.bind_some, Option.bind_some, decide_eq_true rfl, Bool.not_true, cond_false, w64_id (by omega) (by omega), show ((i : Int) + 1) = ((i + 1 : Nat) : Int) by omega]
        exact ih (i + 1) fuel (by omega) (by omega) (by omega)
  unfold s_greenbeltref01_SameNums
  rw [decide_eq_true rfl, Bool.not_true, cond_false, show (0 : Int) = ((0 : Nat) : Int) from rfl, key a.length 0 KK (by omega) (by omega) (by unfold KK; omega)]; rfl
theorem sameTexts (a : List (List UInt8)) (h : a.length < 4611686018427387904) : s_greenbeltref01_SameTexts a a = some true := by
  have key : ∀ (k i fuel : Nat), k = a.length - i → i ≤ a.length → k < fuel → s_greenbeltref01_SameTexts_L1 a a fuel (i : Int) = some (.inr ()) := by
    intro k
    induction k with
    | zero =>
      intro i fuel hk hi hf
      cases fuel with
      | zero => omega
      | succ fuel =>
        have e1 : decide ((i : Int) < (a.length : Int)) = false := decide_eq_false (by omega)
        unfold s_greenbeltref01_SameTexts_L1
        rw [e1]; rfl
    | succ k ih =>
      intro i fuel hk hi hf
      cases fuel with
      | zero => omega
      | succ fuel =>
        have e1 : decide ((i : Int) < (a.length : Int)) = true := decide_eq_true (by omega)
        unfold s_greenbeltref01_SameTexts_L1
        rw [e1, cond_true, idx_of (by omega), Option.bind_some, Option.bind_some, decide_eq_true rfl, Bool.not_true, cond_false, w64_id (by omega) (by omega), show ((i : Int) + 1) = ((i + 1 : Nat) : Int) by omega]
        exact ih (i + 1) fuel (by omega) (by omega) (by omega)
  unfold s_greenbeltref01_SameTexts
  rw [decide_eq_true rfl, Bool.not_true, cond_false, show (0 : Int) = ((0 : Nat) : Int) from rfl, key a.length 0 KK (by omega) (by omega) (by unfold KK; omega)]; rfl
theorem equal_of {v : Val} (hv : vOK v) (ht : tot v ≤ 400) {t : List UInt8} (htl : t.length ≤ 100000000) : s_greenbeltlaw01_equal (wr v ++ t) false v = some (true, t, false) := by
  have hT := T_ok ht
  have hw := wr_len hv ht
  unfold tot at ht
  have hl : (wr v ++ t).length ≤ 1000000000 := by rw [List.length_append]; omega
  unfold s_greenbeltlaw01_equal
  rw [kind_of, Option.bind_some]
  rcases kind_range v.Kind with h | h | h | h | h
  · have hD : Dec (encN 59) (okN 0) (wr v ++ t) = some (nn v.N, t) := Dec_of (pf_num ⟨by decide, by decide⟩ 0) (nn_ok hv.1) (by unfold wr; rw [if_pos h])
    rw [h]; simp [Num_spec (rest := wr v ++ t) (bad := false) (by omega), hD, rd, number_of hv.1]
  · have hD : Dec (encN 59) (okN (-9223372036854775808)) (wr v ++ t) = some (v.N, t) := Dec_of (pf_num ⟨by decide, by decide⟩ _) ⟨hv.1, hv.1.1⟩ (by unfold wr; rw [if_neg (by omega), if_pos h])
    rw [h]; simp [Int_spec (rest := wr v ++ t) (bad := false) (by omega), hD, rd]
  · have hD : Dec encT okT (wr v ++ t) = some (v.S, t) := Dec_of pf_text (by show v.S.length < _; omega) (by unfold wr; rw [if_neg (by omega), if_neg (by omega), if_pos h])
    rw [h]; simp [text_spec (rest := wr v ++ t) (bad := false) (fun h => by cases h) (by omega), hD, rd]
  · have hD : Dec (encL eI) (okL kI) (wr v ++ t) = some (v.L, t) := Dec_of (pf_list pfI) ⟨by omega, fun x hx => ⟨hv.2 x hx, (hv.2 x hx).1⟩⟩ (by unfold wr; rw [if_neg (by omega), if_neg (by omega), if_neg (by omega), if_pos h])
    rw [h]; simp [Nums_spec (rest := wr v ++ t) (bad := false) (fun h => by cases h) (by omega), hD, rd, sameNums v.L (by omega)]
  · have hD : Dec (encL encT) (okL okT) (wr v ++ t) = some (v.T, t) := Dec_of (pf_list pf_text) ⟨by omega, fun x hx => by have := hT x hx; show x.length < _; omega⟩ (by unfold wr; rw [if_neg (by omega), if_neg (by omega), if_neg (by omega), if_neg (by omega)])
    rw [h]; simp [Texts_spec (rest := wr v ++ t) (bad := false) (fun h => by cases h) (by omega), hD, rd, sameTexts v.T (by omega)]
/- the laws -/
theorem tot_one {v : Val} (h : ([v].map tot).sum ≤ 400) : tot v ≤ 400 := by simpa using h
theorem writes_true {v : Val} (hv : vOK v) : s_greenbeltlaw01_WireWrites v = some true := by
  unfold s_greenbeltlaw01_WireWrites
  obtain ⟨b, hb, h⟩ := few_of [v]
  rw [small_true, Option.bind_some, hb, Option.bind_some]
  cases b with
  | false => rfl
  | true =>
    have ht := tot_one (h rfl).2
    have hT := T_ok ht
    unfold tot at ht
    have h4 : (encL (encN 59) v.L).length ≤ 22 + 21 * v.L.length := encLI_len hv.2 (by omega)
    have h5 := encLT_len (l := v.T) (by omega) (by omega)
    have hT2 : ∀ x ∈ v.T, x.length ≤ 4611686018427387904 := fun x hx => by have := hT x hx; omega
    simp [s_Num hv.1, r_Num hv.1, s_Int hv.1, r_Int hv.1, s_Text (s := v.S) (by omega), r_Text (s := v.S) (by omega), s_Nums hv.2 (by omega) (by omega), r_Nums hv.2 (by omega) (by omega), s_Texts hT2 (by omega) (by omega), r_Texts hT2 (by omega) (by omega)]
theorem dec_small {α : Type} {enc : α → List UInt8} {ok : α → Prop} {s t : List UInt8} {x : α} (h : Dec enc ok s = some (x, t)) : t.length ≤ s.length ∧ (enc x).length + t.length = s.length := by
  obtain ⟨_, h⟩ := Dec_is h
  rw [h, List.length_append]; omega
theorem listI_len {l : List Int} : l.length ≤ (encL eI l).length := by
  have : l.length ≤ (l.flatMap eI).length := by
    induction l with
    | nil => simp
    | cons x l ih => have := eI_len x; simp only [List.flatMap_cons, List.length_append, List.length_cons]; omega
  simp only [encL, List.length_append, List.length_singleton]; omega
theorem listT_len {l : List (List UInt8)} : l.length ≤ (encL encT l).length := by
  have : l.length ≤ (l.flatMap encT).length := by
    induction l with
    | nil => simp
    | cons x l ih => have := eT_len x; simp only [List.flatMap_cons, List.length_append, List.length_cons]; omega
  simp only [encL, List.length_append, List.length_singleton]; omega
theorem memT_len {l : List (List UInt8)} {x : List UInt8} (h : x ∈ l) : x.length ≤ (encL encT l).length := by
  have : x.length ≤ (l.flatMap encT).length := by
    induction l with
    | nil => cases h
    | cons y l ih =>
      simp only [List.flatMap_cons, List.length_append]
      rcases List.mem_cons.1 h with rfl | h
      · have : x.length ≤ (encT x).length := by simp only [encT, List.length_append]; omega
        omega
      · have := ih h; omega
  simp only [encL, List.length_append, List.length_singleton]; omega
theorem again_true (s : List UInt8) (what : Int) : s_greenbeltlaw01_WireAgain s what = some true := by
  unfold s_greenbeltlaw01_WireAgain
  rw [small_true, Option.bind_some]
  by_cases hs : 400 < s.length
  · have e1 : decide ((s.length : Int) > 400) = true := decide_eq_true (by omega)
    rw [e1]; rfl
  have e1 : decide ((s.length : Int) > 400) = false := decide_eq_false (by omega)
  rw [e1, cond_false, kind_of]
  have bad : ∀ (t : List UInt8), ((some (t, ([] : List UInt8), true)).bind fun v1 => ((s_wire_Reader_Left v1.2.1 v1.2.2).bind fun y14 => (bif (decide (y14.1 = 0)) then (s_wire_Reader_Done y14.2.1 y14.2.2).bind fun y15 => some ((!y15.1), y15.2.1, y15.2.2) else some (false, y14.2.1, y14.2.2))).bind fun v2 => (bif v2.1 then some true else (s_wire_Reader_Left v2.2.1 v2.2.2).bind fun y16 => ((bif true then (bif (decide ((w64 ((List.length s : Int) - y16.1)) ≥ 0)) then (bif (decide ((w64 ((List.length s : Int) - y16.1)) ≤ (List.length s : Int))) then (cut s 0 (max 0 (min (w64 ((List.length s : Int) - y16.1)) (List.length s : Int)))).bind fun x1 => some (decide (v1.1 = x1)) else some false) else some false) else some false)).bind fun v3 => some v3)) = some true := fun t => by
    simp [s_wire_Reader_Left, s_wire_Reader_Done]
  have good : ∀ (t u : List UInt8), s = t ++ u → ((some (t, u, false)).bind fun v1 => ((s_wire_Reader_Left v1.2.1 v1.2.2).bind fun y14 => (bif (decide (y14.1 = 0)) then (s_wire_Reader_Done y14.2.1 y14.2.2).bind fun y15 => some ((!y15.1), y15.2.1, y15.2.2) else some (false, y14.2.1, y14.2.2))).bind fun v2 => (bif v2.1 then some true else (s_wire_Reader_Left v2.2.1 v2.2.2).bind fun y16 => ((bif true then (bif (decide ((w64 ((List.length s : Int) - y16.1)) ≥ 0)) then (bif (decide ((w64 ((List.length s : Int) - y16.1)) ≤ (List.length s : Int))) then (cut s 0 (max 0 (min (w64 ((List.length s : Int) - y16.1)) (List.length s : Int)))).bind fun x1 => some (decide (v1.1 = x1)) else some false) else some false) else some false)).bind fun v3 => some v3)) = some true := fun t u h => by
    have hl : s.length = t.length + u.length := by rw [h, List.length_append]
    have fin : ((s_wire_Reader_Left u false).bind fun y16 => ((bif true then (bif (decide ((w64 ((List.length s : Int) - y16.1)) ≥ 0)) then (bif (decide ((w64 ((List.length s : Int) - y16.1)) ≤ (List.length s : Int))) then (cut s 0 (max 0 (min (w64 ((List.length s : Int) - y16.1)) (List.length s : Int)))).bind fun x1 => some (decide (t = x1)) else some false) else some false) else some false)).bind fun v3 => some v3) = some true := by
      unfold s_wire_Reader_Left
      rw [Option.bind_some]
      have e2 : w64 ((s.length : Int) - (u.length : Int)) = ((t.length : Nat) : Int) := by rw [w64_id (by omega) (by omega)]; omega
      simp only [e2, cond_true]
      have e3 : decide (((t.length : Nat) : Int) ≥ 0) = true := decide_eq_true (by omega)
      have e4 : decide (((t.length : Nat) : Int) ≤ (s.length : Int)) = true := decide_eq_true (by omega)
      rw [e3, e4, show max (0 : Int) (min ((t.length : Nat) : Int) (s.length : Int)) = ((t.length : Nat) : Int) by omega, cut_tk (by omega)]
      have : s.take t.length = t := by rw [h, List.take_left]
      rw [this]; simp
    cases u with
    | nil => simp only [Option.bind_some]; exact fin
    | cons c u =>
      have e5 : decide ((((c :: u).length : Nat) : Int) = 0) = false := decide_eq_false (by simp only [List.length_cons]; omega)
      simp only [Option.bind_some]
      simp only [s_wire_Reader_Left, Option.bind_some, e5, cond_false]
      simpa only [s_wire_Reader_Left, Option.bind_some] using fin
  simp only [s_wire_Open, Option.bind_some]
  rcases kind_range what with h | h | h | h | h <;> rw [h]
  · have hn := Num_spec (rest := s) (bad := false) (by omega)
    rw [hn]
    cases hD : Dec (encN 59) (okN 0) s with
    | none =>
      simp only [rd_none, Option.bind_some]
      rw [s_Num ⟨by omega, by omega⟩]
      exact bad _
    | some p =>
      obtain ⟨n, u⟩ := p
      obtain ⟨h1, h2⟩ := Dec_is hD
      simp only [rd_some, Option.bind_some]
      rw [s_Num h1.1, if_neg (by have := h1.2; omega)]
      exact good _ u h2
  · have hn := Int_spec (rest := s) (bad := false) (by omega)
    rw [hn]
    cases hD : Dec (encN 59) (okN (-9223372036854775808)) s with
    | none =>
      simp only [rd_none, Option.bind_some]
      rw [s_Int ⟨by omega, by omega⟩]
      exact bad _
    | some p =>
      obtain ⟨n, u⟩ := p
      obtain ⟨h1, h2⟩ := Dec_is hD
      simp only [rd_some, Option.bind_some]
      rw [s_Int h1.1]
      exact good _ u h2
  · have hn := text_spec (rest := s) (bad := false) (fun h => by cases h) (by omega)
    rw [hn]
    cases hD : Dec encT okT s with
    | none =>
      simp only [rd_none, Option.bind_some]
      rw [s_Text (by simp)]
      exact bad _
    | some p =>
      obtain ⟨n, u⟩ := p
      obtain ⟨h1, h2⟩ := Dec_is hD
      have h3 := dec_small hD
      have h4 : n.length ≤ (encT n).length := by simp only [encT, List.length_append]; omega
      simp only [rd_some, Option.bind_some]
      rw [s_Text (by omega)]
      exact good _ u h2
  · have hn := Nums_spec (rest := s) (bad := false) (fun h => by cases h) (by omega)
    rw [hn]
    cases hD : Dec (encL eI) (okL kI) s with
    | none =>
      simp only [rd_none, Option.bind_some]
      rw [s_Nums (fun x hx => by cases hx) (by have := encLI_len (l := []) (fun x hx => by cases hx) (by simp); exact Nat.le_trans this (by simp)) (by simp)]
      exact bad _
    | some p =>
      obtain ⟨n, u⟩ := p
      obtain ⟨h1, h2⟩ := Dec_is hD
      have h3 := dec_small hD
      have h4 := listI_len (l := n)
      simp only [rd_some, Option.bind_some]
      rw [s_Nums (fun x hx => (h1.2 x hx).1) (by show (encL eI n).length ≤ _; omega) (by omega)]
      exact good _ u h2
  · have hn := Texts_spec (rest := s) (bad := false) (fun h => by cases h) (by omega)
    rw [hn]
    cases hD : Dec (encL encT) (okL okT) s with
    | none =>
      simp only [rd_none, Option.bind_some]
      rw [s_Texts (fun x hx => by cases hx) (by have := encLT_len (l := []) (by simp) (by simp); exact Nat.le_trans this (by simp)) (by simp)]
      exact bad _
    | some p =>
      obtain ⟨n, u⟩ := p
      obtain ⟨h1, h2⟩ := Dec_is hD
      have h3 := dec_small hD
      have h4 := listT_len (l := n)
      simp only [rd_some, Option.bind_some]
      rw [s_Texts (fun x hx => by have := memT_len hx; omega) (by omega) (by omega)]
      exact good _ u h2
end Go.Proofs.YtbejhkfojiijmaaDoor
