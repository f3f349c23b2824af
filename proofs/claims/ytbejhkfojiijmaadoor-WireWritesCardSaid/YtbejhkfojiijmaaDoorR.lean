/- The laws of wire hold of what the walked functions compute, second part. -/
import Derived.Test.YtbejhkfojiijmaaDoorQ
set_option linter.all false
set_option maxRecDepth 100000
namespace Go.Proofs.YtbejhkfojiijmaaDoor
open Go Go.Lib Go.EV

theorem wr_same {v w : Val} (hv : vOK v) (hw : vOK w) (hvt : tot v ≤ 400) (hwt : tot w ≤ 400) (hk : v.Kind % 5 = w.Kind % 5) {t u : List UInt8} (h : wr v ++ t = wr w ++ u) : wr v = wr w ∧ t = u := by
  have hT := T_ok hvt
  have hT2 := T_ok hwt
  unfold tot at hvt hwt
  unfold wr at h ⊢
  rw [← hk] at h ⊢
  rcases kind_range v.Kind with k | k | k | k | k <;> rw [k] at h ⊢
  · simp only [if_true] at h ⊢
    obtain ⟨h1, h2⟩ := pf_num ⟨by decide, by decide⟩ 0 _ _ _ _ (nn_ok hv.1) (nn_ok hw.1) h
    exact ⟨by rw [h1], h2⟩
  · simp only [show ¬ (1 : Int) = 0 by omega, if_true, if_false] at h ⊢
    obtain ⟨h1, h2⟩ := pf_num ⟨by decide, by decide⟩ (-9223372036854775808) _ _ _ _ ⟨hv.1, hv.1.1⟩ ⟨hw.1, hw.1.1⟩ h
    exact ⟨by rw [h1], h2⟩
  · simp only [show ¬ (2 : Int) = 0 by omega, show ¬ (2 : Int) = 1 by omega, if_true, if_false] at h ⊢
    obtain ⟨h1, h2⟩ := pf_text _ _ _ _ (by show v.S.length < _; omega) (by show w.S.length < _; omega) h
    exact ⟨by rw [h1], h2⟩
  · simp only [show ¬ (3 : Int) = 0 by omega, show ¬ (3 : Int) = 1 by omega, show ¬ (3 : Int) = 2 by omega, if_true, if_false] at h ⊢
    obtain ⟨h1, h2⟩ := pf_list pfI _ _ _ _ ⟨by omega, fun x hx => ⟨hv.2 x hx, (hv.2 x hx).1⟩⟩ ⟨by omega, fun x hx => ⟨hw.2 x hx, (hw.2 x hx).1⟩⟩ h
    exact ⟨by rw [h1], h2⟩
  · simp only [show ¬ (4 : Int) = 0 by omega, show ¬ (4 : Int) = 1 by omega, show ¬ (4 : Int) = 2 by omega, show ¬ (4 : Int) = 3 by omega, if_false] at h ⊢
    obtain ⟨h1, h2⟩ := pf_list pf_text _ _ _ _ ⟨by omega, fun x hx => by have := hT x hx; show x.length < _; omega⟩ ⟨by omega, fun x hx => by have := hT2 x hx; show x.length < _; omega⟩ h
    exact ⟨by rw [h1], h2⟩
theorem prefix_true {v w : Val} (hv : vOK v) (hw : vOK w) : s_greenbeltlaw01_WirePrefix v w = some true := by
  unfold s_greenbeltlaw01_WirePrefix
  obtain ⟨b, hb, h⟩ := few_of [v]
  obtain ⟨c, hc, h'⟩ := few_of [w]
  rw [small_true, Option.bind_some, hb]
  cases b with
  | false => rfl
  | true =>
    cases c with
    | false => simp [hc]
    | true =>
      have hvt := tot_one (h rfl).2
      have hwt := tot_one (h' rfl).2
      rw [hc, kind_of, kind_of]
      by_cases hk : v.Kind % 5 = w.Kind % 5
      · have e1 : decide (v.Kind % 5 = w.Kind % 5) = true := decide_eq_true hk
        simp only [Option.bind_some, Bool.not_true, cond_false, e1]
        rw [write_of hv hvt, write_of hw hwt, Option.bind_some, Option.bind_some]
        by_cases hl : (wr w).length < (wr v).length
        · have e2 : decide (((wr v).length : Int) > ((wr w).length : Int)) = true := decide_eq_true (by omega)
          rw [e2]; rfl
        · have e2 : decide (((wr v).length : Int) > ((wr w).length : Int)) = false := decide_eq_false (by omega)
          rw [e2, cond_false, show min ((wr v).length : Int) ((wr w).length : Int) = (((wr v).length : Nat) : Int) by omega, cut_tk (by omega), Option.bind_some, Option.bind_some]
          by_cases hp : (wr w).take (wr v).length = wr v
          · have e3 : decide ((wr w).take (wr v).length = wr v) = true := decide_eq_true hp
            rw [e3, Bool.not_true, cond_false]
            have hsplit : wr v ++ (wr w).drop (wr v).length = wr w ++ [] := by
              rw [List.append_nil]
              have := List.take_append_drop (wr v).length (wr w)
              rw [hp] at this; exact this
            obtain ⟨h1, h2⟩ := wr_same hv hw hvt hwt hk hsplit
            have he := equal_of hw hwt (t := []) (by simp)
            rw [List.append_nil] at he
            simp only [s_wire_Open, Option.bind_some, cond_true]
            rw [h1, decide_eq_true rfl, cond_true, he]; rfl
          · have e3 : decide ((wr w).take (wr v).length = wr v) = false := decide_eq_false hp
            rw [e3]; rfl
      · have e1 : decide (v.Kind % 5 = w.Kind % 5) = false := decide_eq_false hk
        simp [e1]
/- reading back a sequence -/
def lOK (l : List Val) : Prop := (∀ v ∈ l, vOK v) ∧ l.length ≤ 20 ∧ (l.map tot).sum ≤ 400
theorem tot_mem : ∀ {l : List Val} {v : Val}, v ∈ l → tot v ≤ (l.map tot).sum
  | y :: l, x, h => by
    rw [List.map_cons, List.sum_cons]
    rcases List.mem_cons.1 h with rfl | h
    · omega
    · have := tot_mem h; omega
theorem lOK.each {l : List Val} (h : lOK l) {v : Val} (hm : v ∈ l) : vOK v ∧ tot v ≤ 400 := ⟨h.1 v hm, by have := tot_mem hm; have := h.2.2; omega⟩
theorem flat_len {l : List Val} (h : ∀ v ∈ l, vOK v ∧ tot v ≤ 400) : (l.flatMap wr).length ≤ 10000 * l.length := by
  induction l with
  | nil => simp
  | cons v l ih =>
    have h1 := h v (List.mem_cons_self ..)
    have h2 := wr_len h1.1 h1.2
    have h3 := ih fun x hx => h x (List.mem_cons_of_mem _ hx)
    simp only [List.flatMap_cons, List.length_append, List.length_cons]; omega
theorem drop_len {l : List Val} (h : ∀ v ∈ l, vOK v ∧ tot v ≤ 400) (i : Nat) : ((l.drop i).flatMap wr).length ≤ 10000 * l.length := by
  have h1 := flat_len (l := l.drop i) (fun v hv => h v (List.mem_of_mem_drop hv))
  rw [List.length_drop] at h1
  have : 10000 * (l.length - i) ≤ 10000 * l.length := by omega
  omega
theorem back_L1 {l : List Val} (hl : lOK l) : ∀ (k i fuel : Nat) (b : List UInt8), k = l.length - i → i ≤ l.length → k < fuel → b.length ≤ 1000000 - 10000 * k →
    s_greenbeltlaw01_WireBack_L1 l fuel (b, (i : Int)) = some (b ++ (l.drop i).flatMap wr) := by
  intro k
  induction k with
  | zero =>
    intro i fuel b hk hi hf hb
    cases fuel with
    | zero => omega
    | succ fuel =>
      have : i = l.length := by omega
      subst this
      simp [s_greenbeltlaw01_WireBack_L1]
  | succ k ih =>
    intro i fuel b hk hi hf hb
    have hll := hl.2.1
    cases fuel with
    | zero => omega
    | succ fuel =>
      have hi' : i < l.length := by omega
      have hv := hl.each (getD_mem hi')
      have hw := wr_len hv.1 hv.2
      rw [drop_cons hi', List.flatMap_cons, ← List.append_assoc]
      have hc : decide ((i : Int) < (l.length : Int)) = true := decide_eq_true (by omega)
      unfold s_greenbeltlaw01_WireBack_L1
      simp only [hc, cond_true]
      rw [idx_of hi', Option.bind_some, write_of hv.1 hv.2, Option.bind_some, grd_of (by omega), Option.bind_some]
      rw [w64_id (by omega) (by omega), show ((i : Int) + 1) = ((i + 1 : Nat) : Int) by omega]
      exact ih (i + 1) fuel _ (by omega) (by omega) (by omega) (by rw [List.length_append]; omega)
theorem back_L2 {l : List Val} (hl : lOK l) (t : List UInt8) (ht : t.length ≤ 400) : ∀ (k i fuel : Nat), k = l.length - i → i ≤ l.length → k < fuel →
    s_greenbeltlaw01_WireBack_L2 l fuel ((i : Int), (l.drop i).flatMap wr ++ t, false) = some (.inr (t, false)) := by
  intro k
  induction k with
  | zero =>
    intro i fuel hk hi hf
    cases fuel with
    | zero => omega
    | succ fuel =>
      have : i = l.length := by omega
      subst this
      simp [s_greenbeltlaw01_WireBack_L2]
  | succ k ih =>
    intro i fuel hk hi hf
    have hll := hl.2.1
    cases fuel with
    | zero => omega
    | succ fuel =>
      have hi' : i < l.length := by omega
      have hv := hl.each (getD_mem hi')
      have hd := drop_len (fun v h => hl.each h) (i + 1) (l := l)
      rw [drop_cons hi', List.flatMap_cons, List.append_assoc]
      have hc : decide ((i : Int) < (l.length : Int)) = true := decide_eq_true (by omega)
      unfold s_greenbeltlaw01_WireBack_L2
      simp only [hc, cond_true]
      rw [idx_of hi', Option.bind_some, equal_of hv.1 hv.2 (by rw [List.length_append]; omega), Option.bind_some]
      simp only [Bool.not_true, cond_false]
      rw [w64_id (by omega) (by omega), show ((i : Int) + 1) = ((i + 1 : Nat) : Int) by omega]
      exact ih (i + 1) fuel (by omega) (by omega) (by omega)
theorem back_true {l : List Val} (hv : ∀ v ∈ l, vOK v) (tail : List UInt8) : s_greenbeltlaw01_WireBack l tail = some true := by
  unfold s_greenbeltlaw01_WireBack
  obtain ⟨b, hb, h⟩ := few_of l
  rw [small_true, Option.bind_some, hb, Option.bind_some]
  cases b with
  | false => rfl
  | true =>
    have hl : lOK l := ⟨hv, (h rfl).1, (h rfl).2⟩
    have hll := hl.2.1
    by_cases ht : 400 < tail.length
    · have e1 : decide ((tail.length : Int) > 400) = true := decide_eq_true (by omega)
      simp only [Bool.not_true, cond_false, e1, Option.bind_some, cond_true]
    · have e1 : decide ((tail.length : Int) > 400) = false := decide_eq_false (by omega)
      simp only [Bool.not_true, cond_false, e1, Option.bind_some]
      have h1 := back_L1 hl l.length 0 KK [] (by omega) (by omega) (by unfold KK; omega) (by simp)
      have hd := drop_len (fun v h => hl.each h) 0 (l := l)
      rw [show (([] : List UInt8), (0 : Int)) = (([] : List UInt8), ((0 : Nat) : Int)) from rfl, h1, Option.bind_some, List.nil_append, grd_of (by omega), Option.bind_some]
      simp only [s_wire_Open, Option.bind_some]
      have h2 := back_L2 hl tail (by omega) l.length 0 KK (by omega) (by omega) (by unfold KK; omega)
      rw [show ((0 : Int), (l.drop 0).flatMap wr ++ tail, false) = (((0 : Nat) : Int), (l.drop 0).flatMap wr ++ tail, false) from rfl, h2]
      simp [s_wire_Reader_Left, s_wire_Reader_Done, s_wire_Reader_Rest]
theorem nests_L1 {l : List Val} (hl : lOK l) : ∀ (k i fuel : Nat) (b : List (List UInt8)), k = l.length - i → i ≤ l.length → k < fuel → b.length ≤ i →
    s_greenbeltlaw01_WireNests_L1 l fuel ((i : Int), b) = some (b ++ (l.drop i).map wr) := by
  intro k
  induction k with
  | zero =>
    intro i fuel b hk hi hf hb
    cases fuel with
    | zero => omega
    | succ fuel =>
      have : i = l.length := by omega
      subst this
      simp [s_greenbeltlaw01_WireNests_L1]
  | succ k ih =>
    intro i fuel b hk hi hf hb
    have hll := hl.2.1
    cases fuel with
    | zero => omega
    | succ fuel =>
      have hi' : i < l.length := by omega
      have hv := hl.each (getD_mem hi')
      have hc : decide ((i : Int) < (l.length : Int)) = true := decide_eq_true (by omega)
      rw [drop_cons hi', List.map_cons, show b ++ wr (l.getD i default) :: (l.drop (i + 1)).map wr = (b ++ [wr (l.getD i default)]) ++ (l.drop (i + 1)).map wr by simp]
      unfold s_greenbeltlaw01_WireNests_L1
      simp only [hc, cond_true]
      rw [idx_of hi', Option.bind_some, write_of hv.1 hv.2, Option.bind_some, grd_of (by simp only [List.length_append, List.length_singleton]; omega), Option.bind_some]
      rw [w64_id (by omega) (by omega), show ((i : Int) + 1) = ((i + 1 : Nat) : Int) by omega]
      exact ih (i + 1) fuel _ (by omega) (by omega) (by omega) (by simp only [List.length_append, List.length_singleton]; omega)
theorem nests_L2 {l : List Val} (hl : lOK l) (y : List (List UInt8) × List UInt8 × Bool) (hy : y.1 = l.map wr) : ∀ (k i fuel : Nat), k = l.length - i → i ≤ l.length → k < fuel →
    s_greenbeltlaw01_WireNests_L2 l y fuel (i : Int) = some (.inr ()) := by
  intro k
  induction k with
  | zero =>
    intro i fuel hk hi hf
    cases fuel with
    | zero => omega
    | succ fuel =>
      have hc : decide ((i : Int) < (l.length : Int)) = false := decide_eq_false (by omega)
      unfold s_greenbeltlaw01_WireNests_L2
      rw [hc]; rfl
  | succ k ih =>
    intro i fuel hk hi hf
    have hll := hl.2.1
    cases fuel with
    | zero => omega
    | succ fuel =>
      have hi' : i < l.length := by omega
      have hv := hl.each (getD_mem hi')
      have hc : decide ((i : Int) < (l.length : Int)) = true := decide_eq_true (by omega)
      have hg : (l.map wr).getD i default = wr (l.getD i default) := by
        simp [List.getD_eq_getElem?_getD, List.getElem?_eq_getElem hi']
      have he := equal_of hv.1 hv.2 (t := []) (by simp)
      rw [List.append_nil] at he
      unfold s_greenbeltlaw01_WireNests_L2
      rw [hc, cond_true, hy, idx_of (l := l.map wr) (by simpa using hi'), Option.bind_some, hg, idx_of hi']
      simp only [s_wire_Open, Option.bind_some, he, s_wire_Reader_Done, Bool.not_true, Bool.not_false, cond_false, cond_true, decide_true]
      rw [w64_id (by omega) (by omega), show ((i : Int) + 1) = ((i + 1 : Nat) : Int) by omega]
      exact ih (i + 1) fuel (by omega) (by omega) (by omega)
theorem sum_wr {l : List Val} (h : ∀ v ∈ l, vOK v ∧ tot v ≤ 400) : ((l.map wr).map List.length).sum ≤ 10000 * l.length := by
  induction l with
  | nil => simp
  | cons v l ih =>
    have h1 := h v (List.mem_cons_self ..)
    have h2 := wr_len h1.1 h1.2
    have h3 := ih fun x hx => h x (List.mem_cons_of_mem _ hx)
    simp only [List.map_cons, List.sum_cons, List.length_cons]; omega
theorem nests_true {l : List Val} (hv : ∀ v ∈ l, vOK v) : s_greenbeltlaw01_WireNests l = some true := by
  unfold s_greenbeltlaw01_WireNests
  obtain ⟨b, hb, h⟩ := few_of l
  rw [small_true, Option.bind_some, hb, Option.bind_some]
  cases b with
  | false => rfl
  | true =>
    have hl : lOK l := ⟨hv, (h rfl).1, (h rfl).2⟩
    have hll := hl.2.1
    have hs := sum_wr (fun v h => hl.each h) (l := l)
    have hm : (l.map wr).length = l.length := List.length_map ..
    have hen := encLT_len (l := l.map wr) (by omega) (by omega)
    have hte := encT_len (s := encL encT (l.map wr)) (by omega)
    have hmem : ∀ x ∈ l.map wr, x.length ≤ 10000 := fun x hx => by
      obtain ⟨v, hv, rfl⟩ := List.mem_map.1 hx
      exact wr_len (hl.each hv).1 (hl.each hv).2
    simp only [Bool.not_true, cond_false]
    rw [show (((0 : Int)), ([] : List (List UInt8))) = (((0 : Nat) : Int), []) from rfl, nests_L1 hl l.length 0 KK [] (by omega) (by omega) (by unfold KK; omega) (by simp), Option.bind_some, List.nil_append, List.drop_zero,
      s_Texts (fun x hx => by have := hmem x hx; omega) (by omega) (by omega), Option.bind_some, s_Text (by omega), Option.bind_some]
    have hD : Dec encT okT (encT (encL encT (l.map wr))) = some (encL encT (l.map wr), []) := Dec_of pf_text (by show (encL encT (l.map wr)).length < _; omega) (by simp)
    have hD2 : Dec (encL encT) (okL okT) (encL encT (l.map wr)) = some (l.map wr, []) := Dec_of (pf_list pf_text) ⟨by omega, fun x hx => by have := hmem x hx; show x.length < _; omega⟩ (by simp)
    simp only [s_wire_Open, Option.bind_some]
    rw [text_spec (fun h => by cases h) (by omega), hD]
    simp only [rd_some, Option.bind_some, s_wire_Reader_Done, Bool.not_false, cond_true, decide_true, Bool.not_true, cond_false]
    rw [Texts_spec (fun h => by cases h) (by omega), hD2]
    simp only [rd_some, Option.bind_some, hm, decide_true, Bool.not_true, cond_false, Bool.not_false, cond_true]
    rw [show (0 : Int) = ((0 : Nat) : Int) from rfl, nests_L2 hl _ rfl l.length 0 KK (by omega) (by omega) (by unfold KK; omega)]; rfl
theorem reads_L1 (calls : List Int) (hcl : calls.length ≤ 20) : ∀ (k i fuel : Nat) (rest : List UInt8) (bad : Bool), k = calls.length - i → i ≤ calls.length → k < fuel → (bad = true → rest = []) → rest.length ≤ 400 →
    ∃ R B, s_greenbeltlaw01_WireReads_L1 calls fuel ((i : Int), rest, bad, rest, bad) = some (.inr (R, B, R, B)) := by
  intro k
  induction k with
  | zero =>
    intro i fuel rest bad hk hi hf hinv hl
    cases fuel with
    | zero => omega
    | succ fuel =>
      have hc : decide ((i : Int) < (calls.length : Int)) = false := decide_eq_false (by omega)
      unfold s_greenbeltlaw01_WireReads_L1
      simp only [hc, cond_false]
      exact ⟨_, _, rfl⟩
  | succ k ih =>
    intro i fuel rest bad hk hi hf hinv hl
    cases fuel with
    | zero => omega
    | succ fuel =>
      have hi' : i < calls.length := by omega
      have hc : decide ((i : Int) < (calls.length : Int)) = true := decide_eq_true (by omega)
      have step : ∀ (R : List UInt8) (B : Bool), (B = true → R = []) → R.length ≤ 400 → ∃ R' B',
          ((some (true, R, B, R, B)).bind fun (v3 : Bool × List UInt8 × Bool × List UInt8 × Bool) => ((bif (!v3.1) then some (true, v3.2.1, v3.2.2.1, v3.2.2.2.1, v3.2.2.2.2) else (s_wire_Reader_Left v3.2.2.2.1 v3.2.2.2.2).bind fun y17 => (s_greenbeltref01_Reader_Left v3.2.1 v3.2.2.1).bind fun y18 => (bif (!(decide (y17.1 = y18.1))) then some (true, y18.2.1, y18.2.2, y17.2.1, y17.2.2) else (s_wire_Reader_Done y17.2.1 y17.2.2).bind fun y19 => (s_greenbeltref01_Reader_Done y18.2.1 y18.2.2).bind fun y20 => some ((!(y19.1 == y20.1)), y20.2.1, y20.2.2, y19.2.1, y19.2.2)))).bind fun v4 => (bif v4.1 then some (.inl false) else (s_greenbeltlaw01_WireReads_L1 calls) fuel ((w64 ((i : Int) + 1)), v4.2.1, v4.2.2.1, v4.2.2.2.1, v4.2.2.2.2))) = some (.inr (R', B', R', B')) := fun R B hB hR => by
        obtain ⟨R', B', h⟩ := ih (i + 1) fuel R B (by omega) (by omega) (by omega) hB hR
        refine ⟨R', B', ?_⟩
        rw [← h]
        rw [w64_id (by omega) (by omega), show ((i : Int) + 1) = ((i + 1 : Nat) : Int) by omega]
        cases B <;> simp [s_wire_Reader_Left, s_greenbeltref01_Reader_Left, s_wire_Reader_Done, s_greenbeltref01_Reader_Done]
      have rdok : ∀ {α : Type} {enc : α → List UInt8} {ok : α → Prop} (z : α), Dec enc ok [] = none → ((rd (Dec enc ok rest) z bad).2.2 = true → (rd (Dec enc ok rest) z bad).2.1 = []) ∧ (rd (Dec enc ok rest) z bad).2.1.length ≤ 400 := fun {α enc ok} z hn => by
        refine ⟨rd_inv hinv fun e => by rw [e]; exact hn, ?_⟩
        cases hD : Dec enc ok rest with
        | none => simp [rd]
        | some p => obtain ⟨x, t⟩ := p; have := (dec_small hD).1; simp only [rd_some]; omega
      unfold s_greenbeltlaw01_WireReads_L1
      simp only [hc, cond_true]
      rw [idx_of hi', Option.bind_some, kind_of]
      simp only [Option.bind_some]
      rcases kind_range (calls.getD i default) with h | h | h | h | h <;> rw [h]
      · obtain ⟨g1, g2⟩ := rdok (enc := encN 59) (ok := okN 0) 0 dec_num_nil
        rw [Num_spec (by omega), rNum_spec (by omega)]
        obtain ⟨R', B', h⟩ := step _ _ g1 g2
        refine ⟨R', B', ?_⟩
        rw [← h]
        simp
      · obtain ⟨g1, g2⟩ := rdok (enc := encN 59) (ok := okN (-9223372036854775808)) 0 dec_num_nil
        rw [Int_spec (by omega), rInt_spec (by omega)]
        obtain ⟨R', B', h⟩ := step _ _ g1 g2
        refine ⟨R', B', ?_⟩
        rw [← h]
        simp
      · obtain ⟨g1, g2⟩ := rdok (enc := encT) (ok := okT) [] dec_text_nil
        rw [text_spec hinv (by omega), rtext_spec hinv (by omega)]
        obtain ⟨R', B', h⟩ := step _ _ g1 g2
        refine ⟨R', B', ?_⟩
        rw [← h]
        simp
      · obtain ⟨g1, g2⟩ := rdok (enc := encL eI) (ok := okL kI) [] dec_list_nil
        rw [Nums_spec hinv (by omega), rNums_spec hinv (by omega)]
        obtain ⟨R', B', h⟩ := step _ _ g1 g2
        refine ⟨R', B', ?_⟩
        rw [← h]
        have : s_greenbeltref01_SameNums (rd (Dec (encL eI) (okL kI) rest) [] bad).1 (rd (Dec (encL eI) (okL kI) rest) [] bad).1 = some true := by
          refine sameNums _ ?_
          cases hD : Dec (encL eI) (okL kI) rest with
          | none => simp [rd]
          | some p => obtain ⟨x, t⟩ := p; have := (dec_small hD).2; have := listI_len (l := x); simp only [rd_some]; omega
        simp [this]
      · obtain ⟨g1, g2⟩ := rdok (enc := encL encT) (ok := okL okT) [] dec_list_nil
        rw [Texts_spec hinv (by omega), rTexts_spec hinv (by omega)]
        obtain ⟨R', B', h⟩ := step _ _ g1 g2
        refine ⟨R', B', ?_⟩
        rw [← h]
        have : s_greenbeltref01_SameTexts (rd (Dec (encL encT) (okL okT) rest) [] bad).1 (rd (Dec (encL encT) (okL okT) rest) [] bad).1 = some true := by
          refine sameTexts _ ?_
          cases hD : Dec (encL encT) (okL okT) rest with
          | none => simp [rd]
          | some p => obtain ⟨x, t⟩ := p; have := (dec_small hD).2; have := listT_len (l := x); simp only [rd_some]; omega
        simp [this]
theorem reads_true (s : List UInt8) (calls : List Int) : s_greenbeltlaw01_WireReads s calls = some true := by
  unfold s_greenbeltlaw01_WireReads
  rw [small_true, Option.bind_some]
  by_cases hs : 400 < s.length
  · have e1 : decide ((s.length : Int) > 400) = true := decide_eq_true (by omega)
    rw [e1]; rfl
  have e1 : decide ((s.length : Int) > 400) = false := decide_eq_false (by omega)
  rw [e1, cond_false, Option.bind_some]
  by_cases hc : 20 < calls.length
  · have e2 : decide ((calls.length : Int) > 20) = true := decide_eq_true (by omega)
    rw [e2]; rfl
  have e2 : decide ((calls.length : Int) > 20) = false := decide_eq_false (by omega)
  rw [e2, cond_false]
  simp only [s_wire_Open, s_greenbeltref01_Open, Option.bind_some]
  obtain ⟨R, B, h⟩ := reads_L1 calls (by omega) calls.length 0 KK s false (by omega) (by omega) (by unfold KK; omega) (fun h => by cases h) (by omega)
  rw [show ((0 : Int), s, false, s, false) = (((0 : Nat) : Int), s, false, s, false) from rfl, h]
  cases B <;> simp [s_wire_Reader_Rest, s_greenbeltref01_Reader_Tail, s_wire_Reader_Left, s_greenbeltref01_Reader_Left, s_wire_Reader_Done, s_greenbeltref01_Reader_Done]
end Go.Proofs.YtbejhkfojiijmaaDoor
