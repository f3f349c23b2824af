/- the plain mathematics of chapter 44: histories and corrections as folds over single days -/
import Derived.Test.YtnnieebmbepjpaaK
set_option linter.all false
namespace Go.Proofs.Ytnnieebmbepjpaa
open Go Go.Eng
section
variable {σ : Type} (st : σ → Int → Int → σ) (s0 : σ)
def unitF : Nat → σ
  | 0 => s0
  | n + 1 => st (unitF n) n (n + 1)
variable {Ok : σ → Prop} {same : Int → Int → Prop}
theorem unit_ok (h0 : Ok s0) (hs : ∀ s a b, Ok s → Ok (st s a b)) : ∀ n, Ok (unitF st s0 n)
  | 0 => h0
  | n + 1 => hs _ _ _ (unit_ok h0 hs n)
theorem unit_range (h0 : Ok s0) (hs : ∀ s a b, Ok s → Ok (st s a b)) (hsame : ∀ a b c, b ≤ c → same a c → same a b)
    (hm : ∀ s a b c, Ok s → a < b → b < c → same a c → st (st s a b) b c = st s a c) (a : Nat) : ∀ n, same a ((a + n + 1 : Nat) : Int) → unitF st s0 (a + n + 1) = st (unitF st s0 a) a ((a + n + 1 : Nat) : Int)
  | 0, _ => rfl
  | n + 1, h => by
    have ih := unit_range h0 hs hsame hm a n (hsame _ _ _ (by omega) h)
    have e : unitF st s0 (a + (n + 1) + 1) = st (unitF st s0 (a + n + 1)) ((a + n + 1 : Nat) : Int) (((a + n + 1 : Nat) : Int) + 1) := rfl
    rw [e, ih]
    have e2 : (((a + n + 1 : Nat) : Int) + 1) = ((a + (n + 1) + 1 : Nat) : Int) := by omega
    rw [e2]
    exact hm (unitF st s0 a) a ((a + n + 1 : Nat) : Int) ((a + (n + 1) + 1 : Nat) : Int) (unit_ok st s0 h0 hs a) (by omega) (by omega) h
theorem unit_parts (h0 : Ok s0) (hs : ∀ s a b, Ok s → Ok (st s a b)) (hsame : ∀ a b c, b ≤ c → same a c → same a b)
    (hm : ∀ s a b c, Ok s → a < b → b < c → same a c → st (st s a b) b c = st s a c) (p : Nat → Int) (R : Nat → σ) (hp : p 0 = 0) (hR : R 0 = s0) : ∀ n, (∀ k, k < n → p k < p (k + 1) ∧ same (p k) (p (k + 1)) ∧ R (k + 1) = st (R k) (p k) (p (k + 1))) →
    0 ≤ p n ∧ R n = unitF st s0 (p n).toNat
  | 0, _ => by rw [hp, hR]; exact ⟨Int.le_refl _, rfl⟩
  | n + 1, h => by
    obtain ⟨h1, h2⟩ := unit_parts h0 hs hsame hm p R hp hR n (fun k hk => h k (by omega))
    obtain ⟨h3, h4, h5⟩ := h n (by omega)
    refine ⟨by omega, ?_⟩
    have e1 : (((p n).toNat : Nat) : Int) = p n := by omega
    have e2 : ((p n).toNat + ((p (n + 1)).toNat - (p n).toNat - 1) + 1) = (p (n + 1)).toNat := by omega
    have e3 : (((p (n + 1)).toNat : Nat) : Int) = p (n + 1) := by omega
    have := unit_range st s0 h0 hs hsame hm (p n).toNat ((p (n + 1)).toNat - (p n).toNat - 1) (by rw [e2, e1, e3]; exact h4)
    rw [e2, e1, e3] at this
    rw [h5, h2, this]
end
/- the history's step -/
def now (base : List Fact) (key : List UInt8) (known d : Int) : Int := countsOf base key d known
def hstep (base : List Fact) (key : List UInt8) (known : Int) (s : List Fact × Int) (a b : Int) : List Fact × Int := (histOut base s.1 s.2 (countsOf base key a known) a b, countsOf base key a known)
def HOk (s : List Fact × Int) : Prop := 0 ≤ s.2 → 1 ≤ s.1.length
def hsame (base : List Fact) (key : List UInt8) (known : Int) (a b : Int) : Prop := ∀ d, a ≤ d → d < b → countsOf base key d known = countsOf base key a known
theorem last_ix {α : Type} (l : List α) (x : α) : ((((l ++ [x]).length : Nat) : Int) - 1).toNat = l.length := by simp only [List.length_append, List.length_cons, List.length_nil]; omega
theorem set_last {α : Type} (l : List α) (x y : α) : (l ++ [x]).set ((((l ++ [x]).length : Nat) : Int) - 1).toNat y = l ++ [y] := by
  rw [last_ix, List.set_append_right _ _ (Nat.le_refl _), Nat.sub_self]; rfl
theorem get_last {α : Type} (l : List α) (x : α) (d : α) : (l ++ [x]).getD ((((l ++ [x]).length : Nat) : Int) - 1).toNat d = x := by
  rw [last_ix]; simp
theorem split_last {α : Type} (l : List α) (h : 1 ≤ l.length) : ∃ m x, l = m ++ [x] := ⟨l.dropLast, l.getLast (by intro e; rw [e] at h; simp at h), (List.dropLast_concat_getLast _).symm⟩
theorem hist_merge (base out : List Fact) (last nw a b c : Int) (h : 0 ≤ last → 1 ≤ out.length) : histOut base (histOut base out last nw a b) nw nw b c = histOut base out last nw a c := by
  by_cases hn : nw ≥ 0
  · by_cases hl : nw = last
    · subst hl
      obtain ⟨m, x, rfl⟩ := split_last out (h hn)
      have e1 : ∀ o d n, histOut base o nw nw d n = o.set ((o.length : Int) - 1).toNat { o.getD ((o.length : Int) - 1).toNat default with until_ := capB n } := fun o d n => by simp [histOut, hn]
      rw [e1 (m ++ [x]), set_last m x _, get_last m x default, e1, set_last m _ _, get_last m _ default, e1, set_last m x _, get_last m x default]
    · have e1 : ∀ d n, histOut base out last nw d n = out ++ [{ base.getD nw.toNat default with from_ := d, until_ := capB n }] := fun d n => by simp [histOut, hn, hl]
      have e2 : ∀ o d n, histOut base o nw nw d n = o.set ((o.length : Int) - 1).toNat { o.getD ((o.length : Int) - 1).toNat default with until_ := capB n } := fun o d n => by simp [histOut, hn]
      rw [e1, e1, e2, set_last out _ _, get_last out _ default]
  · simp [histOut, hn]
theorem rh_out (base out : List Fact) (last nw a b : Int) (h : 0 ≤ last → 1 ≤ out.length) : rhOut base out last nw a b = histOut base out last nw a b := by
  by_cases hn : nw ≥ 0
  · by_cases hl : nw = last
    · subst hl
      obtain ⟨m, x, rfl⟩ := split_last out (h hn)
      by_cases hb : b > 1073741824
      · simp only [rhOut, histOut, capB, hn, hb, decide_true, Bool.not_true, Bool.and_false, Bool.and_true, Bool.false_eq_true, if_false, if_true]
        rw [set_last m x _, get_last m x default, set_last m _ _, get_last m _ default, set_last m x _]
      · simp only [rhOut, histOut, capB, hn, hb, decide_true, decide_false, Bool.not_true, Bool.and_false, Bool.and_true, Bool.false_eq_true, if_false, if_true]
    · by_cases hb : b > 1073741824
      · simp only [rhOut, histOut, capB, hn, hb, hl, decide_true, decide_false, Bool.not_false, Bool.not_true, Bool.and_false, Bool.and_true, Bool.false_eq_true, if_false, if_true]
        rw [set_last out _ _, get_last out _ default, set_last out _ _, get_last out _ default]
      · simp only [rhOut, histOut, capB, hn, hb, hl, decide_true, decide_false, Bool.not_false, Bool.not_true, Bool.and_false, Bool.and_true, Bool.false_eq_true, if_false, if_true]
        rw [set_last out _ _, get_last out _ default]
  · simp [rhOut, histOut, hn]
theorem hit_same {base : List Fact} {i a b : Int} (h1 : (base.getD i.toNat default).from_ ≤ a ∨ b ≤ (base.getD i.toNat default).from_) (h2 : endOf (base.getD i.toNat default) ≤ a ∨ b ≤ endOf (base.getD i.toNat default)) (d : Int) (hd : a ≤ d) (hb : d < b) : hitB base d i = hitB base a i := by
  unfold hitB
  rw [Bool.eq_iff_iff]
  simp only [Bool.and_eq_true, decide_eq_true_eq]
  omega
theorem counts_same {base : List Fact} {key : List UInt8} {known a b : Int} (h : ∀ i ∈ lastIdx base key known, ∀ d, a ≤ d → d < b → hitB base d i = hitB base a i) : hsame base key known a b := by
  intro d hd hb
  unfold countsOf
  congr 1
  have : ∀ l : List Int, (∀ i ∈ l, hitB base d i = hitB base a i) → l.find? (hitB base d) = l.find? (hitB base a) := by
    intro l
    induction l with
    | nil => intro _; rfl
    | cons x l ih =>
      intro hl
      rw [List.find?_cons, List.find?_cons, hl x (by simp), ih (fun i hi => hl i (by simp [hi]))]
  exact this _ (fun i hi => h i hi d hd hb)
theorem lastIdx_cond {base : List Fact} {key : List UInt8} {known : Int} : ∀ i ∈ lastIdx base key known, ∃ k, k < base.length ∧ i.toNat = k ∧ (base.getD k default).key = key ∧ (base.getD k default).known ≤ known := by
  have : ∀ n, n ≤ base.length → ∀ i ∈ lastFrom base key known n, ∃ k, k < base.length ∧ i.toNat = k ∧ (base.getD k default).key = key ∧ (base.getD k default).known ≤ known := by
    intro n
    induction n with
    | zero => intro _ i hi; cases hi
    | succ n ih =>
      intro hn i hi
      rw [lastFrom] at hi
      split at hi
      · rename_i hc
        rcases List.mem_cons.1 hi with rfl | hi
        · simp only [condB, Bool.and_eq_true, decide_eq_true_eq, Int.toNat_natCast] at hc
          exact ⟨n, by omega, by simp, hc.1, hc.2⟩
        · exact ih (by omega) i hi
      · exact ih (by omega) i hi
  exact this _ (Nat.le_refl _)
/- the days of the code -/
theorem daysTo_mem (base : List Fact) (key : List UInt8) : ∀ n, ∀ k, k < n → (base.getD k default).key = key → (base.getD k default).from_ ∈ daysTo base key n ∧ endOf (base.getD k default) ∈ daysTo base key n
  | 0, k, h, _ => by omega
  | n + 1, k, h, hk => by
    rcases Nat.lt_succ_iff_lt_or_eq.1 h with h | rfl
    · have := daysTo_mem base key n k h hk
      rw [daysTo]; split
      · exact ⟨List.mem_append_left _ this.1, List.mem_append_left _ this.2⟩
      · exact this
    · rw [daysTo, if_pos (decide_eq_true hk)]
      exact ⟨List.mem_append_right _ (by simp), List.mem_append_right _ (by simp)⟩
theorem daysTo_ends (base : List Fact) (key : List UInt8) : ∀ n, 0 ∈ daysTo base key n ∧ 1073741825 ∈ daysTo base key n
  | 0 => by simp [daysTo]
  | n + 1 => by
    have := daysTo_ends base key n
    rw [daysTo]; split
    · exact ⟨List.mem_append_left _ this.1, List.mem_append_left _ this.2⟩
    · exact this
theorem daysOf_spec (base : List Fact) (key : List UInt8) : (∀ x, x ∈ daysOf base key ↔ x ∈ daysTo base key base.length) ∧ (daysOf base key).Pairwise (· < ·) := by
  have hs : ((daysTo base key base.length).mergeSort fun x y => decide (x ≤ y)).Pairwise (· ≤ ·) :=
    (List.pairwise_mergeSort (fun a b c h1 h2 => by simp only [decide_eq_true_eq] at *; omega) (fun a b => by simp only [Bool.or_eq_true, decide_eq_true_eq]; omega) _).imp (fun h => by simpa using h)
  have hc := compact_spec (lt := fun a b : Int => a < b) Int.le_refl (fun a b h1 h2 => by omega) (fun a b h1 h2 => by omega) _ hs
  exact ⟨fun x => (hc.1 x).trans List.mem_mergeSort, hc.2⟩
section
variable {ds : List Int}
theorem asc_get (hs : ds.Pairwise (· < ·)) (i j : Nat) (hij : i < j) (hj : j < ds.length) : ds.getD i 0 < ds.getD j 0 := by
  have hi : i < ds.length := by omega
  simp only [List.getD_eq_getElem?_getD, List.getElem?_eq_getElem hi, List.getElem?_eq_getElem hj, Option.getD_some]
  exact List.pairwise_iff_getElem.1 hs i j hi hj hij
theorem asc_mem (hs : ds.Pairwise (· < ·)) (x : Int) (hx : x ∈ ds) (k : Nat) (hk : k + 1 < ds.length) : x ≤ ds.getD k 0 ∨ ds.getD (k + 1) 0 ≤ x := by
  obtain ⟨j, hj, rfl⟩ := List.getElem_of_mem hx
  have e : ds[j] = ds.getD j 0 := by simp [List.getD_eq_getElem?_getD, hj]
  rw [e]
  rcases Nat.lt_or_ge k j with h | h
  · right
    rcases Nat.lt_or_eq_of_le h with h | h
    · exact Int.le_of_lt (asc_get hs _ _ h hj)
    · rw [← h]; exact Int.le_refl _
  · left
    rcases Nat.lt_or_eq_of_le h with h | h
    · exact Int.le_of_lt (asc_get hs _ _ h (by omega))
    · rw [h]; exact Int.le_refl _
end
theorem days_first {base : List Fact} {key : List UInt8} (h : rightB base = true) : (daysOf base key).getD 0 0 = 0 := by
  obtain ⟨h1, h2⟩ := daysOf_spec base key
  have h0 := (h1 0).2 (daysTo_ends base key _).1
  obtain ⟨j, hj, e⟩ := List.getElem_of_mem h0
  have e : (daysOf base key).getD j 0 = 0 := by simpa [List.getD_eq_getElem?_getD, hj] using e
  have hb := daysOf_bd key h 0
  rcases Nat.eq_zero_or_pos j with rfl | hp
  · exact e
  · have := asc_get h2 0 j hp hj; omega
theorem days_last {base : List Fact} {key : List UInt8} (h : rightB base = true) : (daysOf base key).getD ((daysOf base key).length - 1) 0 = 1073741825 := by
  obtain ⟨h1, h2⟩ := daysOf_spec base key
  have h0 := (h1 1073741825).2 (daysTo_ends base key _).2
  obtain ⟨j, hj, e⟩ := List.getElem_of_mem h0
  have e : (daysOf base key).getD j 0 = 1073741825 := by simpa [List.getD_eq_getElem?_getD, hj] using e
  have hb := daysOf_bd key h ((daysOf base key).length - 1)
  rcases Nat.lt_or_ge j ((daysOf base key).length - 1) with hp | hp
  · have := asc_get h2 j _ hp (by omega); omega
  · have : (daysOf base key).length - 1 = j := by omega
    rw [this]; exact e
theorem take_getD (ds : List Int) (k : Nat) (hk : k + 1 < ds.length) : (ds.take ((ds.length : Int) - 1).toNat).getD k 0 = ds.getD k 0 := by
  simp only [List.getD_eq_getElem?_getD, List.getElem?_take]
  rw [if_pos (by omega)]
theorem days_hit {base : List Fact} {key : List UInt8} {known : Int} (k : Nat) (hk : k + 1 < (daysOf base key).length) : hsame base key known ((daysOf base key).getD k 0) ((daysOf base key).getD (k + 1) 0) := by
  obtain ⟨h1, h2⟩ := daysOf_spec base key
  refine counts_same fun i hi d hd hb => ?_
  obtain ⟨n, hn, e, hkey, _⟩ := lastIdx_cond i hi
  obtain ⟨m1, m2⟩ := daysTo_mem base key base.length n hn hkey
  rw [← e] at m1 m2
  exact hit_same (asc_mem h2 _ ((h1 _).2 m1) k hk) (asc_mem h2 _ ((h1 _).2 m2) k hk) d hd hb
theorem hs_mono {base : List Fact} {key : List UInt8} {known : Int} : ∀ a b c, b ≤ c → hsame base key known a c → hsame base key known a b := fun _ _ _ h1 h d hd hb => h d hd (by omega)
theorem hs_ok {base : List Fact} {key : List UInt8} {known : Int} : ∀ s a b, HOk s → HOk (hstep base key known s a b) := fun s a b h hn => histOut_pos _ _ _ _ _ _ h hn
theorem hs_merge {base : List Fact} {key : List UInt8} {known : Int} : ∀ s a b c, HOk s → a < b → b < c → hsame base key known a c → hstep base key known (hstep base key known s a b) b c = hstep base key known s a c := by
  intro s a b c ho hab hbc hsm
  unfold hstep
  rw [hsm b (by omega) hbc, hist_merge base s.1 s.2 _ a b c ho]
theorem hist_unit {base : List Fact} {key : List UInt8} {known : Int} (h : rightB base = true) : histOf base key known = (unitF (hstep base key known) ([], -1) 1073741825).1 := by
  have hp := daysOf_pos base key
  have := unit_parts (hstep base key known) ([], -1) (Ok := HOk) (same := hsame base key known) (fun hh => by simp at hh) hs_ok hs_mono hs_merge (fun k => (daysOf base key).getD k 0) (histTo base key known (daysOf base key)) (days_first h) rfl
    ((daysOf base key).length - 1) (fun k hk => ⟨asc_get (daysOf_spec base key).2 k (k + 1) (by omega) (by omega), days_hit k (by omega), by
      rw [histTo, take_getD _ k (by omega)]; rfl⟩)
  rw [days_last h] at this
  unfold histOf
  rw [h]
  simp only [Bool.not_true, Bool.false_eq_true, if_false]
  rw [daysOf_take, this.2]; rfl
/- the days of the reference -/
theorem nextTo_le (base : List Fact) (day : Int) : ∀ n k, k < n → (day < (base.getD k default).from_ → nextTo base day n ≤ (base.getD k default).from_) ∧ (day < (base.getD k default).until_ → nextTo base day n ≤ (base.getD k default).until_)
  | 0, k, h => by omega
  | n + 1, k, h => by
    rcases Nat.lt_succ_iff_lt_or_eq.1 h with h | rfl
    · have := nextTo_le base day n k h
      simp only [nextTo, decide_eq_true_eq]
      constructor <;> intro hh <;> (first | have := this.1 hh | have := this.2 hh) <;> split <;> (try split) <;> omega
    · simp only [nextTo, decide_eq_true_eq]
      constructor <;> intro hh <;> split <;> (try split) <;> omega
theorem next_hit {base : List Fact} {key : List UInt8} {known : Int} (day : Int) (h0 : 0 ≤ day) (hd : day ≤ 1073741824) : hsame base key known day (nextOf base day) := by
  refine counts_same fun i hi d hd1 hb => ?_
  obtain ⟨n, hn, e, _, _⟩ := lastIdx_cond i hi
  have h1 := nextTo_le base day base.length n hn
  have h2 := nextOf_bd base day hd
  rw [← e] at h1
  refine hit_same ?_ ?_ d hd1 hb
  · rcases Int.lt_or_le day (base.getD i.toNat default).from_ with h | h
    · exact .inr (h1.1 h)
    · exact .inl h
  · unfold endOf
    split
    · exact .inr h2.2
    · rcases Int.lt_or_le day (base.getD i.toNat default).until_ with h | h
      · exact .inr (h1.2 h)
      · exact .inl h
theorem end_ex (base : List Fact) : ∃ n, isEnd base n := by
  refine Classical.byContradiction fun hno => ?_
  have hall : ∀ n, dayR base n ≤ 1073741824 ∧ (n : Int) ≤ dayR base n := by
    intro n
    induction n using Nat.strongRecOn with
    | _ n ih =>
      have h1 : (n : Int) ≤ dayR base n := by
        cases n with
        | zero => exact Int.le_refl _
        | succ n => exact dayR_step base n (ih n (by omega)).2 (ih n (by omega)).1
      refine ⟨Classical.byContradiction fun hh => hno ⟨n, fun m hm => (ih m hm).1, by omega⟩, h1⟩
  have := hall 1073741825
  omega
theorem end_spec (base : List Fact) : isEnd base (rEnd base) := Classical.epsilon_spec (end_ex base)
theorem dayR_ge (base : List Fact) (n : Nat) (h : ∀ m, m < n → dayR base m ≤ 1073741824) : (n : Int) ≤ dayR base n := by
  induction n with
  | zero => exact Int.le_refl _
  | succ n ih => exact dayR_step base n (ih (fun m hm => h m (by omega))) (h n (by omega))
theorem end_day (base : List Fact) : dayR base (rEnd base) = 1073741825 := by
  obtain ⟨h1, h2⟩ := end_spec base
  cases hn : rEnd base with
  | zero => rw [hn] at h2; simp [dayR] at h2
  | succ n =>
    rw [hn] at h1 h2
    have := nextOf_bd base _ (h1 n (by omega))
    simp only [dayR] at h2 ⊢; omega
theorem rhist_eq (base : List Fact) (key : List UInt8) (known : Int) : rhistOf base key known = histOf base key known := by
  cases h : rightB base with
  | false => simp [rhistOf, histOf, rright_eq, h]
  | true =>
    rw [hist_unit h]
    obtain ⟨h1, h2⟩ := end_spec base
    have := unit_parts (hstep base key known) ([], -1) (Ok := HOk) (same := hsame base key known) (fun hh => by simp at hh) hs_ok hs_mono hs_merge (dayR base) (rhTo base key known) rfl rfl
      (rEnd base) (fun k hk => by
        have hb := nextOf_bd base _ (h1 k hk)
        have hge := dayR_ge base k (fun m hm => h1 m (by omega))
        refine ⟨hb.1, next_hit _ (by omega) (h1 k hk), ?_⟩
        rw [rhTo, rc_eq base key _ known (h1 k hk), rh_out _ _ _ _ _ _ (rhTo_pos base key known k)]; rfl)
    rw [end_day] at this
    have e : rhistOf base key known = (rhTo base key known (rEnd base)).1 := by simp [rhistOf, rright_eq, h]
    rw [e, this.2]; rfl
/- corrections -/
def cstep (base : List Fact) (key : List UInt8) (a b : Int) (s : List Stay × Bool) (c d : Int) : List Stay × Bool := (corOut s.1 s.2 (diffB base key a b c) c d, diffB base key a b c)
def COk (s : List Stay × Bool) : Prop := s.2 = true → 1 ≤ s.1.length
def csame (base : List Fact) (key : List UInt8) (a b : Int) (c d : Int) : Prop := ∀ x, c ≤ x → x < d → diffB base key a b x = diffB base key a b c
theorem cor_merge (out : List Stay) (last df : Bool) (a b c : Int) (h : last = true → 1 ≤ out.length) : corOut (corOut out last df a b) df df b c = corOut out last df a c := by
  cases df
  · simp [corOut]
  · cases last
    · have e1 : ∀ d n, corOut out false true d n = out ++ [{ from_ := d, to := n - 1 }] := fun d n => by simp [corOut]
      have e2 : ∀ o d n, corOut o true true d n = o.set ((o.length : Int) - 1).toNat { o.getD ((o.length : Int) - 1).toNat default with to := n - 1 } := fun o d n => by simp [corOut]
      rw [e1, e1, e2, set_last out _ _, get_last out _ default]
    · obtain ⟨m, x, rfl⟩ := split_last out (h rfl)
      have e2 : ∀ o d n, corOut o true true d n = o.set ((o.length : Int) - 1).toNat { o.getD ((o.length : Int) - 1).toNat default with to := n - 1 } := fun o d n => by simp [corOut]
      rw [e2 (m ++ [x]), set_last m x _, get_last m x default, e2, set_last m _ _, get_last m _ default, e2, set_last m x _, get_last m x default]
theorem rcor_out (out : List Stay) (last df : Bool) (a b : Int) : rcorOut out last df a b = corOut out last df a b := by
  cases df <;> cases last
  · simp [rcorOut, corOut]
  · simp [rcorOut, corOut]
  · simp only [rcorOut, corOut, Bool.not_false, Bool.and_true, if_true, Bool.and_false, Bool.false_eq_true, if_false]
    rw [set_last out _ _, get_last out _ default]
  · simp [rcorOut, corOut]
theorem rdiff_eq (base : List Fact) (key : List UInt8) (a b d : Int) : rdiffB base key a b d = diffB base key a b d := by
  unfold rdiffB diffB; rw [rat_eq, rat_eq]
theorem at_of {base : List Fact} (h : rightB base = true) {key : List UInt8} {day known : Int} (h0 : 0 ≤ day) (hd : day ≤ 1073741824) : atOf base key day known = if countsOf base key day known < 0 then (0, false) else ((base.getD (countsOf base key day known).toNat default).value, true) := by
  unfold atOf
  rw [decide_eq_false (by omega), decide_eq_false (by omega), h]
  simp
theorem diff_same {base : List Fact} (h : rightB base = true) {key : List UInt8} {a b c d : Int} (h0 : 0 ≤ c) (hd : d ≤ 1073741825) (h1 : hsame base key a c d) (h2 : hsame base key b c d) : csame base key a b c d := by
  intro x hx hxd
  unfold diffB
  rw [at_of h (by omega) (by omega), at_of h (by omega) (by omega), at_of h h0 (by omega), at_of h h0 (by omega), h1 x hx hxd, h2 x hx hxd]
theorem cs_mono {base : List Fact} {key : List UInt8} {a b : Int} : ∀ c d e, d ≤ e → csame base key a b c e → csame base key a b c d := fun _ _ _ h1 h x hx hb => h x hx (by omega)
theorem cs_ok {base : List Fact} {key : List UInt8} {a b : Int} : ∀ s c d, COk s → COk (cstep base key a b s c d) := fun s c d h hn => corOut_pos _ _ _ _ _ h hn
theorem cs_merge {base : List Fact} {key : List UInt8} {a b : Int} : ∀ s c d e, COk s → c < d → d < e → csame base key a b c e → cstep base key a b (cstep base key a b s c d) d e = cstep base key a b s c e := by
  intro s c d e ho hab hbc hsm
  unfold cstep
  rw [hsm d (by omega) hbc, cor_merge s.1 s.2 _ c d e ho]
theorem cor_unit {base : List Fact} {key : List UInt8} {a b : Int} (h : rightB base = true) : corOf base key a b = (unitF (cstep base key a b) ([], false) 1073741825).1 := by
  have hp := daysOf_pos base key
  have := unit_parts (cstep base key a b) ([], false) (Ok := COk) (same := csame base key a b) (fun hh => by cases hh) cs_ok cs_mono cs_merge (fun k => (daysOf base key).getD k 0) (corTo base key a b (daysOf base key)) (days_first h) rfl
    ((daysOf base key).length - 1) (fun k hk => ⟨asc_get (daysOf_spec base key).2 k (k + 1) (by omega) (by omega), diff_same h (daysOf_bd key h k).1 (daysOf_bd key h (k + 1)).2 (days_hit k (by omega)) (days_hit k (by omega)), by
      rw [corTo, take_getD _ k (by omega)]; rfl⟩)
  rw [days_last h] at this
  unfold corOf
  rw [h]
  simp only [Bool.not_true, Bool.false_eq_true, if_false]
  rw [daysOf_take, this.2]; rfl
theorem rcor_eq (base : List Fact) (key : List UInt8) (a b : Int) : rcorOf base key a b = corOf base key a b := by
  cases h : rightB base with
  | false => simp [rcorOf, corOf, rright_eq, h]
  | true =>
    rw [cor_unit h]
    obtain ⟨h1, h2⟩ := end_spec base
    have := unit_parts (cstep base key a b) ([], false) (Ok := COk) (same := csame base key a b) (fun hh => by cases hh) cs_ok cs_mono cs_merge (dayR base) (rcorTo base key a b) rfl rfl
      (rEnd base) (fun k hk => by
        have hb := nextOf_bd base _ (h1 k hk)
        have hge := dayR_ge base k (fun m hm => h1 m (by omega))
        refine ⟨hb.1, diff_same h (by omega) hb.2 (next_hit _ (by omega) (h1 k hk)) (next_hit _ (by omega) (h1 k hk)), ?_⟩
        rw [rcorTo, rdiff_eq, rcor_out]; rfl)
    rw [end_day] at this
    have e : rcorOf base key a b = (rcorTo base key a b (rEnd base)).1 := by simp [rcorOf, rright_eq, h]
    rw [e, this.2]; rfl
end Go.Proofs.Ytnnieebmbepjpaa
