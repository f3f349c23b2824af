/- chapter 44: FactHistory answers true, plainly -/
import Derived.Test.YtnnieebmbepjpaaU
set_option linter.all false
namespace Go.Proofs.Ytnnieebmbepjpaa
open Go Go.Eng
section
theorem counts_spec {base : List Fact} {key : List UInt8} {d known : Int} (h : 0 ≤ countsOf base key d known) :
    ∃ k, k < base.length ∧ (countsOf base key d known).toNat = k ∧ (base.getD k default).key = key ∧ (base.getD k default).known ≤ known ∧ (base.getD k default).from_ ≤ d ∧ d < endOf (base.getD k default) := by
  have hx : ∃ i, (lastIdx base key known).find? (hitB base d) = some i ∧ countsOf base key d known = i := by
    unfold countsOf at h ⊢
    cases hf : (lastIdx base key known).find? (hitB base d) with
    | none => rw [hf] at h; simp at h
    | some i => exact ⟨i, rfl, rfl⟩
  obtain ⟨i, hf, e⟩ := hx
  rw [e]
  obtain ⟨k, h1, h2, h3, h4⟩ := lastIdx_cond i (List.mem_of_find?_eq_some hf)
  have h5 := List.find?_some hf
  simp only [hitB, Bool.and_eq_true, decide_eq_true_eq, h2] at h5
  exact ⟨k, h1, h2, h3, h4, h5.1, h5.2⟩
theorem valid_until {f : Fact} (h : validB f = true) : f.until_ ≤ 1073741824 := by
  simp only [validB, Bool.and_eq_true, Bool.or_eq_true, decide_eq_true_eq] at h
  obtain ⟨⟨⟨⟨_, _⟩, h1⟩, h2⟩, h3⟩ := h
  omega
theorem end_cap (x : Fact) (n : Nat) (h : n + 1 ≤ 1073741825) : endOf { x with until_ := capB ((n : Int) + 1) } = (n : Int) + 1 := by
  unfold endOf capB
  by_cases hc : (n : Int) + 1 > 1073741824
  · simp [hc]; omega
  · simp [hc]; omega
theorem cap_cases (n : Nat) (h : n + 1 ≤ 1073741825) : (capB ((n : Int) + 1) = 0 ∧ (n : Int) + 1 = 1073741825) ∨ (capB ((n : Int) + 1) = (n : Int) + 1 ∧ (n : Int) + 1 ≤ 1073741824) := by
  unfold capB
  by_cases hc : (n : Int) + 1 > 1073741824
  · left; simp [hc]; omega
  · right; simp [hc]; omega
def Good (base : List Fact) (key : List UInt8) (known : Int) (x : Fact) : Prop :=
  x.key = key ∧ x.known ≤ known ∧ 0 ≤ x.from_ ∧ x.from_ < endOf x ∧ (x.until_ = 0 ∨ x.from_ < x.until_) ∧ (∃ k, k < base.length ∧ thereC key x (base.getD k default) = true) ∧
  ∀ d, x.from_ ≤ d → d < endOf x → 0 ≤ countsOf base key d known ∧ (base.getD (countsOf base key d known).toNat default).value = x.value
def HInv (base : List Fact) (key : List UInt8) (known : Int) (n : Nat) (s : List Fact × Int) : Prop :=
  (∀ x ∈ s.1, Good base key known x ∧ endOf x ≤ n) ∧ s.1.Pairwise (fun x y => x.until_ ≠ 0 ∧ x.until_ ≤ y.from_) ∧
  (∀ d : Int, 0 ≤ d → d < n → 0 ≤ countsOf base key d known → ∃ x ∈ s.1, x.from_ ≤ d ∧ d < endOf x) ∧
  (0 ≤ s.2 → ∃ m x k, s.1 = m ++ [x] ∧ endOf x = n ∧ k < base.length ∧ s.2.toNat = k ∧ (base.getD k default).value = x.value ∧ (base.getD k default).known = x.known ∧ (base.getD k default).from_ ≤ x.from_)
theorem hinv_step {base : List Fact} (hr : rightB base = true) (key : List UInt8) (known : Int) (n : Nat) (hn : n + 1 ≤ 1073741825) (s : List Fact × Int) (h : HInv base key known n s) :
    HInv base key known (n + 1) (hstep base key known s n ((n : Int) + 1)) := by
  obtain ⟨h1, h2, h3, h4⟩ := h
  obtain ⟨out, last⟩ := s
  simp only at h1 h2 h3 h4
  have hcap := cap_cases n hn
  by_cases hc : 0 ≤ countsOf base key n known
  · obtain ⟨k, k1, k2, k3, k4, k5, k6⟩ := counts_spec hc
    have ku := valid_until (right_valid hr k1)
    have kend : (base.getD k default).until_ = 0 ∨ (base.getD k default).until_ = endOf (base.getD k default) := by unfold endOf; split <;> simp_all
    by_cases hl : countsOf base key n known = last
    · obtain ⟨m, x, k', rfl, e1, e2, e3, e4, e5, e6⟩ := h4 (by omega)
      obtain rfl : k' = k := by rw [← e3, ← k2, hl]
      have e : hstep base key known (m ++ [x], last) n ((n : Int) + 1) = (m ++ [{ x with until_ := capB ((n : Int) + 1) }], countsOf base key n known) := by
        unfold hstep histOut
        simp only
        rw [decide_eq_true (show countsOf base key n known ≥ 0 from hc), decide_eq_true hl]
        simp only [Bool.and_self, if_true]
        rw [set_last, get_last]
      rw [e]
      obtain ⟨⟨g1, g2, g3, g4, g5, g6, g7⟩, _⟩ := h1 x (by simp)
      have hp := List.pairwise_append.1 h2
      have he := end_cap x n hn
      refine ⟨fun y hy => ?_, List.pairwise_append.2 ⟨hp.1, by simp, fun y hy z hz => ?_⟩, fun d d0 dn dc => ?_, fun _ => ⟨m, _, k', rfl, he, e2, k2, e4, e5, e6⟩⟩
      · rcases List.mem_append.1 hy with hy | hy
        · obtain ⟨a1, a2⟩ := h1 y (List.mem_append_left _ hy); exact ⟨a1, by omega⟩
        · rw [List.mem_singleton] at hy; subst hy
          refine ⟨⟨g1, g2, g3, by rw [he]; show x.from_ < _; omega, ?_, ⟨k', e2, ?_⟩, fun d d1 d2 => ?_⟩, by rw [he]; omega⟩
          · show capB _ = 0 ∨ x.from_ < capB _
            rcases hcap with ⟨hc1, _⟩ | ⟨hc1, _⟩
            · exact .inl hc1
            · right; rw [hc1]; omega
          · simp only [thereC, Bool.and_eq_true, Bool.or_eq_true, decide_eq_true_eq, Bool.not_eq_true', decide_eq_false_iff_not]
            refine ⟨⟨⟨⟨k3, e4⟩, e5⟩, e6⟩, ?_⟩
            rcases hcap with ⟨hc1, hc2⟩ | ⟨hc1, hc2⟩
            · rcases kend with kend | kend
              · exact .inl kend
              · exfalso; omega
            · rcases kend with kend | kend
              · exact .inl kend
              · right; rw [hc1, kend]; omega
          · rw [he] at d2
            by_cases hd : d < n
            · have := g7 d d1 (by omega)
              exact this
            · have : d = n := by omega
              subst this
              exact ⟨hc, by rw [k2]; exact e4⟩
      · rw [List.mem_singleton] at hz; subst hz
        exact hp.2.2 y hy x (by simp)
      · by_cases hd : d < n
        · obtain ⟨y, hy, h6, h7⟩ := h3 d d0 hd dc
          rcases List.mem_append.1 hy with hy | hy
          · exact ⟨y, List.mem_append_left _ hy, h6, h7⟩
          · rw [List.mem_singleton] at hy; subst hy
            exact ⟨_, List.mem_append_right _ (List.mem_singleton.2 rfl), h6, by rw [he]; omega⟩
        · exact ⟨_, List.mem_append_right _ (List.mem_singleton.2 rfl), by show x.from_ ≤ d; omega, by rw [he]; omega⟩
    · have e : hstep base key known (out, last) n ((n : Int) + 1) = (out ++ [{ base.getD k default with from_ := n, until_ := capB ((n : Int) + 1) }], countsOf base key n known) := by
        unfold hstep histOut
        simp only
        rw [decide_eq_true (show countsOf base key n known ≥ 0 from hc), decide_eq_false hl, k2]
        simp only [Bool.and_false, Bool.false_eq_true, if_false, if_true]
      rw [e]
      have he : endOf { base.getD k default with from_ := (n : Int), until_ := capB ((n : Int) + 1) } = (n : Int) + 1 := end_cap { base.getD k default with from_ := n } n hn
      refine ⟨fun y hy => ?_, List.pairwise_append.2 ⟨h2, by simp, fun y hy z hz => ?_⟩, fun d d0 dn dc => ?_, fun _ => ⟨out, _, k, rfl, he, k1, k2, rfl, rfl, k5⟩⟩
      · rcases List.mem_append.1 hy with hy | hy
        · obtain ⟨a1, a2⟩ := h1 y hy; exact ⟨a1, by omega⟩
        · rw [List.mem_singleton] at hy; subst hy
          refine ⟨⟨k3, k4, by show 0 ≤ (n : Int); omega, by rw [he]; show (n : Int) < _; omega, ?_, ⟨k, k1, ?_⟩, fun d d1 d2 => ?_⟩, by rw [he]; omega⟩
          · show capB _ = 0 ∨ (n : Int) < capB _
            rcases hcap with ⟨hc1, _⟩ | ⟨hc1, _⟩
            · exact .inl hc1
            · right; rw [hc1]; omega
          · simp only [thereC, Bool.and_eq_true, Bool.or_eq_true, decide_eq_true_eq, Bool.not_eq_true', decide_eq_false_iff_not]
            refine ⟨⟨⟨⟨k3, trivial⟩, trivial⟩, k5⟩, ?_⟩
            rcases hcap with ⟨hc1, hc2⟩ | ⟨hc1, hc2⟩
            · rcases kend with kend | kend
              · exact .inl kend
              · exfalso; omega
            · rcases kend with kend | kend
              · exact .inl kend
              · right; rw [hc1, kend]; omega
          · rw [he] at d2
            have d1' : (n : Int) ≤ d := d1
            have : d = n := by omega
            subst this
            exact ⟨hc, by rw [k2]⟩
      · rw [List.mem_singleton] at hz; subst hz
        obtain ⟨a1, a2⟩ := h1 y hy
        unfold endOf at a2
        show y.until_ ≠ 0 ∧ y.until_ ≤ (n : Int)
        split at a2
        · omega
        · rename_i hu; exact ⟨hu, a2⟩
      · by_cases hd : d < n
        · obtain ⟨y, hy, h6, h7⟩ := h3 d d0 hd dc
          exact ⟨y, List.mem_append_left _ hy, h6, h7⟩
        · exact ⟨_, List.mem_append_right _ (List.mem_singleton.2 rfl), by show (n : Int) ≤ d; omega, by rw [he]; omega⟩
  · have e : hstep base key known (out, last) n ((n : Int) + 1) = (out, countsOf base key n known) := by
      unfold hstep histOut
      simp only
      rw [decide_eq_false (show ¬ (countsOf base key n known ≥ 0) from hc)]
      simp
    rw [e]
    refine ⟨fun x hx => ?_, h2, fun d d0 dn dc => ?_, fun h => absurd h hc⟩
    · obtain ⟨a1, a2⟩ := h1 x hx; exact ⟨a1, by omega⟩
    · by_cases hd : d < n
      · exact h3 d d0 hd dc
      · have : d = n := by omega
        subst this; exact absurd dc hc
theorem hinv_all {base : List Fact} (hr : rightB base = true) (key : List UInt8) (known : Int) : ∀ n, n ≤ 1073741825 → HInv base key known n (unitF (hstep base key known) ([], -1) n)
  | 0, _ => ⟨by simp [unitF], by simp [unitF], fun d d0 dn => by omega, by simp [unitF]⟩
  | n + 1, h => hinv_step hr key known n h _ (hinv_all hr key known n (by omega))
theorem hist_inv {base : List Fact} (hr : rightB base = true) (key : List UInt8) (known : Int) : (∀ x ∈ histOf base key known, Good base key known x) ∧ (histOf base key known).Pairwise (fun x y => x.until_ ≠ 0 ∧ x.until_ ≤ y.from_) ∧
    (∀ d : Int, 0 ≤ d → d ≤ 1073741824 → 0 ≤ countsOf base key d known → ∃ x ∈ histOf base key known, x.from_ ≤ d ∧ d < endOf x) := by
  obtain ⟨h1, h2, h3, _⟩ := hinv_all hr key known 1073741825 (Nat.le_refl _)
  rw [hist_unit hr]
  exact ⟨fun x hx => (h1 x hx).1, h2, fun d h0 hd => h3 d h0 (by omega)⟩
theorem has_iff (x : Fact) {day : Int} (hd : day ≤ 1073741824) : hasB x day = true ↔ x.from_ ≤ day ∧ day < endOf x := by
  unfold hasB endOf
  simp only [Bool.and_eq_true, Bool.or_eq_true, decide_eq_true_eq]
  split <;> omega
theorem foundTo_spec (l : List Fact) (day : Int) : ∀ n, n ≤ l.length → (foundTo l day n = true ↔ ∃ j, j < n ∧ hasB (l.getD j default) day = true)
  | 0, _ => by simp [foundTo]
  | n + 1, h => by
    have ih := foundTo_spec l day n (by omega)
    rw [foundTo]
    split
    · rename_i hh; exact ⟨fun _ => ⟨n, by omega, hh⟩, fun _ => rfl⟩
    · rename_i hh
      rw [ih]
      constructor
      · rintro ⟨j, hj, hh'⟩; exact ⟨j, by omega, hh'⟩
      · rintro ⟨j, hj, hh'⟩
        rcases Nat.lt_succ_iff_lt_or_eq.1 hj with hj | rfl
        · exact ⟨j, hj, hh'⟩
        · exact absurd hh' hh
theorem thereTo_spec (base : List Fact) (key : List UInt8) (x : Fact) : ∀ n, thereTo base key x n = true ↔ ∃ k, k < n ∧ thereC key x (base.getD k default) = true
  | 0 => by simp [thereTo]
  | n + 1 => by
    rw [thereTo, Bool.or_eq_true, thereTo_spec base key x n]
    constructor
    · rintro (⟨j, hj, hh⟩ | hh)
      · exact ⟨j, by omega, hh⟩
      · exact ⟨n, by omega, hh⟩
    · rintro ⟨j, hj, hh⟩
      rcases Nat.lt_succ_iff_lt_or_eq.1 hj with hj | rfl
      · exact .inl ⟨j, hj, hh⟩
      · exact .inr hh
theorem there_loop (base : List Fact) (key : List UInt8) (l : List Fact) (q : Bool × Int) (i : Nat) (hq : q.2 = i) (hi : i < l.length) (hb : base.length ≤ 1000) :
    ∀ m k n, k + m = base.length → m < n → s_greenbeltlaw44_FactHistory_L2 base key l q n (thereTo base key (l.getD i default) k, (k : Int)) = some (thereTo base key (l.getD i default) base.length)
  | m, k, 0, _, h => by omega
  | 0, k, n + 1, h, _ => by
    rw [s_greenbeltlaw44_FactHistory_L2]
    obtain rfl : k = base.length := by omega
    simp
  | m + 1, k, n + 1, h, hn => by
    have hk : k < base.length := by omega
    have ih := there_loop base key l q i hq hi hb m (k + 1) n (by omega) (by omega)
    rw [s_greenbeltlaw44_FactHistory_L2]
    have e1 : ((k : Int) < base.length) = True := by simp; omega
    have e2 : EV.w64 ((k : Int) + 1) = ((k + 1 : Nat) : Int) := by rw [w64_id (by omega) (by omega)]; omega
    simp only [hq, idx_nat hk, idx_nat hi, e1, decide_true, cond_true, Option.bind_some, e2]
    rw [thereTo] at ih
    generalize hf : base.getD k default = f at ih ⊢
    generalize hx : l.getD i default = x at ih ⊢
    generalize ht : thereTo base key x k = t at ih ⊢
    have c : (bif t then some true else bif decide (f.key = key) then bif decide (f.value = x.value) then bif decide (f.known = x.known) then bif decide (f.from_ ≤ x.from_) then bif decide (f.until_ = 0) then some true else bif !decide (x.until_ = 0) then some (decide (x.until_ ≤ f.until_)) else some false else some false else some false else some false else some false) = some (t || thereC key x f) := by
      unfold thereC
      cases t <;> cases decide (f.key = key) <;> cases decide (f.value = x.value) <;> cases decide (f.known = x.known) <;> cases decide (f.from_ ≤ x.from_) <;> cases decide (f.until_ = 0) <;> cases decide (x.until_ = 0) <;> rfl
    rw [c, Option.bind_some]
    exact ih
theorem hist_loop (base : List Fact) (key : List UInt8) (day known : Int) (l : List Fact) (a : Int × Bool) (hb : base.length ≤ 1000) (hl : l.length ≤ 1000)
    (hg : ∀ i, i < l.length → (l.getD i default).key = key ∧ (l.getD i default).known ≤ known ∧ 0 ≤ (l.getD i default).from_ ∧ ((l.getD i default).until_ = 0 ∨ (l.getD i default).from_ < (l.getD i default).until_) ∧
      (0 < i → (l.getD (i - 1) default).until_ ≠ 0 ∧ (l.getD (i - 1) default).until_ ≤ (l.getD i default).from_) ∧ (hasB (l.getD i default) day = true → a.2 = true ∧ a.1 = (l.getD i default).value) ∧ thereTo base key (l.getD i default) base.length = true) :
    ∀ m i n, i + m = l.length → m < n → s_greenbeltlaw44_FactHistory_L1 base key day known l a n (foundTo l day i, (i : Int)) = some (.inr (foundTo l day l.length))
  | m, i, 0, _, h => by omega
  | 0, i, n + 1, h, _ => by
    rw [s_greenbeltlaw44_FactHistory_L1]
    obtain rfl : i = l.length := by omega
    simp
  | m + 1, i, n + 1, h, hn => by
    have hi : i < l.length := by omega
    have ih := hist_loop base key day known l a hb hl hg m (i + 1) n (by omega) (by omega)
    obtain ⟨g1, g2, g3, g4, g5, g6, g7⟩ := hg i hi
    rw [s_greenbeltlaw44_FactHistory_L1]
    have e1 : ((i : Int) < l.length) = True := by simp; omega
    have e2 : EV.w64 ((i : Int) + 1) = ((i + 1 : Nat) : Int) := by rw [w64_id (by omega) (by omega)]; omega
    have hthere := there_loop base key l (foundTo l day i, (i : Int)) i rfl hi hb base.length 0 EV.KK (by omega) (by unfold EV.KK; omega)
    have e3 : s_greenbeltlaw44_FactHistory_L2 base key l (foundTo l day i, (i : Int)) EV.KK (false, 0) = some (thereTo base key (l.getD i default) base.length) := hthere
    rw [g7] at e3
    simp only [idx_nat hi, e1, decide_true, cond_true, Option.bind_some, e2, e3, s_has]
    have c1 : decide ((l.getD i default).key = key) = true := decide_eq_true g1
    have c2 : decide ((l.getD i default).known > known) = false := decide_eq_false (by omega)
    have c3 : decide ((l.getD i default).from_ < 0) = false := decide_eq_false (by omega)
    have c4 : (bif decide ((i : Int) > 0) then (EV.idx l (EV.w64 ((i : Int) - 1))).bind fun x5 => bif decide (x5.until_ = 0) then some true else (EV.idx l (EV.w64 ((i : Int) - 1))).bind fun x6 => some (decide (x6.until_ > (l.getD i default).from_)) else some false) = some false := by
      by_cases h0 : (i : Int) > 0
      · obtain ⟨p1, p2⟩ := g5 (by omega)
        rw [decide_eq_true h0, cond_true, w64_id (by omega) (by omega), idx_ok (by omega) (by omega), show ((i : Int) - 1).toNat = i - 1 by omega]
        simp only [Option.bind_some]
        rw [decide_eq_false p1, cond_false, decide_eq_false (by omega)]
      · rw [decide_eq_false h0, cond_false]
    rw [c1, c2, c3]
    simp only [Bool.not_true, cond_false]
    rw [c4]
    have c5 : (bif !decide ((l.getD i default).until_ = 0) then bif decide ((l.getD i default).until_ ≤ (l.getD i default).from_) then some true else some false else some false) = some false := by
      by_cases hu : (l.getD i default).until_ = 0
      · rw [decide_eq_true hu]; rfl
      · rw [decide_eq_false hu, decide_eq_false (by omega)]; rfl
    rw [c5]
    simp only [Option.bind_some, cond_false, Bool.not_true]
    have ih' : s_greenbeltlaw44_FactHistory_L1 base key day known l a n (if hasB (l.getD i default) day = true then true else foundTo l day i, ((i + 1 : Nat) : Int)) = some (.inr (foundTo l day l.length)) := ih
    cases hh : hasB (l.getD i default) day with
    | false => rw [hh] at ih'; simpa using ih'
    | true =>
      obtain ⟨a1, a2⟩ := g6 hh
      rw [hh] at ih'
      rw [a1, a2]
      simpa using ih'
theorem history_true (base : List Fact) (key : List UInt8) (day known : Int) : s_greenbeltlaw44_FactHistory base key day known = some true := by
  unfold s_greenbeltlaw44_FactHistory s_small s_few s_right s_hist s_at
  simp only [Option.bind_some]
  cases hf : fewB base with
  | false => rfl
  | true =>
    simp only [Bool.not_true, cond_false]
    cases hr : rightB base with
    | false => rfl
    | true =>
      simp only [Bool.not_true, cond_false]
      by_cases h0 : day < 0
      · rw [decide_eq_true h0]; rfl
      rw [decide_eq_false h0, cond_false, Option.bind_some]
      by_cases hd : day > 1073741824
      · rw [decide_eq_true hd]; rfl
      rw [decide_eq_false hd, cond_false]
      have hlen := histOf_len base key known
      have hb := few_len base hf
      obtain ⟨i1, i2, i3⟩ := hist_inv hr key known
      have hat := at_of hr (key := key) (known := known) (day := day) (by omega) (by omega)
      have hhas : ∀ x ∈ histOf base key known, hasB x day = true → (atOf base key day known).2 = true ∧ (atOf base key day known).1 = x.value := fun x hx hh => by
        obtain ⟨_, _, _, _, _, _, g7⟩ := i1 x hx
        obtain ⟨d1, d2⟩ := (has_iff x (by omega)).1 hh
        obtain ⟨k1, k2⟩ := g7 day d1 d2
        rw [hat, if_neg (by omega)]
        exact ⟨rfl, k2⟩
      have hloop := hist_loop base key day known (histOf base key known) (atOf base key day known) (by omega) (by omega) (fun i hi => by
        have hm := getD_mem hi
        obtain ⟨g1, g2, g3, g4, g5, ⟨k, k1, k2⟩, g7⟩ := i1 _ hm
        exact ⟨g1, g2, g3, g5, fun h => pair_getD i2 (show i - 1 < i by omega) hi, hhas _ hm, (thereTo_spec base key _ _).2 ⟨k, k1, k2⟩⟩) (histOf base key known).length 0 EV.KK (by omega) (by unfold EV.KK; omega)
      have hloop' : s_greenbeltlaw44_FactHistory_L1 base key day known (histOf base key known) (atOf base key day known) EV.KK (false, 0) = some (.inr (foundTo (histOf base key known) day (histOf base key known).length)) := hloop
      rw [hloop']
      simp only [Option.bind_some, cond_true]
      have e : foundTo (histOf base key known) day (histOf base key known).length = (atOf base key day known).2 := by
        rw [Bool.eq_iff_iff, foundTo_spec _ _ _ (Nat.le_refl _)]
        constructor
        · rintro ⟨j, hj, hh⟩; exact (hhas _ (getD_mem hj) hh).1
        · intro hh
          rw [hat] at hh
          split at hh
          · cases hh
          · rename_i hc
            obtain ⟨x, hx, d1, d2⟩ := i3 day (by omega) (by omega) (by omega)
            obtain ⟨j, hj, rfl⟩ := List.getElem_of_mem hx
            exact ⟨j, hj, by rw [List.getD_eq_getElem?_getD, List.getElem?_eq_getElem hj]; exact (has_iff _ (by omega)).2 ⟨d1, d2⟩⟩
      rw [e]
      simp
end
end Go.Proofs.Ytnnieebmbepjpaa
