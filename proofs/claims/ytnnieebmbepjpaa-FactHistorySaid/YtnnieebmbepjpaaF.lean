/- the plain mathematics of chapter 44 -/
import Derived.Test.YtnnieebmbepjpaaE
set_option linter.all false
namespace Go.Proofs.Ytnnieebmbepjpaa
open Go Go.Eng
theorem few_len (base : List Fact) (h : fewB base = true) : base.length ≤ 16 := by
  simp only [fewB, Bool.and_eq_true, decide_eq_true_eq] at h; omega
theorem keysOf_len (base : List Fact) : (keysOf base).length ≤ base.length := by
  unfold keysOf
  split
  · simp
  · exact Nat.le_trans (compact_len _) (by rw [List.length_mergeSort, keysTo_len]; exact Nat.le_refl _)
theorem histOf_len (base : List Fact) (key : List UInt8) (known : Int) : (histOf base key known).length ≤ 2 + 2 * base.length := by
  unfold histOf
  split
  · simp
  · refine Nat.le_trans (histTo_len ..) ?_
    rw [daysOf_take]; have := daysOf_len base key; omega
theorem corOf_len (base : List Fact) (key : List UInt8) (a b : Int) : (corOf base key a b).length ≤ 2 + 2 * base.length := by
  unfold corOf
  split
  · simp
  · refine Nat.le_trans (corTo_len ..) ?_
    rw [daysOf_take]; have := daysOf_len base key; omega
def foundTo (l : List Fact) (day : Int) : Nat → Bool
  | 0 => false
  | i + 1 => if hasB (l.getD i default) day = true then true else foundTo l day i
def thereC (key : List UInt8) (x f : Fact) : Bool := (((((decide (f.key = key)) && (decide (f.value = x.value))) && (decide (f.known = x.known))) && (decide (f.from_ ≤ x.from_))) && ((decide (f.until_ = 0)) || ((!decide (x.until_ = 0)) && (decide (x.until_ ≤ f.until_)))))
def thereTo (base : List Fact) (key : List UInt8) (x : Fact) : Nat → Bool
  | 0 => false
  | k + 1 => thereTo base key x k || thereC key x (base.getD k default)
def inTo (l : List Stay) (day : Int) : Nat → Bool
  | 0 => false
  | i + 1 => inTo l day i || ((decide ((l.getD i default).from_ ≤ day)) && (decide (day ≤ (l.getD i default).to)))
theorem rvalid_eq (f : Fact) : rvalidB f = validB f := by
  have hk : (f.key = []) = ((f.key.length : Int) < 1) := propext ⟨fun h => by simp [h], fun h => List.length_eq_zero_iff.1 (by omega)⟩
  unfold rvalidB validB
  rw [Bool.eq_iff_iff]
  split
  · rename_i h
    simp only [Bool.or_eq_true, decide_eq_true_eq] at h
    simp only [Bool.and_eq_true, Bool.or_eq_true, decide_eq_true_eq, Bool.not_eq_true', decide_eq_false_iff_not, hk]
    constructor
    · intro h; cases h
    · intro h; omega
  · rename_i h
    simp only [Bool.or_eq_true, decide_eq_true_eq] at h
    simp only [Bool.and_eq_true, Bool.or_eq_true, decide_eq_true_eq, Bool.not_eq_true', decide_eq_false_iff_not, hk]
    omega
theorem rok_eq (base : List Fact) (k : Nat) : rokAt base k = okAt base k := by
  unfold rokAt okAt; rw [rvalid_eq]
theorem rright_eq (base : List Fact) : rrightB base = rightB base := by
  have h : (List.range base.length).all (rokAt base) = (List.range base.length).all (okAt base) := by congr 1; funext k; exact rok_eq base k
  unfold rrightB rightB
  rw [h]
  by_cases hl : (base.length : Int) > 5000
  · rw [decide_eq_true hl, if_pos rfl, decide_eq_false (by omega), Bool.and_false]
  · rw [decide_eq_false hl, if_neg (by simp), decide_eq_true (by omega), Bool.and_true]
theorem rput_eq (base : List Fact) (f : Fact) : rputOf base f = putOf base f := by
  unfold rputOf putOf
  rw [rright_eq, rvalid_eq]
  cases hr : rightB base with
  | false => simp
  | true =>
    have hl := right_len base hr
    cases hv : validB f with
    | false => simp
    | true =>
      simp only [Bool.not_true, Bool.or_self, Bool.false_eq_true, if_false]
      by_cases h0 : (base.length : Int) > 0
      · have e1 : (max ((base.length : Int) - 1) 0).toNat = ((base.length : Int) - 1).toNat := by omega
        have e2 : decide ((base.length : Int) ≥ 5000) = decide ((base.length : Int) = 5000) := by rw [decide_eq_decide]; omega
        rw [e1, e2]
      · have e2 : decide ((base.length : Int) ≥ 5000) = decide ((base.length : Int) = 5000) := by rw [decide_eq_decide]; omega
        simp only [decide_eq_false h0, Bool.false_and, Bool.false_eq_true, if_false, e2]
theorem has_hit {base : List Fact} {day : Int} (hd : day ≤ 1073741824) (i : Int) : hasB (base.getD i.toNat default) day = hitB base day i := by
  unfold hasB hitB endOf
  rw [Bool.eq_iff_iff]
  split
  · rename_i h; simp only [Bool.and_eq_true, Bool.or_eq_true, decide_eq_true_eq]; omega
  · rename_i h; simp only [Bool.and_eq_true, Bool.or_eq_true, decide_eq_true_eq]; omega
theorem rc_to (base : List Fact) (key : List UInt8) (day known : Int) (hd : day ≤ 1073741824) : ∀ n, rcTo base key day known n = ((lastFrom base key known n).find? (hitB base day)).getD (-1)
  | 0 => rfl
  | n + 1 => by
    have ih := rc_to base key day known hd n
    have hh := has_hit (base := base) hd (n : Int)
    simp only [Int.toNat_natCast] at hh
    have hc : condB base key known (n : Int) = (decide ((base.getD n default).key = key) && decide ((base.getD n default).known ≤ known)) := by simp only [condB, Int.toNat_natCast]
    simp only [rcTo, lastFrom, ← hc, hh]
    cases condB base key known n
    · simpa using ih
    · simp only [Bool.true_and, if_true, List.find?_cons]
      cases hitB base day n
      · simpa using ih
      · simp
theorem rc_eq (base : List Fact) (key : List UInt8) (day known : Int) (hd : day ≤ 1073741824) : rcountsOf base key day known = countsOf base key day known := rc_to base key day known hd _
theorem rat_eq (base : List Fact) (key : List UInt8) (day known : Int) : ratOf base key day known = atOf base key day known := by
  unfold ratOf atOf
  rw [rright_eq]
  by_cases h1 : day < 0
  · simp [h1]
  · by_cases h2 : day > 1073741824
    · simp [h2]
    · rw [rc_eq base key day known (by omega)]
      simp [h1, h2]
end Go.Proofs.Ytnnieebmbepjpaa
