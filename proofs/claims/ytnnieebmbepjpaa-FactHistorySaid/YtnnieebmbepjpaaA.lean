/- walks -/
import Derived.Test.YtnnieebmbepjpaaProg
import Derived.Test.YtnnieebmbepjpaaEng
import Derived.KernelRfl
set_option linter.all false
namespace Go.Proofs.Ytnnieebmbepjpaa
open Go Go.Eng
section
theorem Try.mixed : Try.prog.follows .mixedOrders = true := by kernel_rfl
structure Fact where
  key : List UInt8
  value : Int
  from_ : Int
  until_ : Int
  known : Int
  deriving Inhabited, DecidableEq
def encFact (f : Fact) : List Value := [str f.key, i64 f.value, i64 f.from_, i64 f.until_, i64 f.known]
abbrev aggFact (f : Fact) : Value := .agg #[str f.key, i64 f.value, i64 f.from_, i64 f.until_, i64 f.known]
def endOf (f : Fact) : Int := if f.until_ = 0 then 1073741825 else f.until_
def validB (f : Fact) : Bool := ((((!decide (f.key = [])) && decide ((f.key.length : Int) ≤ 20)) && decide (min f.from_ f.known ≥ 0)) && decide (max (max f.from_ f.until_) f.known ≤ 1073741824)) && (decide (f.until_ = 0) || decide (f.until_ > f.from_))
def rvalidB (f : Fact) : Bool := if (((((decide ((f.key.length : Int) < 1) || decide ((f.key.length : Int) > 20)) || decide (f.from_ < 0)) || decide (f.from_ > 1073741824)) || decide (f.known < 0)) || decide (f.known > 1073741824)) then false else (decide (f.until_ = 0) || (decide (f.until_ > f.from_) && decide (f.until_ ≤ 1073741824)))
def okAt (base : List Fact) (k : Nat) : Bool := !((!validB (base.getD k default)) || (decide ((k : Int) > 0) && decide ((base.getD k default).known < (base.getD ((k : Int) - 1).toNat default).known)))
def rightB (base : List Fact) : Bool := (List.range base.length).all (okAt base) && decide ((base.length : Int) ≤ 5000)
theorem all_no {n k : Nat} {p : Nat → Bool} (hk : k < n) (hp : p k = false) : (List.range n).all p = false := by
  rw [List.all_eq_false]
  exact ⟨k, List.mem_range.2 hk, by simp [hp]⟩
theorem right_no (base : List Fact) (k : Nat) (hk : k < base.length) (h : okAt base k = false) : rightB base = false := by
  unfold rightB; rw [all_no hk h]; rfl
def condB (base : List Fact) (key : List UInt8) (known : Int) (i : Int) : Bool := decide ((base.getD i.toNat default).key = key) && decide ((base.getD i.toNat default).known ≤ known)
def lastFrom (base : List Fact) (key : List UInt8) (known : Int) : Nat → List Int
  | 0 => []
  | n + 1 => if condB base key known n then (n : Int) :: lastFrom base key known n else lastFrom base key known n
def lastIdx (base : List Fact) (key : List UInt8) (known : Int) : List Int := lastFrom base key known base.length
theorem lastFrom_step (base : List Fact) (key : List UInt8) (known : Int) (n : Nat) (h : 1 ≤ n) : lastFrom base key known n = if condB base key known ((n : Int) - 1) then ((n : Int) - 1) :: lastFrom base key known (n - 1) else lastFrom base key known (n - 1) := by
  obtain ⟨m, rfl⟩ : ∃ m, n = m + 1 := ⟨n - 1, by omega⟩
  have e : ((m + 1 : Nat) : Int) - 1 = (m : Int) := by omega
  rw [e]; rfl
theorem last_prefix (base : List Fact) (key : List UInt8) (known : Int) (n : Nat) (pre : List Int) (h : 1 ≤ n) (hp : pre ++ lastFrom base key known n = lastIdx base key known) (hc : condB base key known ((n : Int) - 1) = true) :
    pre ++ [(n : Int) - 1] <+: lastIdx base key known := by
  rw [← hp, lastFrom_step base key known n h, hc]
  exact ⟨lastFrom base key known (n - 1), by simp⟩
theorem lastIdx_mem (base : List Fact) (key : List UInt8) (known i : Int) (h : i ∈ lastIdx base key known) : 0 ≤ i ∧ i.toNat < base.length := by
  have key' : ∀ n, i ∈ lastFrom base key known n → 0 ≤ i ∧ i.toNat < n := by
    intro n
    induction n with
    | zero => intro h; simp [lastFrom] at h
    | succ n ih =>
      intro h
      simp only [lastFrom] at h
      split at h
      · rcases List.mem_cons.1 h with rfl | h
        · omega
        · have := ih h; omega
      · have := ih h; omega
  exact key' _ h
def hitB (base : List Fact) (day i : Int) : Bool := decide ((base.getD i.toNat default).from_ ≤ day) && decide (day < endOf (base.getD i.toNat default))
def countsOf (base : List Fact) (key : List UInt8) (day known : Int) : Int := ((lastIdx base key known).find? (hitB base day)).getD (-1)
theorem counts_hit {base : List Fact} {key : List UInt8} {day known i : Int} {pre : List Int} (hp : pre ++ [i] <+: lastIdx base key known) (hno : ∀ j ∈ pre, hitB base day j = false) (hyes : hitB base day i = true) : countsOf base key day known = i := by
  obtain ⟨t, ht⟩ := hp
  unfold countsOf
  rw [← ht, List.append_assoc, List.find?_append, List.find?_eq_none.2 (fun x hx => by simp [hno x hx])]
  simp [hyes]
theorem counts_none {base : List Fact} {key : List UInt8} {day known : Int} (hno : ∀ j ∈ lastIdx base key known, hitB base day j = false) : countsOf base key day known = -1 := by
  unfold countsOf
  rw [List.find?_eq_none.2 (fun x hx => by simp [hno x hx])]; rfl
def NeedLast (b1 b2 b3 : Nat) (vb : Value) (base : List Fact) (key : List UInt8) (known : Int) (W : World) : Prop :=
  W.cell? ⟨b1, 0, none⟩ = some vb ∧ W.cell? ⟨b2, 0, none⟩ = some (str key) ∧ W.cell? ⟨b3, 0, none⟩ = some (i64 known) ∧ Rd W encFact 5 vb base
theorem find_getD_lt {p : Int → Bool} {l : List Int} {n : Nat} (h : ∀ i ∈ l, 0 ≤ i ∧ i.toNat < n) (h0 : 0 ≤ (l.find? p).getD (-1)) : ((l.find? p).getD (-1)).toNat < n := by
  cases hf : l.find? p with
  | none => rw [hf] at h0; simp at h0
  | some i => simpa using (h i (List.mem_of_find?_eq_some hf)).2
theorem countsOf_lt (base : List Fact) (key : List UInt8) (day known : Int) (h : 0 ≤ countsOf base key day known) : (countsOf base key day known).toNat < base.length :=
  find_getD_lt (fun i hi => lastIdx_mem base key known i hi) h
def atOf (base : List Fact) (key : List UInt8) (day known : Int) : Int × Bool :=
  if (decide (day < 0) || decide (day > 1073741824)) || !rightB base then (0, false) else if decide (countsOf base key day known < 0) then (0, false) else ((base.getD (countsOf base key day known).toNat default).value, true)
def rokAt (base : List Fact) (k : Nat) : Bool := !((!rvalidB (base.getD k default)) || (decide ((k : Int) > 0) && decide ((base.getD k default).known < (base.getD ((k : Int) - 1).toNat default).known)))
def rrightB (base : List Fact) : Bool := if decide ((base.length : Int) > 5000) then false else (List.range base.length).all (rokAt base)
theorem rright_no (base : List Fact) (k : Nat) (hk : k < base.length) (h : rokAt base k = false) : rrightB base = false := by
  unfold rrightB; rw [all_no hk h]; split <;> rfl
def fewB (base : List Fact) : Bool := (List.range base.length).all (fun k => !decide (((base.getD k default).key.length : Int) > 40)) && decide ((base.length : Int) ≤ 16)
def hasB (f : Fact) (day : Int) : Bool := (decide (f.from_ ≤ day) && decide (day ≤ 1073741824)) && (decide (f.until_ = 0) || decide (day < f.until_))
def rcTo (base : List Fact) (key : List UInt8) (day known : Int) : Nat → Int
  | 0 => -1
  | k + 1 => if ((decide ((base.getD k default).key = key) && decide ((base.getD k default).known ≤ known)) && hasB (base.getD k default) day) then (k : Int) else rcTo base key day known k
def rcountsOf (base : List Fact) (key : List UInt8) (day known : Int) : Int := rcTo base key day known base.length
theorem rcTo_lt (base : List Fact) (key : List UInt8) (day known : Int) : ∀ k, 0 ≤ rcTo base key day known k → (rcTo base key day known k).toNat < k
  | 0, h => by simp [rcTo] at h
  | k + 1, h => by
    simp only [rcTo] at h ⊢
    split
    · simp
    · rename_i hc; rw [if_neg hc] at h; have := rcTo_lt base key day known k h; omega
theorem rcountsOf_lt (base : List Fact) (key : List UInt8) (day known : Int) (h : 0 ≤ rcountsOf base key day known) : (rcountsOf base key day known).toNat < base.length := rcTo_lt _ _ _ _ _ h
def ratOf (base : List Fact) (key : List UInt8) (day known : Int) : Int × Bool :=
  if ((!rrightB base) || decide (day < 0)) || decide (day > 1073741824) then (0, false) else if decide (rcountsOf base key day known < 0) then (0, false) else ((base.getD (rcountsOf base key day known).toNat default).value, true)
def nextTo (base : List Fact) (day : Int) : Nat → Int
  | 0 => 1073741825
  | k + 1 =>
    let a := if decide ((base.getD k default).from_ > day) then min (nextTo base day k) (base.getD k default).from_ else nextTo base day k
    if decide ((base.getD k default).until_ > day) then min a (base.getD k default).until_ else a
def nextOf (base : List Fact) (day : Int) : Int := nextTo base day base.length
theorem fd24_3 : FieldT Try.prog 24 3 3 := field_of (by kernel_rfl)
theorem sc3 : Scal Try.prog 3 := scal_of (by kernel_rfl)
theorem fd24_0 : FieldT Try.prog 24 0 0 := field_of (by kernel_rfl)
theorem fd24_2 : FieldT Try.prog 24 2 2 := field_of (by kernel_rfl)
theorem fd24_4 : FieldT Try.prog 24 4 4 := field_of (by kernel_rfl)
theorem sc9 : Scal Try.prog 9 := scal_of (by kernel_rfl)
theorem sl22 : IsSliceT Try.prog 22 24 5 := slice_of (by kernel_rfl)
theorem ag24 : AggT Try.prog 24 5 := agg_of (by kernel_rfl)
theorem ze24 : ZeroT Try.prog 24 [str ([]), i64 0, i64 0, i64 0, i64 0] := zero_of (z := .agg #[str ([]), i64 0, i64 0, i64 0, i64 0]) (by kernel_rfl) rfl
theorem hb25 : hasBody Try.prog 25 := body_of (by kernel_rfl)
theorem sc22 : Scal Try.prog 22 := scal_of (by kernel_rfl)
theorem ze3 : ZeroT Try.prog 3 [i64 0] := zero_of (z := i64 0) (by kernel_rfl) rfl
theorem hb34 : hasBody Try.prog 34 := body_of (by kernel_rfl)
theorem hb40 : hasBody Try.prog 40 := body_of (by kernel_rfl)
theorem hb35 : hasBody Try.prog 35 := body_of (by kernel_rfl)
theorem hb15 : hasBody Try.prog 15 := body_of (by kernel_rfl)
theorem hb28 : hasBody Try.prog 28 := body_of (by kernel_rfl)
theorem fd24_1 : FieldT Try.prog 24 1 1 := field_of (by kernel_rfl)
theorem hb27 : hasBody Try.prog 27 := body_of (by kernel_rfl)
theorem hb23 : hasBody Try.prog 23 := body_of (by kernel_rfl)
theorem hb16 : hasBody Try.prog 16 := body_of (by kernel_rfl)
theorem hb29 : hasBody Try.prog 29 := body_of (by kernel_rfl)
theorem end_is (f : Fact) (w : World)  : FnIs Try.prog 35 [aggFact f] w (i64 (endOf f)) := by
  refine fn_of_wp (N := 8) Try.func35 rfl rfl rfl ?_
  intro S
  refine w_seq ?_
  refine w_region ?_
  refine ops_box [str f.key, i64 f.value, i64 f.from_, i64 f.until_, i64 f.known] S rfl rfl rfl ?_
  clear S; intro b1 w1 S
  refine ops_val 2 (i64 0) rfl rfl rfl rfl (run_pv rfl) ?_
  refine ops_nil ?_
  refine nrm_then ?_
  refine w_seq ?_
  refine w_seq ?_
  refine w_region ?_
  refine ops_val 3 (.pointer (some ⟨b1, 3, none⟩)) rfl rfl rfl rfl (run_fieldAddr_blk fd24_3 rfl rfl) ?_
  refine ops_val 4 (i64 f.until_) rfl rfl rfl rfl (run_load_scal sc3 rfl (St.cell S (n := 0) rfl rfl)) ?_
  refine ops_val 5 (.bool (decide (f.until_ = 0))) rfl rfl rfl rfl (run_pv rfl) ?_
  refine ops_nil ?_
  refine nrm_then ?_
  refine w_cond (decide (f.until_ = 0)) rfl (fun h1 => ?_) (fun h1 => ?_)
  · have p1 := h1; try simp only [decide_eq_true_eq, decide_eq_false_iff_not, Bool.and_eq_true, Bool.or_eq_true, Bool.not_eq_true', Bool.or_eq_false_iff, Bool.not_eq_false', Int.not_lt, Int.not_le, gt_iff_lt, ge_iff_le, Decidable.not_not] at p1
    refine w_seq ?_
    refine w_region ?_
    refine ops_val 2 (i64 1073741825) rfl rfl rfl rfl (run_pv rfl) ?_
    refine ops_nil ?_
    refine nrm_then ?_
    refine w_ret ?_
    refine ret_then ?_
    refine fin1 (v := i64 1073741825) rfl S rfl ?_
    first | rfl | (simp only [endOf, h1, Bool.true_and, Bool.false_and, Bool.and_true, Bool.and_false, Bool.true_or, Bool.false_or, Bool.or_true, Bool.or_false, Bool.not_true, Bool.not_false, reduceIte, Bool.false_eq_true]; done) | (simp [endOf, p1]; done) | (simp_all; done)
  · have p1 := h1; try simp only [decide_eq_true_eq, decide_eq_false_iff_not, Bool.and_eq_true, Bool.or_eq_true, Bool.not_eq_true', Bool.or_eq_false_iff, Bool.not_eq_false', Int.not_lt, Int.not_le, gt_iff_lt, ge_iff_le, Decidable.not_not] at p1
    refine w_skip ?_
    refine nrm_then ?_
    refine w_seq ?_
    refine w_region ?_
    refine ops_val 6 (.pointer (some ⟨b1, 3, none⟩)) rfl rfl rfl rfl (run_fieldAddr_blk fd24_3 rfl rfl) ?_
    refine ops_val 7 (i64 f.until_) rfl rfl rfl rfl (run_load_scal sc3 rfl (St.cell S (n := 0) rfl rfl)) ?_
    refine ops_val 2 (i64 f.until_) rfl rfl rfl rfl (run_pv rfl) ?_
    refine ops_nil ?_
    refine nrm_then ?_
    refine w_ret ?_
    refine fin1 (v := i64 f.until_) rfl S rfl ?_
    first | rfl | (simp only [endOf, h1, Bool.true_and, Bool.false_and, Bool.and_true, Bool.and_false, Bool.true_or, Bool.false_or, Bool.or_true, Bool.or_false, Bool.not_true, Bool.not_false, reduceIte, Bool.false_eq_true]; done) | (simp [endOf, p1]; done) | (simp_all; done)
theorem valid_is (f : Fact) (w : World)  : FnIs Try.prog 25 [aggFact f] w (.bool (validB f)) := by
  refine fn_of_wp (N := 42) Try.func25 rfl rfl rfl ?_
  intro S
  refine w_seq ?_
  refine w_region ?_
  refine ops_box [str f.key, i64 f.value, i64 f.from_, i64 f.until_, i64 f.known] S rfl rfl rfl ?_
  clear S; intro b1 w1 S
  refine ops_val 2 (.bool false) rfl rfl rfl rfl (run_pv rfl) ?_
  refine ops_nil ?_
  refine nrm_then ?_
  refine w_seq ?_
  refine w_cut [(2, .bool (((((!decide (f.key = [])) && (decide ((f.key.length : Int) ≤ 20))) && (decide ((min f.from_ f.known) ≥ 0))) && (decide ((max (max f.from_ f.until_) f.known) ≤ 1073741824))) && ((decide (f.until_ = 0)) || (decide (f.until_ > f.from_)))))] (fun w' => Eng.St w [.blk b1 [str f.key, i64 f.value, i64 f.from_, i64 f.until_, i64 f.known] 24] w') ?_ ?_
  · refine w_region ?_
    refine ops_val 3 (.pointer (some ⟨b1, 0, none⟩)) rfl rfl rfl rfl (run_fieldAddr_blk fd24_0 rfl rfl) ?_
    refine ops_val 4 (str f.key) rfl rfl rfl rfl (run_load_scal sc9 rfl (St.cell S (n := 0) rfl rfl)) ?_
    refine ops_val 5 (.bool (!decide (f.key = []))) rfl rfl rfl rfl (run_pv rfl) ?_
    refine ops_val 6 (.bool (!decide (f.key = []))) rfl rfl rfl rfl (run_pv rfl) ?_
    refine ops_case 6 (!decide (f.key = [])) rfl (fun h1 => ?_) (fun h1 => ?_)
    · have p1 := h1; try simp only [decide_eq_true_eq, decide_eq_false_iff_not, Bool.and_eq_true, Bool.or_eq_true, Bool.not_eq_true', Bool.or_eq_false_iff, Bool.not_eq_false', Int.not_lt, Int.not_le, gt_iff_lt, ge_iff_le, Decidable.not_not] at p1
      refine ops_val 7 (.pointer (some ⟨b1, 0, none⟩)) rfl rfl rfl rfl (run_fieldAddr_blk fd24_0 rfl rfl) ?_
      refine ops_val 8 (str f.key) rfl rfl rfl rfl (run_load_scal sc9 rfl (St.cell S (n := 0) rfl rfl)) ?_
      refine ops_val 9 (i64 (f.key.length : Int)) rfl rfl rfl rfl (run_len_str Try.underlying9 rfl) ?_
      refine ops_val 10 (.bool (decide ((f.key.length : Int) ≤ 20))) rfl rfl rfl rfl (run_pv rfl) ?_
      refine ops_val 11 (.bool (decide ((f.key.length : Int) ≤ 20))) rfl rfl rfl rfl (run_pv rfl) ?_
      refine ops_val 12 (.bool (decide ((f.key.length : Int) ≤ 20))) rfl rfl rfl rfl (run_pv rfl) ?_
      refine ops_case 12 (decide ((f.key.length : Int) ≤ 20)) rfl (fun h2 => ?_) (fun h2 => ?_)
      · have p2 := h2; try simp only [decide_eq_true_eq, decide_eq_false_iff_not, Bool.and_eq_true, Bool.or_eq_true, Bool.not_eq_true', Bool.or_eq_false_iff, Bool.not_eq_false', Int.not_lt, Int.not_le, gt_iff_lt, ge_iff_le, Decidable.not_not] at p2
        refine ops_val 13 (.pointer (some ⟨b1, 2, none⟩)) rfl rfl rfl rfl (run_fieldAddr_blk fd24_2 rfl rfl) ?_
        refine ops_val 14 (i64 f.from_) rfl rfl rfl rfl (run_load_scal sc3 rfl (St.cell S (n := 0) rfl rfl)) ?_
        refine ops_val 15 (.pointer (some ⟨b1, 4, none⟩)) rfl rfl rfl rfl (run_fieldAddr_blk fd24_4 rfl rfl) ?_
        refine ops_val 16 (i64 f.known) rfl rfl rfl rfl (run_load_scal sc3 rfl (St.cell S (n := 0) rfl rfl)) ?_
        refine ops_val 17 (i64 (min f.from_ f.known)) rfl rfl rfl rfl (run_min2 rfl rfl) ?_
        refine ops_val 18 (.bool (decide ((min f.from_ f.known) ≥ 0))) rfl rfl rfl rfl (run_pv rfl) ?_
        refine ops_val 19 (.bool (decide ((min f.from_ f.known) ≥ 0))) rfl rfl rfl rfl (run_pv rfl) ?_
        refine ops_val 20 (.bool (decide ((min f.from_ f.known) ≥ 0))) rfl rfl rfl rfl (run_pv rfl) ?_
        refine ops_case 20 (decide ((min f.from_ f.known) ≥ 0)) rfl (fun h3 => ?_) (fun h3 => ?_)
        · have p3 := h3; try simp only [decide_eq_true_eq, decide_eq_false_iff_not, Bool.and_eq_true, Bool.or_eq_true, Bool.not_eq_true', Bool.or_eq_false_iff, Bool.not_eq_false', Int.not_lt, Int.not_le, gt_iff_lt, ge_iff_le, Decidable.not_not] at p3
          refine ops_val 21 (.pointer (some ⟨b1, 2, none⟩)) rfl rfl rfl rfl (run_fieldAddr_blk fd24_2 rfl rfl) ?_
          refine ops_val 22 (i64 f.from_) rfl rfl rfl rfl (run_load_scal sc3 rfl (St.cell S (n := 0) rfl rfl)) ?_
          refine ops_val 23 (.pointer (some ⟨b1, 3, none⟩)) rfl rfl rfl rfl (run_fieldAddr_blk fd24_3 rfl rfl) ?_
          refine ops_val 24 (i64 f.until_) rfl rfl rfl rfl (run_load_scal sc3 rfl (St.cell S (n := 0) rfl rfl)) ?_
          refine ops_val 25 (.pointer (some ⟨b1, 4, none⟩)) rfl rfl rfl rfl (run_fieldAddr_blk fd24_4 rfl rfl) ?_
          refine ops_val 26 (i64 f.known) rfl rfl rfl rfl (run_load_scal sc3 rfl (St.cell S (n := 0) rfl rfl)) ?_
          refine ops_val 27 (i64 (max (max f.from_ f.until_) f.known)) rfl rfl rfl rfl (run_max3 rfl rfl rfl) ?_
          refine ops_val 28 (.bool (decide ((max (max f.from_ f.until_) f.known) ≤ 1073741824))) rfl rfl rfl rfl (run_pv rfl) ?_
          refine ops_val 29 (.bool (decide ((max (max f.from_ f.until_) f.known) ≤ 1073741824))) rfl rfl rfl rfl (run_pv rfl) ?_
          refine ops_val 30 (.bool (decide ((max (max f.from_ f.until_) f.known) ≤ 1073741824))) rfl rfl rfl rfl (run_pv rfl) ?_
          refine ops_case 30 (decide ((max (max f.from_ f.until_) f.known) ≤ 1073741824)) rfl (fun h4 => ?_) (fun h4 => ?_)
          · have p4 := h4; try simp only [decide_eq_true_eq, decide_eq_false_iff_not, Bool.and_eq_true, Bool.or_eq_true, Bool.not_eq_true', Bool.or_eq_false_iff, Bool.not_eq_false', Int.not_lt, Int.not_le, gt_iff_lt, ge_iff_le, Decidable.not_not] at p4
            refine ops_val 31 (.pointer (some ⟨b1, 3, none⟩)) rfl rfl rfl rfl (run_fieldAddr_blk fd24_3 rfl rfl) ?_
            refine ops_val 32 (i64 f.until_) rfl rfl rfl rfl (run_load_scal sc3 rfl (St.cell S (n := 0) rfl rfl)) ?_
            refine ops_val 33 (.bool (decide (f.until_ = 0))) rfl rfl rfl rfl (run_pv rfl) ?_
            refine ops_val 34 (.bool (decide (f.until_ = 0))) rfl rfl rfl rfl (run_pv rfl) ?_
            refine ops_case 34 (decide (f.until_ = 0)) rfl (fun h5 => ?_) (fun h5 => ?_)
            · have p5 := h5; try simp only [decide_eq_true_eq, decide_eq_false_iff_not, Bool.and_eq_true, Bool.or_eq_true, Bool.not_eq_true', Bool.or_eq_false_iff, Bool.not_eq_false', Int.not_lt, Int.not_le, gt_iff_lt, ge_iff_le, Decidable.not_not] at p5
              refine ops_skip 35 rfl rfl rfl ?_
              refine ops_skip 36 rfl rfl rfl ?_
              refine ops_skip 37 rfl rfl rfl ?_
              refine ops_skip 38 rfl rfl rfl ?_
              refine ops_skip 39 rfl rfl rfl ?_
              refine ops_val 40 (.bool true) rfl rfl rfl rfl (run_pv rfl) ?_
              refine ops_val 41 (.bool true) rfl rfl rfl rfl (run_pv rfl) ?_
              refine ops_val 2 (.bool true) rfl rfl rfl rfl (run_pv rfl) ?_
              refine ops_nil ?_
              refine nrm_then ?_
              exact ⟨⟨congrArg Value.bool (by simp only [h1, h2, h3, h4, h5, Bool.true_and, Bool.false_and, Bool.and_true, Bool.and_false, Bool.true_or, Bool.false_or, Bool.or_true, Bool.or_false, Bool.not_true, Bool.not_false]), trivial⟩, rfl, S⟩
            · have p5 := h5; try simp only [decide_eq_true_eq, decide_eq_false_iff_not, Bool.and_eq_true, Bool.or_eq_true, Bool.not_eq_true', Bool.or_eq_false_iff, Bool.not_eq_false', Int.not_lt, Int.not_le, gt_iff_lt, ge_iff_le, Decidable.not_not] at p5
              refine ops_val 35 (.pointer (some ⟨b1, 3, none⟩)) rfl rfl rfl rfl (run_fieldAddr_blk fd24_3 rfl rfl) ?_
              refine ops_val 36 (i64 f.until_) rfl rfl rfl rfl (run_load_scal sc3 rfl (St.cell S (n := 0) rfl rfl)) ?_
              refine ops_val 37 (.pointer (some ⟨b1, 2, none⟩)) rfl rfl rfl rfl (run_fieldAddr_blk fd24_2 rfl rfl) ?_
              refine ops_val 38 (i64 f.from_) rfl rfl rfl rfl (run_load_scal sc3 rfl (St.cell S (n := 0) rfl rfl)) ?_
              refine ops_val 39 (.bool (decide (f.until_ > f.from_))) rfl rfl rfl rfl (run_pv rfl) ?_
              refine ops_val 40 (.bool (decide (f.until_ > f.from_))) rfl rfl rfl rfl (run_pv rfl) ?_
              refine ops_val 41 (.bool (decide (f.until_ > f.from_))) rfl rfl rfl rfl (run_pv rfl) ?_
              refine ops_val 2 (.bool (decide (f.until_ > f.from_))) rfl rfl rfl rfl (run_pv rfl) ?_
              refine ops_nil ?_
              refine nrm_then ?_
              exact ⟨⟨congrArg Value.bool (by simp only [h1, h2, h3, h4, h5, Bool.true_and, Bool.false_and, Bool.and_true, Bool.and_false, Bool.true_or, Bool.false_or, Bool.or_true, Bool.or_false, Bool.not_true, Bool.not_false]), trivial⟩, rfl, S⟩
          · have p4 := h4; try simp only [decide_eq_true_eq, decide_eq_false_iff_not, Bool.and_eq_true, Bool.or_eq_true, Bool.not_eq_true', Bool.or_eq_false_iff, Bool.not_eq_false', Int.not_lt, Int.not_le, gt_iff_lt, ge_iff_le, Decidable.not_not] at p4
            refine ops_skip 31 rfl rfl rfl ?_
            refine ops_skip 32 rfl rfl rfl ?_
            refine ops_skip 33 rfl rfl rfl ?_
            refine ops_skip 34 rfl rfl rfl ?_
            refine ops_skip 35 rfl rfl rfl ?_
            refine ops_skip 36 rfl rfl rfl ?_
            refine ops_skip 37 rfl rfl rfl ?_
            refine ops_skip 38 rfl rfl rfl ?_
            refine ops_skip 39 rfl rfl rfl ?_
            refine ops_skip 40 rfl rfl rfl ?_
            refine ops_val 41 (.bool false) rfl rfl rfl rfl (run_pv rfl) ?_
            refine ops_val 2 (.bool false) rfl rfl rfl rfl (run_pv rfl) ?_
            refine ops_nil ?_
            refine nrm_then ?_
            exact ⟨⟨congrArg Value.bool (by simp only [h1, h2, h3, h4, Bool.true_and, Bool.false_and, Bool.and_true, Bool.and_false, Bool.true_or, Bool.false_or, Bool.or_true, Bool.or_false, Bool.not_true, Bool.not_false]), trivial⟩, rfl, S⟩
        · have p3 := h3; try simp only [decide_eq_true_eq, decide_eq_false_iff_not, Bool.and_eq_true, Bool.or_eq_true, Bool.not_eq_true', Bool.or_eq_false_iff, Bool.not_eq_false', Int.not_lt, Int.not_le, gt_iff_lt, ge_iff_le, Decidable.not_not] at p3
          refine ops_skip 21 rfl rfl rfl ?_
          refine ops_skip 22 rfl rfl rfl ?_
          refine ops_skip 23 rfl rfl rfl ?_
          refine ops_skip 24 rfl rfl rfl ?_
          refine ops_skip 25 rfl rfl rfl ?_
          refine ops_skip 26 rfl rfl rfl ?_
          refine ops_skip 27 rfl rfl rfl ?_
          refine ops_skip 28 rfl rfl rfl ?_
          refine ops_val 29 (.bool false) rfl rfl rfl rfl (run_pv rfl) ?_
          refine ops_val 30 (.bool false) rfl rfl rfl rfl (run_pv rfl) ?_
          refine ops_skip 31 rfl rfl rfl ?_
          refine ops_skip 32 rfl rfl rfl ?_
          refine ops_skip 33 rfl rfl rfl ?_
          refine ops_skip 34 rfl rfl rfl ?_
          refine ops_skip 35 rfl rfl rfl ?_
          refine ops_skip 36 rfl rfl rfl ?_
          refine ops_skip 37 rfl rfl rfl ?_
          refine ops_skip 38 rfl rfl rfl ?_
          refine ops_skip 39 rfl rfl rfl ?_
          refine ops_skip 40 rfl rfl rfl ?_
          refine ops_val 41 (.bool false) rfl rfl rfl rfl (run_pv rfl) ?_
          refine ops_val 2 (.bool false) rfl rfl rfl rfl (run_pv rfl) ?_
          refine ops_nil ?_
          refine nrm_then ?_
          exact ⟨⟨congrArg Value.bool (by simp only [h1, h2, h3, Bool.true_and, Bool.false_and, Bool.and_true, Bool.and_false, Bool.true_or, Bool.false_or, Bool.or_true, Bool.or_false, Bool.not_true, Bool.not_false]), trivial⟩, rfl, S⟩
      · have p2 := h2; try simp only [decide_eq_true_eq, decide_eq_false_iff_not, Bool.and_eq_true, Bool.or_eq_true, Bool.not_eq_true', Bool.or_eq_false_iff, Bool.not_eq_false', Int.not_lt, Int.not_le, gt_iff_lt, ge_iff_le, Decidable.not_not] at p2
        refine ops_skip 13 rfl rfl rfl ?_
        refine ops_skip 14 rfl rfl rfl ?_
        refine ops_skip 15 rfl rfl rfl ?_
        refine ops_skip 16 rfl rfl rfl ?_
        refine ops_skip 17 rfl rfl rfl ?_
        refine ops_skip 18 rfl rfl rfl ?_
        refine ops_val 19 (.bool false) rfl rfl rfl rfl (run_pv rfl) ?_
        refine ops_val 20 (.bool false) rfl rfl rfl rfl (run_pv rfl) ?_
        refine ops_skip 21 rfl rfl rfl ?_
        refine ops_skip 22 rfl rfl rfl ?_
        refine ops_skip 23 rfl rfl rfl ?_
        refine ops_skip 24 rfl rfl rfl ?_
        refine ops_skip 25 rfl rfl rfl ?_
        refine ops_skip 26 rfl rfl rfl ?_
        refine ops_skip 27 rfl rfl rfl ?_
        refine ops_skip 28 rfl rfl rfl ?_
        refine ops_val 29 (.bool false) rfl rfl rfl rfl (run_pv rfl) ?_
        refine ops_val 30 (.bool false) rfl rfl rfl rfl (run_pv rfl) ?_
        refine ops_skip 31 rfl rfl rfl ?_
        refine ops_skip 32 rfl rfl rfl ?_
        refine ops_skip 33 rfl rfl rfl ?_
        refine ops_skip 34 rfl rfl rfl ?_
        refine ops_skip 35 rfl rfl rfl ?_
        refine ops_skip 36 rfl rfl rfl ?_
        refine ops_skip 37 rfl rfl rfl ?_
        refine ops_skip 38 rfl rfl rfl ?_
        refine ops_skip 39 rfl rfl rfl ?_
        refine ops_skip 40 rfl rfl rfl ?_
        refine ops_val 41 (.bool false) rfl rfl rfl rfl (run_pv rfl) ?_
        refine ops_val 2 (.bool false) rfl rfl rfl rfl (run_pv rfl) ?_
        refine ops_nil ?_
        refine nrm_then ?_
        exact ⟨⟨congrArg Value.bool (by simp only [h1, h2, Bool.true_and, Bool.false_and, Bool.and_true, Bool.and_false, Bool.true_or, Bool.false_or, Bool.or_true, Bool.or_false, Bool.not_true, Bool.not_false]), trivial⟩, rfl, S⟩
    · have p1 := h1; try simp only [decide_eq_true_eq, decide_eq_false_iff_not, Bool.and_eq_true, Bool.or_eq_true, Bool.not_eq_true', Bool.or_eq_false_iff, Bool.not_eq_false', Int.not_lt, Int.not_le, gt_iff_lt, ge_iff_le, Decidable.not_not] at p1
      refine ops_skip 7 rfl rfl rfl ?_
      refine ops_skip 8 rfl rfl rfl ?_
      refine ops_skip 9 rfl rfl rfl ?_
      refine ops_skip 10 rfl rfl rfl ?_
      refine ops_val 11 (.bool false) rfl rfl rfl rfl (run_pv rfl) ?_
      refine ops_val 12 (.bool false) rfl rfl rfl rfl (run_pv rfl) ?_
      refine ops_skip 13 rfl rfl rfl ?_
      refine ops_skip 14 rfl rfl rfl ?_
      refine ops_skip 15 rfl rfl rfl ?_
      refine ops_skip 16 rfl rfl rfl ?_
      refine ops_skip 17 rfl rfl rfl ?_
      refine ops_skip 18 rfl rfl rfl ?_
      refine ops_val 19 (.bool false) rfl rfl rfl rfl (run_pv rfl) ?_
      refine ops_val 20 (.bool false) rfl rfl rfl rfl (run_pv rfl) ?_
      refine ops_skip 21 rfl rfl rfl ?_
      refine ops_skip 22 rfl rfl rfl ?_
      refine ops_skip 23 rfl rfl rfl ?_
      refine ops_skip 24 rfl rfl rfl ?_
      refine ops_skip 25 rfl rfl rfl ?_
      refine ops_skip 26 rfl rfl rfl ?_
      refine ops_skip 27 rfl rfl rfl ?_
      refine ops_skip 28 rfl rfl rfl ?_
      refine ops_val 29 (.bool false) rfl rfl rfl rfl (run_pv rfl) ?_
      refine ops_val 30 (.bool false) rfl rfl rfl rfl (run_pv rfl) ?_
      refine ops_skip 31 rfl rfl rfl ?_
      refine ops_skip 32 rfl rfl rfl ?_
      refine ops_skip 33 rfl rfl rfl ?_
      refine ops_skip 34 rfl rfl rfl ?_
      refine ops_skip 35 rfl rfl rfl ?_
      refine ops_skip 36 rfl rfl rfl ?_
      refine ops_skip 37 rfl rfl rfl ?_
      refine ops_skip 38 rfl rfl rfl ?_
      refine ops_skip 39 rfl rfl rfl ?_
      refine ops_skip 40 rfl rfl rfl ?_
      refine ops_val 41 (.bool false) rfl rfl rfl rfl (run_pv rfl) ?_
      refine ops_val 2 (.bool false) rfl rfl rfl rfl (run_pv rfl) ?_
      refine ops_nil ?_
      refine nrm_then ?_
      exact ⟨⟨congrArg Value.bool (by simp only [h1, Bool.true_and, Bool.false_and, Bool.and_true, Bool.and_false, Bool.true_or, Bool.false_or, Bool.or_true, Bool.or_false, Bool.not_true, Bool.not_false]), trivial⟩, rfl, S⟩
  · clear S; intro ρ0 w2 S
    refine nrm_then ?_
    refine w_ret ?_
    refine fin1 (v := .bool (((((!decide (f.key = [])) && (decide ((f.key.length : Int) ≤ 20))) && (decide ((min f.from_ f.known) ≥ 0))) && (decide ((max (max f.from_ f.until_) f.known) ≤ 1073741824))) && ((decide (f.until_ = 0)) || (decide (f.until_ > f.from_))))) rfl S rfl ?_
    rfl
theorem rvalid_is (f : Fact) (w : World)  : FnIs Try.prog 27 [aggFact f] w (.bool (rvalidB f)) := by
  refine fn_of_wp (N := 48) Try.func27 rfl rfl rfl ?_
  intro S
  refine w_seq ?_
  refine w_region ?_
  refine ops_box [str f.key, i64 f.value, i64 f.from_, i64 f.until_, i64 f.known] S rfl rfl rfl ?_
  clear S; intro b1 w1 S
  refine ops_val 2 (.bool false) rfl rfl rfl rfl (run_pv rfl) ?_
  refine ops_nil ?_
  refine nrm_then ?_
  refine w_seq ?_
  refine w_seq ?_
  refine w_cut [(1, .pointer (some ⟨b1, 0, none⟩)), (32, .bool ((((((decide ((f.key.length : Int) < 1)) || (decide ((f.key.length : Int) > 20))) || (decide (f.from_ < 0))) || (decide (f.from_ > 1073741824))) || (decide (f.known < 0))) || (decide (f.known > 1073741824))))] (fun w' => Eng.St w [.blk b1 [str f.key, i64 f.value, i64 f.from_, i64 f.until_, i64 f.known] 24] w') ?_ ?_
  · refine w_region ?_
    refine ops_val 3 (.pointer (some ⟨b1, 0, none⟩)) rfl rfl rfl rfl (run_fieldAddr_blk fd24_0 rfl rfl) ?_
    refine ops_val 4 (str f.key) rfl rfl rfl rfl (run_load_scal sc9 rfl (St.cell S (n := 0) rfl rfl)) ?_
    refine ops_val 5 (i64 (f.key.length : Int)) rfl rfl rfl rfl (run_len_str Try.underlying9 rfl) ?_
    refine ops_val 6 (.bool (decide ((f.key.length : Int) < 1))) rfl rfl rfl rfl (run_pv rfl) ?_
    refine ops_val 7 (.bool (decide ((f.key.length : Int) < 1))) rfl rfl rfl rfl (run_pv rfl) ?_
    refine ops_case 7 (decide ((f.key.length : Int) < 1)) rfl (fun h1 => ?_) (fun h1 => ?_)
    · have p1 := h1; try simp only [decide_eq_true_eq, decide_eq_false_iff_not, Bool.and_eq_true, Bool.or_eq_true, Bool.not_eq_true', Bool.or_eq_false_iff, Bool.not_eq_false', Int.not_lt, Int.not_le, gt_iff_lt, ge_iff_le, Decidable.not_not] at p1
      refine ops_skip 8 rfl rfl rfl ?_
      refine ops_skip 9 rfl rfl rfl ?_
      refine ops_skip 10 rfl rfl rfl ?_
      refine ops_skip 11 rfl rfl rfl ?_
      refine ops_val 12 (.bool true) rfl rfl rfl rfl (run_pv rfl) ?_
      refine ops_val 13 (.bool true) rfl rfl rfl rfl (run_pv rfl) ?_
      refine ops_skip 14 rfl rfl rfl ?_
      refine ops_skip 15 rfl rfl rfl ?_
      refine ops_skip 16 rfl rfl rfl ?_
      refine ops_val 17 (.bool true) rfl rfl rfl rfl (run_pv rfl) ?_
      refine ops_val 18 (.bool true) rfl rfl rfl rfl (run_pv rfl) ?_
      refine ops_skip 19 rfl rfl rfl ?_
      refine ops_skip 20 rfl rfl rfl ?_
      refine ops_skip 21 rfl rfl rfl ?_
      refine ops_val 22 (.bool true) rfl rfl rfl rfl (run_pv rfl) ?_
      refine ops_val 23 (.bool true) rfl rfl rfl rfl (run_pv rfl) ?_
      refine ops_skip 24 rfl rfl rfl ?_
      refine ops_skip 25 rfl rfl rfl ?_
      refine ops_skip 26 rfl rfl rfl ?_
      refine ops_val 27 (.bool true) rfl rfl rfl rfl (run_pv rfl) ?_
      refine ops_val 28 (.bool true) rfl rfl rfl rfl (run_pv rfl) ?_
      refine ops_skip 29 rfl rfl rfl ?_
      refine ops_skip 30 rfl rfl rfl ?_
      refine ops_skip 31 rfl rfl rfl ?_
      refine ops_val 32 (.bool true) rfl rfl rfl rfl (run_pv rfl) ?_
      refine ops_nil ?_
      refine nrm_then ?_
      exact ⟨⟨rfl, congrArg Value.bool (by simp only [h1, Bool.true_and, Bool.false_and, Bool.and_true, Bool.and_false, Bool.true_or, Bool.false_or, Bool.or_true, Bool.or_false, Bool.not_true, Bool.not_false]), trivial⟩, rfl, S⟩
    · have p1 := h1; try simp only [decide_eq_true_eq, decide_eq_false_iff_not, Bool.and_eq_true, Bool.or_eq_true, Bool.not_eq_true', Bool.or_eq_false_iff, Bool.not_eq_false', Int.not_lt, Int.not_le, gt_iff_lt, ge_iff_le, Decidable.not_not] at p1
      refine ops_val 8 (.pointer (some ⟨b1, 0, none⟩)) rfl rfl rfl rfl (run_fieldAddr_blk fd24_0 rfl rfl) ?_
      refine ops_val 9 (str f.key) rfl rfl rfl rfl (run_load_scal sc9 rfl (St.cell S (n := 0) rfl rfl)) ?_
      refine ops_val 10 (i64 (f.key.length : Int)) rfl rfl rfl rfl (run_len_str Try.underlying9 rfl) ?_
      refine ops_val 11 (.bool (decide ((f.key.length : Int) > 20))) rfl rfl rfl rfl (run_pv rfl) ?_
      refine ops_val 12 (.bool (decide ((f.key.length : Int) > 20))) rfl rfl rfl rfl (run_pv rfl) ?_
      refine ops_val 13 (.bool (decide ((f.key.length : Int) > 20))) rfl rfl rfl rfl (run_pv rfl) ?_
      refine ops_case 13 (decide ((f.key.length : Int) > 20)) rfl (fun h2 => ?_) (fun h2 => ?_)
      · have p2 := h2; try simp only [decide_eq_true_eq, decide_eq_false_iff_not, Bool.and_eq_true, Bool.or_eq_true, Bool.not_eq_true', Bool.or_eq_false_iff, Bool.not_eq_false', Int.not_lt, Int.not_le, gt_iff_lt, ge_iff_le, Decidable.not_not] at p2
        refine ops_skip 14 rfl rfl rfl ?_
        refine ops_skip 15 rfl rfl rfl ?_
        refine ops_skip 16 rfl rfl rfl ?_
        refine ops_val 17 (.bool true) rfl rfl rfl rfl (run_pv rfl) ?_
        refine ops_val 18 (.bool true) rfl rfl rfl rfl (run_pv rfl) ?_
        refine ops_skip 19 rfl rfl rfl ?_
        refine ops_skip 20 rfl rfl rfl ?_
        refine ops_skip 21 rfl rfl rfl ?_
        refine ops_val 22 (.bool true) rfl rfl rfl rfl (run_pv rfl) ?_
        refine ops_val 23 (.bool true) rfl rfl rfl rfl (run_pv rfl) ?_
        refine ops_skip 24 rfl rfl rfl ?_
        refine ops_skip 25 rfl rfl rfl ?_
        refine ops_skip 26 rfl rfl rfl ?_
        refine ops_val 27 (.bool true) rfl rfl rfl rfl (run_pv rfl) ?_
        refine ops_val 28 (.bool true) rfl rfl rfl rfl (run_pv rfl) ?_
        refine ops_skip 29 rfl rfl rfl ?_
        refine ops_skip 30 rfl rfl rfl ?_
        refine ops_skip 31 rfl rfl rfl ?_
        refine ops_val 32 (.bool true) rfl rfl rfl rfl (run_pv rfl) ?_
        refine ops_nil ?_
        refine nrm_then ?_
        exact ⟨⟨rfl, congrArg Value.bool (by simp only [h1, h2, Bool.true_and, Bool.false_and, Bool.and_true, Bool.and_false, Bool.true_or, Bool.false_or, Bool.or_true, Bool.or_false, Bool.not_true, Bool.not_false]), trivial⟩, rfl, S⟩
      · have p2 := h2; try simp only [decide_eq_true_eq, decide_eq_false_iff_not, Bool.and_eq_true, Bool.or_eq_true, Bool.not_eq_true', Bool.or_eq_false_iff, Bool.not_eq_false', Int.not_lt, Int.not_le, gt_iff_lt, ge_iff_le, Decidable.not_not] at p2
        refine ops_val 14 (.pointer (some ⟨b1, 2, none⟩)) rfl rfl rfl rfl (run_fieldAddr_blk fd24_2 rfl rfl) ?_
        refine ops_val 15 (i64 f.from_) rfl rfl rfl rfl (run_load_scal sc3 rfl (St.cell S (n := 0) rfl rfl)) ?_
        refine ops_val 16 (.bool (decide (f.from_ < 0))) rfl rfl rfl rfl (run_pv rfl) ?_
        refine ops_val 17 (.bool (decide (f.from_ < 0))) rfl rfl rfl rfl (run_pv rfl) ?_
        refine ops_val 18 (.bool (decide (f.from_ < 0))) rfl rfl rfl rfl (run_pv rfl) ?_
        refine ops_case 18 (decide (f.from_ < 0)) rfl (fun h3 => ?_) (fun h3 => ?_)
        · have p3 := h3; try simp only [decide_eq_true_eq, decide_eq_false_iff_not, Bool.and_eq_true, Bool.or_eq_true, Bool.not_eq_true', Bool.or_eq_false_iff, Bool.not_eq_false', Int.not_lt, Int.not_le, gt_iff_lt, ge_iff_le, Decidable.not_not] at p3
          refine ops_skip 19 rfl rfl rfl ?_
          refine ops_skip 20 rfl rfl rfl ?_
          refine ops_skip 21 rfl rfl rfl ?_
          refine ops_val 22 (.bool true) rfl rfl rfl rfl (run_pv rfl) ?_
          refine ops_val 23 (.bool true) rfl rfl rfl rfl (run_pv rfl) ?_
          refine ops_skip 24 rfl rfl rfl ?_
          refine ops_skip 25 rfl rfl rfl ?_
          refine ops_skip 26 rfl rfl rfl ?_
          refine ops_val 27 (.bool true) rfl rfl rfl rfl (run_pv rfl) ?_
          refine ops_val 28 (.bool true) rfl rfl rfl rfl (run_pv rfl) ?_
          refine ops_skip 29 rfl rfl rfl ?_
          refine ops_skip 30 rfl rfl rfl ?_
          refine ops_skip 31 rfl rfl rfl ?_
          refine ops_val 32 (.bool true) rfl rfl rfl rfl (run_pv rfl) ?_
          refine ops_nil ?_
          refine nrm_then ?_
          exact ⟨⟨rfl, congrArg Value.bool (by simp only [h1, h2, h3, Bool.true_and, Bool.false_and, Bool.and_true, Bool.and_false, Bool.true_or, Bool.false_or, Bool.or_true, Bool.or_false, Bool.not_true, Bool.not_false]), trivial⟩, rfl, S⟩
        · have p3 := h3; try simp only [decide_eq_true_eq, decide_eq_false_iff_not, Bool.and_eq_true, Bool.or_eq_true, Bool.not_eq_true', Bool.or_eq_false_iff, Bool.not_eq_false', Int.not_lt, Int.not_le, gt_iff_lt, ge_iff_le, Decidable.not_not] at p3
          refine ops_val 19 (.pointer (some ⟨b1, 2, none⟩)) rfl rfl rfl rfl (run_fieldAddr_blk fd24_2 rfl rfl) ?_
          refine ops_val 20 (i64 f.from_) rfl rfl rfl rfl (run_load_scal sc3 rfl (St.cell S (n := 0) rfl rfl)) ?_
          refine ops_val 21 (.bool (decide (f.from_ > 1073741824))) rfl rfl rfl rfl (run_pv rfl) ?_
          refine ops_val 22 (.bool (decide (f.from_ > 1073741824))) rfl rfl rfl rfl (run_pv rfl) ?_
          refine ops_val 23 (.bool (decide (f.from_ > 1073741824))) rfl rfl rfl rfl (run_pv rfl) ?_
          refine ops_case 23 (decide (f.from_ > 1073741824)) rfl (fun h4 => ?_) (fun h4 => ?_)
          · have p4 := h4; try simp only [decide_eq_true_eq, decide_eq_false_iff_not, Bool.and_eq_true, Bool.or_eq_true, Bool.not_eq_true', Bool.or_eq_false_iff, Bool.not_eq_false', Int.not_lt, Int.not_le, gt_iff_lt, ge_iff_le, Decidable.not_not] at p4
            refine ops_skip 24 rfl rfl rfl ?_
            refine ops_skip 25 rfl rfl rfl ?_
            refine ops_skip 26 rfl rfl rfl ?_
            refine ops_val 27 (.bool true) rfl rfl rfl rfl (run_pv rfl) ?_
            refine ops_val 28 (.bool true) rfl rfl rfl rfl (run_pv rfl) ?_
            refine ops_skip 29 rfl rfl rfl ?_
            refine ops_skip 30 rfl rfl rfl ?_
            refine ops_skip 31 rfl rfl rfl ?_
            refine ops_val 32 (.bool true) rfl rfl rfl rfl (run_pv rfl) ?_
            refine ops_nil ?_
            refine nrm_then ?_
            exact ⟨⟨rfl, congrArg Value.bool (by simp only [h1, h2, h3, h4, Bool.true_and, Bool.false_and, Bool.and_true, Bool.and_false, Bool.true_or, Bool.false_or, Bool.or_true, Bool.or_false, Bool.not_true, Bool.not_false]), trivial⟩, rfl, S⟩
          · have p4 := h4; try simp only [decide_eq_true_eq, decide_eq_false_iff_not, Bool.and_eq_true, Bool.or_eq_true, Bool.not_eq_true', Bool.or_eq_false_iff, Bool.not_eq_false', Int.not_lt, Int.not_le, gt_iff_lt, ge_iff_le, Decidable.not_not] at p4
            refine ops_val 24 (.pointer (some ⟨b1, 4, none⟩)) rfl rfl rfl rfl (run_fieldAddr_blk fd24_4 rfl rfl) ?_
            refine ops_val 25 (i64 f.known) rfl rfl rfl rfl (run_load_scal sc3 rfl (St.cell S (n := 0) rfl rfl)) ?_
            refine ops_val 26 (.bool (decide (f.known < 0))) rfl rfl rfl rfl (run_pv rfl) ?_
            refine ops_val 27 (.bool (decide (f.known < 0))) rfl rfl rfl rfl (run_pv rfl) ?_
            refine ops_val 28 (.bool (decide (f.known < 0))) rfl rfl rfl rfl (run_pv rfl) ?_
            refine ops_case 28 (decide (f.known < 0)) rfl (fun h5 => ?_) (fun h5 => ?_)
            · have p5 := h5; try simp only [decide_eq_true_eq, decide_eq_false_iff_not, Bool.and_eq_true, Bool.or_eq_true, Bool.not_eq_true', Bool.or_eq_false_iff, Bool.not_eq_false', Int.not_lt, Int.not_le, gt_iff_lt, ge_iff_le, Decidable.not_not] at p5
              refine ops_skip 29 rfl rfl rfl ?_
              refine ops_skip 30 rfl rfl rfl ?_
              refine ops_skip 31 rfl rfl rfl ?_
              refine ops_val 32 (.bool true) rfl rfl rfl rfl (run_pv rfl) ?_
              refine ops_nil ?_
              refine nrm_then ?_
              exact ⟨⟨rfl, congrArg Value.bool (by simp only [h1, h2, h3, h4, h5, Bool.true_and, Bool.false_and, Bool.and_true, Bool.and_false, Bool.true_or, Bool.false_or, Bool.or_true, Bool.or_false, Bool.not_true, Bool.not_false]), trivial⟩, rfl, S⟩
            · have p5 := h5; try simp only [decide_eq_true_eq, decide_eq_false_iff_not, Bool.and_eq_true, Bool.or_eq_true, Bool.not_eq_true', Bool.or_eq_false_iff, Bool.not_eq_false', Int.not_lt, Int.not_le, gt_iff_lt, ge_iff_le, Decidable.not_not] at p5
              refine ops_val 29 (.pointer (some ⟨b1, 4, none⟩)) rfl rfl rfl rfl (run_fieldAddr_blk fd24_4 rfl rfl) ?_
              refine ops_val 30 (i64 f.known) rfl rfl rfl rfl (run_load_scal sc3 rfl (St.cell S (n := 0) rfl rfl)) ?_
              refine ops_val 31 (.bool (decide (f.known > 1073741824))) rfl rfl rfl rfl (run_pv rfl) ?_
              refine ops_val 32 (.bool (decide (f.known > 1073741824))) rfl rfl rfl rfl (run_pv rfl) ?_
              refine ops_nil ?_
              refine nrm_then ?_
              exact ⟨⟨rfl, congrArg Value.bool (by simp only [h1, h2, h3, h4, h5, Bool.true_and, Bool.false_and, Bool.and_true, Bool.and_false, Bool.true_or, Bool.false_or, Bool.or_true, Bool.or_false, Bool.not_true, Bool.not_false]), trivial⟩, rfl, S⟩
  · clear S; intro ρ0 w2 S
    refine nrm_then ?_
    refine w_cond ((((((decide ((f.key.length : Int) < 1)) || (decide ((f.key.length : Int) > 20))) || (decide (f.from_ < 0))) || (decide (f.from_ > 1073741824))) || (decide (f.known < 0))) || (decide (f.known > 1073741824))) rfl (fun h6 => ?_) (fun h6 => ?_)
    · have p6 := h6; try simp only [decide_eq_true_eq, decide_eq_false_iff_not, Bool.and_eq_true, Bool.or_eq_true, Bool.not_eq_true', Bool.or_eq_false_iff, Bool.not_eq_false', Int.not_lt, Int.not_le, gt_iff_lt, ge_iff_le, Decidable.not_not] at p6
      refine w_seq ?_
      refine w_region ?_
      refine ops_val 2 (.bool false) rfl rfl rfl rfl (run_pv rfl) ?_
      refine ops_nil ?_
      refine nrm_then ?_
      refine w_ret ?_
      refine ret_then ?_
      refine fin1 (v := .bool false) rfl S rfl ?_
      first | rfl | (simp only [rvalidB, h6, Bool.true_and, Bool.false_and, Bool.and_true, Bool.and_false, Bool.true_or, Bool.false_or, Bool.or_true, Bool.or_false, Bool.not_true, Bool.not_false, reduceIte, Bool.false_eq_true]; done) | (simp [rvalidB, p6]; done) | (simp_all; done)
    · have p6 := h6; try simp only [decide_eq_true_eq, decide_eq_false_iff_not, Bool.and_eq_true, Bool.or_eq_true, Bool.not_eq_true', Bool.or_eq_false_iff, Bool.not_eq_false', Int.not_lt, Int.not_le, gt_iff_lt, ge_iff_le, Decidable.not_not] at p6
      refine w_skip ?_
      refine nrm_then ?_
      refine w_seq ?_
      refine w_cut [(2, .bool ((decide (f.until_ = 0)) || ((decide (f.until_ > f.from_)) && (decide (f.until_ ≤ 1073741824)))))] (fun w' => Eng.St w [.blk b1 [str f.key, i64 f.value, i64 f.from_, i64 f.until_, i64 f.known] 24] w') ?_ ?_
      · refine w_region ?_
        refine ops_val 33 (.pointer (some ⟨b1, 3, none⟩)) rfl rfl rfl rfl (run_fieldAddr_blk fd24_3 rfl rfl) ?_
        refine ops_val 34 (i64 f.until_) rfl rfl rfl rfl (run_load_scal sc3 rfl (St.cell S (n := 0) rfl rfl)) ?_
        refine ops_val 35 (.bool (decide (f.until_ = 0))) rfl rfl rfl rfl (run_pv rfl) ?_
        refine ops_val 36 (.bool (decide (f.until_ = 0))) rfl rfl rfl rfl (run_pv rfl) ?_
        refine ops_case 36 (decide (f.until_ = 0)) rfl (fun h7 => ?_) (fun h7 => ?_)
        · have p7 := h7; try simp only [decide_eq_true_eq, decide_eq_false_iff_not, Bool.and_eq_true, Bool.or_eq_true, Bool.not_eq_true', Bool.or_eq_false_iff, Bool.not_eq_false', Int.not_lt, Int.not_le, gt_iff_lt, ge_iff_le, Decidable.not_not] at p7
          refine ops_skip 37 rfl rfl rfl ?_
          refine ops_skip 38 rfl rfl rfl ?_
          refine ops_skip 39 rfl rfl rfl ?_
          refine ops_skip 40 rfl rfl rfl ?_
          refine ops_skip 41 rfl rfl rfl ?_
          refine ops_skip 42 rfl rfl rfl ?_
          refine ops_skip 43 rfl rfl rfl ?_
          refine ops_skip 44 rfl rfl rfl ?_
          refine ops_skip 45 rfl rfl rfl ?_
          refine ops_skip 46 rfl rfl rfl ?_
          refine ops_val 47 (.bool true) rfl rfl rfl rfl (run_pv rfl) ?_
          refine ops_val 2 (.bool true) rfl rfl rfl rfl (run_pv rfl) ?_
          refine ops_nil ?_
          refine nrm_then ?_
          exact ⟨⟨congrArg Value.bool (by simp only [h6, h7, Bool.true_and, Bool.false_and, Bool.and_true, Bool.and_false, Bool.true_or, Bool.false_or, Bool.or_true, Bool.or_false, Bool.not_true, Bool.not_false]), trivial⟩, rfl, S⟩
        · have p7 := h7; try simp only [decide_eq_true_eq, decide_eq_false_iff_not, Bool.and_eq_true, Bool.or_eq_true, Bool.not_eq_true', Bool.or_eq_false_iff, Bool.not_eq_false', Int.not_lt, Int.not_le, gt_iff_lt, ge_iff_le, Decidable.not_not] at p7
          refine ops_val 37 (.pointer (some ⟨b1, 3, none⟩)) rfl rfl rfl rfl (run_fieldAddr_blk fd24_3 rfl rfl) ?_
          refine ops_val 38 (i64 f.until_) rfl rfl rfl rfl (run_load_scal sc3 rfl (St.cell S (n := 0) rfl rfl)) ?_
          refine ops_val 39 (.pointer (some ⟨b1, 2, none⟩)) rfl rfl rfl rfl (run_fieldAddr_blk fd24_2 rfl rfl) ?_
          refine ops_val 40 (i64 f.from_) rfl rfl rfl rfl (run_load_scal sc3 rfl (St.cell S (n := 0) rfl rfl)) ?_
          refine ops_val 41 (.bool (decide (f.until_ > f.from_))) rfl rfl rfl rfl (run_pv rfl) ?_
          refine ops_val 42 (.bool (decide (f.until_ > f.from_))) rfl rfl rfl rfl (run_pv rfl) ?_
          refine ops_case 42 (decide (f.until_ > f.from_)) rfl (fun h8 => ?_) (fun h8 => ?_)
          · have p8 := h8; try simp only [decide_eq_true_eq, decide_eq_false_iff_not, Bool.and_eq_true, Bool.or_eq_true, Bool.not_eq_true', Bool.or_eq_false_iff, Bool.not_eq_false', Int.not_lt, Int.not_le, gt_iff_lt, ge_iff_le, Decidable.not_not] at p8
            refine ops_val 43 (.pointer (some ⟨b1, 3, none⟩)) rfl rfl rfl rfl (run_fieldAddr_blk fd24_3 rfl rfl) ?_
            refine ops_val 44 (i64 f.until_) rfl rfl rfl rfl (run_load_scal sc3 rfl (St.cell S (n := 0) rfl rfl)) ?_
            refine ops_val 45 (.bool (decide (f.until_ ≤ 1073741824))) rfl rfl rfl rfl (run_pv rfl) ?_
            refine ops_val 46 (.bool (decide (f.until_ ≤ 1073741824))) rfl rfl rfl rfl (run_pv rfl) ?_
            refine ops_val 47 (.bool (decide (f.until_ ≤ 1073741824))) rfl rfl rfl rfl (run_pv rfl) ?_
            refine ops_val 2 (.bool (decide (f.until_ ≤ 1073741824))) rfl rfl rfl rfl (run_pv rfl) ?_
            refine ops_nil ?_
            refine nrm_then ?_
            exact ⟨⟨congrArg Value.bool (by simp only [h6, h7, h8, Bool.true_and, Bool.false_and, Bool.and_true, Bool.and_false, Bool.true_or, Bool.false_or, Bool.or_true, Bool.or_false, Bool.not_true, Bool.not_false]), trivial⟩, rfl, S⟩
          · have p8 := h8; try simp only [decide_eq_true_eq, decide_eq_false_iff_not, Bool.and_eq_true, Bool.or_eq_true, Bool.not_eq_true', Bool.or_eq_false_iff, Bool.not_eq_false', Int.not_lt, Int.not_le, gt_iff_lt, ge_iff_le, Decidable.not_not] at p8
            refine ops_skip 43 rfl rfl rfl ?_
            refine ops_skip 44 rfl rfl rfl ?_
            refine ops_skip 45 rfl rfl rfl ?_
            refine ops_val 46 (.bool false) rfl rfl rfl rfl (run_pv rfl) ?_
            refine ops_val 47 (.bool false) rfl rfl rfl rfl (run_pv rfl) ?_
            refine ops_val 2 (.bool false) rfl rfl rfl rfl (run_pv rfl) ?_
            refine ops_nil ?_
            refine nrm_then ?_
            exact ⟨⟨congrArg Value.bool (by simp only [h6, h7, h8, Bool.true_and, Bool.false_and, Bool.and_true, Bool.and_false, Bool.true_or, Bool.false_or, Bool.or_true, Bool.or_false, Bool.not_true, Bool.not_false]), trivial⟩, rfl, S⟩
      · clear S; intro ρ0 w3 S
        refine nrm_then ?_
        refine w_ret ?_
        refine fin1 (v := .bool ((decide (f.until_ = 0)) || ((decide (f.until_ > f.from_)) && (decide (f.until_ ≤ 1073741824))))) rfl S rfl ?_
        first | rfl | (simp only [rvalidB, h6, Bool.true_and, Bool.false_and, Bool.and_true, Bool.and_false, Bool.true_or, Bool.false_or, Bool.or_true, Bool.or_false, Bool.not_true, Bool.not_false, reduceIte, Bool.false_eq_true]; done) | (simp [rvalidB, p6]; done) | (simp_all; done)
theorem has_is (f : Fact) (day : Int) (w : World)  : FnIs Try.prog 23 [aggFact f, i64 day] w (.bool (hasB f day)) := by
  refine fn_of_wp (N := 24) Try.func23 rfl rfl rfl ?_
  intro S
  refine w_seq ?_
  refine w_region ?_
  refine ops_box [str f.key, i64 f.value, i64 f.from_, i64 f.until_, i64 f.known] S rfl rfl rfl ?_
  clear S; intro b1 w1 S
  refine ops_val 4 (.bool false) rfl rfl rfl rfl (run_pv rfl) ?_
  refine ops_nil ?_
  refine nrm_then ?_
  refine w_seq ?_
  refine w_cut [(4, .bool (((decide (f.from_ ≤ day)) && (decide (day ≤ 1073741824))) && ((decide (f.until_ = 0)) || (decide (day < f.until_)))))] (fun w' => Eng.St w [.blk b1 [str f.key, i64 f.value, i64 f.from_, i64 f.until_, i64 f.known] 24] w') ?_ ?_
  · refine w_region ?_
    refine ops_val 5 (.pointer (some ⟨b1, 2, none⟩)) rfl rfl rfl rfl (run_fieldAddr_blk fd24_2 rfl rfl) ?_
    refine ops_val 6 (i64 f.from_) rfl rfl rfl rfl (run_load_scal sc3 rfl (St.cell S (n := 0) rfl rfl)) ?_
    refine ops_val 7 (i64 day) rfl rfl rfl rfl (run_pv rfl) ?_
    refine ops_val 8 (.bool (decide (f.from_ ≤ day))) rfl rfl rfl rfl (run_pv rfl) ?_
    refine ops_val 9 (.bool (decide (f.from_ ≤ day))) rfl rfl rfl rfl (run_pv rfl) ?_
    refine ops_case 9 (decide (f.from_ ≤ day)) rfl (fun h1 => ?_) (fun h1 => ?_)
    · have p1 := h1; try simp only [decide_eq_true_eq, decide_eq_false_iff_not, Bool.and_eq_true, Bool.or_eq_true, Bool.not_eq_true', Bool.or_eq_false_iff, Bool.not_eq_false', Int.not_lt, Int.not_le, gt_iff_lt, ge_iff_le, Decidable.not_not] at p1
      refine ops_val 10 (i64 day) rfl rfl rfl rfl (run_pv rfl) ?_
      refine ops_val 11 (.bool (decide (day ≤ 1073741824))) rfl rfl rfl rfl (run_pv rfl) ?_
      refine ops_val 12 (.bool (decide (day ≤ 1073741824))) rfl rfl rfl rfl (run_pv rfl) ?_
      refine ops_val 13 (.bool (decide (day ≤ 1073741824))) rfl rfl rfl rfl (run_pv rfl) ?_
      refine ops_case 13 (decide (day ≤ 1073741824)) rfl (fun h2 => ?_) (fun h2 => ?_)
      · have p2 := h2; try simp only [decide_eq_true_eq, decide_eq_false_iff_not, Bool.and_eq_true, Bool.or_eq_true, Bool.not_eq_true', Bool.or_eq_false_iff, Bool.not_eq_false', Int.not_lt, Int.not_le, gt_iff_lt, ge_iff_le, Decidable.not_not] at p2
        refine ops_val 14 (.pointer (some ⟨b1, 3, none⟩)) rfl rfl rfl rfl (run_fieldAddr_blk fd24_3 rfl rfl) ?_
        refine ops_val 15 (i64 f.until_) rfl rfl rfl rfl (run_load_scal sc3 rfl (St.cell S (n := 0) rfl rfl)) ?_
        refine ops_val 16 (.bool (decide (f.until_ = 0))) rfl rfl rfl rfl (run_pv rfl) ?_
        refine ops_val 17 (.bool (decide (f.until_ = 0))) rfl rfl rfl rfl (run_pv rfl) ?_
        refine ops_case 17 (decide (f.until_ = 0)) rfl (fun h3 => ?_) (fun h3 => ?_)
        · have p3 := h3; try simp only [decide_eq_true_eq, decide_eq_false_iff_not, Bool.and_eq_true, Bool.or_eq_true, Bool.not_eq_true', Bool.or_eq_false_iff, Bool.not_eq_false', Int.not_lt, Int.not_le, gt_iff_lt, ge_iff_le, Decidable.not_not] at p3
          refine ops_skip 18 rfl rfl rfl ?_
          refine ops_skip 19 rfl rfl rfl ?_
          refine ops_skip 20 rfl rfl rfl ?_
          refine ops_skip 21 rfl rfl rfl ?_
          refine ops_val 22 (.bool true) rfl rfl rfl rfl (run_pv rfl) ?_
          refine ops_val 23 (.bool true) rfl rfl rfl rfl (run_pv rfl) ?_
          refine ops_val 4 (.bool true) rfl rfl rfl rfl (run_pv rfl) ?_
          refine ops_nil ?_
          refine nrm_then ?_
          exact ⟨⟨congrArg Value.bool (by simp only [h1, h2, h3, Bool.true_and, Bool.false_and, Bool.and_true, Bool.and_false, Bool.true_or, Bool.false_or, Bool.or_true, Bool.or_false, Bool.not_true, Bool.not_false]), trivial⟩, rfl, S⟩
        · have p3 := h3; try simp only [decide_eq_true_eq, decide_eq_false_iff_not, Bool.and_eq_true, Bool.or_eq_true, Bool.not_eq_true', Bool.or_eq_false_iff, Bool.not_eq_false', Int.not_lt, Int.not_le, gt_iff_lt, ge_iff_le, Decidable.not_not] at p3
          refine ops_val 18 (i64 day) rfl rfl rfl rfl (run_pv rfl) ?_
          refine ops_val 19 (.pointer (some ⟨b1, 3, none⟩)) rfl rfl rfl rfl (run_fieldAddr_blk fd24_3 rfl rfl) ?_
          refine ops_val 20 (i64 f.until_) rfl rfl rfl rfl (run_load_scal sc3 rfl (St.cell S (n := 0) rfl rfl)) ?_
          refine ops_val 21 (.bool (decide (day < f.until_))) rfl rfl rfl rfl (run_pv rfl) ?_
          refine ops_val 22 (.bool (decide (day < f.until_))) rfl rfl rfl rfl (run_pv rfl) ?_
          refine ops_val 23 (.bool (decide (day < f.until_))) rfl rfl rfl rfl (run_pv rfl) ?_
          refine ops_val 4 (.bool (decide (day < f.until_))) rfl rfl rfl rfl (run_pv rfl) ?_
          refine ops_nil ?_
          refine nrm_then ?_
          exact ⟨⟨congrArg Value.bool (by simp only [h1, h2, h3, Bool.true_and, Bool.false_and, Bool.and_true, Bool.and_false, Bool.true_or, Bool.false_or, Bool.or_true, Bool.or_false, Bool.not_true, Bool.not_false]), trivial⟩, rfl, S⟩
      · have p2 := h2; try simp only [decide_eq_true_eq, decide_eq_false_iff_not, Bool.and_eq_true, Bool.or_eq_true, Bool.not_eq_true', Bool.or_eq_false_iff, Bool.not_eq_false', Int.not_lt, Int.not_le, gt_iff_lt, ge_iff_le, Decidable.not_not] at p2
        refine ops_skip 14 rfl rfl rfl ?_
        refine ops_skip 15 rfl rfl rfl ?_
        refine ops_skip 16 rfl rfl rfl ?_
        refine ops_skip 17 rfl rfl rfl ?_
        refine ops_skip 18 rfl rfl rfl ?_
        refine ops_skip 19 rfl rfl rfl ?_
        refine ops_skip 20 rfl rfl rfl ?_
        refine ops_skip 21 rfl rfl rfl ?_
        refine ops_skip 22 rfl rfl rfl ?_
        refine ops_val 23 (.bool false) rfl rfl rfl rfl (run_pv rfl) ?_
        refine ops_val 4 (.bool false) rfl rfl rfl rfl (run_pv rfl) ?_
        refine ops_nil ?_
        refine nrm_then ?_
        exact ⟨⟨congrArg Value.bool (by simp only [h1, h2, Bool.true_and, Bool.false_and, Bool.and_true, Bool.and_false, Bool.true_or, Bool.false_or, Bool.or_true, Bool.or_false, Bool.not_true, Bool.not_false]), trivial⟩, rfl, S⟩
    · have p1 := h1; try simp only [decide_eq_true_eq, decide_eq_false_iff_not, Bool.and_eq_true, Bool.or_eq_true, Bool.not_eq_true', Bool.or_eq_false_iff, Bool.not_eq_false', Int.not_lt, Int.not_le, gt_iff_lt, ge_iff_le, Decidable.not_not] at p1
      refine ops_skip 10 rfl rfl rfl ?_
      refine ops_skip 11 rfl rfl rfl ?_
      refine ops_val 12 (.bool false) rfl rfl rfl rfl (run_pv rfl) ?_
      refine ops_val 13 (.bool false) rfl rfl rfl rfl (run_pv rfl) ?_
      refine ops_skip 14 rfl rfl rfl ?_
      refine ops_skip 15 rfl rfl rfl ?_
      refine ops_skip 16 rfl rfl rfl ?_
      refine ops_skip 17 rfl rfl rfl ?_
      refine ops_skip 18 rfl rfl rfl ?_
      refine ops_skip 19 rfl rfl rfl ?_
      refine ops_skip 20 rfl rfl rfl ?_
      refine ops_skip 21 rfl rfl rfl ?_
      refine ops_skip 22 rfl rfl rfl ?_
      refine ops_val 23 (.bool false) rfl rfl rfl rfl (run_pv rfl) ?_
      refine ops_val 4 (.bool false) rfl rfl rfl rfl (run_pv rfl) ?_
      refine ops_nil ?_
      refine nrm_then ?_
      exact ⟨⟨congrArg Value.bool (by simp only [h1, Bool.true_and, Bool.false_and, Bool.and_true, Bool.and_false, Bool.true_or, Bool.false_or, Bool.or_true, Bool.or_false, Bool.not_true, Bool.not_false]), trivial⟩, rfl, S⟩
  · clear S; intro ρ0 w2 S
    refine nrm_then ?_
    refine w_ret ?_
    refine fin1 (v := .bool (((decide (f.from_ ≤ day)) && (decide (day ≤ 1073741824))) && ((decide (f.until_ = 0)) || (decide (day < f.until_))))) rfl S rfl ?_
    rfl
theorem right_is (vbase : Value) (base : List Fact) (w : World) (hbase : Rd w encFact 5 vbase base) : FnIs Try.prog 15 [vbase] w (.bool (rightB base)) := by
  refine fn_of_wp (N := 34) Try.func15 rfl rfl rfl ?_
  intro S
  have hlen := hbase.len
  refine w_seq ?_
  refine w_region ?_
  refine ops_val 2 (.bool false) rfl rfl rfl rfl (run_pv rfl) ?_
  refine ops_nil ?_
  refine nrm_then ?_
  refine w_seq ?_
  refine w_seq ?_
  refine w_region ?_
  refine ops_val 5 (vbase) rfl rfl rfl rfl (run_pv rfl) ?_
  refine ops_val 6 (i64 (base.length : Int)) rfl rfl rfl rfl (run_len_rd Try.underlying22 (St.rd S hbase) rfl) ?_
  refine ops_val 7 (i64 0) rfl rfl rfl rfl (run_pv rfl) ?_
  refine ops_nil ?_
  refine nrm_then ?_
  refine w_block ?_
  refine w_loop (G := Nat) (fun k => [(0, vbase), (5, vbase), (6, i64 (base.length : Int)), (7, i64 (k : Int))]) (fun k w' => Eng.St w [] w' ∧ (k ≤ base.length ∧ (List.range k).all (okAt base) = true)) (fun k => base.length - k) (0) ⟨rfl, rfl, rfl, rfl, trivial⟩ ⟨S, Nat.zero_le _, rfl⟩ ?_
  clear S; rintro k ρ0 w1 ⟨S, hk, hall⟩
  refine w_seq ?_
  refine w_region ?_
  refine ops_val 8 (.bool (decide ((k : Int) < (base.length : Int)))) rfl rfl rfl rfl (run_pv rfl) ?_
  refine ops_nil ?_
  refine nrm_then ?_
  refine w_seq ?_
  refine w_cond (decide ((k : Int) < (base.length : Int))) rfl (fun h1 => ?_) (fun h1 => ?_)
  · have p1 := h1; try simp only [decide_eq_true_eq, decide_eq_false_iff_not, Bool.and_eq_true, Bool.or_eq_true, Bool.not_eq_true', Bool.or_eq_false_iff, Bool.not_eq_false', Int.not_lt, Int.not_le, gt_iff_lt, ge_iff_le, Decidable.not_not] at p1
    refine w_skip ?_
    refine nrm_then ?_
    refine w_seq ?_
    refine w_block ?_
    refine w_seq ?_
    refine w_region ?_
    refine ops_val 9 (i64 (k : Int)) rfl rfl rfl rfl (run_pv rfl) ?_
    refine ops_val 10 (.pointer (some ((adr vbase).add (k * 5)))) rfl rfl rfl rfl (run_index_rd (i := k) sl22 (St.rd S hbase) rfl rfl (by omega)) ?_
    refine ops_val 11 (aggFact (base.getD k default)) rfl rfl rfl rfl (run_load_agg (encFact (base.getD k default)) ag24 rfl rfl (Rd.each (d := default) (St.rd S hbase) (by omega))) ?_
    refine ops_alloc [str ([]), i64 0, i64 0, i64 0, i64 0] ze24 S rfl rfl ?_
    clear S; intro b1 w2 S
    refine ops_val 3 (i64 (k : Int)) rfl rfl rfl rfl (run_pv rfl) ?_
    refine ops_store (off := 0) (us := [str ((base.getD k default).key), i64 ((base.getD k default).value), i64 ((base.getD k default).from_), i64 ((base.getD k default).until_), i64 ((base.getD k default).known)]) [str ((base.getD k default).key), i64 ((base.getD k default).value), i64 ((base.getD k default).from_), i64 ((base.getD k default).until_), i64 ((base.getD k default).known)] S rfl (AggT.size ag24) rfl rfl rfl rfl (Nat.le_of_ble_eq_true rfl) rfl ?_
    clear S; intro w3 S
    refine ops_nil ?_
    refine nrm_then ?_
    refine w_seq ?_
    refine w_cut [(0, vbase), (5, vbase), (6, i64 (base.length : Int)), (7, i64 (k : Int)), (29, .bool ((!(validB (base.getD k default))) || ((decide ((k : Int) > 0)) && (decide ((base.getD k default).known < (base.getD ((k : Int) - 1).toNat default).known)))))] (fun w' => Eng.St w [.blk b1 [str ((base.getD k default).key), i64 ((base.getD k default).value), i64 ((base.getD k default).from_), i64 ((base.getD k default).until_), i64 ((base.getD k default).known)] 24] w') ?_ ?_
    · refine w_draw 1000000 (fun w' => Eng.St w [.blk b1 [str ((base.getD k default).key), i64 ((base.getD k default).value), i64 ((base.getD k default).from_), i64 ((base.getD k default).until_), i64 ((base.getD k default).known)] 24] w') Try.mixed ?_
      intro w4 hw'; replace S := Eng.St.drew S; rw [← hw'] at S
      clear hw'
      refine any_quiet 0 12 (aggFact (base.getD k default)) (by kernel_rfl) rfl (by kernel_rfl) (by kernel_rfl) rfl rfl rfl rfl S (fun wq Sq => (run_load_agg [str ((base.getD k default).key), i64 ((base.getD k default).value), i64 ((base.getD k default).from_), i64 ((base.getD k default).until_), i64 ((base.getD k default).known)] ag24 rfl rfl (blk_each Sq (n := 0) rfl 0 rfl))) ?_
      refine any_loud1 1 (by kernel_rfl) rfl ?_
      refine ops_callIs [aggFact (base.getD k default)] (.bool (validB (base.getD k default))) S rfl rfl hb25 rfl (valid_is (base.getD k default) _  ) ?_
      clear S; intro w5 S
      refine ops_nil ?_
      refine nrm_then ⟨fun _ => S, ?_⟩
      refine any_quiet 2 14 (.bool (!(validB (base.getD k default)))) (by kernel_rfl) rfl (by kernel_rfl) (by kernel_rfl) rfl rfl rfl rfl S (fun wq Sq => (run_pv rfl)) ?_
      refine any_quiet 3 15 (.bool (!(validB (base.getD k default)))) (by kernel_rfl) rfl (by kernel_rfl) (by kernel_rfl) rfl rfl rfl rfl S (fun wq Sq => (run_pv rfl)) ?_
      refine any_case 15 (!(validB (base.getD k default))) rfl (fun h2 => ?_) (fun h2 => ?_)
      · have p2 := h2; try simp only [decide_eq_true_eq, decide_eq_false_iff_not, Bool.and_eq_true, Bool.or_eq_true, Bool.not_eq_true', Bool.or_eq_false_iff, Bool.not_eq_false', Int.not_lt, Int.not_le, gt_iff_lt, ge_iff_le, Decidable.not_not] at p2
        refine any_pass 4 16 (by kernel_rfl) rfl (by kernel_rfl) rfl rfl rfl rfl (sd_of S) ?_
        refine any_pass 5 17 (by kernel_rfl) rfl (by kernel_rfl) rfl rfl rfl rfl (sd_of S) ?_
        refine any_pass 6 18 (by kernel_rfl) rfl (by kernel_rfl) rfl rfl rfl rfl (sd_of S) ?_
        refine any_pass 7 19 (by kernel_rfl) rfl (by kernel_rfl) rfl rfl rfl rfl (sd_of S) ?_
        refine any_pass 8 20 (by kernel_rfl) rfl (by kernel_rfl) rfl rfl rfl rfl (sd_of S) ?_
        refine any_pass 9 21 (by kernel_rfl) rfl (by kernel_rfl) rfl rfl rfl rfl (sd_of S) ?_
        refine any_pass 10 22 (by kernel_rfl) rfl (by kernel_rfl) rfl rfl rfl rfl (sd_of S) ?_
        refine any_pass 11 23 (by kernel_rfl) rfl (by kernel_rfl) rfl rfl rfl rfl (sd_of S) ?_
        refine any_pass 12 24 (by kernel_rfl) rfl (by kernel_rfl) rfl rfl rfl rfl (sd_of S) ?_
        refine any_pass 13 25 (by kernel_rfl) rfl (by kernel_rfl) rfl rfl rfl rfl (sd_of S) ?_
        refine any_pass 14 26 (by kernel_rfl) rfl (by kernel_rfl) rfl rfl rfl rfl (sd_of S) ?_
        refine any_pass 15 27 (by kernel_rfl) rfl (by kernel_rfl) rfl rfl rfl rfl (sd_of S) ?_
        refine any_pass 16 28 (by kernel_rfl) rfl (by kernel_rfl) rfl rfl rfl rfl (sd_of S) ?_
        refine any_quiet 17 29 (.bool true) (by kernel_rfl) rfl (by kernel_rfl) (by kernel_rfl) rfl rfl rfl rfl S (fun wq Sq => (run_pv rfl)) ?_
        refine any_done (by kernel_rfl) ?_
        refine nrm_then ?_
        exact ⟨⟨rfl, rfl, rfl, rfl, congrArg Value.bool (by simp only [h1, h2, Bool.true_and, Bool.false_and, Bool.and_true, Bool.and_false, Bool.true_or, Bool.false_or, Bool.or_true, Bool.or_false, Bool.not_true, Bool.not_false]), trivial⟩, rfl, S⟩
      · have p2 := h2; try simp only [decide_eq_true_eq, decide_eq_false_iff_not, Bool.and_eq_true, Bool.or_eq_true, Bool.not_eq_true', Bool.or_eq_false_iff, Bool.not_eq_false', Int.not_lt, Int.not_le, gt_iff_lt, ge_iff_le, Decidable.not_not] at p2
        refine any_quiet 4 16 (i64 (k : Int)) (by kernel_rfl) rfl (by kernel_rfl) (by kernel_rfl) rfl rfl rfl rfl S (fun wq Sq => (run_pv rfl)) ?_
        refine any_quiet 5 17 (.bool (decide ((k : Int) > 0))) (by kernel_rfl) rfl (by kernel_rfl) (by kernel_rfl) rfl rfl rfl rfl S (fun wq Sq => (run_pv rfl)) ?_
        refine any_quiet 6 18 (.bool (decide ((k : Int) > 0))) (by kernel_rfl) rfl (by kernel_rfl) (by kernel_rfl) rfl rfl rfl rfl S (fun wq Sq => (run_pv rfl)) ?_
        refine any_case 18 (decide ((k : Int) > 0)) rfl (fun h3 => ?_) (fun h3 => ?_)
        · have p3 := h3; try simp only [decide_eq_true_eq, decide_eq_false_iff_not, Bool.and_eq_true, Bool.or_eq_true, Bool.not_eq_true', Bool.or_eq_false_iff, Bool.not_eq_false', Int.not_lt, Int.not_le, gt_iff_lt, ge_iff_le, Decidable.not_not] at p3
          refine any_quiet 7 19 (.pointer (some ⟨b1, 4, none⟩)) (by kernel_rfl) rfl (by kernel_rfl) (by kernel_rfl) rfl rfl rfl rfl S (fun wq Sq => (run_fieldAddr_blk fd24_4 rfl rfl)) ?_
          refine any_quiet 8 20 (i64 ((base.getD k default).known)) (by kernel_rfl) rfl (by kernel_rfl) (by kernel_rfl) rfl rfl rfl rfl S (fun wq Sq => (run_load_scal sc3 rfl (St.cell Sq (n := 0) rfl rfl))) ?_
          refine any_quiet 9 21 (vbase) (by kernel_rfl) rfl (by kernel_rfl) (by kernel_rfl) rfl rfl rfl rfl S (fun wq Sq => (run_pv rfl)) ?_
          refine any_quiet 10 22 (i64 (k : Int)) (by kernel_rfl) rfl (by kernel_rfl) (by kernel_rfl) rfl rfl rfl rfl S (fun wq Sq => (run_pv rfl)) ?_
          refine any_quiet 11 23 (i64 ((k : Int) - 1)) (by kernel_rfl) rfl (by kernel_rfl) (by kernel_rfl) rfl rfl rfl rfl S (fun wq Sq => (run_wr rfl (by omega) (by omega))) ?_
          refine any_quiet 12 24 (.pointer (some ((adr vbase).add (((k : Int) - 1).toNat * 5)))) (by kernel_rfl) rfl (by kernel_rfl) (by kernel_rfl) rfl rfl rfl rfl S (fun wq Sq => (run_index_rdI sl22 (St.rd Sq hbase) rfl rfl (by omega) (by omega))) ?_
          refine any_quiet 13 25 (.pointer (some (((adr vbase).add (((k : Int) - 1).toNat * 5)).add 4))) (by kernel_rfl) rfl (by kernel_rfl) (by kernel_rfl) rfl rfl rfl rfl S (fun wq Sq => (run_fieldAddr fd24_4 rfl)) ?_
          refine any_quiet 14 26 (i64 ((base.getD ((k : Int) - 1).toNat default).known)) (by kernel_rfl) rfl (by kernel_rfl) (by kernel_rfl) rfl rfl rfl rfl S (fun wq Sq => (run_load_scal sc3 rfl (Rd.at' (d := default) (j := 4) (St.rd Sq hbase) (by omega) rfl))) ?_
          refine any_quiet 15 27 (.bool (decide ((base.getD k default).known < (base.getD ((k : Int) - 1).toNat default).known))) (by kernel_rfl) rfl (by kernel_rfl) (by kernel_rfl) rfl rfl rfl rfl S (fun wq Sq => (run_pv rfl)) ?_
          refine any_quiet 16 28 (.bool (decide ((base.getD k default).known < (base.getD ((k : Int) - 1).toNat default).known))) (by kernel_rfl) rfl (by kernel_rfl) (by kernel_rfl) rfl rfl rfl rfl S (fun wq Sq => (run_pv rfl)) ?_
          refine any_quiet 17 29 (.bool (decide ((base.getD k default).known < (base.getD ((k : Int) - 1).toNat default).known))) (by kernel_rfl) rfl (by kernel_rfl) (by kernel_rfl) rfl rfl rfl rfl S (fun wq Sq => (run_pv rfl)) ?_
          refine any_done (by kernel_rfl) ?_
          refine nrm_then ?_
          exact ⟨⟨rfl, rfl, rfl, rfl, congrArg Value.bool (by simp only [h1, h2, h3, Bool.true_and, Bool.false_and, Bool.and_true, Bool.and_false, Bool.true_or, Bool.false_or, Bool.or_true, Bool.or_false, Bool.not_true, Bool.not_false]), trivial⟩, rfl, S⟩
        · have p3 := h3; try simp only [decide_eq_true_eq, decide_eq_false_iff_not, Bool.and_eq_true, Bool.or_eq_true, Bool.not_eq_true', Bool.or_eq_false_iff, Bool.not_eq_false', Int.not_lt, Int.not_le, gt_iff_lt, ge_iff_le, Decidable.not_not] at p3
          refine any_pass 7 19 (by kernel_rfl) rfl (by kernel_rfl) rfl rfl rfl rfl (sd_of S) ?_
          refine any_pass 8 20 (by kernel_rfl) rfl (by kernel_rfl) rfl rfl rfl rfl (sd_of S) ?_
          refine any_pass 9 21 (by kernel_rfl) rfl (by kernel_rfl) rfl rfl rfl rfl (sd_of S) ?_
          refine any_pass 10 22 (by kernel_rfl) rfl (by kernel_rfl) rfl rfl rfl rfl (sd_of S) ?_
          refine any_pass 11 23 (by kernel_rfl) rfl (by kernel_rfl) rfl rfl rfl rfl (sd_of S) ?_
          refine any_pass 12 24 (by kernel_rfl) rfl (by kernel_rfl) rfl rfl rfl rfl (sd_of S) ?_
          refine any_pass 13 25 (by kernel_rfl) rfl (by kernel_rfl) rfl rfl rfl rfl (sd_of S) ?_
          refine any_pass 14 26 (by kernel_rfl) rfl (by kernel_rfl) rfl rfl rfl rfl (sd_of S) ?_
          refine any_pass 15 27 (by kernel_rfl) rfl (by kernel_rfl) rfl rfl rfl rfl (sd_of S) ?_
          refine any_quiet 16 28 (.bool false) (by kernel_rfl) rfl (by kernel_rfl) (by kernel_rfl) rfl rfl rfl rfl S (fun wq Sq => (run_pv rfl)) ?_
          refine any_quiet 17 29 (.bool false) (by kernel_rfl) rfl (by kernel_rfl) (by kernel_rfl) rfl rfl rfl rfl S (fun wq Sq => (run_pv rfl)) ?_
          refine any_done (by kernel_rfl) ?_
          refine nrm_then ?_
          exact ⟨⟨rfl, rfl, rfl, rfl, congrArg Value.bool (by simp only [h1, h2, h3, Bool.true_and, Bool.false_and, Bool.and_true, Bool.and_false, Bool.true_or, Bool.false_or, Bool.or_true, Bool.or_false, Bool.not_true, Bool.not_false]), trivial⟩, rfl, S⟩
    · clear S; intro ρ0 w6 S
      refine nrm_then ?_
      refine w_cond ((!(validB (base.getD k default))) || ((decide ((k : Int) > 0)) && (decide ((base.getD k default).known < (base.getD ((k : Int) - 1).toNat default).known)))) rfl (fun h4 => ?_) (fun h4 => ?_)
      · have p4 := h4; try simp only [decide_eq_true_eq, decide_eq_false_iff_not, Bool.and_eq_true, Bool.or_eq_true, Bool.not_eq_true', Bool.or_eq_false_iff, Bool.not_eq_false', Int.not_lt, Int.not_le, gt_iff_lt, ge_iff_le, Decidable.not_not] at p4
        refine w_seq ?_
        refine w_region ?_
        refine ops_val 2 (.bool false) rfl rfl rfl rfl (run_pv rfl) ?_
        refine ops_nil ?_
        refine nrm_then ?_
        refine w_ret ?_
        refine ret_blk ?_
        refine ret_then ?_
        refine ret_then ?_
        refine ret_blk ?_
        refine ret_then ?_
        refine fin1 (v := .bool false) rfl S rfl ?_
        exact congrArg Value.bool (right_no base k (by omega) (by simp only [okAt, h1, h4, Bool.not_true])).symm
      · have p4 := h4; try simp only [decide_eq_true_eq, decide_eq_false_iff_not, Bool.and_eq_true, Bool.or_eq_true, Bool.not_eq_true', Bool.or_eq_false_iff, Bool.not_eq_false', Int.not_lt, Int.not_le, gt_iff_lt, ge_iff_le, Decidable.not_not] at p4
        refine w_skip ?_
        refine nrm_blk ?_
        refine nrm_then ?_
        refine w_region ?_
        refine ops_val 30 (i64 ((k : Int) + 1)) rfl rfl rfl rfl (run_wr rfl (by omega) (by omega)) ?_
        refine ops_val 7 (i64 ((k : Int) + 1)) rfl rfl rfl rfl (run_pv rfl) ?_
        refine ops_nil ?_
        refine nrm_then ?_
        replace S := S.drop
        exact ⟨rfl, (k + 1), ⟨(by first | rfl | exact congrArg i64 (by omega)), (by first | rfl | exact congrArg i64 (by omega)), (by first | rfl | exact congrArg i64 (by omega)), (by first | rfl | exact congrArg i64 (by omega)), trivial⟩, ⟨S, by omega, by rw [List.range_succ, List.all_append, hall]; simp only [okAt, h1, h4, List.all_cons, List.all_nil, Bool.not_false, Bool.and_true]⟩, by omega⟩
  · have p1 := h1; try simp only [decide_eq_true_eq, decide_eq_false_iff_not, Bool.and_eq_true, Bool.or_eq_true, Bool.not_eq_true', Bool.or_eq_false_iff, Bool.not_eq_false', Int.not_lt, Int.not_le, gt_iff_lt, ge_iff_le, Decidable.not_not] at p1
    refine w_exit ?_
    refine exit_then ?_
    refine exit_then ?_
    refine exit_blk ?_
    refine nrm_then ?_
    refine w_seq ?_
    refine w_region ?_
    refine ops_val 31 (vbase) rfl rfl rfl rfl (run_pv rfl) ?_
    refine ops_val 32 (i64 (base.length : Int)) rfl rfl rfl rfl (run_len_rd Try.underlying22 (St.rd S hbase) rfl) ?_
    refine ops_val 33 (.bool (decide ((base.length : Int) ≤ 5000))) rfl rfl rfl rfl (run_pv rfl) ?_
    refine ops_val 2 (.bool (decide ((base.length : Int) ≤ 5000))) rfl rfl rfl rfl (run_pv rfl) ?_
    refine ops_nil ?_
    refine nrm_then ?_
    refine w_ret ?_
    refine fin1 (v := .bool (decide ((base.length : Int) ≤ 5000))) rfl S rfl ?_
    obtain rfl : k = base.length := by omega
    simp [rightB, hall]
theorem last_hands (vbase : Value) (base : List Fact) (key : List UInt8) (known : Int) (w : World) (hbase : Rd w encFact 5 vbase base) : Eng.Fn Try.prog 34 [vbase, str key, i64 known] w (fun v w' => ∃ g : Nat × Nat × Nat, v = .func (.func 40) #[] #[.pointer (some ⟨g.1, 0, none⟩), .pointer (some ⟨g.2.1, 0, none⟩), .pointer (some ⟨g.2.2, 0, none⟩)] ∧ Hands w.heap.size [.blk g.1 [vbase] 22, .blk g.2.1 [str key] 9, .blk g.2.2 [i64 known] 3] w') := by
  refine fn_of_wp (N := 8) Try.func34 rfl rfl rfl ?_
  intro S
  refine w_seq ?_
  refine w_region ?_
  refine ops_box [vbase] S rfl rfl (Rd.cells (St.rd S hbase)) ?_
  clear S; intro b1 w1 S
  refine ops_box [str key] S rfl rfl rfl ?_
  clear S; intro b2 w2 S
  refine ops_box [i64 known] S rfl rfl rfl ?_
  clear S; intro b3 w3 S
  refine ops_val 6 (.nilFunc) rfl rfl rfl rfl (run_pv rfl) ?_
  refine ops_nil ?_
  refine nrm_then ?_
  refine w_seq ?_
  refine w_region ?_
  refine ops_val 7 (.func (.func 40) #[] #[.pointer (some ⟨b1, 0, none⟩), .pointer (some ⟨b2, 0, none⟩), .pointer (some ⟨b3, 0, none⟩)]) rfl rfl rfl rfl (run_pv rfl) ?_
  refine ops_val 6 (.func (.func 40) #[] #[.pointer (some ⟨b1, 0, none⟩), .pointer (some ⟨b2, 0, none⟩), .pointer (some ⟨b3, 0, none⟩)]) rfl rfl rfl rfl (run_pv rfl) ?_
  refine ops_nil ?_
  refine nrm_then ?_
  refine w_ret ?_
  replace S := S.f1
  replace S := S.f2
  exact fin_hands (b1, b2, b3) rfl S rfl
theorem last1_iter (b1 b2 b3 : Nat) (vbase : Value) (base : List Fact) (key : List UInt8) (known : Int) : Iter Try.prog 40 [.pointer (some ⟨b1, 0, none⟩), .pointer (some ⟨b2, 0, none⟩), .pointer (some ⟨b3, 0, none⟩)] (fun i : Int => [i64 i]) (lastIdx base key known) (NeedLast b1 b2 b3 vbase base key known) := by
  intro l J Jx w hneed hsJ hsJx hY h0
  refine Calls.mono (calls_of_wpM (N := 35) (R := fun _ w' => J (lastIdx base key known) w' ∨ ∃ pre, pre <+: (lastIdx base key known) ∧ Jx pre w') Try.func40 rfl rfl rfl ?_) (fun _ _ ⟨v, he, hr⟩ => ⟨⟨v, he⟩, hr⟩)
  have S := St.start w
  have hn := hneed [] w h0
  obtain ⟨hn1, hn2, hn3, hb⟩ := hn
  have hlen := hb.len
  refine w_seq ?_
  refine w_region ?_
  refine ops_val 6 (vbase) rfl rfl rfl rfl (run_load_scal sc22 rfl (Eng.St.ro S hn1)) ?_
  refine ops_val 7 (i64 (base.length : Int)) rfl rfl rfl rfl (run_len_rd Try.underlying22 (St.rd S hb) rfl) ?_
  refine ops_val 8 (i64 ((base.length : Int) - 1)) rfl rfl rfl rfl (run_wr rfl (by omega) (by omega)) ?_
  refine ops_val 5 (i64 ((base.length : Int) - 1)) rfl rfl rfl rfl (run_pv rfl) ?_
  refine ops_nil ?_
  refine nrm_then ?_
  refine w_block ?_
  refine w_loop (G := Nat × (List Int)) (fun ⟨n, pre⟩ => [(0, .func (.yield l) #[] #[]), (1, .pointer (some ⟨b1, 0, none⟩)), (2, .pointer (some ⟨b2, 0, none⟩)), (3, .pointer (some ⟨b3, 0, none⟩)), (5, i64 ((n : Int) - 1))]) (fun ⟨n, pre⟩ w' => n ≤ base.length ∧ J pre w' ∧ pre ++ lastFrom base key known n = lastIdx base key known) (fun ⟨n, pre⟩ => n) (base.length, []) ⟨rfl, rfl, rfl, rfl, rfl, trivial⟩ ⟨Nat.le_refl _, h0, rfl⟩ ?_
  clear S; rintro ⟨n, pre⟩ ρ0 w1 ⟨hnl, hJ, hpre⟩
  have S := St.start w1
  clear hn1 hn2 hn3 hb
  obtain ⟨hn1, hn2, hn3, hb⟩ := hneed _ _ hJ
  refine w_seq ?_
  refine w_seq ?_
  refine w_region ?_
  refine ops_val 9 (i64 ((n : Int) - 1)) rfl rfl rfl rfl (run_pv rfl) ?_
  refine ops_val 10 (.bool (decide (((n : Int) - 1) ≥ 0))) rfl rfl rfl rfl (run_pv rfl) ?_
  refine ops_nil ?_
  refine nrm_then ?_
  refine w_cond (decide (((n : Int) - 1) ≥ 0)) rfl (fun h1 => ?_) (fun h1 => ?_)
  · have p1 := h1; try simp only [decide_eq_true_eq, decide_eq_false_iff_not, Bool.and_eq_true, Bool.or_eq_true, Bool.not_eq_true', Bool.or_eq_false_iff, Bool.not_eq_false', Int.not_lt, Int.not_le, gt_iff_lt, ge_iff_le, Decidable.not_not] at p1
    refine w_skip ?_
    refine nrm_then ?_
    refine w_seq ?_
    refine w_block ?_
    refine w_seq ?_
    refine w_draw 19 (fun w' => Eng.St w1 [] w') Try.mixed ?_
    intro w2 hw'; replace S := Eng.St.drew S; rw [← hw'] at S
    replace hJ : J pre (Go.World.drew w1) := hsJ pre _ _ none hJ ⟨rfl, rfl, rfl, Nat.le_refl _, fun _ _ _ => rfl⟩ (fun b e => (by cases e)); rw [← hw'] at hJ
    clear hw'
    refine any_quiet 0 13 (vbase) (by kernel_rfl) rfl (by kernel_rfl) (by kernel_rfl) rfl rfl rfl rfl S (fun wq Sq => (run_load_scal sc22 rfl (Eng.St.ro Sq hn1))) ?_
    refine any_quiet 1 14 (i64 ((n : Int) - 1)) (by kernel_rfl) rfl (by kernel_rfl) (by kernel_rfl) rfl rfl rfl rfl S (fun wq Sq => (run_pv rfl)) ?_
    refine any_quiet 2 15 (.pointer (some ((adr vbase).add (((n : Int) - 1).toNat * 5)))) (by kernel_rfl) rfl (by kernel_rfl) (by kernel_rfl) rfl rfl rfl rfl S (fun wq Sq => (run_index_rdI sl22 (St.rd Sq hb) rfl rfl (by omega) (by omega))) ?_
    refine any_quiet 3 16 (.pointer (some (((adr vbase).add (((n : Int) - 1).toNat * 5)).add 0))) (by kernel_rfl) rfl (by kernel_rfl) (by kernel_rfl) rfl rfl rfl rfl S (fun wq Sq => (run_fieldAddr fd24_0 rfl)) ?_
    refine any_quiet 4 17 (str ((base.getD ((n : Int) - 1).toNat default).key)) (by kernel_rfl) rfl (by kernel_rfl) (by kernel_rfl) rfl rfl rfl rfl S (fun wq Sq => (run_load_scal sc9 rfl (Rd.at' (d := default) (j := 0) (St.rd Sq hb) (by omega) rfl))) ?_
    refine any_quiet 5 18 (str key) (by kernel_rfl) rfl (by kernel_rfl) (by kernel_rfl) rfl rfl rfl rfl S (fun wq Sq => (run_load_scal sc9 rfl (Eng.St.ro Sq hn2))) ?_
    refine any_quiet 6 19 (.bool (decide ((base.getD ((n : Int) - 1).toNat default).key = key))) (by kernel_rfl) rfl (by kernel_rfl) (by kernel_rfl) rfl rfl rfl rfl S (fun wq Sq => (run_pv rfl)) ?_
    refine any_quiet 7 20 (.bool (decide ((base.getD ((n : Int) - 1).toNat default).key = key))) (by kernel_rfl) rfl (by kernel_rfl) (by kernel_rfl) rfl rfl rfl rfl S (fun wq Sq => (run_pv rfl)) ?_
    refine any_case 20 (decide ((base.getD ((n : Int) - 1).toNat default).key = key)) rfl (fun h2 => ?_) (fun h2 => ?_)
    · have p2 := h2; try simp only [decide_eq_true_eq, decide_eq_false_iff_not, Bool.and_eq_true, Bool.or_eq_true, Bool.not_eq_true', Bool.or_eq_false_iff, Bool.not_eq_false', Int.not_lt, Int.not_le, gt_iff_lt, ge_iff_le, Decidable.not_not] at p2
      refine any_quiet 8 21 (vbase) (by kernel_rfl) rfl (by kernel_rfl) (by kernel_rfl) rfl rfl rfl rfl S (fun wq Sq => (run_load_scal sc22 rfl (Eng.St.ro Sq hn1))) ?_
      refine any_quiet 9 22 (i64 ((n : Int) - 1)) (by kernel_rfl) rfl (by kernel_rfl) (by kernel_rfl) rfl rfl rfl rfl S (fun wq Sq => (run_pv rfl)) ?_
      refine any_quiet 10 23 (.pointer (some ((adr vbase).add (((n : Int) - 1).toNat * 5)))) (by kernel_rfl) rfl (by kernel_rfl) (by kernel_rfl) rfl rfl rfl rfl S (fun wq Sq => (run_index_rdI sl22 (St.rd Sq hb) rfl rfl (by omega) (by omega))) ?_
      refine any_quiet 11 24 (.pointer (some (((adr vbase).add (((n : Int) - 1).toNat * 5)).add 4))) (by kernel_rfl) rfl (by kernel_rfl) (by kernel_rfl) rfl rfl rfl rfl S (fun wq Sq => (run_fieldAddr fd24_4 rfl)) ?_
      refine any_quiet 12 25 (i64 ((base.getD ((n : Int) - 1).toNat default).known)) (by kernel_rfl) rfl (by kernel_rfl) (by kernel_rfl) rfl rfl rfl rfl S (fun wq Sq => (run_load_scal sc3 rfl (Rd.at' (d := default) (j := 4) (St.rd Sq hb) (by omega) rfl))) ?_
      refine any_quiet 13 26 (i64 known) (by kernel_rfl) rfl (by kernel_rfl) (by kernel_rfl) rfl rfl rfl rfl S (fun wq Sq => (run_load_scal sc3 rfl (Eng.St.ro Sq hn3))) ?_
      refine any_quiet 14 27 (.bool (decide ((base.getD ((n : Int) - 1).toNat default).known ≤ known))) (by kernel_rfl) rfl (by kernel_rfl) (by kernel_rfl) rfl rfl rfl rfl S (fun wq Sq => (run_pv rfl)) ?_
      refine any_quiet 15 28 (.bool (decide ((base.getD ((n : Int) - 1).toNat default).known ≤ known))) (by kernel_rfl) rfl (by kernel_rfl) (by kernel_rfl) rfl rfl rfl rfl S (fun wq Sq => (run_pv rfl)) ?_
      refine any_quiet 16 29 (.bool (decide ((base.getD ((n : Int) - 1).toNat default).known ≤ known))) (by kernel_rfl) rfl (by kernel_rfl) (by kernel_rfl) rfl rfl rfl rfl S (fun wq Sq => (run_pv rfl)) ?_
      refine any_case 29 (decide ((base.getD ((n : Int) - 1).toNat default).known ≤ known)) rfl (fun h3 => ?_) (fun h3 => ?_)
      · have p3 := h3; try simp only [decide_eq_true_eq, decide_eq_false_iff_not, Bool.and_eq_true, Bool.or_eq_true, Bool.not_eq_true', Bool.or_eq_false_iff, Bool.not_eq_false', Int.not_lt, Int.not_le, gt_iff_lt, ge_iff_le, Decidable.not_not] at p3
        refine any_quiet 17 30 (.func (.yield l) #[] #[]) (by kernel_rfl) rfl (by kernel_rfl) (by kernel_rfl) rfl rfl rfl rfl S (fun wq Sq => (run_pv rfl)) ?_
        refine any_quiet 18 31 (i64 ((n : Int) - 1)) (by kernel_rfl) rfl (by kernel_rfl) (by kernel_rfl) rfl rfl rfl rfl S (fun wq Sq => (run_pv rfl)) ?_
        refine any_loud1 19 (by kernel_rfl) rfl ?_
        refine ops_yield [i64 ((n : Int) - 1)] rfl rfl rfl rfl (hY pre ((n : Int) - 1) _ hJ (last_prefix base key known n pre (by omega) hpre (by unfold condB; simp only [h2, h3, Bool.true_and]))) ?_
        clear S; rintro e w3 ⟨hk, (⟨rfl, hJ'⟩ | ⟨rfl, hJx⟩)⟩
        · refine ⟨_, rfl, ?_⟩
          refine ops_nil ?_
          refine nrm_then ⟨fun h => (by cases h), ?_⟩
          refine any_pure 20 33 (.bool false) (by kernel_rfl) rfl (by kernel_rfl) rfl rfl rfl rfl (by kernel_rfl) (fun wq => (run_pv rfl)) ?_
          refine any_pure 21 34 (.bool false) (by kernel_rfl) rfl (by kernel_rfl) rfl rfl rfl rfl (by kernel_rfl) (fun wq => (run_pv rfl)) ?_
          refine any_done (by kernel_rfl) ?_
          refine nrm_then ?_
          refine w_cond_f rfl ?_
          refine w_skip ?_
          refine nrm_blk ?_
          refine nrm_then ?_
          refine w_region ?_
          refine ops_val 11 (i64 ((n : Int) - 1)) rfl rfl rfl rfl (run_pv rfl) ?_
          refine ops_val 12 (i64 (((n : Int) - 1) - 1)) rfl rfl rfl rfl (run_wr rfl (by omega) (by omega)) ?_
          refine ops_val 5 (i64 (((n : Int) - 1) - 1)) rfl rfl rfl rfl (run_pv rfl) ?_
          refine ops_nil ?_
          refine nrm_then ?_
          exact ⟨rfl, (n - 1, pre ++ [((n : Int) - 1)]), ⟨(by first | rfl | exact congrArg i64 (by omega)), (by first | rfl | exact congrArg i64 (by omega)), (by first | rfl | exact congrArg i64 (by omega)), (by first | rfl | exact congrArg i64 (by omega)), (by first | rfl | exact congrArg i64 (by omega)), trivial⟩, ⟨by omega, hJ', (by rw [← hpre, lastFrom_step base key known n (by omega), show condB base key known ((n : Int) - 1) = true from by unfold condB; simp only [h2, h3, Bool.true_and, Bool.false_and]]; simp)⟩, by dsimp only; omega⟩
        · refine ⟨_, rfl, ?_⟩
          refine ops_nil ?_
          refine nrm_then ⟨fun h => (by cases h), ?_⟩
          refine any_pure 20 33 (.bool true) (by kernel_rfl) rfl (by kernel_rfl) rfl rfl rfl rfl (by kernel_rfl) (fun wq => (run_pv rfl)) ?_
          refine any_pure 21 34 (.bool true) (by kernel_rfl) rfl (by kernel_rfl) rfl rfl rfl rfl (by kernel_rfl) (fun wq => (run_pv rfl)) ?_
          refine any_done (by kernel_rfl) ?_
          refine nrm_then ?_
          refine w_cond_t rfl ?_
          refine w_ret ?_
          refine ret_blk ?_
          refine ret_then ?_
          refine ret_then ?_
          refine ret_blk ?_
          refine finM0 rfl ?_
          exact .inr ⟨_, last_prefix base key known n pre (by omega) hpre (by unfold condB; simp only [h2, h3, Bool.true_and]), hJx⟩
      · have p3 := h3; try simp only [decide_eq_true_eq, decide_eq_false_iff_not, Bool.and_eq_true, Bool.or_eq_true, Bool.not_eq_true', Bool.or_eq_false_iff, Bool.not_eq_false', Int.not_lt, Int.not_le, gt_iff_lt, ge_iff_le, Decidable.not_not] at p3
        refine any_pass 17 30 (by kernel_rfl) rfl (by kernel_rfl) rfl rfl rfl rfl (sd_of S) ?_
        refine any_pass 18 31 (by kernel_rfl) rfl (by kernel_rfl) rfl rfl rfl rfl (sd_of S) ?_
        refine any_loud1 19 (by kernel_rfl) rfl ?_
        refine ops_skip 32 rfl rfl rfl ?_
        refine ops_nil ?_
        refine nrm_then ⟨fun _ => S, ?_⟩
        refine any_pass 20 33 (by kernel_rfl) rfl (by kernel_rfl) rfl rfl rfl rfl (sd_done (by kernel_rfl)) ?_
        refine any_pure 21 34 (.bool false) (by kernel_rfl) rfl (by kernel_rfl) rfl rfl rfl rfl (by kernel_rfl) (fun wq => (run_pv rfl)) ?_
        refine any_done (by kernel_rfl) ?_
        refine nrm_then ?_
        refine w_cond_f rfl ?_
        refine w_skip ?_
        refine nrm_blk ?_
        refine nrm_then ?_
        refine w_region ?_
        refine ops_val 11 (i64 ((n : Int) - 1)) rfl rfl rfl rfl (run_pv rfl) ?_
        refine ops_val 12 (i64 (((n : Int) - 1) - 1)) rfl rfl rfl rfl (run_wr rfl (by omega) (by omega)) ?_
        refine ops_val 5 (i64 (((n : Int) - 1) - 1)) rfl rfl rfl rfl (run_pv rfl) ?_
        refine ops_nil ?_
        refine nrm_then ?_
        exact ⟨rfl, (n - 1, pre), ⟨(by first | rfl | exact congrArg i64 (by omega)), (by first | rfl | exact congrArg i64 (by omega)), (by first | rfl | exact congrArg i64 (by omega)), (by first | rfl | exact congrArg i64 (by omega)), (by first | rfl | exact congrArg i64 (by omega)), trivial⟩, ⟨by omega, hJ, (by rw [← hpre, lastFrom_step base key known n (by omega), show condB base key known ((n : Int) - 1) = false from by unfold condB; simp only [h2, h3, Bool.true_and, Bool.false_and]]; simp)⟩, by dsimp only; omega⟩
    · have p2 := h2; try simp only [decide_eq_true_eq, decide_eq_false_iff_not, Bool.and_eq_true, Bool.or_eq_true, Bool.not_eq_true', Bool.or_eq_false_iff, Bool.not_eq_false', Int.not_lt, Int.not_le, gt_iff_lt, ge_iff_le, Decidable.not_not] at p2
      refine any_pass 8 21 (by kernel_rfl) rfl (by kernel_rfl) rfl rfl rfl rfl (sd_of S) ?_
      refine any_pass 9 22 (by kernel_rfl) rfl (by kernel_rfl) rfl rfl rfl rfl (sd_of S) ?_
      refine any_pass 10 23 (by kernel_rfl) rfl (by kernel_rfl) rfl rfl rfl rfl (sd_of S) ?_
      refine any_pass 11 24 (by kernel_rfl) rfl (by kernel_rfl) rfl rfl rfl rfl (sd_of S) ?_
      refine any_pass 12 25 (by kernel_rfl) rfl (by kernel_rfl) rfl rfl rfl rfl (sd_of S) ?_
      refine any_pass 13 26 (by kernel_rfl) rfl (by kernel_rfl) rfl rfl rfl rfl (sd_of S) ?_
      refine any_pass 14 27 (by kernel_rfl) rfl (by kernel_rfl) rfl rfl rfl rfl (sd_of S) ?_
      refine any_quiet 15 28 (.bool false) (by kernel_rfl) rfl (by kernel_rfl) (by kernel_rfl) rfl rfl rfl rfl S (fun wq Sq => (run_pv rfl)) ?_
      refine any_quiet 16 29 (.bool false) (by kernel_rfl) rfl (by kernel_rfl) (by kernel_rfl) rfl rfl rfl rfl S (fun wq Sq => (run_pv rfl)) ?_
      refine any_pass 17 30 (by kernel_rfl) rfl (by kernel_rfl) rfl rfl rfl rfl (sd_of S) ?_
      refine any_pass 18 31 (by kernel_rfl) rfl (by kernel_rfl) rfl rfl rfl rfl (sd_of S) ?_
      refine any_loud1 19 (by kernel_rfl) rfl ?_
      refine ops_skip 32 rfl rfl rfl ?_
      refine ops_nil ?_
      refine nrm_then ⟨fun _ => S, ?_⟩
      refine any_pass 20 33 (by kernel_rfl) rfl (by kernel_rfl) rfl rfl rfl rfl (sd_done (by kernel_rfl)) ?_
      refine any_pure 21 34 (.bool false) (by kernel_rfl) rfl (by kernel_rfl) rfl rfl rfl rfl (by kernel_rfl) (fun wq => (run_pv rfl)) ?_
      refine any_done (by kernel_rfl) ?_
      refine nrm_then ?_
      refine w_cond_f rfl ?_
      refine w_skip ?_
      refine nrm_blk ?_
      refine nrm_then ?_
      refine w_region ?_
      refine ops_val 11 (i64 ((n : Int) - 1)) rfl rfl rfl rfl (run_pv rfl) ?_
      refine ops_val 12 (i64 (((n : Int) - 1) - 1)) rfl rfl rfl rfl (run_wr rfl (by omega) (by omega)) ?_
      refine ops_val 5 (i64 (((n : Int) - 1) - 1)) rfl rfl rfl rfl (run_pv rfl) ?_
      refine ops_nil ?_
      refine nrm_then ?_
      exact ⟨rfl, (n - 1, pre), ⟨(by first | rfl | exact congrArg i64 (by omega)), (by first | rfl | exact congrArg i64 (by omega)), (by first | rfl | exact congrArg i64 (by omega)), (by first | rfl | exact congrArg i64 (by omega)), (by first | rfl | exact congrArg i64 (by omega)), trivial⟩, ⟨by omega, hJ, (by rw [← hpre, lastFrom_step base key known n (by omega), show condB base key known ((n : Int) - 1) = false from by unfold condB; simp only [h2, Bool.true_and, Bool.false_and]]; simp)⟩, by dsimp only; omega⟩
  · have p1 := h1; try simp only [decide_eq_true_eq, decide_eq_false_iff_not, Bool.and_eq_true, Bool.or_eq_true, Bool.not_eq_true', Bool.or_eq_false_iff, Bool.not_eq_false', Int.not_lt, Int.not_le, gt_iff_lt, ge_iff_le, Decidable.not_not] at p1
    refine w_exit ?_
    refine exit_then ?_
    refine exit_then ?_
    refine exit_blk ?_
    refine finM_nrm ?_
    refine finM0 rfl ?_
    have hn0 : n = 0 := by omega
    subst hn0
    rw [← hpre]
    left
    simpa [lastFrom] using hJ
theorem counts_is (vbase : Value) (base : List Fact) (key : List UInt8) (day : Int) (known : Int) (w : World) (hbase : Rd w encFact 5 vbase base) : FnIs Try.prog 28 [vbase, str key, i64 day, i64 known] w (i64 (countsOf base key day known)) := by
  refine fn_of_wpM (N := 32) Try.func28 rfl rfl rfl ?_
  intro S
  have hlen := hbase.len
  refine w_seq ?_
  refine w_region ?_
  refine ops_box [vbase] S rfl rfl (Rd.cells (St.rd S hbase)) ?_
  clear S; intro b1 w1 S
  refine ops_box [i64 day] S rfl rfl rfl ?_
  clear S; intro b2 w2 S
  refine ops_alloc [i64 0] ze3 S rfl rfl ?_
  clear S; intro b3 w3 S
  refine ops_nil ?_
  refine nrm_then ?_
  refine w_seq ?_
  refine w_seq ?_
  refine w_region ?_
  refine ops_val 10 (vbase) rfl rfl rfl rfl (run_load_scal sc22 rfl (St.cell S (n := 2) rfl rfl)) ?_
  refine ops_val 11 (str key) rfl rfl rfl rfl (run_pv rfl) ?_
  refine ops_val 12 (i64 known) rfl rfl rfl rfl (run_pv rfl) ?_
  refine ops_callHands [vbase, str key, i64 known] S rfl rfl hb34 rfl (last_hands vbase base key known _ (St.rd S hbase)) ?_
  clear S; rintro ⟨c1, c2, c3⟩ w4 S
  replace S : Eng.St w [.blk c1 [vbase] 22, .blk c2 [str key] 9, .blk c3 [i64 known] 3, .blk b3 [i64 0] 3, .blk b2 [i64 day] 3, .blk b1 [vbase] 22] w4 := S
  refine ops_nil ?_
  refine nrm_then ?_
  refine w_block ?_
  refine w_slots [(4, .pointer (some ⟨b1, 0, none⟩)), (6, .pointer (some ⟨b2, 0, none⟩)), (8, .pointer (some ⟨b3, 0, none⟩)), (13, .func (.func 40) #[] #[.pointer (some ⟨c1, 0, none⟩), .pointer (some ⟨c2, 0, none⟩), .pointer (some ⟨c3, 0, none⟩)])] ⟨rfl, rfl, rfl, rfl, trivial⟩ ?_
  intro ρ0; have hsz := S.size
  refine w_range (encs := fun i : Int => [i64 i]) (lb := [.pointer (some ⟨c1, 0, none⟩), .pointer (some ⟨c2, 0, none⟩), .pointer (some ⟨c3, 0, none⟩)]) rfl hb40 (last1_iter c1 c2 c3 vbase base key known) (fun _ => rfl) rfl
    (fun pre W => Eng.St w [.blk c1 [vbase] 22, .blk c2 [str key] 9, .blk c3 [i64 known] 3, .blk b3 [i64 0] 3, .blk b2 [i64 day] 3, .blk b1 [vbase] 22] W ∧ ∀ i ∈ pre, hitB base day i = false)
    (fun c pre W => ∃ (i : Int) (pre' : List Int), pre = pre' ++ [i] ∧ (∀ j ∈ pre', hitB base day j = false) ∧ hitB base day i = true ∧ c = .ret ∧ Eng.St w [.blk c1 [vbase] 22, .blk c2 [str key] 9, .blk c3 [i64 known] 3, .blk b3 [i64 i] 3, .blk b2 [i64 day] 3, .blk b1 [vbase] 22] W)
    (fun pre => Stable.and (Eng.St.stable rfl hsz) (Stable.pure_ _ _)) (fun c pre W W' row ⟨i, pre', h1, h2, h3, h4, S⟩ hg hr => ⟨i, pre', h1, h2, h3, h4, Eng.St.stable rfl hsz W W' row S hg hr⟩)
    (fun pre W ⟨S, _⟩ => ⟨S.cell (n := 0) rfl rfl, S.cell (n := 1) rfl rfl, S.cell (n := 2) rfl rfl, S.rd hbase⟩) ⟨S, by simp⟩
    (fun i => upd (upd (upds [(4, .pointer (some ⟨b1, 0, none⟩)), (6, .pointer (some ⟨b2, 0, none⟩)), (8, .pointer (some ⟨b3, 0, none⟩)), (13, .func (.func 40) #[] #[.pointer (some ⟨c1, 0, none⟩), .pointer (some ⟨c2, 0, none⟩), .pointer (some ⟨c3, 0, none⟩)])] ρ0) 14 (i64 i)) 9 (i64 i)) ?_ ?_ ?_ ?_ ?_
  · intro l i W; refine w_region ?_; refine ops_val 9 (i64 i) rfl rfl rfl rfl (run_pv rfl) ?_; refine ops_nil ?_; exact ⟨rfl, rfl, rfl⟩
  · rintro l pre i W hl ⟨S, hpre⟩ hpx
    have hib := lastIdx_mem base key known i (hpx.subset (by simp))
    have hi1 := hib.1; have hi2 := hib.2; clear hib
    replace S := S.objs
    refine w_block ?_
    refine w_seq ?_
    refine w_cut [(8, .pointer (some ⟨b3, 0, none⟩)), (9, i64 i), (30, .bool ((decide ((base.getD i.toNat default).from_ ≤ day)) && (decide (day < (endOf (base.getD i.toNat default))))))] (fun w' => Eng.St w [.objs W, .blk c1 [vbase] 22, .blk c2 [str key] 9, .blk c3 [i64 known] 3, .blk b3 [i64 0] 3, .blk b2 [i64 day] 3, .blk b1 [vbase] 22] w') ?_ ?_
    · refine w_draw 1000000 (fun w' => Eng.St w [.objs W, .blk c1 [vbase] 22, .blk c2 [str key] 9, .blk c3 [i64 known] 3, .blk b3 [i64 0] 3, .blk b2 [i64 day] 3, .blk b1 [vbase] 22] w') Try.mixed ?_
      intro w5 hw'; replace S := Eng.St.drew S; rw [← hw'] at S
      clear hw'
      refine any_quiet 0 15 (vbase) (by kernel_rfl) rfl (by kernel_rfl) (by kernel_rfl) rfl rfl rfl rfl S (fun wq Sq => (run_load_scal sc22 rfl (St.cell Sq (n := 6) rfl rfl))) ?_
      refine any_quiet 1 16 (i64 i) (by kernel_rfl) rfl (by kernel_rfl) (by kernel_rfl) rfl rfl rfl rfl S (fun wq Sq => (run_pv rfl)) ?_
      refine any_quiet 2 17 (.pointer (some ((adr vbase).add (i.toNat * 5)))) (by kernel_rfl) rfl (by kernel_rfl) (by kernel_rfl) rfl rfl rfl rfl S (fun wq Sq => (run_index_rdI sl22 (St.rd Sq hbase) rfl rfl (by omega) (by omega))) ?_
      refine any_quiet 3 18 (.pointer (some (((adr vbase).add (i.toNat * 5)).add 2))) (by kernel_rfl) rfl (by kernel_rfl) (by kernel_rfl) rfl rfl rfl rfl S (fun wq Sq => (run_fieldAddr fd24_2 rfl)) ?_
      refine any_quiet 4 19 (i64 ((base.getD i.toNat default).from_)) (by kernel_rfl) rfl (by kernel_rfl) (by kernel_rfl) rfl rfl rfl rfl S (fun wq Sq => (run_load_scal sc3 rfl (Rd.at' (d := default) (j := 2) (St.rd Sq hbase) (by omega) rfl))) ?_
      refine any_quiet 5 20 (i64 day) (by kernel_rfl) rfl (by kernel_rfl) (by kernel_rfl) rfl rfl rfl rfl S (fun wq Sq => (run_load_scal sc3 rfl (St.cell Sq (n := 5) rfl rfl))) ?_
      refine any_quiet 6 21 (.bool (decide ((base.getD i.toNat default).from_ ≤ day))) (by kernel_rfl) rfl (by kernel_rfl) (by kernel_rfl) rfl rfl rfl rfl S (fun wq Sq => (run_pv rfl)) ?_
      refine any_quiet 7 22 (.bool (decide ((base.getD i.toNat default).from_ ≤ day))) (by kernel_rfl) rfl (by kernel_rfl) (by kernel_rfl) rfl rfl rfl rfl S (fun wq Sq => (run_pv rfl)) ?_
      refine any_case 22 (decide ((base.getD i.toNat default).from_ ≤ day)) rfl (fun h1 => ?_) (fun h1 => ?_)
      · have p1 := h1; try simp only [decide_eq_true_eq, decide_eq_false_iff_not, Bool.and_eq_true, Bool.or_eq_true, Bool.not_eq_true', Bool.or_eq_false_iff, Bool.not_eq_false', Int.not_lt, Int.not_le, gt_iff_lt, ge_iff_le, Decidable.not_not] at p1
        refine any_quiet 8 23 (i64 day) (by kernel_rfl) rfl (by kernel_rfl) (by kernel_rfl) rfl rfl rfl rfl S (fun wq Sq => (run_load_scal sc3 rfl (St.cell Sq (n := 5) rfl rfl))) ?_
        refine any_quiet 9 24 (vbase) (by kernel_rfl) rfl (by kernel_rfl) (by kernel_rfl) rfl rfl rfl rfl S (fun wq Sq => (run_load_scal sc22 rfl (St.cell Sq (n := 6) rfl rfl))) ?_
        refine any_quiet 10 25 (i64 i) (by kernel_rfl) rfl (by kernel_rfl) (by kernel_rfl) rfl rfl rfl rfl S (fun wq Sq => (run_pv rfl)) ?_
        refine any_quiet 11 26 (.pointer (some ((adr vbase).add (i.toNat * 5)))) (by kernel_rfl) rfl (by kernel_rfl) (by kernel_rfl) rfl rfl rfl rfl S (fun wq Sq => (run_index_rdI sl22 (St.rd Sq hbase) rfl rfl (by omega) (by omega))) ?_
        refine any_quiet 12 27 (aggFact (base.getD i.toNat default)) (by kernel_rfl) rfl (by kernel_rfl) (by kernel_rfl) rfl rfl rfl rfl S (fun wq Sq => (run_load_agg (encFact (base.getD i.toNat default)) ag24 rfl rfl (Rd.each (d := default) (St.rd Sq hbase) (by omega)))) ?_
        refine any_loud1 13 (by kernel_rfl) rfl ?_
        refine ops_callIs [aggFact (base.getD i.toNat default)] (i64 (endOf (base.getD i.toNat default))) S rfl rfl hb35 rfl (end_is (base.getD i.toNat default) _  ) ?_
        clear S; intro w6 S
        refine ops_nil ?_
        refine nrm_then ⟨fun _ => S, ?_⟩
        refine any_quiet 14 29 (.bool (decide (day < (endOf (base.getD i.toNat default))))) (by kernel_rfl) rfl (by kernel_rfl) (by kernel_rfl) rfl rfl rfl rfl S (fun wq Sq => (run_pv rfl)) ?_
        refine any_quiet 15 30 (.bool (decide (day < (endOf (base.getD i.toNat default))))) (by kernel_rfl) rfl (by kernel_rfl) (by kernel_rfl) rfl rfl rfl rfl S (fun wq Sq => (run_pv rfl)) ?_
        refine any_done (by kernel_rfl) ?_
        refine nrm_then ?_
        exact ⟨⟨rfl, rfl, congrArg Value.bool (by simp only [h1, Bool.true_and, Bool.false_and, Bool.and_true, Bool.and_false, Bool.true_or, Bool.false_or, Bool.or_true, Bool.or_false, Bool.not_true, Bool.not_false]), trivial⟩, rfl, S⟩
      · have p1 := h1; try simp only [decide_eq_true_eq, decide_eq_false_iff_not, Bool.and_eq_true, Bool.or_eq_true, Bool.not_eq_true', Bool.or_eq_false_iff, Bool.not_eq_false', Int.not_lt, Int.not_le, gt_iff_lt, ge_iff_le, Decidable.not_not] at p1
        refine any_pass 8 23 (by kernel_rfl) rfl (by kernel_rfl) rfl rfl rfl rfl (sd_of S) ?_
        refine any_pass 9 24 (by kernel_rfl) rfl (by kernel_rfl) rfl rfl rfl rfl (sd_of S) ?_
        refine any_pass 10 25 (by kernel_rfl) rfl (by kernel_rfl) rfl rfl rfl rfl (sd_of S) ?_
        refine any_pass 11 26 (by kernel_rfl) rfl (by kernel_rfl) rfl rfl rfl rfl (sd_of S) ?_
        refine any_pass 12 27 (by kernel_rfl) rfl (by kernel_rfl) rfl rfl rfl rfl (sd_of S) ?_
        refine any_pass 13 28 (by kernel_rfl) rfl (by kernel_rfl) rfl rfl rfl rfl (sd_of S) ?_
        refine any_pass 14 29 (by kernel_rfl) rfl (by kernel_rfl) rfl rfl rfl rfl (sd_of S) ?_
        refine any_quiet 15 30 (.bool false) (by kernel_rfl) rfl (by kernel_rfl) (by kernel_rfl) rfl rfl rfl rfl S (fun wq Sq => (run_pv rfl)) ?_
        refine any_done (by kernel_rfl) ?_
        refine nrm_then ?_
        exact ⟨⟨rfl, rfl, congrArg Value.bool (by simp only [h1, Bool.true_and, Bool.false_and, Bool.and_true, Bool.and_false, Bool.true_or, Bool.false_or, Bool.or_true, Bool.or_false, Bool.not_true, Bool.not_false]), trivial⟩, rfl, S⟩
    · clear S; intro ρ0 w7 S
      refine nrm_then ?_
      refine w_cond ((decide ((base.getD i.toNat default).from_ ≤ day)) && (decide (day < (endOf (base.getD i.toNat default))))) rfl (fun h2 => ?_) (fun h2 => ?_)
      · have p2 := h2; try simp only [decide_eq_true_eq, decide_eq_false_iff_not, Bool.and_eq_true, Bool.or_eq_true, Bool.not_eq_true', Bool.or_eq_false_iff, Bool.not_eq_false', Int.not_lt, Int.not_le, gt_iff_lt, ge_iff_le, Decidable.not_not] at p2
        refine w_seq ?_
        refine w_region ?_
        refine ops_val 31 (i64 i) rfl rfl rfl rfl (run_pv rfl) ?_
        replace S := S.f4
        refine ops_store (off := 0) (us := [i64 i]) [i64 i] S rfl (Scal.size sc3) rfl rfl rfl rfl (Nat.le_of_ble_eq_true rfl) rfl ?_
        clear S; intro w8 S
        refine ops_nil ?_
        refine nrm_then ?_
        refine w_ret ?_
        refine ret_blk ?_
        have hkp := fun B => S.keeps (n := 1) rfl B
        replace S := S.f1
        replace S := S.drop
        replace S := S.f5
        replace S := S.f5
        replace S := S.f2
        replace S := S.f5
        replace S := S.f5
        replace S := S.f5
        exact ⟨hkp _, i, pre, rfl, hpre, h2, rfl, S⟩
      · have p2 := h2; try simp only [decide_eq_true_eq, decide_eq_false_iff_not, Bool.and_eq_true, Bool.or_eq_true, Bool.not_eq_true', Bool.or_eq_false_iff, Bool.not_eq_false', Int.not_lt, Int.not_le, gt_iff_lt, ge_iff_le, Decidable.not_not] at p2
        refine w_skip ?_
        refine nrm_blk ?_
        have hkp := fun B => S.keeps (n := 0) rfl B
        replace S := S.drop
        exact ⟨hkp _, S, fun j hj => (List.mem_append.1 hj).elim (hpre j) (fun hj => (by rw [List.mem_singleton.1 hj]; exact h2))⟩
  · rintro D W hD ⟨S, hpre⟩ hk
    replace S := S.addObj rfl (Nat.le_trans hsz hD) hk rfl
    refine nrm_blk ?_
    refine nrm_then ?_
    refine w_seq ?_
    refine w_region ?_
    replace S := S.f4
    refine ops_store (off := 0) (us := [i64 (-1)]) [i64 (-1)] S rfl (Scal.size sc3) rfl rfl rfl rfl (Nat.le_of_ble_eq_true rfl) rfl ?_
    clear S; intro w9 S
    refine ops_nil ?_
    refine nrm_then ?_
    refine w_ret ?_
    replace S := S.f1
    refine finM_cell (n := 0) (v := i64 (-1)) rfl sc3 S rfl rfl rfl rfl (fun _ => ?_)
    exact congrArg i64 (counts_none hpre).symm
  · rintro D pre W hD hp ⟨i, pre', rfl, hno, hyes, _, S⟩ hk
    replace S := S.addObj rfl (Nat.le_trans hsz hD) hk rfl
    refine ret_blk ?_
    refine ret_then ?_
    refine finM_cell (n := 3) (v := i64 i) rfl sc3 S rfl rfl rfl rfl (fun _ => ?_)
    exact congrArg i64 (counts_hit hp hno hyes).symm
  · rintro id D pre W hD hp ⟨i, pre', _, _, _, h, _⟩ hk; cases h
theorem at_is (vbase : Value) (base : List Fact) (key : List UInt8) (day : Int) (known : Int) (w : World) (hbase : Rd w encFact 5 vbase base) : FnIs Try.prog 11 [vbase, str key, i64 day, i64 known] w (.tuple #[i64 ((atOf base key day known).1), .bool ((atOf base key day known).2)]) := by
  refine fn_of_wp (N := 34) Try.func11 rfl rfl rfl ?_
  intro S
  have hlen := hbase.len
  have hcr := countsOf_lt base key day known
  refine w_seq ?_
  refine w_region ?_
  refine ops_val 8 (i64 0) rfl rfl rfl rfl (run_pv rfl) ?_
  refine ops_val 9 (.bool false) rfl rfl rfl rfl (run_pv rfl) ?_
  refine ops_nil ?_
  refine nrm_then ?_
  refine w_seq ?_
  refine w_seq ?_
  refine w_cut [(0, vbase), (1, str key), (2, i64 day), (3, i64 known), (21, .bool (((decide (day < 0)) || (decide (day > 1073741824))) || (!(rightB base))))] (fun w' => Eng.St w [] w') ?_ ?_
  · refine w_region ?_
    refine ops_val 11 (i64 day) rfl rfl rfl rfl (run_pv rfl) ?_
    refine ops_val 12 (.bool (decide (day < 0))) rfl rfl rfl rfl (run_pv rfl) ?_
    refine ops_val 13 (.bool (decide (day < 0))) rfl rfl rfl rfl (run_pv rfl) ?_
    refine ops_case 13 (decide (day < 0)) rfl (fun h1 => ?_) (fun h1 => ?_)
    · have p1 := h1; try simp only [decide_eq_true_eq, decide_eq_false_iff_not, Bool.and_eq_true, Bool.or_eq_true, Bool.not_eq_true', Bool.or_eq_false_iff, Bool.not_eq_false', Int.not_lt, Int.not_le, gt_iff_lt, ge_iff_le, Decidable.not_not] at p1
      refine ops_skip 14 rfl rfl rfl ?_
      refine ops_skip 15 rfl rfl rfl ?_
      refine ops_val 16 (.bool true) rfl rfl rfl rfl (run_pv rfl) ?_
      refine ops_val 17 (.bool true) rfl rfl rfl rfl (run_pv rfl) ?_
      refine ops_skip 18 rfl rfl rfl ?_
      refine ops_skip 19 rfl rfl rfl ?_
      refine ops_skip 20 rfl rfl rfl ?_
      refine ops_val 21 (.bool true) rfl rfl rfl rfl (run_pv rfl) ?_
      refine ops_nil ?_
      refine nrm_then ?_
      exact ⟨⟨rfl, rfl, rfl, rfl, congrArg Value.bool (by simp only [h1, Bool.true_and, Bool.false_and, Bool.and_true, Bool.and_false, Bool.true_or, Bool.false_or, Bool.or_true, Bool.or_false, Bool.not_true, Bool.not_false]), trivial⟩, rfl, S⟩
    · have p1 := h1; try simp only [decide_eq_true_eq, decide_eq_false_iff_not, Bool.and_eq_true, Bool.or_eq_true, Bool.not_eq_true', Bool.or_eq_false_iff, Bool.not_eq_false', Int.not_lt, Int.not_le, gt_iff_lt, ge_iff_le, Decidable.not_not] at p1
      refine ops_val 14 (i64 day) rfl rfl rfl rfl (run_pv rfl) ?_
      refine ops_val 15 (.bool (decide (day > 1073741824))) rfl rfl rfl rfl (run_pv rfl) ?_
      refine ops_val 16 (.bool (decide (day > 1073741824))) rfl rfl rfl rfl (run_pv rfl) ?_
      refine ops_val 17 (.bool (decide (day > 1073741824))) rfl rfl rfl rfl (run_pv rfl) ?_
      refine ops_case 17 (decide (day > 1073741824)) rfl (fun h2 => ?_) (fun h2 => ?_)
      · have p2 := h2; try simp only [decide_eq_true_eq, decide_eq_false_iff_not, Bool.and_eq_true, Bool.or_eq_true, Bool.not_eq_true', Bool.or_eq_false_iff, Bool.not_eq_false', Int.not_lt, Int.not_le, gt_iff_lt, ge_iff_le, Decidable.not_not] at p2
        refine ops_skip 18 rfl rfl rfl ?_
        refine ops_skip 19 rfl rfl rfl ?_
        refine ops_skip 20 rfl rfl rfl ?_
        refine ops_val 21 (.bool true) rfl rfl rfl rfl (run_pv rfl) ?_
        refine ops_nil ?_
        refine nrm_then ?_
        exact ⟨⟨rfl, rfl, rfl, rfl, congrArg Value.bool (by simp only [h1, h2, Bool.true_and, Bool.false_and, Bool.and_true, Bool.and_false, Bool.true_or, Bool.false_or, Bool.or_true, Bool.or_false, Bool.not_true, Bool.not_false]), trivial⟩, rfl, S⟩
      · have p2 := h2; try simp only [decide_eq_true_eq, decide_eq_false_iff_not, Bool.and_eq_true, Bool.or_eq_true, Bool.not_eq_true', Bool.or_eq_false_iff, Bool.not_eq_false', Int.not_lt, Int.not_le, gt_iff_lt, ge_iff_le, Decidable.not_not] at p2
        refine ops_val 18 (vbase) rfl rfl rfl rfl (run_pv rfl) ?_
        refine ops_callIs [vbase] (.bool (rightB base)) S rfl rfl hb15 rfl (right_is vbase base _ (St.rd S hbase) ) ?_
        clear S; intro w1 S
        refine ops_val 20 (.bool (!(rightB base))) rfl rfl rfl rfl (run_pv rfl) ?_
        refine ops_val 21 (.bool (!(rightB base))) rfl rfl rfl rfl (run_pv rfl) ?_
        refine ops_nil ?_
        refine nrm_then ?_
        exact ⟨⟨rfl, rfl, rfl, rfl, congrArg Value.bool (by simp only [h1, h2, Bool.true_and, Bool.false_and, Bool.and_true, Bool.and_false, Bool.true_or, Bool.false_or, Bool.or_true, Bool.or_false, Bool.not_true, Bool.not_false]), trivial⟩, rfl, S⟩
  · clear S; intro ρ0 w2 S
    refine nrm_then ?_
    refine w_cond (((decide (day < 0)) || (decide (day > 1073741824))) || (!(rightB base))) rfl (fun h3 => ?_) (fun h3 => ?_)
    · have p3 := h3; try simp only [decide_eq_true_eq, decide_eq_false_iff_not, Bool.and_eq_true, Bool.or_eq_true, Bool.not_eq_true', Bool.or_eq_false_iff, Bool.not_eq_false', Int.not_lt, Int.not_le, gt_iff_lt, ge_iff_le, Decidable.not_not] at p3
      refine w_seq ?_
      refine w_region ?_
      refine ops_val 8 (i64 0) rfl rfl rfl rfl (run_pv rfl) ?_
      refine ops_val 9 (.bool false) rfl rfl rfl rfl (run_pv rfl) ?_
      refine ops_nil ?_
      refine nrm_then ?_
      refine w_ret ?_
      refine ret_then ?_
      refine fin2 (v := i64 0) (v' := .bool false) rfl S rfl rfl ?_
      simp only [atOf, h3, if_true, Bool.false_eq_true, if_false, reduceIte]
    · have p3 := h3; try simp only [decide_eq_true_eq, decide_eq_false_iff_not, Bool.and_eq_true, Bool.or_eq_true, Bool.not_eq_true', Bool.or_eq_false_iff, Bool.not_eq_false', Int.not_lt, Int.not_le, gt_iff_lt, ge_iff_le, Decidable.not_not] at p3
      refine w_skip ?_
      refine nrm_then ?_
      refine w_seq ?_
      refine w_region ?_
      refine ops_val 22 (vbase) rfl rfl rfl rfl (run_pv rfl) ?_
      refine ops_val 23 (str key) rfl rfl rfl rfl (run_pv rfl) ?_
      refine ops_val 24 (i64 day) rfl rfl rfl rfl (run_pv rfl) ?_
      refine ops_val 25 (i64 known) rfl rfl rfl rfl (run_pv rfl) ?_
      refine ops_callIs [vbase, str key, i64 day, i64 known] (i64 (countsOf base key day known)) S rfl rfl hb28 rfl (counts_is vbase base key day known _ (St.rd S hbase) ) ?_
      clear S; intro w3 S
      refine ops_val 10 (i64 (countsOf base key day known)) rfl rfl rfl rfl (run_pv rfl) ?_
      refine ops_nil ?_
      refine nrm_then ?_
      refine w_seq ?_
      refine w_seq ?_
      refine w_region ?_
      refine ops_val 27 (i64 (countsOf base key day known)) rfl rfl rfl rfl (run_pv rfl) ?_
      refine ops_val 28 (.bool (decide ((countsOf base key day known) < 0))) rfl rfl rfl rfl (run_pv rfl) ?_
      refine ops_nil ?_
      refine nrm_then ?_
      refine w_cond (decide ((countsOf base key day known) < 0)) rfl (fun h4 => ?_) (fun h4 => ?_)
      · have p4 := h4; try simp only [decide_eq_true_eq, decide_eq_false_iff_not, Bool.and_eq_true, Bool.or_eq_true, Bool.not_eq_true', Bool.or_eq_false_iff, Bool.not_eq_false', Int.not_lt, Int.not_le, gt_iff_lt, ge_iff_le, Decidable.not_not] at p4
        refine w_seq ?_
        refine w_region ?_
        refine ops_val 8 (i64 0) rfl rfl rfl rfl (run_pv rfl) ?_
        refine ops_val 9 (.bool false) rfl rfl rfl rfl (run_pv rfl) ?_
        refine ops_nil ?_
        refine nrm_then ?_
        refine w_ret ?_
        refine ret_then ?_
        refine fin2 (v := i64 0) (v' := .bool false) rfl S rfl rfl ?_
        simp only [atOf, h3, h4, if_true, Bool.false_eq_true, if_false, reduceIte]
      · have p4 := h4; try simp only [decide_eq_true_eq, decide_eq_false_iff_not, Bool.and_eq_true, Bool.or_eq_true, Bool.not_eq_true', Bool.or_eq_false_iff, Bool.not_eq_false', Int.not_lt, Int.not_le, gt_iff_lt, ge_iff_le, Decidable.not_not] at p4
        refine w_skip ?_
        refine nrm_then ?_
        refine w_seq ?_
        refine w_region ?_
        refine ops_val 29 (vbase) rfl rfl rfl rfl (run_pv rfl) ?_
        refine ops_val 30 (i64 (countsOf base key day known)) rfl rfl rfl rfl (run_pv rfl) ?_
        refine ops_val 31 (.pointer (some ((adr vbase).add ((countsOf base key day known).toNat * 5)))) rfl rfl rfl rfl (run_index_rdI sl22 (St.rd S hbase) rfl rfl (by omega) (by omega)) ?_
        refine ops_val 32 (.pointer (some (((adr vbase).add ((countsOf base key day known).toNat * 5)).add 1))) rfl rfl rfl rfl (run_fieldAddr fd24_1 rfl) ?_
        refine ops_val 33 (i64 ((base.getD (countsOf base key day known).toNat default).value)) rfl rfl rfl rfl (run_load_scal sc3 rfl (Rd.at' (d := default) (j := 1) (St.rd S hbase) (by omega) rfl)) ?_
        refine ops_val 8 (i64 ((base.getD (countsOf base key day known).toNat default).value)) rfl rfl rfl rfl (run_pv rfl) ?_
        refine ops_val 9 (.bool true) rfl rfl rfl rfl (run_pv rfl) ?_
        refine ops_nil ?_
        refine nrm_then ?_
        refine w_ret ?_
        refine fin2 (v := i64 ((base.getD (countsOf base key day known).toNat default).value)) (v' := .bool true) rfl S rfl rfl ?_
        simp only [atOf, h3, h4, if_true, Bool.false_eq_true, if_false, reduceIte]
theorem rright_is (vbase : Value) (base : List Fact) (w : World) (hbase : Rd w encFact 5 vbase base) : FnIs Try.prog 16 [vbase] w (.bool (rrightB base)) := by
  refine fn_of_wp (N := 35) Try.func16 rfl rfl rfl ?_
  intro S
  have hlen := hbase.len
  refine w_seq ?_
  refine w_region ?_
  refine ops_val 2 (.bool false) rfl rfl rfl rfl (run_pv rfl) ?_
  refine ops_nil ?_
  refine nrm_then ?_
  refine w_seq ?_
  refine w_seq ?_
  refine w_region ?_
  refine ops_val 4 (vbase) rfl rfl rfl rfl (run_pv rfl) ?_
  refine ops_val 5 (i64 (base.length : Int)) rfl rfl rfl rfl (run_len_rd Try.underlying22 (St.rd S hbase) rfl) ?_
  refine ops_val 6 (.bool (decide ((base.length : Int) > 5000))) rfl rfl rfl rfl (run_pv rfl) ?_
  refine ops_nil ?_
  refine nrm_then ?_
  refine w_cond (decide ((base.length : Int) > 5000)) rfl (fun h1 => ?_) (fun h1 => ?_)
  · have p1 := h1; try simp only [decide_eq_true_eq, decide_eq_false_iff_not, Bool.and_eq_true, Bool.or_eq_true, Bool.not_eq_true', Bool.or_eq_false_iff, Bool.not_eq_false', Int.not_lt, Int.not_le, gt_iff_lt, ge_iff_le, Decidable.not_not] at p1
    refine w_seq ?_
    refine w_region ?_
    refine ops_val 2 (.bool false) rfl rfl rfl rfl (run_pv rfl) ?_
    refine ops_nil ?_
    refine nrm_then ?_
    refine w_ret ?_
    refine ret_then ?_
    refine fin1 (v := .bool false) rfl S rfl ?_
    simp only [rrightB, h1, if_true]
  · have p1 := h1; try simp only [decide_eq_true_eq, decide_eq_false_iff_not, Bool.and_eq_true, Bool.or_eq_true, Bool.not_eq_true', Bool.or_eq_false_iff, Bool.not_eq_false', Int.not_lt, Int.not_le, gt_iff_lt, ge_iff_le, Decidable.not_not] at p1
    refine w_skip ?_
    refine nrm_then ?_
    refine w_seq ?_
    refine w_seq ?_
    refine w_region ?_
    refine ops_val 3 (i64 0) rfl rfl rfl rfl (run_pv rfl) ?_
    refine ops_nil ?_
    refine nrm_then ?_
    refine w_block ?_
    refine w_loop (G := Nat) (fun k => [(0, vbase), (3, i64 (k : Int))]) (fun k w' => Eng.St w [] w' ∧ (k ≤ base.length ∧ (List.range k).all (rokAt base) = true)) (fun k => base.length - k) (0) ⟨rfl, rfl, trivial⟩ ⟨S, Nat.zero_le _, rfl⟩ ?_
    clear S; rintro k ρ0 w1 ⟨S, hk, hall⟩
    refine w_seq ?_
    refine w_seq ?_
    refine w_region ?_
    refine ops_val 7 (i64 (k : Int)) rfl rfl rfl rfl (run_pv rfl) ?_
    refine ops_val 8 (vbase) rfl rfl rfl rfl (run_pv rfl) ?_
    refine ops_val 9 (i64 (base.length : Int)) rfl rfl rfl rfl (run_len_rd Try.underlying22 (St.rd S hbase) rfl) ?_
    refine ops_val 10 (.bool (decide ((k : Int) < (base.length : Int)))) rfl rfl rfl rfl (run_pv rfl) ?_
    refine ops_nil ?_
    refine nrm_then ?_
    refine w_cond (decide ((k : Int) < (base.length : Int))) rfl (fun h2 => ?_) (fun h2 => ?_)
    · have p2 := h2; try simp only [decide_eq_true_eq, decide_eq_false_iff_not, Bool.and_eq_true, Bool.or_eq_true, Bool.not_eq_true', Bool.or_eq_false_iff, Bool.not_eq_false', Int.not_lt, Int.not_le, gt_iff_lt, ge_iff_le, Decidable.not_not] at p2
      refine w_skip ?_
      refine nrm_then ?_
      refine w_seq ?_
      refine w_block ?_
      refine w_seq ?_
      refine w_seq ?_
      refine w_region ?_
      refine ops_val 13 (vbase) rfl rfl rfl rfl (run_pv rfl) ?_
      refine ops_val 14 (i64 (k : Int)) rfl rfl rfl rfl (run_pv rfl) ?_
      refine ops_val 15 (.pointer (some ((adr vbase).add (k * 5)))) rfl rfl rfl rfl (run_index_rd (i := k) sl22 (St.rd S hbase) rfl rfl (by omega)) ?_
      refine ops_val 16 (aggFact (base.getD k default)) rfl rfl rfl rfl (run_load_agg (encFact (base.getD k default)) ag24 rfl rfl (Rd.each (d := default) (St.rd S hbase) (by omega))) ?_
      refine ops_callIs [aggFact (base.getD k default)] (.bool (rvalidB (base.getD k default))) S rfl rfl hb27 rfl (rvalid_is (base.getD k default) _  ) ?_
      clear S; intro w2 S
      refine ops_val 18 (.bool (!(rvalidB (base.getD k default)))) rfl rfl rfl rfl (run_pv rfl) ?_
      refine ops_nil ?_
      refine nrm_then ?_
      refine w_cond (!(rvalidB (base.getD k default))) rfl (fun h3 => ?_) (fun h3 => ?_)
      · have p3 := h3; try simp only [decide_eq_true_eq, decide_eq_false_iff_not, Bool.and_eq_true, Bool.or_eq_true, Bool.not_eq_true', Bool.or_eq_false_iff, Bool.not_eq_false', Int.not_lt, Int.not_le, gt_iff_lt, ge_iff_le, Decidable.not_not] at p3
        refine w_seq ?_
        refine w_region ?_
        refine ops_val 2 (.bool false) rfl rfl rfl rfl (run_pv rfl) ?_
        refine ops_nil ?_
        refine nrm_then ?_
        refine w_ret ?_
        refine ret_then ?_
        refine ret_blk ?_
        refine ret_then ?_
        refine ret_then ?_
        refine ret_blk ?_
        refine ret_then ?_
        refine fin1 (v := .bool false) rfl S rfl ?_
        exact congrArg Value.bool (rright_no base k (by omega) (by simp only [rokAt, h1, h2, h3, Bool.not_true, Bool.true_or])).symm
      · have p3 := h3; try simp only [decide_eq_true_eq, decide_eq_false_iff_not, Bool.and_eq_true, Bool.or_eq_true, Bool.not_eq_true', Bool.or_eq_false_iff, Bool.not_eq_false', Int.not_lt, Int.not_le, gt_iff_lt, ge_iff_le, Decidable.not_not] at p3
        refine w_skip ?_
        refine nrm_then ?_
        refine w_seq ?_
        refine w_cut [(0, vbase), (3, i64 (k : Int)), (34, .bool ((decide ((k : Int) > 0)) && (decide ((base.getD k default).known < (base.getD ((k : Int) - 1).toNat default).known))))] (fun w' => Eng.St w [] w') ?_ ?_
        · refine w_draw 1000000 (fun w' => Eng.St w [] w') Try.mixed ?_
          intro w3 hw'; replace S := Eng.St.drew S; rw [← hw'] at S
          clear hw'
          refine any_quiet 0 19 (i64 (k : Int)) (by kernel_rfl) rfl (by kernel_rfl) (by kernel_rfl) rfl rfl rfl rfl S (fun wq Sq => (run_pv rfl)) ?_
          refine any_quiet 1 20 (.bool (decide ((k : Int) > 0))) (by kernel_rfl) rfl (by kernel_rfl) (by kernel_rfl) rfl rfl rfl rfl S (fun wq Sq => (run_pv rfl)) ?_
          refine any_quiet 2 21 (.bool (decide ((k : Int) > 0))) (by kernel_rfl) rfl (by kernel_rfl) (by kernel_rfl) rfl rfl rfl rfl S (fun wq Sq => (run_pv rfl)) ?_
          refine any_case 21 (decide ((k : Int) > 0)) rfl (fun h4 => ?_) (fun h4 => ?_)
          · have p4 := h4; try simp only [decide_eq_true_eq, decide_eq_false_iff_not, Bool.and_eq_true, Bool.or_eq_true, Bool.not_eq_true', Bool.or_eq_false_iff, Bool.not_eq_false', Int.not_lt, Int.not_le, gt_iff_lt, ge_iff_le, Decidable.not_not] at p4
            refine any_quiet 3 22 (vbase) (by kernel_rfl) rfl (by kernel_rfl) (by kernel_rfl) rfl rfl rfl rfl S (fun wq Sq => (run_pv rfl)) ?_
            refine any_quiet 4 23 (i64 (k : Int)) (by kernel_rfl) rfl (by kernel_rfl) (by kernel_rfl) rfl rfl rfl rfl S (fun wq Sq => (run_pv rfl)) ?_
            refine any_quiet 5 24 (.pointer (some ((adr vbase).add (k * 5)))) (by kernel_rfl) rfl (by kernel_rfl) (by kernel_rfl) rfl rfl rfl rfl S (fun wq Sq => (run_index_rd (i := k) sl22 (St.rd Sq hbase) rfl rfl (by omega))) ?_
            refine any_quiet 6 25 (.pointer (some (((adr vbase).add (k * 5)).add 4))) (by kernel_rfl) rfl (by kernel_rfl) (by kernel_rfl) rfl rfl rfl rfl S (fun wq Sq => (run_fieldAddr fd24_4 rfl)) ?_
            refine any_quiet 7 26 (i64 ((base.getD k default).known)) (by kernel_rfl) rfl (by kernel_rfl) (by kernel_rfl) rfl rfl rfl rfl S (fun wq Sq => (run_load_scal sc3 rfl (Rd.at' (d := default) (j := 4) (St.rd Sq hbase) (by omega) rfl))) ?_
            refine any_quiet 8 27 (vbase) (by kernel_rfl) rfl (by kernel_rfl) (by kernel_rfl) rfl rfl rfl rfl S (fun wq Sq => (run_pv rfl)) ?_
            refine any_quiet 9 28 (i64 (k : Int)) (by kernel_rfl) rfl (by kernel_rfl) (by kernel_rfl) rfl rfl rfl rfl S (fun wq Sq => (run_pv rfl)) ?_
            refine any_quiet 10 29 (i64 ((k : Int) - 1)) (by kernel_rfl) rfl (by kernel_rfl) (by kernel_rfl) rfl rfl rfl rfl S (fun wq Sq => (run_wr rfl (by omega) (by omega))) ?_
            refine any_quiet 11 30 (.pointer (some ((adr vbase).add (((k : Int) - 1).toNat * 5)))) (by kernel_rfl) rfl (by kernel_rfl) (by kernel_rfl) rfl rfl rfl rfl S (fun wq Sq => (run_index_rdI sl22 (St.rd Sq hbase) rfl rfl (by omega) (by omega))) ?_
            refine any_quiet 12 31 (.pointer (some (((adr vbase).add (((k : Int) - 1).toNat * 5)).add 4))) (by kernel_rfl) rfl (by kernel_rfl) (by kernel_rfl) rfl rfl rfl rfl S (fun wq Sq => (run_fieldAddr fd24_4 rfl)) ?_
            refine any_quiet 13 32 (i64 ((base.getD ((k : Int) - 1).toNat default).known)) (by kernel_rfl) rfl (by kernel_rfl) (by kernel_rfl) rfl rfl rfl rfl S (fun wq Sq => (run_load_scal sc3 rfl (Rd.at' (d := default) (j := 4) (St.rd Sq hbase) (by omega) rfl))) ?_
            refine any_quiet 14 33 (.bool (decide ((base.getD k default).known < (base.getD ((k : Int) - 1).toNat default).known))) (by kernel_rfl) rfl (by kernel_rfl) (by kernel_rfl) rfl rfl rfl rfl S (fun wq Sq => (run_pv rfl)) ?_
            refine any_quiet 15 34 (.bool (decide ((base.getD k default).known < (base.getD ((k : Int) - 1).toNat default).known))) (by kernel_rfl) rfl (by kernel_rfl) (by kernel_rfl) rfl rfl rfl rfl S (fun wq Sq => (run_pv rfl)) ?_
            refine any_done (by kernel_rfl) ?_
            refine nrm_then ?_
            exact ⟨⟨rfl, rfl, congrArg Value.bool (by simp only [h1, h2, h3, h4, Bool.true_and, Bool.false_and, Bool.and_true, Bool.and_false, Bool.true_or, Bool.false_or, Bool.or_true, Bool.or_false, Bool.not_true, Bool.not_false]), trivial⟩, rfl, S⟩
          · have p4 := h4; try simp only [decide_eq_true_eq, decide_eq_false_iff_not, Bool.and_eq_true, Bool.or_eq_true, Bool.not_eq_true', Bool.or_eq_false_iff, Bool.not_eq_false', Int.not_lt, Int.not_le, gt_iff_lt, ge_iff_le, Decidable.not_not] at p4
            refine any_pass 3 22 (by kernel_rfl) rfl (by kernel_rfl) rfl rfl rfl rfl (sd_of S) ?_
            refine any_pass 4 23 (by kernel_rfl) rfl (by kernel_rfl) rfl rfl rfl rfl (sd_of S) ?_
            refine any_pass 5 24 (by kernel_rfl) rfl (by kernel_rfl) rfl rfl rfl rfl (sd_of S) ?_
            refine any_pass 6 25 (by kernel_rfl) rfl (by kernel_rfl) rfl rfl rfl rfl (sd_of S) ?_
            refine any_pass 7 26 (by kernel_rfl) rfl (by kernel_rfl) rfl rfl rfl rfl (sd_of S) ?_
            refine any_pass 8 27 (by kernel_rfl) rfl (by kernel_rfl) rfl rfl rfl rfl (sd_of S) ?_
            refine any_pass 9 28 (by kernel_rfl) rfl (by kernel_rfl) rfl rfl rfl rfl (sd_of S) ?_
            refine any_pass 10 29 (by kernel_rfl) rfl (by kernel_rfl) rfl rfl rfl rfl (sd_of S) ?_
            refine any_pass 11 30 (by kernel_rfl) rfl (by kernel_rfl) rfl rfl rfl rfl (sd_of S) ?_
            refine any_pass 12 31 (by kernel_rfl) rfl (by kernel_rfl) rfl rfl rfl rfl (sd_of S) ?_
            refine any_pass 13 32 (by kernel_rfl) rfl (by kernel_rfl) rfl rfl rfl rfl (sd_of S) ?_
            refine any_pass 14 33 (by kernel_rfl) rfl (by kernel_rfl) rfl rfl rfl rfl (sd_of S) ?_
            refine any_quiet 15 34 (.bool false) (by kernel_rfl) rfl (by kernel_rfl) (by kernel_rfl) rfl rfl rfl rfl S (fun wq Sq => (run_pv rfl)) ?_
            refine any_done (by kernel_rfl) ?_
            refine nrm_then ?_
            exact ⟨⟨rfl, rfl, congrArg Value.bool (by simp only [h1, h2, h3, h4, Bool.true_and, Bool.false_and, Bool.and_true, Bool.and_false, Bool.true_or, Bool.false_or, Bool.or_true, Bool.or_false, Bool.not_true, Bool.not_false]), trivial⟩, rfl, S⟩
        · clear S; intro ρ0 w4 S
          refine nrm_then ?_
          refine w_cond ((decide ((k : Int) > 0)) && (decide ((base.getD k default).known < (base.getD ((k : Int) - 1).toNat default).known))) rfl (fun h5 => ?_) (fun h5 => ?_)
          · have p5 := h5; try simp only [decide_eq_true_eq, decide_eq_false_iff_not, Bool.and_eq_true, Bool.or_eq_true, Bool.not_eq_true', Bool.or_eq_false_iff, Bool.not_eq_false', Int.not_lt, Int.not_le, gt_iff_lt, ge_iff_le, Decidable.not_not] at p5
            refine w_seq ?_
            refine w_region ?_
            refine ops_val 2 (.bool false) rfl rfl rfl rfl (run_pv rfl) ?_
            refine ops_nil ?_
            refine nrm_then ?_
            refine w_ret ?_
            refine ret_blk ?_
            refine ret_then ?_
            refine ret_then ?_
            refine ret_blk ?_
            refine ret_then ?_
            refine fin1 (v := .bool false) rfl S rfl ?_
            exact congrArg Value.bool (rright_no base k (by omega) (by simp only [rokAt, h1, h2, h3, h5, Bool.not_true, Bool.or_true])).symm
          · have p5 := h5; try simp only [decide_eq_true_eq, decide_eq_false_iff_not, Bool.and_eq_true, Bool.or_eq_true, Bool.not_eq_true', Bool.or_eq_false_iff, Bool.not_eq_false', Int.not_lt, Int.not_le, gt_iff_lt, ge_iff_le, Decidable.not_not] at p5
            refine w_skip ?_
            refine nrm_blk ?_
            refine nrm_then ?_
            refine w_region ?_
            refine ops_val 11 (i64 (k : Int)) rfl rfl rfl rfl (run_pv rfl) ?_
            refine ops_val 12 (i64 ((k : Int) + 1)) rfl rfl rfl rfl (run_wr rfl (by omega) (by omega)) ?_
            refine ops_val 3 (i64 ((k : Int) + 1)) rfl rfl rfl rfl (run_pv rfl) ?_
            refine ops_nil ?_
            refine nrm_then ?_
            exact ⟨rfl, (k + 1), ⟨(by first | rfl | exact congrArg i64 (by omega)), (by first | rfl | exact congrArg i64 (by omega)), trivial⟩, ⟨S, by omega, by rw [List.range_succ, List.all_append, hall]; simp only [rokAt, h1, h2, h3, h5, List.all_cons, List.all_nil, Bool.not_false, Bool.and_true, Bool.or_false, Bool.or_self]⟩, by omega⟩
    · have p2 := h2; try simp only [decide_eq_true_eq, decide_eq_false_iff_not, Bool.and_eq_true, Bool.or_eq_true, Bool.not_eq_true', Bool.or_eq_false_iff, Bool.not_eq_false', Int.not_lt, Int.not_le, gt_iff_lt, ge_iff_le, Decidable.not_not] at p2
      refine w_exit ?_
      refine exit_then ?_
      refine exit_then ?_
      refine exit_blk ?_
      refine nrm_then ?_
      refine w_seq ?_
      refine w_region ?_
      refine ops_val 2 (.bool true) rfl rfl rfl rfl (run_pv rfl) ?_
      refine ops_nil ?_
      refine nrm_then ?_
      refine w_ret ?_
      refine fin1 (v := .bool true) rfl S rfl ?_
      obtain rfl : k = base.length := by omega
      simp only [rrightB, h1, hall, Bool.false_eq_true, if_false]
theorem few_is (vbase : Value) (base : List Fact) (w : World) (hbase : Rd w encFact 5 vbase base) : FnIs Try.prog 8 [vbase] w (.bool (fewB base)) := by
  refine fn_of_wp (N := 20) Try.func8 rfl rfl rfl ?_
  intro S
  have hlen := hbase.len
  refine w_seq ?_
  refine w_region ?_
  refine ops_val 2 (.bool false) rfl rfl rfl rfl (run_pv rfl) ?_
  refine ops_nil ?_
  refine nrm_then ?_
  refine w_seq ?_
  refine w_seq ?_
  refine w_region ?_
  refine ops_val 3 (i64 0) rfl rfl rfl rfl (run_pv rfl) ?_
  refine ops_nil ?_
  refine nrm_then ?_
  refine w_block ?_
  refine w_loop (G := Nat) (fun k => [(0, vbase), (3, i64 (k : Int))]) (fun k w' => Eng.St w [] w' ∧ (k ≤ base.length ∧ (List.range k).all (fun k => !decide (((base.getD k default).key.length : Int) > 40)) = true)) (fun k => base.length - k) (0) ⟨rfl, rfl, trivial⟩ ⟨S, Nat.zero_le _, rfl⟩ ?_
  clear S; rintro k ρ0 w1 ⟨S, hk, hall⟩
  refine w_seq ?_
  refine w_seq ?_
  refine w_region ?_
  refine ops_val 4 (i64 (k : Int)) rfl rfl rfl rfl (run_pv rfl) ?_
  refine ops_val 5 (vbase) rfl rfl rfl rfl (run_pv rfl) ?_
  refine ops_val 6 (i64 (base.length : Int)) rfl rfl rfl rfl (run_len_rd Try.underlying22 (St.rd S hbase) rfl) ?_
  refine ops_val 7 (.bool (decide ((k : Int) < (base.length : Int)))) rfl rfl rfl rfl (run_pv rfl) ?_
  refine ops_nil ?_
  refine nrm_then ?_
  refine w_cond (decide ((k : Int) < (base.length : Int))) rfl (fun h1 => ?_) (fun h1 => ?_)
  · have p1 := h1; try simp only [decide_eq_true_eq, decide_eq_false_iff_not, Bool.and_eq_true, Bool.or_eq_true, Bool.not_eq_true', Bool.or_eq_false_iff, Bool.not_eq_false', Int.not_lt, Int.not_le, gt_iff_lt, ge_iff_le, Decidable.not_not] at p1
    refine w_skip ?_
    refine nrm_then ?_
    refine w_seq ?_
    refine w_block ?_
    refine w_seq ?_
    refine w_region ?_
    refine ops_val 10 (vbase) rfl rfl rfl rfl (run_pv rfl) ?_
    refine ops_val 11 (i64 (k : Int)) rfl rfl rfl rfl (run_pv rfl) ?_
    refine ops_val 12 (.pointer (some ((adr vbase).add (k * 5)))) rfl rfl rfl rfl (run_index_rd (i := k) sl22 (St.rd S hbase) rfl rfl (by omega)) ?_
    refine ops_val 13 (.pointer (some (((adr vbase).add (k * 5)).add 0))) rfl rfl rfl rfl (run_fieldAddr fd24_0 rfl) ?_
    refine ops_val 14 (str ((base.getD k default).key)) rfl rfl rfl rfl (run_load_scal sc9 rfl (Rd.at' (d := default) (j := 0) (St.rd S hbase) (by omega) rfl)) ?_
    refine ops_val 15 (i64 (((base.getD k default).key).length : Int)) rfl rfl rfl rfl (run_len_str Try.underlying9 rfl) ?_
    refine ops_val 16 (.bool (decide ((((base.getD k default).key).length : Int) > 40))) rfl rfl rfl rfl (run_pv rfl) ?_
    refine ops_nil ?_
    refine nrm_then ?_
    refine w_cond (decide ((((base.getD k default).key).length : Int) > 40)) rfl (fun h2 => ?_) (fun h2 => ?_)
    · have p2 := h2; try simp only [decide_eq_true_eq, decide_eq_false_iff_not, Bool.and_eq_true, Bool.or_eq_true, Bool.not_eq_true', Bool.or_eq_false_iff, Bool.not_eq_false', Int.not_lt, Int.not_le, gt_iff_lt, ge_iff_le, Decidable.not_not] at p2
      refine w_seq ?_
      refine w_region ?_
      refine ops_val 2 (.bool false) rfl rfl rfl rfl (run_pv rfl) ?_
      refine ops_nil ?_
      refine nrm_then ?_
      refine w_ret ?_
      refine ret_blk ?_
      refine ret_then ?_
      refine ret_then ?_
      refine ret_blk ?_
      refine ret_then ?_
      refine fin1 (v := .bool false) rfl S rfl ?_
      unfold fewB; rw [all_no (k := k) (by omega) (by simp only [h1, h2, Bool.not_true])]; rfl
    · have p2 := h2; try simp only [decide_eq_true_eq, decide_eq_false_iff_not, Bool.and_eq_true, Bool.or_eq_true, Bool.not_eq_true', Bool.or_eq_false_iff, Bool.not_eq_false', Int.not_lt, Int.not_le, gt_iff_lt, ge_iff_le, Decidable.not_not] at p2
      refine w_skip ?_
      refine nrm_blk ?_
      refine nrm_then ?_
      refine w_region ?_
      refine ops_val 8 (i64 (k : Int)) rfl rfl rfl rfl (run_pv rfl) ?_
      refine ops_val 9 (i64 ((k : Int) + 1)) rfl rfl rfl rfl (run_wr rfl (by omega) (by omega)) ?_
      refine ops_val 3 (i64 ((k : Int) + 1)) rfl rfl rfl rfl (run_pv rfl) ?_
      refine ops_nil ?_
      refine nrm_then ?_
      exact ⟨rfl, (k + 1), ⟨(by first | rfl | exact congrArg i64 (by omega)), (by first | rfl | exact congrArg i64 (by omega)), trivial⟩, ⟨S, by omega, by rw [List.range_succ, List.all_append, hall]; simp only [h1, h2, List.all_cons, List.all_nil, Bool.not_false, Bool.and_true]⟩, by omega⟩
  · have p1 := h1; try simp only [decide_eq_true_eq, decide_eq_false_iff_not, Bool.and_eq_true, Bool.or_eq_true, Bool.not_eq_true', Bool.or_eq_false_iff, Bool.not_eq_false', Int.not_lt, Int.not_le, gt_iff_lt, ge_iff_le, Decidable.not_not] at p1
    refine w_exit ?_
    refine exit_then ?_
    refine exit_then ?_
    refine exit_blk ?_
    refine nrm_then ?_
    refine w_seq ?_
    refine w_region ?_
    refine ops_val 17 (vbase) rfl rfl rfl rfl (run_pv rfl) ?_
    refine ops_val 18 (i64 (base.length : Int)) rfl rfl rfl rfl (run_len_rd Try.underlying22 (St.rd S hbase) rfl) ?_
    refine ops_val 19 (.bool (decide ((base.length : Int) ≤ 16))) rfl rfl rfl rfl (run_pv rfl) ?_
    refine ops_val 2 (.bool (decide ((base.length : Int) ≤ 16))) rfl rfl rfl rfl (run_pv rfl) ?_
    refine ops_nil ?_
    refine nrm_then ?_
    refine w_ret ?_
    refine fin1 (v := .bool (decide ((base.length : Int) ≤ 16))) rfl S rfl ?_
    obtain rfl : k = base.length := by omega
    simp only [fewB, hall, Bool.true_and]
theorem rcounts_is (vbase : Value) (base : List Fact) (key : List UInt8) (day : Int) (known : Int) (w : World) (hbase : Rd w encFact 5 vbase base) : FnIs Try.prog 29 [vbase, str key, i64 day, i64 known] w (i64 (rcountsOf base key day known)) := by
  refine fn_of_wp (N := 43) Try.func29 rfl rfl rfl ?_
  intro S
  have hlen := hbase.len
  refine w_seq ?_
  refine w_region ?_
  refine ops_val 8 (i64 0) rfl rfl rfl rfl (run_pv rfl) ?_
  refine ops_nil ?_
  refine nrm_then ?_
  refine w_seq ?_
  refine w_region ?_
  refine ops_val 9 (i64 (-1)) rfl rfl rfl rfl (run_pv rfl) ?_
  refine ops_nil ?_
  refine nrm_then ?_
  refine w_seq ?_
  refine w_seq ?_
  refine w_region ?_
  refine ops_val 10 (i64 0) rfl rfl rfl rfl (run_pv rfl) ?_
  refine ops_nil ?_
  refine nrm_then ?_
  refine w_block ?_
  refine w_loop (G := Nat) (fun k => [(0, vbase), (1, str key), (2, i64 day), (3, i64 known), (9, i64 (rcTo base key day known k)), (10, i64 (k : Int))]) (fun k w' => Eng.St w [] w' ∧ (k ≤ base.length)) (fun k => base.length - k) (0) ⟨rfl, rfl, rfl, rfl, rfl, rfl, trivial⟩ ⟨S, Nat.zero_le _⟩ ?_
  clear S; rintro k ρ0 w1 ⟨S, hk⟩
  refine w_seq ?_
  refine w_seq ?_
  refine w_region ?_
  refine ops_val 11 (i64 (k : Int)) rfl rfl rfl rfl (run_pv rfl) ?_
  refine ops_val 12 (vbase) rfl rfl rfl rfl (run_pv rfl) ?_
  refine ops_val 13 (i64 (base.length : Int)) rfl rfl rfl rfl (run_len_rd Try.underlying22 (St.rd S hbase) rfl) ?_
  refine ops_val 14 (.bool (decide ((k : Int) < (base.length : Int)))) rfl rfl rfl rfl (run_pv rfl) ?_
  refine ops_nil ?_
  refine nrm_then ?_
  refine w_cond (decide ((k : Int) < (base.length : Int))) rfl (fun h1 => ?_) (fun h1 => ?_)
  · have p1 := h1; try simp only [decide_eq_true_eq, decide_eq_false_iff_not, Bool.and_eq_true, Bool.or_eq_true, Bool.not_eq_true', Bool.or_eq_false_iff, Bool.not_eq_false', Int.not_lt, Int.not_le, gt_iff_lt, ge_iff_le, Decidable.not_not] at p1
    refine w_skip ?_
    refine nrm_then ?_
    refine w_seq ?_
    refine w_block ?_
    refine w_seq ?_
    refine w_cut [(0, vbase), (1, str key), (2, i64 day), (3, i64 known), (9, i64 (rcTo base key day known k)), (10, i64 (k : Int)), (40, .bool (((decide ((base.getD k default).key = key)) && (decide ((base.getD k default).known ≤ known))) && (hasB (base.getD k default) day)))] (fun w' => Eng.St w [] w') ?_ ?_
    · refine w_region ?_
      refine ops_val 17 (vbase) rfl rfl rfl rfl (run_pv rfl) ?_
      refine ops_val 18 (i64 (k : Int)) rfl rfl rfl rfl (run_pv rfl) ?_
      refine ops_val 19 (.pointer (some ((adr vbase).add (k * 5)))) rfl rfl rfl rfl (run_index_rd (i := k) sl22 (St.rd S hbase) rfl rfl (by omega)) ?_
      refine ops_val 20 (.pointer (some (((adr vbase).add (k * 5)).add 0))) rfl rfl rfl rfl (run_fieldAddr fd24_0 rfl) ?_
      refine ops_val 21 (str ((base.getD k default).key)) rfl rfl rfl rfl (run_load_scal sc9 rfl (Rd.at' (d := default) (j := 0) (St.rd S hbase) (by omega) rfl)) ?_
      refine ops_val 22 (str key) rfl rfl rfl rfl (run_pv rfl) ?_
      refine ops_val 23 (.bool (decide ((base.getD k default).key = key))) rfl rfl rfl rfl (run_pv rfl) ?_
      refine ops_val 24 (.bool (decide ((base.getD k default).key = key))) rfl rfl rfl rfl (run_pv rfl) ?_
      refine ops_case 24 (decide ((base.getD k default).key = key)) rfl (fun h2 => ?_) (fun h2 => ?_)
      · have p2 := h2; try simp only [decide_eq_true_eq, decide_eq_false_iff_not, Bool.and_eq_true, Bool.or_eq_true, Bool.not_eq_true', Bool.or_eq_false_iff, Bool.not_eq_false', Int.not_lt, Int.not_le, gt_iff_lt, ge_iff_le, Decidable.not_not] at p2
        refine ops_val 25 (vbase) rfl rfl rfl rfl (run_pv rfl) ?_
        refine ops_val 26 (i64 (k : Int)) rfl rfl rfl rfl (run_pv rfl) ?_
        refine ops_val 27 (.pointer (some ((adr vbase).add (k * 5)))) rfl rfl rfl rfl (run_index_rd (i := k) sl22 (St.rd S hbase) rfl rfl (by omega)) ?_
        refine ops_val 28 (.pointer (some (((adr vbase).add (k * 5)).add 4))) rfl rfl rfl rfl (run_fieldAddr fd24_4 rfl) ?_
        refine ops_val 29 (i64 ((base.getD k default).known)) rfl rfl rfl rfl (run_load_scal sc3 rfl (Rd.at' (d := default) (j := 4) (St.rd S hbase) (by omega) rfl)) ?_
        refine ops_val 30 (i64 known) rfl rfl rfl rfl (run_pv rfl) ?_
        refine ops_val 31 (.bool (decide ((base.getD k default).known ≤ known))) rfl rfl rfl rfl (run_pv rfl) ?_
        refine ops_val 32 (.bool (decide ((base.getD k default).known ≤ known))) rfl rfl rfl rfl (run_pv rfl) ?_
        refine ops_val 33 (.bool (decide ((base.getD k default).known ≤ known))) rfl rfl rfl rfl (run_pv rfl) ?_
        refine ops_case 33 (decide ((base.getD k default).known ≤ known)) rfl (fun h3 => ?_) (fun h3 => ?_)
        · have p3 := h3; try simp only [decide_eq_true_eq, decide_eq_false_iff_not, Bool.and_eq_true, Bool.or_eq_true, Bool.not_eq_true', Bool.or_eq_false_iff, Bool.not_eq_false', Int.not_lt, Int.not_le, gt_iff_lt, ge_iff_le, Decidable.not_not] at p3
          refine ops_val 34 (vbase) rfl rfl rfl rfl (run_pv rfl) ?_
          refine ops_val 35 (i64 (k : Int)) rfl rfl rfl rfl (run_pv rfl) ?_
          refine ops_val 36 (.pointer (some ((adr vbase).add (k * 5)))) rfl rfl rfl rfl (run_index_rd (i := k) sl22 (St.rd S hbase) rfl rfl (by omega)) ?_
          refine ops_val 37 (aggFact (base.getD k default)) rfl rfl rfl rfl (run_load_agg (encFact (base.getD k default)) ag24 rfl rfl (Rd.each (d := default) (St.rd S hbase) (by omega))) ?_
          refine ops_val 38 (i64 day) rfl rfl rfl rfl (run_pv rfl) ?_
          refine ops_callIs [aggFact (base.getD k default), i64 day] (.bool (hasB (base.getD k default) day)) S rfl rfl hb23 rfl (has_is (base.getD k default) day _  ) ?_
          clear S; intro w2 S
          refine ops_val 40 (.bool (hasB (base.getD k default) day)) rfl rfl rfl rfl (run_pv rfl) ?_
          refine ops_nil ?_
          refine nrm_then ?_
          exact ⟨⟨rfl, rfl, rfl, rfl, rfl, rfl, congrArg Value.bool (by simp only [h1, h2, h3, Bool.true_and, Bool.false_and, Bool.and_true, Bool.and_false, Bool.true_or, Bool.false_or, Bool.or_true, Bool.or_false, Bool.not_true, Bool.not_false]), trivial⟩, rfl, S⟩
        · have p3 := h3; try simp only [decide_eq_true_eq, decide_eq_false_iff_not, Bool.and_eq_true, Bool.or_eq_true, Bool.not_eq_true', Bool.or_eq_false_iff, Bool.not_eq_false', Int.not_lt, Int.not_le, gt_iff_lt, ge_iff_le, Decidable.not_not] at p3
          refine ops_skip 34 rfl rfl rfl ?_
          refine ops_skip 35 rfl rfl rfl ?_
          refine ops_skip 36 rfl rfl rfl ?_
          refine ops_skip 37 rfl rfl rfl ?_
          refine ops_skip 38 rfl rfl rfl ?_
          refine ops_skip 39 rfl rfl rfl ?_
          refine ops_val 40 (.bool false) rfl rfl rfl rfl (run_pv rfl) ?_
          refine ops_nil ?_
          refine nrm_then ?_
          exact ⟨⟨rfl, rfl, rfl, rfl, rfl, rfl, congrArg Value.bool (by simp only [h1, h2, h3, Bool.true_and, Bool.false_and, Bool.and_true, Bool.and_false, Bool.true_or, Bool.false_or, Bool.or_true, Bool.or_false, Bool.not_true, Bool.not_false]), trivial⟩, rfl, S⟩
      · have p2 := h2; try simp only [decide_eq_true_eq, decide_eq_false_iff_not, Bool.and_eq_true, Bool.or_eq_true, Bool.not_eq_true', Bool.or_eq_false_iff, Bool.not_eq_false', Int.not_lt, Int.not_le, gt_iff_lt, ge_iff_le, Decidable.not_not] at p2
        refine ops_skip 25 rfl rfl rfl ?_
        refine ops_skip 26 rfl rfl rfl ?_
        refine ops_skip 27 rfl rfl rfl ?_
        refine ops_skip 28 rfl rfl rfl ?_
        refine ops_skip 29 rfl rfl rfl ?_
        refine ops_skip 30 rfl rfl rfl ?_
        refine ops_skip 31 rfl rfl rfl ?_
        refine ops_val 32 (.bool false) rfl rfl rfl rfl (run_pv rfl) ?_
        refine ops_val 33 (.bool false) rfl rfl rfl rfl (run_pv rfl) ?_
        refine ops_skip 34 rfl rfl rfl ?_
        refine ops_skip 35 rfl rfl rfl ?_
        refine ops_skip 36 rfl rfl rfl ?_
        refine ops_skip 37 rfl rfl rfl ?_
        refine ops_skip 38 rfl rfl rfl ?_
        refine ops_skip 39 rfl rfl rfl ?_
        refine ops_val 40 (.bool false) rfl rfl rfl rfl (run_pv rfl) ?_
        refine ops_nil ?_
        refine nrm_then ?_
        exact ⟨⟨rfl, rfl, rfl, rfl, rfl, rfl, congrArg Value.bool (by simp only [h1, h2, Bool.true_and, Bool.false_and, Bool.and_true, Bool.and_false, Bool.true_or, Bool.false_or, Bool.or_true, Bool.or_false, Bool.not_true, Bool.not_false]), trivial⟩, rfl, S⟩
    · clear S; intro ρ0 w3 S
      refine nrm_then ?_
      refine w_cond (((decide ((base.getD k default).key = key)) && (decide ((base.getD k default).known ≤ known))) && (hasB (base.getD k default) day)) rfl (fun h4 => ?_) (fun h4 => ?_)
      · have p4 := h4; try simp only [decide_eq_true_eq, decide_eq_false_iff_not, Bool.and_eq_true, Bool.or_eq_true, Bool.not_eq_true', Bool.or_eq_false_iff, Bool.not_eq_false', Int.not_lt, Int.not_le, gt_iff_lt, ge_iff_le, Decidable.not_not] at p4
        refine w_region ?_
        refine ops_val 41 (i64 (k : Int)) rfl rfl rfl rfl (run_pv rfl) ?_
        refine ops_val 9 (i64 (k : Int)) rfl rfl rfl rfl (run_pv rfl) ?_
        refine ops_nil ?_
        refine nrm_blk ?_
        refine nrm_then ?_
        refine w_region ?_
        refine ops_val 15 (i64 (k : Int)) rfl rfl rfl rfl (run_pv rfl) ?_
        refine ops_val 16 (i64 ((k : Int) + 1)) rfl rfl rfl rfl (run_wr rfl (by omega) (by omega)) ?_
        refine ops_val 10 (i64 ((k : Int) + 1)) rfl rfl rfl rfl (run_pv rfl) ?_
        refine ops_nil ?_
        refine nrm_then ?_
        exact ⟨rfl, (k + 1), ⟨(by first | rfl | exact congrArg i64 (by omega) | exact congrArg i64 (by simp only [rcTo, h1, h4, if_true, if_false, Bool.false_eq_true])), (by first | rfl | exact congrArg i64 (by omega) | exact congrArg i64 (by simp only [rcTo, h1, h4, if_true, if_false, Bool.false_eq_true])), (by first | rfl | exact congrArg i64 (by omega) | exact congrArg i64 (by simp only [rcTo, h1, h4, if_true, if_false, Bool.false_eq_true])), (by first | rfl | exact congrArg i64 (by omega) | exact congrArg i64 (by simp only [rcTo, h1, h4, if_true, if_false, Bool.false_eq_true])), (by first | rfl | exact congrArg i64 (by omega) | exact congrArg i64 (by simp only [rcTo, h1, h4, if_true, if_false, Bool.false_eq_true])), (by first | rfl | exact congrArg i64 (by omega) | exact congrArg i64 (by simp only [rcTo, h1, h4, if_true, if_false, Bool.false_eq_true])), trivial⟩, ⟨S, by omega⟩, by omega⟩
      · have p4 := h4; try simp only [decide_eq_true_eq, decide_eq_false_iff_not, Bool.and_eq_true, Bool.or_eq_true, Bool.not_eq_true', Bool.or_eq_false_iff, Bool.not_eq_false', Int.not_lt, Int.not_le, gt_iff_lt, ge_iff_le, Decidable.not_not] at p4
        refine w_skip ?_
        refine nrm_blk ?_
        refine nrm_then ?_
        refine w_region ?_
        refine ops_val 15 (i64 (k : Int)) rfl rfl rfl rfl (run_pv rfl) ?_
        refine ops_val 16 (i64 ((k : Int) + 1)) rfl rfl rfl rfl (run_wr rfl (by omega) (by omega)) ?_
        refine ops_val 10 (i64 ((k : Int) + 1)) rfl rfl rfl rfl (run_pv rfl) ?_
        refine ops_nil ?_
        refine nrm_then ?_
        exact ⟨rfl, (k + 1), ⟨(by first | rfl | exact congrArg i64 (by omega) | exact congrArg i64 (by simp only [rcTo, h1, h4, if_true, if_false, Bool.false_eq_true])), (by first | rfl | exact congrArg i64 (by omega) | exact congrArg i64 (by simp only [rcTo, h1, h4, if_true, if_false, Bool.false_eq_true])), (by first | rfl | exact congrArg i64 (by omega) | exact congrArg i64 (by simp only [rcTo, h1, h4, if_true, if_false, Bool.false_eq_true])), (by first | rfl | exact congrArg i64 (by omega) | exact congrArg i64 (by simp only [rcTo, h1, h4, if_true, if_false, Bool.false_eq_true])), (by first | rfl | exact congrArg i64 (by omega) | exact congrArg i64 (by simp only [rcTo, h1, h4, if_true, if_false, Bool.false_eq_true])), (by first | rfl | exact congrArg i64 (by omega) | exact congrArg i64 (by simp only [rcTo, h1, h4, if_true, if_false, Bool.false_eq_true])), trivial⟩, ⟨S, by omega⟩, by omega⟩
  · have p1 := h1; try simp only [decide_eq_true_eq, decide_eq_false_iff_not, Bool.and_eq_true, Bool.or_eq_true, Bool.not_eq_true', Bool.or_eq_false_iff, Bool.not_eq_false', Int.not_lt, Int.not_le, gt_iff_lt, ge_iff_le, Decidable.not_not] at p1
    refine w_exit ?_
    refine exit_then ?_
    refine exit_then ?_
    refine exit_blk ?_
    refine nrm_then ?_
    refine w_seq ?_
    refine w_region ?_
    refine ops_val 42 (i64 (rcTo base key day known k)) rfl rfl rfl rfl (run_pv rfl) ?_
    refine ops_val 8 (i64 (rcTo base key day known k)) rfl rfl rfl rfl (run_pv rfl) ?_
    refine ops_nil ?_
    refine nrm_then ?_
    refine w_ret ?_
    refine fin1 (v := i64 (rcTo base key day known k)) rfl S rfl ?_
    obtain rfl : k = base.length := by omega
    rfl
theorem rat_is (vbase : Value) (base : List Fact) (key : List UInt8) (day : Int) (known : Int) (w : World) (hbase : Rd w encFact 5 vbase base) : FnIs Try.prog 12 [vbase, str key, i64 day, i64 known] w (.tuple #[i64 ((ratOf base key day known).1), .bool ((ratOf base key day known).2)]) := by
  refine fn_of_wp (N := 34) Try.func12 rfl rfl rfl ?_
  intro S
  have hlen := hbase.len
  have hcr := rcountsOf_lt base key day known
  refine w_seq ?_
  refine w_region ?_
  refine ops_val 8 (i64 0) rfl rfl rfl rfl (run_pv rfl) ?_
  refine ops_val 9 (.bool false) rfl rfl rfl rfl (run_pv rfl) ?_
  refine ops_nil ?_
  refine nrm_then ?_
  refine w_seq ?_
  refine w_seq ?_
  refine w_cut [(0, vbase), (1, str key), (2, i64 day), (3, i64 known), (21, .bool (((!(rrightB base)) || (decide (day < 0))) || (decide (day > 1073741824))))] (fun w' => Eng.St w [] w') ?_ ?_
  · refine w_region ?_
    refine ops_val 11 (vbase) rfl rfl rfl rfl (run_pv rfl) ?_
    refine ops_callIs [vbase] (.bool (rrightB base)) S rfl rfl hb16 rfl (rright_is vbase base _ (St.rd S hbase) ) ?_
    clear S; intro w1 S
    refine ops_val 13 (.bool (!(rrightB base))) rfl rfl rfl rfl (run_pv rfl) ?_
    refine ops_val 14 (.bool (!(rrightB base))) rfl rfl rfl rfl (run_pv rfl) ?_
    refine ops_case 14 (!(rrightB base)) rfl (fun h1 => ?_) (fun h1 => ?_)
    · have p1 := h1; try simp only [decide_eq_true_eq, decide_eq_false_iff_not, Bool.and_eq_true, Bool.or_eq_true, Bool.not_eq_true', Bool.or_eq_false_iff, Bool.not_eq_false', Int.not_lt, Int.not_le, gt_iff_lt, ge_iff_le, Decidable.not_not] at p1
      refine ops_skip 15 rfl rfl rfl ?_
      refine ops_skip 16 rfl rfl rfl ?_
      refine ops_val 17 (.bool true) rfl rfl rfl rfl (run_pv rfl) ?_
      refine ops_val 18 (.bool true) rfl rfl rfl rfl (run_pv rfl) ?_
      refine ops_skip 19 rfl rfl rfl ?_
      refine ops_skip 20 rfl rfl rfl ?_
      refine ops_val 21 (.bool true) rfl rfl rfl rfl (run_pv rfl) ?_
      refine ops_nil ?_
      refine nrm_then ?_
      exact ⟨⟨rfl, rfl, rfl, rfl, congrArg Value.bool (by simp only [h1, Bool.true_and, Bool.false_and, Bool.and_true, Bool.and_false, Bool.true_or, Bool.false_or, Bool.or_true, Bool.or_false, Bool.not_true, Bool.not_false]), trivial⟩, rfl, S⟩
    · have p1 := h1; try simp only [decide_eq_true_eq, decide_eq_false_iff_not, Bool.and_eq_true, Bool.or_eq_true, Bool.not_eq_true', Bool.or_eq_false_iff, Bool.not_eq_false', Int.not_lt, Int.not_le, gt_iff_lt, ge_iff_le, Decidable.not_not] at p1
      refine ops_val 15 (i64 day) rfl rfl rfl rfl (run_pv rfl) ?_
      refine ops_val 16 (.bool (decide (day < 0))) rfl rfl rfl rfl (run_pv rfl) ?_
      refine ops_val 17 (.bool (decide (day < 0))) rfl rfl rfl rfl (run_pv rfl) ?_
      refine ops_val 18 (.bool (decide (day < 0))) rfl rfl rfl rfl (run_pv rfl) ?_
      refine ops_case 18 (decide (day < 0)) rfl (fun h2 => ?_) (fun h2 => ?_)
      · have p2 := h2; try simp only [decide_eq_true_eq, decide_eq_false_iff_not, Bool.and_eq_true, Bool.or_eq_true, Bool.not_eq_true', Bool.or_eq_false_iff, Bool.not_eq_false', Int.not_lt, Int.not_le, gt_iff_lt, ge_iff_le, Decidable.not_not] at p2
        refine ops_skip 19 rfl rfl rfl ?_
        refine ops_skip 20 rfl rfl rfl ?_
        refine ops_val 21 (.bool true) rfl rfl rfl rfl (run_pv rfl) ?_
        refine ops_nil ?_
        refine nrm_then ?_
        exact ⟨⟨rfl, rfl, rfl, rfl, congrArg Value.bool (by simp only [h1, h2, Bool.true_and, Bool.false_and, Bool.and_true, Bool.and_false, Bool.true_or, Bool.false_or, Bool.or_true, Bool.or_false, Bool.not_true, Bool.not_false]), trivial⟩, rfl, S⟩
      · have p2 := h2; try simp only [decide_eq_true_eq, decide_eq_false_iff_not, Bool.and_eq_true, Bool.or_eq_true, Bool.not_eq_true', Bool.or_eq_false_iff, Bool.not_eq_false', Int.not_lt, Int.not_le, gt_iff_lt, ge_iff_le, Decidable.not_not] at p2
        refine ops_val 19 (i64 day) rfl rfl rfl rfl (run_pv rfl) ?_
        refine ops_val 20 (.bool (decide (day > 1073741824))) rfl rfl rfl rfl (run_pv rfl) ?_
        refine ops_val 21 (.bool (decide (day > 1073741824))) rfl rfl rfl rfl (run_pv rfl) ?_
        refine ops_nil ?_
        refine nrm_then ?_
        exact ⟨⟨rfl, rfl, rfl, rfl, congrArg Value.bool (by simp only [h1, h2, Bool.true_and, Bool.false_and, Bool.and_true, Bool.and_false, Bool.true_or, Bool.false_or, Bool.or_true, Bool.or_false, Bool.not_true, Bool.not_false]), trivial⟩, rfl, S⟩
  · clear S; intro ρ0 w2 S
    refine nrm_then ?_
    refine w_cond (((!(rrightB base)) || (decide (day < 0))) || (decide (day > 1073741824))) rfl (fun h3 => ?_) (fun h3 => ?_)
    · have p3 := h3; try simp only [decide_eq_true_eq, decide_eq_false_iff_not, Bool.and_eq_true, Bool.or_eq_true, Bool.not_eq_true', Bool.or_eq_false_iff, Bool.not_eq_false', Int.not_lt, Int.not_le, gt_iff_lt, ge_iff_le, Decidable.not_not] at p3
      refine w_seq ?_
      refine w_region ?_
      refine ops_val 8 (i64 0) rfl rfl rfl rfl (run_pv rfl) ?_
      refine ops_val 9 (.bool false) rfl rfl rfl rfl (run_pv rfl) ?_
      refine ops_nil ?_
      refine nrm_then ?_
      refine w_ret ?_
      refine ret_then ?_
      refine fin2 (v := i64 0) (v' := .bool false) rfl S rfl rfl ?_
      simp only [ratOf, h3, if_true, Bool.false_eq_true, if_false, reduceIte]
    · have p3 := h3; try simp only [decide_eq_true_eq, decide_eq_false_iff_not, Bool.and_eq_true, Bool.or_eq_true, Bool.not_eq_true', Bool.or_eq_false_iff, Bool.not_eq_false', Int.not_lt, Int.not_le, gt_iff_lt, ge_iff_le, Decidable.not_not] at p3
      refine w_skip ?_
      refine nrm_then ?_
      refine w_seq ?_
      refine w_region ?_
      refine ops_val 22 (vbase) rfl rfl rfl rfl (run_pv rfl) ?_
      refine ops_val 23 (str key) rfl rfl rfl rfl (run_pv rfl) ?_
      refine ops_val 24 (i64 day) rfl rfl rfl rfl (run_pv rfl) ?_
      refine ops_val 25 (i64 known) rfl rfl rfl rfl (run_pv rfl) ?_
      refine ops_callIs [vbase, str key, i64 day, i64 known] (i64 (rcountsOf base key day known)) S rfl rfl hb29 rfl (rcounts_is vbase base key day known _ (St.rd S hbase) ) ?_
      clear S; intro w3 S
      refine ops_val 10 (i64 (rcountsOf base key day known)) rfl rfl rfl rfl (run_pv rfl) ?_
      refine ops_nil ?_
      refine nrm_then ?_
      refine w_seq ?_
      refine w_seq ?_
      refine w_region ?_
      refine ops_val 27 (i64 (rcountsOf base key day known)) rfl rfl rfl rfl (run_pv rfl) ?_
      refine ops_val 28 (.bool (decide ((rcountsOf base key day known) < 0))) rfl rfl rfl rfl (run_pv rfl) ?_
      refine ops_nil ?_
      refine nrm_then ?_
      refine w_cond (decide ((rcountsOf base key day known) < 0)) rfl (fun h4 => ?_) (fun h4 => ?_)
      · have p4 := h4; try simp only [decide_eq_true_eq, decide_eq_false_iff_not, Bool.and_eq_true, Bool.or_eq_true, Bool.not_eq_true', Bool.or_eq_false_iff, Bool.not_eq_false', Int.not_lt, Int.not_le, gt_iff_lt, ge_iff_le, Decidable.not_not] at p4
        refine w_seq ?_
        refine w_region ?_
        refine ops_val 8 (i64 0) rfl rfl rfl rfl (run_pv rfl) ?_
        refine ops_val 9 (.bool false) rfl rfl rfl rfl (run_pv rfl) ?_
        refine ops_nil ?_
        refine nrm_then ?_
        refine w_ret ?_
        refine ret_then ?_
        refine fin2 (v := i64 0) (v' := .bool false) rfl S rfl rfl ?_
        simp only [ratOf, h3, h4, if_true, Bool.false_eq_true, if_false, reduceIte]
      · have p4 := h4; try simp only [decide_eq_true_eq, decide_eq_false_iff_not, Bool.and_eq_true, Bool.or_eq_true, Bool.not_eq_true', Bool.or_eq_false_iff, Bool.not_eq_false', Int.not_lt, Int.not_le, gt_iff_lt, ge_iff_le, Decidable.not_not] at p4
        refine w_skip ?_
        refine nrm_then ?_
        refine w_seq ?_
        refine w_region ?_
        refine ops_val 29 (vbase) rfl rfl rfl rfl (run_pv rfl) ?_
        refine ops_val 30 (i64 (rcountsOf base key day known)) rfl rfl rfl rfl (run_pv rfl) ?_
        refine ops_val 31 (.pointer (some ((adr vbase).add ((rcountsOf base key day known).toNat * 5)))) rfl rfl rfl rfl (run_index_rdI sl22 (St.rd S hbase) rfl rfl (by omega) (by omega)) ?_
        refine ops_val 32 (.pointer (some (((adr vbase).add ((rcountsOf base key day known).toNat * 5)).add 1))) rfl rfl rfl rfl (run_fieldAddr fd24_1 rfl) ?_
        refine ops_val 33 (i64 ((base.getD (rcountsOf base key day known).toNat default).value)) rfl rfl rfl rfl (run_load_scal sc3 rfl (Rd.at' (d := default) (j := 1) (St.rd S hbase) (by omega) rfl)) ?_
        refine ops_val 8 (i64 ((base.getD (rcountsOf base key day known).toNat default).value)) rfl rfl rfl rfl (run_pv rfl) ?_
        refine ops_val 9 (.bool true) rfl rfl rfl rfl (run_pv rfl) ?_
        refine ops_nil ?_
        refine nrm_then ?_
        refine w_ret ?_
        refine fin2 (v := i64 ((base.getD (rcountsOf base key day known).toNat default).value)) (v' := .bool true) rfl S rfl rfl ?_
        simp only [ratOf, h3, h4, if_true, Bool.false_eq_true, if_false, reduceIte]
theorem next_is (vbase : Value) (base : List Fact) (day : Int) (w : World) (hbase : Rd w encFact 5 vbase base) : FnIs Try.prog 33 [vbase, i64 day] w (i64 (nextOf base day)) := by
  refine fn_of_wp (N := 42) Try.func33 rfl rfl rfl ?_
  intro S
  have hlen := hbase.len
  refine w_seq ?_
  refine w_region ?_
  refine ops_val 4 (i64 0) rfl rfl rfl rfl (run_pv rfl) ?_
  refine ops_nil ?_
  refine nrm_then ?_
  refine w_seq ?_
  refine w_region ?_
  refine ops_val 5 (i64 1073741825) rfl rfl rfl rfl (run_pv rfl) ?_
  refine ops_nil ?_
  refine nrm_then ?_
  refine w_seq ?_
  refine w_seq ?_
  refine w_region ?_
  refine ops_val 6 (i64 0) rfl rfl rfl rfl (run_pv rfl) ?_
  refine ops_nil ?_
  refine nrm_then ?_
  refine w_block ?_
  refine w_loop (G := Nat) (fun k => [(0, vbase), (1, i64 day), (5, i64 (nextTo base day k)), (6, i64 (k : Int))]) (fun k w' => Eng.St w [] w' ∧ (k ≤ base.length)) (fun k => base.length - k) (0) ⟨rfl, rfl, rfl, rfl, trivial⟩ ⟨S, Nat.zero_le _⟩ ?_
  clear S; rintro k ρ0 w1 ⟨S, hk⟩
  refine w_seq ?_
  refine w_seq ?_
  refine w_region ?_
  refine ops_val 7 (i64 (k : Int)) rfl rfl rfl rfl (run_pv rfl) ?_
  refine ops_val 8 (vbase) rfl rfl rfl rfl (run_pv rfl) ?_
  refine ops_val 9 (i64 (base.length : Int)) rfl rfl rfl rfl (run_len_rd Try.underlying22 (St.rd S hbase) rfl) ?_
  refine ops_val 10 (.bool (decide ((k : Int) < (base.length : Int)))) rfl rfl rfl rfl (run_pv rfl) ?_
  refine ops_nil ?_
  refine nrm_then ?_
  refine w_cond (decide ((k : Int) < (base.length : Int))) rfl (fun h1 => ?_) (fun h1 => ?_)
  · have p1 := h1; try simp only [decide_eq_true_eq, decide_eq_false_iff_not, Bool.and_eq_true, Bool.or_eq_true, Bool.not_eq_true', Bool.or_eq_false_iff, Bool.not_eq_false', Int.not_lt, Int.not_le, gt_iff_lt, ge_iff_le, Decidable.not_not] at p1
    refine w_skip ?_
    refine nrm_then ?_
    refine w_seq ?_
    refine w_block ?_
    refine w_seq ?_
    refine w_seq ?_
    refine w_region ?_
    refine ops_val 13 (vbase) rfl rfl rfl rfl (run_pv rfl) ?_
    refine ops_val 14 (i64 (k : Int)) rfl rfl rfl rfl (run_pv rfl) ?_
    refine ops_val 15 (.pointer (some ((adr vbase).add (k * 5)))) rfl rfl rfl rfl (run_index_rd (i := k) sl22 (St.rd S hbase) rfl rfl (by omega)) ?_
    refine ops_val 16 (.pointer (some (((adr vbase).add (k * 5)).add 2))) rfl rfl rfl rfl (run_fieldAddr fd24_2 rfl) ?_
    refine ops_val 17 (i64 ((base.getD k default).from_)) rfl rfl rfl rfl (run_load_scal sc3 rfl (Rd.at' (d := default) (j := 2) (St.rd S hbase) (by omega) rfl)) ?_
    refine ops_val 18 (i64 day) rfl rfl rfl rfl (run_pv rfl) ?_
    refine ops_val 19 (.bool (decide ((base.getD k default).from_ > day))) rfl rfl rfl rfl (run_pv rfl) ?_
    refine ops_nil ?_
    refine nrm_then ?_
    refine w_cond (decide ((base.getD k default).from_ > day)) rfl (fun h2 => ?_) (fun h2 => ?_)
    · have p2 := h2; try simp only [decide_eq_true_eq, decide_eq_false_iff_not, Bool.and_eq_true, Bool.or_eq_true, Bool.not_eq_true', Bool.or_eq_false_iff, Bool.not_eq_false', Int.not_lt, Int.not_le, gt_iff_lt, ge_iff_le, Decidable.not_not] at p2
      refine w_region ?_
      refine ops_val 20 (i64 (nextTo base day k)) rfl rfl rfl rfl (run_pv rfl) ?_
      refine ops_val 21 (vbase) rfl rfl rfl rfl (run_pv rfl) ?_
      refine ops_val 22 (i64 (k : Int)) rfl rfl rfl rfl (run_pv rfl) ?_
      refine ops_val 23 (.pointer (some ((adr vbase).add (k * 5)))) rfl rfl rfl rfl (run_index_rd (i := k) sl22 (St.rd S hbase) rfl rfl (by omega)) ?_
      refine ops_val 24 (.pointer (some (((adr vbase).add (k * 5)).add 2))) rfl rfl rfl rfl (run_fieldAddr fd24_2 rfl) ?_
      refine ops_val 25 (i64 ((base.getD k default).from_)) rfl rfl rfl rfl (run_load_scal sc3 rfl (Rd.at' (d := default) (j := 2) (St.rd S hbase) (by omega) rfl)) ?_
      refine ops_val 26 (i64 (min (nextTo base day k) ((base.getD k default).from_))) rfl rfl rfl rfl (run_min2 rfl rfl) ?_
      refine ops_val 5 (i64 (min (nextTo base day k) ((base.getD k default).from_))) rfl rfl rfl rfl (run_pv rfl) ?_
      refine ops_nil ?_
      refine nrm_then ?_
      refine w_seq ?_
      refine w_region ?_
      refine ops_val 27 (vbase) rfl rfl rfl rfl (run_pv rfl) ?_
      refine ops_val 28 (i64 (k : Int)) rfl rfl rfl rfl (run_pv rfl) ?_
      refine ops_val 29 (.pointer (some ((adr vbase).add (k * 5)))) rfl rfl rfl rfl (run_index_rd (i := k) sl22 (St.rd S hbase) rfl rfl (by omega)) ?_
      refine ops_val 30 (.pointer (some (((adr vbase).add (k * 5)).add 3))) rfl rfl rfl rfl (run_fieldAddr fd24_3 rfl) ?_
      refine ops_val 31 (i64 ((base.getD k default).until_)) rfl rfl rfl rfl (run_load_scal sc3 rfl (Rd.at' (d := default) (j := 3) (St.rd S hbase) (by omega) rfl)) ?_
      refine ops_val 32 (i64 day) rfl rfl rfl rfl (run_pv rfl) ?_
      refine ops_val 33 (.bool (decide ((base.getD k default).until_ > day))) rfl rfl rfl rfl (run_pv rfl) ?_
      refine ops_nil ?_
      refine nrm_then ?_
      refine w_cond (decide ((base.getD k default).until_ > day)) rfl (fun h3 => ?_) (fun h3 => ?_)
      · have p3 := h3; try simp only [decide_eq_true_eq, decide_eq_false_iff_not, Bool.and_eq_true, Bool.or_eq_true, Bool.not_eq_true', Bool.or_eq_false_iff, Bool.not_eq_false', Int.not_lt, Int.not_le, gt_iff_lt, ge_iff_le, Decidable.not_not] at p3
        refine w_region ?_
        refine ops_val 34 (i64 (min (nextTo base day k) ((base.getD k default).from_))) rfl rfl rfl rfl (run_pv rfl) ?_
        refine ops_val 35 (vbase) rfl rfl rfl rfl (run_pv rfl) ?_
        refine ops_val 36 (i64 (k : Int)) rfl rfl rfl rfl (run_pv rfl) ?_
        refine ops_val 37 (.pointer (some ((adr vbase).add (k * 5)))) rfl rfl rfl rfl (run_index_rd (i := k) sl22 (St.rd S hbase) rfl rfl (by omega)) ?_
        refine ops_val 38 (.pointer (some (((adr vbase).add (k * 5)).add 3))) rfl rfl rfl rfl (run_fieldAddr fd24_3 rfl) ?_
        refine ops_val 39 (i64 ((base.getD k default).until_)) rfl rfl rfl rfl (run_load_scal sc3 rfl (Rd.at' (d := default) (j := 3) (St.rd S hbase) (by omega) rfl)) ?_
        refine ops_val 40 (i64 (min (min (nextTo base day k) ((base.getD k default).from_)) ((base.getD k default).until_))) rfl rfl rfl rfl (run_min2 rfl rfl) ?_
        refine ops_val 5 (i64 (min (min (nextTo base day k) ((base.getD k default).from_)) ((base.getD k default).until_))) rfl rfl rfl rfl (run_pv rfl) ?_
        refine ops_nil ?_
        refine nrm_blk ?_
        refine nrm_then ?_
        refine w_region ?_
        refine ops_val 11 (i64 (k : Int)) rfl rfl rfl rfl (run_pv rfl) ?_
        refine ops_val 12 (i64 ((k : Int) + 1)) rfl rfl rfl rfl (run_wr rfl (by omega) (by omega)) ?_
        refine ops_val 6 (i64 ((k : Int) + 1)) rfl rfl rfl rfl (run_pv rfl) ?_
        refine ops_nil ?_
        refine nrm_then ?_
        exact ⟨rfl, (k + 1), ⟨(by first | rfl | exact congrArg i64 (by omega) | exact congrArg i64 (by simp only [nextTo, h1, h2, h3, if_true, if_false, Bool.false_eq_true])), (by first | rfl | exact congrArg i64 (by omega) | exact congrArg i64 (by simp only [nextTo, h1, h2, h3, if_true, if_false, Bool.false_eq_true])), (by first | rfl | exact congrArg i64 (by omega) | exact congrArg i64 (by simp only [nextTo, h1, h2, h3, if_true, if_false, Bool.false_eq_true])), (by first | rfl | exact congrArg i64 (by omega) | exact congrArg i64 (by simp only [nextTo, h1, h2, h3, if_true, if_false, Bool.false_eq_true])), trivial⟩, ⟨S, by omega⟩, by omega⟩
      · have p3 := h3; try simp only [decide_eq_true_eq, decide_eq_false_iff_not, Bool.and_eq_true, Bool.or_eq_true, Bool.not_eq_true', Bool.or_eq_false_iff, Bool.not_eq_false', Int.not_lt, Int.not_le, gt_iff_lt, ge_iff_le, Decidable.not_not] at p3
        refine w_skip ?_
        refine nrm_blk ?_
        refine nrm_then ?_
        refine w_region ?_
        refine ops_val 11 (i64 (k : Int)) rfl rfl rfl rfl (run_pv rfl) ?_
        refine ops_val 12 (i64 ((k : Int) + 1)) rfl rfl rfl rfl (run_wr rfl (by omega) (by omega)) ?_
        refine ops_val 6 (i64 ((k : Int) + 1)) rfl rfl rfl rfl (run_pv rfl) ?_
        refine ops_nil ?_
        refine nrm_then ?_
        exact ⟨rfl, (k + 1), ⟨(by first | rfl | exact congrArg i64 (by omega) | exact congrArg i64 (by simp only [nextTo, h1, h2, h3, if_true, if_false, Bool.false_eq_true])), (by first | rfl | exact congrArg i64 (by omega) | exact congrArg i64 (by simp only [nextTo, h1, h2, h3, if_true, if_false, Bool.false_eq_true])), (by first | rfl | exact congrArg i64 (by omega) | exact congrArg i64 (by simp only [nextTo, h1, h2, h3, if_true, if_false, Bool.false_eq_true])), (by first | rfl | exact congrArg i64 (by omega) | exact congrArg i64 (by simp only [nextTo, h1, h2, h3, if_true, if_false, Bool.false_eq_true])), trivial⟩, ⟨S, by omega⟩, by omega⟩
    · have p2 := h2; try simp only [decide_eq_true_eq, decide_eq_false_iff_not, Bool.and_eq_true, Bool.or_eq_true, Bool.not_eq_true', Bool.or_eq_false_iff, Bool.not_eq_false', Int.not_lt, Int.not_le, gt_iff_lt, ge_iff_le, Decidable.not_not] at p2
      refine w_skip ?_
      refine nrm_then ?_
      refine w_seq ?_
      refine w_region ?_
      refine ops_val 27 (vbase) rfl rfl rfl rfl (run_pv rfl) ?_
      refine ops_val 28 (i64 (k : Int)) rfl rfl rfl rfl (run_pv rfl) ?_
      refine ops_val 29 (.pointer (some ((adr vbase).add (k * 5)))) rfl rfl rfl rfl (run_index_rd (i := k) sl22 (St.rd S hbase) rfl rfl (by omega)) ?_
      refine ops_val 30 (.pointer (some (((adr vbase).add (k * 5)).add 3))) rfl rfl rfl rfl (run_fieldAddr fd24_3 rfl) ?_
      refine ops_val 31 (i64 ((base.getD k default).until_)) rfl rfl rfl rfl (run_load_scal sc3 rfl (Rd.at' (d := default) (j := 3) (St.rd S hbase) (by omega) rfl)) ?_
      refine ops_val 32 (i64 day) rfl rfl rfl rfl (run_pv rfl) ?_
      refine ops_val 33 (.bool (decide ((base.getD k default).until_ > day))) rfl rfl rfl rfl (run_pv rfl) ?_
      refine ops_nil ?_
      refine nrm_then ?_
      refine w_cond (decide ((base.getD k default).until_ > day)) rfl (fun h4 => ?_) (fun h4 => ?_)
      · have p4 := h4; try simp only [decide_eq_true_eq, decide_eq_false_iff_not, Bool.and_eq_true, Bool.or_eq_true, Bool.not_eq_true', Bool.or_eq_false_iff, Bool.not_eq_false', Int.not_lt, Int.not_le, gt_iff_lt, ge_iff_le, Decidable.not_not] at p4
        refine w_region ?_
        refine ops_val 34 (i64 (nextTo base day k)) rfl rfl rfl rfl (run_pv rfl) ?_
        refine ops_val 35 (vbase) rfl rfl rfl rfl (run_pv rfl) ?_
        refine ops_val 36 (i64 (k : Int)) rfl rfl rfl rfl (run_pv rfl) ?_
        refine ops_val 37 (.pointer (some ((adr vbase).add (k * 5)))) rfl rfl rfl rfl (run_index_rd (i := k) sl22 (St.rd S hbase) rfl rfl (by omega)) ?_
        refine ops_val 38 (.pointer (some (((adr vbase).add (k * 5)).add 3))) rfl rfl rfl rfl (run_fieldAddr fd24_3 rfl) ?_
        refine ops_val 39 (i64 ((base.getD k default).until_)) rfl rfl rfl rfl (run_load_scal sc3 rfl (Rd.at' (d := default) (j := 3) (St.rd S hbase) (by omega) rfl)) ?_
        refine ops_val 40 (i64 (min (nextTo base day k) ((base.getD k default).until_))) rfl rfl rfl rfl (run_min2 rfl rfl) ?_
        refine ops_val 5 (i64 (min (nextTo base day k) ((base.getD k default).until_))) rfl rfl rfl rfl (run_pv rfl) ?_
        refine ops_nil ?_
        refine nrm_blk ?_
        refine nrm_then ?_
        refine w_region ?_
        refine ops_val 11 (i64 (k : Int)) rfl rfl rfl rfl (run_pv rfl) ?_
        refine ops_val 12 (i64 ((k : Int) + 1)) rfl rfl rfl rfl (run_wr rfl (by omega) (by omega)) ?_
        refine ops_val 6 (i64 ((k : Int) + 1)) rfl rfl rfl rfl (run_pv rfl) ?_
        refine ops_nil ?_
        refine nrm_then ?_
        exact ⟨rfl, (k + 1), ⟨(by first | rfl | exact congrArg i64 (by omega) | exact congrArg i64 (by simp only [nextTo, h1, h2, h4, if_true, if_false, Bool.false_eq_true])), (by first | rfl | exact congrArg i64 (by omega) | exact congrArg i64 (by simp only [nextTo, h1, h2, h4, if_true, if_false, Bool.false_eq_true])), (by first | rfl | exact congrArg i64 (by omega) | exact congrArg i64 (by simp only [nextTo, h1, h2, h4, if_true, if_false, Bool.false_eq_true])), (by first | rfl | exact congrArg i64 (by omega) | exact congrArg i64 (by simp only [nextTo, h1, h2, h4, if_true, if_false, Bool.false_eq_true])), trivial⟩, ⟨S, by omega⟩, by omega⟩
      · have p4 := h4; try simp only [decide_eq_true_eq, decide_eq_false_iff_not, Bool.and_eq_true, Bool.or_eq_true, Bool.not_eq_true', Bool.or_eq_false_iff, Bool.not_eq_false', Int.not_lt, Int.not_le, gt_iff_lt, ge_iff_le, Decidable.not_not] at p4
        refine w_skip ?_
        refine nrm_blk ?_
        refine nrm_then ?_
        refine w_region ?_
        refine ops_val 11 (i64 (k : Int)) rfl rfl rfl rfl (run_pv rfl) ?_
        refine ops_val 12 (i64 ((k : Int) + 1)) rfl rfl rfl rfl (run_wr rfl (by omega) (by omega)) ?_
        refine ops_val 6 (i64 ((k : Int) + 1)) rfl rfl rfl rfl (run_pv rfl) ?_
        refine ops_nil ?_
        refine nrm_then ?_
        exact ⟨rfl, (k + 1), ⟨(by first | rfl | exact congrArg i64 (by omega) | exact congrArg i64 (by simp only [nextTo, h1, h2, h4, if_true, if_false, Bool.false_eq_true])), (by first | rfl | exact congrArg i64 (by omega) | exact congrArg i64 (by simp only [nextTo, h1, h2, h4, if_true, if_false, Bool.false_eq_true])), (by first | rfl | exact congrArg i64 (by omega) | exact congrArg i64 (by simp only [nextTo, h1, h2, h4, if_true, if_false, Bool.false_eq_true])), (by first | rfl | exact congrArg i64 (by omega) | exact congrArg i64 (by simp only [nextTo, h1, h2, h4, if_true, if_false, Bool.false_eq_true])), trivial⟩, ⟨S, by omega⟩, by omega⟩
  · have p1 := h1; try simp only [decide_eq_true_eq, decide_eq_false_iff_not, Bool.and_eq_true, Bool.or_eq_true, Bool.not_eq_true', Bool.or_eq_false_iff, Bool.not_eq_false', Int.not_lt, Int.not_le, gt_iff_lt, ge_iff_le, Decidable.not_not] at p1
    refine w_exit ?_
    refine exit_then ?_
    refine exit_then ?_
    refine exit_blk ?_
    refine nrm_then ?_
    refine w_seq ?_
    refine w_region ?_
    refine ops_val 41 (i64 (nextTo base day k)) rfl rfl rfl rfl (run_pv rfl) ?_
    refine ops_val 4 (i64 (nextTo base day k)) rfl rfl rfl rfl (run_pv rfl) ?_
    refine ops_nil ?_
    refine nrm_then ?_
    refine w_ret ?_
    refine fin1 (v := i64 (nextTo base day k)) rfl S rfl ?_
    obtain rfl : k = base.length := by omega
    rfl
end
