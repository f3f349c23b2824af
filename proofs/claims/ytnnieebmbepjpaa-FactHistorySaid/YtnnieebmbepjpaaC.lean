/- walks, third part -/
import Derived.Test.YtnnieebmbepjpaaB
set_option linter.all false
namespace Go.Proofs.Ytnnieebmbepjpaa
open Go Go.Eng
section
theorem compact_mem {α : Type} [DecidableEq α] [Inhabited α] {l : List α} {x : α} (h : x ∈ Lib.compact l) : x ∈ l := by
  unfold Lib.compact Lib.compactUpTo at h
  obtain ⟨j, hj, rfl⟩ := List.mem_map.1 h
  have hj := List.mem_range.1 (List.mem_filter.1 hj).1
  simp [hj]
theorem compact_pos {α : Type} [DecidableEq α] [Inhabited α] {l : List α} (h : 1 ≤ l.length) : 1 ≤ (Lib.compact l).length := by
  unfold Lib.compact Lib.compactUpTo
  rw [List.length_map]
  exact List.length_pos_of_mem (a := 0) (List.mem_filter.2 ⟨List.mem_range.2 h, by simp [Lib.keeps]⟩)
theorem daysTo_pos (base : List Fact) (key : List UInt8) : ∀ k, 2 ≤ (daysTo base key k).length
  | 0 => by simp [daysTo]
  | k + 1 => by have := daysTo_pos base key k; rcases Bool.eq_false_or_eq_true (decide ((base.getD k default).key = key)) with h | h <;> simp only [daysTo, h, if_true, Bool.false_eq_true, if_false, List.length_append, List.length_cons, List.length_nil] <;> omega
theorem daysOf_pos (base : List Fact) (key : List UInt8) : 1 ≤ (daysOf base key).length := compact_pos (by rw [List.length_mergeSort]; have := daysTo_pos base key base.length; omega)
theorem daysOf_len (base : List Fact) (key : List UInt8) : (daysOf base key).length ≤ 2 + 2 * base.length := Nat.le_trans (compact_len _) (by rw [List.length_mergeSort]; exact daysTo_len base key base.length)
theorem daysOf_take (base : List Fact) (key : List UInt8) : ((daysOf base key).take (((daysOf base key).length : Int) - 1).toNat).length = (daysOf base key).length - 1 := by
  have := daysOf_pos base key
  rw [List.length_take]; omega
theorem right_valid {base : List Fact} (h : rightB base = true) {k : Nat} (hk : k < base.length) : validB (base.getD k default) = true := by
  simp only [rightB, Bool.and_eq_true, List.all_eq_true] at h
  have := h.1 k (List.mem_range.2 hk)
  simp only [okAt, Bool.not_eq_true', Bool.or_eq_false_iff, Bool.not_eq_false'] at this
  exact this.1
theorem valid_bd {f : Fact} (h : validB f = true) : 0 ≤ f.from_ ∧ f.from_ ≤ 1073741824 ∧ f.from_ < endOf f ∧ endOf f ≤ 1073741825 := by
  simp only [validB, Bool.and_eq_true, Bool.or_eq_true, decide_eq_true_eq] at h
  obtain ⟨⟨⟨⟨_, _⟩, h1⟩, h2⟩, h3⟩ := h
  unfold endOf
  split <;> omega
theorem daysTo_bd {base : List Fact} (key : List UInt8) (h : rightB base = true) : ∀ k, k ≤ base.length → ∀ x ∈ daysTo base key k, 0 ≤ x ∧ x ≤ 1073741825
  | 0, _, x, hx => by simp only [daysTo, List.mem_cons, List.not_mem_nil, or_false] at hx; omega
  | k + 1, hk, x, hx => by
    have ih := daysTo_bd key h k (by omega)
    have hv := valid_bd (right_valid h (show k < base.length by omega))
    rcases Bool.eq_false_or_eq_true (decide ((base.getD k default).key = key)) with hh | hh <;> simp only [daysTo, hh, if_true, Bool.false_eq_true, if_false, List.mem_append, List.mem_cons, List.not_mem_nil, or_false] at hx
    · rcases hx with hx | hx | hx
      · exact ih x hx
      · omega
      · omega
    · exact ih x hx
theorem daysOf_bd {base : List Fact} (key : List UInt8) (h : rightB base = true) (i : Nat) : 0 ≤ (daysOf base key).getD i 0 ∧ (daysOf base key).getD i 0 ≤ 1073741825 := by
  rw [List.getD_eq_getElem?_getD]
  cases hx : (daysOf base key)[i]? with
  | none => simp
  | some x => exact daysTo_bd key h base.length (Nat.le_refl _) x (by simpa using compact_mem (List.mem_of_getElem? hx))
def capB (n : Int) : Int := if decide (n > 1073741824) = true then 0 else n
def histOut (base : List Fact) (out : List Fact) (last now day nx : Int) : List Fact :=
  if (decide (now ≥ 0) && decide (now = last)) = true then out.set ((out.length : Int) - 1).toNat { out.getD ((out.length : Int) - 1).toNat default with until_ := capB nx }
  else if decide (now ≥ 0) = true then out ++ [{ base.getD now.toNat default with from_ := day, until_ := capB nx }] else out
def histTo (base : List Fact) (key : List UInt8) (known : Int) (ds : List Int) : Nat → List Fact × Int
  | 0 => ([], -1)
  | k + 1 =>
    (histOut base (histTo base key known ds k).1 (histTo base key known ds k).2 (countsOf base key ((ds.take ((ds.length : Int) - 1).toNat).getD k 0) known)
      ((ds.take ((ds.length : Int) - 1).toNat).getD k 0) (ds.getD ((k : Int) + 1).toNat 0),
     countsOf base key ((ds.take ((ds.length : Int) - 1).toNat).getD k 0) known)
theorem histOut_len (base : List Fact) (out : List Fact) (last now day nx : Int) : (histOut base out last now day nx).length ≤ out.length + 1 := by
  unfold histOut; split
  · rw [List.length_set]; omega
  · split
    · simp
    · omega
theorem histTo_len (base : List Fact) (key : List UInt8) (known : Int) (ds : List Int) : ∀ k, (histTo base key known ds k).1.length ≤ k
  | 0 => Nat.le_refl _
  | k + 1 => by have := histTo_len base key known ds k; exact Nat.le_trans (histOut_len ..) (by omega)
theorem histOut_pos (base : List Fact) (out : List Fact) (last now day nx : Int) (h : 0 ≤ last → 1 ≤ out.length) (hn : 0 ≤ now) : 1 ≤ (histOut base out last now day nx).length := by
  unfold histOut; split
  · rename_i hh; simp only [Bool.and_eq_true, decide_eq_true_eq] at hh
    rw [List.length_set]; exact h (by omega)
  · split
    · simp
    · rename_i hh; simp only [decide_eq_true_eq] at hh; omega
theorem histTo_pos (base : List Fact) (key : List UInt8) (known : Int) (ds : List Int) : ∀ k, 0 ≤ (histTo base key known ds k).2 → 1 ≤ (histTo base key known ds k).1.length
  | 0, h => by simp [histTo] at h
  | k + 1, h => histOut_pos _ _ _ _ _ _ (histTo_pos base key known ds k) h
def histOf (base : List Fact) (key : List UInt8) (known : Int) : List Fact := if (!rightB base) = true then [] else (histTo base key known (daysOf base key) ((daysOf base key).take (((daysOf base key).length : Int) - 1).toNat).length).1
/- the reference's days -/
def dayR (base : List Fact) : Nat → Int
  | 0 => 0
  | n + 1 => nextOf base (dayR base n)
theorem nextTo_bd (base : List Fact) (day : Int) (h : day ≤ 1073741824) : ∀ k, day < nextTo base day k ∧ nextTo base day k ≤ 1073741825
  | 0 => by simp only [nextTo]; omega
  | k + 1 => by
    have ih := nextTo_bd base day h k
    simp only [nextTo, decide_eq_true_eq]
    split <;> split <;> omega
theorem nextOf_bd (base : List Fact) (day : Int) (h : day ≤ 1073741824) : day < nextOf base day ∧ nextOf base day ≤ 1073741825 := nextTo_bd base day h _
theorem dayR_step (base : List Fact) (k : Nat) (h : (k : Int) ≤ dayR base k) (hd : dayR base k ≤ 1073741824) : ((k + 1 : Nat) : Int) ≤ dayR base (k + 1) := by
  have := nextOf_bd base _ hd
  simp only [dayR]; omega
def isEnd (base : List Fact) (n : Nat) : Prop := (∀ m, m < n → dayR base m ≤ 1073741824) ∧ 1073741824 < dayR base n
noncomputable def rEnd (base : List Fact) : Nat := Classical.epsilon (isEnd base)
theorem rEnd_eq (base : List Fact) (n : Nat) (h1 : ∀ m, m < n → dayR base m ≤ 1073741824) (h2 : 1073741824 < dayR base n) : rEnd base = n := by
  have he : isEnd base (rEnd base) := Classical.epsilon_spec ⟨n, h1, h2⟩
  rcases Nat.lt_trichotomy (rEnd base) n with h | h | h
  · have := h1 _ h; have := he.2; omega
  · exact h
  · have := he.1 _ h; omega
def rhOut (base : List Fact) (out : List Fact) (last now day nx : Int) : List Fact :=
  let o := if (decide (now ≥ 0) && !decide (now = last)) = true then out ++ [{ base.getD now.toNat default with from_ := day }] else out
  if decide (now ≥ 0) = true then
    let o1 := o.set ((o.length : Int) - 1).toNat { o.getD ((o.length : Int) - 1).toNat default with until_ := nx }
    if decide (nx > 1073741824) = true then o1.set ((o1.length : Int) - 1).toNat { o1.getD ((o1.length : Int) - 1).toNat default with until_ := 0 } else o1
  else o
def rhTo (base : List Fact) (key : List UInt8) (known : Int) : Nat → List Fact × Int
  | 0 => ([], -1)
  | k + 1 => (rhOut base (rhTo base key known k).1 (rhTo base key known k).2 (rcountsOf base key (dayR base k) known) (dayR base k) (nextOf base (dayR base k)), rcountsOf base key (dayR base k) known)
theorem rhOut_len (base : List Fact) (out : List Fact) (last now day nx : Int) : (rhOut base out last now day nx).length ≤ out.length + 1 := by
  unfold rhOut; dsimp only
  split <;> split <;> (try split) <;> first | omega | (simp only [List.length_set, List.length_append, List.length_cons, List.length_nil]; omega)
theorem rhTo_len (base : List Fact) (key : List UInt8) (known : Int) : ∀ k, (rhTo base key known k).1.length ≤ k
  | 0 => Nat.le_refl _
  | k + 1 => by have := rhTo_len base key known k; exact Nat.le_trans (rhOut_len ..) (by omega)
theorem rhOut_pos (base : List Fact) (out : List Fact) (last now day nx : Int) (h : 0 ≤ last → 1 ≤ out.length) (hn : 0 ≤ now) : 1 ≤ (rhOut base out last now day nx).length := by
  unfold rhOut; dsimp only
  by_cases e : now = last
  · subst e
    have := h hn
    split <;> split <;> (try split) <;> first | omega | (simp only [List.length_set, List.length_append, List.length_cons, List.length_nil]; omega)
  · have hc : (decide (now ≥ 0) && !decide (now = last)) = true := by simp [hn, e]
    simp only [hc, if_true]
    split <;> (try split) <;> first | omega | (simp only [List.length_set, List.length_append, List.length_cons, List.length_nil]; omega)
theorem rhTo_pos (base : List Fact) (key : List UInt8) (known : Int) : ∀ k, 0 ≤ (rhTo base key known k).2 → 1 ≤ (rhTo base key known k).1.length
  | 0, h => by simp [rhTo] at h
  | k + 1, h => rhOut_pos _ _ _ _ _ _ (rhTo_pos base key known k) h
noncomputable def rhistOf (base : List Fact) (key : List UInt8) (known : Int) : List Fact := if (!rrightB base) = true then [] else (rhTo base key known (rEnd base)).1
/- corrections -/
def diffB (base : List Fact) (key : List UInt8) (a b day : Int) : Bool := !decide ((atOf base key day a).1 = (atOf base key day b).1) || !((atOf base key day a).2 == (atOf base key day b).2)
def rdiffB (base : List Fact) (key : List UInt8) (a b day : Int) : Bool := !decide ((ratOf base key day a).1 = (ratOf base key day b).1) || !((ratOf base key day a).2 == (ratOf base key day b).2)
def corOut (out : List Stay) (last df : Bool) (day nx : Int) : List Stay :=
  if (df && last) = true then out.set ((out.length : Int) - 1).toNat { out.getD ((out.length : Int) - 1).toNat default with to := nx - 1 }
  else if df = true then out ++ [{ from_ := day, to := nx - 1 }] else out
def corTo (base : List Fact) (key : List UInt8) (a b : Int) (ds : List Int) : Nat → List Stay × Bool
  | 0 => ([], false)
  | k + 1 =>
    (corOut (corTo base key a b ds k).1 (corTo base key a b ds k).2 (diffB base key a b ((ds.take ((ds.length : Int) - 1).toNat).getD k 0))
      ((ds.take ((ds.length : Int) - 1).toNat).getD k 0) (ds.getD ((k : Int) + 1).toNat 0),
     diffB base key a b ((ds.take ((ds.length : Int) - 1).toNat).getD k 0))
theorem corOut_len (out : List Stay) (last df : Bool) (day nx : Int) : (corOut out last df day nx).length ≤ out.length + 1 := by
  unfold corOut; split
  · rw [List.length_set]; omega
  · split
    · simp
    · omega
theorem corTo_len (base : List Fact) (key : List UInt8) (a b : Int) (ds : List Int) : ∀ k, (corTo base key a b ds k).1.length ≤ k
  | 0 => Nat.le_refl _
  | k + 1 => by have := corTo_len base key a b ds k; exact Nat.le_trans (corOut_len ..) (by omega)
theorem corOut_pos (out : List Stay) (last df : Bool) (day nx : Int) (h : last = true → 1 ≤ out.length) (hd : df = true) : 1 ≤ (corOut out last df day nx).length := by
  subst hd
  unfold corOut; split
  · rename_i hh; rw [List.length_set]; exact h (by simpa using hh)
  · simp
theorem corTo_pos (base : List Fact) (key : List UInt8) (a b : Int) (ds : List Int) : ∀ k, (corTo base key a b ds k).2 = true → 1 ≤ (corTo base key a b ds k).1.length
  | 0, h => by simp [corTo] at h
  | k + 1, h => corOut_pos _ _ _ _ _ (corTo_pos base key a b ds k) h
def corOf (base : List Fact) (key : List UInt8) (a b : Int) : List Stay := if (!rightB base) = true then [] else (corTo base key a b (daysOf base key) ((daysOf base key).take (((daysOf base key).length : Int) - 1).toNat).length).1
def rcorOut (out : List Stay) (last df : Bool) (day nx : Int) : List Stay :=
  let o := if (df && !last) = true then out ++ [{ from_ := day, to := 0 }] else out
  if df = true then o.set ((o.length : Int) - 1).toNat { o.getD ((o.length : Int) - 1).toNat default with to := nx - 1 } else o
def rcorTo (base : List Fact) (key : List UInt8) (a b : Int) : Nat → List Stay × Bool
  | 0 => ([], false)
  | k + 1 => (rcorOut (rcorTo base key a b k).1 (rcorTo base key a b k).2 (rdiffB base key a b (dayR base k)) (dayR base k) (nextOf base (dayR base k)), rdiffB base key a b (dayR base k))
theorem rcorOut_len (out : List Stay) (last df : Bool) (day nx : Int) : (rcorOut out last df day nx).length ≤ out.length + 1 := by
  unfold rcorOut; dsimp only
  split <;> split <;> first | omega | (simp only [List.length_set, List.length_append, List.length_cons, List.length_nil]; omega)
theorem rcorTo_len (base : List Fact) (key : List UInt8) (a b : Int) : ∀ k, (rcorTo base key a b k).1.length ≤ k
  | 0 => Nat.le_refl _
  | k + 1 => by have := rcorTo_len base key a b k; exact Nat.le_trans (rcorOut_len ..) (by omega)
theorem rcorOut_pos (out : List Stay) (last df : Bool) (day nx : Int) (h : last = true → 1 ≤ out.length) (hd : df = true) : 1 ≤ (rcorOut out last df day nx).length := by
  subst hd
  cases last
  · simp [rcorOut]
  · have := h rfl
    simp only [rcorOut, Bool.not_true, Bool.and_false, Bool.false_eq_true, if_false, if_true, List.length_set]; omega
theorem rcorTo_pos (base : List Fact) (key : List UInt8) (a b : Int) : ∀ k, (rcorTo base key a b k).2 = true → 1 ≤ (rcorTo base key a b k).1.length
  | 0, h => by simp [rcorTo] at h
  | k + 1, h => rcorOut_pos _ _ _ _ _ (rcorTo_pos base key a b k) h
noncomputable def rcorOf (base : List Fact) (key : List UInt8) (a b : Int) : List Stay := if (!rrightB base) = true then [] else (rcorTo base key a b (rEnd base)).1
theorem hb32 : hasBody Try.prog 32 := body_of (by kernel_rfl)
theorem sl52 : IsSliceT Try.prog 52 3 1 := slice_of (by kernel_rfl)
theorem hb33 : hasBody Try.prog 33 := body_of (by kernel_rfl)
theorem hb11 : hasBody Try.prog 11 := body_of (by kernel_rfl)
theorem fd44_1 : FieldT Try.prog 44 1 1 := field_of (by kernel_rfl)
theorem sT37 : SliceT Try.prog 37 44 2 16 [i64 0, i64 0] := sliceT_of (z := .agg #[i64 0, i64 0]) Try.underlying37 (by kernel_rfl) rfl rfl rfl
theorem hb12 : hasBody Try.prog 12 := body_of (by kernel_rfl)
theorem hist_is (vbase : Value) (base : List Fact) (key : List UInt8) (known : Int) (w : World) (hbase : Rd w encFact 5 vbase base) : FnRow Try.prog 18 [vbase, str key, i64 known] w 24 5 encFact (histOf base key known) := by
  refine fn_of_wp (N := 77) Try.func18 rfl rfl rfl ?_
  intro S
  have hlen := hbase.len
  have hdp := daysOf_pos base key
  have hdt := daysOf_take base key
  refine w_seq ?_
  refine w_region ?_
  refine ops_val 6 (.slice none 0 0) rfl rfl rfl rfl (run_pv rfl) ?_
  refine ops_nil ?_
  refine nrm_then ?_
  refine w_seq ?_
  refine w_seq ?_
  refine w_region ?_
  refine ops_val 15 (vbase) rfl rfl rfl rfl (run_pv rfl) ?_
  refine ops_callIs [vbase] (.bool (rightB base)) S rfl rfl hb15 rfl (right_is vbase base _ (St.rd S hbase) ) ?_
  clear S; intro w1 S
  refine ops_val 17 (.bool (!(rightB base))) rfl rfl rfl rfl (run_pv rfl) ?_
  refine ops_nil ?_
  refine nrm_then ?_
  refine w_cond (!(rightB base)) rfl (fun h1 => ?_) (fun h1 => ?_)
  · have p1 := h1; try simp only [decide_eq_true_eq, decide_eq_false_iff_not, Bool.and_eq_true, Bool.or_eq_true, Bool.not_eq_true', Bool.or_eq_false_iff, Bool.not_eq_false', Int.not_lt, Int.not_le, gt_iff_lt, ge_iff_le, Decidable.not_not] at p1
    have k1 : (rightB base) = false := (by simpa only [Bool.not_eq_true', Bool.not_eq_false'] using h1)
    have pk1 := k1; try simp only [decide_eq_true_eq, decide_eq_false_iff_not, Bool.and_eq_true, Bool.or_eq_true, Bool.not_eq_true', Bool.or_eq_false_iff, Bool.not_eq_false', Int.not_lt, Int.not_le, gt_iff_lt, ge_iff_le, Decidable.not_not] at pk1
    refine w_seq ?_
    refine w_region ?_
    refine ops_val 6 (.slice none 0 0) rfl rfl rfl rfl (run_pv rfl) ?_
    refine ops_nil ?_
    refine nrm_then ?_
    refine w_ret ?_
    refine ret_then ?_
    replace S := S.nilRow 24 5
    replace S : Eng.St w [.row 24 5 (.slice none 0 0) (([] : List Fact).map encFact)] w1 := S
    have hres : ([] : List Fact) = (histOf base key known) := by simp only [histOf, h1, k1, if_true, if_false, Bool.false_eq_true, reduceIte, Bool.true_and, Bool.and_true, Bool.false_and, Bool.and_false, Bool.not_true, Bool.not_false, Bool.true_or, Bool.false_or, Bool.or_true, Bool.or_false]
    rw [hres] at S
    exact fin_row (n := 0) rfl S rfl rfl
  · have p1 := h1; try simp only [decide_eq_true_eq, decide_eq_false_iff_not, Bool.and_eq_true, Bool.or_eq_true, Bool.not_eq_true', Bool.or_eq_false_iff, Bool.not_eq_false', Int.not_lt, Int.not_le, gt_iff_lt, ge_iff_le, Decidable.not_not] at p1
    have k2 : (rightB base) = true := (by simpa only [Bool.not_eq_true', Bool.not_eq_false'] using h1)
    have pk2 := k2; try simp only [decide_eq_true_eq, decide_eq_false_iff_not, Bool.and_eq_true, Bool.or_eq_true, Bool.not_eq_true', Bool.or_eq_false_iff, Bool.not_eq_false', Int.not_lt, Int.not_le, gt_iff_lt, ge_iff_le, Decidable.not_not] at pk2
    have hr5 := right_len base p1; have hdl := daysOf_len base key
    refine w_skip ?_
    refine nrm_then ?_
    refine w_seq ?_
    refine w_region ?_
    refine ops_val 7 (.slice none 0 0) rfl rfl rfl rfl (run_pv rfl) ?_
    refine ops_nil ?_
    refine nrm_then ?_
    refine w_seq ?_
    refine w_region ?_
    refine ops_val 18 (vbase) rfl rfl rfl rfl (run_pv rfl) ?_
    refine ops_val 19 (str key) rfl rfl rfl rfl (run_pv rfl) ?_
    refine ops_callRow [vbase, str key] S rfl rfl hb32 rfl (days_is vbase base key _ (St.rd S hbase) (by exact right_len base p1)) ?_
    clear S; intro v1 w2 S
    replace S : Eng.St w [.row 3 1 v1 ((daysOf base key).map Eng.encI)] w2 := S
    refine ops_val 8 (v1) rfl rfl rfl rfl (run_pv rfl) ?_
    refine ops_val 9 (i64 (-1)) rfl rfl rfl rfl (run_pv rfl) ?_
    refine ops_nil ?_
    refine nrm_then ?_
    refine w_seq ?_
    refine w_seq ?_
    refine w_region ?_
    refine ops_val 21 (v1) rfl rfl rfl rfl (run_pv rfl) ?_
    refine ops_val 22 (v1) rfl rfl rfl rfl (run_pv rfl) ?_
    refine ops_val 23 (i64 ((daysOf base key).length : Int)) rfl rfl rfl rfl (run_len_rd Try.underlying52 (St.rdRow (n := 0) S rfl) rfl) ?_
    refine ops_val 24 (i64 (((daysOf base key).length : Int) - 1)) rfl rfl rfl rfl (run_wr rfl (by first | omega | (simp only [List.length_append, List.length_cons, List.length_nil, List.length_set]; omega)) (by first | omega | (simp only [List.length_append, List.length_cons, List.length_nil, List.length_set]; omega))) ?_
    refine ops_val 25 ((Eng.sub 1 v1 0 (((daysOf base key).length : Int) - 1).toNat)) rfl rfl rfl rfl (run_sub_h (i := (((daysOf base key).length : Int) - 1)) sl52 (St.rdRow (n := 0) S rfl) rfl rfl (by omega) (by omega)) ?_
    refine ops_val 26 (i64 (((daysOf base key).take (((daysOf base key).length : Int) - 1).toNat).length : Int)) rfl rfl rfl rfl (run_len_rd Try.underlying52 (Rd.sub (St.rdRow (n := 0) S rfl) (by omega)) rfl) ?_
    refine ops_val 27 (i64 0) rfl rfl rfl rfl (run_pv rfl) ?_
    refine ops_nil ?_
    refine nrm_then ?_
    refine w_block ?_
    replace S := S.nilRow 24 5
    replace S : Eng.St w [.row 24 5 (.slice none 0 0) (([] : List Fact).map encFact), .row 3 1 v1 ((daysOf base key).map Eng.encI)] w2 := S
    refine w_loop (G := Nat × Value) (fun ⟨k, vo⟩ => [(0, vbase), (1, str key), (2, i64 known), (7, vo), (8, v1), (9, i64 ((histTo base key known (daysOf base key) k).2)), (25, (Eng.sub 1 v1 0 (((daysOf base key).length : Int) - 1).toNat)), (26, i64 (((daysOf base key).take (((daysOf base key).length : Int) - 1).toNat).length : Int)), (27, i64 (k : Int))]) (fun ⟨k, vo⟩ w' => Eng.St w [.row 24 5 vo (((histTo base key known (daysOf base key) k).1).map encFact), .row 3 1 v1 ((daysOf base key).map Eng.encI)] w' ∧ (k ≤ ((daysOf base key).take (((daysOf base key).length : Int) - 1).toNat).length)) (fun ⟨k, vo⟩ => ((daysOf base key).take (((daysOf base key).length : Int) - 1).toNat).length - k) (0, .slice none 0 0) ⟨rfl, rfl, rfl, rfl, rfl, rfl, rfl, rfl, rfl, trivial⟩ ⟨S, Nat.zero_le _⟩ ?_
    clear S; rintro ⟨k, vo⟩ ρ0 w3 ⟨S, hk⟩
    have hl := histTo_len base key known (daysOf base key) k
    have hp := histTo_pos base key known (daysOf base key) k
    have hcr := countsOf_lt base key (((daysOf base key).take (((daysOf base key).length : Int) - 1).toNat).getD k 0) known
    refine w_seq ?_
    refine w_region ?_
    refine ops_val 28 (.bool (decide ((k : Int) < (((daysOf base key).take (((daysOf base key).length : Int) - 1).toNat).length : Int)))) rfl rfl rfl rfl (run_pv rfl) ?_
    refine ops_nil ?_
    refine nrm_then ?_
    refine w_seq ?_
    refine w_cond (decide ((k : Int) < (((daysOf base key).take (((daysOf base key).length : Int) - 1).toNat).length : Int))) rfl (fun h2 => ?_) (fun h2 => ?_)
    · have p2 := h2; try simp only [decide_eq_true_eq, decide_eq_false_iff_not, Bool.and_eq_true, Bool.or_eq_true, Bool.not_eq_true', Bool.or_eq_false_iff, Bool.not_eq_false', Int.not_lt, Int.not_le, gt_iff_lt, ge_iff_le, Decidable.not_not] at p2
      refine w_skip ?_
      refine nrm_then ?_
      refine w_seq ?_
      refine w_block ?_
      refine w_seq ?_
      refine w_region ?_
      refine ops_val 29 (i64 (k : Int)) rfl rfl rfl rfl (run_pv rfl) ?_
      refine ops_val 30 (.pointer (some ((adr (Eng.sub 1 v1 0 (((daysOf base key).length : Int) - 1).toNat)).add (k * 1)))) rfl rfl rfl rfl (run_index_rd (i := k) sl52 (Rd.sub (St.rdRow (n := 1) S rfl) (by omega)) rfl rfl (by first | omega | (simp only [List.length_append, List.length_cons, List.length_nil, List.length_set]; omega))) ?_
      refine ops_val 31 (i64 (((daysOf base key).take (((daysOf base key).length : Int) - 1).toNat).getD k 0)) rfl rfl rfl rfl (run_load_scal sc3 rfl (cell0 (Rd.at' (d := 0) (j := 0) (Rd.sub (St.rdRow (n := 1) S rfl) (by omega)) (by first | omega | (simp only [List.length_append, List.length_cons, List.length_nil, List.length_set]; omega)) rfl))) ?_
      refine ops_val 10 (i64 (k : Int)) rfl rfl rfl rfl (run_pv rfl) ?_
      refine ops_val 11 (i64 (((daysOf base key).take (((daysOf base key).length : Int) - 1).toNat).getD k 0)) rfl rfl rfl rfl (run_pv rfl) ?_
      refine ops_nil ?_
      refine nrm_then ?_
      refine w_seq ?_
      refine w_region ?_
      refine ops_val 32 (vbase) rfl rfl rfl rfl (run_pv rfl) ?_
      refine ops_val 33 (str key) rfl rfl rfl rfl (run_pv rfl) ?_
      refine ops_val 34 (i64 (((daysOf base key).take (((daysOf base key).length : Int) - 1).toNat).getD k 0)) rfl rfl rfl rfl (run_pv rfl) ?_
      refine ops_val 35 (i64 known) rfl rfl rfl rfl (run_pv rfl) ?_
      refine ops_callIs [vbase, str key, i64 (((daysOf base key).take (((daysOf base key).length : Int) - 1).toNat).getD k 0), i64 known] (i64 (countsOf base key (((daysOf base key).take (((daysOf base key).length : Int) - 1).toNat).getD k 0) known)) S rfl rfl hb28 rfl (counts_is vbase base key (((daysOf base key).take (((daysOf base key).length : Int) - 1).toNat).getD k 0) known _ (St.rd S hbase) ) ?_
      clear S; intro w4 S
      refine ops_val 12 (i64 (countsOf base key (((daysOf base key).take (((daysOf base key).length : Int) - 1).toNat).getD k 0) known)) rfl rfl rfl rfl (run_pv rfl) ?_
      refine ops_nil ?_
      refine nrm_then ?_
      refine w_seq ?_
      refine w_region ?_
      refine ops_val 37 (v1) rfl rfl rfl rfl (run_pv rfl) ?_
      refine ops_val 38 (i64 (k : Int)) rfl rfl rfl rfl (run_pv rfl) ?_
      refine ops_val 39 (i64 ((k : Int) + 1)) rfl rfl rfl rfl (run_wr rfl (by first | omega | (simp only [List.length_append, List.length_cons, List.length_nil, List.length_set]; omega)) (by first | omega | (simp only [List.length_append, List.length_cons, List.length_nil, List.length_set]; omega))) ?_
      refine ops_val 40 (.pointer (some ((adr v1).add (((k : Int) + 1).toNat * 1)))) rfl rfl rfl rfl (run_index_rdI sl52 (St.rdRow (n := 1) S rfl) rfl rfl (by first | omega | (simp only [List.length_append, List.length_cons, List.length_nil, List.length_set]; omega)) (by first | omega | (simp only [List.length_append, List.length_cons, List.length_nil, List.length_set]; omega))) ?_
      refine ops_val 41 (i64 ((daysOf base key).getD ((k : Int) + 1).toNat 0)) rfl rfl rfl rfl (run_load_scal sc3 rfl (cell0 (Rd.at' (d := 0) (j := 0) (St.rdRow (n := 1) S rfl) (by first | omega | (simp only [List.length_append, List.length_cons, List.length_nil, List.length_set]; omega)) rfl))) ?_
      refine ops_val 13 (i64 ((daysOf base key).getD ((k : Int) + 1).toNat 0)) rfl rfl rfl rfl (run_pv rfl) ?_
      refine ops_nil ?_
      refine nrm_then ?_
      refine w_seq ?_
      refine w_seq ?_
      refine w_region ?_
      refine ops_val 42 (i64 ((daysOf base key).getD ((k : Int) + 1).toNat 0)) rfl rfl rfl rfl (run_pv rfl) ?_
      refine ops_val 43 (.bool (decide (((daysOf base key).getD ((k : Int) + 1).toNat 0) > 1073741824))) rfl rfl rfl rfl (run_pv rfl) ?_
      refine ops_nil ?_
      refine nrm_then ?_
      refine w_cond (decide (((daysOf base key).getD ((k : Int) + 1).toNat 0) > 1073741824)) rfl (fun h3 => ?_) (fun h3 => ?_)
      · have p3 := h3; try simp only [decide_eq_true_eq, decide_eq_false_iff_not, Bool.and_eq_true, Bool.or_eq_true, Bool.not_eq_true', Bool.or_eq_false_iff, Bool.not_eq_false', Int.not_lt, Int.not_le, gt_iff_lt, ge_iff_le, Decidable.not_not] at p3
        refine w_region ?_
        refine ops_val 13 (i64 0) rfl rfl rfl rfl (run_pv rfl) ?_
        refine ops_nil ?_
        refine nrm_then ?_
        refine w_seq ?_
        refine w_block ?_
        refine w_seq ?_
        refine w_cut [(0, vbase), (1, str key), (2, i64 known), (7, vo), (8, v1), (11, i64 (((daysOf base key).take (((daysOf base key).length : Int) - 1).toNat).getD k 0)), (12, i64 (countsOf base key (((daysOf base key).take (((daysOf base key).length : Int) - 1).toNat).getD k 0) known)), (13, i64 0), (25, (Eng.sub 1 v1 0 (((daysOf base key).length : Int) - 1).toNat)), (26, i64 (((daysOf base key).take (((daysOf base key).length : Int) - 1).toNat).length : Int)), (27, i64 (k : Int)), (44, .bool ((decide ((countsOf base key (((daysOf base key).take (((daysOf base key).length : Int) - 1).toNat).getD k 0) known) ≥ 0)) && (decide ((countsOf base key (((daysOf base key).take (((daysOf base key).length : Int) - 1).toNat).getD k 0) known) = (histTo base key known (daysOf base key) k).2))))] (fun w' => Eng.St w [.row 24 5 vo (((histTo base key known (daysOf base key) k).1).map encFact), .row 3 1 v1 ((daysOf base key).map Eng.encI)] w') ?_ ?_
        · refine w_region ?_
          refine ops_val 45 (i64 (countsOf base key (((daysOf base key).take (((daysOf base key).length : Int) - 1).toNat).getD k 0) known)) rfl rfl rfl rfl (run_pv rfl) ?_
          refine ops_val 46 (.bool (decide ((countsOf base key (((daysOf base key).take (((daysOf base key).length : Int) - 1).toNat).getD k 0) known) ≥ 0))) rfl rfl rfl rfl (run_pv rfl) ?_
          refine ops_val 47 (.bool (decide ((countsOf base key (((daysOf base key).take (((daysOf base key).length : Int) - 1).toNat).getD k 0) known) ≥ 0))) rfl rfl rfl rfl (run_pv rfl) ?_
          refine ops_case 47 (decide ((countsOf base key (((daysOf base key).take (((daysOf base key).length : Int) - 1).toNat).getD k 0) known) ≥ 0)) rfl (fun h4 => ?_) (fun h4 => ?_)
          · have p4 := h4; try simp only [decide_eq_true_eq, decide_eq_false_iff_not, Bool.and_eq_true, Bool.or_eq_true, Bool.not_eq_true', Bool.or_eq_false_iff, Bool.not_eq_false', Int.not_lt, Int.not_le, gt_iff_lt, ge_iff_le, Decidable.not_not] at p4
            refine ops_val 48 (i64 (countsOf base key (((daysOf base key).take (((daysOf base key).length : Int) - 1).toNat).getD k 0) known)) rfl rfl rfl rfl (run_pv rfl) ?_
            refine ops_val 49 (i64 ((histTo base key known (daysOf base key) k).2)) rfl rfl rfl rfl (run_pv rfl) ?_
            refine ops_val 50 (.bool (decide ((countsOf base key (((daysOf base key).take (((daysOf base key).length : Int) - 1).toNat).getD k 0) known) = (histTo base key known (daysOf base key) k).2))) rfl rfl rfl rfl (run_pv rfl) ?_
            refine ops_val 51 (.bool (decide ((countsOf base key (((daysOf base key).take (((daysOf base key).length : Int) - 1).toNat).getD k 0) known) = (histTo base key known (daysOf base key) k).2))) rfl rfl rfl rfl (run_pv rfl) ?_
            refine ops_val 44 (.bool (decide ((countsOf base key (((daysOf base key).take (((daysOf base key).length : Int) - 1).toNat).getD k 0) known) = (histTo base key known (daysOf base key) k).2))) rfl rfl rfl rfl (run_pv rfl) ?_
            refine ops_nil ?_
            refine nrm_then ?_
            exact ⟨⟨rfl, rfl, rfl, rfl, rfl, rfl, rfl, rfl, rfl, rfl, rfl, congrArg Value.bool (by simp only [h1, k2, h2, h3, h4, Bool.true_and, Bool.false_and, Bool.and_true, Bool.and_false, Bool.true_or, Bool.false_or, Bool.or_true, Bool.or_false, Bool.not_true, Bool.not_false]), trivial⟩, rfl, S⟩
          · have p4 := h4; try simp only [decide_eq_true_eq, decide_eq_false_iff_not, Bool.and_eq_true, Bool.or_eq_true, Bool.not_eq_true', Bool.or_eq_false_iff, Bool.not_eq_false', Int.not_lt, Int.not_le, gt_iff_lt, ge_iff_le, Decidable.not_not] at p4
            refine ops_skip 48 rfl rfl rfl ?_
            refine ops_skip 49 rfl rfl rfl ?_
            refine ops_skip 50 rfl rfl rfl ?_
            refine ops_val 51 (.bool false) rfl rfl rfl rfl (run_pv rfl) ?_
            refine ops_val 44 (.bool false) rfl rfl rfl rfl (run_pv rfl) ?_
            refine ops_nil ?_
            refine nrm_then ?_
            exact ⟨⟨rfl, rfl, rfl, rfl, rfl, rfl, rfl, rfl, rfl, rfl, rfl, congrArg Value.bool (by simp only [h1, k2, h2, h3, h4, Bool.true_and, Bool.false_and, Bool.and_true, Bool.and_false, Bool.true_or, Bool.false_or, Bool.or_true, Bool.or_false, Bool.not_true, Bool.not_false]), trivial⟩, rfl, S⟩
        · clear S; intro ρ0 w5 S
          refine nrm_then ?_
          refine w_cond ((decide ((countsOf base key (((daysOf base key).take (((daysOf base key).length : Int) - 1).toNat).getD k 0) known) ≥ 0)) && (decide ((countsOf base key (((daysOf base key).take (((daysOf base key).length : Int) - 1).toNat).getD k 0) known) = (histTo base key known (daysOf base key) k).2))) rfl (fun h5 => ?_) (fun h5 => ?_)
          · have p5 := h5; try simp only [decide_eq_true_eq, decide_eq_false_iff_not, Bool.and_eq_true, Bool.or_eq_true, Bool.not_eq_true', Bool.or_eq_false_iff, Bool.not_eq_false', Int.not_lt, Int.not_le, gt_iff_lt, ge_iff_le, Decidable.not_not] at p5
            have k3 : (decide ((countsOf base key (((daysOf base key).take (((daysOf base key).length : Int) - 1).toNat).getD k 0) known) ≥ 0)) = true := (Bool.and_eq_true_iff.1 h5).1
            have pk3 := k3; try simp only [decide_eq_true_eq, decide_eq_false_iff_not, Bool.and_eq_true, Bool.or_eq_true, Bool.not_eq_true', Bool.or_eq_false_iff, Bool.not_eq_false', Int.not_lt, Int.not_le, gt_iff_lt, ge_iff_le, Decidable.not_not] at pk3
            have k4 : (decide ((countsOf base key (((daysOf base key).take (((daysOf base key).length : Int) - 1).toNat).getD k 0) known) = (histTo base key known (daysOf base key) k).2)) = true := (Bool.and_eq_true_iff.1 h5).2
            have pk4 := k4; try simp only [decide_eq_true_eq, decide_eq_false_iff_not, Bool.and_eq_true, Bool.or_eq_true, Bool.not_eq_true', Bool.or_eq_false_iff, Bool.not_eq_false', Int.not_lt, Int.not_le, gt_iff_lt, ge_iff_le, Decidable.not_not] at pk4
            refine w_region ?_
            refine ops_val 52 (vo) rfl rfl rfl rfl (run_pv rfl) ?_
            refine ops_val 53 (vo) rfl rfl rfl rfl (run_pv rfl) ?_
            refine ops_val 54 (i64 (((histTo base key known (daysOf base key) k).1).length : Int)) rfl rfl rfl rfl (run_len_rd Try.underlying22 (St.rdRow (n := 0) S rfl) rfl) ?_
            refine ops_val 55 (i64 ((((histTo base key known (daysOf base key) k).1).length : Int) - 1)) rfl rfl rfl rfl (run_wr rfl (by first | omega | (simp only [List.length_append, List.length_cons, List.length_nil, List.length_set]; omega)) (by first | omega | (simp only [List.length_append, List.length_cons, List.length_nil, List.length_set]; omega))) ?_
            refine ops_val 56 (i64 0) rfl rfl rfl rfl (run_pv rfl) ?_
            refine ops_val 57 (.pointer (some ((adr vo).add (((((histTo base key known (daysOf base key) k).1).length : Int) - 1).toNat * 5)))) rfl rfl rfl rfl (run_index_rdI sl22 (St.rdRow (n := 0) S rfl) rfl rfl (by first | omega | (simp only [List.length_append, List.length_cons, List.length_nil, List.length_set]; omega)) (by first | omega | (simp only [List.length_append, List.length_cons, List.length_nil, List.length_set]; omega))) ?_
            refine ops_val 58 (.pointer (some (((adr vo).add (((((histTo base key known (daysOf base key) k).1).length : Int) - 1).toNat * 5)).add 3))) rfl rfl rfl rfl (run_fieldAddr fd24_3 rfl) ?_
            refine ops_storeRow (dft := default) (off := 3) (us := [i64 0]) ((((histTo base key known (daysOf base key) k).1).length : Int) - 1).toNat ({ (((histTo base key known (daysOf base key) k).1).getD ((((histTo base key known (daysOf base key) k).1).length : Int) - 1).toNat default) with until_ := 0 }) S rfl (Scal.size sc3) rfl rfl rfl rfl (by first | omega | (simp only [List.length_append, List.length_cons, List.length_nil, List.length_set]; omega)) rfl rfl rfl ?_
            clear S; intro w7 S
            replace S : Eng.St w [.row 24 5 vo ((((histTo base key known (daysOf base key) k).1).set ((((histTo base key known (daysOf base key) k).1).length : Int) - 1).toNat ({ (((histTo base key known (daysOf base key) k).1).getD ((((histTo base key known (daysOf base key) k).1).length : Int) - 1).toNat default) with until_ := 0 })).map encFact), .row 3 1 v1 ((daysOf base key).map Eng.encI)] w7 := S
            refine ops_nil ?_
            refine nrm_blk ?_
            refine nrm_then ?_
            refine w_region ?_
            refine ops_val 74 (i64 (countsOf base key (((daysOf base key).take (((daysOf base key).length : Int) - 1).toNat).getD k 0) known)) rfl rfl rfl rfl (run_pv rfl) ?_
            refine ops_val 9 (i64 (countsOf base key (((daysOf base key).take (((daysOf base key).length : Int) - 1).toNat).getD k 0) known)) rfl rfl rfl rfl (run_pv rfl) ?_
            refine ops_nil ?_
            refine nrm_blk ?_
            refine nrm_then ?_
            refine w_region ?_
            refine ops_val 75 (i64 ((k : Int) + 1)) rfl rfl rfl rfl (run_wr rfl (by first | omega | (simp only [List.length_append, List.length_cons, List.length_nil, List.length_set]; omega)) (by first | omega | (simp only [List.length_append, List.length_cons, List.length_nil, List.length_set]; omega))) ?_
            refine ops_val 27 (i64 ((k : Int) + 1)) rfl rfl rfl rfl (run_pv rfl) ?_
            refine ops_nil ?_
            refine nrm_then ?_
            have hst : (((histTo base key known (daysOf base key) k).1).set ((((histTo base key known (daysOf base key) k).1).length : Int) - 1).toNat ({ (((histTo base key known (daysOf base key) k).1).getD ((((histTo base key known (daysOf base key) k).1).length : Int) - 1).toNat default) with until_ := 0 })) = (histTo base key known (daysOf base key) (k + 1)).1 := by simp only [histTo, histOut, capB, h1, k2, h2, h3, h5, k3, k4, if_true, if_false, Bool.false_eq_true, reduceIte, Bool.true_and, Bool.and_true, Bool.false_and, Bool.and_false, Bool.not_true, Bool.not_false, Bool.true_or, Bool.false_or, Bool.or_true, Bool.or_false]
            rw [hst] at S
            exact ⟨rfl, (k + 1, vo), ⟨(by first | rfl | exact congrArg i64 (by omega)), (by first | rfl | exact congrArg i64 (by omega)), (by first | rfl | exact congrArg i64 (by omega)), (by first | rfl | exact congrArg i64 (by omega)), (by first | rfl | exact congrArg i64 (by omega)), (by first | rfl | exact congrArg i64 (by omega)), (by first | rfl | exact congrArg i64 (by omega)), (by first | rfl | exact congrArg i64 (by omega)), (by first | rfl | exact congrArg i64 (by omega)), trivial⟩, ⟨S, by omega⟩, by dsimp only; omega⟩
          · have p5 := h5; try simp only [decide_eq_true_eq, decide_eq_false_iff_not, Bool.and_eq_true, Bool.or_eq_true, Bool.not_eq_true', Bool.or_eq_false_iff, Bool.not_eq_false', Int.not_lt, Int.not_le, gt_iff_lt, ge_iff_le, Decidable.not_not] at p5
            refine w_seq ?_
            refine w_region ?_
            refine ops_val 60 (i64 (countsOf base key (((daysOf base key).take (((daysOf base key).length : Int) - 1).toNat).getD k 0) known)) rfl rfl rfl rfl (run_pv rfl) ?_
            refine ops_val 61 (.bool (decide ((countsOf base key (((daysOf base key).take (((daysOf base key).length : Int) - 1).toNat).getD k 0) known) ≥ 0))) rfl rfl rfl rfl (run_pv rfl) ?_
            refine ops_val 59 (.bool (decide ((countsOf base key (((daysOf base key).take (((daysOf base key).length : Int) - 1).toNat).getD k 0) known) ≥ 0))) rfl rfl rfl rfl (run_pv rfl) ?_
            refine ops_nil ?_
            refine nrm_then ?_
            refine w_cond (decide ((countsOf base key (((daysOf base key).take (((daysOf base key).length : Int) - 1).toNat).getD k 0) known) ≥ 0)) rfl (fun h6 => ?_) (fun h6 => ?_)
            · have p6 := h6; try simp only [decide_eq_true_eq, decide_eq_false_iff_not, Bool.and_eq_true, Bool.or_eq_true, Bool.not_eq_true', Bool.or_eq_false_iff, Bool.not_eq_false', Int.not_lt, Int.not_le, gt_iff_lt, ge_iff_le, Decidable.not_not] at p6
              have k5 : (decide ((countsOf base key (((daysOf base key).take (((daysOf base key).length : Int) - 1).toNat).getD k 0) known) = (histTo base key known (daysOf base key) k).2)) = false := (by simpa only [h6, Bool.true_and] using h5)
              have pk5 := k5; try simp only [decide_eq_true_eq, decide_eq_false_iff_not, Bool.and_eq_true, Bool.or_eq_true, Bool.not_eq_true', Bool.or_eq_false_iff, Bool.not_eq_false', Int.not_lt, Int.not_le, gt_iff_lt, ge_iff_le, Decidable.not_not] at pk5
              refine w_seq ?_
              refine w_region ?_
              refine ops_val 62 (vbase) rfl rfl rfl rfl (run_pv rfl) ?_
              refine ops_val 63 (i64 (countsOf base key (((daysOf base key).take (((daysOf base key).length : Int) - 1).toNat).getD k 0) known)) rfl rfl rfl rfl (run_pv rfl) ?_
              refine ops_val 64 (.pointer (some ((adr vbase).add ((countsOf base key (((daysOf base key).take (((daysOf base key).length : Int) - 1).toNat).getD k 0) known).toNat * 5)))) rfl rfl rfl rfl (run_index_rdI sl22 (St.rd S hbase) rfl rfl (by first | omega | (simp only [List.length_append, List.length_cons, List.length_nil, List.length_set]; omega)) (by first | omega | (simp only [List.length_append, List.length_cons, List.length_nil, List.length_set]; omega))) ?_
              refine ops_val 65 (aggFact (base.getD (countsOf base key (((daysOf base key).take (((daysOf base key).length : Int) - 1).toNat).getD k 0) known).toNat default)) rfl rfl rfl rfl (run_load_agg (encFact (base.getD (countsOf base key (((daysOf base key).take (((daysOf base key).length : Int) - 1).toNat).getD k 0) known).toNat default)) ag24 rfl rfl (Rd.each (d := default) (St.rd S hbase) (by first | omega | (simp only [List.length_append, List.length_cons, List.length_nil, List.length_set]; omega)))) ?_
              refine ops_alloc [str ([]), i64 0, i64 0, i64 0, i64 0] ze24 S rfl rfl ?_
              clear S; intro b1 w8 S
              refine ops_store (off := 0) (us := [str ((base.getD (countsOf base key (((daysOf base key).take (((daysOf base key).length : Int) - 1).toNat).getD k 0) known).toNat default).key), i64 ((base.getD (countsOf base key (((daysOf base key).take (((daysOf base key).length : Int) - 1).toNat).getD k 0) known).toNat default).value), i64 ((base.getD (countsOf base key (((daysOf base key).take (((daysOf base key).length : Int) - 1).toNat).getD k 0) known).toNat default).from_), i64 ((base.getD (countsOf base key (((daysOf base key).take (((daysOf base key).length : Int) - 1).toNat).getD k 0) known).toNat default).until_), i64 ((base.getD (countsOf base key (((daysOf base key).take (((daysOf base key).length : Int) - 1).toNat).getD k 0) known).toNat default).known)]) [str ((base.getD (countsOf base key (((daysOf base key).take (((daysOf base key).length : Int) - 1).toNat).getD k 0) known).toNat default).key), i64 ((base.getD (countsOf base key (((daysOf base key).take (((daysOf base key).length : Int) - 1).toNat).getD k 0) known).toNat default).value), i64 ((base.getD (countsOf base key (((daysOf base key).take (((daysOf base key).length : Int) - 1).toNat).getD k 0) known).toNat default).from_), i64 ((base.getD (countsOf base key (((daysOf base key).take (((daysOf base key).length : Int) - 1).toNat).getD k 0) known).toNat default).until_), i64 ((base.getD (countsOf base key (((daysOf base key).take (((daysOf base key).length : Int) - 1).toNat).getD k 0) known).toNat default).known)] S rfl (AggT.size ag24) rfl rfl rfl rfl (Nat.le_of_ble_eq_true rfl) rfl ?_
              clear S; intro w9 S
              refine ops_nil ?_
              refine nrm_then ?_
              refine w_seq ?_
              refine w_region ?_
              refine ops_val 66 (i64 (((daysOf base key).take (((daysOf base key).length : Int) - 1).toNat).getD k 0)) rfl rfl rfl rfl (run_pv rfl) ?_
              refine ops_val 67 (i64 0) rfl rfl rfl rfl (run_pv rfl) ?_
              refine ops_val 68 (.pointer (some ⟨b1, 2, none⟩)) rfl rfl rfl rfl (run_fieldAddr_blk fd24_2 rfl rfl) ?_
              refine ops_store (off := 2) (us := [i64 (((daysOf base key).take (((daysOf base key).length : Int) - 1).toNat).getD k 0)]) [str ((base.getD (countsOf base key (((daysOf base key).take (((daysOf base key).length : Int) - 1).toNat).getD k 0) known).toNat default).key), i64 ((base.getD (countsOf base key (((daysOf base key).take (((daysOf base key).length : Int) - 1).toNat).getD k 0) known).toNat default).value), i64 (((daysOf base key).take (((daysOf base key).length : Int) - 1).toNat).getD k 0), i64 ((base.getD (countsOf base key (((daysOf base key).take (((daysOf base key).length : Int) - 1).toNat).getD k 0) known).toNat default).until_), i64 ((base.getD (countsOf base key (((daysOf base key).take (((daysOf base key).length : Int) - 1).toNat).getD k 0) known).toNat default).known)] S rfl (Scal.size sc3) rfl rfl rfl rfl (Nat.le_of_ble_eq_true rfl) rfl ?_
              clear S; intro w10 S
              refine ops_val 69 (.pointer (some ⟨b1, 3, none⟩)) rfl rfl rfl rfl (run_fieldAddr_blk fd24_3 rfl rfl) ?_
              refine ops_store (off := 3) (us := [i64 0]) [str ((base.getD (countsOf base key (((daysOf base key).take (((daysOf base key).length : Int) - 1).toNat).getD k 0) known).toNat default).key), i64 ((base.getD (countsOf base key (((daysOf base key).take (((daysOf base key).length : Int) - 1).toNat).getD k 0) known).toNat default).value), i64 (((daysOf base key).take (((daysOf base key).length : Int) - 1).toNat).getD k 0), i64 0, i64 ((base.getD (countsOf base key (((daysOf base key).take (((daysOf base key).length : Int) - 1).toNat).getD k 0) known).toNat default).known)] S rfl (Scal.size sc3) rfl rfl rfl rfl (Nat.le_of_ble_eq_true rfl) rfl ?_
              clear S; intro w11 S
              refine ops_nil ?_
              refine nrm_then ?_
              refine w_region ?_
              refine ops_val 70 (vo) rfl rfl rfl rfl (run_pv rfl) ?_
              refine ops_val 71 (.agg #[str ((base.getD (countsOf base key (((daysOf base key).take (((daysOf base key).length : Int) - 1).toNat).getD k 0) known).toNat default).key), i64 ((base.getD (countsOf base key (((daysOf base key).take (((daysOf base key).length : Int) - 1).toNat).getD k 0) known).toNat default).value), i64 (((daysOf base key).take (((daysOf base key).length : Int) - 1).toNat).getD k 0), i64 0, i64 ((base.getD (countsOf base key (((daysOf base key).take (((daysOf base key).length : Int) - 1).toNat).getD k 0) known).toNat default).known)]) rfl rfl rfl rfl (run_load_agg [str ((base.getD (countsOf base key (((daysOf base key).take (((daysOf base key).length : Int) - 1).toNat).getD k 0) known).toNat default).key), i64 ((base.getD (countsOf base key (((daysOf base key).take (((daysOf base key).length : Int) - 1).toNat).getD k 0) known).toNat default).value), i64 (((daysOf base key).take (((daysOf base key).length : Int) - 1).toNat).getD k 0), i64 0, i64 ((base.getD (countsOf base key (((daysOf base key).take (((daysOf base key).length : Int) - 1).toNat).getD k 0) known).toNat default).known)] ag24 rfl rfl (blk_each S (n := 0) rfl 0 rfl)) ?_
              refine ops_buildSlice [(0, .agg #[str ((base.getD (countsOf base key (((daysOf base key).take (((daysOf base key).length : Int) - 1).toNat).getD k 0) known).toNat default).key), i64 ((base.getD (countsOf base key (((daysOf base key).take (((daysOf base key).length : Int) - 1).toNat).getD k 0) known).toNat default).value), i64 (((daysOf base key).take (((daysOf base key).length : Int) - 1).toNat).getD k 0), i64 0, i64 ((base.getD (countsOf base key (((daysOf base key).take (((daysOf base key).length : Int) - 1).toNat).getD k 0) known).toNat default).known)])] [[str ((base.getD (countsOf base key (((daysOf base key).take (((daysOf base key).length : Int) - 1).toNat).getD k 0) known).toNat default).key), i64 ((base.getD (countsOf base key (((daysOf base key).take (((daysOf base key).length : Int) - 1).toNat).getD k 0) known).toNat default).value), i64 (((daysOf base key).take (((daysOf base key).length : Int) - 1).toNat).getD k 0), i64 0, i64 ((base.getD (countsOf base key (((daysOf base key).take (((daysOf base key).length : Int) - 1).toNat).getD k 0) known).toNat default).known)]] sT22 S rfl rfl rfl (by kernel_rfl) rfl rfl rfl rfl ?_
              clear S; intro v2 w12 S
              replace S : Eng.St w [.row 24 5 v2 (([({ key := (base.getD (countsOf base key (((daysOf base key).take (((daysOf base key).length : Int) - 1).toNat).getD k 0) known).toNat default).key, value := (base.getD (countsOf base key (((daysOf base key).take (((daysOf base key).length : Int) - 1).toNat).getD k 0) known).toNat default).value, from_ := (((daysOf base key).take (((daysOf base key).length : Int) - 1).toNat).getD k 0), until_ := 0, known := (base.getD (countsOf base key (((daysOf base key).take (((daysOf base key).length : Int) - 1).toNat).getD k 0) known).toNat default).known } : Fact)]).map encFact), .blk b1 [str ((base.getD (countsOf base key (((daysOf base key).take (((daysOf base key).length : Int) - 1).toNat).getD k 0) known).toNat default).key), i64 ((base.getD (countsOf base key (((daysOf base key).take (((daysOf base key).length : Int) - 1).toNat).getD k 0) known).toNat default).value), i64 (((daysOf base key).take (((daysOf base key).length : Int) - 1).toNat).getD k 0), i64 0, i64 ((base.getD (countsOf base key (((daysOf base key).take (((daysOf base key).length : Int) - 1).toNat).getD k 0) known).toNat default).known)] 24, .row 24 5 vo (((histTo base key known (daysOf base key) k).1).map encFact), .row 3 1 v1 ((daysOf base key).map Eng.encI)] w12 := S
              replace S := S.f2
              refine ops_append sT22 S rfl rfl rfl rfl (St.rdRow (n := 1) S rfl) (fun _ => rfl) (fun _ => rfl) (by have := right_len base p1; have := daysOf_len base key; first | omega | (simp only [List.length_map, List.length_cons, List.length_nil, List.length_append]; omega)) (by have := right_len base p1; have := daysOf_len base key; first | omega | (simp only [List.length_map, List.length_cons, List.length_nil, List.length_append]; omega)) ?_
              clear S; intro v3 w13 S
              rw [← List.map_append] at S
              replace S : Eng.St w [.row 24 5 v3 (((histTo base key known (daysOf base key) k).1 ++ [({ key := (base.getD (countsOf base key (((daysOf base key).take (((daysOf base key).length : Int) - 1).toNat).getD k 0) known).toNat default).key, value := (base.getD (countsOf base key (((daysOf base key).take (((daysOf base key).length : Int) - 1).toNat).getD k 0) known).toNat default).value, from_ := (((daysOf base key).take (((daysOf base key).length : Int) - 1).toNat).getD k 0), until_ := 0, known := (base.getD (countsOf base key (((daysOf base key).take (((daysOf base key).length : Int) - 1).toNat).getD k 0) known).toNat default).known } : Fact)]).map encFact), .row 24 5 v2 (([({ key := (base.getD (countsOf base key (((daysOf base key).take (((daysOf base key).length : Int) - 1).toNat).getD k 0) known).toNat default).key, value := (base.getD (countsOf base key (((daysOf base key).take (((daysOf base key).length : Int) - 1).toNat).getD k 0) known).toNat default).value, from_ := (((daysOf base key).take (((daysOf base key).length : Int) - 1).toNat).getD k 0), until_ := 0, known := (base.getD (countsOf base key (((daysOf base key).take (((daysOf base key).length : Int) - 1).toNat).getD k 0) known).toNat default).known } : Fact)]).map encFact), .blk b1 [str ((base.getD (countsOf base key (((daysOf base key).take (((daysOf base key).length : Int) - 1).toNat).getD k 0) known).toNat default).key), i64 ((base.getD (countsOf base key (((daysOf base key).take (((daysOf base key).length : Int) - 1).toNat).getD k 0) known).toNat default).value), i64 (((daysOf base key).take (((daysOf base key).length : Int) - 1).toNat).getD k 0), i64 0, i64 ((base.getD (countsOf base key (((daysOf base key).take (((daysOf base key).length : Int) - 1).toNat).getD k 0) known).toNat default).known)] 24, .row 3 1 v1 ((daysOf base key).map Eng.encI)] w13 := S
              refine ops_val 7 (v3) rfl rfl rfl rfl (run_pv rfl) ?_
              refine ops_nil ?_
              refine nrm_blk ?_
              refine nrm_then ?_
              refine w_region ?_
              refine ops_val 74 (i64 (countsOf base key (((daysOf base key).take (((daysOf base key).length : Int) - 1).toNat).getD k 0) known)) rfl rfl rfl rfl (run_pv rfl) ?_
              refine ops_val 9 (i64 (countsOf base key (((daysOf base key).take (((daysOf base key).length : Int) - 1).toNat).getD k 0) known)) rfl rfl rfl rfl (run_pv rfl) ?_
              refine ops_nil ?_
              refine nrm_blk ?_
              refine nrm_then ?_
              refine w_region ?_
              refine ops_val 75 (i64 ((k : Int) + 1)) rfl rfl rfl rfl (run_wr rfl (by first | omega | (simp only [List.length_append, List.length_cons, List.length_nil, List.length_set]; omega)) (by first | omega | (simp only [List.length_append, List.length_cons, List.length_nil, List.length_set]; omega))) ?_
              refine ops_val 27 (i64 ((k : Int) + 1)) rfl rfl rfl rfl (run_pv rfl) ?_
              refine ops_nil ?_
              refine nrm_then ?_
              replace S := S.f1
              replace S := S.drop
              replace S := S.f1
              replace S := S.drop
              have hst : ((histTo base key known (daysOf base key) k).1 ++ [({ key := (base.getD (countsOf base key (((daysOf base key).take (((daysOf base key).length : Int) - 1).toNat).getD k 0) known).toNat default).key, value := (base.getD (countsOf base key (((daysOf base key).take (((daysOf base key).length : Int) - 1).toNat).getD k 0) known).toNat default).value, from_ := (((daysOf base key).take (((daysOf base key).length : Int) - 1).toNat).getD k 0), until_ := 0, known := (base.getD (countsOf base key (((daysOf base key).take (((daysOf base key).length : Int) - 1).toNat).getD k 0) known).toNat default).known } : Fact)]) = (histTo base key known (daysOf base key) (k + 1)).1 := by simp only [histTo, histOut, capB, h1, k2, h2, h3, h5, h6, k5, if_true, if_false, Bool.false_eq_true, reduceIte, Bool.true_and, Bool.and_true, Bool.false_and, Bool.and_false, Bool.not_true, Bool.not_false, Bool.true_or, Bool.false_or, Bool.or_true, Bool.or_false]
              rw [hst] at S
              exact ⟨rfl, (k + 1, v3), ⟨(by first | rfl | exact congrArg i64 (by omega)), (by first | rfl | exact congrArg i64 (by omega)), (by first | rfl | exact congrArg i64 (by omega)), (by first | rfl | exact congrArg i64 (by omega)), (by first | rfl | exact congrArg i64 (by omega)), (by first | rfl | exact congrArg i64 (by omega)), (by first | rfl | exact congrArg i64 (by omega)), (by first | rfl | exact congrArg i64 (by omega)), (by first | rfl | exact congrArg i64 (by omega)), trivial⟩, ⟨S, by omega⟩, by dsimp only; omega⟩
            · have p6 := h6; try simp only [decide_eq_true_eq, decide_eq_false_iff_not, Bool.and_eq_true, Bool.or_eq_true, Bool.not_eq_true', Bool.or_eq_false_iff, Bool.not_eq_false', Int.not_lt, Int.not_le, gt_iff_lt, ge_iff_le, Decidable.not_not] at p6
              refine w_skip ?_
              refine nrm_blk ?_
              refine nrm_then ?_
              refine w_region ?_
              refine ops_val 74 (i64 (countsOf base key (((daysOf base key).take (((daysOf base key).length : Int) - 1).toNat).getD k 0) known)) rfl rfl rfl rfl (run_pv rfl) ?_
              refine ops_val 9 (i64 (countsOf base key (((daysOf base key).take (((daysOf base key).length : Int) - 1).toNat).getD k 0) known)) rfl rfl rfl rfl (run_pv rfl) ?_
              refine ops_nil ?_
              refine nrm_blk ?_
              refine nrm_then ?_
              refine w_region ?_
              refine ops_val 75 (i64 ((k : Int) + 1)) rfl rfl rfl rfl (run_wr rfl (by first | omega | (simp only [List.length_append, List.length_cons, List.length_nil, List.length_set]; omega)) (by first | omega | (simp only [List.length_append, List.length_cons, List.length_nil, List.length_set]; omega))) ?_
              refine ops_val 27 (i64 ((k : Int) + 1)) rfl rfl rfl rfl (run_pv rfl) ?_
              refine ops_nil ?_
              refine nrm_then ?_
              have hst : (histTo base key known (daysOf base key) k).1 = (histTo base key known (daysOf base key) (k + 1)).1 := by simp only [histTo, histOut, capB, h1, k2, h2, h3, h5, h6, if_true, if_false, Bool.false_eq_true, reduceIte, Bool.true_and, Bool.and_true, Bool.false_and, Bool.and_false, Bool.not_true, Bool.not_false, Bool.true_or, Bool.false_or, Bool.or_true, Bool.or_false]
              rw [hst] at S
              exact ⟨rfl, (k + 1, vo), ⟨(by first | rfl | exact congrArg i64 (by omega)), (by first | rfl | exact congrArg i64 (by omega)), (by first | rfl | exact congrArg i64 (by omega)), (by first | rfl | exact congrArg i64 (by omega)), (by first | rfl | exact congrArg i64 (by omega)), (by first | rfl | exact congrArg i64 (by omega)), (by first | rfl | exact congrArg i64 (by omega)), (by first | rfl | exact congrArg i64 (by omega)), (by first | rfl | exact congrArg i64 (by omega)), trivial⟩, ⟨S, by omega⟩, by dsimp only; omega⟩
      · have p3 := h3; try simp only [decide_eq_true_eq, decide_eq_false_iff_not, Bool.and_eq_true, Bool.or_eq_true, Bool.not_eq_true', Bool.or_eq_false_iff, Bool.not_eq_false', Int.not_lt, Int.not_le, gt_iff_lt, ge_iff_le, Decidable.not_not] at p3
        refine w_skip ?_
        refine nrm_then ?_
        refine w_seq ?_
        refine w_block ?_
        refine w_seq ?_
        refine w_cut [(0, vbase), (1, str key), (2, i64 known), (7, vo), (8, v1), (11, i64 (((daysOf base key).take (((daysOf base key).length : Int) - 1).toNat).getD k 0)), (12, i64 (countsOf base key (((daysOf base key).take (((daysOf base key).length : Int) - 1).toNat).getD k 0) known)), (13, i64 ((daysOf base key).getD ((k : Int) + 1).toNat 0)), (25, (Eng.sub 1 v1 0 (((daysOf base key).length : Int) - 1).toNat)), (26, i64 (((daysOf base key).take (((daysOf base key).length : Int) - 1).toNat).length : Int)), (27, i64 (k : Int)), (44, .bool ((decide ((countsOf base key (((daysOf base key).take (((daysOf base key).length : Int) - 1).toNat).getD k 0) known) ≥ 0)) && (decide ((countsOf base key (((daysOf base key).take (((daysOf base key).length : Int) - 1).toNat).getD k 0) known) = (histTo base key known (daysOf base key) k).2))))] (fun w' => Eng.St w [.row 24 5 vo (((histTo base key known (daysOf base key) k).1).map encFact), .row 3 1 v1 ((daysOf base key).map Eng.encI)] w') ?_ ?_
        · refine w_region ?_
          refine ops_val 45 (i64 (countsOf base key (((daysOf base key).take (((daysOf base key).length : Int) - 1).toNat).getD k 0) known)) rfl rfl rfl rfl (run_pv rfl) ?_
          refine ops_val 46 (.bool (decide ((countsOf base key (((daysOf base key).take (((daysOf base key).length : Int) - 1).toNat).getD k 0) known) ≥ 0))) rfl rfl rfl rfl (run_pv rfl) ?_
          refine ops_val 47 (.bool (decide ((countsOf base key (((daysOf base key).take (((daysOf base key).length : Int) - 1).toNat).getD k 0) known) ≥ 0))) rfl rfl rfl rfl (run_pv rfl) ?_
          refine ops_case 47 (decide ((countsOf base key (((daysOf base key).take (((daysOf base key).length : Int) - 1).toNat).getD k 0) known) ≥ 0)) rfl (fun h7 => ?_) (fun h7 => ?_)
          · have p7 := h7; try simp only [decide_eq_true_eq, decide_eq_false_iff_not, Bool.and_eq_true, Bool.or_eq_true, Bool.not_eq_true', Bool.or_eq_false_iff, Bool.not_eq_false', Int.not_lt, Int.not_le, gt_iff_lt, ge_iff_le, Decidable.not_not] at p7
            refine ops_val 48 (i64 (countsOf base key (((daysOf base key).take (((daysOf base key).length : Int) - 1).toNat).getD k 0) known)) rfl rfl rfl rfl (run_pv rfl) ?_
            refine ops_val 49 (i64 ((histTo base key known (daysOf base key) k).2)) rfl rfl rfl rfl (run_pv rfl) ?_
            refine ops_val 50 (.bool (decide ((countsOf base key (((daysOf base key).take (((daysOf base key).length : Int) - 1).toNat).getD k 0) known) = (histTo base key known (daysOf base key) k).2))) rfl rfl rfl rfl (run_pv rfl) ?_
            refine ops_val 51 (.bool (decide ((countsOf base key (((daysOf base key).take (((daysOf base key).length : Int) - 1).toNat).getD k 0) known) = (histTo base key known (daysOf base key) k).2))) rfl rfl rfl rfl (run_pv rfl) ?_
            refine ops_val 44 (.bool (decide ((countsOf base key (((daysOf base key).take (((daysOf base key).length : Int) - 1).toNat).getD k 0) known) = (histTo base key known (daysOf base key) k).2))) rfl rfl rfl rfl (run_pv rfl) ?_
            refine ops_nil ?_
            refine nrm_then ?_
            exact ⟨⟨rfl, rfl, rfl, rfl, rfl, rfl, rfl, rfl, rfl, rfl, rfl, congrArg Value.bool (by simp only [h1, k2, h2, h3, h7, Bool.true_and, Bool.false_and, Bool.and_true, Bool.and_false, Bool.true_or, Bool.false_or, Bool.or_true, Bool.or_false, Bool.not_true, Bool.not_false]), trivial⟩, rfl, S⟩
          · have p7 := h7; try simp only [decide_eq_true_eq, decide_eq_false_iff_not, Bool.and_eq_true, Bool.or_eq_true, Bool.not_eq_true', Bool.or_eq_false_iff, Bool.not_eq_false', Int.not_lt, Int.not_le, gt_iff_lt, ge_iff_le, Decidable.not_not] at p7
            refine ops_skip 48 rfl rfl rfl ?_
            refine ops_skip 49 rfl rfl rfl ?_
            refine ops_skip 50 rfl rfl rfl ?_
            refine ops_val 51 (.bool false) rfl rfl rfl rfl (run_pv rfl) ?_
            refine ops_val 44 (.bool false) rfl rfl rfl rfl (run_pv rfl) ?_
            refine ops_nil ?_
            refine nrm_then ?_
            exact ⟨⟨rfl, rfl, rfl, rfl, rfl, rfl, rfl, rfl, rfl, rfl, rfl, congrArg Value.bool (by simp only [h1, k2, h2, h3, h7, Bool.true_and, Bool.false_and, Bool.and_true, Bool.and_false, Bool.true_or, Bool.false_or, Bool.or_true, Bool.or_false, Bool.not_true, Bool.not_false]), trivial⟩, rfl, S⟩
        · clear S; intro ρ0 w14 S
          refine nrm_then ?_
          refine w_cond ((decide ((countsOf base key (((daysOf base key).take (((daysOf base key).length : Int) - 1).toNat).getD k 0) known) ≥ 0)) && (decide ((countsOf base key (((daysOf base key).take (((daysOf base key).length : Int) - 1).toNat).getD k 0) known) = (histTo base key known (daysOf base key) k).2))) rfl (fun h8 => ?_) (fun h8 => ?_)
          · have p8 := h8; try simp only [decide_eq_true_eq, decide_eq_false_iff_not, Bool.and_eq_true, Bool.or_eq_true, Bool.not_eq_true', Bool.or_eq_false_iff, Bool.not_eq_false', Int.not_lt, Int.not_le, gt_iff_lt, ge_iff_le, Decidable.not_not] at p8
            have k6 : (decide ((countsOf base key (((daysOf base key).take (((daysOf base key).length : Int) - 1).toNat).getD k 0) known) ≥ 0)) = true := (Bool.and_eq_true_iff.1 h8).1
            have pk6 := k6; try simp only [decide_eq_true_eq, decide_eq_false_iff_not, Bool.and_eq_true, Bool.or_eq_true, Bool.not_eq_true', Bool.or_eq_false_iff, Bool.not_eq_false', Int.not_lt, Int.not_le, gt_iff_lt, ge_iff_le, Decidable.not_not] at pk6
            have k7 : (decide ((countsOf base key (((daysOf base key).take (((daysOf base key).length : Int) - 1).toNat).getD k 0) known) = (histTo base key known (daysOf base key) k).2)) = true := (Bool.and_eq_true_iff.1 h8).2
            have pk7 := k7; try simp only [decide_eq_true_eq, decide_eq_false_iff_not, Bool.and_eq_true, Bool.or_eq_true, Bool.not_eq_true', Bool.or_eq_false_iff, Bool.not_eq_false', Int.not_lt, Int.not_le, gt_iff_lt, ge_iff_le, Decidable.not_not] at pk7
            refine w_region ?_
            refine ops_val 52 (vo) rfl rfl rfl rfl (run_pv rfl) ?_
            refine ops_val 53 (vo) rfl rfl rfl rfl (run_pv rfl) ?_
            refine ops_val 54 (i64 (((histTo base key known (daysOf base key) k).1).length : Int)) rfl rfl rfl rfl (run_len_rd Try.underlying22 (St.rdRow (n := 0) S rfl) rfl) ?_
            refine ops_val 55 (i64 ((((histTo base key known (daysOf base key) k).1).length : Int) - 1)) rfl rfl rfl rfl (run_wr rfl (by first | omega | (simp only [List.length_append, List.length_cons, List.length_nil, List.length_set]; omega)) (by first | omega | (simp only [List.length_append, List.length_cons, List.length_nil, List.length_set]; omega))) ?_
            refine ops_val 56 (i64 ((daysOf base key).getD ((k : Int) + 1).toNat 0)) rfl rfl rfl rfl (run_pv rfl) ?_
            refine ops_val 57 (.pointer (some ((adr vo).add (((((histTo base key known (daysOf base key) k).1).length : Int) - 1).toNat * 5)))) rfl rfl rfl rfl (run_index_rdI sl22 (St.rdRow (n := 0) S rfl) rfl rfl (by first | omega | (simp only [List.length_append, List.length_cons, List.length_nil, List.length_set]; omega)) (by first | omega | (simp only [List.length_append, List.length_cons, List.length_nil, List.length_set]; omega))) ?_
            refine ops_val 58 (.pointer (some (((adr vo).add (((((histTo base key known (daysOf base key) k).1).length : Int) - 1).toNat * 5)).add 3))) rfl rfl rfl rfl (run_fieldAddr fd24_3 rfl) ?_
            refine ops_storeRow (dft := default) (off := 3) (us := [i64 ((daysOf base key).getD ((k : Int) + 1).toNat 0)]) ((((histTo base key known (daysOf base key) k).1).length : Int) - 1).toNat ({ (((histTo base key known (daysOf base key) k).1).getD ((((histTo base key known (daysOf base key) k).1).length : Int) - 1).toNat default) with until_ := ((daysOf base key).getD ((k : Int) + 1).toNat 0) }) S rfl (Scal.size sc3) rfl rfl rfl rfl (by first | omega | (simp only [List.length_append, List.length_cons, List.length_nil, List.length_set]; omega)) rfl rfl rfl ?_
            clear S; intro w16 S
            replace S : Eng.St w [.row 24 5 vo ((((histTo base key known (daysOf base key) k).1).set ((((histTo base key known (daysOf base key) k).1).length : Int) - 1).toNat ({ (((histTo base key known (daysOf base key) k).1).getD ((((histTo base key known (daysOf base key) k).1).length : Int) - 1).toNat default) with until_ := ((daysOf base key).getD ((k : Int) + 1).toNat 0) })).map encFact), .row 3 1 v1 ((daysOf base key).map Eng.encI)] w16 := S
            refine ops_nil ?_
            refine nrm_blk ?_
            refine nrm_then ?_
            refine w_region ?_
            refine ops_val 74 (i64 (countsOf base key (((daysOf base key).take (((daysOf base key).length : Int) - 1).toNat).getD k 0) known)) rfl rfl rfl rfl (run_pv rfl) ?_
            refine ops_val 9 (i64 (countsOf base key (((daysOf base key).take (((daysOf base key).length : Int) - 1).toNat).getD k 0) known)) rfl rfl rfl rfl (run_pv rfl) ?_
            refine ops_nil ?_
            refine nrm_blk ?_
            refine nrm_then ?_
            refine w_region ?_
            refine ops_val 75 (i64 ((k : Int) + 1)) rfl rfl rfl rfl (run_wr rfl (by first | omega | (simp only [List.length_append, List.length_cons, List.length_nil, List.length_set]; omega)) (by first | omega | (simp only [List.length_append, List.length_cons, List.length_nil, List.length_set]; omega))) ?_
            refine ops_val 27 (i64 ((k : Int) + 1)) rfl rfl rfl rfl (run_pv rfl) ?_
            refine ops_nil ?_
            refine nrm_then ?_
            have hst : (((histTo base key known (daysOf base key) k).1).set ((((histTo base key known (daysOf base key) k).1).length : Int) - 1).toNat ({ (((histTo base key known (daysOf base key) k).1).getD ((((histTo base key known (daysOf base key) k).1).length : Int) - 1).toNat default) with until_ := ((daysOf base key).getD ((k : Int) + 1).toNat 0) })) = (histTo base key known (daysOf base key) (k + 1)).1 := by simp only [histTo, histOut, capB, h1, k2, h2, h3, h8, k6, k7, if_true, if_false, Bool.false_eq_true, reduceIte, Bool.true_and, Bool.and_true, Bool.false_and, Bool.and_false, Bool.not_true, Bool.not_false, Bool.true_or, Bool.false_or, Bool.or_true, Bool.or_false]
            rw [hst] at S
            exact ⟨rfl, (k + 1, vo), ⟨(by first | rfl | exact congrArg i64 (by omega)), (by first | rfl | exact congrArg i64 (by omega)), (by first | rfl | exact congrArg i64 (by omega)), (by first | rfl | exact congrArg i64 (by omega)), (by first | rfl | exact congrArg i64 (by omega)), (by first | rfl | exact congrArg i64 (by omega)), (by first | rfl | exact congrArg i64 (by omega)), (by first | rfl | exact congrArg i64 (by omega)), (by first | rfl | exact congrArg i64 (by omega)), trivial⟩, ⟨S, by omega⟩, by dsimp only; omega⟩
          · have p8 := h8; try simp only [decide_eq_true_eq, decide_eq_false_iff_not, Bool.and_eq_true, Bool.or_eq_true, Bool.not_eq_true', Bool.or_eq_false_iff, Bool.not_eq_false', Int.not_lt, Int.not_le, gt_iff_lt, ge_iff_le, Decidable.not_not] at p8
            refine w_seq ?_
            refine w_region ?_
            refine ops_val 60 (i64 (countsOf base key (((daysOf base key).take (((daysOf base key).length : Int) - 1).toNat).getD k 0) known)) rfl rfl rfl rfl (run_pv rfl) ?_
            refine ops_val 61 (.bool (decide ((countsOf base key (((daysOf base key).take (((daysOf base key).length : Int) - 1).toNat).getD k 0) known) ≥ 0))) rfl rfl rfl rfl (run_pv rfl) ?_
            refine ops_val 59 (.bool (decide ((countsOf base key (((daysOf base key).take (((daysOf base key).length : Int) - 1).toNat).getD k 0) known) ≥ 0))) rfl rfl rfl rfl (run_pv rfl) ?_
            refine ops_nil ?_
            refine nrm_then ?_
            refine w_cond (decide ((countsOf base key (((daysOf base key).take (((daysOf base key).length : Int) - 1).toNat).getD k 0) known) ≥ 0)) rfl (fun h9 => ?_) (fun h9 => ?_)
            · have p9 := h9; try simp only [decide_eq_true_eq, decide_eq_false_iff_not, Bool.and_eq_true, Bool.or_eq_true, Bool.not_eq_true', Bool.or_eq_false_iff, Bool.not_eq_false', Int.not_lt, Int.not_le, gt_iff_lt, ge_iff_le, Decidable.not_not] at p9
              have k8 : (decide ((countsOf base key (((daysOf base key).take (((daysOf base key).length : Int) - 1).toNat).getD k 0) known) = (histTo base key known (daysOf base key) k).2)) = false := (by simpa only [h9, Bool.true_and] using h8)
              have pk8 := k8; try simp only [decide_eq_true_eq, decide_eq_false_iff_not, Bool.and_eq_true, Bool.or_eq_true, Bool.not_eq_true', Bool.or_eq_false_iff, Bool.not_eq_false', Int.not_lt, Int.not_le, gt_iff_lt, ge_iff_le, Decidable.not_not] at pk8
              refine w_seq ?_
              refine w_region ?_
              refine ops_val 62 (vbase) rfl rfl rfl rfl (run_pv rfl) ?_
              refine ops_val 63 (i64 (countsOf base key (((daysOf base key).take (((daysOf base key).length : Int) - 1).toNat).getD k 0) known)) rfl rfl rfl rfl (run_pv rfl) ?_
              refine ops_val 64 (.pointer (some ((adr vbase).add ((countsOf base key (((daysOf base key).take (((daysOf base key).length : Int) - 1).toNat).getD k 0) known).toNat * 5)))) rfl rfl rfl rfl (run_index_rdI sl22 (St.rd S hbase) rfl rfl (by first | omega | (simp only [List.length_append, List.length_cons, List.length_nil, List.length_set]; omega)) (by first | omega | (simp only [List.length_append, List.length_cons, List.length_nil, List.length_set]; omega))) ?_
              refine ops_val 65 (aggFact (base.getD (countsOf base key (((daysOf base key).take (((daysOf base key).length : Int) - 1).toNat).getD k 0) known).toNat default)) rfl rfl rfl rfl (run_load_agg (encFact (base.getD (countsOf base key (((daysOf base key).take (((daysOf base key).length : Int) - 1).toNat).getD k 0) known).toNat default)) ag24 rfl rfl (Rd.each (d := default) (St.rd S hbase) (by first | omega | (simp only [List.length_append, List.length_cons, List.length_nil, List.length_set]; omega)))) ?_
              refine ops_alloc [str ([]), i64 0, i64 0, i64 0, i64 0] ze24 S rfl rfl ?_
              clear S; intro b2 w17 S
              refine ops_store (off := 0) (us := [str ((base.getD (countsOf base key (((daysOf base key).take (((daysOf base key).length : Int) - 1).toNat).getD k 0) known).toNat default).key), i64 ((base.getD (countsOf base key (((daysOf base key).take (((daysOf base key).length : Int) - 1).toNat).getD k 0) known).toNat default).value), i64 ((base.getD (countsOf base key (((daysOf base key).take (((daysOf base key).length : Int) - 1).toNat).getD k 0) known).toNat default).from_), i64 ((base.getD (countsOf base key (((daysOf base key).take (((daysOf base key).length : Int) - 1).toNat).getD k 0) known).toNat default).until_), i64 ((base.getD (countsOf base key (((daysOf base key).take (((daysOf base key).length : Int) - 1).toNat).getD k 0) known).toNat default).known)]) [str ((base.getD (countsOf base key (((daysOf base key).take (((daysOf base key).length : Int) - 1).toNat).getD k 0) known).toNat default).key), i64 ((base.getD (countsOf base key (((daysOf base key).take (((daysOf base key).length : Int) - 1).toNat).getD k 0) known).toNat default).value), i64 ((base.getD (countsOf base key (((daysOf base key).take (((daysOf base key).length : Int) - 1).toNat).getD k 0) known).toNat default).from_), i64 ((base.getD (countsOf base key (((daysOf base key).take (((daysOf base key).length : Int) - 1).toNat).getD k 0) known).toNat default).until_), i64 ((base.getD (countsOf base key (((daysOf base key).take (((daysOf base key).length : Int) - 1).toNat).getD k 0) known).toNat default).known)] S rfl (AggT.size ag24) rfl rfl rfl rfl (Nat.le_of_ble_eq_true rfl) rfl ?_
              clear S; intro w18 S
              refine ops_nil ?_
              refine nrm_then ?_
              refine w_seq ?_
              refine w_region ?_
              refine ops_val 66 (i64 (((daysOf base key).take (((daysOf base key).length : Int) - 1).toNat).getD k 0)) rfl rfl rfl rfl (run_pv rfl) ?_
              refine ops_val 67 (i64 ((daysOf base key).getD ((k : Int) + 1).toNat 0)) rfl rfl rfl rfl (run_pv rfl) ?_
              refine ops_val 68 (.pointer (some ⟨b2, 2, none⟩)) rfl rfl rfl rfl (run_fieldAddr_blk fd24_2 rfl rfl) ?_
              refine ops_store (off := 2) (us := [i64 (((daysOf base key).take (((daysOf base key).length : Int) - 1).toNat).getD k 0)]) [str ((base.getD (countsOf base key (((daysOf base key).take (((daysOf base key).length : Int) - 1).toNat).getD k 0) known).toNat default).key), i64 ((base.getD (countsOf base key (((daysOf base key).take (((daysOf base key).length : Int) - 1).toNat).getD k 0) known).toNat default).value), i64 (((daysOf base key).take (((daysOf base key).length : Int) - 1).toNat).getD k 0), i64 ((base.getD (countsOf base key (((daysOf base key).take (((daysOf base key).length : Int) - 1).toNat).getD k 0) known).toNat default).until_), i64 ((base.getD (countsOf base key (((daysOf base key).take (((daysOf base key).length : Int) - 1).toNat).getD k 0) known).toNat default).known)] S rfl (Scal.size sc3) rfl rfl rfl rfl (Nat.le_of_ble_eq_true rfl) rfl ?_
              clear S; intro w19 S
              refine ops_val 69 (.pointer (some ⟨b2, 3, none⟩)) rfl rfl rfl rfl (run_fieldAddr_blk fd24_3 rfl rfl) ?_
              refine ops_store (off := 3) (us := [i64 ((daysOf base key).getD ((k : Int) + 1).toNat 0)]) [str ((base.getD (countsOf base key (((daysOf base key).take (((daysOf base key).length : Int) - 1).toNat).getD k 0) known).toNat default).key), i64 ((base.getD (countsOf base key (((daysOf base key).take (((daysOf base key).length : Int) - 1).toNat).getD k 0) known).toNat default).value), i64 (((daysOf base key).take (((daysOf base key).length : Int) - 1).toNat).getD k 0), i64 ((daysOf base key).getD ((k : Int) + 1).toNat 0), i64 ((base.getD (countsOf base key (((daysOf base key).take (((daysOf base key).length : Int) - 1).toNat).getD k 0) known).toNat default).known)] S rfl (Scal.size sc3) rfl rfl rfl rfl (Nat.le_of_ble_eq_true rfl) rfl ?_
              clear S; intro w20 S
              refine ops_nil ?_
              refine nrm_then ?_
              refine w_region ?_
              refine ops_val 70 (vo) rfl rfl rfl rfl (run_pv rfl) ?_
              refine ops_val 71 (.agg #[str ((base.getD (countsOf base key (((daysOf base key).take (((daysOf base key).length : Int) - 1).toNat).getD k 0) known).toNat default).key), i64 ((base.getD (countsOf base key (((daysOf base key).take (((daysOf base key).length : Int) - 1).toNat).getD k 0) known).toNat default).value), i64 (((daysOf base key).take (((daysOf base key).length : Int) - 1).toNat).getD k 0), i64 ((daysOf base key).getD ((k : Int) + 1).toNat 0), i64 ((base.getD (countsOf base key (((daysOf base key).take (((daysOf base key).length : Int) - 1).toNat).getD k 0) known).toNat default).known)]) rfl rfl rfl rfl (run_load_agg [str ((base.getD (countsOf base key (((daysOf base key).take (((daysOf base key).length : Int) - 1).toNat).getD k 0) known).toNat default).key), i64 ((base.getD (countsOf base key (((daysOf base key).take (((daysOf base key).length : Int) - 1).toNat).getD k 0) known).toNat default).value), i64 (((daysOf base key).take (((daysOf base key).length : Int) - 1).toNat).getD k 0), i64 ((daysOf base key).getD ((k : Int) + 1).toNat 0), i64 ((base.getD (countsOf base key (((daysOf base key).take (((daysOf base key).length : Int) - 1).toNat).getD k 0) known).toNat default).known)] ag24 rfl rfl (blk_each S (n := 0) rfl 0 rfl)) ?_
              refine ops_buildSlice [(0, .agg #[str ((base.getD (countsOf base key (((daysOf base key).take (((daysOf base key).length : Int) - 1).toNat).getD k 0) known).toNat default).key), i64 ((base.getD (countsOf base key (((daysOf base key).take (((daysOf base key).length : Int) - 1).toNat).getD k 0) known).toNat default).value), i64 (((daysOf base key).take (((daysOf base key).length : Int) - 1).toNat).getD k 0), i64 ((daysOf base key).getD ((k : Int) + 1).toNat 0), i64 ((base.getD (countsOf base key (((daysOf base key).take (((daysOf base key).length : Int) - 1).toNat).getD k 0) known).toNat default).known)])] [[str ((base.getD (countsOf base key (((daysOf base key).take (((daysOf base key).length : Int) - 1).toNat).getD k 0) known).toNat default).key), i64 ((base.getD (countsOf base key (((daysOf base key).take (((daysOf base key).length : Int) - 1).toNat).getD k 0) known).toNat default).value), i64 (((daysOf base key).take (((daysOf base key).length : Int) - 1).toNat).getD k 0), i64 ((daysOf base key).getD ((k : Int) + 1).toNat 0), i64 ((base.getD (countsOf base key (((daysOf base key).take (((daysOf base key).length : Int) - 1).toNat).getD k 0) known).toNat default).known)]] sT22 S rfl rfl rfl (by kernel_rfl) rfl rfl rfl rfl ?_
              clear S; intro v4 w21 S
              replace S : Eng.St w [.row 24 5 v4 (([({ key := (base.getD (countsOf base key (((daysOf base key).take (((daysOf base key).length : Int) - 1).toNat).getD k 0) known).toNat default).key, value := (base.getD (countsOf base key (((daysOf base key).take (((daysOf base key).length : Int) - 1).toNat).getD k 0) known).toNat default).value, from_ := (((daysOf base key).take (((daysOf base key).length : Int) - 1).toNat).getD k 0), until_ := ((daysOf base key).getD ((k : Int) + 1).toNat 0), known := (base.getD (countsOf base key (((daysOf base key).take (((daysOf base key).length : Int) - 1).toNat).getD k 0) known).toNat default).known } : Fact)]).map encFact), .blk b2 [str ((base.getD (countsOf base key (((daysOf base key).take (((daysOf base key).length : Int) - 1).toNat).getD k 0) known).toNat default).key), i64 ((base.getD (countsOf base key (((daysOf base key).take (((daysOf base key).length : Int) - 1).toNat).getD k 0) known).toNat default).value), i64 (((daysOf base key).take (((daysOf base key).length : Int) - 1).toNat).getD k 0), i64 ((daysOf base key).getD ((k : Int) + 1).toNat 0), i64 ((base.getD (countsOf base key (((daysOf base key).take (((daysOf base key).length : Int) - 1).toNat).getD k 0) known).toNat default).known)] 24, .row 24 5 vo (((histTo base key known (daysOf base key) k).1).map encFact), .row 3 1 v1 ((daysOf base key).map Eng.encI)] w21 := S
              replace S := S.f2
              refine ops_append sT22 S rfl rfl rfl rfl (St.rdRow (n := 1) S rfl) (fun _ => rfl) (fun _ => rfl) (by have := right_len base p1; have := daysOf_len base key; first | omega | (simp only [List.length_map, List.length_cons, List.length_nil, List.length_append]; omega)) (by have := right_len base p1; have := daysOf_len base key; first | omega | (simp only [List.length_map, List.length_cons, List.length_nil, List.length_append]; omega)) ?_
              clear S; intro v5 w22 S
              rw [← List.map_append] at S
              replace S : Eng.St w [.row 24 5 v5 (((histTo base key known (daysOf base key) k).1 ++ [({ key := (base.getD (countsOf base key (((daysOf base key).take (((daysOf base key).length : Int) - 1).toNat).getD k 0) known).toNat default).key, value := (base.getD (countsOf base key (((daysOf base key).take (((daysOf base key).length : Int) - 1).toNat).getD k 0) known).toNat default).value, from_ := (((daysOf base key).take (((daysOf base key).length : Int) - 1).toNat).getD k 0), until_ := ((daysOf base key).getD ((k : Int) + 1).toNat 0), known := (base.getD (countsOf base key (((daysOf base key).take (((daysOf base key).length : Int) - 1).toNat).getD k 0) known).toNat default).known } : Fact)]).map encFact), .row 24 5 v4 (([({ key := (base.getD (countsOf base key (((daysOf base key).take (((daysOf base key).length : Int) - 1).toNat).getD k 0) known).toNat default).key, value := (base.getD (countsOf base key (((daysOf base key).take (((daysOf base key).length : Int) - 1).toNat).getD k 0) known).toNat default).value, from_ := (((daysOf base key).take (((daysOf base key).length : Int) - 1).toNat).getD k 0), until_ := ((daysOf base key).getD ((k : Int) + 1).toNat 0), known := (base.getD (countsOf base key (((daysOf base key).take (((daysOf base key).length : Int) - 1).toNat).getD k 0) known).toNat default).known } : Fact)]).map encFact), .blk b2 [str ((base.getD (countsOf base key (((daysOf base key).take (((daysOf base key).length : Int) - 1).toNat).getD k 0) known).toNat default).key), i64 ((base.getD (countsOf base key (((daysOf base key).take (((daysOf base key).length : Int) - 1).toNat).getD k 0) known).toNat default).value), i64 (((daysOf base key).take (((daysOf base key).length : Int) - 1).toNat).getD k 0), i64 ((daysOf base key).getD ((k : Int) + 1).toNat 0), i64 ((base.getD (countsOf base key (((daysOf base key).take (((daysOf base key).length : Int) - 1).toNat).getD k 0) known).toNat default).known)] 24, .row 3 1 v1 ((daysOf base key).map Eng.encI)] w22 := S
              refine ops_val 7 (v5) rfl rfl rfl rfl (run_pv rfl) ?_
              refine ops_nil ?_
              refine nrm_blk ?_
              refine nrm_then ?_
              refine w_region ?_
              refine ops_val 74 (i64 (countsOf base key (((daysOf base key).take (((daysOf base key).length : Int) - 1).toNat).getD k 0) known)) rfl rfl rfl rfl (run_pv rfl) ?_
              refine ops_val 9 (i64 (countsOf base key (((daysOf base key).take (((daysOf base key).length : Int) - 1).toNat).getD k 0) known)) rfl rfl rfl rfl (run_pv rfl) ?_
              refine ops_nil ?_
              refine nrm_blk ?_
              refine nrm_then ?_
              refine w_region ?_
              refine ops_val 75 (i64 ((k : Int) + 1)) rfl rfl rfl rfl (run_wr rfl (by first | omega | (simp only [List.length_append, List.length_cons, List.length_nil, List.length_set]; omega)) (by first | omega | (simp only [List.length_append, List.length_cons, List.length_nil, List.length_set]; omega))) ?_
              refine ops_val 27 (i64 ((k : Int) + 1)) rfl rfl rfl rfl (run_pv rfl) ?_
              refine ops_nil ?_
              refine nrm_then ?_
              replace S := S.f1
              replace S := S.drop
              replace S := S.f1
              replace S := S.drop
              have hst : ((histTo base key known (daysOf base key) k).1 ++ [({ key := (base.getD (countsOf base key (((daysOf base key).take (((daysOf base key).length : Int) - 1).toNat).getD k 0) known).toNat default).key, value := (base.getD (countsOf base key (((daysOf base key).take (((daysOf base key).length : Int) - 1).toNat).getD k 0) known).toNat default).value, from_ := (((daysOf base key).take (((daysOf base key).length : Int) - 1).toNat).getD k 0), until_ := ((daysOf base key).getD ((k : Int) + 1).toNat 0), known := (base.getD (countsOf base key (((daysOf base key).take (((daysOf base key).length : Int) - 1).toNat).getD k 0) known).toNat default).known } : Fact)]) = (histTo base key known (daysOf base key) (k + 1)).1 := by simp only [histTo, histOut, capB, h1, k2, h2, h3, h8, h9, k8, if_true, if_false, Bool.false_eq_true, reduceIte, Bool.true_and, Bool.and_true, Bool.false_and, Bool.and_false, Bool.not_true, Bool.not_false, Bool.true_or, Bool.false_or, Bool.or_true, Bool.or_false]
              rw [hst] at S
              exact ⟨rfl, (k + 1, v5), ⟨(by first | rfl | exact congrArg i64 (by omega)), (by first | rfl | exact congrArg i64 (by omega)), (by first | rfl | exact congrArg i64 (by omega)), (by first | rfl | exact congrArg i64 (by omega)), (by first | rfl | exact congrArg i64 (by omega)), (by first | rfl | exact congrArg i64 (by omega)), (by first | rfl | exact congrArg i64 (by omega)), (by first | rfl | exact congrArg i64 (by omega)), (by first | rfl | exact congrArg i64 (by omega)), trivial⟩, ⟨S, by omega⟩, by dsimp only; omega⟩
            · have p9 := h9; try simp only [decide_eq_true_eq, decide_eq_false_iff_not, Bool.and_eq_true, Bool.or_eq_true, Bool.not_eq_true', Bool.or_eq_false_iff, Bool.not_eq_false', Int.not_lt, Int.not_le, gt_iff_lt, ge_iff_le, Decidable.not_not] at p9
              refine w_skip ?_
              refine nrm_blk ?_
              refine nrm_then ?_
              refine w_region ?_
              refine ops_val 74 (i64 (countsOf base key (((daysOf base key).take (((daysOf base key).length : Int) - 1).toNat).getD k 0) known)) rfl rfl rfl rfl (run_pv rfl) ?_
              refine ops_val 9 (i64 (countsOf base key (((daysOf base key).take (((daysOf base key).length : Int) - 1).toNat).getD k 0) known)) rfl rfl rfl rfl (run_pv rfl) ?_
              refine ops_nil ?_
              refine nrm_blk ?_
              refine nrm_then ?_
              refine w_region ?_
              refine ops_val 75 (i64 ((k : Int) + 1)) rfl rfl rfl rfl (run_wr rfl (by first | omega | (simp only [List.length_append, List.length_cons, List.length_nil, List.length_set]; omega)) (by first | omega | (simp only [List.length_append, List.length_cons, List.length_nil, List.length_set]; omega))) ?_
              refine ops_val 27 (i64 ((k : Int) + 1)) rfl rfl rfl rfl (run_pv rfl) ?_
              refine ops_nil ?_
              refine nrm_then ?_
              have hst : (histTo base key known (daysOf base key) k).1 = (histTo base key known (daysOf base key) (k + 1)).1 := by simp only [histTo, histOut, capB, h1, k2, h2, h3, h8, h9, if_true, if_false, Bool.false_eq_true, reduceIte, Bool.true_and, Bool.and_true, Bool.false_and, Bool.and_false, Bool.not_true, Bool.not_false, Bool.true_or, Bool.false_or, Bool.or_true, Bool.or_false]
              rw [hst] at S
              exact ⟨rfl, (k + 1, vo), ⟨(by first | rfl | exact congrArg i64 (by omega)), (by first | rfl | exact congrArg i64 (by omega)), (by first | rfl | exact congrArg i64 (by omega)), (by first | rfl | exact congrArg i64 (by omega)), (by first | rfl | exact congrArg i64 (by omega)), (by first | rfl | exact congrArg i64 (by omega)), (by first | rfl | exact congrArg i64 (by omega)), (by first | rfl | exact congrArg i64 (by omega)), (by first | rfl | exact congrArg i64 (by omega)), trivial⟩, ⟨S, by omega⟩, by dsimp only; omega⟩
    · have p2 := h2; try simp only [decide_eq_true_eq, decide_eq_false_iff_not, Bool.and_eq_true, Bool.or_eq_true, Bool.not_eq_true', Bool.or_eq_false_iff, Bool.not_eq_false', Int.not_lt, Int.not_le, gt_iff_lt, ge_iff_le, Decidable.not_not] at p2
      refine w_exit ?_
      refine exit_then ?_
      refine exit_then ?_
      refine exit_blk ?_
      refine nrm_then ?_
      refine w_seq ?_
      refine w_region ?_
      refine ops_val 76 (vo) rfl rfl rfl rfl (run_pv rfl) ?_
      refine ops_val 6 (vo) rfl rfl rfl rfl (run_pv rfl) ?_
      refine ops_nil ?_
      refine nrm_then ?_
      refine w_ret ?_
      have hres : (histTo base key known (daysOf base key) k).1 = (histOf base key known) := by (have e : k = ((daysOf base key).take (((daysOf base key).length : Int) - 1).toNat).length := by omega); subst e; simp only [histOf, h1, k2, h2, if_true, if_false, Bool.false_eq_true, reduceIte, Bool.true_and, Bool.and_true, Bool.false_and, Bool.and_false, Bool.not_true, Bool.not_false, Bool.true_or, Bool.false_or, Bool.or_true, Bool.or_false]
      rw [hres] at S
      exact fin_row (n := 0) rfl S rfl rfl
theorem rhist_is (vbase : Value) (base : List Fact) (key : List UInt8) (known : Int) (w : World) (hbase : Rd w encFact 5 vbase base) : FnRow Try.prog 19 [vbase, str key, i64 known] w 24 5 encFact (rhistOf base key known) := by
  refine fn_of_wp (N := 63) Try.func19 rfl rfl rfl ?_
  intro S
  have hlen := hbase.len
  refine w_seq ?_
  refine w_region ?_
  refine ops_val 6 (.slice none 0 0) rfl rfl rfl rfl (run_pv rfl) ?_
  refine ops_nil ?_
  refine nrm_then ?_
  refine w_seq ?_
  refine w_seq ?_
  refine w_region ?_
  refine ops_val 13 (vbase) rfl rfl rfl rfl (run_pv rfl) ?_
  refine ops_callIs [vbase] (.bool (rrightB base)) S rfl rfl hb16 rfl (rright_is vbase base _ (St.rd S hbase) ) ?_
  clear S; intro w1 S
  refine ops_val 15 (.bool (!(rrightB base))) rfl rfl rfl rfl (run_pv rfl) ?_
  refine ops_nil ?_
  refine nrm_then ?_
  refine w_cond (!(rrightB base)) rfl (fun h1 => ?_) (fun h1 => ?_)
  · have p1 := h1; try simp only [decide_eq_true_eq, decide_eq_false_iff_not, Bool.and_eq_true, Bool.or_eq_true, Bool.not_eq_true', Bool.or_eq_false_iff, Bool.not_eq_false', Int.not_lt, Int.not_le, gt_iff_lt, ge_iff_le, Decidable.not_not] at p1
    have k1 : (rrightB base) = false := (by simpa only [Bool.not_eq_true', Bool.not_eq_false'] using h1)
    have pk1 := k1; try simp only [decide_eq_true_eq, decide_eq_false_iff_not, Bool.and_eq_true, Bool.or_eq_true, Bool.not_eq_true', Bool.or_eq_false_iff, Bool.not_eq_false', Int.not_lt, Int.not_le, gt_iff_lt, ge_iff_le, Decidable.not_not] at pk1
    refine w_seq ?_
    refine w_region ?_
    refine ops_val 6 (.slice none 0 0) rfl rfl rfl rfl (run_pv rfl) ?_
    refine ops_nil ?_
    refine nrm_then ?_
    refine w_ret ?_
    refine ret_then ?_
    replace S := S.nilRow 24 5
    replace S : Eng.St w [.row 24 5 (.slice none 0 0) (([] : List Fact).map encFact)] w1 := S
    have hres : ([] : List Fact) = (rhistOf base key known) := by simp only [rhistOf, h1, k1, if_true, if_false, Bool.false_eq_true, reduceIte, Bool.true_and, Bool.and_true, Bool.false_and, Bool.and_false, Bool.not_true, Bool.not_false, Bool.true_or, Bool.false_or, Bool.or_true, Bool.or_false]
    rw [hres] at S
    exact fin_row (n := 0) rfl S rfl rfl
  · have p1 := h1; try simp only [decide_eq_true_eq, decide_eq_false_iff_not, Bool.and_eq_true, Bool.or_eq_true, Bool.not_eq_true', Bool.or_eq_false_iff, Bool.not_eq_false', Int.not_lt, Int.not_le, gt_iff_lt, ge_iff_le, Decidable.not_not] at p1
    have k2 : (rrightB base) = true := (by simpa only [Bool.not_eq_true', Bool.not_eq_false'] using h1)
    have pk2 := k2; try simp only [decide_eq_true_eq, decide_eq_false_iff_not, Bool.and_eq_true, Bool.or_eq_true, Bool.not_eq_true', Bool.or_eq_false_iff, Bool.not_eq_false', Int.not_lt, Int.not_le, gt_iff_lt, ge_iff_le, Decidable.not_not] at pk2
    refine w_skip ?_
    refine nrm_then ?_
    refine w_seq ?_
    refine w_region ?_
    refine ops_val 7 (.slice none 0 0) rfl rfl rfl rfl (run_pv rfl) ?_
    refine ops_nil ?_
    refine nrm_then ?_
    refine w_seq ?_
    refine w_region ?_
    refine ops_val 8 (i64 (-1)) rfl rfl rfl rfl (run_pv rfl) ?_
    refine ops_nil ?_
    refine nrm_then ?_
    refine w_seq ?_
    refine w_region ?_
    refine ops_val 9 (i64 0) rfl rfl rfl rfl (run_pv rfl) ?_
    refine ops_nil ?_
    refine nrm_then ?_
    refine w_seq ?_
    refine w_block ?_
    replace S := S.nilRow 24 5
    replace S : Eng.St w [.row 24 5 (.slice none 0 0) (([] : List Fact).map encFact)] w1 := S
    refine w_loop (G := Nat × Value) (fun ⟨k, vo⟩ => [(0, vbase), (1, str key), (2, i64 known), (7, vo), (8, i64 ((rhTo base key known k).2)), (9, i64 (dayR base k))]) (fun ⟨k, vo⟩ w' => Eng.St w [.row 24 5 vo (((rhTo base key known k).1).map encFact)] w' ∧ ((∀ m, m < k → dayR base m ≤ 1073741824) ∧ (k : Int) ≤ dayR base k)) (fun ⟨k, vo⟩ => 1073741825 - k) (0, .slice none 0 0) ⟨rfl, rfl, rfl, rfl, rfl, rfl, trivial⟩ ⟨S, fun _ h => absurd h (Nat.not_lt_zero _), Int.le_refl _⟩ ?_
    clear S; rintro ⟨k, vo⟩ ρ0 w2 ⟨S, hk, hkd⟩
    have hl := rhTo_len base key known k
    have hp := rhTo_pos base key known k
    have hcr := rcountsOf_lt base key (dayR base k) known
    refine w_seq ?_
    refine w_seq ?_
    refine w_region ?_
    refine ops_val 16 (i64 (dayR base k)) rfl rfl rfl rfl (run_pv rfl) ?_
    refine ops_val 17 (.bool (decide ((dayR base k) ≤ 1073741824))) rfl rfl rfl rfl (run_pv rfl) ?_
    refine ops_nil ?_
    refine nrm_then ?_
    refine w_cond (decide ((dayR base k) ≤ 1073741824)) rfl (fun h2 => ?_) (fun h2 => ?_)
    · have p2 := h2; try simp only [decide_eq_true_eq, decide_eq_false_iff_not, Bool.and_eq_true, Bool.or_eq_true, Bool.not_eq_true', Bool.or_eq_false_iff, Bool.not_eq_false', Int.not_lt, Int.not_le, gt_iff_lt, ge_iff_le, Decidable.not_not] at p2
      refine w_skip ?_
      refine nrm_then ?_
      refine w_block ?_
      refine w_seq ?_
      refine w_region ?_
      refine ops_val 18 (vbase) rfl rfl rfl rfl (run_pv rfl) ?_
      refine ops_val 19 (i64 (dayR base k)) rfl rfl rfl rfl (run_pv rfl) ?_
      refine ops_callIs [vbase, i64 (dayR base k)] (i64 (nextOf base (dayR base k))) S rfl rfl hb33 rfl (next_is vbase base (dayR base k) _ (St.rd S hbase) ) ?_
      clear S; intro w3 S
      refine ops_val 10 (i64 (nextOf base (dayR base k))) rfl rfl rfl rfl (run_pv rfl) ?_
      refine ops_nil ?_
      refine nrm_then ?_
      refine w_seq ?_
      refine w_region ?_
      refine ops_val 21 (vbase) rfl rfl rfl rfl (run_pv rfl) ?_
      refine ops_val 22 (str key) rfl rfl rfl rfl (run_pv rfl) ?_
      refine ops_val 23 (i64 (dayR base k)) rfl rfl rfl rfl (run_pv rfl) ?_
      refine ops_val 24 (i64 known) rfl rfl rfl rfl (run_pv rfl) ?_
      refine ops_callIs [vbase, str key, i64 (dayR base k), i64 known] (i64 (rcountsOf base key (dayR base k) known)) S rfl rfl hb29 rfl (rcounts_is vbase base key (dayR base k) known _ (St.rd S hbase) ) ?_
      clear S; intro w4 S
      refine ops_val 11 (i64 (rcountsOf base key (dayR base k) known)) rfl rfl rfl rfl (run_pv rfl) ?_
      refine ops_nil ?_
      refine nrm_then ?_
      refine w_seq ?_
      refine w_seq ?_
      refine w_cut [(0, vbase), (1, str key), (2, i64 known), (7, vo), (9, i64 (dayR base k)), (10, i64 (nextOf base (dayR base k))), (11, i64 (rcountsOf base key (dayR base k) known)), (32, .bool ((decide ((rcountsOf base key (dayR base k) known) ≥ 0)) && (!decide ((rcountsOf base key (dayR base k) known) = (rhTo base key known k).2))))] (fun w' => Eng.St w [.row 24 5 vo (((rhTo base key known k).1).map encFact)] w') ?_ ?_
      · refine w_region ?_
        refine ops_val 26 (i64 (rcountsOf base key (dayR base k) known)) rfl rfl rfl rfl (run_pv rfl) ?_
        refine ops_val 27 (.bool (decide ((rcountsOf base key (dayR base k) known) ≥ 0))) rfl rfl rfl rfl (run_pv rfl) ?_
        refine ops_val 28 (.bool (decide ((rcountsOf base key (dayR base k) known) ≥ 0))) rfl rfl rfl rfl (run_pv rfl) ?_
        refine ops_case 28 (decide ((rcountsOf base key (dayR base k) known) ≥ 0)) rfl (fun h3 => ?_) (fun h3 => ?_)
        · have p3 := h3; try simp only [decide_eq_true_eq, decide_eq_false_iff_not, Bool.and_eq_true, Bool.or_eq_true, Bool.not_eq_true', Bool.or_eq_false_iff, Bool.not_eq_false', Int.not_lt, Int.not_le, gt_iff_lt, ge_iff_le, Decidable.not_not] at p3
          refine ops_val 29 (i64 (rcountsOf base key (dayR base k) known)) rfl rfl rfl rfl (run_pv rfl) ?_
          refine ops_val 30 (i64 ((rhTo base key known k).2)) rfl rfl rfl rfl (run_pv rfl) ?_
          refine ops_val 31 (.bool (!decide ((rcountsOf base key (dayR base k) known) = (rhTo base key known k).2))) rfl rfl rfl rfl (run_pv rfl) ?_
          refine ops_val 32 (.bool (!decide ((rcountsOf base key (dayR base k) known) = (rhTo base key known k).2))) rfl rfl rfl rfl (run_pv rfl) ?_
          refine ops_nil ?_
          refine nrm_then ?_
          exact ⟨⟨rfl, rfl, rfl, rfl, rfl, rfl, rfl, congrArg Value.bool (by simp only [h1, k2, h2, h3, Bool.true_and, Bool.false_and, Bool.and_true, Bool.and_false, Bool.true_or, Bool.false_or, Bool.or_true, Bool.or_false, Bool.not_true, Bool.not_false]), trivial⟩, rfl, S⟩
        · have p3 := h3; try simp only [decide_eq_true_eq, decide_eq_false_iff_not, Bool.and_eq_true, Bool.or_eq_true, Bool.not_eq_true', Bool.or_eq_false_iff, Bool.not_eq_false', Int.not_lt, Int.not_le, gt_iff_lt, ge_iff_le, Decidable.not_not] at p3
          refine ops_skip 29 rfl rfl rfl ?_
          refine ops_skip 30 rfl rfl rfl ?_
          refine ops_skip 31 rfl rfl rfl ?_
          refine ops_val 32 (.bool false) rfl rfl rfl rfl (run_pv rfl) ?_
          refine ops_nil ?_
          refine nrm_then ?_
          exact ⟨⟨rfl, rfl, rfl, rfl, rfl, rfl, rfl, congrArg Value.bool (by simp only [h1, k2, h2, h3, Bool.true_and, Bool.false_and, Bool.and_true, Bool.and_false, Bool.true_or, Bool.false_or, Bool.or_true, Bool.or_false, Bool.not_true, Bool.not_false]), trivial⟩, rfl, S⟩
      · clear S; intro ρ0 w5 S
        refine nrm_then ?_
        refine w_cond ((decide ((rcountsOf base key (dayR base k) known) ≥ 0)) && (!decide ((rcountsOf base key (dayR base k) known) = (rhTo base key known k).2))) rfl (fun h4 => ?_) (fun h4 => ?_)
        · have p4 := h4; try simp only [decide_eq_true_eq, decide_eq_false_iff_not, Bool.and_eq_true, Bool.or_eq_true, Bool.not_eq_true', Bool.or_eq_false_iff, Bool.not_eq_false', Int.not_lt, Int.not_le, gt_iff_lt, ge_iff_le, Decidable.not_not] at p4
          have k3 : (decide ((rcountsOf base key (dayR base k) known) ≥ 0)) = true := (Bool.and_eq_true_iff.1 h4).1
          have pk3 := k3; try simp only [decide_eq_true_eq, decide_eq_false_iff_not, Bool.and_eq_true, Bool.or_eq_true, Bool.not_eq_true', Bool.or_eq_false_iff, Bool.not_eq_false', Int.not_lt, Int.not_le, gt_iff_lt, ge_iff_le, Decidable.not_not] at pk3
          have k4 : (!decide ((rcountsOf base key (dayR base k) known) = (rhTo base key known k).2)) = true := (Bool.and_eq_true_iff.1 h4).2
          have pk4 := k4; try simp only [decide_eq_true_eq, decide_eq_false_iff_not, Bool.and_eq_true, Bool.or_eq_true, Bool.not_eq_true', Bool.or_eq_false_iff, Bool.not_eq_false', Int.not_lt, Int.not_le, gt_iff_lt, ge_iff_le, Decidable.not_not] at pk4
          have k5 : (decide ((rcountsOf base key (dayR base k) known) = (rhTo base key known k).2)) = false := (by simpa only [Bool.not_eq_true', Bool.not_eq_false'] using k4)
          have pk5 := k5; try simp only [decide_eq_true_eq, decide_eq_false_iff_not, Bool.and_eq_true, Bool.or_eq_true, Bool.not_eq_true', Bool.or_eq_false_iff, Bool.not_eq_false', Int.not_lt, Int.not_le, gt_iff_lt, ge_iff_le, Decidable.not_not] at pk5
          refine w_seq ?_
          refine w_region ?_
          refine ops_val 33 (vbase) rfl rfl rfl rfl (run_pv rfl) ?_
          refine ops_val 34 (i64 (rcountsOf base key (dayR base k) known)) rfl rfl rfl rfl (run_pv rfl) ?_
          refine ops_val 35 (.pointer (some ((adr vbase).add ((rcountsOf base key (dayR base k) known).toNat * 5)))) rfl rfl rfl rfl (run_index_rdI sl22 (St.rd S hbase) rfl rfl (by first | omega | (simp only [List.length_append, List.length_cons, List.length_nil, List.length_set]; omega)) (by first | omega | (simp only [List.length_append, List.length_cons, List.length_nil, List.length_set]; omega))) ?_
          refine ops_val 36 (aggFact (base.getD (rcountsOf base key (dayR base k) known).toNat default)) rfl rfl rfl rfl (run_load_agg (encFact (base.getD (rcountsOf base key (dayR base k) known).toNat default)) ag24 rfl rfl (Rd.each (d := default) (St.rd S hbase) (by first | omega | (simp only [List.length_append, List.length_cons, List.length_nil, List.length_set]; omega)))) ?_
          refine ops_alloc [str ([]), i64 0, i64 0, i64 0, i64 0] ze24 S rfl rfl ?_
          clear S; intro b1 w6 S
          refine ops_store (off := 0) (us := [str ((base.getD (rcountsOf base key (dayR base k) known).toNat default).key), i64 ((base.getD (rcountsOf base key (dayR base k) known).toNat default).value), i64 ((base.getD (rcountsOf base key (dayR base k) known).toNat default).from_), i64 ((base.getD (rcountsOf base key (dayR base k) known).toNat default).until_), i64 ((base.getD (rcountsOf base key (dayR base k) known).toNat default).known)]) [str ((base.getD (rcountsOf base key (dayR base k) known).toNat default).key), i64 ((base.getD (rcountsOf base key (dayR base k) known).toNat default).value), i64 ((base.getD (rcountsOf base key (dayR base k) known).toNat default).from_), i64 ((base.getD (rcountsOf base key (dayR base k) known).toNat default).until_), i64 ((base.getD (rcountsOf base key (dayR base k) known).toNat default).known)] S rfl (AggT.size ag24) rfl rfl rfl rfl (Nat.le_of_ble_eq_true rfl) rfl ?_
          clear S; intro w7 S
          refine ops_nil ?_
          refine nrm_then ?_
          refine w_seq ?_
          refine w_region ?_
          refine ops_val 37 (i64 (dayR base k)) rfl rfl rfl rfl (run_pv rfl) ?_
          refine ops_val 38 (.pointer (some ⟨b1, 2, none⟩)) rfl rfl rfl rfl (run_fieldAddr_blk fd24_2 rfl rfl) ?_
          refine ops_store (off := 2) (us := [i64 (dayR base k)]) [str ((base.getD (rcountsOf base key (dayR base k) known).toNat default).key), i64 ((base.getD (rcountsOf base key (dayR base k) known).toNat default).value), i64 (dayR base k), i64 ((base.getD (rcountsOf base key (dayR base k) known).toNat default).until_), i64 ((base.getD (rcountsOf base key (dayR base k) known).toNat default).known)] S rfl (Scal.size sc3) rfl rfl rfl rfl (Nat.le_of_ble_eq_true rfl) rfl ?_
          clear S; intro w8 S
          refine ops_nil ?_
          refine nrm_then ?_
          refine w_region ?_
          refine ops_val 39 (vo) rfl rfl rfl rfl (run_pv rfl) ?_
          refine ops_val 40 (.agg #[str ((base.getD (rcountsOf base key (dayR base k) known).toNat default).key), i64 ((base.getD (rcountsOf base key (dayR base k) known).toNat default).value), i64 (dayR base k), i64 ((base.getD (rcountsOf base key (dayR base k) known).toNat default).until_), i64 ((base.getD (rcountsOf base key (dayR base k) known).toNat default).known)]) rfl rfl rfl rfl (run_load_agg [str ((base.getD (rcountsOf base key (dayR base k) known).toNat default).key), i64 ((base.getD (rcountsOf base key (dayR base k) known).toNat default).value), i64 (dayR base k), i64 ((base.getD (rcountsOf base key (dayR base k) known).toNat default).until_), i64 ((base.getD (rcountsOf base key (dayR base k) known).toNat default).known)] ag24 rfl rfl (blk_each S (n := 0) rfl 0 rfl)) ?_
          refine ops_buildSlice [(0, .agg #[str ((base.getD (rcountsOf base key (dayR base k) known).toNat default).key), i64 ((base.getD (rcountsOf base key (dayR base k) known).toNat default).value), i64 (dayR base k), i64 ((base.getD (rcountsOf base key (dayR base k) known).toNat default).until_), i64 ((base.getD (rcountsOf base key (dayR base k) known).toNat default).known)])] [[str ((base.getD (rcountsOf base key (dayR base k) known).toNat default).key), i64 ((base.getD (rcountsOf base key (dayR base k) known).toNat default).value), i64 (dayR base k), i64 ((base.getD (rcountsOf base key (dayR base k) known).toNat default).until_), i64 ((base.getD (rcountsOf base key (dayR base k) known).toNat default).known)]] sT22 S rfl rfl rfl (by kernel_rfl) rfl rfl rfl rfl ?_
          clear S; intro v1 w9 S
          replace S : Eng.St w [.row 24 5 v1 (([({ key := (base.getD (rcountsOf base key (dayR base k) known).toNat default).key, value := (base.getD (rcountsOf base key (dayR base k) known).toNat default).value, from_ := (dayR base k), until_ := (base.getD (rcountsOf base key (dayR base k) known).toNat default).until_, known := (base.getD (rcountsOf base key (dayR base k) known).toNat default).known } : Fact)]).map encFact), .blk b1 [str ((base.getD (rcountsOf base key (dayR base k) known).toNat default).key), i64 ((base.getD (rcountsOf base key (dayR base k) known).toNat default).value), i64 (dayR base k), i64 ((base.getD (rcountsOf base key (dayR base k) known).toNat default).until_), i64 ((base.getD (rcountsOf base key (dayR base k) known).toNat default).known)] 24, .row 24 5 vo (((rhTo base key known k).1).map encFact)] w9 := S
          replace S := S.f2
          refine ops_append sT22 S rfl rfl rfl rfl (St.rdRow (n := 1) S rfl) (fun _ => rfl) (fun _ => rfl) (by first | omega | (simp only [List.length_map, List.length_cons, List.length_nil, List.length_append]; omega)) (by first | omega | (simp only [List.length_map, List.length_cons, List.length_nil, List.length_append]; omega)) ?_
          clear S; intro v2 w10 S
          rw [← List.map_append] at S
          replace S : Eng.St w [.row 24 5 v2 (((rhTo base key known k).1 ++ [({ key := (base.getD (rcountsOf base key (dayR base k) known).toNat default).key, value := (base.getD (rcountsOf base key (dayR base k) known).toNat default).value, from_ := (dayR base k), until_ := (base.getD (rcountsOf base key (dayR base k) known).toNat default).until_, known := (base.getD (rcountsOf base key (dayR base k) known).toNat default).known } : Fact)]).map encFact), .row 24 5 v1 (([({ key := (base.getD (rcountsOf base key (dayR base k) known).toNat default).key, value := (base.getD (rcountsOf base key (dayR base k) known).toNat default).value, from_ := (dayR base k), until_ := (base.getD (rcountsOf base key (dayR base k) known).toNat default).until_, known := (base.getD (rcountsOf base key (dayR base k) known).toNat default).known } : Fact)]).map encFact), .blk b1 [str ((base.getD (rcountsOf base key (dayR base k) known).toNat default).key), i64 ((base.getD (rcountsOf base key (dayR base k) known).toNat default).value), i64 (dayR base k), i64 ((base.getD (rcountsOf base key (dayR base k) known).toNat default).until_), i64 ((base.getD (rcountsOf base key (dayR base k) known).toNat default).known)] 24] w10 := S
          refine ops_val 7 (v2) rfl rfl rfl rfl (run_pv rfl) ?_
          refine ops_nil ?_
          refine nrm_then ?_
          refine w_seq ?_
          refine w_seq ?_
          refine w_region ?_
          refine ops_val 43 (i64 (rcountsOf base key (dayR base k) known)) rfl rfl rfl rfl (run_pv rfl) ?_
          refine ops_val 44 (.bool (decide ((rcountsOf base key (dayR base k) known) ≥ 0))) rfl rfl rfl rfl (run_pv rfl) ?_
          refine ops_nil ?_
          refine nrm_then ?_
          refine w_cond (decide ((rcountsOf base key (dayR base k) known) ≥ 0)) rfl (fun h5 => ?_) (fun h5 => ?_)
          · have p5 := h5; try simp only [decide_eq_true_eq, decide_eq_false_iff_not, Bool.and_eq_true, Bool.or_eq_true, Bool.not_eq_true', Bool.or_eq_false_iff, Bool.not_eq_false', Int.not_lt, Int.not_le, gt_iff_lt, ge_iff_le, Decidable.not_not] at p5
            refine w_seq ?_
            refine w_region ?_
            refine ops_val 45 (v2) rfl rfl rfl rfl (run_pv rfl) ?_
            refine ops_val 46 (v2) rfl rfl rfl rfl (run_pv rfl) ?_
            refine ops_val 47 (i64 (((rhTo base key known k).1 ++ [({ key := (base.getD (rcountsOf base key (dayR base k) known).toNat default).key, value := (base.getD (rcountsOf base key (dayR base k) known).toNat default).value, from_ := (dayR base k), until_ := (base.getD (rcountsOf base key (dayR base k) known).toNat default).until_, known := (base.getD (rcountsOf base key (dayR base k) known).toNat default).known } : Fact)]).length : Int)) rfl rfl rfl rfl (run_len_rd Try.underlying22 (St.rdRow (n := 0) S rfl) rfl) ?_
            refine ops_val 48 (i64 ((((rhTo base key known k).1 ++ [({ key := (base.getD (rcountsOf base key (dayR base k) known).toNat default).key, value := (base.getD (rcountsOf base key (dayR base k) known).toNat default).value, from_ := (dayR base k), until_ := (base.getD (rcountsOf base key (dayR base k) known).toNat default).until_, known := (base.getD (rcountsOf base key (dayR base k) known).toNat default).known } : Fact)]).length : Int) - 1)) rfl rfl rfl rfl (run_wr rfl (by first | omega | (simp only [List.length_append, List.length_cons, List.length_nil, List.length_set]; omega)) (by first | omega | (simp only [List.length_append, List.length_cons, List.length_nil, List.length_set]; omega))) ?_
            refine ops_val 49 (i64 (nextOf base (dayR base k))) rfl rfl rfl rfl (run_pv rfl) ?_
            refine ops_val 50 (.pointer (some ((adr v2).add (((((rhTo base key known k).1 ++ [({ key := (base.getD (rcountsOf base key (dayR base k) known).toNat default).key, value := (base.getD (rcountsOf base key (dayR base k) known).toNat default).value, from_ := (dayR base k), until_ := (base.getD (rcountsOf base key (dayR base k) known).toNat default).until_, known := (base.getD (rcountsOf base key (dayR base k) known).toNat default).known } : Fact)]).length : Int) - 1).toNat * 5)))) rfl rfl rfl rfl (run_index_rdI sl22 (St.rdRow (n := 0) S rfl) rfl rfl (by first | omega | (simp only [List.length_append, List.length_cons, List.length_nil, List.length_set]; omega)) (by first | omega | (simp only [List.length_append, List.length_cons, List.length_nil, List.length_set]; omega))) ?_
            refine ops_val 51 (.pointer (some (((adr v2).add (((((rhTo base key known k).1 ++ [({ key := (base.getD (rcountsOf base key (dayR base k) known).toNat default).key, value := (base.getD (rcountsOf base key (dayR base k) known).toNat default).value, from_ := (dayR base k), until_ := (base.getD (rcountsOf base key (dayR base k) known).toNat default).until_, known := (base.getD (rcountsOf base key (dayR base k) known).toNat default).known } : Fact)]).length : Int) - 1).toNat * 5)).add 3))) rfl rfl rfl rfl (run_fieldAddr fd24_3 rfl) ?_
            refine ops_storeRow (dft := default) (off := 3) (us := [i64 (nextOf base (dayR base k))]) ((((rhTo base key known k).1 ++ [({ key := (base.getD (rcountsOf base key (dayR base k) known).toNat default).key, value := (base.getD (rcountsOf base key (dayR base k) known).toNat default).value, from_ := (dayR base k), until_ := (base.getD (rcountsOf base key (dayR base k) known).toNat default).until_, known := (base.getD (rcountsOf base key (dayR base k) known).toNat default).known } : Fact)]).length : Int) - 1).toNat ({ (((rhTo base key known k).1 ++ [({ key := (base.getD (rcountsOf base key (dayR base k) known).toNat default).key, value := (base.getD (rcountsOf base key (dayR base k) known).toNat default).value, from_ := (dayR base k), until_ := (base.getD (rcountsOf base key (dayR base k) known).toNat default).until_, known := (base.getD (rcountsOf base key (dayR base k) known).toNat default).known } : Fact)]).getD ((((rhTo base key known k).1 ++ [({ key := (base.getD (rcountsOf base key (dayR base k) known).toNat default).key, value := (base.getD (rcountsOf base key (dayR base k) known).toNat default).value, from_ := (dayR base k), until_ := (base.getD (rcountsOf base key (dayR base k) known).toNat default).until_, known := (base.getD (rcountsOf base key (dayR base k) known).toNat default).known } : Fact)]).length : Int) - 1).toNat default) with until_ := (nextOf base (dayR base k)) }) S rfl (Scal.size sc3) rfl rfl rfl rfl (by first | omega | (simp only [List.length_append, List.length_cons, List.length_nil, List.length_set]; omega)) rfl rfl rfl ?_
            clear S; intro w12 S
            replace S : Eng.St w [.row 24 5 v2 ((((rhTo base key known k).1 ++ [({ key := (base.getD (rcountsOf base key (dayR base k) known).toNat default).key, value := (base.getD (rcountsOf base key (dayR base k) known).toNat default).value, from_ := (dayR base k), until_ := (base.getD (rcountsOf base key (dayR base k) known).toNat default).until_, known := (base.getD (rcountsOf base key (dayR base k) known).toNat default).known } : Fact)]).set ((((rhTo base key known k).1 ++ [({ key := (base.getD (rcountsOf base key (dayR base k) known).toNat default).key, value := (base.getD (rcountsOf base key (dayR base k) known).toNat default).value, from_ := (dayR base k), until_ := (base.getD (rcountsOf base key (dayR base k) known).toNat default).until_, known := (base.getD (rcountsOf base key (dayR base k) known).toNat default).known } : Fact)]).length : Int) - 1).toNat ({ (((rhTo base key known k).1 ++ [({ key := (base.getD (rcountsOf base key (dayR base k) known).toNat default).key, value := (base.getD (rcountsOf base key (dayR base k) known).toNat default).value, from_ := (dayR base k), until_ := (base.getD (rcountsOf base key (dayR base k) known).toNat default).until_, known := (base.getD (rcountsOf base key (dayR base k) known).toNat default).known } : Fact)]).getD ((((rhTo base key known k).1 ++ [({ key := (base.getD (rcountsOf base key (dayR base k) known).toNat default).key, value := (base.getD (rcountsOf base key (dayR base k) known).toNat default).value, from_ := (dayR base k), until_ := (base.getD (rcountsOf base key (dayR base k) known).toNat default).until_, known := (base.getD (rcountsOf base key (dayR base k) known).toNat default).known } : Fact)]).length : Int) - 1).toNat default) with until_ := (nextOf base (dayR base k)) })).map encFact), .row 24 5 v1 (([({ key := (base.getD (rcountsOf base key (dayR base k) known).toNat default).key, value := (base.getD (rcountsOf base key (dayR base k) known).toNat default).value, from_ := (dayR base k), until_ := (base.getD (rcountsOf base key (dayR base k) known).toNat default).until_, known := (base.getD (rcountsOf base key (dayR base k) known).toNat default).known } : Fact)]).map encFact), .blk b1 [str ((base.getD (rcountsOf base key (dayR base k) known).toNat default).key), i64 ((base.getD (rcountsOf base key (dayR base k) known).toNat default).value), i64 (dayR base k), i64 ((base.getD (rcountsOf base key (dayR base k) known).toNat default).until_), i64 ((base.getD (rcountsOf base key (dayR base k) known).toNat default).known)] 24] w12 := S
            refine ops_nil ?_
            refine nrm_then ?_
            refine w_seq ?_
            refine w_region ?_
            refine ops_val 52 (i64 (nextOf base (dayR base k))) rfl rfl rfl rfl (run_pv rfl) ?_
            refine ops_val 53 (.bool (decide ((nextOf base (dayR base k)) > 1073741824))) rfl rfl rfl rfl (run_pv rfl) ?_
            refine ops_nil ?_
            refine nrm_then ?_
            refine w_cond (decide ((nextOf base (dayR base k)) > 1073741824)) rfl (fun h6 => ?_) (fun h6 => ?_)
            · have p6 := h6; try simp only [decide_eq_true_eq, decide_eq_false_iff_not, Bool.and_eq_true, Bool.or_eq_true, Bool.not_eq_true', Bool.or_eq_false_iff, Bool.not_eq_false', Int.not_lt, Int.not_le, gt_iff_lt, ge_iff_le, Decidable.not_not] at p6
              refine w_region ?_
              refine ops_val 54 (v2) rfl rfl rfl rfl (run_pv rfl) ?_
              refine ops_val 55 (v2) rfl rfl rfl rfl (run_pv rfl) ?_
              refine ops_val 56 (i64 ((((rhTo base key known k).1 ++ [({ key := (base.getD (rcountsOf base key (dayR base k) known).toNat default).key, value := (base.getD (rcountsOf base key (dayR base k) known).toNat default).value, from_ := (dayR base k), until_ := (base.getD (rcountsOf base key (dayR base k) known).toNat default).until_, known := (base.getD (rcountsOf base key (dayR base k) known).toNat default).known } : Fact)]).set ((((rhTo base key known k).1 ++ [({ key := (base.getD (rcountsOf base key (dayR base k) known).toNat default).key, value := (base.getD (rcountsOf base key (dayR base k) known).toNat default).value, from_ := (dayR base k), until_ := (base.getD (rcountsOf base key (dayR base k) known).toNat default).until_, known := (base.getD (rcountsOf base key (dayR base k) known).toNat default).known } : Fact)]).length : Int) - 1).toNat ({ (((rhTo base key known k).1 ++ [({ key := (base.getD (rcountsOf base key (dayR base k) known).toNat default).key, value := (base.getD (rcountsOf base key (dayR base k) known).toNat default).value, from_ := (dayR base k), until_ := (base.getD (rcountsOf base key (dayR base k) known).toNat default).until_, known := (base.getD (rcountsOf base key (dayR base k) known).toNat default).known } : Fact)]).getD ((((rhTo base key known k).1 ++ [({ key := (base.getD (rcountsOf base key (dayR base k) known).toNat default).key, value := (base.getD (rcountsOf base key (dayR base k) known).toNat default).value, from_ := (dayR base k), until_ := (base.getD (rcountsOf base key (dayR base k) known).toNat default).until_, known := (base.getD (rcountsOf base key (dayR base k) known).toNat default).known } : Fact)]).length : Int) - 1).toNat default) with until_ := (nextOf base (dayR base k)) })).length : Int)) rfl rfl rfl rfl (run_len_rd Try.underlying22 (St.rdRow (n := 0) S rfl) rfl) ?_
              refine ops_val 57 (i64 (((((rhTo base key known k).1 ++ [({ key := (base.getD (rcountsOf base key (dayR base k) known).toNat default).key, value := (base.getD (rcountsOf base key (dayR base k) known).toNat default).value, from_ := (dayR base k), until_ := (base.getD (rcountsOf base key (dayR base k) known).toNat default).until_, known := (base.getD (rcountsOf base key (dayR base k) known).toNat default).known } : Fact)]).set ((((rhTo base key known k).1 ++ [({ key := (base.getD (rcountsOf base key (dayR base k) known).toNat default).key, value := (base.getD (rcountsOf base key (dayR base k) known).toNat default).value, from_ := (dayR base k), until_ := (base.getD (rcountsOf base key (dayR base k) known).toNat default).until_, known := (base.getD (rcountsOf base key (dayR base k) known).toNat default).known } : Fact)]).length : Int) - 1).toNat ({ (((rhTo base key known k).1 ++ [({ key := (base.getD (rcountsOf base key (dayR base k) known).toNat default).key, value := (base.getD (rcountsOf base key (dayR base k) known).toNat default).value, from_ := (dayR base k), until_ := (base.getD (rcountsOf base key (dayR base k) known).toNat default).until_, known := (base.getD (rcountsOf base key (dayR base k) known).toNat default).known } : Fact)]).getD ((((rhTo base key known k).1 ++ [({ key := (base.getD (rcountsOf base key (dayR base k) known).toNat default).key, value := (base.getD (rcountsOf base key (dayR base k) known).toNat default).value, from_ := (dayR base k), until_ := (base.getD (rcountsOf base key (dayR base k) known).toNat default).until_, known := (base.getD (rcountsOf base key (dayR base k) known).toNat default).known } : Fact)]).length : Int) - 1).toNat default) with until_ := (nextOf base (dayR base k)) })).length : Int) - 1)) rfl rfl rfl rfl (run_wr rfl (by first | omega | (simp only [List.length_append, List.length_cons, List.length_nil, List.length_set]; omega)) (by first | omega | (simp only [List.length_append, List.length_cons, List.length_nil, List.length_set]; omega))) ?_
              refine ops_val 58 (.pointer (some ((adr v2).add ((((((rhTo base key known k).1 ++ [({ key := (base.getD (rcountsOf base key (dayR base k) known).toNat default).key, value := (base.getD (rcountsOf base key (dayR base k) known).toNat default).value, from_ := (dayR base k), until_ := (base.getD (rcountsOf base key (dayR base k) known).toNat default).until_, known := (base.getD (rcountsOf base key (dayR base k) known).toNat default).known } : Fact)]).set ((((rhTo base key known k).1 ++ [({ key := (base.getD (rcountsOf base key (dayR base k) known).toNat default).key, value := (base.getD (rcountsOf base key (dayR base k) known).toNat default).value, from_ := (dayR base k), until_ := (base.getD (rcountsOf base key (dayR base k) known).toNat default).until_, known := (base.getD (rcountsOf base key (dayR base k) known).toNat default).known } : Fact)]).length : Int) - 1).toNat ({ (((rhTo base key known k).1 ++ [({ key := (base.getD (rcountsOf base key (dayR base k) known).toNat default).key, value := (base.getD (rcountsOf base key (dayR base k) known).toNat default).value, from_ := (dayR base k), until_ := (base.getD (rcountsOf base key (dayR base k) known).toNat default).until_, known := (base.getD (rcountsOf base key (dayR base k) known).toNat default).known } : Fact)]).getD ((((rhTo base key known k).1 ++ [({ key := (base.getD (rcountsOf base key (dayR base k) known).toNat default).key, value := (base.getD (rcountsOf base key (dayR base k) known).toNat default).value, from_ := (dayR base k), until_ := (base.getD (rcountsOf base key (dayR base k) known).toNat default).until_, known := (base.getD (rcountsOf base key (dayR base k) known).toNat default).known } : Fact)]).length : Int) - 1).toNat default) with until_ := (nextOf base (dayR base k)) })).length : Int) - 1).toNat * 5)))) rfl rfl rfl rfl (run_index_rdI sl22 (St.rdRow (n := 0) S rfl) rfl rfl (by first | omega | (simp only [List.length_append, List.length_cons, List.length_nil, List.length_set]; omega)) (by first | omega | (simp only [List.length_append, List.length_cons, List.length_nil, List.length_set]; omega))) ?_
              refine ops_val 59 (.pointer (some (((adr v2).add ((((((rhTo base key known k).1 ++ [({ key := (base.getD (rcountsOf base key (dayR base k) known).toNat default).key, value := (base.getD (rcountsOf base key (dayR base k) known).toNat default).value, from_ := (dayR base k), until_ := (base.getD (rcountsOf base key (dayR base k) known).toNat default).until_, known := (base.getD (rcountsOf base key (dayR base k) known).toNat default).known } : Fact)]).set ((((rhTo base key known k).1 ++ [({ key := (base.getD (rcountsOf base key (dayR base k) known).toNat default).key, value := (base.getD (rcountsOf base key (dayR base k) known).toNat default).value, from_ := (dayR base k), until_ := (base.getD (rcountsOf base key (dayR base k) known).toNat default).until_, known := (base.getD (rcountsOf base key (dayR base k) known).toNat default).known } : Fact)]).length : Int) - 1).toNat ({ (((rhTo base key known k).1 ++ [({ key := (base.getD (rcountsOf base key (dayR base k) known).toNat default).key, value := (base.getD (rcountsOf base key (dayR base k) known).toNat default).value, from_ := (dayR base k), until_ := (base.getD (rcountsOf base key (dayR base k) known).toNat default).until_, known := (base.getD (rcountsOf base key (dayR base k) known).toNat default).known } : Fact)]).getD ((((rhTo base key known k).1 ++ [({ key := (base.getD (rcountsOf base key (dayR base k) known).toNat default).key, value := (base.getD (rcountsOf base key (dayR base k) known).toNat default).value, from_ := (dayR base k), until_ := (base.getD (rcountsOf base key (dayR base k) known).toNat default).until_, known := (base.getD (rcountsOf base key (dayR base k) known).toNat default).known } : Fact)]).length : Int) - 1).toNat default) with until_ := (nextOf base (dayR base k)) })).length : Int) - 1).toNat * 5)).add 3))) rfl rfl rfl rfl (run_fieldAddr fd24_3 rfl) ?_
              refine ops_storeRow (dft := default) (off := 3) (us := [i64 0]) (((((rhTo base key known k).1 ++ [({ key := (base.getD (rcountsOf base key (dayR base k) known).toNat default).key, value := (base.getD (rcountsOf base key (dayR base k) known).toNat default).value, from_ := (dayR base k), until_ := (base.getD (rcountsOf base key (dayR base k) known).toNat default).until_, known := (base.getD (rcountsOf base key (dayR base k) known).toNat default).known } : Fact)]).set ((((rhTo base key known k).1 ++ [({ key := (base.getD (rcountsOf base key (dayR base k) known).toNat default).key, value := (base.getD (rcountsOf base key (dayR base k) known).toNat default).value, from_ := (dayR base k), until_ := (base.getD (rcountsOf base key (dayR base k) known).toNat default).until_, known := (base.getD (rcountsOf base key (dayR base k) known).toNat default).known } : Fact)]).length : Int) - 1).toNat ({ (((rhTo base key known k).1 ++ [({ key := (base.getD (rcountsOf base key (dayR base k) known).toNat default).key, value := (base.getD (rcountsOf base key (dayR base k) known).toNat default).value, from_ := (dayR base k), until_ := (base.getD (rcountsOf base key (dayR base k) known).toNat default).until_, known := (base.getD (rcountsOf base key (dayR base k) known).toNat default).known } : Fact)]).getD ((((rhTo base key known k).1 ++ [({ key := (base.getD (rcountsOf base key (dayR base k) known).toNat default).key, value := (base.getD (rcountsOf base key (dayR base k) known).toNat default).value, from_ := (dayR base k), until_ := (base.getD (rcountsOf base key (dayR base k) known).toNat default).until_, known := (base.getD (rcountsOf base key (dayR base k) known).toNat default).known } : Fact)]).length : Int) - 1).toNat default) with until_ := (nextOf base (dayR base k)) })).length : Int) - 1).toNat ({ ((((rhTo base key known k).1 ++ [({ key := (base.getD (rcountsOf base key (dayR base k) known).toNat default).key, value := (base.getD (rcountsOf base key (dayR base k) known).toNat default).value, from_ := (dayR base k), until_ := (base.getD (rcountsOf base key (dayR base k) known).toNat default).until_, known := (base.getD (rcountsOf base key (dayR base k) known).toNat default).known } : Fact)]).set ((((rhTo base key known k).1 ++ [({ key := (base.getD (rcountsOf base key (dayR base k) known).toNat default).key, value := (base.getD (rcountsOf base key (dayR base k) known).toNat default).value, from_ := (dayR base k), until_ := (base.getD (rcountsOf base key (dayR base k) known).toNat default).until_, known := (base.getD (rcountsOf base key (dayR base k) known).toNat default).known } : Fact)]).length : Int) - 1).toNat ({ (((rhTo base key known k).1 ++ [({ key := (base.getD (rcountsOf base key (dayR base k) known).toNat default).key, value := (base.getD (rcountsOf base key (dayR base k) known).toNat default).value, from_ := (dayR base k), until_ := (base.getD (rcountsOf base key (dayR base k) known).toNat default).until_, known := (base.getD (rcountsOf base key (dayR base k) known).toNat default).known } : Fact)]).getD ((((rhTo base key known k).1 ++ [({ key := (base.getD (rcountsOf base key (dayR base k) known).toNat default).key, value := (base.getD (rcountsOf base key (dayR base k) known).toNat default).value, from_ := (dayR base k), until_ := (base.getD (rcountsOf base key (dayR base k) known).toNat default).until_, known := (base.getD (rcountsOf base key (dayR base k) known).toNat default).known } : Fact)]).length : Int) - 1).toNat default) with until_ := (nextOf base (dayR base k)) })).getD (((((rhTo base key known k).1 ++ [({ key := (base.getD (rcountsOf base key (dayR base k) known).toNat default).key, value := (base.getD (rcountsOf base key (dayR base k) known).toNat default).value, from_ := (dayR base k), until_ := (base.getD (rcountsOf base key (dayR base k) known).toNat default).until_, known := (base.getD (rcountsOf base key (dayR base k) known).toNat default).known } : Fact)]).set ((((rhTo base key known k).1 ++ [({ key := (base.getD (rcountsOf base key (dayR base k) known).toNat default).key, value := (base.getD (rcountsOf base key (dayR base k) known).toNat default).value, from_ := (dayR base k), until_ := (base.getD (rcountsOf base key (dayR base k) known).toNat default).until_, known := (base.getD (rcountsOf base key (dayR base k) known).toNat default).known } : Fact)]).length : Int) - 1).toNat ({ (((rhTo base key known k).1 ++ [({ key := (base.getD (rcountsOf base key (dayR base k) known).toNat default).key, value := (base.getD (rcountsOf base key (dayR base k) known).toNat default).value, from_ := (dayR base k), until_ := (base.getD (rcountsOf base key (dayR base k) known).toNat default).until_, known := (base.getD (rcountsOf base key (dayR base k) known).toNat default).known } : Fact)]).getD ((((rhTo base key known k).1 ++ [({ key := (base.getD (rcountsOf base key (dayR base k) known).toNat default).key, value := (base.getD (rcountsOf base key (dayR base k) known).toNat default).value, from_ := (dayR base k), until_ := (base.getD (rcountsOf base key (dayR base k) known).toNat default).until_, known := (base.getD (rcountsOf base key (dayR base k) known).toNat default).known } : Fact)]).length : Int) - 1).toNat default) with until_ := (nextOf base (dayR base k)) })).length : Int) - 1).toNat default) with until_ := 0 }) S rfl (Scal.size sc3) rfl rfl rfl rfl (by first | omega | (simp only [List.length_append, List.length_cons, List.length_nil, List.length_set]; omega)) rfl rfl rfl ?_
              clear S; intro w14 S
              replace S : Eng.St w [.row 24 5 v2 (((((rhTo base key known k).1 ++ [({ key := (base.getD (rcountsOf base key (dayR base k) known).toNat default).key, value := (base.getD (rcountsOf base key (dayR base k) known).toNat default).value, from_ := (dayR base k), until_ := (base.getD (rcountsOf base key (dayR base k) known).toNat default).until_, known := (base.getD (rcountsOf base key (dayR base k) known).toNat default).known } : Fact)]).set ((((rhTo base key known k).1 ++ [({ key := (base.getD (rcountsOf base key (dayR base k) known).toNat default).key, value := (base.getD (rcountsOf base key (dayR base k) known).toNat default).value, from_ := (dayR base k), until_ := (base.getD (rcountsOf base key (dayR base k) known).toNat default).until_, known := (base.getD (rcountsOf base key (dayR base k) known).toNat default).known } : Fact)]).length : Int) - 1).toNat ({ (((rhTo base key known k).1 ++ [({ key := (base.getD (rcountsOf base key (dayR base k) known).toNat default).key, value := (base.getD (rcountsOf base key (dayR base k) known).toNat default).value, from_ := (dayR base k), until_ := (base.getD (rcountsOf base key (dayR base k) known).toNat default).until_, known := (base.getD (rcountsOf base key (dayR base k) known).toNat default).known } : Fact)]).getD ((((rhTo base key known k).1 ++ [({ key := (base.getD (rcountsOf base key (dayR base k) known).toNat default).key, value := (base.getD (rcountsOf base key (dayR base k) known).toNat default).value, from_ := (dayR base k), until_ := (base.getD (rcountsOf base key (dayR base k) known).toNat default).until_, known := (base.getD (rcountsOf base key (dayR base k) known).toNat default).known } : Fact)]).length : Int) - 1).toNat default) with until_ := (nextOf base (dayR base k)) })).set (((((rhTo base key known k).1 ++ [({ key := (base.getD (rcountsOf base key (dayR base k) known).toNat default).key, value := (base.getD (rcountsOf base key (dayR base k) known).toNat default).value, from_ := (dayR base k), until_ := (base.getD (rcountsOf base key (dayR base k) known).toNat default).until_, known := (base.getD (rcountsOf base key (dayR base k) known).toNat default).known } : Fact)]).set ((((rhTo base key known k).1 ++ [({ key := (base.getD (rcountsOf base key (dayR base k) known).toNat default).key, value := (base.getD (rcountsOf base key (dayR base k) known).toNat default).value, from_ := (dayR base k), until_ := (base.getD (rcountsOf base key (dayR base k) known).toNat default).until_, known := (base.getD (rcountsOf base key (dayR base k) known).toNat default).known } : Fact)]).length : Int) - 1).toNat ({ (((rhTo base key known k).1 ++ [({ key := (base.getD (rcountsOf base key (dayR base k) known).toNat default).key, value := (base.getD (rcountsOf base key (dayR base k) known).toNat default).value, from_ := (dayR base k), until_ := (base.getD (rcountsOf base key (dayR base k) known).toNat default).until_, known := (base.getD (rcountsOf base key (dayR base k) known).toNat default).known } : Fact)]).getD ((((rhTo base key known k).1 ++ [({ key := (base.getD (rcountsOf base key (dayR base k) known).toNat default).key, value := (base.getD (rcountsOf base key (dayR base k) known).toNat default).value, from_ := (dayR base k), until_ := (base.getD (rcountsOf base key (dayR base k) known).toNat default).until_, known := (base.getD (rcountsOf base key (dayR base k) known).toNat default).known } : Fact)]).length : Int) - 1).toNat default) with until_ := (nextOf base (dayR base k)) })).length : Int) - 1).toNat ({ ((((rhTo base key known k).1 ++ [({ key := (base.getD (rcountsOf base key (dayR base k) known).toNat default).key, value := (base.getD (rcountsOf base key (dayR base k) known).toNat default).value, from_ := (dayR base k), until_ := (base.getD (rcountsOf base key (dayR base k) known).toNat default).until_, known := (base.getD (rcountsOf base key (dayR base k) known).toNat default).known } : Fact)]).set ((((rhTo base key known k).1 ++ [({ key := (base.getD (rcountsOf base key (dayR base k) known).toNat default).key, value := (base.getD (rcountsOf base key (dayR base k) known).toNat default).value, from_ := (dayR base k), until_ := (base.getD (rcountsOf base key (dayR base k) known).toNat default).until_, known := (base.getD (rcountsOf base key (dayR base k) known).toNat default).known } : Fact)]).length : Int) - 1).toNat ({ (((rhTo base key known k).1 ++ [({ key := (base.getD (rcountsOf base key (dayR base k) known).toNat default).key, value := (base.getD (rcountsOf base key (dayR base k) known).toNat default).value, from_ := (dayR base k), until_ := (base.getD (rcountsOf base key (dayR base k) known).toNat default).until_, known := (base.getD (rcountsOf base key (dayR base k) known).toNat default).known } : Fact)]).getD ((((rhTo base key known k).1 ++ [({ key := (base.getD (rcountsOf base key (dayR base k) known).toNat default).key, value := (base.getD (rcountsOf base key (dayR base k) known).toNat default).value, from_ := (dayR base k), until_ := (base.getD (rcountsOf base key (dayR base k) known).toNat default).until_, known := (base.getD (rcountsOf base key (dayR base k) known).toNat default).known } : Fact)]).length : Int) - 1).toNat default) with until_ := (nextOf base (dayR base k)) })).getD (((((rhTo base key known k).1 ++ [({ key := (base.getD (rcountsOf base key (dayR base k) known).toNat default).key, value := (base.getD (rcountsOf base key (dayR base k) known).toNat default).value, from_ := (dayR base k), until_ := (base.getD (rcountsOf base key (dayR base k) known).toNat default).until_, known := (base.getD (rcountsOf base key (dayR base k) known).toNat default).known } : Fact)]).set ((((rhTo base key known k).1 ++ [({ key := (base.getD (rcountsOf base key (dayR base k) known).toNat default).key, value := (base.getD (rcountsOf base key (dayR base k) known).toNat default).value, from_ := (dayR base k), until_ := (base.getD (rcountsOf base key (dayR base k) known).toNat default).until_, known := (base.getD (rcountsOf base key (dayR base k) known).toNat default).known } : Fact)]).length : Int) - 1).toNat ({ (((rhTo base key known k).1 ++ [({ key := (base.getD (rcountsOf base key (dayR base k) known).toNat default).key, value := (base.getD (rcountsOf base key (dayR base k) known).toNat default).value, from_ := (dayR base k), until_ := (base.getD (rcountsOf base key (dayR base k) known).toNat default).until_, known := (base.getD (rcountsOf base key (dayR base k) known).toNat default).known } : Fact)]).getD ((((rhTo base key known k).1 ++ [({ key := (base.getD (rcountsOf base key (dayR base k) known).toNat default).key, value := (base.getD (rcountsOf base key (dayR base k) known).toNat default).value, from_ := (dayR base k), until_ := (base.getD (rcountsOf base key (dayR base k) known).toNat default).until_, known := (base.getD (rcountsOf base key (dayR base k) known).toNat default).known } : Fact)]).length : Int) - 1).toNat default) with until_ := (nextOf base (dayR base k)) })).length : Int) - 1).toNat default) with until_ := 0 })).map encFact), .row 24 5 v1 (([({ key := (base.getD (rcountsOf base key (dayR base k) known).toNat default).key, value := (base.getD (rcountsOf base key (dayR base k) known).toNat default).value, from_ := (dayR base k), until_ := (base.getD (rcountsOf base key (dayR base k) known).toNat default).until_, known := (base.getD (rcountsOf base key (dayR base k) known).toNat default).known } : Fact)]).map encFact), .blk b1 [str ((base.getD (rcountsOf base key (dayR base k) known).toNat default).key), i64 ((base.getD (rcountsOf base key (dayR base k) known).toNat default).value), i64 (dayR base k), i64 ((base.getD (rcountsOf base key (dayR base k) known).toNat default).until_), i64 ((base.getD (rcountsOf base key (dayR base k) known).toNat default).known)] 24] w14 := S
              refine ops_nil ?_
              refine nrm_then ?_
              refine w_seq ?_
              refine w_region ?_
              refine ops_val 60 (i64 (rcountsOf base key (dayR base k) known)) rfl rfl rfl rfl (run_pv rfl) ?_
              refine ops_val 8 (i64 (rcountsOf base key (dayR base k) known)) rfl rfl rfl rfl (run_pv rfl) ?_
              refine ops_nil ?_
              refine nrm_then ?_
              refine w_region ?_
              refine ops_val 61 (i64 (nextOf base (dayR base k))) rfl rfl rfl rfl (run_pv rfl) ?_
              refine ops_val 9 (i64 (nextOf base (dayR base k))) rfl rfl rfl rfl (run_pv rfl) ?_
              refine ops_nil ?_
              refine nrm_blk ?_
              refine nrm_then ?_
              replace S := S.f1
              replace S := S.drop
              replace S := S.f1
              replace S := S.drop
              have hst : ((((rhTo base key known k).1 ++ [({ key := (base.getD (rcountsOf base key (dayR base k) known).toNat default).key, value := (base.getD (rcountsOf base key (dayR base k) known).toNat default).value, from_ := (dayR base k), until_ := (base.getD (rcountsOf base key (dayR base k) known).toNat default).until_, known := (base.getD (rcountsOf base key (dayR base k) known).toNat default).known } : Fact)]).set ((((rhTo base key known k).1 ++ [({ key := (base.getD (rcountsOf base key (dayR base k) known).toNat default).key, value := (base.getD (rcountsOf base key (dayR base k) known).toNat default).value, from_ := (dayR base k), until_ := (base.getD (rcountsOf base key (dayR base k) known).toNat default).until_, known := (base.getD (rcountsOf base key (dayR base k) known).toNat default).known } : Fact)]).length : Int) - 1).toNat ({ (((rhTo base key known k).1 ++ [({ key := (base.getD (rcountsOf base key (dayR base k) known).toNat default).key, value := (base.getD (rcountsOf base key (dayR base k) known).toNat default).value, from_ := (dayR base k), until_ := (base.getD (rcountsOf base key (dayR base k) known).toNat default).until_, known := (base.getD (rcountsOf base key (dayR base k) known).toNat default).known } : Fact)]).getD ((((rhTo base key known k).1 ++ [({ key := (base.getD (rcountsOf base key (dayR base k) known).toNat default).key, value := (base.getD (rcountsOf base key (dayR base k) known).toNat default).value, from_ := (dayR base k), until_ := (base.getD (rcountsOf base key (dayR base k) known).toNat default).until_, known := (base.getD (rcountsOf base key (dayR base k) known).toNat default).known } : Fact)]).length : Int) - 1).toNat default) with until_ := (nextOf base (dayR base k)) })).set (((((rhTo base key known k).1 ++ [({ key := (base.getD (rcountsOf base key (dayR base k) known).toNat default).key, value := (base.getD (rcountsOf base key (dayR base k) known).toNat default).value, from_ := (dayR base k), until_ := (base.getD (rcountsOf base key (dayR base k) known).toNat default).until_, known := (base.getD (rcountsOf base key (dayR base k) known).toNat default).known } : Fact)]).set ((((rhTo base key known k).1 ++ [({ key := (base.getD (rcountsOf base key (dayR base k) known).toNat default).key, value := (base.getD (rcountsOf base key (dayR base k) known).toNat default).value, from_ := (dayR base k), until_ := (base.getD (rcountsOf base key (dayR base k) known).toNat default).until_, known := (base.getD (rcountsOf base key (dayR base k) known).toNat default).known } : Fact)]).length : Int) - 1).toNat ({ (((rhTo base key known k).1 ++ [({ key := (base.getD (rcountsOf base key (dayR base k) known).toNat default).key, value := (base.getD (rcountsOf base key (dayR base k) known).toNat default).value, from_ := (dayR base k), until_ := (base.getD (rcountsOf base key (dayR base k) known).toNat default).until_, known := (base.getD (rcountsOf base key (dayR base k) known).toNat default).known } : Fact)]).getD ((((rhTo base key known k).1 ++ [({ key := (base.getD (rcountsOf base key (dayR base k) known).toNat default).key, value := (base.getD (rcountsOf base key (dayR base k) known).toNat default).value, from_ := (dayR base k), until_ := (base.getD (rcountsOf base key (dayR base k) known).toNat default).until_, known := (base.getD (rcountsOf base key (dayR base k) known).toNat default).known } : Fact)]).length : Int) - 1).toNat default) with until_ := (nextOf base (dayR base k)) })).length : Int) - 1).toNat ({ ((((rhTo base key known k).1 ++ [({ key := (base.getD (rcountsOf base key (dayR base k) known).toNat default).key, value := (base.getD (rcountsOf base key (dayR base k) known).toNat default).value, from_ := (dayR base k), until_ := (base.getD (rcountsOf base key (dayR base k) known).toNat default).until_, known := (base.getD (rcountsOf base key (dayR base k) known).toNat default).known } : Fact)]).set ((((rhTo base key known k).1 ++ [({ key := (base.getD (rcountsOf base key (dayR base k) known).toNat default).key, value := (base.getD (rcountsOf base key (dayR base k) known).toNat default).value, from_ := (dayR base k), until_ := (base.getD (rcountsOf base key (dayR base k) known).toNat default).until_, known := (base.getD (rcountsOf base key (dayR base k) known).toNat default).known } : Fact)]).length : Int) - 1).toNat ({ (((rhTo base key known k).1 ++ [({ key := (base.getD (rcountsOf base key (dayR base k) known).toNat default).key, value := (base.getD (rcountsOf base key (dayR base k) known).toNat default).value, from_ := (dayR base k), until_ := (base.getD (rcountsOf base key (dayR base k) known).toNat default).until_, known := (base.getD (rcountsOf base key (dayR base k) known).toNat default).known } : Fact)]).getD ((((rhTo base key known k).1 ++ [({ key := (base.getD (rcountsOf base key (dayR base k) known).toNat default).key, value := (base.getD (rcountsOf base key (dayR base k) known).toNat default).value, from_ := (dayR base k), until_ := (base.getD (rcountsOf base key (dayR base k) known).toNat default).until_, known := (base.getD (rcountsOf base key (dayR base k) known).toNat default).known } : Fact)]).length : Int) - 1).toNat default) with until_ := (nextOf base (dayR base k)) })).getD (((((rhTo base key known k).1 ++ [({ key := (base.getD (rcountsOf base key (dayR base k) known).toNat default).key, value := (base.getD (rcountsOf base key (dayR base k) known).toNat default).value, from_ := (dayR base k), until_ := (base.getD (rcountsOf base key (dayR base k) known).toNat default).until_, known := (base.getD (rcountsOf base key (dayR base k) known).toNat default).known } : Fact)]).set ((((rhTo base key known k).1 ++ [({ key := (base.getD (rcountsOf base key (dayR base k) known).toNat default).key, value := (base.getD (rcountsOf base key (dayR base k) known).toNat default).value, from_ := (dayR base k), until_ := (base.getD (rcountsOf base key (dayR base k) known).toNat default).until_, known := (base.getD (rcountsOf base key (dayR base k) known).toNat default).known } : Fact)]).length : Int) - 1).toNat ({ (((rhTo base key known k).1 ++ [({ key := (base.getD (rcountsOf base key (dayR base k) known).toNat default).key, value := (base.getD (rcountsOf base key (dayR base k) known).toNat default).value, from_ := (dayR base k), until_ := (base.getD (rcountsOf base key (dayR base k) known).toNat default).until_, known := (base.getD (rcountsOf base key (dayR base k) known).toNat default).known } : Fact)]).getD ((((rhTo base key known k).1 ++ [({ key := (base.getD (rcountsOf base key (dayR base k) known).toNat default).key, value := (base.getD (rcountsOf base key (dayR base k) known).toNat default).value, from_ := (dayR base k), until_ := (base.getD (rcountsOf base key (dayR base k) known).toNat default).until_, known := (base.getD (rcountsOf base key (dayR base k) known).toNat default).known } : Fact)]).length : Int) - 1).toNat default) with until_ := (nextOf base (dayR base k)) })).length : Int) - 1).toNat default) with until_ := 0 })) = (rhTo base key known (k + 1)).1 := by simp only [rhTo, rhOut, dayR, h1, k2, h2, h4, k3, k4, k5, h5, h6, if_true, if_false, Bool.false_eq_true, reduceIte, Bool.true_and, Bool.and_true, Bool.false_and, Bool.and_false, Bool.not_true, Bool.not_false, Bool.true_or, Bool.false_or, Bool.or_true, Bool.or_false]
              rw [hst] at S
              exact ⟨rfl, (k + 1, v2), ⟨(by first | rfl | exact congrArg i64 (by omega)), (by first | rfl | exact congrArg i64 (by omega)), (by first | rfl | exact congrArg i64 (by omega)), (by first | rfl | exact congrArg i64 (by omega)), (by first | rfl | exact congrArg i64 (by omega)), (by first | rfl | exact congrArg i64 (by omega)), trivial⟩, ⟨S, fun m hm => (Nat.lt_succ_iff_lt_or_eq.1 hm).elim (hk m) (fun e => by subst e; assumption), dayR_step base k hkd p2⟩, by dsimp only; omega⟩
            · have p6 := h6; try simp only [decide_eq_true_eq, decide_eq_false_iff_not, Bool.and_eq_true, Bool.or_eq_true, Bool.not_eq_true', Bool.or_eq_false_iff, Bool.not_eq_false', Int.not_lt, Int.not_le, gt_iff_lt, ge_iff_le, Decidable.not_not] at p6
              refine w_skip ?_
              refine nrm_then ?_
              refine w_seq ?_
              refine w_region ?_
              refine ops_val 60 (i64 (rcountsOf base key (dayR base k) known)) rfl rfl rfl rfl (run_pv rfl) ?_
              refine ops_val 8 (i64 (rcountsOf base key (dayR base k) known)) rfl rfl rfl rfl (run_pv rfl) ?_
              refine ops_nil ?_
              refine nrm_then ?_
              refine w_region ?_
              refine ops_val 61 (i64 (nextOf base (dayR base k))) rfl rfl rfl rfl (run_pv rfl) ?_
              refine ops_val 9 (i64 (nextOf base (dayR base k))) rfl rfl rfl rfl (run_pv rfl) ?_
              refine ops_nil ?_
              refine nrm_blk ?_
              refine nrm_then ?_
              replace S := S.f1
              replace S := S.drop
              replace S := S.f1
              replace S := S.drop
              have hst : (((rhTo base key known k).1 ++ [({ key := (base.getD (rcountsOf base key (dayR base k) known).toNat default).key, value := (base.getD (rcountsOf base key (dayR base k) known).toNat default).value, from_ := (dayR base k), until_ := (base.getD (rcountsOf base key (dayR base k) known).toNat default).until_, known := (base.getD (rcountsOf base key (dayR base k) known).toNat default).known } : Fact)]).set ((((rhTo base key known k).1 ++ [({ key := (base.getD (rcountsOf base key (dayR base k) known).toNat default).key, value := (base.getD (rcountsOf base key (dayR base k) known).toNat default).value, from_ := (dayR base k), until_ := (base.getD (rcountsOf base key (dayR base k) known).toNat default).until_, known := (base.getD (rcountsOf base key (dayR base k) known).toNat default).known } : Fact)]).length : Int) - 1).toNat ({ (((rhTo base key known k).1 ++ [({ key := (base.getD (rcountsOf base key (dayR base k) known).toNat default).key, value := (base.getD (rcountsOf base key (dayR base k) known).toNat default).value, from_ := (dayR base k), until_ := (base.getD (rcountsOf base key (dayR base k) known).toNat default).until_, known := (base.getD (rcountsOf base key (dayR base k) known).toNat default).known } : Fact)]).getD ((((rhTo base key known k).1 ++ [({ key := (base.getD (rcountsOf base key (dayR base k) known).toNat default).key, value := (base.getD (rcountsOf base key (dayR base k) known).toNat default).value, from_ := (dayR base k), until_ := (base.getD (rcountsOf base key (dayR base k) known).toNat default).until_, known := (base.getD (rcountsOf base key (dayR base k) known).toNat default).known } : Fact)]).length : Int) - 1).toNat default) with until_ := (nextOf base (dayR base k)) })) = (rhTo base key known (k + 1)).1 := by simp only [rhTo, rhOut, dayR, h1, k2, h2, h4, k3, k4, k5, h5, h6, if_true, if_false, Bool.false_eq_true, reduceIte, Bool.true_and, Bool.and_true, Bool.false_and, Bool.and_false, Bool.not_true, Bool.not_false, Bool.true_or, Bool.false_or, Bool.or_true, Bool.or_false]
              rw [hst] at S
              exact ⟨rfl, (k + 1, v2), ⟨(by first | rfl | exact congrArg i64 (by omega)), (by first | rfl | exact congrArg i64 (by omega)), (by first | rfl | exact congrArg i64 (by omega)), (by first | rfl | exact congrArg i64 (by omega)), (by first | rfl | exact congrArg i64 (by omega)), (by first | rfl | exact congrArg i64 (by omega)), trivial⟩, ⟨S, fun m hm => (Nat.lt_succ_iff_lt_or_eq.1 hm).elim (hk m) (fun e => by subst e; assumption), dayR_step base k hkd p2⟩, by dsimp only; omega⟩
          · exact Bool.noConfusion (h5.symm.trans k3)
        · have p4 := h4; try simp only [decide_eq_true_eq, decide_eq_false_iff_not, Bool.and_eq_true, Bool.or_eq_true, Bool.not_eq_true', Bool.or_eq_false_iff, Bool.not_eq_false', Int.not_lt, Int.not_le, gt_iff_lt, ge_iff_le, Decidable.not_not] at p4
          refine w_skip ?_
          refine nrm_then ?_
          refine w_seq ?_
          refine w_seq ?_
          refine w_region ?_
          refine ops_val 43 (i64 (rcountsOf base key (dayR base k) known)) rfl rfl rfl rfl (run_pv rfl) ?_
          refine ops_val 44 (.bool (decide ((rcountsOf base key (dayR base k) known) ≥ 0))) rfl rfl rfl rfl (run_pv rfl) ?_
          refine ops_nil ?_
          refine nrm_then ?_
          refine w_cond (decide ((rcountsOf base key (dayR base k) known) ≥ 0)) rfl (fun h7 => ?_) (fun h7 => ?_)
          · have p7 := h7; try simp only [decide_eq_true_eq, decide_eq_false_iff_not, Bool.and_eq_true, Bool.or_eq_true, Bool.not_eq_true', Bool.or_eq_false_iff, Bool.not_eq_false', Int.not_lt, Int.not_le, gt_iff_lt, ge_iff_le, Decidable.not_not] at p7
            have k6 : (!decide ((rcountsOf base key (dayR base k) known) = (rhTo base key known k).2)) = false := (by simpa only [h7, Bool.true_and] using h4)
            have pk6 := k6; try simp only [decide_eq_true_eq, decide_eq_false_iff_not, Bool.and_eq_true, Bool.or_eq_true, Bool.not_eq_true', Bool.or_eq_false_iff, Bool.not_eq_false', Int.not_lt, Int.not_le, gt_iff_lt, ge_iff_le, Decidable.not_not] at pk6
            have k7 : (decide ((rcountsOf base key (dayR base k) known) = (rhTo base key known k).2)) = true := (by simpa only [Bool.not_eq_true', Bool.not_eq_false'] using k6)
            have pk7 := k7; try simp only [decide_eq_true_eq, decide_eq_false_iff_not, Bool.and_eq_true, Bool.or_eq_true, Bool.not_eq_true', Bool.or_eq_false_iff, Bool.not_eq_false', Int.not_lt, Int.not_le, gt_iff_lt, ge_iff_le, Decidable.not_not] at pk7
            refine w_seq ?_
            refine w_region ?_
            refine ops_val 45 (vo) rfl rfl rfl rfl (run_pv rfl) ?_
            refine ops_val 46 (vo) rfl rfl rfl rfl (run_pv rfl) ?_
            refine ops_val 47 (i64 (((rhTo base key known k).1).length : Int)) rfl rfl rfl rfl (run_len_rd Try.underlying22 (St.rdRow (n := 0) S rfl) rfl) ?_
            refine ops_val 48 (i64 ((((rhTo base key known k).1).length : Int) - 1)) rfl rfl rfl rfl (run_wr rfl (by first | omega | (simp only [List.length_append, List.length_cons, List.length_nil, List.length_set]; omega)) (by first | omega | (simp only [List.length_append, List.length_cons, List.length_nil, List.length_set]; omega))) ?_
            refine ops_val 49 (i64 (nextOf base (dayR base k))) rfl rfl rfl rfl (run_pv rfl) ?_
            refine ops_val 50 (.pointer (some ((adr vo).add (((((rhTo base key known k).1).length : Int) - 1).toNat * 5)))) rfl rfl rfl rfl (run_index_rdI sl22 (St.rdRow (n := 0) S rfl) rfl rfl (by first | omega | (simp only [List.length_append, List.length_cons, List.length_nil, List.length_set]; omega)) (by first | omega | (simp only [List.length_append, List.length_cons, List.length_nil, List.length_set]; omega))) ?_
            refine ops_val 51 (.pointer (some (((adr vo).add (((((rhTo base key known k).1).length : Int) - 1).toNat * 5)).add 3))) rfl rfl rfl rfl (run_fieldAddr fd24_3 rfl) ?_
            refine ops_storeRow (dft := default) (off := 3) (us := [i64 (nextOf base (dayR base k))]) ((((rhTo base key known k).1).length : Int) - 1).toNat ({ (((rhTo base key known k).1).getD ((((rhTo base key known k).1).length : Int) - 1).toNat default) with until_ := (nextOf base (dayR base k)) }) S rfl (Scal.size sc3) rfl rfl rfl rfl (by first | omega | (simp only [List.length_append, List.length_cons, List.length_nil, List.length_set]; omega)) rfl rfl rfl ?_
            clear S; intro w16 S
            replace S : Eng.St w [.row 24 5 vo ((((rhTo base key known k).1).set ((((rhTo base key known k).1).length : Int) - 1).toNat ({ (((rhTo base key known k).1).getD ((((rhTo base key known k).1).length : Int) - 1).toNat default) with until_ := (nextOf base (dayR base k)) })).map encFact)] w16 := S
            refine ops_nil ?_
            refine nrm_then ?_
            refine w_seq ?_
            refine w_region ?_
            refine ops_val 52 (i64 (nextOf base (dayR base k))) rfl rfl rfl rfl (run_pv rfl) ?_
            refine ops_val 53 (.bool (decide ((nextOf base (dayR base k)) > 1073741824))) rfl rfl rfl rfl (run_pv rfl) ?_
            refine ops_nil ?_
            refine nrm_then ?_
            refine w_cond (decide ((nextOf base (dayR base k)) > 1073741824)) rfl (fun h8 => ?_) (fun h8 => ?_)
            · have p8 := h8; try simp only [decide_eq_true_eq, decide_eq_false_iff_not, Bool.and_eq_true, Bool.or_eq_true, Bool.not_eq_true', Bool.or_eq_false_iff, Bool.not_eq_false', Int.not_lt, Int.not_le, gt_iff_lt, ge_iff_le, Decidable.not_not] at p8
              refine w_region ?_
              refine ops_val 54 (vo) rfl rfl rfl rfl (run_pv rfl) ?_
              refine ops_val 55 (vo) rfl rfl rfl rfl (run_pv rfl) ?_
              refine ops_val 56 (i64 ((((rhTo base key known k).1).set ((((rhTo base key known k).1).length : Int) - 1).toNat ({ (((rhTo base key known k).1).getD ((((rhTo base key known k).1).length : Int) - 1).toNat default) with until_ := (nextOf base (dayR base k)) })).length : Int)) rfl rfl rfl rfl (run_len_rd Try.underlying22 (St.rdRow (n := 0) S rfl) rfl) ?_
              refine ops_val 57 (i64 (((((rhTo base key known k).1).set ((((rhTo base key known k).1).length : Int) - 1).toNat ({ (((rhTo base key known k).1).getD ((((rhTo base key known k).1).length : Int) - 1).toNat default) with until_ := (nextOf base (dayR base k)) })).length : Int) - 1)) rfl rfl rfl rfl (run_wr rfl (by first | omega | (simp only [List.length_append, List.length_cons, List.length_nil, List.length_set]; omega)) (by first | omega | (simp only [List.length_append, List.length_cons, List.length_nil, List.length_set]; omega))) ?_
              refine ops_val 58 (.pointer (some ((adr vo).add ((((((rhTo base key known k).1).set ((((rhTo base key known k).1).length : Int) - 1).toNat ({ (((rhTo base key known k).1).getD ((((rhTo base key known k).1).length : Int) - 1).toNat default) with until_ := (nextOf base (dayR base k)) })).length : Int) - 1).toNat * 5)))) rfl rfl rfl rfl (run_index_rdI sl22 (St.rdRow (n := 0) S rfl) rfl rfl (by first | omega | (simp only [List.length_append, List.length_cons, List.length_nil, List.length_set]; omega)) (by first | omega | (simp only [List.length_append, List.length_cons, List.length_nil, List.length_set]; omega))) ?_
              refine ops_val 59 (.pointer (some (((adr vo).add ((((((rhTo base key known k).1).set ((((rhTo base key known k).1).length : Int) - 1).toNat ({ (((rhTo base key known k).1).getD ((((rhTo base key known k).1).length : Int) - 1).toNat default) with until_ := (nextOf base (dayR base k)) })).length : Int) - 1).toNat * 5)).add 3))) rfl rfl rfl rfl (run_fieldAddr fd24_3 rfl) ?_
              refine ops_storeRow (dft := default) (off := 3) (us := [i64 0]) (((((rhTo base key known k).1).set ((((rhTo base key known k).1).length : Int) - 1).toNat ({ (((rhTo base key known k).1).getD ((((rhTo base key known k).1).length : Int) - 1).toNat default) with until_ := (nextOf base (dayR base k)) })).length : Int) - 1).toNat ({ ((((rhTo base key known k).1).set ((((rhTo base key known k).1).length : Int) - 1).toNat ({ (((rhTo base key known k).1).getD ((((rhTo base key known k).1).length : Int) - 1).toNat default) with until_ := (nextOf base (dayR base k)) })).getD (((((rhTo base key known k).1).set ((((rhTo base key known k).1).length : Int) - 1).toNat ({ (((rhTo base key known k).1).getD ((((rhTo base key known k).1).length : Int) - 1).toNat default) with until_ := (nextOf base (dayR base k)) })).length : Int) - 1).toNat default) with until_ := 0 }) S rfl (Scal.size sc3) rfl rfl rfl rfl (by first | omega | (simp only [List.length_append, List.length_cons, List.length_nil, List.length_set]; omega)) rfl rfl rfl ?_
              clear S; intro w18 S
              replace S : Eng.St w [.row 24 5 vo (((((rhTo base key known k).1).set ((((rhTo base key known k).1).length : Int) - 1).toNat ({ (((rhTo base key known k).1).getD ((((rhTo base key known k).1).length : Int) - 1).toNat default) with until_ := (nextOf base (dayR base k)) })).set (((((rhTo base key known k).1).set ((((rhTo base key known k).1).length : Int) - 1).toNat ({ (((rhTo base key known k).1).getD ((((rhTo base key known k).1).length : Int) - 1).toNat default) with until_ := (nextOf base (dayR base k)) })).length : Int) - 1).toNat ({ ((((rhTo base key known k).1).set ((((rhTo base key known k).1).length : Int) - 1).toNat ({ (((rhTo base key known k).1).getD ((((rhTo base key known k).1).length : Int) - 1).toNat default) with until_ := (nextOf base (dayR base k)) })).getD (((((rhTo base key known k).1).set ((((rhTo base key known k).1).length : Int) - 1).toNat ({ (((rhTo base key known k).1).getD ((((rhTo base key known k).1).length : Int) - 1).toNat default) with until_ := (nextOf base (dayR base k)) })).length : Int) - 1).toNat default) with until_ := 0 })).map encFact)] w18 := S
              refine ops_nil ?_
              refine nrm_then ?_
              refine w_seq ?_
              refine w_region ?_
              refine ops_val 60 (i64 (rcountsOf base key (dayR base k) known)) rfl rfl rfl rfl (run_pv rfl) ?_
              refine ops_val 8 (i64 (rcountsOf base key (dayR base k) known)) rfl rfl rfl rfl (run_pv rfl) ?_
              refine ops_nil ?_
              refine nrm_then ?_
              refine w_region ?_
              refine ops_val 61 (i64 (nextOf base (dayR base k))) rfl rfl rfl rfl (run_pv rfl) ?_
              refine ops_val 9 (i64 (nextOf base (dayR base k))) rfl rfl rfl rfl (run_pv rfl) ?_
              refine ops_nil ?_
              refine nrm_blk ?_
              refine nrm_then ?_
              have hst : ((((rhTo base key known k).1).set ((((rhTo base key known k).1).length : Int) - 1).toNat ({ (((rhTo base key known k).1).getD ((((rhTo base key known k).1).length : Int) - 1).toNat default) with until_ := (nextOf base (dayR base k)) })).set (((((rhTo base key known k).1).set ((((rhTo base key known k).1).length : Int) - 1).toNat ({ (((rhTo base key known k).1).getD ((((rhTo base key known k).1).length : Int) - 1).toNat default) with until_ := (nextOf base (dayR base k)) })).length : Int) - 1).toNat ({ ((((rhTo base key known k).1).set ((((rhTo base key known k).1).length : Int) - 1).toNat ({ (((rhTo base key known k).1).getD ((((rhTo base key known k).1).length : Int) - 1).toNat default) with until_ := (nextOf base (dayR base k)) })).getD (((((rhTo base key known k).1).set ((((rhTo base key known k).1).length : Int) - 1).toNat ({ (((rhTo base key known k).1).getD ((((rhTo base key known k).1).length : Int) - 1).toNat default) with until_ := (nextOf base (dayR base k)) })).length : Int) - 1).toNat default) with until_ := 0 })) = (rhTo base key known (k + 1)).1 := by simp only [rhTo, rhOut, dayR, h1, k2, h2, h4, h7, k6, k7, h8, if_true, if_false, Bool.false_eq_true, reduceIte, Bool.true_and, Bool.and_true, Bool.false_and, Bool.and_false, Bool.not_true, Bool.not_false, Bool.true_or, Bool.false_or, Bool.or_true, Bool.or_false]
              rw [hst] at S
              exact ⟨rfl, (k + 1, vo), ⟨(by first | rfl | exact congrArg i64 (by omega)), (by first | rfl | exact congrArg i64 (by omega)), (by first | rfl | exact congrArg i64 (by omega)), (by first | rfl | exact congrArg i64 (by omega)), (by first | rfl | exact congrArg i64 (by omega)), (by first | rfl | exact congrArg i64 (by omega)), trivial⟩, ⟨S, fun m hm => (Nat.lt_succ_iff_lt_or_eq.1 hm).elim (hk m) (fun e => by subst e; assumption), dayR_step base k hkd p2⟩, by dsimp only; omega⟩
            · have p8 := h8; try simp only [decide_eq_true_eq, decide_eq_false_iff_not, Bool.and_eq_true, Bool.or_eq_true, Bool.not_eq_true', Bool.or_eq_false_iff, Bool.not_eq_false', Int.not_lt, Int.not_le, gt_iff_lt, ge_iff_le, Decidable.not_not] at p8
              refine w_skip ?_
              refine nrm_then ?_
              refine w_seq ?_
              refine w_region ?_
              refine ops_val 60 (i64 (rcountsOf base key (dayR base k) known)) rfl rfl rfl rfl (run_pv rfl) ?_
              refine ops_val 8 (i64 (rcountsOf base key (dayR base k) known)) rfl rfl rfl rfl (run_pv rfl) ?_
              refine ops_nil ?_
              refine nrm_then ?_
              refine w_region ?_
              refine ops_val 61 (i64 (nextOf base (dayR base k))) rfl rfl rfl rfl (run_pv rfl) ?_
              refine ops_val 9 (i64 (nextOf base (dayR base k))) rfl rfl rfl rfl (run_pv rfl) ?_
              refine ops_nil ?_
              refine nrm_blk ?_
              refine nrm_then ?_
              have hst : (((rhTo base key known k).1).set ((((rhTo base key known k).1).length : Int) - 1).toNat ({ (((rhTo base key known k).1).getD ((((rhTo base key known k).1).length : Int) - 1).toNat default) with until_ := (nextOf base (dayR base k)) })) = (rhTo base key known (k + 1)).1 := by simp only [rhTo, rhOut, dayR, h1, k2, h2, h4, h7, k6, k7, h8, if_true, if_false, Bool.false_eq_true, reduceIte, Bool.true_and, Bool.and_true, Bool.false_and, Bool.and_false, Bool.not_true, Bool.not_false, Bool.true_or, Bool.false_or, Bool.or_true, Bool.or_false]
              rw [hst] at S
              exact ⟨rfl, (k + 1, vo), ⟨(by first | rfl | exact congrArg i64 (by omega)), (by first | rfl | exact congrArg i64 (by omega)), (by first | rfl | exact congrArg i64 (by omega)), (by first | rfl | exact congrArg i64 (by omega)), (by first | rfl | exact congrArg i64 (by omega)), (by first | rfl | exact congrArg i64 (by omega)), trivial⟩, ⟨S, fun m hm => (Nat.lt_succ_iff_lt_or_eq.1 hm).elim (hk m) (fun e => by subst e; assumption), dayR_step base k hkd p2⟩, by dsimp only; omega⟩
          · have p7 := h7; try simp only [decide_eq_true_eq, decide_eq_false_iff_not, Bool.and_eq_true, Bool.or_eq_true, Bool.not_eq_true', Bool.or_eq_false_iff, Bool.not_eq_false', Int.not_lt, Int.not_le, gt_iff_lt, ge_iff_le, Decidable.not_not] at p7
            refine w_skip ?_
            refine nrm_then ?_
            refine w_seq ?_
            refine w_region ?_
            refine ops_val 60 (i64 (rcountsOf base key (dayR base k) known)) rfl rfl rfl rfl (run_pv rfl) ?_
            refine ops_val 8 (i64 (rcountsOf base key (dayR base k) known)) rfl rfl rfl rfl (run_pv rfl) ?_
            refine ops_nil ?_
            refine nrm_then ?_
            refine w_region ?_
            refine ops_val 61 (i64 (nextOf base (dayR base k))) rfl rfl rfl rfl (run_pv rfl) ?_
            refine ops_val 9 (i64 (nextOf base (dayR base k))) rfl rfl rfl rfl (run_pv rfl) ?_
            refine ops_nil ?_
            refine nrm_blk ?_
            refine nrm_then ?_
            have hst : (rhTo base key known k).1 = (rhTo base key known (k + 1)).1 := by simp only [rhTo, rhOut, dayR, h1, k2, h2, h4, h7, if_true, if_false, Bool.false_eq_true, reduceIte, Bool.true_and, Bool.and_true, Bool.false_and, Bool.and_false, Bool.not_true, Bool.not_false, Bool.true_or, Bool.false_or, Bool.or_true, Bool.or_false]
            rw [hst] at S
            exact ⟨rfl, (k + 1, vo), ⟨(by first | rfl | exact congrArg i64 (by omega)), (by first | rfl | exact congrArg i64 (by omega)), (by first | rfl | exact congrArg i64 (by omega)), (by first | rfl | exact congrArg i64 (by omega)), (by first | rfl | exact congrArg i64 (by omega)), (by first | rfl | exact congrArg i64 (by omega)), trivial⟩, ⟨S, fun m hm => (Nat.lt_succ_iff_lt_or_eq.1 hm).elim (hk m) (fun e => by subst e; assumption), dayR_step base k hkd p2⟩, by dsimp only; omega⟩
    · have p2 := h2; try simp only [decide_eq_true_eq, decide_eq_false_iff_not, Bool.and_eq_true, Bool.or_eq_true, Bool.not_eq_true', Bool.or_eq_false_iff, Bool.not_eq_false', Int.not_lt, Int.not_le, gt_iff_lt, ge_iff_le, Decidable.not_not] at p2
      refine w_exit ?_
      refine exit_then ?_
      refine exit_then ?_
      refine exit_blk ?_
      refine nrm_then ?_
      refine w_seq ?_
      refine w_region ?_
      refine ops_val 62 (vo) rfl rfl rfl rfl (run_pv rfl) ?_
      refine ops_val 6 (vo) rfl rfl rfl rfl (run_pv rfl) ?_
      refine ops_nil ?_
      refine nrm_then ?_
      refine w_ret ?_
      have hres : (rhTo base key known k).1 = (rhistOf base key known) := by simp only [rhistOf, h1, k2, h2, rEnd_eq base k hk p2, if_true, if_false, Bool.false_eq_true, reduceIte, Bool.true_and, Bool.and_true, Bool.false_and, Bool.and_false, Bool.not_true, Bool.not_false, Bool.true_or, Bool.false_or, Bool.or_true, Bool.or_false]
      rw [hres] at S
      exact fin_row (n := 0) rfl S rfl rfl
theorem cor_is (vbase : Value) (base : List Fact) (key : List UInt8) (a : Int) (b : Int) (w : World) (hbase : Rd w encFact 5 vbase base) : FnRow Try.prog 21 [vbase, str key, i64 a, i64 b] w 44 2 encStay (corOf base key a b) := by
  refine fn_of_wp (N := 91) Try.func21 rfl rfl rfl ?_
  intro S
  have hlen := hbase.len
  have hdp := daysOf_pos base key
  have hdt := daysOf_take base key
  refine w_seq ?_
  refine w_region ?_
  refine ops_val 8 (.slice none 0 0) rfl rfl rfl rfl (run_pv rfl) ?_
  refine ops_nil ?_
  refine nrm_then ?_
  refine w_seq ?_
  refine w_seq ?_
  refine w_region ?_
  refine ops_val 19 (vbase) rfl rfl rfl rfl (run_pv rfl) ?_
  refine ops_callIs [vbase] (.bool (rightB base)) S rfl rfl hb15 rfl (right_is vbase base _ (St.rd S hbase) ) ?_
  clear S; intro w1 S
  refine ops_val 21 (.bool (!(rightB base))) rfl rfl rfl rfl (run_pv rfl) ?_
  refine ops_nil ?_
  refine nrm_then ?_
  refine w_cond (!(rightB base)) rfl (fun h1 => ?_) (fun h1 => ?_)
  · have p1 := h1; try simp only [decide_eq_true_eq, decide_eq_false_iff_not, Bool.and_eq_true, Bool.or_eq_true, Bool.not_eq_true', Bool.or_eq_false_iff, Bool.not_eq_false', Int.not_lt, Int.not_le, gt_iff_lt, ge_iff_le, Decidable.not_not] at p1
    have k1 : (rightB base) = false := (by simpa only [Bool.not_eq_true', Bool.not_eq_false'] using h1)
    have pk1 := k1; try simp only [decide_eq_true_eq, decide_eq_false_iff_not, Bool.and_eq_true, Bool.or_eq_true, Bool.not_eq_true', Bool.or_eq_false_iff, Bool.not_eq_false', Int.not_lt, Int.not_le, gt_iff_lt, ge_iff_le, Decidable.not_not] at pk1
    refine w_seq ?_
    refine w_region ?_
    refine ops_val 8 (.slice none 0 0) rfl rfl rfl rfl (run_pv rfl) ?_
    refine ops_nil ?_
    refine nrm_then ?_
    refine w_ret ?_
    refine ret_then ?_
    replace S := S.nilRow 44 2
    replace S : Eng.St w [.row 44 2 (.slice none 0 0) (([] : List Stay).map encStay)] w1 := S
    have hres : ([] : List Stay) = (corOf base key a b) := by simp only [corOf, h1, k1, if_true, if_false, Bool.false_eq_true, reduceIte, Bool.true_and, Bool.and_true, Bool.false_and, Bool.and_false, Bool.not_true, Bool.not_false, Bool.true_or, Bool.false_or, Bool.or_true, Bool.or_false]
    rw [hres] at S
    exact fin_row (n := 0) rfl S rfl rfl
  · have p1 := h1; try simp only [decide_eq_true_eq, decide_eq_false_iff_not, Bool.and_eq_true, Bool.or_eq_true, Bool.not_eq_true', Bool.or_eq_false_iff, Bool.not_eq_false', Int.not_lt, Int.not_le, gt_iff_lt, ge_iff_le, Decidable.not_not] at p1
    have k2 : (rightB base) = true := (by simpa only [Bool.not_eq_true', Bool.not_eq_false'] using h1)
    have pk2 := k2; try simp only [decide_eq_true_eq, decide_eq_false_iff_not, Bool.and_eq_true, Bool.or_eq_true, Bool.not_eq_true', Bool.or_eq_false_iff, Bool.not_eq_false', Int.not_lt, Int.not_le, gt_iff_lt, ge_iff_le, Decidable.not_not] at pk2
    have hr5 := right_len base p1; have hdl := daysOf_len base key
    refine w_skip ?_
    refine nrm_then ?_
    refine w_seq ?_
    refine w_region ?_
    refine ops_val 9 (.slice none 0 0) rfl rfl rfl rfl (run_pv rfl) ?_
    refine ops_nil ?_
    refine nrm_then ?_
    refine w_seq ?_
    refine w_region ?_
    refine ops_val 22 (vbase) rfl rfl rfl rfl (run_pv rfl) ?_
    refine ops_val 23 (str key) rfl rfl rfl rfl (run_pv rfl) ?_
    refine ops_callRow [vbase, str key] S rfl rfl hb32 rfl (days_is vbase base key _ (St.rd S hbase) (by exact right_len base p1)) ?_
    clear S; intro v1 w2 S
    replace S : Eng.St w [.row 3 1 v1 ((daysOf base key).map Eng.encI)] w2 := S
    refine ops_val 10 (v1) rfl rfl rfl rfl (run_pv rfl) ?_
    refine ops_val 11 (.bool false) rfl rfl rfl rfl (run_pv rfl) ?_
    refine ops_nil ?_
    refine nrm_then ?_
    refine w_seq ?_
    refine w_seq ?_
    refine w_region ?_
    refine ops_val 25 (v1) rfl rfl rfl rfl (run_pv rfl) ?_
    refine ops_val 26 (v1) rfl rfl rfl rfl (run_pv rfl) ?_
    refine ops_val 27 (i64 ((daysOf base key).length : Int)) rfl rfl rfl rfl (run_len_rd Try.underlying52 (St.rdRow (n := 0) S rfl) rfl) ?_
    refine ops_val 28 (i64 (((daysOf base key).length : Int) - 1)) rfl rfl rfl rfl (run_wr rfl (by first | omega | (simp only [List.length_append, List.length_cons, List.length_nil, List.length_set]; omega)) (by first | omega | (simp only [List.length_append, List.length_cons, List.length_nil, List.length_set]; omega))) ?_
    refine ops_val 29 ((Eng.sub 1 v1 0 (((daysOf base key).length : Int) - 1).toNat)) rfl rfl rfl rfl (run_sub_h (i := (((daysOf base key).length : Int) - 1)) sl52 (St.rdRow (n := 0) S rfl) rfl rfl (by omega) (by omega)) ?_
    refine ops_val 30 (i64 (((daysOf base key).take (((daysOf base key).length : Int) - 1).toNat).length : Int)) rfl rfl rfl rfl (run_len_rd Try.underlying52 (Rd.sub (St.rdRow (n := 0) S rfl) (by omega)) rfl) ?_
    refine ops_val 31 (i64 0) rfl rfl rfl rfl (run_pv rfl) ?_
    refine ops_nil ?_
    refine nrm_then ?_
    refine w_block ?_
    replace S := S.nilRow 44 2
    replace S : Eng.St w [.row 44 2 (.slice none 0 0) (([] : List Stay).map encStay), .row 3 1 v1 ((daysOf base key).map Eng.encI)] w2 := S
    refine w_loop (G := Nat × Value) (fun ⟨k, vo⟩ => [(0, vbase), (1, str key), (2, i64 a), (3, i64 b), (9, vo), (10, v1), (11, .bool ((corTo base key a b (daysOf base key) k).2)), (29, (Eng.sub 1 v1 0 (((daysOf base key).length : Int) - 1).toNat)), (30, i64 (((daysOf base key).take (((daysOf base key).length : Int) - 1).toNat).length : Int)), (31, i64 (k : Int))]) (fun ⟨k, vo⟩ w' => Eng.St w [.row 44 2 vo (((corTo base key a b (daysOf base key) k).1).map encStay), .row 3 1 v1 ((daysOf base key).map Eng.encI)] w' ∧ (k ≤ ((daysOf base key).take (((daysOf base key).length : Int) - 1).toNat).length)) (fun ⟨k, vo⟩ => ((daysOf base key).take (((daysOf base key).length : Int) - 1).toNat).length - k) (0, .slice none 0 0) ⟨rfl, rfl, rfl, rfl, rfl, rfl, rfl, rfl, rfl, rfl, trivial⟩ ⟨S, Nat.zero_le _⟩ ?_
    clear S; rintro ⟨k, vo⟩ ρ0 w3 ⟨S, hk⟩
    have hl := corTo_len base key a b (daysOf base key) k
    have hp := corTo_pos base key a b (daysOf base key) k
    have hbd := daysOf_bd key p1 ((k : Int) + 1).toNat
    refine w_seq ?_
    refine w_region ?_
    refine ops_val 32 (.bool (decide ((k : Int) < (((daysOf base key).take (((daysOf base key).length : Int) - 1).toNat).length : Int)))) rfl rfl rfl rfl (run_pv rfl) ?_
    refine ops_nil ?_
    refine nrm_then ?_
    refine w_seq ?_
    refine w_cond (decide ((k : Int) < (((daysOf base key).take (((daysOf base key).length : Int) - 1).toNat).length : Int))) rfl (fun h2 => ?_) (fun h2 => ?_)
    · have p2 := h2; try simp only [decide_eq_true_eq, decide_eq_false_iff_not, Bool.and_eq_true, Bool.or_eq_true, Bool.not_eq_true', Bool.or_eq_false_iff, Bool.not_eq_false', Int.not_lt, Int.not_le, gt_iff_lt, ge_iff_le, Decidable.not_not] at p2
      refine w_skip ?_
      refine nrm_then ?_
      refine w_seq ?_
      refine w_block ?_
      refine w_seq ?_
      refine w_region ?_
      refine ops_val 33 (i64 (k : Int)) rfl rfl rfl rfl (run_pv rfl) ?_
      refine ops_val 34 (.pointer (some ((adr (Eng.sub 1 v1 0 (((daysOf base key).length : Int) - 1).toNat)).add (k * 1)))) rfl rfl rfl rfl (run_index_rd (i := k) sl52 (Rd.sub (St.rdRow (n := 1) S rfl) (by omega)) rfl rfl (by first | omega | (simp only [List.length_append, List.length_cons, List.length_nil, List.length_set]; omega))) ?_
      refine ops_val 35 (i64 (((daysOf base key).take (((daysOf base key).length : Int) - 1).toNat).getD k 0)) rfl rfl rfl rfl (run_load_scal sc3 rfl (cell0 (Rd.at' (d := 0) (j := 0) (Rd.sub (St.rdRow (n := 1) S rfl) (by omega)) (by first | omega | (simp only [List.length_append, List.length_cons, List.length_nil, List.length_set]; omega)) rfl))) ?_
      refine ops_val 12 (i64 (k : Int)) rfl rfl rfl rfl (run_pv rfl) ?_
      refine ops_val 13 (i64 (((daysOf base key).take (((daysOf base key).length : Int) - 1).toNat).getD k 0)) rfl rfl rfl rfl (run_pv rfl) ?_
      refine ops_nil ?_
      refine nrm_then ?_
      refine w_seq ?_
      refine w_region ?_
      refine ops_val 37 (vbase) rfl rfl rfl rfl (run_pv rfl) ?_
      refine ops_val 38 (str key) rfl rfl rfl rfl (run_pv rfl) ?_
      refine ops_val 39 (i64 (((daysOf base key).take (((daysOf base key).length : Int) - 1).toNat).getD k 0)) rfl rfl rfl rfl (run_pv rfl) ?_
      refine ops_val 40 (i64 a) rfl rfl rfl rfl (run_pv rfl) ?_
      refine ops_callIs [vbase, str key, i64 (((daysOf base key).take (((daysOf base key).length : Int) - 1).toNat).getD k 0), i64 a] (.tuple #[i64 ((atOf base key (((daysOf base key).take (((daysOf base key).length : Int) - 1).toNat).getD k 0) a).1), .bool ((atOf base key (((daysOf base key).take (((daysOf base key).length : Int) - 1).toNat).getD k 0) a).2)]) S rfl rfl hb11 rfl (at_is vbase base key (((daysOf base key).take (((daysOf base key).length : Int) - 1).toNat).getD k 0) a _ (St.rd S hbase) ) ?_
      clear S; intro w4 S
      refine ops_val 36 (.tuple #[i64 ((atOf base key (((daysOf base key).take (((daysOf base key).length : Int) - 1).toNat).getD k 0) a).1), .bool ((atOf base key (((daysOf base key).take (((daysOf base key).length : Int) - 1).toNat).getD k 0) a).2)]) rfl rfl rfl rfl (run_pv rfl) ?_
      refine ops_val 42 (i64 ((atOf base key (((daysOf base key).take (((daysOf base key).length : Int) - 1).toNat).getD k 0) a).1)) rfl rfl rfl rfl (run_pv rfl) ?_
      refine ops_val 43 (.bool ((atOf base key (((daysOf base key).take (((daysOf base key).length : Int) - 1).toNat).getD k 0) a).2)) rfl rfl rfl rfl (run_pv rfl) ?_
      refine ops_val 14 (i64 ((atOf base key (((daysOf base key).take (((daysOf base key).length : Int) - 1).toNat).getD k 0) a).1)) rfl rfl rfl rfl (run_pv rfl) ?_
      refine ops_val 15 (.bool ((atOf base key (((daysOf base key).take (((daysOf base key).length : Int) - 1).toNat).getD k 0) a).2)) rfl rfl rfl rfl (run_pv rfl) ?_
      refine ops_nil ?_
      refine nrm_then ?_
      refine w_seq ?_
      refine w_region ?_
      refine ops_val 45 (vbase) rfl rfl rfl rfl (run_pv rfl) ?_
      refine ops_val 46 (str key) rfl rfl rfl rfl (run_pv rfl) ?_
      refine ops_val 47 (i64 (((daysOf base key).take (((daysOf base key).length : Int) - 1).toNat).getD k 0)) rfl rfl rfl rfl (run_pv rfl) ?_
      refine ops_val 48 (i64 b) rfl rfl rfl rfl (run_pv rfl) ?_
      refine ops_callIs [vbase, str key, i64 (((daysOf base key).take (((daysOf base key).length : Int) - 1).toNat).getD k 0), i64 b] (.tuple #[i64 ((atOf base key (((daysOf base key).take (((daysOf base key).length : Int) - 1).toNat).getD k 0) b).1), .bool ((atOf base key (((daysOf base key).take (((daysOf base key).length : Int) - 1).toNat).getD k 0) b).2)]) S rfl rfl hb11 rfl (at_is vbase base key (((daysOf base key).take (((daysOf base key).length : Int) - 1).toNat).getD k 0) b _ (St.rd S hbase) ) ?_
      clear S; intro w5 S
      refine ops_val 44 (.tuple #[i64 ((atOf base key (((daysOf base key).take (((daysOf base key).length : Int) - 1).toNat).getD k 0) b).1), .bool ((atOf base key (((daysOf base key).take (((daysOf base key).length : Int) - 1).toNat).getD k 0) b).2)]) rfl rfl rfl rfl (run_pv rfl) ?_
      refine ops_val 50 (i64 ((atOf base key (((daysOf base key).take (((daysOf base key).length : Int) - 1).toNat).getD k 0) b).1)) rfl rfl rfl rfl (run_pv rfl) ?_
      refine ops_val 51 (.bool ((atOf base key (((daysOf base key).take (((daysOf base key).length : Int) - 1).toNat).getD k 0) b).2)) rfl rfl rfl rfl (run_pv rfl) ?_
      refine ops_val 16 (i64 ((atOf base key (((daysOf base key).take (((daysOf base key).length : Int) - 1).toNat).getD k 0) b).1)) rfl rfl rfl rfl (run_pv rfl) ?_
      refine ops_val 17 (.bool ((atOf base key (((daysOf base key).take (((daysOf base key).length : Int) - 1).toNat).getD k 0) b).2)) rfl rfl rfl rfl (run_pv rfl) ?_
      refine ops_nil ?_
      refine nrm_then ?_
      refine w_seq ?_
      refine w_cut [(0, vbase), (1, str key), (2, i64 a), (3, i64 b), (9, vo), (10, v1), (11, .bool ((corTo base key a b (daysOf base key) k).2)), (12, i64 (k : Int)), (13, i64 (((daysOf base key).take (((daysOf base key).length : Int) - 1).toNat).getD k 0)), (18, .bool ((!decide ((atOf base key (((daysOf base key).take (((daysOf base key).length : Int) - 1).toNat).getD k 0) a).1 = (atOf base key (((daysOf base key).take (((daysOf base key).length : Int) - 1).toNat).getD k 0) b).1)) || (!((atOf base key (((daysOf base key).take (((daysOf base key).length : Int) - 1).toNat).getD k 0) a).2 == (atOf base key (((daysOf base key).take (((daysOf base key).length : Int) - 1).toNat).getD k 0) b).2)))), (29, (Eng.sub 1 v1 0 (((daysOf base key).length : Int) - 1).toNat)), (30, i64 (((daysOf base key).take (((daysOf base key).length : Int) - 1).toNat).length : Int)), (31, i64 (k : Int))] (fun w' => Eng.St w [.row 44 2 vo (((corTo base key a b (daysOf base key) k).1).map encStay), .row 3 1 v1 ((daysOf base key).map Eng.encI)] w') ?_ ?_
      · refine w_region ?_
        refine ops_val 52 (i64 ((atOf base key (((daysOf base key).take (((daysOf base key).length : Int) - 1).toNat).getD k 0) a).1)) rfl rfl rfl rfl (run_pv rfl) ?_
        refine ops_val 53 (i64 ((atOf base key (((daysOf base key).take (((daysOf base key).length : Int) - 1).toNat).getD k 0) b).1)) rfl rfl rfl rfl (run_pv rfl) ?_
        refine ops_val 54 (.bool (!decide ((atOf base key (((daysOf base key).take (((daysOf base key).length : Int) - 1).toNat).getD k 0) a).1 = (atOf base key (((daysOf base key).take (((daysOf base key).length : Int) - 1).toNat).getD k 0) b).1))) rfl rfl rfl rfl (run_pv rfl) ?_
        refine ops_val 55 (.bool (!decide ((atOf base key (((daysOf base key).take (((daysOf base key).length : Int) - 1).toNat).getD k 0) a).1 = (atOf base key (((daysOf base key).take (((daysOf base key).length : Int) - 1).toNat).getD k 0) b).1))) rfl rfl rfl rfl (run_pv rfl) ?_
        refine ops_case 55 (!decide ((atOf base key (((daysOf base key).take (((daysOf base key).length : Int) - 1).toNat).getD k 0) a).1 = (atOf base key (((daysOf base key).take (((daysOf base key).length : Int) - 1).toNat).getD k 0) b).1)) rfl (fun h3 => ?_) (fun h3 => ?_)
        · have p3 := h3; try simp only [decide_eq_true_eq, decide_eq_false_iff_not, Bool.and_eq_true, Bool.or_eq_true, Bool.not_eq_true', Bool.or_eq_false_iff, Bool.not_eq_false', Int.not_lt, Int.not_le, gt_iff_lt, ge_iff_le, Decidable.not_not] at p3
          have k3 : (decide ((atOf base key (((daysOf base key).take (((daysOf base key).length : Int) - 1).toNat).getD k 0) a).1 = (atOf base key (((daysOf base key).take (((daysOf base key).length : Int) - 1).toNat).getD k 0) b).1)) = false := (by simpa only [Bool.not_eq_true', Bool.not_eq_false'] using h3)
          have pk3 := k3; try simp only [decide_eq_true_eq, decide_eq_false_iff_not, Bool.and_eq_true, Bool.or_eq_true, Bool.not_eq_true', Bool.or_eq_false_iff, Bool.not_eq_false', Int.not_lt, Int.not_le, gt_iff_lt, ge_iff_le, Decidable.not_not] at pk3
          refine ops_skip 56 rfl rfl rfl ?_
          refine ops_skip 57 rfl rfl rfl ?_
          refine ops_skip 58 rfl rfl rfl ?_
          refine ops_val 59 (.bool true) rfl rfl rfl rfl (run_pv rfl) ?_
          refine ops_val 18 (.bool true) rfl rfl rfl rfl (run_pv rfl) ?_
          refine ops_nil ?_
          refine nrm_then ?_
          exact ⟨⟨rfl, rfl, rfl, rfl, rfl, rfl, rfl, rfl, rfl, congrArg Value.bool (by simp only [h1, k2, h2, h3, k3, Bool.true_and, Bool.false_and, Bool.and_true, Bool.and_false, Bool.true_or, Bool.false_or, Bool.or_true, Bool.or_false, Bool.not_true, Bool.not_false]), rfl, rfl, rfl, trivial⟩, rfl, S⟩
        · have p3 := h3; try simp only [decide_eq_true_eq, decide_eq_false_iff_not, Bool.and_eq_true, Bool.or_eq_true, Bool.not_eq_true', Bool.or_eq_false_iff, Bool.not_eq_false', Int.not_lt, Int.not_le, gt_iff_lt, ge_iff_le, Decidable.not_not] at p3
          have k4 : (decide ((atOf base key (((daysOf base key).take (((daysOf base key).length : Int) - 1).toNat).getD k 0) a).1 = (atOf base key (((daysOf base key).take (((daysOf base key).length : Int) - 1).toNat).getD k 0) b).1)) = true := (by simpa only [Bool.not_eq_true', Bool.not_eq_false'] using h3)
          have pk4 := k4; try simp only [decide_eq_true_eq, decide_eq_false_iff_not, Bool.and_eq_true, Bool.or_eq_true, Bool.not_eq_true', Bool.or_eq_false_iff, Bool.not_eq_false', Int.not_lt, Int.not_le, gt_iff_lt, ge_iff_le, Decidable.not_not] at pk4
          refine ops_val 56 (.bool ((atOf base key (((daysOf base key).take (((daysOf base key).length : Int) - 1).toNat).getD k 0) a).2)) rfl rfl rfl rfl (run_pv rfl) ?_
          refine ops_val 57 (.bool ((atOf base key (((daysOf base key).take (((daysOf base key).length : Int) - 1).toNat).getD k 0) b).2)) rfl rfl rfl rfl (run_pv rfl) ?_
          refine ops_val 58 (.bool (!((atOf base key (((daysOf base key).take (((daysOf base key).length : Int) - 1).toNat).getD k 0) a).2 == (atOf base key (((daysOf base key).take (((daysOf base key).length : Int) - 1).toNat).getD k 0) b).2))) rfl rfl rfl rfl (run_neq_bool' Try.underlying4 rfl rfl) ?_
          refine ops_val 59 (.bool (!((atOf base key (((daysOf base key).take (((daysOf base key).length : Int) - 1).toNat).getD k 0) a).2 == (atOf base key (((daysOf base key).take (((daysOf base key).length : Int) - 1).toNat).getD k 0) b).2))) rfl rfl rfl rfl (run_pv rfl) ?_
          refine ops_val 18 (.bool (!((atOf base key (((daysOf base key).take (((daysOf base key).length : Int) - 1).toNat).getD k 0) a).2 == (atOf base key (((daysOf base key).take (((daysOf base key).length : Int) - 1).toNat).getD k 0) b).2))) rfl rfl rfl rfl (run_pv rfl) ?_
          refine ops_nil ?_
          refine nrm_then ?_
          exact ⟨⟨rfl, rfl, rfl, rfl, rfl, rfl, rfl, rfl, rfl, congrArg Value.bool (by simp only [h1, k2, h2, h3, k4, Bool.true_and, Bool.false_and, Bool.and_true, Bool.and_false, Bool.true_or, Bool.false_or, Bool.or_true, Bool.or_false, Bool.not_true, Bool.not_false]), rfl, rfl, rfl, trivial⟩, rfl, S⟩
      · clear S; intro ρ0 w6 S
        refine nrm_then ?_
        refine w_seq ?_
        refine w_seq ?_
        refine w_cut [(0, vbase), (1, str key), (2, i64 a), (3, i64 b), (9, vo), (10, v1), (12, i64 (k : Int)), (13, i64 (((daysOf base key).take (((daysOf base key).length : Int) - 1).toNat).getD k 0)), (18, .bool ((!decide ((atOf base key (((daysOf base key).take (((daysOf base key).length : Int) - 1).toNat).getD k 0) a).1 = (atOf base key (((daysOf base key).take (((daysOf base key).length : Int) - 1).toNat).getD k 0) b).1)) || (!((atOf base key (((daysOf base key).take (((daysOf base key).length : Int) - 1).toNat).getD k 0) a).2 == (atOf base key (((daysOf base key).take (((daysOf base key).length : Int) - 1).toNat).getD k 0) b).2)))), (29, (Eng.sub 1 v1 0 (((daysOf base key).length : Int) - 1).toNat)), (30, i64 (((daysOf base key).take (((daysOf base key).length : Int) - 1).toNat).length : Int)), (31, i64 (k : Int)), (63, .bool (((!decide ((atOf base key (((daysOf base key).take (((daysOf base key).length : Int) - 1).toNat).getD k 0) a).1 = (atOf base key (((daysOf base key).take (((daysOf base key).length : Int) - 1).toNat).getD k 0) b).1)) || (!((atOf base key (((daysOf base key).take (((daysOf base key).length : Int) - 1).toNat).getD k 0) a).2 == (atOf base key (((daysOf base key).take (((daysOf base key).length : Int) - 1).toNat).getD k 0) b).2))) && (corTo base key a b (daysOf base key) k).2))] (fun w' => Eng.St w [.row 44 2 vo (((corTo base key a b (daysOf base key) k).1).map encStay), .row 3 1 v1 ((daysOf base key).map Eng.encI)] w') ?_ ?_
        · refine w_region ?_
          refine ops_val 60 (.bool ((!decide ((atOf base key (((daysOf base key).take (((daysOf base key).length : Int) - 1).toNat).getD k 0) a).1 = (atOf base key (((daysOf base key).take (((daysOf base key).length : Int) - 1).toNat).getD k 0) b).1)) || (!((atOf base key (((daysOf base key).take (((daysOf base key).length : Int) - 1).toNat).getD k 0) a).2 == (atOf base key (((daysOf base key).take (((daysOf base key).length : Int) - 1).toNat).getD k 0) b).2)))) rfl rfl rfl rfl (run_pv rfl) ?_
          refine ops_val 61 (.bool ((!decide ((atOf base key (((daysOf base key).take (((daysOf base key).length : Int) - 1).toNat).getD k 0) a).1 = (atOf base key (((daysOf base key).take (((daysOf base key).length : Int) - 1).toNat).getD k 0) b).1)) || (!((atOf base key (((daysOf base key).take (((daysOf base key).length : Int) - 1).toNat).getD k 0) a).2 == (atOf base key (((daysOf base key).take (((daysOf base key).length : Int) - 1).toNat).getD k 0) b).2)))) rfl rfl rfl rfl (run_pv rfl) ?_
          refine ops_case 61 ((!decide ((atOf base key (((daysOf base key).take (((daysOf base key).length : Int) - 1).toNat).getD k 0) a).1 = (atOf base key (((daysOf base key).take (((daysOf base key).length : Int) - 1).toNat).getD k 0) b).1)) || (!((atOf base key (((daysOf base key).take (((daysOf base key).length : Int) - 1).toNat).getD k 0) a).2 == (atOf base key (((daysOf base key).take (((daysOf base key).length : Int) - 1).toNat).getD k 0) b).2))) rfl (fun h4 => ?_) (fun h4 => ?_)
          · have p4 := h4; try simp only [decide_eq_true_eq, decide_eq_false_iff_not, Bool.and_eq_true, Bool.or_eq_true, Bool.not_eq_true', Bool.or_eq_false_iff, Bool.not_eq_false', Int.not_lt, Int.not_le, gt_iff_lt, ge_iff_le, Decidable.not_not] at p4
            refine ops_val 62 (.bool ((corTo base key a b (daysOf base key) k).2)) rfl rfl rfl rfl (run_pv rfl) ?_
            refine ops_val 63 (.bool ((corTo base key a b (daysOf base key) k).2)) rfl rfl rfl rfl (run_pv rfl) ?_
            refine ops_nil ?_
            refine nrm_then ?_
            exact ⟨⟨rfl, rfl, rfl, rfl, rfl, rfl, rfl, rfl, rfl, rfl, rfl, rfl, congrArg Value.bool (by simp only [h1, k2, h2, h4, Bool.true_and, Bool.false_and, Bool.and_true, Bool.and_false, Bool.true_or, Bool.false_or, Bool.or_true, Bool.or_false, Bool.not_true, Bool.not_false]), trivial⟩, rfl, S⟩
          · have p4 := h4; try simp only [decide_eq_true_eq, decide_eq_false_iff_not, Bool.and_eq_true, Bool.or_eq_true, Bool.not_eq_true', Bool.or_eq_false_iff, Bool.not_eq_false', Int.not_lt, Int.not_le, gt_iff_lt, ge_iff_le, Decidable.not_not] at p4
            have k5 : (!decide ((atOf base key (((daysOf base key).take (((daysOf base key).length : Int) - 1).toNat).getD k 0) a).1 = (atOf base key (((daysOf base key).take (((daysOf base key).length : Int) - 1).toNat).getD k 0) b).1)) = false := (Bool.or_eq_false_iff.1 h4).1
            have pk5 := k5; try simp only [decide_eq_true_eq, decide_eq_false_iff_not, Bool.and_eq_true, Bool.or_eq_true, Bool.not_eq_true', Bool.or_eq_false_iff, Bool.not_eq_false', Int.not_lt, Int.not_le, gt_iff_lt, ge_iff_le, Decidable.not_not] at pk5
            have k6 : (!((atOf base key (((daysOf base key).take (((daysOf base key).length : Int) - 1).toNat).getD k 0) a).2 == (atOf base key (((daysOf base key).take (((daysOf base key).length : Int) - 1).toNat).getD k 0) b).2)) = false := (Bool.or_eq_false_iff.1 h4).2
            have pk6 := k6; try simp only [decide_eq_true_eq, decide_eq_false_iff_not, Bool.and_eq_true, Bool.or_eq_true, Bool.not_eq_true', Bool.or_eq_false_iff, Bool.not_eq_false', Int.not_lt, Int.not_le, gt_iff_lt, ge_iff_le, Decidable.not_not] at pk6
            have k7 : (decide ((atOf base key (((daysOf base key).take (((daysOf base key).length : Int) - 1).toNat).getD k 0) a).1 = (atOf base key (((daysOf base key).take (((daysOf base key).length : Int) - 1).toNat).getD k 0) b).1)) = true := (by simpa only [Bool.not_eq_true', Bool.not_eq_false'] using k5)
            have pk7 := k7; try simp only [decide_eq_true_eq, decide_eq_false_iff_not, Bool.and_eq_true, Bool.or_eq_true, Bool.not_eq_true', Bool.or_eq_false_iff, Bool.not_eq_false', Int.not_lt, Int.not_le, gt_iff_lt, ge_iff_le, Decidable.not_not] at pk7
            have k8 : ((atOf base key (((daysOf base key).take (((daysOf base key).length : Int) - 1).toNat).getD k 0) a).2 == (atOf base key (((daysOf base key).take (((daysOf base key).length : Int) - 1).toNat).getD k 0) b).2) = true := (by simpa only [Bool.not_eq_true', Bool.not_eq_false'] using k6)
            have pk8 := k8; try simp only [decide_eq_true_eq, decide_eq_false_iff_not, Bool.and_eq_true, Bool.or_eq_true, Bool.not_eq_true', Bool.or_eq_false_iff, Bool.not_eq_false', Int.not_lt, Int.not_le, gt_iff_lt, ge_iff_le, Decidable.not_not] at pk8
            refine ops_skip 62 rfl rfl rfl ?_
            refine ops_val 63 (.bool false) rfl rfl rfl rfl (run_pv rfl) ?_
            refine ops_nil ?_
            refine nrm_then ?_
            exact ⟨⟨rfl, rfl, rfl, rfl, rfl, rfl, rfl, rfl, rfl, rfl, rfl, rfl, congrArg Value.bool (by simp only [h1, k2, h2, h4, k5, k6, k7, k8, Bool.true_and, Bool.false_and, Bool.and_true, Bool.and_false, Bool.true_or, Bool.false_or, Bool.or_true, Bool.or_false, Bool.not_true, Bool.not_false]), trivial⟩, rfl, S⟩
        · clear S; intro ρ0 w7 S
          refine nrm_then ?_
          refine w_cond (((!decide ((atOf base key (((daysOf base key).take (((daysOf base key).length : Int) - 1).toNat).getD k 0) a).1 = (atOf base key (((daysOf base key).take (((daysOf base key).length : Int) - 1).toNat).getD k 0) b).1)) || (!((atOf base key (((daysOf base key).take (((daysOf base key).length : Int) - 1).toNat).getD k 0) a).2 == (atOf base key (((daysOf base key).take (((daysOf base key).length : Int) - 1).toNat).getD k 0) b).2))) && (corTo base key a b (daysOf base key) k).2) rfl (fun h5 => ?_) (fun h5 => ?_)
          · have p5 := h5; try simp only [decide_eq_true_eq, decide_eq_false_iff_not, Bool.and_eq_true, Bool.or_eq_true, Bool.not_eq_true', Bool.or_eq_false_iff, Bool.not_eq_false', Int.not_lt, Int.not_le, gt_iff_lt, ge_iff_le, Decidable.not_not] at p5
            have k9 : ((!decide ((atOf base key (((daysOf base key).take (((daysOf base key).length : Int) - 1).toNat).getD k 0) a).1 = (atOf base key (((daysOf base key).take (((daysOf base key).length : Int) - 1).toNat).getD k 0) b).1)) || (!((atOf base key (((daysOf base key).take (((daysOf base key).length : Int) - 1).toNat).getD k 0) a).2 == (atOf base key (((daysOf base key).take (((daysOf base key).length : Int) - 1).toNat).getD k 0) b).2))) = true := (Bool.and_eq_true_iff.1 h5).1
            have pk9 := k9; try simp only [decide_eq_true_eq, decide_eq_false_iff_not, Bool.and_eq_true, Bool.or_eq_true, Bool.not_eq_true', Bool.or_eq_false_iff, Bool.not_eq_false', Int.not_lt, Int.not_le, gt_iff_lt, ge_iff_le, Decidable.not_not] at pk9
            have k10 : (corTo base key a b (daysOf base key) k).2 = true := (Bool.and_eq_true_iff.1 h5).2
            have pk10 := k10; try simp only [decide_eq_true_eq, decide_eq_false_iff_not, Bool.and_eq_true, Bool.or_eq_true, Bool.not_eq_true', Bool.or_eq_false_iff, Bool.not_eq_false', Int.not_lt, Int.not_le, gt_iff_lt, ge_iff_le, Decidable.not_not] at pk10
            have hp1 := hp k10
            refine w_region ?_
            refine ops_val 64 (vo) rfl rfl rfl rfl (run_pv rfl) ?_
            refine ops_val 65 (vo) rfl rfl rfl rfl (run_pv rfl) ?_
            refine ops_val 66 (i64 (((corTo base key a b (daysOf base key) k).1).length : Int)) rfl rfl rfl rfl (run_len_rd Try.underlying37 (St.rdRow (n := 0) S rfl) rfl) ?_
            refine ops_val 67 (i64 ((((corTo base key a b (daysOf base key) k).1).length : Int) - 1)) rfl rfl rfl rfl (run_wr rfl (by first | omega | (simp only [List.length_append, List.length_cons, List.length_nil, List.length_set]; omega)) (by first | omega | (simp only [List.length_append, List.length_cons, List.length_nil, List.length_set]; omega))) ?_
            refine ops_val 68 (v1) rfl rfl rfl rfl (run_pv rfl) ?_
            refine ops_val 69 (i64 (k : Int)) rfl rfl rfl rfl (run_pv rfl) ?_
            refine ops_val 70 (i64 ((k : Int) + 1)) rfl rfl rfl rfl (run_wr rfl (by first | omega | (simp only [List.length_append, List.length_cons, List.length_nil, List.length_set]; omega)) (by first | omega | (simp only [List.length_append, List.length_cons, List.length_nil, List.length_set]; omega))) ?_
            refine ops_val 71 (.pointer (some ((adr v1).add (((k : Int) + 1).toNat * 1)))) rfl rfl rfl rfl (run_index_rdI sl52 (St.rdRow (n := 1) S rfl) rfl rfl (by first | omega | (simp only [List.length_append, List.length_cons, List.length_nil, List.length_set]; omega)) (by first | omega | (simp only [List.length_append, List.length_cons, List.length_nil, List.length_set]; omega))) ?_
            refine ops_val 72 (i64 ((daysOf base key).getD ((k : Int) + 1).toNat 0)) rfl rfl rfl rfl (run_load_scal sc3 rfl (cell0 (Rd.at' (d := 0) (j := 0) (St.rdRow (n := 1) S rfl) (by first | omega | (simp only [List.length_append, List.length_cons, List.length_nil, List.length_set]; omega)) rfl))) ?_
            refine ops_val 73 (i64 (((daysOf base key).getD ((k : Int) + 1).toNat 0) - 1)) rfl rfl rfl rfl (run_wr rfl (by first | omega | (simp only [List.length_append, List.length_cons, List.length_nil, List.length_set]; omega)) (by first | omega | (simp only [List.length_append, List.length_cons, List.length_nil, List.length_set]; omega))) ?_
            refine ops_val 74 (.pointer (some ((adr vo).add (((((corTo base key a b (daysOf base key) k).1).length : Int) - 1).toNat * 2)))) rfl rfl rfl rfl (run_index_rdI sl37 (St.rdRow (n := 0) S rfl) rfl rfl (by first | omega | (simp only [List.length_append, List.length_cons, List.length_nil, List.length_set]; omega)) (by first | omega | (simp only [List.length_append, List.length_cons, List.length_nil, List.length_set]; omega))) ?_
            refine ops_val 75 (.pointer (some (((adr vo).add (((((corTo base key a b (daysOf base key) k).1).length : Int) - 1).toNat * 2)).add 1))) rfl rfl rfl rfl (run_fieldAddr fd44_1 rfl) ?_
            refine ops_storeRow (dft := default) (off := 1) (us := [i64 (((daysOf base key).getD ((k : Int) + 1).toNat 0) - 1)]) ((((corTo base key a b (daysOf base key) k).1).length : Int) - 1).toNat ({ (((corTo base key a b (daysOf base key) k).1).getD ((((corTo base key a b (daysOf base key) k).1).length : Int) - 1).toNat default) with to := (((daysOf base key).getD ((k : Int) + 1).toNat 0) - 1) }) S rfl (Scal.size sc3) rfl rfl rfl rfl (by first | omega | (simp only [List.length_append, List.length_cons, List.length_nil, List.length_set]; omega)) rfl rfl rfl ?_
            clear S; intro w9 S
            replace S : Eng.St w [.row 44 2 vo ((((corTo base key a b (daysOf base key) k).1).set ((((corTo base key a b (daysOf base key) k).1).length : Int) - 1).toNat ({ (((corTo base key a b (daysOf base key) k).1).getD ((((corTo base key a b (daysOf base key) k).1).length : Int) - 1).toNat default) with to := (((daysOf base key).getD ((k : Int) + 1).toNat 0) - 1) })).map encStay), .row 3 1 v1 ((daysOf base key).map Eng.encI)] w9 := S
            refine ops_nil ?_
            refine nrm_then ?_
            refine w_region ?_
            refine ops_val 88 (.bool ((!decide ((atOf base key (((daysOf base key).take (((daysOf base key).length : Int) - 1).toNat).getD k 0) a).1 = (atOf base key (((daysOf base key).take (((daysOf base key).length : Int) - 1).toNat).getD k 0) b).1)) || (!((atOf base key (((daysOf base key).take (((daysOf base key).length : Int) - 1).toNat).getD k 0) a).2 == (atOf base key (((daysOf base key).take (((daysOf base key).length : Int) - 1).toNat).getD k 0) b).2)))) rfl rfl rfl rfl (run_pv rfl) ?_
            refine ops_val 11 (.bool ((!decide ((atOf base key (((daysOf base key).take (((daysOf base key).length : Int) - 1).toNat).getD k 0) a).1 = (atOf base key (((daysOf base key).take (((daysOf base key).length : Int) - 1).toNat).getD k 0) b).1)) || (!((atOf base key (((daysOf base key).take (((daysOf base key).length : Int) - 1).toNat).getD k 0) a).2 == (atOf base key (((daysOf base key).take (((daysOf base key).length : Int) - 1).toNat).getD k 0) b).2)))) rfl rfl rfl rfl (run_pv rfl) ?_
            refine ops_nil ?_
            refine nrm_blk ?_
            refine nrm_then ?_
            refine w_region ?_
            refine ops_val 89 (i64 ((k : Int) + 1)) rfl rfl rfl rfl (run_wr rfl (by first | omega | (simp only [List.length_append, List.length_cons, List.length_nil, List.length_set]; omega)) (by first | omega | (simp only [List.length_append, List.length_cons, List.length_nil, List.length_set]; omega))) ?_
            refine ops_val 31 (i64 ((k : Int) + 1)) rfl rfl rfl rfl (run_pv rfl) ?_
            refine ops_nil ?_
            refine nrm_then ?_
            have hst : (((corTo base key a b (daysOf base key) k).1).set ((((corTo base key a b (daysOf base key) k).1).length : Int) - 1).toNat ({ (((corTo base key a b (daysOf base key) k).1).getD ((((corTo base key a b (daysOf base key) k).1).length : Int) - 1).toNat default) with to := (((daysOf base key).getD ((k : Int) + 1).toNat 0) - 1) })) = (corTo base key a b (daysOf base key) (k + 1)).1 := by simp only [corTo, corOut, diffB, h1, k2, h2, h5, k9, k10, if_true, if_false, Bool.false_eq_true, reduceIte, Bool.true_and, Bool.and_true, Bool.false_and, Bool.and_false, Bool.not_true, Bool.not_false, Bool.true_or, Bool.false_or, Bool.or_true, Bool.or_false]
            rw [hst] at S
            exact ⟨rfl, (k + 1, vo), ⟨(by first | rfl | exact congrArg i64 (by omega) | exact congrArg Value.bool (by simp only [corTo, diffB, h1, k2, h2, h5, k9, k10, if_true, if_false, Bool.false_eq_true, reduceIte, Bool.true_and, Bool.and_true, Bool.false_and, Bool.and_false, Bool.not_true, Bool.not_false, Bool.true_or, Bool.false_or, Bool.or_true, Bool.or_false])), (by first | rfl | exact congrArg i64 (by omega) | exact congrArg Value.bool (by simp only [corTo, diffB, h1, k2, h2, h5, k9, k10, if_true, if_false, Bool.false_eq_true, reduceIte, Bool.true_and, Bool.and_true, Bool.false_and, Bool.and_false, Bool.not_true, Bool.not_false, Bool.true_or, Bool.false_or, Bool.or_true, Bool.or_false])), (by first | rfl | exact congrArg i64 (by omega) | exact congrArg Value.bool (by simp only [corTo, diffB, h1, k2, h2, h5, k9, k10, if_true, if_false, Bool.false_eq_true, reduceIte, Bool.true_and, Bool.and_true, Bool.false_and, Bool.and_false, Bool.not_true, Bool.not_false, Bool.true_or, Bool.false_or, Bool.or_true, Bool.or_false])), (by first | rfl | exact congrArg i64 (by omega) | exact congrArg Value.bool (by simp only [corTo, diffB, h1, k2, h2, h5, k9, k10, if_true, if_false, Bool.false_eq_true, reduceIte, Bool.true_and, Bool.and_true, Bool.false_and, Bool.and_false, Bool.not_true, Bool.not_false, Bool.true_or, Bool.false_or, Bool.or_true, Bool.or_false])), (by first | rfl | exact congrArg i64 (by omega) | exact congrArg Value.bool (by simp only [corTo, diffB, h1, k2, h2, h5, k9, k10, if_true, if_false, Bool.false_eq_true, reduceIte, Bool.true_and, Bool.and_true, Bool.false_and, Bool.and_false, Bool.not_true, Bool.not_false, Bool.true_or, Bool.false_or, Bool.or_true, Bool.or_false])), (by first | rfl | exact congrArg i64 (by omega) | exact congrArg Value.bool (by simp only [corTo, diffB, h1, k2, h2, h5, k9, k10, if_true, if_false, Bool.false_eq_true, reduceIte, Bool.true_and, Bool.and_true, Bool.false_and, Bool.and_false, Bool.not_true, Bool.not_false, Bool.true_or, Bool.false_or, Bool.or_true, Bool.or_false])), (by first | rfl | exact congrArg i64 (by omega) | exact congrArg Value.bool (by simp only [corTo, diffB, h1, k2, h2, h5, k9, k10, if_true, if_false, Bool.false_eq_true, reduceIte, Bool.true_and, Bool.and_true, Bool.false_and, Bool.and_false, Bool.not_true, Bool.not_false, Bool.true_or, Bool.false_or, Bool.or_true, Bool.or_false])), (by first | rfl | exact congrArg i64 (by omega) | exact congrArg Value.bool (by simp only [corTo, diffB, h1, k2, h2, h5, k9, k10, if_true, if_false, Bool.false_eq_true, reduceIte, Bool.true_and, Bool.and_true, Bool.false_and, Bool.and_false, Bool.not_true, Bool.not_false, Bool.true_or, Bool.false_or, Bool.or_true, Bool.or_false])), (by first | rfl | exact congrArg i64 (by omega) | exact congrArg Value.bool (by simp only [corTo, diffB, h1, k2, h2, h5, k9, k10, if_true, if_false, Bool.false_eq_true, reduceIte, Bool.true_and, Bool.and_true, Bool.false_and, Bool.and_false, Bool.not_true, Bool.not_false, Bool.true_or, Bool.false_or, Bool.or_true, Bool.or_false])), (by first | rfl | exact congrArg i64 (by omega) | exact congrArg Value.bool (by simp only [corTo, diffB, h1, k2, h2, h5, k9, k10, if_true, if_false, Bool.false_eq_true, reduceIte, Bool.true_and, Bool.and_true, Bool.false_and, Bool.and_false, Bool.not_true, Bool.not_false, Bool.true_or, Bool.false_or, Bool.or_true, Bool.or_false])), trivial⟩, ⟨S, by omega⟩, by dsimp only; omega⟩
          · have p5 := h5; try simp only [decide_eq_true_eq, decide_eq_false_iff_not, Bool.and_eq_true, Bool.or_eq_true, Bool.not_eq_true', Bool.or_eq_false_iff, Bool.not_eq_false', Int.not_lt, Int.not_le, gt_iff_lt, ge_iff_le, Decidable.not_not] at p5
            refine w_seq ?_
            refine w_region ?_
            refine ops_val 76 (.bool ((!decide ((atOf base key (((daysOf base key).take (((daysOf base key).length : Int) - 1).toNat).getD k 0) a).1 = (atOf base key (((daysOf base key).take (((daysOf base key).length : Int) - 1).toNat).getD k 0) b).1)) || (!((atOf base key (((daysOf base key).take (((daysOf base key).length : Int) - 1).toNat).getD k 0) a).2 == (atOf base key (((daysOf base key).take (((daysOf base key).length : Int) - 1).toNat).getD k 0) b).2)))) rfl rfl rfl rfl (run_pv rfl) ?_
            refine ops_nil ?_
            refine nrm_then ?_
            refine w_cond ((!decide ((atOf base key (((daysOf base key).take (((daysOf base key).length : Int) - 1).toNat).getD k 0) a).1 = (atOf base key (((daysOf base key).take (((daysOf base key).length : Int) - 1).toNat).getD k 0) b).1)) || (!((atOf base key (((daysOf base key).take (((daysOf base key).length : Int) - 1).toNat).getD k 0) a).2 == (atOf base key (((daysOf base key).take (((daysOf base key).length : Int) - 1).toNat).getD k 0) b).2))) rfl (fun h6 => ?_) (fun h6 => ?_)
            · have p6 := h6; try simp only [decide_eq_true_eq, decide_eq_false_iff_not, Bool.and_eq_true, Bool.or_eq_true, Bool.not_eq_true', Bool.or_eq_false_iff, Bool.not_eq_false', Int.not_lt, Int.not_le, gt_iff_lt, ge_iff_le, Decidable.not_not] at p6
              have k11 : (corTo base key a b (daysOf base key) k).2 = false := (by simpa only [h6, Bool.true_and] using h5)
              have pk11 := k11; try simp only [decide_eq_true_eq, decide_eq_false_iff_not, Bool.and_eq_true, Bool.or_eq_true, Bool.not_eq_true', Bool.or_eq_false_iff, Bool.not_eq_false', Int.not_lt, Int.not_le, gt_iff_lt, ge_iff_le, Decidable.not_not] at pk11
              refine w_region ?_
              refine ops_val 77 (vo) rfl rfl rfl rfl (run_pv rfl) ?_
              refine ops_val 78 (i64 (((daysOf base key).take (((daysOf base key).length : Int) - 1).toNat).getD k 0)) rfl rfl rfl rfl (run_pv rfl) ?_
              refine ops_val 79 (v1) rfl rfl rfl rfl (run_pv rfl) ?_
              refine ops_val 80 (i64 (k : Int)) rfl rfl rfl rfl (run_pv rfl) ?_
              refine ops_val 81 (i64 ((k : Int) + 1)) rfl rfl rfl rfl (run_wr rfl (by first | omega | (simp only [List.length_append, List.length_cons, List.length_nil, List.length_set]; omega)) (by first | omega | (simp only [List.length_append, List.length_cons, List.length_nil, List.length_set]; omega))) ?_
              refine ops_val 82 (.pointer (some ((adr v1).add (((k : Int) + 1).toNat * 1)))) rfl rfl rfl rfl (run_index_rdI sl52 (St.rdRow (n := 1) S rfl) rfl rfl (by first | omega | (simp only [List.length_append, List.length_cons, List.length_nil, List.length_set]; omega)) (by first | omega | (simp only [List.length_append, List.length_cons, List.length_nil, List.length_set]; omega))) ?_
              refine ops_val 83 (i64 ((daysOf base key).getD ((k : Int) + 1).toNat 0)) rfl rfl rfl rfl (run_load_scal sc3 rfl (cell0 (Rd.at' (d := 0) (j := 0) (St.rdRow (n := 1) S rfl) (by first | omega | (simp only [List.length_append, List.length_cons, List.length_nil, List.length_set]; omega)) rfl))) ?_
              refine ops_val 84 (i64 (((daysOf base key).getD ((k : Int) + 1).toNat 0) - 1)) rfl rfl rfl rfl (run_wr rfl (by first | omega | (simp only [List.length_append, List.length_cons, List.length_nil, List.length_set]; omega)) (by first | omega | (simp only [List.length_append, List.length_cons, List.length_nil, List.length_set]; omega))) ?_
              refine ops_val 85 (.agg #[i64 (((daysOf base key).take (((daysOf base key).length : Int) - 1).toNat).getD k 0), i64 (((daysOf base key).getD ((k : Int) + 1).toNat 0) - 1)]) rfl rfl rfl rfl (run_buildS [(0, i64 (((daysOf base key).take (((daysOf base key).length : Int) - 1).toNat).getD k 0)), (1, i64 (((daysOf base key).getD ((k : Int) + 1).toNat 0) - 1))] [i64 (((daysOf base key).take (((daysOf base key).length : Int) - 1).toNat).getD k 0), i64 (((daysOf base key).getD ((k : Int) + 1).toNat 0) - 1)] rfl (by kernel_rfl)) ?_
              refine ops_buildSlice [(0, .agg #[i64 (((daysOf base key).take (((daysOf base key).length : Int) - 1).toNat).getD k 0), i64 (((daysOf base key).getD ((k : Int) + 1).toNat 0) - 1)])] [[i64 (((daysOf base key).take (((daysOf base key).length : Int) - 1).toNat).getD k 0), i64 (((daysOf base key).getD ((k : Int) + 1).toNat 0) - 1)]] sT37 S rfl rfl rfl (by kernel_rfl) rfl rfl rfl rfl ?_
              clear S; intro v2 w10 S
              replace S : Eng.St w [.row 44 2 v2 (([({ from_ := (((daysOf base key).take (((daysOf base key).length : Int) - 1).toNat).getD k 0), to := (((daysOf base key).getD ((k : Int) + 1).toNat 0) - 1) } : Stay)]).map encStay), .row 44 2 vo (((corTo base key a b (daysOf base key) k).1).map encStay), .row 3 1 v1 ((daysOf base key).map Eng.encI)] w10 := S
              replace S := S.f1
              refine ops_append sT37 S rfl rfl rfl rfl (St.rdRow (n := 1) S rfl) (fun _ => rfl) (fun _ => rfl) (by have := right_len base p1; have := daysOf_len base key; first | omega | (simp only [List.length_map, List.length_cons, List.length_nil, List.length_append]; omega)) (by have := right_len base p1; have := daysOf_len base key; first | omega | (simp only [List.length_map, List.length_cons, List.length_nil, List.length_append]; omega)) ?_
              clear S; intro v3 w11 S
              rw [← List.map_append] at S
              replace S : Eng.St w [.row 44 2 v3 (((corTo base key a b (daysOf base key) k).1 ++ [({ from_ := (((daysOf base key).take (((daysOf base key).length : Int) - 1).toNat).getD k 0), to := (((daysOf base key).getD ((k : Int) + 1).toNat 0) - 1) } : Stay)]).map encStay), .row 44 2 v2 (([({ from_ := (((daysOf base key).take (((daysOf base key).length : Int) - 1).toNat).getD k 0), to := (((daysOf base key).getD ((k : Int) + 1).toNat 0) - 1) } : Stay)]).map encStay), .row 3 1 v1 ((daysOf base key).map Eng.encI)] w11 := S
              refine ops_val 9 (v3) rfl rfl rfl rfl (run_pv rfl) ?_
              refine ops_nil ?_
              refine nrm_then ?_
              refine w_region ?_
              refine ops_val 88 (.bool ((!decide ((atOf base key (((daysOf base key).take (((daysOf base key).length : Int) - 1).toNat).getD k 0) a).1 = (atOf base key (((daysOf base key).take (((daysOf base key).length : Int) - 1).toNat).getD k 0) b).1)) || (!((atOf base key (((daysOf base key).take (((daysOf base key).length : Int) - 1).toNat).getD k 0) a).2 == (atOf base key (((daysOf base key).take (((daysOf base key).length : Int) - 1).toNat).getD k 0) b).2)))) rfl rfl rfl rfl (run_pv rfl) ?_
              refine ops_val 11 (.bool ((!decide ((atOf base key (((daysOf base key).take (((daysOf base key).length : Int) - 1).toNat).getD k 0) a).1 = (atOf base key (((daysOf base key).take (((daysOf base key).length : Int) - 1).toNat).getD k 0) b).1)) || (!((atOf base key (((daysOf base key).take (((daysOf base key).length : Int) - 1).toNat).getD k 0) a).2 == (atOf base key (((daysOf base key).take (((daysOf base key).length : Int) - 1).toNat).getD k 0) b).2)))) rfl rfl rfl rfl (run_pv rfl) ?_
              refine ops_nil ?_
              refine nrm_blk ?_
              refine nrm_then ?_
              refine w_region ?_
              refine ops_val 89 (i64 ((k : Int) + 1)) rfl rfl rfl rfl (run_wr rfl (by first | omega | (simp only [List.length_append, List.length_cons, List.length_nil, List.length_set]; omega)) (by first | omega | (simp only [List.length_append, List.length_cons, List.length_nil, List.length_set]; omega))) ?_
              refine ops_val 31 (i64 ((k : Int) + 1)) rfl rfl rfl rfl (run_pv rfl) ?_
              refine ops_nil ?_
              refine nrm_then ?_
              replace S := S.f1
              replace S := S.drop
              have hst : ((corTo base key a b (daysOf base key) k).1 ++ [({ from_ := (((daysOf base key).take (((daysOf base key).length : Int) - 1).toNat).getD k 0), to := (((daysOf base key).getD ((k : Int) + 1).toNat 0) - 1) } : Stay)]) = (corTo base key a b (daysOf base key) (k + 1)).1 := by simp only [corTo, corOut, diffB, h1, k2, h2, h5, h6, k11, if_true, if_false, Bool.false_eq_true, reduceIte, Bool.true_and, Bool.and_true, Bool.false_and, Bool.and_false, Bool.not_true, Bool.not_false, Bool.true_or, Bool.false_or, Bool.or_true, Bool.or_false]
              rw [hst] at S
              exact ⟨rfl, (k + 1, v3), ⟨(by first | rfl | exact congrArg i64 (by omega) | exact congrArg Value.bool (by simp only [corTo, diffB, h1, k2, h2, h5, h6, k11, if_true, if_false, Bool.false_eq_true, reduceIte, Bool.true_and, Bool.and_true, Bool.false_and, Bool.and_false, Bool.not_true, Bool.not_false, Bool.true_or, Bool.false_or, Bool.or_true, Bool.or_false])), (by first | rfl | exact congrArg i64 (by omega) | exact congrArg Value.bool (by simp only [corTo, diffB, h1, k2, h2, h5, h6, k11, if_true, if_false, Bool.false_eq_true, reduceIte, Bool.true_and, Bool.and_true, Bool.false_and, Bool.and_false, Bool.not_true, Bool.not_false, Bool.true_or, Bool.false_or, Bool.or_true, Bool.or_false])), (by first | rfl | exact congrArg i64 (by omega) | exact congrArg Value.bool (by simp only [corTo, diffB, h1, k2, h2, h5, h6, k11, if_true, if_false, Bool.false_eq_true, reduceIte, Bool.true_and, Bool.and_true, Bool.false_and, Bool.and_false, Bool.not_true, Bool.not_false, Bool.true_or, Bool.false_or, Bool.or_true, Bool.or_false])), (by first | rfl | exact congrArg i64 (by omega) | exact congrArg Value.bool (by simp only [corTo, diffB, h1, k2, h2, h5, h6, k11, if_true, if_false, Bool.false_eq_true, reduceIte, Bool.true_and, Bool.and_true, Bool.false_and, Bool.and_false, Bool.not_true, Bool.not_false, Bool.true_or, Bool.false_or, Bool.or_true, Bool.or_false])), (by first | rfl | exact congrArg i64 (by omega) | exact congrArg Value.bool (by simp only [corTo, diffB, h1, k2, h2, h5, h6, k11, if_true, if_false, Bool.false_eq_true, reduceIte, Bool.true_and, Bool.and_true, Bool.false_and, Bool.and_false, Bool.not_true, Bool.not_false, Bool.true_or, Bool.false_or, Bool.or_true, Bool.or_false])), (by first | rfl | exact congrArg i64 (by omega) | exact congrArg Value.bool (by simp only [corTo, diffB, h1, k2, h2, h5, h6, k11, if_true, if_false, Bool.false_eq_true, reduceIte, Bool.true_and, Bool.and_true, Bool.false_and, Bool.and_false, Bool.not_true, Bool.not_false, Bool.true_or, Bool.false_or, Bool.or_true, Bool.or_false])), (by first | rfl | exact congrArg i64 (by omega) | exact congrArg Value.bool (by simp only [corTo, diffB, h1, k2, h2, h5, h6, k11, if_true, if_false, Bool.false_eq_true, reduceIte, Bool.true_and, Bool.and_true, Bool.false_and, Bool.and_false, Bool.not_true, Bool.not_false, Bool.true_or, Bool.false_or, Bool.or_true, Bool.or_false])), (by first | rfl | exact congrArg i64 (by omega) | exact congrArg Value.bool (by simp only [corTo, diffB, h1, k2, h2, h5, h6, k11, if_true, if_false, Bool.false_eq_true, reduceIte, Bool.true_and, Bool.and_true, Bool.false_and, Bool.and_false, Bool.not_true, Bool.not_false, Bool.true_or, Bool.false_or, Bool.or_true, Bool.or_false])), (by first | rfl | exact congrArg i64 (by omega) | exact congrArg Value.bool (by simp only [corTo, diffB, h1, k2, h2, h5, h6, k11, if_true, if_false, Bool.false_eq_true, reduceIte, Bool.true_and, Bool.and_true, Bool.false_and, Bool.and_false, Bool.not_true, Bool.not_false, Bool.true_or, Bool.false_or, Bool.or_true, Bool.or_false])), (by first | rfl | exact congrArg i64 (by omega) | exact congrArg Value.bool (by simp only [corTo, diffB, h1, k2, h2, h5, h6, k11, if_true, if_false, Bool.false_eq_true, reduceIte, Bool.true_and, Bool.and_true, Bool.false_and, Bool.and_false, Bool.not_true, Bool.not_false, Bool.true_or, Bool.false_or, Bool.or_true, Bool.or_false])), trivial⟩, ⟨S, by omega⟩, by dsimp only; omega⟩
            · have p6 := h6; try simp only [decide_eq_true_eq, decide_eq_false_iff_not, Bool.and_eq_true, Bool.or_eq_true, Bool.not_eq_true', Bool.or_eq_false_iff, Bool.not_eq_false', Int.not_lt, Int.not_le, gt_iff_lt, ge_iff_le, Decidable.not_not] at p6
              have k12 : (!decide ((atOf base key (((daysOf base key).take (((daysOf base key).length : Int) - 1).toNat).getD k 0) a).1 = (atOf base key (((daysOf base key).take (((daysOf base key).length : Int) - 1).toNat).getD k 0) b).1)) = false := (Bool.or_eq_false_iff.1 h6).1
              have pk12 := k12; try simp only [decide_eq_true_eq, decide_eq_false_iff_not, Bool.and_eq_true, Bool.or_eq_true, Bool.not_eq_true', Bool.or_eq_false_iff, Bool.not_eq_false', Int.not_lt, Int.not_le, gt_iff_lt, ge_iff_le, Decidable.not_not] at pk12
              have k13 : (!((atOf base key (((daysOf base key).take (((daysOf base key).length : Int) - 1).toNat).getD k 0) a).2 == (atOf base key (((daysOf base key).take (((daysOf base key).length : Int) - 1).toNat).getD k 0) b).2)) = false := (Bool.or_eq_false_iff.1 h6).2
              have pk13 := k13; try simp only [decide_eq_true_eq, decide_eq_false_iff_not, Bool.and_eq_true, Bool.or_eq_true, Bool.not_eq_true', Bool.or_eq_false_iff, Bool.not_eq_false', Int.not_lt, Int.not_le, gt_iff_lt, ge_iff_le, Decidable.not_not] at pk13
              have k14 : (decide ((atOf base key (((daysOf base key).take (((daysOf base key).length : Int) - 1).toNat).getD k 0) a).1 = (atOf base key (((daysOf base key).take (((daysOf base key).length : Int) - 1).toNat).getD k 0) b).1)) = true := (by simpa only [Bool.not_eq_true', Bool.not_eq_false'] using k12)
              have pk14 := k14; try simp only [decide_eq_true_eq, decide_eq_false_iff_not, Bool.and_eq_true, Bool.or_eq_true, Bool.not_eq_true', Bool.or_eq_false_iff, Bool.not_eq_false', Int.not_lt, Int.not_le, gt_iff_lt, ge_iff_le, Decidable.not_not] at pk14
              have k15 : ((atOf base key (((daysOf base key).take (((daysOf base key).length : Int) - 1).toNat).getD k 0) a).2 == (atOf base key (((daysOf base key).take (((daysOf base key).length : Int) - 1).toNat).getD k 0) b).2) = true := (by simpa only [Bool.not_eq_true', Bool.not_eq_false'] using k13)
              have pk15 := k15; try simp only [decide_eq_true_eq, decide_eq_false_iff_not, Bool.and_eq_true, Bool.or_eq_true, Bool.not_eq_true', Bool.or_eq_false_iff, Bool.not_eq_false', Int.not_lt, Int.not_le, gt_iff_lt, ge_iff_le, Decidable.not_not] at pk15
              refine w_skip ?_
              refine nrm_then ?_
              refine w_region ?_
              refine ops_val 88 (.bool ((!decide ((atOf base key (((daysOf base key).take (((daysOf base key).length : Int) - 1).toNat).getD k 0) a).1 = (atOf base key (((daysOf base key).take (((daysOf base key).length : Int) - 1).toNat).getD k 0) b).1)) || (!((atOf base key (((daysOf base key).take (((daysOf base key).length : Int) - 1).toNat).getD k 0) a).2 == (atOf base key (((daysOf base key).take (((daysOf base key).length : Int) - 1).toNat).getD k 0) b).2)))) rfl rfl rfl rfl (run_pv rfl) ?_
              refine ops_val 11 (.bool ((!decide ((atOf base key (((daysOf base key).take (((daysOf base key).length : Int) - 1).toNat).getD k 0) a).1 = (atOf base key (((daysOf base key).take (((daysOf base key).length : Int) - 1).toNat).getD k 0) b).1)) || (!((atOf base key (((daysOf base key).take (((daysOf base key).length : Int) - 1).toNat).getD k 0) a).2 == (atOf base key (((daysOf base key).take (((daysOf base key).length : Int) - 1).toNat).getD k 0) b).2)))) rfl rfl rfl rfl (run_pv rfl) ?_
              refine ops_nil ?_
              refine nrm_blk ?_
              refine nrm_then ?_
              refine w_region ?_
              refine ops_val 89 (i64 ((k : Int) + 1)) rfl rfl rfl rfl (run_wr rfl (by first | omega | (simp only [List.length_append, List.length_cons, List.length_nil, List.length_set]; omega)) (by first | omega | (simp only [List.length_append, List.length_cons, List.length_nil, List.length_set]; omega))) ?_
              refine ops_val 31 (i64 ((k : Int) + 1)) rfl rfl rfl rfl (run_pv rfl) ?_
              refine ops_nil ?_
              refine nrm_then ?_
              have hst : (corTo base key a b (daysOf base key) k).1 = (corTo base key a b (daysOf base key) (k + 1)).1 := by simp only [corTo, corOut, diffB, h1, k2, h2, h5, h6, k12, k13, k14, k15, if_true, if_false, Bool.false_eq_true, reduceIte, Bool.true_and, Bool.and_true, Bool.false_and, Bool.and_false, Bool.not_true, Bool.not_false, Bool.true_or, Bool.false_or, Bool.or_true, Bool.or_false]
              rw [hst] at S
              exact ⟨rfl, (k + 1, vo), ⟨(by first | rfl | exact congrArg i64 (by omega) | exact congrArg Value.bool (by simp only [corTo, diffB, h1, k2, h2, h5, h6, k12, k13, k14, k15, if_true, if_false, Bool.false_eq_true, reduceIte, Bool.true_and, Bool.and_true, Bool.false_and, Bool.and_false, Bool.not_true, Bool.not_false, Bool.true_or, Bool.false_or, Bool.or_true, Bool.or_false])), (by first | rfl | exact congrArg i64 (by omega) | exact congrArg Value.bool (by simp only [corTo, diffB, h1, k2, h2, h5, h6, k12, k13, k14, k15, if_true, if_false, Bool.false_eq_true, reduceIte, Bool.true_and, Bool.and_true, Bool.false_and, Bool.and_false, Bool.not_true, Bool.not_false, Bool.true_or, Bool.false_or, Bool.or_true, Bool.or_false])), (by first | rfl | exact congrArg i64 (by omega) | exact congrArg Value.bool (by simp only [corTo, diffB, h1, k2, h2, h5, h6, k12, k13, k14, k15, if_true, if_false, Bool.false_eq_true, reduceIte, Bool.true_and, Bool.and_true, Bool.false_and, Bool.and_false, Bool.not_true, Bool.not_false, Bool.true_or, Bool.false_or, Bool.or_true, Bool.or_false])), (by first | rfl | exact congrArg i64 (by omega) | exact congrArg Value.bool (by simp only [corTo, diffB, h1, k2, h2, h5, h6, k12, k13, k14, k15, if_true, if_false, Bool.false_eq_true, reduceIte, Bool.true_and, Bool.and_true, Bool.false_and, Bool.and_false, Bool.not_true, Bool.not_false, Bool.true_or, Bool.false_or, Bool.or_true, Bool.or_false])), (by first | rfl | exact congrArg i64 (by omega) | exact congrArg Value.bool (by simp only [corTo, diffB, h1, k2, h2, h5, h6, k12, k13, k14, k15, if_true, if_false, Bool.false_eq_true, reduceIte, Bool.true_and, Bool.and_true, Bool.false_and, Bool.and_false, Bool.not_true, Bool.not_false, Bool.true_or, Bool.false_or, Bool.or_true, Bool.or_false])), (by first | rfl | exact congrArg i64 (by omega) | exact congrArg Value.bool (by simp only [corTo, diffB, h1, k2, h2, h5, h6, k12, k13, k14, k15, if_true, if_false, Bool.false_eq_true, reduceIte, Bool.true_and, Bool.and_true, Bool.false_and, Bool.and_false, Bool.not_true, Bool.not_false, Bool.true_or, Bool.false_or, Bool.or_true, Bool.or_false])), (by first | rfl | exact congrArg i64 (by omega) | exact congrArg Value.bool (by simp only [corTo, diffB, h1, k2, h2, h5, h6, k12, k13, k14, k15, if_true, if_false, Bool.false_eq_true, reduceIte, Bool.true_and, Bool.and_true, Bool.false_and, Bool.and_false, Bool.not_true, Bool.not_false, Bool.true_or, Bool.false_or, Bool.or_true, Bool.or_false])), (by first | rfl | exact congrArg i64 (by omega) | exact congrArg Value.bool (by simp only [corTo, diffB, h1, k2, h2, h5, h6, k12, k13, k14, k15, if_true, if_false, Bool.false_eq_true, reduceIte, Bool.true_and, Bool.and_true, Bool.false_and, Bool.and_false, Bool.not_true, Bool.not_false, Bool.true_or, Bool.false_or, Bool.or_true, Bool.or_false])), (by first | rfl | exact congrArg i64 (by omega) | exact congrArg Value.bool (by simp only [corTo, diffB, h1, k2, h2, h5, h6, k12, k13, k14, k15, if_true, if_false, Bool.false_eq_true, reduceIte, Bool.true_and, Bool.and_true, Bool.false_and, Bool.and_false, Bool.not_true, Bool.not_false, Bool.true_or, Bool.false_or, Bool.or_true, Bool.or_false])), (by first | rfl | exact congrArg i64 (by omega) | exact congrArg Value.bool (by simp only [corTo, diffB, h1, k2, h2, h5, h6, k12, k13, k14, k15, if_true, if_false, Bool.false_eq_true, reduceIte, Bool.true_and, Bool.and_true, Bool.false_and, Bool.and_false, Bool.not_true, Bool.not_false, Bool.true_or, Bool.false_or, Bool.or_true, Bool.or_false])), trivial⟩, ⟨S, by omega⟩, by dsimp only; omega⟩
    · have p2 := h2; try simp only [decide_eq_true_eq, decide_eq_false_iff_not, Bool.and_eq_true, Bool.or_eq_true, Bool.not_eq_true', Bool.or_eq_false_iff, Bool.not_eq_false', Int.not_lt, Int.not_le, gt_iff_lt, ge_iff_le, Decidable.not_not] at p2
      refine w_exit ?_
      refine exit_then ?_
      refine exit_then ?_
      refine exit_blk ?_
      refine nrm_then ?_
      refine w_seq ?_
      refine w_region ?_
      refine ops_val 90 (vo) rfl rfl rfl rfl (run_pv rfl) ?_
      refine ops_val 8 (vo) rfl rfl rfl rfl (run_pv rfl) ?_
      refine ops_nil ?_
      refine nrm_then ?_
      refine w_ret ?_
      have hres : (corTo base key a b (daysOf base key) k).1 = (corOf base key a b) := by (have e : k = ((daysOf base key).take (((daysOf base key).length : Int) - 1).toNat).length := by omega); subst e; simp only [corOf, h1, k2, h2, if_true, if_false, Bool.false_eq_true, reduceIte, Bool.true_and, Bool.and_true, Bool.false_and, Bool.and_false, Bool.not_true, Bool.not_false, Bool.true_or, Bool.false_or, Bool.or_true, Bool.or_false]
      rw [hres] at S
      exact fin_row (n := 0) rfl S rfl rfl
theorem rcor_is (vbase : Value) (base : List Fact) (key : List UInt8) (a : Int) (b : Int) (w : World) (hbase : Rd w encFact 5 vbase base) : FnRow Try.prog 22 [vbase, str key, i64 a, i64 b] w 44 2 encStay (rcorOf base key a b) := by
  refine fn_of_wp (N := 72) Try.func22 rfl rfl rfl ?_
  intro S
  have hlen := hbase.len
  refine w_seq ?_
  refine w_region ?_
  refine ops_val 8 (.slice none 0 0) rfl rfl rfl rfl (run_pv rfl) ?_
  refine ops_nil ?_
  refine nrm_then ?_
  refine w_seq ?_
  refine w_seq ?_
  refine w_region ?_
  refine ops_val 18 (vbase) rfl rfl rfl rfl (run_pv rfl) ?_
  refine ops_callIs [vbase] (.bool (rrightB base)) S rfl rfl hb16 rfl (rright_is vbase base _ (St.rd S hbase) ) ?_
  clear S; intro w1 S
  refine ops_val 20 (.bool (!(rrightB base))) rfl rfl rfl rfl (run_pv rfl) ?_
  refine ops_nil ?_
  refine nrm_then ?_
  refine w_cond (!(rrightB base)) rfl (fun h1 => ?_) (fun h1 => ?_)
  · have p1 := h1; try simp only [decide_eq_true_eq, decide_eq_false_iff_not, Bool.and_eq_true, Bool.or_eq_true, Bool.not_eq_true', Bool.or_eq_false_iff, Bool.not_eq_false', Int.not_lt, Int.not_le, gt_iff_lt, ge_iff_le, Decidable.not_not] at p1
    have k1 : (rrightB base) = false := (by simpa only [Bool.not_eq_true', Bool.not_eq_false'] using h1)
    have pk1 := k1; try simp only [decide_eq_true_eq, decide_eq_false_iff_not, Bool.and_eq_true, Bool.or_eq_true, Bool.not_eq_true', Bool.or_eq_false_iff, Bool.not_eq_false', Int.not_lt, Int.not_le, gt_iff_lt, ge_iff_le, Decidable.not_not] at pk1
    refine w_seq ?_
    refine w_region ?_
    refine ops_val 8 (.slice none 0 0) rfl rfl rfl rfl (run_pv rfl) ?_
    refine ops_nil ?_
    refine nrm_then ?_
    refine w_ret ?_
    refine ret_then ?_
    replace S := S.nilRow 44 2
    replace S : Eng.St w [.row 44 2 (.slice none 0 0) (([] : List Stay).map encStay)] w1 := S
    have hres : ([] : List Stay) = (rcorOf base key a b) := by simp only [rcorOf, h1, k1, if_true, if_false, Bool.false_eq_true, reduceIte, Bool.true_and, Bool.and_true, Bool.false_and, Bool.and_false, Bool.not_true, Bool.not_false, Bool.true_or, Bool.false_or, Bool.or_true, Bool.or_false]
    rw [hres] at S
    exact fin_row (n := 0) rfl S rfl rfl
  · have p1 := h1; try simp only [decide_eq_true_eq, decide_eq_false_iff_not, Bool.and_eq_true, Bool.or_eq_true, Bool.not_eq_true', Bool.or_eq_false_iff, Bool.not_eq_false', Int.not_lt, Int.not_le, gt_iff_lt, ge_iff_le, Decidable.not_not] at p1
    have k2 : (rrightB base) = true := (by simpa only [Bool.not_eq_true', Bool.not_eq_false'] using h1)
    have pk2 := k2; try simp only [decide_eq_true_eq, decide_eq_false_iff_not, Bool.and_eq_true, Bool.or_eq_true, Bool.not_eq_true', Bool.or_eq_false_iff, Bool.not_eq_false', Int.not_lt, Int.not_le, gt_iff_lt, ge_iff_le, Decidable.not_not] at pk2
    refine w_skip ?_
    refine nrm_then ?_
    refine w_seq ?_
    refine w_region ?_
    refine ops_val 9 (.slice none 0 0) rfl rfl rfl rfl (run_pv rfl) ?_
    refine ops_nil ?_
    refine nrm_then ?_
    refine w_seq ?_
    refine w_region ?_
    refine ops_val 10 (.bool false) rfl rfl rfl rfl (run_pv rfl) ?_
    refine ops_nil ?_
    refine nrm_then ?_
    refine w_seq ?_
    refine w_region ?_
    refine ops_val 11 (i64 0) rfl rfl rfl rfl (run_pv rfl) ?_
    refine ops_nil ?_
    refine nrm_then ?_
    refine w_seq ?_
    refine w_block ?_
    replace S := S.nilRow 44 2
    replace S : Eng.St w [.row 44 2 (.slice none 0 0) (([] : List Stay).map encStay)] w1 := S
    refine w_loop (G := Nat × Value) (fun ⟨k, vo⟩ => [(0, vbase), (1, str key), (2, i64 a), (3, i64 b), (9, vo), (10, .bool ((rcorTo base key a b k).2)), (11, i64 (dayR base k))]) (fun ⟨k, vo⟩ w' => Eng.St w [.row 44 2 vo (((rcorTo base key a b k).1).map encStay)] w' ∧ ((∀ m, m < k → dayR base m ≤ 1073741824) ∧ (k : Int) ≤ dayR base k)) (fun ⟨k, vo⟩ => 1073741825 - k) (0, .slice none 0 0) ⟨rfl, rfl, rfl, rfl, rfl, rfl, rfl, trivial⟩ ⟨S, fun _ h => absurd h (Nat.not_lt_zero _), Int.le_refl _⟩ ?_
    clear S; rintro ⟨k, vo⟩ ρ0 w2 ⟨S, hk, hkd⟩
    have hl := rcorTo_len base key a b k
    have hp := rcorTo_pos base key a b k
    have hnb := nextOf_bd base (dayR base k)
    refine w_seq ?_
    refine w_seq ?_
    refine w_region ?_
    refine ops_val 21 (i64 (dayR base k)) rfl rfl rfl rfl (run_pv rfl) ?_
    refine ops_val 22 (.bool (decide ((dayR base k) ≤ 1073741824))) rfl rfl rfl rfl (run_pv rfl) ?_
    refine ops_nil ?_
    refine nrm_then ?_
    refine w_cond (decide ((dayR base k) ≤ 1073741824)) rfl (fun h2 => ?_) (fun h2 => ?_)
    · have p2 := h2; try simp only [decide_eq_true_eq, decide_eq_false_iff_not, Bool.and_eq_true, Bool.or_eq_true, Bool.not_eq_true', Bool.or_eq_false_iff, Bool.not_eq_false', Int.not_lt, Int.not_le, gt_iff_lt, ge_iff_le, Decidable.not_not] at p2
      refine w_skip ?_
      refine nrm_then ?_
      refine w_block ?_
      refine w_seq ?_
      refine w_region ?_
      refine ops_val 23 (vbase) rfl rfl rfl rfl (run_pv rfl) ?_
      refine ops_val 24 (i64 (dayR base k)) rfl rfl rfl rfl (run_pv rfl) ?_
      refine ops_callIs [vbase, i64 (dayR base k)] (i64 (nextOf base (dayR base k))) S rfl rfl hb33 rfl (next_is vbase base (dayR base k) _ (St.rd S hbase) ) ?_
      clear S; intro w3 S
      refine ops_val 12 (i64 (nextOf base (dayR base k))) rfl rfl rfl rfl (run_pv rfl) ?_
      refine ops_nil ?_
      refine nrm_then ?_
      refine w_seq ?_
      refine w_region ?_
      refine ops_val 27 (vbase) rfl rfl rfl rfl (run_pv rfl) ?_
      refine ops_val 28 (str key) rfl rfl rfl rfl (run_pv rfl) ?_
      refine ops_val 29 (i64 (dayR base k)) rfl rfl rfl rfl (run_pv rfl) ?_
      refine ops_val 30 (i64 a) rfl rfl rfl rfl (run_pv rfl) ?_
      refine ops_callIs [vbase, str key, i64 (dayR base k), i64 a] (.tuple #[i64 ((ratOf base key (dayR base k) a).1), .bool ((ratOf base key (dayR base k) a).2)]) S rfl rfl hb12 rfl (rat_is vbase base key (dayR base k) a _ (St.rd S hbase) ) ?_
      clear S; intro w4 S
      refine ops_val 26 (.tuple #[i64 ((ratOf base key (dayR base k) a).1), .bool ((ratOf base key (dayR base k) a).2)]) rfl rfl rfl rfl (run_pv rfl) ?_
      refine ops_val 32 (i64 ((ratOf base key (dayR base k) a).1)) rfl rfl rfl rfl (run_pv rfl) ?_
      refine ops_val 33 (.bool ((ratOf base key (dayR base k) a).2)) rfl rfl rfl rfl (run_pv rfl) ?_
      refine ops_val 13 (i64 ((ratOf base key (dayR base k) a).1)) rfl rfl rfl rfl (run_pv rfl) ?_
      refine ops_val 14 (.bool ((ratOf base key (dayR base k) a).2)) rfl rfl rfl rfl (run_pv rfl) ?_
      refine ops_nil ?_
      refine nrm_then ?_
      refine w_seq ?_
      refine w_region ?_
      refine ops_val 35 (vbase) rfl rfl rfl rfl (run_pv rfl) ?_
      refine ops_val 36 (str key) rfl rfl rfl rfl (run_pv rfl) ?_
      refine ops_val 37 (i64 (dayR base k)) rfl rfl rfl rfl (run_pv rfl) ?_
      refine ops_val 38 (i64 b) rfl rfl rfl rfl (run_pv rfl) ?_
      refine ops_callIs [vbase, str key, i64 (dayR base k), i64 b] (.tuple #[i64 ((ratOf base key (dayR base k) b).1), .bool ((ratOf base key (dayR base k) b).2)]) S rfl rfl hb12 rfl (rat_is vbase base key (dayR base k) b _ (St.rd S hbase) ) ?_
      clear S; intro w5 S
      refine ops_val 34 (.tuple #[i64 ((ratOf base key (dayR base k) b).1), .bool ((ratOf base key (dayR base k) b).2)]) rfl rfl rfl rfl (run_pv rfl) ?_
      refine ops_val 40 (i64 ((ratOf base key (dayR base k) b).1)) rfl rfl rfl rfl (run_pv rfl) ?_
      refine ops_val 41 (.bool ((ratOf base key (dayR base k) b).2)) rfl rfl rfl rfl (run_pv rfl) ?_
      refine ops_val 15 (i64 ((ratOf base key (dayR base k) b).1)) rfl rfl rfl rfl (run_pv rfl) ?_
      refine ops_val 16 (.bool ((ratOf base key (dayR base k) b).2)) rfl rfl rfl rfl (run_pv rfl) ?_
      refine ops_nil ?_
      refine nrm_then ?_
      refine w_seq ?_
      refine w_cut [(0, vbase), (1, str key), (2, i64 a), (3, i64 b), (9, vo), (10, .bool ((rcorTo base key a b k).2)), (11, i64 (dayR base k)), (12, i64 (nextOf base (dayR base k))), (17, .bool ((!decide ((ratOf base key (dayR base k) a).1 = (ratOf base key (dayR base k) b).1)) || (!((ratOf base key (dayR base k) a).2 == (ratOf base key (dayR base k) b).2))))] (fun w' => Eng.St w [.row 44 2 vo (((rcorTo base key a b k).1).map encStay)] w') ?_ ?_
      · refine w_region ?_
        refine ops_val 42 (i64 ((ratOf base key (dayR base k) a).1)) rfl rfl rfl rfl (run_pv rfl) ?_
        refine ops_val 43 (i64 ((ratOf base key (dayR base k) b).1)) rfl rfl rfl rfl (run_pv rfl) ?_
        refine ops_val 44 (.bool (!decide ((ratOf base key (dayR base k) a).1 = (ratOf base key (dayR base k) b).1))) rfl rfl rfl rfl (run_pv rfl) ?_
        refine ops_val 45 (.bool (!decide ((ratOf base key (dayR base k) a).1 = (ratOf base key (dayR base k) b).1))) rfl rfl rfl rfl (run_pv rfl) ?_
        refine ops_case 45 (!decide ((ratOf base key (dayR base k) a).1 = (ratOf base key (dayR base k) b).1)) rfl (fun h3 => ?_) (fun h3 => ?_)
        · have p3 := h3; try simp only [decide_eq_true_eq, decide_eq_false_iff_not, Bool.and_eq_true, Bool.or_eq_true, Bool.not_eq_true', Bool.or_eq_false_iff, Bool.not_eq_false', Int.not_lt, Int.not_le, gt_iff_lt, ge_iff_le, Decidable.not_not] at p3
          have k3 : (decide ((ratOf base key (dayR base k) a).1 = (ratOf base key (dayR base k) b).1)) = false := (by simpa only [Bool.not_eq_true', Bool.not_eq_false'] using h3)
          have pk3 := k3; try simp only [decide_eq_true_eq, decide_eq_false_iff_not, Bool.and_eq_true, Bool.or_eq_true, Bool.not_eq_true', Bool.or_eq_false_iff, Bool.not_eq_false', Int.not_lt, Int.not_le, gt_iff_lt, ge_iff_le, Decidable.not_not] at pk3
          refine ops_skip 46 rfl rfl rfl ?_
          refine ops_skip 47 rfl rfl rfl ?_
          refine ops_skip 48 rfl rfl rfl ?_
          refine ops_val 49 (.bool true) rfl rfl rfl rfl (run_pv rfl) ?_
          refine ops_val 17 (.bool true) rfl rfl rfl rfl (run_pv rfl) ?_
          refine ops_nil ?_
          refine nrm_then ?_
          exact ⟨⟨rfl, rfl, rfl, rfl, rfl, rfl, rfl, rfl, congrArg Value.bool (by simp only [h1, k2, h2, h3, k3, Bool.true_and, Bool.false_and, Bool.and_true, Bool.and_false, Bool.true_or, Bool.false_or, Bool.or_true, Bool.or_false, Bool.not_true, Bool.not_false]), trivial⟩, rfl, S⟩
        · have p3 := h3; try simp only [decide_eq_true_eq, decide_eq_false_iff_not, Bool.and_eq_true, Bool.or_eq_true, Bool.not_eq_true', Bool.or_eq_false_iff, Bool.not_eq_false', Int.not_lt, Int.not_le, gt_iff_lt, ge_iff_le, Decidable.not_not] at p3
          have k4 : (decide ((ratOf base key (dayR base k) a).1 = (ratOf base key (dayR base k) b).1)) = true := (by simpa only [Bool.not_eq_true', Bool.not_eq_false'] using h3)
          have pk4 := k4; try simp only [decide_eq_true_eq, decide_eq_false_iff_not, Bool.and_eq_true, Bool.or_eq_true, Bool.not_eq_true', Bool.or_eq_false_iff, Bool.not_eq_false', Int.not_lt, Int.not_le, gt_iff_lt, ge_iff_le, Decidable.not_not] at pk4
          refine ops_val 46 (.bool ((ratOf base key (dayR base k) a).2)) rfl rfl rfl rfl (run_pv rfl) ?_
          refine ops_val 47 (.bool ((ratOf base key (dayR base k) b).2)) rfl rfl rfl rfl (run_pv rfl) ?_
          refine ops_val 48 (.bool (!((ratOf base key (dayR base k) a).2 == (ratOf base key (dayR base k) b).2))) rfl rfl rfl rfl (run_neq_bool' Try.underlying4 rfl rfl) ?_
          refine ops_val 49 (.bool (!((ratOf base key (dayR base k) a).2 == (ratOf base key (dayR base k) b).2))) rfl rfl rfl rfl (run_pv rfl) ?_
          refine ops_val 17 (.bool (!((ratOf base key (dayR base k) a).2 == (ratOf base key (dayR base k) b).2))) rfl rfl rfl rfl (run_pv rfl) ?_
          refine ops_nil ?_
          refine nrm_then ?_
          exact ⟨⟨rfl, rfl, rfl, rfl, rfl, rfl, rfl, rfl, congrArg Value.bool (by simp only [h1, k2, h2, h3, k4, Bool.true_and, Bool.false_and, Bool.and_true, Bool.and_false, Bool.true_or, Bool.false_or, Bool.or_true, Bool.or_false, Bool.not_true, Bool.not_false]), trivial⟩, rfl, S⟩
      · clear S; intro ρ0 w6 S
        refine nrm_then ?_
        refine w_seq ?_
        refine w_seq ?_
        refine w_cut [(0, vbase), (1, str key), (2, i64 a), (3, i64 b), (9, vo), (11, i64 (dayR base k)), (12, i64 (nextOf base (dayR base k))), (17, .bool ((!decide ((ratOf base key (dayR base k) a).1 = (ratOf base key (dayR base k) b).1)) || (!((ratOf base key (dayR base k) a).2 == (ratOf base key (dayR base k) b).2)))), (54, .bool (((!decide ((ratOf base key (dayR base k) a).1 = (ratOf base key (dayR base k) b).1)) || (!((ratOf base key (dayR base k) a).2 == (ratOf base key (dayR base k) b).2))) && (!(rcorTo base key a b k).2)))] (fun w' => Eng.St w [.row 44 2 vo (((rcorTo base key a b k).1).map encStay)] w') ?_ ?_
        · refine w_region ?_
          refine ops_val 50 (.bool ((!decide ((ratOf base key (dayR base k) a).1 = (ratOf base key (dayR base k) b).1)) || (!((ratOf base key (dayR base k) a).2 == (ratOf base key (dayR base k) b).2)))) rfl rfl rfl rfl (run_pv rfl) ?_
          refine ops_val 51 (.bool ((!decide ((ratOf base key (dayR base k) a).1 = (ratOf base key (dayR base k) b).1)) || (!((ratOf base key (dayR base k) a).2 == (ratOf base key (dayR base k) b).2)))) rfl rfl rfl rfl (run_pv rfl) ?_
          refine ops_case 51 ((!decide ((ratOf base key (dayR base k) a).1 = (ratOf base key (dayR base k) b).1)) || (!((ratOf base key (dayR base k) a).2 == (ratOf base key (dayR base k) b).2))) rfl (fun h4 => ?_) (fun h4 => ?_)
          · have p4 := h4; try simp only [decide_eq_true_eq, decide_eq_false_iff_not, Bool.and_eq_true, Bool.or_eq_true, Bool.not_eq_true', Bool.or_eq_false_iff, Bool.not_eq_false', Int.not_lt, Int.not_le, gt_iff_lt, ge_iff_le, Decidable.not_not] at p4
            refine ops_val 52 (.bool ((rcorTo base key a b k).2)) rfl rfl rfl rfl (run_pv rfl) ?_
            refine ops_val 53 (.bool (!(rcorTo base key a b k).2)) rfl rfl rfl rfl (run_pv rfl) ?_
            refine ops_val 54 (.bool (!(rcorTo base key a b k).2)) rfl rfl rfl rfl (run_pv rfl) ?_
            refine ops_nil ?_
            refine nrm_then ?_
            exact ⟨⟨rfl, rfl, rfl, rfl, rfl, rfl, rfl, rfl, congrArg Value.bool (by simp only [h1, k2, h2, h4, Bool.true_and, Bool.false_and, Bool.and_true, Bool.and_false, Bool.true_or, Bool.false_or, Bool.or_true, Bool.or_false, Bool.not_true, Bool.not_false]), trivial⟩, rfl, S⟩
          · have p4 := h4; try simp only [decide_eq_true_eq, decide_eq_false_iff_not, Bool.and_eq_true, Bool.or_eq_true, Bool.not_eq_true', Bool.or_eq_false_iff, Bool.not_eq_false', Int.not_lt, Int.not_le, gt_iff_lt, ge_iff_le, Decidable.not_not] at p4
            have k5 : (!decide ((ratOf base key (dayR base k) a).1 = (ratOf base key (dayR base k) b).1)) = false := (Bool.or_eq_false_iff.1 h4).1
            have pk5 := k5; try simp only [decide_eq_true_eq, decide_eq_false_iff_not, Bool.and_eq_true, Bool.or_eq_true, Bool.not_eq_true', Bool.or_eq_false_iff, Bool.not_eq_false', Int.not_lt, Int.not_le, gt_iff_lt, ge_iff_le, Decidable.not_not] at pk5
            have k6 : (!((ratOf base key (dayR base k) a).2 == (ratOf base key (dayR base k) b).2)) = false := (Bool.or_eq_false_iff.1 h4).2
            have pk6 := k6; try simp only [decide_eq_true_eq, decide_eq_false_iff_not, Bool.and_eq_true, Bool.or_eq_true, Bool.not_eq_true', Bool.or_eq_false_iff, Bool.not_eq_false', Int.not_lt, Int.not_le, gt_iff_lt, ge_iff_le, Decidable.not_not] at pk6
            have k7 : (decide ((ratOf base key (dayR base k) a).1 = (ratOf base key (dayR base k) b).1)) = true := (by simpa only [Bool.not_eq_true', Bool.not_eq_false'] using k5)
            have pk7 := k7; try simp only [decide_eq_true_eq, decide_eq_false_iff_not, Bool.and_eq_true, Bool.or_eq_true, Bool.not_eq_true', Bool.or_eq_false_iff, Bool.not_eq_false', Int.not_lt, Int.not_le, gt_iff_lt, ge_iff_le, Decidable.not_not] at pk7
            have k8 : ((ratOf base key (dayR base k) a).2 == (ratOf base key (dayR base k) b).2) = true := (by simpa only [Bool.not_eq_true', Bool.not_eq_false'] using k6)
            have pk8 := k8; try simp only [decide_eq_true_eq, decide_eq_false_iff_not, Bool.and_eq_true, Bool.or_eq_true, Bool.not_eq_true', Bool.or_eq_false_iff, Bool.not_eq_false', Int.not_lt, Int.not_le, gt_iff_lt, ge_iff_le, Decidable.not_not] at pk8
            refine ops_skip 52 rfl rfl rfl ?_
            refine ops_skip 53 rfl rfl rfl ?_
            refine ops_val 54 (.bool false) rfl rfl rfl rfl (run_pv rfl) ?_
            refine ops_nil ?_
            refine nrm_then ?_
            exact ⟨⟨rfl, rfl, rfl, rfl, rfl, rfl, rfl, rfl, congrArg Value.bool (by simp only [h1, k2, h2, h4, k5, k6, k7, k8, Bool.true_and, Bool.false_and, Bool.and_true, Bool.and_false, Bool.true_or, Bool.false_or, Bool.or_true, Bool.or_false, Bool.not_true, Bool.not_false]), trivial⟩, rfl, S⟩
        · clear S; intro ρ0 w7 S
          refine nrm_then ?_
          refine w_cond (((!decide ((ratOf base key (dayR base k) a).1 = (ratOf base key (dayR base k) b).1)) || (!((ratOf base key (dayR base k) a).2 == (ratOf base key (dayR base k) b).2))) && (!(rcorTo base key a b k).2)) rfl (fun h5 => ?_) (fun h5 => ?_)
          · have p5 := h5; try simp only [decide_eq_true_eq, decide_eq_false_iff_not, Bool.and_eq_true, Bool.or_eq_true, Bool.not_eq_true', Bool.or_eq_false_iff, Bool.not_eq_false', Int.not_lt, Int.not_le, gt_iff_lt, ge_iff_le, Decidable.not_not] at p5
            have k9 : ((!decide ((ratOf base key (dayR base k) a).1 = (ratOf base key (dayR base k) b).1)) || (!((ratOf base key (dayR base k) a).2 == (ratOf base key (dayR base k) b).2))) = true := (Bool.and_eq_true_iff.1 h5).1
            have pk9 := k9; try simp only [decide_eq_true_eq, decide_eq_false_iff_not, Bool.and_eq_true, Bool.or_eq_true, Bool.not_eq_true', Bool.or_eq_false_iff, Bool.not_eq_false', Int.not_lt, Int.not_le, gt_iff_lt, ge_iff_le, Decidable.not_not] at pk9
            have k10 : (!(rcorTo base key a b k).2) = true := (Bool.and_eq_true_iff.1 h5).2
            have pk10 := k10; try simp only [decide_eq_true_eq, decide_eq_false_iff_not, Bool.and_eq_true, Bool.or_eq_true, Bool.not_eq_true', Bool.or_eq_false_iff, Bool.not_eq_false', Int.not_lt, Int.not_le, gt_iff_lt, ge_iff_le, Decidable.not_not] at pk10
            have k11 : (rcorTo base key a b k).2 = false := (by simpa only [Bool.not_eq_true', Bool.not_eq_false'] using k10)
            have pk11 := k11; try simp only [decide_eq_true_eq, decide_eq_false_iff_not, Bool.and_eq_true, Bool.or_eq_true, Bool.not_eq_true', Bool.or_eq_false_iff, Bool.not_eq_false', Int.not_lt, Int.not_le, gt_iff_lt, ge_iff_le, Decidable.not_not] at pk11
            refine w_region ?_
            refine ops_val 55 (vo) rfl rfl rfl rfl (run_pv rfl) ?_
            refine ops_val 56 (i64 (dayR base k)) rfl rfl rfl rfl (run_pv rfl) ?_
            refine ops_val 57 (.agg #[i64 (dayR base k), i64 0]) rfl rfl rfl rfl (run_buildS [(0, i64 (dayR base k))] [i64 (dayR base k), i64 0] rfl (by kernel_rfl)) ?_
            refine ops_buildSlice [(0, .agg #[i64 (dayR base k), i64 0])] [[i64 (dayR base k), i64 0]] sT37 S rfl rfl rfl (by kernel_rfl) rfl rfl rfl rfl ?_
            clear S; intro v1 w8 S
            replace S : Eng.St w [.row 44 2 v1 (([({ from_ := (dayR base k), to := 0 } : Stay)]).map encStay), .row 44 2 vo (((rcorTo base key a b k).1).map encStay)] w8 := S
            replace S := S.f1
            refine ops_append sT37 S rfl rfl rfl rfl (St.rdRow (n := 1) S rfl) (fun _ => rfl) (fun _ => rfl) (by first | omega | (simp only [List.length_map, List.length_cons, List.length_nil, List.length_append]; omega)) (by first | omega | (simp only [List.length_map, List.length_cons, List.length_nil, List.length_append]; omega)) ?_
            clear S; intro v2 w9 S
            rw [← List.map_append] at S
            replace S : Eng.St w [.row 44 2 v2 (((rcorTo base key a b k).1 ++ [({ from_ := (dayR base k), to := 0 } : Stay)]).map encStay), .row 44 2 v1 (([({ from_ := (dayR base k), to := 0 } : Stay)]).map encStay)] w9 := S
            refine ops_val 9 (v2) rfl rfl rfl rfl (run_pv rfl) ?_
            refine ops_nil ?_
            refine nrm_then ?_
            refine w_seq ?_
            refine w_seq ?_
            refine w_region ?_
            refine ops_val 60 (.bool ((!decide ((ratOf base key (dayR base k) a).1 = (ratOf base key (dayR base k) b).1)) || (!((ratOf base key (dayR base k) a).2 == (ratOf base key (dayR base k) b).2)))) rfl rfl rfl rfl (run_pv rfl) ?_
            refine ops_nil ?_
            refine nrm_then ?_
            refine w_cond ((!decide ((ratOf base key (dayR base k) a).1 = (ratOf base key (dayR base k) b).1)) || (!((ratOf base key (dayR base k) a).2 == (ratOf base key (dayR base k) b).2))) rfl (fun h6 => ?_) (fun h6 => ?_)
            · have p6 := h6; try simp only [decide_eq_true_eq, decide_eq_false_iff_not, Bool.and_eq_true, Bool.or_eq_true, Bool.not_eq_true', Bool.or_eq_false_iff, Bool.not_eq_false', Int.not_lt, Int.not_le, gt_iff_lt, ge_iff_le, Decidable.not_not] at p6
              refine w_region ?_
              refine ops_val 61 (v2) rfl rfl rfl rfl (run_pv rfl) ?_
              refine ops_val 62 (v2) rfl rfl rfl rfl (run_pv rfl) ?_
              refine ops_val 63 (i64 (((rcorTo base key a b k).1 ++ [({ from_ := (dayR base k), to := 0 } : Stay)]).length : Int)) rfl rfl rfl rfl (run_len_rd Try.underlying37 (St.rdRow (n := 0) S rfl) rfl) ?_
              refine ops_val 64 (i64 ((((rcorTo base key a b k).1 ++ [({ from_ := (dayR base k), to := 0 } : Stay)]).length : Int) - 1)) rfl rfl rfl rfl (run_wr rfl (by first | omega | (simp only [List.length_append, List.length_cons, List.length_nil, List.length_set]; omega)) (by first | omega | (simp only [List.length_append, List.length_cons, List.length_nil, List.length_set]; omega))) ?_
              refine ops_val 65 (i64 (nextOf base (dayR base k))) rfl rfl rfl rfl (run_pv rfl) ?_
              refine ops_val 66 (i64 ((nextOf base (dayR base k)) - 1)) rfl rfl rfl rfl (run_wr rfl (by first | omega | (simp only [List.length_append, List.length_cons, List.length_nil, List.length_set]; omega)) (by first | omega | (simp only [List.length_append, List.length_cons, List.length_nil, List.length_set]; omega))) ?_
              refine ops_val 67 (.pointer (some ((adr v2).add (((((rcorTo base key a b k).1 ++ [({ from_ := (dayR base k), to := 0 } : Stay)]).length : Int) - 1).toNat * 2)))) rfl rfl rfl rfl (run_index_rdI sl37 (St.rdRow (n := 0) S rfl) rfl rfl (by first | omega | (simp only [List.length_append, List.length_cons, List.length_nil, List.length_set]; omega)) (by first | omega | (simp only [List.length_append, List.length_cons, List.length_nil, List.length_set]; omega))) ?_
              refine ops_val 68 (.pointer (some (((adr v2).add (((((rcorTo base key a b k).1 ++ [({ from_ := (dayR base k), to := 0 } : Stay)]).length : Int) - 1).toNat * 2)).add 1))) rfl rfl rfl rfl (run_fieldAddr fd44_1 rfl) ?_
              refine ops_storeRow (dft := default) (off := 1) (us := [i64 ((nextOf base (dayR base k)) - 1)]) ((((rcorTo base key a b k).1 ++ [({ from_ := (dayR base k), to := 0 } : Stay)]).length : Int) - 1).toNat ({ (((rcorTo base key a b k).1 ++ [({ from_ := (dayR base k), to := 0 } : Stay)]).getD ((((rcorTo base key a b k).1 ++ [({ from_ := (dayR base k), to := 0 } : Stay)]).length : Int) - 1).toNat default) with to := ((nextOf base (dayR base k)) - 1) }) S rfl (Scal.size sc3) rfl rfl rfl rfl (by first | omega | (simp only [List.length_append, List.length_cons, List.length_nil, List.length_set]; omega)) rfl rfl rfl ?_
              clear S; intro w11 S
              replace S : Eng.St w [.row 44 2 v2 ((((rcorTo base key a b k).1 ++ [({ from_ := (dayR base k), to := 0 } : Stay)]).set ((((rcorTo base key a b k).1 ++ [({ from_ := (dayR base k), to := 0 } : Stay)]).length : Int) - 1).toNat ({ (((rcorTo base key a b k).1 ++ [({ from_ := (dayR base k), to := 0 } : Stay)]).getD ((((rcorTo base key a b k).1 ++ [({ from_ := (dayR base k), to := 0 } : Stay)]).length : Int) - 1).toNat default) with to := ((nextOf base (dayR base k)) - 1) })).map encStay), .row 44 2 v1 (([({ from_ := (dayR base k), to := 0 } : Stay)]).map encStay)] w11 := S
              refine ops_nil ?_
              refine nrm_then ?_
              refine w_seq ?_
              refine w_region ?_
              refine ops_val 69 (.bool ((!decide ((ratOf base key (dayR base k) a).1 = (ratOf base key (dayR base k) b).1)) || (!((ratOf base key (dayR base k) a).2 == (ratOf base key (dayR base k) b).2)))) rfl rfl rfl rfl (run_pv rfl) ?_
              refine ops_val 10 (.bool ((!decide ((ratOf base key (dayR base k) a).1 = (ratOf base key (dayR base k) b).1)) || (!((ratOf base key (dayR base k) a).2 == (ratOf base key (dayR base k) b).2)))) rfl rfl rfl rfl (run_pv rfl) ?_
              refine ops_nil ?_
              refine nrm_then ?_
              refine w_region ?_
              refine ops_val 70 (i64 (nextOf base (dayR base k))) rfl rfl rfl rfl (run_pv rfl) ?_
              refine ops_val 11 (i64 (nextOf base (dayR base k))) rfl rfl rfl rfl (run_pv rfl) ?_
              refine ops_nil ?_
              refine nrm_blk ?_
              refine nrm_then ?_
              replace S := S.f1
              replace S := S.drop
              have hst : (((rcorTo base key a b k).1 ++ [({ from_ := (dayR base k), to := 0 } : Stay)]).set ((((rcorTo base key a b k).1 ++ [({ from_ := (dayR base k), to := 0 } : Stay)]).length : Int) - 1).toNat ({ (((rcorTo base key a b k).1 ++ [({ from_ := (dayR base k), to := 0 } : Stay)]).getD ((((rcorTo base key a b k).1 ++ [({ from_ := (dayR base k), to := 0 } : Stay)]).length : Int) - 1).toNat default) with to := ((nextOf base (dayR base k)) - 1) })) = (rcorTo base key a b (k + 1)).1 := by simp only [rcorTo, rcorOut, rdiffB, dayR, h1, k2, h2, h5, k9, k10, k11, h6, if_true, if_false, Bool.false_eq_true, reduceIte, Bool.true_and, Bool.and_true, Bool.false_and, Bool.and_false, Bool.not_true, Bool.not_false, Bool.true_or, Bool.false_or, Bool.or_true, Bool.or_false]
              rw [hst] at S
              exact ⟨rfl, (k + 1, v2), ⟨(by first | rfl | exact congrArg i64 (by omega) | exact congrArg Value.bool (by simp only [rcorTo, rdiffB, h1, k2, h2, h5, k9, k10, k11, h6, if_true, if_false, Bool.false_eq_true, reduceIte, Bool.true_and, Bool.and_true, Bool.false_and, Bool.and_false, Bool.not_true, Bool.not_false, Bool.true_or, Bool.false_or, Bool.or_true, Bool.or_false])), (by first | rfl | exact congrArg i64 (by omega) | exact congrArg Value.bool (by simp only [rcorTo, rdiffB, h1, k2, h2, h5, k9, k10, k11, h6, if_true, if_false, Bool.false_eq_true, reduceIte, Bool.true_and, Bool.and_true, Bool.false_and, Bool.and_false, Bool.not_true, Bool.not_false, Bool.true_or, Bool.false_or, Bool.or_true, Bool.or_false])), (by first | rfl | exact congrArg i64 (by omega) | exact congrArg Value.bool (by simp only [rcorTo, rdiffB, h1, k2, h2, h5, k9, k10, k11, h6, if_true, if_false, Bool.false_eq_true, reduceIte, Bool.true_and, Bool.and_true, Bool.false_and, Bool.and_false, Bool.not_true, Bool.not_false, Bool.true_or, Bool.false_or, Bool.or_true, Bool.or_false])), (by first | rfl | exact congrArg i64 (by omega) | exact congrArg Value.bool (by simp only [rcorTo, rdiffB, h1, k2, h2, h5, k9, k10, k11, h6, if_true, if_false, Bool.false_eq_true, reduceIte, Bool.true_and, Bool.and_true, Bool.false_and, Bool.and_false, Bool.not_true, Bool.not_false, Bool.true_or, Bool.false_or, Bool.or_true, Bool.or_false])), (by first | rfl | exact congrArg i64 (by omega) | exact congrArg Value.bool (by simp only [rcorTo, rdiffB, h1, k2, h2, h5, k9, k10, k11, h6, if_true, if_false, Bool.false_eq_true, reduceIte, Bool.true_and, Bool.and_true, Bool.false_and, Bool.and_false, Bool.not_true, Bool.not_false, Bool.true_or, Bool.false_or, Bool.or_true, Bool.or_false])), (by first | rfl | exact congrArg i64 (by omega) | exact congrArg Value.bool (by simp only [rcorTo, rdiffB, h1, k2, h2, h5, k9, k10, k11, h6, if_true, if_false, Bool.false_eq_true, reduceIte, Bool.true_and, Bool.and_true, Bool.false_and, Bool.and_false, Bool.not_true, Bool.not_false, Bool.true_or, Bool.false_or, Bool.or_true, Bool.or_false])), (by first | rfl | exact congrArg i64 (by omega) | exact congrArg Value.bool (by simp only [rcorTo, rdiffB, h1, k2, h2, h5, k9, k10, k11, h6, if_true, if_false, Bool.false_eq_true, reduceIte, Bool.true_and, Bool.and_true, Bool.false_and, Bool.and_false, Bool.not_true, Bool.not_false, Bool.true_or, Bool.false_or, Bool.or_true, Bool.or_false])), trivial⟩, ⟨S, fun m hm => (Nat.lt_succ_iff_lt_or_eq.1 hm).elim (hk m) (fun e => by subst e; assumption), dayR_step base k hkd p2⟩, by dsimp only; omega⟩
            · exact Bool.noConfusion (h6.symm.trans k9)
          · have p5 := h5; try simp only [decide_eq_true_eq, decide_eq_false_iff_not, Bool.and_eq_true, Bool.or_eq_true, Bool.not_eq_true', Bool.or_eq_false_iff, Bool.not_eq_false', Int.not_lt, Int.not_le, gt_iff_lt, ge_iff_le, Decidable.not_not] at p5
            refine w_skip ?_
            refine nrm_then ?_
            refine w_seq ?_
            refine w_seq ?_
            refine w_region ?_
            refine ops_val 60 (.bool ((!decide ((ratOf base key (dayR base k) a).1 = (ratOf base key (dayR base k) b).1)) || (!((ratOf base key (dayR base k) a).2 == (ratOf base key (dayR base k) b).2)))) rfl rfl rfl rfl (run_pv rfl) ?_
            refine ops_nil ?_
            refine nrm_then ?_
            refine w_cond ((!decide ((ratOf base key (dayR base k) a).1 = (ratOf base key (dayR base k) b).1)) || (!((ratOf base key (dayR base k) a).2 == (ratOf base key (dayR base k) b).2))) rfl (fun h7 => ?_) (fun h7 => ?_)
            · have p7 := h7; try simp only [decide_eq_true_eq, decide_eq_false_iff_not, Bool.and_eq_true, Bool.or_eq_true, Bool.not_eq_true', Bool.or_eq_false_iff, Bool.not_eq_false', Int.not_lt, Int.not_le, gt_iff_lt, ge_iff_le, Decidable.not_not] at p7
              have k12 : (!(rcorTo base key a b k).2) = false := (by simpa only [h7, Bool.true_and] using h5)
              have pk12 := k12; try simp only [decide_eq_true_eq, decide_eq_false_iff_not, Bool.and_eq_true, Bool.or_eq_true, Bool.not_eq_true', Bool.or_eq_false_iff, Bool.not_eq_false', Int.not_lt, Int.not_le, gt_iff_lt, ge_iff_le, Decidable.not_not] at pk12
              have k13 : (rcorTo base key a b k).2 = true := (by simpa only [Bool.not_eq_true', Bool.not_eq_false'] using k12)
              have pk13 := k13; try simp only [decide_eq_true_eq, decide_eq_false_iff_not, Bool.and_eq_true, Bool.or_eq_true, Bool.not_eq_true', Bool.or_eq_false_iff, Bool.not_eq_false', Int.not_lt, Int.not_le, gt_iff_lt, ge_iff_le, Decidable.not_not] at pk13
              have hp1 := hp k13
              refine w_region ?_
              refine ops_val 61 (vo) rfl rfl rfl rfl (run_pv rfl) ?_
              refine ops_val 62 (vo) rfl rfl rfl rfl (run_pv rfl) ?_
              refine ops_val 63 (i64 (((rcorTo base key a b k).1).length : Int)) rfl rfl rfl rfl (run_len_rd Try.underlying37 (St.rdRow (n := 0) S rfl) rfl) ?_
              refine ops_val 64 (i64 ((((rcorTo base key a b k).1).length : Int) - 1)) rfl rfl rfl rfl (run_wr rfl (by first | omega | (simp only [List.length_append, List.length_cons, List.length_nil, List.length_set]; omega)) (by first | omega | (simp only [List.length_append, List.length_cons, List.length_nil, List.length_set]; omega))) ?_
              refine ops_val 65 (i64 (nextOf base (dayR base k))) rfl rfl rfl rfl (run_pv rfl) ?_
              refine ops_val 66 (i64 ((nextOf base (dayR base k)) - 1)) rfl rfl rfl rfl (run_wr rfl (by first | omega | (simp only [List.length_append, List.length_cons, List.length_nil, List.length_set]; omega)) (by first | omega | (simp only [List.length_append, List.length_cons, List.length_nil, List.length_set]; omega))) ?_
              refine ops_val 67 (.pointer (some ((adr vo).add (((((rcorTo base key a b k).1).length : Int) - 1).toNat * 2)))) rfl rfl rfl rfl (run_index_rdI sl37 (St.rdRow (n := 0) S rfl) rfl rfl (by first | omega | (simp only [List.length_append, List.length_cons, List.length_nil, List.length_set]; omega)) (by first | omega | (simp only [List.length_append, List.length_cons, List.length_nil, List.length_set]; omega))) ?_
              refine ops_val 68 (.pointer (some (((adr vo).add (((((rcorTo base key a b k).1).length : Int) - 1).toNat * 2)).add 1))) rfl rfl rfl rfl (run_fieldAddr fd44_1 rfl) ?_
              refine ops_storeRow (dft := default) (off := 1) (us := [i64 ((nextOf base (dayR base k)) - 1)]) ((((rcorTo base key a b k).1).length : Int) - 1).toNat ({ (((rcorTo base key a b k).1).getD ((((rcorTo base key a b k).1).length : Int) - 1).toNat default) with to := ((nextOf base (dayR base k)) - 1) }) S rfl (Scal.size sc3) rfl rfl rfl rfl (by first | omega | (simp only [List.length_append, List.length_cons, List.length_nil, List.length_set]; omega)) rfl rfl rfl ?_
              clear S; intro w13 S
              replace S : Eng.St w [.row 44 2 vo ((((rcorTo base key a b k).1).set ((((rcorTo base key a b k).1).length : Int) - 1).toNat ({ (((rcorTo base key a b k).1).getD ((((rcorTo base key a b k).1).length : Int) - 1).toNat default) with to := ((nextOf base (dayR base k)) - 1) })).map encStay)] w13 := S
              refine ops_nil ?_
              refine nrm_then ?_
              refine w_seq ?_
              refine w_region ?_
              refine ops_val 69 (.bool ((!decide ((ratOf base key (dayR base k) a).1 = (ratOf base key (dayR base k) b).1)) || (!((ratOf base key (dayR base k) a).2 == (ratOf base key (dayR base k) b).2)))) rfl rfl rfl rfl (run_pv rfl) ?_
              refine ops_val 10 (.bool ((!decide ((ratOf base key (dayR base k) a).1 = (ratOf base key (dayR base k) b).1)) || (!((ratOf base key (dayR base k) a).2 == (ratOf base key (dayR base k) b).2)))) rfl rfl rfl rfl (run_pv rfl) ?_
              refine ops_nil ?_
              refine nrm_then ?_
              refine w_region ?_
              refine ops_val 70 (i64 (nextOf base (dayR base k))) rfl rfl rfl rfl (run_pv rfl) ?_
              refine ops_val 11 (i64 (nextOf base (dayR base k))) rfl rfl rfl rfl (run_pv rfl) ?_
              refine ops_nil ?_
              refine nrm_blk ?_
              refine nrm_then ?_
              have hst : (((rcorTo base key a b k).1).set ((((rcorTo base key a b k).1).length : Int) - 1).toNat ({ (((rcorTo base key a b k).1).getD ((((rcorTo base key a b k).1).length : Int) - 1).toNat default) with to := ((nextOf base (dayR base k)) - 1) })) = (rcorTo base key a b (k + 1)).1 := by simp only [rcorTo, rcorOut, rdiffB, dayR, h1, k2, h2, h5, h7, k12, k13, if_true, if_false, Bool.false_eq_true, reduceIte, Bool.true_and, Bool.and_true, Bool.false_and, Bool.and_false, Bool.not_true, Bool.not_false, Bool.true_or, Bool.false_or, Bool.or_true, Bool.or_false]
              rw [hst] at S
              exact ⟨rfl, (k + 1, vo), ⟨(by first | rfl | exact congrArg i64 (by omega) | exact congrArg Value.bool (by simp only [rcorTo, rdiffB, h1, k2, h2, h5, h7, k12, k13, if_true, if_false, Bool.false_eq_true, reduceIte, Bool.true_and, Bool.and_true, Bool.false_and, Bool.and_false, Bool.not_true, Bool.not_false, Bool.true_or, Bool.false_or, Bool.or_true, Bool.or_false])), (by first | rfl | exact congrArg i64 (by omega) | exact congrArg Value.bool (by simp only [rcorTo, rdiffB, h1, k2, h2, h5, h7, k12, k13, if_true, if_false, Bool.false_eq_true, reduceIte, Bool.true_and, Bool.and_true, Bool.false_and, Bool.and_false, Bool.not_true, Bool.not_false, Bool.true_or, Bool.false_or, Bool.or_true, Bool.or_false])), (by first | rfl | exact congrArg i64 (by omega) | exact congrArg Value.bool (by simp only [rcorTo, rdiffB, h1, k2, h2, h5, h7, k12, k13, if_true, if_false, Bool.false_eq_true, reduceIte, Bool.true_and, Bool.and_true, Bool.false_and, Bool.and_false, Bool.not_true, Bool.not_false, Bool.true_or, Bool.false_or, Bool.or_true, Bool.or_false])), (by first | rfl | exact congrArg i64 (by omega) | exact congrArg Value.bool (by simp only [rcorTo, rdiffB, h1, k2, h2, h5, h7, k12, k13, if_true, if_false, Bool.false_eq_true, reduceIte, Bool.true_and, Bool.and_true, Bool.false_and, Bool.and_false, Bool.not_true, Bool.not_false, Bool.true_or, Bool.false_or, Bool.or_true, Bool.or_false])), (by first | rfl | exact congrArg i64 (by omega) | exact congrArg Value.bool (by simp only [rcorTo, rdiffB, h1, k2, h2, h5, h7, k12, k13, if_true, if_false, Bool.false_eq_true, reduceIte, Bool.true_and, Bool.and_true, Bool.false_and, Bool.and_false, Bool.not_true, Bool.not_false, Bool.true_or, Bool.false_or, Bool.or_true, Bool.or_false])), (by first | rfl | exact congrArg i64 (by omega) | exact congrArg Value.bool (by simp only [rcorTo, rdiffB, h1, k2, h2, h5, h7, k12, k13, if_true, if_false, Bool.false_eq_true, reduceIte, Bool.true_and, Bool.and_true, Bool.false_and, Bool.and_false, Bool.not_true, Bool.not_false, Bool.true_or, Bool.false_or, Bool.or_true, Bool.or_false])), (by first | rfl | exact congrArg i64 (by omega) | exact congrArg Value.bool (by simp only [rcorTo, rdiffB, h1, k2, h2, h5, h7, k12, k13, if_true, if_false, Bool.false_eq_true, reduceIte, Bool.true_and, Bool.and_true, Bool.false_and, Bool.and_false, Bool.not_true, Bool.not_false, Bool.true_or, Bool.false_or, Bool.or_true, Bool.or_false])), trivial⟩, ⟨S, fun m hm => (Nat.lt_succ_iff_lt_or_eq.1 hm).elim (hk m) (fun e => by subst e; assumption), dayR_step base k hkd p2⟩, by dsimp only; omega⟩
            · have p7 := h7; try simp only [decide_eq_true_eq, decide_eq_false_iff_not, Bool.and_eq_true, Bool.or_eq_true, Bool.not_eq_true', Bool.or_eq_false_iff, Bool.not_eq_false', Int.not_lt, Int.not_le, gt_iff_lt, ge_iff_le, Decidable.not_not] at p7
              have k14 : (!decide ((ratOf base key (dayR base k) a).1 = (ratOf base key (dayR base k) b).1)) = false := (Bool.or_eq_false_iff.1 h7).1
              have pk14 := k14; try simp only [decide_eq_true_eq, decide_eq_false_iff_not, Bool.and_eq_true, Bool.or_eq_true, Bool.not_eq_true', Bool.or_eq_false_iff, Bool.not_eq_false', Int.not_lt, Int.not_le, gt_iff_lt, ge_iff_le, Decidable.not_not] at pk14
              have k15 : (!((ratOf base key (dayR base k) a).2 == (ratOf base key (dayR base k) b).2)) = false := (Bool.or_eq_false_iff.1 h7).2
              have pk15 := k15; try simp only [decide_eq_true_eq, decide_eq_false_iff_not, Bool.and_eq_true, Bool.or_eq_true, Bool.not_eq_true', Bool.or_eq_false_iff, Bool.not_eq_false', Int.not_lt, Int.not_le, gt_iff_lt, ge_iff_le, Decidable.not_not] at pk15
              have k16 : (decide ((ratOf base key (dayR base k) a).1 = (ratOf base key (dayR base k) b).1)) = true := (by simpa only [Bool.not_eq_true', Bool.not_eq_false'] using k14)
              have pk16 := k16; try simp only [decide_eq_true_eq, decide_eq_false_iff_not, Bool.and_eq_true, Bool.or_eq_true, Bool.not_eq_true', Bool.or_eq_false_iff, Bool.not_eq_false', Int.not_lt, Int.not_le, gt_iff_lt, ge_iff_le, Decidable.not_not] at pk16
              have k17 : ((ratOf base key (dayR base k) a).2 == (ratOf base key (dayR base k) b).2) = true := (by simpa only [Bool.not_eq_true', Bool.not_eq_false'] using k15)
              have pk17 := k17; try simp only [decide_eq_true_eq, decide_eq_false_iff_not, Bool.and_eq_true, Bool.or_eq_true, Bool.not_eq_true', Bool.or_eq_false_iff, Bool.not_eq_false', Int.not_lt, Int.not_le, gt_iff_lt, ge_iff_le, Decidable.not_not] at pk17
              refine w_skip ?_
              refine nrm_then ?_
              refine w_seq ?_
              refine w_region ?_
              refine ops_val 69 (.bool ((!decide ((ratOf base key (dayR base k) a).1 = (ratOf base key (dayR base k) b).1)) || (!((ratOf base key (dayR base k) a).2 == (ratOf base key (dayR base k) b).2)))) rfl rfl rfl rfl (run_pv rfl) ?_
              refine ops_val 10 (.bool ((!decide ((ratOf base key (dayR base k) a).1 = (ratOf base key (dayR base k) b).1)) || (!((ratOf base key (dayR base k) a).2 == (ratOf base key (dayR base k) b).2)))) rfl rfl rfl rfl (run_pv rfl) ?_
              refine ops_nil ?_
              refine nrm_then ?_
              refine w_region ?_
              refine ops_val 70 (i64 (nextOf base (dayR base k))) rfl rfl rfl rfl (run_pv rfl) ?_
              refine ops_val 11 (i64 (nextOf base (dayR base k))) rfl rfl rfl rfl (run_pv rfl) ?_
              refine ops_nil ?_
              refine nrm_blk ?_
              refine nrm_then ?_
              have hst : (rcorTo base key a b k).1 = (rcorTo base key a b (k + 1)).1 := by simp only [rcorTo, rcorOut, rdiffB, dayR, h1, k2, h2, h5, h7, k14, k15, k16, k17, if_true, if_false, Bool.false_eq_true, reduceIte, Bool.true_and, Bool.and_true, Bool.false_and, Bool.and_false, Bool.not_true, Bool.not_false, Bool.true_or, Bool.false_or, Bool.or_true, Bool.or_false]
              rw [hst] at S
              exact ⟨rfl, (k + 1, vo), ⟨(by first | rfl | exact congrArg i64 (by omega) | exact congrArg Value.bool (by simp only [rcorTo, rdiffB, h1, k2, h2, h5, h7, k14, k15, k16, k17, if_true, if_false, Bool.false_eq_true, reduceIte, Bool.true_and, Bool.and_true, Bool.false_and, Bool.and_false, Bool.not_true, Bool.not_false, Bool.true_or, Bool.false_or, Bool.or_true, Bool.or_false])), (by first | rfl | exact congrArg i64 (by omega) | exact congrArg Value.bool (by simp only [rcorTo, rdiffB, h1, k2, h2, h5, h7, k14, k15, k16, k17, if_true, if_false, Bool.false_eq_true, reduceIte, Bool.true_and, Bool.and_true, Bool.false_and, Bool.and_false, Bool.not_true, Bool.not_false, Bool.true_or, Bool.false_or, Bool.or_true, Bool.or_false])), (by first | rfl | exact congrArg i64 (by omega) | exact congrArg Value.bool (by simp only [rcorTo, rdiffB, h1, k2, h2, h5, h7, k14, k15, k16, k17, if_true, if_false, Bool.false_eq_true, reduceIte, Bool.true_and, Bool.and_true, Bool.false_and, Bool.and_false, Bool.not_true, Bool.not_false, Bool.true_or, Bool.false_or, Bool.or_true, Bool.or_false])), (by first | rfl | exact congrArg i64 (by omega) | exact congrArg Value.bool (by simp only [rcorTo, rdiffB, h1, k2, h2, h5, h7, k14, k15, k16, k17, if_true, if_false, Bool.false_eq_true, reduceIte, Bool.true_and, Bool.and_true, Bool.false_and, Bool.and_false, Bool.not_true, Bool.not_false, Bool.true_or, Bool.false_or, Bool.or_true, Bool.or_false])), (by first | rfl | exact congrArg i64 (by omega) | exact congrArg Value.bool (by simp only [rcorTo, rdiffB, h1, k2, h2, h5, h7, k14, k15, k16, k17, if_true, if_false, Bool.false_eq_true, reduceIte, Bool.true_and, Bool.and_true, Bool.false_and, Bool.and_false, Bool.not_true, Bool.not_false, Bool.true_or, Bool.false_or, Bool.or_true, Bool.or_false])), (by first | rfl | exact congrArg i64 (by omega) | exact congrArg Value.bool (by simp only [rcorTo, rdiffB, h1, k2, h2, h5, h7, k14, k15, k16, k17, if_true, if_false, Bool.false_eq_true, reduceIte, Bool.true_and, Bool.and_true, Bool.false_and, Bool.and_false, Bool.not_true, Bool.not_false, Bool.true_or, Bool.false_or, Bool.or_true, Bool.or_false])), (by first | rfl | exact congrArg i64 (by omega) | exact congrArg Value.bool (by simp only [rcorTo, rdiffB, h1, k2, h2, h5, h7, k14, k15, k16, k17, if_true, if_false, Bool.false_eq_true, reduceIte, Bool.true_and, Bool.and_true, Bool.false_and, Bool.and_false, Bool.not_true, Bool.not_false, Bool.true_or, Bool.false_or, Bool.or_true, Bool.or_false])), trivial⟩, ⟨S, fun m hm => (Nat.lt_succ_iff_lt_or_eq.1 hm).elim (hk m) (fun e => by subst e; assumption), dayR_step base k hkd p2⟩, by dsimp only; omega⟩
    · have p2 := h2; try simp only [decide_eq_true_eq, decide_eq_false_iff_not, Bool.and_eq_true, Bool.or_eq_true, Bool.not_eq_true', Bool.or_eq_false_iff, Bool.not_eq_false', Int.not_lt, Int.not_le, gt_iff_lt, ge_iff_le, Decidable.not_not] at p2
      refine w_exit ?_
      refine exit_then ?_
      refine exit_then ?_
      refine exit_blk ?_
      refine nrm_then ?_
      refine w_seq ?_
      refine w_region ?_
      refine ops_val 71 (vo) rfl rfl rfl rfl (run_pv rfl) ?_
      refine ops_val 8 (vo) rfl rfl rfl rfl (run_pv rfl) ?_
      refine ops_nil ?_
      refine nrm_then ?_
      refine w_ret ?_
      have hres : (rcorTo base key a b k).1 = (rcorOf base key a b) := by simp only [rcorOf, h1, k2, h2, rEnd_eq base k hk p2, if_true, if_false, Bool.false_eq_true, reduceIte, Bool.true_and, Bool.and_true, Bool.false_and, Bool.and_false, Bool.not_true, Bool.not_false, Bool.true_or, Bool.false_or, Bool.or_true, Bool.or_false]
      rw [hres] at S
      exact fin_row (n := 0) rfl S rfl rfl
end
