/- ReopenPut is true. -/
import Derived.Test.YtenljipeggacjaaM
set_option linter.all false
set_option maxRecDepth 100000
namespace Go.Proofs.Ytenljipeggacjaa
open Go Go.RowKit Go.Eng Go.EV
variable [Fuel]
theorem s_Clone {base : List Fact} (h : base.length ≤ 5000) : s_slices_Clone base = some base := by
  unfold s_slices_Clone nd
  rw [grd_of (by omega), Option.bind_some]
  split
  · rename_i h0
    have := List.length_eq_zero_iff.1 h0
    subst this
    rw [if_pos rfl]
  · rfl
theorem put_ex {base : List Fact} {x : Fact} (h : base.length ≤ 29) : ∃ r, s_fact_Put base x = some r ∧ (r.2 = 0 → r.1 = base ++ [x] ∧ rightB base = true ∧ validB x = true ∧ (0 < base.length → (base.getD (base.length - 1) default).Known ≤ x.Known)) := by
  unfold s_fact_Put
  rw [s_Right (by omega), s_valid, Option.bind_some]
  cases hb : rightB base with
  | false => exact ⟨_, rfl, fun h => by cases h⟩
  | true =>
    cases hv : validB x with
    | false => exact ⟨_, rfl, fun h => by cases h⟩
    | true =>
      rw [s_Clone (by omega)]
      simp only [Option.bind_some, Bool.not_true, cond_false]
      rw [grd_of (show (base ++ [x]).length * 48 ≤ 140737488355328 by simp; omega), decide_eq_false (show ¬ (base.length : Int) = 5000 by omega)]
      by_cases h0 : 0 < base.length
      · rw [decide_eq_true (show (base.length : Int) > 0 by omega), w64_id (by omega) (by omega), show (base.length : Int) - 1 = ((base.length - 1 : Nat) : Int) by omega, idx_of (by omega)]
        by_cases hk : x.Known < (base.getD (base.length - 1) default).Known
        · simp only [cond_true, Option.bind_some]
          rw [decide_eq_true hk]
          exact ⟨_, rfl, fun h => by cases h⟩
        · simp only [cond_true, Option.bind_some]
          rw [decide_eq_false hk]
          exact ⟨_, rfl, fun _ => ⟨rfl, trivial, trivial, fun _ => by omega⟩⟩
      · rw [decide_eq_false (show ¬ (base.length : Int) > 0 by omega)]
        exact ⟨_, rfl, fun _ => ⟨rfl, trivial, trivial, fun h => absurd h h0⟩⟩
/-- The day is one of the fact's days, and its key is asked for. -/
def concB (x : Fact) (f : Formula) : Bool := (decide (f.Day ≥ x.From) && (decide (x.Until = 0) || decide (f.Day < x.Until))) && decide (x.Key ∈ namesL f.Body)
theorem RightB_day {f : Formula} (h : RightB f = true) : 0 ≤ f.Day ∧ f.Day ≤ 1073741824 := by
  unfold RightB at h
  simp only [Bool.and_eq_true, decide_eq_true_eq] at h
  omega
theorem ask_same {base : List Fact} {x : Fact} {f : Formula} {known : Int} (hb : rightB base = true) (hb' : rightB (base ++ [x]) = true) (hr : RightB f = true) (h : concB x f = false ∨ known < x.Known) : askF (base ++ [x]) f known = askF base f known := by
  unfold askF
  refine List.map_congr_left fun s hs => ?_
  have hd := RightB_day hr
  unfold lookF
  rw [atF_app hb hb' ?_]
  rintro ⟨h1, h2, h3, h4⟩
  rcases h with h | h
  · unfold concB at h
    have h5 : x.Key ∈ namesL f.Body := by rw [h1]; exact mem_namesV.1 hs
    have h6 : x.Until = 0 ∨ f.Day < x.Until := by
      unfold endV at h4
      split at h4
      · rename_i h0; exact .inl h0
      · exact .inr h4
    rw [decide_eq_true h5, decide_eq_true (show f.Day ≥ x.From from h3), Bool.true_and, Bool.and_true] at h
    rcases h6 with h6 | h6
    · rw [decide_eq_true h6] at h; cases h
    · rw [decide_eq_true h6, Bool.or_true] at h; cases h
  · omega
theorem holds_make {base base' : List Fact} {f : Formula} (hb' : rightB base' = true) (hr : RightB f = true) (h : askF base' f f.Known = askF base f f.Known) : holdsB base' (makeF base f) = true := by
  unfold holdsB
  have h1 : (makeF base' (makeF base f)).Asked = askF base' f f.Known := rfl
  have h2 : (makeF base' (makeF base f)).Result = valE f.Body (askF base' f f.Known) := rfl
  have h3 : (makeF base f).Asked = askF base f f.Known := rfl
  have h4 : (makeF base f).Result = valE f.Body (askF base f f.Known) := rfl
  rw [h1, h2, h3, h4, h, hb', show RightB (makeF base f) = true from hr, decide_eq_true rfl, decide_eq_true rfl]; rfl
theorem put_L1 {base : List Fact} {x : Fact} {l : List Formula} {known : Int} (hbl : base.length ≤ 29) (hl : l.length ≤ 1000) (hk : ∀ f ∈ l, okN f) (hg : ∀ f ∈ l, goodB base f = true) (hb' : rightB (base ++ [x]) = true) :
    s_greenbeltlaw45_ReopenPut_L1 x (base ++ [x], 0) (l.map (makeF base), true) (whichV (touchB base known) 0 (l.map (makeF base))) (whichV (touchB (base ++ [x]) known) 0 (l.map (makeF base))) KK 0 = some (.inr ()) := by
  have l1 := whichV_len (touchB base known) (l.map (makeF base)) 0
  have l2 := whichV_len (touchB (base ++ [x]) known) (l.map (makeF base)) 0
  rw [List.length_map] at l1 l2
  have key := all_loop (L := s_greenbeltlaw45_ReopenPut_L1 x (base ++ [x], 0) (l.map (makeF base), true) (whichV (touchB base known) 0 (l.map (makeF base))) (whichV (touchB (base ++ [x]) known) 0 (l.map (makeF base)))) (len := l.length) (r := .inr ()) (fun K i hi => by
    have hm := getD_mem hi
    obtain ⟨hb, hr⟩ := good_iff.1 (hg _ hm)
    have hlm : i < (l.map (makeF base)).length := by rw [List.length_map]; exact hi
    have hx : (l.map (makeF base)).getD i default = makeF base (l.getD i default) := getD_map _ hi
    have hkm := hk _ hm
    have e1 := whichV_has (touchB base known) hlm
    have e2 := whichV_has (touchB (base ++ [x]) known) hlm
    have hi0 := idx_of hlm
    rw [hx] at e1 e2 hi0
    rw [touch_make] at e1 e2
    generalize l.getD i default = f at *
    have hok : okN (makeF base f) := hkm
    have hN : s_greenbeltlaw45_names (makeF base f).Body x.Key = some (decide (x.Key ∈ namesL f.Body)) := s_hasName (names_few (RightB_ex hr)) hkm
    rw [s_greenbeltlaw45_ReopenPut_L1, decide_eq_true (by simp only; omega), cond_true]
    simp only
    rw [hi0]
    simp only [Option.bind_some]
    rw [hN, s_has (by omega), s_has (by omega), e1, e2, s_Holds (by simp; omega) hok, w64_id (by omega) (by omega), show ((i : Int) + 1) = ((i + 1 : Nat) : Int) by omega]
    have hA : ((decide (f.Day ≥ x.From) && (decide (x.Until = 0) || decide (f.Day < x.Until))) && decide (x.Key ∈ namesL f.Body)) = false → decide (askF (base ++ [x]) f known = askF base f f.Known) = decide (askF base f known = askF base f f.Known) := fun hc => by rw [ask_same hb hb' hr (.inl hc)]
    have hH : ((decide (f.Day ≥ x.From) && (decide (x.Until = 0) || decide (f.Day < x.Until))) && decide (x.Key ∈ namesL f.Body)) = false → holdsB (base ++ [x]) (makeF base f) = true := fun hc => holds_make hb' hr (ask_same hb hb' hr (.inl hc))
    have hK : decide (f.Known < x.Known) = true → holdsB (base ++ [x]) (makeF base f) = true := fun hc => holds_make hb' hr (ask_same hb hb' hr (.inr (of_decide_eq_true hc)))
    simp only [show (makeF base f).Day = f.Day from rfl, show (makeF base f).Known = f.Known from rfl]
    clear e1 e2
    generalize decide (f.Day ≥ x.From) = d1 at *
    generalize decide (x.Until = 0) = d2 at *
    generalize decide (f.Day < x.Until) = d3 at *
    generalize decide (x.Key ∈ namesL f.Body) = nm at *
    generalize decide (f.Known < x.Known) = kk at *
    generalize holdsB (base ++ [x]) (makeF base f) = hh at *
    generalize decide (askF (base ++ [x]) f known = askF base f f.Known) = ta at *
    generalize decide (askF base f known = askF base f f.Known) = tb at *
    cases d1 <;> cases d2 <;> cases d3 <;> cases nm <;> first
      | (obtain rfl := hA rfl; obtain rfl := hH rfl; cases ta <;> cases kk <;> rfl)
      | (cases kk
         · cases ta <;> cases tb <;> rfl
         · obtain rfl := hK rfl; cases ta <;> cases tb <;> rfl)) (fun K => by
    rw [s_greenbeltlaw45_ReopenPut_L1, decide_eq_false (by simp), cond_false]) l.length 0 KK (by omega) (by have := KK_big; omega)
  exact key
theorem put_true {base : List Fact} {l : List Formula} (x : Fact) (known : Int) (hf : ∀ f ∈ l, okF f) : s_greenbeltlaw45_ReopenPut base l x known = some true := by
  obtain ⟨b, hb, hfew⟩ := few_ex base hf
  unfold s_greenbeltlaw45_ReopenPut
  rw [small_true, hb]
  simp only [Option.bind_some]
  cases b with
  | false => rfl
  | true =>
    obtain ⟨hbl, hll⟩ := hfew rfl
    by_cases h29 : base.length ≤ 29
    · obtain ⟨r, hr, hput⟩ := put_ex (x := x) h29
      have hk := okF_names hf
      rw [decide_eq_false (show ¬ (base.length : Int) > 29 by omega), hr, s_made (by omega) (by omega) hk]
      by_cases h0 : r.2 = 0
      · obtain ⟨h1, hrb, hv, hlast⟩ := hput h0
        obtain ⟨r1, r2⟩ := r
        simp only at h0 h1
        subst h0; subst h1
        have hb' := rightB_app hrb hv hlast (by omega)
        have hlb : (base ++ [x]).length < 2 ^ 62 := by simp; omega
        by_cases hg : l.all (goodB base) = true
        · rw [if_pos hg]
          have hg' := List.all_eq_true.1 hg
          have hkm : ∀ f ∈ l.map (makeF base), okN f := fun f hf => by
            obtain ⟨x, hx, rfl⟩ := List.mem_map.1 hf; exact hk x hx
          have ham : ∀ f ∈ l.map (makeF base), f.Asked.length ≤ 1000000 := fun f hf => by
            obtain ⟨x, hx, rfl⟩ := List.mem_map.1 hf; exact ask_len (RightB_ex (good_iff.1 (hg' x hx)).2)
          have hl1 : (l.map (makeF base)).length = l.length := List.length_map ..
          have w1 := whichV_len (touchB base known) (l.map (makeF base)) 0
          have w2 := whichV_len (outB base known) (l.map (makeF base)) 0
          simp only [decide_true, Bool.not_true, cond_false, Option.bind_some]
          rw [s_Touched (by omega) (by omega) ham, s_Touched hlb (by omega) ham, s_Reopened (by omega) (by omega) hkm, s_Reopened hlb (by omega) hkm, if_pos hrb, if_pos hb']
          simp only [Option.bind_some]
          rw [put_L1 h29 (by omega) hk hg' hb', s_Ints (by omega), s_Ints (by omega)]
          by_cases hkn : known < x.Known
          · have t1 : whichV (touchB base known) 0 (l.map (makeF base)) = whichV (touchB (base ++ [x]) known) 0 (l.map (makeF base)) := whichV_congr fun f hf => by
              obtain ⟨y, hy, rfl⟩ := List.mem_map.1 hf
              have hry := (good_iff.1 (hg' y hy)).2
              rw [touch_make, touch_make, ask_same hrb hb' hry (.inr hkn)]
            have t2 : whichV (outB base known) 0 (l.map (makeF base)) = whichV (outB (base ++ [x]) known) 0 (l.map (makeF base)) := whichV_congr fun f hf => by
              obtain ⟨y, hy, rfl⟩ := List.mem_map.1 hf
              have hry := (good_iff.1 (hg' y hy)).2
              rw [out_make base base known hry, out_make base (base ++ [x]) known hry, ask_same hrb hb' hry (.inr hkn)]
            rw [decide_eq_true hkn, decide_eq_true t1, decide_eq_true t2]; rfl
          · rw [decide_eq_false hkn]; rfl
        · rw [if_neg hg]; rfl
      · simp only [Bool.not_true, cond_false, Option.bind_some]
        rw [decide_eq_false h0]; rfl
    · rw [decide_eq_true (show (base.length : Int) > 29 by omega)]; rfl
#print axioms put_true
end Go.Proofs.Ytenljipeggacjaa
