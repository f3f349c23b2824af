/- ReopenExactly is true. -/
import Derived.Test.YtenljipeggacjaaL
set_option linter.all false
set_option maxRecDepth 100000
namespace Go.Proofs.Ytenljipeggacjaa
open Go Go.RowKit Go.Eng Go.EV
variable [Fuel]
theorem okF_names {l : List Formula} (h : ∀ f ∈ l, okF f) : ∀ f ∈ l, okN f := fun f hf => (h f hf).names
theorem exactly_L2 {base : List Fact} {known : Int} {y3 : List Formula × Bool} {g : Formula} {i : Nat} (h : base.length < 2 ^ 62) (hi : i < y3.1.length) (e : Int) (names : List (List UInt8)) (hn : names.length ≤ 1000000)
    (hg : g.Asked = names.map fun s => lookF base s (y3.1.getD i default).Day known) :
    s_greenbeltlaw45_ReopenExactly_L2 base known y3 (g, e) (i : Int) KK 0 = some (.inr ()) := by
  have hl : g.Asked.length = names.length := by rw [hg, List.length_map]
  have key := all_loop (L := s_greenbeltlaw45_ReopenExactly_L2 base known y3 (g, e) (i : Int)) (len := g.Asked.length) (r := .inr ()) (fun K k hk => by
    rw [s_greenbeltlaw45_ReopenExactly_L2, decide_eq_true (by simp only; omega), cond_true, idx_of hk, idx_of hi]
    simp only [Option.bind_some, s_At h]
    rw [w64_id (by omega) (by omega), show ((k : Int) + 1) = ((k + 1 : Nat) : Int) by omega]
    have hx : g.Asked.getD k default = lookF base (names.getD k default) (y3.1.getD i default).Day known := by
      rw [hg, getD_map _ (by omega)]
    rw [hx]
    simp only [lookF, decide_true, Bool.true_and, beq_self_eq_true, Bool.not_true, cond_false]) (fun K => by
    rw [s_greenbeltlaw45_ReopenExactly_L2, decide_eq_false (by simp only; omega), cond_false]) g.Asked.length 0 KK (by omega) (by have := KK_big; omega)
  exact key
theorem exactly_L3 {l : List Int} (hp : l.Pairwise (· < ·)) (hl : l.length ≤ 1000) : s_greenbeltlaw45_ReopenExactly_L3 l KK 1 = some (.inr ()) := by
  by_cases h0 : l.length = 0
  · obtain ⟨k, hk⟩ := KK_succ
    rw [hk, s_greenbeltlaw45_ReopenExactly_L3, decide_eq_false (by omega), cond_false]
  · have key := all_loop (L := fun K i => s_greenbeltlaw45_ReopenExactly_L3 l K (i + 1)) (len := l.length - 1) (r := .inr ()) (fun K k hk => by
      show s_greenbeltlaw45_ReopenExactly_L3 l (K + 1) ((k : Int) + 1) = s_greenbeltlaw45_ReopenExactly_L3 l K (((k + 1 : Nat) : Int) + 1)
      rw [s_greenbeltlaw45_ReopenExactly_L3, decide_eq_true (by omega), cond_true, w64_id (by omega) (by omega), w64_id (by omega) (by omega), show (k : Int) + 1 - 1 = (k : Int) by omega, show (k : Int) + 1 = ((k + 1 : Nat) : Int) by omega, idx_of (i := k) (by omega), idx_of (i := k + 1) (by omega)]
      simp only [Option.bind_some]
      have hlt : l.getD k default < l.getD (k + 1) default := by
        have := List.pairwise_iff_getElem.1 hp k (k + 1) (by omega) (by omega) (by omega)
        simpa [List.getD_eq_getElem?_getD, List.getElem?_eq_getElem (show k < l.length by omega), List.getElem?_eq_getElem (show k + 1 < l.length by omega)] using this
      rw [decide_eq_false (by omega)]; rfl) (fun K => by
      show s_greenbeltlaw45_ReopenExactly_L3 l (K + 1) (((l.length - 1 : Nat) : Int) + 1) = _
      rw [s_greenbeltlaw45_ReopenExactly_L3, decide_eq_false (by omega), cond_false]) (l.length - 1) 0 KK (by omega) (by have := KK_big; omega)
    exact key
theorem exactly_L1 {base : List Fact} {l : List Formula} {known : Int} (h : base.length < 2 ^ 62) (hl : l.length ≤ 1000) (hk : ∀ f ∈ l, okN f) (hg : ∀ f ∈ l, goodB base f = true) (h0 : 0 ≤ known) (h1 : known ≤ 1073741824) :
    s_greenbeltlaw45_ReopenExactly_L1 base known (l.map (makeF base), true) (whichV (outB base known) 0 (l.map (makeF base))) (whichV (touchB base known) 0 (l.map (makeF base))) KK 0 = some (.inr ()) := by
  have l1 := whichV_len (outB base known) (l.map (makeF base)) 0
  have l2 := whichV_len (touchB base known) (l.map (makeF base)) 0
  rw [List.length_map] at l1 l2
  have key := all_loop (L := s_greenbeltlaw45_ReopenExactly_L1 base known (l.map (makeF base), true) (whichV (outB base known) 0 (l.map (makeF base))) (whichV (touchB base known) 0 (l.map (makeF base)))) (len := l.length) (r := .inr ()) (fun K i hi => by
    have hm := getD_mem hi
    obtain ⟨hb, hr⟩ := good_iff.1 (hg _ hm)
    have hlm : i < (l.map (makeF base)).length := by rw [List.length_map]; exact hi
    have hx : (l.map (makeF base)).getD i default = makeF base (l.getD i default) := getD_map _ hi
    have hr' : RightB (Formula.mk (makeF base (l.getD i default)).Id (makeF base (l.getD i default)).Day known (makeF base (l.getD i default)).Body (makeF base (l.getD i default)).Result (makeF base (l.getD i default)).Asked) = true := right_known (f := makeF base (l.getD i default)) hr h0 h1
    have hok : okN (Formula.mk (makeF base (l.getD i default)).Id (makeF base (l.getD i default)).Day known (makeF base (l.getD i default)).Body (makeF base (l.getD i default)).Result (makeF base (l.getD i default)).Asked) := fun k hk' => hk _ hm k hk'
    have e1 := whichV_has (outB base known) hlm
    have e2 := whichV_has (touchB base known) hlm
    rw [hx] at e1 e2
    rw [out_make base base known hr] at e1
    rw [touch_make] at e2
    have hn : (namesV (l.getD i default).Body).length ≤ 1000000 := by
      have := names_few (RightB_ex hr); have := len_namesV (l.getD i default).Body; omega
    have la : ∀ kn, (askF base (l.getD i default) kn).length < 2 ^ 62 := fun kn => by unfold askF; rw [List.length_map]; omega
    rw [s_greenbeltlaw45_ReopenExactly_L1, decide_eq_true (by simp only; omega), cond_true, idx_of hlm, Option.bind_some, hx, s_Make h hok, if_pos ⟨hb, hr'⟩, Option.bind_some]
    simp only [decide_true, Bool.not_true, cond_false]
    rw [s_has (by omega), s_has (by omega), Option.bind_some, Option.bind_some, e1, e2]
    generalize hgdef : makeF base (Formula.mk (makeF base (l.getD i default)).Id (makeF base (l.getD i default)).Day known (makeF base (l.getD i default)).Body (makeF base (l.getD i default)).Result (makeF base (l.getD i default)).Asked) = g
    have ga : g.Asked = askF base (l.getD i default) known := by rw [← hgdef]; rfl
    have gr : g.Result = valE (l.getD i default).Body (askF base (l.getD i default) known) := by rw [← hgdef]; rfl
    have ra : (makeF base (l.getD i default)).Result = valE (l.getD i default).Body (askF base (l.getD i default) (l.getD i default).Known) := rfl
    have rb : (makeF base (l.getD i default)).Asked = askF base (l.getD i default) (l.getD i default).Known := rfl
    have L2 := exactly_L2 (y3 := (l.map (makeF base), true)) (g := g) (known := known) h hlm 0 _ hn (by rw [ga]; show askF base (l.getD i default) known = _; rw [show ((l.map (makeF base), true) : List Formula × Bool).1.getD i default = makeF base (l.getD i default) from hx]; rfl)
    rw [gr, ra, ga]
    simp only [Option.bind_some]
    rw [rb, s_Same (la _), L2, w64_id (by omega) (by omega), show ((i : Int) + 1) = ((i + 1 : Nat) : Int) by omega]
    by_cases ha : askF base (l.getD i default) known = askF base (l.getD i default) (l.getD i default).Known
    · have hv : valE (l.getD i default).Body (askF base (l.getD i default) known) = valE (l.getD i default).Body (askF base (l.getD i default) (l.getD i default).Known) := by rw [ha]
      rw [decide_eq_true ha, decide_eq_true hv]; rfl
    · rw [decide_eq_false ha]
      generalize decide (valE (l.getD i default).Body (askF base (l.getD i default) known) = valE (l.getD i default).Body (askF base (l.getD i default) (l.getD i default).Known)) = b
      cases b <;> rfl) (fun K => by
    rw [s_greenbeltlaw45_ReopenExactly_L1, decide_eq_false (by simp), cond_false]) l.length 0 KK (by omega) (by have := KK_big; omega)
  exact key
theorem exactly_true {base : List Fact} {l : List Formula} (known : Int) (hf : ∀ f ∈ l, okF f) : s_greenbeltlaw45_ReopenExactly base l known = some true := by
  obtain ⟨b, hb, hfew⟩ := few_ex base hf
  unfold s_greenbeltlaw45_ReopenExactly
  rw [small_true, hb]
  simp only [Option.bind_some]
  cases b with
  | false => rfl
  | true =>
    obtain ⟨hbl, hll⟩ := hfew rfl
    by_cases h0 : known < 0
    · rw [decide_eq_true h0]; rfl
    by_cases h1 : known > 1073741824
    · rw [decide_eq_false h0, decide_eq_true h1]; rfl
    have hk := okF_names hf
    rw [decide_eq_false h0, decide_eq_false h1, s_made (by omega) (by omega) hk]
    by_cases hg : l.all (goodB base) = true
    · rw [if_pos hg]
      have hg' := List.all_eq_true.1 hg
      have hkm : ∀ f ∈ l.map (makeF base), okN f := fun f hf => by
        obtain ⟨x, hx, rfl⟩ := List.mem_map.1 hf; exact hk x hx
      have ham : ∀ f ∈ l.map (makeF base), f.Asked.length ≤ 1000000 := fun f hf => by
        obtain ⟨x, hx, rfl⟩ := List.mem_map.1 hf; exact ask_len (RightB_ex (good_iff.1 (hg' x hx)).2)
      simp only [Bool.not_true, cond_false, Option.bind_some]
      rw [s_Reopened (by omega) (by rw [List.length_map]; omega) hkm, s_Touched (by omega) (by rw [List.length_map]; omega) ham]
      simp only [Option.bind_some]
      by_cases hr : rightB base = true
      · rw [if_pos hr, exactly_L1 (by omega) (by omega) hk hg' (by omega) (by omega)]
        simp only [Option.bind_some]
        rw [exactly_L3 (whichV_lt _ _ _) (by have := whichV_len (outB base known) (l.map (makeF base)) 0; rw [List.length_map] at this; omega)]
        rfl
      · cases l with
        | nil =>
          obtain ⟨k, hkk⟩ := KK_succ
          rw [if_neg hr, hkk]; rfl
        | cons f l => exact absurd (good_iff.1 (hg' f (List.mem_cons_self ..))).1 hr
    · rw [if_neg hg]; rfl
#print axioms exactly_true
end Go.Proofs.Ytenljipeggacjaa
