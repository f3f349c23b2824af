/- ReopenAgain is true. -/
import Derived.Test.YtenljipeggacjaaM
set_option linter.all false
set_option maxRecDepth 100000
namespace Go.Proofs.Ytenljipeggacjaa
open Go Go.RowKit Go.Eng Go.EV
variable [Fuel]
theorem again_loop {α β : Type} [Inhabited α] {R : Type} {L : Nat → Int × List β × List Int × List Int → Option (R ⊕ (List β × List Int × List Int))} {m : List α} (g : α → β) (p q : α → Bool)
    (heq : ∀ K (i : Nat) a b c, i < m.length → a.length ≤ i → b.length ≤ i → c.length ≤ i → L (K + 1) ((i : Int), a, b, c) = L K (((i + 1 : Nat) : Int), a ++ [g (m.getD i default)], (if p (m.getD i default) then b ++ [(i : Int)] else b), (if q (m.getD i default) then c ++ [(i : Int)] else c)))
    (hend : ∀ K a b c, L (K + 1) ((m.length : Int), a, b, c) = some (.inr (a, b, c))) :
    ∀ (n i K : Nat) (a : List β) (b c : List Int), i + n = m.length → n < K → a.length ≤ i → b.length ≤ i → c.length ≤ i → L K ((i : Int), a, b, c) = some (.inr (a ++ (m.drop i).map g, b ++ whichV p i (m.drop i), c ++ whichV q i (m.drop i)))
  | 0, i, K, a, b, c, h, hK, _, _, _ => by
    obtain ⟨K, rfl⟩ : ∃ K', K = K' + 1 := ⟨K - 1, by omega⟩
    rw [show i = m.length by omega, hend, List.drop_length]
    simp [whichV]
  | n + 1, i, K, a, b, c, h, hK, ha, hb, hc => by
    obtain ⟨K, rfl⟩ : ∃ K', K = K' + 1 := ⟨K - 1, by omega⟩
    have hl : ∀ (d : Bool) (x : List Int), x.length ≤ i → (if d then x ++ [(i : Int)] else x).length ≤ i + 1 := fun d x hx => by
      cases d
      · simp; omega
      · simp; omega
    rw [heq K i a b c (by omega) ha hb hc, drop_cons (show i < m.length by omega), again_loop g p q heq hend n (i + 1) K _ _ _ (by omega) (by omega) (by simp; omega) (hl _ _ hb) (hl _ _ hc), whichV, whichV, show (((i + 1 : Nat) : Int)) = (i : Int) + 1 by omega, List.map_cons, List.append_assoc]
    cases p (m.getD i default) <;> cases q (m.getD i default) <;> simp
theorem cut_one {α : Type} [Inhabited α] {l : List α} {i : Nat} (h : i < l.length) (hl : l.length ≤ 1000) : cut l (i : Int) (w64 ((i : Int) + 1)) = some [l.getD i default] := by
  rw [w64_id (by omega) (by omega)]
  unfold cut
  rw [if_pos ⟨by omega, by omega, by omega⟩]
  simp only [Int.toNat_natCast]
  rw [show ((i : Int) + 1).toNat = i + 1 by omega]
  congr 1
  apply List.ext_getElem
  · simp; omega
  · intro n h1 h2
    have : n = 0 := by simp at h2; omega
    subst this
    simp [List.getD_eq_getElem?_getD, List.getElem?_eq_getElem h]
def nowF (base : List Fact) (known : Int) (f : Formula) : Formula := makeF base (Formula.mk f.Id f.Day known f.Body f.Result f.Asked)
theorem again_L1 {base : List Fact} {l : List Formula} {known : Int} (h : base.length < 2 ^ 62) (hl : l.length ≤ 1000) (hk : ∀ f ∈ l, okN f) (hg : ∀ f ∈ l, goodB base f = true) (h0 : 0 ≤ known) (h1 : known ≤ 1073741824) :
    s_greenbeltlaw45_ReopenAgain_L1 base known (l.map (makeF base), true) KK (0, [], [], []) = some (.inr ((l.map (makeF base)).map (nowF base known), whichV (touchB base known) 0 (l.map (makeF base)), whichV (outB base known) 0 (l.map (makeF base)))) := by
  have key := again_loop (L := s_greenbeltlaw45_ReopenAgain_L1 base known (l.map (makeF base), true)) (m := l.map (makeF base)) (nowF base known) (touchB base known) (outB base known) (fun K i a b c hi ha hb hc => by
    have hil : i < l.length := by rw [List.length_map] at hi; exact hi
    have hm := getD_mem hil
    obtain ⟨hb', hr⟩ := good_iff.1 (hg _ hm)
    have hx : (l.map (makeF base)).getD i default = makeF base (l.getD i default) := getD_map _ hil
    have hlm : (l.map (makeF base)).length ≤ 1000 := by rw [List.length_map]; exact hl
    have hi0 := idx_of hi
    have hcut := cut_one hi hlm
    obtain ⟨y, hy⟩ : ∃ y, (l.map (makeF base)).getD i default = y := ⟨_, rfl⟩
    rw [hy] at hx hi0 hcut
    rw [hy]
    have hr' : RightB (Formula.mk y.Id y.Day known y.Body y.Result y.Asked) = true := right_known (f := y) (by rw [hx]; exact hr) h0 h1
    have hok : okN (Formula.mk y.Id y.Day known y.Body y.Result y.Asked) := fun k hk' => hk _ hm k (by rw [hx] at hk'; exact hk')
    have hokn : okN (nowF base known y) := hok
    have hoky : okN y := hok
    have hrn : RightB (nowF base known y) = true := hr'
    have hex : exRight y.Body := RightB_ex (f := Formula.mk y.Id y.Day known y.Body y.Result y.Asked) hr'
    have hay : y.Asked.length ≤ 1000000 := by rw [hx]; exact ask_len (RightB_ex hr)
    have han : (nowF base known y).Asked.length ≤ 1000000 := ask_len (f := Formula.mk y.Id y.Day known y.Body y.Result y.Asked) hex
    have hh : holdsB base (nowF base known y) = true := by
      unfold holdsB
      rw [hb', hrn, Bool.true_and, Bool.true_and]
      have : makeF base (nowF base known y) = nowF base known y := rfl
      rw [this, decide_eq_true rfl, decide_eq_true rfl]; rfl
    have hs : staleF base (nowF base known y).Asked known = [] := (stale_nil' base base (Formula.mk y.Id y.Day known y.Body y.Result y.Asked) known known).2 rfl
    rw [s_greenbeltlaw45_ReopenAgain_L1, decide_eq_true (by simp only; omega), cond_true]
    simp only
    rw [hi0, Option.bind_some, s_Make h hok, if_pos ⟨hb', hr'⟩, Option.bind_some, show makeF base (Formula.mk y.Id y.Day known y.Body y.Result y.Asked) = nowF base known y from rfl]
    simp only [decide_true, Bool.not_true, cond_false]
    rw [s_Holds h hokn, hh, s_Stale h han, hs]
    simp only [Option.bind_some, Bool.not_true, cond_false]
    rw [show decide (((([] : List (List UInt8)).length : Nat) : Int) > 0) = false from rfl, cond_false, grd_of (show (a ++ [nowF base known y]).length * 128 ≤ 140737488355328 by simp; omega), hcut]
    simp only [Option.bind_some]
    rw [s_Touched h (by simp) (fun f hf => by rw [List.mem_singleton] at hf; subst hf; exact hay), s_Reopened h (by simp) (fun f hf => by rw [List.mem_singleton] at hf; subst hf; exact hoky), if_pos hb']
    simp only [Option.bind_some, whichV]
    rw [grd_of (show (b ++ [(i : Int)]).length * 8 ≤ 140737488355328 by simp; omega), grd_of (show (c ++ [(i : Int)]).length * 8 ≤ 140737488355328 by simp; omega), w64_id (by omega) (by omega), show ((i : Int) + 1) = ((i + 1 : Nat) : Int) by omega]
    cases touchB base known y <;> cases outB base known y <;> rfl) (fun K a b c => by
    rw [s_greenbeltlaw45_ReopenAgain_L1, decide_eq_false (by simp), cond_false]) (l.map (makeF base)).length 0 KK [] [] [] (by omega) (by rw [List.length_map]; have := KK_big; omega) (by simp) (by simp) (by simp)
  exact key
theorem if_right {base : List Fact} {l : List Formula} (hg : ∀ f ∈ l, goodB base f = true) (p : Formula → Bool) (g : Formula → Formula) : (if rightB base = true then whichV p 0 (l.map g) else []) = whichV p 0 (l.map g) := by
  cases l with
  | nil => simp [whichV]
  | cons f l => rw [if_pos (good_iff.1 (hg f (List.mem_cons_self ..))).1]
theorem atF_nil (key : List UInt8) (day known : Int) : atF [] key day known = (0, false) := by
  unfold atF
  split
  · rfl
  · rw [if_pos (by have : countsV [] key day known = -1 := rfl; omega)]
theorem ask_nil (f : Formula) (k k' : Int) : askF [] f k = askF [] f k' := by
  unfold askF lookF
  simp only [atF_nil]
theorem again_true {base : List Fact} {l : List Formula} (known : Int) (hf : ∀ f ∈ l, okF f) : s_greenbeltlaw45_ReopenAgain base l known = some true := by
  obtain ⟨b, hb, hfew⟩ := few_ex base hf
  unfold s_greenbeltlaw45_ReopenAgain
  rw [small_true, hb]
  simp only [Option.bind_some]
  cases b with
  | false => rfl
  | true =>
    obtain ⟨hbl, hll⟩ := hfew rfl
    by_cases h0 : known < 0
    · rw [decide_eq_true h0]; rfl
    by_cases h1 : known > 1073741824
    · rw [decide_eq_false h0, decide_eq_true h1]; rfl
    have hk := okF_names hf
    rw [decide_eq_false h0, decide_eq_false h1, s_made (by omega) (by omega) hk]
    by_cases hg : l.all (goodB base) = true
    · rw [if_pos hg]
      have hg' := List.all_eq_true.1 hg
      have hkm : ∀ b' : List Fact, ∀ f ∈ l.map (makeF b'), okN f := fun b' f hf => by
        obtain ⟨x, hx, rfl⟩ := List.mem_map.1 hf; exact hk x hx
      have ham : ∀ f ∈ l.map (makeF base), f.Asked.length ≤ 1000000 := fun f hf => by
        obtain ⟨x, hx, rfl⟩ := List.mem_map.1 hf; exact ask_len (RightB_ex (good_iff.1 (hg' x hx)).2)
      have hnow : ∀ f ∈ (l.map (makeF base)).map (nowF base known), okN f ∧ f.Asked.length ≤ 1000000 ∧ touchB base known f = false ∧ outB base known f = false := fun f hf => by
        obtain ⟨y, hy, rfl⟩ := List.mem_map.1 hf
        obtain ⟨x, hx, rfl⟩ := List.mem_map.1 hy
        have hr := (good_iff.1 (hg' x hx)).2
        have hr' : RightB (Formula.mk (makeF base x).Id (makeF base x).Day known (makeF base x).Body (makeF base x).Result (makeF base x).Asked) = true := right_known (f := makeF base x) hr (by omega) (by omega)
        refine ⟨fun k hk' => hk x hx k hk', ask_len (f := Formula.mk (makeF base x).Id (makeF base x).Day known (makeF base x).Body (makeF base x).Result (makeF base x).Asked) (RightB_ex hr'), ?_, ?_⟩
        · unfold nowF
          rw [touch_make, decide_eq_true rfl]; rfl
        · unfold nowF
          rw [out_make base base known hr', decide_eq_true rfl]; rfl
      have hl1 : (l.map (makeF base)).length = l.length := List.length_map ..
      have hl2 : ((l.map (makeF base)).map (nowF base known)).length = l.length := by rw [List.length_map, List.length_map]
      have hl3 : (l.map (makeF [])).length = l.length := List.length_map ..
      have hg0 : l.all (goodB []) = true := List.all_eq_true.2 fun x hx => good_iff.2 ⟨rfl, (good_iff.1 (hg' x hx)).2⟩
      have w1 := whichV_len (touchB base known) (l.map (makeF base)) 0
      have w2 := whichV_len (outB base known) (l.map (makeF base)) 0
      simp only [Bool.not_true, cond_false, Option.bind_some]
      rw [again_L1 (by omega) (by omega) hk hg' (by omega) (by omega)]
      simp only [Option.bind_some]
      rw [s_Touched (by omega) (by omega) (fun f hf => (hnow f hf).2.1), s_Reopened (by omega) (by omega) (fun f hf => (hnow f hf).1), whichV_nil (fun f hf => (hnow f hf).2.2.1), whichV_nil (fun f hf => (hnow f hf).2.2.2),
        s_made (by decide) (by omega) hk, if_pos hg0]
      simp only [Option.bind_some]
      rw [s_Reopened (by decide) (by omega) (hkm []), s_Touched (by omega) (by omega) ham, s_Reopened (by omega) (by omega) (hkm base), if_right hg', if_pos (show rightB [] = true from rfl),
        whichV_nil (l := l.map (makeF [])) (fun f hf => by
          obtain ⟨x, hx, rfl⟩ := List.mem_map.1 hf
          rw [out_make [] [] known (good_iff.1 (hg' x hx)).2, ask_nil x known x.Known, decide_eq_true rfl]; rfl)]
      simp only [Option.bind_some]
      rw [s_Ints (by omega), s_Ints (by omega), decide_eq_true rfl, decide_eq_true rfl]
      cases rightB base <;> rfl
    · rw [if_neg hg]; rfl
#print axioms again_true
end Go.Proofs.Ytenljipeggacjaa
