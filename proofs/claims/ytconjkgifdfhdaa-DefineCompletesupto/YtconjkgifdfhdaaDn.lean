/- The documented examples have the documented results. -/
import Derived.Test.YtconjkgifdfhdaaDm
set_option linter.all false
set_option maxRecDepth 100000
namespace Go.Proofs.Ytconjkgifdfhdaa
open Go Go.RowKit Go.Eng Go.EV Go.Grf
theorem cano_closed {N : Nat} {U : Nat → Nat → Prop} {nm : Nat → Nm} {o : List Nat} (h : CanO N U nm o) : (∀ x ∈ o, ∀ n y, Path U n x y → y ∈ o) ∧ ∀ x ∈ o, ¬ Cyc U x := by
  induction h with
  | nil => exact ⟨fun x h => (by cases h), fun x h => (by cases h)⟩
  | @snoc o x h hx hm ih =>
    obtain ⟨ih1, ih2⟩ := ih
    have hstep : ∀ n y, Path U (n + 1) x y → y ∈ o := fun n y hp => by
      cases hp with
      | cons hu p => exact ih1 _ (hx.2.2 _ hu) _ _ p
    refine ⟨fun z hz n y hp => ?_, fun z hz hc => ?_⟩
    · rcases List.mem_append.1 hz with hz | hz
      · exact List.mem_append_left _ (ih1 z hz n y hp)
      · rw [List.mem_singleton.1 hz] at hp
        cases n with
        | zero => cases hp; exact List.mem_append_right _ (List.mem_singleton.2 rfl)
        | succ n => exact List.mem_append_left _ (hstep n y hp)
    · rcases List.mem_append.1 hz with hz | hz
      · exact ih2 z hz hc
      · rw [List.mem_singleton.1 hz] at hc
        obtain ⟨n, hp⟩ := hc
        exact hx.2.1 (hstep n x hp)
instance {l : List Def} {i k : Nat} : Decidable (Uses l i k) := inferInstanceAs (Decidable (_ ∧ _ ∧ _))
abbrev sA : Nm := [97]
abbrev sB : Nm := [98]
abbrev sC : Nm := [99]
abbrev nE (s : Nm) : Expr := Expr.mk 1 0 s [] []
abbrev oneD : List Def := [Def.mk sB (Expr.mk 4 0 [] [] [nE sC, Expr.mk 0 1 [] [] []]), Def.mk sA (Expr.mk 0 2 [] [] []), Def.mk sC (nE sA)]
abbrev twoD : List Def := [Def.mk sA (nE sB), Def.mk sB (nE sC), Def.mk sC (nE sB)]
theorem uses_lt {l : List Def} {i k : Nat} (h : Uses l i k) : i < l.length ∧ k < l.length := ⟨h.1, h.2.1⟩
theorem one_spec : OrdS oneD ([1, 2, 0], [], 0) := by
  have hp : Proper oneD := fun j hj => by
    match j, hj with
    | 0, _ => exact ⟨by decide +kernel, fun j' h => by omega⟩
    | 1, _ => exact ⟨by decide +kernel, fun j' h => by obtain rfl : j' = 0 := by omega
                                                       decide +kernel⟩
    | 2, _ => exact ⟨by decide +kernel, fun j' h => by
        match j', h with
        | 0, _ => decide +kernel
        | 1, _ => decide +kernel⟩
    | j + 3, h => simp at h; omega
  have c1 : CanO 3 (Uses oneD) (nameAt oneD) [1] := CanO.snoc (o := []) .nil ⟨by omega, by simp, fun k h => absurd h (by
      obtain ⟨_, hk⟩ := uses_lt h
      match k, hk with
      | 0, _ => decide +kernel
      | 1, _ => decide +kernel
      | 2, _ => decide +kernel
      | k + 3, h => simp at h; omega)⟩ fun y hy => by
    match y, hy.1 with
    | 0, _ => decide +kernel
    | 1, _ => decide +kernel
    | 2, _ => decide +kernel
    | k + 3, h => omega
  have c2 : CanO 3 (Uses oneD) (nameAt oneD) [1, 2] := CanO.snoc (o := [1]) c1 ⟨by omega, by simp, fun k h => by
      obtain ⟨_, hk⟩ := uses_lt h
      match k, hk, h with
      | 0, _, h => exact absurd h (by decide +kernel)
      | 1, _, _ => simp
      | 2, _, h => exact absurd h (by decide +kernel)
      | k + 3, h, _ => simp at h; omega⟩ fun y hy => by
    match y, hy with
    | 0, hy => exact absurd (hy.2.2 2 (by decide +kernel)) (by simp)
    | 1, hy => exact absurd hy.2.1 (by simp)
    | 2, _ => decide +kernel
    | k + 3, h => have := h.1; omega
  have c3 : CanO 3 (Uses oneD) (nameAt oneD) [1, 2, 0] := CanO.snoc (o := [1, 2]) c2 ⟨by omega, by simp, fun k h => by
      obtain ⟨_, hk⟩ := uses_lt h
      match k, hk, h with
      | 0, _, h => exact absurd h (by decide +kernel)
      | 1, _, _ => simp
      | 2, _, _ => simp
      | k + 3, h, _ => simp at h; omega⟩ fun y hy => by
    match y, hy with
    | 0, hy => decide +kernel
    | 1, hy => exact absurd hy.2.1 (by simp)
    | 2, hy => exact absurd hy.2.1 (by simp)
    | k + 3, h => have := h.1; omega
  refine .inr (.inr ⟨hp, fun i hi => (cano_closed c3).2 i ?_, [1, 2, 0], c3, rfl, rfl⟩)
  match i, hi with
  | 0, _ => simp
  | 1, _ => simp
  | 2, _ => simp
  | k + 3, h => simp at h; omega
theorem two_spec : OrdS twoD ([], [sB, sC], 16) := by
  have hp : Proper twoD := fun j hj => by
    match j, hj with
    | 0, _ => exact ⟨by decide +kernel, fun j' h => by omega⟩
    | 1, _ => exact ⟨by decide +kernel, fun j' h => by obtain rfl : j' = 0 := by omega
                                                       decide +kernel⟩
    | 2, _ => exact ⟨by decide +kernel, fun j' h => by
        match j', h with
        | 0, _ => decide +kernel
        | 1, _ => decide +kernel⟩
    | j + 3, h => simp at h; omega
  refine .inr (.inl ⟨hp, _, by simp [cnm], ⟨⟨1, [2], ⟨by decide +kernel, show Uses twoD 2 1 by decide +kernel⟩, rfl⟩, fun i l hw => ?_⟩, rfl⟩)
  match l, hw with
  | [], hw =>
    have hw : Uses twoD i i := hw
    obtain ⟨hi, _⟩ := uses_lt hw
    match i, hi, hw with
    | 0, _, h => exact absurd h (by decide +kernel)
    | 1, _, h => exact absurd h (by decide +kernel)
    | 2, _, h => exact absurd h (by decide +kernel)
    | k + 3, h, _ => simp at h; omega
  | [k], ⟨h1, h2⟩ =>
    have h2 : Uses twoD k i := h2
    obtain ⟨hi, hk⟩ := uses_lt h1
    match i, k, hi, hk, h1, h2 with
    | 0, 0, _, _, h, _ => exact absurd h (by decide +kernel)
    | 0, 1, _, _, _, h => exact absurd h (by decide +kernel)
    | 0, 2, _, _, h, _ => exact absurd h (by decide +kernel)
    | 1, 0, _, _, h, _ => exact absurd h (by decide +kernel)
    | 1, 1, _, _, h, _ => exact absurd h (by decide +kernel)
    | 1, 2, _, _, h, _ => exact Bet.refl _
    | 2, 0, _, _, h, _ => exact absurd h (by decide +kernel)
    | 2, 1, _, _, h, _ => exact .inr ⟨rfl, .inl (by decide +kernel)⟩
    | 2, 2, _, _, h, _ => exact absurd h (by decide +kernel)
    | k + 3, _, h, _, _, _ => simp at h; omega
    | _, k + 3, _, h, _, _ => simp at h; omega
  | _ :: _ :: _, _ => exact .inl (by simp [cnm])
theorem self_spec : OrdS [Def.mk sA (nE sA)] ([], [sA], 16) := by
  have hp : Proper [Def.mk sA (nE sA)] := fun j hj => by
    match j, hj with
    | 0, _ => exact ⟨by decide +kernel, fun j' h => by omega⟩
    | j + 1, h => simp at h
  refine .inr (.inl ⟨hp, _, by simp [cnm], ⟨⟨0, [], by show Uses _ 0 0; decide +kernel, rfl⟩, fun i l hw => ?_⟩, rfl⟩)
  match l, hw with
  | [], hw =>
    have hw : Uses [Def.mk sA (nE sA)] i i := hw
    obtain ⟨hi, _⟩ := uses_lt hw
    match i, hi with
    | 0, _ => exact Bet.refl _
    | k + 1, h => simp at h
  | _ :: _, _ => exact .inl (by simp [cnm])
theorem twice_spec : OrdS [Def.mk ([104, 101, 105, 103, 104, 116] : Nm) (Expr.mk 0 3 [] [] [])] ([], [], 5) := .inl ⟨fun h => (h 0 (by simp)).1 (by decide +kernel), rfl⟩
variable [Fuel]
theorem Order_at {l : List Def} {r : List Int × List Nm × Int} (h : OrdS l r) (hN : l.length ≤ 3) (hok : ∀ d ∈ l, cnt d.Body ≤ 60 ∧ ∀ k ∈ namesL d.Body, k.length ≤ 100) : s_define_Order l [] [] [] [] [] [] 0 = some r := by
  obtain ⟨r', h1, h2, _⟩ := Order_gen (l := l) (by omega) (fun d hd => ⟨by have := names_le d.Body; have := (hok d hd).1; omega, fun k hk => by have := (hok d hd).2 k hk; omega⟩) [] [] [] [] [] [] 0
  rw [h1, h2.unique h]
theorem reaches_one (p : Plan) (s : Nm) : s_define_Reaches p.Defs p.Tables p.Zones p.Rules p.Caps p.Views p.Sun p.Hours s = s_define_Reaches_2 p s := by kernel_rfl
theorem reaches_at : s_define_Reaches oneD [] [] [] [] [] [] 0 sB = some [sA, sC] := by
  have hb : ∀ d ∈ oneD, (∀ k ∈ namesL d.Body, k.length ≤ 9223372036854775807) := by decide +kernel
  have hpb : PB (Plan.mk oneD [] [] [] [] [] [] 0).Defs := ⟨by simp, by decide +kernel, by decide +kernel⟩
  obtain ⟨r, h1, h2, h3⟩ := Reaches_gen hpb sB
  have hu : ∀ s x, Use1 oneD s x ↔ (s = sB ∧ x = sC) ∨ (s = sC ∧ x = sA) := fun s x => by
    unfold Use1
    constructor
    · rintro ⟨d, hd, rfl, hx⟩
      rcases List.mem_cons.1 hd with rfl | hd
      · have : x ∈ [sC] := hx
        exact .inl ⟨rfl, List.mem_singleton.1 this⟩
      · rcases List.mem_cons.1 hd with rfl | hd
        · have : x ∈ ([] : List Nm) := hx
          cases this
        · rw [List.mem_singleton.1 hd] at hx ⊢
          have : x ∈ [sA] := hx
          exact .inr ⟨rfl, List.mem_singleton.1 this⟩
    · rintro (⟨rfl, rfl⟩ | ⟨rfl, rfl⟩)
      · exact ⟨_, List.mem_cons_self .., rfl, List.mem_singleton.2 rfl⟩
      · exact ⟨_, List.mem_cons_of_mem _ (List.mem_cons_of_mem _ (List.mem_cons_self ..)), rfl, List.mem_singleton.2 rfl⟩
  have hm : ∀ x, x ∈ [sA, sC] ↔ Rch oneD sB x := fun x => by
    constructor
    · intro hx
      have hc : Rch oneD sB sC := .base ((hu _ _).2 (.inl ⟨rfl, rfl⟩))
      rcases List.mem_cons.1 hx with rfl | hx
      · exact .step hc ((hu _ _).2 (.inr ⟨rfl, rfl⟩))
      · rw [List.mem_singleton.1 hx]; exact hc
    · intro hx
      induction hx with
      | base h =>
        rcases (hu _ _).1 h with ⟨_, rfl⟩ | ⟨h, _⟩
        · simp
        · exact absurd h (by decide)
      | step _ u ih =>
        rcases (hu _ _).1 u with ⟨rfl, rfl⟩ | ⟨_, rfl⟩
        · simp
        · simp
  have e : r = [sA, sC] := asc_ext h2 (by decide +kernel) fun x => by rw [h3, hm]
  rw [← e, ← h1]
  exact reaches_one (Plan.mk oneD [] [] [] [] [] [] 0) sB
theorem unknown_at : s_define_Unknown (Plan.mk [Def.mk sA (nE sB), Def.mk sB (nE sC)] [] [] [] [] [] [] 0) = some [sC] := by
  have hpu : PU (Plan.mk [Def.mk sA (nE sB), Def.mk sB (nE sC)] [] [] [] [] [] [] 0) := ⟨by simp, by simp, by decide +kernel, by simp, by decide +kernel, fun d hd => by cases hd⟩
  obtain ⟨r, h1, h2, h3⟩ := Unknown_gen hpu
  have e : r = [sC] := asc_ext h2 (List.pairwise_singleton ..) fun x => by
    rw [h3, List.mem_singleton]
    unfold Unk
    constructor
    · rintro ⟨⟨d, hd, hx⟩ | ⟨d, hd, _⟩, h5, _⟩
      · rcases List.mem_cons.1 hd with rfl | hd
        · have hx : x ∈ [sB] := hx
          exact absurd (List.mem_singleton.1 hx).symm (h5 _ (List.mem_cons_of_mem _ (List.mem_singleton.2 rfl)))
        · rw [List.mem_singleton.1 hd] at hx
          have hx : x ∈ [sC] := hx
          exact List.mem_singleton.1 hx
      · cases hd
    · rintro rfl
      refine ⟨.inl ⟨_, List.mem_cons_of_mem _ (List.mem_singleton.2 rfl), List.mem_singleton.2 rfl⟩, by decide +kernel, by decide +kernel⟩
  rw [← e]; exact h1
theorem small_true : s_greenbeltlaw16_small = some true := by
  unfold s_greenbeltlaw16_small s_greenbeltlaw16_name
  simp only [Option.bind_some]
  rw [Order_at one_spec (by simp) (by decide +kernel), Option.bind_some, Order_at two_spec (by simp) (by decide +kernel), Option.bind_some, Order_at self_spec (by simp) (by decide +kernel), Option.bind_some, Order_at twice_spec (by simp) (by decide +kernel), Option.bind_some]
  have t1 : s_greenbeltref01_SameNums [1, 2, 0] [1, 2, 0] = some true := by rw [sameNums_is (by simp)]; rfl
  have t2 : s_greenbeltref01_SameTexts [sB, sC] [sB, sC] = some true := by rw [sameTexts_is (by simp)]; rfl
  have t3 : s_greenbeltref01_SameTexts [sA] [sA] = some true := by rw [sameTexts_is (by simp)]; rfl
  have t4 : s_greenbeltref01_SameTexts [sA, sC] [sA, sC] = some true := by rw [sameTexts_is (by simp)]; rfl
  have t5 : s_greenbeltref01_SameTexts [sC] [sC] = some true := by rw [sameTexts_is (by simp)]; rfl
  have t6 : cut [Def.mk sA (nE sB), Def.mk sB (nE sC), Def.mk sC (nE sB)] 0 2 = some [Def.mk sA (nE sB), Def.mk sB (nE sC)] := rfl
  have t7 : s_define_Measures = some measL := rfl
  have t8 := reaches_at
  have t9 := unknown_at
  have t10 : measL.length = 9 := rfl
  simp [t1, t2, t3, t4, t5, t6, t7, t8, t9, t10]
end Go.Proofs.Ytconjkgifdfhdaa
