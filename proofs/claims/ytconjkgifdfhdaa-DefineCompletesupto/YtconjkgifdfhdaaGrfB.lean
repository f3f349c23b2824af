/- Graphs with names: closed walks, the least of them; plain mathematics. -/
import Derived.Test.YtconjkgifdfhdaaGrfA
set_option linter.all false
set_option maxRecDepth 100000
namespace Go.Grf
abbrev Nm := List UInt8
theorem nm_lt_of {a b : Nm} (h : ¬ a < b) (h2 : a ≠ b) : b < a := Std.lt_of_le_of_ne (List.not_lt.1 h) (Ne.symm h2)
theorem nm_le_of {a b : Nm} (h : ¬ b < a) : a < b ∨ a = b := by
  by_cases e : a = b
  · exact .inr e
  · exact .inl (nm_lt_of h (Ne.symm e))
theorem nm_irrefl (a : Nm) : ¬ a < a := List.lt_irrefl _
theorem nm_trans {a b c : Nm} (h : a < b) (k : b < c) : a < c := List.lt_trans h k
theorem nm_asymm {a b : Nm} (h : a < b) : ¬ b < a := fun k => nm_irrefl _ (nm_trans h k)
/-- From a to t over these. -/
def Wk (U : Nat → Nat → Prop) (t : Nat) : Nat → List Nat → Prop
  | a, [] => U a t
  | a, b :: l => U a b ∧ Wk U t b l
theorem wk_path {U : Nat → Nat → Prop} {t : Nat} : ∀ (l : List Nat) (a : Nat), Wk U t a l → Path U (l.length + 1) a t
  | [], a, h => .cons h (.nil _)
  | b :: l, a, h => .cons h.1 (wk_path l b h.2)
theorem path_wk {U : Nat → Nat → Prop} {t : Nat} : ∀ (n : Nat) (a : Nat), Path U (n + 1) a t → ∃ l, l.length = n ∧ Wk U t a l
  | 0, a, h => by
    cases h with
    | cons h p => cases p; exact ⟨[], rfl, h⟩
  | n + 1, a, h => by
    cases h with
    | cons h p =>
      obtain ⟨l, h1, h2⟩ := path_wk n _ p
      exact ⟨_ :: l, by simp [h1], h, h2⟩
theorem cyc_wk {U : Nat → Nat → Prop} {i : Nat} : Cyc U i ↔ ∃ l, Wk U i i l :=
  ⟨fun ⟨n, h⟩ => by obtain ⟨l, _, h⟩ := path_wk n i h; exact ⟨l, h⟩, fun ⟨l, h⟩ => ⟨_, wk_path l i h⟩⟩
theorem wk_mono {U U' : Nat → Nat → Prop} {t : Nat} : ∀ (l : List Nat) (a : Nat), (∀ x y, U x y → (∃ n, Path U n y t) → U' x y) → Wk U t a l → Wk U' t a l
  | [], a, h, hw => h _ _ hw ⟨0, .nil _⟩
  | b :: l, a, h, hw => ⟨h _ _ hw.1 ⟨_, wk_path l b hw.2⟩, wk_mono l b h hw.2⟩
/-- Lists of names in order. -/
def lexle : List Nm → List Nm → Prop
  | [], _ => True
  | _ :: _, [] => False
  | x :: a, y :: b => x < y ∨ (x = y ∧ lexle a b)
theorem lexle_refl : ∀ a : List Nm, lexle a a
  | [] => trivial
  | _ :: a => .inr ⟨rfl, lexle_refl a⟩
theorem lexle_antisymm : ∀ {a b : List Nm}, lexle a b → lexle b a → a = b
  | [], [], _, _ => rfl
  | [], _ :: _, _, h => h.elim
  | _ :: _, [], h, _ => h.elim
  | x :: a, y :: b, h, k => by
    rcases h with h | ⟨rfl, h⟩
    · rcases k with k | ⟨rfl, _⟩
      · exact absurd k (nm_asymm h)
      · exact absurd h (nm_irrefl _)
    · rcases k with k | ⟨_, k⟩
      · exact absurd k (nm_irrefl _)
      · rw [lexle_antisymm h k]
theorem lexle_trans : ∀ {a b c : List Nm}, lexle a b → lexle b c → lexle a c
  | [], _, _, _, _ => trivial
  | _ :: _, [], _, h, _ => h.elim
  | _ :: _, _ :: _, [], _, k => k.elim
  | x :: a, y :: b, z :: c, h, k => by
    rcases h with h | ⟨rfl, h⟩
    · rcases k with k | ⟨rfl, _⟩
      · exact .inl (nm_trans h k)
      · exact .inl h
    · rcases k with k | ⟨rfl, k⟩
      · exact .inl k
      · exact .inr ⟨rfl, lexle_trans h k⟩
theorem lexle_total : ∀ a b : List Nm, lexle a b ∨ lexle b a
  | [], _ => .inl trivial
  | _ :: _, [] => .inr trivial
  | x :: a, y :: b => by
    by_cases h : x < y
    · exact .inl (.inl h)
    · rcases nm_le_of h with h | rfl
      · exact .inr (.inl h)
      · rcases lexle_total a b with h | h
        · exact .inl (.inr ⟨rfl, h⟩)
        · exact .inr (.inr ⟨rfl, h⟩)
/-- Shorter, or of the same length and not behind. -/
def Bet (c d : List Nm) : Prop := c.length < d.length ∨ (c.length = d.length ∧ lexle c d)
theorem Bet.refl (c : List Nm) : Bet c c := .inr ⟨rfl, lexle_refl c⟩
theorem Bet.antisymm {c d : List Nm} (h : Bet c d) (k : Bet d c) : c = d := by
  rcases h with h | ⟨e, h⟩
  · rcases k with k | ⟨e, _⟩ <;> omega
  · rcases k with k | ⟨_, k⟩
    · omega
    · exact lexle_antisymm h k
theorem Bet.trans {c d e : List Nm} (h : Bet c d) (k : Bet d e) : Bet c e := by
  rcases h with h | ⟨e1, h⟩ <;> rcases k with k | ⟨e2, k⟩
  · exact .inl (by omega)
  · exact .inl (by omega)
  · exact .inl (by omega)
  · exact .inr ⟨by omega, lexle_trans h k⟩
/-- The names of a closed walk. -/
def cnm (nm : Nat → Nm) (i : Nat) (l : List Nat) : List Nm := nm i :: l.map nm
theorem cnm_len (nm : Nat → Nm) (i : Nat) (l : List Nat) : (cnm nm i l).length = l.length + 1 := by simp [cnm]
/-- The smallest circle. -/
def SmallC (U : Nat → Nat → Prop) (nm : Nat → Nm) (c : List Nm) : Prop := (∃ i l, Wk U i i l ∧ c = cnm nm i l) ∧ ∀ i l, Wk U i i l → Bet c (cnm nm i l)
theorem SmallC.unique {U : Nat → Nat → Prop} {nm : Nat → Nm} {c d : List Nm} (h : SmallC U nm c) (k : SmallC U nm d) : c = d := by
  obtain ⟨i, l, h1, h2⟩ := h.1
  obtain ⟨j, m, k1, k2⟩ := k.1
  exact Bet.antisymm (by rw [k2]; exact h.2 j m k1) (by rw [h2]; exact k.2 i l h1)
theorem SmallC.congr {U U' : Nat → Nat → Prop} {nm nm' : Nat → Nm} {c : List Nm} (h : SmallC U nm c) (h1 : ∀ i l, Wk U' i i l ↔ Wk U i i l) (h2 : ∀ i l, Wk U i i l → cnm nm' i l = cnm nm i l) : SmallC U' nm' c := by
  obtain ⟨⟨i, l, h3, h4⟩, h5⟩ := h
  exact ⟨⟨i, l, (h1 i l).2 h3, by rw [h2 i l h3]; exact h4⟩, fun i l hw => by rw [h2 i l ((h1 i l).1 hw)]; exact h5 i l ((h1 i l).1 hw)⟩
/-- The way that goes on to the nearest, the least of them. -/
inductive Gre (U : Nat → Nat → Prop) (nm : Nat → Nm) (d : Nat → Int) (t : Nat) : Nat → List Nat → Prop
  | stop {a : Nat} (h : U a t) : Gre U nm d t a []
  | step {a k : Nat} {l : List Nat} (h : U a k) (hk : k ≠ t) (h0 : 0 ≤ d k) (hm : ∀ k', U a k' → 0 ≤ d k' → d k < d k' ∨ (d k = d k' ∧ ¬ nm k' < nm k)) (r : Gre U nm d t k l) : Gre U nm d t a (k :: l)
theorem Gre.best {N : Nat} {U : Nat → Nat → Prop} {nm : Nat → Nm} {t : Nat} {d : Nat → Int} (hD : Dist N U t d) (hU : ∀ i k, U i k → i < N ∧ k < N) (hi : ∀ i k, i < N → k < N → nm i = nm k → i = k) {a : Nat} {l : List Nat} (h : Gre U nm d t a l) :
    Wk U t a l ∧ ∀ l', Wk U t a l' → l.length < l'.length ∨ (l.length = l'.length ∧ lexle (l.map nm) (l'.map nm)) := by
  induction h with
  | stop h => exact ⟨h, fun l' _ => by
      cases l' with
      | nil => exact .inr ⟨rfl, trivial⟩
      | cons => exact .inl (by simp)⟩
  | @step a k l h hk h0 hm r ih =>
    obtain ⟨ih1, ih2⟩ := ih
    have hkN := (hU _ _ h).2
    have hd0 : 0 < d k := by
      rcases Int.lt_or_eq_of_le h0 with h | h
      · exact h
      · exact absurd (hD.only k hkN h.symm) hk
    have hdk : d k = l.length + 1 := by
      have h1 := (hD.le hU (wk_path l k ih1) hkN).2
      obtain ⟨n, hn⟩ : ∃ n : Nat, d k = ((n + 1 : Nat) : Int) := ⟨(d k - 1).toNat, by omega⟩
      obtain ⟨l', h2, h3⟩ := path_wk n k (hD.path (n + 1) k hkN hn)
      have := ih2 l' h3
      omega
    refine ⟨⟨h, ih1⟩, fun l' hw => ?_⟩
    cases l' with
    | nil =>
      have := hm t hw (by rw [hD.zero]; omega)
      rw [hD.zero] at this
      omega
    | cons k' m =>
      obtain ⟨hw1, hw2⟩ := hw
      have hkN' := (hU _ _ hw1).2
      obtain ⟨g1, g2⟩ := hD.le hU (wk_path m k' hw2) hkN'
      rcases hm k' hw1 g1 with h3 | ⟨h3, h4⟩
      · exact .inl (by simp only [List.length_cons]; omega)
      · by_cases hl : l.length < m.length
        · exact .inl (by simp only [List.length_cons]; omega)
        · refine .inr ⟨by simp only [List.length_cons]; omega, ?_⟩
          rcases nm_le_of h4 with h5 | h5
          · exact .inl h5
          · have := hi k k' hkN hkN' h5
            subst this
            refine .inr ⟨rfl, ?_⟩
            rcases ih2 m hw2 with h6 | ⟨_, h6⟩
            · omega
            · exact h6
/-- The way of so many steps that always goes on to the least. -/
inductive Gst (U : Nat → Nat → Prop) (nm : Nat → Nm) (t : Nat) : Nat → List Nat → Prop
  | stop {a : Nat} (h : U a t) : Gst U nm t a []
  | step {a k : Nat} {l : List Nat} (h : U a k) (hm : ∀ k', U a k' → Path U (l.length + 1) k' t → ¬ nm k' < nm k) (r : Gst U nm t k l) : Gst U nm t a (k :: l)
theorem Gst.best {N : Nat} {U : Nat → Nat → Prop} {nm : Nat → Nm} {t : Nat} (hU : ∀ i k, U i k → i < N ∧ k < N) (hi : ∀ i k, i < N → k < N → nm i = nm k → i = k) {a : Nat} {l : List Nat} (h : Gst U nm t a l) :
    Wk U t a l ∧ ∀ l', Wk U t a l' → l'.length = l.length → lexle (l.map nm) (l'.map nm) := by
  induction h with
  | stop h => exact ⟨h, fun l' _ _ => trivial⟩
  | @step a k l h hm r ih =>
    obtain ⟨ih1, ih2⟩ := ih
    refine ⟨⟨h, ih1⟩, fun l' hw hl => ?_⟩
    cases l' with
    | nil => simp at hl
    | cons k' m =>
      obtain ⟨hw1, hw2⟩ := hw
      simp only [List.length_cons] at hl
      have hp := wk_path m k' hw2
      rw [show m.length + 1 = l.length + 1 by omega] at hp
      rcases nm_le_of (hm k' hw1 hp) with h5 | h5
      · exact .inl h5
      · have := hi k k' (hU _ _ h).2 (hU _ _ hw1).2 h5
        subst this
        exact .inr ⟨rfl, ih2 m hw2 (by omega)⟩
/-- The nodes of a shortest closed walk are different. -/
theorem wk_suffix {U : Nat → Nat → Prop} {t : Nat} : ∀ (p : List Nat) (a b : Nat) (s : List Nat), Wk U t a (p ++ b :: s) → Wk U b a p ∧ Wk U t b s
  | [], a, b, s, h => ⟨h.1, h.2⟩
  | x :: p, a, b, s, h => by
    obtain ⟨h1, h2⟩ := wk_suffix p x b s h.2
    exact ⟨⟨h.1, h1⟩, h2⟩
theorem wk_join {U : Nat → Nat → Prop} {t : Nat} : ∀ (p : List Nat) (a b : Nat) (s : List Nat), Wk U b a p → Wk U t b s → Wk U t a (p ++ b :: s)
  | [], a, b, s, h, k => ⟨h, k⟩
  | x :: p, a, b, s, h, k => ⟨h.1, wk_join p x b s h.2 k⟩
/-- The order: the least that is ready, always. -/
def Rdy (N : Nat) (U : Nat → Nat → Prop) (o : List Nat) (x : Nat) : Prop := x < N ∧ x ∉ o ∧ ∀ k, U x k → k ∈ o
inductive CanO (N : Nat) (U : Nat → Nat → Prop) (nm : Nat → Nm) : List Nat → Prop
  | nil : CanO N U nm []
  | snoc {o : List Nat} {x : Nat} (h : CanO N U nm o) (hx : Rdy N U o x) (hm : ∀ y, Rdy N U o y → ¬ nm y < nm x) : CanO N U nm (o ++ [x])
theorem CanO.unique {N : Nat} {U : Nat → Nat → Prop} {nm : Nat → Nm} (hi : ∀ i k, i < N → k < N → nm i = nm k → i = k) : ∀ {o : List Nat}, CanO N U nm o → ∀ {o' : List Nat}, CanO N U nm o' → o.length = o'.length → o = o' := by
  intro o h
  induction h with
  | nil => intro o' _ hl; exact (List.length_eq_zero_iff.1 (by simpa using hl.symm)).symm
  | @snoc o x h hx hm ih =>
    intro o' h' hl
    cases h' with
    | nil => simp at hl
    | @snoc o2 x2 h2 hx2 hm2 =>
      have := ih h2 (by simpa using hl)
      subst this
      have h3 := hm x2 hx2
      have h4 := hm2 x hx
      have : nm x = nm x2 := by
        rcases nm_le_of h3 with h | h
        · exact absurd h h4
        · exact h
      rw [hi x x2 hx.1 hx2.1 this]
end Go.Grf
