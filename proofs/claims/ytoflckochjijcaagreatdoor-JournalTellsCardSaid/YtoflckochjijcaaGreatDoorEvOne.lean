/- Values as data: slices that are only read are lists; memory of the call's own has names. -/
import Derived.Test.YtoflckochjijcaaGreatDoorEng
import Derived.KernelRfl
import Derived.Laws.OwnMore
import Derived.Laws.NewBlocks
import Derived.Deep.Slices
import Derived.Laws.CopyRow
import Derived.Lib.FrozenHead2
set_option linter.all false
namespace Go.EV
open Go Go.RowKit Go.Eng

structure GVal where
 rep : (Nat → Option (Nat × Nat)) → Value → Prop
 mono : ∀ mk mk' x, (∀ L loc, mk L = some loc → mk' L = some loc) → rep mk x → rep mk' x
 one : ∀ mk x, rep mk x → x.oneCell' = true ∧ x.cells.toList = [x]
instance : Inhabited GVal := ⟨⟨fun _ _ => False, fun _ _ _ _ h => h, fun _ _ h => h.elim⟩⟩
structure PVal where
 rep : (Addr → Option Value) → Value → Prop
 mono : ∀ Z Z' x, (∀ a x, Z a = some x → Z' a = some x) → rep Z x → rep Z' x
 one : ∀ Z x, rep Z x → x.oneCell' = true ∧ x.cells.toList = [x]
instance : Inhabited PVal := ⟨⟨fun _ _ => False, fun _ _ _ _ h => h, fun _ _ h => h.elim⟩⟩
inductive V where
 | undef
 | no
 | int (k : IntKind) (n : Int)
 | bool (b : Bool)
 | str (l : List UInt8)
 | nilp
 | ptr (k L off : Nat)
 | vp (cs : List V) (off : Nat)
 | nils
 | sl (sz k L o n : Nat)
 | vs (sz : Nat) (els : List (List V))
 | fn (f : Nat) (first caps : List V)
 | nilf
 | agg (cs : List V)
 | tup (xs : List V)
 | nilm
 | mp (k : Nat)
 | nili
 | ifc (t : Nat) (v : V)
 | gv (k : Nat) (R : GVal)
 | pv (R : PVal)
 deriving Inhabited

abbrev M := Nat → Nat → Option (Nat × Nat)
abbrev ZM := Addr → Option Value

mutual
def Rep (m : Option M) (Z : ZM) : V → Value → Prop
 | .undef, _ => True
 | .no, x => x = Go.undef
 | .int k n, x => x = .int k n
 | .bool b, x => x = .bool b
 | .str l, x => x = .string ⟨l.toArray⟩
 | .nilp, x => x = .pointer none
 | .ptr k L off, x => ∃ f loc, m = some f ∧ f k L = some loc ∧ x = .pointer (some ⟨loc.1, off, none⟩)
 | .vp cs off, x => ∃ a : Addr, x = .pointer (some (a.add off)) ∧ RepAt Z a 0 cs
 | .nils, x => x = .slice none 0 0
 | .sl sz k L o n, x => ∃ f loc, m = some f ∧ f k L = some loc ∧ o + n ≤ loc.2 ∧ loc.2 ≤ maxLen ∧ (x = .slice (some ⟨loc.1, o * sz, none⟩) n (loc.2 - o) ∨ (loc.2 = 0 ∧ ∃ A, x = .slice A 0 0) ∨ (0 < o ∧ n = 0 ∧ ∃ A c, x = .slice A 0 c ∧ c ≤ maxLen))
 | .vs sz els, x => ∃ A c, x = .slice A els.length c ∧ els.length ≤ c ∧ c ≤ maxLen ∧ (els = [] ∨ ∃ a, A = some a ∧ RepRows Z a sz 0 els)
 | .fn f first caps, x => ∃ l1 l2 : List Value, x = .func (.func f) l1.toArray l2.toArray ∧ RepL m Z first l1 ∧ RepL m Z caps l2
 | .nilf, x => x = .nilFunc
 | .agg cs, x => ∃ l : List Value, x = .agg l.toArray ∧ RepL m Z cs l
 | .tup xs, x => ∃ l : List Value, x = .tuple l.toArray ∧ RepL m Z xs l
 | .nilm, x => x = .map none
 | .mp k, x => ∃ f loc, m = some f ∧ f k 0 = some loc ∧ x = .map (some loc.1)
 | .nili, x => x = .nilIface
 | .ifc t v, x => ∃ y, x = .iface t y ∧ Rep m Z v y
 | .gv k R, x => ∃ f, m = some f ∧ R.rep (f k) x
 | .pv R, x => R.rep Z x
def RepL (m : Option M) (Z : ZM) : List V → List Value → Prop
 | [], l => l = []
 | v :: vs, l => ∃ x xs, l = x :: xs ∧ Rep m Z v x ∧ RepL m Z vs xs
def RepAt (Z : ZM) (a : Addr) : Nat → List V → Prop
 | _, [] => True
 | j, v :: vs => (∃ x, Z (a.add j) = some x ∧ Rep none Z v x) ∧ RepAt Z a (j + 1) vs
def RepRows (Z : ZM) (a : Addr) (sz : Nat) : Nat → List (List V) → Prop
 | _, [] => True
 | i, cs :: r => (cs.length = sz ∧ RepAt Z (a.add (i * sz)) 0 cs) ∧ RepRows Z a sz (i + 1) r
end

mutual
def V.refs : V → List Nat
 | .ptr k _ _ => [k]
 | .sl _ k _ _ _ => [k]
 | .mp k => [k]
 | .fn _ first caps => refsL first ++ refsL caps
 | .agg cs => refsL cs
 | .tup xs => refsL xs
 | .ifc _ v => v.refs
 | .gv k _ => [k]
 | _ => []
def refsL : List V → List Nat
 | [] => []
 | v :: vs => v.refs ++ refsL vs
end
mutual
def V.ren (f : Nat → Nat) : V → V
 | .ptr k L off => .ptr (f k) L off
 | .sl sz k L o n => .sl sz (f k) L o n
 | .mp k => .mp (f k)
 | .fn g first caps => .fn g (renL f first) (renL f caps)
 | .agg cs => .agg (renL f cs)
 | .tup xs => .tup (renL f xs)
 | .ifc t v => .ifc t (v.ren f)
 | .gv k R => .gv (f k) R
 | v => v
def renL (f : Nat → Nat) : List V → List V
 | [] => []
 | v :: vs => v.ren f :: renL f vs
end

section
variable {m m' : Option M} {Z Z' : ZM}
mutual
theorem Rep.up' (hZ : ∀ a x, Z a = some x → Z' a = some x) :
  ∀ (v : V) (m m' : Option M) (_ : ∀ f, m = some f → ∃ f', m' = some f' ∧ ∀ k L loc, f k L = some loc → f' k L = some loc) (x : Value), Rep m Z v x → Rep m' Z' v x
 | .undef, m, m', hm, x, h => trivial
 | .no, m, m', hm, x, h => h
 | .int k n, m, m', hm, x, h => h
 | .bool b, m, m', hm, x, h => h
 | .str l, m, m', hm, x, h => h
 | .nilp, m, m', hm, x, h => h
 | .ptr k L off, m, m', hm, x, h => by
  obtain ⟨f, loc, h1, h2, h3⟩ := h
  obtain ⟨f', h4, h5⟩ := hm f h1
  exact ⟨f', loc, h4, h5 _ _ _ h2, h3⟩
 | .vp cs off, m, m', hm, x, h => by
  obtain ⟨a, h1, h2⟩ := h
  exact ⟨a, h1, RepAt.up' hZ a cs 0 h2⟩
 | .nils, m, m', hm, x, h => h
 | .sl sz k L o n, m, m', hm, x, h => by
  obtain ⟨f, loc, h1, h2, h3⟩ := h
  obtain ⟨f', h4, h5⟩ := hm f h1
  exact ⟨f', loc, h4, h5 _ _ _ h2, h3⟩
 | .vs sz els, m, m', hm, x, h => by
  obtain ⟨A, c, h1, h2, h3, h4⟩ := h
  refine ⟨A, c, h1, h2, h3, ?_⟩
  rcases h4 with h4 | ⟨a, h4, h5⟩
  ·exact .inl h4
  ·exact .inr ⟨a, h4, RepRows.up' hZ a sz els 0 h5⟩
 | .fn f first caps, m, m', hm, x, h => by
  obtain ⟨l1, l2, h1, h2, h3⟩ := h
  exact ⟨l1, l2, h1, RepL.up' hZ first m m' hm l1 h2, RepL.up' hZ caps m m' hm l2 h3⟩
 | .nilf, m, m', hm, x, h => h
 | .agg cs, m, m', hm, x, h => by
  obtain ⟨l, h1, h2⟩ := h
  exact ⟨l, h1, RepL.up' hZ cs m m' hm l h2⟩
 | .tup xs, m, m', hm, x, h => by
  obtain ⟨l, h1, h2⟩ := h
  exact ⟨l, h1, RepL.up' hZ xs m m' hm l h2⟩
 | .nilm, m, m', hm, x, h => h
 | .mp k, m, m', hm, x, h => by
  obtain ⟨f, loc, h1, h2, h3⟩ := h
  obtain ⟨f', h4, h5⟩ := hm f h1
  exact ⟨f', loc, h4, h5 _ _ _ h2, h3⟩
 | .nili, m, m', hm, x, h => h
 | .ifc t v, m, m', hm, x, h => by
  obtain ⟨y, h1, h2⟩ := h
  exact ⟨y, h1, Rep.up' hZ v m m' hm y h2⟩
 | .gv k R, m, m', hm, x, h => by
  obtain ⟨f, h1, h2⟩ := h
  obtain ⟨f', h4, h5⟩ := hm f h1
  exact ⟨f', h4, R.mono _ _ _ (h5 k) h2⟩
 | .pv R, m, m', hm, x, h => R.mono _ _ _ hZ h
theorem RepL.up' (hZ : ∀ a x, Z a = some x → Z' a = some x) :
  ∀ (vs : List V) (m m' : Option M) (_ : ∀ f, m = some f → ∃ f', m' = some f' ∧ ∀ k L loc, f k L = some loc → f' k L = some loc) (l : List Value), RepL m Z vs l → RepL m' Z' vs l
 | [], m, m', hm, l, h => h
 | v :: vs, m, m', hm, l, h => by
  obtain ⟨x, xs, h1, h2, h3⟩ := h
  exact ⟨x, xs, h1, Rep.up' hZ v m m' hm x h2, RepL.up' hZ vs m m' hm xs h3⟩
theorem RepAt.up' (hZ : ∀ a x, Z a = some x → Z' a = some x) (a : Addr) : ∀ (vs : List V) (j : Nat), RepAt Z a j vs → RepAt Z' a j vs
 | [], _, _ => trivial
 | v :: vs, j, h => by
  obtain ⟨⟨x, h1, h2⟩, h3⟩ := h
  exact ⟨⟨x, hZ _ _ h1, Rep.up' hZ v none none (fun f hf => by cases hf) x h2⟩, RepAt.up' hZ a vs (j + 1) h3⟩
theorem RepRows.up' (hZ : ∀ a x, Z a = some x → Z' a = some x) (a : Addr) (sz : Nat) : ∀ (els : List (List V)) (i : Nat), RepRows Z a sz i els → RepRows Z' a sz i els
 | [], _, _ => trivial
 | cs :: r, i, h => by
  obtain ⟨⟨h1, h2⟩, h3⟩ := h
  exact ⟨⟨h1, RepAt.up' hZ _ cs 0 h2⟩, RepRows.up' hZ a sz r (i + 1) h3⟩
end
theorem Rep.up {v : V} {x : Value} (hZ : ∀ a x, Z a = some x → Z' a = some x) (hm : ∀ f, m = some f → ∃ f', m' = some f' ∧ ∀ k L loc, f k L = some loc → f' k L = some loc) (h : Rep m Z v x) : Rep m' Z' v x := Rep.up' hZ v m m' hm x h
theorem RepL.up {v : List V} {x : List Value} (hZ : ∀ a x, Z a = some x → Z' a = some x) (hm : ∀ f, m = some f → ∃ f', m' = some f' ∧ ∀ k L loc, f k L = some loc → f' k L = some loc) (h : RepL m Z v x) : RepL m' Z' v x := RepL.up' hZ v m m' hm x h
mutual
theorem Rep.ren {f f' : M} (σ : Nat → Nat) : ∀ (v : V) (x : Value), (∀ k ∈ v.refs, ∀ L loc, f k L = some loc → f' (σ k) L = some loc) → Rep (some f) Z v x → Rep (some f') Z (v.ren σ) x
 | .undef, x, _, h => trivial
 | .no, x, _, h => h
 | .int k n, x, _, h => h
 | .bool b, x, _, h => h
 | .str l, x, _, h => h
 | .nilp, x, _, h => h
 | .ptr k L off, x, hm, h => by
  obtain ⟨g, loc, h1, h2, h3⟩ := h
  cases h1
  exact ⟨f', loc, rfl, hm k (by simp [V.refs]) _ _ h2, h3⟩
 | .vp cs off, x, _, h => h
 | .nils, x, _, h => h
 | .sl sz k L o n, x, hm, h => by
  obtain ⟨g, loc, h1, h2, h3⟩ := h
  cases h1
  exact ⟨f', loc, rfl, hm k (by simp [V.refs]) _ _ h2, h3⟩
 | .vs sz els, x, _, h => h
 | .fn g first caps, x, hm, h => by
  obtain ⟨l1, l2, h1, h2, h3⟩ := h
  exact ⟨l1, l2, h1, RepL.ren σ first l1 (fun k hk => hm k (by simp [V.refs, hk])) h2, RepL.ren σ caps l2 (fun k hk => hm k (by simp [V.refs, hk])) h3⟩
 | .nilf, x, _, h => h
 | .agg cs, x, hm, h => by
  obtain ⟨l, h1, h2⟩ := h
  exact ⟨l, h1, RepL.ren σ cs l (fun k hk => hm k (by simpa [V.refs] using hk)) h2⟩
 | .tup xs, x, hm, h => by
  obtain ⟨l, h1, h2⟩ := h
  exact ⟨l, h1, RepL.ren σ xs l (fun k hk => hm k (by simpa [V.refs] using hk)) h2⟩
 | .nilm, x, _, h => h
 | .mp k, x, hm, h => by
  obtain ⟨g, loc, h1, h2, h3⟩ := h
  cases h1
  exact ⟨f', loc, rfl, hm k (by simp [V.refs]) _ _ h2, h3⟩
 | .nili, x, _, h => h
 | .ifc t v, x, hm, h => by
  obtain ⟨y, h1, h2⟩ := h
  exact ⟨y, h1, Rep.ren σ v y (fun k hk => hm k (by simpa [V.refs] using hk)) h2⟩
 | .gv k R, x, hm, h => by
  obtain ⟨g, h1, h2⟩ := h
  cases h1
  exact ⟨f', rfl, R.mono _ _ _ (hm k (by simp [V.refs])) h2⟩
 | .pv R, x, hm, h => h
theorem RepL.ren {f f' : M} (σ : Nat → Nat) : ∀ (vs : List V) (l : List Value), (∀ k ∈ refsL vs, ∀ L loc, f k L = some loc → f' (σ k) L = some loc) → RepL (some f) Z vs l → RepL (some f') Z (renL σ vs) l
 | [], l, _, h => h
 | v :: vs, l, hm, h => by
  obtain ⟨x, xs, h1, h2, h3⟩ := h
  exact ⟨x, xs, h1, Rep.ren σ v x (fun k hk => hm k (by simp [refsL, hk])) h2, RepL.ren σ vs xs (fun k hk => hm k (by simp [refsL, hk])) h3⟩
end
mutual
theorem V.ren_id : ∀ v : V, v.ren id = v
 | .undef | .no | .int .. | .bool .. | .str .. | .nilp | .ptr .. | .vp .. | .nils | .sl .. | .vs .. | .nilf | .nilm | .mp .. | .nili | .gv .. | .pv .. => rfl
 | .fn g first caps => by simp only [V.ren, renL_id first, renL_id caps]
 | .agg cs => by simp only [V.ren, renL_id cs]
 | .tup xs => by simp only [V.ren, renL_id xs]
 | .ifc t v => by simp only [V.ren, V.ren_id v]
theorem renL_id : ∀ vs : List V, renL id vs = vs
 | [] => rfl
 | v :: vs => by simp only [renL, V.ren_id v, renL_id vs]
end
theorem Rep.swap {f f' : M} {v : V} {x : Value} (hm : ∀ k ∈ v.refs, ∀ L loc, f k L = some loc → f' k L = some loc) (h : Rep (some f) Z v x) : Rep (some f') Z v x := by
 have := Rep.ren (f := f) (f' := f') id v x hm h
 rwa [V.ren_id] at this
theorem RepL.swap {f f' : M} {vs : List V} {l : List Value} (hm : ∀ k ∈ refsL vs, ∀ L loc, f k L = some loc → f' k L = some loc) (h : RepL (some f) Z vs l) : RepL (some f') Z vs l := by
 have := RepL.ren (f := f) (f' := f') id vs l hm h
 rwa [renL_id] at this
theorem Rep.none_some {v : V} {x : Value} (h : Rep none Z v x) : Rep m Z v x := Rep.up (fun _ _ h => h) (fun f hf => by cases hf) h
theorem RepL.none_some {vs : List V} {l : List Value} (h : RepL none Z vs l) : RepL m Z vs l := RepL.up (fun _ _ h => h) (fun f hf => by cases hf) h

theorem RepL.length : ∀ {vs : List V} {l : List Value}, RepL m Z vs l → l.length = vs.length
 | [], l, h => by cases h; rfl
 | v :: vs, l, h => by
  obtain ⟨x, xs, rfl, _, h3⟩ := h
  simp [RepL.length h3]
theorem RepL.get : ∀ {vs : List V} {l : List Value}, RepL m Z vs l → ∀ {i : Nat} {v : V}, vs[i]? = some v → ∃ x, l[i]? = some x ∧ Rep m Z v x
 | [], l, _, i, v, hv => by simp at hv
 | u :: vs, l, h, i, v, hv => by
  obtain ⟨x, xs, rfl, h2, h3⟩ := h
  cases i with
  | zero => simp at hv; subst hv; exact ⟨x, rfl, h2⟩
  | succ i => exact RepL.get h3 (i := i) (by simpa using hv)
theorem RepL.of_get : ∀ {vs : List V} {l : List Value}, l.length = vs.length → (∀ (i : Nat) (v : V) (x : Value), vs[i]? = some v → l[i]? = some x → Rep m Z v x) → RepL m Z vs l
 | [], l, hl, _ => List.eq_nil_of_length_eq_zero (by simpa using hl)
 | v :: vs, [], hl, _ => by simp at hl
 | v :: vs, x :: xs, hl, h => ⟨x, xs, rfl, h 0 v x rfl rfl, RepL.of_get (by simpa using hl) (fun i u y hu hy => h (i + 1) u y (by simpa using hu) (by simpa using hy))⟩
theorem RepL.append : ∀ {vs us : List V} {l k : List Value}, RepL m Z vs l → RepL m Z us k → RepL m Z (vs ++ us) (l ++ k)
 | [], us, l, k, h, h' => by cases h; exact h'
 | v :: vs, us, l, k, h, h' => by
  obtain ⟨x, xs, rfl, h2, h3⟩ := h
  exact ⟨x, xs ++ k, rfl, h2, RepL.append h3 h'⟩
theorem RepL.take {vs : List V} {l : List Value} (n : Nat) (h : RepL m Z vs l) : RepL m Z (vs.take n) (l.take n) := by
 refine RepL.of_get (by simp [h.length]) fun i v x hv hx => ?_
 rw [List.getElem?_take] at hv hx
 split at hv
 ·rename_i hlt
  rw [if_pos hlt] at hx
  obtain ⟨y, hy, hr⟩ := h.get hv
  rw [hx] at hy; cases hy; exact hr
 ·cases hv
theorem RepL.drop {vs : List V} {l : List Value} (n : Nat) (h : RepL m Z vs l) : RepL m Z (vs.drop n) (l.drop n) := by
 refine RepL.of_get (by simp [h.length]) fun i v x hv hx => ?_
 rw [List.getElem?_drop] at hv hx
 obtain ⟨y, hy, hr⟩ := h.get hv
 rw [hx] at hy; cases hy; exact hr
theorem RepL.set {vs : List V} {l : List Value} (i : Nat) {v : V} {x : Value} (h : RepL m Z vs l) (hv : Rep m Z v x) : RepL m Z (vs.set i v) (l.set i x) := by
 refine RepL.of_get (by simp [h.length]) fun j u y hu hy => ?_
 by_cases hij : i = j
 ·subst hij
  rw [List.getElem?_set_self'] at hu hy
  obtain ⟨_, _, rfl⟩ := Option.map_eq_some_iff.1 hu
  obtain ⟨_, _, rfl⟩ := Option.map_eq_some_iff.1 hy
  exact hv
 ·rw [List.getElem?_set_ne hij] at hu hy
  obtain ⟨z, hz, hr⟩ := h.get hu
  rw [hy] at hz; cases hz; exact hr
theorem RepAt.get {a : Addr} : ∀ {vs : List V} {j : Nat}, RepAt Z a j vs → ∀ {i : Nat} {v : V}, vs[i]? = some v → ∃ x, Z (a.add (j + i)) = some x ∧ Rep none Z v x
 | [], j, _, i, v, hv => by simp at hv
 | u :: vs, j, h, i, v, hv => by
  obtain ⟨⟨x, h1, h2⟩, h3⟩ := h
  cases i with
  | zero => simp at hv; subst hv; exact ⟨x, h1, h2⟩
  | succ i =>
   obtain ⟨y, h4, h5⟩ := RepAt.get h3 (i := i) (v := v) (by simpa using hv)
   exact ⟨y, by rw [← h4]; congr 2; omega, h5⟩
theorem RepAt.of_get {a : Addr} : ∀ {vs : List V} {j : Nat}, (∀ (i : Nat) (v : V), vs[i]? = some v → ∃ x, Z (a.add (j + i)) = some x ∧ Rep none Z v x) → RepAt Z a j vs
 | [], j, _ => trivial
 | u :: vs, j, h => ⟨h 0 u rfl, RepAt.of_get fun i v hv => by
   obtain ⟨x, h1, h2⟩ := h (i + 1) v (by simpa using hv)
   exact ⟨x, by rw [← h1]; congr 2; omega, h2⟩⟩
theorem RepRows.get {a : Addr} {sz : Nat} : ∀ {els : List (List V)} {j : Nat}, RepRows Z a sz j els → ∀ {i : Nat} {cs : List V}, els[i]? = some cs → cs.length = sz ∧ RepAt Z (a.add ((j + i) * sz)) 0 cs
 | [], j, _, i, v, hv => by simp at hv
 | u :: vs, j, h, i, v, hv => by
  obtain ⟨⟨h1, h2⟩, h3⟩ := h
  cases i with
  | zero => simp at hv; subst hv; exact ⟨h1, h2⟩
  | succ i =>
   have := RepRows.get h3 (i := i) (cs := v) (by simpa using hv)
   rw [show j + 1 + i = j + (i + 1) by omega] at this
   exact this
theorem RepRows.of_get {a : Addr} {sz : Nat} : ∀ {els : List (List V)} {j : Nat}, (∀ (i : Nat) (cs : List V), els[i]? = some cs → cs.length = sz ∧ RepAt Z (a.add ((j + i) * sz)) 0 cs) → RepRows Z a sz j els
 | [], j, _ => trivial
 | u :: vs, j, h => ⟨h 0 u rfl, RepRows.of_get fun i v hv => by
   have := h (i + 1) v (by simpa using hv)
   rw [show j + (i + 1) = j + 1 + i by omega] at this
   exact this⟩
end

mutual
theorem Rep.flat {f : M} {Z : ZM} : ∀ (v : V) (x : Value), v.refs = [] → Rep (some f) Z v x → Rep none Z v x
 | .undef, x, _, h => trivial
 | .no, x, _, h => h
 | .int k n, x, _, h => h
 | .bool b, x, _, h => h
 | .str l, x, _, h => h
 | .nilp, x, _, h => h
 | .ptr k L off, x, hr, h => by cases hr
 | .vp cs off, x, _, h => h
 | .nils, x, _, h => h
 | .sl sz k L o n, x, hr, h => by cases hr
 | .vs sz els, x, _, h => h
 | .fn g first caps, x, hr, h => by
  obtain ⟨l1, l2, h1, h2, h3⟩ := h
  obtain ⟨hr1, hr2⟩ := List.append_eq_nil_iff.1 hr
  exact ⟨l1, l2, h1, RepL.flat first l1 hr1 h2, RepL.flat caps l2 hr2 h3⟩
 | .nilf, x, _, h => h
 | .agg cs, x, hr, h => by
  obtain ⟨l, h1, h2⟩ := h
  exact ⟨l, h1, RepL.flat cs l hr h2⟩
 | .tup xs, x, hr, h => by
  obtain ⟨l, h1, h2⟩ := h
  exact ⟨l, h1, RepL.flat xs l hr h2⟩
 | .nilm, x, _, h => h
 | .mp k, x, hr, h => by cases hr
 | .nili, x, _, h => h
 | .ifc t v, x, hr, h => by
  obtain ⟨y, h1, h2⟩ := h
  exact ⟨y, h1, Rep.flat v y hr h2⟩
 | .gv k R, x, hr, h => by cases hr
 | .pv R, x, hr, h => h
theorem RepL.flat {f : M} {Z : ZM} : ∀ (vs : List V) (l : List Value), refsL vs = [] → RepL (some f) Z vs l → RepL none Z vs l
 | [], l, _, h => h
 | v :: vs, l, hr, h => by
  obtain ⟨x, xs, h1, h2, h3⟩ := h
  obtain ⟨hr1, hr2⟩ := List.append_eq_nil_iff.1 hr
  exact ⟨x, xs, h1, Rep.flat v x hr1 h2, RepL.flat vs xs hr2 h3⟩
end
def V.one : V → Bool
 | .undef | .no | .agg _ | .tup _ => false
 | _ => true
theorem Rep.one {m : Option M} {Z : ZM} {v : V} {x : Value} (h : Rep m Z v x) (h1 : v.one = true) : x.oneCell' = true := by
 cases v <;> simp only [V.one, Bool.false_eq_true] at h1 <;> simp only [Rep] at h
 case int => subst h; rfl
 case bool => subst h; rfl
 case str => subst h; rfl
 case nilp => subst h; rfl
 case ptr => obtain ⟨_, _, _, _, rfl⟩ := h; rfl
 case vp => obtain ⟨_, rfl, _⟩ := h; rfl
 case nils => subst h; rfl
 case sl => obtain ⟨_, _, _, _, _, _, rfl | ⟨_, _, rfl⟩ | ⟨_, _, _, _, rfl, _⟩⟩ := h <;> rfl
 case vs => obtain ⟨_, _, rfl, _⟩ := h; rfl
 case fn => obtain ⟨_, _, rfl, _⟩ := h; rfl
 case nilf => subst h; rfl
 case nilm => subst h; rfl
 case mp => obtain ⟨_, _, _, _, rfl⟩ := h; rfl
 case nili => subst h; rfl
 case ifc => obtain ⟨_, rfl, _⟩ := h; rfl
 case gv k R => obtain ⟨_, _, h⟩ := h; first | exact (R.one _ _ h).1 | exact (R.one _ _ h).2
 case pv R => first | exact (R.one _ _ h).1 | exact (R.one _ _ h).2
def V.cells : V → List V
 | .agg cs => cs
 | v => [v]
def V.plain : V → Bool
 | .undef | .no => false
 | _ => true
theorem Rep.cells {m : Option M} {Z : ZM} {v : V} {x : Value} (h : Rep m Z v x) (hp : v.plain = true) : RepL m Z v.cells x.cells.toList := by
 cases v <;> simp only [V.plain, Bool.false_eq_true] at hp <;> simp only [V.cells]
 case agg => obtain ⟨l, rfl, h2⟩ := h; simpa [Value.cells] using h2
 case tup => obtain ⟨l, rfl, h2⟩ := id h; exact ⟨_, [], rfl, h, rfl⟩
 all_goals
  refine ⟨x, [], ?_, h, rfl⟩
  simp only [Rep] at h
 case int => subst h; rfl
 case bool => subst h; rfl
 case str => subst h; rfl
 case nilp => subst h; rfl
 case ptr => obtain ⟨_, _, _, _, rfl⟩ := h; rfl
 case vp => obtain ⟨_, rfl, _⟩ := h; rfl
 case nils => subst h; rfl
 case sl => obtain ⟨_, _, _, _, _, _, rfl | ⟨_, _, rfl⟩ | ⟨_, _, _, _, rfl, _⟩⟩ := h <;> rfl
 case vs => obtain ⟨_, _, rfl, _⟩ := h; rfl
 case fn => obtain ⟨_, _, rfl, _⟩ := h; rfl
 case nilf => subst h; rfl
 case nilm => subst h; rfl
 case mp => obtain ⟨_, _, _, _, rfl⟩ := h; rfl
 case nili => subst h; rfl
 case ifc => obtain ⟨_, rfl, _⟩ := h; rfl
 case gv k R => obtain ⟨_, _, h⟩ := h; first | exact (R.one _ _ h).1 | exact (R.one _ _ h).2
 case pv R => first | exact (R.one _ _ h).1 | exact (R.one _ _ h).2
end Go.EV
namespace Go.EV
open Go Go.RowKit Go.Eng

def isLp : Go.Obj → Bool | .loop _ | .deferred _ => true | _ => false
structure GObj where
  holds : (Nat → Option (Nat × Nat)) → ZM → World → Prop
  blks : (Nat → Option (Nat × Nat)) → Nat → Prop
  some_ : ∀ mk b, blks mk b → ∃ j c, mk j = some (b, c) ∧ c ≠ 0
  own : ∀ mk Z w b, holds mk Z w → blks mk b → ∃ ob, w.heap[b]? = some ob ∧ isLp ob = false
  keep : ∀ mk Z Z' w w', holds mk Z w → (∀ a x, Z a = some x → Z' a = some x) → (∀ b, blks mk b → w'.heap[b]? = w.heap[b]? ∧ ∀ a x, Z' a = some x → a.block = b → Z a = some x) → holds mk Z' w'
instance : Inhabited GObj := ⟨⟨fun _ _ _ => False, fun _ _ => False, fun _ _ h => h.elim, fun _ _ _ _ h => h.elim, fun _ _ _ _ _ h => h.elim⟩⟩
inductive Obj where
  | box (t : TypeId) (cs : List V)
  | row (t : TypeId) (sz fz : Nat) (els : List (List V))
  | map (l : List (V × V))
  | glob (g : Nat) (ob : Go.Obj) (cs : List V)
  | nest (t e sz : Nat) (pd : Option Nat) (ls : List (List (List V)))
  | gen (G : GObj)
  deriving Inhabited
def code (i n : Nat) : Nat := 2 ^ i * (2 * n + 1)
def Obj.ver : Obj → Nat | .row _ _ _ els => els.length | _ => 0
abbrev Heap := List (Nat × Obj)
def keys (H : Heap) : List Nat := H.map (·.1)
def blk1 (m : M) (p : Nat × Obj) : Option Nat := (m p.1 p.2.ver).bind fun loc => if loc.2 = 0 then none else some loc.1
def blkN (mk : Nat → Option (Nat × Nat)) (ls : List (List (List V))) (b : Nat) : Prop := ∃ j c, mk j = some (b, c) ∧ c ≠ 0 ∧ (j = 0 ∨ ∃ i l, ls[i]? = some l ∧ j = code i l.length)
def blk (m : M) (p : Nat × Obj) (b : Nat) : Prop := match p.2 with
  | .nest _ _ _ _ ls => blkN (m p.1) ls b
  | .gen G => G.blks (m p.1) b
  | _ => blk1 m p = some b
theorem blk_congr {m m' : M} {p : Nat × Obj} (h : m' p.1 = m p.1) : blk m' p = blk m p := by
  obtain ⟨k, o⟩ := p
  simp only at h
  funext b
  cases o <;> simp only [blk, blk1, h]
theorem blk_some {m : M} {p : Nat × Obj} {b : Nat} (h : blk m p b) : ∃ j c, m p.1 j = some (b, c) ∧ c ≠ 0 := by
  obtain ⟨k, o⟩ := p
  have one : blk1 m (k, o) = some b → ∃ j c, m k j = some (b, c) ∧ c ≠ 0 := fun h => by
    unfold blk1 at h
    obtain ⟨loc, e1, e2⟩ := Option.bind_eq_some_iff.1 h
    split at e2
    · cases e2
    · rename_i hc; cases e2; exact ⟨_, loc.2, e1, hc⟩
  cases o with
  | nest t e sz pd ls => obtain ⟨j, c, e1, e2, _⟩ := h; exact ⟨j, c, e1, e2⟩
  | gen G => exact G.some_ _ _ h
  | box t cs => exact one h
  | row t sz fz els => exact one h
  | map l => exact one h
  | glob g ob cs => exact one h
def Heap.get : Heap → Nat → Option Obj
  | [], _ => none
  | (k, o) :: r, j => bif Nat.beq j k then some o else Heap.get r j

def RepE (Z : ZM) : List (V × V) → List MapEntry → Prop
  | [], l => l = []
  | (k, v) :: r, l => ∃ e es, l = e :: es ∧ Rep none Z k e.key ∧ Rep none Z v e.val ∧ RepE Z r es
def InnerN (mk : Nat → Option (Nat × Nat)) (Z : ZM) (w : World) (e sz i : Nat) (l : List (List V)) (h : Option Value) : Prop :=
  (l = [] ∧ h = some (.slice none 0 0) ∧ mk (code i 0) = none) ∨ ∃ (b cap : Nat) (cur : Array Value) (fr : Nat × Nat), h = some (.slice (some ⟨b, 0, none⟩) l.length cap) ∧ mk (code i l.length) = some (b, cap) ∧ 0 < l.length ∧ w.heap[b]? = some (.cells cur e fr) ∧ fr.2 = 0 ∧ l.length ≤ cap ∧ cap ≤ maxLen ∧
    cur.size = cap * sz ∧ RepL none Z l.flatten (cur.toList.take (l.length * sz)) ∧ (∀ x ∈ l, x.length = sz) ∧ ∀ a x, Z a = some x → a.block ≠ b
def HoldsN (mk : Nat → Option (Nat × Nat)) (Z : ZM) (w : World) (t e sz : Nat) (pd : Option Nat) (ls : List (List (List V))) : Prop :=
  (ls = [] ∧ pd = some 0 ∧ ∀ b c, mk 0 = some (b, c) → c ≠ 0 → ∃ cur u fr, w.heap[b]? = some (.cells cur u fr)) ∨ 0 < sz ∧ ((ls = [] ∧ (∃ b, mk 0 = some (b, 0)) ∧ ∀ L loc, mk L = some loc → L = 0) ∨ ∃ (b cap : Nat) (cur : Array Value) (fr : Nat × Nat), mk 0 = some (b, cap) ∧ 0 < cap ∧ w.heap[b]? = some (.cells cur t fr) ∧ fr.2 = 0 ∧ cur.size = cap ∧ ls.length = cap ∧ cap ≤ maxLen ∧ (∀ a x, Z a = some x → a.block ≠ b) ∧
    (∀ i l, ls[i]? = some l → ∃ h, InnerN mk Z w e sz i l (some h) ∧ (pd ≠ some i → cur[i]? = some h)) ∧
    (∀ j1 j2 c1 c2 g, mk j1 = some (g, c1) → mk j2 = some (g, c2) → (j1 = 0 ∨ ∃ i l, ls[i]? = some l ∧ j1 = code i l.length) → (j2 = 0 ∨ ∃ i l, ls[i]? = some l ∧ j2 = code i l.length) → c1 ≠ 0 → c2 ≠ 0 → j1 = j2) ∧
    ∀ L loc, mk L = some loc → L = 0 ∨ ∃ i n l, ls[i]? = some l ∧ n ≤ l.length ∧ L = code i n)
def Holds (m : M) (Z : ZM) (w : World) (k : Nat) : Obj → Prop
  | .box t cs => ∃ (b : Nat) (cur : Array Value), m k 0 = some (b, 1) ∧ w.heap[b]? = some (.cells cur t (0, 0)) ∧ RepL (some m) Z cs cur.toList ∧ (∀ a x, Z a = some x → a.block ≠ b) ∧ (∀ L loc, m k L = some loc → L ≤ 0)
  | .row t sz fz els => (0 < sz ∧ els = [] ∧ fz = 0 ∧ (∃ b, m k 0 = some (b, 0)) ∧ (∀ L loc, m k L = some loc → L ≤ 0)) ∨ ∃ (b cap : Nat) (cur : Array Value) (fr : Nat × Nat), m k els.length = some (b, cap) ∧ 0 < cap ∧ w.heap[b]? = some (.cells cur t fr) ∧ els.length ≤ cap ∧ cap ≤ maxLen ∧ cur.size = cap * sz ∧ 0 < sz ∧
      RepL none Z els.flatten (cur.toList.take (els.length * sz)) ∧ (∀ e ∈ els, e.length = sz) ∧ (fr.2 ≤ fz * sz ∨ cap * sz ≤ fr.1) ∧ fz ≤ els.length ∧ (∀ a x, Z a = some x → a.block = b → a.off < fz * sz) ∧ (∀ L loc, m k L = some loc → L ≤ els.length) ∧ (∀ (off : Nat) (x : Value), off < fz * sz → cur[off]? = some x → Z ⟨b, off, none⟩ = some x)
  | .map l => ∃ (b : Nat) (es : Array MapEntry) (clock : Nat), m k 0 = some (b, 1) ∧ w.heap[b]? = some (.map es clock) ∧ RepE Z l es.toList ∧ (es.toList.Pairwise fun x y => x.born < y.born) ∧ (∀ e ∈ es.toList, e.born < clock) ∧ (∀ a x, Z a = some x → a.block ≠ b) ∧ (∃ L0, ∀ L loc, m k L = some loc → L ≤ L0)
  | .glob g ob cs => m k 0 = some (g, 1) ∧ (w.heap[g]? = some ob ∧ ∃ cur u fr, ob = .cells cur u fr ∧ RepL none Z cs cur.toList) ∧ ∀ L loc, m k L = some loc → L ≤ 0
  | .nest t e sz pd ls => HoldsN (m k) Z w t e sz pd ls
  | .gen G => G.holds (m k) Z w

theorem HoldsN.own {mk : Nat → Option (Nat × Nat)} {Z : ZM} {w : World} {t e sz : Nat} {pd : Option Nat} {ls : List (List (List V))} (h : HoldsN mk Z w t e sz pd ls) {b : Nat} (hb : blkN mk ls b) : ∃ cur u fr, w.heap[b]? = some (.cells cur u fr) := by
  obtain ⟨rfl, _, hd⟩ | ⟨_, ⟨rfl, ⟨b0, h1⟩, _⟩ | ⟨b0, cap, cur, fr, h1, h2, h3, _, _, _, _, _, h9, _⟩⟩ := h
  · obtain ⟨j, c, e1, e2, rfl | ⟨i, l, e3, rfl⟩⟩ := hb
    · exact hd b c e1 e2
    · simp at e3
  · obtain ⟨j, c, e1, e2, rfl | ⟨i, l, e3, rfl⟩⟩ := hb
    · rw [h1] at e1; cases e1; exact absurd rfl e2
    · simp at e3
  · obtain ⟨j, c, e1, e2, rfl | ⟨i, l, e3, rfl⟩⟩ := hb
    · rw [h1] at e1; cases e1; exact ⟨_, _, _, h3⟩
    · obtain ⟨hd, hI, _⟩ := h9 i l e3
      rcases hI with ⟨rfl, _, e4⟩ | ⟨b', cap', cur', fr', _, g2, _, g4, _⟩
      · rw [List.length_nil, e4] at e1; cases e1
      · rw [g2] at e1; cases e1; exact ⟨_, _, _, g4⟩
theorem HoldsN.keep {mk : Nat → Option (Nat × Nat)} {Z Z' : ZM} {w w' : World} {t e sz : Nat} {pd : Option Nat} {ls : List (List (List V))} (h : HoldsN mk Z w t e sz pd ls) (hZ : ∀ a x, Z a = some x → Z' a = some x)
    (hw : ∀ b, blkN mk ls b → w'.heap[b]? = w.heap[b]? ∧ ∀ a x, Z' a = some x → a.block = b → Z a = some x) : HoldsN mk Z' w' t e sz pd ls := by
  obtain ⟨rfl, rfl, hd⟩ | ⟨h0, hh | ⟨b0, cap, cur, fr, h1, h2, h3, h4, h5, h6, h7, h8, h9, h10, h11⟩⟩ := h
  · refine .inl ⟨rfl, rfl, fun b c e1 e2 => ?_⟩
    obtain ⟨cur, u, fr, h3⟩ := hd b c e1 e2
    exact ⟨cur, u, fr, (hw b ⟨0, c, e1, e2, .inl rfl⟩).1.trans h3⟩
  · exact .inr ⟨h0, .inl hh⟩
  · obtain ⟨hw0, hz0⟩ := hw b0 ⟨0, cap, h1, by omega, .inl rfl⟩
    refine .inr ⟨h0, .inr ⟨b0, cap, cur, fr, h1, h2, hw0.trans h3, h4, h5, h6, h7, fun a x ha e => h8 a x (hz0 a x ha e) e, fun i l hl => ?_, h10, h11⟩⟩
    obtain ⟨hd, hI, hc⟩ := h9 i l hl
    refine ⟨hd, ?_, hc⟩
    rcases hI with hh | ⟨b', cap', cur', fr', g1, g2, g3, g4, g5, g6, g7, g8, g9, g10, g11⟩
    · exact .inl hh
    · obtain ⟨hw1, hz1⟩ := hw b' ⟨_, cap', g2, by omega, .inr ⟨i, l, hl, rfl⟩⟩
      exact .inr ⟨b', cap', cur', fr', g1, g2, g3, hw1.trans g4, g5, g6, g7, g8, g9.up hZ (fun f e => by cases e), g10, fun a x ha e => g11 a x (hz1 a x ha e) e⟩
structure SimH (m : M) (Z : ZM) (H : Heap) (w : World) : Prop where
  frozen : ∀ a x, Z a = some x → w.cell? a = some x
  holds : ∀ p ∈ H, Holds m Z w p.1 p.2
  nodup : (keys H).Nodup
  disj : ∀ p ∈ H, ∀ q ∈ H, ∀ b, blk m p b → blk m q b → p.1 = q.1

structure Step (m : M) (Z : ZM) (F : Heap) (w : World) (m' : M) (Z' : ZM) (F' : Heap) (w' : World) : Prop where
  sim : SimH m' Z' F' w'
  mext : ∀ k L loc, m k L = some loc → m' k L = some loc
  zext : ∀ a x, Z a = some x → Z' a = some x
  os : w'.os = w.os
  tape : w'.tape = w.tape
  output : w'.output = w.output
  size : w.heap.size ≤ w'.heap.size
  frame : ∀ b, b < w.heap.size → (∀ p ∈ F, ¬ blk m p b) → w'.heap[b]? = w.heap[b]?
  keep : ∀ k ∈ keys F, k ∈ keys F'
  newk : ∀ k, k ∉ keys F' → m' k = m k
  blks : ∀ p ∈ F', ∀ b, blk m' p b → w.heap.size ≤ b ∨ ∃ q ∈ F, blk m q b
  znew : ∀ a x, Z' a = some x → Z a = some x ∨ w.heap.size ≤ a.block ∨ ∃ q ∈ F, blk m q a.block

theorem Holds.blk {m : M} {Z : ZM} {w : World} {k : Nat} {o : Obj} (h : Holds m Z w k o) : ∀ b, EV.blk m (k, o) b → b < w.heap.size := by
  intro b' hb'
  cases o with
  | box t cs =>
    obtain ⟨b, cur, h1, h2, _⟩ := h
    simp [EV.blk, EV.blk1, Obj.ver, h1] at hb'
    subst hb'
    exact (Array.getElem?_eq_some_iff.1 h2).1
  | row t sz fz els =>
    rcases h with ⟨_, rfl, _, ⟨b, h1⟩, _⟩ | ⟨b, cap, cur, fr, h1, h0, h2, _⟩
    · simp [EV.blk, EV.blk1, Obj.ver, h1] at hb'
    · have : cap ≠ 0 := by omega
      simp [EV.blk, EV.blk1, Obj.ver, h1, this] at hb'
      subst hb'
      exact (Array.getElem?_eq_some_iff.1 h2).1
  | map l =>
    obtain ⟨b, es, clock, h1, h2, _⟩ := h
    simp [EV.blk, EV.blk1, Obj.ver, h1] at hb'
    subst hb'
    exact (Array.getElem?_eq_some_iff.1 h2).1
  | glob g ob cs =>
    obtain ⟨h1, ⟨h2, _⟩, _⟩ := h
    simp [EV.blk, EV.blk1, Obj.ver, h1] at hb'
    subst hb'
    exact (Array.getElem?_eq_some_iff.1 h2).1
  | nest t e sz pd ls =>
    obtain ⟨cur, u, fr, h2⟩ := HoldsN.own h hb'
    exact (Array.getElem?_eq_some_iff.1 h2).1
  | gen G =>
    obtain ⟨ob, h2, _⟩ := G.own _ _ _ _ h hb'
    exact (Array.getElem?_eq_some_iff.1 h2).1
theorem Holds.notLp {m : M} {Z : ZM} {w : World} {k : Nat} {o : Obj} (h : Holds m Z w k o) : ∀ b, EV.blk m (k, o) b → ∃ ob, w.heap[b]? = some ob ∧ isLp ob = false := by
  intro b' hb'
  cases o with
  | box t cs =>
    obtain ⟨b, cur, h1, h2, _⟩ := h
    simp [EV.blk, EV.blk1, Obj.ver, h1] at hb'
    subst hb'
    exact ⟨_, h2, rfl⟩
  | row t sz fz els =>
    rcases h with ⟨_, rfl, _, ⟨b, h1⟩, _⟩ | ⟨b, cap, cur, fr, h1, h0, h2, _⟩
    · simp [EV.blk, EV.blk1, Obj.ver, h1] at hb'
    · have : cap ≠ 0 := by omega
      simp [EV.blk, EV.blk1, Obj.ver, h1, this] at hb'
      subst hb'
      exact ⟨_, h2, rfl⟩
  | map l =>
    obtain ⟨b, es, clock, h1, h2, _⟩ := h
    simp [EV.blk, EV.blk1, Obj.ver, h1] at hb'
    subst hb'
    exact ⟨_, h2, rfl⟩
  | glob g ob cs =>
    obtain ⟨h1, ⟨h2, cur, u, fr, rfl, _⟩, _⟩ := h
    simp [EV.blk, EV.blk1, Obj.ver, h1] at hb'
    subst hb'
    exact ⟨_, h2, rfl⟩
  | nest t e sz pd ls =>
    obtain ⟨cur, u, fr, h2⟩ := HoldsN.own h hb'
    exact ⟨_, h2, rfl⟩
  | gen G => exact G.own _ _ _ _ h hb'
theorem RepE.up {Z Z' : ZM} (hZ : ∀ a x, Z a = some x → Z' a = some x) : ∀ {l : List (V × V)} {es : List MapEntry}, RepE Z l es → RepE Z' l es
  | [], _, h => h
  | (k, v) :: r, _, h => by
    obtain ⟨e, es, h1, h2, h3, h4⟩ := h
    exact ⟨e, es, h1, h2.up hZ (fun f hf => by cases hf), h3.up hZ (fun f hf => by cases hf), RepE.up hZ h4⟩
theorem Holds.keep {m m' : M} {Z Z' : ZM} {w w' : World} {k : Nat} {o : Obj} (h : Holds m Z w k o) (hm : ∀ k L loc, m k L = some loc → m' k L = some loc) (hk : m' k = m k)
    (hZ : ∀ a x, Z a = some x → Z' a = some x) (hw : ∀ b, EV.blk m (k, o) b → w'.heap[b]? = w.heap[b]? ∧ ∀ a x, Z' a = some x → a.block = b → Z a = some x) : Holds m' Z' w' k o := by
  have hf : ∀ f, some m = some f → ∃ f', some m' = some f' ∧ ∀ k L loc, f k L = some loc → f' k L = some loc := fun f e => by cases e; exact ⟨m', rfl, hm⟩
  cases o with
  | box t cs =>
    obtain ⟨b', cur, h1, h2, h3, h4, h5⟩ := h
    obtain ⟨hw, hz⟩ := hw b' (by simp [EV.blk, EV.blk1, Obj.ver, h1])
    exact ⟨b', cur, by rw [hk]; exact h1, hw.trans h2, h3.up hZ hf, fun a x ha e => h4 a x (hz a x ha e) e, by rw [hk]; exact h5⟩
  | row t sz fz els =>
    rcases h with ⟨h0, h1, h2, ⟨b, h3⟩, h4⟩ | ⟨b', cap, cur, fr, h1, h0, h2, h3, h4, h5, h6, h7, h8, h9, h10, h11, h12, h13⟩
    · exact .inl ⟨h0, h1, h2, ⟨b, by rw [hk]; exact h3⟩, by rw [hk]; exact h4⟩
    · have : cap ≠ 0 := by omega
      obtain ⟨hw, hz⟩ := hw b' (by simp [EV.blk, EV.blk1, Obj.ver, h1, this])
      exact .inr ⟨b', cap, cur, fr, by rw [hk]; exact h1, h0, hw.trans h2, h3, h4, h5, h6, h7.up hZ (fun f e => by cases e), h8, h9, h10, fun a x ha e => h11 a x (hz a x ha e) e, by rw [hk]; exact h12, fun off x ho hx => hZ _ _ (h13 off x ho hx)⟩
  | map l =>
    obtain ⟨b', es, clock, h1, h2, h3, h4, h5, h6, h7⟩ := h
    obtain ⟨hw, hz⟩ := hw b' (by simp [EV.blk, EV.blk1, Obj.ver, h1])
    exact ⟨b', es, clock, by rw [hk]; exact h1, hw.trans h2, h3.up hZ, h4, h5, fun a x ha e => h6 a x (hz a x ha e) e, by rw [hk]; exact h7⟩
  | glob g ob cs =>
    obtain ⟨h1, ⟨h2, cur, u, fr, h5, h3⟩, h4⟩ := h
    exact ⟨by rw [hk]; exact h1, ⟨(hw g (by simp [EV.blk, EV.blk1, Obj.ver, h1])).1.trans h2, cur, u, fr, h5, h3.up hZ (fun f e => by cases e)⟩, by rw [hk]; exact h4⟩
  | nest t e sz pd ls =>
    show HoldsN (m' k) Z' w' t e sz pd ls
    rw [hk]
    exact HoldsN.keep h hZ hw
  | gen G =>
    show G.holds (m' k) Z' w'
    rw [hk]
    exact G.keep _ _ _ _ _ h hZ hw

section
variable {m m' m2 : M} {Z Z' Z2 : ZM} {F F' F2 G H : Heap} {w w' w2 : World}
theorem mem_keys {p : Nat × Obj} (h : p ∈ H) : p.1 ∈ keys H := List.mem_map_of_mem h
theorem keys_append : keys (F ++ G) = keys F ++ keys G := by simp [keys]
theorem SimH.left (h : SimH m Z (F ++ G) w) : SimH m Z F w :=
  ⟨h.frozen, fun p hp => h.holds p (List.mem_append_left _ hp), by have := h.nodup; rw [keys_append] at this; exact (List.nodup_append.1 this).1,
   fun p hp q hq b => h.disj p (List.mem_append_left _ hp) q (List.mem_append_left _ hq) b⟩
theorem SimH.perm (h : SimH m Z F w) (hp : F.Perm F') : SimH m Z F' w :=
  ⟨h.frozen, fun p hq => h.holds p (hp.mem_iff.2 hq), (hp.map _).nodup_iff.1 h.nodup, fun p hq q hr => h.disj p (hp.mem_iff.2 hq) q (hp.mem_iff.2 hr)⟩
theorem apart_of_nodup (h : (keys (F ++ G)).Nodup) {p q : Nat × Obj} (hp : p ∈ F) (hq : q ∈ G) : p.1 ≠ q.1 := by
  rw [keys_append] at h
  exact (List.nodup_append.1 h).2.2 _ (mem_keys hp) _ (mem_keys hq)
theorem Step.frame_rule (hs : SimH m Z (F ++ G) w) (h : Step m Z F w m' Z' F' w') (hap : ∀ p ∈ F', ∀ q ∈ G, p.1 ≠ q.1) : Step m Z (F ++ G) w m' Z' (F' ++ G) w' := by
  have hblkG : ∀ q ∈ G, ∀ b, blk m q b → b < w.heap.size ∧ ∀ p ∈ F, ¬ blk m p b := fun q hq b hb => by
    exact ⟨(hs.holds q (List.mem_append_right _ hq)).blk b hb, fun p hp hpb => apart_of_nodup hs.nodup hp hq (hs.disj p (List.mem_append_left _ hp) q (List.mem_append_right _ hq) b hpb hb)⟩
  have hkG : ∀ q ∈ G, m' q.1 = m q.1 := fun q hq => h.newk _ fun hk => by
    obtain ⟨p, hp, e⟩ := List.mem_map.1 hk
    exact hap p hp q hq e
  have hbG : ∀ q ∈ G, blk m' q = blk m q := fun q hq => blk_congr (hkG q hq)
  have hholdG : ∀ q ∈ G, Holds m' Z' w' q.1 q.2 := fun q hq => by
    refine (hs.holds q (List.mem_append_right _ hq)).keep h.mext (hkG q hq) h.zext fun b h1 => ?_
    have h3 := hblkG q hq b h1
    refine ⟨h.frame b h3.1 h3.2, fun a x ha e => ?_⟩
    rcases h.znew a x ha with h' | h' | ⟨p, hp, hpb⟩
    · exact h'
    · omega
    · rw [e] at hpb; exact absurd hpb (h3.2 p hp)
  refine ⟨⟨h.sim.frozen, fun p hp => ?_, ?_, fun p hp q hq b h1 h2 => ?_⟩, h.mext, h.zext, h.os, h.tape, h.output, h.size, fun b hb hn => h.frame b hb fun p hp => hn p (List.mem_append_left _ hp), fun k hk => ?_, fun k hk => ?_, fun p hp b hb => ?_, fun a x ha => ?_⟩
  · rcases List.mem_append.1 hp with hp | hp
    · exact h.sim.holds p hp
    · exact hholdG p hp
  · rw [keys_append]
    refine List.nodup_append.2 ⟨h.sim.nodup, ?_, fun a ha b hb => ?_⟩
    · have := hs.nodup
      rw [keys_append] at this
      exact (List.nodup_append.1 this).2.1
    · obtain ⟨p, hp, rfl⟩ := List.mem_map.1 ha
      obtain ⟨q, hq, rfl⟩ := List.mem_map.1 hb
      exact hap p hp q hq
  · have key : ∀ p ∈ F', ∀ q ∈ G, blk m' p b → blk m' q b → False := fun p hp q hq hpb hqb => by
      rw [hbG q hq] at hqb
      have h3 := hblkG q hq b hqb
      rcases h.blks p hp b hpb with h' | ⟨r, hr, hrb⟩
      · omega
      · exact h3.2 r hr hrb
    rcases List.mem_append.1 hp with hp | hp <;> rcases List.mem_append.1 hq with hq | hq
    · exact h.sim.disj p hp q hq b h1 h2
    · exact (key p hp q hq h1 h2).elim
    · exact (key q hq p hp h2 h1).elim
    · rw [hbG p hp] at h1
      rw [hbG q hq] at h2
      exact hs.disj p (List.mem_append_right _ hp) q (List.mem_append_right _ hq) b h1 h2
  · rw [keys_append, List.mem_append] at hk ⊢
    exact hk.imp (h.keep k) id
  · rw [keys_append, List.mem_append, not_or] at hk
    exact h.newk k hk.1
  · rcases List.mem_append.1 hp with hp | hp
    · exact (h.blks p hp b hb).imp id fun ⟨q, hq, e⟩ => ⟨q, List.mem_append_left _ hq, e⟩
    · exact .inr ⟨p, List.mem_append_right _ hp, by rw [← hbG p hp]; exact hb⟩
  · exact (h.znew a x ha).imp id (Or.imp id fun ⟨q, hq, e⟩ => ⟨q, List.mem_append_left _ hq, e⟩)
theorem Step.trans (h : Step m Z F w m' Z' F' w') (k : Step m' Z' F' w' m2 Z2 F2 w2) : Step m Z F w m2 Z2 F2 w2 := by
  refine ⟨k.sim, fun _ _ _ e => k.mext _ _ _ (h.mext _ _ _ e), fun _ _ e => k.zext _ _ (h.zext _ _ e), k.os.trans h.os, k.tape.trans h.tape, k.output.trans h.output, Nat.le_trans h.size k.size, fun b hb hn => ?_,
    fun a ha => k.keep a (h.keep a ha), fun a ha => (k.newk a ha).trans (h.newk a fun h' => ha (k.keep a h')), fun p hp b hb => ?_, fun a x ha => ?_⟩
  · rw [k.frame b (by have := h.size; omega) fun p hp e => ?_, h.frame b hb hn]
    rcases h.blks p hp b e with h' | ⟨q, hq, e'⟩
    · omega
    · exact hn q hq e'
  · rcases k.blks p hp b hb with h' | ⟨q, hq, e'⟩
    · exact .inl (by have := h.size; omega)
    · exact h.blks q hq b e'
  · rcases k.znew a x ha with h' | h' | ⟨q, hq, e'⟩
    · exact h.znew a x h'
    · exact .inr (.inl (by have := h.size; omega))
    · exact .inr (h.blks q hq _ e')
theorem Step.refl (h : SimH m Z F w) : Step m Z F w m Z F w :=
  ⟨h, fun _ _ _ e => e, fun _ _ e => e, rfl, rfl, rfl, Nat.le_refl _, fun _ _ _ => rfl, fun _ h => h, fun _ _ => rfl, fun p hp b hb => .inr ⟨p, hp, hb⟩, fun _ _ h => .inl h⟩
theorem Step.permL (h : Step m Z F w m' Z' F' w') (hp : F.Perm F2) : Step m Z F2 w m' Z' F' w' :=
  ⟨h.sim, h.mext, h.zext, h.os, h.tape, h.output, h.size, fun b hb hn => h.frame b hb fun p hq => hn p (hp.mem_iff.1 hq), fun k hk => h.keep k ((hp.map _).mem_iff.2 hk), h.newk,
   fun p hq b hb => (h.blks p hq b hb).imp id fun ⟨q, hr, e⟩ => ⟨q, hp.mem_iff.1 hr, e⟩, fun a x ha => (h.znew a x ha).imp id (Or.imp id fun ⟨q, hr, e⟩ => ⟨q, hp.mem_iff.1 hr, e⟩)⟩
theorem Step.permR (h : Step m Z F w m' Z' F' w') (hp : F'.Perm F2) : Step m Z F w m' Z' F2 w' :=
  ⟨h.sim.perm hp, h.mext, h.zext, h.os, h.tape, h.output, h.size, h.frame, fun k hk => (hp.map _).mem_iff.1 (h.keep k hk), fun k hk => h.newk k fun h' => hk ((hp.map _).mem_iff.1 h'),
   fun p hq => h.blks p (hp.mem_iff.2 hq), h.znew⟩
theorem Step.same (h : SimH m Z F w) (hh : w'.heap = w.heap) (h1 : w'.os = w.os) (h2 : w'.tape = w.tape) (h3 : w'.output = w.output) : Step m Z F w m Z F w' := by
  refine ⟨⟨fun a x ha => ?_, fun p hp => ?_, h.nodup, h.disj⟩, fun _ _ _ e => e, fun _ _ e => e, h1, h2, h3, by rw [hh]; exact Nat.le_refl _, fun _ _ _ => by rw [hh], fun _ h => h, fun _ _ => rfl, fun p hp b hb => .inr ⟨p, hp, hb⟩, fun _ _ h => .inl h⟩
  · have := h.frozen a x ha
    simpa only [World.cell?, hh] using this
  · exact (h.holds p hp).keep (fun _ _ _ e => e) rfl (fun _ _ e => e) fun b _ => ⟨by rw [hh], fun _ _ e _ => e⟩
end

/- the frame -/
abbrev Env := List (Nat × V)
def Env.get : Env → Nat → V
  | [], _ => .undef
  | (d, v) :: r, t => bif Nat.beq t d then v else Env.get r t
def RepS (m : M) (Z : ZM) (ρ : Env) (ρr : Slots) : Prop := ∀ t, Rep (some m) Z (ρ.get t) (ρr t)

structure Ctx (K0 : List Nat) where
  W0 : World
  m0 : M
  Z0 : ZM
  F0 : Heap
  hk : keys F0 = K0
  dom0 : ∀ k, k ∉ K0 → ∀ L, m0 k L = none
structure SimC {K0 : List Nat} (c : Ctx K0) (m : M) (Z : ZM) (H : Heap) (w : World) : Prop where
  step : Step c.m0 c.Z0 c.F0 c.W0 m Z H w
  dom : ∀ k, k ∉ keys H → ∀ L, m k L = none
def SimA {K0 : List Nat} (c : Ctx K0) (ρ : Env) (H : Heap) (ρr : Slots) (w : World) : Prop := ∃ m Z, SimC c m Z H w ∧ RepS m Z ρ ρr

theorem Step.lp {m m' : M} {Z Z' : ZM} {F F' : Heap} {w w' : World} (hs : SimH m Z F w) (h : Step m Z F w m' Z' F' w') {b : Nat} {ob : Go.Obj} (hb : w.heap[b]? = some ob) (hl : isLp ob = true) : w'.heap[b]? = some ob := by
  rw [h.frame b (Array.getElem?_eq_some_iff.1 hb).1 fun p hp e => ?_, hb]
  obtain ⟨ob', h1, h2⟩ := (hs.holds p hp).notLp b e
  rw [hb] at h1; cases h1
  rw [hl] at h2; cases h2
def MarksOK {K0 : List Nat} (c : Ctx K0) (ds : List Deferred) (w : World) : Prop := ∃ Ds : List Nat, ds = Ds.map Eng.mark ∧ Ds.Nodup ∧ ∀ D ∈ Ds, w.heap[D]? = some (.deferred (some [])) ∧ c.W0.heap.size ≤ D
theorem MarksOK.nil {K0 : List Nat} {c : Ctx K0} {w : World} : MarksOK c [] w := ⟨[], rfl, List.nodup_nil, fun _ h => by cases h⟩
theorem MarksOK.step {K0 : List Nat} {c : Ctx K0} {ds : List Deferred} {m m' : M} {Z Z' : ZM} {F F' : Heap} {w w' : World} (h : MarksOK c ds w) (hs : SimH m Z F w) (st : Step m Z F w m' Z' F' w') : MarksOK c ds w' := by
  obtain ⟨Ds, h1, h2, h3⟩ := h
  exact ⟨Ds, h1, h2, fun D hD => ⟨st.lp hs (h3 D hD).1 rfl, (h3 D hD).2⟩⟩
theorem MarksOK.same {K0 : List Nat} {c : Ctx K0} {ds : List Deferred} {w w' : World} (h : MarksOK c ds w) (hh : w'.heap = w.heap) : MarksOK c ds w' := by
  obtain ⟨Ds, h1, h2, h3⟩ := h
  exact ⟨Ds, h1, h2, fun D hD => by rw [hh]; exact h3 D hD⟩
theorem SimC.lps {K0 : List Nat} {c : Ctx K0} {m : M} {Z : ZM} {H : Heap} {w w' : World} {row : Option Nat} (S : SimC c m Z H w) (hg : w.grownBy w' row) (hr : ∀ b, row = some b → c.W0.heap.size ≤ b ∧ ∃ o, w.heap[b]? = some o ∧ isLp o = true) : SimC c m Z H w' := by
  have hs := S.step
  have hblk : ∀ p ∈ H, ∀ b, blk m p b → w'.heap[b]? = w.heap[b]? := fun p hp b hb => by
    obtain ⟨ob, h1, h2⟩ := (hs.sim.holds p hp).notLp b hb
    refine hg.block b (Array.getElem?_eq_some_iff.1 h1).1 fun e => ?_
    obtain ⟨_, o, h3, h4⟩ := hr b e.symm
    rw [h1] at h3; cases h3
    rw [h4] at h2; cases h2
  have hz : ∀ a x, Z a = some x → w'.cell? a = w.cell? a := fun a x ha => by
    have h1 := hs.sim.frozen a x ha
    have h2 := World.block_lt_of_cell? w a h1
    have : w'.heap[a.block]? = w.heap[a.block]? := by
      refine hg.block _ h2 fun e => ?_
      obtain ⟨_, o, h3, h4⟩ := hr _ e.symm
      simp only [World.cell?, h3] at h1
      cases o <;> simp [isLp] at h4 <;> cases h1
    simp only [World.cell?, this]
  refine ⟨⟨⟨fun a x ha => (hz a x ha).trans (hs.sim.frozen a x ha), fun p hp => (hs.sim.holds p hp).keep (fun _ _ _ e => e) rfl (fun _ _ e => e) fun b hb => ⟨hblk p hp b hb, fun _ _ e _ => e⟩, hs.sim.nodup, hs.sim.disj⟩, hs.mext, hs.zext, hg.os.trans hs.os, hg.tape.trans hs.tape, hg.output.trans hs.output, Nat.le_trans hs.size hg.size, fun b hb hn => ?_, hs.keep, hs.newk, hs.blks, hs.znew⟩, S.dom⟩
  rw [hg.block b (Nat.lt_of_lt_of_le hb hs.size) fun e => by have := (hr b e.symm).1; omega]
  exact hs.frame b hb hn
abbrev PostV := Exit → Env → Heap → List Deferred → Prop
def liftV {K0 : List Nat} (c : Ctx K0) (Q : PostV) (ds : List Deferred) : Post := fun e ρr ds1 w => ∃ ρ H, SimA c ρ H ρr w ∧ MarksOK c ds1 w ∧ Q e ρ H ds
def WpV {K0 : List Nat} (c : Ctx K0) (P : Program) (r : Option Nat) (N : Nat) (code : Code) (Q : PostV) (ρ : Env) (H : Heap) (ds : List Deferred) : Prop :=
  ∀ ρr w ds1, SimA c ρ H ρr w → MarksOK c ds1 w → Wp P r N code (liftV c Q ds) ρr ds1 w
def thenV (K : Env → Heap → List Deferred → Prop) (Q : PostV) : PostV
  | .normal, ρ, H, ds => K ρ H ds
  | e, ρ, H, ds => Q e ρ H ds
def blkV (id : Nat) (Q : PostV) : PostV
  | .exit i, ρ, H, ds => if i = id then Q .normal ρ H ds else Q (.exit i) ρ H ds
  | e, ρ, H, ds => Q e ρ H ds

theorem RepS.put {m : M} {Z : ZM} {ρ : Env} {ρr : Slots} {v : V} {x : Value} (h : RepS m Z ρ ρr) (d : Nat) (hv : Rep (some m) Z v x) : RepS m Z ((d, v) :: ρ) (upd ρr d x) := by
  intro t
  show Rep (some m) Z (bif Nat.beq t d then v else ρ.get t) (bif Nat.beq t d then x else ρr t)
  cases Nat.beq t d with
  | true => exact hv
  | false => exact h t
theorem RepS.up {m m' : M} {Z Z' : ZM} {ρ : Env} {ρr : Slots} (h : RepS m Z ρ ρr) (hZ : ∀ a x, Z a = some x → Z' a = some x) (hm : ∀ k L loc, m k L = some loc → m' k L = some loc) : RepS m' Z' ρ ρr :=
  fun t => (h t).up hZ fun f e => by cases e; exact ⟨m', rfl, hm⟩

section
variable {K0 : List Nat} {c : Ctx K0} {P : Program} {r : Option Nat} {N : Nat} {Q : PostV} {ρ : Env} {H : Heap} {ds : List Deferred}
theorem v_skip (h : Q .normal ρ H ds) : WpV c P r N .skip Q ρ H ds := fun _ _ _ S hM => w_skip ⟨ρ, H, S, hM, h⟩
theorem v_exit {id : Nat} (h : Q (.exit id) ρ H ds) : WpV c P r N (.exit id) Q ρ H ds := fun _ _ _ S hM => w_exit ⟨ρ, H, S, hM, h⟩
theorem v_ret (h : Q .ret ρ H ds) : WpV c P r N .ret Q ρ H ds := fun _ _ _ S hM => w_ret ⟨ρ, H, S, hM, h⟩
theorem v_seq {x y : Code} (h : WpV c P r N x (thenV (fun ρ H ds => WpV c P r N y Q ρ H ds) Q) ρ H ds) : WpV c P r N (.seq x y) Q ρ H ds :=
  fun ρr w ds1 S hM => w_seq (w_mono (h ρr w ds1 S hM) fun e ρr' ds' w' ⟨ρ', H', S', hM', hQ⟩ => by
    cases e with
    | normal => exact hQ ρr' w' ds' S' hM'
    | exit id => exact ⟨ρ', H', S', hM', hQ⟩
    | goto l => exact ⟨ρ', H', S', hM', hQ⟩
    | ret => exact ⟨ρ', H', S', hM', hQ⟩
    | panic ch => exact ⟨ρ', H', S', hM', hQ⟩
    | outgrown => exact ⟨ρ', H', S', hM', hQ⟩)
theorem v_block {id : Nat} {x : Code} (h : WpV c P r N x (blkV id Q) ρ H ds) : WpV c P r N (.block id x) Q ρ H ds :=
  fun ρr w ds1 S hM => w_block (w_mono (h ρr w ds1 S hM) fun e ρr' ds' w' ⟨ρ', H', S', hM', hQ⟩ => by
    cases e with
    | exit i =>
      simp only [blkV] at hQ
      simp only [inBlk]
      split
      · rename_i he; rw [if_pos he] at hQ; exact ⟨ρ', H', S', hM', hQ⟩
      · rename_i he; rw [if_neg he] at hQ; exact ⟨ρ', H', S', hM', hQ⟩
    | normal => exact ⟨ρ', H', S', hM', hQ⟩
    | goto l => exact ⟨ρ', H', S', hM', hQ⟩
    | ret => exact ⟨ρ', H', S', hM', hQ⟩
    | panic ch => exact ⟨ρ', H', S', hM', hQ⟩
    | outgrown => exact ⟨ρ', H', S', hM', hQ⟩)
theorem nrm_thenV {K : Env → Heap → List Deferred → Prop} (h : K ρ H ds) : thenV K Q .normal ρ H ds := h
theorem ret_thenV {K : Env → Heap → List Deferred → Prop} (h : Q .ret ρ H ds) : thenV K Q .ret ρ H ds := h
theorem exit_thenV {id : Nat} {K : Env → Heap → List Deferred → Prop} (h : Q (.exit id) ρ H ds) : thenV K Q (.exit id) ρ H ds := h
theorem nrm_blkV {id : Nat} (h : Q .normal ρ H ds) : blkV id Q .normal ρ H ds := h
theorem ret_blkV {id : Nat} (h : Q .ret ρ H ds) : blkV id Q .ret ρ H ds := h
theorem exit_blkV {id : Nat} (h : Q .normal ρ H ds) : blkV id Q (.exit id) ρ H ds := by
  show (if id = id then Q .normal ρ H ds else Q (.exit id) ρ H ds)
  rw [if_pos rfl]; exact h
theorem exit_blkV_other {id i : Nat} (hne : Nat.beq i id = false) (h : Q (.exit i) ρ H ds) : blkV id Q (.exit i) ρ H ds := by
  show (if i = id then Q .normal ρ H ds else Q (.exit i) ρ H ds)
  rw [if_neg (fun e => by subst e; rw [Nat.beq_refl] at hne; cases hne)]
  exact h
end
/- operands -/
def ofC1 : Value → V
  | .int k n => .int k n
  | .bool b => .bool b
  | .string s => .str s.data.toList
  | .pointer none => .nilp
  | .slice none 0 0 => .nils
  | .nilFunc => .nilf
  | .map none => .nilm
  | .nilIface => .nili
  | .func (.func f) a b => if a.size = 0 ∧ b.size = 0 then .fn f [] [] else .undef
  | _ => .undef
def ofC : Value → V
  | .agg cs => .agg (cs.toList.map ofC1)
  | v => ofC1 v
def evV (ρ : Env) : Operand → V
  | .tmp t => ρ.get t
  | .const v => ofC v
  | .global _ => .undef
  | .func f => .fn f [] []
theorem rep_ofC1 {m : Option M} {Z : ZM} (v : Value) : Rep m Z (ofC1 v) v := by
  unfold ofC1
  split
  · rfl
  · rfl
  · show _ = _; simp
  · rfl
  · rfl
  · rfl
  · rfl
  · rfl
  · split
    · rename_i h
      exact ⟨[], [], by rw [Array.eq_empty_of_size_eq_zero h.1, Array.eq_empty_of_size_eq_zero h.2], rfl, rfl⟩
    · trivial
  · trivial
theorem rep_ofC1s {m : Option M} {Z : ZM} : ∀ l : List Value, RepL m Z (l.map ofC1) l
  | [] => rfl
  | v :: l => ⟨v, l, rfl, rep_ofC1 v, rep_ofC1s l⟩
theorem rep_ofC {m : Option M} {Z : ZM} (v : Value) : Rep m Z (ofC v) v := by
  unfold ofC
  split
  · exact ⟨_, by simp, rep_ofC1s _⟩
  · exact rep_ofC1 _
theorem RepS.ev {m : M} {Z : ZM} {ρ : Env} {ρr : Slots} (h : RepS m Z ρ ρr) (x : Operand) : Rep (some m) Z (evV ρ x) (ev ρr x) := by
  cases x with
  | tmp t => exact h t
  | const v => exact rep_ofC v
  | global g => trivial
  | func f => exact ⟨[], [], rfl, rfl, rfl⟩
section
variable {K0 : List Nat} {c : Ctx K0} {P : Program} {r : Option Nat} {N : Nat} {Q : PostV} {ρ : Env} {H : Heap} {ds : List Deferred}
theorem v_cond {x : Operand} {a b : Code} (t : Bool) (hc : evV ρ x = .bool t) (h1 : t = true → WpV c P r N a Q ρ H ds) (h2 : t = false → WpV c P r N b Q ρ H ds) : WpV c P r N (.cond x a b) Q ρ H ds :=
  fun ρr w ds1 S hM => w_cond t (by obtain ⟨m, Z, _, hR⟩ := S; have := hR.ev x; rw [hc] at this; exact this) (fun e => h1 e ρr w ds1 S hM) (fun e => h2 e ρr w ds1 S hM)
theorem v_cond_t {x : Operand} {a b : Code} (hc : evV ρ x = .bool true) (h1 : WpV c P r N a Q ρ H ds) : WpV c P r N (.cond x a b) Q ρ H ds :=
  v_cond true hc (fun _ => h1) (fun e => by cases e)
theorem v_cond_f {x : Operand} {a b : Code} (hc : evV ρ x = .bool false) (h1 : WpV c P r N b Q ρ H ds) : WpV c P r N (.cond x a b) Q ρ H ds :=
  v_cond false hc (fun e => by cases e) (fun _ => h1)
theorem v_loop {G : Type} {x : Code} (env : G → Env) (hp : G → Heap) (Inv : G → Prop) (μ : G → Nat) (g0 : G) (hi : Inv g0)
    (hround : ∀ g, Inv g → WpV c P r N x (thenV (fun ρ' H' ds' => ds' = ds ∧ ∃ g', ρ' = env g' ∧ H' = hp g' ∧ Inv g' ∧ μ g' < μ g) Q) (env g) (hp g) ds) : WpV c P r N (.loop x) Q (env g0) (hp g0) ds := by
  intro ρr w ds1 S hM a n hf
  let I : Act → World → Nat → Prop := fun a w m => ∃ g ρ' ds2, Frm N ds2 a ρ' ∧ SimA c (env g) (hp g) ρ' w ∧ MarksOK c ds2 w ∧ Inv g ∧ μ g = m
  have hex : ∀ a w, (∃ m, I a w m) → ∃ m, I a w m ∧ ∀ k, k < m → ¬ I a w k := fun a w ⟨m, hm⟩ => least _ m hm
  refine wpIn_loop (fun a w => ∃ m, I a w m) (fun a w => (Classical.epsilon fun m => I a w m ∧ ∀ k, k < m → ¬ I a w k)) ⟨_, g0, ρr, ds1, hf, S, hM, hi, rfl⟩ ?_
  intro a w hI
  obtain ⟨⟨g, ρ', ds2, hf', hS, hM2, hinv, hm⟩, hmin⟩ := Classical.epsilon_spec (hex a w hI)
  refine wpIn_mono (hround g hinv ρ' w ds2 hS hM2 a n hf') fun e a' w' hq => ?_
  obtain ⟨ρ2, ds2, hf2, ρv, Hv, S2, hM3, hq⟩ := hq
  cases e with
  | normal =>
    obtain ⟨_, g', rfl, rfl, hinv', hlt⟩ := hq
    have hI' : I a' w' (μ g') := ⟨g', ρ2, ds2, hf2, S2, hM3, hinv', rfl⟩
    refine ⟨⟨_, hI'⟩, ?_⟩
    obtain ⟨_, hmin'⟩ := Classical.epsilon_spec (hex a' w' ⟨_, hI'⟩)
    refine Nat.lt_of_le_of_lt ?_ (hm ▸ hlt)
    exact Nat.le_of_not_lt fun hl => hmin' _ hl hI'
  | exit id => exact ⟨ρ2, ds2, hf2, ρv, Hv, S2, hM3, hq⟩
  | goto l => exact ⟨ρ2, ds2, hf2, ρv, Hv, S2, hM3, hq⟩
  | ret => exact ⟨ρ2, ds2, hf2, ρv, Hv, S2, hM3, hq⟩
  | panic ch => exact ⟨ρ2, ds2, hf2, ρv, Hv, S2, hM3, hq⟩
  | outgrown => exact ⟨ρ2, ds2, hf2, ρv, Hv, S2, hM3, hq⟩
end
/- what is no longer needed is laid down -/
def selE (ts : List Nat) (ρ : Env) : Env := ts.map fun t => (t, ρ.get t)
def selH (ks : List Nat) (H : Heap) : Option Heap :=
  match ks with
  | [] => some []
  | k :: r => match H.get k, selH r H with
    | some o, some l => some ((k, o) :: l)
    | _, _ => none
def Obj.refs : Obj → List Nat
  | .box _ cs => refsL cs
  | _ => []
def nodupB : List Nat → Bool
  | [] => true
  | k :: r => !(r.contains k) && nodupB r
def prunable (K0 ts ks : List Nat) (ρ : Env) (H' : Heap) : Bool :=
  nodupB ks && (K0.all ks.contains && ((selE ts ρ).all (fun p => p.2.refs.all ks.contains) && H'.all fun p => p.2.refs.all ks.contains))
theorem nodup_of : ∀ {l : List Nat}, nodupB l = true → l.Nodup
  | [], _ => List.nodup_nil
  | k :: r, h => by
    simp only [nodupB, Bool.and_eq_true, Bool.not_eq_true', List.contains_eq_mem, decide_eq_false_iff_not] at h
    exact List.nodup_cons.2 ⟨h.1, nodup_of h.2⟩
theorem Heap.get_mem : ∀ {H : Heap} {k : Nat} {o : Obj}, H.get k = some o → (k, o) ∈ H
  | [], _, _, h => by cases h
  | (k', o') :: r, k, o, h => by
    simp only [Heap.get] at h
    cases hb : Nat.beq k k' with
    | true =>
      rw [hb] at h
      have := Nat.eq_of_beq_eq_true hb
      subst this
      simp only [cond_true, Option.some.injEq] at h
      subst h
      exact List.mem_cons_self ..
    | false =>
      rw [hb] at h
      exact List.mem_cons_of_mem _ (Heap.get_mem h)
theorem selH_mem : ∀ {ks : List Nat} {H H' : Heap}, selH ks H = some H' → keys H' = ks ∧ ∀ p ∈ H', p ∈ H
  | [], _, _, h => by cases h; exact ⟨rfl, fun _ h => by cases h⟩
  | k :: r, H, H', h => by
    simp only [selH] at h
    split at h
    · rename_i o l h1 h2
      cases h
      obtain ⟨h3, h4⟩ := selH_mem h2
      refine ⟨by simp [keys] at h3 ⊢; exact h3, fun p hp => ?_⟩
      rcases List.mem_cons.1 hp with rfl | hp
      · exact Heap.get_mem h1
      · exact h4 p hp
    · cases h
theorem selE_get (ρ : Env) (t : Nat) : ∀ ts : List Nat, (selE ts ρ).get t = if t ∈ ts then ρ.get t else .undef
  | [] => rfl
  | u :: r => by
    show (bif Nat.beq t u then ρ.get u else (selE r ρ).get t) = _
    cases hb : Nat.beq t u with
    | true =>
      have := Nat.eq_of_beq_eq_true hb
      subst this
      simp
    | false =>
      have : t ≠ u := fun e => by subst e; rw [Nat.beq_refl] at hb; cases hb
      rw [cond_false, selE_get ρ t r]
      simp [this]
theorem Env.get_mem : ∀ {ρ : Env} {t : Nat}, ρ.get t = .undef ∨ ∃ p ∈ ρ, p.2 = ρ.get t
  | [], _ => .inl rfl
  | (d, v) :: r, t => by
    simp only [Env.get]
    cases Nat.beq t d with
    | true => exact .inr ⟨_, List.mem_cons_self .., rfl⟩
    | false =>
      rcases Env.get_mem (ρ := r) (t := t) with h | ⟨p, hp, h⟩
      · exact .inl h
      · exact .inr ⟨p, List.mem_cons_of_mem _ hp, h⟩
theorem SimC.cut {K0 : List Nat} {c : Ctx K0} {m : M} {Z : ZM} {H H' : Heap} {w : World} (ks : List Nat) (hH : selH ks H = some H') (hnd : nodupB ks = true) (hK : K0.all ks.contains = true) (hO : (H'.all fun p => p.2.refs.all ks.contains) = true) (S : SimC c m Z H w) :
    ∃ m', SimC c m' Z H' w ∧ ∀ v x, v.refs.all ks.contains = true → Rep (some m) Z v x → Rep (some m') Z v x := by
  obtain ⟨hks, hsub⟩ := selH_mem hH
  let m' : M := fun k L => if k ∈ ks then m k L else none
  have hin : ∀ k ∈ ks, m' k = m k := fun k hk => by funext L; simp [m', hk]
  have hb : ∀ p ∈ H', blk m' p = blk m p := fun p hp' => blk_congr (hin p.1 (hks ▸ mem_keys hp'))
  have hs := S.step
  refine ⟨m', ⟨⟨⟨hs.sim.frozen, fun p hp' => ?_, by rw [hks]; exact nodup_of hnd, fun p hp' q hq b h1 h2 => hs.sim.disj p (hsub p hp') q (hsub q hq) b (hb p hp' ▸ h1) (hb q hq ▸ h2)⟩, ?_, hs.zext, hs.os, hs.tape, hs.output, hs.size, hs.frame, ?_, ?_, ?_, hs.znew⟩, ?_⟩, ?_⟩
  · have hh := hs.sim.holds p (hsub p hp')
    have hmem : p.1 ∈ ks := hks ▸ mem_keys hp'
    obtain ⟨k, o⟩ := p
    cases o with
    | box t cs =>
      obtain ⟨b, cur, h1, h2, h3, h4, h5⟩ := hh
      refine ⟨b, cur, by rw [hin k hmem]; exact h1, h2, h3.swap fun j hj L loc e => ?_, h4, by rw [hin k hmem]; exact h5⟩
      have := (List.all_eq_true.1 hO) _ hp'
      have := (List.all_eq_true.1 this) j hj
      rw [hin j (by simpa using this)]; exact e
    | row t sz fz els =>
      rcases hh with ⟨h1, h2, h3, ⟨b, h4⟩, h5⟩ | ⟨b, cap, cur, fr, h1, h2⟩
      · exact .inl ⟨h1, h2, h3, ⟨b, by rw [hin k hmem]; exact h4⟩, by rw [hin k hmem]; exact h5⟩
      · exact .inr ⟨b, cap, cur, fr, by rw [hin k hmem]; exact h1, by rw [hin k hmem]; exact h2⟩
    | map l =>
      obtain ⟨b, es, clock, h1, h2⟩ := hh
      exact ⟨b, es, clock, by rw [hin k hmem]; exact h1, by rw [hin k hmem]; exact h2⟩
    | glob g t cs => exact ⟨by rw [hin k hmem]; exact hh.1, hh.2.1, by rw [hin k hmem]; exact hh.2.2⟩
    | nest t e sz pd ls =>
      show HoldsN (m' k) _ _ t e sz pd ls
      rw [hin k hmem]; exact hh
    | gen G =>
      show G.holds (m' k) _ _
      rw [hin k hmem]; exact hh
  · intro k L loc e
    by_cases hk : k ∈ K0
    · have := (List.all_eq_true.1 hK) k hk
      rw [hin k (by simpa using this)]; exact hs.mext k L loc e
    · rw [c.dom0 k hk] at e; cases e
  · intro k hk
    rw [hks]
    have := (List.all_eq_true.1 hK) k (c.hk ▸ hk)
    simpa using this
  · intro k hk
    rw [hks] at hk
    funext L
    rw [c.dom0 k (fun h => hk (by have := (List.all_eq_true.1 hK) k h; simpa using this))]
    simp [m', hk]
  · intro p hp' b hbb
    exact hs.blks p (hsub p hp') b (hb p hp' ▸ hbb)
  · intro k hk L
    rw [hks] at hk
    simp [m', hk]
  · intro v x hr h
    exact h.swap fun j hj L loc e => by
      have := (List.all_eq_true.1 hr) j hj
      rw [hin j (by simpa using this)]; exact e
theorem SimA.prune {K0 : List Nat} {c : Ctx K0} {ρ : Env} {H H' : Heap} {ρr : Slots} {w : World} (ts ks : List Nat) (hH : selH ks H = some H') (hp : prunable K0 ts ks ρ H' = true) (S : SimA c ρ H ρr w) : SimA c (selE ts ρ) H' ρr w := by
  obtain ⟨m, Z, S, hR⟩ := S
  simp only [prunable, Bool.and_eq_true] at hp
  obtain ⟨hnd, hK, hE, hO⟩ := hp
  obtain ⟨m', S', hc⟩ := S.cut ks hH hnd hK hO
  refine ⟨m', Z, S', fun t => ?_⟩
  rw [selE_get]
  split
  · rename_i ht
    have hj' : ((selE ts ρ).get t) = (ρ.get t) := by rw [selE_get, if_pos ht]
    refine hc _ _ ?_ (hR t)
    rcases Env.get_mem (ρ := selE ts ρ) (t := t) with h | ⟨p, hp', h⟩
    · rw [hj'] at h; rw [h]; rfl
    · have := (List.all_eq_true.1 hE) p hp'
      rw [h, hj'] at this; exact this
  · trivial
end Go.EV
namespace Go.EV
open Go Go.RowKit Go.Eng

def Exec (P : Program) (o : Oper) (ρr : Slots) (w : World) (R : Value → World → Prop) : Prop :=
 notDefer o.op = true ∧ ((∃ x w', (execOp (ev ρr) o).run P w = .ok (.value x) w' ∧ R x w') ∨ (∃ w', (execOp (ev ρr) o).run P w = .ok .skip w' ∧ R Go.undef w') ∨
  ∃ f args w1, (execOp (ev ρr) o).run P w = .ok (.enter f args) w1 ∧ Calls P f args w1 fun en w' => ∃ x, en = .returned x ∧ R x w')
theorem Exec.mono {P : Program} {o : Oper} {ρr : Slots} {w : World} {R R' : Value → World → Prop} (h : Exec P o ρr w R) (hm : ∀ x w', R x w' → R' x w') : Exec P o ρr w R' := by
 refine ⟨h.1, ?_⟩
 rcases h.2 with ⟨x, w', h1, h2⟩ | ⟨w', h1, h2⟩ | ⟨f, args, w1, h1, h2⟩
 ·exact .inl ⟨x, w', h1, hm _ _ h2⟩
 ·exact .inr (.inl ⟨w', h1, hm _ _ h2⟩)
 ·exact .inr (.inr ⟨f, args, w1, h1, Calls.mono h2 fun _ _ ⟨x, e, hr⟩ => ⟨x, e, hm _ _ hr⟩⟩)

def Loc (P : Program) (o : Oper) (ρ : Env) (F : Heap) (v : V) (F' : Heap) : Prop :=
 ∀ ρr m Z w, (∀ x ∈ o.op.operands, Rep (some m) Z (evV ρ x) (ev ρr x)) → SimH m Z F w → (∀ k ∈ keys F', k ∉ keys F → ∀ L, m k L = none) →
  Exec P o ρr w fun x w' => ∃ m' Z', Step m Z F w m' Z' F' w' ∧ Rep (some m') Z' v x

def wantedV (all : List Oper) (ρ : Env) (o : Oper) : Option Bool :=
 match o.guard with
 | none => some true
 | some (j, want) => match (all[j]?).bind (·.dst) with
  | some d => match ρ.get d with
   | .bool b => some (b == want)
   | .no => some false
   | _ => none
  | none => none
theorem wanted_of {all : List Oper} {ρ : Env} {ρr : Slots} {m : M} {Z : ZM} {o : Oper} {t : Bool} (hR : RepS m Z ρ ρr) (h : wantedV all ρ o = some t) : wanted all ρr o = t := by
 unfold wantedV at h
 unfold wanted
 cases hg : o.guard with
 | none => rw [hg] at h; simpa using h
 | some p =>
  obtain ⟨j, want⟩ := p
  rw [hg] at h
  simp only [gv] at h ⊢
  cases hd : (all[j]?).bind (·.dst) with
  | none => rw [hd] at h; cases h
  | some d =>
   rw [hd] at h
   simp only at h ⊢
   have hr := hR d
   split at h
   ·rename_i b hb
    rw [hb] at hr
    simp only [Rep] at hr
    rw [hr]
    simp only [Option.some.injEq] at h
    subst h
    cases b <;> cases want <;> rfl
   ·rename_i hb
    rw [hb] at hr
    simp only [Rep] at hr
    rw [hr]
    simp only [Option.some.injEq] at h
    subst h
    rfl
   ·cases h

def OpsV {K0 : List Nat} (c : Ctx K0) (P : Program) (r : Option Nat) (N : Nat) (all : List Oper) (Q : PostV) (l : List Oper) (ρ : Env) (H : Heap) (ds : List Deferred) : Prop :=
 ∀ ρr w ds1, SimA c ρ H ρr w → MarksOK c ds1 w → Ops P r N all (liftV c Q ds) l ρr ds1 w

def remH (ks : List Nat) (H : Heap) : Heap := H.filter fun p => !ks.contains p.1
theorem nodup_of_map {α β : Type} (f : α → β) : ∀ {l : List α}, (l.map f).Nodup → l.Nodup
 | [], _ => List.nodup_nil
 | a :: l, h => by
  rw [List.map_cons, List.nodup_cons] at h
  exact List.nodup_cons.2 ⟨fun ha => h.1 (List.mem_map_of_mem ha), nodup_of_map f h.2⟩
theorem split_perm : ∀ {ks : List Nat} {H F : Heap}, (keys H).Nodup → ks.Nodup → selH ks H = some F → H.Perm (F ++ remH ks H) := by
 intro ks H F hH hks hF
 have h1 : ∀ p, p ∈ H ↔ p ∈ F ++ remH ks H := by
  obtain ⟨h2, h3⟩ := selH_mem hF
  intro p
  rw [List.mem_append]
  constructor
  ·intro hp
   by_cases hk : p.1 ∈ ks
   ·left
    rw [← h2] at hk
    obtain ⟨q, hq, e⟩ := List.mem_map.1 hk
    have hqH := h3 q hq
    have : q = p := by
     have hinj : ∀ (l : Heap), (keys l).Nodup → ∀ p ∈ l, ∀ q ∈ l, q.1 = p.1 → q = p := by
      intro l hl
      induction l with
      | nil => intro p hp; cases hp
      | cons a l ih =>
       simp only [keys, List.map_cons, List.nodup_cons] at hl
       intro p hp q hq e
       rcases List.mem_cons.1 hp with h1 | h1 <;> rcases List.mem_cons.1 hq with h2 | h2
       ·rw [h1, h2]
       ·exact (hl.1 (List.mem_map.2 ⟨q, h2, by rw [e, h1]⟩)).elim
       ·exact (hl.1 (List.mem_map.2 ⟨p, h1, by rw [← e, h2]⟩)).elim
       ·exact ih hl.2 p h1 q h2 e
     exact hinj H hH p hp q hqH e
    exact this ▸ hq
   ·right
    simp only [remH, List.mem_filter, Bool.not_eq_true', List.contains_eq_mem, decide_eq_false_iff_not]
    exact ⟨hp, hk⟩
  ·rintro (hp | hp)
   ·exact h3 p hp
   ·exact (List.mem_filter.1 hp).1
 have hn : H.Nodup := nodup_of_map _ hH
 have hn2 : (F ++ remH ks H).Nodup := by
  obtain ⟨h2, h3⟩ := selH_mem hF
  refine List.nodup_append.2 ⟨nodup_of_map _ (by show (keys F).Nodup; rw [h2]; exact hks), hn.filter _, fun a ha b hb e => ?_⟩
  subst e
  have := (List.mem_filter.1 hb).2
  simp only [Bool.not_eq_true', List.contains_eq_mem, decide_eq_false_iff_not] at this
  exact this (h2 ▸ mem_keys ha)
 exact (List.perm_ext_iff_of_nodup hn hn2).2 h1
def freshB (F' : Heap) (ks : List Nat) (H : Heap) : Bool := F'.all fun p => ks.contains p.1 || !((keys H).contains p.1)

section
variable {K0 : List Nat} {c : Ctx K0} {P : Program} {r : Option Nat} {N : Nat} {Q : PostV} {ρ : Env} {H : Heap} {ds : List Deferred} {all rest : List Oper} {o : Oper}
theorem SimC.step' {m m' : M} {Z Z' : ZM} {F F' : Heap} {w w' : World} {ks : List Nat} (S : SimC c m Z H w) (hks : nodupB ks = true) (hF : selH ks H = some F) (hfr : freshB F' ks H = true)
  (h : SimH m Z F w → (∀ k ∈ keys F', k ∉ keys F → ∀ L, m k L = none) → Step m Z F w m' Z' F' w') : SimC c m' Z' (F' ++ remH ks H) w' := by
 have hp := split_perm S.step.sim.nodup (nodup_of hks) hF
 obtain ⟨h2, h3⟩ := selH_mem hF
 have hs : SimH m Z (F ++ remH ks H) w := S.step.sim.perm hp
 have hnew : ∀ k ∈ keys F', k ∉ keys F → k ∉ keys H := by
  intro k hk hkF
  obtain ⟨p, hp', rfl⟩ := List.mem_map.1 hk
  have := (List.all_eq_true.1 hfr) p hp'
  simp only [Bool.or_eq_true, List.contains_eq_mem, decide_eq_true_eq, Bool.not_eq_true', decide_eq_false_iff_not] at this
  rcases this with this | this
  ·exact absurd (h2 ▸ this) hkF
  ·exact this
 have hst := h hs.left (fun k hk hkF => S.dom k (hnew k hk hkF))
 have hap : ∀ p ∈ F', ∀ q ∈ remH ks H, p.1 ≠ q.1 := by
  intro p hp' q hq e
  have hq1 := List.mem_filter.1 hq
  by_cases hpF : p.1 ∈ keys F
  ·have := hq1.2
   simp only [Bool.not_eq_true', List.contains_eq_mem, decide_eq_false_iff_not] at this
   exact this (by rw [← e, ← h2]; exact hpF)
  ·exact hnew p.1 (mem_keys hp') hpF (by rw [e]; exact mem_keys hq1.1)
 have hfr := Step.frame_rule hs hst hap
 refine ⟨(S.step.permR hp).trans hfr, fun k hk L => ?_⟩
 rw [hfr.newk k hk]
 exact S.dom k (fun hk' => hk (hfr.keep k ((hp.map _).mem_iff.1 hk'))) L
theorem ov_nil (h : Q .normal ρ H ds) : OpsV c P r N all Q [] ρ H ds := fun _ _ _ S hM => ops_nil ⟨ρ, H, S, hM, h⟩
theorem ov_skip (d : Nat) (hd : o.dst = some d) (hN : Nat.ble (d + 1) N = true) (hw : wantedV all ρ o = some false) (h : OpsV c P r N all Q rest ((d, .no) :: ρ) H ds) : OpsV c P r N all Q (o :: rest) ρ H ds := by
 rintro ρr w ds1 ⟨m, Z, S, hR⟩ hM
 exact ops_skip d hd hN (wanted_of hR hw) (h _ _ _ ⟨m, Z, S, hR.put d rfl⟩ hM)
theorem ov_skip0 (hd : o.dst = none) (hw : wantedV all ρ o = some false) (h : OpsV c P r N all Q rest ρ H ds) : OpsV c P r N all Q (o :: rest) ρ H ds := by
 rintro ρr w ds1 ⟨m, Z, S, hR⟩ hM
 exact ops_skip0 hd (wanted_of hR hw) (h _ _ _ ⟨m, Z, S, hR⟩ hM)
theorem ov_loc {F F' : Heap} {v : V} (d : Nat) (ks : List Nat) (hd : o.dst = some d) (hN : Nat.ble (d + 1) N = true) (hw : wantedV all ρ o = some true) (hks : nodupB ks = true) (hF : selH ks H = some F) (hl : Loc P o ρ F v F') (hfr : freshB F' ks H = true)
  (h : OpsV c P r N all Q rest ((d, v) :: ρ) (F' ++ remH ks H) ds) : OpsV c P r N all Q (o :: rest) ρ H ds := by
 rintro ρr w ds1 ⟨m, Z, S, hR⟩ hM a n hf
 have hp := split_perm S.step.sim.nodup (nodup_of hks) hF
 have hs : SimH m Z (F ++ remH ks H) w := S.step.sim.perm hp
 obtain ⟨h2, h3⟩ := selH_mem hF
 obtain ⟨hn, hex⟩ := hl ρr m Z w (fun x _ => hR.ev x) hs.left (fun k hk hkF => S.dom k (by
  obtain ⟨p, hp', rfl⟩ := List.mem_map.1 hk
  have := (List.all_eq_true.1 hfr) p hp'
  simp only [Bool.or_eq_true, List.contains_eq_mem, decide_eq_true_eq, Bool.not_eq_true', decide_eq_false_iff_not] at this
  rcases this with this | this
  ·exact absurd (h2 ▸ this) hkF
  ·exact this))
 have go : ∀ x w', (∃ m' Z', Step m Z F w m' Z' F' w' ∧ Rep (some m') Z' v x) → Ops P r N all (liftV c Q ds) rest (upd ρr d x) ds1 w' := fun x w' ⟨m', Z', hst, hr⟩ =>
  h _ _ _ ⟨m', Z', S.step' hks hF hfr (fun _ _ => hst), (hR.up hst.zext hst.mext).put d hr⟩ (hM.step hs.left hst)
 rcases hex with ⟨x, w', hrun, hx⟩ | ⟨w', hrun, hx⟩ | ⟨f, args, w1, hrun, hx⟩
 ·exact ops_val d x hd hN (wanted_of hR hw) hn hrun (go x w' hx) a n hf
 ·have hw' := (hf.wanted all _).trans (wanted_of hR hw)
  simp only [wpListIn, hw', if_true]
  refine ⟨fun _ _ => trivial, ?_⟩
  rw [semAt_fw hn, hf.eval, hrun, Oper.uponIn_skip, hd]
  exact go _ w' hx _ n (hf.put (Nat.le_of_ble_eq_true hN) _)
 ·exact ops_enter d hd hN (wanted_of hR hw) hn hrun hx (fun e w'' ⟨x, he, hr⟩ => ⟨x, he, go x w'' hr⟩) a n hf
theorem ov_loc0 {F F' : Heap} {v : V} (ks : List Nat) (hd : o.dst = none) (hw : wantedV all ρ o = some true) (hks : nodupB ks = true) (hF : selH ks H = some F) (hl : Loc P o ρ F v F') (hfr : freshB F' ks H = true)
  (h : OpsV c P r N all Q rest ρ (F' ++ remH ks H) ds) : OpsV c P r N all Q (o :: rest) ρ H ds := by
 rintro ρr w ds1 ⟨m, Z, S, hR⟩ hM a n hf
 have hp := split_perm S.step.sim.nodup (nodup_of hks) hF
 have hs : SimH m Z (F ++ remH ks H) w := S.step.sim.perm hp
 obtain ⟨h2, h3⟩ := selH_mem hF
 obtain ⟨hn, hex⟩ := hl ρr m Z w (fun x _ => hR.ev x) hs.left (fun k hk hkF => S.dom k (by
  obtain ⟨p, hp', rfl⟩ := List.mem_map.1 hk
  have := (List.all_eq_true.1 hfr) p hp'
  simp only [Bool.or_eq_true, List.contains_eq_mem, decide_eq_true_eq, Bool.not_eq_true', decide_eq_false_iff_not] at this
  rcases this with this | this
  ·exact absurd (h2 ▸ this) hkF
  ·exact this))
 have go : ∀ x w', (∃ m' Z', Step m Z F w m' Z' F' w' ∧ Rep (some m') Z' v x) → Ops P r N all (liftV c Q ds) rest ρr ds1 w' := fun x w' ⟨m', Z', hst, hr⟩ =>
  h _ _ _ ⟨m', Z', S.step' hks hF hfr (fun _ _ => hst), hR.up hst.zext hst.mext⟩ (hM.step hs.left hst)
 have hw' := (hf.wanted all _).trans (wanted_of hR hw)
 simp only [wpListIn, hw', if_true]
 refine ⟨fun _ _ => trivial, ?_⟩
 rw [semAt_fw hn, hf.eval]
 rcases hex with ⟨x, w', hrun, hx⟩ | ⟨w', hrun, hx⟩ | ⟨f, args, w1, hrun, hx⟩
 ·rw [hrun, Oper.uponIn_value, hd]
  exact go x w' hx _ n (hf.putNone _)
 ·rw [hrun, Oper.uponIn_skip, hd]
  exact go _ w' hx _ n (hf.putNone _)
 ·rw [hrun, Oper.uponIn_enter]
  refine ⟨fun hx => by simp [Fw] at hx, (callsIn_fw r hx).mono fun e w'' ⟨x, he, hr⟩ => ?_⟩
  subst he
  rw [hd]
  exact go x w'' hr _ n (hf.putNone _)
theorem v_region {id : Nat} {l : List Oper} (h : OpsV c P r N l Q l ρ H ds) : WpV c P r N (.region id l.toArray false) Q ρ H ds := fun ρr w ds1 S hM => w_region (h ρr w ds1 S hM)
end
end Go.EV
namespace Go.EV
open Go Go.RowKit Go.Eng

/- tags of flat structs, over V -/
def tagB (P : Program) (t : TypeId) : Option Tag := match P.underlying t with | some d => tagOf d | none => none
def flatTags (P : Program) (t : TypeId) : Option (List Tag) :=
 match (P.fieldsOf t).toList.mapM (fun f => tagB P f.type) with
 | some ks => if flatTChk P t ks then some ks else none
 | none => none
def kindVV : Tag → V → Bool | .int k, .int k' _ => decide (k = k') | .bool, .bool _ => true | .str, .str _ => true | _, _ => false
def kindsVV : List Tag → List V → Bool | [], [] => true | k :: ks, v :: vs => kindVV k v && kindsVV ks vs | _, _ => false
def eqVV : V → V → Bool | .int _ a, .int _ b => decide (a = b) | .bool a, .bool b => a == b | .str a, .str b => decide (a = b) | _, _ => false
def eqVVs : List V → List V → Bool | [], [] => true | [a], [b] => eqVV a b | a :: l, b :: m => eqVV a b && eqVVs l m | _, _ => false

def bitsV (op : BinOp) (k : IntKind) (a b : Int) : Option V :=
 match op with
 | .and => some (.int k (k.wrap (BitVec.ofInt k.bits a &&& BitVec.ofInt k.bits b).toNat))
 | .or => some (.int k (k.wrap (BitVec.ofInt k.bits a ||| BitVec.ofInt k.bits b).toNat))
 | .xor => some (.int k (k.wrap (BitVec.ofInt k.bits a ^^^ BitVec.ofInt k.bits b).toNat))
 | .andNot => some (.int k (k.wrap (BitVec.ofInt k.bits a &&& ~~~BitVec.ofInt k.bits b).toNat))
 | _ => none
def intV (op : BinOp) (k : IntKind) (a b : Int) : Option V :=
 match op with
 | .lss => some (.bool (decide (a < b)))
 | .leq => some (.bool (decide (a ≤ b)))
 | .gtr => some (.bool (decide (a > b)))
 | .geq => some (.bool (decide (a ≥ b)))
 | .eql => some (.bool (decide (a = b)))
 | .neq => some (.bool (!decide (a = b)))
 | .add => some (.int k (k.wrap (a + b)))
 | .sub => some (.int k (k.wrap (a - b)))
 | .mul => some (.int k (k.wrap (a * b)))
 | .quo => if b = 0 then none else some (.int k (k.wrap (a.tdiv b)))
 | .rem => if b = 0 then none else some (.int k (a.tmod b))
 | op => bitsV op k a b
def shiftV (op : BinOp) (k : IntKind) (a b : Int) : Option V :=
 if b < 0 then none else
 match op with
 | .shl => some (.int k (k.wrap (a * 2 ^ (min b.toNat k.bits))))
 | .shr => some (.int k (a.fdiv (2 ^ (min b.toNat k.bits))))
 | _ => none
def strV (op : BinOp) (a b : List UInt8) : Option V :=
 match op with
 | .eql => some (.bool (decide (a = b)))
 | .neq => some (.bool (!decide (a = b)))
 | .lss => some (.bool (Op.bytesLess a b))
 | .leq => some (.bool (Op.bytesLess a b || decide (a = b)))
 | .gtr => some (.bool (!(Op.bytesLess a b || decide (a = b))))
 | .geq => some (.bool (!Op.bytesLess a b))
 | _ => none
def nilV : V → Option Bool
 | .nilp | .nils | .nilf | .nilm => some true
 | .ptr .. | .vp .. | .fn .. | .mp _ => some false
 | .sl _ _ (_ + 1) _ (_ + 1) => some false
 | .vs _ (_ :: _) => some false
 | _ => none
def isNilC : V → Bool | .nilp | .nils | .nilf | .nilm => true | _ => false
def nilT (P : Program) (t : TypeId) : V → Bool
 | .nilp => match P.underlying t with | some (.pointer _) => true | _ => false
 | .nils => match P.underlying t with | some (.slice _) => true | _ => false
 | .nilf => match P.underlying t with | some (.func ..) => true | _ => false
 | .nilm => match P.underlying t with | some (.map ..) => true | _ => false
 | _ => false
def nilFit : V → V → Bool
 | .nilp, .nilp | .ptr .., .nilp | .vp .., .nilp => true
 | .nils, .nils | .sl .., .nils | .vs .., .nils => true
 | .nilf, .nilf | .fn .., .nilf => true
 | .nilm, .nilm | .mp _, .nilm => true
 | _, _ => false
def eqNil (P : Program) (t : TypeId) (x y : V) : Option Bool := if nilT P t y && nilFit x y then nilV x else none
def boolT (P : Program) (t : TypeId) : Bool := match P.underlying t with | some .bool => true | _ => false
def eqlV (P : Program) (t : TypeId) (x y : V) : Option Bool :=
 match x, y with
 | .bool a, .bool b => if boolT P t then some (a == b) else none
 | .agg a, .agg b => match flatTags P t with
  | some ks => if kindsVV ks a && kindsVV ks b then some (eqVVs a b) else none
  | none => none
 | _, _ => none
def binOpV (P : Program) (op : BinOp) (t : TypeId) (x y : V) : Option V :=
 match x, y with
 | .int k a, .int k' b => match op with
  | .shl | .shr => shiftV op k a b
  | _ => if k = k' then intV op k a b else none
 | .str a, .str b => strV op a b
 | x, y => match op with
  | .eql => (eqlV P t x y).map .bool
  | .neq => (eqlV P t x y).map fun b => .bool (!b)
  | _ => none

section
variable {P : Program} {ρr : Slots} {w : World} {dst : Option Tmp} {ty : TypeId} {pos : String} {aft : Array Edge} {gd : Option (Nat × Bool)} {m : Option M} {Z : ZM}
theorem run_intV {op : BinOp} {t t' : TypeId} {x y : Operand} {k : IntKind} {a b : Int} {v : V} (hx : ev ρr x = .int k a) (hy : ev ρr y = .int k b) (hs : op ≠ .shl ∧ op ≠ .shr) (h : intV op k a b = some v) :
  ∃ u, (execOp (ev ρr) ⟨dst, .binOp op t x y t', ty, pos, aft, gd⟩).run P w = .ok (.value u) w ∧ Rep m Z v u := by
 cases op <;> simp only [intV, bitsV, Option.some.injEq, reduceCtorEq] at h
 case quo =>
  split at h
  ·cases h
  ·rename_i hb
   simp only [Option.some.injEq] at h; subst h
   exact ⟨_, by simp [execOp, hx, hy, eqGuard, binOp, Op.intDiv, hb], rfl⟩
 case rem =>
  split at h
  ·cases h
  ·rename_i hb
   simp only [Option.some.injEq] at h; subst h
   exact ⟨_, by simp [execOp, hx, hy, eqGuard, binOp, Op.intDiv, hb], rfl⟩
 all_goals
  subst h
  exact ⟨_, by simp [execOp, hx, hy, eqGuard, binOp, Op.intCmp, Op.intArith, Op.intBits]; first | rfl | done, rfl⟩
theorem run_shiftV {op : BinOp} {t t' : TypeId} {x y : Operand} {k k' : IntKind} {a b : Int} {v : V} (hx : ev ρr x = .int k a) (hy : ev ρr y = .int k' b) (hs : op = .shl ∨ op = .shr) (h : shiftV op k a b = some v) :
  ∃ u, (execOp (ev ρr) ⟨dst, .binOp op t x y t', ty, pos, aft, gd⟩).run P w = .ok (.value u) w ∧ Rep m Z v u := by
 unfold shiftV at h
 split at h
 ·cases h
 ·rename_i hb
  rcases hs with rfl | rfl <;> simp only [Option.some.injEq] at h <;> subst h <;> exact ⟨_, by simp [execOp, hx, hy, eqGuard, binOp, Op.shift, hb], rfl⟩
theorem run_strV {op : BinOp} {t t' : TypeId} {x y : Operand} {a b : List UInt8} {v : V} (hx : ev ρr x = .string ⟨a.toArray⟩) (hy : ev ρr y = .string ⟨b.toArray⟩) (h : strV op a b = some v) :
  ∃ u, (execOp (ev ρr) ⟨dst, .binOp op t x y t', ty, pos, aft, gd⟩).run P w = .ok (.value u) w ∧ Rep m Z v u := by
 have e : (a == b) = decide (a = b) := by rw [Bool.eq_iff_iff]; simp
 cases op <;> simp only [strV, Option.some.injEq, reduceCtorEq] at h <;> subst h <;>
  exact ⟨_, by simp [execOp, hx, hy, eqGuard, binOp, Op.stringOp, ByteArray.toList_eq, e]; first | rfl | done, rfl⟩
theorem kind_of {k : Tag} {v : V} {x : Value} (h : Rep m Z v x) (hk : kindVV k v = true) : kindV k x = true := by
 cases k <;> cases v <;> simp only [kindVV, Bool.false_eq_true] at hk <;> simp only [Rep] at h <;> subst h
 ·exact hk
 ·rfl
 ·rfl
theorem kinds_of : ∀ {ks : List Tag} {vs : List V} {l : List Value}, RepL m Z vs l → kindsVV ks vs = true → kindsV ks l = true
 | [], [], l, h, _ => by cases h; rfl
 | [], _ :: _, _, _, hk => by cases hk
 | _ :: _, [], _, _, hk => by cases hk
 | k :: ks, v :: vs, l, h, hk => by
  obtain ⟨x, xs, rfl, h2, h3⟩ := h
  simp only [kindsVV, Bool.and_eq_true] at hk
  simp only [kindsV, Bool.and_eq_true]
  exact ⟨kind_of h2 hk.1, kinds_of h3 hk.2⟩
theorem eqV_of {m' : Option M} {k : Tag} {u v : V} {x y : Value} (h : Rep m Z u x) (h' : Rep m' Z v y) (hk : kindVV k u = true) (hk' : kindVV k v = true) : eqV x y = eqVV u v := by
 cases k <;> cases u <;> simp only [kindVV, Bool.false_eq_true] at hk <;> cases v <;> simp only [kindVV, Bool.false_eq_true] at hk' <;> simp only [Rep] at h h' <;> subst h <;> subst h' <;> first | rfl | simp [eqV, eqVV]
theorem eqVs_of : ∀ {ks : List Tag} {us vs : List V} {l k : List Value}, RepL m Z us l → RepL m Z vs k → kindsVV ks us = true → kindsVV ks vs = true → eqVs l k = eqVVs us vs
 | [], [], [], l, k, h, h', _, _ => by cases h; cases h'; rfl
 | [], _ :: _, _, _, _, _, _, hk, _ => by cases hk
 | [], [], _ :: _, _, _, _, _, _, hk => by cases hk
 | _ :: _, [], _, _, _, _, _, hk, _ => by cases hk
 | _ :: _, _ :: _, [], _, _, _, _, _, hk => by cases hk
 | k :: ks, u :: us, v :: vs, l, l', h, h', hk, hk' => by
  obtain ⟨x, xs, rfl, h2, h3⟩ := h
  obtain ⟨y, ys, rfl, h4, h5⟩ := h'
  simp only [kindsVV, Bool.and_eq_true] at hk hk'
  have e1 := eqV_of h2 h4 hk.1 hk'.1
  have e2 := eqVs_of h3 h5 hk.2 hk'.2
  cases us with
  | nil =>
   cases vs with
   | nil => cases h3; cases h5; simp [eqVs, eqVVs, e1]
   | cons v' vs => cases ks <;> simp only [kindsVV, Bool.false_eq_true, and_false] at hk hk'
  | cons u' us =>
   cases vs with
   | nil => cases ks <;> simp only [kindsVV, Bool.false_eq_true, and_false] at hk hk'
   | cons v' vs => simp only [eqVs, eqVVs, e1]; rw [e2]
theorem run_eqlV {t t' : TypeId} {x y : Operand} {u v : V} {b : Bool} (hx : Rep m Z u (ev ρr x)) (hy : Rep m Z v (ev ρr y)) (h : eqlV P t u v = some b) :
  (execOp (ev ρr) ⟨dst, .binOp .eql t x y t', ty, pos, aft, gd⟩).run P w = .ok (.value (.bool b)) w ∧ (execOp (ev ρr) ⟨dst, .binOp .neq t x y t', ty, pos, aft, gd⟩).run P w = .ok (.value (.bool (!b))) w := by
 unfold eqlV at h
 split at h
 ·rename_i a a'
  split at h
  ·rename_i hb
   simp only [Option.some.injEq] at h
   subst h
   unfold boolT at hb
   split at hb
   ·rename_i ht
    exact ⟨run_eql_bool' ht hx hy, run_neq_bool' ht hx hy⟩
   ·cases hb
  ·cases h
 ·rename_i l l'
  split at h
  ·rename_i ks hks
   split at h
   ·rename_i hk
    simp only [Bool.and_eq_true] at hk
    simp only [Option.some.injEq] at h
    subst h
    obtain ⟨c1, e1, r1⟩ := hx
    obtain ⟨c2, e2, r2⟩ := hy
    have hF : FlatT P t ks := by
     unfold flatTags at hks
     split at hks
     ·split at hks
      ·rename_i hc
       simp only [Option.some.injEq] at hks
       subst hks
       exact flat_of hc
      ·cases hks
     ·cases hks
    have he := eqVs_of r1 r2 hk.1 hk.2
    exact ⟨run_eqS _ hF e1 e2 (kinds_of r1 hk.1) (kinds_of r2 hk.2) he, run_neS _ hF e1 e2 (kinds_of r1 hk.1) (kinds_of r2 hk.2) he⟩
   ·cases h
  ·cases h
 ·cases h
theorem run_binOpV {op : BinOp} {t t' : TypeId} {x y : Operand} {u v r : V} (hx : Rep m Z u (ev ρr x)) (hy : Rep m Z v (ev ρr y)) (h : binOpV P op t u v = some r) :
  ∃ z, (execOp (ev ρr) ⟨dst, .binOp op t x y t', ty, pos, aft, gd⟩).run P w = .ok (.value z) w ∧ Rep m Z r z := by
 unfold binOpV at h
 split at h
 ·rename_i k a k' b
  split at h
  ·exact run_shiftV hx hy (.inl rfl) h
  ·exact run_shiftV hx hy (.inr rfl) h
  ·rename_i h1 h2
   split at h
   ·rename_i hk
    subst hk
    exact run_intV hx hy ⟨h1, h2⟩ h
   ·cases h
 ·exact run_strV hx hy h
 ·split at h
  ·obtain ⟨b, hb, rfl⟩ := Option.map_eq_some_iff.1 h
   exact ⟨_, (run_eqlV hx hy hb).1, rfl⟩
  ·obtain ⟨b, hb, rfl⟩ := Option.map_eq_some_iff.1 h
   exact ⟨_, (run_eqlV hx hy hb).2, rfl⟩
  ·cases h
end
end Go.EV
namespace Go.EV
open Go Go.RowKit Go.Eng

def pickV (t : Bool) (a b : V) : V :=
 match a, b with
 | .bool x, .bool y => .bool (bif t then x else y)
 | .int k x, .int k' y => if k = k' then .int k (bif t then x else y) else bif t then .int k x else .int k' y
 | .str x, .str y => .str (bif t then x else y)
 | a, b => bif t then a else b
theorem pick_rep {m : Option M} {Z : ZM} {t : Bool} {a b : V} {x y : Value} (ha : Rep m Z a x) (hb : Rep m Z b y) : Rep m Z (pickV t a b) (bif t then x else y) := by
 unfold pickV
 split
 ·cases t <;> assumption
 ·split
  ·rename_i hk; subst hk; cases t <;> assumption
  ·cases t <;> assumption
 ·cases t <;> assumption
 ·cases t <;> assumption
def fieldOff (P : Program) (s f : Nat) : Option Nat :=
 match P.underlying s with
 | some (.struct fs) => match fs[f]? with
  | some fld => match P.info? fld.type with
   | some i => if i.size = 0 then none else some fld.offset
   | none => none
  | none => none
 | _ => none
theorem fieldOff_of {P : Program} {s f o : Nat} (h : fieldOff P s f = some o) : FieldT P s f o := by
 unfold fieldOff at h
 split at h
 ·rename_i fs hs
  split at h
  ·rename_i fld hf
   split at h
   ·rename_i i hi
    split at h
    ·cases h
    ·rename_i hz
     simp only [Option.some.injEq] at h
     exact ⟨fs, fld, i, hs, hf, h, hi, hz⟩
   ·cases h
  ·cases h
 ·cases h
def shapeT (P : Program) (t : Nat) : Option (Option Nat) :=
 match P.underlying t, P.info? t with
 | some d, some i => if notAgg d then (if i.size = 1 then some none else none) else some (some i.size)
 | _, _ => none
theorem shape_scal {P : Program} {t : Nat} (h : shapeT P t = some none) : Scal P t := by
 unfold shapeT at h
 split at h
 ·rename_i d i hd hi
  split at h
  ·rename_i hn
   split at h
   ·rename_i h1; exact ⟨d, i, hd, hn, hi, h1⟩
   ·cases h
  ·cases h
 ·cases h
theorem shape_agg {P : Program} {t k : Nat} (h : shapeT P t = some (some k)) : AggT P t k := by
 unfold shapeT at h
 split at h
 ·rename_i d i hd hi
  split at h
  ·split at h <;> cases h
  ·rename_i hn
   simp only [Option.some.injEq] at h
   exact ⟨d, i, hd, by simpa using hn, hi, h⟩
 ·cases h
def atV (P : Program) (t : Nat) (cs : List V) (off : Nat) : Option V :=
 match shapeT P t with
 | some none => match cs[off]? with | some v => if v.one then some v else none | none => none
 | some (some k) => if Nat.ble (off + k) cs.length then some (.agg ((cs.drop off).take k)) else none
 | none => none
def fieldV (P : Program) (s f : Nat) (cs : List V) : Option V :=
 match P.underlying s with
 | some (.struct fs) => match fs[f]? with
  | some fld => atV P fld.type cs fld.offset
  | none => none
 | _ => none
def convV (P : Program) (src dst : Nat) (x : V) : Option V :=
 match P.underlying src, P.underlying dst, x with
 | some _, some (.int k), .int _ n => some (.int k (k.wrap n))
 | some _, some .string, .str l => some (.str l)
 | _, _, _ => none
def sliceT (P : Program) (t : Nat) : Bool := match P.underlying t with | some (.slice _) => true | _ => false
def lenV (P : Program) (t : Nat) (x : V) : Option V :=
 match x with
 | .str l => match P.underlying t with | some .string => some (.int .i64 l.length) | _ => none
 | .sl _ _ _ _ n => if sliceT P t then some (.int .i64 n) else none
 | .vs _ els => if sliceT P t then some (.int .i64 els.length) else none
 | .nils => if sliceT P t then some (.int .i64 0) else none
 | _ => none
def fillV (places : List (Nat × Nat)) (cells : List V) : List (Nat × V) → Option (List V)
 | [] => some cells
 | (i, v) :: rest => match places[i]? with
  | none => none
  | some (off, size) => if v.plain && (Nat.beq v.cells.length size && Nat.ble (off + size) cells.length) then fillV places (cells.take off ++ v.cells ++ cells.drop (off + size)) rest else none
def builtV (P : Program) (t : Nat) (parts : List (Nat × V)) : Option (List V) :=
 match P.info? t, P.underlying t with
 | some it, some (.struct fields) =>
  match it.zero, fields.toList.mapM (fun f => (P.info? f.type).map fun i => (f.offset, i.size)) with
  | some z, some places => fillV places (z.cells.toList.map ofC1) parts
  | _, _ => none
 | some it, some (.array n e) =>
  match it.zero, P.info? e with
  | some z, some ie => fillV ((List.range n).map fun i => (i * ie.size, ie.size)) (z.cells.toList.map ofC1) parts
  | _, _ => none
 | _, _ => none
def biV (P : Program) (b : Builtin) (vs : List V) (ts : List TypeId) : Option V :=
 match b with
 | .len => match vs, ts with | [v], [t] => lenV P t v | _, _ => none
 | .min => match vs with | [.int k a, .int k' b] => if k = k' then some (.int k (min a b)) else none | _ => none
 | .max => match vs with
  | [.int k a, .int k' b] => if k = k' then some (.int k (max a b)) else none
  | [.int k a, .int k' b, .int k'' c] => if k = k' then if k = k'' then some (.int k (max (max a b) c)) else none else none
  | _ => none
 | _ => none
def pureV (P : Program) (ρ : Env) : Op → Option V
 | .move x | .assign x => some (evV ρ x)
 | .pick c a b => match evV ρ c with | .bool t => some (pickV t (evV ρ a) (evV ρ b)) | _ => none
 | .binOp op t x y _ => match op with
  | .eql => match eqNil P t (evV ρ x) (evV ρ y) with
   | some b => some (.bool b)
   | none => match eqNil P t (evV ρ y) (evV ρ x) with
    | some b => some (.bool b)
    | none => binOpV P .eql t (evV ρ x) (evV ρ y)
  | .neq => match eqNil P t (evV ρ x) (evV ρ y) with
   | some b => some (.bool (!b))
   | none => match eqNil P t (evV ρ y) (evV ρ x) with
    | some b => some (.bool (!b))
    | none => binOpV P .neq t (evV ρ x) (evV ρ y)
  | op => binOpV P op t (evV ρ x) (evV ρ y)
 | .unOp .not _ x => match evV ρ x with | .bool b => some (.bool (!b)) | _ => none
 | .unOp .neg _ x => match evV ρ x with | .int k n => some (.int k (k.wrap (0 - n))) | _ => none
 | .extract x i => match evV ρ x with | .tup vs => vs[i]? | _ => none
 | .makeFunc (.func f) first cap => some (.fn f (first.toList.map (evV ρ)) (cap.toList.map (evV ρ)))
 | .convert src dst x => convV P src dst (evV ρ x)
 | .fieldAddr s x f => match fieldOff P s f with
  | some o => match evV ρ x with
   | .ptr k L off => some (.ptr k L (off + o))
   | .vp cs off => some (.vp cs (off + o))
   | _ => none
  | none => none
 | .field s x f => match evV ρ x with | .agg cs => fieldV P s f cs | _ => none
 | .load t a => match evV ρ a with | .vp cs off => atV P t cs off | _ => none
 | .nilCheck x => match evV ρ x with
  | .ptr k L off => some (.ptr k L off)
  | .vp cs off => some (.vp cs off)
  | .fn f first caps => some (.fn f first caps)
  | _ => none
 | .call ⟨.builtin b, args, ts⟩ => biV P b (args.toList.map (evV ρ)) ts.toList
 | .build t parts => (builtV P t (parts.toList.map fun p => (p.1, evV ρ p.2))).map .agg
 | _ => none

def refVal : Value → Bool | .pointer _ | .slice .. | .map _ | .func .. | .nilFunc => true | _ => false
section
variable {P : Program} {ρr : Slots} {w : World} {dst : Option Tmp} {ty : TypeId} {pos : String} {aft : Array Edge} {gd : Option (Nat × Bool)} {m : Option M} {Z : ZM}
theorem run_via {t t' : TypeId} {x y : Operand} {X Y : Value} {b : Bool} (hx : ev ρr x = X) (hy : ev ρr y = Y) (h1 : refVal X = true) (h2 : refVal Y = true) (h : (Op.equalIn (9999 + 1) t X Y).run P w = .ok b w) :
  (execOp (ev ρr) ⟨dst, .binOp .eql t x y t', ty, pos, aft, gd⟩).run P w = .ok (.value (.bool b)) w ∧ (execOp (ev ρr) ⟨dst, .binOp .neq t x y t', ty, pos, aft, gd⟩).run P w = .ok (.value (.bool (!b))) w := by
 have h' : (Op.equal t X Y).run P w = .ok b w := h
 cases X <;> simp only [refVal, Bool.false_eq_true] at h1 <;> cases Y <;> simp only [refVal, Bool.false_eq_true] at h2 <;>
  exact ⟨by simp only [execOp, hx, hy, eqGuard, binOp]; simp [h'], by simp only [execOp, hx, hy, eqGuard, binOp]; simp [h']⟩
theorem eqNil_run (d : Nat) {t : TypeId} {u v : V} {X Y : Value} {b : Bool} (hx : Rep m Z u X) (hy : Rep m Z v Y) (hf : nilFit u v = true) (hn : nilT P t v = true) (h : nilV u = some b) :
  refVal X = true ∧ refVal Y = true ∧ (Op.equalIn (d + 1) t X Y).run P w = .ok b w ∧ (Op.equalIn (d + 1) t Y X).run P w = .ok b w := by
 have fin : ∀ {b' : Bool}, some b' = some b → b' = b := fun e => by injection e
 cases v with
 | nilp =>
  simp only [nilT] at hn
  split at hn
  ·rename_i ht
   simp only [Rep] at hy
   subst hy
   cases u <;> first
    | (cases hf; done)
    | (simp only [Rep] at hx; cases fin h; subst hx; simp [refVal, Op.equalIn, run_underlying ht]; done)
    | (simp only [Rep] at hx; cases fin h; obtain ⟨_, _, _, _, rfl⟩ := hx; simp [refVal, Op.equalIn, run_underlying ht]; done)
    | (simp only [Rep] at hx; cases fin h; obtain ⟨_, rfl, _⟩ := hx; simp [refVal, Op.equalIn, run_underlying ht]; done)
  ·cases hn
 | nils =>
  simp only [nilT] at hn
  split at hn
  ·rename_i ht
   simp only [Rep] at hy
   subst hy
   cases u <;> first
    | (cases hf; done)
    | (simp only [Rep] at hx; cases fin h; subst hx; simp [refVal, Op.equalIn, run_underlying ht]; done)
    | skip
   ·rename_i sz k L o n
    obtain ⟨g, loc, _, _, h3, _, h5⟩ := hx
    cases L with
    | zero => simp [nilV] at h
    | succ L =>
     cases n with
     | zero => simp [nilV] at h
     | succ n =>
      cases fin h
      rcases h5 with rfl | ⟨h5, _⟩ | ⟨_, h5, _⟩
      ·simp [refVal, Op.equalIn, run_underlying ht]
      ·omega
      ·omega
   rename_i sz els
   obtain ⟨A, c, rfl, _, _, h4⟩ := hx
   cases els with
   | nil => simp [nilV] at h
   | cons e els =>
    cases fin h
    rcases h4 with h4 | ⟨a, rfl, _⟩
    ·cases h4
    ·simp [refVal, Op.equalIn, run_underlying ht]
  ·cases hn
 | nilf =>
  simp only [nilT] at hn
  split at hn
  ·rename_i ht
   simp only [Rep] at hy
   subst hy
   cases u <;> first
    | (cases hf; done)
    | (simp only [Rep] at hx; cases fin h; subst hx; simp [refVal, Op.equalIn, run_underlying ht]; done)
    | (simp only [Rep] at hx; cases fin h; obtain ⟨_, _, rfl, _⟩ := hx; simp [refVal, Op.equalIn, run_underlying ht]; done)
  ·cases hn
 | nilm =>
  simp only [nilT] at hn
  split at hn
  ·rename_i ht
   simp only [Rep] at hy
   subst hy
   cases u <;> first
    | (cases hf; done)
    | (simp only [Rep] at hx; cases fin h; subst hx; simp [refVal, Op.equalIn, run_underlying ht]; done)
    | (simp only [Rep] at hx; cases fin h; obtain ⟨_, _, _, _, rfl⟩ := hx; simp [refVal, Op.equalIn, run_underlying ht]; done)
  ·cases hn
 | _ => cases hn
theorem run_eqNil {t t' : TypeId} {x y : Operand} {u v : V} {b : Bool} (hx : Rep m Z u (ev ρr x)) (hy : Rep m Z v (ev ρr y)) (h : eqNil P t u v = some b) :
  ((execOp (ev ρr) ⟨dst, .binOp .eql t x y t', ty, pos, aft, gd⟩).run P w = .ok (.value (.bool b)) w ∧ (execOp (ev ρr) ⟨dst, .binOp .neq t x y t', ty, pos, aft, gd⟩).run P w = .ok (.value (.bool (!b))) w) ∧
  ((execOp (ev ρr) ⟨dst, .binOp .eql t y x t', ty, pos, aft, gd⟩).run P w = .ok (.value (.bool b)) w ∧ (execOp (ev ρr) ⟨dst, .binOp .neq t y x t', ty, pos, aft, gd⟩).run P w = .ok (.value (.bool (!b))) w) := by
 unfold eqNil at h
 split at h
 ·rename_i hh
  simp only [Bool.and_eq_true] at hh
  obtain ⟨h1, h2, h3, h4⟩ := eqNil_run (P := P) (w := w) 9999 hx hy hh.2 hh.1 h
  exact ⟨run_via rfl rfl h1 h2 h3, run_via rfl rfl h2 h1 h4⟩
 ·cases h

theorem RepL.tmps {ρ : Env} {f : Operand → V} {g : Operand → Value} : ∀ (l : List Operand), (∀ x ∈ l, Rep m Z (f x) (g x)) → RepL m Z (l.map f) (l.map g)
 | [], _ => rfl
 | x :: l, h => ⟨_, _, rfl, h x (List.mem_cons_self ..), RepL.tmps (ρ := ρ) l fun y hy => h y (List.mem_cons_of_mem _ hy)⟩
theorem patch_rep {off : Nat} {cs us : List V} {l k : List Value} (h : RepL m Z cs l) (h' : RepL m Z us k) : RepL m Z (cs.take off ++ us ++ cs.drop (off + us.length)) (l.take off ++ k ++ l.drop (off + k.length)) := by
 rw [h'.length]
 exact ((h.take off).append h').append (h.drop _)
theorem take_set_succ {α : Type} (v : α) : ∀ (l : List α) (n : Nat), n < l.length → (l.set n v).take (n + 1) = l.take n ++ [v]
 | [], n, h => by simp at h
 | a :: l, 0, _ => by simp
 | a :: l, n + 1, h => by
  have := take_set_succ v l n (by simpa using h)
  simp [this]
theorem drop_set_succ {α : Type} (v : α) : ∀ (l : List α) (n k : Nat), n < k → (l.set n v).drop k = l.drop k
 | [], n, k, _ => by simp
 | a :: l, 0, k + 1, _ => by simp
 | a :: l, n + 1, k + 1, h => by
  have := drop_set_succ v l n k (by omega)
  simp [this]
theorem foldl_patch {α : Type} : ∀ (vs : List α) (j off : Nat) (a : Array α), off + j + vs.length ≤ a.size →
  ((vs.zipIdx j).foldl (fun cs (p : α × Nat) => cs.setIfInBounds (off + p.2) p.1) a).toList = a.toList.take (off + j) ++ vs ++ a.toList.drop (off + j + vs.length)
 | [], j, off, a, _ => by simp
 | v :: vs, j, off, a, h => by
  simp only [List.length_cons] at h
  rw [List.zipIdx_cons, List.foldl_cons, foldl_patch vs (j + 1) off _ (by simp; omega)]
  have hl : a.toList.length = a.size := by simp
  simp only [Array.toList_setIfInBounds, List.length_cons]
  rw [← Nat.add_assoc off j 1, take_set_succ v a.toList (off + j) (by omega), drop_set_succ v a.toList (off + j) _ (by omega)]
  rw [List.append_assoc, List.append_assoc, List.append_assoc]
  congr 1
  simp only [List.cons_append, List.nil_append]
  congr 3; omega
theorem fill_rep {places : List (Nat × Nat)} {place : Nat → Option (Nat × Nat)} (hpl : ∀ i p, places[i]? = some p → place i = some p) : ∀ {parts : List (Nat × V)} {ps : List (Nat × Value)} {cells r : List V} {a : Array Value}, RepL m Z cells a.toList →
  (ps.map (·.1) = parts.map (·.1)) → RepL m Z (parts.map (·.2)) (ps.map (·.2)) → fillV places cells parts = some r → ∃ a' : Array Value, Instr.fill place a ps = some a' ∧ RepL m Z r a'.toList
 | [], ps, cells, r, a, hc, h1, h2, h => by
  simp only [fillV, Option.some.injEq] at h
  subst h
  simp at h1
  subst h1
  exact ⟨a, rfl, hc⟩
 | (i, v) :: parts, [], cells, r, a, hc, h1, h2, h => by simp at h1
 | (i, v) :: parts, (i', x) :: ps, cells, r, a, hc, h1, h2, h => by
  simp only [List.map_cons, List.cons.injEq] at h1
  obtain ⟨rfl, h1⟩ := h1
  obtain ⟨y, ys, h3, h4, h5⟩ := h2
  simp only [List.map_cons, List.cons.injEq] at h3
  obtain ⟨rfl, rfl⟩ := h3
  simp only [fillV] at h
  split at h
  ·cases h
  ·rename_i off size hp
   split at h
   ·rename_i hk
    simp only [Bool.and_eq_true] at hk
    obtain ⟨hpv, hk1, hk2⟩ := hk
    have hk1 := Nat.eq_of_beq_eq_true hk1
    have hk2 := Nat.le_of_ble_eq_true hk2
    have hcv := h4.cells hpv
    have hlen : x.cells.size = size := by have := hcv.length; simp at this; omega
    have hal : a.size = cells.length := by have := hc.length; simpa using this
    have hfold := foldl_patch x.cells.toList 0 off a (by simp; omega)
    simp only [Nat.add_zero] at hfold
    have hz : (x.cells.zipIdx.foldl (fun cs (p : Value × Nat) => cs.setIfInBounds (off + p.2) p.1) a) = (x.cells.toList.zipIdx 0).foldl (fun cs (p : Value × Nat) => cs.setIfInBounds (off + p.2) p.1) a := by
     rw [← Array.foldl_toList]; simp
    have hpr := patch_rep (off := off) hc hcv
    have e : off + size = off + v.cells.length := by omega
    rw [e] at h
    obtain ⟨a', h6, h7⟩ := fill_rep hpl (a := x.cells.zipIdx.foldl (fun cs (p : Value × Nat) => cs.setIfInBounds (off + p.2) p.1) a) (by rw [hz, hfold]; simpa using hpr) h1 h5 h
    refine ⟨a', ?_, h7⟩
    simp only [Instr.fill, hpl _ _ hp]
    rw [if_neg (by simp [hlen]; omega)]
    exact h6
   ·cases h
end
end Go.EV
namespace Go.EV
open Go Go.RowKit Go.Eng
section
variable {P : Program} {ρ : Env} {ρr : Slots} {w : World} {dst : Option Tmp} {ty : TypeId} {pos : String} {aft : Array Edge} {gd : Option (Nat × Bool)} {m : Option M} {Z : ZM}
theorem add_add' (a : Addr) (i j : Nat) : (a.add i).add j = a.add (i + j) := Go.Deep.add_add a i j
theorem at_sound {t off : Nat} {cs : List V} {v : V} {x : Operand} {a : Addr} {mm : Option M} (hW : ∀ a x, Z a = some x → w.cell? a = some x) (hx : ev ρr x = .pointer (some (a.add off))) (hr : RepAt Z a 0 cs) (h : atV P t cs off = some v) :
  ∃ u, (execOp (ev ρr) ⟨dst, .load t x, ty, pos, aft, gd⟩).run P w = .ok (.value u) w ∧ Rep mm Z v u := by
 unfold atV at h
 split at h
 ·rename_i hs
  split at h
  ·rename_i v' hv
   split at h
   ·cases h
    obtain ⟨u, h1, h2⟩ := hr.get hv
    rw [Nat.zero_add] at h1
    exact ⟨u, run_load_scal (shape_scal hs) hx (hW _ _ h1), h2.none_some⟩
   ·cases h
  ·cases h
 ·rename_i k hs
  split at h
  ·rename_i hk
   have hk := Nat.le_of_ble_eq_true hk
   cases h
   have hex : ∀ j, j < k → ∃ u v, cs[off + j]? = some v ∧ w.cell? (a.add (off + j)) = some u ∧ Rep none Z v u := fun j hj => by
    have hc : cs[off + j]? = some (cs[off + j]'(by omega)) := List.getElem?_eq_getElem (by omega)
    obtain ⟨u, h1, h2⟩ := hr.get hc
    rw [Nat.zero_add] at h1
    exact ⟨u, _, hc, hW _ _ h1, h2⟩
   let us : List Value := (List.range k).map fun j => ((w.cell? (a.add (off + j))).getD Go.undef)
   have hus : us.length = k := by simp [us]
   have hget : ∀ j, j < k → us[j]? = w.cell? (a.add (off + j)) := fun j hj => by
    obtain ⟨u, v, _, h2, _⟩ := hex j hj
    simp [us, hj, h2]
   refine ⟨.agg us.toArray, run_load_agg us (shape_agg hs) hx hus fun j u hj => ?_, us, rfl, ?_⟩
   ·have hjk : j < k := by have := (List.getElem?_eq_some_iff.1 hj).1; omega
    rw [add_add', ← hget j hjk]; exact hj
   ·refine RepL.of_get (by simp [hus]; omega) fun j v u hv hu => ?_
    have hjk : j < k := by have := (List.getElem?_eq_some_iff.1 hu).1; omega
    rw [List.getElem?_take, if_pos hjk, List.getElem?_drop] at hv
    obtain ⟨u', v', h1, h2, h3⟩ := hex j hjk
    rw [hv] at h1; cases h1
    rw [hget j hjk, h2] at hu; cases hu
    exact h3.none_some
  ·cases h
 ·cases h
theorem part_sound {t off : Nat} {cs : List V} {v : V} {l : List Value} (hr : RepL m Z cs l) (h : atV P t cs off = some v) : ∃ u, (part t l.toArray off).run P w = .ok u w ∧ Rep m Z v u := by
 unfold atV at h
 split at h
 ·rename_i hs
  split at h
  ·rename_i v' hv
   split at h
   ·cases h
    obtain ⟨u, h1, h2⟩ := hr.get hv
    exact ⟨u, by simp [part, run_isAgg_scal (shape_scal hs), h1], h2⟩
   ·cases h
  ·cases h
 ·rename_i k hs
  split at h
  ·rename_i hk
   have hk := Nat.le_of_ble_eq_true hk
   cases h
   obtain ⟨d, i, hd, hn, hi, hik⟩ := id (shape_agg hs)
   refine ⟨.agg ((l.drop off).take k).toArray, ?_, _, rfl, (hr.drop off).take k⟩
   have e : l.toArray.extract off (off + k) = ((l.drop off).take k).toArray := by
    apply Array.ext'
    simp [List.extract_eq_drop_take]
   simp [part, run_isAgg_agg (shape_agg hs), sizeOf, typeInfo, hi, hik, e]
  ·cases h
 ·cases h
theorem run_callLen {t : TypeId} {x : Operand} {v r : V} (hx : Rep m Z v (ev ρr x)) (h : lenV P t v = some r) :
  ∃ u, (execOp (ev ρr) ⟨dst, .call ⟨.builtin .len, #[x], #[t]⟩, ty, pos, aft, gd⟩).run P w = .ok (.value u) w ∧ Rep m Z r u := by
 have hsl : ∀ {A n c}, ev ρr x = .slice A n c → sliceT P t = true → (execOp (ev ρr) ⟨dst, .call ⟨.builtin .len, #[x], #[t]⟩, ty, pos, aft, gd⟩).run P w = .ok (.value (i64 n)) w := fun hv hs => by
  unfold sliceT at hs
  split at hs
  ·rename_i e ht; exact run_len_slice' ht hv
  ·cases hs
 unfold lenV at h
 split at h
 ·split at h
  ·rename_i ht
   cases h
   exact ⟨_, run_len_str ht hx, rfl⟩
  ·cases h
 ·split at h
  ·rename_i hs
   cases h
   obtain ⟨_, _, _, _, h3, _, hv | ⟨h0, A, hv⟩ | ⟨_, h0, A, c', hv, _⟩⟩ := hx
   ·exact ⟨_, hsl hv hs, rfl⟩
   ·have h6 := (Nat.add_eq_zero_iff.1 (Nat.le_zero.1 (h0 ▸ h3))).2
    subst h6
    exact ⟨_, hsl hv hs, rfl⟩
   ·subst h0
    exact ⟨_, hsl hv hs, rfl⟩
  ·cases h
 ·split at h
  ·rename_i hs
   cases h
   obtain ⟨_, _, hv, _⟩ := hx
   exact ⟨_, hsl hv hs, rfl⟩
  ·cases h
 ·split at h
  ·rename_i hs
   cases h
   exact ⟨_, hsl hx hs, rfl⟩
  ·cases h
 ·cases h
theorem map_one {α β : Type} {f : α → β} {l : List α} {b : β} (h : l.map f = [b]) : ∃ x, l = [x] ∧ f x = b := by
 match l, h with
 | [x], h => exact ⟨x, rfl, by simpa using h⟩
theorem map_two {α β : Type} {f : α → β} {l : List α} {b c : β} (h : l.map f = [b, c]) : ∃ x y, l = [x, y] ∧ f x = b ∧ f y = c := by
 match l, h with
 | [x, y], h => exact ⟨x, y, rfl, by simpa using h⟩
theorem map_three {α β : Type} {f : α → β} {l : List α} {b c d : β} (h : l.map f = [b, c, d]) : ∃ x y z, l = [x, y, z] ∧ f x = b ∧ f y = c ∧ f z = d := by
 match l, h with
 | [x, y, z], h => exact ⟨x, y, z, rfl, by simpa using h⟩
theorem pure_sound {op : Op} {v : V} (h : pureV P ρ op = some v) (hops : ∀ x ∈ op.operands, Rep m Z (evV ρ x) (ev ρr x)) (hW : ∀ a x, Z a = some x → w.cell? a = some x) :
  notDefer op = true ∧ ∃ u, (execOp (ev ρr) ⟨dst, op, ty, pos, aft, gd⟩).run P w = .ok (.value u) w ∧ Rep m Z v u := by
 unfold pureV at h
 split at h
 ·cases h; exact ⟨rfl, _, by simp [execOp], hops _ (by simp [Op.operands])⟩
 ·cases h; exact ⟨rfl, _, by simp [execOp], hops _ (by simp [Op.operands])⟩
 ·rename_i c a b
  split at h
  ·rename_i t hc
   cases h
   have h1 := hops c (by simp [Op.operands])
   rw [hc] at h1
   simp only [Rep] at h1
   refine ⟨rfl, _, ?_, pick_rep (t := t) (hops a (by simp [Op.operands])) (hops b (by simp [Op.operands]))⟩
   simp only [execOp, h1, asBool]
   cases t <;> simp
  ·cases h
 ·rename_i op t x y t'
  have hx := hops x (by simp [Op.operands])
  have hy := hops y (by simp [Op.operands])
  split at h
  ·split at h
   ·rename_i b hb
    cases h; exact ⟨rfl, _, (run_eqNil hx hy hb).1.1, rfl⟩
   ·split at h
    ·rename_i b hb
     cases h; exact ⟨rfl, _, (run_eqNil hy hx hb).2.1, rfl⟩
    ·exact ⟨rfl, run_binOpV hx hy h⟩
  ·split at h
   ·rename_i b hb
    cases h; exact ⟨rfl, _, (run_eqNil hx hy hb).1.2, rfl⟩
   ·split at h
    ·rename_i b hb
     cases h; exact ⟨rfl, _, (run_eqNil hy hx hb).2.2, rfl⟩
    ·exact ⟨rfl, run_binOpV hx hy h⟩
  ·exact ⟨rfl, run_binOpV hx hy h⟩
 ·rename_i t x
  have hx := hops x (by simp [Op.operands])
  split at h
  ·rename_i b hb
   cases h
   rw [hb] at hx
   simp only [Rep] at hx
   exact ⟨rfl, _, by simp [execOp, hx, Op.unary], rfl⟩
  ·cases h
 ·rename_i t x
  have hx := hops x (by simp [Op.operands])
  split at h
  ·rename_i k n hb
   cases h
   rw [hb] at hx
   simp only [Rep] at hx
   exact ⟨rfl, _, by simp [execOp, hx, Op.unary, Op.intArith], rfl⟩
  ·cases h
 ·rename_i x i
  have hx := hops x (by simp [Op.operands])
  split at h
  ·rename_i vs hv
   rw [hv] at hx
   obtain ⟨l, e, hl⟩ := hx
   obtain ⟨u, h1, h2⟩ := hl.get h
   exact ⟨rfl, u, by simp [execOp, e, Instr.extract, h1], h2⟩
  ·cases h
 ·rename_i f first cap
  cases h
  have e : ∀ l : Array Operand, l.map (ev ρr) = (l.toList.map (ev ρr)).toArray := fun l => Array.ext' (by simp)
  refine ⟨rfl, .func (.func f) (first.toList.map (ev ρr)).toArray (cap.toList.map (ev ρr)).toArray, by simp only [execOp, Instr.makeFunc, e]; rfl, _, _, rfl, ?_, ?_⟩
  ·exact RepL.tmps (ρ := ρ) _ fun x hx => hops x (by simp [Op.operands]; exact .inl (by simpa using hx))
  ·exact RepL.tmps (ρ := ρ) _ fun x hx => hops x (by simp [Op.operands]; exact .inr (by simpa using hx))
 ·rename_i src dst' x
  have hx := hops x (by simp [Op.operands])
  unfold convV at h
  split at h
  ·rename_i d k k' n h1 h2 h3
   cases h
   rw [h3] at hx
   simp only [Rep] at hx
   refine ⟨rfl, _, ?_, rfl⟩
   simp [execOp, convert, run_underlying h1, run_underlying h2, hx, Conv.intToInt]
  ·rename_i d l h1 h2 h3
   cases h
   rw [h3] at hx
   simp only [Rep] at hx
   refine ⟨rfl, _, ?_, rfl⟩
   simp [execOp, convert, run_underlying h1, run_underlying h2, hx]
  ·cases h
 ·rename_i s x f
  have hx := hops x (by simp [Op.operands])
  split at h
  ·rename_i o ho
   have hF := fieldOff_of ho
   split at h
   ·rename_i k L off hv
    cases h
    rw [hv] at hx
    obtain ⟨g, loc, h1, h2, h3⟩ := hx
    exact ⟨rfl, _, run_fieldAddr_blk hF rfl h3, g, loc, h1, h2, rfl⟩
   ·rename_i cs off hv
    cases h
    rw [hv] at hx
    obtain ⟨a, h1, h2⟩ := hx
    exact ⟨rfl, _, run_fieldAddr hF h1, a, by rw [add_add'], h2⟩
   ·cases h
  ·cases h
 ·rename_i s x f
  have hx := hops x (by simp [Op.operands])
  split at h
  ·rename_i cs hv
   rw [hv] at hx
   obtain ⟨l, e, hl⟩ := hx
   unfold fieldV at h
   split at h
   ·rename_i fs hs
    split at h
    ·rename_i fld hf
     obtain ⟨u, h1, h2⟩ := part_sound (w := w) hl h
     exact ⟨rfl, u, by simp [execOp, Instr.field, run_underlying hs, hf, e, asAgg, h1], h2⟩
    ·cases h
   ·cases h
  ·cases h
 ·rename_i t x
  have hx := hops x (by simp [Op.operands])
  split at h
  ·rename_i cs off hv
   rw [hv] at hx
   obtain ⟨a, h1, h2⟩ := hx
   exact ⟨rfl, at_sound hW h1 h2 h⟩
  ·cases h
 ·rename_i x
  have hx := hops x (by simp [Op.operands])
  split at h
  ·rename_i hv
   cases h; rw [hv] at hx
   obtain ⟨g, loc, h1, h2, h3⟩ := id hx
   exact ⟨rfl, _, by simp [execOp, h3]; rfl, by rw [h3] at hx; exact hx⟩
  ·rename_i hv
   cases h; rw [hv] at hx
   obtain ⟨a, h3, h4⟩ := id hx
   exact ⟨rfl, _, by simp [execOp, h3]; rfl, by rw [h3] at hx; exact hx⟩
  ·rename_i hv
   cases h; rw [hv] at hx
   obtain ⟨a, b, h3, h4⟩ := id hx
   exact ⟨rfl, _, by simp [execOp, h3]; rfl, by rw [h3] at hx; exact hx⟩
  ·cases h
 ·rename_i b args ts
  obtain ⟨args⟩ := args
  obtain ⟨ts⟩ := ts
  refine ⟨rfl, ?_⟩
  have hop : ∀ x ∈ args, Rep m Z (evV ρ x) (ev ρr x) := fun x hx => hops x (by simp [Op.operands, Call.operands, hx])
  unfold biV at h
  simp only at h
  split at h
  ·split at h
   ·rename_i v t hv
    obtain ⟨x, rfl, rfl⟩ := map_one hv
    exact run_callLen (hop x (by simp)) h
   ·cases h
  ·split at h
   ·rename_i k a k' b hv
    obtain ⟨x, y, rfl, hv2⟩ := map_two hv
    ·skip
     have hx := hop x (by simp)
     have hy := hop y (by simp)
     rw [hv2.1] at hx; rw [hv2.2] at hy
     split at h
     ·rename_i hk; subst hk; cases h
      have h' : (if b < a then b else a) = min a b := by omega
      exact ⟨_, by simp [execOp, resolve, invoke, builtin, (show ev ρr x = _ from hx), (show ev ρr y = _ from hy), Builtin.min_, Builtin.min2, h'], rfl⟩
     ·cases h
   ·cases h
  ·split at h
   ·rename_i k a k' b hv
    obtain ⟨x, y, rfl, hv2⟩ := map_two hv
    ·skip
     have hx := hop x (by simp)
     have hy := hop y (by simp)
     rw [hv2.1] at hx; rw [hv2.2] at hy
     split at h
     ·rename_i hk; subst hk; cases h
      have h' : (if b > a then b else a) = max a b := by omega
      exact ⟨_, by simp [execOp, resolve, invoke, builtin, (show ev ρr x = _ from hx), (show ev ρr y = _ from hy), Builtin.max_, Builtin.max2, h'], rfl⟩
     ·cases h
   ·rename_i k a k' b k'' c hv
    obtain ⟨x, y, z, rfl, hv2⟩ := map_three hv
    ·skip
     have hx := hop x (by simp)
     have hy := hop y (by simp)
     have hz := hop z (by simp)
     rw [hv2.1] at hx; rw [hv2.2.1] at hy; rw [hv2.2.2] at hz
     split at h
     ·rename_i hk; subst hk
      split at h
      ·rename_i hk; subst hk; cases h
       have h1 : (if b > a then b else a) = max a b := by omega
       have h2 : (if c > max a b then c else max a b) = max (max a b) c := by omega
       exact ⟨_, by simp [execOp, resolve, invoke, builtin, (show ev ρr x = _ from hx), (show ev ρr y = _ from hy), (show ev ρr z = _ from hz), Builtin.max_, Builtin.max2, h1, h2], rfl⟩
      ·cases h
     ·cases h
   ·cases h
  ·cases h
 ·rename_i t parts
  obtain ⟨cs, hb, rfl⟩ := Option.map_eq_some_iff.1 h
  have hparts : RepL m Z ((parts.toList.map fun p => (p.1, evV ρ p.2)).map (·.2)) ((parts.toList.map fun p => (p.1, ev ρr p.2)).map (·.2)) := by
   rw [List.map_map, List.map_map]
   refine RepL.of_get (by simp) fun i v x hv hx => ?_
   rw [List.getElem?_map] at hv hx
   obtain ⟨p, hp, rfl⟩ := Option.map_eq_some_iff.1 hv
   rw [hp] at hx
   simp only [Option.map_some, Option.some.injEq, Function.comp] at hx
   subst hx
   exact hops p.2 (by have := List.mem_of_getElem? hp; simp only [Op.operands, List.mem_toArray]; exact List.mem_map_of_mem this)
  have hfst : (parts.toList.map fun p => (p.1, ev ρr p.2)).map (·.1) = (parts.toList.map fun p => (p.1, evV ρ p.2)).map (·.1) := by simp
  have key : ∃ a : Array Value, P.built t (parts.toList.map fun p => (p.1, ev ρr p.2)) = some a ∧ RepL m Z cs a.toList := by
   unfold builtV at hb
   unfold Program.built
   split at hb
   ·rename_i it fields h1 h2
    simp only [h1, h2]
    split at hb
    ·rename_i z places h3 h4
     simp only [h3, h4]
     exact fill_rep (places := places) (by intro i p hp; simpa using hp) (rep_ofC1s _) hfst hparts hb
    ·cases hb
   ·rename_i it n e h1 h2
    simp only [h1, h2]
    split at hb
    ·rename_i z ie h3 h4
     simp only [h3, h4]
     refine fill_rep (places := (List.range n).map fun i => (i * ie.size, ie.size)) ?_ (rep_ofC1s _) hfst hparts hb
     intro i p hp
     rw [List.getElem?_map] at hp
     obtain ⟨j, hj, rfl⟩ := Option.map_eq_some_iff.1 hp
     have hlt : i < n := by have := (List.getElem?_eq_some_iff.1 hj).1; simpa using this
     rw [List.getElem?_range hlt] at hj
     cases hj; rfl
    ·cases hb
   ·cases hb
  obtain ⟨a, ha, hr⟩ := key
  refine ⟨rfl, .agg a, ?_, a.toList, by simp, hr⟩
  have := run_buildS (P := P) (ρ := ρr) (w := w) (dst := dst) (ty := ty) (pos := pos) (aft := aft) (gd := gd) (t := t) (parts := parts.toList) _ a.toList rfl (by simpa using ha)
  simpa using this
 ·cases h
end
end Go.EV
namespace Go.EV
open Go Go.RowKit Go.Eng

section
variable {m m' : M} {Z Z' : ZM} {w w' : World} {k : Nat} {o o' : Obj} {b : Nat}
theorem alloc_heap_lt (ob : Go.Obj) {j : Nat} (h : j < w.heap.size) : (w.alloc ob).heap[j]? = w.heap[j]? := Below.heap_alloc w ob j h
theorem frozen_lt (hf : ∀ a x, Z a = some x → w.cell? a = some x) {a : Addr} {x : Value} (ha : Z a = some x) : a.block < w.heap.size := World.block_lt_of_cell? w a (hf a x ha)
theorem cell_same {a : Addr} (h : w'.heap[a.block]? = w.heap[a.block]?) : w'.cell? a = w.cell? a := by simp only [World.cell?, h]
theorem Step.new (ob : Go.Obj) (loc : Nat) (hf : ∀ a x, Z a = some x → w.cell? a = some x) (hm : ∀ L, m k L = none)
  (hh : ∀ m', m' k o.ver = some (w.heap.size, loc) → (∀ L l, m' k L = some l → L = o.ver) → (∀ k L l, m k L = some l → m' k L = some l) → Holds m' Z (w.alloc ob) k o) :
  ∃ m', Step m Z [] w m' Z [(k, o)] (w.alloc ob) ∧ m' k o.ver = some (w.heap.size, loc) := by
 let m' : M := fun k' L => if k' = k then (if L = o.ver then some (w.heap.size, loc) else none) else m k' L
 have h1 : m' k o.ver = some (w.heap.size, loc) := by simp [m']
 have h2 : ∀ k L l, m k L = some l → m' k L = some l := fun k' L l e => by
  by_cases hk : k' = k
  ·subst hk; rw [hm] at e; cases e
  ·simp [m', hk, e]
 have h3 : ∀ L l, m' k L = some l → L = o.ver := fun L l e => by
  simp only [m', if_true] at e
  split at e
  ·assumption
  ·cases e
 refine ⟨m', ⟨⟨fun a x ha => ?_, fun p hp => ?_, by simp [keys], fun p hp q hq _ _ _ => ?_⟩, h2, fun _ _ e => e, rfl, rfl, rfl, by rw [World.size_alloc]; omega, fun b hb _ => alloc_heap_lt ob hb, fun k hk => (by cases hk), fun k' hk => ?_, fun p hp b hb => ?_, fun a x ha => .inl ha⟩, h1⟩
 ·rw [cell_same (alloc_heap_lt ob (frozen_lt hf ha))]; exact hf a x ha
 ·simp only [List.mem_singleton] at hp
  subst hp
  exact hh m' h1 h3 h2
 ·simp only [List.mem_singleton] at hp hq
  subst hp; subst hq; rfl
 ·funext L
  have : k' ≠ k := by simpa [keys] using hk
  simp [m', this]
 ·simp only [List.mem_singleton] at hp
  subst hp
  obtain ⟨j, c, e1, _⟩ := blk_some hb
  have e2 := h3 _ _ e1
  subst e2
  rw [h1] at e1; cases e1
  exact .inl (Nat.le_refl _)
def Obj.single : Obj → Bool | .nest .. | .gen _ => false | _ => true
theorem blk_ver {m : M} {k : Nat} {o o' : Obj} (hv : o'.ver = o.ver) (h1 : o.single = true) (h2 : o'.single = true) (b : Nat) (h : blk m (k, o') b) : blk m (k, o) b := by
 cases o <;> cases o' <;> simp only [Obj.single, Bool.false_eq_true] at h1 h2 <;> (simp only [blk, blk1, hv] at h ⊢; exact h)
theorem Step.write (hs : SimH m Z [(k, o)] w) (hb : blk m (k, o) b) (hv : ∀ b2, blk m (k, o') b2 → blk m (k, o) b2) (h1 : w'.os = w.os) (h2 : w'.tape = w.tape) (h3 : w'.output = w.output) (h4 : w'.heap.size = w.heap.size)
  (hw : ∀ j, j ≠ b → w'.heap[j]? = w.heap[j]?) (hz : ∀ a x, Z a = some x → a.block = b → w'.cell? a = some x) (hh : Holds m Z w' k o') : Step m Z [(k, o)] w m Z [(k, o')] w' := by
 refine ⟨⟨fun a x ha => ?_, fun p hp => ?_, by simp [keys], fun p hp q hq _ _ _ => ?_⟩, fun _ _ _ e => e, fun _ _ e => e, h1, h2, h3, by omega, fun j hj hn => hw j fun e => ?_, fun k hk => ?_, fun _ _ => rfl, fun p hp b2 hb2 => ?_, fun a x ha => .inl ha⟩
 ·by_cases e : a.block = b
  ·exact hz a x ha e
  ·rw [cell_same (hw _ e)]; exact hs.frozen a x ha
 ·simp only [List.mem_singleton] at hp
  subst hp; exact hh
 ·simp only [List.mem_singleton] at hp hq
  subst hp; subst hq; rfl
 ·subst e; exact hn _ (List.mem_singleton.2 rfl) hb
 ·simpa [keys] using hk
 ·simp only [List.mem_singleton] at hp
  subst hp
  exact .inr ⟨_, List.mem_singleton.2 rfl, hv _ hb2⟩
end

inductive Eff where
 | pure (v : V)
 | read (k : Nat) (v : V)
 | write (k : Nat) (o : Obj) (v : V)
 | new (k : Nat) (o : Obj) (v : V)
def sizeOfT (P : Program) (t n : Nat) : Bool := match P.info? t with | some i => Nat.beq i.size n | none => false
def zeroV (P : Program) (t : Nat) : Option (List V) :=
 match P.info? t with
 | some i => match i.zero with | some z => some (z.cells.toList.map ofC1) | none => none
 | none => none
def elemT (P : Program) (t : Nat) : Option (Nat × Nat) :=
 match P.underlying t with
 | some (.slice e) => match P.info? e with
  | some i => if Nat.ble 1 i.size && i.zero.isSome then some (e, i.size) else none
  | none => none
 | _ => none
def rowsV (n sz : Nat) (parts : List (Nat × V)) : Option (List (List V)) :=
 if (parts.map (·.1)) = List.range n then
  if parts.all (fun p => p.2.plain && (Nat.beq p.2.cells.length sz && (p.2.cells.all V.one && p.2.refs.isEmpty))) then some (parts.map (·.2.cells)) else none
 else none
def effV (P : Program) (ρ : Env) (H : Heap) (d : Nat) (op : Op) : Option Eff :=
 match pureV P ρ op with
 | some v => some (.pure v)
 | none => match op with
  | .load t a => match evV ρ a with
   | .ptr k 0 off => match H.get k with
    | some (.box _ cs) => (atV P t cs off).map (.read k)
    | _ => none
   | _ => none
  | .store t a x => match evV ρ a with
   | .ptr k 0 off => match H.get k with
    | some (.box bt cs) => if (evV ρ x).plain && ((evV ρ x).cells.all V.one && (sizeOfT P t (evV ρ x).cells.length && Nat.ble (off + (evV ρ x).cells.length) cs.length))
      then some (.write k (.box bt (cs.take off ++ (evV ρ x).cells ++ cs.drop (off + (evV ρ x).cells.length))) .no) else none
    | _ => none
   | _ => none
  | .alloc t => (zeroV P t).map fun cs => .new d (.box t cs) (.ptr d 0 0)
  | .box t x => if (evV ρ x).plain then some (.new d (.box t (evV ρ x).cells) (.ptr d 0 0)) else none
  | .buildSlice t n parts => match elemT P t with
   | some (e, sz) => if Nat.ble (n * sz) 16777216 then (rowsV n sz (parts.toList.map fun p => (p.1, evV ρ p.2))).map fun els => .new d (.row e sz 0 els) (.sl sz d n 0 n) else none
   | none => none
  | .makeMap _ none => some (.new d (.map []) (.mp d))
  | _ => none

section
variable {P : Program} {ρ : Env} {w : World} {dst : Option Tmp} {ty : TypeId} {pos : String} {aft : Array Edge} {gd : Option (Nat × Bool)}
theorem loc_pure {op : Op} {v : V} (h : pureV P ρ op = some v) : Loc P ⟨dst, op, ty, pos, aft, gd⟩ ρ [] v [] := by
 intro ρr m Z w hops hs _
 obtain ⟨hn, u, h1, h2⟩ := pure_sound (P := P) (w := w) (dst := dst) (ty := ty) (pos := pos) (aft := aft) (gd := gd) h hops hs.frozen
 exact ⟨hn, .inl ⟨u, w, h1, m, Z, Step.refl hs, h2⟩⟩
theorem loc_load {t k off : Nat} {a : Operand} {bt : Nat} {cs : List V} {v : V} (ha : evV ρ a = .ptr k 0 off) (h : atV P t cs off = some v) : Loc P ⟨dst, .load t a, ty, pos, aft, gd⟩ ρ [(k, .box bt cs)] v [(k, .box bt cs)] := by
 intro ρr m Z w hops hs _
 have hx := hops a (by simp [Op.operands])
 rw [ha] at hx
 obtain ⟨f, loc, h1, h2, h3⟩ := hx
 cases h1
 obtain ⟨b, cur, g1, g2, g3, g4, g5⟩ := hs.holds _ (List.mem_singleton.2 rfl)
 rw [g1] at h2; cases h2
 have hcell : ∀ j u, cur.toList[j]? = some u → w.cell? ⟨b, j, none⟩ = some u := fun j u hu => by
  rw [cell_of_row w b j cur bt (0, 0) g2]; simpa using hu
 refine ⟨rfl, .inl ?_⟩
 unfold atV at h
 split at h
 ·rename_i hsh
  split at h
  ·rename_i v' hv
   split at h
   ·cases h
    obtain ⟨u, h4, h5⟩ := g3.get hv
    exact ⟨u, w, run_load_scal (shape_scal hsh) h3 (hcell _ _ h4), m, Z, Step.refl hs, h5⟩
   ·cases h
  ·cases h
 ·rename_i n hsh
  split at h
  ·rename_i hk
   have hk := Nat.le_of_ble_eq_true hk
   cases h
   have hl := g3.length
   refine ⟨.agg ((cur.toList.drop off).take n).toArray, w, run_load_agg _ (shape_agg hsh) h3 (by simp at hl ⊢; omega) fun j u hj => ?_, m, Z, Step.refl hs, _, rfl, (g3.drop off).take n⟩
   rw [Addr.add_lit]
   have hjn : j < n := by have := (List.getElem?_eq_some_iff.1 hj).1; simp at this; omega
   rw [List.getElem?_take, if_pos hjn, List.getElem?_drop] at hj
   exact hcell _ _ hj
  ·cases h
 ·cases h
theorem loc_store {t k off bt : Nat} {a x : Operand} {cs : List V} (ha : evV ρ a = .ptr k 0 off) (hp : (evV ρ x).plain = true) (h1 : (evV ρ x).cells.all V.one = true) (hsz : sizeOfT P t (evV ρ x).cells.length = true) (hfit : off + (evV ρ x).cells.length ≤ cs.length) :
  Loc P ⟨dst, .store t a x, ty, pos, aft, gd⟩ ρ [(k, .box bt cs)] .no [(k, .box bt (cs.take off ++ (evV ρ x).cells ++ cs.drop (off + (evV ρ x).cells.length)))] := by
 intro ρr m Z w hops hs _
 have hx := hops a (by simp [Op.operands])
 rw [ha] at hx
 obtain ⟨f, loc, e1, h2, h3⟩ := hx
 cases e1
 obtain ⟨b, cur, g1, g2, g3, g4, g5⟩ := hs.holds _ (List.mem_singleton.2 rfl)
 rw [g1] at h2; cases h2
 have hv := (hops x (by simp [Op.operands])).cells hp
 have hlv := hv.length
 have hl := g3.length
 have hones : ∀ u ∈ (ev ρr x).cells.toList, u.oneCell' = true := fun u hu => by
  obtain ⟨i, hi, he⟩ := List.getElem_of_mem hu
  have hg : (ev ρr x).cells.toList[i]? = some u := by rw [← he]; exact List.getElem?_eq_getElem hi
  have hvi : (evV ρ x).cells[i]? = some ((evV ρ x).cells[i]'(by omega)) := List.getElem?_eq_getElem (by omega)
  obtain ⟨u', h4, h5⟩ := hv.get hvi
  rw [hg] at h4; cases h4
  exact h5.one ((List.all_eq_true.1 h1) _ (List.getElem_mem _))
 unfold sizeOfT at hsz
 split at hsz
 ·rename_i i hi
  have hik := Nat.eq_of_beq_eq_true hsz
  have hst := run_storeCells_at P b off bt (ev ρr x).cells.toList 0 cur w g2 (by simp at hl hlv ⊢; omega) hones
  simp only [Nat.add_zero] at hst
  have e : (ev ρr x).cells = (ev ρr x).cells.toList.toArray := by simp
  refine ⟨rfl, .inr (.inl ⟨w.setRow b (cur.toList.take off ++ (ev ρr x).cells.toList ++ cur.toList.drop (off + (ev ρr x).cells.toList.length)).toArray, ?_, m, Z, ?_, rfl⟩)⟩
  ·have hsz2 : (ev ρr x).cells.size = i.size := by simp at hlv; omega
   simp [execOp, Instr.storeAt, h3, Instr.sureAddr, storeVar, sizeOf, typeInfo, hi, hsz2, hst]
  ·refine Step.write (b := b) hs (by simp [blk, blk1, Obj.ver, g1]) (blk_ver rfl rfl rfl) rfl rfl rfl (by simp) (fun j hj => setRow_other w b j _ hj) (fun a x ha e => absurd e (g4 a x ha)) ?_
   exact ⟨b, _, g1, setRow_heap w b _ _ bt _ g2, by simpa using patch_rep (off := off) g3 hv, g4, g5⟩
 ·cases hsz
theorem loc_alloc {t d : Nat} {cs : List V} (h : zeroV P t = some cs) : Loc P ⟨dst, .alloc t, ty, pos, aft, gd⟩ ρ [] (.ptr d 0 0) [(d, .box t cs)] := by
 intro ρr m Z w hops hs hfr
 unfold zeroV at h
 split at h
 ·rename_i i hi
  split at h
  ·rename_i z hz
   cases h
   obtain ⟨m', h1, h2⟩ := Step.new (m := m) (Z := Z) (w := w) (k := d) (o := .box t (z.cells.toList.map ofC1)) (.cells z.cells t) 1 hs.frozen (fun L => hfr d (by simp [keys]) (by simp [keys]) L) fun m' g1 g2 g3 =>
    ⟨w.heap.size, z.cells, g1, World.alloc_heap_new w _, rep_ofC1s _, fun a x ha e => by have := frozen_lt hs.frozen ha; omega, fun L l e => by have := g2 L l e; simp only [Obj.ver] at this; omega⟩
   refine ⟨rfl, .inl ⟨.pointer (some ⟨w.heap.size, 0, none⟩), w.alloc (.cells z.cells t), ?_, m', Z, h1, m', _, rfl, h2, rfl⟩⟩
   simp [execOp, Instr.alloc, zeroValue, typeInfo, hi, hz, newVar, newRow, newObj]
   rfl
  ·cases h
 ·cases h
theorem loc_box {t d : Nat} {x : Operand} (hp : (evV ρ x).plain = true) : Loc P ⟨dst, .box t x, ty, pos, aft, gd⟩ ρ [] (.ptr d 0 0) [(d, .box t (evV ρ x).cells)] := by
 intro ρr m Z w hops hs hfr
 have hv := (hops x (by simp [Op.operands])).cells hp
 obtain ⟨m', h1, h2⟩ := Step.new (m := m) (Z := Z) (w := w) (k := d) (o := .box t (evV ρ x).cells) (.cells (ev ρr x).cells t) 1 hs.frozen (fun L => hfr d (by simp [keys]) (by simp [keys]) L) fun m' g1 g2 g3 =>
  ⟨w.heap.size, (ev ρr x).cells, g1, World.alloc_heap_new w _, hv.up (fun _ _ e => e) (fun f e => by cases e; exact ⟨m', rfl, g3⟩), fun a x ha e => by have := frozen_lt hs.frozen ha; omega, fun L l e => by have := g2 L l e; simp only [Obj.ver] at this; omega⟩
 refine ⟨rfl, .inl ⟨.pointer (some ⟨w.heap.size, 0, none⟩), w.alloc (.cells (ev ρr x).cells t), ?_, m', Z, h1, m', _, rfl, h2, rfl⟩⟩
 simp [execOp, Instr.box, newVar, newRow, newObj]
 rfl
theorem loc_makeMap {t d : Nat} : Loc P ⟨dst, .makeMap t none, ty, pos, aft, gd⟩ ρ [] (.mp d) [(d, .map [])] := by
 intro ρr m Z w hops hs hfr
 obtain ⟨m', h1, h2⟩ := Step.new (m := m) (Z := Z) (w := w) (k := d) (o := .map []) (.map #[] 0) 1 hs.frozen (fun L => hfr d (by simp [keys]) (by simp [keys]) L) fun m' g1 g2 g3 =>
  ⟨w.heap.size, #[], 0, g1, World.alloc_heap_new w _, rfl, by simp, by simp, fun a x ha e => by (have := frozen_lt hs.frozen ha; omega), 0, fun L l e => by have := g2 L l e; simp only [Obj.ver] at this; omega⟩
 refine ⟨rfl, .inl ⟨.map (some w.heap.size), w.alloc (.map #[] 0), ?_, m', Z, h1, m', _, rfl, h2, rfl⟩⟩
 simp [execOp, Instr.makeMap, newObj]
 rfl
theorem fillV_seq {n sz : Nat} : ∀ (parts : List (Nat × V)) (j : Nat) (cells : List V), parts.map (·.1) = List.range' j parts.length → j + parts.length = n → cells.length = n * sz → (∀ p ∈ parts, p.2.plain = true ∧ p.2.cells.length = sz) →
  fillV ((List.range n).map fun i => (i * sz, sz)) cells parts = some (cells.take (j * sz) ++ (parts.map (·.2.cells)).flatten)
 | [], j, cells, _, hn, hc, _ => by
  simp only [fillV, List.map_nil, List.flatten_nil, List.append_nil, Option.some.injEq]
  rw [List.take_of_length_le]
  simp at hn; subst hn; omega
 | (i, v) :: parts, j, cells, h1, hn, hc, hp => by
  simp only [List.map_cons, List.length_cons, List.range'_succ, List.cons.injEq] at h1 hn
  obtain ⟨rfl, h1⟩ := h1
  obtain ⟨hv, hvl⟩ := hp (i, v) (List.mem_cons_self ..)
  have hin : i < n := by omega
  have hpl : ((List.range n).map fun i => (i * sz, sz))[i]? = some (i * sz, sz) := by
   rw [List.getElem?_map, List.getElem?_range hin]; rfl
  have hle : i * sz + sz ≤ n * sz := by
   have : (i + 1) * sz ≤ n * sz := Nat.mul_le_mul_right sz hin
   rwa [Nat.succ_mul] at this
  simp only [fillV, hpl, hv, hvl, Nat.beq_refl, Bool.true_and]
  have hb : Nat.ble (i * sz + sz) cells.length = true := by rw [hc]; exact Nat.ble_eq_true_of_le hle
  rw [if_pos hb]
  rw [fillV_seq parts (i + 1) _ h1 (by omega) (by simp only [List.length_append, List.length_take, List.length_drop, hvl, hc]; omega) (fun p hp' => hp p (List.mem_cons_of_mem _ hp'))]
  congr 1
  have e : (i + 1) * sz = (cells.take (i * sz) ++ v.cells).length := by simp [hvl, Nat.succ_mul]; omega
  rw [e, List.take_left' rfl]
  simp
theorem loc_buildSlice {t d e n sz : Nat} {parts : List (Nat × Operand)} {els : List (List V)} (hT : elemT P t = some (e, sz)) (hsz : Nat.ble (n * sz) 16777216 = true) (h : rowsV n sz (parts.map fun p => (p.1, evV ρ p.2)) = some els) :
  Loc P ⟨dst, .buildSlice t n parts.toArray, ty, pos, aft, gd⟩ ρ [] (.sl sz d n 0 n) [(d, .row e sz 0 els)] := by
 intro ρr m Z w hops hs hfr
 have hsz := Nat.le_of_ble_eq_true hsz
 unfold elemT at hT
 split at hT
 ·rename_i e' hu
  split at hT
  ·rename_i i hi
   split at hT
   ·rename_i hc
    simp only [Option.some.injEq, Prod.mk.injEq] at hT
    obtain ⟨rfl, rfl⟩ := hT
    simp only [Bool.and_eq_true] at hc
    have h0 := Nat.le_of_ble_eq_true hc.1
    obtain ⟨z, hz⟩ := Option.isSome_iff_exists.1 hc.2
    unfold rowsV at h
    split at h
    ·rename_i hpos
     split at h
     ·rename_i hall
      cases h
      have hlen : parts.length = n := by have := congrArg List.length hpos; simpa using this
      have hall' : ∀ p ∈ parts.map (fun p => (p.1, evV ρ p.2)), p.2.plain = true ∧ p.2.cells.length = i.size ∧ p.2.cells.all V.one = true ∧ p.2.refs = [] := fun p hp => by
       have := (List.all_eq_true.1 hall) p hp
       simp only [Bool.and_eq_true, List.isEmpty_iff] at this
       exact ⟨this.1, Nat.eq_of_beq_eq_true this.2.1, this.2.2.1, this.2.2.2⟩
      have hcells : ((Array.range (n * i.size)).map fun j => z.cells[j % z.cells.size]!).toList.length = n * i.size := by simp
      have hfill := fillV_seq (n := n) (sz := i.size) (parts.map fun p => (p.1, evV ρ p.2)) 0 (((Array.range (n * i.size)).map fun j => z.cells[j % z.cells.size]!).toList.map fun _ => V.undef) (by rw [hpos]; simp [List.range_eq_range', hlen]) (by simp [hlen]) (by simp) (fun p hp => ⟨(hall' p hp).1, (hall' p hp).2.1⟩)
      simp only [Nat.zero_mul, List.take_zero, List.nil_append] at hfill
      have hun : ∀ l : List Value, RepL (some m) Z (l.map fun _ => V.undef) l := fun l => by
       induction l with
       | nil => rfl
       | cons x l ih => exact ⟨x, l, rfl, trivial, ih⟩
      obtain ⟨a', hf1, hf2⟩ := fill_rep (m := some m) (Z := Z) (places := (List.range n).map fun j => (j * i.size, i.size)) (place := fun j => some (j * i.size, i.size)) (by
       intro j p hp
       rw [List.getElem?_map] at hp
       obtain ⟨j', hj', rfl⟩ := Option.map_eq_some_iff.1 hp
       have hlt : j < n := by have := (List.getElem?_eq_some_iff.1 hj').1; simpa using this
       rw [List.getElem?_range hlt] at hj'
       cases hj'; rfl) (ps := parts.map fun p => (p.1, ev ρr p.2)) (hun _) (by simp) (by
        rw [List.map_map, List.map_map]
        refine RepL.of_get (by simp) fun i v x hv hx => ?_
        rw [List.getElem?_map] at hv hx
        obtain ⟨p, hp, rfl⟩ := Option.map_eq_some_iff.1 hv
        rw [hp] at hx
        simp only [Option.map_some, Option.some.injEq, Function.comp] at hx
        subst hx
        exact hops p.2 (by have := List.mem_of_getElem? hp; simp only [Op.operands, List.mem_toArray]; exact List.mem_map_of_mem this)) hfill
      have hels : (((parts.map fun p => (p.1, evV ρ p.2)).map (·.2.cells)) : List (List V)).length = n := by simp [hlen]
      have hflat : ∀ l : List (Nat × V), (∀ p ∈ l, p.2.refs = []) → refsL (l.map (·.2.cells)).flatten = [] := fun l => by
       induction l with
       | nil => intro _; rfl
       | cons p l ih =>
        intro hp
        have happ : ∀ a b : List V, refsL (a ++ b) = refsL a ++ refsL b := fun a b => by
         induction a with
         | nil => rfl
         | cons x a ih => simp [refsL, ih]
        rw [List.map_cons, List.flatten_cons, happ, ih (fun q hq => hp q (List.mem_cons_of_mem _ hq)), List.append_nil]
        have h1 := hp p (List.mem_cons_self ..)
        cases hv : p.2 <;> rw [hv] at h1 <;> simp only [V.cells, refsL, List.append_nil] <;> exact h1
      have hla : ∀ l : List (Nat × V), (∀ p ∈ l, p.2.cells.length = i.size) → (l.map (·.2.cells)).flatten.length = l.length * i.size := fun l => by
       induction l with
       | nil => intro _; simp
       | cons p l ih =>
        intro hp
        rw [List.map_cons, List.flatten_cons, List.length_append, ih (fun q hq => hp q (List.mem_cons_of_mem _ hq)), hp p (List.mem_cons_self ..), List.length_cons, Nat.succ_mul]; omega
      have hasz : a'.size = n * i.size := by
       have h1 := hf2.length
       rw [hla _ (fun p hp => (hall' p hp).2.1)] at h1
       simpa [hlen] using h1
      have hf3 := RepL.flat _ _ (hflat _ fun p hp => (hall' p hp).2.2.2) hf2
      have hnm : n ≤ maxLen := by
       have : n ≤ n * i.size := Nat.le_mul_of_pos_right n h0
       simp only [maxLen]; omega
      obtain ⟨m', h1, h2⟩ := Step.new (m := m) (Z := Z) (w := w) (k := d) (o := .row e' i.size 0 ((parts.map fun p => (p.1, evV ρ p.2)).map (·.2.cells))) (.cells a' e') n hs.frozen (fun L => hfr d (by simp [keys]) (by simp [keys]) L) fun m' g1 g2 g3 => by
       by_cases hn0 : n = 0
       ·have he : ((parts.map fun p => (p.1, evV ρ p.2)).map (·.2.cells)) = [] := List.eq_nil_of_length_eq_zero (by rw [hels, hn0])
        have hv0 : (Obj.row e' i.size 0 ((parts.map fun p => (p.1, evV ρ p.2)).map (·.2.cells))).ver = 0 := by simp only [Obj.ver]; rw [hels, hn0]
        rw [hv0] at g1
        subst hn0
        exact .inl ⟨h0, he, rfl, ⟨_, g1⟩, fun L l e => by have := g2 L l e; rw [hv0] at this; omega⟩
       refine .inr ⟨w.heap.size, n, a', (0, 0), g1, by omega, World.alloc_heap_new w _, by rw [hels]; exact Nat.le_refl _, hnm, hasz, h0, ?_, ?_, by simp, by simp, fun a x ha e => by have := frozen_lt hs.frozen ha; omega, fun L l e => by have := g2 L l e; simp only [Obj.ver] at this; omega, fun off x ho => by omega⟩
       ·rw [hels, List.take_of_length_le (by simp [hasz])]
        exact hf3
       ·intro x hx
        obtain ⟨p, hp, rfl⟩ := List.mem_map.1 hx
        exact (hall' p hp).2.1
      have hver : (Obj.row e' i.size 0 ((parts.map fun p => (p.1, evV ρ p.2)).map (·.2.cells))).ver = n := hels
      rw [hver] at h2
      refine ⟨rfl, .inl ⟨.slice (some ⟨w.heap.size, 0, none⟩) n n, w.alloc (.cells a' e'), ?_, m', Z, h1, m', _, rfl, h2, by simp, hnm, .inl (by simp)⟩⟩
      have e2 : (parts.toArray.map fun x => (x.1, ev ρr x.2)).toList = parts.map fun p => (p.1, ev ρr p.2) := by simp
      have hgt : ¬ n * i.size > 2 ^ 24 := by omega
      simp only [execOp, Instr.buildSlice, Sem.run_bind, run_underlying hu, Result.andThen_ok, sizeOf, typeInfo]
      simp only [program, Sem.run, hi, Sem.run_bind, Sem.run_pure, Result.andThen_ok, if_neg hgt, e2]
      by_cases hn0 : n * i.size = 0
      ·have hA : ∀ f : Nat → Value, (Array.range (n * i.size)).map f = #[] := fun f => by
        have e0 : Array.range 0 = (#[] : Array Nat) := rfl
        rw [hn0, e0]; simp
       rw [hA] at hf1
       simp only [if_pos hn0, Sem.run_pure, Result.andThen_ok, hA, hf1]
       simp [newRow, newObj]
       rfl
      ·simp only [if_neg hn0, Sem.run_bind, zeroValue, typeInfo, program, Sem.run, hi, hz, Sem.run_pure, Result.andThen_ok, hf1]
       simp [newRow, newObj]
       rfl
     ·cases h
    ·cases h
   ·cases hT
  ·cases hT
 ·cases hT
end
end Go.EV
namespace Go.EV
open Go Go.RowKit Go.Eng

def Heap.set : Heap → Nat → Obj → Heap
 | [], _, _ => []
 | (k', o') :: r, k, o => bif Nat.beq k k' then (k', o) :: r else (k', o') :: Heap.set r k o
def hasKey (k : Nat) : Heap → Bool
 | [] => false
 | (k', _) :: r => bif Nat.beq k k' then true else hasKey k r
theorem hasKey_iff {k : Nat} : ∀ {H : Heap}, hasKey k H = true ↔ k ∈ keys H
 | [] => by simp [hasKey, keys]
 | (k', o) :: r => by
  simp only [hasKey, keys, List.map_cons, List.mem_cons]
  cases hb : Nat.beq k k' with
  | true => simp [Nat.eq_of_beq_eq_true hb]
  | false =>
   have : k ≠ k' := fun e => by subst e; rw [Nat.beq_refl] at hb; cases hb
   simp only [cond_false, this, false_or]
   exact hasKey_iff
theorem set_perm {k : Nat} {o : Obj} : ∀ {H : Heap}, (keys H).Nodup → k ∈ keys H → (Heap.set H k o).Perm ((k, o) :: remH [k] H)
 | [], _, h => by simp [keys] at h
 | (k', o') :: r, hn, h => by
  simp only [keys, List.map_cons, List.nodup_cons] at hn
  simp only [Heap.set]
  cases hb : Nat.beq k k' with
  | true =>
   have := Nat.eq_of_beq_eq_true hb
   subst this
   have e : remH [k] ((k, o') :: r) = r := by
    simp only [remH, List.filter_cons]
    have : (!([k].contains k)) = false := by simp
    simp only [this, Bool.false_eq_true, if_false]
    exact List.filter_eq_self.2 fun p hp => by
     have : p.1 ≠ k := fun e => hn.1 (e ▸ List.mem_map_of_mem hp)
     simp [this]
   rw [e]; exact .refl _
  | false =>
   have hne : k ≠ k' := fun e => by subst e; rw [Nat.beq_refl] at hb; cases hb
   have hk : k ∈ keys r := by
    simp only [keys, List.map_cons, List.mem_cons] at h
    rcases h with h | h
    ·exact absurd h hne
    ·exact h
   have e : remH [k] ((k', o') :: r) = (k', o') :: remH [k] r := by
    simp only [remH, List.filter_cons]
    have : (!([k].contains k')) = true := by simp [Ne.symm hne]
    simp only [this, if_true]
   rw [cond_false, e]
   exact ((set_perm hn.2 hk).cons _).trans (.swap ..)
theorem get_sel {H : Heap} {k : Nat} {o : Obj} (h : H.get k = some o) : selH [k] H = some [(k, o)] := by simp [selH, h]
theorem get_has {H : Heap} {k : Nat} {o : Obj} (h : H.get k = some o) : k ∈ keys H := mem_keys (Heap.get_mem h)

def effRun (H : Heap) : Eff → Option (V × Heap)
 | .pure v => some (v, H)
 | .read _ v => some (v, H)
 | .write k o v => some (v, H.set k o)
 | .new k o v => bif hasKey k H then none else some (v, (k, o) :: H)
def putE (d : Option Nat) (v : V) (ρ : Env) : Env := match d with | some d => (d, v) :: ρ | none => ρ
def runV (P : Program) (all : List Oper) (N : Nat) : List Oper → Env → Heap → Option (Env × Heap)
 | [], ρ, H => some (ρ, H)
 | o :: r, ρ, H => bif (match o.dst with | some d => Nat.ble (d + 1) N | none => true) then
   match wantedV all ρ o with
   | some false => runV P all N r (putE o.dst .no ρ) H
   | some true => match effV P ρ H (o.dst.getD 0) o.op with
    | some e => match effRun H e with
     | some (v, H') => runV P all N r (putE o.dst v ρ) H'
     | none => none
    | none => none
   | none => none
  else none

section
variable {K0 : List Nat} {c : Ctx K0} {P : Program} {r : Option Nat} {N : Nat} {Q : PostV} {ρ : Env} {H H' : Heap} {ds : List Deferred} {all rest : List Oper} {o : Oper}
theorem SimA.perm {ρr : Slots} {w : World} (hp : H.Perm H') (S : SimA c ρ H ρr w) : SimA c ρ H' ρr w := by
 obtain ⟨m, Z, S, hR⟩ := S
 exact ⟨m, Z, ⟨S.step.permR hp, fun k hk => S.dom k fun h => hk ((hp.map _).mem_iff.1 h)⟩, hR⟩
theorem ov_perm (hp : H.Perm H') (h : OpsV c P r N all Q rest ρ H' ds) : OpsV c P r N all Q rest ρ H ds := fun ρr w ds1 S hM => h ρr w ds1 (S.perm hp) hM
theorem ov_nodup (h : (keys H).Nodup → OpsV c P r N all Q rest ρ H ds) : OpsV c P r N all Q rest ρ H ds := fun ρr w ds1 S hM => by
 obtain ⟨m, Z, S', hR⟩ := id S
 exact h S'.step.sim.nodup ρr w ds1 S hM
theorem ov_any {F F' : Heap} {v : V} (ks : List Nat) (hd : (match o.dst with | some d => Nat.ble (d + 1) N | none => true) = true) (hw : wantedV all ρ o = some true) (hks : nodupB ks = true) (hF : selH ks H = some F) (hl : Loc P o ρ F v F') (hfr : freshB F' ks H = true)
  (h : OpsV c P r N all Q rest (putE o.dst v ρ) (F' ++ remH ks H) ds) : OpsV c P r N all Q (o :: rest) ρ H ds := by
 cases hd' : o.dst with
 | none => rw [hd'] at h; exact ov_loc0 ks hd' hw hks hF hl hfr h
 | some d => rw [hd'] at h hd; exact ov_loc d ks hd' hd hw hks hF hl hfr h
theorem remH_nil : remH [] H = H := by simp [remH]
theorem loc_eff' {e : Eff} {d : Nat} (h : effV P ρ H d o.op = some e) :
  match e with
  | .pure v => Loc P o ρ [] v []
  | .read k v => ∃ ob, H.get k = some ob ∧ Loc P o ρ [(k, ob)] v [(k, ob)]
  | .write k ob v => ∃ ob0, H.get k = some ob0 ∧ Loc P o ρ [(k, ob0)] v [(k, ob)]
  | .new k ob v => Loc P o ρ [] v [(k, ob)] := by
 obtain ⟨dst, op, ty, pos, aft, gd⟩ := o
 simp only at h ⊢
 unfold effV at h
 split at h
 ·rename_i v hv
  cases h
  exact loc_pure hv
 ·split at h
  ·rename_i t a
   split at h
   ·rename_i k off ha
    split at h
    ·rename_i bt cs hk
     obtain ⟨v, hv, rfl⟩ := Option.map_eq_some_iff.1 h
     exact ⟨_, hk, loc_load ha hv⟩
    ·cases h
   ·cases h
  ·rename_i t a x
   split at h
   ·rename_i k off ha
    split at h
    ·rename_i bt cs hk
     split at h
     ·rename_i hc
      cases h
      simp only [Bool.and_eq_true] at hc
      exact ⟨_, hk, loc_store ha hc.1 hc.2.1 hc.2.2.1 (Nat.le_of_ble_eq_true hc.2.2.2)⟩
     ·cases h
    ·cases h
   ·cases h
  ·obtain ⟨cs, hc, rfl⟩ := Option.map_eq_some_iff.1 h
   exact loc_alloc hc
  ·split at h
   ·rename_i hp
    cases h
    exact loc_box hp
   ·cases h
  ·split at h
   ·rename_i e' sz hT
    split at h
    ·rename_i hsz
     obtain ⟨els, he, rfl⟩ := Option.map_eq_some_iff.1 h
     rename_i t n parts
     have := loc_buildSlice (P := P) (ρ := ρ) (dst := dst) (ty := ty) (pos := pos) (aft := aft) (gd := gd) (d := d) hT hsz he
     simpa using this
    ·cases h
   ·cases h
  ·cases h
   exact loc_makeMap
  ·cases h
theorem ov_run1 {all : List Oper} : ∀ (l : List Oper) (ρ : Env) (H : Heap) (ρ' : Env) (H' : Heap), runV P all N l ρ H = some (ρ', H') → OpsV c P r N all Q rest ρ' H' ds → OpsV c P r N all Q (l ++ rest) ρ H ds
 | [], ρ, H, ρ', H', hr, h => by
  simp only [runV, Option.some.injEq, Prod.mk.injEq] at hr
  obtain ⟨rfl, rfl⟩ := hr
  exact h
 | o :: l, ρ, H, ρ', H', hr, h => by
  simp only [runV] at hr
  cases hd : (match o.dst with | some d => Nat.ble (d + 1) N | none => true) with
  | false => rw [hd] at hr; cases hr
  | true =>
   rw [hd, cond_true] at hr
   split at hr
   ·rename_i hw
    have ih := ov_run1 l _ _ _ _ hr h
    cases hd' : o.dst with
    | none => rw [hd'] at ih; exact ov_skip0 hd' hw ih
    | some d => rw [hd'] at ih hd; exact ov_skip d hd' hd hw ih
   ·rename_i hw
    split at hr
    ·rename_i e he
     split at hr
     ·rename_i v H1 hH
      have ih := ov_run1 l _ _ _ _ hr h
      have hl := loc_eff' (P := P) (o := o) he
      cases e with
      | pure v' =>
       simp only [effRun, Option.some.injEq, Prod.mk.injEq] at hH
       obtain ⟨rfl, rfl⟩ := hH
       exact ov_any [] hd hw rfl rfl hl rfl (by rw [List.nil_append, remH_nil]; exact ih)
      | read k v' =>
       simp only [effRun, Option.some.injEq, Prod.mk.injEq] at hH
       obtain ⟨rfl, rfl⟩ := hH
       obtain ⟨ob, h1, h2⟩ := hl
       refine ov_nodup fun hnd => ov_any [k] hd hw rfl (get_sel h1) h2 (by simp [freshB]) ?_
       exact ov_perm (split_perm hnd (by simp) (get_sel h1)).symm ih
      | write k ob v' =>
       simp only [effRun, Option.some.injEq, Prod.mk.injEq] at hH
       obtain ⟨rfl, rfl⟩ := hH
       obtain ⟨ob0, h1, h2⟩ := hl
       refine ov_nodup fun hnd => ov_any [k] hd hw rfl (get_sel h1) h2 (by simp [freshB]) ?_
       exact ov_perm (set_perm hnd (get_has h1)).symm ih
      | new k ob v' =>
       simp only [effRun] at hH
       cases hk : hasKey k H with
       | true => rw [hk] at hH; cases hH
       | false =>
        rw [hk] at hH
        simp only [cond_false, Option.some.injEq, Prod.mk.injEq] at hH
        obtain ⟨rfl, rfl⟩ := hH
        have hk' : k ∉ keys H := fun h' => by rw [hasKey_iff.2 h'] at hk; cases hk
        exact ov_any [] hd hw rfl rfl hl (by simp [freshB, hk']) (by rw [remH_nil]; exact ih)
     ·cases hr
    ·cases hr
   ·cases hr
end
end Go.EV
namespace Go.EV
open Go Go.RowKit Go.Eng

def FnA (P : Program) (f : FuncId) (args : List V) (F : Heap) (r : V) (F' : Heap) : Prop :=
 ∀ w m Z vals, SimH m Z F w → RepL (some m) Z args vals → (∀ k, k ∉ keys F → ∀ L, m k L = none) →
  Calls P f vals.toArray w fun en w' => ∃ x m' Z', en = .returned x ∧ Step m Z F w m' Z' F' w' ∧ Rep (some m') Z' r x

def argsE (args : List V) : Env := args.zipIdx.map fun p => (p.2, p.1)
theorem argsE_get {m : Option M} {Z : ZM} : ∀ (args : List V) (vals : List Value) (j t : Nat), RepL m Z args vals → Rep m Z (Env.get ((args.zipIdx j).map fun p => (p.2, p.1)) t) (if j ≤ t then vals.getD (t - j) Go.undef else Go.undef)
 | [], vals, j, t, h => by
  cases h
  show True
  trivial
 | v :: args, vals, j, t, h => by
  obtain ⟨x, xs, rfl, h1, h2⟩ := h
  show Rep m Z (bif Nat.beq t j then v else (Env.get ((args.zipIdx (j + 1)).map fun p => (p.2, p.1)) t)) _
  cases hb : Nat.beq t j with
  | true =>
   have := Nat.eq_of_beq_eq_true hb
   subst this
   simpa using h1
  | false =>
   have hne : t ≠ j := fun e => by subst e; rw [Nat.beq_refl] at hb; cases hb
   have ih := argsE_get args xs (j + 1) t h2
   rw [cond_false]
   by_cases hj : j ≤ t
   ·rw [if_pos hj]
    rw [if_pos (by omega)] at ih
    have e : t - j = (t - (j + 1)) + 1 := by omega
    rw [e]
    simpa using ih
   ·rw [if_neg hj]
    rw [if_neg (by omega)] at ih
    exact ih
def res1 (P : Program) (ρ : Env) (H : Heap) : ResultVar → Option V
 | .tmp t => some (ρ.get t)
 | .cell a ty => match ρ.get a with
  | .ptr k 0 off => match H.get k with
   | some (.box _ cs) => atV P ty cs off
   | _ => none
  | _ => none
def resL (P : Program) (ρ : Env) (H : Heap) : List ResultVar → Option (List V)
 | [] => some []
 | x :: l => match res1 P ρ H x, resL P ρ H l with | some v, some vs => some (v :: vs) | _, _ => none
def resV (fn : Func) (ρ : Env) (H : Heap) (P : Program) : Option V :=
 match resL P ρ H fn.results.toList with
 | some [v] => some v
 | some vs => some (.tup vs)
 | none => none
def finB (r : V) (F' : Heap) (K0 : List Nat) : Bool :=
 let ks := keys F'
 nodupB ks && (K0.all ks.contains && (r.refs.all ks.contains && F'.all fun p => p.2.refs.all ks.contains))
def finV (P : Program) (fn : Func) (K0 : List Nat) (r : V) (F' : Heap) : PostV
 | .normal, ρ, H, ds | .ret, ρ, H, ds => ds = [] ∧ resV fn ρ H P = some r ∧ selH (keys F') H = some F' ∧ finB r F' K0 = true
 | _, _, _, _ => False

section
variable {P : Program} {f : FuncId} {args : List V} {F F' : Heap} {r : V} {N : Nat}
def resSem (tmps : Array Value) : ResultVar → Sem Value
 | .tmp t => pure (tmps.getD t Go.undef)
 | .cell a t => do loadVar t (← asAddr (tmps.getD a Go.undef))
theorem res1_sound {m : M} {Z : ZM} {H : Heap} {w : World} {ρ : Env} {ρr : Slots} {v : V} (hs : SimH m Z H w) (hR : RepS m Z ρ ρr) {tmps : Array Value} (ht : ∀ t, tmps.getD t Go.undef = ρr t) : ∀ {x : ResultVar}, res1 P ρ H x = some v →
  ∃ u, (resSem tmps x).run P w = .ok u w ∧ Rep (some m) Z v u
 | .tmp t, h => by
  cases h
  exact ⟨ρr t, by simp only [resSem, ht]; rfl, hR t⟩
 | .cell a ty, h => by
  simp only [res1] at h
  split at h
  ·rename_i k off ha
   split at h
   ·rename_i bt cs hk
    obtain ⟨b, cur, g1, g2, g3, g4, g5⟩ := hs.holds _ (Heap.get_mem hk)
    have hr := hR a
    rw [ha] at hr
    obtain ⟨f', loc, e1, e2, e3⟩ := hr
    cases e1
    rw [g1] at e2; cases e2
    have hcell : ∀ j u, cur.toList[j]? = some u → w.cell? ⟨b, j, none⟩ = some u := fun j u hu => by
     rw [cell_of_row w b j cur bt (0, 0) g2]; simpa using hu
    unfold atV at h
    split at h
    ·rename_i hsh
     split at h
     ·rename_i u hu
      split at h
      ·cases h
       obtain ⟨y, h6, h7⟩ := g3.get hu
       have hc := hcell off y h6
       refine ⟨y, ?_, h7⟩
       simp [resSem, ht, e3, asAddr, loadVar, run_isAgg_scal (shape_scal hsh), load, Sem.run, hc]
      ·cases h
     ·cases h
    ·rename_i n hsh
     split at h
     ·rename_i hk2
      have hk2 := Nat.le_of_ble_eq_true hk2
      cases h
      have hl := g3.length
      have hll : ((cur.toList.drop off).take n).length = n := by simp at hl ⊢; omega
      refine ⟨.agg ((cur.toList.drop off).take n).toArray, ?_, _, rfl, (g3.drop off).take n⟩
      obtain ⟨d', i', hd', _, hi', hk'⟩ := id (shape_agg hsh)
      have hcs : ∀ j u, ((cur.toList.drop off).take n)[j]? = some u → w.cell? ((⟨b, off, none⟩ : Addr).add j) = some u := fun j u hj => by
       rw [Addr.add_lit]
       have hjn : j < n := by have := (List.getElem?_eq_some_iff.1 hj).1; simp at this; omega
       rw [List.getElem?_take, if_pos hjn, List.getElem?_drop] at hj
       exact hcell _ _ hj
      have hld := run_loadCells_list (P := P) w (⟨b, off, none⟩ : Addr) _ hcs
      rw [hll] at hld
      simp only [resSem, ht, e3, asAddr, loadVar, Sem.run_bind, Sem.run_pure, Result.andThen_ok, run_isAgg_agg (shape_agg hsh), if_true]
      simp [sizeOf, typeInfo, hi', hk', hld, Sem.run]
     ·cases h
    ·cases h
   ·cases h
  ·cases h
theorem resL_sound {m : M} {Z : ZM} {H : Heap} {w : World} {ρ : Env} {ρr : Slots} (hs : SimH m Z H w) (hR : RepS m Z ρ ρr) {tmps : Array Value} (ht : ∀ t, tmps.getD t Go.undef = ρr t) : ∀ {l : List ResultVar} {vs : List V}, resL P ρ H l = some vs →
  ∃ us, (l.mapM (resSem tmps)).run P w = .ok us w ∧ RepL (some m) Z vs us
 | [], vs, h => by
  cases h
  exact ⟨[], by simp, rfl⟩
 | x :: l, vs, h => by
  simp only [resL] at h
  split at h
  ·rename_i v vs' h1 h2
   cases h
   obtain ⟨u, h3, h4⟩ := res1_sound hs hR ht h1
   obtain ⟨us, h5, h6⟩ := resL_sound hs hR ht h2
   exact ⟨u :: us, by simp [List.mapM_cons, h3, h5], u, us, rfl, h4, h6⟩
  ·cases h
theorem rep_of_res {m : M} {Z : ZM} {H : Heap} {w : World} {ρ : Env} {ρr : Slots} {fn : Func} {r : V} (hs : SimH m Z H w) (hR : RepS m Z ρ ρr) (h : resV fn ρ H P = some r) {tmps : Array Value} (ht : ∀ t, tmps.getD t Go.undef = ρr t) :
  ∃ x, (results fn tmps).run P w = .ok x w ∧ Rep (some m) Z r x := by
 have key : ∀ vs, resL P ρ H fn.results.toList = some vs → ∃ us : List Value, (results fn tmps).run P w = .ok (if h : us.toArray.size = 1 then us.toArray[0] else .tuple us.toArray) w ∧ RepL (some m) Z vs us := by
  intro vs hv
  obtain ⟨us, h1, h2⟩ := resL_sound hs hR ht hv
  refine ⟨us, ?_, h2⟩
  have e : results fn tmps = (do let vs ← fn.results.mapM (resSem tmps); pure (if h : vs.size = 1 then vs[0] else .tuple vs)) := by
   unfold results
   congr 1
  rw [e, Array.mapM_eq_mapM_toList]
  simp [h1]
 unfold resV at h
 split at h
 ·rename_i v hv
  cases h
  obtain ⟨us, h1, h2⟩ := key _ hv
  obtain ⟨u, us', rfl, h3, h4⟩ := h2
  cases h4
  exact ⟨u, by simpa using h1, h3⟩
 ·rename_i vs hne hv
  cases h
  obtain ⟨us, h1, h2⟩ := key _ hv
  have hl : us.toArray.size ≠ 1 := fun e => by
   have := h2.length
   simp only [List.size_toArray] at e
   rw [e] at this
   match vs, this with
   | [v], _ => exact hne v rfl
   | [], h => simp at h
   | _ :: _ :: _, h => simp at h
  rw [dif_neg hl] at h1
  exact ⟨_, h1, us, rfl, h2⟩
 ·cases h
theorem takes_of {K0 : List Nat} {c : Ctx K0} {m : M} {Z : ZM} {H : Heap} : ∀ (Ds : List Nat) (w : World), Ds.Nodup → (∀ D ∈ Ds, w.heap[D]? = some (.deferred (some [])) ∧ c.W0.heap.size ≤ D) → SimC c m Z H w → ∃ w', Eng.Takes (Ds.map Eng.mark) w w' ∧ SimC c m Z H w'
 | [], w, _, _, S => ⟨w, rfl, S⟩
 | D :: Ds, w, hn, hD, S => by
  obtain ⟨h1, h2⟩ := List.nodup_cons.1 hn
  obtain ⟨h3, h4⟩ := hD D (List.mem_cons_self ..)
  have S' : SimC c m Z H (w.putObj D (.deferred none)) := S.lps (row := some D) (Eng.grownBy_putObj w D _) fun b e => by
   cases e; exact ⟨h4, _, h3, rfl⟩
  obtain ⟨w', h5, h6⟩ := takes_of Ds _ h2 (fun D' hD' => by
   obtain ⟨h7, h8⟩ := hD D' (List.mem_cons_of_mem _ hD')
   exact ⟨(World.putObj_heap_other (fun e => h1 (by first | (rw [← e]; exact hD') | (rw [e]; exact hD')))).trans h7, h8⟩) S'
  exact ⟨w', ⟨D, rfl, h3, h5⟩, h6⟩
theorem fnA_of_wp {fn : Func} {code : Code} (hf : P.funcs[f]? = some fn) (hb : fn.body = some code) (hN : fn.ntmps = N) (ha : Nat.ble args.length N = true)
  (h : ∀ c : Ctx (keys F), WpV c P none N code (finV P fn (keys F) r F') (argsE args) F []) : FnA P f args F r F' := by
 intro w m Z vals hs hv hdom
 have hvl := hv.length
 have S : SimA (⟨w, m, Z, F, rfl, hdom⟩ : Ctx (keys F)) (argsE args) F (argSlots vals) w := ⟨m, Z, ⟨Step.refl hs, hdom⟩, fun t => by
  have := argsE_get args vals 0 t hv
  simpa [argsE, argSlots] using this⟩
 have h' := h ⟨w, m, Z, F, rfl, hdom⟩ _ _ _ S MarksOK.nil
 have ha := Nat.le_of_ble_eq_true ha
 refine (callsIn_wide (n := 0)).1 (callsIn_of_wp_marks hf hb trivial ?_)
 refine wpIn_mono (h' _ 0 ⟨?_, rfl, fun t => ?_⟩) fun e a w' hq => ?_
 ·simp; omega
 ·simp only [argSlots, Array.getD_eq_getD_getElem?, List.getD_eq_getElem?_getD]
  rw [Array.getElem?_append]
  split
  ·simp
  ·rename_i hlt
   simp only [List.size_toArray] at hlt
   rw [List.getElem?_eq_none (by omega)]
   simp only [List.size_toArray]
   rw [Array.getElem?_replicate]
   split <;> rfl
 ·obtain ⟨ρr', ds', hf', ρ', H', S', ⟨Ds, hds, hn, hD⟩, hq⟩ := hq
  have key : finV P fn (keys F) r F' .ret ρ' H' [] → ∃ w2 v, Eng.Takes a.defers w' w2 ∧ (results fn a.tmps).run P w2 = .ok v w2 ∧ ∃ x m' Z', Ending.returned v = .returned x ∧ Step m Z F w m' Z' F' w2 ∧ Rep (some m') Z' r x := by
   rintro ⟨_, hres, hsel, hfin⟩
   simp only [finB, Bool.and_eq_true] at hfin
   obtain ⟨h1, h2, h3, h4⟩ := hfin
   obtain ⟨m', Z', S2, hR⟩ := S'
   obtain ⟨w2, ht, S4⟩ := takes_of Ds w' hn hD S2
   obtain ⟨m2, S3, hc⟩ := S4.cut (keys F') hsel h1 h2 h4
   obtain ⟨x, hx1, hx2⟩ := rep_of_res S4.step.sim hR hres (tmps := a.tmps) hf'.get
   exact ⟨w2, x, by rw [hf'.defs, hds]; exact ht, hx1, x, m2, Z', rfl, S3.step, hc _ _ h3 hx2⟩
  cases e with
  | normal =>
   obtain ⟨w2, v, ht, hr, hR⟩ := key hq
   exact Eng.leaves_of_takes _ _ _ ht hr hR
  | ret =>
   obtain ⟨w2, v, ht, hr, hR⟩ := key hq
   exact Eng.leaves_of_takes _ _ _ ht hr hR
  | panic c => exact hq.elim
  | exit id => exact hq.elim
  | goto l => exact hq.elim
  | outgrown => exact hq.elim
end
end Go.EV
namespace Go.EV
open Go Go.RowKit Go.Eng

def Obj.ren (σ : Nat → Nat) : Obj → Obj
 | .box t cs => .box t (renL σ cs)
 | o => o
def renH (σ : Nat → Nat) (F : Heap) : Heap := F.map fun p => (σ p.1, p.2.ren σ)
def asg : List (Nat × Nat) → Nat → Nat
 | [], k => k
 | (a, b) :: r, k => bif Nat.beq k a then b else asg r k
def closedB (args : List V) (F : Heap) : Bool := (refsL args).all (keys F).contains && F.all fun p => p.2.refs.all (keys F).contains
theorem keys_ren {σ : Nat → Nat} {F : Heap} : keys (renH σ F) = (keys F).map σ := by simp [keys, renH]
theorem blk_ren {σ : Nat → Nat} {m mc : M} {p : Nat × Obj} (h : mc p.1 = m (σ p.1)) : blk mc p = blk m (σ p.1, p.2.ren σ) := by
 obtain ⟨k, o⟩ := p
 simp only at h
 funext b
 cases o <;> simp only [blk, blk1, Obj.ren, Obj.ver, h]
mutual
theorem Rep.unren {f f' : M} {Z : ZM} (σ : Nat → Nat) : ∀ (v : V) (x : Value), (∀ k ∈ v.refs, ∀ L loc, f (σ k) L = some loc → f' k L = some loc) → Rep (some f) Z (v.ren σ) x → Rep (some f') Z v x
 | .undef, x, _, h => trivial
 | .no, x, _, h => h
 | .int k n, x, _, h => h
 | .bool b, x, _, h => h
 | .str l, x, _, h => h
 | .nilp, x, _, h => h
 | .ptr k L off, x, hm, h => by
  obtain ⟨g, loc, h1, h2, h3⟩ := h
  cases h1
  exact ⟨f', loc, rfl, hm k (by simp [V.refs]) _ _ h2, h3⟩
 | .vp cs off, x, _, h => h
 | .nils, x, _, h => h
 | .sl sz k L o n, x, hm, h => by
  obtain ⟨g, loc, h1, h2, h3⟩ := h
  cases h1
  exact ⟨f', loc, rfl, hm k (by simp [V.refs]) _ _ h2, h3⟩
 | .vs sz els, x, _, h => h
 | .fn g first caps, x, hm, h => by
  obtain ⟨l1, l2, h1, h2, h3⟩ := h
  exact ⟨l1, l2, h1, RepL.unren σ first l1 (fun k hk => hm k (by simp [V.refs, hk])) h2, RepL.unren σ caps l2 (fun k hk => hm k (by simp [V.refs, hk])) h3⟩
 | .nilf, x, _, h => h
 | .agg cs, x, hm, h => by
  obtain ⟨l, h1, h2⟩ := h
  exact ⟨l, h1, RepL.unren σ cs l (fun k hk => hm k (by simpa [V.refs] using hk)) h2⟩
 | .tup xs, x, hm, h => by
  obtain ⟨l, h1, h2⟩ := h
  exact ⟨l, h1, RepL.unren σ xs l (fun k hk => hm k (by simpa [V.refs] using hk)) h2⟩
 | .nilm, x, _, h => h
 | .mp k, x, hm, h => by
  obtain ⟨g, loc, h1, h2, h3⟩ := h
  cases h1
  exact ⟨f', loc, rfl, hm k (by simp [V.refs]) _ _ h2, h3⟩
 | .nili, x, _, h => h
 | .ifc t v, x, hm, h => by
  obtain ⟨y, h1, h2⟩ := h
  exact ⟨y, h1, Rep.unren σ v y (fun k hk => hm k (by simpa [V.refs] using hk)) h2⟩
 | .gv k R, x, hm, h => by
  obtain ⟨g, h1, h2⟩ := h
  cases h1
  exact ⟨f', rfl, R.mono _ _ _ (hm k (by simp [V.refs])) h2⟩
 | .pv R, x, hm, h => h
theorem RepL.unren {f f' : M} {Z : ZM} (σ : Nat → Nat) : ∀ (vs : List V) (l : List Value), (∀ k ∈ refsL vs, ∀ L loc, f (σ k) L = some loc → f' k L = some loc) → RepL (some f) Z (renL σ vs) l → RepL (some f') Z vs l
 | [], l, _, h => h
 | v :: vs, l, hm, h => by
  obtain ⟨x, xs, h1, h2, h3⟩ := h
  exact ⟨x, xs, h1, Rep.unren σ v x (fun k hk => hm k (by simp [refsL, hk])) h2, RepL.unren σ vs xs (fun k hk => hm k (by simp [refsL, hk])) h3⟩
end
section
variable {P : Program} {f : FuncId} {args : List V} {F F' : Heap} {r : V} {σ : Nat → Nat}
theorem inj_of {l : List Nat} (h : (l.map σ).Nodup) : ∀ {a b : Nat}, a ∈ l → b ∈ l → σ a = σ b → a = b := by
 induction l with
 | nil => intro a b ha; cases ha
 | cons x l ih =>
  rw [List.map_cons, List.nodup_cons] at h
  intro a b ha hb e
  rcases List.mem_cons.1 ha with h1 | h1 <;> rcases List.mem_cons.1 hb with h2 | h2
  ·rw [h1, h2]
  ·subst h1; exact (h.1 (e ▸ List.mem_map_of_mem h2)).elim
  ·subst h2; exact (h.1 (e ▸ List.mem_map_of_mem h1)).elim
  ·exact ih h.2 h1 h2 e
theorem FnA.at (h : FnA P f args F r F') (hσ : nodupB ((keys F').map σ) = true) (hcl : closedB args F = true) (hsub : ((keys F).all (keys F').contains) = true) :
  ∀ w m Z vals, SimH m Z (renH σ F) w → RepL (some m) Z (renL σ args) vals → (∀ k ∈ keys (renH σ F'), k ∉ keys (renH σ F) → ∀ L, m k L = none) →
   Calls P f vals.toArray w fun en w' => ∃ x m' Z', en = .returned x ∧ Step m Z (renH σ F) w m' Z' (renH σ F') w' ∧ Rep (some m') Z' (r.ren σ) x := by
 intro w m Z vals hs hv hnew
 simp only [closedB, Bool.and_eq_true] at hcl
 have hsub' : ∀ k ∈ keys F, k ∈ keys F' := fun k hk => by have := (List.all_eq_true.1 hsub) k hk; simpa using this
 have hinj : ∀ {a b : Nat}, a ∈ keys F' → b ∈ keys F' → σ a = σ b → a = b := inj_of (nodup_of hσ)
 let mc : M := fun k L => if k ∈ keys F then m (σ k) L else none
 have hmc : ∀ k ∈ keys F, mc k = m (σ k) := fun k hk => by funext L; simp [mc, hk]
 have hmcn : ∀ k, k ∉ keys F → ∀ L, mc k L = none := fun k hk L => by simp [mc, hk]
 have hblk : ∀ p ∈ F, blk mc p = blk m (σ p.1, p.2.ren σ) := fun p hp => blk_ren (hmc p.1 (mem_keys hp))
 have hmem : ∀ p ∈ F, (σ p.1, p.2.ren σ) ∈ renH σ F := fun p hp => List.mem_map.2 ⟨p, hp, rfl⟩
 have hsc : SimH mc Z F w := by
  refine ⟨hs.frozen, fun p hp => ?_, ?_, fun p hp q hq b h1 h2 => ?_⟩
  ·have hh := hs.holds _ (hmem p hp)
   have hk := hmc p.1 (mem_keys hp)
   obtain ⟨k, o⟩ := p
   cases o with
   | box t cs =>
    obtain ⟨b, cur, h1, h2, h3, h4, h5⟩ := hh
    refine ⟨b, cur, by rw [hk]; exact h1, h2, RepL.unren σ cs _ (fun j hj L loc e => ?_) h3, h4, by rw [hk]; exact h5⟩
    have := (List.all_eq_true.1 hcl.2) _ hp
    have := (List.all_eq_true.1 this) j hj
    rw [hmc j (by simpa using this)]; exact e
   | row t sz fz els =>
    rcases hh with ⟨h1, h2, h3, ⟨b, h4⟩, h5⟩ | ⟨b, cap, cur, fr, h1, h2⟩
    ·exact .inl ⟨h1, h2, h3, ⟨b, by rw [hk]; exact h4⟩, by rw [hk]; exact h5⟩
    ·exact .inr ⟨b, cap, cur, fr, by rw [hk]; exact h1, by rw [hk]; exact h2⟩
   | map l =>
    obtain ⟨b, es, clock, h1, h2⟩ := hh
    exact ⟨b, es, clock, by rw [hk]; exact h1, by rw [hk]; exact h2⟩
   | glob g t cs => exact ⟨by rw [hk]; exact hh.1, hh.2.1, by rw [hk]; exact hh.2.2⟩
   | nest t e sz pd ls =>
    show HoldsN (mc k) _ _ t e sz pd ls
    rw [hk]; exact hh
   | gen G =>
    show G.holds (mc k) _ _
    rw [hk]; exact hh
  ·have := hs.nodup
   rw [keys_ren] at this
   exact nodup_of_map _ this
  ·rw [hblk p hp] at h1
   rw [hblk q hq] at h2
   exact hinj (hsub' _ (mem_keys hp)) (hsub' _ (mem_keys hq)) (hs.disj _ (hmem p hp) _ (hmem q hq) b h1 h2)
 refine Calls.mono (h w mc Z vals hsc (RepL.unren σ args vals (fun j hj L loc e => ?_) hv) hmcn) ?_
 ·have := (List.all_eq_true.1 hcl.1) j hj
  rw [hmc j (by simpa using this)]; exact e
 rintro en w' ⟨x, mc', Z', he, hst, hr⟩
 let m' : M := fun k2 L => match (keys F').find? (fun i => decide (σ i = k2)) with
  | some i => mc' i L
  | none => m k2 L
 have hm'1 : ∀ i ∈ keys F', m' (σ i) = mc' i := fun i hi => by
  funext L
  cases hf : (keys F').find? (fun j => decide (σ j = σ i)) with
  | none =>
   have := List.find?_eq_none.1 hf i hi
   simp at this
  | some j =>
   have h1 := List.find?_some hf
   have h2 := List.mem_of_find?_eq_some hf
   simp only [decide_eq_true_eq] at h1
   have := hinj h2 hi h1
   subst this
   simp only [m', hf]
 have hm'2 : ∀ k, k ∉ keys (renH σ F') → m' k = m k := fun k hk => by
  funext L
  have : (keys F').find? (fun j => decide (σ j = k)) = none := List.find?_eq_none.2 fun j hj => by
   simp only [decide_eq_true_eq]
   rintro rfl
   exact hk (by rw [keys_ren]; exact List.mem_map_of_mem hj)
  simp only [m', this]
 have hext : ∀ i ∈ keys F', ∀ L loc, mc' i L = some loc → m' (σ i) L = some loc := fun i hi L loc e => by rw [hm'1 i hi]; exact e
 have hext2 : ∀ k L loc, mc' k L = some loc → m' (σ k) L = some loc := fun k L loc e => by
  by_cases hk : k ∈ keys F'
  ·exact hext k hk L loc e
  ·rw [hst.newk k hk] at e
   rw [hmcn k (fun h' => hk (hsub' k h'))] at e; cases e
 have hblk' : ∀ p ∈ F', blk m' (σ p.1, p.2.ren σ) = blk mc' p := fun p hp => (blk_ren (hm'1 p.1 (mem_keys hp)).symm).symm
 have hblkF : ∀ p ∈ F, ∀ b, blk mc p b → ∃ q ∈ renH σ F, blk m q b := fun p hp b hb => ⟨_, hmem p hp, by rw [← hblk p hp]; exact hb⟩
 refine ⟨x, m', Z', he, ⟨⟨hst.sim.frozen, ?_, ?_, ?_⟩, ?_, hst.zext, hst.os, hst.tape, hst.output, hst.size, ?_, ?_, hm'2, ?_, ?_⟩, Rep.ren σ r x (fun k _ L loc e => hext2 k L loc e) hr⟩
 ·intro q hq
  obtain ⟨p, hp, rfl⟩ := List.mem_map.1 hq
  have hh := hst.sim.holds p hp
  have hk := hm'1 p.1 (mem_keys hp)
  obtain ⟨k, o⟩ := p
  cases o with
  | box t cs =>
   obtain ⟨b, cur, h1, h2, h3, h4, h5⟩ := hh
   exact ⟨b, cur, by rw [hk]; exact h1, h2, RepL.ren σ cs _ (fun j _ L loc e => hext2 j L loc e) h3, h4, by rw [hk]; exact h5⟩
  | row t sz fz els =>
   rcases hh with ⟨h1, h2, h3, ⟨b, h4⟩, h5⟩ | ⟨b, cap, cur, fr, h1, h2⟩
   ·exact .inl ⟨h1, h2, h3, ⟨b, by rw [hk]; exact h4⟩, by rw [hk]; exact h5⟩
   ·exact .inr ⟨b, cap, cur, fr, by rw [hk]; exact h1, by rw [hk]; exact h2⟩
  | map l =>
   obtain ⟨b, es, clock, h1, h2⟩ := hh
   exact ⟨b, es, clock, by rw [hk]; exact h1, by rw [hk]; exact h2⟩
  | glob g t cs => exact ⟨by rw [hk]; exact hh.1, hh.2.1, by rw [hk]; exact hh.2.2⟩
  | nest t e sz pd ls =>
   show HoldsN (m' (σ k)) _ _ t e sz pd ls
   rw [hk]; exact hh
  | gen G =>
   show G.holds (m' (σ k)) _ _
   rw [hk]; exact hh
 ·rw [keys_ren]; exact nodup_of hσ
 ·intro p hp q hq b h1 h2
  obtain ⟨p', hp', rfl⟩ := List.mem_map.1 hp
  obtain ⟨q', hq', rfl⟩ := List.mem_map.1 hq
  rw [hblk' p' hp'] at h1
  rw [hblk' q' hq'] at h2
  exact congrArg σ (hst.sim.disj p' hp' q' hq' b h1 h2)
 ·intro k L loc e
  by_cases hk : k ∈ keys (renH σ F')
  ·rw [keys_ren] at hk
   obtain ⟨i, hi, rfl⟩ := List.mem_map.1 hk
   rw [hm'1 i hi]
   by_cases hiF : i ∈ keys F
   ·exact hst.mext i L loc (by rw [hmc i hiF]; exact e)
   ·rw [hnew (σ i) (by rw [keys_ren]; exact List.mem_map_of_mem hi) (fun h' => by
     rw [keys_ren] at h'
     obtain ⟨j, hj, e'⟩ := List.mem_map.1 h'
     have := hinj (hsub' j hj) hi e'
     subst this
     exact hiF hj)] at e
    cases e
  ·rw [hm'2 k hk]; exact e
 ·intro b hb hn
  exact hst.frame b hb fun p hp e => by
   obtain ⟨q, hq, e'⟩ := hblkF p hp b e
   exact hn q hq e'
 ·intro k hk
  rw [keys_ren] at hk ⊢
  obtain ⟨i, hi, rfl⟩ := List.mem_map.1 hk
  exact List.mem_map_of_mem (hst.keep i hi)
 ·intro q hq b hb
  obtain ⟨p, hp, rfl⟩ := List.mem_map.1 hq
  rw [hblk' p hp] at hb
  exact (hst.blks p hp b hb).imp id fun ⟨p', hp', e⟩ => hblkF p' hp' b e
 ·intro a x ha
  exact (hst.znew a x ha).imp id (Or.imp id fun ⟨p', hp', e⟩ => hblkF p' hp' _ e)
end

/- slices of the call's own, seen as data -/
mutual
inductive View (F : Heap) : V → V → Prop
 | weak {v v' : V} (h : ∀ (m : Option M) (Z : ZM) (x : Value), Rep m Z v x → Rep m Z v' x) : View F v v'
 | same (v : V) : View F v v
 | nils (sz : Nat) : View F .nils (.vs sz [])
 | row {k sz t fz L : Nat} {els : List (List V)} (h : F.get k = some (.row t sz fz els)) (hL : L = els.length) : View F (.sl sz k L 0 L) (.vs sz els)
 | sub {k sz t fz L o n : Nat} {els : List (List V)} (h : F.get k = some (.row t sz fz els)) (hL : L = els.length) (hn : o + n ≤ L) : View F (.sl sz k L o n) (.vs sz ((els.drop o).take n))
 | agg {cs cs' : List V} (h : ViewL F cs cs') : View F (.agg cs) (.agg cs')
inductive ViewL (F : Heap) : List V → List V → Prop
 | nil : ViewL F [] []
 | cons {v v' : V} {l l' : List V} (h : View F v v') (h' : ViewL F l l') : ViewL F (v :: l) (v' :: l')
end
def frz : Heap → Heap
 | [] => []
 | (k, .row t sz _ els) :: r => (k, .row t sz els.length els) :: frz r
 | p :: r => p :: frz r
open Classical in
noncomputable def zfrz (m : M) (Z : ZM) (F : Heap) (w : World) : ZM := fun a =>
 if a.spot = none ∧ ∃ k t sz fz els b cap, (k, Obj.row t sz fz els) ∈ F ∧ m k els.length = some (b, cap) ∧ 0 < cap ∧ a.block = b ∧ a.off < els.length * sz then w.cell? a else Z a
theorem mem_frz : ∀ {F : Heap} {p : Nat × Obj}, p ∈ frz F → (∃ k t sz fz els, (k, Obj.row t sz fz els) ∈ F ∧ p = (k, .row t sz els.length els)) ∨ (p ∈ F ∧ ∀ t sz fz els, p.2 ≠ .row t sz fz els)
 | [], p, h => by cases h
 | (k, .row t sz fz els) :: r, p, h => by
  simp only [frz] at h
  rcases List.mem_cons.1 h with rfl | h
  ·exact .inl ⟨k, t, sz, fz, els, List.mem_cons_self .., rfl⟩
  ·rcases mem_frz h with ⟨k, t, sz, fz, els, h1, h2⟩ | ⟨h1, h2⟩
   ·exact .inl ⟨k, t, sz, fz, els, List.mem_cons_of_mem _ h1, h2⟩
   ·exact .inr ⟨List.mem_cons_of_mem _ h1, h2⟩
 | (k, .box t cs) :: r, p, h => by
  simp only [frz] at h
  rcases List.mem_cons.1 h with rfl | h
  ·exact .inr ⟨List.mem_cons_self .., fun _ _ _ _ e => by cases e⟩
  ·rcases mem_frz h with ⟨k, t, sz, fz, els, h1, h2⟩ | ⟨h1, h2⟩
   ·exact .inl ⟨k, t, sz, fz, els, List.mem_cons_of_mem _ h1, h2⟩
   ·exact .inr ⟨List.mem_cons_of_mem _ h1, h2⟩
 | (k, .map l) :: r, p, h => by
  simp only [frz] at h
  rcases List.mem_cons.1 h with rfl | h
  ·exact .inr ⟨List.mem_cons_self .., fun _ _ _ _ e => by cases e⟩
  ·rcases mem_frz h with ⟨k, t, sz, fz, els, h1, h2⟩ | ⟨h1, h2⟩
   ·exact .inl ⟨k, t, sz, fz, els, List.mem_cons_of_mem _ h1, h2⟩
   ·exact .inr ⟨List.mem_cons_of_mem _ h1, h2⟩
 | (k, .glob g t cs) :: r, p, h => by
  simp only [frz] at h
  rcases List.mem_cons.1 h with rfl | h
  ·exact .inr ⟨List.mem_cons_self .., fun _ _ _ _ e => by cases e⟩
  ·rcases mem_frz h with ⟨k, t, sz, fz, els, h1, h2⟩ | ⟨h1, h2⟩
   ·exact .inl ⟨k, t, sz, fz, els, List.mem_cons_of_mem _ h1, h2⟩
   ·exact .inr ⟨List.mem_cons_of_mem _ h1, h2⟩
 | (k, .nest g t sz0 pd0 ls0) :: r, p, h => by
  simp only [frz] at h
  rcases List.mem_cons.1 h with rfl | h
  ·exact .inr ⟨List.mem_cons_self .., fun _ _ _ _ e => by cases e⟩
  ·rcases mem_frz h with ⟨k, t, sz, fz, els, h1, h2⟩ | ⟨h1, h2⟩
   ·exact .inl ⟨k, t, sz, fz, els, List.mem_cons_of_mem _ h1, h2⟩
   ·exact .inr ⟨List.mem_cons_of_mem _ h1, h2⟩
 | (k, .gen g) :: r, p, h => by
  simp only [frz] at h
  rcases List.mem_cons.1 h with rfl | h
  ·exact .inr ⟨List.mem_cons_self .., fun _ _ _ _ e => by cases e⟩
  ·rcases mem_frz h with ⟨k, t, sz, fz, els, h1, h2⟩ | ⟨h1, h2⟩
   ·exact .inl ⟨k, t, sz, fz, els, List.mem_cons_of_mem _ h1, h2⟩
   ·exact .inr ⟨List.mem_cons_of_mem _ h1, h2⟩
theorem keys_frz : ∀ {F : Heap}, keys (frz F) = keys F
 | [] => rfl
 | (k, .row t sz fz els) :: r => by simp only [frz, keys, List.map_cons]; congr 1; exact keys_frz
 | (k, .box t cs) :: r => by simp only [frz, keys, List.map_cons]; congr 1; exact keys_frz
 | (k, .map l) :: r => by simp only [frz, keys, List.map_cons]; congr 1; exact keys_frz
 | (k, .glob g t cs) :: r => by simp only [frz, keys, List.map_cons]; congr 1; exact keys_frz
 | (k, .nest g t sz0 pd0 ls0) :: r => by simp only [frz, keys, List.map_cons]; congr 1; exact keys_frz
 | (k, .gen g) :: r => by simp only [frz, keys, List.map_cons]; congr 1; exact keys_frz
section
variable {m : M} {Z : ZM} {F : Heap} {w : World}
theorem zfrz_up (hf : ∀ a x, Z a = some x → w.cell? a = some x) : ∀ a x, Z a = some x → zfrz m Z F w a = some x := fun a x h => by
 unfold zfrz
 split
 ·exact hf a x h
 ·exact h
theorem zfrz_cell (hf : ∀ a x, Z a = some x → w.cell? a = some x) : ∀ a x, zfrz m Z F w a = some x → w.cell? a = some x := fun a x h => by
 unfold zfrz at h
 split at h
 ·exact h
 ·exact hf a x h
theorem heap_inj : ∀ {l : Heap}, (keys l).Nodup → ∀ p ∈ l, ∀ q ∈ l, q.1 = p.1 → q = p := by
 intro l hl
 induction l with
 | nil => intro p hp; cases hp
 | cons a l ih =>
  simp only [keys, List.map_cons, List.nodup_cons] at hl
  intro p hp q hq e
  rcases List.mem_cons.1 hp with h1 | h1 <;> rcases List.mem_cons.1 hq with h2 | h2
  ·rw [h1, h2]
  ·exact (hl.1 (List.mem_map.2 ⟨q, h2, by rw [e, h1]⟩)).elim
  ·exact (hl.1 (List.mem_map.2 ⟨p, h1, by rw [← e, h2]⟩)).elim
  ·exact ih hl.2 p h1 q h2 e
theorem Step.freeze (hs : SimH m Z F w) : Step m Z F w m (zfrz m Z F w) (frz F) w := by
 have hver : ∀ p ∈ frz F, ∃ q ∈ F, p.1 = q.1 ∧ blk m p = blk m q := fun p hp => by
  rcases mem_frz hp with ⟨k, t, sz, fz, els, h1, h2⟩ | ⟨h1, _⟩
  ·subst h2; exact ⟨_, h1, rfl, rfl⟩
  ·exact ⟨p, h1, rfl, rfl⟩
 have hzb : ∀ a x, zfrz m Z F w a = some x → Z a = some x ∨ ∃ k t sz fz els b cap, (k, Obj.row t sz fz els) ∈ F ∧ m k els.length = some (b, cap) ∧ 0 < cap ∧ a.block = b ∧ a.off < els.length * sz := fun a x h => by
  unfold zfrz at h
  split at h
  ·rename_i hc; exact .inr hc.2
  ·exact .inl h
 refine ⟨⟨zfrz_cell hs.frozen, fun p hp => ?_, by rw [keys_frz]; exact hs.nodup, fun p hp q hq b h1 h2 => ?_⟩, fun _ _ _ e => e, zfrz_up hs.frozen, rfl, rfl, rfl, Nat.le_refl _, fun _ _ _ => rfl, fun k hk => by rw [keys_frz]; exact hk, fun _ _ => rfl, fun p hp b hb => ?_, fun a x ha => ?_⟩
 ·rcases mem_frz hp with ⟨k, t, sz, fz, els, h1, h2⟩ | ⟨h1, h2⟩
  ·subst h2
   rcases hs.holds _ h1 with ⟨g1, rfl, g3, g4, g5⟩ | ⟨b, cap, cur, fr, g1, g0, g2, g3, g4, g5, g6, g7, g8, g9, g10, g11, g12, g13⟩
   ·exact .inl ⟨g1, rfl, rfl, g4, g5⟩
   have hc0 : cap ≠ 0 := by omega
   refine .inr ⟨b, cap, cur, fr, g1, g0, g2, g3, g4, g5, g6, g7.up (zfrz_up hs.frozen) (fun f e => by cases e), g8, g9.imp_left (fun g9 => Nat.le_trans g9 (Nat.mul_le_mul_right _ g10)), Nat.le_refl _, fun a x ha e => ?_, g12, fun off x ho hx => ?_⟩
   ·rcases hzb a x ha with h' | ⟨k', t', sz', fz', els', b', cap', h1', h2', h0', h3', h4'⟩
    ·exact Nat.lt_of_lt_of_le (g11 a x h' e) (Nat.mul_le_mul_right _ g10)
    ·have hc1 : cap' ≠ 0 := by omega
     have hk : k' = k := hs.disj _ h1' _ h1 b (by simp [blk, blk1, Obj.ver, h2', hc1, ← h3', e]) (by simp [blk, blk1, Obj.ver, g1, hc0])
     subst hk
     have hq := heap_inj hs.nodup _ h1 _ h1' rfl
     simp only [Prod.mk.injEq, Obj.row.injEq, true_and] at hq
     obtain ⟨_, rfl, _, rfl⟩ := hq
     exact h4'
   ·unfold zfrz
    rw [if_pos ⟨rfl, k, t, sz, fz, els, b, cap, h1, g1, g0, rfl, ho⟩, cell_of_row w b off cur t fr g2]
    exact hx
  ·have hh := hs.holds p h1
   refine hh.keep (fun _ _ _ e => e) rfl (zfrz_up hs.frozen) fun b hb => ⟨rfl, fun a x ha e => ?_⟩
   rcases hzb a x ha with h' | ⟨k', t', sz', fz', els', b', cap', h1', h2', h0', h3', h4'⟩
   ·exact h'
   ·have hc1 : cap' ≠ 0 := by omega
    have hk : k' = p.1 := hs.disj _ h1' _ h1 b (by simp [blk, blk1, Obj.ver, h2', hc1, ← h3', e]) hb
    have := heap_inj hs.nodup p h1 _ h1' hk
    exact absurd (by rw [← this]) (h2 t' sz' fz' els')
 ·obtain ⟨p', hp', e1, e2⟩ := hver p hp
  obtain ⟨q', hq', e3, e4⟩ := hver q hq
  rw [e1, e3]
  exact hs.disj p' hp' q' hq' b (e2 ▸ h1) (e4 ▸ h2)
 ·obtain ⟨q, hq, _, e⟩ := hver p hp
  exact .inr ⟨q, hq, e ▸ hb⟩
 ·rcases hzb a x ha with h' | ⟨k', t', sz', fz', els', b', cap', h1', h2', h0', h3', h4'⟩
  ·exact .inl h'
  ·have hc1 : cap' ≠ 0 := by omega
   exact .inr (.inr ⟨_, h1', by simp [blk, blk1, Obj.ver, h2', h3', hc1]⟩)
end
end Go.EV
namespace Go.EV
open Go Go.RowKit Go.Eng
theorem flatten_getV {sz : Nat} : ∀ {els : List (List V)}, (∀ e ∈ els, e.length = sz) → ∀ {i j : Nat} {cs : List V} {v : V}, els[i]? = some cs → cs[j]? = some v → els.flatten[i * sz + j]? = some v
 | [], _, i, j, cs, v, h, _ => by simp at h
 | e :: r, hk, 0, j, cs, v, h, hj => by
  simp only [List.getElem?_cons_zero, Option.some.injEq] at h
  subst h
  rw [List.flatten_cons, Nat.zero_mul, Nat.zero_add, List.getElem?_append_left (List.getElem?_eq_some_iff.1 hj).1]
  exact hj
 | e :: r, hk, i + 1, j, cs, v, h, hj => by
  have he := hk e (List.mem_cons_self ..)
  rw [List.flatten_cons, List.getElem?_append_right (by rw [he, Nat.succ_mul]; omega)]
  rw [show (i + 1) * sz + j - e.length = i * sz + j by rw [he, Nat.succ_mul]; omega]
  exact flatten_getV (fun x hx => hk x (List.mem_cons_of_mem _ hx)) (by simpa using h) hj
theorem flatten_lenV {sz : Nat} : ∀ {els : List (List V)}, (∀ e ∈ els, e.length = sz) → els.flatten.length = els.length * sz
 | [], _ => by simp
 | e :: r, hk => by
  rw [List.flatten_cons, List.length_append, flatten_lenV (fun x hx => hk x (List.mem_cons_of_mem _ hx)), hk e (List.mem_cons_self ..), List.length_cons, Nat.succ_mul]; omega
section
variable {m : M} {Z : ZM} {F : Heap} {w : World}
theorem rows_of {k t sz : Nat} {els : List (List V)} (h : Holds m Z w k (.row t sz els.length els)) : ∃ b cap, m k els.length = some (b, cap) ∧ els.length ≤ cap ∧ (cap = 0 ∨ RepRows Z ⟨b, 0, none⟩ sz 0 els) := by
 rcases h with ⟨g1, rfl, g3, ⟨b, g4⟩, g5⟩ | ⟨b, cap, cur, fr, g1, g0, g2, g3, g4, g5, g6, g7, g8, g9, g10, g11, g12, g13⟩
 ·exact ⟨b, 0, g4, Nat.le_refl _, .inl rfl⟩
 refine ⟨b, cap, g1, g3, .inr (RepRows.of_get fun i cs hi => ⟨g8 cs (List.mem_of_getElem? hi), RepAt.of_get fun j v hj => ?_⟩)⟩
 have hil : i < els.length := (List.getElem?_eq_some_iff.1 hi).1
 have hjl : j < sz := by have := (List.getElem?_eq_some_iff.1 hj).1; rw [g8 cs (List.mem_of_getElem? hi)] at this; exact this
 have hlt : i * sz + j < els.length * sz := by
  have : (i + 1) * sz ≤ els.length * sz := Nat.mul_le_mul_right sz hil
  rw [Nat.succ_mul] at this; omega
 obtain ⟨x, h1, h2⟩ := g7.get (flatten_getV g8 hi hj)
 rw [List.getElem?_take, if_pos hlt] at h1
 refine ⟨x, ?_, h2⟩
 rw [Nat.zero_add, Nat.zero_add, add_add', Addr.add_lit, Nat.zero_add]
 exact g13 _ x hlt (by simpa using h1)
mutual
theorem View.rep (hs : ∀ k t sz fz els, F.get k = some (.row t sz fz els) → Holds m Z w k (.row t sz els.length els)) : ∀ {v v' : V}, View F v v' → ∀ {x : Value}, Rep (some m) Z v x → Rep (some m) Z v' x
 | _, _, .weak hw, x, h => hw _ _ _ h
 | _, _, .same v, x, h => h
 | _, _, .nils sz, x, h => ⟨none, 0, h, Nat.le_refl _, Nat.zero_le _, .inl rfl⟩
 | _, _, .row (k := k) (sz := sz) (t := t) (fz := fz) (L := L) (els := els) hg hL, x, h => by
  subst hL
  obtain ⟨b, cap, h1, h2, h4⟩ := rows_of (hs _ _ _ _ _ hg)
  obtain ⟨f, loc, e1, e2, e3, e4, e5⟩ := h
  cases e1
  rw [h1] at e2; cases e2
  rcases e5 with e5 | ⟨e5, A, e6⟩ | ⟨e5, _⟩
  ·refine ⟨_, _, e5, by simpa using h2, by simpa using e4, ?_⟩
   rcases h4 with h4 | h4
   ·exact .inl (List.eq_nil_of_length_eq_zero (by omega))
   ·exact .inr ⟨⟨b, 0, none⟩, by simp, h4⟩
  ·have : els = [] := List.eq_nil_of_length_eq_zero (by simp only at e5; omega)
   subst this
   exact ⟨A, 0, e6, Nat.le_refl _, by simp [maxLen], .inl rfl⟩
  ·omega
 | _, _, .sub (k := k) (sz := sz) (t := t) (fz := fz) (L := L) (o := o) (n := n) (els := els) hg hL hn, x, h => by
  subst hL
  obtain ⟨b, cap, h1, h2, h4⟩ := rows_of (hs _ _ _ _ _ hg)
  obtain ⟨f, loc, e1, e2, e3, e4, e5⟩ := h
  cases e1
  rw [h1] at e2; cases e2
  have hl : ((els.drop o).take n).length = n := by simp; omega
  simp only at e3 e4 e5
  rcases e5 with e5 | ⟨e5, A, e6⟩ | ⟨_, e5, A, c', e6, e7⟩
  ·refine ⟨some ⟨b, o * sz, none⟩, cap - o, by rw [hl]; exact e5, by rw [hl]; omega, by omega, ?_⟩
   rcases h4 with h4 | h4
   ·exact .inl (List.eq_nil_of_length_eq_zero (by rw [hl]; omega))
   refine .inr ⟨_, rfl, RepRows.of_get fun i cs hi => ?_⟩
   rw [List.getElem?_take] at hi
   split at hi
   ·rw [List.getElem?_drop] at hi
    have := h4.get hi
    refine ⟨this.1, ?_⟩
    have h5 := this.2
    rw [Addr.add_lit] at h5 ⊢
    rw [show o * sz + (0 + i) * sz = 0 + (0 + (o + i)) * sz by rw [Nat.zero_add, Nat.zero_add, Nat.zero_add, Nat.add_mul]]
    exact h5
   ·cases hi
  ·have h0 : (els.drop o).take n = [] := List.eq_nil_of_length_eq_zero (by rw [hl]; omega)
   rw [h0]
   exact ⟨A, 0, e6, Nat.le_refl _, by simp [maxLen], .inl rfl⟩
  ·have h0 : (els.drop o).take n = [] := List.eq_nil_of_length_eq_zero (by rw [hl]; omega)
   rw [h0]
   exact ⟨A, c', e6, Nat.zero_le _, e7, .inl rfl⟩
 | _, _, .agg hl, x, h => by
  obtain ⟨l, h1, h2⟩ := h
  exact ⟨l, h1, ViewL.rep hs hl h2⟩
theorem ViewL.rep (hs : ∀ k t sz fz els, F.get k = some (.row t sz fz els) → Holds m Z w k (.row t sz els.length els)) : ∀ {l l' : List V}, ViewL F l l' → ∀ {xs : List Value}, RepL (some m) Z l xs → RepL (some m) Z l' xs
 | _, _, .nil, xs, h => h
 | _, _, .cons h1 h2, xs, h => by
  obtain ⟨x, xs', rfl, h3, h4⟩ := h
  exact ⟨x, xs', rfl, View.rep hs h1 h3, ViewL.rep hs h2 h4⟩
end
end
mutual
def V.bare : V → Bool
 | .vs .. | .vp .. | .pv .. => false
 | .agg cs => bareL cs
 | .tup xs => bareL xs
 | .fn _ a b => bareL a && bareL b
 | .ifc _ v => v.bare
 | _ => true
def bareL : List V → Bool
 | [] => true
 | v :: l => v.bare && bareL l
end
mutual
theorem Rep.bare {m : Option M} {Z Z' : ZM} : ∀ (v : V) (x : Value), v.bare = true → Rep m Z v x → Rep m Z' v x
 | .undef, x, _, h => trivial
 | .no, x, _, h => h
 | .int k n, x, _, h => h
 | .bool b, x, _, h => h
 | .str l, x, _, h => h
 | .nilp, x, _, h => h
 | .ptr k L off, x, _, h => h
 | .vp cs off, x, hb, h => by cases hb
 | .nils, x, _, h => h
 | .sl sz k L o n, x, _, h => h
 | .vs sz els, x, hb, h => by cases hb
 | .fn g first caps, x, hb, h => by
  obtain ⟨l1, l2, h1, h2, h3⟩ := h
  simp only [V.bare, Bool.and_eq_true] at hb
  exact ⟨l1, l2, h1, RepL.bare first l1 hb.1 h2, RepL.bare caps l2 hb.2 h3⟩
 | .nilf, x, _, h => h
 | .agg cs, x, hb, h => by
  obtain ⟨l, h1, h2⟩ := h
  exact ⟨l, h1, RepL.bare cs l hb h2⟩
 | .tup xs, x, hb, h => by
  obtain ⟨l, h1, h2⟩ := h
  exact ⟨l, h1, RepL.bare xs l hb h2⟩
 | .nilm, x, _, h => h
 | .mp k, x, _, h => h
 | .nili, x, _, h => h
 | .ifc t v, x, hb, h => by
  obtain ⟨y, h1, h2⟩ := h
  exact ⟨y, h1, Rep.bare v y hb h2⟩
 | .gv k R, x, _, h => h
 | .pv R, x, hb, h => by cases hb
theorem RepL.bare {m : Option M} {Z Z' : ZM} : ∀ (vs : List V) (l : List Value), bareL vs = true → RepL m Z vs l → RepL m Z' vs l
 | [], l, _, h => h
 | v :: vs, l, hb, h => by
  obtain ⟨x, xs, h1, h2, h3⟩ := h
  simp only [bareL, Bool.and_eq_true] at hb
  exact ⟨x, xs, h1, Rep.bare v x hb.1 h2, RepL.bare vs xs hb.2 h3⟩
end
theorem get_of_mem {F : Heap} (hn : (keys F).Nodup) : ∀ {k : Nat} {o : Obj}, (k, o) ∈ F → F.get k = some o := by
 induction F with
 | nil => intro k o h; cases h
 | cons p F ih =>
  obtain ⟨k', o'⟩ := p
  simp only [keys, List.map_cons, List.nodup_cons] at hn
  intro k o h
  simp only [Heap.get]
  rcases List.mem_cons.1 h with h | h
  ·cases h; rw [Nat.beq_refl]; rfl
  ·have hne : k ≠ k' := fun e => hn.1 (e ▸ List.mem_map_of_mem h)
   have : Nat.beq k k' = false := by
    cases hb : Nat.beq k k' with
    | true => exact absurd (Nat.eq_of_beq_eq_true hb) hne
    | false => rfl
   rw [this, cond_false]
   exact ih hn.2 h
section
variable {P : Program} {ρ : Env} {w : World} {dst : Option Tmp} {ty : TypeId} {pos : String} {aft : Array Edge} {gd : Option (Nat × Bool)} {f : FuncId} {l : List Operand} {ts : Array TypeId} {args : List V} {F F' R : Heap} {r : V}
theorem exec_call {ρr : Slots} {w : World} {Rr : Value → World → Prop} (hf : hasBody P f) (h : Calls P f (l.map (ev ρr)).toArray w fun en w' => ∃ x, en = .returned x ∧ Rr x w') : Exec P ⟨dst, .call ⟨.value (.func f), l.toArray, ts⟩, ty, pos, aft, gd⟩ ρr w Rr :=
 ⟨rfl, .inr (.inr ⟨f, _, w, run_call _ hf rfl, h⟩)⟩
end
end Go.EV
namespace Go.EV
open Go Go.RowKit Go.Eng

theorem run_storeCells_atG (P : Program) (g o : Nat) (t : TypeId) (fz : Nat × Nat) : ∀ (vs : List Value) (i : Nat) (cur : Array Value) (w : World), w.heap[g]? = some (.cells cur t fz) → (fz.2 ≤ o + i ∨ o + i + vs.length ≤ fz.1) → o + i + vs.length ≤ cur.size → (∀ v ∈ vs, v.oneCell' = true) →
    (storeCells ⟨g, o, none⟩ vs i).run P w = .ok () (w.setRow g (cur.toList.take (o + i) ++ vs ++ cur.toList.drop (o + i + vs.length)).toArray)
  | [], i, cur, w, hg, _, _, _ => by
    simp only [storeCells, List.append_nil, List.length_nil, Nat.add_zero, List.take_append_drop, Array.toArray_toList]
    rw [setRow_self w g cur t fz hg]
    rfl
  | v :: rest, i, cur, w, hg, hfz, hl, h1 => by
    have hi : o + i < cur.size := by simp at hl; omega
    have hadd : (⟨g, o, none⟩ : Addr).add i = ⟨g, o + i, none⟩ := by unfold Addr.add; split <;> simp_all
    have hcell : w.cell? ⟨g, o + i, none⟩ = some cur[o + i] := by simp [World.cell?, hg, hi]
    have hfro : w.frozen? ⟨g, o + i, none⟩ = false := by
      obtain ⟨lo, hi'⟩ := fz
      simp only [World.frozen?, hg, Bool.and_eq_false_iff, decide_eq_false_iff_not]
      simp only [List.length_cons] at hfz
      omega
    have hst : (store ((⟨g, o, none⟩ : Addr).add i) v).run P w = .ok () (w.setRow g (cur.setIfInBounds (o + i) v)) := by
      rw [hadd, run_store P w _ v _ (h1 v (by simp)), hcell]
      simp [hfro, setCell_eq_setRow w g (o + i) cur t fz v hg]
    have ih := run_storeCells_atG P g o t fz rest (i + 1) (cur.setIfInBounds (o + i) v) (w.setRow g (cur.setIfInBounds (o + i) v)) (setRow_heap w g cur _ t _ hg) (by simp only [List.length_cons] at hfz; omega) (by simp at hl ⊢; omega) (fun x hx => h1 x (by simp [hx]))
    simp only [storeCells, Sem.run_bind, hst, Result.andThen_ok, ih, setRow_setRow]
    congr 3
    have e := list_seg_step cur.toList (o + i) v rest (by simp at hl ⊢; omega)
    simpa [Array.toList_setIfInBounds, Nat.add_assoc] using e
theorem run_append_roomG {P : Program} (w : World) (t ty e : TypeId) (i : TypeInfo) (ht : P.underlying t = some (.slice e)) (hi : P.info? e = some i)
    (g sLen sCap : Nat) (cur : Array Value) (fz : Nat × Nat) (hg : w.heap[g]? = some (.cells cur e fz)) 
    (a : Addr) (m c : Nat) (news : List Value) (hl : news.length = m * i.size) (hfz : fz.2 ≤ sLen * i.size ∨ sLen * i.size + news.length ≤ fz.1) (hnews : ∀ j u, news[j]? = some u → w.cell? (a.add j) = some u) (h1 : ∀ u ∈ news, u.oneCell' = true)
    (hroom : sLen + m ≤ sCap) (hfit : sLen * i.size + news.length ≤ cur.size) :
    (Builtin.append_ #[t, t] ty #[.slice (some ⟨g, 0, none⟩) sLen sCap, .slice (some a) m c]).run P w =
      .ok (.slice (some ⟨g, 0, none⟩) (sLen + m) sCap) (w.setRow g (cur.toList.take (sLen * i.size) ++ news ++ cur.toList.drop (sLen * i.size + news.length)).toArray) := by
  have hf := run_firstCells_some (P := P) w i.size m a m c news hl hnews
  have hst := run_storeCells_atG P g (sLen * i.size) e fz news 0 cur w hg (by simpa using hfz) (by simpa using hfit) h1
  simp only [Nat.add_zero] at hst
  simp [Builtin.append_, run_underlying ht, sizeOf, typeInfo, hi, Builtin.lenOf, hroom, hf, Addr.add_lit, hst]
inductive Src (sz : Nat) (R : Heap) : V → List (List V) → Prop
  | vs (ys : List (List V)) : Src sz R (.vs sz ys) ys
  | nils : Src sz R .nils []
  | sl {k L t fz : Nat} {ys : List (List V)} (h : R.get k = some (.row t sz fz ys)) (hL : L = ys.length) : Src sz R (.sl sz k L 0 L) ys
theorem rows_read {Z : ZM} {w : World} {a : Addr} {sz : Nat} {ys : List (List V)} (h0 : 0 < sz) (hf : ∀ a x, Z a = some x → w.cell? a = some x) (h : RepRows Z a sz 0 ys) :
    ∃ news : List Value, RepL none Z ys.flatten news ∧ ∀ j u, news[j]? = some u → w.cell? (a.add j) = some u := by
  have hlen : ∀ e ∈ ys, e.length = sz := fun e he => by
    obtain ⟨i, hi, rfl⟩ := List.getElem_of_mem he
    exact (h.get (List.getElem?_eq_getElem hi)).1
  have hfl := flatten_lenV hlen
  have key : ∀ j, j < ys.flatten.length → ∃ x, w.cell? (a.add j) = some x ∧ ∀ v, ys.flatten[j]? = some v → Rep none Z v x := fun j hj => by
    rw [hfl] at hj
    have hdiv : j / sz < ys.length := (Nat.div_lt_iff_lt_mul h0).2 hj
    have hmod : j % sz < sz := Nat.mod_lt _ h0
    have hjk : j / sz * sz + j % sz = j := by rw [Nat.mul_comm]; exact Nat.div_add_mod j sz
    have hge : ys[j / sz]? = some (ys[j / sz]'hdiv) := List.getElem?_eq_getElem hdiv
    have hel := hlen _ (List.getElem_mem hdiv)
    obtain ⟨_, hat⟩ := h.get hge
    have hv : (ys[j / sz]'hdiv)[j % sz]? = some ((ys[j / sz]'hdiv)[j % sz]'(by omega)) := List.getElem?_eq_getElem (by omega)
    obtain ⟨x, h1, h2⟩ := hat.get hv
    rw [Nat.zero_add, Nat.zero_add, add_add', hjk] at h1
    refine ⟨x, hf _ _ h1, fun v hv' => ?_⟩
    have := flatten_getV hlen hge hv
    rw [hjk, hv'] at this
    cases this; exact h2
  let news : List Value := (List.range ys.flatten.length).map fun j => (w.cell? (a.add j)).getD Go.undef
  have hget : ∀ j, j < ys.flatten.length → news[j]? = w.cell? (a.add j) := fun j hj => by
    obtain ⟨x, h1, _⟩ := key j hj
    simp only [news, List.getElem?_map, List.getElem?_range hj, Option.map_some, h1, Option.getD_some]
  refine ⟨news, RepL.of_get (by simp [news]) fun j v x hv hx => ?_, fun j u hj => ?_⟩
  · have hj := (List.getElem?_eq_some_iff.1 hv).1
    obtain ⟨y, h1, h2⟩ := key j hj
    rw [hget j hj, h1] at hx
    cases hx
    exact h2 v hv
  · have hjl : j < ys.flatten.length := by have := (List.getElem?_eq_some_iff.1 hj).1; simpa [news] using this
    rw [← hget j hjl]; exact hj
theorem Src.read {m : M} {Z : ZM} {w : World} {R : Heap} {sz : Nat} {y : V} {ys : List (List V)} {x : Value} (h : Src sz R y ys) (h0 : 0 < sz) (hs : SimH m Z R w) (hx : Rep (some m) Z y x) :
    ∃ A c, x = .slice A ys.length c ∧ ys.length ≤ maxLen ∧ (A = none → ys = []) ∧ ∀ a, A = some a → ∃ news : List Value, RepL none Z ys.flatten news ∧ ∀ j u, news[j]? = some u → w.cell? (a.add j) = some u := by
  cases h with
  | vs =>
    obtain ⟨A, c, h1, h2, h3, h4⟩ := hx
    refine ⟨A, c, h1, by omega, fun hA => ?_, fun a hA => ?_⟩
    · rcases h4 with h4 | ⟨a, h4, _⟩
      · exact h4
      · rw [hA] at h4; cases h4
    · rcases h4 with h4 | ⟨a', h4, h5⟩
      · subst h4; exact ⟨[], rfl, fun j u h => by simp at h⟩
      · rw [hA] at h4; cases h4
        exact rows_read h0 hs.frozen h5
  | nils => exact ⟨none, 0, hx, by simp [maxLen], fun _ => rfl, fun a h => by cases h⟩
  | sl hg hL =>
    subst hL
    obtain ⟨f, loc, e1, e2, e3, e4, e5⟩ := hx
    cases e1
    replace e5 := e5.imp_right fun h => h.resolve_right fun h => Nat.lt_irrefl 0 h.1
    rcases hs.holds _ (Heap.get_mem hg) with ⟨_, h1, _, ⟨b, h3⟩, _⟩ | ⟨b, cap, cur, fr, g1, g0, g2, g3, g4, g5, g6, g7, g8, g9, g10, g11, g12, g13⟩
    · subst h1
      rcases e5 with e5 | ⟨_, A, e5⟩
      · exact ⟨_, _, e5, by simp [maxLen], fun _ => rfl, fun a _ => ⟨[], rfl, fun j u h => by simp at h⟩⟩
      · exact ⟨_, _, e5, by simp [maxLen], fun _ => rfl, fun a _ => ⟨[], rfl, fun j u h => by simp at h⟩⟩
    · rw [g1] at e2; cases e2
      rcases e5 with e5 | ⟨e5, _⟩
      · refine ⟨_, _, e5, by omega, fun h => (by cases h), fun a h => ?_⟩
        cases h
        refine ⟨_, g7, fun j u hj => ?_⟩
        rw [Addr.add_lit, Nat.zero_mul, Nat.zero_add, cell_of_row w b j cur _ fr g2]
        rw [List.getElem?_take] at hj
        split at hj
        · simpa using hj
        · cases hj
      · simp only at e5; omega
def elemT2 (P : Program) (t : Nat) : Option (Nat × Nat × Nat) :=
  match P.underlying t with
  | some (.slice e) => match P.info? e with
    | some i => match i.zero with
      | some z => if Nat.ble 1 i.size && Nat.beq z.cells.size i.size then some (e, i.size, i.bytes) else none
      | none => none
    | none => none
  | _ => none
theorem elemT2_of {P : Program} {t e sz bytes : Nat} (h : elemT2 P t = some (e, sz, bytes)) : ∃ i z, P.underlying t = some (.slice e) ∧ P.info? e = some i ∧ i.zero = some z ∧ i.size = sz ∧ i.bytes = bytes ∧ z.cells.size = sz ∧ 0 < sz := by
  unfold elemT2 at h
  split at h
  · rename_i e' hu
    split at h
    · rename_i i hi
      split at h
      · rename_i z hz
        split at h
        · rename_i hc
          simp only [Bool.and_eq_true] at hc
          simp only [Option.some.injEq, Prod.mk.injEq] at h
          obtain ⟨rfl, rfl, rfl⟩ := h
          exact ⟨i, z, hu, hi, hz, rfl, rfl, Nat.eq_of_beq_eq_true hc.2, Nat.le_of_ble_eq_true hc.1⟩
        · cases h
      · cases h
    · cases h
  · cases h
section
variable {P : Program} {m : M} {Z : ZM} {w : World}
theorem ones_of {vs : List V} {l : List Value} {mm : Option M} (h : RepL mm Z vs l) (h1 : vs.all V.one = true) : ∀ u ∈ l, u.oneCell' = true := fun u hu => by
  obtain ⟨i, hi, he⟩ := List.getElem_of_mem hu
  have hl := h.length
  have hv : vs[i]? = some (vs[i]'(by omega)) := List.getElem?_eq_getElem (by omega)
  obtain ⟨u', h4, h5⟩ := h.get hv
  rw [List.getElem?_eq_getElem hi, he] at h4; cases h4
  exact h5.one ((List.all_eq_true.1 h1) _ (List.getElem_mem _))
theorem Step.grown {k t sz fz : Nat} {els all : List (List V)} {cur : Array Value} {cap : Nat} {o : Obj} {w1 : World} (hs : SimH m Z [(k, o)] w) (hver : o.ver = els.length) (hnew : ∀ L loc, m k L = some loc → L ≤ els.length) (hlt : els.length < all.length)
    (hh : w1.heap = w.heap) (h1 : w1.os = w.os) (h2 : w1.tape = w.tape) (h3 : w1.output = w.output)
    (h0 : 0 < sz) (hcap : all.length ≤ cap) (hcm : cap ≤ maxLen) (hcs : cur.size = cap * sz) (hr : RepL none Z all.flatten (cur.toList.take (all.length * sz))) (hk : ∀ e ∈ all, e.length = sz) (hfz : fz ≤ els.length) :
    ∃ m' Z', Step m Z [(k, o)] w m' Z' [(k, .row t sz fz all)] (w1.alloc (.cells cur t)) ∧ m' k all.length = some (w.heap.size, cap) := by
  let m' : M := fun k' L => if k' = k ∧ L = all.length then some (w.heap.size, cap) else m k' L
  have hm1 : m' k all.length = some (w.heap.size, cap) := by simp [m']
  have hm2 : ∀ k' L loc, m k' L = some loc → m' k' L = some loc := fun k' L loc e => by
    by_cases hc : k' = k ∧ L = all.length
    · obtain ⟨rfl, rfl⟩ := hc
      have := hnew _ _ e; omega
    · simp only [m', if_neg hc]; exact e
  let Z' : ZM := fun a => if a.block = w.heap.size ∧ a.spot = none ∧ a.off < fz * sz then cur[a.off]? else Z a
  have hsz : w1.heap.size = w.heap.size := by rw [hh]
  have hZlt : ∀ a x, Z a = some x → a.block < w.heap.size := fun a x ha => frozen_lt hs.frozen ha
  have hZ1 : ∀ a x, Z a = some x → Z' a = some x := fun a x ha => by
    have := hZlt a x ha
    simp only [Z', if_neg (show ¬ (a.block = w.heap.size ∧ a.spot = none ∧ a.off < fz * sz) by omega)]; exact ha
  have hnewb : (w1.alloc (.cells cur t)).heap[w.heap.size]? = some (.cells cur t (0, 0)) := by rw [← hsz]; exact World.alloc_heap_new w1 _
  have hcell : ∀ off, (w1.alloc (.cells cur t)).cell? ⟨w.heap.size, off, none⟩ = cur[off]? := fun off => cell_of_row _ _ off cur t (0, 0) hnewb
  have hold : ∀ j, j < w.heap.size → (w1.alloc (.cells cur t)).heap[j]? = w.heap[j]? := fun j hj => by rw [← hh]; exact Below.heap_alloc w1 _ j (by omega)
  have hc0 : cap ≠ 0 := by omega
  refine ⟨m', Z', ⟨⟨fun a x ha => ?_, fun p hp => ?_, by simp [keys], fun p hp q hq _ _ _ => ?_⟩, hm2, hZ1, h1, h2, h3, by simp [hsz], fun j hj _ => hold j hj, fun j hj => by simpa [keys] using hj, fun j hj => ?_, fun p hp b hb => ?_, fun a x ha => ?_⟩, hm1⟩
  · simp only [Z'] at ha
    split at ha
    · rename_i hc
      obtain ⟨b, off, sp⟩ := a
      obtain ⟨rfl, rfl, _⟩ := hc
      rw [hcell]; exact ha
    · rw [cell_same (hold _ (hZlt a x ha))]; exact hs.frozen a x ha
  · simp only [List.mem_singleton] at hp
    subst hp
    refine .inr ⟨w.heap.size, cap, cur, (0, 0), hm1, by omega, hnewb, hcap, hcm, hcs, h0, hr.up hZ1 (fun f e => by cases e), hk, by simp, by omega, fun a x ha e => ?_, fun L loc e => ?_, fun off x ho hx => ?_⟩
    · simp only [Z'] at ha
      split at ha
      · rename_i hc; exact hc.2.2
      · have := hZlt a x ha; omega
    · simp only [m'] at e
      split at e
      · rename_i hc; omega
      · have := hnew _ _ e; omega
    · simp only [Z']
      rw [if_pos (by simp [ho])]; exact hx
  · simp only [List.mem_singleton] at hp hq
    subst hp; subst hq; rfl
  · funext L
    have : j ≠ k := by simpa [keys] using hj
    simp [m', this]
  · simp only [List.mem_singleton] at hp
    subst hp
    simp only [blk, blk1, blk1, Obj.ver, hm1, Option.bind_some, if_neg hc0, Option.some.injEq] at hb
    exact .inl (by omega)
  · simp only [Z'] at ha
    split at ha
    · rename_i hc; exact .inr (.inl (by omega))
    · exact .inl ha
theorem Step.roomed {k t sz fz : Nat} {els all : List (List V)} {b cap : Nat} {cur cur' : Array Value} {fr : Nat × Nat} (hs : SimH m Z [(k, .row t sz fz els)] w) (g1 : m k els.length = some (b, cap)) (g0 : 0 < cap) (g2 : w.heap[b]? = some (.cells cur t fr))
    (hle : els.length ≤ all.length) (hcap : all.length ≤ cap) (hcs : cur'.size = cap * sz) (hsame : ∀ off, off < els.length * sz → cur'[off]? = cur[off]?) (hr : RepL none Z all.flatten (cur'.toList.take (all.length * sz))) (hk : ∀ e ∈ all, e.length = sz)
    {w' : World} (hw : w' = w.setRow b cur') : ∃ m', Step m Z [(k, .row t sz fz els)] w m' Z [(k, .row t sz fz all)] w' ∧ m' k all.length = some (b, cap) := by
  subst hw
  rcases hs.holds _ (List.mem_singleton.2 rfl) with ⟨_, h1, _, ⟨b', h3⟩, _⟩ | ⟨b', cap', cur0, fr', g1', g0', g2', g3, g4, g5, g6, g7, g8, g9, g10, g11, g12, g13⟩
  · subst h1
    have := g1.symm.trans h3
    simp only [Option.some.injEq, Prod.mk.injEq] at this
    omega
  rw [g1] at g1'
  simp only [Option.some.injEq, Prod.mk.injEq] at g1'
  obtain ⟨rfl, rfl⟩ := g1'
  rw [g2] at g2'
  simp only [Option.some.injEq, Obj.cells.injEq] at g2'
  obtain ⟨rfl, _, rfl⟩ := g2'
  let m' : M := fun k' L => if k' = k ∧ L = all.length then some (b, cap) else m k' L
  have hm1 : m' k all.length = some (b, cap) := by simp [m']
  have hm2 : ∀ k' L loc, m k' L = some loc → m' k' L = some loc := fun k' L loc e => by
    by_cases hc : k' = k ∧ L = all.length
    · obtain ⟨rfl, rfl⟩ := hc
      have h := g12 _ _ e
      have : all.length = els.length := by omega
      rw [this, g1] at e
      rw [hm1]; exact e
    · simp only [m', if_neg hc]; exact e
  have hc0 : cap ≠ 0 := by omega
  have hnewb := setRow_heap w b cur cur' t fr g2
  have hblt : b < w.heap.size := (Array.getElem?_eq_some_iff.1 g2).1
  have hfzle : fz * sz ≤ els.length * sz := Nat.mul_le_mul_right _ g10
  have hcell : ∀ off, (w.setRow b cur').cell? ⟨b, off, none⟩ = cur'[off]? := fun off => cell_of_row _ _ off cur' t fr hnewb
  refine ⟨m', ⟨⟨fun a x ha => ?_, fun p hp => ?_, by simp [keys], fun p hp q hq _ _ _ => ?_⟩, hm2, fun _ _ e => e, rfl, rfl, rfl, by simp, fun j hj hn => setRow_other w b j _ fun e => ?_, fun j hj => by simpa [keys] using hj, fun j hj => ?_, fun p hp b' hb => ?_, fun a x ha => .inl ha⟩, hm1⟩
  · by_cases e : a.block = b
    · have hlt := g11 a x ha e
      have hc := hs.frozen a x ha
      obtain ⟨bb, off, sp⟩ := a
      simp only at e hlt
      subst e
      have hsp : sp = none := by
        simp only [World.cell?, g2] at hc
        cases sp with
        | none => rfl
        | some _ => simp at hc
      subst hsp
      rw [cell_of_row w bb off cur t fr g2] at hc
      rw [hcell, hsame off (by omega)]; exact hc
    · rw [cell_same (setRow_other w b _ _ e)]; exact hs.frozen a x ha
  · simp only [List.mem_singleton] at hp
    subst hp
    refine .inr ⟨b, cap, cur', fr, hm1, g0, hnewb, hcap, g4, hcs, g6, hr, hk, by have := Nat.mul_le_mul_right sz hle; omega, by omega, g11, fun L loc e => ?_, fun off x ho hx => ?_⟩
    · simp only [m'] at e
      split at e
      · rename_i hc; omega
      · have := g12 _ _ e; omega
    · rw [hsame off (by omega)] at hx
      exact g13 off x ho hx
  · simp only [List.mem_singleton] at hp hq
    subst hp; subst hq; rfl
  · subst e
    exact hn _ (List.mem_singleton.2 rfl) (by simp [blk, blk1, Obj.ver, g1, hc0])
  · funext L
    have : j ≠ k := by simpa [keys] using hj
    simp [m', this]
  · simp only [List.mem_singleton] at hp
    subst hp
    simp only [blk, blk1, blk1, Obj.ver, hm1, Option.bind_some, if_neg hc0, Option.some.injEq] at hb
    exact .inr ⟨_, List.mem_singleton.2 rfl, by simp [blk, blk1, Obj.ver, g1, hc0, hb]⟩
end
section
variable {P : Program} {ρ : Env} {dst : Option Tmp} {ty : TypeId} {pos : String} {aft : Array Edge} {gd : Option (Nat × Bool)}
theorem flatten_appendV {α : Type} (a b : List (List α)) : (a ++ b).flatten = a.flatten ++ b.flatten := List.flatten_append
theorem loc_append {t e sz bytes : Nat} {x y : Operand} {k fz L : Nat} {els ys : List (List V)} {R : Heap} (hT : elemT2 P t = some (e, sz, bytes)) (hx : evV ρ x = .sl sz k L 0 L) (hL : L = els.length) (hy : Src sz R (evV ρ y) ys)
    (h1 : ∀ c ∈ ys, c.all V.one = true) (hlen : (els.length + ys.length) * bytes ≤ 140737488355328) (h63 : els.length + ys.length ≤ 9223372036854775807) (hkR : hasKey k R = false) (hkl : ∀ c ∈ ys, c.length = sz) :
    Loc P ⟨dst, .call ⟨.builtin .append, #[x, y], #[t, t]⟩, ty, pos, aft, gd⟩ ρ ((k, .row e sz fz els) :: R) (.sl sz k (els ++ ys).length 0 (els ++ ys).length) ((k, .row e sz fz (els ++ ys)) :: R) := by
  intro ρr m Z w hops hs hnew
  obtain ⟨i, z, hu, hi, hz, hisz, hib, hzs, h0⟩ := elemT2_of hT
  subst hisz; subst hib; subst hL
  have hX := hops x (by simp [Op.operands, Call.operands])
  have hY := hops y (by simp [Op.operands, Call.operands])
  rw [hx] at hX
  have hs1 : SimH m Z [(k, .row e i.size fz els)] w := SimH.left (F := [(k, .row e i.size fz els)]) (G := R) hs
  have hsR : SimH m Z R w := SimH.left (F := R) (G := [(k, .row e i.size fz els)]) (hs.perm (List.perm_append_comm (l₁ := [(k, Obj.row e i.size fz els)]) (l₂ := R)))
  obtain ⟨A, c, hYv, hym, hA, hnews⟩ := hy.read h0 hsR hY
  have hap : ∀ p ∈ [(k, Obj.row e i.size fz (els ++ ys))], ∀ q ∈ R, p.1 ≠ q.1 := fun p hp q hq e' => by
    simp only [List.mem_singleton] at hp
    subst hp
    have e' : k = q.1 := e'
    rw [hasKey_iff.2 (by rw [e']; exact mem_keys hq)] at hkR; cases hkR
  have hfr : ∀ {m' Z' w'}, Step m Z [(k, .row e i.size fz els)] w m' Z' [(k, .row e i.size fz (els ++ ys))] w' → Step m Z ((k, .row e i.size fz els) :: R) w m' Z' ((k, .row e i.size fz (els ++ ys)) :: R) w' := fun h => Step.frame_rule (F := [(k, .row e i.size fz els)]) (G := R) (F' := [(k, .row e i.size fz (els ++ ys))]) hs h hap
  have fin : ∀ {v w'}, (Builtin.append_ #[t, t] ty #[ev ρr x, ev ρr y]).run P w = .ok v w' → (execOp (ev ρr) ⟨dst, .call ⟨.builtin .append, #[x, y], #[t, t]⟩, ty, pos, aft, gd⟩).run P w = .ok (.value v) w' := fun h => by
    simp [execOp, resolve, invoke, builtin, h]
  have hlenA : (els ++ ys).length = els.length + ys.length := by simp
  obtain ⟨f, loc, e1, e2, e3, e4, e5⟩ := hX
  cases e1
  replace e5 := e5.imp_right fun h => h.resolve_right fun h => Nat.lt_irrefl 0 h.1
  by_cases hys : ys = []
  · -- nothing is appended
    subst hys
    have hcapx : ∃ A' c', ev ρr x = .slice A' els.length c' ∧ els.length ≤ c' := by
      rcases e5 with e5 | ⟨e5, A', e6⟩
      · exact ⟨_, _, e5, by omega⟩
      · exact ⟨A', 0, by rw [e6]; congr 1; omega, by omega⟩
    obtain ⟨A', c', hXv, hc'⟩ := hcapx
    have hrun : (Builtin.append_ #[t, t] ty #[ev ρr x, ev ρr y]).run P w = .ok (ev ρr x) w := by
      rw [hXv, hYv]
      have hf : (Builtin.firstCells i.size 0 (.slice A 0 c)).run P w = .ok #[] w := by
        cases A with
        | none => simp [Builtin.firstCells]
        | some a => simp [Builtin.firstCells, loadCells, loadCellsFrom]
      cases A' with
      | none => simp [Builtin.append_, run_underlying hu, sizeOf, typeInfo, hi, Builtin.lenOf, hc', hf]
      | some a' => simp [Builtin.append_, run_underlying hu, sizeOf, typeInfo, hi, Builtin.lenOf, hc', hf, storeCells]
    simp only [List.append_nil]
    refine ⟨rfl, .inl ⟨_, w, fin hrun, m, Z, Step.refl hs, m, loc, rfl, e2, e3, e4, e5.imp_right .inl⟩⟩
  have hn0 : 0 < ys.length := List.length_pos_iff.2 hys
  obtain ⟨a, rfl⟩ : ∃ a, A = some a := by
    cases A with
    | none => exact absurd (hA rfl) hys
    | some a => exact ⟨a, rfl⟩
  obtain ⟨news, hn1, hn2⟩ := hnews a rfl
  have hnl : news.length = ys.length * i.size := by rw [hn1.length, flatten_lenV hkl]
  have hones : ∀ u ∈ news, u.oneCell' = true := ones_of hn1 (List.all_eq_true.2 fun v hv => by
    obtain ⟨c, hc, hvc⟩ := List.mem_flatten.1 hv
    exact (List.all_eq_true.1 (h1 c hc)) v hvc)
  have hmax : els.length + ys.length ≤ maxLen := by simp only [maxLen]; omega
  rcases hs1.holds _ (List.mem_singleton.2 rfl) with ⟨_, g1, g2, ⟨b, g3⟩, g4⟩ | ⟨b, cap, cur, fr, g1, g0, g2, g3, g4, g5, g6, g7, g8, g9, g10, g11, g12, g13⟩
  · -- an empty row without room
    subst g1; subst g2
    have g3 : m k 0 = some (b, 0) := g3
    rw [show m k ([] : List (List V)).length = m k 0 from rfl, g3] at e2; cases e2
    have hgr := grownCap_ge w ys.length 0 e
    have hgm := grownCap_le_maxLen w ys.length 0 e (by simpa using hmax)
    obtain ⟨m', Z', hst, hm'⟩ := Step.grown (m := m) (Z := Z) (w := w) (k := k) (t := e) (sz := i.size) (fz := 0) (els := []) (all := [] ++ ys) (cur := news.toArray ++ Builtin.zeroCells z.cells (grownCap w ys.length 0 e - ys.length)) (cap := grownCap w ys.length 0 e) (w1 := w.drew) hs1 rfl (by simpa using g4) (by simpa using hn0) rfl rfl rfl rfl h0 (by simpa using hgr) hgm
      (by simp only [Array.size_append, List.size_toArray, size_zeroCells, hzs, hnl, ← Nat.add_mul]; congr 1; omega)
      (by
        have : (news.toArray ++ Builtin.zeroCells z.cells (grownCap w ys.length 0 e - ys.length)).toList.take (([] ++ ys : List (List V)).length * i.size) = news := by
          simp only [Array.toList_append, List.nil_append, ← hnl]
          exact List.take_left
        rw [this]; simpa using hn1) (by simpa using hkl) (Nat.zero_le _)
    have hr := run_append_nil (P := P) w t ty e i z hu hi hz a ys.length c news hnl hn2 hn0 (by omega) (by have := hlen; simp only [List.length_nil, Nat.zero_add] at this; omega)
    rcases e5 with e5 | ⟨_, A', e5⟩
    · simp only [List.length_nil, Nat.zero_mul] at e5
      have hr2 := run_append_grow (P := P) w t ty e i z hu hi hz ⟨b, 0, none⟩ 0 0 [] (by simp) (fun j v h => by simp at h) a ys.length c news hnl hn2 (by omega) (by omega) (growslice_fits (by omega) (by simpa using hlen))
      simp only [Nat.zero_add, List.nil_append, Array.empty_append] at hr2
      refine ⟨rfl, .inl ⟨_, _, fin (by rw [e5, hYv]; exact hr2), m', Z', hfr hst, m', _, rfl, hm', by simpa using hgr, hgm, .inl (by simp)⟩⟩
    · cases A' with
      | none => exact ⟨rfl, .inl ⟨_, _, fin (by rw [e5, hYv]; exact hr), m', Z', hfr hst, m', _, rfl, hm', by simpa using hgr, hgm, .inl (by simp)⟩⟩
      | some a' =>
        have hr2 := run_append_grow (P := P) w t ty e i z hu hi hz a' 0 0 [] (by simp) (fun j v h => by simp at h) a ys.length c news hnl hn2 (by omega) (by omega) (growslice_fits (by omega) (by simpa using hlen))
        simp only [Nat.zero_add, List.nil_append, Array.empty_append] at hr2
        exact ⟨rfl, .inl ⟨_, _, fin (by rw [e5, hYv]; exact hr2), m', Z', hfr hst, m', _, rfl, hm', by simpa using hgr, hgm, .inl (by simp)⟩⟩
  · have g1 : m k els.length = some (b, cap) := g1
    rw [g1] at e2; cases e2
    have e5 : ev ρr x = .slice (some ⟨b, 0, none⟩) els.length cap := by
      rcases e5 with e5 | ⟨e5, _⟩
      · simpa using e5
      · simp only at e5; omega
    have hfl := flatten_lenV g8
    have hcl : cur.toList.length = cap * i.size := by simpa using g5
    by_cases hroom : els.length + ys.length ≤ cap
    · have hfit : els.length * i.size + news.length ≤ cur.size := by rw [hnl, g5, ← Nat.add_mul]; exact Nat.mul_le_mul_right _ hroom
      have hr := run_append_roomG (P := P) w t ty e i hu hi b els.length cap cur fr g2 a ys.length c news hnl (by rcases g9 with g9 | g9; exact .inl (Nat.le_trans g9 (Nat.mul_le_mul_right _ g10)); right; omega) hn2 hones hroom hfit
      have hlt : els.length * i.size ≤ cur.toList.length := by rw [hcl]; exact Nat.mul_le_mul_right _ g3
      obtain ⟨m', hst, hm'⟩ := Step.roomed (all := els ++ ys) (cur' := (cur.toList.take (els.length * i.size) ++ news ++ cur.toList.drop (els.length * i.size + news.length)).toArray) hs1 g1 g0 g2 (by simp) (by omega)
        (by simp only [List.size_toArray, List.length_append, List.length_take, List.length_drop]; (have : cur.size = cur.toList.length := by simp); omega)
        (fun off ho => by
          simp only [List.getElem?_toArray, List.append_assoc]
          rw [List.getElem?_append_left (by simp only [List.length_take]; omega), List.getElem?_take, if_pos ho]; simp)
        (by
          have e6 : ((els ++ ys).length * i.size) = (cur.toList.take (els.length * i.size) ++ news).length := by
            have h7 : (cur.toList.take (els.length * i.size)).length = els.length * i.size := by rw [List.length_take]; omega
            rw [hlenA, List.length_append (as := cur.toList.take (els.length * i.size)), h7, hnl, Nat.add_mul]
          rw [e6, flatten_appendV]
          simp only []
          rw [List.take_left]
          exact g7.append hn1)
        (fun c hc => by
          rcases List.mem_append.1 hc with hc | hc
          · exact g8 c hc
          · exact hkl c hc) rfl
      exact ⟨rfl, .inl ⟨_, _, fin (by rw [e5, hYv]; exact hr), m', Z, hfr hst, m', _, rfl, hm', by simp only [hlenA]; omega, g4, .inl (by simp [hlenA])⟩⟩
    · have hgr := grownCap_ge w (els.length + ys.length) cap e
      have hgm := grownCap_le_maxLen w (els.length + ys.length) cap e hmax
      have htl : (cur.toList.take (els.length * i.size)).length = els.length * i.size := by rw [List.length_take, hcl]; exact Nat.min_eq_left (Nat.mul_le_mul_right _ g3)
      have hr := run_append_grow (P := P) w t ty e i z hu hi hz ⟨b, 0, none⟩ els.length cap (cur.toList.take (els.length * i.size)) htl (fun j v h => by
        rw [Addr.add_lit, Nat.zero_add, cell_of_row w b j cur e fr g2]
        rw [List.getElem?_take] at h
        split at h
        · simpa using h
        · cases h) a ys.length c news hnl hn2 (by omega) (by omega) (growslice_fits (by omega) hlen)
      obtain ⟨m', Z', hst, hm'⟩ := Step.grown (m := m) (Z := Z) (w := w) (k := k) (t := e) (sz := i.size) (fz := fz) (els := els) (all := els ++ ys) (cur := (cur.toList.take (els.length * i.size)).toArray ++ news.toArray ++ Builtin.zeroCells z.cells (grownCap w (els.length + ys.length) cap e - (els.length + ys.length))) (cap := grownCap w (els.length + ys.length) cap e) (w1 := w.drew) hs1 rfl g12 (by omega) rfl rfl rfl rfl h0 (by omega) hgm
        (by simp only [Array.size_append, List.size_toArray, size_zeroCells, hzs, hnl, htl, ← Nat.add_mul]; congr 1; omega)
        (by
          have e6 : ((els ++ ys).length * i.size) = (cur.toList.take (els.length * i.size) ++ news).length := by
            rw [hlenA, List.length_append (as := cur.toList.take (els.length * i.size)), htl, hnl, Nat.add_mul]
          rw [e6, flatten_appendV]
          simp only [Array.toList_append]
          rw [List.take_left]
          exact g7.append hn1)
        (fun c hc => by
          rcases List.mem_append.1 hc with hc | hc
          · exact g8 c hc
          · exact hkl c hc) g10
      exact ⟨rfl, .inl ⟨_, _, fin (by rw [e5, hYv]; exact hr), m', Z', hfr hst, m', _, rfl, hm', by simp only [hlenA]; omega, hgm, .inl (by simp [hlenA])⟩⟩
end
end Go.EV
