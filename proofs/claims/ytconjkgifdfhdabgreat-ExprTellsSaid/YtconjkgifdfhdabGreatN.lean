/- Values of right expressions. -/
import Derived.Test.YtconjkgifdfhdabGreatM
import Derived.Test.YtconjkgifdfhdabGreatY
set_option linter.all false
set_option maxRecDepth 100000
namespace Go.Proofs.YtconjkgifdfhdabGreat
open Go Go.RowKit Go.Eng Go.EV Go.Grf
theorem find_at {α : Type} [Inhabited α] {p : α → Bool} : ∀ {l : List α} {i : Nat}, i < l.length → p (l.getD i default) = true → (∀ j, j < i → p (l.getD j default) = false) → l.find? p = some (l.getD i default)
 | [], i, h, _, _ => by simp at h
 | x :: l, 0, _, h, _ => by
  have : p x = true := h
  rw [List.find?_cons, this]; rfl
 | x :: l, i + 1, h, h1, h2 => by
  have : p x = false := h2 0 (by omega)
  rw [List.find?_cons, this]
  have := find_at (p := p) (l := l) (i := i) (by simpa using h) (by simpa using h1) fun j hj => by simpa using h2 (j + 1) (by omega)
  simpa using this
def rowV (tabs : List Table) (s key : List UInt8) : Int :=
 match tabs.find? (fun t => decide (t.Name = s)) with
 | none => 0
 | some t => match t.Rows.find? (fun r => decide (r.Name = key)) with
  | some r => r.N
  | none => t.Else
def smallT (tabs : List Table) : Prop := tabs.length ≤ 1000 ∧ ∀ t ∈ tabs, t.Rows.length ≤ 1000
variable [Fuel]
theorem table_ix {l : List Table} (hl : l.length ≤ 1000) (o n : Int) (s k : List UInt8) (a : List Expr) : ∃ r, s_slices_IndexFunc_2 l o n s k a = some (r, o, n, s, k, a) ∧ ((r = -1 ∧ l.find? (fun t => decide (t.Name = s)) = none) ∨ ∃ i : Nat, r = i ∧ i < l.length ∧ l.find? (fun t => decide (t.Name = s)) = some (l.getD i default)) := by
 have key := for_all (L := s_slices_IndexFunc_2_L1 l) (s := ((0 : Int), o, n, s, k, a)) (fun i q => q = ((i : Int), o, n, s, k, a) ∧ ∀ j, j < i → (decide ((l.getD j default).Name = s)) = false)
  (fun t => match t with | .inl r => r.2 = (o, n, s, k, a) ∧ ∃ i : Nat, r.1 = i ∧ i < l.length ∧ l.find? (fun t => decide (t.Name = s)) = some (l.getD i default) | .inr v => v = (o, n, s, k, a) ∧ l.find? (fun t => decide (t.Name = s)) = none) l.length (by omega) ⟨rfl, fun j hj => by omega⟩ (fun K i q h hi => ?_) (fun K q h => ?_)
 ·obtain ⟨t, h1, h2⟩ := key
  unfold s_slices_IndexFunc_2
  rw [h1, oB]
  cases t with
  | inl r =>
   obtain ⟨r, v⟩ := r
   dsimp only at h2 ⊢
   obtain ⟨rfl, h3⟩ := h2
   exact ⟨r, rfl, .inr h3⟩
  | inr v =>
   dsimp only at h2 ⊢
   obtain ⟨rfl, h3⟩ := h2
   exact ⟨-1, rfl, .inl ⟨rfl, h3⟩⟩
 ·obtain ⟨rfl, h⟩ := h
  rw [s_slices_IndexFunc_2_L1, dT (by dsimp only; omega), cT, idx_of hi, oB]
  unfold s_expr_context_row_1
  dsimp only
  rw [oB, w64_succ hi (by omega)]
  dsimp only
  cases hb : decide ((l.getD i default).Name = s) with
  | true =>
   rw [cT]
   refine .inl ⟨.inl ((i : Int), o, n, s, k, a), rfl, ?_⟩
   dsimp only
   exact ⟨rfl, i, rfl, hi, find_at hi hb h⟩
  | false =>
   rw [cF]
   refine .inr ⟨_, ⟨rfl, fun j hj => ?_⟩, rfl⟩
   by_cases e : j = i
   ·subst e; exact hb
   ·exact h j (by omega)
 ·obtain ⟨rfl, h⟩ := h
  refine ⟨.inr (o, n, s, k, a), by rw [s_slices_IndexFunc_2_L1, dF (by simp), cF], ?_⟩
  dsimp only
  refine ⟨rfl, List.find?_eq_none.2 fun t ht => ?_⟩
  obtain ⟨j, hj, rfl⟩ := mem_getD ht
  rw [h j hj]; simp
theorem entry_ix {l : List Entry} (hl : l.length ≤ 1000) (o n : Int) (s k : List UInt8) (a : List Expr) : ∃ r, s_slices_IndexFunc_3 l o n s k a = some (r, o, n, s, k, a) ∧ ((r = -1 ∧ l.find? (fun t => decide (t.Name = k)) = none) ∨ ∃ i : Nat, r = i ∧ i < l.length ∧ l.find? (fun t => decide (t.Name = k)) = some (l.getD i default)) := by
 have key := for_all (L := s_slices_IndexFunc_3_L1 l) (s := ((0 : Int), o, n, s, k, a)) (fun i q => q = ((i : Int), o, n, s, k, a) ∧ ∀ j, j < i → (decide ((l.getD j default).Name = k)) = false)
  (fun t => match t with | .inl r => r.2 = (o, n, s, k, a) ∧ ∃ i : Nat, r.1 = i ∧ i < l.length ∧ l.find? (fun t => decide (t.Name = k)) = some (l.getD i default) | .inr v => v = (o, n, s, k, a) ∧ l.find? (fun t => decide (t.Name = k)) = none) l.length (by omega) ⟨rfl, fun j hj => by omega⟩ (fun K i q h hi => ?_) (fun K q h => ?_)
 ·obtain ⟨t, h1, h2⟩ := key
  unfold s_slices_IndexFunc_3
  rw [h1, oB]
  cases t with
  | inl r =>
   obtain ⟨r, v⟩ := r
   dsimp only at h2 ⊢
   obtain ⟨rfl, h3⟩ := h2
   exact ⟨r, rfl, .inr h3⟩
  | inr v =>
   dsimp only at h2 ⊢
   obtain ⟨rfl, h3⟩ := h2
   exact ⟨-1, rfl, .inl ⟨rfl, h3⟩⟩
 ·obtain ⟨rfl, h⟩ := h
  rw [s_slices_IndexFunc_3_L1, dT (by dsimp only; omega), cT, idx_of hi, oB]
  unfold s_expr_context_row_2
  dsimp only
  rw [oB, w64_succ hi (by omega)]
  dsimp only
  cases hb : decide ((l.getD i default).Name = k) with
  | true =>
   rw [cT]
   refine .inl ⟨.inl ((i : Int), o, n, s, k, a), rfl, ?_⟩
   dsimp only
   exact ⟨rfl, i, rfl, hi, find_at hi hb h⟩
  | false =>
   rw [cF]
   refine .inr ⟨_, ⟨rfl, fun j hj => ?_⟩, rfl⟩
   by_cases e : j = i
   ·subst e; exact hb
   ·exact h j (by omega)
 ·obtain ⟨rfl, h⟩ := h
  refine ⟨.inr (o, n, s, k, a), by rw [s_slices_IndexFunc_3_L1, dF (by simp), cF], ?_⟩
  dsimp only
  refine ⟨rfl, List.find?_eq_none.2 fun t ht => ?_⟩
  obtain ⟨j, hj, rfl⟩ := mem_getD ht
  rw [h j hj]; simp
theorem row_is {p : Plan} (hp : smallT p.Tables) (known : List (List UInt8 × Int)) (zs : List (List UInt8)) (e : Expr) : s_expr_context_row p known zs e = some (rowV p.Tables e.S e.Key) := by
 obtain ⟨r, hr, hrs⟩ := table_ix hp.1 e.Op e.N e.S e.Key e.Args
 unfold s_expr_context_row rowV
 rw [hr, oB]
 dsimp only
 rcases hrs with ⟨rfl, hf⟩ | ⟨i, rfl, hi, hf⟩
 ·rw [hf, dT (by omega)]; rfl
 ·rw [hf, dF (by omega), cF, idx_of hi, oB]
  dsimp only
  obtain ⟨r2, hr2, hrs2⟩ := entry_ix (hp.2 _ (getD_mem hi)) e.Op e.N e.S e.Key e.Args
  rw [hr2, oB]
  dsimp only
  rcases hrs2 with ⟨rfl, hf2⟩ | ⟨k, rfl, hk, hf2⟩
  ·rw [hf2, dF (by omega)]; rfl
  ·rw [hf2, dT (by omega), cT, idx_of hk]; rfl
theorem contains2_is {s : List (List UInt8)} {v : List UInt8} (hs : s.length < 2 ^ 62) : s_slices_Contains_2 s v = some (decide (v ∈ s)) := by
 have key := for_all (L := s_slices_Index_2_L1 s v) (s := (0 : Int)) (fun i a => a = (i : Int) ∧ ∀ j, j < i → s.getD j default ≠ v)
  (fun t => match t with | .inl r => 0 ≤ r ∧ v ∈ s | .inr _ => v ∉ s) s.length (by omega) ⟨rfl, fun j hj => by omega⟩ (fun K i a h hi => ?_) (fun K a h => ?_)
 ·obtain ⟨t, h1, h2⟩ := key
  unfold s_slices_Contains_2 s_slices_Index_2
  rw [h1]
  cases t with
  | inl r =>
   dsimp only at h2
   rw [dT h2.2]
   show some (decide (r ≥ 0)) = _
   rw [dT (show r ≥ 0 from h2.1)]
  | inr u => dsimp only at h2; rw [dF h2]; rfl
 ·obtain ⟨rfl, h⟩ := h
  rw [s_slices_Index_2_L1, dT (by omega), cT, idx_of hi, oB, w64_succ hi (by omega)]
  by_cases he : v = s.getD i default
  ·rw [dT he, cT]
   refine .inl ⟨.inl (i : Int), rfl, ?_⟩
   dsimp only
   exact ⟨by omega, by rw [he]; exact getD_mem hi⟩
  ·rw [dF he, cF]
   refine .inr ⟨_, ⟨rfl, fun j hj => ?_⟩, rfl⟩
   by_cases hji : j = i
   ·subst hji; exact Ne.symm he
   ·exact h j (by omega)
 ·obtain ⟨rfl, h⟩ := h
  refine ⟨.inr (), by rw [s_slices_Index_2_L1, dF (by omega), cF], ?_⟩
  dsimp only
  exact fun hm => by obtain ⟨j, hj, e⟩ := mem_getD hm; exact h j hj e.symm
def valV (look : List UInt8 → Int) (row : List UInt8 → List UInt8 → Int) (zone : List UInt8 → Bool) : Nat → Expr → Int
 | 0, _ => 0
 | n + 1, e =>
  if e.Op = 0 then e.N else if e.Op = 1 then look e.S else if e.Op = 2 then row e.S e.Key else if e.Op = 3 then bitI (zone e.S)
  else if e.Op = 9 then w64 (0 - valV look row zone n (e.Args.getD 0 default))
  else if e.Op = 15 then bitI (decide (valV look row zone n (e.Args.getD 0 default) = 0))
  else if e.Op = 16 then (if valV look row zone n (e.Args.getD 0 default) = 0 then valV look row zone n (e.Args.getD 2 default) else valV look row zone n (e.Args.getD 1 default))
  else binI e.Op (valV look row zone n (e.Args.getD 0 default)) (valV look row zone n (e.Args.getD 1 default))
omit [Fuel] in
theorem names_default : namesL (default : Expr) = [] := by
 show namesL ⟨0, 0, [], [], []⟩ = []
 simp [namesL, namesLs]
theorem names_arg {e : Expr} {i : Nat} {s : List UInt8} (h : s ∈ namesL (e.Args.getD i default)) : s ∈ namesL e := by
 by_cases hi : i < e.Args.length
 ·rw [namesL_eq, List.mem_append, mem_namesLs]
  exact .inr ⟨_, getD_mem hi, h⟩
 ·rw [List.getD_eq_getElem?_getD, List.getElem?_eq_none (by omega)] at h
  have : s ∈ namesL (default : Expr) := h
  rw [names_default] at this; cases this
theorem valV_congr {look look' : List UInt8 → Int} {row : List UInt8 → List UInt8 → Int} {zone : List UInt8 → Bool} : ∀ (n : Nat) (e : Expr), (∀ s ∈ namesL e, look s = look' s) → valV look row zone n e = valV look' row zone n e
 | 0, _, _ => rfl
 | n + 1, e, h => by
  have ih : ∀ i, valV look row zone n (e.Args.getD i default) = valV look' row zone n (e.Args.getD i default) := fun i => valV_congr n _ fun s hs => h s (names_arg hs)
  rw [valV, valV, ih, ih, ih]
  by_cases o1 : e.Op = 1
  ·have : look e.S = look' e.S := h _ (by rw [namesL_eq, if_pos o1]; simp)
   rw [this]
  ·simp only [o1, if_false]
theorem value_L1 {rc : Plan → List (List UInt8 × Int) → List (List UInt8) → Expr → Option Int} {p : Plan} {known : List (List UInt8 × Int)} {z : List (List UInt8)} {e : Expr} {W : Expr → Int} (hx : ∀ x ∈ e.Args, rc p known z x = some (W x)) (hl : e.Args.length ≤ 3) :
  ∃ v, s_expr_context_value_L1 rc p known z e KK (0, []) = some v ∧ v.length = e.Args.length ∧ (0 < e.Args.length → v.getD 0 default = W (e.Args.getD 0 default)) ∧ (1 < e.Args.length → (e.Op = 16 → W (e.Args.getD 0 default) ≠ 0) → v.getD 1 default = W (e.Args.getD 1 default)) ∧ (2 < e.Args.length → (e.Op = 16 → W (e.Args.getD 0 default) = 0) → v.getD 2 default = W (e.Args.getD 2 default)) := by
 have key := for_all (L := s_expr_context_value_L1 rc p known z e) (s := ((0 : Int), ([] : List Int)))
  (fun i q => q.1 = (i : Int) ∧ q.2.length = i ∧ (0 < i → q.2.getD 0 default = W (e.Args.getD 0 default)) ∧ (1 < i → (e.Op = 16 → W (e.Args.getD 0 default) ≠ 0) → q.2.getD 1 default = W (e.Args.getD 1 default)) ∧ (2 < i → (e.Op = 16 → W (e.Args.getD 0 default) = 0) → q.2.getD 2 default = W (e.Args.getD 2 default)))
  (fun v => v.length = e.Args.length ∧ (0 < e.Args.length → v.getD 0 default = W (e.Args.getD 0 default)) ∧ (1 < e.Args.length → (e.Op = 16 → W (e.Args.getD 0 default) ≠ 0) → v.getD 1 default = W (e.Args.getD 1 default)) ∧ (2 < e.Args.length → (e.Op = 16 → W (e.Args.getD 0 default) = 0) → v.getD 2 default = W (e.Args.getD 2 default))) e.Args.length (by omega) ⟨rfl, rfl, fun h => by omega, fun h => by omega, fun h => by omega⟩ (fun K i q h hi => .inr ?_) (fun K q h => ?_)
 ·exact key
 ·obtain ⟨a, v⟩ := q
  obtain ⟨e1, h1, h2, h3, h4⟩ := h
  dsimp only at e1 h1 h2 h3 h4; subst e1
  have hg : ∀ y : Int, grd ((v ++ [y]).length * 8 ≤ 140737488355328) = some () := fun y => grd_of (by rw [List.length_append, List.length_singleton]; omega)
  have hy := hx _ (getD_mem hi)
  rw [s_expr_context_value_L1, dT (by dsimp only; omega), cT, idx_of hi, oB]
  dsimp only
  have step : ∀ y : Int, (i = 0 → y = W (e.Args.getD 0 default)) → (i = 1 → (e.Op = 16 → W (e.Args.getD 0 default) ≠ 0) → y = W (e.Args.getD 1 default)) → (i = 2 → (e.Op = 16 → W (e.Args.getD 0 default) = 0) → y = W (e.Args.getD 2 default)) →
    ∃ s' : Int × List Int, (s'.1 = ((i + 1 : Nat) : Int) ∧ s'.2.length = i + 1 ∧ (0 < i + 1 → s'.2.getD 0 default = W (e.Args.getD 0 default)) ∧ (1 < i + 1 → (e.Op = 16 → W (e.Args.getD 0 default) ≠ 0) → s'.2.getD 1 default = W (e.Args.getD 1 default)) ∧ (2 < i + 1 → (e.Op = 16 → W (e.Args.getD 0 default) = 0) → s'.2.getD 2 default = W (e.Args.getD 2 default))) ∧ (s_expr_context_value_L1 rc p known z e) K ((((i + 1 : Nat) : Int)), v ++ [y]) = (s_expr_context_value_L1 rc p known z e) K s' := fun y y0 y1 y2 => by
   refine ⟨((((i + 1 : Nat) : Int)), v ++ [y]), ⟨rfl, by dsimp only; rw [List.length_append, List.length_singleton, h1], fun _ => ?_, fun hi1 hc => ?_, fun hi2 hc => ?_⟩, rfl⟩
   ·dsimp only
    rw [getD_snoc]
    by_cases e0 : i = 0
    ·rw [if_neg (by omega), if_pos (by omega)]; exact y0 e0
    ·rw [if_pos (by omega)]; exact h2 (by omega)
   ·dsimp only
    rw [getD_snoc]
    by_cases e0 : i = 1
    ·rw [if_neg (by omega), if_pos (by omega)]; exact y1 e0 hc
    ·rw [if_pos (by omega)]; exact h3 (by omega) hc
   ·dsimp only
    rw [getD_snoc]
    by_cases e0 : i = 2
    ·rw [if_neg (by omega), if_pos (by omega)]; exact y2 e0 hc
    ·rw [if_pos (by omega)]; exact h4 (by omega) hc
  have normal := step (W (e.Args.getD i default)) (fun h => by rw [h]) (fun h _ => by rw [h]) (fun h _ => by rw [h])
  by_cases ho : e.Op = 16
  ·rw [dT ho, cT]
   by_cases hi0 : i = 0
   ·rw [dF (by omega), cF, oB, cF, hy, oB, hg, oB, oB, w64_succ hi (by omega)]
    exact normal
   ·rw [dT (by omega), cT, grd_of ⟨by omega, by omega⟩, oB, oB, show Int.toNat 0 = 0 from rfl, h2 (by omega), oB, w64_succ hi (by omega)]
    cases hb : (!((!(decide (W (e.Args.getD 0 default) = 0))) == (decide ((i : Int) = 1)))) with
    | false => rw [cF, hy, oB, hg, oB, oB]; exact normal
    | true =>
     rw [cT, hg, oB, oB]
     refine step 0 (fun h => absurd h hi0) (fun h hc => ?_) (fun h hc => ?_)
     ·exfalso
      rw [dF (hc ho), dT (by omega)] at hb; cases hb
     ·exfalso
      rw [dT (hc ho), dF (by omega)] at hb; cases hb
  ·rw [dF ho, cF, oB, cF, hy, oB, hg, oB, oB, w64_succ hi (by omega)]
   exact normal
 ·obtain ⟨a, v⟩ := q
  obtain ⟨e1, h⟩ := h
  dsimp only at e1 h; subst e1
  exact ⟨v, by rw [s_expr_context_value_L1, dF (by simp), cF], h⟩
theorem value_is {p : Plan} (hp : smallT p.Tables) {known : List (List UInt8 × Int)} {zs : List (List UInt8)} (hz : zs.length ≤ 1000) : ∀ (n : Nat) (e : Expr) (K : Nat), n ≤ 12 → n < K → levV n e ≤ n →
  s_expr_context_value K p known zs e = some (valV (fun s => (mfind s known).getD 0) (rowV p.Tables) (fun s => decide (s ∈ zs)) n e)
 | 0, e, K, _, _, h => by simp [levV] at h
 | n + 1, e, K, hn, hK, h => by
  obtain ⟨K, rfl⟩ : ∃ K', K = K' + 1 := ⟨K - 1, by omega⟩
  obtain ⟨h1, h2, h3⟩ := lev_args (by omega) h
  have h4 := (arV_le e.Op).2
  obtain ⟨v, hv, hl, v0, v1, v2⟩ := value_L1 (rc := s_expr_context_value K) (p := p) (known := known) (z := zs) (e := e) (W := valV (fun s => (mfind s known).getD 0) (rowV p.Tables) (fun s => decide (s ∈ zs)) n) (fun x hx => value_is hp hz n x K (by omega) (by omega) (h3 x hx)) (by omega)
  rw [s_expr_context_value, hv, oB, row_is hp, contains2_is (by omega), valV]
  by_cases o0 : e.Op = 0
  ·rw [dT o0, if_pos o0]; rfl
  by_cases o1 : e.Op = 1
  ·rw [dF o0, dT o1, if_neg o0, if_pos o1]; rfl
  by_cases o2 : e.Op = 2
  ·rw [dF o0, dF o1, dT o2, if_neg o0, if_neg o1, if_pos o2]; rfl
  by_cases o3 : e.Op = 3
  ·rw [dF o0, dF o1, dF o2, dT o3, if_neg o0, if_neg o1, if_neg o2, if_pos o3]
   simp only [bit_is, oB, cT, cF]
  have g0 : (arV e.Op).1 ≥ 1 → grd (0 ≤ (0 : Int) ∧ (0 : Int) < ((v).length : Nat)) = some () := fun h => grd_of ⟨by omega, by omega⟩
  have g1 : (arV e.Op).1 ≥ 2 → grd (0 ≤ (1 : Int) ∧ (1 : Int) < ((v).length : Nat)) = some () := fun h => grd_of ⟨by omega, by omega⟩
  have g2 : (arV e.Op).1 ≥ 3 → grd (0 ≤ (2 : Int) ∧ (2 : Int) < ((v).length : Nat)) = some () := fun h => grd_of ⟨by omega, by omega⟩
  rw [dF o0, dF o1, dF o2, dF o3, if_neg o0, if_neg o1, if_neg o2, if_neg o3]
  by_cases o9 : e.Op = 9
  ·have ha : (arV e.Op).1 = 1 := by rw [o9]; rfl
   rw [dT o9, g0 (by omega), if_pos o9]
   simp only [oB, cT, cF]
   rw [show Int.toNat 0 = 0 from rfl, v0 (by omega)]
  by_cases o15 : e.Op = 15
  ·have ha : (arV e.Op).1 = 1 := by rw [o15]; rfl
   rw [dF o9, dT o15, g0 (by omega), if_neg o9, if_pos o15]
   simp only [bit_is, oB, cT, cF]
   rw [show Int.toNat 0 = 0 from rfl, v0 (by omega)]
  by_cases o16 : e.Op = 16
  ·have ha : (arV e.Op).1 = 3 := by rw [o16]; rfl
   rw [dF o9, dF o15, dT o16, g0 (by omega), g1 (by omega), g2 (by omega), if_neg o9, if_neg o15, if_pos o16]
   simp only [oB, cT, cF]
   rw [show Int.toNat 0 = 0 from rfl, show Int.toNat 1 = 1 from rfl, show Int.toNat 2 = 2 from rfl, v0 (by omega)]
   by_cases hz0 : valV (fun s => (mfind s known).getD 0) (rowV p.Tables) (fun s => decide (s ∈ zs)) n (e.Args.getD 0 default) = 0
   ·rw [dT hz0, if_pos hz0, v2 (by omega) fun _ => hz0]; rfl
   ·rw [dF hz0, if_neg hz0, v1 (by omega) fun _ => hz0]; rfl
  have ha : (arV e.Op).1 = 2 := by
   unfold arV
   rw [if_neg (by omega), if_neg (by omega), if_neg o16]
  rw [dF o9, dF o15, dF o16, g0 (by omega), g1 (by omega), if_neg o9, if_neg o15, if_neg o16]
  simp only [oB, cT, cF]
  rw [binary_is, oB, show Int.toNat 0 = 0 from rfl, show Int.toNat 1 = 1 from rfl, v0 (by omega), v1 (by omega) fun h => absurd h o16]
end Go.Proofs.YtconjkgifdfhdabGreat
