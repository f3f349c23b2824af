/- ExprTells in plain Lean. -/
import Derived.Test.YtconjkgifdfhdabGreatX
set_option linter.all false
set_option maxRecDepth 100000
namespace Go.Proofs.YtconjkgifdfhdabGreat
open Go Go.RowKit Go.Eng Go.EV Go.Grf
variable [Fuel]
theorem s_arity17 (op : Int) : s_gr17_arity op = some (if (arV op).2 = true then (arV op).1 else -1) := by
 unfold s_gr17_arity arV
 by_cases h0 : op = 0
 ·subst h0; rfl
 by_cases h1 : op = 1
 ·subst h1; rfl
 by_cases h2 : op = 2
 ·subst h2; rfl
 by_cases h3 : op = 3
 ·subst h3; rfl
 by_cases h9 : op = 9
 ·subst h9; rfl
 by_cases h15 : op = 15
 ·subst h15; rfl
 by_cases h16 : op = 16
 ·subst h16; rfl
 simp only [h0, h1, h2, h3, h9, h15, h16, decide_false, cF, oB, or_self, if_false]
 by_cases h : op < 0
 ·rw [dT h, dF (show ¬ 0 ≤ op by omega)]; rfl
 ·rw [dF h, dT (show 0 ≤ op by omega)]
  by_cases h' : op ≥ 17
  ·rw [dT h', dF (show ¬ op < 17 by omega)]; rfl
  ·rw [dF h', dT (show op < 17 by omega)]; rfl
theorem fits_loop {rc : Expr → Int → Option Bool} {e : Expr} {lv : Int} (p : Expr → Bool) (hl : e.Args.length ≤ 3) (hx : ∀ x ∈ e.Args, rc x (w64 (lv - 1)) = some (p x)) : ∀ (n i K : Nat), i + n = e.Args.length → n < K → s_gr17_fits_L1 rc e lv K (i : Int) = some (if (e.Args.drop i).all p = true then .inr () else .inl false)
 | 0, i, K, hi, hK => by
  obtain ⟨K, rfl⟩ : ∃ K', K = K' + 1 := ⟨K - 1, by omega⟩
  rw [s_gr17_fits_L1, dF (by omega), cF, List.drop_of_length_le (by omega)]; rfl
 | n + 1, i, K, hi, hK => by
  obtain ⟨K, rfl⟩ : ∃ K', K = K' + 1 := ⟨K - 1, by omega⟩
  have hlt : i < e.Args.length := by omega
  rw [s_gr17_fits_L1, dT (by omega), cT, idx_of hlt, oB, hx _ (getD_mem hlt), oB, w64_id (n := (i : Int) + 1) (by omega) (by omega), show ((i : Int) + 1) = ((i + 1 : Nat) : Int) by omega, fits_loop p hl hx n (i + 1) K (by omega) (by omega), drop_cons hlt, List.all_cons]
  cases p (e.Args.getD i default) <;> rfl
theorem s_fits : ∀ (n : Nat) (e : Expr) (K : Nat), n ≤ 12 → n < K → s_gr17_fits K e (n : Int) = some (decide (levV n e ≤ n))
 | 0, e, K, hn, hK => by
  obtain ⟨K, rfl⟩ : ∃ K', K = K' + 1 := ⟨K - 1, by omega⟩
  rw [s_gr17_fits]; rfl
 | n + 1, e, K, hn, hK => by
  obtain ⟨K, rfl⟩ : ∃ K', K = K' + 1 := ⟨K - 1, by omega⟩
  rw [s_gr17_fits, s_arity17, dF (show ¬ ((n + 1 : Nat) : Int) < 1 by omega)]
  have ha := arV_le e.Op
  by_cases hbad : (arV e.Op).2 = false ∨ (arV e.Op).1 ≠ e.Args.length
  ·have : ¬ (if (arV e.Op).2 = true then (arV e.Op).1 else -1) = (e.Args.length : Int) := by
    split
    ·rename_i h2
     rcases hbad with h | h
     ·rw [h] at h2; cases h2
     ·exact h
    ·omega
   rw [levV, if_pos hbad, dF (show ¬ (13 : Int) ≤ ((n + 1 : Nat) : Int) by omega)]
   simp only [oB, cF]
   rw [dF this]; rfl
  ·have h2 : (arV e.Op).2 = true := by
    cases h : (arV e.Op).2 with
    | true => rfl
    | false => exact absurd (.inl h) hbad
   have h1 : (arV e.Op).1 = e.Args.length := by
    by_cases h : (arV e.Op).1 = e.Args.length
    ·exact h
    ·exact absurd (.inr h) hbad
   rw [if_pos h2, h1]
   simp only [oB, cF, decide_true, Bool.not_true]
   have key := fits_loop (rc := s_gr17_fits K) (e := e) (lv := ((n + 1 : Nat) : Int)) (fun x => decide (levV n x ≤ n)) (by omega) (fun x _ => by rw [w64_id (by omega) (by omega), show ((n + 1 : Nat) : Int) - 1 = (n : Int) by omega]; exact s_fits n x K (by omega) (by omega)) e.Args.length 0 KK (by omega) (by have := KK_big; omega)
   rw [show ((0 : Nat) : Int) = 0 from rfl, List.drop_zero] at key
   rw [key, oB, levV, if_neg hbad]
   have hb := foldl_max (levV n) (13 + n) e.Args 0 (fun x _ => levV_le n x) (by omega)
   by_cases hall : e.Args.all (fun x => decide (levV n x ≤ n)) = true
   ·rw [if_pos hall]
    have hall' := List.all_eq_true.1 hall
    have := (foldl_max (levV n) n e.Args 0 (fun x hx => of_decide_eq_true (hall' x hx)) (by omega)).1
    rw [dT (by omega)]
   ·rw [if_neg hall]
    rw [dF]
    intro hle
    refine hall (List.all_eq_true.2 fun x hx => dT ?_)
    have := hb.2.2 x hx
    omega
theorem s_Right17 (e : Expr) : s_gr17_Right e = some (decide (exRight e)) := by
 unfold s_gr17_Right
 have := s_fits 12 e KK (by omega) (by have := KK_big; omega)
 rw [show ((12 : Nat) : Int) = 12 from rfl] at this
 rw [this]; rfl
theorem rhas_is {l : List (List UInt8)} {s : List UInt8} (hl : l.length < 2 ^ 62) : s_gr17_has l s = some (decide (s ∈ l)) := by
 have key := for_all (L := s_gr17_has_L1 l s) (s := (0 : Int)) (fun i a => a = (i : Int) ∧ ∀ j, j < i → l.getD j default ≠ s)
  (fun t => match t with | .inl r => r = true ∧ s ∈ l | .inr _ => s ∉ l) l.length (by omega) ⟨rfl, fun j hj => by omega⟩ (fun K i a h hi => ?_) (fun K a h => ?_)
 ·obtain ⟨t, h1, h2⟩ := key
  unfold s_gr17_has
  rw [h1, oB]
  cases t with
  | inl r => dsimp only at h2 ⊢; rw [h2.1, dT h2.2]
  | inr u => dsimp only at h2 ⊢; rw [dF h2]
 ·obtain ⟨rfl, h⟩ := h
  rw [s_gr17_has_L1, dT (by omega), cT, idx_of hi, oB, w64_succ hi (by omega)]
  by_cases e : l.getD i default = s
  ·rw [dT e, cT]
   refine .inl ⟨.inl true, rfl, ?_⟩
   dsimp only
   exact ⟨rfl, by rw [← e]; exact getD_mem hi⟩
  ·rw [dF e, cF]
   refine .inr ⟨_, ⟨rfl, fun j hj => ?_⟩, rfl⟩
   by_cases hji : j = i
   ·subst hji; exact e
   ·exact h j (by omega)
 ·obtain ⟨rfl, h⟩ := h
  refine ⟨.inr (), by rw [s_gr17_has_L1, dF (by omega), cF], ?_⟩
  dsimp only
  exact fun hm => by obtain ⟨j, hj, e⟩ := mem_getD hm; exact h j hj e.symm
def knV (nm tb zo : List (List UInt8)) : Nat → Expr → Bool
 | 0, _ => true
 | n + 1, e => if e.Op = 1 then decide (e.S ∈ nm) else if e.Op = 2 then decide (e.S ∈ tb) else if e.Op = 3 then decide (e.S ∈ zo) else e.Args.all (knV nm tb zo n)
theorem table_is {l : List Table} (hl : l.length ≤ 1000) (o n : Int) (s k : List UInt8) (a : List Expr) : ∃ r, s_slices_ContainsFunc_2 l o n s k a = some (decide (s ∈ l.map (·.Name)), r) := by
 have key := for_all (L := s_slices_IndexFunc_4_L1 l) (s := ((0 : Int), o, n, s, k, a)) (fun i q => q = ((i : Int), o, n, s, k, a) ∧ ∀ j, j < i → (l.getD j default).Name ≠ s)
  (fun t => match t with | .inl r => 0 ≤ r.1 ∧ s ∈ l.map (·.Name) | .inr _ => s ∉ l.map (·.Name)) l.length (by omega) ⟨rfl, fun j hj => by omega⟩ (fun K i q h hi => ?_) (fun K q h => ?_)
 ·obtain ⟨t, h1, h2⟩ := key
  unfold s_slices_ContainsFunc_2 s_slices_IndexFunc_4
  rw [h1, oB]
  cases t with
  | inl r => dsimp only at h2 ⊢; exact ⟨_, by rw [oB, dT (show r.1 ≥ 0 from h2.1), dT h2.2]⟩
  | inr v => dsimp only at h2 ⊢; exact ⟨_, by rw [oB, dF (by omega), dF h2]⟩
 ·obtain ⟨rfl, h⟩ := h
  rw [s_slices_IndexFunc_4_L1, dT (by dsimp only; omega), cT, idx_of hi, oB]
  unfold s_expr_Check_1_1
  dsimp only
  rw [oB, w64_succ hi (by omega)]
  dsimp only
  by_cases e : (l.getD i default).Name = s
  ·rw [dT e, cT]
   refine .inl ⟨.inl ((i : Int), o, n, s, k, a), rfl, ?_⟩
   dsimp only
   exact ⟨by omega, List.mem_map.2 ⟨_, getD_mem hi, e⟩⟩
  ·rw [dF e, cF]
   refine .inr ⟨_, ⟨rfl, fun j hj => ?_⟩, rfl⟩
   by_cases hji : j = i
   ·subst hji; exact e
   ·exact h j (by omega)
 ·obtain ⟨rfl, h⟩ := h
  refine ⟨.inr (o, n, s, k, a), by rw [s_slices_IndexFunc_4_L1, dF (by simp), cF], ?_⟩
  dsimp only
  intro hm
  obtain ⟨t, ht, e⟩ := List.mem_map.1 hm
  obtain ⟨j, hj, rfl⟩ := mem_getD ht
  exact h j hj e
theorem zone_is {l : List Zone} (hl : l.length ≤ 1000) (o n : Int) (s k : List UInt8) (a : List Expr) : ∃ r, s_slices_ContainsFunc_3 l o n s k a = some (decide (s ∈ l.map (·.Name)), r) := by
 have key := for_all (L := s_slices_IndexFunc_5_L1 l) (s := ((0 : Int), o, n, s, k, a)) (fun i q => q = ((i : Int), o, n, s, k, a) ∧ ∀ j, j < i → (l.getD j default).Name ≠ s)
  (fun t => match t with | .inl r => 0 ≤ r.1 ∧ s ∈ l.map (·.Name) | .inr _ => s ∉ l.map (·.Name)) l.length (by omega) ⟨rfl, fun j hj => by omega⟩ (fun K i q h hi => ?_) (fun K q h => ?_)
 ·obtain ⟨t, h1, h2⟩ := key
  unfold s_slices_ContainsFunc_3 s_slices_IndexFunc_5
  rw [h1, oB]
  cases t with
  | inl r => dsimp only at h2 ⊢; exact ⟨_, by rw [oB, dT (show r.1 ≥ 0 from h2.1), dT h2.2]⟩
  | inr v => dsimp only at h2 ⊢; exact ⟨_, by rw [oB, dF (by omega), dF h2]⟩
 ·obtain ⟨rfl, h⟩ := h
  rw [s_slices_IndexFunc_5_L1, dT (by dsimp only; omega), cT, idx_of hi, oB]
  unfold s_expr_Check_1_2
  dsimp only
  rw [oB, w64_succ hi (by omega)]
  dsimp only
  by_cases e : (l.getD i default).Name = s
  ·rw [dT e, cT]
   refine .inl ⟨.inl ((i : Int), o, n, s, k, a), rfl, ?_⟩
   dsimp only
   exact ⟨by omega, List.mem_map.2 ⟨_, getD_mem hi, e⟩⟩
  ·rw [dF e, cF]
   refine .inr ⟨_, ⟨rfl, fun j hj => ?_⟩, rfl⟩
   by_cases hji : j = i
   ·subst hji; exact e
   ·exact h j (by omega)
 ·obtain ⟨rfl, h⟩ := h
  refine ⟨.inr (o, n, s, k, a), by rw [s_slices_IndexFunc_5_L1, dF (by simp), cF], ?_⟩
  dsimp only
  intro hm
  obtain ⟨t, ht, e⟩ := List.mem_map.1 hm
  obtain ⟨j, hj, rfl⟩ := mem_getD ht
  exact h j hj e
theorem missing_is {p : Plan} {nm : List (List UInt8)} (hn : nm.length ≤ 1000) (ht : p.Tables.length ≤ 1000) (hz : p.Zones.length ≤ 1000) : ∀ (n : Nat) (e : Expr) (K : Nat), n ≤ 12 → 5 * n < K → levV n e ≤ n →
  s_expr_Check_1 K e nm p.Defs p.Tables p.Zones p.Rules p.Caps p.Views p.Sun p.Hours = some (!(knV nm (p.Tables.map (·.Name)) (p.Zones.map (·.Name)) n e), nm, p.Defs, p.Tables, p.Zones, p.Rules, p.Caps, p.Views, p.Sun, p.Hours)
 | 0, e, K, _, _, h => by simp [levV] at h
 | n + 1, e, K, hn12, hK, h => by
  obtain ⟨K, rfl⟩ : ∃ K', K = K' + 1 := ⟨K - 1, by omega⟩
  obtain ⟨h1, h2, h3⟩ := lev_args (by omega) h
  have h4 := (arV_le e.Op).2
  rw [s_expr_Check_1, knV]
  by_cases o1 : e.Op = 1
  ·rw [dT o1, cT, if_pos o1, contains2_is (by omega), oB]
  rw [dF o1, cF, if_neg o1]
  by_cases o2 : e.Op = 2
  ·obtain ⟨r, hr⟩ := table_is ht e.Op e.N e.S e.Key e.Args
   rw [dT o2, cT, if_pos o2, hr, oB]
  rw [dF o2, cF, if_neg o2]
  by_cases o3 : e.Op = 3
  ·obtain ⟨r, hr⟩ := zone_is hz e.Op e.N e.S e.Key e.Args
   rw [dT o3, cT, if_pos o3, hr, oB]
  rw [dF o3, cF, if_neg o3]
  obtain ⟨K, rfl⟩ : ∃ K', K = K' + 1 := ⟨K - 1, by omega⟩
  obtain ⟨K, rfl⟩ : ∃ K', K = K' + 1 := ⟨K - 1, by omega⟩
  have hc : s_slices_ContainsFunc_4 (K + 1 + 1) e.Args nm p.Defs p.Tables p.Zones p.Rules p.Caps p.Views p.Sun p.Hours = some (!(e.Args.all (knV nm (p.Tables.map (·.Name)) (p.Zones.map (·.Name)) n)), nm, p.Defs, p.Tables, p.Zones, p.Rules, p.Caps, p.Views, p.Sun, p.Hours) := by
   rw [s_slices_ContainsFunc_4, s_slices_IndexFunc_6]
   have key := for_all (L := s_slices_IndexFunc_6_L1 (s_expr_Check_1 K) e.Args) (s := ((0 : Int), nm, p.Defs, p.Tables, p.Zones, p.Rules, p.Caps, p.Views, p.Sun, p.Hours)) (fun i q => q = ((i : Int), nm, p.Defs, p.Tables, p.Zones, p.Rules, p.Caps, p.Views, p.Sun, p.Hours) ∧ (e.Args.take i).all (knV nm (p.Tables.map (·.Name)) (p.Zones.map (·.Name)) n) = true)
    (fun t => match t with | .inl r => 0 ≤ r.1 ∧ r.2 = (nm, p.Defs, p.Tables, p.Zones, p.Rules, p.Caps, p.Views, p.Sun, p.Hours) ∧ e.Args.all (knV nm (p.Tables.map (·.Name)) (p.Zones.map (·.Name)) n) = false | .inr v => v = (nm, p.Defs, p.Tables, p.Zones, p.Rules, p.Caps, p.Views, p.Sun, p.Hours) ∧ e.Args.all (knV nm (p.Tables.map (·.Name)) (p.Zones.map (·.Name)) n) = true) e.Args.length (by omega) ⟨rfl, by simp⟩ (fun K' i q h hi => ?_) (fun K' q h => ?_)
   ·obtain ⟨t, g1, g2⟩ := key
    rw [g1, oB]
    cases t with
    | inl r =>
     obtain ⟨r, v⟩ := r
     dsimp only at g2 ⊢
     obtain ⟨g3, rfl, g4⟩ := g2
     rw [oB, dT (show r ≥ 0 from g3), g4]; rfl
    | inr v =>
     dsimp only at g2 ⊢
     obtain ⟨rfl, g4⟩ := g2
     rw [oB, g4]; rfl
   ·obtain ⟨rfl, h⟩ := h
    have hx := getD_mem hi
    have hts : (e.Args.take (i + 1)).all (knV nm (p.Tables.map (·.Name)) (p.Zones.map (·.Name)) n) = ((e.Args.take i).all (knV nm (p.Tables.map (·.Name)) (p.Zones.map (·.Name)) n) && knV nm (p.Tables.map (·.Name)) (p.Zones.map (·.Name)) n (e.Args.getD i default)) := by
     rw [show e.Args.take (i + 1) = e.Args.take i ++ [e.Args.getD i default] by rw [getD_of hi, List.take_append_getElem], List.all_append]; simp
    rw [s_slices_IndexFunc_6_L1, dT (by dsimp only; omega), cT, idx_of hi, oB]
    dsimp only
    rw [missing_is hn ht hz n _ K (by omega) (by omega) (h3 _ hx), oB, w64_succ hi (by omega)]
    dsimp only
    cases hb : knV nm (p.Tables.map (·.Name)) (p.Zones.map (·.Name)) n (e.Args.getD i default) with
    | true =>
     rw [Bool.not_true, cF]
     exact .inr ⟨_, ⟨rfl, by rw [hts, h, hb]; rfl⟩, rfl⟩
    | false =>
     rw [Bool.not_false, cT]
     refine .inl ⟨_, rfl, ?_⟩
     dsimp only
     refine ⟨by omega, rfl, ?_⟩
     rw [← Bool.not_eq_true, List.all_eq_true]
     exact fun hall => by have := hall _ hx; rw [hb] at this; cases this
   ·obtain ⟨rfl, h⟩ := h
    rw [List.take_length] at h
    refine ⟨.inr (nm, p.Defs, p.Tables, p.Zones, p.Rules, p.Caps, p.Views, p.Sun, p.Hours), by rw [s_slices_IndexFunc_6_L1, dF (by simp), cF], ?_⟩
    dsimp only
    exact ⟨rfl, h⟩
  rw [hc, oB]
theorem cloneT {l : List (List UInt8)} (h : l.length ≤ 1000) : s_slices_Clone l = some l := by
 unfold s_slices_Clone nd
 split
 ·rename_i h0
  rw [List.length_eq_zero_iff.1 h0, grd_of (by simp)]; rfl
 ·rw [grd_of (by omega)]; rfl
theorem check_is {p : Plan} {ms : List (List UInt8)} (hd : p.Defs.length ≤ 900) (hm : ms.length ≤ 100) (ht : p.Tables.length ≤ 1000) (hz : p.Zones.length ≤ 1000) {e : Expr} (he : exRight e) :
  s_expr_Check_2 p ms e = some (if knV (ms ++ p.Defs.map (·.Name)) (p.Tables.map (·.Name)) (p.Zones.map (·.Name)) 12 e = true then 0 else 15) := by
 unfold s_expr_Check_2
 have hl : s_expr_Check_2_L1 p KK (0, ms) = some (ms ++ p.Defs.map (·.Name)) := by
  have := det_loop (L := s_expr_Check_2_L1 p) (fun i => ((i : Int), ms ++ (p.Defs.take i).map (·.Name))) p.Defs.length (ms ++ p.Defs.map (·.Name)) (by omega) (fun K i hi => by
   rw [s_expr_Check_2_L1, dT (by dsimp only; omega), cT]
   dsimp only
   rw [idx_of hi, oB, grd_of (by rw [List.length_append, List.length_append, List.length_map, List.length_take, List.length_singleton]; omega), oB, w64_succ hi (by omega), show p.Defs.take (i + 1) = p.Defs.take i ++ [p.Defs.getD i default] by rw [getD_of hi, List.take_append_getElem], List.map_append, List.append_assoc]; rfl) (fun K => by
   rw [s_expr_Check_2_L1, dF (by dsimp only; omega), cF]
   dsimp only
   rw [List.take_length])
  simpa using this
 rw [s_exRight, dT he, oB, Bool.not_true, cF, cloneT (by omega), oB, hl, oB, missing_is (by rw [List.length_append, List.length_map]; omega) ht hz 12 e KK (by omega) (by have := KK_big; omega) he, oB]
 dsimp only
 cases knV (ms ++ p.Defs.map (·.Name)) (p.Tables.map (·.Name)) (p.Zones.map (·.Name)) 12 e <;> rfl
theorem any_is {α : Type} [Inhabited α] {L : Nat → Bool × Int → Option Bool} {l : List α} (f : α → Bool) (hl : l.length ≤ 1000) (b : Bool) (heq : ∀ K i b, i < l.length → L (K + 1) (b, (i : Int)) = L K (b || f (l.getD i default), ((i + 1 : Nat) : Int))) (hend : ∀ K b, L (K + 1) (b, (l.length : Int)) = some b) : L KK (b, 0) = some (b || l.any f) := by
 have := det_loop (L := L) (fun i => (b || (l.take i).any f, (i : Int))) l.length (b || l.any f) (by omega) (fun K i hi => by
  rw [heq K i _ hi, show l.take (i + 1) = l.take i ++ [l.getD i default] by rw [getD_of hi, List.take_append_getElem], List.any_append]
  simp [Bool.or_assoc]) (fun K => by rw [hend, List.take_length])
 simpa using this
theorem rknown_is {p : Plan} {ms : List (List UInt8)} (hd : p.Defs.length ≤ 900) (hm : ms.length ≤ 100) (ht : p.Tables.length ≤ 1000) (hz : p.Zones.length ≤ 1000) : ∀ (n : Nat) (e : Expr) (K : Nat), n ≤ 12 → n < K → levV n e ≤ n →
  s_gr17_known K p ms e = some (knV (ms ++ p.Defs.map (·.Name)) (p.Tables.map (·.Name)) (p.Zones.map (·.Name)) n e)
 | 0, e, K, _, _, h => by simp [levV] at h
 | n + 1, e, K, hn12, hK, h => by
  obtain ⟨K, rfl⟩ : ∃ K', K = K' + 1 := ⟨K - 1, by omega⟩
  obtain ⟨h1, h2, h3⟩ := lev_args (by omega) h
  have h4 := (arV_le e.Op).2
  have all : ∀ b : Bool, s_gr17_known_L4 (s_gr17_known K) p ms e KK (b, 0) = some (b && e.Args.all (knV (ms ++ p.Defs.map (·.Name)) (p.Tables.map (·.Name)) (p.Zones.map (·.Name)) n)) := fun b => by
   have := det_loop (L := s_gr17_known_L4 (s_gr17_known K) p ms e) (fun i => (b && (e.Args.take i).all (knV (ms ++ p.Defs.map (·.Name)) (p.Tables.map (·.Name)) (p.Zones.map (·.Name)) n), (i : Int))) e.Args.length (b && e.Args.all (knV (ms ++ p.Defs.map (·.Name)) (p.Tables.map (·.Name)) (p.Zones.map (·.Name)) n)) (by omega) (fun K' i hi => by
    rw [s_gr17_known_L4, dT (by dsimp only; omega), cT]
    dsimp only
    rw [idx_of hi, oB, rknown_is hd hm ht hz n _ K (by omega) (by omega) (h3 _ (getD_mem hi)), oB, w64_succ hi (by omega), show e.Args.take (i + 1) = e.Args.take i ++ [e.Args.getD i default] by rw [getD_of hi, List.take_append_getElem], List.all_append]
    cases b <;> cases (e.Args.take i).all (knV (ms ++ p.Defs.map (·.Name)) (p.Tables.map (·.Name)) (p.Zones.map (·.Name)) n) <;> simp) (fun K' => by
    rw [s_gr17_known_L4, dF (by dsimp only; omega), cF]
    dsimp only
    rw [List.take_length])
   simpa using this
  have noargs : e.Op = 1 ∨ e.Op = 2 ∨ e.Op = 3 → e.Args.all (knV (ms ++ p.Defs.map (·.Name)) (p.Tables.map (·.Name)) (p.Zones.map (·.Name)) n) = true := fun ho => by
   have : (arV e.Op).1 = 0 := by rcases ho with h | h | h <;> rw [h] <;> rfl
   have : e.Args = [] := List.length_eq_zero_iff.1 (by omega)
   rw [this]; rfl
  rw [s_gr17_known, knV]
  by_cases o1 : e.Op = 1
  ·have l1 := any_is (L := s_gr17_known_L1 p e) (l := p.Defs) (fun d => decide (d.Name = e.S)) (by omega) (decide (e.S ∈ ms)) (fun K' i b hi => by
    rw [s_gr17_known_L1, dT (by dsimp only; omega), cT]
    dsimp only
    rw [idx_of hi, oB, w64_succ hi (by omega)]
    cases b <;> rfl) (fun K' b => by rw [s_gr17_known_L1, dF (by simp), cF])
   rw [dT o1, cT, if_pos o1, rhas_is (by omega), oB, l1, oB, oB, all, oB, noargs (.inl o1), Bool.and_true]
   congr 1
   rw [Bool.eq_iff_iff]
   simp only [Bool.or_eq_true, decide_eq_true_eq, List.any_eq_true, List.mem_append, List.mem_map]
  rw [dF o1, cF, if_neg o1]
  by_cases o2 : e.Op = 2
  ·have l1 := any_is (L := s_gr17_known_L2 p e) (l := p.Tables) (fun d => decide (d.Name = e.S)) (by omega) false (fun K' i b hi => by
    rw [s_gr17_known_L2, dT (by dsimp only; omega), cT]
    dsimp only
    rw [idx_of hi, oB, w64_succ hi (by omega)]
    cases b <;> rfl) (fun K' b => by rw [s_gr17_known_L2, dF (by simp), cF])
   rw [dT o2, cT, if_pos o2, l1, oB, oB, all, oB, noargs (.inr (.inl o2)), Bool.and_true]
   congr 1
   rw [Bool.eq_iff_iff]
   simp only [Bool.or_eq_true, decide_eq_true_eq, List.any_eq_true, List.mem_map, Bool.false_eq_true, false_or]
  rw [dF o2, cF, if_neg o2]
  by_cases o3 : e.Op = 3
  ·have l1 := any_is (L := s_gr17_known_L3 p e) (l := p.Zones) (fun d => decide (d.Name = e.S)) (by omega) false (fun K' i b hi => by
    rw [s_gr17_known_L3, dT (by dsimp only; omega), cT]
    dsimp only
    rw [idx_of hi, oB, w64_succ hi (by omega)]
    cases b <;> rfl) (fun K' b => by rw [s_gr17_known_L3, dF (by simp), cF])
   rw [dT o3, cT, if_pos o3, l1, oB, oB, all, oB, noargs (.inr (.inr o3)), Bool.and_true]
   congr 1
   rw [Bool.eq_iff_iff]
   simp only [Bool.or_eq_true, decide_eq_true_eq, List.any_eq_true, List.mem_map, Bool.false_eq_true, false_or]
  rw [dF o3, cF, if_neg o3, oB, all, oB, Bool.true_and]
theorem rnamed_is {p : Plan} {ms : List Entry} {df : List Int} (hd : p.Defs.length ≤ 1000) (hm : ms.length ≤ 1000) (hl : df.length = p.Defs.length) (s : List UInt8) : s_gr17_named p ms df s = some (lookV p.Defs ms (fun k => df.getD k default) s) := by
 have k1 := for_all (L := s_gr17_named_L1 ms s) (s := (0 : Int)) (fun i a => a = (i : Int) ∧ measV (ms.take i) s = none) (fun t => match t with | .inl r => measV ms s = some r | .inr _ => measV ms s = none) ms.length (by omega) ⟨rfl, rfl⟩ (fun K i a h hi => ?_) (fun K a h => ?_)
 ·have k2 := for_all (L := s_gr17_named_L2 p df s) (s := (0 : Int)) (fun i a => a = (i : Int) ∧ ∀ j, j < i → nameAt p.Defs j ≠ s) (fun t => match t with | .inl r => ∃ k, defIx p.Defs s = some k ∧ r = df.getD k default | .inr _ => defIx p.Defs s = none) p.Defs.length (by omega) ⟨rfl, fun j hj => by omega⟩ (fun K i a h hi => ?_) (fun K a h => ?_)
  ·obtain ⟨t1, g1, g2⟩ := k1
   obtain ⟨t2, h1, h2⟩ := k2
   unfold s_gr17_named lookV
   rw [g1, oB]
   cases t1 with
   | inl r => dsimp only at g2 ⊢; rw [g2]
   | inr u =>
    dsimp only at g2 ⊢
    rw [g2, h1, oB]
    cases t2 with
    | inl r => dsimp only at h2 ⊢; obtain ⟨k, hk, rfl⟩ := h2; rw [hk]
    | inr u => dsimp only at h2 ⊢; rw [h2]
  ·obtain ⟨rfl, h⟩ := h
   rw [s_gr17_named_L2, dT (by omega), cT, dT (by omega), oB, cT, idx_of hi, oB, w64_succ hi (by omega)]
   by_cases e : nameAt p.Defs i = s
   ·rw [dT e, cT, idx_of (by omega), oB]
    refine .inl ⟨_, rfl, ?_⟩
    dsimp only
    refine ⟨i, ?_, rfl⟩
    unfold defIx
    have hx := find_at (p := fun j => decide (nameAt p.Defs j = s)) (l := List.range p.Defs.length) (i := i) (by simpa using hi) (by rw [range_getD hi]; simpa using e) fun j hj => by
     rw [range_getD (by omega), decide_eq_false_iff_not]; exact h j hj
    rw [hx, range_getD hi]
   ·rw [dF e, cF]
    refine .inr ⟨_, ⟨rfl, fun j hj => ?_⟩, rfl⟩
    by_cases hji : j = i
    ·subst hji; exact e
    ·exact h j (by omega)
  ·obtain ⟨rfl, h⟩ := h
   refine ⟨.inr (), by rw [s_gr17_named_L2, dF (by omega), cF, oB, cF], ?_⟩
   dsimp only
   cases hx : defIx p.Defs s with
   | none => rfl
   | some k => exact absurd (defIx_some hx).2 (h k (defIx_some hx).1)
 ·obtain ⟨rfl, h⟩ := h
  have ht : ms.take (i + 1) = ms.take i ++ [ms.getD i default] := by rw [getD_of hi, List.take_append_getElem]
  rw [s_gr17_named_L1, dT (by omega), cT, idx_of hi, oB, w64_succ hi (by omega)]
  by_cases e : (ms.getD i default).Name = s
  ·rw [dT e, cT, oB]
   refine .inl ⟨_, rfl, ?_⟩
   dsimp only
   unfold measV at h ⊢
   have hf := find_at (p := fun m : Entry => decide (m.Name = s)) (l := ms) (i := i) hi (dT e) fun j hj => by
    cases hb : decide ((ms.getD j default).Name = s) with
    | false => rfl
    | true =>
     exfalso
     rw [Option.map_eq_none_iff, List.find?_eq_none] at h
     refine h (ms.getD j default) ?_ hb
     rw [getD_of (by omega)]
     exact List.mem_take_iff_getElem.2 ⟨j, by omega, rfl⟩
   rw [hf]; rfl
  ·rw [dF e, cF]
   refine .inr ⟨_, ⟨rfl, ?_⟩, rfl⟩
   rw [ht, measV_snoc, h]
   dsimp only
   rw [if_neg e]
 ·obtain ⟨rfl, h⟩ := h
  rw [List.take_length] at h
  exact ⟨.inr (), by rw [s_gr17_named_L1, dF (by omega), cF], h⟩
theorem rrow_is {p : Plan} (hp : smallT p.Tables) (s k : List UInt8) : s_gr17_row p s k = some (rowV p.Tables s k) := by
 have inner : ∀ t : Table, t.Rows.length ≤ 1000 → ∃ r, s_gr17_row_L2 k t KK 0 = some r ∧ (match r with | .inl n => (t.Rows.find? fun r => decide (r.Name = k)).map (·.N) = some n | .inr _ => t.Rows.find? (fun r => decide (r.Name = k)) = none) := fun t ht => by
  refine for_all (L := s_gr17_row_L2 k t) (s := (0 : Int)) (fun i a => a = (i : Int) ∧ ∀ j, j < i → decide ((t.Rows.getD j default).Name = k) = false) (fun r => match r with | .inl n => (t.Rows.find? fun r => decide (r.Name = k)).map (·.N) = some n | .inr _ => t.Rows.find? (fun r => decide (r.Name = k)) = none) t.Rows.length (by omega) ⟨rfl, fun j hj => by omega⟩ (fun K i a h hi => ?_) (fun K a h => ?_)
  ·obtain ⟨rfl, h⟩ := h
   rw [s_gr17_row_L2, dT (by omega), cT, idx_of hi, oB, w64_succ hi (by omega)]
   cases hb : decide ((t.Rows.getD i default).Name = k) with
   | true =>
    rw [cT, oB]
    refine .inl ⟨_, rfl, ?_⟩
    dsimp only
    rw [find_at (p := fun r : Entry => decide (r.Name = k)) hi hb h]; rfl
   | false =>
    rw [cF]
    refine .inr ⟨_, ⟨rfl, fun j hj => ?_⟩, rfl⟩
    by_cases e : j = i
    ·subst e; exact hb
    ·exact h j (by omega)
  ·obtain ⟨rfl, h⟩ := h
   refine ⟨.inr (), by rw [s_gr17_row_L2, dF (by omega), cF], ?_⟩
   dsimp only
   refine List.find?_eq_none.2 fun r hr => ?_
   obtain ⟨j, hj, rfl⟩ := mem_getD hr
   rw [h j hj]; simp
 have key := for_all (L := s_gr17_row_L1 p s k) (s := (0 : Int)) (fun i a => a = (i : Int) ∧ ∀ j, j < i → decide ((p.Tables.getD j default).Name = s) = false) (fun r => match r with | .inl n => n = rowV p.Tables s k | .inr _ => rowV p.Tables s k = 0) p.Tables.length (by have := hp.1; omega) ⟨rfl, fun j hj => by omega⟩ (fun K i a h hi => ?_) (fun K a h => ?_)
 ·obtain ⟨t, h1, h2⟩ := key
  unfold s_gr17_row
  rw [h1, oB]
  cases t with
  | inl r => dsimp only at h2 ⊢; rw [h2]
  | inr u => dsimp only at h2 ⊢; rw [h2]
 ·obtain ⟨rfl, h⟩ := h
  have := hp.1
  rw [s_gr17_row_L1, dT (by omega), cT, idx_of hi, oB, w64_succ hi (by omega)]
  cases hb : decide ((p.Tables.getD i default).Name = s) with
  | true =>
   obtain ⟨r, g1, g2⟩ := inner _ (hp.2 _ (getD_mem hi))
   rw [Bool.not_true, cF, oB, g1, oB]
   have hf := find_at (p := fun t : Table => decide (t.Name = s)) hi hb h
   cases r with
   | inl n =>
    dsimp only at g2 ⊢
    refine .inl ⟨_, rfl, ?_⟩
    dsimp only
    unfold rowV
    rw [hf]
    dsimp only
    obtain ⟨x, hx, rfl⟩ := Option.map_eq_some_iff.1 g2
    rw [hx]
   | inr u =>
    dsimp only at g2 ⊢
    refine .inl ⟨_, rfl, ?_⟩
    dsimp only
    unfold rowV
    rw [hf]
    dsimp only
    rw [g2]
  | false =>
   rw [Bool.not_false, cT]
   refine .inr ⟨_, ⟨rfl, fun j hj => ?_⟩, rfl⟩
   by_cases e : j = i
   ·subst e; exact hb
   ·exact h j (by omega)
 ·obtain ⟨rfl, h⟩ := h
  refine ⟨.inr (), by rw [s_gr17_row_L1, dF (by omega), cF], ?_⟩
  dsimp only
  unfold rowV
  rw [List.find?_eq_none.2 fun t ht => by
   obtain ⟨j, hj, rfl⟩ := mem_getD ht
   rw [h j hj]; simp]
theorem rbit_is (b : Bool) : s_gr17_bit b = some (bitI b) := by cases b <;> rfl
theorem floor_is (a b : Int) : s_gr17_Floor a b = some (w64 (Int.fdiv a b)) := by
 rw [← quotient_is]
 unfold s_gr17_Floor s_expr_quotient
 by_cases hb : b = 0
 ·simp [hb]
 ·simp only [hb, decide_false, cF, ne_eq, not_false_eq_true, grdT, oB]
  by_cases h0 : Int.tmod a b = 0
  ·simp [h0]
  ·have hs : (decide (a < 0)) = decide (Int.tmod a b < 0) := by
    by_cases ha : a < 0
    ·have h1 := Int.tmod_nonneg b (a := -a) (by omega)
     rw [Int.neg_tmod] at h1
     rw [dT ha, dT (by omega)]
    ·have h1 := Int.tmod_nonneg b (a := a) (by omega)
     rw [dF ha, dF (by omega)]
   simp only [h0, decide_false, Bool.not_false, cT, hs, oB]
theorem rtwo_is (op a b : Int) : s_gr17_two op a b = some (binI op a b) := by
 unfold s_gr17_two binI
 simp only [floor_is, rbit_is, oB]
 by_cases h4 : op = 4
 ·simp [h4]
 by_cases h5 : op = 5
 ·simp [h5]
 by_cases h6 : op = 6
 ·simp [h6]
 by_cases h7 : op = 7
 ·simp [h7]
 by_cases h8 : op = 8
 ·by_cases hb : b = 0
  ·simp [h8, hb]
  ·simp only [h8, hb]
   have : w64 (a - w64 (b * w64 (Int.fdiv a b))) = w64 (Int.fmod a b) := by
    rw [w64_subR, Int.mul_comm]
    obtain ⟨k, hk⟩ := w64_ex (Int.fdiv a b)
    have h := Int.mul_fdiv_add_fmod a b
    rw [hk, Int.add_mul, show a - (Int.fdiv a b * b + 18446744073709551616 * k * b) = Int.fmod a b + 18446744073709551616 * (-(k * b)) by
     rw [Int.mul_comm (Int.fdiv a b) b, Int.mul_assoc]; omega, w64_shift]
   simp [this]
 by_cases h10 : op = 10
 ·simp [h10]
 by_cases h11 : op = 11
 ·simp [h11]
 by_cases h12 : op = 12
 ·simp [h12]
 by_cases h13 : op = 13
 ·by_cases ha : a = 0 <;> simp [h13, ha, bitI]
 ·by_cases ha : a = 0 <;> simp [h4, h5, h6, h7, h8, h10, h11, h12, h13, ha, bitI]
theorem rvalue_is {p : Plan} (hp : smallT p.Tables) (hd : p.Defs.length ≤ 1000) {ms : List Entry} (hm : ms.length ≤ 1000) {zs : List (List UInt8)} (hz : zs.length ≤ 1000) {df : List Int} (hl : df.length = p.Defs.length) : ∀ (n : Nat) (e : Expr) (K : Nat), n ≤ 12 → n < K → levV n e ≤ n →
  s_gr17_value K p ms zs df e = some (valV (lookV p.Defs ms fun k => df.getD k default) (rowV p.Tables) (fun s => decide (s ∈ zs)) n e)
 | 0, e, K, _, _, h => by simp [levV] at h
 | n + 1, e, K, hn, hK, h => by
  obtain ⟨K, rfl⟩ : ∃ K', K = K' + 1 := ⟨K - 1, by omega⟩
  obtain ⟨h1, h2, h3⟩ := lev_args (by omega) h
  have ih : ∀ i, i < e.Args.length → s_gr17_value K p ms zs df (e.Args.getD i default) = some (valV (lookV p.Defs ms fun k => df.getD k default) (rowV p.Tables) (fun s => decide (s ∈ zs)) n (e.Args.getD i default)) := fun i hi => rvalue_is hp hd hm hz hl n _ K (by omega) (by omega) (h3 _ (getD_mem hi))
  rw [s_gr17_value, valV, rnamed_is hd hm hl, rrow_is hp, rhas_is (by omega)]
  by_cases o0 : e.Op = 0
  ·rw [dT o0, if_pos o0]; rfl
  by_cases o1 : e.Op = 1
  ·rw [dF o0, dT o1, if_neg o0, if_pos o1]; rfl
  by_cases o2 : e.Op = 2
  ·rw [dF o0, dF o1, dT o2, if_neg o0, if_neg o1, if_pos o2]; rfl
  by_cases o3 : e.Op = 3
  ·rw [dF o0, dF o1, dF o2, dT o3, if_neg o0, if_neg o1, if_neg o2, if_pos o3]
   simp only [rbit_is, oB, cT, cF]
  rw [dF o0, dF o1, dF o2, dF o3, if_neg o0, if_neg o1, if_neg o2, if_neg o3, cF, cF, cF, cF]
  have ha1 : 1 ≤ e.Args.length := by
   have : 1 ≤ (arV e.Op).1 := by
    unfold arV
    rw [if_neg (by rintro (h | h | h | h) <;> contradiction)]
    repeat' split
    all_goals simp
   omega
  rw [show idx e.Args 0 = some (e.Args.getD 0 default) from idx_of ha1, oB, ih 0 ha1, oB]
  by_cases o9 : e.Op = 9
  ·rw [dT o9, cT, if_pos o9]
  rw [dF o9, cF, if_neg o9]
  by_cases o15 : e.Op = 15
  ·rw [dT o15, cT, if_pos o15, rbit_is, oB]
  rw [dF o15, cF, if_neg o15]
  by_cases o16 : e.Op = 16
  ·have ha : (arV e.Op).1 = 3 := by rw [o16]; rfl
   rw [dT o16, cT, if_pos o16]
   by_cases hv : valV (lookV p.Defs ms fun k => df.getD k default) (rowV p.Tables) (fun s => decide (s ∈ zs)) n (e.Args.getD 0 default) = 0
   ·rw [dT hv, if_pos hv, Bool.not_true, cF, oB, show idx e.Args 2 = some (e.Args.getD 2 default) from idx_of (i := 2) (by omega), oB, ih 2 (by omega), oB]
   ·rw [dF hv, if_neg hv, Bool.not_false, cT, oB, show idx e.Args 1 = some (e.Args.getD 1 default) from idx_of (i := 1) (by omega), oB, ih 1 (by omega), oB]
  have ha : (arV e.Op).1 = 2 := by
   unfold arV
   rw [if_neg (by rintro (h | h | h | h) <;> contradiction), if_neg (by rintro (h | h) <;> contradiction), if_neg o16]
  rw [dF o16, cF, if_neg o16, show idx e.Args 1 = some (e.Args.getD 1 default) from idx_of (i := 1) (by omega), oB, ih 1 (by omega), oB, rtwo_is, oB]
theorem rall_ok {p : Plan} {ms : List Entry} {zs : List (List UInt8)} (h : In p ms zs) (hl : ∀ d ∈ p.Defs, ∃ n, n ≤ 1000 ∧ lvl n d.Body ∧ cnt d.Body ≤ 1000) (hO : Okay p.Defs) {V : Nat → Int} (hV : Sol p ms zs V) : ∃ out, s_gr17_All p ms zs = some out ∧ out.length = p.Defs.length ∧ ∀ k, k < p.Defs.length → out.getD k default = V k := by
 have hN := h.defs
 obtain ⟨r, hr, hr1, hr2⟩ := refOrder_is h.defs h.ok hl
 obtain ⟨o, ho, ht, hol⟩ := hr2 hO
 obtain ⟨c1, c2, c3⟩ := r
 dsimp only at ho; subst ho
 have h3 : c3 = 0 := hr1.2 hO
 subst h3
 have hnl : (nInts o).length = p.Defs.length := by unfold nInts; rw [List.length_map, hol]
 have key := for_all (L := s_gr17_All_L1 p ms zs (nInts o, c2, 0)) (s := ((0 : Int), List.replicate p.Defs.length (0 : Int)))
  (fun j q => q.1 = (j : Int) ∧ q.2.length = p.Defs.length ∧ ∀ k, k < p.Defs.length → q.2.getD k default = if k ∈ o.take j then V k else 0)
  (fun out => out.length = p.Defs.length ∧ ∀ k, k < p.Defs.length → out.getD k default = V k) p.Defs.length (by omega) ⟨rfl, by simp, fun k hk => by dsimp only; rw [getD_rep hk]; simp⟩ (fun K j q hq hj => .inr ?_) (fun K q hq => ?_)
 ·obtain ⟨out, k1, k2⟩ := key
  refine ⟨out, ?_, k2⟩
  unfold s_gr17_All
  rw [grd_of ⟨by omega, by omega, by omega⟩, oB, hr, oB, dT rfl, Bool.not_true, cF, toNat_nat, k1, oB]
 ·obtain ⟨a, out⟩ := q
  obtain ⟨e1, hout, hval⟩ := hq
  dsimp only at e1 hout hval; subst e1
  have hjo : j < o.length := by omega
  have hjn : j < (nInts o).length := by omega
  have hget : (nInts o).getD j default = ((o.getD j default : Nat) : Int) := by
   unfold nInts
   rw [getD_of (by simpa using hjo), getD_of hjo, List.getElem_map]
  have hx : o.getD j default < p.Defs.length := ht.lt _ (getD_mem hjo)
  have hxo : o.getD j default < out.length := by omega
  have hts : o.take (j + 1) = o.take j ++ [o.getD j default] := by rw [getD_of hjo, List.take_append_getElem]
  rw [s_gr17_All_L1, dT (by dsimp only; omega), cT]
  dsimp only
  rw [idx_of hjn, oB, hget, idx_of hx, oB, s_Right17, oB, w64_succ hj (by omega)]
  have hrhs : V (o.getD j default) = if exRight (p.Defs.getD (o.getD j default) default).Body then valV (lookV p.Defs ms fun k => out.getD k default) (rowV p.Tables) (fun s => decide (s ∈ zs)) 12 (p.Defs.getD (o.getD j default) default).Body else 0 := by
   rw [hV _ hx]
   unfold rhs
   split
   ·refine valV_congr 12 _ fun s hs => ?_
    unfold lookV
    cases measV ms s with
    | some v => rfl
    | none =>
     cases hix : defIx p.Defs s with
     | none => rfl
     | some k =>
      obtain ⟨g1, g2⟩ := defIx_some hix
      have hu : Uses p.Defs (o.getD j default) k := ⟨hx, g1, by rw [g2]; exact hs⟩
      dsimp only
      rw [hval k g1, if_pos (ht.dep j hjo k hu)]
   ·rfl
  have fin : ∀ out' : List Int, out'.length = p.Defs.length → (∀ k, k < p.Defs.length → out'.getD k default = if k = o.getD j default then V (o.getD j default) else out.getD k default) → (((j + 1 : Nat) : Int) = ((j + 1 : Nat) : Int) ∧ out'.length = p.Defs.length ∧ ∀ k, k < p.Defs.length → out'.getD k default = if k ∈ o.take (j + 1) then V k else 0) := fun out' h1 h2 => ⟨rfl, h1, fun k hk => by
   rw [h2 k hk, hts]
   by_cases e : k = o.getD j default
   ·subst e
    rw [if_pos rfl, if_pos (List.mem_append_right _ (List.mem_singleton.2 rfl))]
   ·rw [if_neg e, hval k hk]
    simp only [List.mem_append, List.mem_singleton, e, or_false]⟩
  by_cases hright : exRight (p.Defs.getD (o.getD j default) default).Body
  ·rw [if_pos hright] at hrhs
   rw [dT hright, cT, oB, rvalue_is h.tabs (by omega) h.ms h.zs hout 12 _ KK (by omega) (by have := KK_big; omega) hright, oB, grd_of ⟨by omega, by omega⟩, oB, oB, oB, toNat_nat, ← hrhs]
   exact ⟨_, fin _ (by rw [List.length_set]; exact hout) (fun k hk => by rw [getD_set hxo]), rfl⟩
  ·rw [if_neg hright] at hrhs
   rw [dF hright, cF, oB]
   refine ⟨_, fin out hout (fun k hk => ?_), rfl⟩
   by_cases e : k = o.getD j default
   ·rw [if_pos e, e, hrhs, hval _ hx, hrhs]; split <;> rfl
   ·rw [if_neg e]
 ·obtain ⟨a, out⟩ := q
  obtain ⟨e1, hout, hval⟩ := hq
  dsimp only at e1 hout hval; subst e1
  refine ⟨out, by rw [s_gr17_All_L1, dF (by dsimp only; omega), cF], hout, fun k hk => ?_⟩
  rw [hval k hk, List.take_of_length_le (by omega), if_pos (topo_all ht hol hk)]
theorem rall_bad {p : Plan} {ms : List Entry} {zs : List (List UInt8)} (h : In p ms zs) (hl : ∀ d ∈ p.Defs, ∃ n, n ≤ 1000 ∧ lvl n d.Body ∧ cnt d.Body ≤ 1000) (hO : ¬ Okay p.Defs) : s_gr17_All p ms zs = some (List.replicate p.Defs.length 0) := by
 have hN := h.defs
 obtain ⟨r, hr, hr1, hr2⟩ := refOrder_is h.defs h.ok hl
 have h3 : ¬ r.2.2 = 0 := fun h => hO (hr1.1 h)
 unfold s_gr17_All
 rw [grd_of ⟨by omega, by omega, by omega⟩, oB, hr, oB, dF h3, Bool.not_false, cT, toNat_nat]
theorem ints_is {a b : List Int} (ha : a.length < 2 ^ 62) (h : a = b) : s_gl17_ints a b = some true := by
 subst h
 unfold s_gl17_ints
 rw [dT rfl, Bool.not_true, cF]
 obtain ⟨t, h1, rfl⟩ := for_all (L := s_gl17_ints_L1 a a) (s := (0 : Int)) (fun i q => q = (i : Int)) (fun t => t = .inr ()) a.length (by omega) rfl (fun K i q h hi => .inr (by
  subst h
  rw [s_gl17_ints_L1, dT (by omega), cT, idx_of hi, oB, oB, dT rfl, Bool.not_true, cF, w64_succ hi (by omega)]
  exact ⟨_, rfl, rfl⟩)) (fun K q h => by
  subst h
  exact ⟨_, by rw [s_gl17_ints_L1, dF (by omega), cF], rfl⟩)
 rw [h1]; rfl
theorem tells_L1 {ms : List Entry} (hm : ms.length ≤ 100) : s_gl17_ExprTells_L1 ms KK (0, []) = some (ms.map (·.Name)) := by
 have := det_loop (L := s_gl17_ExprTells_L1 ms) (fun i => ((i : Int), (ms.take i).map (·.Name))) ms.length (ms.map (·.Name)) (by omega) (fun K i hi => by
  rw [s_gl17_ExprTells_L1, dT (by dsimp only; omega), cT]
  dsimp only
  rw [idx_of hi, oB, grd_of (by rw [List.length_append, List.length_map, List.length_take, List.length_singleton]; omega), oB, w64_succ hi (by omega), show ms.take (i + 1) = ms.take i ++ [ms.getD i default] by rw [getD_of hi, List.take_append_getElem], List.map_append]; rfl) (fun K => by
  rw [s_gl17_ExprTells_L1, dF (by dsimp only; omega), cF]
  dsimp only
  rw [List.take_length])
 simpa using this
theorem tells_true (p : Plan) (ms : List Entry) (zs : List (List UInt8)) (e : Expr) (hg : ∀ d ∈ p.Defs, ∀ k ∈ namesL d.Body, k.length ≤ 9223372036854775807) : s_gl17_ExprTells p ms zs e = some true := by
 obtain ⟨b, hb, hbs⟩ := few_is p
 unfold s_gl17_ExprTells
 rw [small_true, oB, hb, oB]
 cases b with
 | false => rfl
 | true =>
  have hf := hbs rfl
  rw [Bool.not_true, cF]
  by_cases hm : (ms.length : Int) > 20
  ·rw [dT hm]; rfl
  rw [dF hm, cF]
  by_cases hz : (zs.length : Int) > 20
  ·rw [dT hz]; rfl
  rw [dF hz, cF]
  obtain ⟨lt, hlt, _⟩ := light_is e
  rw [hlt, oB]
  cases lt with
  | false => rfl
  | true =>
   rw [Bool.not_true, oB, cF]
   have hI : In p ms zs := few_In hf hg (by omega) (by omega)
   have hN := hf.defs
   have hfl := few_lvl hf
   rw [tells_L1 (by omega), oB, s_exRight, oB, s_Right17, oB]
   have hchk : ((bif (decide (exRight e) == decide (exRight e)) then (s_expr_Check_2 p (ms.map (·.Name)) e).bind fun y6 => (s_gr17_Check p (ms.map (·.Name)) e).bind fun y7 => some (decide (y6 = y7)) else some false) : Option Bool) = some true := by
    rw [show (decide (exRight e) == decide (exRight e)) = true by cases decide (exRight e) <;> rfl, cT]
    by_cases he : exRight e
    ·have hc := check_is (p := p) (ms := ms.map (·.Name)) (by omega) (by rw [List.length_map]; omega) (by have := hf.tabs; omega) (by have := hf.zones; omega) he
     rw [hc, oB]
     unfold s_gr17_Check
     rw [s_Right17, dT he, oB, Bool.not_true, cF, rknown_is (p := p) (ms := ms.map (·.Name)) (by omega) (by rw [List.length_map]; omega) (by have := hf.tabs; omega) (by have := hf.zones; omega) 12 e KK (by omega) (by have := KK_big; omega) he, oB]
     cases knV (ms.map (·.Name) ++ p.Defs.map (·.Name)) (p.Tables.map (·.Name)) (p.Zones.map (·.Name)) 12 e <;> rfl
    ·unfold s_expr_Check_2 s_gr17_Check
     rw [s_exRight, s_Right17, dF he]; rfl
   rw [hchk, oB, cT, cT]
   have hlk : ∀ (df : List Int) (V : Nat → Int), (∀ k, k < p.Defs.length → df.getD k default = V k) → lookV p.Defs ms (fun k => df.getD k default) = lookV p.Defs ms V := fun df V h => by
    funext s; exact lookV_congr h s
   by_cases hO : Okay p.Defs
   ·obtain ⟨V, hV⟩ := sol_ex hI hO
    obtain ⟨out, ho1, ho2, ho3⟩ := all_ok hI hO hV
    obtain ⟨out', hq1, hq2, hq3⟩ := rall_ok hI hfl hO hV
    have heq : out = out' := List.ext_getElem (by omega) fun i h1 h2 => by
     have a := ho3 i (by omega); have b := hq3 i (by omega)
     rw [getD_of h1] at a; rw [getD_of h2] at b; rw [a, b]
    have hev : ∃ v, s_expr_Eval_2 p ms zs e = some v ∧ s_gr17_Eval p ms zs e = some v := by
     unfold s_gr17_Eval
     rw [s_Right17, oB]
     by_cases he : exRight e
     ·refine ⟨_, eval_ok hI he hO hV, ?_⟩
      rw [dT he, Bool.not_true, cF, hq1, oB, rvalue_is hI.tabs (by omega) hI.ms hI.zs hq2 12 e KK (by omega) (by have := KK_big; omega) he, oB, hlk out' V hq3]
     ·exact ⟨0, eval_wrong he, by rw [dF he]; rfl⟩
    obtain ⟨v, v1, v2⟩ := hev
    rw [v1, oB, v2, oB, dT rfl, cT, ho1, oB, hq1, oB, ints_is (by omega) heq]; rfl
   ·have hrl : (List.replicate p.Defs.length (0 : Int)).length = p.Defs.length := by simp
    have hev : ∃ v, s_expr_Eval_2 p ms zs e = some v ∧ s_gr17_Eval p ms zs e = some v := by
     unfold s_gr17_Eval
     rw [s_Right17, oB]
     by_cases he : exRight e
     ·refine ⟨_, eval_bad hI he hO, ?_⟩
      rw [dT he, Bool.not_true, cF, rall_bad hI hfl hO, oB, rvalue_is hI.tabs (by omega) hI.ms hI.zs hrl 12 e KK (by omega) (by have := KK_big; omega) he, oB]
      refine congrArg some (valV_congr 12 e fun s _ => ?_)
      unfold lookV
      cases measV ms s with
      | some v => rfl
      | none =>
       cases hix : defIx p.Defs s with
       | none => rfl
       | some k => exact getD_rep (defIx_some hix).1
     ·exact ⟨0, eval_wrong he, by rw [dF he]; rfl⟩
    obtain ⟨v, v1, v2⟩ := hev
    rw [v1, oB, v2, oB, dT rfl, cT, all_bad hI hO, oB, rall_bad hI hfl hO, oB, ints_is (by omega) rfl]; rfl
end Go.Proofs.YtconjkgifdfhdabGreat
