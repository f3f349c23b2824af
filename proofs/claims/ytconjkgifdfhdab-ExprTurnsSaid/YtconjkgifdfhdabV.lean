/- ExprTurns in plain Lean. -/
import Derived.Test.YtconjkgifdfhdabX
set_option linter.all false
set_option maxRecDepth 100000
namespace Go.Proofs.Ytconjkgifdfhdab
open Go Go.RowKit Go.Eng Go.EV Go.Grf
variable [Fuel]
theorem find_app {α : Type} {f : α → Bool} {a b : List α} (h : ∀ x ∈ b, f x = true → ∃ y ∈ a, f y = true) : (a ++ b).find? f = a.find? f := by
 rw [List.find?_append]
 cases ha : a.find? f with
 | some x => rfl
 | none =>
  rw [Option.none_or]
  refine List.find?_eq_none.2 fun x hx hf => ?_
  obtain ⟨y, hy, hfy⟩ := h x hx hf
  exact List.find?_eq_none.1 ha y hy hfy
theorem measV_app {a b : List Entry} (h : ∀ x ∈ b, ∃ y ∈ a, y.Name = x.Name) : measV (a ++ b) = measV a := by
 funext s
 unfold measV
 rw [find_app fun x hx hf => by
  obtain ⟨y, hy, e⟩ := h x hx
  exact ⟨y, hy, by rw [e]; exact hf⟩]
theorem rowV_app {a b : List Table} (h : ∀ x ∈ b, ∃ y ∈ a, y.Name = x.Name) : rowV (a ++ b) = rowV a := by
 funext s k
 unfold rowV
 rw [find_app fun x hx hf => by
  obtain ⟨y, hy, e⟩ := h x hx
  exact ⟨y, hy, by rw [e]; exact hf⟩]
theorem mem_set' {α : Type} {l : List α} {i : Nat} {v x : α} (h : x ∈ l.set i v) : x ∈ l ∨ x = v := List.mem_or_eq_of_mem_set h
theorem turns_L1 {ms : List Entry} (hm : ms.length ≤ 1000) : ∃ rest, s_greenbeltlaw17_ExprTurns_L1 KK ((ms.length : Int), ms ++ ms) = some (ms ++ rest) ∧ rest.length = ms.length ∧ ∀ x ∈ rest, ∃ y ∈ ms, y.Name = x.Name := by
 have key := for_all (L := s_greenbeltlaw17_ExprTurns_L1) (s := ((ms.length : Int), ms ++ ms)) (fun i q => q.1 = ((ms.length + i : Nat) : Int) ∧ ∃ rest, q.2 = ms ++ rest ∧ rest.length = ms.length ∧ ∀ x ∈ rest, ∃ y ∈ ms, y.Name = x.Name)
  (fun t => ∃ rest, t = ms ++ rest ∧ rest.length = ms.length ∧ ∀ x ∈ rest, ∃ y ∈ ms, y.Name = x.Name) ms.length (by omega) ⟨rfl, ms, rfl, rfl, fun x hx => ⟨x, hx, rfl⟩⟩ (fun K i q h hi => .inr ?_) (fun K q h => ?_)
 ·obtain ⟨t, h1, rest, rfl, h2⟩ := key
  exact ⟨rest, h1, h2⟩
 ·obtain ⟨a, l⟩ := q
  obtain ⟨e1, rest, e2, h1, h2⟩ := h
  dsimp only at e1 e2; subst e1 e2
  have hil : ms.length + i < (ms ++ rest).length := by rw [List.length_append]; omega
  rw [s_greenbeltlaw17_ExprTurns_L1, decide_eq_true (by dsimp only; omega), cond_true]
  dsimp only
  have hg : grd (0 ≤ ((ms.length + i : Nat) : Int) ∧ ((ms.length + i : Nat) : Int) < ((ms ++ rest).length : Nat)) = some () := grd_of ⟨by omega, by omega⟩
  rw [hg, Option.bind_some, Option.bind_some, Option.bind_some, Option.bind_some, toNat_nat, w64_succ' (by omega)]
  have hgx : (ms ++ rest).getD (ms.length + i) default = rest.getD i default := by
   rw [List.getD_eq_getElem?_getD, List.getD_eq_getElem?_getD, List.getElem?_append_right (by omega)]; simp
  rw [hgx]
  refine ⟨(((ms.length + (i + 1) : Nat) : Int), ms ++ rest.set i ⟨(rest.getD i default).Name, w64 ((rest.getD i default).N + 1)⟩), ⟨rfl, _, rfl, by rw [List.length_set]; exact h1, fun x hx => ?_⟩, ?_⟩
  ·rcases mem_set' hx with hx | rfl
   ·exact h2 x hx
   ·exact h2 (rest.getD i default) (getD_mem (by omega))
  ·rw [List.set_append_right _ _ (by omega), show ms.length + i - ms.length = i by omega]; rfl
 ·obtain ⟨a, l⟩ := q
  obtain ⟨e1, rest, e2, h1, h2⟩ := h
  dsimp only at e1 e2; subst e1 e2
  exact ⟨_, by rw [s_greenbeltlaw17_ExprTurns_L1, decide_eq_false (by dsimp only; rw [List.length_append]; omega), cond_false], rest, rfl, h1, h2⟩
theorem turns_L2 {ts : List Table} (hm : ts.length ≤ 500) (hr : ∀ t ∈ ts, t.Rows.length ≤ 1000) : ∃ rest, s_greenbeltlaw17_ExprTurns_L2 KK ((ts.length : Int), ts ++ ts) = some (ts ++ rest) ∧ rest.length = ts.length ∧ ∀ x ∈ rest, x.Rows.length ≤ 1000 ∧ ∃ y ∈ ts, y.Name = x.Name := by
 have key := for_all (L := s_greenbeltlaw17_ExprTurns_L2) (s := ((ts.length : Int), ts ++ ts)) (fun i q => q.1 = ((ts.length + i : Nat) : Int) ∧ ∃ rest, q.2 = ts ++ rest ∧ rest.length = ts.length ∧ ∀ x ∈ rest, x.Rows.length ≤ 1000 ∧ ∃ y ∈ ts, y.Name = x.Name)
  (fun t => ∃ rest, t = ts ++ rest ∧ rest.length = ts.length ∧ ∀ x ∈ rest, x.Rows.length ≤ 1000 ∧ ∃ y ∈ ts, y.Name = x.Name) ts.length (by omega) ⟨rfl, ts, rfl, rfl, fun x hx => ⟨hr x hx, x, hx, rfl⟩⟩ (fun K i q h hi => .inr ?_) (fun K q h => ?_)
 ·obtain ⟨t, h1, rest, rfl, h2⟩ := key
  exact ⟨rest, h1, h2⟩
 ·obtain ⟨a, l⟩ := q
  obtain ⟨e1, rest, e2, h1, h2⟩ := h
  dsimp only at e1 e2; subst e1 e2
  have hil : ts.length + i < (ts ++ rest).length := by rw [List.length_append]; omega
  rw [s_greenbeltlaw17_ExprTurns_L2, decide_eq_true (by dsimp only; omega), cond_true]
  dsimp only
  have hg : grd (0 ≤ ((ts.length + i : Nat) : Int) ∧ ((ts.length + i : Nat) : Int) < ((ts ++ rest).length : Nat)) = some () := grd_of ⟨by omega, by omega⟩
  rw [hg, Option.bind_some, Option.bind_some, toNat_nat, w64_succ' (by omega)]
  have hgx : (ts ++ rest).getD (ts.length + i) default = rest.getD i default := by
   rw [List.getD_eq_getElem?_getD, List.getD_eq_getElem?_getD, List.getElem?_append_right (by omega)]; simp
  rw [hgx]
  refine ⟨(((ts.length + (i + 1) : Nat) : Int), ts ++ rest.set i ⟨(rest.getD i default).Name, [], (rest.getD i default).Else⟩), ⟨rfl, _, rfl, by rw [List.length_set]; exact h1, fun x hx => ?_⟩, ?_⟩
  ·rcases mem_set' hx with hx | rfl
   ·exact h2 x hx
   ·exact ⟨by simp, (h2 (rest.getD i default) (getD_mem (by omega))).2⟩
  ·rw [List.set_append_right _ _ (by omega), show ts.length + i - ts.length = i by omega]; rfl
 ·obtain ⟨a, l⟩ := q
  obtain ⟨e1, rest, e2, h1, h2⟩ := h
  dsimp only at e1 e2; subst e1 e2
  exact ⟨_, by rw [s_greenbeltlaw17_ExprTurns_L2, decide_eq_false (by dsimp only; rw [List.length_append]; omega), cond_false], rest, rfl, h1, h2⟩
def rotD (l : List Def) (b : Nat) : List Def := (List.range l.length).map fun k => l.getD ((k + b) % l.length) default
theorem rot_len (l : List Def) (b : Nat) : (rotD l b).length = l.length := by unfold rotD; simp
theorem rot_getD {l : List Def} {b k : Nat} (hk : k < l.length) : (rotD l b).getD k default = l.getD ((k + b) % l.length) default := by
 rw [List.getD_eq_getElem?_getD]
 unfold rotD
 rw [List.getElem?_map, List.getElem?_eq_getElem (by simpa using hk)]
 simp
theorem rot_inj {N b k k' : Nat} (hk : k < N) (hk' : k' < N) (h : (k + b) % N = (k' + b) % N) : k = k' := by
 have go : ∀ {k k' : Nat}, k < N → k' < N → k ≤ k' → (k + b) % N = (k' + b) % N → k = k' := fun {k k'} hk hk' hle h => by
  have h1 := Nat.sub_mod_eq_zero_of_mod_eq h.symm
  rw [show k' + b - (k + b) = k' - k by omega, Nat.mod_eq_of_lt (by omega)] at h1
  omega
 rcases Nat.le_total k k' with hle | hle
 ·exact go hk hk' hle h
 ·exact (go hk' hk hle h.symm).symm
theorem rot_sur {N b k : Nat} (hk : k < N) : ∃ k', k' < N ∧ (k' + b) % N = k := by
 refine ⟨(k + (N - b % N)) % N, Nat.mod_lt _ (by omega), ?_⟩
 have h1 := Nat.div_add_mod b N
 have h2 := Nat.mod_lt b (show N > 0 by omega)
 have h3 : k + (N - b % N) + b = k + N * (b / N + 1) := by rw [Nat.mul_add]; omega
 rw [Nat.mod_add_mod, h3, Nat.add_mul_mod_self_left, Nat.mod_eq_of_lt hk]
theorem turns_L3 {p : Plan} {b : Nat} (hb : b ≤ 12) (hN : p.Defs.length ≤ 1000) : s_greenbeltlaw17_ExprTurns_L3 p (b : Int) KK (0, []) = some (rotD p.Defs b) := by
 have key := det_loop (L := s_greenbeltlaw17_ExprTurns_L3 p (b : Int)) (fun i => ((i : Int), (List.range i).map fun k => p.Defs.getD ((k + b) % p.Defs.length) default)) p.Defs.length (rotD p.Defs b) (by omega) (fun K i hi => ?_) (fun K => ?_)
 ·exact key
 ·have hmod : (i + b) % p.Defs.length < p.Defs.length := Nat.mod_lt _ (by omega)
  rw [s_greenbeltlaw17_ExprTurns_L3, decide_eq_true (by dsimp only; omega), cond_true, grd_of (by omega), Option.bind_some]
  dsimp only
  rw [w64_id (by omega) (by omega), show Int.tmod ((i : Int) + (b : Int)) (p.Defs.length : Int) = (((i + b) % p.Defs.length : Nat) : Int) from rfl, idx_of hmod, Option.bind_some, grd_of (by rw [List.length_append, List.length_map, List.length_range, List.length_singleton]; omega), Option.bind_some, w64_succ hi (by omega), List.range_succ, List.map_append]
  rfl
 ·rw [s_greenbeltlaw17_ExprTurns_L3, decide_eq_false (by simp), cond_false]; rfl
abbrev turnP (p : Plan) (b : Nat) : Plan := Plan.mk (rotD p.Defs b) p.Tables p.Zones p.Rules p.Caps p.Views p.Sun p.Hours
theorem rot_uses {l : List Def} {b i k : Nat} (h : Uses (rotD l b) i k) : Uses l ((i + b) % l.length) ((k + b) % l.length) := by
 obtain ⟨h1, h2, h3⟩ := h
 rw [rot_len] at h1 h2
 rw [nameAt, rot_getD h1, rot_getD h2] at h3
 exact ⟨Nat.mod_lt _ (by omega), Nat.mod_lt _ (by omega), h3⟩
theorem rot_okay {l : List Def} {b : Nat} (h : Okay l) : Okay (rotD l b) := by
 refine ⟨fun j hj => ?_, fun i hi hc => ?_⟩
 ·rw [rot_len] at hj
  have hjm : (j + b) % l.length < l.length := Nat.mod_lt _ (by omega)
  rw [nameAt, rot_getD hj]
  refine ⟨(h.1 _ hjm).1, fun j' hj' e => ?_⟩
  rw [nameAt, rot_getD (show j' < l.length by omega)] at e
  have := h.1.dis _ _ (Nat.mod_lt _ (by omega)) hjm e
  have := rot_inj (show j' < l.length by omega) hj this
  omega
 ·rw [rot_len] at hi
  obtain ⟨n, hp⟩ := hc
  have go : ∀ n i k, Path (Uses (rotD l b)) n i k → Path (Uses l) n ((i + b) % l.length) ((k + b) % l.length) := fun n i k hp => by
   induction hp with
   | nil i => exact .nil _
   | cons hu _ ih => exact .cons (rot_uses hu) ih
  exact h.2 _ (Nat.mod_lt _ (by omega)) ⟨n, go _ _ _ hp⟩
theorem rot_look {l : List Def} (hd : Dis l) {ms : List Entry} {b : Nat} {V : Nat → Int} : lookV (rotD l b) ms (fun k => V ((k + b) % l.length)) = lookV l ms V := by
 funext s
 unfold lookV
 cases measV ms s with
 | some v => rfl
 | none =>
  cases hx : defIx (rotD l b) s with
  | some k =>
   obtain ⟨h1, h2⟩ := defIx_some hx
   rw [rot_len] at h1
   rw [nameAt, rot_getD h1] at h2
   have hm : (k + b) % l.length < l.length := Nat.mod_lt _ (by omega)
   have := defIx_of hd hm
   rw [show nameAt l ((k + b) % l.length) = s from h2] at this
   rw [this]
  | none =>
   cases hy : defIx l s with
   | none => rfl
   | some k' =>
    obtain ⟨h1, h2⟩ := defIx_some hy
    obtain ⟨k, hk, e⟩ := rot_sur (b := b) h1
    have := defIx_none hx (k := k) (by rw [rot_len]; exact hk)
    rw [nameAt, rot_getD hk, e] at this
    exact absurd h2 this
theorem rot_sol {p : Plan} {ms : List Entry} {zs : List (List UInt8)} (hd : Dis p.Defs) {b : Nat} {V : Nat → Int} (h : Sol p ms zs V) : Sol (turnP p b) ms zs fun k => V ((k + b) % p.Defs.length) := fun k hk => by
 have hk' : k < p.Defs.length := by rw [← rot_len p.Defs b]; exact hk
 have hm : (k + b) % p.Defs.length < p.Defs.length := Nat.mod_lt _ (by omega)
 show V ((k + b) % p.Defs.length) = _
 rw [h _ hm]
 unfold rhs
 show _ = if exRight ((rotD p.Defs b).getD k default).Body then valV (lookV (rotD p.Defs b) ms fun k => V ((k + b) % p.Defs.length)) (rowV p.Tables) (fun s => decide (s ∈ zs)) 12 ((rotD p.Defs b).getD k default).Body else 0
 rw [rot_getD hk', rot_look hd]
theorem rot_In {p : Plan} {ms : List Entry} {zs : List (List UInt8)} (h : In p ms zs) (b : Nat) : In (turnP p b) ms zs := by
 refine ⟨by show (rotD p.Defs b).length ≤ 20; rw [rot_len]; exact h.defs, fun d hd => ?_, h.tabs, h.ms, h.zs⟩
 have hd' : d ∈ rotD p.Defs b := hd
 unfold rotD at hd'
 obtain ⟨k, hk, rfl⟩ := List.mem_map.1 hd'
 have hk' : k < p.Defs.length := by simpa using hk
 exact h.ok _ (getD_mem (Nat.mod_lt _ (by omega)))
theorem turns_L5 {p : Plan} {ms : List Entry} (hm : ms.length ≤ 1000) {i : Nat} (hi : i < p.Defs.length) : s_greenbeltlaw17_ExprTurns_L5 p ms (i : Int) KK (false, 0) = some (measV ms (nameAt p.Defs i)).isSome := by
 have key := for_all (L := s_greenbeltlaw17_ExprTurns_L5 p ms (i : Int)) (s := (false, (0 : Int))) (fun k q => q.2 = (k : Int) ∧ q.1 = (measV (ms.take k) (nameAt p.Defs i)).isSome) (fun t => t = (measV ms (nameAt p.Defs i)).isSome) ms.length (by omega) ⟨rfl, rfl⟩ (fun K k q h hk => .inr ?_) (fun K q h => ?_)
 ·obtain ⟨t, h1, rfl⟩ := key; exact h1
 ·obtain ⟨b, a⟩ := q
  obtain ⟨e1, e2⟩ := h
  dsimp only at e1 e2; subst e1
  have ht : ms.take (k + 1) = ms.take k ++ [ms.getD k default] := by rw [getD_of hk, List.take_append_getElem]
  rw [s_greenbeltlaw17_ExprTurns_L5, decide_eq_true (by dsimp only; omega), cond_true]
  dsimp only
  rw [idx_of hk, Option.bind_some, idx_of hi, Option.bind_some, w64_succ hk (by omega)]
  cases hms : measV (ms.take k) (nameAt p.Defs i) with
  | some v =>
   rw [hms] at e2; subst e2
   refine ⟨(true, ((k + 1 : Nat) : Int)), ⟨rfl, ?_⟩, rfl⟩
   dsimp only
   rw [ht, measV_snoc, hms]; rfl
  | none =>
   rw [hms] at e2; subst e2
   refine ⟨(decide ((ms.getD k default).Name = (p.Defs.getD i default).Name), ((k + 1 : Nat) : Int)), ⟨rfl, ?_⟩, rfl⟩
   dsimp only
   rw [ht, measV_snoc, hms]
   dsimp only
   by_cases e : (ms.getD k default).Name = nameAt p.Defs i
   ·rw [if_pos e, decide_eq_true e]; rfl
   ·rw [if_neg e, decide_eq_false e]; rfl
 ·obtain ⟨b, a⟩ := q
  obtain ⟨e1, e2⟩ := h
  dsimp only at e1 e2; subst e1
  rw [List.take_length] at e2
  exact ⟨b, by rw [s_greenbeltlaw17_ExprTurns_L5, decide_eq_false (by simp), cond_false], e2⟩
theorem value_name (look : List UInt8 → Int) (row : List UInt8 → List UInt8 → Int) (zone : List UInt8 → Bool) (s : List UInt8) : valV look row zone 12 (Expr.mk 1 0 s [] []) = look s := by rw [valV]; simp
theorem turns_true (p : Plan) (ms : List Entry) (zs : List (List UInt8)) (e : Expr) (by_ : Int) (hg : ∀ d ∈ p.Defs, ∀ k ∈ namesL d.Body, k.length ≤ 9223372036854775807) : s_greenbeltlaw17_ExprTurns p ms zs e by_ = some true := by
 obtain ⟨b, hb, hbs⟩ := few_is p
 unfold s_greenbeltlaw17_ExprTurns
 rw [small_true, Option.bind_some, hb, Option.bind_some]
 cases b with
 | false => rfl
 | true =>
  have hf := hbs rfl
  rw [Bool.not_true, cond_false]
  by_cases hm : (ms.length : Int) > 20
  ·rw [decide_eq_true hm]; rfl
  rw [decide_eq_false hm, cond_false]
  by_cases hz : (zs.length : Int) > 20
  ·rw [decide_eq_true hz]; rfl
  rw [decide_eq_false hz, cond_false]
  obtain ⟨lt, hlt, _⟩ := light_is e
  rw [hlt, Option.bind_some]
  cases lt with
  | false => rfl
  | true =>
   rw [Bool.not_true, cond_false]
   by_cases hb0 : by_ < 0
   ·rw [decide_eq_true hb0]; rfl
   rw [decide_eq_false hb0, cond_false, Option.bind_some]
   by_cases hb1 : by_ > 12
   ·rw [decide_eq_true hb1]; rfl
   rw [decide_eq_false hb1, cond_false]
   obtain ⟨b, rfl⟩ : ∃ b : Nat, by_ = b := ⟨by_.toNat, by omega⟩
   have hI : In p ms zs := few_In hf hg (by omega) (by omega)
   have hN := hf.defs
   obtain ⟨mr, hm1, hm2, hm3⟩ := turns_L1 (ms := ms) (by omega)
   obtain ⟨tr, ht1, ht2, ht3⟩ := turns_L2 (ts := p.Tables) (by have := hf.tabs; omega) hI.tabs.2
   have hmeas : measV (ms ++ mr) = measV ms := measV_app hm3
   have hrow : rowV (p.Tables ++ tr) = rowV p.Tables := rowV_app fun x hx => (ht3 x hx).2
   have hzone : (fun s => decide (s ∈ zs ++ zs)) = fun s : List UInt8 => decide (s ∈ zs) := by
    funext s; simp
   have hIt : In (Plan.mk p.Defs (p.Tables ++ tr) p.Zones p.Rules p.Caps p.Views p.Sun p.Hours) (ms ++ mr) (zs ++ zs) := ⟨hI.defs, hI.ok, ⟨by show (p.Tables ++ tr).length ≤ 1000; rw [List.length_append]; have := hf.tabs; omega, fun t ht => by
    rcases List.mem_append.1 (show t ∈ p.Tables ++ tr from ht) with ht | ht
    ·exact hI.tabs.2 t ht
    ·exact (ht3 t ht).1⟩, by rw [List.length_append]; omega, by rw [List.length_append]; omega⟩
   have hlook : ∀ V, lookV p.Defs (ms ++ mr) V = lookV p.Defs ms V := fun V => by
    funext s; unfold lookV; rw [hmeas]
   have heval : ∃ v, s_expr_Eval_2 p ms zs e = some v ∧ s_expr_Eval_2 (Plan.mk p.Defs (p.Tables ++ tr) p.Zones p.Rules p.Caps p.Views p.Sun p.Hours) (ms ++ mr) (zs ++ zs) e = some v ∧ (Okay p.Defs → s_expr_Eval_2 (turnP p b) ms zs e = some v) := by
    by_cases hr : exRight e
    ·by_cases hO : Okay p.Defs
     ·obtain ⟨V, hV⟩ := sol_ex hI hO
      refine ⟨_, eval_ok hI hr hO hV, ?_, fun _ => ?_⟩
      ·have hVt : Sol (Plan.mk p.Defs (p.Tables ++ tr) p.Zones p.Rules p.Caps p.Views p.Sun p.Hours) (ms ++ mr) (zs ++ zs) V := fun k hk => by
        rw [hV k hk]
        unfold rhs
        rw [hlook, hrow, hzone]
       rw [eval_ok hIt hr hO hVt]
       rw [hlook, hrow, hzone]
      ·rw [eval_ok (rot_In hI b) hr (rot_okay hO) (rot_sol hO.1.dis hV)]
       show some (valV (lookV (rotD p.Defs b) ms fun k => V ((k + b) % p.Defs.length)) (rowV p.Tables) (fun s => decide (s ∈ zs)) 12 e) = _
       rw [rot_look hO.1.dis]
     ·refine ⟨_, eval_bad hI hr hO, ?_, fun h => absurd h hO⟩
      rw [eval_bad hIt hr hO]
      show some (valV (fun s => (measV (ms ++ mr) s).getD 0) (rowV (p.Tables ++ tr)) (fun s => decide (s ∈ zs ++ zs)) 12 e) = _
      rw [hmeas, hrow, hzone]
    ·exact ⟨0, eval_wrong hr, eval_wrong hr, fun _ => eval_wrong hr⟩
   obtain ⟨v, hv1, hv2, hv3⟩ := heval
   rw [hv1, Option.bind_some, grd_of (by omega), Option.bind_some, grd_of (by rw [List.length_append]; omega), Option.bind_some, hm1, Option.bind_some, grd_of (by have := hf.tabs; omega), Option.bind_some, grd_of (by rw [List.length_append]; have := hf.tabs; omega), Option.bind_some, ht1, Option.bind_some, grd_of (by omega), Option.bind_some, grd_of (by rw [List.length_append]; omega), Option.bind_some]
   rw [show s_expr_Eval p.Defs (p.Tables ++ tr) p.Zones p.Rules p.Caps p.Views p.Sun p.Hours (ms ++ mr) (zs ++ zs) e = some v from hv2, Option.bind_some, decide_eq_true rfl, Bool.not_true, cond_false]
   obtain ⟨r, hr, hrs, _⟩ := refOrder_is hI.defs hI.ok (few_lvl hf)
   rw [hr, Option.bind_some]
   by_cases hro : r.2.2 = 0
   ·have hO := hrs.1 hro
    obtain ⟨V, hV⟩ := sol_ex hI hO
    obtain ⟨out, ho1, ho2, ho3⟩ := all_ok hI hO hV
    obtain ⟨out', hq1, hq2, hq3⟩ := all_ok (rot_In hI b) (rot_okay hO) (rot_sol (b := b) hO.1.dis hV)
    have hq2' : out'.length = p.Defs.length := by rw [hq2]; exact rot_len _ _
    rw [decide_eq_true hro, Bool.not_true, cond_false, turns_L3 (by omega) (by omega), Option.bind_some, ho1, Option.bind_some]
    rw [show s_expr_All_2 (rotD p.Defs b) p.Tables p.Zones p.Rules p.Caps p.Views p.Sun p.Hours ms zs = some out' from hq1, Option.bind_some, decide_eq_true (by omega), Bool.not_true, cond_false, decide_eq_true (by omega), Bool.not_true, cond_false]
    rw [show s_expr_Eval (rotD p.Defs b) p.Tables p.Zones p.Rules p.Caps p.Views p.Sun p.Hours ms zs e = some v from hv3 hO, Option.bind_some, decide_eq_true rfl, Bool.not_true, Option.bind_some, cond_false]
    have key := for_all (L := s_greenbeltlaw17_ExprTurns_L4 p ms zs (b : Int) out out') (s := (0 : Int)) (fun i a => a = (i : Int)) (fun t => t = .inr ()) p.Defs.length (by omega) rfl (fun K i a h hi => .inr ?_) (fun K a h => ?_)
    ·obtain ⟨t, h1, rfl⟩ := key
     rw [h1]; rfl
    ·subst h
     have hmod : (i + b) % out.length < out.length := Nat.mod_lt _ (by omega)
     have hio : i < out.length := by omega
     have hio' : i < out'.length := by omega
     refine ⟨_, rfl, ?_⟩
     rw [s_greenbeltlaw17_ExprTurns_L4, decide_eq_true (by omega), cond_true, turns_L5 (by omega) hi, Option.bind_some, idx_of hio', Option.bind_some, grd_of (by omega), Option.bind_some, w64_id (n := (i : Int) + (b : Int)) (by omega) (by omega), show Int.tmod ((i : Int) + (b : Int)) (out.length : Int) = (((i + b) % out.length : Nat) : Int) from rfl, idx_of hmod, Option.bind_some, w64_succ hi (by omega)]
     have e1 : out'.getD i default = V ((i + b) % p.Defs.length) := hq3 i (by show i < (rotD p.Defs b).length; rw [rot_len]; exact hi)
     have e2 : out.getD ((i + b) % out.length) default = V ((i + b) % p.Defs.length) := by
      rw [ho2]; exact ho3 _ (Nat.mod_lt _ (by omega))
     rw [e1, e2, decide_eq_true rfl, Bool.not_true, cond_false]
     cases hms : measV ms (nameAt p.Defs i) with
     | some w => rw [Option.isSome_some, Bool.not_true, cond_false, Option.bind_some, cond_false]
     | none =>
      rw [Option.isSome_none, Bool.not_false, cond_true, idx_of hi, Option.bind_some]
      show ((s_expr_Eval_2 p ms zs (Expr.mk 1 0 (p.Defs.getD i default).Name [] [])).bind fun y11 => (idx out (i : Int)).bind fun x7 => some (!(decide (y11 = x7)))).bind _ = _
      rw [eval_ok hI (name_right _) hO hV, Option.bind_some, idx_of hio, Option.bind_some, value_name, ho3 i hi]
      have : lookV p.Defs ms V (p.Defs.getD i default).Name = V i := by
       unfold lookV
       rw [show measV ms (p.Defs.getD i default).Name = none from hms, defIx_of hO.1.dis hi]
      rw [this, decide_eq_true rfl, Bool.not_true, Option.bind_some, cond_false]
    ·subst h
     exact ⟨.inr (), by rw [s_greenbeltlaw17_ExprTurns_L4, decide_eq_false (by omega), cond_false], rfl⟩
   ·rw [decide_eq_false hro, Bool.not_false, cond_true]
end Go.Proofs.Ytconjkgifdfhdab
