/- Values of definitions: the only ones that fit. -/
import Derived.Test.YtconjkgifdfhdabGreatN
set_option linter.all false
set_option maxRecDepth 100000
namespace Go.Grf
theorem topo_all {N : Nat} {U : Nat → Nat → Prop} {o : List Nat} (h : Topo N U o) (hl : o.length = N) {k : Nat} (hk : k < N) : k ∈ o := Classical.byContradiction fun hn => by
 have := nodup_le N (k :: o) (List.nodup_cons.2 ⟨hn, h.nodup⟩) fun x hx => by
  rcases List.mem_cons.1 hx with rfl | hx
  ·exact hk
  ·exact h.lt x hx
 rw [List.length_cons] at this; omega
theorem mem_take {o : List Nat} {j k : Nat} (h : k ∈ o.take j) : ∃ i, i < j ∧ i < o.length ∧ k = o.getD i default := by
 obtain ⟨i, hi, e⟩ := List.mem_iff_getElem.1 h
 rw [List.length_take] at hi
 refine ⟨i, by omega, by omega, ?_⟩
 rw [List.getElem_take] at e
 rw [← e, List.getD_eq_getElem?_getD, List.getElem?_eq_getElem (by omega)]; rfl
theorem take_mono {o : List Nat} {i j k : Nat} (h : k ∈ o.take i) (hij : i ≤ j) : k ∈ o.take j := by
 have : o.take i = (o.take j).take i := by rw [List.take_take]; congr 1; omega
 rw [this] at h
 exact List.mem_of_mem_take h
theorem not_take {o : List Nat} {j : Nat} (hn : o.Nodup) (hj : j < o.length) : o.getD j default ∉ o.take j := by
 intro h
 obtain ⟨i, hi, hil, e⟩ := mem_take h
 rw [List.getD_eq_getElem?_getD, List.getD_eq_getElem?_getD, List.getElem?_eq_getElem hj, List.getElem?_eq_getElem hil] at e
 have := (List.getElem_inj hn).1 (show o[j] = o[i] from e)
 omega
end Go.Grf
namespace Go.Proofs.YtconjkgifdfhdabGreat
open Go Go.RowKit Go.Eng Go.EV Go.Grf
variable [Fuel]
def measV (ms : List Entry) (s : List UInt8) : Option Int := (ms.find? fun m => decide (m.Name = s)).map (·.N)
def defIx (l : List Def) (s : List UInt8) : Option Nat := (List.range l.length).find? fun k => decide (nameAt l k = s)
def lookV (l : List Def) (ms : List Entry) (V : Nat → Int) (s : List UInt8) : Int :=
 match measV ms s with
 | some v => v
 | none => match defIx l s with
  | some k => V k
  | none => 0
def rhs (p : Plan) (ms : List Entry) (zs : List (List UInt8)) (V : Nat → Int) (k : Nat) : Int :=
 if exRight (p.Defs.getD k default).Body then valV (lookV p.Defs ms V) (rowV p.Tables) (fun s => decide (s ∈ zs)) 12 (p.Defs.getD k default).Body else 0
def Sol (p : Plan) (ms : List Entry) (zs : List (List UInt8)) (V : Nat → Int) : Prop := ∀ k, k < p.Defs.length → V k = rhs p ms zs V k
theorem range_getD {N k : Nat} (h : k < N) : (List.range N).getD k default = k := by
 rw [getD_of (by simpa using h)]; simp
theorem defIx_of {l : List Def} (hd : Dis l) {k : Nat} (hk : k < l.length) : defIx l (nameAt l k) = some k := by
 unfold defIx
 have h := find_at (p := fun j => decide (nameAt l j = nameAt l k)) (l := List.range l.length) (i := k) (by simpa using hk) (by rw [range_getD hk]; simp) fun j hj => by
  rw [range_getD (by omega), decide_eq_false_iff_not]
  intro e
  have := hd j k (by omega) hk e
  omega
 rw [h, range_getD hk]
theorem defIx_some {l : List Def} {s : List UInt8} {k : Nat} (h : defIx l s = some k) : k < l.length ∧ nameAt l k = s := by
 unfold defIx at h
 have h1 := List.mem_of_find?_eq_some h
 have h2 := List.find?_some h
 exact ⟨by simpa using h1, of_decide_eq_true h2⟩
theorem rhs_congr {p : Plan} {ms : List Entry} {zs : List (List UInt8)} {V V' : Nat → Int} {k : Nat} (hk : k < p.Defs.length) (h : ∀ k', Uses p.Defs k k' → V k' = V' k') : rhs p ms zs V k = rhs p ms zs V' k := by
 unfold rhs
 rw [valV_congr 12 (p.Defs.getD k default).Body (look := lookV p.Defs ms V) (look' := lookV p.Defs ms V') fun s hs => ?_]
 unfold lookV
 cases measV ms s with
 | some v => rfl
 | none =>
  cases hx : defIx p.Defs s with
  | none => rfl
  | some k' =>
   obtain ⟨h1, h2⟩ := defIx_some hx
   exact h k' ⟨hk, h1, by rw [h2]; exact hs⟩
theorem sol_unique {p : Plan} {ms : List Entry} {zs : List (List UInt8)} {o : List Nat} (ht : Topo p.Defs.length (Uses p.Defs) o) (hl : o.length = p.Defs.length) {V V' : Nat → Int} (h : Sol p ms zs V) (h' : Sol p ms zs V') : ∀ k, k < p.Defs.length → V k = V' k := by
 have key : ∀ j, ∀ k ∈ o.take j, V k = V' k := by
  intro j
  induction j with
  | zero => intro k hk; simp at hk
  | succ j ih =>
   intro k hk
   obtain ⟨i, hi, hil, rfl⟩ := mem_take hk
   have hkN : o.getD i default < p.Defs.length := ht.lt _ (getD_mem hil)
   rw [h _ hkN, h' _ hkN]
   exact rhs_congr hkN fun k' hu => ih k' (take_mono (ht.dep i hil k' hu) (by omega))
 intro k hk
 have := key o.length k (by rw [List.take_length]; exact topo_all ht hl hk)
 exact this
theorem measV_snoc (l : List Entry) (x : Entry) (s : List UInt8) : measV (l ++ [x]) s = match measV l s with | some v => some v | none => if x.Name = s then some x.N else none := by
 unfold measV
 rw [List.find?_append]
 cases l.find? fun m => decide (m.Name = s) with
 | some y => rfl
 | none =>
  rw [Option.none_or, List.find?_cons]
  by_cases h : x.Name = s
  ·rw [dT h, if_pos h]; rfl
  ·rw [dF h, if_neg h]; rfl
theorem prep_L1 {ms : List Entry} (hm : ms.length ≤ 1000) : ∃ own known, s_expr_prepare_L1 ms KK (0, [], []) = some (own, known) ∧ ∀ s, (mfind s own).getD false = (measV ms s).isSome ∧ mfind s known = measV ms s := by
 have key := for_all (L := s_expr_prepare_L1 ms) (s := ((0 : Int), ([] : List (List UInt8 × Bool)), ([] : List (List UInt8 × Int))))
  (fun i q => q.1 = (i : Int) ∧ ∀ s, (mfind s q.2.1).getD false = (measV (ms.take i) s).isSome ∧ mfind s q.2.2 = measV (ms.take i) s)
  (fun t => ∀ s, (mfind s t.1).getD false = (measV ms s).isSome ∧ mfind s t.2 = measV ms s) ms.length (by omega) ⟨rfl, fun s => ⟨rfl, rfl⟩⟩ (fun K i q h hi => .inr ?_) (fun K q h => ?_)
 ·obtain ⟨⟨own, known⟩, h1, h2⟩ := key
  exact ⟨own, known, h1, h2⟩
 ·obtain ⟨a, own, known⟩ := q
  obtain ⟨e1, h⟩ := h
  dsimp only at e1 h; subst e1
  have ht : ms.take (i + 1) = ms.take i ++ [ms.getD i default] := by rw [getD_of hi, List.take_append_getElem]
  rw [s_expr_prepare_L1, dT (by dsimp only; omega), cT, idx_of hi, oB]
  dsimp only
  rw [w64_succ hi (by omega)]
  obtain ⟨ho, hk⟩ := h (ms.getD i default).Name
  cases hb : (mfind (ms.getD i default).Name own).getD false with
  | true =>
   rw [Bool.not_true, cF, oB]
   refine ⟨(((i + 1 : Nat) : Int), own, known), ⟨rfl, fun s => ?_⟩, rfl⟩
   dsimp only
   rw [ht, measV_snoc, (h s).1, (h s).2]
   cases hms : measV (ms.take i) s with
   | some v => exact ⟨rfl, rfl⟩
   | none =>
    have hne : (ms.getD i default).Name ≠ s := fun e => by rw [hb, e, hms] at ho; cases ho
    dsimp only
    rw [if_neg hne]; exact ⟨rfl, rfl⟩
  | false =>
   rw [Bool.not_false, cT, oB]
   refine ⟨(((i + 1 : Nat) : Int), mset (ms.getD i default).Name true own, mset (ms.getD i default).Name (ms.getD i default).N known), ⟨rfl, fun s => ?_⟩, rfl⟩
   dsimp only
   rw [ht, measV_snoc, mfind_mset, mfind_mset]
   by_cases e : s = (ms.getD i default).Name
   ·have hms : measV (ms.take i) s = none := by
     rw [hb, ← e] at ho
     cases h3 : measV (ms.take i) s with
     | none => rfl
     | some v => rw [h3] at ho; cases ho
    rw [if_pos e, if_pos e, hms]
    dsimp only
    rw [if_pos e.symm]; exact ⟨rfl, rfl⟩
   ·rw [if_neg e, if_neg e, (h s).1, (h s).2]
    cases hms : measV (ms.take i) s with
    | some v => exact ⟨rfl, rfl⟩
    | none =>
     dsimp only
     rw [if_neg (Ne.symm e)]; exact ⟨rfl, rfl⟩
 ·obtain ⟨a, own, known⟩ := q
  obtain ⟨e1, h⟩ := h
  dsimp only at e1 h; subst e1
  rw [List.take_length] at h
  exact ⟨(own, known), by rw [s_expr_prepare_L1, dF (by simp), cF], h⟩
def knownV (l : List Def) (ms : List Entry) (V : Nat → Int) (done : List Nat) (s : List UInt8) : Option Int :=
 match measV ms s with
 | some v => some v
 | none => match defIx l s with
  | some k => if k ∈ done then some (V k) else none
  | none => none
theorem prep_L2 {p : Plan} {ms : List Entry} {zs : List (List UInt8)} (hN : p.Defs.length ≤ 1000) (hd : Dis p.Defs) (hp : smallT p.Tables) (hz : zs.length ≤ 1000) {o : List Nat} (ht : Topo p.Defs.length (Uses p.Defs) o) (hol : o.length = p.Defs.length)
  {own : List (List UInt8 × Bool)} {known0 : List (List UInt8 × Int)} (h0 : ∀ s, (mfind s own).getD false = (measV ms s).isSome ∧ mfind s known0 = measV ms s) (c : List (List UInt8)) (er : Int) :
  ∃ out known, s_expr_prepare_L2 p zs (own, known0) (nInts o, c, er) KK (0, List.replicate p.Defs.length 0, known0) = some (out, known) ∧ out.length = p.Defs.length ∧ ∃ V, (∀ k, k < p.Defs.length → out.getD k default = V k) ∧ Sol p ms zs V ∧ ∀ s, (mfind s known).getD 0 = lookV p.Defs ms V s := by
 have hnl : (nInts o).length = p.Defs.length := by unfold nInts; rw [List.length_map, hol]
 have key := for_all (L := s_expr_prepare_L2 p zs (own, known0) (nInts o, c, er)) (s := ((0 : Int), List.replicate p.Defs.length (0 : Int), known0))
  (fun j q => q.1 = (j : Int) ∧ q.2.1.length = p.Defs.length ∧ ∃ V, (∀ k, k < p.Defs.length → q.2.1.getD k default = if k ∈ o.take j then V k else 0) ∧ (∀ s, mfind s q.2.2 = knownV p.Defs ms V (o.take j) s) ∧ ∀ k ∈ o.take j, V k = rhs p ms zs V k)
  (fun t => t.1.length = p.Defs.length ∧ ∃ V, (∀ k, k < p.Defs.length → t.1.getD k default = V k) ∧ Sol p ms zs V ∧ ∀ s, (mfind s t.2).getD 0 = lookV p.Defs ms V s) p.Defs.length (by omega)
  ⟨rfl, by simp, fun _ => 0, fun k hk => by dsimp only; rw [getD_rep hk]; simp, fun s => by
   dsimp only
   rw [(h0 s).2, List.take_zero]
   unfold knownV
   cases measV ms s with
   | some v => rfl
   | none => cases defIx p.Defs s <;> simp, fun k hk => by simp at hk⟩ (fun K j q h hj => .inr ?_) (fun K q h => ?_)
 ·obtain ⟨⟨out, known⟩, h1, h2⟩ := key
  exact ⟨out, known, h1, h2⟩
 ·obtain ⟨a, out, known⟩ := q
  obtain ⟨e1, hout, V, hV, hkn, heq⟩ := h
  dsimp only at e1 hout hV hkn; subst e1
  have hjo : j < o.length := by omega
  have hjn : j < (nInts o).length := by omega
  have hx : (nInts o).getD j default = ((o.getD j default : Nat) : Int) := by
   rw [List.getD_eq_getElem?_getD, List.getD_eq_getElem?_getD]; unfold nInts; rw [List.getElem?_map, List.getElem?_eq_getElem hjo]; rfl
  have hxN : o.getD j default < p.Defs.length := ht.lt _ (getD_mem hjo)
  have hxt := not_take ht.nodup hjo
  have htk : o.take (j + 1) = o.take j ++ [o.getD j default] := by rw [getD_of hjo, List.take_append_getElem]
  have hdep := ht.dep j hjo
  generalize o.getD j default = x at hx hxN hxt htk hdep
  have hxo : x < out.length := by omega
  have hlook : ∀ s ∈ namesL (p.Defs.getD x default).Body, (mfind s known).getD 0 = lookV p.Defs ms V s := fun s hs => by
   rw [hkn s]
   unfold knownV lookV
   cases measV ms s with
   | some v => rfl
   | none =>
    cases hdx : defIx p.Defs s with
    | none => rfl
    | some k =>
     obtain ⟨h1, h2⟩ := defIx_some hdx
     have := hdep k ⟨hxN, h1, by rw [h2]; exact hs⟩
     dsimp only
     rw [if_pos this]; rfl
  -- the values with the new one
  have hV'x : ∀ k ∈ o.take j, (if k = x then rhs p ms zs V x else V k) = V k := fun k hk => if_neg fun (e : k = x) => hxt (by rw [← e]; exact hk)
  have hrx : rhs p ms zs (fun k => if k = x then rhs p ms zs V x else V k) x = rhs p ms zs V x := rhs_congr hxN fun k' hu => hV'x k' (hdep k' hu)
  have heq' : ∀ k ∈ o.take (j + 1), (if k = x then rhs p ms zs V x else V k) = rhs p ms zs (fun k => if k = x then rhs p ms zs V x else V k) k := fun k hk => by
   rw [htk] at hk
   rcases List.mem_append.1 hk with hk | hk
   ·rw [hV'x k hk, heq k hk]
    obtain ⟨i, hi, hil, rfl⟩ := mem_take hk
    exact rhs_congr (ht.lt _ (getD_mem hil)) fun k' hu => (hV'x k' (take_mono (ht.dep i hil k' hu) (by omega))).symm
   ·rw [List.mem_singleton.1 hk, if_pos rfl, hrx]
  rw [s_expr_prepare_L2, dT (by dsimp only; omega), cT]
  dsimp only
  rw [idx_of hjn, oB, hx, idx_of hxN, oB, s_exRight, oB, w64_succ hj (by omega)]
  have hout' : ∃ out', ((bif decide (exRight (p.Defs.getD x default).Body) then (s_expr_context_value KK p known zs (p.Defs.getD x default).Body).bind fun y3 => (grd (0 ≤ (x : Int) ∧ (x : Int) < ((out).length : Nat))).bind fun _ => (some (out.getD (Int.toNat (x : Int)) default)).bind fun e1 => some (List.set out (Int.toNat (x : Int)) y3) else some out)) = some out' ∧ out'.length = p.Defs.length ∧ ∀ k, k < p.Defs.length → out'.getD k default = if k ∈ o.take (j + 1) then (if k = x then rhs p ms zs V x else V k) else 0 := by
   by_cases hr : exRight (p.Defs.getD x default).Body
   ·rw [dT hr, cT, value_is hp hz 12 _ KK (by omega) (by have := KK_big; omega) hr, oB, grd_of ⟨by omega, by omega⟩, oB, oB, toNat_nat]
    refine ⟨_, rfl, by rw [List.length_set]; exact hout, fun k hk => ?_⟩
    rw [getD_set hxo, htk]
    by_cases e : k = x
    ·subst e
     rw [if_pos rfl, if_pos (by simp), if_pos rfl]
     unfold rhs
     rw [if_pos hr]
     exact valV_congr 12 _ hlook
    ·rw [if_neg e, if_neg e, hV k hk]
     simp [e]
   ·rw [dF hr, cF]
    refine ⟨out, rfl, hout, fun k hk => ?_⟩
    rw [htk, hV k hk]
    by_cases e : k = x
    ·subst e
     rw [if_neg hxt, if_pos (by simp), if_pos rfl]
     unfold rhs
     rw [if_neg hr]
    ·rw [if_neg e]; simp [e]
  obtain ⟨out', ho1, ho2, ho3⟩ := hout'
  rw [ho1, oB]
  have hox : out'.getD x default = rhs p ms zs V x := by rw [ho3 x hxN, htk, if_pos (by simp), if_pos rfl]
  have hkn' : ∀ s, s ≠ nameAt p.Defs x ∨ measV ms s ≠ none → knownV p.Defs ms V (o.take j) s = knownV p.Defs ms (fun k => if k = x then rhs p ms zs V x else V k) (o.take (j + 1)) s := fun s hs => by
   unfold knownV
   cases hms : measV ms s with
   | some v => rfl
   | none =>
    have hs' : s ≠ nameAt p.Defs x := hs.elim id fun h => absurd hms h
    cases hdx : defIx p.Defs s with
    | none => rfl
    | some k =>
     obtain ⟨h1, h2⟩ := defIx_some hdx
     have hkx : k ≠ x := fun e => hs' (by rw [← h2, e])
     dsimp only
     rw [htk, if_neg hkx]
     simp [hkx]
  cases hb : (mfind (p.Defs.getD x default).Name own).getD false with
  | true =>
   rw [Bool.not_true, cF, oB]
   refine ⟨(((j + 1 : Nat) : Int), out', known), ⟨rfl, ho2, _, ho3, fun s => ?_, heq'⟩, rfl⟩
   dsimp only
   rw [hkn s]
   refine hkn' s ?_
   by_cases e : s = nameAt p.Defs x
   ·right
    intro hms
    have := (h0 (nameAt p.Defs x)).1
    rw [show (mfind (nameAt p.Defs x) own).getD false = true from hb, ← e, hms] at this; cases this
   ·exact .inl e
  | false =>
   rw [Bool.not_false, cT, grd_of ⟨by omega, by omega⟩, oB, oB, toNat_nat, hox, oB]
   refine ⟨(((j + 1 : Nat) : Int), out', mset (p.Defs.getD x default).Name (rhs p ms zs V x) known), ⟨rfl, ho2, _, ho3, fun s => ?_, heq'⟩, rfl⟩
   dsimp only
   rw [mfind_mset]
   by_cases e : s = nameAt p.Defs x
   ·have hms : measV ms s = none := by
     have := (h0 (nameAt p.Defs x)).1
     rw [show (mfind (nameAt p.Defs x) own).getD false = false from hb, ← e] at this
     cases h3 : measV ms s with
     | none => rfl
     | some v => rw [h3] at this; cases this
    rw [if_pos e]
    unfold knownV
    rw [hms, e, defIx_of hd hxN]
    dsimp only
    rw [htk, if_pos (by simp), if_pos rfl]
   ·rw [if_neg e, hkn s]
    exact hkn' s (.inl e)
 ·obtain ⟨a, out, known⟩ := q
  obtain ⟨e1, hout, V, hV, hkn, heq⟩ := h
  dsimp only at e1 hout hV hkn; subst e1
  have hall : ∀ k, k < p.Defs.length → k ∈ o.take p.Defs.length := fun k hk => by rw [← hol, List.take_length]; exact topo_all ht hol hk
  refine ⟨(out, known), ?_, hout, V, fun k hk => by dsimp only; rw [hV k hk, if_pos (hall k hk)], fun k hk => heq k (hall k hk), fun s => ?_⟩
  ·rw [s_expr_prepare_L2, dF (by dsimp only; omega), cF]
  ·dsimp only
   rw [hkn s]
   unfold knownV lookV
   cases measV ms s with
   | some v => rfl
   | none =>
    cases hdx : defIx p.Defs s with
    | none => rfl
    | some k =>
     dsimp only
     rw [if_pos (hall k (defIx_some hdx).1)]; rfl
theorem prepare_is {p : Plan} {ms : List Entry} {zs : List (List UInt8)} (hN : p.Defs.length ≤ 20) (hok : okD p.Defs) (hp : smallT p.Tables) (hm : ms.length ≤ 1000) (hz : zs.length ≤ 1000) :
  (Okay p.Defs → ∃ o out known V, Topo p.Defs.length (Uses p.Defs) o ∧ o.length = p.Defs.length ∧ s_expr_prepare p ms zs = some (p, zs, out, known) ∧ out.length = p.Defs.length ∧ (∀ k, k < p.Defs.length → out.getD k default = V k) ∧ Sol p ms zs V ∧ ∀ s, (mfind s known).getD 0 = lookV p.Defs ms V s) ∧
  (¬ Okay p.Defs → ∃ known, s_expr_prepare p ms zs = some (p, zs, List.replicate p.Defs.length 0, known) ∧ ∀ s, mfind s known = measV ms s) := by
 obtain ⟨r, hr, hr1, hr2⟩ := Order_is hN hok
 obtain ⟨own, known, h1, h2⟩ := prep_L1 hm
 constructor
 ·intro hO
  obtain ⟨o, ho, ht, hol⟩ := hr2 hO
  obtain ⟨c1, c2, c3⟩ := r
  dsimp only at ho; subst ho
  have h3 : c3 = 0 := hr1.2 hO
  subst h3
  obtain ⟨out, known', h4, h5, V, h6, h7, h8⟩ := prep_L2 (p := p) (ms := ms) (zs := zs) (by omega) hO.1.dis hp hz ht hol h2 c2 0
  refine ⟨o, out, known', V, ht, hol, ?_, h5, h6, h7, h8⟩
  rw [prep_of hr]
  unfold prepF
  rw [h1, oB, grd_of ⟨by omega, by omega, by omega⟩, oB]
  dsimp only
  rw [dT rfl, Bool.not_true, cF, toNat_nat, h4, oB]
 ·intro hO
  have h3 : ¬ r.2.2 = 0 := fun h => hO (hr1.1 h)
  refine ⟨known, ?_, fun s => (h2 s).2⟩
  rw [prep_of hr]
  unfold prepF
  rw [h1, oB, grd_of ⟨by omega, by omega, by omega⟩, oB]
  dsimp only
  rw [dF h3, Bool.not_false, cT, toNat_nat]
end Go.Proofs.YtconjkgifdfhdabGreat
