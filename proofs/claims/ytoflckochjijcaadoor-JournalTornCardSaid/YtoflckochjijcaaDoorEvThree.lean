/- Ranges over maps: the map and its iterator as one object; which entry comes next is open. -/
import Derived.Test.YtoflckochjijcaaDoorEwOne
import Derived.Laws.IdiomRangeMap
import Derived.Laws.IdiomStrings
set_option linter.all false
namespace Go.EV
open Go Go.RowKit Go.Eng
section
variable {K0 : List Nat} {c : Ctx K0} {P : Program} {r : Option Nat} {N : Nat} {all rest : List Oper} {o : Oper} {Q : PostV} {ρ : Env} {H : Heap} {ds : List Deferred}
def LocA (P : Program) (o : Oper) (ρ : Env) (F : Heap) {ι : Type} (ok : ι → Prop) (v : ι → V) (F' : ι → Heap) : Prop :=
 ∀ ρr m Z w, (∀ x ∈ o.op.operands, Rep (some m) Z (evV ρ x) (ev ρr x)) → SimH m Z F w → Exec P o ρr w fun x w' => ∃ i m' Z', ok i ∧ Step m Z F w m' Z' (F' i) w' ∧ Rep (some m') Z' (v i) x
theorem ov_alt {F : Heap} {ι : Type} {ok : ι → Prop} {v : ι → V} {F' : ι → Heap} (d : Nat) (ks : List Nat) (hd : o.dst = some d) (hN : Nat.ble (d + 1) N = true) (hw : wantedV all ρ o = some true) (hks : nodupB ks = true) (hF : selH ks H = some F) (hl : LocA P o ρ F ok v F') (hk : ∀ i, keys (F' i) = ks)
  (h : ∀ i, ok i → OpsV c P r N all Q rest ((d, v i) :: ρ) (F' i ++ remH ks H) ds) : OpsV c P r N all Q (o :: rest) ρ H ds := by
 rintro ρr w ds1 ⟨m, Z, S, hR⟩ hM a n hf
 have hp := split_perm S.step.sim.nodup (nodup_of hks) hF
 have hs : SimH m Z (F ++ remH ks H) w := S.step.sim.perm hp
 obtain ⟨hn, hex⟩ := hl ρr m Z w (fun x _ => hR.ev x) hs.left
 have go : ∀ x w', (∃ i m' Z', ok i ∧ Step m Z F w m' Z' (F' i) w' ∧ Rep (some m') Z' (v i) x) → Ops P r N all (liftV c Q ds) rest (upd ρr d x) ds1 w' := fun x w' ⟨i, m', Z', hi, hst, hr⟩ =>
  h i hi _ _ _ ⟨m', Z', S.step' hks hF (keys_all_fresh fun p hp => by rw [← hk i]; exact mem_keys hp) (fun _ _ => hst), (hR.up hst.zext hst.mext).put d hr⟩ (hM.step hs.left hst)
 rcases hex with ⟨x, w', hrun, hx⟩ | ⟨w', hrun, hx⟩ | ⟨f, args, w1, hrun, hx⟩
 ·exact ops_val d x hd hN (wanted_of hR hw) hn hrun (go x w' hx) a n hf
 ·have hw' := (hf.wanted all _).trans (wanted_of hR hw)
  simp only [wpListIn, hw', if_true]
  refine ⟨fun _ _ => trivial, ?_⟩
  rw [semAt_fw hn, hf.eval, hrun, Oper.uponIn_skip, hd]
  exact go _ w' hx _ n (hf.put (Nat.le_of_ble_eq_true hN) _)
 ·exact ops_enter d hd hN (wanted_of hR hw) hn hrun hx (fun e w'' ⟨x, he, hr⟩ => ⟨x, he, go x w'' hr⟩) a n hf
end
def unmk (l : List (Bool × V × V)) : List (V × V) := l.map (·.2)
def mapIt (q : Nat) (l : List (Bool × V × V)) (cur : Option Nat) : GObj where
 holds mk Z w := ∃ (bm bi : Nat) (es : Array MapEntry) (clock since : Nat) (seen : Array Nat) (last : Nat), mk 0 = some (bm, 1) ∧ mk q = some (bi, 1) ∧ bm ≠ bi ∧ w.heap[bm]? = some (.map es clock) ∧ w.heap[bi]? = some (.mapIter (some bm) since seen last) ∧ RepE Z (unmk l) es.toList ∧
  (es.toList.Pairwise fun x y => x.born < y.born) ∧ (∀ e ∈ es.toList, e.born < since) ∧ since ≤ last ∧ since ≤ clock ∧ (∀ a x, Z a = some x → a.block ≠ bm ∧ a.block ≠ bi) ∧ (∀ (i : Nat) p e, l[i]? = some p → es[i]? = some e → seen.contains e.born = p.1) ∧
  (∀ i, cur = some i → last = clock ∧ ∃ e, es[i]? = some e ∧ seen.back? = some e.born) ∧ ∃ L0, ∀ L loc, mk L = some loc → L ≤ L0
 blks mk b := mk 0 = some (b, 1) ∨ mk q = some (b, 1)
 some_ mk b h := by
  rcases h with h | h
  ·exact ⟨0, 1, h, by omega⟩
  ·exact ⟨q, 1, h, by omega⟩
 own mk Z w b := by
  rintro ⟨bm, bi, es, clock, since, seen, last, h1, h2, _, h3, h4, _⟩ (h | h)
  ·rw [h1] at h; cases h; exact ⟨_, h3, rfl⟩
  ·rw [h2] at h; cases h; exact ⟨_, h4, rfl⟩
 keep mk Z Z' w w' := by
  rintro ⟨bm, bi, es, clock, since, seen, last, h1, h2, h0, h3, h4, h5, h6, h7, h8, h9, h10, h11, h12, h13⟩ hZ hw
  obtain ⟨hw1, hz1⟩ := hw bm (.inl h1)
  obtain ⟨hw2, hz2⟩ := hw bi (.inr h2)
  exact ⟨bm, bi, es, clock, since, seen, last, h1, h2, h0, hw1.trans h3, hw2.trans h4, h5.up hZ, h6, h7, h8, h9, fun a x ha => ⟨fun e => (h10 a x (hz1 a x ha e)).1 e, fun e => (h10 a x (hz2 a x ha e)).2 e⟩, h11, h12, h13⟩
def itV (q : Nat) : GVal where
 rep mk x := ∃ loc, mk q = some loc ∧ x = .pointer (some ⟨loc.1, 0, none⟩)
 mono mk mk' x h := by
  rintro ⟨loc, h1, h2⟩
  exact ⟨loc, h _ _ h1, h2⟩
 one mk x := by
  rintro ⟨loc, _, rfl⟩
  exact ⟨rfl, rfl⟩
theorem RepE.get {Z : ZM} : ∀ {l : List (V × V)} {es : List MapEntry}, RepE Z l es → es.length = l.length ∧ ∀ (i : Nat) (p : V × V), l[i]? = some p → ∃ en : MapEntry, es[i]? = some en ∧ Rep none Z p.1 en.key ∧ Rep none Z p.2 en.val
 | [], es, h => by cases h; exact ⟨rfl, fun i p h => by simp at h⟩
 | (k, v) :: r, es, h => by
  obtain ⟨e, es, rfl, h1, h2, h3⟩ := h
  obtain ⟨h4, h5⟩ := RepE.get h3
  refine ⟨by simp [h4], fun i p hp => ?_⟩
  cases i with
  | zero => simp at hp; subst hp; exact ⟨e, rfl, h1, h2⟩
  | succ i => simpa using h5 i p (by simpa using hp)
def mark (l : List (Bool × V × V)) (j : Nat) : List (Bool × V × V) := l.modify j fun p => (true, p.2)
theorem unmk_mark (l : List (Bool × V × V)) (j : Nat) : unmk (mark l j) = unmk l := by
 apply List.ext_getElem?
 intro i
 simp only [unmk, mark, List.getElem?_map, List.getElem?_modify]
 cases l[i]? with
 | none => rfl
 | some p => simp only [Option.map_some]; split <;> rfl
def nextV (l : List (Bool × V × V)) : Option Nat → V
 | none => .tup [.bool false]
 | some j => .tup [.bool true, (l.getD j default).2.1, (l.getD j default).2.2]
def nextF (q k : Nat) (l : List (Bool × V × V)) (cur : Option Nat) : Option Nat → Heap
 | none => [(k, .gen (mapIt q l cur))]
 | some j => [(k, .gen (mapIt q (mark l j) (some j)))]
def nextOk (l : List (Bool × V × V)) : Option Nat → Prop
 | none => ∀ p ∈ l, p.1 = true
 | some j => ∃ p, l[j]? = some p ∧ p.1 = false
section
variable {P : Program} {ρ : Env} {dst : Option Tmp} {ty : TypeId} {pos : String} {aft : Array Edge} {gd : Option (Nat × Bool)}
theorem locA_next {x : Operand} {q k : Nat} {l : List (Bool × V × V)} {cur : Option Nat} (hx : evV ρ x = .gv k (itV q)) : LocA P ⟨dst, .next x false, ty, pos, aft, gd⟩ ρ [(k, .gen (mapIt q l cur))] (nextOk l) (nextV l) (nextF q k l cur) := by
 intro ρr m Z w hops hs
 have hX := hops x (by simp [Op.operands])
 rw [hx] at hX
 obtain ⟨f, e, loc, hb, hX⟩ := hX
 cases e
 obtain ⟨bm, bi, es, clock, since, seen, last, h1, h2, h0, h3, h4, h5, h6, h7, h8, h9, h10, h11, h12, h13⟩ := hs.holds _ (List.mem_singleton.2 rfl)
 rw [h2] at hb; cases hb
 obtain ⟨hlen, hget⟩ := h5.get
 have hlen : es.size = l.length := by simpa [unmk] using hlen
 have hg1 : (getObj bi).run P w = .ok (.mapIter (some bm) since seen last) w := by simp only [getObj, Sem.run, h4]
 have hg2 : (getObj bm).run P w = .ok (.map es clock) w := by simp only [getObj, Sem.run, h3]
 have htest := next_test_false seen es since last h7 h8
 have hmem : ∀ x ∈ (Array.filter (fun e => !seen.contains e.born) es).toList, x ∈ es.toList ∧ seen.contains x.born = false := fun x hx => by simpa using hx
 have hsub : ∀ e ∈ es.toList, seen.contains e.born = false → e ∈ (Array.filter (fun e => !seen.contains e.born) es).toList := fun e he hc => by
  rw [Array.toList_filter, List.mem_filter]; exact ⟨he, by rw [hc]; rfl⟩
 generalize hL : Array.filter (fun e => !seen.contains e.born) es = L at hmem hsub
 have e1 : L.filter (fun x => decide (x.born < since)) = L := Array.filter_eq_self.2 (fun x hx => by simpa using h7 x (hmem x (by simpa using hx)).1)
 have e2 : L.filter (fun x => decide (x.born ≥ since)) = #[] := by
  rw [Array.filter_eq_empty_iff]
  intro x hx
  have := h7 x (hmem x (by simpa using hx)).1
  simp
  omega
 by_cases hL0 : L.size = 0
 ·have hLe : L = #[] := Array.eq_empty_of_size_eq_zero hL0
  subst hLe
  refine ⟨rfl, .inl ⟨.tuple #[.bool false], w, ?_, none, m, Z, fun p hp => ?_, Step.refl hs, [.bool false], rfl, _, _, rfl, rfl, rfl⟩⟩
  ·simp only [execOp, hX, Instr.next, Sem.run_bind, hg1, hg2, Result.andThen_ok, htest, Bool.false_eq_true, if_false, hL, e1, e2]
   simp [choose, Sem.run, Question.forced]
  ·obtain ⟨i, hi, rfl⟩ := List.getElem_of_mem hp
   have hie : i < es.size := by omega
   have := h11 i l[i] es[i] (List.getElem?_eq_getElem hi) (Array.getElem?_eq_getElem hie)
   cases hc : l[i].1 with
   | true => rfl
   | false =>
    rw [hc] at this
    have := hsub es[i] (by simp) this
    simp at this
 ·have hch : ∃ (j : Nat) (w1 : World), j < L.size ∧ (w1.heap = w.heap ∧ w1.os = w.os ∧ w1.tape = w.tape ∧ w1.output = w.output) ∧ (choose (Question.mapNext L.size)).run P w = .ok j w1 := by
   by_cases hf : L.size ≤ 1
   ·exact ⟨0, w, by omega, ⟨rfl, rfl, rfl, rfl⟩, by simp [choose, Sem.run, Question.forced, hf]⟩
   ·exact ⟨_, w.drew, Nat.mod_lt _ (by omega), ⟨rfl, rfl, rfl, rfl⟩, by
     simp only [choose, Sem.run, Question.forced, decide_eq_true_eq, hf, if_false, Question.cut]
     rfl⟩
  obtain ⟨j, w1, hj, ⟨a1, a2, a3, a4⟩, hrun⟩ := hch
  obtain ⟨he, hns⟩ := hmem L[j] (by simp)
  obtain ⟨i, hi, hie⟩ := List.getElem_of_mem he
  have hi' : i < es.size := by simpa using hi
  have hil : i < l.length := by omega
  have hie : es[i]? = some L[j] := by rw [Array.getElem?_eq_getElem hi']; exact congrArg some (by simpa using hie)
  have hpi : l[i]? = some l[i] := List.getElem?_eq_getElem hil
  have hfl : l[i].1 = false := by rw [← h11 i _ _ hpi hie]; exact hns
  have hbi : bi < w.heap.size := (Array.getElem?_eq_some_iff.1 h4).1
  let w2 : World := { w1 with heap := w.heap.setIfInBounds bi (.mapIter (some bm) since (seen.push L[j].born) clock) }
  have hset : (setObj bi (.mapIter (some bm) since (seen.push L[j].born) clock)).run P w1 = .ok () w2 := by
   simp only [setObj, Sem.run, a1, h4]
   rfl
  have hgd : l.getD i default = l[i] := by rw [List.getD_eq_getElem?_getD, hpi]; rfl
  obtain ⟨en, t1, t2, t3⟩ := hget i l[i].2 (by simp [unmk, hpi])
  have hen : en = L[j] := by
   have : es.toList[i]? = es[i]? := by simp
   rw [this, hie] at t1; exact (Option.some.inj t1).symm
  subst hen
  have up : ∀ v x, Rep none Z v x → Rep (some m) Z v x := fun v x h => h.up (fun _ _ e => e) (fun f e => by cases e)
  refine ⟨rfl, .inl ⟨.tuple #[.bool true, L[j].key, L[j].val], w2, ?_, some i, m, Z, ⟨_, hpi, hfl⟩, ?_, [.bool true, L[j].key, L[j].val], rfl, _, _, rfl, rfl, _, _, rfl, by rw [hgd]; exact up _ _ t2, _, _, rfl, by rw [hgd]; exact up _ _ t3, rfl⟩⟩
  ·have hne : L.isEmpty = false := by simp [Array.isEmpty, hL0]
   simp only [execOp, hX, Instr.next, Sem.run_bind, hg1, hg2, Result.andThen_ok, htest, Bool.false_eq_true, if_false, hL, e1, e2, hne, Array.append_empty, Array.empty_append, Array.size_map, hrun, Array.getElem?_map, Array.getElem?_eq_getElem hj, Option.map_some, hset, Sem.run_pure]
  ·refine Step.write (b := bi) hs (.inr h2) (fun b2 h => h) a2 a3 a4 (by show (w.heap.setIfInBounds bi _).size = _; simp) (fun q hq => by show (w.heap.setIfInBounds bi _)[q]? = _; simp [Array.getElem?_setIfInBounds_ne (Ne.symm hq)]) (fun a x ha e => absurd e (h10 a x ha).2) ?_
   refine ⟨bm, bi, es, clock, since, seen.push L[j].born, clock, h1, h2, h0, ?_, ?_, by rw [unmk_mark]; exact h5, h6, h7, h9, h9, h10, fun i' p e hp he' => ?_, fun i' hi' => ?_, h13⟩
   ·show (w.heap.setIfInBounds bi _)[bm]? = _
    rw [Array.getElem?_setIfInBounds_ne (Ne.symm h0)]; exact h3
   ·show (w.heap.setIfInBounds bi _)[bi]? = _
    simp [hbi]
   ·simp only [mark, List.getElem?_modify] at hp
    by_cases hii : i = i'
    ·subst hii
     rw [hie] at he'; cases he'
     rw [hpi] at hp; simp at hp
     rw [← hp]; simp
    ·obtain ⟨p0, hp0, rfl⟩ := Option.map_eq_some_iff.1 hp
     rw [if_neg hii, ← h11 i' p0 e hp0 he']
     have hne : e.born ≠ L[j].born := fun hb => by
      obtain ⟨hi2, hi3⟩ := Array.getElem?_eq_some_iff.1 he'
      obtain ⟨hi4, hi5⟩ := Array.getElem?_eq_some_iff.1 hie
      rcases Nat.lt_or_gt_of_ne hii with hlt | hlt
      ·have := List.pairwise_iff_getElem.1 h6 i i' (by simpa using hi4) (by simpa using hi2) hlt
       simp only [Array.getElem_toList, hi3, hi5] at this; omega
      ·have := List.pairwise_iff_getElem.1 h6 i' i (by simpa using hi2) (by simpa using hi4) hlt
       simp only [Array.getElem_toList, hi3, hi5] at this; omega
     rw [Bool.eq_iff_iff]
     simp [hne]
   ·cases hi'
    exact ⟨rfl, _, hie, by simp⟩
end
end Go.EV
namespace Go.EV
open Go Go.RowKit Go.Eng
def unm (l : List (V × V)) : List (Bool × V × V) := l.map fun p => (false, p)
theorem unmk_unm (l : List (V × V)) : unmk (unm l) = l := by rw [unmk, unm, List.map_map]; exact List.map_id l
section
variable {P : Program} {ρ : Env} {dst : Option Tmp} {ty : TypeId} {pos : String} {aft : Array Edge} {gd : Option (Nat × Bool)}
theorem locA_range {x : Operand} {t kt et k : Nat} {l : List (V × V)} (hT : mapT P t = some (kt, et)) (hx : evV ρ x = .mp k) : LocA P ⟨dst, .range t x, ty, pos, aft, gd⟩ ρ [(k, .map l)] (fun q : Nat => q ≠ 0) (fun q => .gv k (itV q)) fun q => [(k, .gen (mapIt q (unm l) none))] := by
 intro ρr m Z w hops hs
 have hX := hops x (by simp [Op.operands])
 rw [hx] at hX
 obtain ⟨f, loc, e, hb, hX⟩ := hX
 cases e
 obtain ⟨bm, es, clock, h1, h2, h3, h4, h5, h6, L0, h7⟩ := hs.holds _ (List.mem_singleton.2 rfl)
 rw [h1] at hb; cases hb
 have hrun := run_range_map (P := P) w t kt et bm es clock (mapT_of hT) h2
 have hbm : bm < w.heap.size := (Array.getElem?_eq_some_iff.1 h2).1
 let m' : M := fun j L => if j = k ∧ L = L0 + 1 then some (w.heap.size, 1) else m j L
 have g1 : m' k (L0 + 1) = some (w.heap.size, 1) := by simp [m']
 have g0 : m' k 0 = some (bm, 1) := by show (if _ then _ else _) = _; rw [if_neg (by omega)]; exact h1
 have hx2 : ∀ j L loc, m j L = some loc → m' j L = some loc := fun j L loc e => by
  by_cases hc : j = k ∧ L = L0 + 1
  ·obtain ⟨rfl, rfl⟩ := hc; have := h7 _ loc e; omega
  ·show (if _ then _ else _) = _; rw [if_neg hc]; exact e
 have hZb : ∀ a x, Z a = some x → a.block < w.heap.size := fun a x ha => frozen_lt hs.frozen ha
 refine ⟨rfl, .inl ⟨_, w.alloc (.mapIter (some bm) clock #[] clock), by simp only [execOp, hX, hrun, Sem.run_bind, Result.andThen_ok, Sem.run_pure], L0 + 1, m', Z, by omega, ⟨⟨fun a x ha => ?_, fun p hp => ?_, by simp [keys], fun p hp q hq _ _ _ => by rw [List.mem_singleton.1 hp, List.mem_singleton.1 hq]⟩, hx2, fun _ _ e => e, rfl, rfl, rfl, ?_, fun b hb _ => heap_alloc_old w _ hb, fun _ h => h, fun j hj => ?_, fun p hp b hb => ?_, fun _ _ e => .inl e⟩, m', rfl, _, g1, rfl⟩⟩
 ·rw [cell_same (heap_alloc_old w _ (hZb a x ha))]; exact hs.frozen a x ha
 ·rw [List.mem_singleton.1 hp]
  refine ⟨bm, w.heap.size, es, clock, clock, #[], clock, g0, g1, by omega, ?_, heap_alloc_new w _, by rw [unmk_unm]; exact h3, h4, h5, Nat.le_refl _, Nat.le_refl _, fun a x ha => ⟨h6 a x ha, by have := hZb a x ha; omega⟩, fun i p e hp he => ?_, fun i hi => (by cases hi), L0 + 1, fun L loc e => ?_⟩
  ·rw [heap_alloc_old w _ hbm]; exact h2
  ·simp only [unm, List.getElem?_map] at hp
   obtain ⟨q, _, rfl⟩ := Option.map_eq_some_iff.1 hp
   simp
  ·have e : m' k L = some loc := e
   by_cases hL : L = L0 + 1
   ·omega
   ·have e' : m k L = some loc := by rw [← e]; exact (if_neg fun h => hL h.2).symm
    have := h7 _ _ e'; omega
 ·show w.heap.size ≤ (w.heap.push _).size
  rw [Array.size_push]; omega
 ·funext L
  have hjk : j ≠ k := fun e => hj (by subst e; simp [keys])
  show (if _ then _ else _) = _
  rw [if_neg fun h => hjk h.1]
 ·rw [List.mem_singleton.1 hp] at hb
  rcases (hb : m' k 0 = some (b, 1) ∨ m' k (L0 + 1) = some (b, 1)) with hb | hb
  ·rw [g0] at hb; cases hb
   exact .inr ⟨_, List.mem_singleton.2 rfl, by have h1' : m k 0 = some (bm, 1) := h1; simp [blk, blk1, Obj.ver, h1']⟩
  ·rw [g1] at hb; cases hb
   exact .inl (Nat.le_refl _)
theorem loc_entry {x : Operand} {q k i : Nat} {l : List (Bool × V × V)} {p : Bool × V × V} (hx : evV ρ x = .gv k (itV q)) (hp : l[i]? = some p) : Loc P ⟨dst, .entry x, ty, pos, aft, gd⟩ ρ [(k, .gen (mapIt q l (some i)))] (.tup [p.2.1, p.2.2]) [(k, .gen (mapIt q l (some i)))] := by
 intro ρr m Z w hops hs _
 have hX := hops x (by simp [Op.operands])
 rw [hx] at hX
 obtain ⟨f, e, loc, hb, hX⟩ := hX
 cases e
 obtain ⟨bm, bi, es, clock, since, seen, last, h1, h2, h0, h3, h4, h5, h6, h7, h8, h9, h10, h11, h12, h13⟩ := hs.holds _ (List.mem_singleton.2 rfl)
 rw [h2] at hb; cases hb
 obtain ⟨hlast, e, he, hse⟩ := h12 i rfl
 have hg1 : (getObj bi).run P w = .ok (.mapIter (some bm) since seen last) w := by simp only [getObj, Sem.run, h4]
 have hg2 : (getObj bm).run P w = .ok (.map es clock) w := by simp only [getObj, Sem.run, h3]
 obtain ⟨_, hget⟩ := h5.get
 obtain ⟨en, t1, t2, t3⟩ := hget i p.2 (by simp [unmk, hp])
 have hen : en = e := by
  have : es.toList[i]? = es[i]? := by simp
  rw [this, he] at t1; exact (Option.some.inj t1).symm
 subst hen
 have hnd : (es.toList.map (·.born)).Nodup := by
  rw [List.Nodup, List.pairwise_map]
  exact h6.imp fun h => Nat.ne_of_lt h
 have hmem : en ∈ es.toList := List.mem_of_getElem? t1
 have hfind : es.find? (·.born == en.born) = some en := by rw [← Array.find?_toList]; exact find_born en es.toList hnd hmem
 have up : ∀ v x, Rep none Z v x → Rep (some m) Z v x := fun v x h => h.up (fun _ _ e => e) (fun f e => by cases e)
 refine ⟨rfl, .inl ⟨.tuple #[en.key, en.val], w, ?_, m, Z, Step.refl hs, [en.key, en.val], rfl, _, _, rfl, up _ _ t2, _, _, rfl, up _ _ t3, rfl⟩⟩
 simp only [execOp, hX, Instr.entry, Sem.run_bind, hg1, hg2, Result.andThen_ok, hse, hlast, bne_self_eq_false, Bool.false_eq_true, if_false, hfind, Sem.run_pure]
end
end Go.EV
namespace Go.EV
open Go Go.RowKit Go.Eng
section
variable {α β : Type}
def encIt (f : α → V) (g : β → V) (L : List (Bool × α × β)) : List (Bool × V × V) := L.map fun p => (p.1, f p.2.1, g p.2.2)
theorem unmk_encIt (f : α → V) (g : β → V) (L : List (Bool × α × β)) : unmk (encIt f g L) = encM f g (L.map (·.2)) := by
 simp [unmk, encIt, encM, List.map_map, Function.comp_def]
theorem map_erase {γ δ : Type} (h : γ → δ) : ∀ (l : List γ) (i : Nat), (l.eraseIdx i).map h = (l.map h).eraseIdx i
 | [], i => by simp
 | a :: l, 0 => rfl
 | a :: l, i + 1 => by simp [map_erase h l i]
theorem RepE.erase {Z : ZM} : ∀ {l : List (V × V)} {es : List MapEntry} (i : Nat), RepE Z l es → RepE Z (l.eraseIdx i) (es.eraseIdx i)
 | [], es, i, h => by cases h; exact rfl
 | (k, v) :: r, es, 0, h => by
  obtain ⟨e, es, rfl, h1, h2, h3⟩ := h
  exact h3
 | (k, v) :: r, es, i + 1, h => by
  obtain ⟨e, es, rfl, h1, h2, h3⟩ := h
  exact ⟨e, _, rfl, h1, h2, RepE.erase i h3⟩
theorem mark_encIt (f : α → V) (g : β → V) (L : List (Bool × α × β)) (j : Nat) : mark (encIt f g L) j = encIt f g (L.modify j fun p => (true, p.2)) := by
 apply List.ext_getElem?
 intro i
 simp only [mark, encIt, List.getElem?_modify, List.getElem?_map]
 cases L[i]? with
 | none => rfl
 | some p => simp only [Option.map_some]; split <;> rfl
theorem RepE.put {Z : ZM} {a b : V} {x y : Value} (ha : Rep none Z a x) (hb : Rep none Z b y) : ∀ {l : List (V × V)} {es : List MapEntry} (i : Nat), RepE Z l es → RepE Z (l.set i (a, b)) (es.modify i fun e => { e with key := x, val := y })
 | [], es, i, h => by cases h; simp [RepE]
 | (k, v) :: r, es, 0, h => by
  obtain ⟨e, es, rfl, h1, h2, h3⟩ := h
  exact ⟨_, es, rfl, ha, hb, h3⟩
 | (k, v) :: r, es, i + 1, h => by
  obtain ⟨e, es, rfl, h1, h2, h3⟩ := h
  exact ⟨e, _, by simp, h1, h2, RepE.put ha hb i h3⟩
variable [DecidableEq α]
theorem mix_nodup {a : α} {c : β} : ∀ {l : List (α × β)} {i : Nat}, l[i]? = some (a, c) → (l.map (·.1)).Nodup → mix a l = i
 | [], i, h, _ => by simp at h
 | (k, b) :: r, 0, h, hn => by simp at h; obtain ⟨rfl, _⟩ := h; simp [mix]
 | (k, b) :: r, i + 1, h, hn => by
  have h' : r[i]? = some (a, c) := by simpa using h
  have hk : a ≠ k := fun e => by
   subst e
   rw [List.map_cons, List.nodup_cons] at hn
   exact hn.1 (List.mem_map.2 ⟨_, List.mem_of_getElem? h', rfl⟩)
  rw [List.map_cons, List.nodup_cons] at hn
  simp [mix, hk, mix_nodup h' hn.2]
variable {P : Program} {ρ : Env} {dst : Option Tmp} {ty : TypeId} {pos : String} {aft : Array Edge} {gd : Option (Nat × Bool)}
theorem loc_deleteIt {f : α → V} {val : α → Value} {g : β → V} {t kt et q k kt2 i : Nat} {x ix : Operand} {L : List (Bool × α × β)} {cur : Option Nat} {b0 : Bool} {a : α} {c0 : β} (hT : mapT P t = some (kt, et)) (K : KeyOK P kt f val) (hx : evV ρ x = .mp k) (hi : evV ρ ix = f a) (hL : L[i]? = some (b0, a, c0)) (hnd : (L.map (·.2.1)).Nodup) :
  Loc P ⟨dst, .call ⟨.builtin .delete, #[x, ix], #[t, kt2]⟩, ty, pos, aft, gd⟩ ρ [(k, .gen (mapIt q (encIt f g L) cur))] (.tup []) [(k, .gen (mapIt q (encIt f g (L.eraseIdx i)) none))] := by
 intro ρr m Z w hops hs _
 have hX := hops x (by simp [Op.operands, Call.operands])
 have hI := K.det _ _ _ _ (hi ▸ hops ix (by simp [Op.operands, Call.operands]))
 rw [hx] at hX
 obtain ⟨m1, loc, e1, e2, hX⟩ := hX
 cases e1
 obtain ⟨bm, bi, es, clock, since, seen, last, h1, h2, h0, h3, h4, h5, h6, h7, h8, h9, h10, h11, h12, h13⟩ := hs.holds _ (List.mem_singleton.2 rfl)
 rw [h1] at e2; cases e2
 rw [unmk_encIt] at h5
 have hli : (L.map (·.2))[i]? = some (a, c0) := by simp [hL]
 have hmi : mix a (L.map (·.2)) = i := mix_nodup hli (by rw [List.map_map]; exact hnd)
 have hkeys := (h5.find K.det a 0).1
 have hlen : es.toList.length = (L.map (·.2)).length := by have := congrArg List.length hkeys; simpa using this
 have hfind := K.find a es.toList _ w hkeys
 rw [findP_mix a (L.map (·.2)) es.toList 0 hlen, hmi] at hfind
 have hc := K.check es.isEmpty a w
 have hu := mapT_of hT
 have hie : i < es.size := by have := (List.getElem?_eq_some_iff.1 hli).1; simp at hlen this; omega
 have hbl : bm < w.heap.size := (Array.getElem?_eq_some_iff.1 h3).1
 rw [show es.toList[i]? = some es[i] by simp [hie]] at hfind
 have he : (es.eraseIdxIfInBounds i).toList = es.toList.eraseIdx i := by simp
 have hrun : (Builtin.delete_ #[t, kt2] ty #[.map (some bm), val a]).run P w = .ok (.tuple #[]) { w with heap := w.heap.setIfInBounds bm (.map (es.eraseIdxIfInBounds i) clock) } := by
  simp [Builtin.delete_, run_underlying hu, MapKept.run_getObj_map h3, hc, hfind, MapKept.run_setObj_map _ h3]
 refine ⟨rfl, .inl ⟨.tuple #[], { w with heap := w.heap.setIfInBounds bm (.map (es.eraseIdxIfInBounds i) clock) }, by simp [execOp, resolve, invoke, builtin, hX, hI, hrun], m, Z, ?_, [], rfl, rfl⟩⟩
 refine Step.write (b := bm) hs (.inl h1) (fun b2 h => h) rfl rfl rfl (by simp) (fun j hj => by simp [Array.getElem?_setIfInBounds_ne (Ne.symm hj)]) (fun a x ha e => absurd e (h10 a x ha).1) ?_
 refine ⟨bm, bi, _, clock, since, seen, last, h1, h2, h0, by simp [hbl]; rfl, ?_, ?_, ?_, ?_, h8, h9, h10, fun j p e hp he' => ?_, fun j hj => (by cases hj), h13⟩
 ·show (w.heap.setIfInBounds bm _)[bi]? = _
  rw [Array.getElem?_setIfInBounds_ne h0]; exact h4
 ·have hq := h5.erase i
  rw [he, unmk_encIt]
  have hh : encM f g ((L.eraseIdx i).map (·.2)) = (encM f g (L.map (·.2))).eraseIdx i := by
   rw [encM, encM, map_erase, map_erase]
  rw [hh]; exact hq
 ·rw [he]; exact h6.sublist (List.eraseIdx_sublist ..)
 ·rw [he]; exact fun e he => h7 e ((List.eraseIdx_sublist ..).subset he)
 ·have he' : (es.toList.eraseIdx i)[j]? = some e := by rw [← he, Array.getElem?_toList]; exact he'
  simp only [encIt, List.getElem?_map] at hp
  obtain ⟨q', hq, rfl⟩ := Option.map_eq_some_iff.1 hp
  rw [List.getElem?_eraseIdx] at hq he'
  split at hq
  ·rename_i hlt
   rw [if_pos hlt] at he'
   exact h11 j _ e (by simp [encIt, hq]) (by simpa using he')
  ·rename_i hlt
   rw [if_neg hlt] at he'
   exact h11 (j + 1) _ e (by simp [encIt, hq]) (by simpa using he')
theorem loc_storeIt {f : α → V} {val : α → Value} {g : β → V} {t kt et q k i : Nat} {x ix y : Operand} {L : List (Bool × α × β)} {cur : Option Nat} {b0 : Bool} {a : α} {c0 c : β} (hT : mapT P t = some (kt, et)) (K : KeyOK P kt f val) (hx : evV ρ x = .mp k) (hi : evV ρ ix = f a) (hy : evV ρ y = g c) (hr : (g c).refs = []) (hra : (f a).refs = []) (hL : L[i]? = some (b0, a, c0)) (hnd : (L.map (·.2.1)).Nodup) :
  Loc P ⟨dst, .mapUpdate t x ix y, ty, pos, aft, gd⟩ ρ [(k, .gen (mapIt q (encIt f g L) cur))] .no [(k, .gen (mapIt q (encIt f g (L.set i (b0, a, c))) none))] := by
 intro ρr m Z w hops hs _
 have hX := hops x (by simp [Op.operands])
 have hI0 := hops ix (by simp [Op.operands])
 have hY := hops y (by simp [Op.operands])
 have hI := K.det _ _ _ _ (hi ▸ hI0)
 rw [hx] at hX; rw [hy] at hY
 have hY : Rep none Z (g c) (ev ρr y) := Rep.flat _ _ hr hY
 have hA : Rep none Z (f a) (val a) := K.rep _ _ _
 obtain ⟨m1, loc, e1, e2, hX⟩ := hX
 cases e1
 obtain ⟨bm, bi, es, clock, since, seen, last, h1, h2, h0, h3, h4, h5, h6, h7, h8, h9, h10, h11, h12, h13⟩ := hs.holds _ (List.mem_singleton.2 rfl)
 rw [h1] at e2; cases e2
 rw [unmk_encIt] at h5
 have hli : (L.map (·.2))[i]? = some (a, c0) := by simp [hL]
 have hmi : mix a (L.map (·.2)) = i := mix_nodup hli (by rw [List.map_map]; exact hnd)
 have hkeys := (h5.find K.det a 0).1
 have hlen : es.toList.length = (L.map (·.2)).length := by have := congrArg List.length hkeys; simpa using this
 have hfind := K.find a es.toList _ w hkeys
 rw [findP_mix a (L.map (·.2)) es.toList 0 hlen, hmi] at hfind
 have hc := K.check false a w
 have hu := mapT_of hT
 have hie : i < es.size := by have := (List.getElem?_eq_some_iff.1 hli).1; simp at hlen this; omega
 have hbl : bm < w.heap.size := (Array.getElem?_eq_some_iff.1 h3).1
 have hil : i < (es.toList.map (·.key)).length := by simpa using hie
 have hkey : es[i].key = val a := by
  have := congrArg (·[i]?) hkeys
  simp only [List.getElem?_map] at this
  rw [show es.toList[i]? = some es[i] by simp [hie], show L[i]? = some (b0, a, c0) from hL] at this
  simpa using this
 have hq : es[i]? = some es[i] := Array.getElem?_eq_getElem hie
 rw [show es.toList[i]? = some es[i] by simp [hie]] at hfind
 let es' := es.modify i fun e => { e with key := val a, val := ev ρr y }
 have he : es'.toList = es.toList.modify i fun e => { e with key := val a, val := ev ρr y } := Array.toList_modify ..
 have hborn : ∀ (j : Nat) (e : MapEntry), (es.toList.modify i fun e => { e with key := val a, val := ev ρr y })[j]? = some e → ∃ e0, es.toList[j]? = some e0 ∧ e.born = e0.born := fun j e h => by
  rw [List.getElem?_modify] at h
  obtain ⟨e0, h', rfl⟩ := Option.map_eq_some_iff.1 h
  refine ⟨e0, h', ?_⟩
  split <;> rfl
 have hrun : (Instr.mapUpdate t (.map (some bm)) (val a) (ev ρr y)).run P w = .ok () { w with heap := w.heap.setIfInBounds bm (.map es' clock) } := by
  simp [Instr.mapUpdate, run_underlying hu, MapKept.run_getObj_map h3, hc, hfind, Instr.keyThatStays, hq, hkey, K.bits, MapKept.run_setObj_map _ h3, es']
 refine ⟨rfl, .inr (.inl ⟨{ w with heap := w.heap.setIfInBounds bm (.map es' clock) }, by simp only [execOp, hX, hI, Sem.run_bind, hrun, Result.andThen_ok, Sem.run_pure], m, Z, ?_, rfl⟩)⟩
 refine Step.write (b := bm) hs (.inl h1) (fun b2 h => h) rfl rfl rfl (by simp) (fun j hj => by simp [Array.getElem?_setIfInBounds_ne (Ne.symm hj)]) (fun a x ha e => absurd e (h10 a x ha).1) ?_
 refine ⟨bm, bi, es', clock, since, seen, last, h1, h2, h0, by simp [hbl], ?_, ?_, ?_, ?_, h8, h9, h10, fun j p e hp he' => ?_, fun j hj => (by cases hj), h13⟩
 ·show (w.heap.setIfInBounds bm _)[bi]? = _
  rw [Array.getElem?_setIfInBounds_ne h0]; exact h4
 ·rw [he, unmk_encIt]
  have hh : encM f g ((L.set i (b0, a, c)).map (·.2)) = (encM f g (L.map (·.2))).set i (f a, g c) := by
   rw [encM, encM, List.map_set, List.map_set]
  rw [hh]; exact RepE.put hA hY i h5
 ·rw [he, List.pairwise_iff_getElem]
  intro j j' hj hj' hjj
  simp only [List.length_modify] at hj hj'
  have := List.pairwise_iff_getElem.1 h6 j j' hj hj' hjj
  rw [List.getElem_modify, List.getElem_modify]
  split <;> split <;> exact this
 ·rw [he]
  intro e hm
  obtain ⟨j, hj, rfl⟩ := List.getElem_of_mem hm
  obtain ⟨e0, g1, g2⟩ := hborn j _ (List.getElem?_eq_getElem hj)
  rw [g2]; exact h7 e0 (List.mem_of_getElem? g1)
 ·have he' : (es.toList.modify i fun e => { e with key := val a, val := ev ρr y })[j]? = some e := by rw [← he, Array.getElem?_toList]; exact he'
  obtain ⟨e0, g1, g2⟩ := hborn j e he'
  simp only [encIt, List.getElem?_map] at hp
  obtain ⟨q', hq', rfl⟩ := Option.map_eq_some_iff.1 hp
  have g1 : es[j]? = some e0 := by simpa using g1
  rw [g2]
  rw [List.getElem?_set] at hq'
  split at hq'
  ·rename_i hij
   subst hij
   split at hq'
   ·cases hq'
    exact h11 i (b0, f a, g c0) e0 (by simp [encIt, hL]) g1
   ·cases hq'
  ·exact h11 j _ e0 (by simp [encIt, hq']) g1
end
section
variable {K0 : List Nat} {ρ : Env} {H : Heap}
theorem Step.itEnd {m : M} {Z : ZM} {w : World} {q k : Nat} {l : List (Bool × V × V)} {cur : Option Nat} (hs : SimH m Z [(k, .gen (mapIt q l cur))] w) : Step m Z [(k, .gen (mapIt q l cur))] w m Z [(k, .map (unmk l))] w := by
 obtain ⟨bm, bi, es, clock, since, seen, last, h1, h2, h0, h3, h4, h5, h6, h7, h8, h9, h10, h11, h12, h13⟩ := hs.holds _ (List.mem_singleton.2 rfl)
 refine ⟨⟨hs.frozen, fun p hp => ?_, by simp [keys], fun p hp q hq _ _ _ => by rw [List.mem_singleton.1 hp, List.mem_singleton.1 hq]⟩, fun _ _ _ e => e, fun _ _ e => e, rfl, rfl, rfl, Nat.le_refl _, fun _ _ _ => rfl, fun _ h => h, fun _ _ => rfl, fun p hp b' hb => .inr ⟨_, List.mem_singleton.2 rfl, ?_⟩, fun _ _ e => .inl e⟩
 ·rw [List.mem_singleton.1 hp]
  exact ⟨bm, es, clock, h1, h3, h5, h6, fun e he => by have := h7 e he; omega, fun a x ha => (h10 a x ha).1, h13⟩
 ·rw [List.mem_singleton.1 hp] at hb
  have h1' : m k 0 = some (bm, 1) := h1
  simp [blk, blk1, Obj.ver, h1'] at hb
  subst hb
  exact .inl h1
theorem cut_itEnd (q k : Nat) {l : List (Bool × V × V)} {cur : Option Nat} (hF : selH [k] H = some [(k, .gen (mapIt q l cur))]) {H1 : Heap} (hH1 : [(k, .map (unmk l))] ++ remH [k] H = H1) : Cut K0 ρ H ρ H1 := fun c ρr w S => by
 subst hH1
 exact SimA.step (by simp [nodupB]) hF (keys_all_fresh fun p hp => by rw [List.mem_singleton.1 hp]; exact List.mem_singleton.2 rfl) (fun m Z hs _ hR => ⟨m, Z, Step.itEnd hs, hR⟩) S
theorem cut_itCur (q k : Nat) {l : List (Bool × V × V)} {cur : Option Nat} (hF : selH [k] H = some [(k, .gen (mapIt q l cur))]) {H1 : Heap} (hH1 : [(k, .gen (mapIt q l none))] ++ remH [k] H = H1) : Cut K0 ρ H ρ H1 := fun c ρr w S => by
 subst hH1
 refine SimA.step (by simp [nodupB]) hF (keys_all_fresh fun p hp => by rw [List.mem_singleton.1 hp]; exact List.mem_singleton.2 rfl) (fun m Z hs _ hR => ⟨m, Z, ⟨⟨hs.frozen, fun p hp => ?_, by simp [keys], fun p hp q hq _ _ _ => by rw [List.mem_singleton.1 hp, List.mem_singleton.1 hq]⟩, fun _ _ _ e => e, fun _ _ e => e, rfl, rfl, rfl, Nat.le_refl _, fun _ _ _ => rfl, fun _ h => h, fun _ _ => rfl, fun p hp b' hb => .inr ⟨_, List.mem_singleton.2 rfl, ?_⟩, fun _ _ e => .inl e⟩, hR⟩) S
 ·rw [List.mem_singleton.1 hp]
  obtain ⟨bm, bi, es, clock, since, seen, last, h1, h2, h0, h3, h4, h5, h6, h7, h8, h9, h10, h11, h12, h13⟩ := hs.holds _ (List.mem_singleton.2 rfl)
  exact ⟨bm, bi, es, clock, since, seen, last, h1, h2, h0, h3, h4, h5, h6, h7, h8, h9, h10, h11, fun i hi => (by cases hi), h13⟩
 ·rw [List.mem_singleton.1 hp] at hb; exact hb
end
end Go.EV
namespace Go.EV
def orO {α β : Type} : Option α → (α → Option β) → Option β → Option β
 | some a, f, _ => f a
 | none, _, g => g
theorem orO_none {α β : Type} {o : Option α} {f : α → Option β} {g : Option β} {r : β} (h : o = none) (hs : orO o f g = some r) : g = some r := by subst h; exact hs
theorem orO_some {α β : Type} {o : Option α} {f : α → Option β} {g : Option β} {r : β} {a : α} (h : o = some a) (hs : orO o f g = some r) : f a = some r := by subst h; exact hs
theorem sl_len {sz k L L' : Nat} (h : L = L') (m : Option M) (Z : ZM) (x : Value) (hx : Rep m Z (.sl sz k L 0 L) x) : Rep m Z (.sl sz k L' 0 L') x := by subst h; exact hx
end Go.EV
namespace Go.EV
open Go Go.RowKit Go.Eng
section
variable {P : Program} {f : FuncId} {args args2 : List V} {F F' F2 F2' G : Heap} {r r2 : V} {s : Nat → Bool}
theorem FnA.perm (h : FnA P f args F r F') (hp : F.Perm F2) (hp' : F'.Perm F2') : FnA P f args F2 r F2' := by
 intro w m Z vals hs hv hnone
 refine Calls.mono (h w m Z vals (hs.perm hp.symm) hv fun k hk L => hnone k (fun hk' => hk ((hp.map _).mem_iff.2 hk')) L) ?_
 rintro en w' ⟨x, m', Z', he, st, hx⟩
 exact ⟨x, m', Z', he, (st.permL hp).permR hp', hx⟩
theorem FnA.weaken (h : FnA P f args F r F') (ha : ∀ (m : M) (Z : ZM) (vals : List Value), RepL (some m) Z args2 vals → RepL (some m) Z args vals) (hr : ∀ (m : M) (Z : ZM) (x : Value), Rep (some m) Z r x → Rep (some m) Z r2 x) : FnA P f args2 F r2 F' := by
 intro w m Z vals hs hv hnone
 refine Calls.mono (h w m Z vals hs (ha m Z vals hv) hnone) ?_
 rintro en w' ⟨x, m', Z', he, st, hx⟩
 exact ⟨x, m', Z', he, st, hr _ _ _ hx⟩
theorem Conv.trans (h : Conv s F F2) (k : Conv s F2 F2') : Conv s F F2' := by
 intro m Z w hs
 obtain ⟨m1, a1, a2, a3, a4, a5⟩ := h m Z w hs
 obtain ⟨m2, b1, b2, b3, b4, b5⟩ := k m1 Z w a1
 refine ⟨m2, b1, b2, fun a ha hk => ?_, fun a ha hk => ?_, fun p hp b hb => ?_⟩
 ·rw [← a3 a ha hk]
  by_cases hk2 : a ∈ keys F2
  ·exact b3 a ha hk2
  ·rw [b4 a ha hk2, a2 a hk2 0]
 ·by_cases hk2 : a ∈ keys F2
  ·rw [b3 a ha hk2]; exact a4 a ha hk
  ·exact b4 a ha hk2
 ·obtain ⟨q, hq, hqb⟩ := b5 p hp b hb
  exact a5 q hq b hqb
theorem Conv.sub (τ : Nat → Nat) (hn : (keys F2).Nodup) (hτ : ((keys F2).map τ).Nodup) (hmem : ∀ p ∈ F2, (τ p.1, p.2.ren τ) ∈ F) (hcl : ∀ p ∈ F2, ∀ j ∈ p.2.refs, j ∈ keys F2) (hs1 : ∀ a, s a = true → a ∈ keys F → a ∈ keys F2) (hs2 : ∀ a, s a = true → a ∈ keys F2 → τ a = a) : Conv s F F2 := by
 intro m Z w hs
 have hinj : ∀ {a b : Nat}, a ∈ keys F2 → b ∈ keys F2 → τ a = τ b → a = b := inj_of hτ
 let mc : M := fun k L => if k ∈ keys F2 then m (τ k) L else none
 have hmc : ∀ k ∈ keys F2, mc k = m (τ k) := fun k hk => by funext L; simp [mc, hk]
 have hmcn : ∀ k, k ∉ keys F2 → ∀ L, mc k L = none := fun k hk L => by simp [mc, hk]
 have hblk : ∀ p ∈ F2, blk mc p = blk m (τ p.1, p.2.ren τ) := fun p hp => blk_ren (hmc p.1 (mem_keys hp))
 refine ⟨mc, ⟨hs.frozen, fun p hp => ?_, hn, fun p hp q hq b h1 h2 => ?_⟩, hmcn, fun a ha hk => ?_, fun a ha hk => ?_, fun p hp b hb => ⟨_, hmem p hp, by rw [← hblk p hp]; exact hb⟩⟩
 ·have hh := hs.holds _ (hmem p hp)
  have hk := hmc p.1 (mem_keys hp)
  have hr := hcl p hp
  obtain ⟨k, o⟩ := p
  cases o with
  | box t cs =>
   obtain ⟨b, cur, h1, h2, h3, h4, h5⟩ := hh
   refine ⟨b, cur, by rw [hk]; exact h1, h2, RepL.unren τ cs _ (fun j hj L loc e => ?_) h3, h4, by rw [hk]; exact h5⟩
   rw [hmc j (hr j hj)]; exact e
  | row t sz fz els =>
   rcases hh with ⟨h1, h2, h3, ⟨b, h4⟩, h5⟩ | ⟨b, cap, cur, fr, h1, h2⟩
   ·exact .inl ⟨h1, h2, h3, ⟨b, by rw [hk]; exact h4⟩, by rw [hk]; exact h5⟩
   ·exact .inr ⟨b, cap, cur, fr, by rw [hk]; exact h1, by rw [hk]; exact h2⟩
  | map l =>
   obtain ⟨b, es, clock, h1, h2⟩ := hh
   exact ⟨b, es, clock, by rw [hk]; exact h1, by rw [hk]; exact h2⟩
  | glob g t cs => exact ⟨by rw [hk]; exact hh.1, hh.2.1, by rw [hk]; exact hh.2.2⟩
  | nest t e sz pd ls =>
   show HoldsN (mc k) _ _ t e sz pd ls
   rw [hk]; exact hh
  | gen G =>
   show G.holds (mc k) _ _
   rw [hk]; exact hh
 ·rw [hblk p hp] at h1
  rw [hblk q hq] at h2
  exact hinj (mem_keys hp) (mem_keys hq) (hs.disj _ (hmem p hp) _ (hmem q hq) b h1 h2)
 ·have hk2 := hs1 a ha hk
  rw [hmc a hk2, hs2 a ha hk2]
 ·by_cases hk2 : a ∈ keys F2
  ·exact absurd (by
    obtain ⟨p, hp, rfl⟩ := List.mem_map.1 hk2
    have := mem_keys (hmem p hp)
    rw [show (τ p.1, p.2.ren τ).1 = τ p.1 from rfl, hs2 p.1 ha hk2] at this
    exact this) hk
  ·exact hmcn a hk2 0
theorem repL_set {m : Option M} {Z : ZM} : ∀ {cs : List V} {xs : List Value} (j : Nat) {u v : V}, cs[j]? = some u → (∀ x, Rep m Z u x → Rep m Z v x) → RepL m Z cs xs → RepL m Z (cs.set j v) xs
 | [], _, j, u, v, h, _, _ => by simp at h
 | c :: cs, xs, 0, u, v, h, hr, hx => by
  obtain ⟨x, ys, rfl, h1, h2⟩ := hx
  simp at h; subst h
  exact ⟨x, ys, rfl, hr x h1, h2⟩
 | c :: cs, xs, j + 1, u, v, h, hr, hx => by
  obtain ⟨x, ys, rfl, h1, h2⟩ := hx
  exact ⟨x, _, rfl, h1, repL_set j (by simpa using h) hr h2⟩
def closedH (F : Heap) : Prop := ∀ p ∈ F, ∀ j ∈ p.2.refs, j ∈ keys F
theorem SimH.other {m m' : M} {Z : ZM} {w : World} (hs : SimH m Z F w) (hcl : closedH F) (hm : ∀ k ∈ keys F, m' k = m k) : SimH m' Z F w := by
 refine ⟨hs.frozen, fun p hp => ?_, hs.nodup, fun p hp q hq b h1 h2 => ?_⟩
 ·have hh := hs.holds p hp
  have hk := hm p.1 (mem_keys hp)
  have hr := hcl p hp
  obtain ⟨k, o⟩ := p
  cases o with
  | box t cs =>
   obtain ⟨b, cur, h1, h2, h3, h4, h5⟩ := hh
   refine ⟨b, cur, by rw [hk]; exact h1, h2, h3.swap fun j hj L loc e => ?_, h4, by rw [hk]; exact h5⟩
   rw [hm j (hr j hj)]; exact e
  | row t sz fz els =>
   rcases hh with ⟨h1, h2, h3, ⟨b, h4⟩, h5⟩ | ⟨b, cap, cur, fr, h1, h2⟩
   ·exact .inl ⟨h1, h2, h3, ⟨b, by rw [hk]; exact h4⟩, by rw [hk]; exact h5⟩
   ·exact .inr ⟨b, cap, cur, fr, by rw [hk]; exact h1, by rw [hk]; exact h2⟩
  | map l =>
   obtain ⟨b, es, clock, h1, h2⟩ := hh
   exact ⟨b, es, clock, by rw [hk]; exact h1, by rw [hk]; exact h2⟩
  | glob g t cs => exact ⟨by rw [hk]; exact hh.1, hh.2.1, by rw [hk]; exact hh.2.2⟩
  | nest t e sz pd ls =>
   show HoldsN (m' k) _ _ t e sz pd ls
   rw [hk]; exact hh
  | gen G =>
   show G.holds (m' k) _ _
   rw [hk]; exact hh
 ·rw [blk_congr (hm p.1 (mem_keys hp))] at h1
  rw [blk_congr (hm q.1 (mem_keys hq))] at h2
  exact hs.disj p hp q hq b h1 h2
theorem Conv.nil {kb t k e sz : Nat} {cs : List V} (j : Nat) (hj : cs[j]? = some .nils) (hsz : 0 < sz) (hk : k ∉ keys ((kb, .box t cs) :: F)) (hsk : s k = false) (hcl : closedH ((kb, .box t cs) :: F)) :
  Conv s ((kb, .box t cs) :: F) ((kb, .box t (cs.set j (.sl sz k 0 0 0))) :: (k, .row e sz 0 []) :: F) := by
 intro m0 Z w hs0
 let m' : M := fun k' L => if k' = k ∧ L = 0 then some (0, 0) else if k' ∈ keys ((kb, .box t cs) :: F) then m0 k' L else none
 have h1 : m' k 0 = some (0, 0) := by simp [m']
 have h1' : ∀ L loc, m' k L = some loc → L = 0 := fun L loc e => by
  by_cases hL : L = 0
  ·exact hL
  ·have : m' k L = none := by
    show (if _ then _ else _) = _
    rw [if_neg (fun h => hL h.2), if_neg hk]
   rw [this] at e; cases e
 have h2 : ∀ a ∈ keys ((kb, .box t cs) :: F), m' a = m0 a := fun a ha => by
  funext L
  show (if _ then _ else _) = _
  have hne : ¬ (a = k ∧ L = 0) := fun h => hk (h.1 ▸ ha)
  rw [if_neg hne, if_pos ha]
 have hs := hs0.other hcl h2
 obtain ⟨b, cur, q1, q2, q3, q4, q5⟩ := hs.holds _ (List.mem_cons_self ..)
 have hnd := hs.nodup
 have hblk : ∀ p ∈ (kb, .box t (cs.set j (.sl sz k 0 0 0))) :: (k, .row e sz 0 []) :: F, ∀ b, blk m' p b → ∃ q ∈ (kb, Obj.box t cs) :: F, q.1 = p.1 ∧ blk m' q b := fun p hp b' hb => by
  rcases List.mem_cons.1 hp with rfl | hp
  ·exact ⟨_, List.mem_cons_self .., rfl, hb⟩
  ·rcases List.mem_cons.1 hp with rfl | hp
   ·simp [blk, blk1, Obj.ver, h1] at hb
   ·exact ⟨p, List.mem_cons_of_mem _ hp, rfl, hb⟩
 refine ⟨m', ⟨hs.frozen, fun p hp => ?_, ?_, fun p hp q hq b h1 h2 => ?_⟩, fun a ha L => ?_, fun a ha hk' => by rw [h2 a hk'], fun a ha hk' => ?_, fun p hp b hb => ?_⟩
 ·rcases List.mem_cons.1 hp with rfl | hp
  ·exact ⟨b, cur, q1, q2, repL_set j hj (fun x hx => ⟨m', (0, 0), rfl, h1, Nat.le_refl _, by show 0 ≤ maxLen; omega, .inr (.inl ⟨rfl, none, hx⟩)⟩) q3, q4, q5⟩
  ·rcases List.mem_cons.1 hp with rfl | hp
   ·exact .inl ⟨hsz, rfl, rfl, ⟨0, h1⟩, fun L loc e => by rw [h1' L loc e]; exact Nat.le_refl _⟩
   ·exact hs.holds p (List.mem_cons_of_mem _ hp)
 ·simp only [keys, List.map_cons, List.nodup_cons, List.mem_cons, not_or] at hnd hk ⊢
  exact ⟨⟨fun e => hk.1 e.symm, hnd.1⟩, hk.2, hnd.2⟩
 ·obtain ⟨p', hp', e1, e2⟩ := hblk p hp b h1
  obtain ⟨q', hq', e3, e4⟩ := hblk q hq b h2
  rw [← e1, ← e3]
  exact hs.disj p' hp' q' hq' b e2 e4
 ·have ha' : a ≠ k ∧ a ∉ keys ((kb, .box t cs) :: F) := by
   simp only [keys, List.map_cons, List.mem_cons, not_or] at ha ⊢
   exact ⟨ha.2.1, ha.1, ha.2.2⟩
  show (if _ then _ else _) = _
  rw [if_neg (fun h => ha'.1 h.1), if_neg ha'.2]
 ·have : a ≠ k := fun e => by rw [e, hsk] at ha; cases ha
  show (if _ then _ else _) = _
  rw [if_neg (fun h => this h.1), if_neg hk']
 ·obtain ⟨p', hp', e1, e2⟩ := hblk p hp b hb
  exact ⟨p', hp', by rwa [blk_congr (h2 p'.1 (mem_keys hp'))] at e2⟩
theorem Conv.weak {kb t : Nat} {cs cs' : List V} (hcl : closedH ((kb, .box t cs) :: F)) (h : ∀ (m : M) (Z : ZM) (xs : List Value), RepL (some m) Z cs xs → RepL (some m) Z cs' xs) : Conv s ((kb, .box t cs) :: F) ((kb, .box t cs') :: F) := by
 intro m0 Z w hs0
 let m : M := fun k' L => if k' ∈ keys ((kb, .box t cs) :: F) then m0 k' L else none
 have h2 : ∀ a ∈ keys ((kb, .box t cs) :: F), m a = m0 a := fun a ha => by
  funext L
  show (if _ then _ else _) = _
  rw [if_pos ha]
 have hs := hs0.other hcl h2
 have hblk : ∀ p ∈ (kb, .box t cs') :: F, ∃ q ∈ (kb, Obj.box t cs) :: F, q.1 = p.1 ∧ blk m q = blk m p := fun p hp => by
  rcases List.mem_cons.1 hp with rfl | hp
  ·exact ⟨_, List.mem_cons_self .., rfl, rfl⟩
  ·exact ⟨p, List.mem_cons_of_mem _ hp, rfl, rfl⟩
 refine ⟨m, ⟨hs.frozen, fun p hp => ?_, hs.nodup, fun p hp q hq b e1 e2 => ?_⟩, fun a ha L => if_neg ha, fun a _ ha => by rw [h2 a ha], fun a _ ha => if_neg ha, fun p hp b hb => ?_⟩
 ·rcases List.mem_cons.1 hp with rfl | hp
  ·obtain ⟨b, cur, q1, q2, q3, q4, q5⟩ := hs.holds _ (List.mem_cons_self ..)
   exact ⟨b, cur, q1, q2, h m Z _ q3, q4, q5⟩
  ·exact hs.holds p (List.mem_cons_of_mem _ hp)
 ·obtain ⟨p', hp', e3, e4⟩ := hblk p hp
  obtain ⟨q', hq', e5, e6⟩ := hblk q hq
  rw [← e3, ← e5]
  exact hs.disj p' hp' q' hq' b (e4 ▸ e1) (e6 ▸ e2)
 ·obtain ⟨p', hp', e3, e4⟩ := hblk p hp
  exact ⟨p', hp', by rw [← blk_congr (h2 p'.1 (mem_keys hp')), e4]; exact hb⟩
theorem Conv.perm (hp : F.Perm F2) (hcl : closedH F2) : Conv s F F2 := by
 intro m0 Z w hs0
 let m : M := fun k' L => if k' ∈ keys F2 then m0 k' L else none
 have h2 : ∀ a ∈ keys F2, m a = m0 a := fun a ha => by
  funext L
  show (if _ then _ else _) = _
  rw [if_pos ha]
 have hs := (hs0.perm hp).other hcl h2
 have hk : ∀ a, a ∈ keys F ↔ a ∈ keys F2 := fun a => (hp.map _).mem_iff
 refine ⟨m, hs, fun a ha L => if_neg ha, fun a _ ha => by rw [h2 a ((hk a).1 ha)], fun a _ ha => if_neg (fun h => ha ((hk a).2 h)), fun p hp' b hb => ⟨p, hp.mem_iff.2 hp', by rw [← blk_congr (h2 p.1 (mem_keys hp'))]; exact hb⟩⟩
theorem Holds.flat {m m' : M} {Z : ZM} {w : World} {k : Nat} {o : Obj} (h : Holds m Z w k o) (hk : m' k = m k) (hr : o.refs = []) : Holds m' Z w k o := by
 cases o with
 | box t cs =>
  obtain ⟨b, cur, h1, h2, h3, h4, h5⟩ := h
  refine ⟨b, cur, by rw [hk]; exact h1, h2, h3.swap fun j hj L loc e => ?_, h4, by rw [hk]; exact h5⟩
  have hr : refsL cs = [] := hr
  rw [hr] at hj; cases hj
 | row t sz fz els =>
  rcases h with ⟨h1, h2, h3, ⟨b, h4⟩, h5⟩ | ⟨b, cap, cur, fr, h1, h2⟩
  ·exact .inl ⟨h1, h2, h3, ⟨b, by rw [hk]; exact h4⟩, by rw [hk]; exact h5⟩
  ·exact .inr ⟨b, cap, cur, fr, by rw [hk]; exact h1, by rw [hk]; exact h2⟩
 | map l =>
  obtain ⟨b, es, clock, h1, h2⟩ := h
  exact ⟨b, es, clock, by rw [hk]; exact h1, by rw [hk]; exact h2⟩
 | glob g t cs => exact ⟨by rw [hk]; exact h.1, h.2.1, by rw [hk]; exact h.2.2⟩
 | nest t e sz pd ls =>
  show HoldsN (m' k) _ _ t e sz pd ls
  rw [hk]; exact h
 | gen G =>
  show G.holds (m' k) _ _
  rw [hk]; exact h
theorem FnA.hideE (k : Nat) (E : Heap) (h : FnA P f args (F ++ G) r (F' ++ (E ++ G))) (hcv : Conv s F' F2) (ha : hkBL s args = true) (hr : ∀ j ∈ r.refs, j ∈ keys E) (hE : ∀ p ∈ E, p.2.refs = []) (hkE : k ∉ keys E) (hFE : ∀ j ∈ keys E, j ∉ keys F ∧ j ∉ keys G ∧ j ∉ keys F' ∧ s j = false) (hG : G.all isGl = true) (hkG : k ∉ keys G) (hFG : ∀ j ∈ keys F, j ∉ keys G) (hFG' : ∀ j ∈ keys F', j ∉ keys G) (hsG : ∀ a, s a = true → a ∉ keys G) :
  FnA P f (hkL k args) ((k, .gen (EV.hide s F)) :: G) r ((k, .gen (EV.hide s F2)) :: (E ++ G)) := by
 intro w m Z vals hs hv hnone
 obtain ⟨m0, g, hg, h1, h2, h3, h4, h5, h6, h7, h8⟩ := hs.holds (k, .gen (EV.hide s F)) (List.mem_cons_self ..)
 have hblk0 : ∀ b, (∃ p ∈ F, blk m0 p b) → blk m (k, .gen (EV.hide s F)) b := fun b ⟨p, hp, hb⟩ => ⟨g, hg, h5 p hp b hb⟩
 let m1 : M := fun j => if j ∈ keys G then m j else m0 j
 have m1G : ∀ j ∈ keys G, m1 j = m j := fun j hj => if_pos hj
 have m1F : ∀ j, j ∉ keys G → m1 j = m0 j := fun j hj => if_neg hj
 have hmono : ∀ j L loc, m0 j L = some loc → m1 j L = some loc := fun j L loc e => by
  by_cases hj : j ∈ keys G
  ·rw [h4 j (fun hh => hFG j hh hj)] at e; cases e
  ·rw [m1F j hj]; exact e
 have holdG : ∀ q ∈ G, Holds m1 Z w q.1 q.2 := fun q hq => by
  have hh := hs.holds q (List.mem_cons_of_mem _ hq)
  have hk := m1G q.1 (mem_keys hq)
  have hgl := (List.all_eq_true.1 hG) q hq
  obtain ⟨j, o⟩ := q
  cases o <;> simp only [isGl, Bool.false_eq_true] at hgl
  exact ⟨by rw [hk]; exact hh.1, hh.2.1, by rw [hk]; exact hh.2.2⟩
 have bF : ∀ p ∈ F, blk m1 p = blk m0 p := fun p hp => blk_congr (m1F p.1 (hFG _ (mem_keys hp)))
 have bG : ∀ q ∈ G, blk m1 q = blk m q := fun q hq => blk_congr (m1G q.1 (mem_keys hq))
 have cross : ∀ p ∈ F, ∀ q ∈ G, ∀ b, blk m1 p b → blk m1 q b → False := fun p hp q hq b e1 e2 => by
  rw [bF p hp] at e1; rw [bG q hq] at e2
  have e : k = q.1 := hs.disj _ (List.mem_cons_self ..) q (List.mem_cons_of_mem _ hq) b (hblk0 b ⟨p, hp, e1⟩) e2
  exact hkG (by rw [e]; exact mem_keys hq)
 have hs1 : SimH m1 Z (F ++ G) w := by
  refine ⟨hs.frozen, fun p hp => ?_, ?_, fun p hp q hq b e1 e2 => ?_⟩
  ·rcases List.mem_append.1 hp with hp | hp
   ·exact (h1 p hp).keep hmono (m1F p.1 (hFG _ (mem_keys hp))) (fun _ _ e => e) fun b _ => ⟨rfl, fun _ _ e _ => e⟩
   ·exact holdG p hp
  ·rw [keys_append]
   have := hs.nodup
   exact List.nodup_append.2 ⟨h2, (List.nodup_cons.1 this).2, fun a ha b hb e => hFG a ha (e ▸ hb)⟩
  ·rcases List.mem_append.1 hp with hp | hp <;> rcases List.mem_append.1 hq with hq | hq
   ·rw [bF p hp] at e1; rw [bF q hq] at e2; exact h3 p hp q hq b e1 e2
   ·exact (cross p hp q hq b e1 e2).elim
   ·exact (cross q hq p hp b e2 e1).elim
   ·rw [bG p hp] at e1; rw [bG q hq] at e2
    exact hs.disj p (List.mem_cons_of_mem _ hp) q (List.mem_cons_of_mem _ hq) b e1 e2
 refine Calls.mono (h w m1 Z vals hs1 (RepL.unhk (fun a loc hsa e => by rw [m1F a (hsG a hsa), ← h7 a hsa]; exact e) args vals ha hv) fun j hj L => ?_) fun en w' ⟨x, m1', Z', he, st, hx⟩ => ?_
 ·rw [keys_append, List.mem_append, not_or] at hj
  rw [m1F j hj.2]; exact h4 j hj.1 L
 obtain ⟨m2, c1, c2, c3, c4, c5⟩ := hcv m1' Z' w' st.sim.left
 have stb : ∀ a loc, s a = true → m k (3 * a) = some loc → m2 a 0 = some loc := fun a loc hsa e => by
  rw [h7 a hsa] at e
  have haF : a ∈ keys F := Classical.byContradiction fun hn => by rw [h4 a hn] at e; cases e
  have haF' : a ∈ keys F' := by
   have := st.keep a (by rw [keys_append]; exact List.mem_append_left _ haF)
   rw [keys_append, keys_append, List.mem_append, List.mem_append] at this
   rcases this with h' | h' | h'
   ·exact h'
   ·have := (hFE a h').2.2.2; rw [hsa] at this; cases this
   ·exact (hFG a haF h').elim
  rw [c3 a hsa haF']
  exact st.mext a 0 loc (by rw [m1F a (hsG a hsa)]; exact e)
 obtain ⟨mk', n1, n2, n3, n4, n5, n6⟩ := next_hide hg h8 (fun b => ∃ p ∈ F2, blk m2 p b) (fun a => m2 a 0) s stb
 let m' : M := fun j => if j = k then mk' else if j ∈ keys E then m1' j else m j
 have hmk : m' k = mk' := if_pos rfl
 have hmE : ∀ j ∈ keys E, m' j = m1' j := fun j hj => (if_neg (fun (e : j = k) => hkE (by rw [← e]; exact hj))).trans (if_pos hj)
 have hmj : ∀ j, j ≠ k → j ∉ keys E → m' j = m j := fun j hj hj2 => (if_neg hj).trans (if_neg hj2)
 have gE : ∀ q ∈ G, q.1 ∉ keys E := fun q hq hh => (hFE _ hh).2.1 (mem_keys hq)
 have new : ∀ b, (EV.hide s F2).blks (m' k) b → ∃ q ∈ F', blk m1' q b := fun b ⟨g', hg', hb⟩ => by
  rw [hmk] at hg' hb
  cases hcur_eq hg' n2
  obtain ⟨_, p, hp, hpb⟩ := n4 b _ hb
  exact c5 p hp b hpb
 have ownOld : ∀ b, (∃ q ∈ F ++ G, blk m1 q b) → ∃ q ∈ (k, .gen (EV.hide s F)) :: G, blk m q b := fun b ⟨q, hq, hb⟩ => by
  rcases List.mem_append.1 hq with hq | hq
  ·rw [bF q hq] at hb; exact ⟨_, List.mem_cons_self .., hblk0 b ⟨q, hq, hb⟩⟩
  ·rw [bG q hq] at hb; exact ⟨q, List.mem_cons_of_mem _ hq, hb⟩
 have m1'G : ∀ q ∈ G, ∀ L loc, m q.1 L = some loc → m1' q.1 L = some loc := fun q hq L loc e => st.mext _ _ _ (by rw [m1G q.1 (mem_keys hq)]; exact e)
 have glv : ∀ q ∈ G, ∃ g ob cs, q.2 = .glob g ob cs := fun q hq => by
  have hgl := (List.all_eq_true.1 hG) q hq
  obtain ⟨j, o⟩ := q
  cases o <;> simp only [isGl, Bool.false_eq_true] at hgl
  exact ⟨_, _, _, rfl⟩
 have bG' : ∀ q ∈ G, ∀ b, blk m q b → blk m1' q b := fun q hq b hb => by
  obtain ⟨g, ob, cs, e⟩ := glv q hq
  obtain ⟨j, o⟩ := q
  simp only at e; subst e
  simp only [blk, blk1, Obj.ver] at hb ⊢
  obtain ⟨loc, e1, e2⟩ := Option.bind_eq_some_iff.1 hb
  rw [m1'G _ hq 0 loc e1]; exact e2
 have hG' : ∀ q ∈ G, Holds m' Z' w' q.1 q.2 := fun q hq => by
  have h' := st.sim.holds q (List.mem_append_right _ (List.mem_append_right _ hq))
  have hm := hs.holds q (List.mem_cons_of_mem _ hq)
  have hk := hmj q.1 (fun e => hkG (e ▸ mem_keys hq)) (gE q hq)
  obtain ⟨g, ob, cs, e⟩ := glv q hq
  obtain ⟨j, o⟩ := q
  simp only at e; subst e
  exact ⟨by rw [hk]; exact hm.1, h'.2.1, by rw [hk]; exact hm.2.2⟩
 have crossN : ∀ q ∈ G, ∀ b, (EV.hide s F2).blks (m' k) b → blk m' q b → False := fun q hq b e1 e2 => by
  obtain ⟨p, hp, hpb⟩ := new b e1
  rw [blk_congr (hmj q.1 (fun e => hkG (e ▸ mem_keys hq)) (gE q hq))] at e2
  have := st.sim.disj p (List.mem_append_left _ hp) q (List.mem_append_right _ (List.mem_append_right _ hq)) b hpb (bG' q hq b e2)
  exact hFG' _ (mem_keys hp) (this ▸ mem_keys hq)
 have bE : ∀ q ∈ E, blk m' q = blk m1' q := fun q hq => blk_congr (hmE q.1 (mem_keys hq))
 have inE : ∀ q ∈ E, q ∈ F' ++ (E ++ G) := fun q hq => List.mem_append_right _ (List.mem_append_left _ hq)
 have crossE : ∀ q ∈ E, ∀ b, (EV.hide s F2).blks (m' k) b → blk m' q b → False := fun q hq b e1 e2 => by
  obtain ⟨p, hp, hpb⟩ := new b e1
  rw [bE q hq] at e2
  have := st.sim.disj p (List.mem_append_left _ hp) q (inE q hq) b hpb e2
  exact (hFE q.1 (mem_keys hq)).2.2.1 (this ▸ mem_keys hp)
 have crossEG : ∀ p ∈ E, ∀ q ∈ G, ∀ b, blk m' p b → blk m' q b → False := fun p hp q hq b e1 e2 => by
  rw [bE p hp] at e1
  rw [blk_congr (hmj q.1 (fun e => hkG (e ▸ mem_keys hq)) (gE q hq))] at e2
  have := st.sim.disj p (inE p hp) q (List.mem_append_right _ (List.mem_append_right _ hq)) b e1 (bG' q hq b e2)
  exact (hFE p.1 (mem_keys hp)).2.1 (this ▸ mem_keys hq)
 have knone : ∀ a ∈ keys E, ∀ L, m a L = none := fun a ha L => hnone a (fun hh => by
  rcases List.mem_cons.1 hh with rfl | hh
  ·exact hkE ha
  ·exact (hFE a ha).2.1 hh) L
 have hnd := hs.nodup
 have hsn := st.sim.nodup
 refine ⟨x, m', Z', he, ⟨⟨st.sim.frozen, fun p hp => ?_, ?_, fun p hp q hq b e1 e2 => ?_⟩, fun a L loc e => ?_, st.zext, st.os, st.tape, st.output, st.size, fun b hb hn => st.frame b hb fun p hp hbp => ?_, fun a ha => ?_, fun a ha => hmj a (fun (e : a = k) => ha (by rw [e]; exact List.mem_cons_self ..)) (fun hh => ha (by
  obtain ⟨q, hq, rfl⟩ := List.mem_map.1 hh
  exact mem_keys (List.mem_cons_of_mem _ (List.mem_append_left _ hq)))), fun p hp b hb => ?_, fun a x ha => (st.znew a x ha).imp id (Or.imp id (ownOld _))⟩, ?_⟩
 ·rcases List.mem_cons.1 hp with rfl | hp
  ·show (EV.hide s F2).holds (m' k) Z' w'
   rw [hmk]
   exact ⟨m2, g + 1, n2, c1.holds, c1.nodup, c1.disj, c2, fun p hp b hb => n3 b ⟨p, hp, hb⟩, n4, n5, n6⟩
  ·rcases List.mem_append.1 hp with hp | hp
   ·exact (st.sim.holds p (inE p hp)).flat (hmE p.1 (mem_keys hp)) (hE p hp)
   ·exact hG' p hp
 ·rw [keys_append, keys_append, List.nodup_append, List.nodup_append] at hsn
  simp only [keys, List.map_cons, List.map_append, List.nodup_cons, List.mem_append, not_or] at hnd hkG hkE ⊢
  exact ⟨⟨hkE, hkG⟩, List.nodup_append.2 ⟨hsn.2.1.1, hnd.2, hsn.2.1.2.2⟩⟩
 ·rcases List.mem_cons.1 hp with rfl | hp <;> rcases List.mem_cons.1 hq with rfl | hq
  ·rfl
  ·rcases List.mem_append.1 hq with hq | hq
   ·exact (crossE q hq b e1 e2).elim
   ·exact (crossN q hq b e1 e2).elim
  ·rcases List.mem_append.1 hp with hp | hp
   ·exact (crossE p hp b e2 e1).elim
   ·exact (crossN p hp b e2 e1).elim
  ·rcases List.mem_append.1 hp with hp | hp <;> rcases List.mem_append.1 hq with hq | hq
   ·rw [bE p hp] at e1
    rw [bE q hq] at e2
    exact st.sim.disj p (inE p hp) q (inE q hq) b e1 e2
   ·exact (crossEG p hp q hq b e1 e2).elim
   ·exact (crossEG q hq p hp b e2 e1).elim
   ·rw [blk_congr (hmj p.1 (fun e => hkG (e ▸ mem_keys hp)) (gE p hp))] at e1
    rw [blk_congr (hmj q.1 (fun e => hkG (e ▸ mem_keys hq)) (gE q hq))] at e2
    exact hs.disj p (List.mem_cons_of_mem _ hp) q (List.mem_cons_of_mem _ hq) b e1 e2
 ·by_cases hak : a = k
  ·subst hak; rw [hmk]; exact n1 L loc e
  ·by_cases haE : a ∈ keys E
   ·rw [knone a haE] at e; cases e
   ·rw [hmj a hak haE]; exact e
 ·obtain ⟨q, hq, hqb⟩ := ownOld b ⟨p, hp, hbp⟩
  exact hn q hq hqb
 ·simp only [keys, List.map_cons, List.map_append, List.mem_cons, List.mem_append] at ha ⊢
  rcases ha with h | h
  ·exact .inl h
  ·exact .inr (.inr h)
 ·rcases List.mem_cons.1 hp with rfl | hp
  ·obtain ⟨q, hq, hqb⟩ := new b hb
   exact (st.blks q (List.mem_append_left _ hq) b hqb).imp id (ownOld b)
  ·rcases List.mem_append.1 hp with hp | hp
   ·rw [bE p hp] at hb
    exact (st.blks p (inE p hp) b hb).imp id (ownOld b)
   ·rw [blk_congr (hmj p.1 (fun e => hkG (e ▸ mem_keys hp)) (gE p hp))] at hb
    exact .inr ⟨p, List.mem_cons_of_mem _ hp, hb⟩
 ·exact hx.swap fun j hj L loc e => by rw [hmE j (hr j hj)]; exact e
theorem FnA.hideNew (k : Nat) (h : FnA P f args [] r F') (hcv : Conv s F' F2) (ha : hkBL s args = true) (hr : r.hkB s = true) (hk : hkL k args = args) (hra : refsL args = []) : FnA P f args [] (r.hk k) [(k, .gen (EV.hide s F2))] := by
 intro w m Z vals hs hv hnone
 have hmk : ∀ L, m k L = none := hnone k (fun h => by cases h)
 let m1 : M := fun j L => if j = k ∧ L = hmark 0 then some (0, 1) else m j L
 have e1 : m1 k (hmark 0) = some (0, 1) := if_pos ⟨rfl, rfl⟩
 have e2 : ∀ L, L ≠ hmark 0 → m1 k L = none := fun L hL => by
  show (if _ then _ else _) = _
  rw [if_neg (fun h => hL h.2)]; exact hmk L
 have e3 : ∀ j, j ≠ k → m1 j = m j := fun j hj => by funext L; exact if_neg fun h => hj h.1
 have up : ∀ j L loc, m j L = some loc → m1 j L = some loc := fun j L loc e => by
  by_cases hj : j = k
  ·subst hj; rw [hmk] at e; cases e
  ·rw [e3 j hj]; exact e
 have hno : ∀ b loc, m1 k (hidx b 0) = some loc → loc = (b, 1) ∧ ∃ p ∈ ([] : Heap), blk (fun _ _ => none) p b := fun b loc e => by
  rw [e2 _ hidx_mark] at e; cases e
 have hh : Holds m1 Z w k (.gen (EV.hide s [])) := ⟨fun _ _ => none, 0, ⟨by rw [e1]; exact fun h => (by cases h), fun g' hg' => e2 _ (by unfold hmark; omega)⟩, fun p hp => (by cases hp), List.nodup_nil, fun p hp => (by cases hp), fun _ _ _ => rfl, fun p hp => (by cases hp), hno, fun a _ => e2 _ hmark_st.symm, fun g' _ b => e2 _ hidx_mark⟩
 have hs' : SimH m1 Z [(k, .gen (EV.hide s []))] w := ⟨hs.frozen, fun p hp => by rw [List.mem_singleton.1 hp]; exact hh, by simp [keys], fun p hp q hq _ _ _ => by rw [List.mem_singleton.1 hp, List.mem_singleton.1 hq]⟩
 have hnb : ∀ b, ¬ blk m1 (k, .gen (EV.hide s [])) b := fun b ⟨g, hg, hb⟩ => by
  have hb : m1 k (hidx b g) = some (b, 1) := hb
  rw [e2 _ hidx_mark] at hb; cases hb
 have key := FnA.hide (G := []) (F := []) (F' := F') k (by simpa using h) hcv ha hr rfl (by simp [keys]) (fun _ hj => by cases hj) (fun _ _ h => by cases h) (fun _ _ h => by cases h)
 refine Calls.mono (key w m1 Z vals hs' (by
  rw [hk]
  exact hv.up (fun _ _ e => e) fun f e => by cases e; exact ⟨m1, rfl, up⟩) fun j hj L => ?_) fun en w' ⟨x, m', Z', he, st, hx⟩ => ⟨x, m', Z', he, ⟨st.sim, fun j L loc e => st.mext _ _ _ (up j L loc e), st.zext, st.os, st.tape, st.output, st.size, fun b hb hn => st.frame b hb fun p hp hbp => ?_, fun a ha => (by cases ha), fun j hj => ?_, fun p hp b hb => ?_, fun a x ha => ?_⟩, hx⟩
 ·have hjk : j ≠ k := fun e => hj (by rw [e]; simp [keys])
  rw [e3 j hjk]; exact hnone j (fun h => by cases h) L
 ·rw [List.mem_singleton.1 hp] at hbp; exact (hnb b hbp).elim
 ·rw [st.newk j hj]
  exact e3 j (fun e => hj (by rw [e]; simp [keys]))
 ·rcases st.blks p hp b hb with h' | ⟨q, hq, e⟩
  ·exact .inl h'
  ·rw [List.mem_singleton.1 hq] at e; exact (hnb b e).elim
 ·rcases st.znew a x ha with h' | h' | ⟨q, hq, e⟩
  ·exact .inl h'
  ·exact .inr (.inl h')
  ·rw [List.mem_singleton.1 hq] at e; exact (hnb _ e).elim
end
theorem renH_id (F : Heap) : renH id F = F := by
 rw [renH]
 refine (List.map_congr_left fun p _ => ?_).trans (List.map_id F)
 obtain ⟨k, o⟩ := p
 cases o <;> simp [Obj.ren, renL_id]
theorem renH_append (σ : Nat → Nat) (F G : Heap) : renH σ (F ++ G) = renH σ F ++ renH σ G := by simp [renH]
theorem FnA.withG {P : Program} {f : FuncId} {args : List V} {F F' : Heap} {r : V} (G : Heap) (h : FnA P f args F r F') (hσ : nodupB (keys F') = true) (hcl : closedB args F = true) (hsub : ((keys F).all (keys F').contains) = true) (hG : ((keys F').all fun a => !((keys G).contains a)) = true) : FnA P f args (F ++ G) r (F' ++ G) := by
 have := FnA.beside id G h (by rw [List.map_id]; exact hσ) hcl hsub (fun p hp q hq e => by
  rw [renH_id] at hp
  have := (List.all_eq_true.1 hG) p.1 (mem_keys hp)
  simp at this
  exact this (by rw [e]; exact mem_keys hq))
 rwa [renL_id, renH_id, V.ren_id, renH_id] at this
def jpv (a : Nat → Nat) (i : Nat) : GVal where
 rep mk x := (i = 0 ∧ x = .pointer none) ∨ ∃ j, i = j + 1 ∧ ∃ loc, mk (3 * a j) = some loc ∧ x = .pointer (some ⟨loc.1, 0, none⟩)
 mono mk mk' x h := by
  rintro (h1 | ⟨j, h1, loc, h2, h3⟩)
  ·exact .inl h1
  ·exact .inr ⟨j, h1, loc, h _ _ h2, h3⟩
 one mk x := by
  rintro (⟨_, rfl⟩ | ⟨_, _, _, _, rfl⟩) <;> exact ⟨rfl, rfl⟩
def ptrT (P : Program) (t : TypeId) : Bool := match P.underlying t with | some (.pointer _) => true | _ => false
theorem ptrT_of {P : Program} {t : TypeId} (h : ptrT P t = true) : ∃ e, P.underlying t = some (.pointer e) := by
 unfold ptrT at h
 split at h
 ·exact ⟨_, by assumption⟩
 ·cases h
section
variable {P : Program} {ρ : Env} {dst : Option Tmp} {ty : TypeId} {pos : String} {aft : Array Edge} {gd : Option (Nat × Bool)} {x y : Operand} {t t' k : Nat} {a : Nat → Nat} {i : Nat}
theorem eqp_none (d : Nat) {w : World} {e : TypeId} (he : P.underlying t = some (.pointer e)) : (Op.equalIn (d + 1) t (.pointer none) (.pointer none)).run P w = .ok true w := by simp [Op.equalIn, run_underlying he]
theorem eqp_some (d : Nat) {w : World} {e : TypeId} {p : Addr} (he : P.underlying t = some (.pointer e)) : (Op.equalIn (d + 1) t (.pointer (some p)) (.pointer none)).run P w = .ok false w := by simp [Op.equalIn, run_underlying he]
theorem jpv_run {ρr : Slots} {w : World} {mk : Nat → Option (Nat × Nat)} {X : Value} (hT : ptrT P t = true) (hx : ev ρr x = X) (hX : (jpv a i).rep mk X) (hy : ev ρr y = .pointer none) :
  (execOp (ev ρr) ⟨dst, .binOp .eql t x y t', ty, pos, aft, gd⟩).run P w = .ok (.value (.bool (decide (i = 0)))) w ∧ (execOp (ev ρr) ⟨dst, .binOp .neq t x y t', ty, pos, aft, gd⟩).run P w = .ok (.value (.bool (!decide (i = 0)))) w := by
 obtain ⟨e, he⟩ := ptrT_of hT
 rcases hX with ⟨rfl, rfl⟩ | ⟨j, rfl, loc, _, rfl⟩
 ·exact run_via hx hy rfl rfl (eqp_none 9999 he)
 ·exact run_via hx hy rfl rfl (eqp_some 9999 he)
theorem loc_jpvNil_eql (hT : ptrT P t = true) (hx : evV ρ x = .gv k (jpv a i)) (hy : evV ρ y = .nilp) : Loc P ⟨dst, .binOp .eql t x y t', ty, pos, aft, gd⟩ ρ [] (.bool (decide (i = 0))) [] := by
 intro ρr m Z w hops hs _
 have hX := hops x (by simp [Op.operands])
 have hY := hops y (by simp [Op.operands])
 rw [hx] at hX; rw [hy] at hY
 obtain ⟨f, _, hX⟩ := hX
 exact ⟨rfl, .inl ⟨_, w, (jpv_run hT rfl hX hY).1, m, Z, Step.refl hs, rfl⟩⟩
theorem loc_hplNil_eql {b off : Nat} (hT : ptrT P t = true) (hx : evV ρ x = .gv k (hpl b off)) (hy : evV ρ y = .nilp) : Loc P ⟨dst, .binOp .eql t x y t', ty, pos, aft, gd⟩ ρ [] (.bool false) [] := by
 intro ρr m Z w hops hs _
 have hX := hops x (by simp [Op.operands])
 have hY := hops y (by simp [Op.operands])
 rw [hx] at hX; rw [hy] at hY
 obtain ⟨f, _, loc, _, hX⟩ := hX
 obtain ⟨e, he⟩ := ptrT_of hT
 exact ⟨rfl, .inl ⟨_, w, (run_via hX hY rfl rfl (b := false) (eqp_some 9999 he)).1, m, Z, Step.refl hs, rfl⟩⟩
end
end Go.EV
namespace Go.EV
open Go Go.RowKit Go.Eng
def bytesT (P : Program) (src dst e : TypeId) : Bool := match P.underlying src with
 | some .string => match P.underlying dst with | some (.slice e') => Nat.beq e' e && (match P.underlying e with | some (.int .u8) => true | _ => false) | _ => false
 | _ => false
theorem bytesT_is {P : Program} {src dst e : TypeId} (h : bytesT P src dst e = true) : P.underlying src = some .string ∧ P.underlying dst = some (.slice e) ∧ P.underlying e = some (.int .u8) := by
 unfold bytesT at h
 split at h
 ·split at h
  ·simp only [Bool.and_eq_true] at h
   obtain ⟨h1, h2⟩ := h
   have := Nat.eq_of_beq_eq_true h1
   subst this
   split at h2
   ·exact ⟨by assumption, by assumption, by assumption⟩
   ·cases h2
  ·cases h
 ·cases h
def intsOf (s : List UInt8) : List Int := s.map fun b => (b.toNat : Int)
section
variable {P : Program} {ρ : Env} {dst : Option Tmp} {ty : TypeId} {pos : String} {aft : Array Edge} {gd : Option (Nat × Bool)}
theorem loc_strBytes {s d e k : Nat} {x : Operand} {l : List UInt8} (ht : bytesT P s d e = true) (hx : evV ρ x = .str l) (h63 : l.length ≤ 9223372036854775807) :
  Loc P ⟨dst, .convert s d x, ty, pos, aft, gd⟩ ρ [] (.sl 1 k l.length 0 l.length) [(k, .row e 1 0 ((intsOf l).map (encK .u8)))] := by
 intro ρr m Z w hops hs hfr
 have hX : ev ρr x = .string ⟨l.toArray⟩ := by have := hops x (by simp [Op.operands]); rw [hx] at this; exact this
 obtain ⟨h1, h2, h3⟩ := bytesT_is ht
 have hrun := run_bytes_of_string (P := P) w s d e ⟨l.toArray⟩ h1 h2 h3
 have hsz : (⟨l.toArray⟩ : ByteArray).size = l.length := by simp [ByteArray.size]
 rw [hsz] at hrun
 have hge := grownCap_ge w l.length 0 e
 have hle := grownCap_le_maxLen w l.length 0 e (by simpa [maxLen] using h63)
 generalize hcap : grownCap w l.length 0 e = cap at hrun hge hle
 generalize hrow : bytesRow ⟨l.toArray⟩ cap = row at hrun
 have hrl : row.size = cap := by rw [← hrow]; simp [bytesRow, hsz]; omega
 have hrt : row.toList.take l.length = l.map fun b => Value.int .u8 b.toNat := by
  rw [← hrow]
  simp only [bytesRow, hsz, Array.toList_append, Array.toList_map]
  rw [List.take_append_of_le_length (by simp), List.take_of_length_le (by simp)]
 have hs1 : Step m Z [] w m Z [] w.drew := Step.same hs rfl rfl rfl rfl
 have hel : ((intsOf l).map (encK .u8)).length = l.length := by simp [intsOf]
 have hver : (Obj.row e 1 0 ((intsOf l).map (encK .u8))).ver = l.length := hel
 obtain ⟨m', g1, g2⟩ := Step.new (m := m) (Z := Z) (w := w.drew) (k := k) (o := .row e 1 0 ((intsOf l).map (encK .u8))) (.cells row e (row.size, row.size + 1)) cap hs1.sim.frozen (fun L => hfr k (by simp [keys]) (by simp [keys]) L) fun m' g1 g2 g3 => by
  rw [hver] at g1
  by_cases h0 : cap = 0
  ·have hl0 : l = [] := List.eq_nil_of_length_eq_zero (by omega)
   subst hl0
   rw [h0] at g1
   exact .inl ⟨by omega, rfl, rfl, ⟨_, g1⟩, fun L loc he => by have := g2 L loc he; rw [this, hver]; exact Nat.le_refl _⟩
  ·refine .inr ⟨w.heap.size, cap, row, (row.size, row.size + 1), by rw [hel]; exact g1, by omega, World.alloc_heap_new w.drew _, by rw [hel]; exact hge, hle, by rw [hrl]; omega, by omega, ?_, ?_, .inr (by rw [hrl]; omega), by simp, fun a x ha he => ?_, fun L loc he => by have := g2 L loc he; rw [this, hver, hel]; exact Nat.le_refl _, fun off x ho hx => by omega⟩
   ·rw [hel, Nat.mul_one, hrt]
    have hfl : ((intsOf l).map (encK .u8)).flatten = l.map fun b => V.int .u8 b.toNat := by
     rw [intsOf, List.map_map]
     exact flat_sing (fun b : UInt8 => V.int .u8 b.toNat) l
    rw [hfl]
    exact repL_bytes l
   ·intro c hc
    obtain ⟨n, _, rfl⟩ := List.mem_map.1 hc
    rfl
   ·have := frozen_lt hs1.sim.frozen ha
    have hh : w.drew.heap.size = w.heap.size := rfl
    omega
 rw [hver] at g2
 refine ⟨rfl, .inl ⟨.slice (some ⟨w.heap.size, 0, none⟩) l.length cap, w.drew.alloc (.cells row e (row.size, row.size + 1)), ?_, m', Z, hs1.trans g1, ?_⟩⟩
 ·simp only [execOp, hX, Sem.run_bind, hrun, Result.andThen_ok, Sem.run_pure]
 ·refine ⟨m', _, rfl, g2, by simpa using hge, hle, .inl ?_⟩
  simp
theorem loc_bytesStrP {s d k t fz L o n : Nat} {x : Operand} {l : List Int} (ht : byteT P s d = true) (hx : evV ρ x = .sl 1 k L o n) (hL : L = l.length) (hn : o + n ≤ L) :
  Loc P ⟨dst, .convert s d x, ty, pos, aft, gd⟩ ρ [(k, .row t 1 fz (l.map (encK .u8)))] (.str (bytesOf ((l.drop o).take n))) [(k, .row t 1 fz (l.map (encK .u8)))] := by
 intro ρr m Z w hops hs _
 have hX := hops x (by simp [Op.operands])
 rw [hx] at hX
 subst hL
 obtain ⟨f, loc, e1, e2, e3, e4, e5⟩ := hX
 cases e1
 obtain ⟨e, h1, h2, h3⟩ := byteT_is ht
 have hrun : ∀ X, ev ρr x = X → (convert s d X).run P w = .ok (.string ⟨(bytesOf ((l.drop o).take n)).toArray⟩) w → ∃ x', (execOp (ev ρr) ⟨dst, .convert s d x, ty, pos, aft, gd⟩).run P w = .ok (.value x') w ∧ ∃ m' Z', Step m Z [(k, .row t 1 fz (l.map (encK .u8)))] w m' Z' [(k, .row t 1 fz (l.map (encK .u8)))] w ∧ Rep (some m') Z' (.str (bytesOf ((l.drop o).take n))) x' := fun X hX hr =>
  ⟨_, by simp [execOp, hX, hr], m, Z, Step.refl hs, rfl⟩
 have hnil : ∀ A c, n = 0 → (convert s d (.slice A 0 c)).run P w = .ok (.string ⟨(bytesOf ((l.drop o).take n)).toArray⟩) w := fun A c h0 => by
  subst h0
  cases A with
  | none => exact run_convert_bytes_nil w s e h1 h2 0 c d h3
  | some a =>
   rw [run_convert_bytes_string w s d e _ 0 c h1 h2 h3, run_bytesToString w a 0 c [] (by have := run_loadCells_list (P := P) w a [] (fun j v hj => by simp at hj); simpa using this)]
   rfl
 refine ⟨rfl, .inl ?_⟩
 have hh := hs.holds _ (List.mem_singleton.2 rfl)
 by_cases h0 : n = 0
 ·have : ∃ A c, ev ρr x = .slice A 0 c := by
   rcases e5 with h | ⟨_, A, h⟩ | ⟨_, _, A, c, h, _⟩
   ·subst h0; exact ⟨_, _, h⟩
   ·exact ⟨_, _, h⟩
   ·exact ⟨_, _, h⟩
  obtain ⟨A, c, hX⟩ := this
  obtain ⟨x', g1, g2⟩ := hrun _ hX (hnil A c h0)
  exact ⟨x', w, g1, g2⟩
 ·rcases hh with ⟨_, hn0, _⟩ | ⟨b, cap, cur, fr, g1, g0, g2, g3, g4, g5, g6, g7, g8, g9, g10, g11, g12, g13⟩
  ·rw [List.map_eq_nil_iff] at hn0; subst hn0; simp at hn; omega
  ·simp only [List.length_map] at g1 g3 g7
   rw [g1] at e2; cases e2
   have hfl : (l.map (encK .u8)).flatten = l.map fun n => V.int .u8 n := flat_sing (fun n => V.int .u8 n) l
   rw [hfl, Nat.mul_one] at g7
   have htk := repL_map (enc := fun n => V.int .u8 n) (f := Value.int .u8) (m := none) (Z := Z) (fun a x h => h) g7
   rcases e5 with hX | ⟨hc, _⟩ | ⟨_, hc, _⟩
   ·have hcell : ∀ i, i < n → w.cell? ⟨b, o + i, none⟩ = some (.int .u8 (((l.drop o).take n).getD i 0)) := fun i hi => by
     rw [cell_of_row w b _ cur t fr g2]
     have e7 : (cur.toList.take l.length)[o + i]? = (l.map (Value.int .u8))[o + i]? := by rw [htk]
     rw [List.getElem?_take, if_pos (by omega)] at e7
     have e8 : cur[o + i]? = cur.toList[o + i]? := by simp
     rw [e8, e7]
     have hil : o + i < l.length := by omega
     simp [List.getD_eq_getElem?_getD, List.getElem?_take, hi, List.getElem?_drop, List.getElem?_eq_getElem hil]
    have := run_convert_bytes_arg w s e h1 h2 b o n (cap - o) ((l.drop o).take n) (by simp; omega) hcell d h3
    obtain ⟨x', k1, k2⟩ := hrun _ (by simpa using hX) this
    exact ⟨x', w, k1, k2⟩
   ·simp only at hc; omega
   ·omega
theorem loc_strBytesT {s d e k L : Nat} {x : Operand} {l : List UInt8} (ht : bytesT P s d e = true) (hx : evV ρ x = .str l) (h63 : l.length ≤ 9223372036854775807) (hL : (intsOf l).length = L) :
  Loc P ⟨dst, .convert s d x, ty, pos, aft, gd⟩ ρ [] (.sl 1 k L 0 L) [(k, .row e 1 0 ((intsOf l).map (encK .u8)))] := by
 subst hL
 have e1 : (intsOf l).length = l.length := by simp [intsOf]
 rw [e1]
 exact loc_strBytes ht hx h63
end
end Go.EV
