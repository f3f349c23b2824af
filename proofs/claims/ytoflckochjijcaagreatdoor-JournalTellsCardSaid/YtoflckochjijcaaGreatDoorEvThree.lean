/- Ranges over maps: the map and its iterator as one object; which entry comes next is open. -/
import Derived.Test.YtoflckochjijcaaGreatDoorEwOne
import Derived.Laws.IdiomRangeMap
import Derived.Laws.IdiomStrings
set_option linter.all false
namespace Go.EV
open Go Go.RowKit Go.Eng
section
variable {K0 : List Nat} {c : Ctx K0} {P : Program} {r : Option Nat} {N : Nat} {all rest : List Oper} {o : Oper} {Q : PostV} {ρ : Env} {H : Heap} {ds : List Deferred}
def LocA (P : Program) (o : Oper) (ρ : Env) (F : Heap) {ι : Type} (ok : ι → Prop) (v : ι → V) (F' : ι → Heap) : Prop :=
 ∀ ρr m Z w, (∀ x ∈ o.op.operands, Rep (some m) Z (evV ρ x) (ev ρr x)) → SimH m Z F w → Exec P o ρr w fun x w' => ∃ i m' Z', ok i ∧ Step m Z F w m' Z' (F' i) w' ∧ Rep (some m') Z' (v i) x
theorem ov_alt {F : Heap} {ι : Type} {ok : ι → Prop} {v : ι → V} {F' : ι → Heap} (d : Nat) (ks : List Nat) (hd : o.dst = some d) (hN : Nat.ble (d + 1) N = true) (hw : wantedV all ρ o = some true) (hks : nodupB ks = true) (hF : selH ks H = some F) (hl : LocA P o ρ F ok v F') (hk : ∀ i, keys (F' i) = ks)
  (h : ∀ i, ok i → OpsV c P r N all Q rest ((d, v i) :: ρ) (F' i ++ remH ks H) ds) : OpsV c P r N all Q (o :: rest) ρ H ds := by
 rintro ρr w ds1 ⟨m, Z, S, hR⟩ hM a n hf
 have hp := split_perm S.step.sim.nodup (nodup_of hks) hF
 have hs : SimH m Z (F ++ remH ks H) w := S.step.sim.perm hp
 obtain ⟨hn, hex⟩ := hl ρr m Z w (fun x _ => hR.ev x) hs.left
 have go : ∀ x w', (∃ i m' Z', ok i ∧ Step m Z F w m' Z' (F' i) w' ∧ Rep (some m') Z' (v i) x) → Ops P r N all (liftV c Q ds) rest (upd ρr d x) ds1 w' := fun x w' ⟨i, m', Z', hi, hst, hr⟩ =>
  h i hi _ _ _ ⟨m', Z', S.step' hks hF (keys_all_fresh fun p hp => by rw [← hk i]; exact mem_keys hp) (fun _ _ => hst), (hR.up hst.zext hst.mext).put d hr⟩ (hM.step hs.left hst)
 rcases hex with ⟨x, w', hrun, hx⟩ | ⟨w', hrun, hx⟩ | ⟨f, args, w1, hrun, hx⟩
 ·exact ops_val d x hd hN (wanted_of hR hw) hn hrun (go x w' hx) a n hf
 ·have hw' := (hf.wanted all _).trans (wanted_of hR hw)
  simp only [wpListIn, hw', if_true]
  refine ⟨fun _ _ => trivial, ?_⟩
  rw [semAt_fw hn, hf.eval, hrun, Oper.uponIn_skip, hd]
  exact go _ w' hx _ n (hf.put (Nat.le_of_ble_eq_true hN) _)
 ·exact ops_enter d hd hN (wanted_of hR hw) hn hrun hx (fun e w'' ⟨x, he, hr⟩ => ⟨x, he, go x w'' hr⟩) a n hf
end
def unmk (l : List (Bool × V × V)) : List (V × V) := l.map (·.2)
def mapIt (q : Nat) (l : List (Bool × V × V)) (cur : Option Nat) : GObj where
 holds mk Z w := ∃ (bm bi : Nat) (es : Array MapEntry) (clock since : Nat) (seen : Array Nat) (last : Nat), mk 0 = some (bm, 1) ∧ mk q = some (bi, 1) ∧ bm ≠ bi ∧ w.heap[bm]? = some (.map es clock) ∧ w.heap[bi]? = some (.mapIter (some bm) since seen last) ∧ RepE Z (unmk l) es.toList ∧
  (es.toList.Pairwise fun x y => x.born < y.born) ∧ (∀ e ∈ es.toList, e.born < since) ∧ since ≤ last ∧ since ≤ clock ∧ (∀ a x, Z a = some x → a.block ≠ bm ∧ a.block ≠ bi) ∧ (∀ (i : Nat) p e, l[i]? = some p → es[i]? = some e → seen.contains e.born = p.1) ∧
  (∀ i, cur = some i → last = clock ∧ ∃ e, es[i]? = some e ∧ seen.back? = some e.born) ∧ ∃ L0, ∀ L loc, mk L = some loc → L ≤ L0
 blks mk b := mk 0 = some (b, 1) ∨ mk q = some (b, 1)
 some_ mk b h := by
  rcases h with h | h
  ·exact ⟨0, 1, h, by omega⟩
  ·exact ⟨q, 1, h, by omega⟩
 own mk Z w b := by
  rintro ⟨bm, bi, es, clock, since, seen, last, h1, h2, _, h3, h4, _⟩ (h | h)
  ·rw [h1] at h; cases h; exact ⟨_, h3, rfl⟩
  ·rw [h2] at h; cases h; exact ⟨_, h4, rfl⟩
 keep mk Z Z' w w' := by
  rintro ⟨bm, bi, es, clock, since, seen, last, h1, h2, h0, h3, h4, h5, h6, h7, h8, h9, h10, h11, h12, h13⟩ hZ hw
  obtain ⟨hw1, hz1⟩ := hw bm (.inl h1)
  obtain ⟨hw2, hz2⟩ := hw bi (.inr h2)
  exact ⟨bm, bi, es, clock, since, seen, last, h1, h2, h0, hw1.trans h3, hw2.trans h4, h5.up hZ, h6, h7, h8, h9, fun a x ha => ⟨fun e => (h10 a x (hz1 a x ha e)).1 e, fun e => (h10 a x (hz2 a x ha e)).2 e⟩, h11, h12, h13⟩
def itV (q : Nat) : GVal where
 rep mk x := ∃ loc, mk q = some loc ∧ x = .pointer (some ⟨loc.1, 0, none⟩)
 mono mk mk' x h := by
  rintro ⟨loc, h1, h2⟩
  exact ⟨loc, h _ _ h1, h2⟩
 one mk x := by
  rintro ⟨loc, _, rfl⟩
  exact ⟨rfl, rfl⟩
theorem RepE.get {Z : ZM} : ∀ {l : List (V × V)} {es : List MapEntry}, RepE Z l es → es.length = l.length ∧ ∀ (i : Nat) (p : V × V), l[i]? = some p → ∃ en : MapEntry, es[i]? = some en ∧ Rep none Z p.1 en.key ∧ Rep none Z p.2 en.val
 | [], es, h => by cases h; exact ⟨rfl, fun i p h => by simp at h⟩
 | (k, v) :: r, es, h => by
  obtain ⟨e, es, rfl, h1, h2, h3⟩ := h
  obtain ⟨h4, h5⟩ := RepE.get h3
  refine ⟨by simp [h4], fun i p hp => ?_⟩
  cases i with
  | zero => simp at hp; subst hp; exact ⟨e, rfl, h1, h2⟩
  | succ i => simpa using h5 i p (by simpa using hp)
def mark (l : List (Bool × V × V)) (j : Nat) : List (Bool × V × V) := l.modify j fun p => (true, p.2)
theorem unmk_mark (l : List (Bool × V × V)) (j : Nat) : unmk (mark l j) = unmk l := by
 apply List.ext_getElem?
 intro i
 simp only [unmk, mark, List.getElem?_map, List.getElem?_modify]
 cases l[i]? with
 | none => rfl
 | some p => simp only [Option.map_some]; split <;> rfl
def nextV (l : List (Bool × V × V)) : Option Nat → V
 | none => .tup [.bool false]
 | some j => .tup [.bool true, (l.getD j default).2.1, (l.getD j default).2.2]
def nextF (q k : Nat) (l : List (Bool × V × V)) (cur : Option Nat) : Option Nat → Heap
 | none => [(k, .gen (mapIt q l cur))]
 | some j => [(k, .gen (mapIt q (mark l j) (some j)))]
def nextOk (l : List (Bool × V × V)) : Option Nat → Prop
 | none => ∀ p ∈ l, p.1 = true
 | some j => ∃ p, l[j]? = some p ∧ p.1 = false
section
variable {P : Program} {ρ : Env} {dst : Option Tmp} {ty : TypeId} {pos : String} {aft : Array Edge} {gd : Option (Nat × Bool)}
theorem locA_next {x : Operand} {q k : Nat} {l : List (Bool × V × V)} {cur : Option Nat} (hx : evV ρ x = .gv k (itV q)) : LocA P ⟨dst, .next x false, ty, pos, aft, gd⟩ ρ [(k, .gen (mapIt q l cur))] (nextOk l) (nextV l) (nextF q k l cur) := by
 intro ρr m Z w hops hs
 have hX := hops x (by simp [Op.operands])
 rw [hx] at hX
 obtain ⟨f, e, loc, hb, hX⟩ := hX
 cases e
 obtain ⟨bm, bi, es, clock, since, seen, last, h1, h2, h0, h3, h4, h5, h6, h7, h8, h9, h10, h11, h12, h13⟩ := hs.holds _ (List.mem_singleton.2 rfl)
 rw [h2] at hb; cases hb
 obtain ⟨hlen, hget⟩ := h5.get
 have hlen : es.size = l.length := by simpa [unmk] using hlen
 have hg1 : (getObj bi).run P w = .ok (.mapIter (some bm) since seen last) w := by simp only [getObj, Sem.run, h4]
 have hg2 : (getObj bm).run P w = .ok (.map es clock) w := by simp only [getObj, Sem.run, h3]
 have htest := next_test_false seen es since last h7 h8
 have hmem : ∀ x ∈ (Array.filter (fun e => !seen.contains e.born) es).toList, x ∈ es.toList ∧ seen.contains x.born = false := fun x hx => by simpa using hx
 have hsub : ∀ e ∈ es.toList, seen.contains e.born = false → e ∈ (Array.filter (fun e => !seen.contains e.born) es).toList := fun e he hc => by
  rw [Array.toList_filter, List.mem_filter]; exact ⟨he, by rw [hc]; rfl⟩
 generalize hL : Array.filter (fun e => !seen.contains e.born) es = L at hmem hsub
 have e1 : L.filter (fun x => decide (x.born < since)) = L := Array.filter_eq_self.2 (fun x hx => by simpa using h7 x (hmem x (by simpa using hx)).1)
 have e2 : L.filter (fun x => decide (x.born ≥ since)) = #[] := by
  rw [Array.filter_eq_empty_iff]
  intro x hx
  have := h7 x (hmem x (by simpa using hx)).1
  simp
  omega
 by_cases hL0 : L.size = 0
 ·have hLe : L = #[] := Array.eq_empty_of_size_eq_zero hL0
  subst hLe
  refine ⟨rfl, .inl ⟨.tuple #[.bool false], w, ?_, none, m, Z, fun p hp => ?_, Step.refl hs, [.bool false], rfl, _, _, rfl, rfl, rfl⟩⟩
  ·simp only [execOp, hX, Instr.next, Sem.run_bind, hg1, hg2, Result.andThen_ok, htest, Bool.false_eq_true, if_false, hL, e1, e2]
   simp [choose, Sem.run, Question.forced]
  ·obtain ⟨i, hi, rfl⟩ := List.getElem_of_mem hp
   have hie : i < es.size := by omega
   have := h11 i l[i] es[i] (List.getElem?_eq_getElem hi) (Array.getElem?_eq_getElem hie)
   cases hc : l[i].1 with
   | true => rfl
   | false =>
    rw [hc] at this
    have := hsub es[i] (by simp) this
    simp at this
 ·have hch : ∃ (j : Nat) (w1 : World), j < L.size ∧ (w1.heap = w.heap ∧ w1.os = w.os ∧ w1.tape = w.tape ∧ w1.output = w.output) ∧ (choose (Question.mapNext L.size)).run P w = .ok j w1 := by
   by_cases hf : L.size ≤ 1
   ·exact ⟨0, w, by omega, ⟨rfl, rfl, rfl, rfl⟩, by simp [choose, Sem.run, Question.forced, hf]⟩
   ·exact ⟨_, w.drew, Nat.mod_lt _ (by omega), ⟨rfl, rfl, rfl, rfl⟩, by
     simp only [choose, Sem.run, Question.forced, decide_eq_true_eq, hf, if_false, Question.cut]
     rfl⟩
  obtain ⟨j, w1, hj, ⟨a1, a2, a3, a4⟩, hrun⟩ := hch
  obtain ⟨he, hns⟩ := hmem L[j] (by simp)
  obtain ⟨i, hi, hie⟩ := List.getElem_of_mem he
  have hi' : i < es.size := by simpa using hi
  have hil : i < l.length := by omega
  have hie : es[i]? = some L[j] := by rw [Array.getElem?_eq_getElem hi']; exact congrArg some (by simpa using hie)
  have hpi : l[i]? = some l[i] := List.getElem?_eq_getElem hil
  have hfl : l[i].1 = false := by rw [← h11 i _ _ hpi hie]; exact hns
  have hbi : bi < w.heap.size := (Array.getElem?_eq_some_iff.1 h4).1
  let w2 : World := { w1 with heap := w.heap.setIfInBounds bi (.mapIter (some bm) since (seen.push L[j].born) clock) }
  have hset : (setObj bi (.mapIter (some bm) since (seen.push L[j].born) clock)).run P w1 = .ok () w2 := by
   simp only [setObj, Sem.run, a1, h4]
   rfl
  have hgd : l.getD i default = l[i] := by rw [List.getD_eq_getElem?_getD, hpi]; rfl
  obtain ⟨en, t1, t2, t3⟩ := hget i l[i].2 (by simp [unmk, hpi])
  have hen : en = L[j] := by
   have : es.toList[i]? = es[i]? := by simp
   rw [this, hie] at t1; exact (Option.some.inj t1).symm
  subst hen
  have up : ∀ v x, Rep none Z v x → Rep (some m) Z v x := fun v x h => h.up (fun _ _ e => e) (fun f e => by cases e)
  refine ⟨rfl, .inl ⟨.tuple #[.bool true, L[j].key, L[j].val], w2, ?_, some i, m, Z, ⟨_, hpi, hfl⟩, ?_, [.bool true, L[j].key, L[j].val], rfl, _, _, rfl, rfl, _, _, rfl, by rw [hgd]; exact up _ _ t2, _, _, rfl, by rw [hgd]; exact up _ _ t3, rfl⟩⟩
  ·have hne : L.isEmpty = false := by simp [Array.isEmpty, hL0]
   simp only [execOp, hX, Instr.next, Sem.run_bind, hg1, hg2, Result.andThen_ok, htest, Bool.false_eq_true, if_false, hL, e1, e2, hne, Array.append_empty, Array.empty_append, Array.size_map, hrun, Array.getElem?_map, Array.getElem?_eq_getElem hj, Option.map_some, hset, Sem.run_pure]
  ·refine Step.write (b := bi) hs (.inr h2) (fun b2 h => h) a2 a3 a4 (by show (w.heap.setIfInBounds bi _).size = _; simp) (fun q hq => by show (w.heap.setIfInBounds bi _)[q]? = _; simp [Array.getElem?_setIfInBounds_ne (Ne.symm hq)]) (fun a x ha e => absurd e (h10 a x ha).2) ?_
   refine ⟨bm, bi, es, clock, since, seen.push L[j].born, clock, h1, h2, h0, ?_, ?_, by rw [unmk_mark]; exact h5, h6, h7, h9, h9, h10, fun i' p e hp he' => ?_, fun i' hi' => ?_, h13⟩
   ·show (w.heap.setIfInBounds bi _)[bm]? = _
    rw [Array.getElem?_setIfInBounds_ne (Ne.symm h0)]; exact h3
   ·show (w.heap.setIfInBounds bi _)[bi]? = _
    simp [hbi]
   ·simp only [mark, List.getElem?_modify] at hp
    by_cases hii : i = i'
    ·subst hii
     rw [hie] at he'; cases he'
     rw [hpi] at hp; simp at hp
     rw [← hp]; simp
    ·obtain ⟨p0, hp0, rfl⟩ := Option.map_eq_some_iff.1 hp
     rw [if_neg hii, ← h11 i' p0 e hp0 he']
     have hne : e.born ≠ L[j].born := fun hb => by
      obtain ⟨hi2, hi3⟩ := Array.getElem?_eq_some_iff.1 he'
      obtain ⟨hi4, hi5⟩ := Array.getElem?_eq_some_iff.1 hie
      rcases Nat.lt_or_gt_of_ne hii with hlt | hlt
      ·have := List.pairwise_iff_getElem.1 h6 i i' (by simpa using hi4) (by simpa using hi2) hlt
       simp only [Array.getElem_toList, hi3, hi5] at this; omega
      ·have := List.pairwise_iff_getElem.1 h6 i' i (by simpa using hi2) (by simpa using hi4) hlt
       simp only [Array.getElem_toList, hi3, hi5] at this; omega
     rw [Bool.eq_iff_iff]
     simp [hne]
   ·cases hi'
    exact ⟨rfl, _, hie, by simp⟩
end
end Go.EV
namespace Go.EV
open Go Go.RowKit Go.Eng
def unm (l : List (V × V)) : List (Bool × V × V) := l.map fun p => (false, p)
theorem unmk_unm (l : List (V × V)) : unmk (unm l) = l := by rw [unmk, unm, List.map_map]; exact List.map_id l
section
variable {P : Program} {ρ : Env} {dst : Option Tmp} {ty : TypeId} {pos : String} {aft : Array Edge} {gd : Option (Nat × Bool)}
theorem locA_range {x : Operand} {t kt et k : Nat} {l : List (V × V)} (hT : mapT P t = some (kt, et)) (hx : evV ρ x = .mp k) : LocA P ⟨dst, .range t x, ty, pos, aft, gd⟩ ρ [(k, .map l)] (fun q : Nat => q ≠ 0) (fun q => .gv k (itV q)) fun q => [(k, .gen (mapIt q (unm l) none))] := by
 intro ρr m Z w hops hs
 have hX := hops x (by simp [Op.operands])
 rw [hx] at hX
 obtain ⟨f, loc, e, hb, hX⟩ := hX
 cases e
 obtain ⟨bm, es, clock, h1, h2, h3, h4, h5, h6, L0, h7⟩ := hs.holds _ (List.mem_singleton.2 rfl)
 rw [h1] at hb; cases hb
 have hrun := run_range_map (P := P) w t kt et bm es clock (mapT_of hT) h2
 have hbm : bm < w.heap.size := (Array.getElem?_eq_some_iff.1 h2).1
 let m' : M := fun j L => if j = k ∧ L = L0 + 1 then some (w.heap.size, 1) else m j L
 have g1 : m' k (L0 + 1) = some (w.heap.size, 1) := by simp [m']
 have g0 : m' k 0 = some (bm, 1) := by show (if _ then _ else _) = _; rw [if_neg (by omega)]; exact h1
 have hx2 : ∀ j L loc, m j L = some loc → m' j L = some loc := fun j L loc e => by
  by_cases hc : j = k ∧ L = L0 + 1
  ·obtain ⟨rfl, rfl⟩ := hc; have := h7 _ loc e; omega
  ·show (if _ then _ else _) = _; rw [if_neg hc]; exact e
 have hZb : ∀ a x, Z a = some x → a.block < w.heap.size := fun a x ha => frozen_lt hs.frozen ha
 refine ⟨rfl, .inl ⟨_, w.alloc (.mapIter (some bm) clock #[] clock), by simp only [execOp, hX, hrun, Sem.run_bind, Result.andThen_ok, Sem.run_pure], L0 + 1, m', Z, by omega, ⟨⟨fun a x ha => ?_, fun p hp => ?_, by simp [keys], fun p hp q hq _ _ _ => by rw [List.mem_singleton.1 hp, List.mem_singleton.1 hq]⟩, hx2, fun _ _ e => e, rfl, rfl, rfl, ?_, fun b hb _ => heap_alloc_old w _ hb, fun _ h => h, fun j hj => ?_, fun p hp b hb => ?_, fun _ _ e => .inl e⟩, m', rfl, _, g1, rfl⟩⟩
 ·rw [cell_same (heap_alloc_old w _ (hZb a x ha))]; exact hs.frozen a x ha
 ·rw [List.mem_singleton.1 hp]
  refine ⟨bm, w.heap.size, es, clock, clock, #[], clock, g0, g1, by omega, ?_, heap_alloc_new w _, by rw [unmk_unm]; exact h3, h4, h5, Nat.le_refl _, Nat.le_refl _, fun a x ha => ⟨h6 a x ha, by have := hZb a x ha; omega⟩, fun i p e hp he => ?_, fun i hi => (by cases hi), L0 + 1, fun L loc e => ?_⟩
  ·rw [heap_alloc_old w _ hbm]; exact h2
  ·simp only [unm, List.getElem?_map] at hp
   obtain ⟨q, _, rfl⟩ := Option.map_eq_some_iff.1 hp
   simp
  ·have e : m' k L = some loc := e
   by_cases hL : L = L0 + 1
   ·omega
   ·have e' : m k L = some loc := by rw [← e]; exact (if_neg fun h => hL h.2).symm
    have := h7 _ _ e'; omega
 ·show w.heap.size ≤ (w.heap.push _).size
  rw [Array.size_push]; omega
 ·funext L
  have hjk : j ≠ k := fun e => hj (by subst e; simp [keys])
  show (if _ then _ else _) = _
  rw [if_neg fun h => hjk h.1]
 ·rw [List.mem_singleton.1 hp] at hb
  rcases (hb : m' k 0 = some (b, 1) ∨ m' k (L0 + 1) = some (b, 1)) with hb | hb
  ·rw [g0] at hb; cases hb
   exact .inr ⟨_, List.mem_singleton.2 rfl, by have h1' : m k 0 = some (bm, 1) := h1; simp [blk, blk1, Obj.ver, h1']⟩
  ·rw [g1] at hb; cases hb
   exact .inl (Nat.le_refl _)
theorem loc_entry {x : Operand} {q k i : Nat} {l : List (Bool × V × V)} {p : Bool × V × V} (hx : evV ρ x = .gv k (itV q)) (hp : l[i]? = some p) : Loc P ⟨dst, .entry x, ty, pos, aft, gd⟩ ρ [(k, .gen (mapIt q l (some i)))] (.tup [p.2.1, p.2.2]) [(k, .gen (mapIt q l (some i)))] := by
 intro ρr m Z w hops hs _
 have hX := hops x (by simp [Op.operands])
 rw [hx] at hX
 obtain ⟨f, e, loc, hb, hX⟩ := hX
 cases e
 obtain ⟨bm, bi, es, clock, since, seen, last, h1, h2, h0, h3, h4, h5, h6, h7, h8, h9, h10, h11, h12, h13⟩ := hs.holds _ (List.mem_singleton.2 rfl)
 rw [h2] at hb; cases hb
 obtain ⟨hlast, e, he, hse⟩ := h12 i rfl
 have hg1 : (getObj bi).run P w = .ok (.mapIter (some bm) since seen last) w := by simp only [getObj, Sem.run, h4]
 have hg2 : (getObj bm).run P w = .ok (.map es clock) w := by simp only [getObj, Sem.run, h3]
 obtain ⟨_, hget⟩ := h5.get
 obtain ⟨en, t1, t2, t3⟩ := hget i p.2 (by simp [unmk, hp])
 have hen : en = e := by
  have : es.toList[i]? = es[i]? := by simp
  rw [this, he] at t1; exact (Option.some.inj t1).symm
 subst hen
 have hnd : (es.toList.map (·.born)).Nodup := by
  rw [List.Nodup, List.pairwise_map]
  exact h6.imp fun h => Nat.ne_of_lt h
 have hmem : en ∈ es.toList := List.mem_of_getElem? t1
 have hfind : es.find? (·.born == en.born) = some en := by rw [← Array.find?_toList]; exact find_born en es.toList hnd hmem
 have up : ∀ v x, Rep none Z v x → Rep (some m) Z v x := fun v x h => h.up (fun _ _ e => e) (fun f e => by cases e)
 refine ⟨rfl, .inl ⟨.tuple #[en.key, en.val], w, ?_, m, Z, Step.refl hs, [en.key, en.val], rfl, _, _, rfl, up _ _ t2, _, _, rfl, up _ _ t3, rfl⟩⟩
 simp only [execOp, hX, Instr.entry, Sem.run_bind, hg1, hg2, Result.andThen_ok, hse, hlast, bne_self_eq_false, Bool.false_eq_true, if_false, hfind, Sem.run_pure]
end
end Go.EV
namespace Go.EV
open Go Go.RowKit Go.Eng
section
variable {α β : Type}
def encIt (f : α → V) (g : β → V) (L : List (Bool × α × β)) : List (Bool × V × V) := L.map fun p => (p.1, f p.2.1, g p.2.2)
theorem unmk_encIt (f : α → V) (g : β → V) (L : List (Bool × α × β)) : unmk (encIt f g L) = encM f g (L.map (·.2)) := by
 simp [unmk, encIt, encM, List.map_map, Function.comp_def]
theorem map_erase {γ δ : Type} (h : γ → δ) : ∀ (l : List γ) (i : Nat), (l.eraseIdx i).map h = (l.map h).eraseIdx i
 | [], i => by simp
 | a :: l, 0 => rfl
 | a :: l, i + 1 => by simp [map_erase h l i]
theorem RepE.erase {Z : ZM} : ∀ {l : List (V × V)} {es : List MapEntry} (i : Nat), RepE Z l es → RepE Z (l.eraseIdx i) (es.eraseIdx i)
 | [], es, i, h => by cases h; exact rfl
 | (k, v) :: r, es, 0, h => by
  obtain ⟨e, es, rfl, h1, h2, h3⟩ := h
  exact h3
 | (k, v) :: r, es, i + 1, h => by
  obtain ⟨e, es, rfl, h1, h2, h3⟩ := h
  exact ⟨e, _, rfl, h1, h2, RepE.erase i h3⟩
theorem mark_encIt (f : α → V) (g : β → V) (L : List (Bool × α × β)) (j : Nat) : mark (encIt f g L) j = encIt f g (L.modify j fun p => (true, p.2)) := by
 apply List.ext_getElem?
 intro i
 simp only [mark, encIt, List.getElem?_modify, List.getElem?_map]
 cases L[i]? with
 | none => rfl
 | some p => simp only [Option.map_some]; split <;> rfl
theorem RepE.put {Z : ZM} {a b : V} {x y : Value} (ha : Rep none Z a x) (hb : Rep none Z b y) : ∀ {l : List (V × V)} {es : List MapEntry} (i : Nat), RepE Z l es → RepE Z (l.set i (a, b)) (es.modify i fun e => { e with key := x, val := y })
 | [], es, i, h => by cases h; simp [RepE]
 | (k, v) :: r, es, 0, h => by
  obtain ⟨e, es, rfl, h1, h2, h3⟩ := h
  exact ⟨_, es, rfl, ha, hb, h3⟩
 | (k, v) :: r, es, i + 1, h => by
  obtain ⟨e, es, rfl, h1, h2, h3⟩ := h
  exact ⟨e, _, by simp, h1, h2, RepE.put ha hb i h3⟩
variable [DecidableEq α]
theorem mix_nodup {a : α} {c : β} : ∀ {l : List (α × β)} {i : Nat}, l[i]? = some (a, c) → (l.map (·.1)).Nodup → mix a l = i
 | [], i, h, _ => by simp at h
 | (k, b) :: r, 0, h, hn => by simp at h; obtain ⟨rfl, _⟩ := h; simp [mix]
 | (k, b) :: r, i + 1, h, hn => by
  have h' : r[i]? = some (a, c) := by simpa using h
  have hk : a ≠ k := fun e => by
   subst e
   rw [List.map_cons, List.nodup_cons] at hn
   exact hn.1 (List.mem_map.2 ⟨_, List.mem_of_getElem? h', rfl⟩)
  rw [List.map_cons, List.nodup_cons] at hn
  simp [mix, hk, mix_nodup h' hn.2]
variable {P : Program} {ρ : Env} {dst : Option Tmp} {ty : TypeId} {pos : String} {aft : Array Edge} {gd : Option (Nat × Bool)}
theorem loc_deleteIt {f : α → V} {val : α → Value} {g : β → V} {t kt et q k kt2 i : Nat} {x ix : Operand} {L : List (Bool × α × β)} {cur : Option Nat} {b0 : Bool} {a : α} {c0 : β} (hT : mapT P t = some (kt, et)) (K : KeyOK P kt f val) (hx : evV ρ x = .mp k) (hi : evV ρ ix = f a) (hL : L[i]? = some (b0, a, c0)) (hnd : (L.map (·.2.1)).Nodup) :
  Loc P ⟨dst, .call ⟨.builtin .delete, #[x, ix], #[t, kt2]⟩, ty, pos, aft, gd⟩ ρ [(k, .gen (mapIt q (encIt f g L) cur))] (.tup []) [(k, .gen (mapIt q (encIt f g (L.eraseIdx i)) none))] := by
 intro ρr m Z w hops hs _
 have hX := hops x (by simp [Op.operands, Call.operands])
 have hI := K.det _ _ _ _ (hi ▸ hops ix (by simp [Op.operands, Call.operands]))
 rw [hx] at hX
 obtain ⟨m1, loc, e1, e2, hX⟩ := hX
 cases e1
 obtain ⟨bm, bi, es, clock, since, seen, last, h1, h2, h0, h3, h4, h5, h6, h7, h8, h9, h10, h11, h12, h13⟩ := hs.holds _ (List.mem_singleton.2 rfl)
 rw [h1] at e2; cases e2
 rw [unmk_encIt] at h5
 have hli : (L.map (·.2))[i]? = some (a, c0) := by simp [hL]
 have hmi : mix a (L.map (·.2)) = i := mix_nodup hli (by rw [List.map_map]; exact hnd)
 have hkeys := (h5.find K.det a 0).1
 have hlen : es.toList.length = (L.map (·.2)).length := by have := congrArg List.length hkeys; simpa using this
 have hfind := K.find a es.toList _ w hkeys
 rw [findP_mix a (L.map (·.2)) es.toList 0 hlen, hmi] at hfind
 have hc := K.check es.isEmpty a w
 have hu := mapT_of hT
 have hie : i < es.size := by have := (List.getElem?_eq_some_iff.1 hli).1; simp at hlen this; omega
 have hbl : bm < w.heap.size := (Array.getElem?_eq_some_iff.1 h3).1
 rw [show es.toList[i]? = some es[i] by simp [hie]] at hfind
 have he : (es.eraseIdxIfInBounds i).toList = es.toList.eraseIdx i := by simp
 have hrun : (Builtin.delete_ #[t, kt2] ty #[.map (some bm), val a]).run P w = .ok (.tuple #[]) { w with heap := w.heap.setIfInBounds bm (.map (es.eraseIdxIfInBounds i) clock) } := by
  simp [Builtin.delete_, run_underlying hu, MapKept.run_getObj_map h3, hc, hfind, MapKept.run_setObj_map _ h3]
 refine ⟨rfl, .inl ⟨.tuple #[], { w with heap := w.heap.setIfInBounds bm (.map (es.eraseIdxIfInBounds i) clock) }, by simp [execOp, resolve, invoke, builtin, hX, hI, hrun], m, Z, ?_, [], rfl, rfl⟩⟩
 refine Step.write (b := bm) hs (.inl h1) (fun b2 h => h) rfl rfl rfl (by simp) (fun j hj => by simp [Array.getElem?_setIfInBounds_ne (Ne.symm hj)]) (fun a x ha e => absurd e (h10 a x ha).1) ?_
 refine ⟨bm, bi, _, clock, since, seen, last, h1, h2, h0, by simp [hbl]; rfl, ?_, ?_, ?_, ?_, h8, h9, h10, fun j p e hp he' => ?_, fun j hj => (by cases hj), h13⟩
 ·show (w.heap.setIfInBounds bm _)[bi]? = _
  rw [Array.getElem?_setIfInBounds_ne h0]; exact h4
 ·have hq := h5.erase i
  rw [he, unmk_encIt]
  have hh : encM f g ((L.eraseIdx i).map (·.2)) = (encM f g (L.map (·.2))).eraseIdx i := by
   rw [encM, encM, map_erase, map_erase]
  rw [hh]; exact hq
 ·rw [he]; exact h6.sublist (List.eraseIdx_sublist ..)
 ·rw [he]; exact fun e he => h7 e ((List.eraseIdx_sublist ..).subset he)
 ·have he' : (es.toList.eraseIdx i)[j]? = some e := by rw [← he, Array.getElem?_toList]; exact he'
  simp only [encIt, List.getElem?_map] at hp
  obtain ⟨q', hq, rfl⟩ := Option.map_eq_some_iff.1 hp
  rw [List.getElem?_eraseIdx] at hq he'
  split at hq
  ·rename_i hlt
   rw [if_pos hlt] at he'
   exact h11 j _ e (by simp [encIt, hq]) (by simpa using he')
  ·rename_i hlt
   rw [if_neg hlt] at he'
   exact h11 (j + 1) _ e (by simp [encIt, hq]) (by simpa using he')
theorem loc_storeIt {f : α → V} {val : α → Value} {g : β → V} {t kt et q k i : Nat} {x ix y : Operand} {L : List (Bool × α × β)} {cur : Option Nat} {b0 : Bool} {a : α} {c0 c : β} (hT : mapT P t = some (kt, et)) (K : KeyOK P kt f val) (hx : evV ρ x = .mp k) (hi : evV ρ ix = f a) (hy : evV ρ y = g c) (hr : (g c).refs = []) (hra : (f a).refs = []) (hL : L[i]? = some (b0, a, c0)) (hnd : (L.map (·.2.1)).Nodup) :
  Loc P ⟨dst, .mapUpdate t x ix y, ty, pos, aft, gd⟩ ρ [(k, .gen (mapIt q (encIt f g L) cur))] .no [(k, .gen (mapIt q (encIt f g (L.set i (b0, a, c))) none))] := by
 intro ρr m Z w hops hs _
 have hX := hops x (by simp [Op.operands])
 have hI0 := hops ix (by simp [Op.operands])
 have hY := hops y (by simp [Op.operands])
 have hI := K.det _ _ _ _ (hi ▸ hI0)
 rw [hx] at hX; rw [hy] at hY
 have hY : Rep none Z (g c) (ev ρr y) := Rep.flat _ _ hr hY
 have hA : Rep none Z (f a) (val a) := K.rep _ _ _
 obtain ⟨m1, loc, e1, e2, hX⟩ := hX
 cases e1
 obtain ⟨bm, bi, es, clock, since, seen, last, h1, h2, h0, h3, h4, h5, h6, h7, h8, h9, h10, h11, h12, h13⟩ := hs.holds _ (List.mem_singleton.2 rfl)
 rw [h1] at e2; cases e2
 rw [unmk_encIt] at h5
 have hli : (L.map (·.2))[i]? = some (a, c0) := by simp [hL]
 have hmi : mix a (L.map (·.2)) = i := mix_nodup hli (by rw [List.map_map]; exact hnd)
 have hkeys := (h5.find K.det a 0).1
 have hlen : es.toList.length = (L.map (·.2)).length := by have := congrArg List.length hkeys; simpa using this
 have hfind := K.find a es.toList _ w hkeys
 rw [findP_mix a (L.map (·.2)) es.toList 0 hlen, hmi] at hfind
 have hc := K.check false a w
 have hu := mapT_of hT
 have hie : i < es.size := by have := (List.getElem?_eq_some_iff.1 hli).1; simp at hlen this; omega
 have hbl : bm < w.heap.size := (Array.getElem?_eq_some_iff.1 h3).1
 have hil : i < (es.toList.map (·.key)).length := by simpa using hie
 have hkey : es[i].key = val a := by
  have := congrArg (·[i]?) hkeys
  simp only [List.getElem?_map] at this
  rw [show es.toList[i]? = some es[i] by simp [hie], show L[i]? = some (b0, a, c0) from hL] at this
  simpa using this
 have hq : es[i]? = some es[i] := Array.getElem?_eq_getElem hie
 rw [show es.toList[i]? = some es[i] by simp [hie]] at hfind
 let es' := es.modify i fun e => { e with key := val a, val := ev ρr y }
 have he : es'.toList = es.toList.modify i fun e => { e with key := val a, val := ev ρr y } := Array.toList_modify ..
 have hborn : ∀ (j : Nat) (e : MapEntry), (es.toList.modify i fun e => { e with key := val a, val := ev ρr y })[j]? = some e → ∃ e0, es.toList[j]? = some e0 ∧ e.born = e0.born := fun j e h => by
  rw [List.getElem?_modify] at h
  obtain ⟨e0, h', rfl⟩ := Option.map_eq_some_iff.1 h
  refine ⟨e0, h', ?_⟩
  split <;> rfl
 have hrun : (Instr.mapUpdate t (.map (some bm)) (val a) (ev ρr y)).run P w = .ok () { w with heap := w.heap.setIfInBounds bm (.map es' clock) } := by
  simp [Instr.mapUpdate, run_underlying hu, MapKept.run_getObj_map h3, hc, hfind, Instr.keyThatStays, hq, hkey, K.bits, MapKept.run_setObj_map _ h3, es']
 refine ⟨rfl, .inr (.inl ⟨{ w with heap := w.heap.setIfInBounds bm (.map es' clock) }, by simp only [execOp, hX, hI, Sem.run_bind, hrun, Result.andThen_ok, Sem.run_pure], m, Z, ?_, rfl⟩)⟩
 refine Step.write (b := bm) hs (.inl h1) (fun b2 h => h) rfl rfl rfl (by simp) (fun j hj => by simp [Array.getElem?_setIfInBounds_ne (Ne.symm hj)]) (fun a x ha e => absurd e (h10 a x ha).1) ?_
 refine ⟨bm, bi, es', clock, since, seen, last, h1, h2, h0, by simp [hbl], ?_, ?_, ?_, ?_, h8, h9, h10, fun j p e hp he' => ?_, fun j hj => (by cases hj), h13⟩
 ·show (w.heap.setIfInBounds bm _)[bi]? = _
  rw [Array.getElem?_setIfInBounds_ne h0]; exact h4
 ·rw [he, unmk_encIt]
  have hh : encM f g ((L.set i (b0, a, c)).map (·.2)) = (encM f g (L.map (·.2))).set i (f a, g c) := by
   rw [encM, encM, List.map_set, List.map_set]
  rw [hh]; exact RepE.put hA hY i h5
 ·rw [he, List.pairwise_iff_getElem]
  intro j j' hj hj' hjj
  simp only [List.length_modify] at hj hj'
  have := List.pairwise_iff_getElem.1 h6 j j' hj hj' hjj
  rw [List.getElem_modify, List.getElem_modify]
  split <;> split <;> exact this
 ·rw [he]
  intro e hm
  obtain ⟨j, hj, rfl⟩ := List.getElem_of_mem hm
  obtain ⟨e0, g1, g2⟩ := hborn j _ (List.getElem?_eq_getElem hj)
  rw [g2]; exact h7 e0 (List.mem_of_getElem? g1)
 ·have he' : (es.toList.modify i fun e => { e with key := val a, val := ev ρr y })[j]? = some e := by rw [← he, Array.getElem?_toList]; exact he'
  obtain ⟨e0, g1, g2⟩ := hborn j e he'
  simp only [encIt, List.getElem?_map] at hp
  obtain ⟨q', hq', rfl⟩ := Option.map_eq_some_iff.1 hp
  have g1 : es[j]? = some e0 := by simpa using g1
  rw [g2]
  rw [List.getElem?_set] at hq'
  split at hq'
  ·rename_i hij
   subst hij
   split at hq'
   ·cases hq'
    exact h11 i (b0, f a, g c0) e0 (by simp [encIt, hL]) g1
   ·cases hq'
  ·exact h11 j _ e0 (by simp [encIt, hq']) g1
end
section
variable {K0 : List Nat} {ρ : Env} {H : Heap}
theorem Step.itEnd {m : M} {Z : ZM} {w : World} {q k : Nat} {l : List (Bool × V × V)} {cur : Option Nat} (hs : SimH m Z [(k, .gen (mapIt q l cur))] w) : Step m Z [(k, .gen (mapIt q l cur))] w m Z [(k, .map (unmk l))] w := by
 obtain ⟨bm, bi, es, clock, since, seen, last, h1, h2, h0, h3, h4, h5, h6, h7, h8, h9, h10, h11, h12, h13⟩ := hs.holds _ (List.mem_singleton.2 rfl)
 refine ⟨⟨hs.frozen, fun p hp => ?_, by simp [keys], fun p hp q hq _ _ _ => by rw [List.mem_singleton.1 hp, List.mem_singleton.1 hq]⟩, fun _ _ _ e => e, fun _ _ e => e, rfl, rfl, rfl, Nat.le_refl _, fun _ _ _ => rfl, fun _ h => h, fun _ _ => rfl, fun p hp b' hb => .inr ⟨_, List.mem_singleton.2 rfl, ?_⟩, fun _ _ e => .inl e⟩
 ·rw [List.mem_singleton.1 hp]
  exact ⟨bm, es, clock, h1, h3, h5, h6, fun e he => by have := h7 e he; omega, fun a x ha => (h10 a x ha).1, h13⟩
 ·rw [List.mem_singleton.1 hp] at hb
  have h1' : m k 0 = some (bm, 1) := h1
  simp [blk, blk1, Obj.ver, h1'] at hb
  subst hb
  exact .inl h1
theorem cut_itEnd (q k : Nat) {l : List (Bool × V × V)} {cur : Option Nat} (hF : selH [k] H = some [(k, .gen (mapIt q l cur))]) {H1 : Heap} (hH1 : [(k, .map (unmk l))] ++ remH [k] H = H1) : Cut K0 ρ H ρ H1 := fun c ρr w S => by
 subst hH1
 exact SimA.step (by simp [nodupB]) hF (keys_all_fresh fun p hp => by rw [List.mem_singleton.1 hp]; exact List.mem_singleton.2 rfl) (fun m Z hs _ hR => ⟨m, Z, Step.itEnd hs, hR⟩) S
theorem cut_itCur (q k : Nat) {l : List (Bool × V × V)} {cur : Option Nat} (hF : selH [k] H = some [(k, .gen (mapIt q l cur))]) {H1 : Heap} (hH1 : [(k, .gen (mapIt q l none))] ++ remH [k] H = H1) : Cut K0 ρ H ρ H1 := fun c ρr w S => by
 subst hH1
 refine SimA.step (by simp [nodupB]) hF (keys_all_fresh fun p hp => by rw [List.mem_singleton.1 hp]; exact List.mem_singleton.2 rfl) (fun m Z hs _ hR => ⟨m, Z, ⟨⟨hs.frozen, fun p hp => ?_, by simp [keys], fun p hp q hq _ _ _ => by rw [List.mem_singleton.1 hp, List.mem_singleton.1 hq]⟩, fun _ _ _ e => e, fun _ _ e => e, rfl, rfl, rfl, Nat.le_refl _, fun _ _ _ => rfl, fun _ h => h, fun _ _ => rfl, fun p hp b' hb => .inr ⟨_, List.mem_singleton.2 rfl, ?_⟩, fun _ _ e => .inl e⟩, hR⟩) S
 ·rw [List.mem_singleton.1 hp]
  obtain ⟨bm, bi, es, clock, since, seen, last, h1, h2, h0, h3, h4, h5, h6, h7, h8, h9, h10, h11, h12, h13⟩ := hs.holds _ (List.mem_singleton.2 rfl)
  exact ⟨bm, bi, es, clock, since, seen, last, h1, h2, h0, h3, h4, h5, h6, h7, h8, h9, h10, h11, fun i hi => (by cases hi), h13⟩
 ·rw [List.mem_singleton.1 hp] at hb; exact hb
end
end Go.EV
namespace Go.EV
def orO {α β : Type} : Option α → (α → Option β) → Option β → Option β
 | some a, f, _ => f a
 | none, _, g => g
end Go.EV
namespace Go.EV
open Go Go.RowKit Go.Eng
section
variable {P : Program} {f : FuncId} {args args2 : List V} {F F' F2 F2' G : Heap} {r r2 : V} {s : Nat → Bool}
theorem FnA.perm (h : FnA P f args F r F') (hp : F.Perm F2) (hp' : F'.Perm F2') : FnA P f args F2 r F2' := by
 intro w m Z vals hs hv hnone
 refine Calls.mono (h w m Z vals (hs.perm hp.symm) hv fun k hk L => hnone k (fun hk' => hk ((hp.map _).mem_iff.2 hk')) L) ?_
 rintro en w' ⟨x, m', Z', he, st, hx⟩
 exact ⟨x, m', Z', he, (st.permL hp).permR hp', hx⟩
theorem Conv.trans (h : Conv s F F2) (k : Conv s F2 F2') : Conv s F F2' := by
 intro m Z w hs
 obtain ⟨m1, a1, a2, a3, a4, a5⟩ := h m Z w hs
 obtain ⟨m2, b1, b2, b3, b4, b5⟩ := k m1 Z w a1
 refine ⟨m2, b1, b2, fun a ha hk => ?_, fun a ha hk => ?_, fun p hp b hb => ?_⟩
 ·rw [← a3 a ha hk]
  by_cases hk2 : a ∈ keys F2
  ·exact b3 a ha hk2
  ·rw [b4 a ha hk2, a2 a hk2 0]
 ·by_cases hk2 : a ∈ keys F2
  ·rw [b3 a ha hk2]; exact a4 a ha hk
  ·exact b4 a ha hk2
 ·obtain ⟨q, hq, hqb⟩ := b5 p hp b hb
  exact a5 q hq b hqb
theorem Conv.sub (τ : Nat → Nat) (hn : (keys F2).Nodup) (hτ : ((keys F2).map τ).Nodup) (hmem : ∀ p ∈ F2, (τ p.1, p.2.ren τ) ∈ F) (hcl : ∀ p ∈ F2, ∀ j ∈ p.2.refs, j ∈ keys F2) (hs1 : ∀ a, s a = true → a ∈ keys F → a ∈ keys F2) (hs2 : ∀ a, s a = true → a ∈ keys F2 → τ a = a) : Conv s F F2 := by
 intro m Z w hs
 have hinj : ∀ {a b : Nat}, a ∈ keys F2 → b ∈ keys F2 → τ a = τ b → a = b := inj_of hτ
 let mc : M := fun k L => if k ∈ keys F2 then m (τ k) L else none
 have hmc : ∀ k ∈ keys F2, mc k = m (τ k) := fun k hk => by funext L; simp [mc, hk]
 have hmcn : ∀ k, k ∉ keys F2 → ∀ L, mc k L = none := fun k hk L => by simp [mc, hk]
 have hblk : ∀ p ∈ F2, blk mc p = blk m (τ p.1, p.2.ren τ) := fun p hp => blk_ren (hmc p.1 (mem_keys hp))
 refine ⟨mc, ⟨hs.frozen, fun p hp => ?_, hn, fun p hp q hq b h1 h2 => ?_⟩, hmcn, fun a ha hk => ?_, fun a ha hk => ?_, fun p hp b hb => ⟨_, hmem p hp, by rw [← hblk p hp]; exact hb⟩⟩
 ·have hh := hs.holds _ (hmem p hp)
  have hk := hmc p.1 (mem_keys hp)
  have hr := hcl p hp
  obtain ⟨k, o⟩ := p
  cases o with
  | box t cs =>
   obtain ⟨b, cur, h1, h2, h3, h4, h5⟩ := hh
   refine ⟨b, cur, by rw [hk]; exact h1, h2, RepL.unren τ cs _ (fun j hj L loc e => ?_) h3, h4, by rw [hk]; exact h5⟩
   rw [hmc j (hr j hj)]; exact e
  | row t sz fz els =>
   rcases hh with ⟨h1, h2, h3, ⟨b, h4⟩, h5⟩ | ⟨b, cap, cur, fr, h1, h2⟩
   ·exact .inl ⟨h1, h2, h3, ⟨b, by rw [hk]; exact h4⟩, by rw [hk]; exact h5⟩
   ·exact .inr ⟨b, cap, cur, fr, by rw [hk]; exact h1, by rw [hk]; exact h2⟩
  | map l =>
   obtain ⟨b, es, clock, h1, h2⟩ := hh
   exact ⟨b, es, clock, by rw [hk]; exact h1, by rw [hk]; exact h2⟩
  | glob g t cs => exact ⟨by rw [hk]; exact hh.1, hh.2.1, by rw [hk]; exact hh.2.2⟩
  | nest t e sz pd ls =>
   show HoldsN (mc k) _ _ t e sz pd ls
   rw [hk]; exact hh
  | gen G =>
   show G.holds (mc k) _ _
   rw [hk]; exact hh
 ·rw [hblk p hp] at h1
  rw [hblk q hq] at h2
  exact hinj (mem_keys hp) (mem_keys hq) (hs.disj _ (hmem p hp) _ (hmem q hq) b h1 h2)
 ·have hk2 := hs1 a ha hk
  rw [hmc a hk2, hs2 a ha hk2]
 ·by_cases hk2 : a ∈ keys F2
  ·exact absurd (by
    obtain ⟨p, hp, rfl⟩ := List.mem_map.1 hk2
    have := mem_keys (hmem p hp)
    rw [show (τ p.1, p.2.ren τ).1 = τ p.1 from rfl, hs2 p.1 ha hk2] at this
    exact this) hk
  ·exact hmcn a hk2 0
theorem repL_set {m : Option M} {Z : ZM} : ∀ {cs : List V} {xs : List Value} (j : Nat) {u v : V}, cs[j]? = some u → (∀ x, Rep m Z u x → Rep m Z v x) → RepL m Z cs xs → RepL m Z (cs.set j v) xs
 | [], _, j, u, v, h, _, _ => by simp at h
 | c :: cs, xs, 0, u, v, h, hr, hx => by
  obtain ⟨x, ys, rfl, h1, h2⟩ := hx
  simp at h; subst h
  exact ⟨x, ys, rfl, hr x h1, h2⟩
 | c :: cs, xs, j + 1, u, v, h, hr, hx => by
  obtain ⟨x, ys, rfl, h1, h2⟩ := hx
  exact ⟨x, _, rfl, h1, repL_set j (by simpa using h) hr h2⟩
def closedH (F : Heap) : Prop := ∀ p ∈ F, ∀ j ∈ p.2.refs, j ∈ keys F
theorem SimH.other {m m' : M} {Z : ZM} {w : World} (hs : SimH m Z F w) (hcl : closedH F) (hm : ∀ k ∈ keys F, m' k = m k) : SimH m' Z F w := by
 refine ⟨hs.frozen, fun p hp => ?_, hs.nodup, fun p hp q hq b h1 h2 => ?_⟩
 ·have hh := hs.holds p hp
  have hk := hm p.1 (mem_keys hp)
  have hr := hcl p hp
  obtain ⟨k, o⟩ := p
  cases o with
  | box t cs =>
   obtain ⟨b, cur, h1, h2, h3, h4, h5⟩ := hh
   refine ⟨b, cur, by rw [hk]; exact h1, h2, h3.swap fun j hj L loc e => ?_, h4, by rw [hk]; exact h5⟩
   rw [hm j (hr j hj)]; exact e
  | row t sz fz els =>
   rcases hh with ⟨h1, h2, h3, ⟨b, h4⟩, h5⟩ | ⟨b, cap, cur, fr, h1, h2⟩
   ·exact .inl ⟨h1, h2, h3, ⟨b, by rw [hk]; exact h4⟩, by rw [hk]; exact h5⟩
   ·exact .inr ⟨b, cap, cur, fr, by rw [hk]; exact h1, by rw [hk]; exact h2⟩
  | map l =>
   obtain ⟨b, es, clock, h1, h2⟩ := hh
   exact ⟨b, es, clock, by rw [hk]; exact h1, by rw [hk]; exact h2⟩
  | glob g t cs => exact ⟨by rw [hk]; exact hh.1, hh.2.1, by rw [hk]; exact hh.2.2⟩
  | nest t e sz pd ls =>
   show HoldsN (m' k) _ _ t e sz pd ls
   rw [hk]; exact hh
  | gen G =>
   show G.holds (m' k) _ _
   rw [hk]; exact hh
 ·rw [blk_congr (hm p.1 (mem_keys hp))] at h1
  rw [blk_congr (hm q.1 (mem_keys hq))] at h2
  exact hs.disj p hp q hq b h1 h2
theorem Conv.nil {kb t k e sz : Nat} {cs : List V} (j : Nat) (hj : cs[j]? = some .nils) (hsz : 0 < sz) (hk : k ∉ keys ((kb, .box t cs) :: F)) (hsk : s k = false) (hcl : closedH ((kb, .box t cs) :: F)) :
  Conv s ((kb, .box t cs) :: F) ((kb, .box t (cs.set j (.sl sz k 0 0 0))) :: (k, .row e sz 0 []) :: F) := by
 intro m0 Z w hs0
 let m' : M := fun k' L => if k' = k ∧ L = 0 then some (0, 0) else if k' ∈ keys ((kb, .box t cs) :: F) then m0 k' L else none
 have h1 : m' k 0 = some (0, 0) := by simp [m']
 have h1' : ∀ L loc, m' k L = some loc → L = 0 := fun L loc e => by
  by_cases hL : L = 0
  ·exact hL
  ·have : m' k L = none := by
    show (if _ then _ else _) = _
    rw [if_neg (fun h => hL h.2), if_neg hk]
   rw [this] at e; cases e
 have h2 : ∀ a ∈ keys ((kb, .box t cs) :: F), m' a = m0 a := fun a ha => by
  funext L
  show (if _ then _ else _) = _
  have hne : ¬ (a = k ∧ L = 0) := fun h => hk (h.1 ▸ ha)
  rw [if_neg hne, if_pos ha]
 have hs := hs0.other hcl h2
 obtain ⟨b, cur, q1, q2, q3, q4, q5⟩ := hs.holds _ (List.mem_cons_self ..)
 have hnd := hs.nodup
 have hblk : ∀ p ∈ (kb, .box t (cs.set j (.sl sz k 0 0 0))) :: (k, .row e sz 0 []) :: F, ∀ b, blk m' p b → ∃ q ∈ (kb, Obj.box t cs) :: F, q.1 = p.1 ∧ blk m' q b := fun p hp b' hb => by
  rcases List.mem_cons.1 hp with rfl | hp
  ·exact ⟨_, List.mem_cons_self .., rfl, hb⟩
  ·rcases List.mem_cons.1 hp with rfl | hp
   ·simp [blk, blk1, Obj.ver, h1] at hb
   ·exact ⟨p, List.mem_cons_of_mem _ hp, rfl, hb⟩
 refine ⟨m', ⟨hs.frozen, fun p hp => ?_, ?_, fun p hp q hq b h1 h2 => ?_⟩, fun a ha L => ?_, fun a ha hk' => by rw [h2 a hk'], fun a ha hk' => ?_, fun p hp b hb => ?_⟩
 ·rcases List.mem_cons.1 hp with rfl | hp
  ·exact ⟨b, cur, q1, q2, repL_set j hj (fun x hx => ⟨m', (0, 0), rfl, h1, Nat.le_refl _, by show 0 ≤ maxLen; omega, .inr (.inl ⟨rfl, none, hx⟩)⟩) q3, q4, q5⟩
  ·rcases List.mem_cons.1 hp with rfl | hp
   ·exact .inl ⟨hsz, rfl, rfl, ⟨0, h1⟩, fun L loc e => by rw [h1' L loc e]; exact Nat.le_refl _⟩
   ·exact hs.holds p (List.mem_cons_of_mem _ hp)
 ·simp only [keys, List.map_cons, List.nodup_cons, List.mem_cons, not_or] at hnd hk ⊢
  exact ⟨⟨fun e => hk.1 e.symm, hnd.1⟩, hk.2, hnd.2⟩
 ·obtain ⟨p', hp', e1, e2⟩ := hblk p hp b h1
  obtain ⟨q', hq', e3, e4⟩ := hblk q hq b h2
  rw [← e1, ← e3]
  exact hs.disj p' hp' q' hq' b e2 e4
 ·have ha' : a ≠ k ∧ a ∉ keys ((kb, .box t cs) :: F) := by
   simp only [keys, List.map_cons, List.mem_cons, not_or] at ha ⊢
   exact ⟨ha.2.1, ha.1, ha.2.2⟩
  show (if _ then _ else _) = _
  rw [if_neg (fun h => ha'.1 h.1), if_neg ha'.2]
 ·have : a ≠ k := fun e => by rw [e, hsk] at ha; cases ha
  show (if _ then _ else _) = _
  rw [if_neg (fun h => this h.1), if_neg hk']
 ·obtain ⟨p', hp', e1, e2⟩ := hblk p hp b hb
  exact ⟨p', hp', by rwa [blk_congr (h2 p'.1 (mem_keys hp'))] at e2⟩
theorem Conv.weak {kb t : Nat} {cs cs' : List V} (hcl : closedH ((kb, .box t cs) :: F)) (h : ∀ (m : M) (Z : ZM) (xs : List Value), RepL (some m) Z cs xs → RepL (some m) Z cs' xs) : Conv s ((kb, .box t cs) :: F) ((kb, .box t cs') :: F) := by
 intro m0 Z w hs0
 let m : M := fun k' L => if k' ∈ keys ((kb, .box t cs) :: F) then m0 k' L else none
 have h2 : ∀ a ∈ keys ((kb, .box t cs) :: F), m a = m0 a := fun a ha => by
  funext L
  show (if _ then _ else _) = _
  rw [if_pos ha]
 have hs := hs0.other hcl h2
 have hblk : ∀ p ∈ (kb, .box t cs') :: F, ∃ q ∈ (kb, Obj.box t cs) :: F, q.1 = p.1 ∧ blk m q = blk m p := fun p hp => by
  rcases List.mem_cons.1 hp with rfl | hp
  ·exact ⟨_, List.mem_cons_self .., rfl, rfl⟩
  ·exact ⟨p, List.mem_cons_of_mem _ hp, rfl, rfl⟩
 refine ⟨m, ⟨hs.frozen, fun p hp => ?_, hs.nodup, fun p hp q hq b e1 e2 => ?_⟩, fun a ha L => if_neg ha, fun a _ ha => by rw [h2 a ha], fun a _ ha => if_neg ha, fun p hp b hb => ?_⟩
 ·rcases List.mem_cons.1 hp with rfl | hp
  ·obtain ⟨b, cur, q1, q2, q3, q4, q5⟩ := hs.holds _ (List.mem_cons_self ..)
   exact ⟨b, cur, q1, q2, h m Z _ q3, q4, q5⟩
  ·exact hs.holds p (List.mem_cons_of_mem _ hp)
 ·obtain ⟨p', hp', e3, e4⟩ := hblk p hp
  obtain ⟨q', hq', e5, e6⟩ := hblk q hq
  rw [← e3, ← e5]
  exact hs.disj p' hp' q' hq' b (e4 ▸ e1) (e6 ▸ e2)
 ·obtain ⟨p', hp', e3, e4⟩ := hblk p hp
  exact ⟨p', hp', by rw [← blk_congr (h2 p'.1 (mem_keys hp')), e4]; exact hb⟩
theorem Conv.perm (hp : F.Perm F2) (hcl : closedH F2) : Conv s F F2 := by
 intro m0 Z w hs0
 let m : M := fun k' L => if k' ∈ keys F2 then m0 k' L else none
 have h2 : ∀ a ∈ keys F2, m a = m0 a := fun a ha => by
  funext L
  show (if _ then _ else _) = _
  rw [if_pos ha]
 have hs := (hs0.perm hp).other hcl h2
 have hk : ∀ a, a ∈ keys F ↔ a ∈ keys F2 := fun a => (hp.map _).mem_iff
 refine ⟨m, hs, fun a ha L => if_neg ha, fun a _ ha => by rw [h2 a ((hk a).1 ha)], fun a _ ha => if_neg (fun h => ha ((hk a).2 h)), fun p hp' b hb => ⟨p, hp.mem_iff.2 hp', by rw [← blk_congr (h2 p.1 (mem_keys hp'))]; exact hb⟩⟩
theorem Holds.flat {m m' : M} {Z : ZM} {w : World} {k : Nat} {o : Obj} (h : Holds m Z w k o) (hk : m' k = m k) (hr : o.refs = []) : Holds m' Z w k o := by
 cases o with
 | box t cs =>
  obtain ⟨b, cur, h1, h2, h3, h4, h5⟩ := h
  refine ⟨b, cur, by rw [hk]; exact h1, h2, h3.swap fun j hj L loc e => ?_, h4, by rw [hk]; exact h5⟩
  have hr : refsL cs = [] := hr
  rw [hr] at hj; cases hj
 | row t sz fz els =>
  rcases h with ⟨h1, h2, h3, ⟨b, h4⟩, h5⟩ | ⟨b, cap, cur, fr, h1, h2⟩
  ·exact .inl ⟨h1, h2, h3, ⟨b, by rw [hk]; exact h4⟩, by rw [hk]; exact h5⟩
  ·exact .inr ⟨b, cap, cur, fr, by rw [hk]; exact h1, by rw [hk]; exact h2⟩
 | map l =>
  obtain ⟨b, es, clock, h1, h2⟩ := h
  exact ⟨b, es, clock, by rw [hk]; exact h1, by rw [hk]; exact h2⟩
 | glob g t cs => exact ⟨by rw [hk]; exact h.1, h.2.1, by rw [hk]; exact h.2.2⟩
 | nest t e sz pd ls =>
  show HoldsN (m' k) _ _ t e sz pd ls
  rw [hk]; exact h
 | gen G =>
  show G.holds (m' k) _ _
  rw [hk]; exact h
end
def jpv (a : Nat → Nat) (i : Nat) : GVal where
 rep mk x := (i = 0 ∧ x = .pointer none) ∨ ∃ j, i = j + 1 ∧ ∃ loc, mk (3 * a j) = some loc ∧ x = .pointer (some ⟨loc.1, 0, none⟩)
 mono mk mk' x h := by
  rintro (h1 | ⟨j, h1, loc, h2, h3⟩)
  ·exact .inl h1
  ·exact .inr ⟨j, h1, loc, h _ _ h2, h3⟩
 one mk x := by
  rintro (⟨_, rfl⟩ | ⟨_, _, _, _, rfl⟩) <;> exact ⟨rfl, rfl⟩
def ptrT (P : Program) (t : TypeId) : Bool := match P.underlying t with | some (.pointer _) => true | _ => false
section
variable {P : Program} {ρ : Env} {dst : Option Tmp} {ty : TypeId} {pos : String} {aft : Array Edge} {gd : Option (Nat × Bool)} {x y : Operand} {t t' k : Nat} {a : Nat → Nat} {i : Nat}
end
end Go.EV
namespace Go.EV
open Go Go.RowKit Go.Eng
section
variable {P : Program} {ρ : Env} {dst : Option Tmp} {ty : TypeId} {pos : String} {aft : Array Edge} {gd : Option (Nat × Bool)}
theorem Step.nilRow {m : M} {Z : ZM} {w : World} {R : Heap} {d e sz : Nat} (hsz : 0 < sz) (hs : SimH m Z R w) (hnew : ∀ L, m d L = none) (hd : d ∉ keys R) :
  ∃ m', Step m Z R w m' Z ((d, .row e sz 0 []) :: R) w ∧ m' d 0 = some (0, 0) := by
 let m' : M := fun k' L => if k' = d ∧ L = 0 then some (0, 0) else m k' L
 have h1 : m' d 0 = some (0, 0) := by simp [m']
 have h2 : ∀ k L loc, m k L = some loc → m' k L = some loc := fun k L loc e => by
  by_cases hc : k = d ∧ L = 0
  ·obtain ⟨rfl, rfl⟩ := hc; rw [hnew] at e; cases e
  ·simp only [m', if_neg hc]; exact e
 have hs0 : SimH m Z [] w := ⟨hs.frozen, fun p hp => (by cases hp), List.nodup_nil, fun p hp => (by cases hp)⟩
 have hst : Step m Z [] w m' Z [(d, .row e sz 0 [])] w := by
  refine ⟨⟨hs.frozen, fun p hp => ?_, by simp [keys], fun p hp q hq _ _ _ => ?_⟩, h2, fun _ _ e => e, rfl, rfl, rfl, Nat.le_refl _, fun _ _ _ => rfl, fun k hk => (by cases hk), fun k hk => ?_, fun p hp b hb => ?_, fun _ _ e => .inl e⟩
  ·simp only [List.mem_singleton] at hp
   subst hp
   refine .inl ⟨hsz, rfl, rfl, ⟨0, h1⟩, fun L loc e => ?_⟩
   simp only [m'] at e
   split at e
   ·rename_i hc; omega
   ·rw [hnew] at e; cases e
  ·simp only [List.mem_singleton] at hp hq
   subst hp; subst hq; rfl
  ·funext L
   have : k ≠ d := by simpa [keys] using hk
   simp [m', this]
  ·simp only [List.mem_singleton] at hp
   subst hp
   simp [blk, blk1, Obj.ver, h1] at hb
 exact ⟨m', Step.frame_rule (F := []) (G := R) (F' := [(d, .row e sz 0 [])]) hs hst fun p hp q hq e' => by
  simp only [List.mem_singleton] at hp
  subst hp
  have e'' : d = q.1 := e'
  exact hd (by rw [e'']; exact mem_keys hq), h1⟩
theorem loc_appendNil {t e sz bytes n d j : Nat} {y : Operand} {ys : List (List V)} {R : Heap} (hT : elemT2 P t = some (e, sz, bytes)) (hx : evV ρ (.tmp j) = .nils) (hxy : y ≠ .tmp j) (hy : Src sz R (evV ρ y) ys)
  (h1 : ∀ c ∈ ys, c.all V.one = true) (hkl : ∀ c ∈ ys, c.length = sz) (hdR : hasKey d R = false) (hn : ys.length = n) (hlen : n * bytes ≤ 140737488355328) (h63 : n ≤ 9223372036854775807) :
  Loc P ⟨dst, .call ⟨.builtin .append, #[.tmp j, y], #[t, t]⟩, ty, pos, aft, gd⟩ ρ R (.sl sz d n 0 n) ((d, .row e sz 0 ys) :: R) := by
 intro ρr m Z w hops hs hnew
 have hd' : d ∉ keys R := fun h => by rw [hasKey_iff.2 h] at hdR; cases hdR
 obtain ⟨_, _, _, _, _, _, _, _, h0⟩ := elemT2_of hT
 obtain ⟨m', hst, hm'⟩ := Step.nilRow (e := e) (sz := sz) h0 hs (fun L => hnew d (by simp [keys]) hd' L) hd'
 have hev : ∀ z, z ≠ .tmp j → evV ((j, V.sl sz d 0 0 0) :: ρ) z = evV ρ z := fun z hz => by
  cases z with
  | tmp t' =>
   have : t' ≠ j := fun e => hz (by rw [e])
   show (bif Nat.beq t' j then _ else _) = _
   cases hb : Nat.beq t' j with
   | true => exact absurd (Nat.eq_of_beq_eq_true hb) this
   | false => rfl
  | _ => rfl
 have hj : evV ((j, V.sl sz d 0 0 0) :: ρ) (.tmp j) = .sl sz d 0 0 0 := by
  show (bif Nat.beq j j then _ else _) = _
  rw [Nat.beq_refl]; rfl
 have hl := loc_appendT (P := P) (ρ := (j, V.sl sz d 0 0 0) :: ρ) (dst := dst) (ty := ty) (pos := pos) (aft := aft) (gd := gd) (k := d) (fz := 0) (L := 0) (els := []) (ys := ys) (R := R) (e := e) (n := n) hT hj rfl (by rw [hev y hxy]; exact hy) h1 hkl hdR (List.nil_append _) hn hlen h63
 refine (hl ρr m' Z w (fun z hz => ?_) hst.sim (fun k hk hk' L => absurd hk hk')).mono fun x w' hx => ?_
 ·by_cases hzj : z = .tmp j
  ·subst hzj
   have := hops (.tmp j) hz
   rw [hx] at this
   rw [hj]
   exact ⟨m', _, rfl, hm', Nat.le_refl _, Nat.zero_le _, .inr (.inl ⟨rfl, none, this⟩)⟩
  ·rw [hev z hzj]
   exact (hops z hz).up (fun _ _ e => e) fun f e => by cases e; exact ⟨m', rfl, hst.mext⟩
 ·obtain ⟨m2, Z2, st, hr⟩ := hx
  exact ⟨m2, Z2, hst.trans st, hr⟩
end
end Go.EV
namespace Go.EV
open Go Go.RowKit Go.Eng
def notIfc (P : Program) (t : TypeId) : Bool := match P.underlying t with
 | some (.interface _) => false
 | some _ => true
 | none => false
section
variable {P : Program} {ρ : Env} {dst : Option Tmp} {ty : TypeId} {pos : String} {aft : Array Edge} {gd : Option (Nat × Bool)} {x : Operand} {v : V}
theorem run_makeIfc {t : TypeId} {w : World} (h : notIfc P t = true) (X : Value) : (Instr.makeInterface t X).run P w = .ok (.iface t X) w := by
 unfold notIfc at h
 split at h
 ·cases h
 ·rename_i u hu hn
  unfold Instr.makeInterface
  simp only [Sem.run_bind, run_underlying hn, Result.andThen_ok]
  rfl
 ·cases h
theorem loc_makeIfc {t : TypeId} (h : notIfc P t = true) (hx : evV ρ x = v) : Loc P ⟨dst, .makeInterface t x, ty, pos, aft, gd⟩ ρ [] (.ifc t v) [] := by
 intro ρr m Z w hops hs _
 have hX := hops x (by simp [Op.operands])
 rw [hx] at hX
 refine ⟨rfl, .inl ⟨_, w, ?_, m, Z, Step.refl hs, ev ρr x, rfl, hX⟩⟩
 simp only [execOp, Sem.run_bind, run_makeIfc h, Result.andThen_ok]
 rfl
def ifcT (P : Program) (t : TypeId) : Bool := match P.underlying t with | some (.interface _) => true | _ => false
theorem loc_ifcNil {op : BinOp} {t t' : TypeId} {x : Operand} {v : V} {b r : Bool} (hv : (v = .nili ∧ b = true) ∨ ∃ tx u, v = .ifc tx u ∧ b = false) (hop : (op = .eql ∧ r = b) ∨ (op = .neq ∧ r = !b)) (h : ifcT P t = true) (hx : evV ρ x = v) :
  Loc P ⟨dst, .binOp op t x (.const .nilIface) t', ty, pos, aft, gd⟩ ρ [] (.bool r) [] := by
 intro ρr m Z w hops hs _
 have hX := hops x (by simp [Op.operands])
 rw [hx] at hX
 obtain ⟨ms, ht⟩ : ∃ ms, P.underlying t = some (.interface ms) := by
  unfold ifcT at h
  split at h
  ·exact ⟨_, by assumption⟩
  ·cases h
 have key : ∀ (X : Value), ((X = .nilIface ∧ b = true) ∨ ∃ tx u, X = .iface tx u ∧ b = false) → ev ρr x = X → ∃ u, (execOp (ev ρr) ⟨dst, .binOp op t x (.const .nilIface) t', ty, pos, aft, gd⟩).run P w = .ok (.value (.bool r)) w ∧ u = X := by
  intro X hX2 hxX
  have hc : ev ρr (.const .nilIface) = .nilIface := rfl
  have h' : ∀ d : Nat, (Op.equalIn (d + 1) t X .nilIface).run P w = .ok b w := fun d => by
   rcases hX2 with ⟨rfl, rfl⟩ | ⟨tx, u, rfl, rfl⟩ <;> simp [Op.equalIn, run_underlying ht]
  have h2 : (Op.equal t X .nilIface).run P w = .ok b w := h' 9999
  refine ⟨X, ?_, rfl⟩
  rcases hX2 with ⟨rfl, rfl⟩ | ⟨tx, u, rfl, rfl⟩ <;> rcases hop with ⟨rfl, rfl⟩ | ⟨rfl, rfl⟩ <;> simp only [execOp, hxX, hc, eqGuard, binOp] <;> simp [h2]
 rcases hv with ⟨rfl, rfl⟩ | ⟨tx, u, rfl, rfl⟩
 ·obtain ⟨u, h1, _⟩ := key _ (.inl ⟨rfl, rfl⟩) hX
  exact ⟨rfl, .inl ⟨_, w, h1, m, Z, Step.refl hs, rfl⟩⟩
 ·obtain ⟨y, h1, h2⟩ := hX
  obtain ⟨u, h1, _⟩ := key _ (.inr ⟨_, _, rfl, rfl⟩) h1
  exact ⟨rfl, .inl ⟨_, w, h1, m, Z, Step.refl hs, rfl⟩⟩
end
end Go.EV
namespace Go.EV
open Go Go.RowKit Go.Eng
def bytesT (P : Program) (src dst e : TypeId) : Bool := match P.underlying src with
 | some .string => match P.underlying dst with | some (.slice e') => Nat.beq e' e && (match P.underlying e with | some (.int .u8) => true | _ => false) | _ => false
 | _ => false
theorem bytesT_is {P : Program} {src dst e : TypeId} (h : bytesT P src dst e = true) : P.underlying src = some .string ∧ P.underlying dst = some (.slice e) ∧ P.underlying e = some (.int .u8) := by
 unfold bytesT at h
 split at h
 ·split at h
  ·simp only [Bool.and_eq_true] at h
   obtain ⟨h1, h2⟩ := h
   have := Nat.eq_of_beq_eq_true h1
   subst this
   split at h2
   ·exact ⟨by assumption, by assumption, by assumption⟩
   ·cases h2
  ·cases h
 ·cases h
def intsOf (s : List UInt8) : List Int := s.map fun b => (b.toNat : Int)
section
variable {P : Program} {ρ : Env} {dst : Option Tmp} {ty : TypeId} {pos : String} {aft : Array Edge} {gd : Option (Nat × Bool)}
theorem loc_strBytes {s d e k : Nat} {x : Operand} {l : List UInt8} (ht : bytesT P s d e = true) (hx : evV ρ x = .str l) (h63 : l.length ≤ 9223372036854775807) :
  Loc P ⟨dst, .convert s d x, ty, pos, aft, gd⟩ ρ [] (.sl 1 k l.length 0 l.length) [(k, .row e 1 0 ((intsOf l).map (encK .u8)))] := by
 intro ρr m Z w hops hs hfr
 have hX : ev ρr x = .string ⟨l.toArray⟩ := by have := hops x (by simp [Op.operands]); rw [hx] at this; exact this
 obtain ⟨h1, h2, h3⟩ := bytesT_is ht
 have hrun := run_bytes_of_string (P := P) w s d e ⟨l.toArray⟩ h1 h2 h3
 have hsz : (⟨l.toArray⟩ : ByteArray).size = l.length := by simp [ByteArray.size]
 rw [hsz] at hrun
 have hge := grownCap_ge w l.length 0 e
 have hle := grownCap_le_maxLen w l.length 0 e (by simpa [maxLen] using h63)
 generalize hcap : grownCap w l.length 0 e = cap at hrun hge hle
 generalize hrow : bytesRow ⟨l.toArray⟩ cap = row at hrun
 have hrl : row.size = cap := by rw [← hrow]; simp [bytesRow, hsz]; omega
 have hrt : row.toList.take l.length = l.map fun b => Value.int .u8 b.toNat := by
  rw [← hrow]
  simp only [bytesRow, hsz, Array.toList_append, Array.toList_map]
  rw [List.take_append_of_le_length (by simp), List.take_of_length_le (by simp)]
 have hs1 : Step m Z [] w m Z [] w.drew := Step.same hs rfl rfl rfl rfl
 have hel : ((intsOf l).map (encK .u8)).length = l.length := by simp [intsOf]
 have hver : (Obj.row e 1 0 ((intsOf l).map (encK .u8))).ver = l.length := hel
 obtain ⟨m', g1, g2⟩ := Step.new (m := m) (Z := Z) (w := w.drew) (k := k) (o := .row e 1 0 ((intsOf l).map (encK .u8))) (.cells row e (row.size, row.size + 1)) cap hs1.sim.frozen (fun L => hfr k (by simp [keys]) (by simp [keys]) L) fun m' g1 g2 g3 => by
  rw [hver] at g1
  by_cases h0 : cap = 0
  ·have hl0 : l = [] := List.eq_nil_of_length_eq_zero (by omega)
   subst hl0
   rw [h0] at g1
   exact .inl ⟨by omega, rfl, rfl, ⟨_, g1⟩, fun L loc he => by have := g2 L loc he; rw [this, hver]; exact Nat.le_refl _⟩
  ·refine .inr ⟨w.heap.size, cap, row, (row.size, row.size + 1), by rw [hel]; exact g1, by omega, World.alloc_heap_new w.drew _, by rw [hel]; exact hge, hle, by rw [hrl]; omega, by omega, ?_, ?_, .inr (by rw [hrl]; omega), by simp, fun a x ha he => ?_, fun L loc he => by have := g2 L loc he; rw [this, hver, hel]; exact Nat.le_refl _, fun off x ho hx => by omega⟩
   ·rw [hel, Nat.mul_one, hrt]
    have hfl : ((intsOf l).map (encK .u8)).flatten = l.map fun b => V.int .u8 b.toNat := by
     rw [intsOf, List.map_map]
     exact flat_sing (fun b : UInt8 => V.int .u8 b.toNat) l
    rw [hfl]
    exact repL_bytes l
   ·intro c hc
    obtain ⟨n, _, rfl⟩ := List.mem_map.1 hc
    rfl
   ·have := frozen_lt hs1.sim.frozen ha
    have hh : w.drew.heap.size = w.heap.size := rfl
    omega
 rw [hver] at g2
 refine ⟨rfl, .inl ⟨.slice (some ⟨w.heap.size, 0, none⟩) l.length cap, w.drew.alloc (.cells row e (row.size, row.size + 1)), ?_, m', Z, hs1.trans g1, ?_⟩⟩
 ·simp only [execOp, hX, Sem.run_bind, hrun, Result.andThen_ok, Sem.run_pure]
 ·refine ⟨m', _, rfl, g2, by simpa using hge, hle, .inl ?_⟩
  simp
theorem loc_bytesStrP {s d k t fz L o n : Nat} {x : Operand} {l : List Int} (ht : byteT P s d = true) (hx : evV ρ x = .sl 1 k L o n) (hL : L = l.length) (hn : o + n ≤ L) :
  Loc P ⟨dst, .convert s d x, ty, pos, aft, gd⟩ ρ [(k, .row t 1 fz (l.map (encK .u8)))] (.str (bytesOf ((l.drop o).take n))) [(k, .row t 1 fz (l.map (encK .u8)))] := by
 intro ρr m Z w hops hs _
 have hX := hops x (by simp [Op.operands])
 rw [hx] at hX
 subst hL
 obtain ⟨f, loc, e1, e2, e3, e4, e5⟩ := hX
 cases e1
 obtain ⟨e, h1, h2, h3⟩ := byteT_is ht
 have hrun : ∀ X, ev ρr x = X → (convert s d X).run P w = .ok (.string ⟨(bytesOf ((l.drop o).take n)).toArray⟩) w → ∃ x', (execOp (ev ρr) ⟨dst, .convert s d x, ty, pos, aft, gd⟩).run P w = .ok (.value x') w ∧ ∃ m' Z', Step m Z [(k, .row t 1 fz (l.map (encK .u8)))] w m' Z' [(k, .row t 1 fz (l.map (encK .u8)))] w ∧ Rep (some m') Z' (.str (bytesOf ((l.drop o).take n))) x' := fun X hX hr =>
  ⟨_, by simp [execOp, hX, hr], m, Z, Step.refl hs, rfl⟩
 have hnil : ∀ A c, n = 0 → (convert s d (.slice A 0 c)).run P w = .ok (.string ⟨(bytesOf ((l.drop o).take n)).toArray⟩) w := fun A c h0 => by
  subst h0
  cases A with
  | none => exact run_convert_bytes_nil w s e h1 h2 0 c d h3
  | some a =>
   rw [run_convert_bytes_string w s d e _ 0 c h1 h2 h3, run_bytesToString w a 0 c [] (by have := run_loadCells_list (P := P) w a [] (fun j v hj => by simp at hj); simpa using this)]
   rfl
 refine ⟨rfl, .inl ?_⟩
 have hh := hs.holds _ (List.mem_singleton.2 rfl)
 by_cases h0 : n = 0
 ·have : ∃ A c, ev ρr x = .slice A 0 c := by
   rcases e5 with h | ⟨_, A, h⟩ | ⟨_, _, A, c, h, _⟩
   ·subst h0; exact ⟨_, _, h⟩
   ·exact ⟨_, _, h⟩
   ·exact ⟨_, _, h⟩
  obtain ⟨A, c, hX⟩ := this
  obtain ⟨x', g1, g2⟩ := hrun _ hX (hnil A c h0)
  exact ⟨x', w, g1, g2⟩
 ·rcases hh with ⟨_, hn0, _⟩ | ⟨b, cap, cur, fr, g1, g0, g2, g3, g4, g5, g6, g7, g8, g9, g10, g11, g12, g13⟩
  ·rw [List.map_eq_nil_iff] at hn0; subst hn0; simp at hn; omega
  ·simp only [List.length_map] at g1 g3 g7
   rw [g1] at e2; cases e2
   have hfl : (l.map (encK .u8)).flatten = l.map fun n => V.int .u8 n := flat_sing (fun n => V.int .u8 n) l
   rw [hfl, Nat.mul_one] at g7
   have htk := repL_map (enc := fun n => V.int .u8 n) (f := Value.int .u8) (m := none) (Z := Z) (fun a x h => h) g7
   rcases e5 with hX | ⟨hc, _⟩ | ⟨_, hc, _⟩
   ·have hcell : ∀ i, i < n → w.cell? ⟨b, o + i, none⟩ = some (.int .u8 (((l.drop o).take n).getD i 0)) := fun i hi => by
     rw [cell_of_row w b _ cur t fr g2]
     have e7 : (cur.toList.take l.length)[o + i]? = (l.map (Value.int .u8))[o + i]? := by rw [htk]
     rw [List.getElem?_take, if_pos (by omega)] at e7
     have e8 : cur[o + i]? = cur.toList[o + i]? := by simp
     rw [e8, e7]
     have hil : o + i < l.length := by omega
     simp [List.getD_eq_getElem?_getD, List.getElem?_take, hi, List.getElem?_drop, List.getElem?_eq_getElem hil]
    have := run_convert_bytes_arg w s e h1 h2 b o n (cap - o) ((l.drop o).take n) (by simp; omega) hcell d h3
    obtain ⟨x', k1, k2⟩ := hrun _ (by simpa using hX) this
    exact ⟨x', w, k1, k2⟩
   ·simp only at hc; omega
   ·omega
theorem loc_strBytesT {s d e k L : Nat} {x : Operand} {l : List UInt8} (ht : bytesT P s d e = true) (hx : evV ρ x = .str l) (h63 : l.length ≤ 9223372036854775807) (hL : (intsOf l).length = L) :
  Loc P ⟨dst, .convert s d x, ty, pos, aft, gd⟩ ρ [] (.sl 1 k L 0 L) [(k, .row e 1 0 ((intsOf l).map (encK .u8)))] := by
 subst hL
 have e1 : (intsOf l).length = l.length := by simp [intsOf]
 rw [e1]
 exact loc_strBytes ht hx h63
end
end Go.EV
