/- The keys of a map, sorted. -/
import Derived.Test.YtconjkgifdfhdaaB
import Derived.Test.YtconjkgifdfhdaaEvTwo
import Derived.Test.YtconjkgifdfhdaaIter
set_option linter.all false
set_option maxRecDepth 100000
namespace Go.Proofs.Ytconjkgifdfhdaa
open Go Go.RowKit Go.Eng Go.EV
theorem sort_perm {a b : List (List UInt8)} (h : a.Perm b) : a.mergeSort (fun x y => decide (x ≤ y)) = b.mergeSort (fun x y => decide (x ≤ y)) := by
 have tr : ∀ x y z : List UInt8, decide (x ≤ y) = true → decide (y ≤ z) = true → decide (x ≤ z) = true := fun x y z h1 h2 => by
  simp only [decide_eq_true_eq] at *; exact List.le_trans h1 h2
 have to : ∀ x y : List UInt8, (decide (x ≤ y) || decide (y ≤ x)) = true := fun x y => by
  simp only [Bool.or_eq_true, decide_eq_true_eq]; exact List.le_total x y
 have h1 := List.pairwise_mergeSort tr to a
 have h2 := List.pairwise_mergeSort tr to b
 refine List.Perm.eq_of_pairwise (le := fun x y => decide (x ≤ y) = true) (fun x y _ _ hx hy => ?_) h1 h2 ((List.mergeSort_perm a _).trans (h.trans (List.mergeSort_perm b _).symm))
 simp only [decide_eq_true_eq] at hx hy
 exact List.le_antisymm hx hy
theorem row_rep {α : Type} {enc : α → List Value} {encV : α → List V} {e k : Nat} {l : List α} {m : M} {Z : ZM} {w w' : World} {v : Value} (hk : ∀ a, (encV a).length = k) (hrep : ∀ Z a, RepL none Z (encV a) (enc a)) (hf : ∀ a x, Z a = some x → w.cell? a = some x)
  (hb : Below w.heap.size w w') (h : Go.World.ownsRow w' w.heap.size e k v l.length (l.map enc).flatten) : ∃ Z', Step m Z [] w m Z' [] w' ∧ Rep (some m) Z' (.vs k (l.map encV)) v := by
 obtain ⟨hfl, hrow⟩ := h
 rcases hrow with ⟨rfl, h0⟩ | ⟨g, cap, cur, rfl, hg, hgc, hc, hcm, hsz, htk⟩
 ·have : l = [] := List.eq_nil_of_length_eq_zero h0
  subst this
  exact ⟨Z, below_step hf hb, none, 0, rfl, Nat.le_refl _, Nat.zero_le _, .inl rfl⟩
 ·let Z' : ZM := fun a => if a.block = g ∧ a.spot = none ∧ a.off < l.length * k then w'.cell? a else Z a
  have hlt : ∀ a x, Z a = some x → a.block ≠ g := fun a x ha hab => by have := frozen_lt hf ha; omega
  have hst := below_step (m := m) hf hb
  have hlen : ∀ a, (enc a).length = k := fun a => by rw [(hrep Z a).length, hk]
  refine ⟨Z', ⟨⟨fun a x ha => ?_, fun p hp => (by cases hp), List.nodup_nil, fun p hp => (by cases hp)⟩, fun _ _ _ h => h, fun a x ha => ?_, hb.os, hb.tape, hb.output, hb.size, fun b hb' _ => hb.block b hb', fun _ h => h, fun _ _ => rfl, fun p hp => (by cases hp), fun a x ha => ?_⟩, ?_⟩
  ·show w'.cell? a = some x
   have ha' : (if a.block = g ∧ a.spot = none ∧ a.off < l.length * k then w'.cell? a else Z a) = some x := ha
   split at ha'
   ·exact ha'
   ·exact hst.sim.frozen a x ha'
  ·show (if a.block = g ∧ a.spot = none ∧ a.off < l.length * k then w'.cell? a else Z a) = some x
   rw [if_neg (fun h => hlt a x ha h.1)]; exact ha
  ·have ha' : (if a.block = g ∧ a.spot = none ∧ a.off < l.length * k then w'.cell? a else Z a) = some x := ha
   split at ha'
   ·rename_i hc'; rw [hc'.1]; exact .inr (.inl hg)
   ·exact .inl ha'
  ·refine ⟨some ⟨g, 0, none⟩, cap, by simp, by simpa using hc, hcm, ?_⟩
   by_cases hl : l = []
   ·left; simp [hl]
   ·refine .inr ⟨⟨g, 0, none⟩, rfl, RepRows.of_get fun i cs hi => ?_⟩
    rw [List.getElem?_map] at hi
    obtain ⟨a, ha, rfl⟩ := Option.map_eq_some_iff.1 hi
    have hil : i < l.length := (List.getElem?_eq_some_iff.1 ha).1
    refine ⟨hk a, RepAt.of_get fun j v hj => ?_⟩
    have hjk : j < k := by rw [← hk a]; exact (List.getElem?_eq_some_iff.1 hj).1
    obtain ⟨u, hu, hru⟩ := (hrep Z' a).get hj
    refine ⟨u, ?_, hru⟩
    have hoff : i * k + j < l.length * k := by
     have : (i + 1) * k ≤ l.length * k := Nat.mul_le_mul_right k hil
     rw [Nat.succ_mul] at this; omega
    rw [Nat.zero_add, Nat.zero_add, Addr.add_lit, Addr.add_lit, Nat.zero_add]
    show (if _ ∧ _ ∧ _ then w'.cell? ⟨g, i * k + j, none⟩ else _) = some u
    rw [if_pos ⟨rfl, rfl, hoff⟩, cell_of_row w' g _ cur e (0, 0) hgc]
    have e1 : cur[i * k + j]? = (cur.toList.take (l.length * k))[i * k + j]? := by
     rw [List.getElem?_take, if_pos hoff]; simp
    rw [e1, htk]
    exact flatten_at (fun x hx => by obtain ⟨b, _, rfl⟩ := List.mem_map.1 hx; exact hlen b) (m := i) (x := enc a) (by rw [List.getElem?_map, ha]; rfl) hu
theorem w_sorted_keys (l : List (List UInt8 × Bool)) (h : (l.map (·.1)).Nodup ∧ (∀ k ∈ l.map (·.1), k.length ≤ 9223372036854775807) ∧ l.length * 16 ≤ 140737488355328) :
  FnA Try.prog 43 [.fn 62 [] [.ptr 1000000 0 0]] [(1000000, .box 67 [.mp 1000001]), (1000001, .map (encM V.str V.bool l))] (.vs 1 (List.map EV.encS (sortKeys l))) [(1000000, .box 67 [.mp 1000001]), (1000001, .map (encM V.str V.bool l))] := by
 obtain ⟨hnd, hkl, hsz⟩ := h
 intro w m Z vals hs hv hdom
 obtain ⟨x, xs, rfl, ⟨l1, l2, rfl, h1, y, ys, rfl, ⟨f, ⟨b0, c0⟩, e1, hb0, rfl⟩, h2⟩, h3⟩ := hv
 cases h1; cases h2; cases h3; cases e1
 obtain ⟨b0', cur, d1, d2, d3, _⟩ := hs.holds _ (List.mem_cons_self ..)
 rw [d1] at hb0; cases hb0
 obtain ⟨v, t, e1, ⟨f2, ⟨b, c1⟩, e2, hb, rfl⟩, e3⟩ := d3
 cases e2
 obtain ⟨b', es, clock, g1, g2, g3, g4, g5, _⟩ := hs.holds _ (List.mem_cons_of_mem _ (List.mem_cons_self ..))
 rw [g1] at hb; cases hb
 have hu9 : Try.prog.underlying 9 = some .string := by kernel_rfl
 have hu4 : Try.prog.underlying 4 = some .bool := by kernel_rfl
 -- the entries, one by one
 have hes : ∀ (l : List (List UInt8 × Bool)) (es : List MapEntry), (∀ k ∈ l.map (·.1), k.length ≤ 9223372036854775807) → RepE Z (encM V.str V.bool l) es →
   es.length = l.length ∧ es.map (·.key) = l.map (fun p => .string ⟨p.1.toArray⟩) ∧ ∀ x ∈ es, ∃ k q, x.key = .string ⟨(k : List UInt8).toArray⟩ ∧ k.length ≤ 9223372036854775807 ∧ x.val = .bool q := by
  intro l
  induction l with
  | nil => intro es _ h; cases h; exact ⟨rfl, rfl, fun x hx => by cases hx⟩
  | cons p l ih =>
   intro es hk h
   obtain ⟨x, es', rfl, hk1, hk2, hk3⟩ := h
   obtain ⟨i1, i2, i3⟩ := ih es' (fun k hk' => hk k (List.mem_cons_of_mem _ hk')) hk3
   refine ⟨by simp [i1], by simp only [List.map_cons, i2]; rw [show x.key = .string ⟨p.1.toArray⟩ from hk1], fun y hy => ?_⟩
   rcases List.mem_cons.1 hy with rfl | hy
   ·exact ⟨p.1, p.2, hk1, hk _ (List.mem_cons_self ..), hk2⟩
   ·exact i3 y hy
 obtain ⟨i1, i2, i3⟩ := hes l es.toList hkl g3
 have hsize : es.size = l.length := by simpa using i1
 have hown : Go.World.ownsMap (H := Unit) w Try.prog 9 (Go.plainElem Try.prog 4) b es.size (.map ((es.toList.map (Go.WideElems.rg (H := Unit) Try.prog 9 (Go.plainElem Try.prog 4))).foldr DataW.insert [])) := by
  refine ⟨es, clock, g2, ⟨by rw [hsize]; simp only [maxLen]; omega, ⟨g5, ?_, ?_⟩, fun x hx => ?_⟩, Nat.le_refl _, rfl⟩
  ·rw [List.Nodup, List.pairwise_map]
   exact g4.imp fun h => Nat.ne_of_lt h
  ·rw [i2, List.Nodup, List.pairwise_map]
   rw [List.Nodup, List.pairwise_map] at hnd
   exact hnd.imp fun h e => h (by simpa using e)
  ·obtain ⟨kk, q, e1, e2, e3⟩ := i3 x hx
   refine ⟨(.string kk, .lit (.bool q)), ?_⟩
   unfold Go.WideElems.rd
   rw [e1, e3, Go.WideMaps.keyOf_string_mk hu9 (by show kk.toArray.size ≤ _; simpa [maxLen] using e2), plainElem_bool hu4]
   simp
 have hrg : ∀ x ∈ es.toList, ∃ k q, x.key = .string ⟨(k : List UInt8).toArray⟩ ∧ Go.WideElems.rg (H := Unit) Try.prog 9 (Go.plainElem Try.prog 4) x = (.string k, .lit (.bool q)) := fun x hx => by
  obtain ⟨kk, q, e1, e2, e3⟩ := i3 x hx
  refine ⟨kk, q, e1, ?_⟩
  unfold Go.WideElems.rg Go.WideElems.rd
  rw [e1, e3, Go.WideMaps.keyOf_string_mk hu9 (by show kk.toArray.size ≤ _; simpa [maxLen] using e2), plainElem_bool hu4]
  simp
 have hkeys : (Go.strKeys (H := Unit) (.map ((es.toList.map (Go.WideElems.rg (H := Unit) Try.prog 9 (Go.plainElem Try.prog 4))).foldr DataW.insert []))).Perm (l.map (·.1)) := by
  show (List.map (fun p : Lit × DataW Unit => Go.strOf p.1) _).Perm _
  refine ((Go.WideShapes.sorted_perm _).map _).trans (List.Perm.of_eq ?_)
  rw [List.map_map]
  have h1 : ∀ (es : List MapEntry) (l : List (List UInt8 × Bool)), es.map (·.key) = l.map (fun p => .string ⟨p.1.toArray⟩) → (∀ x ∈ es, ∃ k q, x.key = .string ⟨(k : List UInt8).toArray⟩ ∧ Go.WideElems.rg (H := Unit) Try.prog 9 (Go.plainElem Try.prog 4) x = (.string k, .lit (.bool q))) →
    es.map ((fun p => Go.strOf p.1) ∘ Go.WideElems.rg (H := Unit) Try.prog 9 (Go.plainElem Try.prog 4)) = l.map (·.1) := by
   intro es
   induction es with
   | nil => intro l h _; cases l with | nil => rfl | cons => simp at h
   | cons x es ih =>
    intro l h hx
    cases l with
    | nil => simp at h
    | cons p l =>
     simp only [List.map_cons, List.cons.injEq] at h
     obtain ⟨kk, q, e1, e2⟩ := hx x (List.mem_cons_self ..)
     rw [List.map_cons, List.map_cons, ih l h.2 fun y hy => hx y (List.mem_cons_of_mem _ hy)]
     congr 1
     show Go.strOf (Go.WideElems.rg (H := Unit) Try.prog 9 (Go.plainElem Try.prog 4) x).1 = p.1
     rw [e2]
     show kk = p.1
     have := e1.symm.trans h.1
     simpa using this
  exact h1 _ _ i2 hrg
 have hle := hown.size_le
 have hmax : Go.Maps.size (H := Unit) (.map ((es.toList.map (Go.WideElems.rg (H := Unit) Try.prog 9 (Go.plainElem Try.prog 4))).foldr DataW.insert [])) ≤ maxLen := by
  refine Nat.le_trans hle ?_
  rw [hsize]; simp only [maxLen]; omega
 have hbytes : Go.Maps.size (H := Unit) (.map ((es.toList.map (Go.WideElems.rg (H := Unit) Try.prog 9 (Go.plainElem Try.prog 4))).foldr DataW.insert [])) * 16 ≤ 140737488355328 := by
  have := Nat.mul_le_mul_right 16 hle
  rw [hsize] at this
  omega
 have hcell : w.cell? ⟨b0, 0, none⟩ = some (.map (some b)) := by
  rw [cell_of_row w b0 0 cur _ _ d2]
  have h0 : cur[0]? = cur.toList[0]? := by simp
  rw [h0]
  first | (rw [e1]; rfl) | (simp_all)
 have hseq : Go.SeqGives Fence.wide 2 Try.prog 62 #[.pointer (some ⟨b0, 0, none⟩)] encStr (fun ss => ss.Perm (Go.strKeys (H := Unit) (.map ((es.toList.map (Go.WideElems.rg (H := Unit) Try.prog 9 (Go.plainElem Try.prog 4))).foldr DataW.insert [])))) _ w :=
  AnyZ.keys_gives (ρ := Try.keys44_ren) { Try.keys44 with } Fence.wide _ trivial rfl (by omega) b0 b es.size _ w (Array.getElem?_eq_some_iff.1 d2).1 hcell hown
 have hcall := AnyZ.sorted_in Try.sorted43 Fence.wide 5 trivial trivial trivial trivial rfl (by omega) (Try.sorts43 _) (enters_of Try.func61 (by kernel_rfl) rfl) 62 #[.pointer (some ⟨b0, 0, none⟩)] trivial (enters_of Try.func62 (by kernel_rfl) rfl) _ _ hmax hbytes w hseq
 refine ((callsIn_wide (n := 5)).1 hcall).mono ?_
 rintro en w' ⟨v, ss, rfl, hp, hrow, _, hbel⟩
 have hss : (ss.mergeSort fun x y => decide (x ≤ y)) = sortKeys l := sort_perm (hp.trans hkeys)
 rw [hss] at hrow
 have hlen : ss.length = (sortKeys l).length := by rw [← hss]; exact (List.length_mergeSort ss).symm
 rw [hlen] at hrow
 have hflat : ∀ q : List (List UInt8), (q.map fun s => [encStr s]).flatten = q.map encStr := fun q => by
  induction q with
  | nil => rfl
  | cons a q ih => simp [ih]
 obtain ⟨Z', hst, hrep⟩ := row_rep (enc := fun s => [encStr s]) (encV := EV.encS) (e := 9) (k := 1) (l := sortKeys l) (m := m) (Z := Z) (w := w) (w' := w') (v := v) (fun _ => rfl) (fun _ s => ⟨_, [], rfl, rfl, rfl⟩) hs.frozen hbel (by rw [hflat]; exact hrow)
 refine ⟨v, m, Z', rfl, ?_, hrep⟩
 exact Step.frame_rule (F := []) (F' := []) hs hst fun p hp => by cases hp
end Go.Proofs.Ytconjkgifdfhdaa
