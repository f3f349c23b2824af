/- Maps of the call's own: looking up and storing. -/
import Derived.Test.YtconjkgifdfhdaaEvTwo
import Derived.MapKept
import Derived.Maps.RangeRun
import Derived.Laws.MakeOwn
set_option linter.all false
namespace Go.EV
open Go Go.RowKit Go.Eng

def mfind {α β : Type} [DecidableEq α] (a : α) : List (α × β) → Option β
 | [] => none
 | (k, b) :: r => if a = k then some b else mfind a r
def mset {α β : Type} [DecidableEq α] (a : α) (b : β) : List (α × β) → List (α × β)
 | [] => [(a, b)]
 | (k, c) :: r => if a = k then (a, b) :: r else (k, c) :: mset a b r
def encM {α β : Type} (f : α → V) (g : β → V) (l : List (α × β)) : List (V × V) := l.map fun p => (f p.1, g p.2)
def findP {α : Type} [DecidableEq α] (a : α) : List α → List MapEntry → Nat → Option (Nat × Value)
 | k :: ks, e :: es, i => if a = k then some (i, e.val) else findP a ks es (i + 1)
 | _, _, _ => none
structure KeyOK (P : Program) (kt : TypeId) {α : Type} [DecidableEq α] (f : α → V) (val : α → Value) : Prop where
 det : ∀ m Z a x, Rep m Z (f a) x → x = val a
 rep : ∀ m Z a, Rep m Z (f a) (val a)
 check : ∀ e a w, (Instr.checkKey e 10000 kt (val a)).run P w = .ok () w
 find : ∀ (a : α) (es : List MapEntry) (ks : List α) w, es.map (·.key) = ks.map val → (Instr.findKey kt (val a) es).run P w = .ok (findP a ks es 0) w
 bits : ∀ a, Instr.sameBits 10000 (val a) (val a) = true
theorem findNow_of {α : Type} [DecidableEq α] {d : TypeDesc} {val : α → Value} (h : ∀ a b, Instr.sameNow d (val a) (val b) = some (decide (a = b))) (a : α) : ∀ (es : List MapEntry) (ks : List α) (i : Nat), es.map (·.key) = ks.map val → Instr.findNow d (val a) es i = some (findP a ks es i)
 | [], ks, i, he => by
  cases ks with
  | nil => rfl
  | cons => simp at he
 | e :: es, [], i, he => by simp at he
 | e :: es, k :: ks, i, he => by
  simp only [List.map_cons, List.cons.injEq] at he
  have ih := findNow_of h a es ks (i + 1) he.2
  simp only [Instr.findNow, he.1, h, findP]
  by_cases e1 : a = k
  ·simp [e1]
  ·simp [e1, ih]
section
variable {P : Program}
theorem keyOK_of {α : Type} [DecidableEq α] {kt : TypeId} {d : TypeDesc} {f : α → V} {val : α → Value} (hk : P.underlying kt = some d) (hd : ∀ m Z a x, Rep m Z (f a) x → x = val a) (hr : ∀ m Z a, Rep m Z (f a) (val a))
  (hc : ∀ e a w, (Instr.checkKey e 10000 kt (val a)).run P w = .ok () w) (h : ∀ a b, Instr.sameNow d (val a) (val b) = some (decide (a = b))) (hb : ∀ a, Instr.sameBits 10000 (val a) (val a) = true) : KeyOK P kt f val :=
 ⟨hd, hr, hc, fun a es ks w he => by simp [Instr.findKey, run_underlying hk, findNow_of h a es ks 0 he], hb⟩
theorem bytes_beq (a b : List UInt8) : ((⟨a.toArray⟩ : ByteArray) == ⟨b.toArray⟩) = decide (a = b) := by
 rw [show ((⟨a.toArray⟩ : ByteArray) == ⟨b.toArray⟩) = (a.toArray == b.toArray) from rfl, Bool.eq_iff_iff]; simp
theorem keyOK_str {kt : TypeId} (hk : P.underlying kt = some .string) : KeyOK P kt V.str (fun s => .string ⟨s.toArray⟩) :=
 keyOK_of hk (fun _ _ _ _ h => h) (fun _ _ _ => rfl) (fun e a w => by
  unfold Instr.checkKey
  simp [run_underlying hk]) (fun a b => by simp only [Instr.sameNow, bytes_beq]) fun a => by simp only [Instr.sameBits, bytes_beq]; simp
def mapT (P : Program) (t : Nat) : Option (Nat × Nat) := match P.underlying t with | some (.map k e) => some (k, e) | _ => none
theorem mapT_of {t k e : Nat} (h : mapT P t = some (k, e)) : P.underlying t = some (.map k e) := by
 unfold mapT at h
 split at h
 ·cases h; assumption
 ·cases h
def zero1 (P : Program) (t : Nat) : Option V := match P.info? t with | some i => i.zero.map ofC | none => none
theorem zero1_of {t : Nat} {v : V} {m : Option M} {Z : ZM} {w : World} (h : zero1 P t = some v) : ∃ z, (zeroValue t).run P w = .ok z w ∧ Rep m Z v z := by
 unfold zero1 at h
 split at h
 ·rename_i i hi
  obtain ⟨z, hz, rfl⟩ := Option.map_eq_some_iff.1 h
  exact ⟨z, by simp [zeroValue, typeInfo, hi, hz, Sem.run], rep_ofC z⟩
 ·cases h
def lookV (c : Bool) (v : V) (b : Bool) : V := match c with | true => .tup [v, .bool b] | false => v
theorem RepE.find {α β : Type} [DecidableEq α] {Z : ZM} {f : α → V} {g : β → V} {val : α → Value} (hd : ∀ m Z a x, Rep m Z (f a) x → x = val a) (a : α) : ∀ {l : List (α × β)} {es : List MapEntry} (i : Nat), RepE Z (encM f g l) es →
  es.map (·.key) = (l.map (·.1)).map val ∧ match mfind a l with
   | some b => ∃ j e, findP a (l.map (·.1)) es i = some (i + j, e.val) ∧ es[j]? = some e ∧ e.key = val a ∧ Rep none Z (g b) e.val ∧ ∀ (c : β) (y : Value), Rep none Z (g c) y → RepE Z (encM f g (mset a c l)) (es.modify j fun e => { e with key := val a, val := y })
   | none => findP a (l.map (·.1)) es i = none ∧ ∀ (c : β) (y : Value) (n : Nat), Rep none Z (f a) (val a) → Rep none Z (g c) y → RepE Z (encM f g (mset a c l)) (es ++ [{ key := val a, val := y, born := n }])
 | [], es, i, h => by
  cases h
  exact ⟨rfl, rfl, fun c y n h1 h2 => ⟨_, [], rfl, h1, h2, rfl⟩⟩
 | (k, b) :: l, es, i, h => by
  obtain ⟨e, es, rfl, h1, h2, h3⟩ := h
  have hk := hd _ _ _ _ h1
  obtain ⟨h4, h5⟩ := RepE.find hd a (i + 1) h3
  refine ⟨by simp [hk, h4], ?_⟩
  simp only [mfind]
  by_cases e1 : a = k
  ·subst e1
   simp only [if_pos]
   refine ⟨0, e, by simp [findP], rfl, hk, h2, fun c y hy => ?_⟩
   simp only [mset, if_pos]
   exact ⟨_, es, rfl, by rw [← hk]; exact h1, hy, h3⟩
  ·rw [if_neg e1]
   cases hm : mfind a l with
   | some b' =>
    rw [hm] at h5
    obtain ⟨j, e', g1, g2, g3, g4, g5⟩ := h5
    refine ⟨j + 1, e', by simp only [List.map_cons, findP, if_neg e1, g1]; congr 2; omega, by simpa using g2, g3, g4, fun c y hy => ?_⟩
    simp only [mset, if_neg e1]
    exact ⟨e, _, by simp, h1, h2, g5 c y hy⟩
   | none =>
    rw [hm] at h5
    obtain ⟨g1, g2⟩ := h5
    refine ⟨by simp only [List.map_cons, findP, if_neg e1, g1], fun c y n q1 q2 => ?_⟩
    simp only [mset, if_neg e1]
    exact ⟨e, _, rfl, h1, h2, g2 c y n q1 q2⟩
variable {ρ : Env} {dst : Option Tmp} {ty : TypeId} {pos : String} {aft : Array Edge} {gd : Option (Nat × Bool)}
theorem loc_lookup {α β : Type} [DecidableEq α] {f : α → V} {val : α → Value} {g : β → V} {t kt et k : Nat} {x ix : Operand} {l : List (α × β)} (c : Bool) {a : α} {z : β} {zv : V} (hT : mapT P t = some (kt, et)) (K : KeyOK P kt f val) (hz : zero1 P et = some zv)
  (hzg : ∀ (m : Option M) (Z : ZM) (y : Value), Rep m Z zv y → Rep m Z (g z) y) (hx : evV ρ x = .mp k) (hi : evV ρ ix = f a) :
  Loc P ⟨dst, .lookup t x ix c, ty, pos, aft, gd⟩ ρ [(k, .map (encM f g l))] (lookV c (g ((mfind a l).getD z)) (mfind a l).isSome) [(k, .map (encM f g l))] := by
 intro ρr m Z w hops hs _
 have hX := hops x (by simp [Op.operands])
 have hI := K.det _ _ _ _ (hi ▸ hops ix (by simp [Op.operands]))
 rw [hx] at hX
 obtain ⟨m1, loc, e1, e2, hX⟩ := hX
 cases e1
 obtain ⟨b, es, clock, g1, g2, g3, g4, g5, g6, g7⟩ := hs.holds _ (List.mem_singleton.2 rfl)
 rw [g1] at e2; cases e2
 obtain ⟨h1, h2⟩ := g3.find K.det a 0
 obtain ⟨zz, hz1, hz2⟩ := zero1_of (m := some m) (Z := Z) (w := w) hz
 have hfind := K.find a es.toList _ w h1
 have hc := K.check es.isEmpty a w
 have hu := mapT_of hT
 have key : ∃ v b', (Instr.lookup t (.map (some b)) (val a) c).run P w = .ok (if c then .tuple #[v, .bool b'] else v) w ∧ Rep (some m) Z (g ((mfind a l).getD z)) v ∧ b' = (mfind a l).isSome := by
  cases hm : mfind a l with
  | some b' =>
   rw [hm] at h2
   obtain ⟨j, e', q1, q2, q3, q4, q5⟩ := h2
   rw [q1] at hfind
   exact ⟨e'.val, true, by simp [Instr.lookup, run_underlying hu, MapKept.run_getObj_map g2, hc, hfind], Rep.up (fun _ _ e => e) (fun f e => by cases e) q4, rfl⟩
  | none =>
   rw [hm] at h2
   rw [h2.1] at hfind
   exact ⟨zz, false, by simp [Instr.lookup, run_underlying hu, MapKept.run_getObj_map g2, hc, hfind, hz1], hzg _ _ _ hz2, rfl⟩
 obtain ⟨v, b', hrun, hv, hb⟩ := key
 refine ⟨rfl, .inl ⟨_, w, by simp only [execOp, hX, hI, Sem.run_bind, hrun, Result.andThen_ok, Sem.run_pure]; rfl, m, Z, Step.refl hs, ?_⟩⟩
 cases c with
 | true => exact ⟨[v, .bool b'], rfl, v, _, rfl, hv, _, _, rfl, by rw [hb]; rfl, rfl⟩
 | false => exact hv
theorem loc_mapUpdate {α β : Type} [DecidableEq α] {f : α → V} {val : α → Value} {g : β → V} {t kt et k : Nat} {x ix y : Operand} {l : List (α × β)} {a : α} {c : β} (hT : mapT P t = some (kt, et)) (K : KeyOK P kt f val)
  (hx : evV ρ x = .mp k) (hi : evV ρ ix = f a) (hy : evV ρ y = g c) (hr : (g c).refs = []) (hra : (f a).refs = []) :
  Loc P ⟨dst, .mapUpdate t x ix y, ty, pos, aft, gd⟩ ρ [(k, .map (encM f g l))] .no [(k, .map (encM f g (mset a c l)))] := by
 intro ρr m Z w hops hs _
 have hX := hops x (by simp [Op.operands])
 have hI0 := hops ix (by simp [Op.operands])
 have hY := hops y (by simp [Op.operands])
 have hI := K.det _ _ _ _ (hi ▸ hI0)
 rw [hx] at hX
 rw [hy] at hY
 have hY : Rep none Z (g c) (ev ρr y) := Rep.flat _ _ hr hY
 obtain ⟨m1, loc, e1, e2, hX⟩ := hX
 cases e1
 obtain ⟨b, es, clock, g1, g2, g3, g4, g5, g6, g7⟩ := hs.holds _ (List.mem_singleton.2 rfl)
 rw [g1] at e2; cases e2
 obtain ⟨h1, h2⟩ := g3.find K.det a 0
 have hfind := K.find a es.toList _ w h1
 have hc := K.check false a w
 have hu := mapT_of hT
 have hbl : b < w.heap.size := (Array.getElem?_eq_some_iff.1 g2).1
 have key : ∃ es' clock', (Instr.mapUpdate t (.map (some b)) (val a) (ev ρr y)).run P w = .ok () { w with heap := w.heap.setIfInBounds b (.map es' clock') } ∧ RepE Z (encM f g (mset a c l)) es'.toList ∧ (es'.toList.Pairwise fun x y => x.born < y.born) ∧ (∀ e ∈ es'.toList, e.born < clock') := by
  cases hm : mfind a l with
  | some b' =>
   rw [hm] at h2
   obtain ⟨j, e', q1, q2, q3, q4, q5⟩ := h2
   rw [q1] at hfind
   have q2' : es[0 + j]? = some e' := by simpa using q2
   have hmem : ∀ e ∈ (es.toList.modify (0 + j) fun e => { e with key := val a, val := ev ρr y }), ∃ e0 ∈ es.toList, e.born = e0.born := fun e he => by
    obtain ⟨i, hi, rfl⟩ := List.getElem_of_mem he
    rw [List.getElem_modify]
    simp only [List.length_modify] at hi
    refine ⟨es.toList[i], List.getElem_mem _, ?_⟩
    split <;> rfl
   refine ⟨es.modify (0 + j) fun e => { e with key := val a, val := ev ρr y }, clock, ?_, ?_, ?_, ?_⟩
   ·have q2'' : es[j]? = some e' := by simpa using q2'
    simp [Instr.mapUpdate, run_underlying hu, MapKept.run_getObj_map g2, hc, hfind, Instr.keyThatStays, q2'', q3, K.bits, MapKept.run_setObj_map _ g2]
   ·rw [Array.toList_modify]; simpa using q5 c _ hY
   ·rw [Array.toList_modify, List.pairwise_iff_getElem]
    intro i j' hi hj hij
    rw [List.getElem_modify, List.getElem_modify]
    simp only [List.length_modify] at hi hj
    have := List.pairwise_iff_getElem.1 g4 i j' hi hj hij
    split <;> split <;> exact this
   ·rw [Array.toList_modify]
    intro e he
    obtain ⟨e0, h3, h4⟩ := hmem e he
    rw [h4]; exact g5 e0 h3
  | none =>
   rw [hm] at h2
   rw [h2.1] at hfind
   refine ⟨es.push { key := val a, val := ev ρr y, born := clock }, clock + 1, by simp [Instr.mapUpdate, run_underlying hu, MapKept.run_getObj_map g2, hc, hfind, MapKept.run_setObj_map _ g2], ?_, ?_, ?_⟩
   ·rw [Array.toList_push]; exact h2.2 c _ _ (K.rep _ _ _) hY
   ·rw [Array.toList_push, List.pairwise_append]
    exact ⟨g4, by simp, fun p hp q hq => by simp at hq; subst hq; exact g5 p hp⟩
   ·rw [Array.toList_push]
    intro e he
    rcases List.mem_append.1 he with he | he
    ·have := g5 e he; omega
    ·simp at he; subst he; simp
 obtain ⟨es', clock', hrun, k1, k2, k3⟩ := key
 refine ⟨rfl, .inr (.inl ⟨_, by simp only [execOp, hX, hI, Sem.run_bind, hrun, Result.andThen_ok, Sem.run_pure]; rfl, m, Z, ?_, rfl⟩)⟩
 refine Step.write (b := b) hs (by simp [blk, blk1, Obj.ver, g1]) (blk_ver rfl rfl rfl) rfl rfl rfl (by simp) (fun j hj => by simp [Array.getElem?_setIfInBounds_ne (Ne.symm hj)]) (fun a x ha e => absurd e (g6 a x ha)) ?_
 exact ⟨b, es', clock', g1, by simp [hbl], k1, k2, k3, g6, g7⟩
end
end Go.EV
namespace Go.EV
open Go Go.RowKit Go.Eng

structure Foot where
 z : ZM
 f : Nat → Prop
instance : CoeFun Foot fun _ => Nat → Prop := ⟨Foot.f⟩
def Stab (J : Foot → World → Prop) : Prop :=
 (∀ D W W' row, J D W → W.grownBy W' row → (∀ b, row = some b → ¬ D b) → J D W') ∧ (∀ D W, J D W → ∀ b, D b → b < W.heap.size) ∧ ∀ D W, J D W → ∀ a x, D.z a = some x → D a.block
structure Only (D : Foot) (W W' : World) : Prop where
 size : W.heap.size ≤ W'.heap.size
 same : ∀ b, b < W.heap.size → ¬ D b → W'.heap[b]? = W.heap[b]?
structure Grows (D D' : Foot) (W : World) : Prop where
 f : ∀ b, D' b → D b ∨ W.heap.size ≤ b
 z : ∀ a x, D.z a = some x → D'.z a = some x
theorem Only.refl (D : Foot) (W : World) : Only D W W := ⟨Nat.le_refl _, fun _ _ _ => rfl⟩
theorem Grows.refl (D : Foot) (W : World) : Grows D D W := ⟨fun _ h => .inl h, fun _ _ h => h⟩
theorem Only.trans {D D' : Foot} {A B C : World} (h : Only D A B) (hg : Grows D D' A) (k : Only D' B C) : Only D A C :=
 ⟨Nat.le_trans h.size k.size, fun b hb hn => (k.same b (Nat.lt_of_lt_of_le hb h.size) fun hd => (hg.f b hd).elim hn (by omega)).trans (h.same b hb hn)⟩
theorem Grows.trans {D D' D2 : Foot} {A B : World} (h : Grows D D' A) (hs : A.heap.size ≤ B.heap.size) (k : Grows D' D2 B) : Grows D D2 A :=
 ⟨fun b hb => (k.f b hb).elim (h.f b) fun h' => .inr (Nat.le_trans hs h'), fun a x e => k.z a x (h.z a x e)⟩
theorem Only.grown {D : Foot} {W W' : World} {row : Option Nat} (h : W.grownBy W' row) (hr : ∀ b, row = some b → D b) : Only D W W' :=
 ⟨h.size, fun b hb hn => h.block b hb fun e => hn (hr b e.symm)⟩
theorem Stab.grown {J : Foot → World → Prop} (h : Stab J) {D : Foot} {W W' : World} {row : Option Nat} (hJ : J D W) (hg : W.grownBy W' row) (hr : ∀ b, row = some b → ¬ D b) : J D W' := h.1 D W W' row hJ hg hr
theorem Stab.putObj {J : Foot → World → Prop} (h : Stab J) {D : Foot} {W : World} {l : Nat} (o : Go.Obj) (hJ : J D W) (hl : ¬ D l) : J D (W.putObj l o) :=
 h.grown hJ (grownBy_putObj W l o) (fun b e => by cases e; exact hl)
theorem Stab.alloc {J : Foot → World → Prop} (h : Stab J) {D : Foot} {W : World} (o : Go.Obj) (hJ : J D W) : J D (W.alloc o) :=
 h.grown hJ (World.grownBy_alloc W o none) (fun b e => by cases e)
theorem only_putObj {D : Foot} {W : World} {l : Nat} (o : Go.Obj) (hl : D l) : Only D W (W.putObj l o) := Only.grown (grownBy_putObj W l o) fun b e => by cases e; exact hl
theorem only_alloc {D : Foot} {W : World} (o : Go.Obj) : Only D W (W.alloc o) := Only.grown (World.grownBy_alloc W o none) fun b e => by cases e

def IterF {α : Type} (P : Program) (gf : Nat) (lb : List Value) (encs : α → List Value) (xs : List α) (Need : ZM → World → Prop) : Prop :=
 ∀ (l : Nat) (J Jx : List α → Foot → World → Prop) (W : World) (D : Foot), (∀ pre D W1, J pre D W1 → Need D.z W1) → (∀ pre, Stab (J pre)) → (∀ pre, Stab (Jx pre)) →
  (∀ pre x D1 W1, J pre D1 W1 → pre ++ [x] <+: xs → YieldAt Fence.wide 0 P l (encs x).toArray W1 fun e W' =>
   ∃ D', Only D1 W1 W' ∧ Grows D1 D' W1 ∧ ((e = .returned (.bool true) ∧ J (pre ++ [x]) D' W') ∨ (e = .returned (.bool false) ∧ Jx (pre ++ [x]) D' W'))) →
  J [] D W →
  Calls P gf (.func (.yield l) #[] #[] :: lb).toArray W fun e W' => (∃ v, e = .returned v) ∧ ∃ D', Only D W W' ∧ Grows D D' W ∧ (J xs D' W' ∨ ∃ pre, pre <+: xs ∧ Jx pre D' W')

def roundF (D : Foot) (I : Foot → World → Prop) (Ix : Code → Foot → World → Prop) (W : World) : Post
 | .normal, _, _, W' => ∃ D', Only D W W' ∧ Grows D D' W ∧ I D' W'
 | .ret, _, _, W' => ∃ D', Only D W W' ∧ Grows D D' W ∧ Ix .ret D' W'
 | .exit id, _, _, W' => ∃ D', Only D W W' ∧ Grows D D' W ∧ Ix (.exit id) D' W'
 | _, _, _, _ => False
def footL (D : Foot) (k : Nat) : Foot := ⟨D.z, fun b => D b ∨ b = k ∨ b = k + 1⟩
theorem foot_grows {D D' : Foot} {k : Nat} {W : World} (h : Grows D D' W) : Grows (footL D k) (footL D' k) W := ⟨fun b hb => by
 rcases hb with hb | hb
 ·exact (h.f b hb).imp .inl id
 ·exact .inl (.inr hb), h.z⟩
theorem Only.sub {D D' : Foot} {W W' : World} (h : Only D W W') (hd : ∀ b, D b → D' b) : Only D' W W' := ⟨h.size, fun b hb hn => h.same b hb fun h' => hn (hd b h')⟩

section
variable {P : Program} {N : Nat} {Q : Post} {ρ : Slots} {ds : List Deferred} {w : World}
theorem w_rangeF {α : Type} {g : Operand} {ps : List Tmp} {assign body : Code} {gf : Nat} {lb : List Value} {encs : α → List Value} {xs : List α} {Need : ZM → World → Prop}
  (hg : ev ρ g = .func (.func gf) #[] lb.toArray) (hb : hasBody P gf) (hit : IterF P gf lb encs xs Need) (hps : ∀ x, (encs x).length = ps.length) (hpN : (ps.all fun p => Nat.ble (p + 1) N) = true)
  (I : List α → Foot → World → Prop) (Ix : Code → List α → Foot → World → Prop) (hI : ∀ pre, Stab (I pre)) (hIx : ∀ c pre, Stab (Ix c pre)) (hneed : ∀ pre D W, I pre D W → Need D.z W) (D0 : Foot) (h0 : I [] D0 w)
  (ρ1 : α → Slots)
  (hassign : ∀ l x W, Wp P (some l) N assign (andThen (fun ρ' ds' W' => ρ' = ρ1 x ∧ ds' = [] ∧ W' = W) fun _ _ _ _ => False) (updL ρ (ps.zip (encs x))) [] W)
  (hbody : ∀ l pre x D W, I pre D W → pre ++ [x] <+: xs → Wp P (some l) N body (roundF D (I (pre ++ [x])) (fun c => Ix c (pre ++ [x])) W) (ρ1 x) [] W)
  (hdone : ∀ K D W, w.heap.size ≤ K → I xs D W → ¬ D K → Only D0 w W → Grows D0 D w → W.heap[K]? = some (.deferred (some [])) → Q .normal ρ (Eng.mark K :: ds) W)
  (hret : ∀ K D pre W, w.heap.size ≤ K → pre <+: xs → Ix .ret pre D W → ¬ D K → Only D0 w W → Grows D0 D w → W.heap[K]? = some (.deferred (some [])) → Q .ret ρ (Eng.mark K :: ds) W)
  (hexit : ∀ id K D pre W, w.heap.size ≤ K → pre <+: xs → Ix (.exit id) pre D W → ¬ D K → Only D0 w W → Grows D0 D w → W.heap[K]? = some (.deferred (some [])) → Q (.exit id) ρ (Eng.mark K :: ds) W) :
  Wp P none N (.rangeFunc g ps.toArray assign body) Q ρ ds w := by
 intro a n hf
 refine wpIn_rangeFunc ?_
 intro fn hfn
 obtain ⟨k, hk⟩ : ∃ k, w.heap.size = k := ⟨_, rfl⟩
 obtain ⟨rec, hrec⟩ : ∃ rec : LoopState → Option Code → Loop, rec = fun st pe => { state := st, pending := pe, fn, tmps := a.tmps, params := ps.toArray, assign, body, defers := k } := ⟨_, rfl⟩
 obtain ⟨W1, hW1⟩ : ∃ W1, (w.alloc (.deferred (some []))).alloc (.loop (rec .ready none)) = W1 := ⟨_, rfl⟩
 have hL1 : W1.heap[k + 1]? = some (.loop (rec .ready none)) := by
  rw [← hW1, ← hk]; have := World.alloc_heap_new (w.alloc (.deferred (some []))) (.loop (rec .ready none)); rwa [World.size_alloc] at this
 have hK1 : W1.heap[k]? = some (.deferred (some [])) := by
  rw [← hW1, ← hk]; exact (Below.heap_alloc _ _ _ (by simp)).trans (World.alloc_heap_new w _)
 have hI1 : I [] D0 W1 := by rw [← hW1]; exact (hI []).alloc _ ((hI []).alloc _ h0)
 have hb0 : ∀ b, D0 b → b < k := fun b hb => hk ▸ (hI []).2.1 _ _ h0 b hb
 have hsz1 : W1.heap.size = k + 2 := by rw [← hW1]; simp; omega
 have hO1 : Only D0 w W1 := by rw [← hW1]; exact (only_alloc _).trans (Grows.refl _ _) (only_alloc _)
 obtain ⟨fb, hfb1, hfb2, hfb3⟩ := hb
 -- what holds between the rounds
 obtain ⟨J, hJ⟩ : ∃ J : List α → Foot → World → Prop, J = fun pre D W => ∃ DI, D = footL DI k ∧ I pre DI W ∧ ¬ DI k ∧ ¬ DI (k + 1) ∧ W.heap[k + 1]? = some (.loop (rec .ready none)) ∧ W.heap[k]? = some (.deferred (some [])) := ⟨_, rfl⟩
 obtain ⟨Jx, hJx⟩ : ∃ Jx : List α → Foot → World → Prop, Jx = fun pre D W => ∃ DI c, (c = .ret ∨ ∃ id, c = .exit id) ∧ D = footL DI k ∧ Ix c pre DI W ∧ ¬ DI k ∧ ¬ DI (k + 1) ∧ W.heap[k + 1]? = some (.loop (rec .done (some c))) ∧ W.heap[k]? = some (.deferred (some [])) := ⟨_, rfl⟩
 have hlow : ∀ {D D' : Foot} {W : World}, Grows D D' W → k + 2 ≤ W.heap.size → ¬ D k → ¬ D (k + 1) → ¬ D' k ∧ ¬ D' (k + 1) := fun hg hs h1 h2 =>
  ⟨fun h => (hg.f _ h).elim h1 (by omega), fun h => (hg.f _ h).elim h2 (by omega)⟩
 refine ⟨k + 1, [Eng.mark k], W1, { target := .fn (.func gf) lb.toArray, args := #[.func (.yield (k + 1)) #[] #[]] }, W1, gf,
  (.func (.yield (k + 1)) #[] #[] :: lb).toArray, W1, ?_, ?_, fun _ _ => trivial, ?_, fun hx => by simp [Fw] at hx, ?_⟩
 ·rw [← hW1, hrec, ← hk]; exact run_enterLoop_outer _ _ _ _ _
 ·have : a.eval g = .func (.func gf) #[] lb.toArray := by rw [hf.eval]; exact hg
  simp only [resolve, rangeCall, this]
  simp [Deferred.ofValue, Act.eval]
 ·have h2' : ¬ fb.name = "runtime.NumGoroutine" := by simpa using hfb2
  have h3' : ¬ fb.body = none := by intro e; rw [e] at hfb3; cases hfb3
  simp [invoke, callFunc, program, Sem.run, hfb1, h2', h3']
 ·refine callsIn_fw none ?_
  refine (hit (k + 1) J Jx W1 (footL D0 k) ?_ ?_ ?_ ?_ ?_).mono ?_
  ·rw [hJ]
   rintro pre D W ⟨DI, rfl, h, _⟩
   exact hneed pre DI W h
  ·rw [hJ]
   refine fun pre => ⟨?_, ?_, ?_⟩
   ·rintro D A B row ⟨DI, rfl, h1, h2, h3, h4, h5⟩ hgr hr
    refine ⟨DI, rfl, (hI pre).grown h1 hgr fun b e => fun h => hr b e (.inl h), h2, h3, ?_, ?_⟩
    ·exact (hgr.block _ (Array.getElem?_eq_some_iff.1 h4).1 (fun e => hr _ e.symm (.inr (.inr rfl)))).trans h4
    ·exact (hgr.block _ (Array.getElem?_eq_some_iff.1 h5).1 (fun e => hr _ e.symm (.inr (.inl rfl)))).trans h5
   ·rintro D W ⟨DI, rfl, h1, h2, h3, h4, h5⟩ b hb
    rcases hb with hb | rfl | rfl
    ·exact (hI pre).2.1 _ _ h1 b hb
    ·exact (Array.getElem?_eq_some_iff.1 h5).1
    ·exact (Array.getElem?_eq_some_iff.1 h4).1
   ·rintro D W ⟨DI, rfl, h1, h2, h3, h4, h5⟩ a x hz
    exact Or.inl ((hI pre).2.2 _ _ h1 a x hz)
  ·rw [hJx]
   refine fun pre => ⟨?_, ?_, ?_⟩
   ·rintro D A B row ⟨DI, c, hc, rfl, h1, h2, h3, h4, h5⟩ hgr hr
    refine ⟨DI, c, hc, rfl, (hIx c pre).grown h1 hgr fun b e => fun h => hr b e (.inl h), h2, h3, ?_, ?_⟩
    ·exact (hgr.block _ (Array.getElem?_eq_some_iff.1 h4).1 (fun e => hr _ e.symm (.inr (.inr rfl)))).trans h4
    ·exact (hgr.block _ (Array.getElem?_eq_some_iff.1 h5).1 (fun e => hr _ e.symm (.inr (.inl rfl)))).trans h5
   ·rintro D W ⟨DI, c, hc, rfl, h1, h2, h3, h4, h5⟩ b hb
    rcases hb with hb | rfl | rfl
    ·exact (hIx c pre).2.1 _ _ h1 b hb
    ·exact (Array.getElem?_eq_some_iff.1 h5).1
    ·exact (Array.getElem?_eq_some_iff.1 h4).1
   ·rintro D W ⟨DI, c, hc, rfl, h1, h2, h3, h4, h5⟩ a x hz
    exact Or.inl ((hIx c pre).2.2 _ _ h1 a x hz)
  ·-- one round
   rw [hJ, hJx]
   rintro pre x D W ⟨DI, rfl, hi, hn1, hn2, hl, hkk⟩ hpre
   have hlt : k + 1 < W.heap.size := (Array.getElem?_eq_some_iff.1 hl).1
   have hy := run_yield (P := P) (args := (encs x).toArray) hl (by rw [hrec]; simpa using hps x)
   rw [hrec] at hy
   refine ⟨fn, _, assign, body, hy, roundIn_of_wpIn trivial ?_⟩
   have hfr : Frm N [] { tmps := (ps.toArray.zip (encs x).toArray).foldl (fun tmps (t, v) => tmps.setIfInBounds t v) a.tmps, defers := [] } (updL ρ (ps.zip (encs x))) := by
    have := frm_fold (a := a) (N := N) (ps.zip (encs x)) a.tmps ρ (fun p hp => by
     have h1 := (List.all_eq_true.1 hpN) p.1 (List.of_mem_zip hp).1
     exact Nat.le_of_ble_eq_true h1) hf.size hf.get
    refine ⟨?_, rfl, fun t => ?_⟩
    ·simpa using this.1
    ·have := this.2 t; simpa using this
   refine wpIn_mono (hassign (k + 1) x W _ 0 hfr) ?_
   rintro e a2 W2 ⟨ρ2, ds2, hf2, hq⟩
   cases e with
   | normal =>
    obtain ⟨rfl, rfl, rfl⟩ := hq
    refine ⟨_, run_beginRound hl (by rw [hrec]), ?_⟩
    have hl2 : (W2.putObj (k + 1) (.loop { rec .ready none with state := .busy })).heap[k + 1]? = some (.loop { rec .ready none with state := .busy }) := World.putObj_heap_same hlt
    have hk2 : (W2.putObj (k + 1) (.loop { rec .ready none with state := .busy })).heap[k]? = some (.deferred (some [])) := (World.putObj_heap_other (by omega)).trans hkk
    refine wpIn_mono (hbody (k + 1) pre x DI _ ((hI pre).putObj _ hi hn2) hpre _ 0 hf2) ?_
    have fin : ∀ (jump : Option Code) (W3 : World) (D3 : Foot), Only DI (W2.putObj (k + 1) (.loop { rec .ready none with state := .busy })) W3 → Grows DI D3 (W2.putObj (k + 1) (.loop { rec .ready none with state := .busy })) →
      (Instr.endRound (k + 1) jump).run P W3 = .ok (.bool jump.isNone) (W3.putObj (k + 1) (.loop (rec (if jump.isNone then .ready else .done) jump))) ∧ ¬ D3 k ∧ ¬ D3 (k + 1) ∧
      (W3.putObj (k + 1) (.loop (rec (if jump.isNone then .ready else .done) jump))).heap[k + 1]? = some (.loop (rec (if jump.isNone then .ready else .done) jump)) ∧
      (W3.putObj (k + 1) (.loop (rec (if jump.isNone then .ready else .done) jump))).heap[k]? = some (.deferred (some [])) ∧
      Only (footL DI k) W2 (W3.putObj (k + 1) (.loop (rec (if jump.isNone then .ready else .done) jump))) ∧ Grows (footL DI k) (footL D3 k) W2 := fun jump W3 D3 hk3 hg3 => by
     have hl3 := (hk3.same (k + 1) (by simp; omega) hn2).trans hl2
     have hk4 := (hk3.same k (by simp; omega) hn1).trans hk2
     have hr := run_endRound (P := P) jump hl3
     have hlow' := hlow hg3 (by simp; omega) hn1 hn2
     have hg3' : Grows DI D3 W2 := ⟨fun b hb => (hg3.f b hb).imp id (fun h => by simpa using h), hg3.z⟩
     rw [hrec] at hr ⊢
     refine ⟨hr, hlow'.1, hlow'.2, World.putObj_heap_same (Array.getElem?_eq_some_iff.1 hl3).1, (World.putObj_heap_other (by omega)).trans hk4, ?_, foot_grows hg3'⟩
     rw [hrec] at hk3
     have hk1 : footL DI k (k + 1) := Or.inr (Or.inr rfl)
     exact ((only_putObj _ hk1).trans (Grows.refl _ _) (hk3.sub fun b h => (Or.inl h : footL DI k b))).trans (Grows.refl _ _) (only_putObj _ hk1)
    rintro e a3 W3 ⟨ρ3, ds3, hf3, hp⟩
    cases e with
    | normal =>
     obtain ⟨D3, hk3, hg3, hi3⟩ := hp
     obtain ⟨hr, h1, h2, h3, h4, h5, h6⟩ := fin none W3 D3 hk3 hg3
     exact ⟨_, _, hr, footL D3 k, h5, h6, .inl ⟨rfl, D3, rfl, (hI _).putObj _ hi3 h2, h1, h2, h3, h4⟩⟩
    | ret =>
     obtain ⟨D3, hk3, hg3, hi3⟩ := hp
     obtain ⟨hr, h1, h2, h3, h4, h5, h6⟩ := fin (some .ret) W3 D3 hk3 hg3
     exact ⟨_, _, hr, footL D3 k, h5, h6, .inr ⟨rfl, D3, .ret, .inl rfl, rfl, (hIx _ _).putObj _ hi3 h2, h1, h2, h3, h4⟩⟩
    | exit id =>
     obtain ⟨D3, hk3, hg3, hi3⟩ := hp
     obtain ⟨hr, h1, h2, h3, h4, h5, h6⟩ := fin (some (.exit id)) W3 D3 hk3 hg3
     exact ⟨_, _, hr, footL D3 k, h5, h6, .inr ⟨rfl, D3, .exit id, .inr ⟨id, rfl⟩, rfl, (hIx _ _).putObj _ hi3 h2, h1, h2, h3, h4⟩⟩
    | goto t => exact hp.elim
    | panic ch => exact hp.elim
    | outgrown => exact hp.elim
   | exit id => exact hq.elim
   | goto l => exact hq.elim
   | ret => exact hq.elim
   | panic c => exact hq.elim
   | outgrown => exact hq.elim
  ·rw [hJ]
   exact ⟨D0, rfl, hI1, fun h => by have := hb0 _ h; omega, fun h => by have := hb0 _ h; omega, hL1, hK1⟩
  ·-- behind the iterator
   have hfm : ∀ D, Frm N (Eng.mark D :: ds) { a with defers := [Eng.mark D] ++ a.defers } ρ := fun D => ⟨hf.size, by rw [hf.defs]; rfl, hf.get⟩
   rw [hJ, hJx]
   rintro e W2 ⟨⟨v, rfl⟩, D', hO, hG, hh⟩
   have hout : ∀ {DI : Foot} (o : Go.Obj), D' = footL DI k → ¬ DI k → ¬ DI (k + 1) → Only D0 w (W2.putObj (k + 1) o) ∧ Grows D0 DI w := fun {DI} o hD h1 h2 => by
    refine ⟨⟨by simp; have := hO.size; omega, fun b hb hn => ?_⟩, fun b hb => ?_, fun a x e => by have := hG.z a x e; rw [hD] at this; exact this⟩
    ·rw [World.putObj_heap_other (by omega), hO.same b (by omega) fun h => ?_, hO1.same b hb hn]
     rcases h with h | h | h
     ·exact hn h
     ·omega
     ·omega
    ·rcases hG.f b (by rw [hD]; exact .inl hb) with h | h
     ·rcases h with h | rfl | rfl
      ·exact .inl h
      ·exact absurd hb h1
      ·exact absurd hb h2
     ·exact .inr (by omega)
   rcases hh with ⟨DI, hD, hi, hn1, hn2, hl, hk'⟩ | ⟨pre, hpre, DI, c, hc, hD, hi, hn1, hn2, hl, hk'⟩
   ·refine ⟨none, _, by have := run_endLoop (P := P) hl (by rw [hrec]; simp); rw [hrec] at this; exact this, ?_⟩
    obtain ⟨q1, q2⟩ := hout (.loop { rec .ready none with state := .exhausted }) hD hn1 hn2
    rw [hrec] at q1
    exact ⟨ρ, _, hfm _, hdone _ DI _ (Nat.le_of_eq hk) ((hI _).putObj _ hi hn2) hn1 q1 q2 ((World.putObj_heap_other (by omega)).trans hk')⟩
   ·refine ⟨some c, _, by have := run_endLoop (P := P) hl (by rw [hrec]; simp); rw [hrec] at this; exact this, ?_⟩
    have hi' := (hIx c pre).putObj (.loop { rec .done (some c) with state := .exhausted }) hi hn2
    have hk2' : (W2.putObj (k + 1) (.loop { rec .done (some c) with state := .exhausted })).heap[k]? = some (.deferred (some [])) := (World.putObj_heap_other (by omega)).trans hk'
    obtain ⟨q1, q2⟩ := hout (.loop { rec .done (some c) with state := .exhausted }) hD hn1 hn2
    rw [hrec] at hi' hk2' q1
    rcases hc with rfl | ⟨id, rfl⟩
    ·exact wpIn_ret ⟨ρ, _, hfm _, hret _ DI pre _ (Nat.le_of_eq hk) hpre hi' hn1 q1 q2 hk2'⟩
    ·exact wpIn_exit ⟨ρ, _, hfm _, hexit id _ DI pre _ (Nat.le_of_eq hk) hpre hi' hn1 q1 q2 hk2'⟩
end
end Go.EV
namespace Go.EV
open Go Go.RowKit Go.Eng

def IterV (P : Program) {α : Type} (gf : FuncId) (caps : List V) (F : Heap) (val : α → Value) (xs : List α) : Prop :=
 ∀ lb, IterF P gf lb (fun x => [val x]) xs fun Z W => ∃ m, SimH m Z F W ∧ RepL (some m) Z caps lb
def footC (w0 : World) (m : M) (Z : ZM) (H : Heap) : Foot := ⟨Z, fun b => b < w0.heap.size ∨ (∃ p ∈ H, blk m p b) ∨ ∃ a x, Z a = some x ∧ a.block = b⟩
theorem SimC.turn {K0 : List Nat} {c : Ctx K0} {m : M} {Z : ZM} {H : Heap} {w w' : World} {row : Option Nat} (S : SimC c m Z H w) (hg : w.grownBy w' row) (hr : ∀ b, row = some b → c.W0.heap.size ≤ b ∧ (∀ p ∈ H, ¬ blk m p b) ∧ ∀ a x, Z a = some x → a.block ≠ b) : SimC c m Z H w' := by
 have hs := S.step
 have hblk : ∀ p ∈ H, ∀ b, blk m p b → w'.heap[b]? = w.heap[b]? := fun p hp b hb => by
  obtain ⟨ob, h1, h2⟩ := (hs.sim.holds p hp).notLp b hb
  exact hg.block b (Array.getElem?_eq_some_iff.1 h1).1 fun e => (hr b e.symm).2.1 p hp hb
 have hz : ∀ a x, Z a = some x → w'.cell? a = w.cell? a := fun a x ha => by
  have h2 := World.block_lt_of_cell? w a (hs.sim.frozen a x ha)
  have : w'.heap[a.block]? = w.heap[a.block]? := hg.block _ h2 fun e => (hr _ e.symm).2.2 a x ha rfl
  simp only [World.cell?, this]
 refine ⟨⟨⟨fun a x ha => (hz a x ha).trans (hs.sim.frozen a x ha), fun p hp => (hs.sim.holds p hp).keep (fun _ _ _ e => e) rfl (fun _ _ e => e) fun b hb => ⟨hblk p hp b hb, fun _ _ e _ => e⟩, hs.sim.nodup, hs.sim.disj⟩, hs.mext, hs.zext, hg.os.trans hs.os, hg.tape.trans hs.tape, hg.output.trans hs.output, Nat.le_trans hs.size hg.size, fun b hb hn => ?_, hs.keep, hs.newk, hs.blks, hs.znew⟩, S.dom⟩
 rw [hg.block b (Nat.lt_of_lt_of_le hb hs.size) fun e => by have := (hr b e.symm).1; omega]
 exact hs.frame b hb hn
theorem SimC.bound {K0 : List Nat} {c : Ctx K0} {m : M} {Z : ZM} {H : Heap} {w w0 : World} (S : SimC c m Z H w) (h : w0.heap.size ≤ w.heap.size) : ∀ b, footC w0 m Z H b → b < w.heap.size := fun b hb => by
 rcases hb with hb | ⟨p, hp, hb⟩ | ⟨a, x, ha, rfl⟩
 ·omega
 ·exact (S.step.sim.holds p hp).blk b hb
 ·exact World.block_lt_of_cell? w a (S.step.sim.frozen a x ha)
def roundV {S Zt : Type} (K0 : List Nat) (hp : S → Heap) (Lr : S → Option Zt) (z : Zt) (E : Env) (ds : List Deferred) (Q : PostV) : PostV
 | .normal, ρ, H, _ => ∃ q', Lr q' = some z ∧ Cut K0 ρ H [] (hp q')
 | .ret, ρ, H, _ => ∃ H1, Cut K0 ρ H [] H1 ∧ Q .ret E H1 ds
 | .exit id, ρ, H, _ => ∃ H1, Cut K0 ρ H [] H1 ∧ Q (.exit id) E H1 ds
 | _, _, _, _ => False
theorem nrm_round {S Zt : Type} {K0 : List Nat} {hp : S → Heap} {Lr : S → Option Zt} {z : Zt} {E ρ : Env} {H : Heap} {ds ds' : List Deferred} {Q : PostV} (q' : S) (hs : Lr q' = some z) (h : Cut K0 ρ H [] (hp q')) : roundV K0 hp Lr z E ds Q .normal ρ H ds' := ⟨q', hs, h⟩
section
variable {K0 : List Nat} {c : Ctx K0} {P : Program} {N : Nat} {Q : PostV} {ds : List Deferred} {ty : TypeId} {pos : String} {aft : Array Edge}
theorem v_rangeF {α Sg Zt : Type} {g : Operand} {t d id : Nat} {body : Code} {gf : FuncId} {caps : List V} {F : Heap} {val : α → Value} {xs : List α} (ks : List Nat) {enc : α → V} {E : Env} (hp : Sg → Heap) (L : List α → Sg → Option Zt) {z : Zt} (q0 : Sg)
  (hg : evV E g = .fn gf [] caps) (hb : hasBody P gf) (hit : IterV P gf caps F val xs) (htN : Nat.ble (t + 1) N = true) (hdN : Nat.ble (d + 1) N = true) (henc : ∀ m Z x, Rep m Z (enc x) (val x))
  (hL : L xs q0 = some z) (hF : ∀ q, selH ks (hp q) = some F) (hks : nodupB ks = true)
  (hround : ∀ l x r q (c2 : Ctx (keys (hp q))), L (x :: r) q = some z → WpV c2 P (some l) N body (roundV (keys (hp q)) hp (L r) z E ds Q) ((d, enc x) :: (t, enc x) :: E) (hp q) [])
  (hdone : ∀ q, L [] q = some z → Q .normal E (hp q) ds) :
  WpV c P none N (.rangeFunc g #[t] (.region id #[⟨some d, .assign (.tmp t), ty, pos, aft, none⟩] false) body) Q E (hp q0) ds := by
 intro ρr w ds1 S hM
 obtain ⟨m, Z, S, hR⟩ := S
 have hG := hR.ev g
 rw [hg] at hG
 obtain ⟨l1, l2, hx, h1, h2⟩ := hG
 cases h1
 have hSw := S.step.size
 have hMw : ∀ D ∈ ds1.filterMap (fun x => match x.target with | .collected D => some D | _ => none), D < w.heap.size := fun D hD => by
  obtain ⟨Ds, rfl, h3, h4⟩ := hM
  simp only [List.filterMap_map, List.mem_filterMap, Function.comp, Eng.mark, Option.some.injEq] at hD
  obtain ⟨D', h5, rfl⟩ := hD
  exact (Array.getElem?_eq_some_iff.1 (h4 _ h5).1).1
 have hsub : ∀ {mm : M} {ZZ : ZM} {q : Sg} {W : World}, SimC c mm ZZ (hp q) W → SimH mm ZZ F W := fun {mm ZZ q W} S => by
  have hm := selH_mem (hF q)
  refine ⟨S.step.sim.frozen, fun p hp' => S.step.sim.holds p (hm.2 p hp'), by rw [hm.1]; exact nodup_of hks, fun p hp' r hr => S.step.sim.disj p (hm.2 p hp') r (hm.2 r hr)⟩
 obtain ⟨Inv, hInv⟩ : ∃ Inv : M → ZM → Heap → Foot → World → Prop, Inv = fun mm ZZ H D W => SimC c mm ZZ H W ∧ (∀ k L loc, m k L = some loc → mm k L = some loc) ∧ (∀ a x, Z a = some x → ZZ a = some x) ∧ D = footC w mm ZZ H ∧ w.heap.size ≤ W.heap.size ∧ ∀ (b : Nat) (ob : Go.Obj), w.heap[b]? = some ob → isLp ob = true → W.heap[b]? = some ob := ⟨_, rfl⟩
 have hStab : ∀ {mm : M} {ZZ : ZM} {H : Heap} {D : Foot} {A B : World} {row : Option Nat}, Inv mm ZZ H D A → A.grownBy B row → (∀ b, row = some b → ¬ D b) → Inv mm ZZ H D B := by
  rw [hInv]
  rintro mm ZZ H D A B row ⟨S, a1, a2, rfl, a4, a5⟩ hgr hr
  refine ⟨S.turn hgr fun b e => ?_, a1, a2, rfl, Nat.le_trans a4 hgr.size, fun b ob hb hl => ?_⟩
  ·have hn := hr b e
   refine ⟨?_, fun p hp' hb => hn (.inr (.inl ⟨p, hp', hb⟩)), fun a x ha he => hn (.inr (.inr ⟨a, x, ha, he⟩))⟩
   have h3 : ¬ b < w.heap.size := fun h => hn (.inl h)
   have h4 : c.W0.heap.size ≤ w.heap.size := hSw
   omega
  ·have hlt := (Array.getElem?_eq_some_iff.1 hb).1
   rw [hgr.block b (Nat.lt_of_lt_of_le hlt a4) fun e => hr b e.symm (.inl hlt)]
   exact a5 b ob hb hl
 have hBnd : ∀ {mm : M} {ZZ : ZM} {H : Heap} {D : Foot} {A : World}, Inv mm ZZ H D A → ∀ b, D b → b < A.heap.size := by
  rw [hInv]
  rintro mm ZZ H D A ⟨S, a1, a2, rfl, a4, a5⟩
  exact S.bound a4
 have hmark : ∀ {mm : M} {ZZ : ZM} {H : Heap} {D : Foot} {W : World} (K : Nat), Inv mm ZZ H D W → w.heap.size ≤ K → W.heap[K]? = some (.deferred (some [])) → MarksOK c (Eng.mark K :: ds1) W := by
  rw [hInv]
  rintro mm ZZ H D W K ⟨S', a1, a2, rfl, a4, a5⟩ hK hKw
  obtain ⟨Ds, rfl, h3, h4⟩ := hM
  have hc := S.step.size
  refine ⟨K :: Ds, rfl, List.nodup_cons.2 ⟨fun h => ?_, h3⟩, fun D hD => ?_⟩
  ·have := (Array.getElem?_eq_some_iff.1 (h4 _ h).1).1
   omega
  ·rcases List.mem_cons.1 hD with rfl | hD
   ·exact ⟨hKw, by omega⟩
   ·exact ⟨a5 _ _ (h4 D hD).1 rfl, (h4 D hD).2⟩
 have hRup : ∀ {mm : M} {ZZ : ZM} {H : Heap} {D : Foot} {W : World}, Inv mm ZZ H D W → RepS mm ZZ E ρr := by
  rw [hInv]
  rintro mm ZZ H D W ⟨S', a1, a2, _⟩
  exact hR.up a2 a1
 refine w_rangeF (lb := l2) (encs := fun x => [val x]) (ps := [t]) hx hb (hit l2) (fun _ => rfl) (by simp [htN])
  (fun pre D W => ∃ q mm ZZ, Inv mm ZZ (hp q) D W ∧ L (xs.drop pre.length) q = some z)
  (fun co _ D W => ∃ H1 mm ZZ e, Inv mm ZZ H1 D W ∧ Q e E H1 ds ∧ ((co = .ret ∧ e = .ret) ∨ ∃ id, co = .exit id ∧ e = .exit id))
  (fun pre => ⟨?_, ?_, ?_⟩) (fun co pre => ⟨?_, ?_, ?_⟩) ?_ (footC w m Z (hp q0)) ⟨q0, m, Z, ?_, by simpa using hL⟩ (fun x => upd (upd ρr t (val x)) d (val x)) ?_ ?_ ?_ ?_ ?_
 ·rintro D A B row ⟨q, mm, ZZ, h3, h4⟩ hgr hr
  exact ⟨q, mm, ZZ, hStab h3 hgr hr, h4⟩
 ·rintro D A ⟨q, mm, ZZ, h3, h4⟩
  exact hBnd h3
 ·rintro D A ⟨q, mm, ZZ, h3, h4⟩ a x hz
  rw [hInv] at h3
  obtain ⟨_, _, _, rfl, _⟩ := h3
  exact Or.inr (Or.inr ⟨a, x, hz, rfl⟩)
 ·rintro D A B row ⟨H1, mm, ZZ, e, h3, h4⟩ hgr hr
  exact ⟨H1, mm, ZZ, e, hStab h3 hgr hr, h4⟩
 ·rintro D A ⟨H1, mm, ZZ, e, h3, h4⟩
  exact hBnd h3
 ·rintro D A ⟨H1, mm, ZZ, e, h3, h4⟩ a x hz
  rw [hInv] at h3
  obtain ⟨_, _, _, rfl, _⟩ := h3
  exact Or.inr (Or.inr ⟨a, x, hz, rfl⟩)
 ·rintro pre D A ⟨q, mm, ZZ, h3, h4⟩
  rw [hInv] at h3
  obtain ⟨g1, g2, g3, rfl, g4, g5⟩ := h3
  exact ⟨mm, hsub g1, h2.up g3 fun f e => by cases e; exact ⟨mm, rfl, g2⟩⟩
 ·rw [hInv]
  exact ⟨S, fun _ _ _ e => e, fun _ _ e => e, rfl, Nat.le_refl _, fun _ _ e _ => e⟩
 ·intro l x W
  refine w_region (l := [_]) ?_
  refine ops_val d (val x) rfl hdN rfl rfl (w' := W) (by simp [execOp, ev, updL, upd]) ?_
  exact ops_nil ⟨rfl, rfl, rfl⟩
 ·rintro l pre x D W ⟨q, mm, ZZ, h3, h4⟩ hpre
  have hdrop : xs.drop pre.length = x :: xs.drop (pre ++ [x]).length := by
   obtain ⟨suf, rfl⟩ := hpre
   simp
  rw [hdrop] at h4
  have hRx := hRup h3
  have h3' := h3
  rw [hInv] at h3'
  obtain ⟨S', a1, a2, hD, a4, a5⟩ := h3'
  have hw := hround l x _ q ⟨W, mm, ZZ, hp q, rfl, S'.dom⟩ h4 _ W [] ⟨mm, ZZ, ⟨Step.refl S'.step.sim, S'.dom⟩, (hRx.put t (henc _ _ x)).put d (henc _ _ x)⟩ MarksOK.nil
  have hfin : ∀ {m' : M} {Z' : ZM} {H1 : Heap} {W' : World}, SimC (⟨W, mm, ZZ, hp q, rfl, S'.dom⟩ : Ctx (keys (hp q))) m' Z' H1 W' → ∃ D', Only D W W' ∧ Grows D D' W ∧ Inv m' Z' H1 D' W' := fun {m' Z' H1 W'} S2 => by
   refine ⟨footC w m' Z' H1, ⟨S2.step.size, fun b hb hn => S2.step.frame b hb fun p hp' e => hn (by rw [hD]; exact .inr (.inl ⟨p, hp', e⟩))⟩, ⟨fun b hb => ?_, fun a x e => by rw [hD] at e; exact S2.step.zext a x e⟩, ?_⟩
   ·rw [hD]
    rcases hb with hb | ⟨p, hp', hb⟩ | ⟨a, y, ha, rfl⟩
    ·exact .inl (.inl hb)
    ·rcases S2.step.blks p hp' b hb with h | ⟨r, hr, e⟩
     ·exact .inr h
     ·exact .inl (.inr (.inl ⟨r, hr, e⟩))
    ·rcases S2.step.znew a y ha with h | h | ⟨r, hr, e⟩
     ·exact .inl (.inr (.inr ⟨a, y, h, rfl⟩))
     ·exact .inr h
     ·exact .inl (.inr (.inl ⟨r, hr, e⟩))
   ·rw [hInv]
    exact ⟨⟨S'.step.trans S2.step, S2.dom⟩, fun k L loc e => S2.step.mext _ _ _ (a1 k L loc e), fun a y e => S2.step.zext _ _ (a2 a y e), rfl, Nat.le_trans a4 S2.step.size, fun b ob hb hl => S2.step.lp S'.step.sim (a5 b ob hb hl) hl⟩
  refine w_mono hw fun e ρ2 ds2 W' ⟨ρv, Hv, S2, _, hq⟩ => ?_
  cases e with
  | normal =>
   obtain ⟨q', hq1, hcut⟩ := hq
   obtain ⟨m', Z', S3, _⟩ := hcut _ _ _ S2
   obtain ⟨D', g1, g2, g3⟩ := hfin S3
   exact ⟨D', g1, g2, q', m', Z', g3, hq1⟩
  | ret =>
   obtain ⟨H1, hcut, hq1⟩ := hq
   obtain ⟨m', Z', S3, _⟩ := hcut _ _ _ S2
   obtain ⟨D', g1, g2, g3⟩ := hfin S3
   exact ⟨D', g1, g2, H1, m', Z', .ret, g3, hq1, .inl ⟨rfl, rfl⟩⟩
  | exit id =>
   obtain ⟨H1, hcut, hq1⟩ := hq
   obtain ⟨m', Z', S3, _⟩ := hcut _ _ _ S2
   obtain ⟨D', g1, g2, g3⟩ := hfin S3
   exact ⟨D', g1, g2, H1, m', Z', .exit id, g3, hq1, .inr ⟨id, rfl, rfl⟩⟩
  | goto l => exact hq.elim
  | panic ch => exact hq.elim
  | outgrown => exact hq.elim
 ·rintro K D W hK ⟨q, mm, ZZ, h3, h4⟩ _ _ _ hKw
  have h3' := h3
  rw [hInv] at h3'
  exact ⟨E, hp q, ⟨mm, ZZ, h3'.1, hRup h3⟩, hmark K h3 hK hKw, hdone q (by simpa using h4)⟩
 ·rintro K D pre W hK _ ⟨H1, mm, ZZ, e, h3, hq, ⟨_, rfl⟩ | ⟨id, h, _⟩⟩ _ _ _ hKw
  ·have h3' := h3
   rw [hInv] at h3'
   exact ⟨E, H1, ⟨mm, ZZ, h3'.1, hRup h3⟩, hmark K h3 hK hKw, hq⟩
  ·cases h
 ·rintro id K D pre W hK _ ⟨H1, mm, ZZ, e, h3, hq, ⟨h, _⟩ | ⟨id', h, rfl⟩⟩ _ _ _ hKw
  ·cases h
  ·cases h
   have h3' := h3
   rw [hInv] at h3'
   exact ⟨E, H1, ⟨mm, ZZ, h3'.1, hRup h3⟩, hmark K h3 hK hKw, hq⟩
end
end Go.EV
namespace Go.EV
open Go Go.RowKit Go.Eng
theorem range_mod {α : Type} (f : Nat → α) (sz : Nat) : ∀ n, (List.range (n * sz)).map (fun j => f (j % sz)) = (List.replicate n ((List.range sz).map f)).flatten
  | 0 => by simp
  | n + 1 => by
    rw [Nat.succ_mul, List.range_add, List.map_append, range_mod f sz n, List.replicate_succ', List.flatten_append, List.map_map]
    congr 1
    simp only [List.flatten_cons, List.flatten_nil, List.append_nil]
    refine List.map_congr_left fun j hj => ?_
    have hj := List.mem_range.1 hj
    simp only [Function.comp]
    rw [Nat.add_comm, Nat.add_mul_mod_self_right, Nat.mod_eq_of_lt hj]
theorem made_rep {m : Option M} {Z : ZM} {zc : Array Value} {n : Nat} (h0 : 0 < zc.size) : RepL m Z (List.replicate n (zc.toList.map ofC1)).flatten (madeCells zc (n * zc.size)).toList := by
  have e : (madeCells zc (n * zc.size)).toList = (List.replicate n zc.toList).flatten := by
    have h1 : (List.range zc.size).map (fun j => zc[j]!) = zc.toList := by
      apply List.ext_getElem
      · simp
      · intro i h1 h2
        simp at h1
        simp [h1]
    rw [← h1, ← range_mod]
    simp [madeCells]
  rw [e, ← List.map_replicate, ← List.map_flatten]
  exact rep_ofC1s _
theorem nils_vs {m : Option M} {Z : ZM} {sz : Nat} {y : Value} (h : Rep m Z .nils y) : Rep m Z (.vs sz []) y := by
  have h : y = .slice none 0 0 := h
  subst h
  exact ⟨none, 0, rfl, Nat.le_refl _, by simp [maxLen], .inl rfl⟩
theorem RepL.row_weak {Z : ZM} {cs cs2 : List V} (hw : ∀ (Z : ZM) (l : List Value), RepL none Z cs l → RepL none Z cs2 l) : ∀ (n : Nat) (l : List Value), RepL none Z (List.replicate n cs).flatten l → RepL none Z (List.replicate n cs2).flatten l
  | 0, l, h => h
  | n + 1, l, h => by
    rw [List.replicate_succ, List.flatten_cons] at h ⊢
    have h1 := h.take cs.length
    have h2 := h.drop cs.length
    rw [List.take_left] at h1
    rw [List.drop_left] at h2
    rw [← List.take_append_drop cs.length l]
    exact RepL.append (hw _ _ h1) (RepL.row_weak hw n _ h2)
section
variable {P : Program} {ρ : Env} {dst : Option Tmp} {ty : TypeId} {pos : String} {aft : Array Edge} {gd : Option (Nat × Bool)}
theorem loc_makeSlice {t d e sz bytes n : Nat} {x y : Operand} {k k2 : IntKind} {cs cs2 : List V} (hT : elemT2 P t = some (e, sz, bytes)) (hz : zeroV P e = some cs) (hx : evV ρ x = .int k n) (hy : evV ρ y = .int k2 n) (hlen : n * bytes ≤ 281474976710656) (h63 : n ≤ 9223372036854775807)
    (hw : ∀ (Z : ZM) (l : List Value), RepL none Z cs l → RepL none Z cs2 l) (hl2 : cs2.length = cs.length) :
    Loc P ⟨dst, .makeSlice t x y, ty, pos, aft, gd⟩ ρ [] (.sl sz d n 0 n) [(d, .row e sz 0 (List.replicate n cs2))] := by
  intro ρr m Z w hops hs hfr
  have hX : ev ρr x = .int k n := by have := hops x (by simp [Op.operands]); rw [hx] at this; exact this
  have hY : ev ρr y = .int k2 n := by have := hops y (by simp [Op.operands]); rw [hy] at this; exact this
  obtain ⟨i, z, hu, hi, hiz, hsz, hb, h0, h00⟩ := elemT2_of hT
  have hcs : cs = z.cells.toList.map ofC1 := by
    simp only [zeroV, hi, hiz, Option.some.injEq] at hz
    exact hz.symm
  subst hcs
  have hrun := run_make (P := P) (w := w) t e i z hu hi hiz k k2 (n : Int) (n : Int) (by omega) (by omega) (by rw [hb, Int.mul_comm]; omega) (by omega)
  have e1 : ((n : Int).toNat) = n := by omega
  rw [e1] at hrun
  have hszz : z.cells.size = i.size := by rw [h0, hsz]
  have hcl : cs2.length = i.size := by rw [hl2]; simp [hszz]
  have hels : (List.replicate n cs2).length = n := by simp
  obtain ⟨m', h2, h3⟩ := Step.new (m := m) (Z := Z) (w := w) (k := d) (o := .row e sz 0 (List.replicate n cs2)) (.cells (madeCells z.cells (n * i.size)) e) n hs.frozen (fun L => hfr d (by simp [keys]) (by simp [keys]) L) fun m' g1 g2 g3 => by
    by_cases hn0 : n = 0
    · subst hn0
      have hv0 : (Obj.row e sz 0 (List.replicate 0 cs2)).ver = 0 := rfl
      rw [hv0] at g1
      exact .inl ⟨h00, rfl, rfl, ⟨_, g1⟩, fun L l e => by have := g2 L l e; rw [hv0] at this; omega⟩
    have hver : (Obj.row e sz 0 (List.replicate n cs2)).ver = n := hels
    rw [hver] at g1
    have hrep := made_rep (m := none) (Z := Z) (zc := z.cells) (n := n) (by omega)
    rw [hszz] at hrep
    have hrep := RepL.row_weak hw n _ hrep
    refine .inr ⟨w.heap.size, n, madeCells z.cells (n * i.size), (0, 0), by rw [hels]; exact g1, by omega, World.alloc_heap_new w _, by rw [hels]; exact Nat.le_refl _, by simp only [maxLen]; omega, by rw [size_madeCells, hsz], by omega, ?_, ?_, by simp, by simp, fun a x ha e => by have := frozen_lt hs.frozen ha; omega, fun L l e => by have := g2 L l e; rw [hver] at this; rw [hels]; omega, fun off x ho => by omega⟩
    · rw [hels, ← hsz, List.take_of_length_le (by simp [size_madeCells])]
      exact hrep
    · intro c hc
      rw [List.eq_of_mem_replicate hc, hcl, hsz]
  have hver : (Obj.row e sz 0 (List.replicate n cs2)).ver = n := hels
  rw [hver] at h3
  refine ⟨rfl, .inl ⟨.slice (some ⟨w.heap.size, 0, none⟩) n n, w.alloc (.cells (madeCells z.cells (n * i.size)) e), ?_, m', Z, h2, m', _, rfl, h3, by simp, by simp only [maxLen]; omega, .inl (by simp)⟩⟩
  simp only [execOp, hX, hY, Sem.run_bind, hrun, Result.andThen_ok, Sem.run_pure]
theorem loc_makeSliceT {t d e sz bytes L : Nat} {q : Int} {x y : Operand} {k k2 : IntKind} {cs cs2 : List V} {all : List (List V)} (hT : elemT2 P t = some (e, sz, bytes)) (hz : zeroV P e = some cs) (hx : evV ρ x = .int k q) (hy : evV ρ y = .int k2 q) (hl2 : Nat.beq cs2.length cs.length = true) (h0 : 0 ≤ q) (hlen : q * bytes ≤ 281474976710656) (h63 : q ≤ 9223372036854775807) (hall : List.replicate q.toNat cs2 = all) (hL : L = q.toNat) (hw : ∀ (Z : ZM) (l : List Value), RepL none Z cs l → RepL none Z cs2 l) :
    Loc P ⟨dst, .makeSlice t x y, ty, pos, aft, gd⟩ ρ [] (.sl sz d L 0 L) [(d, .row e sz 0 all)] := by
  subst hall hL
  have e1 : q = ((q.toNat : Nat) : Int) := by omega
  exact loc_makeSlice hT hz (by rw [← e1]; exact hx) (by rw [← e1]; exact hy) (by have : ((q.toNat * bytes : Nat) : Int) ≤ 281474976710656 := by rw [Int.natCast_mul, ← e1]; exact hlen
                                                                                  omega) (by omega) hw (Nat.eq_of_beq_eq_true hl2)
end
end Go.EV
namespace Go.EV
open Go Go.RowKit Go.Eng
theorem nils_flat {Z : ZM} : ∀ (n : Nat) (l : List Value), RepL none Z (List.replicate n [V.nils]).flatten l → l = List.replicate n (Value.slice none 0 0)
 | 0, l, h => by
  have : l = [] := h
  subst this; rfl
 | n + 1, l, h => by
  rw [List.replicate_succ, List.flatten_cons] at h
  obtain ⟨x, xs, rfl, h2, h3⟩ := h
  have h2 : x = .slice none 0 0 := h2
  subst h2
  rw [nils_flat n xs h3, List.replicate_succ]
section
variable {P : Program} {ρ : Env} {dst : Option Tmp} {ty : TypeId} {pos : String} {aft : Array Edge} {gd : Option (Nat × Bool)}
theorem loc_makeNest {t d e e2 sz2 bytes n : Nat} {x y : Operand} {k k2 : IntKind} (hT : elemT2 P t = some (e, 1, bytes)) (hz : zeroV P e = some [.nils]) (hx : evV ρ x = .int k n) (hy : evV ρ y = .int k2 n) (hlen : n * bytes ≤ 281474976710656) (h63 : n ≤ 9223372036854775807) (hs2 : 0 < sz2) :
  Loc P ⟨dst, .makeSlice t x y, ty, pos, aft, gd⟩ ρ [] (.sl 1 d 0 0 n) [(d, .nest e e2 sz2 none (List.replicate n []))] := by
 intro ρr m Z w hops hs hfr
 have hX : ev ρr x = .int k n := by have := hops x (by simp [Op.operands]); rw [hx] at this; exact this
 have hY : ev ρr y = .int k2 n := by have := hops y (by simp [Op.operands]); rw [hy] at this; exact this
 obtain ⟨i, z, hu, hi, hiz, hsz, hb, h0, h00⟩ := elemT2_of hT
 have hcs : [V.nils] = z.cells.toList.map ofC1 := by
  simp only [zeroV, hi, hiz, Option.some.injEq] at hz
  exact hz.symm
 have hrun := run_make (P := P) (w := w) t e i z hu hi hiz k k2 (n : Int) (n : Int) (by omega) (by omega) (by rw [hb, Int.mul_comm]; omega) (by omega)
 have e1 : ((n : Int).toNat) = n := by omega
 rw [e1] at hrun
 have hszz : z.cells.size = i.size := by rw [h0, hsz]
 have hi1 : i.size = 1 := hsz
 obtain ⟨m', h2, h3⟩ := Step.new (m := m) (Z := Z) (w := w) (k := d) (o := .nest e e2 sz2 none (List.replicate n [])) (.cells (madeCells z.cells (n * i.size)) e) n hs.frozen (fun L => hfr d (by simp [keys]) (by simp [keys]) L) fun m' g1 g2 g3 => by
  have hver : (Obj.nest e e2 sz2 none (List.replicate n [])).ver = 0 := rfl
  rw [hver] at g1
  have g2 : ∀ L l, m' d L = some l → L = 0 := g2
  show HoldsN (m' d) Z _ e e2 sz2 none (List.replicate n [])
  refine .inr ⟨hs2, ?_⟩
  by_cases hn0 : n = 0
  ·subst hn0
   exact .inl ⟨rfl, ⟨_, g1⟩, g2⟩
  have hrep := made_rep (m := none) (Z := Z) (zc := z.cells) (n := n) (by omega)
  rw [hszz, ← hcs] at hrep
  have hcells := nils_flat n _ hrep
  refine .inr ⟨w.heap.size, n, madeCells z.cells (n * i.size), (0, 0), g1, by omega, World.alloc_heap_new w _, rfl, by rw [size_madeCells, hi1, Nat.mul_one], by simp, by simp only [maxLen]; omega,
   fun a x ha e => by (have := frozen_lt hs.frozen ha; omega), fun j l hl => ?_, fun j1 j2 c1 c2 g q1 q2 _ _ _ _ => by rw [g2 _ _ q1, g2 _ _ q2], fun L loc q => .inl (g2 L loc q)⟩
  have hj : j < n := by have := (List.getElem?_eq_some_iff.1 hl).1; simpa using this
  have hl : l = [] := by rw [List.getElem?_replicate, if_pos hj] at hl; exact (Option.some.inj hl).symm
  subst hl
  refine ⟨.slice none 0 0, .inl ⟨rfl, rfl, ?_⟩, fun _ => ?_⟩
  ·cases hq : m' d (code j 0) with
   | none => rfl
   | some q => have := g2 _ _ hq; have := code_pos j 0; omega
  ·rw [← Array.getElem?_toList, hcells, List.getElem?_replicate, if_pos hj]
 have hver : (Obj.nest e e2 sz2 none (List.replicate n [])).ver = 0 := rfl
 rw [hver] at h3
 refine ⟨rfl, .inl ⟨.slice (some ⟨w.heap.size, 0, none⟩) n n, w.alloc (.cells (madeCells z.cells (n * i.size)) e), ?_, m', Z, h2, m', _, rfl, h3, by simp, by simp only [maxLen]; omega, .inl (by simp)⟩⟩
 simp only [execOp, hX, hY, Sem.run_bind, hrun, Result.andThen_ok, Sem.run_pure]
def hdN (sz k i : Nat) (l : List (List V)) : V := match l with | [] => .nils | _ => .sl sz k (code i l.length) 0 l.length
theorem hdN_rep {m : M} {Z : ZM} {w : World} {e sz k i : Nat} {l : List (List V)} {h : Value} (hI : InnerN (m k) Z w e sz i l (some h)) : Rep (some m) Z (hdN sz k i l) h := by
 rcases hI with ⟨rfl, e1, _⟩ | ⟨b, cap, cur, fr, e1, e2, e3, _, _, e6, e7, _⟩
 ·cases e1; rfl
 ·cases e1
  cases l with
  | nil => simp at e3
  | cons a l => exact ⟨m, _, rfl, e2, by simpa using e6, e7, .inl (by simp)⟩
theorem loc_loadNest {t et e2 sz2 k i : Nat} {pd : Option Nat} {a : Operand} {ls : List (List (List V))} {l : List (List V)} (ha : evV ρ a = .ptr k 0 i) (hl : ls[i]? = some l) (hpd : pd ≠ some i) (hv : atV P t [V.nils] 0 = some .nils) :
  Loc P ⟨dst, .load t a, ty, pos, aft, gd⟩ ρ [(k, .nest et e2 sz2 pd ls)] (hdN sz2 k i l) [(k, .nest et e2 sz2 pd ls)] := by
 intro ρr m Z w hops hs _
 have hX := hops a (by simp [Op.operands])
 rw [ha] at hX
 obtain ⟨f, loc, e1, e2', e3⟩ := hX
 cases e1
 have hh : HoldsN (m k) Z w et e2 sz2 pd ls := hs.holds _ (List.mem_singleton.2 rfl)
 obtain ⟨rfl, _⟩ | ⟨_, ⟨rfl, _, _⟩ | ⟨b, cap, cur, fr, h1, h2, h3, h4, h5, h6, h7, h8, h9, _⟩⟩ := hh
 ·simp at hl
 ·simp at hl
 rw [h1] at e2'; cases e2'
 obtain ⟨hd, hI, hc⟩ := h9 i l hl
 have hcell : w.cell? ⟨b, i, none⟩ = some hd := by rw [cell_of_row w b i cur et fr h3]; exact hc hpd
 refine ⟨rfl, .inl ?_⟩
 unfold atV at hv
 split at hv
 ·rename_i hsh
  exact ⟨hd, w, run_load_scal (shape_scal hsh) e3 hcell, m, Z, Step.refl hs, hdN_rep hI⟩
 ·rename_i n hsh
  split at hv
  ·simp at hv
  ·cases hv
 ·cases hv
end
end Go.EV
namespace Go.EV
open Go Go.RowKit Go.Eng
section
variable {m : M} {Z : ZM} {w w' : World}
theorem Step.nestRow {k t e sz i nb cap' : Nat} {ls : List (List (List V))} {l all : List (List V)} {cur' : Array Value} {fr' : Nat × Nat} (hs : SimH m Z [(k, .nest t e sz none ls)] w) (hl : ls[i]? = some l) (hlt : l.length < all.length)
  (hnb : w.heap.size ≤ nb ∨ ∃ c0, m k (code i l.length) = some (nb, c0) ∧ c0 ≠ 0) (hsize : w.heap.size ≤ w'.heap.size) (hos : w'.os = w.os) (htp : w'.tape = w.tape) (hou : w'.output = w.output)
  (hold : ∀ b, b < w.heap.size → b ≠ nb → w'.heap[b]? = w.heap[b]?) (hnew : w'.heap[nb]? = some (.cells cur' e fr')) (hfr : fr'.2 = 0) (hcap : all.length ≤ cap') (hcm : cap' ≤ maxLen) (hcs : cur'.size = cap' * sz)
  (hr : RepL none Z all.flatten (cur'.toList.take (all.length * sz))) (hk : ∀ x ∈ all, x.length = sz) :
  ∃ m', Step m Z [(k, .nest t e sz none ls)] w m' Z [(k, .nest t e sz (some i) (ls.set i all))] w' ∧ m' k (code i all.length) = some (nb, cap') := by
 have hh : HoldsN (m k) Z w t e sz none ls := hs.holds _ (List.mem_singleton.2 rfl)
 have hown : ∀ b, blkN (m k) ls b → b < w.heap.size := fun b hb => by
  obtain ⟨_, _, _, h⟩ := HoldsN.own hh hb
  exact (Array.getElem?_eq_some_iff.1 h).1
 obtain ⟨rfl, _⟩ | ⟨h0, ⟨rfl, _, _⟩ | ⟨b, cap, cur, fr, h1, h2, h3, h4, h5, h6, h7, h8, h9, h10, h11⟩⟩ := hh
 ·simp at hl
 ·simp at hl
 let m' : M := fun k' L => if k' = k ∧ L = code i all.length then some (nb, cap') else m k' L
 have hm1 : m' k (code i all.length) = some (nb, cap') := by simp [m']
 have hm0 : ∀ L, L ≠ code i all.length → m' k L = m k L := fun L h => by simp [m', h]
 have hnone : m k (code i all.length) = none := by
  cases hq : m k (code i all.length) with
  | none => rfl
  | some q =>
   rcases h11 _ _ hq with h | ⟨i', n, l', g1, g2, g3⟩
   ·have := code_pos i all.length; omega
   ·obtain ⟨rfl, rfl⟩ := code_inj g3
    rw [hl] at g1; cases g1; omega
 have hm2 : ∀ k' L loc, m k' L = some loc → m' k' L = some loc := fun k' L loc e => by
  by_cases hc : k' = k ∧ L = code i all.length
  ·obtain ⟨rfl, rfl⟩ := hc; rw [hnone] at e; cases e
  ·simp only [m', if_neg hc]; exact e
 have hi : i < ls.length := (List.getElem?_eq_some_iff.1 hl).1
 have hset : ∀ j l', (ls.set i all)[j]? = some l' → (j = i ∧ l' = all) ∨ (j ≠ i ∧ ls[j]? = some l') := fun j l' h => by
  rw [List.getElem?_set] at h
  split at h
  ·rename_i hij; subst hij; simp only [hi, if_true, Option.some.injEq] at h; exact .inl ⟨rfl, h.symm⟩
  ·rename_i hij; exact .inr ⟨fun e => hij e.symm, h⟩
 have hne0 : code i all.length ≠ 0 := by have := code_pos i all.length; omega
 -- what is owned before, but the row that grows, is not the new block
 have hcur : ∀ j g c, (j = 0 ∨ ∃ i' l', i' ≠ i ∧ ls[i']? = some l' ∧ j = code i' l'.length) → m k j = some (g, c) → c ≠ 0 → g < w.heap.size ∧ g ≠ nb := fun j g c hj hg hc => by
  have hj' : j = 0 ∨ ∃ i l, ls[i]? = some l ∧ j = code i l.length := hj.imp_right fun ⟨i', l', _, h, e⟩ => ⟨i', l', h, e⟩
  have hlt' := hown g ⟨j, c, hg, hc, hj'⟩
  refine ⟨hlt', fun e => ?_⟩
  subst e
  rcases hnb with h | ⟨c0, h, hc0⟩
  ·omega
  ·have := h10 _ _ _ _ _ hg h hj' (.inr ⟨i, l, hl, rfl⟩) hc hc0
   rcases hj with rfl | ⟨i', l', hne, _, rfl⟩
   ·have := code_pos i l.length; omega
   ·exact hne (code_inj this).1
 have hnew' : ∀ j, (j = 0 ∨ ∃ i' l', (ls.set i all)[i']? = some l' ∧ j = code i' l'.length) → j = code i all.length ∨ (j ≠ code i all.length ∧ (j = 0 ∨ ∃ i' l', i' ≠ i ∧ ls[i']? = some l' ∧ j = code i' l'.length)) := fun j hj => by
  rcases hj with rfl | ⟨i', l', h, rfl⟩
  ·exact .inr ⟨hne0.symm, .inl rfl⟩
  ·rcases hset _ _ h with ⟨rfl, rfl⟩ | ⟨hne, h⟩
   ·exact .inl rfl
   ·exact .inr ⟨fun e => hne (code_inj e).1, .inr ⟨i', l', hne, h, rfl⟩⟩
 have hZb : ∀ a x, Z a = some x → a.block < w.heap.size ∧ a.block ≠ nb := fun a x ha => by
  have hlt' := frozen_lt hs.frozen ha
  refine ⟨hlt', fun e => ?_⟩
  rcases hnb with h | ⟨c0, h, hc0⟩
  ·omega
  ·obtain ⟨hd, hI, _⟩ := h9 i l hl
   rcases hI with ⟨rfl, _, e4⟩ | ⟨b', cp, cu, f', _, g2, _, _, _, _, _, _, _, _, g11⟩
   ·rw [List.length_nil, e4] at h; cases h
   ·rw [g2] at h; cases h; exact g11 a x ha e
 have hlen : (ls.set i all).length = ls.length := by simp
 have hb0 := hcur 0 b cap (.inl rfl) h1 (by omega)
 refine ⟨m', ⟨⟨fun a x ha => ?_, fun p hp => ?_, by simp [keys], fun p hp q hq _ _ _ => ?_⟩, hm2, fun _ _ e => e, hos, htp, hou, hsize, fun j hj hn => hold j hj fun e => ?_, fun j hj => by simpa [keys] using hj, fun j hj => ?_, fun p hp b' hb => ?_, fun a x ha => .inl ha⟩, hm1⟩
 ·obtain ⟨q1, q2⟩ := hZb a x ha
  rw [cell_same (hold _ q1 q2)]; exact hs.frozen a x ha
 ·simp only [List.mem_singleton] at hp
  subst hp
  show HoldsN (m' k) Z w' t e sz (some i) (ls.set i all)
  refine .inr ⟨h0, .inr ⟨b, cap, cur, fr, by rw [hm0 0 hne0.symm]; exact h1, h2, (hold b hb0.1 hb0.2).trans h3, h4, h5, by rw [hlen]; exact h6, h7, h8, fun j lj hj => ?_, fun j1 j2 c1 c2 g q1 q2 q3 q4 q5 q6 => ?_, fun L loc hL => ?_⟩⟩
  ·rcases hset _ _ hj with ⟨rfl, rfl⟩ | ⟨hne, hj⟩
   ·exact ⟨_, .inr ⟨nb, cap', cur', fr', rfl, hm1, by omega, hnew, hfr, hcap, hcm, hcs, hr, hk, fun a x ha => (hZb a x ha).2⟩, fun h => absurd rfl h⟩
   ·obtain ⟨hd, hI, hc⟩ := h9 j lj hj
    refine ⟨hd, ?_, fun _ => hc (by simp)⟩
    rcases hI with ⟨e1, e2, e3⟩ | ⟨b', cp, cu, f', g1, g2, g3, g4, g5⟩
    ·exact .inl ⟨e1, e2, by rw [hm0 _ fun e => hne (code_inj e).1]; exact e3⟩
    ·have hcp : cp ≠ 0 := by have := g5.2.1; omega
     have hq := hcur _ b' cp (.inr ⟨j, lj, hne, hj, rfl⟩) g2 hcp
     exact .inr ⟨b', cp, cu, f', g1, by rw [hm0 _ fun e => hne (code_inj e).1]; exact g2, g3, (hold b' hq.1 hq.2).trans g4, g5⟩
  ·rcases hnew' _ q3 with r1 | ⟨r1, r1'⟩ <;> rcases hnew' _ q4 with r2 | ⟨r2, r2'⟩
   ·rw [r1, r2]
   ·rw [r1, hm1] at q1; cases q1
    rw [hm0 _ r2] at q2
    exact absurd rfl (hcur _ _ _ r2' q2 q6).2
   ·rw [r2, hm1] at q2; cases q2
    rw [hm0 _ r1] at q1
    exact absurd rfl (hcur _ _ _ r1' q1 q5).2
   ·rw [hm0 _ r1] at q1; rw [hm0 _ r2] at q2
    exact h10 _ _ _ _ _ q1 q2 (r1'.imp_right fun ⟨a, b, _, c, d⟩ => ⟨a, b, c, d⟩) (r2'.imp_right fun ⟨a, b, _, c, d⟩ => ⟨a, b, c, d⟩) q5 q6
  ·by_cases hc : L = code i all.length
   ·exact .inr ⟨i, all.length, all, by rw [List.getElem?_set]; simp [hi], Nat.le_refl _, hc⟩
   ·rw [hm0 L hc] at hL
    rcases h11 _ _ hL with h | ⟨i', n, l', g1, g2, g3⟩
    ·exact .inl h
    ·by_cases hii : i' = i
     ·subst hii
      rw [hl] at g1; cases g1
      exact .inr ⟨i', n, all, by rw [List.getElem?_set]; simp [hi], by omega, g3⟩
     ·exact .inr ⟨i', n, l', by rw [List.getElem?_set, if_neg (fun e => hii e.symm)]; exact g1, g2, g3⟩
 ·simp only [List.mem_singleton] at hp hq
  subst hp; subst hq; rfl
 ·subst e
  rcases hnb with h | ⟨c0, h, hc0⟩
  ·omega
  ·exact hn _ (List.mem_singleton.2 rfl) ⟨_, c0, h, hc0, .inr ⟨i, l, hl, rfl⟩⟩
 ·funext L
  have : j ≠ k := by simpa [keys] using hj
  simp [m', this]
 ·simp only [List.mem_singleton] at hp
  subst hp
  obtain ⟨j, c, q1, q2, q3⟩ := hb
  rcases hnew' _ q3 with r1 | ⟨r1, r1'⟩
  ·rw [r1, hm1] at q1; cases q1
   rcases hnb with h | ⟨c0, h, hc0⟩
   ·exact .inl h
   ·exact .inr ⟨_, List.mem_singleton.2 rfl, _, c0, h, hc0, .inr ⟨i, l, hl, rfl⟩⟩
  ·rw [hm0 _ r1] at q1
   exact .inr ⟨_, List.mem_singleton.2 rfl, j, c, q1, q2, r1'.imp_right fun ⟨a, b, _, c, d⟩ => ⟨a, b, c, d⟩⟩
end
section
variable {P : Program} {ρ : Env} {dst : Option Tmp} {ty : TypeId} {pos : String} {aft : Array Edge} {gd : Option (Nat × Bool)}
theorem loc_appendNest {t et e sz bytes k i : Nat} {x y : Operand} {ls : List (List (List V))} {l ys : List (List V)} {R : Heap} (hT : elemT2 P t = some (e, sz, bytes)) (hx : evV ρ x = hdN sz k i l) (hl : ls[i]? = some l) (hy : Src sz R (evV ρ y) ys)
  (h1 : ∀ c ∈ ys, c.all V.one = true) (hys : ys ≠ []) (hlen : (l.length + ys.length) * bytes ≤ 140737488355328) (h63 : l.length + ys.length ≤ 9223372036854775807) (hkR : hasKey k R = false) (hkl : ∀ c ∈ ys, c.length = sz) :
  Loc P ⟨dst, .call ⟨.builtin .append, #[x, y], #[t, t]⟩, ty, pos, aft, gd⟩ ρ ((k, .nest et e sz none ls) :: R) (.sl sz k (code i (l ++ ys).length) 0 (l ++ ys).length) ((k, .nest et e sz (some i) (ls.set i (l ++ ys))) :: R) := by
 intro ρr m Z w hops hs hnew
 obtain ⟨ti, z, hu, hi, hz, hisz, hib, hzs, h0⟩ := elemT2_of hT
 subst hisz; subst hib
 have hX := hops x (by simp [Op.operands, Call.operands])
 have hY := hops y (by simp [Op.operands, Call.operands])
 rw [hx] at hX
 have hs1 : SimH m Z [(k, .nest et e ti.size none ls)] w := SimH.left (F := [(k, .nest et e ti.size none ls)]) (G := R) hs
 have hsR : SimH m Z R w := SimH.left (F := R) (G := [(k, .nest et e ti.size none ls)]) (hs.perm (List.perm_append_comm (l₁ := [(k, Obj.nest et e ti.size none ls)]) (l₂ := R)))
 obtain ⟨A, c, hYv, hym, hA, hnews⟩ := hy.read h0 hsR hY
 have hfr : ∀ {m' Z' w'}, Step m Z [(k, .nest et e ti.size none ls)] w m' Z' [(k, .nest et e ti.size (some i) (ls.set i (l ++ ys)))] w' → Step m Z ((k, .nest et e ti.size none ls) :: R) w m' Z' ((k, .nest et e ti.size (some i) (ls.set i (l ++ ys))) :: R) w' := fun h =>
  Step.frame_rule (F := [(k, .nest et e ti.size none ls)]) (G := R) (F' := [(k, .nest et e ti.size (some i) (ls.set i (l ++ ys)))]) hs h fun p hp q hq e' => by
   simp only [List.mem_singleton] at hp
   subst hp
   have e' : k = q.1 := e'
   rw [hasKey_iff.2 (by rw [e']; exact mem_keys hq)] at hkR; cases hkR
 have fin : ∀ {v w'}, (Builtin.append_ #[t, t] ty #[ev ρr x, ev ρr y]).run P w = .ok v w' → (execOp (ev ρr) ⟨dst, .call ⟨.builtin .append, #[x, y], #[t, t]⟩, ty, pos, aft, gd⟩).run P w = .ok (.value v) w' := fun h => by
  simp [execOp, resolve, invoke, builtin, h]
 have hlenA : (l ++ ys).length = l.length + ys.length := by simp
 have hn0 : 0 < ys.length := List.length_pos_iff.2 hys
 obtain ⟨a, rfl⟩ : ∃ a, A = some a := by
  cases A with
  | none => exact absurd (hA rfl) hys
  | some a => exact ⟨a, rfl⟩
 obtain ⟨news, hn1, hn2⟩ := hnews a rfl
 have hnl : news.length = ys.length * ti.size := by rw [hn1.length, flatten_lenV hkl]
 have hones : ∀ u ∈ news, u.oneCell' = true := ones_of hn1 (List.all_eq_true.2 fun v hv => by
  obtain ⟨c, hc, hvc⟩ := List.mem_flatten.1 hv
  exact (List.all_eq_true.1 (h1 c hc)) v hvc)
 have hmax : l.length + ys.length ≤ maxLen := by simp only [maxLen]; omega
 have hh : HoldsN (m k) Z w et e ti.size none ls := hs1.holds _ (List.mem_singleton.2 rfl)
 have hhR : HoldsN (m k) Z w et e ti.size none ls := hh
 obtain ⟨rfl, _⟩ | ⟨_, ⟨rfl, _, _⟩ | ⟨b0, cap0, cur0, fr0, _, _, _, _, _, _, _, _, h9, _, _⟩⟩ := hh
 ·simp at hl
 ·simp at hl
 obtain ⟨hd, hI, hcl⟩ := h9 i l hl
 have hsz1 : ∀ w1 : World, w1.heap = w.heap → ∀ o, (w1.alloc o).heap.size = w.heap.size + 1 := fun w1 h o => by simp [h]
 rcases hI with ⟨rfl, hq, hno⟩ | ⟨b, cap, cur, fr, hq, g1, gp, g2, g2', g3, g4, g5, g7, g8, g11⟩
 ·-- the inner row is nil
  cases hq
  have hX : ev ρr x = .slice none 0 0 := hX
  have hgr := grownCap_ge w ys.length 0 e
  have hgm := grownCap_le_maxLen w ys.length 0 e (by simpa using hmax)
  have hr := run_append_nil (P := P) w t ty e ti z hu hi hz a ys.length c news hnl hn2 hn0 (by omega) (by have := hlen; simp only [List.length_nil, Nat.zero_add] at this; omega)
  obtain ⟨m', hst, hm'⟩ := Step.nestRow (w' := w.drew.alloc (.cells (news.toArray ++ Builtin.zeroCells z.cells (grownCap w ys.length 0 e - ys.length)) e)) (nb := w.heap.size) (cap' := grownCap w ys.length 0 e) (cur' := news.toArray ++ Builtin.zeroCells z.cells (grownCap w ys.length 0 e - ys.length)) (fr' := (0, 0)) (all := [] ++ ys) hs1 hl (by simpa using hn0) (.inl (Nat.le_refl _))
   (by rw [hsz1 w.drew rfl]; omega) rfl rfl rfl (fun j hj _ => Below.heap_alloc w.drew _ j hj) (World.alloc_heap_new w.drew _) rfl (by simpa using hgr) hgm
   (by simp only [Array.size_append, List.size_toArray, size_zeroCells, hzs, hnl, ← Nat.add_mul]; congr 1; omega)
   (by
    have : (news.toArray ++ Builtin.zeroCells z.cells (grownCap w ys.length 0 e - ys.length)).toList.take (([] ++ ys : List (List V)).length * ti.size) = news := by
     simp only [Array.toList_append, List.nil_append, ← hnl]
     exact List.take_left
    rw [this]; simpa using hn1) (by simpa using hkl)
  exact ⟨rfl, .inl ⟨_, _, fin (by rw [hX, hYv]; exact hr), m', Z, hfr hst, m', _, rfl, hm', by simpa using hgr, hgm, .inl (by simp)⟩⟩
 ·cases hq
  have hl0 : l ≠ [] := by rintro rfl; simp at gp
  have hX : Rep (some m) Z (.sl ti.size k (code i l.length) 0 l.length) (ev ρr x) := by
   cases l with
   | nil => exact absurd rfl hl0
   | cons => exact hX
  obtain ⟨f, loc, e1, e2, e3, e4, e5⟩ := hX
  cases e1
  rw [g1] at e2; cases e2
  have e5 : ev ρr x = .slice (some ⟨b, 0, none⟩) l.length cap := by
   rcases e5 with e5 | ⟨e5, _⟩ | ⟨e5, _⟩
   ·simpa using e5
   ·simp only at e5; omega
   ·omega
  have hblt : b < w.heap.size := (Array.getElem?_eq_some_iff.1 g2).1
  have hcl : cur.toList.length = cap * ti.size := by simpa using g5
  have hfl := flatten_lenV g8
  by_cases hroom : l.length + ys.length ≤ cap
  ·have hfit : l.length * ti.size + news.length ≤ cur.size := by rw [hnl, g5, ← Nat.add_mul]; exact Nat.mul_le_mul_right _ hroom
   have hr := run_append_roomF (P := P) w t ty e ti hu hi b l.length cap cur fr g2 (by omega) a ys.length c news hnl hn2 hones hroom hfit
   have hlt : l.length * ti.size ≤ cur.toList.length := by rw [hcl]; exact Nat.mul_le_mul_right _ g3
   obtain ⟨m', hst, hm'⟩ := Step.nestRow (w' := w.setRow b (cur.toList.take (l.length * ti.size) ++ news ++ cur.toList.drop (l.length * ti.size + news.length)).toArray) (nb := b) (cap' := cap) (cur' := (cur.toList.take (l.length * ti.size) ++ news ++ cur.toList.drop (l.length * ti.size + news.length)).toArray) (fr' := fr) (all := l ++ ys) hs1 hl (by simp; omega) (.inr ⟨cap, g1, by omega⟩)
    (by simp) rfl rfl rfl (fun j hj hne => setRow_other w b j _ hne) (setRow_heap w b cur _ e fr g2) g2' (by omega) g4
    (by simp only [List.size_toArray, List.length_append, List.length_take, List.length_drop]; (have : cur.size = cur.toList.length := by simp); omega)
    (by
     have e6 : ((l ++ ys).length * ti.size) = (cur.toList.take (l.length * ti.size) ++ news).length := by
      have h7 : (cur.toList.take (l.length * ti.size)).length = l.length * ti.size := by rw [List.length_take]; omega
      rw [hlenA, List.length_append (as := cur.toList.take (l.length * ti.size)), h7, hnl, Nat.add_mul]
     rw [e6, flatten_appendV]
     simp only []
     rw [List.take_left]
     exact g7.append hn1)
    (fun c hc => by
     rcases List.mem_append.1 hc with hc | hc
     ·exact g8 c hc
     ·exact hkl c hc)
   exact ⟨rfl, .inl ⟨_, _, fin (by rw [e5, hYv]; exact hr), m', Z, hfr hst, m', _, rfl, hm', by simp only [hlenA]; omega, g4, .inl (by simp [hlenA])⟩⟩
  ·have hgr := grownCap_ge w (l.length + ys.length) cap e
   have hgm := grownCap_le_maxLen w (l.length + ys.length) cap e hmax
   have htl : (cur.toList.take (l.length * ti.size)).length = l.length * ti.size := by rw [List.length_take, hcl]; exact Nat.min_eq_left (Nat.mul_le_mul_right _ g3)
   have hr := run_append_grow (P := P) w t ty e ti z hu hi hz ⟨b, 0, none⟩ l.length cap (cur.toList.take (l.length * ti.size)) htl (fun j v h => by
    rw [Addr.add_lit, Nat.zero_add, cell_of_row w b j cur e fr g2]
    rw [List.getElem?_take] at h
    split at h
    ·simpa using h
    ·cases h) a ys.length c news hnl hn2 (by omega) (by omega) (growslice_fits (by omega) hlen)
   obtain ⟨m', hst, hm'⟩ := Step.nestRow (w' := w.drew.alloc (.cells ((cur.toList.take (l.length * ti.size)).toArray ++ news.toArray ++ Builtin.zeroCells z.cells (grownCap w (l.length + ys.length) cap e - (l.length + ys.length))) e)) (nb := w.heap.size) (cap' := grownCap w (l.length + ys.length) cap e) (cur' := (cur.toList.take (l.length * ti.size)).toArray ++ news.toArray ++ Builtin.zeroCells z.cells (grownCap w (l.length + ys.length) cap e - (l.length + ys.length))) (fr' := (0, 0)) (all := l ++ ys) hs1 hl (by simp; omega) (.inl (Nat.le_refl _))
    (by rw [hsz1 w.drew rfl]; omega) rfl rfl rfl (fun j hj _ => Below.heap_alloc w.drew _ j hj) (World.alloc_heap_new w.drew _) rfl (by omega) hgm
    (by simp only [Array.size_append, List.size_toArray, size_zeroCells, hzs, hnl, htl, ← Nat.add_mul]; congr 1; omega)
    (by
     have e6 : ((l ++ ys).length * ti.size) = (cur.toList.take (l.length * ti.size) ++ news).length := by
      rw [hlenA, List.length_append (as := cur.toList.take (l.length * ti.size)), htl, hnl, Nat.add_mul]
     rw [e6, flatten_appendV]
     simp only [Array.toList_append]
     rw [List.take_left]
     exact g7.append hn1)
    (fun c hc => by
     rcases List.mem_append.1 hc with hc | hc
     ·exact g8 c hc
     ·exact hkl c hc)
   exact ⟨rfl, .inl ⟨_, _, fin (by rw [e5, hYv]; exact hr), m', Z, hfr hst, m', _, rfl, hm', by simp only [hlenA]; omega, hgm, .inl (by simp [hlenA])⟩⟩
theorem loc_storeNest {t et e sz k i : Nat} {a x : Operand} {ls : List (List (List V))} {l : List (List V)} (ha : evV ρ a = .ptr k 0 i) (hl : ls[i]? = some l) (h0 : 0 < l.length) (hx : evV ρ x = .sl sz k (code i l.length) 0 l.length) (hsz : sizeOfT P t 1 = true) :
  Loc P ⟨dst, .store t a x, ty, pos, aft, gd⟩ ρ [(k, .nest et e sz (some i) ls)] .no [(k, .nest et e sz none ls)] := by
 intro ρr m Z w hops hs _
 have hX := hops a (by simp [Op.operands])
 rw [ha] at hX
 obtain ⟨f, loc, e1, e2, e3⟩ := hX
 cases e1
 have hY := hops x (by simp [Op.operands])
 rw [hx] at hY
 have hh : HoldsN (m k) Z w et e sz (some i) ls := hs.holds _ (List.mem_singleton.2 rfl)
 obtain ⟨rfl, _⟩ | ⟨hz0, ⟨rfl, _, _⟩ | ⟨b, cap, cur, fr, h1, h2, h3, h4, h5, h6, h7, h8, h9, h10, h11⟩⟩ := hh
 ·simp at hl
 ·simp at hl
 rw [h1] at e2; cases e2
 have hi : i < ls.length := (List.getElem?_eq_some_iff.1 hl).1
 obtain ⟨hd, hI, _⟩ := h9 i l hl
 have hhd : ev ρr x = hd := by
  rcases hI with ⟨rfl, _⟩ | ⟨b', cp, cu, f', q1, q2, q3, _, _, q6, _⟩
  ·simp at h0
  ·obtain ⟨f, loc, r1, r2, r3, r4, r5⟩ := hY
   cases r1
   rw [q2] at r2; cases r2
   cases q1
   rcases r5 with r5 | ⟨r5, _⟩ | ⟨r5, _⟩
   ·simpa using r5
   ·simp only at r5; omega
   ·omega
 have hone : hd.oneCell' = true := by
  rcases hI with ⟨_, e, _⟩ | ⟨b', cp, cu, f', e, _⟩ <;> cases e <;> rfl
 have hcells : hd.cells = #[hd] := by
  rcases hI with ⟨_, e, _⟩ | ⟨b', cp, cu, f', e, _⟩ <;> cases e <;> rfl
 unfold sizeOfT at hsz
 split at hsz
 ·rename_i ii hii
  have hik := Nat.eq_of_beq_eq_true hsz
  have hst := run_storeCells_atF P b i et fr [hd] 0 cur w h3 (by omega) (by simp; omega) (by simpa using hone)
  simp only [Nat.add_zero, List.length_singleton] at hst
  refine ⟨rfl, .inr (.inl ⟨w.setRow b (cur.toList.take i ++ [hd] ++ cur.toList.drop (i + 1)).toArray, ?_, m, Z, ?_, rfl⟩)⟩
  ·have hst' : (storeCells ⟨b, i, none⟩ [hd]).run P w = .ok () (w.setRow b (cur.toList.take i ++ hd :: cur.toList.drop (i + 1)).toArray) := by simpa using hst
   simp [execOp, Instr.storeAt, e3, Instr.sureAddr, storeVar, sizeOf, typeInfo, hii, hhd, hcells, hik, hst']
  ·have hset : (cur.toList.take i ++ [hd] ++ cur.toList.drop (i + 1)).toArray = cur.setIfInBounds i hd := by
    apply Array.ext'
    rw [Array.toList_setIfInBounds]
    have hi' : i < cur.toList.length := by simpa using (by omega : i < cur.size)
    rw [List.set_eq_take_append_cons_drop, if_pos hi']
    simp
   rw [hset]
   refine Step.write (b := b) hs (show blkN (m k) ls b from ⟨0, cap, h1, by omega, .inl rfl⟩) (fun b2 h => h) rfl rfl rfl (by simp) (fun q hq => setRow_other w b q _ hq) (fun aa y ha' e' => absurd e' (h8 aa y ha')) ?_
   show HoldsN (m k) Z _ et e sz none ls
   refine .inr ⟨hz0, .inr ⟨b, cap, _, fr, h1, h2, setRow_heap w b cur _ et fr h3, h4, by simpa using h5, h6, h7, h8, fun j lj hj => ?_, h10, h11⟩⟩
   obtain ⟨hd', hI', hc'⟩ := h9 j lj hj
   have hkeep : InnerN (m k) Z (w.setRow b (cur.setIfInBounds i hd)) e sz j lj (some hd') := by
    rcases hI' with hh | ⟨b', cp, cu, f', q1, q2, q3, q4, q5⟩
    ·exact .inl hh
    ·refine .inr ⟨b', cp, cu, f', q1, q2, q3, (setRow_other w b b' _ fun e => ?_).trans q4, q5⟩
     subst e
     have := h10 _ _ _ _ _ h1 q2 (.inl rfl) (.inr ⟨j, lj, hj, rfl⟩) (by omega) (by have := q5.2.1; omega)
     have := code_pos j lj.length; omega
   refine ⟨hd', hkeep, fun _ => ?_⟩
   rw [Array.getElem?_setIfInBounds]
   split
   ·rename_i hij
    subst hij
    have : lj = l := by rw [hl] at hj; exact (Option.some.inj hj).symm
    subst this
    rw [if_pos (by omega)]
    congr 1
    rcases hI with ⟨rfl, _⟩ | ⟨b', cp, cu, f', q1, q2, q3, _⟩
    ·simp at h0
    ·rcases hI' with ⟨rfl, _⟩ | ⟨b2, cp2, cu2, f2, r1, r2, r3, _⟩
     ·simp at h0
     ·rw [q2] at r2; cases r2; cases q1; cases r1; rfl
   ·rename_i hij
    exact hc' (by simpa using hij)
 ·cases hsz
end
end Go.EV
namespace Go.EV
open Go Go.RowKit Go.Eng
section
variable {K0 : List Nat} {ρ : Env} {H : Heap}
theorem cut_box {k t : Nat} {cs cs' : List V} (R : Heap) (ks : List Nat) (hg : H.get k = some (.box t cs)) (hR : selH ks H = some R) (hfz : frz R = R) (hv : ViewL R cs cs') {H1 : Heap} (hH1 : (k, .box t cs') :: remH [k] H = H1) : Cut K0 ρ H ρ H1 := fun c ρr w S => by
 subst hH1
 obtain ⟨m, Z, S, hr⟩ := S
 have hp := split_perm (ks := [k]) (F := [(k, .box t cs)]) S.step.sim.nodup (by simp) (get_sel hg)
 have S1 : Step c.m0 c.Z0 c.F0 c.W0 m Z ((k, .box t cs) :: remH [k] H) w := S.step.permR hp
 have hview : ∀ l, RepL (some m) Z cs l → RepL (some m) Z cs' l := fun l hl => hv.rep (F := R) (w := w) (fun k t' sz fz els hg => by
  have hmem := Heap.get_mem hg
  have h1 := S.step.sim.holds _ ((selH_mem hR).2 _ hmem)
  have : fz = els.length := by
   rw [← hfz] at hmem
   rcases mem_frz hmem with ⟨k', t'', sz', fz', els', h2, h3⟩ | ⟨h2, h3⟩
   ·simp only [Prod.mk.injEq, Obj.row.injEq] at h3
    obtain ⟨_, _, _, e1, e2⟩ := h3
    rw [e1, e2]
   ·exact absurd rfl (h3 t' sz fz els)
  subst this
  exact h1) hl
 have hblk : ∀ p ∈ ((k, .box t cs') :: remH [k] H : Heap), ∃ q ∈ ((k, .box t cs) :: remH [k] H : Heap), q.1 = p.1 ∧ blk m q = blk m p := fun p hp => by
  rcases List.mem_cons.1 hp with rfl | hp
  ·exact ⟨(k, .box t cs), List.mem_cons_self .., rfl, rfl⟩
  ·exact ⟨p, List.mem_cons_of_mem _ hp, rfl, rfl⟩
 have hk : keys ((k, .box t cs') :: remH [k] H) = keys ((k, .box t cs) :: remH [k] H) := rfl
 refine ⟨m, Z, ⟨⟨⟨S1.sim.frozen, fun p hp => ?_, by rw [hk]; exact S1.sim.nodup, fun p hp q hq b h1 h2 => ?_⟩, S1.mext, S1.zext, S1.os, S1.tape, S1.output, S1.size, S1.frame, fun a ha => by rw [hk]; exact S1.keep a ha, fun a ha => S1.newk a (by rw [← hk]; exact ha), fun p hp b hb => ?_, S1.znew⟩, fun a ha => S.dom a fun h => ha ?_⟩, hr⟩
 ·rcases List.mem_cons.1 hp with rfl | hp
  ·obtain ⟨b, cur, g1, g2, g3, g4, g5⟩ := S1.sim.holds (k, .box t cs) (List.mem_cons_self ..)
   exact ⟨b, cur, g1, g2, hview _ g3, g4, g5⟩
  ·exact S1.sim.holds p (List.mem_cons_of_mem _ hp)
 ·obtain ⟨p', hp', e1, e2⟩ := hblk p hp
  obtain ⟨q', hq', e3, e4⟩ := hblk q hq
  rw [← e1, ← e3]
  exact S1.sim.disj p' hp' q' hq' b (by rw [e2]; exact h1) (by rw [e4]; exact h2)
 ·obtain ⟨p', hp', e1, e2⟩ := hblk p hp
  exact S1.blks p' hp' b (by rw [e2]; exact hb)
 ·rw [hk]; exact (hp.map _).mem_iff.1 h
end
def WkL (a b : List V) : Prop := ∀ (Z : ZM) (l : List Value), RepL none Z a l → RepL none Z b l
theorem wk_nil : WkL [] [] := fun _ _ h => h
theorem wk_same {v : V} {a b : List V} (h : WkL a b) : WkL (v :: a) (v :: b) := fun Z l hl => by
 obtain ⟨x, xs, h1, h2, h3⟩ := hl
 exact ⟨x, xs, h1, h2, h Z xs h3⟩
theorem wk_nils {sz : Nat} {a b : List V} (h : WkL a b) : WkL (.nils :: a) (.vs sz [] :: b) := fun Z l hl => by
 obtain ⟨x, xs, h1, h2, h3⟩ := hl
 exact ⟨x, xs, h1, nils_vs h2, h Z xs h3⟩
theorem Step.weak1 {m m' : M} {Z Z' : ZM} {F : Heap} {w w' : World} {d : Nat} {o o' : Obj} (h : Step m Z F w m' Z' [(d, o)] w') (hb : blk m' (d, o') = blk m' (d, o)) (hh : Holds m' Z' w' d o → Holds m' Z' w' d o') : Step m Z F w m' Z' [(d, o')] w' := by
 refine ⟨⟨h.sim.frozen, fun p hp => ?_, h.sim.nodup, fun p hp q hq _ _ _ => ?_⟩, h.mext, h.zext, h.os, h.tape, h.output, h.size, h.frame, h.keep, h.newk, fun p hp b hb' => ?_, h.znew⟩
 ·simp only [List.mem_singleton] at hp
  subst hp
  exact hh (h.sim.holds _ (List.mem_singleton.2 rfl))
 ·simp only [List.mem_singleton] at hp hq
  subst hp; subst hq; rfl
 ·simp only [List.mem_singleton] at hp
  subst hp
  exact h.blks (d, o) (List.mem_singleton.2 rfl) b (by rw [← hb]; exact hb')
section
variable {P : Program} {ρ : Env} {dst : Option Tmp} {ty : TypeId} {pos : String} {aft : Array Edge} {gd : Option (Nat × Bool)}
theorem loc_buildSliceW {t d e sz n : Nat} {parts : List (Nat × Operand)} {els els2 all : List (List V)} {fl fl2 : List V} (hT : elemT P t = some (e, sz)) (hsz : Nat.ble (n * sz) 16777216 = true) (h : rowsV n sz (parts.map fun p => (p.1, evV ρ p.2)) = some els)
  (h1 : els.flatten = fl) (h2 : els2.flatten = fl2) (hw : WkL fl fl2) (hl : Nat.beq els2.length els.length = true) (hc : els2.all (fun e => Nat.beq e.length sz) = true) (ha : els2 = all) :
  Loc P ⟨dst, .buildSlice t n parts.toArray, ty, pos, aft, gd⟩ ρ [] (.sl sz d n 0 n) [(d, .row e sz 0 all)] := by
 subst ha
 have hL := loc_buildSlice (dst := dst) (ty := ty) (pos := pos) (aft := aft) (gd := gd) (d := d) hT hsz h
 have hl := Nat.eq_of_beq_eq_true hl
 intro ρr m Z w hops hs hfr
 refine (hL ρr m Z w hops hs (fun k hk hk' L => hfr k (by simpa [keys] using hk) hk' L)).mono fun x w' hx => ?_
 obtain ⟨m', Z', st, hr⟩ := hx
 refine ⟨m', Z', st.weak1 (by funext b; simp only [blk, blk1, Obj.ver]; rw [hl]) fun hh => ?_, hr⟩
 rcases hh with ⟨g1, g2, g3, g4, g5⟩ | ⟨b, cap, cur, fr, g1, g2, g3, g4, g5, g6, g7, g8, g9, g10, g11, g12, g13, g14⟩
 ·exact .inl ⟨g1, by rw [g2] at hl; exact List.eq_nil_of_length_eq_zero hl, g3, g4, g5⟩
 ·refine .inr ⟨b, cap, cur, fr, by rw [hl]; exact g1, g2, g3, by rw [hl]; exact g4, g5, g6, g7, ?_, fun e he => Nat.eq_of_beq_eq_true ((List.all_eq_true.1 hc) e he), g10, by rw [hl]; exact g11, g12, by rw [hl]; exact g13, g14⟩
  rw [hl, h2]
  rw [h1] at g8
  exact hw _ _ g8
end
end Go.EV
namespace Go.EV
open Go Go.RowKit Go.Eng
def rowsN (sz : Nat) (ls : List (List (List V))) : List (List V) := ls.map fun l => [.vs sz l]
inductive NV (k n sz : Nat) (ls : List (List (List V))) : List V → List V → Prop
 | nil : NV k n sz ls [] []
 | same {v : V} {a b : List V} (h : NV k n sz ls a b) : NV k n sz ls (v :: a) (v :: b)
 | nest {a b : List V} {els : List (List V)} (hn : n = ls.length) (he : rowsN sz ls = els) (h : NV k n sz ls a b) : NV k n sz ls (.sl 1 k 0 0 n :: a) (.vs 1 els :: b)
section
variable {m : M} {Z : ZM} {w : World}
open Classical in
noncomputable def zkill (mk : Nat → Option (Nat × Nat)) (ls : List (List (List V))) (Z : ZM) (w : World) : ZM := fun a => if a.spot = none ∧ blkN mk ls a.block then w.cell? a else Z a
theorem nest_data {t e sz : Nat} {ls : List (List (List V))} {k : Nat} (hf : ∀ a x, Z a = some x → w.cell? a = some x) (h : HoldsN (m k) Z w t e sz none ls) {x : Value} (hx : Rep (some m) Z (.sl 1 k 0 0 ls.length) x) : Rep none (zkill (m k) ls Z w) (.vs 1 (rowsN sz ls)) x := by
 have hup : ∀ a x, Z a = some x → zkill (m k) ls Z w a = some x := fun a x ha => by
  unfold zkill
  split
  ·exact hf a x ha
  ·exact ha
 obtain ⟨f, loc, e1, e2, e3, e4, e5⟩ := hx
 cases e1
 have hlr : (rowsN sz ls).length = ls.length := by simp [rowsN]
 by_cases hls : ls = []
 ·subst hls
  rcases e5 with e5 | ⟨_, A, e5⟩ | ⟨e5, _⟩
  ·exact ⟨_, _, e5, by simp [rowsN], by omega, .inl rfl⟩
  ·exact ⟨_, _, e5, by simp [rowsN], by simp [maxLen], .inl rfl⟩
  ·omega
 obtain ⟨rfl, _⟩ | ⟨_, ⟨rfl, _, _⟩ | ⟨b, cap, cur, fr, h1, h2, h3, h4, h5, h6, h7, h8, h9, h10, h11⟩⟩ := h
 ·exact absurd rfl hls
 ·exact absurd rfl hls
 rw [h1] at e2; cases e2
 have e5 : x = .slice (some ⟨b, 0, none⟩) ls.length cap := by
  rcases e5 with e5 | ⟨e5, _⟩ | ⟨e5, _⟩
  ·simpa using e5
  ·simp only at e5; omega
  ·omega
 refine ⟨_, _, by rw [hlr]; exact e5, by rw [hlr]; omega, h7, .inr ⟨_, rfl, RepRows.of_get fun i cs hi => ?_⟩⟩
 simp only [rowsN, List.getElem?_map, Option.map_eq_some_iff] at hi
 obtain ⟨l, hl, rfl⟩ := hi
 refine ⟨rfl, RepAt.of_get fun j v hj => ?_⟩
 have hj0 : j = 0 := by have := (List.getElem?_eq_some_iff.1 hj).1; simp at this; omega
 subst hj0
 simp only [List.getElem?_cons_zero, Option.some.injEq] at hj
 subst hj
 obtain ⟨hd, hI, hc⟩ := h9 i l hl
 have hcell : w.cell? ⟨b, i, none⟩ = some hd := by rw [cell_of_row w b i cur t fr h3]; exact hc (by simp)
 refine ⟨hd, ?_, ?_⟩
 ·rw [Addr.add_lit, Addr.add_lit, Nat.zero_add, Nat.zero_add, Nat.mul_one, Nat.zero_add, Nat.add_zero]
  unfold zkill
  rw [if_pos ⟨rfl, 0, cap, h1, by omega, .inl rfl⟩]
  exact hcell
 ·rcases hI with ⟨rfl, e, _⟩ | ⟨b', cp, cu, f', q1, q2, q3, q4, q4', q5, q6, q7, q8, q9, q10⟩
  ·cases e; exact ⟨none, 0, rfl, Nat.le_refl _, Nat.zero_le _, .inl rfl⟩
  ·cases q1
   refine ⟨_, _, rfl, q5, q6, .inr ⟨_, rfl, RepRows.of_get fun i' cs hi => ⟨q9 cs (List.mem_of_getElem? hi), RepAt.of_get fun j v hj => ?_⟩⟩⟩
   have hil : i' < l.length := (List.getElem?_eq_some_iff.1 hi).1
   have hjl : j < sz := by have := (List.getElem?_eq_some_iff.1 hj).1; rw [q9 cs (List.mem_of_getElem? hi)] at this; exact this
   have hlt : i' * sz + j < l.length * sz := by
    have : (i' + 1) * sz ≤ l.length * sz := Nat.mul_le_mul_right sz hil
    rw [Nat.succ_mul] at this; omega
   obtain ⟨x, g1, g2⟩ := q8.get (flatten_getV q9 hi hj)
   rw [List.getElem?_take, if_pos hlt] at g1
   refine ⟨x, ?_, g2.up hup (fun f e => by cases e)⟩
   rw [Nat.zero_add, Nat.zero_add, add_add', Addr.add_lit, Nat.zero_add]
   unfold zkill
   rw [if_pos ⟨rfl, _, cp, q2, by omega, .inr ⟨i, l, hl, rfl⟩⟩, cell_of_row w b' _ cu e f' q4]
   simpa using g1
theorem NV.rep {t e sz k n : Nat} {ls : List (List (List V))} (hf : ∀ a x, Z a = some x → w.cell? a = some x) (h : HoldsN (m k) Z w t e sz none ls) : ∀ {a b : List V}, NV k n sz ls a b → ∀ {xs : List Value}, RepL (some m) Z a xs → RepL (some m) (zkill (m k) ls Z w) b xs
 | _, _, .nil, xs, hx => hx
 | _, _, .same hr, xs, hx => by
  obtain ⟨x, xs', rfl, h1, h2⟩ := hx
  refine ⟨x, xs', rfl, h1.up (fun a x ha => ?_) (fun f e => ⟨f, e, fun _ _ _ q => q⟩), NV.rep hf h hr h2⟩
  unfold zkill
  split
  ·exact hf a x ha
  ·exact ha
 | _, _, .nest hn he hr, xs, hx => by
  subst hn; subst he
  obtain ⟨x, xs', rfl, h1, h2⟩ := hx
  exact ⟨x, xs', rfl, (nest_data hf h h1).up (fun _ _ q => q) (fun f e => by cases e), NV.rep hf h hr h2⟩
theorem Step.killNest {k t e sz n kb tb : Nat} {ls : List (List (List V))} {cs cs' : List V} (hs : SimH m Z [(k, .nest t e sz none ls), (kb, .box tb cs)] w) (hv : NV k n sz ls cs cs') :
  Step m Z [(k, .nest t e sz none ls), (kb, .box tb cs)] w m (zkill (m k) ls Z w) [(k, .nest t e sz (some 0) []), (kb, .box tb cs')] w := by
 have hh : HoldsN (m k) Z w t e sz none ls := hs.holds _ (List.mem_cons_self ..)
 have hb : Holds m Z w kb (.box tb cs) := hs.holds _ (List.mem_cons_of_mem _ (List.mem_singleton.2 rfl))
 have hne : k ≠ kb := by
  have := hs.nodup
  simp [keys] at this
  exact this
 have hzu : ∀ a x, Z a = some x → zkill (m k) ls Z w a = some x := fun a x ha => by
  unfold zkill
  split
  ·exact hs.frozen a x ha
  ·exact ha
 have hzo : ∀ a x, zkill (m k) ls Z w a = some x → Z a = some x ∨ blkN (m k) ls a.block := fun a x ha => by
  unfold zkill at ha
  split at ha
  ·rename_i h; exact .inr h.2
  ·exact .inl ha
 have hdead : ∀ b, blk m (k, .nest t e sz (some 0) []) b → blk m (k, .nest t e sz none ls) b := fun b h => by
  obtain ⟨j, c, e1, e2, rfl | ⟨i, l, e3, _⟩⟩ := h
  ·exact ⟨0, c, e1, e2, .inl rfl⟩
  ·simp at e3
 have hold : ∀ p ∈ ([(k, .nest t e sz (some 0) []), (kb, .box tb cs')] : Heap), ∃ q ∈ ([(k, .nest t e sz none ls), (kb, .box tb cs)] : Heap), q.1 = p.1 ∧ ∀ b, blk m p b → blk m q b := fun p hp => by
  rcases List.mem_cons.1 hp with rfl | hp
  ·exact ⟨_, List.mem_cons_self .., rfl, hdead⟩
  ·rw [List.mem_singleton.1 hp]
   exact ⟨_, List.mem_cons_of_mem _ (List.mem_singleton.2 rfl), rfl, fun b h => h⟩
 refine ⟨⟨fun a x ha => ?_, fun p hp => ?_, by simpa [keys] using hne, fun p hp q hq b h1 h2 => ?_⟩, fun _ _ _ e => e, hzu, rfl, rfl, rfl, Nat.le_refl _, fun _ _ _ => rfl, fun _ h => h, fun _ _ => rfl, fun p hp b hb' => ?_, fun a x ha => ?_⟩
 ·unfold zkill at ha
  split at ha
  ·exact ha
  ·exact hs.frozen a x ha
 ·rcases List.mem_cons.1 hp with rfl | hp
  ·exact .inl ⟨rfl, rfl, fun b c e1 e2 => HoldsN.own hh ⟨0, c, e1, e2, .inl rfl⟩⟩
  ·rw [List.mem_singleton.1 hp]
   obtain ⟨b, cur, g1, g2, g3, g4, g5⟩ := hb
   refine ⟨b, cur, g1, g2, hv.rep hs.frozen hh g3, fun a x ha e' => ?_, g5⟩
   rcases hzo a x ha with ha | ha
   ·exact g4 a x ha e'
   ·exact hne (hs.disj (k, .nest t e sz none ls) (List.mem_cons_self ..) (kb, .box tb cs) (List.mem_cons_of_mem _ (List.mem_singleton.2 rfl)) b (by rw [← e']; exact ha) (by simp [blk, blk1, Obj.ver, g1]))
 ·obtain ⟨p', hp', e1, e2⟩ := hold p hp
  obtain ⟨q', hq', e3, e4⟩ := hold q hq
  rw [← e1, ← e3]
  exact hs.disj p' hp' q' hq' b (e2 b h1) (e4 b h2)
 ·obtain ⟨p', hp', _, e2⟩ := hold p hp
  exact .inr ⟨p', hp', e2 b hb'⟩
 ·exact (hzo a x ha).imp_right fun h => .inr ⟨_, List.mem_cons_self .., h⟩
end
section
variable {K0 : List Nat} {ρ : Env} {H : Heap}
theorem cut_nest {k t e sz n kb tb : Nat} {ls : List (List (List V))} {cs cs' : List V} (hF : selH [k, kb] H = some [(k, .nest t e sz none ls), (kb, .box tb cs)]) (hks : nodupB [k, kb] = true) (hv : NV k n sz ls cs cs') {H1 : Heap} (hH1 : [(k, .nest t e sz (some 0) []), (kb, .box tb cs')] ++ remH [k, kb] H = H1) : Cut K0 ρ H ρ H1 := fun c ρr w S => by
 subst hH1
 exact SimA.step hks hF (keys_all_fresh fun p hp => by
  rcases List.mem_cons.1 hp with rfl | hp
  ·exact List.mem_cons_self ..
  ·rw [List.mem_singleton.1 hp]; exact List.mem_cons_of_mem _ (List.mem_singleton.2 rfl)) (fun m Z hs _ hR => ⟨m, _, Step.killNest hs hv, hR.up (Step.killNest hs hv).zext fun _ _ _ e => e⟩) S
end
end Go.EV
namespace Go.EV
open Go Go.RowKit Go.Eng
def encN {α : Type} (f : α → List V) (p : List (List α)) : List (List (List V)) := p.map fun l => l.map f
theorem encN_len {α : Type} (f : α → List V) (p : List (List α)) : p.length = (encN f p).length := (List.length_map ..).symm
theorem encN_get {α : Type} (f : α → List V) {p : List (List α)} {i : Nat} (h : i < p.length) : (encN f p)[i]? = some ((p.getD i default).map f) := by
 rw [encN, List.getElem?_map, List.getElem?_eq_getElem h, List.getD_eq_getElem?_getD, List.getElem?_eq_getElem h]; rfl
theorem encN_set {α : Type} (f : α → List V) (p : List (List α)) (i : Nat) (l : List α) : encN f (p.set i l) = (encN f p).set i (l.map f) := by rw [encN, List.map_set]; rfl
theorem rowsN_encN {α : Type} (f : α → List V) (sz : Nat) (p : List (List α)) : rowsN sz (encN f p) = p.map (encL sz f) := by
 rw [rowsN, encN, List.map_map]; rfl
section
variable {P : Program} {ρ : Env} {dst : Option Tmp} {ty : TypeId} {pos : String} {aft : Array Edge} {gd : Option (Nat × Bool)} {α : Type}
theorem loc_makeNestT (f : α → List V) {t d e e2 sz2 bytes L : Nat} {q : Int} {x y : Operand} {k k2 : IntKind} (hT : elemT2 P t = some (e, 1, bytes)) (hz : zeroV P e = some [.nils]) (hx : evV ρ x = .int k q) (hy : evV ρ y = .int k2 q) (h0 : 0 ≤ q) (hlen : q * bytes ≤ 281474976710656) (h63 : q ≤ 9223372036854775807) (hL : L = q.toNat) (hs2 : Nat.ble 1 sz2 = true) :
  Loc P ⟨dst, .makeSlice t x y, ty, pos, aft, gd⟩ ρ [] (.sl 1 d 0 0 L) [(d, .nest e e2 sz2 none (encN f (List.replicate q.toNat [])))] := by
 subst hL
 have e1 : q = ((q.toNat : Nat) : Int) := by omega
 have e2' : encN f (List.replicate q.toNat []) = List.replicate q.toNat [] := by simp [encN]
 rw [e2']
 have hb : q.toNat * bytes ≤ 281474976710656 := by
  have h : ((q.toNat * bytes : Nat) : Int) ≤ 281474976710656 := by rw [Int.natCast_mul, ← e1]; exact hlen
  omega
 exact loc_makeNest hT hz (by rw [← e1]; exact hx) (by rw [← e1]; exact hy) hb (by omega) (Nat.le_of_ble_eq_true hs2)
theorem loc_loadNestT (f : α → List V) {t et e2 sz2 k i : Nat} {a : Operand} {p : List (List α)} {l : List α} (ha : evV ρ a = .ptr k 0 (i * 1 + 0)) (hi : i < p.length) (hl : p.getD i default = l) (hv : atV P t [V.nils] 0 = some .nils) :
  Loc P ⟨dst, .load t a, ty, pos, aft, gd⟩ ρ [(k, .nest et e2 sz2 none (encN f p))] (hdN sz2 k i (l.map f)) [(k, .nest et e2 sz2 none (encN f p))] := by
 subst hl
 rw [Nat.mul_one, Nat.add_zero] at ha
 exact loc_loadNest ha (encN_get f hi) (by simp) hv
theorem loc_appendNestT (f : α → List V) {t et e sz bytes k i n : Nat} {x y : Operand} {p : List (List α)} {l ys : List α} {R : Heap} (hT : elemT2 P t = some (e, sz, bytes)) (hx : evV ρ x = hdN sz k i (l.map f)) (hi : i < p.length) (hl : p.getD i default = l) (hy : Src sz R (evV ρ y) (ys.map f))
  (h1 : ∀ c ∈ ys.map f, c.all V.one = true) (hkl : ∀ c ∈ ys.map f, c.length = sz) (hys : List.isEmpty ys = false) (hkR : hasKey k R = false) (hn : (l ++ ys).length = n) (hlen : n * bytes ≤ 140737488355328) (h63 : n ≤ 9223372036854775807) :
  Loc P ⟨dst, .call ⟨.builtin .append, #[x, y], #[t, t]⟩, ty, pos, aft, gd⟩ ρ ((k, .nest et e sz none (encN f p)) :: R) (.sl sz k (code i n) 0 n) ((k, .nest et e sz (some i) (encN f (p.set i (l ++ ys)))) :: R) := by
 subst hl; subst hn
 have hne : ys.map f ≠ [] := by
  cases ys with
  | nil => cases hys
  | cons => simp
 have := loc_appendNest (P := P) (ρ := ρ) (dst := dst) (ty := ty) (pos := pos) (aft := aft) (gd := gd) (et := et) hT hx (encN_get f hi) hy h1 hne (by simpa using hlen) (by simpa using h63) hkR hkl
 rw [← List.map_append, List.length_map, ← encN_set] at this
 exact this
theorem loc_storeNestT (f : α → List V) {t et e sz k i n : Nat} {a x : Operand} {p : List (List α)} {l : List α} (ha : evV ρ a = .ptr k 0 (i * 1 + 0)) (hi : i < p.length) (hx : evV ρ x = .sl sz k (code i n) 0 n) (hn : l.length = n) (h0 : 0 < n) (hsz : sizeOfT P t 1 = true) :
  Loc P ⟨dst, .store t a x, ty, pos, aft, gd⟩ ρ [(k, .nest et e sz (some i) (encN f (p.set i l)))] .no [(k, .nest et e sz none (encN f (p.set i l)))] := by
 rw [Nat.mul_one, Nat.add_zero] at ha
 subst hn
 have hg : (encN f (p.set i l))[i]? = some (l.map f) := by
  rw [encN_set, List.getElem?_set, if_pos rfl, if_pos (by rw [← encN_len]; exact hi)]
 exact loc_storeNest ha hg (by simpa using h0) (by rw [hx, List.length_map]) hsz
end
end Go.EV
namespace Go.EV
open Go Go.RowKit Go.Eng
def qvIs (hd : Bool) (sz n b cap off : Nat) (x : Value) : Prop := match hd with
 | true => off + n ≤ cap ∧ cap ≤ maxLen ∧ (x = .slice (some ⟨b, off * sz, none⟩) n (cap - off) ∨ (cap ≤ off ∧ ∃ A, x = .slice A n 0))
 | false => x = .pointer (some ⟨b, off * sz + n, none⟩)
def qv (hd : Bool) (sz ver n : Nat) : GVal where
 rep mk x := ∃ b cap off, mk (2 * ver + 2) = some (b, cap) ∧ (∃ b', mk (2 * ver + 3) = some (b', off)) ∧ qvIs hd sz n b cap off x
 mono mk mk' x h := fun ⟨b, cap, off, h1, ⟨b', h2⟩, h3⟩ => ⟨b, cap, off, h _ _ h1, ⟨b', h _ _ h2⟩, h3⟩
 one mk x := by
  rintro ⟨b, cap, off, _, _, h⟩
  cases hd with
  | true => obtain ⟨_, _, rfl | ⟨_, A, rfl⟩⟩ := h <;> exact ⟨rfl, rfl⟩
  | false => cases h; exact ⟨rfl, rfl⟩
def QueH (mk : Nat → Option (Nat × Nat)) (Z : ZM) (w : World) (t sz ver : Nat) (els : List (List V)) : Prop :=
 0 < sz ∧ ∃ (b cap off : Nat) (cur : Array Value) (fr : Nat × Nat), mk (2 * ver + 2) = some (b, cap) ∧ (∃ b', mk (2 * ver + 3) = some (b', off)) ∧ 0 < cap ∧ off + els.length ≤ cap ∧ cap ≤ maxLen ∧ w.heap[b]? = some (.cells cur t fr) ∧ fr.2 = 0 ∧ cur.size = cap * sz ∧
  RepL none Z els.flatten ((cur.toList.drop (off * sz)).take (els.length * sz)) ∧ (∀ e ∈ els, e.length = sz) ∧ (∀ a x, Z a = some x → a.block ≠ b) ∧ ∀ L loc, mk L = some loc → L ≤ 2 * ver + 3
def que (t sz ver : Nat) (els : List (List V)) : GObj where
 holds mk Z w := QueH mk Z w t sz ver els
 blks mk b := ∃ c, mk (2 * ver + 2) = some (b, c) ∧ c ≠ 0
 some_ mk b := fun ⟨c, h1, h2⟩ => ⟨_, c, h1, h2⟩
 own mk Z w b := by
  rintro ⟨_, b', cap, off, cur, fr, h1, _, _, _, _, h2, _⟩ ⟨c, h3, _⟩
  rw [h1] at h3; cases h3
  exact ⟨_, h2, rfl⟩
 keep mk Z Z' w w' := by
  rintro ⟨h0, b', cap, off, cur, fr, h1, h2, h3, h4, h5, h6, h7, h8, h9, h10, h11, h12⟩ hZ hw
  obtain ⟨hw1, hz1⟩ := hw b' ⟨cap, h1, by omega⟩
  exact ⟨h0, b', cap, off, cur, fr, h1, h2, h3, h4, h5, hw1.trans h6, h7, h8, h9.up hZ (fun f e => by cases e), h10, fun a x ha e => h11 a x (hz1 a x ha e) e, h12⟩
section
variable {m : M} {Z : ZM} {w w' : World}
theorem Step.que {k t sz ver b cap off : Nat} {o : Obj} {els : List (List V)} {cur : Array Value} {fr : Nat × Nat} (hs : SimH m Z [(k, o)] w) (hver : ∀ L loc, m k L = some loc → L ≤ 2 * ver + 1)
  (hheap : ∀ j, j < w.heap.size → ¬ blk m (k, o) j → w'.heap[j]? = w.heap[j]?) (h1 : w'.os = w.os) (h2 : w'.tape = w.tape) (h3 : w'.output = w.output) (hsz : w.heap.size ≤ w'.heap.size)
  (hb : w'.heap[b]? = some (.cells cur t fr)) (hbo : w.heap.size ≤ b ∨ blk m (k, o) b) (hz : ∀ a x, Z a = some x → w'.cell? a = some x) (h0 : 0 < sz) (hc0 : 0 < cap) (hoff : off + els.length ≤ cap) (hcm : cap ≤ maxLen) (hfr : fr.2 = 0) (hcs : cur.size = cap * sz)
  (hr : RepL none Z els.flatten ((cur.toList.drop (off * sz)).take (els.length * sz))) (hk : ∀ e ∈ els, e.length = sz) (hzb : ∀ a x, Z a = some x → a.block ≠ b) :
  ∃ m', Step m Z [(k, o)] w m' Z [(k, .gen (EV.que t sz ver els))] w' ∧ m' k (2 * ver + 2) = some (b, cap) ∧ m' k (2 * ver + 3) = some (b, off) := by
 let m' : M := fun k' L => if k' = k ∧ L = 2 * ver + 2 then some (b, cap) else if k' = k ∧ L = 2 * ver + 3 then some (b, off) else m k' L
 have e1 : m' k (2 * ver + 2) = some (b, cap) := by simp [m']
 have e2 : m' k (2 * ver + 3) = some (b, off) := by simp [m']
 have e3 : ∀ k' L loc, m k' L = some loc → m' k' L = some loc := fun k' L loc e => by
  by_cases hk' : k' = k
  ·subst hk'
   have := hver _ _ e
   simp only [m']
   rw [if_neg (by omega), if_neg (by omega)]; exact e
  ·simp [m', hk', e]
 refine ⟨m', ⟨⟨hz, fun p hp => ?_, by simp [keys], fun p hp q hq _ _ _ => ?_⟩, e3, fun _ _ e => e, h1, h2, h3, hsz, fun j hj hn => hheap j hj (hn _ (List.mem_singleton.2 rfl)), fun j hj => by simpa [keys] using hj, fun j hj => ?_, fun p hp b2 hb2 => ?_, fun a x ha => .inl ha⟩, e1, e2⟩
 ·simp only [List.mem_singleton] at hp
  subst hp
  refine ⟨h0, b, cap, off, cur, fr, e1, ⟨b, e2⟩, hc0, hoff, hcm, hb, hfr, hcs, hr, hk, hzb, fun L loc e => ?_⟩
  simp only [m'] at e
  split at e
  ·omega
  ·split at e
   ·omega
   ·have := hver _ _ e; omega
 ·simp only [List.mem_singleton] at hp hq
  subst hp; subst hq; rfl
 ·funext L
  have : j ≠ k := by simpa [keys] using hj
  simp [m', this]
 ·simp only [List.mem_singleton] at hp
  subst hp
  obtain ⟨c, q1, _⟩ := hb2
  rw [e1] at q1; cases q1
  rcases hbo with h | h
  ·exact .inl h
  ·exact .inr ⟨_, List.mem_singleton.2 rfl, h⟩
theorem Step.toQue {k t sz : Nat} {els : List (List V)} (hs : SimH m Z [(k, .row t sz 0 els)] w) (hne : 0 < els.length) :
  ∃ m' b cap, Step m Z [(k, .row t sz 0 els)] w m' Z [(k, .gen (EV.que t sz els.length els))] w ∧ m k els.length = some (b, cap) ∧ cap ≤ maxLen ∧ els.length ≤ cap ∧ m' k (2 * els.length + 2) = some (b, cap) ∧ m' k (2 * els.length + 3) = some (b, 0) := by
 rcases hs.holds _ (List.mem_singleton.2 rfl) with ⟨_, h1, _⟩ | ⟨b, cap, cur, fr, g1, g0, g2, g3, g4, g5, g6, g7, g8, g9, g10, g11, g12, g13⟩
 ·subst h1; simp at hne
 have g1 : m k els.length = some (b, cap) := g1
 have hbk : blk m (k, .row t sz 0 els) b := by
  have : cap ≠ 0 := by omega
  simp [blk, blk1, Obj.ver, g1, this]
 obtain ⟨m', hst, e1, e2⟩ := Step.que (w' := w) (ver := els.length) (b := b) (cap := cap) (off := 0) (els := els) (cur := cur) (fr := fr) (t := t) (sz := sz) hs (fun L loc e => by have := g12 L loc e; omega) (fun _ _ _ => rfl) rfl rfl rfl (Nat.le_refl _) g2 (.inr hbk) hs.frozen g6 g0 (by omega) g4 (by simpa using g9) g5
  (by simpa using g7) g8 (fun a x ha e => by have := g11 a x ha e; simp at this)
 exact ⟨m', b, cap, hst, g1, g4, g3, e1, e2⟩
end
section
variable {K0 : List Nat} {ρ : Env} {H : Heap}
theorem cut_que (t k : Nat) {e sz n : Nat} {els : List (List V)} (hF : selH [k] H = some [(k, .row e sz 0 els)]) (ht : ρ.get t = .sl sz k n 0 n) (hn : n = els.length) (h0 : 0 < els.length) {H1 : Heap} (hH1 : [(k, .gen (que e sz n els))] ++ remH [k] H = H1) :
  Cut K0 ρ H ((t, .gv k (qv true sz n n)) :: ρ) H1 := fun c ρr w S => by
 subst hH1; subst hn
 refine SimA.step (by simp [nodupB]) hF (keys_all_fresh fun p hp => by rw [List.mem_singleton.1 hp]; exact List.mem_singleton.2 rfl) (fun m Z hs _ hR => ?_) S
 obtain ⟨m', b, cap, hst, g1, g2, g3, e1, e2⟩ := Step.toQue hs h0
 refine ⟨m', Z, hst, fun u => ?_⟩
 show Rep (some m') Z (bif Nat.beq u t then _ else ρ.get u) (ρr u)
 cases hb : Nat.beq u t with
 | false => exact (hR u).up hst.zext fun f e => by cases e; exact ⟨m', rfl, hst.mext⟩
 | true =>
  have := Nat.eq_of_beq_eq_true hb
  subst this
  have hr := hR u
  rw [ht] at hr
  obtain ⟨f, loc, q1, q2, q3, q4, q5⟩ := hr
  cases q1
  rw [g1] at q2; cases q2
  refine ⟨m', rfl, b, cap, 0, e1, ⟨b, e2⟩, by omega, g2, ?_⟩
  rcases q5 with q5 | ⟨q5, _⟩ | ⟨q5, _⟩
  ·exact .inl q5
  ·simp only at q5; omega
  ·omega
end
section
variable {P : Program} {ρ : Env} {dst : Option Tmp} {ty : TypeId} {pos : String} {aft : Array Edge} {gd : Option (Nat × Bool)}
theorem qv_slice {m : M} {Z : ZM} {k sz ver n : Nat} {x : Value} (h : Rep (some m) Z (.gv k (qv true sz ver n)) x) : ∃ b cap off, m k (2 * ver + 2) = some (b, cap) ∧ (∃ b', m k (2 * ver + 3) = some (b', off)) ∧ off + n ≤ cap ∧ cap ≤ maxLen ∧ (x = .slice (some ⟨b, off * sz, none⟩) n (cap - off) ∨ (cap ≤ off ∧ n = 0 ∧ ∃ A, x = .slice A n 0)) := by
 obtain ⟨f, e1, b, cap, off, e2, e3, e4, e5, e6⟩ := h
 cases e1
 exact ⟨b, cap, off, e2, e3, e4, e5, e6.imp_right fun ⟨h1, h2⟩ => ⟨h1, by omega, h2⟩⟩
theorem loc_lenQ {t k sz ver n : Nat} {x : Operand} (ht : sliceT P t = true) (hx : evV ρ x = .gv k (qv true sz ver n)) : Loc P ⟨dst, .call ⟨.builtin .len, #[x], #[t]⟩, ty, pos, aft, gd⟩ ρ [] (.int .i64 n) [] := by
 intro ρr m Z w hops hs _
 have hX := hops x (by simp [Op.operands, Call.operands])
 rw [hx] at hX
 obtain ⟨b, cap, off, _, _, _, _, h⟩ := qv_slice hX
 obtain ⟨A, c, hv⟩ : ∃ A c, ev ρr x = .slice A n c := by
  rcases h with h | ⟨_, _, A, h⟩
  ·exact ⟨_, _, h⟩
  ·exact ⟨_, _, h⟩
 unfold sliceT at ht
 split at ht
 ·rename_i e hu; exact ⟨rfl, .inl ⟨_, w, run_len_slice' hu hv, m, Z, Step.refl hs, rfl⟩⟩
 ·cases ht
theorem loc_indexQ {t e sz kk ver n : Nat} {x ix : Operand} {k : IntKind} {i : Int} (ht : elemT P t = some (e, sz)) (hx : evV ρ x = .gv kk (qv true sz ver n)) (hi : evV ρ ix = .int k i) (h0 : 0 ≤ i) (h1 : i < n) :
  Loc P ⟨dst, .indexAddr t x ix, ty, pos, aft, gd⟩ ρ [] (.gv kk (qv false sz ver (i.toNat * sz))) [] := by
 intro ρr m Z w hops hs _
 have hX := hops x (by simp [Op.operands])
 have hI := hops ix (by simp [Op.operands])
 rw [hx] at hX; rw [hi] at hI
 have hI : ev ρr ix = .int k i := hI
 obtain ⟨b, cap, off, e1, e2, e3, e4, e5⟩ := qv_slice hX
 have e5 : ev ρr x = .slice (some ⟨b, off * sz, none⟩) n (cap - off) := by
  rcases e5 with e5 | ⟨_, e5, _⟩
  ·exact e5
  ·omega
 unfold elemT at ht
 split at ht
 ·rename_i e' hu
  split at ht
  ·rename_i ii hii
   split at ht
   ·simp only [Option.some.injEq, Prod.mk.injEq] at ht
    obtain ⟨rfl, hsz⟩ := ht
    refine ⟨rfl, .inl ⟨.pointer (some ⟨b, off * sz + i.toNat * sz, none⟩), w, ?_, m, Z, Step.refl hs, m, rfl, b, cap, off, e1, e2, rfl⟩⟩
    have h7 : ¬ ((n : Int) ≤ i) := by omega
    simp [execOp, Instr.indexAt, run_underlying hu, asIntOf, e5, hI, sizeOf, typeInfo, hii, hsz, h0, h7, Addr.add_lit]
   ·cases ht
  ·cases ht
 ·cases ht
theorem loc_popQ {t e et sz k ver n : Nat} {x lo : Operand} {els rest : List (List V)} {kk : IntKind} (ht : elemT P t = some (e, sz)) (hx : evV ρ x = .gv k (qv true sz ver n)) (hl : evV ρ lo = .int kk 1) (hn : n = els.length) (h0 : 1 ≤ n) (hr : els.drop 1 = rest) :
  Loc P ⟨dst, .slice t x (some lo) none none, ty, pos, aft, gd⟩ ρ [(k, .gen (que et sz ver els))] (.gv k (qv true sz (ver + 1) (n - 1))) [(k, .gen (que et sz (ver + 1) rest))] := by
 intro ρr m Z w hops hs _
 subst hr
 have hX := hops x (by simp [Op.operands])
 rw [hx] at hX
 obtain ⟨b, cap, off, e1, ⟨b', e2⟩, e3, e4, e5⟩ := qv_slice hX
 have e5 : ev ρr x = .slice (some ⟨b, off * sz, none⟩) n (cap - off) := by
  rcases e5 with e5 | ⟨_, e5, _⟩
  ·exact e5
  ·omega
 obtain ⟨g0, b1, cap1, off1, cur, fr, g1, ⟨b2, g2⟩, g3, g4, g5, g6, g7, g8, g9, g10, g11, g12⟩ := hs.holds _ (List.mem_singleton.2 rfl)
 have g1 : m k (2 * ver + 2) = some (b1, cap1) := g1
 rw [g1] at e1; cases e1
 have g2 : m k (2 * ver + 3) = some (b2, off1) := g2
 rw [g2] at e2; cases e2
 have hbk : blk m (k, .gen (que et sz ver els)) b := ⟨cap, g1, by omega⟩
 obtain ⟨m', hst, q1, q2⟩ := Step.que (w' := w) (ver := ver + 1) (b := b) (cap := cap) (off := off + 1) (els := els.drop 1) (cur := cur) (fr := fr) (t := et) (sz := sz) hs (fun L loc e => by have := g12 L loc e; omega) (fun _ _ _ => rfl) rfl rfl rfl (Nat.le_refl _) g6 (.inr hbk) hs.frozen g0 g3
  (by rw [List.length_drop]; omega) g5 g7 g8 (by
   have h := (RepL.drop sz g9)
   have hfl : (els.drop 1).flatten = els.flatten.drop sz := by
    cases els with
    | nil => simp
    | cons a l => have := g10 a (List.mem_cons_self ..); simp [← this]
   rw [hfl]
   have : (List.drop sz (List.take (els.length * sz) (List.drop (off * sz) cur.toList))) = List.take ((els.drop 1).length * sz) (List.drop ((off + 1) * sz) cur.toList) := by
    rw [List.drop_take, List.drop_drop, List.length_drop, Nat.sub_mul, Nat.one_mul, Nat.add_mul, Nat.one_mul]
   rw [← this]; exact h) (fun c hc => g10 c (List.mem_of_mem_drop hc)) g11
 have hbnd : (Instr.sliceBounds true n (cap - off) ((some lo).map (ev ρr)) (none.map (ev ρr)) none).run P w = .ok ((1 : Int).toNat, (n : Int).toNat, cap - off) w :=
  run_bounds (P := P) (w := w) (isS := true) (cap := cap - off) (lo := some lo) (hi := none) (l := 1) (h := n) ⟨kk, hl⟩ rfl (fun y hy => hops y (by cases hy; simp [Op.operands])) (fun y hy => by cases hy) (by omega) (by omega) (by omega) (by omega)
 unfold elemT at ht
 split at ht
 ·rename_i e' hu
  split at ht
  ·rename_i ii hii
   split at ht
   ·simp only [Option.some.injEq, Prod.mk.injEq] at ht
    obtain ⟨rfl, hsz⟩ := ht
    have hrun : (execOp (ev ρr) ⟨dst, .slice t x (some lo) none none, ty, pos, aft, gd⟩).run P w = .ok (.value (.slice (if cap - off = 1 then some ⟨b, off * sz, none⟩ else some ⟨b, off * sz + sz, none⟩) (n - 1) (cap - off - 1))) w := by
     have hbnd' := hbnd
     simp only [Option.map_some, Option.map_none] at hbnd'
     simp [execOp, Instr.sliceAt, Instr.slice, run_underlying hu, e5, hbnd', sizeOf, typeInfo, hii, hsz, Addr.add_lit]
    refine ⟨rfl, .inl ⟨_, w, hrun, m', Z, hst, m', rfl, b, cap, off + 1, q1, ⟨b, q2⟩, by omega, g5, ?_⟩⟩
    by_cases hc : cap - off = 1
    ·rw [if_pos hc]
     exact .inr ⟨by omega, some ⟨b, off * sz, none⟩, by rw [show cap - off - 1 = 0 by omega]⟩
    ·rw [if_neg hc]
     exact .inl (by rw [Nat.add_mul, Nat.one_mul, Nat.sub_sub])
   ·cases ht
  ·cases ht
 ·cases ht
end
end Go.EV
namespace Go.EV
open Go Go.RowKit Go.Eng
section
variable {P : Program}
theorem run_append_roomO (w : World) (t ty e : TypeId) (i : TypeInfo) (ht : P.underlying t = some (.slice e)) (hi : P.info? e = some i)
  (g o sLen sCap : Nat) (cur : Array Value) (fz : Nat × Nat) (hg : w.heap[g]? = some (.cells cur e fz)) (hfz : fz.2 ≤ o + sLen * i.size)
  (a : Addr) (m c : Nat) (news : List Value) (hl : news.length = m * i.size) (hnews : ∀ j u, news[j]? = some u → w.cell? (a.add j) = some u) (h1 : ∀ u ∈ news, u.oneCell' = true)
  (hroom : sLen + m ≤ sCap) (hfit : o + sLen * i.size + news.length ≤ cur.size) :
  (Builtin.append_ #[t, t] ty #[.slice (some ⟨g, o, none⟩) sLen sCap, .slice (some a) m c]).run P w =
   .ok (.slice (some ⟨g, o, none⟩) (sLen + m) sCap) (w.setRow g (cur.toList.take (o + sLen * i.size) ++ news ++ cur.toList.drop (o + sLen * i.size + news.length)).toArray) := by
 have hf := run_firstCells_some (P := P) w i.size m a m c news hl hnews
 have hst := run_storeCells_atF P g (o + sLen * i.size) e fz news 0 cur w hg (by simpa using hfz) (by simpa using hfit) h1
 simp only [Nat.add_zero] at hst
 simp [Builtin.append_, run_underlying ht, sizeOf, typeInfo, hi, Builtin.lenOf, hroom, hf, Addr.add_lit, hst]
end
section
variable {P : Program} {ρ : Env} {dst : Option Tmp} {ty : TypeId} {pos : String} {aft : Array Edge} {gd : Option (Nat × Bool)}
theorem loc_loadQ {t et sz k ver n : Nat} {a : Operand} {els : List (List V)} {cs : List V} {v : V} (i : Nat) (ha : evV ρ a = .gv k (qv false sz ver n)) (hn : n = i * sz) (hc : els[i]? = some cs) (hv : atV P t cs 0 = some v) :
  Loc P ⟨dst, .load t a, ty, pos, aft, gd⟩ ρ [(k, .gen (que et sz ver els))] v [(k, .gen (que et sz ver els))] := by
 intro ρr m Z w hops hs _
 have hX := hops a (by simp [Op.operands])
 rw [ha] at hX
 subst hn
 obtain ⟨f, e0, b, cap, off, e1, ⟨b', e2⟩, e3⟩ := hX
 cases e0
 obtain ⟨g0, b1, cap1, off1, cur, fr, g1, ⟨b2, g2⟩, g3, g4, g5, g6, g7, g8, g9, g10, g11, g12⟩ := hs.holds _ (List.mem_singleton.2 rfl)
 have g1 : m k (2 * ver + 2) = some (b1, cap1) := g1
 rw [g1] at e1; cases e1
 have g2 : m k (2 * ver + 3) = some (b2, off1) := g2
 rw [g2] at e2; cases e2
 have e3 : ev ρr a = .pointer (some ⟨b, off * sz + i * sz, none⟩) := e3
 generalize hB : off * sz + i * sz = B at e3
 have hcell : ∀ q, w.cell? ⟨b, q, none⟩ = cur[q]? := fun q => cell_of_row w b q cur et fr g6
 have hlt := (List.getElem?_eq_some_iff.1 hc).1
 have g3 : ∀ j v, cs[j]? = some v → ∃ x, cur[B + j]? = some x ∧ Rep none Z v x := fun j v hj => by
  obtain ⟨x, h1, h2⟩ := g9.get (flatten_getV g10 hc hj)
  rw [List.getElem?_take] at h1
  split at h1
  ·rw [List.getElem?_drop] at h1
   refine ⟨x, ?_, h2⟩
   rw [← hB, Nat.add_assoc]
   simpa using h1
  ·cases h1
 refine ⟨rfl, .inl ?_⟩
 unfold atV at hv
 split at hv
 ·rename_i hsh
  split at hv
  ·rename_i v' hv'
   split at hv
   ·cases hv
    obtain ⟨u, h4, h5⟩ := g3 _ _ hv'
    exact ⟨u, w, run_load_scal (shape_scal hsh) e3 (by rw [hcell]; exact h4), m, Z, Step.refl hs, h5.none_some⟩
   ·cases hv
  ·cases hv
 ·rename_i n hsh
  split at hv
  ·rename_i hk
   have hk := Nat.le_of_ble_eq_true hk
   cases hv
   let us : List Value := (List.range n).map fun q => (cur[B + (0 + q)]?).getD Go.undef
   have hex : ∀ q, q < n → ∃ u v, cs[0 + q]? = some v ∧ cur[B + (0 + q)]? = some u ∧ Rep none Z v u := fun q hq => by
    have hcq : cs[0 + q]? = some (cs[0 + q]'(by omega)) := List.getElem?_eq_getElem (by omega)
    obtain ⟨u, h1, h2⟩ := g3 _ _ hcq
    exact ⟨u, _, hcq, h1, h2⟩
   have hget : ∀ q, q < n → us[q]? = cur[B + (0 + q)]? := fun q hq => by
    obtain ⟨u, v, _, h2, _⟩ := hex q hq
    simp only [us, List.getElem?_map, List.getElem?_range hq, Option.map_some, h2, Option.getD_some]
   refine ⟨.agg us.toArray, w, run_load_agg us (shape_agg hsh) e3 (by simp [us]) fun q u hq => ?_, m, Z, Step.refl hs, us, rfl, ?_⟩
   ·have hqn : q < n := by have := (List.getElem?_eq_some_iff.1 hq).1; simpa [us] using this
    rw [Addr.add_lit, hcell, show B + q = B + (0 + q) by omega, ← hget q hqn]; exact hq
   ·refine RepL.of_get (by simp [us]; omega) fun q v u hv hu => ?_
    have hqn : q < n := by have := (List.getElem?_eq_some_iff.1 hu).1; simpa [us] using this
    rw [List.getElem?_take, if_pos hqn, List.getElem?_drop] at hv
    obtain ⟨u', v', h1, h2, h3⟩ := hex q hqn
    rw [hv] at h1; cases h1
    rw [hget q hqn, h2] at hu; cases hu
    exact h3.none_some
  ·cases hv
 ·cases hv
theorem loc_appendQ {t e sz bytes k ver n n' : Nat} {x y : Operand} {els ys all : List (List V)} {R : Heap} (hT : elemT2 P t = some (e, sz, bytes)) (hx : evV ρ x = .gv k (qv true sz ver n)) (hn : els.length = n) (hy : Src sz R (evV ρ y) ys)
  (h1 : ∀ c ∈ ys, c.all V.one = true) (hkl : ∀ c ∈ ys, c.length = sz) (hys : List.isEmpty ys = false) (hkR : hasKey k R = false) (hall : els ++ ys = all) (hn' : all.length = n') (hlen : n' * bytes ≤ 140737488355328) (h63 : n' ≤ 9223372036854775807) :
  Loc P ⟨dst, .call ⟨.builtin .append, #[x, y], #[t, t]⟩, ty, pos, aft, gd⟩ ρ ((k, .gen (que e sz ver els)) :: R) (.gv k (qv true sz (ver + 1) n')) ((k, .gen (que e sz (ver + 1) all)) :: R) := by
 intro ρr m Z w hops hs hnew
 subst hall; subst hn; subst hn'
 have hys : ys ≠ [] := by rintro rfl; cases hys
 obtain ⟨i, z, hu, hi, hz, hisz, hib, hzs, h0⟩ := elemT2_of hT
 subst hisz; subst hib
 have hX := hops x (by simp [Op.operands, Call.operands])
 have hY := hops y (by simp [Op.operands, Call.operands])
 rw [hx] at hX
 have hs1 : SimH m Z [(k, .gen (que e i.size ver els))] w := SimH.left (F := [(k, .gen (que e i.size ver els))]) (G := R) hs
 have hsR : SimH m Z R w := SimH.left (F := R) (G := [(k, .gen (que e i.size ver els))]) (hs.perm (List.perm_append_comm (l₁ := [(k, Obj.gen (que e i.size ver els))]) (l₂ := R)))
 obtain ⟨A, c, hYv, hym, hA, hnews⟩ := hy.read h0 hsR hY
 have hfr : ∀ {m' Z' w'}, Step m Z [(k, .gen (que e i.size ver els))] w m' Z' [(k, .gen (que e i.size (ver + 1) (els ++ ys)))] w' → Step m Z ((k, .gen (que e i.size ver els)) :: R) w m' Z' ((k, .gen (que e i.size (ver + 1) (els ++ ys))) :: R) w' := fun h =>
  Step.frame_rule (F := [(k, .gen (que e i.size ver els))]) (G := R) (F' := [(k, .gen (que e i.size (ver + 1) (els ++ ys)))]) hs h fun p hp q hq e' => by
   simp only [List.mem_singleton] at hp
   subst hp
   have e' : k = q.1 := e'
   rw [hasKey_iff.2 (by rw [e']; exact mem_keys hq)] at hkR; cases hkR
 have fin : ∀ {v w'}, (Builtin.append_ #[t, t] ty #[ev ρr x, ev ρr y]).run P w = .ok v w' → (execOp (ev ρr) ⟨dst, .call ⟨.builtin .append, #[x, y], #[t, t]⟩, ty, pos, aft, gd⟩).run P w = .ok (.value v) w' := fun h => by
  simp [execOp, resolve, invoke, builtin, h]
 have hlenA : (els ++ ys).length = els.length + ys.length := by simp
 rw [hlenA] at hlen h63
 have hn0 : 0 < ys.length := List.length_pos_iff.2 hys
 obtain ⟨a, rfl⟩ : ∃ a, A = some a := by
  cases A with
  | none => exact absurd (hA rfl) hys
  | some a => exact ⟨a, rfl⟩
 obtain ⟨news, hn1, hn2⟩ := hnews a rfl
 have hnl : news.length = ys.length * i.size := by rw [hn1.length, flatten_lenV hkl]
 have hones : ∀ u ∈ news, u.oneCell' = true := ones_of hn1 (List.all_eq_true.2 fun v hv => by
  obtain ⟨c, hc, hvc⟩ := List.mem_flatten.1 hv
  exact (List.all_eq_true.1 (h1 c hc)) v hvc)
 have hmax : els.length + ys.length ≤ maxLen := by simp only [maxLen]; omega
 obtain ⟨b, cap, off, e1, ⟨b', e2⟩, e3, e4, e5⟩ := qv_slice hX
 obtain ⟨g0, b1, cap1, off1, cur, fr, g1, ⟨b2, g2⟩, g3, g4, g5, g6, g7, g8, g9, g10, g11, g12⟩ := hs1.holds _ (List.mem_singleton.2 rfl)
 have g1 : m k (2 * ver + 2) = some (b1, cap1) := g1
 rw [g1] at e1; cases e1
 have g2 : m k (2 * ver + 3) = some (b2, off1) := g2
 rw [g2] at e2; cases e2
 have hbk : blk m (k, .gen (que e i.size ver els)) b := ⟨cap, g1, by omega⟩
 have hver : ∀ L loc, m k L = some loc → L ≤ 2 * (ver + 1) + 1 := fun L loc e => by have := g12 L loc e; omega
 have hkall : ∀ c ∈ els ++ ys, c.length = i.size := fun c hc => by
  rcases List.mem_append.1 hc with hc | hc
  ·exact g10 c hc
  ·exact hkl c hc
 have hcl : cur.toList.length = cap * i.size := by simpa using g8
 have hZlt : ∀ a x, Z a = some x → a.block < w.heap.size := fun a x ha => frozen_lt hs.frozen ha
 -- a new block
 have grown : ∀ (olds : List Value) (cap0 : Nat), RepL none Z els.flatten olds → cap0 < els.length + ys.length →
   (Builtin.append_ #[t, t] ty #[ev ρr x, .slice (some a) ys.length c]).run P w = .ok (.slice (some ⟨w.heap.size, 0, none⟩) (els.length + ys.length) (grownCap w (els.length + ys.length) cap0 e)) (w.drew.alloc (.cells (olds.toArray ++ news.toArray ++ Builtin.zeroCells z.cells (grownCap w (els.length + ys.length) cap0 e - (els.length + ys.length))) e)) →
   Exec P ⟨dst, .call ⟨.builtin .append, #[x, y], #[t, t]⟩, ty, pos, aft, gd⟩ ρr w fun x w' => ∃ m' Z', Step m Z ((k, .gen (que e i.size ver els)) :: R) w m' Z' ((k, .gen (que e i.size (ver + 1) (els ++ ys))) :: R) w' ∧ Rep (some m') Z' (.gv k (qv true i.size (ver + 1) (els ++ ys).length)) x := fun olds cap0 ho hc0 hr => by
  have hol : olds.length = els.length * i.size := by rw [ho.length, flatten_lenV g10]
  have hgr := grownCap_ge w (els.length + ys.length) cap0 e
  have hgm := grownCap_le_maxLen w (els.length + ys.length) cap0 e hmax
  obtain ⟨m', hst, q1, q2⟩ := Step.que (m := m) (Z := Z) (w := w) (w' := w.drew.alloc (.cells (olds.toArray ++ news.toArray ++ Builtin.zeroCells z.cells (grownCap w (els.length + ys.length) cap0 e - (els.length + ys.length))) e)) (ver := ver + 1) (b := w.heap.size) (cap := grownCap w (els.length + ys.length) cap0 e) (off := 0) (els := els ++ ys) (cur := olds.toArray ++ news.toArray ++ Builtin.zeroCells z.cells (grownCap w (els.length + ys.length) cap0 e - (els.length + ys.length))) (fr := (0, 0)) (t := e) (sz := i.size) hs1 hver
   (fun j hj _ => Below.heap_alloc w.drew _ j hj) rfl rfl rfl (by simp) (World.alloc_heap_new w.drew _) (.inl (Nat.le_refl _)) (fun aa xx ha => by rw [cell_same (w := w) (Below.heap_alloc w.drew _ _ (hZlt aa xx ha))]; exact hs.frozen aa xx ha) h0 (by omega) (by rw [hlenA]; omega) hgm rfl
   (by simp only [Array.size_append, List.size_toArray, size_zeroCells, hzs, hnl, hol, ← Nat.add_mul]; congr 1; omega)
   (by
    have e6 : ((els ++ ys).length * i.size) = (olds ++ news).length := by rw [hlenA, List.length_append, hol, hnl, Nat.add_mul]
    rw [e6, flatten_appendV, Nat.zero_mul, List.drop_zero]
    simp only [Array.toList_append]
    rw [List.take_left]
    exact ho.append hn1) hkall (fun aa xx ha => by have := hZlt aa xx ha; omega)
  exact ⟨rfl, .inl ⟨_, _, fin (by rw [hYv]; exact hr), m', Z, hfr hst, m', rfl, _, _, 0, q1, ⟨_, q2⟩, by rw [hlenA]; omega, hgm, .inl (by simp)⟩⟩
 rcases e5 with e5 | ⟨hc0, hl0, A', e5⟩
 ·by_cases hroom : els.length + ys.length ≤ cap - off
  ·have hsum : (off + (els.length + ys.length)) * i.size ≤ cap * i.size := Nat.mul_le_mul_right _ (by omega)
   rw [Nat.add_mul, Nat.add_mul] at hsum
   have hfit : off * i.size + els.length * i.size + news.length ≤ cur.size := by rw [hnl, g8]; omega
   have hr := run_append_roomO (P := P) w t ty e i hu hi b (off * i.size) els.length (cap - off) cur fr g6 (by omega) a ys.length c news hnl hn2 hones hroom hfit
   have hsz2 : cur.size = cur.toList.length := by simp
   have htl : (cur.toList.take (off * i.size + els.length * i.size)).length = off * i.size + els.length * i.size := by rw [List.length_take]; omega
   obtain ⟨m', hst, q1, q2⟩ := Step.que (m := m) (Z := Z) (w := w) (w' := w.setRow b (cur.toList.take (off * i.size + els.length * i.size) ++ news ++ cur.toList.drop (off * i.size + els.length * i.size + news.length)).toArray) (ver := ver + 1) (b := b) (cap := cap) (off := off) (els := els ++ ys) (cur := (cur.toList.take (off * i.size + els.length * i.size) ++ news ++ cur.toList.drop (off * i.size + els.length * i.size + news.length)).toArray) (fr := fr) (t := e) (sz := i.size) hs1 hver
    (fun j hj hne => setRow_other w b j _ fun h => hne (h ▸ hbk)) rfl rfl rfl (by simp) (setRow_heap w b cur _ e fr g6) (.inr hbk) (fun aa xx ha => by rw [cell_same (setRow_other w b _ _ (g11 aa xx ha))]; exact hs.frozen aa xx ha) h0 g3 (by rw [hlenA]; omega) g5 g7
    (by simp only [List.size_toArray, List.length_append, htl, List.length_drop]; omega)
    (by
     have e6 : ((els ++ ys).length * i.size) = ((cur.toList.drop (off * i.size)).take (els.length * i.size) ++ news).length := by
      rw [hlenA, List.length_append, hnl, Nat.add_mul, List.length_take, List.length_drop]; omega
     have e7 : (cur.toList.take (off * i.size + els.length * i.size) ++ news ++ cur.toList.drop (off * i.size + els.length * i.size + news.length)).drop (off * i.size) = (cur.toList.drop (off * i.size)).take (els.length * i.size) ++ news ++ cur.toList.drop (off * i.size + els.length * i.size + news.length) := by
      rw [List.drop_append_of_le_length (by rw [List.length_append, htl]; omega), List.drop_append_of_le_length (by rw [htl]; omega), List.drop_take]
      congr 3; omega
     rw [e6, flatten_appendV]
     simp only []
     rw [e7, List.take_left]
     exact g9.append hn1) hkall g11
   exact ⟨rfl, .inl ⟨_, _, fin (by rw [e5, hYv]; exact hr), m', Z, hfr hst, m', rfl, b, cap, off, q1, ⟨_, q2⟩, by rw [hlenA]; omega, e4, .inl (by rw [hlenA])⟩⟩
  ·refine grown ((cur.toList.drop (off * i.size)).take (els.length * i.size)) (cap - off) g9 (by omega) ?_
   have hsum : (off + els.length) * i.size ≤ cap * i.size := Nat.mul_le_mul_right _ g4
   rw [Nat.add_mul] at hsum
   rw [e5]
   exact run_append_grow (P := P) w t ty e i z hu hi hz ⟨b, off * i.size, none⟩ els.length (cap - off) ((cur.toList.drop (off * i.size)).take (els.length * i.size)) (by rw [List.length_take, List.length_drop]; omega) (fun j v h => by
    rw [Addr.add_lit, cell_of_row w b _ cur e fr g6]
    rw [List.getElem?_take] at h
    split at h
    ·rw [List.getElem?_drop] at h; simpa using h
    ·cases h) a ys.length c news hnl hn2 (by omega) (by omega) (growslice_fits (by omega) hlen)
 ·have hel : els = [] := List.eq_nil_of_length_eq_zero hl0
  subst hel
  refine grown [] 0 rfl (by simpa using hn0) ?_
  rw [e5]
  have hr := run_append_nil (P := P) w t ty e i z hu hi hz a ys.length c news hnl hn2 hn0 (by omega) (by simp only [List.length_nil, Nat.zero_add] at hlen; omega)
  cases A' with
  | none => simpa using hr
  | some a' =>
   have hr2 := run_append_grow (P := P) w t ty e i z hu hi hz a' 0 0 [] (by simp) (fun j v h => by simp at h) a ys.length c news hnl hn2 (by omega) (by simp only [List.length_nil, Nat.zero_add] at h63; omega) (growslice_fits (by omega) (by simpa using hlen))
   simpa using hr2
end
end Go.EV
namespace Go.EV
open Go Go.RowKit Go.Eng
def cpy {α : Type} (l : List α) (o : Nat) (ys : List α) : List α := l.take o ++ ys ++ l.drop (o + ys.length)
theorem cpy_length {α : Type} {l ys : List α} {o : Nat} (h : o + ys.length ≤ l.length) : (cpy l o ys).length = l.length := by simp [cpy]; omega
theorem cpy_nil {α : Type} (l : List α) (o : Nat) : cpy l o [] = l := by simp [cpy]
theorem cpy_map {α β : Type} (f : α → β) (l : List α) (o : Nat) (ys : List α) : (cpy l o ys).map f = cpy (l.map f) o (ys.map f) := by simp [cpy]
def cpyT {α : Type} (l : List α) (o : Nat) (ys : List α) : List α := (cpy l o ys).take l.length
theorem cpyT_length {α : Type} {l ys : List α} {o : Nat} : (cpyT l o ys).length = l.length := by simp [cpyT, cpy]; omega
theorem cpyT_eq {α : Type} {l ys : List α} {o : Nat} (h : o + ys.length ≤ l.length) : cpyT l o ys = cpy l o ys := by
 rw [cpyT, List.take_of_length_le]; rw [cpy_length h]; exact Nat.le_refl _
theorem flatten_take {sz : Nat} : ∀ {els : List (List V)}, (∀ e ∈ els, e.length = sz) → ∀ o, (els.take o).flatten = els.flatten.take (o * sz)
 | [], _, o => by simp
 | a :: l, h, 0 => by simp
 | a :: l, h, o + 1 => by
  have ha := h a (List.mem_cons_self ..)
  rw [List.take_succ_cons, List.flatten_cons, List.flatten_cons, flatten_take (fun e he => h e (List.mem_cons_of_mem _ he)) o, Nat.add_mul, Nat.one_mul, Nat.add_comm, ← ha, List.take_length_add_append]
theorem flatten_drop {sz : Nat} : ∀ {els : List (List V)}, (∀ e ∈ els, e.length = sz) → ∀ o, (els.drop o).flatten = els.flatten.drop (o * sz)
 | [], _, o => by simp
 | a :: l, h, 0 => by simp
 | a :: l, h, o + 1 => by
  have ha := h a (List.mem_cons_self ..)
  rw [List.drop_succ_cons, List.flatten_cons, flatten_drop (fun e he => h e (List.mem_cons_of_mem _ he)) o, Nat.add_mul, Nat.one_mul, Nat.add_comm, ← ha, List.drop_length_add_append]
def Rd (w : World) (Z : ZM) (y : Value) (ys : List (List V)) : Prop :=
 ∃ A cc, y = .slice A ys.length cc ∧ (0 < ys.length → ∃ a, A = some a ∧ ∃ news : List Value, RepL none Z ys.flatten news ∧ ∀ j u, news[j]? = some u → w.cell? (a.add j) = some u)
section
variable {P : Program} {m : M} {Z : ZM} {w : World}
theorem copy_run {k e sz bytes t t2 ty L o n c : Nat} {els ys : List (List V)} {X Y : Value} (hT : elemT2 P t = some (e, sz, bytes)) (hs : SimH m Z [(k, .row e sz 0 els)] w) (hX : Rep (some m) Z (.sl sz k L o n) X) (hL : L = els.length) (hon : o + n ≤ L) (hY : Rd w Z Y ys) (h1 : ∀ c ∈ ys, c.all V.one = true)
  (hkl : ∀ c ∈ ys, c.length = sz) (hc : c = min ys.length n) : ∃ w', (Builtin.copy_ #[t, t2] ty #[X, Y]).run P w = .ok (.int .i64 c) w' ∧ Step m Z [(k, .row e sz 0 els)] w m Z [(k, .row e sz 0 (cpy els o (ys.take c)))] w' := by
 obtain ⟨i, z, hu, hi, hz, hisz, hib, hzs, h0⟩ := elemT2_of hT
 subst hisz; subst hib; subst hL
 obtain ⟨f, loc, e1, e2, e3, e4, e5⟩ := hX
 cases e1
 obtain ⟨A, cc, rfl, hA⟩ := hY
 obtain ⟨B, cB, hXv⟩ : ∃ B cB, X = .slice B n cB := by
  rcases e5 with e5 | ⟨e5, A', e6⟩ | ⟨_, e5, A', c', e6, _⟩
  ·exact ⟨_, _, e5⟩
  ·exact ⟨A', 0, by rw [e6]; congr 1; omega⟩
  ·exact ⟨A', c', by rw [e6, e5]⟩
 have hlt : (ys.take c).length = c := by rw [List.length_take]; omega
 by_cases hc0 : c = 0
 ·refine ⟨w, ?_, by rw [hc0, List.take_zero, cpy_nil]; exact Step.refl hs⟩
  have hmin : Nat.min ys.length n = 0 := hc.symm.trans hc0
  have hf : (Builtin.firstCells i.size 0 (.slice A ys.length cc)).run P w = .ok #[] w := by
   cases A with
   | none => simp [Builtin.firstCells]
   | some a => simp [Builtin.firstCells, loadCells, loadCellsFrom]
  rw [hXv, hc0]
  cases B with
  | none => simp [Builtin.copy_, run_underlying hu, sizeOf, typeInfo, hi, Builtin.lenOf, hmin, hf, goInt]
  | some b => simp [Builtin.copy_, run_underlying hu, sizeOf, typeInfo, hi, Builtin.lenOf, hmin, hf, storeCells, goInt]
 have hn0 : 0 < n := by omega
 have hy0 : 0 < ys.length := by omega
 obtain ⟨a, rfl, news, hn1, hn2⟩ := hA hy0
 rcases hs.holds _ (List.mem_singleton.2 rfl) with ⟨_, g1, _⟩ | ⟨b, cap, cur, fr, g1, g0, g2, g3, g4, g5, g6, g7, g8, g9, g10, g11, g12, g13⟩
 ·subst g1; simp at hon; omega
 have g1 : m k els.length = some (b, cap) := g1
 rw [g1] at e2; cases e2
 have e5 : X = .slice (some ⟨b, o * i.size, none⟩) n (cap - o) := by
  rcases e5 with e5 | ⟨e5, _⟩ | ⟨_, e5, _⟩
  ·exact e5
  ·simp only at e5; omega
  ·omega
 have hnl : news.length = ys.length * i.size := by rw [hn1.length, flatten_lenV hkl]
 have hmin : Nat.min ys.length n = c := hc.symm
 have hcy : c ≤ ys.length := by omega
 have hcn : c ≤ n := by omega
 have hcs : c * i.size ≤ ys.length * i.size := Nat.mul_le_mul_right _ hcy
 have hnc : (news.take (c * i.size)).length = c * i.size := by rw [List.length_take, hnl]; omega
 have hf := run_firstCells_some (P := P) w i.size c a ys.length cc (news.take (c * i.size)) hnc (fun j v hj => by
  rw [List.getElem?_take] at hj
  split at hj
  ·exact hn2 j v hj
  ·cases hj)
 have hones : ∀ u ∈ news, u.oneCell' = true := ones_of hn1 (List.all_eq_true.2 fun v hv => by
  obtain ⟨c, hc, hvc⟩ := List.mem_flatten.1 hv
  exact (List.all_eq_true.1 (h1 c hc)) v hvc)
 have hsum : (o + c) * i.size ≤ els.length * i.size := Nat.mul_le_mul_right _ (by omega)
 have hcapm : els.length * i.size ≤ cap * i.size := Nat.mul_le_mul_right _ g3
 have hadd : (o + c) * i.size = o * i.size + c * i.size := Nat.add_mul ..
 have hst := run_storeCells_atF P b (o * i.size) e fr (news.take (c * i.size)) 0 cur w g2 (by simp at g9; omega) (by rw [hnc, g5]; omega) (fun v hv => hones v (List.mem_of_mem_take hv))
 simp only [Nat.add_zero, hnc] at hst
 refine ⟨w.setRow b (cur.toList.take (o * i.size) ++ news.take (c * i.size) ++ cur.toList.drop (o * i.size + c * i.size)).toArray, ?_, ?_⟩
 ·rw [e5]
  simp [Builtin.copy_, run_underlying hu, sizeOf, typeInfo, hi, Builtin.lenOf, hmin, hf, hst, goInt]
 ·have hbk : blk m (k, .row e i.size 0 els) b := by
   have : cap ≠ 0 := by omega
   simp [blk, blk1, Obj.ver, g1, this]
  have hlen2 : (cpy els o (ys.take c)).length = els.length := cpy_length (by rw [hlt]; omega)
  have hcl : cur.toList.length = cap * i.size := by simpa using g5
  have hno : ∀ a x, Z a = some x → a.block ≠ b := fun a x ha e => by have := g11 a x ha e; simp at this
  refine Step.write (b := b) hs hbk (fun b2 h => blk_ver (by simp only [Obj.ver]; exact hlen2) rfl rfl b2 h) rfl rfl rfl (by simp) (fun j hj => setRow_other w b j _ hj) (fun a x ha e => absurd e (hno a x ha)) ?_
  refine .inr ⟨b, cap, _, fr, by rw [hlen2]; exact g1, g0, setRow_heap w b cur _ e fr g2, by rw [hlen2]; exact g3, g4, ?_, g6, ?_, ?_, g9, by omega, fun a x ha e => absurd e (hno a x ha), by rw [hlen2]; exact g12, fun off x h => by simp at h⟩
  ·simp only [List.size_toArray, List.length_append, List.length_take, List.length_drop, hnl]; omega
  ·rw [hlen2]
   have hfl : (cpy els o (ys.take c)).flatten = els.flatten.take (o * i.size) ++ ys.flatten.take (c * i.size) ++ els.flatten.drop ((o + c) * i.size) := by
    rw [cpy, List.flatten_append, List.flatten_append, flatten_take g8, flatten_take hkl, hlt, flatten_drop g8]
   rw [hfl]
   have hcu : (cur.toList.take (o * i.size) ++ news.take (c * i.size) ++ cur.toList.drop (o * i.size + c * i.size)).toArray.toList.take (els.length * i.size) = (cur.toList.take (els.length * i.size)).take (o * i.size) ++ news.take (c * i.size) ++ (cur.toList.take (els.length * i.size)).drop ((o + c) * i.size) := by
    simp only []
    have hl1 : (cur.toList.take (o * i.size) ++ news.take (c * i.size)).length = o * i.size + c * i.size := by
     rw [List.length_append, hnc, List.length_take]; omega
    rw [List.take_append, List.take_of_length_le (by rw [hl1]; omega), hl1, List.take_take, List.drop_take, hadd]
    congr 2
    rw [Nat.min_eq_left (by omega)]
   rw [hcu]
   exact ((g7.take _).append (hn1.take _)).append (g7.drop _)
  ·intro c' hc'
   rw [cpy, List.append_assoc] at hc'
   rcases List.mem_append.1 hc' with h | h
   ·exact g8 _ (List.mem_of_mem_take h)
   ·rcases List.mem_append.1 h with h | h
    ·exact hkl _ (List.mem_of_mem_take h)
    ·exact g8 _ (List.mem_of_mem_drop h)
theorem Src.rd {R : Heap} {sz : Nat} {y : V} {ys : List (List V)} {x : Value} (h : Src sz R y ys) (h0 : 0 < sz) (hs : SimH m Z R w) (hx : Rep (some m) Z y x) : Rd w Z x ys := by
 obtain ⟨A, c, e1, _, e2, e3⟩ := h.read h0 hs hx
 refine ⟨A, c, e1, fun hp => ?_⟩
 cases A with
 | none => rw [e2 rfl] at hp; simp at hp
 | some a => exact ⟨a, rfl, e3 a rfl⟩
theorem rd_part {k e sz fz L o n : Nat} {els : List (List V)} {x : Value} (hs : SimH m Z [(k, .row e sz fz els)] w) (hx : Rep (some m) Z (.sl sz k L o n) x) (hL : L = els.length) (hon : o + n ≤ L) : Rd w Z x ((els.drop o).take n) := by
 subst hL
 obtain ⟨f, loc, e1, e2, e3, e4, e5⟩ := hx
 cases e1
 have hlen : ((els.drop o).take n).length = n := by rw [List.length_take, List.length_drop]; omega
 by_cases hn : n = 0
 ·subst hn
  rcases e5 with e5 | ⟨e5, A', e6⟩ | ⟨_, e5, A', c', e6, _⟩
  ·exact ⟨_, _, by rw [hlen]; exact e5, fun h => by omega⟩
  ·exact ⟨_, _, by rw [hlen]; exact e6, fun h => by omega⟩
  ·exact ⟨_, _, by rw [hlen]; exact e6, fun h => by omega⟩
 rcases hs.holds _ (List.mem_singleton.2 rfl) with ⟨_, g1, _⟩ | ⟨b, cap, cur, fr, g1, g0, g2, g3, g4, g5, g6, g7, g8, g9, g10, g11, g12, g13⟩
 ·subst g1; simp at hon; omega
 have g1 : m k els.length = some (b, cap) := g1
 rw [g1] at e2; cases e2
 have e5 : x = .slice (some ⟨b, o * sz, none⟩) n (cap - o) := by
  rcases e5 with e5 | ⟨e5, _⟩ | ⟨_, e5, _⟩
  ·exact e5
  ·simp only at e5; omega
  ·omega
 refine ⟨_, _, by rw [hlen]; exact e5, fun _ => ⟨_, rfl, (((cur.toList.take (els.length * sz)).drop (o * sz)).take (n * sz)), ?_, fun j u hj => ?_⟩⟩
 ·have h8 : ∀ e ∈ els.drop o, e.length = sz := fun e he => g8 e (List.mem_of_mem_drop he)
  rw [flatten_take h8, flatten_drop g8]
  exact (g7.drop _).take _
 ·rw [Addr.add_lit, cell_of_row w b _ cur e fr g2]
  rw [List.getElem?_take] at hj
  split at hj
  ·rw [List.getElem?_drop, List.getElem?_take] at hj
   split at hj
   ·simpa using hj
   ·cases hj
  ·cases hj
end
section
variable {P : Program} {ρ : Env} {dst : Option Tmp} {ty : TypeId} {pos : String} {aft : Array Edge} {gd : Option (Nat × Bool)} {α : Type}
theorem loc_copyT (f : α → List V) {t t2 e sz bytes k L o n c : Nat} {x y : Operand} {q ys all : List α} {R : Heap} (hT : elemT2 P t = some (e, sz, bytes)) (hx : evV ρ x = .sl sz k L o n) (hL : q.length = L) (hon : o + n ≤ L) (hy : Src sz R (evV ρ y) (ys.map f)) (h1 : ∀ a, (f a).all V.one = true) (hkl : ∀ a, (f a).length = sz) (hkR : hasKey k R = false)
  (hc : c = min ys.length n) (hall : cpyT q o (ys.take c) = all) :
  Loc P ⟨dst, .call ⟨.builtin .copy, #[x, y], #[t, t2]⟩, ty, pos, aft, gd⟩ ρ ((k, .row e sz 0 (q.map f)) :: R) (.int .i64 c) ((k, .row e sz 0 (all.map f)) :: R) := by
 intro ρr m Z w hops hs hnew
 rw [cpyT_eq (by rw [List.length_take]; omega)] at hall
 subst hall
 have hX := hops x (by simp [Op.operands, Call.operands])
 have hY := hops y (by simp [Op.operands, Call.operands])
 rw [hx] at hX
 obtain ⟨i, z, hu, hi, hz, hisz, hib, hzs, h0⟩ := elemT2_of hT
 have hs1 : SimH m Z [(k, .row e sz 0 (q.map f))] w := SimH.left (F := [(k, .row e sz 0 (q.map f))]) (G := R) hs
 have hsR : SimH m Z R w := SimH.left (F := R) (G := [(k, .row e sz 0 (q.map f))]) (hs.perm (List.perm_append_comm (l₁ := [(k, Obj.row e sz 0 (q.map f))]) (l₂ := R)))
 obtain ⟨w', hr, hst⟩ := copy_run (t2 := t2) (ty := ty) (c := c) hT hs1 hX (by rw [List.length_map]; exact hL.symm) hon (hy.rd h0 hsR hY) (map_ones f h1 ys) (map_lens f hkl ys) (by rw [List.length_map]; exact hc)
 rw [← List.map_take, ← cpy_map] at hst
 exact ⟨rfl, .inl ⟨_, w', by simp [execOp, resolve, invoke, builtin, hr], m, Z, Step.frame_rule (F := [(k, .row e sz 0 (q.map f))]) (G := R) (F' := [(k, .row e sz 0 ((cpy q o (ys.take c)).map f))]) hs hst (fun p hp r hr' e' => by
  simp only [List.mem_singleton] at hp
  subst hp
  have e' : k = r.1 := e'
  rw [hasKey_iff.2 (by rw [e']; exact mem_keys hr')] at hkR; cases hkR), rfl⟩⟩
theorem loc_copySelfT (f : α → List V) {t t2 e sz bytes k L o n o2 n2 c : Nat} {x y : Operand} {q all : List α} (hT : elemT2 P t = some (e, sz, bytes)) (hx : evV ρ x = .sl sz k L o n) (hy : evV ρ y = .sl sz k L o2 n2) (hL : q.length = L) (hon : o + n ≤ L) (hon2 : o2 + n2 ≤ L) (h1 : ∀ a, (f a).all V.one = true) (hkl : ∀ a, (f a).length = sz)
  (hc : c = min n2 n) (hall : cpyT q o (((q.drop o2).take n2).take c) = all) :
  Loc P ⟨dst, .call ⟨.builtin .copy, #[x, y], #[t, t2]⟩, ty, pos, aft, gd⟩ ρ [(k, .row e sz 0 (q.map f))] (.int .i64 c) [(k, .row e sz 0 (all.map f))] := by
 intro ρr m Z w hops hs hnew
 rw [cpyT_eq (by rw [List.length_take, List.length_take, List.length_drop]; omega)] at hall
 subst hall
 have hX := hops x (by simp [Op.operands, Call.operands])
 have hY := hops y (by simp [Op.operands, Call.operands])
 rw [hx] at hX; rw [hy] at hY
 have hlen : ((q.drop o2).take n2).length = n2 := by rw [List.length_take, List.length_drop]; omega
 have hrd := rd_part hs hY (by rw [List.length_map]; exact hL.symm) hon2
 rw [← List.map_drop, ← List.map_take] at hrd
 obtain ⟨w', hr, hst⟩ := copy_run (t2 := t2) (ty := ty) (c := c) hT hs hX (by rw [List.length_map]; exact hL.symm) hon hrd (map_ones f h1 _) (map_lens f hkl _) (by rw [List.length_map, hlen]; exact hc)
 rw [← List.map_take, ← cpy_map] at hst
 exact ⟨rfl, .inl ⟨_, w', by simp [execOp, resolve, invoke, builtin, hr], m, Z, hst, rfl⟩⟩
theorem loc_sliceRowT {t e sz k L n : Nat} {x : Operand} {lo hi : Option Operand} {l h : Int} (ht : elemT P t = some (e, sz)) (hx : evV ρ x = .sl sz k L 0 n) (hl : bndV ρ lo 0 l) (hh : bndV ρ hi n h) (h0 : 0 ≤ l) (h1 : l ≤ h) (h2 : h ≤ n) :
  Loc P ⟨dst, .slice t x lo hi none, ty, pos, aft, gd⟩ ρ [] (.sl sz k L l.toNat (h.toNat - l.toNat)) [] := by
 have := loc_sliceRow (P := P) (ρ := ρ) (dst := dst) (ty := ty) (pos := pos) (aft := aft) (gd := gd) ht hx hl hh h0 h1 h2
 rwa [Nat.zero_add] at this
theorem loc_popQT (f : α → List V) {t e et sz k ver n n' : Nat} {x lo : Operand} {p : List α} {kk : IntKind} (ht : elemT P t = some (e, sz)) (hx : evV ρ x = .gv k (qv true sz ver n)) (hl : evV ρ lo = .int kk 1) (hn : p.length = n) (h0 : 1 ≤ n) (hn' : (p.drop 1).length = n') :
  Loc P ⟨dst, .slice t x (some lo) none none, ty, pos, aft, gd⟩ ρ [(k, .gen (que et sz ver (p.map f)))] (.gv k (qv true sz (ver + 1) n')) [(k, .gen (que et sz (ver + 1) ((p.drop 1).map f)))] := by
 subst hn; subst hn'
 have := loc_popQ (P := P) (ρ := ρ) (dst := dst) (ty := ty) (pos := pos) (aft := aft) (gd := gd) (et := et) (els := p.map f) ht hx hl (List.length_map ..).symm h0 rfl
 rw [← List.map_drop] at this
 rw [List.length_drop]
 exact this
def nzP (sz : Nat) (els : List (List V)) : PVal where
 rep Z x := (els = [] ∧ x = .slice none 0 0) ∨ (els ≠ [] ∧ Rep none Z (.vs sz els) x)
 mono Z Z' x hZ h := h.imp id fun ⟨h1, h2⟩ => ⟨h1, h2.up hZ fun f e => by cases e⟩
 one Z x h := by
  rcases h with ⟨_, rfl⟩ | ⟨_, A, c, rfl, _⟩ <;> exact ⟨rfl, rfl⟩
def nz (sz : Nat) (els : List (List V)) : V := .pv (nzP sz els)
theorem nz_vs {sz : Nat} {els : List (List V)} (m : Option M) (Z : ZM) (x : Value) (h : Rep m Z (nz sz els) x) : Rep m Z (.vs sz els) x := by
 rcases h with ⟨h1, h2⟩ | ⟨_, h⟩
 ·subst h1; exact ⟨none, 0, h2, Nat.le_refl _, Nat.zero_le _, .inl rfl⟩
 ·exact h
theorem nz_of {sz : Nat} {els : List (List V)} (h : List.isEmpty els = false) (m : Option M) (Z : ZM) (x : Value) (hx : Rep m Z (.vs sz els) x) : Rep m Z (nz sz els) x := .inr ⟨(by rintro rfl; cases h), hx⟩
theorem nz_map {sz : Nat} {f : α → List V} {l : List α} (h : List.isEmpty l = false) : ∀ (m : Option M) (Z : ZM) (x : Value), Rep m Z (.vs sz (l.map f)) x → Rep m Z (nz sz (l.map f)) x := nz_of (by cases l with
 | nil => cases h
 | cons a l => rfl)
theorem nz_nil {sz : Nat} {els : List (List V)} (h : els = []) (m : Option M) (Z : ZM) (x : Value) (hx : Rep m Z .nils x) : Rep m Z (nz sz els) x := .inl ⟨h, hx⟩
theorem View.nz {F : Heap} (sz : Nat) (els : List (List V)) : View F (nz sz els) (.vs sz els) := .weak nz_vs
theorem nz_slice {m : M} {Z : ZM} {sz : Nat} {els : List (List V)} {x : Value} (h : Rep (some m) Z (EV.nz sz els) x) : ∃ A c, x = .slice A els.length c ∧ A.isNone = List.isEmpty els := by
 rcases h with ⟨rfl, rfl⟩ | ⟨h1, A, c, rfl, _, _, h4 | ⟨a, rfl, _⟩⟩
 ·exact ⟨_, _, rfl, rfl⟩
 ·exact absurd h4 h1
 ·refine ⟨_, _, rfl, ?_⟩
  cases els with
  | nil => exact absurd rfl h1
  | cons => rfl
theorem loc_lenZ {t sz n : Nat} {x : Operand} {els : List (List V)} (ht : sliceT P t = true) (hx : evV ρ x = nz sz els) (hn : els.length = n) : Loc P ⟨dst, .call ⟨.builtin .len, #[x], #[t]⟩, ty, pos, aft, gd⟩ ρ [] (.int .i64 n) [] := by
 subst hn
 intro ρr m Z w hops hs _
 have hX := hops x (by simp [Op.operands, Call.operands])
 rw [hx] at hX
 obtain ⟨A, c, hv, _⟩ := nz_slice hX
 unfold sliceT at ht
 split at ht
 ·rename_i e hu; exact ⟨rfl, .inl ⟨_, w, run_len_slice' hu hv, m, Z, Step.refl hs, rfl⟩⟩
 ·cases ht
theorem run_nilZ {m : M} {Z : ZM} {w : World} {ρr : Slots} {t t' sz : Nat} {x y : Operand} {els : List (List V)} {d : Nat} (ht : nilT P t .nils = true) (hX : Rep (some m) Z (EV.nz sz els) (ev ρr x)) (hY : Rep (some m) Z .nils (ev ρr y)) :
  (execOp (ev ρr) ⟨some d, .binOp .eql t x y t', ty, pos, aft, gd⟩).run P w = .ok (.value (.bool (List.isEmpty els))) w ∧ (execOp (ev ρr) ⟨some d, .binOp .neq t x y t', ty, pos, aft, gd⟩).run P w = .ok (.value (.bool (!List.isEmpty els))) w := by
 obtain ⟨A, c, hv, he⟩ := nz_slice hX
 have hY : ev ρr y = .slice none 0 0 := hY
 have ht' : ∃ e, P.underlying t = some (.slice e) := by
  simp only [nilT] at ht
  split at ht
  ·exact ⟨_, by assumption⟩
  ·cases ht
 obtain ⟨e, ht'⟩ := ht'
 have hq : ∀ k, (Op.equalIn (k + 1) t (.slice A els.length c) (.slice none 0 0)).run P w = .ok A.isNone w := fun k => by cases A <;> simp [Op.equalIn, run_underlying ht']
 rw [← he]
 exact run_via (dst := some d) (t' := t') (ty := ty) (pos := pos) (aft := aft) (gd := gd) (b := A.isNone) hv hY rfl rfl (hq 9999)
theorem loc_isNilZ {d t t' sz : Nat} {x y : Operand} {els : List (List V)} {b : Bool} (ht : nilT P t .nils = true) (hx : evV ρ x = nz sz els) (hy : evV ρ y = .nils) (hb : List.isEmpty els = b) : Loc P ⟨some d, .binOp .eql t x y t', ty, pos, aft, gd⟩ ρ [] (.bool b) [] := by
 subst hb
 intro ρr m Z w hops hs _
 have hX := hops x (by simp [Op.operands])
 have hY := hops y (by simp [Op.operands])
 rw [hx] at hX; rw [hy] at hY
 exact ⟨rfl, .inl ⟨_, w, (run_nilZ (t' := t') ht hX hY).1, m, Z, Step.refl hs, rfl⟩⟩
theorem loc_notNilZ {d t t' sz : Nat} {x y : Operand} {els : List (List V)} {b : Bool} (ht : nilT P t .nils = true) (hx : evV ρ x = nz sz els) (hy : evV ρ y = .nils) (hb : (!List.isEmpty els) = b) : Loc P ⟨some d, .binOp .neq t x y t', ty, pos, aft, gd⟩ ρ [] (.bool b) [] := by
 subst hb
 intro ρr m Z w hops hs _
 have hX := hops x (by simp [Op.operands])
 have hY := hops y (by simp [Op.operands])
 rw [hx] at hX; rw [hy] at hY
 exact ⟨rfl, .inl ⟨_, w, (run_nilZ (t' := t') ht hX hY).2, m, Z, Step.refl hs, rfl⟩⟩
end
end Go.EV
namespace Go.EV
open Go Go.RowKit Go.Eng
section
variable {P : Program} {ρ : Env} {o : Oper} {v : V}
end
end Go.EV
namespace Go.EV
open Go Go.RowKit Go.Eng
section
variable {K0 : List Nat} {ρ : Env} {H : Heap}
end
section
variable {P : Program} {ρ : Env} {dst : Option Tmp} {ty : TypeId} {pos : String} {aft : Array Edge} {gd : Option (Nat × Bool)}
end
end Go.EV
namespace Go.EV
open Go Go.RowKit Go.Eng
section
variable {α β : Type} [DecidableEq α]
def mix (a : α) : List (α × β) → Nat
 | [] => 0
 | (k, _) :: r => if a = k then 0 else mix a r + 1
theorem mix_find (a : α) : ∀ l : List (α × β), (∃ b, mfind a l = some b ∧ l[mix a l]? = some (a, b)) ∨ (mix a l = l.length ∧ mfind a l = none)
 | [] => .inr ⟨rfl, rfl⟩
 | (k, c) :: r => by
  by_cases h : a = k
  ·subst h; exact .inl ⟨c, by simp [mfind], by simp [mix]⟩
  ·rcases mix_find a r with ⟨b, h1, h2⟩ | ⟨h1, h2⟩
   ·exact .inl ⟨b, by simp [mfind, h, h1], by simp [mix, h, h2]⟩
   ·exact .inr ⟨by simp [mix, h, h1], by simp [mfind, h, h2]⟩
theorem mset_get (a : α) (b : β) : ∀ (l : List (α × β)) (i : Nat), (mset a b l)[i]? = if i = mix a l then some (a, b) else l[i]?
 | [], i => by
  cases i with
  | zero => simp [mset, mix]
  | succ i => simp [mset, mix]
 | (k, c) :: r, i => by
  by_cases h : a = k
  ·subst h
   cases i with
   | zero => simp [mset, mix]
   | succ i => simp [mset, mix]
  ·cases i with
   | zero => simp [mset, mix, h]
   | succ i => simp [mset, mix, h, mset_get a b r i]
theorem findP_mix (a : α) : ∀ (l : List (α × β)) (es : List MapEntry) (i : Nat), es.length = l.length → findP a (l.map (·.1)) es i = (es[mix a l]?).map fun e => (i + mix a l, e.val)
 | [], es, i, h => by
  have : es = [] := List.length_eq_zero_iff.1 (by simpa using h)
  subst this; rfl
 | (k, c) :: r, [], i, h => by simp at h
 | (k, c) :: r, e :: es, i, h => by
  by_cases hk : a = k
  ·subst hk; simp [findP, mix]
  ·simp only [List.map_cons, findP, if_neg hk, mix]
   rw [findP_mix a r es (i + 1) (by simpa using h), List.getElem?_cons_succ]
   congr 1
   funext e'
   congr 1
   omega
end
def EntR (mk : Nat → Option (Nat × Nat)) (Z : ZM) (w : World) (e sz i : Nat) (l : List (List V)) (h : Value) : Prop :=
 ∃ (b cap : Nat) (cur : Array Value) (fr : Nat × Nat), h = .slice (some ⟨b, 0, none⟩) l.length cap ∧ mk (code i l.length) = some (b, cap) ∧ 0 < l.length ∧ w.heap[b]? = some (.cells cur e fr) ∧ fr.2 = 0 ∧ l.length ≤ cap ∧ cap ≤ maxLen ∧
  cur.size = cap * sz ∧ RepL none Z l.flatten (cur.toList.take (l.length * sz)) ∧ (∀ x ∈ l, x.length = sz) ∧ ∀ a x, Z a = some x → a.block ≠ b
def ownR (l : List (V × List (List V))) (ho : Option Nat) (j : Nat) : Prop := j = 0 ∨ ∃ i p, l[i]? = some p ∧ ho ≠ some i ∧ j = code i p.2.length
def mroH (e sz : Nat) (l : List (V × List (List V))) (ho : Option Nat) (mk : Nat → Option (Nat × Nat)) (Z : ZM) (w : World) : Prop :=
 0 < sz ∧ ∃ (b : Nat) (es : Array MapEntry) (clock : Nat), mk 0 = some (b, 1) ∧ w.heap[b]? = some (.map es clock) ∧ es.size = l.length ∧ (es.toList.Pairwise fun x y => x.born < y.born) ∧ (∀ x ∈ es.toList, x.born < clock) ∧ (∀ a x, Z a = some x → a.block ≠ b) ∧
  (∀ i p, l[i]? = some p → ∃ en, es[i]? = some en ∧ Rep none Z p.1 en.key ∧ (ho ≠ some i → EntR mk Z w e sz i p.2 en.val)) ∧
  (∀ j1 j2 c1 c2 g, mk j1 = some (g, c1) → mk j2 = some (g, c2) → ownR l ho j1 → ownR l ho j2 → j1 = j2) ∧
  ∀ L loc, mk L = some loc → L = 0 ∨ ∃ i n p, l[i]? = some p ∧ n ≤ p.2.length ∧ L = code i n
section
variable {e sz : Nat} {l : List (V × List (List V))} {ho : Option Nat} {mk : Nat → Option (Nat × Nat)} {Z : ZM} {w : World}
theorem mroH.own (h : mroH e sz l ho mk Z w) {j b c : Nat} (hj : ownR l ho j) (hb : mk j = some (b, c)) : c ≠ 0 ∧ ((j = 0 ∧ ∃ es clock, w.heap[b]? = some (.map es clock)) ∨ ∃ cur fr, w.heap[b]? = some (.cells cur e fr)) := by
 obtain ⟨_, b0, es, clock, h1, h2, _, _, _, _, h7, _, _⟩ := h
 rcases hj with rfl | ⟨i, p, hi, hne, rfl⟩
 ·rw [h1] at hb; cases hb
  exact ⟨by omega, .inl ⟨rfl, _, _, h2⟩⟩
 ·obtain ⟨en, _, _, hE⟩ := h7 i p hi
  obtain ⟨b', cap, cur, fr, g1, g2, g3, g4, g5, g6, _⟩ := hE hne
  rw [g2] at hb; cases hb
  exact ⟨by omega, .inr ⟨_, _, g4⟩⟩
theorem EntR.keep {Z' : ZM} {w' : World} {i : Nat} {q : List (List V)} {x : Value} (h : EntR mk Z w e sz i q x) (hZ : ∀ a x, Z a = some x → Z' a = some x)
  (hw : ∀ b c, mk (code i q.length) = some (b, c) → c ≠ 0 → w'.heap[b]? = w.heap[b]? ∧ ∀ a x, Z' a = some x → a.block = b → Z a = some x) : EntR mk Z' w' e sz i q x := by
 obtain ⟨b', cap, cur, fr, g1, g2, g3, g4, g5, g6, g7, g8, g9, g10, g11⟩ := h
 obtain ⟨hw1, hz1⟩ := hw b' cap g2 (by omega)
 exact ⟨b', cap, cur, fr, g1, g2, g3, hw1.trans g4, g5, g6, g7, g8, g9.up hZ (fun f e => by cases e), g10, fun a x ha e => g11 a x (hz1 a x ha e) e⟩
end
def mro (e sz : Nat) (l : List (V × List (List V))) (ho : Option Nat) : GObj where
 holds mk Z w := mroH e sz l ho mk Z w
 blks mk b := ∃ j c, mk j = some (b, c) ∧ c ≠ 0 ∧ ownR l ho j
 some_ mk b := fun ⟨j, c, h1, h2, _⟩ => ⟨j, c, h1, h2⟩
 own mk Z w b := by
  rintro h ⟨j, c, h1, _, h3⟩
  rcases (h.own h3 h1).2 with ⟨_, _, _, h⟩ | ⟨_, _, h⟩ <;> exact ⟨_, h, rfl⟩
 keep mk Z Z' w w' := by
  rintro ⟨h0, b0, es, clock, h1, h2, h3, h4, h5, h6, h7, h8, h9⟩ hZ hw
  obtain ⟨hw0, hz0⟩ := hw b0 ⟨0, 1, h1, by omega, .inl rfl⟩
  refine ⟨h0, b0, es, clock, h1, hw0.trans h2, h3, h4, h5, fun a x ha e => h6 a x (hz0 a x ha e) e, fun i p hi => ?_, h8, h9⟩
  obtain ⟨en, g1, g2, g3⟩ := h7 i p hi
  exact ⟨en, g1, g2.up hZ (fun f e => by cases e), fun hne => (g3 hne).keep hZ fun b c hb hc => hw b ⟨_, c, hb, hc, .inr ⟨i, p, hi, hne, rfl⟩⟩⟩
def gone : GObj where
 holds _ _ _ := True
 blks _ _ := False
 some_ _ _ h := h.elim
 own _ _ _ _ _ h := h.elim
 keep _ _ _ _ _ h _ _ := h
section
variable {m : M} {Z : ZM} {w w' : World}
theorem Step.mroOut {k d e sz i b cap : Nat} {l : List (V × List (List V))} {els : List (List V)} (hs : SimH m Z [(k, .gen (mro e sz l none))] w) (hfr : ∀ L, m d L = none) (hne : d ≠ k)
  (hc : (els = [] ∧ l.length ≤ i ∧ cap = 0) ∨ ∃ a, l[i]? = some (a, els) ∧ 0 < els.length ∧ m k (code i els.length) = some (b, cap)) :
  ∃ m', Step m Z [(k, .gen (mro e sz l none))] w m' Z [(k, .gen (mro e sz l (some i))), (d, .row e sz 0 els)] w ∧ m' d els.length = some (b, cap) := by
 let m' : M := fun k' L => if k' = d ∧ L = els.length then some (b, cap) else m k' L
 have e1 : m' d els.length = some (b, cap) := by simp [m']
 have e2 : m' k = m k := by funext L; simp [m', Ne.symm hne]
 have e3 : ∀ k' L loc, m k' L = some loc → m' k' L = some loc := fun k' L loc h => by
  by_cases hk : k' = d
  ·subst hk; rw [hfr] at h; cases h
  ·simp [m', hk, h]
 have e4 : ∀ L loc, m' d L = some loc → L = els.length ∧ loc = (b, cap) := fun L loc h => by
  simp only [m', true_and] at h
  split at h
  ·rename_i hL; exact ⟨hL, (Option.some.inj h).symm⟩
  ·rw [hfr] at h; cases h
 have hh : mroH e sz l none (m k) Z w := hs.holds _ (List.mem_singleton.2 rfl)
 have hown : ∀ j, ownR l (some i) j → ownR l none j := fun j h => h.imp_right fun ⟨i', p, h1, _, h3⟩ => ⟨i', p, h1, by simp, h3⟩
 obtain ⟨h0, b0, es, clock, h1, h2, h3, h4, h5, h6, h7, h8, h9⟩ := hh
 have hrow : cap ≠ 0 → ownR l none (code i els.length) ∧ m k (code i els.length) = some (b, cap) := fun h => by
  rcases hc with ⟨_, _, h'⟩ | ⟨a, g1, g2, g3⟩
  ·exact absurd h' h
  ·exact ⟨.inr ⟨i, _, g1, by simp, rfl⟩, g3⟩
 have hblkd : ∀ b', blk m' (d, .row e sz 0 els) b' → b' = b ∧ cap ≠ 0 := fun b' h => by
  have h : blk1 m' (d, .row e sz 0 els) = some b' := h
  unfold blk1 at h
  simp only [Obj.ver, e1, Option.bind_some] at h
  split at h
  ·cases h
  ·rename_i hh; cases h; exact ⟨rfl, hh⟩
 have hapart : ∀ b', blk m' (k, .gen (mro e sz l (some i))) b' → blk m' (d, .row e sz 0 els) b' → False := fun b' q1 q2 => by
  obtain ⟨j, c, g1, g2, g3⟩ := q1
  rw [e2] at g1
  obtain ⟨rfl, hcap⟩ := hblkd _ q2
  obtain ⟨o1, o2⟩ := hrow hcap
  have hj := h8 _ _ _ _ _ g1 o2 (hown _ g3) o1
  rcases g3 with g3 | ⟨i', p, g4, g5, g6⟩
  ·have := code_pos i els.length; omega
  ·rw [g6] at hj
   exact g5 (by rw [(code_inj hj).1])
 refine ⟨m', ⟨⟨hs.frozen, fun p hp => ?_, ?_, fun p hp q hq b' q1 q2 => ?_⟩, e3, fun _ _ e => e, rfl, rfl, rfl, Nat.le_refl _, fun _ _ _ => rfl, fun x hx => ?_, fun x hx => ?_, fun p hp b' hb => ?_, fun a x ha => .inl ha⟩, e1⟩
 ·rcases List.mem_cons.1 hp with rfl | hp
  ·show mroH e sz l (some i) (m' k) Z w
   rw [e2]
   refine ⟨h0, b0, es, clock, h1, h2, h3, h4, h5, h6, fun i' p hi => ?_, fun j1 j2 c1 c2 g q1 q2 q3 q4 => h8 j1 j2 c1 c2 g q1 q2 (hown _ q3) (hown _ q4), h9⟩
   obtain ⟨en, g1, g2, g3⟩ := h7 i' p hi
   exact ⟨en, g1, g2, fun _ => g3 (by simp)⟩
  ·rw [List.mem_singleton.1 hp]
   rcases hc with ⟨rfl, _, rfl⟩ | ⟨a, g1, g2, g3⟩
   ·exact .inl ⟨h0, rfl, rfl, ⟨b, e1⟩, fun L loc h => by rw [(e4 L loc h).1]; simp⟩
   ·obtain ⟨en, _, _, hE⟩ := h7 i _ g1
    obtain ⟨b', cap', cur, fr, q1, q2, q3, q4, q5, q6, q7, q8, q9, q10, q11⟩ := hE (by simp)
    rw [g3] at q2; cases q2
    exact .inr ⟨b, cap, cur, fr, e1, by omega, q4, q6, q7, q8, h0, q9, q10, by omega, Nat.zero_le _, fun a x ha e => absurd e (q11 a x ha), fun L loc h => by rw [(e4 L loc h).1]; exact Nat.le_refl _, fun off x ho => by omega⟩
 ·simp [keys]; exact Ne.symm hne
 ·rcases List.mem_cons.1 hp with rfl | hp <;> rcases List.mem_cons.1 hq with rfl | hq
  ·rfl
  ·rw [List.mem_singleton.1 hq] at q2; exact (hapart _ q1 q2).elim
  ·rw [List.mem_singleton.1 hp] at q1; exact (hapart _ q2 q1).elim
  ·rw [List.mem_singleton.1 hp, List.mem_singleton.1 hq]
 ·have : x = k := by simpa [keys] using hx
  subst this; simp [keys]
 ·have : x ≠ d := fun h => hx (by subst h; simp [keys])
  funext L; simp [m', this]
 ·refine .inr ⟨_, List.mem_singleton.2 rfl, ?_⟩
  rcases List.mem_cons.1 hp with rfl | hp
  ·obtain ⟨j, c, g1, g2, g3⟩ := hb
   rw [e2] at g1
   exact ⟨j, c, g1, g2, hown _ g3⟩
  ·rw [List.mem_singleton.1 hp] at hb
   obtain ⟨rfl, hcap⟩ := hblkd _ hb
   obtain ⟨o1, o2⟩ := hrow hcap
   exact ⟨_, cap, o2, hcap, o1⟩
theorem Step.mroIn {k d e sz i b cap b0 clock' : Nat} {l l' : List (V × List (List V))} {a : V} {els : List (List V)} {es' : Array MapEntry} {en0 : MapEntry} (hs : SimH m Z [(k, .gen (mro e sz l (some i))), (d, .row e sz 0 els)] w) (hil : i ≤ l.length)
  (hl' : ∀ j, l'[j]? = if j = i then some (a, els) else l[j]?) (hlt : ∀ p, l[i]? = some p → p.2.length < els.length) (h0' : 0 < els.length) (hrow : m d els.length = some (b, cap)) (hb0 : m k 0 = some (b0, 1))
  (hw' : w'.heap = w.heap.setIfInBounds b0 (.map es' clock')) (o1 : w'.os = w.os) (o2 : w'.tape = w.tape) (o3 : w'.output = w.output)
  (hes : es'.size = l'.length) (hord : es'.toList.Pairwise fun x y => x.born < y.born) (hcl : ∀ x ∈ es'.toList, x.born < clock') (hi : es'[i]? = some en0) (hk0 : Rep none Z a en0.key) (hv0 : en0.val = .slice (some ⟨b, 0, none⟩) els.length cap)
  (hoth : ∀ es clock, w.heap[b0]? = some (.map es clock) → es.size = l.length → ∀ j, j ≠ i → j < l.length → es'[j]? = es[j]?) :
  ∃ m', Step m Z [(k, .gen (mro e sz l (some i))), (d, .row e sz 0 els)] w m' Z [(k, .gen (mro e sz l' none)), (d, .gen gone)] w' := by
 let m' : M := fun k' L => if k' = k ∧ L = code i els.length then some (b, cap) else m k' L
 have hne : k ≠ d := by have := hs.nodup; simp [keys] at this; exact this
 have hh : mroH e sz l (some i) (m k) Z w := hs.holds _ (List.mem_cons_self ..)
 have hr : Holds m Z w d (.row e sz 0 els) := hs.holds _ (List.mem_cons_of_mem _ (List.mem_singleton.2 rfl))
 have hh2 := hh
 obtain ⟨h0, b0', es, clock, h1, h2, h3, h4, h5, h6, h7, h8, h9⟩ := hh
 rw [hb0] at h1; cases h1
 obtain ⟨_, r1, _⟩ | ⟨rb, rcap, cur, fr, r1, r2, r3, r4, r5, r6, r7, r8, r9, r10, r11, r12, r13, r14⟩ := hr
 ·subst r1; simp at h0'
 rw [hrow] at r1; cases r1
 have e1 : m' k (code i els.length) = some (b, cap) := by simp [m']
 have hfresh : m k (code i els.length) = none := by
  cases hq : m k (code i els.length) with
  | none => rfl
  | some loc =>
   exfalso
   rcases h9 _ _ hq with h | ⟨i', n, p, g1, g2, g3⟩
   ·have := code_pos i els.length; omega
   ·obtain ⟨rfl, rfl⟩ := code_inj g3
    have := hlt p g1; omega
 have e3 : ∀ k' L loc, m k' L = some loc → m' k' L = some loc := fun k' L loc h => by
  by_cases hk : k' = k ∧ L = code i els.length
  ·obtain ⟨rfl, rfl⟩ := hk; rw [hfresh] at h; cases h
  ·simp only [m', if_neg hk]; exact h
 have e4 : ∀ L loc, m' k L = some loc → (L = code i els.length ∧ loc = (b, cap)) ∨ m k L = some loc := fun L loc h => by
  simp only [m', true_and] at h
  split at h
  ·rename_i hL; exact .inl ⟨hL, (Option.some.inj h).symm⟩
  ·exact .inr h
 have e5 : m' d = m d := by funext L; simp [m', Ne.symm hne]
 have hbd : blk m (d, .row e sz 0 els) b := by
  have : cap ≠ 0 := by omega
  simp [blk, blk1, Obj.ver, hrow, this]
 have hb0k : blk m (k, .gen (mro e sz l (some i))) b0 := ⟨0, 1, hb0, by omega, .inl rfl⟩
 have hheap : ∀ j, j ≠ b0 → w'.heap[j]? = w.heap[j]? := fun j hj => by rw [hw']; simp [Array.getElem?_setIfInBounds_ne (Ne.symm hj)]
 have hcells : ∀ (b' : Nat) (cur' : Array Value) (fr' : Nat × Nat), w.heap[b']? = some (.cells cur' e fr') → w'.heap[b']? = some (.cells cur' e fr') := fun b' cur' fr' h => by
  rw [hheap b' fun hb => by subst hb; rw [h2] at h; cases h]; exact h
 have hb0l : b0 < w.heap.size := (Array.getElem?_eq_some_iff.1 h2).1
 have hold : ∀ j, ownR l' none j → j = code i els.length ∨ ownR l (some i) j := fun j h => by
  rcases h with rfl | ⟨i', p, g1, _, rfl⟩
  ·exact .inr (.inl rfl)
  ·rw [hl'] at g1
   split at g1
   ·rename_i hi'; cases g1; subst hi'; exact .inl rfl
   ·rename_i hi'; exact .inr (.inr ⟨i', p, g1, by simpa using Ne.symm hi', rfl⟩)
 have hnot : ¬ ownR l (some i) (code i els.length) := fun h => by
  rcases h with h | ⟨i', p, g1, g2, g3⟩
  ·have := code_pos i els.length; omega
  ·exact g2 (by rw [(code_inj g3).1])
 have hdis : ∀ j c, ownR l (some i) j → m k j = some (b, c) → False := fun j c g1 g2 => by
  have := hs.disj (k, .gen (mro e sz l (some i))) (List.mem_cons_self ..) (d, .row e sz 0 els) (List.mem_cons_of_mem _ (List.mem_singleton.2 rfl)) b ⟨j, c, g2, (hh2.own g1 g2).1, g1⟩ hbd
  exact hne this
 have hblk : ∀ b', blk m' (k, .gen (mro e sz l' none)) b' → b' = b ∨ blk m (k, .gen (mro e sz l (some i))) b' := fun b' h => by
  obtain ⟨j, c, g1, g2, g3⟩ := h
  rcases hold j g3 with rfl | h'
  ·rw [e1] at g1; cases g1; exact .inl rfl
  ·rcases e4 j _ g1 with ⟨q1, _⟩ | q1
   ·rw [q1] at h'; exact absurd h' hnot
   ·exact .inr ⟨j, c, q1, g2, h'⟩
 refine ⟨m', ⟨⟨fun a x ha => ?_, fun p hp => ?_, by simpa [keys] using hne, fun p hp q hq b' q1 q2 => ?_⟩, e3, fun _ _ e => e, o1, o2, o3, by rw [hw']; simp, fun j hj hn => hheap j fun hb => hn _ (List.mem_cons_self ..) (by rw [hb]; exact hb0k), fun x hx => hx, fun x hx => ?_, fun p hp b' hb => ?_, fun a x ha => .inl ha⟩⟩
 ·rw [cell_same (hheap _ (h6 a x ha))]; exact hs.frozen a x ha
 ·rcases List.mem_cons.1 hp with rfl | hp
  ·refine ⟨h0, b0, es', clock', e3 _ _ _ hb0, by rw [hw']; simp [hb0l], hes, hord, hcl, h6, fun i' p hi' => ?_, fun j1 j2 c1 c2 g q1 q2 q3 q4 => ?_, fun L loc h => ?_⟩
   ·rw [hl'] at hi'
    split at hi'
    ·rename_i hii; subst hii; cases hi'
     exact ⟨en0, hi, hk0, fun _ => ⟨b, cap, cur, fr, hv0, e1, h0', hcells _ _ _ r3, by omega, r4, r5, r6, r8, r9, fun a x ha e => by have := r12 a x ha e; omega⟩⟩
    ·rename_i hii
     obtain ⟨en, g1, g2, g3⟩ := h7 i' p hi'
     have hlen : i' < l.length := (List.getElem?_eq_some_iff.1 hi').1
     refine ⟨en, by rw [hoth es clock h2 h3 i' hii hlen]; exact g1, g2, fun _ => ?_⟩
     obtain ⟨b', cap', cur', fr', q1, q2, q3, q4, q5⟩ := g3 (by simpa using Ne.symm hii)
     exact ⟨b', cap', cur', fr', q1, e3 _ _ _ q2, q3, hcells _ _ _ q4, q5⟩
   ·rcases hold j1 q3 with rfl | o3 <;> rcases hold j2 q4 with rfl | o4
    ·rfl
    ·rw [e1] at q1; cases q1
     rcases e4 _ _ q2 with ⟨q5, _⟩ | q5
     ·exact q5.symm
     ·exact (hdis _ _ o4 q5).elim
    ·rw [e1] at q2; cases q2
     rcases e4 _ _ q1 with ⟨q5, _⟩ | q5
     ·exact q5
     ·exact (hdis _ _ o3 q5).elim
    ·rcases e4 _ _ q1 with ⟨q5, _⟩ | q5
     ·rw [q5] at o3; exact absurd o3 hnot
     ·rcases e4 _ _ q2 with ⟨q6, _⟩ | q6
      ·rw [q6] at o4; exact absurd o4 hnot
      ·exact h8 _ _ _ _ _ q5 q6 o3 o4
   ·rcases e4 _ _ h with ⟨rfl, _⟩ | h
    ·exact .inr ⟨i, els.length, (a, els), by rw [hl', if_pos rfl], Nat.le_refl _, rfl⟩
    ·rcases h9 _ _ h with h | ⟨i', n, p, g1, g2, g3⟩
     ·exact .inl h
     ·by_cases hii : i' = i
      ·subst hii
       exact .inr ⟨i', n, (a, els), by rw [hl', if_pos rfl], by have := hlt p g1; dsimp only; omega, g3⟩
      ·exact .inr ⟨i', n, p, by rw [hl', if_neg hii]; exact g1, g2, g3⟩
  ·rw [List.mem_singleton.1 hp]; trivial
 ·rcases List.mem_cons.1 hp with rfl | hp <;> rcases List.mem_cons.1 hq with rfl | hq
  ·rfl
  ·rw [List.mem_singleton.1 hq] at q2; exact q2.elim
  ·rw [List.mem_singleton.1 hp] at q1; exact q1.elim
  ·rw [List.mem_singleton.1 hp, List.mem_singleton.1 hq]
 ·have : x ≠ k := fun h => hx (by subst h; simp [keys])
  funext L; simp [m', this]
 ·rcases List.mem_cons.1 hp with rfl | hp
  ·rcases hblk b' hb with rfl | h
   ·exact .inr ⟨_, List.mem_cons_of_mem _ (List.mem_singleton.2 rfl), hbd⟩
   ·exact .inr ⟨_, List.mem_cons_self .., h⟩
  ·rw [List.mem_singleton.1 hp] at hb; exact hb.elim
end
def encR {α β : Type} (f : α → V) (G : List β → List (List V)) (l : List (α × List β)) : List (V × List (List V)) := l.map fun p => (f p.1, G p.2)
theorem encR_get {α β : Type} (f : α → V) (G : List β → List (List V)) (l : List (α × List β)) (i : Nat) : (encR f G l)[i]? = (l[i]?).map fun p => (f p.1, G p.2) := List.getElem?_map
theorem encR_len {α β : Type} (f : α → V) (G : List β → List (List V)) (l : List (α × List β)) : (encR f G l).length = l.length := List.length_map ..
section
variable {P : Program} {ρ : Env} {dst : Option Tmp} {ty : TypeId} {pos : String} {aft : Array Edge} {gd : Option (Nat × Bool)} {α β : Type} [DecidableEq α]
theorem mro_keys {e sz : Nat} {l : List (α × List β)} {ho : Option Nat} {mk : Nat → Option (Nat × Nat)} {Z : ZM} {w : World} {f : α → V} {val : α → Value} {G : List β → List (List V)} (hd : ∀ m Z a x, Rep m Z (f a) x → x = val a) {es : Array MapEntry}
  (h3 : es.size = (encR f G l).length) (h7 : ∀ i p, (encR f G l)[i]? = some p → ∃ en, es[i]? = some en ∧ Rep none Z p.1 en.key ∧ (ho ≠ some i → EntR mk Z w e sz i p.2 en.val)) : es.toList.map (·.key) = (l.map (·.1)).map val := by
 refine List.ext_getElem? fun i => ?_
 rw [List.getElem?_map, List.getElem?_map, List.getElem?_map, Array.getElem?_toList]
 cases hl : l[i]? with
 | none =>
  have h1 := List.getElem?_eq_none_iff.1 hl
  rw [Array.getElem?_eq_none (by rw [h3, encR_len]; exact h1)]; rfl
 | some p =>
  obtain ⟨en, g1, g2, _⟩ := h7 i (f p.1, G p.2) (by rw [encR_get, hl]; rfl)
  rw [g1]
  exact congrArg some (hd _ _ _ _ g2)
theorem loc_lookupR {f : α → V} {val : α → Value} {G : List β → List (List V)} {t kt et k d e sz n : Nat} {x ix : Operand} {l : List (α × List β)} {a : α} (hT : mapT P t = some (kt, et)) (K : KeyOK P kt f val) (hz : zero1 P et = some .nils) (hx : evV ρ x = .mp k) (hi : evV ρ ix = f a)
  (hG : G [] = []) (hdk : Nat.beq d k = false) (hn : (G ((mfind a l).getD [])).length = n) :
  Loc P ⟨dst, .lookup t x ix false, ty, pos, aft, gd⟩ ρ [(k, .gen (mro e sz (encR f G l) none))] (.sl sz d n 0 n) [(k, .gen (mro e sz (encR f G l) (some (mix a l)))), (d, .row e sz 0 (G ((mfind a l).getD [])))] := by
 subst hn
 intro ρr m Z w hops hs hfr
 have hne : d ≠ k := fun h => by rw [h, Nat.beq_refl] at hdk; cases hdk
 have hfr' : ∀ L, m d L = none := hfr d (by simp [keys]) (by simp [keys]; exact hne)
 have hX := hops x (by simp [Op.operands])
 have hI := K.det _ _ _ _ (hi ▸ hops ix (by simp [Op.operands]))
 rw [hx] at hX
 obtain ⟨m1, loc, e1, e2, hX⟩ := hX
 cases e1
 have hh : mroH e sz (encR f G l) none (m k) Z w := hs.holds _ (List.mem_singleton.2 rfl)
 obtain ⟨h0, b0, es, clock, h1, h2, h3, h4, h5, h6, h7, h8, h9⟩ := hh
 rw [h1] at e2; cases e2
 have hkeys := mro_keys K.det h3 h7
 have hfind := K.find a es.toList _ w hkeys
 rw [findP_mix a l es.toList 0 (by simpa [encR_len] using h3)] at hfind
 obtain ⟨zz, hz1, hz2⟩ := zero1_of (m := some m) (Z := Z) (w := w) hz
 have hc := K.check es.isEmpty a w
 have hu := mapT_of hT
 rcases mix_find a l with ⟨q, g1, g2⟩ | ⟨g1, g2⟩
 ·obtain ⟨en, q1, q2, q3⟩ := h7 (mix a l) (f a, G q) (by rw [encR_get, g2]; rfl)
  obtain ⟨b, cap, cur, fr, r1, r2, r3, r4, r5, r6, r7, r8⟩ := q3 (by simp)
  obtain ⟨m', hst, hm'⟩ := Step.mroOut (d := d) (i := mix a l) (b := b) (cap := cap) (els := G q) hs hfr' hne (.inr ⟨f a, by rw [encR_get, g2]; rfl, r3, r2⟩)
  have hrun : (Instr.lookup t (.map (some b0)) (val a) false).run P w = .ok en.val w := by
   have q1' : es.toList[mix a l]? = some en := by rw [Array.getElem?_toList]; exact q1
   rw [q1', Option.map_some] at hfind
   simp [Instr.lookup, run_underlying hu, MapKept.run_getObj_map h2, hc, hfind]
  rw [g1, Option.getD_some]
  refine ⟨rfl, .inl ⟨_, w, by simp only [execOp, hX, hI, Sem.run_bind, hrun, Result.andThen_ok, Sem.run_pure]; rfl, m', Z, hst, m', _, rfl, hm', by dsimp only at r6 ⊢; omega, r7, .inl ?_⟩⟩
  dsimp only at r1
  rw [r1]; simp
 ·obtain ⟨m', hst, hm'⟩ := Step.mroOut (d := d) (i := mix a l) (b := 0) (cap := 0) (els := []) hs hfr' hne (.inl ⟨rfl, by rw [encR_len, g1]; exact Nat.le_refl _, rfl⟩)
  have hrun : (Instr.lookup t (.map (some b0)) (val a) false).run P w = .ok zz w := by
   have q1' : es.toList[mix a l]? = none := List.getElem?_eq_none (by rw [Array.length_toList, h3, encR_len, g1]; exact Nat.le_refl _)
   rw [q1', Option.map_none] at hfind
   simp [Instr.lookup, run_underlying hu, MapKept.run_getObj_map h2, hc, hfind, hz1]
  rw [g2, Option.getD_none, hG]
  have hz2 : zz = .slice none 0 0 := hz2
  subst hz2
  exact ⟨rfl, .inl ⟨_, w, by simp only [execOp, hX, hI, Sem.run_bind, hrun, Result.andThen_ok, Sem.run_pure], m', Z, hst, m', _, rfl, hm', Nat.le_refl _, Nat.zero_le _, .inr (.inl ⟨rfl, none, rfl⟩)⟩⟩
theorem loc_mapUpdateR {f : α → V} {val : α → Value} {G : List β → List (List V)} {t kt et k d e sz n : Nat} {x ix y : Operand} {l : List (α × List β)} {a : α} {els : List β} (hT : mapT P t = some (kt, et)) (K : KeyOK P kt f val) (hx : evV ρ x = .mp k) (hi : evV ρ ix = f a) (hra : (f a).refs = [])
  (hy : evV ρ y = .sl sz d n 0 n) (hn : (G els).length = n) (hG : ∀ q, (G q).length = q.length) (hlt : ((mfind a l).getD []).length < els.length) :
  Loc P ⟨dst, .mapUpdate t x ix y, ty, pos, aft, gd⟩ ρ [(k, .gen (mro e sz (encR f G l) (some (mix a l)))), (d, .row e sz 0 (G els))] .no [(k, .gen (mro e sz (encR f G (mset a els l)) none)), (d, .gen gone)] := by
 subst hn
 intro ρr m Z w hops hs _
 have hX := hops x (by simp [Op.operands])
 have hI0 := hops ix (by simp [Op.operands])
 have hY := hops y (by simp [Op.operands])
 have hI := K.det _ _ _ _ (hi ▸ hI0)
 rw [hx] at hX
 rw [hy] at hY
 obtain ⟨m1, loc, e1, e2, hX⟩ := hX
 cases e1
 have hh : mroH e sz (encR f G l) (some (mix a l)) (m k) Z w := hs.holds _ (List.mem_cons_self ..)
 obtain ⟨h0, b0, es, clock, h1, h2, h3, h4, h5, h6, h7, h8, h9⟩ := hh
 rw [h1] at e2; cases e2
 obtain ⟨m1, loc, e1, e2, y1, y2, y3⟩ := hY
 cases e1
 have h0' : 0 < (G els).length := by rw [hG]; omega
 have hY : ev ρr y = .slice (some ⟨loc.1, 0, none⟩) (G els).length loc.2 := by
  rcases y3 with y3 | ⟨y3, _⟩ | ⟨y3, _⟩
  ·simpa using y3
  ·omega
  ·omega
 have hkeys := mro_keys K.det h3 h7
 have hfind := K.find a es.toList _ w hkeys
 have h3' : es.toList.length = l.length := by simpa [encR_len] using h3
 rw [findP_mix a l es.toList 0 h3'] at hfind
 have hc := K.check false a w
 have hu := mapT_of hT
 have hl' : ∀ j, (encR f G (mset a els l))[j]? = if j = mix a l then some (f a, G els) else (encR f G l)[j]? := fun j => by
  rw [encR_get, mset_get, encR_get]
  split <;> rfl
 have hka : Rep none Z (f a) (val a) := K.rep _ _ _
 have key : ∃ es' clock' en0, (Instr.mapUpdate t (.map (some b0)) (val a) (ev ρr y)).run P w = .ok () { w with heap := w.heap.setIfInBounds b0 (.map es' clock') } ∧ es'.size = (encR f G (mset a els l)).length ∧ (es'.toList.Pairwise fun x y => x.born < y.born) ∧ (∀ e ∈ es'.toList, e.born < clock') ∧
   es'[mix a l]? = some en0 ∧ en0.key = val a ∧ en0.val = ev ρr y ∧ ∀ j, j ≠ mix a l → j < l.length → es'[j]? = es[j]? := by
  rcases mix_find a l with ⟨q, g1, g2⟩ | ⟨g1, g2⟩
  ·have hlen : mix a l < l.length := (List.getElem?_eq_some_iff.1 g2).1
   have hml : (mset a els l).length = l.length := by
    refine Nat.le_antisymm ?_ ?_
    ·refine Nat.le_of_not_lt fun hlt' => ?_
     have := mset_get a els l l.length
     rw [if_neg (by omega), List.getElem?_eq_none (l := l) (Nat.le_refl _)] at this
     have := List.getElem?_eq_none_iff.1 this; omega
    ·refine Nat.le_of_not_lt fun hlt' => ?_
     have h := mset_get a els l (mset a els l).length
     rw [List.getElem?_eq_none (Nat.le_refl _)] at h
     split at h
     ·cases h
     ·have := List.getElem?_eq_none_iff.1 h.symm; omega
   obtain ⟨en, q1, q2, _⟩ := h7 (mix a l) (f a, G q) (by rw [encR_get, g2]; rfl)
   have q1' : es.toList[mix a l]? = some en := by rw [Array.getElem?_toList]; exact q1
   have q3 : en.key = val a := K.det _ _ _ _ q2
   rw [q1', Option.map_some] at hfind
   have hmem : ∀ e ∈ (es.toList.modify (mix a l) fun e => { e with key := val a, val := ev ρr y }), ∃ e0 ∈ es.toList, e.born = e0.born := fun e he => by
    obtain ⟨i, hi, rfl⟩ := List.getElem_of_mem he
    rw [List.getElem_modify]
    simp only [List.length_modify] at hi
    refine ⟨es.toList[i], List.getElem_mem _, ?_⟩
    split <;> rfl
   refine ⟨es.modify (mix a l) fun e => { e with key := val a, val := ev ρr y }, clock, { en with key := val a, val := ev ρr y }, ?_, by rw [Array.size_modify, h3, encR_len, encR_len, hml], ?_, ?_, ?_, rfl, rfl, fun j hj _ => ?_⟩
   ·simp [Instr.mapUpdate, run_underlying hu, MapKept.run_getObj_map h2, hc, hfind, Instr.keyThatStays, q1, q3, K.bits, MapKept.run_setObj_map _ h2]
   ·rw [Array.toList_modify, List.pairwise_iff_getElem]
    intro i j' hi hj hij
    rw [List.getElem_modify, List.getElem_modify]
    simp only [List.length_modify] at hi hj
    have := List.pairwise_iff_getElem.1 h4 i j' hi hj hij
    split <;> split <;> exact this
   ·rw [Array.toList_modify]
    intro e he
    obtain ⟨e0, h3, h4⟩ := hmem e he
    rw [h4]; exact h5 e0 h3
   ·rw [← Array.getElem?_toList, Array.toList_modify, List.getElem?_modify, q1']; simp
   ·rw [← Array.getElem?_toList, Array.toList_modify, List.getElem?_modify]; simp [Ne.symm hj]
  ·have q1' : es.toList[mix a l]? = none := List.getElem?_eq_none (by rw [h3', g1]; exact Nat.le_refl _)
   rw [q1', Option.map_none] at hfind
   have hml : (mset a els l).length = l.length + 1 := by
    refine Nat.le_antisymm ?_ ?_
    ·refine Nat.le_of_not_lt fun hlt' => ?_
     have := mset_get a els l (l.length + 1)
     rw [if_neg (by omega), List.getElem?_eq_none (l := l) (by omega)] at this
     have := List.getElem?_eq_none_iff.1 this; omega
    ·refine Nat.le_of_not_lt fun hlt' => ?_
     have h := mset_get a els l l.length
     rw [if_pos g1.symm, List.getElem?_eq_none (by omega)] at h
     cases h
   have hsz : es.size = l.length := by rw [h3, encR_len]
   refine ⟨es.push { key := val a, val := ev ρr y, born := clock }, clock + 1, { key := val a, val := ev ρr y, born := clock }, by simp [Instr.mapUpdate, run_underlying hu, MapKept.run_getObj_map h2, hc, hfind, MapKept.run_setObj_map _ h2], by rw [Array.size_push, hsz, encR_len, hml], ?_, ?_, ?_, rfl, rfl, fun j _ hj => ?_⟩
   ·rw [Array.toList_push, List.pairwise_append]
    exact ⟨h4, by simp, fun p hp q hq => by simp at hq; subst hq; exact h5 p hp⟩
   ·rw [Array.toList_push]
    intro e he
    rcases List.mem_append.1 he with he | he
    ·have := h5 e he; omega
    ·simp at he; subst he; simp
   ·rw [g1, ← hsz]; simp
   ·rw [Array.getElem?_push, if_neg (by omega)]
 obtain ⟨es', clock', en0, hrun, k1, k2, k3, k4, k5, k6, k7⟩ := key
 have hmle : mix a l ≤ (encR f G l).length := by
  rw [encR_len]
  rcases mix_find a l with ⟨q, _, g2⟩ | ⟨g1, _⟩
  ·exact Nat.le_of_lt (List.getElem?_eq_some_iff.1 g2).1
  ·rw [g1]; exact Nat.le_refl _
 obtain ⟨m', hst⟩ := Step.mroIn (w' := { w with heap := w.heap.setIfInBounds b0 (.map es' clock') }) (l' := encR f G (mset a els l)) (a := f a) (b := loc.1) (cap := loc.2) (b0 := b0) (es' := es') (clock' := clock') (en0 := en0) hs hmle hl' (fun p hp => by
   rw [encR_get] at hp
   obtain ⟨q, hq, rfl⟩ := Option.map_eq_some_iff.1 hp
   rcases mix_find a l with ⟨q', g1, g2⟩ | ⟨g1, _⟩
   ·rw [g2] at hq; cases hq
    rw [g1, Option.getD_some] at hlt
    dsimp only
    rw [hG, hG]; exact hlt
   ·rw [g1, List.getElem?_eq_none (Nat.le_refl _)] at hq; cases hq) h0' e2 h1 rfl rfl rfl rfl k1 k2 k3 k4 (by rw [k5]; exact hka) (by rw [k6]; exact hY) (fun es2 clock2 hes2 _ j hj hjl => by
   rw [h2] at hes2; cases hes2
   exact k7 j hj (by rwa [encR_len] at hjl))
 exact ⟨rfl, .inr (.inl ⟨_, by simp only [execOp, hX, hI, Sem.run_bind, hrun, Result.andThen_ok, Sem.run_pure], m', Z, hst, rfl⟩)⟩
end
section
variable {m : M} {Z : ZM} {w : World} {K0 : List Nat} {ρ : Env} {H : Heap}
theorem RepE.of_get {Z : ZM} : ∀ {l : List (V × V)} {es : List MapEntry}, es.length = l.length → (∀ (i : Nat) (p : V × V), l[i]? = some p → ∃ en : MapEntry, es[i]? = some en ∧ Rep none Z p.1 en.key ∧ Rep none Z p.2 en.val) → RepE Z l es
 | [], es, h, _ => List.length_eq_zero_iff.1 (by simpa using h)
 | p :: l, [], h, _ => by simp at h
 | p :: l, e :: es, h, hg => by
  obtain ⟨en, h1, h2, h3⟩ := hg 0 p rfl
  cases h1
  exact ⟨e, es, rfl, h2, h3, RepE.of_get (by simpa using h) fun i q hq => hg (i + 1) q hq⟩
end
section
variable {P : Program} {ρ : Env} {dst : Option Tmp} {ty : TypeId} {pos : String} {aft : Array Edge} {gd : Option (Nat × Bool)}
theorem loc_makeMapR {t d : Nat} (e sz : Nat) (h0 : Nat.ble 1 sz = true) : Loc P ⟨dst, .makeMap t none, ty, pos, aft, gd⟩ ρ [] (.mp d) [(d, .gen (mro e sz [] none))] := by
 intro ρr m Z w hops hs hfr
 obtain ⟨m', h2, h3⟩ := Step.new (m := m) (Z := Z) (w := w) (k := d) (o := .gen (mro e sz [] none)) (.map #[] 0) 1 hs.frozen (fun L => hfr d (by simp [keys]) (by simp [keys]) L) fun m' g1 g2 g3 => by
  refine ⟨Nat.le_of_ble_eq_true h0, w.heap.size, #[], 0, g1, World.alloc_heap_new w _, rfl, by simp, by simp, fun a x ha e => by (have := frozen_lt hs.frozen ha; omega), fun i p hi => by simp at hi, fun j1 j2 c1 c2 g q1 q2 _ _ => by rw [g2 _ _ q1, g2 _ _ q2], fun L loc q => .inl (g2 L loc q)⟩
 exact ⟨rfl, .inl ⟨.map (some w.heap.size), w.alloc (.map #[] 0), by simp [execOp, Instr.makeMap, newObj]; rfl, m', Z, h2, m', _, rfl, h3, rfl⟩⟩
end
section
variable {m : M} {Z : ZM} {w : World} {K0 : List Nat} {ρ : Env} {H : Heap}
def dataR (sz : Nat) (l : List (V × List (List V))) : List (V × V) := l.map fun p => (p.1, V.vs sz p.2)
def entB (l : List (V × List (List V))) (mk : Nat → Option (Nat × Nat)) (b : Nat) : Prop := ∃ i p c, l[i]? = some p ∧ mk (code i p.2.length) = some (b, c) ∧ c ≠ 0
open Classical in
noncomputable def zkillR (mk : Nat → Option (Nat × Nat)) (l : List (V × List (List V))) (Z : ZM) (w : World) : ZM := fun a => if a.spot = none ∧ entB l mk a.block then w.cell? a else Z a
theorem Step.killR {k e sz : Nat} {l : List (V × List (List V))} (hs : SimH m Z [(k, .gen (mro e sz l none))] w) : Step m Z [(k, .gen (mro e sz l none))] w m (zkillR (m k) l Z w) [(k, .map (dataR sz l))] w := by
 have hh : mroH e sz l none (m k) Z w := hs.holds _ (List.mem_singleton.2 rfl)
 have hh2 := hh
 obtain ⟨h0, b0, es, clock, h1, h2, h3, h4, h5, h6, h7, h8, h9⟩ := hh
 have hzu : ∀ a x, Z a = some x → zkillR (m k) l Z w a = some x := fun a x ha => by
  unfold zkillR
  split
  ·exact hs.frozen a x ha
  ·exact ha
 have hzo : ∀ a x, zkillR (m k) l Z w a = some x → Z a = some x ∨ entB l (m k) a.block := fun a x ha => by
  unfold zkillR at ha
  split at ha
  ·rename_i h; exact .inr h.2
  ·exact .inl ha
 have hent : ∀ b, entB l (m k) b → blk m (k, .gen (mro e sz l none)) b ∧ b ≠ b0 := fun b ⟨i, p, c, g1, g2, g3⟩ => by
  have ho : ownR l none (code i p.2.length) := .inr ⟨i, p, g1, by simp, rfl⟩
  refine ⟨⟨_, c, g2, g3, ho⟩, fun hb => ?_⟩
  subst hb
  rcases (hh2.own ho g2).2 with ⟨h, _⟩ | ⟨cur, fr, h⟩
  ·have := code_pos i p.2.length; omega
  ·rw [h2] at h; cases h
 have hb0 : blk m (k, .gen (mro e sz l none)) b0 := ⟨0, 1, h1, by omega, .inl rfl⟩
 have hbm : ∀ b, blk m (k, .map (dataR sz l)) b → b = b0 := fun b h => by
  have h : blk1 m (k, .map (dataR sz l)) = some b := h
  simp [blk1, Obj.ver, h1] at h
  exact h.symm
 refine ⟨⟨fun a x ha => ?_, fun p hp => ?_, by simp [keys], fun p hp q hq b q1 q2 => ?_⟩, fun _ _ _ e => e, hzu, rfl, rfl, rfl, Nat.le_refl _, fun _ _ _ => rfl, fun _ h => h, fun _ _ => rfl, fun p hp b hb' => ?_, fun a x ha => ?_⟩
 ·unfold zkillR at ha
  split at ha
  ·exact ha
  ·exact hs.frozen a x ha
 ·rw [List.mem_singleton.1 hp]
  refine ⟨b0, es, clock, h1, h2, RepE.of_get (by simp [dataR, h3]) fun i p hi => ?_, h4, h5, fun a x ha e' => ?_, fun _ _ _ => Nat.zero_le _⟩
  ·simp only [dataR, List.getElem?_map, Option.map_eq_some_iff] at hi
   obtain ⟨q, hq, rfl⟩ := hi
   obtain ⟨en, g1, g2, g3⟩ := h7 i q hq
   obtain ⟨b', cp, cu, f', q1, q2, q3, q4, q4', q5, q6, q7, q8, q9, q10⟩ := g3 (by simp)
   refine ⟨en, by rw [Array.getElem?_toList]; exact g1, g2.up hzu (fun f e => by cases e), _, _, q1, q5, q6, .inr ⟨_, rfl, RepRows.of_get fun i' cs hi => ⟨q9 cs (List.mem_of_getElem? hi), RepAt.of_get fun j v hj => ?_⟩⟩⟩
   have hil : i' < q.2.length := (List.getElem?_eq_some_iff.1 hi).1
   have hjl : j < sz := by have := (List.getElem?_eq_some_iff.1 hj).1; rw [q9 cs (List.mem_of_getElem? hi)] at this; exact this
   have hlt : i' * sz + j < q.2.length * sz := by
    have : (i' + 1) * sz ≤ q.2.length * sz := Nat.mul_le_mul_right sz hil
    rw [Nat.succ_mul] at this; omega
   obtain ⟨x, g1, g2⟩ := q8.get (flatten_getV q9 hi hj)
   rw [List.getElem?_take, if_pos hlt] at g1
   refine ⟨x, ?_, g2.up hzu (fun f e => by cases e)⟩
   rw [Nat.zero_add, Nat.zero_add, add_add', Addr.add_lit, Nat.zero_add]
   unfold zkillR
   rw [if_pos ⟨rfl, i, q, cp, hq, q2, by omega⟩, cell_of_row w b' _ cu e f' q4]
   simpa using g1
  ·rcases hzo a x ha with ha | ha
   ·exact h6 a x ha e'
   ·exact (hent _ ha).2 e'
 ·rw [List.mem_singleton.1 hp, List.mem_singleton.1 hq]
 ·rw [List.mem_singleton.1 hp] at hb'
  rw [hbm _ hb']
  exact .inr ⟨_, List.mem_singleton.2 rfl, hb0⟩
 ·exact (hzo a x ha).imp_right fun h => .inr ⟨_, List.mem_singleton.2 rfl, (hent _ h).1⟩
theorem cut_killR (k : Nat) {e sz : Nat} {l : List (V × List (List V))} (hF : selH [k] H = some [(k, .gen (mro e sz l none))]) {H1 : Heap} (hH1 : [(k, .map (dataR sz l))] ++ remH [k] H = H1) : Cut K0 ρ H ρ H1 := fun c ρr w S => by
 subst hH1
 exact SimA.step (by simp [nodupB]) hF (keys_all_fresh fun p hp => by rw [List.mem_singleton.1 hp]; exact List.mem_singleton.2 rfl) (fun m Z hs _ hR => ⟨m, _, Step.killR hs, fun u => (hR u).up (Step.killR hs).zext fun f e => ⟨f, e, fun _ _ _ h => h⟩⟩) S
theorem dataR_enc {α β : Type} (f : α → V) (G : List β → List (List V)) (sz : Nat) (l : List (α × List β)) : dataR sz (encR f G l) = encM f (fun q => .vs sz (G q)) l := by
 simp [dataR, encR, encM]
theorem cut_killRT {α β : Type} (f : α → V) (G : List β → List (List V)) (k : Nat) {e sz : Nat} {l : List (α × List β)} (hF : selH [k] H = some [(k, .gen (mro e sz (encR f G l) none))]) {H1 : Heap} (hH1 : [(k, .map (encM f (fun q => .vs sz (G q)) l))] ++ remH [k] H = H1) : Cut K0 ρ H ρ H1 :=
 cut_killR k hF (by rw [dataR_enc]; exact hH1)
end
section
variable {α β : Type} [DecidableEq α]
def mdel (a : α) : List (α × β) → List (α × β)
 | [] => []
 | (k, c) :: r => if a = k then r else (k, c) :: mdel a r
theorem RepE.del {Z : ZM} {f : α → V} {g : β → V} (a : α) : ∀ {l : List (α × β)} {es : List MapEntry} (i : Nat), RepE Z (encM f g l) es →
  (findP a (l.map (·.1)) es i = none ∧ mdel a l = l) ∨ ∃ j v, findP a (l.map (·.1)) es i = some (i + j, v) ∧ j < es.length ∧ RepE Z (encM f g (mdel a l)) (es.eraseIdx j)
 | [], es, i, h => by cases h; exact .inl ⟨rfl, rfl⟩
 | (k, b) :: l, es, i, h => by
  obtain ⟨e, es, rfl, h1, h2, h3⟩ := h
  by_cases e1 : a = k
  ·exact .inr ⟨0, e.val, by simp [findP, e1], by simp, by simp only [mdel, if_pos e1]; exact h3⟩
  ·rcases RepE.del a (i + 1) h3 with ⟨g1, g2⟩ | ⟨j, v, g1, g2, g3⟩
   ·exact .inl ⟨by simp only [List.map_cons, findP, if_neg e1, g1], by simp only [mdel, if_neg e1, g2]⟩
   ·refine .inr ⟨j + 1, v, by simp only [List.map_cons, findP, if_neg e1, g1]; congr 2; omega, by simpa using g2, ?_⟩
    simp only [mdel, if_neg e1]
    exact ⟨e, _, by simp, h1, h2, g3⟩
variable {P : Program} {ρ : Env} {dst : Option Tmp} {ty : TypeId} {pos : String} {aft : Array Edge} {gd : Option (Nat × Bool)}
theorem loc_mapDelete {f : α → V} {val : α → Value} {g : β → V} {t kt et k kt2 : Nat} {x ix : Operand} {l : List (α × β)} {a : α} (hT : mapT P t = some (kt, et)) (K : KeyOK P kt f val) (hx : evV ρ x = .mp k) (hi : evV ρ ix = f a) :
  Loc P ⟨dst, .call ⟨.builtin .delete, #[x, ix], #[t, kt2]⟩, ty, pos, aft, gd⟩ ρ [(k, .map (encM f g l))] (.tup []) [(k, .map (encM f g (mdel a l)))] := by
 intro ρr m Z w hops hs _
 have hX := hops x (by simp [Op.operands, Call.operands])
 have hI0 := hops ix (by simp [Op.operands, Call.operands])
 have hI := K.det _ _ _ _ (hi ▸ hI0)
 rw [hx] at hX
 obtain ⟨m1, loc, e1, e2, hX⟩ := hX
 cases e1
 obtain ⟨b, es, clock, g1, g2, g3, g4, g5, g6, g7⟩ := hs.holds _ (List.mem_singleton.2 rfl)
 rw [g1] at e2; cases e2
 have hkeys := (g3.find K.det a 0).1
 have hfind := K.find a es.toList _ w hkeys
 have hc := K.check es.isEmpty a w
 have hu := mapT_of hT
 have hbl : b < w.heap.size := (Array.getElem?_eq_some_iff.1 g2).1
 have key : ∃ es', (Builtin.delete_ #[t, kt2] ty #[.map (some b), val a]).run P w = .ok (.tuple #[]) { w with heap := w.heap.setIfInBounds b (.map es' clock) } ∧ RepE Z (encM f g (mdel a l)) es'.toList ∧ es'.toList.Sublist es.toList := by
  rcases g3.del a 0 with ⟨q1, q2⟩ | ⟨j, v, q1, q2, q3⟩
  ·rw [q1] at hfind
   exact ⟨es, by simp [Builtin.delete_, run_underlying hu, MapKept.run_getObj_map g2, hc, hfind, MapKept.run_setObj_map _ g2], by rw [q2]; exact g3, List.Sublist.refl _⟩
  ·rw [q1] at hfind
   have he : (es.eraseIdxIfInBounds (0 + j)).toList = es.toList.eraseIdx j := by simp
   refine ⟨es.eraseIdxIfInBounds (0 + j), by simp [Builtin.delete_, run_underlying hu, MapKept.run_getObj_map g2, hc, hfind, MapKept.run_setObj_map _ g2], by rw [he]; exact q3, by rw [he]; exact List.eraseIdx_sublist ..⟩
 obtain ⟨es', hrun, k1, k2⟩ := key
 refine ⟨rfl, .inl ⟨.tuple #[], { w with heap := w.heap.setIfInBounds b (.map es' clock) }, ?_, m, Z, ?_, [], rfl, rfl⟩⟩
 ·simp [execOp, resolve, invoke, builtin, hX, hI, hrun]
 ·refine Step.write (b := b) hs (by simp [blk, blk1, Obj.ver, g1]) (blk_ver rfl rfl rfl) rfl rfl rfl (by simp) (fun j hj => by simp [Array.getElem?_setIfInBounds_ne (Ne.symm hj)]) (fun a x ha e => absurd e (g6 a x ha)) ?_
  exact ⟨b, es', clock, g1, by simp [hbl], k1, g4.sublist k2, fun e he => g5 e (k2.subset he), g6, g7⟩
end
section
variable {K0 : List Nat} {ρ : Env} {H : Heap}
theorem Step.rebox {m m' : M} {Z Z' : ZM} {w w' : World} {F : Heap} {k kb t : Nat} {o : Obj} {cs cs' : List V} (h : Step m Z F w m' Z' [(k, o), (kb, .box t cs)] w') (hr : ∀ xs, RepL (some m') Z' cs xs → RepL (some m') Z' cs' xs) : Step m Z F w m' Z' [(k, o), (kb, .box t cs')] w' := by
 have hb : ∀ p ∈ ([(k, o), (kb, .box t cs')] : Heap), ∃ q ∈ ([(k, o), (kb, .box t cs)] : Heap), q.1 = p.1 ∧ ∀ b, blk m' p b → blk m' q b := fun p hp => by
  rcases List.mem_cons.1 hp with rfl | hp
  ·exact ⟨_, List.mem_cons_self .., rfl, fun _ h => h⟩
  ·rw [List.mem_singleton.1 hp]
   exact ⟨_, List.mem_cons_of_mem _ (List.mem_singleton.2 rfl), rfl, fun _ h => h⟩
 refine ⟨⟨h.sim.frozen, fun p hp => ?_, by have := h.sim.nodup; simpa [keys] using this, fun p hp q hq b q1 q2 => ?_⟩, h.mext, h.zext, h.os, h.tape, h.output, h.size, h.frame, fun x hx => by have := h.keep x hx; simpa [keys] using this, fun x hx => h.newk x (by simpa [keys] using hx), fun p hp b hb' => ?_, h.znew⟩
 ·rcases List.mem_cons.1 hp with rfl | hp
  ·exact h.sim.holds _ (List.mem_cons_self ..)
  ·rw [List.mem_singleton.1 hp]
   obtain ⟨b, cur, g1, g2, g3, g4, g5⟩ := h.sim.holds _ (List.mem_cons_of_mem _ (List.mem_singleton.2 rfl))
   exact ⟨b, cur, g1, g2, hr _ g3, g4, g5⟩
 ·obtain ⟨p', h1, h2, h3⟩ := hb p hp
  obtain ⟨q', g1, g2, g3⟩ := hb q hq
  rw [← h2, ← g2]
  exact h.sim.disj p' h1 q' g1 b (h3 b q1) (g3 b q2)
 ·obtain ⟨p', h1, _, h3⟩ := hb p hp
  exact h.blks p' h1 b (h3 b hb')
theorem cut_queBox (kb j k : Nat) {e sz n t : Nat} {els : List (List V)} {cs cs' : List V} (hF : selH [k, kb] H = some [(k, .row e sz 0 els), (kb, .box t cs)]) (hks : nodupB [k, kb] = true) (hj : cs[j]? = some (.sl sz k n 0 n)) (hcs : cs.set j (.gv k (qv true sz n n)) = cs') (hn : n = els.length) (h0 : 0 < els.length) {H1 : Heap} (hH1 : [(k, .gen (que e sz n els)), (kb, .box t cs')] ++ remH [k, kb] H = H1) :
  Cut K0 ρ H ρ H1 := fun c ρr w S => by
 subst hH1; subst hn; subst hcs
 refine SimA.step hks hF (keys_all_fresh fun p hp => by
  rcases List.mem_cons.1 hp with rfl | hp
  ·exact List.mem_cons_self ..
  ·rw [List.mem_singleton.1 hp]; exact List.mem_cons_of_mem _ (List.mem_singleton.2 rfl)) (fun m Z hs _ hR => ?_) S
 have hne : k ≠ kb := by have := hs.nodup; simp [keys] at this; exact this
 obtain ⟨m', b, cap, hst, g1, g2, g3, e1, e2⟩ := Step.toQue (SimH.left (F := [(k, .row e sz 0 els)]) (G := [(kb, .box t cs)]) hs) h0
 have hst2 := Step.frame_rule (G := [(kb, .box t cs)]) hs hst fun p hp q hq => by
  rw [List.mem_singleton.1 hp, List.mem_singleton.1 hq]; exact hne
 refine ⟨m', Z, Step.rebox hst2 fun xs hx => ?_, fun u => (hR u).up hst.zext fun f e => by cases e; exact ⟨m', rfl, hst.mext⟩⟩
 obtain ⟨x, hx1, hx2⟩ := hx.get hj
 refine RepL.of_get (by rw [List.length_set]; exact hx.length) fun i v y hv hy => ?_
 by_cases hij : j = i
 ·subst hij
  have hjl := (List.getElem?_eq_some_iff.1 hj).1
  rw [List.getElem?_set, if_pos rfl, if_pos hjl] at hv
  cases hv
  rw [hx1] at hy; cases hy
  obtain ⟨f, loc, q1, q2, q3, q4, q5⟩ := hx2
  cases q1
  rw [hst.mext _ _ _ g1] at q2; cases q2
  refine ⟨m', rfl, b, cap, 0, e1, ⟨b, e2⟩, by omega, g2, ?_⟩
  rcases q5 with q5 | ⟨q5, _⟩ | ⟨q5, _⟩
  ·exact .inl q5
  ·simp only at q5; omega
  ·omega
 ·rw [List.getElem?_set_ne hij] at hv
  obtain ⟨z, hz, hr⟩ := hx.get hv
  rw [hy] at hz; cases hz; exact hr
end
end Go.EV
namespace Go.EV
open Go Go.RowKit Go.Eng
def sortI (l : List Int) : List Int := l.mergeSort fun x y => decide (x ≤ y)
def sortS (l : List (List UInt8)) : List (List UInt8) := l.mergeSort fun x y => decide (x ≤ y)
end Go.EV
namespace Go.EV
open Go Go.ChangeShapes Go.WideShapes Go.ChangeAt Go.RowKit Go.Deep Go.Joins Go.Eng
mutual
def wtV : V → Nat
 | .vs _ els => 1 + wtLL els
 | .str s => 1 + s.length
 | .int _ _ => 1
 | .bool _ => 1
 | _ => 0
def wtL : List V → Nat
 | [] => 0
 | v :: r => wtV v + wtL r
def wtLL : List (List V) → Nat
 | [] => 0
 | c :: r => wtL c + wtLL r
end
theorem wtL_append : ∀ a b : List V, wtL (a ++ b) = wtL a + wtL b
 | [], b => by simp [wtL]
 | x :: a, b => by rw [List.cons_append, wtL, wtL, wtL_append a b]; omega
theorem wtL_undef : ∀ cs : List Value, wtL (cs.map fun _ => V.undef) = 0
 | [] => by rw [List.map_nil, wtL]
 | c :: cs => by rw [List.map_cons, wtL, wtL_undef cs]; simp [wtV]
structure Bulk {H : Type} (B : DataW H → Nat) : Prop where
 one : ∀ d, 1 ≤ B d
 str : ∀ s : List UInt8, s.length + 1 ≤ B (.lit (.string s))
 agg : ∀ l, (l.map B).sum ≤ B (.agg l)
 slice : ∀ e s, 1 + (e.map B).sum ≤ B (.slice e s)
section
variable {H : Type}
def FieldsW (P : Program) (Z : ZM) (cs : List Value) : List Field → List Nat → Prop
 | [], [] => True
 | f :: fs, b :: bs => (∃ vs, GoodC P f.type vs ∧ RepL none Z vs ((cs.drop f.offset).take (P.cellsOf f.type)) ∧ wtL vs ≤ b) ∧ FieldsW P Z cs fs bs
 | _, _ => False
theorem fieldsW_of {P : Program} {Z : ZM} {cs : List Value} : ∀ (fs : List Field) (bs : List Nat), fs.length = bs.length →
  (∀ (i : Nat) (f : Field) (b : Nat), fs[i]? = some f → bs[i]? = some b → ∃ vs, GoodC P f.type vs ∧ RepL none Z vs ((cs.drop f.offset).take (P.cellsOf f.type)) ∧ wtL vs ≤ b) → FieldsW P Z cs fs bs
 | [], [], _, _ => trivial
 | f :: fs, b :: bs, hl, h => ⟨h 0 f b rfl rfl, fieldsW_of fs bs (by simpa using hl) fun i g c hg hc => h (i + 1) g c (by simpa using hg) (by simpa using hc)⟩
 | [], _ :: _, hl, _ => by simp at hl
 | _ :: _, [], hl, _ => by simp at hl
theorem tile_fieldsW {P : Program} {Z : ZM} (cs : List Value) : ∀ (fs : List Field) (bs : List Nat) (off n : Nat), tilesF P fs off = some n → n ≤ cs.length → FieldsW P Z cs fs bs →
  off ≤ n ∧ ∃ vs, vs.length = n - off ∧ RepL none Z vs ((cs.drop off).take (n - off)) ∧ wtL vs ≤ bs.sum ∧ ∀ f ∈ fs, off ≤ f.offset ∧ GoodC P f.type ((vs.drop (f.offset - off)).take (P.cellsOf f.type))
 | [], [], off, n, h, hn, _ => by
  simp only [tilesF, Option.some.injEq] at h
  subst h
  exact ⟨Nat.le_refl _, [], by simp, by simp [RepL], by simp [wtL], fun f hf => by cases hf⟩
 | f :: fs, b :: bs, off, n, h, hn, hx => by
  simp only [tilesF] at h
  split at h
  ·rename_i hb
   have hb := Nat.eq_of_beq_eq_true hb
   obtain ⟨h1, vs, h2, h3, hw, h4⟩ := tile_fieldsW cs fs bs _ n h hn hx.2
   obtain ⟨us, h5, h6, hw2⟩ := hx.1
   rw [hb] at h6
   have hul : us.length = P.cellsOf f.type := by
    have := h6.length
    rw [List.length_take, List.length_drop] at this; omega
   refine ⟨by omega, us ++ vs, by rw [List.length_append]; omega, ?_, by rw [wtL_append, List.sum_cons]; omega, fun g hg => ?_⟩
   ·have e : (cs.drop off).take (n - off) = (cs.drop off).take (P.cellsOf f.type) ++ (cs.drop (off + P.cellsOf f.type)).take (n - (off + P.cellsOf f.type)) := by
     rw [← List.drop_drop, show n - off = P.cellsOf f.type + (n - (off + P.cellsOf f.type)) by omega, List.take_add]
    rw [e]; exact h6.append h3
   ·rcases List.mem_cons.1 hg with rfl | hg
    ·refine ⟨by omega, ?_⟩
     rw [hb, Nat.sub_self, List.drop_zero, ← hul, List.take_left]; exact h5
    ·obtain ⟨h7, h8⟩ := h4 g hg
     refine ⟨by omega, ?_⟩
     rw [show g.offset - off = us.length + (g.offset - (off + P.cellsOf f.type)) by omega, List.drop_append]
     rw [List.drop_eq_nil_of_le (by omega), List.nil_append, show us.length + (g.offset - (off + P.cellsOf f.type)) - us.length = g.offset - (off + P.cellsOf f.type) by omega]
     exact h8
  ·cases h
 | [], _ :: _, _, _, _, _, hx => hx.elim
 | _ :: _, [], _, _, _, _, hx => hx.elim
theorem tile_arrayW {P : Program} {Z : ZM} (cs : List Value) (e : TypeId) : ∀ (bs : List Nat) (off : Nat), off + bs.length * P.cellsOf e ≤ cs.length →
  (∀ i b, bs[i]? = some b → ∃ vs, GoodC P e vs ∧ RepL none Z vs ((cs.drop (off + i * P.cellsOf e)).take (P.cellsOf e)) ∧ wtL vs ≤ b) →
  ∃ vs, vs.length = bs.length * P.cellsOf e ∧ RepL none Z vs ((cs.drop off).take (bs.length * P.cellsOf e)) ∧ wtL vs ≤ bs.sum ∧ ∀ i, i < bs.length → GoodC P e ((vs.drop (i * P.cellsOf e)).take (P.cellsOf e))
 | [], off, hn, _ => ⟨[], by simp, by simp [RepL], by simp [wtL], fun i hi => by simp at hi⟩
 | b :: bs, off, hn, hx => by
  rw [List.length_cons, Nat.succ_mul] at hn
  obtain ⟨vs, h2, h3, hw, h4⟩ := tile_arrayW (P := P) cs e bs (off + P.cellsOf e) (by omega) (fun i b' hi => by
   have := hx (i + 1) b' (by simpa using hi)
   rw [Nat.succ_mul, show off + (i * P.cellsOf e + P.cellsOf e) = off + P.cellsOf e + i * P.cellsOf e by omega] at this
   exact this)
  obtain ⟨us, h5, h6, hw2⟩ := hx 0 b rfl
  rw [Nat.zero_mul, Nat.add_zero] at h6
  have hul : us.length = P.cellsOf e := by
   have := h6.length
   rw [List.length_take, List.length_drop] at this; omega
  refine ⟨us ++ vs, by rw [List.length_append, List.length_cons, Nat.succ_mul]; omega, ?_, by rw [wtL_append, List.sum_cons]; omega, fun i hi => ?_⟩
  ·have e1 : (cs.drop off).take ((bs.length + 1) * P.cellsOf e) = (cs.drop off).take (P.cellsOf e) ++ (cs.drop (off + P.cellsOf e)).take (bs.length * P.cellsOf e) := by
    rw [← List.drop_drop, Nat.succ_mul, Nat.add_comm, List.take_add]
   rw [List.length_cons, e1]; exact h6.append h3
  ·cases i with
   | zero => rw [Nat.zero_mul, List.drop_zero, ← hul, List.take_left]; exact h5
   | succ i =>
    have := h4 i (by simpa using hi)
    rw [Nat.succ_mul, show i * P.cellsOf e + P.cellsOf e = us.length + i * P.cellsOf e by omega, List.drop_append]
    rw [List.drop_eq_nil_of_le (by omega), List.nil_append, show us.length + i * P.cellsOf e - us.length = i * P.cellsOf e by omega]
    exact this
theorem wtLL_sum : ∀ (els : List (List V)) (bs : List Nat), els.length = bs.length → (∀ (i : Nat) (c : List V) (b : Nat), els[i]? = some c → bs[i]? = some b → wtL c ≤ b) → wtLL els ≤ bs.sum
 | [], _, _, _ => by simp [wtLL]
 | c :: els, b :: bs, hl, h => by
  have h1 := h 0 c b rfl rfl
  have h2 := wtLL_sum els bs (by simpa using hl) (fun i c' b' hc hb => h (i + 1) c' b' (by simpa using hc) (by simpa using hb))
  rw [wtLL, List.sum_cons]; omega
 | _ :: _, [], hl, _ => by simp at hl
variable {enc : TypeId × Value → H} {P : Program} {w : World} {base : Nat} {spare : Nat → Bool} {held : Bool} {B : DataW H → Nat}
theorem good_ofW (hB : Bulk B) (hP : ∀ t, t < P.types.size → tileT P t = true ∧ childB P t = true) : ∀ (fuel : Nat) (t : TypeId) (cs : List Value) (x : DataW H × List MemPlace), t < P.types.size → DataW.trod enc P w base spare held fuel t cs = some x → ∃ vs, GoodC P t vs ∧ RepL none w.cell? vs cs ∧ wtL vs ≤ B x.1
 | 0, t, cs, x, _, h => by simp [DataW.trod] at h
 | fuel + 1, t, cs, x, hlt, h => by
  obtain ⟨htile, hchild⟩ := hP t hlt
  unfold childB at hchild
  cases ht : P.underlying t with
  | none => exact ⟨_, .other (by unfold plainT; rw [ht]), undefs_rep cs, by rw [wtL_undef]; omega⟩
  | some d =>
   have hother : plainT P t = false → ∃ vs, GoodC P t vs ∧ RepL none w.cell? vs cs ∧ wtL vs ≤ B x.1 := fun hp => ⟨_, .other hp, undefs_rep cs, by rw [wtL_undef]; omega⟩
   cases d with
   | bool =>
    obtain ⟨b, rfl, _⟩ := DataW.trod_bool ht h
    exact ⟨[.bool b], .bool ht, ⟨_, _, rfl, rfl, rfl⟩, by have := hB.one x.1; simp only [wtL, wtV]; omega⟩
   | int k =>
    obtain ⟨n, rfl, _, hw⟩ := DataW.trod_int ht h
    exact ⟨[.int k n], .int ht hw, ⟨_, _, rfl, rfl, rfl⟩, by have := hB.one x.1; simp only [wtL, wtV]; omega⟩
   | string =>
    obtain ⟨s, rfl, hx, hs⟩ := DataW.trod_string ht h
    exact ⟨[.str s.data.toList], .str ht (by simpa using hs), ⟨_, _, rfl, rfl, rfl⟩, by rw [hx]; have := hB.str s.data.toList; simp only [wtL, wtV]; omega⟩
   | slice e =>
    rcases DataW.trod_slice ht h with ⟨rfl, _⟩ | ⟨a, len, cap, elems, rest, n, hn, rfl, hxx, _, hl, hm, hlen, hel, _⟩
    ·exact ⟨[.vs (P.cellsOf e) []], .slice ht (Nat.zero_le _) (fun _ h => by cases h), ⟨_, _, rfl, ⟨none, 0, rfl, Nat.le_refl _, Nat.zero_le _, .inl rfl⟩, rfl⟩, by have := hB.one x.1; simp only [wtL, wtV, wtLL]; omega⟩
    ·have hn : n = fuel := by omega
     subst hn
     obtain ⟨els, he, hp⟩ := listV_ex (α := List V) (p := fun i vs => GoodC P e vs ∧ vs.length = P.cellsOf e ∧ RepAt w.cell? (a.add (i * P.cellsOf e)) 0 vs ∧ ∀ y, elems[i]? = some y → wtL vs ≤ B y.1) len (fun i hi => by
      have h1 := hel i hi
      rw [List.getElem?_eq_getElem (by omega)] at h1
      obtain ⟨cs', h2, h3⟩ := Option.bind_eq_some_iff.1 h1
      obtain ⟨_, h4, h5⟩ := World.cells?_some h2
      rw [ht] at hchild
      obtain ⟨vs, h6, h7, hw7⟩ := good_ofW hB hP n e cs' _ (Nat.le_of_ble_eq_true hchild) h3
      have h8 := h7.length
      refine ⟨vs, h6, by omega, RepAt.of_get fun j v hj => ?_, fun y hy => ?_⟩
      ·obtain ⟨u, h9, h10⟩ := h7.get hj
       rw [Nat.zero_add, h5 j (by have := (List.getElem?_eq_some_iff.1 hj).1; omega)]
       exact ⟨u, h9, h10⟩
      ·rw [List.getElem?_eq_getElem (by omega)] at hy
       cases hy; exact hw7)
     refine ⟨[.vs (P.cellsOf e) els], .slice ht (by omega) (fun x hx => ?_), ⟨_, _, rfl, ⟨some a, cap, by rw [he], by omega, hm, .inr ⟨a, rfl, RepRows.of_get fun i cs' hi => ?_⟩⟩, rfl⟩, ?_⟩
     ·obtain ⟨i, hi, rfl⟩ := List.getElem_of_mem hx
      exact (hp i _ (List.getElem?_eq_getElem hi)).1
     ·obtain ⟨_, h2, h3, _⟩ := hp i cs' hi
      rw [Nat.zero_add]; exact ⟨h2, h3⟩
     ·rw [hxx]
      have h9 := hB.slice (elems.map (·.1)) (rest.map (·.1))
      have h10 := wtLL_sum els ((elems.map (·.1)).map B) (by simp; omega) (fun i c b hc hb => by
       rw [List.map_map, List.getElem?_map, Option.map_eq_some_iff] at hb
       obtain ⟨y, hy, rfl⟩ := hb
       exact (hp i c hc).2.2.2 y hy)
      simp only [wtL, wtV]
      omega
   | struct fs =>
    obtain ⟨xs, n, hn, hxx, hc, hlen, hg⟩ := DataW.trod_struct ht h
    have hn : n = fuel := by omega
    subst hn
    have htl := htile
    unfold tileT at htl
    rw [ht] at htl hchild
    simp only at htl
    split at htl
    ·rename_i m hm
     have htl := Nat.eq_of_beq_eq_true htl
     obtain ⟨_, vs, h2, h3, hw, h4⟩ := tile_fieldsW (P := P) (Z := w.cell?) cs fs.toList ((xs.map (·.1)).map B) 0 m hm (by omega) (fieldsW_of _ _ (by simp [hlen]) fun i f b hf hb => by
      have hi := (List.getElem?_eq_some_iff.1 hf).1
      have hfm : f ∈ fs.toList := List.mem_of_getElem? hf
      have h1 := hg i f (by rw [← Array.getElem?_toList]; exact hf)
      rw [List.map_map, List.getElem?_map, Option.map_eq_some_iff] at hb
      obtain ⟨y, hy, rfl⟩ := hb
      rw [hy] at h1
      exact good_ofW hB hP n _ _ _ (Nat.le_of_ble_eq_true ((List.all_eq_true.1 hchild) _ hfm)) h1)
     rw [List.drop_zero, Nat.sub_zero, List.take_of_length_le (by omega)] at h3
     refine ⟨vs, .struct ht (by omega) (fun f hf => by have := (h4 f hf).2; rwa [Nat.sub_zero] at this), h3, ?_⟩
     rw [hxx]
     exact Nat.le_trans hw (hB.agg _)
    ·cases htl
   | array m e =>
    obtain ⟨xs, n, hn, hxx, hc, hlen, hg⟩ := DataW.trod_array ht h
    have hn : n = fuel := by omega
    subst hn
    have htl := htile
    unfold tileT at htl
    rw [ht] at htl hchild
    have htl := Nat.eq_of_beq_eq_true htl
    have hbl : ((xs.map (·.1)).map B).length = m := by simp [hlen]
    obtain ⟨vs, h2, h3, hw, h4⟩ := tile_arrayW (P := P) (Z := w.cell?) cs e ((xs.map (·.1)).map B) 0 (by rw [hbl]; omega) (fun i b hb => by
     have hi : i < m := by have := (List.getElem?_eq_some_iff.1 hb).1; omega
     have h1 := hg i hi
     rw [List.map_map, List.getElem?_map, Option.map_eq_some_iff] at hb
     obtain ⟨y, hy, rfl⟩ := hb
     rw [hy] at h1
     rw [Nat.zero_add]
     exact good_ofW hB hP n _ _ _ (Nat.le_of_ble_eq_true hchild) h1)
    rw [hbl] at h2 h3 h4
    rw [List.drop_zero, List.take_of_length_le (by omega)] at h3
    refine ⟨vs, .array ht (by omega) h4, h3, ?_⟩
    rw [hxx]
    exact Nat.le_trans hw (hB.agg _)
   | _ => exact hother (by unfold plainT; rw [ht])
end
end Go.EV
namespace Go.EV
open Go Go.RowKit Go.Eng

structure IS (m : M) (Z : ZM) (F : Heap) (ρ : Env) (ρr : Slots) (w : World) : Prop where
 sim : SimH m Z F w
 rep : RepS m Z ρ ρr
section
variable {P : Program} {r : Option Nat} {N : Nat} {all rest : List Oper} {Q : Post} {ρr : Slots} {ds : List Deferred} {w : World} {m : M} {Z : ZM} {F : Heap} {ρ : Env} {o : Oper}
theorem upd_ne {ρr : Slots} {d t : Nat} {x : Value} (h : t ≠ d) : upd ρr d x t = ρr t := by
 show (bif Nat.beq t d then x else ρr t) = _
 cases hb : Nat.beq t d with
 | true => exact absurd (Nat.eq_of_beq_eq_true hb) h
 | false => rfl
theorem upd_eq {ρr : Slots} {d : Nat} {x : Value} : upd ρr d x d = x := by
 show (bif Nat.beq d d then x else ρr d) = _
 rw [Nat.beq_refl]; rfl
theorem i_pure {d : Nat} {v : V} {op : Op} {ty : TypeId} {pos : String} {aft : Array Edge} {gd : Option (Nat × Bool)} (S : IS m Z F ρ ρr w) (hN : Nat.ble (d + 1) N = true) (hw : wantedV all ρ ⟨some d, op, ty, pos, aft, gd⟩ = some true) (hv : pureV P ρ op = some v)
  (h : ∀ ρ', IS m Z F ((d, v) :: ρ) ρ' w → (∀ t, t ≠ d → ρ' t = ρr t) → Ops P r N all Q rest ρ' ds w) : Ops P r N all Q (⟨some d, op, ty, pos, aft, gd⟩ :: rest) ρr ds w := by
 obtain ⟨hn, u, h1, h2⟩ := pure_sound (P := P) (w := w) (dst := some d) (ty := ty) (pos := pos) (aft := aft) (gd := gd) (m := some m) (Z := Z) hv (fun x _ => S.rep.ev x) S.sim.frozen
 exact ops_val d u rfl hN (wanted_of S.rep hw) hn h1 (h _ ⟨S.sim, S.rep.put d h2⟩ fun t ht => upd_ne ht)
theorem i_load {d k off bt : Nat} {cs : List V} {v : V} {t : TypeId} {a : Operand} {ty : TypeId} {pos : String} {aft : Array Edge} {gd : Option (Nat × Bool)} (S : IS m Z F ρ ρr w) (hN : Nat.ble (d + 1) N = true) (hw : wantedV all ρ ⟨some d, .load t a, ty, pos, aft, gd⟩ = some true)
  (ha : evV ρ a = .ptr k 0 off) (hg : (k, Obj.box bt cs) ∈ F) (hv : atV P t cs off = some v)
  (h : ∀ ρ', IS m Z F ((d, v) :: ρ) ρ' w → (∀ t, t ≠ d → ρ' t = ρr t) → Ops P r N all Q rest ρ' ds w) : Ops P r N all Q (⟨some d, .load t a, ty, pos, aft, gd⟩ :: rest) ρr ds w := by
 have hs1 : SimH m Z [(k, .box bt cs)] w := ⟨S.sim.frozen, fun p hp => by simp only [List.mem_singleton] at hp; subst hp; exact S.sim.holds _ hg, by simp [keys], fun p hp q hq _ _ _ => by simp only [List.mem_singleton] at hp hq; subst hp; subst hq; rfl⟩
 have hsc := hs1.holds _ (List.mem_singleton.2 rfl)
 obtain ⟨b, cur, g1, g2, g3, g4, g5⟩ := hsc
 have hx := S.rep.ev a
 rw [ha] at hx
 obtain ⟨f', loc, e1, e2, e3⟩ := hx
 cases e1
 rw [g1] at e2; cases e2
 have hcell : ∀ j u, cur.toList[j]? = some u → w.cell? ⟨b, j, none⟩ = some u := fun j u hu => by
  rw [cell_of_row w b j cur bt (0, 0) g2]; simpa using hu
 have key : ∃ u, (execOp (ev ρr) ⟨some d, .load t a, ty, pos, aft, gd⟩).run P w = .ok (.value u) w ∧ Rep (some m) Z v u := by
  unfold atV at hv
  split at hv
  ·rename_i hsh
   split at hv
   ·rename_i v' hv'
    split at hv
    ·cases hv
     obtain ⟨u, h4, h5⟩ := g3.get hv'
     exact ⟨u, run_load_scal (shape_scal hsh) e3 (hcell _ _ h4), h5⟩
    ·cases hv
   ·cases hv
  ·rename_i n hsh
   split at hv
   ·rename_i hk
    have hk := Nat.le_of_ble_eq_true hk
    cases hv
    have hl := g3.length
    refine ⟨.agg ((cur.toList.drop off).take n).toArray, run_load_agg _ (shape_agg hsh) e3 (by simp at hl ⊢; omega) fun j u hj => ?_, _, rfl, (g3.drop off).take n⟩
    rw [Addr.add_lit]
    have hjn : j < n := by have := (List.getElem?_eq_some_iff.1 hj).1; simp at this; omega
    rw [List.getElem?_take, if_pos hjn, List.getElem?_drop] at hj
    exact hcell _ _ hj
   ·cases hv
  ·cases hv
 obtain ⟨u, h1, h2⟩ := key
 exact ops_val d u rfl hN (wanted_of S.rep hw) rfl h1 (h _ ⟨S.sim, S.rep.put d h2⟩ fun t ht => upd_ne ht)
theorem i_val {d : Nat} {u : Value} {op : Op} {w' : World} {ty : TypeId} {pos : String} {aft : Array Edge} {gd : Option (Nat × Bool)} (S : IS m Z F ρ ρr w) (S' : SimH m Z F w') (hN : Nat.ble (d + 1) N = true) (hw : wantedV all ρ ⟨some d, op, ty, pos, aft, gd⟩ = some true) (hn : notDefer op = true)
  (hr : (execOp (ev ρr) ⟨some d, op, ty, pos, aft, gd⟩).run P w = .ok (.value u) w') (v : V) (hv : Rep (some m) Z v u)
  (h : ∀ ρ', IS m Z F ((d, v) :: ρ) ρ' w' → (∀ t, t ≠ d → ρ' t = ρr t) → ρ' d = u → Ops P r N all Q rest ρ' ds w') : Ops P r N all Q (⟨some d, op, ty, pos, aft, gd⟩ :: rest) ρr ds w :=
 ops_val d u rfl hN (wanted_of S.rep hw) hn hr (h _ ⟨S', S.rep.put d hv⟩ (fun t ht => upd_ne ht) upd_eq)
theorem i_skip {d : Nat} {op : Op} {ty : TypeId} {pos : String} {aft : Array Edge} {gd : Option (Nat × Bool)} (S : IS m Z F ρ ρr w) (hN : Nat.ble (d + 1) N = true) (hw : wantedV all ρ ⟨some d, op, ty, pos, aft, gd⟩ = some false)
  (h : ∀ ρ', IS m Z F ((d, .no) :: ρ) ρ' w → (∀ t, t ≠ d → ρ' t = ρr t) → Ops P r N all Q rest ρ' ds w) : Ops P r N all Q (⟨some d, op, ty, pos, aft, gd⟩ :: rest) ρr ds w :=
 ops_skip d rfl hN (wanted_of S.rep hw) (h _ ⟨S.sim, S.rep.put d rfl⟩ fun t ht => upd_ne ht)
theorem w_loopG {G : Type} {x : Code} (Inv : G → Slots → List Deferred → World → Prop) (μ : G → Nat) (g0 : G) (hi : Inv g0 ρr ds w)
  (hround : ∀ g ρ' ds' w', Inv g ρ' ds' w' → Wp P r N x (andThen (fun ρ2 ds2 w2 => ∃ g', Inv g' ρ2 ds2 w2 ∧ μ g' < μ g) Q) ρ' ds' w') : Wp P r N (.loop x) Q ρr ds w := by
 intro a n hf
 let I : Act → World → Nat → Prop := fun a w m => ∃ g ρ' ds2, Frm N ds2 a ρ' ∧ Inv g ρ' ds2 w ∧ μ g = m
 have hex : ∀ a w, (∃ m, I a w m) → ∃ m, I a w m ∧ ∀ k, k < m → ¬ I a w k := fun a w ⟨m, hm⟩ => least _ m hm
 refine wpIn_loop (fun a w => ∃ m, I a w m) (fun a w => (Classical.epsilon fun m => I a w m ∧ ∀ k, k < m → ¬ I a w k)) ⟨_, g0, ρr, ds, hf, hi, rfl⟩ ?_
 intro a w hI
 obtain ⟨⟨g, ρ', ds2, hf', hinv, hm⟩, hmin⟩ := Classical.epsilon_spec (hex a w hI)
 refine wpIn_mono (hround g ρ' ds2 w hinv a n hf') fun e a' w' hq => ?_
 obtain ⟨ρ2, ds2, hf2, hq⟩ := hq
 cases e with
 | normal =>
  obtain ⟨g', hinv', hlt⟩ := hq
  have hI' : I a' w' (μ g') := ⟨g', ρ2, ds2, hf2, hinv', rfl⟩
  refine ⟨⟨_, hI'⟩, ?_⟩
  obtain ⟨_, hmin'⟩ := Classical.epsilon_spec (hex a' w' ⟨_, hI'⟩)
  refine Nat.lt_of_le_of_lt ?_ (hm ▸ hlt)
  exact Nat.le_of_not_lt fun hl => hmin' _ hl hI'
 | exit id => exact ⟨ρ2, ds2, hf2, hq⟩
 | goto l => exact ⟨ρ2, ds2, hf2, hq⟩
 | ret => exact ⟨ρ2, ds2, hf2, hq⟩
 | panic ch => exact ⟨ρ2, ds2, hf2, hq⟩
 | outgrown => exact ⟨ρ2, ds2, hf2, hq⟩
theorem i_indexVs {d e sz : Nat} {t : TypeId} {x ix : Operand} {k : IntKind} {i : Int} {els : List (List V)} {cs : List V} {ty : TypeId} {pos : String} {aft : Array Edge} {gd : Option (Nat × Bool)} (S : IS m Z F ρ ρr w) (hN : Nat.ble (d + 1) N = true) (hw : wantedV all ρ ⟨some d, .indexAddr t x ix, ty, pos, aft, gd⟩ = some true)
  (ht : elemT P t = some (e, sz)) (hx : evV ρ x = .vs sz els) (hi : evV ρ ix = .int k i) (h0 : 0 ≤ i) (hc : els[i.toNat]? = some cs)
  (h : ∀ ρ', IS m Z F ((d, .vp cs 0) :: ρ) ρ' w → (∀ t, t ≠ d → ρ' t = ρr t) → Ops P r N all Q rest ρ' ds w) : Ops P r N all Q (⟨some d, .indexAddr t x ix, ty, pos, aft, gd⟩ :: rest) ρr ds w := by
 have key : ∃ u, (execOp (ev ρr) ⟨some d, .indexAddr t x ix, ty, pos, aft, gd⟩).run P w = .ok (.value u) w ∧ Rep (some m) Z (.vp cs 0) u := by
  have hX := S.rep.ev x
  have hI := S.rep.ev ix
  rw [hx] at hX; rw [hi] at hI
  have hI : ev ρr ix = .int k i := hI
  obtain ⟨A, c, h1, h2, h3, h4⟩ := hX
  have hlt := (List.getElem?_eq_some_iff.1 hc).1
  rcases h4 with h4 | ⟨a, rfl, h5⟩
  ·subst h4; simp at hlt
  have h6 := (h5.get hc).2
  rw [Nat.zero_add] at h6
  unfold elemT at ht
  split at ht
  ·rename_i e' hu
   split at ht
   ·rename_i ii hii
    split at ht
    ·simp only [Option.some.injEq, Prod.mk.injEq] at ht
     obtain ⟨rfl, hsz⟩ := ht
     refine ⟨.pointer (some (a.add (i.toNat * sz))), ?_, a.add (i.toNat * sz), by rw [Addr.add_zero'], h6⟩
     have h7 : ¬ ((els.length : Int) ≤ i) := by omega
     simp [execOp, Instr.indexAt, run_underlying hu, asIntOf, h1, hI, sizeOf, typeInfo, hii, hsz, h0, h7]
    ·cases ht
   ·cases ht
  ·cases ht
 obtain ⟨u, h1, h2⟩ := key
 exact ops_val d u rfl hN (wanted_of S.rep hw) rfl h1 (h _ ⟨S.sim, S.rep.put d h2⟩ fun t ht => upd_ne ht)
end
structure NSt {α : Type} (W : World) (D : Foot) (J : List α → Foot → World → Prop) (own : List (Nat × Go.Obj)) (pre : List α) (D1 : Foot) (w : World) (ds : List Deferred) : Prop where
 j : J pre D1 w
 only : Only D W w
 grows : Grows D D1 W
 own : ∀ p ∈ own, w.heap[p.1]? = some p.2 ∧ ¬ D1 p.1 ∧ W.heap.size ≤ p.1
 marks : ∃ Ds : List Nat, ds = Ds.map Eng.mark ∧ Ds.Nodup ∧ ∀ K ∈ Ds, w.heap[K]? = some (.deferred (some [])) ∧ ¬ D1 K ∧ W.heap.size ≤ K
section
variable {α : Type} {W w w' : World} {D D1 : Foot} {J J' : List α → Foot → World → Prop} {own : List (Nat × Go.Obj)} {pre : List α} {ds : List Deferred}
theorem NSt.turn (S : NSt W D J own pre D1 w ds) (hJ : Stab (J pre)) {row : Option Nat} (hg : w.grownBy w' row) (hr : ∀ b, row = some b → W.heap.size ≤ b ∧ ¬ D1 b ∧ (∀ p ∈ own, p.1 ≠ b) ∧ ∀ K, Eng.mark K ∈ ds → K ≠ b) : NSt W D J own pre D1 w' ds := by
 refine ⟨hJ.grown S.j hg fun b e => (hr b e).2.1, ⟨Nat.le_trans S.only.size hg.size, fun b hb hn => (hg.block b (Nat.lt_of_lt_of_le hb S.only.size) fun e => by have := (hr b e.symm).1; omega).trans (S.only.same b hb hn)⟩, S.grows, fun p hp => ?_, ?_⟩
 ·obtain ⟨h1, h2, h3⟩ := S.own p hp
  exact ⟨(hg.block _ (Array.getElem?_eq_some_iff.1 h1).1 fun e => (hr _ e.symm).2.2.1 p hp rfl).trans h1, h2, h3⟩
 ·obtain ⟨Ds, h1, h2, h3⟩ := S.marks
  refine ⟨Ds, h1, h2, fun K hK => ?_⟩
  obtain ⟨h4, h5, h6⟩ := h3 K hK
  exact ⟨(hg.block _ (Array.getElem?_eq_some_iff.1 h4).1 fun e => (hr K e.symm).2.2.2 K (by rw [h1]; exact List.mem_map_of_mem hK) rfl).trans h4, h5, h6⟩
theorem NSt.alloc (S : NSt W D J own pre D1 w ds) (hJ : Stab (J pre)) (o : Go.Obj) : NSt W D J own pre D1 (w.alloc o) ds := S.turn hJ (World.grownBy_alloc w o none) fun b e => by cases e
theorem NSt.new (S : NSt W D J own pre D1 w ds) (hJ : Stab (J pre)) (o : Go.Obj) : NSt W D J ((w.heap.size, o) :: own) pre D1 (w.alloc o) ds := by
 have S' := S.alloc hJ o
 refine ⟨S'.j, S'.only, S'.grows, fun p hp => ?_, S'.marks⟩
 rcases List.mem_cons.1 hp with rfl | hp
 ·exact ⟨World.alloc_heap_new w o, fun h => by have := hJ.2.1 _ _ S.j _ h; omega, S.only.size⟩
 ·exact S'.own p hp
theorem NSt.drop {p : Nat × Go.Obj} (S : NSt W D J (p :: own) pre D1 w ds) : NSt W D J own pre D1 w ds := ⟨S.j, S.only, S.grows, fun q hq => S.own q (List.mem_cons_of_mem _ hq), S.marks⟩
theorem NSt.begin (hJ : J pre D W) (ho : ∀ p ∈ own, False) : NSt W D J own pre D W [] := ⟨hJ, Only.refl _ _, Grows.refl _ _, fun p hp => (ho p hp).elim, [], rfl, List.nodup_nil, fun _ h => by cases h⟩
theorem NSt.yield {pre' : List α} {D2 : Foot} (S : NSt W D J own pre D1 w ds) (ho : Only D1 w w') (hg : Grows D1 D2 w) (hj : J' pre' D2 w') : NSt W D J' own pre' D2 w' ds := by
 have hD : ∀ b, b < w.heap.size → ¬ D1 b → ¬ D2 b := fun b hb hn h => (hg.f b h).elim hn (by omega)
 refine ⟨hj, S.only.trans S.grows ho, S.grows.trans S.only.size hg, fun p hp => ?_, ?_⟩
 ·obtain ⟨h1, h2, h3⟩ := S.own p hp
  have hl := (Array.getElem?_eq_some_iff.1 h1).1
  exact ⟨(ho.same _ hl h2).trans h1, hD _ hl h2, h3⟩
 ·obtain ⟨Ds, h1, h2, h3⟩ := S.marks
  refine ⟨Ds, h1, h2, fun K hK => ?_⟩
  obtain ⟨h4, h5, h6⟩ := h3 K hK
  have hl := (Array.getElem?_eq_some_iff.1 h4).1
  exact ⟨(ho.same _ hl h5).trans h4, hD _ hl h5, h6⟩
theorem NSt.map (S : NSt W D J own pre D1 w ds) {J2 : List α → Foot → World → Prop} {pre2 : List α} (h : J2 pre2 D1 w) : NSt W D J2 own pre2 D1 w ds := ⟨h, S.only, S.grows, S.own, S.marks⟩
def footN (w0 : World) (D1 : Foot) : Foot := ⟨D1.z, fun b => b < w0.heap.size ∨ D1 b⟩
theorem NSt.below (S : NSt W D J own pre D1 w ds) : (∀ p ∈ own, p.1 < w.heap.size) ∧ ∀ K, Eng.mark K ∈ ds → K < w.heap.size := by
 refine ⟨fun p hp => (Array.getElem?_eq_some_iff.1 (S.own p hp).1).1, fun K hK => ?_⟩
 obtain ⟨Ds, rfl, _, h⟩ := S.marks
 obtain ⟨K', h1, h2⟩ := List.mem_map.1 hK
 have : K' = K := by simpa [Eng.mark] using h2
 subst this
 exact (Array.getElem?_eq_some_iff.1 (h _ h1).1).1
theorem NSt.stab {w0 : World} {p : Foot → Prop} (hJ : Stab (J pre)) (hW : W.heap.size ≤ w0.heap.size) (ho : ∀ q ∈ own, q.1 < w0.heap.size) (hd : ∀ K, Eng.mark K ∈ ds → K < w0.heap.size) :
  Stab fun Df w => ∃ D1, NSt W D J own pre D1 w ds ∧ Df = footN w0 D1 ∧ p D1 ∧ w0.heap.size ≤ w.heap.size := by
 refine ⟨?_, ?_, ?_⟩
 ·rintro Df A B row ⟨D1, S, rfl, hp, hs⟩ hg hr
  refine ⟨D1, S.turn hJ hg fun b e => ?_, rfl, hp, Nat.le_trans hs hg.size⟩
  have hn := hr b e
  have h1 : ¬ b < w0.heap.size := fun h => hn (Or.inl h)
  exact ⟨by omega, fun h => hn (Or.inr h), fun q hq he => h1 (he ▸ ho q hq), fun K hK he => h1 (he ▸ hd K hK)⟩
 ·rintro Df A ⟨D1, S, rfl, hp, hs⟩ b hb
  rcases hb with hb | hb
  ·omega
  ·exact hJ.2.1 _ _ S.j b hb
 ·rintro Df A ⟨D1, S, rfl, hp, hs⟩ a x hz
  exact Or.inr (hJ.2.2 _ _ S.j a x hz)
theorem NSt.mark {K : Nat} (S : NSt W D J own pre D1 w ds) (hK : w.heap[K]? = some (.deferred (some []))) (hn : ¬ D1 K) (hW : W.heap.size ≤ K) (hd : ∀ K', Eng.mark K' ∈ ds → K' ≠ K) : NSt W D J own pre D1 w (Eng.mark K :: ds) := by
 refine ⟨S.j, S.only, S.grows, S.own, ?_⟩
 obtain ⟨Ds, rfl, h2, h3⟩ := S.marks
 refine ⟨K :: Ds, rfl, List.nodup_cons.2 ⟨fun h => hd K (List.mem_map_of_mem h) rfl, h2⟩, fun K' hK' => ?_⟩
 rcases List.mem_cons.1 hK' with rfl | hK'
 ·exact ⟨hK, hn, hW⟩
 ·exact h3 K' hK'
theorem takes_N : ∀ (Ds : List Nat) (w : World), Ds.Nodup → (∀ K ∈ Ds, w.heap[K]? = some (.deferred (some [])) ∧ ¬ D1 K ∧ W.heap.size ≤ K) → Stab (J pre) → J pre D1 w → Only D W w → ∃ w', Eng.Takes (Ds.map Eng.mark) w w' ∧ J pre D1 w' ∧ Only D W w'
 | [], w, _, _, _, hj, ho => ⟨w, rfl, hj, ho⟩
 | K :: Ds, w, hn, hK, hJ, hj, ho => by
  obtain ⟨h1, h2⟩ := List.nodup_cons.1 hn
  obtain ⟨h3, h4, h5⟩ := hK K (List.mem_cons_self ..)
  obtain ⟨w', h6, h7⟩ := takes_N Ds (w.putObj K (.deferred none)) h2 (fun K' hK' => by
   obtain ⟨g1, g2⟩ := hK K' (List.mem_cons_of_mem _ hK')
   exact ⟨(World.putObj_heap_other (fun e => h1 (by first | (rw [← e]; exact hK') | (rw [e]; exact hK')))).trans g1, g2⟩) hJ (hJ.putObj _ hj h4) ⟨by simpa using ho.size, fun b hb hn => (World.putObj_heap_other (by omega)).trans (ho.same b hb hn)⟩
  exact ⟨w', ⟨K, rfl, h3, h6⟩, h7⟩
theorem NSt.fin {P : Program} {fn : Func} {ρr : Slots} {R : Value → World → Prop} (S : NSt W D J own pre D1 w ds) (hJ : Stab (J pre)) (hr : fn.results = #[]) (h : ∀ w', J pre D1 w' → Only D W w' → Grows D D1 W → R (.tuple #[]) w') : finM P fn R .ret ρr ds w := by
 obtain ⟨Ds, rfl, h2, h3⟩ := S.marks
 obtain ⟨w', h4, h5, h6⟩ := takes_N Ds w h2 h3 hJ S.j S.only
 exact ⟨w', .tuple #[], h4, fun tmps _ => by simp [results, hr], h w' h5 h6 S.grows⟩
end
section
variable {P : Program} {r : Option Nat} {N : Nat} {all rest : List Oper} {Q : Post} {ρr : Slots} {ds : List Deferred} {w : World}
theorem ops_var {d : Nat} {t : TypeId} {x : Operand} {l : List Value} {cs0 : List V} {ty ty' : TypeId} {pos pos' : String} {aft aft' : Array Edge} (hN : Nat.ble (d + 1) N = true) (hz : zeroV P t = some cs0) (hl : cs0.length = l.length) (hsz : sizeOfT P t cs0.length = true) (hone : ∀ u ∈ l, u.oneCell' = true)
  (hx : ev (upd ρr d (.pointer (some ⟨w.heap.size, 0, none⟩))) x = .agg l.toArray)
  (h : Ops P r N all Q rest (upd ρr d (.pointer (some ⟨w.heap.size, 0, none⟩))) ds (w.alloc (.cells l.toArray t))) :
  Ops P r N all Q (⟨some d, .alloc t, ty, pos, aft, none⟩ :: ⟨none, .store t (.tmp d) x, ty', pos', aft', none⟩ :: rest) ρr ds w := by
 unfold zeroV at hz
 split at hz
 ·rename_i i hi
  split at hz
  ·rename_i z hzz
   cases hz
   have hzl : z.cells.size = l.length := by simpa using hl
   refine ops_val d (.pointer (some ⟨w.heap.size, 0, none⟩)) (w' := w.alloc (.cells z.cells t)) rfl hN rfl rfl (by
    simp [execOp, Instr.alloc, zeroValue, typeInfo, hi, hzz, newVar, newRow, newObj]; rfl) ?_
   have hst := run_storeCells_at P w.heap.size 0 t l 0 z.cells (w.alloc (.cells z.cells t)) (World.alloc_heap_new w _) (by simp; omega) hone
   have hw : (w.alloc (.cells z.cells t)).setRow w.heap.size l.toArray = w.alloc (.cells l.toArray t) := by
    unfold World.setRow World.alloc
    congr 1
    apply Array.ext_getElem?
    intro i
    rw [Array.getElem?_modify, Array.getElem?_push, Array.getElem?_push]
    by_cases hi : i = w.heap.size
    ·subst hi; simp
    ·simp [hi, Ne.symm hi]
   have h1 : (z.cells.toList.take 0 ++ l ++ z.cells.toList.drop (0 + l.length)).toArray = l.toArray := by
    rw [List.drop_of_length_le (by simp; omega)]; simp
   simp only [Nat.add_zero] at hst
   rw [h1, hw] at hst
   unfold sizeOfT at hsz
   rw [hi] at hsz
   have hik := Nat.eq_of_beq_eq_true hsz
   simp at hik
   refine ops_unit (w' := w.alloc (.cells l.toArray t)) rfl rfl rfl ?_ h
   have hsz2 : l.length = i.size := by omega
   have hx' : ev (upd ρr d (.pointer (some ⟨w.heap.size, 0, none⟩))) (.tmp d) = .pointer (some ⟨w.heap.size, 0, none⟩) := upd_eq
   have hcl : (Value.agg l.toArray).cells = l.toArray := rfl
   simp [execOp, Instr.storeAt, hx', hx, Instr.sureAddr, storeVar, sizeOf, typeInfo, hi, hcl, hsz2]
   rw [hst]
   rfl
  ·cases hz
 ·cases hz
end
theorem repS_of {m : M} {Z : ZM} {ρr : Slots} : ∀ {l : Env}, (∀ p ∈ l, Rep (some m) Z p.2 (ρr p.1)) → RepS m Z l ρr
 | [], _ => fun t => trivial
 | (d, v) :: l, h => fun t => by
  show Rep (some m) Z (bif Nat.beq t d then v else Env.get l t) (ρr t)
  cases hb : Nat.beq t d with
  | true => have := Nat.eq_of_beq_eq_true hb; subst this; exact h (t, v) (List.mem_cons_self ..)
  | false => exact repS_of (l := l) (fun p hp => h p (List.mem_cons_of_mem _ hp)) t
theorem sim_nil (m : M) (w : World) : SimH m (fun _ => none) [] w := ⟨fun _ _ h => (by cases h), fun _ h => (by cases h), List.nodup_nil, fun _ h => (by cases h)⟩
end Go.EV
