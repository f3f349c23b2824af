/- Maps of the call's own: looking up and storing. -/
import Derived.Test.YtpabacdeogeehaaGreatDoorEvTwo
import Derived.MapKept
import Derived.Maps.RangeRun
import Derived.Laws.MakeOwn
set_option linter.all false
namespace Go.EV
open Go Go.RowKit Go.Eng

def mfind {α β : Type} [DecidableEq α] (a : α) : List (α × β) → Option β
 | [] => none
 | (k, b) :: r => if a = k then some b else mfind a r
def mset {α β : Type} [DecidableEq α] (a : α) (b : β) : List (α × β) → List (α × β)
 | [] => [(a, b)]
 | (k, c) :: r => if a = k then (a, b) :: r else (k, c) :: mset a b r
def encM {α β : Type} (f : α → V) (g : β → V) (l : List (α × β)) : List (V × V) := l.map fun p => (f p.1, g p.2)
def findP {α : Type} [DecidableEq α] (a : α) : List α → List MapEntry → Nat → Option (Nat × Value)
 | k :: ks, e :: es, i => if a = k then some (i, e.val) else findP a ks es (i + 1)
 | _, _, _ => none
structure KeyOK (P : Program) (kt : TypeId) {α : Type} [DecidableEq α] (f : α → V) (val : α → Value) : Prop where
 det : ∀ m Z a x, Rep m Z (f a) x → x = val a
 rep : ∀ m Z a, Rep m Z (f a) (val a)
 check : ∀ e a w, (Instr.checkKey e 10000 kt (val a)).run P w = .ok () w
 find : ∀ (a : α) (es : List MapEntry) (ks : List α) w, es.map (·.key) = ks.map val → (Instr.findKey kt (val a) es).run P w = .ok (findP a ks es 0) w
 bits : ∀ a, Instr.sameBits 10000 (val a) (val a) = true
theorem findNow_of {α : Type} [DecidableEq α] {d : TypeDesc} {val : α → Value} (h : ∀ a b, Instr.sameNow d (val a) (val b) = some (decide (a = b))) (a : α) : ∀ (es : List MapEntry) (ks : List α) (i : Nat), es.map (·.key) = ks.map val → Instr.findNow d (val a) es i = some (findP a ks es i)
 | [], ks, i, he => by
  cases ks with
  | nil => rfl
  | cons => simp at he
 | e :: es, [], i, he => by simp at he
 | e :: es, k :: ks, i, he => by
  simp only [List.map_cons, List.cons.injEq] at he
  have ih := findNow_of h a es ks (i + 1) he.2
  simp only [Instr.findNow, he.1, h, findP]
  by_cases e1 : a = k
  ·simp [e1]
  ·simp [e1, ih]
section
variable {P : Program}
theorem keyOK_of {α : Type} [DecidableEq α] {kt : TypeId} {d : TypeDesc} {f : α → V} {val : α → Value} (hk : P.underlying kt = some d) (hd : ∀ m Z a x, Rep m Z (f a) x → x = val a) (hr : ∀ m Z a, Rep m Z (f a) (val a))
  (hc : ∀ e a w, (Instr.checkKey e 10000 kt (val a)).run P w = .ok () w) (h : ∀ a b, Instr.sameNow d (val a) (val b) = some (decide (a = b))) (hb : ∀ a, Instr.sameBits 10000 (val a) (val a) = true) : KeyOK P kt f val :=
 ⟨hd, hr, hc, fun a es ks w he => by simp [Instr.findKey, run_underlying hk, findNow_of h a es ks 0 he], hb⟩
theorem bytes_beq (a b : List UInt8) : ((⟨a.toArray⟩ : ByteArray) == ⟨b.toArray⟩) = decide (a = b) := by
 rw [show ((⟨a.toArray⟩ : ByteArray) == ⟨b.toArray⟩) = (a.toArray == b.toArray) from rfl, Bool.eq_iff_iff]; simp
theorem keyOK_str {kt : TypeId} (hk : P.underlying kt = some .string) : KeyOK P kt V.str (fun s => .string ⟨s.toArray⟩) :=
 keyOK_of hk (fun _ _ _ _ h => h) (fun _ _ _ => rfl) (fun e a w => by
  unfold Instr.checkKey
  simp [run_underlying hk]) (fun a b => by simp only [Instr.sameNow, bytes_beq]) fun a => by simp only [Instr.sameBits, bytes_beq]; simp
def mapT (P : Program) (t : Nat) : Option (Nat × Nat) := match P.underlying t with | some (.map k e) => some (k, e) | _ => none
theorem mapT_of {t k e : Nat} (h : mapT P t = some (k, e)) : P.underlying t = some (.map k e) := by
 unfold mapT at h
 split at h
 ·cases h; assumption
 ·cases h
def zero1 (P : Program) (t : Nat) : Option V := match P.info? t with | some i => i.zero.map ofC | none => none
theorem zero1_of {t : Nat} {v : V} {m : Option M} {Z : ZM} {w : World} (h : zero1 P t = some v) : ∃ z, (zeroValue t).run P w = .ok z w ∧ Rep m Z v z := by
 unfold zero1 at h
 split at h
 ·rename_i i hi
  obtain ⟨z, hz, rfl⟩ := Option.map_eq_some_iff.1 h
  exact ⟨z, by simp [zeroValue, typeInfo, hi, hz, Sem.run], rep_ofC z⟩
 ·cases h
def lookV (c : Bool) (v : V) (b : Bool) : V := match c with | true => .tup [v, .bool b] | false => v
theorem RepE.find {α β : Type} [DecidableEq α] {Z : ZM} {f : α → V} {g : β → V} {val : α → Value} (hd : ∀ m Z a x, Rep m Z (f a) x → x = val a) (a : α) : ∀ {l : List (α × β)} {es : List MapEntry} (i : Nat), RepE Z (encM f g l) es →
  es.map (·.key) = (l.map (·.1)).map val ∧ match mfind a l with
   | some b => ∃ j e, findP a (l.map (·.1)) es i = some (i + j, e.val) ∧ es[j]? = some e ∧ e.key = val a ∧ Rep none Z (g b) e.val ∧ ∀ (c : β) (y : Value), Rep none Z (g c) y → RepE Z (encM f g (mset a c l)) (es.modify j fun e => { e with key := val a, val := y })
   | none => findP a (l.map (·.1)) es i = none ∧ ∀ (c : β) (y : Value) (n : Nat), Rep none Z (f a) (val a) → Rep none Z (g c) y → RepE Z (encM f g (mset a c l)) (es ++ [{ key := val a, val := y, born := n }])
 | [], es, i, h => by
  cases h
  exact ⟨rfl, rfl, fun c y n h1 h2 => ⟨_, [], rfl, h1, h2, rfl⟩⟩
 | (k, b) :: l, es, i, h => by
  obtain ⟨e, es, rfl, h1, h2, h3⟩ := h
  have hk := hd _ _ _ _ h1
  obtain ⟨h4, h5⟩ := RepE.find hd a (i + 1) h3
  refine ⟨by simp [hk, h4], ?_⟩
  simp only [mfind]
  by_cases e1 : a = k
  ·subst e1
   simp only [if_pos]
   refine ⟨0, e, by simp [findP], rfl, hk, h2, fun c y hy => ?_⟩
   simp only [mset, if_pos]
   exact ⟨_, es, rfl, by rw [← hk]; exact h1, hy, h3⟩
  ·rw [if_neg e1]
   cases hm : mfind a l with
   | some b' =>
    rw [hm] at h5
    obtain ⟨j, e', g1, g2, g3, g4, g5⟩ := h5
    refine ⟨j + 1, e', by simp only [List.map_cons, findP, if_neg e1, g1]; congr 2; omega, by simpa using g2, g3, g4, fun c y hy => ?_⟩
    simp only [mset, if_neg e1]
    exact ⟨e, _, by simp, h1, h2, g5 c y hy⟩
   | none =>
    rw [hm] at h5
    obtain ⟨g1, g2⟩ := h5
    refine ⟨by simp only [List.map_cons, findP, if_neg e1, g1], fun c y n q1 q2 => ?_⟩
    simp only [mset, if_neg e1]
    exact ⟨e, _, rfl, h1, h2, g2 c y n q1 q2⟩
variable {ρ : Env} {dst : Option Tmp} {ty : TypeId} {pos : String} {aft : Array Edge} {gd : Option (Nat × Bool)}
theorem loc_lookup {α β : Type} [DecidableEq α] {f : α → V} {val : α → Value} {g : β → V} {t kt et k : Nat} {x ix : Operand} {l : List (α × β)} (c : Bool) {a : α} {z : β} {zv : V} (hT : mapT P t = some (kt, et)) (K : KeyOK P kt f val) (hz : zero1 P et = some zv)
  (hzg : ∀ (m : Option M) (Z : ZM) (y : Value), Rep m Z zv y → Rep m Z (g z) y) (hx : evV ρ x = .mp k) (hi : evV ρ ix = f a) :
  Loc P ⟨dst, .lookup t x ix c, ty, pos, aft, gd⟩ ρ [(k, .map (encM f g l))] (lookV c (g ((mfind a l).getD z)) (mfind a l).isSome) [(k, .map (encM f g l))] := by
 intro ρr m Z w hops hs _
 have hX := hops x (by simp [Op.operands])
 have hI := K.det _ _ _ _ (hi ▸ hops ix (by simp [Op.operands]))
 rw [hx] at hX
 obtain ⟨m1, loc, e1, e2, hX⟩ := hX
 cases e1
 obtain ⟨b, es, clock, g1, g2, g3, g4, g5, g6, g7⟩ := hs.holds _ (List.mem_singleton.2 rfl)
 rw [g1] at e2; cases e2
 obtain ⟨h1, h2⟩ := g3.find K.det a 0
 obtain ⟨zz, hz1, hz2⟩ := zero1_of (m := some m) (Z := Z) (w := w) hz
 have hfind := K.find a es.toList _ w h1
 have hc := K.check es.isEmpty a w
 have hu := mapT_of hT
 have key : ∃ v b', (Instr.lookup t (.map (some b)) (val a) c).run P w = .ok (if c then .tuple #[v, .bool b'] else v) w ∧ Rep (some m) Z (g ((mfind a l).getD z)) v ∧ b' = (mfind a l).isSome := by
  cases hm : mfind a l with
  | some b' =>
   rw [hm] at h2
   obtain ⟨j, e', q1, q2, q3, q4, q5⟩ := h2
   rw [q1] at hfind
   exact ⟨e'.val, true, by simp [Instr.lookup, run_underlying hu, MapKept.run_getObj_map g2, hc, hfind], Rep.up (fun _ _ e => e) (fun f e => by cases e) q4, rfl⟩
  | none =>
   rw [hm] at h2
   rw [h2.1] at hfind
   exact ⟨zz, false, by simp [Instr.lookup, run_underlying hu, MapKept.run_getObj_map g2, hc, hfind, hz1], hzg _ _ _ hz2, rfl⟩
 obtain ⟨v, b', hrun, hv, hb⟩ := key
 refine ⟨rfl, .inl ⟨_, w, by simp only [execOp, hX, hI, Sem.run_bind, hrun, Result.andThen_ok, Sem.run_pure]; rfl, m, Z, Step.refl hs, ?_⟩⟩
 cases c with
 | true => exact ⟨[v, .bool b'], rfl, v, _, rfl, hv, _, _, rfl, by rw [hb]; rfl, rfl⟩
 | false => exact hv
theorem loc_mapUpdate {α β : Type} [DecidableEq α] {f : α → V} {val : α → Value} {g : β → V} {t kt et k : Nat} {x ix y : Operand} {l : List (α × β)} {a : α} {c : β} (hT : mapT P t = some (kt, et)) (K : KeyOK P kt f val)
  (hx : evV ρ x = .mp k) (hi : evV ρ ix = f a) (hy : evV ρ y = g c) (hr : (g c).refs = []) (hra : (f a).refs = []) :
  Loc P ⟨dst, .mapUpdate t x ix y, ty, pos, aft, gd⟩ ρ [(k, .map (encM f g l))] .no [(k, .map (encM f g (mset a c l)))] := by
 intro ρr m Z w hops hs _
 have hX := hops x (by simp [Op.operands])
 have hI0 := hops ix (by simp [Op.operands])
 have hY := hops y (by simp [Op.operands])
 have hI := K.det _ _ _ _ (hi ▸ hI0)
 rw [hx] at hX
 rw [hy] at hY
 have hY : Rep none Z (g c) (ev ρr y) := Rep.flat _ _ hr hY
 obtain ⟨m1, loc, e1, e2, hX⟩ := hX
 cases e1
 obtain ⟨b, es, clock, g1, g2, g3, g4, g5, g6, g7⟩ := hs.holds _ (List.mem_singleton.2 rfl)
 rw [g1] at e2; cases e2
 obtain ⟨h1, h2⟩ := g3.find K.det a 0
 have hfind := K.find a es.toList _ w h1
 have hc := K.check false a w
 have hu := mapT_of hT
 have hbl : b < w.heap.size := (Array.getElem?_eq_some_iff.1 g2).1
 have key : ∃ es' clock', (Instr.mapUpdate t (.map (some b)) (val a) (ev ρr y)).run P w = .ok () { w with heap := w.heap.setIfInBounds b (.map es' clock') } ∧ RepE Z (encM f g (mset a c l)) es'.toList ∧ (es'.toList.Pairwise fun x y => x.born < y.born) ∧ (∀ e ∈ es'.toList, e.born < clock') := by
  cases hm : mfind a l with
  | some b' =>
   rw [hm] at h2
   obtain ⟨j, e', q1, q2, q3, q4, q5⟩ := h2
   rw [q1] at hfind
   have q2' : es[0 + j]? = some e' := by simpa using q2
   have hmem : ∀ e ∈ (es.toList.modify (0 + j) fun e => { e with key := val a, val := ev ρr y }), ∃ e0 ∈ es.toList, e.born = e0.born := fun e he => by
    obtain ⟨i, hi, rfl⟩ := List.getElem_of_mem he
    rw [List.getElem_modify]
    simp only [List.length_modify] at hi
    refine ⟨es.toList[i], List.getElem_mem _, ?_⟩
    split <;> rfl
   refine ⟨es.modify (0 + j) fun e => { e with key := val a, val := ev ρr y }, clock, ?_, ?_, ?_, ?_⟩
   ·have q2'' : es[j]? = some e' := by simpa using q2'
    simp [Instr.mapUpdate, run_underlying hu, MapKept.run_getObj_map g2, hc, hfind, Instr.keyThatStays, q2'', q3, K.bits, MapKept.run_setObj_map _ g2]
   ·rw [Array.toList_modify]; simpa using q5 c _ hY
   ·rw [Array.toList_modify, List.pairwise_iff_getElem]
    intro i j' hi hj hij
    rw [List.getElem_modify, List.getElem_modify]
    simp only [List.length_modify] at hi hj
    have := List.pairwise_iff_getElem.1 g4 i j' hi hj hij
    split <;> split <;> exact this
   ·rw [Array.toList_modify]
    intro e he
    obtain ⟨e0, h3, h4⟩ := hmem e he
    rw [h4]; exact g5 e0 h3
  | none =>
   rw [hm] at h2
   rw [h2.1] at hfind
   refine ⟨es.push { key := val a, val := ev ρr y, born := clock }, clock + 1, by simp [Instr.mapUpdate, run_underlying hu, MapKept.run_getObj_map g2, hc, hfind, MapKept.run_setObj_map _ g2], ?_, ?_, ?_⟩
   ·rw [Array.toList_push]; exact h2.2 c _ _ (K.rep _ _ _) hY
   ·rw [Array.toList_push, List.pairwise_append]
    exact ⟨g4, by simp, fun p hp q hq => by simp at hq; subst hq; exact g5 p hp⟩
   ·rw [Array.toList_push]
    intro e he
    rcases List.mem_append.1 he with he | he
    ·have := g5 e he; omega
    ·simp at he; subst he; simp
 obtain ⟨es', clock', hrun, k1, k2, k3⟩ := key
 refine ⟨rfl, .inr (.inl ⟨_, by simp only [execOp, hX, hI, Sem.run_bind, hrun, Result.andThen_ok, Sem.run_pure]; rfl, m, Z, ?_, rfl⟩)⟩
 refine Step.write (b := b) hs (by simp [blk, Obj.ver, g1]) rfl rfl rfl rfl (by simp) (fun j hj => by simp [Array.getElem?_setIfInBounds_ne (Ne.symm hj)]) (fun a x ha e => absurd e (g6 a x ha)) ?_
 exact ⟨b, es', clock', g1, by simp [hbl], k1, k2, k3, g6, g7⟩
end
end Go.EV
namespace Go.EV
open Go Go.RowKit Go.Eng

structure Foot where
 z : ZM
 f : Nat → Prop
instance : CoeFun Foot fun _ => Nat → Prop := ⟨Foot.f⟩
def Stab (J : Foot → World → Prop) : Prop :=
 (∀ D W W' row, J D W → W.grownBy W' row → (∀ b, row = some b → ¬ D b) → J D W') ∧ (∀ D W, J D W → ∀ b, D b → b < W.heap.size) ∧ ∀ D W, J D W → ∀ a x, D.z a = some x → D a.block
structure Only (D : Foot) (W W' : World) : Prop where
 size : W.heap.size ≤ W'.heap.size
 same : ∀ b, b < W.heap.size → ¬ D b → W'.heap[b]? = W.heap[b]?
structure Grows (D D' : Foot) (W : World) : Prop where
 f : ∀ b, D' b → D b ∨ W.heap.size ≤ b
 z : ∀ a x, D.z a = some x → D'.z a = some x
theorem Only.refl (D : Foot) (W : World) : Only D W W := ⟨Nat.le_refl _, fun _ _ _ => rfl⟩
theorem Grows.refl (D : Foot) (W : World) : Grows D D W := ⟨fun _ h => .inl h, fun _ _ h => h⟩
theorem Only.trans {D D' : Foot} {A B C : World} (h : Only D A B) (hg : Grows D D' A) (k : Only D' B C) : Only D A C :=
 ⟨Nat.le_trans h.size k.size, fun b hb hn => (k.same b (Nat.lt_of_lt_of_le hb h.size) fun hd => (hg.f b hd).elim hn (by omega)).trans (h.same b hb hn)⟩
theorem Grows.trans {D D' D2 : Foot} {A B : World} (h : Grows D D' A) (hs : A.heap.size ≤ B.heap.size) (k : Grows D' D2 B) : Grows D D2 A :=
 ⟨fun b hb => (k.f b hb).elim (h.f b) fun h' => .inr (Nat.le_trans hs h'), fun a x e => k.z a x (h.z a x e)⟩
theorem Only.grown {D : Foot} {W W' : World} {row : Option Nat} (h : W.grownBy W' row) (hr : ∀ b, row = some b → D b) : Only D W W' :=
 ⟨h.size, fun b hb hn => h.block b hb fun e => hn (hr b e.symm)⟩
theorem Stab.grown {J : Foot → World → Prop} (h : Stab J) {D : Foot} {W W' : World} {row : Option Nat} (hJ : J D W) (hg : W.grownBy W' row) (hr : ∀ b, row = some b → ¬ D b) : J D W' := h.1 D W W' row hJ hg hr
theorem Stab.putObj {J : Foot → World → Prop} (h : Stab J) {D : Foot} {W : World} {l : Nat} (o : Go.Obj) (hJ : J D W) (hl : ¬ D l) : J D (W.putObj l o) :=
 h.grown hJ (grownBy_putObj W l o) (fun b e => by cases e; exact hl)
theorem Stab.alloc {J : Foot → World → Prop} (h : Stab J) {D : Foot} {W : World} (o : Go.Obj) (hJ : J D W) : J D (W.alloc o) :=
 h.grown hJ (World.grownBy_alloc W o none) (fun b e => by cases e)
theorem only_putObj {D : Foot} {W : World} {l : Nat} (o : Go.Obj) (hl : D l) : Only D W (W.putObj l o) := Only.grown (grownBy_putObj W l o) fun b e => by cases e; exact hl
theorem only_alloc {D : Foot} {W : World} (o : Go.Obj) : Only D W (W.alloc o) := Only.grown (World.grownBy_alloc W o none) fun b e => by cases e

def IterF {α : Type} (P : Program) (gf : Nat) (lb : List Value) (encs : α → List Value) (xs : List α) (Need : ZM → World → Prop) : Prop :=
 ∀ (l : Nat) (J Jx : List α → Foot → World → Prop) (W : World) (D : Foot), (∀ pre D W1, J pre D W1 → Need D.z W1) → (∀ pre, Stab (J pre)) → (∀ pre, Stab (Jx pre)) →
  (∀ pre x D1 W1, J pre D1 W1 → pre ++ [x] <+: xs → YieldAt Fence.wide 0 P l (encs x).toArray W1 fun e W' =>
   ∃ D', Only D1 W1 W' ∧ Grows D1 D' W1 ∧ ((e = .returned (.bool true) ∧ J (pre ++ [x]) D' W') ∨ (e = .returned (.bool false) ∧ Jx (pre ++ [x]) D' W'))) →
  J [] D W →
  Calls P gf (.func (.yield l) #[] #[] :: lb).toArray W fun e W' => (∃ v, e = .returned v) ∧ ∃ D', Only D W W' ∧ Grows D D' W ∧ (J xs D' W' ∨ ∃ pre, pre <+: xs ∧ Jx pre D' W')

def roundF (D : Foot) (I : Foot → World → Prop) (Ix : Code → Foot → World → Prop) (W : World) : Post
 | .normal, _, _, W' => ∃ D', Only D W W' ∧ Grows D D' W ∧ I D' W'
 | .ret, _, _, W' => ∃ D', Only D W W' ∧ Grows D D' W ∧ Ix .ret D' W'
 | .exit id, _, _, W' => ∃ D', Only D W W' ∧ Grows D D' W ∧ Ix (.exit id) D' W'
 | _, _, _, _ => False
def footL (D : Foot) (k : Nat) : Foot := ⟨D.z, fun b => D b ∨ b = k ∨ b = k + 1⟩
theorem foot_grows {D D' : Foot} {k : Nat} {W : World} (h : Grows D D' W) : Grows (footL D k) (footL D' k) W := ⟨fun b hb => by
 rcases hb with hb | hb
 ·exact (h.f b hb).imp .inl id
 ·exact .inl (.inr hb), h.z⟩
theorem Only.sub {D D' : Foot} {W W' : World} (h : Only D W W') (hd : ∀ b, D b → D' b) : Only D' W W' := ⟨h.size, fun b hb hn => h.same b hb fun h' => hn (hd b h')⟩

section
variable {P : Program} {N : Nat} {Q : Post} {ρ : Slots} {ds : List Deferred} {w : World}
theorem w_rangeF {α : Type} {g : Operand} {ps : List Tmp} {assign body : Code} {gf : Nat} {lb : List Value} {encs : α → List Value} {xs : List α} {Need : ZM → World → Prop}
  (hg : ev ρ g = .func (.func gf) #[] lb.toArray) (hb : hasBody P gf) (hit : IterF P gf lb encs xs Need) (hps : ∀ x, (encs x).length = ps.length) (hpN : (ps.all fun p => Nat.ble (p + 1) N) = true)
  (I : List α → Foot → World → Prop) (Ix : Code → List α → Foot → World → Prop) (hI : ∀ pre, Stab (I pre)) (hIx : ∀ c pre, Stab (Ix c pre)) (hneed : ∀ pre D W, I pre D W → Need D.z W) (D0 : Foot) (h0 : I [] D0 w)
  (ρ1 : α → Slots)
  (hassign : ∀ l x W, Wp P (some l) N assign (andThen (fun ρ' ds' W' => ρ' = ρ1 x ∧ ds' = [] ∧ W' = W) fun _ _ _ _ => False) (updL ρ (ps.zip (encs x))) [] W)
  (hbody : ∀ l pre x D W, I pre D W → pre ++ [x] <+: xs → Wp P (some l) N body (roundF D (I (pre ++ [x])) (fun c => Ix c (pre ++ [x])) W) (ρ1 x) [] W)
  (hdone : ∀ K D W, w.heap.size ≤ K → I xs D W → ¬ D K → Only D0 w W → Grows D0 D w → W.heap[K]? = some (.deferred (some [])) → Q .normal ρ (Eng.mark K :: ds) W)
  (hret : ∀ K D pre W, w.heap.size ≤ K → pre <+: xs → Ix .ret pre D W → ¬ D K → Only D0 w W → Grows D0 D w → W.heap[K]? = some (.deferred (some [])) → Q .ret ρ (Eng.mark K :: ds) W)
  (hexit : ∀ id K D pre W, w.heap.size ≤ K → pre <+: xs → Ix (.exit id) pre D W → ¬ D K → Only D0 w W → Grows D0 D w → W.heap[K]? = some (.deferred (some [])) → Q (.exit id) ρ (Eng.mark K :: ds) W) :
  Wp P none N (.rangeFunc g ps.toArray assign body) Q ρ ds w := by
 intro a n hf
 refine wpIn_rangeFunc ?_
 intro fn hfn
 obtain ⟨k, hk⟩ : ∃ k, w.heap.size = k := ⟨_, rfl⟩
 obtain ⟨rec, hrec⟩ : ∃ rec : LoopState → Option Code → Loop, rec = fun st pe => { state := st, pending := pe, fn, tmps := a.tmps, params := ps.toArray, assign, body, defers := k } := ⟨_, rfl⟩
 obtain ⟨W1, hW1⟩ : ∃ W1, (w.alloc (.deferred (some []))).alloc (.loop (rec .ready none)) = W1 := ⟨_, rfl⟩
 have hL1 : W1.heap[k + 1]? = some (.loop (rec .ready none)) := by
  rw [← hW1, ← hk]; have := World.alloc_heap_new (w.alloc (.deferred (some []))) (.loop (rec .ready none)); rwa [World.size_alloc] at this
 have hK1 : W1.heap[k]? = some (.deferred (some [])) := by
  rw [← hW1, ← hk]; exact (Below.heap_alloc _ _ _ (by simp)).trans (World.alloc_heap_new w _)
 have hI1 : I [] D0 W1 := by rw [← hW1]; exact (hI []).alloc _ ((hI []).alloc _ h0)
 have hb0 : ∀ b, D0 b → b < k := fun b hb => hk ▸ (hI []).2.1 _ _ h0 b hb
 have hsz1 : W1.heap.size = k + 2 := by rw [← hW1]; simp; omega
 have hO1 : Only D0 w W1 := by rw [← hW1]; exact (only_alloc _).trans (Grows.refl _ _) (only_alloc _)
 obtain ⟨fb, hfb1, hfb2, hfb3⟩ := hb
 -- what holds between the rounds
 obtain ⟨J, hJ⟩ : ∃ J : List α → Foot → World → Prop, J = fun pre D W => ∃ DI, D = footL DI k ∧ I pre DI W ∧ ¬ DI k ∧ ¬ DI (k + 1) ∧ W.heap[k + 1]? = some (.loop (rec .ready none)) ∧ W.heap[k]? = some (.deferred (some [])) := ⟨_, rfl⟩
 obtain ⟨Jx, hJx⟩ : ∃ Jx : List α → Foot → World → Prop, Jx = fun pre D W => ∃ DI c, (c = .ret ∨ ∃ id, c = .exit id) ∧ D = footL DI k ∧ Ix c pre DI W ∧ ¬ DI k ∧ ¬ DI (k + 1) ∧ W.heap[k + 1]? = some (.loop (rec .done (some c))) ∧ W.heap[k]? = some (.deferred (some [])) := ⟨_, rfl⟩
 have hlow : ∀ {D D' : Foot} {W : World}, Grows D D' W → k + 2 ≤ W.heap.size → ¬ D k → ¬ D (k + 1) → ¬ D' k ∧ ¬ D' (k + 1) := fun hg hs h1 h2 =>
  ⟨fun h => (hg.f _ h).elim h1 (by omega), fun h => (hg.f _ h).elim h2 (by omega)⟩
 refine ⟨k + 1, [Eng.mark k], W1, { target := .fn (.func gf) lb.toArray, args := #[.func (.yield (k + 1)) #[] #[]] }, W1, gf,
  (.func (.yield (k + 1)) #[] #[] :: lb).toArray, W1, ?_, ?_, fun _ _ => trivial, ?_, fun hx => by simp [Fw] at hx, ?_⟩
 ·rw [← hW1, hrec, ← hk]; exact run_enterLoop_outer _ _ _ _ _
 ·have : a.eval g = .func (.func gf) #[] lb.toArray := by rw [hf.eval]; exact hg
  simp only [resolve, rangeCall, this]
  simp [Deferred.ofValue, Act.eval]
 ·have h2' : ¬ fb.name = "runtime.NumGoroutine" := by simpa using hfb2
  have h3' : ¬ fb.body = none := by intro e; rw [e] at hfb3; cases hfb3
  simp [invoke, callFunc, program, Sem.run, hfb1, h2', h3']
 ·refine callsIn_fw none ?_
  refine (hit (k + 1) J Jx W1 (footL D0 k) ?_ ?_ ?_ ?_ ?_).mono ?_
  ·rw [hJ]
   rintro pre D W ⟨DI, rfl, h, _⟩
   exact hneed pre DI W h
  ·rw [hJ]
   refine fun pre => ⟨?_, ?_, ?_⟩
   ·rintro D A B row ⟨DI, rfl, h1, h2, h3, h4, h5⟩ hgr hr
    refine ⟨DI, rfl, (hI pre).grown h1 hgr fun b e => fun h => hr b e (.inl h), h2, h3, ?_, ?_⟩
    ·exact (hgr.block _ (Array.getElem?_eq_some_iff.1 h4).1 (fun e => hr _ e.symm (.inr (.inr rfl)))).trans h4
    ·exact (hgr.block _ (Array.getElem?_eq_some_iff.1 h5).1 (fun e => hr _ e.symm (.inr (.inl rfl)))).trans h5
   ·rintro D W ⟨DI, rfl, h1, h2, h3, h4, h5⟩ b hb
    rcases hb with hb | rfl | rfl
    ·exact (hI pre).2.1 _ _ h1 b hb
    ·exact (Array.getElem?_eq_some_iff.1 h5).1
    ·exact (Array.getElem?_eq_some_iff.1 h4).1
   ·rintro D W ⟨DI, rfl, h1, h2, h3, h4, h5⟩ a x hz
    exact Or.inl ((hI pre).2.2 _ _ h1 a x hz)
  ·rw [hJx]
   refine fun pre => ⟨?_, ?_, ?_⟩
   ·rintro D A B row ⟨DI, c, hc, rfl, h1, h2, h3, h4, h5⟩ hgr hr
    refine ⟨DI, c, hc, rfl, (hIx c pre).grown h1 hgr fun b e => fun h => hr b e (.inl h), h2, h3, ?_, ?_⟩
    ·exact (hgr.block _ (Array.getElem?_eq_some_iff.1 h4).1 (fun e => hr _ e.symm (.inr (.inr rfl)))).trans h4
    ·exact (hgr.block _ (Array.getElem?_eq_some_iff.1 h5).1 (fun e => hr _ e.symm (.inr (.inl rfl)))).trans h5
   ·rintro D W ⟨DI, c, hc, rfl, h1, h2, h3, h4, h5⟩ b hb
    rcases hb with hb | rfl | rfl
    ·exact (hIx c pre).2.1 _ _ h1 b hb
    ·exact (Array.getElem?_eq_some_iff.1 h5).1
    ·exact (Array.getElem?_eq_some_iff.1 h4).1
   ·rintro D W ⟨DI, c, hc, rfl, h1, h2, h3, h4, h5⟩ a x hz
    exact Or.inl ((hIx c pre).2.2 _ _ h1 a x hz)
  ·-- one round
   rw [hJ, hJx]
   rintro pre x D W ⟨DI, rfl, hi, hn1, hn2, hl, hkk⟩ hpre
   have hlt : k + 1 < W.heap.size := (Array.getElem?_eq_some_iff.1 hl).1
   have hy := run_yield (P := P) (args := (encs x).toArray) hl (by rw [hrec]; simpa using hps x)
   rw [hrec] at hy
   refine ⟨fn, _, assign, body, hy, roundIn_of_wpIn trivial ?_⟩
   have hfr : Frm N [] { tmps := (ps.toArray.zip (encs x).toArray).foldl (fun tmps (t, v) => tmps.setIfInBounds t v) a.tmps, defers := [] } (updL ρ (ps.zip (encs x))) := by
    have := frm_fold (a := a) (N := N) (ps.zip (encs x)) a.tmps ρ (fun p hp => by
     have h1 := (List.all_eq_true.1 hpN) p.1 (List.of_mem_zip hp).1
     exact Nat.le_of_ble_eq_true h1) hf.size hf.get
    refine ⟨?_, rfl, fun t => ?_⟩
    ·simpa using this.1
    ·have := this.2 t; simpa using this
   refine wpIn_mono (hassign (k + 1) x W _ 0 hfr) ?_
   rintro e a2 W2 ⟨ρ2, ds2, hf2, hq⟩
   cases e with
   | normal =>
    obtain ⟨rfl, rfl, rfl⟩ := hq
    refine ⟨_, run_beginRound hl (by rw [hrec]), ?_⟩
    have hl2 : (W2.putObj (k + 1) (.loop { rec .ready none with state := .busy })).heap[k + 1]? = some (.loop { rec .ready none with state := .busy }) := World.putObj_heap_same hlt
    have hk2 : (W2.putObj (k + 1) (.loop { rec .ready none with state := .busy })).heap[k]? = some (.deferred (some [])) := (World.putObj_heap_other (by omega)).trans hkk
    refine wpIn_mono (hbody (k + 1) pre x DI _ ((hI pre).putObj _ hi hn2) hpre _ 0 hf2) ?_
    have fin : ∀ (jump : Option Code) (W3 : World) (D3 : Foot), Only DI (W2.putObj (k + 1) (.loop { rec .ready none with state := .busy })) W3 → Grows DI D3 (W2.putObj (k + 1) (.loop { rec .ready none with state := .busy })) →
      (Instr.endRound (k + 1) jump).run P W3 = .ok (.bool jump.isNone) (W3.putObj (k + 1) (.loop (rec (if jump.isNone then .ready else .done) jump))) ∧ ¬ D3 k ∧ ¬ D3 (k + 1) ∧
      (W3.putObj (k + 1) (.loop (rec (if jump.isNone then .ready else .done) jump))).heap[k + 1]? = some (.loop (rec (if jump.isNone then .ready else .done) jump)) ∧
      (W3.putObj (k + 1) (.loop (rec (if jump.isNone then .ready else .done) jump))).heap[k]? = some (.deferred (some [])) ∧
      Only (footL DI k) W2 (W3.putObj (k + 1) (.loop (rec (if jump.isNone then .ready else .done) jump))) ∧ Grows (footL DI k) (footL D3 k) W2 := fun jump W3 D3 hk3 hg3 => by
     have hl3 := (hk3.same (k + 1) (by simp; omega) hn2).trans hl2
     have hk4 := (hk3.same k (by simp; omega) hn1).trans hk2
     have hr := run_endRound (P := P) jump hl3
     have hlow' := hlow hg3 (by simp; omega) hn1 hn2
     have hg3' : Grows DI D3 W2 := ⟨fun b hb => (hg3.f b hb).imp id (fun h => by simpa using h), hg3.z⟩
     rw [hrec] at hr ⊢
     refine ⟨hr, hlow'.1, hlow'.2, World.putObj_heap_same (Array.getElem?_eq_some_iff.1 hl3).1, (World.putObj_heap_other (by omega)).trans hk4, ?_, foot_grows hg3'⟩
     rw [hrec] at hk3
     have hk1 : footL DI k (k + 1) := Or.inr (Or.inr rfl)
     exact ((only_putObj _ hk1).trans (Grows.refl _ _) (hk3.sub fun b h => (Or.inl h : footL DI k b))).trans (Grows.refl _ _) (only_putObj _ hk1)
    rintro e a3 W3 ⟨ρ3, ds3, hf3, hp⟩
    cases e with
    | normal =>
     obtain ⟨D3, hk3, hg3, hi3⟩ := hp
     obtain ⟨hr, h1, h2, h3, h4, h5, h6⟩ := fin none W3 D3 hk3 hg3
     exact ⟨_, _, hr, footL D3 k, h5, h6, .inl ⟨rfl, D3, rfl, (hI _).putObj _ hi3 h2, h1, h2, h3, h4⟩⟩
    | ret =>
     obtain ⟨D3, hk3, hg3, hi3⟩ := hp
     obtain ⟨hr, h1, h2, h3, h4, h5, h6⟩ := fin (some .ret) W3 D3 hk3 hg3
     exact ⟨_, _, hr, footL D3 k, h5, h6, .inr ⟨rfl, D3, .ret, .inl rfl, rfl, (hIx _ _).putObj _ hi3 h2, h1, h2, h3, h4⟩⟩
    | exit id =>
     obtain ⟨D3, hk3, hg3, hi3⟩ := hp
     obtain ⟨hr, h1, h2, h3, h4, h5, h6⟩ := fin (some (.exit id)) W3 D3 hk3 hg3
     exact ⟨_, _, hr, footL D3 k, h5, h6, .inr ⟨rfl, D3, .exit id, .inr ⟨id, rfl⟩, rfl, (hIx _ _).putObj _ hi3 h2, h1, h2, h3, h4⟩⟩
    | goto t => exact hp.elim
    | panic ch => exact hp.elim
    | outgrown => exact hp.elim
   | exit id => exact hq.elim
   | goto l => exact hq.elim
   | ret => exact hq.elim
   | panic c => exact hq.elim
   | outgrown => exact hq.elim
  ·rw [hJ]
   exact ⟨D0, rfl, hI1, fun h => by have := hb0 _ h; omega, fun h => by have := hb0 _ h; omega, hL1, hK1⟩
  ·-- behind the iterator
   have hfm : ∀ D, Frm N (Eng.mark D :: ds) { a with defers := [Eng.mark D] ++ a.defers } ρ := fun D => ⟨hf.size, by rw [hf.defs]; rfl, hf.get⟩
   rw [hJ, hJx]
   rintro e W2 ⟨⟨v, rfl⟩, D', hO, hG, hh⟩
   have hout : ∀ {DI : Foot} (o : Go.Obj), D' = footL DI k → ¬ DI k → ¬ DI (k + 1) → Only D0 w (W2.putObj (k + 1) o) ∧ Grows D0 DI w := fun {DI} o hD h1 h2 => by
    refine ⟨⟨by simp; have := hO.size; omega, fun b hb hn => ?_⟩, fun b hb => ?_, fun a x e => by have := hG.z a x e; rw [hD] at this; exact this⟩
    ·rw [World.putObj_heap_other (by omega), hO.same b (by omega) fun h => ?_, hO1.same b hb hn]
     rcases h with h | h | h
     ·exact hn h
     ·omega
     ·omega
    ·rcases hG.f b (by rw [hD]; exact .inl hb) with h | h
     ·rcases h with h | rfl | rfl
      ·exact .inl h
      ·exact absurd hb h1
      ·exact absurd hb h2
     ·exact .inr (by omega)
   rcases hh with ⟨DI, hD, hi, hn1, hn2, hl, hk'⟩ | ⟨pre, hpre, DI, c, hc, hD, hi, hn1, hn2, hl, hk'⟩
   ·refine ⟨none, _, by have := run_endLoop (P := P) hl (by rw [hrec]; simp); rw [hrec] at this; exact this, ?_⟩
    obtain ⟨q1, q2⟩ := hout (.loop { rec .ready none with state := .exhausted }) hD hn1 hn2
    rw [hrec] at q1
    exact ⟨ρ, _, hfm _, hdone _ DI _ (Nat.le_of_eq hk) ((hI _).putObj _ hi hn2) hn1 q1 q2 ((World.putObj_heap_other (by omega)).trans hk')⟩
   ·refine ⟨some c, _, by have := run_endLoop (P := P) hl (by rw [hrec]; simp); rw [hrec] at this; exact this, ?_⟩
    have hi' := (hIx c pre).putObj (.loop { rec .done (some c) with state := .exhausted }) hi hn2
    have hk2' : (W2.putObj (k + 1) (.loop { rec .done (some c) with state := .exhausted })).heap[k]? = some (.deferred (some [])) := (World.putObj_heap_other (by omega)).trans hk'
    obtain ⟨q1, q2⟩ := hout (.loop { rec .done (some c) with state := .exhausted }) hD hn1 hn2
    rw [hrec] at hi' hk2' q1
    rcases hc with rfl | ⟨id, rfl⟩
    ·exact wpIn_ret ⟨ρ, _, hfm _, hret _ DI pre _ (Nat.le_of_eq hk) hpre hi' hn1 q1 q2 hk2'⟩
    ·exact wpIn_exit ⟨ρ, _, hfm _, hexit id _ DI pre _ (Nat.le_of_eq hk) hpre hi' hn1 q1 q2 hk2'⟩
end
end Go.EV
namespace Go.EV
open Go Go.RowKit Go.Eng

def IterV (P : Program) {α : Type} (gf : FuncId) (caps : List V) (F : Heap) (val : α → Value) (xs : List α) : Prop :=
 ∀ lb, IterF P gf lb (fun x => [val x]) xs fun Z W => ∃ m, SimH m Z F W ∧ RepL (some m) Z caps lb
def footC (w0 : World) (m : M) (Z : ZM) (H : Heap) : Foot := ⟨Z, fun b => b < w0.heap.size ∨ (∃ p ∈ H, blk m p = some b) ∨ ∃ a x, Z a = some x ∧ a.block = b⟩
theorem SimC.turn {K0 : List Nat} {c : Ctx K0} {m : M} {Z : ZM} {H : Heap} {w w' : World} {row : Option Nat} (S : SimC c m Z H w) (hg : w.grownBy w' row) (hr : ∀ b, row = some b → c.W0.heap.size ≤ b ∧ (∀ p ∈ H, blk m p ≠ some b) ∧ ∀ a x, Z a = some x → a.block ≠ b) : SimC c m Z H w' := by
 have hs := S.step
 have hblk : ∀ p ∈ H, ∀ b, blk m p = some b → w'.heap[b]? = w.heap[b]? := fun p hp b hb => by
  obtain ⟨ob, h1, h2⟩ := (hs.sim.holds p hp).notLp b hb
  exact hg.block b (Array.getElem?_eq_some_iff.1 h1).1 fun e => (hr b e.symm).2.1 p hp hb
 have hz : ∀ a x, Z a = some x → w'.cell? a = w.cell? a := fun a x ha => by
  have h2 := World.block_lt_of_cell? w a (hs.sim.frozen a x ha)
  have : w'.heap[a.block]? = w.heap[a.block]? := hg.block _ h2 fun e => (hr _ e.symm).2.2 a x ha rfl
  simp only [World.cell?, this]
 refine ⟨⟨⟨fun a x ha => (hz a x ha).trans (hs.sim.frozen a x ha), fun p hp => (hs.sim.holds p hp).keep (fun _ _ _ e => e) rfl (fun _ _ e => e) fun b hb => ⟨hblk p hp b hb, fun _ _ e _ => e⟩, hs.sim.nodup, hs.sim.disj⟩, hs.mext, hs.zext, hg.os.trans hs.os, hg.tape.trans hs.tape, hg.output.trans hs.output, Nat.le_trans hs.size hg.size, fun b hb hn => ?_, hs.keep, hs.newk, hs.blks, hs.znew⟩, S.dom⟩
 rw [hg.block b (Nat.lt_of_lt_of_le hb hs.size) fun e => by have := (hr b e.symm).1; omega]
 exact hs.frame b hb hn
theorem SimC.bound {K0 : List Nat} {c : Ctx K0} {m : M} {Z : ZM} {H : Heap} {w w0 : World} (S : SimC c m Z H w) (h : w0.heap.size ≤ w.heap.size) : ∀ b, footC w0 m Z H b → b < w.heap.size := fun b hb => by
 rcases hb with hb | ⟨p, hp, hb⟩ | ⟨a, x, ha, rfl⟩
 ·omega
 ·exact (S.step.sim.holds p hp).blk b hb
 ·exact World.block_lt_of_cell? w a (S.step.sim.frozen a x ha)
def roundV {S Zt : Type} (K0 : List Nat) (hp : S → Heap) (Lr : S → Option Zt) (z : Zt) (E : Env) (ds : List Deferred) (Q : PostV) : PostV
 | .normal, ρ, H, _ => ∃ q', Lr q' = some z ∧ Cut K0 ρ H [] (hp q')
 | .ret, ρ, H, _ => ∃ H1, Cut K0 ρ H [] H1 ∧ Q .ret E H1 ds
 | .exit id, ρ, H, _ => ∃ H1, Cut K0 ρ H [] H1 ∧ Q (.exit id) E H1 ds
 | _, _, _, _ => False
theorem nrm_round {S Zt : Type} {K0 : List Nat} {hp : S → Heap} {Lr : S → Option Zt} {z : Zt} {E ρ : Env} {H : Heap} {ds ds' : List Deferred} {Q : PostV} (q' : S) (hs : Lr q' = some z) (h : Cut K0 ρ H [] (hp q')) : roundV K0 hp Lr z E ds Q .normal ρ H ds' := ⟨q', hs, h⟩
theorem ret_round {S Zt : Type} {K0 : List Nat} {hp : S → Heap} {Lr : S → Option Zt} {z : Zt} {E ρ : Env} {H : Heap} {ds ds' : List Deferred} {Q : PostV} (H1 : Heap) (h : Cut K0 ρ H [] H1) (hq : Q .ret E H1 ds) : roundV K0 hp Lr z E ds Q .ret ρ H ds' := ⟨H1, h, hq⟩
section
variable {K0 : List Nat} {c : Ctx K0} {P : Program} {N : Nat} {Q : PostV} {ds : List Deferred} {ty : TypeId} {pos : String} {aft : Array Edge}
theorem v_rangeF {α Sg Zt : Type} {g : Operand} {t d id : Nat} {body : Code} {gf : FuncId} {caps : List V} {F : Heap} {val : α → Value} {xs : List α} (ks : List Nat) {enc : α → V} {E : Env} (hp : Sg → Heap) (L : List α → Sg → Option Zt) {z : Zt} (q0 : Sg)
  (hg : evV E g = .fn gf [] caps) (hb : hasBody P gf) (hit : IterV P gf caps F val xs) (htN : Nat.ble (t + 1) N = true) (hdN : Nat.ble (d + 1) N = true) (henc : ∀ m Z x, Rep m Z (enc x) (val x))
  (hL : L xs q0 = some z) (hF : ∀ q, selH ks (hp q) = some F) (hks : nodupB ks = true)
  (hround : ∀ l x r q (c2 : Ctx (keys (hp q))), L (x :: r) q = some z → WpV c2 P (some l) N body (roundV (keys (hp q)) hp (L r) z E ds Q) ((d, enc x) :: (t, enc x) :: E) (hp q) [])
  (hdone : ∀ q, L [] q = some z → Q .normal E (hp q) ds) :
  WpV c P none N (.rangeFunc g #[t] (.region id #[⟨some d, .assign (.tmp t), ty, pos, aft, none⟩] false) body) Q E (hp q0) ds := by
 intro ρr w ds1 S hM
 obtain ⟨m, Z, S, hR⟩ := S
 have hG := hR.ev g
 rw [hg] at hG
 obtain ⟨l1, l2, hx, h1, h2⟩ := hG
 cases h1
 have hSw := S.step.size
 have hMw : ∀ D ∈ ds1.filterMap (fun x => match x.target with | .collected D => some D | _ => none), D < w.heap.size := fun D hD => by
  obtain ⟨Ds, rfl, h3, h4⟩ := hM
  simp only [List.filterMap_map, List.mem_filterMap, Function.comp, Eng.mark, Option.some.injEq] at hD
  obtain ⟨D', h5, rfl⟩ := hD
  exact (Array.getElem?_eq_some_iff.1 (h4 _ h5).1).1
 have hsub : ∀ {mm : M} {ZZ : ZM} {q : Sg} {W : World}, SimC c mm ZZ (hp q) W → SimH mm ZZ F W := fun {mm ZZ q W} S => by
  have hm := selH_mem (hF q)
  refine ⟨S.step.sim.frozen, fun p hp' => S.step.sim.holds p (hm.2 p hp'), by rw [hm.1]; exact nodup_of hks, fun p hp' r hr => S.step.sim.disj p (hm.2 p hp') r (hm.2 r hr)⟩
 obtain ⟨Inv, hInv⟩ : ∃ Inv : M → ZM → Heap → Foot → World → Prop, Inv = fun mm ZZ H D W => SimC c mm ZZ H W ∧ (∀ k L loc, m k L = some loc → mm k L = some loc) ∧ (∀ a x, Z a = some x → ZZ a = some x) ∧ D = footC w mm ZZ H ∧ w.heap.size ≤ W.heap.size ∧ ∀ (b : Nat) (ob : Go.Obj), w.heap[b]? = some ob → isLp ob = true → W.heap[b]? = some ob := ⟨_, rfl⟩
 have hStab : ∀ {mm : M} {ZZ : ZM} {H : Heap} {D : Foot} {A B : World} {row : Option Nat}, Inv mm ZZ H D A → A.grownBy B row → (∀ b, row = some b → ¬ D b) → Inv mm ZZ H D B := by
  rw [hInv]
  rintro mm ZZ H D A B row ⟨S, a1, a2, rfl, a4, a5⟩ hgr hr
  refine ⟨S.turn hgr fun b e => ?_, a1, a2, rfl, Nat.le_trans a4 hgr.size, fun b ob hb hl => ?_⟩
  ·have hn := hr b e
   refine ⟨?_, fun p hp' hb => hn (.inr (.inl ⟨p, hp', hb⟩)), fun a x ha he => hn (.inr (.inr ⟨a, x, ha, he⟩))⟩
   have h3 : ¬ b < w.heap.size := fun h => hn (.inl h)
   have h4 : c.W0.heap.size ≤ w.heap.size := hSw
   omega
  ·have hlt := (Array.getElem?_eq_some_iff.1 hb).1
   rw [hgr.block b (Nat.lt_of_lt_of_le hlt a4) fun e => hr b e.symm (.inl hlt)]
   exact a5 b ob hb hl
 have hBnd : ∀ {mm : M} {ZZ : ZM} {H : Heap} {D : Foot} {A : World}, Inv mm ZZ H D A → ∀ b, D b → b < A.heap.size := by
  rw [hInv]
  rintro mm ZZ H D A ⟨S, a1, a2, rfl, a4, a5⟩
  exact S.bound a4
 have hmark : ∀ {mm : M} {ZZ : ZM} {H : Heap} {D : Foot} {W : World} (K : Nat), Inv mm ZZ H D W → w.heap.size ≤ K → W.heap[K]? = some (.deferred (some [])) → MarksOK c (Eng.mark K :: ds1) W := by
  rw [hInv]
  rintro mm ZZ H D W K ⟨S', a1, a2, rfl, a4, a5⟩ hK hKw
  obtain ⟨Ds, rfl, h3, h4⟩ := hM
  have hc := S.step.size
  refine ⟨K :: Ds, rfl, List.nodup_cons.2 ⟨fun h => ?_, h3⟩, fun D hD => ?_⟩
  ·have := (Array.getElem?_eq_some_iff.1 (h4 _ h).1).1
   omega
  ·rcases List.mem_cons.1 hD with rfl | hD
   ·exact ⟨hKw, by omega⟩
   ·exact ⟨a5 _ _ (h4 D hD).1 rfl, (h4 D hD).2⟩
 have hRup : ∀ {mm : M} {ZZ : ZM} {H : Heap} {D : Foot} {W : World}, Inv mm ZZ H D W → RepS mm ZZ E ρr := by
  rw [hInv]
  rintro mm ZZ H D W ⟨S', a1, a2, _⟩
  exact hR.up a2 a1
 refine w_rangeF (lb := l2) (encs := fun x => [val x]) (ps := [t]) hx hb (hit l2) (fun _ => rfl) (by simp [htN])
  (fun pre D W => ∃ q mm ZZ, Inv mm ZZ (hp q) D W ∧ L (xs.drop pre.length) q = some z)
  (fun co _ D W => ∃ H1 mm ZZ e, Inv mm ZZ H1 D W ∧ Q e E H1 ds ∧ ((co = .ret ∧ e = .ret) ∨ ∃ id, co = .exit id ∧ e = .exit id))
  (fun pre => ⟨?_, ?_, ?_⟩) (fun co pre => ⟨?_, ?_, ?_⟩) ?_ (footC w m Z (hp q0)) ⟨q0, m, Z, ?_, by simpa using hL⟩ (fun x => upd (upd ρr t (val x)) d (val x)) ?_ ?_ ?_ ?_ ?_
 ·rintro D A B row ⟨q, mm, ZZ, h3, h4⟩ hgr hr
  exact ⟨q, mm, ZZ, hStab h3 hgr hr, h4⟩
 ·rintro D A ⟨q, mm, ZZ, h3, h4⟩
  exact hBnd h3
 ·rintro D A ⟨q, mm, ZZ, h3, h4⟩ a x hz
  rw [hInv] at h3
  obtain ⟨_, _, _, rfl, _⟩ := h3
  exact Or.inr (Or.inr ⟨a, x, hz, rfl⟩)
 ·rintro D A B row ⟨H1, mm, ZZ, e, h3, h4⟩ hgr hr
  exact ⟨H1, mm, ZZ, e, hStab h3 hgr hr, h4⟩
 ·rintro D A ⟨H1, mm, ZZ, e, h3, h4⟩
  exact hBnd h3
 ·rintro D A ⟨H1, mm, ZZ, e, h3, h4⟩ a x hz
  rw [hInv] at h3
  obtain ⟨_, _, _, rfl, _⟩ := h3
  exact Or.inr (Or.inr ⟨a, x, hz, rfl⟩)
 ·rintro pre D A ⟨q, mm, ZZ, h3, h4⟩
  rw [hInv] at h3
  obtain ⟨g1, g2, g3, rfl, g4, g5⟩ := h3
  exact ⟨mm, hsub g1, h2.up g3 fun f e => by cases e; exact ⟨mm, rfl, g2⟩⟩
 ·rw [hInv]
  exact ⟨S, fun _ _ _ e => e, fun _ _ e => e, rfl, Nat.le_refl _, fun _ _ e _ => e⟩
 ·intro l x W
  refine w_region (l := [_]) ?_
  refine ops_val d (val x) rfl hdN rfl rfl (w' := W) (by simp [execOp, ev, updL, upd]) ?_
  exact ops_nil ⟨rfl, rfl, rfl⟩
 ·rintro l pre x D W ⟨q, mm, ZZ, h3, h4⟩ hpre
  have hdrop : xs.drop pre.length = x :: xs.drop (pre ++ [x]).length := by
   obtain ⟨suf, rfl⟩ := hpre
   simp
  rw [hdrop] at h4
  have hRx := hRup h3
  have h3' := h3
  rw [hInv] at h3'
  obtain ⟨S', a1, a2, hD, a4, a5⟩ := h3'
  have hw := hround l x _ q ⟨W, mm, ZZ, hp q, rfl, S'.dom⟩ h4 _ W [] ⟨mm, ZZ, ⟨Step.refl S'.step.sim, S'.dom⟩, (hRx.put t (henc _ _ x)).put d (henc _ _ x)⟩ MarksOK.nil
  have hfin : ∀ {m' : M} {Z' : ZM} {H1 : Heap} {W' : World}, SimC (⟨W, mm, ZZ, hp q, rfl, S'.dom⟩ : Ctx (keys (hp q))) m' Z' H1 W' → ∃ D', Only D W W' ∧ Grows D D' W ∧ Inv m' Z' H1 D' W' := fun {m' Z' H1 W'} S2 => by
   refine ⟨footC w m' Z' H1, ⟨S2.step.size, fun b hb hn => S2.step.frame b hb fun p hp' e => hn (by rw [hD]; exact .inr (.inl ⟨p, hp', e⟩))⟩, ⟨fun b hb => ?_, fun a x e => by rw [hD] at e; exact S2.step.zext a x e⟩, ?_⟩
   ·rw [hD]
    rcases hb with hb | ⟨p, hp', hb⟩ | ⟨a, y, ha, rfl⟩
    ·exact .inl (.inl hb)
    ·rcases S2.step.blks p hp' b hb with h | ⟨r, hr, e⟩
     ·exact .inr h
     ·exact .inl (.inr (.inl ⟨r, hr, e⟩))
    ·rcases S2.step.znew a y ha with h | h | ⟨r, hr, e⟩
     ·exact .inl (.inr (.inr ⟨a, y, h, rfl⟩))
     ·exact .inr h
     ·exact .inl (.inr (.inl ⟨r, hr, e⟩))
   ·rw [hInv]
    exact ⟨⟨S'.step.trans S2.step, S2.dom⟩, fun k L loc e => S2.step.mext _ _ _ (a1 k L loc e), fun a y e => S2.step.zext _ _ (a2 a y e), rfl, Nat.le_trans a4 S2.step.size, fun b ob hb hl => S2.step.lp S'.step.sim (a5 b ob hb hl) hl⟩
  refine w_mono hw fun e ρ2 ds2 W' ⟨ρv, Hv, S2, _, hq⟩ => ?_
  cases e with
  | normal =>
   obtain ⟨q', hq1, hcut⟩ := hq
   obtain ⟨m', Z', S3, _⟩ := hcut _ _ _ S2
   obtain ⟨D', g1, g2, g3⟩ := hfin S3
   exact ⟨D', g1, g2, q', m', Z', g3, hq1⟩
  | ret =>
   obtain ⟨H1, hcut, hq1⟩ := hq
   obtain ⟨m', Z', S3, _⟩ := hcut _ _ _ S2
   obtain ⟨D', g1, g2, g3⟩ := hfin S3
   exact ⟨D', g1, g2, H1, m', Z', .ret, g3, hq1, .inl ⟨rfl, rfl⟩⟩
  | exit id =>
   obtain ⟨H1, hcut, hq1⟩ := hq
   obtain ⟨m', Z', S3, _⟩ := hcut _ _ _ S2
   obtain ⟨D', g1, g2, g3⟩ := hfin S3
   exact ⟨D', g1, g2, H1, m', Z', .exit id, g3, hq1, .inr ⟨id, rfl, rfl⟩⟩
  | goto l => exact hq.elim
  | panic ch => exact hq.elim
  | outgrown => exact hq.elim
 ·rintro K D W hK ⟨q, mm, ZZ, h3, h4⟩ _ _ _ hKw
  have h3' := h3
  rw [hInv] at h3'
  exact ⟨E, hp q, ⟨mm, ZZ, h3'.1, hRup h3⟩, hmark K h3 hK hKw, hdone q (by simpa using h4)⟩
 ·rintro K D pre W hK _ ⟨H1, mm, ZZ, e, h3, hq, ⟨_, rfl⟩ | ⟨id, h, _⟩⟩ _ _ _ hKw
  ·have h3' := h3
   rw [hInv] at h3'
   exact ⟨E, H1, ⟨mm, ZZ, h3'.1, hRup h3⟩, hmark K h3 hK hKw, hq⟩
  ·cases h
 ·rintro id K D pre W hK _ ⟨H1, mm, ZZ, e, h3, hq, ⟨h, _⟩ | ⟨id', h, rfl⟩⟩ _ _ _ hKw
  ·cases h
  ·cases h
   have h3' := h3
   rw [hInv] at h3'
   exact ⟨E, H1, ⟨mm, ZZ, h3'.1, hRup h3⟩, hmark K h3 hK hKw, hq⟩
end
end Go.EV
namespace Go.EV
open Go Go.RowKit Go.Eng
theorem range_mod {α : Type} (f : Nat → α) (sz : Nat) : ∀ n, (List.range (n * sz)).map (fun j => f (j % sz)) = (List.replicate n ((List.range sz).map f)).flatten
  | 0 => by simp
  | n + 1 => by
    rw [Nat.succ_mul, List.range_add, List.map_append, range_mod f sz n, List.replicate_succ', List.flatten_append, List.map_map]
    congr 1
    simp only [List.flatten_cons, List.flatten_nil, List.append_nil]
    refine List.map_congr_left fun j hj => ?_
    have hj := List.mem_range.1 hj
    simp only [Function.comp]
    rw [Nat.add_comm, Nat.add_mul_mod_self_right, Nat.mod_eq_of_lt hj]
theorem made_rep {m : Option M} {Z : ZM} {zc : Array Value} {n : Nat} (h0 : 0 < zc.size) : RepL m Z (List.replicate n (zc.toList.map ofC1)).flatten (madeCells zc (n * zc.size)).toList := by
  have e : (madeCells zc (n * zc.size)).toList = (List.replicate n zc.toList).flatten := by
    have h1 : (List.range zc.size).map (fun j => zc[j]!) = zc.toList := by
      apply List.ext_getElem
      · simp
      · intro i h1 h2
        simp at h1
        simp [h1]
    rw [← h1, ← range_mod]
    simp [madeCells]
  rw [e, ← List.map_replicate, ← List.map_flatten]
  exact rep_ofC1s _
theorem nils_vs {m : Option M} {Z : ZM} {sz : Nat} {y : Value} (h : Rep m Z .nils y) : Rep m Z (.vs sz []) y := by
  have h : y = .slice none 0 0 := h
  subst h
  exact ⟨none, 0, rfl, Nat.le_refl _, by simp [maxLen], .inl rfl⟩
theorem nils_row {Z : ZM} {sz : Nat} {l : List Value} (h : RepL none Z [.nils] l) : RepL none Z [.vs sz []] l := by
  obtain ⟨x, xs, h1, h2, h3⟩ := h
  exact ⟨x, xs, h1, nils_vs h2, h3⟩
theorem RepL.row_weak {Z : ZM} {cs cs2 : List V} (hw : ∀ (Z : ZM) (l : List Value), RepL none Z cs l → RepL none Z cs2 l) : ∀ (n : Nat) (l : List Value), RepL none Z (List.replicate n cs).flatten l → RepL none Z (List.replicate n cs2).flatten l
  | 0, l, h => h
  | n + 1, l, h => by
    rw [List.replicate_succ, List.flatten_cons] at h ⊢
    have h1 := h.take cs.length
    have h2 := h.drop cs.length
    rw [List.take_left] at h1
    rw [List.drop_left] at h2
    rw [← List.take_append_drop cs.length l]
    exact RepL.append (hw _ _ h1) (RepL.row_weak hw n _ h2)
section
variable {P : Program} {ρ : Env} {dst : Option Tmp} {ty : TypeId} {pos : String} {aft : Array Edge} {gd : Option (Nat × Bool)}
theorem loc_makeSlice {t d e sz bytes n : Nat} {x y : Operand} {k k2 : IntKind} {cs cs2 : List V} (hT : elemT2 P t = some (e, sz, bytes)) (hz : zeroV P e = some cs) (hx : evV ρ x = .int k n) (hy : evV ρ y = .int k2 n) (hlen : n * bytes ≤ 281474976710656) (h63 : n ≤ 9223372036854775807)
    (hw : ∀ (Z : ZM) (l : List Value), RepL none Z cs l → RepL none Z cs2 l) (hl2 : cs2.length = cs.length) :
    Loc P ⟨dst, .makeSlice t x y, ty, pos, aft, gd⟩ ρ [] (.sl sz d n 0 n) [(d, .row e sz 0 (List.replicate n cs2))] := by
  intro ρr m Z w hops hs hfr
  have hX : ev ρr x = .int k n := by have := hops x (by simp [Op.operands]); rw [hx] at this; exact this
  have hY : ev ρr y = .int k2 n := by have := hops y (by simp [Op.operands]); rw [hy] at this; exact this
  obtain ⟨i, z, hu, hi, hiz, hsz, hb, h0, h00⟩ := elemT2_of hT
  have hcs : cs = z.cells.toList.map ofC1 := by
    simp only [zeroV, hi, hiz, Option.some.injEq] at hz
    exact hz.symm
  subst hcs
  have hrun := run_make (P := P) (w := w) t e i z hu hi hiz k k2 (n : Int) (n : Int) (by omega) (by omega) (by rw [hb, Int.mul_comm]; omega) (by omega)
  have e1 : ((n : Int).toNat) = n := by omega
  rw [e1] at hrun
  have hszz : z.cells.size = i.size := by rw [h0, hsz]
  have hcl : cs2.length = i.size := by rw [hl2]; simp [hszz]
  have hels : (List.replicate n cs2).length = n := by simp
  obtain ⟨m', h2, h3⟩ := Step.new (m := m) (Z := Z) (w := w) (k := d) (o := .row e sz 0 (List.replicate n cs2)) (.cells (madeCells z.cells (n * i.size)) e) n hs.frozen (fun L => hfr d (by simp [keys]) (by simp [keys]) L) fun m' g1 g2 g3 => by
    by_cases hn0 : n = 0
    · subst hn0
      have hv0 : (Obj.row e sz 0 (List.replicate 0 cs2)).ver = 0 := rfl
      rw [hv0] at g1
      exact .inl ⟨h00, rfl, rfl, ⟨_, g1⟩, fun L l e => by have := g2 L l e; rw [hv0] at this; omega⟩
    have hver : (Obj.row e sz 0 (List.replicate n cs2)).ver = n := hels
    rw [hver] at g1
    have hrep := made_rep (m := none) (Z := Z) (zc := z.cells) (n := n) (by omega)
    rw [hszz] at hrep
    have hrep := RepL.row_weak hw n _ hrep
    refine .inr ⟨w.heap.size, n, madeCells z.cells (n * i.size), (0, 0), by rw [hels]; exact g1, by omega, World.alloc_heap_new w _, by rw [hels]; exact Nat.le_refl _, by simp only [maxLen]; omega, by rw [size_madeCells, hsz], by omega, ?_, ?_, by simp, by simp, fun a x ha e => by have := frozen_lt hs.frozen ha; omega, fun L l e => by have := g2 L l e; rw [hver] at this; rw [hels]; omega, fun off x ho => by omega⟩
    · rw [hels, ← hsz, List.take_of_length_le (by simp [size_madeCells])]
      exact hrep
    · intro c hc
      rw [List.eq_of_mem_replicate hc, hcl, hsz]
  have hver : (Obj.row e sz 0 (List.replicate n cs2)).ver = n := hels
  rw [hver] at h3
  refine ⟨rfl, .inl ⟨.slice (some ⟨w.heap.size, 0, none⟩) n n, w.alloc (.cells (madeCells z.cells (n * i.size)) e), ?_, m', Z, h2, m', _, rfl, h3, by simp, by simp only [maxLen]; omega, .inl (by simp)⟩⟩
  simp only [execOp, hX, hY, Sem.run_bind, hrun, Result.andThen_ok, Sem.run_pure]
theorem loc_makeSliceT {t d e sz bytes L : Nat} {q : Int} {x y : Operand} {k k2 : IntKind} {cs cs2 : List V} {all : List (List V)} (hT : elemT2 P t = some (e, sz, bytes)) (hz : zeroV P e = some cs) (hx : evV ρ x = .int k q) (hy : evV ρ y = .int k2 q) (hl2 : Nat.beq cs2.length cs.length = true) (h0 : 0 ≤ q) (hlen : q * bytes ≤ 281474976710656) (h63 : q ≤ 9223372036854775807) (hall : List.replicate q.toNat cs2 = all) (hL : L = q.toNat) (hw : ∀ (Z : ZM) (l : List Value), RepL none Z cs l → RepL none Z cs2 l) :
    Loc P ⟨dst, .makeSlice t x y, ty, pos, aft, gd⟩ ρ [] (.sl sz d L 0 L) [(d, .row e sz 0 all)] := by
  subst hall hL
  have e1 : q = ((q.toNat : Nat) : Int) := by omega
  exact loc_makeSlice hT hz (by rw [← e1]; exact hx) (by rw [← e1]; exact hy) (by have : ((q.toNat * bytes : Nat) : Int) ≤ 281474976710656 := by rw [Int.natCast_mul, ← e1]; exact hlen
                                                                                  omega) (by omega) hw (Nat.eq_of_beq_eq_true hl2)
end
end Go.EV
namespace Go.EV
open Go Go.RowKit Go.Eng
section
variable {K0 : List Nat} {ρ : Env} {H : Heap}
end
def WkL (a b : List V) : Prop := ∀ (Z : ZM) (l : List Value), RepL none Z a l → RepL none Z b l
theorem wk_nil : WkL [] [] := fun _ _ h => h
theorem wk_same {v : V} {a b : List V} (h : WkL a b) : WkL (v :: a) (v :: b) := fun Z l hl => by
 obtain ⟨x, xs, h1, h2, h3⟩ := hl
 exact ⟨x, xs, h1, h2, h Z xs h3⟩
theorem wk_nils {sz : Nat} {a b : List V} (h : WkL a b) : WkL (.nils :: a) (.vs sz [] :: b) := fun Z l hl => by
 obtain ⟨x, xs, h1, h2, h3⟩ := hl
 exact ⟨x, xs, h1, nils_vs h2, h Z xs h3⟩
theorem Step.weak1 {m m' : M} {Z Z' : ZM} {F : Heap} {w w' : World} {d : Nat} {o o' : Obj} (h : Step m Z F w m' Z' [(d, o)] w') (hv : o'.ver = o.ver) (hh : Holds m' Z' w' d o → Holds m' Z' w' d o') : Step m Z F w m' Z' [(d, o')] w' := by
 have hb : blk m' (d, o') = blk m' (d, o) := by simp only [blk, hv]
 refine ⟨⟨h.sim.frozen, fun p hp => ?_, h.sim.nodup, fun p hp q hq _ _ _ => ?_⟩, h.mext, h.zext, h.os, h.tape, h.output, h.size, h.frame, h.keep, h.newk, fun p hp b hb' => ?_, h.znew⟩
 ·simp only [List.mem_singleton] at hp
  subst hp
  exact hh (h.sim.holds _ (List.mem_singleton.2 rfl))
 ·simp only [List.mem_singleton] at hp hq
  subst hp; subst hq; rfl
 ·simp only [List.mem_singleton] at hp
  subst hp
  exact h.blks (d, o) (List.mem_singleton.2 rfl) b (by rw [← hb]; exact hb')
section
variable {P : Program} {ρ : Env} {dst : Option Tmp} {ty : TypeId} {pos : String} {aft : Array Edge} {gd : Option (Nat × Bool)}
theorem loc_buildSliceW {t d e sz n : Nat} {parts : List (Nat × Operand)} {els els2 all : List (List V)} {fl fl2 : List V} (hT : elemT P t = some (e, sz)) (hsz : Nat.ble (n * sz) 16777216 = true) (h : rowsV n sz (parts.map fun p => (p.1, evV ρ p.2)) = some els)
  (h1 : els.flatten = fl) (h2 : els2.flatten = fl2) (hw : WkL fl fl2) (hl : Nat.beq els2.length els.length = true) (hc : els2.all (fun e => Nat.beq e.length sz) = true) (ha : els2 = all) :
  Loc P ⟨dst, .buildSlice t n parts.toArray, ty, pos, aft, gd⟩ ρ [] (.sl sz d n 0 n) [(d, .row e sz 0 all)] := by
 subst ha
 have hL := loc_buildSlice (dst := dst) (ty := ty) (pos := pos) (aft := aft) (gd := gd) (d := d) hT hsz h
 have hl := Nat.eq_of_beq_eq_true hl
 intro ρr m Z w hops hs hfr
 refine (hL ρr m Z w hops hs (fun k hk hk' L => hfr k (by simpa [keys] using hk) hk' L)).mono fun x w' hx => ?_
 obtain ⟨m', Z', st, hr⟩ := hx
 refine ⟨m', Z', st.weak1 (by simp only [Obj.ver]; exact hl) fun hh => ?_, hr⟩
 rcases hh with ⟨g1, g2, g3, g4, g5⟩ | ⟨b, cap, cur, fr, g1, g2, g3, g4, g5, g6, g7, g8, g9, g10, g11, g12, g13, g14⟩
 ·exact .inl ⟨g1, by rw [g2] at hl; exact List.eq_nil_of_length_eq_zero hl, g3, g4, g5⟩
 ·refine .inr ⟨b, cap, cur, fr, by rw [hl]; exact g1, g2, g3, by rw [hl]; exact g4, g5, g6, g7, ?_, fun e he => Nat.eq_of_beq_eq_true ((List.all_eq_true.1 hc) e he), g10, by rw [hl]; exact g11, g12, by rw [hl]; exact g13, g14⟩
  rw [hl, h2]
  rw [h1] at g8
  exact hw _ _ g8
end
end Go.EV
namespace Go.EV
open Go Go.RowKit Go.Eng
def sortI (l : List Int) : List Int := l.mergeSort fun x y => decide (x ≤ y)
def sortS (l : List (List UInt8)) : List (List UInt8) := l.mergeSort fun x y => decide (x ≤ y)
theorem sortI_length (l : List Int) : (sortI l).length = l.length := List.length_mergeSort _
theorem sortS_length (l : List (List UInt8)) : (sortS l).length = l.length := List.length_mergeSort _
end Go.EV
namespace Go.EV
open Go Go.RowKit Go.Eng

structure IS (m : M) (Z : ZM) (F : Heap) (ρ : Env) (ρr : Slots) (w : World) : Prop where
 sim : SimH m Z F w
 rep : RepS m Z ρ ρr
section
variable {P : Program} {r : Option Nat} {N : Nat} {all rest : List Oper} {Q : Post} {ρr : Slots} {ds : List Deferred} {w : World} {m : M} {Z : ZM} {F : Heap} {ρ : Env} {o : Oper}
theorem upd_ne {ρr : Slots} {d t : Nat} {x : Value} (h : t ≠ d) : upd ρr d x t = ρr t := by
 show (bif Nat.beq t d then x else ρr t) = _
 cases hb : Nat.beq t d with
 | true => exact absurd (Nat.eq_of_beq_eq_true hb) h
 | false => rfl
theorem upd_eq {ρr : Slots} {d : Nat} {x : Value} : upd ρr d x d = x := by
 show (bif Nat.beq d d then x else ρr d) = _
 rw [Nat.beq_refl]; rfl
theorem i_pure {d : Nat} {v : V} {op : Op} {ty : TypeId} {pos : String} {aft : Array Edge} {gd : Option (Nat × Bool)} (S : IS m Z F ρ ρr w) (hN : Nat.ble (d + 1) N = true) (hw : wantedV all ρ ⟨some d, op, ty, pos, aft, gd⟩ = some true) (hv : pureV P ρ op = some v)
  (h : ∀ ρ', IS m Z F ((d, v) :: ρ) ρ' w → (∀ t, t ≠ d → ρ' t = ρr t) → Ops P r N all Q rest ρ' ds w) : Ops P r N all Q (⟨some d, op, ty, pos, aft, gd⟩ :: rest) ρr ds w := by
 obtain ⟨hn, u, h1, h2⟩ := pure_sound (P := P) (w := w) (dst := some d) (ty := ty) (pos := pos) (aft := aft) (gd := gd) (m := some m) (Z := Z) hv (fun x _ => S.rep.ev x) S.sim.frozen
 exact ops_val d u rfl hN (wanted_of S.rep hw) hn h1 (h _ ⟨S.sim, S.rep.put d h2⟩ fun t ht => upd_ne ht)
theorem i_load {d k off bt : Nat} {cs : List V} {v : V} {t : TypeId} {a : Operand} {ty : TypeId} {pos : String} {aft : Array Edge} {gd : Option (Nat × Bool)} (S : IS m Z F ρ ρr w) (hN : Nat.ble (d + 1) N = true) (hw : wantedV all ρ ⟨some d, .load t a, ty, pos, aft, gd⟩ = some true)
  (ha : evV ρ a = .ptr k 0 off) (hg : (k, Obj.box bt cs) ∈ F) (hv : atV P t cs off = some v)
  (h : ∀ ρ', IS m Z F ((d, v) :: ρ) ρ' w → (∀ t, t ≠ d → ρ' t = ρr t) → Ops P r N all Q rest ρ' ds w) : Ops P r N all Q (⟨some d, .load t a, ty, pos, aft, gd⟩ :: rest) ρr ds w := by
 have hs1 : SimH m Z [(k, .box bt cs)] w := ⟨S.sim.frozen, fun p hp => by simp only [List.mem_singleton] at hp; subst hp; exact S.sim.holds _ hg, by simp [keys], fun p hp q hq _ _ _ => by simp only [List.mem_singleton] at hp hq; subst hp; subst hq; rfl⟩
 have hsc := hs1.holds _ (List.mem_singleton.2 rfl)
 obtain ⟨b, cur, g1, g2, g3, g4, g5⟩ := hsc
 have hx := S.rep.ev a
 rw [ha] at hx
 obtain ⟨f', loc, e1, e2, e3⟩ := hx
 cases e1
 rw [g1] at e2; cases e2
 have hcell : ∀ j u, cur.toList[j]? = some u → w.cell? ⟨b, j, none⟩ = some u := fun j u hu => by
  rw [cell_of_row w b j cur bt (0, 0) g2]; simpa using hu
 have key : ∃ u, (execOp (ev ρr) ⟨some d, .load t a, ty, pos, aft, gd⟩).run P w = .ok (.value u) w ∧ Rep (some m) Z v u := by
  unfold atV at hv
  split at hv
  ·rename_i hsh
   split at hv
   ·rename_i v' hv'
    split at hv
    ·cases hv
     obtain ⟨u, h4, h5⟩ := g3.get hv'
     exact ⟨u, run_load_scal (shape_scal hsh) e3 (hcell _ _ h4), h5⟩
    ·cases hv
   ·cases hv
  ·rename_i n hsh
   split at hv
   ·rename_i hk
    have hk := Nat.le_of_ble_eq_true hk
    cases hv
    have hl := g3.length
    refine ⟨.agg ((cur.toList.drop off).take n).toArray, run_load_agg _ (shape_agg hsh) e3 (by simp at hl ⊢; omega) fun j u hj => ?_, _, rfl, (g3.drop off).take n⟩
    rw [Addr.add_lit]
    have hjn : j < n := by have := (List.getElem?_eq_some_iff.1 hj).1; simp at this; omega
    rw [List.getElem?_take, if_pos hjn, List.getElem?_drop] at hj
    exact hcell _ _ hj
   ·cases hv
  ·cases hv
 obtain ⟨u, h1, h2⟩ := key
 exact ops_val d u rfl hN (wanted_of S.rep hw) rfl h1 (h _ ⟨S.sim, S.rep.put d h2⟩ fun t ht => upd_ne ht)
theorem i_val {d : Nat} {u : Value} {op : Op} {w' : World} {ty : TypeId} {pos : String} {aft : Array Edge} {gd : Option (Nat × Bool)} (S : IS m Z F ρ ρr w) (S' : SimH m Z F w') (hN : Nat.ble (d + 1) N = true) (hw : wantedV all ρ ⟨some d, op, ty, pos, aft, gd⟩ = some true) (hn : notDefer op = true)
  (hr : (execOp (ev ρr) ⟨some d, op, ty, pos, aft, gd⟩).run P w = .ok (.value u) w') (v : V) (hv : Rep (some m) Z v u)
  (h : ∀ ρ', IS m Z F ((d, v) :: ρ) ρ' w' → (∀ t, t ≠ d → ρ' t = ρr t) → ρ' d = u → Ops P r N all Q rest ρ' ds w') : Ops P r N all Q (⟨some d, op, ty, pos, aft, gd⟩ :: rest) ρr ds w :=
 ops_val d u rfl hN (wanted_of S.rep hw) hn hr (h _ ⟨S', S.rep.put d hv⟩ (fun t ht => upd_ne ht) upd_eq)
theorem i_skip {d : Nat} {op : Op} {ty : TypeId} {pos : String} {aft : Array Edge} {gd : Option (Nat × Bool)} (S : IS m Z F ρ ρr w) (hN : Nat.ble (d + 1) N = true) (hw : wantedV all ρ ⟨some d, op, ty, pos, aft, gd⟩ = some false)
  (h : ∀ ρ', IS m Z F ((d, .no) :: ρ) ρ' w → (∀ t, t ≠ d → ρ' t = ρr t) → Ops P r N all Q rest ρ' ds w) : Ops P r N all Q (⟨some d, op, ty, pos, aft, gd⟩ :: rest) ρr ds w :=
 ops_skip d rfl hN (wanted_of S.rep hw) (h _ ⟨S.sim, S.rep.put d rfl⟩ fun t ht => upd_ne ht)
theorem w_loopG {G : Type} {x : Code} (Inv : G → Slots → List Deferred → World → Prop) (μ : G → Nat) (g0 : G) (hi : Inv g0 ρr ds w)
  (hround : ∀ g ρ' ds' w', Inv g ρ' ds' w' → Wp P r N x (andThen (fun ρ2 ds2 w2 => ∃ g', Inv g' ρ2 ds2 w2 ∧ μ g' < μ g) Q) ρ' ds' w') : Wp P r N (.loop x) Q ρr ds w := by
 intro a n hf
 let I : Act → World → Nat → Prop := fun a w m => ∃ g ρ' ds2, Frm N ds2 a ρ' ∧ Inv g ρ' ds2 w ∧ μ g = m
 have hex : ∀ a w, (∃ m, I a w m) → ∃ m, I a w m ∧ ∀ k, k < m → ¬ I a w k := fun a w ⟨m, hm⟩ => least _ m hm
 refine wpIn_loop (fun a w => ∃ m, I a w m) (fun a w => (Classical.epsilon fun m => I a w m ∧ ∀ k, k < m → ¬ I a w k)) ⟨_, g0, ρr, ds, hf, hi, rfl⟩ ?_
 intro a w hI
 obtain ⟨⟨g, ρ', ds2, hf', hinv, hm⟩, hmin⟩ := Classical.epsilon_spec (hex a w hI)
 refine wpIn_mono (hround g ρ' ds2 w hinv a n hf') fun e a' w' hq => ?_
 obtain ⟨ρ2, ds2, hf2, hq⟩ := hq
 cases e with
 | normal =>
  obtain ⟨g', hinv', hlt⟩ := hq
  have hI' : I a' w' (μ g') := ⟨g', ρ2, ds2, hf2, hinv', rfl⟩
  refine ⟨⟨_, hI'⟩, ?_⟩
  obtain ⟨_, hmin'⟩ := Classical.epsilon_spec (hex a' w' ⟨_, hI'⟩)
  refine Nat.lt_of_le_of_lt ?_ (hm ▸ hlt)
  exact Nat.le_of_not_lt fun hl => hmin' _ hl hI'
 | exit id => exact ⟨ρ2, ds2, hf2, hq⟩
 | goto l => exact ⟨ρ2, ds2, hf2, hq⟩
 | ret => exact ⟨ρ2, ds2, hf2, hq⟩
 | panic ch => exact ⟨ρ2, ds2, hf2, hq⟩
 | outgrown => exact ⟨ρ2, ds2, hf2, hq⟩
theorem i_indexVs {d e sz : Nat} {t : TypeId} {x ix : Operand} {k : IntKind} {i : Int} {els : List (List V)} {cs : List V} {ty : TypeId} {pos : String} {aft : Array Edge} {gd : Option (Nat × Bool)} (S : IS m Z F ρ ρr w) (hN : Nat.ble (d + 1) N = true) (hw : wantedV all ρ ⟨some d, .indexAddr t x ix, ty, pos, aft, gd⟩ = some true)
  (ht : elemT P t = some (e, sz)) (hx : evV ρ x = .vs sz els) (hi : evV ρ ix = .int k i) (h0 : 0 ≤ i) (hc : els[i.toNat]? = some cs)
  (h : ∀ ρ', IS m Z F ((d, .vp cs 0) :: ρ) ρ' w → (∀ t, t ≠ d → ρ' t = ρr t) → Ops P r N all Q rest ρ' ds w) : Ops P r N all Q (⟨some d, .indexAddr t x ix, ty, pos, aft, gd⟩ :: rest) ρr ds w := by
 have key : ∃ u, (execOp (ev ρr) ⟨some d, .indexAddr t x ix, ty, pos, aft, gd⟩).run P w = .ok (.value u) w ∧ Rep (some m) Z (.vp cs 0) u := by
  have hX := S.rep.ev x
  have hI := S.rep.ev ix
  rw [hx] at hX; rw [hi] at hI
  have hI : ev ρr ix = .int k i := hI
  obtain ⟨A, c, h1, h2, h3, h4⟩ := hX
  have hlt := (List.getElem?_eq_some_iff.1 hc).1
  rcases h4 with h4 | ⟨a, rfl, h5⟩
  ·subst h4; simp at hlt
  have h6 := (h5.get hc).2
  rw [Nat.zero_add] at h6
  unfold elemT at ht
  split at ht
  ·rename_i e' hu
   split at ht
   ·rename_i ii hii
    split at ht
    ·simp only [Option.some.injEq, Prod.mk.injEq] at ht
     obtain ⟨rfl, hsz⟩ := ht
     refine ⟨.pointer (some (a.add (i.toNat * sz))), ?_, a.add (i.toNat * sz), by rw [Addr.add_zero'], h6⟩
     have h7 : ¬ ((els.length : Int) ≤ i) := by omega
     simp [execOp, Instr.indexAt, run_underlying hu, asIntOf, h1, hI, sizeOf, typeInfo, hii, hsz, h0, h7]
    ·cases ht
   ·cases ht
  ·cases ht
 obtain ⟨u, h1, h2⟩ := key
 exact ops_val d u rfl hN (wanted_of S.rep hw) rfl h1 (h _ ⟨S.sim, S.rep.put d h2⟩ fun t ht => upd_ne ht)
end
structure NSt {α : Type} (W : World) (D : Foot) (J : List α → Foot → World → Prop) (own : List (Nat × Go.Obj)) (pre : List α) (D1 : Foot) (w : World) (ds : List Deferred) : Prop where
 j : J pre D1 w
 only : Only D W w
 grows : Grows D D1 W
 own : ∀ p ∈ own, w.heap[p.1]? = some p.2 ∧ ¬ D1 p.1 ∧ W.heap.size ≤ p.1
 marks : ∃ Ds : List Nat, ds = Ds.map Eng.mark ∧ Ds.Nodup ∧ ∀ K ∈ Ds, w.heap[K]? = some (.deferred (some [])) ∧ ¬ D1 K ∧ W.heap.size ≤ K
section
variable {α : Type} {W w w' : World} {D D1 : Foot} {J J' : List α → Foot → World → Prop} {own : List (Nat × Go.Obj)} {pre : List α} {ds : List Deferred}
theorem NSt.turn (S : NSt W D J own pre D1 w ds) (hJ : Stab (J pre)) {row : Option Nat} (hg : w.grownBy w' row) (hr : ∀ b, row = some b → W.heap.size ≤ b ∧ ¬ D1 b ∧ (∀ p ∈ own, p.1 ≠ b) ∧ ∀ K, Eng.mark K ∈ ds → K ≠ b) : NSt W D J own pre D1 w' ds := by
 refine ⟨hJ.grown S.j hg fun b e => (hr b e).2.1, ⟨Nat.le_trans S.only.size hg.size, fun b hb hn => (hg.block b (Nat.lt_of_lt_of_le hb S.only.size) fun e => by have := (hr b e.symm).1; omega).trans (S.only.same b hb hn)⟩, S.grows, fun p hp => ?_, ?_⟩
 ·obtain ⟨h1, h2, h3⟩ := S.own p hp
  exact ⟨(hg.block _ (Array.getElem?_eq_some_iff.1 h1).1 fun e => (hr _ e.symm).2.2.1 p hp rfl).trans h1, h2, h3⟩
 ·obtain ⟨Ds, h1, h2, h3⟩ := S.marks
  refine ⟨Ds, h1, h2, fun K hK => ?_⟩
  obtain ⟨h4, h5, h6⟩ := h3 K hK
  exact ⟨(hg.block _ (Array.getElem?_eq_some_iff.1 h4).1 fun e => (hr K e.symm).2.2.2 K (by rw [h1]; exact List.mem_map_of_mem hK) rfl).trans h4, h5, h6⟩
theorem NSt.alloc (S : NSt W D J own pre D1 w ds) (hJ : Stab (J pre)) (o : Go.Obj) : NSt W D J own pre D1 (w.alloc o) ds := S.turn hJ (World.grownBy_alloc w o none) fun b e => by cases e
theorem NSt.new (S : NSt W D J own pre D1 w ds) (hJ : Stab (J pre)) (o : Go.Obj) : NSt W D J ((w.heap.size, o) :: own) pre D1 (w.alloc o) ds := by
 have S' := S.alloc hJ o
 refine ⟨S'.j, S'.only, S'.grows, fun p hp => ?_, S'.marks⟩
 rcases List.mem_cons.1 hp with rfl | hp
 ·exact ⟨World.alloc_heap_new w o, fun h => by have := hJ.2.1 _ _ S.j _ h; omega, S.only.size⟩
 ·exact S'.own p hp
theorem NSt.drop {p : Nat × Go.Obj} (S : NSt W D J (p :: own) pre D1 w ds) : NSt W D J own pre D1 w ds := ⟨S.j, S.only, S.grows, fun q hq => S.own q (List.mem_cons_of_mem _ hq), S.marks⟩
theorem NSt.begin (hJ : J pre D W) (ho : ∀ p ∈ own, False) : NSt W D J own pre D W [] := ⟨hJ, Only.refl _ _, Grows.refl _ _, fun p hp => (ho p hp).elim, [], rfl, List.nodup_nil, fun _ h => by cases h⟩
theorem NSt.yield {pre' : List α} {D2 : Foot} (S : NSt W D J own pre D1 w ds) (ho : Only D1 w w') (hg : Grows D1 D2 w) (hj : J' pre' D2 w') : NSt W D J' own pre' D2 w' ds := by
 have hD : ∀ b, b < w.heap.size → ¬ D1 b → ¬ D2 b := fun b hb hn h => (hg.f b h).elim hn (by omega)
 refine ⟨hj, S.only.trans S.grows ho, S.grows.trans S.only.size hg, fun p hp => ?_, ?_⟩
 ·obtain ⟨h1, h2, h3⟩ := S.own p hp
  have hl := (Array.getElem?_eq_some_iff.1 h1).1
  exact ⟨(ho.same _ hl h2).trans h1, hD _ hl h2, h3⟩
 ·obtain ⟨Ds, h1, h2, h3⟩ := S.marks
  refine ⟨Ds, h1, h2, fun K hK => ?_⟩
  obtain ⟨h4, h5, h6⟩ := h3 K hK
  have hl := (Array.getElem?_eq_some_iff.1 h4).1
  exact ⟨(ho.same _ hl h5).trans h4, hD _ hl h5, h6⟩
theorem NSt.map (S : NSt W D J own pre D1 w ds) {J2 : List α → Foot → World → Prop} {pre2 : List α} (h : J2 pre2 D1 w) : NSt W D J2 own pre2 D1 w ds := ⟨h, S.only, S.grows, S.own, S.marks⟩
def footN (w0 : World) (D1 : Foot) : Foot := ⟨D1.z, fun b => b < w0.heap.size ∨ D1 b⟩
theorem NSt.below (S : NSt W D J own pre D1 w ds) : (∀ p ∈ own, p.1 < w.heap.size) ∧ ∀ K, Eng.mark K ∈ ds → K < w.heap.size := by
 refine ⟨fun p hp => (Array.getElem?_eq_some_iff.1 (S.own p hp).1).1, fun K hK => ?_⟩
 obtain ⟨Ds, rfl, _, h⟩ := S.marks
 obtain ⟨K', h1, h2⟩ := List.mem_map.1 hK
 have : K' = K := by simpa [Eng.mark] using h2
 subst this
 exact (Array.getElem?_eq_some_iff.1 (h _ h1).1).1
theorem NSt.stab {w0 : World} {p : Foot → Prop} (hJ : Stab (J pre)) (hW : W.heap.size ≤ w0.heap.size) (ho : ∀ q ∈ own, q.1 < w0.heap.size) (hd : ∀ K, Eng.mark K ∈ ds → K < w0.heap.size) :
  Stab fun Df w => ∃ D1, NSt W D J own pre D1 w ds ∧ Df = footN w0 D1 ∧ p D1 ∧ w0.heap.size ≤ w.heap.size := by
 refine ⟨?_, ?_, ?_⟩
 ·rintro Df A B row ⟨D1, S, rfl, hp, hs⟩ hg hr
  refine ⟨D1, S.turn hJ hg fun b e => ?_, rfl, hp, Nat.le_trans hs hg.size⟩
  have hn := hr b e
  have h1 : ¬ b < w0.heap.size := fun h => hn (Or.inl h)
  exact ⟨by omega, fun h => hn (Or.inr h), fun q hq he => h1 (he ▸ ho q hq), fun K hK he => h1 (he ▸ hd K hK)⟩
 ·rintro Df A ⟨D1, S, rfl, hp, hs⟩ b hb
  rcases hb with hb | hb
  ·omega
  ·exact hJ.2.1 _ _ S.j b hb
 ·rintro Df A ⟨D1, S, rfl, hp, hs⟩ a x hz
  exact Or.inr (hJ.2.2 _ _ S.j a x hz)
theorem NSt.mark {K : Nat} (S : NSt W D J own pre D1 w ds) (hK : w.heap[K]? = some (.deferred (some []))) (hn : ¬ D1 K) (hW : W.heap.size ≤ K) (hd : ∀ K', Eng.mark K' ∈ ds → K' ≠ K) : NSt W D J own pre D1 w (Eng.mark K :: ds) := by
 refine ⟨S.j, S.only, S.grows, S.own, ?_⟩
 obtain ⟨Ds, rfl, h2, h3⟩ := S.marks
 refine ⟨K :: Ds, rfl, List.nodup_cons.2 ⟨fun h => hd K (List.mem_map_of_mem h) rfl, h2⟩, fun K' hK' => ?_⟩
 rcases List.mem_cons.1 hK' with rfl | hK'
 ·exact ⟨hK, hn, hW⟩
 ·exact h3 K' hK'
theorem takes_N : ∀ (Ds : List Nat) (w : World), Ds.Nodup → (∀ K ∈ Ds, w.heap[K]? = some (.deferred (some [])) ∧ ¬ D1 K ∧ W.heap.size ≤ K) → Stab (J pre) → J pre D1 w → Only D W w → ∃ w', Eng.Takes (Ds.map Eng.mark) w w' ∧ J pre D1 w' ∧ Only D W w'
 | [], w, _, _, _, hj, ho => ⟨w, rfl, hj, ho⟩
 | K :: Ds, w, hn, hK, hJ, hj, ho => by
  obtain ⟨h1, h2⟩ := List.nodup_cons.1 hn
  obtain ⟨h3, h4, h5⟩ := hK K (List.mem_cons_self ..)
  obtain ⟨w', h6, h7⟩ := takes_N Ds (w.putObj K (.deferred none)) h2 (fun K' hK' => by
   obtain ⟨g1, g2⟩ := hK K' (List.mem_cons_of_mem _ hK')
   exact ⟨(World.putObj_heap_other (fun e => h1 (by first | (rw [← e]; exact hK') | (rw [e]; exact hK')))).trans g1, g2⟩) hJ (hJ.putObj _ hj h4) ⟨by simpa using ho.size, fun b hb hn => (World.putObj_heap_other (by omega)).trans (ho.same b hb hn)⟩
  exact ⟨w', ⟨K, rfl, h3, h6⟩, h7⟩
theorem NSt.fin {P : Program} {fn : Func} {ρr : Slots} {R : Value → World → Prop} (S : NSt W D J own pre D1 w ds) (hJ : Stab (J pre)) (hr : fn.results = #[]) (h : ∀ w', J pre D1 w' → Only D W w' → Grows D D1 W → R (.tuple #[]) w') : finM P fn R .ret ρr ds w := by
 obtain ⟨Ds, rfl, h2, h3⟩ := S.marks
 obtain ⟨w', h4, h5, h6⟩ := takes_N Ds w h2 h3 hJ S.j S.only
 exact ⟨w', .tuple #[], h4, fun tmps _ => by simp [results, hr], h w' h5 h6 S.grows⟩
end
section
variable {P : Program} {r : Option Nat} {N : Nat} {all rest : List Oper} {Q : Post} {ρr : Slots} {ds : List Deferred} {w : World}
theorem ops_var {d : Nat} {t : TypeId} {x : Operand} {l : List Value} {cs0 : List V} {ty ty' : TypeId} {pos pos' : String} {aft aft' : Array Edge} (hN : Nat.ble (d + 1) N = true) (hz : zeroV P t = some cs0) (hl : cs0.length = l.length) (hsz : sizeOfT P t cs0.length = true) (hone : ∀ u ∈ l, u.oneCell' = true)
  (hx : ev (upd ρr d (.pointer (some ⟨w.heap.size, 0, none⟩))) x = .agg l.toArray)
  (h : Ops P r N all Q rest (upd ρr d (.pointer (some ⟨w.heap.size, 0, none⟩))) ds (w.alloc (.cells l.toArray t))) :
  Ops P r N all Q (⟨some d, .alloc t, ty, pos, aft, none⟩ :: ⟨none, .store t (.tmp d) x, ty', pos', aft', none⟩ :: rest) ρr ds w := by
 unfold zeroV at hz
 split at hz
 ·rename_i i hi
  split at hz
  ·rename_i z hzz
   cases hz
   have hzl : z.cells.size = l.length := by simpa using hl
   refine ops_val d (.pointer (some ⟨w.heap.size, 0, none⟩)) (w' := w.alloc (.cells z.cells t)) rfl hN rfl rfl (by
    simp [execOp, Instr.alloc, zeroValue, typeInfo, hi, hzz, newVar, newRow, newObj]; rfl) ?_
   have hst := run_storeCells_at P w.heap.size 0 t l 0 z.cells (w.alloc (.cells z.cells t)) (World.alloc_heap_new w _) (by simp; omega) hone
   have hw : (w.alloc (.cells z.cells t)).setRow w.heap.size l.toArray = w.alloc (.cells l.toArray t) := by
    unfold World.setRow World.alloc
    congr 1
    apply Array.ext_getElem?
    intro i
    rw [Array.getElem?_modify, Array.getElem?_push, Array.getElem?_push]
    by_cases hi : i = w.heap.size
    ·subst hi; simp
    ·simp [hi, Ne.symm hi]
   have h1 : (z.cells.toList.take 0 ++ l ++ z.cells.toList.drop (0 + l.length)).toArray = l.toArray := by
    rw [List.drop_of_length_le (by simp; omega)]; simp
   simp only [Nat.add_zero] at hst
   rw [h1, hw] at hst
   unfold sizeOfT at hsz
   rw [hi] at hsz
   have hik := Nat.eq_of_beq_eq_true hsz
   simp at hik
   refine ops_unit (w' := w.alloc (.cells l.toArray t)) rfl rfl rfl ?_ h
   have hsz2 : l.length = i.size := by omega
   have hx' : ev (upd ρr d (.pointer (some ⟨w.heap.size, 0, none⟩))) (.tmp d) = .pointer (some ⟨w.heap.size, 0, none⟩) := upd_eq
   have hcl : (Value.agg l.toArray).cells = l.toArray := rfl
   simp [execOp, Instr.storeAt, hx', hx, Instr.sureAddr, storeVar, sizeOf, typeInfo, hi, hcl, hsz2]
   rw [hst]
   rfl
  ·cases hz
 ·cases hz
end
theorem repS_of {m : M} {Z : ZM} {ρr : Slots} : ∀ {l : Env}, (∀ p ∈ l, Rep (some m) Z p.2 (ρr p.1)) → RepS m Z l ρr
 | [], _ => fun t => trivial
 | (d, v) :: l, h => fun t => by
  show Rep (some m) Z (bif Nat.beq t d then v else Env.get l t) (ρr t)
  cases hb : Nat.beq t d with
  | true => have := Nat.eq_of_beq_eq_true hb; subst this; exact h (t, v) (List.mem_cons_self ..)
  | false => exact repS_of (l := l) (fun p hp => h p (List.mem_cons_of_mem _ hp)) t
theorem sim_nil (m : M) (w : World) : SimH m (fun _ => none) [] w := ⟨fun _ _ h => (by cases h), fun _ h => (by cases h), List.nodup_nil, fun _ h => (by cases h)⟩
end Go.EV
