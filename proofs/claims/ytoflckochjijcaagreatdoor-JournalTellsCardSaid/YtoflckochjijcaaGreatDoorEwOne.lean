/- Maps of the call's own: looking up and storing. -/
import Derived.Test.YtoflckochjijcaaGreatDoorEvTwo
import Derived.MapKept
import Derived.Maps.RangeRun
import Derived.Laws.MakeOwn
import Derived.Scope
set_option linter.all false
namespace Go.EV
open Go Go.RowKit Go.Eng

def mfind {α β : Type} [DecidableEq α] (a : α) : List (α × β) → Option β
 | [] => none
 | (k, b) :: r => if a = k then some b else mfind a r
def mset {α β : Type} [DecidableEq α] (a : α) (b : β) : List (α × β) → List (α × β)
 | [] => [(a, b)]
 | (k, c) :: r => if a = k then (a, b) :: r else (k, c) :: mset a b r
def encM {α β : Type} (f : α → V) (g : β → V) (l : List (α × β)) : List (V × V) := l.map fun p => (f p.1, g p.2)
def findP {α : Type} [DecidableEq α] (a : α) : List α → List MapEntry → Nat → Option (Nat × Value)
 | k :: ks, e :: es, i => if a = k then some (i, e.val) else findP a ks es (i + 1)
 | _, _, _ => none
structure KeyOK (P : Program) (kt : TypeId) {α : Type} [DecidableEq α] (f : α → V) (val : α → Value) : Prop where
 det : ∀ m Z a x, Rep m Z (f a) x → x = val a
 rep : ∀ m Z a, Rep m Z (f a) (val a)
 check : ∀ e a w, (Instr.checkKey e 10000 kt (val a)).run P w = .ok () w
 find : ∀ (a : α) (es : List MapEntry) (ks : List α) w, es.map (·.key) = ks.map val → (Instr.findKey kt (val a) es).run P w = .ok (findP a ks es 0) w
 bits : ∀ a, Instr.sameBits 10000 (val a) (val a) = true
theorem findNow_of {α : Type} [DecidableEq α] {d : TypeDesc} {val : α → Value} (h : ∀ a b, Instr.sameNow d (val a) (val b) = some (decide (a = b))) (a : α) : ∀ (es : List MapEntry) (ks : List α) (i : Nat), es.map (·.key) = ks.map val → Instr.findNow d (val a) es i = some (findP a ks es i)
 | [], ks, i, he => by
  cases ks with
  | nil => rfl
  | cons => simp at he
 | e :: es, [], i, he => by simp at he
 | e :: es, k :: ks, i, he => by
  simp only [List.map_cons, List.cons.injEq] at he
  have ih := findNow_of h a es ks (i + 1) he.2
  simp only [Instr.findNow, he.1, h, findP]
  by_cases e1 : a = k
  ·simp [e1]
  ·simp [e1, ih]
section
variable {P : Program}
theorem keyOK_of {α : Type} [DecidableEq α] {kt : TypeId} {d : TypeDesc} {f : α → V} {val : α → Value} (hk : P.underlying kt = some d) (hd : ∀ m Z a x, Rep m Z (f a) x → x = val a) (hr : ∀ m Z a, Rep m Z (f a) (val a))
  (hc : ∀ e a w, (Instr.checkKey e 10000 kt (val a)).run P w = .ok () w) (h : ∀ a b, Instr.sameNow d (val a) (val b) = some (decide (a = b))) (hb : ∀ a, Instr.sameBits 10000 (val a) (val a) = true) : KeyOK P kt f val :=
 ⟨hd, hr, hc, fun a es ks w he => by simp [Instr.findKey, run_underlying hk, findNow_of h a es ks 0 he], hb⟩
theorem bytes_beq (a b : List UInt8) : ((⟨a.toArray⟩ : ByteArray) == ⟨b.toArray⟩) = decide (a = b) := by
 rw [show ((⟨a.toArray⟩ : ByteArray) == ⟨b.toArray⟩) = (a.toArray == b.toArray) from rfl, Bool.eq_iff_iff]; simp
theorem keyOK_str {kt : TypeId} (hk : P.underlying kt = some .string) : KeyOK P kt V.str (fun s => .string ⟨s.toArray⟩) :=
 keyOK_of hk (fun _ _ _ _ h => h) (fun _ _ _ => rfl) (fun e a w => by
  unfold Instr.checkKey
  simp [run_underlying hk]) (fun a b => by simp only [Instr.sameNow, bytes_beq]) fun a => by simp only [Instr.sameBits, bytes_beq]; simp
theorem keyOK_int {kt : TypeId} {q : IntKind} (hk : P.underlying kt = some (.int q)) : KeyOK P kt (V.int q) (fun n => .int q n) :=
 keyOK_of hk (fun _ _ _ _ h => h) (fun _ _ _ => rfl) (fun e a w => by
  unfold Instr.checkKey
  simp [run_underlying hk]) (fun a b => by simp [Instr.sameNow]; rfl) fun a => by simp [Instr.sameBits]
def mapT (P : Program) (t : Nat) : Option (Nat × Nat) := match P.underlying t with | some (.map k e) => some (k, e) | _ => none
theorem mapT_of {t k e : Nat} (h : mapT P t = some (k, e)) : P.underlying t = some (.map k e) := by
 unfold mapT at h
 split at h
 ·cases h; assumption
 ·cases h
def zero1 (P : Program) (t : Nat) : Option V := match P.info? t with | some i => i.zero.map ofC | none => none
theorem zero1_of {t : Nat} {v : V} {m : Option M} {Z : ZM} {w : World} (h : zero1 P t = some v) : ∃ z, (zeroValue t).run P w = .ok z w ∧ Rep m Z v z := by
 unfold zero1 at h
 split at h
 ·rename_i i hi
  obtain ⟨z, hz, rfl⟩ := Option.map_eq_some_iff.1 h
  exact ⟨z, by simp [zeroValue, typeInfo, hi, hz, Sem.run], rep_ofC z⟩
 ·cases h
def lookV (c : Bool) (v : V) (b : Bool) : V := match c with | true => .tup [v, .bool b] | false => v
theorem RepE.find {α β : Type} [DecidableEq α] {Z : ZM} {f : α → V} {g : β → V} {val : α → Value} (hd : ∀ m Z a x, Rep m Z (f a) x → x = val a) (a : α) : ∀ {l : List (α × β)} {es : List MapEntry} (i : Nat), RepE Z (encM f g l) es →
  es.map (·.key) = (l.map (·.1)).map val ∧ match mfind a l with
   | some b => ∃ j e, findP a (l.map (·.1)) es i = some (i + j, e.val) ∧ es[j]? = some e ∧ e.key = val a ∧ Rep none Z (g b) e.val ∧ ∀ (c : β) (y : Value), Rep none Z (g c) y → RepE Z (encM f g (mset a c l)) (es.modify j fun e => { e with key := val a, val := y })
   | none => findP a (l.map (·.1)) es i = none ∧ ∀ (c : β) (y : Value) (n : Nat), Rep none Z (f a) (val a) → Rep none Z (g c) y → RepE Z (encM f g (mset a c l)) (es ++ [{ key := val a, val := y, born := n }])
 | [], es, i, h => by
  cases h
  exact ⟨rfl, rfl, fun c y n h1 h2 => ⟨_, [], rfl, h1, h2, rfl⟩⟩
 | (k, b) :: l, es, i, h => by
  obtain ⟨e, es, rfl, h1, h2, h3⟩ := h
  have hk := hd _ _ _ _ h1
  obtain ⟨h4, h5⟩ := RepE.find hd a (i + 1) h3
  refine ⟨by simp [hk, h4], ?_⟩
  simp only [mfind]
  by_cases e1 : a = k
  ·subst e1
   simp only [if_pos]
   refine ⟨0, e, by simp [findP], rfl, hk, h2, fun c y hy => ?_⟩
   simp only [mset, if_pos]
   exact ⟨_, es, rfl, by rw [← hk]; exact h1, hy, h3⟩
  ·rw [if_neg e1]
   cases hm : mfind a l with
   | some b' =>
    rw [hm] at h5
    obtain ⟨j, e', g1, g2, g3, g4, g5⟩ := h5
    refine ⟨j + 1, e', by simp only [List.map_cons, findP, if_neg e1, g1]; congr 2; omega, by simpa using g2, g3, g4, fun c y hy => ?_⟩
    simp only [mset, if_neg e1]
    exact ⟨e, _, by simp, h1, h2, g5 c y hy⟩
   | none =>
    rw [hm] at h5
    obtain ⟨g1, g2⟩ := h5
    refine ⟨by simp only [List.map_cons, findP, if_neg e1, g1], fun c y n q1 q2 => ?_⟩
    simp only [mset, if_neg e1]
    exact ⟨e, _, rfl, h1, h2, g2 c y n q1 q2⟩
variable {ρ : Env} {dst : Option Tmp} {ty : TypeId} {pos : String} {aft : Array Edge} {gd : Option (Nat × Bool)}
theorem loc_lookup {α β : Type} [DecidableEq α] {f : α → V} {val : α → Value} {g : β → V} {t kt et k : Nat} {x ix : Operand} {l : List (α × β)} (c : Bool) {a : α} {z : β} {zv : V} (hT : mapT P t = some (kt, et)) (K : KeyOK P kt f val) (hz : zero1 P et = some zv)
  (hzg : ∀ (m : Option M) (Z : ZM) (y : Value), Rep m Z zv y → Rep m Z (g z) y) (hx : evV ρ x = .mp k) (hi : evV ρ ix = f a) :
  Loc P ⟨dst, .lookup t x ix c, ty, pos, aft, gd⟩ ρ [(k, .map (encM f g l))] (lookV c (g ((mfind a l).getD z)) (mfind a l).isSome) [(k, .map (encM f g l))] := by
 intro ρr m Z w hops hs _
 have hX := hops x (by simp [Op.operands])
 have hI := K.det _ _ _ _ (hi ▸ hops ix (by simp [Op.operands]))
 rw [hx] at hX
 obtain ⟨m1, loc, e1, e2, hX⟩ := hX
 cases e1
 obtain ⟨b, es, clock, g1, g2, g3, g4, g5, g6, g7⟩ := hs.holds _ (List.mem_singleton.2 rfl)
 rw [g1] at e2; cases e2
 obtain ⟨h1, h2⟩ := g3.find K.det a 0
 obtain ⟨zz, hz1, hz2⟩ := zero1_of (m := some m) (Z := Z) (w := w) hz
 have hfind := K.find a es.toList _ w h1
 have hc := K.check es.isEmpty a w
 have hu := mapT_of hT
 have key : ∃ v b', (Instr.lookup t (.map (some b)) (val a) c).run P w = .ok (if c then .tuple #[v, .bool b'] else v) w ∧ Rep (some m) Z (g ((mfind a l).getD z)) v ∧ b' = (mfind a l).isSome := by
  cases hm : mfind a l with
  | some b' =>
   rw [hm] at h2
   obtain ⟨j, e', q1, q2, q3, q4, q5⟩ := h2
   rw [q1] at hfind
   exact ⟨e'.val, true, by simp [Instr.lookup, run_underlying hu, MapKept.run_getObj_map g2, hc, hfind], Rep.up (fun _ _ e => e) (fun f e => by cases e) q4, rfl⟩
  | none =>
   rw [hm] at h2
   rw [h2.1] at hfind
   exact ⟨zz, false, by simp [Instr.lookup, run_underlying hu, MapKept.run_getObj_map g2, hc, hfind, hz1], hzg _ _ _ hz2, rfl⟩
 obtain ⟨v, b', hrun, hv, hb⟩ := key
 refine ⟨rfl, .inl ⟨_, w, by simp only [execOp, hX, hI, Sem.run_bind, hrun, Result.andThen_ok, Sem.run_pure]; rfl, m, Z, Step.refl hs, ?_⟩⟩
 cases c with
 | true => exact ⟨[v, .bool b'], rfl, v, _, rfl, hv, _, _, rfl, by rw [hb]; rfl, rfl⟩
 | false => exact hv
theorem loc_mapUpdate {α β : Type} [DecidableEq α] {f : α → V} {val : α → Value} {g : β → V} {t kt et k : Nat} {x ix y : Operand} {l : List (α × β)} {a : α} {c : β} (hT : mapT P t = some (kt, et)) (K : KeyOK P kt f val)
  (hx : evV ρ x = .mp k) (hi : evV ρ ix = f a) (hy : evV ρ y = g c) (hr : (g c).refs = []) (hra : (f a).refs = []) :
  Loc P ⟨dst, .mapUpdate t x ix y, ty, pos, aft, gd⟩ ρ [(k, .map (encM f g l))] .no [(k, .map (encM f g (mset a c l)))] := by
 intro ρr m Z w hops hs _
 have hX := hops x (by simp [Op.operands])
 have hI0 := hops ix (by simp [Op.operands])
 have hY := hops y (by simp [Op.operands])
 have hI := K.det _ _ _ _ (hi ▸ hI0)
 rw [hx] at hX
 rw [hy] at hY
 have hY : Rep none Z (g c) (ev ρr y) := Rep.flat _ _ hr hY
 obtain ⟨m1, loc, e1, e2, hX⟩ := hX
 cases e1
 obtain ⟨b, es, clock, g1, g2, g3, g4, g5, g6, g7⟩ := hs.holds _ (List.mem_singleton.2 rfl)
 rw [g1] at e2; cases e2
 obtain ⟨h1, h2⟩ := g3.find K.det a 0
 have hfind := K.find a es.toList _ w h1
 have hc := K.check false a w
 have hu := mapT_of hT
 have hbl : b < w.heap.size := (Array.getElem?_eq_some_iff.1 g2).1
 have key : ∃ es' clock', (Instr.mapUpdate t (.map (some b)) (val a) (ev ρr y)).run P w = .ok () { w with heap := w.heap.setIfInBounds b (.map es' clock') } ∧ RepE Z (encM f g (mset a c l)) es'.toList ∧ (es'.toList.Pairwise fun x y => x.born < y.born) ∧ (∀ e ∈ es'.toList, e.born < clock') := by
  cases hm : mfind a l with
  | some b' =>
   rw [hm] at h2
   obtain ⟨j, e', q1, q2, q3, q4, q5⟩ := h2
   rw [q1] at hfind
   have q2' : es[0 + j]? = some e' := by simpa using q2
   have hmem : ∀ e ∈ (es.toList.modify (0 + j) fun e => { e with key := val a, val := ev ρr y }), ∃ e0 ∈ es.toList, e.born = e0.born := fun e he => by
    obtain ⟨i, hi, rfl⟩ := List.getElem_of_mem he
    rw [List.getElem_modify]
    simp only [List.length_modify] at hi
    refine ⟨es.toList[i], List.getElem_mem _, ?_⟩
    split <;> rfl
   refine ⟨es.modify (0 + j) fun e => { e with key := val a, val := ev ρr y }, clock, ?_, ?_, ?_, ?_⟩
   ·have q2'' : es[j]? = some e' := by simpa using q2'
    simp [Instr.mapUpdate, run_underlying hu, MapKept.run_getObj_map g2, hc, hfind, Instr.keyThatStays, q2'', q3, K.bits, MapKept.run_setObj_map _ g2]
   ·rw [Array.toList_modify]; simpa using q5 c _ hY
   ·rw [Array.toList_modify, List.pairwise_iff_getElem]
    intro i j' hi hj hij
    rw [List.getElem_modify, List.getElem_modify]
    simp only [List.length_modify] at hi hj
    have := List.pairwise_iff_getElem.1 g4 i j' hi hj hij
    split <;> split <;> exact this
   ·rw [Array.toList_modify]
    intro e he
    obtain ⟨e0, h3, h4⟩ := hmem e he
    rw [h4]; exact g5 e0 h3
  | none =>
   rw [hm] at h2
   rw [h2.1] at hfind
   refine ⟨es.push { key := val a, val := ev ρr y, born := clock }, clock + 1, by simp [Instr.mapUpdate, run_underlying hu, MapKept.run_getObj_map g2, hc, hfind, MapKept.run_setObj_map _ g2], ?_, ?_, ?_⟩
   ·rw [Array.toList_push]; exact h2.2 c _ _ (K.rep _ _ _) hY
   ·rw [Array.toList_push, List.pairwise_append]
    exact ⟨g4, by simp, fun p hp q hq => by simp at hq; subst hq; exact g5 p hp⟩
   ·rw [Array.toList_push]
    intro e he
    rcases List.mem_append.1 he with he | he
    ·have := g5 e he; omega
    ·simp at he; subst he; simp
 obtain ⟨es', clock', hrun, k1, k2, k3⟩ := key
 refine ⟨rfl, .inr (.inl ⟨_, by simp only [execOp, hX, hI, Sem.run_bind, hrun, Result.andThen_ok, Sem.run_pure]; rfl, m, Z, ?_, rfl⟩)⟩
 refine Step.write (b := b) hs (by simp [blk, blk1, Obj.ver, g1]) (blk_ver rfl rfl rfl) rfl rfl rfl (by simp) (fun j hj => by simp [Array.getElem?_setIfInBounds_ne (Ne.symm hj)]) (fun a x ha e => absurd e (g6 a x ha)) ?_
 exact ⟨b, es', clock', g1, by simp [hbl], k1, k2, k3, g6, g7⟩
end
end Go.EV
namespace Go.EV
open Go Go.RowKit Go.Eng

structure Foot where
 z : ZM
 f : Nat → Prop
instance : CoeFun Foot fun _ => Nat → Prop := ⟨Foot.f⟩
def Stab (J : Foot → World → Prop) : Prop :=
 (∀ D W W' row, J D W → W.grownBy W' row → (∀ b, row = some b → ¬ D b) → J D W') ∧ (∀ D W, J D W → ∀ b, D b → b < W.heap.size) ∧ ∀ D W, J D W → ∀ a x, D.z a = some x → D a.block
structure Only (D : Foot) (W W' : World) : Prop where
 size : W.heap.size ≤ W'.heap.size
 same : ∀ b, b < W.heap.size → ¬ D b → W'.heap[b]? = W.heap[b]?
structure Grows (D D' : Foot) (W : World) : Prop where
 f : ∀ b, D' b → D b ∨ W.heap.size ≤ b
 z : ∀ a x, D.z a = some x → D'.z a = some x
theorem Only.refl (D : Foot) (W : World) : Only D W W := ⟨Nat.le_refl _, fun _ _ _ => rfl⟩
theorem Grows.refl (D : Foot) (W : World) : Grows D D W := ⟨fun _ h => .inl h, fun _ _ h => h⟩
theorem Only.trans {D D' : Foot} {A B C : World} (h : Only D A B) (hg : Grows D D' A) (k : Only D' B C) : Only D A C :=
 ⟨Nat.le_trans h.size k.size, fun b hb hn => (k.same b (Nat.lt_of_lt_of_le hb h.size) fun hd => (hg.f b hd).elim hn (by omega)).trans (h.same b hb hn)⟩
theorem Grows.trans {D D' D2 : Foot} {A B : World} (h : Grows D D' A) (hs : A.heap.size ≤ B.heap.size) (k : Grows D' D2 B) : Grows D D2 A :=
 ⟨fun b hb => (k.f b hb).elim (h.f b) fun h' => .inr (Nat.le_trans hs h'), fun a x e => k.z a x (h.z a x e)⟩
theorem Only.grown {D : Foot} {W W' : World} {row : Option Nat} (h : W.grownBy W' row) (hr : ∀ b, row = some b → D b) : Only D W W' :=
 ⟨h.size, fun b hb hn => h.block b hb fun e => hn (hr b e.symm)⟩
theorem Stab.grown {J : Foot → World → Prop} (h : Stab J) {D : Foot} {W W' : World} {row : Option Nat} (hJ : J D W) (hg : W.grownBy W' row) (hr : ∀ b, row = some b → ¬ D b) : J D W' := h.1 D W W' row hJ hg hr
theorem Stab.putObj {J : Foot → World → Prop} (h : Stab J) {D : Foot} {W : World} {l : Nat} (o : Go.Obj) (hJ : J D W) (hl : ¬ D l) : J D (W.putObj l o) :=
 h.grown hJ (grownBy_putObj W l o) (fun b e => by cases e; exact hl)
theorem Stab.alloc {J : Foot → World → Prop} (h : Stab J) {D : Foot} {W : World} (o : Go.Obj) (hJ : J D W) : J D (W.alloc o) :=
 h.grown hJ (World.grownBy_alloc W o none) (fun b e => by cases e)
def IterF {α : Type} (P : Program) (gf : Nat) (lb : List Value) (encs : α → List Value) (xs : List α) (Need : ZM → World → Prop) : Prop :=
 ∀ (l : Nat) (J Jx : List α → Foot → World → Prop) (W : World) (D : Foot), (∀ pre D W1, J pre D W1 → Need D.z W1) → (∀ pre, Stab (J pre)) → (∀ pre, Stab (Jx pre)) →
  (∀ pre x D1 W1, J pre D1 W1 → pre ++ [x] <+: xs → YieldAt Fence.wide 0 P l (encs x).toArray W1 fun e W' =>
   ∃ D', Only D1 W1 W' ∧ Grows D1 D' W1 ∧ ((e = .returned (.bool true) ∧ J (pre ++ [x]) D' W') ∨ (e = .returned (.bool false) ∧ Jx (pre ++ [x]) D' W'))) →
  J [] D W →
  Calls P gf (.func (.yield l) #[] #[] :: lb).toArray W fun e W' => (∃ v, e = .returned v) ∧ ∃ D', Only D W W' ∧ Grows D D' W ∧ (J xs D' W' ∨ ∃ pre, pre <+: xs ∧ Jx pre D' W')

def roundF (D : Foot) (I : Foot → World → Prop) (Ix : Code → Foot → World → Prop) (W : World) : Post
 | .normal, _, _, W' => ∃ D', Only D W W' ∧ Grows D D' W ∧ I D' W'
 | .ret, _, _, W' => ∃ D', Only D W W' ∧ Grows D D' W ∧ Ix .ret D' W'
 | .exit id, _, _, W' => ∃ D', Only D W W' ∧ Grows D D' W ∧ Ix (.exit id) D' W'
 | _, _, _, _ => False
def footL (D : Foot) (k : Nat) : Foot := ⟨D.z, fun b => D b ∨ b = k ∨ b = k + 1⟩
theorem Only.sub {D D' : Foot} {W W' : World} (h : Only D W W') (hd : ∀ b, D b → D' b) : Only D' W W' := ⟨h.size, fun b hb hn => h.same b hb fun h' => hn (hd b h')⟩

section
variable {P : Program} {N : Nat} {Q : Post} {ρ : Slots} {ds : List Deferred} {w : World}
end
end Go.EV
namespace Go.EV
open Go Go.RowKit Go.Eng

def IterV (P : Program) {α : Type} (gf : FuncId) (caps : List V) (F : Heap) (val : α → Value) (xs : List α) : Prop :=
 ∀ lb, IterF P gf lb (fun x => [val x]) xs fun Z W => ∃ m, SimH m Z F W ∧ RepL (some m) Z caps lb
def footC (w0 : World) (m : M) (Z : ZM) (H : Heap) : Foot := ⟨Z, fun b => b < w0.heap.size ∨ (∃ p ∈ H, blk m p b) ∨ ∃ a x, Z a = some x ∧ a.block = b⟩
theorem SimC.turn {K0 : List Nat} {c : Ctx K0} {m : M} {Z : ZM} {H : Heap} {w w' : World} {row : Option Nat} (S : SimC c m Z H w) (hg : w.grownBy w' row) (hr : ∀ b, row = some b → c.W0.heap.size ≤ b ∧ (∀ p ∈ H, ¬ blk m p b) ∧ ∀ a x, Z a = some x → a.block ≠ b) : SimC c m Z H w' := by
 have hs := S.step
 have hblk : ∀ p ∈ H, ∀ b, blk m p b → w'.heap[b]? = w.heap[b]? := fun p hp b hb => by
  obtain ⟨ob, h1, h2⟩ := (hs.sim.holds p hp).notLp b hb
  exact hg.block b (Array.getElem?_eq_some_iff.1 h1).1 fun e => (hr b e.symm).2.1 p hp hb
 have hz : ∀ a x, Z a = some x → w'.cell? a = w.cell? a := fun a x ha => by
  have h2 := World.block_lt_of_cell? w a (hs.sim.frozen a x ha)
  have : w'.heap[a.block]? = w.heap[a.block]? := hg.block _ h2 fun e => (hr _ e.symm).2.2 a x ha rfl
  simp only [World.cell?, this]
 refine ⟨⟨⟨fun a x ha => (hz a x ha).trans (hs.sim.frozen a x ha), fun p hp => (hs.sim.holds p hp).keep (fun _ _ _ e => e) rfl (fun _ _ e => e) fun b hb => ⟨hblk p hp b hb, fun _ _ e _ => e⟩, hs.sim.nodup, hs.sim.disj⟩, hs.mext, hs.zext, hg.os.trans hs.os, hg.tape.trans hs.tape, hg.output.trans hs.output, Nat.le_trans hs.size hg.size, fun b hb hn => ?_, hs.keep, hs.newk, hs.blks, hs.znew⟩, S.dom⟩
 rw [hg.block b (Nat.lt_of_lt_of_le hb hs.size) fun e => by have := (hr b e.symm).1; omega]
 exact hs.frame b hb hn
def roundV {S Zt : Type} (K0 : List Nat) (hp : S → Heap) (Lr : S → Option Zt) (z : Zt) (E : Env) (ds : List Deferred) (Q : PostV) : PostV
 | .normal, ρ, H, _ => ∃ q', Lr q' = some z ∧ Cut K0 ρ H [] (hp q')
 | .ret, ρ, H, _ => ∃ H1, Cut K0 ρ H [] H1 ∧ Q .ret E H1 ds
 | .exit id, ρ, H, _ => ∃ H1, Cut K0 ρ H [] H1 ∧ Q (.exit id) E H1 ds
 | _, _, _, _ => False
section
variable {K0 : List Nat} {c : Ctx K0} {P : Program} {N : Nat} {Q : PostV} {ds : List Deferred} {ty : TypeId} {pos : String} {aft : Array Edge}
end
end Go.EV
namespace Go.EV
open Go Go.RowKit Go.Eng
theorem range_mod {α : Type} (f : Nat → α) (sz : Nat) : ∀ n, (List.range (n * sz)).map (fun j => f (j % sz)) = (List.replicate n ((List.range sz).map f)).flatten
  | 0 => by simp
  | n + 1 => by
    rw [Nat.succ_mul, List.range_add, List.map_append, range_mod f sz n, List.replicate_succ', List.flatten_append, List.map_map]
    congr 1
    simp only [List.flatten_cons, List.flatten_nil, List.append_nil]
    refine List.map_congr_left fun j hj => ?_
    have hj := List.mem_range.1 hj
    simp only [Function.comp]
    rw [Nat.add_comm, Nat.add_mul_mod_self_right, Nat.mod_eq_of_lt hj]
theorem made_rep {m : Option M} {Z : ZM} {zc : Array Value} {n : Nat} (h0 : 0 < zc.size) : RepL m Z (List.replicate n (zc.toList.map ofC1)).flatten (madeCells zc (n * zc.size)).toList := by
  have e : (madeCells zc (n * zc.size)).toList = (List.replicate n zc.toList).flatten := by
    have h1 : (List.range zc.size).map (fun j => zc[j]!) = zc.toList := by
      apply List.ext_getElem
      · simp
      · intro i h1 h2
        simp at h1
        simp [h1]
    rw [← h1, ← range_mod]
    simp [madeCells]
  rw [e, ← List.map_replicate, ← List.map_flatten]
  exact rep_ofC1s _
theorem RepL.row_weak {Z : ZM} {cs cs2 : List V} (hw : ∀ (Z : ZM) (l : List Value), RepL none Z cs l → RepL none Z cs2 l) : ∀ (n : Nat) (l : List Value), RepL none Z (List.replicate n cs).flatten l → RepL none Z (List.replicate n cs2).flatten l
  | 0, l, h => h
  | n + 1, l, h => by
    rw [List.replicate_succ, List.flatten_cons] at h ⊢
    have h1 := h.take cs.length
    have h2 := h.drop cs.length
    rw [List.take_left] at h1
    rw [List.drop_left] at h2
    rw [← List.take_append_drop cs.length l]
    exact RepL.append (hw _ _ h1) (RepL.row_weak hw n _ h2)
section
variable {P : Program} {ρ : Env} {dst : Option Tmp} {ty : TypeId} {pos : String} {aft : Array Edge} {gd : Option (Nat × Bool)}
theorem loc_makeSlice {t d e sz bytes n : Nat} {x y : Operand} {k k2 : IntKind} {cs cs2 : List V} (hT : elemT2 P t = some (e, sz, bytes)) (hz : zeroV P e = some cs) (hx : evV ρ x = .int k n) (hy : evV ρ y = .int k2 n) (hlen : n * bytes ≤ 281474976710656) (h63 : n ≤ 9223372036854775807)
    (hw : ∀ (Z : ZM) (l : List Value), RepL none Z cs l → RepL none Z cs2 l) (hl2 : cs2.length = cs.length) :
    Loc P ⟨dst, .makeSlice t x y, ty, pos, aft, gd⟩ ρ [] (.sl sz d n 0 n) [(d, .row e sz 0 (List.replicate n cs2))] := by
  intro ρr m Z w hops hs hfr
  have hX : ev ρr x = .int k n := by have := hops x (by simp [Op.operands]); rw [hx] at this; exact this
  have hY : ev ρr y = .int k2 n := by have := hops y (by simp [Op.operands]); rw [hy] at this; exact this
  obtain ⟨i, z, hu, hi, hiz, hsz, hb, h0, h00⟩ := elemT2_of hT
  have hcs : cs = z.cells.toList.map ofC1 := by
    simp only [zeroV, hi, hiz, Option.some.injEq] at hz
    exact hz.symm
  subst hcs
  have hrun := run_make (P := P) (w := w) t e i z hu hi hiz k k2 (n : Int) (n : Int) (by omega) (by omega) (by rw [hb, Int.mul_comm]; omega) (by omega)
  have e1 : ((n : Int).toNat) = n := by omega
  rw [e1] at hrun
  have hszz : z.cells.size = i.size := by rw [h0, hsz]
  have hcl : cs2.length = i.size := by rw [hl2]; simp [hszz]
  have hels : (List.replicate n cs2).length = n := by simp
  obtain ⟨m', h2, h3⟩ := Step.new (m := m) (Z := Z) (w := w) (k := d) (o := .row e sz 0 (List.replicate n cs2)) (.cells (madeCells z.cells (n * i.size)) e) n hs.frozen (fun L => hfr d (by simp [keys]) (by simp [keys]) L) fun m' g1 g2 g3 => by
    by_cases hn0 : n = 0
    · subst hn0
      have hv0 : (Obj.row e sz 0 (List.replicate 0 cs2)).ver = 0 := rfl
      rw [hv0] at g1
      exact .inl ⟨h00, rfl, rfl, ⟨_, g1⟩, fun L l e => by have := g2 L l e; rw [hv0] at this; omega⟩
    have hver : (Obj.row e sz 0 (List.replicate n cs2)).ver = n := hels
    rw [hver] at g1
    have hrep := made_rep (m := none) (Z := Z) (zc := z.cells) (n := n) (by omega)
    rw [hszz] at hrep
    have hrep := RepL.row_weak hw n _ hrep
    refine .inr ⟨w.heap.size, n, madeCells z.cells (n * i.size), (0, 0), by rw [hels]; exact g1, by omega, World.alloc_heap_new w _, by rw [hels]; exact Nat.le_refl _, by simp only [maxLen]; omega, by rw [size_madeCells, hsz], by omega, ?_, ?_, by simp, by simp, fun a x ha e => by have := frozen_lt hs.frozen ha; omega, fun L l e => by have := g2 L l e; rw [hver] at this; rw [hels]; omega, fun off x ho => by omega⟩
    · rw [hels, ← hsz, List.take_of_length_le (by simp [size_madeCells])]
      exact hrep
    · intro c hc
      rw [List.eq_of_mem_replicate hc, hcl, hsz]
  have hver : (Obj.row e sz 0 (List.replicate n cs2)).ver = n := hels
  rw [hver] at h3
  refine ⟨rfl, .inl ⟨.slice (some ⟨w.heap.size, 0, none⟩) n n, w.alloc (.cells (madeCells z.cells (n * i.size)) e), ?_, m', Z, h2, m', _, rfl, h3, by simp, by simp only [maxLen]; omega, .inl (by simp)⟩⟩
  simp only [execOp, hX, hY, Sem.run_bind, hrun, Result.andThen_ok, Sem.run_pure]
theorem loc_makeSliceT {t d e sz bytes L : Nat} {q : Int} {x y : Operand} {k k2 : IntKind} {cs cs2 : List V} {all : List (List V)} (hT : elemT2 P t = some (e, sz, bytes)) (hz : zeroV P e = some cs) (hx : evV ρ x = .int k q) (hy : evV ρ y = .int k2 q) (hl2 : Nat.beq cs2.length cs.length = true) (h0 : 0 ≤ q) (hlen : q * bytes ≤ 281474976710656) (h63 : q ≤ 9223372036854775807) (hall : List.replicate q.toNat cs2 = all) (hL : L = q.toNat) (hw : ∀ (Z : ZM) (l : List Value), RepL none Z cs l → RepL none Z cs2 l) :
    Loc P ⟨dst, .makeSlice t x y, ty, pos, aft, gd⟩ ρ [] (.sl sz d L 0 L) [(d, .row e sz 0 all)] := by
  subst hall hL
  have e1 : q = ((q.toNat : Nat) : Int) := by omega
  exact loc_makeSlice hT hz (by rw [← e1]; exact hx) (by rw [← e1]; exact hy) (by have : ((q.toNat * bytes : Nat) : Int) ≤ 281474976710656 := by rw [Int.natCast_mul, ← e1]; exact hlen
                                                                                  omega) (by omega) hw (Nat.eq_of_beq_eq_true hl2)
end
end Go.EV
namespace Go.EV
open Go Go.RowKit Go.Eng
section
variable {P : Program} {ρ : Env} {dst : Option Tmp} {ty : TypeId} {pos : String} {aft : Array Edge} {gd : Option (Nat × Bool)}
def hdN (sz k i : Nat) (l : List (List V)) : V := match l with | [] => .nils | _ => .sl sz k (code i l.length) 0 l.length
end
end Go.EV
namespace Go.EV
open Go Go.RowKit Go.Eng
section
variable {m : M} {Z : ZM} {w w' : World}
end
section
variable {P : Program} {ρ : Env} {dst : Option Tmp} {ty : TypeId} {pos : String} {aft : Array Edge} {gd : Option (Nat × Bool)}
end
end Go.EV
namespace Go.EV
open Go Go.RowKit Go.Eng
section
variable {K0 : List Nat} {ρ : Env} {H : Heap}
theorem cut_box {k t : Nat} {cs cs' : List V} (R : Heap) (ks : List Nat) (hg : H.get k = some (.box t cs)) (hR : selH ks H = some R) (hfz : frz R = R) (hv : ViewL R cs cs') {H1 : Heap} (hH1 : (k, .box t cs') :: remH [k] H = H1) : Cut K0 ρ H ρ H1 := fun c ρr w S => by
 subst hH1
 obtain ⟨m, Z, S, hr⟩ := S
 have hp := split_perm (ks := [k]) (F := [(k, .box t cs)]) S.step.sim.nodup (by simp) (get_sel hg)
 have S1 : Step c.m0 c.Z0 c.F0 c.W0 m Z ((k, .box t cs) :: remH [k] H) w := S.step.permR hp
 have hview : ∀ l, RepL (some m) Z cs l → RepL (some m) Z cs' l := fun l hl => hv.rep (F := R) (w := w) (fun k t' sz fz els hg => by
  have hmem := Heap.get_mem hg
  have h1 := S.step.sim.holds _ ((selH_mem hR).2 _ hmem)
  have : fz = els.length := by
   rw [← hfz] at hmem
   rcases mem_frz hmem with ⟨k', t'', sz', fz', els', h2, h3⟩ | ⟨h2, h3⟩
   ·simp only [Prod.mk.injEq, Obj.row.injEq] at h3
    obtain ⟨_, _, _, e1, e2⟩ := h3
    rw [e1, e2]
   ·exact absurd rfl (h3 t' sz fz els)
  subst this
  exact h1) hl
 have hblk : ∀ p ∈ ((k, .box t cs') :: remH [k] H : Heap), ∃ q ∈ ((k, .box t cs) :: remH [k] H : Heap), q.1 = p.1 ∧ blk m q = blk m p := fun p hp => by
  rcases List.mem_cons.1 hp with rfl | hp
  ·exact ⟨(k, .box t cs), List.mem_cons_self .., rfl, rfl⟩
  ·exact ⟨p, List.mem_cons_of_mem _ hp, rfl, rfl⟩
 have hk : keys ((k, .box t cs') :: remH [k] H) = keys ((k, .box t cs) :: remH [k] H) := rfl
 refine ⟨m, Z, ⟨⟨⟨S1.sim.frozen, fun p hp => ?_, by rw [hk]; exact S1.sim.nodup, fun p hp q hq b h1 h2 => ?_⟩, S1.mext, S1.zext, S1.os, S1.tape, S1.output, S1.size, S1.frame, fun a ha => by rw [hk]; exact S1.keep a ha, fun a ha => S1.newk a (by rw [← hk]; exact ha), fun p hp b hb => ?_, S1.znew⟩, fun a ha => S.dom a fun h => ha ?_⟩, hr⟩
 ·rcases List.mem_cons.1 hp with rfl | hp
  ·obtain ⟨b, cur, g1, g2, g3, g4, g5⟩ := S1.sim.holds (k, .box t cs) (List.mem_cons_self ..)
   exact ⟨b, cur, g1, g2, hview _ g3, g4, g5⟩
  ·exact S1.sim.holds p (List.mem_cons_of_mem _ hp)
 ·obtain ⟨p', hp', e1, e2⟩ := hblk p hp
  obtain ⟨q', hq', e3, e4⟩ := hblk q hq
  rw [← e1, ← e3]
  exact S1.sim.disj p' hp' q' hq' b (by rw [e2]; exact h1) (by rw [e4]; exact h2)
 ·obtain ⟨p', hp', e1, e2⟩ := hblk p hp
  exact S1.blks p' hp' b (by rw [e2]; exact hb)
 ·rw [hk]; exact (hp.map _).mem_iff.1 h
end
def WkL (a b : List V) : Prop := ∀ (Z : ZM) (l : List Value), RepL none Z a l → RepL none Z b l
theorem wk_nil : WkL [] [] := fun _ _ h => h
theorem Step.weak1 {m m' : M} {Z Z' : ZM} {F : Heap} {w w' : World} {d : Nat} {o o' : Obj} (h : Step m Z F w m' Z' [(d, o)] w') (hb : blk m' (d, o') = blk m' (d, o)) (hh : Holds m' Z' w' d o → Holds m' Z' w' d o') : Step m Z F w m' Z' [(d, o')] w' := by
 refine ⟨⟨h.sim.frozen, fun p hp => ?_, h.sim.nodup, fun p hp q hq _ _ _ => ?_⟩, h.mext, h.zext, h.os, h.tape, h.output, h.size, h.frame, h.keep, h.newk, fun p hp b hb' => ?_, h.znew⟩
 ·simp only [List.mem_singleton] at hp
  subst hp
  exact hh (h.sim.holds _ (List.mem_singleton.2 rfl))
 ·simp only [List.mem_singleton] at hp hq
  subst hp; subst hq; rfl
 ·simp only [List.mem_singleton] at hp
  subst hp
  exact h.blks (d, o) (List.mem_singleton.2 rfl) b (by rw [← hb]; exact hb')
section
variable {P : Program} {ρ : Env} {dst : Option Tmp} {ty : TypeId} {pos : String} {aft : Array Edge} {gd : Option (Nat × Bool)}
theorem loc_buildSliceW {t d e sz n : Nat} {parts : List (Nat × Operand)} {els els2 all : List (List V)} {fl fl2 : List V} (hT : elemT P t = some (e, sz)) (hsz : Nat.ble (n * sz) 16777216 = true) (h : rowsV n sz (parts.map fun p => (p.1, evV ρ p.2)) = some els)
  (h1 : els.flatten = fl) (h2 : els2.flatten = fl2) (hw : WkL fl fl2) (hl : Nat.beq els2.length els.length = true) (hc : els2.all (fun e => Nat.beq e.length sz) = true) (ha : els2 = all) :
  Loc P ⟨dst, .buildSlice t n parts.toArray, ty, pos, aft, gd⟩ ρ [] (.sl sz d n 0 n) [(d, .row e sz 0 all)] := by
 subst ha
 have hL := loc_buildSlice (dst := dst) (ty := ty) (pos := pos) (aft := aft) (gd := gd) (d := d) hT hsz h
 have hl := Nat.eq_of_beq_eq_true hl
 intro ρr m Z w hops hs hfr
 refine (hL ρr m Z w hops hs (fun k hk hk' L => hfr k (by simpa [keys] using hk) hk' L)).mono fun x w' hx => ?_
 obtain ⟨m', Z', st, hr⟩ := hx
 refine ⟨m', Z', st.weak1 (by funext b; simp only [blk, blk1, Obj.ver]; rw [hl]) fun hh => ?_, hr⟩
 rcases hh with ⟨g1, g2, g3, g4, g5⟩ | ⟨b, cap, cur, fr, g1, g2, g3, g4, g5, g6, g7, g8, g9, g10, g11, g12, g13, g14⟩
 ·exact .inl ⟨g1, by rw [g2] at hl; exact List.eq_nil_of_length_eq_zero hl, g3, g4, g5⟩
 ·refine .inr ⟨b, cap, cur, fr, by rw [hl]; exact g1, g2, g3, by rw [hl]; exact g4, g5, g6, g7, ?_, fun e he => Nat.eq_of_beq_eq_true ((List.all_eq_true.1 hc) e he), g10, by rw [hl]; exact g11, g12, by rw [hl]; exact g13, g14⟩
  rw [hl, h2]
  rw [h1] at g8
  exact hw _ _ g8
end
end Go.EV
namespace Go.EV
open Go Go.RowKit Go.Eng
def rowsN (sz : Nat) (ls : List (List (List V))) : List (List V) := ls.map fun l => [.vs sz l]
inductive NV (k n sz : Nat) (ls : List (List (List V))) : List V → List V → Prop
 | nil : NV k n sz ls [] []
 | same {v : V} {a b : List V} (h : NV k n sz ls a b) : NV k n sz ls (v :: a) (v :: b)
 | nest {a b : List V} {els : List (List V)} (hn : n = ls.length) (he : rowsN sz ls = els) (h : NV k n sz ls a b) : NV k n sz ls (.sl 1 k 0 0 n :: a) (.vs 1 els :: b)
section
variable {m : M} {Z : ZM} {w : World}
open Classical in
noncomputable def zkill (mk : Nat → Option (Nat × Nat)) (ls : List (List (List V))) (Z : ZM) (w : World) : ZM := fun a => if a.spot = none ∧ blkN mk ls a.block then w.cell? a else Z a
theorem nest_data {t e sz : Nat} {ls : List (List (List V))} {k : Nat} (hf : ∀ a x, Z a = some x → w.cell? a = some x) (h : HoldsN (m k) Z w t e sz none ls) {x : Value} (hx : Rep (some m) Z (.sl 1 k 0 0 ls.length) x) : Rep none (zkill (m k) ls Z w) (.vs 1 (rowsN sz ls)) x := by
 have hup : ∀ a x, Z a = some x → zkill (m k) ls Z w a = some x := fun a x ha => by
  unfold zkill
  split
  ·exact hf a x ha
  ·exact ha
 obtain ⟨f, loc, e1, e2, e3, e4, e5⟩ := hx
 cases e1
 have hlr : (rowsN sz ls).length = ls.length := by simp [rowsN]
 by_cases hls : ls = []
 ·subst hls
  rcases e5 with e5 | ⟨_, A, e5⟩ | ⟨e5, _⟩
  ·exact ⟨_, _, e5, by simp [rowsN], by omega, .inl rfl⟩
  ·exact ⟨_, _, e5, by simp [rowsN], by simp [maxLen], .inl rfl⟩
  ·omega
 obtain ⟨rfl, _⟩ | ⟨_, ⟨rfl, _, _⟩ | ⟨b, cap, cur, fr, h1, h2, h3, h4, h5, h6, h7, h8, h9, h10, h11⟩⟩ := h
 ·exact absurd rfl hls
 ·exact absurd rfl hls
 rw [h1] at e2; cases e2
 have e5 : x = .slice (some ⟨b, 0, none⟩) ls.length cap := by
  rcases e5 with e5 | ⟨e5, _⟩ | ⟨e5, _⟩
  ·simpa using e5
  ·simp only at e5; omega
  ·omega
 refine ⟨_, _, by rw [hlr]; exact e5, by rw [hlr]; omega, h7, .inr ⟨_, rfl, RepRows.of_get fun i cs hi => ?_⟩⟩
 simp only [rowsN, List.getElem?_map, Option.map_eq_some_iff] at hi
 obtain ⟨l, hl, rfl⟩ := hi
 refine ⟨rfl, RepAt.of_get fun j v hj => ?_⟩
 have hj0 : j = 0 := by have := (List.getElem?_eq_some_iff.1 hj).1; simp at this; omega
 subst hj0
 simp only [List.getElem?_cons_zero, Option.some.injEq] at hj
 subst hj
 obtain ⟨hd, hI, hc⟩ := h9 i l hl
 have hcell : w.cell? ⟨b, i, none⟩ = some hd := by rw [cell_of_row w b i cur t fr h3]; exact hc (by simp)
 refine ⟨hd, ?_, ?_⟩
 ·rw [Addr.add_lit, Addr.add_lit, Nat.zero_add, Nat.zero_add, Nat.mul_one, Nat.zero_add, Nat.add_zero]
  unfold zkill
  rw [if_pos ⟨rfl, 0, cap, h1, by omega, .inl rfl⟩]
  exact hcell
 ·rcases hI with ⟨rfl, e, _⟩ | ⟨b', cp, cu, f', q1, q2, q3, q4, q4', q5, q6, q7, q8, q9, q10⟩
  ·cases e; exact ⟨none, 0, rfl, Nat.le_refl _, Nat.zero_le _, .inl rfl⟩
  ·cases q1
   refine ⟨_, _, rfl, q5, q6, .inr ⟨_, rfl, RepRows.of_get fun i' cs hi => ⟨q9 cs (List.mem_of_getElem? hi), RepAt.of_get fun j v hj => ?_⟩⟩⟩
   have hil : i' < l.length := (List.getElem?_eq_some_iff.1 hi).1
   have hjl : j < sz := by have := (List.getElem?_eq_some_iff.1 hj).1; rw [q9 cs (List.mem_of_getElem? hi)] at this; exact this
   have hlt : i' * sz + j < l.length * sz := by
    have : (i' + 1) * sz ≤ l.length * sz := Nat.mul_le_mul_right sz hil
    rw [Nat.succ_mul] at this; omega
   obtain ⟨x, g1, g2⟩ := q8.get (flatten_getV q9 hi hj)
   rw [List.getElem?_take, if_pos hlt] at g1
   refine ⟨x, ?_, g2.up hup (fun f e => by cases e)⟩
   rw [Nat.zero_add, Nat.zero_add, add_add', Addr.add_lit, Nat.zero_add]
   unfold zkill
   rw [if_pos ⟨rfl, _, cp, q2, by omega, .inr ⟨i, l, hl, rfl⟩⟩, cell_of_row w b' _ cu e f' q4]
   simpa using g1
theorem NV.rep {t e sz k n : Nat} {ls : List (List (List V))} (hf : ∀ a x, Z a = some x → w.cell? a = some x) (h : HoldsN (m k) Z w t e sz none ls) : ∀ {a b : List V}, NV k n sz ls a b → ∀ {xs : List Value}, RepL (some m) Z a xs → RepL (some m) (zkill (m k) ls Z w) b xs
 | _, _, .nil, xs, hx => hx
 | _, _, .same hr, xs, hx => by
  obtain ⟨x, xs', rfl, h1, h2⟩ := hx
  refine ⟨x, xs', rfl, h1.up (fun a x ha => ?_) (fun f e => ⟨f, e, fun _ _ _ q => q⟩), NV.rep hf h hr h2⟩
  unfold zkill
  split
  ·exact hf a x ha
  ·exact ha
 | _, _, .nest hn he hr, xs, hx => by
  subst hn; subst he
  obtain ⟨x, xs', rfl, h1, h2⟩ := hx
  exact ⟨x, xs', rfl, (nest_data hf h h1).up (fun _ _ q => q) (fun f e => by cases e), NV.rep hf h hr h2⟩
end
section
variable {K0 : List Nat} {ρ : Env} {H : Heap}
end
end Go.EV
namespace Go.EV
open Go Go.RowKit Go.Eng
def encN {α : Type} (f : α → List V) (p : List (List α)) : List (List (List V)) := p.map fun l => l.map f
theorem encN_len {α : Type} (f : α → List V) (p : List (List α)) : p.length = (encN f p).length := (List.length_map ..).symm
section
variable {P : Program} {ρ : Env} {dst : Option Tmp} {ty : TypeId} {pos : String} {aft : Array Edge} {gd : Option (Nat × Bool)} {α : Type}
end
end Go.EV
namespace Go.EV
open Go Go.RowKit Go.Eng
def qvIs (hd : Bool) (sz n b cap off : Nat) (x : Value) : Prop := match hd with
 | true => off + n ≤ cap ∧ cap ≤ maxLen ∧ (x = .slice (some ⟨b, off * sz, none⟩) n (cap - off) ∨ (cap ≤ off ∧ ∃ A, x = .slice A n 0))
 | false => x = .pointer (some ⟨b, off * sz + n, none⟩)
def qv (hd : Bool) (sz ver n : Nat) : GVal where
 rep mk x := ∃ b cap off, mk (2 * ver + 2) = some (b, cap) ∧ (∃ b', mk (2 * ver + 3) = some (b', off)) ∧ qvIs hd sz n b cap off x
 mono mk mk' x h := fun ⟨b, cap, off, h1, ⟨b', h2⟩, h3⟩ => ⟨b, cap, off, h _ _ h1, ⟨b', h _ _ h2⟩, h3⟩
 one mk x := by
  rintro ⟨b, cap, off, _, _, h⟩
  cases hd with
  | true => obtain ⟨_, _, rfl | ⟨_, A, rfl⟩⟩ := h <;> exact ⟨rfl, rfl⟩
  | false => cases h; exact ⟨rfl, rfl⟩
def QueH (mk : Nat → Option (Nat × Nat)) (Z : ZM) (w : World) (t sz ver : Nat) (els : List (List V)) : Prop :=
 0 < sz ∧ ∃ (b cap off : Nat) (cur : Array Value) (fr : Nat × Nat), mk (2 * ver + 2) = some (b, cap) ∧ (∃ b', mk (2 * ver + 3) = some (b', off)) ∧ 0 < cap ∧ off + els.length ≤ cap ∧ cap ≤ maxLen ∧ w.heap[b]? = some (.cells cur t fr) ∧ (fr.2 = 0 ∨ cap * sz ≤ fr.1) ∧ cur.size = cap * sz ∧
  RepL none Z els.flatten ((cur.toList.drop (off * sz)).take (els.length * sz)) ∧ (∀ e ∈ els, e.length = sz) ∧ (∀ a x, Z a = some x → a.block ≠ b) ∧ ∀ L loc, mk L = some loc → L ≤ 2 * ver + 3
def que (t sz ver : Nat) (els : List (List V)) : GObj where
 holds mk Z w := QueH mk Z w t sz ver els
 blks mk b := ∃ c, mk (2 * ver + 2) = some (b, c) ∧ c ≠ 0
 some_ mk b := fun ⟨c, h1, h2⟩ => ⟨_, c, h1, h2⟩
 own mk Z w b := by
  rintro ⟨_, b', cap, off, cur, fr, h1, _, _, _, _, h2, _⟩ ⟨c, h3, _⟩
  rw [h1] at h3; cases h3
  exact ⟨_, h2, rfl⟩
 keep mk Z Z' w w' := by
  rintro ⟨h0, b', cap, off, cur, fr, h1, h2, h3, h4, h5, h6, h7, h8, h9, h10, h11, h12⟩ hZ hw
  obtain ⟨hw1, hz1⟩ := hw b' ⟨cap, h1, by omega⟩
  exact ⟨h0, b', cap, off, cur, fr, h1, h2, h3, h4, h5, hw1.trans h6, h7, h8, h9.up hZ (fun f e => by cases e), h10, fun a x ha e => h11 a x (hz1 a x ha e) e, h12⟩
section
variable {m : M} {Z : ZM} {w w' : World}
theorem Step.que {k t sz ver b cap off : Nat} {o : Obj} {els : List (List V)} {cur : Array Value} {fr : Nat × Nat} (hs : SimH m Z [(k, o)] w) (hver : ∀ L loc, m k L = some loc → L ≤ 2 * ver + 1)
  (hheap : ∀ j, j < w.heap.size → ¬ blk m (k, o) j → w'.heap[j]? = w.heap[j]?) (h1 : w'.os = w.os) (h2 : w'.tape = w.tape) (h3 : w'.output = w.output) (hsz : w.heap.size ≤ w'.heap.size)
  (hb : w'.heap[b]? = some (.cells cur t fr)) (hbo : w.heap.size ≤ b ∨ blk m (k, o) b) (hz : ∀ a x, Z a = some x → w'.cell? a = some x) (h0 : 0 < sz) (hc0 : 0 < cap) (hoff : off + els.length ≤ cap) (hcm : cap ≤ maxLen) (hfr : (fr.2 = 0 ∨ cap * sz ≤ fr.1)) (hcs : cur.size = cap * sz)
  (hr : RepL none Z els.flatten ((cur.toList.drop (off * sz)).take (els.length * sz))) (hk : ∀ e ∈ els, e.length = sz) (hzb : ∀ a x, Z a = some x → a.block ≠ b) :
  ∃ m', Step m Z [(k, o)] w m' Z [(k, .gen (EV.que t sz ver els))] w' ∧ m' k (2 * ver + 2) = some (b, cap) ∧ m' k (2 * ver + 3) = some (b, off) := by
 let m' : M := fun k' L => if k' = k ∧ L = 2 * ver + 2 then some (b, cap) else if k' = k ∧ L = 2 * ver + 3 then some (b, off) else m k' L
 have e1 : m' k (2 * ver + 2) = some (b, cap) := by simp [m']
 have e2 : m' k (2 * ver + 3) = some (b, off) := by simp [m']
 have e3 : ∀ k' L loc, m k' L = some loc → m' k' L = some loc := fun k' L loc e => by
  by_cases hk' : k' = k
  ·subst hk'
   have := hver _ _ e
   simp only [m']
   rw [if_neg (by omega), if_neg (by omega)]; exact e
  ·simp [m', hk', e]
 refine ⟨m', ⟨⟨hz, fun p hp => ?_, by simp [keys], fun p hp q hq _ _ _ => ?_⟩, e3, fun _ _ e => e, h1, h2, h3, hsz, fun j hj hn => hheap j hj (hn _ (List.mem_singleton.2 rfl)), fun j hj => by simpa [keys] using hj, fun j hj => ?_, fun p hp b2 hb2 => ?_, fun a x ha => .inl ha⟩, e1, e2⟩
 ·simp only [List.mem_singleton] at hp
  subst hp
  refine ⟨h0, b, cap, off, cur, fr, e1, ⟨b, e2⟩, hc0, hoff, hcm, hb, hfr, hcs, hr, hk, hzb, fun L loc e => ?_⟩
  simp only [m'] at e
  split at e
  ·omega
  ·split at e
   ·omega
   ·have := hver _ _ e; omega
 ·simp only [List.mem_singleton] at hp hq
  subst hp; subst hq; rfl
 ·funext L
  have : j ≠ k := by simpa [keys] using hj
  simp [m', this]
 ·simp only [List.mem_singleton] at hp
  subst hp
  obtain ⟨c, q1, _⟩ := hb2
  rw [e1] at q1; cases q1
  rcases hbo with h | h
  ·exact .inl h
  ·exact .inr ⟨_, List.mem_singleton.2 rfl, h⟩
end
section
variable {K0 : List Nat} {ρ : Env} {H : Heap}
end
section
variable {P : Program} {ρ : Env} {dst : Option Tmp} {ty : TypeId} {pos : String} {aft : Array Edge} {gd : Option (Nat × Bool)}
end
end Go.EV
namespace Go.EV
open Go Go.RowKit Go.Eng
section
variable {P : Program}
end
section
variable {P : Program} {ρ : Env} {dst : Option Tmp} {ty : TypeId} {pos : String} {aft : Array Edge} {gd : Option (Nat × Bool)}
end
end Go.EV
namespace Go.EV
open Go Go.RowKit Go.Eng
def cpy {α : Type} (l : List α) (o : Nat) (ys : List α) : List α := l.take o ++ ys ++ l.drop (o + ys.length)
theorem cpy_length {α : Type} {l ys : List α} {o : Nat} (h : o + ys.length ≤ l.length) : (cpy l o ys).length = l.length := by simp [cpy]; omega
theorem cpy_nil {α : Type} (l : List α) (o : Nat) : cpy l o [] = l := by simp [cpy]
theorem cpy_map {α β : Type} (f : α → β) (l : List α) (o : Nat) (ys : List α) : (cpy l o ys).map f = cpy (l.map f) o (ys.map f) := by simp [cpy]
def cpyT {α : Type} (l : List α) (o : Nat) (ys : List α) : List α := (cpy l o ys).take l.length
theorem cpyT_length {α : Type} {l ys : List α} {o : Nat} : (cpyT l o ys).length = l.length := by simp [cpyT, cpy]; omega
theorem cpyT_eq {α : Type} {l ys : List α} {o : Nat} (h : o + ys.length ≤ l.length) : cpyT l o ys = cpy l o ys := by
 rw [cpyT, List.take_of_length_le]; rw [cpy_length h]; exact Nat.le_refl _
theorem flatten_take {sz : Nat} : ∀ {els : List (List V)}, (∀ e ∈ els, e.length = sz) → ∀ o, (els.take o).flatten = els.flatten.take (o * sz)
 | [], _, o => by simp
 | a :: l, h, 0 => by simp
 | a :: l, h, o + 1 => by
  have ha := h a (List.mem_cons_self ..)
  rw [List.take_succ_cons, List.flatten_cons, List.flatten_cons, flatten_take (fun e he => h e (List.mem_cons_of_mem _ he)) o, Nat.add_mul, Nat.one_mul, Nat.add_comm, ← ha, List.take_length_add_append]
theorem flatten_drop {sz : Nat} : ∀ {els : List (List V)}, (∀ e ∈ els, e.length = sz) → ∀ o, (els.drop o).flatten = els.flatten.drop (o * sz)
 | [], _, o => by simp
 | a :: l, h, 0 => by simp
 | a :: l, h, o + 1 => by
  have ha := h a (List.mem_cons_self ..)
  rw [List.drop_succ_cons, List.flatten_cons, flatten_drop (fun e he => h e (List.mem_cons_of_mem _ he)) o, Nat.add_mul, Nat.one_mul, Nat.add_comm, ← ha, List.drop_length_add_append]
def Rd (w : World) (Z : ZM) (y : Value) (ys : List (List V)) : Prop :=
 ∃ A cc, y = .slice A ys.length cc ∧ (0 < ys.length → ∃ a, A = some a ∧ ∃ news : List Value, RepL none Z ys.flatten news ∧ ∀ j u, news[j]? = some u → w.cell? (a.add j) = some u)
section
variable {P : Program} {m : M} {Z : ZM} {w : World}
theorem copy_run {k e sz bytes t t2 ty L o n c : Nat} {els ys : List (List V)} {X Y : Value} (hT : elemT2 P t = some (e, sz, bytes)) (hs : SimH m Z [(k, .row e sz 0 els)] w) (hX : Rep (some m) Z (.sl sz k L o n) X) (hL : L = els.length) (hon : o + n ≤ L) (hY : Rd w Z Y ys) (h1 : ∀ c ∈ ys, c.all V.one = true)
  (hkl : ∀ c ∈ ys, c.length = sz) (hc : c = min ys.length n) : ∃ w', (Builtin.copy_ #[t, t2] ty #[X, Y]).run P w = .ok (.int .i64 c) w' ∧ Step m Z [(k, .row e sz 0 els)] w m Z [(k, .row e sz 0 (cpy els o (ys.take c)))] w' := by
 obtain ⟨i, z, hu, hi, hz, hisz, hib, hzs, h0⟩ := elemT2_of hT
 subst hisz; subst hib; subst hL
 obtain ⟨f, loc, e1, e2, e3, e4, e5⟩ := hX
 cases e1
 obtain ⟨A, cc, rfl, hA⟩ := hY
 obtain ⟨B, cB, hXv⟩ : ∃ B cB, X = .slice B n cB := by
  rcases e5 with e5 | ⟨e5, A', e6⟩ | ⟨_, e5, A', c', e6, _⟩
  ·exact ⟨_, _, e5⟩
  ·exact ⟨A', 0, by rw [e6]; congr 1; omega⟩
  ·exact ⟨A', c', by rw [e6, e5]⟩
 have hlt : (ys.take c).length = c := by rw [List.length_take]; omega
 by_cases hc0 : c = 0
 ·refine ⟨w, ?_, by rw [hc0, List.take_zero, cpy_nil]; exact Step.refl hs⟩
  have hmin : Nat.min ys.length n = 0 := hc.symm.trans hc0
  have hf : (Builtin.firstCells i.size 0 (.slice A ys.length cc)).run P w = .ok #[] w := by
   cases A with
   | none => simp [Builtin.firstCells]
   | some a => simp [Builtin.firstCells, loadCells, loadCellsFrom]
  rw [hXv, hc0]
  cases B with
  | none => simp [Builtin.copy_, run_underlying hu, sizeOf, typeInfo, hi, Builtin.lenOf, hmin, hf, goInt]
  | some b => simp [Builtin.copy_, run_underlying hu, sizeOf, typeInfo, hi, Builtin.lenOf, hmin, hf, storeCells, goInt]
 have hn0 : 0 < n := by omega
 have hy0 : 0 < ys.length := by omega
 obtain ⟨a, rfl, news, hn1, hn2⟩ := hA hy0
 rcases hs.holds _ (List.mem_singleton.2 rfl) with ⟨_, g1, _⟩ | ⟨b, cap, cur, fr, g1, g0, g2, g3, g4, g5, g6, g7, g8, g9, g10, g11, g12, g13⟩
 ·subst g1; simp at hon; omega
 have g1 : m k els.length = some (b, cap) := g1
 rw [g1] at e2; cases e2
 have e5 : X = .slice (some ⟨b, o * i.size, none⟩) n (cap - o) := by
  rcases e5 with e5 | ⟨e5, _⟩ | ⟨_, e5, _⟩
  ·exact e5
  ·simp only at e5; omega
  ·omega
 have hnl : news.length = ys.length * i.size := by rw [hn1.length, flatten_lenV hkl]
 have hmin : Nat.min ys.length n = c := hc.symm
 have hcy : c ≤ ys.length := by omega
 have hcn : c ≤ n := by omega
 have hcs : c * i.size ≤ ys.length * i.size := Nat.mul_le_mul_right _ hcy
 have hnc : (news.take (c * i.size)).length = c * i.size := by rw [List.length_take, hnl]; omega
 have hf := run_firstCells_some (P := P) w i.size c a ys.length cc (news.take (c * i.size)) hnc (fun j v hj => by
  rw [List.getElem?_take] at hj
  split at hj
  ·exact hn2 j v hj
  ·cases hj)
 have hones : ∀ u ∈ news, u.oneCell' = true := ones_of hn1 (List.all_eq_true.2 fun v hv => by
  obtain ⟨c, hc, hvc⟩ := List.mem_flatten.1 hv
  exact (List.all_eq_true.1 (h1 c hc)) v hvc)
 have hsum : (o + c) * i.size ≤ els.length * i.size := Nat.mul_le_mul_right _ (by omega)
 have hcapm : els.length * i.size ≤ cap * i.size := Nat.mul_le_mul_right _ g3
 have hadd : (o + c) * i.size = o * i.size + c * i.size := Nat.add_mul ..
 have hst := run_storeCells_atG P b (o * i.size) e fr (news.take (c * i.size)) 0 cur w g2 (by simp at g9; omega) (by rw [hnc, g5]; omega) (fun v hv => hones v (List.mem_of_mem_take hv))
 simp only [Nat.add_zero, hnc] at hst
 refine ⟨w.setRow b (cur.toList.take (o * i.size) ++ news.take (c * i.size) ++ cur.toList.drop (o * i.size + c * i.size)).toArray, ?_, ?_⟩
 ·rw [e5]
  simp [Builtin.copy_, run_underlying hu, sizeOf, typeInfo, hi, Builtin.lenOf, hmin, hf, hst, goInt]
 ·have hbk : blk m (k, .row e i.size 0 els) b := by
   have : cap ≠ 0 := by omega
   simp [blk, blk1, Obj.ver, g1, this]
  have hlen2 : (cpy els o (ys.take c)).length = els.length := cpy_length (by rw [hlt]; omega)
  have hcl : cur.toList.length = cap * i.size := by simpa using g5
  have hno : ∀ a x, Z a = some x → a.block ≠ b := fun a x ha e => by have := g11 a x ha e; simp at this
  refine Step.write (b := b) hs hbk (fun b2 h => blk_ver (by simp only [Obj.ver]; exact hlen2) rfl rfl b2 h) rfl rfl rfl (by simp) (fun j hj => setRow_other w b j _ hj) (fun a x ha e => absurd e (hno a x ha)) ?_
  refine .inr ⟨b, cap, _, fr, by rw [hlen2]; exact g1, g0, setRow_heap w b cur _ e fr g2, by rw [hlen2]; exact g3, g4, ?_, g6, ?_, ?_, g9, by omega, fun a x ha e => absurd e (hno a x ha), by rw [hlen2]; exact g12, fun off x h => by simp at h⟩
  ·simp only [List.size_toArray, List.length_append, List.length_take, List.length_drop, hnl]; omega
  ·rw [hlen2]
   have hfl : (cpy els o (ys.take c)).flatten = els.flatten.take (o * i.size) ++ ys.flatten.take (c * i.size) ++ els.flatten.drop ((o + c) * i.size) := by
    rw [cpy, List.flatten_append, List.flatten_append, flatten_take g8, flatten_take hkl, hlt, flatten_drop g8]
   rw [hfl]
   have hcu : (cur.toList.take (o * i.size) ++ news.take (c * i.size) ++ cur.toList.drop (o * i.size + c * i.size)).toArray.toList.take (els.length * i.size) = (cur.toList.take (els.length * i.size)).take (o * i.size) ++ news.take (c * i.size) ++ (cur.toList.take (els.length * i.size)).drop ((o + c) * i.size) := by
    simp only []
    have hl1 : (cur.toList.take (o * i.size) ++ news.take (c * i.size)).length = o * i.size + c * i.size := by
     rw [List.length_append, hnc, List.length_take]; omega
    rw [List.take_append, List.take_of_length_le (by rw [hl1]; omega), hl1, List.take_take, List.drop_take, hadd]
    congr 2
    rw [Nat.min_eq_left (by omega)]
   rw [hcu]
   exact ((g7.take _).append (hn1.take _)).append (g7.drop _)
  ·intro c' hc'
   rw [cpy, List.append_assoc] at hc'
   rcases List.mem_append.1 hc' with h | h
   ·exact g8 _ (List.mem_of_mem_take h)
   ·rcases List.mem_append.1 h with h | h
    ·exact hkl _ (List.mem_of_mem_take h)
    ·exact g8 _ (List.mem_of_mem_drop h)
theorem Src.rd {R : Heap} {sz : Nat} {y : V} {ys : List (List V)} {x : Value} (h : Src sz R y ys) (h0 : 0 < sz) (hs : SimH m Z R w) (hx : Rep (some m) Z y x) : Rd w Z x ys := by
 obtain ⟨A, c, e1, _, e2, e3⟩ := h.read h0 hs hx
 refine ⟨A, c, e1, fun hp => ?_⟩
 cases A with
 | none => rw [e2 rfl] at hp; simp at hp
 | some a => exact ⟨a, rfl, e3 a rfl⟩
end
section
variable {P : Program} {ρ : Env} {dst : Option Tmp} {ty : TypeId} {pos : String} {aft : Array Edge} {gd : Option (Nat × Bool)} {α : Type}
theorem loc_copyT (f : α → List V) {t t2 e sz bytes k L o n c : Nat} {x y : Operand} {q ys all : List α} {R : Heap} (hT : elemT2 P t = some (e, sz, bytes)) (hx : evV ρ x = .sl sz k L o n) (hL : q.length = L) (hon : o + n ≤ L) (hy : Src sz R (evV ρ y) (ys.map f)) (h1 : ∀ a, (f a).all V.one = true) (hkl : ∀ a, (f a).length = sz) (hkR : hasKey k R = false)
  (hc : c = min ys.length n) (hall : cpyT q o (ys.take c) = all) :
  Loc P ⟨dst, .call ⟨.builtin .copy, #[x, y], #[t, t2]⟩, ty, pos, aft, gd⟩ ρ ((k, .row e sz 0 (q.map f)) :: R) (.int .i64 c) ((k, .row e sz 0 (all.map f)) :: R) := by
 intro ρr m Z w hops hs hnew
 rw [cpyT_eq (by rw [List.length_take]; omega)] at hall
 subst hall
 have hX := hops x (by simp [Op.operands, Call.operands])
 have hY := hops y (by simp [Op.operands, Call.operands])
 rw [hx] at hX
 obtain ⟨i, z, hu, hi, hz, hisz, hib, hzs, h0⟩ := elemT2_of hT
 have hs1 : SimH m Z [(k, .row e sz 0 (q.map f))] w := SimH.left (F := [(k, .row e sz 0 (q.map f))]) (G := R) hs
 have hsR : SimH m Z R w := SimH.left (F := R) (G := [(k, .row e sz 0 (q.map f))]) (hs.perm (List.perm_append_comm (l₁ := [(k, Obj.row e sz 0 (q.map f))]) (l₂ := R)))
 obtain ⟨w', hr, hst⟩ := copy_run (t2 := t2) (ty := ty) (c := c) hT hs1 hX (by rw [List.length_map]; exact hL.symm) hon (hy.rd h0 hsR hY) (map_ones f h1 ys) (map_lens f hkl ys) (by rw [List.length_map]; exact hc)
 rw [← List.map_take, ← cpy_map] at hst
 exact ⟨rfl, .inl ⟨_, w', by simp [execOp, resolve, invoke, builtin, hr], m, Z, Step.frame_rule (F := [(k, .row e sz 0 (q.map f))]) (G := R) (F' := [(k, .row e sz 0 ((cpy q o (ys.take c)).map f))]) hs hst (fun p hp r hr' e' => by
  simp only [List.mem_singleton] at hp
  subst hp
  have e' : k = r.1 := e'
  rw [hasKey_iff.2 (by rw [e']; exact mem_keys hr')] at hkR; cases hkR), rfl⟩⟩
theorem loc_sliceRowT {t e sz k L n : Nat} {x : Operand} {lo hi : Option Operand} {l h : Int} (ht : elemT P t = some (e, sz)) (hx : evV ρ x = .sl sz k L 0 n) (hl : bndV ρ lo 0 l) (hh : bndV ρ hi n h) (h0 : 0 ≤ l) (h1 : l ≤ h) (h2 : h ≤ n) :
  Loc P ⟨dst, .slice t x lo hi none, ty, pos, aft, gd⟩ ρ [] (.sl sz k L l.toNat (h.toNat - l.toNat)) [] := by
 have := loc_sliceRow (P := P) (ρ := ρ) (dst := dst) (ty := ty) (pos := pos) (aft := aft) (gd := gd) ht hx hl hh h0 h1 h2
 rwa [Nat.zero_add] at this
def nzP (sz : Nat) (els : List (List V)) : PVal where
 rep Z x := (els = [] ∧ x = .slice none 0 0) ∨ (els ≠ [] ∧ Rep none Z (.vs sz els) x)
 mono Z Z' x hZ h := h.imp id fun ⟨h1, h2⟩ => ⟨h1, h2.up hZ fun f e => by cases e⟩
 one Z x h := by
  rcases h with ⟨_, rfl⟩ | ⟨_, A, c, rfl, _⟩ <;> exact ⟨rfl, rfl⟩
def nz (sz : Nat) (els : List (List V)) : V := .pv (nzP sz els)
theorem nz_vs {sz : Nat} {els : List (List V)} (m : Option M) (Z : ZM) (x : Value) (h : Rep m Z (nz sz els) x) : Rep m Z (.vs sz els) x := by
 rcases h with ⟨h1, h2⟩ | ⟨_, h⟩
 ·subst h1; exact ⟨none, 0, h2, Nat.le_refl _, Nat.zero_le _, .inl rfl⟩
 ·exact h
theorem View.nz {F : Heap} (sz : Nat) (els : List (List V)) : View F (nz sz els) (.vs sz els) := .weak nz_vs
end
end Go.EV
namespace Go.EV
open Go Go.RowKit Go.Eng
section
variable {P : Program} {ρ : Env} {o : Oper} {v : V}
theorem loc_frz {Fa R F2 F1 : Heap} (h2 : Fa ++ frz R = F2) (hl : Loc P o ρ F2 v F1) : Loc P o ρ (Fa ++ R) v F1 := by
 subst h2
 intro ρr m Z w hops hs hnew
 have hsR : SimH m Z R w := SimH.left (F := R) (G := Fa) (hs.perm List.perm_append_comm)
 have hst : Step m Z (R ++ Fa) w m (zfrz m Z R w) (frz R ++ Fa) w := Step.frame_rule (hs.perm List.perm_append_comm) (Step.freeze hsR) fun p hp q hq e => by
  have h1 : p.1 ∈ keys R := by rw [← keys_frz]; exact mem_keys hp
  obtain ⟨p', hp', e'⟩ := List.mem_map.1 h1
  exact apart_of_nodup hs.nodup hq hp' (by rw [e']; exact e.symm)
 have hst := (hst.permL List.perm_append_comm).permR (List.perm_append_comm (l₁ := frz R) (l₂ := Fa))
 refine (hl ρr m _ w (fun x hx => (hops x hx).up hst.zext fun f e => by cases e; exact ⟨m, rfl, hst.mext⟩) hst.sim (fun k hk hn => hnew k hk fun h => hn ?_)).mono ?_
 ·rw [keys_append] at h ⊢
  rw [keys_frz]; exact h
 ·rintro x w' ⟨m', Z', st, hr⟩
  exact ⟨m', Z', hst.trans st, hr⟩
end
end Go.EV
namespace Go.EV
open Go Go.RowKit Go.Eng
section
variable {K0 : List Nat} {ρ : Env} {H : Heap}
theorem cut_nilBox (kb j d e sz : Nat) {t : Nat} {cs cs' : List V} (hsz : Nat.ble 1 sz = true) (hF : selH [kb] H = some [(kb, .box t cs)]) (hj : cs[j]? = some .nils) (hcs : cs.set j (.sl sz d 0 0 0) = cs') (hd : hasKey d H = false) {H1 : Heap} (hH1 : (d, .row e sz 0 []) :: (kb, .box t cs') :: remH [kb] H = H1) :
  Cut K0 ρ H ρ H1 := fun c ρr w S => by
 subst hH1; subst hcs
 have hd' : d ∉ keys H := fun h => by rw [hasKey_iff.2 h] at hd; cases hd
 have hkb : kb ∈ keys H := by
  have := (selH_mem hF).2 _ (List.mem_singleton.2 rfl)
  exact mem_keys this
 have hne : d ≠ kb := fun e => hd' (e ▸ hkb)
 have := SimA.step (c := c) (ρ := ρ) (H := H) (F := [(kb, .box t cs)]) (F' := [(d, .row e sz 0 []), (kb, .box t (cs.set j (.sl sz d 0 0 0)))]) (ks := [kb]) (ρ' := ρ) (ρr := ρr) (w := w) (by simp [nodupB]) hF (by simp [freshB, hd', hne]) (fun m Z hs hnew hR => by
  have hnew' : ∀ L, m d L = none := fun L => hnew d (by simp [keys]) (by simp [keys]; exact hne) L
  let m' : M := fun k' L => if k' = d ∧ L = 0 then some (0, 0) else m k' L
  have h1 : m' d 0 = some (0, 0) := by simp [m']
  have h2 : ∀ k L loc, m k L = some loc → m' k L = some loc := fun k L loc e => by
   by_cases hc : k = d ∧ L = 0
   ·obtain ⟨rfl, rfl⟩ := hc; rw [hnew'] at e; cases e
   ·simp only [m', if_neg hc]; exact e
  have h3 : ∀ k, k ≠ d → m' k = m k := fun k hk => by funext L; simp [m', hk]
  obtain ⟨b, cur, g1, g2, g3, g4, g5⟩ := hs.holds _ (List.mem_singleton.2 rfl)
  have hb1 : ∀ b', blk m' (d, .row e sz 0 []) b' → False := fun b' h => by simp [blk, blk1, Obj.ver, h1] at h
  have hb2 : ∀ b', blk m' (kb, .box t (cs.set j (.sl sz d 0 0 0))) b' → blk m (kb, .box t cs) b' := fun b' h => by
   simp only [blk, blk1, Obj.ver, h3 kb (Ne.symm hne)] at h ⊢; exact h
  refine ⟨m', Z, ⟨⟨hs.frozen, fun p hp => ?_, by simp [keys]; exact hne, fun p hp q hq b' q1 q2 => ?_⟩, h2, fun _ _ e => e, rfl, rfl, rfl, Nat.le_refl _, fun _ _ _ => rfl, fun k hk => ?_, fun k hk => ?_, fun p hp b' hb => ?_, fun _ _ e => .inl e⟩, fun u => (hR u).up (fun _ _ e => e) (fun f e => by cases e; exact ⟨m', rfl, h2⟩)⟩
  ·simp only [List.mem_cons, List.mem_nil_iff, or_false] at hp
   rcases hp with rfl | rfl
   ·refine .inl ⟨Nat.le_of_ble_eq_true hsz, rfl, rfl, ⟨0, h1⟩, fun L loc e => ?_⟩
    simp only [m'] at e
    split at e
    ·rename_i hc; omega
    ·rw [hnew'] at e; cases e
   ·have g3' := g3.up (Z' := Z) (m' := some m') (fun _ _ e => e) (fun f e => by cases e; exact ⟨m', rfl, h2⟩)
    refine ⟨b, cur, by rw [h3 kb (Ne.symm hne)]; exact g1, g2, ?_, g4, by rw [h3 kb (Ne.symm hne)]; exact g5⟩
    obtain ⟨x, hx1, hx2⟩ := g3'.get hj
    have hx2 : x = .slice none 0 0 := hx2
    refine RepL.of_get (by rw [List.length_set]; exact g3'.length) fun i v y hv hy => ?_
    by_cases hij : j = i
    ·subst hij
     have hjl := (List.getElem?_eq_some_iff.1 hj).1
     rw [List.getElem?_set, if_pos rfl, if_pos hjl] at hv
     cases hv
     rw [hx1] at hy; cases hy
     exact ⟨m', _, rfl, h1, Nat.le_refl _, Nat.zero_le _, .inr (.inl ⟨rfl, none, hx2⟩)⟩
    ·rw [List.getElem?_set_ne hij] at hv
     obtain ⟨z, hz, hr⟩ := g3'.get hv
     rw [hy] at hz; cases hz; exact hr
  ·simp only [List.mem_cons, List.mem_nil_iff, or_false] at hp hq
   rcases hp with rfl | rfl <;> rcases hq with rfl | rfl
   ·rfl
   ·exact (hb1 _ q1).elim
   ·exact (hb1 _ q2).elim
   ·rfl
  ·simp only [keys, List.map_cons, List.map_nil, List.mem_singleton] at hk
   subst hk
   simp [keys]
  ·simp only [keys, List.map_cons, List.map_nil, List.mem_cons, List.mem_nil_iff, or_false, not_or] at hk
   exact h3 k hk.1
  ·simp only [List.mem_cons, List.mem_nil_iff, or_false] at hp
   rcases hp with rfl | rfl
   ·exact (hb1 _ hb).elim
   ·exact .inr ⟨_, List.mem_singleton.2 rfl, hb2 _ hb⟩) S
 exact this
end
section
variable {P : Program} {ρ : Env} {dst : Option Tmp} {ty : TypeId} {pos : String} {aft : Array Edge} {gd : Option (Nat × Bool)}
theorem wk_append {a b c d : List V} (hl : a.length = b.length) (h1 : WkL a b) (h2 : WkL c d) : WkL (a ++ c) (b ++ d) := fun Z l h => by
 have h3 := h.take a.length
 have h4 := h.drop a.length
 rw [List.take_left] at h3
 rw [List.drop_left] at h4
 rw [← List.take_append_drop a.length l]
 exact (h1 _ _ h3).append (h2 _ _ h4)
theorem wk_refl {a : List V} : WkL a a := fun _ _ h => h
theorem hlen_of {m : M} {Z : ZM} {w : World} {k t sz fz : Nat} {els : List (List V)} (hs : SimH m Z [(k, .row t sz fz els)] w) {n : Nat} (hn : n < els.length) : els[n].length = sz := by
 rcases hs.holds _ (List.mem_singleton.2 rfl) with ⟨_, g1, _⟩ | ⟨b, cap, cur, fr, g1, g0, g2, g3, g4, g5, g6, g7, g8, _⟩
 ·subst g1; simp at hn
 ·exact g8 _ (List.getElem_mem hn)
theorem loc_storeRowW {t et sz fz k L off : Nat} {a x : Operand} {els all : List (List V)} {cs c1 c2 : List V} (i j : Nat) (ha : evV ρ a = .ptr k L off) (hL : L = els.length) (hoff : off = i * sz + j) (hc : els[i]? = some cs) (hfz : fz ≤ i)
  (hp : (evV ρ x).plain = true) (h1 : (evV ρ x).cells.all V.one = true) (hrf : (evV ρ x).refs = []) (hsz : sizeOfT P t (evV ρ x).cells.length = true) (hfit : Nat.ble (j + (evV ρ x).cells.length) sz = true) (hc' : cs.take j ++ (evV ρ x).cells ++ cs.drop (j + (evV ρ x).cells.length) = c1)
  (hw : WkL c1 c2) (hl : Nat.beq c1.length c2.length = true) (hall : els.set i c2 = all) :
  Loc P ⟨dst, .store t a x, ty, pos, aft, gd⟩ ρ [(k, .row et sz fz els)] .no [(k, .row et sz fz all)] := by
 subst hc'; subst hall
 have hl := Nat.eq_of_beq_eq_true hl
 have h0 := loc_storeRow (P := P) (dst := dst) (ty := ty) (pos := pos) (aft := aft) (gd := gd) (et := et) i j ha hL hoff hc hfz hp h1 hrf hsz (Nat.le_of_ble_eq_true hfit)
 generalize cs.take j ++ (evV ρ x).cells ++ cs.drop (j + (evV ρ x).cells.length) = c1 at h0 hw hl
 have hi := (List.getElem?_eq_some_iff.1 hc).1
 intro ρr m Z w hops hs hnew
 refine (h0 ρr m Z w hops hs (fun k hk hk' L => by exact hnew k (by simpa [keys] using hk) hk' L)).mono fun y w' hy => ?_
 obtain ⟨m', Z', st, hr⟩ := hy
 refine ⟨m', Z', st.weak1 (by funext b; simp only [blk, blk1, Obj.ver, List.length_set]) fun hh => ?_, hr⟩
 rcases hh with ⟨_, g1, _⟩ | ⟨b, cap, cur, fr, g1, g0, g2, g3, g4, g5, g6, g7, g8, g9, g10, g11, g12, g13⟩
 ·have := congrArg List.length g1
  simp only [List.length_set, List.length_nil] at this; omega
 ·simp only [List.length_set] at g1 g3 g7 g10 g12
  refine .inr ⟨b, cap, cur, fr, by rw [List.length_set]; exact g1, g0, g2, by rw [List.length_set]; exact g3, g4, g5, g6, ?_, fun e he => ?_, g9, by rw [List.length_set]; exact g10, g11, by rw [List.length_set]; exact g12, g13⟩
  ·rw [List.length_set]
   rw [List.set_eq_take_append_cons_drop, if_pos hi, List.flatten_append, List.flatten_cons] at g7 ⊢
   exact wk_append rfl wk_refl (wk_append hl hw wk_refl) _ _ g7
  ·rcases List.mem_or_eq_of_mem_set he with h | h
   ·obtain ⟨n, hn, rfl⟩ := List.getElem_of_mem h
    by_cases hni : i = n
    ·subst hni
     -- the old element's length: the element itself is gone; its length is that of the new one's
     have hm := g8 c1 (List.mem_set hi c1)
     exact (hlen_of hs hn)
    ·exact g8 _ (by
      have : (els.set i c1)[n]? = some els[n] := by rw [List.getElem?_set_ne hni, List.getElem?_eq_getElem hn]
      exact List.mem_of_getElem? this)
   ·subst h
    have hm := g8 c1 (List.mem_set hi c1)
    rw [← hl]; exact hm
end
end Go.EV
namespace Go.EV
open Go Go.RowKit Go.Eng
section
variable {α β : Type} [DecidableEq α]
def mix (a : α) : List (α × β) → Nat
 | [] => 0
 | (k, _) :: r => if a = k then 0 else mix a r + 1
theorem mix_find (a : α) : ∀ l : List (α × β), (∃ b, mfind a l = some b ∧ l[mix a l]? = some (a, b)) ∨ (mix a l = l.length ∧ mfind a l = none)
 | [] => .inr ⟨rfl, rfl⟩
 | (k, c) :: r => by
  by_cases h : a = k
  ·subst h; exact .inl ⟨c, by simp [mfind], by simp [mix]⟩
  ·rcases mix_find a r with ⟨b, h1, h2⟩ | ⟨h1, h2⟩
   ·exact .inl ⟨b, by simp [mfind, h, h1], by simp [mix, h, h2]⟩
   ·exact .inr ⟨by simp [mix, h, h1], by simp [mfind, h, h2]⟩
theorem findP_mix (a : α) : ∀ (l : List (α × β)) (es : List MapEntry) (i : Nat), es.length = l.length → findP a (l.map (·.1)) es i = (es[mix a l]?).map fun e => (i + mix a l, e.val)
 | [], es, i, h => by
  have : es = [] := List.length_eq_zero_iff.1 (by simpa using h)
  subst this; rfl
 | (k, c) :: r, [], i, h => by simp at h
 | (k, c) :: r, e :: es, i, h => by
  by_cases hk : a = k
  ·subst hk; simp [findP, mix]
  ·simp only [List.map_cons, findP, if_neg hk, mix]
   rw [findP_mix a r es (i + 1) (by simpa using h), List.getElem?_cons_succ]
   congr 1
   funext e'
   congr 1
   omega
end
def EntR (mk : Nat → Option (Nat × Nat)) (Z : ZM) (w : World) (e sz i : Nat) (l : List (List V)) (h : Value) : Prop :=
 ∃ (b cap : Nat) (cur : Array Value) (fr : Nat × Nat), h = .slice (some ⟨b, 0, none⟩) l.length cap ∧ mk (code i l.length) = some (b, cap) ∧ 0 < l.length ∧ w.heap[b]? = some (.cells cur e fr) ∧ (fr.2 = 0 ∨ cap * sz ≤ fr.1) ∧ l.length ≤ cap ∧ cap ≤ maxLen ∧
  cur.size = cap * sz ∧ RepL none Z l.flatten (cur.toList.take (l.length * sz)) ∧ (∀ x ∈ l, x.length = sz) ∧ ∀ a x, Z a = some x → a.block ≠ b
def ownR (l : List (V × List (List V))) (ho : Option Nat) (j : Nat) : Prop := j = 0 ∨ ∃ i p, l[i]? = some p ∧ ho ≠ some i ∧ j = code i p.2.length
def mroH (e sz : Nat) (l : List (V × List (List V))) (ho : Option Nat) (mk : Nat → Option (Nat × Nat)) (Z : ZM) (w : World) : Prop :=
 0 < sz ∧ ∃ (b : Nat) (es : Array MapEntry) (clock : Nat), mk 0 = some (b, 1) ∧ w.heap[b]? = some (.map es clock) ∧ es.size = l.length ∧ (es.toList.Pairwise fun x y => x.born < y.born) ∧ (∀ x ∈ es.toList, x.born < clock) ∧ (∀ a x, Z a = some x → a.block ≠ b) ∧
  (∀ i p, l[i]? = some p → ∃ en, es[i]? = some en ∧ Rep none Z p.1 en.key ∧ (ho ≠ some i → EntR mk Z w e sz i p.2 en.val)) ∧
  (∀ j1 j2 c1 c2 g, mk j1 = some (g, c1) → mk j2 = some (g, c2) → ownR l ho j1 → ownR l ho j2 → j1 = j2) ∧
  ∀ L loc, mk L = some loc → L = 0 ∨ ∃ i n p, l[i]? = some p ∧ n ≤ p.2.length ∧ L = code i n
section
variable {e sz : Nat} {l : List (V × List (List V))} {ho : Option Nat} {mk : Nat → Option (Nat × Nat)} {Z : ZM} {w : World}
theorem mroH.own (h : mroH e sz l ho mk Z w) {j b c : Nat} (hj : ownR l ho j) (hb : mk j = some (b, c)) : c ≠ 0 ∧ ((j = 0 ∧ ∃ es clock, w.heap[b]? = some (.map es clock)) ∨ ∃ cur fr, w.heap[b]? = some (.cells cur e fr)) := by
 obtain ⟨_, b0, es, clock, h1, h2, _, _, _, _, h7, _, _⟩ := h
 rcases hj with rfl | ⟨i, p, hi, hne, rfl⟩
 ·rw [h1] at hb; cases hb
  exact ⟨by omega, .inl ⟨rfl, _, _, h2⟩⟩
 ·obtain ⟨en, _, _, hE⟩ := h7 i p hi
  obtain ⟨b', cap, cur, fr, g1, g2, g3, g4, g5, g6, _⟩ := hE hne
  rw [g2] at hb; cases hb
  exact ⟨by omega, .inr ⟨_, _, g4⟩⟩
theorem EntR.keep {Z' : ZM} {w' : World} {i : Nat} {q : List (List V)} {x : Value} (h : EntR mk Z w e sz i q x) (hZ : ∀ a x, Z a = some x → Z' a = some x)
  (hw : ∀ b c, mk (code i q.length) = some (b, c) → c ≠ 0 → w'.heap[b]? = w.heap[b]? ∧ ∀ a x, Z' a = some x → a.block = b → Z a = some x) : EntR mk Z' w' e sz i q x := by
 obtain ⟨b', cap, cur, fr, g1, g2, g3, g4, g5, g6, g7, g8, g9, g10, g11⟩ := h
 obtain ⟨hw1, hz1⟩ := hw b' cap g2 (by omega)
 exact ⟨b', cap, cur, fr, g1, g2, g3, hw1.trans g4, g5, g6, g7, g8, g9.up hZ (fun f e => by cases e), g10, fun a x ha e => g11 a x (hz1 a x ha e) e⟩
end
def mro (e sz : Nat) (l : List (V × List (List V))) (ho : Option Nat) : GObj where
 holds mk Z w := mroH e sz l ho mk Z w
 blks mk b := ∃ j c, mk j = some (b, c) ∧ c ≠ 0 ∧ ownR l ho j
 some_ mk b := fun ⟨j, c, h1, h2, _⟩ => ⟨j, c, h1, h2⟩
 own mk Z w b := by
  rintro h ⟨j, c, h1, _, h3⟩
  rcases (h.own h3 h1).2 with ⟨_, _, _, h⟩ | ⟨_, _, h⟩ <;> exact ⟨_, h, rfl⟩
 keep mk Z Z' w w' := by
  rintro ⟨h0, b0, es, clock, h1, h2, h3, h4, h5, h6, h7, h8, h9⟩ hZ hw
  obtain ⟨hw0, hz0⟩ := hw b0 ⟨0, 1, h1, by omega, .inl rfl⟩
  refine ⟨h0, b0, es, clock, h1, hw0.trans h2, h3, h4, h5, fun a x ha e => h6 a x (hz0 a x ha e) e, fun i p hi => ?_, h8, h9⟩
  obtain ⟨en, g1, g2, g3⟩ := h7 i p hi
  exact ⟨en, g1, g2.up hZ (fun f e => by cases e), fun hne => (g3 hne).keep hZ fun b c hb hc => hw b ⟨_, c, hb, hc, .inr ⟨i, p, hi, hne, rfl⟩⟩⟩
def gone : GObj where
 holds _ _ _ := True
 blks _ _ := False
 some_ _ _ h := h.elim
 own _ _ _ _ _ h := h.elim
 keep _ _ _ _ _ h _ _ := h
section
variable {m : M} {Z : ZM} {w w' : World}
end
def encR {α β : Type} (f : α → V) (G : List β → List (List V)) (l : List (α × List β)) : List (V × List (List V)) := l.map fun p => (f p.1, G p.2)
section
variable {P : Program} {ρ : Env} {dst : Option Tmp} {ty : TypeId} {pos : String} {aft : Array Edge} {gd : Option (Nat × Bool)} {α β : Type} [DecidableEq α]
end
section
variable {m : M} {Z : ZM} {w : World} {K0 : List Nat} {ρ : Env} {H : Heap}
theorem RepE.of_get {Z : ZM} : ∀ {l : List (V × V)} {es : List MapEntry}, es.length = l.length → (∀ (i : Nat) (p : V × V), l[i]? = some p → ∃ en : MapEntry, es[i]? = some en ∧ Rep none Z p.1 en.key ∧ Rep none Z p.2 en.val) → RepE Z l es
 | [], es, h, _ => List.length_eq_zero_iff.1 (by simpa using h)
 | p :: l, [], h, _ => by simp at h
 | p :: l, e :: es, h, hg => by
  obtain ⟨en, h1, h2, h3⟩ := hg 0 p rfl
  cases h1
  exact ⟨e, es, rfl, h2, h3, RepE.of_get (by simpa using h) fun i q hq => hg (i + 1) q hq⟩
end
section
variable {P : Program} {ρ : Env} {dst : Option Tmp} {ty : TypeId} {pos : String} {aft : Array Edge} {gd : Option (Nat × Bool)}
end
section
variable {m : M} {Z : ZM} {w : World} {K0 : List Nat} {ρ : Env} {H : Heap}
def dataR (sz : Nat) (l : List (V × List (List V))) : List (V × V) := l.map fun p => (p.1, V.vs sz p.2)
def entB (l : List (V × List (List V))) (mk : Nat → Option (Nat × Nat)) (b : Nat) : Prop := ∃ i p c, l[i]? = some p ∧ mk (code i p.2.length) = some (b, c) ∧ c ≠ 0
open Classical in
noncomputable def zkillR (mk : Nat → Option (Nat × Nat)) (l : List (V × List (List V))) (Z : ZM) (w : World) : ZM := fun a => if a.spot = none ∧ entB l mk a.block then w.cell? a else Z a
end
section
variable {α β : Type} [DecidableEq α]
def mdel (a : α) : List (α × β) → List (α × β)
 | [] => []
 | (k, c) :: r => if a = k then r else (k, c) :: mdel a r
variable {P : Program} {ρ : Env} {dst : Option Tmp} {ty : TypeId} {pos : String} {aft : Array Edge} {gd : Option (Nat × Bool)}
end
section
variable {K0 : List Nat} {ρ : Env} {H : Heap}
end
end Go.EV
namespace Go.EV
open Go Go.RowKit Go.Eng
def npair (k L : Nat) : Nat := (k + L) * (k + L) + L
theorem npair_inj {k L k' L' : Nat} (h : npair k L = npair k' L') : k = k' ∧ L = L' := by
 unfold npair at h
 have key : ∀ a b c d : Nat, c ≤ a → d ≤ b → a * a + c = b * b + d → a ≤ b := fun a b c d hc hd e => by
  rcases Nat.lt_or_ge b a with hlt | hge
  ·have h1 : (b + 1) * (b + 1) ≤ a * a := Nat.mul_le_mul hlt hlt
   rw [Nat.succ_mul, Nat.mul_succ] at h1
   omega
  ·exact hge
 have h1 := key _ _ _ _ (Nat.le_add_left L k) (Nat.le_add_left L' k') h
 have h2 := key _ _ _ _ (Nat.le_add_left L' k') (Nat.le_add_left L k) h.symm
 have h3 : k + L = k' + L' := Nat.le_antisymm h1 h2
 rw [h3] at h
 omega
def unM (mk : Nat → Option (Nat × Nat)) : M := fun k L => mk (npair k L)
theorem reM (mk : Nat → Option (Nat × Nat)) (m0 : M) (hx : ∀ k L loc, unM mk k L = some loc → m0 k L = some loc) : ∃ mk' : Nat → Option (Nat × Nat), unM mk' = m0 ∧ ∀ L loc, mk L = some loc → mk' L = some loc := by
 classical
 refine ⟨fun j => if h : ∃ p : Nat × Nat, npair p.1 p.2 = j then m0 (Classical.choose h).1 (Classical.choose h).2 else mk j, ?_, fun L loc e => ?_⟩
 ·funext k L
  have hex : ∃ p : Nat × Nat, npair p.1 p.2 = npair k L := ⟨(k, L), rfl⟩
  show (if h : ∃ p : Nat × Nat, npair p.1 p.2 = npair k L then _ else _) = _
  rw [dif_pos hex]
  obtain ⟨e1, e2⟩ := npair_inj (Classical.choose_spec hex)
  rw [e1, e2]
 ·show (if h : ∃ p : Nat × Nat, npair p.1 p.2 = L then _ else _) = _
  by_cases hex : ∃ p : Nat × Nat, npair p.1 p.2 = L
  ·rw [dif_pos hex]
   refine hx _ _ _ ?_
   unfold unM
   rw [Classical.choose_spec hex]; exact e
  ·rw [dif_neg hex]; exact e
def pack (F : Heap) : GObj where
 holds mk Z w := (∀ p ∈ F, Holds (unM mk) Z w p.1 p.2) ∧ (keys F).Nodup ∧ (∀ p ∈ F, ∀ q ∈ F, ∀ b, blk (unM mk) p b → blk (unM mk) q b → p.1 = q.1) ∧ ∀ k, k ∉ keys F → ∀ L, unM mk k L = none
 blks mk b := ∃ p ∈ F, blk (unM mk) p b
 some_ mk b := fun ⟨p, _, h⟩ => by
  obtain ⟨j, c, h1, h2⟩ := blk_some h
  exact ⟨_, c, h1, h2⟩
 own mk Z w b := by
  rintro ⟨h, _⟩ ⟨p, hp, hb⟩
  exact (h p hp).notLp b hb
 keep mk Z Z' w w' := by
  rintro ⟨h1, h2, h3, h4⟩ hZ hw
  exact ⟨fun p hp => (h1 p hp).keep (fun _ _ _ e => e) rfl hZ fun b hb => hw b ⟨p, hp, hb⟩, h2, h3, h4⟩
def inr (v : V) : GVal where
 rep mk x := Rep (some (unM mk)) (fun _ => none) v x ∧ x.oneCell' = true ∧ x.cells.toList = [x]
 mono mk mk' x h := by
  rintro ⟨h1, h2⟩
  exact ⟨h1.up (fun _ _ e => e) (fun f e => by cases e; exact ⟨_, rfl, fun k L loc e => h _ _ e⟩), h2⟩
 one mk x := fun ⟨_, h⟩ => h
mutual
def V.pk (k : Nat) : V → V
 | .ptr a L o => .gv k (inr (.ptr a L o))
 | .sl sz a L o n => .gv k (inr (.sl sz a L o n))
 | .mp a => .gv k (inr (.mp a))
 | .tup xs => .tup (pkL k xs)
 | .agg xs => .agg (pkL k xs)
 | v => v
def pkL (k : Nat) : List V → List V
 | [] => []
 | v :: vs => v.pk k :: pkL k vs
end
mutual
def V.pkB : V → Bool
 | .ptr _ _ _ | .sl _ _ _ _ _ | .mp _ => true
 | .tup xs | .agg xs => pkBL xs
 | .fn _ _ _ | .ifc _ _ | .gv _ _ => false
 | _ => true
def pkBL : List V → Bool
 | [] => true
 | v :: vs => v.pkB && pkBL vs
end
mutual
theorem Rep.unpk {m : M} {Z : ZM} {k : Nat} : ∀ (v : V) (x : Value), v.pkB = true → Rep (some m) Z (v.pk k) x → Rep (some (unM (m k))) Z v x
 | .ptr a L o, x, _, h => by
  obtain ⟨f, e, h1, _⟩ := h
  cases e
  exact h1.up (fun _ _ e => by cases e) (fun f e => ⟨f, e, fun _ _ _ e => e⟩)
 | .sl sz a L o n, x, _, h => by
  obtain ⟨f, e, h1, _⟩ := h
  cases e
  exact h1.up (fun _ _ e => by cases e) (fun f e => ⟨f, e, fun _ _ _ e => e⟩)
 | .mp a, x, _, h => by
  obtain ⟨f, e, h1, _⟩ := h
  cases e
  exact h1.up (fun _ _ e => by cases e) (fun f e => ⟨f, e, fun _ _ _ e => e⟩)
 | .tup xs, x, hb, h => by
  obtain ⟨l, h1, h2⟩ := h
  exact ⟨l, h1, RepL.unpk xs l hb h2⟩
 | .agg xs, x, hb, h => by
  obtain ⟨l, h1, h2⟩ := h
  exact ⟨l, h1, RepL.unpk xs l hb h2⟩
 | .undef, _, _, h => h
 | .no, _, _, h => h
 | .int _ _, _, _, h => h
 | .bool _, _, _, h => h
 | .str _, _, _, h => h
 | .nilp, _, _, h => h
 | .vp _ _, _, _, h => h
 | .nils, _, _, h => h
 | .vs _ _, _, _, h => h
 | .nilf, _, _, h => h
 | .nilm, _, _, h => h
 | .nili, _, _, h => h
 | .pv _, _, _, h => h
 | .fn _ _ _, _, hb, _ => by cases hb
 | .ifc _ _, _, hb, _ => by cases hb
 | .gv _ _, _, hb, _ => by cases hb
theorem RepL.unpk {m : M} {Z : ZM} {k : Nat} : ∀ (vs : List V) (l : List Value), pkBL vs = true → RepL (some m) Z (pkL k vs) l → RepL (some (unM (m k))) Z vs l
 | [], _, _, h => h
 | v :: vs, l, hb, h => by
  simp only [pkBL, Bool.and_eq_true] at hb
  obtain ⟨x, xs, h1, h2, h3⟩ := h
  exact ⟨x, xs, h1, Rep.unpk v x hb.1 h2, RepL.unpk vs xs hb.2 h3⟩
end
mutual
theorem Rep.pk {m : M} {Z : ZM} {k : Nat} : ∀ (v : V) (x : Value), v.pkB = true → Rep (some (unM (m k))) Z v x → Rep (some m) Z (v.pk k) x
 | .ptr a L o, x, _, h => by
  obtain ⟨f, loc, e, h1, h2⟩ := h
  exact ⟨m, rfl, ⟨f, loc, e, h1, h2⟩, by subst h2; exact ⟨rfl, rfl⟩⟩
 | .sl sz a L o n, x, _, h => by
  refine ⟨m, rfl, h, ?_⟩
  obtain ⟨f, loc, e, h1, _, _, h2 | ⟨_, A, h2⟩ | ⟨_, _, A, c, h2, _⟩⟩ := h <;> subst h2 <;> exact ⟨rfl, rfl⟩
 | .mp a, x, _, h => by
  refine ⟨m, rfl, h, ?_⟩
  obtain ⟨f, loc, e, h1, h2⟩ := h
  subst h2; exact ⟨rfl, rfl⟩
 | .tup xs, x, hb, h => by
  obtain ⟨l, h1, h2⟩ := h
  exact ⟨l, h1, RepL.pk xs l hb h2⟩
 | .agg xs, x, hb, h => by
  obtain ⟨l, h1, h2⟩ := h
  exact ⟨l, h1, RepL.pk xs l hb h2⟩
 | .undef, _, _, h => h
 | .no, _, _, h => h
 | .int _ _, _, _, h => h
 | .bool _, _, _, h => h
 | .str _, _, _, h => h
 | .nilp, _, _, h => h
 | .vp _ _, _, _, h => h
 | .nils, _, _, h => h
 | .vs _ _, _, _, h => h
 | .nilf, _, _, h => h
 | .nilm, _, _, h => h
 | .nili, _, _, h => h
 | .pv _, _, _, h => h
 | .fn _ _ _, _, hb, _ => by cases hb
 | .ifc _ _, _, hb, _ => by cases hb
 | .gv _ _, _, hb, _ => by cases hb
theorem RepL.pk {m : M} {Z : ZM} {k : Nat} : ∀ (vs : List V) (l : List Value), pkBL vs = true → RepL (some (unM (m k))) Z vs l → RepL (some m) Z (pkL k vs) l
 | [], _, _, h => h
 | v :: vs, l, hb, h => by
  simp only [pkBL, Bool.and_eq_true] at hb
  obtain ⟨x, xs, h1, h2, h3⟩ := h
  exact ⟨x, xs, h1, Rep.pk v x hb.1 h2, RepL.pk vs xs hb.2 h3⟩
end
section
variable {P : Program} {f : FuncId} {args : List V} {F F' : Heap} {r : V}
theorem FnA.pack (k : Nat) (h : FnA P f args F r F') (ha : pkBL args = true) (hr : r.pkB = true) : FnA P f (pkL k args) [(k, .gen (EV.pack F))] (r.pk k) [(k, .gen (EV.pack F'))] := by
 intro w m Z vals hs hv hnone
 obtain ⟨h1, h2, h3, h4⟩ := hs.holds (k, .gen (EV.pack F)) (List.mem_singleton.2 rfl)
 refine Calls.mono (h w (unM (m k)) Z vals ⟨hs.frozen, h1, h2, h3⟩ (RepL.unpk args vals ha hv) h4) fun en w' ⟨x, m0, Z', he, st, hx⟩ => ?_
 obtain ⟨mk', hu, hmx⟩ := reM (m k) m0 st.mext
 let m' : M := fun j => if j = k then mk' else m j
 have hmk : m' k = mk' := if_pos rfl
 have hk0 : ∀ a, a ∉ keys F' → ∀ L, m0 a L = none := fun a ha L => by
  rw [st.newk a ha]; exact h4 a (fun hh => ha (st.keep a hh)) L
 refine ⟨x, m', Z', he, ⟨⟨st.sim.frozen, fun p hp => ?_, (by simp [keys]), fun p hp q hq b _ _ => ?_⟩, fun a L loc e => ?_, st.zext, st.os, st.tape, st.output, st.size, fun b hb hn => st.frame b hb fun p hp hbp => hn _ (List.mem_singleton.2 rfl) ⟨p, hp, hbp⟩, fun a ha => ha, fun a ha => ?_, fun p hp b hb => ?_, fun a x ha => ?_⟩, ?_⟩
 ·rw [List.mem_singleton.1 hp]
  show (EV.pack F').holds (m' k) Z' w'
  rw [hmk]
  refine ⟨?_, st.sim.nodup, ?_, ?_⟩
  ·rw [hu]; exact st.sim.holds
  ·rw [hu]; exact st.sim.disj
  ·rw [hu]; exact hk0
 ·rw [List.mem_singleton.1 hp, List.mem_singleton.1 hq]
 ·show (if a = k then mk' else m a) L = some loc
  by_cases hak : a = k
  ·subst hak; rw [if_pos rfl]; exact hmx L loc e
  ·rw [if_neg hak]; exact e
 ·exact if_neg (fun e => ha (by rw [e]; exact List.mem_singleton.2 rfl))
 ·rw [List.mem_singleton.1 hp] at hb
  obtain ⟨q, hq, hqb⟩ : (EV.pack F').blks (m' k) b := hb
  rw [hmk, hu] at hqb
  rcases st.blks q hq b hqb with h' | ⟨q', hq', e'⟩
  ·exact .inl h'
  ·exact .inr ⟨_, List.mem_singleton.2 rfl, q', hq', e'⟩
 ·rcases st.znew a x ha with h' | h' | ⟨q, hq, e'⟩
  ·exact .inl h'
  ·exact .inr (.inl h')
  ·exact .inr (.inr ⟨_, List.mem_singleton.2 rfl, q, hq, e'⟩)
 ·refine Rep.pk r x hr ?_
  rw [hmk, hu]; exact hx
theorem FnA.beside (σ : Nat → Nat) (G : Heap) (h : FnA P f args F r F') (hσ : nodupB ((keys F').map σ) = true) (hcl : closedB args F = true) (hsub : ((keys F).all (keys F').contains) = true) (hG : ∀ p ∈ renH σ F', ∀ q ∈ G, p.1 ≠ q.1) :
  FnA P f (renL σ args) (renH σ F ++ G) (r.ren σ) (renH σ F' ++ G) := by
 intro w m Z vals hs hv hnone
 refine Calls.mono (h.at hσ hcl hsub w m Z vals hs.left hv fun k hk hk' L => hnone k (fun hh => ?_) L) fun en w' ⟨x, m', Z', he, st, hx⟩ => ⟨x, m', Z', he, st.frame_rule hs hG, hx⟩
 rw [keys_append, List.mem_append] at hh
 rcases hh with hh | hh
 ·exact hk' hh
 ·obtain ⟨p, hp, e1⟩ := List.mem_map.1 hk
  obtain ⟨q, hq, e2⟩ := List.mem_map.1 hh
  exact hG p hp q hq (e1.trans e2.symm)
end
end Go.EV
namespace Go.EV
open Go Go.RowKit Go.Eng
section
variable {P : Program}
theorem run_checkTag {e : Bool} {n : Nat} {t : Nat} {k : Tag} {desc : TypeDesc} {v : Value} {w : World} (hu : P.underlying t = some desc) (ht : tagOf desc = some k) : (Instr.checkKey e (n + 1) t v).run P w = .ok () w := by
 cases desc <;> simp only [tagOf, reduceCtorEq] at ht <;> (unfold Instr.checkKey; simp [run_underlying hu])
theorem run_checkFlat {e : Bool} {n t : Nat} {ks : List Tag} {l : List Value} {w : World} (hF : FlatT P t ks) (hk : kindsV ks l = true) : (Instr.checkKey e (n + 2) t (.agg l.toArray)).run P w = .ok () w := by
 obtain ⟨h1, _, _, h4⟩ := hF
 unfold Instr.checkKey
 simp only [Sem.run_bind, run_underlying h1, Result.andThen_ok]
 rw [← Array.forIn_toList]
 have key : ∀ (fs : List Field) (i : Nat) (ks : List Tag), flatChk P fs i ks = true → kindsV ks (l.drop i) = true →
   (forIn fs PUnit.unit fun f _ => do
    if f.name ≠ "_" then Instr.checkKey e (n + 1) f.type (← part f.type l.toArray f.offset)
    pure (ForInStep.yield PUnit.unit) : Sem PUnit).run P w = .ok PUnit.unit w := by
  intro fs
  induction fs with
  | nil => intro i ks h hx; simp
  | cons f fs ih =>
   intro i ks h hx
   cases ks with
   | nil => cases h
   | cons k ks =>
    simp only [flatChk, Bool.and_eq_true] at h
    obtain ⟨g1, g2, g3, g4⟩ := h
    have g2 := Nat.eq_of_beq_eq_true g2
    have g1 : f.name ≠ "_" := by simpa using g1
    cases hxs : l.drop i with
    | nil => rw [hxs] at hx; cases hx
    | cons a r =>
     rw [hxs] at hx
     simp only [kindsV, Bool.and_eq_true] at hx
     have ex : l.drop (i + 1) = r := by rw [← List.drop_drop, hxs]; rfl
     have gx : l[i]? = some a := by have := congrArg (·[0]?) hxs; simpa using this
     cases hu : P.underlying f.type with
     | none => rw [hu] at g3; cases g3
     | some desc =>
      rw [hu] at g3
      have g3 : tagOf desc = some k := by simpa using g3
      have px : (part f.type l.toArray f.offset).run P w = .ok a w := by simp [part, tag_scal hu g3, g2, gx]
      have ih := ih (i + 1) ks g4 (by rw [ex]; exact hx.2)
      rw [List.forIn_cons]
      simp only [Sem.run_bind, if_pos g1, px, Result.andThen_ok, run_checkTag hu g3, Sem.run_pure]
      exact ih
 have := key _ 0 ks h4 (by simpa using hk)
 simp at this
 simp [this]
theorem run_equalFlat {t : Nat} {ks : List Tag} {a b : List Value} {w : World} (hF : FlatT P t ks) (hka : kindsV ks a = true) (hkb : kindsV ks b = true) : (Op.equal t (.agg a.toArray) (.agg b.toArray)).run P w = .ok (eqVs a b) w := by
 obtain ⟨h1, h2, h3, h4⟩ := hF
 have h := run_eqFields (P := P) (w := w) (d := 9998) (xs := a) (ys := b) _ 0 ks h4 (by simpa using hka) (by simpa using hkb)
 simp only [List.drop_zero] at h
 rw [Op.equal, Op.maxDepth, run_equalIn_agg w 9999 t _ _ h1 h2, h]
theorem keyOK_flat {α : Type} [DecidableEq α] {kt : TypeId} {ks : List Tag} {cs : α → List V} {l : α → List Value} (hF : FlatT P kt ks) (hd : ∀ m Z a x, RepL m Z (cs a) x → x = l a) (hr : ∀ m Z a, RepL m Z (cs a) (l a)) (hk : ∀ a, kindsV ks (l a) = true)
  (he : ∀ a b, eqVs (l a) (l b) = decide (a = b)) (hb : ∀ a, Instr.sameBits 10000 (.agg (l a).toArray) (.agg (l a).toArray) = true) : KeyOK P kt (fun a => .agg (cs a)) (fun a => .agg (l a).toArray) := by
 refine ⟨fun m Z a x h => ?_, fun m Z a => ⟨_, rfl, hr m Z a⟩, fun e a w => run_checkFlat hF (hk a), fun a es ks' w hes => ?_, hb⟩
 ·obtain ⟨y, rfl, h2⟩ := h
  rw [hd m Z a y h2]
 ·have ask : ∀ (es : List MapEntry) (ks' : List α) (i : Nat), es.map (·.key) = ks'.map (fun a => Value.agg (l a).toArray) → (Instr.findAsking kt (.agg (l a).toArray) es i).run P w = .ok (findP a ks' es i) w := by
   intro es
   induction es with
   | nil => intro ks' i h; cases ks' with | nil => rfl | cons => simp at h
   | cons e es ih =>
    intro ks' i h
    cases ks' with
    | nil => simp at h
    | cons k ks' =>
     simp only [List.map_cons, List.cons.injEq] at h
     simp only [Instr.findAsking, Sem.run_bind, h.1, run_equalFlat hF (hk a) (hk k), he, Result.andThen_ok, findP]
     by_cases e1 : a = k
     ·simp [e1]
     ·simp [e1, ih ks' (i + 1) h.2]
  simp only [Instr.findKey, Sem.run_bind, run_underlying hF.1, Result.andThen_ok]
  cases es with
  | nil => cases ks' with | nil => rfl | cons => simp at hes
  | cons e es =>
   have : Instr.findNow (.struct (P.fieldsOf kt)) (.agg (l a).toArray) (e :: es) 0 = none := by simp [Instr.findNow, Instr.sameNow]
   rw [this]
   exact ask _ _ 0 hes
end
end Go.EV
namespace Go.EV
open Go Go.RowKit Go.Eng
section
variable {P : Program} {F : Fence} {n : Nat} {b : Frame} {a : Act} {k : List Item} {cs : List Frame} {w : World} {Q : Exit → Act → World → Prop}
theorem stepR_scope {c : Code} : step P (lone (b.atR a (.code (.scope c) :: k)) cs w) = .next (lone (b.atR a (.code c :: .inScope c :: k)) cs w) :=
 step_lone_go (by simp [stepG, stepG.exec, Frame.atR])
theorem stepR_inScope {c : Code} : step P (lone (b.atR a (.inScope c :: k)) cs w) = .next (lone (b.atR a k) cs w) :=
 step_lone_go (by simp [stepG, stepG.exec, Frame.atR])
theorem wpIn_scope {c : Code} (h : c.wpIn F n P (Exit.noGoto Q) a w) : (Code.scope c).wpIn F n P Q a w := by
 intro b k cs hro hb hr
 have h0 : (lone (b.atR a (.code (.scope c) :: k)) cs w).fenced P F := fenced_calm hb hr rfl
 obtain ⟨e, a₁, w₁, hq, harr⟩ := h b (.inScope c :: k) cs hro hb hr
 cases e with
 | normal => exact ⟨.normal, a₁, w₁, hq, .head h0 stepR_scope (StepsIn.trans harr (.one (fenced_calm hb hr rfl) stepR_inScope))⟩
 | exit id =>
  have hx : exitTo id (.inScope c :: k) = exitTo id k := by simp [exitTo]
  exact ⟨.exit id, a₁, w₁, hq, fun k' hk => .head h0 stepR_scope (harr.1 k' (by rw [hx]; exact hk)),
   fun hr' hk => let ⟨k₁, h1, h2⟩ := harr.2 hr' (by rw [hx]; exact hk); ⟨k₁, h1, .head h0 stepR_scope h2⟩⟩
 | goto l => exact hq.elim
 | ret => exact ⟨_, a₁, w₁, hq, .of_steps (.one h0 stepR_scope) harr⟩
 | panic ch => exact ⟨_, a₁, w₁, hq, .of_steps (.one h0 stepR_scope) harr⟩
 | outgrown => exact ⟨_, a₁, w₁, hq, .of_steps (.one h0 stepR_scope) harr⟩
end
section
variable {K0 : List Nat} {c : Ctx K0} {P : Program} {r : Option Nat} {N : Nat} {Q : PostV} {ρ : Env} {H : Heap} {ds : List Deferred}
def noGotoV (Q : PostV) : PostV
 | .goto _, _, _, _ => False
 | e, ρ, H, ds => Q e ρ H ds
theorem v_label {l : Nat} (h : Q .normal ρ H ds) : WpV c P r N (.label l) Q ρ H ds := fun ρr w ds1 S hM => by
 intro a n hf
 exact wpIn_label ⟨ρr, ds1, hf, ρ, H, S, hM, h⟩
theorem v_scope {x : Code} (h : WpV c P r N x (noGotoV Q) ρ H ds) : WpV c P r N (.scope x) Q ρ H ds := fun ρr w ds1 S hM => by
 intro a n hf
 refine wpIn_scope (wpIn_mono (h ρr w ds1 S hM a n hf) fun e a' w' hq => ?_)
 obtain ⟨ρ1, ds', hf', ρ', H', S', hM', hQ⟩ := hq
 cases e with
 | goto l => exact hQ.elim
 | normal => exact ⟨ρ1, ds', hf', ρ', H', S', hM', hQ⟩
 | exit id => exact ⟨ρ1, ds', hf', ρ', H', S', hM', hQ⟩
 | ret => exact ⟨ρ1, ds', hf', ρ', H', S', hM', hQ⟩
 | panic ch => exact ⟨ρ1, ds', hf', ρ', H', S', hM', hQ⟩
 | outgrown => exact ⟨ρ1, ds', hf', ρ', H', S', hM', hQ⟩
theorem nrm_scpV (h : Q .normal ρ H ds) : noGotoV Q .normal ρ H ds := h
theorem ret_scpV (h : Q .ret ρ H ds) : noGotoV Q .ret ρ H ds := h
theorem exit_scpV {i : Nat} (h : Q (.exit i) ρ H ds) : noGotoV Q (.exit i) ρ H ds := h
end
end Go.EV
namespace Go.EV
open Go Go.RowKit Go.Eng
def hidx (b g : Nat) : Nat := 3 * npair b g + 1
def hmark (g : Nat) : Nat := 3 * g + 2
theorem hidx_inj {b g b' g' : Nat} (h : hidx b g = hidx b' g') : b = b' ∧ g = g' := npair_inj (by unfold hidx at h; omega)
theorem hidx_mark {b g g' : Nat} : hidx b g ≠ hmark g' := by unfold hidx hmark; omega
theorem hidx_st {b g k : Nat} : hidx b g ≠ 3 * k := by unfold hidx; omega
theorem hmark_st {g k : Nat} : hmark g ≠ 3 * k := by unfold hmark; omega
def hcur (mk : Nat → Option (Nat × Nat)) (g : Nat) : Prop := mk (hmark g) ≠ none ∧ ∀ g', g < g' → mk (hmark g') = none
theorem hcur_eq {mk : Nat → Option (Nat × Nat)} {g g' : Nat} (h : hcur mk g) (h' : hcur mk g') : g = g' := by
 rcases Nat.lt_trichotomy g g' with hl | he | hl
 ·exact absurd (h.2 g' hl) h'.1
 ·exact he
 ·exact absurd (h'.2 g hl) h.1
def hide (s : Nat → Bool) (F : Heap) : GObj where
 holds mk Z w := ∃ (m0 : M) (g : Nat), hcur mk g ∧ (∀ p ∈ F, Holds m0 Z w p.1 p.2) ∧ (keys F).Nodup ∧ (∀ p ∈ F, ∀ q ∈ F, ∀ b, blk m0 p b → blk m0 q b → p.1 = q.1) ∧ (∀ k, k ∉ keys F → ∀ L, m0 k L = none) ∧
  (∀ p ∈ F, ∀ b, blk m0 p b → mk (hidx b g) = some (b, 1)) ∧ (∀ b loc, mk (hidx b g) = some loc → loc = (b, 1) ∧ ∃ p ∈ F, blk m0 p b) ∧ (∀ k, s k = true → mk (3 * k) = m0 k 0) ∧ ∀ g', g < g' → ∀ b, mk (hidx b g') = none
 blks mk b := ∃ g, hcur mk g ∧ mk (hidx b g) = some (b, 1)
 some_ mk b := fun ⟨g, _, h⟩ => ⟨_, 1, h, by omega⟩
 own mk Z w b := by
  rintro ⟨m0, g, hg, h1, _, _, _, _, h6, _⟩ ⟨g', hg', hb⟩
  cases hcur_eq hg hg'
  obtain ⟨_, p, hp, hpb⟩ := h6 b _ hb
  exact (h1 p hp).notLp b hpb
 keep mk Z Z' w w' := by
  rintro ⟨m0, g, hg, h1, h2, h3, h4, h5, h6⟩ hZ hw
  exact ⟨m0, g, hg, fun p hp => (h1 p hp).keep (fun _ _ _ e => e) rfl hZ fun b hb => hw b ⟨g, hg, h5 p hp b hb⟩, h2, h3, h4, h5, h6⟩
def hpl (a off : Nat) : GVal where
 rep mk x := ∃ loc, mk (3 * a) = some loc ∧ x = .pointer (some ⟨loc.1, off, none⟩)
 mono mk mk' x h := by
  rintro ⟨loc, h1, h2⟩
  exact ⟨loc, h _ _ h1, h2⟩
 one mk x := by
  rintro ⟨loc, _, rfl⟩
  exact ⟨rfl, rfl⟩
mutual
def V.hk (k : Nat) : V → V
 | .ptr a _ o => .gv k (hpl a o)
 | .tup xs => .tup (hkL k xs)
 | .agg xs => .agg (hkL k xs)
 | v => v
def hkL (k : Nat) : List V → List V
 | [] => []
 | v :: vs => v.hk k :: hkL k vs
end
mutual
def V.hkB (s : Nat → Bool) : V → Bool
 | .ptr a L _ => s a && Nat.beq L 0
 | .tup xs => hkBL s xs
 | .agg xs => hkBL s xs
 | .sl _ _ _ _ _ => false
 | .mp _ => false
 | .fn _ _ _ => false
 | .ifc _ _ => false
 | .gv _ _ => false
 | _ => true
def hkBL (s : Nat → Bool) : List V → Bool
 | [] => true
 | v :: vs => v.hkB s && hkBL s vs
end
mutual
theorem Rep.unhk {m m1 : M} {Z : ZM} {k : Nat} {s : Nat → Bool} (hs : ∀ a loc, s a = true → m k (3 * a) = some loc → m1 a 0 = some loc) : ∀ (v : V) (x : Value), v.hkB s = true → Rep (some m) Z (v.hk k) x → Rep (some m1) Z v x
 | .ptr a L o, x, hb, h => by
  simp only [V.hkB, Bool.and_eq_true] at hb
  obtain ⟨f, e, loc, h1, h2⟩ := h
  cases e
  have := Nat.eq_of_beq_eq_true hb.2
  subst this
  exact ⟨m1, loc, rfl, hs a loc hb.1 h1, h2⟩
 | .tup xs, x, hb, h => by
  obtain ⟨l, h1, h2⟩ := h
  exact ⟨l, h1, RepL.unhk hs xs l hb h2⟩
 | .agg xs, x, hb, h => by
  obtain ⟨l, h1, h2⟩ := h
  exact ⟨l, h1, RepL.unhk hs xs l hb h2⟩
 | .undef, _, _, h => h
 | .no, _, _, h => h
 | .int _ _, _, _, h => h
 | .bool _, _, _, h => h
 | .str _, _, _, h => h
 | .nilp, _, _, h => h
 | .vp _ _, _, _, h => h
 | .nils, _, _, h => h
 | .vs _ _, _, _, h => h
 | .nilf, _, _, h => h
 | .nilm, _, _, h => h
 | .nili, _, _, h => h
 | .pv _, _, _, h => h
 | .sl _ _ _ _ _, _, hb, _ => by cases hb
 | .mp _, _, hb, _ => by cases hb
 | .fn _ _ _, _, hb, _ => by cases hb
 | .ifc _ _, _, hb, _ => by cases hb
 | .gv _ _, _, hb, _ => by cases hb
theorem RepL.unhk {m m1 : M} {Z : ZM} {k : Nat} {s : Nat → Bool} (hs : ∀ a loc, s a = true → m k (3 * a) = some loc → m1 a 0 = some loc) : ∀ (vs : List V) (l : List Value), hkBL s vs = true → RepL (some m) Z (hkL k vs) l → RepL (some m1) Z vs l
 | [], _, _, h => h
 | v :: vs, l, hb, h => by
  simp only [hkBL, Bool.and_eq_true] at hb
  obtain ⟨x, xs, h1, h2, h3⟩ := h
  exact ⟨x, xs, h1, Rep.unhk hs v x hb.1 h2, RepL.unhk hs vs xs hb.2 h3⟩
end
mutual
theorem Rep.hk {m m1 : M} {Z : ZM} {k : Nat} {s : Nat → Bool} (hs : ∀ a loc, s a = true → m1 a 0 = some loc → m k (3 * a) = some loc) : ∀ (v : V) (x : Value), v.hkB s = true → Rep (some m1) Z v x → Rep (some m) Z (v.hk k) x
 | .ptr a L o, x, hb, h => by
  simp only [V.hkB, Bool.and_eq_true] at hb
  obtain ⟨f, loc, e, h1, h2⟩ := h
  cases e
  have := Nat.eq_of_beq_eq_true hb.2
  subst this
  exact ⟨m, rfl, loc, hs a loc hb.1 h1, h2⟩
 | .tup xs, x, hb, h => by
  obtain ⟨l, h1, h2⟩ := h
  exact ⟨l, h1, RepL.hk hs xs l hb h2⟩
 | .agg xs, x, hb, h => by
  obtain ⟨l, h1, h2⟩ := h
  exact ⟨l, h1, RepL.hk hs xs l hb h2⟩
 | .undef, _, _, h => h
 | .no, _, _, h => h
 | .int _ _, _, _, h => h
 | .bool _, _, _, h => h
 | .str _, _, _, h => h
 | .nilp, _, _, h => h
 | .vp _ _, _, _, h => h
 | .nils, _, _, h => h
 | .vs _ _, _, _, h => h
 | .nilf, _, _, h => h
 | .nilm, _, _, h => h
 | .nili, _, _, h => h
 | .pv _, _, _, h => h
 | .sl _ _ _ _ _, _, hb, _ => by cases hb
 | .mp _, _, hb, _ => by cases hb
 | .fn _ _ _, _, hb, _ => by cases hb
 | .ifc _ _, _, hb, _ => by cases hb
 | .gv _ _, _, hb, _ => by cases hb
theorem RepL.hk {m m1 : M} {Z : ZM} {k : Nat} {s : Nat → Bool} (hs : ∀ a loc, s a = true → m1 a 0 = some loc → m k (3 * a) = some loc) : ∀ (vs : List V) (l : List Value), hkBL s vs = true → RepL (some m1) Z vs l → RepL (some m) Z (hkL k vs) l
 | [], _, _, h => h
 | v :: vs, l, hb, h => by
  simp only [hkBL, Bool.and_eq_true] at hb
  obtain ⟨x, xs, h1, h2, h3⟩ := h
  exact ⟨x, xs, h1, Rep.hk hs v x hb.1 h2, RepL.hk hs vs xs hb.2 h3⟩
end
def Conv (s : Nat → Bool) (F F2 : Heap) : Prop := ∀ m Z w, SimH m Z F w → ∃ m2, SimH m2 Z F2 w ∧ (∀ k, k ∉ keys F2 → ∀ L, m2 k L = none) ∧ (∀ a, s a = true → a ∈ keys F → m2 a 0 = m a 0) ∧ (∀ a, s a = true → a ∉ keys F → m2 a 0 = none) ∧ ∀ p ∈ F2, ∀ b, blk m2 p b → ∃ q ∈ F, blk m q b
def isGl : Nat × Obj → Bool | (_, .glob _ _ _) => true | _ => false
section
variable {P : Program} {f : FuncId} {args : List V} {F F' F2 G : Heap} {r : V} {s : Nat → Bool}
theorem next_hide {mk : Nat → Option (Nat × Nat)} {g : Nat} (hg : hcur mk g) (hn : ∀ g', g < g' → ∀ b, mk (hidx b g') = none) (own : Nat → Prop) (st : Nat → Option (Nat × Nat)) (s : Nat → Bool) (hst : ∀ a loc, s a = true → mk (3 * a) = some loc → st a = some loc) :
  ∃ mk' : Nat → Option (Nat × Nat), (∀ L loc, mk L = some loc → mk' L = some loc) ∧ hcur mk' (g + 1) ∧ (∀ b, own b → mk' (hidx b (g + 1)) = some (b, 1)) ∧ (∀ b loc, mk' (hidx b (g + 1)) = some loc → loc = (b, 1) ∧ own b) ∧ (∀ a, s a = true → mk' (3 * a) = st a) ∧ ∀ g', g + 1 < g' → ∀ b, mk' (hidx b g') = none := by
 classical
 let mk' : Nat → Option (Nat × Nat) := fun j => if j = hmark (g + 1) then some (0, 1) else if ∃ b, j = hidx b (g + 1) ∧ own b then (if h : ∃ b, j = hidx b (g + 1) then some (Classical.choose h, 1) else none) else if ∃ a, j = 3 * a ∧ s a = true then st (j / 3) else mk j
 have e1 : mk' (hmark (g + 1)) = some (0, 1) := if_pos rfl
 have e2 : ∀ b, own b → mk' (hidx b (g + 1)) = some (b, 1) := fun b hb => by
  show (if _ then _ else if _ then _ else _) = _
  rw [if_neg hidx_mark, if_pos ⟨b, rfl, hb⟩, dif_pos ⟨b, rfl⟩]
  have := Classical.choose_spec (⟨b, rfl⟩ : ∃ b', hidx b (g + 1) = hidx b' (g + 1))
  rw [← (hidx_inj this).1]
 have e3 : ∀ b, ¬ own b → mk' (hidx b (g + 1)) = none := fun b hb => by
  show (if _ then _ else if _ then _ else if _ then _ else _) = _
  rw [if_neg hidx_mark, if_neg (fun ⟨b', h1, h2⟩ => hb (by rw [(hidx_inj h1).1]; exact h2)), if_neg (fun ⟨a, h1, _⟩ => hidx_st h1)]
  exact hn _ (by omega) b
 have e4 : ∀ a, s a = true → mk' (3 * a) = st a := fun a ha => by
  show (if _ then _ else if _ then _ else if _ then _ else _) = _
  rw [if_neg (fun h => hmark_st h.symm), if_neg (fun ⟨b, h1, _⟩ => hidx_st h1.symm), if_pos ⟨a, rfl, ha⟩]
  congr 1; omega
 have e5 : ∀ j, j ≠ hmark (g + 1) → (∀ b, j ≠ hidx b (g + 1)) → (∀ a, s a = true → j ≠ 3 * a) → mk' j = mk j := fun j h1 h2 h3 => by
  show (if _ then _ else if _ then _ else if _ then _ else _) = _
  rw [if_neg h1, if_neg (fun ⟨b, h, _⟩ => h2 b h), if_neg (fun ⟨a, h, ha⟩ => h3 a ha h)]
 refine ⟨mk', fun L loc e => ?_, ⟨by rw [e1]; exact fun h => (by cases h), fun g' hg' => ?_⟩, e2, fun b loc e => ?_, e4, fun g' hg' b => ?_⟩
 ·by_cases h1 : L = hmark (g + 1)
  ·rw [h1, hg.2 _ (by omega)] at e; cases e
  by_cases h2 : ∃ b, L = hidx b (g + 1)
  ·obtain ⟨b, rfl⟩ := h2
   rw [hn _ (by omega)] at e; cases e
  by_cases h3 : ∃ a, L = 3 * a ∧ s a = true
  ·obtain ⟨a, rfl, ha⟩ := h3
   rw [e4 a ha]; exact hst a loc ha e
  rw [e5 L h1 (fun b h => h2 ⟨b, h⟩) (fun a ha h => h3 ⟨a, h, ha⟩)]; exact e
 ·rw [e5 _ (fun h => by unfold hmark at h; omega) (fun b h => hidx_mark h.symm) (fun a _ h => hmark_st h)]
  exact hg.2 _ (by omega)
 ·by_cases hb : own b
  ·rw [e2 b hb] at e; cases e; exact ⟨rfl, hb⟩
  ·rw [e3 b hb] at e; cases e
 ·rw [e5 _ hidx_mark (fun b' h => by have := (hidx_inj h).2; omega) (fun a _ h => hidx_st h)]
  exact hn _ (by omega) b
theorem FnA.hide (k : Nat) (h : FnA P f args (F ++ G) r (F' ++ G)) (hcv : Conv s F' F2) (ha : hkBL s args = true) (hr : r.hkB s = true) (hG : G.all isGl = true) (hkG : k ∉ keys G) (hFG : ∀ j ∈ keys F, j ∉ keys G) (hFG' : ∀ j ∈ keys F', j ∉ keys G) (hsG : ∀ a, s a = true → a ∉ keys G) :
  FnA P f (hkL k args) ((k, .gen (EV.hide s F)) :: G) (r.hk k) ((k, .gen (EV.hide s F2)) :: G) := by
 intro w m Z vals hs hv hnone
 obtain ⟨m0, g, hg, h1, h2, h3, h4, h5, h6, h7, h8⟩ := hs.holds (k, .gen (EV.hide s F)) (List.mem_cons_self ..)
 have hblk0 : ∀ b, (∃ p ∈ F, blk m0 p b) → blk m (k, .gen (EV.hide s F)) b := fun b ⟨p, hp, hb⟩ => ⟨g, hg, h5 p hp b hb⟩
 let m1 : M := fun j => if j ∈ keys G then m j else m0 j
 have m1G : ∀ j ∈ keys G, m1 j = m j := fun j hj => if_pos hj
 have m1F : ∀ j, j ∉ keys G → m1 j = m0 j := fun j hj => if_neg hj
 have hmono : ∀ j L loc, m0 j L = some loc → m1 j L = some loc := fun j L loc e => by
  by_cases hj : j ∈ keys G
  ·rw [h4 j (fun hh => hFG j hh hj)] at e; cases e
  ·rw [m1F j hj]; exact e
 have holdG : ∀ q ∈ G, Holds m1 Z w q.1 q.2 := fun q hq => by
  have hh := hs.holds q (List.mem_cons_of_mem _ hq)
  have hk := m1G q.1 (mem_keys hq)
  have hgl := (List.all_eq_true.1 hG) q hq
  obtain ⟨j, o⟩ := q
  cases o <;> simp only [isGl, Bool.false_eq_true] at hgl
  exact ⟨by rw [hk]; exact hh.1, hh.2.1, by rw [hk]; exact hh.2.2⟩
 have bF : ∀ p ∈ F, blk m1 p = blk m0 p := fun p hp => blk_congr (m1F p.1 (hFG _ (mem_keys hp)))
 have bG : ∀ q ∈ G, blk m1 q = blk m q := fun q hq => blk_congr (m1G q.1 (mem_keys hq))
 have cross : ∀ p ∈ F, ∀ q ∈ G, ∀ b, blk m1 p b → blk m1 q b → False := fun p hp q hq b e1 e2 => by
  rw [bF p hp] at e1; rw [bG q hq] at e2
  have e : k = q.1 := hs.disj _ (List.mem_cons_self ..) q (List.mem_cons_of_mem _ hq) b (hblk0 b ⟨p, hp, e1⟩) e2
  exact hkG (by rw [e]; exact mem_keys hq)
 have hs1 : SimH m1 Z (F ++ G) w := by
  refine ⟨hs.frozen, fun p hp => ?_, ?_, fun p hp q hq b e1 e2 => ?_⟩
  ·rcases List.mem_append.1 hp with hp | hp
   ·exact (h1 p hp).keep hmono (m1F p.1 (hFG _ (mem_keys hp))) (fun _ _ e => e) fun b _ => ⟨rfl, fun _ _ e _ => e⟩
   ·exact holdG p hp
  ·rw [keys_append]
   have := hs.nodup
   exact List.nodup_append.2 ⟨h2, (List.nodup_cons.1 this).2, fun a ha b hb e => hFG a ha (e ▸ hb)⟩
  ·rcases List.mem_append.1 hp with hp | hp <;> rcases List.mem_append.1 hq with hq | hq
   ·rw [bF p hp] at e1; rw [bF q hq] at e2; exact h3 p hp q hq b e1 e2
   ·exact (cross p hp q hq b e1 e2).elim
   ·exact (cross q hq p hp b e2 e1).elim
   ·rw [bG p hp] at e1; rw [bG q hq] at e2
    exact hs.disj p (List.mem_cons_of_mem _ hp) q (List.mem_cons_of_mem _ hq) b e1 e2
 refine Calls.mono (h w m1 Z vals hs1 (RepL.unhk (fun a loc hsa e => by rw [m1F a (hsG a hsa), ← h7 a hsa]; exact e) args vals ha hv) fun j hj L => ?_) fun en w' ⟨x, m1', Z', he, st, hx⟩ => ?_
 ·rw [keys_append, List.mem_append, not_or] at hj
  rw [m1F j hj.2]; exact h4 j hj.1 L
 obtain ⟨m2, c1, c2, c3, c4, c5⟩ := hcv m1' Z' w' st.sim.left
 have stb : ∀ a loc, s a = true → m k (3 * a) = some loc → m2 a 0 = some loc := fun a loc hsa e => by
  rw [h7 a hsa] at e
  have haF : a ∈ keys F := Classical.byContradiction fun hn => by rw [h4 a hn] at e; cases e
  have haF' : a ∈ keys F' := by
   have := st.keep a (by rw [keys_append]; exact List.mem_append_left _ haF)
   rw [keys_append] at this
   exact (List.mem_append.1 this).resolve_right (hFG a haF)
  rw [c3 a hsa haF']
  exact st.mext a 0 loc (by rw [m1F a (hsG a hsa)]; exact e)
 obtain ⟨mk', n1, n2, n3, n4, n5, n6⟩ := next_hide hg h8 (fun b => ∃ p ∈ F2, blk m2 p b) (fun a => m2 a 0) s stb
 let m' : M := fun j => if j = k then mk' else m j
 have hmk : m' k = mk' := if_pos rfl
 have hmj : ∀ j, j ≠ k → m' j = m j := fun j hj => if_neg hj
 have new : ∀ b, (EV.hide s F2).blks (m' k) b → ∃ q ∈ F', blk m1' q b := fun b ⟨g', hg', hb⟩ => by
  rw [hmk] at hg' hb
  cases hcur_eq hg' n2
  obtain ⟨_, p, hp, hpb⟩ := n4 b _ hb
  exact c5 p hp b hpb
 have ownOld : ∀ b, (∃ q ∈ F ++ G, blk m1 q b) → ∃ q ∈ (k, .gen (EV.hide s F)) :: G, blk m q b := fun b ⟨q, hq, hb⟩ => by
  rcases List.mem_append.1 hq with hq | hq
  ·rw [bF q hq] at hb; exact ⟨_, List.mem_cons_self .., hblk0 b ⟨q, hq, hb⟩⟩
  ·rw [bG q hq] at hb; exact ⟨q, List.mem_cons_of_mem _ hq, hb⟩
 have m1'G : ∀ q ∈ G, ∀ L loc, m q.1 L = some loc → m1' q.1 L = some loc := fun q hq L loc e => st.mext _ _ _ (by rw [m1G q.1 (mem_keys hq)]; exact e)
 have glv : ∀ q ∈ G, ∃ g ob cs, q.2 = .glob g ob cs := fun q hq => by
  have hgl := (List.all_eq_true.1 hG) q hq
  obtain ⟨j, o⟩ := q
  cases o <;> simp only [isGl, Bool.false_eq_true] at hgl
  exact ⟨_, _, _, rfl⟩
 have bG' : ∀ q ∈ G, ∀ b, blk m q b → blk m1' q b := fun q hq b hb => by
  obtain ⟨g, ob, cs, e⟩ := glv q hq
  obtain ⟨j, o⟩ := q
  simp only at e; subst e
  simp only [blk, blk1, Obj.ver] at hb ⊢
  obtain ⟨loc, e1, e2⟩ := Option.bind_eq_some_iff.1 hb
  rw [m1'G _ hq 0 loc e1]; exact e2
 have hG' : ∀ q ∈ G, Holds m' Z' w' q.1 q.2 := fun q hq => by
  have h' := st.sim.holds q (List.mem_append_right _ hq)
  have hm := hs.holds q (List.mem_cons_of_mem _ hq)
  have hk := hmj q.1 (fun e => hkG (e ▸ mem_keys hq))
  obtain ⟨g, ob, cs, e⟩ := glv q hq
  obtain ⟨j, o⟩ := q
  simp only at e; subst e
  exact ⟨by rw [hk]; exact hm.1, h'.2.1, by rw [hk]; exact hm.2.2⟩
 have crossN : ∀ q ∈ G, ∀ b, (EV.hide s F2).blks (m' k) b → blk m' q b → False := fun q hq b e1 e2 => by
  obtain ⟨p, hp, hpb⟩ := new b e1
  rw [blk_congr (hmj q.1 (fun e => hkG (e ▸ mem_keys hq)))] at e2
  have := st.sim.disj p (List.mem_append_left _ hp) q (List.mem_append_right _ hq) b hpb (bG' q hq b e2)
  exact hFG' _ (mem_keys hp) (this ▸ mem_keys hq)
 refine ⟨x, m', Z', he, ⟨⟨st.sim.frozen, fun p hp => ?_, hs.nodup, fun p hp q hq b e1 e2 => ?_⟩, fun a L loc e => ?_, st.zext, st.os, st.tape, st.output, st.size, fun b hb hn => st.frame b hb fun p hp hbp => ?_, fun a ha => ha, fun a ha => hmj a (fun e => ha (e ▸ List.mem_cons_self ..)), fun p hp b hb => ?_, fun a x ha => (st.znew a x ha).imp id (Or.imp id (ownOld _))⟩, ?_⟩
 ·rcases List.mem_cons.1 hp with rfl | hp
  ·show (EV.hide s F2).holds (m' k) Z' w'
   rw [hmk]
   exact ⟨m2, g + 1, n2, c1.holds, c1.nodup, c1.disj, c2, fun p hp b hb => n3 b ⟨p, hp, hb⟩, n4, n5, n6⟩
  ·exact hG' p hp
 ·rcases List.mem_cons.1 hp with rfl | hp <;> rcases List.mem_cons.1 hq with rfl | hq
  ·rfl
  ·exact (crossN q hq b e1 e2).elim
  ·exact (crossN p hp b e2 e1).elim
  ·rw [blk_congr (hmj p.1 (fun e => hkG (e ▸ mem_keys hp)))] at e1
   rw [blk_congr (hmj q.1 (fun e => hkG (e ▸ mem_keys hq)))] at e2
   exact hs.disj p (List.mem_cons_of_mem _ hp) q (List.mem_cons_of_mem _ hq) b e1 e2
 ·by_cases hak : a = k
  ·subst hak; rw [hmk]; exact n1 L loc e
  ·rw [hmj a hak]; exact e
 ·obtain ⟨q, hq, hqb⟩ := ownOld b ⟨p, hp, hbp⟩
  exact hn q hq hqb
 ·rcases List.mem_cons.1 hp with rfl | hp
  ·obtain ⟨q, hq, hqb⟩ := new b hb
   exact (st.blks q (List.mem_append_left _ hq) b hqb).imp id (ownOld b)
  ·rw [blk_congr (hmj p.1 (fun e => hkG (e ▸ mem_keys hp)))] at hb
   exact .inr ⟨p, List.mem_cons_of_mem _ hp, hb⟩
 ·refine Rep.hk (fun a loc hsa e => ?_) r x hr hx
  have haF' : a ∈ keys F' := Classical.byContradiction fun hn => by
   have hnG := hsG a hsa
   rw [st.newk a (by rw [keys_append, List.mem_append, not_or]; exact ⟨hn, hnG⟩), m1F a hnG] at e
   have haF : a ∉ keys F := fun hh => by
    have := st.keep a (by rw [keys_append]; exact List.mem_append_left _ hh)
    rw [keys_append] at this
    exact hn ((List.mem_append.1 this).resolve_right hnG)
   rw [h4 a haF] at e; cases e
  rw [hmk, n5 a hsa, c3 a hsa haF']; exact e
end
end Go.EV
namespace Go.EV
open Go Go.RowKit Go.Eng Go.Lib
section
variable {P : Program} {m : M} {Z : ZM} {w : World}
theorem copy_runG {k e sz bytes t t2 ty L o n c : Nat} {els ys : List (List V)} {X Y : Value} (hT : elemT2 P t = some (e, sz, bytes)) (hs : SimH m Z [(k, .row e sz 0 els)] w) (hX : Rep (some m) Z (.sl sz k L o n) X) (hL : L = els.length) (hon : o + n ≤ L) (hlY : (Builtin.lenOf Y).run P w = .ok ys.length w) (hY0 : (Builtin.firstCells sz 0 Y).run P w = .ok #[] w) (hY : 0 < c → ∃ news, RepL none Z ys.flatten news ∧ (Builtin.firstCells sz c Y).run P w = .ok (news.take (c * sz)).toArray w) (h1 : ∀ c ∈ ys, c.all V.one = true)
  (hkl : ∀ c ∈ ys, c.length = sz) (hc : c = min ys.length n) : ∃ w', (Builtin.copy_ #[t, t2] ty #[X, Y]).run P w = .ok (.int .i64 c) w' ∧ Step m Z [(k, .row e sz 0 els)] w m Z [(k, .row e sz 0 (cpy els o (ys.take c)))] w' := by
 obtain ⟨i, z, hu, hi, hz, hisz, hib, hzs, h0⟩ := elemT2_of hT
 subst hisz; subst hib; subst hL
 obtain ⟨f, loc, e1, e2, e3, e4, e5⟩ := hX
 cases e1
 obtain ⟨B, cB, hXv⟩ : ∃ B cB, X = .slice B n cB := by
  rcases e5 with e5 | ⟨e5, A', e6⟩ | ⟨_, e5, A', c', e6, _⟩
  ·exact ⟨_, _, e5⟩
  ·exact ⟨A', 0, by rw [e6]; congr 1; omega⟩
  ·exact ⟨A', c', by rw [e6, e5]⟩
 have hlt : (ys.take c).length = c := by rw [List.length_take]; omega
 by_cases hc0 : c = 0
 ·refine ⟨w, ?_, by rw [hc0, List.take_zero, cpy_nil]; exact Step.refl hs⟩
  have hmin : Nat.min ys.length n = 0 := hc.symm.trans hc0
  have hf := hY0
  rw [hXv, hc0]
  cases B with
  | none => simp [Builtin.copy_, run_underlying hu, sizeOf, typeInfo, hi, hlY, hmin, hf, goInt]
  | some b => simp [Builtin.copy_, run_underlying hu, sizeOf, typeInfo, hi, hlY, hmin, hf, storeCells, goInt]
 have hn0 : 0 < n := by omega
 have hy0 : 0 < ys.length := by omega
 obtain ⟨news, hn1, hf⟩ := hY (by omega)
 rcases hs.holds _ (List.mem_singleton.2 rfl) with ⟨_, g1, _⟩ | ⟨b, cap, cur, fr, g1, g0, g2, g3, g4, g5, g6, g7, g8, g9, g10, g11, g12, g13⟩
 ·subst g1; simp at hon; omega
 have g1 : m k els.length = some (b, cap) := g1
 rw [g1] at e2; cases e2
 have e5 : X = .slice (some ⟨b, o * i.size, none⟩) n (cap - o) := by
  rcases e5 with e5 | ⟨e5, _⟩ | ⟨_, e5, _⟩
  ·exact e5
  ·simp only at e5; omega
  ·omega
 have hnl : news.length = ys.length * i.size := by rw [hn1.length, flatten_lenV hkl]
 have hmin : Nat.min ys.length n = c := hc.symm
 have hcy : c ≤ ys.length := by omega
 have hcn : c ≤ n := by omega
 have hcs : c * i.size ≤ ys.length * i.size := Nat.mul_le_mul_right _ hcy
 have hnc : (news.take (c * i.size)).length = c * i.size := by rw [List.length_take, hnl]; omega
 have hones : ∀ u ∈ news, u.oneCell' = true := ones_of hn1 (List.all_eq_true.2 fun v hv => by
  obtain ⟨c, hc, hvc⟩ := List.mem_flatten.1 hv
  exact (List.all_eq_true.1 (h1 c hc)) v hvc)
 have hsum : (o + c) * i.size ≤ els.length * i.size := Nat.mul_le_mul_right _ (by omega)
 have hcapm : els.length * i.size ≤ cap * i.size := Nat.mul_le_mul_right _ g3
 have hadd : (o + c) * i.size = o * i.size + c * i.size := Nat.add_mul ..
 have hst := run_storeCells_atG P b (o * i.size) e fr (news.take (c * i.size)) 0 cur w g2 (by simp at g9; omega) (by rw [hnc, g5]; omega) (fun v hv => hones v (List.mem_of_mem_take hv))
 simp only [Nat.add_zero, hnc] at hst
 refine ⟨w.setRow b (cur.toList.take (o * i.size) ++ news.take (c * i.size) ++ cur.toList.drop (o * i.size + c * i.size)).toArray, ?_, ?_⟩
 ·rw [e5]
  simp [Builtin.copy_, run_underlying hu, sizeOf, typeInfo, hi, hlY, hmin, hf, hst, goInt]
 ·have hbk : blk m (k, .row e i.size 0 els) b := by
   have : cap ≠ 0 := by omega
   simp [blk, blk1, Obj.ver, g1, this]
  have hlen2 : (cpy els o (ys.take c)).length = els.length := cpy_length (by rw [hlt]; omega)
  have hcl : cur.toList.length = cap * i.size := by simpa using g5
  have hno : ∀ a x, Z a = some x → a.block ≠ b := fun a x ha e => by have := g11 a x ha e; simp at this
  refine Step.write (b := b) hs hbk (fun b2 h => blk_ver (by simp only [Obj.ver]; exact hlen2) rfl rfl b2 h) rfl rfl rfl (by simp) (fun j hj => setRow_other w b j _ hj) (fun a x ha e => absurd e (hno a x ha)) ?_
  refine .inr ⟨b, cap, _, fr, by rw [hlen2]; exact g1, g0, setRow_heap w b cur _ e fr g2, by rw [hlen2]; exact g3, g4, ?_, g6, ?_, ?_, g9, by omega, fun a x ha e => absurd e (hno a x ha), by rw [hlen2]; exact g12, fun off x h => by simp at h⟩
  ·simp only [List.size_toArray, List.length_append, List.length_take, List.length_drop, hnl]; omega
  ·rw [hlen2]
   have hfl : (cpy els o (ys.take c)).flatten = els.flatten.take (o * i.size) ++ ys.flatten.take (c * i.size) ++ els.flatten.drop ((o + c) * i.size) := by
    rw [cpy, List.flatten_append, List.flatten_append, flatten_take g8, flatten_take hkl, hlt, flatten_drop g8]
   rw [hfl]
   have hcu : (cur.toList.take (o * i.size) ++ news.take (c * i.size) ++ cur.toList.drop (o * i.size + c * i.size)).toArray.toList.take (els.length * i.size) = (cur.toList.take (els.length * i.size)).take (o * i.size) ++ news.take (c * i.size) ++ (cur.toList.take (els.length * i.size)).drop ((o + c) * i.size) := by
    simp only []
    have hl1 : (cur.toList.take (o * i.size) ++ news.take (c * i.size)).length = o * i.size + c * i.size := by
     rw [List.length_append, hnc, List.length_take]; omega
    rw [List.take_append, List.take_of_length_le (by rw [hl1]; omega), hl1, List.take_take, List.drop_take, hadd]
    congr 2
    rw [Nat.min_eq_left (by omega)]
   rw [hcu]
   exact ((g7.take _).append (hn1.take _)).append (g7.drop _)
  ·intro c' hc'
   rw [cpy, List.append_assoc] at hc'
   rcases List.mem_append.1 hc' with h | h
   ·exact g8 _ (List.mem_of_mem_take h)
   ·rcases List.mem_append.1 h with h | h
    ·exact hkl _ (List.mem_of_mem_take h)
    ·exact g8 _ (List.mem_of_mem_drop h)
end
theorem repL_bytes {m : Option M} {Z : ZM} : ∀ s : List UInt8, RepL m Z (s.map fun b => V.int .u8 b.toNat) (s.map fun b => Value.int .u8 b.toNat)
 | [] => rfl
 | b :: s => ⟨_, _, rfl, rfl, repL_bytes s⟩
theorem firstStr {P : Program} {w : World} (s : List UInt8) (c : Nat) (hc : c ≤ s.length) : (Builtin.firstCells 1 c (.string ⟨s.toArray⟩)).run P w = .ok (((s.map fun b => Value.int .u8 b.toNat).take (c * 1)).toArray) w := by
 have : ((⟨s.toArray⟩ : ByteArray).extract 0 c).data = (s.take c).toArray := by
  rw [ByteArray.data_extract]
  simp
 simp only [Builtin.firstCells, this, Nat.mul_one, Sem.run_pure]
 rw [← List.map_take]; simp
section
variable {P : Program} {ρ : Env} {dst : Option Tmp} {ty : TypeId} {pos : String} {aft : Array Edge} {gd : Option (Nat × Bool)}
theorem loc_copyStr {t t2 e bytes k L o n c : Nat} {x y : Operand} {q all : List Int} {ys : List UInt8} (hT : elemT2 P t = some (e, 1, bytes)) (hx : evV ρ x = .sl 1 k L o n) (hL : q.length = L) (hon : o + n ≤ L) (hy : evV ρ y = .str ys)
  (hc : c = min ys.length n) (hall : cpyT q o ((ys.take c).map fun b => (b.toNat : Int)) = all) :
  Loc P ⟨dst, .call ⟨.builtin .copy, #[x, y], #[t, t2]⟩, ty, pos, aft, gd⟩ ρ [(k, .row e 1 0 (q.map (encK .u8)))] (.int .i64 c) [(k, .row e 1 0 (all.map (encK .u8)))] := by
 intro ρr m Z w hops hs hnew
 rw [cpyT_eq (by rw [List.length_map, List.length_take]; omega)] at hall
 subst hall
 have hX := hops x (by simp [Op.operands, Call.operands])
 have hY := hops y (by simp [Op.operands, Call.operands])
 rw [hx] at hX; rw [hy] at hY
 have hY : ev ρr y = .string ⟨ys.toArray⟩ := hY
 let zs : List Int := ys.map fun b => (b.toNat : Int)
 have hfl : (zs.map (encK .u8)).flatten = ys.map fun b => V.int .u8 b.toNat := by
  show ((ys.map fun b => (b.toNat : Int)).map (encK .u8)).flatten = _
  rw [List.map_map]
  exact flat_sing (fun b : UInt8 => V.int .u8 b.toNat) ys
 have hzl : zs.length = ys.length := List.length_map ..
 obtain ⟨w', hr, hst⟩ := copy_runG (P := P) (t2 := t2) (ty := ty) (c := c) (ys := zs.map (encK .u8)) (Y := .string ⟨ys.toArray⟩) hT hs hX (by rw [List.length_map]; exact hL.symm) hon (by simp [Builtin.lenOf, ByteArray.size, hzl]) (by simpa using firstStr (P := P) (w := w) ys 0 (Nat.zero_le _))
  (fun h0 => ⟨ys.map fun b => Value.int .u8 b.toNat, by rw [hfl]; exact repL_bytes ys, firstStr ys c (by omega)⟩) (map_ones (encK .u8) (fun _ => rfl) zs) (map_lens (encK .u8) (fun _ => rfl) zs) (by rw [List.length_map, hzl]; exact hc)
 rw [← List.map_take, ← cpy_map, ← List.map_take] at hst
 exact ⟨rfl, .inl ⟨_, w', by simp [execOp, resolve, invoke, builtin, hY, hr], m, Z, hst, rfl⟩⟩
end
end Go.EV
namespace Go.EV
open Go Go.RowKit Go.Eng
def stampOf (es : Array MapEntry) (clock i : Nat) : Nat := match es[i]? with | some e => e.born | none => clock
def mapB (l : List (V × V)) (i s : Nat) : GObj where
 holds mk Z w := ∃ (b : Nat) (es : Array MapEntry) (clock : Nat), mk 0 = some (b, 1) ∧ w.heap[b]? = some (.map es clock) ∧ RepE Z l es.toList ∧ (es.toList.Pairwise fun x y => x.born < y.born) ∧ (∀ e ∈ es.toList, e.born < clock) ∧ (∀ a x, Z a = some x → a.block ≠ b) ∧ stampOf es clock i = s ∧ ∃ L0, ∀ L loc, mk L = some loc → L ≤ L0
 blks mk b := mk 0 = some (b, 1)
 some_ mk b h := ⟨0, 1, h, by omega⟩
 own mk Z w b := by
  rintro ⟨b', es, clock, h1, h2, _⟩ h
  rw [h1] at h; cases h
  exact ⟨_, h2, rfl⟩
 keep mk Z Z' w w' := by
  rintro ⟨b, es, clock, h1, h2, h3, h4, h5, h6, h7⟩ hZ hw
  obtain ⟨hw1, hz⟩ := hw b h1
  exact ⟨b, es, clock, h1, hw1.trans h2, h3.up hZ, h4, h5, fun a x ha e => h6 a x (hz a x ha e) e, h7⟩
section
variable {K0 : List Nat} {c : Ctx K0} {P : Program} {r : Option Nat} {N : Nat} {Q : PostV} {ρ : Env} {H : Heap} {ds : List Deferred}
theorem v_stamp (k i : Nat) {x : Code} {l : List (V × V)} (hF : selH [k] H = some [(k, .map l)]) (H1 : Nat → Heap) (hH1 : ∀ s, [(k, .gen (mapB l i s))] ++ remH [k] H = H1 s) (h : ∀ s, WpV c P r N x Q ρ (H1 s) ds) : WpV c P r N x Q ρ H ds := fun ρr w ds1 S hM => by
 obtain ⟨m, Z, S, hR⟩ := S
 have hp := split_perm S.step.sim.nodup (nodup_of (show nodupB [k] = true by simp [nodupB])) hF
 have hs : SimH m Z [(k, .map l)] w := (S.step.sim.perm hp).left
 obtain ⟨b, es, clock, g1, g2, g3, g4, g5, g6, g7⟩ := hs.holds _ (List.mem_singleton.2 rfl)
 have st : Step m Z [(k, .map l)] w m Z [(k, .gen (mapB l i (stampOf es clock i)))] w := by
  refine ⟨⟨hs.frozen, fun p hp => ?_, by simp [keys], fun p hp q hq _ _ _ => by rw [List.mem_singleton.1 hp, List.mem_singleton.1 hq]⟩, fun _ _ _ e => e, fun _ _ e => e, rfl, rfl, rfl, Nat.le_refl _, fun _ _ _ => rfl, fun _ h => h, fun _ _ => rfl, fun p hp b' hb => .inr ⟨_, List.mem_singleton.2 rfl, ?_⟩, fun _ _ e => .inl e⟩
  ·rw [List.mem_singleton.1 hp]
   exact ⟨b, es, clock, g1, g2, g3, g4, g5, g6, rfl, g7⟩
  ·rw [List.mem_singleton.1 hp] at hb
   have hb : m k 0 = some (b', 1) := hb
   simp [blk, blk1, Obj.ver, hb]
 rw [← funext hH1] at h
 exact h _ ρr w ds1 ⟨m, Z, S.step' (by simp [nodupB]) hF (keys_all_fresh fun p hp => by rw [List.mem_singleton.1 hp]; exact List.mem_singleton.2 rfl) (fun _ _ => st), hR⟩ hM
end
section
variable {P : Program} {ρ : Env} {dst : Option Tmp} {ty : TypeId} {pos : String} {aft : Array Edge} {gd : Option (Nat × Bool)} {α β : Type} [DecidableEq α]
def ment (a : α) (z : β) (l : List (α × β)) : List (α × β) := mset a ((mfind a l).getD z) l
theorem mix_mset (a : α) (b : β) : ∀ l : List (α × β), mix a (mset a b l) = mix a l
 | [] => by simp [mset, mix]
 | (k, c) :: r => by
  by_cases h : a = k
  ·subst h; simp [mset, mix]
  ·simp [mset, mix, h, mix_mset a b r]
theorem mset_mset (a : α) (b b' : β) : ∀ l : List (α × β), mset a b' (mset a b l) = mset a b' l
 | [] => by simp [mset]
 | (k, c) :: r => by
  by_cases h : a = k
  ·subst h; simp [mset]
  ·simp [mset, h, mset_mset a b b' r]
theorem mset_self {a : α} {b : β} : ∀ {l : List (α × β)}, mfind a l = some b → mset a b l = l
 | [], h => by simp [mfind] at h
 | (k, c) :: r, h => by
  by_cases e : a = k
  ·subst e; simp [mfind] at h; subst h; simp [mset]
  ·simp [mfind, e] at h; simp [mset, e, mset_self h]
theorem mfind_mset (a : α) (b : β) : ∀ l : List (α × β), mfind a (mset a b l) = some b
 | [] => by simp [mset, mfind]
 | (k, c) :: r => by
  by_cases h : a = k
  ·subst h; simp [mset, mfind]
  ·simp [mset, mfind, h, mfind_mset a b r]
theorem loc_mapEntryB {f : α → V} {val : α → Value} {g : β → V} {t kt et k s : Nat} {x ix : Operand} {l : List (α × β)} {a : α} {z : β} {zv : V} (hT : mapT P t = some (kt, et)) (K : KeyOK P kt f val) (hz : zero1 P et = some zv) (hzf : zv.refs = [])
  (hzg : ∀ (m : Option M) (Z : ZM) (y : Value), Rep m Z zv y → Rep m Z (g z) y) (hx : evV ρ x = .mp k) (hi : evV ρ ix = f a) :
  Loc P ⟨dst, .mapEntry t x ix, ty, pos, aft, gd⟩ ρ [(k, .gen (mapB (encM f g l) (mix a l) s))] (.tup [g ((mfind a l).getD z), .int .i64 s]) [(k, .gen (mapB (encM f g (ment a z l)) (mix a l) s))] := by
 intro ρr m Z w hops hs _
 have hX := hops x (by simp [Op.operands])
 have hI := K.det _ _ _ _ (hi ▸ hops ix (by simp [Op.operands]))
 rw [hx] at hX
 obtain ⟨m1, loc, e1, e2, hX⟩ := hX
 cases e1
 obtain ⟨b, es, clock, g1, g2, g3, g4, g5, g6, g7, g8⟩ := hs.holds _ (List.mem_singleton.2 rfl)
 rw [g1] at e2; cases e2
 obtain ⟨h1, h2⟩ := g3.find K.det a 0
 obtain ⟨zz, hz1, hz2⟩ := zero1_of (m := none) (Z := Z) (w := w) hz
 have hfind := K.find a es.toList _ w h1
 have hc := K.check false a w
 have hu := mapT_of hT
 have hlen : es.toList.length = l.length := by have := congrArg List.length h1; simpa using this
 have hmix := findP_mix a l es.toList 0 hlen
 have hbl : b < w.heap.size := (Array.getElem?_eq_some_iff.1 g2).1
 have key : ∃ v es' clock', (Instr.mapEntry t (.map (some b)) (val a)).run P w = .ok (.tuple #[v, .int .i64 s]) { w with heap := w.heap.setIfInBounds b (.map es' clock') } ∧ Rep (some m) Z (g ((mfind a l).getD z)) v ∧ RepE Z (encM f g (ment a z l)) es'.toList ∧ (es'.toList.Pairwise fun x y => x.born < y.born) ∧ (∀ e ∈ es'.toList, e.born < clock') ∧ stampOf es' clock' (mix a l) = s := by
  cases hm : mfind a l with
  | some b' =>
   rw [hm] at h2
   obtain ⟨j, e', q1, q2, q3, q4, _⟩ := h2
   rw [q1] at hfind hmix
   have hj : mix a l = j := by
    cases hmm : es.toList[mix a l]? with
    | none => rw [hmm] at hmix; cases hmix
    | some e2 => rw [hmm] at hmix; simp at hmix; omega
   have q2'' : es[j]? = some e' := by simpa using q2
   have hmod : (es.modify j fun e => { e with key := val a }) = es := by
    apply Array.ext
    ·simp
    ·intro i hi1 hi2
     rw [Array.getElem_modify]
     split
     ·rename_i hij
      subst hij
      have : es[j] = e' := by rw [Array.getElem?_eq_getElem hi2] at q2''; exact Option.some.inj q2''
      rw [this, ← q3]
     ·rfl
   have hs' : e'.born = s := by rw [← g7, stampOf, hj, q2'']
   refine ⟨e'.val, es, clock, ?_, Rep.up (fun _ _ e => e) (fun f e => by cases e) q4, by rw [ment, hm, Option.getD_some, mset_self hm]; exact g3, g4, g5, g7⟩
   have hset : w.heap.setIfInBounds b (.map es clock) = w.heap.setIfInBounds b (.map es clock) := rfl
   simp [Instr.mapEntry, run_underlying hu, MapKept.run_getObj_map g2, hc, hfind, Instr.keyThatStays, q2'', q3, K.bits, MapKept.run_setObj_map _ g2, hmod, goInt, hs']
  | none =>
   rw [hm] at h2
   rw [h2.1] at hfind hmix
   have hnone : es.toList[mix a l]? = none := by
    cases hmm : es.toList[mix a l]? with
    | none => rfl
    | some e2 => rw [hmm] at hmix; cases hmix
   have hml : mix a l = es.size := by
    rcases mix_find a l with ⟨b0, h3, _⟩ | ⟨h3, _⟩
    ·rw [hm] at h3; cases h3
    ·rw [h3, ← hlen]; simp
   have hs' : clock = s := by rw [← g7, stampOf, hml]; simp
   refine ⟨zz, es.push { key := val a, val := zz, born := clock }, clock + 1, by simp [Instr.mapEntry, run_underlying hu, MapKept.run_getObj_map g2, hc, hfind, hz1, MapKept.run_setObj_map _ g2, goInt, hs'], hzg _ _ _ (Rep.up (fun _ _ e => e) (fun f e => by cases e) hz2), ?_, ?_, ?_, ?_⟩
   ·rw [Array.toList_push, ment, hm]; exact h2.2 z _ _ (K.rep _ _ _) (hzg _ _ _ hz2)
   ·rw [Array.toList_push, List.pairwise_append]
    exact ⟨g4, by simp, fun p hp q hq => by simp at hq; subst hq; exact g5 p hp⟩
   ·rw [Array.toList_push]
    intro e he
    rcases List.mem_append.1 he with he | he
    ·have := g5 e he; omega
    ·simp at he; subst he; simp
   ·rw [stampOf, hml]; simp [hs']
 obtain ⟨v, es', clock', hrun, hv, k1, k2, k3, k4⟩ := key
 refine ⟨rfl, .inl ⟨_, { w with heap := w.heap.setIfInBounds b (.map es' clock') }, by simp only [execOp, hX, hI, Sem.run_bind, hrun, Result.andThen_ok, Sem.run_pure], m, Z, ?_, [v, .int .i64 s], rfl, v, _, rfl, hv, _, _, rfl, rfl, rfl⟩⟩
 refine Step.write (b := b) hs g1 (fun b2 h => h) rfl rfl rfl (by simp) (fun j hj => by simp [Array.getElem?_setIfInBounds_ne (Ne.symm hj)]) (fun a x ha e => absurd e (g6 a x ha)) ?_
 exact ⟨b, es', clock', g1, by simp [hbl], k1, k2, k3, g6, k4, g8⟩
theorem loc_entryStoreB {f : α → V} {val : α → Value} {g : β → V} {t k s kt : Nat} {x st y : Operand} {l : List (α × β)} {a : α} {c : β} (K : KeyOK P kt f val) (hin : (mfind a l).isSome = true) (hx : evV ρ x = .mp k) (hst : evV ρ st = .int .i64 s) (hy : evV ρ y = g c) (hr : (g c).refs = []) :
  Loc P ⟨dst, .entryStore t x st y, ty, pos, aft, gd⟩ ρ [(k, .gen (mapB (encM f g l) (mix a l) s))] .no [(k, .map (encM f g (mset a c l)))] := by
 intro ρr m Z w hops hs _
 have hX := hops x (by simp [Op.operands])
 have hS := hops st (by simp [Op.operands])
 have hY := hops y (by simp [Op.operands])
 rw [hx] at hX; rw [hst] at hS; rw [hy] at hY
 have hS : ev ρr st = .int .i64 s := hS
 have hY : Rep none Z (g c) (ev ρr y) := Rep.flat _ _ hr hY
 obtain ⟨m1, loc, e1, e2, hX⟩ := hX
 cases e1
 obtain ⟨b, es, clock, g1, g2, g3, g4, g5, g6, g7, g8⟩ := hs.holds _ (List.mem_singleton.2 rfl)
 rw [g1] at e2; cases e2
 obtain ⟨h1, h2⟩ := g3.find K.det a 0
 have hlen : es.toList.length = l.length := by have := congrArg List.length h1; simpa using this
 have hmix := findP_mix a l es.toList 0 hlen
 have hbl : b < w.heap.size := (Array.getElem?_eq_some_iff.1 g2).1
 obtain ⟨b', hm⟩ := Option.isSome_iff_exists.1 hin
 rw [hm] at h2
 obtain ⟨j, e', q1, q2, q3, _, q5⟩ := h2
 rw [q1] at hmix
 have hj : mix a l = j := by
  cases hmm : es.toList[mix a l]? with
  | none => rw [hmm] at hmix; cases hmix
  | some e2 => rw [hmm] at hmix; simp at hmix; omega
 have q2'' : es[j]? = some e' := by simpa using q2
 have hjs : j < es.size := (Array.getElem?_eq_some_iff.1 q2'').1
 have hej : es[j] = e' := (Array.getElem?_eq_some_iff.1 q2'').2
 have hs' : e'.born = s := by rw [← g7, stampOf, hj, q2'']
 have hidx : es.findIdx? (fun e => (e.born : Int) == (s : Int)) = some j := by
  rw [Array.findIdx?_eq_some_iff_getElem]
  refine ⟨hjs, by simp [hej, hs'], fun i hi => ?_⟩
  have := List.pairwise_iff_getElem.1 g4 i j (by simp; omega) (by simpa using hjs) hi
  simp only [Array.getElem_toList, hej] at this
  simp only [beq_iff_eq, Bool.not_eq_true, beq_eq_false_iff_ne, ne_eq]
  omega
 have hrun : (Instr.entryStore t (.map (some b)) (.int .i64 s) (ev ρr y)).run P w = .ok () { w with heap := w.heap.setIfInBounds b (.map (es.modify j fun e => { e with val := ev ρr y }) clock) } := by
  simp [Instr.entryStore, MapKept.run_getObj_map g2, asInt, asIntOf, hidx, MapKept.run_setObj_map _ g2]
 have hmod : (es.modify j fun e => { e with val := ev ρr y }).toList = es.toList.modify j fun e => { e with key := val a, val := ev ρr y } := by
  rw [Array.toList_modify]
  apply List.ext_getElem
  ·simp
  ·intro i h3 h4
   rw [List.getElem_modify, List.getElem_modify]
   split
   ·rename_i hij
    subst hij
    simp only [Array.getElem_toList, hej, ← q3]
   ·rfl
 have hborn : ∀ e ∈ (es.toList.modify j fun e => { e with key := val a, val := ev ρr y }), ∃ e0 ∈ es.toList, e.born = e0.born := fun e he => by
  obtain ⟨i, hi, rfl⟩ := List.getElem_of_mem he
  rw [List.getElem_modify]
  simp only [List.length_modify] at hi
  refine ⟨es.toList[i], List.getElem_mem _, ?_⟩
  split <;> rfl
 refine ⟨rfl, .inr (.inl ⟨{ w with heap := w.heap.setIfInBounds b (.map (es.modify j fun e => { e with val := ev ρr y }) clock) }, by simp only [execOp, hX, hS, Sem.run_bind, hrun, Result.andThen_ok, Sem.run_pure], m, Z, ?_, rfl⟩)⟩
 refine Step.write (b := b) hs g1 (fun b2 h => ?_) rfl rfl rfl (by simp) (fun j hj => by simp [Array.getElem?_setIfInBounds_ne (Ne.symm hj)]) (fun a x ha e => absurd e (g6 a x ha)) ?_
 ·have h : blk1 m (k, .map (encM f g (mset a c l))) = some b2 := h
  have g1' : m k 0 = some (b, 1) := g1
  simp [blk1, Obj.ver, g1'] at h
  subst h
  exact g1
 ·refine ⟨b, _, clock, g1, by simp [hbl]; rfl, ?_, ?_, ?_, g6, g8⟩
  ·rw [hmod]; exact q5 c _ hY
  ·rw [hmod, List.pairwise_iff_getElem]
   intro i j' hi hj' hij
   rw [List.getElem_modify, List.getElem_modify]
   simp only [List.length_modify] at hi hj'
   have := List.pairwise_iff_getElem.1 g4 i j' hi hj' hij
   split <;> split <;> exact this
  ·rw [hmod]
   intro e he
   obtain ⟨e0, h3, h4⟩ := hborn e he
   rw [h4]; exact g5 e0 h3
theorem loc_entryStoreC {f : α → V} {val : α → Value} {g : β → V} {t k s kt : Nat} {x st y : Operand} {l : List (α × β)} {a : α} {c z : β} (K : KeyOK P kt f val) (hx : evV ρ x = .mp k) (hst : evV ρ st = .int .i64 s) (hy : evV ρ y = g c) (hr : (g c).refs = []) :
  Loc P ⟨dst, .entryStore t x st y, ty, pos, aft, gd⟩ ρ [(k, .gen (mapB (encM f g (ment a z l)) (mix a l) s))] .no [(k, .map (encM f g (mset a c l)))] := by
 have h := loc_entryStoreB (P := P) (ρ := ρ) (dst := dst) (ty := ty) (pos := pos) (aft := aft) (gd := gd) (t := t) (k := k) (s := s) (x := x) (st := st) (y := y) (l := ment a z l) (a := a) (c := c) (g := g) K (by rw [ment, mfind_mset]; rfl) hx hst hy hr
 rw [show mix a (ment a z l) = mix a l from mix_mset a _ l, show mset a c (ment a z l) = mset a c l from mset_mset a _ c l] at h
 exact h
end
end Go.EV
namespace Go.EV
open Go Go.RowKit Go.Eng Go.Lib
section
variable {P : Program} {m : M} {Z : ZM} {w : World}
theorem clear_run {k e sz bytes t ty L o n : Nat} {els : List (List V)} {X : Value} {cs cs2 : List V} (hT : elemT2 P t = some (e, sz, bytes)) (hzc : zeroV P e = some cs) (hw : ∀ (Z : ZM) (l : List Value), RepL none Z cs l → RepL none Z cs2 l) (hl2 : cs2.length = cs.length) (h1 : cs2.all V.one = true) (hs : SimH m Z [(k, .row e sz 0 els)] w) (hX : Rep (some m) Z (.sl sz k L o n) X) (hL : L = els.length) (hon : o + n ≤ L) :
  ∃ w', (Builtin.clear_ #[t] ty #[X]).run P w = .ok (.tuple #[]) w' ∧ Step m Z [(k, .row e sz 0 els)] w m Z [(k, .row e sz 0 (cpy els o (List.replicate n cs2)))] w' := by
 obtain ⟨i, z, hu, hi, hz, hisz, hib, hzs, h0⟩ := elemT2_of hT
 subst hisz; subst hib; subst hL
 obtain ⟨f, loc, e1, e2, e3, e4, e5⟩ := hX
 cases e1
 obtain ⟨B, cB, hXv⟩ : ∃ B cB, X = .slice B n cB := by
  rcases e5 with e5 | ⟨e5, A', e6⟩ | ⟨_, e5, A', c', e6, _⟩
  ·exact ⟨_, _, e5⟩
  ·exact ⟨A', 0, by rw [e6]; congr 1; omega⟩
  ·exact ⟨A', c', by rw [e6, e5]⟩
 have hcs : cs = z.cells.toList.map ofC1 := by
  simp only [zeroV, hi, hz, Option.some.injEq] at hzc
  exact hzc.symm
 have hszz : z.cells.size = i.size := hzs
 have hcl : cs2.length = i.size := by rw [hl2, hcs]; simp [hszz]
 let ys := List.replicate n cs2
 let news : List Value := (Builtin.zeroCells z.cells n).toList
 have hlt : ys.length = n := List.length_replicate ..
 have hkl : ∀ c ∈ ys, c.length = i.size := fun c hc => by rw [List.eq_of_mem_replicate hc, hcl]
 have hn1 : RepL none Z ys.flatten news := by
  have := made_rep (m := none) (Z := Z) (zc := z.cells) (n := n) (by omega)
  rw [← hcs] at this
  exact RepL.row_weak hw n _ this
 have h1 : ∀ c ∈ ys, c.all V.one = true := fun c hc => by rw [List.eq_of_mem_replicate hc]; exact h1
 by_cases hc0 : n = 0
 ·subst hc0
  refine ⟨w, ?_, by show Step m Z _ w m Z [(k, .row e i.size 0 (cpy els o []))] w; rw [cpy_nil]; exact Step.refl hs⟩
  rw [hXv]
  cases B with
  | none => simp [Builtin.clear_, run_underlying hu]
  | some b => simp [Builtin.clear_, run_underlying hu]
 have hn0 : 0 < n := by omega
 rcases hs.holds _ (List.mem_singleton.2 rfl) with ⟨_, g1, _⟩ | ⟨b, cap, cur, fr, g1, g0, g2, g3, g4, g5, g6, g7, g8, g9, g10, g11, g12, g13⟩
 ·subst g1; simp at hon; omega
 have g1 : m k els.length = some (b, cap) := g1
 rw [g1] at e2; cases e2
 have e5 : X = .slice (some ⟨b, o * i.size, none⟩) n (cap - o) := by
  rcases e5 with e5 | ⟨e5, _⟩ | ⟨_, e5, _⟩
  ·exact e5
  ·simp only at e5; omega
  ·omega
 have hnl : news.length = ys.length * i.size := by rw [hn1.length, flatten_lenV hkl]
 have hcy : n ≤ ys.length := by omega
 have hcsz : n * i.size ≤ ys.length * i.size := Nat.mul_le_mul_right _ hcy
 have hnc : (news.take (n * i.size)).length = n * i.size := by rw [List.length_take, hnl]; omega
 have htk : news.take (n * i.size) = news := List.take_of_length_le (by rw [hnl, hlt]; exact Nat.le_refl _)
 have hones : ∀ u ∈ news, u.oneCell' = true := ones_of hn1 (List.all_eq_true.2 fun v hv => by
  obtain ⟨c, hc, hvc⟩ := List.mem_flatten.1 hv
  exact (List.all_eq_true.1 (h1 c hc)) v hvc)
 have hsum : (o + n) * i.size ≤ els.length * i.size := Nat.mul_le_mul_right _ (by omega)
 have hcapm : els.length * i.size ≤ cap * i.size := Nat.mul_le_mul_right _ g3
 have hadd : (o + n) * i.size = o * i.size + n * i.size := Nat.add_mul ..
 have hst := run_storeCells_atG P b (o * i.size) e fr (news.take (n * i.size)) 0 cur w g2 (by simp at g9; omega) (by rw [hnc, g5]; omega) (fun v hv => hones v (List.mem_of_mem_take hv))
 simp only [Nat.add_zero, hnc] at hst
 refine ⟨w.setRow b (cur.toList.take (o * i.size) ++ news.take (n * i.size) ++ cur.toList.drop (o * i.size + n * i.size)).toArray, ?_, ?_⟩
 ·rw [e5]
  obtain ⟨n', rfl⟩ : ∃ n', n = n' + 1 := ⟨n - 1, by omega⟩
  rw [htk] at hst
  simp [Builtin.clear_, run_underlying hu, zeroValue, typeInfo, hi, hz]
  rw [show (Builtin.zeroCells z.cells (n' + 1)).toList = news from rfl, hst]; simp [htk]
 ·have hbk : blk m (k, .row e i.size 0 els) b := by
   have : cap ≠ 0 := by omega
   simp [blk, blk1, Obj.ver, g1, this]
  have hlen2 : (cpy els o ys).length = els.length := cpy_length (by rw [hlt]; omega)
  have hcl : cur.toList.length = cap * i.size := by simpa using g5
  have hno : ∀ a x, Z a = some x → a.block ≠ b := fun a x ha e => by have := g11 a x ha e; simp at this
  refine Step.write (b := b) hs hbk (fun b2 h => blk_ver (by simp only [Obj.ver]; exact hlen2) rfl rfl b2 h) rfl rfl rfl (by simp) (fun j hj => setRow_other w b j _ hj) (fun a x ha e => absurd e (hno a x ha)) ?_
  refine .inr ⟨b, cap, _, fr, by rw [hlen2]; exact g1, g0, setRow_heap w b cur _ e fr g2, by rw [hlen2]; exact g3, g4, ?_, g6, ?_, ?_, g9, by omega, fun a x ha e => absurd e (hno a x ha), by rw [hlen2]; exact g12, fun off x h => by simp at h⟩
  ·simp only [List.size_toArray, List.length_append, List.length_take, List.length_drop, hnl]; omega
  ·rw [hlen2]
   have hfl : (cpy els o ys).flatten = els.flatten.take (o * i.size) ++ ys.flatten.take (n * i.size) ++ els.flatten.drop ((o + n) * i.size) := by
    rw [cpy, List.flatten_append, List.flatten_append, flatten_take g8, flatten_drop g8, hlt, List.take_of_length_le (l := ys.flatten) (by rw [flatten_lenV hkl, hlt]; exact Nat.le_refl _)]
   rw [hfl]
   have hcu : (cur.toList.take (o * i.size) ++ news.take (n * i.size) ++ cur.toList.drop (o * i.size + n * i.size)).toArray.toList.take (els.length * i.size) = (cur.toList.take (els.length * i.size)).take (o * i.size) ++ news.take (n * i.size) ++ (cur.toList.take (els.length * i.size)).drop ((o + n) * i.size) := by
    simp only []
    have hl1 : (cur.toList.take (o * i.size) ++ news.take (n * i.size)).length = o * i.size + n * i.size := by
     rw [List.length_append, hnc, List.length_take]; omega
    rw [List.take_append, List.take_of_length_le (by rw [hl1]; omega), hl1, List.take_take, List.drop_take, hadd]
    congr 2
    rw [Nat.min_eq_left (by omega)]
   rw [hcu]
   exact ((g7.take _).append (hn1.take _)).append (g7.drop _)
  ·intro c' hc'
   rw [cpy, List.append_assoc] at hc'
   rcases List.mem_append.1 hc' with h | h
   ·exact g8 _ (List.mem_of_mem_take h)
   ·rcases List.mem_append.1 h with h | h
    ·exact hkl _ h
    ·exact g8 _ (List.mem_of_mem_drop h)
end
section
variable {P : Program} {ρ : Env} {dst : Option Tmp} {ty : TypeId} {pos : String} {aft : Array Edge} {gd : Option (Nat × Bool)} {α : Type}
theorem loc_clearT (f : α → List V) {t e sz bytes k L o n : Nat} {x : Operand} {q all : List α} {zz : α} {cs : List V} (hT : elemT2 P t = some (e, sz, bytes)) (hz : zeroV P e = some cs) (hw : ∀ (Z : ZM) (l : List Value), RepL none Z cs l → RepL none Z (f zz) l) (hl2 : Nat.beq (f zz).length cs.length = true) (h1 : (f zz).all V.one = true)
  (hx : evV ρ x = .sl sz k L o n) (hL : q.length = L) (hon : o + n ≤ L) (hall : cpyT q o (List.replicate n zz) = all) :
  Loc P ⟨dst, .call ⟨.builtin .clear, #[x], #[t]⟩, ty, pos, aft, gd⟩ ρ [(k, .row e sz 0 (q.map f))] (.tup []) [(k, .row e sz 0 (all.map f))] := by
 intro ρr m Z w hops hs hnew
 rw [cpyT_eq (by rw [List.length_replicate]; omega)] at hall
 subst hall
 have hX := hops x (by simp [Op.operands, Call.operands])
 rw [hx] at hX
 obtain ⟨w', hr, hst⟩ := clear_run (P := P) (ty := ty) hT hz hw (Nat.eq_of_beq_eq_true hl2) h1 hs hX (by rw [List.length_map]; exact hL.symm) hon
 rw [← List.map_replicate, ← cpy_map] at hst
 exact ⟨rfl, .inl ⟨_, w', by simp [execOp, resolve, invoke, builtin, hr], m, Z, hst, [], rfl, rfl⟩⟩
end
end Go.EV
namespace Go.EV
open Go Go.RowKit Go.Eng
section
variable {m : M} {Z : ZM} {w : World}
theorem Step.trunc {k k' e sz n : Nat} {els : List (List V)} (hs : SimH m Z [(k, .row e sz 0 els)] w) (hfr : ∀ L, m k' L = none) (hne : k' ≠ k) (hn : n ≤ els.length) :
  ∃ m' : M, Step m Z [(k, .row e sz 0 els)] w m' Z [(k', .row e sz 0 (els.take n)), (k, .gen gone)] w ∧ m' k' n = m k els.length := by
 let m' : M := fun j L => if j = k' then (if L = n then m k els.length else none) else m j L
 have h1 : m' k' n = m k els.length := by simp [m']
 have h2 : ∀ L loc, m' k' L = some loc → L = n := fun L loc h => by
  by_cases e : L = n
  ·exact e
  ·simp [m', e] at h
 have h3 : ∀ j, j ≠ k' → m' j = m j := fun j hj => by funext L; simp [m', hj]
 have hlt : (els.take n).length = n := by rw [List.length_take]; omega
 have hb : ∀ b, blk m' (k', .row e sz 0 (els.take n)) b → blk m (k, .row e sz 0 els) b := fun b hb => by
  simp only [blk, blk1, Obj.ver, hlt, h1] at hb
  simp only [blk, blk1, Obj.ver]
  exact hb
 refine ⟨m', ⟨⟨hs.frozen, fun p hp => ?_, ?_, fun p hp q hq b h4 h5 => ?_⟩, fun j L loc h => ?_, fun _ _ h => h, rfl, rfl, rfl, Nat.le_refl _, fun _ _ _ => rfl, fun j hj => ?_, fun j hj => ?_, fun p hp b h4 => ?_, fun _ _ h => .inl h⟩, h1⟩
 ·rcases List.mem_cons.1 hp with rfl | hp
  ·have hh := hs.holds _ (List.mem_singleton.2 rfl)
   rcases hh with ⟨g0, g1, g2, ⟨b, g3⟩, g4⟩ | ⟨b, cap, cur, fr, g1, g0, g2, g3, g4, g5, g6, g7, g8, g9, g10, g11, g12, g13⟩
   ·subst g1
    have hn0 : n = 0 := by simpa using hn
    subst hn0
    have g3 : m k 0 = some (b, 0) := g3
    exact .inl ⟨g0, rfl, rfl, ⟨b, h1.trans g3⟩, fun L loc h => by rw [h2 L loc h]; exact Nat.le_refl _⟩
   ·refine .inr ⟨b, cap, cur, fr, by rw [hlt]; exact h1.trans g1, g0, g2, by rw [hlt]; omega, g4, g5, g6, ?_, fun x hx => g8 x (List.mem_of_mem_take hx), g9, Nat.zero_le _, g11, fun L loc h => by rw [hlt, h2 L loc h]; exact Nat.le_refl _, g13⟩
    rw [hlt, flatten_take g8]
    have : n * sz ≤ els.length * sz := Nat.mul_le_mul_right _ hn
    have h := g7.take (n * sz)
    rw [List.take_take, Nat.min_eq_left this] at h
    exact h
  ·rw [List.mem_singleton.1 hp]; exact trivial
 ·simp [keys, hne]
 ·rcases List.mem_cons.1 hp with rfl | hp <;> rcases List.mem_cons.1 hq with rfl | hq
  ·rfl
  ·rw [List.mem_singleton.1 hq] at h5; exact h5.elim
  ·rw [List.mem_singleton.1 hp] at h4; exact h4.elim
  ·rw [List.mem_singleton.1 hp, List.mem_singleton.1 hq]
 ·by_cases e : j = k'
  ·subst e; rw [hfr L] at h; cases h
  ·rw [h3 j e]; exact h
 ·simp only [keys, List.map_cons, List.map_nil, List.mem_cons, List.not_mem_nil, or_false] at hj ⊢
  exact .inr hj
 ·exact h3 j fun e => hj (by subst e; simp [keys])
 ·rcases List.mem_cons.1 hp with rfl | hp
  ·exact .inr ⟨_, List.mem_singleton.2 rfl, hb b h4⟩
  ·rw [List.mem_singleton.1 hp] at h4; exact h4.elim
end
section
variable {K0 : List Nat} {ρ : Env} {H : Heap}
theorem cut_trunc (t k k' : Nat) {e sz L n : Nat} {els : List (List V)} (hF : selH [k] H = some [(k, .row e sz 0 els)]) (hk : hasKey k' H = false) (ht : ρ.get t = .sl sz k L 0 n) (hL : L = els.length) (hn : n ≤ L) {els' : List (List V)} (he : els.take n = els') {n' : Nat} (hn' : n = n') {H1 : Heap} (hH1 : [(k', .row e sz 0 els'), (k, .gen gone)] ++ remH [k] H = H1) :
  Cut K0 ρ H ((t, .sl sz k' n' 0 n') :: ρ) H1 := fun c ρr w S => by
 subst hn'; subst hH1; subst he; subst hL
 have hk' : k' ∉ keys H := fun h => by rw [hasKey_iff.2 h] at hk; cases hk
 have hkH : k ∈ keys H := by
  obtain ⟨h1, h2⟩ := selH_mem hF
  exact mem_keys (h2 _ (List.mem_singleton.2 rfl))
 have hne : k' ≠ k := fun e => hk' (e ▸ hkH)
 refine SimA.step (by simp [nodupB]) hF (List.all_eq_true.2 fun p hp => ?_) (fun m Z hs hnew hR => ?_) S
 ·rcases List.mem_cons.1 hp with rfl | hp
  ·simp [hk']
  ·rw [List.mem_singleton.1 hp]; simp
 ·obtain ⟨m', st, h1⟩ := Step.trunc (n := n) hs (fun L => hnew k' (by simp [keys]) (by simp [keys, hne]) L) hne hn
  refine ⟨m', Z, st, fun u => ?_⟩
  have hup : ∀ f, some m = some f → ∃ f', some m' = some f' ∧ ∀ k L loc, f k L = some loc → f' k L = some loc := fun f e => by cases e; exact ⟨m', rfl, st.mext⟩
  show Rep (some m') Z (bif Nat.beq u t then _ else ρ.get u) (ρr u)
  cases hb : Nat.beq u t with
  | true =>
   have hut := Nat.eq_of_beq_eq_true hb
   subst hut
   have hR := hR u
   rw [ht] at hR
   obtain ⟨f, loc, e1, e2, e3, e4, e5⟩ := hR
   cases e1
   exact ⟨m', loc, rfl, h1.trans e2, e3, e4, e5⟩
  | false => exact (hR u).up (fun _ _ e => e) hup
end
end Go.EV
namespace Go.EV
open Go Go.RowKit Go.Eng
def sortI (l : List Int) : List Int := l.mergeSort fun x y => decide (x ≤ y)
def sortS (l : List (List UInt8)) : List (List UInt8) := l.mergeSort fun x y => decide (x ≤ y)
end Go.EV
