/- The library's contracts as contracts of the engine. -/
import Derived.Test.YtoflckochjijcaaGreatDoorEvThree
import Derived.Test.YtoflckochjijcaaGreatDoorTryzShelf
set_option linter.all false
set_option maxRecDepth 100000
namespace Go.Proofs.YtoflckochjijcaaGreatDoor
open Go Go.RowKit Go.Eng Go.EV
def gl0 (ob : Go.Obj) : EV.Obj := .glob 3 ob (Lib.pow10Tab.map (V.int .u64))
def gl1 (ob : Go.Obj) (u : TypeId) : EV.Obj := .glob 1 ob [.ifc u .undef]
def gl2 (ob : Go.Obj) (u : TypeId) : EV.Obj := .glob 2 ob [.ifc u .undef]
def gl (ob0 ob1 ob2 : Go.Obj) (u1 u2 : TypeId) : Heap := [(900000000, gl0 ob0), (900000001, gl1 ob1 u1), (900000002, gl2 ob2 u2)]
variable {ob0 ob1 ob2 : Go.Obj} {u1 u2 : TypeId}
def optE {α β : Type} (o : Option α) (b : β) (f : α → β) : β := match o with | none => b | some a => f a
def atoiV (s : List UInt8) : Option Int := match Lib.atoiAll s with | .ok v => some v | _ => none
def atoiE (s : List UInt8) : Int := match Lib.atoiAll s with | .range => Lib.atoiSat s | _ => 0
def s_itoa (n : Int) : Option (List UInt8) := (grd (-9223372036854775808 ≤ n ∧ n ≤ 9223372036854775807)).bind fun _ => some (Lib.itoa n)
def s_indexByte (s : List UInt8) (c : Int) : Option Int := some (Lib.indexByte s c.toNat.toUInt8)
theorem glB : globB (gl ob0 ob1 ob2 u1 u2) = true := by rfl
theorem repStr {m : Option M} {Z : ZM} {s : List UInt8} {vals : List Value} (h : RepL m Z [.str s] vals) : vals = [.string ⟨s.toArray⟩] := by
 obtain ⟨x, xs, rfl, h1, h2⟩ := h
 cases h2; cases h1; rfl
theorem below_grow (w : World) (k : Nat) (os : Array Go.Obj) : Below w.heap.size w (Sort.grow (w.drewN k) os) :=
 ⟨rfl, rfl, rfl, by show w.heap.size ≤ (w.heap ++ os).size; simp, fun j hj => by
  show (w.heap ++ os)[j]? = _
  rw [Array.getElem?_append_left hj]⟩
theorem w_itoa (n : Int) (r : List UInt8) (hs : s_itoa n = some r) : FnA Tryz.prog 79 [.int .i64 n] (gl ob0 ob1 ob2 u1 u2) (.str r) (gl ob0 ob1 ob2 u1 u2) := by
 unfold s_itoa at hs
 obtain ⟨_, h, hs⟩ := bind_some hs
 obtain ⟨h0, h1⟩ := grd_some h
 obtain rfl := Option.some.inj hs
 refine fnA_glob glB rfl fun w Z vals hf hg hv => ?_
 obtain ⟨x, xs, rfl, e1, e2⟩ := hv
 cases e2; cases e1
 obtain ⟨cur, u, fr, g1, g2⟩ := hg _ (List.mem_cons_self ..) 3 _ _ rfl
 have hc : cur.toList = Lib.pow10Tab.map (Value.int .u64) := repL_map (enc := V.int .u64) (f := Value.int .u64) (fun a x h => h) g2
 have htab : Lib.TabIs Tryz.prog w "internal/strconv.uint64pow10" .u64 Lib.pow10Tab := by
  unfold Lib.TabIs World.var?
  rw [show Tryz.prog.globalNamed "internal/strconv.uint64pow10" = some 3 by kernel_rfl]
  simp only [Option.bind_some, g1]
  rw [← hc]
 refine Calls.mono (Tryz.strconv_Itoa n h0 h1 w htab) ?_
 rintro e w' ⟨rfl, k, os, rfl⟩
 exact ⟨_, rfl, fun _ => rfl, below_grow w k os⟩
theorem w_indexByte (s : List UInt8) (c : Int) (r : Int) (hs : s_indexByte s c = some r) : FnA Tryz.prog 85 [.str s, .int .u8 c] [] (.int .i64 r) [] := by
 obtain rfl := Option.some.inj hs
 refine fnA_glob rfl rfl fun w Z vals hf hg hv => ?_
 obtain ⟨x, xs, rfl, e1, x2, xs2, rfl, e2, e3⟩ := hv
 cases e3; cases e1; cases e2
 refine Calls.mono (Tryz.strings_IndexByte ⟨s.toArray⟩ c w) ?_
 rintro e w' ⟨rfl, rfl⟩
 exact ⟨_, rfl, fun _ => rfl, Below.refl _ _⟩
theorem below_bytes (w : World) (t : ByteArray) (e : TypeId) : Below w.heap.size w (Lib.bytesWorld w e t) := by
 unfold Lib.bytesWorld
 exact Lib.below_freeze ((Below.drew (Below.refl _ _)).alloc (Nat.le_refl _) _) (Nat.le_refl _) _
theorem w_atoi_ok (s : List UInt8) (v : Int) (hs : atoiV s = some v) (hl : s.length ≤ 281474976710656) : FnA Tryz.prog 86 [.str s] (gl ob0 ob1 ob2 u1 u2) (.tup [.int .i64 v, .nili]) (gl ob0 ob1 ob2 u1 u2) := by
 have h : Lib.atoiAll s = .ok v := by
  unfold atoiV at hs
  split at hs
  ·cases hs; assumption
  ·cases hs
 refine fnA_glob glB rfl fun w Z vals hf hg hv => ?_
 rw [repStr hv]
 refine Calls.mono (Tryz.strconv_Atoi_ok ⟨s.toArray⟩ (by show s.toArray.size ≤ _; simp; omega) v h w) ?_
 rintro e w' ⟨rfl, h | ⟨t, h⟩⟩
 ·subst h; exact ⟨_, rfl, fun _ => ⟨_, rfl, _, _, rfl, rfl, _, _, rfl, rfl, rfl⟩, Below.refl _ _⟩
 ·subst h; exact ⟨_, rfl, fun _ => ⟨_, rfl, _, _, rfl, rfl, _, _, rfl, rfl, rfl⟩, below_bytes ..⟩
theorem w_atoi_no (s : List UInt8) (hs : atoiV s = none) (hl : s.length ≤ 281474976710656) : FnA Tryz.prog 86 [.str s] (gl ob0 ob1 ob2 u1 u2) (.tup [.int .i64 (atoiE s), .ifc 124 .undef]) (gl ob0 ob1 ob2 u1 u2) := by
 refine fnA_glob glB rfl fun w Z vals hf hg hv => ?_
 rw [repStr hv]
 have hcell : ∀ (g : Nat) (cur : Array Value) (u u' : TypeId) (fr : Nat × Nat), w.heap[g]? = some (.cells cur u fr) → RepL none Z [.ifc u' .undef] cur.toList → ∃ ev, w.cell? ⟨g, 0, none⟩ = some ev ∧ (ev = .nilIface ∨ ∃ te pe, ev = .iface te pe) := fun g cur u u' fr h1 h2 => by
  obtain ⟨x, xs, e1, ⟨y, e2, _⟩, e3⟩ := h2
  refine ⟨x, ?_, .inr ⟨_, _, e2⟩⟩
  rw [cell_of_row w g 0 cur u fr h1]
  have : cur[0]? = cur.toList[0]? := by simp
  rw [this, e1]; rfl
 have hsz : (⟨s.toArray⟩ : ByteArray).size ≤ 281474976710656 := by show s.toArray.size ≤ _; simpa using hl
 rcases h : Lib.atoiAll s with v | _ | _
 ·unfold atoiV at hs; rw [h] at hs; cases hs
 ·obtain ⟨cur, u, fr, g1, g2⟩ := hg _ (List.mem_cons_of_mem _ (List.mem_cons_self ..)) 1 _ _ rfl
  obtain ⟨ev, h1, h2⟩ := hcell 1 cur u _ fr g1 g2
  refine Calls.mono (Any.strconv_Atoi_syntax Tryz.laysC172 ⟨s.toArray⟩ hsz h ev w h1 h2) ?_
  rintro e w' ⟨N, rfl, _, _, hb⟩
  exact ⟨_, rfl, fun _ => ⟨_, rfl, _, _, rfl, by show _ = _; rw [show atoiE s = 0 by unfold atoiE; rw [h]], _, _, rfl, ⟨_, rfl, trivial⟩, rfl⟩, hb⟩
 ·obtain ⟨cur, u, fr, g1, g2⟩ := hg _ (List.mem_cons_of_mem _ (List.mem_cons_of_mem _ (List.mem_cons_self ..))) 2 _ _ rfl
  obtain ⟨ev, h1, h2⟩ := hcell 2 cur u _ fr g1 g2
  refine Calls.mono (Tryz.strconv_Atoi_range ⟨s.toArray⟩ hsz h ev w h1 h2) ?_
  rintro e w' ⟨N, rfl, _, _, hb⟩
  exact ⟨_, rfl, fun _ => ⟨_, rfl, _, _, rfl, by show _ = _; rw [show atoiE s = Lib.atoiSat s by unfold atoiE; rw [h]], _, _, rfl, ⟨_, rfl, trivial⟩, rfl⟩, hb⟩
end Go.Proofs.YtoflckochjijcaaGreatDoor
