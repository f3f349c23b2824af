/- Operations that ask for something: places, parts, sums of strings. -/
import Derived.Test.YtoflckochjijcaaGreatDoorEvOne
import Derived.Test.YtoflckochjijcaaGreatDoorEng
import Derived.Sort.Row
import Derived.Sort.Grow
import Derived.Lib.SlicesCompact
import Derived.Laws.BytesArg
import Derived.Lib.FrozenHead
import Derived.Lib.AppendStr
import Derived.Lib.Builder
import Derived.Lib.UnsafeStr
import Derived.Laws.Externs
import Derived.ProofKit
import Derived.Deep.Slices
import Derived.Deep.Fields
import Derived.ChangeSame
import Derived.LaidMore
import Derived.OpenShut
import Derived.Lib.SmallJoins
set_option linter.all false
namespace Go.EV
open Go Go.RowKit Go.Eng

section
variable {P : Program} {ρ : Env} {dst : Option Tmp} {ty : TypeId} {pos : String} {aft : Array Edge} {gd : Option (Nat × Bool)}
def strT (P : Program) (t : Nat) : Bool := match P.underlying t with | some .string => true | _ => false
theorem strT_of {t : Nat} (h : strT P t = true) : P.underlying t = some .string := by
 unfold strT at h
 split at h
 ·assumption
 ·cases h
theorem loc_indexStr {t : TypeId} {x ix : Operand} {k : IntKind} {i : Int} {l : List UInt8} (ht : strT P t = true) (hx : evV ρ x = .str l) (hi : evV ρ ix = .int k i) (h0 : 0 ≤ i) (h1 : i < l.length) :
  Loc P ⟨dst, .index t x ix, ty, pos, aft, gd⟩ ρ [] (.int .u8 ((l.getD i.toNat 0).toNat)) [] := by
 intro ρr m Z w hops hs _
 have hX := hops x (by simp [Op.operands])
 have hI := hops ix (by simp [Op.operands])
 rw [hx] at hX; rw [hi] at hI
 have hX : ev ρr x = .string ⟨l.toArray⟩ := hX
 have hI : ev ρr ix = .int k i := hI
 have hlt : i.toNat < l.length := by omega
 have hg : (⟨l.toArray⟩ : ByteArray)[i.toNat]? = some (l.getD i.toNat 0) := by
  have hsz : (⟨l.toArray⟩ : ByteArray).size = l.length := by show l.toArray.size = _; simp
  rw [getElem?_pos _ _ (by rw [hsz]; exact hlt)]
  congr 1
  show l.toArray[i.toNat] = _
  simp [List.getD_eq_getElem?_getD, List.getElem?_eq_getElem hlt]
 refine ⟨rfl, .inl ⟨_, w, ?_, m, Z, Step.refl hs, rfl⟩⟩
 simp [execOp, Instr.index, asIntOf, hX, hI, run_underlying (strT_of ht), h0, hg]
theorem loc_indexVs {t e sz : Nat} {x ix : Operand} {k : IntKind} {i : Int} {els : List (List V)} {cs : List V} (ht : elemT P t = some (e, sz)) (hx : evV ρ x = .vs sz els) (hi : evV ρ ix = .int k i) (h0 : 0 ≤ i) (hc : els[i.toNat]? = some cs) :
  Loc P ⟨dst, .indexAddr t x ix, ty, pos, aft, gd⟩ ρ [] (.vp cs 0) [] := by
 intro ρr m Z w hops hs _
 have hX := hops x (by simp [Op.operands])
 have hI := hops ix (by simp [Op.operands])
 rw [hx] at hX; rw [hi] at hI
 have hI : ev ρr ix = .int k i := hI
 obtain ⟨A, c, h1, h2, h3, h4⟩ := hX
 have hlt := (List.getElem?_eq_some_iff.1 hc).1
 rcases h4 with h4 | ⟨a, rfl, h5⟩
 ·subst h4; simp at hlt
 have h6 := (h5.get hc).2
 rw [Nat.zero_add] at h6
 unfold elemT at ht
 split at ht
 ·rename_i e' hu
  split at ht
  ·rename_i ii hii
   split at ht
   ·simp only [Option.some.injEq, Prod.mk.injEq] at ht
    obtain ⟨rfl, hsz⟩ := ht
    refine ⟨rfl, .inl ⟨.pointer (some (a.add (i.toNat * sz))), w, ?_, m, Z, Step.refl hs, a.add (i.toNat * sz), by rw [Addr.add_zero'], h6⟩⟩
    have h7 : ¬ ((els.length : Int) ≤ i) := by omega
    simp [execOp, Instr.indexAt, run_underlying hu, asIntOf, h1, hI, sizeOf, typeInfo, hii, hsz, h0, h7]
   ·cases ht
  ·cases ht
 ·cases ht
theorem loc_indexRow {t e sz kk L o n : Nat} {x ix : Operand} {k : IntKind} {i : Int} (ht : elemT P t = some (e, sz)) (hx : evV ρ x = .sl sz kk L o n) (hi : evV ρ ix = .int k i) (h0 : 0 ≤ i) (h1 : i < n) :
  Loc P ⟨dst, .indexAddr t x ix, ty, pos, aft, gd⟩ ρ [] (.ptr kk L (o * sz + i.toNat * sz)) [] := by
 intro ρr m Z w hops hs _
 have hX := hops x (by simp [Op.operands])
 have hI := hops ix (by simp [Op.operands])
 rw [hx] at hX; rw [hi] at hI
 have hI : ev ρr ix = .int k i := hI
 obtain ⟨f, loc, e1, e2, e3, e4, e5⟩ := hX
 cases e1
 have e5 : ev ρr x = .slice (some ⟨loc.1, o * sz, none⟩) n (loc.2 - o) := by
  rcases e5 with e5 | ⟨e5, _⟩ | ⟨_, e5, _⟩
  ·exact e5
  ·omega
  ·omega
 unfold elemT at ht
 split at ht
 ·rename_i e' hu
  split at ht
  ·rename_i ii hii
   split at ht
   ·simp only [Option.some.injEq, Prod.mk.injEq] at ht
    obtain ⟨rfl, hsz⟩ := ht
    refine ⟨rfl, .inl ⟨.pointer (some ⟨loc.1, o * sz + i.toNat * sz, none⟩), w, ?_, m, Z, Step.refl hs, m, loc, rfl, e2, rfl⟩⟩
    have h7 : ¬ ((n : Int) ≤ i) := by omega
    simp [execOp, Instr.indexAt, run_underlying hu, asIntOf, e5, hI, sizeOf, typeInfo, hii, hsz, h0, h7, Addr.add_lit]
   ·cases ht
  ·cases ht
 ·cases ht
theorem row_cells {m : M} {Z : ZM} {w : World} {k t sz fz : Nat} {els : List (List V)} {i : Nat} {cs : List V} (h : Holds m Z w k (.row t sz fz els)) (hc : els[i]? = some cs) :
  ∃ b cap cur fr, m k els.length = some (b, cap) ∧ w.heap[b]? = some (.cells cur t fr) ∧ ∀ j v, cs[j]? = some v → ∃ x, cur[i * sz + j]? = some x ∧ Rep none Z v x := by
 have hlt := (List.getElem?_eq_some_iff.1 hc).1
 rcases h with ⟨_, rfl, _⟩ | ⟨b, cap, cur, fr, g1, g0, g2, g3, g4, g5, g6, g7, g8, g9, g10, g11, g12, g13⟩
 ·simp at hlt
 refine ⟨b, cap, cur, fr, g1, g2, fun j v hj => ?_⟩
 obtain ⟨x, h1, h2⟩ := g7.get (flatten_getV g8 hc hj)
 rw [List.getElem?_take] at h1
 split at h1
 ·exact ⟨x, by simpa using h1, h2⟩
 ·cases h1
theorem loc_loadRow {t et sz fz k L off : Nat} {a : Operand} {els : List (List V)} {cs : List V} {v : V} (i j : Nat) (ha : evV ρ a = .ptr k L off) (hL : L = els.length) (hoff : off = i * sz + j) (hc : els[i]? = some cs) (hv : atV P t cs j = some v) :
  Loc P ⟨dst, .load t a, ty, pos, aft, gd⟩ ρ [(k, .row et sz fz els)] v [(k, .row et sz fz els)] := by
 intro ρr m Z w hops hs _
 have hX := hops a (by simp [Op.operands])
 rw [ha] at hX
 subst hL; subst hoff
 obtain ⟨f, loc, e1, e2, e3⟩ := hX
 cases e1
 obtain ⟨b, cap, cur, fr, g1, g2, g3⟩ := row_cells (hs.holds _ (List.mem_singleton.2 rfl)) hc
 have g1 : m k els.length = some (b, cap) := g1
 rw [g1] at e2; cases e2
 have hcell : ∀ q, w.cell? ⟨b, q, none⟩ = cur[q]? := fun q => cell_of_row w b q cur et fr g2
 refine ⟨rfl, .inl ?_⟩
 unfold atV at hv
 split at hv
 ·rename_i hsh
  split at hv
  ·rename_i v' hv'
   split at hv
   ·cases hv
    obtain ⟨u, h4, h5⟩ := g3 _ _ hv'
    exact ⟨u, w, run_load_scal (shape_scal hsh) e3 (by rw [hcell]; exact h4), m, Z, Step.refl hs, h5.none_some⟩
   ·cases hv
  ·cases hv
 ·rename_i n hsh
  split at hv
  ·rename_i hk
   have hk := Nat.le_of_ble_eq_true hk
   cases hv
   let us : List Value := (List.range n).map fun q => (cur[i * sz + (j + q)]?).getD Go.undef
   have hex : ∀ q, q < n → ∃ u v, cs[j + q]? = some v ∧ cur[i * sz + (j + q)]? = some u ∧ Rep none Z v u := fun q hq => by
    have hcq : cs[j + q]? = some (cs[j + q]'(by omega)) := List.getElem?_eq_getElem (by omega)
    obtain ⟨u, h1, h2⟩ := g3 _ _ hcq
    exact ⟨u, _, hcq, h1, h2⟩
   have hget : ∀ q, q < n → us[q]? = cur[i * sz + (j + q)]? := fun q hq => by
    obtain ⟨u, v, _, h2, _⟩ := hex q hq
    simp only [us, List.getElem?_map, List.getElem?_range hq, Option.map_some, h2, Option.getD_some]
   refine ⟨.agg us.toArray, w, run_load_agg us (shape_agg hsh) e3 (by simp [us]) fun q u hq => ?_, m, Z, Step.refl hs, us, rfl, ?_⟩
   ·have hqn : q < n := by have := (List.getElem?_eq_some_iff.1 hq).1; simpa [us] using this
    rw [Addr.add_lit, hcell, Nat.add_assoc, ← hget q hqn]; exact hq
   ·refine RepL.of_get (by simp [us]; omega) fun q v u hv hu => ?_
    have hqn : q < n := by have := (List.getElem?_eq_some_iff.1 hu).1; simpa [us] using this
    rw [List.getElem?_take, if_pos hqn, List.getElem?_drop] at hv
    obtain ⟨u', v', h1, h2, h3⟩ := hex q hqn
    rw [hv] at h1; cases h1
    rw [hget q hqn, h2] at hu; cases hu
    exact h3.none_some
  ·cases hv
 ·cases hv
theorem flattenV_set {α : Type} {k off : Nat} {us : List α} : ∀ (xs : List (List α)), (∀ x ∈ xs, x.length = k) → ∀ (i : Nat) (x : List α), xs[i]? = some x → off + us.length ≤ k →
  (xs.set i (x.take off ++ us ++ x.drop (off + us.length))).flatten = xs.flatten.take (i * k + off) ++ us ++ xs.flatten.drop (i * k + off + us.length)
 | [], _, i, x, h, _ => by simp at h
 | y :: xs, hk, 0, x, h, hf => by
  have hy := hk y (List.mem_cons_self ..)
  simp only [List.getElem?_cons_zero, Option.some.injEq] at h
  subst h
  rw [List.set_cons_zero, List.flatten_cons, List.flatten_cons, Nat.zero_mul, Nat.zero_add, List.take_append_of_le_length (by omega), List.drop_append_of_le_length (by omega)]
  simp [List.append_assoc]
 | y :: xs, hk, i + 1, x, h, hf => by
  have hy := hk y (List.mem_cons_self ..)
  have ih := flattenV_set (us := us) (off := off) xs (fun z hz => hk z (List.mem_cons_of_mem _ hz)) i x (by simpa using h) hf
  rw [List.set_cons_succ, List.flatten_cons, List.flatten_cons, ih, show (i + 1) * k + off = y.length + (i * k + off) by rw [hy, Nat.succ_mul]; omega, List.take_length_add_append, Nat.add_assoc, List.drop_append]
  rw [List.drop_of_length_le (by omega : y.length ≤ y.length + (i * k + off) + us.length), show y.length + (i * k + off) + us.length - y.length = i * k + (off + us.length) by omega]
  simp [List.append_assoc]
theorem take_patch {α : Type} (c us : List α) (p n : Nat) (h : p + us.length ≤ n) (hn : n ≤ c.length) : (c.take p ++ us ++ c.drop (p + us.length)).take n = (c.take n).take p ++ us ++ (c.take n).drop (p + us.length) := by
 have hA : (c.take p ++ us).length = p + us.length := by simp only [List.length_append, List.length_take]; omega
 have e : n = (c.take p ++ us).length + (n - (p + us.length)) := by omega
 have e1 : (c.take n).take p = c.take p := by rw [List.take_take, Nat.min_eq_left (by omega)]
 rw [e1, List.drop_take]
 conv => lhs; rw [e]
 rw [List.take_length_add_append]
theorem loc_storeRow {t et sz fz k L off : Nat} {a x : Operand} {els : List (List V)} {cs : List V} (i j : Nat) (ha : evV ρ a = .ptr k L off) (hL : L = els.length) (hoff : off = i * sz + j) (hc : els[i]? = some cs) (hfz : fz ≤ i)
  (hp : (evV ρ x).plain = true) (h1 : (evV ρ x).cells.all V.one = true) (hrf : (evV ρ x).refs = []) (hsz : sizeOfT P t (evV ρ x).cells.length = true) (hfit : j + (evV ρ x).cells.length ≤ sz) :
  Loc P ⟨dst, .store t a x, ty, pos, aft, gd⟩ ρ [(k, .row et sz fz els)] .no [(k, .row et sz fz (els.set i (cs.take j ++ (evV ρ x).cells ++ cs.drop (j + (evV ρ x).cells.length))))] := by
 intro ρr m Z w hops hs _
 have hX := hops a (by simp [Op.operands])
 rw [ha] at hX
 subst hL; subst hoff
 obtain ⟨f, loc, e1, e2, e3⟩ := hX
 cases e1
 have hlt := (List.getElem?_eq_some_iff.1 hc).1
 rcases hs.holds _ (List.mem_singleton.2 rfl) with ⟨_, g1, _⟩ | ⟨b, cap, cur, fr, g1, g0, g2, g3, g4, g5, g6, g7, g8, g9, g10, g11, g12, g13⟩
 ·subst g1; simp at hlt
 have g1 : m k els.length = some (b, cap) := g1
 rw [g1] at e2; cases e2
 have hv0 := (hops x (by simp [Op.operands])).cells hp
 have hv : RepL none Z (evV ρ x).cells (ev ρr x).cells.toList := by
  refine RepL.flat _ _ ?_ hv0
  cases hxv : evV ρ x <;> rw [hxv] at hrf <;> simp only [V.cells, refsL, List.append_nil] <;> exact hrf
 have hlv := hv.length
 have hones := ones_of hv h1
 have hcs := g8 cs (List.mem_of_getElem? hc)
 have hle : i * sz + sz ≤ els.length * sz := by
  have : (i + 1) * sz ≤ els.length * sz := Nat.mul_le_mul_right sz hlt
  rwa [Nat.succ_mul] at this
 have hle2 : els.length * sz ≤ cap * sz := Nat.mul_le_mul_right sz g3
 have hfl : fz * sz ≤ i * sz := Nat.mul_le_mul_right sz hfz
 have hcl : cur.toList.length = cap * sz := by simpa using g5
 unfold sizeOfT at hsz
 split at hsz
 ·rename_i ii hi
  have hik := Nat.eq_of_beq_eq_true hsz
  have hst := run_storeCells_atG P b (i * sz + j) et fr (ev ρr x).cells.toList 0 cur w g2 (by omega) (by omega) hones
  simp only [Nat.add_zero] at hst
  have hsz2 : (ev ρr x).cells.size = ii.size := by simp at hlv; omega
  have hnewb := setRow_heap w b cur (cur.toList.take (i * sz + j) ++ (ev ρr x).cells.toList ++ cur.toList.drop (i * sz + j + (ev ρr x).cells.toList.length)).toArray et fr g2
  have hlen : (els.set i (cs.take j ++ (evV ρ x).cells ++ cs.drop (j + (evV ρ x).cells.length))).length = els.length := by simp
  have hc0 : cap ≠ 0 := by omega
  refine ⟨rfl, .inr (.inl ⟨w.setRow b (cur.toList.take (i * sz + j) ++ (ev ρr x).cells.toList ++ cur.toList.drop (i * sz + j + (ev ρr x).cells.toList.length)).toArray, ?_, m, Z, ?_, rfl⟩)⟩
  ·simp [execOp, Instr.storeAt, e3, Instr.sureAddr, storeVar, sizeOf, typeInfo, hi, hsz2, hst]
  ·have hsame : ∀ off, off < i * sz + j → (cur.toList.take (i * sz + j) ++ (ev ρr x).cells.toList ++ cur.toList.drop (i * sz + j + (ev ρr x).cells.toList.length)).toArray[off]? = cur[off]? := fun off ho => by
    simp only [List.getElem?_toArray, List.append_assoc]
    rw [List.getElem?_append_left (by simp only [List.length_take]; omega), List.getElem?_take, if_pos ho]; simp
   refine Step.write (b := b) hs (by simp [blk, blk1, Obj.ver, g1, hc0]) (blk_ver (by simp [Obj.ver]) rfl rfl) rfl rfl rfl (by simp) (fun q hq => setRow_other w b q _ hq) (fun aa y ha' e => ?_) ?_
   ·have hl := g11 aa y ha' e
    have hc' := hs.frozen aa y ha'
    obtain ⟨bb, off, sp⟩ := aa
    simp only at e hl
    subst e
    have hsp : sp = none := by
     simp only [World.cell?, g2] at hc'
     cases sp with
     | none => rfl
     | some _ => simp at hc'
    subst hsp
    rw [cell_of_row w bb off cur et fr g2] at hc'
    rw [cell_of_row _ bb off _ et fr hnewb, hsame off (by omega)]; exact hc'
   ·refine .inr ⟨b, cap, _, fr, by rw [hlen]; exact g1, g0, hnewb, by rw [hlen]; exact g3, g4, ?_, g6, ?_, ?_, g9, by rw [hlen]; exact g10, g11, by rw [hlen]; exact g12, fun off y ho hy => ?_⟩
    ·simp only [List.size_toArray, List.length_append, List.length_take, List.length_drop]; have : cur.size = cur.toList.length := by simp
     omega
    ·rw [hlen, flattenV_set els g8 i cs hc (by omega)]
     simp only []
     rw [take_patch _ _ _ _ (by omega) (by omega)]
     have := patch_rep (off := i * sz + j) g7 hv
     exact this
    ·intro c hcc
     rcases List.mem_or_eq_of_mem_set hcc with hcc | rfl
     ·exact g8 c hcc
     ·simp only [List.length_append, List.length_take, List.length_drop]; omega
    ·rw [hsame off (by omega)] at hy
     exact g13 off y ho hy
 ·cases hsz
end
end Go.EV
namespace Go.EV
open Go Go.RowKit Go.Eng

def bndV (ρ : Env) : Option Operand → Int → Int → Prop
 | none, d, i => i = d
 | some x, _, i => ∃ k, evV ρ x = .int k i
section
variable {P : Program} {ρ : Env} {dst : Option Tmp} {ty : TypeId} {pos : String} {aft : Array Edge} {gd : Option (Nat × Bool)}
theorem bnd_rep {ρr : Slots} {m : Option M} {Z : ZM} {o : Option Operand} {d i : Int} (h : bndV ρ o d i) (hr : ∀ x ∈ o, Rep m Z (evV ρ x) (ev ρr x)) : (o = none ∧ i = d) ∨ ∃ x k, o = some x ∧ ev ρr x = .int k i := by
 cases o with
 | none => exact .inl ⟨rfl, h⟩
 | some x =>
  obtain ⟨k, hk⟩ := h
  have := hr x rfl
  rw [hk] at this
  exact .inr ⟨x, k, rfl, this⟩
theorem run_bounds {w : World} {ρr : Slots} {m : Option M} {Z : ZM} {lo hi : Option Operand} {l h : Int} {isS : Bool} {len cap : Nat} (hl : bndV ρ lo 0 l) (hh : bndV ρ hi len h) (hrl : ∀ x ∈ lo, Rep m Z (evV ρ x) (ev ρr x)) (hrh : ∀ x ∈ hi, Rep m Z (evV ρ x) (ev ρr x))
  (h0 : 0 ≤ l) (h1 : l ≤ h) (h2 : h ≤ len) (hc : len ≤ cap) : (Instr.sliceBounds isS len cap (lo.map (ev ρr)) (hi.map (ev ρr)) none).run P w = .ok (l.toNat, h.toNat, cap) w := by
 have h3 : h ≤ (cap : Int) := by omega
 have h4 : 0 ≤ h := by omega
 have h5 : ((h.toNat : Nat) : Int) = h := Int.toNat_of_nonneg h4
 rcases bnd_rep hl hrl with ⟨rfl, rfl⟩ | ⟨x, k, rfl, hx⟩ <;> rcases bnd_rep hh hrh with ⟨rfl, rfl⟩ | ⟨y, k', rfl, hy⟩
 ·simp [Instr.sliceBounds]
 ·simp [Instr.sliceBounds, Instr.sliceBound, asIntOf, hy, h4, h3]
 ·simp [Instr.sliceBounds, Instr.sliceBound, asIntOf, hx, h0, h1]
 ·simp [Instr.sliceBounds, Instr.sliceBound, asIntOf, hx, hy, h4, h3, h0, h5, h1]
theorem loc_sliceStr {t : TypeId} {x : Operand} {lo hi : Option Operand} {l h : Int} {s : List UInt8} (ht : strT P t = true) (hx : evV ρ x = .str s) (hl : bndV ρ lo 0 l) (hh : bndV ρ hi s.length h) (h0 : 0 ≤ l) (h1 : l ≤ h) (h2 : h ≤ s.length) :
  Loc P ⟨dst, .slice t x lo hi none, ty, pos, aft, gd⟩ ρ [] (.str ((s.take h.toNat).drop l.toNat)) [] := by
 intro ρr m Z w hops hs _
 have hX := hops x (by simp [Op.operands])
 rw [hx] at hX
 have hX : ev ρr x = .string ⟨s.toArray⟩ := hX
 have hsz : (⟨s.toArray⟩ : ByteArray).size = s.length := by show s.toArray.size = _; simp
 have hb := run_bounds (P := P) (w := w) (isS := false) (cap := s.length) hl hh (fun y hy => hops y (by simp [Op.operands]; right; left; simpa using hy)) (fun y hy => hops y (by simp [Op.operands]; right; right; simpa using hy)) h0 h1 h2 (Nat.le_refl _)
 refine ⟨rfl, .inl ⟨.string ((⟨s.toArray⟩ : ByteArray).extract l.toNat h.toNat), w, ?_, m, Z, Step.refl hs, ?_⟩⟩
 ·simp [execOp, Instr.sliceAt, Instr.slice, run_underlying (strT_of ht), hX, hsz, hb]
 ·show _ = _
  congr 1
  apply ByteArray.ext
  rw [ByteArray.data_extract]
  apply Array.ext'
  simp [List.extract_eq_drop_take, List.drop_take]
theorem loc_sliceVs {t e sz : Nat} {x : Operand} {lo hi : Option Operand} {l h : Int} {els : List (List V)} (ht : elemT P t = some (e, sz)) (hx : evV ρ x = .vs sz els) (hl : bndV ρ lo 0 l) (hh : bndV ρ hi els.length h) (h0 : 0 ≤ l) (h1 : l ≤ h) (h2 : h ≤ els.length) :
  Loc P ⟨dst, .slice t x lo hi none, ty, pos, aft, gd⟩ ρ [] (.vs sz ((els.take h.toNat).drop l.toNat)) [] := by
 intro ρr m Z w hops hs _
 have hX := hops x (by simp [Op.operands])
 rw [hx] at hX
 obtain ⟨A, c, g1, g2, g3, g4⟩ := hX
 have hb := run_bounds (P := P) (w := w) (isS := true) (cap := c) hl hh (fun y hy => hops y (by simp [Op.operands]; right; left; simpa using hy)) (fun y hy => hops y (by simp [Op.operands]; right; right; simpa using hy)) h0 h1 h2 g2
 unfold elemT at ht
 split at ht
 ·rename_i e' hu
  split at ht
  ·rename_i ii hii
   split at ht
   ·simp only [Option.some.injEq, Prod.mk.injEq] at ht
    obtain ⟨rfl, hsz⟩ := ht
    have hlen : ((els.take h.toNat).drop l.toNat).length = h.toNat - l.toNat := by simp; omega
    refine ⟨rfl, .inl ⟨.slice (if c = l.toNat then A else A.map (·.add (l.toNat * sz))) (h.toNat - l.toNat) (c - l.toNat), w, ?_, m, Z, Step.refl hs, (if c = l.toNat then A else A.map (·.add (l.toNat * sz))), c - l.toNat, by rw [hlen], by rw [hlen]; omega, by omega, ?_⟩⟩
    ·simp [execOp, Instr.sliceAt, Instr.slice, run_underlying hu, g1, hb, sizeOf, typeInfo, hii, hsz]
    ·by_cases he : (els.take h.toNat).drop l.toNat = []
     ·exact .inl he
     ·have hpos : 0 < h.toNat - l.toNat := by rw [← hlen]; exact List.length_pos_iff.2 he
      rcases g4 with g4 | ⟨a, rfl, g5⟩
      ·subst g4; simp at h2; omega
      ·refine .inr ⟨a.add (l.toNat * sz), by rw [if_neg (by omega)]; rfl, RepRows.of_get fun i cs hi => ?_⟩
       rw [List.getElem?_drop, List.getElem?_take] at hi
       split at hi
       ·have := g5.get hi
        refine ⟨this.1, ?_⟩
        have h6 := this.2
        rw [add_add', Nat.zero_add, ← Nat.add_mul]
        rwa [Nat.zero_add] at h6
       ·cases hi
   ·cases ht
  ·cases ht
 ·cases ht
theorem loc_sliceRow {t e sz k L o n : Nat} {x : Operand} {lo hi : Option Operand} {l h : Int} (ht : elemT P t = some (e, sz)) (hx : evV ρ x = .sl sz k L o n) (hl : bndV ρ lo 0 l) (hh : bndV ρ hi n h) (h0 : 0 ≤ l) (h1 : l ≤ h) (h2 : h ≤ n) :
  Loc P ⟨dst, .slice t x lo hi none, ty, pos, aft, gd⟩ ρ [] (.sl sz k L (o + l.toNat) (h.toNat - l.toNat)) [] := by
 intro ρr m Z w hops hs _
 have hX := hops x (by simp [Op.operands])
 rw [hx] at hX
 obtain ⟨f, loc, e1, e2, e3, e4, e5⟩ := hX
 cases e1
 have hbnd : ∀ c, n ≤ c → (Instr.sliceBounds true n c (lo.map (ev ρr)) (hi.map (ev ρr)) none).run P w = .ok (l.toNat, h.toNat, c) w := fun c hc =>
  run_bounds (P := P) (w := w) (isS := true) (cap := c) hl hh (fun y hy => hops y (by simp [Op.operands]; right; left; simpa using hy)) (fun y hy => hops y (by simp [Op.operands]; right; right; simpa using hy)) h0 h1 h2 hc
 unfold elemT at ht
 split at ht
 ·rename_i e' hu
  split at ht
  ·rename_i ii hii
   split at ht
   ·simp only [Option.some.injEq, Prod.mk.injEq] at ht
    obtain ⟨rfl, hsz⟩ := ht
    have run : ∀ A c, ev ρr x = .slice A n c → n ≤ c → (execOp (ev ρr) ⟨dst, .slice t x lo hi none, ty, pos, aft, gd⟩).run P w = .ok (.value (.slice (if c = l.toNat then A else A.map (·.add (l.toNat * sz))) (h.toNat - l.toNat) (c - l.toNat))) w := fun A c hv hc => by
     simp [execOp, Instr.sliceAt, Instr.slice, run_underlying hu, hv, hbnd c hc, sizeOf, typeInfo, hii, hsz]
    rcases e5 with e5 | ⟨e5, A, e6⟩ | ⟨e5, e6, A, c, e7, e8⟩
    ·refine ⟨rfl, .inl ⟨_, w, run _ _ e5 (by omega), m, Z, Step.refl hs, m, loc, rfl, e2, by omega, e4, ?_⟩⟩
     by_cases hc : loc.2 - o = l.toNat
     ·by_cases hl0 : l.toNat = 0
      ·rw [if_pos hc]
       by_cases ho : 0 < o
       ·exact .inr (.inr ⟨by omega, by omega, _, _, by rw [show h.toNat - l.toNat = 0 by omega], by omega⟩)
       ·refine .inl ?_
        rw [show o = 0 by omega]
        simp [hl0]
      ·rw [if_pos hc]
       exact .inr (.inr ⟨by omega, by omega, _, _, by rw [show h.toNat - l.toNat = 0 by omega], by omega⟩)
     ·rw [if_neg hc]
      refine .inl ?_
      simp only [Option.map_some, Addr.add_lit, Nat.add_mul]
      rw [Nat.sub_sub]
    ·have hn : n = 0 := by omega
     subst hn
     have hl0 : l.toNat = 0 := by omega
     have hh0 : h.toNat = 0 := by omega
     refine ⟨rfl, .inl ⟨_, w, run _ _ e6 (Nat.le_refl _), m, Z, Step.refl hs, m, loc, rfl, e2, by omega, e4, .inr (.inl ⟨e5, _, by rw [hl0, hh0]⟩)⟩⟩
    ·subst e6
     have hl0 : l.toNat = 0 := by omega
     have hh0 : h.toNat = 0 := by omega
     refine ⟨rfl, .inl ⟨_, w, run _ _ e7 (Nat.zero_le _), m, Z, Step.refl hs, m, loc, rfl, e2, by omega, e4, .inr (.inr ⟨by omega, by omega, _, _, by rw [hh0, hl0], by omega⟩)⟩⟩
   ·cases ht
  ·cases ht
 ·cases ht
theorem loc_concat {t t' : TypeId} {x y : Operand} {a b : List UInt8} (hx : evV ρ x = .str a) (hy : evV ρ y = .str b) (h : a.length + b.length ≤ 9223372036854775807) :
  Loc P ⟨dst, .binOp .add t x y t', ty, pos, aft, gd⟩ ρ [] (.str (a ++ b)) [] := by
 intro ρr m Z w hops hs _
 have hX := hops x (by simp [Op.operands])
 have hY := hops y (by simp [Op.operands])
 rw [hx] at hX; rw [hy] at hY
 have hX : ev ρr x = .string ⟨a.toArray⟩ := hX
 have hY : ev ρr y = .string ⟨b.toArray⟩ := hY
 have ha : (⟨a.toArray⟩ : ByteArray).size = a.length := by show a.toArray.size = _; simp
 have hb : (⟨b.toArray⟩ : ByteArray).size = b.length := by show b.toArray.size = _; simp
 have hm : ¬ (((a.length + b.length : Nat) : Int) > IntKind.i64.max) := by
  have : IntKind.i64.max = 9223372036854775807 := by decide
  omega
 refine ⟨rfl, .inl ⟨.string ((⟨a.toArray⟩ : ByteArray) ++ ⟨b.toArray⟩), w, ?_, m, Z, Step.refl hs, ?_⟩⟩
 ·simp only [execOp, hX, hY, eqGuard, binOp, Op.stringOp, ha, hb, if_neg hm]
  simp
 ·show _ = _
  congr 1
theorem loc_div {op : BinOp} {t t' : TypeId} {x y : Operand} {k : IntKind} {a b : Int} (hop : op = .quo ∨ op = .rem) (hx : evV ρ x = .int k a) (hy : evV ρ y = .int k b) (hb : b ≠ 0) :
  Loc P ⟨dst, .binOp op t x y t', ty, pos, aft, gd⟩ ρ [] (.int k (match op with | .quo => k.wrap (a.tdiv b) | _ => a.tmod b)) [] := by
 intro ρr m Z w hops hs _
 have hX := hops x (by simp [Op.operands])
 have hY := hops y (by simp [Op.operands])
 rw [hx] at hX; rw [hy] at hY
 rcases hop with rfl | rfl
 ·obtain ⟨u, h1, h2⟩ := run_intV (P := P) (w := w) (dst := dst) (ty := ty) (pos := pos) (aft := aft) (gd := gd) (t := t) (t' := t') (op := .quo) (m := some m) (Z := Z) (v := .int k (k.wrap (a.tdiv b))) hX hY (by simp) (by simp [intV, hb])
  exact ⟨rfl, .inl ⟨u, w, h1, m, Z, Step.refl hs, h2⟩⟩
 ·obtain ⟨u, h1, h2⟩ := run_intV (P := P) (w := w) (dst := dst) (ty := ty) (pos := pos) (aft := aft) (gd := gd) (t := t) (t' := t') (op := .rem) (m := some m) (Z := Z) (v := .int k (a.tmod b)) hX hY (by simp) (by simp [intV, hb])
  exact ⟨rfl, .inl ⟨u, w, h1, m, Z, Step.refl hs, h2⟩⟩
end

/- without doing anything -/
section
variable {K0 : List Nat} {c : Ctx K0} {P : Program} {r : Option Nat} {N : Nat} {Q : PostV} {ρ : Env} {H H' : Heap} {ds : List Deferred} {all l rest : List Oper} {x : Code}
theorem SimA.step {F F' : Heap} {ks : List Nat} {ρr : Slots} {w : World} {ρ' : Env} (hks : nodupB ks = true) (hF : selH ks H = some F) (hfr : freshB F' ks H = true)
  (h : ∀ m Z, SimH m Z F w → (∀ k ∈ keys F', k ∉ keys F → ∀ L, m k L = none) → RepS m Z ρ ρr → ∃ m' Z', Step m Z F w m' Z' F' w ∧ RepS m' Z' ρ' ρr) (S : SimA c ρ H ρr w) : SimA c ρ' (F' ++ remH ks H) ρr w := by
 obtain ⟨m, Z, S, hR⟩ := S
 have hp := split_perm S.step.sim.nodup (nodup_of hks) hF
 obtain ⟨h2, h3⟩ := selH_mem hF
 have hs : SimH m Z (F ++ remH ks H) w := S.step.sim.perm hp
 obtain ⟨m', Z', hst, hR'⟩ := h m Z hs.left (fun k hk hkF => S.dom k (by
  obtain ⟨p, hp', rfl⟩ := List.mem_map.1 hk
  have := (List.all_eq_true.1 hfr) p hp'
  simp only [Bool.or_eq_true, List.contains_eq_mem, decide_eq_true_eq, Bool.not_eq_true', decide_eq_false_iff_not] at this
  rcases this with this | this
  ·exact absurd (h2 ▸ this) hkF
  ·exact this)) hR
 exact ⟨m', Z', S.step' hks hF hfr (fun _ _ => hst), hR'⟩
theorem keys_all_fresh {F : Heap} {ks : List Nat} (h : ∀ p ∈ F, p.1 ∈ ks) : freshB F ks H = true := List.all_eq_true.2 fun p hp => by simp [h p hp]
theorem SimA.freeze {F : Heap} (ks : List Nat) {ρr : Slots} {w : World} (hks : nodupB ks = true) (hF : selH ks H = some F) (S : SimA c ρ H ρr w) : SimA c ρ (frz F ++ remH ks H) ρr w :=
 SimA.step hks hF (keys_all_fresh fun p hp => by rw [← (selH_mem hF).1, ← keys_frz]; exact mem_keys hp) (fun m Z hs _ hR => ⟨m, _, Step.freeze hs, hR.up (Step.freeze hs).zext fun _ _ _ e => e⟩) S
theorem SimA.nilRow (t d e sz : Nat) {ρr : Slots} {w : World} (hsz : Nat.ble 1 sz = true) (ht : ρ.get t = .nils) (hd : hasKey d H = false) (S : SimA c ρ H ρr w) : SimA c ((t, .sl sz d 0 0 0) :: ρ) ((d, .row e sz 0 []) :: H) ρr w := by
 have hd' : d ∉ keys H := fun h => by rw [hasKey_iff.2 h] at hd; cases hd
 have := SimA.step (c := c) (ρ := ρ) (H := H) (F := []) (F' := [(d, .row e sz 0 [])]) (ks := []) (ρ' := (t, .sl sz d 0 0 0) :: ρ) (ρr := ρr) (w := w) rfl rfl (by simp [freshB, hd']) (fun m Z hs hnew hR => by
  have hnew' : ∀ L, m d L = none := fun L => hnew d (by simp [keys]) (by simp [keys]) L
  let m' : M := fun k' L => if k' = d ∧ L = 0 then some (0, 0) else m k' L
  have h1 : m' d 0 = some (0, 0) := by simp [m']
  have h2 : ∀ k L loc, m k L = some loc → m' k L = some loc := fun k L loc e => by
   by_cases hc : k = d ∧ L = 0
   ·obtain ⟨rfl, rfl⟩ := hc; rw [hnew'] at e; cases e
   ·simp only [m', if_neg hc]; exact e
  refine ⟨m', Z, ⟨⟨hs.frozen, fun p hp => ?_, by simp [keys], fun p hp q hq _ _ _ => ?_⟩, h2, fun _ _ e => e, rfl, rfl, rfl, Nat.le_refl _, fun _ _ _ => rfl, fun k hk => (by cases hk), fun k hk => ?_, fun p hp b hb => ?_, fun _ _ e => .inl e⟩, ?_⟩
  ·simp only [List.mem_singleton] at hp
   subst hp
   refine .inl ⟨Nat.le_of_ble_eq_true hsz, rfl, rfl, ⟨0, h1⟩, fun L loc e => ?_⟩
   simp only [m'] at e
   split at e
   ·rename_i hc; omega
   ·rw [hnew'] at e; cases e
  ·simp only [List.mem_singleton] at hp hq
   subst hp; subst hq; rfl
  ·funext L
   have : k ≠ d := by simpa [keys] using hk
   simp [m', this]
  ·simp only [List.mem_singleton] at hp
   subst hp
   simp [blk, blk1, Obj.ver, h1] at hb
  ·intro u
   have hu := (hR u).up (Z' := Z) (m' := some m') (fun _ _ e => e) (fun f e => by cases e; exact ⟨m', rfl, h2⟩)
   show Rep (some m') Z (bif Nat.beq u t then V.sl sz d 0 0 0 else ρ.get u) (ρr u)
   cases hb : Nat.beq u t with
   | false => exact hu
   | true =>
    have := Nat.eq_of_beq_eq_true hb
    subst this
    rw [ht] at hu
    exact ⟨m', _, rfl, h1, Nat.le_refl _, Nat.zero_le _, .inr (.inl ⟨rfl, none, hu⟩)⟩) S
 rw [remH_nil] at this
 exact this
theorem v_same {ρ' : Env} (hρ : ρ' = ρ) (hH : H' = H) (h : WpV c P r N x Q ρ' H' ds) : WpV c P r N x Q ρ H ds := by subst hρ; subst hH; exact h
theorem o_run (n : Nat) (ρ' : Env) (H' : Heap) (hr : runV P all N (l.take n) ρ H = some (ρ', H')) (h : OpsV c P r N all Q (l.drop n) ρ' H' ds) : OpsV c P r N all Q l ρ H ds := by
 have := ov_run1 (rest := l.drop n) (l.take n) ρ H ρ' H' hr h
 rwa [List.take_append_drop] at this
end
end Go.EV
namespace Go.EV
open Go Go.RowKit Go.Eng

def evF (e : Nat → V) : Operand → V
  | .tmp t => e t
  | .const v => ofC v
  | .global _ => .undef
  | .func f => .fn f [] []
theorem evF_get (ρ : Env) (x : Operand) : evF ρ.get x = evV ρ x := by cases x <;> rfl
def Loc' (P : Program) (o : Oper) (g : Operand → V) (F : Heap) (v : V) (F' : Heap) : Prop :=
  ∀ ρr m Z w, (∀ x ∈ o.op.operands, Rep (some m) Z (g x) (ev ρr x)) → SimH m Z F w → (∀ k ∈ keys F', k ∉ keys F → ∀ L, m k L = none) →
    Exec P o ρr w fun x w' => ∃ m' Z', Step m Z F w m' Z' F' w' ∧ Rep (some m') Z' v x
theorem Loc'.congr {P : Program} {o : Oper} {g g' : Operand → V} {F F' : Heap} {v : V} (h : Loc' P o g F v F') (hg : ∀ x ∈ o.op.operands, g' x = g x) : Loc' P o g' F v F' :=
  fun ρr m Z w hops => h ρr m Z w fun x hx => by rw [← hg x hx]; exact hops x hx
def wantedF (all : List Oper) (e : Nat → V) (o : Oper) : Option Bool :=
  match o.guard with
  | none => some true
  | some (j, want) => match (all[j]?).bind (·.dst) with
    | some d => match e d with
      | .bool b => some (b == want)
      | .no => some false
      | _ => none
    | none => none
def putF (d : Option Nat) (v : V) (e : Nat → V) : Nat → V := match d with | some d => fun t => bif Nat.beq t d then v else e t | none => e
theorem putF_get (d : Option Nat) (v : V) (ρ : Env) : (putE d v ρ).get = putF d v ρ.get := by
  cases d with
  | none => rfl
  | some d => rfl

structure FP where
  i : Nat
  fk : List Nat
  rk : List Nat
abbrev HF := Nat → Option Obj
def updH (F' : Heap) (η : HF) : HF := fun k => if k ∈ keys F' then F'.get k else η k
def OpStep (P : Program) (N : Nat) (all : List Oper) (fp : FP) (e : Nat → V) (η : HF) (e1 : Nat → V) (η1 : HF) : Prop :=
  ∃ o v, all[fp.i]? = some o ∧ notDefer o.op = true ∧ (∀ d, o.dst = some d → d + 1 ≤ N) ∧ e1 = putF o.dst v e ∧
    ((wantedF all e o = some false ∧ v = .no ∧ η1 = η ∧ fp.fk = [] ∧ fp.rk = []) ∨
     (wantedF all e o = some true ∧ ∃ F R F', Loc' P o (evF e) (F ++ R) v (F' ++ R) ∧ (keys (F' ++ R)).Nodup ∧ (keys F).Nodup ∧ (∀ k ∈ keys F, k ∈ keys F') ∧ keys F' = fp.fk ∧ keys R = fp.rk ∧
       (∀ p ∈ F ++ R, η p.1 = some p.2) ∧ (∀ k ∈ keys F', k ∉ keys F → η k = none) ∧ η1 = updH F' η))

def usesB (all : List Oper) (o : Oper) (d : Nat) : Bool :=
  o.op.operands.toList.any (fun | .tmp t => Nat.beq t d | _ => false) || (match o.guard with | some (j, _) => (match (all[j]?).bind (·.dst) with | some d' => Nat.beq d' d | none => true) | none => false)
def slotsB (all : List Oper) (o o' : Oper) : Bool :=
  (match o.dst with | some d => !usesB all o' d | none => true) && (match o.dst, o'.dst with | some d, some d' => !Nat.beq d d' | _, _ => true)
def memB (k : Nat) : List Nat → Bool | [] => false | j :: r => bif Nat.beq k j then true else memB k r
def disjB : List Nat → List Nat → Bool | [], _ => true | k :: r, l => !memB k l && disjB r l
def keysB (a b : FP) : Bool := disjB a.fk b.fk && (disjB a.fk b.rk && disjB a.rk b.fk)
def indepB (all : List Oper) (a b : FP) : Bool :=
  match all[a.i]?, all[b.i]? with
  | some o, some o' => slotsB all o o' && (slotsB all o' o && keysB a b)
  | _, _ => false
theorem memB_iff {k : Nat} : ∀ {l : List Nat}, memB k l = true ↔ k ∈ l
  | [] => by simp [memB]
  | j :: r => by
    simp only [memB, List.mem_cons]
    cases hb : Nat.beq k j with
    | true => simp [Nat.eq_of_beq_eq_true hb]
    | false =>
      have : k ≠ j := fun e => by subst e; rw [Nat.beq_refl] at hb; cases hb
      simp only [cond_false, this, false_or]
      exact memB_iff
theorem disj_of : ∀ {l k : List Nat}, disjB l k = true → ∀ x ∈ l, x ∉ k
  | [], _, _, x, h => by cases h
  | j :: r, k, h, x, hx => by
    simp only [disjB, Bool.and_eq_true, Bool.not_eq_true'] at h
    rcases List.mem_cons.1 hx with rfl | hx
    · intro hk; rw [memB_iff.2 hk] at h; cases h.1
    · exact disj_of h.2 x hx
theorem evF_put {all : List Oper} {o o' : Oper} {v : V} {e : Nat → V} (h : slotsB all o o' = true) : (∀ x ∈ o'.op.operands, evF (putF o.dst v e) x = evF e x) ∧ wantedF all (putF o.dst v e) o' = wantedF all e o' := by
  simp only [slotsB, Bool.and_eq_true] at h
  cases hd : o.dst with
  | none => exact ⟨fun _ _ => rfl, rfl⟩
  | some d =>
    rw [hd] at h
    simp only [Bool.not_eq_true', usesB, Bool.or_eq_false_iff] at h
    refine ⟨fun x hx => ?_, ?_⟩
    · cases x with
      | tmp t =>
        have := (List.any_eq_false.1 h.1.1) (.tmp t) (by simpa using hx)
        simp only [Bool.not_eq_true] at this
        simp only [evF, putF, this, cond_false]
      | _ => rfl
    · unfold wantedF
      cases hg : o'.guard with
      | none => rfl
      | some p =>
        obtain ⟨j, want⟩ := p
        have h2 := h.1.2
        rw [hg] at h2
        simp only at h2 ⊢
        cases hj : (all[j]?).bind (·.dst) with
        | none => rfl
        | some d' =>
          rw [hj] at h2
          simp only at h2 ⊢
          simp only [putF, h2, cond_false]
theorem put_comm {o o' : Oper} {all : List Oper} {v v' : V} {e : Nat → V} (h : slotsB all o o' = true) : putF o.dst v (putF o'.dst v' e) = putF o'.dst v' (putF o.dst v e) := by
  simp only [slotsB, Bool.and_eq_true] at h
  cases hd : o.dst with
  | none => rfl
  | some d =>
    cases hd' : o'.dst with
    | none => rfl
    | some d' =>
      rw [hd, hd'] at h
      simp only [Bool.not_eq_true'] at h
      funext t
      simp only [putF]
      cases h1 : Nat.beq t d with
      | false => rfl
      | true =>
        cases h2 : Nat.beq t d' with
        | false => rfl
        | true =>
          have := Nat.eq_of_beq_eq_true h1
          have := Nat.eq_of_beq_eq_true h2
          subst_vars
          rw [Nat.beq_refl] at h; cases h.2
theorem updH_of {F : Heap} {η : HF} {k : Nat} (h : k ∉ keys F) : updH F η k = η k := by simp [updH, h]
theorem updH_comm {F G : Heap} {η : HF} (h : ∀ k ∈ keys F, k ∉ keys G) : updH F (updH G η) = updH G (updH F η) := by
  funext k
  by_cases h1 : k ∈ keys F
  · have h2 := h k h1
    rw [updH_of h2]
    simp [updH, h1]
  · rw [updH_of h1]
    by_cases h2 : k ∈ keys G
    · simp [updH, h2]
    · rw [updH_of h2, updH_of h2, updH_of h1]
theorem OpStep.swap {P : Program} {N : Nat} {all : List Oper} {a b : FP} {e e1 e2 : Nat → V} {η η1 η2 : HF} (h : OpStep P N all a e η e1 η1) (k : OpStep P N all b e1 η1 e2 η2) (hi : indepB all a b = true) :
    ∃ e1' η1', OpStep P N all b e η e1' η1' ∧ OpStep P N all a e1' η1' e2 η2 := by
  obtain ⟨o, v, ho, hn, hd, rfl, h⟩ := h
  obtain ⟨o', v', ho', hn', hd', rfl, k⟩ := k
  simp only [indepB, ho, ho', Bool.and_eq_true, keysB] at hi
  obtain ⟨hs, hs', hk1, hk2, hk3⟩ := hi
  have hk1 := disj_of hk1
  have hk2 := disj_of hk2
  have hk3 := disj_of hk3
  obtain ⟨ev1, ew1⟩ := evF_put (v := v) (e := e) hs
  obtain ⟨ev2, ew2⟩ := evF_put (v := v') (e := e) hs'
  rw [ew1] at k
  have hA : ∀ {η3 : HF}, (wantedF all e o' = some false ∧ v' = .no ∧ η3 = η ∧ b.fk = [] ∧ b.rk = []) ∨ (wantedF all e o' = some true ∧ ∃ F R F', Loc' P o' (evF e) (F ++ R) v' (F' ++ R) ∧ (keys (F' ++ R)).Nodup ∧ (keys F).Nodup ∧ (∀ k ∈ keys F, k ∈ keys F') ∧ keys F' = b.fk ∧ keys R = b.rk ∧
      (∀ p ∈ F ++ R, η p.1 = some p.2) ∧ (∀ k ∈ keys F', k ∉ keys F → η k = none) ∧ η3 = updH F' η) → OpStep P N all b e η (putF o'.dst v' e) η3 := fun h => ⟨o', v', ho', hn', hd', rfl, h⟩
  have hB : ∀ {η0 η3 : HF}, (wantedF all e o = some false ∧ v = .no ∧ η3 = η0 ∧ a.fk = [] ∧ a.rk = []) ∨ (wantedF all e o = some true ∧ ∃ F R F', Loc' P o (evF e) (F ++ R) v (F' ++ R) ∧ (keys (F' ++ R)).Nodup ∧ (keys F).Nodup ∧ (∀ k ∈ keys F, k ∈ keys F') ∧ keys F' = a.fk ∧ keys R = a.rk ∧
      (∀ p ∈ F ++ R, η0 p.1 = some p.2) ∧ (∀ k ∈ keys F', k ∉ keys F → η0 k = none) ∧ η3 = updH F' η0) → OpStep P N all a (putF o'.dst v' e) η0 (putF o'.dst v' (putF o.dst v e)) η3 := fun h => by
    refine ⟨o, v, ho, hn, hd, put_comm (v := v') (v' := v) hs', ?_⟩
    rcases h with ⟨h1, h2⟩ | ⟨h1, F, R, F', h2, h3⟩
    · exact .inl ⟨ew2.trans h1, h2⟩
    · exact .inr ⟨ew2.trans h1, F, R, F', h2.congr (fun x hx => ev2 x hx), h3⟩
  rcases k with ⟨k1, k2, rfl, k4, k5⟩ | ⟨k1, F2, R2, F2', l2, n2, nf2, s2, ek2, er2, g2, f2, rfl⟩
  · exact ⟨_, η, hA (.inl ⟨k1, k2, rfl, k4, k5⟩), hB h⟩
  · have l2' : Loc' P o' (evF e) (F2 ++ R2) v' (F2' ++ R2) := l2.congr (fun x hx => (ev1 x hx).symm)
    rcases h with ⟨h1, h2, rfl, h4, h5⟩ | ⟨h1, F1, R1, F1', l1, n1, nf1, s1, ek1, er1, g1, f1, rfl⟩
    · exact ⟨_, _, hA (.inr ⟨k1, F2, R2, F2', l2', n2, nf2, s2, ek2, er2, g2, f2, rfl⟩), hB (.inl ⟨h1, h2, rfl, h4, h5⟩)⟩
    · have hout2 : ∀ k ∈ keys F2' ++ keys R2, k ∉ keys F1' := fun k hk hk1' => by
        rw [ek1] at hk1'
        rcases List.mem_append.1 hk with hk | hk
        · rw [ek2] at hk; exact hk1 k hk1' hk
        · rw [er2] at hk; exact hk2 k hk1' hk
      have hout1 : ∀ k ∈ keys F1' ++ keys R1, k ∉ keys F2' := fun k hk hk2' => by
        rw [ek2] at hk2'
        rcases List.mem_append.1 hk with hk | hk
        · rw [ek1] at hk; exact hk1 k hk hk2'
        · rw [er1] at hk; exact hk3 k hk hk2'
      have hkey2 : ∀ p ∈ F2 ++ R2, p.1 ∈ keys F2' ++ keys R2 := fun p hp => by
        rcases List.mem_append.1 hp with hp | hp
        · exact List.mem_append_left _ (s2 _ (mem_keys hp))
        · exact List.mem_append_right _ (mem_keys hp)
      have hkey1 : ∀ p ∈ F1 ++ R1, p.1 ∈ keys F1' ++ keys R1 := fun p hp => by
        rcases List.mem_append.1 hp with hp | hp
        · exact List.mem_append_left _ (s1 _ (mem_keys hp))
        · exact List.mem_append_right _ (mem_keys hp)
      refine ⟨_, updH F2' η, hA (.inr ⟨k1, F2, R2, F2', l2', n2, nf2, s2, ek2, er2, fun p hp => ?_, fun k hk hkF => ?_, rfl⟩), hB (.inr ⟨h1, F1, R1, F1', l1, n1, nf1, s1, ek1, er1, fun p hp => ?_, fun k hk hkF => ?_, ?_⟩)⟩
      · rw [← g2 p hp, updH_of (hout2 _ (hkey2 p hp))]
      · rw [← f2 k hk hkF, updH_of (hout2 k (List.mem_append_left _ hk))]
      · rw [← g1 p hp, updH_of (hout1 _ (hkey1 p hp))]
      · rw [← f1 k hk hkF, updH_of (hout1 k (List.mem_append_left _ hk))]
      · exact updH_comm fun k hk hk' => hout2 k (List.mem_append_left _ hk) hk'
inductive Chain (P : Program) (N : Nat) (all : List Oper) : List FP → (Nat → V) → HF → (Nat → V) → HF → Prop
  | nil {e : Nat → V} {η : HF} : Chain P N all [] e η e η
  | cons {a : FP} {l : List FP} {e e1 e2 : Nat → V} {η η1 η2 : HF} (h : OpStep P N all a e η e1 η1) (k : Chain P N all l e1 η1 e2 η2) : Chain P N all (a :: l) e η e2 η2
theorem Chain.front {P : Program} {N : Nat} {all : List Oper} {b : FP} {l2 : List FP} : ∀ {l1 : List FP} {e e2 : Nat → V} {η η2 : HF}, Chain P N all (l1 ++ b :: l2) e η e2 η2 → (∀ a ∈ l1, indepB all a b = true) →
    ∃ e1 η1, OpStep P N all b e η e1 η1 ∧ Chain P N all (l1 ++ l2) e1 η1 e2 η2
  | [], e, e2, η, η2, h, _ => by
    cases h with
    | cons h k => exact ⟨_, _, h, k⟩
  | a :: l1, e, e2, η, η2, h, hi => by
    cases h with
    | cons h k =>
      obtain ⟨e1, η1, h1, h2⟩ := Chain.front (l1 := l1) k fun c hc => hi c (List.mem_cons_of_mem _ hc)
      obtain ⟨e1', η1', h3, h4⟩ := h.swap h1 (hi a (List.mem_cons_self ..))
      exact ⟨e1', η1', h3, .cons h4 h2⟩
end Go.EV
namespace Go.EV
open Go Go.RowKit Go.Eng

def maskOf (l : List Edge) (acc : List Nat) : Nat → Nat := fun s => match l with
 | [] => s
 | e :: r => maskOf r acc (if Region.binds .any e then s ||| 2 ^ e.on ||| acc.getD e.on 0 else s)
def masks : List Oper → List Nat → List Nat
 | [], acc => acc
 | o :: r, acc => masks r (acc ++ [maskOf o.after.toList acc 0])
def ancB (ms : List Nat) (j i : Nat) : Bool := (ms.getD j 0).testBit i
theorem maskOf_bit {acc : List Nat} {i : Nat} : ∀ {l : List Edge} {s : Nat}, (maskOf l acc s).testBit i = true → s.testBit i = true ∨ ∃ e ∈ l, Region.binds .any e = true ∧ (e.on = i ∨ (acc.getD e.on 0).testBit i = true)
 | [], s, h => .inl h
 | e :: r, s, h => by
  simp only [maskOf] at h
  rcases maskOf_bit h with h | ⟨e', he', h1, h2⟩
  ·split at h
   ·rename_i hb
    simp only [Nat.testBit_or, Bool.or_eq_true] at h
    rcases h with (h | h) | h
    ·exact .inl h
    ·refine .inr ⟨e, List.mem_cons_self .., hb, .inl ?_⟩
     rw [Nat.testBit_two_pow] at h
     simpa using h
    ·exact .inr ⟨e, List.mem_cons_self .., hb, .inr h⟩
   ·exact .inl h
  ·exact .inr ⟨e', List.mem_cons_of_mem _ he', h1, h2⟩
theorem masks_spec : ∀ (l : List Oper) (acc : List Nat), (masks l acc).take acc.length = acc ∧ ∀ (k : Nat) (o : Oper), l[k]? = some o → (masks l acc).getD (acc.length + k) 0 = maskOf o.after.toList ((masks l acc).take (acc.length + k)) 0
 | [], acc => ⟨by simp [masks], fun k o h => by simp at h⟩
 | o :: r, acc => by
  obtain ⟨h1, h2⟩ := masks_spec r (acc ++ [maskOf o.after.toList acc 0])
  simp only [masks]
  have hl : (acc ++ [maskOf o.after.toList acc 0]).length = acc.length + 1 := by simp
  rw [hl] at h1 h2
  have hta : (masks r (acc ++ [maskOf o.after.toList acc 0])).take acc.length = acc := by
   have := congrArg (List.take acc.length) h1
   rw [List.take_take, Nat.min_eq_left (by omega)] at this
   rw [this]; simp
  refine ⟨hta, fun k o' hk => ?_⟩
  cases k with
  | zero =>
   simp only [List.getElem?_cons_zero, Option.some.injEq] at hk
   subst hk
   rw [Nat.add_zero, hta, List.getD_eq_getElem?_getD]
   have : (masks r (acc ++ [maskOf o.after.toList acc 0]))[acc.length]? = some (maskOf o.after.toList acc 0) := by
    have h3 := congrArg (fun l => l[acc.length]?) h1
    simp only [List.getElem?_take] at h3
    rw [if_pos (by omega)] at h3
    rw [h3]; simp
   rw [this]; rfl
  | succ k =>
   have := h2 k o' (by simpa using hk)
   rw [show acc.length + 1 + k = acc.length + (k + 1) by omega] at this
   exact this
def edgesB (all : List Oper) : Bool := (List.range all.length).all fun j => match all[j]? with
 | some o => o.after.toList.all fun e => !Region.binds .any e || Nat.ble (e.on + 1) j
 | none => true
theorem edges_of {all : List Oper} (h : edgesB all = true) {j : Nat} {o : Oper} (ho : all[j]? = some o) {e : Edge} (he : e ∈ o.after) (hb : Region.binds .any e = true) : e.on < j := by
 have hj : j < all.length := (List.getElem?_eq_some_iff.1 ho).1
 have h1 := (List.all_eq_true.1 h) j (List.mem_range.2 hj)
 rw [ho] at h1
 have h2 := (List.all_eq_true.1 h1) e (by simpa using he)
 simp only [hb, Bool.not_true, Bool.false_or] at h2
 exact Nat.le_of_ble_eq_true h2
theorem anc_listed {all : List Oper} (hE : edgesB all = true) {listed : Array Bool} (hc : Closed all.toArray listed) : ∀ (j : Nat) (o : Oper), all[j]? = some o → (∀ e ∈ o.after, Region.binds .any e = true → listed.getD e.on false = true) → ∀ i, ancB (masks all []) j i = true → listed.getD i false = true := by
 intro j
 induction j using Nat.strongRecOn with
 | _ j ih =>
  intro o ho hpre i hi
  have hs := (masks_spec all []).2 j o ho
  simp only [List.length_nil, Nat.zero_add] at hs
  unfold ancB at hi
  rw [hs] at hi
  rcases maskOf_bit hi with h | ⟨e, he, hb, h⟩
  ·simp at h
  ·have he' : e ∈ o.after := by simpa using he
   have hlt := edges_of hE ho he' hb
   have hl := hpre e he' hb
   rcases h with rfl | h
   ·exact hl
   ·have hj : j < all.length := (List.getElem?_eq_some_iff.1 ho).1
    have ho2 : all[e.on]? = some (all[e.on]'(by omega)) := List.getElem?_eq_getElem (by omega)
    refine ih e.on hlt _ ho2 (fun e2 he2 hb2 => hc e.on _ hl (by simpa using ho2) e2 he2 hb2) i ?_
    unfold ancB
    rw [List.getD_eq_getElem?_getD, List.getElem?_take, if_pos hlt, ← List.getD_eq_getElem?_getD] at h
    exact h
def compatB (all : List Oper) (ms : List Nat) : List FP → Bool
 | [] => true
 | a :: r => r.all (fun b => ancB ms b.i a.i || indepB all a b) && compatB all ms r
theorem compat_front {all : List Oper} {ms : List Nat} {b : FP} {l2 : List FP} : ∀ {l1 : List FP}, compatB all ms (l1 ++ b :: l2) = true → (∀ a ∈ l1, ancB ms b.i a.i = true ∨ indepB all a b = true) ∧ compatB all ms (l1 ++ l2) = true
 | [], h => by
  simp only [List.nil_append, compatB, Bool.and_eq_true] at h
  exact ⟨fun _ h => (by cases h), h.2⟩
 | a :: l1, h => by
  simp only [List.cons_append, compatB, Bool.and_eq_true] at h
  obtain ⟨h1, h2⟩ := compat_front h.2
  have h3 := List.all_eq_true.1 h.1
  refine ⟨fun x hx => ?_, ?_⟩
  ·rcases List.mem_cons.1 hx with rfl | hx
   ·have := h3 b (by simp)
    simpa using this
   ·exact h1 x hx
  ·simp only [List.cons_append, compatB, Bool.and_eq_true]
   refine ⟨List.all_eq_true.2 fun x hx => h3 x ?_, h2⟩
   rcases List.mem_append.1 hx with hx | hx
   ·exact List.mem_append_left _ hx
   ·exact List.mem_append_right _ (List.mem_cons_of_mem _ hx)
theorem nodupB_of : ∀ {l : List Nat}, l.Nodup → nodupB l = true
 | [], _ => rfl
 | k :: r, h => by
  rw [List.nodup_cons] at h
  simp only [nodupB, Bool.and_eq_true, Bool.not_eq_true', List.contains_eq_mem, decide_eq_false_iff_not]
  exact ⟨h.1, nodupB_of h.2⟩
theorem selH_of {H : Heap} : ∀ {F : Heap}, (∀ p ∈ F, H.get p.1 = some p.2) → selH (keys F) H = some F
 | [], _ => rfl
 | (k, o) :: r, h => by
  have h1 := h (k, o) (List.mem_cons_self ..)
  have h2 := selH_of (F := r) fun p hp => h p (List.mem_cons_of_mem _ hp)
  show (match H.get k, selH (keys r) H with | some o, some l => some ((k, o) :: l) | _, _ => none) = _
  rw [h1, h2]
theorem get_none : ∀ {H : Heap} {k : Nat}, k ∉ keys H ↔ H.get k = none
 | [], k => by simp [keys, Heap.get]
 | (k', o) :: r, k => by
  simp only [keys, List.map_cons, List.mem_cons, not_or, Heap.get]
  cases hb : Nat.beq k k' with
  | true => simp [Nat.eq_of_beq_eq_true hb]
  | false =>
   have : k ≠ k' := fun e => by subst e; rw [Nat.beq_refl] at hb; cases hb
   simp only [cond_false, ne_eq, this, not_false_eq_true, true_and]
   exact get_none
theorem get_append {A B : Heap} {k : Nat} : (A ++ B).get k = if k ∈ keys A then A.get k else B.get k := by
 induction A with
 | nil => simp [keys]
 | cons p A ih =>
  obtain ⟨k', o⟩ := p
  simp only [List.cons_append, Heap.get, keys, List.map_cons, List.mem_cons]
  cases hb : Nat.beq k k' with
  | true => simp [Nat.eq_of_beq_eq_true hb]
  | false =>
   have : k ≠ k' := fun e => by subst e; rw [Nat.beq_refl] at hb; cases hb
   simp only [cond_false, this, false_or]
   exact ih
theorem get_rem {ks : List Nat} {H : Heap} {k : Nat} (h : k ∉ ks) : (remH ks H).get k = H.get k := by
 induction H with
 | nil => rfl
 | cons p H ih =>
  obtain ⟨k', o⟩ := p
  simp only [remH, List.filter_cons]
  split
  ·simp only [Heap.get]
   rw [show Heap.get (List.filter (fun p => !ks.contains p.1) H) k = Heap.get H k from ih]
  ·rename_i hc
   have hk' : k' ∈ ks := by simpa using hc
   have hne : k ≠ k' := fun e => h (e ▸ hk')
   have hb : Nat.beq k k' = false := by
    cases hb : Nat.beq k k' with
    | true => exact absurd (Nat.eq_of_beq_eq_true hb) hne
    | false => rfl
   simp only [Heap.get, hb, cond_false]
   exact ih
theorem perm_of_get {A B : Heap} (hA : (keys A).Nodup) (hB : (keys B).Nodup) (h : ∀ k, A.get k = B.get k) : A.Perm B := by
 refine (List.perm_ext_iff_of_nodup (nodup_of_map _ hA) (nodup_of_map _ hB)).2 fun p => ?_
 obtain ⟨k, o⟩ := p
 constructor
 ·intro hp
  have := get_of_mem hA hp
  rw [h] at this
  exact Heap.get_mem this
 ·intro hp
  have := get_of_mem hB hp
  rw [← h] at this
  exact Heap.get_mem this
end Go.EV
namespace Go.EV
open Go Go.RowKit Go.Eng

section
variable {K0 : List Nat} {c : Ctx K0} {P : Program} {r : Option Nat} {N : Nat} {all : List Oper} {ds : List Deferred}
def SimF (c : Ctx K0) (N : Nat) (ds : List Deferred) (e : Nat → V) (η : HF) (a : Act) (w : World) : Prop :=
 MarksOK c ds w ∧ ∃ ρr ρ H, Frm N ds a ρr ∧ ρ.get = e ∧ H.get = η ∧ SimA c ρ H ρr w
theorem step_real {fp : FP} {e e1 : Nat → V} {η η1 : HF} {a : Act} {w : World} {n : Nat} {Q : Exit → Act → World → Prop} {KK : Act → World → Prop} (hs : OpStep P N all fp e η e1 η1) (S : SimF c N ds e η a w) (h : ∀ a' w', SimF c N ds e1 η1 a' w' → KK a' w') : wpOpIn (Fw r) n P all.toArray Q fp.i KK a w := by
 obtain ⟨o, v, ho, hn, hd, rfl, hcase⟩ := hs
 obtain ⟨hM, ρr, ρ, H, hf, rfl, rfl, SA⟩ := S
 obtain ⟨m, Z, SC, hR⟩ := id SA
 have hput : ∀ {x : Value} {H1 : Heap} {m' : M} {Z' : ZM} {w' : World}, MarksOK c ds w' → SimC c m' Z' H1 w' → RepS m' Z' ρ ρr → Rep (some m') Z' v x → SimF c N ds (putF o.dst v ρ.get) H1.get (a.put o.dst x) w' := by
  intro x H1 m' Z' w' hM' S' hR' hx
  cases hdst : o.dst with
  | none => exact ⟨hM', ρr, ρ, H1, hf.putNone _, rfl, rfl, m', Z', S', hR'⟩
  | some d => exact ⟨hM', upd ρr d x, (d, v) :: ρ, H1, hf.put (Nat.lt_of_succ_le (hd d hdst)) x, rfl, rfl, m', Z', S', hR'.put d hx⟩
 have ho' : all.toArray[fp.i]? = some o := by simpa using ho
 unfold wpOpIn
 simp only [ho']
 rcases hcase with ⟨hw, rfl, rfl, _, _⟩ | ⟨hw, F, R, F', hl, hnd, hnF, hsub, _, _, hget, hnew, rfl⟩
 ·have hw' := (hf.wanted all o).trans (wanted_of hR hw)
  simp only [hw', Bool.false_eq_true, if_false]
  exact ⟨fun _ _ => trivial, h _ _ (hput hM SC hR rfl)⟩
 ·have hw' := (hf.wanted all o).trans (wanted_of hR hw)
  simp only [hw', if_true]
  refine ⟨fun _ _ => trivial, ?_⟩
  rw [semAt_fw hn, hf.eval]
  have hHn := SC.step.sim.nodup
  have hFR : (keys (F ++ R)).Nodup := by
   rw [keys_append] at hnd ⊢
   obtain ⟨_, h2, h3⟩ := List.nodup_append.1 hnd
   exact List.nodup_append.2 ⟨hnF, h2, fun a ha b hb => h3 a (hsub a ha) b hb⟩
  have hsel : selH (keys (F ++ R)) H = some (F ++ R) := selH_of hget
  have hfresh : freshB (F' ++ R) (keys (F ++ R)) H = true := List.all_eq_true.2 fun p hp => by
   simp only [Bool.or_eq_true, List.contains_eq_mem, decide_eq_true_eq, Bool.not_eq_true', decide_eq_false_iff_not]
   rw [keys_append, List.mem_append]
   rcases List.mem_append.1 hp with hp | hp
   ·by_cases hpF : p.1 ∈ keys F
    ·exact .inl (.inl hpF)
    ·exact .inr (get_none.2 (hnew p.1 (mem_keys hp) hpF))
   ·exact .inl (.inr (mem_keys hp))
  have hperm := split_perm hHn hFR hsel
  have hsim : SimH m Z ((F ++ R) ++ remH (keys (F ++ R)) H) w := SC.step.sim.perm hperm
  obtain ⟨hn', hex⟩ := hl ρr m Z w (fun x _ => by rw [evF_get]; exact hR.ev x) hsim.left (fun k hk hkF => SC.dom k (by
   obtain ⟨p, hp', rfl⟩ := List.mem_map.1 hk
   have := (List.all_eq_true.1 hfresh) p hp'
   simp only [Bool.or_eq_true, List.contains_eq_mem, decide_eq_true_eq, Bool.not_eq_true', decide_eq_false_iff_not] at this
   rcases this with this | this
   ·exact absurd this hkF
   ·exact this))
  have hgetH : ((F' ++ R) ++ remH (keys (F ++ R)) H).get = updH F' H.get := by
   funext k
   rw [get_append]
   by_cases h1 : k ∈ keys (F' ++ R)
   ·rw [if_pos h1, get_append]
    by_cases h2 : k ∈ keys F'
    ·simp [updH, h2]
    ·rw [if_neg h2, updH_of h2]
     have h3 : k ∈ keys R := by
      rw [keys_append, List.mem_append] at h1
      exact h1.resolve_left h2
     obtain ⟨p, hp, rfl⟩ := List.mem_map.1 h3
     rw [hget p (List.mem_append_right _ hp)]
     have hnR : (keys R).Nodup := by rw [keys_append] at hnd; exact (List.nodup_append.1 hnd).2.1
     exact get_of_mem hnR hp
   ·rw [if_neg h1]
    rw [keys_append, List.mem_append, not_or] at h1
    rw [updH_of h1.1]
    exact get_rem (by rw [keys_append, List.mem_append]; exact fun h' => h'.elim (fun h' => h1.1 (hsub k h')) h1.2)
  have go : ∀ x w', (∃ m' Z', Step m Z (F ++ R) w m' Z' (F' ++ R) w' ∧ Rep (some m') Z' v x) → KK (a.put o.dst x) w' := fun x w' ⟨m', Z', hst, hr⟩ => by
   refine h _ _ ?_
   rw [← hgetH]
   exact hput (hM.step hsim.left hst) (SC.step' (nodupB_of hFR) hsel hfresh fun _ _ => hst) (hR.up hst.zext hst.mext) hr
  rcases hex with ⟨x, w', hrun, hx⟩ | ⟨w', hrun, hx⟩ | ⟨f, args, w1, hrun, hx⟩
  ·rw [hrun, Oper.uponIn_value]; exact go x w' hx
  ·rw [hrun, Oper.uponIn_skip]; exact go _ w' hx
  ·rw [hrun, Oper.uponIn_enter]
   refine ⟨fun hx => by simp [Fw] at hx, (callsIn_fw r hx).mono fun en w'' ⟨x, he, hr⟩ => ?_⟩
   subst he
   exact go x w'' hr
theorem mem_split {L : List FP} {i : Nat} (h : i ∈ L.map (·.i)) : ∃ l1 b l2, L = l1 ++ b :: l2 ∧ b.i = i := by
 obtain ⟨b, hb, rfl⟩ := List.mem_map.1 h
 obtain ⟨l1, l2, rfl⟩ := List.append_of_mem hb
 exact ⟨l1, b, l2, rfl, rfl⟩
theorem any_all (hE : edgesB all = true) {Q : Exit → Act → World → Prop} {n : Nat} {e2 : Nat → V} {η2 : HF} (hQ : ∀ a w, SimF c N ds e2 η2 a w → Q .normal a w) : ∀ (fuel : Nat) (L : List FP) (listed : Array Bool) (e : Nat → V) (η : HF) (a : Act) (w : World),
  Chain P N all L e η e2 η2 → compatB all (masks all []) L = true → (L.map (·.i)).Pairwise (· < ·) → (∀ i, i < all.length → (listed.getD i false = false ↔ i ∈ L.map (·.i))) → (∀ i ∈ L.map (·.i), i < all.length) → Closed all.toArray listed → listed.size = all.length → L.length ≤ fuel →
  SimF c N ds e η a w → wpAnyIn (Fw r) n P .any all.toArray Q fuel listed a w := by
 intro fuel
 have hempty : ∀ (L : List FP) (listed : Array Bool), (L.map (·.i)).Pairwise (· < ·) → (∀ i, i < all.length → (listed.getD i false = false ↔ i ∈ L.map (·.i))) → (∀ i ∈ L.map (·.i), i < all.length) → listed.size = all.length → Region.ready .any all.toArray listed = [] → L = [] := by
  intro L listed hp hl hlt hsz hr
  cases L with
  | nil => rfl
  | cons b L =>
   exfalso
   have hb := hlt b.i (by simp)
   have hmem : b.i ∈ Region.ready .any all.toArray listed := by
    refine mem_ready.2 ⟨?_, all[b.i]'hb, by simpa using List.getElem?_eq_getElem hb, fun e' he' hbind => ?_⟩
    ·have := (hl b.i hb).2 (by simp)
     have hlt' : b.i < listed.size := by omega
     simp only [Array.getD_eq_getD_getElem?, Array.getElem?_eq_getElem hlt', Option.getD_some] at this ⊢
     exact this
    ·have hlt2 := edges_of hE (List.getElem?_eq_getElem hb) he' hbind
     cases hq : listed.getD e'.on false with
     | true => rfl
     | false =>
      have := (hl e'.on (by omega)).1 hq
      rw [List.map_cons] at this hp
      rcases List.mem_cons.1 this with h' | h'
      ·rw [h'] at hlt2; exact absurd hlt2 (Nat.lt_irrefl _)
      ·have h2 := (List.pairwise_cons.1 hp).1 _ h'
       exact absurd (Nat.lt_trans hlt2 h2) (Nat.lt_irrefl _)
   rw [hr] at hmem
   cases hmem
 induction fuel with
 | zero =>
  intro L listed e η a w hch _ hp hl hlt hc hsz hlen S
  have : L = [] := List.eq_nil_of_length_eq_zero (by omega)
  subst this
  cases hch
  refine ⟨?_, hQ a w S⟩
  refine List.eq_nil_iff_forall_not_mem.2 fun j hj => ?_
  obtain ⟨h1, o, ho, _⟩ := mem_ready.1 hj
  have hj' : j < all.length := by have := (Array.getElem?_eq_some_iff.1 ho).1; simpa using this
  have hlt' : j < listed.size := by omega
  have : listed.getD j false = false := by
   simp only [Array.getD_eq_getD_getElem?, Array.getElem?_eq_getElem hlt', Option.getD_some] at h1 ⊢
   exact h1
  have := (hl j hj').1 this
  cases this
 | succ fuel ih =>
  intro L listed e η a w hch hcp hp hl hlt hc hsz hlen S
  refine ⟨fun hr => ?_, fun j hj => ?_⟩
  ·have := hempty L listed hp hl hlt hsz hr
   subst this
   cases hch
   exact hQ a w S
  ·obtain ⟨h1, o, ho, hpre⟩ := mem_ready.1 hj
   have hj' : j < all.length := by have := (Array.getElem?_eq_some_iff.1 ho).1; simpa using this
   have hjs : j < listed.size := by omega
   have hjf : listed.getD j false = false := by
    simp only [Array.getD_eq_getD_getElem?, Array.getElem?_eq_getElem hjs, Option.getD_some] at h1 ⊢
    exact h1
   obtain ⟨l1, b, l2, rfl, rfl⟩ := mem_split ((hl j hj').1 hjf)
   obtain ⟨hfr, hcp'⟩ := compat_front hcp
   have hpm : ((l1 ++ b :: l2).map (·.i)).Pairwise (· < ·) := hp
   rw [List.map_append, List.map_cons, List.pairwise_append] at hpm
   obtain ⟨hp1, hp2, hp3⟩ := hpm
   have hp2' := List.pairwise_cons.1 hp2
   have hind : ∀ x ∈ l1, indepB all x b = true := fun x hx => by
    rcases hfr x hx with h' | h'
    ·exfalso
     have hxl := anc_listed hE hc b.i o (by simpa using ho) hpre x.i h'
     have hxn : x.i < all.length := hlt x.i (by simp; exact .inl ⟨x, hx, rfl⟩)
     have := (hl x.i hxn).2 (by simp; exact .inl ⟨x, hx, rfl⟩)
     rw [hxl] at this; cases this
    ·exact h'
   obtain ⟨e1, η1, hop, hch'⟩ := hch.front hind
   refine step_real hop S fun a' w' S' => ih (l1 ++ l2) _ e1 η1 a' w' hch' hcp' ?_ ?_ ?_ (hc.set hj) (by simpa using hsz) (by simp at hlen ⊢; omega) S'
   ·rw [List.map_append, List.pairwise_append]
    exact ⟨hp1, hp2'.2, fun x hx y hy => hp3 x hx y (List.mem_cons_of_mem _ hy)⟩
   ·intro i hi
    have hne : i = b.i ∨ i ≠ b.i := Decidable.em _
    rcases hne with rfl | hne
    ·have hnot : b.i ∉ (l1 ++ l2).map (·.i) := by
      rw [List.map_append, List.mem_append]
      rintro (h' | h')
      ·have := hp3 _ h' b.i (List.mem_cons_self ..); omega
      ·have := hp2'.1 _ h'; omega
     have h9 : (listed.setIfInBounds b.i true).getD b.i false = true := by simp [hjs]
     rw [h9]
     exact ⟨fun h' => (by cases h'), fun h' => absurd h' hnot⟩
    ·rw [getD_set_ne false (Ne.symm hne), hl i hi]
     simp only [List.map_append, List.map_cons, List.mem_append, List.mem_cons, hne, false_or]
   ·intro i hi
    refine hlt i ?_
    rw [List.map_append, List.mem_append] at hi
    simp only [List.map_append, List.map_cons, List.mem_append, List.mem_cons]
    rcases hi with hi | hi
    ·exact .inl hi
    ·exact .inr (.inr hi)
theorem ready_closed (l : List Oper) : Closed l.toArray (Array.replicate l.length false) := by
 intro j o hj _
 exfalso
 simp only [Array.getD_eq_getD_getElem?, Array.getElem?_replicate] at hj
 split at hj <;> cases hj
def DrawV (P : Program) (N : Nat) (all : List Oper) (done : List FP) (l : List Oper) (ρ : Env) (H : Heap) (K : Env → Heap → Prop) : Prop :=
 ∃ fps ρ' H', (keys H).Nodup → (fps.map (·.i) = List.range' (all.length - l.length) l.length ∧ Chain P N all fps ρ.get H.get ρ'.get H'.get ∧ (keys H').Nodup ∧ compatB all (masks all []) (done.reverse ++ fps) = true ∧ K ρ' H')
variable {ρ : Env} {H : Heap} {Q : PostV}
theorem v_draw {id : Nat} (hm : P.follows .mixedOrders = true) (hE : edgesB all = true) (h : DrawV P N all [] all ρ H fun ρ' H' => Q .normal ρ' H' ds) : WpV c P r N (.region id all.toArray true) Q ρ H ds := by
 intro ρr w ds1 S hM a n hf
 obtain ⟨fps, ρ', H', h⟩ := h
 obtain ⟨m, Z, SC, hR⟩ := S
 obtain ⟨h1, h2, h3, h4, h5⟩ := h SC.step.sim.nodup
 have hdrew : SimA c ρ H ρr w.drew := ⟨m, Z, ⟨SC.step.trans (Step.same SC.step.sim rfl rfl rfl rfl), SC.dom⟩, hR⟩
 rw [Nat.sub_self] at h1
 refine wpIn_region_any hm ?_
 have hrange : ∀ i, i ∈ fps.map (·.i) ↔ i < all.length := fun i => by rw [h1, List.mem_range']; simp
 refine any_all (c := c) (ds := ds1) (r := r) hE (e2 := ρ'.get) (η2 := H'.get) (fun a' w' S' => ?_) all.toArray.size fps _ ρ.get H.get a _ h2 (by simpa using h4) ?_ ?_ ?_ ?_ (by simp) ?_ ⟨hM.same rfl, ρr, ρ, H, hf, rfl, rfl, hdrew⟩
 ·obtain ⟨hM', ρr', ρ2, H2, hf', e1, e2, m', Z', SC', hR'⟩ := S'
  refine ⟨ρr', ds1, hf', ρ', H', ?_, hM', h5⟩
  have hp : H2.Perm H' := perm_of_get SC'.step.sim.nodup h3 fun k => by rw [e2]
  have : SimA c ρ' H2 ρr' w' := ⟨m', Z', SC', fun t => by rw [← e1]; exact hR' t⟩
  exact this.perm hp
 ·rw [h1]
  exact List.pairwise_lt_range'
 ·intro i hi
  rw [hrange]
  simp only [List.size_toArray, Array.getD_eq_getD_getElem?, Array.getElem?_replicate]
  rw [if_pos hi]; simp [hi]
 ·exact fun i hi => (hrange i).1 hi
 ·have := ready_closed all
  simpa using this
 ·have := congrArg List.length h1
  simp at this; simp [this]
end
section
variable {P : Program} {N : Nat} {all rest : List Oper} {done : List FP} {ρ : Env} {H : Heap} {K : Env → Heap → Prop} {o : Oper}
theorem d_nil (hc : compatB all (masks all []) done.reverse = true) (h : K ρ H) : DrawV P N all done [] ρ H K :=
 ⟨[], ρ, H, fun hn => ⟨rfl, .nil, hn, by simpa using hc, h⟩⟩
theorem d_step {fp : FP} {ρ1 : Env} {H1 : Heap} (hi : fp.i = all.length - (rest.length + 1)) (hlen : rest.length + 1 ≤ all.length) (hs : (keys H).Nodup → (keys H1).Nodup ∧ OpStep P N all fp ρ.get H.get ρ1.get H1.get) (h : DrawV P N all (fp :: done) rest ρ1 H1 K) : DrawV P N all done (o :: rest) ρ H K := by
 obtain ⟨fps, ρ', H', h⟩ := h
 refine ⟨fp :: fps, ρ', H', fun hn => ?_⟩
 obtain ⟨hn1, hs⟩ := hs hn
 obtain ⟨h1, h2, h3, h4, h5⟩ := h hn1
 refine ⟨?_, .cons hs h2, h3, by simpa using h4, h5⟩
 rw [List.map_cons, h1, List.length_cons, List.range'_succ, hi]
 congr 2
 omega
theorem d_skip (i : Nat) (hi : (all.length - (rest.length + 1)) = i) (hlen : Nat.ble (rest.length + 1) all.length = true) (ho : all[i]? = some o) (hn : notDefer o.op = true) (hd : (match o.dst with | some d => Nat.ble (d + 1) N | none => true) = true) (hw : wantedV all ρ o = some false)
  (h : DrawV P N all (⟨i, [], []⟩ :: done) rest (putE o.dst .no ρ) H K) : DrawV P N all done (o :: rest) ρ H K := by
 refine d_step hi.symm (Nat.le_of_ble_eq_true hlen) (fun hnd => ⟨hnd, o, .no, ho, hn, fun d hd' => ?_, putF_get _ _ _, .inl ⟨hw, rfl, rfl, rfl, rfl⟩⟩) h
 rw [hd'] at hd; exact Nat.le_of_ble_eq_true hd
theorem d_loc {F R F' : Heap} {v : V} (i : Nat) (kF kR : List Nat) (hi : (all.length - (rest.length + 1)) = i) (hlen : Nat.ble (rest.length + 1) all.length = true) (ho : all[i]? = some o) (hn : notDefer o.op = true) (hd : (match o.dst with | some d => Nat.ble (d + 1) N | none => true) = true) (hw : wantedV all ρ o = some true)
  (hF : selH kF H = some F) (hR : selH kR H = some R) (hnd : nodupB (keys F' ++ kR) = true) (hndF : nodupB kF = true) (hsub : (kF.all (keys F').contains) = true) (hfr : (F'.all fun p => kF.contains p.1 || !hasKey p.1 H) = true)
  (hl : Loc P o ρ (F ++ R) v (F' ++ R)) (h : DrawV P N all (⟨i, keys F', kR⟩ :: done) rest (putE o.dst v ρ) (F' ++ remH kF H) K) : DrawV P N all done (o :: rest) ρ H K := by
 obtain ⟨hF1, hF2⟩ := selH_mem hF
 obtain ⟨hR1, hR2⟩ := selH_mem hR
 refine d_step hi.symm (Nat.le_of_ble_eq_true hlen) (fun hnH => ?_) h
 have hnotin : ∀ p ∈ F', p.1 ∉ kF → p.1 ∉ keys H := fun p hp hk hkH => by
  have := (List.all_eq_true.1 hfr) p hp
  simp only [Bool.or_eq_true, List.contains_eq_mem, decide_eq_true_eq, Bool.not_eq_true'] at this
  rcases this with h' | h'
  ·exact hk h'
  ·rw [hasKey_iff.2 hkH] at h'; cases h'
 have hndF' : (keys F').Nodup := (List.nodup_append.1 (nodup_of hnd)).1
 have hremn : (keys (remH kF H)).Nodup := by
  have : (keys (remH kF H)) = (keys H).filter (fun k => !kF.contains k) := by
   simp only [keys, remH]
   rw [List.filter_map]; rfl
  rw [this]; exact hnH.filter _
 refine ⟨?_, o, v, ho, hn, fun d hd' => ?_, putF_get _ _ _, .inr ⟨hw, F, R, F', ?_, ?_, ?_, ?_, rfl, hR1, fun p hp => ?_, fun k hk hkF => ?_, ?_⟩⟩
 ·rw [keys_append]
  refine List.nodup_append.2 ⟨hndF', hremn, fun a ha b hb e => ?_⟩
  subst e
  obtain ⟨p, hp, rfl⟩ := List.mem_map.1 ha
  obtain ⟨q, hq, e⟩ := List.mem_map.1 hb
  have hq' := List.mem_filter.1 hq
  have hnk : p.1 ∉ kF := by
   have := hq'.2
   simp only [Bool.not_eq_true', List.contains_eq_mem, decide_eq_false_iff_not] at this
   rw [← e]; exact this
  exact hnotin p hp hnk (by rw [← e]; exact mem_keys hq'.1)
 ·rw [hd'] at hd; exact Nat.le_of_ble_eq_true hd
 ·exact Loc'.congr (g := evV ρ) hl fun x _ => evF_get ρ x
 ·rw [keys_append, hR1]; exact nodup_of hnd
 ·rw [hF1]; exact nodup_of hndF
 ·intro k hk
  rw [hF1] at hk
  have := (List.all_eq_true.1 hsub) k hk
  simpa using this
 ·rcases List.mem_append.1 hp with hp | hp
  ·exact get_of_mem hnH (hF2 p hp)
  ·exact get_of_mem hnH (hR2 p hp)
 ·obtain ⟨p, hp, rfl⟩ := List.mem_map.1 hk
  exact get_none.1 (hnotin p hp (hF1 ▸ hkF))
 ·funext k
  rw [get_append]
  by_cases h1 : k ∈ keys F'
  ·simp [updH, h1]
  ·rw [if_neg h1, updH_of h1]
   refine get_rem fun hk => h1 ?_
   have := (List.all_eq_true.1 hsub) k hk
   simpa using this
end
end Go.EV
namespace Go.EV
open Go Go.RowKit Go.Eng
def effFP (i : Nat) : Eff → FP
 | .pure _ => ⟨i, [], []⟩
 | .read k _ => ⟨i, [], [k]⟩
 | .write k _ _ => ⟨i, [k], []⟩
 | .new k _ _ => ⟨i, [k], []⟩
def effRunD (H : Heap) : Eff → Option (V × Heap)
 | .pure v => some (v, H)
 | .read _ v => some (v, H)
 | .write k o v => some (v, (k, o) :: remH [k] H)
 | .new k o v => bif hasKey k H then none else some (v, (k, o) :: H)
def quietOp : Op → Bool | .defer _ => false | _ => true
def runD (P : Program) (all : List Oper) (N : Nat) : Nat → List Oper → Env → Heap → List FP → Option (Env × Heap × List FP)
 | _, [], ρ, H, done => some (ρ, H, done)
 | i, o :: r, ρ, H, done => bif (match o.dst with | some d => Nat.ble (d + 1) N | none => true) && quietOp o.op then
   match wantedV all ρ o with
   | some false => runD P all N (i + 1) r (putE o.dst .no ρ) H (⟨i, [], []⟩ :: done)
   | some true => match effV P ρ H (o.dst.getD 0) o.op with
    | some e => match effRunD H e with
     | some (v, H') => runD P all N (i + 1) r (putE o.dst v ρ) H' (effFP i e :: done)
     | none => none
    | none => none
   | none => none
  else none
section
variable {P : Program} {N : Nat} {all rest : List Oper} {ρ : Env} {H H' : Heap} {K : Env → Heap → Prop}
theorem d_perm {done : List FP} {l : List Oper} (hp : (keys H).Nodup → H.Perm H') (h : DrawV P N all done l ρ H' K) : DrawV P N all done l ρ H K := by
 obtain ⟨fps, ρ', H2, h⟩ := h
 refine ⟨fps, ρ', H2, fun hn => ?_⟩
 replace hp := hp hn
 have hn' : (keys H').Nodup := (hp.map _).nodup_iff.1 hn
 have e : H'.get = H.get := by
  funext k
  cases hk : H.get k with
  | none => exact get_none.1 fun h => get_none.2 hk ((hp.map _).mem_iff.2 h)
  | some o => exact get_of_mem hn' (hp.mem_iff.1 (Heap.get_mem hk))
 have := h hn'
 rwa [e] at this
theorem quiet_notDefer {op : Op} (h : quietOp op = true) : notDefer op = true := by cases op <;> first | rfl | cases h
theorem d_run1 : ∀ (l : List Oper) (i : Nat) (ρ : Env) (H : Heap) (done : List FP) (ρ' : Env) (H' : Heap) (done' : List FP), all.drop i = l ++ rest → runD P all N i l ρ H done = some (ρ', H', done') →
  DrawV P N all done' rest ρ' H' K → DrawV P N all done (l ++ rest) ρ H K
 | [], i, ρ, H, done, ρ', H', done', _, hr, h => by
  simp only [runD, Option.some.injEq, Prod.mk.injEq] at hr
  obtain ⟨rfl, rfl, rfl⟩ := hr
  exact h
 | o :: l, i, ρ, H, done, ρ', H', done', hdrop, hr, h => by
  have hil : i < all.length := by
   have := congrArg List.length hdrop
   simp at this; omega
  have hlen : all.length - i = (l ++ rest).length + 1 := by
   have := congrArg List.length hdrop
   simpa [Nat.add_assoc] using this
  have hidx : all.length - ((l ++ rest).length + 1) = i := by omega
  have hble : Nat.ble ((l ++ rest).length + 1) all.length = true := Nat.ble_eq_true_of_le (by omega)
  have ho : all[i]? = some o := by
   have := congrArg (fun x => x[0]?) hdrop
   simpa using this
  have hdrop' : all.drop (i + 1) = l ++ rest := by
   have := congrArg (List.drop 1) hdrop
   simpa [List.drop_drop] using this
  simp only [runD] at hr
  cases hd : ((match o.dst with | some d => Nat.ble (d + 1) N | none => true) && quietOp o.op) with
  | false => rw [hd] at hr; cases hr
  | true =>
   rw [hd, cond_true] at hr
   simp only [Bool.and_eq_true] at hd
   have hn := quiet_notDefer hd.2
   split at hr
   ·rename_i hw
    exact d_skip i hidx hble ho hn hd.1 hw (d_run1 l (i + 1) _ _ _ _ _ _ hdrop' hr h)
   ·rename_i hw
    split at hr
    ·rename_i e he
     split at hr
     ·rename_i v H1 hH
      have ih := d_run1 l (i + 1) _ _ _ _ _ _ hdrop' hr h
      have hl := loc_eff' (P := P) (o := o) he
      cases e with
      | pure v' =>
       simp only [effRunD, Option.some.injEq, Prod.mk.injEq] at hH
       obtain ⟨rfl, rfl⟩ := hH
       refine d_loc (F := []) (R := []) (F' := []) i [] [] hidx hble ho hn hd.1 hw rfl rfl rfl rfl rfl rfl hl ?_
       rw [List.nil_append, remH_nil]; exact ih
      | read k v' =>
       simp only [effRunD, Option.some.injEq, Prod.mk.injEq] at hH
       obtain ⟨rfl, rfl⟩ := hH
       obtain ⟨ob, h1, h2⟩ := hl
       refine d_loc (F := []) (R := [(k, ob)]) (F' := []) i [] [k] hidx hble ho hn hd.1 hw rfl (get_sel h1) rfl rfl rfl rfl h2 ?_
       rw [List.nil_append, remH_nil]; exact ih
      | write k ob v' =>
       simp only [effRunD, Option.some.injEq, Prod.mk.injEq] at hH
       obtain ⟨rfl, rfl⟩ := hH
       obtain ⟨ob0, h1, h2⟩ := hl
       exact d_loc (F := [(k, ob0)]) (R := []) (F' := [(k, ob)]) i [k] [] hidx hble ho hn hd.1 hw (get_sel h1) rfl rfl rfl (by simp [keys]) (by simp) (by simpa using h2)
        ih
      | new k ob v' =>
       simp only [effRunD] at hH
       cases hk : hasKey k H with
       | true => rw [hk] at hH; cases hH
       | false =>
        rw [hk] at hH
        simp only [cond_false, Option.some.injEq, Prod.mk.injEq] at hH
        obtain ⟨rfl, rfl⟩ := hH
        refine d_loc (F := []) (R := []) (F' := [(k, ob)]) i [] [] hidx hble ho hn hd.1 hw rfl rfl rfl rfl rfl (by simp [hk]) (by simpa using hl) ?_
        rw [remH_nil]; exact ih
     ·cases hr
    ·cases hr
   ·cases hr
theorem d_run (n : Nat) (i : Nat) {l : List Oper} {done done' : List FP} (ρ' : Env) (H' : Heap) (hi : all.drop i = l) (hr : runD P all N i (l.take n) ρ H done = some (ρ', H', done')) (h : DrawV P N all done' (l.drop n) ρ' H' K) : DrawV P N all done l ρ H K := by
 have := d_run1 (rest := l.drop n) (l.take n) i ρ H done ρ' H' done' (by rw [List.take_append_drop]; exact hi) hr h
 rwa [List.take_append_drop] at this
end
end Go.EV
namespace Go.EV
open Go Go.RowKit Go.Eng

section
variable {K0 : List Nat} {c : Ctx K0} {P : Program} {r : Option Nat} {N : Nat} {Q : PostV} {ρ : Env} {H H' : Heap} {ds : List Deferred} {all rest l : List Oper} {o : Oper} {x : Code} {K : Env → Heap → Prop} {done done' : List FP}
def dstB (N : Nat) (o : Oper) : Bool := match o.dst with | some d => Nat.ble (d + 1) N | none => true
theorem o_runs (n : Nat) (δ : Env) (hr : runV P all N (l.take n) ρ H = some (δ ++ ρ, H)) (h : OpsV c P r N all Q (l.drop n) (δ ++ ρ) H ds) : OpsV c P r N all Q l ρ H ds := o_run n _ _ hr h
theorem o_runh (n : Nat) (δ : Env) (H' : Heap) (hr : runV P all N (l.take n) ρ H = some (δ ++ ρ, H')) (h : OpsV c P r N all Q (l.drop n) (δ ++ ρ) H' ds) : OpsV c P r N all Q l ρ H ds := o_run n _ _ hr h
theorem o_pure {v : V} (hw : wantedV all ρ o = some true) (hd : dstB N o = true) (hl : Loc P o ρ [] v []) (h : OpsV c P r N all Q rest (putE o.dst v ρ) H ds) : OpsV c P r N all Q (o :: rest) ρ H ds :=
 ov_any [] hd hw rfl rfl hl rfl (by rw [List.nil_append, remH_nil]; exact h)
theorem o_loc {F F' : Heap} {v : V} (ks : List Nat) (hw : wantedV all ρ o = some true) (hd : dstB N o = true) (hks : nodupB ks = true) (hF : selH ks H = some F) (hl : Loc P o ρ F v F') (hfr : freshB F' ks H = true)
  (h : OpsV c P r N all Q rest (putE o.dst v ρ) (F' ++ remH ks H) ds) : OpsV c P r N all Q (o :: rest) ρ H ds := ov_any ks hd hw hks hF hl hfr h
theorem d_runs (n i : Nat) (δ : Env) (nw : List FP) (hi : all.drop i = l) (hr : runD P all N i (l.take n) ρ H done = some (δ ++ ρ, H, nw ++ done)) (h : DrawV P N all (nw ++ done) (l.drop n) (δ ++ ρ) H K) : DrawV P N all done l ρ H K := d_run n i _ _ hi hr h
theorem d_runh (n i : Nat) (δ : Env) (H' : Heap) (nw : List FP) (hi : all.drop i = l) (hr : runD P all N i (l.take n) ρ H done = some (δ ++ ρ, H', nw ++ done)) (h : DrawV P N all (nw ++ done) (l.drop n) (δ ++ ρ) H' K) : DrawV P N all done l ρ H K := d_run n i _ _ hi hr h
theorem d_pure {v : V} (i : Nat) (hi : (all.length - (rest.length + 1)) = i) (hlen : Nat.ble (rest.length + 1) all.length = true) (ho : all[i]? = some o) (hn : notDefer o.op = true) (hw : wantedV all ρ o = some true) (hd : dstB N o = true) (hl : Loc P o ρ [] v [])
  (h : DrawV P N all (⟨i, [], []⟩ :: done) rest (putE o.dst v ρ) H K) : DrawV P N all done (o :: rest) ρ H K :=
 d_loc (F := []) (R := []) (F' := []) i [] [] hi hlen ho hn hd hw rfl rfl rfl rfl rfl rfl hl (by rw [List.nil_append, remH_nil]; exact h)
def pfp : Nat → Nat → List FP
 | 0, _ => []
 | n + 1, i => ⟨i, [], []⟩ :: pfp n (i - 1)
theorem vr_text {id : Nat} (h : OpsV c P r N l Q l ρ H ds) : WpV c P r N (.region id l.toArray false) Q ρ H ds := v_region h

/- ways meet -/
def Cut (K0 : List Nat) (ρ' : Env) (H' : Heap) (ρ1 : Env) (H1 : Heap) : Prop := ∀ (c : Ctx K0) ρr w, SimA c ρ' H' ρr w → SimA c ρ1 H1 ρr w
theorem Cut.trans {K0 : List Nat} {ρ1 ρ2 ρ3 : Env} {H1 H2 H3 : Heap} (h : Cut K0 ρ1 H1 ρ2 H2) (k : Cut K0 ρ2 H2 ρ3 H3) : Cut K0 ρ1 H1 ρ3 H3 := fun c ρr w S => k c ρr w (h c ρr w S)
theorem Cut.refl {K0 : List Nat} {ρ1 : Env} {H1 : Heap} : Cut K0 ρ1 H1 ρ1 H1 := fun _ _ _ S => S
theorem cut_of (ts ks : List Nat) {ρ1 : Env} {H1 : Heap} (hρ : selE ts ρ = ρ1) (hH : selH ks H = some H1) (hpr : prunable K0 ts ks ρ H1 = true) : Cut K0 ρ H ρ1 H1 := fun c ρr w S => by subst hρ; exact S.prune ts ks hH hpr
theorem cut_freeze {F ρ1 : Heap} (ks : List Nat) (hks : nodupB ks = true) (hF : selH ks H = some F) (hρ1 : frz F ++ remH ks H = ρ1) : Cut K0 ρ H ρ ρ1 := fun c ρr w S => by subst hρ1; exact S.freeze ks hks hF
theorem cut_nilRow (t d e sz : Nat) (hsz : Nat.ble 1 sz = true) (ht : ρ.get t = .nils) (hd : hasKey d H = false) : Cut K0 ρ H ((t, .sl sz d 0 0 0) :: ρ) ((d, .row e sz 0 []) :: H) := fun c ρr w S => S.nilRow t d e sz hsz ht hd
theorem SimA.view {ρr : Slots} {w : World} {t : Nat} {v : V} (R : Heap) (ks : List Nat) (hR : selH ks H = some R) (hfz : frz R = R) (hv : View R (ρ.get t) v) (S : SimA c ρ H ρr w) : SimA c ((t, v) :: ρ) H ρr w := by
 obtain ⟨m, Z, S, hr⟩ := S
 refine ⟨m, Z, S, fun u => ?_⟩
 show Rep (some m) Z (bif Nat.beq u t then v else ρ.get u) (ρr u)
 cases hb : Nat.beq u t with
 | false => exact hr u
 | true =>
  have := Nat.eq_of_beq_eq_true hb
  subst this
  refine hv.rep (F := R) (w := w) (fun k t' sz fz els hg => ?_) (hr u)
  have hmem := Heap.get_mem hg
  have h1 := S.step.sim.holds _ ((selH_mem hR).2 _ hmem)
  have : fz = els.length := by
   rw [← hfz] at hmem
   rcases mem_frz hmem with ⟨k', t'', sz', fz', els', h2, h3⟩ | ⟨h2, h3⟩
   ·simp only [Prod.mk.injEq, Obj.row.injEq] at h3
    obtain ⟨_, _, _, e1, e2⟩ := h3
    rw [e1, e2]
   ·exact absurd rfl (h3 t' sz fz els)
  subst this
  exact h1
theorem cut_view {t : Nat} {v : V} (R : Heap) (ks : List Nat) (hR : selH ks H = some R) (hfz : frz R = R) (hv : View R (ρ.get t) v) : Cut K0 ρ H ((t, v) :: ρ) H := fun c ρr w S => S.view R ks hR hfz hv
theorem cut_eq (t : Nat) {v v' : V} (h1 : ρ.get t = v) (h2 : v = v') : Cut K0 ρ H ((t, v') :: ρ) H := fun c ρr w S => by
 subst h2
 obtain ⟨m, Z, S, hr⟩ := S
 refine ⟨m, Z, S, fun u => ?_⟩
 show Rep (some m) Z (bif Nat.beq u t then v else ρ.get u) (ρr u)
 cases hb : Nat.beq u t with
 | false => exact hr u
 | true =>
  have := Nat.eq_of_beq_eq_true hb
  subst this
  rw [← h1]; exact hr u
theorem v_to (ρ1 : Env) (H1 : Heap) (h : Cut K0 ρ H ρ1 H1) (k : WpV c P r N x Q ρ1 H1 ds) : WpV c P r N x Q ρ H ds := fun ρr w ds1 S hM => k ρr w ds1 (h c ρr w S) hM
theorem o_to (ρ1 : Env) (H1 : Heap) (h : Cut K0 ρ H ρ1 H1) (k : OpsV c P r N all Q l ρ1 H1 ds) : OpsV c P r N all Q l ρ H ds := fun ρr w ds1 S hM => k ρr w ds1 (h c ρr w S) hM
def joinV {S : Type} (K0 : List Nat) (ds : List Deferred) (p : S → Prop) (ρ1 : S → Env) (H1 : S → Heap) (Q : PostV) : PostV
 | .normal, ρ', H', ds' => ∃ s, p s ∧ ds' = ds ∧ Cut K0 ρ' H' (ρ1 s) (H1 s)
 | e, ρ', H', ds' => Q e ρ' H' ds'
theorem v_join {S : Type} (p : S → Prop) (ρ1 : S → Env) (H1 : S → Heap) (h1 : WpV c P r N x (joinV K0 ds p ρ1 H1 Q) ρ H ds) (h2 : ∀ s, p s → Q .normal (ρ1 s) (H1 s) ds) : WpV c P r N x Q ρ H ds :=
 fun ρr w ds1 SA hM => w_mono (h1 ρr w ds1 SA hM) fun e ρr' ds' w' ⟨ρ', H', S', hM', hQ⟩ => by
  cases e with
  | normal =>
   obtain ⟨s, hp, _, hc⟩ := hQ
   exact ⟨_, _, hc c _ _ S', hM', h2 s hp⟩
  | exit id => exact ⟨ρ', H', S', hM', hQ⟩
  | goto l => exact ⟨ρ', H', S', hM', hQ⟩
  | ret => exact ⟨ρ', H', S', hM', hQ⟩
  | panic ch => exact ⟨ρ', H', S', hM', hQ⟩
  | outgrown => exact ⟨ρ', H', S', hM', hQ⟩
theorem nrm_join {S : Type} {p : S → Prop} {ρ1 : S → Env} {H1 : S → Heap} (s : S) (hp : p s) (h : Cut K0 ρ H (ρ1 s) (H1 s)) : joinV K0 ds p ρ1 H1 Q .normal ρ H ds := ⟨s, hp, rfl, h⟩
theorem ret_join {S : Type} {p : S → Prop} {ρ1 : S → Env} {H1 : S → Heap} (h : Q .ret ρ H ds) : joinV K0 ds p ρ1 H1 Q .ret ρ H ds := h
def headV {G : Type} (K0 : List Nat) (ds : List Deferred) (env : G → Env) (hp : G → Heap) (Inv : G → Prop) (μ : G → Nat) (g : G) (Q : PostV) : PostV
 | .normal, ρ', H', ds' => ds' = ds ∧ ∃ g', Inv g' ∧ μ g' < μ g ∧ Cut K0 ρ' H' (env g') (hp g')
 | e, ρ', H', ds' => Q e ρ' H' ds'
theorem v_rounds {G : Type} (env : G → Env) (hp : G → Heap) (Inv : G → Prop) (μ : G → Nat) (g0 : G) (hi : Inv g0) (h0 : Cut K0 ρ H (env g0) (hp g0))
  (hround : ∀ g, Inv g → WpV c P r N x (headV K0 ds env hp Inv μ g Q) (env g) (hp g) ds) : WpV c P r N (.loop x) Q ρ H ds := by
 refine v_to _ _ h0 ?_
 refine v_loop env hp Inv μ g0 hi fun g hg => ?_
 intro ρr w ds1 SA hM
 refine w_mono (hround g hg ρr w ds1 SA hM) fun e ρr' ds' w' ⟨ρ', H', S', hM', hQ⟩ => ?_
 cases e with
 | normal =>
  obtain ⟨_, g', hi', hlt, hc⟩ := hQ
  exact ⟨_, _, hc c _ _ S', hM', rfl, g', rfl, rfl, hi', hlt⟩
 | exit id => exact ⟨ρ', H', S', hM', hQ⟩
 | goto l => exact ⟨ρ', H', S', hM', hQ⟩
 | ret => exact ⟨ρ', H', S', hM', hQ⟩
 | panic ch => exact ⟨ρ', H', S', hM', hQ⟩
 | outgrown => exact ⟨ρ', H', S', hM', hQ⟩
theorem nrm_head {G : Type} {env : G → Env} {hp : G → Heap} {Inv : G → Prop} {μ : G → Nat} {g : G} (g' : G) (hi : Inv g') (hμ : μ g' < μ g) (h : Cut K0 ρ H (env g') (hp g')) : headV K0 ds env hp Inv μ g Q .normal ρ H ds :=
 ⟨rfl, g', hi, hμ, h⟩
theorem ret_head {G : Type} {env : G → Env} {hp : G → Heap} {Inv : G → Prop} {μ : G → Nat} {g : G} (h : Q .ret ρ H ds) : headV K0 ds env hp Inv μ g Q .ret ρ H ds := h
theorem exit_head {G : Type} {env : G → Env} {hp : G → Heap} {Inv : G → Prop} {μ : G → Nat} {g : G} {id : Nat} (h : Q (.exit id) ρ H ds) : headV K0 ds env hp Inv μ g Q (.exit id) ρ H ds := h
def fuelV {S Z : Type} (K0 : List Nat) (ds : List Deferred) (env : S → Env) (hp : S → Heap) (L : Nat → S → Option Z) (z : Z) (n : Nat) (q : S) (Q : PostV) : PostV :=
 headV K0 ds (fun g : Nat × S => env g.2) (fun g => hp g.2) (fun g => L g.1 g.2 = some z) (fun g => g.1) (n + 1, q) Q
theorem v_fuel {S Z : Type} (env : S → Env) (hp : S → Heap) (L : Nat → S → Option Z) {z : Z} (h00 : ∀ q, L 0 q = none) (n : Nat) (s0 : S) (hs : L n s0 = some z) (h0 : Cut K0 ρ H (env s0) (hp s0))
  (hround : ∀ K q, L (K + 1) q = some z → WpV c P r N x (fuelV K0 ds env hp L z K q Q) (env q) (hp q) ds) : WpV c P r N (.loop x) Q ρ H ds :=
 v_rounds (fun g : Nat × S => env g.2) (fun g => hp g.2) (fun g => L g.1 g.2 = some z) (fun g => g.1) (n, s0) hs h0 fun g hg => by
  obtain ⟨K, q⟩ := g
  cases K with
  | zero => rw [h00] at hg; cases hg
  | succ K => exact hround K q hg
theorem nrm_fuel {S Z : Type} {env : S → Env} {hp : S → Heap} {L : Nat → S → Option Z} {z : Z} {Kn : Nat} {q : S} (q' : S) (hs : L Kn q' = some z) (h : Cut K0 ρ H (env q') (hp q')) :
  fuelV K0 ds env hp L z Kn q Q .normal ρ H ds := nrm_head (Kn, q') hs (Nat.lt_succ_self _) h
theorem ret_fuel {S Z : Type} {env : S → Env} {hp : S → Heap} {L : Nat → S → Option Z} {z : Z} {Kn : Nat} {q : S} (h : Q .ret ρ H ds) : fuelV K0 ds env hp L z Kn q Q .ret ρ H ds := ret_head h
theorem exit_fuel {S Z : Type} {env : S → Env} {hp : S → Heap} {L : Nat → S → Option Z} {z : Z} {Kn : Nat} {q : S} {id : Nat} (h : Q (.exit id) ρ H ds) : fuelV K0 ds env hp L z Kn q Q (.exit id) ρ H ds := exit_head h
theorem fin_ret {fn : Func} {rv : V} {F' : Heap} (hr : resV fn ρ H P = some rv) (hs : selH (keys F') H = some F') (hf : finB rv F' K0 = true) : finV P fn K0 rv F' .ret ρ H [] := ⟨rfl, hr, hs, hf⟩
theorem fin_nrm {fn : Func} {rv : V} {F' : Heap} (h : finV P fn K0 rv F' .ret ρ H ds) : finV P fn K0 rv F' .normal ρ H ds := h
end
section
variable {P : Program} {ρ : Env} {dst : Option Tmp} {ty : TypeId} {pos : String} {aft : Array Edge} {gd : Option (Nat × Bool)}
theorem loc_lenVs {t sz n : Nat} {x : Operand} {els : List (List V)} (ht : sliceT P t = true) (hx : evV ρ x = .vs sz els) (hn : els.length = n) : Loc P ⟨dst, .call ⟨.builtin .len, #[x], #[t]⟩, ty, pos, aft, gd⟩ ρ [] (.int .i64 n) [] := by
 subst hn
 refine loc_pure ?_
 simp [pureV, biV, hx, lenV, ht]
theorem loc_appendT {t e sz bytes n : Nat} {x y : Operand} {k fz L : Nat} {els ys all : List (List V)} {R : Heap} (hT : elemT2 P t = some (e, sz, bytes)) (hx : evV ρ x = .sl sz k L 0 L) (hL : els.length = L) (hy : Src sz R (evV ρ y) ys)
  (h1 : ∀ c ∈ ys, c.all V.one = true) (hkl : ∀ c ∈ ys, c.length = sz) (hkR : hasKey k R = false) (hall : els ++ ys = all) (hn : all.length = n) (hlen : n * bytes ≤ 140737488355328) (h63 : n ≤ 9223372036854775807) :
  Loc P ⟨dst, .call ⟨.builtin .append, #[x, y], #[t, t]⟩, ty, pos, aft, gd⟩ ρ ((k, .row e sz fz els) :: R) (.sl sz k n 0 n) ((k, .row e sz fz all) :: R) := by
 subst hall; subst hn
 have hl : (els ++ ys).length = els.length + ys.length := by simp
 exact loc_append hT hx hL.symm hy h1 (by rw [← hl]; exact hlen) (by rw [← hl]; exact h63) hkR hkl
theorem loc_indexRowT {t e sz kk L n : Nat} {x ix : Operand} {k : IntKind} {i : Int} (ht : elemT P t = some (e, sz)) (hx : evV ρ x = .sl sz kk L 0 n) (hi : evV ρ ix = .int k i) (h0 : 0 ≤ i) (h1 : i < n) :
  Loc P ⟨dst, .indexAddr t x ix, ty, pos, aft, gd⟩ ρ [] (.ptr kk L (i.toNat * sz + 0)) [] := by
 have := loc_indexRow (P := P) (ρ := ρ) (dst := dst) (ty := ty) (pos := pos) (aft := aft) (gd := gd) ht hx hi h0 h1
 rwa [Nat.zero_mul, Nat.zero_add] at this
theorem loc_storeRowT {t et sz fz k L off : Nat} {a x : Operand} {els all : List (List V)} {cs c' : List V} (i j : Nat) (ha : evV ρ a = .ptr k L off) (hL : L = els.length) (hoff : off = i * sz + j) (hc : els[i]? = some cs) (hfz : fz ≤ i)
  (hp : (evV ρ x).plain = true) (h1 : (evV ρ x).cells.all V.one = true) (hrf : (evV ρ x).refs = []) (hsz : sizeOfT P t (evV ρ x).cells.length = true) (hfit : Nat.ble (j + (evV ρ x).cells.length) sz = true) (hc' : cs.take j ++ (evV ρ x).cells ++ cs.drop (j + (evV ρ x).cells.length) = c') (hall : els.set i c' = all) :
  Loc P ⟨dst, .store t a x, ty, pos, aft, gd⟩ ρ [(k, .row et sz fz els)] .no [(k, .row et sz fz all)] := by
 subst hc'; subst hall
 exact loc_storeRow i j ha hL hoff hc hfz hp h1 hrf hsz (Nat.le_of_ble_eq_true hfit)
theorem loc_sliceVsT {t e sz : Nat} {x : Operand} {lo hi : Option Operand} {l h : Int} {els all : List (List V)} (ht : elemT P t = some (e, sz)) (hx : evV ρ x = .vs sz els) (hl : bndV ρ lo 0 l) (hh : bndV ρ hi els.length h) (h0 : 0 ≤ l) (h1 : l ≤ h) (h2 : h ≤ els.length) (hall : (els.take h.toNat).drop l.toNat = all) :
  Loc P ⟨dst, .slice t x lo hi none, ty, pos, aft, gd⟩ ρ [] (.vs sz all) [] := by subst hall; exact loc_sliceVs ht hx hl hh h0 h1 h2
theorem map_get {α : Type} [Inhabited α] (enc : α → List V) {l : List α} {i : Nat} (h : i < l.length) : (l.map enc)[i]? = some (enc (l.getD i default)) := by
 rw [List.getElem?_map, List.getElem?_eq_getElem h, List.getD_eq_getElem?_getD, List.getElem?_eq_getElem h]; rfl
theorem map_ones {α : Type} (enc : α → List V) (h : ∀ a, (enc a).all V.one = true) (l : List α) : ∀ c ∈ l.map enc, c.all V.one = true := fun c hc => by
 obtain ⟨a, _, rfl⟩ := List.mem_map.1 hc; exact h a
theorem map_lens {α : Type} (enc : α → List V) {k : Nat} (h : ∀ a, (enc a).length = k) (l : List α) : ∀ c ∈ l.map enc, c.length = k := fun c hc => by
 obtain ⟨a, _, rfl⟩ := List.mem_map.1 hc; exact h a
end
section
variable {P : Program} {ρ : Env} {dst : Option Tmp} {ty : TypeId} {pos : String} {aft : Array Edge} {gd : Option (Nat × Bool)} {f : FuncId} {l : List Operand} {ts : Array TypeId} {args vs : List V} {F F' R : Heap} {r : V}
end
/- words of the shallow functions that may fail -/
def idx {α : Type} [Inhabited α] (l : List α) (i : Int) : Option α := if 0 ≤ i ∧ i < l.length then some (l.getD i.toNat default) else none
def cut {α : Type} (l : List α) (lo hi : Int) : Option (List α) := if 0 ≤ lo ∧ lo ≤ hi ∧ hi ≤ l.length then some ((l.take hi.toNat).drop lo.toNat) else none
def grd (p : Prop) [Decidable p] : Option Unit := if p then some () else none
theorem idx_some {α : Type} [Inhabited α] {l : List α} {i : Int} {x : α} (h : idx l i = some x) : 0 ≤ i ∧ i < l.length ∧ x = l.getD i.toNat default := by
 unfold idx at h
 split at h
 ·rename_i hc; cases h; exact ⟨hc.1, hc.2, rfl⟩
 ·cases h
theorem cut_some {α : Type} {l : List α} {lo hi : Int} {x : List α} (h : cut l lo hi = some x) : 0 ≤ lo ∧ lo ≤ hi ∧ hi ≤ l.length ∧ x = (l.take hi.toNat).drop lo.toNat := by
 unfold cut at h
 split at h
 ·rename_i hc; cases h; exact ⟨hc.1, hc.2.1, hc.2.2, rfl⟩
 ·cases h
theorem grd_some {p : Prop} [Decidable p] {u : Unit} (h : grd p = some u) : p := by
 unfold grd at h
 split at h
 ·assumption
 ·cases h
theorem bind_some {α β : Type} {o : Option α} {f : α → Option β} {r : β} (h : o.bind f = some r) : ∃ a, o = some a ∧ f a = some r := Option.bind_eq_some_iff.1 h
theorem bif_t {α : Type} {b : Bool} {x y r : α} (h : b = true) (hs : (bif b then x else y) = r) : x = r := by rw [h] at hs; exact hs
theorem bif_f {α : Type} {b : Bool} {x y r : α} (h : b = false) (hs : (bif b then x else y) = r) : y = r := by rw [h] at hs; exact hs
def KK : Nat := 18446744073709551616
abbrev w64 (n : Int) : Int := IntKind.i64.wrap n
def encK (k : IntKind) (n : Int) : List V := [.int k n]
def encL {α : Type} (sz : Nat) (enc : α → List V) (l : List α) : List V := [.vs sz (l.map enc)]
def encI (n : Int) : List V := [.int .i64 n]
def encU8 (n : Int) : List V := [.int .u8 n]
def encB (b : Bool) : List V := [.bool b]
def encS (s : List UInt8) : List V := [.str s]
end Go.EV
namespace Go.EV
open Go Go.RowKit Go.Eng
def CallV (P : Program) (o : Oper) (ρ : Env) (f : FuncId) (vs : List V) : Prop :=
 ∀ ρr m Z w, (∀ x ∈ o.op.operands, Rep (some m) Z (evV ρ x) (ev ρr x)) → ∃ vals : List Value, RepL (some m) Z vs vals ∧ ∀ Rr : Value → World → Prop, (Calls P f vals.toArray w fun en w' => ∃ x, en = .returned x ∧ Rr x w') → Exec P o ρr w Rr
section
variable {P : Program} {ρ : Env} {dst : Option Tmp} {ty : TypeId} {pos : String} {aft : Array Edge} {gd : Option (Nat × Bool)} {f : FuncId} {l : List Operand} {ts : Array TypeId} {args : List V} {F F' R : Heap} {r : V}
theorem callV_func {vs : List V} (hf : hasBody P f) (he : l.map (evV ρ) = vs) : CallV P ⟨dst, .call ⟨.value (.func f), l.toArray, ts⟩, ty, pos, aft, gd⟩ ρ f vs := fun ρr m Z w hops => by
 subst he
 exact ⟨_, RepL.tmps (ρ := ρ) l fun x hx => hops x (by simp [Op.operands, Call.operands, hx]), fun Rr h => exec_call hf h⟩
theorem run_callF {ρr : Slots} {w : World} {x : Operand} {l1 l2 : List Value} (hx : ev ρr x = .func (.func f) l1.toArray l2.toArray) (hf : hasBody P f) :
  (execOp (ev ρr) ⟨dst, .call ⟨.value x, l.toArray, ts⟩, ty, pos, aft, gd⟩).run P w = .ok (.enter f (l1 ++ l.map (ev ρr) ++ l2).toArray) w := by
 obtain ⟨fn, h1, h2, h3⟩ := hf
 have h2' : ¬ fn.name = "runtime.NumGoroutine" := by simpa using h2
 have h3' : ¬ fn.body = none := by intro e; rw [e] at h3; cases h3
 simp [execOp, resolve, hx, Deferred.ofValue, invoke, callFunc, program, Sem.run, h1, h2', h3']
theorem callV_val {vs first caps : List V} {x : Operand} (hf : hasBody P f) (hx : evV ρ x = .fn f first caps) (he : first ++ l.map (evV ρ) ++ caps = vs) : CallV P ⟨dst, .call ⟨.value x, l.toArray, ts⟩, ty, pos, aft, gd⟩ ρ f vs := fun ρr m Z w hops => by
 subst he
 have h := hops x (by simp [Op.operands, Call.operands])
 rw [hx] at h
 obtain ⟨l1, l2, e, h1, h2⟩ := h
 exact ⟨l1 ++ l.map (ev ρr) ++ l2, (h1.append (RepL.tmps (ρ := ρ) l fun x hx => hops x (by simp [Op.operands, Call.operands, hx]))).append h2, fun Rr h => ⟨rfl, .inr (.inr ⟨f, _, w, run_callF e hf, h⟩)⟩⟩
theorem loc_gcall {o : Oper} {vs : List V} (σ : List (Nat × Nat)) (hc : CallV P o ρ f vs) (h : FnA P f args F r F') (hv : ViewL R vs (renL (asg σ) args)) (hR : frz R = R) (hσ : nodupB ((keys F').map (asg σ)) = true) (hcl : closedB args F = true) (hsub : ((keys F).all (keys F').contains) = true)
  (hap : ((keys (renH (asg σ) F')).all fun k => !(hasKey k R)) = true) :
  Loc P o ρ (renH (asg σ) F ++ R) (r.ren (asg σ)) (renH (asg σ) F' ++ R) := by
 intro ρr m Z w hops hs hnew
 obtain ⟨vals, hvals, hex⟩ := hc ρr m Z w hops
 have hRk : ∀ k t sz fz els, R.get k = some (.row t sz fz els) → Holds m Z w k (.row t sz els.length els) := fun k t sz fz els hg => by
  have hmem := Heap.get_mem hg
  have h1 := hs.holds _ (List.mem_append_right _ hmem)
  have : fz = els.length := by
   rw [← hR] at hmem
   rcases mem_frz hmem with ⟨k', t', sz', fz', els', h2, h3⟩ | ⟨h2, h3⟩
   ·simp only [Prod.mk.injEq, Obj.row.injEq] at h3
    obtain ⟨_, _, _, e1, e2⟩ := h3
    rw [e1, e2]
   ·exact absurd rfl (h3 t sz fz els)
  subst this
  exact h1
 have hvals' := ViewL.rep hRk hv hvals
 have hapk : ∀ p ∈ renH (asg σ) F', ∀ q ∈ R, p.1 ≠ q.1 := fun p hp q hq e => by
  have := (List.all_eq_true.1 hap) p.1 (mem_keys hp)
  simp only [Bool.not_eq_true'] at this
  rw [e, hasKey_iff.2 (mem_keys hq)] at this; cases this
 refine hex _ (Calls.mono (h.at hσ hcl hsub w m Z _ hs.left hvals' fun k hk hkF L => hnew k (by rw [keys_append]; exact List.mem_append_left _ hk) (fun h' => ?_) L) ?_)
 ·rw [keys_append, List.mem_append] at h'
  rcases h' with h' | h'
  ·exact hkF h'
  ·obtain ⟨p, hp, e1⟩ := List.mem_map.1 hk
   obtain ⟨q, hq, e2⟩ := List.mem_map.1 h'
   exact hapk p hp q hq (e1.trans e2.symm)
 ·rintro en w' ⟨x, m', Z', he, hst, hr⟩
  exact ⟨x, he, m', Z', Step.frame_rule hs hst hapk, hr⟩
theorem loc_gcallB {o : Oper} {vs : List V} (hc : CallV P o ρ f vs) (h : FnA P f args [] r []) (hv : ViewL R vs args) (hb : r.bare = true) (hrf : r.refs = []) (hrl : refsL args = []) :
  Loc P o ρ R r R := by
 intro ρr m Z w hops hs hnew
 obtain ⟨vals, hvals, hex⟩ := hc ρr m Z w hops
 have hst := Step.freeze hs
 have hvals1 : RepL (some m) (zfrz m Z R w) vs vals := hvals.up hst.zext (fun g e => by cases e; exact ⟨m, rfl, fun _ _ _ e => e⟩)
 have hRk : ∀ k t sz fz els, R.get k = some (.row t sz fz els) → Holds m (zfrz m Z R w) w k (.row t sz els.length els) := fun k t sz fz els hg => by
  refine hst.sim.holds (k, .row t sz els.length els) ?_
  have : ∀ (F : Heap), (k, Obj.row t sz fz els) ∈ F → (k, Obj.row t sz els.length els) ∈ frz F := fun F => by
   induction F with
   | nil => intro h; cases h
   | cons p F ih =>
    intro h
    obtain ⟨k', o'⟩ := p
    rcases List.mem_cons.1 h with h1 | h1
    ·cases h1; exact List.mem_cons_self ..
    ·cases o' <;> exact List.mem_cons_of_mem _ (ih h1)
  exact this R (Heap.get_mem hg)
 have hvals' := ViewL.rep hRk hv hvals1
 let m0 : M := fun _ _ => none
 have hvals0 : RepL (some m0) (zfrz m Z R w) args vals := hvals'.swap fun k hk => by rw [hrl] at hk; cases hk
 refine hex _ (Calls.mono (h w m0 (zfrz m Z R w) _ ⟨hst.sim.frozen, fun p hp => (by cases hp), List.nodup_nil, fun p hp => (by cases hp)⟩ hvals0 fun _ _ _ => rfl) ?_)
 rintro en w' ⟨x, m', Z', he, hst', hr⟩
 have hframe : ∀ b, b < w.heap.size → w'.heap[b]? = w.heap[b]? := fun b hb => hst'.frame b hb fun p hp => by cases hp
 refine ⟨x, he, m, Z, ⟨⟨fun a y ha => ?_, fun p hp => ?_, hs.nodup, hs.disj⟩, fun _ _ _ e => e, fun _ _ e => e, hst'.os, hst'.tape, hst'.output, hst'.size, fun b hb _ => hframe b hb, fun _ h => h, fun _ _ => rfl, fun p hp b hb => .inr ⟨p, hp, hb⟩, fun _ _ h => .inl h⟩, ?_⟩
 ·rw [cell_same (hframe _ (frozen_lt hs.frozen ha))]
  exact hs.frozen a y ha
 ·exact (hs.holds p hp).keep (fun _ _ _ e => e) rfl (fun _ _ e => e) fun b hb => ⟨hframe b ((hs.holds p hp).blk b hb), fun _ _ e _ => e⟩
 ·have h1 : Rep none Z' r x := Rep.flat r x hrf hr
  exact Rep.none_some (Rep.bare r x hb h1)
theorem loc_gcall0 {o : Oper} (hc : CallV P o ρ f args) (h : FnA P f args [] r []) (hrl : refsL args = []) : Loc P o ρ [] r [] := by
 intro ρr m Z w hops hs _
 obtain ⟨vals, hvals, hex⟩ := hc ρr m Z w hops
 let m0 : M := fun _ _ => none
 refine hex _ (Calls.mono (h w m0 Z _ ⟨hs.frozen, fun p hp => (by cases hp), List.nodup_nil, fun p hp => (by cases hp)⟩ (hvals.swap fun k hk => by rw [hrl] at hk; cases hk) fun _ _ _ => rfl) ?_)
 rintro en w' ⟨x, m', Z', he, hst, hr⟩
 refine ⟨x, he, m, Z', ?_, ?_⟩
 ·exact ⟨⟨hst.sim.frozen, fun p hp => (by cases hp), List.nodup_nil, fun p hp => (by cases hp)⟩, fun _ _ _ e => e, hst.zext, hst.os, hst.tape, hst.output, hst.size, fun b hb _ => hst.frame b hb (fun p hp => (by cases hp)), fun _ h => h, fun _ _ => rfl, fun p hp => (by cases hp), fun a x ha => (hst.znew a x ha).imp id (Or.imp id fun ⟨q, hq, _⟩ => (by cases hq))⟩
 ·refine hr.swap fun k _ L loc e => ?_
  have := hst.newk k (by simp [keys])
  rw [this] at e; cases e
theorem loc_g {o : Oper} (vs : List V) (σ : List (Nat × Nat)) {rv : V} {F1 F1' : Heap} (hc : CallV P o ρ f vs) (h : FnA P f args F r F') (hv : ViewL R vs (renL (asg σ) args)) (hR : frz R = R) (hσ : nodupB ((keys F').map (asg σ)) = true) (hcl : closedB args F = true) (hsub : ((keys F).all (keys F').contains) = true)
  (hap : ((keys (renH (asg σ) F')).all fun k => !(hasKey k R)) = true) (h1 : renH (asg σ) F ++ R = F1) (h2 : r.ren (asg σ) = rv) (h3 : renH (asg σ) F' ++ R = F1') : Loc P o ρ F1 rv F1' := by
 subst h1; subst h2; subst h3
 exact loc_gcall σ hc h hv hR hσ hcl hsub hap
end
end Go.EV
namespace Go.EV
open Go Go.RowKit Go.Eng

theorem flat_sing {α : Type} (f : α → V) : ∀ l : List α, (l.map fun a => [f a]).flatten = l.map f
 | [] => rfl
 | a :: l => by simp [flat_sing f l]
theorem repL_map {α : Type} {enc : α → V} {f : α → Value} {m : Option M} {Z : ZM} (h : ∀ a x, Rep m Z (enc a) x → x = f a) : ∀ {l : List α} {xs : List Value}, RepL m Z (l.map enc) xs → xs = l.map f
 | [], xs, hx => hx
 | a :: l, xs, hx => by
  obtain ⟨x, xs, rfl, h1, h2⟩ := hx
  rw [h a x h1, repL_map h h2]; rfl
theorem repL_of_map {α : Type} {enc : α → V} {f : α → Value} {m : Option M} {Z : ZM} (h : ∀ a, Rep m Z (enc a) (f a)) : ∀ l : List α, RepL m Z (l.map enc) (l.map f)
 | [] => rfl
 | a :: l => ⟨_, _, rfl, h a, repL_of_map h l⟩
section
variable {α : Type} [Inhabited α] {enc : α → V} {f : α → Value} {m : M} {Z : ZM} {w : World} {k e : Nat} {l l' : List α}
variable {P : Program} {F : FuncId}
end
/- Is a slice that is only read nil? Both answers must do where it is empty. -/
def nd {α : Type} [DecidableEq α] (p : Prop) [Decidable p] (A B : Option α) : Option α := if p then (if A = B then A else none) else B
theorem nd_some {α : Type} [DecidableEq α] {p : Prop} [Decidable p] {A B : Option α} {r : α} (h : nd p A B = some r) : (p → A = some r) ∧ B = some r := by
 unfold nd at h
 split at h
 ·split at h
  ·rename_i hab; exact ⟨fun _ => h, hab ▸ h⟩
  ·cases h
 ·rename_i hp; exact ⟨fun h' => absurd h' hp, h⟩
def nilLen : V → Option Nat
 | .vs _ els => some els.length
 | .sl _ _ _ _ n => some n
 | _ => none
theorem nil_or {m : M} {Z : ZM} {v : V} {X : Value} {n : Nat} (hn : nilLen v = some n) (h : Rep (some m) Z v X) : ∃ A c, X = .slice A n c ∧ (A = none → n = 0) := by
 cases v with
 | vs sz els =>
  obtain ⟨A, c, rfl, _, _, h4⟩ := h
  cases hn
  refine ⟨A, c, rfl, fun hA => ?_⟩
  rcases h4 with rfl | ⟨a, rfl, _⟩
  ·rfl
  ·cases hA
 | sl sz k L o n' =>
  obtain ⟨f, loc, _, _, _, _, h5⟩ := h
  cases hn
  rcases h5 with rfl | ⟨h0, A, rfl⟩ | ⟨h0, rfl, A, c, rfl, _⟩
  ·exact ⟨_, _, rfl, fun h => by cases h⟩
  ·rename_i h3 _
   obtain rfl : n = 0 := by omega
   exact ⟨A, 0, rfl, fun _ => rfl⟩
  ·exact ⟨A, c, rfl, fun _ => rfl⟩
 | _ => cases hn
section
variable {K0 : List Nat} {c : Ctx K0} {P : Program} {r : Option Nat} {N : Nat} {Q : PostV} {ρ : Env} {H : Heap} {ds : List Deferred} {all rest : List Oper} {ty : TypeId} {pos : String} {aft : Array Edge} {gd : Option (Nat × Bool)} {t t' : TypeId} {x y : Operand}
theorem o_isNil {d n : Nat} (hd : Nat.ble (d + 1) N = true) (ht : sliceT P t = true) (hx : nilLen (evV ρ x) = some n) (hy : evV ρ y = .nils) (hw : wantedV all ρ ⟨some d, .binOp .eql t x y t', ty, pos, aft, gd⟩ = some true)
  (h1 : n = 0 → OpsV c P r N all Q rest ((d, .bool true) :: ρ) H ds) (h2 : OpsV c P r N all Q rest ((d, .bool false) :: ρ) H ds) : OpsV c P r N all Q (⟨some d, .binOp .eql t x y t', ty, pos, aft, gd⟩ :: rest) ρ H ds := by
 rintro ρr w ds1 ⟨m, Z, S, hR⟩ hM
 have hX := hR.ev x
 obtain ⟨A, cp, hX, hA⟩ := nil_or hx hX
 have hY := hR.ev y
 rw [hy] at hY
 simp only [Rep] at hY
 have ht' : ∃ e, P.underlying t = some (.slice e) := by
  simp only [sliceT] at ht
  split at ht
  ·exact ⟨_, by assumption⟩
  ·cases ht
 obtain ⟨e, ht'⟩ := ht'
 have hrun : (execOp (ev ρr) ⟨some d, .binOp .eql t x y t', ty, pos, aft, gd⟩).run P w = .ok (.value (.bool A.isNone)) w := by
  have hq : ∀ k, (Op.equalIn (k + 1) t (.slice A n cp) (.slice none 0 0)).run P w = .ok A.isNone w := fun k => by cases A <;> simp [Op.equalIn, run_underlying ht']
  refine (run_via (dst := some d) (t' := t') (ty := ty) (pos := pos) (aft := aft) (gd := gd) (b := A.isNone) hX hY rfl rfl (hq 9999)).1
 refine ops_val d _ rfl hd (wanted_of hR hw) rfl hrun ?_
 cases A with
 | none => exact h1 (hA rfl) _ _ _ ⟨m, Z, S, hR.put d rfl⟩ hM
 | some a => exact h2 _ _ _ ⟨m, Z, S, hR.put d rfl⟩ hM
end
end Go.EV
namespace Go.EV
open Go Go.RowKit Go.Eng
section
variable {P : Program} {f : FuncId} {args : List V} {r : V}
theorem below_step {w w' : World} {m : M} {Z : ZM} (hf : ∀ a x, Z a = some x → w.cell? a = some x) (hb : Below w.heap.size w w') : Step m Z [] w m Z [] w' :=
 ⟨⟨fun a x ha => by rw [cell_same (hb.block _ (frozen_lt hf ha))]; exact hf a x ha, fun p hp => (by cases hp), List.nodup_nil, fun p hp => (by cases hp)⟩, fun _ _ _ h => h, fun _ _ h => h, hb.os, hb.tape, hb.output, hb.size, fun b hb' _ => hb.block b hb', fun _ h => h, fun _ _ => rfl, fun p hp => (by cases hp), fun _ _ h => .inl h⟩
end
end Go.EV
namespace Go.EV
open Go Go.RowKit Go.Eng
def byteT (P : Program) (src dst : TypeId) : Bool := match P.underlying src with
 | some (.slice e) => match P.underlying e with | some (.int .u8) => (match P.underlying dst with | some .string => true | _ => false) | _ => false
 | _ => false
theorem byteT_is {P : Program} {src dst : TypeId} (h : byteT P src dst = true) : ∃ e, P.underlying src = some (.slice e) ∧ P.underlying e = some (.int .u8) ∧ P.underlying dst = some .string := by
 unfold byteT at h
 split at h
 ·split at h
  ·split at h
   ·exact ⟨_, by assumption, by assumption, by assumption⟩
   ·cases h
  ·cases h
 ·cases h
def bytesOf (l : List Int) : List UInt8 := l.map fun n => UInt8.ofNat n.toNat
section
variable {P : Program} {ρ : Env} {dst : Option Tmp} {ty : TypeId} {pos : String} {aft : Array Edge} {gd : Option (Nat × Bool)}
theorem loc_bytesStr {s d k t fz L : Nat} {x : Operand} {l : List Int} (ht : byteT P s d = true) (hx : evV ρ x = .sl 1 k L 0 L) (hL : L = l.length) :
  Loc P ⟨dst, .convert s d x, ty, pos, aft, gd⟩ ρ [(k, .row t 1 fz (l.map (encK .u8)))] (.str (bytesOf l)) [(k, .row t 1 fz (l.map (encK .u8)))] := by
 intro ρr m Z w hops hs _
 have hX := hops x (by simp [Op.operands])
 rw [hx] at hX
 subst hL
 obtain ⟨f, loc, e1, e2, e3, e4, e5⟩ := hX
 cases e1
 obtain ⟨e, h1, h2, h3⟩ := byteT_is ht
 have hrun : ∀ X, ev ρr x = X → (convert s d X).run P w = .ok (.string ⟨(bytesOf l).toArray⟩) w → ∃ x', (execOp (ev ρr) ⟨dst, .convert s d x, ty, pos, aft, gd⟩).run P w = .ok (.value x') w ∧ ∃ m' Z', Step m Z [(k, .row t 1 fz (l.map (encK .u8)))] w m' Z' [(k, .row t 1 fz (l.map (encK .u8)))] w ∧ Rep (some m') Z' (.str (bytesOf l)) x' := fun X hX hr =>
  ⟨_, by simp [execOp, hX, hr], m, Z, Step.refl hs, rfl⟩
 have hnil : ∀ A c, l = [] → (convert s d (.slice A 0 c)).run P w = .ok (.string ⟨(bytesOf l).toArray⟩) w := fun A c h0 => by
  subst h0
  cases A with
  | none => exact run_convert_bytes_nil w s e h1 h2 0 c d h3
  | some a =>
   rw [run_convert_bytes_string w s d e _ 0 c h1 h2 h3, run_bytesToString w a 0 c [] (by have := run_loadCells_list (P := P) w a [] (fun j v hj => by simp at hj); simpa using this)]
   rfl
 refine ⟨rfl, .inl ?_⟩
 have hh := hs.holds _ (List.mem_singleton.2 rfl)
 by_cases h0 : l = []
 ·have : ∃ A c, ev ρr x = .slice A 0 c := by
   rcases e5 with h | ⟨_, A, h⟩ | ⟨_, _, A, c, h, _⟩
   ·subst h0; exact ⟨_, _, h⟩
   ·exact ⟨_, _, h⟩
   ·exact ⟨_, _, h⟩
  obtain ⟨A, c, hX⟩ := this
  obtain ⟨x', g1, g2⟩ := hrun _ hX (hnil A c h0)
  exact ⟨x', w, g1, g2⟩
 ·rcases hh with ⟨_, hn, _⟩ | ⟨b, cap, cur, fr, g1, g0, g2, g3, g4, g5, g6, g7, g8, g9, g10, g11, g12, g13⟩
  ·rw [List.map_eq_nil_iff] at hn; exact absurd hn h0
  ·simp only [List.length_map] at g1 g3 g7
   rw [g1] at e2; cases e2
   have hfl : (l.map (encK .u8)).flatten = l.map fun n => V.int .u8 n := flat_sing (fun n => V.int .u8 n) l
   rw [hfl, Nat.mul_one] at g7
   have htk := repL_map (enc := fun n => V.int .u8 n) (f := Value.int .u8) (m := none) (Z := Z) (fun a x h => h) g7
   rcases e5 with hX | ⟨hc, _⟩ | ⟨hc, _⟩
   ·have hcell : ∀ i, i < l.length → w.cell? ⟨b, 0 + i, none⟩ = some (.int .u8 (l.getD i 0)) := fun i hi => by
     rw [cell_of_row w b _ cur t fr g2, Nat.zero_add]
     have e7 : (cur.toList.take l.length)[i]? = (l.map (Value.int .u8))[i]? := by rw [htk]
     rw [List.getElem?_take, if_pos hi] at e7
     have e8 : cur[i]? = cur.toList[i]? := by simp
     rw [e8, e7]; simp [List.getD_eq_getElem?_getD, List.getElem?_eq_getElem hi]
    have := run_convert_bytes_arg w s e h1 h2 b 0 l.length (cap - 0) l rfl hcell d h3
    obtain ⟨x', k1, k2⟩ := hrun _ (by simpa using hX) (by simp only [Nat.sub_zero] at this; exact this)
    exact ⟨x', w, k1, k2⟩
   ·simp only at hc; omega
   ·omega
end
end Go.EV
namespace Go.EV
open Go Go.RowKit Go.Eng Go.Lib
def strRows (s : List UInt8) : List (List V) := s.map fun b => [.int .u8 b.toNat]
section
variable {P : Program} {ρ : Env} {dst : Option Tmp} {ty : TypeId} {pos : String} {aft : Array Edge} {gd : Option (Nat × Bool)}
end
end Go.EV
namespace Go.EV
open Go Go.RowKit Go.Eng
def toUnsB (P : Program) (s d : TypeId) : Bool := match P.underlying s with
 | some (.pointer e) => match P.underlying d with
  | some .unsafePointer => match P.info? e with
   | some i => Nat.ble 1 i.size
   | none => false
  | _ => false
 | _ => false
def fromUnsB (P : Program) (s d bt n off : Nat) : Bool := match P.underlying s with
 | some .unsafePointer => match P.underlying d with
  | some (.pointer u) => match P.info? u with
   | some _ => liesAt P P.depth bt (n / P.cellsOf bt) off u 1
   | none => false
  | _ => false
 | _ => false
def ptrB (P : Program) (t : TypeId) : Bool := match P.underlying t with
 | some (.pointer e) => (P.info? e).isSome
 | _ => false
def NoEsc (P : Program) (f : FuncId) : Prop := ∃ fn, P.funcs[f]? = some fn ∧ (fn.name == "runtime.NumGoroutine") = false ∧ fn.body.isNone = true ∧ Extern.findNext fn = none ∧ Extern.find fn = some Extern.AbiNoEscape.same
section
variable {P : Program} {ρ : Env} {dst : Option Tmp} {ty : TypeId} {pos : String} {aft : Array Edge} {gd : Option (Nat × Bool)}
def ifaceT (P : Program) (t : TypeId) : Bool := match P.underlying t with | some (.interface _) => true | _ => false
def encY (b : UInt8) : List V := [.int .u8 b.toNat]
def cell1B (P : Program) (t pt : TypeId) : Bool := match P.underlying pt with | some (.pointer e) => Nat.beq e t && Nat.beq (P.cellsOf e) 1 | _ => false
def globB (G : Heap) : Bool := G.all fun p => match p.2 with | .glob _ _ cs => bareL cs | _ => false
theorem glob_of {G : Heap} (h : globB G = true) {p : Nat × Obj} (hp : p ∈ G) : ∃ g t cs, p.2 = .glob g t cs ∧ bareL cs = true := by
 have := (List.all_eq_true.1 h) p hp
 split at this
 ·exact ⟨_, _, _, by assumption, this⟩
 ·cases this
theorem SimH.right {m : M} {Z : ZM} {F G : Heap} {w : World} (h : SimH m Z (F ++ G) w) : SimH m Z G w := (h.perm List.perm_append_comm).left
theorem fnA_glob {f : FuncId} {args : List V} {r : V} {G : Heap} (hG : globB G = true) (hrl : refsL args = [])
  (h : ∀ w Z vals, (∀ a y, Z a = some y → w.cell? a = some y) → (∀ p ∈ G, ∀ g ob cs, p.2 = .glob g ob cs → ∃ cur u fr, w.heap[g]? = some (.cells cur u fr) ∧ RepL none Z cs cur.toList) → RepL none Z args vals → Calls P f vals.toArray w fun en w' => ∃ x, en = .returned x ∧ (∀ m, Rep m Z r x) ∧ Below w.heap.size w w') : FnA P f args G r G := by
 intro w m Z vals hs hv hfr
 refine Calls.mono (h w Z vals hs.frozen (fun p hp g ob cs hl => by have hh := hs.holds p hp; rw [hl] at hh; obtain ⟨_, ⟨h2, cur, u, fr, h5, h3⟩, _⟩ := hh; exact ⟨cur, u, fr, by rw [h2, h5], h3⟩) (RepL.flat args vals hrl hv)) ?_
 rintro en w' ⟨x, he, hr, hb⟩
 refine ⟨x, m, Z, he, ?_, hr _⟩
 have := Step.frame_rule (F := []) (F' := []) (G := G) hs (below_step hs.frozen hb) (fun p hp => by cases hp)
 exact this
end
end Go.EV
namespace Go.EV
open Go Go.ChangeShapes Go.WideShapes Go.ChangeAt Go.RowKit Go.Deep Go.Joins Go.Eng
def tilesF (P : Program) : List Field → Nat → Option Nat
 | [], off => some off
 | f :: r, off => if Nat.beq f.offset off then tilesF P r (off + P.cellsOf f.type) else none
def tileT (P : Program) (t : TypeId) : Bool := match P.underlying t with
 | some (.struct fs) => match tilesF P fs.toList 0 with | some n => Nat.beq n (P.cellsOf t) | none => false
 | some (.array m e) => Nat.beq (m * P.cellsOf e) (P.cellsOf t)
 | _ => true
def childB (P : Program) (t : TypeId) : Bool := match P.underlying t with
 | some (.struct fs) => fs.toList.all fun f => Nat.ble (f.type + 1) P.types.size
 | some (.array _ e) | some (.slice e) => Nat.ble (e + 1) P.types.size
 | _ => true
def tilesB (P : Program) : Bool := (List.range P.types.size).all fun t => tileT P t && childB P t
def plainT (P : Program) (t : TypeId) : Bool := match P.underlying t with
 | some .bool | some (.int _) | some .string | some (.slice _) | some (.struct _) | some (.array ..) => true
 | _ => false
inductive GoodC (P : Program) : TypeId → List V → Prop
 | bool {t : TypeId} {b : Bool} (h : P.underlying t = some .bool) : GoodC P t [.bool b]
 | int {t : TypeId} {k : IntKind} {n : Int} (h : P.underlying t = some (.int k)) (hw : (Lit.int k n).wf = true) : GoodC P t [.int k n]
 | str {t : TypeId} {s : List UInt8} (h : P.underlying t = some .string) (hl : s.length ≤ maxLen) : GoodC P t [.str s]
 | slice {t e : TypeId} {els : List (List V)} (h : P.underlying t = some (.slice e)) (hl : els.length ≤ maxLen) (hx : ∀ x ∈ els, GoodC P e x) : GoodC P t [.vs (P.cellsOf e) els]
 | struct {t : TypeId} {fs : Array Field} {cs : List V} (h : P.underlying t = some (.struct fs)) (hc : cs.length = P.cellsOf t) (hx : ∀ f ∈ fs.toList, GoodC P f.type ((cs.drop f.offset).take (P.cellsOf f.type))) : GoodC P t cs
 | array {t e : TypeId} {m : Nat} {cs : List V} (h : P.underlying t = some (.array m e)) (hc : cs.length = P.cellsOf t) (hx : ∀ i, i < m → GoodC P e ((cs.drop (i * P.cellsOf e)).take (P.cellsOf e))) : GoodC P t cs
 | other {t : TypeId} {cs : List V} (h : plainT P t = false) : GoodC P t cs
theorem listV_ex {α : Type} [Inhabited α] {p : Nat → α → Prop} : ∀ n : Nat, (∀ i, i < n → ∃ x, p i x) → ∃ l : List α, l.length = n ∧ ∀ i x, l[i]? = some x → p i x
 | 0, _ => ⟨[], rfl, fun i x h => by simp at h⟩
 | n + 1, h => by
  obtain ⟨l, hl, hp⟩ := listV_ex n (fun i hi => h i (by omega))
  obtain ⟨x, hx⟩ := h n (by omega)
  refine ⟨l ++ [x], by simp [hl], fun i y hy => ?_⟩
  rw [List.getElem?_append] at hy
  split at hy
  ·exact hp i y hy
  ·rename_i hlt
   have : i = n := by
    have := (List.getElem?_eq_some_iff.1 hy).1
    simp at this; omega
   subst this
   rw [hl, Nat.sub_self] at hy
   simp at hy; subst hy; exact hx
theorem undefs_rep {Z : ZM} : ∀ cs : List Value, RepL none Z (cs.map fun _ => V.undef) cs
 | [] => rfl
 | c :: cs => ⟨c, cs, rfl, trivial, undefs_rep cs⟩
theorem tile_fields {P : Program} {Z : ZM} (cs : List Value) : ∀ (fs : List Field) (off n : Nat), tilesF P fs off = some n → n ≤ cs.length →
  (∀ f ∈ fs, ∃ vs, GoodC P f.type vs ∧ RepL none Z vs ((cs.drop f.offset).take (P.cellsOf f.type))) →
  off ≤ n ∧ ∃ vs, vs.length = n - off ∧ RepL none Z vs ((cs.drop off).take (n - off)) ∧ ∀ f ∈ fs, off ≤ f.offset ∧ GoodC P f.type ((vs.drop (f.offset - off)).take (P.cellsOf f.type))
 | [], off, n, h, hn, _ => by
  simp only [tilesF, Option.some.injEq] at h
  subst h
  exact ⟨Nat.le_refl _, [], by simp, by simp [RepL], fun f hf => by cases hf⟩
 | f :: fs, off, n, h, hn, hx => by
  simp only [tilesF] at h
  split at h
  ·rename_i hb
   have hb := Nat.eq_of_beq_eq_true hb
   obtain ⟨h1, vs, h2, h3, h4⟩ := tile_fields cs fs _ n h hn (fun g hg => hx g (List.mem_cons_of_mem _ hg))
   obtain ⟨us, h5, h6⟩ := hx f (List.mem_cons_self ..)
   rw [hb] at h6
   have hul : us.length = P.cellsOf f.type := by
    have := h6.length
    rw [List.length_take, List.length_drop] at this; omega
   refine ⟨by omega, us ++ vs, by rw [List.length_append]; omega, ?_, fun g hg => ?_⟩
   ·have e : (cs.drop off).take (n - off) = (cs.drop off).take (P.cellsOf f.type) ++ (cs.drop (off + P.cellsOf f.type)).take (n - (off + P.cellsOf f.type)) := by
     rw [← List.drop_drop, show n - off = P.cellsOf f.type + (n - (off + P.cellsOf f.type)) by omega, List.take_add]
    rw [e]; exact h6.append h3
   ·rcases List.mem_cons.1 hg with rfl | hg
    ·refine ⟨by omega, ?_⟩
     rw [hb, Nat.sub_self, List.drop_zero, ← hul, List.take_left]; exact h5
    ·obtain ⟨h7, h8⟩ := h4 g hg
     refine ⟨by omega, ?_⟩
     rw [show g.offset - off = us.length + (g.offset - (off + P.cellsOf f.type)) by omega, List.drop_append]
     rw [List.drop_eq_nil_of_le (by omega), List.nil_append, show us.length + (g.offset - (off + P.cellsOf f.type)) - us.length = g.offset - (off + P.cellsOf f.type) by omega]
     exact h8
  ·cases h
theorem tile_array {P : Program} {Z : ZM} (cs : List Value) (e : TypeId) : ∀ (m off : Nat), off + m * P.cellsOf e ≤ cs.length →
  (∀ i, i < m → ∃ vs, GoodC P e vs ∧ RepL none Z vs ((cs.drop (off + i * P.cellsOf e)).take (P.cellsOf e))) →
  ∃ vs, vs.length = m * P.cellsOf e ∧ RepL none Z vs ((cs.drop off).take (m * P.cellsOf e)) ∧ ∀ i, i < m → GoodC P e ((vs.drop (i * P.cellsOf e)).take (P.cellsOf e))
 | 0, off, hn, _ => ⟨[], by simp, by simp [RepL], fun i hi => by omega⟩
 | m + 1, off, hn, hx => by
  rw [Nat.succ_mul] at hn
  obtain ⟨vs, h2, h3, h4⟩ := tile_array (P := P) cs e m (off + P.cellsOf e) (by omega) (fun i hi => by
   have := hx (i + 1) (by omega)
   rw [Nat.succ_mul, show off + (i * P.cellsOf e + P.cellsOf e) = off + P.cellsOf e + i * P.cellsOf e by omega] at this
   exact this)
  obtain ⟨us, h5, h6⟩ := hx 0 (by omega)
  rw [Nat.zero_mul, Nat.add_zero] at h6
  have hul : us.length = P.cellsOf e := by
   have := h6.length
   rw [List.length_take, List.length_drop] at this; omega
  refine ⟨us ++ vs, by rw [List.length_append, Nat.succ_mul]; omega, ?_, fun i hi => ?_⟩
  ·have e1 : (cs.drop off).take ((m + 1) * P.cellsOf e) = (cs.drop off).take (P.cellsOf e) ++ (cs.drop (off + P.cellsOf e)).take (m * P.cellsOf e) := by
    rw [← List.drop_drop, Nat.succ_mul, Nat.add_comm, List.take_add]
   rw [e1]; exact h6.append h3
  ·cases i with
   | zero => rw [Nat.zero_mul, List.drop_zero, ← hul, List.take_left]; exact h5
   | succ i =>
    have := h4 i (by omega)
    rw [Nat.succ_mul, show i * P.cellsOf e + P.cellsOf e = us.length + i * P.cellsOf e by omega, List.drop_append]
    rw [List.drop_eq_nil_of_le (by omega), List.nil_append, show us.length + i * P.cellsOf e - us.length = i * P.cellsOf e by omega]
    exact this
section
variable {H : Type} {enc : TypeId × Value → H} {P : Program} {w : World} {base : Nat} {spare : Nat → Bool} {held : Bool}
theorem good_of (hP : ∀ t, t < P.types.size → tileT P t = true ∧ childB P t = true) : ∀ (fuel : Nat) (t : TypeId) (cs : List Value) (x : DataW H × List MemPlace), t < P.types.size → DataW.trod enc P w base spare held fuel t cs = some x → ∃ vs, GoodC P t vs ∧ RepL none w.cell? vs cs
 | 0, t, cs, x, _, h => by simp [DataW.trod] at h
 | fuel + 1, t, cs, x, hlt, h => by
  obtain ⟨htile, hchild⟩ := hP t hlt
  unfold childB at hchild
  cases ht : P.underlying t with
  | none => exact ⟨_, .other (by unfold plainT; rw [ht]), undefs_rep cs⟩
  | some d =>
   have hother : plainT P t = false → ∃ vs, GoodC P t vs ∧ RepL none w.cell? vs cs := fun hp => ⟨_, .other hp, undefs_rep cs⟩
   cases d with
   | bool =>
    obtain ⟨b, rfl, _⟩ := DataW.trod_bool ht h
    exact ⟨[.bool b], .bool ht, _, _, rfl, rfl, rfl⟩
   | int k =>
    obtain ⟨n, rfl, _, hw⟩ := DataW.trod_int ht h
    exact ⟨[.int k n], .int ht hw, _, _, rfl, rfl, rfl⟩
   | string =>
    obtain ⟨s, rfl, _, hs⟩ := DataW.trod_string ht h
    exact ⟨[.str s.data.toList], .str ht (by simpa using hs), _, _, rfl, rfl, rfl⟩
   | slice e =>
    rcases DataW.trod_slice ht h with ⟨rfl, _⟩ | ⟨a, len, cap, elems, rest, n, hn, rfl, _, _, hl, hm, hlen, hel, _⟩
    ·exact ⟨[.vs (P.cellsOf e) []], .slice ht (Nat.zero_le _) (fun _ h => by cases h), _, _, rfl, ⟨none, 0, rfl, Nat.le_refl _, Nat.zero_le _, .inl rfl⟩, rfl⟩
    ·have hn : n = fuel := by omega
     subst hn
     obtain ⟨els, he, hp⟩ := listV_ex (α := List V) (p := fun i vs => GoodC P e vs ∧ vs.length = P.cellsOf e ∧ RepAt w.cell? (a.add (i * P.cellsOf e)) 0 vs) len (fun i hi => by
      have h1 := hel i hi
      rw [List.getElem?_eq_getElem (by omega)] at h1
      obtain ⟨cs', h2, h3⟩ := Option.bind_eq_some_iff.1 h1
      obtain ⟨_, h4, h5⟩ := World.cells?_some h2
      rw [ht] at hchild
      obtain ⟨vs, h6, h7⟩ := good_of hP n e cs' _ (Nat.le_of_ble_eq_true hchild) h3
      have h8 := h7.length
      refine ⟨vs, h6, by omega, RepAt.of_get fun j v hj => ?_⟩
      obtain ⟨u, h9, h10⟩ := h7.get hj
      rw [Nat.zero_add, h5 j (by have := (List.getElem?_eq_some_iff.1 hj).1; omega)]
      exact ⟨u, h9, h10⟩)
     refine ⟨[.vs (P.cellsOf e) els], .slice ht (by omega) (fun x hx => ?_), _, _, rfl, ⟨some a, cap, by rw [he], by omega, hm, .inr ⟨a, rfl, RepRows.of_get fun i cs' hi => ?_⟩⟩, rfl⟩
     ·obtain ⟨i, hi, rfl⟩ := List.getElem_of_mem hx
      exact (hp i _ (List.getElem?_eq_getElem hi)).1
     ·obtain ⟨_, h2, h3⟩ := hp i cs' hi
      rw [Nat.zero_add]; exact ⟨h2, h3⟩
   | struct fs =>
    obtain ⟨xs, n, hn, _, hc, hlen, hg⟩ := DataW.trod_struct ht h
    have hn : n = fuel := by omega
    subst hn
    have htl := htile
    unfold tileT at htl
    rw [ht] at htl hchild
    simp only at htl
    split at htl
    ·rename_i m hm
     have htl := Nat.eq_of_beq_eq_true htl
     obtain ⟨_, vs, h2, h3, h4⟩ := tile_fields (P := P) (Z := w.cell?) cs fs.toList 0 m hm (by omega) (fun f hf => by
      obtain ⟨i, hi, rfl⟩ := List.getElem_of_mem hf
      have h1 := hg i _ (by rw [← Array.getElem?_toList]; exact List.getElem?_eq_getElem hi)
      rw [List.getElem?_eq_getElem (by rw [hlen]; simpa using hi)] at h1
      exact good_of hP n _ _ _ (Nat.le_of_ble_eq_true ((List.all_eq_true.1 hchild) _ (List.getElem_mem _))) h1)
     rw [List.drop_zero, Nat.sub_zero, List.take_of_length_le (by omega)] at h3
     exact ⟨vs, .struct ht (by omega) (fun f hf => by have := (h4 f hf).2; rwa [Nat.sub_zero] at this), h3⟩
    ·cases htl
   | array m e =>
    obtain ⟨xs, n, hn, _, hc, hlen, hg⟩ := DataW.trod_array ht h
    have hn : n = fuel := by omega
    subst hn
    have htl := htile
    unfold tileT at htl
    rw [ht] at htl hchild
    have htl := Nat.eq_of_beq_eq_true htl
    obtain ⟨vs, h2, h3, h4⟩ := tile_array (P := P) (Z := w.cell?) cs e m 0 (by omega) (fun i hi => by
     have h1 := hg i hi
     rw [List.getElem?_eq_getElem (by omega)] at h1
     rw [Nat.zero_add]
     exact good_of hP n _ _ _ (Nat.le_of_ble_eq_true hchild) h1)
    rw [List.drop_zero, List.take_of_length_le (by omega)] at h3
    exact ⟨vs, .array ht (by omega) h4, h3⟩
   | _ => exact hother (by unfold plainT; rw [ht])
end
theorem tiles_of {P : Program} (h : tilesB P = true) : ∀ t, t < P.types.size → tileT P t = true ∧ childB P t = true := fun t ht => by
 have := (List.all_eq_true.1 h) t (List.mem_range.2 ht)
 rwa [Bool.and_eq_true] at this
section
variable {P : Program} {t e m : Nat} {fs : Array Field} {cs : List V} {k : IntKind}
theorem good_int (ht : P.underlying t = some (.int k)) (h : GoodC P t cs) : ∃ n, cs = [.int k n] ∧ (Lit.int k n).wf = true := by
 cases h with
 | int h hw => rw [ht] at h; cases h; exact ⟨_, rfl, hw⟩
 | bool h | str h | slice h | struct h | array h => rw [ht] at h; cases h
 | other h => unfold plainT at h; rw [ht] at h; cases h
theorem good_str (ht : P.underlying t = some .string) (h : GoodC P t cs) : ∃ s, cs = [.str s] ∧ s.length ≤ maxLen := by
 cases h with
 | str h hl => exact ⟨_, rfl, hl⟩
 | bool h | int h | slice h | struct h | array h => rw [ht] at h; cases h
 | other h => unfold plainT at h; rw [ht] at h; cases h
theorem good_slice (ht : P.underlying t = some (.slice e)) (h : GoodC P t cs) : ∃ els, cs = [.vs (P.cellsOf e) els] ∧ els.length ≤ maxLen ∧ ∀ x ∈ els, GoodC P e x := by
 cases h with
 | slice h hl hx => rw [ht] at h; cases h; exact ⟨_, rfl, hl, hx⟩
 | bool h | int h | str h | struct h | array h => rw [ht] at h; cases h
 | other h => unfold plainT at h; rw [ht] at h; cases h
theorem good_struct (ht : P.underlying t = some (.struct fs)) (h : GoodC P t cs) : cs.length = P.cellsOf t ∧ ∀ f ∈ fs.toList, GoodC P f.type ((cs.drop f.offset).take (P.cellsOf f.type)) := by
 cases h with
 | struct h hc hx => rw [ht] at h; cases h; exact ⟨hc, hx⟩
 | bool h | int h | str h | slice h | array h => rw [ht] at h; cases h
 | other h => unfold plainT at h; rw [ht] at h; cases h
theorem good_list {α : Type} {enc : α → List V} {ok : α → Prop} (h1 : ∀ c, GoodC P e c → ∃ a, c = enc a ∧ ok a) : ∀ {els : List (List V)}, (∀ x ∈ els, GoodC P e x) → ∃ l : List α, els = l.map enc ∧ ∀ a ∈ l, ok a
 | [], _ => ⟨[], rfl, fun _ h => by cases h⟩
 | c :: els, h => by
  obtain ⟨a, rfl, ha⟩ := h1 c (h c (List.mem_cons_self ..))
  obtain ⟨l, rfl, hl⟩ := good_list h1 (fun x hx => h x (List.mem_cons_of_mem _ hx))
  exact ⟨a :: l, rfl, fun b hb => by
   rcases List.mem_cons.1 hb with rfl | hb
   ·exact ha
   ·exact hl b hb⟩
end
def okK (k : IntKind) (n : Int) : Prop := (Lit.int k n).wf = true
theorem okK_i64 {n : Int} (h : okK .i64 n) : -9223372036854775808 ≤ n ∧ n ≤ 9223372036854775807 := by
 simp only [okK, Lit.wf, Bool.and_eq_true, decide_eq_true_eq] at h
 exact h
def okS (s : List UInt8) : Prop := s.length ≤ maxLen
def okLs {α : Type} (ok : α → Prop) (l : List α) : Prop := l.length ≤ maxLen ∧ ∀ a ∈ l, ok a
theorem below_glob {m m' : M} {Z Z' : ZM} {G : Heap} {w w' : World} (hG : globB G = true) (hs : SimH m Z G w) (h : Step m Z G w m' Z' G w') : Below w.heap.size w w' := by
 refine ⟨h.os, h.tape, h.output, h.size, fun b hb => ?_⟩
 by_cases hx : ∃ p ∈ G, blk m p b
 ·obtain ⟨p, hp, e⟩ := hx
  obtain ⟨g, ob, cs, hl, _⟩ := glob_of hG hp
  have h1 := hs.holds p hp
  have h2 := h.sim.holds p hp
  rw [hl] at h1 h2
  obtain ⟨h3, ⟨h4, _⟩, _⟩ := h1
  obtain ⟨_, ⟨h5, _⟩, _⟩ := h2
  have : g = b := by
   obtain ⟨k, o⟩ := p
   simp only at hl h3
   subst hl
   simpa [blk, blk1, Obj.ver, h3] using e
  subst this
  rw [h4, h5]
 ·exact h.frame b hb fun p hp e => hx ⟨p, hp, e⟩
section
variable {H : Type} {enc : TypeId × Value → H} {P : Program}
theorem below_allV (hl : laidOutB P = true) {W W' : World} (hb : Below W.heap.size W W') : ∀ (ts : List TypeId) (vs : List Value) (ds : List (DataW H)) (ps : List MemPlace), (ts.all fun t => P.readableRec t && decide (t < P.types.size)) = true →
  DataW.TrodAll enc P W 0 (fun _ => true) true ts vs ds ps → (∀ x ∈ ps, x.block < W.heap.size) → DataW.TrodAll enc P W' 0 (fun b => decide (b < W.heap.size)) true ts vs ds ps
 | [], [], [], ps, _, h, _ => h
 | t :: ts, v :: vs, d :: ds, ps, ht, h, hlt => by
  obtain ⟨p, q, h1, h2, rfl⟩ := h
  simp only [List.all_cons, Bool.and_eq_true, decide_eq_true_eq] at ht
  exact ⟨p, q, Below.trod hl ht.1.1 ht.1.2 h1 hb (fun x hx => hlt x (List.mem_append_left _ hx)), below_allV hl hb ts vs ds q ht.2 h2 (fun x hx => hlt x (List.mem_append_right _ hx)), rfl⟩
 | [], [], _ :: _, _, _, h, _ => h.elim
 | [], _ :: _, _, _, _, h, _ => h.elim
 | _ :: _, [], _, _, _, h, _ => h.elim
 | _ :: _, _ :: _, [], _, _, h, _ => h.elim
end
end Go.EV
