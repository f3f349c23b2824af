/- The shell of the rows: arguments opened, package-level variables read. -/
import Derived.Test.YtoflckochjijcaaGreatDoorRows
import Derived.Test.YtoflckochjijcaaGreatDoorTie
import Derived.Test.YtoflckochjijcaaGreatDoorCards
import Derived.Test.YtoflckochjijcaaGreatDoorX
import Derived.Test.YtoflckochjijcaaGreatDoorEvTwo
import Derived.LaidMore
import Derived.Stop.Joined
import Derived.SevenTiedAt
set_option linter.all false
set_option maxRecDepth 100000
namespace Go.Proofs.YtoflckochjijcaaGreatDoor
open Go Go.ChangeShapes Go.WideShapes Go.ChangeAt Go.RowKit Go.Deep Go.Joins Go.EV
open Go.ChangeMaps (open_string)
theorem own : ownKnob Tryz.prog.godebug = none := by kernel_rfl
theorem laidOut : laidOutB Tryz.prog = true := by kernel_rfl
theorem tilesAll : ∀ t, t < Tryz.prog.types.size → tileT Tryz.prog t = true ∧ childB Tryz.prog t = true := tiles_of (by kernel_rfl)
def okOp (v : greenbeltref03_Op) : Prop := okK .i64 v.Kind ∧ okS v.S ∧ okK .i64 v.N ∧ okLs (okK .i64) v.Keep
theorem good_field {P : Program} {t : TypeId} {fs : Array Field} {cs : List V} (ht : P.underlying t = some (.struct fs)) (h : GoodC P t cs) (i : Nat) (off ty n : Nat) {f : Field} (hf : fs[i]? = some f) (ho : f.offset = off) (hy : f.type = ty) (hn : P.cellsOf ty = n) : GoodC P ty ((cs.drop off).take n) := by
  subst ho; subst hy; subst hn
  refine (good_struct ht h).2 f ?_
  rw [← Array.getElem?_toList] at hf
  exact List.mem_of_getElem? hf
theorem good_i64 {c : List V} (h : GoodC Tryz.prog 3 c) : ∃ n, c = EV.encI n ∧ okK .i64 n := good_int Tryz.underlying3 h
theorem good_string {c : List V} (h : GoodC Tryz.prog 9 c) : ∃ s, c = EV.encS s ∧ okS s := good_str Tryz.underlying9 h
theorem good_ints {c : List V} (h : GoodC Tryz.prog 36 c) : ∃ l : List Int, c = [.vs 1 (l.map EV.encI)] ∧ okLs (okK .i64) l := by
  obtain ⟨els, rfl, hl, hx⟩ := good_slice Tryz.underlying36 h
  obtain ⟨l, rfl, h2⟩ := good_list (fun c h => good_i64 h) hx
  rw [List.length_map] at hl
  exact ⟨l, by rw [show Tryz.prog.cellsOf 3 = 1 by kernel_rfl], hl, h2⟩
theorem good_Op {c : List V} (h : GoodC Tryz.prog 38 c) : ∃ v : greenbeltref03_Op, c = enc_greenbeltref03_Op v ∧ okOp v := by
  have hl := (good_struct Tryz.underlying38 h).1.trans (show Tryz.prog.cellsOf 38 = 4 by kernel_rfl)
  match c, hl, h with
  | [c0, c1, c2, c3], _, h =>
    have h0 : GoodC Tryz.prog 3 [c0] := good_field Tryz.underlying38 h 0 0 3 1 rfl rfl rfl (by kernel_rfl)
    have h1 : GoodC Tryz.prog 9 [c1] := good_field Tryz.underlying38 h 1 1 9 1 rfl rfl rfl (by kernel_rfl)
    have h2 : GoodC Tryz.prog 3 [c2] := good_field Tryz.underlying38 h 2 2 3 1 rfl rfl rfl (by kernel_rfl)
    have h3 : GoodC Tryz.prog 36 [c3] := good_field Tryz.underlying38 h 3 3 36 1 rfl rfl rfl (by kernel_rfl)
    obtain ⟨n0, e0, k0⟩ := good_i64 h0
    obtain ⟨n1, e1, k1⟩ := good_string h1
    obtain ⟨n2, e2, k2⟩ := good_i64 h2
    obtain ⟨n3, e3, k3⟩ := good_ints h3
    cases e0; cases e1; cases e2; cases e3
    exact ⟨⟨n0, n1, n2, n3⟩, rfl, k0, k1, k2, k3⟩
theorem good_Ops {c : List V} (h : GoodC Tryz.prog 22 c) : ∃ l : List greenbeltref03_Op, c = [.vs 4 (l.map enc_greenbeltref03_Op)] ∧ okLs okOp l := by
  obtain ⟨els, rfl, hl, hx⟩ := good_slice Tryz.underlying22 h
  obtain ⟨l, rfl, h2⟩ := good_list (fun c h => good_Op h) hx
  rw [List.length_map] at hl
  exact ⟨l, by rw [show Tryz.prog.cellsOf 38 = 4 by kernel_rfl], hl, h2⟩
section
variable {H : Type} {enc : TypeId × Value → H} {W : World} {b0 : Nat} {r : Reach} {v : Value} {d : DataW H} {p : List MemPlace} {t : TypeId}
theorem arg_of (ht : Nat.ble (t + 1) Tryz.prog.types.size = true) (h : DataW.Trod enc Tryz.prog W 0 (fun _ => true) true t v d p) : ∃ vs, GoodC Tryz.prog t vs ∧ RepL none W.cell? vs v.cells.toList := by
  obtain ⟨fuel, hf⟩ := h
  exact good_of tilesAll fuel t _ _ (Nat.le_of_ble_eq_true ht) hf
theorem arg_slice {e : TypeId} {c : V} (ht : Tryz.prog.underlying t = some (.slice e)) (hv : Value.okWide Tryz.prog W r b0 t v) (h : RepL none W.cell? [c] v.cells.toList) : Rep none W.cell? c v := by
  obtain ⟨a0, len0, cap0, rfl⟩ := okWide_slice ht hv
  obtain ⟨x, xs, e1, h2, h3⟩ := h
  cases e1; exact h2
theorem open_Ops (hv : Value.okWide Tryz.prog W r b0 22 v) (h : DataW.Trod enc Tryz.prog W 0 (fun _ => true) true 22 v d p) : ∃ l : List greenbeltref03_Op, okLs okOp l ∧ Rep none W.cell? (.vs 4 (l.map enc_greenbeltref03_Op)) v := by
  obtain ⟨vs, h1, h2⟩ := arg_of (by kernel_rfl) h
  obtain ⟨l, rfl, hl⟩ := good_Ops h1
  exact ⟨l, hl, arg_slice Tryz.underlying22 hv h2⟩
end
def laidL : List (String × DataW Unit) := [("math/bits.deBruijn32tab", Rows.laid_math_bits_deBruijn32tab), ("math/bits.deBruijn64tab", Rows.laid_math_bits_deBruijn64tab), ("internal/strconv.uint64pow10", Rows.laid_internal_strconv_uint64pow10), ("strconv.ErrRange", Rows.laid_strconv_ErrRange), ("strconv.ErrSyntax", Rows.laid_strconv_ErrSyntax)]
theorem door_met (os : Os) (args : Array Value) : laidMetH Tryz.prog laidL ((World.doorLaid Tryz.prog 400 os).forCall (fun _ _ => 0) ⟨#[], args, []⟩).memory :=
  laidMetH_of_parts3 (fuel := 8) (laidMet_of_run' 8 (by kernel_rfl) (by kernel_rfl)) (by kernel_rfl) (by kernel_rfl)
theorem var_heap {P : Program} {w : World} {n : String} {g : Nat} {cs : Array Value} (hg : P.globalNamed n = some g) (h : w.var? P n = some cs) : ∃ t fr, w.heap[g]? = some (.cells cs t fr) := by
  simp only [World.var?, hg, Option.bind_some] at h
  split at h
  · rename_i cs' t fr hh
    cases h
    exact ⟨t, fr, hh⟩
  · cases h
theorem trod_ifc {P : Program} {W : World} {H : Type} {enc : TypeId × Value → H} {spare : Nat → Bool} {ms : Array (String × TypeId)} {fuel : Nat} {t : TypeId} {cs : List Value} {nm : String} {x : DataW H} {p : List MemPlace} (ht : P.underlying t = some (.interface ms)) (h : DataW.trod enc P W 0 spare false fuel t cs = some (.iface nm x, p)) : ∃ u v, cs = [.iface u v] := by
  cases fuel with
  | zero => simp [DataW.trod] at h
  | succ n =>
    unfold DataW.trod at h
    rw [ht] at h
    split at h <;> first | exact ⟨_, _, rfl⟩ | simp_all
theorem of_laid {W : World} (h : laidMetH Tryz.prog laidL W) : ∃ ob0 ob1 ob2 u1 u2, (W.heap[3]? = some ob0 ∧ ∃ cur u fr, ob0 = .cells cur u fr ∧ RepL none W.cell? (Lib.pow10Tab.map (V.int .u64)) cur.toList) ∧ (W.heap[1]? = some ob1 ∧ ∃ cur u fr, ob1 = .cells cur u fr ∧ RepL none W.cell? [.ifc u1 .undef] cur.toList) ∧ (W.heap[2]? = some ob2 ∧ ∃ cur u fr, ob2 = .cells cur u fr ∧ RepL none W.cell? [.ifc u2 .undef] cur.toList) := by
  rw [MakeChecks.laidMetH_plain _ _ _ (by kernel_rfl)] at h
  obtain ⟨ps, ⟨g0, t0, cs0, f0, p0, q0, hg0, ht0, hv0, hd0, ⟨g1, t1, cs1, f1, p1, q1, hg1, ht1, hv1, hd1, ⟨g2, t2, cs2, f2, p2, q2, hg2, ht2, hv2, hd2, ⟨g3, t3, cs3, f3, p3, q3, hg3, ht3, hv3, hd3, ⟨g4, t4, cs4, f4, p4, q4, hg4, ht4, hv4, hd4, _⟩, _⟩, _⟩, _⟩, _⟩, _⟩ := h
  obtain rfl := Option.some.inj ((show Tryz.prog.globalNamed "internal/strconv.uint64pow10" = some 3 by kernel_rfl).symm.trans hg2)
  obtain rfl := Option.some.inj ((show Tryz.prog.globalNamed "strconv.ErrRange" = some 2 by kernel_rfl).symm.trans hg3)
  obtain rfl := Option.some.inj ((show Tryz.prog.globalNamed "strconv.ErrSyntax" = some 1 by kernel_rfl).symm.trans hg4)
  obtain rfl := Option.some.inj ((show (Tryz.prog.globals[3]?).map (·.type) = some 141 by kernel_rfl).symm.trans ht2)
  obtain rfl := Option.some.inj ((show (Tryz.prog.globals[2]?).map (·.type) = some 112 by kernel_rfl).symm.trans ht3)
  obtain rfl := Option.some.inj ((show (Tryz.prog.globals[1]?).map (·.type) = some 112 by kernel_rfl).symm.trans ht4)
  obtain ⟨a2, r2, e2⟩ := var_heap (by kernel_rfl) hv2
  obtain ⟨a3, r3, e3⟩ := var_heap (by kernel_rfl) hv3
  obtain ⟨a4, r4, e4⟩ := var_heap (by kernel_rfl) hv4
  obtain ⟨u3, w3, c3⟩ := trod_ifc Tryz.underlying112 hd3
  obtain ⟨u4, w4, c4⟩ := trod_ifc Tryz.underlying112 hd4
  have c2 := Lib.cells_of_tab (zs := Lib.pow10Tab) Tryz.underlying141 Tryz.underlying129 (by kernel_rfl) (by kernel_rfl) hd2
  refine ⟨_, _, _, u4, u3, ⟨e2, _, _, _, rfl, ?_⟩, ⟨e4, _, _, _, rfl, ?_⟩, ⟨e3, _, _, _, rfl, ?_⟩⟩
  · rw [show cs2.toList = Lib.pow10Tab.map (Value.int .u64) by first | (rw [c2]) | (rw [← c2])]
    exact repL_of_map (enc := V.int .u64) (f := Value.int .u64) (fun _ => rfl) _
  · rw [c4]; exact ⟨_, _, rfl, ⟨_, rfl, trivial⟩, rfl⟩
  · rw [c3]; exact ⟨_, _, rfl, ⟨_, rfl, trivial⟩, rfl⟩
def mG : M := fun k L => if L = 0 then (if k = 900000000 then some (3, 1) else if k = 900000001 then some (1, 1) else if k = 900000002 then some (2, 1) else none) else none
/-- A law's call. -/
theorem law_calls {f : FuncId} {args : List V} {vals : List Value} {W : World} (h : ∀ ob0 ob1 ob2 u1 u2, FnA Tryz.prog f args (gl ob0 ob1 ob2 u1 u2) (.bool true) (gl ob0 ob1 ob2 u1 u2)) (hL : laidMetH Tryz.prog laidL W) (hv : RepL none W.cell? args vals) :
    Calls Tryz.prog f vals.toArray W fun e W' => e = .returned (.bool true) ∧ Below W.heap.size W W' := by
  obtain ⟨ob0, ob1, ob2, u1, u2, h0, h1, h2⟩ := of_laid hL
  have hle : ∀ (k L : Nat) (loc : Nat × Nat), mG k L = some loc → L ≤ 0 := fun k L loc e => by
    unfold mG at e
    split at e
    · omega
    · cases e
  have hs : SimH mG W.cell? (gl ob0 ob1 ob2 u1 u2) W := ⟨fun _ _ h => h, fun p hp => by
      simp only [gl, List.mem_cons, List.not_mem_nil, or_false] at hp
      rcases hp with rfl | rfl | rfl
      · exact ⟨rfl, h0, hle _⟩
      · exact ⟨rfl, h1, hle _⟩
      · exact ⟨rfl, h2, hle _⟩, nodup_of (by rfl), fun p hp q hq b e1 e2 => by
      simp only [gl, List.mem_cons, List.not_mem_nil, or_false] at hp hq
      rcases hp with rfl | rfl | rfl <;> rcases hq with rfl | rfl | rfl <;> first | rfl | (cases e1; cases e2)⟩
  refine Calls.mono (h ob0 ob1 ob2 u1 u2 W mG W.cell? vals hs (RepL.none_some hv) fun k hk L => ?_) ?_
  · have hk : k ≠ 900000000 ∧ k ≠ 900000001 ∧ k ≠ 900000002 := by simpa [keys, gl] using hk
    unfold mG
    split
    · rw [if_neg hk.1, if_neg hk.2.1, if_neg hk.2.2]
    · rfl
  · rintro e W' ⟨x, m', Z', he, hst, hr⟩
    refine ⟨by rw [he]; exact congrArg _ hr, below_glob (by rfl) hs hst⟩
end Go.Proofs.YtoflckochjijcaaGreatDoor
