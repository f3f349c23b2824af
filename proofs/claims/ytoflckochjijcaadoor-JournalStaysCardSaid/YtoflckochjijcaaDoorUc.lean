/- JournalStays, in plain Lean. -/
import Derived.Test.YtoflckochjijcaaDoorUa
import Derived.Test.YtoflckochjijcaaDoorUb
set_option linter.all false
set_option maxRecDepth 100000
namespace Go.Proofs.YtoflckochjijcaaDoor
open Go Go.RowKit Go.Eng Go.EV Go.Lib
variable [Fuel]
structure SInv (m : Nat) (W : Wd) : Prop where
 jsl : W.js.length ≤ m + 1
 fok : FOK (300 * m + 300) W.d.files
 q : QOK (300 * m + 300) W.d.queue
 st : (W.d.dset.map (·.1)).Nodup
 lost : 0 ≤ W.d.lost ∧ W.d.lost ≤ 9223372036854775807
 armed : W.d.armed = 0
 down : W.d.down = false
 keep : W.d.keep = []
def SJ (m jn : Nat) (W : Wd) (rec : List (List UInt8)) : Prop := ∃ j, W.js[jn - 1]? = some j ∧ j.recs = rec ∧ rec.length ≤ 300 * m + 300 ∧ (∀ t ∈ rec, okF t) ∧ (j.broken = true ∨ (j.file = 0 ∧ (fl W.d.files 0).now = forms rec ∧ j.bytes = ((forms rec).length : Int)))
def SD (jn : Nat) (W : Wd) (rec : List (List UInt8)) : Prop := (∃ j, W.js[jn - 1]? = some j ∧ j.recs = rec) ∧ (∀ t ∈ rec, okF t) ∧ rec.length ≤ 30000 ∧ fl W.d.files 0 = ⟨forms rec, forms rec⟩ ∧ W.d.lost = 0
theorem SInv.up {m : Nat} {W : Wd} (h : SInv m W) : SInv (m + 1) W := ⟨by have := h.jsl; omega, h.fok.mono (by omega), h.q.mono (by omega), h.st, h.lost, h.armed, h.down, h.keep⟩
theorem SJ.up {m jn : Nat} {W : Wd} {rec : List (List UInt8)} (h : SJ m jn W rec) : SJ (m + 1) jn W rec := by
 obtain ⟨j, h1, h2, h3, h4, h5⟩ := h
 exact ⟨j, h1, h2, by omega, h4, h5⟩
theorem app_step {m jn : Nat} {W : Wd} {rec : List (List UInt8)} {r : List UInt8} (hm : m ≤ 90) (h0 : jn ≠ 0) (hS : SInv m W) (hJ : SJ m jn W rec) (hr : r.length ≤ 200) :
  ∃ (e : Int) (W' : Wd), k_append W jn r = some (e, W') ∧ SInv (m + 1) W' ∧ ((e = 7 ∧ SJ (m + 1) jn W' rec) ∨ (e = 0 ∧ SJ (m + 1) jn W' (rec ++ [r]))) := by
 obtain ⟨⟨F, Q, S, lost, down, a, keep⟩, js⟩ := W
 obtain ⟨⟨jf, recs, by_, brk⟩, hj, rfl, hrec, hok, hb⟩ := hJ
 have hd : down = false := hS.down
 have ha : a = 0 := hS.armed
 have hk : keep = [] := hS.keep
 subst hd; subst ha; subst hk
 have hjs : js.length < 400000 := by have := hS.jsl; simp only at this; omega
 simp only at hj hrec hb hok
 have hl1 : jn - 1 < js.length := (List.getElem?_eq_some_iff.1 hj).1
 have hset : ∀ j' : Jrn, (js.set (jn - 1) j')[jn - 1]? = some j' := fun j' => by rw [List.getElem?_set, if_pos rfl, if_pos hl1]
 have hup := hS.up
 rcases hb with rfl | ⟨rfl, hx, rfl⟩
 ·exact ⟨7, _, append_broken hjs h0 hj rfl (by omega), hup, .inl ⟨rfl, ⟨_, hj, rfl, by simp only; omega, hok, .inl rfl⟩⟩⟩
 cases brk with
 | true => exact ⟨7, _, append_broken hjs h0 hj rfl (by omega), hup, .inl ⟨rfl, ⟨_, hj, rfl, by simp only; omega, hok, .inl rfl⟩⟩⟩
 | false =>
 have hx : (fl F 0).now = forms recs := hx
 have hf200 := form200 hr
 have hF : FOK (300 * m + 300) F := hS.fok
 have hQ : QOK (300 * m + 300) Q := hS.q
 have hSt : (S.map (·.1)).Nodup := hS.st
 have hxl : (forms recs).length ≤ 300 * m + 300 := by rw [← hx]; exact (hF.sz 0).1
 obtain ⟨q', st', e1, hq', hst'⟩ := append_ok (lost := lost) (a := 0) (keep := []) (js := js) (jn := jn) (r := r) (jf := 0) (recs := recs) (x := forms recs) hjs h0 hj (by omega) (by omega) (by omega) (by decide) (by decide) (by decide) (by decide) hx hQ hSt (by omega)
 have hok2 : FOK (300 * (m + 1) + 300) (mset 0 ⟨forms recs ++ form r, (fl F 0).last⟩ F) := FOK.mset (f := 0) (v := ⟨forms recs ++ form r, (fl F 0).last⟩) (hF.mono (by omega)) (by simp only [List.length_append]; omega) (by have := (hF.sz 0).2; simp only; omega)
 refine ⟨0, _, e1, ⟨by simpa using hup.jsl, hok2, hq'.mono (by omega), hst', hup.lost, rfl, rfl, rfl⟩, .inr ⟨rfl, _, hset _, rfl, by simp; omega, fun t ht => ?_, .inr ⟨rfl, by simp only [fl_self]; rw [forms_append, forms_one], by simp only; rw [forms_append, forms_one]⟩⟩⟩
 rcases List.mem_append.1 ht with ht | ht
 ·exact hok t ht
 ·rw [List.mem_singleton.1 ht]; unfold okF; omega
theorem syn_step {m jn : Nat} {W : Wd} {rec : List (List UInt8)} (hm : m ≤ 90) (h0 : jn ≠ 0) (hS : SInv m W) (hJ : SJ m jn W rec) :
  ∃ (e : Int) (W' : Wd), k_sync W jn = some (e, W') ∧ SInv (m + 1) W' ∧ SJ (m + 1) jn W' rec ∧ (e = 0 → SD jn W' rec) := by
 obtain ⟨⟨F, Q, S, lost, down, a, keep⟩, js⟩ := W
 obtain ⟨⟨jf, recs, by_, brk⟩, hj, rfl, hrec, hok, hb⟩ := hJ
 have hd : down = false := hS.down
 have ha : a = 0 := hS.armed
 have hk : keep = [] := hS.keep
 subst hd; subst ha; subst hk
 have hjs : js.length < 400000 := by have := hS.jsl; simp only at this; omega
 simp only at hj hrec hb hok
 have hl1 : jn - 1 < js.length := (List.getElem?_eq_some_iff.1 hj).1
 have hset : ∀ j' : Jrn, (js.set (jn - 1) j')[jn - 1]? = some j' := fun j' => by rw [List.getElem?_set, if_pos rfl, if_pos hl1]
 have hup := hS.up
 rcases hb with rfl | ⟨rfl, hx, rfl⟩
 ·exact ⟨7, _, sync_broken hjs h0 hj rfl, hup, ⟨_, hj, rfl, by simp only; omega, hok, .inl rfl⟩, fun h => by cases h⟩
 cases brk with
 | true => exact ⟨7, _, sync_broken hjs h0 hj rfl, hup, ⟨_, hj, rfl, by simp only; omega, hok, .inl rfl⟩, fun h => by cases h⟩
 | false =>
 have hx : (fl F 0).now = forms recs := hx
 have hF : FOK (300 * m + 300) F := hS.fok
 have hQ : QOK (300 * m + 300) Q := hS.q
 have hSt : (S.map (·.1)).Nodup := hS.st
 have hL : 0 ≤ lost ∧ lost ≤ 9223372036854775807 := hS.lost
 have hxl : (forms recs).length ≤ 300 * m + 300 := by rw [← hx]; exact (hF.sz 0).1
 by_cases hl0 : lost = 0
 ·subst hl0
  obtain ⟨q', st', e1, hq', hst'⟩ := sync_ok (a := 0) (keep := []) hjs h0 hj (by decide) (by decide) (by decide) (by decide) hx hQ (by omega) hSt
  exact ⟨0, _, e1, ⟨by simpa using hup.jsl, (FOK.mset (f := 0) (v := ⟨forms recs, forms recs⟩) hF hxl hxl).mono (by omega), hq'.mono (by omega), hst', z00, rfl, rfl, rfl⟩, ⟨_, hj, rfl, by simp only; omega, hok, .inr ⟨rfl, by simp only [fl_self], rfl⟩⟩, fun _ => ⟨⟨_, hj, rfl⟩, hok, by simp only; omega, by simp only [fl_self], rfl⟩⟩
 ·have e1 := sync_lost (F := F) (Q := Q) (S := S) (a := 0) (keep := []) hjs h0 hj (by decide) (by decide) (by decide) (by decide) (show 0 < lost by omega) hL.2
  exact ⟨9, _, e1, ⟨by simpa using hup.jsl, hup.fok, hup.q, hup.st, ⟨by simp only; omega, by simp only; omega⟩, rfl, rfl, rfl⟩, ⟨_, hset _, rfl, by simp only; omega, hok, .inl rfl⟩, fun h => by cases h⟩
theorem s_open {m : Nat} {W : Wd} (hm : m ≤ 90) (hS : SInv m W) : ∃ (jn : Nat) (e : Int) (W' : Wd), k_open W 0 = some ((jn, e), W') ∧ SInv (m + 1) W' ∧ (jn = 0 ∨ ∃ rec, SJ (m + 1) jn W' rec) ∧
  (W.d.lost = 0 → ∀ rec, Parsed (fl W.d.files 0).now rec → jn ≠ 0 ∧ e = 0 ∧ SD jn W' rec) := by
 obtain ⟨⟨F, Q, S, lost, down, a, keep⟩, js⟩ := W
 have hd : down = false := hS.down
 have ha : a = 0 := hS.armed
 have hk : keep = [] := hS.keep
 subst hd; subst ha; subst hk
 have hjs : js.length < 400000 := by have := hS.jsl; simp only at this; omega
 have hF : FOK (300 * m + 300) F := hS.fok
 have hQ : QOK (300 * m + 300) Q := hS.q
 have hSt : (S.map (·.1)).Nodup := hS.st
 have hL : 0 ≤ lost ∧ lost ≤ 9223372036854775807 := hS.lost
 have hjl : js.length ≤ m + 1 := hS.jsl
 have hup := hS.up
 by_cases hl0 : lost = 0
 ·subst hl0
  obtain ⟨l, hl⟩ := parsed_ex (fl F 0).now.length (fl F 0).now (Nat.le_refl _)
  obtain ⟨f1, f2, f3⟩ := forms_le hl
  have hxl := (hF.sz 0).1
  have hll := forms_length l
  obtain ⟨F', q', st', e1, hf', hg', hq', hst', hnd⟩ := open_calm (keep := []) (js := js) (f := 0) (by decide) hjs hQ (by omega) hSt rfl (by omega) hl
  have hjn : (js ++ [(⟨0, l, ((forms l).length : Int), false⟩ : Jrn)])[js.length + 1 - 1]? = some ⟨0, l, ((forms l).length : Int), false⟩ := by simp
  refine ⟨js.length + 1, 0, _, e1, ⟨by simp; omega, ⟨hnd hF.nd, fun g => ?_⟩, hq'.mono (by omega), hst', z00, rfl, rfl, rfl⟩, .inr ⟨l, _, hjn, rfl, by omega, hl.1, .inr ⟨rfl, by simp only [hf'], rfl⟩⟩, fun _ rec hrec => ?_⟩
  ·by_cases hg : g = 0
   ·subst hg; simp only [hf']; omega
   ·have := hF.sz g
    simp only [hg' g hg]; omega
  ·have := parsed_uniq hl hrec
   subst this
   exact ⟨by omega, rfl, ⟨_, hjn, rfl⟩, hl.1, by omega, hf', rfl⟩
 ·have e1 := open_lost (F := F) (Q := Q) (S := S) (a := 0) (keep := []) (js := js) (f := 0) (by decide) hjs (by decide) (by decide) (by decide) (show 0 < lost by omega) hL.2
  exact ⟨0, 9, _, e1, ⟨hup.jsl, hup.fok, hup.q, hup.st, ⟨by simp only; omega, by simp only; omega⟩, rfl, rfl, rfl⟩, .inl rfl, fun h => absurd h hl0⟩
theorem torn_same {x c : List UInt8} (h : Torn x x c) : c = x := by
 obtain ⟨h1, h2, h3⟩ := h
 have hl : c.length = x.length := by omega
 apply List.ext_getElem?
 intro i
 by_cases hi : i < c.length
 ·have hb : c[i]? = some c[i] := List.getElem?_eq_getElem hi
  rcases h3 i _ hb with ⟨_, h⟩ | h | ⟨h, _⟩
  ·rw [hb, h]
  ·rw [hb, h]
  ·omega
 ·rw [List.getElem?_eq_none (by omega), List.getElem?_eq_none (by omega)]
theorem s_crash {m : Nat} {W : Wd} {k : List Int} (hm : m ≤ 90) (hk : k.length ≤ 50) (hS : SInv m W) : ∃ W', k_crash W k = some ((), W') ∧ SInv m ⟨{ W'.d with down := false }, W'.js⟩ ∧ W'.js.length < 400000 ∧ W'.d.lost = W.d.lost ∧ ∀ x, fl W.d.files 0 = ⟨x, x⟩ → fl W'.d.files 0 = ⟨x, x⟩ := by
 obtain ⟨⟨F, Q, S, lost, down, a, keep⟩, js⟩ := W
 have hd : down = false := hS.down
 subst hd
 have hjs : js.length < 400000 := by have := hS.jsl; simp only at this; omega
 obtain ⟨F', e1, hT⟩ := crash_up (S := S) (lost := lost) (a := a) (keep := keep) (k := k) (js := js) hjs hS.q (by omega) (by omega) (by omega) hS.fok
 refine ⟨_, e1, ⟨hS.jsl, hT.ok hS.fok, qok_nil _, List.nodup_nil, hS.lost, rfl, rfl, hS.keep⟩, hjs, rfl, fun x hx => ?_⟩
 obtain ⟨c, hc1, hc2⟩ := hT.2 0
 have hx : fl F 0 = ⟨x, x⟩ := hx
 rw [hx] at hc2
 simp only [hc1]
 rw [torn_same hc2]
theorem stays_L1 (l : List greenbeltref03_Op) (hl : l.length ≤ 25) (hf : ∀ o ∈ l, o.S.length ≤ 200 ∧ o.Keep.length ≤ 50 ∧ o.N ≤ 9223372036854775807) : ∀ (k i fuel jn : Nat) (W : Wd), k = l.length - i → i ≤ l.length → k < fuel → SInv (i + 1) W → (jn = 0 ∨ ∃ rec, SJ (i + 1) jn W rec) →
  ∃ (jn' : Nat) (W' : Wd), s_gl03_JournalStays_L1 l fuel (jn, (i : Int), W) = some (jn', W') ∧ SInv 26 W' ∧ (jn' = 0 ∨ ∃ rec, SJ 26 jn' W' rec) := by
 intro k
 induction k with
 | zero =>
  intro i fuel jn W hk hi hfu hS hJ
  obtain ⟨f, rfl⟩ : ∃ f, fuel = f + 1 := ⟨fuel - 1, by omega⟩
  refine ⟨jn, W, ?_, ⟨by have := hS.jsl; omega, hS.fok.mono (by omega), hS.q.mono (by omega), hS.st, hS.lost, hS.armed, hS.down, hS.keep⟩, hJ.imp_right fun ⟨rec, j, h1, h2, h3, h4⟩ => ⟨rec, j, h1, h2, by omega, h4⟩⟩
  rw [s_gl03_JournalStays_L1]
  simp only [show decide ((i : Int) < (l.length : Int)) = false by simp; omega, cond_false]
 | succ k ih =>
  intro i fuel jn W hk hi hfu hS hJ
  obtain ⟨f, rfl⟩ : ∃ f, fuel = f + 1 := ⟨fuel - 1, by omega⟩
  have hlt : i < l.length := by omega
  have hm := hf _ (getD_mem hlt)
  rw [s_gl03_JournalStays_L1]
  simp only [show decide ((i : Int) < (l.length : Int)) = true by simp; omega, cond_true, idx_of hlt, Option.bind_some]
  generalize l.getD i default = o at hm ⊢
  have hjs : W.js.length < 400000 := by have := hS.jsl; omega
  have next : ∀ (jn' : Nat) (W' : Wd), SInv (i + 1 + 1) W' → (jn' = 0 ∨ ∃ rec, SJ (i + 1 + 1) jn' W' rec) → ∃ (jn'' : Nat) (W'' : Wd), s_gl03_JournalStays_L1 l f (jn', w64 ((i : Int) + 1), W') = some (jn'', W'') ∧ SInv 26 W'' ∧ (jn'' = 0 ∨ ∃ rec, SJ 26 jn'' W'' rec) := fun jn' W' h1 h2 => by
   rw [w64_id (by omega) (by omega)]
   exact ih (i + 1) f jn' W' (by omega) (by omega) (by omega) h1 h2
  have hJu : jn = 0 ∨ ∃ rec, SJ (i + 1 + 1) jn W rec := hJ.imp_right fun ⟨rec, h⟩ => ⟨rec, h.up⟩
  by_cases k0 : o.Kind = 0
  ·simp only [decide_eq_true k0, cond_true]
   by_cases j0 : jn = 0
   ·simp only [decide_eq_true j0, Bool.not_true, cond_false, Option.bind_some]
    exact next _ _ hS.up hJu
   ·obtain ⟨rec, hJ⟩ := hJ.resolve_left j0
    obtain ⟨e, W', a1, a2, a3⟩ := app_step (by omega) j0 hS hJ hm.1
    simp only [decide_eq_false j0, Bool.not_false, cond_true, a1, Option.bind_some]
    exact next _ _ a2 (.inr (by rcases a3 with ⟨_, h⟩ | ⟨_, h⟩ <;> exact ⟨_, h⟩))
  ·simp only [decide_eq_false k0, cond_false]
   by_cases k1 : o.Kind = 1
   ·simp only [decide_eq_true k1, cond_true]
    by_cases j0 : jn = 0
    ·simp only [decide_eq_true j0, Bool.not_true, cond_false, Option.bind_some]
     exact next _ _ hS.up hJu
    ·obtain ⟨rec, hJ⟩ := hJ.resolve_left j0
     obtain ⟨e, W', a1, a2, a3, _⟩ := syn_step (by omega) j0 hS hJ
     simp only [decide_eq_false j0, Bool.not_false, cond_true, a1, Option.bind_some]
     exact next _ _ a2 (.inr ⟨_, a3⟩)
   ·simp only [decide_eq_false k1, cond_false]
    by_cases k2 : o.Kind = 2
    ·simp only [decide_eq_true k2, cond_true, lose_spec hjs, Option.bind_some]
     have hu := hS.up
     exact next _ _ ⟨hu.jsl, hu.fok, hu.q, hu.st, ⟨by simp only; omega, by simp only; omega⟩, hu.armed, hu.down, hu.keep⟩ hJu
    ·simp only [decide_eq_false k2, cond_false]
     by_cases k4 : o.Kind = 4
     ·obtain ⟨W1, c1, c2, c3, _, _⟩ := s_crash (by omega) hm.2.1 hS
      obtain ⟨jn', e, W', o1, o2, o3, _⟩ := s_open (by omega) c2
      simp only [decide_eq_true k4, cond_true, c1, Option.bind_some, start_spec c3, o1]
      exact next _ _ o2 o3
     ·simp only [decide_eq_false k4, cond_false, Option.bind_some]
      exact next _ _ hS.up hJu
theorem stays_L2 (s : List (List UInt8)) (hs : s.length ≤ 8) (h200 : ∀ t ∈ s, t.length ≤ 200) (v2 : Nat × Wd) (h0 : v2.1 ≠ 0) : ∀ (k i fuel : Nat) (W : Wd) (rec : List (List UInt8)), k = s.length - i → i ≤ s.length → k < fuel → SInv (26 + i) W → SJ (26 + i) v2.1 W rec →
  ∃ (W' : Wd) (rec' : List (List UInt8)), s_gl03_JournalStays_L2 s v2 fuel ((i : Int), W, rec) = some (.inr (W', rec')) ∧ SInv 34 W' ∧ SJ 34 v2.1 W' rec' := by
 intro k
 induction k with
 | zero =>
  intro i fuel W rec hk hi hfu hS hJ
  obtain ⟨f, rfl⟩ : ∃ f, fuel = f + 1 := ⟨fuel - 1, by omega⟩
  obtain ⟨j, h1, h2, h3, h4⟩ := hJ
  refine ⟨W, rec, ?_, ⟨by have := hS.jsl; omega, hS.fok.mono (by omega), hS.q.mono (by omega), hS.st, hS.lost, hS.armed, hS.down, hS.keep⟩, ⟨j, h1, h2, by omega, h4⟩⟩
  rw [s_gl03_JournalStays_L2]
  simp only [show decide ((i : Int) < (s.length : Int)) = false by simp; omega, cond_false]
 | succ k ih =>
  intro i fuel W rec hk hi hfu hS hJ
  obtain ⟨f, rfl⟩ : ∃ f, fuel = f + 1 := ⟨fuel - 1, by omega⟩
  have hlt : i < s.length := by omega
  have hm := h200 _ (getD_mem hlt)
  rw [s_gl03_JournalStays_L2]
  simp only [show decide ((i : Int) < (s.length : Int)) = true by simp; omega, cond_true, idx_of hlt, Option.bind_some]
  generalize s.getD i default = r at hm ⊢
  obtain ⟨_, _, _, hrl, _⟩ := id hJ
  obtain ⟨e, W', a1, a2, a3⟩ := app_step (by omega) h0 hS hJ hm
  rw [a1, Option.bind_some]
  rcases a3 with ⟨rfl, h⟩ | ⟨rfl, h⟩
  ·simp only [show decide ((7 : Int) = 0) = false from rfl, Bool.not_false, cond_true, decide_true, Bool.not_true, Option.bind_some, cond_false]
   rw [w64_id (by omega) (by omega)]
   exact ih (i + 1) f W' rec (by omega) (by omega) (by omega) a2 h
  ·simp only [decide_true, Bool.not_true, cond_false, Option.bind_some, cond_true]
   obtain ⟨W'', rec'', g1, g2, g3⟩ := ih (i + 1) f W' (rec ++ [r]) (by omega) (by omega) (by omega) a2 h
   refine ⟨W'', rec'', ?_, g2, g3⟩
   refine Option.bind_eq_some_iff.2 ⟨rec ++ [r], Option.bind_eq_some_iff.2 ⟨(), grd_ofI (by simp; omega), rfl⟩, ?_⟩
   rw [w64_id (by omega) (by omega)]
   exact g1
theorem stays_L3 (one two : List Int) (h1 : one.length ≤ 50) (h2 : two.length ≤ 50) (v4 : Wd × List (List UInt8)) : ∀ (k i fuel jn : Nat) (W : Wd), k = 2 - i → i ≤ 2 → k < fuel → SInv (35 + i) W → jn ≠ 0 → SD jn W v4.2 →
  ∃ (jn' : Nat) (W' : Wd), s_gl03_JournalStays_L3 one two v4 fuel (jn, (i : Int), W) = some (.inr (jn', W')) ∧ SInv 37 W' ∧ jn' ≠ 0 ∧ SD jn' W' v4.2 := by
 intro k
 induction k with
 | zero =>
  intro i fuel jn W hk hi hfu hS hj hD
  obtain ⟨f, rfl⟩ : ∃ f, fuel = f + 1 := ⟨fuel - 1, by omega⟩
  refine ⟨jn, W, ?_, ⟨by have := hS.jsl; omega, hS.fok.mono (by omega), hS.q.mono (by omega), hS.st, hS.lost, hS.armed, hS.down, hS.keep⟩, hj, hD⟩
  rw [s_gl03_JournalStays_L3]
  simp only [show decide ((i : Int) < 2) = false by simp; omega, cond_false]
 | succ k ih =>
  intro i fuel jn W hk hi hfu hS hj hD
  obtain ⟨f, rfl⟩ : ∃ f, fuel = f + 1 := ⟨fuel - 1, by omega⟩
  obtain ⟨⟨j, hj1, hj2⟩, d2, d3, d4, d5⟩ := hD
  have hjs : W.js.length < 400000 := by have := hS.jsl; omega
  rw [s_gl03_JournalStays_L3]
  simp only [show decide ((i : Int) < 2) = true by simp; omega, cond_true]
  rw [all_spec hjs hj hj1 (by rw [hj2]; omega), Option.bind_some, hj2, same_spec (show v4.2.length ≤ 1099511627776 by omega), Option.bind_some, decide_eq_true rfl]
  simp only [Bool.not_true, cond_false]
  have main : ∀ q : List Int, q.length ≤ 50 → ∃ (W1 : Wd), k_crash W q = some ((), W1) ∧ W1.js.length < 400000 ∧ ∃ (jn' : Nat) (W' : Wd), k_open ⟨{ W1.d with down := false }, W1.js⟩ 0 = some ((jn', 0), W') ∧ jn' ≠ 0 ∧ SInv (35 + i + 1) W' ∧ SD jn' W' v4.2 := fun q hq => by
   obtain ⟨W1, c1, c2, c3, c4, c5⟩ := s_crash (by omega) hq hS
   obtain ⟨jn', e, W', o1, o2, o3, o4⟩ := s_open (by omega) c2
   obtain ⟨p1, rfl, p3⟩ := o4 (by simp only; rw [c4]; exact d5) v4.2 (by simp only; rw [c5 _ d4]; exact ⟨d2, [], by simp, dec_form_nil⟩)
   exact ⟨W1, c1, c3, jn', W', o1, p1, o2, p3⟩
  have fin : ∀ q : List Int, q.length ≤ 50 → ∀ X, X = (k_crash W q).bind (fun y => some y.2) → ∃ (jn' : Nat) (W' : Wd), (X.bind fun v9 => (k_start v9).bind fun y22 => (k_open y22.2 0).bind fun y23 => ((bif (decide (y23.1.1 = 0)) then some true else some (!(decide (y23.1.2 = 0))))).bind fun v10 => (bif v10 then some (.inl false) else (s_gl03_JournalStays_L3 one two v4) f (y23.1.1, (w64 ((i : Int) + 1)), y23.2))) = some (.inr (jn', W')) ∧ SInv 37 W' ∧ jn' ≠ 0 ∧ SD jn' W' v4.2 := fun q hq X hX => by
   obtain ⟨W1, c1, c3, jn', W', o1, p1, o2, p3⟩ := main q hq
   obtain ⟨jn'', W'', g1, g2, g3, g4⟩ := ih (i + 1) f jn' W' (by omega) (by omega) (by omega) o2 p1 p3
   refine ⟨jn'', W'', ?_, g2, g3, g4⟩
   rw [hX, c1]
   simp only [Option.bind_some, start_spec c3, o1, decide_eq_false p1, cond_false, decide_true, Bool.not_true]
   rw [w64_id (by omega) (by omega)]
   exact g1
  by_cases hi0 : i = 0
  ·exact fin one h1 _ (by rw [show decide ((i : Int) = 0) = true by simp [hi0], cond_true])
  ·exact fin two h2 _ (by rw [show decide ((i : Int) = 0) = false by simp [hi0], cond_false])
theorem stays_law (l : List greenbeltref03_Op) (s : List (List UInt8)) (one two : List Int) (hl : l.length ≤ 9223372036854775807) (hs : s.length ≤ 9223372036854775807) (hN : ∀ o ∈ l, o.N ≤ 9223372036854775807) : s_gl03_JournalStays l s one two = some true := by
 unfold s_gl03_JournalStays
 obtain ⟨b, hb, hb2⟩ := few_spec hl
 obtain ⟨b', hb', hb2'⟩ := texts_spec hs
 rw [small_spec, Option.bind_some, hb, Option.bind_some]
 cases b with
 | false => rfl
 | true =>
 rw [Bool.not_true, cond_false, hb', Option.bind_some]
 cases b' with
 | false => rfl
 | true =>
 obtain ⟨f1, f2⟩ := hb2 rfl
 obtain ⟨g1, g2⟩ := hb2' rfl
 rw [Bool.not_true, cond_false]
 by_cases h1 : 50 < one.length
 ·rw [show decide ((one.length : Int) > 50) = true by simp; omega, cond_true]; rfl
 by_cases h2 : 50 < two.length
 ·rw [show decide ((one.length : Int) > 50) = false by simp; omega, cond_false, show decide ((two.length : Int) > 50) = true by simp; omega]; rfl
 rw [show decide ((one.length : Int) > 50) = false by simp; omega, cond_false, show decide ((two.length : Int) > 50) = false by simp; omega, Option.bind_some, cond_false, show k_new = some ((), ⟨⟨[], [], [], 0, false, 0, []⟩, []⟩) from rfl, Option.bind_some]
 have hS0 : SInv 0 ⟨⟨[], [], [], 0, false, 0, []⟩, []⟩ := ⟨by simp, fok_nil _, qok_nil _, List.nodup_nil, z00, rfl, rfl, rfl⟩
 obtain ⟨jn, e, W1, o1, o2, o3, _⟩ := s_open (by omega) hS0
 rw [o1, Option.bind_some]
 obtain ⟨jn2, W2, p1, p2, p3⟩ := stays_L1 l f1 (fun o ho => ⟨(f2 o ho).1, (f2 o ho).2, hN o ho⟩) l.length 0 KK jn W1 (by omega) (by omega) (kk_lt (by omega)) o2 o3
 replace p1 : s_gl03_JournalStays_L1 l KK (jn, 0, W1) = some (jn2, W2) := p1
 simp only [p1, Option.bind_some]
 by_cases j0 : jn2 = 0
 ·simp only [decide_eq_true j0, cond_true]
 ·obtain ⟨rec, hJ⟩ := p3.resolve_left j0
  obtain ⟨j, hj1, hj2, hj3, hj4⟩ := id hJ
  have hjs2 : W2.js.length < 400000 := by have := p2.jsl; omega
  simp only [decide_eq_false j0, cond_false]
  rw [all_spec hjs2 j0 hj1 (by rw [hj2]; omega), Option.bind_some, hj2]
  obtain ⟨W3, rec3, q1, q2, q3⟩ := stays_L2 s g1 g2 (jn2, W2) j0 s.length 0 KK W2 rec (by omega) (by omega) (kk_lt (by omega)) p2 hJ
  replace q1 : s_gl03_JournalStays_L2 s (jn2, W2) KK (0, W2, rec) = some (.inr (W3, rec3)) := q1
  rw [q1]
  simp only [Option.bind_some]
  obtain ⟨e4, W4, r1, r2, r3, r4⟩ := syn_step (by omega) j0 q2 q3
  rw [r1]
  simp only [Option.bind_some]
  obtain ⟨j', hk1, hk2, hk3, hk4⟩ := r3
  have hjs4 : W4.js.length < 400000 := by have := r2.jsl; omega
  by_cases he : e4 = 0
  ·simp only [decide_eq_true he, Bool.not_true, cond_false, lose_spec hjs4, Option.bind_some]
   obtain ⟨d1, d2, d3, d4, d5⟩ := r4 he
   have hS5 : SInv 35 ⟨{ W4.d with lost := max (0 : Int) 0 }, W4.js⟩ := ⟨r2.jsl, r2.fok, r2.q, r2.st, z00, r2.armed, r2.down, r2.keep⟩
   obtain ⟨jn6, W6, t1, t2, t3, t4⟩ := stays_L3 one two (by omega) (by omega) (W3, rec3) 2 0 KK jn2 ⟨{ W4.d with lost := max (0 : Int) 0 }, W4.js⟩ (by omega) (by omega) (kk_lt (by omega)) hS5 j0 ⟨d1, d2, d3, d4, rfl⟩
   replace t1 : s_gl03_JournalStays_L3 one two (W3, rec3) KK (jn2, 0, ⟨{ W4.d with lost := max (0 : Int) 0 }, W4.js⟩) = some (.inr (jn6, W6)) := t1
   rw [t1]
   obtain ⟨⟨j6, hj61, hj62⟩, _, d63, _, _⟩ := t4
   have hjs6 : W6.js.length < 400000 := by have := t2.jsl; omega
   have hr3 : rec3.length ≤ 30000 := d63
   simp only [Option.bind_some, cond_true, all_spec hjs6 t3 hj61 (show j6.recs.length ≤ 1099511627776 by rw [hj62]; show rec3.length ≤ _; omega), hj62, same_spec (show rec3.length ≤ 1099511627776 by omega), decide_true]
  ·simp only [decide_eq_false he, Bool.not_false, cond_true, Option.bind_some, all_spec hjs4 j0 hk1 (show j'.recs.length ≤ 1099511627776 by rw [hk2]; omega), hk2, same_spec (show rec3.length ≤ 1099511627776 by omega), decide_true]
end Go.Proofs.YtoflckochjijcaaDoor
