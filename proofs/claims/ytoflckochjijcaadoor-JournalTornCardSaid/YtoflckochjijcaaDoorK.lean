/- The disk and all journals that were ever opened, hidden behind one name. -/
import Derived.Test.YtoflckochjijcaaDoorEvThree
import Derived.Test.YtoflckochjijcaaDoorS
import Derived.Test.YtoflckochjijcaaDoorKD
set_option linter.all false
set_option maxRecDepth 100000
namespace Go.Proofs.YtoflckochjijcaaDoor
open Go Go.RowKit Go.Eng Go.EV
def diskX (kq ks : Nat) (d : Dsk) : Heap := [(1, .box 64 [.mp 2, .sl 2 kq (d.queue.length) 0 (d.queue.length), .mp ks, .int .i64 d.lost, .bool d.down, .int .i64 d.armed, .vs 1 (List.map EV.encI d.keep)]), (2, .map (encM (V.int .i64) (fun e => V.agg (enc_disk_file e)) d.files)), (kq, .row 78 2 0 (List.map enc_disk_sector d.queue)), (ks, .map (encM (fun e => V.agg (enc_disk_sector e)) V.bool d.dset))]
def diskN (ks : Nat) (d : Dsk) : Heap := [(1, .box 64 [.mp 2, .nils, .mp ks, .int .i64 d.lost, .bool d.down, .int .i64 d.armed, .vs 1 (List.map EV.encI d.keep)]), (2, .map (encM (V.int .i64) (fun e => V.agg (enc_disk_file e)) d.files)), (ks, .map (encM (fun e => V.agg (enc_disk_sector e)) V.bool d.dset))]
def jF (i : Nat) (j : Jrn) : Heap := [(10 + 2 * i, .box 70 [.ptr 1 0 0, .int .i64 j.file, .sl 1 (11 + 2 * i) (j.recs.length) 0 (j.recs.length), .int .i64 j.bytes, .bool j.broken]), (11 + 2 * i, .row 9 1 0 (List.map EV.encS j.recs))]
def jsF : Nat → List Jrn → Heap
 | _, [] => []
 | i, j :: r => jF i j ++ jsF (i + 1) r
def stF (W : Wd) : Heap := diskX 3 4 W.d ++ jsF 0 W.js
def sJ (a : Nat) : Bool := Nat.beq a 1 || (Nat.ble 10 a && (Nat.ble (a + 1) 900000000 && a % 2 == 0))
def jb (t : Nat) : Nat := 10 + 2 * t
variable {ob0 ob1 ob2 : Go.Obj} {u1 u2 : TypeId}
theorem sJ_iff {a : Nat} : sJ a = true ↔ a = 1 ∨ (10 ≤ a ∧ a < 900000000 ∧ a % 2 = 0) := by
 simp only [sJ, Bool.or_eq_true, Bool.and_eq_true, Nat.ble_eq, beq_iff_eq, Nat.beq_eq]
 omega
theorem jsF_append : ∀ (i : Nat) (a b : List Jrn), jsF i (a ++ b) = jsF i a ++ jsF (i + a.length) b
 | i, [], b => rfl
 | i, j :: a, b => by
  simp only [List.cons_append, jsF, jsF_append (i + 1) a b, List.append_assoc, List.length_cons]
  rw [show i + 1 + a.length = i + (a.length + 1) by omega]
theorem jsF_keys : ∀ {i : Nat} {js : List Jrn} {p : Nat × EV.Obj}, p ∈ jsF i js → ∃ t, i ≤ t ∧ t < i + js.length ∧ (p.1 = 10 + 2 * t ∨ p.1 = 11 + 2 * t)
 | i, [], p, h => by cases h
 | i, j :: r, p, h => by
  rcases List.mem_append.1 h with h | h
  ·simp only [jF, List.mem_cons, List.not_mem_nil, or_false] at h
   exact ⟨i, Nat.le_refl _, by simp, by rcases h with rfl | rfl <;> simp⟩
  ·obtain ⟨t, h1, h2, h3⟩ := jsF_keys h
   exact ⟨t, by omega, by simp only [List.length_cons]; omega, h3⟩
theorem jsF_key : ∀ {i : Nat} {js : List Jrn} {a : Nat}, a ∈ keys (jsF i js) → ∃ t, i ≤ t ∧ t < i + js.length ∧ (a = 10 + 2 * t ∨ a = 11 + 2 * t) := fun h => by
 obtain ⟨p, hp, rfl⟩ := List.mem_map.1 h
 exact jsF_keys hp
theorem jsF_has : ∀ {i : Nat} {js : List Jrn} {t : Nat}, i ≤ t → t < i + js.length → 10 + 2 * t ∈ keys (jsF i js) ∧ 11 + 2 * t ∈ keys (jsF i js)
 | i, [], t, h1, h2 => by simp at h2; omega
 | i, j :: r, t, h1, h2 => by
  simp only [jsF, keys_append, List.mem_append]
  by_cases h : t = i
  ·subst h; exact ⟨.inl (by simp [keys, jF]), .inl (by simp [keys, jF])⟩
  ·have := jsF_has (i := i + 1) (js := r) (t := t) (by omega) (by simp only [List.length_cons] at h2; omega)
   exact ⟨.inr this.1, .inr this.2⟩
theorem jsF_nodup : ∀ (i : Nat) (js : List Jrn), (keys (jsF i js)).Nodup
 | i, [] => List.nodup_nil
 | i, j :: r => by
  simp only [jsF, keys_append]
  refine List.nodup_append.2 ⟨by simp [keys, jF], jsF_nodup (i + 1) r, fun a ha b hb e => ?_⟩
  obtain ⟨t, h1, _, h2⟩ := jsF_key hb
  simp [keys, jF] at ha
  omega
theorem jsF_refs : ∀ {i : Nat} {js : List Jrn} {p : Nat × EV.Obj}, p ∈ jsF i js → ∀ k ∈ p.2.refs, k = 1 ∨ ∃ t, i ≤ t ∧ t < i + js.length ∧ k = 11 + 2 * t
 | i, [], p, h => by cases h
 | i, j :: r, p, h => by
  intro k hk
  rcases List.mem_append.1 h with h | h
  ·simp only [jF, List.mem_cons, List.not_mem_nil, or_false] at h
   rcases h with rfl | rfl
   ·simp [Obj.refs, refsL, V.refs] at hk
    rcases hk with rfl | rfl
    ·exact .inl rfl
    ·exact .inr ⟨i, Nat.le_refl _, by simp, rfl⟩
   ·simp [Obj.refs] at hk
  ·rcases jsF_refs h k hk with h1 | ⟨t, h1, h2, h3⟩
   ·exact .inl h1
   ·exact .inr ⟨t, by omega, by simp only [List.length_cons]; omega, h3⟩
theorem jsF_ren {τ : Nat → Nat} (h1 : τ 1 = 1) (hτ : ∀ a, 10 ≤ a → τ a = a) : ∀ {i : Nat} {js : List Jrn} {p : Nat × EV.Obj}, p ∈ jsF i js → (τ p.1, p.2.ren τ) = p
 | i, [], p, h => by cases h
 | i, j :: r, p, h => by
  rcases List.mem_append.1 h with h | h
  ·simp only [jF, List.mem_cons, List.not_mem_nil, or_false] at h
   rcases h with rfl | rfl
   ·simp only [Obj.ren, renL, V.ren, h1, hτ (10 + 2 * i) (by omega), hτ (11 + 2 * i) (by omega)]
   ·simp only [Obj.ren, hτ (11 + 2 * i) (by omega)]
  ·exact jsF_ren h1 hτ h
theorem stF_nodup (W : Wd) : (keys (stF W)).Nodup := by
 simp only [stF, keys_append]
 refine List.nodup_append.2 ⟨by simp [keys, diskX], jsF_nodup 0 _, fun a ha b hb e => ?_⟩
 obtain ⟨t, _, _, h2⟩ := jsF_key hb
 simp [keys, diskX] at ha
 omega
def tau (kq ks : Nat) (a : Nat) : Nat := if a = 3 then kq else if a = 4 then ks else a
theorem stF_closed (W : Wd) : ∀ p ∈ stF W, ∀ j ∈ p.2.refs, j ∈ keys (stF W) := fun p hp j hj => by
 simp only [stF, keys_append, List.mem_append] at hp ⊢
 rcases hp with hp | hp
 ·left
  simp only [diskX, List.mem_cons, List.not_mem_nil, or_false] at hp
  rcases hp with rfl | rfl | rfl | rfl <;> simp [Obj.refs, refsL, V.refs] at hj
  simp [keys, diskX]; omega
 ·rcases jsF_refs hp j hj with h | ⟨t, h1, h2, h3⟩
  ·left; simp [keys, diskX, h]
  ·right; rw [h3]; exact (jsF_has h1 h2).2
theorem convG {X : Heap} {d : Dsk} {js : List Jrn} (kq ks : Nat) (h3 : 3 ≤ kq ∧ kq < 10) (h4 : 3 ≤ ks ∧ ks < 10) (hne : kq ≠ ks) (hd : ∀ p ∈ diskX kq ks d, p ∈ X) (hj : ∀ p ∈ jsF 0 js, p ∈ X) (hX : ∀ a ∈ keys X, a < 10 ∨ ∃ t, t < js.length ∧ (a = 10 + 2 * t ∨ a = 11 + 2 * t)) : Conv sJ X (stF ⟨d, js⟩) := by
 have t1 : ∀ a, 10 ≤ a → tau kq ks a = a := fun a ha => by unfold tau; rw [if_neg (by omega), if_neg (by omega)]
 have key : ∀ a, a ∈ keys (stF ⟨d, js⟩) → a = 1 ∨ a = 2 ∨ a = 3 ∨ a = 4 ∨ 10 ≤ a := fun a ha => by
  simp only [stF, keys_append, List.mem_append] at ha
  rcases ha with ha | ha
  ·simp [keys, diskX] at ha; omega
  ·obtain ⟨t, _, _, h⟩ := jsF_key ha; omega
 refine Conv.sub (tau kq ks) (stF_nodup _) ?_ (fun p hp => ?_) (stF_closed _) (fun a ha hk => ?_) (fun a ha hk => ?_)
 ·have hn := stF_nodup ⟨d, js⟩
  rw [List.Nodup, List.pairwise_map]
  refine (List.Pairwise.and_mem.1 hn).imp fun {a b} ⟨ha, hb, hab⟩ => ?_
  have := key a ha
  have := key b hb
  unfold tau
  repeat' split
  all_goals omega
 ·simp only [stF, List.mem_append] at hp
  rcases hp with hp | hp
  ·simp only [diskX, List.mem_cons, List.not_mem_nil, or_false] at hp
   rcases hp with rfl | rfl | rfl | rfl
   ·exact hd _ (by simp [diskX, Obj.ren, renL, V.ren, tau])
   ·exact hd _ (by simp [diskX, Obj.ren, tau])
   ·exact hd _ (by simp [diskX, Obj.ren, tau])
   ·exact hd _ (by simp [diskX, Obj.ren, tau])
  ·rw [jsF_ren (by simp [tau]) t1 hp]; exact hj p hp
 ·rw [sJ_iff] at ha
  simp only [stF, keys_append, List.mem_append]
  rcases ha with rfl | ha
  ·left; simp [keys, diskX]
  ·right
   rcases hX a hk with h | ⟨t, ht, h⟩
   ·omega
   ·have : a = 10 + 2 * t := by omega
    rw [this]; exact (jsF_has (Nat.zero_le _) (by omega)).1
 ·rw [sJ_iff] at ha
  rcases ha with rfl | ha
  ·simp [tau]
  ·exact t1 a ha.1
theorem convN {X : Heap} {d : Dsk} {js : List Jrn} (ks : Nat) (h4 : 3 ≤ ks ∧ ks < 10) (hd : ∀ p ∈ diskN ks d, p ∈ X) (hj : ∀ p ∈ jsF 0 js, p ∈ X) (hX : ∀ a ∈ keys X, a < 10 ∨ ∃ t, t < js.length ∧ (a = 10 + 2 * t ∨ a = 11 + 2 * t)) : Conv sJ X (stF ⟨{ d with queue := [] }, js⟩) := by
 have t1 : ∀ a, 10 ≤ a → tau 3 ks a = a := fun a ha => by unfold tau; rw [if_neg (by omega), if_neg (by omega)]
 have hn : (keys (diskN 4 d ++ jsF 0 js)).Nodup := by
  simp only [keys_append]
  refine List.nodup_append.2 ⟨by simp [keys, diskN], jsF_nodup 0 _, fun a ha b hb e => ?_⟩
  obtain ⟨t, _, _, h2⟩ := jsF_key hb
  simp [keys, diskN] at ha
  omega
 have key : ∀ a, a ∈ keys (diskN 4 d ++ jsF 0 js) → a = 1 ∨ a = 2 ∨ a = 4 ∨ 10 ≤ a := fun a ha => by
  simp only [keys_append, List.mem_append] at ha
  rcases ha with ha | ha
  ·simp [keys, diskN] at ha; omega
  ·obtain ⟨t, _, _, h⟩ := jsF_key ha; omega
 have hcl : closedH (diskN 4 d ++ jsF 0 js) := fun p hp j hj => by
  simp only [keys_append, List.mem_append] at hp ⊢
  rcases hp with hp | hp
  ·left
   simp only [diskN, List.mem_cons, List.not_mem_nil, or_false] at hp
   rcases hp with rfl | rfl | rfl <;> simp [Obj.refs, refsL, V.refs] at hj
   simp [keys, diskN]; omega
  ·rcases jsF_refs hp j hj with h | ⟨t, h1, h2, h3⟩
   ·left; simp [keys, diskN, h]
   ·right; rw [h3]; exact (jsF_has h1 h2).2
 have c1 : Conv sJ X (diskN 4 d ++ jsF 0 js) := by
  refine Conv.sub (tau 3 ks) hn ?_ (fun p hp => ?_) hcl (fun a ha hk => ?_) (fun a ha hk => ?_)
  ·rw [List.Nodup, List.pairwise_map]
   refine (List.Pairwise.and_mem.1 hn).imp fun {a b} ⟨ha, hb, hab⟩ => ?_
   have := key a ha
   have := key b hb
   unfold tau
   repeat' split
   all_goals omega
  ·simp only [List.mem_append] at hp
   rcases hp with hp | hp
   ·simp only [diskN, List.mem_cons, List.not_mem_nil, or_false] at hp
    rcases hp with rfl | rfl | rfl
    ·exact hd _ (by simp [diskN, Obj.ren, renL, V.ren, tau])
    ·exact hd _ (by simp [diskN, Obj.ren, tau])
    ·exact hd _ (by simp [diskN, Obj.ren, tau])
   ·rw [jsF_ren (by simp [tau]) t1 hp]; exact hj p hp
  ·rw [sJ_iff] at ha
   simp only [keys_append, List.mem_append]
   rcases ha with rfl | ha
   ·left; simp [keys, diskN]
   ·right
    rcases hX a hk with h | ⟨t, ht, h⟩
    ·omega
    ·have : a = 10 + 2 * t := by omega
     rw [this]; exact (jsF_has (Nat.zero_le _) (by omega)).1
  ·rw [sJ_iff] at ha
   rcases ha with rfl | ha
   ·simp [tau]
   ·exact t1 a ha.1
 refine c1.trans ?_
 have c2 := Conv.nil (s := sJ) (kb := 1) (t := 64) (k := 3) (e := 78) (sz := 2) (F := (2, .map (encM (V.int .i64) (fun e => V.agg (enc_disk_file e)) d.files)) :: (4, .map (encM (fun e => V.agg (enc_disk_sector e)) V.bool d.dset)) :: jsF 0 js) (cs := [.mp 2, .nils, .mp 4, .int .i64 d.lost, .bool d.down, .int .i64 d.armed, .vs 1 (List.map EV.encI d.keep)]) 1 rfl (by omega) (fun h => by
  have := key 3 h
  omega) rfl hcl
 refine c2.trans ?_
 have hp : ((1, EV.Obj.box 64 [.mp 2, .sl 2 3 0 0 0, .mp 4, .int .i64 d.lost, .bool d.down, .int .i64 d.armed, .vs 1 (List.map EV.encI d.keep)]) :: (3, .row 78 2 0 []) :: (2, .map (encM (V.int .i64) (fun e => V.agg (enc_disk_file e)) d.files)) :: (4, .map (encM (fun e => V.agg (enc_disk_sector e)) V.bool d.dset)) :: jsF 0 js).Perm (stF ⟨{ d with queue := [] }, js⟩) :=
  .cons _ (.swap ..)
 exact Conv.perm hp (stF_closed _)
theorem nodupB_of : ∀ {l : List Nat}, l.Nodup → nodupB l = true
 | [], _ => rfl
 | k :: r, h => by
  rw [List.nodup_cons] at h
  simp [nodupB, h.1, nodupB_of h.2]
theorem gl_keys : keys (gl ob0 ob1 ob2 u1 u2) = [900000000, 900000001, 900000002] := rfl
theorem stF_lt {W : Wd} (h : W.js.length < 400000) {a : Nat} (ha : a ∈ keys (stF W)) : a < 900000000 := by
 simp only [stF, keys_append, List.mem_append] at ha
 rcases ha with ha | ha
 ·simp [keys, diskX] at ha; omega
 ·obtain ⟨t, _, _, h⟩ := jsF_key ha; omega
theorem lift {f : FuncId} {args : List V} {A A' : Heap} {r : V} (W W' : Wd) (σ : Nat → Nat) (rest : Heap) (ns : List Nat) (h : FnA Tryd.prog f args (A ++ gl ob0 ob1 ob2 u1 u2) r (A' ++ gl ob0 ob1 ob2 u1 u2))
  (hσ : σ 900000000 = 900000000 ∧ σ 900000001 = 900000001 ∧ σ 900000002 = 900000002) (hns : (keys A').map σ = ns) (hnd : ns.Nodup) (hlt : ∀ a ∈ ns, a < 900000000) (hcl : closedB args (A ++ gl ob0 ob1 ob2 u1 u2) = true)
  (hsub : ((keys (A ++ gl ob0 ob1 ob2 u1 u2)).all (keys (A' ++ gl ob0 ob1 ob2 u1 u2)).contains) = true) (hap : ∀ a ∈ ns, ∀ b ∈ keys rest, a ≠ b) (hrl : ∀ b ∈ keys rest, b < 900000000) (hp : (renH σ A ++ rest).Perm (stF W)) (hc : Conv sJ (renH σ A' ++ rest) (stF W')) (hW : W.js.length < 400000)
  (ha : hkBL sJ (renL σ args) = true) (hr : (r.ren σ).hkB sJ = true) :
  FnA Tryd.prog f (hkL 1000000 (renL σ args)) ((1000000, .gen (EV.hide sJ (stF W))) :: gl ob0 ob1 ob2 u1 u2) ((r.ren σ).hk 1000000) ((1000000, .gen (EV.hide sJ (stF W'))) :: gl ob0 ob1 ob2 u1 u2) := by
 have hg : renH σ (gl ob0 ob1 ob2 u1 u2) = gl ob0 ob1 ob2 u1 u2 := by
  simp only [gl, renH, List.map_cons, List.map_nil, hσ.1, hσ.2.1, hσ.2.2, gl0, gl1, gl2, Obj.ren]
 have hgk : ∀ {a : Nat}, a ∈ keys (gl ob0 ob1 ob2 u1 u2) → 900000000 ≤ a := fun ha => by
  rw [gl_keys] at ha; simp at ha; omega
 have hk' : (keys (A' ++ gl ob0 ob1 ob2 u1 u2)).map σ = ns ++ keys (gl ob0 ob1 ob2 u1 u2) := by
  rw [keys_append, List.map_append, hns, gl_keys]; simp [hσ.1, hσ.2.1, hσ.2.2]
 have h1 := FnA.beside σ rest h (by
  rw [hk']
  have : (ns ++ keys (gl ob0 ob1 ob2 u1 u2)).Nodup := List.nodup_append.2 ⟨hnd, by rw [gl_keys]; simp, fun a ha b hb e => by have := hlt a ha; have := hgk hb; omega⟩
  exact nodupB_of this) hcl hsub (fun p hp q hq e => by
  have hpk := mem_keys hp
  rw [keys_ren, hk', List.mem_append] at hpk
  rcases hpk with hpk | hpk
  ·exact hap _ hpk _ (mem_keys hq) e
  ·have := hgk hpk; have := hrl _ (mem_keys hq); omega)
 rw [renH_append, renH_append, hg] at h1
 have p0 : ∀ X : Heap, (X ++ gl ob0 ob1 ob2 u1 u2 ++ rest).Perm (X ++ rest ++ gl ob0 ob1 ob2 u1 u2) := fun X => by
  rw [List.append_assoc, List.append_assoc]
  exact List.Perm.append_left _ List.perm_append_comm
 have h2 := FnA.perm h1 ((p0 _).trans (hp.append_right _)) (p0 _)
 refine FnA.hide 1000000 h2 hc ha hr rfl (by rw [gl_keys]; simp) (fun j hj hg => ?_) (fun j hj hg => ?_) (fun a ha hg => ?_)
 ·have := stF_lt hW hj; have := hgk hg; omega
 ·rw [keys_append, List.mem_append, keys_ren, hns] at hj
  have := hgk hg
  rcases hj with hj | hj
  ·have := hlt _ hj; omega
  ·have := hrl _ hj; omega
 ·rw [sJ_iff] at ha; have := hgk hg; omega
theorem split_js {js : List Jrn} {i : Nat} {j : Jrn} (hj : js[i]? = some j) : js = js.take i ++ j :: js.drop (i + 1) ∧ (js.take i).length = i := by
 obtain ⟨h1, h2⟩ := List.getElem?_eq_some_iff.1 hj
 subst h2
 exact ⟨by rw [List.getElem_cons_drop, List.take_append_drop], by rw [List.length_take]; omega⟩
def restJ (W : Wd) (i : Nat) : Heap := jsF 0 (W.js.take i) ++ jsF (i + 1) (W.js.drop (i + 1))
theorem permJ {W : Wd} {i : Nat} {j : Jrn} (hj : W.js[i]? = some j) : ((jF i j).head! :: (diskX 3 4 W.d ++ [(11 + 2 * i, .row 9 1 0 (List.map EV.encS j.recs))]) ++ restJ W i).Perm (stF W) := by
 obtain ⟨h1, h2⟩ := split_js hj
 have e : jsF 0 W.js = jsF 0 (W.js.take i) ++ (jF i j ++ jsF (i + 1) (W.js.drop (i + 1))) := by
  conv => lhs; rw [h1]
  rw [jsF_append, h2, Nat.zero_add]; rfl
 rw [stF, e, restJ]
 show (_ :: (diskX 3 4 W.d ++ [_] ++ (jsF 0 (W.js.take i) ++ jsF (i + 1) (W.js.drop (i + 1))))).Perm (diskX 3 4 W.d ++ (jsF 0 (W.js.take i) ++ (_ :: _ :: jsF (i + 1) (W.js.drop (i + 1)))))
 rw [List.append_assoc]
 refine List.perm_middle.symm.trans (List.Perm.append_left _ ?_)
 show (_ :: _ :: (jsF 0 (W.js.take i) ++ jsF (i + 1) (W.js.drop (i + 1)))).Perm _
 exact ((List.Perm.cons _ (List.perm_middle.symm)).trans List.perm_middle.symm)
theorem mem_set {W : Wd} {i : Nat} {j j' : Jrn} (hj : W.js[i]? = some j) {p : Nat × EV.Obj} (hp : p ∈ jsF 0 (W.js.set i j')) : p ∈ jF i j' ∨ p ∈ restJ W i := by
 obtain ⟨h1, h2⟩ := split_js hj
 have e : W.js.set i j' = W.js.take i ++ j' :: W.js.drop (i + 1) := by
  have hi := (List.getElem?_eq_some_iff.1 hj).1
  rw [List.set_eq_take_append_cons_drop, if_pos hi]
 rw [e, jsF_append, h2, Nat.zero_add] at hp
 simp only [jsF, List.mem_append] at hp
 simp only [restJ, List.mem_append]
 rcases hp with h | h | h
 ·exact .inr (.inl h)
 ·exact .inl h
 ·exact .inr (.inr h)
theorem mem_app {js : List Jrn} {j' : Jrn} {p : Nat × EV.Obj} (hp : p ∈ jsF 0 (js ++ [j'])) : p ∈ jF js.length j' ∨ p ∈ jsF 0 js := by
 rw [jsF_append, Nat.zero_add] at hp
 simp only [jsF, List.append_nil, List.mem_append] at hp
 exact hp.symm
theorem restJ_key {W : Wd} {i : Nat} {j : Jrn} (hj : W.js[i]? = some j) {a : Nat} (ha : a ∈ keys (restJ W i)) : ∃ t, t < W.js.length ∧ t ≠ i ∧ (a = 10 + 2 * t ∨ a = 11 + 2 * t) := by
 have hi := (List.getElem?_eq_some_iff.1 hj).1
 simp only [restJ, keys_append, List.mem_append] at ha
 rcases ha with ha | ha
 ·obtain ⟨t, h1, h2, h3⟩ := jsF_key ha
  rw [List.length_take] at h2
  exact ⟨t, by omega, by omega, h3⟩
 ·obtain ⟨t, h1, h2, h3⟩ := jsF_key ha
  rw [List.length_drop] at h2
  exact ⟨t, by omega, by omega, h3⟩
theorem keyX {σ : Nat → Nat} {A' rest : Heap} {ns : List Nat} (hns : (keys A').map σ = ns) {a : Nat} (ha : a ∈ keys (renH σ A' ++ rest)) : a ∈ ns ∨ a ∈ keys rest := by
 rwa [keys_append, keys_ren, hns, List.mem_append] at ha
theorem sJ_1 : sJ 1 = true := rfl
theorem sJ_j {i : Nat} (h : i < 400000) : sJ (10 + 2 * i) = true := sJ_iff.2 (.inr ⟨by omega, by omega, by omega⟩)
theorem liftE {f : FuncId} {args : List V} {A A' : Heap} {r : V} {ke t sz fz : Nat} {els : List (List V)} (W W' : Wd) (σ : Nat → Nat) (rest : Heap) (ns : List Nat) (h : FnA Tryd.prog f args (A ++ gl ob0 ob1 ob2 u1 u2) r (((ke, .row t sz fz els) :: A') ++ gl ob0 ob1 ob2 u1 u2))
  (hσ : σ 900000000 = 900000000 ∧ σ 900000001 = 900000001 ∧ σ 900000002 = 900000002) (hns : (keys A').map σ = ns) (hnd : ns.Nodup) (hlt : ∀ a ∈ ns, a < 1000000) (hcl : closedB args (A ++ gl ob0 ob1 ob2 u1 u2) = true)
  (hsub : ((keys (A ++ gl ob0 ob1 ob2 u1 u2)).all (keys (((ke, .row t sz fz els) :: A') ++ gl ob0 ob1 ob2 u1 u2)).contains) = true) (hap : ∀ a ∈ ns, ∀ b ∈ keys rest, a ≠ b) (hrl : ∀ b ∈ keys rest, b < 1000000) (hp : (renH σ A ++ rest).Perm (stF W)) (hc : Conv sJ (renH σ A' ++ rest) (stF W')) (hW : W.js.length < 400000)
  (ha : hkBL sJ (renL σ args) = true) (he : σ ke = 1000001) (hr : ∀ j ∈ (r.ren σ).refs, j = 1000001) :
  FnA Tryd.prog f (hkL 1000000 (renL σ args)) ((1000000, .gen (EV.hide sJ (stF W))) :: gl ob0 ob1 ob2 u1 u2) (r.ren σ) ((1000000, .gen (EV.hide sJ (stF W'))) :: ([(1000001, .row t sz fz els)] ++ gl ob0 ob1 ob2 u1 u2)) := by
 have hg : renH σ (gl ob0 ob1 ob2 u1 u2) = gl ob0 ob1 ob2 u1 u2 := by
  simp only [gl, renH, List.map_cons, List.map_nil, hσ.1, hσ.2.1, hσ.2.2, gl0, gl1, gl2, Obj.ren]
 have hgk : ∀ {a : Nat}, a ∈ keys (gl ob0 ob1 ob2 u1 u2) → 900000000 ≤ a := fun ha => by
  rw [gl_keys] at ha; simp at ha; omega
 have hk' : (keys (((ke, .row t sz fz els) :: A') ++ gl ob0 ob1 ob2 u1 u2)).map σ = 1000001 :: (ns ++ keys (gl ob0 ob1 ob2 u1 u2)) := by
  rw [keys_append, List.map_append, gl_keys]
  simp only [keys, List.map_cons, he] at hns ⊢
  rw [hns]; simp [hσ.1, hσ.2.1, hσ.2.2]
 have hst : ∀ {a : Nat}, a ∈ keys (stF W) → a < 1000000 := fun ha => by
  simp only [stF, keys_append, List.mem_append] at ha
  rcases ha with ha | ha
  ·simp [keys, diskX] at ha; omega
  ·obtain ⟨t, _, _, h⟩ := jsF_key ha; omega
 have h1 := FnA.beside σ rest h (by
  rw [hk']
  have : (ns ++ keys (gl ob0 ob1 ob2 u1 u2)).Nodup := List.nodup_append.2 ⟨hnd, by rw [gl_keys]; simp, fun a ha b hb e => by have := hlt a ha; have := hgk hb; omega⟩
  refine nodupB_of (List.nodup_cons.2 ⟨fun hh => ?_, this⟩)
  rcases List.mem_append.1 hh with hh | hh
  ·have := hlt _ hh; omega
  ·have := hgk hh; omega) hcl hsub (fun p hp q hq e => by
  have hpk := mem_keys hp
  rw [keys_ren, hk', List.mem_cons, List.mem_append] at hpk
  rcases hpk with hpk | hpk | hpk
  ·have := hrl _ (mem_keys hq); omega
  ·exact hap _ hpk _ (mem_keys hq) e
  ·have := hgk hpk; have := hrl _ (mem_keys hq); omega)
 rw [renH_append, renH_append, hg] at h1
 have e1 : renH σ ((ke, .row t sz fz els) :: A') = (1000001, .row t sz fz els) :: renH σ A' := by simp [renH, he, Obj.ren]
 rw [e1] at h1
 have p0 : ∀ X : Heap, (X ++ gl ob0 ob1 ob2 u1 u2 ++ rest).Perm (X ++ rest ++ gl ob0 ob1 ob2 u1 u2) := fun X => by
  rw [List.append_assoc, List.append_assoc]
  exact List.Perm.append_left _ List.perm_append_comm
 have p1 : (((1000001, EV.Obj.row t sz fz els) :: renH σ A') ++ gl ob0 ob1 ob2 u1 u2 ++ rest).Perm (renH σ A' ++ rest ++ ([(1000001, .row t sz fz els)] ++ gl ob0 ob1 ob2 u1 u2)) :=
  (p0 _).trans (List.perm_middle.symm)
 have h2 := FnA.perm h1 ((p0 _).trans (hp.append_right _)) p1
 refine FnA.hideE 1000000 [(1000001, .row t sz fz els)] h2 hc ha (fun j hj => ?_) (fun p hp => ?_) (by simp [keys]) (fun j hj => ?_) rfl (by rw [gl_keys]; simp) (fun j hj hg => ?_) (fun j hj hg => ?_) (fun a ha hg => ?_)
 ·rw [hr j hj]; simp [keys]
 ·rw [List.mem_singleton.1 hp]; rfl
 ·have : j = 1000001 := by simpa [keys] using hj
  subst this
  refine ⟨fun h => ?_, by rw [gl_keys]; simp, fun h => ?_, rfl⟩
  ·have := hst h; omega
  ·rw [keys_append, List.mem_append, keys_ren, hns] at h
   rcases h with h | h
   ·have := hlt _ h; omega
   ·have := hrl _ h; omega
 ·have := hst hj; have := hgk hg; omega
 ·rw [keys_append, List.mem_append, keys_ren, hns] at hj
  have := hgk hg
  rcases hj with hj | hj
  ·have := hlt _ hj; omega
  ·have := hrl _ hj; omega
 ·rw [sJ_iff] at ha; have := hgk hg; omega
theorem arg_j {ix : Nat} {vs : List V} (m : M) (Z : ZM) (vals : List Value) (h : RepL (some m) Z (.gv 1000000 (jpv jb (ix + 1)) :: vs) vals) : RepL (some m) Z (.gv 1000000 (hpl (10 + 2 * ix) 0) :: vs) vals := by
 obtain ⟨x, xs, rfl, ⟨f, e, h1⟩, h2⟩ := h
 cases e
 rcases h1 with ⟨h1, _⟩ | ⟨j, h1, loc, h3, h4⟩
 ·cases h1
 ·cases h1
  exact ⟨x, xs, rfl, ⟨m, rfl, loc, h3, h4⟩, h2⟩
theorem res_n {e : Int} (m : M) (Z : ZM) (x : Value) (h : Rep (some m) Z (.tup [.nilp, .int .i64 e]) x) : Rep (some m) Z (.tup [.gv 1000000 (jpv jb 0), .int .i64 e]) x := by
 obtain ⟨l, rfl, y, ys, rfl, h1, h2⟩ := h
 exact ⟨_, rfl, y, ys, rfl, ⟨m, rfl, .inl ⟨rfl, h1⟩⟩, h2⟩
theorem res_j {n : Nat} {e : Int} (m : M) (Z : ZM) (x : Value) (h : Rep (some m) Z (.tup [.gv 1000000 (hpl (10 + 2 * n) 0), .int .i64 e]) x) : Rep (some m) Z (.tup [.gv 1000000 (jpv jb (n + 1)), .int .i64 e]) x := by
 obtain ⟨l, rfl, y, ys, rfl, ⟨f, e1, loc, h1, h3⟩, h2⟩ := h
 cases e1
 exact ⟨_, rfl, y, ys, rfl, ⟨m, rfl, .inr ⟨n, rfl, loc, h1, h3⟩⟩, h2⟩
theorem wk_new [Fuel] (r : Unit × Wd) (hs : k_new = some r) : FnA Tryd.prog 9 [] [] (.gv 1000000 (hpl 1 0)) [(1000000, .gen (EV.hide sJ (stF r.2)))] := by
 obtain rfl := Option.some.inj hs
 have h1 : FnA Tryd.prog 9 [] [] (.ptr 1 0 0) [(1, .box 64 [.mp 2, .nils, .mp 4, .int .i64 0, .bool false, .int .i64 0, .nils]), (4, .map (encM (fun e => V.agg (enc_disk_sector e)) V.bool [])), (2, .map (encM (V.int .i64) (fun e => V.agg (enc_disk_file e)) []))] := FnA.beside (asg [(4, 1), (2, 4), (1, 2)]) [] (w_disk_New () rfl) (by kernel_rfl) (by kernel_rfl) (by kernel_rfl) (fun _ _ _ h => by cases h)
 refine FnA.hideNew (args := []) (r := .ptr 1 0 0) 1000000 h1 (Conv.trans (Conv.weak (cs' := [.mp 2, .nils, .mp 4, .int .i64 0, .bool false, .int .i64 0, .vs 1 (List.map EV.encI [])]) (F := [(4, .map (encM (fun e => V.agg (enc_disk_sector e)) V.bool [])), (2, .map (encM (V.int .i64) (fun e => V.agg (enc_disk_file e)) []))]) (fun p hp j hj => ?_) (fun m Z xs h => ?_)) (convN (d := ⟨[], [], [], 0, false, 0, []⟩) (js := []) 4 (by decide) (fun p hp => ?_) (fun p hp => by cases hp) (fun a ha => ?_))) rfl rfl rfl rfl
 ·simp only [List.mem_cons, List.not_mem_nil, or_false] at hp
  rcases hp with rfl | rfl | rfl <;> simp [Obj.refs, refsL, V.refs] at hj
  rcases hj with rfl | rfl <;> simp [keys]
 ·have := repL_set (cs := [.mp 2, .nils, .mp 4, .int .i64 0, .bool false, .int .i64 0, .nils]) (v := .vs 1 (List.map EV.encI [])) 6 rfl (fun x hx => ⟨none, 0, hx, Nat.le_refl _, Nat.zero_le _, .inl rfl⟩) h
  exact this
 ·simp only [diskN, List.mem_cons, List.not_mem_nil, or_false] at hp
  rcases hp with rfl | rfl | rfl <;> simp
 ·left; simp [keys] at ha; omega
end Go.Proofs.YtoflckochjijcaaDoor
