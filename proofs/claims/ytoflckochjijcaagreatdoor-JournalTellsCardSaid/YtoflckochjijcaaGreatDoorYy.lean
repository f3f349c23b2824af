/- The law: code and reference go side by side. -/
import Derived.Test.YtoflckochjijcaaGreatDoorYx
set_option linter.all false
set_option maxRecDepth 100000
set_option maxHeartbeats 4000000
namespace Go.Proofs.YtoflckochjijcaaGreatDoor.E
open Go Go.RowKit Go.Eng Go.EV Go.EQ Go.Lib
variable [Fuel]
structure Two (C : Nat) (F : List (Int × disk_file)) (Q : List disk_sector) (S : List (disk_sector × Bool)) (Fi : List greenbeltref02_File) (Qu : List greenbeltref02_Sector) (m : SM) : Prop where
 c : CR F Q S m
 r : RR Fi Qu m
 ok : OKm C m
variable {F : List (Int × disk_file)} {Q : List disk_sector} {S : List (disk_sector × Bool)} {Fi : List greenbeltref02_File} {Qu : List greenbeltref02_Sector} {m : SM} {C : Nat}
def upS (m : SM) : SM := { m with down := false }
theorem Two.up (h : Two C F Q S Fi Qu m) : Two C F Q S Fi Qu (upS m) := ⟨⟨h.c.f, h.c.q, h.c.s⟩, ⟨h.r.f, h.r.q⟩, ⟨h.ok.now, h.ok.last, h.ok.ql, h.ok.qn, h.ok.lost, h.ok.armed, h.ok.keep⟩⟩
theorem Two.lose (h : Two C F Q S Fi Qu m) {n : Int} (hn : n ≤ 9223372036854775807) : Two C F Q S Fi Qu { m with lost := max n 0 } := ⟨⟨h.c.f, h.c.q, h.c.s⟩, ⟨h.r.f, h.r.q⟩, ⟨h.ok.now, h.ok.last, h.ok.ql, h.ok.qn, by show 0 ≤ max n 0 ∧ max n 0 ≤ 9223372036854775807; omega, h.ok.armed, h.ok.keep⟩⟩
theorem Two.arm (h : Two C F Q S Fi Qu m) {n : Int} {k : List Int} (hn : n ≤ 9223372036854775807) (hk : k.length ≤ 1099511627776) : Two C F Q S Fi Qu { m with armed := max n 0, keep := k } := ⟨⟨h.c.f, h.c.q, h.c.s⟩, ⟨h.r.f, h.r.q⟩, ⟨h.ok.now, h.ok.last, h.ok.ql, h.ok.qn, h.ok.lost, by show 0 ≤ max n 0 ∧ max n 0 ≤ 9223372036854775807; omega, hk⟩⟩
theorem Two.mono {D : Nat} (h : Two C F Q S Fi Qu m) (hd : C ≤ D) : Two D F Q S Fi Qu m := ⟨h.c, h.r, h.ok.mono hd⟩
theorem open_both {β : Type} (P : Option β → Prop) {A B E : _ → _ → Option β} {D : _ → _ → Option β} (hC : C ≤ 1000000) (h : Two C F Q S Fi Qu m)
  (hA : ∀ (e : Int) (m' : SM) F' Q' S' Fi' Qu', Two C F' Q' S' Fi' Qu' m' → P (A (e, m'.lost, m'.down, m'.armed, m'.keep, F', Q', S') (e, Fi', m'.lost, m'.down, m'.armed, m'.keep, Qu')))
  (hD : ∀ (l : List (List UInt8)) (m' : SM) F' Q' S' Fi' Qu', (forms l).length ≤ 2097152 → Two C F' Q' S' Fi' Qu' m' → P (D (0, m'.lost, m'.down, m'.armed, m'.keep, F', 3, (((forms l).length : Nat) : Int), false, Q', S', l) (0, Fi', m'.lost, m'.down, m'.armed, m'.keep, 3, l, false, Qu'))) :
  P (orC (s_journal_Open_1 F Q S m.lost m.down m.armed m.keep 3) (fun x => orC (s_greenbeltref03_Open_1 Fi Qu m.lost m.down m.armed m.keep 3) (fun y => A x y) (orC (s_greenbeltref03_Open_2 Fi Qu m.lost m.down m.armed m.keep 3) (fun y => B x y) none)) (orC (s_journal_Open_2 F Q S m.lost m.down m.armed m.keep 3) (fun x => orC (s_greenbeltref03_Open_1 Fi Qu m.lost m.down m.armed m.keep 3) (fun y => E x y) (orC (s_greenbeltref03_Open_2 Fi Qu m.lost m.down m.armed m.keep 3) (fun y => D x y) none)) none)) := by
 have ho := h.ok.opens
 rcases hop : openS m with ⟨_ | l, e, m'⟩
 ·obtain ⟨F', Q', S', h1, h2⟩ := c_Open_no h.c h.ok hC hop
  obtain ⟨Fi', Qu', h3, h4⟩ := r_Open_no h.r h.ok hC hop
  rw [h1, h3]
  rw [hop] at ho
  exact hA e m' F' Q' S' Fi' Qu' ⟨h2, h4, ho⟩
 ·obtain ⟨h0, h1, F', Q', S', h2, h3⟩ := c_Open_yes h.c h.ok hC hop
  obtain ⟨h4, Fi', Qu', h5, h6⟩ := r_Open_yes h.r h.ok hC hop
  rw [h1, h2, h4, h5]
  rw [hop] at ho
  exact hD l m' F' Q' S' Fi' Qu' (opens_len h.ok hop) ⟨h3, h6, ho⟩
theorem orC_some {α R : Type} {a : α} {l : α → Option R} {k : Option R} : orC (some a) l k = l a := rfl
theorem orC_none {α R : Type} {l : α → Option R} {k : Option R} : orC none l k = k := rfl
def Ends (N : Nat) (head : Bool) (z : Option (Bool ⊕ (Bool × Int × Bool × Int × (List Int) × (List greenbeltref02_File) × Int × Bool × Int × (List Int) × (List (Int × disk_file)) × (List disk_sector) × (List (disk_sector × Bool)) × (List greenbeltref02_Sector)))) : Prop :=
 ∃ F Q S Fi Qu m, Two N F Q S Fi Qu m ∧ z = some (.inr (head, m.lost, m.down, m.armed, m.keep, Fi, m.lost, m.down, m.armed, m.keep, F, Q, S, Qu))
theorem tells_L (l : List greenbeltref03_Op) (head : Bool) (hl : l.length ≤ 25) (ho : ∀ o ∈ l, o.S.length ≤ 200 ∧ o.Keep.length ≤ 50 ∧ o.N ≤ 9223372036854775807) : ∀ (k i fuel : Nat), k = l.length - i → i ≤ l.length → k < fuel →
  (∀ (e : Int) F Q S Fi Qu m, Two (300 * i) F Q S Fi Qu m → Ends 10000 head (s_greenbeltlaw03_JournalTells_L1 fuel (.inr (l, head, e, e, (i : Int), m.lost, m.down, m.armed, m.keep, Fi, m.lost, m.down, m.armed, m.keep, F, Q, S, Qu)))) ∧
  (∀ (e : Int) (bad : Bool) (recs : List (List UInt8)) F Q S Fi Qu m, (forms recs).length ≤ 2097152 → Two (300 * i) F Q S Fi Qu m → Ends 10000 head (s_greenbeltlaw03_JournalTells_L1 fuel (.inl (l, head, e, e, (i : Int), m.lost, m.down, m.armed, m.keep, Fi, m.lost, m.down, m.armed, m.keep, 3, (((forms recs).length : Nat) : Int), bad, 3, recs, bad, F, Q, S, Qu, recs)))) := by
 intro k
 induction k with
 | zero =>
  intro i fuel hk hi hf
  obtain ⟨f, rfl⟩ : ∃ f, fuel = f + 1 := ⟨fuel - 1, by omega⟩
  have hd : decide ((i : Int) < (l.length : Int)) = false := by simp; omega
  constructor
  ·intro e F Q S Fi Qu m h
   rw [s_greenbeltlaw03_JournalTells_L1]
   dsimp only
   rw [hd, cond_false]
   exact ⟨F, Q, S, Fi, Qu, m, h.mono (by omega), rfl⟩
  ·intro e bad recs F Q S Fi Qu m hr h
   rw [s_greenbeltlaw03_JournalTells_L1]
   dsimp only
   rw [hd, cond_false]
   exact ⟨F, Q, S, Fi, Qu, m, h.mono (by omega), rfl⟩
 | succ k ih =>
  intro i fuel hk hi hf
  obtain ⟨f, rfl⟩ : ∃ f, fuel = f + 1 := ⟨fuel - 1, by omega⟩
  have hlt : i < l.length := by omega
  obtain ⟨o1, o2, o3⟩ := ho _ (getD_mem hlt)
  have ew : w64 ((i : Int) + 1) = ((i + 1 : Nat) : Int) := by rw [w64_id (by omega) (by omega)]; rfl
  obtain ⟨ih1, ih2⟩ := ih (i + 1) f (by omega) (by omega) (by omega)
  have hd : decide ((i : Int) < (l.length : Int)) = true := by simp; omega
  generalize ho' : l.getD i default = o at o1 o2 o3
  constructor
  ·intro e F Q S Fi Qu m h
   rw [s_greenbeltlaw03_JournalTells_L1]
   dsimp only
   rw [hd, cond_true, idx_of hlt, Option.bind_some, ho', sum_spec (by omega), Option.bind_some, rsum_spec (by omega), Option.bind_some, ew]
   simp only [decide_true, Bool.not_true, cond_false, beq_self_eq_true]
   have hm := h.mono (D := 300 * (i + 1)) (by omega)
   by_cases k0 : o.Kind = 0
   ·simp only [k0, decide_true, cond_true, Option.bind_some]
    exact ih1 e F Q S Fi Qu m hm
   by_cases k1 : o.Kind = 1
   ·simp only [k1, decide_true, cond_true, Option.bind_some, show decide ((1 : Int) = 0) = false from rfl, cond_false]
    exact ih1 e F Q S Fi Qu m hm
   simp only [k0, k1, decide_false, cond_false, Option.bind_some]
   by_cases k2 : o.Kind = 2
   ·simp only [k2, decide_true, cond_true]
    exact ih1 e F Q S Fi Qu _ (hm.lose o3)
   simp only [k2, decide_false, cond_false]
   by_cases k3 : o.Kind = 3
   ·simp only [k3, decide_true, cond_true]
    rw [c_Arm (by omega), Option.bind_some, r_Arm (by omega), Option.bind_some]
    exact ih1 e F Q S Fi Qu _ (hm.arm o3 (by omega))
   simp only [k3, decide_false, cond_false]
   by_cases k4 : o.Kind = 4
   ·simp only [k4, decide_true, cond_true, Option.bind_some]
    cases hdn : m.down with
    | true =>
     rw [show e_disk_crash_n F Q S m.lost true m.armed m.keep o.Keep = some (m.lost, true, m.armed, m.keep) from rfl, orC_some, r_Crash_down, Option.bind_some, Option.bind_some]
     dsimp only
     rw [show s_disk_Disk_Start F Q S m.lost true m.armed m.keep = some false from rfl, Option.bind_some, show s_greenbeltref02_Disk_Start Fi Qu m.lost true m.armed m.keep = some false from rfl, Option.bind_some]
     refine open_both (Ends 10000 head) (m := upS m) (by omega) hm.up ?_ ?_
     ·intro e2 m2 F2 Q2 S2 Fi2 Qu2 h2
      simp only [decide_true, Bool.not_true, cond_false]
      exact ih1 e2 F2 Q2 S2 Fi2 Qu2 m2 h2
     ·intro l2 m2 F2 Q2 S2 Fi2 Qu2 hl2 h2
      simp only [decide_true, Bool.not_true, cond_false]
      rw [c_All (by have := forms_length l2; omega), Option.bind_some, same_self hl2, Option.bind_some]
      exact ih2 0 false l2 F2 Q2 S2 Fi2 Qu2 m2 hl2 h2
    | false =>
     obtain ⟨F1, h1, h2⟩ := c_crash (lost := m.lost) (a := m.armed) (k0 := m.keep) (keep := o.Keep) hm.c hm.ok (by omega) (by omega)
     obtain ⟨Fi1, h3, h4⟩ := r_Crash (lost := m.lost) (a := m.armed) (k0 := m.keep) (keep := o.Keep) hm.r hm.ok (by omega) (by omega)
     rw [show e_disk_crash_n F Q S m.lost false m.armed m.keep o.Keep = none from rfl, orC_none, h1, orC_some, h3, Option.bind_some, Option.bind_some]
     dsimp only
     rw [show s_disk_Disk_Start F1 [] [] m.lost true 0 m.keep = some false from rfl, Option.bind_some, show s_greenbeltref02_Disk_Start Fi1 [] m.lost true 0 m.keep = some false from rfl, Option.bind_some]
     refine open_both (Ends 10000 head) (m := upS (crashS m o.Keep)) (by omega) (Two.up ⟨h2, h4, hm.ok.crash⟩) ?_ ?_
     ·intro e2 m2 F2 Q2 S2 Fi2 Qu2 h2
      simp only [decide_true, Bool.not_true, cond_false]
      exact ih1 e2 F2 Q2 S2 Fi2 Qu2 m2 h2
     ·intro l2 m2 F2 Q2 S2 Fi2 Qu2 hl2 h2
      simp only [decide_true, Bool.not_true, cond_false]
      rw [c_All (by have := forms_length l2; omega), Option.bind_some, same_self hl2, Option.bind_some]
      exact ih2 0 false l2 F2 Q2 S2 Fi2 Qu2 m2 hl2 h2
   by_cases k5 : o.Kind = 5
   ·simp only [k5, decide_true, cond_true, Option.bind_some, show decide ((5 : Int) = 4) = false from rfl, cond_false]
    rw [show s_disk_Disk_Start F Q S m.lost m.down m.armed m.keep = some false from rfl, Option.bind_some, show s_greenbeltref02_Disk_Start Fi Qu m.lost m.down m.armed m.keep = some false from rfl, Option.bind_some]
    refine open_both (Ends 10000 head) (m := upS m) (by omega) hm.up ?_ ?_
    ·intro e2 m2 F2 Q2 S2 Fi2 Qu2 h2
     simp only [decide_true, Bool.not_true, cond_false]
     exact ih1 e2 F2 Q2 S2 Fi2 Qu2 m2 h2
    ·intro l2 m2 F2 Q2 S2 Fi2 Qu2 hl2 h2
     simp only [decide_true, Bool.not_true, cond_false]
     rw [c_All (by have := forms_length l2; omega), Option.bind_some, same_self hl2, Option.bind_some]
     exact ih2 0 false l2 F2 Q2 S2 Fi2 Qu2 m2 hl2 h2
   simp only [k4, k5, decide_false, cond_false, Option.bind_some]
   exact ih1 e F Q S Fi Qu m hm
  ·intro e bad recs F Q S Fi Qu m hr h
   rw [s_greenbeltlaw03_JournalTells_L1]
   dsimp only
   rw [hd, cond_true, idx_of hlt, Option.bind_some, ho', sum_spec (by omega), Option.bind_some, rsum_spec (by omega), Option.bind_some, ew]
   simp only [decide_true, Bool.not_true, cond_false, beq_self_eq_true]
   have hm := h.mono (D := 300 * (i + 1)) (by omega)
   by_cases k0 : o.Kind = 0
   ·simp only [k0, decide_true, cond_true, Option.bind_some]
    obtain ⟨F1, Q1, S1, h1, h2⟩ := c_Append (bad := bad) h.c h.ok (by omega) o1 hr
    obtain ⟨Fi1, Qu1, h3, h4⟩ := r_Append (bad := bad) h.r h.ok (by omega) o1 hr
    obtain ⟨h5, h6⟩ := h.ok.append (bad := bad) o1 hr
    rw [h1, Option.bind_some, h3, Option.bind_some]
    simp only [decide_true, Bool.not_true, cond_false]
    rw [c_All (by have := forms_length (appendS m recs bad o.S).2.2.1; omega), Option.bind_some, same_self h6, Option.bind_some]
    exact ih2 _ _ _ F1 Q1 S1 Fi1 Qu1 _ h6 ⟨h2, h4, h5.mono (by omega)⟩
   by_cases k1 : o.Kind = 1
   ·simp only [k1, decide_true, cond_true, Option.bind_some, show decide ((1 : Int) = 0) = false from rfl, cond_false]
    obtain ⟨F1, Q1, S1, h1, h2⟩ := c_JSync (bad := bad) (recs := recs) (by_ := (((forms recs).length : Nat) : Int)) hm.c hm.ok (by omega)
    obtain ⟨Fi1, Qu1, h3, h4⟩ := r_JSync (bad := bad) (recs := recs) hm.r hm.ok (by omega)
    rw [h1, Option.bind_some, h3, Option.bind_some]
    simp only [decide_true, Bool.not_true, cond_false]
    rw [c_All (by have := forms_length recs; omega), Option.bind_some, same_self hr, Option.bind_some]
    exact ih2 _ _ _ F1 Q1 S1 Fi1 Qu1 _ hr ⟨h2, h4, hm.ok.syncJ⟩
   simp only [k0, k1, decide_false, cond_false, Option.bind_some]
   by_cases k2 : o.Kind = 2
   ·simp only [k2, decide_true, cond_true]
    rw [show s_disk_Disk_Lose F Q S m.lost m.down m.armed m.keep o.N = some (max o.N 0) from rfl, Option.bind_some, show s_greenbeltref02_Disk_Lose Fi Qu m.lost m.down m.armed m.keep o.N = some (max o.N 0) from rfl, Option.bind_some]
    rw [c_All (by have := forms_length recs; omega), Option.bind_some, same_self hr, Option.bind_some]
    exact ih2 e bad recs F Q S Fi Qu _ hr (hm.lose o3)
   simp only [k2, decide_false, cond_false]
   by_cases k3 : o.Kind = 3
   ·simp only [k3, decide_true, cond_true]
    rw [c_Arm (by omega), Option.bind_some, r_Arm (by omega), Option.bind_some]
    rw [c_All (by have := forms_length recs; omega), Option.bind_some, same_self hr, Option.bind_some]
    exact ih2 e bad recs F Q S Fi Qu _ hr (hm.arm o3 (by omega))
   simp only [k3, decide_false, cond_false]
   by_cases k4 : o.Kind = 4
   ·simp only [k4, decide_true, cond_true, Option.bind_some]
    cases hdn : m.down with
    | true =>
     rw [show e_disk_crash_n F Q S m.lost true m.armed m.keep o.Keep = some (m.lost, true, m.armed, m.keep) from rfl, orC_some, r_Crash_down, Option.bind_some, Option.bind_some]
     dsimp only
     rw [show s_disk_Disk_Start F Q S m.lost true m.armed m.keep = some false from rfl, Option.bind_some, show s_greenbeltref02_Disk_Start Fi Qu m.lost true m.armed m.keep = some false from rfl, Option.bind_some]
     refine open_both (Ends 10000 head) (m := upS m) (by omega) hm.up ?_ ?_
     ·intro e2 m2 F2 Q2 S2 Fi2 Qu2 h2
      simp only [decide_true, Bool.not_true, cond_false]
      exact ih1 e2 F2 Q2 S2 Fi2 Qu2 m2 h2
     ·intro l2 m2 F2 Q2 S2 Fi2 Qu2 hl2 h2
      simp only [decide_true, Bool.not_true, cond_false]
      rw [c_All (by have := forms_length l2; omega), Option.bind_some, same_self hl2, Option.bind_some]
      exact ih2 0 false l2 F2 Q2 S2 Fi2 Qu2 m2 hl2 h2
    | false =>
     obtain ⟨F1, h1, h2⟩ := c_crash (lost := m.lost) (a := m.armed) (k0 := m.keep) (keep := o.Keep) hm.c hm.ok (by omega) (by omega)
     obtain ⟨Fi1, h3, h4⟩ := r_Crash (lost := m.lost) (a := m.armed) (k0 := m.keep) (keep := o.Keep) hm.r hm.ok (by omega) (by omega)
     rw [show e_disk_crash_n F Q S m.lost false m.armed m.keep o.Keep = none from rfl, orC_none, h1, orC_some, h3, Option.bind_some, Option.bind_some]
     dsimp only
     rw [show s_disk_Disk_Start F1 [] [] m.lost true 0 m.keep = some false from rfl, Option.bind_some, show s_greenbeltref02_Disk_Start Fi1 [] m.lost true 0 m.keep = some false from rfl, Option.bind_some]
     refine open_both (Ends 10000 head) (m := upS (crashS m o.Keep)) (by omega) (Two.up ⟨h2, h4, hm.ok.crash⟩) ?_ ?_
     ·intro e2 m2 F2 Q2 S2 Fi2 Qu2 h2
      simp only [decide_true, Bool.not_true, cond_false]
      exact ih1 e2 F2 Q2 S2 Fi2 Qu2 m2 h2
     ·intro l2 m2 F2 Q2 S2 Fi2 Qu2 hl2 h2
      simp only [decide_true, Bool.not_true, cond_false]
      rw [c_All (by have := forms_length l2; omega), Option.bind_some, same_self hl2, Option.bind_some]
      exact ih2 0 false l2 F2 Q2 S2 Fi2 Qu2 m2 hl2 h2
   by_cases k5 : o.Kind = 5
   ·simp only [k5, decide_true, cond_true, Option.bind_some, show decide ((5 : Int) = 4) = false from rfl, cond_false]
    rw [show s_disk_Disk_Start F Q S m.lost m.down m.armed m.keep = some false from rfl, Option.bind_some, show s_greenbeltref02_Disk_Start Fi Qu m.lost m.down m.armed m.keep = some false from rfl, Option.bind_some]
    refine open_both (Ends 10000 head) (m := upS m) (by omega) hm.up ?_ ?_
    ·intro e2 m2 F2 Q2 S2 Fi2 Qu2 h2
     simp only [decide_true, Bool.not_true, cond_false]
     exact ih1 e2 F2 Q2 S2 Fi2 Qu2 m2 h2
    ·intro l2 m2 F2 Q2 S2 Fi2 Qu2 hl2 h2
     simp only [decide_true, Bool.not_true, cond_false]
     rw [c_All (by have := forms_length l2; omega), Option.bind_some, same_self hl2, Option.bind_some]
     exact ih2 0 false l2 F2 Q2 S2 Fi2 Qu2 m2 hl2 h2
   simp only [k4, k5, decide_false, cond_false, Option.bind_some]
   rw [c_All (by have := forms_length recs; omega), Option.bind_some, same_self hr, Option.bind_some]
   exact ih2 e bad recs F Q S Fi Qu m hr hm
theorem tells_law (l : List greenbeltref03_Op) (hl : l.length ≤ 9223372036854775807) (hN : ∀ o ∈ l, o.N ≤ 9223372036854775807) : s_greenbeltlaw03_JournalTells l = some true := by
 obtain ⟨b, hb, hb2⟩ := few_spec hl
 unfold s_greenbeltlaw03_JournalTells
 rw [small_spec, Option.bind_some, hb, Option.bind_some]
 cases b with
 | false => rfl
 | true =>
  obtain ⟨hl2, ho⟩ := hb2 rfl
  rw [Bool.not_true, cond_false, show s_disk_New = some (0, false, 0, [], ([] : List (Int × disk_file)), ([] : List disk_sector), ([] : List (disk_sector × Bool))) from rfl, Option.bind_some, show s_greenbeltref02_New = some ([], 0, false, 0, [], ([] : List greenbeltref02_Sector)) from rfl, Option.bind_some]
  dsimp only
  have h0 : Two 0 ([] : List (Int × disk_file)) ([] : List disk_sector) ([] : List (disk_sector × Bool)) ([] : List greenbeltref02_File) ([] : List greenbeltref02_Sector) ⟨[], [], [], 0, 0, false, []⟩ :=
   ⟨⟨.inr ⟨rfl, rfl, rfl⟩, rfl, List.nodup_nil, fun n => by simp [mfind]⟩, ⟨.inr ⟨rfl, rfl, rfl⟩, rfl⟩, ⟨by decide, by decide, by decide, (fun n h => by cases h), by decide, by decide, by decide⟩⟩
  have hfin : ∀ F Q S Fi Qu m, Two 10000 F Q S Fi Qu m → ((s_disk_Disk_Start F Q S m.lost m.down m.armed m.keep).bind fun x8 => (s_greenbeltref02_Disk_Start Fi Qu m.lost m.down m.armed m.keep).bind fun x9 => (s_disk_Disk_Size F Q S m.lost x8 m.armed m.keep 3).bind fun x10 => (s_disk_Disk_Read F Q S m.lost x8 m.armed m.keep 3 0 x10).bind fun x11 => (s_greenbeltref02_Disk_Size Fi Qu m.lost x9 m.armed m.keep 3).bind fun x12 => (s_greenbeltref02_Disk_Read Fi Qu m.lost x9 m.armed m.keep 3 0 x12).bind fun x13 => (bif true then some (decide (x11.1 = x13.1)) else some false)) = some true := by
   intro F Q S Fi Qu m h
   rw [show s_disk_Disk_Start F Q S m.lost m.down m.armed m.keep = some false from rfl, Option.bind_some, show s_greenbeltref02_Disk_Start Fi Qu m.lost m.down m.armed m.keep = some false from rfl, Option.bind_some]
   rw [show s_disk_Disk_Size F Q S m.lost false m.armed m.keep 3 = some (((m.now.length : Nat) : Int)) by unfold s_disk_Disk_Size; rw [h.c.f.find], Option.bind_some, c_Read h.c (Nat.le_refl _), Option.bind_some, r_Size h.r, Option.bind_some, r_Read h.r h.ok rfl, Option.bind_some]
   simp
  have ho2 : ∀ o ∈ l, o.S.length ≤ 200 ∧ o.Keep.length ≤ 50 ∧ o.N ≤ 9223372036854775807 := fun o h => ⟨(ho o h).1, (ho o h).2, hN o h⟩
  obtain ⟨ih1, ih2⟩ := tells_L l true hl2 ho2 l.length 0 KK rfl (Nat.zero_le _) (kk_lt (by omega))
  refine open_both (fun z => z = some true) (m := ⟨[], [], [], 0, 0, false, []⟩) (C := 0) (by omega) h0 ?_ ?_
  ·intro e m2 F2 Q2 S2 Fi2 Qu2 h2
   obtain ⟨F, Q, S, Fi, Qu, m, h3, h4⟩ := ih1 e F2 Q2 S2 Fi2 Qu2 m2 h2
   dsimp only
   rw [show ((0 : Nat) : Int) = 0 from rfl] at h4
   rw [h4, Option.bind_some]
   exact hfin F Q S Fi Qu m h3
  ·intro l2 m2 F2 Q2 S2 Fi2 Qu2 hl2 h2
   obtain ⟨F, Q, S, Fi, Qu, m, h3, h4⟩ := ih2 0 false l2 F2 Q2 S2 Fi2 Qu2 m2 hl2 h2
   dsimp only
   rw [show ((0 : Nat) : Int) = 0 from rfl] at h4
   rw [h4, Option.bind_some]
   exact hfin F Q S Fi Qu m h3
end Go.Proofs.YtoflckochjijcaaGreatDoor.E
