/- Graphs: plain mathematics, no program in sight. -/
set_option linter.all false
set_option maxRecDepth 100000
namespace Go.Grf
/-- A loop with fuel. -/
theorem loop_inv {S T : Type} {L : Nat → S → Option T} (I : S → Prop) (μ : S → Nat) (post : T → Prop)
    (step : ∀ K s, I s → (∃ t, L (K + 1) s = some t ∧ post t) ∨ ∃ s', I s' ∧ μ s' < μ s ∧ L (K + 1) s = L K s') : ∀ (n K : Nat) (s : S), I s → μ s ≤ n → n < K → ∃ t, L K s = some t ∧ post t
  | n, 0, s, _, _, h => by omega
  | n, K + 1, s, hI, hn, hK => by
    rcases step K s hI with h | ⟨s', h1, h2, h3⟩
    · exact h
    · rw [h3]
      cases n with
      | zero => omega
      | succ n => exact loop_inv I μ post step n K s' h1 (by omega) (by omega)
/-- n steps lead from i to k. -/
inductive Path (U : Nat → Nat → Prop) : Nat → Nat → Nat → Prop
  | nil (i : Nat) : Path U 0 i i
  | cons {n i j k : Nat} (h : U i j) (p : Path U n j k) : Path U (n + 1) i k
theorem Path.trans {U : Nat → Nat → Prop} {n m i j k : Nat} (h : Path U n i j) (k' : Path U m j k) : Path U (n + m) i k := by
  induction h with
  | nil i => rw [Nat.zero_add]; exact k'
  | cons h p ih => rw [Nat.succ_add]; exact .cons h (ih k')
def Cyc (U : Nat → Nat → Prop) (i : Nat) : Prop := ∃ n, Path U (n + 1) i i
/-- d k: how many steps lead from k to the node t; -1 if none do. -/
structure Dist (N : Nat) (U : Nat → Nat → Prop) (t : Nat) (d : Nat → Int) : Prop where
  zero : d t = 0
  neg : ∀ k, k < N → d k = -1 ∨ 0 ≤ d k
  back : ∀ k, k < N → k ≠ t → 0 ≤ d k → ∃ j, j < N ∧ U k j ∧ 0 ≤ d j ∧ d k = d j + 1
  only : ∀ k, k < N → d k = 0 → k = t
  step : ∀ k j, k < N → j < N → U k j → 0 ≤ d j → 0 ≤ d k ∧ d k ≤ d j + 1
  small : ∀ k, k < N → d k < N
theorem Dist.le {N : Nat} {U : Nat → Nat → Prop} {t : Nat} {d : Nat → Int} (h : Dist N U t d) (hU : ∀ i k, U i k → i < N ∧ k < N) : ∀ {n k : Nat}, Path U n k t → k < N → 0 ≤ d k ∧ d k ≤ n := by
  intro n k p
  have : ∀ n k t', Path U n k t' → t' = t → k < N → 0 ≤ d k ∧ d k ≤ n := by
    intro n k t' p
    induction p with
    | nil i => intro e _; subst e; rw [h.zero]; simp
    | cons hu p ih =>
      intro e hk
      have h1 := ih e (hU _ _ hu).2
      have h2 := h.step _ _ hk (hU _ _ hu).2 hu h1.1
      omega
  exact this n k t p rfl
theorem Dist.path {N : Nat} {U : Nat → Nat → Prop} {t : Nat} {d : Nat → Int} (h : Dist N U t d) : ∀ (n k : Nat), k < N → d k = n → Path U n k t
  | 0, k, hk, e => by have := h.only k hk (by simpa using e); subst this; exact .nil _
  | n + 1, k, hk, e => by
    have hne : k ≠ t := fun he => by rw [he, h.zero] at e; omega
    obtain ⟨j, hj, hu, h1, h2⟩ := h.back k hk hne (by omega)
    exact .cons hu (h.path n j hj (by omega))
theorem Dist.cyc {N : Nat} {U : Nat → Nat → Prop} {t : Nat} {d : Nat → Int} (h : Dist N U t d) (hU : ∀ i k, U i k → i < N ∧ k < N) : Cyc U t ↔ ∃ k, U t k ∧ 0 ≤ d k := by
  constructor
  · rintro ⟨n, p⟩
    cases p with
    | cons hu p => exact ⟨_, hu, (h.le hU p (hU _ _ hu).2).1⟩
  · rintro ⟨k, hu, hd⟩
    have hk := (hU _ _ hu).2
    exact ⟨(d k).toNat, .cons hu (h.path _ _ hk (by omega))⟩
/-- Different numbers below N: at most N. -/
theorem nodup_le : ∀ (N : Nat) (l : List Nat), l.Nodup → (∀ x ∈ l, x < N) → l.length ≤ N
  | 0, l, _, h => by
    cases l with
    | nil => simp
    | cons a l => have := h a (List.mem_cons_self ..); omega
  | N + 1, l, hn, h => by
    have h1 : (l.erase N).Nodup := hn.erase N
    have h2 := nodup_le N (l.erase N) h1 fun x hx => by
      have h3 := (hn.mem_erase_iff).1 hx
      have := h x h3.2
      omega
    have h3 : l.length ≤ (l.erase N).length + 1 := by
      rw [List.length_erase]
      split <;> omega
    omega
/-- Where everything that is not done has one before it that is not done, there is a circle. -/
theorem cyc_of_next {N : Nat} {U : Nat → Nat → Prop} {P : Nat → Prop} {s : Nat} (hs : P s) (hP : ∀ i, P i → i < N) (hnx : ∀ i, P i → ∃ k, U i k ∧ P k) : ∃ i, P i ∧ Cyc U i := by
  -- a way of any length
  have way : ∀ n, ∃ l : List Nat, l.length = n + 1 ∧ (∀ x ∈ l, P x) ∧ l.Pairwise (fun a b => ∃ m, Path U (m + 1) b a) := by
    intro n
    induction n with
    | zero => exact ⟨[s], rfl, fun x hx => by rw [List.mem_singleton.1 hx]; exact hs, List.pairwise_singleton ..⟩
    | succ n ih =>
      obtain ⟨l, h1, h2, h3⟩ := ih
      cases l with
      | nil => simp at h1
      | cons a l =>
        obtain ⟨k, hu, hk⟩ := hnx a (h2 a (List.mem_cons_self ..))
        refine ⟨k :: a :: l, by simp at h1 ⊢; omega, fun x hx => ?_, ?_⟩
        · rcases List.mem_cons.1 hx with rfl | hx
          · exact hk
          · exact h2 x hx
        · refine List.pairwise_cons.2 ⟨fun b hb => ?_, h3⟩
          rcases List.mem_cons.1 hb with rfl | hb
          · exact ⟨0, .cons hu (.nil _)⟩
          · obtain ⟨m, p⟩ := (List.pairwise_cons.1 h3).1 b hb
            exact ⟨m + 1, p.trans (.cons hu (.nil _))⟩
  obtain ⟨l, h1, h2, h3⟩ := way N
  by_cases hn : l.Nodup
  · have := nodup_le N l hn fun x hx => hP x (h2 x hx)
    omega
  · have : ∀ l : List Nat, ¬ l.Nodup → (∀ x ∈ l, P x) → l.Pairwise (fun a b => ∃ m, Path U (m + 1) b a) → ∃ i, P i ∧ Cyc U i := by
      intro l
      induction l with
      | nil => intro h; exact absurd List.nodup_nil h
      | cons a l ih =>
        intro hn h2 h3
        by_cases ha : a ∈ l
        · obtain ⟨m, p⟩ := (List.pairwise_cons.1 h3).1 a ha
          exact ⟨a, h2 a (List.mem_cons_self ..), m, p⟩
        · exact ih (fun h => hn (List.nodup_cons.2 ⟨ha, h⟩)) (fun x hx => h2 x (List.mem_cons_of_mem _ hx)) (List.pairwise_cons.1 h3).2
    exact this l hn h2 h3
theorem pairwise_all {α : Type} {R : α → α → Prop} : ∀ l : List α, (∀ a ∈ l, ∀ b ∈ l, R a b) → l.Pairwise R
  | [], _ => .nil
  | a :: l, h => List.pairwise_cons.2 ⟨fun b hb => h a (List.mem_cons_self ..) b (List.mem_cons_of_mem _ hb), pairwise_all l fun x hx y hy => h x (List.mem_cons_of_mem _ hx) y (List.mem_cons_of_mem _ hy)⟩
/- breadth first -/
def dv (out : List Int) (k : Nat) : Int := out.getD k default
def unv (out : List Int) : Nat := out.countP (fun x => decide (x < 0))
theorem dv_set {out : List Int} {i k : Nat} {v : Int} (hi : i < out.length) : dv (out.set i v) k = if k = i then v else dv out k := by
  unfold dv
  rw [List.getD_eq_getElem?_getD, List.getD_eq_getElem?_getD, List.getElem?_set]
  by_cases h : i = k
  · subst h; simp [hi]
  · rw [if_neg h, if_neg (Ne.symm h)]
theorem unv_set {out : List Int} {i : Nat} {v : Int} (hi : i < out.length) (h0 : dv out i < 0) (hv : 0 ≤ v) : unv (out.set i v) + 1 = unv out := by
  have hd : dv out i = out[i] := by unfold dv; rw [List.getD_eq_getElem?_getD, List.getElem?_eq_getElem hi]; rfl
  rw [hd] at h0
  have hpos : 0 < out.countP (fun x => decide (x < 0)) := List.countP_pos_iff.2 ⟨out[i], List.getElem_mem hi, by simpa using h0⟩
  unfold unv
  rw [List.countP_set hi]
  simp only [h0, decide_true, if_true, decide_eq_false (show ¬ v < 0 by omega)]
  simp only [Bool.false_eq_true, if_false]
  omega
/-- The state ahead of a round. -/
structure Bfs (N : Nat) (U : Nat → Nat → Prop) (t : Nat) (q out : List Int) : Prop where
  len : out.length = N
  tN : t < N
  mem : ∀ x ∈ q, ∃ k, k < N ∧ x = (k : Int) ∧ 0 ≤ dv out k
  zero : dv out t = 0
  neg : ∀ k, k < N → dv out k = -1 ∨ 0 ≤ dv out k
  back : ∀ k, k < N → k ≠ t → 0 ≤ dv out k → ∃ j, j < N ∧ U k j ∧ 0 ≤ dv out j ∧ dv out k = dv out j + 1
  only : ∀ k, k < N → dv out k = 0 → k = t
  bound : ∀ k, k < N → 0 ≤ dv out k → dv out k + unv out < N
  closed : ∀ j, j < N → 0 ≤ dv out j → (j : Int) ∈ q ∨ ∀ k, k < N → U k j → 0 ≤ dv out k ∧ dv out k ≤ dv out j + 1
  sorted : q.Pairwise fun a b => dv out a.toNat ≤ dv out b.toNat
  near : ∀ a ∈ q, ∀ k, k < N → dv out k ≤ dv out a.toNat + 1
theorem Bfs.start {N : Nat} {U : Nat → Nat → Prop} {t : Nat} (ht : t < N) : Bfs N U t [(t : Int)] ((List.replicate N (-1 : Int)).set t 0) := by
  have hl : (List.replicate N (-1 : Int)).length = N := by simp
  have hd : ∀ k, k < N → dv ((List.replicate N (-1 : Int)).set t 0) k = if k = t then 0 else -1 := fun k hk => by
    rw [dv_set (by rw [hl]; exact ht)]
    split
    · rfl
    · unfold dv; rw [List.getD_eq_getElem?_getD, List.getElem?_replicate, if_pos hk]; rfl
  have hdt : dv ((List.replicate N (-1 : Int)).set t 0) t = 0 := by rw [hd t ht, if_pos rfl]
  have hu : unv ((List.replicate N (-1 : Int)).set t 0) + 1 = N := by
    rw [unv_set (by rw [hl]; exact ht) (by unfold dv; rw [List.getD_eq_getElem?_getD, List.getElem?_replicate, if_pos ht]; decide) (by omega)]
    unfold unv
    rw [List.countP_replicate]; simp
  refine ⟨by simp, ht, fun x hx => ?_, hdt, fun k hk => ?_, fun k hk hne h => ?_, fun k hk h => ?_, fun k hk h => ?_, fun j hj h => ?_, List.pairwise_singleton .., fun a ha k hk => ?_⟩
  · rw [List.mem_singleton.1 hx]; exact ⟨t, ht, rfl, by rw [hdt]; omega⟩
  · rw [hd k hk]; split <;> simp
  · rw [hd k hk, if_neg hne] at h; omega
  · rw [hd k hk] at h; split at h
    · assumption
    · omega
  · rw [hd k hk] at h ⊢; split at h
    · rw [if_pos (by assumption)]; omega
    · omega
  · rw [hd j hj] at h; split at h
    · rename_i e; subst e; exact .inl (List.mem_singleton.2 rfl)
    · omega
  · rw [List.mem_singleton.1 ha, hd k hk]
    show _ ≤ dv _ t + 1
    rw [hdt]; split <;> omega
theorem Bfs.done {N : Nat} {U : Nat → Nat → Prop} {t : Nat} {out : List Int} (h : Bfs N U t [] out) : Dist N U t (dv out) :=
  ⟨h.zero, h.neg, h.back, h.only, fun k j hk hj hu hd => (h.closed j hj hd).elim (fun h => by cases h) fun h => h k hk hu, fun k hk => by
    rcases h.neg k hk with e | e
    · rw [e]; have := h.tN; omega
    · have := h.bound k hk e; omega⟩
/-- Within a round: the nodes below i have been looked at. -/
structure Mid (N : Nat) (U : Nat → Nat → Prop) (e : Nat) (q0 out0 : List Int) (i : Nat) (q out : List Int) : Prop where
  len : out.length = N
  iN : i ≤ N
  new : ∃ nw : List Int, q = q0 ++ nw ∧ (∀ x ∈ nw, ∃ k, k < i ∧ x = (k : Int) ∧ dv out0 k < 0 ∧ dv out k = dv out0 e + 1) ∧ ∀ k, k < N → dv out k = dv out0 k ∨ dv out0 k < 0 ∧ U k e ∧ dv out k = dv out0 e + 1 ∧ (k : Int) ∈ nw
  seen : ∀ k, k < i → U k e → 0 ≤ dv out k
  later : ∀ k, i ≤ k → k < N → dv out k = dv out0 k
  cnt : unv out + q.length = unv out0 + q0.length
theorem Mid.start {N : Nat} {U : Nat → Nat → Prop} {e : Nat} {q out : List Int} (hl : out.length = N) : Mid N U e q out 0 q out :=
  ⟨hl, Nat.zero_le _, ⟨[], by simp, (by intro x hx; cases hx), fun k hk => .inl rfl⟩, fun k hk => by omega, fun _ _ _ => rfl, rfl⟩
theorem Mid.skip {N : Nat} {U : Nat → Nat → Prop} {e i : Nat} {q0 out0 q out : List Int} (h : Mid N U e q0 out0 i q out) (hi : i < N) (hs : 0 ≤ dv out i ∨ ¬ U i e) : Mid N U e q0 out0 (i + 1) q out := by
  obtain ⟨nw, h1, h2, h3⟩ := h.new
  refine ⟨h.len, by omega, ⟨nw, h1, fun x hx => ?_, h3⟩, fun k hk hu => ?_, fun k hk hn => h.later k (by omega) hn, h.cnt⟩
  · obtain ⟨k, hk, r⟩ := h2 x hx
    exact ⟨k, by omega, r⟩
  · by_cases hki : k = i
    · subst hki
      rcases hs with hs | hs
      · exact hs
      · exact absurd hu hs
    · exact h.seen k (by omega) hu
theorem Mid.push {N : Nat} {U : Nat → Nat → Prop} {e i : Nat} {q0 out0 q out : List Int} (h : Mid N U e q0 out0 i q out) (hi : i < N) (hd : dv out i < 0) (hu : U i e) (he : 0 ≤ dv out0 e) (heN : e < N) : dv out e = dv out0 e ∧ Mid N U e q0 out0 (i + 1) (q ++ [(i : Int)]) (out.set i (dv out0 e + 1)) := by
  obtain ⟨nw, h1, h2, h3⟩ := h.new
  have hil : i < out.length := by rw [h.len]; exact hi
  have he' : dv out e = dv out0 e := by
    rcases h3 e heN with h' | ⟨h', _⟩
    · exact h'
    · omega
  refine ⟨he', ⟨by rw [List.length_set]; exact h.len, by omega, ⟨nw ++ [(i : Int)], by rw [h1, List.append_assoc], fun x hx => ?_, fun k hk => ?_⟩, fun k hk hu' => ?_, fun k hk hn => ?_, ?_⟩⟩
  · rcases List.mem_append.1 hx with hx | hx
    · obtain ⟨k, hk, e1, e2, e3⟩ := h2 x hx
      exact ⟨k, by omega, e1, e2, by rw [dv_set hil, if_neg (by omega)]; exact e3⟩
    · rw [List.mem_singleton.1 hx]
      exact ⟨i, by omega, rfl, by rw [← h.later i (Nat.le_refl _) hi]; exact hd, by rw [dv_set hil, if_pos rfl]⟩
  · rw [dv_set hil]
    split
    · rename_i hki; subst hki
      exact .inr ⟨by rw [← h.later k (Nat.le_refl _) hi]; exact hd, hu, rfl, by simp⟩
    · rcases h3 k hk with h' | ⟨a, b, c, d⟩
      · exact .inl h'
      · exact .inr ⟨a, b, c, List.mem_append_left _ d⟩
  · rw [dv_set hil]
    split
    · omega
    · exact h.seen k (by omega) hu'
  · rw [dv_set hil, if_neg (by omega)]; exact h.later k (by omega) hn
  · have := unv_set hil hd (show 0 ≤ dv out0 e + 1 by omega)
    have := h.cnt
    simp only [List.length_append, List.length_singleton]
    omega
/-- A round. -/
theorem Bfs.round {N : Nat} {U : Nat → Nat → Prop} {t e : Nat} {q0 out0 q out : List Int} (hB : Bfs N U t ((e : Int) :: q0) out0) (hM : Mid N U e q0 out0 N q out) : Bfs N U t q out := by
  obtain ⟨nw, h1, h2, h3⟩ := hM.new
  obtain ⟨e', he, e2, hde⟩ := hB.mem _ (List.mem_cons_self ..)
  have : e = e' := by omega
  subst this
  have old : ∀ k, k < N → 0 ≤ dv out0 k → dv out k = dv out0 k := fun k hk h => by
    rcases h3 k hk with h' | ⟨h', _⟩
    · exact h'
    · omega
  have hnear : ∀ k, k < N → dv out0 k ≤ dv out0 e + 1 := fun k hk => by
    have := hB.near _ (List.mem_cons_self ..) k hk
    simpa using this
  have hall : ∀ k, k < N → dv out k ≤ dv out0 e + 1 := fun k hk => by
    rcases h3 k hk with h' | ⟨_, _, h', _⟩
    · rw [h']; exact hnear k hk
    · omega
  have hsort := List.pairwise_cons.1 hB.sorted
  have hq0 : ∀ a ∈ q0, ∃ k, k < N ∧ a = (k : Int) ∧ 0 ≤ dv out0 k ∧ dv out k = dv out0 k ∧ dv out0 e ≤ dv out0 k := fun a ha => by
    obtain ⟨k, hk, e3, h4⟩ := hB.mem a (List.mem_cons_of_mem _ ha)
    refine ⟨k, hk, e3, h4, old k hk h4, ?_⟩
    have := hsort.1 a ha
    rw [e3] at this
    simpa using this
  have hnw : ∀ a ∈ nw, ∃ k, k < N ∧ a = (k : Int) ∧ dv out0 k < 0 ∧ dv out k = dv out0 e + 1 := h2
  have hcnt : unv out ≤ unv out0 := by
    have h := hM.cnt
    rw [h1, List.length_append] at h; omega
  have hcnt2 : nw ≠ [] → unv out + 1 ≤ unv out0 := fun h0 => by
    have h := hM.cnt
    have : 0 < nw.length := List.length_pos_iff.2 h0
    rw [h1, List.length_append] at h; omega
  refine ⟨hM.len, hB.tN, fun x hx => ?_, by rw [old t hB.tN (by rw [hB.zero]; omega)]; exact hB.zero, fun k hk => ?_, fun k hk hne h => ?_, fun k hk h => ?_, fun k hk h => ?_, fun j hj h => ?_, ?_, fun a ha k hk => ?_⟩
  · rw [h1] at hx
    rcases List.mem_append.1 hx with hx | hx
    · obtain ⟨k, hk, a, b, c, _⟩ := hq0 x hx
      exact ⟨k, hk, a, by omega⟩
    · obtain ⟨k, hk, a, _, b⟩ := hnw x hx
      exact ⟨k, hk, a, by omega⟩
  · rcases h3 k hk with h' | ⟨_, _, h', _⟩
    · rw [h']; exact hB.neg k hk
    · right; omega
  · rcases h3 k hk with h' | ⟨_, hu, h', _⟩
    · obtain ⟨j, hj, hu, h4, h5⟩ := hB.back k hk hne (by omega)
      have := old j hj h4
      exact ⟨j, hj, hu, by omega, by omega⟩
    · have := old e he hde
      exact ⟨e, he, hu, by omega, by omega⟩
  · rcases h3 k hk with h' | ⟨_, _, h', _⟩
    · exact hB.only k hk (by omega)
    · omega
  · rcases h3 k hk with h' | ⟨_, _, h', hm⟩
    · have := hB.bound k hk (by omega); omega
    · have := hB.bound e he hde
      have := hcnt2 (List.ne_nil_of_mem hm)
      omega
  · rcases h3 j hj with h' | ⟨_, _, _, hm⟩
    · rcases hB.closed j hj (by omega) with hm | hc
      · rcases List.mem_cons.1 hm with hm | hm
        · have hje : j = e := by omega
          subst hje
          right
          intro k hk hu
          exact ⟨hM.seen k hk hu, by have := hall k hk; omega⟩
        · left; rw [h1]; exact List.mem_append_left _ hm
      · right
        intro k hk hu
        obtain ⟨a, b⟩ := hc k hk hu
        have := old k hk a
        exact ⟨by omega, by omega⟩
    · left; rw [h1]; exact List.mem_append_right _ hm
  · rw [h1]
    refine List.pairwise_append.2 ⟨?_, ?_, fun a ha b hb => ?_⟩
    · refine hsort.2.imp_of_mem fun {a b} ha hb h => ?_
      obtain ⟨k, _, rfl, _, e3, _⟩ := hq0 a ha
      obtain ⟨k', _, rfl, _, e4, _⟩ := hq0 b hb
      simp only [Int.toNat_natCast] at h ⊢
      omega
    · refine pairwise_all nw fun a ha b hb => ?_
      obtain ⟨k, _, rfl, _, e3⟩ := hnw a ha
      obtain ⟨k', _, rfl, _, e4⟩ := hnw b hb
      simp only [Int.toNat_natCast]
      omega
    · obtain ⟨k, hk, rfl, _, e3, _⟩ := hq0 a ha
      obtain ⟨k', _, rfl, _, e4⟩ := hnw b hb
      simp only [Int.toNat_natCast]
      have := hnear k hk
      omega
  · have h4 := hall k hk
    rw [h1] at ha
    rcases List.mem_append.1 ha with ha | ha
    · obtain ⟨k', _, rfl, _, e3, e4⟩ := hq0 a ha
      simp only [Int.toNat_natCast]; omega
    · obtain ⟨k', _, rfl, _, e3⟩ := hnw a ha
      simp only [Int.toNat_natCast]; omega
end Go.Grf
