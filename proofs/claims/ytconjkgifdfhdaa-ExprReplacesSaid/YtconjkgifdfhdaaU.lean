/- ExprReplaces in plain Lean. -/
import Derived.Test.YtconjkgifdfhdaaX
set_option linter.all false
set_option maxRecDepth 100000
namespace Go.Proofs.Ytconjkgifdfhdaa
open Go Go.RowKit Go.Eng Go.EV Go.Grf
section
variable (s : List UInt8) (b : Expr)
mutual
def putE : Expr → Expr
  | ⟨o, n, t, k, l⟩ => if o = 1 ∧ t = s ∧ l = [] then b else ⟨o, n, t, k, putEs l⟩
def putEs : List Expr → List Expr
  | [] => []
  | x :: r => putE x :: putEs r
end
theorem putEs_eq : ∀ l : List Expr, putEs s b l = l.map (putE s b)
  | [] => by rw [putEs]; rfl
  | x :: r => by rw [putEs, putEs_eq r]; rfl
theorem putE_eq (e : Expr) : putE s b e = if e.Op = 1 ∧ e.S = s ∧ e.Args = [] then b else ⟨e.Op, e.N, e.S, e.Key, e.Args.map (putE s b)⟩ := by
  cases e; rw [putE, putEs_eq]
end
theorem names_putLs {s : List UInt8} {b : Expr} {x : List UInt8} : ∀ l : List Expr, (∀ e ∈ l, x ∈ namesL (putE s b e) → x ∈ namesL e ∨ s ∈ namesL e ∧ x ∈ namesL b) → x ∈ namesLs (l.map (putE s b)) → x ∈ namesLs l ∨ s ∈ namesLs l ∧ x ∈ namesL b
  | [], _, h => .inl h
  | e :: l, ih, h => by
    rw [List.map_cons, namesLs, List.mem_append] at h
    rw [namesLs, List.mem_append, List.mem_append]
    rcases h with h | h
    · rcases ih e (List.mem_cons_self ..) h with h | ⟨h1, h2⟩
      · exact .inl (.inl h)
      · exact .inr ⟨.inl h1, h2⟩
    · rcases names_putLs l (fun y hy => ih y (List.mem_cons_of_mem _ hy)) h with h | ⟨h1, h2⟩
      · exact .inl (.inr h)
      · exact .inr ⟨.inr h1, h2⟩
theorem names_put {s : List UInt8} {b : Expr} {x : List UInt8} : ∀ (n : Nat) (e : Expr), lvl n e → x ∈ namesL (putE s b e) → x ∈ namesL e ∨ s ∈ namesL e ∧ x ∈ namesL b
  | 0, _, h, _ => h.elim
  | n + 1, e, hl, h => by
    rw [putE_eq] at h
    split at h
    · rename_i hc
      refine .inr ⟨?_, h⟩
      rw [namesL_eq, if_pos hc.1, hc.2.1]; simp
    · rw [namesL_eq] at h
      rw [namesL_eq, List.mem_append, List.mem_append]
      rcases List.mem_append.1 h with h | h
      · exact .inl (.inl h)
      · rcases names_putLs e.Args (fun y hy hx => names_put n y (hl y hy) hx) h with h | ⟨h1, h2⟩
        · exact .inl (.inr h)
        · exact .inr ⟨.inr h1, h2⟩
section
variable [Fuel]
theorem put_is (s : List UInt8) (b : Expr) : ∀ (n : Nat) (e : Expr) (K : Nat), lvl n e → cnt e ≤ 1000 → n < K → s_greenbeltlaw17_put K e s b = some (putE s b e)
  | 0, _, _, h, _, _ => h.elim
  | n + 1, e, K, hl, hc, hK => by
    obtain ⟨K, rfl⟩ : ∃ K', K = K' + 1 := ⟨K - 1, by omega⟩
    have hlen : e.Args.length ≤ 1000 := by
      have := len_cnts e.Args; rw [cnt_eq] at hc; omega
    have key : s_greenbeltlaw17_put_L1 (s_greenbeltlaw17_put K) e s b KK (0, []) = some (e.Args.map (putE s b)) :=
      det_loop (L := s_greenbeltlaw17_put_L1 (s_greenbeltlaw17_put K) e s b) (fun i => ((i : Int), (e.Args.take i).map (putE s b))) e.Args.length _ (by omega) (fun K' i hi => by
        have hx := getD_mem hi
        have hcx : cnt (e.Args.getD i default) ≤ 1000 := by have := mem_cnts hx; rw [cnt_eq] at hc; omega
        rw [s_greenbeltlaw17_put_L1, decide_eq_true (by dsimp only; omega), cond_true]
        dsimp only
        rw [idx_of hi, Option.bind_some, put_is s b n _ K (hl _ hx) hcx (by omega), Option.bind_some, grd_of (by rw [List.length_append, List.length_map, List.length_take, List.length_singleton]; omega), Option.bind_some, w64_succ hi (by omega)]
        rw [show e.Args.take (i + 1) = e.Args.take i ++ [e.Args.getD i default] by rw [getD_of hi, List.take_append_getElem], List.map_append]; rfl) (fun K' => by
        rw [s_greenbeltlaw17_put_L1, decide_eq_false (by dsimp only; omega), cond_false]
        dsimp only
        rw [List.take_length])
    rw [s_greenbeltlaw17_put, putE_eq]
    by_cases o1 : e.Op = 1
    · rw [decide_eq_true o1, cond_true]
      by_cases o2 : e.S = s
      · rw [decide_eq_true o2, cond_true]
        by_cases o3 : e.Args = []
        · rw [if_pos ⟨o1, o2, o3⟩, o3]; rfl
        · have : (e.Args.length : Int) ≠ 0 := fun h => o3 (List.length_eq_zero_iff.1 (by omega))
          rw [if_neg fun h => o3 h.2.2, decide_eq_false this, Option.bind_some, cond_false, key]; rfl
      · rw [if_neg fun h => o2 h.2.1, decide_eq_false o2, cond_false, Option.bind_some, cond_false, key]; rfl
    · rw [if_neg fun h => o1 h.1, decide_eq_false o1, cond_false, Option.bind_some, cond_false, key]; rfl
theorem lev_up : ∀ (d n : Nat) (e : Expr), n + d ≤ 12 → levV n e ≤ n → levV (n + d) e = levV n e
  | 0, _, _, _, _ => rfl
  | d + 1, n, e, hn, h => by
    have h1 := lev_up d n e (by omega) h
    rw [← Nat.add_assoc, lev_mono (n + d) e (by omega) (by rw [h1]; omega), h1]
theorem lev_put {s : List UInt8} {b : Expr} : ∀ (n : Nat) (e : Expr), n ≤ 12 → levV n (putE s b e) ≤ n → levV n e ≤ n
  | 0, e, _, h => by simp [levV] at h
  | n + 1, e, hn, h => by
    rw [putE_eq] at h
    split at h
    · rename_i hc
      rw [levV, hc.1, hc.2.2]
      have h : arV 1 = (0, true) := rfl
      simp [h]; omega
    · obtain ⟨h1, h2, h3⟩ := lev_args (by omega) h
      rw [levV, if_neg (by rintro (h | h); · rw [h1] at h; cases h
                           · exact h (by rw [h2]; simp))]
      have := (foldl_max (levV n) n e.Args 0 (fun x hx => lev_put n x (by omega) (h3 _ (List.mem_map_of_mem hx))) (by omega)).1
      omega
theorem val_default (look : List UInt8 → Int) (row : List UInt8 → List UInt8 → Int) (zone : List UInt8 → Bool) : ∀ n, valV look row zone n default = 0
  | 0 => rfl
  | n + 1 => by
    show valV look row zone (n + 1) ⟨0, 0, [], [], []⟩ = 0
    rw [valV]; simp
theorem getD_none {α : Type} [Inhabited α] {l : List α} {i : Nat} (h : l.length ≤ i) : l.getD i default = default := by
  rw [List.getD_eq_getElem?_getD, List.getElem?_eq_none h]; rfl
section
variable {look : List UInt8 → Int} {row : List UInt8 → List UInt8 → Int} {zone : List UInt8 → Bool}
theorem val_mono : ∀ (n : Nat) (e : Expr), n ≤ 11 → levV n e ≤ n → valV look row zone (n + 1) e = valV look row zone n e
  | 0, e, _, h => by simp [levV] at h
  | n + 1, e, hn, h => by
    obtain ⟨h1, h2, h3⟩ := lev_args (by omega) h
    have ih : ∀ i, valV look row zone (n + 1) (e.Args.getD i default) = valV look row zone n (e.Args.getD i default) := fun i => by
      by_cases hi : i < e.Args.length
      · exact val_mono n _ (by omega) (h3 _ (getD_mem hi))
      · rw [getD_none (by omega), val_default, val_default]
    rw [valV, ih, ih, ih]
    conv => rhs; rw [valV]
theorem val_up : ∀ (d n : Nat) (e : Expr), n + d ≤ 12 → levV n e ≤ n → valV look row zone (n + d) e = valV look row zone n e
  | 0, _, _, _, _ => rfl
  | d + 1, n, e, hn, h => by
    have h1 := val_up d n e (by omega) h
    rw [← Nat.add_assoc, val_mono (n + d) e (by omega) (by rw [lev_up d n e (by omega) h]; omega), h1]
theorem val_put {s : List UInt8} {b : Expr} (hs : exRight b → look s = valV look row zone 12 b) : ∀ (n : Nat) (e : Expr), n ≤ 12 → levV n e ≤ n → levV n (putE s b e) ≤ n → valV look row zone n (putE s b e) = valV look row zone n e
  | 0, _, _, _, _ => by rw [valV, valV]
  | n + 1, e, hn, h, hp => by
    obtain ⟨h1, h2, h3⟩ := lev_args (by omega) h
    by_cases hc : e.Op = 1 ∧ e.S = s ∧ e.Args = []
    · rw [putE_eq, if_pos hc] at hp ⊢
      have e12 : n + 1 + (11 - n) = 12 := by omega
      have hb : exRight b := by
        show levV 12 b ≤ 12
        rw [← e12, lev_up _ _ _ (by omega) hp]; omega
      have := hs hb
      rw [← e12, val_up _ _ _ (by omega) hp] at this
      rw [← this, valV, hc.1, hc.2.1]; simp
    · rw [putE_eq, if_neg hc] at hp ⊢
      obtain ⟨_, _, h4⟩ := lev_args (by omega) hp
      have ih : ∀ i, valV look row zone n ((e.Args.map (putE s b)).getD i default) = valV look row zone n (e.Args.getD i default) := fun i => by
        by_cases hi : i < e.Args.length
        · have hm : (e.Args.map (putE s b)).getD i default = putE s b (e.Args.getD i default) := by
            rw [getD_of (by simpa using hi), getD_of hi, List.getElem_map]
          rw [hm]
          exact val_put hs n _ (by omega) (h3 _ (getD_mem hi)) (h4 _ (List.mem_map_of_mem (getD_mem hi)))
        · rw [getD_none (l := e.Args.map (putE s b)) (by rw [List.length_map]; omega), getD_none (l := e.Args) (by omega)]
      rw [valV, valV]
      dsimp only
      rw [ih, ih, ih]
end
def putD (l : List Def) (k : Nat) (i : Nat) : Def :=
  if i ≠ k ∧ exRight (putE (nameAt l k) (l.getD k default).Body (l.getD i default).Body) then ⟨nameAt l i, putE (nameAt l k) (l.getD k default).Body (l.getD i default).Body⟩ else l.getD i default
def putDs (l : List Def) (k : Nat) : List Def := (List.range l.length).map (putD l k)
theorem putDs_len (l : List Def) (k : Nat) : (putDs l k).length = l.length := by unfold putDs; simp
theorem putDs_getD {l : List Def} {k i : Nat} (hi : i < l.length) : (putDs l k).getD i default = putD l k i := by
  rw [getD_of (by rw [putDs_len]; exact hi)]
  unfold putDs
  simp
theorem putDs_name {l : List Def} {k i : Nat} (hi : i < l.length) : nameAt (putDs l k) i = nameAt l i := by
  unfold nameAt
  rw [putDs_getD hi]
  unfold putD
  split <;> rfl
abbrev putP (p : Plan) (k : Nat) : Plan := Plan.mk (putDs p.Defs k) p.Tables p.Zones p.Rules p.Caps p.Views p.Sun p.Hours
theorem putDs_uses {l : List Def} {k i j : Nat} (hk : k < l.length) (hl : ∀ d ∈ l, ∃ n, lvl n d.Body) (h : Uses (putDs l k) i j) : ∃ m, Path (Uses l) (m + 1) i j := by
  obtain ⟨h1, h2, h3⟩ := h
  rw [putDs_len] at h1 h2
  rw [putDs_name h2, putDs_getD h1] at h3
  unfold putD at h3
  split at h3
  · obtain ⟨n, hn⟩ := hl _ (getD_mem h1)
    rcases names_put n _ hn h3 with h | ⟨h4, h5⟩
    · exact ⟨0, .cons ⟨h1, h2, h⟩ (.nil _)⟩
    · exact ⟨1, .cons ⟨h1, hk, h4⟩ (.cons ⟨hk, h2, h5⟩ (.nil _))⟩
  · exact ⟨0, .cons ⟨h1, h2, h3⟩ (.nil _)⟩
theorem putDs_path {l : List Def} {k : Nat} (hk : k < l.length) (hl : ∀ d ∈ l, ∃ n, lvl n d.Body) {n i j : Nat} (h : Path (Uses (putDs l k)) n i j) : ∃ m, n ≤ m ∧ Path (Uses l) m i j := by
  induction h with
  | nil => exact ⟨0, Nat.le_refl _, .nil _⟩
  | cons h _ ih =>
    obtain ⟨m, hm⟩ := putDs_uses hk hl h
    obtain ⟨m', h1, h2⟩ := ih
    exact ⟨m + 1 + m', by omega, hm.trans h2⟩
theorem putDs_okay {l : List Def} {k : Nat} (hk : k < l.length) (hl : ∀ d ∈ l, ∃ n, lvl n d.Body) (h : Okay l) : Okay (putDs l k) := by
  refine ⟨fun j hj => ?_, fun i hi hc => ?_⟩
  · rw [putDs_len] at hj
    obtain ⟨h1, h2⟩ := h.1 j hj
    rw [putDs_name hj]
    exact ⟨h1, fun j' hj' => by rw [putDs_name (by omega)]; exact h2 j' hj'⟩
  · rw [putDs_len] at hi
    obtain ⟨n, hn⟩ := hc
    obtain ⟨m, h1, h2⟩ := putDs_path hk hl hn
    obtain ⟨m', rfl⟩ : ∃ m', m = m' + 1 := ⟨m - 1, by omega⟩
    exact h.2 i hi ⟨m', h2⟩
theorem putDs_ix {l : List Def} {k : Nat} (s : List UInt8) : defIx (putDs l k) s = defIx l s := by
  unfold defIx
  rw [putDs_len]
  have : ∀ (q : List Nat), (∀ j ∈ q, j < l.length) → q.find? (fun j => decide (nameAt (putDs l k) j = s)) = q.find? fun j => decide (nameAt l j = s) := fun q => by
    induction q with
    | nil => intro _; rfl
    | cons a q ih =>
      intro h
      rw [List.find?_cons, List.find?_cons, putDs_name (h a (List.mem_cons_self ..)), ih fun j hj => h j (List.mem_cons_of_mem _ hj)]
  exact this _ fun j hj => by simpa using hj
theorem putDs_look {l : List Def} {k : Nat} {ms : List Entry} {V : Nat → Int} : lookV (putDs l k) ms V = lookV l ms V := by
  funext s
  unfold lookV
  rw [putDs_ix]
theorem look_of {p : Plan} {ms : List Entry} {zs : List (List UInt8)} {V : Nat → Int} {k : Nat} (hk : k < p.Defs.length) (hO : Okay p.Defs) (hV : Sol p ms zs V) (hm : measV ms (nameAt p.Defs k) = none) (hb : exRight (p.Defs.getD k default).Body) : lookV p.Defs ms V (nameAt p.Defs k) = valV (lookV p.Defs ms V) (rowV p.Tables) (fun s => decide (s ∈ zs)) 12 (p.Defs.getD k default).Body := by
  have h1 : lookV p.Defs ms V (nameAt p.Defs k) = V k := by
    unfold lookV
    rw [hm, defIx_of hO.1.dis hk]
  rw [h1, hV k hk]
  unfold rhs
  rw [if_pos hb]
theorem putDs_sol {p : Plan} {ms : List Entry} {zs : List (List UInt8)} {V : Nat → Int} {k : Nat} (hk : k < p.Defs.length) (hO : Okay p.Defs) (hV : Sol p ms zs V) (hm : measV ms (nameAt p.Defs k) = none) : Sol (putP p k) ms zs V := fun i hi => by
  have hi' : i < p.Defs.length := by have : i < (putDs p.Defs k).length := hi; rwa [putDs_len] at this
  rw [hV i hi']
  unfold rhs
  show _ = if exRight ((putDs p.Defs k).getD i default).Body then valV (lookV (putDs p.Defs k) ms V) (rowV p.Tables) (fun s => decide (s ∈ zs)) 12 ((putDs p.Defs k).getD i default).Body else 0
  rw [putDs_look, putDs_getD hi']
  unfold putD
  by_cases hc : i ≠ k ∧ exRight (putE (nameAt p.Defs k) (p.Defs.getD k default).Body (p.Defs.getD i default).Body)
  · rw [if_pos hc]
    have h1 : exRight (p.Defs.getD i default).Body := lev_put 12 _ (by omega) hc.2
    rw [if_pos hc.2, if_pos h1]
    exact (val_put (fun hb => look_of hk hO hV hm hb) 12 _ (by omega) h1 hc.2).symm
  · rw [if_neg hc]
theorem putDs_In {p : Plan} {ms : List Entry} {zs : List (List UInt8)} {k : Nat} (hk : k < p.Defs.length) (hl : ∀ d ∈ p.Defs, ∃ n, lvl n d.Body) (h : In p ms zs) : In (putP p k) ms zs := by
  refine ⟨by show (putDs p.Defs k).length ≤ 20; rw [putDs_len]; exact h.defs, fun d hd => ?_, h.tabs, h.ms, h.zs⟩
  obtain ⟨i, hi, rfl⟩ := mem_getD (show d ∈ putDs p.Defs k from hd)
  rw [putDs_len] at hi
  rw [putDs_getD hi]
  unfold putD
  split
  · rename_i hc
    refine ⟨names_few hc.2, fun x hx => ?_⟩
    obtain ⟨n, hn⟩ := hl _ (getD_mem hi)
    rcases names_put n _ hn hx with h1 | ⟨_, h1⟩
    · exact (h.ok _ (getD_mem hi)).2 x h1
    · exact (h.ok _ (getD_mem hk)).2 x h1
  · exact h.ok _ (getD_mem hi)
theorem replaces_L1 {ms : List Entry} (hm : ms.length ≤ 1000) (y : Bool) (d : Def) : ∃ t, s_greenbeltlaw17_ExprReplaces_L1 ms y d KK 0 = some t ∧ (t = .inl y ∨ t = .inr () ∧ measV ms d.Name = none) := by
  refine for_all (L := s_greenbeltlaw17_ExprReplaces_L1 ms y d) (s := (0 : Int)) (fun i a => a = (i : Int) ∧ measV (ms.take i) d.Name = none) (fun t => t = .inl y ∨ t = .inr () ∧ measV ms d.Name = none) ms.length (by omega) ⟨rfl, rfl⟩ (fun K i a h hi => ?_) (fun K a h => ?_)
  · obtain ⟨rfl, h2⟩ := h
    rw [s_greenbeltlaw17_ExprReplaces_L1, decide_eq_true (by omega), cond_true, idx_of hi, Option.bind_some, w64_succ hi (by omega)]
    by_cases e : (ms.getD i default).Name = d.Name
    · rw [decide_eq_true e, cond_true]; exact .inl ⟨_, rfl, .inl rfl⟩
    · rw [decide_eq_false e, cond_false]
      refine .inr ⟨_, ⟨rfl, ?_⟩, rfl⟩
      rw [show ms.take (i + 1) = ms.take i ++ [ms.getD i default] by rw [getD_of hi, List.take_append_getElem], measV_snoc, h2]
      dsimp only
      rw [if_neg e]
  · obtain ⟨rfl, h2⟩ := h
    rw [List.take_length] at h2
    rw [s_greenbeltlaw17_ExprReplaces_L1, decide_eq_false (by omega), cond_false]
    exact ⟨_, rfl, .inr ⟨rfl, h2⟩⟩
theorem expr_eta (e : Expr) : Expr.mk e.Op e.N e.S e.Key e.Args = e := by cases e; rfl
theorem replaces_L2 {p : Plan} {k : Nat} (hN : p.Defs.length ≤ 1000) (hk : k < p.Defs.length) (hl : ∀ d ∈ p.Defs, Light d.Body) : s_greenbeltlaw17_ExprReplaces_L2 p (k : Int) (p.Defs.getD k default) KK (0, []) = some (putDs p.Defs k) := by
  refine det_loop (L := s_greenbeltlaw17_ExprReplaces_L2 p (k : Int) (p.Defs.getD k default)) (fun i => ((i : Int), (List.range i).map (putD p.Defs k))) p.Defs.length _ (by omega) (fun K i hi => ?_) (fun K => ?_)
  · rw [s_greenbeltlaw17_ExprReplaces_L2, decide_eq_true (by dsimp only; omega), cond_true]
    dsimp only
    have hli := hl _ (getD_mem hi)
    rw [idx_of hi, Option.bind_some, w64_succ hi (by omega), List.range_succ, List.map_append, List.map_singleton]
    have hg : ∀ x : Def, grd (((List.range i).map (putD p.Defs k) ++ [x]).length * 88 ≤ 140737488355328) = some () := fun x => grd_of (by rw [List.length_append, List.length_map, List.length_range, List.length_singleton]; omega)
    by_cases e : i = k
    · subst e
      rw [decide_eq_true rfl, Bool.not_true, cond_false, Option.bind_some, hg, Option.bind_some]
      have hp : putD p.Defs i i = p.Defs.getD i default := by unfold putD; rw [if_neg (by simp)]
      rw [hp]
      dsimp only
      rw [expr_eta]
    · rw [decide_eq_false (by omega), Bool.not_false, cond_true, put_is _ _ 20 _ KK hli.1 (by have := hli.2; omega) (by have := KK_big; omega), Option.bind_some, s_exRight, Option.bind_some]
      by_cases hr : exRight (putE (nameAt p.Defs k) (p.Defs.getD k default).Body (p.Defs.getD i default).Body)
      · rw [decide_eq_true hr, cond_true, Option.bind_some, hg, Option.bind_some]
        have hp : putD p.Defs k i = ⟨nameAt p.Defs i, putE (nameAt p.Defs k) (p.Defs.getD k default).Body (p.Defs.getD i default).Body⟩ := by unfold putD; rw [if_pos ⟨e, hr⟩]
        rw [hp]
        dsimp only
        rw [expr_eta]
      · rw [decide_eq_false hr, cond_false, Option.bind_some, hg, Option.bind_some]
        have hp : putD p.Defs k i = p.Defs.getD i default := by unfold putD; rw [if_neg fun h => hr h.2]
        rw [hp]
        dsimp only
        rw [expr_eta]
  · rw [s_greenbeltlaw17_ExprReplaces_L2, decide_eq_false (by dsimp only; omega), cond_false]; rfl
theorem replaces_true (p : Plan) (ms : List Entry) (zs : List (List UInt8)) (e : Expr) (k : Int) (hg : ∀ d ∈ p.Defs, ∀ k ∈ namesL d.Body, k.length ≤ 9223372036854775807) : s_greenbeltlaw17_ExprReplaces p ms zs e k = some true := by
  obtain ⟨b, hb, hbs⟩ := few_is p
  unfold s_greenbeltlaw17_ExprReplaces
  rw [small_true, Option.bind_some, hb, Option.bind_some]
  cases b with
  | false => rfl
  | true =>
    have hf := hbs rfl
    rw [Bool.not_true, cond_false]
    by_cases hm : (ms.length : Int) > 20
    · rw [decide_eq_true hm]; rfl
    rw [decide_eq_false hm, cond_false]
    by_cases hz : (zs.length : Int) > 20
    · rw [decide_eq_true hz]; rfl
    rw [decide_eq_false hz, cond_false]
    obtain ⟨lt, hlt, hli⟩ := light_is e
    rw [hlt, Option.bind_some]
    cases lt with
    | false => rfl
    | true =>
      have hle := hli.1 rfl
      rw [Bool.not_true, cond_false]
      by_cases hk0 : k < 0
      · rw [decide_eq_true hk0]; rfl
      rw [decide_eq_false hk0, cond_false, Option.bind_some]
      by_cases hk1 : k ≥ (p.Defs.length : Int)
      · rw [decide_eq_true hk1]; rfl
      rw [decide_eq_false hk1, cond_false]
      obtain ⟨k, rfl⟩ : ∃ b : Nat, k = b := ⟨k.toNat, by omega⟩
      have hk : k < p.Defs.length := by omega
      have hI : In p ms zs := few_In hf hg (by omega) (by omega)
      obtain ⟨r, hr, hrs, _⟩ := refOrder_is hI.defs hI.ok (few_lvl hf)
      rw [hr, Option.bind_some, idx_of hk, Option.bind_some]
      obtain ⟨t, ht, hts⟩ := replaces_L1 hI.ms true (p.Defs.getD k default)
      rw [ht, Option.bind_some]
      rcases hts with rfl | ⟨rfl, hmk⟩
      · rfl
      dsimp only
      rw [put_is _ _ 20 e KK hle.1 (by have := hle.2; omega) (by have := KK_big; omega), Option.bind_some]
      by_cases hro : r.2.2 = 0
      · rw [decide_eq_true hro, Bool.not_true, cond_false, s_exRight, Option.bind_some]
        have hO := hrs.1 hro
        by_cases he : exRight e
        · rw [decide_eq_true he, Bool.not_true, cond_false, s_exRight, Option.bind_some]
          by_cases hx : exRight (putE (p.Defs.getD k default).Name (p.Defs.getD k default).Body e)
          · rw [decide_eq_true hx, Bool.not_true, cond_false]
            obtain ⟨n, hn, _⟩ := nodes_is 20 (putE (p.Defs.getD k default).Name (p.Defs.getD k default).Body e) 5000 KK (by omega) (by have := KK_big; omega) (by omega) (by omega)
            rw [show (20 : Int) = ((20 : Nat) : Int) from rfl, hn, Option.bind_some, Option.bind_some]
            by_cases hn5 : n > 5000
            · rw [decide_eq_true hn5]; rfl
            rw [decide_eq_false hn5, cond_false]
            obtain ⟨V, hV⟩ := sol_ex hI hO
            have hlv : ∀ d ∈ p.Defs, ∃ n, lvl n d.Body := fun d hd => ⟨20, (hf.light d hd).1⟩
            have hval := val_put (s := nameAt p.Defs k) (fun hb => look_of hk hO hV hmk hb) 12 e (by omega) he hx
            rw [eval_ok hI he hO hV, Option.bind_some, eval_ok hI hx hO hV, Option.bind_some, decide_eq_true hval, Bool.not_true, cond_false, replaces_L2 (by have := hI.defs; omega) hk hf.light, Option.bind_some, cond_true]
            have hq : s_expr_Eval (putDs p.Defs k) p.Tables p.Zones p.Rules p.Caps p.Views p.Sun p.Hours ms zs e = some (valV (lookV p.Defs ms V) (rowV p.Tables) (fun s => decide (s ∈ zs)) 12 e) := by
              have := eval_ok (putDs_In hk hlv hI) he (putDs_okay hk hlv hO) (putDs_sol hk hO hV hmk)
              refine Eq.trans this ?_
              show some (valV (lookV (putDs p.Defs k) ms V) (rowV p.Tables) (fun s => decide (s ∈ zs)) 12 e) = _
              rw [putDs_look]
            rw [hq, Option.bind_some, decide_eq_true rfl]; rfl
          · rw [decide_eq_false hx]; rfl
        · rw [decide_eq_false he]; rfl
      · rw [decide_eq_false hro]; rfl
end
end Go.Proofs.Ytconjkgifdfhdaa
