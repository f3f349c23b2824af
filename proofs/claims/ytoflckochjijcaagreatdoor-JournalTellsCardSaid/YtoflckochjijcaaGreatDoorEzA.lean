/- Data of Lean's own behind the values: kinds, tables of structs, typed values, typed memory. -/
import Derived.Test.YtoflckochjijcaaGreatDoorEvThree
import Derived.Test.YtoflckochjijcaaGreatDoorEwOne
set_option linter.all false
namespace Go.EQ
open Go Go.RowKit Go.Eng Go.EV

inductive TC where
 | i (k : IntKind)
 | b
 | s
 | y
 | l (t : TC)
 | m (k e : TC)
 | st (n : Nat)
 deriving DecidableEq
def TC.ty (T : Nat → Type) : TC → Type
 | .i _ => Int
 | .b => Bool
 | .s => List UInt8
 | .y => UInt8
 | .l t => List (t.ty T)
 | .m k e => List (k.ty T × e.ty T)
 | .st n => T n
def HL (T : Nat → Type) : List TC → Type
 | [] => Unit
 | [c] => c.ty T
 | c :: d :: r => c.ty T × HL T (d :: r)
structure Tab where
 T : Nat → Type
 dflt : (n : Nat) → T n
 fl : Nat → List TC
 cn : Nat → Nat
 out : (n : Nat) → T n → HL T (fl n)
 inj : (n : Nat) → HL T (fl n) → T n
 enc : (n : Nat) → T n → List V
 ro : Nat → EV.Obj
abbrev Dy (T : Nat → Type) := (c : TC) × c.ty T

section
variable (S : Tab)
def cellsC : TC → Nat
 | .st n => S.cn n
 | _ => 1
def encC : (c : TC) → c.ty S.T → List V
 | .i k, n => [.int k n]
 | .b, t => [.bool t]
 | .s, x => [.str x]
 | .y, x => [.int .u8 (UInt8.toNat x)]
 | .l t, l => [.vs (cellsC S t) (l.map (encC t))]
 | .m _ _, _ => [.undef]
 | .st n, x => S.enc n x
def valC : (c : TC) → c.ty S.T → V
 | .i k, n => .int k n
 | .b, t => .bool t
 | .s, x => .str x
 | .y, x => .int .u8 (UInt8.toNat x)
 | .l t, l => .vs (cellsC S t) (l.map (encC S t))
 | .m _ _, _ => .undef
 | .st n, x => .agg (S.enc n x)
def dfltC : (c : TC) → c.ty S.T
 | .i _ => (0 : Int)
 | .b => false
 | .s => ([] : List UInt8)
 | .y => (0 : UInt8)
 | .l _ => []
 | .m _ _ => []
 | .st n => S.dflt n
def encHL : (cs : List TC) → HL S.T cs → List V
 | [], _ => []
 | [c], x => encC S c x
 | c :: d :: r, x => encC S c x.1 ++ encHL (d :: r) x.2
structure Tab.OK : Prop where
 enc_out : ∀ n x, S.enc n x = encHL S (S.fl n) (S.out n x)
 out_mk : ∀ n h, S.out n (S.inj n h) = h
 len : ∀ n x, (S.enc n x).length = S.cn n
 one : ∀ n x, (S.enc n x).all V.one = true
 refs : ∀ n x, refsL (S.enc n x) = []
 ro0 : S.ro 0 = .gen gone
 rren : ∀ i σ, (S.ro i).ren σ = S.ro i
 rref : ∀ i, (S.ro i).refs = []
 rfrz : ∀ i k, frz [(k, S.ro i)] = [(k, S.ro i)]
end

inductive A (T : Nat → Type) where
 | raw (v : V)
 | dat (c : TC) (x : c.ty T)
 | ag (cs : List (A T))
 | tup (xs : List (A T))
 | rh (sz k n : Nat)
 | rp (k L i off sz : Nat)
 | vp (c : TC) (x : c.ty T) (off : Nat)
 | fn (f : Nat) (first caps : List (A T))
 | ifc (t : Nat) (a : A T)
instance {T : Nat → Type} : Inhabited (A T) := ⟨.raw .undef⟩
section
variable {S : Tab}
mutual
def A.v : A S.T → V
 | .raw v => v
 | .dat c x => valC S c x
 | .ag cs => .agg (A.vs cs)
 | .tup xs => .tup (A.vs xs)
 | .rh sz k n => .sl sz k n 0 n
 | .rp k L i off sz => .ptr k L (i * sz + off)
 | .vp c x off => .vp (encC S c x) off
 | .fn f a b => .fn f (A.vs a) (A.vs b)
 | .ifc t a => .ifc t a.v
def A.vs : List (A S.T) → List V
 | [] => []
 | a :: r => a.v :: A.vs r
end
def of1 : V → A S.T
 | .int k n => .dat (.i k) n
 | .bool t => .dat .b t
 | .str x => .dat .s x
 | v => .raw v
def ofV : V → A S.T
 | .agg cs => .ag (cs.map of1)
 | v => of1 v
theorem of1_v (v : V) : (of1 (S := S) v).v = v := by cases v <;> simp [of1, A.v, valC]
theorem of1_vs : ∀ l : List V, A.vs (l.map (of1 (S := S))) = l
 | [] => by simp [A.vs]
 | v :: l => by rw [List.map_cons, A.vs, of1_v, of1_vs l]
theorem ofV_v (v : V) : (ofV (S := S) v).v = v := by
 cases v <;> first | (rw [ofV, A.v, of1_vs]; done) | simp [ofV, of1, A.v, valC]
theorem vs_map : ∀ l : List (A S.T), A.vs l = l.map A.v
 | [] => by simp [A.vs]
 | a :: l => by rw [A.vs, vs_map l, List.map_cons]
theorem vs_len (l : List (A S.T)) : (A.vs l).length = l.length := by rw [vs_map, List.length_map]
theorem vs_app (a b : List (A S.T)) : A.vs (a ++ b) = A.vs a ++ A.vs b := by simp only [vs_map, List.map_append]
end

inductive Fz where
 | zero
 | all
 | pre (n : Nat)
def Fz.n (L : Nat) : Fz → Nat
 | .zero => 0
 | .all => L
 | .pre n => n
structure LenOf {α : Type} (l : List α) where
 n : Nat
 h : l.length = n
inductive OA (T : Nat → Type) where
 | box (t : Nat) (cs : List (A T))
 | row (e : Nat) (c : TC) (fz : Fz) (l : List (c.ty T)) (w : LenOf l)
 | map (kc ec : TC) (l : List (kc.ty T × ec.ty T))
 | rw (i : Nat)
abbrev AE (T : Nat → Type) := List (Nat × A T)
abbrev AH (T : Nat → Type) := List (Nat × OA T)
section
variable {S : Tab}
def OA.o : OA S.T → EV.Obj
 | .box t cs => .box t (A.vs cs)
 | .row e c fz l _ => .row e (cellsC S c) (fz.n l.length) (l.map (encC S c))
 | .map kc ec l => .map (encM (valC S kc) (valC S ec) l)
 | .rw i => S.ro i
def eV (E : AE S.T) : Env := E.map fun p => (p.1, p.2.v)
def hV (H : AH S.T) : Heap := H.map fun p => (p.1, p.2.o)
def AE.get : AE S.T → Nat → A S.T
 | [], _ => .raw .undef
 | (d, a) :: r, t => bif Nat.beq t d then a else AE.get r t
def AH.get : AH S.T → Nat → Option (OA S.T)
 | [], _ => none
 | (k, o) :: r, j => bif Nat.beq j k then some o else AH.get r j
def AH.set : AH S.T → Nat → OA S.T → AH S.T
 | [], _, _ => []
 | (k', o') :: r, k, o => bif Nat.beq k k' then (k', o) :: r else (k', o') :: AH.set r k o
def AH.has (k : Nat) : AH S.T → Bool
 | [] => false
 | (k', _) :: r => bif Nat.beq k k' then true else AH.has k r
theorem eV_get (E : AE S.T) (t : Nat) : (eV E).get t = (E.get t).v := by
 induction E with
 | nil => simp [eV, Env.get, AE.get, A.v]
 | cons p r ih =>
  obtain ⟨d, a⟩ := p
  simp only [eV, List.map_cons, Env.get, AE.get] at ih ⊢
  cases Nat.beq t d with
  | true => rfl
  | false => exact ih
theorem hV_get (H : AH S.T) (k : Nat) : (hV H).get k = (H.get k).map OA.o := by
 induction H with
 | nil => rfl
 | cons p r ih =>
  obtain ⟨d, a⟩ := p
  simp only [hV, List.map_cons, Heap.get, AH.get] at ih ⊢
  cases Nat.beq k d with
  | true => rfl
  | false => exact ih
theorem hV_keys (H : AH S.T) : keys (hV H) = H.map (·.1) := by simp [keys, hV]
theorem hV_app (a b : AH S.T) : hV (a ++ b) = hV a ++ hV b := by simp [hV]
theorem hV_has (H : AH S.T) (k : Nat) : hasKey k (hV H) = H.has k := by
 induction H with
 | nil => rfl
 | cons p r ih =>
  obtain ⟨d, a⟩ := p
  simp only [hV, List.map_cons, hasKey, AH.has] at ih ⊢
  cases Nat.beq k d with
  | true => rfl
  | false => exact ih
theorem hV_set (H : AH S.T) (k : Nat) (o : OA S.T) : hV (H.set k o) = (hV H).set k o.o := by
 induction H with
 | nil => rfl
 | cons p r ih =>
  obtain ⟨d, a⟩ := p
  simp only [hV, List.map_cons, Heap.set, AH.set] at ih ⊢
  cases Nat.beq k d with
  | true => rfl
  | false => simp only [cond_false, List.map_cons, ih]
def cstA : V → A S.T
 | .bool b => .raw (.bool b)
 | v => ofV v
theorem cstA_v (v : V) : (cstA (S := S) v).v = v := by
 unfold cstA
 split
 ·simp [A.v]
 ·exact ofV_v _
def evA (E : AE S.T) : Operand → A S.T
 | .tmp t => E.get t
 | .const v => cstA (ofC v)
 | .global _ => .raw .undef
 | .func f => .fn f [] []
theorem evA_v (E : AE S.T) (x : Operand) : evV (eV E) x = (evA E x).v := by
 cases x with
 | tmp t => exact eV_get E t
 | const v => exact (cstA_v _).symm
 | global g => simp [evV, evA, A.v]
 | func f => simp [evV, evA, A.v, A.vs]
end
end Go.EQ
namespace Go.EQ
open Go Go.RowKit Go.Eng Go.EV

inductive Pg : Type → Type 1 where
 | fail {R : Type} : Pg R
 | ret {R : Type} (o : Option R) : Pg R
 | bnd {R α : Type} (o : Option α) (k : α → Pg R) : Pg R
 | cnd {R : Type} (b : Bool) (x y : Pg R) : Pg R
 | jn {R S : Type} (p : Pg S) (k : S → Pg R) : Pg R
 | jr {R R0 S : Type} (p : Pg (R0 ⊕ S)) (l : R0 → Option R) (k : S → Pg R) : Pg R
 | eqn {R α : Type} (a b : α) (p : Pg R) : Pg R
 | orr {R α : Type} (o : Option α) (l : α → Pg R) (k : Pg R) : Pg R
 | lp {R R0 X : Type} (p : X → Pg R0) (f : X → Option R0) (k : Pg R) : Pg R
def sumC {R0 S R : Type} (l : R0 → Option R) (k : S → Option R) : R0 ⊕ S → Option R
 | .inl r => l r
 | .inr s => k s
def orC {α R : Type} (o : Option α) (l : α → Option R) (k : Option R) : Option R := match o with
 | some a => l a
 | none => k
def Pg.run : {R : Type} → Pg R → Option R
 | _, .fail => none
 | _, .ret o => o
 | _, .bnd o k => o.bind fun a => (k a).run
 | _, .cnd b x y => bif b then x.run else y.run
 | _, .jn p k => p.run.bind fun s => (k s).run
 | _, .jr p l k => p.run.bind (sumC l fun s => (k s).run)
 | _, .eqn _ _ p => p.run
 | _, .orr o l k => orC o (fun a => (l a).run) k.run
 | _, .lp _ _ k => k.run
def Pg.ob : {R : Type} → Pg R → Prop
 | _, .fail => True
 | _, .ret _ => True
 | _, .bnd _ k => ∀ a, (k a).ob
 | _, .cnd _ x y => x.ob ∧ y.ob
 | _, .jn p k => p.ob ∧ ∀ s, (k s).ob
 | _, .jr p _ k => p.ob ∧ ∀ s, (k s).ob
 | _, .eqn a b p => a = b ∧ p.ob
 | _, .orr _ l k => (∀ a, (l a).ob) ∧ k.ob
 | _, .lp p f k => (∀ x, (p x).run = f x ∧ (p x).ob) ∧ k.ob
inductive Tr : Type 1 where
 | nil
 | all {α : Type} (f : α → Tr)
 | two (x y : Tr)
 | note {α : Type} (a : α) (t : Tr)
def Pg.tr (t : Bool) : {R : Type} → Pg R → Tr
 | _, .fail => .nil
 | _, .ret _ => .nil
 | _, .bnd _ k => .all fun a => (k a).tr t
 | _, .cnd _ x y => .two (x.tr t) (y.tr t)
 | _, .jn p k => .two (p.tr t) (.all fun s => (k s).tr t)
 | _, .jr p _ k => .two (p.tr t) (.all fun s => (k s).tr t)
 | _, .eqn a b p => .note (bif t then a else b) (p.tr t)
 | _, .orr _ l k => .two (.all fun a => (l a).tr t) (k.tr t)
 | _, .lp p f k => .two (.all fun x => .note (bif t then (p x).run else f x) ((p x).tr t)) (k.tr t)
theorem ob_of_tr : {R : Type} → (p : Pg R) → p.tr true = p.tr false → p.ob
 | _, .fail, _ => trivial
 | _, .ret _, _ => trivial
 | _, .bnd _ k, h => fun a => ob_of_tr (k a) (by
   simp only [Pg.tr, Tr.all.injEq, heq_eq_eq, true_and] at h
   exact congrFun h a)
 | _, .cnd _ x y, h => by
   simp only [Pg.tr, Tr.two.injEq] at h
   exact ⟨ob_of_tr x h.1, ob_of_tr y h.2⟩
 | _, .jn p k, h => by
   simp only [Pg.tr, Tr.two.injEq, Tr.all.injEq, heq_eq_eq, true_and] at h
   exact ⟨ob_of_tr p h.1, fun s => ob_of_tr (k s) (congrFun h.2 s)⟩
 | _, .jr p _ k, h => by
   simp only [Pg.tr, Tr.two.injEq, Tr.all.injEq, heq_eq_eq, true_and] at h
   exact ⟨ob_of_tr p h.1, fun s => ob_of_tr (k s) (congrFun h.2 s)⟩
 | _, .eqn a b p, h => by
   simp only [Pg.tr, Tr.note.injEq, heq_eq_eq, true_and, cond_true, cond_false] at h
   exact ⟨h.1, ob_of_tr p h.2⟩
 | _, .orr _ l k, h => by
   simp only [Pg.tr, Tr.two.injEq, Tr.all.injEq, heq_eq_eq, true_and] at h
   exact ⟨fun a => ob_of_tr (l a) (congrFun h.1 a), ob_of_tr k h.2⟩
 | _, .lp p f k, h => by
   simp only [Pg.tr, Tr.two.injEq, Tr.all.injEq, heq_eq_eq, true_and] at h
   refine ⟨fun x => ?_, ob_of_tr k h.2⟩
   have h1 := congrFun h.1 x
   simp only [Tr.note.injEq, heq_eq_eq, true_and, cond_true, cond_false] at h1
   exact ⟨h1.1, ob_of_tr (p x) h1.2⟩
def Pg.Is {R : Type} (p : Pg R) (r : R) : Prop := p.run = some r ∧ p.ob
section
variable {R : Type} {r : R}
theorem Is.ret {o : Option R} (h : (Pg.ret o).Is r) : o = some r := h.1
theorem Is.fail (h : (Pg.fail : Pg R).Is r) : False := by cases h.1
theorem Is.bnd {α : Type} {o : Option α} {k : α → Pg R} (h : (Pg.bnd o k).Is r) : ∃ a, o = some a ∧ (k a).Is r := by
 obtain ⟨h1, h2⟩ := h
 obtain ⟨a, e, h3⟩ := Option.bind_eq_some_iff.1 h1
 exact ⟨a, e, h3, h2 a⟩
theorem Is.cnd {b : Bool} {x y : Pg R} (h : (Pg.cnd b x y).Is r) : (b = true → x.Is r) ∧ (b = false → y.Is r) := by
 obtain ⟨h1, h2, h3⟩ := h
 exact ⟨fun e => by subst e; exact ⟨h1, h2⟩, fun e => by subst e; exact ⟨h1, h3⟩⟩
theorem Is.jn {S : Type} {p : Pg S} {k : S → Pg R} (h : (Pg.jn p k).Is r) : ∃ s, p.Is s ∧ (k s).Is r := by
 obtain ⟨h1, h2, h3⟩ := h
 obtain ⟨s, e, h4⟩ := Option.bind_eq_some_iff.1 h1
 exact ⟨s, ⟨e, h2⟩, h4, h3 s⟩
theorem Is.jr {R0 S : Type} {p : Pg (R0 ⊕ S)} {l : R0 → Option R} {k : S → Pg R} (h : (Pg.jr p l k).Is r) : (∃ q, p.Is (.inl q) ∧ l q = some r) ∨ ∃ s, p.Is (.inr s) ∧ (k s).Is r := by
 obtain ⟨h1, h2, h3⟩ := h
 obtain ⟨z, e, h4⟩ := Option.bind_eq_some_iff.1 h1
 cases z with
 | inl q => exact .inl ⟨q, ⟨e, h2⟩, h4⟩
 | inr s => exact .inr ⟨s, ⟨e, h2⟩, h4, h3 s⟩
theorem Is.orr {α : Type} {o : Option α} {l : α → Pg R} {k : Pg R} (h : (Pg.orr o l k).Is r) : (∃ a, o = some a ∧ (l a).Is r) ∨ (o = none ∧ k.Is r) := by
 obtain ⟨h1, h2, h3⟩ := h
 cases o with
 | some a => exact .inl ⟨a, rfl, h1, h2 a⟩
 | none => exact .inr ⟨rfl, h1, h3⟩
theorem Is.lp {R0 X : Type} {p : X → Pg R0} {f : X → Option R0} {k : Pg R} (h : (Pg.lp p f k).Is r) : (∀ x z, f x = some z → (p x).Is z) ∧ k.Is r :=
 ⟨fun x z e => ⟨(h.2.1 x).1.trans e, (h.2.1 x).2⟩, h.1, h.2.2⟩
theorem Is.eqn {α : Type} {a b : α} {p : Pg R} (h : (Pg.eqn a b p).Is r) : a = b ∧ p.Is r := ⟨h.2.1, h.1, h.2.2⟩
end
end Go.EQ
namespace Go.EQ
open Go Go.RowKit Go.Eng Go.EV

inductive Tp where
 | nilp | nils | nilf | nilm | nili | no | und
 | d (c : TC) (j : Nat)
 | ptr (k off : Nat)
 | mp (k : Nat)
 | row (sz k : Nat)
 | ag (l : List Tp)
 | tup (l : List Tp)
 | fn (f : Nat) (a b : List Tp)
 | ifc (t : Nat) (a : Tp)
inductive TO where
 | box (t : Nat) (cs : List Tp)
 | row (e : Nat) (c : TC) (j : Nat) (fz : Bool)
 | map (kc ec : TC) (j : Nat)
 | rw (i : Nat)
structure Tm where
 sl : List (Nat × Tp)
 hp : List (Nat × TO)
 cs : List TC
 vs : List TC

section
variable {S : Tab}
def dget (ds : List (Dy S.T)) (j : Nat) (c : TC) : c.ty S.T :=
 match ds[j]? with
 | some ⟨c', x⟩ => if h : c' = c then h ▸ x else dfltC S c
 | none => dfltC S c
def toDy : (cs : List TC) → HL S.T cs → List (Dy S.T)
 | [], _ => []
 | [c], x => [⟨c, x⟩]
 | c :: d :: r, x => ⟨c, x.1⟩ :: toDy (d :: r) x.2
theorem toDy_len : ∀ (cs : List TC) (x : HL S.T cs), (toDy cs x).length = cs.length
 | [], _ => rfl
 | [c], x => rfl
 | c :: d :: r, x => by simp only [toDy, List.length_cons, toDy_len (d :: r) x.2]
def rlen (ds : List (Dy S.T)) : List (Nat × TO) → Nat → Nat
 | [], _ => 0
 | (k', .row _ c j _) :: r, k => bif Nat.beq k k' then (dget ds j (.l c) : List (c.ty S.T)).length else rlen ds r k
 | _ :: r, k => rlen ds r k
mutual
def Tp.put (hp : List (Nat × TO)) (ds : List (Dy S.T)) : Tp → A S.T
 | .nilp => .raw .nilp
 | .nils => .raw .nils
 | .nilf => .raw .nilf
 | .nilm => .raw .nilm
 | .nili => .raw .nili
 | .no => .raw .no
 | .und => .raw .undef
 | .d c j => .dat c (dget ds j c)
 | .ptr k off => .raw (.ptr k 0 off)
 | .mp k => .raw (.mp k)
 | .row sz k => .rh sz k (rlen ds hp k)
 | .ag l => .ag (Tp.puts hp ds l)
 | .tup l => .tup (Tp.puts hp ds l)
 | .fn f a b => .fn f (Tp.puts hp ds a) (Tp.puts hp ds b)
 | .ifc t a => .ifc t (a.put hp ds)
def Tp.puts (hp : List (Nat × TO)) (ds : List (Dy S.T)) : List Tp → List (A S.T)
 | [] => []
 | t :: r => t.put hp ds :: Tp.puts hp ds r
end
def TO.put (hp : List (Nat × TO)) (ds : List (Dy S.T)) : TO → OA S.T
 | .box t cs => .box t (Tp.puts hp ds cs)
 | .row e c j fz => .row e c (bif fz then .all else .zero) (dget ds j (.l c)) ⟨_, rfl⟩
 | .map kc ec j => .map kc ec (dget ds j (.m kc ec))
 | .rw i => .rw i
def putH (hp : List (Nat × TO)) (ds : List (Dy S.T)) : AH S.T := hp.map fun p => (p.1, p.2.put hp ds)
def putE (hp : List (Nat × TO)) (sl : List (Nat × Tp)) (ds : List (Dy S.T)) : AE S.T := sl.map fun p => (p.1, p.2.put hp ds)

structure Rx (α : Type) where
 x : α
 fz : List Nat
 eq : List (Nat × Nat)
def nilsC : (c : TC) → Option (Rx (c.ty S.T))
 | .l _ => some ⟨([] : List _), [], []⟩
 | _ => none
def rowC (H : AH S.T) (sz k n : Nat) : (c : TC) → Option (Rx (c.ty S.T))
 | .l t => match H.get k with
  | some (.row _ t' _ l w) => if h : t' = t then bif Nat.beq sz (cellsC S t) then some ⟨(h ▸ l : List (t.ty S.T)), [k], [(n, w.n)]⟩ else none else none
  | _ => none
 | _ => none
def boolC (b : Bool) : (c : TC) → Option (Rx (c.ty S.T))
 | .b => some ⟨b, [], []⟩
 | _ => none
def cell1 (H : AH S.T) (c : TC) : A S.T → Option (Rx (c.ty S.T))
 | .dat c' x => if h : c' = c then some ⟨h ▸ x, [], []⟩ else none
 | .raw .nils => nilsC c
 | .raw (.bool b) => boolC b c
 | .rh sz k n => rowC H sz k n c
 | _ => none
mutual
def data1 (H : AH S.T) : Nat → (c : TC) → List (A S.T) → Option (Rx (c.ty S.T) × List (A S.T))
 | 0, _, _ => none
 | f + 1, .st m, cs => match dataL H f (S.fl m) cs with
  | some (⟨h, fz, eq⟩, r) => some (⟨S.inj m h, fz, eq⟩, r)
  | none => none
 | _ + 1, c, a :: r => match cell1 H c a with
  | some rx => some (rx, r)
  | none => none
 | _ + 1, _, [] => none
def dataL (H : AH S.T) : Nat → (cs : List TC) → List (A S.T) → Option (Rx (HL S.T cs) × List (A S.T))
 | 0, _, _ => none
 | _ + 1, [], as => some (⟨(), [], []⟩, as)
 | f + 1, [c], as => data1 H f c as
 | f + 1, c :: d :: r, as => match data1 H f c as with
  | some (⟨x, fz, eq⟩, as') => match dataL H f (d :: r) as' with
   | some (⟨y, fz', eq'⟩, as'') => some (⟨(x, y), fz ++ fz', eq ++ eq'⟩, as'')
   | none => none
  | none => none
end
def dataAg (H : AH S.T) (cs : List (A S.T)) : (c : TC) → Option (Rx (c.ty S.T))
 | .st m => match data1 H 64 (.st m) cs with
  | some (rx, []) => some rx
  | _ => none
 | _ => none
def dataOf (H : AH S.T) (c : TC) (a : A S.T) : Option (Rx (c.ty S.T)) := match cell1 H c a with
 | some rx => some rx
 | none => match a with
  | .ag cs => dataAg H cs c
  | _ => none

structure Rd (T : Nat → Type) where
 ps : List (Nat × Dy T) := []
 ns : List (Nat × Nat) := []
 fz : List Nat := []
 eq : List (Nat × Nat) := []
def Rd.app {T : Nat → Type} (a b : Rd T) : Rd T := ⟨a.ps ++ b.ps, a.ns ++ b.ns, a.fz ++ b.fz, a.eq ++ b.eq⟩
def rowJ : List (Nat × TO) → Nat → Option (TC × Nat)
 | [], _ => none
 | (k', .row _ c j _) :: r, k => bif Nat.beq k k' then some (c, j) else rowJ r k
 | _ :: r, k => rowJ r k
def boolX (b : Bool) : (c : TC) → Option (c.ty S.T)
 | .b => some b
 | _ => none
def datX (c : TC) : A S.T → Option (c.ty S.T)
 | .dat c' x => if h : c' = c then some (h ▸ x) else none
 | .raw (.bool b) => boolX b c
 | _ => none
mutual
def Tp.read (hp : List (Nat × TO)) (ex : Bool) (H : AH S.T) : Tp → A S.T → Option (Rd S.T)
 | .d c j, a => bif ex then (match datX c a with
   | some x => some ⟨[(j, ⟨c, x⟩)], [], [], []⟩
   | none => none)
  else match dataOf H c a with
   | some rx => some ⟨[(j, ⟨c, rx.x⟩)], [], rx.fz, rx.eq⟩
   | none => none
 | .nilp, .raw .nilp => some {}
 | .nils, .raw .nils => some {}
 | .nilf, .raw .nilf => some {}
 | .nilm, .raw .nilm => some {}
 | .nili, .raw .nili => some {}
 | .no, .raw .no => some {}
 | .ptr k off, .raw (.ptr k' 0 off') => bif Nat.beq off off' then some { ns := [(k, k')] } else none
 | .mp k, .raw (.mp k') => some { ns := [(k, k')] }
 | .row sz k, .rh sz' k' n => match H.get k', rowJ hp k with
  | some (.row _ _ _ _ w), some _ => bif Nat.beq sz sz' then some { ns := [(k, k')], eq := [(n, w.n)] } else none
  | _, _ => none
 | .ag l, .ag l' => Tp.reads hp ex H l l'
 | .tup l, .tup l' => Tp.reads hp true H l l'
 | .fn f a b, .fn f' a' b' => bif Nat.beq f f' then
   match Tp.reads hp true H a a' with
   | some r => match Tp.reads hp true H b b' with
    | some r' => some (r.app r')
    | none => none
   | none => none
  else none
 | .ifc t a, .ifc t' a' => bif Nat.beq t t' then a.read hp true H a' else none
 | _, _ => none
def Tp.reads (hp : List (Nat × TO)) (ex : Bool) (H : AH S.T) : List Tp → List (A S.T) → Option (Rd S.T)
 | [], [] => some {}
 | t :: r, a :: r' => match t.read hp ex H a with
  | some x => match Tp.reads hp ex H r r' with
   | some y => some (x.app y)
   | none => none
  | none => none
 | _, _ => none
end
def nlook : List (Nat × Nat) → Nat → Option Nat
 | [], _ => none
 | (k, k') :: r, j => bif Nat.beq j k then some k' else nlook r j
def fzB : Bool → Fz → Bool
 | true, .all => true
 | false, .zero => true
 | _, _ => false
def TO.read (hp : List (Nat × TO)) (H : AH S.T) : TO → OA S.T → Option (Rd S.T)
 | .box t cs, .box t' cs' => bif Nat.beq t t' then Tp.reads hp true H cs cs' else none
 | .row e c j fz, .row e' c' fz' l _ => bif Nat.beq e e' && fzB fz fz' then
   if h : c' = c then some { ps := [(j, ⟨.l c, (h ▸ l : List (c.ty S.T))⟩)] } else none
  else none
 | .rw i, .rw j => bif Nat.beq i j then some {} else none
 | .map kc ec j, .map kc' ec' l => if h : kc' = kc ∧ ec' = ec then some { ps := [(j, ⟨.m kc ec, (h.1 ▸ h.2 ▸ l : List (kc.ty S.T × ec.ty S.T))⟩)] } else none
 | _, _ => none
def readH (hp : List (Nat × TO)) (H : AH S.T) : List (Nat × Nat) → List (Nat × TO) → Option (Rd S.T)
 | _, [] => some {}
 | ns, (k, o) :: r => match nlook ns k with
  | some k' => match H.get k' with
   | some o' => match o.read hp H o' with
    | some x => match readH hp H (ns ++ x.ns) r with
     | some y => some (x.app y)
     | none => none
    | none => none
   | none => none
  | none => none
def pick (j : Nat) (c : TC) : List (Nat × Dy S.T) → Option (c.ty S.T)
 | [] => none
 | (j', ⟨c', x⟩) :: r => bif Nat.beq j j' then (if h : c' = c then some (h ▸ x) else none) else pick j c r
def picks (ps : List (Nat × Dy S.T)) : (j : Nat) → (cs : List TC) → Option (HL S.T cs)
 | _, [] => some ()
 | j, [c] => pick j c ps
 | j, c :: d :: r => match pick j c ps with
  | some x => match picks ps (j + 1) (d :: r) with
   | some y => some (x, y)
   | none => none
  | none => none
end
end Go.EQ
namespace Go.EQ
open Go Go.RowKit Go.Eng Go.EV

section
variable {S : Tab}
def wholeB (n off : Nat) : Option Nat → Bool
 | some k => Nat.beq k n && Nat.beq off 0
 | none => false
mutual
def atC : Nat → (c : TC) → c.ty S.T → Nat → Option Nat → Option (A S.T)
 | 0, _, _, _, _ => none
 | f + 1, .st n, x, off, k => bif wholeB (S.cn n) off k then some (.dat (.st n) x) else atL f (S.fl n) (S.out n x) off k
 | _ + 1, .m _ _, _, _, _ => none
 | _ + 1, c, x, off, k => bif Nat.beq off 0 && k.isNone then some (.dat c x) else none
def atL : Nat → (cs : List TC) → HL S.T cs → Nat → Option Nat → Option (A S.T)
 | 0, _, _, _, _ => none
 | _ + 1, [], _, _, _ => none
 | f + 1, [c], x, off, k => bif Nat.ble (off + 1) (cellsC S c) then atC f c x off k else none
 | f + 1, c :: d :: r, x, off, k => bif Nat.ble (off + 1) (cellsC S c) then atC f c x.1 off k else atL f (d :: r) x.2 (off - cellsC S c) k
end
def atA (cs : List (A S.T)) (off : Nat) : Option Nat → Option (A S.T)
 | none => match cs[off]? with | some a => bif a.v.one then some a else none | none => none
 | some k => bif Nat.ble (off + k) cs.length then some (.ag ((cs.drop off).take k)) else none
mutual
def cellC : Nat → (c : TC) → c.ty S.T → Option (List (A S.T))
 | 0, _, _ => none
 | f + 1, .st n, x => cellL f (S.fl n) (S.out n x)
 | _ + 1, .m _ _, _ => none
 | _ + 1, c, x => some [.dat c x]
def cellL : Nat → (cs : List TC) → HL S.T cs → Option (List (A S.T))
 | 0, _, _ => none
 | _ + 1, [], _ => some []
 | f + 1, [c], x => cellC f c x
 | f + 1, c :: d :: r, x => match cellC f c x.1 with
  | some u => match cellL f (d :: r) x.2 with
   | some v => some (u ++ v)
   | none => none
  | none => none
end
def A.cells : A S.T → Option (List (A S.T))
 | .dat c x => cellC 64 c x
 | .ag cs => some cs
 | .raw .undef => none
 | .raw .no => none
 | .raw (.agg _) => none
 | a => some [a]
def fillA (places : List (Nat × Nat)) (cells : List (A S.T)) : List (Nat × A S.T) → Option (List (A S.T))
 | [] => some cells
 | (i, a) :: rest => match places[i]? with
  | none => none
  | some (off, size) => match a.cells with
   | none => none
   | some u => bif Nat.beq u.length size && Nat.ble (off + size) cells.length then fillA places (cells.take off ++ u ++ cells.drop (off + size)) rest else none
/- what they mean -/
theorem enc_one (hS : S.OK) : ∀ (c : TC) (x : c.ty S.T), (∀ k e, c ≠ .m k e) → (encC S c x).all V.one = true
 | .i _, _, _ => rfl
 | .b, _, _ => rfl
 | .s, _, _ => rfl
 | .y, _, _ => rfl
 | .l _, _, _ => rfl
 | .m k e, _, h => absurd rfl (h k e)
 | .st n, x, _ => hS.one n x
theorem encC_val : ∀ (c : TC) (x : c.ty S.T), (∀ n, c ≠ .st n) → (∀ k e, c ≠ .m k e) → encC S c x = [valC S c x] ∧ (valC S c x).one = true ∧ cellsC S c = 1
 | .i _, _, _, _ => ⟨rfl, rfl, rfl⟩
 | .b, _, _, _ => ⟨rfl, rfl, rfl⟩
 | .s, _, _, _ => ⟨rfl, rfl, rfl⟩
 | .y, _, _, _ => ⟨rfl, rfl, rfl⟩
 | .l _, _, _, _ => ⟨rfl, rfl, rfl⟩
 | .m k e, _, _, h => absurd rfl (h k e)
 | .st n, _, h, _ => absurd rfl (h n)
mutual
theorem encC_len (hS : S.OK) : ∀ (f : Nat) (c : TC) (x : c.ty S.T) (cs : List (A S.T)), cellC f c x = some cs → A.vs cs = encC S c x
 | 0, _, _, _, h => by cases h
 | f + 1, .st n, x, cs, h => by
  rw [cellC] at h
  exact (encL_len hS f _ _ _ h).trans (hS.enc_out n x).symm
 | _ + 1, .m _ _, _, _, h => by cases h
 | _ + 1, .i _, x, cs, h => by cases h; rfl
 | _ + 1, .b, x, cs, h => by cases h; rfl
 | _ + 1, .s, x, cs, h => by cases h; rfl
 | _ + 1, .y, x, cs, h => by cases h; rfl
 | _ + 1, .l _, x, cs, h => by cases h; rfl
theorem encL_len (hS : S.OK) : ∀ (f : Nat) (l : List TC) (x : HL S.T l) (cs : List (A S.T)), cellL f l x = some cs → A.vs cs = encHL S l x
 | 0, _, _, _, h => by cases h
 | _ + 1, [], _, cs, h => by cases h; rfl
 | f + 1, [c], x, cs, h => by
  rw [cellL] at h
  exact encC_len hS f c x cs h
 | f + 1, c :: d :: r, x, cs, h => by
  rw [cellL] at h
  split at h
  ·rename_i u hu
   split at h
   ·rename_i v hv
    cases h
    rw [vs_app, encC_len hS f c x.1 u hu, encL_len hS f (d :: r) x.2 v hv]
    rfl
   ·cases h
  ·cases h
end
theorem A.cells_v (hS : S.OK) {a : A S.T} {cs : List (A S.T)} (h : a.cells = some cs) : A.vs cs = a.v.cells ∧ a.v.plain = true := by
 cases a with
 | raw v => cases v <;> first | (cases h; done) | (cases h; exact ⟨rfl, rfl⟩)
 | dat c x =>
  have h1 := encC_len hS _ c x cs h
  cases c <;> first | (cases h; done) | exact ⟨h1, rfl⟩
 | ag l => cases h; exact ⟨rfl, rfl⟩
 | tup l => cases h; exact ⟨rfl, rfl⟩
 | rh => cases h; exact ⟨rfl, rfl⟩
 | rp => cases h; exact ⟨rfl, rfl⟩
 | vp => cases h; exact ⟨rfl, rfl⟩
 | fn => cases h; exact ⟨rfl, rfl⟩
 | ifc => cases h; exact ⟨rfl, rfl⟩
def Part (cs : List V) (off : Nat) (k : Option Nat) (v : V) : Prop := match k with
 | none => cs[off]? = some v ∧ v.one = true
 | some k => off + k ≤ cs.length ∧ v = .agg ((cs.drop off).take k)
theorem Part.left {cs ds : List V} {off : Nat} {k : Option Nat} {v : V} (h : Part cs off k v) : Part (cs ++ ds) off k v := by
 cases k with
 | none =>
  have := (List.getElem?_eq_some_iff.1 h.1).1
  exact ⟨by rw [List.getElem?_append_left this]; exact h.1, h.2⟩
 | some k =>
  have h1 : off + k ≤ cs.length := h.1
  refine ⟨by rw [List.length_append]; omega, ?_⟩
  rw [h.2, List.drop_append_of_le_length (by omega), List.take_append_of_le_length (by rw [List.length_drop]; omega)]
theorem Part.right {cs ds : List V} {off : Nat} {k : Option Nat} {v : V} (ho : cs.length ≤ off) (h : Part ds (off - cs.length) k v) : Part (cs ++ ds) off k v := by
 cases k with
 | none => exact ⟨by rw [List.getElem?_append_right ho]; exact h.1, h.2⟩
 | some k =>
  have h1 : off - cs.length + k ≤ ds.length := h.1
  refine ⟨by rw [List.length_append]; omega, ?_⟩
  rw [h.2, List.drop_append, List.drop_eq_nil_of_le ho, List.nil_append]
theorem Part.at {P : Program} {t off : Nat} {cs : List V} {k : Option Nat} {v : V} (hk : shapeT P t = some k) (h : Part cs off k v) : atV P t cs off = some v := by
 unfold atV
 rw [hk]
 cases k with
 | none => simp only [h.1, h.2, if_true]
 | some k => simp only [show Nat.ble (off + k) cs.length = true from Nat.ble_eq_true_of_le h.1, if_true, h.2]
theorem encC_cells (hS : S.OK) : ∀ (c : TC) (x : c.ty S.T), (encC S c x).length = cellsC S c
 | .i _, _ => rfl
 | .b, _ => rfl
 | .s, _ => rfl
 | .y, _ => rfl
 | .l _, _ => rfl
 | .m _ _, _ => rfl
 | .st n, x => hS.len n x
theorem one_part (c : TC) (x : c.ty S.T) (h1 : ∀ n, c ≠ .st n) (h2 : ∀ k e, c ≠ .m k e) {off : Nat} {k : Option Nat} {a : A S.T} (h : (bif Nat.beq off 0 && k.isNone then some (A.dat c x) else none) = some a) : Part (encC S c x) off k a.v := by
 cases hb : Nat.beq off 0 && k.isNone with
 | false => rw [hb] at h; cases h
 | true =>
  rw [hb] at h; cases h
  simp only [Bool.and_eq_true] at hb
  have h0 := Nat.eq_of_beq_eq_true hb.1
  subst h0
  obtain ⟨e1, e2, _⟩ := encC_val c x h1 h2
  cases k with
  | none => exact ⟨by rw [e1]; rfl, e2⟩
  | some k => simp at hb
mutual
theorem atC_part (hS : S.OK) : ∀ (f : Nat) (c : TC) (x : c.ty S.T) (off : Nat) (k : Option Nat) (a : A S.T), atC f c x off k = some a → Part (encC S c x) off k a.v
 | 0, _, _, _, _, _, h => by cases h
 | f + 1, .st n, x, off, k, a, h => by
  change (bif wholeB (S.cn n) off k then some (A.dat (.st n) x) else atL f (S.fl n) (S.out n x) off k) = some a at h
  cases hb : wholeB (S.cn n) off k with
  | true =>
   rw [hb] at h; cases h
   cases k with
   | none => cases hb
   | some k =>
    simp only [wholeB, Bool.and_eq_true] at hb
    have h0 := Nat.eq_of_beq_eq_true hb.1
    have h1 := Nat.eq_of_beq_eq_true hb.2
    subst h0; subst h1
    have hl := hS.len n x
    refine ⟨?_, ?_⟩
    ·show 0 + S.cn n ≤ (S.enc n x).length
     omega
    ·show V.agg (S.enc n x) = .agg ((S.enc n x).drop 0 |>.take (S.cn n))
     rw [List.drop_zero, ← hl, List.take_length]
  | false =>
   rw [hb] at h
   have := atL_part hS f _ _ _ _ _ h
   show Part (S.enc n x) off k a.v
   rw [hS.enc_out n x]; exact this
 | _ + 1, .m _ _, _, _, _, _, h => by cases h
 | _ + 1, .i _, x, off, k, a, h => one_part _ x (fun _ e => by cases e) (fun _ _ e => by cases e) h
 | _ + 1, .b, x, off, k, a, h => one_part _ x (fun _ e => by cases e) (fun _ _ e => by cases e) h
 | _ + 1, .y, x, off, k, a, h => one_part _ x (fun _ e => by cases e) (fun _ _ e => by cases e) h
 | _ + 1, .s, x, off, k, a, h => one_part _ x (fun _ e => by cases e) (fun _ _ e => by cases e) h
 | _ + 1, .l _, x, off, k, a, h => one_part _ x (fun _ e => by cases e) (fun _ _ e => by cases e) h
theorem atL_part (hS : S.OK) : ∀ (f : Nat) (l : List TC) (x : HL S.T l) (off : Nat) (k : Option Nat) (a : A S.T), atL f l x off k = some a → Part (encHL S l x) off k a.v
 | 0, _, _, _, _, _, h => by cases h
 | _ + 1, [], _, _, _, _, h => by cases h
 | f + 1, [c], x, off, k, a, h => by
  rw [atL] at h
  cases hb : Nat.ble (off + 1) (cellsC S c) with
  | true => rw [hb] at h; exact atC_part hS f c x off k a h
  | false => rw [hb] at h; cases h
 | f + 1, c :: d :: r, x, off, k, a, h => by
  rw [atL] at h
  cases hb : Nat.ble (off + 1) (cellsC S c) with
  | true => rw [hb] at h; exact (atC_part hS f c x.1 off k a h).left
  | false =>
   rw [hb] at h
   have hlt : cellsC S c ≤ off := by
    have : ¬ off + 1 ≤ cellsC S c := fun h' => by rw [Nat.ble_eq_true_of_le h'] at hb; cases hb
    omega
   refine Part.right (by rw [encC_cells hS]; exact hlt) ?_
   rw [encC_cells hS]
   exact atL_part hS f (d :: r) x.2 _ k a h
end
theorem atA_part {cs : List (A S.T)} {off : Nat} {k : Option Nat} {a : A S.T} (h : atA cs off k = some a) : Part (A.vs cs) off k a.v := by
 cases k with
 | none =>
  simp only [atA] at h
  split at h
  ·rename_i b hb
   cases ho : b.v.one with
   | true =>
    rw [ho] at h; cases h
    exact ⟨by rw [vs_map, List.getElem?_map, hb]; rfl, ho⟩
   | false => rw [ho] at h; cases h
  ·cases h
 | some k =>
  simp only [atA] at h
  cases hb : Nat.ble (off + k) cs.length with
  | true =>
   rw [hb] at h; cases h
   refine ⟨by rw [vs_len]; exact Nat.le_of_ble_eq_true hb, ?_⟩
   simp only [A.v, vs_map, List.map_take, List.map_drop]
  | false => rw [hb] at h; cases h
theorem fillA_v (hS : S.OK) (places : List (Nat × Nat)) : ∀ (parts : List (Nat × A S.T)) (cells out : List (A S.T)), fillA places cells parts = some out → fillV places (A.vs cells) (parts.map fun p => (p.1, p.2.v)) = some (A.vs out)
 | [], cells, out, h => by cases h; rfl
 | (i, a) :: rest, cells, out, h => by
  simp only [fillA] at h
  simp only [List.map_cons, fillV]
  split at h
  ·cases h
  ·rename_i off size hp
   rw [hp]
   split at h
   ·cases h
   ·rename_i u hu
    obtain ⟨e1, e2⟩ := A.cells_v hS hu
    cases hb : Nat.beq u.length size && Nat.ble (off + size) cells.length with
    | false => rw [hb] at h; cases h
    | true =>
     rw [hb] at h
     have ih := fillA_v hS places rest _ _ h
     rw [vs_app, vs_app, vs_map (List.take off cells), vs_map (List.drop (off + size) cells), List.map_take, List.map_drop, ← vs_map, e1] at ih
     simp only [e2, ← e1, vs_len, hb, Bool.and_self, if_true]
     rw [e1]; exact ih
end
end Go.EQ
namespace Go.EQ
open Go Go.RowKit Go.Eng Go.EV

section
variable {S : Tab}
def fieldT (P : Program) (s f : Nat) : Option (Nat × Nat) := match P.underlying s with
 | some (.struct fs) => match fs[f]? with
  | some fld => some (fld.type, fld.offset)
  | none => none
 | _ => none
def builtA (P : Program) (t : Nat) (parts : List (Nat × A S.T)) : Option (List (A S.T)) :=
 match P.info? t, P.underlying t with
 | some it, some (.struct fields) =>
  match it.zero, fields.toList.mapM (fun f => (P.info? f.type).map fun i => (f.offset, i.size)) with
  | some z, some places => fillA places ((z.cells.toList.map ofC1).map of1) parts
  | _, _ => none
 | some it, some (.array n e) =>
  match it.zero, P.info? e with
  | some z, some ie => fillA ((List.range n).map fun i => (i * ie.size, ie.size)) ((z.cells.toList.map ofC1).map of1) parts
  | _, _ => none
 | _, _ => none
theorem builtA_v (hS : S.OK) {P : Program} {t : Nat} {parts : List (Nat × A S.T)} {cs : List (A S.T)} (h : builtA P t parts = some cs) : builtV P t (parts.map fun p => (p.1, p.2.v)) = some (A.vs cs) := by
 unfold builtA at h
 unfold builtV
 split at h
 ·rename_i it fields e1 e2
  rw [e1, e2]
  simp only
  split at h
  ·rename_i z places e3 e4
   rw [e3, e4]
   have := fillA_v hS _ _ _ _ h
   rw [of1_vs] at this
   exact this
  ·cases h
 ·rename_i it n e e1 e2
  rw [e1, e2]
  simp only
  split at h
  ·rename_i z ie e3 e4
   rw [e3, e4]
   have := fillA_v hS _ _ _ _ h
   rw [of1_vs] at this
   exact this
  ·cases h
 ·cases h
def fieldA (P : Program) (s f : Nat) (a : A S.T) : Option (A S.T) := match fieldT P s f with
 | some (t, o) => match shapeT P t with
  | some k => match a with
   | .dat (.st n) x => atC 64 (.st n) x o k
   | .ag cs => atA cs o k
   | _ => none
  | none => none
 | none => none
theorem fieldA_v (hS : S.OK) {P : Program} {s f : Nat} {a b : A S.T} (h : fieldA P s f a = some b) : ∃ cs, a.v = .agg cs ∧ fieldV P s f cs = some b.v := by
 unfold fieldA at h
 split at h
 ·rename_i t o e1
  have e2 : ∀ cs, fieldV P s f cs = atV P t cs o := fun cs => by
   unfold fieldT at e1
   unfold fieldV
   split at e1
   ·split at e1
    ·rename_i fs e3 _ fld e4
     simp only [e3, e4]
     cases e1; rfl
    ·cases e1
   ·cases e1
  split at h
  ·rename_i k hk
   split at h
   ·exact ⟨_, rfl, by rw [e2]; exact (atC_part hS _ _ _ _ _ _ h).at hk⟩
   ·exact ⟨_, rfl, by rw [e2]; exact (atA_part h).at hk⟩
   ·cases h
  ·cases h
 ·cases h
def nilCheckA : A S.T → Option (A S.T)
 | .raw (.ptr k L off) => some (.raw (.ptr k L off))
 | .raw (.fn f a b) => some (.raw (.fn f a b))
 | .vp c x off => some (.vp c x off)
 | .rp k L i off sz => some (.rp k L i off sz)
 | .fn f a b => some (.fn f a b)
 | _ => none
def fieldAddrA (P : Program) (s f : Nat) (a : A S.T) : Option (A S.T) := match fieldOff P s f with
 | some o => match a with
  | .raw (.ptr k L off) => some (.raw (.ptr k L (off + o)))
  | .vp c x off => some (.vp c x (off + o))
  | .rp k L i off sz => some (.rp k L i (off + o) sz)
  | _ => none
 | none => none
def loadC (P : Program) (t : Nat) : A S.T → Option (A S.T)
 | .vp c x off => match shapeT P t with
  | some k => atC 64 c x off k
  | none => none
 | _ => none
def lenA (P : Program) (t : Nat) : A S.T → Option (A S.T)
 | .dat (.l c) l => bif sliceT P t then some (.dat (.i .i64) ((List.length (α := c.ty S.T) l : Nat) : Int)) else none
 | .dat .s l => match P.underlying t with | some .string => some (.dat (.i .i64) ((List.length (α := UInt8) l : Nat) : Int)) | _ => none
 | .rh _ _ n => bif sliceT P t then some (.dat (.i .i64) ((n : Nat) : Int)) else none
 | _ => none
def nilR : A S.T → Bool
 | .raw .nilp => true
 | .raw .nils => true
 | .raw .nilf => true
 | .raw .nilm => true
 | .raw .nili => true
 | _ => false
def stA (a b : A S.T) (v : V) : A S.T := bif nilR a || nilR b then .raw v else ofV v
theorem stA_v (a b : A S.T) (v : V) : (stA a b v).v = v := by
 unfold stA
 cases nilR a || nilR b with
 | true => simp only [cond_true, A.v]
 | false => exact ofV_v v
def divB : BinOp → Operand → Bool
 | .quo, .const _ => false
 | .rem, .const _ => false
 | .quo, _ => true
 | .rem, _ => true
 | _, _ => false
def pureA (P : Program) (E : AE S.T) : Op → Option (A S.T)
 | .move x => some (evA E x)
 | .assign x => some (evA E x)
 | .nilCheck x => nilCheckA (evA E x)
 | .extract x i => match evA E x with | .tup xs => xs[i]? | _ => none
 | .makeFunc (.func f) a b => some (.fn f (a.toList.map (evA E)) (b.toList.map (evA E)))
 | .field s x f => fieldA P s f (evA E x)
 | .fieldAddr s x f => fieldAddrA P s f (evA E x)
 | .load t a => loadC P t (evA E a)
 | .build t parts => match builtA P t (parts.toList.map fun p => (p.1, evA E p.2)) with | some cs => some (.ag cs) | none => none
 | .call ⟨.builtin .len, args, ts⟩ => match args.toList, ts.toList with | [x], [t] => lenA P t (evA E x) | _, _ => none
 | .binOp op t x y t' => bif divB op y then none else match pureV P (eV E) (.binOp op t x y t') with | some v => some (stA (evA E x) (evA E y) v) | none => none
 | .unOp op t x => match pureV P (eV E) (.unOp op t x) with | some v => some (ofV v) | none => none
 | .convert a b x => match pureV P (eV E) (.convert a b x) with | some v => some (ofV v) | none => none
 | .pick a b x => match pureV P (eV E) (.pick a b x) with | some v => some (ofV v) | none => none
 | .call ⟨.builtin b, args, ts⟩ => match pureV P (eV E) (.call ⟨.builtin b, args, ts⟩) with | some v => some (ofV v) | none => none
 | _ => none
theorem evA_map (E : AE S.T) (l : List Operand) : l.map (evV (eV E)) = A.vs (l.map (evA E)) := by
 rw [vs_map, List.map_map]
 exact List.map_congr_left fun x _ => evA_v E x
theorem pureA_v (hS : S.OK) {P : Program} {E : AE S.T} {op : Op} {a : A S.T} (h : pureA P E op = some a) : pureV P (eV E) op = some a.v := by
 unfold pureA at h
 split at h
 ·cases h; exact congrArg some (evA_v E _)
 ·cases h; exact congrArg some (evA_v E _)
 ·rename_i x
  simp only [pureV, evA_v]
  unfold nilCheckA at h
  split at h <;> first | (cases h; done) | (rename_i e; rw [e]; cases h; rfl)
 ·rename_i x i
  simp only [pureV, evA_v]
  split at h
  ·rename_i xs e
   rw [e]
   simp only [A.v, vs_map, List.getElem?_map, h, Option.map_some]
  ·cases h
 ·rename_i f x y
  cases h
  simp only [pureV, evA_map, A.v]
 ·rename_i s x f
  obtain ⟨cs, e1, e2⟩ := fieldA_v hS h
  simp only [pureV, evA_v, e1, e2]
 ·rename_i s x f
  simp only [pureV, evA_v]
  unfold fieldAddrA at h
  split at h
  ·rename_i o e
   rw [e]
   split at h <;> first | (cases h; done) | (rename_i e'; rw [e']; cases h; first | rfl | simp only [A.v, Nat.add_assoc])
  ·cases h
 ·rename_i t x
  simp only [pureV, evA_v]
  unfold loadC at h
  split at h
  ·rename_i c x off e
   rw [e]
   split at h
   ·rename_i k hk
    exact (atC_part hS _ _ _ _ _ _ h).at hk
   ·cases h
  ·cases h
 ·rename_i t parts
  split at h
  ·rename_i cs e
   cases h
   have := builtA_v hS e
   rw [List.map_map] at this
   simp only [pureV]
   rw [show (parts.toList.map fun p => (p.1, evV (eV E) p.2)) = parts.toList.map ((fun p : Nat × A S.T => (p.1, p.2.v)) ∘ fun p => (p.1, evA E p.2)) from List.map_congr_left fun p _ => by simp [evA_v], this]
   rfl
  ·cases h
 ·rename_i args ts
  split at h
  ·rename_i x t e1 e2
   simp only [pureV, e1, e2, List.map_cons, List.map_nil, evA_v, biV]
   unfold lenA at h
   split at h
   ·rename_i c l e
    rw [e]
    cases hb : sliceT P t with
    | true =>
     rw [hb] at h; cases h
     have hl : (List.map (encC S c) l).length = List.length (α := c.ty S.T) l := List.length_map ..
     simp only [lenV, A.v, valC, hb, if_true, hl]
    | false => rw [hb] at h; cases h
   ·rename_i l e
    rw [e]
    split at h
    ·rename_i hb; cases h; simp [lenV, A.v, valC, hb]
    ·cases h
   ·rename_i n e
    rw [e]
    cases hb : sliceT P t with
    | true => rw [hb] at h; cases h; simp [lenV, A.v, valC, hb]
    | false => rw [hb] at h; cases h
   ·cases h
  ·cases h
 ·rename_i op t x y t'
  cases hb : divB op y with
  | true => rw [hb] at h; cases h
  | false =>
   rw [hb, cond_false] at h
   split at h <;> first | (cases h; done) | (rename_i e; cases h; rw [e, stA_v])
 all_goals first | (split at h <;> first | (cases h; done) | (rename_i e; cases h; rw [e, ofV_v])) | (cases h; done)
end
end Go.EQ
namespace Go.EQ
open Go Go.RowKit Go.Eng Go.EV

section
variable {S : Tab}
inductive OR (S : Tab) : Type 1 where
 | no
 | one (kF kR : List Nat) (a : A S.T) (F' : AH S.T)
 | bnd {α : Type} (o : Option α) (kF kR : List Nat) (r : α → Option (A S.T × AH S.T))
 | eqs (l : List (Nat × Nat)) (r : OR S)
 | alt {α : Type} (o : Option α) (kF kR : List Nat) (r : α → Option (A S.T × AH S.T)) (k : OR S)
def OR.orAlt {S : Tab} : OR S → OR S → OR S
 | .eqs l q, k => .eqs l (q.orAlt k)
 | .bnd o kF kR r, k => .alt o kF kR r k
 | q, _ => q
def selA : List Nat → AH S.T → Option (AH S.T)
 | [], _ => some []
 | k :: r, H => match H.get k with
  | some o => match selA r H with
   | some F => some ((k, o) :: F)
   | none => none
  | none => none
def OR.OK (P : Program) (o : Oper) (E : AE S.T) (H : AH S.T) : OR S → Prop
 | .no => True
 | .one kF kR a F' => ∀ F R, selA kF H = some F → selA kR H = some R → EV.Loc P o (eV E) (hV F ++ hV R) a.v (hV F' ++ hV R)
 | .bnd o' kF kR r => ∀ x, o' = some x → ∀ a F', r x = some (a, F') → ∀ F R, selA kF H = some F → selA kR H = some R → EV.Loc P o (eV E) (hV F ++ hV R) a.v (hV F' ++ hV R)
 | .eqs l r => (∀ p ∈ l, p.1 = p.2) → r.OK P o E H
 | .alt o' kF kR r k => (∀ x, o' = some x → ∀ a F', r x = some (a, F') → ∀ F R, selA kF H = some F → selA kR H = some R → EV.Loc P o (eV E) (hV F ++ hV R) a.v (hV F' ++ hV R)) ∧ k.OK P o E H
theorem orAlt_ok {S : Tab} {P : Program} {o : Oper} {E : AE S.T} {H : AH S.T} : ∀ {q k : OR S}, q.OK P o E H → k.OK P o E H → (q.orAlt k).OK P o E H
 | .eqs l q, k, h1, h2 => fun h => orAlt_ok (q := q) (h1 h) h2
 | .bnd o' kF kR r, k, h1, h2 => ⟨h1, h2⟩
 | .no, k, h1, h2 => h1
 | .one .., k, h1, h2 => h1
 | .alt .., k, h1, h2 => h1
theorem selA_one {k : Nat} {H F : AH S.T} {o : OA S.T} (hg : H.get k = some o) (h : selA [k] H = some F) : F = [(k, o)] := by
 simp only [selA, hg] at h
 exact (Option.some.inj h).symm
theorem selA_nil {H F : AH S.T} (h : selA [] H = some F) : F = [] := (Option.some.inj h).symm
abbrev dfl (c : TC) : Inhabited (c.ty S.T) := ⟨dfltC S c⟩
def intOf : A S.T → Option (IntKind × Int)
 | .dat (.i k) n => some (k, n)
 | _ => none
theorem intOf_v {a : A S.T} {k : IntKind} {n : Int} (h : intOf a = some (k, n)) : a.v = .int k n := by
 unfold intOf at h
 split at h
 ·cases h; rfl
 ·cases h
def bndA (E : AE S.T) : Option Operand → Int → Option Int
 | none, d => some d
 | some x, _ => match intOf (evA E x) with | some (_, n) => some n | none => none
theorem bndA_v {E : AE S.T} {o : Option Operand} {d i : Int} (h : bndA E o d = some i) : bndV (eV E) o d i := by
 cases o with
 | none => cases h; rfl
 | some x =>
  simp only [bndA] at h
  split at h
  ·rename_i k n e
   cases h
   exact ⟨k, by rw [evA_v]; exact intOf_v e⟩
  ·cases h
def loadA (P : Program) (H : AH S.T) (t : Nat) (a : A S.T) : OR S := match shapeT P t with
 | none => .no
 | some sh => match a with
  | .raw (.ptr k 0 off) => match H.get k with
   | some (.box _ cs) => match atA cs off sh with
    | some b => .one [] [k] b []
    | none => .no
   | _ => .no
  | .rp k L i off sz => match H.get k with
   | some (.row _ c _ l w) => bif Nat.beq sz (cellsC S c) then .eqs [(L, w.n)] (.bnd (l[i]?) [] [k] fun x => match atC 64 c x off sh with | some b => some (b, []) | none => none) else .no
   | _ => .no
  | _ => .no
def storeA (P : Program) (H : AH S.T) (t : Nat) (a x : A S.T) : OR S := match x.cells with
 | none => .no
 | some u => match a with
  | .raw (.ptr k 0 off) => match H.get k with
   | some (.box bt cs) => bif (A.vs u).all V.one && (sizeOfT P t u.length && Nat.ble (off + u.length) cs.length) then .one [k] [] (.raw .no) [(k, .box bt (cs.take off ++ u ++ cs.drop (off + u.length)))] else .no
   | _ => .no
  | .rp k L i off sz => match H.get k with
   | some (.row e c .zero l w) => bif Nat.beq sz (cellsC S c) && (sizeOfT P t u.length && ((A.vs u).all V.one && x.v.refs.isEmpty)) then
     .eqs [(L, w.n)] (.bnd (l[i]?) [k] [] fun y => match cellC 64 c y with
      | some cs => match data1 (S := S) [] 64 c (cs.take off ++ u ++ cs.drop (off + u.length)) with
       | some (⟨z, _, _⟩, []) => bif Nat.ble (off + u.length) sz then some (.raw .no, [(k, .row e c .zero (l.set i z) ⟨w.n, by rw [List.length_set]; exact w.h⟩)]) else none
       | _ => none
      | none => none)
     else .no
   | _ => .no
  | _ => .no
def indexAddrA (P : Program) (t : Nat) (a i : A S.T) : OR S := match elemT P t, intOf i with
 | some (_, sz), some (_, n) => match a with
  | .dat (.l c) l => bif Nat.beq sz (cellsC S c) then .bnd (@idx (c.ty S.T) (dfl c) l n) [] [] fun x => some (.vp c x 0, []) else .no
  | .rh sz' k m => bif Nat.beq sz sz' then .bnd (grd (0 ≤ n ∧ n < (m : Nat))) [] [] fun _ => some (.rp k m (Int.toNat n) 0 sz, []) else .no
  | _ => .no
 | _, _ => .no
def indexA (P : Program) (t : Nat) (a i : A S.T) : OR S := match intOf i with
 | some (_, n) => match a with
  | .dat .s l => bif strT P t then .bnd (idx (α := UInt8) l n) [] [] fun x => some (.dat (.i .u8) ((x.toNat : Nat) : Int), []) else .no
  | _ => .no
 | none => .no
def sliceA (P : Program) (E : AE S.T) (t : Nat) (a : A S.T) (lo hi : Option Operand) : OR S := match a with
 | .dat .s l => match bndA E lo 0, bndA E hi ((List.length (α := UInt8) l : Nat) : Int) with
  | some x, some y => bif strT P t then .bnd (cut (α := UInt8) l x y) [] [] fun z => some (.dat .s z, []) else .no
  | _, _ => .no
 | .dat (.l c) l => match elemT P t with
  | some (_, sz) => match bndA E lo 0, bndA E hi ((List.length (α := c.ty S.T) l : Nat) : Int) with
   | some x, some y => bif Nat.beq sz (cellsC S c) then .bnd (cut (α := c.ty S.T) l x y) [] [] fun z => some (.dat (.l c) z, []) else .no
   | _, _ => .no
  | none => .no
 | .rh sz k n => match elemT P t with
  | some (_, sz') => match bndA E lo 0, bndA E hi ((n : Nat) : Int) with
   | some x, some y => bif Nat.beq sz sz' then .bnd (grd (0 ≤ x ∧ x ≤ y ∧ y ≤ (n : Nat))) [] [] fun _ => some (.raw (.sl sz k n (Int.toNat x) (Int.toNat y - Int.toNat x)), []) else .no
   | _, _ => .no
  | none => .no
 | _ => .no
section
variable {P : Program} {E : AE S.T} {H : AH S.T} {dst : Option Tmp} {ty : TypeId} {pos : String} {aft : Array Edge} {gd : Option (Nat × Bool)}
theorem loadA_ok (hS : S.OK) {t : Nat} {x : Operand} : (loadA P H t (evA E x)).OK P ⟨dst, .load t x, ty, pos, aft, gd⟩ E H := by
 unfold loadA
 split
 ·trivial
 ·rename_i sh hsh
  split
  ·rename_i k off e
   split
   ·rename_i bt cs hg
    split
    ·rename_i b hb
     intro F R hF hR
     cases selA_nil hF
     cases selA_one hg hR
     exact loc_load (by rw [evA_v, e]; rfl) ((atA_part hb).at hsh)
    ·trivial
   ·trivial
  ·rename_i k L i off sz e
   split
   ·rename_i et c fz l wl hg
    cases hb : Nat.beq sz (cellsC S c) with
    | false => trivial
    | true =>
     have hsz := Nat.eq_of_beq_eq_true hb
     subst hsz
     intro heq y hy a F' hr F R hF hR
     have hL : L = l.length := (heq _ (List.mem_singleton.2 rfl)).trans wl.h.symm
     dsimp only at hr
     split at hr
     ·rename_i b hat
      cases hr
      cases selA_nil hF
      cases selA_one hg hR
      refine loc_loadRow (L := L) (cs := encC S c y) (sz := cellsC S c) i off (by rw [evA_v, e]; rfl) (by rw [hL, List.length_map]) rfl ?_ ((atC_part hS _ _ _ _ _ _ hat).at hsh)
      rw [List.getElem?_map, hy]; rfl
     ·cases hr
   ·trivial
  ·trivial
theorem indexAddrA_ok {t : Nat} {x ix : Operand} : (indexAddrA P t (evA E x) (evA E ix)).OK P ⟨dst, .indexAddr t x ix, ty, pos, aft, gd⟩ E H := by
 unfold indexAddrA
 split
 ·rename_i e sz k n h1 h2
  split
  ·rename_i c l e1
   cases hb : Nat.beq sz (cellsC S c) with
   | false => trivial
   | true =>
    have hsz := Nat.eq_of_beq_eq_true hb
    subst hsz
    intro y hy a F' hr F R hF hR
    cases hr
    cases selA_nil hF; cases selA_nil hR
    obtain ⟨g1, g2, g3⟩ := @idx_some _ (dfl c) _ _ _ hy
    refine loc_indexVs (k := k) (i := n) h1 (by rw [evA_v, e1]; rfl) (by rw [evA_v]; exact intOf_v h2) g1 ?_
    have hlt : n.toNat < List.length (α := c.ty S.T) l := by omega
    rw [g3]
    exact @map_get (c.ty S.T) (dfl c) (encC S c) l n.toNat hlt
  ·rename_i sz' k' m e1
   cases hb : Nat.beq sz sz' with
   | false => trivial
   | true =>
    have hsz := Nat.eq_of_beq_eq_true hb
    subst hsz
    intro y hy a F' hr F R hF hR
    cases hr
    cases selA_nil hF; cases selA_nil hR
    obtain ⟨g1, g2⟩ := grd_some hy
    exact loc_indexRowT (k := k) h1 (by rw [evA_v, e1]; rfl) (by rw [evA_v]; exact intOf_v h2) g1 g2
  ·trivial
 ·trivial
theorem indexA_ok {t : Nat} {x ix : Operand} : (indexA P t (evA E x) (evA E ix)).OK P ⟨dst, .index t x ix, ty, pos, aft, gd⟩ E H := by
 unfold indexA
 split
 ·rename_i k n h2
  split
  ·rename_i l e1
   cases hb : strT P t with
   | false => trivial
   | true =>
    intro y hy a F' hr F R hF hR
    cases hr
    cases selA_nil hF; cases selA_nil hR
    obtain ⟨g1, g2, g3⟩ := idx_some hy
    have := loc_indexStr (P := P) (dst := dst) (ty := ty) (pos := pos) (aft := aft) (gd := gd) (ρ := eV E) (k := k) (x := x) (ix := ix) hb (by rw [evA_v, e1]; rfl) (by rw [evA_v]; exact intOf_v h2) g1 g2
    rw [g3]; exact this
  ·trivial
 ·trivial
theorem sliceA_ok {t : Nat} {x : Operand} {lo hi : Option Operand} : (sliceA P E t (evA E x) lo hi).OK P ⟨dst, .slice t x lo hi none, ty, pos, aft, gd⟩ E H := by
 unfold sliceA
 split
 ·rename_i l e1
  split
  ·rename_i p q h1 h2
   cases hb : strT P t with
   | false => trivial
   | true =>
    intro y hy a F' hr F R hF hR
    cases hr
    cases selA_nil hF; cases selA_nil hR
    obtain ⟨g1, g2, g3, g4⟩ := cut_some hy
    rw [g4]
    exact loc_sliceStr hb (by rw [evA_v, e1]; rfl) (bndA_v h1) (bndA_v h2) g1 g2 g3
  ·trivial
 ·rename_i c l e1
  split
  ·rename_i e sz h0
   split
   ·rename_i p q h1 h2
    cases hb : Nat.beq sz (cellsC S c) with
    | false => trivial
    | true =>
     have hsz := Nat.eq_of_beq_eq_true hb
     subst hsz
     intro y hy a F' hr F R hF hR
     cases hr
     cases selA_nil hF; cases selA_nil hR
     obtain ⟨g1, g2, g3, g4⟩ := cut_some hy
     have hl : (List.map (encC S c) l).length = List.length (α := c.ty S.T) l := List.length_map ..
     refine loc_sliceVsT h0 (by rw [evA_v, e1]; rfl) (bndA_v h1) (by rw [hl]; exact bndA_v h2) g1 g2 (by rw [hl]; exact g3) ?_
     rw [g4, List.map_drop]
     exact congrArg (List.drop p.toNat) (List.map_take (f := encC S c) (l := (l : List (c.ty S.T))) (i := q.toNat)).symm
   ·trivial
  ·trivial
 ·rename_i sz k n e1
  split
  ·rename_i e sz' h0
   split
   ·rename_i p q h1 h2
    cases hb : Nat.beq sz sz' with
    | false => trivial
    | true =>
     have hsz := Nat.eq_of_beq_eq_true hb
     subst hsz
     intro y hy a F' hr F R hF hR
     cases hr
     cases selA_nil hF; cases selA_nil hR
     obtain ⟨g1, g2, g3⟩ := grd_some hy
     exact loc_sliceRowT h0 (by rw [evA_v, e1]; rfl) (bndA_v h1) (bndA_v h2) g1 g2 g3
   ·trivial
  ·trivial
 ·trivial
end
end
end Go.EQ
namespace Go.EQ
open Go Go.RowKit Go.Eng Go.EV

section
variable {S : Tab}
def RowsIn (H : AH S.T) (R : Heap) (fz : List Nat) : Prop := ∀ k ∈ fz, ∀ e c f l w, H.get k = some (.row e c f l w) → ∃ f', R.get k = some (.row e (cellsC S c) f' (l.map (encC S c)))
theorem RowsIn.left {H : AH S.T} {R : Heap} {a b : List Nat} (h : RowsIn H R (a ++ b)) : RowsIn H R a := fun k hk => h k (List.mem_append_left _ hk)
theorem RowsIn.right {H : AH S.T} {R : Heap} {a b : List Nat} (h : RowsIn H R (a ++ b)) : RowsIn H R b := fun k hk => h k (List.mem_append_right _ hk)
theorem viewL_append {R : Heap} : ∀ {a b c d : List V}, ViewL R a b → ViewL R c d → ViewL R (a ++ c) (b ++ d)
 | [], _, _, _, .nil, h => h
 | _ :: _, _, _, _, .cons h1 h2, h => .cons h1 (viewL_append h2 h)
theorem viewL_refl {R : Heap} : ∀ {a : List V}, ViewL R a a
 | [] => .nil
 | v :: a => .cons (.same v) viewL_refl
def EqAll (l : List (Nat × Nat)) : Prop := ∀ p ∈ l, p.1 = p.2
theorem EqAll.left {a b : List (Nat × Nat)} (h : EqAll (a ++ b)) : EqAll a := fun k hk => h k (List.mem_append_left _ hk)
theorem EqAll.right {a b : List (Nat × Nat)} (h : EqAll (a ++ b)) : EqAll b := fun k hk => h k (List.mem_append_right _ hk)
theorem cell1_view {H : AH S.T} {c : TC} {a : A S.T} {rx : Rx (c.ty S.T)} (h : cell1 H c a = some rx) (heq : EqAll rx.eq) {R : Heap} (hR : RowsIn H R rx.fz) : View R a.v (valC S c rx.x) := by
 unfold cell1 at h
 split at h
 ·split at h
  ·rename_i e
   subst e
   cases h
   exact .same _
  ·cases h
 ·cases c <;> first | (cases h; done) | (cases h; exact .nils _)
 ·cases c <;> first | (cases h; done) | (cases h; exact .same _)
 ·rename_i sz k n
  cases c <;> first | (cases h; done) | skip
  rename_i t
  simp only [rowC] at h
  split at h
  ·rename_i e t' fz l wl hg
   split at h
   ·rename_i e
    subst e
    cases hb : Nat.beq sz (cellsC S t') with
    | false => rw [hb] at h; cases h
    | true =>
     rw [hb] at h
     have hsz := Nat.eq_of_beq_eq_true hb
     subst hsz
     cases h
     obtain ⟨f', hf⟩ := hR k (List.mem_singleton.2 rfl) _ _ _ _ _ hg
     have hn : n = l.length := (heq _ (List.mem_singleton.2 rfl)).trans wl.h.symm
     exact .row hf (by rw [List.length_map]; exact hn)
   ·cases h
  ·cases h
 ·cases h
theorem encC_one : ∀ (c : TC) (x : c.ty S.T), (∀ n, c ≠ .st n) → encC S c x = [valC S c x]
 | .i _, _, _ => rfl
 | .b, _, _ => rfl
 | .s, _, _ => rfl
 | .y, _, _ => rfl
 | .l _, _, _ => rfl
 | .m k e, _, _ => rfl
 | .st n, _, h => absurd rfl (h n)
mutual
theorem data1_view (hS : S.OK) {H : AH S.T} : ∀ (f : Nat) (c : TC) (cs : List (A S.T)) (rx : Rx (c.ty S.T)) (r : List (A S.T)), data1 H f c cs = some (rx, r) → EqAll rx.eq →
  ∃ u, cs = u ++ r ∧ ∀ R, RowsIn H R rx.fz → ViewL R (A.vs u) (encC S c rx.x)
 | 0, _, _, _, _, h, _ => by cases h
 | f + 1, .st m, cs, rx, r, h, heq => by
  rw [data1] at h
  split at h
  ·rename_i x fz eq r' e
   cases h
   obtain ⟨u, h1, h2⟩ := dataL_view hS f (S.fl m) cs ⟨x, fz, eq⟩ r e heq
   refine ⟨u, h1, fun R hR => ?_⟩
   have := h2 R hR
   show ViewL R (A.vs u) (S.enc m (S.inj m x))
   rw [hS.enc_out, hS.out_mk]
   exact this
  ·cases h
 | f + 1, c, a :: r0, rx, r, h, heq => by
  by_cases hc : ∃ m, c = .st m
  ·obtain ⟨m, rfl⟩ := hc
   rw [data1] at h
   split at h
   ·rename_i x fz eq r' e
    cases h
    obtain ⟨u, h1, h2⟩ := dataL_view hS f (S.fl m) _ ⟨x, fz, eq⟩ r e heq
    refine ⟨u, h1, fun R hR => ?_⟩
    have := h2 R hR
    show ViewL R (A.vs u) (S.enc m (S.inj m x))
    rw [hS.enc_out, hS.out_mk]
    exact this
   ·cases h
  ·have hc' : ∀ m, c ≠ .st m := fun m e => hc ⟨m, e⟩
   have h' : (match cell1 H c a with | some rx => some (rx, r0) | none => none) = some (rx, r) := by
    cases c <;> first | exact absurd rfl (hc' _) | exact h
   split at h'
   ·rename_i rx' e
    cases h'
    refine ⟨[a], rfl, fun R hR => ?_⟩
    have := cell1_view e heq hR
    rw [encC_one c rx.x hc']
    exact .cons this .nil
   ·cases h'
 | f + 1, c, [], rx, r, h, heq => by
  by_cases hc : ∃ m, c = .st m
  ·obtain ⟨m, rfl⟩ := hc
   rw [data1] at h
   split at h
   ·rename_i x fz eq r' e
    cases h
    obtain ⟨u, h1, h2⟩ := dataL_view hS f (S.fl m) _ ⟨x, fz, eq⟩ r e heq
    refine ⟨u, h1, fun R hR => ?_⟩
    have := h2 R hR
    show ViewL R (A.vs u) (S.enc m (S.inj m x))
    rw [hS.enc_out, hS.out_mk]
    exact this
   ·cases h
  ·have hc' : ∀ m, c ≠ .st m := fun m e => hc ⟨m, e⟩
   cases c <;> first | exact absurd rfl (hc' _) | cases h
theorem dataL_view (hS : S.OK) {H : AH S.T} : ∀ (f : Nat) (l : List TC) (cs : List (A S.T)) (rx : Rx (HL S.T l)) (r : List (A S.T)), dataL H f l cs = some (rx, r) → EqAll rx.eq →
  ∃ u, cs = u ++ r ∧ ∀ R, RowsIn H R rx.fz → ViewL R (A.vs u) (encHL S l rx.x)
 | 0, _, _, _, _, h, _ => by cases h
 | _ + 1, [], cs, rx, r, h, _ => by cases h; exact ⟨[], rfl, fun R _ => .nil⟩
 | f + 1, [c], cs, rx, r, h, heq => by
  rw [dataL] at h
  exact data1_view hS f c cs rx r h heq
 | f + 1, c :: d :: l, cs, rx, r, h, heq => by
  rw [dataL] at h
  split at h
  ·rename_i x fz eq as' e
   split at h
   ·rename_i y fz' eq' as'' e'
    cases h
    obtain ⟨u, h1, h2⟩ := data1_view hS f c cs ⟨x, fz, eq⟩ as' e heq.left
    obtain ⟨v, h3, h4⟩ := dataL_view hS f (d :: l) as' ⟨y, fz', eq'⟩ r e' heq.right
    refine ⟨u ++ v, by rw [h1, h3, List.append_assoc], fun R hR => ?_⟩
    rw [vs_app]
    exact viewL_append (h2 R hR.left) (h4 R hR.right)
   ·cases h
  ·cases h
end
theorem dataOf_view (hS : S.OK) {H : AH S.T} {c : TC} {a : A S.T} {rx : Rx (c.ty S.T)} (h : dataOf H c a = some rx) (heq : EqAll rx.eq) {R : Heap} (hR : RowsIn H R rx.fz) : View R a.v (valC S c rx.x) := by
 unfold dataOf at h
 split at h
 ·rename_i rx' e
  cases h
  exact cell1_view e heq hR
 ·split at h
  ·rename_i cs
   cases c <;> first | (cases h; done) | skip
   rename_i m
   simp only [dataAg] at h
   split at h
   ·rename_i rx' e
    cases h
    obtain ⟨u, h1, h2⟩ := data1_view hS _ _ _ _ _ e heq
    rw [List.append_nil] at h1
    subst h1
    exact .agg (h2 R hR)
   ·cases h
  ·cases h
theorem encC_refs (hS : S.OK) : ∀ (c : TC) (x : c.ty S.T), refsL (encC S c x) = []
 | .i _, _ => rfl
 | .b, _ => rfl
 | .s, _ => rfl
 | .y, _ => rfl
 | .l _, _ => rfl
 | .m _ _, _ => rfl
 | .st n, x => hS.refs n x
theorem wkL_of (hS : S.OK) {a : List V} {c : TC} {x : c.ty S.T} (h : ViewL [] a (encC S c x)) : WkL a (encC S c x) := fun Z l hl => by
 let m0 : M := fun _ _ => none
 have h1 : RepL (some m0) Z a l := hl.up (fun _ _ e => e) (fun f e => by cases e)
 have h2 := ViewL.rep (m := m0) (Z := Z) (w := default) (F := []) (fun k t sz fz els e => by cases e) h h1
 exact RepL.flat _ _ (encC_refs hS c x) h2
theorem cell1_nil {c : TC} {a : A S.T} {rx : Rx (c.ty S.T)} (h : cell1 [] c a = some rx) : rx.fz = [] ∧ rx.eq = [] := by
 unfold cell1 at h
 split at h
 ·split at h
  ·cases h; exact ⟨rfl, rfl⟩
  ·cases h
 ·cases c <;> first | (cases h; done) | (cases h; exact ⟨rfl, rfl⟩)
 ·cases c <;> first | (cases h; done) | (cases h; exact ⟨rfl, rfl⟩)
 ·cases c <;> first | (cases h; done) | (simp only [rowC, AH.get] at h; cases h)
 ·cases h
mutual
theorem data1_nil : ∀ (f : Nat) (c : TC) (cs : List (A S.T)) (rx : Rx (c.ty S.T)) (r : List (A S.T)), data1 [] f c cs = some (rx, r) → rx.fz = [] ∧ rx.eq = []
 | 0, _, _, _, _, h => by cases h
 | f + 1, c, cs, rx, r, h => by
  by_cases hc : ∃ m, c = .st m
  ·obtain ⟨m, rfl⟩ := hc
   rw [data1] at h
   split at h
   ·rename_i x fz eq r' e
    cases h
    exact dataL_nil f (S.fl m) _ ⟨x, fz, eq⟩ r e
   ·cases h
  ·have hc' : ∀ m, c ≠ .st m := fun m e => hc ⟨m, e⟩
   cases cs with
   | nil => cases c <;> first | exact absurd rfl (hc' _) | cases h
   | cons a r0 =>
    have h' : (match cell1 [] c a with | some rx => some (rx, r0) | none => none) = some (rx, r) := by
     cases c <;> first | exact absurd rfl (hc' _) | exact h
    split at h'
    ·rename_i rx' e
     cases h'
     exact cell1_nil e
    ·cases h'
theorem dataL_nil : ∀ (f : Nat) (l : List TC) (cs : List (A S.T)) (rx : Rx (HL S.T l)) (r : List (A S.T)), dataL [] f l cs = some (rx, r) → rx.fz = [] ∧ rx.eq = []
 | 0, _, _, _, _, h => by cases h
 | _ + 1, [], cs, rx, r, h => by cases h; exact ⟨rfl, rfl⟩
 | f + 1, [c], cs, rx, r, h => by
  rw [dataL] at h
  exact data1_nil f c cs rx r h
 | f + 1, c :: d :: l, cs, rx, r, h => by
  rw [dataL] at h
  split at h
  ·rename_i x fz eq as' e
   split at h
   ·rename_i y fz' eq' as'' e'
    cases h
    obtain ⟨h1, h2⟩ := data1_nil f c cs ⟨x, fz, eq⟩ as' e
    obtain ⟨h3, h4⟩ := dataL_nil f (d :: l) as' ⟨y, fz', eq'⟩ r e'
    exact ⟨by rw [show fz = [] from h1, show fz' = [] from h3]; rfl, by rw [show eq = [] from h2, show eq' = [] from h4]; rfl⟩
   ·cases h
  ·cases h
end
theorem data1_wk (hS : S.OK) {f : Nat} {c : TC} {cs : List (A S.T)} {rx : Rx (c.ty S.T)} (h : data1 [] f c cs = some (rx, [])) : WkL (A.vs cs) (encC S c rx.x) := by
 obtain ⟨h1, h2⟩ := data1_nil _ _ _ _ _ h
 obtain ⟨u, e1, e2⟩ := data1_view hS _ _ _ _ _ h (by rw [h2]; intro p hp; cases hp)
 rw [List.append_nil] at e1
 subst e1
 exact wkL_of hS (e2 [] (by rw [h1]; intro k hk; cases hk))
end
end Go.EQ
namespace Go.EQ
open Go Go.RowKit Go.Eng Go.EV

section
variable {S : Tab}
def allocA (P : Program) (d t : Nat) : OR S := match zeroV P t with
 | some cs => .one [] [] (.raw (.ptr d 0 0)) [(d, .box t (cs.map of1))]
 | none => .no
def boxA (d t : Nat) (x : A S.T) : OR S := match x.cells with
 | some u => .one [] [] (.raw (.ptr d 0 0)) [(d, .box t u)]
 | none => .no
def datasC (c : TC) : List (A S.T) → Option (List (c.ty S.T))
 | [] => some []
 | a :: r => match a.cells with
  | some u => match data1 [] 64 c u with
   | some (rx, []) => match datasC c r with
    | some zs => bif Nat.beq u.length (cellsC S c) then some (rx.x :: zs) else none
    | none => none
   | _ => none
  | none => none
def buildSliceA (P : Program) (E : AE S.T) (cd : Nat → Option TC) (d t n : Nat) (parts : List (Nat × Operand)) : OR S := match elemT P t with
 | some (e, sz) => match cd e with
  | some c => match datasC c (parts.map fun p => evA E p.2) with
   | some zs => bif Nat.beq sz (cellsC S c) && (Nat.ble (n * sz) 16777216 && (rowsV n sz (parts.map fun p => (p.1, evV (eV E) p.2))).isSome) then .one [] [] (.rh sz d n) [(d, .row e c .zero zs ⟨_, rfl⟩)] else .no
   | none => .no
  | none => .no
 | none => .no
def sameO : Operand → Operand → Bool
 | .tmp a, .tmp b => Nat.beq a b
 | _, _ => false
def makeSliceA (P : Program) (E : AE S.T) (cd : Nat → Option TC) (d t : Nat) (x y : Operand) : OR S := match elemT2 P t, intOf (evA E x), intOf (evA E y) with
 | some (e, sz, bytes), some (_, n), some (_, n') => match cd e, zeroV P e with
  | some c, some cs => match data1 (S := S) [] 64 c (cs.map of1) with
   | some (rx, []) => bif Nat.beq sz (cellsC S c) && (Nat.beq cs.length sz && (sameO x y || decide (n = n'))) then
     .bnd (grd (0 ≤ n ∧ n * bytes ≤ 281474976710656 ∧ n ≤ 9223372036854775807)) [] [] (fun _ => some (.rh sz d (List.replicate (Int.toNat n) rx.x).length, [(d, .row e c .zero (List.replicate (Int.toNat n) rx.x) ⟨_, rfl⟩)]))
    else .no
   | _ => .no
  | _, _ => .no
 | _, _, _ => .no
def Fz.grow (n : Nat) : Fz → Fz
 | .zero => .zero
 | .all => .pre n
 | .pre n => .pre n
def srcA (H : AH S.T) (k : Nat) (c : TC) : A S.T → Option (List (c.ty S.T) × List Nat × List (Nat × Nat))
 | .dat (.l c') l => if h : c' = c then some ((h ▸ l : List (c.ty S.T)), [], []) else none
 | .raw .nils => some ([], [], [])
 | .rh sz k' n => match H.get k' with
  | some (.row _ c' _ l w) => if h : c' = c then bif !(Nat.beq k k') && Nat.beq sz (cellsC S c) then some ((h ▸ l : List (c.ty S.T)), [k'], [(n, w.n)]) else none else none
  | _ => none
 | _ => none
def oneC : TC → Bool
 | .m _ _ => false
 | _ => true
def tmpOf : Operand → Option Nat
 | .tmp t => some t
 | _ => none
def appendA (P : Program) (E : AE S.T) (H : AH S.T) (cd : Nat → Option TC) (d t t' : Nat) (x y : Operand) : OR S := match elemT2 P t with
 | some (e, sz, bytes) => bif Nat.beq t t' && Nat.ble 1 bytes then match evA E x with
  | .rh sz' k n => match H.get k with
   | some (.row e' c fz l w) => match srcA H k c (evA E y) with
    | some (ys, kR, eq) => bif Nat.beq e e' && (Nat.beq sz' sz && (Nat.beq sz (cellsC S c) && oneC c)) then
      .eqs ((n, w.n) :: eq) (.bnd (grd ((l ++ ys).length * bytes ≤ 140737488355328)) [k] kR (fun _ => some (.rh sz k (l ++ ys).length, [(k, .row e c (fz.grow l.length) (l ++ ys) ⟨_, rfl⟩)])))
     else .no
    | none => .no
   | _ => .no
  | .raw .nils => match cd e, tmpOf x with
   | some c, some j => match srcA H d c (evA E y) with
    | some (ys, kR, eq) => bif Nat.beq sz (cellsC S c) && (oneC c && !(sameO x y)) then
      .eqs eq (.bnd (grd (ys.length * bytes ≤ 140737488355328)) [] kR (fun _ => some (.rh sz d ys.length, [(d, .row e c .zero ys ⟨_, rfl⟩)])))
     else .no
    | none => .no
   | _, _ => .no
  | _ => .no
  else .no
 | none => .no
def concatA (a b : A S.T) : OR S := match a, b with
 | .dat .s x, .dat .s y => .bnd (grd (List.length (α := UInt8) x + List.length (α := UInt8) y ≤ 9223372036854775807)) [] [] (fun _ => some (.dat .s (List.append (α := UInt8) x y), []))
 | _, _ => .no
section
variable {P : Program} {E : AE S.T} {H : AH S.T} {dst : Option Tmp} {ty : TypeId} {pos : String} {aft : Array Edge} {gd : Option (Nat × Bool)}
theorem allocA_ok {d t : Nat} : (allocA (S := S) P d t).OK P ⟨dst, .alloc t, ty, pos, aft, gd⟩ E H := by
 unfold allocA
 split
 ·rename_i cs h
  intro F R hF hR
  cases selA_nil hF; cases selA_nil hR
  have := loc_alloc (P := P) (ρ := eV E) (dst := dst) (ty := ty) (pos := pos) (aft := aft) (gd := gd) (d := d) h
  simpa [hV, OA.o, of1_vs, A.v] using this
 ·trivial
theorem boxA_ok (hS : S.OK) {d t : Nat} {x : Operand} : (boxA d t (evA E x)).OK P ⟨dst, .box t x, ty, pos, aft, gd⟩ E H := by
 unfold boxA
 split
 ·rename_i u h
  intro F R hF hR
  cases selA_nil hF; cases selA_nil hR
  obtain ⟨h1, h2⟩ := A.cells_v hS h
  have := loc_box (P := P) (ρ := eV E) (dst := dst) (ty := ty) (pos := pos) (aft := aft) (gd := gd) (d := d) (t := t) (x := x) (by rw [evA_v]; exact h2)
  rw [evA_v, ← h1] at this
  exact this
 ·trivial
theorem concatA_ok {t t' : TypeId} {x y : Operand} : (concatA (evA E x) (evA E y)).OK P ⟨dst, .binOp .add t x y t', ty, pos, aft, gd⟩ E H := by
 unfold concatA
 split
 ·rename_i a b h1 h2
  intro z hz a F' hr F R hF hR
  cases hr
  cases selA_nil hF; cases selA_nil hR
  exact loc_concat (by rw [evA_v, h1]; rfl) (by rw [evA_v, h2]; rfl) (grd_some hz)
 ·trivial
theorem sameO_eq {x y : Operand} (h : sameO x y = true) : x = y := by
 unfold sameO at h
 split at h
 ·rw [Nat.eq_of_beq_eq_true h]
 ·cases h
theorem makeSliceA_ok (hS : S.OK) {cd : Nat → Option TC} {d t : Nat} {x y : Operand} : (makeSliceA P E cd d t x y).OK P ⟨dst, .makeSlice t x y, ty, pos, aft, gd⟩ E H := by
 unfold makeSliceA
 split
 ·rename_i e sz bytes k n k' n' h1 h2 h3
  split
  ·rename_i c cs h4 h5
   split
   ·rename_i rx h6
    cases hb : Nat.beq sz (cellsC S c) && (Nat.beq cs.length sz && (sameO x y || decide (n = n'))) with
    | false => trivial
    | true =>
     simp only [Bool.and_eq_true, Bool.or_eq_true] at hb
     have hsz := Nat.eq_of_beq_eq_true hb.1
     subst hsz
     have hn : n' = n := by
      rcases hb.2.2 with h | h
      ·have := sameO_eq h
       subst this
       rw [h2] at h3; cases h3; rfl
      ·exact (of_decide_eq_true h).symm
     subst hn
     intro u hu a F' hr F R hF hR
     cases hr
     cases selA_nil hF; cases selA_nil hR
     obtain ⟨g1, g2, g3⟩ := grd_some hu
     have hlen : (List.replicate n'.toNat rx.x).length = n'.toNat := List.length_replicate
     refine loc_makeSliceT (cs := cs) (cs2 := encC S c rx.x) h1 h5 (by rw [evA_v]; exact intOf_v h2) (by rw [evA_v]; exact intOf_v h3) (by rw [encC_cells hS, Nat.eq_of_beq_eq_true hb.2.1]; exact Nat.beq_refl _) g1 g2 g3 ?_ hlen ?_
     ·exact (List.map_replicate ..).symm
     ·have := data1_wk hS h6
      rw [of1_vs] at this
      exact this
   ·trivial
  ·trivial
 ·trivial
theorem datasC_wk (hS : S.OK) {c : TC} : ∀ {as : List (A S.T)} {zs : List (c.ty S.T)}, datasC c as = some zs → WkL ((A.vs as).map V.cells).flatten (zs.map (encC S c)).flatten ∧ zs.length = as.length
 | [], zs, h => by cases h; exact ⟨wk_nil, rfl⟩
 | a :: r, zs, h => by
  simp only [datasC] at h
  split at h
  ·rename_i u hu
   split at h
   ·rename_i rx e
    split at h
    ·rename_i zs' e'
     cases hb : Nat.beq u.length (cellsC S c) with
     | false => rw [hb] at h; cases h
     | true =>
      rw [hb] at h; cases h
      obtain ⟨h1, h2⟩ := datasC_wk hS e'
      obtain ⟨h3, _⟩ := A.cells_v hS hu
      have h4 := data1_wk hS e
      refine ⟨?_, by simp [h2]⟩
      simp only [A.vs, List.map_cons, List.flatten_cons]
      rw [← h3]
      exact wk_append (by rw [vs_len, encC_cells hS]; exact Nat.eq_of_beq_eq_true hb) h4 h1
    ·cases h
   ·cases h
  ·cases h
theorem buildSliceA_ok (hS : S.OK) {cd : Nat → Option TC} {d t n : Nat} {parts : List (Nat × Operand)} : (buildSliceA P E cd d t n parts).OK P ⟨dst, .buildSlice t n parts.toArray, ty, pos, aft, gd⟩ E H := by
 unfold buildSliceA
 split
 ·rename_i e sz h1
  split
  ·rename_i c h2
   split
   ·rename_i zs h3
    cases hb : Nat.beq sz (cellsC S c) && (Nat.ble (n * sz) 16777216 && (rowsV n sz (parts.map fun p => (p.1, evV (eV E) p.2))).isSome) with
    | false => trivial
    | true =>
     simp only [Bool.and_eq_true] at hb
     have hsz := Nat.eq_of_beq_eq_true hb.1
     subst hsz
     obtain ⟨els, h4⟩ := Option.isSome_iff_exists.1 hb.2.2
     intro F R hF hR
     cases selA_nil hF; cases selA_nil hR
     obtain ⟨h5, h6⟩ := datasC_wk hS h3
     have hels : els = (A.vs (parts.map fun p => evA E p.2)).map V.cells ∧ els.length = n := by
      unfold rowsV at h4
      split at h4
      ·rename_i hr
       split at h4
       ·cases h4
        refine ⟨?_, ?_⟩
        ·rw [vs_map]
         simp only [List.map_map]
         exact List.map_congr_left fun p _ => by simp [evA_v]
        ·have := congrArg List.length hr
         simpa using this
       ·cases h4
      ·cases h4
     have hzl : (zs.map (encC S c)).length = els.length := by rw [hels.1]; simp [vs_len, h6]
     refine loc_buildSliceW (fl := els.flatten) (fl2 := (zs.map (encC S c)).flatten) h1 hb.2.1 h4 rfl rfl (by rw [hels.1]; exact h5) (by rw [hzl]; exact Nat.beq_refl _) ?_ rfl
     exact List.all_eq_true.2 fun y hy => by
      obtain ⟨z, _, rfl⟩ := List.mem_map.1 hy
      rw [encC_cells hS]; exact Nat.beq_refl _
   ·trivial
  ·trivial
 ·trivial
theorem hm_of {c : TC} (h : oneC c = true) : ∀ k e, c ≠ .m k e := fun k e e' => by subst e'; cases h
theorem srcA_ok (hS : S.OK) {k : Nat} {c : TC} {y : Operand} {ys : List (c.ty S.T)} {kR : List Nat} {eq : List (Nat × Nat)} (h : srcA H k c (evA E y) = some (ys, kR, eq)) (heq : EqAll eq) {R : AH S.T} (hR : selA kR H = some R) :
  Src (cellsC S c) (hV R) (evV (eV E) y) (ys.map (encC S c)) ∧ AH.has k R = false := by
 rw [evA_v]
 unfold srcA at h
 split at h
 ·rename_i c' l e1
  split at h
  ·rename_i e
   subst e
   cases h
   cases selA_nil hR
   rw [e1]
   exact ⟨.vs _, rfl⟩
  ·cases h
 ·rename_i e1
  cases h
  cases selA_nil hR
  rw [e1]
  exact ⟨.nils, rfl⟩
 ·rename_i sz k' n e1
  split at h
  ·rename_i e' c' fz l wl hg
   split at h
   ·rename_i e
    subst e
    cases hb : !(Nat.beq k k') && Nat.beq sz (cellsC S c') with
    | false => rw [hb] at h; cases h
    | true =>
     rw [hb] at h
     cases h
     simp only [Bool.and_eq_true, Bool.not_eq_true'] at hb
     have hsz := Nat.eq_of_beq_eq_true hb.2
     subst hsz
     cases selA_one hg hR
     rw [e1]
     have hn : n = l.length := (heq _ (List.mem_singleton.2 rfl)).trans wl.h.symm
     refine ⟨.sl (t := e') (fz := fz.n l.length) ?_ (by rw [List.length_map]; exact hn), ?_⟩
     ·simp [hV, Heap.get, OA.o, Nat.beq_refl]
     ·simp [AH.has, hb.1]
   ·cases h
  ·cases h
 ·cases h
theorem appendA_ok (hS : S.OK) {cd : Nat → Option TC} {d t t' : Nat} {x y : Operand} : (appendA P E H cd d t t' x y).OK P ⟨dst, .call ⟨.builtin .append, #[x, y], #[t, t']⟩, ty, pos, aft, gd⟩ E H := by
 unfold appendA
 split
 ·rename_i e sz bytes h1
  cases hb0 : Nat.beq t t' && Nat.ble 1 bytes with
  | false => trivial
  | true =>
   simp only [Bool.and_eq_true] at hb0
   have htt := Nat.eq_of_beq_eq_true hb0.1
   subst htt
   have hby := Nat.le_of_ble_eq_true hb0.2
   have ones : ∀ (c : TC) (ys : List (c.ty S.T)), (∀ k e, c ≠ .m k e) → ∀ u ∈ ys.map (encC S c), u.all V.one = true := fun c ys hm u hu => by
    obtain ⟨z, _, rfl⟩ := List.mem_map.1 hu
    exact enc_one hS c z hm
   have lens : ∀ (c : TC) (ys : List (c.ty S.T)), ∀ u ∈ ys.map (encC S c), u.length = cellsC S c := fun c ys u hu => by
    obtain ⟨z, _, rfl⟩ := List.mem_map.1 hu
    exact encC_cells hS c z
   dsimp only [cond_true]
   split
   ·rename_i sz' k n e1
    split
    ·rename_i e' c fz l wl hg
     split
     ·rename_i ys kR eq h2
      cases hb : Nat.beq e e' && (Nat.beq sz' sz && (Nat.beq sz (cellsC S c) && oneC c)) with
      | false => trivial
      | true =>
       simp only [Bool.and_eq_true] at hb
       have q1 := Nat.eq_of_beq_eq_true hb.1
       have q2 := Nat.eq_of_beq_eq_true hb.2.1
       have q3 := Nat.eq_of_beq_eq_true hb.2.2.1
       have hm := hm_of hb.2.2.2
       subst q1; subst q2; subst q3
       intro heq u hu a F' hr F R hF hR
       cases hr
       cases selA_one hg hF
       have hn : n = l.length := (heq _ (List.mem_cons_self ..)).trans wl.h.symm
       obtain ⟨g1, g2⟩ := srcA_ok hS h2 (fun p hp => heq p (List.mem_cons_of_mem _ hp)) hR
       have hgr := grd_some hu
       have h63 := Nat.le_trans (Nat.le_mul_of_pos_right (l ++ ys).length hby) hgr
       have hl := loc_appendT (P := P) (ρ := eV E) (dst := dst) (ty := ty) (pos := pos) (aft := aft) (gd := gd) (k := k) (fz := fz.n l.length) (L := n) (els := l.map (encC S c)) (ys := ys.map (encC S c)) (R := hV R) (n := (l ++ ys).length) (all := (l ++ ys).map (encC S c)) h1 (by rw [evA_v, e1]; rfl) (by rw [List.length_map]; exact hn.symm) g1 (ones c ys hm) (lens c ys) (by rw [hV_has]; exact g2) (List.map_append ..).symm (by rw [List.length_map]) hgr (by omega)
       have hz : Fz.n (l ++ ys).length (fz.grow l.length) = fz.n l.length := by cases fz <;> rfl
       show EV.Loc P _ _ _ _ ((k, .row e (cellsC S c) (Fz.n (l ++ ys).length (fz.grow l.length)) ((l ++ ys).map (encC S c))) :: hV R)
       rw [hz]
       exact hl
     ·trivial
    ·trivial
   ·rename_i e1
    split
    ·rename_i c j h2 h3
     split
     ·rename_i ys kR eq h4
      cases hb : Nat.beq sz (cellsC S c) && (oneC c && !(sameO x y)) with
      | false => trivial
      | true =>
       simp only [Bool.and_eq_true, Bool.not_eq_true'] at hb
       have q1 := Nat.eq_of_beq_eq_true hb.1
       subst q1
       have hm := hm_of hb.2.1
       intro heq u hu a F' hr F R hF hR
       cases hr
       cases selA_nil hF
       obtain ⟨g1, g2⟩ := srcA_ok hS h4 heq hR
       have hgr := grd_some hu
       have h63 := Nat.le_trans (Nat.le_mul_of_pos_right ys.length hby) hgr
       have hx : x = .tmp j := by
        cases x <;> simp only [tmpOf] at h3 <;> first | (cases h3; done) | (cases h3; rfl)
       subst hx
       have hxy : y ≠ .tmp j := fun e => by
        subst e
        simp [sameO, Nat.beq_refl] at hb
       have hl := loc_appendNil (P := P) (ρ := eV E) (dst := dst) (ty := ty) (pos := pos) (aft := aft) (gd := gd) (d := d) (ys := ys.map (encC S c)) (R := hV R) (n := ys.length) h1 (by rw [evA_v, e1]; rfl) hxy g1 (ones c ys hm) (lens c ys) (by rw [hV_has]; exact g2) (by rw [List.length_map]) hgr (by omega)
       exact hl
     ·trivial
    ·trivial
   ·trivial
 ·trivial
end
end
end Go.EQ
namespace Go.EQ
open Go Go.RowKit Go.Eng Go.EV

section
variable {S : Tab}
def makeMapA (P : Program) (cd : Nat → Option TC) (d t : Nat) : OR S := match mapT P t with
 | some (kt, et) => match cd kt, cd et with
  | some kc, some ec => .one [] [] (.raw (.mp d)) [(d, .map kc ec [])]
  | _, _ => .no
 | none => .no
def lookC (kc ec : TC) [DecidableEq (kc.ty S.T)] (k : Nat) (l : List (kc.ty S.T × ec.ty S.T)) (a : kc.ty S.T) (z : ec.ty S.T) (co : Bool) : OR S :=
 .one [] [k] (bif co then .tup [.dat ec ((mfind a l).getD z), .dat .b (mfind a l).isSome] else .dat ec ((mfind a l).getD z)) []
def updC (kc ec : TC) [DecidableEq (kc.ty S.T)] (k : Nat) (l : List (kc.ty S.T × ec.ty S.T)) (a : kc.ty S.T) (b : ec.ty S.T) : OR S :=
 .one [k] [] (.raw .no) [(k, .map kc ec (mset a b l))]
def decS : DecidableEq (TC.ty S.T .s) := inferInstanceAs (DecidableEq (List UInt8))
def decI (k : IntKind) : DecidableEq (TC.ty S.T (.i k)) := inferInstanceAs (DecidableEq Int)
def lookupA (P : Program) (H : AH S.T) (t : Nat) (x ix : A S.T) (co : Bool) : OR S := match mapT P t with
 | some (kt, et) => match x, zero1 P et with
  | .raw (.mp k), some zv => match H.get k, ix with
   | some (.map .s ec l), .dat .s a => match P.underlying kt, dataOf [] ec (ofV zv) with
    | some .string, some rx => @lookC S .s ec decS k l a rx.x co
    | _, _ => .no
   | some (.map (.i q) ec l), .dat (.i q') a => match P.underlying kt, dataOf [] ec (ofV zv) with
    | some (.int q''), some rx => if q' = q ∧ q'' = q then @lookC S (.i q) ec (decI q) k l a rx.x co else .no
    | _, _ => .no
   | _, _ => .no
  | _, _ => .no
 | none => .no
def boolD : A S.T → A S.T
 | .raw (.bool b) => .dat .b b
 | a => a
theorem boolD_v (a : A S.T) : (boolD a).v = a.v := by
 unfold boolD
 split
 ·rfl
 ·rfl
def mapUpdateA (P : Program) (H : AH S.T) (t : Nat) (x ix y : A S.T) : OR S := match mapT P t with
 | some (kt, _) => match x, boolD y with
  | .raw (.mp k), .dat ec' b => match H.get k, ix with
   | some (.map .s ec l), .dat .s a => match P.underlying kt with
    | some .string => if h : ec' = ec then @updC S .s ec decS k l a (h ▸ b) else .no
    | _ => .no
   | some (.map (.i q) ec l), .dat (.i q') a => match P.underlying kt with
    | some (.int q'') => if h : ec' = ec then (if q' = q ∧ q'' = q then @updC S (.i q) ec (decI q) k l a (h ▸ b) else .no) else .no
    | _ => .no
   | _, _ => .no
  | _, _ => .no
 | none => .no
section
variable {P : Program} {E : AE S.T} {H : AH S.T} {dst : Option Tmp} {ty : TypeId} {pos : String} {aft : Array Edge} {gd : Option (Nat × Bool)}
theorem valC_refs (hS : S.OK) : ∀ (c : TC) (x : c.ty S.T), (valC S c x).refs = []
 | .i _, _ => rfl
 | .b, _ => rfl
 | .s, _ => rfl
 | .y, _ => rfl
 | .l _, _ => rfl
 | .m _ _, _ => rfl
 | .st n, x => by simp only [valC, V.refs]; exact hS.refs n x
theorem weakV (hS : S.OK) {v : V} {c : TC} {x : c.ty S.T} (h : View [] v (valC S c x)) (m : Option M) (Z : ZM) (y : Value) (hr : Rep m Z v y) : Rep m Z (valC S c x) y := by
 cases m with
 | some m => exact View.rep (w := default) (fun k t sz fz els e => by cases e) h hr
 | none =>
  let m0 : M := fun _ _ => none
  have h1 : Rep (some m0) Z v y := hr.none_some
  exact Rep.flat _ _ (valC_refs hS c x) (View.rep (w := default) (fun k t sz fz els e => by cases e) h h1)
theorem makeMapA_ok {cd : Nat → Option TC} {d t : Nat} : (makeMapA (S := S) P cd d t).OK P ⟨dst, .makeMap t none, ty, pos, aft, gd⟩ E H := by
 unfold makeMapA
 split
 ·split
  ·intro F R hF hR
   cases selA_nil hF; cases selA_nil hR
   exact loc_makeMap
  ·trivial
 ·trivial
theorem lookC_ok {kc ec : TC} (D : DecidableEq (kc.ty S.T)) {val : kc.ty S.T → Value} {t kt et k : Nat} {x ix : Operand} {l : List (kc.ty S.T × ec.ty S.T)} {a : kc.ty S.T} {z : ec.ty S.T} {zv : V} (co : Bool) (hT : mapT P t = some (kt, et)) (K : KeyOK P kt (valC S kc) val) (hz : zero1 P et = some zv)
  (hzg : ∀ (m : Option M) (Z : ZM) (y : Value), Rep m Z zv y → Rep m Z (valC S ec z) y) (hx : evA E x = .raw (.mp k)) (hi : (evA E ix).v = valC S kc a) (hg : H.get k = some (.map kc ec l)) : (lookC kc ec k l a z co).OK P ⟨dst, .lookup t x ix co, ty, pos, aft, gd⟩ E H := by
 intro F R hF hR
 cases selA_nil hF; cases selA_one hg hR
 have := loc_lookup (P := P) (ρ := eV E) (dst := dst) (ty := ty) (pos := pos) (aft := aft) (gd := gd) (x := x) (ix := ix) (l := l) (a := a) co hT K hz hzg (by rw [evA_v, hx]; rfl) (by rw [evA_v]; exact hi)
 cases co with
 | true => exact this
 | false => exact this
theorem updC_ok (hS : S.OK) {kc ec : TC} (D : DecidableEq (kc.ty S.T)) {val : kc.ty S.T → Value} {t kt et k : Nat} {x ix y : Operand} {l : List (kc.ty S.T × ec.ty S.T)} {a : kc.ty S.T} {b : ec.ty S.T} (hT : mapT P t = some (kt, et)) (K : KeyOK P kt (valC S kc) val)
  (hx : evA E x = .raw (.mp k)) (hi : (evA E ix).v = valC S kc a) (hy : (evA E y).v = valC S ec b) (hg : H.get k = some (.map kc ec l)) : (updC kc ec k l a b).OK P ⟨dst, .mapUpdate t x ix y, ty, pos, aft, gd⟩ E H := by
 intro F R hF hR
 cases selA_nil hR; cases selA_one hg hF
 exact loc_mapUpdate (P := P) (ρ := eV E) (dst := dst) (ty := ty) (pos := pos) (aft := aft) (gd := gd) (x := x) (ix := ix) (y := y) (l := l) (a := a) (c := b) hT K (by rw [evA_v, hx]; rfl) (by rw [evA_v]; exact hi) (by rw [evA_v]; exact hy) (valC_refs hS ec b) (valC_refs hS kc a)
theorem zero_weak (hS : S.OK) {ec : TC} {zv : V} {rx : Rx (ec.ty S.T)} (h : dataOf [] ec (ofV zv) = some rx) (m : Option M) (Z : ZM) (y : Value) (hr : Rep m Z zv y) : Rep m Z (valC S ec rx.x) y := by
 have h0 : rx.fz = [] ∧ rx.eq = [] := by
  unfold dataOf at h
  split at h
  ·rename_i rx' e
   cases h
   exact cell1_nil e
  ·split at h
   ·cases ec <;> first | (cases h; done) | skip
    simp only [dataAg] at h
    split at h
    ·rename_i rx' e
     cases h
     exact data1_nil _ _ _ _ _ e
    ·cases h
   ·cases h
 have hv := dataOf_view hS (R := []) h (by rw [h0.2]; intro p hp; cases hp) (by rw [h0.1]; intro k hk; cases hk)
 rw [ofV_v] at hv
 exact weakV hS hv m Z y hr
theorem lookupA_ok (hS : S.OK) {t : Nat} {x ix : Operand} {co : Bool} : (lookupA P H t (evA E x) (evA E ix) co).OK P ⟨dst, .lookup t x ix co, ty, pos, aft, gd⟩ E H := by
 unfold lookupA
 split
 ·rename_i kt et hT
  split
  ·rename_i k zv hx hz
   split
   ·rename_i ec l a hg hi
    split
    ·rename_i rx hk hd
     exact lookC_ok (val := fun s : List UInt8 => .string ⟨s.toArray⟩) decS co hT (keyOK_str hk) hz (zero_weak hS hd) hx (by rw [hi]; rfl) hg
    ·trivial
   ·rename_i q ec l q' a hg hi
    split
    ·rename_i q'' rx hk hd
     split
     ·rename_i hq
      obtain ⟨rfl, rfl⟩ := hq
      exact lookC_ok (val := fun n : Int => .int q'' n) (decI q'') co hT (keyOK_int hk) hz (zero_weak hS hd) hx (by rw [hi]; rfl) hg
     ·trivial
    ·trivial
   ·trivial
  ·trivial
 ·trivial
theorem mapUpdateA_ok (hS : S.OK) {t : Nat} {x ix y : Operand} : (mapUpdateA P H t (evA E x) (evA E ix) (evA E y)).OK P ⟨dst, .mapUpdate t x ix y, ty, pos, aft, gd⟩ E H := by
 unfold mapUpdateA
 split
 ·rename_i kt et hT
  split
  ·rename_i k ec' b hx hy
   split
   ·rename_i ec l a hg hi
    split
    ·rename_i hk
     split
     ·rename_i e
      subst e
      exact updC_ok hS (val := fun s : List UInt8 => .string ⟨s.toArray⟩) decS hT (keyOK_str hk) hx (by rw [hi]; rfl) (by rw [← boolD_v, hy]; rfl) hg
     ·trivial
    ·trivial
   ·rename_i q ec l q' a hg hi
    split
    ·rename_i q'' hk
     split
     ·rename_i e
      subst e
      split
      ·rename_i hq
       obtain ⟨rfl, rfl⟩ := hq
       exact updC_ok hS (val := fun n : Int => .int q'' n) (decI q'') hT (keyOK_int hk) hx (by rw [hi]; rfl) (by rw [← boolD_v, hy]; rfl) hg
      ·trivial
     ·trivial
    ·trivial
   ·trivial
  ·trivial
 ·trivial
theorem storeA_ok (hS : S.OK) {t : Nat} {x y : Operand} : (storeA P H t (evA E x) (evA E y)).OK P ⟨dst, .store t x y, ty, pos, aft, gd⟩ E H := by
 unfold storeA
 split
 ·trivial
 ·rename_i u hu
  obtain ⟨c1, c2⟩ := A.cells_v hS hu
  split
  ·rename_i k off e
   split
   ·rename_i bt cs hg
    cases hb : (A.vs u).all V.one && (sizeOfT P t u.length && Nat.ble (off + u.length) cs.length) with
    | false => trivial
    | true =>
     simp only [Bool.and_eq_true] at hb
     intro F R hF hR
     cases selA_nil hR; cases selA_one hg hF
     have hl := loc_store (P := P) (ρ := eV E) (dst := dst) (ty := ty) (pos := pos) (aft := aft) (gd := gd) (t := t) (k := k) (off := off) (bt := bt) (a := x) (x := y) (cs := A.vs cs) (by rw [evA_v, e]; rfl) (by rw [evA_v]; exact c2) (by rw [evA_v, ← c1]; exact hb.1) (by rw [evA_v, ← c1, vs_len]; exact hb.2.1) (by rw [evA_v, ← c1, vs_len, vs_len]; exact Nat.le_of_ble_eq_true hb.2.2)
     rw [evA_v, ← c1, vs_len] at hl
     show EV.Loc P _ _ [(k, .box bt (A.vs cs))] .no [(k, .box bt (A.vs (cs.take off ++ u ++ cs.drop (off + u.length))))]
     rw [vs_app, vs_app, vs_map (cs.take off), vs_map (cs.drop _), List.map_take, List.map_drop, ← vs_map]
     exact hl
   ·trivial
  ·rename_i k L i off sz e
   split
   ·rename_i et c l wl hg
    cases hb : Nat.beq sz (cellsC S c) && (sizeOfT P t u.length && ((A.vs u).all V.one && (evA E y).v.refs.isEmpty)) with
    | false => trivial
    | true =>
     simp only [Bool.and_eq_true] at hb
     have hsz := Nat.eq_of_beq_eq_true hb.1
     subst hsz
     intro heq z hz a F' hr F R hF hR
     have hL : L = l.length := (heq _ (List.mem_singleton.2 rfl)).trans wl.h.symm
     dsimp only at hr
     split at hr
     ·rename_i cs hcs
      split at hr
      ·rename_i z' fz' eq' hd
       cases hb2 : Nat.ble (off + u.length) (cellsC S c) with
       | false => rw [hb2] at hr; cases hr
       | true =>
        rw [hb2] at hr
        cases hr
        cases selA_nil hR; cases selA_one hg hF
        have hw := data1_wk hS hd
        have hcs' := encC_len hS _ _ _ _ hcs
        have hb2' := Nat.le_of_ble_eq_true hb2
        have hlen := encC_cells hS c z
        have hcl : cs.length = cellsC S c := by rw [← hlen, ← hcs', vs_len]
        have hrf : (evV (eV E) y).refs = [] := by rw [evA_v]; exact List.isEmpty_iff.1 hb.2.2.2
        refine loc_storeRowW (et := et) (sz := cellsC S c) (fz := 0) (L := L) (off := i * cellsC S c + off) (cs := encC S c z) (c1 := A.vs (cs.take off ++ u ++ cs.drop (off + u.length))) (c2 := encC S c z') i off (by rw [evA_v, e]; rfl) (by rw [hL, List.length_map]) rfl (by rw [List.getElem?_map, hz]; rfl) (Nat.zero_le _)
         (by rw [evA_v]; exact c2) (by rw [evA_v, ← c1]; exact hb.2.2.1) hrf (by rw [evA_v, ← c1, vs_len]; exact hb.2.1) (by rw [evA_v, ← c1, vs_len]; exact hb2) ?_ hw ?_ (List.map_set ..).symm
        ·rw [evA_v, ← c1, vs_app, vs_app, vs_map (cs.take off), vs_map (cs.drop _), List.map_take, List.map_drop, ← vs_map, hcs', vs_len]
        ·rw [vs_len, encC_cells hS]
         have : (cs.take off ++ u ++ cs.drop (off + u.length)).length = cellsC S c := by
          simp only [List.length_append, List.length_take, List.length_drop]
          omega
         rw [this]; exact Nat.beq_refl _
      ·cases hr
     ·cases hr
   ·trivial
  ·trivial
end
end
end Go.EQ
namespace Go.EV
open Go Go.RowKit Go.Eng

def gones (F : Heap) : Heap := F.map fun p => (p.1, .gen gone)
def pent (v : Value) : PanicEntry := { v, recovered := false }
theorem keys_gones (F : Heap) : keys (gones F) = keys F := by simp [keys, gones]
structure Lost (m : M) (Z : ZM) (F : Heap) (w : World) (Z' : ZM) (w' : World) : Prop where
 frozen : ∀ a x, Z' a = some x → w'.cell? a = some x
 zext : ∀ a x, Z a = some x → Z' a = some x
 os : w'.os = w.os
 tape : w'.tape = w.tape
 output : w'.output = w.output
 size : w.heap.size ≤ w'.heap.size
 frame : ∀ b, b < w.heap.size → (∀ p ∈ F, ¬ blk m p b) → w'.heap[b]? = w.heap[b]?
 znew : ∀ a x, Z' a = some x → Z a = some x ∨ w.heap.size ≤ a.block ∨ ∃ q ∈ F, blk m q a.block
theorem Lost.step {m : M} {Z Z' : ZM} {F : Heap} {w w' : World} (hn : (keys F).Nodup) (h : Lost m Z F w Z' w') : Step m Z F w m Z' (gones F) w' := by
 refine ⟨⟨h.frozen, fun p hp => ?_, by rw [keys_gones]; exact hn, fun p hp q hq b h1 h2 => ?_⟩, fun _ _ _ e => e, h.zext, h.os, h.tape, h.output, h.size, h.frame, fun k hk => by rw [keys_gones]; exact hk, fun _ _ => rfl, fun p hp b hb => ?_, h.znew⟩
 ·obtain ⟨q, _, rfl⟩ := List.mem_map.1 hp
  trivial
 ·obtain ⟨q, _, rfl⟩ := List.mem_map.1 hp
  exact h1.elim
 ·obtain ⟨q, _, rfl⟩ := List.mem_map.1 hp
  exact hb.elim
theorem Step.lost {m m' : M} {Z Z' : ZM} {F F' : Heap} {w w' : World} (h : Step m Z F w m' Z' F' w') : Lost m Z F w Z' w' := ⟨h.sim.frozen, h.zext, h.os, h.tape, h.output, h.size, h.frame, h.znew⟩
def FnP (P : Program) (f : FuncId) (args : List V) (F : Heap) (v : Value) : Prop :=
 ∀ w m Z vals, SimH m Z F w → RepL (some m) Z args vals → (∀ k, k ∉ keys F → ∀ L, m k L = none) →
  Calls P f vals.toArray w fun en w' => en = .panicked [pent v] ∧ ∃ Z', Lost m Z F w Z' w'
def ExecP (P : Program) (o : Oper) (ρr : Slots) (w : World) (R : Value → World → Prop) : Prop :=
 notDefer o.op = true ∧ ((∃ v w', (execOp (ev ρr) o).run P w = .halt (.panic v) w' ∧ R v w') ∨
  ∃ f args w1, (execOp (ev ρr) o).run P w = .ok (.enter f args) w1 ∧ Calls P f args w1 fun en w' => ∃ v, en = .panicked [pent v] ∧ R v w')
def LocP (P : Program) (o : Oper) (ρ : Env) (F : Heap) (v : Value) : Prop :=
 ∀ ρr m Z w, (∀ x ∈ o.op.operands, Rep (some m) Z (evV ρ x) (ev ρr x)) → SimH m Z F w → ExecP P o ρr w fun x w' => x = v ∧ ∃ Z', Lost m Z F w Z' w'
section
variable {P : Program} {f : FuncId} {args : List V} {F R : Heap} {v : Value} {ρ : Env}
theorem ExecP.mono {o : Oper} {ρr : Slots} {w : World} {R R' : Value → World → Prop} (h : ExecP P o ρr w R) (hm : ∀ x w', R x w' → R' x w') : ExecP P o ρr w R' := by
 refine ⟨h.1, ?_⟩
 rcases h.2 with ⟨x, w', h1, h2⟩ | ⟨g, args, w1, h1, h2⟩
 ·exact .inl ⟨x, w', h1, hm _ _ h2⟩
 ·exact .inr ⟨g, args, w1, h1, Calls.mono h2 fun _ _ ⟨x, e, hr⟩ => ⟨x, e, hm _ _ hr⟩⟩
theorem FnP.at {σ : Nat → Nat} (h : FnP P f args F v) (hσ : nodupB ((keys F).map σ) = true) (hcl : closedB args F = true) :
  ∀ w m Z vals, SimH m Z (renH σ F) w → RepL (some m) Z (renL σ args) vals →
   Calls P f vals.toArray w fun en w' => en = .panicked [pent v] ∧ ∃ Z', Lost m Z (renH σ F) w Z' w' := by
 intro w m Z vals hs hv
 simp only [closedB, Bool.and_eq_true] at hcl
 have hinj : ∀ {a b : Nat}, a ∈ keys F → b ∈ keys F → σ a = σ b → a = b := inj_of (nodup_of hσ)
 let mc : M := fun k L => if k ∈ keys F then m (σ k) L else none
 have hmc : ∀ k ∈ keys F, mc k = m (σ k) := fun k hk => by funext L; simp [mc, hk]
 have hmcn : ∀ k, k ∉ keys F → ∀ L, mc k L = none := fun k hk L => by simp [mc, hk]
 have hblk : ∀ p ∈ F, blk mc p = blk m (σ p.1, p.2.ren σ) := fun p hp => blk_ren (hmc p.1 (mem_keys hp))
 have hmem : ∀ p ∈ F, (σ p.1, p.2.ren σ) ∈ renH σ F := fun p hp => List.mem_map.2 ⟨p, hp, rfl⟩
 have hsc : SimH mc Z F w := by
  refine ⟨hs.frozen, fun p hp => ?_, ?_, fun p hp q hq b h1 h2 => ?_⟩
  ·have hh := hs.holds _ (hmem p hp)
   have hk := hmc p.1 (mem_keys hp)
   obtain ⟨k, o⟩ := p
   cases o with
   | box t cs =>
    obtain ⟨b, cur, h1, h2, h3, h4, h5⟩ := hh
    refine ⟨b, cur, by rw [hk]; exact h1, h2, RepL.unren σ cs _ (fun j hj L loc e => ?_) h3, h4, by rw [hk]; exact h5⟩
    have := (List.all_eq_true.1 hcl.2) _ hp
    have := (List.all_eq_true.1 this) j hj
    rw [hmc j (by simpa using this)]; exact e
   | row t sz fz els =>
    rcases hh with ⟨h1, h2, h3, ⟨b, h4⟩, h5⟩ | ⟨b, cap, cur, fr, h1, h2⟩
    ·exact .inl ⟨h1, h2, h3, ⟨b, by rw [hk]; exact h4⟩, by rw [hk]; exact h5⟩
    ·exact .inr ⟨b, cap, cur, fr, by rw [hk]; exact h1, by rw [hk]; exact h2⟩
   | map l =>
    obtain ⟨b, es, clock, h1, h2⟩ := hh
    exact ⟨b, es, clock, by rw [hk]; exact h1, by rw [hk]; exact h2⟩
   | glob g t cs => exact ⟨by rw [hk]; exact hh.1, hh.2.1, by rw [hk]; exact hh.2.2⟩
   | nest t e sz pd ls =>
    show HoldsN (mc k) _ _ t e sz pd ls
    rw [hk]; exact hh
   | gen G =>
    show G.holds (mc k) _ _
    rw [hk]; exact hh
  ·have := hs.nodup
   rw [keys_ren] at this
   exact nodup_of_map _ this
  ·rw [hblk p hp] at h1
   rw [hblk q hq] at h2
   exact hinj (mem_keys hp) (mem_keys hq) (hs.disj _ (hmem p hp) _ (hmem q hq) b h1 h2)
 refine Calls.mono (h w mc Z vals hsc (RepL.unren σ args vals (fun j hj L loc e => ?_) hv) hmcn) ?_
 ·have := (List.all_eq_true.1 hcl.1) j hj
  rw [hmc j (by simpa using this)]; exact e
 rintro en w' ⟨he, Z', hl⟩
 refine ⟨he, Z', hl.frozen, hl.zext, hl.os, hl.tape, hl.output, hl.size, fun b hb hn => hl.frame b hb fun p hp hbp => ?_, fun a x e => ?_⟩
 ·rw [hblk p hp] at hbp
  exact hn _ (hmem p hp) hbp
 ·rcases hl.znew a x e with h1 | h1 | ⟨q, hq, h1⟩
  ·exact .inl h1
  ·exact .inr (.inl h1)
  ·rw [hblk q hq] at h1
   exact .inr (.inr ⟨_, hmem q hq, h1⟩)
def CallW (P : Program) (o : Oper) (ρ : Env) (f : FuncId) (vs : List V) : Prop :=
 ∀ ρr m Z w, (∀ x ∈ o.op.operands, Rep (some m) Z (evV ρ x) (ev ρr x)) → ∃ vals : List Value, RepL (some m) Z vs vals ∧ notDefer o.op = true ∧ (execOp (ev ρr) o).run P w = .ok (.enter f vals.toArray) w
theorem CallW.val {o : Oper} {vs : List V} (h : CallW P o ρ f vs) : CallV P o ρ f vs := fun ρr m Z w hops => by
 obtain ⟨vals, h1, h2, h3⟩ := h ρr m Z w hops
 exact ⟨vals, h1, fun Rr h4 => ⟨h2, .inr (.inr ⟨f, _, w, h3, h4⟩)⟩⟩
theorem Lost.frame_rule {m : M} {Z Z' : ZM} {w w' : World} (hs : SimH m Z (F ++ R) w) (h : Lost m Z F w Z' w') : Lost m Z (F ++ R) w Z' w' :=
 ⟨h.frozen, h.zext, h.os, h.tape, h.output, h.size, fun b hb hn => h.frame b hb fun p hp => hn p (List.mem_append_left _ hp), fun a x e => by
  rcases h.znew a x e with h1 | h1 | ⟨q, hq, h1⟩
  ·exact .inl h1
  ·exact .inr (.inl h1)
  ·exact .inr (.inr ⟨q, List.mem_append_left _ hq, h1⟩)⟩
theorem loc_gpan {o : Oper} {vs : List V} (σ : List (Nat × Nat)) (hc : CallW P o ρ f vs) (h : FnP P f args F v) (hv : ViewL R vs (renL (asg σ) args)) (hR : frz R = R) (hσ : nodupB ((keys F).map (asg σ)) = true) (hcl : closedB args F = true) :
  LocP P o ρ (renH (asg σ) F ++ R) v := by
 intro ρr m Z w hops hs
 obtain ⟨vals, hvals, hnd, hex⟩ := hc ρr m Z w hops
 have hRk : ∀ k t sz fz els, R.get k = some (.row t sz fz els) → Holds m Z w k (.row t sz els.length els) := fun k t sz fz els hg => by
  have hmem := Heap.get_mem hg
  have h1 := hs.holds _ (List.mem_append_right _ hmem)
  have : fz = els.length := by
   rw [← hR] at hmem
   rcases mem_frz hmem with ⟨k', t', sz', fz', els', h2, h3⟩ | ⟨h2, h3⟩
   ·simp only [Prod.mk.injEq, Obj.row.injEq] at h3
    obtain ⟨_, _, _, e1, e2⟩ := h3
    rw [e1, e2]
   ·exact absurd rfl (h3 t sz fz els)
  subst this
  exact h1
 have hvals' := ViewL.rep hRk hv hvals
 refine ⟨hnd, .inr ⟨f, _, w, hex, Calls.mono (h.at hσ hcl w m Z _ hs.left hvals') ?_⟩⟩
 rintro en w' ⟨he, Z', hl⟩
 exact ⟨v, he, rfl, Z', hl.frame_rule hs⟩
theorem locP_frz {o : Oper} {Fa F : Heap} (h : LocP P o ρ (Fa ++ frz F) v) : LocP P o ρ (Fa ++ F) v := by
 intro ρr m Z w hops hs
 have hst : Step m Z F w m (zfrz m Z F w) (frz F) w := Step.freeze hs.right
 have hs2 : SimH m (zfrz m Z F w) (Fa ++ frz F) w := by
  have := Step.frame_rule (F := F) (F' := frz F) (G := Fa) (hs.perm List.perm_append_comm) hst (fun p hp q hq e => by
   have hk : p.1 ∈ keys F := by rw [← keys_frz]; exact mem_keys hp
   have hn := hs.nodup
   rw [keys_append] at hn
   exact (List.nodup_append.1 hn).2.2 _ (mem_keys hq) _ hk e.symm)
  exact this.sim.perm List.perm_append_comm
 refine (h ρr m _ w (fun x hx => (hops x hx).up hst.zext (fun f e => by cases e; exact ⟨m, rfl, fun _ _ _ e => e⟩)) hs2).mono fun x w' ⟨hx, Z', hl⟩ => ⟨hx, Z', hl.frozen, fun a y e => hl.zext a y (hst.zext a y e), hl.os, hl.tape, hl.output, hl.size, fun b hb hn => hl.frame b hb fun p hp hbp => ?_, fun a y e => ?_⟩
 ·rcases List.mem_append.1 hp with hp | hp
  ·exact hn p (List.mem_append_left _ hp) hbp
  ·rcases hst.blks p hp b hbp with h1 | ⟨q, hq, h1⟩
   ·omega
   ·exact hn q (List.mem_append_right _ hq) h1
 ·rcases hl.znew a y e with h1 | h1 | ⟨q, hq, h1⟩
  ·rcases hst.znew a y h1 with h2 | h2 | ⟨q, hq, h2⟩
   ·exact .inl h2
   ·exact .inr (.inl h2)
   ·exact .inr (.inr ⟨q, List.mem_append_right _ hq, h2⟩)
  ·exact .inr (.inl h1)
  ·rcases List.mem_append.1 hq with hq | hq
   ·exact .inr (.inr ⟨q, List.mem_append_left _ hq, h1⟩)
   ·rcases hst.blks q hq _ h1 with h2 | ⟨q', hq', h2⟩
    ·exact .inr (.inl h2)
    ·exact .inr (.inr ⟨q', List.mem_append_right _ hq', h2⟩)
end
section
variable {K0 : List Nat} {c : Ctx K0} {P : Program} {r : Option Nat} {N : Nat} {Q : PostV} {ρ : Env} {H : Heap} {ds : List Deferred} {all rest : List Oper} {o : Oper} {v : Value}
theorem SimC.lost {m : M} {Z Z' : ZM} {w w' : World} (S : SimC c m Z H w) (h : Lost m Z H w Z' w') : SimC c m Z' (gones H) w' :=
 ⟨S.step.trans (h.step S.step.sim.nodup), fun k hk L => S.dom k (by rw [keys_gones] at hk; exact hk) L⟩
theorem ov_pan {F : Heap} (ks : List Nat) (hw : wantedV all ρ o = some true) (hks : nodupB ks = true) (hF : selH ks H = some F) (hl : LocP P o ρ F v)
  (h : ∀ H', Q (.panic [pent v]) [] H' ds) : OpsV c P r N all Q (o :: rest) ρ H ds := by
 rintro ρr w ds1 ⟨m, Z, S, hR⟩ hM a n hf
 have hp := split_perm S.step.sim.nodup (nodup_of hks) hF
 have hs : SimH m Z (F ++ remH ks H) w := S.step.sim.perm hp
 obtain ⟨hn, hex⟩ := hl ρr m Z w (fun x _ => hR.ev x) hs.left
 have hw' := (hf.wanted all _).trans (wanted_of hR hw)
 have go : ∀ w', (∃ Z', Lost m Z F w Z' w') → lift N (liftV c Q ds) (.panic [pent v]) a w' := fun w' ⟨Z', hlo⟩ => by
  have hlo2 : Lost m Z H w Z' w' := by
   have h1 := hlo.frame_rule hs
   exact ⟨h1.frozen, h1.zext, h1.os, h1.tape, h1.output, h1.size, fun b hb hnb => h1.frame b hb fun p hp' => hnb p (hp.mem_iff.2 hp'), fun a' x e => by
    rcases h1.znew a' x e with h2 | h2 | ⟨q, hq, h2⟩
    ·exact .inl h2
    ·exact .inr (.inl h2)
    ·exact .inr (.inr ⟨q, hp.mem_iff.2 hq, h2⟩)⟩
  refine ⟨ρr, ds1, hf, [], _, ⟨_, Z', S.lost hlo2, fun _ => trivial⟩, ?_, h _⟩
  exact MarksOK.step hM S.step.sim (hlo2.step S.step.sim.nodup)
 simp only [wpListIn, hw', if_true]
 refine ⟨fun _ _ => trivial, ?_⟩
 rw [semAt_fw hn, hf.eval]
 rcases hex with ⟨x, w', hrun, rfl, hx⟩ | ⟨f, args, w1, hrun, hx⟩
 ·rw [hrun, Oper.uponIn_panic]
  exact go w' hx
 ·rw [hrun, Oper.uponIn_enter]
  refine ⟨fun hx => by simp [Fw] at hx, (callsIn_fw r hx).mono fun e w'' hR2 => ?_⟩
  obtain ⟨x, rfl, rfl, hx2⟩ := hR2
  exact go w'' hx2
end
mutual
def vval : V → Value
 | .int k n => .int k n
 | .bool b => .bool b
 | .str l => .string ⟨l.toArray⟩
 | .agg cs => .agg (vvals cs).toArray
 | .ifc t v => .iface t (vval v)
 | _ => Go.undef
def vvals : List V → List Value
 | [] => []
 | v :: vs => vval v :: vvals vs
end
mutual
def flatVB : V → Bool
 | .int _ _ => true
 | .bool _ => true
 | .str _ => true
 | .agg cs => flatVsB cs
 | .ifc _ v => flatVB v
 | _ => false
def flatVsB : List V → Bool
 | [] => true
 | v :: vs => flatVB v && flatVsB vs
end
mutual
theorem rep_vval {m : Option M} {Z : ZM} : ∀ (v : V) (x : Value), flatVB v = true → Rep m Z v x → x = vval v
 | .int _ _, x, _, h => h
 | .bool _, x, _, h => h
 | .str _, x, _, h => h
 | .agg cs, x, hb, h => by
  obtain ⟨l, rfl, h1⟩ := h
  rw [rep_vvals cs l hb h1]; rfl
 | .ifc t v, x, hb, h => by
  obtain ⟨y, rfl, h1⟩ := h
  rw [rep_vval v y hb h1]; rfl
 | .undef, _, hb, _ => by cases hb
 | .no, _, hb, _ => by cases hb
 | .nilp, _, hb, _ => by cases hb
 | .ptr .., _, hb, _ => by cases hb
 | .vp .., _, hb, _ => by cases hb
 | .nils, _, hb, _ => by cases hb
 | .sl .., _, hb, _ => by cases hb
 | .vs .., _, hb, _ => by cases hb
 | .fn .., _, hb, _ => by cases hb
 | .nilf, _, hb, _ => by cases hb
 | .tup _, _, hb, _ => by cases hb
 | .nilm, _, hb, _ => by cases hb
 | .mp _, _, hb, _ => by cases hb
 | .nili, _, hb, _ => by cases hb
 | .gv .., _, hb, _ => by cases hb
 | .pv _, _, hb, _ => by cases hb
theorem rep_vvals {m : Option M} {Z : ZM} : ∀ (vs : List V) (l : List Value), flatVsB vs = true → RepL m Z vs l → l = vvals vs
 | [], l, _, h => h
 | v :: vs, l, hb, h => by
  simp only [flatVsB, Bool.and_eq_true] at hb
  obtain ⟨x, xs, rfl, h1, h2⟩ := h
  rw [rep_vval v x hb.1 h1, rep_vvals vs xs hb.2 h2]; rfl
end
theorem loc_panicOp {P : Program} {ρ : Env} {dst : Option Tmp} {ty : TypeId} {pos : String} {aft : Array Edge} {gd : Option (Nat × Bool)} {x : Operand} {t : Nat} {v : V} (hx : evV ρ x = .ifc t v) (hf : flatVB v = true) : LocP P ⟨dst, .panic x, ty, pos, aft, gd⟩ ρ [] (vval (.ifc t v)) := by
 intro ρr m Z w hops hs
 have hX := hops x (by simp [Op.operands])
 rw [hx] at hX
 have hX := rep_vval (.ifc t v) _ hf hX
 refine ⟨rfl, .inl ⟨_, w, ?_, rfl, Z, hs.frozen, fun _ _ e => e, rfl, rfl, rfl, Nat.le_refl _, fun _ _ _ => rfl, fun _ _ e => .inl e⟩⟩
 simp only [execOp, hX, vval]
 rfl
def finP (v : Value) : PostV
 | .panic ch, _, _, _ => ch = [pent v]
 | _, _, _, _ => False
end Go.EV
namespace Go.EV
open Go Go.RowKit Go.Eng

def LocP' (P : Program) (o : Oper) (g : Operand → V) (F : Heap) (v : Value) : Prop :=
 ∀ ρr m Z w, (∀ x ∈ o.op.operands, Rep (some m) Z (g x) (ev ρr x)) → SimH m Z F w → ExecP P o ρr w fun x w' => x = v ∧ ∃ Z', Lost m Z F w Z' w'
theorem LocP'.congr {P : Program} {o : Oper} {g g' : Operand → V} {F : Heap} {v : Value} (h : LocP' P o g F v) (hg : ∀ x ∈ o.op.operands, g' x = g x) : LocP' P o g' F v :=
 fun ρr m Z w hops => h ρr m Z w fun x hx => by rw [← hg x hx]; exact hops x hx
def OpPan (P : Program) (all : List Oper) (fp : FP) (e : Nat → V) (η : HF) (v : Value) : Prop :=
 ∃ o F R, all[fp.i]? = some o ∧ wantedF all e o = some true ∧ LocP' P o (evF e) (F ++ R) v ∧ (keys (F ++ R)).Nodup ∧ keys F = fp.fk ∧ keys R = fp.rk ∧ ∀ p ∈ F ++ R, η p.1 = some p.2
section
variable {K0 : List Nat} {c : Ctx K0} {P : Program} {r : Option Nat} {N : Nat} {all : List Oper} {ds : List Deferred} {v : Value}
theorem OpPan.back {x p : FP} {e e1 : Nat → V} {η η1 : HF} (h : OpStep P N all x e η e1 η1) (k : OpPan P all p e1 η1 v) (hi : indepB all x p = true) : OpPan P all p e η v := by
 obtain ⟨o, u, ho, hn, hd, rfl, h⟩ := h
 obtain ⟨o', F, R, ho', hw, hl, hnd, hF, hR, hg⟩ := k
 simp only [indepB, ho, ho', Bool.and_eq_true, keysB] at hi
 obtain ⟨hs, hs', hk1, hk2, hk3⟩ := hi
 have hk1 := disj_of hk1
 have hk2 := disj_of hk2
 obtain ⟨ev1, ew1⟩ := evF_put (v := u) (e := e) hs
 refine ⟨o', F, R, ho', by rw [← ew1]; exact hw, hl.congr fun x hx => (ev1 x hx).symm, hnd, hF, hR, fun p hp => ?_⟩
 rw [← hg p hp]
 rcases h with ⟨_, _, rfl, _, _⟩ | ⟨_, F1, R1, F1', _, _, _, _, ek, _, _, _, rfl⟩
 ·rfl
 ·refine (updH_of fun hm => ?_).symm
  rw [ek] at hm
  rcases List.mem_append.1 hp with hp | hp
  ·exact hk1 _ hm (hF ▸ mem_keys hp)
  ·exact hk2 _ hm (hR ▸ mem_keys hp)
theorem Chain.back {p : FP} {e2 : Nat → V} {η2 : HF} (k : OpPan P all p e2 η2 v) : ∀ {L : List FP} {e : Nat → V} {η : HF}, Chain P N all L e η e2 η2 → (∀ x ∈ L, indepB all x p = true) → OpPan P all p e η v
 | [], _, _, h, _ => by cases h; exact k
 | x :: L, _, _, h, hi => by
  cases h with
  | cons h h' => exact (Chain.back k h' fun y hy => hi y (List.mem_cons_of_mem _ hy)).back h (hi x (List.mem_cons_self ..))
theorem pan_real {Q : PostV} {ds0 : List Deferred} {fp : FP} {e : Nat → V} {η : HF} {a : Act} {w : World} {n : Nat} {KK : Act → World → Prop} (hs : OpPan P all fp e η v) (S : SimF c N ds e η a w) (h : ∀ H', Q (.panic [pent v]) [] H' ds0) : wpOpIn (Fw r) n P all.toArray (lift N (liftV c Q ds0)) fp.i KK a w := by
 obtain ⟨o, F, R, ho, hw, hl, hnd, _, _, hg⟩ := hs
 obtain ⟨hM, ρr, ρ, H, hf, rfl, rfl, m, Z, SC, hR⟩ := S
 have ho' : all.toArray[fp.i]? = some o := by simpa using ho
 unfold wpOpIn
 simp only [ho']
 have hw' := (hf.wanted all o).trans (wanted_of hR hw)
 simp only [hw', if_true]
 refine ⟨fun _ _ => trivial, ?_⟩
 have hsel : selH (keys (F ++ R)) H = some (F ++ R) := selH_of hg
 have hp := split_perm SC.step.sim.nodup hnd hsel
 have hs : SimH m Z ((F ++ R) ++ remH (keys (F ++ R)) H) w := SC.step.sim.perm hp
 obtain ⟨hn, hex⟩ := hl ρr m Z w (fun x _ => by rw [evF_get]; exact hR.ev x) hs.left
 have go : ∀ w', (∃ Z', Lost m Z (F ++ R) w Z' w') → lift N (liftV c Q ds0) (.panic [pent v]) a w' := fun w' ⟨Z', hlo⟩ => by
  have hlo2 : Lost m Z H w Z' w' := by
   have h1 := hlo.frame_rule hs
   exact ⟨h1.frozen, h1.zext, h1.os, h1.tape, h1.output, h1.size, fun b hb hnb => h1.frame b hb fun p hp' => hnb p (hp.mem_iff.2 hp'), fun a' x e => by
    rcases h1.znew a' x e with h2 | h2 | ⟨q, hq, h2⟩
    ·exact .inl h2
    ·exact .inr (.inl h2)
    ·exact .inr (.inr ⟨q, hp.mem_iff.2 hq, h2⟩)⟩
  refine ⟨ρr, ds, hf, [], _, ⟨_, Z', SC.lost hlo2, fun _ => trivial⟩, ?_, h _⟩
  exact MarksOK.step hM SC.step.sim (hlo2.step SC.step.sim.nodup)
 rw [semAt_fw hn, hf.eval]
 rcases hex with ⟨x, w', hrun, rfl, hx⟩ | ⟨f, args, w1, hrun, hx⟩
 ·rw [hrun, Oper.uponIn_panic]
  exact go w' hx
 ·rw [hrun, Oper.uponIn_enter]
  refine ⟨fun hx => by simp [Fw] at hx, (callsIn_fw r hx).mono fun e w'' hR2 => ?_⟩
  obtain ⟨x, rfl, rfl, hx2⟩ := hR2
  exact go w'' hx2
theorem nodup_lt : ∀ (n : Nat) (l : List Nat), l.Nodup → (∀ x ∈ l, x < n) → l.length ≤ n
 | 0, [], _, _ => Nat.le_refl _
 | 0, x :: l, _, h => by have := h x (List.mem_cons_self ..); omega
 | n + 1, l, hn, h => by
  have h1 := nodup_lt n (l.erase n) (hn.erase n) fun x hx => by
   have h2 := h x (List.mem_of_mem_erase hx)
   have h3 : x ≠ n := fun e => by subst e; exact hn.not_mem_erase hx
   omega
  rw [List.length_erase] at h1
  split at h1 <;> omega
theorem least {p : Nat → Prop} : ∀ i, p i → ∃ j, p j ∧ ∀ k, k < j → ¬ p k := fun i => by
 induction i using Nat.strongRecOn with
 | _ i ih =>
  intro h
  by_cases hk : ∃ k, k < i ∧ p k
  ·obtain ⟨k, h1, h2⟩ := hk
   exact ih k h1 h2
  ·exact ⟨i, h, fun k h1 h2 => hk ⟨k, h1, h2⟩⟩
theorem any_pan (hE : edgesB all = true) {Q : PostV} {ds0 : List Deferred} {n : Nat} {e2 : Nat → V} {η2 : HF} {p : FP} (hpan : OpPan P all p e2 η2 v) (hQ : ∀ H', Q (.panic [pent v]) [] H' ds0) : ∀ (fuel : Nat) (L : List FP) (listed : Array Bool) (e : Nat → V) (η : HF) (a : Act) (w : World),
  Chain P N all L e η e2 η2 → compatB all (masks all []) L = true → (L.map (·.i)).Pairwise (· < ·) → (∀ i, i < all.length → (listed.getD i false = false ↔ (i ∈ L.map (·.i) ∨ i = p.i ∨ ancB (masks all []) i p.i = true))) → (∀ i ∈ L.map (·.i), i < all.length) →
  (∀ x ∈ L, ancB (masks all []) p.i x.i = true ∨ indepB all x p = true) → p.i ∉ L.map (·.i) → (∀ x ∈ L, ancB (masks all []) x.i p.i = false) → Closed all.toArray listed → listed.size = all.length → L.length + 1 ≤ fuel →
  SimF c N ds e η a w → wpAnyIn (Fw r) n P .any all.toArray (lift N (liftV c Q ds0)) fuel listed a w := by
 intro fuel
 have hpl : p.i < all.length := by
  obtain ⟨o, _, _, ho, _⟩ := hpan
  exact (List.getElem?_eq_some_iff.1 ho).1
 induction fuel with
 | zero => intro L listed e η a w _ _ _ _ _ _ _ _ _ _ hlen _; omega
 | succ fuel ih =>
  intro L listed e η a w hch hcp hp hl hlt hin hnp hna hc hsz hlen S
  have hpf : listed.getD p.i false = false := (hl p.i hpl).2 (.inr (.inl rfl))
  refine ⟨fun hr => ?_, fun j hj => ?_⟩
  ·exfalso
   obtain ⟨j, ⟨hj1, hj2⟩, hj3⟩ := least (p := fun i => i < all.length ∧ listed.getD i false = false) p.i ⟨hpl, hpf⟩
   have hmem : j ∈ Region.ready .any all.toArray listed := by
    refine mem_ready.2 ⟨?_, all[j]'hj1, by simpa using List.getElem?_eq_getElem hj1, fun e' he' hbind => ?_⟩
    ·have hlt' : j < listed.size := by omega
     simp only [Array.getD_eq_getD_getElem?, Array.getElem?_eq_getElem hlt', Option.getD_some] at hj2 ⊢
     exact hj2
    ·have hlt2 := edges_of hE (List.getElem?_eq_getElem hj1) he' hbind
     cases hq : listed.getD e'.on false with
     | true => rfl
     | false => exact absurd ⟨by omega, hq⟩ (hj3 _ hlt2)
   rw [hr] at hmem
   cases hmem
  ·obtain ⟨h1, o, ho, hpre⟩ := mem_ready.1 hj
   have hj' : j < all.length := by have := (Array.getElem?_eq_some_iff.1 ho).1; simpa using this
   have hjs : j < listed.size := by omega
   have hjf : listed.getD j false = false := by
    simp only [Array.getD_eq_getD_getElem?, Array.getElem?_eq_getElem hjs, Option.getD_some] at h1 ⊢
    exact h1
   have hanc : ∀ i, ancB (masks all []) j i = true → listed.getD i false = true := anc_listed hE hc j o (by simpa using ho) hpre
   rcases (hl j hj').1 hjf with hjL | rfl | hja
   ·obtain ⟨l1, b, l2, rfl, rfl⟩ := mem_split hjL
    obtain ⟨hfr, hcp'⟩ := compat_front hcp
    have hpm : ((l1 ++ b :: l2).map (·.i)).Pairwise (· < ·) := hp
    rw [List.map_append, List.map_cons, List.pairwise_append] at hpm
    obtain ⟨hp1, hp2, hp3⟩ := hpm
    have hp2' := List.pairwise_cons.1 hp2
    have hind : ∀ x ∈ l1, indepB all x b = true := fun x hx => by
     rcases hfr x hx with h' | h'
     ·exfalso
      have hxl := hanc x.i h'
      have hxn : x.i < all.length := hlt x.i (by simp; exact .inl ⟨x, hx, rfl⟩)
      have := (hl x.i hxn).2 (.inl (by simp; exact .inl ⟨x, hx, rfl⟩))
      rw [hxl] at this; cases this
     ·exact h'
    obtain ⟨e1, η1, hop, hch'⟩ := hch.front hind
    have hsub : ∀ x ∈ l1 ++ l2, x ∈ l1 ++ b :: l2 := fun x hx => by
     rcases List.mem_append.1 hx with hx | hx
     ·exact List.mem_append_left _ hx
     ·exact List.mem_append_right _ (List.mem_cons_of_mem _ hx)
    have hbi : b ∈ l1 ++ b :: l2 := by simp
    have hbp : b.i ≠ p.i := fun e => hnp (by rw [← e]; exact List.mem_map_of_mem hbi)
    refine step_real hop S fun a' w' S' => ih (l1 ++ l2) _ e1 η1 a' w' hch' hcp' ?_ ?_ ?_ (fun x hx => hin x (hsub x hx)) ?_ (fun x hx => hna x (hsub x hx)) (hc.set hj) (by simpa using hsz) (by simp at hlen ⊢; omega) S'
    ·rw [List.map_append, List.pairwise_append]
     exact ⟨hp1, hp2'.2, fun x hx y hy => hp3 x hx y (List.mem_cons_of_mem _ hy)⟩
    ·intro i hi
     have hne : i = b.i ∨ i ≠ b.i := Decidable.em _
     rcases hne with rfl | hne
     ·have hnot : b.i ∉ (l1 ++ l2).map (·.i) := by
       rw [List.map_append, List.mem_append]
       rintro (h' | h')
       ·have := hp3 _ h' b.i (List.mem_cons_self ..); omega
       ·have := hp2'.1 _ h'; omega
      have h9 : (listed.setIfInBounds b.i true).getD b.i false = true := by simp [hjs]
      rw [h9]
      refine ⟨fun h' => (by cases h'), fun h' => ?_⟩
      rcases h' with h' | h' | h'
      ·exact absurd h' hnot
      ·exact absurd h' hbp
      ·rw [hna b hbi] at h'; cases h'
     ·rw [getD_set_ne false (Ne.symm hne), hl i hi]
      simp only [List.map_append, List.map_cons, List.mem_append, List.mem_cons, hne, false_or]
    ·intro i hi
     refine hlt i ?_
     rw [List.map_append, List.mem_append] at hi
     simp only [List.map_append, List.map_cons, List.mem_append, List.mem_cons]
     rcases hi with hi | hi
     ·exact .inl hi
     ·exact .inr (.inr hi)
    ·intro h'
     refine hnp ?_
     obtain ⟨x, hx, e⟩ := List.mem_map.1 h'
     exact List.mem_map.2 ⟨x, hsub x hx, e⟩
   ·have hall : ∀ x ∈ L, indepB all x p = true := fun x hx => by
     rcases hin x hx with h' | h'
     ·exfalso
      have hxl := hanc x.i h'
      have hxm : x.i ∈ L.map (·.i) := List.mem_map_of_mem hx
      have := (hl x.i (hlt x.i hxm)).2 (.inl hxm)
      rw [hxl] at this; cases this
     ·exact h'
    exact pan_real (Chain.back hpan hch hall) S hQ
   ·exfalso
    have := hanc _ hja
    rw [hpf] at this; cases this
def DrawP (P : Program) (N : Nat) (all : List Oper) (ρ : Env) (H : Heap) (v : Value) : Prop :=
 ∃ fps p e2 η2, (keys H).Nodup → (Chain P N all fps ρ.get H.get e2 η2 ∧ OpPan P all p e2 η2 v ∧ (fps.map (·.i)).Pairwise (· < ·) ∧ (∀ i, i < all.length → (i ∈ fps.map (·.i) ∨ i = p.i ∨ ancB (masks all []) i p.i = true)) ∧ (∀ i ∈ fps.map (·.i), i < all.length) ∧
  (∀ x ∈ fps, ancB (masks all []) p.i x.i = true ∨ indepB all x p = true) ∧ p.i ∉ fps.map (·.i) ∧ (∀ x ∈ fps, ancB (masks all []) x.i p.i = false) ∧ compatB all (masks all []) fps = true)
theorem v_drawP {Q : PostV} {ρ : Env} {H : Heap} {id : Nat} (hm : P.follows .mixedOrders = true) (hE : edgesB all = true) (h : DrawP P N all ρ H v) (hQ : ∀ H', Q (.panic [pent v]) [] H' ds) : WpV c P r N (.region id all.toArray true) Q ρ H ds := by
 intro ρr w ds1 S hM a n hf
 obtain ⟨fps, p, e2, η2, h⟩ := h
 obtain ⟨m, Z, SC, hR⟩ := S
 obtain ⟨h1, h2, h3, h4, h5, h6, h7, h8, h9⟩ := h SC.step.sim.nodup
 have hdrew : SimA c ρ H ρr w.drew := ⟨m, Z, ⟨SC.step.trans (Step.same SC.step.sim rfl rfl rfl rfl), SC.dom⟩, hR⟩
 refine wpIn_region_any hm ?_
 have hpl : p.i < all.length := by
  obtain ⟨o, _, _, ho, _⟩ := h2
  exact (List.getElem?_eq_some_iff.1 ho).1
 have hcard : fps.length + 1 ≤ all.length := by
  have hnd : (p.i :: fps.map (·.i)).Nodup := List.nodup_cons.2 ⟨h7, h3.imp fun h => Nat.ne_of_lt h⟩
  have := nodup_lt all.length _ hnd fun x hx => by
   rcases List.mem_cons.1 hx with rfl | hx
   ·exact hpl
   ·exact h5 x hx
  simpa using this
 refine any_pan (c := c) (ds := ds1) (r := r) hE h2 hQ all.toArray.size fps _ ρ.get H.get a _ h1 h9 h3 ?_ h5 h6 h7 h8 ?_ (by simp) (by simpa using hcard) ⟨hM.same rfl, ρr, ρ, H, hf, rfl, rfl, hdrew⟩
 ·intro i hi
  simp only [List.size_toArray, Array.getD_eq_getD_getElem?, Array.getElem?_replicate]
  rw [if_pos hi]; simp only [Option.getD_some, true_iff]
  exact h4 i hi
 ·have := ready_closed all
  simpa using this
end
section
variable {P : Program} {N : Nat} {all : List Oper} {ρ : Env} {H : Heap} {o : Oper}
theorem step_of {F R F' : Heap} {v : V} (i : Nat) (kF kR : List Nat) (ho : all[i]? = some o) (hn : notDefer o.op = true) (hd : (match o.dst with | some d => Nat.ble (d + 1) N | none => true) = true) (hw : wantedV all ρ o = some true)
  (hF : selH kF H = some F) (hR : selH kR H = some R) (hnd : nodupB (keys F' ++ kR) = true) (hndF : nodupB kF = true) (hsub : (kF.all (keys F').contains) = true) (hfr : (F'.all fun p => kF.contains p.1 || !hasKey p.1 H) = true)
  (hl : Loc P o ρ (F ++ R) v (F' ++ R)) (hnH : (keys H).Nodup) : (keys (F' ++ remH kF H)).Nodup ∧ OpStep P N all ⟨i, keys F', kR⟩ ρ.get H.get (putE o.dst v ρ).get (F' ++ remH kF H).get := by
 obtain ⟨hF1, hF2⟩ := selH_mem hF
 obtain ⟨hR1, hR2⟩ := selH_mem hR
 have hnotin : ∀ p ∈ F', p.1 ∉ kF → p.1 ∉ keys H := fun p hp hk hkH => by
  have := (List.all_eq_true.1 hfr) p hp
  simp only [Bool.or_eq_true, List.contains_eq_mem, decide_eq_true_eq, Bool.not_eq_true'] at this
  rcases this with h' | h'
  ·exact hk h'
  ·rw [hasKey_iff.2 hkH] at h'; cases h'
 have hndF' : (keys F').Nodup := (List.nodup_append.1 (nodup_of hnd)).1
 have hremn : (keys (remH kF H)).Nodup := by
  have : (keys (remH kF H)) = (keys H).filter (fun k => !kF.contains k) := by
   simp only [keys, remH]
   rw [List.filter_map]; rfl
  rw [this]; exact hnH.filter _
 refine ⟨?_, o, v, ho, hn, fun d hd' => ?_, putF_get _ _ _, .inr ⟨hw, F, R, F', ?_, ?_, ?_, ?_, rfl, hR1, fun p hp => ?_, fun k hk hkF => ?_, ?_⟩⟩
 ·rw [keys_append]
  refine List.nodup_append.2 ⟨hndF', hremn, fun a ha b hb e => ?_⟩
  subst e
  obtain ⟨p, hp, rfl⟩ := List.mem_map.1 ha
  obtain ⟨q, hq, e⟩ := List.mem_map.1 hb
  have hq' := List.mem_filter.1 hq
  have hnk : p.1 ∉ kF := by
   have := hq'.2
   simp only [Bool.not_eq_true', List.contains_eq_mem, decide_eq_false_iff_not] at this
   rw [← e]; exact this
  exact hnotin p hp hnk (by rw [← e]; exact mem_keys hq'.1)
 ·rw [hd'] at hd; exact Nat.le_of_ble_eq_true hd
 ·exact Loc'.congr (g := evV ρ) hl fun x _ => evF_get ρ x
 ·rw [keys_append, hR1]; exact nodup_of hnd
 ·rw [hF1]; exact nodup_of hndF
 ·intro k hk
  rw [hF1] at hk
  have := (List.all_eq_true.1 hsub) k hk
  simpa using this
 ·rcases List.mem_append.1 hp with hp | hp
  ·exact get_of_mem hnH (hF2 p hp)
  ·exact get_of_mem hnH (hR2 p hp)
 ·obtain ⟨p, hp, rfl⟩ := List.mem_map.1 hk
  exact get_none.1 (hnotin p hp (hF1 ▸ hkF))
 ·funext k
  rw [get_append]
  by_cases h1 : k ∈ keys F'
  ·simp [updH, h1]
  ·rw [if_neg h1, updH_of h1]
   refine get_rem fun hk => h1 ?_
   have := (List.all_eq_true.1 hsub) k hk
   simpa using this
theorem OpPan.fwd {v : Value} {x p : FP} {e e1 : Nat → V} {η η1 : HF} (h : OpStep P N all x e η e1 η1) (k : OpPan P all p e η v) (hi : indepB all x p = true) : OpPan P all p e1 η1 v := by
 obtain ⟨o, u, ho, hn, hd, rfl, h⟩ := h
 obtain ⟨o', F, R, ho', hw, hl, hnd, hF, hR, hg⟩ := k
 simp only [indepB, ho, ho', Bool.and_eq_true, keysB] at hi
 obtain ⟨hs, hs', hk1, hk2, hk3⟩ := hi
 have hk1 := disj_of hk1
 have hk2 := disj_of hk2
 obtain ⟨ev1, ew1⟩ := evF_put (v := u) (e := e) hs
 refine ⟨o', F, R, ho', by rw [ew1]; exact hw, hl.congr fun x hx => ev1 x hx, hnd, hF, hR, fun p hp => ?_⟩
 rw [← hg p hp]
 rcases h with ⟨_, _, rfl, _, _⟩ | ⟨_, F1, R1, F1', _, _, _, _, ek, _, _, _, rfl⟩
 ·rfl
 ·refine updH_of fun hm => ?_
  rw [ek] at hm
  rcases List.mem_append.1 hp with hp | hp
  ·exact hk1 _ hm (hF ▸ mem_keys hp)
  ·exact hk2 _ hm (hR ▸ mem_keys hp)
theorem Chain.fwd {v : Value} {p : FP} : ∀ {L : List FP} {e e2 : Nat → V} {η η2 : HF}, Chain P N all L e η e2 η2 → OpPan P all p e η v → (∀ x ∈ L, indepB all x p = true) → OpPan P all p e2 η2 v
 | [], _, _, _, _, h, k, _ => by cases h; exact k
 | x :: L, _, _, _, _, h, k, hi => by
  cases h with
  | cons h h' => exact Chain.fwd h' (k.fwd h (hi x (List.mem_cons_self ..))) fun y hy => hi y (List.mem_cons_of_mem _ hy)
theorem Chain.app : ∀ {L L' : List FP} {e e1 e2 : Nat → V} {η η1 η2 : HF}, Chain P N all L e η e1 η1 → Chain P N all L' e1 η1 e2 η2 → Chain P N all (L ++ L') e η e2 η2
 | [], _, _, _, _, _, _, _, h, k => by cases h; exact k
 | x :: L, _, _, _, _, _, _, _, h, k => by
  cases h with
  | cons h h' => exact .cons h (h'.app k)
def sortedB : List Nat → Bool
 | a :: b :: r => Nat.ble (a + 1) b && sortedB (b :: r)
 | _ => true
theorem sorted_of : ∀ {l : List Nat}, sortedB l = true → l.Pairwise (· < ·)
 | [], _ => .nil
 | [a], _ => List.pairwise_singleton _ _
 | a :: b :: r, h => by
  simp only [sortedB, Bool.and_eq_true] at h
  have h1 := Nat.le_of_ble_eq_true h.1
  have h2 := sorted_of h.2
  refine List.pairwise_cons.2 ⟨fun x hx => ?_, h2⟩
  rcases List.mem_cons.1 hx with rfl | hx
  ·exact h1
  ·exact Nat.lt_trans h1 ((List.pairwise_cons.1 h2).1 x hx)
def chkPan (all : List Oper) (p : FP) (L : List FP) : Bool :=
 sortedB (L.map (·.i)) && ((List.range all.length).all (fun i => memB i (L.map (·.i)) || (Nat.beq i p.i || ancB (masks all []) i p.i)) && (L.all (fun x => Nat.ble (x.i + 1) all.length) &&
  (L.all (fun x => ancB (masks all []) p.i x.i || indepB all x p) && (!(memB p.i (L.map (·.i))) && (L.all (fun x => !(ancB (masks all []) x.i p.i)) && compatB all (masks all []) L)))))
theorem drawP_of {v : Value} {fps : List FP} {p : FP} {e2 : Nat → V} {η2 : HF} (h : (keys H).Nodup → Chain P N all fps ρ.get H.get e2 η2 ∧ OpPan P all p e2 η2 v) (hc : chkPan all p fps = true) : DrawP P N all ρ H v := by
 simp only [chkPan, Bool.and_eq_true] at hc
 obtain ⟨c1, c2, c3, c4, c5, c6, c7⟩ := hc
 refine ⟨fps, p, e2, η2, fun hn => ⟨(h hn).1, (h hn).2, sorted_of c1, fun i hi => ?_, fun i hi => ?_, fun x hx => ?_, fun hm => ?_, fun x hx => ?_, c7⟩⟩
 ·have := (List.all_eq_true.1 c2) i (List.mem_range.2 hi)
  simp only [Bool.or_eq_true] at this
  rcases this with h1 | h1 | h1
  ·exact .inl (memB_iff.1 h1)
  ·exact .inr (.inl (Nat.eq_of_beq_eq_true h1))
  ·exact .inr (.inr h1)
 ·obtain ⟨x, hx, rfl⟩ := List.mem_map.1 hi
  exact Nat.le_of_ble_eq_true ((List.all_eq_true.1 c3) x hx)
 ·have := (List.all_eq_true.1 c4) x hx
  simpa using this
 ·rw [memB_iff.2 hm] at c5; cases c5
 ·have := (List.all_eq_true.1 c6) x hx
  simpa using this
end
end Go.EV
namespace Go.EQ
open Go Go.RowKit Go.Eng Go.EV

mutual
theorem ren_flat {σ : Nat → Nat} : ∀ v : V, v.refs = [] → v.ren σ = v
 | .undef, _ => rfl
 | .no, _ => rfl
 | .int .., _ => rfl
 | .bool _, _ => rfl
 | .str _, _ => rfl
 | .nilp, _ => rfl
 | .ptr .., h => by simp [V.refs] at h
 | .vp .., _ => rfl
 | .nils, _ => rfl
 | .sl .., h => by simp [V.refs] at h
 | .vs .., _ => rfl
 | .fn f a b, h => by
  simp only [V.refs, List.append_eq_nil_iff] at h
  simp only [V.ren, renL_flat a h.1, renL_flat b h.2]
 | .nilf, _ => rfl
 | .agg cs, h => by simp only [V.ren, renL_flat cs h]
 | .tup xs, h => by simp only [V.ren, renL_flat xs h]
 | .nilm, _ => rfl
 | .mp _, h => by simp [V.refs] at h
 | .nili, _ => rfl
 | .ifc t v, h => by simp only [V.ren, ren_flat v h]
 | .gv .., h => by simp [V.refs] at h
 | .pv _, _ => rfl
theorem renL_flat {σ : Nat → Nat} : ∀ vs : List V, refsL vs = [] → renL σ vs = vs
 | [], _ => rfl
 | v :: vs, h => by
  simp only [refsL, List.append_eq_nil_iff] at h
  simp only [renL, ren_flat v h.1, renL_flat vs h.2]
end
section
variable {S : Tab}
mutual
def A.ren (σ : Nat → Nat) : A S.T → A S.T
 | .raw v => .raw (v.ren σ)
 | .dat c x => .dat c x
 | .ag cs => .ag (A.rens σ cs)
 | .tup xs => .tup (A.rens σ xs)
 | .rh sz k n => .rh sz (σ k) n
 | .rp k L i off sz => .rp (σ k) L i off sz
 | .vp c x off => .vp c x off
 | .fn f a b => .fn f (A.rens σ a) (A.rens σ b)
 | .ifc t a => .ifc t (a.ren σ)
def A.rens (σ : Nat → Nat) : List (A S.T) → List (A S.T)
 | [] => []
 | a :: r => a.ren σ :: A.rens σ r
end
def OA.ren (σ : Nat → Nat) : OA S.T → OA S.T
 | .box t cs => .box t (A.rens σ cs)
 | o => o
def rhA (σ : Nat → Nat) (F : AH S.T) : AH S.T := F.map fun p => (σ p.1, p.2.ren σ)
mutual
theorem ren_v (hS : S.OK) {σ : Nat → Nat} : ∀ a : A S.T, (a.ren σ).v = a.v.ren σ
 | .raw _ => by simp only [A.ren, A.v]
 | .dat c x => by simp only [A.ren, A.v]; exact (ren_flat _ (valC_refs hS c x)).symm
 | .ag cs => by simp only [A.ren, A.v, V.ren, rens_vs hS cs]
 | .tup xs => by simp only [A.ren, A.v, V.ren, rens_vs hS xs]
 | .rh .. => by simp only [A.ren, A.v, V.ren]
 | .rp .. => by simp only [A.ren, A.v, V.ren]
 | .vp .. => by simp only [A.ren, A.v, V.ren]
 | .fn f a b => by simp only [A.ren, A.v, V.ren, rens_vs hS a, rens_vs hS b]
 | .ifc t a => by simp only [A.ren, A.v, V.ren, ren_v hS a]
theorem rens_vs (hS : S.OK) {σ : Nat → Nat} : ∀ l : List (A S.T), A.vs (A.rens σ l) = renL σ (A.vs l)
 | [] => by simp only [A.rens, A.vs, renL]
 | a :: r => by simp only [A.rens, A.vs, renL, ren_v hS a, rens_vs hS r]
end
theorem oren_o (hS : S.OK) {σ : Nat → Nat} : ∀ o : OA S.T, (o.ren σ).o = o.o.ren σ
 | .box t cs => by simp only [OA.ren, OA.o, Obj.ren, rens_vs hS]
 | .row .. => rfl
 | .map .. => rfl
 | .rw i => by simp only [OA.ren, OA.o, hS.rren]

structure Ct (S : Tab) where
 ins : List Tp
 hin : List (Nat × TO)
 ci : List TC
 out : Tp
 hout : List (Nat × TO)
 co : List TC
 alt : Bool
 fn : HL S.T ci → Option (HL S.T co)
def Ct.OK (P : Program) (f : Nat) (c : Ct S) : Prop := ∀ x r, c.fn x = some r →
 FnA P f (A.vs (Tp.puts c.hin (toDy c.ci x) c.ins)) (hV (putH c.hin (toDy c.ci x))) (c.out.put c.hout (toDy c.ci x ++ toDy c.co r)).v (hV (putH c.hout (toDy c.ci x ++ toDy c.co r)))
structure CtP (S : Tab) (pc : List TC) where
 ins : List Tp
 hin : List (Nat × TO)
 ci : List TC
 fn : HL S.T ci → Option (HL S.T pc)
def CtP.OK {pc : List TC} (P : Program) (pv : HL S.T pc → Value) (f : Nat) (c : CtP S pc) : Prop := ∀ x q, c.fn x = some q →
 FnP P f (A.vs (Tp.puts c.hin (toDy c.ci x) c.ins)) (hV (putH c.hin (toDy c.ci x))) (pv q)
def Cts (S : Tab) := List (Nat × Ct S)
def Cts.OK (P : Program) : List (Nat × Ct S) → Prop
 | [] => True
 | p :: r => p.2.OK P p.1 ∧ Cts.OK P r
end
mutual
def Tp.names : Tp → List Nat
 | .ptr k _ => [k]
 | .mp k => [k]
 | .row _ k => [k]
 | .ag l => Tp.namesL l
 | .tup l => Tp.namesL l
 | .fn _ a b => Tp.namesL a ++ Tp.namesL b
 | .ifc _ a => a.names
 | _ => []
def Tp.namesL : List Tp → List Nat
 | [] => []
 | t :: r => t.names ++ Tp.namesL r
end
def TO.names : TO → List Nat
 | .box _ cs => Tp.namesL cs
 | _ => []
section
variable {S : Tab}
mutual
theorem put_refs (hS : S.OK) {hp : List (Nat × TO)} {ds : List (Dy S.T)} : ∀ t : Tp, (t.put hp ds).v.refs = t.names
 | .nilp => by simp only [Tp.put, A.v, V.refs, Tp.names]
 | .nils => by simp only [Tp.put, A.v, V.refs, Tp.names]
 | .nilf => by simp only [Tp.put, A.v, V.refs, Tp.names]
 | .nilm => by simp only [Tp.put, A.v, V.refs, Tp.names]
 | .nili => by simp only [Tp.put, A.v, V.refs, Tp.names]
 | .no => by simp only [Tp.put, A.v, V.refs, Tp.names]
 | .und => by simp only [Tp.put, A.v, V.refs, Tp.names]
 | .d c j => by simp only [Tp.put, A.v, Tp.names]; exact valC_refs hS c _
 | .ptr .. => by simp only [Tp.put, A.v, V.refs, Tp.names]
 | .mp _ => by simp only [Tp.put, A.v, V.refs, Tp.names]
 | .row .. => by simp only [Tp.put, A.v, V.refs, Tp.names]
 | .ag l => by simp only [Tp.put, A.v, V.refs, Tp.names]; exact puts_refs hS l
 | .tup l => by simp only [Tp.put, A.v, V.refs, Tp.names]; exact puts_refs hS l
 | .fn f a b => by simp only [Tp.put, A.v, V.refs, Tp.names, puts_refs hS a, puts_refs hS b]
 | .ifc t a => by simp only [Tp.put, A.v, V.refs, Tp.names]; exact put_refs hS a
theorem puts_refs (hS : S.OK) {hp : List (Nat × TO)} {ds : List (Dy S.T)} : ∀ l : List Tp, refsL (A.vs (Tp.puts hp ds l)) = Tp.namesL l
 | [] => by simp only [Tp.puts, A.vs, refsL, Tp.namesL]
 | t :: r => by simp only [Tp.puts, A.vs, refsL, Tp.namesL, put_refs hS t, puts_refs hS r]
end
def closedT (ins : List Tp) (hin : List (Nat × TO)) : Bool := (Tp.namesL ins).all (hin.map (·.1)).contains && hin.all fun p => p.2.names.all (hin.map (·.1)).contains
theorem putH_keys {hp : List (Nat × TO)} {ds : List (Dy S.T)} : keys (hV (putH (S := S) hp ds)) = hp.map (·.1) := by
 simp only [hV_keys, putH, List.map_map]
 rfl
theorem closed_put (hS : S.OK) {ins : List Tp} {hin : List (Nat × TO)} {ds : List (Dy S.T)} (h : closedT ins hin = true) : EV.closedB (A.vs (Tp.puts hin ds ins)) (hV (putH hin ds)) = true := by
 simp only [closedT, Bool.and_eq_true] at h
 simp only [EV.closedB, Bool.and_eq_true, puts_refs hS, putH_keys]
 refine ⟨h.1, List.all_eq_true.2 fun p hp => ?_⟩
 simp only [hV, putH, List.map_map, List.mem_map] at hp
 obtain ⟨q, hq, rfl⟩ := hp
 have := (List.all_eq_true.1 h.2) q hq
 obtain ⟨k, o⟩ := q
 cases o with
 | box t cs => simpa [OA.o, TO.put, Obj.refs, puts_refs hS, TO.names] using this
 | row => rfl
 | map => rfl
 | rw i => show ((S.ro i).refs.all _) = true; rw [hS.rref]; rfl
end
end Go.EQ
namespace Go.EQ
open Go Go.RowKit Go.Eng Go.EV

section
variable {S : Tab}
def Sat (ds : List (Dy S.T)) (ps : List (Nat × Dy S.T)) : Prop := ∀ p ∈ ps, dget ds p.1 p.2.1 = p.2.2
def Nam (σ : Nat → Nat) (ns : List (Nat × Nat)) : Prop := ∀ p ∈ ns, σ p.1 = p.2
theorem Sat.left {ds : List (Dy S.T)} {a b : List (Nat × Dy S.T)} (h : Sat ds (a ++ b)) : Sat ds a := fun p hp => h p (List.mem_append_left _ hp)
theorem Sat.right {ds : List (Dy S.T)} {a b : List (Nat × Dy S.T)} (h : Sat ds (a ++ b)) : Sat ds b := fun p hp => h p (List.mem_append_right _ hp)
theorem Nam.left {σ : Nat → Nat} {a b : List (Nat × Nat)} (h : Nam σ (a ++ b)) : Nam σ a := fun p hp => h p (List.mem_append_left _ hp)
theorem Nam.right {σ : Nat → Nat} {a b : List (Nat × Nat)} (h : Nam σ (a ++ b)) : Nam σ b := fun p hp => h p (List.mem_append_right _ hp)
def RowsOK (hp : List (Nat × TO)) (ds : List (Dy S.T)) (σ : Nat → Nat) (H : AH S.T) : Prop := ∀ k c j, rowJ hp k = some (c, j) → ∀ e c' fz l w, H.get (σ k) = some (.row e c' fz l w) → List.length (α := c.ty S.T) (dget ds j (.l c)) = l.length
theorem rlen_of {ds : List (Dy S.T)} : ∀ {hp : List (Nat × TO)} {k : Nat} {c : TC} {j : Nat}, rowJ hp k = some (c, j) → rlen ds hp k = List.length (α := c.ty S.T) (dget ds j (.l c))
 | (k', .row e c' j' fz) :: r, k, c, j, h => by
  simp only [rowJ] at h
  simp only [rlen]
  cases hb : Nat.beq k k' with
  | true => rw [hb] at h; cases h; rfl
  | false => rw [hb] at h; exact rlen_of h
 | (k', .box ..) :: r, k, c, j, h => rlen_of (hp := r) h
 | (k', .map ..) :: r, k, c, j, h => rlen_of (hp := r) h
 | (k', .rw _) :: r, k, c, j, h => rlen_of (hp := r) h
theorem datX_v {c : TC} {a : A S.T} {x : c.ty S.T} (h : datX c a = some x) : a.v = valC S c x := by
 unfold datX at h
 split at h
 ·split at h
  ·rename_i e
   subst e
   cases h; rfl
  ·cases h
 ·cases c <;> first | (cases h; done) | (cases h; rfl)
 ·cases h
variable {hp : List (Nat × TO)} {ds : List (Dy S.T)} {σ : Nat → Nat} {H : AH S.T}
theorem row_read {sz k sz' k' n : Nat} {rd : Rd S.T} (h : Tp.read hp true H (.row sz k) (.rh sz' k' n) = some rd) (hn : Nam σ rd.ns) (he : EqAll rd.eq) (hr : RowsOK hp ds σ H) : (A.rh (T := S.T) sz' k' n) = ((Tp.row sz k).put hp ds).ren σ := by
 simp only [Tp.read] at h
 split at h
 ·rename_i l w q hg hq
  cases hb : Nat.beq sz sz' with
  | false => rw [hb] at h; cases h
  | true =>
   rw [hb] at h; cases h
   have e1 := Nat.eq_of_beq_eq_true hb
   subst e1
   have e2 : σ k = k' := hn _ (List.mem_singleton.2 rfl)
   have e3 : n = l.length := (he _ (List.mem_singleton.2 rfl)).trans w.h.symm
   obtain ⟨c, j⟩ := q
   simp only [Tp.put, A.ren, rlen_of hq, e2]
   rw [hr k c j hq _ _ _ _ _ (by rw [e2]; exact hg), e3]
 ·cases h
mutual
theorem read_ex (hS : S.OK) : ∀ (t : Tp) (a : A S.T) (rd : Rd S.T), Tp.read hp true H t a = some rd → Sat ds rd.ps → Nam σ rd.ns → EqAll rd.eq → RowsOK hp ds σ H → a.v = ((t.put hp ds).ren σ).v ∧ rd.fz = []
 | .d c j, a, rd, h, hs, hn, he, hr => by
  simp only [Tp.read, cond_true] at h
  split at h
  ·rename_i x e
   cases h
   have h1 : dget ds j c = x := hs _ (List.mem_singleton.2 rfl)
   refine ⟨?_, rfl⟩
   simp only [Tp.put, A.ren, h1]
   exact datX_v e
  ·cases h
 | .row sz k, a, rd, h, hs, hn, he, hr => by
  cases a <;> first | (simp only [Tp.read] at h; cases h; done) | skip
  rename_i sz' k' n
  refine ⟨congrArg A.v (row_read h hn he hr), ?_⟩
  simp only [Tp.read] at h
  split at h
  ·cases hb : Nat.beq sz sz' with
   | false => rw [hb] at h; cases h
   | true => rw [hb] at h; cases h; rfl
  ·cases h
 | .nilp, a, rd, h, hs, hn, he, hr => by
  cases a <;> first | (simp only [Tp.read] at h; cases h; done) | skip
  rename_i v
  cases v <;> first | (simp only [Tp.read] at h; cases h; done) | skip
  simp only [Tp.read] at h
  cases h
  exact ⟨by simp only [Tp.put, A.ren, A.v, V.ren], rfl⟩
 | .nils, a, rd, h, hs, hn, he, hr => by
  cases a <;> first | (simp only [Tp.read] at h; cases h; done) | skip
  rename_i v
  cases v <;> first | (simp only [Tp.read] at h; cases h; done) | skip
  simp only [Tp.read] at h
  cases h
  exact ⟨by simp only [Tp.put, A.ren, A.v, V.ren], rfl⟩
 | .nilf, a, rd, h, hs, hn, he, hr => by
  cases a <;> first | (simp only [Tp.read] at h; cases h; done) | skip
  rename_i v
  cases v <;> first | (simp only [Tp.read] at h; cases h; done) | skip
  simp only [Tp.read] at h
  cases h
  exact ⟨by simp only [Tp.put, A.ren, A.v, V.ren], rfl⟩
 | .nilm, a, rd, h, hs, hn, he, hr => by
  cases a <;> first | (simp only [Tp.read] at h; cases h; done) | skip
  rename_i v
  cases v <;> first | (simp only [Tp.read] at h; cases h; done) | skip
  simp only [Tp.read] at h
  cases h
  exact ⟨by simp only [Tp.put, A.ren, A.v, V.ren], rfl⟩
 | .nili, a, rd, h, hs, hn, he, hr => by
  cases a <;> first | (simp only [Tp.read] at h; cases h; done) | skip
  rename_i v
  cases v <;> first | (simp only [Tp.read] at h; cases h; done) | skip
  simp only [Tp.read] at h
  cases h
  exact ⟨by simp only [Tp.put, A.ren, A.v, V.ren], rfl⟩
 | .no, a, rd, h, hs, hn, he, hr => by
  cases a <;> first | (simp only [Tp.read] at h; cases h; done) | skip
  rename_i v
  cases v <;> first | (simp only [Tp.read] at h; cases h; done) | skip
  simp only [Tp.read] at h
  cases h
  exact ⟨by simp only [Tp.put, A.ren, A.v, V.ren], rfl⟩
 | .und, a, rd, h, hs, hn, he, hr => by cases a <;> (simp only [Tp.read] at h; cases h)
 | .ptr k off, a, rd, h, hs, hn, he, hr => by
  cases a <;> first | (simp only [Tp.read] at h; cases h; done) | skip
  rename_i v
  cases v <;> first | (simp only [Tp.read] at h; cases h; done) | skip
  rename_i k' L off'
  cases L with
  | succ L => simp only [Tp.read] at h; cases h
  | zero =>
   simp only [Tp.read] at h
   cases hb : Nat.beq off off' with
   | false => rw [hb] at h; cases h
   | true =>
    rw [hb] at h; cases h
    have e1 := Nat.eq_of_beq_eq_true hb
    subst e1
    have e2 : σ k = k' := hn _ (List.mem_singleton.2 rfl)
    exact ⟨by simp only [Tp.put, A.ren, A.v, V.ren, e2], rfl⟩
 | .mp k, a, rd, h, hs, hn, he, hr => by
  cases a <;> first | (simp only [Tp.read] at h; cases h; done) | skip
  rename_i v
  cases v <;> first | (simp only [Tp.read] at h; cases h; done) | skip
  rename_i k'
  simp only [Tp.read] at h
  cases h
  have e2 : σ k = k' := hn _ (List.mem_singleton.2 rfl)
  exact ⟨by simp only [Tp.put, A.ren, A.v, V.ren, e2], rfl⟩
 | .ag l, a, rd, h, hs, hn, he, hr => by
  cases a <;> first | (simp only [Tp.read] at h; cases h; done) | skip
  rename_i l'
  simp only [Tp.read] at h
  obtain ⟨h1, h2⟩ := reads_ex hS l l' rd h hs hn he hr
  exact ⟨by simp only [Tp.put, A.ren, A.v, h1], h2⟩
 | .tup l, a, rd, h, hs, hn, he, hr => by
  cases a <;> first | (simp only [Tp.read] at h; cases h; done) | skip
  rename_i l'
  simp only [Tp.read] at h
  obtain ⟨h1, h2⟩ := reads_ex hS l l' rd h hs hn he hr
  exact ⟨by simp only [Tp.put, A.ren, A.v, h1], h2⟩
 | .fn f x y, a, rd, h, hs, hn, he, hr => by
  cases a <;> first | (simp only [Tp.read] at h; cases h; done) | skip
  rename_i f' x' y'
  simp only [Tp.read] at h
  cases hb : Nat.beq f f' with
  | false => rw [hb] at h; cases h
  | true =>
   rw [hb] at h
   have e1 := Nat.eq_of_beq_eq_true hb
   subst e1
   dsimp only [cond_true] at h
   split at h
   ·rename_i r1 g1
    split at h
    ·rename_i r2 g2
     cases h
     obtain ⟨h1, h2⟩ := reads_ex hS x x' r1 g1 hs.left hn.left he.left hr
     obtain ⟨h3, h4⟩ := reads_ex hS y y' r2 g2 hs.right hn.right he.right hr
     exact ⟨by simp only [Tp.put, A.ren, A.v, h1, h3], by simp only [Rd.app, h2, h4, List.append_nil]⟩
    ·cases h
   ·cases h
 | .ifc tt x, a, rd, h, hs, hn, he, hr => by
  cases a <;> first | (simp only [Tp.read] at h; cases h; done) | skip
  rename_i t' x'
  simp only [Tp.read] at h
  cases hb : Nat.beq tt t' with
  | false => rw [hb] at h; cases h
  | true =>
   rw [hb] at h
   have e1 := Nat.eq_of_beq_eq_true hb
   subst e1
   obtain ⟨h1, h2⟩ := read_ex hS x x' rd h hs hn he hr
   exact ⟨by simp only [Tp.put, A.ren, A.v, h1], h2⟩
theorem reads_ex (hS : S.OK) : ∀ (ts : List Tp) (as : List (A S.T)) (rd : Rd S.T), Tp.reads hp true H ts as = some rd → Sat ds rd.ps → Nam σ rd.ns → EqAll rd.eq → RowsOK hp ds σ H → A.vs as = A.vs (A.rens σ (Tp.puts hp ds ts)) ∧ rd.fz = []
 | [], [], rd, h, hs, hn, he, hr => by
  simp only [Tp.reads] at h
  cases h
  exact ⟨by simp only [Tp.puts, A.rens], rfl⟩
 | t :: ts, a :: as, rd, h, hs, hn, he, hr => by
  simp only [Tp.reads] at h
  split at h
  ·rename_i r1 g1
   split at h
   ·rename_i r2 g2
    cases h
    obtain ⟨h1, h2⟩ := read_ex hS t a r1 g1 hs.left hn.left he.left hr
    obtain ⟨h3, h4⟩ := reads_ex hS ts as r2 g2 hs.right hn.right he.right hr
    exact ⟨by simp only [Tp.puts, A.rens, A.vs, h1, h3], by simp only [Rd.app, h2, h4, List.append_nil]⟩
   ·cases h
  ·cases h
 | [], _ :: _, _, h, _, _, _, _ => by simp only [Tp.reads] at h; cases h
 | _ :: _, [], _, h, _, _, _, _ => by simp only [Tp.reads] at h; cases h
end
theorem read_raw {t : Tp} (a : A S.T) (ht : t = .nilp ∨ t = .nils ∨ t = .nilf ∨ t = .nilm ∨ t = .nili ∨ t = .no) : Tp.read hp true H t a = Tp.read hp false H t a := by
 rcases ht with rfl | rfl | rfl | rfl | rfl | rfl <;> (cases a <;> first | (simp only [Tp.read]; done) | (rename_i v; cases v <;> simp only [Tp.read]))
mutual
theorem read_view (hS : S.OK) {R : Heap} : ∀ (t : Tp) (a : A S.T) (rd : Rd S.T), Tp.read hp false H t a = some rd → Sat ds rd.ps → Nam σ rd.ns → EqAll rd.eq → RowsOK hp ds σ H → RowsIn H R rd.fz → View R a.v ((t.put hp ds).ren σ).v
 | .d c j, a, rd, h, hs, hn, he, hr, hR => by
  simp only [Tp.read, cond_false] at h
  split at h
  ·rename_i rx e
   cases h
   have h1 : dget ds j c = rx.x := hs _ (List.mem_singleton.2 rfl)
   simp only [Tp.put, A.ren, h1]
   exact dataOf_view hS e he hR
  ·cases h
 | .ag l, a, rd, h, hs, hn, he, hr, hR => by
  cases a <;> first | (simp only [Tp.read] at h; cases h; done) | skip
  rename_i l'
  simp only [Tp.read] at h
  have := reads_view hS l l' rd h hs hn he hr hR
  simp only [Tp.put, A.ren, A.v]
  exact .agg this
 | .tup l, a, rd, h, hs, hn, he, hr, hR => by
  rw [(read_ex hS (.tup l) a rd (by rw [← h]; cases a <;> simp only [Tp.read]) hs hn he hr).1]; exact .same _
 | .nilp, a, rd, h, hs, hn, he, hr, hR => by rw [(read_ex hS .nilp a rd (by rw [← h]; exact read_raw a (by simp)) hs hn he hr).1]; exact .same _
 | .nils, a, rd, h, hs, hn, he, hr, hR => by rw [(read_ex hS .nils a rd (by rw [← h]; exact read_raw a (by simp)) hs hn he hr).1]; exact .same _
 | .nilf, a, rd, h, hs, hn, he, hr, hR => by rw [(read_ex hS .nilf a rd (by rw [← h]; exact read_raw a (by simp)) hs hn he hr).1]; exact .same _
 | .nilm, a, rd, h, hs, hn, he, hr, hR => by rw [(read_ex hS .nilm a rd (by rw [← h]; exact read_raw a (by simp)) hs hn he hr).1]; exact .same _
 | .nili, a, rd, h, hs, hn, he, hr, hR => by rw [(read_ex hS .nili a rd (by rw [← h]; exact read_raw a (by simp)) hs hn he hr).1]; exact .same _
 | .no, a, rd, h, hs, hn, he, hr, hR => by rw [(read_ex hS .no a rd (by rw [← h]; exact read_raw a (by simp)) hs hn he hr).1]; exact .same _
 | .ptr k off, a, rd, h, hs, hn, he, hr, hR => by rw [(read_ex hS (.ptr k off) a rd (by rw [← h]; cases a <;> first | (simp only [Tp.read]; done) | (rename_i v; cases v <;> first | (simp only [Tp.read]; done) | (rename_i q L off'; cases L <;> simp only [Tp.read]))) hs hn he hr).1]; exact .same _
 | .mp k, a, rd, h, hs, hn, he, hr, hR => by rw [(read_ex hS (.mp k) a rd (by rw [← h]; cases a <;> first | (simp only [Tp.read]; done) | (rename_i v; cases v <;> simp only [Tp.read])) hs hn he hr).1]; exact .same _
 | .row sz k, a, rd, h, hs, hn, he, hr, hR => by rw [(read_ex hS (.row sz k) a rd (by rw [← h]; cases a <;> simp only [Tp.read]) hs hn he hr).1]; exact .same _
 | .fn f x y, a, rd, h, hs, hn, he, hr, hR => by rw [(read_ex hS (.fn f x y) a rd (by rw [← h]; cases a <;> simp only [Tp.read]) hs hn he hr).1]; exact .same _
 | .ifc f x, a, rd, h, hs, hn, he, hr, hR => by rw [(read_ex hS (.ifc f x) a rd (by rw [← h]; cases a <;> simp only [Tp.read]) hs hn he hr).1]; exact .same _
theorem reads_view (hS : S.OK) {R : Heap} : ∀ (ts : List Tp) (as : List (A S.T)) (rd : Rd S.T), Tp.reads hp false H ts as = some rd → Sat ds rd.ps → Nam σ rd.ns → EqAll rd.eq → RowsOK hp ds σ H → RowsIn H R rd.fz → ViewL R (A.vs as) (A.vs (A.rens σ (Tp.puts hp ds ts)))
 | [], [], rd, h, hs, hn, he, hr, hR => by
  simp only [Tp.puts, A.rens, A.vs]
  exact .nil
 | t :: ts, a :: as, rd, h, hs, hn, he, hr, hR => by
  simp only [Tp.reads] at h
  split at h
  ·rename_i r1 g1
   split at h
   ·rename_i r2 g2
    cases h
    simp only [Tp.puts, A.rens, A.vs]
    exact .cons (read_view hS t a r1 g1 hs.left hn.left he.left hr hR.left) (reads_view hS ts as r2 g2 hs.right hn.right he.right hr hR.right)
   ·cases h
  ·cases h
 | [], _ :: _, _, h, _, _, _, _, _ => by simp only [Tp.reads] at h; cases h
 | _ :: _, [], _, h, _, _, _, _, _ => by simp only [Tp.reads] at h; cases h
end
end
end Go.EQ
namespace Go.EQ
open Go Go.RowKit Go.Eng Go.EV

section
variable {S : Tab}
def putL (hp : List (Nat × TO)) (ds : List (Dy S.T)) (l : List (Nat × TO)) : AH S.T := l.map fun p => (p.1, p.2.put hp ds)
variable {hp : List (Nat × TO)} {ds : List (Dy S.T)} {σ : Nat → Nat} {H : AH S.T}
theorem rowJ_mem : ∀ {hp : List (Nat × TO)} {k : Nat} {c : TC} {j : Nat}, rowJ hp k = some (c, j) → ∃ e fz, (k, TO.row e c j fz) ∈ hp
 | (k', .row e c' j' fz) :: r, k, c, j, h => by
  simp only [rowJ] at h
  cases hb : Nat.beq k k' with
  | true =>
   rw [hb] at h; cases h
   have := Nat.eq_of_beq_eq_true hb
   subst this
   exact ⟨e, fz, List.mem_cons_self ..⟩
  | false =>
   rw [hb] at h
   obtain ⟨e, fz, h1⟩ := rowJ_mem h
   exact ⟨e, fz, List.mem_cons_of_mem _ h1⟩
 | (k', .box ..) :: r, k, c, j, h => by
  obtain ⟨e, fz, h1⟩ := rowJ_mem (hp := r) h
  exact ⟨e, fz, List.mem_cons_of_mem _ h1⟩
 | (k', .map ..) :: r, k, c, j, h => by
  obtain ⟨e, fz, h1⟩ := rowJ_mem (hp := r) h
  exact ⟨e, fz, List.mem_cons_of_mem _ h1⟩
 | (k', .rw _) :: r, k, c, j, h => by
  obtain ⟨e, fz, h1⟩ := rowJ_mem (hp := r) h
  exact ⟨e, fz, List.mem_cons_of_mem _ h1⟩
theorem nlook_mem : ∀ {ns : List (Nat × Nat)} {k k' : Nat}, nlook ns k = some k' → (k, k') ∈ ns
 | (a, b) :: r, k, k', h => by
  simp only [nlook] at h
  cases hb : Nat.beq k a with
  | true =>
   rw [hb] at h; cases h
   have := Nat.eq_of_beq_eq_true hb
   subst this
   exact List.mem_cons_self ..
  | false => rw [hb] at h; exact List.mem_cons_of_mem _ (nlook_mem h)
theorem row_oread {e : Nat} {c : TC} {j : Nat} {fz : Bool} {o : OA S.T} {rd : Rd S.T} (h : TO.read hp H (.row e c j fz) o = some rd) (hs : Sat ds rd.ps) : ∃ f l w, o = .row e c f l w ∧ dget ds j (.l c) = l ∧ fzB fz f = true ∧ rd.fz = [] := by
 cases o <;> first | (simp only [TO.read] at h; cases h; done) | skip
 rename_i e' c' f l wl
 simp only [TO.read] at h
 cases hb : Nat.beq e e' && fzB fz f with
 | false => rw [hb] at h; cases h
 | true =>
  rw [hb] at h
  simp only [Bool.and_eq_true] at hb
  have e1 := Nat.eq_of_beq_eq_true hb.1
  subst e1
  dsimp only [cond_true] at h
  split at h
  ·rename_i e2
   subst e2
   cases h
   exact ⟨f, l, wl, rfl, hs _ (List.mem_singleton.2 rfl), hb.2, rfl⟩
  ·cases h
theorem oread_ok (hS : S.OK) {to : TO} {o : OA S.T} {rd : Rd S.T} (h : TO.read hp H to o = some rd) (hs : Sat ds rd.ps) (hn : Nam σ rd.ns) (he : EqAll rd.eq) (hr : RowsOK hp ds σ H) : o.o = ((to.put hp ds).ren σ).o ∧ rd.fz = [] := by
 cases to with
 | box t cs =>
  cases o <;> first | (simp only [TO.read] at h; cases h; done) | skip
  rename_i t' cs'
  simp only [TO.read] at h
  cases hb : Nat.beq t t' with
  | false => rw [hb] at h; cases h
  | true =>
   rw [hb] at h
   have e1 := Nat.eq_of_beq_eq_true hb
   subst e1
   obtain ⟨h1, h2⟩ := reads_ex hS cs cs' rd h hs hn he hr
   exact ⟨by simp only [OA.o, TO.put, OA.ren, h1], h2⟩
 | row e c j fz =>
  obtain ⟨f, l, w, rfl, e1, e2, e3⟩ := row_oread h hs
  refine ⟨?_, e3⟩
  simp only [TO.put, OA.ren, e1, OA.o]
  cases fz <;> cases f <;> first | (cases e2; done) | rfl
 | map kc ec j =>
  cases o <;> first | (simp only [TO.read] at h; cases h; done) | skip
  rename_i kc' ec' l
  simp only [TO.read] at h
  split at h
  ·rename_i e
   obtain ⟨rfl, rfl⟩ := e
   cases h
   have h1 : dget ds j (.m kc' ec') = l := hs _ (List.mem_singleton.2 rfl)
   exact ⟨by simp only [TO.put, OA.ren, h1], rfl⟩
  ·cases h
 | rw i =>
  cases o <;> first | (simp only [TO.read] at h; cases h; done) | skip
  rename_i i'
  simp only [TO.read] at h
  cases hb : Nat.beq i i' with
  | false => rw [hb] at h; cases h
  | true =>
   rw [hb] at h
   have e1 := Nat.eq_of_beq_eq_true hb
   subst e1
   cases h
   exact ⟨rfl, rfl⟩
theorem readH_rows : ∀ {l : List (Nat × TO)} {ns : List (Nat × Nat)} {rd : Rd S.T}, readH hp H ns l = some rd → Sat ds rd.ps → Nam σ ns → Nam σ rd.ns → ∀ k e c j fz, (k, TO.row e c j fz) ∈ l → ∃ f l' w, H.get (σ k) = some (.row e c f l' w) ∧ dget ds j (.l c) = l'
 | [], ns, rd, h, hs, h1, h2, k, e, c, j, fz, hm => by cases hm
 | (k0, o) :: r, ns, rd, h, hs, h1, h2, k, e, c, j, fz, hm => by
  simp only [readH] at h
  split at h
  ·rename_i k' hk
   split at h
   ·rename_i o' ho
    split at h
    ·rename_i x hx
     split at h
     ·rename_i y hy
      cases h
      rcases List.mem_cons.1 hm with e1 | hm
      ·cases e1
       obtain ⟨f, l', w, rfl, e2, _, _⟩ := row_oread hx hs.left
       have e3 := h1 _ (nlook_mem hk)
       exact ⟨f, l', w, by rw [e3]; exact ho, e2⟩
      ·exact readH_rows hy hs.right (fun p hp => (List.mem_append.1 hp).elim (h1 p) (h2.left p)) h2.right k e c j fz hm
     ·cases h
    ·cases h
   ·cases h
  ·cases h
theorem rowsOK_of {ns : List (Nat × Nat)} {rd : Rd S.T} (h : readH hp H ns hp = some rd) (hs : Sat ds rd.ps) (h1 : Nam σ ns) (h2 : Nam σ rd.ns) : RowsOK hp ds σ H := fun k c j hj e c' fz l wl hg => by
 obtain ⟨e0, fz0, hm⟩ := rowJ_mem hj
 obtain ⟨f, l', w, g1, g2⟩ := readH_rows h hs h1 h2 k e0 c j fz0 hm
 rw [hg] at g1
 cases g1
 rw [g2]
theorem readH_sel (hS : S.OK) : ∀ {l : List (Nat × TO)} {ns : List (Nat × Nat)} {rd : Rd S.T}, readH hp H ns l = some rd → Sat ds rd.ps → Nam σ ns → Nam σ rd.ns → EqAll rd.eq → RowsOK hp ds σ H → ∀ F, selA (l.map fun p => σ p.1) H = some F → hV F = renH σ (hV (putL hp ds l)) ∧ rd.fz = []
 | [], ns, rd, h, hs, h1, h2, he, hr, F, hF => by
  simp only [readH] at h
  cases h
  cases selA_nil hF
  exact ⟨rfl, rfl⟩
 | (k0, o) :: r, ns, rd, h, hs, h1, h2, he, hr, F, hF => by
  simp only [readH] at h
  split at h
  ·rename_i k' hk
   split at h
   ·rename_i o' ho
    split at h
    ·rename_i x hx
     split at h
     ·rename_i y hy
      cases h
      have e3 : σ k0 = k' := h1 _ (nlook_mem hk)
      simp only [List.map_cons, selA, e3, ho] at hF
      split at hF
      ·rename_i F' hF'
       cases hF
       obtain ⟨g1, g2⟩ := oread_ok hS hx hs.left h2.left he.left hr
       obtain ⟨g3, g4⟩ := readH_sel hS hy hs.right (fun p hp => (List.mem_append.1 hp).elim (h1 p) (h2.left p)) h2.right he.right hr F' hF'
       refine ⟨?_, by simp only [Rd.app, g2, g4, List.append_nil]⟩
       have g5 : ((o.put hp ds).ren σ).o = (o.put hp ds).o.ren σ := oren_o hS _
       simp only [hV, List.map_cons, renH, putL] at g3 ⊢
       rw [g3, g1, g5, e3]
      ·cases hF
     ·cases h
    ·cases h
   ·cases h
  ·cases h
def dedup : List Nat → List Nat
 | [] => []
 | k :: r => bif memB k r then dedup r else k :: dedup r
def newNames (d : Nat) (hin hout : List (Nat × TO)) : List (Nat × Nat) := (((hout.map (·.1)).filter fun k => !((hin.map (·.1)).contains k)).zipIdx).map fun p => (p.1, 3000000 + d * 100 + p.2)
def OA.frz : OA S.T → OA S.T
 | .row e c _ l w => .row e c .all l w
 | o => o
def rowB : OA S.T → Bool
 | .row .. => true
 | _ => false
def frzL (F : AH S.T) : AH S.T := F.map fun p => (p.1, p.2.frz)
def globN : List (Nat × TO) → List (Nat × Nat)
 | [] => []
 | (k, .rw (_ + 1)) :: r => (k, k) :: globN r
 | _ :: r => globN r
def Ct.chk (c : Ct S) (d : Nat) (rd : Rd S.T) (fz : List Nat) (R : AH S.T) : Bool :=
 nodupB (rd.ps.map (·.1)) && (rd.ps.all (fun p => Nat.ble (p.1 + 1) c.ci.length) && ((rd.ns ++ globN c.hin).all (fun p => Nat.beq (asg (rd.ns ++ newNames d c.hin c.hout) p.1) p.2) &&
  (nodupB ((c.hout.map (·.1)).map (asg (rd.ns ++ newNames d c.hin c.hout))) && ((c.hin.map (·.1)).all (c.hout.map (·.1)).contains && (closedT c.ins c.hin && (R.all (fun p => rowB p.2) &&
  ((c.hout.map (fun p => asg (rd.ns ++ newNames d c.hin c.hout) p.1)).all fun k => !(R.has k))))))))
def bareT1 : Tp → Bool
 | .d (.i _) _ => true
 | .d .b _ => true
 | .d .s _ => true
 | _ => false
def bareT : Tp → Bool
 | .tup l => l.all bareT1
 | t => bareT1 t
def Ct.isB (c : Ct S) : Bool := c.hin.isEmpty && (c.hout.isEmpty && bareT c.out)
def Ct.call (c : Ct S) (H : AH S.T) (d : Nat) (vs : List (A S.T)) : Option (OR S) := match Tp.reads c.hin false H c.ins vs with
 | some r1 => match readH c.hin H (r1.ns ++ globN c.hin) c.hin with
  | some r2 => match picks (r1.app r2).ps 0 c.ci, selA (dedup r1.fz) H with
   | some x, some R =>
    bif c.chk d (r1.app r2) (dedup r1.fz) R
    then bif c.isB then some (.eqs (r1.app r2).eq (.bnd (c.fn x) [] (dedup r1.fz) fun r => some (c.out.put c.hout (toDy c.ci x ++ toDy c.co r), [])))
    else some (.eqs (r1.app r2).eq (.bnd (c.fn x) ((c.hin.map fun p => asg ((r1.app r2).ns ++ newNames d c.hin c.hout) p.1) ++ dedup r1.fz) [] fun r =>
     some ((c.out.put c.hout (toDy c.ci x ++ toDy c.co r)).ren (asg ((r1.app r2).ns ++ newNames d c.hin c.hout)), rhA (asg ((r1.app r2).ns ++ newNames d c.hin c.hout)) (putH c.hout (toDy c.ci x ++ toDy c.co r)) ++ frzL R)))
    else none
   | _, _ => none
  | none => none
 | none => none
theorem dedup_mem {k : Nat} : ∀ {l : List Nat}, k ∈ l → k ∈ dedup l
 | a :: r, h => by
  simp only [dedup]
  cases hb : memB a r with
  | true =>
   rw [cond_true]
   have ha : a ∈ r := by
    clear h
    induction r with
    | nil => cases hb
    | cons b r ih =>
     simp only [memB] at hb
     cases hc : Nat.beq a b with
     | true => rw [Nat.eq_of_beq_eq_true hc]; exact List.mem_cons_self ..
     | false => rw [hc] at hb; exact List.mem_cons_of_mem _ (ih hb)
   rcases List.mem_cons.1 h with rfl | h
   ·exact dedup_mem ha
   ·exact dedup_mem h
  | false =>
   rw [cond_false]
   rcases List.mem_cons.1 h with rfl | h
   ·exact List.mem_cons_self ..
   ·exact List.mem_cons_of_mem _ (dedup_mem h)
theorem frz_cons (p : Nat × EV.Obj) (F : Heap) : frz (p :: F) = frz [p] ++ frz F := by
 obtain ⟨k, o⟩ := p
 cases o <;> rfl
theorem frzL_frz (hS : S.OK) : ∀ {F : AH S.T}, hV (frzL F) = frz (hV F)
 | [] => rfl
 | (k, o) :: r => by
  have ih := frzL_frz hS (F := r)
  cases o with
  | rw i =>
   show (k, S.ro i) :: hV (frzL r) = frz ((k, S.ro i) :: hV r)
   rw [frz_cons, hS.rfrz, ih]; rfl
  | box t cs => simp only [frzL, hV, List.map_cons, OA.frz, OA.o, frz] at ih ⊢; rw [ih]
  | map kc ec l => simp only [frzL, hV, List.map_cons, OA.frz, OA.o, frz] at ih ⊢; rw [ih]
  | row e c f l w => simp only [frzL, hV, List.map_cons, OA.frz, OA.o, frz, Fz.n, List.length_map] at ih ⊢; rw [ih]
theorem frz_frz : ∀ {F : Heap}, frz (frz F) = frz F
 | [] => rfl
 | (k, .row t sz _ els) :: r => by simp only [frz, frz_frz (F := r)]
 | (k, .box t cs) :: r => by simp only [frz, frz_frz (F := r)]
 | (k, .map l) :: r => by simp only [frz, frz_frz (F := r)]
 | (k, .glob g t cs) :: r => by simp only [frz, frz_frz (F := r)]
 | (k, .nest g t sz0 pd0 ls0) :: r => by simp only [frz, frz_frz (F := r)]
 | (k, .gen g) :: r => by simp only [frz, frz_frz (F := r)]
theorem pick_sat : ∀ {ps : List (Nat × Dy S.T)} {j : Nat} {c : TC} {x : c.ty S.T}, pick j c ps = some x → (ps.map (·.1)).Nodup → ∀ d, (j, d) ∈ ps → d = ⟨c, x⟩
 | (j', ⟨c', y⟩) :: r, j, c, x, h, hn, d, hd => by
  simp only [List.map_cons, List.nodup_cons] at hn
  simp only [pick] at h
  cases hb : Nat.beq j j' with
  | true =>
   rw [hb] at h
   have e1 := Nat.eq_of_beq_eq_true hb
   subst e1
   dsimp only [cond_true] at h
   split at h
   ·rename_i e
    subst e
    cases h
    rcases List.mem_cons.1 hd with e2 | hd
    ·cases e2; rfl
    ·exact absurd (List.mem_map_of_mem hd) hn.1
   ·cases h
  | false =>
   rw [hb] at h
   rcases List.mem_cons.1 hd with e2 | hd
   ·cases e2
    rw [Nat.beq_refl] at hb; cases hb
   ·exact pick_sat h hn.2 d hd
theorem picks_sat {ps : List (Nat × Dy S.T)} (hn : (ps.map (·.1)).Nodup) : ∀ (cs : List TC) (j0 : Nat) (x : HL S.T cs), picks ps j0 cs = some x → ∀ j d, (j, d) ∈ ps → j0 ≤ j → j < j0 + cs.length → (toDy cs x)[j - j0]? = some d
 | [], j0, x, h, j, d, hd, h1, h2 => by simp at h2; omega
 | [c], j0, x, h, j, d, hd, h1, h2 => by
  have e1 : j = j0 := by simp at h2; omega
  subst e1
  simp only [picks] at h
  rw [pick_sat h hn d hd]
  simp [toDy]
 | c :: c' :: r, j0, x, h, j, d, hd, h1, h2 => by
  simp only [picks] at h
  split at h
  ·rename_i y hy
   split at h
   ·rename_i z hz
    cases h
    by_cases e1 : j = j0
    ·subst e1
     rw [pick_sat hy hn d hd]
     simp [toDy]
    ·have := picks_sat hn (c' :: r) (j0 + 1) z hz j d hd (by omega) (by simp only [List.length_cons] at h2 ⊢; omega)
     show ((⟨c, y⟩ : Dy S.T) :: toDy (c' :: r) z)[j - j0]? = some d
     rw [show j - j0 = (j - (j0 + 1)) + 1 by omega, List.getElem?_cons_succ]
     exact this
   ·cases h
  ·cases h
theorem dget_of {ds : List (Dy S.T)} {j : Nat} {d : Dy S.T} (h : ds[j]? = some d) : dget ds j d.1 = d.2 := by
 unfold dget
 rw [h]
 simp
theorem sat_of {ps : List (Nat × Dy S.T)} (hn : (ps.map (·.1)).Nodup) {cs : List TC} {x : HL S.T cs} (h : picks ps 0 cs = some x) (hl : ∀ p ∈ ps, p.1 < cs.length) : Sat (toDy cs x) ps := fun p hp => by
 obtain ⟨j, d⟩ := p
 have := picks_sat hn cs 0 x h j d hp (Nat.zero_le _) (by have := hl _ hp; simpa using this)
 exact dget_of this
theorem selA_append : ∀ {a b : List Nat} {F : AH S.T}, selA (a ++ b) H = some F → ∃ F1 F2, F = F1 ++ F2 ∧ selA a H = some F1 ∧ selA b H = some F2
 | [], b, F, h => ⟨[], F, rfl, rfl, h⟩
 | k :: a, b, F, h => by
  simp only [List.cons_append, selA] at h
  split at h
  ·rename_i o ho
   split at h
   ·rename_i F' hF'
    cases h
    obtain ⟨F1, F2, rfl, h1, h2⟩ := selA_append hF'
    exact ⟨(k, o) :: F1, F2, rfl, by simp only [selA, ho, h1], h2⟩
   ·cases h
  ·cases h
theorem selA_get : ∀ {ks : List Nat} {R : AH S.T}, selA ks H = some R → ∀ k ∈ ks, ∀ o, H.get k = some o → (hV (frzL R)).get k = some o.frz.o
 | k0 :: r, R, h, k, hk, o, ho => by
  simp only [selA] at h
  split at h
  ·rename_i o0 ho0
   split at h
   ·rename_i F' hF'
    cases h
    simp only [frzL, hV, List.map_cons, Heap.get]
    cases hb : Nat.beq k k0 with
    | true =>
     have := Nat.eq_of_beq_eq_true hb
     subst this
     rw [ho0] at ho; cases ho; rfl
    | false =>
     rcases List.mem_cons.1 hk with rfl | hk
     ·rw [Nat.beq_refl] at hb; cases hb
     ·exact selA_get hF' k hk o ho
   ·cases h
  ·cases h
theorem selA_get0 : ∀ {ks : List Nat} {R : AH S.T}, selA ks H = some R → ∀ k ∈ ks, ∀ o, H.get k = some o → (hV R).get k = some o.o
 | k0 :: r, R, h, k, hk, o, ho => by
  simp only [selA] at h
  split at h
  ·rename_i o0 ho0
   split at h
   ·rename_i F' hF'
    cases h
    simp only [hV, List.map_cons, Heap.get]
    cases hb : Nat.beq k k0 with
    | true =>
     have := Nat.eq_of_beq_eq_true hb
     subst this
     rw [ho0] at ho; cases ho; rfl
    | false =>
     rcases List.mem_cons.1 hk with rfl | hk
     ·rw [Nat.beq_refl] at hb; cases hb
     ·exact selA_get0 hF' k hk o ho
   ·cases h
  ·cases h
theorem nam_app {σ : Nat → Nat} {a b : List (Nat × Nat)} (h : Nam σ a) (k : Nam σ b) : Nam σ (a ++ b) := fun p hp => (List.mem_append.1 hp).elim (h p) (k p)
theorem bareT1_ok {hp : List (Nat × TO)} {ds : List (Dy S.T)} {t : Tp} (h : bareT1 t = true) : (t.put hp ds).v.bare = true ∧ (t.put hp ds).v.refs = [] := by
 unfold bareT1 at h
 split at h
 ·exact ⟨by simp only [Tp.put, A.v, valC, V.bare], by simp only [Tp.put, A.v, valC, V.refs]⟩
 ·exact ⟨by simp only [Tp.put, A.v, valC, V.bare], by simp only [Tp.put, A.v, valC, V.refs]⟩
 ·exact ⟨by simp only [Tp.put, A.v, valC, V.bare], by simp only [Tp.put, A.v, valC, V.refs]⟩
 ·cases h
theorem bareL_ok {hp : List (Nat × TO)} {ds : List (Dy S.T)} : ∀ {l : List Tp}, l.all bareT1 = true → bareL (A.vs (Tp.puts hp ds l)) = true ∧ refsL (A.vs (Tp.puts hp ds l)) = []
 | [], _ => ⟨by simp only [Tp.puts, A.vs, bareL], by simp only [Tp.puts, A.vs, refsL]⟩
 | t :: r, h => by
  simp only [List.all_cons, Bool.and_eq_true] at h
  obtain ⟨h1, h2⟩ := bareT1_ok (hp := hp) (ds := ds) h.1
  obtain ⟨h3, h4⟩ := bareL_ok (hp := hp) (ds := ds) h.2
  exact ⟨by simp only [Tp.puts, A.vs, bareL, h1, h3, Bool.and_self], by simp only [Tp.puts, A.vs, refsL, h2, h4, List.append_nil]⟩
theorem bareT_ok {hp : List (Nat × TO)} {ds : List (Dy S.T)} {t : Tp} (h : bareT t = true) : (t.put hp ds).v.bare = true ∧ (t.put hp ds).v.refs = [] := by
 unfold bareT at h
 split at h
 ·obtain ⟨h1, h2⟩ := bareL_ok (hp := hp) (ds := ds) h
  exact ⟨by simp only [Tp.put, A.v, V.bare, h1], by simp only [Tp.put, A.v, V.refs, h2]⟩
 ·exact bareT1_ok h
theorem rhA_v (hS : S.OK) {σ : Nat → Nat} : ∀ {F : AH S.T}, hV (rhA σ F) = renH σ (hV F)
 | [] => rfl
 | (k, o) :: r => by
  have ih := rhA_v hS (σ := σ) (F := r)
  have h1 := oren_o hS (σ := σ) o
  simp only [rhA, hV, renH, List.map_cons] at ih ⊢
  rw [ih, h1]
theorem frzL_has {k : Nat} : ∀ {F : AH S.T}, (frzL F).has k = F.has k
 | [] => rfl
 | p :: r => by
  have ih := frzL_has (k := k) (F := r)
  simp only [frzL, List.map_cons, AH.has] at ih ⊢
  rw [ih]
theorem call_ok (hS : S.OK) {P : Program} {f d : Nat} {c : Ct S} (hc : c.OK P f) {o : Oper} {E : AE S.T} {vs : List (A S.T)} (hv : CallV P o (eV E) f (A.vs vs)) {r : OR S} (h : c.call H d vs = some r) : r.OK P o E H := by
 unfold Ct.call at h
 split at h
 ·rename_i r1 g1
  split at h
  ·rename_i r2 g2
   split at h
   ·rename_i x R g3 g4
    cases hb : c.chk d (r1.app r2) (dedup r1.fz) R with
    | false => rw [hb] at h; cases h
    | true =>
     rw [hb, cond_true] at h
     simp only [Ct.chk, Bool.and_eq_true] at hb
     obtain ⟨b1, b2, b3, b4, b5, b6, b7, b8⟩ := hb
     cases hB : c.isB with
     | true =>
      rw [hB, cond_true] at h
      cases h
      intro heq q hq a F' hres F R0 hF hR0
      cases selA_nil hF
      cases hres
      have e2 : R0 = R := Option.some.inj (hR0.symm.trans g4)
      subst e2
      simp only [Ct.isB, Bool.and_eq_true, List.isEmpty_iff] at hB
      obtain ⟨i1, i2, i3⟩ := hB
      have hs : Sat (toDy c.ci x) (r1.app r2).ps := sat_of (nodup_of b1) g3 fun p hp => by
       have := (List.all_eq_true.1 b2) p hp
       exact Nat.le_of_ble_eq_true this
      have hn : Nam (asg ((r1.app r2).ns ++ newNames d c.hin c.hout)) ((r1.app r2).ns ++ globN c.hin) := fun p hp => Nat.eq_of_beq_eq_true ((List.all_eq_true.1 b3) p hp)
      have he : EqAll (r1.app r2).eq := heq
      have hr : RowsOK c.hin (toDy c.ci x) (asg ((r1.app r2).ns ++ newNames d c.hin c.hout)) H := rowsOK_of g2 hs.right (nam_app hn.left.left hn.right) hn.left.right
      have hV1 := reads_view hS (R := hV R0) c.ins vs r1 g1 hs.left hn.left.left he.left hr fun k hk e c' f' l wl hg => ⟨_, selA_get0 g4 k (dedup_mem hk) _ hg⟩
      have hcl := closed_put (S := S) hS (ds := toDy c.ci x) b6
      have hrefs : refsL (A.vs (Tp.puts c.hin (toDy c.ci x) c.ins)) = [] := by
       simp only [closedT, Bool.and_eq_true, i1, List.map_nil] at b6
       rw [puts_refs hS]
       refine List.eq_nil_iff_forall_not_mem.2 fun k hk => ?_
       have := (List.all_eq_true.1 b6.1) k hk
       simp at this
      rw [rens_vs hS, renL_flat _ hrefs] at hV1
      have hfn := hc x q hq
      obtain ⟨e1, e2⟩ := bareT_ok (S := S) (hp := c.hout) (ds := toDy c.ci x ++ toDy c.co q) i3
      have h0 : ∀ ds, hV (putH (S := S) c.hin ds) = [] := fun ds => by rw [i1]; rfl
      have h1 : ∀ ds, hV (putH (S := S) c.hout ds) = [] := fun ds => by rw [i2]; rfl
      rw [h0, h1] at hfn
      have := loc_gcallB (o := o) (ρ := eV E) hv hfn hV1 e1 e2 hrefs
      simpa [hV] using this
     | false =>
     rw [hB, cond_false] at h
     cases h
     intro heq q hq a F' hres F R0 hF hR0
     cases selA_nil hR0
     cases hres
     generalize hL : (r1.app r2).ns ++ newNames d c.hin c.hout = L at *
     obtain ⟨F1, F2, rfl, hF1, hF2⟩ := selA_append hF
     have e2 : F2 = R := Option.some.inj (hF2.symm.trans g4)
     subst e2
     have hs : Sat (toDy c.ci x) (r1.app r2).ps := sat_of (nodup_of b1) g3 fun p hp => by
      have := (List.all_eq_true.1 b2) p hp
      exact Nat.le_of_ble_eq_true this
     have hn : Nam (asg L) ((r1.app r2).ns ++ globN c.hin) := fun p hp => Nat.eq_of_beq_eq_true ((List.all_eq_true.1 b3) p hp)
     have he : EqAll (r1.app r2).eq := heq
     have hr : RowsOK c.hin (toDy c.ci x) (asg L) H := rowsOK_of g2 hs.right (nam_app hn.left.left hn.right) hn.left.right
     obtain ⟨k1, k2⟩ := readH_sel hS g2 hs.right (nam_app hn.left.left hn.right) hn.left.right he.right hr F1 hF1
     have hR : frz (hV (frzL F2)) = hV (frzL F2) := by rw [frzL_frz hS, frz_frz]
     have hV1 := reads_view hS (R := hV (frzL F2)) c.ins vs r1 g1 hs.left hn.left.left he.left hr fun k hk e c' f' l wl hg => ⟨_, selA_get g4 k (dedup_mem hk) _ hg⟩
     rw [rens_vs hS] at hV1
     have hcall := loc_gcall (o := o) L hv (hc x q hq) hV1 hR (by rw [putH_keys]; exact b4) (closed_put hS b6) (by rw [putH_keys, putH_keys]; exact b5) (by
      rw [keys_ren, putH_keys, List.map_map]
      refine List.all_eq_true.2 fun k hk => ?_
      have := (List.all_eq_true.1 b8) k hk
      rw [hV_has]
      rw [frzL_has]; exact this)
     have hfin := loc_frz (Fa := hV F1) (R := hV F2) (o := o) (P := P) (ρ := eV E) rfl (by rw [k1, ← frzL_frz hS]; exact hcall)
     simp only [hV_app]
     show EV.Loc P o (eV E) (hV F1 ++ hV F2 ++ []) _ (_ ++ [])
     rw [List.append_nil, List.append_nil, rhA_v hS, ren_v hS]
     exact hfin
   ·cases h
  ·cases h
 ·cases h
def CtP.chk {pc : List TC} (c : CtP S pc) (rd : Rd S.T) (R : AH S.T) : Bool :=
 nodupB (rd.ps.map (·.1)) && (rd.ps.all (fun p => Nat.ble (p.1 + 1) c.ci.length) && ((rd.ns ++ globN c.hin).all (fun p => Nat.beq (asg rd.ns p.1) p.2) &&
  (nodupB ((c.hin.map (·.1)).map (asg rd.ns)) && (closedT c.ins c.hin && R.all (fun p => rowB p.2)))))
structure PTry (S : Tab) (pc : List TC) where
 eqs : List (Nat × Nat)
 o : Option (HL S.T pc)
 kF : List Nat
 kR : List Nat
def CtP.att {pc : List TC} (c : CtP S pc) (H : AH S.T) (vs : List (A S.T)) : Option (PTry S pc) := match Tp.reads c.hin false H c.ins vs with
 | some r1 => match readH c.hin H (r1.ns ++ globN c.hin) c.hin with
  | some r2 => match picks (r1.app r2).ps 0 c.ci, selA (dedup r1.fz) H with
   | some x, some R =>
    bif c.chk (r1.app r2) R then some ⟨(r1.app r2).eq, c.fn x, c.hin.map fun p => asg (r1.app r2).ns p.1, dedup r1.fz⟩ else none
   | _, _ => none
  | none => none
 | none => none
theorem att_ok (hS : S.OK) {P : Program} {pc : List TC} {pv : HL S.T pc → Value} {f : Nat} {c : CtP S pc} (hc : c.OK P pv f) {o : Oper} {E : AE S.T} {vs : List (A S.T)} (hv : CallW P o (eV E) f (A.vs vs)) {t : PTry S pc} (h : c.att H vs = some t) {q : HL S.T pc} (hq : t.o = some q) (heq : EqAll t.eqs) :
  ∀ F R, selA t.kF H = some F → selA t.kR H = some R → LocP P o (eV E) (hV F ++ hV R) (pv q) := by
 unfold CtP.att at h
 split at h
 ·rename_i r1 g1
  split at h
  ·rename_i r2 g2
   split at h
   ·rename_i x R g3 g4
    cases hb : c.chk (r1.app r2) R with
    | false => rw [hb] at h; cases h
    | true =>
     rw [hb] at h
     cases h
     simp only [CtP.chk, Bool.and_eq_true] at hb
     obtain ⟨b1, b2, b3, b4, b6, b7⟩ := hb
     intro F1 F2 hF1 hF2
     generalize hL : (r1.app r2).ns = L at *
     have e2 : F2 = R := Option.some.inj (hF2.symm.trans g4)
     subst e2
     have hs : Sat (toDy c.ci x) (r1.app r2).ps := sat_of (nodup_of b1) g3 fun p hp => by
      have := (List.all_eq_true.1 b2) p hp
      exact Nat.le_of_ble_eq_true this
     have hn : Nam (asg L) ((r1.app r2).ns ++ globN c.hin) := fun p hp => Nat.eq_of_beq_eq_true ((List.all_eq_true.1 b3) p (by rw [← hL]; exact hp))
     have he : EqAll (r1.app r2).eq := heq
     have hr : RowsOK c.hin (toDy c.ci x) (asg L) H := rowsOK_of g2 hs.right (nam_app hn.left.left hn.right) hn.left.right
     obtain ⟨k1, k2⟩ := readH_sel hS g2 hs.right (nam_app hn.left.left hn.right) hn.left.right he.right hr F1 hF1
     have hR : frz (hV (frzL F2)) = hV (frzL F2) := by rw [frzL_frz hS, frz_frz]
     have hV1 := reads_view hS (R := hV (frzL F2)) c.ins vs r1 g1 hs.left hn.left.left he.left hr fun k hk e c' f' l wl hg => ⟨_, selA_get g4 k (dedup_mem hk) _ hg⟩
     rw [rens_vs hS] at hV1
     have hcall := loc_gpan (o := o) L hv (hc x q hq) hV1 hR (by rw [putH_keys]; exact b4) (closed_put hS b6)
     rw [k1]
     refine locP_frz ?_
     rw [← frzL_frz hS]
     exact hcall
   ·cases h
  ·cases h
 ·cases h
end
end Go.EQ
namespace Go.EQ
open Go Go.RowKit Go.Eng Go.EV

section
variable {S : Tab}
abbrev CtT (S : Tab) := List (Nat × Ct S)
def CtT.OK (P : Program) : CtT S → Prop
 | [] => True
 | p :: r => (hasBody P p.1 ∧ p.2.OK P p.1) ∧ CtT.OK P r
def callE (H : AH S.T) (d f : Nat) (vs : List (A S.T)) : CtT S → OR S
 | [] => .no
 | (g, c) :: r => bif Nat.beq f g then match c.call H d vs with
   | some q => bif c.alt then q.orAlt (callE H d f vs r) else q
   | none => callE H d f vs r
  else callE H d f vs r
def divA (a b : A S.T) (op : BinOp) : OR S := match intOf a, intOf b with
 | some (k, m), some (k', n) => bif decide (k = k') then .bnd (grd (n ≠ 0)) [] [] fun _ => some (.dat (.i k) (match op with | .quo => k.wrap (m.tdiv n) | _ => m.tmod n), []) else .no
 | _, _ => .no
def convA (P : Program) (H : AH S.T) (d s t : Nat) : A S.T → OR S
 | .rh sz k n => match H.get k with
  | some (.row _ (.i .u8) _ l w) => bif byteT P s t && Nat.beq sz 1 then .eqs [(n, w.n)] (.one [] [k] (.dat .s (bytesOf l)) []) else .no
  | _ => .no
 | .raw (.sl sz k L o n) => match H.get k with
  | some (.row _ (.i .u8) _ l w) => bif byteT P s t && Nat.beq sz 1 then .eqs [(L, w.n)] (.bnd (grd (o + n ≤ L)) [] [k] fun _ => some (.dat .s (bytesOf (List.take n (List.drop o l))), [])) else .no
  | _ => .no
 | .dat .s l => match elemT P t with
  | some (e, _) => bif bytesT P s t e then .bnd (grd (List.length (α := UInt8) l ≤ 9223372036854775807)) [] [] (fun _ => some (.rh 1 d (intsOf l).length, [(d, .row e (.i .u8) .zero (intsOf l) ⟨_, rfl⟩)])) else .no
  | none => .no
 | _ => .no
def sliceOf : A S.T → Option (Nat × Nat × Nat × Nat × Nat)
 | .rh sz k n => some (sz, k, n, 0, n)
 | .raw (.sl sz k L o n) => some (sz, k, L, o, n)
 | _ => none
def zeroB : Fz → Bool
 | .zero => true
 | _ => false
def strOf : A S.T → Option (List UInt8)
 | .dat .s ys => some ys
 | _ => none
def ifcNilA (b : Bool) : A S.T → OR S
 | .raw .nili => .one [] [] (.raw (.bool b)) []
 | .ifc _ _ => .one [] [] (.raw (.bool (!b))) []
 | _ => .no
def copyA (P : Program) (H : AH S.T) (t : Nat) (x y : A S.T) : OR S := match elemT2 P t with
 | none => .no
 | some (e, sz, _) => match sliceOf x with
  | none => .no
  | some (sz', k, L, o, n) => match H.get k with
   | some (.row e' c fz l w) => bif Nat.beq e e' && (Nat.beq sz sz' && (Nat.beq sz (cellsC S c) && (zeroB fz && oneC c))) then (match strOf y with
    | some ys => if h : c = .i .u8 then .eqs [(L, w.n)] (.bnd (grd (o + n ≤ L)) [k] [] fun _ =>
      some (.dat (.i .i64) ((min ys.length n : Nat) : Int), [(k, .row e (.i .u8) .zero (cpyT (h ▸ l : List ((TC.i .u8).ty S.T)) o ((ys.take (min ys.length n)).map fun b => ((UInt8.toNat b : Nat) : Int))) ⟨w.n, by subst h; rw [cpyT_length]; exact w.h⟩)])) else .no
    | none => match srcA H k c y with
     | some (ys, kR, eq) => .eqs ((L, w.n) :: eq) (.bnd (grd (o + n ≤ L)) [k] kR fun _ =>
      some (.dat (.i .i64) ((min ys.length n : Nat) : Int), [(k, .row e c .zero (cpyT l o (ys.take (min ys.length n))) ⟨w.n, by rw [cpyT_length]; exact w.h⟩)]))
     | none => .no) else .no
   | _ => .no
def memE (P : Program) (T : CtT S) (cd : Nat → Option TC) (E : AE S.T) (H : AH S.T) (d : Nat) : Op → OR S
 | .load t x => loadA P H t (evA E x)
 | .store t x y => storeA P H t (evA E x) (evA E y)
 | .indexAddr t x y => indexAddrA P t (evA E x) (evA E y)
 | .index t x y => indexA P t (evA E x) (evA E y)
 | .slice t x lo hi none => sliceA P E t (evA E x) lo hi
 | .alloc t => allocA P d t
 | .box t x => boxA d t (evA E x)
 | .buildSlice t n ps => buildSliceA P E cd d t n ps.toList
 | .makeSlice t x y => makeSliceA P E cd d t x y
 | .makeMap t none => makeMapA P cd d t
 | .lookup t x y co => lookupA P H t (evA E x) (evA E y) co
 | .mapUpdate t x y z => mapUpdateA P H t (evA E x) (evA E y) (evA E z)
 | .call ⟨.builtin .append, ⟨[x, y]⟩, ⟨[t, t']⟩⟩ => appendA P E H cd d t t' x y
 | .call ⟨.builtin .copy, ⟨[x, y]⟩, ⟨[t, _]⟩⟩ => copyA P H t (evA E x) (evA E y)
 | .call ⟨.value (.func f), l, _⟩ => callE H d f (l.toList.map (evA E)) T
 | .call ⟨.value x, l, _⟩ => match evA E x with
  | .fn f a b => callE H d f (a ++ l.toList.map (evA E) ++ b) T
  | _ => .no
 | .makeInterface t x => bif notIfc P t then .one [] [] (.ifc t (evA E x)) [] else .no
 | .convert s t x => convA P H d s t (evA E x)
 | .binOp .eql t x (.const .nilIface) _ => bif ifcT P t then ifcNilA true (evA E x) else .no
 | .binOp .neq t x (.const .nilIface) _ => bif ifcT P t then ifcNilA false (evA E x) else .no
 | .binOp .add _ x y _ => concatA (evA E x) (evA E y)
 | .binOp .quo _ x y _ => divA (evA E x) (evA E y) .quo
 | .binOp .rem _ x y _ => divA (evA E x) (evA E y) .rem
 | _ => .no
def opE (P : Program) (T : CtT S) (cd : Nat → Option TC) (E : AE S.T) (H : AH S.T) (d : Nat) (op : Op) : OR S := match pureA P E op with
 | some a => .one [] [] a []
 | none => memE P T cd E H d op
section
variable {P : Program} {E : AE S.T} {H : AH S.T} {dst : Option Tmp} {ty : TypeId} {pos : String} {aft : Array Edge} {gd : Option (Nat × Bool)}
theorem callE_ok (hS : S.OK) {d f : Nat} {vs : List (A S.T)} {o : Oper} (hv : hasBody P f → CallV P o (eV E) f (A.vs vs)) : ∀ {T : CtT S}, CtT.OK P T → (callE H d f vs T).OK P o E H
 | [], _ => trivial
 | (g, c) :: r, hT => by
  simp only [callE]
  cases hb : Nat.beq f g with
  | true =>
   have := Nat.eq_of_beq_eq_true hb
   subst this
   rw [cond_true]
   split
   ·rename_i q hq
    have h1 := call_ok hS hT.1.2 (hv hT.1.1) hq
    cases c.alt with
    | true => exact orAlt_ok h1 (callE_ok hS hv hT.2)
    | false => exact h1
   ·exact callE_ok hS hv hT.2
  | false => exact callE_ok hS hv hT.2
theorem divA_ok {op : BinOp} (hop : op = .quo ∨ op = .rem) {t t' : TypeId} {x y : Operand} : (divA (evA E x) (evA E y) op).OK P ⟨dst, .binOp op t x y t', ty, pos, aft, gd⟩ E H := by
 unfold divA
 split
 ·rename_i k m k' n h1 h2
  cases hk : decide (k = k') with
  | false => trivial
  | true =>
   have := of_decide_eq_true hk
   subst this
   intro u hu a F' hr F R hF hR
   cases hr
   cases selA_nil hF; cases selA_nil hR
   have hn := grd_some hu
   have := loc_div (P := P) (ρ := eV E) (dst := dst) (ty := ty) (pos := pos) (aft := aft) (gd := gd) (t := t) (t' := t') hop (by rw [evA_v]; exact intOf_v h1) (by rw [evA_v]; exact intOf_v h2) hn
   rcases hop with rfl | rfl <;> exact this
 ·trivial
theorem convA_ok {d s t : Nat} {x : Operand} : (convA P H d s t (evA E x)).OK P ⟨dst, .convert s t x, ty, pos, aft, gd⟩ E H := by
 unfold convA
 split
 ·rename_i sz k n e
  split
  ·rename_i et fz l wl hg
   cases hb : byteT P s t && Nat.beq sz 1 with
   | false => trivial
   | true =>
    simp only [Bool.and_eq_true] at hb
    have h1 := Nat.eq_of_beq_eq_true hb.2
    subst h1
    intro heq F R hF hR
    have hL : n = l.length := (heq _ (List.mem_singleton.2 rfl)).trans wl.h.symm
    cases selA_nil hF
    cases selA_one hg hR
    exact loc_bytesStr (l := l) hb.1 (by rw [evA_v, e]; rfl) hL
  ·trivial
 ·rename_i sz k L o n e
  split
  ·rename_i et fz l wl hg
   cases hb : byteT P s t && Nat.beq sz 1 with
   | false => trivial
   | true =>
    simp only [Bool.and_eq_true] at hb
    have h1 := Nat.eq_of_beq_eq_true hb.2
    subst h1
    intro heq u hu a F' hr F R hF hR
    have hL : L = l.length := (heq _ (List.mem_singleton.2 rfl)).trans wl.h.symm
    cases hr
    cases selA_nil hF
    cases selA_one hg hR
    exact loc_bytesStrP (l := l) hb.1 (by rw [evA_v, e]; rfl) hL (grd_some hu)
  ·trivial
 ·rename_i l e
  split
  ·rename_i et q hT
   cases hb : bytesT P s t et with
   | false => trivial
   | true =>
    intro u hu a F' hr F R hF hR
    cases hr
    cases selA_nil hF; cases selA_nil hR
    exact loc_strBytesT hb (by rw [evA_v, e]; rfl) (grd_some hu) rfl
  ·trivial
 ·trivial
theorem ifcNilA_ok {op : BinOp} {b : Bool} (hop : (op = .eql ∧ b = true) ∨ (op = .neq ∧ b = false)) {t t' : TypeId} {x : Operand} (h : ifcT P t = true) : (ifcNilA b (evA E x)).OK P ⟨dst, .binOp op t x (.const .nilIface) t', ty, pos, aft, gd⟩ E H := by
 unfold ifcNilA
 split
 ·rename_i e
  intro F R hF hR
  cases selA_nil hF; cases selA_nil hR
  exact loc_ifcNil (v := .nili) (b := true) (.inl ⟨rfl, rfl⟩) (by rcases hop with ⟨rfl, rfl⟩ | ⟨rfl, rfl⟩ <;> simp) h (by rw [evA_v, e]; simp only [A.v])
 ·rename_i tx u e
  intro F R hF hR
  cases selA_nil hF; cases selA_nil hR
  exact loc_ifcNil (v := .ifc tx u.v) (b := false) (.inr ⟨_, _, rfl, rfl⟩) (by rcases hop with ⟨rfl, rfl⟩ | ⟨rfl, rfl⟩ <;> simp) h (by rw [evA_v, e]; simp only [A.v])
 ·trivial
theorem sliceOf_v {a : A S.T} {sz k L o n : Nat} (h : sliceOf a = some (sz, k, L, o, n)) : a.v = .sl sz k L o n := by
 unfold sliceOf at h
 split at h
 ·cases h; simp only [A.v]
 ·cases h; simp only [A.v]
 ·cases h
theorem strOf_v {a : A S.T} {ys : List UInt8} (h : strOf a = some ys) : a.v = .str ys := by
 unfold strOf at h
 split at h
 ·cases h; simp only [A.v, valC]
 ·cases h
theorem copyA_ok (hS : S.OK) {t t2 : Nat} {x y : Operand} : (copyA P H t (evA E x) (evA E y)).OK P ⟨dst, .call ⟨.builtin .copy, #[x, y], #[t, t2]⟩, ty, pos, aft, gd⟩ E H := by
 unfold copyA
 split
 ·trivial
 ·rename_i e sz by_ hT
  split
  ·trivial
  ·rename_i sz' k L o n hx
   split
   ·rename_i e' c fz l w hg
    cases hb : Nat.beq e e' && (Nat.beq sz sz' && (Nat.beq sz (cellsC S c) && (zeroB fz && oneC c))) with
    | false => trivial
    | true =>
     simp only [Bool.and_eq_true] at hb
     obtain ⟨h1, h2, h3, h4, h5⟩ := hb
     have h1 := Nat.eq_of_beq_eq_true h1
     have h2 := Nat.eq_of_beq_eq_true h2
     have h3 := Nat.eq_of_beq_eq_true h3
     subst h1; subst h2; subst h3
     have hfz : fz = .zero := by cases fz <;> first | rfl | cases h4
     subst hfz
     have hxv := sliceOf_v hx
     rw [cond_true]
     split
     ·rename_i ys hy
      split
      ·rename_i hc
       subst hc
       intro heq u hu a F' hr F R hF hR
       have hL : L = l.length := (heq _ (List.mem_singleton.2 rfl)).trans w.h.symm
       cases hr
       cases selA_nil hR
       cases selA_one hg hF
       exact loc_copyStr (q := l) hT (by rw [evA_v]; exact hxv) hL.symm (grd_some hu) (by rw [evA_v]; exact strOf_v hy) rfl rfl
      ·trivial
     ·split
      ·rename_i ys kR eq hy
       intro heq u hu a F' hr F R hF hR
       have hL : L = l.length := (heq _ (List.mem_cons_self ..)).trans w.h.symm
       cases hr
       cases selA_one hg hF
       obtain ⟨g1, g2⟩ := srcA_ok hS hy (fun p hp => heq p (List.mem_cons_of_mem _ hp)) hR
       have hm : ∀ k e, c ≠ .m k e := fun k e hc => by subst hc; cases h5
       have hl := loc_copyT (P := P) (ρ := eV E) (dst := dst) (ty := ty) (pos := pos) (aft := aft) (gd := gd) (t2 := t2) (x := x) (y := y) (k := k) (R := hV R) (encC S c) (q := l) (ys := ys) hT (by rw [evA_v]; exact hxv) hL.symm (grd_some hu) g1 (fun a => enc_one hS c a hm) (fun a => encC_cells hS c a) (by rw [hV_has]; exact g2) rfl rfl
       exact hl
      ·trivial
   ·trivial
theorem memE_ok (hS : S.OK) {T : CtT S} (hT : CtT.OK P T) {cd : Nat → Option TC} {d : Nat} {op : Op} : (memE P T cd E H d op).OK P ⟨dst, op, ty, pos, aft, gd⟩ E H := by
 unfold memE
 split
 ·exact loadA_ok hS
 ·exact storeA_ok hS
 ·exact indexAddrA_ok
 ·exact indexA_ok
 ·exact sliceA_ok
 ·exact allocA_ok
 ·exact boxA_ok hS
 ·exact buildSliceA_ok hS
 ·exact makeSliceA_ok hS
 ·exact makeMapA_ok
 ·exact lookupA_ok hS
 ·exact mapUpdateA_ok hS
 ·exact appendA_ok hS
 ·exact copyA_ok hS
 ·rename_i f l ts
  refine callE_ok hS (fun hb => ?_) hT
  rw [← evA_map]
  exact callV_func (l := l.toList) hb rfl
 ·rename_i x l ts _
  split
  ·rename_i f a b hx
   refine callE_ok hS (fun hb => ?_) hT
   rw [vs_app, vs_app, ← evA_map]
   exact callV_val (l := l.toList) hb (by rw [evA_v, hx]; simp only [A.v]) rfl
  ·trivial
 ·rename_i t x
  cases hb : notIfc P t with
  | false => trivial
  | true =>
   intro F R hF hR
   cases selA_nil hF; cases selA_nil hR
   have := loc_makeIfc (P := P) (ρ := eV E) (dst := dst) (ty := ty) (pos := pos) (aft := aft) (gd := gd) (x := x) hb rfl
   rw [evA_v] at this
   simpa [hV, A.v] using this
 ·exact convA_ok
 ·rename_i t x t'
  cases hb : ifcT P t with
  | true => exact ifcNilA_ok (.inl ⟨rfl, rfl⟩) hb
  | false => trivial
 ·rename_i t x t'
  cases hb : ifcT P t with
  | true => exact ifcNilA_ok (.inr ⟨rfl, rfl⟩) hb
  | false => trivial
 ·exact concatA_ok
 ·exact divA_ok (.inl rfl)
 ·exact divA_ok (.inr rfl)
 ·trivial
theorem opE_ok (hS : S.OK) {T : CtT S} (hT : CtT.OK P T) {cd : Nat → Option TC} {o : Oper} {d : Nat} : (opE P T cd E H d o.op).OK P o E H := by
 obtain ⟨dst, op, ty, pos, aft, gd⟩ := o
 unfold opE
 split
 ·rename_i a ha
  intro F R hF hR
  cases selA_nil hF; cases selA_nil hR
  exact loc_pure (pureA_v hS ha)
 ·exact memE_ok hS hT
end
abbrev CtPT (S : Tab) (pc : List TC) := List (Nat × CtP S pc)
def CtPT.OK {pc : List TC} (P : Program) (pv : HL S.T pc → Value) : CtPT S pc → Prop
 | [] => True
 | p :: r => (hasBody P p.1 ∧ p.2.OK P pv p.1) ∧ CtPT.OK P pv r
def pvT (pt : Tp) (pc : List TC) (q : HL S.T pc) : Value := vval (pt.put (S := S) [] (toDy pc q)).v
def panA (pt : Tp) (pc : List TC) : A S.T → Option (HL S.T pc)
 | .ifc t a => match pt.read (S := S) [] true [] (.ifc t a) with
  | some rd => bif pt.names.isEmpty && (flatVB a.v && (nodupB (rd.ps.map (·.1)) && (rd.ps.all (fun p => Nat.ble (p.1 + 1) pc.length) && (rd.ns.isEmpty && rd.eq.isEmpty)))) then picks rd.ps 0 pc else none
  | none => none
 | _ => none
def findP {pc : List TC} (H : AH S.T) (f : Nat) (vs : List (A S.T)) : CtPT S pc → Option (PTry S pc)
 | [] => none
 | (g, c) :: r => bif Nat.beq f g then (match c.att H vs with
   | some t => some t
   | none => findP H f vs r) else findP H f vs r
inductive PAct (S : Tab) (pc : List TC) where
 | none
 | op (q : HL S.T pc)
 | call (t : PTry S pc)
def panC {pc : List TC} : Option (PTry S pc) → PAct S pc
 | some t => .call t
 | none => .none
def panO {pc : List TC} (TP : CtPT S pc) (pt : Tp) (E : AE S.T) (H : AH S.T) : Op → PAct S pc
 | .panic x => match panA pt pc (evA E x) with
  | some q => .op q
  | none => .none
 | .call ⟨.value (.func f), l, _⟩ => panC (findP H f (l.toList.map (evA E)) TP)
 | .call ⟨.value x, l, _⟩ => match evA E x with
  | .fn f a b => panC (findP H f (a ++ l.toList.map (evA E) ++ b) TP)
  | _ => .none
 | _ => .none
section
variable {P : Program} {E : AE S.T} {H : AH S.T} {dst : Option Tmp} {ty : TypeId} {pos : String} {aft : Array Edge} {gd : Option (Nat × Bool)}
theorem callW_func {f : FuncId} {l : List Operand} {ts : Array TypeId} {vs : List V} (hf : hasBody P f) (he : l.map (evV (eV E)) = vs) : CallW P ⟨dst, .call ⟨.value (.func f), l.toArray, ts⟩, ty, pos, aft, gd⟩ (eV E) f vs := fun ρr m Z w hops => by
 subst he
 exact ⟨_, RepL.tmps (ρ := eV E) l fun x hx => hops x (by simp [Op.operands, Call.operands, hx]), rfl, run_call _ hf rfl⟩
theorem callW_val {f : FuncId} {l : List Operand} {ts : Array TypeId} {vs first caps : List V} {x : Operand} (hf : hasBody P f) (hx : evV (eV E) x = .fn f first caps) (he : first ++ l.map (evV (eV E)) ++ caps = vs) : CallW P ⟨dst, .call ⟨.value x, l.toArray, ts⟩, ty, pos, aft, gd⟩ (eV E) f vs := fun ρr m Z w hops => by
 subst he
 have h := hops x (by simp [Op.operands, Call.operands])
 rw [hx] at h
 obtain ⟨l1, l2, e, h1, h2⟩ := h
 exact ⟨l1 ++ l.map (ev ρr) ++ l2, (h1.append (RepL.tmps (ρ := eV E) l fun x hx => hops x (by simp [Op.operands, Call.operands, hx]))).append h2, rfl, run_callF e hf⟩
theorem findP_ok {pc : List TC} {f : Nat} {vs : List (A S.T)} {t : PTry S pc} {pv : HL S.T pc → Value} : ∀ {TP : CtPT S pc}, CtPT.OK P pv TP → findP H f vs TP = some t → ∃ c : CtP S pc, hasBody P f ∧ c.OK P pv f ∧ c.att H vs = some t
 | [], _, h => by cases h
 | (g, c) :: r, hT, h => by
  simp only [findP] at h
  cases hb : Nat.beq f g with
  | true =>
   have := Nat.eq_of_beq_eq_true hb
   subst this
   rw [hb, cond_true] at h
   split at h
   ·rename_i t' ht
    cases h
    exact ⟨c, hT.1.1, hT.1.2, ht⟩
   ·exact findP_ok hT.2 h
  | false => rw [hb] at h; exact findP_ok hT.2 h
theorem panC_call {pc : List TC} {x : Option (PTry S pc)} {t : PTry S pc} (h : panC x = .call t) : x = some t := by
 cases x with
 | none => cases h
 | some y => cases h; rfl
theorem panO_call (hS : S.OK) {pc : List TC} {TP : CtPT S pc} {pt : Tp} {pv : HL S.T pc → Value} (hT : CtPT.OK P pv TP) {op : Op} {t : PTry S pc} (h : panO TP pt E H op = .call t) {q : HL S.T pc} (hq : t.o = some q) (heq : EqAll t.eqs) :
  ∀ F R, selA t.kF H = some F → selA t.kR H = some R → LocP P ⟨dst, op, ty, pos, aft, gd⟩ (eV E) (hV F ++ hV R) (pv q) := by
 unfold panO at h
 split at h
 ·split at h <;> cases h
 ·rename_i f l ts
  obtain ⟨c, h1, h2, h3⟩ := findP_ok hT (panC_call h)
  exact att_ok hS h2 (callW_func (l := l.toList) h1 (by rw [evA_map])) h3 hq heq
 ·rename_i x l ts _
  split at h
  ·rename_i f a b hx
   obtain ⟨c, h1, h2, h3⟩ := findP_ok hT (panC_call h)
   exact att_ok hS h2 (callW_val (l := l.toList) (first := A.vs a) (caps := A.vs b) h1 (by rw [evA_v, hx]; simp only [A.v]) (by rw [vs_app, vs_app, evA_map])) h3 hq heq
  ·cases h
 ·cases h
theorem panA_ok (hS : S.OK) {pt : Tp} {pc : List TC} {a : A S.T} {q : HL S.T pc} (h : panA pt pc a = some q) : ∃ t v, a.v = .ifc t v ∧ flatVB v = true ∧ vval (.ifc t v) = pvT pt pc q := by
 unfold panA at h
 split at h
 ·rename_i t a
  split at h
  ·rename_i rd hr
   cases hc : pt.names.isEmpty && (flatVB a.v && (nodupB (rd.ps.map (·.1)) && (rd.ps.all (fun p => Nat.ble (p.1 + 1) pc.length) && (rd.ns.isEmpty && rd.eq.isEmpty)))) with
   | false => rw [hc] at h; cases h
   | true =>
    rw [hc, cond_true] at h
    simp only [Bool.and_eq_true, List.isEmpty_iff] at hc
    obtain ⟨c1, c2, c3, c4, c5, c6⟩ := hc
    have hs : Sat (toDy pc q) rd.ps := sat_of (nodup_of c3) h fun p hp => Nat.le_of_ble_eq_true ((List.all_eq_true.1 c4) p hp)
    have h1 := (read_ex (hp := []) (ds := toDy pc q) (σ := id) (H := ([] : AH S.T)) hS pt (.ifc t a) rd hr hs (by rw [c5]; exact fun p hp => (by cases hp)) (by rw [c6]; exact fun p hp => (by cases hp)) (fun k c j hj => (by cases hj))).1
    rw [ren_v hS, ren_flat _ (by rw [put_refs hS]; exact c1)] at h1
    exact ⟨t, a.v, by simp only [A.v], c2, by rw [pvT, ← h1]; simp only [A.v]⟩
  ·cases h
 ·cases h
end
end
end Go.EQ
namespace Go.EQ
open Go Go.RowKit Go.Eng Go.EV

mutual
theorem refs_ren {σ : Nat → Nat} : ∀ v : V, (v.ren σ).refs = v.refs.map σ
 | .undef => rfl
 | .no => rfl
 | .int .. => rfl
 | .bool _ => rfl
 | .str _ => rfl
 | .nilp => rfl
 | .ptr .. => rfl
 | .vp .. => rfl
 | .nils => rfl
 | .sl .. => rfl
 | .vs .. => rfl
 | .fn f a b => by simp only [V.ren, V.refs, refsL_ren a, refsL_ren b, List.map_append]
 | .nilf => rfl
 | .agg cs => by simp only [V.ren, V.refs, refsL_ren cs]
 | .tup cs => by simp only [V.ren, V.refs, refsL_ren cs]
 | .nilm => rfl
 | .mp _ => rfl
 | .nili => rfl
 | .ifc t v => by simp only [V.ren, V.refs, refs_ren v]
 | .gv .. => rfl
 | .pv _ => rfl
theorem refsL_ren {σ : Nat → Nat} : ∀ vs : List V, refsL (renL σ vs) = (refsL vs).map σ
 | [] => rfl
 | v :: vs => by simp only [renL, refsL, refs_ren v, refsL_ren vs, List.map_append]
end
theorem orefs_ren {σ : Nat → Nat} (o : EV.Obj) : (o.ren σ).refs = o.refs.map σ := by
 cases o <;> simp [Obj.ren, Obj.refs, refsL_ren]
section
variable {K0 : List Nat} {c : Ctx K0} {w : World} {ρr : Slots}
theorem simC_unren {m : M} {Z : ZM} {H1 : Heap} {σ : Nat → Nat} (hσ : nodupB ((keys H1).map σ) = true) (hcl : (H1.all fun p => p.2.refs.all (keys H1).contains) = true) (hK : ∀ k ∈ K0, k ∈ keys H1 ∧ σ k = k) (SC : SimC c m Z (renH σ H1) w) :
  ∃ mc, SimC c mc Z H1 w ∧ ∀ v x, v.refs.all (keys H1).contains = true → Rep (some m) Z (v.ren σ) x → Rep (some mc) Z v x := by
 have hs := SC.step.sim
 have hinj : ∀ {a b : Nat}, a ∈ keys H1 → b ∈ keys H1 → σ a = σ b → a = b := inj_of (nodup_of hσ)
 let mc : M := fun k L => if k ∈ keys H1 then m (σ k) L else none
 have hmc : ∀ k ∈ keys H1, mc k = m (σ k) := fun k hk => by funext L; simp [mc, hk]
 have hmcn : ∀ k, k ∉ keys H1 → ∀ L, mc k L = none := fun k hk L => by simp [mc, hk]
 have hblk : ∀ p ∈ H1, blk mc p = blk m (σ p.1, p.2.ren σ) := fun p hp => blk_ren (hmc p.1 (mem_keys hp))
 have hmem : ∀ p ∈ H1, (σ p.1, p.2.ren σ) ∈ renH σ H1 := fun p hp => List.mem_map.2 ⟨p, hp, rfl⟩
 have hsc : SimH mc Z H1 w := by
  refine ⟨hs.frozen, fun p hp => ?_, ?_, fun p hp q hq b h1 h2 => ?_⟩
  ·have hh := hs.holds _ (hmem p hp)
   have hk := hmc p.1 (mem_keys hp)
   obtain ⟨k, o⟩ := p
   cases o with
   | box t cs =>
    obtain ⟨b, cur, h1, h2, h3, h4, h5⟩ := hh
    refine ⟨b, cur, by rw [hk]; exact h1, h2, RepL.unren σ cs _ (fun j hj L loc e => ?_) h3, h4, by rw [hk]; exact h5⟩
    have := (List.all_eq_true.1 hcl) _ hp
    have := (List.all_eq_true.1 this) j hj
    rw [hmc j (by simpa using this)]; exact e
   | row t sz fz els =>
    rcases hh with ⟨h1, h2, h3, ⟨b, h4⟩, h5⟩ | ⟨b, cap, cur, fr, h1, h2⟩
    ·exact .inl ⟨h1, h2, h3, ⟨b, by rw [hk]; exact h4⟩, by rw [hk]; exact h5⟩
    ·exact .inr ⟨b, cap, cur, fr, by rw [hk]; exact h1, by rw [hk]; exact h2⟩
   | map l =>
    obtain ⟨b, es, clock, h1, h2⟩ := hh
    exact ⟨b, es, clock, by rw [hk]; exact h1, by rw [hk]; exact h2⟩
   | glob g t cs => exact ⟨by rw [hk]; exact hh.1, hh.2.1, by rw [hk]; exact hh.2.2⟩
   | nest t e sz pd ls =>
    show HoldsN (mc k) _ _ t e sz pd ls
    rw [hk]; exact hh
   | gen G =>
    show G.holds (mc k) _ _
    rw [hk]; exact hh
  ·have := hs.nodup
   rw [keys_ren] at this
   exact nodup_of_map _ this
  ·rw [hblk p hp] at h1
   rw [hblk q hq] at h2
   exact hinj (mem_keys hp) (mem_keys hq) (hs.disj _ (hmem p hp) _ (hmem q hq) b h1 h2)
 refine ⟨mc, ⟨⟨hsc, fun k L loc e => ?_, SC.step.zext, SC.step.os, SC.step.tape, SC.step.output, SC.step.size, SC.step.frame, fun k hk => (hK k (c.hk ▸ hk)).1, fun k hk => ?_, fun p hp b hb => ?_, SC.step.znew⟩, hmcn⟩, fun v x hv hr => ?_⟩
 ·by_cases hk : k ∈ K0
  ·rw [hmc k (hK k hk).1, (hK k hk).2]
   exact SC.step.mext k L loc e
  ·rw [c.dom0 k hk L] at e; cases e
 ·funext L
  rw [hmcn k hk L, c.dom0 k (fun h => hk (hK k h).1) L]
 ·rw [hblk p hp] at hb
  exact SC.step.blks _ (hmem p hp) b hb
 ·refine Rep.unren σ v x (fun k hk L loc e => ?_) hr
  have := (List.all_eq_true.1 hv) k hk
  rw [hmc k (by simpa using this)]; exact e
theorem cutV {ρ ρ1 : Env} {H H1 F : Heap} {σ : Nat → Nat} (fz : List Nat) (hfz : nodupB fz = true) (hF : selH fz H = some F)
  (hsel : selH ((keys H1).map σ) H = some (renH σ H1)) (hdis : ∀ k ∈ (keys H1).map σ, k ∉ fz) (hσ : nodupB ((keys H1).map σ) = true)
  (hcl : (H1.all fun p => p.2.refs.all (keys H1).contains) = true) (hK : ∀ k ∈ K0, k ∈ keys H1 ∧ σ k = k)
  (hv : ∀ t, ρ1.get t = .undef ∨ (ρ1.get t).refs.all (keys H1).contains = true ∧ View (frz F) (ρ.get t) ((ρ1.get t).ren σ)) : Cut K0 ρ H ρ1 H1 := by
 intro c ρr w S
 obtain ⟨m, Z, SC, hr⟩ := S.freeze fz hfz hF
 have hks : keys (frz F) = fz := by rw [keys_frz]; exact (selH_mem hF).1
 have hnd := SC.step.sim.nodup
 have hRow : ∀ k t sz f els, (frz F).get k = some (.row t sz f els) → Holds m Z w k (.row t sz els.length els) := fun k t sz f els hg => by
  have hmem := Heap.get_mem hg
  have h1 := SC.step.sim.holds _ (List.mem_append_left _ hmem)
  have : f = els.length := by
   rcases mem_frz hmem with ⟨k', t'', sz', fz', els', h2, h3⟩ | ⟨h2, h3⟩
   ·simp only [Prod.mk.injEq, Obj.row.injEq] at h3
    obtain ⟨_, _, _, e1, e2⟩ := h3
    rw [e1, e2]
   ·exact absurd rfl (h3 t sz f els)
  subst this
  exact h1
 have hsel2 : selH ((keys H1).map σ) (frz F ++ remH fz H) = some (renH σ H1) := by
  rw [← hsel]
  clear hsel hσ
  generalize (keys H1).map σ = l at hdis
  induction l with
  | nil => rfl
  | cons k l ih =>
   have hk := hdis k (List.mem_cons_self ..)
   have e : (frz F ++ remH fz H).get k = H.get k := by
    rw [get_append, if_neg (by rw [hks]; exact hk), get_rem hk]
   simp only [selH, e, ih fun j hj => hdis j (List.mem_cons_of_mem _ hj)]
 obtain ⟨m', SC', hc⟩ := SC.cut _ hsel2 hσ (List.all_eq_true.2 fun k hk => by
   obtain ⟨h1, h2⟩ := hK k hk
   simp only [List.contains_eq_mem, decide_eq_true_eq]
   exact List.mem_map.2 ⟨k, h1, h2⟩) (List.all_eq_true.2 fun p hp => by
   obtain ⟨q, hq, rfl⟩ := List.mem_map.1 hp
   refine List.all_eq_true.2 fun j hj => ?_
   simp only [orefs_ren] at hj
   obtain ⟨i, hi, rfl⟩ := List.mem_map.1 hj
   have := (List.all_eq_true.1 ((List.all_eq_true.1 hcl) q hq)) i hi
   simp only [List.contains_eq_mem, decide_eq_true_eq] at this ⊢
   exact List.mem_map_of_mem this)
 obtain ⟨mc, SC2, hc2⟩ := simC_unren hσ hcl hK SC'
 refine ⟨mc, Z, SC2, fun t => ?_⟩
 rcases hv t with h | ⟨h1, h2⟩
 ·rw [h]; trivial
 ·refine hc2 _ _ h1 (hc _ _ (List.all_eq_true.2 fun j hj => ?_) (h2.rep hRow (hr t)))
  rw [refs_ren] at hj
  obtain ⟨i, hi, rfl⟩ := List.mem_map.1 hj
  have := (List.all_eq_true.1 h1) i hi
  simp only [List.contains_eq_mem, decide_eq_true_eq] at this ⊢
  exact List.mem_map_of_mem this
end

section
variable {S : Tab}
structure GR (S : Tab) (vs : List TC) where
 caps : List (Nat × Dy S.T)
 v : HL S.T vs
 eq : List (Nat × Nat)
def Tm.chk (T : Tm) (K0 : List Nat) (ns : List (Nat × Nat)) (nws : List (Nat × Dy S.T)) (fz : List Nat) (R : AH S.T) : Bool :=
 nodupB (nws.map (·.1)) && (nws.all (fun p => Nat.ble (p.1 + 1) (T.cs.length + T.vs.length)) && (ns.all (fun p => Nat.beq (asg ns p.1) p.2) && (nodupB (T.hp.map fun p => asg ns p.1) &&
  (closedT (T.sl.map (·.2)) T.hp && (K0.all (fun k => (T.hp.map (·.1)).contains k && Nat.beq (asg ns k) k) && (R.all (fun p => rowB p.2) && (nodupB fz && (T.hp.map fun p => asg ns p.1).all fun k => !fz.contains k)))))))
def Tm.get (T : Tm) (K0 : List Nat) (E : AE S.T) (H : AH S.T) : Option (GR S T.vs) := match Tp.reads T.hp false H (T.sl.map (·.2)) (T.sl.map fun p => E.get p.1) with
 | none => none
 | some r1 => match readH T.hp H (r1.ns ++ K0.map fun k => (k, k)) T.hp with
  | none => none
  | some r2 => match picks ((r1.app r2).ps.filter fun p => Nat.ble T.cs.length p.1) T.cs.length T.vs, selA (dedup r1.fz) H with
   | some v, some R => match selA (T.hp.map fun p => asg (r1.ns ++ (K0.map fun k => (k, k)) ++ r2.ns) p.1) H with
    | some _ => bif T.chk K0 (r1.ns ++ (K0.map fun k => (k, k)) ++ r2.ns) ((r1.app r2).ps.filter fun p => Nat.ble T.cs.length p.1) (dedup r1.fz) R then some ⟨(r1.app r2).ps.filter fun p => !Nat.ble T.cs.length p.1, v, (r1.app r2).eq⟩ else none
    | none => none
   | _, _ => none
def Tm.stE (T : Tm) (x : HL S.T T.cs) (v : HL S.T T.vs) : AE S.T := putE T.hp T.sl (toDy T.cs x ++ toDy T.vs v)
def Tm.stH (T : Tm) (x : HL S.T T.cs) (v : HL S.T T.vs) : AH S.T := putH T.hp (toDy T.cs x ++ toDy T.vs v)
theorem selA_sel : ∀ {ks : List Nat} {H F : AH S.T}, selA ks H = some F → selH ks (hV H) = some (hV F)
 | [], H, F, h => by cases h; rfl
 | k :: r, H, F, h => by
  simp only [selA] at h
  split at h
  ·rename_i o ho
   split at h
   ·rename_i F' hF'
    cases h
    simp only [selH, hV_get, ho, Option.map_some, selA_sel hF']
    rfl
   ·cases h
  ·cases h
theorem dget_left {a b : List (Dy S.T)} {j : Nat} {c : TC} (h : j < a.length) : dget (a ++ b) j c = dget a j c := by
 unfold dget
 rw [List.getElem?_append_left h]
theorem putE_get {hp : List (Nat × TO)} {ds : List (Dy S.T)} {t : Nat} : ∀ {sl : List (Nat × Tp)}, (putE (S := S) hp sl ds).get t = .raw .undef ∨ ∃ tp, (t, tp) ∈ sl ∧ (putE (S := S) hp sl ds).get t = tp.put hp ds
 | [] => .inl rfl
 | (d, tp) :: r => by
  simp only [putE, List.map_cons, AE.get]
  cases hb : Nat.beq t d with
  | true =>
   have := Nat.eq_of_beq_eq_true hb
   subst this
   exact .inr ⟨tp, List.mem_cons_self .., rfl⟩
  | false =>
   rcases putE_get (hp := hp) (ds := ds) (t := t) (sl := r) with h | ⟨tp', h1, h2⟩
   ·exact .inl h
   ·exact .inr ⟨tp', List.mem_cons_of_mem _ h1, h2⟩
theorem viewL_mem {R : Heap} {f g : Nat × Tp → V} : ∀ {l : List (Nat × Tp)}, ViewL R (l.map f) (l.map g) → ∀ p ∈ l, View R (f p) (g p)
 | q :: l, h, p, hp => by
  simp only [List.map_cons] at h
  cases h with
  | cons h1 h2 =>
   rcases List.mem_cons.1 hp with rfl | hp
   ·exact h1
   ·exact viewL_mem h2 p hp
def Tm.Rds (T : Tm) (K0 : List Nat) (E : AE S.T) (H : AH S.T) (x : HL S.T T.cs) (v : HL S.T T.vs) : Prop :=
 ∃ g, T.get K0 E H = some g ∧ EqAll g.eq ∧ (∀ p ∈ g.caps, p.2.2 = dget (toDy T.cs x) p.1 p.2.1) ∧ g.v = v
theorem namesL_mem {k : Nat} {tp : Tp} : ∀ {l : List Tp}, tp ∈ l → k ∈ tp.names → k ∈ Tp.namesL l
 | t :: r, h, hk => by
  simp only [Tp.namesL]
  rcases List.mem_cons.1 h with rfl | h
  ·exact List.mem_append_left _ hk
  ·exact List.mem_append_right _ (namesL_mem h hk)
theorem rens_map {σ : Nat → Nat} : ∀ l : List (A S.T), A.rens σ l = l.map (A.ren σ)
 | [] => by simp only [A.rens, List.map_nil]
 | a :: r => by rw [A.rens, rens_map r, List.map_cons]
theorem puts_map {hp : List (Nat × TO)} {ds : List (Dy S.T)} : ∀ l : List Tp, Tp.puts hp ds l = l.map (Tp.put hp ds)
 | [] => by simp only [Tp.puts, List.map_nil]
 | a :: r => by rw [Tp.puts, puts_map r, List.map_cons]
theorem get_cut (hS : S.OK) {T : Tm} {K0 : List Nat} {E : AE S.T} {H : AH S.T} {x : HL S.T T.cs} {v : HL S.T T.vs} (h : T.Rds K0 E H x v) : Cut K0 (eV E) (hV H) (eV (T.stE x v)) (hV (T.stH x v)) := by
 obtain ⟨g, h, heq, hcap, rfl⟩ := h
 unfold Tm.get at h
 split at h
 ·cases h
 ·rename_i r1 g1
  split at h
  ·cases h
  ·rename_i r2 g2
   split at h
   ·rename_i v R g3 g4
    split at h
    ·rename_i F1 g5
     generalize hL : r1.ns ++ (K0.map fun k => (k, k)) ++ r2.ns = L at *
     cases hb : T.chk K0 L ((r1.app r2).ps.filter fun p => Nat.ble T.cs.length p.1) (dedup r1.fz) R with
     | false => rw [hb] at h; cases h
     | true =>
      rw [hb] at h
      cases h
      simp only [Tm.chk, Bool.and_eq_true] at hb
      obtain ⟨b1, b2, b3, b4, b5, b6, b7, b8, b9⟩ := hb
      generalize hds : toDy T.cs x ++ toDy T.vs v = ds at *
      have hlen : (toDy T.cs x).length = T.cs.length := toDy_len ..
      have hs : Sat ds (r1.app r2).ps := fun p hp => by
       cases hq : Nat.ble T.cs.length p.1 with
       | false =>
        have h1 := hcap p (List.mem_filter.2 ⟨hp, by rw [hq]; rfl⟩)
        have hlt : p.1 < T.cs.length := Nat.lt_of_not_le fun h2 => by rw [Nat.ble_eq_true_of_le h2] at hq; cases hq
        rw [h1, ← hds]
        exact dget_left (by rw [hlen]; exact hlt)
       | true =>
        have hge := Nat.le_of_ble_eq_true hq
        have hm : p ∈ (r1.app r2).ps.filter (fun p => Nat.ble T.cs.length p.1) := List.mem_filter.2 ⟨hp, hq⟩
        have hlt := Nat.le_of_ble_eq_true ((List.all_eq_true.1 b2) p hm)
        have := picks_sat (nodup_of b1) T.vs T.cs.length v g3 p.1 p.2 hm hge (by omega)
        rw [← hds]
        refine dget_of ?_
        rw [List.getElem?_append_right (by rw [hlen]; exact hge), hlen]
        exact this
      have hn0 : Nam (asg L) L := fun p hp => Nat.eq_of_beq_eq_true ((List.all_eq_true.1 b3) p hp)
      have hn1 : Nam (asg L) (r1.ns ++ K0.map fun k => (k, k)) := by rw [← hL] at hn0 ⊢; exact hn0.left
      have hn2 : Nam (asg L) r2.ns := by rw [← hL] at hn0 ⊢; exact hn0.right
      have he : EqAll (r1.app r2).eq := heq
      have hr : RowsOK T.hp ds (asg L) H := rowsOK_of g2 hs.right hn1 hn2
      obtain ⟨k1, k2⟩ := readH_sel hS g2 hs.right hn1 hn2 he.right hr F1 g5
      have hV1 := reads_view hS (R := hV (frzL R)) _ _ r1 g1 hs.left hn1.left he.left hr fun k hk e c' f' l wl hg => ⟨_, selA_get g4 k (dedup_mem hk) _ hg⟩
      have hkeys : keys (hV (T.stH x v)) = T.hp.map (·.1) := putH_keys
      have hst : T.stH x v = putH T.hp ds := by rw [← hds]; rfl
      have hsE : T.stE x v = putE T.hp T.sl ds := by rw [← hds]; rfl
      have hmap : (keys (hV (T.stH x v))).map (asg L) = T.hp.map fun p => asg L p.1 := by rw [hkeys, List.map_map]; rfl
      simp only [closedT, Bool.and_eq_true] at b5
      refine cutV (σ := asg L) (F := hV R) (dedup r1.fz) b8 (selA_sel g4) ?_ ?_ (by rw [hmap]; exact b4) ?_ ?_ fun t => ?_
      ·rw [hmap, selA_sel g5, k1, hst]
       rfl
      ·rw [hmap]
       intro k hk hk2
       have := (List.all_eq_true.1 b9) k hk
       simp only [Bool.not_eq_true', List.contains_eq_mem, decide_eq_false_iff_not] at this
       exact this hk2
      ·rw [hkeys, hst]
       refine List.all_eq_true.2 fun p hp => ?_
       simp only [hV, putH, List.map_map, List.mem_map] at hp
       obtain ⟨q, hq, rfl⟩ := hp
       have := (List.all_eq_true.1 b5.2) q hq
       obtain ⟨k, o⟩ := q
       cases o with
       | box t cs => simpa [OA.o, TO.put, Obj.refs, puts_refs hS, TO.names] using this
       | row => rfl
       | map => rfl
       | rw i => show ((S.ro i).refs.all _) = true; rw [hS.rref]; rfl
      ·intro k hk
       have := (List.all_eq_true.1 b6) k hk
       simp only [Bool.and_eq_true, List.contains_eq_mem, decide_eq_true_eq] at this
       rw [hkeys]
       exact ⟨this.1, Nat.eq_of_beq_eq_true this.2⟩
      ·rw [hsE]
       simp only [eV_get]
       rcases putE_get (S := S) (hp := T.hp) (ds := ds) (t := t) (sl := T.sl) with h | ⟨tp, h1, h2⟩
       ·rw [h]; exact .inl rfl
       ·rw [h2]
        refine .inr ⟨?_, ?_⟩
        ·rw [put_refs hS, hkeys]
         refine List.all_eq_true.2 fun k hk => ?_
         exact (List.all_eq_true.1 b5.1) k (namesL_mem (List.mem_map.2 ⟨_, h1, rfl⟩) hk)
        ·rw [rens_map, puts_map, vs_map, vs_map, List.map_map, List.map_map, List.map_map, List.map_map] at hV1
         have := viewL_mem hV1 _ h1
         simp only [Function.comp] at this
         rw [ren_v hS] at this
         rw [← frzL_frz hS]
         exact this
    ·cases h
   ·cases h
end
end Go.EQ
namespace Go.EQ
open Go Go.RowKit Go.Eng Go.EV

section
variable {K0 : List Nat}
theorem asg_one {k k' : Nat} : ∀ j, asg [(k, k')] j = if j = k then k' else j := fun j => by
 simp only [asg]
 cases hb : Nat.beq j k with
 | true => rw [if_pos (Nat.eq_of_beq_eq_true hb)]; rfl
 | false => rw [if_neg fun e => by subst e; rw [Nat.beq_refl] at hb; cases hb]; rfl
theorem Holds.ren {m m' : M} {Z : ZM} {w : World} {σ : Nat → Nat} {k : Nat} {o : EV.Obj} (hk : m' (σ k) = m k) (hr : ∀ j L loc, m j L = some loc → m' (σ j) L = some loc) (hh : Holds m Z w k o) : Holds m' Z w (σ k) (o.ren σ) := by
 cases o with
 | box t cs =>
  obtain ⟨b, cur, h1, h2, h3, h4, h5⟩ := hh
  exact ⟨b, cur, by rw [hk]; exact h1, h2, RepL.ren σ cs _ (fun j _ L loc e => hr j L loc e) h3, h4, by rw [hk]; exact h5⟩
 | row t sz fz els =>
  rcases hh with ⟨h1, h2, h3, ⟨b, h4⟩, h5⟩ | ⟨b, cap, cur, fr, h1, h2⟩
  ·exact .inl ⟨h1, h2, h3, ⟨b, by rw [hk]; exact h4⟩, by rw [hk]; exact h5⟩
  ·exact .inr ⟨b, cap, cur, fr, by rw [hk]; exact h1, by rw [hk]; exact h2⟩
 | map l =>
  obtain ⟨b, es, clock, h1, h2⟩ := hh
  exact ⟨b, es, clock, by rw [hk]; exact h1, by rw [hk]; exact h2⟩
 | glob g t cs => exact ⟨by rw [hk]; exact hh.1, hh.2.1, by rw [hk]; exact hh.2.2⟩
 | nest t e sz pd ls =>
  show HoldsN (m' (σ k)) _ _ t e sz pd ls
  rw [hk]; exact hh
 | gen G =>
  show G.holds (m' (σ k)) _ _
  rw [hk]; exact hh
theorem env_ren {σ : Nat → Nat} {t : Nat} : ∀ ρ : Env, Env.get (ρ.map fun p => (p.1, p.2.ren σ)) t = (ρ.get t).ren σ
 | [] => by simp [Env.get, V.ren]
 | p :: r => by
  simp only [List.map_cons, Env.get]
  cases Nat.beq t p.1 with
  | true => rfl
  | false => exact env_ren r
theorem cut_move {ρ : Env} {H : Heap} {k k' : Nat} (hk : hasKey k H = true) (hk' : hasKey k' H = false) : Cut K0 ρ H (ρ.map fun p => (p.1, p.2.ren (asg [(k, k')]))) ((k, .gen gone) :: renH (asg [(k, k')]) H) := fun c ρr w ⟨m, Z, SC, hR⟩ => by
 have hkm := hasKey_iff.1 hk
 have hk'm : k' ∉ keys H := fun h => by rw [hasKey_iff.2 h] at hk'; cases hk'
 have hne : k ≠ k' := fun e => hk'm (e ▸ hkm)
 have hnone : ∀ L, m k' L = none := fun L => SC.dom k' hk'm L
 let m' : M := fun j L => if j = k' then m k L else m j L
 have hm1 : m' k' = m k := by funext L; simp [m']
 have hm2 : ∀ j, j ≠ k' → m' j = m j := fun j hj => by funext L; simp [m', hj]
 have hr : ∀ j L loc, m j L = some loc → m' (asg [(k, k')] j) L = some loc := fun j L loc e => by
  rw [asg_one]
  by_cases h : j = k
  ·subst h; rw [if_pos rfl, hm1]; exact e
  ·rw [if_neg h, hm2 j fun h => by subst h; rw [hnone] at e; cases e]; exact e
 have hmk : ∀ j ∈ keys H, m' (asg [(k, k')] j) = m j := fun j hj => by
  rw [asg_one]
  by_cases h : j = k
  ·subst h; rw [if_pos rfl, hm1]
  ·rw [if_neg h, hm2 j fun h => by subst h; exact hk'm hj]
 have hinj : ∀ {a b : Nat}, a ∈ keys H → b ∈ keys H → asg [(k, k')] a = asg [(k, k')] b → a = b := fun {a b} ha hb e => by
  rw [asg_one, asg_one] at e
  by_cases h1 : a = k <;> by_cases h2 : b = k
  ·rw [h1, h2]
  ·rw [if_pos h1, if_neg h2] at e; subst e; exact absurd hb hk'm
  ·rw [if_neg h1, if_pos h2] at e; subst e; exact absurd ha hk'm
  ·rw [if_neg h1, if_neg h2] at e; exact e
 have hs := SC.step.sim
 have hnot : k ∉ keys (renH (asg [(k, k')]) H) := fun h => by
  rw [keys_ren] at h
  obtain ⟨j, hj, e⟩ := List.mem_map.1 h
  rw [asg_one] at e
  by_cases h1 : j = k
  ·rw [if_pos h1] at e; exact hne e.symm
  ·rw [if_neg h1] at e; exact h1 e
 have hmem : ∀ p ∈ renH (asg [(k, k')]) H, ∃ q ∈ H, p = (asg [(k, k')] q.1, q.2.ren (asg [(k, k')])) := fun p hp => by
  obtain ⟨q, hq, e⟩ := List.mem_map.1 hp
  exact ⟨q, hq, e.symm⟩
 have hblk : ∀ q ∈ H, blk m' (asg [(k, k')] q.1, q.2.ren (asg [(k, k')])) = blk m q := fun q hq => (blk_ren (hmk q.1 (mem_keys hq)).symm).symm
 have hgone : ∀ b, blk m' (k, .gen gone) b → False := fun b h => h
 have hin : ∀ j, j ∉ keys ((k, EV.Obj.gen gone) :: renH (asg [(k, k')]) H) → j ≠ k' ∧ j ∉ keys H := fun j hj => by
  simp only [keys, List.map_cons, List.mem_cons, not_or] at hj
  obtain ⟨h1, h2⟩ := hj
  have h2 : j ∉ keys (renH (asg [(k, k')]) H) := h2
  rw [keys_ren] at h2
  exact ⟨fun e => h2 (List.mem_map.2 ⟨k, hkm, by rw [asg_one, if_pos rfl, e]⟩), fun h => h2 (List.mem_map.2 ⟨j, h, by rw [asg_one, if_neg h1]⟩)⟩
 refine ⟨m', Z, ⟨⟨⟨hs.frozen, fun p hp => ?_, ?_, fun p hp q hq b h1 h2 => ?_⟩, fun j L loc e => ?_, SC.step.zext, SC.step.os, SC.step.tape, SC.step.output, SC.step.size, SC.step.frame, fun j hj => ?_, fun j hj => ?_, fun p hp b hb => ?_, SC.step.znew⟩, fun j hj L => ?_⟩, fun t => ?_⟩
 ·rcases List.mem_cons.1 hp with rfl | hp
  ·exact trivial
  ·obtain ⟨q, hq, rfl⟩ := hmem p hp
   exact Holds.ren (hmk q.1 (mem_keys hq)) hr (hs.holds q hq)
 ·show (k :: keys (renH (asg [(k, k')]) H)).Nodup
  refine List.nodup_cons.2 ⟨hnot, ?_⟩
  rw [keys_ren]
  have hn := hs.nodup
  have : ∀ l : List Nat, l.Nodup → (∀ j ∈ l, j ∈ keys H) → (l.map (asg [(k, k')])).Nodup := fun l => by
   induction l with
   | nil => intro _ _; exact List.nodup_nil
   | cons a l ih =>
    intro h1 h2
    rw [List.nodup_cons] at h1
    rw [List.map_cons, List.nodup_cons]
    refine ⟨fun h => ?_, ih h1.2 fun j hj => h2 j (List.mem_cons_of_mem _ hj)⟩
    obtain ⟨b, hb, e⟩ := List.mem_map.1 h
    have := hinj (h2 b (List.mem_cons_of_mem _ hb)) (h2 a (List.mem_cons_self ..)) e
    subst this
    exact h1.1 hb
  exact this _ hn fun _ h => h
 ·rcases List.mem_cons.1 hp with rfl | hp <;> rcases List.mem_cons.1 hq with rfl | hq
  ·rfl
  ·exact (hgone b h1).elim
  ·exact (hgone b h2).elim
  ·obtain ⟨p', hp', rfl⟩ := hmem p hp
   obtain ⟨q', hq', rfl⟩ := hmem q hq
   rw [hblk p' hp'] at h1
   rw [hblk q' hq'] at h2
   rw [show p'.1 = q'.1 from hs.disj p' hp' q' hq' b h1 h2]
 ·have h1 := SC.step.mext j L loc e
  show m' j L = some loc
  rw [hm2 j fun h => by subst h; rw [hnone] at h1; cases h1]; exact h1
 ·have h1 := SC.step.keep j hj
  simp only [keys, List.map_cons, List.mem_cons]
  by_cases h : j = k
  ·exact .inl h
  ·right
   show j ∈ keys (renH (asg [(k, k')]) H)
   rw [keys_ren]
   exact List.mem_map.2 ⟨j, h1, by rw [asg_one, if_neg h]⟩
 ·obtain ⟨h1, h2⟩ := hin j hj
  rw [hm2 j h1]; exact SC.step.newk j h2
 ·rcases List.mem_cons.1 hp with rfl | hp
  ·exact (hgone b hb).elim
  ·obtain ⟨q, hq, rfl⟩ := hmem p hp
   rw [hblk q hq] at hb
   exact SC.step.blks q hq b hb
 ·obtain ⟨h1, h2⟩ := hin j hj
  rw [hm2 j h1]; exact SC.dom j h2 L
 ·rw [env_ren]
  exact Rep.ren _ _ _ (fun j _ L loc e => hr j L loc e) (hR t)
end
section
variable {S : Tab} {K0 : List Nat}
def AE.ren (σ : Nat → Nat) (E : AE S.T) : AE S.T := E.map fun p => (p.1, p.2.ren σ)
def goneB : OA S.T → Bool
 | .rw 0 => true
 | _ => false
def goneT : List (Nat × TO) → List Nat
 | [] => []
 | (k, .rw 0) :: r => k :: goneT r
 | _ :: r => goneT r
def mvFix : List Nat → AE S.T → AH S.T → AE S.T × AH S.T
 | [], E, H => (E, H)
 | k :: r, E, H => match H.get k with
  | none => mvFix r E H
  | some o => bif goneB o || H.has (6000000 + k) then mvFix r E H else mvFix r (AE.ren (asg [(k, 6000000 + k)]) E) ((k, .rw 0) :: rhA (asg [(k, 6000000 + k)]) H)
theorem AH.get_has {H : AH S.T} {k : Nat} {o : OA S.T} (h : H.get k = some o) : H.has k = true := by
 induction H with
 | nil => cases h
 | cons p r ih =>
  obtain ⟨d, a⟩ := p
  simp only [AH.get, AH.has] at h ⊢
  cases hb : Nat.beq k d with
  | true => rfl
  | false => rw [hb] at h; exact ih h
theorem mvFix_cut (hS : S.OK) : ∀ (l : List Nat) (E : AE S.T) (H : AH S.T), Cut K0 (eV E) (hV H) (eV (mvFix l E H).1) (hV (mvFix l E H).2)
 | [], E, H => Cut.refl
 | k :: r, E, H => by
  unfold mvFix
  split
  ·exact mvFix_cut hS r E H
  ·rename_i o ho
   cases hb : goneB o || H.has (6000000 + k) with
   | true => exact mvFix_cut hS r E H
   | false =>
    simp only [Bool.or_eq_false_iff] at hb
    refine Cut.trans ?_ (mvFix_cut hS r _ _)
    have := cut_move (K0 := K0) (ρ := eV E) (H := hV H) (k := k) (k' := 6000000 + k) (by rw [hV_has]; exact AH.get_has ho) (by rw [hV_has]; exact hb.2)
    have e1 : eV (AE.ren (asg [(k, 6000000 + k)]) E) = (eV E).map fun p => (p.1, p.2.ren (asg [(k, 6000000 + k)])) := by
     simp only [eV, AE.ren, List.map_map, Function.comp_def, ren_v hS]
    have e2 : hV (((k, .rw 0) :: rhA (asg [(k, 6000000 + k)]) H) : AH S.T) = (k, .gen gone) :: renH (asg [(k, 6000000 + k)]) (hV H) := by
     rw [← rhA_v hS]
     simp only [hV, List.map_cons, OA.o, hS.ro0]
    rw [e1, e2]
    exact this
abbrev NB := Nat → List (Nat × Bool × Nat × TC)
def AH.rem (k : Nat) (H : AH S.T) : AH S.T := H.filter fun p => !(Nat.beq p.1 k)
def nilA : A S.T → Bool
 | .raw .nils => true
 | _ => false
def rhB : A S.T → Bool
 | .raw .nils => true
 | .rh .. => true
 | _ => false
def frz1 (l : List Nat) (H : AH S.T) : Option (AH S.T) := match l with
 | [] => some H
 | [k] => match H.get k with
  | some o => some ((k, o.frz) :: AH.rem k H)
  | none => none
 | _ => none
def cellFix (kb : Nat) : List (Nat × Bool × Nat × TC) → AH S.T → AH S.T × List (Nat × Nat)
 | [], H => (H, [])
 | (j, true, e, c) :: r, H => match H.get kb with
  | some (.box t cs) => match cs[j]? with
   | some a => bif nilA a && (!(H.has (1000000000000 + kb * 1000 + j)) && Nat.ble 1 (cellsC S c)) then
     cellFix kb r ((1000000000000 + kb * 1000 + j, .row e c .zero [] ⟨_, rfl⟩) :: (kb, .box t (cs.set j (.rh (cellsC S c) (1000000000000 + kb * 1000 + j) 0))) :: AH.rem kb H)
    else cellFix kb r H
   | none => cellFix kb r H
  | _ => cellFix kb r H
 | (j, false, _, c) :: r, H => match H.get kb with
  | some (.box t cs) => match cs[j]? with
   | some a => bif rhB a then (match cell1 H (.l c) a with
    | some rx => match frz1 rx.fz H with
     | some H1 => match cellFix kb r ((kb, .box t (cs.set j (.dat (.l c) rx.x))) :: AH.rem kb H1) with
      | (H', q) => (H', rx.eq ++ q)
     | none => cellFix kb r H
    | none => cellFix kb r H)
    else cellFix kb r H
   | none => cellFix kb r H
  | _ => cellFix kb r H
def boxFix (nb : NB) : List (Nat × OA S.T) → AH S.T → AH S.T × List (Nat × Nat)
 | [], H => (H, [])
 | (k, .box t _) :: r, H => match cellFix k (nb t) H with
  | (H1, q1) => match boxFix nb r H1 with
   | (H2, q2) => (H2, q1 ++ q2)
 | _ :: r, H => boxFix nb r H
theorem rem_v {k : Nat} {H : AH S.T} : hV (AH.rem k H) = remH [k] (hV H) := by
 induction H with
 | nil => rfl
 | cons p r ih =>
  simp only [AH.rem, hV, remH, List.filter_cons, List.map_cons] at ih ⊢
  have : (![k].contains p.1) = !(Nat.beq p.1 k) := by
   simp only [List.contains_cons, List.contains_nil, Bool.or_false]
   cases hb : Nat.beq p.1 k with
   | true => rw [Nat.eq_of_beq_eq_true hb]; simp
   | false =>
    have : p.1 ≠ k := fun e => by rw [e, Nat.beq_refl] at hb; cases hb
    simp [this]
  rw [this]
  cases Nat.beq p.1 k with
  | true => simpa using ih
  | false => simp only [Bool.not_false, if_true, List.map_cons, ih]
theorem vs_set : ∀ (l : List (A S.T)) (j : Nat) (a : A S.T), A.vs (l.set j a) = (A.vs l).set j a.v := fun l j a => by
 simp only [vs_map, List.map_set]
theorem view_set {R : Heap} {a b : V} (h : View R a b) : ∀ {l : List V} {j : Nat}, l[j]? = some a → ViewL R l (l.set j b)
 | v :: l, 0, e => by
  simp only [List.getElem?_cons_zero, Option.some.injEq] at e
  subst e
  exact .cons h viewL_refl
 | v :: l, j + 1, e => by
  simp only [List.getElem?_cons_succ] at e
  exact .cons (.same _) (view_set h e)
theorem cellFix_cut (hS : S.OK) {kb : Nat} : ∀ (l : List (Nat × Bool × Nat × TC)) (ρ : Env) (H : AH S.T), EqAll (cellFix kb l H).2 → Cut K0 ρ (hV H) ρ (hV (cellFix kb l H).1)
 | [], ρ, H, _ => Cut.refl
 | (j, true, e, c) :: r, ρ, H, heq => by
  unfold cellFix at heq ⊢
  split at heq
  ·rename_i t cs hg
   split at heq
   ·rename_i a ha
    cases hb : nilA a && (!(H.has (1000000000000 + kb * 1000 + j)) && Nat.ble 1 (cellsC S c)) with
    | false => rw [hb] at heq; exact cellFix_cut hS r ρ H heq
    | true =>
     rw [hb] at heq
     simp only [Bool.and_eq_true, Bool.not_eq_true'] at hb
     obtain ⟨h1, h2, h3⟩ := hb
     refine Cut.trans ?_ (cellFix_cut hS r ρ _ heq)
     have ha2 : a = .raw .nils := by
      unfold nilA at h1
      split at h1
      ·rfl
      ·cases h1
     subst ha2
     have hsel : selH [kb] (hV H) = some [(kb, .box t (A.vs cs))] := by
      simp only [selH, hV_get, hg, Option.map_some, OA.o]
     refine cut_nilBox kb j (1000000000000 + kb * 1000 + j) e (cellsC S c) h3 hsel (by rw [vs_map, List.getElem?_map, ha]; simp only [Option.map_some, A.v]) rfl (by rw [hV_has]; exact h2) ?_
     rw [← rem_v]
     simp only [hV, List.map_cons, OA.o, vs_set, A.v, Fz.n, List.map_nil]
   ·rename_i ha
    exact cellFix_cut hS r ρ H heq
  ·rename_i hg
   exact cellFix_cut hS r ρ H heq
 | (j, false, e, c) :: r, ρ, H, heq => by
  unfold cellFix at heq ⊢
  split at heq
  ·rename_i t cs hg
   split at heq
   ·rename_i a ha
    cases hb : rhB a with
    | false => rw [hb] at heq; exact cellFix_cut hS r ρ H heq
    | true =>
     rw [hb] at heq
     simp only [cond_true] at heq ⊢
     split at heq
     ·rename_i rx hrx
      split at heq
      ·rename_i H1 hH1
       have heq1 : EqAll rx.eq := heq.left
       have heq2 := heq.right
       refine Cut.trans ?_ (cellFix_cut hS r ρ _ heq2)
       have hcs : (A.vs cs)[j]? = some a.v := by rw [vs_map, List.getElem?_map, ha]; rfl
       have hfin : ∀ X : AH S.T, hV (((kb, .box t (cs.set j (.dat (.l c) rx.x))) :: X) : AH S.T) = (kb, .box t ((A.vs cs).set j (valC S (.l c) rx.x))) :: hV X := fun X => by
        simp only [hV, List.map_cons, OA.o, vs_set, A.v]
       rw [hfin, rem_v]
       have hgb : (hV H).get kb = some (.box t (A.vs cs)) := by rw [hV_get, hg]; rfl
       unfold frz1 at hH1
       split at hH1
       ·rename_i hfz
        cases hH1
        have hv : View ([] : Heap) a.v (valC S (.l c) rx.x) := cell1_view hrx heq1 (by rw [hfz]; intro k hk; cases hk)
        exact cut_box [] [] hgb rfl rfl (view_set hv hcs) rfl
       ·rename_i k hfz
        split at hH1
        ·rename_i o ho
         cases hH1
         have hsel : selH [k] (hV H) = some (hV ([(k, o)] : AH S.T)) := by
          simp only [selH]
          rw [hV_get, ho]
          rfl
         have e1 : hV (((k, o.frz) :: AH.rem k H) : AH S.T) = frz (hV ([(k, o)] : AH S.T)) ++ remH [k] (hV H) := by
          rw [← frzL_frz hS, ← rem_v]; rfl
         have hv : View (frz (hV ([(k, o)] : AH S.T))) a.v (valC S (.l c) rx.x) := cell1_view hrx heq1 (by
          rw [hfz]
          intro k' hk' e' c' f l w hg'
          rw [List.mem_singleton.1 hk', ho] at hg'
          cases hg'
          rw [← frzL_frz hS, List.mem_singleton.1 hk']
          refine ⟨l.length, ?_⟩
          simp only [frzL, hV, List.map_cons, List.map_nil, Heap.get, Nat.beq_refl, cond_true, OA.frz, OA.o, Fz.n])
         refine Cut.trans (cut_freeze (F := hV ([(k, o)] : AH S.T)) [k] rfl hsel rfl) ?_
         rw [e1]
         by_cases hkb : kb = k
         ·subst hkb
          rw [hg] at ho; cases ho
          refine cut_box (frz (hV ([(kb, .box t cs)] : AH S.T))) [kb] ?_ ?_ frz_frz (view_set hv hcs) rfl
          ·simp only [hV, List.map_cons, List.map_nil, frz, OA.o, List.cons_append, Heap.get, Nat.beq_refl, cond_true]
          ·simp only [hV, List.map_cons, List.map_nil, frz, OA.o, List.cons_append, selH, Heap.get, Nat.beq_refl, cond_true]
         ·have hne : Nat.beq kb k = false := by
           cases h : Nat.beq kb k with
           | true => exact absurd (Nat.eq_of_beq_eq_true h) hkb
           | false => rfl
          have hk1 : keys (frz (hV ([(k, o)] : AH S.T))) = [k] := by rw [keys_frz]; rfl
          refine cut_box (frz (hV ([(k, o)] : AH S.T))) [k] ?_ ?_ frz_frz (view_set hv hcs) rfl
          ·rw [get_append, if_neg (by rw [hk1]; simpa using hkb), get_rem (by simpa using hkb)]
           exact hgb
          ·have := selH_of (H := frz (hV ([(k, o)] : AH S.T)) ++ remH [k] (hV H)) (F := frz (hV ([(k, o)] : AH S.T))) fun p hp => by
            have hp1 : p.1 = k := by
             have := mem_keys hp
             rw [hk1] at this
             exact List.mem_singleton.1 this
            rw [get_append, if_pos (by rw [hk1, hp1]; exact List.mem_singleton.2 rfl)]
            refine get_of_mem (by rw [hk1]; exact List.nodup_cons.2 ⟨fun h => (by cases h), List.nodup_nil⟩) hp
           rw [hk1] at this
           exact this
        ·cases hH1
       ·cases hH1
      ·rename_i hH1
       exact cellFix_cut hS r ρ H heq
     ·rename_i hrx
      exact cellFix_cut hS r ρ H heq
   ·rename_i ha
    exact cellFix_cut hS r ρ H heq
  ·rename_i hg
   exact cellFix_cut hS r ρ H heq
theorem boxFix_cut (hS : S.OK) {nb : NB} : ∀ (l : List (Nat × OA S.T)) (ρ : Env) (H : AH S.T), EqAll (boxFix nb l H).2 → Cut K0 ρ (hV H) ρ (hV (boxFix nb l H).1)
 | [], ρ, H, _ => Cut.refl
 | (k, .box t cs) :: r, ρ, H, heq => (cellFix_cut hS _ ρ H (EqAll.left (b := (boxFix nb r (cellFix k (nb t) H).1).2) heq)).trans (boxFix_cut hS r ρ _ (EqAll.right (a := (cellFix k (nb t) H).2) heq))
 | (k, .row ..) :: r, ρ, H, heq => boxFix_cut hS r ρ H heq
 | (k, .map ..) :: r, ρ, H, heq => boxFix_cut hS r ρ H heq
 | (k, .rw _) :: r, ρ, H, heq => boxFix_cut hS r ρ H heq
end
end Go.EQ
namespace Go.EQ
open Go Go.RowKit Go.Eng Go.EV

section
variable {S : Tab}
def eqnL {R : Type} (p : Pg R) : List (Nat × Nat) → Pg R
 | [] => p
 | q :: l => .eqn q.1 q.2 (eqnL p l)
def eqnD {R : Type} (ds : List (Dy S.T)) (p : Pg R) : List (Nat × Dy S.T) → Pg R
 | [] => p
 | q :: l => .eqn q.2.2 (dget ds q.1 q.2.1) (eqnD ds p l)
theorem eqnL_is {R : Type} {p : Pg R} {r : R} : ∀ {l : List (Nat × Nat)}, (eqnL p l).Is r → EqAll l ∧ p.Is r
 | [], h => ⟨fun _ hp => (nomatch hp), h⟩
 | q :: l, h => by
  obtain ⟨h1, h2⟩ := Is.eqn h
  obtain ⟨h3, h4⟩ := eqnL_is h2
  exact ⟨fun p hp => (List.mem_cons.1 hp).elim (fun e => e ▸ h1) (h3 p), h4⟩
theorem eqnD_is {R : Type} {ds : List (Dy S.T)} {p : Pg R} {r : R} : ∀ {l : List (Nat × Dy S.T)}, (eqnD ds p l).Is r → (∀ q ∈ l, q.2.2 = dget ds q.1 q.2.1) ∧ p.Is r
 | [], h => ⟨fun _ hp => (nomatch hp), h⟩
 | q :: l, h => by
  obtain ⟨h1, h2⟩ := Is.eqn h
  obtain ⟨h3, h4⟩ := eqnD_is h2
  exact ⟨fun p hp => (List.mem_cons.1 hp).elim (fun e => e ▸ h1) (h3 p), h4⟩
def rowE : List (Nat × TO) → Nat → Option (Nat × TC)
 | [], _ => none
 | (k', .row e c _ _) :: r, k => bif Nat.beq k k' then some (e, c) else rowE r k
 | _ :: r, k => rowE r k
def nilFix (hp : List (Nat × TO)) : List (Nat × Tp) → AE S.T → AH S.T → AE S.T × AH S.T
 | [], E, H => (E, H)
 | (t, tp) :: r, E, H => match tp with
  | .row sz k => match E.get t with
   | .raw .nils => match rowE hp k with
    | some (e, c) => bif !(H.has (5000000 + t)) && (Nat.ble 1 sz && Nat.beq sz (cellsC S c)) then nilFix hp r ((t, .rh sz (5000000 + t) 0) :: E) ((5000000 + t, .row e c .zero [] ⟨_, rfl⟩) :: H) else nilFix hp r E H
    | none => nilFix hp r E H
   | _ => nilFix hp r E H
  | _ => nilFix hp r E H
theorem nilFix_cut {K0 : List Nat} {hp : List (Nat × TO)} : ∀ (l : List (Nat × Tp)) (E : AE S.T) (H : AH S.T), Cut K0 (eV E) (hV H) (eV (nilFix hp l E H).1) (hV (nilFix hp l E H).2)
 | [], E, H => Cut.refl
 | (t, tp) :: r, E, H => by
  unfold nilFix
  split
  ·rename_i sz k
   split
   ·rename_i hE
    split
    ·rename_i e c _
     cases hb : !(H.has (5000000 + t)) && (Nat.ble 1 sz && Nat.beq sz (cellsC S c)) with
     | false => exact nilFix_cut r E H
     | true =>
      simp only [Bool.and_eq_true, Bool.not_eq_true'] at hb
      have e1 := Nat.eq_of_beq_eq_true hb.2.2
      subst e1
      refine Cut.trans ?_ (nilFix_cut r ((t, .rh (cellsC S c) (5000000 + t) 0) :: E) ((5000000 + t, .row e c .zero [] ⟨_, rfl⟩) :: H))
      exact cut_nilRow t (5000000 + t) e (cellsC S c) hb.2.1 (by rw [eV_get, hE]; simp only [A.v]) (by rw [hV_has]; exact hb.1)
    ·exact nilFix_cut r E H
   ·exact nilFix_cut r E H
  ·exact nilFix_cut r E H
def fixS (T : Tm) (E : AE S.T) (H : AH S.T) : AE S.T × AH S.T := match mvFix (goneT T.hp) E H with
 | (E', H') => nilFix T.hp T.sl E' H'
theorem fixS_cut (hS : S.OK) {K0 : List Nat} (T : Tm) (E : AE S.T) (H : AH S.T) : Cut K0 (eV E) (hV H) (eV (fixS T E H).1) (hV (fixS T E H).2) :=
 (mvFix_cut hS (goneT T.hp) E H).trans (nilFix_cut T.sl _ _)
def Tm.RdsN (T : Tm) (K0 : List Nat) (E : AE S.T) (H : AH S.T) (x : HL S.T T.cs) (v : HL S.T T.vs) : Prop := T.Rds K0 (fixS T E H).1 (fixS T E H).2 x v
theorem rdsN_cut (hS : S.OK) {T : Tm} {K0 : List Nat} {E : AE S.T} {H : AH S.T} {x : HL S.T T.cs} {v : HL S.T T.vs} (h : T.RdsN K0 E H x v) : Cut K0 (eV E) (hV H) (eV (T.stE x v)) (hV (T.stH x v)) :=
 (fixS_cut hS T E H).trans (get_cut hS h)
def getQ {R : Type} (T : Tm) (x : HL S.T T.cs) (k : HL S.T T.vs → Pg R) : Option (GR S T.vs) → Pg R
 | some g => eqnL (eqnD (toDy T.cs x) (k g.v) g.caps) g.eq
 | none => .fail
def getP {R : Type} (T : Tm) (K0 : List Nat) (E : AE S.T) (H : AH S.T) (x : HL S.T T.cs) (k : HL S.T T.vs → Pg R) : Pg R := match fixS T E H with
 | (E', H') => getQ T x k (T.get K0 E' H')
theorem getP_is {R : Type} {r : R} {T : Tm} {K0 : List Nat} {E : AE S.T} {H : AH S.T} {x : HL S.T T.cs} {k : HL S.T T.vs → Pg R} (h : (getP T K0 E H x k).Is r) : ∃ v, T.RdsN K0 E H x v ∧ (k v).Is r := by
 change (getQ T x k (T.get K0 (fixS T E H).1 (fixS T E H).2)).Is r at h
 unfold getQ at h
 split at h
 ·rename_i g hg
  obtain ⟨h1, h2⟩ := eqnL_is h
  obtain ⟨h3, h4⟩ := eqnD_is h2
  exact ⟨g.v, ⟨g, hg, h1, h3, rfl⟩, h4⟩
 ·exact (Is.fail h).elim
def getP2 {R : Type} (T1 T2 : Tm) (K0 : List Nat) (E : AE S.T) (H : AH S.T) (x1 : HL S.T T1.cs) (x2 : HL S.T T2.cs) (k1 : HL S.T T1.vs → Pg R) (k2 : HL S.T T2.vs → Pg R) : Pg R := match fixS T1 E H with
 | (E', H') => match T1.get K0 E' H' with
  | some g => getQ T1 x1 k1 (some g)
  | none => getP T2 K0 E H x2 k2
theorem getP2_is {R : Type} {r : R} {T1 T2 : Tm} {K0 : List Nat} {E : AE S.T} {H : AH S.T} {x1 : HL S.T T1.cs} {x2 : HL S.T T2.cs} {k1 : HL S.T T1.vs → Pg R} {k2 : HL S.T T2.vs → Pg R} (h : (getP2 T1 T2 K0 E H x1 x2 k1 k2).Is r) :
  (∃ v, T1.RdsN K0 E H x1 v ∧ (k1 v).Is r) ∨ ∃ v, T2.RdsN K0 E H x2 v ∧ (k2 v).Is r := by
 change (match T1.get K0 (fixS T1 E H).1 (fixS T1 E H).2 with
  | some g => getQ T1 x1 k1 (some g)
  | none => getP T2 K0 E H x2 k2).Is r at h
 split at h
 ·rename_i g hg
  obtain ⟨h1, h2⟩ := eqnL_is h
  obtain ⟨h3, h4⟩ := eqnD_is h2
  exact .inl ⟨g.v, ⟨g, hg, h1, h3, rfl⟩, h4⟩
 ·exact .inr (getP_is h)
def peekE (hp : List (Nat × TO)) (E : AE S.T) (H : AH S.T) : List (Nat × Tp) → List (Nat × Dy S.T)
 | [] => []
 | (t, tp) :: r => match tp.read hp false H (E.get t) with
  | some x => x.ps ++ peekE hp E H r
  | none => peekE hp E H r
def peekH (hp : List (Nat × TO)) (H : AH S.T) : List (Nat × TO) → List (Nat × Dy S.T)
 | [] => []
 | (k, to) :: r => match H.get k with
  | some o => match to.read hp H o with
   | some x => x.ps ++ peekH hp H r
   | none => peekH hp H r
  | none => peekH hp H r
def peekC (T : Tm) (so : List (Nat × Tp)) (ho : List (Nat × TO)) (E : AE S.T) (H : AH S.T) : Option (HL S.T T.cs) :=
 picks (peekE T.hp E H T.sl ++ (peekH T.hp H T.hp ++ (peekE ho E H so ++ peekH ho H ho))) 0 T.cs

def normA : A S.T → A S.T
 | .raw (.bool b) => .raw (.bool b)
 | .raw v => of1 v
 | a => a
theorem normA_v (a : A S.T) : (normA a).v = a.v := by
 unfold normA
 split
 ·rfl
 ·rw [of1_v]; simp [A.v]
 ·rfl
def putA (o : Oper) (a : A S.T) (E : AE S.T) : AE S.T := match o.dst with
 | some d => (d, normA a) :: E
 | none => E
theorem putA_v {o : Oper} {a : A S.T} {E : AE S.T} : eV (putA o a E) = EV.putE o.dst a.v (eV E) := by
 unfold putA EV.putE
 cases o.dst with
 | some d => simp only [eV, List.map_cons, normA_v]
 | none => rfl
def updA (H : AH S.T) : AH S.T → AH S.T
 | [] => H
 | p :: r => bif (updA H r).has p.1 then (updA H r).set p.1 p.2 else p :: updA H r
theorem set_keys : ∀ {H : Heap} {k : Nat} {o : EV.Obj}, keys (Heap.set H k o) = keys H
 | [], _, _ => rfl
 | (k', o') :: r, k, o => by
  simp only [Heap.set]
  cases hb : Nat.beq k k' with
  | true => rfl
  | false =>
   have := set_keys (H := r) (k := k) (o := o)
   simp only [keys, cond_false, List.map_cons] at this ⊢
   rw [this]
theorem set_get : ∀ {H : Heap} {k : Nat} {o : EV.Obj} {j : Nat}, k ∈ keys H → (Heap.set H k o).get j = if j = k then some o else H.get j
 | (k', o') :: r, k, o, j, hk => by
  simp only [Heap.set]
  cases hb : Nat.beq k k' with
  | true =>
   have := Nat.eq_of_beq_eq_true hb
   subst this
   simp only [cond_true, Heap.get]
   by_cases e : j = k
   ·subst e; simp
   ·have hc : Nat.beq j k = false := by
     cases h : Nat.beq j k with
     | true => exact absurd (Nat.eq_of_beq_eq_true h) e
     | false => rfl
    rw [if_neg e, hc]; rfl
  | false =>
   have hne : k ≠ k' := fun e => by subst e; rw [Nat.beq_refl] at hb; cases hb
   simp only [cond_false, Heap.get]
   have hk' : k ∈ keys r := by
    simp only [keys, List.map_cons, List.mem_cons] at hk
    exact hk.resolve_left hne
   rw [set_get hk']
   cases hc : Nat.beq j k' with
   | true =>
    have := Nat.eq_of_beq_eq_true hc
    subst this
    have hne' : ¬ j = k := Ne.symm hne
    simp [hne']
   | false => rfl
theorem updA_nodup {H : AH S.T} (h : (keys (hV H)).Nodup) : ∀ F' : AH S.T, (keys (hV (updA H F'))).Nodup
 | [] => h
 | p :: r => by
  have ih := updA_nodup h r
  simp only [updA]
  cases hb : (updA H r).has p.1 with
  | true => rw [cond_true, hV_set, set_keys]; exact ih
  | false =>
   rw [cond_false]
   rw [← hV_has] at hb
   show (p.1 :: keys (hV (updA H r))).Nodup
   refine List.nodup_cons.2 ⟨fun hm => ?_, ih⟩
   rw [hasKey_iff.2 hm] at hb; cases hb
theorem updA_get {H : AH S.T} (k : Nat) : ∀ F' : AH S.T, (hV (updA H F')).get k = if k ∈ keys (hV F') then (hV F').get k else (hV H).get k
 | [] => rfl
 | p :: r => by
  have ih := updA_get (H := H) k r
  simp only [updA]
  have hk : keys (hV (p :: r)) = p.1 :: keys (hV r) := rfl
  have hg : (hV (p :: r)).get k = bif Nat.beq k p.1 then some p.2.o else (hV r).get k := rfl
  rw [hk, hg]
  cases hb : (updA H r).has p.1 with
  | true =>
   rw [cond_true, hV_set, set_get (hasKey_iff.1 (by rw [hV_has]; exact hb))]
   by_cases e : k = p.1
   ·subst e; simp
   ·have : Nat.beq k p.1 = false := by
     cases h : Nat.beq k p.1 with
     | true => exact absurd (Nat.eq_of_beq_eq_true h) e
     | false => rfl
    rw [if_neg e, ih, this]
    simp only [List.mem_cons, e, false_or, cond_false]
  | false =>
   rw [cond_false]
   show (bif Nat.beq k p.1 then some p.2.o else (hV (updA H r)).get k) = _
   cases h : Nat.beq k p.1 with
   | true =>
    have := Nat.eq_of_beq_eq_true h
    subst this
    simp
   | false =>
    have e : k ≠ p.1 := fun e => by subst e; rw [Nat.beq_refl] at h; cases h
    simp only [cond_false, ih, List.mem_cons, e, false_or]
def hkeys (F : AH S.T) : List Nat := F.map (·.1)
def stepB (N : Nat) (H : AH S.T) (o : Oper) (kF kR : List Nat) (F' : AH S.T) : Bool :=
 dstB N o && (quietOp o.op && (nodupB (hkeys F' ++ kR) && (nodupB kF && (kF.all (hkeys F').contains && ((F'.all fun p => kF.contains p.1 || !(H.has p.1)) && (nodupB (kF ++ kR) && ((selA kF H).isSome && (selA kR H).isSome)))))))
def finK {R : Type} (N : Nat) (i : Nat) (o : Oper) (E : AE S.T) (H : AH S.T) (k : AE S.T → AH S.T → FP → Pg R) (kF kR : List Nat) (a : A S.T) (F' : AH S.T) : Pg R :=
 bif stepB N H o kF kR F' then k (putA o a E) (updA H F') ⟨i, hkeys F', kR⟩ else .fail
def opK {R : Type} (N : Nat) (i : Nat) (o : Oper) (E : AE S.T) (H : AH S.T) (k : AE S.T → AH S.T → FP → Pg R) : OR S → Pg R
 | .no => .fail
 | .one kF kR a F' => finK N i o E H k kF kR a F'
 | .bnd ov kF kR r => .bnd ov fun x => match r x with
  | some (a, F') => finK N i o E H k kF kR a F'
  | none => .fail
 | .eqs l r => eqnL (opK N i o E H k r) l
 | .alt ov kF kR r q => .orr ov (fun x => match r x with
  | some (a, F') => finK N i o E H k kF kR a F'
  | none => .fail) (opK N i o E H k q)
inductive Wnt where
 | bad | yes | skip
 | ask (d : Nat) (t : Bool) (want : Bool)
def wantA (all : List Oper) (E : AE S.T) (o : Oper) : Wnt := match o.guard with
 | none => .yes
 | some (j, want) => match (all[j]?).bind (·.dst) with
  | some d => match E.get d with
   | .raw (.bool true) => bif want then .yes else .skip
   | .raw (.bool false) => bif want then .skip else .yes
   | .raw .no => .skip
   | .dat .b t => .ask d t want
   | _ => .bad
  | none => .bad
structure Cx (S : Tab) where
 P : Program
 N : Nat
 K0 : List Nat
 T : CtT S
 cd : Nat → Option TC
 kk : Nat
 nb : NB
 rT : Tm
 x : HL S.T rT.cs
 pt : Tp := .no
 TP : CtPT S rT.vs := []
 pm : Bool := false
def skK {R : Type} (N : Nat) (i : Nat) (o : Oper) (E : AE S.T) (H : AH S.T) (k : AE S.T → AH S.T → FP → Pg R) : Pg R :=
 bif dstB N o && quietOp o.op then k (putA o (.raw .no) E) H ⟨i, [], []⟩ else .fail
abbrev PK (S : Tab) (R : Type) := Nat → Oper → List Oper → AE S.T → AH S.T → List FP → Pg R → Pg R
def rg {R : Type} (X : Cx S) (all : List Oper) (pk : PK S R) (k : AE S.T → AH S.T → List FP → Pg R) : Nat → List Oper → AE S.T → AH S.T → List FP → Pg R
 | _, [], E, H, done => k E H done
 | i, o :: r, E, H, done => match wantA all E o with
  | .bad => .fail
  | .yes => pk i o r E H done (opK X.N i o E H (fun E' H' fp => rg X all pk k (i + 1) r E' H' (fp :: done)) (opE X.P X.T X.cd E H (o.dst.getD 0 + 1000000) o.op))
  | .skip => skK X.N i o E H fun E' H' fp => rg X all pk k (i + 1) r E' H' (fp :: done)
  | .ask d t want => .cnd t
    (bif want then pk i o r ((d, .raw (.bool true)) :: E) H done (opK X.N i o ((d, .raw (.bool true)) :: E) H (fun E' H' fp => rg X all pk k (i + 1) r E' H' (fp :: done)) (opE X.P X.T X.cd ((d, .raw (.bool true)) :: E) H (o.dst.getD 0 + 1000000) o.op))
     else skK X.N i o ((d, .raw (.bool true)) :: E) H fun E' H' fp => rg X all pk k (i + 1) r E' H' (fp :: done))
    (bif want then skK X.N i o ((d, .raw (.bool false)) :: E) H (fun E' H' fp => rg X all pk k (i + 1) r E' H' (fp :: done))
     else pk i o r ((d, .raw (.bool false)) :: E) H done (opK X.N i o ((d, .raw (.bool false)) :: E) H (fun E' H' fp => rg X all pk k (i + 1) r E' H' (fp :: done)) (opE X.P X.T X.cd ((d, .raw (.bool false)) :: E) H (o.dst.getD 0 + 1000000) o.op)))
def rgR {R : Type} (X : Cx S) (all : List Oper) (ip : Nat) (k : AE S.T → AH S.T → List FP → Pg R) : Nat → List Oper → AE S.T → AH S.T → List FP → Pg R
 | _, [], E, H, done => k E H done
 | i, o :: r, E, H, done => bif ancB (masks all []) i ip then rgR X all ip k (i + 1) r E H done else match wantA all E o with
  | .bad => .fail
  | .yes => opK X.N i o E H (fun E' H' fp => rgR X all ip k (i + 1) r E' H' (fp :: done)) (opE X.P X.T X.cd E H (o.dst.getD 0 + 1000000) o.op)
  | .skip => skK X.N i o E H fun E' H' fp => rgR X all ip k (i + 1) r E' H' (fp :: done)
  | .ask d t want => .cnd t
    (bif want then opK X.N i o ((d, .raw (.bool true)) :: E) H (fun E' H' fp => rgR X all ip k (i + 1) r E' H' (fp :: done)) (opE X.P X.T X.cd ((d, .raw (.bool true)) :: E) H (o.dst.getD 0 + 1000000) o.op)
     else skK X.N i o ((d, .raw (.bool true)) :: E) H fun E' H' fp => rgR X all ip k (i + 1) r E' H' (fp :: done))
    (bif want then skK X.N i o ((d, .raw (.bool false)) :: E) H (fun E' H' fp => rgR X all ip k (i + 1) r E' H' (fp :: done))
     else opK X.N i o ((d, .raw (.bool false)) :: E) H (fun E' H' fp => rgR X all ip k (i + 1) r E' H' (fp :: done)) (opE X.P X.T X.cd ((d, .raw (.bool false)) :: E) H (o.dst.getD 0 + 1000000) o.op))
def injR {α R : Type} (inj : Option (α → R)) (q : α) : Pg R := match inj with
 | some j => .ret (some (j q))
 | none => .fail
def ptB {pc : List TC} (t : PTry S pc) (H : AH S.T) : Bool := nodupB (t.kF ++ t.kR) && ((selA t.kF H).isSome && (selA t.kR H).isSome)
def pkT {R : Type} (X : Cx S) (inj : Option (HL S.T X.rT.vs → R)) : PK S R := fun _ o _ E H _ p => bif X.pm then (match panO X.TP X.pt E H o.op with
  | .none => p
  | .op q => injR inj q
  | .call t => eqnL (.orr t.o (fun q => bif ptB t H then injR inj q else .fail) p) t.eqs) else p
def pkD {R : Type} (X : Cx S) (all : List Oper) (inj : Option (HL S.T X.rT.vs → R)) : PK S R := fun i o rest E H done p => bif X.pm then (match panO X.TP X.pt E H o.op with
  | .none => p
  | .op _ => .fail
  | .call t => eqnL (.orr t.o (fun q => bif ptB t H then rgR X all i (fun _ _ done' => bif chkPan all ⟨i, t.kF, t.kR⟩ done'.reverse && (done'.take (done'.length - done.length)).all (fun x => indepB all x ⟨i, t.kF, t.kR⟩) then injR inj q else .fail) (i + 1) rest E H done else .fail) p) t.eqs) else p
end
end Go.EQ
