/- texts that the proof reaches, part 3 -/
import Derived.Test.YtffencjoddkghaaGreatDoorKb
import Derived.Shelf.Strings.Builder1
import Derived.Shelf.Strings.Builder2
import Derived.Shelf.Small.Wraps
import Derived.Shelf.Strings.BuilderF
import Derived.Shelf.Strings.BuilderK
import Derived.Shelf.Strconv.Itoa0
import Derived.Shelf.Strconv.Itoa1
import Derived.Shelf.LaysM
import Derived.Shelf.Strconv.Itoa2
import Derived.Shelf.Strconv.Itoa3
import Derived.Shelf.Strings.Search1
import Derived.Shelf.Strings.Search2
import Derived.Shelf.Strings.Search3
import Derived.Shelf.Strings.Shaped
import Derived.Shelf.Strings.Prefix
import Derived.Shelf.Strings.Fields
import Derived.Shelf.Strings.SplitShaped
import Derived.Shelf.Unicode.Latin
import Derived.Shelf.Unicode.Is16White
import Derived.Shelf.Unicode.IsSpaceAny
import Derived.Shelf.Unicode.Is16Any
import Derived.Shelf.Unicode.Is32Any
import Derived.Shelf.Unicode.ExclAny
import Derived.Ground.Names2Prog
import Derived.Shelf.Slices.SearchI
import Derived.Test.YtffencjoddkghaaGreatDoorProg
import Derived.ProofKit
import Derived.Deep.Slices
import Derived.Deep.Fields
import Derived.ChangeSame
import Derived.LaidMore
import Derived.OpenShut
import Derived.Lib.SmallJoins
set_option linter.all false
namespace Go.EQ
open Go Go.RowKit Go.Eng Go.EV
section
variable{S:Tab}
def isRh:A S.T->Bool
 |.rh ..=>true
 |_=>false
def zBt(H:AH S.T)(a:A S.T):Option (A S.T×List Nat×List (Nat×Nat)):=match a with
 |.rh sz k n=>match H.get k with
  |some (.row _ c _ _ _)=>match ze9 H (.l c) (.rh sz k n)with
   |some rx=>some (.dat (.l c) rx.x,rx.fz,rx.eq)
   |none=>none
  |_=>none
 |a=>some (a,[],[])
def zi8(H:AH S.T):List (A S.T)->Option (List (A S.T)×List Nat×List (Nat×Nat))
 |[]=>some ([],[],[])
 |a::r=>match zBt H a with
  |some (a',f,e)=>match zi8 H r with
   |some (r',f',e')=>some (a'::r',f++f',e++e')
   |none=>none
  |none=>none
def Q3(P:Program)(E:AE S.T)(H:AH S.T)(cd:Nat->Option TC)(d t n:Nat)(parts:List (Nat×Operand)):OR S:=match parts with
 |[(i,.tmp s)]=>match E.get s with
  |.ag cs=>bif cs.any isRh then(match zi8 H cs with
    |some (cs',fz,eq)=>match qf P ((s,.ag cs')::E) cd d t n [(i,.tmp s)]with
     |.one [] [] a F'=>match uD (dedup fz) H with
      |some R=>bif yu (dedup fz)&&F'.all (λp=>!(dedup fz).contains p.1)then .eqs eq (.one (dedup fz) [] a (F'++zcf R))else .no
      |none=>.no
     |_=>.no
    |none=>.no)
   else qf P E cd d t n [(i,.tmp s)]
  |_=>qf P E cd d t n [(i,.tmp s)]
 |ps=>qf P E cd d t n ps
def zq6{H:AH S.T}{a a':A S.T}{fz:List Nat}{eq:List (Nat×Nat)}(h:zBt H a=some (a',fz,eq))(heq:wO eq){R:Heap}(hR:RowsIn H R fz):View R a.v a'.v:=by
 unfold zBt at h;split at h
 ·split at h
  ·split at h
   ·rename_i rx hrx
    cases h;have:=Hm hrx heq hR;simpa only[A.v]using this
   ·cases h
  ·cases h
 ·cases h
  exact .same _
def Zm{H:AH S.T}{R:Heap}:∀{cs cs':List (A S.T)}{fz:List Nat}{eq:List (Nat×Nat)},zi8 H cs=some (cs',fz,eq)->wO eq->RowsIn H R fz->kr R (A.vs cs) (A.vs cs')
 |[],cs',fz,eq,h,heq,hR=>by
  cases h;simp only[A.vs];exact .nil
 |a::r,cs',fz,eq,h,heq,hR=>by
  simp only[zi8]at h;split at h
  ·rename_i a' f e h1
   split at h
   ·rename_i r' f' e' h2
    cases h;simp only[A.vs];exact .cons (zq6 h1 heq.left hR.left) (Zm h2 heq.right hR.right)
   ·cases h
  ·cases h
def zBu{P:Program}{ρ ρ2:Env}{o:Oper}{v:V}{F0 R:Heap}(h:EV.Loc P o ρ2 [] v F0)(hv:∀x∈o.op.operands,View R (evV ρ x) (evV ρ2 x))(hR:frz R=R)(hd:∀p∈F0,∀q∈R,p.1≠q.1):EV.Loc P o ρ R v (F0++R):=by
 intro ρr m Z w hops hs hnew
 have hRk:∀k t sz fz els,R.get k=some (.row t sz fz els)->Holds m Z w k (.row t sz els.length els):=λk t sz fz els hg=>by
  have hmem:=Heap.get_mem hg;have h1:=hs.holds _ hmem
  have:fz=els.length:=by
   rw[<- hR]at hmem
   rcases qd hmem with⟨k',t',sz',fz',els',h2,h3⟩|⟨h2,h3⟩
   ·simp only[Prod.mk.injEq,Obj.row.injEq]at h3
    obtain⟨_,_,_,e1,e2⟩:=h3;rw[e1,e2]
   ·exact absurd rfl (h3 t sz fz els)
  subst this;exact h1
 refine(h ρr m Z w (λx hx=>View.rep hRk (hv x hx) (hops x hx)) ⟨hs.frozen,λp hp=>(by cases hp),List.nodup_nil,λp hp=>(by cases hp)⟩ (λk hk _=>?_)).mono ?_
 ·obtain⟨p,hp,rfl⟩:=List.mem_map.1 hk
  refine hnew p.1 (by rw[zH];exact List.mem_append_left _ (mem_keys hp)) λhkR=>?_
  obtain⟨q,hq,e⟩:=List.mem_map.1 hkR;exact hd p hp q hq e.symm
 ·rintro x w' ⟨m',Z',st,hr⟩
  exact⟨m',Z',Step.frame_rule (F:=[]) (G:=R) hs st hd,hr⟩
def zm3{H:AH S.T}:∀{ks:List Nat}{R:AH S.T},uD ks H=some R->keys (hV R)=ks
 |[],R,h=>by cases h;rfl
 |k::ks,R,h=>by
  simp only[uD]at h;split at h
  ·split at h
   ·rename_i o _ l hl
    cases h;have:=zm3 hl;simp only[hV,keys,mk9,List.map_map]at this ⊢;rw[this]
   ·cases h
  ·cases h
def zfe(hS:S.OK){P:Program}{E:AE S.T}{H:AH S.T}{dst:Option Tmp}{ty:TypeId}{pos:String}{aft:Array Edge}{gd:Option (Nat×Bool)}{cd:Nat->Option TC}{d t n:Nat}{parts:List (Nat×Operand)}:(Q3 P E H cd d t n parts).OK P ⟨dst,.buildSlice t n parts.toArray,ty,pos,aft,gd⟩ E H:=by
 unfold Q3;split
 ·rename_i i s
  split
  ·rename_i cs hE
   cases hb:cs.any isRh with
   |false=>exact qI hS
   |true =>
    simp only[ctQ];split
    ·rename_i cs' fz eq h1
     have hA:=qI (P:=P) (E:=(s,.ag cs')::E) (H:=H) (dst:=dst) (ty:=ty) (pos:=pos) (aft:=aft) (gd:=gd) hS (cd:=cd) (d:=d) (t:=t) (n:=n) (parts:=[(i,.tmp s)]);split
     ·rename_i a F' h2
      rw[h2]at hA;split
      ·rename_i R h3
       cases hc:yu (dedup fz)&&F'.all (λp=>!(dedup fz).contains p.1)with
       |false=>trivial
       |true =>
        simp only[bn]at hc;intro heq F R0 hF hR0;cases zm hR0;have e2:F=R:=Option.some.inj (hF.symm.trans h3);subst e2;have hl:=hA [] [] rfl rfl;rw[show hV F'++hV ([]:AH S.T)=hV F' from List.append_nil _]at hl
        have hview:∀x∈(Oper.mk dst (.buildSlice t n [(i,Operand.tmp s)].toArray) ty pos aft gd).op.operands,View (frz (hV F)) (evV (eV E) x) (evV (eV ((s,.ag cs')::E:AE S.T)) x):=λx hx=>by
         cases x with
         |tmp q =>
          show View _ ((eV E).get q) ((eV ((s,.ag cs')::E:AE S.T)).get q)
          rw[J0,J0];simp only[AE.get]
          cases hq:Nat.beq q s with
          |false=>exact .same _
          |true =>
           have:=eb hq;subst this;rw[hE];simp only[ctQ,A.v]
           exact .agg (Zm h1 heq λk hk e c' f' l wl hg=>by
            rw[<- kC hS]
            exact⟨_,VX h3 k (qX hk) _ hg⟩)
         |_=>exact .same _
        have hd:∀p∈hV F',∀q∈frz (hV F),p.1≠q.1:=λp hp q hq e=>by
         obtain⟨p',hp',rfl⟩:=List.mem_map.1 hp;have h5:=(List.all_eq_true.1 hc.2) p' hp';have h6:=mem_keys hq;rw[wL,zm3 h3]at h6;simp only[Bool.not_eq_true',List.contains_eq_mem,decide_eq_false_iff_not]at h5;exact h5 (by rw[e];exact h6)
        have:=zAv (Fa:=[]) (R:=hV F) (F2:=frz (hV F)) rfl (zBu (R:=frz (hV F)) hl hview oO hd)
        show EV.Loc P _ (eV E) (hV F++hV ([]:AH S.T)) a.v (hV (F'++zcf F)++hV ([]:AH S.T))
        rw[show hV F++hV ([]:AH S.T)=hV F from List.append_nil _,show hV (F'++zcf F)++hV ([]:AH S.T)=hV F'++hV (zcf F) from(List.append_nil _).trans List.map_append,kC hS];exact this
      ·trivial
     ·trivial
    ·trivial
  ·exact qI hS
 ·exact qI hS
abbrev CtT(S:Tab):=List (Nat×Ct S)
def CtT.OK(P:Program):CtT S->Prop
 |[]=>True
 |p::r=>(ze P p.1/\p.2.OK P p.1)/\CtT.OK P r
def zq7(H:AH S.T)(d f:Nat)(vs:List (A S.T)):CtT S->OR S
 |[]=>.no
 |(g,c)::r=>bif Nat.beq f g then match c.call H d vs with
   |some q=>bif c.alt then q.orAlt (zq7 H d f vs r)else q
   |none=>zq7 H d f vs r
  else zq7 H d f vs r
def zZx(a b:A S.T)(op:BinOp):OR S:=match intOf a,intOf b with
 |some (k,m),some (k',n)=>bif decide (k=k')then .bnd (grd (n≠0)) [] [] λ_=>some (.dat (.i k) (match op with|.quo=>k.wrap (m.tdiv n)|_=>m.tmod n),[])else .no
 |_,_=>.no
def shlA(a b:A S.T):OR S:=match intOf a,intOf b with
 |some (k,m),some (_,n)=>.bnd (grd (0<=n)) [] [] λ_=>some (.dat (.i k) (k.wrap (m*2 ^ (min n.toNat k.bits))),[])
 |_,_=>.no
def shrA(a b:A S.T):OR S:=match intOf a,intOf b with
 |some (k,m),some (_,n)=>.bnd (grd (0<=n)) [] [] λ_=>some (.dat (.i k) (m.fdiv (2 ^ (min n.toNat k.bits))),[])
 |_,_=>.no
def zPw(P:Program)(H:AH S.T)(d s t:Nat):A S.T->OR S
 |.rh sz k n=>match H.get k with
  |some (.row _ (.i .u8) _ l w)=>bif zAy P s t&&Nat.beq sz 1 then .eqs [(n,w.n)] (.one [] [k] (.dat .s (bytesOf l)) [])else .no
  |_=>.no
 |_=>.no
def zq8:A S.T->Option (Nat×Nat×Nat×Nat×Nat)
 |.rh sz k n=>some (sz,k,n,0,n)
 |.raw (.sl sz k L o n)=>some (sz,k,L,o,n)
 |_=>none
def zU6:Fz->Bool
 |.zero=>true
 |_=>false
def strOf:A S.T->Option ak
 |.dat .s ys=>some ys
 |_=>none
def zi9(b:Bool):A S.T->OR S
 |.raw .nili=>.one [] [] (.raw (.bool b)) []
 |.ifc _ _=>.one [] [] (.raw (.bool (!b))) []
 |_=>.no
def zPx(P:Program)(H:AH S.T)(t:Nat)(x y:A S.T):OR S:=match oL P t with
 |none=>.no
 |some (e,sz,_)=>match zq8 x with
  |none=>.no
  |some (sz',k,L,o,n)=>match H.get k with
   |some (.row e' c fz l w)=>bif Nat.beq e e'&&(Nat.beq sz sz'&&(Nat.beq sz (zT S c)&&(zU6 fz&&zGk c)))then(match strOf y with
    |some ys=>if h:c=.i .u8 then .eqs [(L,w.n)] (.bnd (grd (o+n<=L)) [k] [] λ_ =>
      some (.dat (.i .i64) ((min ys.length n:Nat):Int),[(k,.row e (.i .u8) .zero (zL2 (h▸l:List ((TC.i .u8).ty S.T)) o ((ys.take (min ys.length n)).map λb=>((UInt8.toNat b:Nat):Int))) ⟨w.n,by subst h;rw[zb7];exact w.h⟩)]))else .no
    |none=>match zTt H k c y with
     |some (ys,kR,eq)=>.eqs ((L,w.n)::eq) (.bnd (grd (o+n<=L)) [k] kR λ_ =>
      some (.dat (.i .i64) ((min ys.length n:Nat):Int),[(k,.row e c .zero (zL2 l o (ys.take (min ys.length n))) ⟨w.n,by rw[zb7];exact w.h⟩)]))
     |none=>.no)else .no
   |_=>.no
def anyS:Int⊕ak->ak
 |.inr s=>s
 |.inl _=>[]
def anyI:Int⊕ak->Int
 |.inl n=>n
 |.inr _=>0
def zPy:Int⊕ak->Bool
 |.inr _=>true
 |.inl _=>false
def zPz(P:Program)(t:Nat):A S.T->OR S
 |.dat (.a ti ts) u=>bif Nat.beq t ts&&(!(Nat.beq ti t)&&(zfd P t&&zck P t (.string ⟨#[]⟩)))then .one [] [] (.tup [.dat .s (anyS u),.dat .b (zPy u)]) []
  else bif Nat.beq t ti&&(!(Nat.beq ts t)&&(zfd P t&&zck P t (.int .i64 0)))then .one [] [] (.tup [.dat (.i .i64) (anyI u),.dat .b (!(zPy u))]) []else .no
 |.ifc t' a=>bif Nat.beq t t'&&zfd P t then .one [] [] (.tup [a,.raw (.bool true)]) []else .no
 |_=>.no
def zja(P:Program)(t n:Nat):Bool:=match oK P t with
 |some (some m)=>Nat.beq n m
 |_=>false
def zxn(P:Program)(H:AH S.T)(t g:Nat):List Nat->OR S
 |[]=>.no
 |k::r=>match H.get k with
  |some (.rw i)=>match hg:S.gl i with
   |some (g',_,l)=>bif Nat.beq g g'&&zja P t l.length then .one [] [k] (.ag (l.map λs=>.dat .s s)) []else zxn P H t g r
   |none=>zxn P H t g r
  |_=>zxn P H t g r
def zH5:List (A S.T)->Option (List ak)
 |[]=>some []
 |.dat .s x::r=>match zH5 r with
  |some l=>some (x::l)
  |none=>none
 |_=>none
def zBv(P:Program)(t:Nat)(a i:A S.T):OR S:=match a with
 |.ag cs=>match zH5 cs,intOf i with
  |some l,some (_,n)=>bif zZw P t l.length then .bnd (idx (α:=ak) l n) [] [] λx=>some (.dat .s x,[])else .no
  |_,_=>.no
 |a=>zBc P t a i
def K9:List V->List V->Bool
 |[],[]=>true
 |.nilp::a,.nilp::b=>K9 a b
 |.nils::a,.nils::b=>K9 a b
 |.nilm::a,.nilm::b=>K9 a b
 |_,_=>false
def mkB(t:Nat)(cs:List (A S.T)):OA S.T:=match S.ga t with
 |some (i,d,cs0)=>bif K9 (A.vs cs) cs0 then .gn i d.1 d.2 else .box t cs
 |none=>.box t cs
def cvO:OR S->OR S
 |.one kF [] a [(k,.box t cs)]=>.one kF [] a [(k,mkB t cs)]
 |q=>q
def memE(P:Program)(T:CtT S)(cd:Nat->Option TC)(E:AE S.T)(H:AH S.T)(d:Nat):Op->OR S
 |.load t (.global g)=>zxn P H t g (H.map (·.1))
 |.load t x=>zPj P H t (evA E x)
 |.typeAssert x _ t true=>zPz P t (evA E x)
 |.store t x y=>zBb P H t (evA E x) (evA E y)
 |.indexAddr t x y=>match zcj P t (evA E x) (evA E y)with
  |some r=>r
  |none=>Yd P t (evA E x) (evA E y)
 |.index t x y=>zBv P t (evA E x) (evA E y)
 |.slice t x lo hi none=>zBd P E t (evA E x) lo hi
 |.alloc t=>cvO (zBh P d t)
 |.box t x=>cvO (boxA d t (evA E x))
 |.buildSlice t n ps=>Q3 P E H cd d t n ps.toList
 |.makeSlice t x y=>Ye P E cd d t x y
 |.makeMap t none=>bif (cd (3000000+t)).isSome then zi7 P cd d t else zi0 P cd d t
 |.lookup t x y co=>match ohB (evA E x)with
  |some k=>zq1 P H t k (evA E y) co
  |none=>zqv P H t (evA E x) (evA E y) co
 |.mapUpdate t x y z=>match ohB (evA E x)with
  |some k=>zq2 P H t k (evA E y) (evA E z)
  |none=>Yf P H t (evA E x) (evA E y) (evA E z)
 |.call ⟨.builtin .append,⟨[x,y]⟩,⟨[t,t']⟩⟩=>ziy P E H cd d t t' x y
 |.call ⟨.builtin .copy,⟨[x,y]⟩,⟨[t,_]⟩⟩=>zPx P H t (evA E x) (evA E y)
 |.call ⟨.value (.func f),l,_⟩=>zq7 H d f (l.toList.map (evA E)) T
 |.call ⟨.value x,l,_⟩=>match evA E x with
  |.fn f a b=>zq7 H d f (a++l.toList.map (evA E)++b) T
  |_=>.no
 |.makeInterface t x=>bif zmz P t then .one [] [] (.ifc t (evA E x)) []else .no
 |.convert s t x=>zPw P H d s t (evA E x)
 |.binOp .eql t x (.const .nilIface) _=>bif zPv P t then zi9 true (evA E x)else .no
 |.binOp .neq t x (.const .nilIface) _=>bif zPv P t then zi9 false (evA E x)else .no
 |.binOp .eql t x (.const (.map none)) _=>zZv P H true t (evA E x)
 |.binOp .neq t x (.const (.map none)) _=>zZv P H false t (evA E x)
 |.binOp .add _ x y _=>zqt (evA E x) (evA E y)
 |.binOp .quo _ x y _=>zZx (evA E x) (evA E y) .quo
 |.binOp .rem _ x y _=>zZx (evA E x) (evA E y) .rem
 |.binOp .shl _ x y _=>shlA (evA E x) (evA E y)
 |.binOp .shr _ x y _=>shrA (evA E x) (evA E y)
 |_=>.no
def zMd(P:Program)(T:CtT S)(cd:Nat->Option TC)(E:AE S.T)(H:AH S.T)(d:Nat)(op:Op):OR S:=match zPf P E op with
 |some a=>.one [] [] a []
 |none=>memE P T cd E H d op
def zTu:A S.T->Bool
 |.nh ..=>true
 |_=>false
def zm4:A S.T->A S.T
 |.nh sz k n=>.rh sz k n
 |a=>a
def zff(E:AE S.T):AE S.T:=E.map λp=>(p.1,zm4 p.2)
def zU7(E:AE S.T):Bool:=E.any λp=>zTu p.2
def zP0{α:Type}:List α->Bool
 |_::_=>true
 |[]=>false
def zP1:A S.T->Bool
 |.raw .nils=>true
 |_=>false
def zZy(P:Program)(b:Bool)(t:Nat)(a y:A S.T):Option (OR S):=match a with
 |.nh _ _ n=>bif zP1 y&&zz4 P t .nils then some (.one [] [] (.dat .b (bif b then decide (n=0)else !decide (n=0))) [])else none
 |_=>none
def zq9(P:Program)(E:AE S.T)(H:AH S.T)(t t':Nat)(x y:Operand):OR S:=match oL P t with
 |some (e,sz,bytes)=>bif Nat.beq t t'&&Nat.ble 1 bytes then match evA E x with
  |.nh sz' k n=>match H.get k with
   |some (.row e' c fz l w)=>match zTt H k c (zm4 (evA E y))with
    |some (ys,kR,eq)=>bif zP0 ys&&(Nat.beq e e'&&(Nat.beq sz' sz&&(Nat.beq sz (zT S c)&&zGk c)))then
      .eqs ((n,w.n)::eq) (.bnd (grd ((l++ys).length*bytes<=140737488355328)) [k] kR (λ_=>some (.nh sz k (l++ys).length,[(k,.row e c (fz.grow l.length) (l++ys) ⟨_,rfl⟩)])))
     else .no
    |none=>.no
   |_=>.no
  |_=>.no
  else .no
 |none=>.no
def opN(P:Program)(T:CtT S)(cd:Nat->Option TC)(E:AE S.T)(H:AH S.T)(d:Nat):Op->OR S
 |.binOp .eql t x y t'=>match zZy P true t (evA E x) (evA E y)with
  |some r=>r
  |none=>zMd P T cd (zff E) H d (.binOp .eql t x y t')
 |.binOp .neq t x y t'=>match zZy P false t (evA E x) (evA E y)with
  |some r=>r
  |none=>zMd P T cd (zff E) H d (.binOp .neq t x y t')
 |.call ⟨.builtin .append,⟨[x,y]⟩,⟨[t,t']⟩⟩=>bif zTu (evA E x)then zq9 P E H t t' x y else zMd P T cd (zff E) H d (.call ⟨.builtin .append,⟨[x,y]⟩,⟨[t,t']⟩⟩)
 |.store t x y=>zMd P T cd E H d (.store t x y)
 |op=>zMd P T cd (zff E) H d op
def opE(P:Program)(T:CtT S)(cd:Nat->Option TC)(E:AE S.T)(H:AH S.T)(d:Nat)(op:Op):OR S:=bif zU7 E then opN P T cd E H d op else zMd P T cd E H d op
def zH6(E:AE S.T)(t:Nat):(zff E).get t=zm4 (E.get t):=by
 induction E with
 |nil=>rfl
 |cons p r ih =>
  obtain⟨d,a⟩:=p;simp only[zff,mk9,AE.get]at ih ⊢
  cases Nat.beq t d with
  |true=>rfl
  |false=>exact ih
def zU8{v:V}:zTu (ofV (S:=S) v)=false:=by
 cases v<;>rfl
def zU9{v:V}:zTu (zU0 (S:=S) v)=false:=by
 unfold zU0;split
 ·rfl
 ·exact zU8
def zH7{a:A S.T}(h:zTu a=false):zm4 a=a:=by
 cases a<;>first|rfl|cases h
def zra(E:AE S.T)(x:Operand):evA (zff E) x=zm4 (evA E x):=by
 cases x with
 |tmp t=>exact zH6 E t
 |const v=>exact(zH7 zU9).symm
 |global g=>rfl
 |func f=>rfl
def zBw{a:A S.T}{m:Option M}{Z:ZM}{x:Value}(h:Rep m Z a.v x):Rep m Z (zm4 a).v x:=by
 cases a<;>first|exact h|skip
 simp only[A.v]at h;simp only[zm4,A.v];exact zid h
def zjb{P:Program}{o:Oper}{E:AE S.T}{F F':Heap}{v:V}(h:EV.Loc P o (eV (zff E)) F v F'):EV.Loc P o (eV E) F v F':=λρr m Z w hops hs hnew=>h ρr m Z w (λx hx=>by
 rw[zZ,zra]
 exact zBw (by rw[<- zZ];exact hops x hx)) hs hnew
def Q4{P:Program}{o:Oper}{E:AE S.T}{H:AH S.T}:∀{r:OR S},r.OK P o (zff E) H->r.OK P o E H
 |.no,_=>trivial
 |.one ..,h=>λF R hF hR=>zjb (h F R hF hR)
 |.bnd ..,h=>λx hx a F' hr F R hF hR=>zjb (h x hx a F' hr F R hF hR)
 |.eqs l r,h=>λhe=>Q4 (h he)
 |.alt ..,h=>⟨λx hx a F' hr F R hF hR=>zjb (h.1 x hx a F' hr F R hF hR),Q4 h.2⟩
section
variable{P:Program}{E:AE S.T}{H:AH S.T}{dst:Option Tmp}{ty:TypeId}{pos:String}{aft:Array Edge}{gd:Option (Nat×Bool)}
def VY(hS:S.OK){d f:Nat}{vs:List (A S.T)}{o:Oper}(hv:ze P f->zw7 P o (eV E) f (A.vs vs)):∀{T:CtT S},CtT.OK P T->(zq7 H d f vs T).OK P o E H
 |[],_=>trivial
 |(g,c)::r,hT=>by
  simp only[zq7]
  cases hb:Nat.beq f g with
  |true =>
   have:=eb hb;subst this;rw[ctQ];split
   ·rename_i q hq
    have h1:=zPu hS hT.1.2 (hv hT.1.1) hq
    cases c.alt with
    |true=>exact ztu h1 (VY hS hv hT.2)
    |false=>exact h1
   ·exact VY hS hv hT.2
  |false=>exact VY hS hv hT.2
def zBx{op:BinOp}(hop:op=.quo∨op=.rem){t t':TypeId}{x y:Operand}:(zZx (evA E x) (evA E y) op).OK P ⟨dst,.binOp op t x y t',ty,pos,aft,gd⟩ E H:=by
 unfold zZx;split
 ·rename_i k m k' n h1 h2
  cases hk:decide (k=k')with
  |false=>trivial
  |true =>
   have:=of_decide_eq_true hk;subst this;intro u hu a F' hr F R hF hR;cases hr;cases zm hF;cases zm hR;have hn:=xl hu;have:=zO2 (P:=P) (ρ:=eV E) (dst:=dst) (ty:=ty) (pos:=pos) (aft:=aft) (gd:=gd) (t:=t) (t':=t') hop (by rw[zZ];exact kA h1) (by rw[zZ];exact kA h2) hn
   rcases hop with rfl|rfl<;>exact this
 ·trivial
def zP2{t t':TypeId}{x y:Operand}:(shlA (evA E x) (evA E y)).OK P ⟨dst,.binOp .shl t x y t',ty,pos,aft,gd⟩ E H:=by
 unfold shlA;split
 ·rename_i k m k' n h1 h2
  intro u hu a F' hr F R hF hR;cases hr;cases zm hF;cases zm hR
  have hn:¬n<0:=by have:=xl hu;omega
  exact zm2 (.inl rfl) (by rw[zZ];exact kA h1) (by rw[zZ];exact kA h2) (by simp only[zfw,hn,if_false];rfl)
 ·trivial
def zP3{t t':TypeId}{x y:Operand}:(shrA (evA E x) (evA E y)).OK P ⟨dst,.binOp .shr t x y t',ty,pos,aft,gd⟩ E H:=by
 unfold shrA;split
 ·rename_i k m k' n h1 h2
  intro u hu a F' hr F R hF hR;cases hr;cases zm hF;cases zm hR
  have hn:¬n<0:=by have:=xl hu;omega
  exact zm2 (.inr rfl) (by rw[zZ];exact kA h1) (by rw[zZ];exact kA h2) (by simp only[zfw,hn,if_false];rfl)
 ·trivial
def zH8{d s t:Nat}{x:Operand}:(zPw P H d s t (evA E x)).OK P ⟨dst,.convert s t x,ty,pos,aft,gd⟩ E H:=by
 unfold zPw;split
 ·rename_i sz k n e
  split
  ·rename_i et fz l wl hg
   cases hb:zAy P s t&&Nat.beq sz 1 with
   |false=>trivial
   |true =>
    simp only[bn]at hb;have h1:=eb hb.2;subst h1;intro heq F R hF hR;have hL:n=l.length:=(heq _ (msQ.2 rfl)).trans wl.h.symm;cases zm hF;cases wN hg hR;exact zmh (l:=l) hb.1 (by rw[zZ,e];rfl) hL
  ·trivial
 ·trivial
def zgh{op:BinOp}{b:Bool}(hop:(op=.eql/\b=true)∨(op=.neq/\b=false)){t t':TypeId}{x:Operand}(h:zPv P t=true):(zi9 b (evA E x)).OK P ⟨dst,.binOp op t x (.const .nilIface) t',ty,pos,aft,gd⟩ E H:=by
 unfold zi9;split
 ·rename_i e
  intro F R hF hR;cases zm hF;cases zm hR;exact zgg (v:=.nili) (b:=true) (.inl ⟨rfl,rfl⟩) (by rcases hop with⟨rfl,rfl⟩|⟨rfl,rfl⟩<;>simp) h (by rw[zZ,e];simp only[A.v])
 ·rename_i tx u e
  intro F R hF hR;cases zm hF;cases zm hR;exact zgg (v:=.ifc tx u.v) (b:=false) (.inr ⟨_,_,rfl,rfl⟩) (by rcases hop with⟨rfl,rfl⟩|⟨rfl,rfl⟩<;>simp) h (by rw[zZ,e];simp only[A.v])
 ·trivial
def zBy{a:A S.T}{sz k L o n:Nat}(h:zq8 a=some (sz,k,L,o,n)):a.v=.sl sz k L o n:=by
 unfold zq8 at h;split at h
 ·cases h;simp only[A.v]
 ·cases h;simp only[A.v]
 ·cases h
def zP4{a:A S.T}{ys:ak}(h:strOf a=some ys):a.v=.str ys:=by
 unfold strOf at h;split at h
 ·cases h;simp only[A.v,vE]
 ·cases h
def zH9(hS:S.OK){t t2:Nat}{x y:Operand}:(zPx P H t (evA E x) (evA E y)).OK P ⟨dst,.call ⟨.builtin .copy,#[x,y],#[t,t2]⟩,ty,pos,aft,gd⟩ E H:=by
 unfold zPx;split
 ·trivial
 ·rename_i e sz by_ hT
  split
  ·trivial
  ·rename_i sz' k L o n hx
   split
   ·rename_i e' c fz l w hg
    cases hb:Nat.beq e e'&&(Nat.beq sz sz'&&(Nat.beq sz (zT S c)&&(zU6 fz&&zGk c)))with
    |false=>trivial
    |true =>
     simp only[bn]at hb;obtain⟨h1,h2,h3,h4,h5⟩:=hb;have h1:=eb h1;have h2:=eb h2;have h3:=eb h3;subst h1;subst h2;subst h3
     have hfz:fz=.zero:=by cases fz<;>first|rfl|cases h4
     subst hfz;have hxv:=zBy hx;rw[ctQ];split
     ·rename_i ys hy
      split
      ·rename_i hc
       subst hc;intro heq u hu a F' hr F R hF hR;have hL:L=l.length:=(heq _ (msQ.2 rfl)).trans w.h.symm;cases hr;cases zm hR;cases wN hg hF;exact zqp (q:=l) hT (by rw[zZ];exact hxv) hL.symm (xl hu) (by rw[zZ];exact zP4 hy) rfl rfl
      ·trivial
     ·split
      ·rename_i ys kR eq hy
       intro heq u hu a F' hr F R hF hR;have hL:L=l.length:=(heq _ al).trans w.h.symm;cases hr;cases wN hg hF;obtain⟨g1,g2⟩:=zqu hS hy (λp hp=>heq p (mcQ _ hp)) hR
       have hm:∀k e,c≠.m k e:=λk e hc=>by subst hc;cases h5
       have hl:=zAu (P:=P) (ρ:=eV E) (dst:=dst) (ty:=ty) (pos:=pos) (aft:=aft) (gd:=gd) (t2:=t2) (x:=x) (y:=y) (k:=k) (R:=hV R) (HY S c) (q:=l) (ys:=ys) hT (by rw[zZ];exact hxv) hL.symm (xl hu) g1 (λa=>zA8 hS c a hm) (λa=>vU hS c a) (by rw[oM];exact g2) rfl rfl;exact hl
      ·trivial
   ·trivial
def zIa(hS:S.OK){t xt:Nat}{x:Operand}:(zPz P t (evA E x)).OK P ⟨dst,.typeAssert x xt t true,ty,pos,aft,gd⟩ E H:=by
 unfold zPz;split
 ·rename_i ti ts u hx
  cases h1:Nat.beq t ts&&(!(Nat.beq ti t)&&(zfd P t&&zck P t (.string ⟨#[]⟩)))with
  |true =>
   simp only[bn,Bool.not_eq_true']at h1;obtain⟨e1,e2,e3,e4⟩:=h1;have:=eb e1;subst this;intro F R hF hR;cases zm hF;cases zm hR
   cases u with
   |inr s=>exact Jd (v:=.str s) e3 (by rw[zZ,hx];rfl)
   |inl n=>exact QK (z:=.str []) (zv:=.string ⟨#[]⟩) (t':=ti) (v:=.int .i64 n) e3 e2 e4 (λ_ _=>rfl) (by rw[zZ,hx];rfl)
  |false =>
   rw[cf]
   cases h2:Nat.beq t ti&&(!(Nat.beq ts t)&&(zfd P t&&zck P t (.int .i64 0)))with
   |false=>trivial
   |true =>
    simp only[bn,Bool.not_eq_true']at h2;obtain⟨e1,e2,e3,e4⟩:=h2;have:=eb e1;subst this;intro F R hF hR;cases zm hF;cases zm hR
    cases u with
    |inl n=>exact Jd (v:=.int .i64 n) e3 (by rw[zZ,hx];rfl)
    |inr s=>exact QK (z:=.int .i64 0) (zv:=.int .i64 0) (t':=ts) (v:=.str s) e3 e2 e4 (λ_ _=>rfl) (by rw[zZ,hx];rfl)
 ·rename_i t' a hx
  cases h1:Nat.beq t t'&&zfd P t with
  |false=>trivial
  |true =>
   simp only[bn]at h1;have:=eb h1.1;subst this;intro F R hF hR;cases zm hF;cases zm hR;exact Jd (v:=a.v) h1.2 (by rw[zZ,hx];simp only[A.v])
 ·trivial
def zxo{t n:Nat}(h:zja P t n=true):oK P t=some (some n):=by
 unfold zja at h;split at h
 ·rename_i m e
  rw[e,eb h]
 ·cases h
def zMe:∀l:List ak,A.vs (l.map λs=>A.dat (T:=S.T) .s s)=l.map V.str
 |[]=>rfl
 |s::l=>by
  show(A.dat (T:=S.T) .s s).v::A.vs (l.map λs=>A.dat (T:=S.T) .s s)=V.str s::l.map V.str
  rw[zMe l];rfl
def zap(hS:S.OK){t g:Nat}:∀{ks:List Nat},(zxn P H t g ks).OK P ⟨dst,.load t (.global g),ty,pos,aft,gd⟩ E H
 |[]=>trivial
 |k::r=>by
  unfold zxn;split
  ·rename_i i hk
   split
   ·rename_i g' u l hg
    cases hb:Nat.beq g g'&&zja P t l.length with
    |false=>exact zap hS
    |true =>
     simp only[bn]at hb;have:=eb hb.1;subst this;obtain⟨ob,hob⟩:=hS.glob i g u l hg;intro F R hF hR;cases zm hF;cases wN hk hR;have hl:=zm0 (P:=P) (ρ:=eV E) (dst:=dst) (ty:=ty) (pos:=pos) (aft:=aft) (gd:=gd) (g:=g) (k:=k) (ob:=ob) (cs:=l.map V.str) (zxo hb.2) (by rw[List.length_map])
     show EV.Loc P _ _ [(k,S.ro i)] _ [(k,S.ro i)]
     rw[hob]
     have e:(A.ag (l.map λs=>A.dat (T:=S.T) .s s)).v=.agg (l.map V.str):=by
      simp only[A.v];exact congrArg V.agg (zMe l)
     rw[e];exact hl
   ·exact zap hS
  ·exact zap hS
def zBz:∀{cs:List (A S.T)}{l:List ak},zH5 cs=some l->A.vs cs=l.map V.str
 |[],l,h=>by cases h;rfl
 |a::r,l,h=>by
  unfold zH5 at h;split at h
  ·rename_i e;cases e
  ·rename_i x r' e
   cases e;split at h
   ·rename_i l' e'
    cases h;simp only[A.vs,mk9,zBz e'];rfl
   ·cases h
  ·cases h
def zB0{t:Nat}{x ix:Operand}:(zBv P t (evA E x) (evA E ix)).OK P ⟨dst,.index t x ix,ty,pos,aft,gd⟩ E H:=by
 unfold zBv;split
 ·rename_i cs hx
  split
  ·rename_i l k n h1 h2
   cases hb:zZw P t l.length with
   |false=>trivial
   |true =>
    intro y hy a F' hr F R hF hR;cases hr;cases zm hF;cases zm hR;obtain⟨g1,g2,g3⟩:=zim hy
    have hlt:n.toNat<l.length:=ab
    refine zm1 (k:=k) (i:=n) (cs:=l.map V.str) (by rw[List.length_map];exact hb) (by rw[zZ,hx];simp only[A.v,zBz h1]) (by rw[zZ];exact kA h2) g1 ?_;rw[List.getElem?_map,List.getElem?_eq_getElem hlt,g3,List.getD_eq_getElem?_getD,List.getElem?_eq_getElem hlt];rfl
  ·trivial
 ·exact zBe
def Je:∀{a b:List V},K9 a b=true->a=b
 |[],[],_=>rfl
 |.nilp::a,.nilp::b,h=>by rw[Je (a:=a) (b:=b) h]
 |.nils::a,.nils::b,h=>by rw[Je (a:=a) (b:=b) h]
 |.nilm::a,.nilm::b,h=>by rw[Je (a:=a) (b:=b) h]
def zIb{o:Oper}{ρ:Env}{F:Heap}{v:V}{k:Nat}{o1 o2:EV.Obj}(h:EV.Loc P o ρ F v [(k,o1)])(hc:∀m Z w,Holds m Z w k o1->Holds m Z w k o2/\∀b,blk m (k,o2) b->blk m (k,o1) b):EV.Loc P o ρ F v [(k,o2)]:=by
 intro ρr m Z w hops hs hfr
 refine(h ρr m Z w hops hs hfr).mono λx w' ⟨m',Z',st,hr⟩=>⟨m',Z',⟨⟨st.sim.frozen,λp hp=>?_,st.sim.nodup,λp hp q hq b _ _=>?_⟩,st.mext,st.zext,st.os,st.tape,st.output,st.size,st.frame,st.keep,st.newk,λp hp b hb=>?_,st.znew⟩,hr⟩
 ·cases msQ.1 hp
  exact(hc _ _ _ (st.sim.holds _ (msQ.2 rfl))).1
 ·cases msQ.1 hp;cases msQ.1 hq;rfl
 ·cases msQ.1 hp
  exact st.blks _ (msQ.2 rfl) b ((hc _ _ _ (st.sim.holds _ (msQ.2 rfl))).2 b hb)
def zMf(hS:S.OK){o:Oper}:∀{q:OR S},q.OK P o E H->(cvO q).OK P o E H:=by
 intro q h;unfold cvO;split
 ·rename_i kF a k t cs
  intro F R hF hR;have h1:=h F R hF hR;cases zm hR;unfold mkB;split
  ·rename_i i d cs0 hg
   cases hb:K9 (A.vs cs) cs0 with
   |false=>exact h1
   |true =>
    rw[ctQ];have e:=Je hb;have h2:EV.Loc P o (eV E) (hV F++[]) a.v [(k,.box t (A.vs cs))]:=h1
    show EV.Loc P o (eV E) (hV F++[]) a.v [(k,S.go i d.1 d.2)]
    rw[e]at h2
    exact zIb h2 λm Z w=>hS.gbox t i d cs0 hg m Z w k
  ·exact h1
 ·exact h
def zP5(hS:S.OK){T:CtT S}(hT:CtT.OK P T){cd:Nat->Option TC}{d:Nat}{op:Op}:(memE P T cd E H d op).OK P ⟨dst,op,ty,pos,aft,gd⟩ E H:=by
 unfold memE;split
 ·exact zap hS
 ·exact zHp hS
 ·exact zIa hS
 ·exact zBk hS
 ·split
  ·rename_i r hr
   exact zmy hr
  ·exact ziv
 ·exact zB0
 ·exact zBf
 ·exact zMf hS zBi
 ·exact zMf hS (zPk hS)
 ·exact zfe hS
 ·exact ziz hS
 ·rename_i t
  cases hb:(cd (3000000+t)).isSome with
  |true=>exact zq3 hS
  |false=>exact zqx
 ·split
  ·rename_i k hk
   exact zxl hS (zMb hk)
  ·exact zxi hS
 ·split
  ·rename_i k hk
   exact zxm hS (zMb hk)
  ·exact zi1 hS
 ·exact zgd hS
 ·exact zH9 hS
 ·rename_i f l ts
  refine VY hS (λhb=>?_) hT;rw[<- zca]
  exact zw8 (l:=l.toList) hb rfl
 ·rename_i x l ts _
  split
  ·rename_i f a b hx
   refine VY hS (λhb=>?_) hT;rw[JZ,JZ,<- zca];exact zAo (l:=l.toList) hb (by rw[zZ,hx];simp only[A.v]) rfl
  ·trivial
 ·rename_i t x
  cases hb:zmz P t with
  |false=>trivial
  |true =>
   intro F R hF hR;cases zm hF;cases zm hR;have:=zq5 (P:=P) (ρ:=eV E) (dst:=dst) (ty:=ty) (pos:=pos) (aft:=aft) (gd:=gd) (x:=x) hb rfl;rw[zZ]at this;simpa[hV,A.v]using this
 ·exact zH8
 ·rename_i t x t'
  cases hb:zPv P t with
  |true=>exact zgh (.inl ⟨rfl,rfl⟩) hb
  |false=>trivial
 ·rename_i t x t'
  cases hb:zPv P t with
  |true=>exact zgh (.inr ⟨rfl,rfl⟩) hb
  |false=>trivial
 ·exact zBs hS (.inl ⟨rfl,rfl⟩)
 ·exact zBs hS (.inr ⟨rfl,rfl⟩)
 ·exact zxf
 ·exact zBx (.inl rfl)
 ·exact zBx (.inr rfl)
 ·exact zP2
 ·exact zP3
 ·trivial
def zB1{op:BinOp}{b:Bool}(hop:(op=.eql/\b=true)∨(op=.neq/\b=false)){t t':TypeId}{x y:Operand}{r:OR S}(h:zZy P b t (evA E x) (evA E y)=some r):r.OK P ⟨dst,.binOp op t x y t',ty,pos,aft,gd⟩ E H:=by
 unfold zZy at h;split at h
 ·rename_i sz k n e
  cases hb:zP1 (evA E y)&&zz4 P t .nils with
  |false=>rw[hb]at h;cases h
  |true =>
   rw[hb]at h;simp only[bn]at hb;simp only[ctQ,Option.some.injEq]at h;subst h
   have ey:evA E y=.raw .nils:=by
    have:=hb.1;unfold zP1 at this;split at this
    ·assumption
    ·cases this
   intro F R hF hR;cases zm hF;cases zm hR;intro ρr m Z w hops hs _;have hX:=hops x (by simp[Op.operands]);have hY:=hops y (by simp[Op.operands]);rw[zZ,e]at hX;rw[zZ,ey]at hY;simp only[A.v]at hX hY
   have hv:∃u,Rep (some m) Z u (ev ρr x)/\ZQ P t u .nils=some (decide (n=0)):=by
    cases n with
    |zero =>
     obtain⟨f,hf,loc,h1,h2,h3,⟨h4,_⟩|⟨_,_,h4⟩⟩:=hX
     ·exact absurd rfl h4
     ·exact⟨.nils,h4,by simp[ZQ,hb.2,zfx,zG0]⟩
    |succ n=>exact⟨.sl sz k (n+1) 0 (n+1),zid hX,by simp[ZQ,hb.2,zfx,zG0]⟩
   obtain⟨u,hu,hq⟩:=hv;have hr:=(Hj (P:=P) (w:=w) (dst:=dst) (t':=t') (ty:=ty) (pos:=pos) (aft:=aft) (gd:=gd) hu hY hq).1
   rcases hop with⟨rfl,rfl⟩|⟨rfl,rfl⟩
   ·exact⟨rfl,.inl ⟨_,w,hr.1,m,Z,Step.refl hs,rfl⟩⟩
   ·exact⟨rfl,.inl ⟨_,w,hr.2,m,Z,Step.refl hs,rfl⟩⟩
 ·cases h
def zVa{o:Oper}{ρ:Env}{F F':Heap}{sz k n:Nat}(hn:n≠0)(h:EV.Loc P o ρ F (.sl sz k n 0 n) F'):EV.Loc P o ρ F (.gv k (zLw sz n)) F':=λρr m Z w hops hs hnew=>by
 refine(h ρr m Z w hops hs hnew).mono ?_;rintro x w' ⟨m',Z',st,hr⟩;exact⟨m',Z',st,zw2 hn hr⟩
def zxp(hS:S.OK){t t':Nat}{x y:Operand}:(zq9 P E H t t' x y).OK P ⟨dst,.call ⟨.builtin .append,#[x,y],#[t,t']⟩,ty,pos,aft,gd⟩ E H:=by
 unfold zq9;have hA:=Q4 (zgd (P:=P) (E:=zff E) (H:=H) (dst:=dst) (ty:=ty) (pos:=pos) (aft:=aft) (gd:=gd) hS (cd:=λ_=>none) (d:=0) (t:=t) (t':=t') (x:=x) (y:=y));unfold ziy at hA;split
 ·rename_i e sz bytes h1
  rw[h1]at hA;dsimp only at hA
  cases hb0:Nat.beq t t'&&Nat.ble 1 bytes with
  |false=>trivial
  |true =>
   rw[hb0]at hA;simp only[ctQ]at hA ⊢;split
   ·rename_i sz' k n e1
    rw[zra,e1]at hA;simp only[zm4]at hA;split
    ·rename_i e' c fz l wl hg
     rw[hg]at hA;dsimp only at hA;split
     ·rename_i ys kR eq h2
      rw[zra,h2]at hA;dsimp only at hA
      cases hb:zP0 ys&&(Nat.beq e e'&&(Nat.beq sz' sz&&(Nat.beq sz (zT S c)&&zGk c)))with
      |false=>trivial
      |true =>
       simp only[bn]at hb
       have hb2:(Nat.beq e e'&&(Nat.beq sz' sz&&(Nat.beq sz (zT S c)&&zGk c)))=true:=by simp only[bn];exact hb.2
       rw[hb2]at hA;simp only[ctQ]at hA ⊢;intro heq u hu a F' hr F R hF hR;cases hr;have:=hA heq u hu _ _ rfl F R hF hR;simp only[A.v]at this ⊢;refine zVa (λh0=>?_) this;have h3:=hb.1;unfold zP0 at h3;split at h3
       ·simp at h0
       ·cases h3
     ·trivial
    ·trivial
   ·trivial
 ·trivial
def Yh(hS:S.OK){T:CtT S}(hT:CtT.OK P T){cd:Nat->Option TC}{o:Oper}{d:Nat}:(zMd P T cd E H d o.op).OK P o E H:=by
 obtain⟨dst,op,ty,pos,aft,gd⟩:=o;unfold zMd;split
 ·rename_i a ha
  intro F R hF hR;cases zm hF;cases zm hR;exact zG4 (zPi hS ha)
 ·exact zP5 hS hT
def zVb(hS:S.OK){T:CtT S}(hT:CtT.OK P T){cd:Nat->Option TC}{op:Op}{d:Nat}:(opN P T cd E H d op).OK P ⟨dst,op,ty,pos,aft,gd⟩ E H:=by
 unfold opN;split
 ·rename_i t x y t'
  split
  ·rename_i h;exact zB1 (.inl ⟨rfl,rfl⟩) h
  ·exact Q4 (Yh (o:=⟨dst,.binOp .eql t x y t',ty,pos,aft,gd⟩) hS hT)
 ·rename_i t x y t'
  split
  ·rename_i h;exact zB1 (.inr ⟨rfl,rfl⟩) h
  ·exact Q4 (Yh (o:=⟨dst,.binOp .neq t x y t',ty,pos,aft,gd⟩) hS hT)
 ·rename_i x y t t'
  cases zTu (evA E x)with
  |true=>exact zxp hS
  |false=>exact Q4 (Yh (o:=⟨dst,.call ⟨.builtin .append,⟨[x,y]⟩,⟨[t,t']⟩⟩,ty,pos,aft,gd⟩) hS hT)
 ·rename_i t x y
  exact Yh (o:=⟨dst,.store t x y,ty,pos,aft,gd⟩) hS hT
 ·exact Q4 (Yh (o:=⟨dst,op,ty,pos,aft,gd⟩) hS hT)
def zMg(hS:S.OK){T:CtT S}(hT:CtT.OK P T){cd:Nat->Option TC}{o:Oper}{d:Nat}:(opE P T cd E H d o.op).OK P o E H:=by
 unfold opE
 cases hb:zU7 E with
 |false=>exact Yh hS hT
 |true=>exact zVb hS hT
end
abbrev zgi(S:Tab)(pc:List TC):=List (Nat×CtP S pc)
def zgi.OK{pc:List TC}(P:Program)(pv:HL S.T pc->Value):zgi S pc->Prop
 |[]=>True
 |p::r=>(ze P p.1/\p.2.OK P pv p.1)/\zgi.OK P pv r
def pvT(pt:Tp)(pc:List TC)(q:HL S.T pc):Value:=zPm (pt.put (S:=S) [] (yR pc q)).v
def panA(pt:Tp)(pc:List TC):A S.T->Option (HL S.T pc)
 |.ifc t a=>match pt.read (S:=S) [] true [] (.ifc t a)with
  |some rd=>bif pt.names.isEmpty&&(zcd a.v&&(yu (rd.ps.map (·.1))&&(rd.ps.all (λp=>Nat.ble (p.1+1) pc.length)&&(rd.ns.isEmpty&&rd.eq.isEmpty))))then zfb rd.ps 0 pc else none
  |none=>none
 |_=>none
def QB{pc:List TC}(H:AH S.T)(f:Nat)(vs:List (A S.T)):zgi S pc->Option (zBr S pc)
 |[]=>none
 |(g,c)::r=>bif Nat.beq f g then(match c.att H vs with
   |some t=>some t
   |none=>QB H f vs r)else QB H f vs r
inductive PAct(S:Tab)(pc:List TC) where
 |none
 |op (q:HL S.T pc)
 |call (t:zBr S pc)
def zVc{pc:List TC}:Option (zBr S pc)->PAct S pc
 |some t=>.call t
 |none=>.none
def zTv{pc:List TC}(TP:zgi S pc)(pt:Tp)(E:AE S.T)(H:AH S.T):Op->PAct S pc
 |.panic x=>match panA pt pc (evA E x)with
  |some q=>.op q
  |none=>.none
 |.call ⟨.value (.func f),l,_⟩=>zVc (QB H f (l.toList.map (evA E)) TP)
 |.call ⟨.value x,l,_⟩=>match evA E x with
  |.fn f a b=>zVc (QB H f (a++l.toList.map (evA E)++b) TP)
  |_=>.none
 |_=>.none
section
variable{P:Program}{E:AE S.T}{H:AH S.T}{dst:Option Tmp}{ty:TypeId}{pos:String}{aft:Array Edge}{gd:Option (Nat×Bool)}
def zxq{f:FuncId}{l:List Operand}{ts:Array TypeId}{vs:List V}(hf:ze P f)(he:l.map (evV (eV E))=vs):zHv P ⟨dst,.call ⟨.value (.func f),l.toArray,ts⟩,ty,pos,aft,gd⟩ (eV E) f vs:=λρr m Z w hops=>by
 subst he;exact⟨_,zW.tmps (ρ:=eV E) l λx hx=>hops x (by simp[Op.operands,Call.operands,hx]),rfl,ztb _ hf rfl⟩
def zB2{f:FuncId}{l:List Operand}{ts:Array TypeId}{vs first caps:List V}{x:Operand}(hf:ze P f)(hx:evV (eV E) x=.fn f first caps)(he:first++l.map (evV (eV E))++caps=vs):zHv P ⟨dst,.call ⟨.value x,l.toArray,ts⟩,ty,pos,aft,gd⟩ (eV E) f vs:=λρr m Z w hops=>by
 subst he;have h:=hops x (by simp[Op.operands,Call.operands]);rw[hx]at h;obtain⟨l1,l2,e,h1,h2⟩:=h;exact⟨l1++l.map (ev ρr)++l2,(h1.append (zW.tmps (ρ:=eV E) l λx hx=>hops x (by simp[Op.operands,Call.operands,hx]))).append h2,rfl,zme e hf⟩
def zaq{pc:List TC}{f:Nat}{vs:List (A S.T)}{t:zBr S pc}{pv:HL S.T pc->Value}:∀{TP:zgi S pc},zgi.OK P pv TP->QB H f vs TP=some t->∃c:CtP S pc,ze P f/\c.OK P pv f/\c.att H vs=some t
 |[],_,h=>by cases h
 |(g,c)::r,hT,h=>by
  simp only[QB]at h
  cases hb:Nat.beq f g with
  |true =>
   have:=eb hb;subst this;rw[hb,ctQ]at h;split at h
   ·rename_i t' ht
    cases h;exact⟨c,hT.1.1,hT.1.2,ht⟩
   ·exact zaq hT.2 h
  |false=>rw[hb]at h;exact zaq hT.2 h
def zm5{pc:List TC}{x:Option (zBr S pc)}{t:zBr S pc}(h:zVc x=.call t):x=some t:=by
 cases x with
 |none=>cases h
 |some y=>cases h;rfl
def zm6(hS:S.OK){pc:List TC}{TP:zgi S pc}{pt:Tp}{pv:HL S.T pc->Value}(hT:zgi.OK P pv TP){op:Op}{t:zBr S pc}(h:zTv TP pt E H op=.call t){q:HL S.T pc}(hq:t.o=some q)(heq:wO t.eqs):
  ∀F R,uD t.kF H=some F->uD t.kR H=some R->zHu P ⟨dst,op,ty,pos,aft,gd⟩ (eV E) (hV F++hV R) (pv q):=by
 unfold zTv at h;split at h
 ·split at h<;>cases h
 ·rename_i f l ts
  obtain⟨c,h1,h2,h3⟩:=zaq hT (zm5 h);exact zMa hS h2 (zxq (l:=l.toList) h1 (by rw[zca])) h3 hq heq
 ·rename_i x l ts _
  split at h
  ·rename_i f a b hx
   obtain⟨c,h1,h2,h3⟩:=zaq hT (zm5 h);exact zMa hS h2 (zB2 (l:=l.toList) (first:=A.vs a) (caps:=A.vs b) h1 (by rw[zZ,hx];simp only[A.v]) (by rw[JZ,JZ,zca])) h3 hq heq
  ·cases h
 ·cases h
def zP6(hS:S.OK){pt:Tp}{pc:List TC}{a:A S.T}{q:HL S.T pc}(h:panA pt pc a=some q):∃t v,a.v=.ifc t v/\zcd v=true/\zPm (.ifc t v)=pvT pt pc q:=by
 unfold panA at h;split at h
 ·rename_i t a
  split at h
  ·rename_i rd hr
   cases hc:pt.names.isEmpty&&(zcd a.v&&(yu (rd.ps.map (·.1))&&(rd.ps.all (λp=>Nat.ble (p.1+1) pc.length)&&(rd.ns.isEmpty&&rd.eq.isEmpty))))with
   |false=>rw[hc]at h;cases h
   |true =>
    rw[hc,ctQ]at h;simp only[bn,List.isEmpty_iff]at hc;obtain⟨c1,c2,c3,c4,c5,c6⟩:=hc
    have hs:Sat (yR pc q) rd.ps:=zt1 (yA c3) h λp hp=>lb ((List.all_eq_true.1 c4) p hp)
    have h1:=(vr (hp:=[]) (ds:=yR pc q) (σ:=id) (H:=([]:AH S.T)) hS pt (.ifc t a) rd hr hs (by rw[c5];exact λp hp=>(by cases hp)) (by rw[c6];exact λp hp=>(by cases hp)) ⟨λk c j hj=>(by cases hj)⟩).1;rw[zxk hS,zan _ (by rw[zao hS];exact c1)]at h1;exact⟨t,a.v,by simp only[A.v],c2,by rw[pvT,<- h1];simp only[A.v]⟩
  ·cases h
 ·cases h
end
end
mutual
def zjc{σ:Nat->Nat}:∀v:V,(v.ren σ).refs=v.refs.map σ
 |.undef=>rfl
 |.no=>rfl
 |.int ..=>rfl
 |.bool _=>rfl
 |.str _=>rfl
 |.nilp=>rfl
 |.ptr ..=>rfl
 |.vp ..=>rfl
 |.nils=>rfl
 |.sl ..=>rfl
 |.vs ..=>rfl
 |.fn f a b=>by simp only[V.ren,V.refs,Hq a,Hq b,List.map_append]
 |.nilf=>rfl
 |.agg cs=>by simp only[V.ren,V.refs,Hq cs]
 |.tup cs=>by simp only[V.ren,V.refs,Hq cs]
 |.nilm=>rfl
 |.mp _=>rfl
 |.nili=>rfl
 |.ifc t v=>by simp only[V.ren,V.refs,zjc v]
 |.gv ..=>rfl
 |.pv _=>rfl
def Hq{σ:Nat->Nat}:∀vs:List V,wG (ze5 σ vs)=(wG vs).map σ
 |[]=>rfl
 |v::vs=>by simp only[ze5,wG,zjc v,Hq vs,List.map_append]
end
def zB3{σ:Nat->Nat}(o:EV.Obj):(o.ren σ).refs=o.refs.map σ:=by
 cases o<;>simp[Obj.ren,Obj.refs,Hq]
section
variable{K0:List Nat}{c:Ctx K0}{w:World}{ρr:yJ}
def zxr{m:M}{Z:ZM}{H1:Heap}{σ:Nat->Nat}(hσ:yu ((keys H1).map σ)=true)(hcl:(H1.all λp=>p.2.refs.all (keys H1).contains)=true)(hK:∀k∈K0,k∈keys H1/\σ k=k)(SC:QX c m Z (Ke σ H1) w):
  ∃mc,QX c mc Z H1 w/\∀v x,v.refs.all (keys H1).contains=true->Rep (some m) Z (v.ren σ) x->Rep (some mc) Z v x:=by
 have hs:=SC.step.sim;have hinj:∀{a b:Nat},a∈keys H1->b∈keys H1->σ a=σ b->a=b:=zAd (yA hσ)
 let mc:M:=λk L=>if k∈keys H1 then m (σ k) L else none
 have hmc:∀k∈keys H1,mc k=m (σ k):=λk hk=>by funext L;simp[mc,hk]
 have hmcn:∀k,k ∉ keys H1->∀L,mc k L=none:=λk hk L=>by simp[mc,hk]
 have hblk:∀p∈H1,blk mc p=blk m (σ p.1,p.2.ren σ):=λp hp=>zb1 (hmc p.1 (mem_keys hp))
 have hmem:∀p∈H1,(σ p.1,p.2.ren σ)∈Ke σ H1:=λp hp=>List.mem_map.2 ⟨p,hp,rfl⟩
 have hsc:wH mc Z H1 w:=by
  refine⟨hs.frozen,λp hp=>?_,?_,λp hp q hq b h1 h2=>?_⟩
  ·have hh:=hs.holds _ (hmem p hp)
   have hk:=hmc p.1 (mem_keys hp);obtain⟨k,o⟩:=p
   cases o with
   |box t cs =>
    obtain⟨b,cur,h1,h2,h3,h4,h5⟩:=hh;refine⟨b,cur,by rw[hk];exact h1,h2,zW.unren σ cs _ (λj hj L loc e=>?_) h3,h4,by rw[hk];exact h5⟩;have:=(List.all_eq_true.1 hcl) _ hp;have:=(List.all_eq_true.1 this) j hj;rw[hmc j (by simpa using this)];exact e
   |row t sz fz els =>
    rcases hh with⟨h1,h2,h3,⟨b,h4⟩,h5⟩|⟨b,cap,cur,fr,h1,h2⟩
    ·exact .inl ⟨h1,h2,h3,⟨b,by rw[hk];exact h4⟩,by rw[hk];exact h5⟩
    ·exact .inr ⟨b,cap,cur,fr,by rw[hk];exact h1,by rw[hk];exact h2⟩
   |map l =>
    obtain⟨b,es,clock,h1,h2⟩:=hh;exact⟨b,es,clock,by rw[hk];exact h1,by rw[hk];exact h2⟩
   |glob g t cs=>exact⟨by rw[hk];exact hh.1,hh.2.1,by rw[hk];exact hh.2.2⟩
   |nest t e sz pd ls =>
    show uA (mc k) _ _ t e sz pd ls
    rw[hk];exact hh
   |gen G =>
    show G.holds (mc k) _ _
    rw[hk];exact hh
  ·have:=hs.nodup
   rw[vt]at this;exact wI _ this
  ·rw[hblk p hp]at h1
   rw[hblk q hq]at h2;exact hinj (mem_keys hp) (mem_keys hq) (hs.disj _ (hmem p hp) _ (hmem q hq) b h1 h2)
 refine⟨mc,⟨⟨hsc,λk L loc e=>?_,SC.step.zext,SC.step.os,SC.step.tape,SC.step.output,SC.step.size,SC.step.frame,λk hk=>(hK k (c.hk▸hk)).1,λk hk=>?_,λp hp b hb=>?_,SC.step.znew⟩,hmcn⟩,λv x hv hr=>?_⟩
 ·by_cases hk:k∈K0
  ·rw[hmc k (hK k hk).1,(hK k hk).2]
   exact SC.step.mext k L loc e
  ·rw[c.dom0 k hk L]at e;cases e
 ·funext L
  rw[hmcn k hk L,c.dom0 k (λh=>hk (hK k h).1) L]
 ·rw[hblk p hp]at hb
  exact SC.step.blks _ (hmem p hp) b hb
 ·refine Rep.unren σ v x (λk hk L loc e=>?_) hr
  have:=(List.all_eq_true.1 hv) k hk;rw[hmc k (by simpa using this)];exact e
def cutV{ρ ρ1:Env}{H H1 F:Heap}{σ:Nat->Nat}(fz:List Nat)(hfz:yu fz=true)(hF:uB fz H=some F)
  (hsel:uB ((keys H1).map σ) H=some (Ke σ H1)) (hdis:∀k∈(keys H1).map σ,k ∉ fz) (hσ:yu ((keys H1).map σ)=true)
  (hcl:(H1.all λp=>p.2.refs.all (keys H1).contains)=true) (hK:∀k∈K0,k∈keys H1/\σ k=k)
  (hv:∀t,ρ1.get t=.undef∨(ρ1.get t).refs.all (keys H1).contains=true/\View (frz F) (ρ.get t) ((ρ1.get t).ren σ)):Cut K0 ρ H ρ1 H1:=by
 intro c ρr w S;obtain⟨m,Z,SC,hr⟩:=S.freeze fz hfz hF
 have hks:keys (frz F)=fz:=by rw[wL];exact(xk hF).1
 have hnd:=SC.step.sim.nodup
 have hRow:∀k t sz f els,(frz F).get k=some (.row t sz f els)->Holds m Z w k (.row t sz els.length els):=λk t sz f els hg=>by
  have hmem:=Heap.get_mem hg;have h1:=SC.step.sim.holds _ (List.mem_append_left _ hmem)
  have:f=els.length:=by
   rcases qd hmem with⟨k',t'',sz',fz',els',h2,h3⟩|⟨h2,h3⟩
   ·simp only[Prod.mk.injEq,Obj.row.injEq]at h3
    obtain⟨_,_,_,e1,e2⟩:=h3;rw[e1,e2]
   ·exact absurd rfl (h3 t sz f els)
  subst this;exact h1
 have hsel2:uB ((keys H1).map σ) (frz F++qR fz H)=some (Ke σ H1):=by
  rw[<- hsel];clear hsel hσ;generalize (keys H1).map σ=l at hdis
  induction l with
  |nil=>rfl
  |cons k l ih =>
   have hk:=hdis k al
   have e:(frz F++qR fz H).get k=H.get k:=by
    rw[get_append,if_neg (by rw[hks];exact hk),QY hk]
   simp only[uB,e,ih λj hj=>hdis j (mcQ _ hj)]
 obtain⟨m',SC',hc⟩:=SC.cut _ hsel2 hσ (List.all_eq_true.2 λk hk=>by
   obtain⟨h1,h2⟩:=hK k hk;simp only[List.contains_eq_mem,decide_eq_true_eq]
   exact List.mem_map.2 ⟨k,h1,h2⟩) (List.all_eq_true.2 λp hp=>by
   obtain⟨q,hq,rfl⟩:=List.mem_map.1 hp
   refine List.all_eq_true.2 λj hj=>?_
   simp only[zB3]at hj;obtain⟨i,hi,rfl⟩:=List.mem_map.1 hj;have:=(List.all_eq_true.1 ((List.all_eq_true.1 hcl) q hq)) i hi;simp only[List.contains_eq_mem,decide_eq_true_eq]at this ⊢
   exact List.mem_map_of_mem this)
 obtain⟨mc,SC2,hc2⟩:=zxr hσ hcl hK SC';refine⟨mc,Z,SC2,λt=>?_⟩
 rcases hv t with h|⟨h1,h2⟩
 ·rw[h];trivial
 ·refine hc2 _ _ h1 (hc _ _ (List.all_eq_true.2 λj hj=>?_) (h2.rep hRow (hr t)))
  rw[zjc]at hj;obtain⟨i,hi,rfl⟩:=List.mem_map.1 hj;have:=(List.all_eq_true.1 h1) i hi;simp only[List.contains_eq_mem,decide_eq_true_eq]at this ⊢;exact List.mem_map_of_mem this
end
section
variable{S:Tab}
structure GR(S:Tab)(vs:List TC) where
 caps:List (Nat×Dy S.T)
 v:HL S.T vs
 eq:List (Nat×Nat)
def Tm.chk(T:Tm)(K0:List Nat)(ns:List (Nat×Nat))(nws:List (Nat×Dy S.T))(fz:List Nat)(R:AH S.T):Bool :=
 yu (nws.map (·.1))&&(nws.all (λp=>Nat.ble (p.1+1) (T.cs.length+T.vs.length))&&(ns.all (λp=>Nat.beq (asg ns p.1) p.2)&&(yu (T.hp.map λp=>asg ns p.1) &&
  (ur (T.sl.map (·.2)) T.hp&&(K0.all (λk=>(T.hp.map (·.1)).contains k&&Nat.beq (asg ns k) k)&&(R.all (λp=>rowB p.2)&&(yu fz&&(T.hp.map λp=>asg ns p.1).all λk=>!fz.contains k)))))))
def Tm.get(T:Tm)(K0:List Nat)(E:AE S.T)(H:AH S.T):Option (GR S T.vs):=match Tp.reads T.hp false H (T.sl.map (·.2)) (T.sl.map λp=>E.get p.1)with
 |none=>none
 |some r1=>match zfa T.hp H (r1.ns++K0.map λk=>(k,k)) T.hp with
  |none=>none
  |some r2=>match zfb ((r1.app r2).ps.filter λp=>Nat.ble T.cs.length p.1) T.cs.length T.vs,uD (dedup r1.fz) H with
   |some v,some R=>match uD (T.hp.map λp=>asg (r1.ns++(K0.map λk=>(k,k))++r2.ns) p.1) H with
    |some _=>bif T.chk K0 (r1.ns++(K0.map λk=>(k,k))++r2.ns) ((r1.app r2).ps.filter λp=>Nat.ble T.cs.length p.1) (dedup r1.fz) R then some ⟨(r1.app r2).ps.filter λp=>!Nat.ble T.cs.length p.1,v,(r1.app r2).eq⟩else none
    |none=>none
   |_,_=>none
def Tm.stE(T:Tm)(x:HL S.T T.cs)(v:HL S.T T.vs):AE S.T:=zlq T.hp T.sl (yR T.cs x++yR T.vs v)
def Tm.stH(T:Tm)(x:HL S.T T.cs)(v:HL S.T T.vs):AH S.T:=od T.hp (yR T.cs x++yR T.vs v)
def vu:∀{ks:List Nat}{H F:AH S.T},uD ks H=some F->uB ks (hV H)=some (hV F)
 |[],H,F,h=>by cases h;rfl
 |k::r,H,F,h=>by
  simp only[uD]at h;split at h
  ·rename_i o ho
   split at h
   ·rename_i F' hF'
    cases h;simp only[uB,Ki,ho,Option.map_some,vu hF'];rfl
   ·cases h
  ·cases h
def zB4{a b:List (Dy S.T)}{j:Nat}{c:TC}(h:j<a.length):ZR (a++b) j c=ZR a j c:=by
 unfold ZR;rw[List.getElem?_append_left h]
def zt4{hp:List (Nat×TO)}{ds:List (Dy S.T)}{t:Nat}:∀{sl:List (Nat×Tp)},(zlq (S:=S) hp sl ds).get t=.raw .undef∨∃tp,(t,tp)∈sl/\(zlq (S:=S) hp sl ds).get t=tp.put hp ds
 |[]=>.inl rfl
 |(d,tp)::r=>by
  simp only[zlq,mk9,AE.get]
  cases hb:Nat.beq t d with
  |true =>
   have:=eb hb;subst this;exact .inr ⟨tp,al,rfl⟩
  |false =>
   rcases zt4 (hp:=hp) (ds:=ds) (t:=t) (sl:=r)with h|⟨tp',h1,h2⟩
   ·exact .inl h
   ·exact .inr ⟨tp',mcQ _ h1,h2⟩
def zm7{R:Heap}{f g:Nat×Tp->V}:∀{l:List (Nat×Tp)},kr R (l.map f) (l.map g)->∀p∈l,View R (f p) (g p)
 |q::l,h,p,hp=>by
  simp only[mk9]at h
  cases h with
  |cons h1 h2 =>
   rcases List.mem_cons.1 hp with rfl|hp
   ·exact h1
   ·exact zm7 h2 p hp
def Tm.Rds(T:Tm)(K0:List Nat)(E:AE S.T)(H:AH S.T)(x:HL S.T T.cs)(v:HL S.T T.vs):Prop :=
 ∃g,T.get K0 E H=some g/\wO g.eq/\(∀p∈g.caps,p.2.2=ZR (yR T.cs x) p.1 p.2.1)/\g.v=v
def zgj{k:Nat}{tp:Tp}:∀{l:List Tp},tp∈l->k∈tp.names->k∈Tp.namesL l
 |t::r,h,hk=>by
  simp only[Tp.namesL]
  rcases List.mem_cons.1 h with rfl|h
  ·exact List.mem_append_left _ hk
  ·exact List.mem_append_right _ (zgj h hk)
def zt5{σ:Nat->Nat}:∀l:List (A S.T),A.rens σ l=l.map (A.ren σ)
 |[]=>by simp only[A.rens,List.map_nil]
 |a::r=>by rw[A.rens,zt5 r,mk9]
def AG{hp:List (Nat×TO)}{ds:List (Dy S.T)}:∀l:List Tp,Tp.puts hp ds l=l.map (Tp.put hp ds)
 |[]=>by simp only[Tp.puts,List.map_nil]
 |a::r=>by rw[Tp.puts,AG r,mk9]
def zP7(hS:S.OK){T:Tm}{K0:List Nat}{E:AE S.T}{H:AH S.T}{x:HL S.T T.cs}{v:HL S.T T.vs}(h:T.Rds K0 E H x v):Cut K0 (eV E) (hV H) (eV (T.stE x v)) (hV (T.stH x v)):=by
 obtain⟨g,h,heq,hcap,rfl⟩:=h;unfold Tm.get at h;split at h
 ·cases h
 ·rename_i r1 g1
  split at h
  ·cases h
  ·rename_i r2 g2
   split at h
   ·rename_i v R g3 g4
    split at h
    ·rename_i F1 g5
     generalize hL:r1.ns++(K0.map λk=>(k,k))++r2.ns=L at *
     cases hb:T.chk K0 L ((r1.app r2).ps.filter λp=>Nat.ble T.cs.length p.1) (dedup r1.fz) R with
     |false=>rw[hb]at h;cases h
     |true =>
      rw[hb]at h;cases h;simp only[Tm.chk,bn]at hb;obtain⟨b1,b2,b3,b4,b5,b6,b7,b8,b9⟩:=hb;generalize hds:yR T.cs x++yR T.vs v=ds at *;have hlen:(yR T.cs x).length=T.cs.length:=ztq ..
      have hs:Sat ds (r1.app r2).ps:=λp hp=>by
       cases hq:Nat.ble T.cs.length p.1 with
       |false =>
        have h1:=hcap p (List.mem_filter.2 ⟨hp,by rw[hq];rfl⟩)
        have hlt:p.1<T.cs.length:=Nat.lt_of_not_le λh2=>by rw[Nat.ble_eq_true_of_le h2]at hq;cases hq
        rw[h1,<- hds];exact zB4 (by rw[hlen];exact hlt)
       |true =>
        have hge:=lb hq;have hm:p∈(r1.app r2).ps.filter (λp=>Nat.ble T.cs.length p.1):=List.mem_filter.2 ⟨hp,hq⟩;have hlt:=lb ((List.all_eq_true.1 b2) p hm);have:=zcg (yA b1) T.vs T.cs.length v g3 p.1 p.2 hm hge ab;rw[<- hds];refine zBq ?_;rw[List.getElem?_append_right (by rw[hlen];exact hge),hlen];exact this
      have hn0:Nam (asg L) L:=λp hp=>eb ((List.all_eq_true.1 b3) p hp)
      have hn1:Nam (asg L) (r1.ns++K0.map λk=>(k,k)):=by rw[<- hL]at hn0 ⊢;exact hn0.left
      have hn2:Nam (asg L) r2.ns:=by rw[<- hL]at hn0 ⊢;exact hn0.right
      have he:wO (r1.app r2).eq:=heq;have hr:Hp T.hp ds (asg L) H:=VV g2 hs.right hn1 hn2;obtain⟨k1,k2⟩:=VW hS g2 hs.right hn1 hn2 he.right hr F1 g5
      have hV1:=oe hS (R:=hV (zcf R)) _ _ r1 g1 hs.left hn1.left he.left hr λk hk e c' f' l wl hg=>⟨_,VX g4 k (qX hk) _ hg⟩
      have oP:keys (hV (T.stH x v))=T.hp.map (·.1):=vf
      have hst:T.stH x v=od T.hp ds:=by rw[<- hds];rfl
      have hsE:T.stE x v=zlq T.hp T.sl ds:=by rw[<- hds];rfl
      have hmap:(keys (hV (T.stH x v))).map (asg L)=T.hp.map λp=>asg L p.1:=by rw[oP,List.map_map];rfl
      simp only[ur,bn]at b5
      refine cutV (σ:=asg L) (F:=hV R) (dedup r1.fz) b8 (vu g4) ?_ ?_ (by rw[hmap];exact b4) ?_ ?_ λt=>?_
      ·rw[hmap,vu g5,k1,hst]
       rfl
      ·rw[hmap]
       intro k hk hk2;have:=(List.all_eq_true.1 b9) k hk;simp only[Bool.not_eq_true',List.contains_eq_mem,decide_eq_false_iff_not]at this;exact this hk2
      ·rw[oP,hst]
       refine List.all_eq_true.2 λp hp=>?_
       simp only[hV,od,List.map_map,List.mem_map]at hp;obtain⟨q,hq,rfl⟩:=hp;have:=(List.all_eq_true.1 b5.2) q hq;obtain⟨k,o⟩:=q
       cases o with
       |box t cs=>simpa[OA.o,TO.put,Obj.refs,kB hS,TO.names]using this
       |row=>rfl
       |map=>rfl
       |rw i=>show((S.ro i).refs.all _)=true;rw[hS.rref];rfl
       |gn i c j=>show((S.go i c (ZR _ j c)).refs.all _)=true;rw[hS.gref];rfl
      ·intro k hk
       have:=(List.all_eq_true.1 b6) k hk;simp only[bn,List.contains_eq_mem,decide_eq_true_eq]at this;rw[oP];exact⟨this.1,eb this.2⟩
      ·rw[hsE]
       simp only[J0]
       rcases zt4 (S:=S) (hp:=T.hp) (ds:=ds) (t:=t) (sl:=T.sl)with h|⟨tp,h1,h2⟩
       ·rw[h];exact .inl rfl
       ·rw[h2]
        refine .inr ⟨?_,?_⟩
        ·rw[zao hS,oP]
         refine List.all_eq_true.2 λk hk=>?_
         exact(List.all_eq_true.1 b5.1) k (zgj (List.mem_map.2 ⟨_,h1,rfl⟩) hk)
        ·rw[zt5,AG,wA,wA,List.map_map,List.map_map,List.map_map,List.map_map]at hV1
         have:=zm7 hV1 _ h1;simp only[Function.comp]at this;rw[zxk hS]at this;rw[<- kC hS];exact this
    ·cases h
   ·cases h
end
section
variable{K0:List Nat}
def Kj{k k':Nat}:∀j,asg [(k,k')] j=if j=k then k' else j:=λj=>by
 simp only[asg]
 cases hb:Nat.beq j k with
 |true=>rw[if_pos (eb hb)];rfl
 |false=>rw[if_neg λe=>by subst e;rw[Nat.beq_refl]at hb;cases hb];rfl
def Holds.ren{m m':M}{Z:ZM}{w:World}{σ:Nat->Nat}{k:Nat}{o:EV.Obj}(hk:m' (σ k)=m k)(hr:∀j L loc,m j L=some loc->m' (σ j) L=some loc)(hh:Holds m Z w k o):Holds m' Z w (σ k) (o.ren σ):=by
 cases o with
 |box t cs =>
  obtain⟨b,cur,h1,h2,h3,h4,h5⟩:=hh;exact⟨b,cur,by rw[hk];exact h1,h2,zW.ren σ cs _ (λj _ L loc e=>hr j L loc e) h3,h4,by rw[hk];exact h5⟩
 |row t sz fz els =>
  rcases hh with⟨h1,h2,h3,⟨b,h4⟩,h5⟩|⟨b,cap,cur,fr,h1,h2⟩
  ·exact .inl ⟨h1,h2,h3,⟨b,by rw[hk];exact h4⟩,by rw[hk];exact h5⟩
  ·exact .inr ⟨b,cap,cur,fr,by rw[hk];exact h1,by rw[hk];exact h2⟩
 |map l =>
  obtain⟨b,es,clock,h1,h2⟩:=hh;exact⟨b,es,clock,by rw[hk];exact h1,by rw[hk];exact h2⟩
 |glob g t cs=>exact⟨by rw[hk];exact hh.1,hh.2.1,by rw[hk];exact hh.2.2⟩
 |nest t e sz pd ls =>
  show uA (m' (σ k)) _ _ t e sz pd ls
  rw[hk];exact hh
 |gen G =>
  show G.holds (m' (σ k)) _ _
  rw[hk];exact hh
def zB5{σ:Nat->Nat}{t:Nat}:∀ρ:Env,Env.get (ρ.map λp=>(p.1,p.2.ren σ)) t=(ρ.get t).ren σ
 |[]=>by simp[Env.get,V.ren]
 |p::r=>by
  simp only[mk9,Env.get]
  cases Nat.beq t p.1 with
  |true=>rfl
  |false=>exact zB5 r
def zIc{ρ:Env}{H:Heap}{k k':Nat}(hk:kz k H=true)(hk':kz k' H=false):Cut K0 ρ H (ρ.map λp=>(p.1,p.2.ren (asg [(k,k')]))) ((k,.gen gone)::Ke (asg [(k,k')]) H):=λc ρr w ⟨m,Z,SC,hR⟩=>by
 have hkm:=yP.1 hk
 have hk'm:k' ∉ keys H:=λh=>by rw[yP.2 h]at hk';cases hk'
 have hne:k≠k':=λe=>hk'm (e▸hkm)
 have hnone:∀L,m k' L=none:=λL=>SC.dom k' hk'm L
 let m':M:=λj L=>if j=k' then m k L else m j L
 have hm1:m' k'=m k:=by funext L;simp[m']
 have hm2:∀j,j≠k'->m' j=m j:=λj hj=>by funext L;simp[m',hj]
 have hr:∀j L loc,m j L=some loc->m' (asg [(k,k')] j) L=some loc:=λj L loc e=>by
  rw[Kj];by_cases h:j=k
  ·subst h;rw[if_pos rfl,hm1];exact e
  ·rw[if_neg h,hm2 j λh=>by subst h;rw[hnone]at e;cases e];exact e
 have hmk:∀j∈keys H,m' (asg [(k,k')] j)=m j:=λj hj=>by
  rw[Kj];by_cases h:j=k
  ·subst h;rw[if_pos rfl,hm1]
  ·rw[if_neg h,hm2 j λh=>by subst h;exact hk'm hj]
 have hinj:∀{a b:Nat},a∈keys H->b∈keys H->asg [(k,k')] a=asg [(k,k')] b->a=b:=λ{a b} ha hb e=>by
  rw[Kj,Kj]at e;by_cases h1:a=k<;>by_cases h2:b=k
  ·rw[h1,h2]
  ·rw[if_pos h1,if_neg h2]at e;subst e;exact absurd hb hk'm
  ·rw[if_neg h1,if_pos h2]at e;subst e;exact absurd ha hk'm
  ·rw[if_neg h1,if_neg h2]at e;exact e
 have hs:=SC.step.sim
 have hnot:k ∉ keys (Ke (asg [(k,k')]) H):=λh=>by
  rw[vt]at h;obtain⟨j,hj,e⟩:=List.mem_map.1 h;rw[Kj]at e;by_cases h1:j=k
  ·rw[if_pos h1]at e;exact hne e.symm
  ·rw[if_neg h1]at e;exact h1 e
 have hmem:∀p∈Ke (asg [(k,k')]) H,∃q∈H,p=(asg [(k,k')] q.1,q.2.ren (asg [(k,k')])):=λp hp=>by
  obtain⟨q,hq,e⟩:=List.mem_map.1 hp;exact⟨q,hq,e.symm⟩
 have hblk:∀q∈H,blk m' (asg [(k,k')] q.1,q.2.ren (asg [(k,k')]))=blk m q:=λq hq=>(zb1 (hmk q.1 (mem_keys hq)).symm).symm
 have hgone:∀b,blk m' (k,.gen gone) b->False:=λb h=>h
 have hin:∀j,j ∉ keys ((k,EV.Obj.gen gone)::Ke (asg [(k,k')]) H)->j≠k'/\j ∉ keys H:=λj hj=>by
  simp only[keys,mk9,List.mem_cons,not_or]at hj;obtain⟨h1,h2⟩:=hj;have h2:j ∉ keys (Ke (asg [(k,k')]) H):=h2;rw[vt]at h2;exact⟨λe=>h2 (List.mem_map.2 ⟨k,hkm,by rw[Kj,if_pos rfl,e]⟩),λh=>h2 (List.mem_map.2 ⟨j,h,by rw[Kj,if_neg h1]⟩)⟩
 refine⟨m',Z,⟨⟨⟨hs.frozen,λp hp=>?_,?_,λp hp q hq b h1 h2=>?_⟩,λj L loc e=>?_,SC.step.zext,SC.step.os,SC.step.tape,SC.step.output,SC.step.size,SC.step.frame,λj hj=>?_,λj hj=>?_,λp hp b hb=>?_,SC.step.znew⟩,λj hj L=>?_⟩,λt=>?_⟩
 ·rcases List.mem_cons.1 hp with rfl|hp
  ·exact trivial
  ·obtain⟨q,hq,rfl⟩:=hmem p hp
   exact Holds.ren (hmk q.1 (mem_keys hq)) hr (hs.holds q hq)
 ·show(k::keys (Ke (asg [(k,k')]) H)).Nodup
  refine List.nodup_cons.2 ⟨hnot,?_⟩;rw[vt];have hn:=hs.nodup
  have:∀l:List Nat,l.Nodup->(∀j∈l,j∈keys H)->(l.map (asg [(k,k')])).Nodup:=λl=>by
   induction l with
   |nil=>intro _ _;exact List.nodup_nil
   |cons a l ih =>
    intro h1 h2;rw[List.nodup_cons]at h1;rw[mk9,List.nodup_cons];refine⟨λh=>?_,ih h1.2 λj hj=>h2 j (mcQ _ hj)⟩;obtain⟨b,hb,e⟩:=List.mem_map.1 h;have:=hinj (h2 b (mcQ _ hb)) (h2 a al) e;subst this;exact h1.1 hb
  exact this _ hn λ_ h=>h
 ·rcases List.mem_cons.1 hp with rfl|hp<;>rcases List.mem_cons.1 hq with rfl|hq
  ·rfl
  ·exact(hgone b h1).elim
  ·exact(hgone b h2).elim
  ·obtain⟨p',hp',rfl⟩:=hmem p hp
   obtain⟨q',hq',rfl⟩:=hmem q hq;rw[hblk p' hp']at h1;rw[hblk q' hq']at h2;rw[show p'.1=q'.1 from hs.disj p' hp' q' hq' b h1 h2]
 ·have h1:=SC.step.mext j L loc e
  show m' j L=some loc
  rw[hm2 j λh=>by subst h;rw[hnone]at h1;cases h1];exact h1
 ·have h1:=SC.step.keep j hj
  simp only[keys,mk9,List.mem_cons];by_cases h:j=k
  ·exact .inl h
  ·right
   show j∈keys (Ke (asg [(k,k')]) H)
   rw[vt];exact List.mem_map.2 ⟨j,h1,by rw[Kj,if_neg h]⟩
 ·obtain⟨h1,h2⟩:=hin j hj
  rw[hm2 j h1];exact SC.step.newk j h2
 ·rcases List.mem_cons.1 hp with rfl|hp
  ·exact(hgone b hb).elim
  ·obtain⟨q,hq,rfl⟩:=hmem p hp
   rw[hblk q hq]at hb;exact SC.step.blks q hq b hb
 ·obtain⟨h1,h2⟩:=hin j hj
  rw[hm2 j h1];exact SC.dom j h2 L
 ·rw[zB5]
  exact Rep.ren _ _ _ (λj _ L loc e=>hr j L loc e) (hR t)
end
section
variable{S:Tab}{K0:List Nat}
def AE.ren(σ:Nat->Nat)(E:AE S.T):AE S.T:=E.map λp=>(p.1,p.2.ren σ)
def zVd:OA S.T->Bool
 |.rw 0=>true
 |_=>false
def zId:List (Nat×TO)->List Nat
 |[]=>[]
 |(k,.rw 0)::r=>k::zId r
 |_::r=>zId r
def zrb:List Nat->AE S.T->AH S.T->AE S.T×AH S.T
 |[],E,H=>(E,H)
 |k::r,E,H=>match H.get k with
  |none=>zrb r E H
  | some o=>bif zVd o||H.has (6000000+k)then zrb r E H else zrb r (AE.ren (asg [(k,6000000+k)]) E) ((k,.rw 0)::rhA (asg [(k,6000000+k)]) H)
def AH.get_has{H:AH S.T}{k:Nat}{o:OA S.T}(h:H.get k=some o):H.has k=true:=by
 induction H with
 |nil=>cases h
 |cons p r ih =>
  obtain⟨d,a⟩:=p;simp only[AH.get,AH.has]at h ⊢
  cases hb:Nat.beq k d with
  |true=>rfl
  |false=>rw[hb]at h;exact ih h
def VZ(hS:S.OK):∀(l:List Nat)(E:AE S.T)(H:AH S.T),Cut K0 (eV E) (hV H) (eV (zrb l E H).1) (hV (zrb l E H).2)
 |[],E,H=>Cut.refl
 |k::r,E,H=>by
  unfold zrb;split
  ·exact VZ hS r E H
  ·rename_i o ho
   cases hb:zVd o||H.has (6000000+k)with
   |true=>exact VZ hS r E H
   |false =>
    simp only[Bool.or_eq_false_iff]at hb;refine Cut.trans ?_ (VZ hS r _ _);have:=zIc (K0:=K0) (ρ:=eV E) (H:=hV H) (k:=k) (k':=6000000+k) (by rw[oM];exact AH.get_has ho) (by rw[oM];exact hb.2)
    have e1:eV (AE.ren (asg [(k,6000000+k)]) E)=(eV E).map λp=>(p.1,p.2.ren (asg [(k,6000000+k)])):=by
     simp only[eV,AE.ren,List.map_map,Function.comp_def,zxk hS]
    have e2:hV (((k,.rw 0)::rhA (asg [(k,6000000+k)]) H):AH S.T)=(k,.gen gone)::Ke (asg [(k,6000000+k)]) (hV H):=by
     rw[<- zPt hS];simp only[hV,mk9,OA.o,hS.ro0]
    rw[e1,e2];exact this
abbrev NB:=Nat->List (Nat×Bool×Nat×TC)
def AH.rem(k:Nat)(H:AH S.T):AH S.T:=H.filter λp=>!(Nat.beq p.1 k)
def nilA:A S.T->Bool
 |.raw .nils=>true
 |_=>false
def rhB:A S.T->Bool
 |.raw .nils=>true
 |.rh ..=>true
 |.nh ..=>true
 |_=>false
def zZz(l:List Nat)(H:AH S.T):Option (AH S.T):=match l with
 |[]=>some H
 |[k]=>match H.get k with
  |some o=>some ((k,o.frz)::AH.rem k H)
  |none=>none
 |_=>none
def jO(H:AH S.T)(kb j:Nat):Nat:=bif H.has (1000000000000+kb*1000+j)then 1000000000500+kb*1000+j else 1000000000000+kb*1000+j
def zB6(kb j:Nat)(c:TC)(H:AH S.T):AH S.T:=match c with
 |.l (.m kc ec)=>match H.get kb with
  |some (.box t cs)=>match cs[j]? with
   |some (.raw .nilm)=>bif S.om&&!(H.has (jO H kb j))then(jO H kb j,.gn 7 (.l (.m kc ec)) ([]:List (List (kc.ty S.T×ec.ty S.T))))::(kb,.box t (cs.set j (.oh (jO H kb j))))::AH.rem kb H else H
   |_=>H
  |_=>H
 |_=>H
def zB7(kb j e:Nat)(c:TC)(H:AH S.T):AH S.T:=match H.get kb with
 |some (.box t cs)=>match cs[j]? with
  |some (.raw .nils)=>bif !(H.has (jO H kb j))&&Nat.ble 1 (zT S c)then(jO H kb j,.row e c .zero [] ⟨_,rfl⟩)::(kb,.box t (cs.set j (.nh (zT S c) (jO H kb j) 0)))::AH.rem kb H else H
  |_=>H
 |_=>H
def wP(kb:Nat):List (Nat×Bool×Nat×TC)->AH S.T->AH S.T×List (Nat×Nat)
 |[],H=>(H,[])
 |(j,true,e,c)::r,H=>bif Nat.beq e 7000000 then wP kb r (zB6 kb j c H)else bif Nat.ble 8000000 e then wP kb r (zB7 kb j (Nat.sub e 8000000) c H)else match H.get kb with
  |some (.box t cs)=>match cs[j]? with
   |some a=>bif nilA a&&(!(H.has (jO H kb j))&&Nat.ble 1 (zT S c))then
     wP kb r ((jO H kb j,.row e c .zero [] ⟨_,rfl⟩)::(kb,.box t (cs.set j (.rh (zT S c) (jO H kb j) 0)))::AH.rem kb H)
    else wP kb r H
   |none=>wP kb r H
  |_=>wP kb r H
 |(j,false,_,c)::r,H=>match H.get kb with
  |some (.box t cs)=>match cs[j]? with
   |some a=>bif rhB a then(match ze9 H (.l c) a with
    |some rx=>match zZz rx.fz H with
     |some H1=>match wP kb r ((kb,.box t (cs.set j (.dat (.l c) rx.x)))::AH.rem kb H1)with
      |(H',q)=>(H',rx.eq++q)
     |none=>wP kb r H
    |none=>wP kb r H)
    else wP kb r H
   |none=>wP kb r H
  |_=>wP kb r H
def oQ(nb:NB):List (Nat×OA S.T)->AH S.T->AH S.T×List (Nat×Nat)
 |[],H=>(H,[])
 |(k,.box t _)::r,H=>match wP k (nb t) H with
  |(H1,q1)=>match oQ nb r H1 with
   |(H2,q2)=>(H2,q1++q2)
 |(k,.row e _ _ _ _)::r,H=>bif (nb (2000000+e)).isEmpty then oQ nb r H else(match zZz [k] H with
  |some H1=>oQ nb r H1
  |none=>oQ nb r H)
 |_::r,H=>oQ nb r H
def zjd(nb:NB)(H:AH S.T):AH S.T×List (Nat×Nat):=match oQ nb H H with
 |(H1,q1)=>bif (nb 2000000).isEmpty then(H1,q1)else match oQ nb H1 H1 with
  |(H2,q2)=>(H2,q1++q2)
def zxs{k:Nat}{H:AH S.T}:hV (AH.rem k H)=qR [k] (hV H):=by
 induction H with
 |nil=>rfl
 |cons p r ih =>
  simp only[AH.rem,hV,qR,List.filter_cons,mk9]at ih ⊢
  have:(![k].contains p.1)=!(Nat.beq p.1 k):=by
   simp only[List.contains_cons,List.contains_nil,Bool.or_false]
   cases hb:Nat.beq p.1 k with
   |true=>rw[eb hb];simp
   |false =>
    have:p.1≠k:=λe=>by rw[e,Nat.beq_refl]at hb;cases hb
    simp[this]
  rw[this]
  cases Nat.beq p.1 k with
  |true=>simpa using ih
  |false=>simp only[Bool.not_false,if_true,mk9,ih]
def zt6:∀(l:List (A S.T))(j:Nat)(a:A S.T),A.vs (l.set j a)=(A.vs l).set j a.v:=λl j a=>by
 simp only[wA,List.map_set]
def zar{R:Heap}{a b:V}(h:View R a b):∀{l:List V}{j:Nat},l[j]?=some a->kr R l (l.set j b)
 |v::l,0,e=>by
  simp only[List.getElem?_cons_zero,Option.some.injEq]at e;subst e;exact .cons h zgc
 |v::l,j+1,e=>by
  simp only[List.getElem?_cons_succ]at e;exact .cons (.same _) (zar h e)
def zxt(hS:S.OK){kb j:Nat}{c:TC}{ρ:Env}{H:AH S.T}:Cut K0 ρ (hV H) ρ (hV (zB6 kb j c H)):=by
 unfold zB6;split
 ·rename_i kc ec
  split
  ·rename_i t cs hg
   split
   ·rename_i ha
    cases hb:S.om&&!(H.has (jO H kb j))with
    |false=>exact Cut.refl
    |true =>
     simp only[bn,Bool.not_eq_true']at hb
     have hsel:uB [kb] (hV H)=some [(kb,.box t (A.vs cs))]:=by
      simp only[uB,Ki,hg,Option.map_some,OA.o]
     refine zq0 kb j (jO H kb j) hsel (by rw[wA,List.getElem?_map,ha];simp only[Option.map_some,A.v]) rfl (by rw[oM];exact hb.2) ?_;have e1:=hS.gom hb.1 kc ec [];have e2:(OA.gn 7 (.l (.m kc ec)) ([]:List (List (kc.ty S.T×ec.ty S.T))):OA S.T).o=.gen (Ax []):=e1;rw[<- zxs];simp only[ctQ,hV,mk9,OA.o,zt6,A.v]at e2 ⊢;rw[e2]
   ·exact Cut.refl
  ·exact Cut.refl
 ·exact Cut.refl
def zxu{kb j e:Nat}{c:TC}{ρ:Env}{H:AH S.T}:Cut K0 ρ (hV H) ρ (hV (zB7 kb j e c H)):=by
 unfold zB7;split
 ·rename_i t cs hg
  split
  ·rename_i ha
   cases hb:!(H.has (jO H kb j))&&Nat.ble 1 (zT S c)with
   |false=>exact Cut.refl
   |true =>
    simp only[bn,Bool.not_eq_true']at hb
    have hsel:uB [kb] (hV H)=some [(kb,.box t (A.vs cs))]:=by
     simp only[uB,Ki,hg,Option.map_some,OA.o]
    refine zqo kb j (jO H kb j) e (zT S c) hb.2 hsel (by rw[wA,List.getElem?_map,ha];simp only[Option.map_some,A.v]) rfl (by rw[oM];exact hb.1) ?_;rw[<- zxs];simp only[ctQ,hV,mk9,OA.o,zt6,A.v,Fz.n,List.map_nil]
  ·exact Cut.refl
 ·exact Cut.refl
def xa(hS:S.OK){kb:Nat}:∀(l:List (Nat×Bool×Nat×TC))(ρ:Env)(H:AH S.T),wO (wP kb l H).2->Cut K0 ρ (hV H) ρ (hV (wP kb l H).1)
 |[],ρ,H,_=>Cut.refl
 |(j,true,e,c)::r,ρ,H,heq=>by
  unfold wP at heq ⊢
  cases h7:Nat.beq e 7000000 with
  |true =>
   rw[h7]at heq;exact(zxt hS).trans (xa hS r ρ _ heq)
  |false =>
  rw[h7]at heq;simp only[cf]at heq ⊢
  cases h8:Nat.ble 8000000 e with
  |true =>
   rw[h8]at heq;simp only[ctQ]at heq ⊢;exact zxu.trans (xa hS r ρ _ heq)
  |false =>
   rw[h8]at heq;simp only[cf]at heq ⊢;split at heq
   ·rename_i t cs hg
    split at heq
    ·rename_i a ha
     cases hb:nilA a&&(!(H.has (jO H kb j))&&Nat.ble 1 (zT S c))with
     |false=>rw[hb]at heq;exact xa hS r ρ H heq
     |true =>
      rw[hb]at heq;simp only[bn,Bool.not_eq_true']at hb;obtain⟨h1,h2,h3⟩:=hb;refine Cut.trans ?_ (xa hS r ρ _ heq)
      have ha2:a=.raw .nils:=by
       unfold nilA at h1;split at h1
       ·rfl
       ·cases h1
      subst ha2
      have hsel:uB [kb] (hV H)=some [(kb,.box t (A.vs cs))]:=by
       simp only[uB,Ki,hg,Option.map_some,OA.o]
      refine zxb kb j (jO H kb j) e (zT S c) h3 hsel (by rw[wA,List.getElem?_map,ha];simp only[Option.map_some,A.v]) rfl (by rw[oM];exact h2) ?_;rw[<- zxs];simp only[hV,mk9,OA.o,zt6,A.v,Fz.n,List.map_nil]
    ·rename_i ha
     exact xa hS r ρ H heq
   ·rename_i hg
    exact xa hS r ρ H heq
 |(j,false,e,c)::r,ρ,H,heq=>by
  unfold wP at heq ⊢;split at heq
  ·rename_i t cs hg
   split at heq
   ·rename_i a ha
    cases hb:rhB a with
    |false=>rw[hb]at heq;exact xa hS r ρ H heq
    |true =>
     rw[hb]at heq;simp only[ctQ]at heq ⊢;split at heq
     ·rename_i rx hrx
      split at heq
      ·rename_i H1 hH1
       have heq1:wO rx.eq:=heq.left;have heq2:=heq.right;refine Cut.trans ?_ (xa hS r ρ _ heq2)
       have hcs:(A.vs cs)[j]?=some a.v:=by rw[wA,List.getElem?_map,ha];rfl
       have hfin:∀X:AH S.T,hV (((kb,.box t (cs.set j (.dat (.l c) rx.x)))::X):AH S.T)=(kb,.box t ((A.vs cs).set j (vE S (.l c) rx.x)))::hV X:=λX=>by
        simp only[hV,mk9,OA.o,zt6,A.v]
       rw[hfin,zxs]
       have hgb:(hV H).get kb=some (.box t (A.vs cs)):=by rw[Ki,hg];rfl
       unfold zZz at hH1;split at hH1
       ·rename_i hfz
        cases hH1;have hv:View ([]:Heap) a.v (vE S (.l c) rx.x):=Hm hrx heq1 (by rw[hfz];intro k hk;cases hk);exact zqn [] [] hgb rfl rfl (zar hv hcs) rfl
       ·rename_i k hfz
        split at hH1
        ·rename_i o ho
         cases hH1
         have hsel:uB [k] (hV H)=some (hV ([(k,o)]:AH S.T)):=by
          simp only[uB];rw[Ki,ho];rfl
         have e1:hV (((k,o.frz)::AH.rem k H):AH S.T)=frz (hV ([(k,o)]:AH S.T))++qR [k] (hV H):=by
          rw[<- kC hS,<- zxs];rfl
         have hv:View (frz (hV ([(k,o)]:AH S.T))) a.v (vE S (.l c) rx.x):=Hm hrx heq1 (by
          rw[hfz];intro k' hk' e' c' f l w hg';rw[msQ.1 hk',ho]at hg';cases hg';rw[<- kC hS,msQ.1 hk'];refine⟨l.length,?_⟩
          simp only[zcf,hV,mk9,List.map_nil,Heap.get,Nat.beq_refl,ctQ,OA.frz,OA.o,Fz.n])
         refine Cut.trans (zf4 (F:=hV ([(k,o)]:AH S.T)) [k] rfl hsel rfl) ?_;rw[e1];by_cases hkb:kb=k
         ·subst hkb
          rw[hg]at ho;cases ho;refine zqn (frz (hV ([(kb,.box t cs)]:AH S.T))) [kb] ?_ ?_ oO (zar hv hcs) rfl
          ·simp only[hV,mk9,List.map_nil,frz,OA.o,List.cons_append,Heap.get,Nat.beq_refl,ctQ]
          ·simp only[hV,mk9,List.map_nil,frz,OA.o,List.cons_append,uB,Heap.get,Nat.beq_refl,ctQ]
         ·have hne:Nat.beq kb k=false:=by
           cases h:Nat.beq kb k with
           |true=>exact absurd (eb h) hkb
           |false=>rfl
          have hk1:keys (frz (hV ([(k,o)]:AH S.T)))=[k]:=by rw[wL];rfl
          refine zqn (frz (hV ([(k,o)]:AH S.T))) [k] ?_ ?_ oO (zar hv hcs) rfl
          ·rw[get_append,if_neg (by rw[hk1];simpa using hkb),QY (by simpa using hkb)]
           exact hgb
          ·have:=Ya (H:=frz (hV ([(k,o)]:AH S.T))++qR [k] (hV H)) (F:=frz (hV ([(k,o)]:AH S.T))) λp hp=>by
            have hp1:p.1=k:=by
             have:=mem_keys hp;rw[hk1]at this;exact msQ.1 this
            rw[get_append,if_pos (by rw[hk1,hp1];exact msQ.2 rfl)];refine get_of_mem (by rw[hk1];exact List.nodup_cons.2 ⟨λh=>(by cases h),List.nodup_nil⟩) hp
           rw[hk1]at this;exact this
        ·cases hH1
       ·cases hH1
      ·rename_i hH1
       exact xa hS r ρ H heq
     ·rename_i hrx
      exact xa hS r ρ H heq
   ·rename_i ha
    exact xa hS r ρ H heq
  ·rename_i hg
   exact xa hS r ρ H heq
def vk(hS:S.OK){nb:NB}:∀(l:List (Nat×OA S.T))(ρ:Env)(H:AH S.T),wO (oQ nb l H).2->Cut K0 ρ (hV H) ρ (hV (oQ nb l H).1)
 |[],ρ,H,_=>Cut.refl
 |(k,.box t cs)::r,ρ,H,heq=>(xa hS _ ρ H (wO.left (b:=(oQ nb r (wP k (nb t) H).1).2) heq)).trans (vk hS r ρ _ (wO.right (a:=(wP k (nb t) H).2) heq))
 |(k,.row e c f l w)::r,ρ,H,heq=>by
  simp only[oQ]at heq ⊢
  cases hb:(nb (2000000+e)).isEmpty with
  |true =>
   rw[hb]at heq;exact vk hS r ρ H heq
  |false =>
   rw[hb]at heq;simp only[cf]at heq ⊢;split at heq
   ·rename_i H1 hH1
    refine Cut.trans ?_ (vk hS r ρ H1 heq);simp only[zZz]at hH1;split at hH1
    ·rename_i o ho
     cases hH1
     have hsel:uB [k] (hV H)=some (hV ([(k,o)]:AH S.T)):=by
      simp only[uB];rw[Ki,ho];rfl
     refine zf4 (F:=hV ([(k,o)]:AH S.T)) [k] rfl hsel ?_;rw[<- kC hS,<- zxs];rfl
    ·cases hH1
   ·exact vk hS r ρ H heq
 |(k,.map ..)::r,ρ,H,heq=>vk hS r ρ H heq
 |(k,.rw _)::r,ρ,H,heq=>vk hS r ρ H heq
 |(k,.gn ..)::r,ρ,H,heq=>vk hS r ρ H heq
def zrc(hS:S.OK){nb:NB}(ρ:Env)(H:AH S.T)(heq:wO (zjd nb H).2):Cut K0 ρ (hV H) ρ (hV (zjd nb H).1):=by
 unfold zjd at heq ⊢
 cases hb:(nb 2000000).isEmpty with
 |true =>
  rw[hb]at heq;exact vk hS H ρ H heq
 |false =>
  rw[hb]at heq;exact(vk hS H ρ H (wO.left (b:=(oQ nb (oQ nb H H).1 (oQ nb H H).1).2) heq)).trans (vk hS _ ρ _ (wO.right (a:=(oQ nb H H).2) heq))
end
section
variable{S:Tab}
def zIe{R:Type}(p:Pg R):List (Nat×Nat)->Pg R
 |[]=>p
 |q::l=>.eqn q.1 q.2 (zIe p l)
def eqnD{R:Type}(ds:List (Dy S.T))(p:Pg R):List (Nat×Dy S.T)->Pg R
 |[]=>p
 |q::l=>.eqn q.2.2 (ZR ds q.1 q.2.1) (eqnD ds p l)
def Ha{R:Type}{p:Pg R}{r:R}:∀{l:List (Nat×Nat)},(zIe p l).Is r->wO l/\p.Is r
 |[],h=>⟨λ_ hp=>(nomatch hp),h⟩
 |q::l,h=>by
  obtain⟨h1,h2⟩:=Is.eqn h;obtain⟨h3,h4⟩:=Ha h2;exact⟨λp hp=>(List.mem_cons.1 hp).elim (λe=>e▸h1) (h3 p),h4⟩
def zrd{R:Type}{ds:List (Dy S.T)}{p:Pg R}{r:R}:∀{l:List (Nat×Dy S.T)},(eqnD ds p l).Is r->(∀q∈l,q.2.2=ZR ds q.1 q.2.1)/\p.Is r
 |[],h=>⟨λ_ hp=>(nomatch hp),h⟩
 |q::l,h=>by
  obtain⟨h1,h2⟩:=Is.eqn h;obtain⟨h3,h4⟩:=zrd h2;exact⟨λp hp=>(List.mem_cons.1 hp).elim (λe=>e▸h1) (h3 p),h4⟩
def rowE:List (Nat×TO)->Nat->Option (Nat×TC×Bool)
 |[],_=>none
 |(k',.row e c _ fz)::r,k=>bif Nat.beq k k' then some (e,c,fz)else rowE r k
 |_::r,k=>rowE r k
def V0(hp:List (Nat×TO)):List (Nat×Tp)->AE S.T->AH S.T->AE S.T×AH S.T
 |[],E,H=>(E,H)
 |(t,tp)::r,E,H=>match tp with
  |.row sz k=>match E.get t with
   |.raw .nils=>match rowE hp k with
    |some (e,c,fz)=>bif !(H.has (5000000+t))&&(Nat.ble 1 sz&&Nat.beq sz (zT S c))then V0 hp r ((t,.rh sz (5000000+t) 0)::E) ((5000000+t,.row e c (bif fz then .all else .zero) [] ⟨_,rfl⟩)::H)else V0 hp r E H
    |none=>V0 hp r E H
   |_=>V0 hp r E H
  |_=>V0 hp r E H
def og{K0:List Nat}{hp:List (Nat×TO)}:∀(l:List (Nat×Tp))(E:AE S.T)(H:AH S.T),Cut K0 (eV E) (hV H) (eV (V0 hp l E H).1) (hV (V0 hp l E H).2)
 |[],E,H=>Cut.refl
 |(t,tp)::r,E,H=>by
  unfold V0;split
  ·rename_i sz k
   split
   ·rename_i hE
    split
    ·rename_i e c fz _
     cases hb:!(H.has (5000000+t))&&(Nat.ble 1 sz&&Nat.beq sz (zT S c))with
     |false=>exact og r E H
     |true =>
      simp only[bn,Bool.not_eq_true']at hb;have e1:=eb hb.2.2;subst e1;refine Cut.trans ?_ (og r ((t,.rh (zT S c) (5000000+t) 0)::E) ((5000000+t,.row e c (bif fz then .all else .zero) [] ⟨_,rfl⟩)::H));cases fz<;>exact zw6 t (5000000+t) e (zT S c) hb.2.1 (by rw[J0,hE];simp only[A.v]) (by rw[oM];exact hb.1)
    ·exact og r E H
   ·exact og r E H
  ·exact og r E H
def zGl(T:Tm)(E:AE S.T)(H:AH S.T):AE S.T×AH S.T:=match zrb (zId T.hp) E H with
 |(E',H')=>V0 T.hp T.sl E' H'
def zIf(hS:S.OK){K0:List Nat}(T:Tm)(E:AE S.T)(H:AH S.T):Cut K0 (eV E) (hV H) (eV (zGl T E H).1) (hV (zGl T E H).2) :=
 (VZ hS (zId T.hp) E H).trans (og T.sl _ _)
def Tm.RdsN(T:Tm)(K0:List Nat)(E:AE S.T)(H:AH S.T)(x:HL S.T T.cs)(v:HL S.T T.vs):Prop:=T.Rds K0 (zGl T E H).1 (zGl T E H).2 x v
def wo(hS:S.OK){T:Tm}{K0:List Nat}{E:AE S.T}{H:AH S.T}{x:HL S.T T.cs}{v:HL S.T T.vs}(h:T.RdsN K0 E H x v):Cut K0 (eV E) (hV H) (eV (T.stE x v)) (hV (T.stH x v)) :=
 (zIf hS T E H).trans (zP7 hS h)
def zVe{R:Type}(T:Tm)(x:HL S.T T.cs)(k:HL S.T T.vs->Pg R):Option (GR S T.vs)->Pg R
 |some g=>zIe (eqnD (yR T.cs x) (k g.v) g.caps) g.eq
 |none=>.fail
def zje{R:Type}(T:Tm)(K0:List Nat)(E:AE S.T)(H:AH S.T)(x:HL S.T T.cs)(k:HL S.T T.vs->Pg R):Pg R:=match zGl T E H with
 |(E',H')=>zVe T x k (T.get K0 E' H')
def kD{R:Type}{r:R}{T:Tm}{K0:List Nat}{E:AE S.T}{H:AH S.T}{x:HL S.T T.cs}{k:HL S.T T.vs->Pg R}(h:(zje T K0 E H x k).Is r):∃v,T.RdsN K0 E H x v/\(k v).Is r:=by
 change (zVe T x k (T.get K0 (zGl T E H).1 (zGl T E H).2)).Is r at h;unfold zVe at h;split at h
 ·rename_i g hg
  obtain⟨h1,h2⟩:=Ha h;obtain⟨h3,h4⟩:=zrd h2;exact⟨g.v,⟨g,hg,h1,h3,rfl⟩,h4⟩
 ·exact(Is.fail h).elim
def zB8{R:Type}(T1 T2:Tm)(K0:List Nat)(E:AE S.T)(H:AH S.T)(x1:HL S.T T1.cs)(x2:HL S.T T2.cs)(k1:HL S.T T1.vs->Pg R)(k2:HL S.T T2.vs->Pg R):Pg R:=match zGl T1 E H with
 |(E',H')=>match T1.get K0 E' H' with
  |some g=>zVe T1 x1 k1 (some g)
  |none=>zje T2 K0 E H x2 k2
def zt7{R:Type}{r:R}{T1 T2:Tm}{K0:List Nat}{E:AE S.T}{H:AH S.T}{x1:HL S.T T1.cs}{x2:HL S.T T2.cs}{k1:HL S.T T1.vs->Pg R}{k2:HL S.T T2.vs->Pg R}(h:(zB8 T1 T2 K0 E H x1 x2 k1 k2).Is r):
  (∃v,T1.RdsN K0 E H x1 v/\(k1 v).Is r)∨∃v,T2.RdsN K0 E H x2 v/\(k2 v).Is r:=by
 change (match T1.get K0 (zGl T1 E H).1 (zGl T1 E H).2 with
  |some g=>zVe T1 x1 k1 (some g)
  |none=>zje T2 K0 E H x2 k2).Is r at h
 split at h
 ·rename_i g hg
  obtain⟨h1,h2⟩:=Ha h;obtain⟨h3,h4⟩:=zrd h2;exact .inl ⟨g.v,⟨g,hg,h1,h3,rfl⟩,h4⟩
 ·exact .inr (kD h)
def zIg(hp:List (Nat×TO))(E:AE S.T)(H:AH S.T):List (Nat×Tp)->List (Nat×Dy S.T)
 |[]=>[]
 |(t,tp)::r=>match tp.read hp false H (E.get t)with
  |some x=>x.ps++zIg hp E H r
  |none=>zIg hp E H r
def zB9(hp:List (Nat×TO))(H:AH S.T):List (Nat×TO)->List (Nat×Dy S.T)
 |[]=>[]
 |(k,toZ)::r=>match H.get k with
  |some o=>match toZ.read hp H o with
   |some x=>x.ps++zB9 hp H r
   |none=>zB9 hp H r
  |none=>zB9 hp H r
def zP8(T:Tm)(so:List (Nat×Tp))(ho:List (Nat×TO))(E:AE S.T)(H:AH S.T):Option (HL S.T T.cs) :=
 zfb (zIg T.hp E H T.sl++(zB9 T.hp H T.hp++(zIg ho E H so++zB9 ho H ho))) 0 T.cs
def zP9:A S.T->A S.T
 |.raw (.bool b)=>.raw (.bool b)
 |.raw v=>of1 v
 |a=>a
def zQa(a:A S.T):(zP9 a).v=a.v:=by
 unfold zP9;split
 ·rfl
 ·rw[zUy];simp[A.v]
 ·rfl
def zzf(o:Oper)(a:A S.T)(E:AE S.T):AE S.T:=match o.dst with
 |some d=>(d,zP9 a)::E
 |none=>E
def zgk{o:Oper}{a:A S.T}{E:AE S.T}:eV (zzf o a E)=EV.zlq o.dst a.v (eV E):=by
 unfold zzf EV.zlq
 cases o.dst with
 |some d=>simp only[eV,mk9,zQa]
 |none=>rfl
def Zn(H:AH S.T):AH S.T->AH S.T
 |[]=>H
 |p::r=>bif (Zn H r).has p.1 then(Zn H r).set p.1 p.2 else p::Zn H r
def zt8:∀{H:Heap}{k:Nat}{o:EV.Obj},keys (Heap.set H k o)=keys H
 |[],_,_=>rfl
 |(k',o')::r,k,o=>by
  simp only[Heap.set]
  cases hb:Nat.beq k k' with
  |true=>rfl
  |false =>
   have:=zt8 (H:=r) (k:=k) (o:=o);simp only[keys,cf,mk9]at this ⊢;rw[this]
def zCa:∀{H:Heap}{k:Nat}{o:EV.Obj}{j:Nat},k∈keys H->(Heap.set H k o).get j=if j=k then some o else H.get j
 |(k',o')::r,k,o,j,hk=>by
  simp only[Heap.set]
  cases hb:Nat.beq k k' with
  |true =>
   have:=eb hb;subst this;simp only[ctQ,Heap.get];by_cases e:j=k
   ·subst e;simp
   ·have hc:Nat.beq j k=false:=by
     cases h:Nat.beq j k with
     |true=>exact absurd (eb h) e
     |false=>rfl
    rw[if_neg e,hc];rfl
  |false =>
   have hne:k≠k':=λe=>by subst e;rw[Nat.beq_refl]at hb;cases hb
   simp only[cf,Heap.get]
   have hk':k∈keys r:=by
    simp only[keys,mk9,List.mem_cons]at hk;exact hk.resolve_left hne
   rw[zCa hk']
   cases hc:Nat.beq j k' with
   |true =>
    have:=eb hc;subst this;have hne':¬j=k:=Ne.symm hne;simp[hne']
   |false=>rfl
def Qa{H:AH S.T}(h:(keys (hV H)).Nodup):∀F':AH S.T,(keys (hV (Zn H F'))).Nodup
 |[]=>h
 |p::r=>by
  have ih:=Qa h r;simp only[Zn]
  cases hb:(Zn H r).has p.1 with
  |true=>rw[ctQ,zL3,zt8];exact ih
  |false =>
   rw[cf];rw[<- oM]at hb
   show(p.1::keys (hV (Zn H r))).Nodup
   refine List.nodup_cons.2 ⟨λhm=>?_,ih⟩;rw[yP.2 hm]at hb;cases hb
def V1{H:AH S.T}(k:Nat):∀F':AH S.T,(hV (Zn H F')).get k=if k∈keys (hV F')then(hV F').get k else(hV H).get k
 |[]=>rfl
 |p::r=>by
  have ih:=V1 (H:=H) k r;simp only[Zn];have hk:keys (hV (p::r))=p.1::keys (hV r):=rfl;have hg:(hV (p::r)).get k=bif Nat.beq k p.1 then some p.2.o else(hV r).get k:=rfl;rw[hk,hg]
  cases hb:(Zn H r).has p.1 with
  |true =>
   rw[ctQ,zL3,zCa (yP.1 (by rw[oM];exact hb))];by_cases e:k=p.1
   ·subst e;simp
   ·have:Nat.beq k p.1=false:=by
     cases h:Nat.beq k p.1 with
     |true=>exact absurd (eb h) e
     |false=>rfl
    rw[if_neg e,ih,this];simp only[List.mem_cons,e,false_or,cf]
  |false =>
   rw[cf]
   show(bif Nat.beq k p.1 then some p.2.o else(hV (Zn H r)).get k)=_
   cases h:Nat.beq k p.1 with
   |true =>
    have:=eb h;subst this;simp
   |false =>
    have e:k≠p.1:=λe=>by subst e;rw[Nat.beq_refl]at h;cases h
    simp only[cf,ih,List.mem_cons,e,false_or]
def oP(F:AH S.T):List Nat:=F.map (·.1)
def zCb(gk:List (Nat×Nat))(F':AH S.T):Bool:=gk.all λp=>match F'.get p.1 with|none=>true|some (.rw i)=>Nat.beq i p.2|_=>false
def zIh(gk:List (Nat×Nat))(H:AH S.T):Bool:=gk.all λp=>match H.get p.1 with|some (.rw i)=>Nat.beq i p.2|_=>false
def gkV(S:Tab)(gk:List (Nat×Nat)):Heap:=gk.map λp=>(p.1,S.ro p.2)
def zIi{gk:List (Nat×Nat)}{H:AH S.T}(h:zIh gk H=true):zmq (gkV S gk) (hV H).get:=λp hp=>by
 obtain⟨q,hq,rfl⟩:=List.mem_map.1 hp;have:=(List.all_eq_true.1 h) q hq;simp only at this ⊢;rw[Ki];split at this
 ·rename_i i e
  rw[e,eb this];rfl
 ·cases this
def V2{gk:List (Nat×Nat)}{H F':AH S.T}(h:zCb gk F'=true)(hG:zmq (gkV S gk) (hV H).get):zmq (gkV S gk) (hV (Zn H F')).get:=λp hp=>by
 have hH:=hG p hp;obtain⟨q,hq,rfl⟩:=List.mem_map.1 hp;have:=(List.all_eq_true.1 h) q hq;simp only at this hH ⊢;rw[V1];split
 ·rename_i hk
  rw[Ki];split at this
  ·rename_i e
   have h2:=Ki F' q.1;rw[e]at h2;exact absurd hk (get_none.2 h2)
  ·rename_i i e
   rw[e,eb this];rfl
  ·cases this
 ·exact hH
def Q5(N:Nat)(gk:List (Nat×Nat))(H:AH S.T)(o:Oper)(kF kR:List Nat)(F':AH S.T):Bool :=
 zL1 N o&&(Q0 o.op&&(yu (oP F'++kR)&&(yu kF&&(kF.all (oP F').contains&&((F'.all λp=>kF.contains p.1||!(H.has p.1))&&(yu (kF++kR)&&((uD kF H).isSome&&((uD kR H).isSome&&zCb gk F'))))))))
def zTw{R:Type}(N:Nat)(gk:List (Nat×Nat))(i:Nat)(o:Oper)(E:AE S.T)(H:AH S.T)(k:AE S.T->AH S.T->FP->Pg R)(kF kR:List Nat)(a:A S.T)(F':AH S.T):Pg R :=
 bif Q5 N gk H o kF kR F' then k (zzf o a E) (Zn H F') (.m i (oP F') kR)else .fail
def opK{R:Type}(N:Nat)(gk:List (Nat×Nat))(i:Nat)(o:Oper)(E:AE S.T)(H:AH S.T)(k:AE S.T->AH S.T->FP->Pg R):OR S->Pg R
 |.no=>.fail
 |.one kF kR a F'=>zTw N gk i o E H k kF kR a F'
 |.bnd ov kF kR r=>.bnd ov λx=>match r x with
  |some (a,F')=>zTw N gk i o E H k kF kR a F'
  |none=>.fail
 |.eqs l r=>zIe (opK N gk i o E H k r) l
 |.alt ov kF kR r q=>.orr ov (λx=>match r x with
  |some (a,F')=>zTw N gk i o E H k kF kR a F'
  |none=>.fail) (opK N gk i o E H k q)
inductive Wnt where
 |bad|yes|skip
 |ask (d:Nat) (t:Bool) (want:Bool)
def zm8(all:List Oper)(E:AE S.T)(o:Oper):Wnt:=match o.guard with
 |none=>.yes
 |some (j,want)=>match (all[j]?).bind (·.dst)with
  |some d=>match E.get d with
   |.raw (.bool true)=>bif want then .yes else .skip
   |.raw (.bool false)=>bif want then .skip else .yes
   |.raw .no=>.skip
   |.dat .b t=>.ask d t want
   |_=>.bad
  |none=>.bad
structure Cx(S:Tab) where
 P:Program
 N:Nat
 K0:List Nat
 T:CtT S
 cd:Nat->Option TC
 kk:Nat
 nb:NB
 rT:Tm
 x:HL S.T rT.cs
 pt:Tp:=.no
 TP:zgi S rT.vs:=[]
 pm:Bool:=false
 gk:List (Nat×Nat):=[]
def skK{R:Type}(N:Nat)(i:Nat)(o:Oper)(E:AE S.T)(H:AH S.T)(k:AE S.T->AH S.T->FP->Pg R):Pg R :=
 bif zL1 N o&&Q0 o.op then k (zzf o (.raw .no) E) H (.m i [] [])else .fail
abbrev PK(S:Tab)(R:Type):=Nat->Oper->List Oper->AE S.T->AH S.T->List FP->Pg R->Pg R
def zIj:A S.T->A S.T->Option (List (Nat×Nat))
 |.nh sz k n,.nh sz' k' n'=>bif Nat.beq sz sz'&&Nat.beq k k' then some [(n,n')]else none
 |_,_=>none
def zCc(P:Program)(H:AH S.T)(k t off:Nat):Option (Nat×A S.T):=match H.get k with
 |some (.box bt cs)=>match oK P t with
  |some sh=>match atA cs off sh with
   |some b=>some (bt,b)
   |none=>none
  |none=>none
 |_=>none
def ldQ(P:Program)(E:AE S.T)(H:AH S.T)(o:Oper)(E':AE S.T):Option (List (Nat×Nat)×(Nat×Nat×Nat)):=match o.op,o.dst with
 |.load t x,some d=>match evA E x with
  |.raw (.ptr k 0 off)=>match zCc P H k t off with
   |some (_,b)=>match zIj (E'.get d) b with
    |some l=>some (l,(k,t,off))
    |none=>none
   |none=>none
  |_=>none
 |_,_=>none
def zQb(P:Program)(H H':AH S.T)(c:Nat×Nat×Nat):Option (List (Nat×Nat)):=match zCc P H c.1 c.2.1 c.2.2,zCc P H' c.1 c.2.1 c.2.2 with
 |some (bt,b),some (bt',b')=>bif Nat.beq bt bt' then zIj b b' else none
 |_,_=>none
def kcQ(P:Program)(ms:List Nat)(H H':AH S.T)(fp:FP):List FP->List (List (Nat×Nat)×(Nat×Nat×Nat))
 |[]=>[]
 |x::r=>match x.ld with
  |some c=>bif zzc c.1 fp.fk&&!(zii ms fp.i x.i)then match zQb P H H' c with
   |some l=>(l,c)::kcQ P ms H H' fp r
   |none=>kcQ P ms H H' fp r
   else kcQ P ms H H' fp r
  |none=>kcQ P ms H H' fp r
def oneB(l:List Nat)(k:Nat):Bool:=match l with
 |[j]=>Nat.beq j k
 |_=>false
def zxv{R:Type}(dr:Bool)(P:Program)(all:List Oper)(E:AE S.T)(H:AH S.T)(o:Oper)(done:List FP)(E':AE S.T)(H':AH S.T)(fp:FP)(k:FP->Pg R):Pg R :=
 bif dr then
  match ldQ P E H o E' with
  |some (l,x)=>bif fp.fk.isEmpty&&oneB fp.rk x.1 then zIe (k ⟨fp.i,[],[x.1],some x,[]⟩) l else k fp
  |none=>match kcQ P (jB all []) H H' fp done with
   |[]=>k fp
   |q=>zIe (k ⟨fp.i,fp.fk,fp.rk,none,q.map (·.2)⟩) (q.map (·.1)).flatten
 else k fp
def rg{R:Type}(X:Cx S)(all:List Oper)(dr:Bool)(pk:PK S R)(k:AE S.T->AH S.T->List FP->Pg R):Nat->List Oper->AE S.T->AH S.T->List FP->Pg R
 |_,[],E,H,done=>k E H done
 |i,o::r,E,H,done=>match zm8 all E o with
  |.bad=>.fail
  |.yes=>pk i o r E H done (opK X.N X.gk i o E H (λE' H' fp=>zxv dr X.P all E H o done E' H' fp λfp=>rg X all dr pk k (i+1) r E' H' (fp::done)) (opE X.P X.T X.cd E H (o.dst.getD 0+1000000) o.op))
  |.skip=>skK X.N i o E H λE' H' fp=>rg X all dr pk k (i+1) r E' H' (fp::done)
  |.ask d t want=>.cnd t
    (bif want then pk i o r ((d,.raw (.bool true))::E) H done (opK X.N X.gk i o ((d,.raw (.bool true))::E) H (λE' H' fp=>zxv dr X.P all ((d,.raw (.bool true))::E) H o done E' H' fp λfp=>rg X all dr pk k (i+1) r E' H' (fp::done)) (opE X.P X.T X.cd ((d,.raw (.bool true))::E) H (o.dst.getD 0+1000000) o.op))
     else skK X.N i o ((d,.raw (.bool true))::E) H λE' H' fp=>rg X all dr pk k (i+1) r E' H' (fp::done))
    (bif want then skK X.N i o ((d,.raw (.bool false))::E) H (λE' H' fp=>rg X all dr pk k (i+1) r E' H' (fp::done))
     else pk i o r ((d,.raw (.bool false))::E) H done (opK X.N X.gk i o ((d,.raw (.bool false))::E) H (λE' H' fp=>zxv dr X.P all ((d,.raw (.bool false))::E) H o done E' H' fp λfp=>rg X all dr pk k (i+1) r E' H' (fp::done)) (opE X.P X.T X.cd ((d,.raw (.bool false))::E) H (o.dst.getD 0+1000000) o.op)))
def rgR{R:Type}(X:Cx S)(all:List Oper)(ip:Nat)(k:AE S.T->AH S.T->List FP->Pg R):Nat->List Oper->AE S.T->AH S.T->List FP->Pg R
 |_,[],E,H,done=>k E H done
 |i,o::r,E,H,done=>bif zii (jB all []) i ip then rgR X all ip k (i+1) r E H done else match zm8 all E o with
  |.bad=>.fail
  |.yes=>opK X.N X.gk i o E H (λE' H' fp=>rgR X all ip k (i+1) r E' H' (fp::done)) (opE X.P X.T X.cd E H (o.dst.getD 0+1000000) o.op)
  |.skip=>skK X.N i o E H λE' H' fp=>rgR X all ip k (i+1) r E' H' (fp::done)
  |.ask d t want=>.cnd t
    (bif want then opK X.N X.gk i o ((d,.raw (.bool true))::E) H (λE' H' fp=>rgR X all ip k (i+1) r E' H' (fp::done)) (opE X.P X.T X.cd ((d,.raw (.bool true))::E) H (o.dst.getD 0+1000000) o.op)
     else skK X.N i o ((d,.raw (.bool true))::E) H λE' H' fp=>rgR X all ip k (i+1) r E' H' (fp::done))
    (bif want then skK X.N i o ((d,.raw (.bool false))::E) H (λE' H' fp=>rgR X all ip k (i+1) r E' H' (fp::done))
     else opK X.N X.gk i o ((d,.raw (.bool false))::E) H (λE' H' fp=>rgR X all ip k (i+1) r E' H' (fp::done)) (opE X.P X.T X.cd ((d,.raw (.bool false))::E) H (o.dst.getD 0+1000000) o.op))
def zVf{α R:Type}(inj:Option (α->R))(q:α):Pg R:=match inj with
 |some j=>.ret (some (j q))
 |none=>.fail
def ptB{pc:List TC}(t:zBr S pc)(H:AH S.T):Bool:=yu (t.kF++t.kR)&&((uD t.kF H).isSome&&(uD t.kR H).isSome)
def pkT{R:Type}(X:Cx S)(inj:Option (HL S.T X.rT.vs->R)):PK S R:=λ_ o _ E H _ p=>bif X.pm then(match zTv X.TP X.pt E H o.op with
  |.none=>p
  |.op q=>zVf inj q
  |.call t=>zIe (.orr t.o (λq=>bif ptB t H then zVf inj q else .fail) p) t.eqs)else p
def pkD{R:Type}(X:Cx S)(all:List Oper)(inj:Option (HL S.T X.rT.vs->R)):PK S R:=λi o rest E H done p=>bif X.pm then(match zTv X.TP X.pt E H o.op with
  |.none=>p
  |.op _=>.fail
  |.call t=>zIe (.orr t.o (λq=>bif ptB t H then rgR X all i (λ_ _ done'=>bif ztz all (.m i t.kF t.kR) done'.reverse&&(done'.take (done'.length-done.length)).all (λx=>JY all x (.m i t.kF t.kR))then zVf inj q else .fail) (i+1) rest E H done else .fail) p) t.eqs)else p
end
section
variable{S:Tab}
def zt9{R:Type}{r:R}{P:Program}{N i:Nat}{gk:List (Nat×Nat)}{o:Oper}{E:AE S.T}{H:AH S.T}{k:AE S.T->AH S.T->FP->Pg R}:∀{q:OR S},q.OK P o E H->(opK N gk i o E H k q).Is r ->
  ∃kF kR a F' F Rr,(k (zzf o a E) (Zn H F') (.m i (oP F') kR)).Is r/\Q5 N gk H o kF kR F'=true/\uD kF H=some F/\uD kR H=some Rr/\EV.Loc P o (eV E) (hV F++hV Rr) a.v (hV F'++hV Rr)
 |.no,_,h=>(Is.fail h).elim
 |.one kF kR a F',hq,h=>by
  simp only[opK,zTw]at h
  cases hb:Q5 N gk H o kF kR F' with
  |false=>rw[hb]at h;exact(Is.fail h).elim
  |true =>
   rw[hb]at h;have hb':=hb;simp only[Q5,bn]at hb';obtain⟨_,_,_,_,_,_,_,h1,h2,_⟩:=hb';obtain⟨F,hF⟩:=Option.isSome_iff_exists.1 h1;obtain⟨Rr,hR⟩:=Option.isSome_iff_exists.1 h2;exact⟨kF,kR,a,F',F,Rr,h,hb,hF,hR,hq F Rr hF hR⟩
 |.bnd ov kF kR rr,hq,h=>by
  simp only[opK]at h;obtain⟨x,hx,h⟩:=Is.bnd h;split at h
  ·rename_i a F' hr
   simp only[zTw]at h
   cases hb:Q5 N gk H o kF kR F' with
   |false=>rw[hb]at h;exact(Is.fail h).elim
   |true =>
    rw[hb]at h;have hb':=hb;simp only[Q5,bn]at hb';obtain⟨_,_,_,_,_,_,_,h1,h2,_⟩:=hb';obtain⟨F,hF⟩:=Option.isSome_iff_exists.1 h1;obtain⟨Rr,hR⟩:=Option.isSome_iff_exists.1 h2;exact⟨kF,kR,a,F',F,Rr,h,hb,hF,hR,hq x hx a F' hr F Rr hF hR⟩
  ·exact(Is.fail h).elim
 |.eqs l q,hq,h=>by
  simp only[opK]at h;obtain⟨h1,h2⟩:=Ha h;exact zt9 (hq h1) h2
 |.alt ov kF kR rr q,hq,h=>by
  simp only[opK]at h
  rcases Is.orr h with⟨x,hx,h⟩|⟨_,h⟩
  ·split at h
   ·rename_i a F' hr
    simp only[zTw]at h
    cases hb:Q5 N gk H o kF kR F' with
    |false=>rw[hb]at h;exact(Is.fail h).elim
    |true =>
     rw[hb]at h;have hb':=hb;simp only[Q5,bn]at hb';obtain⟨_,_,_,_,_,_,_,h1,h2,_⟩:=hb';obtain⟨F,hF⟩:=Option.isSome_iff_exists.1 h1;obtain⟨Rr,hR⟩:=Option.isSome_iff_exists.1 h2;exact⟨kF,kR,a,F',F,Rr,h,hb,hF,hR,hq.1 x hx a F' hr F Rr hF hR⟩
   ·exact(Is.fail h).elim
  ·exact zt9 hq.2 h
def zm9{all:List Oper}{E:AE S.T}{o:Oper}(h:zm8 all E o=.yes):xu all (eV E) o=some true:=by
 unfold zm8 at h;unfold xu;split at h
 ·rename_i hg;rw[hg]
 ·rename_i j want hg
  rw[hg];split at h
  ·rename_i d hd
   simp only[hd,J0];split at h
   ·rename_i he;rw[he];cases want<;>first|(cases h;done)|rfl
   ·rename_i he;rw[he];cases want<;>first|(cases h;done)|rfl
   ·cases h
   ·cases h
   ·cases h
  ·cases h
def zgl{all:List Oper}{E:AE S.T}{o:Oper}(h:zm8 all E o=.skip):xu all (eV E) o=some false:=by
 unfold zm8 at h;unfold xu;split at h
 ·cases h
 ·rename_i j want hg
  rw[hg];split at h
  ·rename_i d hd
   simp only[hd,J0];split at h
   ·rename_i he;rw[he];cases want<;>first|(cases h;done)|rfl
   ·rename_i he;rw[he];cases want<;>first|(cases h;done)|rfl
   ·rename_i he;rw[he];rfl
   ·cases h
   ·cases h
  ·cases h
def zna{all:List Oper}{E:AE S.T}{o:Oper}{d:Nat}{t want:Bool}(h:zm8 all E o=.ask d t want):(eV E).get d=.bool t/\∀b,xu all ((d,.bool b)::eV E) o=some (b==want):=by
 unfold zm8 at h;unfold xu;split at h
 ·cases h
 ·rename_i j want' hg
  rw[hg];split at h
  ·rename_i d' hd
   simp only[hd,J0];split at h
   ·cases want'<;>cases h
   ·cases want'<;>cases h
   ·cases h
   ·rename_i he
    cases h;refine⟨by rw[he];rfl,λb=>?_⟩;simp only[Env.get,Nat.beq_refl,ctQ]
   ·cases h
  ·cases h
variable{X:Cx S}{R:Type}{r:R}{all:List Oper}{pk:PK S R}{k:AE S.T->AH S.T->List FP->Pg R}
def zua{a b:A S.T}{l:List (Nat×Nat)}(h:zIj a b=some l)(hl:wO l):a.v=b.v:=by
 unfold zIj at h;split at h
 ·rename_i sz k n sz' k' n'
  cases hb:Nat.beq sz sz'&&Nat.beq k k' with
  |false=>rw[hb]at h;cases h
  |true =>
   rw[hb]at h;cases h;simp only[bn]at hb;rw[eb hb.1,eb hb.2,show n=n' from hl _ (msQ.2 rfl)]
 ·cases h
def zjf{P:Program}{H:AH S.T}{k t off bt:Nat}{b:A S.T}(h:zCc P H k t off=some (bt,b)):∃cs,(hV H).get k=some (.box bt cs)/\atV P t cs off=some b.v:=by
 unfold zCc at h;split at h
 ·rename_i bt' cs hg
  split at h
  ·rename_i sh hsh
   split at h
   ·rename_i b' hb
    cases h;exact⟨A.vs cs,by rw[Ki,hg];rfl,(ziu hb).at hsh⟩
   ·cases h
  ·cases h
 ·cases h
def znb{P:Program}{ms:List Nat}{H H':AH S.T}{fp:FP}:∀{done:List FP},wO ((kcQ P ms H H' fp done).map (·.1)).flatten->∀c∈(kcQ P ms H H' fp done).map (·.2),c.1∈fp.fk/\∃bt cs cs',(hV H).get c.1=some (.box bt cs)/\(hV H').get c.1=some (.box bt cs')/\atV P c.2.1 cs c.2.2=atV P c.2.1 cs' c.2.2
 |[],_,c,hc=>by cases hc
 |x::r,hl,c,hc=>by
  unfold kcQ at hl hc;split at hl
  ·rename_i c0 hld
   rw[hld]at hc;simp only at hc
   cases hm:zzc c0.1 fp.fk&&!(zii ms fp.i x.i)with
   |false=>rw[hm]at hl hc;exact znb hl c hc
   |true =>
    rw[hm,ctQ]at hl hc
    cases hk:zQb P H H' c0 with
    |none=>rw[hk]at hl hc;exact znb hl c hc
    |some l =>
     rw[hk]at hl hc;simp only[mk9,List.flatten_cons]at hl hc
     rcases List.mem_cons.1 hc with rfl|hc
     ·simp only[bn]at hm
      refine⟨VN.1 hm.1,?_⟩;unfold zQb at hk;split at hk
      ·rename_i bt b bt' b' h1 h2
       cases hb:Nat.beq bt bt' with
       |false=>rw[hb]at hk;cases hk
       |true =>
        rw[hb]at hk;have:=eb hb;subst this;obtain⟨cs,g1,g2⟩:=zjf h1;obtain⟨cs',g3,g4⟩:=zjf h2;exact⟨bt,cs,cs',g1,g3,by rw[g2,g4,zua hk λp hp=>hl p (List.mem_append_left _ hp)]⟩
      ·cases hk
     ·exact znb (λp hp=>hl p (List.mem_append_right _ hp)) c hc
  ·rename_i hld
   rw[hld]at hc;exact znb hl c hc
def zIk{o:Oper}{a:A S.T}{E:AE S.T}{d:Nat}(h:o.dst=some d):((zzf o a E).get d).v=a.v:=by
 have:=J0 (zzf o a E) d;rw[zgk,h]at this;rw[<- this];simp only[EV.zlq,Env.get,Nat.beq_refl,ctQ]
def zQc{k:Nat}:∀{l:List Nat},oneB l k=true->l=[k]
 |[],h=>by cases h
 |[j],h=>by rw[eb (show Nat.beq j k=true from h)]
 |_::_::_,h=>by cases h
def zIl{R:Type}{r:R}{dr:Bool}{P:Program}{all:List Oper}{E:AE S.T}{H:AH S.T}{o:Oper}{done:List FP}{a:A S.T}{H':AH S.T}{i:Nat}{fk rk:List Nat}{k:FP->Pg R}(h:(zxv dr P all E H o done (zzf o a E) H' (.m i fk rk) k).Is r):
  ∃fp,(k fp).Is r/\fp.i=i/\fp.fk=fk/\fp.rk=rk/\zG7 P o (eV E).get (hV H).get (hV H').get a.v fp:=by
 have h0:(k (.m i fk rk)).Is r->∃fp,(k fp).Is r/\fp.i=i/\fp.fk=fk/\fp.rk=rk/\zG7 P o (eV E).get (hV H).get (hV H').get a.v fp:=λh=>⟨_,h,rfl,rfl,rfl,zLy⟩
 unfold zxv at h
 cases dr with
 |false=>exact h0 h
 |true =>
  rw[ctQ]at h;split at h
  ·rename_i l x hx
   cases hb:(FP.m i fk rk).fk.isEmpty&&oneB (FP.m i fk rk).rk x.1 with
   |false=>rw[hb]at h;exact h0 h
   |true =>
    rw[hb,ctQ]at h;obtain⟨hl,h⟩:=Ha h;simp only[bn,List.isEmpty_iff]at hb;obtain⟨b1,b2⟩:=hb;have b3:rk=[x.1]:=zQc b2;refine⟨_,h,rfl,b1.symm,b3.symm,λk t off hk=>?_,λk t off hk=>by cases hk⟩;obtain⟨dst,op,ty,pos,aft,gd⟩:=o;unfold ldQ at hx;split at hx
    ·rename_i t' y d e1 e2
     split at hx
     ·rename_i k' off' e3
      split at hx
      ·rename_i bt b e4
       split at hx
       ·rename_i l' e5
        cases hx;cases hk;obtain⟨cs,g1,g2⟩:=zjf e4;have hv:=(zIk (a:=a) (E:=E) e2).symm.trans (zua e5 hl);rw[<- hv]at g2;refine⟨rfl,rfl,⟨bt,cs,g1,g2⟩,λbt cs hc=>?_⟩;have e1:op=.load t y:=e1;subst e1
        refine zAj.congr (g:=evV (eV E)) ?_ λx _=>zb2 (eV E) x
        exact zti (by rw[zZ,e3];rfl) hc
       ·cases hx
      ·cases hx
     ·cases hx
    ·cases hx
  ·split at h
   ·exact h0 h
   ·obtain⟨hl,h⟩:=Ha h
    exact⟨_,h,rfl,rfl,rfl,λ_ _ _ hk=>(by cases hk),λk t off hk=>znb hl (k,t,off) hk⟩
def zIm{dr:Bool}(hS:S.OK)(hT:CtT.OK X.P X.T)(W:Nat->List Oper->Env->Heap->List FP->Prop)
  (hnil:∀i E H done,(k E H done).Is r->W i [] (eV E) (hV H) done)
  (hop:∀i o rest (E:AE S.T) (H:AH S.T) kF kR (a:A S.T) (F' F Rr:AH S.T) done,all.drop i=o::rest->xu all (eV E) o=some true->Q5 X.N X.gk H o kF kR F'=true->uD kF H=some F->uD kR H=some Rr->EV.Loc X.P o (eV E) (hV F++hV Rr) a.v (hV F'++hV Rr)->∀fp:FP,fp.i=i->fp.fk=oP F'->fp.rk=kR->zG7 X.P o (eV E).get (hV H).get (hV (Zn H F')).get a.v fp->W (i+1) rest (eV (zzf o a E)) (hV (Zn H F')) (fp::done)->W i (o::rest) (eV E) (hV H) done)
  (hsk:∀i o rest (E:AE S.T) (H:AH S.T) done,all.drop i=o::rest->xu all (eV E) o=some false->(zL1 X.N o&&Q0 o.op)=true->W (i+1) rest (eV (zzf o (.raw .no) E)) (hV H) (.m i [] []::done)->W i (o::rest) (eV E) (hV H) done)
  (hext:∀i l d v (E:AE S.T) (H:AH S.T) done,(eV E).get d=v->W i l ((d,v)::eV E) (hV H) done->W i l (eV E) (hV H) done)
  (hpk:∀i o rest (E:AE S.T) (H:AH S.T) done p,all.drop i=o::rest->xu all (eV E) o=some true->(pk i o rest E H done p).Is r->p.Is r∨W i (o::rest) (eV E) (hV H) done):
  ∀(l:List Oper)(i:Nat)(E:AE S.T)(H:AH S.T)(done:List FP),all.drop i=l->(rg X all dr pk k i l E H done).Is r->W i l (eV E) (hV H) done
 |[],i,E,H,done,_,h=>hnil i E H done h
 |o::rest,i,E,H,done,hd,h=>by
  have hd':all.drop (i+1)=rest:=by
   rw[<- List.drop_drop,hd];rfl
  have go:∀E:AE S.T,xu all (eV E) o=some true->(pk i o rest E H done (opK X.N X.gk i o E H (λE' H' fp=>zxv dr X.P all E H o done E' H' fp λfp=>rg X all dr pk k (i+1) rest E' H' (fp::done)) (opE X.P X.T X.cd E H (o.dst.getD 0+1000000) o.op))).Is r->W i (o::rest) (eV E) (hV H) done:=λE hw h=>by
   rcases hpk i o rest E H done _ hd hw h with h|h
   rotate_left
   ·exact h
   obtain⟨kF,kR,a,F',F,Rr,h1,h2,h3,h4,h5⟩:=zt9 (zMg hS hT) h;obtain⟨fp,h1,f1,f2,f3,f4⟩:=zIl h1;exact hop i o rest E H kF kR a F' F Rr done hd hw h2 h3 h4 h5 fp f1 f2 f3 f4 (zIm hS hT W hnil hop hsk hext hpk rest (i+1) _ _ _ hd' h1)
  have sk:∀E:AE S.T,xu all (eV E) o=some false->(skK X.N i o E H λE' H' fp=>rg X all dr pk k (i+1) rest E' H' (fp::done)).Is r->W i (o::rest) (eV E) (hV H) done:=λE hw h=>by
   unfold skK at h
   cases hb:zL1 X.N o&&Q0 o.op with
   |false=>rw[hb]at h;exact(Is.fail h).elim
   |true =>
    rw[hb]at h;exact hsk i o rest E H done hd hw hb (zIm hS hT W hnil hop hsk hext hpk rest (i+1) _ _ _ hd' h)
  simp only[rg]at h;split at h
  ·exact(Is.fail h).elim
  ·rename_i hw;exact go E (zm9 hw) h
  ·rename_i hw;exact sk E (zgl hw) h
  ·rename_i d t want hw
   obtain⟨h1,h2⟩:=zna hw;obtain⟨h3,h4⟩:=Is.cnd h
   cases t with
   |true =>
    have h3:=h3 rfl;refine hext i _ d (.bool true) E H done h1 ?_;have h2:=h2 true
    cases want with
    |true=>exact go ((d,.raw (.bool true))::E) h2 h3
    |false=>exact sk ((d,.raw (.bool true))::E) h2 h3
   |false =>
    have h4:=h4 rfl;refine hext i _ d (.bool false) E H done h1 ?_;have h2:=h2 false
    cases want with
    |true=>exact sk ((d,.raw (.bool false))::E) h2 h4
    |false=>exact go ((d,.raw (.bool false))::E) h2 h4
def V3(F:AH S.T):oP F=keys (hV F):=(zA4 F).symm
def zjg:∀{a b:List Nat}{H F G:Heap},uB a H=some F->uB b H=some G->uB (a++b) H=some (F++G)
 |[],b,H,F,G,h1,h2=>by cases h1;exact h2
 |q::a,b,H,F,G,h1,h2=>by
  simp only[uB]at h1;split at h1
  ·rename_i o l ho hl
   cases h1;simp only[List.cons_append,uB,ho,zjg hl h2]
  ·cases h1
def zjh{H F' F Rr:AH S.T}{kF kR:List Nat}(hn:(keys (hV H)).Nodup)(h1:yu (oP F'++kR)=true)(h2:(kF.all (oP F').contains)=true)(h3:(F'.all λp=>kF.contains p.1||!(H.has p.1))=true)(hR:uD kR H=some Rr):
  (hV F'++qR kF (hV H)).Perm (hV (Zn H F'))/\((hV F'++hV Rr)++qR (kF++kR) (hV H)).Perm (hV (Zn H F')):=by
 have hks:=vu hR;obtain⟨hR1,hR2⟩:=xk hks;rw[V3]at h1;have hnd:=yA h1
 have hsub:∀k∈kF,k∈keys (hV F'):=λk hk=>by
  have:=(List.all_eq_true.1 h2) k hk;rw[<- V3];simpa using this
 have hfr:∀k∈keys (hV F'),k ∉ kF->k ∉ keys (hV H):=λk hk hkF hkH=>by
  rw[<- V3]at hk;obtain⟨p,hp,rfl⟩:=List.mem_map.1 hk;have:=(List.all_eq_true.1 h3) p hp;simp only[Bool.or_eq_true,List.contains_eq_mem,decide_eq_true_eq,Bool.not_eq_true']at this
  rcases this with h|h
  ·exact hkF h
  ·rw[<- oM,yP.2 hkH]at h;cases h
 have hrem:∀ks:List Nat,(keys (qR ks (hV H))).Nodup:=λks=>by
  have:(keys (qR ks (hV H)))=(keys (hV H)).filter (λk=>!ks.contains k):=by
   simp only[keys,qR];rw[List.filter_map];rfl
  rw[this];exact hn.filter _
 have hmem:∀{ks:List Nat}{k:Nat},k∈keys (qR ks (hV H))->k∈keys (hV H)/\k ∉ ks:=λ{ks k} hk=>by
  obtain⟨p,hp,rfl⟩:=List.mem_map.1 hk;have:=List.mem_filter.1 hp;exact⟨mem_keys this.1,by simpa using this.2⟩
 refine⟨QZ ?_ (Qa hn F') λk=>?_,QZ ?_ (Qa hn F') λk=>?_⟩
 ·rw[zH]
  refine List.nodup_append.2 ⟨(List.nodup_append.1 hnd).1,hrem kF,λa ha b hb e=>?_⟩;subst e;exact hfr a ha (hmem hb).2 (hmem hb).1
 ·rw[V1,get_append]
  split
  ·rfl
  ·rename_i hk
   exact QY λh=>hk (hsub k h)
 ·rw[zH,zH,hR1]
  refine List.nodup_append.2 ⟨hnd,hrem _,λa ha b hb e=>?_⟩;subst e;obtain⟨g1,g2⟩:=hmem hb
  rcases List.mem_append.1 ha with ha|ha
  ·exact hfr a ha (λh=>g2 (List.mem_append_left _ h)) g1
  ·exact g2 (List.mem_append_right _ ha)
 ·rw[V1,get_append,zH,hR1,get_append]
  by_cases hk:k∈keys (hV F')
  ·rw[if_pos (List.mem_append_left _ hk),if_pos hk,if_pos hk]
  ·rw[if_neg hk,if_neg hk]
   by_cases hk2:k∈kR
   ·rw[if_pos (List.mem_append_right _ hk2)]
    obtain⟨p,hp,e⟩:=List.mem_map.1 (hR1▸hk2:k∈keys (hV Rr));subst e;rw[get_of_mem (by rw[hR1];exact(List.nodup_append.1 hnd).2.1) hp,get_of_mem hn (hR2 p hp)]
   ·rw[if_neg λh=>(List.mem_append.1 h).elim hk hk2]
    exact QY λh=>(List.mem_append.1 h).elim (λh=>hk (hsub k h)) hk2
section
variable{K0:List Nat}{c:Ctx K0}{Q:we}{rw0:Option Nat}
def zQd{ρ:Env}{H:Heap}{d:Nat}{v:V}(h:ρ.get d=v):Cut K0 ρ H ((d,v)::ρ) H:=zUu d h rfl
def zre{α:Type}{inj:Option (α->R)}{q:α}(h:(zVf inj q).Is r):∃j,inj=some j/\j q=r:=by
 unfold zVf at h;split at h
 ·rename_i j
  exact⟨j,rfl,Option.some.inj (Is.ret h)⟩
 ·exact(Is.fail h).elim
def zMh{pc:List TC}{t:zBr S pc}{H:AH S.T}(h:ptB t H=true):yu (t.kF++t.kR)=true/\∃F Rr,uD t.kF H=some F/\uD t.kR H=some Rr:=by
 simp only[ptB,bn]at h;obtain⟨h1,h2,h3⟩:=h;obtain⟨F,hF⟩:=Option.isSome_iff_exists.1 h2;obtain⟨Rr,hR⟩:=Option.isSome_iff_exists.1 h3;exact⟨h1,F,Rr,hF,hR⟩
def zQe(hS:S.OK){P:Program}{pc:List TC}{TP:zgi S pc}{pt:Tp}{E:AE S.T}{H:AH S.T}{o:Oper}{q:HL S.T pc}(h:zTv TP pt E H o.op=.op q):zHu P o (eV E) [] (pvT pt pc q):=by
 obtain⟨dst,op,ty,pos,aft,gd⟩:=o;unfold zTv at h;split at h
 ·rename_i x e
  cases e;split at h
  ·rename_i q' hq
   cases h;obtain⟨t,v,h1,h2,h3⟩:=zP6 hS hq;rw[<- h3];exact zqz (by rw[zZ];exact h1) h2
  ·cases h
 ·unfold zVc at h
  split at h<;>cases h
 ·split at h
  ·unfold zVc at h
   split at h<;>cases h
  ·cases h
 ·cases h
def Cx.POK(X:Cx S):Prop:=X.pm=true->zgi.OK X.P (pvT X.pt X.rT.vs) X.TP
def zas{N:Nat}{gk:List (Nat×Nat)}{H F':AH S.T}{o:Oper}{kF kR:List Nat}(h:Q5 N gk H o kF kR F'=true):zCb gk F'=true:=by
 simp only[Q5,bn]at h;exact h.2.2.2.2.2.2.2.2.2
def zVg{GK H H':Heap}(hG:zmq GK H.get)(hk:KG H H'):KG GK H':=λp hp hgl=>hk p (Heap.get_mem (hG p hp)) hgl
def zQf(hS:S.OK)(hT:CtT.OK X.P X.T)(hTP:X.POK){inj:Option (HL S.T X.rT.vs->R)}{l:List Oper}{E:AE S.T}{H:AH S.T}(hG0:zmq (gkV S X.gk) (hV H).get)(h:(rg X l false (pkT X inj) k 0 l E H []).Is r)(hQ:∀E H done,(k E H done).Is r->Q .normal (eV E) (hV H) [])
  (hp:∀q j,X.pm=true->inj=some j->j q=r->∀H',KG (gkV S X.gk) H'->Q (.panic [zxj (pvT X.pt X.rT.vs q)]) [] H' []):zey c X.P rw0 X.N l Q l (eV E) (hV H) []:=by
 refine zIm (X:=X) (all:=l) hS hT (λ_ l' ρ H _=>zmq (gkV S X.gk) H.get->zey c X.P rw0 X.N l Q l' ρ H []) (λi E H done h _=>zUg (hQ E H done h)) ?_ ?_ ?_ ?_ l 0 E H [] rfl h hG0
 ·intro i o rest E H kF kR a F' F Rr done hd hw hb hF hR hl fp _ _ _ _ hW hG
  have hb':=hb;simp only[Q5,bn]at hb';obtain⟨b1,b2,b3,b4,b5,b6,b7,b8⟩:=hb'
  refine zG5 λhn=>?_
  obtain⟨p1,p2⟩:=zjh (F:=F) hn b3 b5 b6 hR;have hsel:uB (kF++kR) (hV H)=some (hV F++hV Rr):=zjg (vu hF) (vu hR);refine zUn (kF++kR) b1 hw b7 hsel hl (List.all_eq_true.2 λp hp=>?_) (zO1 p2 ?_)
  ·rcases List.mem_append.1 hp with hp|hp
   ·obtain⟨q,hq,rfl⟩:=List.mem_map.1 hp
    have:=(List.all_eq_true.1 b6) q hq;simp only[Bool.or_eq_true,List.contains_eq_mem,decide_eq_true_eq,Bool.not_eq_true',List.mem_append]at this ⊢
    rcases this with h|h
    ·exact .inl (.inl h)
    ·right
     rw[<- oM]at h;simp only[decide_eq_false_iff_not]
     exact λhm=>by rw[yP.2 hm]at h;cases h
   ·have:=mem_keys hp
    rw[(xk (vu hR)).1]at this;simp[this]
  ·rw[<- zgk];exact hW (V2 (zas hb) hG)
 ·intro i o rest E H done hd hw hb hW hG
  simp only[bn]at hb;have:=hW hG;rw[zgk,show(A.raw (T:=S.T) .no).v=.no by simp only[A.v]]at this;have hb1:=hb.1;unfold zL1 at hb1
  cases hd':o.dst with
  |none=>rw[hd']at this;exact zGw hd' hw this
  |some d=>rw[hd']at this hb1;exact zOs d hd' hb1 hw this
 ·intro i l' d v E H done hg hW hG
  exact o_to _ _ (zQd hg) (hW hG)
 ·intro i o rest E H done p hd hw h
  unfold pkT at h
  cases hm:X.pm with
  |false=>rw[hm]at h;exact .inl h
  |true =>
   rw[hm,ctQ]at h;split at h
   ·exact .inl h
   ·rename_i q hq
    obtain⟨j,h1,h2⟩:=zre h
    exact .inr λhG=>zL8 [] hw rfl rfl (zQe hS hq) λH' hk=>hp q j hm h1 h2 H' (zVg hG hk)
   ·rename_i t ht
    obtain⟨h1,h2⟩:=Ha h
    rcases Is.orr h2 with⟨q,hq,h3⟩|⟨_,h3⟩
    ·cases hb:ptB t H with
     |false=>rw[hb]at h3;exact(Is.fail h3).elim
     |true =>
      rw[hb,ctQ]at h3;obtain⟨j,g1,g2⟩:=zre h3;obtain⟨b1,F,Rr,hF,hR⟩:=zMh hb;obtain⟨dst,op,ty,pos,aft,gd⟩:=o
      exact .inr λhG=>zL8 (t.kF++t.kR) hw b1 (zjg (vu hF) (vu hR)) (zm6 hS (hTP hm) ht hq h1 F Rr hF hR) λH' hk=>hp q j hm g1 g2 H' (zVg hG hk)
    ·exact .inl h3
def d_ext{P:Program}{N:Nat}{all l:List Oper}{done:List FP}{ρ ρ':Env}{H:Heap}{K:Env->Heap->Prop}(hg:ρ'.get=ρ.get)(h:zb3 P N all done l ρ' H K):zb3 P N all done l ρ H K:=by
 unfold zb3 at h ⊢;rw[hg]at h;exact h
def zCd{i:Nat}{o:Oper}{rest:List Oper}{E:AE S.T}{H F' F Rr:AH S.T}{kF kR:List Nat}{a:A S.T}(hd:all.drop i=o::rest)(hw:xu all (eV E) o=some true)(hb:Q5 X.N X.gk H o kF kR F'=true)(hF:uD kF H=some F)(hR:uD kR H=some Rr)
  (hl:EV.Loc X.P o (eV E) (hV F++hV Rr) a.v (hV F'++hV Rr)) (hn:(keys (hV H)).Nodup) {fp:FP} (f1:fp.i=i) (f2:fp.fk=oP F') (f3:fp.rk=kR) (f4:zG7 X.P o (eV E).get (hV H).get (hV (Zn H F')).get a.v fp):(keys (hV (Zn H F'))).Nodup/\j7 X.P X.N all fp (eV E).get (hV H).get (eV (zzf o a E)).get (hV (Zn H F')).get:=by
 have hb':=hb;simp only[Q5,bn]at hb';obtain⟨b1,b2,b3,b4,b5,b6,b7,b8⟩:=hb';obtain⟨p1,p2⟩:=zjh (F:=F) hn b3 b5 b6 hR
 have hget:all[i]?=some o:=by
  have:=congrArg (λx=>x[0]?) hd;simpa using this
 rw[V3]at b3 b5
 have e:(hV F'++qR kF (hV H)).get=(hV (Zn H F')).get:=by
  funext k
  rw[V1,get_append];split
  ·rfl
  ·rename_i hk
   exact QY λh=>hk (by
    have:=(List.all_eq_true.1 b5) k h
    simpa using this)
 obtain⟨h1,h2⟩:=zPr (P:=X.P) (N:=X.N) (all:=all) (ρ:=eV E) (H:=hV H) (F:=hV F) (R:=hV Rr) (F':=hV F') i kF kR hget (A9 b2) b1 hw (vu hF) (vu hR) b3 b4 b5 (List.all_eq_true.2 λp hp=>by
  obtain⟨q,hq,rfl⟩:=List.mem_map.1 hp;have:=(List.all_eq_true.1 b6) q hq;simp only[oM]
  exact this) hl hn (fp:=fp) f1 (f2.trans (V3 F')) f3 (by rw[e];exact f4)
 have hn2:=Qa hn F';rw[e,<- zgk]at h2;exact⟨hn2,h2⟩
def zMi{i:Nat}{o:Oper}{rest:List Oper}{E:AE S.T}{H:AH S.T}(hd:all.drop i=o::rest)(hw:xu all (eV E) o=some false)(hb:(zL1 X.N o&&Q0 o.op)=true):j7 X.P X.N all (.m i [] []) (eV E).get (hV H).get (eV (zzf o (.raw .no) E)).get (hV H).get:=by
 simp only[bn]at hb
 have hget:all[i]?=some o:=by
  have:=congrArg (λx=>x[0]?) hd;simpa using this
 refine⟨o,.no,hget,A9 hb.2,λd hd'=>?_,?_,.inl ⟨hw,rfl,rfl,rfl,rfl⟩⟩
 ·have hb1:=hb.1
  unfold zL1 at hb1;rw[hd']at hb1;exact lb hb1
 ·rw[zgk,show(A.raw (T:=S.T) .no).v=.no by simp only[A.v]]
  exact zif _ _ _
def ext_get{d:Nat}{v:V}{ρ:Env}(hg:ρ.get d=v):Env.get ((d,v)::ρ)=ρ.get:=by
 funext t
 simp only[Env.get]
 cases ht:Nat.beq t d with
 |true =>
  have:=eb ht;subst this;exact hg.symm
 |false=>rfl
def zat{α:Type}(a b:List α):(a++b).take ((a++b).length-b.length)=a:=by
 rw[la,Nat.add_sub_cancel,List.take_left'];rfl
def zub(hS:S.OK)(hT:CtT.OK X.P X.T){ip:Nat}:∀(l:List Oper)(i:Nat)(E:AE S.T)(H:AH S.T)(done:List FP),all.drop i=l->(keys (hV H)).Nodup->zmq (gkV S X.gk) (hV H).get->(rgR X all ip k i l E H done).Is r ->
  ∃fps E' H',wB (gkV S X.gk) X.P X.N all fps.reverse (eV E).get (hV H).get (eV E').get (hV H').get/\(k E' H' (fps++done)).Is r
 |[],i,E,H,done,_,hn,hG,h=>⟨[],E,H,.nil,h⟩
 |o::rest,i,E,H,done,hd,hn,hG,h=>by
  have hd':all.drop (i+1)=rest:=by
   rw[<- List.drop_drop,hd];rfl
  have go:∀E:AE S.T,xu all (eV E) o=some true->(opK X.N X.gk i o E H (λE' H' fp=>rgR X all ip k (i+1) rest E' H' (fp::done)) (opE X.P X.T X.cd E H (o.dst.getD 0+1000000) o.op)).Is r->∃fps E' H',wB (gkV S X.gk) X.P X.N all fps.reverse (eV E).get (hV H).get (eV E').get (hV H').get/\(k E' H' (fps++done)).Is r:=λE hw h=>by
   obtain⟨kF,kR,a,F',F,Rr,h1,h2,h3,h4,h5⟩:=zt9 (zMg hS hT) h;obtain⟨g1,g2⟩:=zCd (fp:=.m i (oP F') kR) hd hw h2 h3 h4 h5 hn rfl rfl rfl zLy;obtain⟨fps,E',H',g3,g4⟩:=zub hS hT rest (i+1) _ _ _ hd' g1 (V2 (zas h2) hG) h1;exact⟨fps++[.m i (oP F') kR],E',H',by rw[List.reverse_append];exact .cons g2 (V2 (zas h2) hG) g3,by rw[asc];exact g4⟩
  have sk:∀E:AE S.T,xu all (eV E) o=some false->(skK X.N i o E H λE' H' fp=>rgR X all ip k (i+1) rest E' H' (fp::done)).Is r->∃fps E' H',wB (gkV S X.gk) X.P X.N all fps.reverse (eV E).get (hV H).get (eV E').get (hV H').get/\(k E' H' (fps++done)).Is r:=λE hw h=>by
   unfold skK at h
   cases hb:zL1 X.N o&&Q0 o.op with
   |false=>rw[hb]at h;exact(Is.fail h).elim
   |true =>
    rw[hb]at h;obtain⟨fps,E',H',g3,g4⟩:=zub hS hT rest (i+1) _ _ _ hd' hn hG h;exact⟨fps++[.m i [] []],E',H',by rw[List.reverse_append];exact .cons (zMi hd hw hb) hG g3,by rw[asc];exact g4⟩
  simp only[rgR]at h
  cases hanc:zii (jB all []) i ip with
  |true=>rw[hanc,ctQ]at h;exact zub hS hT rest (i+1) _ _ _ hd' hn hG h
  |false =>
   rw[hanc,cf]at h;split at h
   ·exact(Is.fail h).elim
   ·rename_i hw;exact go E (zm9 hw) h
   ·rename_i hw;exact sk E (zgl hw) h
   ·rename_i d t want hw
    obtain⟨h1,h2⟩:=zna hw;obtain⟨h3,h4⟩:=Is.cnd h
    have key:∀b,(eV E).get d=.bool b->Env.get (eV (((d,.raw (.bool b))::E):AE S.T))=(eV E).get:=λb hb=>ext_get hb
    cases t with
    |true =>
     have h3:=h3 rfl;have h2:=h2 true;rw[<- key true h1]
     cases want with
     |true=>exact go ((d,.raw (.bool true))::E) h2 h3
     |false=>exact sk ((d,.raw (.bool true))::E) h2 h3
    |false =>
     have h4:=h4 rfl;have h2:=h2 false;rw[<- key false h1]
     cases want with
     |true=>exact sk ((d,.raw (.bool false))::E) h2 h4
     |false=>exact go ((d,.raw (.bool false))::E) h2 h4
def zQg(hS:S.OK)(hT:CtT.OK X.P X.T)(hTP:X.POK){inj:Option (HL S.T X.rT.vs->R)}{l:List Oper}{E:AE S.T}{H:AH S.T}{K:Env->Heap->Prop}(hG0:zmq (gkV S X.gk) (hV H).get)(h:(rg X l true (pkD X l inj) (λE H done=>bif jw l (jB l []) done.reverse then k E H done else .fail) 0 l E H []).Is r)(hQ:∀E H done,(k E H done).Is r->K (eV E) (hV H)):
  zb3 X.P X.N l [] l (eV E) (hV H) K∨∃q j,X.pm=true/\inj=some j/\j q=r/\zHz (gkV S X.gk) X.P X.N l (eV E) (hV H) (pvT X.pt X.rT.vs q):=by
 by_cases hn0:(keys (hV H)).Nodup
 rotate_left
 ·exact .inl ⟨[],eV E,hV H,λh=>absurd h hn0⟩
 generalize hPP:(∃q j,X.pm=true/\inj=some j/\j q=r/\zHz (gkV S X.gk) X.P X.N l (eV E) (hV H) (pvT X.pt X.rT.vs q))=PP;refine zIm (X:=X) (all:=l) hS hT (λ_ l' ρ H' done=>((keys H').Nodup/\zmq (gkV S X.gk) H'.get/\wB (gkV S X.gk) X.P X.N l done.reverse (eV E).get (hV H).get ρ.get H'.get)->(zb3 X.P X.N l done l' ρ H' K∨PP)) (λi E H done h _=>?_) ?_ ?_ ?_ ?_ l 0 E H [] rfl h ⟨hn0,hG0,.nil⟩
 ·cases hb:jw l (jB l []) done.reverse with
  |false=>rw[hb]at h;exact(Is.fail h).elim
  |true=>rw[hb]at h;exact .inl (d_nil hb (hQ E H done h))
 ·intro i o rest E1 H1 kF kR a F' F Rr done hd hw hb hF hR hl fp f1 f2 f3 f4 hW hpre
  have hb':=hb;simp only[Q5,bn]at hb';obtain⟨b1,b2,b3,b4,b5,b6,b7,b8⟩:=hb';have hlen:=congrArg List.length hd;simp only[List.length_drop,lc]at hlen
  have hget:l[i]?=some o:=by
   have:=congrArg (λx=>x[0]?) hd;simpa using this
  rcases hW (by
   obtain⟨hn,hG,hch⟩:=hpre;obtain⟨g1,g2⟩:=zCd hd hw hb hF hR hl hn f1 f2 f3 f4;have hG1:=V2 (zas hb) hG
   exact⟨g1,hG1,by rw[List.reverse_cons];exact hch.app (.cons g2 hG1 .nil)⟩)with hW|hW
  ·left
   exact zL0 (fp:=fp) ab ab (λhn=>zCd hd hw hb hF hR hl hn f1 f2 f3 f4) hW
  ·exact .inr hW
 ·intro i o rest E1 H1 done hd hw hb hW hpre
  have hlen:=congrArg List.length hd;simp only[List.length_drop,lc]at hlen
  have hget:l[i]?=some o:=by
   have:=congrArg (λx=>x[0]?) hd;simpa using this
  rcases hW (by
   obtain⟨hn,hG,hch⟩:=hpre
   exact⟨hn,hG,by rw[List.reverse_cons];exact hch.app (.cons (zMi hd hw hb) hG .nil)⟩)with hW|hW
  ·left
   simp only[bn]at hb;have:=hW;rw[zgk,show(A.raw (T:=S.T) .no).v=.no by simp only[A.v]]at this;exact zUt i ab (Nat.ble_eq_true_of_le ab) hget (A9 hb.2) hb.1 hw this
  ·exact .inr hW
 ·intro i l' d v E1 H1 done hg hW hpre
  rcases hW (by rw[ext_get hg];exact hpre)with hW|hW
  ·exact .inl (d_ext (ext_get hg) hW)
  ·exact .inr hW
 ·intro i o rest E1 H1 done p hd hw h
  unfold pkD at h
  cases hm:X.pm with
  |false=>rw[hm]at h;exact .inl h
  |true =>
   rw[hm,ctQ]at h;split at h
   ·exact .inl h
   ·exact(Is.fail h).elim
   ·rename_i t ht
    obtain⟨h1,h2⟩:=Ha h
    rcases Is.orr h2 with⟨q,hq,h3⟩|⟨_,h3⟩
    ·right
     intro hpre;right
     cases hb:ptB t H1 with
     |false=>rw[hb]at h3;exact(Is.fail h3).elim
     |true =>
      rw[hb,ctQ]at h3;obtain⟨b1,F,Rr,hF,hR⟩:=zMh hb
      have hget:l[i]?=some o:=by
       have:=congrArg (λx=>x[0]?) hd;simpa using this
      have hd':l.drop (i+1)=rest:=by
       rw[<- List.drop_drop,hd];rfl
      have hloc:zHu X.P o (eV E1) (hV F++hV Rr) (pvT X.pt X.rT.vs q):=by
       obtain⟨dst,op,ty,pos,aft,gd⟩:=o;exact zm6 hS (hTP hm) ht hq h1 F Rr hF hR
      have hpan:(keys (hV H1)).Nodup->Q1 X.P l (.m i t.kF t.kR) (eV E1).get (hV H1).get (pvT X.pt X.rT.vs q):=λhn=>by
       obtain⟨f1,f2⟩:=xk (vu hF);obtain⟨r1,r2⟩:=xk (vu hR);refine⟨o,hV F,hV Rr,hget,hw,zBn.congr (g:=evV (eV E1)) hloc λx _=>zb2 (eV E1) x,?_,f1,r1,λp hp=>?_⟩
       ·rw[zH,f1,r1];exact yA b1
       ·rcases List.mem_append.1 hp with hp|hp
        ·exact get_of_mem hn (f2 p hp)
        ·exact get_of_mem hn (r2 p hp)
      subst hPP
      ·obtain⟨hn,hG,hch⟩:=hpre
       obtain⟨fps,E',H',g1,g2⟩:=zub hS hT rest (i+1) E1 H1 done hd' hn hG h3
       cases hc:ztz l (.m i t.kF t.kR) (fps++done).reverse&&((fps++done).take ((fps++done).length-done.length)).all (λx=>JY l x (.m i t.kF t.kR))with
       |false=>rw[hc]at g2;exact(Is.fail g2).elim
       |true =>
        rw[hc,ctQ]at g2;obtain⟨j,j1,j2⟩:=zre g2;simp only[bn]at hc;have hind:=hc.2;rw[zat]at hind;refine⟨q,j,hm,j1,j2,zH0 (fps:=(fps++done).reverse) (p:=.m i t.kF t.kR) (e2:=(eV E').get) (η2:=(hV H').get) (λ_=>⟨?_,hG0,?_⟩) hc.1⟩
        ·rw[List.reverse_append]
         exact hch.app g1
        ·refine wB.fwd g1 (hpan hn) λx hx=>?_
         exact(List.all_eq_true.1 hind) x (List.mem_reverse.1 hx)
    ·exact .inl h3
end
end
section
variable{S:Tab}
inductive HT(S:Tab)(co:List TC):Type 1 where
 |n
 |s (a b:HT S co)
 |j (T:Tm) (ret:Bool) (a:HT S co)
 |l (T:Tm) (so:List (Nat×Tp)) (ho:List (Nat×TO)) (vo:List TC) (id:Nat) (fn:HL S.T T.cs->Nat->HL S.T T.vs->Option (HL S.T vo)) (a:HT S co)
 |lr (T:Tm) (so:List (Nat×Tp)) (ho:List (Nat×TO)) (vo:List TC) (id:Nat) (fn:HL S.T T.cs->Nat->HL S.T T.vs->Option (HL S.T co⊕HL S.T vo)) (a:HT S co)
 |lr2 (s1:List (Nat×Tp)) (h1:List (Nat×TO)) (v1:List TC) (s2:List (Nat×Tp)) (h2:List (Nat×TO)) (v2:List TC) (so:List (Nat×Tp)) (ho:List (Nat×TO)) (vo:List TC) (id:Nat) (fn:Nat->HL S.T v1⊕HL S.T v2->Option (HL S.T co⊕HL S.T vo)) (a1 a2:HT S co)
def HT.a{co:List TC}:HT S co->HT S co
 |.s a _=>a
 |_=>.n
def HT.b{co:List TC}:HT S co->HT S co
 |.s _ b=>b
 |_=>.n
def zZ0{R:Type}(X:Cx S)(inj:Option (HL S.T X.rT.vs->R))(E:AE S.T)(H:AH S.T):Pg R:=match inj with
 |none=>.fail
 |some i=>bif X.pm then .fail else zje X.rT X.K0 E H X.x λv=>.ret (some (i v))
abbrev EvT(X:Cx S):=HT S X.rT.vs->(R:Type)->Option (HL S.T X.rT.vs->R)->(AE S.T->AH S.T->Pg R)->(Nat->AE S.T->AH S.T->Pg R)->AE S.T->AH S.T->Pg R
def zQh{α R:Type}(inj:Option (α->R))(q:α):Option R:=match inj with
 |some i=>some (i q)
 |none=>none
def wrap(X:Cx S)(h:HT S X.rT.vs)(f:EvT X)(R:Type)(inj:Option (HL S.T X.rT.vs->R))(kn:AE S.T->AH S.T->Pg R)(kx:Nat->AE S.T->AH S.T->Pg R)(E:AE S.T)(H:AH S.T):Pg R:=match h with
 |.j T ret h'=>match zP8 T [] [] E H with
  |none=>.fail
  |some xc=>bif ret then
    .jr (f h' (HL S.T X.rT.vs⊕HL S.T T.vs) (some .inl) (λE' H'=>zje T X.K0 E' H' xc λv=>.ret (some (.inr v))) (λ_ _ _=>.fail) E H) (zQh inj) (λv=>kn (T.stE xc v) (T.stH xc v))
   else .jn (f h' (HL S.T T.vs) none (λE' H'=>zje T X.K0 E' H' xc λv=>.ret (some v)) (λ_ _ _=>.fail) E H) λv=>kn (T.stE xc v) (T.stH xc v)
 |h=>f h R inj kn kx E H
def zQi{R:Type}(X:Cx S)(f:EvT X)(T:Tm)(To:Tm)(hT:T.cs=To.cs)(id:Nat)(fn:HL S.T T.cs->Nat->HL S.T T.vs->Option (HL S.T To.vs))(h:HT S X.rT.vs)(kx:Nat->AE S.T->AH S.T->Pg R)(E:AE S.T)(H:AH S.T):Pg R:=match zP8 T To.sl To.hp E H with
 |none=>.fail
 |some xc=>zje T X.K0 E H xc λv0 =>
  .eqn (λq:HL S.T T.vs=>fn xc 0 q) (λ_=>none)
   (.lp (R0:=HL S.T To.vs) (X:=Nat×HL S.T T.vs)
    (λq=>f h (HL S.T To.vs) none (λE' H'=>zje T X.K0 E' H' xc λv=>.ret (fn xc q.1 v))
     (λi E' H'=>bif Nat.beq i id then zje To X.K0 E' H' (hT▸xc) λv=>.ret (some v)else .fail) (T.stE xc q.2) (T.stH xc q.2))
    (λq=>fn xc (q.1+1) q.2)
    (.bnd (fn xc X.kk v0) λv=>kx id (To.stE (hT▸xc) v) (To.stH (hT▸xc) v)))
def zQj{R:Type}(X:Cx S)(f:EvT X)(T:Tm)(To:Tm)(hT:T.cs=To.cs)(id:Nat)(fn:HL S.T T.cs->Nat->HL S.T T.vs->Option (HL S.T X.rT.vs⊕HL S.T To.vs))(h:HT S X.rT.vs)(inj:Option (HL S.T X.rT.vs->R))(kx:Nat->AE S.T->AH S.T->Pg R)(E:AE S.T)(H:AH S.T):Pg R:=match zP8 T To.sl To.hp E H with
 |none=>.fail
 |some xc=>zje T X.K0 E H xc λv0 =>
  .eqn (λq:HL S.T T.vs=>fn xc 0 q) (λ_=>none)
   (.lp (R0:=HL S.T X.rT.vs⊕HL S.T To.vs) (X:=Nat×HL S.T T.vs)
    (λq=>f h (HL S.T X.rT.vs⊕HL S.T To.vs) (some .inl) (λE' H'=>zje T X.K0 E' H' xc λv=>.ret (fn xc q.1 v))
     (λi E' H'=>bif Nat.beq i id then zje To X.K0 E' H' (hT▸xc) λv=>.ret (some (.inr v))else .fail) (T.stE xc q.2) (T.stH xc q.2))
    (λq=>fn xc (q.1+1) q.2)
    (.jr (.ret (fn xc X.kk v0)) (zQh inj) λv=>kx id (To.stE (hT▸xc) v) (To.stH (hT▸xc) v)))
def zIn{R:Type}(X:Cx S)(f:EvT X)(s1:List (Nat×Tp))(h1:List (Nat×TO))(v1:List TC)(s2:List (Nat×Tp))(h2:List (Nat×TO))(v2:List TC)(so:List (Nat×Tp))(ho:List (Nat×TO))(vo:List TC)(id:Nat)(fn:Nat->HL S.T v1⊕HL S.T v2->Option (HL S.T X.rT.vs⊕HL S.T vo))(a1 a2:HT S X.rT.vs)(inj:Option (HL S.T X.rT.vs->R))(kx:Nat->AE S.T->AH S.T->Pg R)(q0:HL S.T v1⊕HL S.T v2):Pg R :=
  .eqn (λq:HL S.T v1⊕HL S.T v2=>fn 0 q) (λ_=>none)
   (.lp (R0:=HL S.T X.rT.vs⊕HL S.T vo) (X:=Nat×HL S.T v1)
    (λq=>f a1 (HL S.T X.rT.vs⊕HL S.T vo) (some .inl) (λE' H'=>zB8 ⟨s1,h1,[],v1⟩ ⟨s2,h2,[],v2⟩ X.K0 E' H' () () (λv=>.ret (fn q.1 (.inl v))) (λv=>.ret (fn q.1 (.inr v))))
     (λi E' H'=>bif Nat.beq i id then zje ⟨so,ho,[],vo⟩ X.K0 E' H' () λv=>.ret (some (.inr v))else .fail) (Tm.stE ⟨s1,h1,[],v1⟩ () q.2) (Tm.stH ⟨s1,h1,[],v1⟩ () q.2))
    (λq=>fn (q.1+1) (.inl q.2))
   (.lp (R0:=HL S.T X.rT.vs⊕HL S.T vo) (X:=Nat×HL S.T v2)
    (λq=>f a2 (HL S.T X.rT.vs⊕HL S.T vo) (some .inl) (λE' H'=>zB8 ⟨s1,h1,[],v1⟩ ⟨s2,h2,[],v2⟩ X.K0 E' H' () () (λv=>.ret (fn q.1 (.inl v))) (λv=>.ret (fn q.1 (.inr v))))
     (λi E' H'=>bif Nat.beq i id then zje ⟨so,ho,[],vo⟩ X.K0 E' H' () λv=>.ret (some (.inr v))else .fail) (Tm.stE ⟨s2,h2,[],v2⟩ () q.2) (Tm.stH ⟨s2,h2,[],v2⟩ () q.2))
    (λq=>fn (q.1+1) (.inr q.2))
    (.jr (.ret (fn X.kk q0)) (zQh inj) λv=>kx id (Tm.stE ⟨so,ho,[],vo⟩ () v) (Tm.stH ⟨so,ho,[],vo⟩ () v))))
def zQk{R:Type}(X:Cx S)(inj:Option (HL S.T X.rT.vs->R))(l:List Oper)(draw:Bool)(kn:AE S.T->AH S.T->Pg R)(E:AE S.T)(H:AH S.T):Pg R:=bif zIh X.gk H then bif draw then
  bif VO l then rg X l true (pkD X l inj) (λE H done=>bif jw l (jB l []) done.reverse then kn E H else .fail) 0 l E H []else .fail
 else rg X l false (pkT X inj) (λE H _=>kn E H) 0 l E H []else .fail
def regP{R:Type}(X:Cx S)(inj:Option (HL S.T X.rT.vs->R))(l:List Oper)(draw:Bool)(kn:AE S.T->AH S.T->Pg R)(E:AE S.T)(H:AH S.T):Pg R:=zQk X inj l draw (λE H=>match zjd X.nb H with
 |(H',q)=>zIe (kn E H') q) E H
def ev(X:Cx S):Code->EvT X
 |.skip,_,_,_,kn,_,E,H=>kn E H
 |.exit id,_,_,_,_,kx,E,H=>kx id E H
 |.ret,_,_,inj,_,_,E,H=>zZ0 X inj E H
 |.seq a b,h,R,inj,kn,kx,E,H=>wrap X h.a (ev X a) R inj (λE H=>wrap X h.b (ev X b) R inj kn kx E H) kx E H
 |.cond c a b,h,R,inj,kn,kx,E,H=>match evA E c with
  |.dat .b t=>.cnd t (wrap X h.a (ev X a) R inj kn kx E H) (wrap X h.b (ev X b) R inj kn kx E H)
  |.raw (.bool true)=>wrap X h.a (ev X a) R inj kn kx E H
  |.raw (.bool false)=>wrap X h.b (ev X b) R inj kn kx E H
  |_=>.fail
 |.block id a,h,R,inj,kn,kx,E,H=>wrap X h.a (ev X a) R inj kn (λi E H=>bif Nat.beq i id then kn E H else kx i E H) E H
 |.region _ ops draw,_,_,inj,kn,_,E,H=>regP X inj ops.toList draw kn E H
 |.loop a,h,_,inj,_,kx,E,H=>match h with
  |.l T so ho vo id fn hb=>zQi X (λh'=>wrap X h' (ev X a)) T ⟨so,ho,T.cs,vo⟩ rfl id fn hb kx E H
  |.lr T so ho vo id fn hb=>zQj X (λh'=>wrap X h' (ev X a)) T ⟨so,ho,T.cs,vo⟩ rfl id fn hb inj kx E H
  |.lr2 s1 h1 v1 s2 h2 v2 so ho vo id fn a1 a2=>zB8 ⟨s1,h1,[],v1⟩ ⟨s2,h2,[],v2⟩ X.K0 E H () () (λv=>zIn X (λh'=>wrap X h' (ev X a)) s1 h1 v1 s2 h2 v2 so ho vo id fn a1 a2 inj kx (.inl v)) (λv=>zIn X (λh'=>wrap X h' (ev X a)) s1 h1 v1 s2 h2 v2 so ho vo id fn a1 a2 inj kx (.inr v))
  |_=>.fail
 |.scope a,h,R,inj,kn,kx,E,H=>wrap X h.a (ev X a) R inj kn kx E H
 |.label _,_,_,_,kn,_,E,H=>kn E H
 |_,_,_,_,_,_,_,_=>.fail
def zQl(K0:List Nat)(Q:we):we:=λe ρ H ds=>∃ρ1 H1,Cut K0 ρ H ρ1 H1/\Q e ρ1 H1 ds
def Zo{K0:List Nat}{c:Ctx K0}{P:Program}{r:Option Nat}{N:Nat}{x:Code}{Q:we}{ρ:Env}{H:Heap}{ds:List Deferred}(h:WpV c P r N x (zQl K0 Q) ρ H ds):WpV c P r N x Q ρ H ds :=
 λρr w ds1 SA hM=>zlw (h ρr w ds1 SA hM) λe ρr' ds' w' ⟨ρ',H',S',hM',ρ1,H1,hc,hQ⟩=>⟨ρ1,H1,hc c _ _ S',hM',hQ⟩
variable(X:Cx S)(c:Ctx X.K0)
def Fin(q:HL S.T X.rT.vs)(Q:we):Prop:=(X.pm=false->Q .ret (eV (X.rT.stE X.x q)) (hV (X.rT.stH X.x q)) [])/\(X.pm=true->∀H',KG (gkV S X.gk) H'->Q (.panic [zxj (pvT X.pt X.rT.vs q)]) [] H' [])
def Snd(f:EvT X)(code:Code):Prop:=∀(h:HT S X.rT.vs)(R:Type)(inj:Option (HL S.T X.rT.vs->R))(kn:AE S.T->AH S.T->Pg R)(kx:Nat->AE S.T->AH S.T->Pg R)(E:AE S.T)(H:AH S.T)(r:R)(Q:we),
 (f h R inj kn kx E H).Is r->(∀E' H',(kn E' H').Is r->Q .normal (eV E') (hV H') [])->(∀i E' H',(kx i E' H').Is r->Q (.exit i) (eV E') (hV H') []) ->
 (∀q i,inj=some i->i q=r->Fin X q Q)->WpV c X.P none X.N code Q (eV E) (hV H) []
variable{X c}
def Fin.cut{K0:List Nat}{q:HL S.T X.rT.vs}{Q:we}(h:Fin X q Q):Fin X q (zQl K0 Q):=⟨λe=>⟨_,_,Cut.refl,h.1 e⟩,λe H' hk=>⟨_,_,Cut.refl,h.2 e H' hk⟩⟩
def zcl{α R:Type}{inj:Option (α->R)}{q:α}{r:R}(h:zQh inj q=some r):∃i,inj=some i/\i q=r:=by
 unfold zQh at h;split at h
 ·cases h;exact⟨_,rfl,rfl⟩
 ·cases h
def wQ(hS:S.OK){f:EvT X}{code:Code}(hf:Snd X c f code):Snd X c (λh=>wrap X h f) code:=by
 intro h R inj kn kx E H r Q hI hn hx hr;simp only[wrap]at hI;split at hI
 ·rename_i T ret h'
  split at hI
  ·exact(Is.fail hI).elim
  ·rename_i xc _
   cases ret with
   |true =>
    rw[ctQ]at hI;refine Zo ?_
    rcases Is.jr hI with⟨q,h1,h2⟩|⟨s,h1,h2⟩
    ·refine hf _ _ _ _ _ _ _ _ (zQl X.K0 Q) h1 (λE' H' g=>?_) (λ_ _ _ g=>(Is.fail g).elim) (λq' i e1 e2=>?_)
     ·obtain⟨v,g1,g2⟩:=kD g
      have:=Is.ret g2;cases this
     ·cases e1
      cases e2;obtain⟨i,e3,e4⟩:=zcl h2;exact(hr _ i e3 e4).cut
    ·refine hf _ _ _ _ _ _ _ _ (zQl X.K0 Q) h1 (λE' H' g=>?_) (λ_ _ _ g=>(Is.fail g).elim) (λq' i e1 e2=>?_)
     ·obtain⟨v,g1,g2⟩:=kD g
      have:=Is.ret g2;cases this;exact⟨_,_,wo hS g1,hn _ _ h2⟩
     ·cases e1
      cases e2
   |false =>
    rw[cf]at hI;refine Zo ?_;obtain⟨s,h1,h2⟩:=Is.jn hI;refine hf _ _ _ _ _ _ _ _ (zQl X.K0 Q) h1 (λE' H' g=>?_) (λ_ _ _ g=>(Is.fail g).elim) (λq' i e1 e2=>?_)
    ·obtain⟨v,g1,g2⟩:=kD g
     have:=Is.ret g2;cases this;exact⟨_,_,wo hS g1,hn _ _ h2⟩
    ·cases e1
 ·exact hf _ _ _ _ _ _ _ _ Q hI hn hx hr
def zIo(hS:S.OK){R:Type}{r:R}{f:EvT X}{a:Code}(hf:Snd X c f a){T To:Tm}{hTo:T.cs=To.cs}{id:Nat}{fn:HL S.T T.cs->Nat->HL S.T T.vs->Option (HL S.T To.vs)}{h:HT S X.rT.vs}{kx:Nat->AE S.T->AH S.T->Pg R}{E:AE S.T}{H:AH S.T}{Q:we}
  (hI:(zQi X f T To hTo id fn h kx E H).Is r) (hx:∀i E' H',(kx i E' H').Is r->Q (.exit i) (eV E') (hV H') []):WpV c X.P none X.N (.loop a) Q (eV E) (hV H) []:=by
 unfold zQi at hI;split at hI
 ·exact(Is.fail hI).elim
 ·rename_i xc _
  obtain⟨v0,h1,h2⟩:=kD hI;obtain⟨h3,h4⟩:=Is.eqn h2;obtain⟨h5,h6⟩:=Is.lp h4;obtain⟨z,h7,h8⟩:=Is.bnd h6;refine Zo ?_
  refine zAn (λq=>eV (T.stE xc q)) (λq=>hV (T.stH xc q)) (fn xc) (λq=>congrFun h3 q) X.kk v0 h7 (wo hS h1) λK q hq=>?_
  refine hf _ _ _ _ _ _ _ _ _ (h5 (K,q) z hq) (λE' H' g=>?_) (λi E' H' g=>?_) (λq' i e1 e2=>?_)
  ·obtain⟨v,g1,g2⟩:=kD g
   exact zal v (Is.ret g2) (wo hS g1)
  ·cases hb:Nat.beq i id with
   |false=>rw[hb]at g;exact(Is.fail g).elim
   |true =>
    rw[hb,ctQ]at g;have:=eb hb;subst this;obtain⟨v,g1,g2⟩:=kD g;have:=Is.ret g2;cases this;exact VP ⟨_,_,wo hS g1,hx _ _ _ h8⟩
  ·cases e1
def zIp(hS:S.OK){R:Type}{r:R}{f:EvT X}{a:Code}(hf:Snd X c f a){T To:Tm}{hTo:T.cs=To.cs}{id:Nat}{fn:HL S.T T.cs->Nat->HL S.T T.vs->Option (HL S.T X.rT.vs⊕HL S.T To.vs)}{h:HT S X.rT.vs}{inj:Option (HL S.T X.rT.vs->R)}{kx:Nat->AE S.T->AH S.T->Pg R}{E:AE S.T}{H:AH S.T}{Q:we}
  (hI:(zQj X f T To hTo id fn h inj kx E H).Is r) (hx:∀i E' H',(kx i E' H').Is r->Q (.exit i) (eV E') (hV H') [])
  (hr:∀q i,inj=some i->i q=r->Fin X q Q):WpV c X.P none X.N (.loop a) Q (eV E) (hV H) []:=by
 unfold zQj at hI;split at hI
 ·exact(Is.fail hI).elim
 ·rename_i xc _
  obtain⟨v0,h1,h2⟩:=kD hI;obtain⟨h3,h4⟩:=Is.eqn h2;obtain⟨h5,h6⟩:=Is.lp h4
  have hz:∃z,fn xc X.kk v0=some z/\((∃q,z=.inl q/\zQh inj q=some r)∨∃s,z=.inr s/\(kx id (To.stE (hTo▸xc) s) (To.stH (hTo▸xc) s)).Is r):=by
   rcases Is.jr h6 with⟨q,g1,g2⟩|⟨s,g1,g2⟩
   ·exact⟨_,Is.ret g1,.inl ⟨q,rfl,g2⟩⟩
   ·exact⟨_,Is.ret g1,.inr ⟨s,rfl,g2⟩⟩
  obtain⟨z,h7,h8⟩:=hz;refine Zo ?_
  refine zAn (λq=>eV (T.stE xc q)) (λq=>hV (T.stH xc q)) (fn xc) (λq=>congrFun h3 q) X.kk v0 h7 (wo hS h1) λK q hq=>?_
  refine hf _ _ _ _ _ _ _ _ _ (h5 (K,q) z hq) (λE' H' g=>?_) (λi E' H' g=>?_) (λq' i e1 e2=>?_)
  ·obtain⟨v,g1,g2⟩:=kD g
   exact zal v (Is.ret g2) (wo hS g1)
  ·cases hb:Nat.beq i id with
   |false=>rw[hb]at g;exact(Is.fail g).elim
   |true =>
    rw[hb,ctQ]at g;have:=eb hb;subst this;obtain⟨v,g1,g2⟩:=kD g;have:=Is.ret g2;cases this
    rcases h8 with⟨q,e,_⟩|⟨s,e,g3⟩
    ·cases e
    ·cases e
     exact VP ⟨_,_,wo hS g1,hx _ _ _ g3⟩
  ·cases e1
   cases e2
   rcases h8 with⟨q,e,g3⟩|⟨s,e,_⟩
   ·cases e
    obtain⟨i,e3,e4⟩:=zcl g3;have hF:=(hr _ i e3 e4).cut (K0:=X.K0);exact⟨λe=>zik (hF.1 e),λe H'=>hF.2 e H'⟩
   ·cases e
def zuc(hS:S.OK){R:Type}{r:R}{f:EvT X}{a:Code}(hf:Snd X c f a){s1:List (Nat×Tp)}{h1:List (Nat×TO)}{v1:List TC}{s2:List (Nat×Tp)}{h2:List (Nat×TO)}{v2:List TC}{so:List (Nat×Tp)}{ho:List (Nat×TO)}{vo:List TC}{id:Nat}{fn:Nat->HL S.T v1⊕HL S.T v2->Option (HL S.T X.rT.vs⊕HL S.T vo)}{a1 a2:HT S X.rT.vs}{inj:Option (HL S.T X.rT.vs->R)}{kx:Nat->AE S.T->AH S.T->Pg R}{q0:HL S.T v1⊕HL S.T v2}{E:AE S.T}{H:AH S.T}{Q:we}
  (hI:(zIn X f s1 h1 v1 s2 h2 v2 so ho vo id fn a1 a2 inj kx q0).Is r) (h0:Cut X.K0 (eV E) (hV H) (eV (match q0 with|.inl v=>Tm.stE ⟨s1,h1,[],v1⟩ () v|.inr v=>Tm.stE ⟨s2,h2,[],v2⟩ () v)) (hV (match q0 with|.inl v=>Tm.stH ⟨s1,h1,[],v1⟩ () v|.inr v=>Tm.stH ⟨s2,h2,[],v2⟩ () v)))
  (hx:∀i E' H',(kx i E' H').Is r->Q (.exit i) (eV E') (hV H') []) (hr:∀q i,inj=some i->i q=r->Fin X q Q):WpV c X.P none X.N (.loop a) Q (eV E) (hV H) []:=by
 unfold zIn at hI;obtain⟨h3,h4⟩:=Is.eqn hI;obtain⟨h5,h4⟩:=Is.lp h4;obtain⟨h5',h6⟩:=Is.lp h4
 have hz:∃z,fn X.kk q0=some z/\((∃q,z=.inl q/\zQh inj q=some r)∨∃s,z=.inr s/\(kx id (Tm.stE ⟨so,ho,[],vo⟩ () s) (Tm.stH ⟨so,ho,[],vo⟩ () s)).Is r):=by
  rcases Is.jr h6 with⟨q,g1,g2⟩|⟨s,g1,g2⟩
  ·exact⟨_,Is.ret g1,.inl ⟨q,rfl,g2⟩⟩
  ·exact⟨_,Is.ret g1,.inr ⟨s,rfl,g2⟩⟩
 obtain⟨z,h7,h8⟩:=hz;refine Zo ?_
 refine zAn (λq=>eV (match q with|.inl v=>Tm.stE ⟨s1,h1,[],v1⟩ () v|.inr v=>Tm.stE ⟨s2,h2,[],v2⟩ () v)) (λq=>hV (match q with|.inl v=>Tm.stH ⟨s1,h1,[],v1⟩ () v|.inr v=>Tm.stH ⟨s2,h2,[],v2⟩ () v)) fn (λq=>congrFun h3 q) X.kk q0 h7 h0 λK q hq=>?_
 have hend:∀E' H',(zB8 ⟨s1,h1,[],v1⟩ ⟨s2,h2,[],v2⟩ X.K0 E' H' () () (λv=>Pg.ret (fn K (.inl v))) (λv=>Pg.ret (fn K (.inr v)))).Is z->∃q':HL S.T v1⊕HL S.T v2,fn K q'=some z/\Cut X.K0 (eV E') (hV H') (eV (match q' with|.inl v=>Tm.stE ⟨s1,h1,[],v1⟩ () v|.inr v=>Tm.stE ⟨s2,h2,[],v2⟩ () v)) (hV (match q' with|.inl v=>Tm.stH ⟨s1,h1,[],v1⟩ () v|.inr v=>Tm.stH ⟨s2,h2,[],v2⟩ () v)):=λE' H' g=>by
  rcases zt7 g with⟨v,g1,g2⟩|⟨v,g1,g2⟩
  ·exact⟨.inl v,Is.ret g2,wo hS g1⟩
  ·exact⟨.inr v,Is.ret g2,wo hS g1⟩
 have hexit:∀i E' H',(bif Nat.beq i id then zje ⟨so,ho,[],vo⟩ X.K0 E' H' () (λv=>Pg.ret (some (Sum.inr v)))else Pg.fail:Pg (HL S.T X.rT.vs⊕HL S.T vo)).Is z->i=id/\∃s,z=.inr s/\Cut X.K0 (eV E') (hV H') (eV (Tm.stE ⟨so,ho,[],vo⟩ () s)) (hV (Tm.stH ⟨so,ho,[],vo⟩ () s)):=λi E' H' g=>by
  cases hb:Nat.beq i id with
  |false=>rw[hb]at g;exact(Is.fail g).elim
  |true =>
   rw[hb,ctQ]at g;obtain⟨v,g1,g2⟩:=kD g;have:=Is.ret g2;cases this;exact⟨eb hb,v,rfl,wo hS g1⟩
 have hfin:∀q' i,(some Sum.inl:Option (HL S.T X.rT.vs->HL S.T X.rT.vs⊕HL S.T vo))=some i->i q'=z->Fin X q' (zQl X.K0 Q):=λq' i e1 e2=>by
  cases e1;cases e2
  rcases h8 with⟨q,e,g3⟩|⟨s,e,_⟩
  ·cases e
   obtain⟨i,e3,e4⟩:=zcl g3;exact(hr _ i e3 e4).cut (K0:=X.K0)
  ·cases e
 cases q with
 |inl v =>
  refine hf _ _ _ _ _ _ _ _ _ (h5 (K,v) z hq) (λE' H' g=>?_) (λi E' H' g=>?_) (λq' i e1 e2=>?_)
  ·obtain⟨q',g1,g2⟩:=hend _ _ g
   exact zal q' g1 g2
  ·obtain⟨rfl,s,e,g2⟩:=hexit i _ _ g
   rcases h8 with⟨q,e',_⟩|⟨s',e',g3⟩
   ·rw[e]at e';cases e'
   ·rw[e]at e';cases e'
    exact VP ⟨_,_,g2,hx _ _ _ g3⟩
  ·have hF:=hfin q' i e1 e2
   exact⟨λe=>zik (hF.1 e),λe H'=>hF.2 e H'⟩
 |inr v =>
  refine hf _ _ _ _ _ _ _ _ _ (h5' (K,v) z hq) (λE' H' g=>?_) (λi E' H' g=>?_) (λq' i e1 e2=>?_)
  ·obtain⟨q',g1,g2⟩:=hend _ _ g
   exact zal q' g1 g2
  ·obtain⟨rfl,s,e,g2⟩:=hexit i _ _ g
   rcases h8 with⟨q,e',_⟩|⟨s',e',g3⟩
   ·rw[e]at e';cases e'
   ·rw[e]at e';cases e'
    exact VP ⟨_,_,g2,hx _ _ _ g3⟩
  ·have hF:=hfin q' i e1 e2
   exact⟨λe=>zik (hF.1 e),λe H'=>hF.2 e H'⟩
def zIq(hS:S.OK)(hT:CtT.OK X.P X.T)(hTP:X.POK)(hm:X.P.follows .mixedOrders=true){R:Type}{r:R}{inj:Option (HL S.T X.rT.vs->R)}{l:List Oper}{draw:Bool}{id:Nat}{kn:AE S.T->AH S.T->Pg R}{E:AE S.T}{H:AH S.T}{Q:we}
  (hI:(zQk X inj l draw kn E H).Is r) (hr:∀q i,inj=some i->i q=r->Fin X q Q) (hn:∀E' H',(kn E' H').Is r->Q .normal (eV E') (hV H') []):WpV c X.P none X.N (.region id l.toArray draw) Q (eV E) (hV H) []:=by
 unfold zQk at hI
 have hG0:zmq (gkV S X.gk) (hV H).get:=by
  cases hg:zIh X.gk H with
  |false=>rw[hg]at hI;exact(Is.fail hI).elim
  |true=>exact zIi hg
 have hI:(bif draw then bif VO l then rg X l true (pkD X l inj) (λE H done=>bif jw l (jB l []) done.reverse then kn E H else .fail) 0 l E H []else .fail else rg X l false (pkT X inj) (λE H _=>kn E H) 0 l E H []).Is r:=by
  cases hg:zIh X.gk H with
  |false=>rw[hg]at hI;exact(Is.fail hI).elim
  |true=>rw[hg]at hI;exact hI
 cases draw with
 |true =>
  rw[ctQ]at hI
  cases hb:VO l with
  |false=>rw[hb]at hI;exact(Is.fail hI).elim
  |true =>
   rw[hb]at hI
   rcases zQg (K:=λρ' H'=>Q .normal ρ' H' []) hS hT hTP hG0 hI λE' H' _ h=>hn E' H' h with h|⟨q,j,e1,e2,e3,h⟩
   ·exact zUs hm hb h
   ·exact zPq hm hb h ((hr q j e2 e3).2 e1)
 |false =>
  rw[cf]at hI;exact zO6 (zQf hS hT hTP hG0 hI (λE' H' _ h=>hn E' H' h) λq j e1 e2 e3=>(hr q j e2 e3).2 e1)
def zQm(hS:S.OK)(hT:CtT.OK X.P X.T)(hTP:X.POK)(hm:X.P.follows .mixedOrders=true){R:Type}{r:R}{inj:Option (HL S.T X.rT.vs->R)}{l:List Oper}{draw:Bool}{id:Nat}{kn:AE S.T->AH S.T->Pg R}{E:AE S.T}{H:AH S.T}{Q:we}
  (hI:(regP X inj l draw kn E H).Is r) (hr:∀q i,inj=some i->i q=r->Fin X q Q) (hn:∀E' H',(kn E' H').Is r->Q .normal (eV E') (hV H') []):WpV c X.P none X.N (.region id l.toArray draw) Q (eV E) (hV H) [] :=
 Zo (zIq hS hT hTP hm (Q:=zQl X.K0 Q) hI (λq i e1 e2=>(hr q i e1 e2).cut) λE' H' h=>⟨_,_,zrc hS (eV E') H' (Ha h).1,hn _ _ (Ha h).2⟩)
def oR(hS:S.OK)(hT:CtT.OK X.P X.T)(hTP:X.POK)(hm:X.P.follows .mixedOrders=true):∀code:Code,Snd X c (ev X code) code
 |.skip=>λh R inj kn kx E H r Q hI hn hx hr=>by
  simp only[ev]at hI;exact zUd (hn _ _ hI)
 |.exit id=>λh R inj kn kx E H r Q hI hn hx hr=>by
  simp only[ev]at hI;exact zUe (hx _ _ _ hI)
 |.ret=>λh R inj kn kx E H r Q hI hn hx hr=>by
  simp only[ev,zZ0]at hI;split at hI
  ·exact(Is.fail hI).elim
  ·rename_i i
   cases hpm:X.pm with
   |true=>rw[hpm]at hI;exact(Is.fail hI).elim
   |false =>
    rw[hpm,cf]at hI;obtain⟨v,g1,g2⟩:=kD hI;have:=Is.ret g2;cases this;exact v_to _ _ (wo hS g1) (v_ret ((hr v i rfl rfl).1 hpm))
 |.seq a b=>λh R inj kn kx E H r Q hI hn hx hr=>by
  simp only[ev]at hI;refine v_seq (wQ hS (oR hS hT hTP hm a) _ _ _ _ _ _ _ _ _ hI (λE' H' g=>?_) (λi E' H' g=>?_) (λq i e1 e2=>?_))
  ·exact zzy (wQ hS (oR hS hT hTP hm b) _ _ _ _ _ _ _ _ Q g hn hx hr)
  ·exact zwv (hx i E' H' g)
  ·exact⟨λe=>zzz ((hr q i e1 e2).1 e),λe H'=>(hr q i e1 e2).2 e H'⟩
 |.cond y a b=>λh R inj kn kx E H r Q hI hn hx hr=>by
  simp only[ev]at hI;split at hI
  ·rename_i t ht
   obtain⟨h1,h2⟩:=Is.cnd hI;exact zz2 t (by rw[zZ,ht];rfl) (λe=>wQ hS (oR hS hT hTP hm a) _ _ _ _ _ _ _ _ Q (h1 e) hn hx hr) (λe=>wQ hS (oR hS hT hTP hm b) _ _ _ _ _ _ _ _ Q (h2 e) hn hx hr)
  ·rename_i ht
   exact zz2 true (by rw[zZ,ht];simp only[A.v]) (λ_=>wQ hS (oR hS hT hTP hm a) _ _ _ _ _ _ _ _ Q hI hn hx hr) (λe=>by cases e)
  ·rename_i ht
   exact zz2 false (by rw[zZ,ht];simp only[A.v]) (λe=>by cases e) (λ_=>wQ hS (oR hS hT hTP hm b) _ _ _ _ _ _ _ _ Q hI hn hx hr)
  ·exact(Is.fail hI).elim
 |.block id a=>λh R inj kn kx E H r Q hI hn hx hr=>by
  simp only[ev]at hI;refine zOq (wQ hS (oR hS hT hTP hm a) _ _ _ _ _ _ _ _ _ hI (λE' H' g=>zGu (hn _ _ g)) (λi E' H' g=>?_) (λq i e1 e2=>⟨λe=>zGv ((hr q i e1 e2).1 e),λe H'=>(hr q i e1 e2).2 e H'⟩))
  cases hb:Nat.beq i id with
  |true =>
   rw[hb]at g;have:=eb hb;subst this;exact zz0 (hn _ _ g)
  |false =>
   rw[hb]at g;exact zbr hb (hx _ _ _ g)
 |.region id ops draw=>λh R inj kn kx E H r Q hI hn hx hr=>by
  simp only[ev]at hI;exact zQm (l:=ops.toList) hS hT hTP hm hI hr hn
 |.loop a=>λh R inj kn kx E H r Q hI hn hx hr=>by
  simp only[ev]at hI;split at hI
  ·exact zIo hS (wQ hS (oR hS hT hTP hm a)) hI hx
  ·exact zIp hS (wQ hS (oR hS hT hTP hm a)) hI hx hr
  ·rcases zt7 hI with⟨v,g1,g2⟩|⟨v,g1,g2⟩
   ·exact zuc hS (wQ hS (oR hS hT hTP hm a)) g2 (wo hS g1) hx hr
   ·exact zuc hS (wQ hS (oR hS hT hTP hm a)) g2 (wo hS g1) hx hr
  ·exact(Is.fail hI).elim
 |.rangeFunc ..=>λh R inj kn kx E H r Q hI hn hx hr=>by simp only[ev]at hI;exact(Is.fail hI).elim
 |.scope a=>λh R inj kn kx E H r Q hI hn hx hr=>by
  simp only[ev]at hI;refine zPb (wQ hS (oR hS hT hTP hm a) _ _ _ _ _ _ _ _ (zb9 Q) hI (λE' H' g=>zHf (hn E' H' g)) (λi E' H' g=>zAx (hx i E' H' g)) λq i e1 e2=>?_);exact⟨λe=>zHg ((hr q i e1 e2).1 e),λe H'=>(hr q i e1 e2).2 e H'⟩
 |.label _=>λh R inj kn kx E H r Q hI hn hx hr=>by
  simp only[ev]at hI;exact zPa (hn _ _ hI)
 |.goto _=>λh R inj kn kx E H r Q hI hn hx hr=>by simp only[ev]at hI;exact(Is.fail hI).elim
 |.refuse _=>λh R inj kn kx E H r Q hI hn hx hr=>by simp only[ev]at hI;exact(Is.fail hI).elim
end
def zVh:List (Nat×Nat×Nat)->Nat->Option (Nat×Nat)
 |[],_=>none
 |(t,k,off)::r,u=>bif Nat.beq u t then some (k,off)else zVh r u
def zIr:List (Nat×TO)->Nat->Option TO
 |[],_=>none
 |(k,o)::r,j=>bif Nat.beq j k then some o else zIr r j
def zud:Tp->Tp->Bool
 |.d c j,.d c' j'=>decide (c=c')&&Nat.beq j j'
 |.ptr k o,.ptr k' o'=>Nat.beq k k'&&Nat.beq o o'
 |.mp k,.mp k'=>Nat.beq k k'
 |.row s k,.row s' k'=>Nat.beq s s'&&Nat.beq k k'
 |.nilp,.nilp=>true
 |.nils,.nils=>true
 |.nilf,.nilf=>true
 |.nilm,.nilm=>true
 |.nili,.nili=>true
 |_,_=>false
def zji:List Tp->List Tp->Bool
 |[],[]=>true
 |a::r,b::r'=>zud a b&&zji r r'
 |_,_=>false
def znc{a b:Tp}(h:zud a b=true):a=b:=by
 unfold zud at h
 split at h<;>first|(cases h;done)|rfl|skip
 ·simp only[bn,decide_eq_true_eq]at h
  rw[h.1,eb h.2]
 ·simp only[bn]at h
  rw[eb h.1,eb h.2]
 ·rw[eb h]
 ·simp only[bn]at h
  rw[eb h.1,eb h.2]
def zgm:∀{a b:List Tp},zji a b=true->a=b
 |[],[],_=>rfl
 |x::r,y::r',h=>by
  simp only[zji,bn]at h;rw[znc h.1,zgm h.2]
 |[],_::_,h=>by cases h
 |_::_,[],h=>by cases h
def zVi:Tp->Bool
 |.d (.st _) _=>false
 |.d (.m _ _) _=>false
 |.d _ _=>true
 |.ptr _ _=>true
 |.mp _=>true
 |.row _ _=>true
 |.nilp=>true
 |.nils=>true
 |.nilf=>true
 |.nilm=>true
 |.nili=>true
 |_=>false
def zIs(P:Program)(ty:Nat)(cs:List Tp)(off:Nat)(o:Tp):Bool:=match oK P ty with
 |none=>false
 |some none=>match cs[off]? with
  |some t=>zud t o&&zVi o
  |none=>false
 |some (some k)=>Nat.ble (off+k) cs.length&&(match o with|.ag l=>zji ((cs.drop off).take k) l|_=>false)
def zGm(P:Program)(rc:List (Nat×Nat×Nat))(hout:List (Nat×TO)):List ResultVar->List Tp->Option (List (Nat×Tp))
 |[],[]=>some []
 |.tmp t::r,o::os=>match zGm P rc hout r os with
  |some l=>some ((t,o)::l)
  |none=>none
 |.cell t ty::r,o::os=>match zVh rc t with
  |some (k,off)=>match zIr hout k with
   |some (.box _ cs)=>bif zIs P ty cs off o then(match zGm P rc hout r os with
    |some l=>some ((t,.ptr k off)::l)
    |none=>none)else none
   |_=>none
  |none=>none
 |_,_=>none
def zIt(P:Program)(rc:List (Nat×Nat×Nat))(hout:List (Nat×TO))(l:List ResultVar)(out:Tp):Option (List (Nat×Tp)):=match l with
 |[]=>match out with
  |.tup []=>some []
  |_=>none
 |[x]=>zGm P rc hout [x] [out]
 |x::y::r=>match out with
  |.tup os=>zGm P rc hout (x::y::r) os
  |_=>none
section
variable{S:Tab}
def zVj(n:Nat)(c:Ct S)(rs:List (Nat×Tp)):Bool :=
 yu (rs.map (·.1))&&(Nat.ble c.ins.length n&&(ur [c.out] c.hout&&(yu (c.hout.map (·.1))&&(c.hin.map (·.1)).all (c.hout.map (·.1)).contains)))
def cxF(P:Program)(N:Nat)(T:CtT S)(cd:Nat->Option TC)(kk:Nat)(nb:NB)(c:Ct S)(rs:List (Nat×Tp))(x:HL S.T c.ci)(K0:List Nat):Cx S:={ P:=P,N:=N,K0:=K0,T:=T,cd:=cd,kk:=kk,nb:=nb,rT:=⟨rs,c.hout,c.ci,c.co⟩,x:=x }
def zjj(l:List (A S.T)):AE S.T:=l.zipIdx.map λp=>(p.2,p.1)
def zrf(l:List (A S.T)):eV (zjj l)=zb0 (A.vs l):=by
 simp only[zjj,zb0,eV,List.map_map,wA]
 suffices h:∀(l:List (A S.T))(j:Nat),List.map ((λp:Nat×A S.T=>(p.1,p.2.v)) ∘ λp=>(p.2,p.1)) (l.zipIdx j)=List.map (λp=>(p.2,p.1)) ((l.map A.v).zipIdx j) from h l 0
 intro l
 induction l with
 |nil=>intro j;rfl
 |cons a l ih=>intro j;simp only[List.zipIdx_cons,mk9,ih (j+1)];rfl
def evF(P:Program)(fn:Func)(code:Code)(T:CtT S)(cd:Nat->Option TC)(kk:Nat)(nb:NB)(c:Ct S)(rc:List (Nat×Nat×Nat))(h:HT S c.co)(x:HL S.T c.ci):Pg (HL S.T c.co):=match zIt P rc c.hout fn.results.toList c.out with
 |none=>.fail
 |some rs=>bif zVj fn.ntmps c rs then
   wrap (cxF P fn.ntmps T cd kk nb c rs x (c.hin.map (·.1))) h (ev (cxF P fn.ntmps T cd kk nb c rs x (c.hin.map (·.1))) code) (HL S.T c.co) (some id) (λE H=>zZ0 (cxF P fn.ntmps T cd kk nb c rs x (c.hin.map (·.1))) (some id) E H) (λ_ _ _=>.fail)
    (zjj (Tp.puts c.hin (yR c.ci x) c.ins)) (od c.hin (yR c.ci x))
  else .fail
def zjk{hp:List (Nat×TO)}{ds:List (Dy S.T)}:∀{sl:List (Nat×Tp)},(sl.map (·.1)).Nodup->∀{t:Nat}{tp:Tp},(t,tp)∈sl->(zlq (S:=S) hp sl ds).get t=tp.put hp ds
 |(d,tp')::r,hn,t,tp,h=>by
  simp only[mk9,List.nodup_cons]at hn;simp only[zlq,mk9,AE.get]
  rcases List.mem_cons.1 h with e|h2
  ·cases e;rw[Nat.beq_refl];rfl
  ·have:Nat.beq t d=false:=by
    cases hb:Nat.beq t d with
    |false=>rfl
    |true =>
     have:=eb hb;subst this;have hm:t∈r.map (·.1):=List.mem_map_of_mem (f:=(·.1)) h2;exact absurd hm hn.1
   rw[this];exact zjk hn.2 h2
def zCe{hp ho:List (Nat×TO)}{ds:List (Dy S.T)}{k:Nat}:(hV (zZu (S:=S) hp ds ho)).get k=(zIr ho k).map λo=>(o.put (S:=S) hp ds).o:=by
 induction ho with
 |nil=>rfl
 |cons p r ih =>
  obtain⟨d,o⟩:=p;simp only[zZu,hV,mk9,Heap.get,zIr]at ih ⊢
  cases Nat.beq k d with
  |true=>rfl
  |false=>exact ih
def zQn{hp:List (Nat×TO)}{ds:List (Dy S.T)}:∀{o:Tp},zVi o=true->(o.put (S:=S) hp ds).v.one=true
 |.d c j,h=>by
  cases c<;>first|(cases h;done)|(simp only[Tp.put,A.v,vE];rfl)|(simp only[Tp.put,A.v,vE];unfold anyV;split<;>rfl)
 |.ptr ..,_=>by simp only[Tp.put,A.v];rfl
 |.mp _,_=>by simp only[Tp.put,A.v];rfl
 |.row ..,_=>by simp only[Tp.put,A.v];rfl
 |.nilp,_=>by simp only[Tp.put,A.v];rfl
 |.nils,_=>by simp only[Tp.put,A.v];rfl
 |.nilf,_=>by simp only[Tp.put,A.v];rfl
 |.nilm,_=>by simp only[Tp.put,A.v];rfl
 |.nili,_=>by simp only[Tp.put,A.v];rfl
 |.no,h=>by cases h
 |.und,h=>by cases h
 |.ag _,h=>by cases h
 |.tup _,h=>by cases h
 |.fn ..,h=>by cases h
 |.ifc ..,h=>by cases h
def zIu{P:Program}{ty:Nat}{cs:List Tp}{off:Nat}{o:Tp}(h:zIs P ty cs off o=true){hp:List (Nat×TO)}{ds:List (Dy S.T)}:atV P ty (A.vs (Tp.puts (S:=S) hp ds cs)) off=some (o.put hp ds).v:=by
 unfold zIs at h;split at h
 ·cases h
 ·rename_i hs
  split at h
  ·rename_i t ht
   simp only[bn]at h;have:=znc h.1;subst this;refine Part.at (k:=none) hs ⟨?_,zQn h.2⟩;rw[wA,AG,List.map_map,List.getElem?_map,ht];rfl
  ·cases h
 ·rename_i k hs
  simp only[bn]at h;obtain⟨h1,h2⟩:=h;split at h2
  ·rename_i l
   have:=zgm h2;subst this;refine Part.at (k:=some k) hs ⟨?_,?_⟩
   ·rw[qV,AG,List.length_map];exact lb h1
   ·simp only[Tp.put,A.v,wA,AG,List.map_map,List.map_take,List.map_drop]
  ·cases h2
def zjl{P:Program}{ρ:Env}{rc:List (Nat×Nat×Nat)}{hp:List (Nat×TO)}{ds:List (Dy S.T)}:∀{l:List ResultVar}{os:List Tp}{rs:List (Nat×Tp)},zGm P rc hp l os=some rs->(∀t tp,(t,tp)∈rs->ρ.get t=(tp.put hp ds).v)->zGj P ρ (hV (od hp ds)) l=some (A.vs (Tp.puts (S:=S) hp ds os))/\os.length=l.length
 |[],[],rs,h,hg=>by simp[zGj,Tp.puts,A.vs]
 |.tmp t::r,o::os,rs,h,hg=>by
  simp only[zGm]at h;split at h
  ·rename_i l hl
   cases h
   obtain⟨h1,h2⟩:=zjl hl λt tp hm=>hg t tp (mcQ _ hm)
   simp only[zGj,zUo,hg t o al,h1,Tp.puts,A.vs,lc,h2];simp
  ·cases h
 |.cell t ty::r,o::os,rs,h,hg=>by
  simp only[zGm]at h;split at h
  ·rename_i k off hk
   split at h
   ·rename_i bt cs hb
    cases hpt:zIs P ty cs off o with
    |false=>rw[hpt]at h;cases h
    |true =>
     rw[hpt]at h;dsimp only[ctQ]at h;split at h
     ·rename_i l hl
      cases h
      obtain⟨h1,h2⟩:=zjl hl λt tp hm=>hg t tp (mcQ _ hm)
      have h3:=hg t (.ptr k off) al
      have h4:(hV (od (S:=S) hp ds)).get k=some (.box bt (A.vs (Tp.puts hp ds cs))):=by
       have:=zCe (S:=S) (hp:=hp) (ho:=hp) (ds:=ds) (k:=k);rw[hb]at this;exact this
      simp only[Tp.put,A.v]at h3;simp only[zGj,zUo,h3,h4,zIu hpt,h1,Tp.puts,A.vs,lc,h2];simp
     ·cases h
   ·cases h
  ·cases h
 |[],_::_,_,h,_=>by simp only[zGm]at h;cases h
 |.tmp _::_,[],_,h,_=>by simp only[zGm]at h;cases h
 |.cell ..::_,[],_,h,_=>by simp only[zGm]at h;cases h
def zCf{P:Program}{fn:Func}{ρ:Env}{rc:List (Nat×Nat×Nat)}{hp:List (Nat×TO)}{ds:List (Dy S.T)}{out:Tp}{rs:List (Nat×Tp)}(h:zIt P rc hp fn.results.toList out=some rs)(hg:∀t tp,(t,tp)∈rs->ρ.get t=(tp.put hp ds).v):zTp fn ρ (hV (od hp ds)) P=some (out.put (S:=S) hp ds).v:=by
 unfold zTp;generalize fn.results.toList=l at h ⊢;unfold zIt at h;split at h
 ·split at h
  ·cases h
   simp only[zGj,Tp.put,Tp.puts,A.v,A.vs]
  ·cases h
 ·rename_i x
  obtain⟨h1,h2⟩:=zjl h hg;rw[h1];simp only[Tp.puts,A.vs]
 ·split at h
  ·rename_i x y r os
   obtain⟨h1,h2⟩:=zjl h hg;rw[h1]
   match os,h2 with
   |a::b::r,_=>simp only[Tp.put,Tp.puts,A.v,A.vs]
  ·cases h
def zQo(hS:S.OK){P:Program}{f:Nat}{fn:Func}{code:Code}{T:CtT S}{cd:Nat->Option TC}{kk:Nat}{nb:NB}{c:Ct S}{rc:List (Nat×Nat×Nat)}{h:HT S c.co}(hf:P.funcs[f]?=some fn)(hb:fn.body=some code)(hm:P.follows .mixedOrders=true)(hT:CtT.OK P T)
  (hrun:∀x,(evF P fn code T cd kk nb c rc h x).run=c.fn x) (htr:∀x,(evF P fn code T cd kk nb c rc h x).tr true=(evF P fn code T cd kk nb c rc h x).tr false):c.OK P f:=by
 intro x r hr
 have hI:(evF P fn code T cd kk nb c rc h x).Is r:=⟨(hrun x).trans hr,wM _ (htr x)⟩
 unfold evF at hI;split at hI
 ·exact(Is.fail hI).elim
 ·rename_i rs hrs
  cases hc:zVj fn.ntmps c rs with
  |false=>rw[hc]at hI;exact(Is.fail hI).elim
  |true =>
   rw[hc,ctQ]at hI;simp only[zVj,bn]at hc;obtain⟨c1,c2,c3,c4,c5⟩:=hc;simp only[ur,bn]at c3
   have oP:∀ds,keys (hV (od (S:=S) c.hout ds))=c.hout.map (·.1):=λds=>vf
   have hfin:∀e:Exit,(e=.normal∨e=.ret)->zUp P fn (c.hin.map (·.1)) (c.out.put c.hout (yR c.ci x++yR c.co r)).v (hV (od c.hout (yR c.ci x++yR c.co r))) e
     (eV (zlq c.hout rs (yR c.ci x++yR c.co r))) (hV (od c.hout (yR c.ci x++yR c.co r))) []:=by
    have h1:zTp fn (eV (zlq c.hout rs (yR c.ci x++yR c.co r))) (hV (od c.hout (yR c.ci x++yR c.co r))) P=some (c.out.put c.hout (yR c.ci x++yR c.co r)).v :=
     zCf hrs λt tp hmem=>by rw[J0,zjk (yA c1) hmem]
    have h2:uB (keys (hV (od (S:=S) c.hout (yR c.ci x++yR c.co r)))) (hV (od c.hout (yR c.ci x++yR c.co r)))=some (hV (od c.hout (yR c.ci x++yR c.co r))) :=
     Ya λp hp=>get_of_mem (by rw[oP];exact yA c4) hp
    have h3:zTq (c.out.put (S:=S) c.hout (yR c.ci x++yR c.co r)).v (hV (od c.hout (yR c.ci x++yR c.co r))) (c.hin.map (·.1))=true:=by
     have hcl:=Ho (S:=S) hS (ins:=[c.out]) (hin:=c.hout) (ds:=yR c.ci x++yR c.co r) (by simp only[ur,bn];exact c3);simp only[EV.A7,bn,Tp.puts,A.vs,wG,List.append_nil]at hcl;simp only[zTq,bn,oP]at hcl ⊢;exact⟨c4,c5,hcl.1,hcl.2⟩
    rintro e (rfl|rfl)<;>exact⟨rfl,h1,h2,h3⟩
   have key:∀(K0:List Nat),K0=c.hin.map (·.1)->∀cc:Ctx K0,WpV cc P none fn.ntmps code (zUp P fn K0 (c.out.put c.hout (yR c.ci x++yR c.co r)).v (hV (od c.hout (yR c.ci x++yR c.co r)))) (zb0 (A.vs (Tp.puts c.hin (yR c.ci x) c.ins))) (hV (od c.hin (yR c.ci x))) []:=by
    intro K0 e cc;subst e;rw[<- zrf];refine Zo (wQ (X:=cxF P fn.ntmps T cd kk nb c rs x (c.hin.map (·.1))) hS (oR hS hT (λe=>by cases e) hm code) _ _ _ _ _ _ _ _ _ hI (λE' H' g=>?_) (λ_ _ _ g=>(Is.fail g).elim) (λq i e1 e2=>?_))
    ·simp only[zZ0]at g
     change (zje (cxF P fn.ntmps T cd kk nb c rs x (c.hin.map (·.1))).rT (c.hin.map (·.1)) E' H' x λv=>Pg.ret (some (id v))).Is r at g;obtain⟨v,g1,g2⟩:=kD g;have:=Is.ret g2;cases this;exact⟨_,_,wo hS g1,hfin _ (.inl rfl)⟩
    ·cases e1
     cases e2;exact⟨λ_=>⟨_,_,Cut.refl,hfin _ (.inr rfl)⟩,λe=>by cases e⟩
   exact zAc hf hb rfl (by rw[qV,AG,List.length_map];exact c2) (key _ vf)
def zMj:List (Nat×TO)->List (Nat×Nat)
 |[]=>[]
 |(k,.rw i)::r=>bif Nat.beq i 0 then zMj r else(k,i)::zMj r
 |_::r=>zMj r
def zue{k i:Nat}:∀{hin:List (Nat×TO)},(k,TO.rw i)∈hin->i≠0->(k,i)∈zMj hin
 |[],h,_=>by cases h
 |(k0,o0)::r,h,hi=>by
  rcases List.mem_cons.1 h with e|h2
  ·cases e
   have:Nat.beq i 0=false:=by
    cases hb:Nat.beq i 0 with
    |true=>exact absurd (eb hb) hi
    |false=>rfl
   simp only[zMj,this,cf];exact al
  ·have ih:=zue h2 hi
   cases o0 with
   |rw j =>
    simp only[zMj]
    cases Nat.beq j 0 with
    |true=>exact ih
    |false=>exact mcQ _ ih
   |_=>exact ih
def zVk(hS:S.OK){hin:List (Nat×TO)}{ds:List (Dy S.T)}{H':Heap}(hk:KG (gkV S (zMj hin)) H'):KG (hV (od hin ds)) H':=λp hp hgl=>by
 obtain⟨q,hq,rfl⟩:=List.mem_map.1 hp;obtain⟨⟨k,o⟩,ho,rfl⟩:=List.mem_map.1 hq
 cases o with
 |rw i =>
  by_cases hi:i=0
  ·subst hi
   have:zUw (k,S.ro 0)=true:=hgl;rw[hS.ro0]at this;cases this
  ·exact hk (k,S.ro i) (List.mem_map.2 ⟨(k,i),zue ho hi,rfl⟩) hgl
 |gn i c j =>
  have:zUw (k,S.go i c (ZR ds j c))=true:=hgl;rw[hS.ggl]at this;cases this
 |box t cs=>cases hgl
 |row e c j fz=>cases hgl
 |map kc ec j=>cases hgl
def cxP(P:Program)(N:Nat)(T:CtT S)(cd:Nat->Option TC)(kk:Nat)(nb:NB)(pt:Tp){pc:List TC}(TP:zgi S pc)(c:CtP S pc)(x:HL S.T c.ci):Cx S:={ P:=P,N:=N,K0:=c.hin.map (·.1),T:=T,cd:=cd,kk:=kk,nb:=nb,rT:=⟨[],[],c.ci,pc⟩,x:=x,pt:=pt,TP:=TP,pm:=true,gk:=zMj c.hin }
def evP(P:Program)(fn:Func)(code:Code)(T:CtT S)(cd:Nat->Option TC)(kk:Nat)(nb:NB)(pt:Tp){pc:List TC}(TP:zgi S pc)(c:CtP S pc)(h:HT S pc)(x:HL S.T c.ci):Pg (HL S.T pc):=bif Nat.ble c.ins.length fn.ntmps then
   wrap (cxP P fn.ntmps T cd kk nb pt TP c x) h (ev (cxP P fn.ntmps T cd kk nb pt TP c x) code) (HL S.T pc) (some id) (λ_ _=>.fail) (λ_ _ _=>.fail)
    (zjj (Tp.puts c.hin (yR c.ci x) c.ins)) (od c.hin (yR c.ci x))
  else .fail
def zMk(hS:S.OK){P:Program}{f:Nat}{fn:Func}{code:Code}{T:CtT S}{cd:Nat->Option TC}{kk:Nat}{nb:NB}{pt:Tp}{pc:List TC}{TP:zgi S pc}{c:CtP S pc}{h:HT S pc}(hf:P.funcs[f]?=some fn)(hb:fn.body=some code)(hm:P.follows .mixedOrders=true)(hT:CtT.OK P T)(hTP:zgi.OK P (pvT pt pc) TP)
  (hrun:∀x,(evP P fn code T cd kk nb pt TP c h x).run=c.fn x) (htr:∀x,(evP P fn code T cd kk nb pt TP c h x).tr true=(evP P fn code T cd kk nb pt TP c h x).tr false):c.OK P (pvT pt pc) f:=by
 intro x q hq
 have hI:(evP P fn code T cd kk nb pt TP c h x).Is q:=⟨(hrun x).trans hq,wM _ (htr x)⟩
 unfold evP at hI
 cases hc:Nat.ble c.ins.length fn.ntmps with
 |false=>rw[hc]at hI;exact(Is.fail hI).elim
 |true =>
  rw[hc,ctQ]at hI
  have key:∀(K0:List Nat),K0=c.hin.map (·.1)->∀cc:Ctx K0,WpV cc P none fn.ntmps code (finP (pvT pt pc q) (hV (od c.hin (yR c.ci x)))) (zb0 (A.vs (Tp.puts c.hin (yR c.ci x) c.ins))) (hV (od c.hin (yR c.ci x))) []:=by
   intro K0 e cc;subst e;rw[<- zrf];refine Zo (wQ (X:=cxP P fn.ntmps T cd kk nb pt TP c x) hS (oR (X:=cxP P fn.ntmps T cd kk nb pt TP c x) hS hT (λ_=>hTP) hm code) _ _ _ _ _ _ _ _ _ hI (λE' H' g=>(Is.fail g).elim) (λ_ _ _ g=>(Is.fail g).elim) (λq' i e1 e2=>?_));cases e1;cases e2;exact⟨λe=>(by cases e),λ_ H' hk=>⟨_,_,Cut.refl,rfl,zVk hS hk⟩⟩
  exact zBm hf hb rfl (by rw[qV,AG,List.length_map];exact hc) (key _ vf)
end
end Go.EQ
namespace Go.Proofs.YtffencjoddkghaaGreatDoor
open Go Go.RowKit Go.Eng Go.EV Go.EQ
def zQp(T:Nat)(s:ak)(mk:Nat->Option (Nat×Nat))(Z:ZM)(w:World):Prop :=
 ∃b n p v,mk 0=some (b,1)/\w.heap[b]?=some (.cells #[p,v] T (0,0))/\Lib.IsBuilderF T 5 0 b (Lib.byteCells s) w/\(∀g,v.ownBlock=some g->∃j,mk (j+1)=some (g,1))/\(∀j,n<j->mk j=none) /\
  (∀j loc,mk j=some loc->loc.2=1/\∃cur u fr,w.heap[loc.1]?=some (.cells cur u fr))/\∀a x,Z a=some x->∀j,mk j≠some (a.block,1)
def zIv{T b:Nat}{bs:List Value}{w w':World}{p v:Value}(h:Lib.IsBuilderF T 5 0 b bs w)(hb:w.heap[b]?=some (.cells #[p,v] T (0,0)))(h1:w'.heap[b]?=w.heap[b]?)(h2:∀g,v.ownBlock=some g->w'.heap[g]?=w.heap[g]?):Lib.IsBuilderF T 5 0 b bs w':=by
 have key:∀q,Lib.BuilderAtF T 5 0 b q bs w->Lib.BuilderAtF T 5 0 b q bs w':=λq ⟨hB,v',hbk,hown,hne⟩=>by
  rw[hb]at hbk;cases hbk;refine⟨hB,v,h1.trans hb,⟨hown.1,?_⟩,hne⟩
  rcases hown.2 with h|⟨g,cap,cur,fz,e1,e2,e3,r⟩
  ·exact .inl h
  ·exact .inr ⟨g,cap,cur,fz,e1,e2,(h2 g (by rw[e1];rfl)).trans e3,r⟩
 exact h.elim (λh=>.inl (key _ h)) λh=>.inr (key _ h)
def sbG(T:Nat)(s:ak):zZp where
 holds:=zQp T s
 blks mk b:=∃j,mk j=some (b,1)
 some_ mk b h:=by obtain⟨j,h⟩:=h;exact⟨j,1,h,ae⟩
 own mk Z w b h hb:=by
  obtain⟨b0,n,p,v,h1,h2,h3,h4,h5,h6,h7⟩:=h;obtain⟨j,hj⟩:=hb;obtain⟨_,cur,u,fr,e⟩:=h6 j _ hj;exact⟨_,e,rfl⟩
 keep mk Z Z' w w' h hZ hw:=by
  obtain⟨b0,n,p,v,h1,h2,h3,h4,h5,h6,h7⟩:=h;refine⟨b0,n,p,v,h1,(hw b0 ⟨0,h1⟩).1.trans h2,zIv h3 h2 (hw b0 ⟨0,h1⟩).1 λg hg=>?_,h4,h5,λj loc e=>?_,λa x ha j e=>?_⟩
  ·obtain⟨j,hj⟩:=h4 g hg
   exact(hw g ⟨_,hj⟩).1
  ·obtain⟨e1,cur,u,fr,e2⟩:=h6 j loc e
   have:loc=(loc.1,1):=by rw[<- e1]
   exact⟨e1,cur,u,fr,(hw loc.1 ⟨j,by rw[e,<- this]⟩).1.trans e2⟩
  ·exact h7 a x ((hw a.block ⟨j,e⟩).2 a x ha rfl) j e
def sb(T:Nat)(s:ak):EV.Obj:=.gen (sbG T s)
def zCg{T:Nat}{s:ak}{k:Nat}{m:M}{Z:ZM}{w:World}(hs:wH m Z [(k,sb T s)] w):∃b,m k 0=some (b,1)/\Lib.IsBuilderF T 5 0 b (Lib.byteCells s) w:=by
 obtain⟨b,n,p,v,h1,h2,h3,_⟩:=hs.holds _ (msQ.2 rfl);exact⟨b,h1,h3⟩
def zcm{T:Nat}{s s':ak}{k b:Nat}{m:M}{Z:ZM}{w w':World}(hs:wH m Z [(k,sb T s)] w)(hb:m k 0=some (b,1))(h:Lib.IsBuilderF T 5 0 b (Lib.byteCells s') w')(ht:H0 b w w'):
  ∃m',Step m Z [(k,sb T s)] w m' Z [(k,sb T s')] w':=by
 obtain⟨b0,n,p0,v0,h1,h2,h3,h4,h5,h6,h7⟩:=hs.holds _ (msQ.2 rfl);rw[h1]at hb;cases hb;obtain⟨p,v,T2,p',v',t1,t2,t3,t4,t5,t6,t7,t8,t9⟩:=ht;rw[t1]at h2;cases h2
 have hlt:∀{a x},Z a=some x->a.block<w.heap.size:=λha=>vD hs.frozen ha
 have old:∀k',k'<w.heap.size->(∀j,m k j≠some (k',1))->w'.heap[k']?=w.heap[k']?:=λk' hk hn=>t7 k' hk (λe=>hn 0 (e▸h1)) λe=>by
  obtain⟨j,hj⟩:=h4 k' e;exact hn _ hj
 let m':M:=λk' L=>if k'=k/\L=n+1 then v'.ownBlock.map λg=>(g,1)else m k' L
 have hm':∀L,L≠n+1->m' k L=m k L:=λL hL=>by simp[m',hL]
 have hmn:m' k (n+1)=v'.ownBlock.map λg=>(g,1):=by simp[m']
 have hmo:∀k',k'≠k->m' k'=m k':=λk' hk=>by funext L;simp[m',hk]
 have hn1:m k (n+1)=none:=h5 _ (Nat.lt_succ_self n)
 have h0n:(0:Nat)≠n+1:=ab
 have hown:∀g,v'.ownBlock=some g->∃cur u fr,w'.heap[g]?=some (.cells cur u fr):=λg hg=>by
  have:∀q,Lib.BuilderAtF T 5 0 b q (Lib.byteCells s') w'->∃cur u fr,w'.heap[g]?=some (.cells cur u fr):=λq ⟨_,v2,e1,e2,_⟩=>by
   rw[t2]at e1;cases e1
   rcases e2.2 with⟨rfl,_⟩|⟨g2,cap,cur,fz,rfl,_,e3,_⟩
   ·cases hg
   ·simp only[Value.ownBlock,Option.some.injEq]at hg
    subst hg;exact⟨_,_,_,e3⟩
  exact h.elim (this _) (this _)
 have hcells:∀j loc,m' k j=some loc->loc.2=1/\∃cur u fr,w'.heap[loc.1]?=some (.cells cur u fr):=λj loc e=>by
  by_cases hj:j=n+1
  ·subst hj
   rw[hmn]at e;obtain⟨g,hg,rfl⟩:=Option.map_eq_some_iff.1 e;exact⟨rfl,hown g hg⟩
  ·rw[hm' j hj]at e
   obtain⟨e1,cur,u,fr,e2⟩:=h6 j loc e;refine⟨e1,?_⟩;by_cases hb:loc.1=b
   ·rw[hb];exact⟨_,_,_,t2⟩
   ·by_cases hv2:v0.ownBlock=some loc.1
    ·exact t9 _ hv2 hb
    ·rw[t7 loc.1 (Array.getElem?_eq_some_iff.1 e2).1 hb hv2]
     exact⟨_,_,_,e2⟩
 have hz:∀a x,Z a=some x->∀j,m' k j≠some (a.block,1):=λa x ha j e=>by
  by_cases hj:j=n+1
  ·subst hj
   rw[hmn]at e;obtain⟨g,hg,e2⟩:=Option.map_eq_some_iff.1 e;simp only[Prod.mk.injEq,and_true]at e2;subst e2
   rcases t8 _ hg with h9|h9
   ·have:=hlt ha;omega
   ·obtain⟨j,hj⟩:=h4 _ h9
    exact h7 a x ha _ hj
  ·rw[hm' j hj]at e
   exact h7 a x ha j e
 have hfz:∀a x,Z a=some x->w'.cell? a=some x:=λa x ha=>by
  have h8:=hs.frozen a x ha
  have h9:=old a.block (hlt ha) λj=>h7 a x ha j
  simpa only[World.cell?,h9]using h8
 refine⟨m',⟨hfz,λq hq=>?_,hs.nodup,λq hq r hr c _ _=>?_⟩,λk' L loc e=>?_,λ_ _ e=>e,t3,t4,t5,t6,λc hc hn=>?_,λ_ h=>h,λk' hk=>?_,λq hq c hc=>?_,λ_ _ e=>.inl e⟩
 ·cases msQ.1 hq
  refine⟨b,n+1,p',v',(hm' 0 h0n).trans h1,t2,h,λg hg=>⟨n,by rw[hmn,hg];rfl⟩,λj hj=>?_,hcells,hz⟩;rw[hm' j ab];exact h5 j ab
 ·cases msQ.1 hq;cases msQ.1 hr;rfl
 ·by_cases hk:k'=k
  ·subst hk
   by_cases hL:L=n+1
   ·subst hL;rw[hn1]at e;cases e
   ·rw[hm' L hL];exact e
  ·rw[hmo k' hk];exact e
 ·exact old c hc λj e=>hn _ (msQ.2 rfl) ⟨j,e⟩
 ·have:k'≠k:=λe=>hk (by subst e;exact msQ.2 rfl)
  exact hmo k' this
 ·cases msQ.1 hq
  obtain⟨j,e⟩:=hc;by_cases hj:j=n+1
  ·subst hj
   rw[hmn]at e;obtain⟨g,hg,e2⟩:=Option.map_eq_some_iff.1 e;simp only[Prod.mk.injEq,and_true]at e2;subst e2
   rcases t8 _ hg with h9|h9
   ·exact .inl h9
   ·obtain⟨j,hj⟩:=h4 _ h9
    exact .inr ⟨_,msQ.2 rfl,_,hj⟩
  ·rw[hm' j hj]at e
   exact .inr ⟨_,msQ.2 rfl,j,e⟩
def strCells_eq(t:ak):Lib.strCells ⟨t.toArray⟩=Lib.byteCells t:=by simp[Lib.strCells,Lib.byteCells]
def V4(a b:ak):Lib.byteCells (a++b)=Lib.byteCells a++Lib.byteCells b:=by simp[Lib.byteCells]
def zcn(t:ak):(⟨t.toArray⟩:ByteArray).size=t.length:=by show t.toArray.size=_;simp
def Qb{m:M}{Z:ZM}{k:Nat}{vs:List V}{vals:List Value}{b:Nat}(hb:m k 0=some (b,1))(h:zW (some m) Z (.ptr k 0 0::vs) vals):∃r,vals=.pointer (some ⟨b,0,none⟩)::r/\zW (some m) Z vs r:=by
 obtain⟨x,xs,rfl,⟨f,loc,e1,e2,rfl⟩,h2⟩:=h;cases e1;rw[hb]at e2;cases e2;exact⟨xs,rfl,h2⟩
def zrg{T:Nat}(hT:zzn T)(k:Nat)(s t:ak)(hl:s.length+t.length<=140737488355328):FnA Tryz.prog 162 [.ptr k 0 0,.str t] [(k,sb T s)] (.tup [.int .i64 (t.length:Nat),.nili]) [(k,sb T (s++t))]:=by
 intro w m Z vals hs hv _;obtain⟨b,h1,h2⟩:=zCg hs;obtain⟨r,rfl,h3⟩:=Qb h1 hv;obtain⟨x,xs,rfl,rfl,h4⟩:=h3;cases h4;refine Calls.mono (zzp hT b _ ⟨t.toArray⟩ w h2 (by rw[Lib.byteCells_length,zcn];exact hl)).1 ?_;rintro en w' ⟨rfl,h5,h6⟩;rw[strCells_eq,<- V4]at h5;obtain⟨m',st⟩:=zcm hs h1 h5 h6;exact⟨_,m',Z,rfl,st,_,rfl,_,_,rfl,by rw[zcn];rfl,_,_,rfl,rfl,rfl⟩
def zIw{T:Nat}(hT:zzn T)(k:Nat)(s:ak)(c:UInt8)(hl:s.length+1<=140737488355328):FnA Tryz.prog 168 [.ptr k 0 0,.int .u8 c.toNat] [(k,sb T s)] .nili [(k,sb T (s++[c]))]:=by
 intro w m Z vals hs hv _;obtain⟨b,h1,h2⟩:=zCg hs;obtain⟨r,rfl,h3⟩:=Qb h1 hv;obtain⟨x,xs,rfl,rfl,h4⟩:=h3;cases h4;refine Calls.mono (zGr hT b _ c.toNat w h2 (by rw[Lib.byteCells_length];exact hl)).1 ?_;rintro en w' ⟨rfl,h5,h6⟩
 have e:Lib.byteCells s++[.int .u8 c.toNat]=Lib.byteCells (s++[c]):=by simp[Lib.byteCells]
 rw[e]at h5;obtain⟨m',st⟩:=zcm hs h1 h5 h6;exact⟨_,m',Z,rfl,st,rfl⟩
def Yi{T:Nat}(k:Nat)(s:ak):FnA Tryz.prog 60 [.ptr k 0 0] [(k,sb T s)] (.str s) [(k,sb T s)]:=by
 intro w m Z vals hs hv _;obtain⟨b,h1,h2⟩:=zCg hs;obtain⟨r,rfl,h3⟩:=Qb h1 hv;cases h3;refine Calls.mono (zws b s w h2) ?_;rintro en w' ⟨rfl,h5,h6⟩;obtain⟨m',st⟩:=zcm hs h1 h5 h6;exact⟨_,m',Z,rfl,st,rfl⟩
def zCh{T:Nat}(k:Nat)(s:ak):FnA Tryz.prog 59 [.ptr k 0 0] [(k,sb T s)] (.int .i64 (s.length:Nat)) [(k,sb T s)]:=by
 intro w m Z vals hs hv _;obtain⟨b,h1,h2⟩:=zCg hs;obtain⟨r,rfl,h3⟩:=Qb h1 hv;cases h3;refine Calls.mono (zOj b _ w h2) ?_;rintro en w' ⟨rfl,rfl⟩;exact⟨_,m,Z,rfl,Step.refl hs,by rw[Lib.byteCells_length];rfl⟩
def zCi{T k:Nat}{m:M}{Z:ZM}{w:World}(h:Holds m Z w k (.box T [.nilp,.nils])):Holds m Z w k (sb T [])/\∀b,blk m (k,sb T []) b->blk m (k,.box T [.nilp,.nils]) b:=by
 obtain⟨b,cur,h1,h2,h3,h4,h5⟩:=h;obtain⟨x,xs,e1,hx,y,ys,e2,hy,e3⟩:=h3;subst e3;subst e2;have hx:x=.pointer none:=hx;have hy:y=.slice none 0 0:=hy;subst hx;subst hy
 have hc:cur=#[.pointer none,.slice none 0 0]:=by
  apply Array.ext';rw[e1]
 subst hc
 have only:∀j loc,m k j=some loc->j=0/\loc=(b,1):=λj loc e=>by
  have h6:=h5 j loc e;have h7:j=0:=Nat.le_zero.1 h6;subst h7;rw[h1]at e;exact⟨rfl,(Option.some.inj e).symm⟩
 refine⟨⟨b,0,_,_,h1,h2,.inl ⟨Nat.zero_le _,_,h2,World.ownsRowF_nil _ _ _ _,by simp[Value.ownBlock]⟩,λg hg=>(by cases hg),λj hj=>?_,λj loc e=>?_,λa x ha j e=>?_⟩,λc hc=>?_⟩
 ·cases e:m k j with
  |none=>rfl
  |some loc=>have:=(only j loc e).1;omega
 ·obtain⟨_,rfl⟩:=only j loc e
  exact⟨rfl,_,_,_,h2⟩
 ·have:=(only j _ e).2
  simp only[Prod.mk.injEq,and_true]at this;exact h4 a x ha this
 ·obtain⟨j,e⟩:=hc
  obtain⟨_,e2⟩:=only j _ e;simp only[Prod.mk.injEq,and_true]at e2;subst e2;simp[blk,u9,Obj.ver,h1]
end Go.Proofs.YtffencjoddkghaaGreatDoor
namespace Go.Proofs
open Go.Shelf
def Tryz.laysM171_ren:Go.Shelf.Ren:=⟨λ|171=>163|243=>210|246=>226|283=>234|284=>235|285=>236|286=>237|129=>240|317=>239|318=>241|319=>242|320=>243|337=>244|338=>245|n=>n,λ|3=>3|9=>9|2=>2|4=>4|171=>253|0=>0|53=>254|37=>106|5=>5|173=>257|212=>263|51=>223|20=>20|213=>264|46=>234|232=>267|233=>268|n=>n,λ|17=>4|18=>5|19=>6|n=>n⟩
def Tryz.laysM171:Go.Proofs.LaysM.n171 Tryz.prog Tryz.laysM171_ren:={
 mixed:=aj
 f129:=Tryz.func240.trans (congrArg some aj)
 f171:=Tryz.func163.trans (congrArg some aj)
 f243:=Tryz.func210.trans (congrArg some aj)
 f246:=Tryz.func226.trans (congrArg some aj)
 f283:=Tryz.func234.trans (congrArg some aj)
 f284:=Tryz.func235.trans (congrArg some aj)
 f285:=Tryz.func236.trans (congrArg some aj)
 f286:=Tryz.func237.trans (congrArg some aj)
 f317:=Tryz.func239.trans (congrArg some aj)
 f318:=Tryz.func241.trans (congrArg some aj)
 f319:=Tryz.func242.trans (congrArg some aj)
 f320:=Tryz.func243.trans (congrArg some aj)
 f337:=Tryz.func244.trans (congrArg some aj)
 f338:=Tryz.func245.trans (congrArg some aj)
 t0:=Tryz.underlying0
 a0:=Tryz.isAgg0
 z0:=Tryz.sizeOf0
 v0:=Tryz.zeroValue0
 t2:=Tryz.underlying2
 a2:=Tryz.isAgg2
 z2:=Tryz.sizeOf2
 v2:=Tryz.zeroValue2
 t3:=Tryz.underlying3
 a3:=Tryz.isAgg3
 z3:=Tryz.sizeOf3
 v3:=Tryz.zeroValue3
 t4:=Tryz.underlying4
 a4:=Tryz.isAgg4
 z4:=Tryz.sizeOf4
 v4:=Tryz.zeroValue4
 t5:=Tryz.underlying5
 a5:=Tryz.isAgg5
 z5:=Tryz.sizeOf5
 v5:=Tryz.zeroValue5
 t9:=Tryz.underlying9
 a9:=Tryz.isAgg9
 z9:=Tryz.sizeOf9
 v9:=Tryz.zeroValue9
 t20:=Tryz.underlying20
 a20:=Tryz.isAgg20
 z20:=Tryz.sizeOf20
 v20:=Tryz.zeroValue20
 t37:=Tryz.underlying106
 a37:=Tryz.isAgg106
 z37:=Tryz.sizeOf106
 v37:=Tryz.zeroValue106
 t46:=Tryz.underlying234
 a46:=Tryz.isAgg234
 z46:=Tryz.sizeOf234
 v46:=Tryz.zeroValue234
 t51:=Tryz.underlying223
 a51:=Tryz.isAgg223
 z51:=Tryz.sizeOf223
 v51:=Tryz.zeroValue223
 t53:=Tryz.underlying254
 a53:=Tryz.isAgg254
 z53:=Tryz.sizeOf254
 v53:=Tryz.zeroValue254
 t171:=Tryz.underlying253
 a171:=Tryz.isAgg253
 z171:=Tryz.sizeOf253
 v171:=Tryz.zeroValue253
 t173:=Tryz.underlying257
 a173:=Tryz.isAgg257
 z173:=Tryz.sizeOf257
 v173:=Tryz.zeroValue257
 t212:=Tryz.underlying263
 a212:=Tryz.isAgg263
 z212:=Tryz.sizeOf263
 v212:=Tryz.zeroValue263
 t213:=Tryz.underlying264
 a213:=Tryz.isAgg264
 z213:=Tryz.sizeOf264
 t232:=Tryz.underlying267
 a232:=Tryz.isAgg267
 z232:=Tryz.sizeOf267
 v232:=Tryz.zeroValue267
 t233:=Tryz.underlying268
 a233:=Tryz.isAgg268
 z233:=Tryz.sizeOf268
 v233:=Tryz.zeroValue268
 g17:=aj
 g18:=aj
 g19:=aj
 i0:=aj
 i2:=aj
 i3:=aj
 i4:=aj
 i5:=aj
 i9:=aj
 i20:=aj
 i37:=aj
 i46:=aj
 i51:=aj
 i53:=aj
 i171:=aj
 i173:=aj
 i212:=aj
 i232:=aj
 i233:=aj
 m17:=aj
 m18:=aj
 m19:=by kernel_rfl }
open Go.RowKit Go.Sort Go.Lib in
def Tryz.strconv_Itoa (n : Int) (h0 : -9223372036854775808 <= n) (h1 : n <= 9223372036854775807) (w : World) (htab : Lib.TabIs Tryz.prog w "internal/strconv.uint64pow10" .u64 Lib.pow10Tab) :
  Calls Tryz.prog 163 #[.int .i64 n] w λe w'=>e=.returned (.string ⟨(Lib.itoa n).toArray⟩)/\∃k os,w'=grow (w.drewN k) os:=Any.strconv_Itoa Tryz.laysM171 n h0 h1 w htab
def Tryz.lays144_ren:Go.Shelf.Ren:=⟨λ|144=>52|143=>158|219=>208|217=>221|225=>222|224=>223|267=>224|266=>232|314=>233|n=>n,λ|9=>9|4=>4|3=>3|5=>5|46=>234|146=>251|51=>223|n=>n,λ|1=>3|n=>n⟩
def Tryz.lays144:Go.Proofs.Lays.n144 Tryz.prog Tryz.lays144_ren:={
 mixed:=aj
 f143:=Tryz.func158.trans (congrArg some aj)
 f144:=Tryz.func52.trans (congrArg some aj)
 f217:=Tryz.func221.trans (congrArg some aj)
 f219:=Tryz.func208.trans (congrArg some aj)
 f224:=Tryz.func223.trans (congrArg some aj)
 f225:=Tryz.func222.trans (congrArg some aj)
 f266:=Tryz.func232.trans (congrArg some aj)
 f267:=Tryz.func224.trans (congrArg some aj)
 f314:=Tryz.func233.trans (congrArg some aj)
 t3:=Tryz.underlying3
 a3:=Tryz.isAgg3
 z3:=Tryz.sizeOf3
 v3:=Tryz.zeroValue3
 t4:=Tryz.underlying4
 a4:=Tryz.isAgg4
 z4:=Tryz.sizeOf4
 v4:=Tryz.zeroValue4
 t5:=Tryz.underlying5
 a5:=Tryz.isAgg5
 z5:=Tryz.sizeOf5
 v5:=Tryz.zeroValue5
 t9:=Tryz.underlying9
 a9:=Tryz.isAgg9
 z9:=Tryz.sizeOf9
 v9:=Tryz.zeroValue9
 t46:=Tryz.underlying234
 a46:=Tryz.isAgg234
 z46:=Tryz.sizeOf234
 v46:=Tryz.zeroValue234
 t51:=Tryz.underlying223
 a51:=Tryz.isAgg223
 z51:=Tryz.sizeOf223
 v51:=Tryz.zeroValue223
 t146:=Tryz.underlying251
 a146:=Tryz.isAgg251
 z146:=Tryz.sizeOf251
 v146:=Tryz.zeroValue251
 g1:=by kernel_rfl }
open Go.RowKit Go.Lib in
def Tryz.strings_Contains(s sub:ByteArray)(m:Int)(w:World)(hs:s.size<4294967281)(hm:w.cell? ⟨3,0,none⟩=some (.int .i64 m)):
  Calls Tryz.prog 52 #[.string s,.string sub] w λe w'=>e=.returned (.bool (Lib.contains s.data.toList sub.data.toList))/\w'=w:=Any.strings_Contains Tryz.lays144 s sub m w hs hm
def Tryz.lays99_ren:Go.Shelf.Ren:=⟨λ|99=>166|206=>211|n=>n,λ|9=>9|4=>4|3=>3|n=>n,λ|n=>n⟩
def Tryz.lays99:Go.Proofs.Lays.n99 Tryz.prog Tryz.lays99_ren:={
 mixed:=aj
 f99:=Tryz.func166.trans (congrArg some aj)
 f206:=Tryz.func211.trans (congrArg some aj)
 t3:=Tryz.underlying3
 a3:=Tryz.isAgg3
 z3:=Tryz.sizeOf3
 v3:=Tryz.zeroValue3
 t4:=Tryz.underlying4
 a4:=Tryz.isAgg4
 z4:=Tryz.sizeOf4
 v4:=Tryz.zeroValue4
 t9:=Tryz.underlying9
 a9:=Tryz.isAgg9
 z9:=Tryz.sizeOf9
 v9:=Tryz.zeroValue9 }
open Go.RowKit Go.Lib in
def Tryz.strings_HasPrefix(s p:ByteArray)(w:World):
  Calls Tryz.prog 166 #[.string s,.string p] w λe w'=>e=.returned (.bool (Lib.hasPrefix s.data.toList p.data.toList))/\w'=w:=Any.strings_HasPrefix Tryz.lays99 s p w
def Tryz.lays157_ren:Go.Shelf.Ren:=⟨λ|157=>72|229=>169|199=>170|261=>213|311=>228|312=>229|n=>n,λ|9=>9|31=>58|3=>3|5=>5|4=>4|119=>205|0=>0|40=>207|152=>220|21=>21|154=>222|51=>223|141=>225|196=>242|193=>239|198=>245|49=>243|194=>240|201=>248|226=>259|46=>234|227=>260|n=>n,λ|0=>1|6=>2|n=>n⟩
def Tryz.lays157:Go.Proofs.Lays.n157 Tryz.prog Tryz.lays157_ren:={
 mixed:=aj
 f157:=Tryz.func72.trans (congrArg some aj)
 f199:=Tryz.func170.trans (congrArg some aj)
 f229:=Tryz.func169.trans (congrArg some aj)
 f261:=Tryz.func213.trans (congrArg some aj)
 f311:=Tryz.func228.trans (congrArg some aj)
 f312:=Tryz.func229.trans (congrArg some aj)
 t0:=Tryz.underlying0
 a0:=Tryz.isAgg0
 z0:=Tryz.sizeOf0
 v0:=Tryz.zeroValue0
 t3:=Tryz.underlying3
 a3:=Tryz.isAgg3
 z3:=Tryz.sizeOf3
 v3:=Tryz.zeroValue3
 t4:=Tryz.underlying4
 a4:=Tryz.isAgg4
 z4:=Tryz.sizeOf4
 v4:=Tryz.zeroValue4
 t5:=Tryz.underlying5
 a5:=Tryz.isAgg5
 z5:=Tryz.sizeOf5
 v5:=Tryz.zeroValue5
 t9:=Tryz.underlying9
 a9:=Tryz.isAgg9
 z9:=Tryz.sizeOf9
 v9:=Tryz.zeroValue9
 t21:=Tryz.underlying21
 a21:=Tryz.isAgg21
 z21:=Tryz.sizeOf21
 v21:=Tryz.zeroValue21
 t31:=Tryz.underlying58
 a31:=Tryz.isAgg58
 z31:=Tryz.sizeOf58
 v31:=Tryz.zeroValue58
 t40:=Tryz.underlying207
 a40:=Tryz.isAgg207
 z40:=Tryz.sizeOf207
 v40:=Tryz.zeroValue207
 t46:=Tryz.underlying234
 a46:=Tryz.isAgg234
 z46:=Tryz.sizeOf234
 v46:=Tryz.zeroValue234
 t49:=Tryz.underlying243
 a49:=Tryz.isAgg243
 z49:=Tryz.sizeOf243
 v49:=Tryz.zeroValue243
 t51:=Tryz.underlying223
 a51:=Tryz.isAgg223
 z51:=Tryz.sizeOf223
 v51:=Tryz.zeroValue223
 t119:=Tryz.underlying205
 a119:=Tryz.isAgg205
 z119:=Tryz.sizeOf205
 t141:=Tryz.underlying225
 a141:=Tryz.isAgg225
 z141:=Tryz.sizeOf225
 v141:=Tryz.zeroValue225
 t152:=Tryz.underlying220
 a152:=Tryz.isAgg220
 z152:=Tryz.sizeOf220
 v152:=Tryz.zeroValue220
 t154:=Tryz.underlying222
 a154:=Tryz.isAgg222
 z154:=Tryz.sizeOf222
 v154:=Tryz.zeroValue222
 t193:=Tryz.underlying239
 a193:=Tryz.isAgg239
 z193:=Tryz.sizeOf239
 v193:=Tryz.zeroValue239
 t194:=Tryz.underlying240
 a194:=Tryz.isAgg240
 z194:=Tryz.sizeOf240
 v194:=Tryz.zeroValue240
 t196:=Tryz.underlying242
 a196:=Tryz.isAgg242
 z196:=Tryz.sizeOf242
 v196:=Tryz.zeroValue242
 t198:=Tryz.underlying245
 a198:=Tryz.isAgg245
 z198:=Tryz.sizeOf245
 v198:=Tryz.zeroValue245
 t201:=Tryz.underlying248
 a201:=Tryz.isAgg248
 z201:=Tryz.sizeOf248
 v201:=Tryz.zeroValue248
 t226:=Tryz.underlying259
 a226:=Tryz.isAgg259
 z226:=Tryz.sizeOf259
 v226:=Tryz.zeroValue259
 t227:=Tryz.underlying260
 a227:=Tryz.isAgg260
 z227:=Tryz.sizeOf260
 v227:=Tryz.zeroValue260
 g0:=aj
 g6:=by kernel_rfl }
open Go.RowKit Go.Lib in
def Tryz.strings_Fields (s : ByteArray) (w : World) (hs : s.size < 4294967281) (hascii : ∀ (j : Nat) b, s.data.toList[j]? = some b -> b.toNat < 128) (htab : Lib.TabIs Tryz.prog w "strings.asciiSpace" .u8 Lib.asciiSpaceTab) :
  Calls Tryz.prog 72 #[.string s] w λe w' =>
   e=.returned (.slice (some ⟨w.heap.size,0,none⟩) (Lib.fields s.data.toList).length (Lib.fields s.data.toList).length)/\w'=w.alloc (.cells ((Lib.fields s.data.toList).map λl=>Value.string ⟨l.toArray⟩).toArray 9):=Any.strings_Fields Tryz.lays157 aj aj s w hs hascii htab
end Go.Proofs
set_option maxRecDepth 100000
namespace Go.Proofs.YtffencjoddkghaaGreatDoor
open Go Go.RowKit Go.Eng Go.EV Go.EQ
def zgn:List ak:=[[60,61],[61,61],[59],[44],[58],[61],[60],[43],[45],[42],[47],[37],[40],[41]]
def gl0(ob:Go.Obj):EV.Obj:=.glob 0 ob (zgn.map V.str)
def gl1(ob:Go.Obj):EV.Obj:=.glob 1 ob (Lib.asciiSpaceTab.map (V.int .u8))
def gl2(ob:Go.Obj)(m:Int):EV.Obj:=.glob 3 ob [.int .i64 m]
def gl3(ob:Go.Obj):EV.Obj:=.glob 4 ob (Lib.pow10Tab.map (V.int .u64))
class QL where
 ob0:Go.Obj
 ob1:Go.Obj
 ob2:Go.Obj
 m2:Int
 ob3:Go.Obj
variable[QL]
def gl:Heap:=[(900000000,gl0 QL.ob0),(900000001,gl1 QL.ob1),(900000002,gl2 QL.ob2 QL.m2),(900000003,gl3 QL.ob3)]
def zau{α:Type}{f:α->V}(h:∀a,(f a).bare=true):∀l:List α,VL (l.map f)=true
 |[]=>rfl
 |a::l=>by simp only[mk9,VL,h a,zau h l,Bool.and_self]
def glB:zAz gl=true:=by
 have h0:=zau (f:=V.str) (λ_=>rfl) zgn;have h1:=zau (f:=V.int .u8) (λ_=>rfl) Lib.asciiSpaceTab;have h3:=zau (f:=V.int .u64) (λ_=>rfl) Lib.pow10Tab;simp only[zAz,gl,List.all_cons,List.all_nil,gl0,gl1,gl2,gl3,h0,h1,h3];rfl
def K2{α:Type}{enc:α->V}{f:α->Value}{m:Option M}{Z:ZM}(h:∀a x,Rep m Z (enc a) x->x=f a):∀{l:List α}{xs:List Value},zW m Z (l.map enc) xs->xs=l.map f
 |[],xs,hx=>hx
 |a::l,xs,hx=>by
  obtain⟨x,r,rfl,h1,h2⟩:=hx;rw[h a x h1,K2 h h2];rfl
def bind_some{α β:Type}{o:Option α}{f:α->Option β}{r:β}(h:o.bind f=some r):∃a,o=some a/\f a=some r:=Option.bind_eq_some_iff.1 h
def zxw(w:World)(k:Nat)(os:Array Go.Obj):Below w.heap.size w (Sort.grow (w.drewN k) os) :=
 ⟨rfl,rfl,rfl,by show w.heap.size<=(w.heap++os).size;simp,λj hj=>by
  show(w.heap++os)[j]?=_
  rw[Array.getElem?_append_left hj]⟩
def zuf(n:Int):Option ak:=(grd (-9223372036854775808<=n/\n<=9223372036854775807)).bind λ_=>some (Lib.itoa n)
def zVl(n:Int)(r:ak)(hs:zuf n=some r):FnA Tryz.prog 163 [.int .i64 n] gl (.str r) gl:=by
 unfold zuf at hs;obtain⟨_,h,hs⟩:=bind_some hs;obtain⟨h0,h1⟩:=xl h;obtain rfl:=Option.some.inj hs
 refine zis glB rfl λw Z vals hf hg hv=>?_
 obtain⟨x,xs,rfl,e1,e2⟩:=hv;cases e2;cases e1;obtain⟨cur,u,fr,g1,g2⟩:=hg (900000003,gl3 QL.ob3) (by simp[gl]) 4 _ _ rfl;have hc:cur.toList=Lib.pow10Tab.map (Value.int .u64):=K2 (enc:=V.int .u64) (f:=Value.int .u64) (λa x h=>h) g2
 have htab : Lib.TabIs Tryz.prog w "internal/strconv.uint64pow10" .u64 Lib.pow10Tab := by
  unfold Lib.TabIs World.var?
  rw [show Tryz.prog.globalNamed "internal/strconv.uint64pow10" = some 4 by kernel_rfl]
  simp only[bsQ,g1];rw[<- hc]
 refine Calls.mono (Tryz.strconv_Itoa n h0 h1 w htab) ?_;rintro e w' ⟨rfl,k,os,rfl⟩;exact⟨_,rfl,λ_=>rfl,zxw w k os⟩
def Kk:ak->ak->Bool
 |[],sub=>sub.isEmpty
 | b::l,sub=>sub.isPrefixOf (b::l)||Kk l sub
def znd:∀s sub:ak,Lib.contains s sub=Kk s sub
 |[],sub=>by
  unfold Lib.contains Lib.index Kk;cases sub<;>rfl
 |b::l,sub=>by
  have ih:=znd l sub;have hg:=Lib.index_ge l sub;unfold Lib.contains at ih ⊢
  have hidx:Lib.index (b::l) sub=if sub.isPrefixOf (b::l)then 0 else if Lib.index l sub==-1 then -1 else Lib.index l sub+1:=by rw[Lib.index]
  unfold Kk;rw[<- ih,hidx]
  cases sub.isPrefixOf (b::l)with
  |true=>simp
  |false =>
   simp only[Bool.false_eq_true,if_false,Bool.false_or];by_cases h:Lib.index l sub=-1
   ·simp[h]
   ·have h2:(Lib.index l sub==-1)=false:=by simpa using h
    simp only[h2,Bool.false_eq_true,if_false];simp only[decide_eq_decide];constructor<;>intro h3<;>omega
def Qc(s sub:ak):Option Bool:=(grd (List.length s<4294967281)).bind λ_=>some (Kk s sub)
def zCj{s:ak}{n:Nat}(h:s.length<n):(⟨s.toArray⟩:ByteArray).size<n:=by rw[zcn];exact h
def zxx(s sub:ak)(r:Bool)(hs:Qc s sub=some r):FnA Tryz.prog 52 [.str s,.str sub] gl (.bool r) gl:=by
 unfold Qc at hs;obtain⟨_,h,hs⟩:=bind_some hs;have h0:=xl h;obtain rfl:=Option.some.inj hs
 refine zis glB rfl λw Z vals hf hg hv=>?_
 obtain⟨x,xs,rfl,e1,x2,xs2,rfl,e2,e3⟩:=hv;cases e3;cases e1;cases e2;obtain⟨cur,u,fr,g1,g2⟩:=hg (900000002,gl2 QL.ob2 QL.m2) (by simp[gl]) 3 _ _ rfl;obtain⟨y,ys,g3,rfl,rfl⟩:=g2
 have hm:w.cell? ⟨3,0,none⟩=some (.int .i64 QL.m2):=by
  rw[cell_of_row w 3 0 cur u fr g1,<- Array.getElem?_toList,g3];rfl
 refine Calls.mono (Tryz.strings_Contains ⟨s.toArray⟩ ⟨sub.toArray⟩ QL.m2 w (zCj h0) hm) ?_;rintro e w' ⟨rfl,rfl⟩;exact⟨_,rfl,λ_=>by rw[<- znd];rfl,Below.refl _ _⟩
def zco(s p:ak):Option Bool:=some (p.isPrefixOf s)
def zrh(s p:ak)(r:Bool)(hs:zco s p=some r):FnA Tryz.prog 166 [.str s,.str p] [] (.bool r) []:=by
 obtain rfl:=Option.some.inj hs
 refine zis rfl rfl λw Z vals hf hg hv=>?_
 obtain⟨x,xs,rfl,e1,x2,xs2,rfl,e2,e3⟩:=hv;cases e3;cases e1;cases e2;refine Calls.mono (Tryz.strings_HasPrefix ⟨s.toArray⟩ ⟨p.toArray⟩ w) ?_;rintro e w' ⟨rfl,rfl⟩;exact⟨_,rfl,λ_=>rfl,Below.refl _ _⟩
def Jf(s:ak):Option (List ak):=(grd (List.length s<4294967281/\s.all (λb=>Nat.blt b.toNat 128)=true/\0<(Lib.fields s).length/\(Lib.fields s).length<=maxLen)).bind λ_=>some (Lib.fields s)
def zVm(Z:ZM):∀r:List ak,zW none Z ((r.map λx=>[V.str x]).flatten) (r.map λl=>Value.string ⟨l.toArray⟩)
 |[]=>rfl
 |_::r=>⟨_,_,rfl,rfl,zVm Z r⟩
def zIx(s:ak)(r:List ak)(hs:Jf s=some r):FnA Tryz.prog 72 [.str s] gl (.sl 1 60 r.length 0 r.length) ((60,.row 9 1 0 (r.map λx=>[V.str x]))::gl):=by
 unfold Jf at hs;obtain⟨_,h,hs⟩:=bind_some hs;obtain⟨h0,h1,h2,h3⟩:=xl h;have hr:=Option.some.inj hs;intro w m Z vals hS hv hfr;obtain⟨x,xs,rfl,e1,e2⟩:=hv;cases e2;cases e1;have hh:=hS.holds (900000001,gl1 QL.ob1) (by simp[gl]);obtain⟨_,⟨g1,cur,u,fr,e1,g2⟩,_⟩:=hh;rw[e1]at g1;have hc:cur.toList=Lib.asciiSpaceTab.map (Value.int .u8):=K2 (enc:=V.int .u8) (f:=Value.int .u8) (λa x h=>h) g2
 have htab : Lib.TabIs Tryz.prog w "strings.asciiSpace" .u8 Lib.asciiSpaceTab := by
  unfold Lib.TabIs World.var?
  rw [show Tryz.prog.globalNamed "strings.asciiSpace" = some 1 by kernel_rfl]
  simp only[bsQ,g1];rw[<- hc]
 refine Calls.mono (Tryz.strings_Fields ⟨s.toArray⟩ w (zCj h0) (λj b hb=>?_) htab) ?_
 ·have:=(List.all_eq_true.1 h1) b (List.mem_of_getElem? hb)
  exact lb this
 rintro e w' ⟨rfl,rfl⟩;have hr':Lib.fields (⟨s.toArray⟩:ByteArray).data.toList=r:=hr;rw[hr']at *;rw[hr]at h2 h3
 have hf:zW none Z ((r.map λx=>[V.str x]).flatten) (r.map λl=>Value.string ⟨l.toArray⟩):=by
  exact zVm Z r
 obtain⟨m',st,hk⟩:=Step.new (m:=m) (Z:=Z) (w:=w) (k:=60) (o:=.row 9 1 0 (r.map λx=>[V.str x])) (.cells (r.map λl=>Value.string ⟨l.toArray⟩).toArray 9) r.length hS.frozen (λL=>hfr 60 (by simp[keys,gl]) L) λm' g1 g2 g3=>by
  refine .inr ⟨w.heap.size,r.length,_,(0,0),by simpa[Obj.ver]using g1,h2,World.alloc_heap_new w _,af,h3,af,Nat.one_pos,?_,λx hx=>?_,Nat.zero_le _,Nat.zero_le _,λa x ha e=>?_,λL l e=>?_,λoff x ho=>?_⟩
  ·rw[List.length_map,Nat.mul_one,List.take_of_length_le af]
   exact hf
  ·obtain⟨y,_,rfl⟩:=List.mem_map.1 hx;rfl
  ·have:=vD hS.frozen ha;omega
  ·have:=g2 L l e;simp only[Obj.ver]at this;omega
  ·omega
 have st2:=Step.frame_rule (F:=[]) (G:=gl) hS st λp hp q hq e=>by
  cases msQ.1 hp;simp only[gl,List.mem_cons,List.not_mem_nil,or_false]at hq
  rcases hq with rfl|rfl|rfl|rfl<;>cases e
 refine⟨_,m',Z,rfl,st2,m',(w.heap.size,r.length),rfl,by simpa[Obj.ver]using hk,af,h3,.inl ?_⟩;simp
end Go.Proofs.YtffencjoddkghaaGreatDoor
namespace Go.EV
open Go Go.ChangeShapes Go.WideShapes Go.ChangeAt Go.RowKit Go.Deep Go.Joins Go.Eng
def zne(P:Program):List Field->Nat->Option Nat
 |[],off=>some off
 |f::r,off=>if Nat.beq f.offset off then zne P r (off+P.cellsOf f.type)else none
def zxy(P:Program)(t:TypeId):Bool:=match P.underlying t with
 |some (.struct fs)=>match zne P fs.toList 0 with|some n=>Nat.beq n (P.cellsOf t)|none=>false
 |some (.array m e)=>Nat.beq (m*P.cellsOf e) (P.cellsOf t)
 |_=>true
def znf(P:Program)(t:TypeId):Bool:=match P.underlying t with
 |some (.struct fs)=>fs.toList.all λf=>Nat.ble (f.type+1) P.types.size
 |some (.array _ e)|some (.slice e)=>Nat.ble (e+1) P.types.size
 |_=>true
def zVn(P:Program):Bool:=(List.range P.types.size).all λt=>zxy P t&&znf P t
def Kl(P:Program)(t:TypeId):Bool:=match P.underlying t with
 |some .bool|some (.int _)|some .string|some (.slice _)|some (.struct _)|some (.array ..)=>true
 |_=>false
inductive zG(P:Program):TypeId->List V->Prop
 |bool {t:TypeId} {b:Bool} (h:P.underlying t=some .bool):zG P t [.bool b]
 |int {t:TypeId} {k:IntKind} {n:Int} (h:P.underlying t=some (.int k)) (hw:(Lit.int k n).wf=true):zG P t [.int k n]
 |str {t:TypeId} {s:ak} (h:P.underlying t=some .string) (hl:s.length<=maxLen):zG P t [.str s]
 |slice {t e:TypeId} {els:List (List V)} (h:P.underlying t=some (.slice e)) (hl:els.length<=maxLen) (hx:∀x∈els,zG P e x):zG P t [.vs (P.cellsOf e) els]
 |struct {t:TypeId} {fs:Array Field} {cs:List V} (h:P.underlying t=some (.struct fs)) (hc:cs.length=P.cellsOf t) (hx:∀f∈fs.toList,zG P f.type ((cs.drop f.offset).take (P.cellsOf f.type))):zG P t cs
 |array {t e:TypeId} {m:Nat} {cs:List V} (h:P.underlying t=some (.array m e)) (hc:cs.length=P.cellsOf t) (hx:∀i,i<m->zG P e ((cs.drop (i*P.cellsOf e)).take (P.cellsOf e))):zG P t cs
 |other {t:TypeId} {cs:List V} (h:Kl P t=false):zG P t cs
def zug{α:Type}[Inhabited α]{p:Nat->α->Prop}:∀n:Nat,(∀i,i<n->∃x,p i x)->∃l:List α,l.length=n/\∀i x,l[i]?=some x->p i x
 |0,_=>⟨[],rfl,λi x h=>by simp at h⟩
 |n+1,h=>by
  obtain⟨l,hl,hp⟩:=zug n (λi hi=>h i ab);obtain⟨x,hx⟩:=h n ab;refine⟨l++[x],by simp[hl],λi y hy=>?_⟩;rw[List.getElem?_append]at hy;split at hy
  ·exact hp i y hy
  ·rename_i hlt
   have:i=n:=by
    have:=(List.getElem?_eq_some_iff.1 hy).1;simp at this;omega
   subst this;rw[hl,Nat.sub_self]at hy;simp at hy;subst hy;exact hx
def Yj{Z:ZM}:∀cs:List Value,zW none Z (cs.map λ_=>V.undef) cs
 |[]=>rfl
 |c::cs=>⟨c,cs,rfl,trivial,Yj cs⟩
def zcp{P:Program}{Z:ZM}(cs:List Value):∀(fs:List Field)(off n:Nat),zne P fs off=some n->n<=cs.length ->
  (∀f∈fs,∃vs,zG P f.type vs/\zW none Z vs ((cs.drop f.offset).take (P.cellsOf f.type))) ->
  off<=n/\∃vs,vs.length=n-off/\zW none Z vs ((cs.drop off).take (n-off))/\∀f∈fs,off<=f.offset/\zG P f.type ((vs.drop (f.offset-off)).take (P.cellsOf f.type))
 |[],off,n,h,hn,_=>by
  simp only[zne,Option.some.injEq]at h;subst h;exact⟨aq,[],af,by simp[zW],λf hf=>by cases hf⟩
 |f::fs,off,n,h,hn,hx=>by
  simp only[zne]at h;split at h
  ·rename_i hb
   have hb:=eb hb;obtain⟨h1,vs,h2,h3,h4⟩:=zcp cs fs _ n h hn (λg hg=>hx g (mcQ _ hg));obtain⟨us,h5,h6⟩:=hx f al;rw[hb]at h6
   have hul:us.length=P.cellsOf f.type:=by
    have:=h6.length;rw[List.length_take,List.length_drop]at this;omega
   refine⟨ab,us++vs,by rw[la];omega,?_,λg hg=>?_⟩
   ·have e:(cs.drop off).take (n-off)=(cs.drop off).take (P.cellsOf f.type)++(cs.drop (off+P.cellsOf f.type)).take (n-(off+P.cellsOf f.type)):=by
     rw[<- List.drop_drop,show n-off=P.cellsOf f.type+(n-(off+P.cellsOf f.type)) by omega,List.take_add]
    rw[e];exact h6.append h3
   ·rcases List.mem_cons.1 hg with rfl|hg
    ·refine⟨ab,?_⟩
     rw[hb,Nat.sub_self,List.drop_zero,<- hul,List.take_left];exact h5
    ·obtain⟨h7,h8⟩:=h4 g hg
     refine⟨ab,?_⟩;rw[show g.offset-off=us.length+(g.offset-(off+P.cellsOf f.type)) by omega,List.drop_append];rw[List.drop_eq_nil_of_le ab,List.nil_append,show us.length+(g.offset-(off+P.cellsOf f.type))-us.length=g.offset-(off+P.cellsOf f.type) by omega];exact h8
  ·cases h
def zgo{P:Program}{Z:ZM}(cs:List Value)(e:TypeId):∀(m off:Nat),off+m*P.cellsOf e<=cs.length ->
  (∀i,i<m->∃vs,zG P e vs/\zW none Z vs ((cs.drop (off+i*P.cellsOf e)).take (P.cellsOf e))) ->
  ∃vs,vs.length=m*P.cellsOf e/\zW none Z vs ((cs.drop off).take (m*P.cellsOf e))/\∀i,i<m->zG P e ((vs.drop (i*P.cellsOf e)).take (P.cellsOf e))
 |0,off,hn,_=>⟨[],af,by simp[zW],λi hi=>ab⟩
 |m+1,off,hn,hx=>by
  rw[Nat.succ_mul]at hn
  obtain⟨vs,h2,h3,h4⟩:=zgo (P:=P) cs e m (off+P.cellsOf e) ab (λi hi=>by
   have:=hx (i+1) ab;rw[Nat.succ_mul,show off+(i*P.cellsOf e+P.cellsOf e)=off+P.cellsOf e+i*P.cellsOf e by omega]at this
   exact this)
  obtain⟨us,h5,h6⟩:=hx 0 ab;rw[Nat.zero_mul,Nat.add_zero]at h6
  have hul:us.length=P.cellsOf e:=by
   have:=h6.length;rw[List.length_take,List.length_drop]at this;omega
  refine⟨us++vs,by rw[la,Nat.succ_mul];omega,?_,λi hi=>?_⟩
  ·have e1:(cs.drop off).take ((m+1)*P.cellsOf e)=(cs.drop off).take (P.cellsOf e)++(cs.drop (off+P.cellsOf e)).take (m*P.cellsOf e):=by
    rw[<- List.drop_drop,Nat.succ_mul,Nat.add_comm,List.take_add]
   rw[e1];exact h6.append h3
  ·cases i with
   |zero=>rw[Nat.zero_mul,List.drop_zero,<- hul,List.take_left];exact h5
   |succ i =>
    have:=h4 i ab;rw[Nat.succ_mul,show i*P.cellsOf e+P.cellsOf e=us.length+i*P.cellsOf e by omega,List.drop_append];rw[List.drop_eq_nil_of_le ab,List.nil_append,show us.length+i*P.cellsOf e-us.length=i*P.cellsOf e by omega];exact this
section
variable{H:Type}{enc:TypeId×Value->H}{P:Program}{w:World}{base:Nat}{spare:Nat->Bool}{held:Bool}
def zjm(hP:∀t,t<P.types.size->zxy P t=true/\znf P t=true):∀(fuel:Nat)(t:TypeId)(cs:List Value)(x:DataW H×List MemPlace),t<P.types.size->DataW.trod enc P w base spare held fuel t cs=some x->∃vs,zG P t vs/\zW none w.cell? vs cs
 |0,t,cs,x,_,h=>by simp[DataW.trod]at h
 |fuel+1,t,cs,x,hlt,h=>by
  obtain⟨htile,hchild⟩:=hP t hlt;unfold znf at hchild
  cases ht:P.underlying t with
  |none=>exact⟨_,.other (by unfold Kl;rw[ht]),Yj cs⟩
  |some d =>
   have hother:Kl P t=false->∃vs,zG P t vs/\zW none w.cell? vs cs:=λhp=>⟨_,.other hp,Yj cs⟩
   cases d with
   |bool =>
    obtain⟨b,rfl,_⟩:=DataW.trod_bool ht h;exact⟨[.bool b],.bool ht,_,_,rfl,rfl,rfl⟩
   |int k =>
    obtain⟨n,rfl,_,hw⟩:=DataW.trod_int ht h;exact⟨[.int k n],.int ht hw,_,_,rfl,rfl,rfl⟩
   |string =>
    obtain⟨s,rfl,_,hs⟩:=DataW.trod_string ht h;exact⟨[.str s.data.toList],.str ht (by simpa using hs),_,_,rfl,rfl,rfl⟩
   |slice e =>
    rcases DataW.trod_slice ht h with⟨rfl,_⟩|⟨a,len,cap,elems,rest,n,hn,rfl,_,_,hl,hm,hlen,hel,_⟩
    ·exact⟨[.vs (P.cellsOf e) []],.slice ht (Nat.zero_le _) (λ_ h=>by cases h),_,_,rfl,⟨none,0,rfl,aq,Nat.zero_le _,.inl rfl⟩,rfl⟩
    ·have hn:n=fuel:=ab
     subst hn
     obtain⟨els,he,hp⟩:=zug (α:=List V) (p:=λi vs=>zG P e vs/\vs.length=P.cellsOf e/\A5 w.cell? (a.add (i*P.cellsOf e)) 0 vs) len (λi hi=>by
      have h1:=hel i hi;rw[List.getElem?_eq_getElem ab]at h1;obtain⟨cs',h2,h3⟩:=Option.bind_eq_some_iff.1 h1;obtain⟨_,h4,h5⟩:=World.cells?_some h2;rw[ht]at hchild;obtain⟨vs,h6,h7⟩:=zjm hP n e cs' _ (lb hchild) h3;have h8:=h7.length;refine⟨vs,h6,ab,A5.of_get λj v hj=>?_⟩;obtain⟨u,h9,h10⟩:=h7.get hj;rw[Nat.zero_add,h5 j (by have:=(List.getElem?_eq_some_iff.1 hj).1;omega)]
      exact⟨u,h9,h10⟩)
     refine⟨[.vs (P.cellsOf e) els],.slice ht ab (λx hx=>?_),_,_,rfl,⟨some a,cap,by rw[he],ab,hm,.inr ⟨a,rfl,wK.of_get λi cs' hi=>?_⟩⟩,rfl⟩
     ·obtain⟨i,hi,rfl⟩:=List.getElem_of_mem hx
      exact(hp i _ (List.getElem?_eq_getElem hi)).1
     ·obtain⟨_,h2,h3⟩:=hp i cs' hi
      rw[Nat.zero_add];exact⟨h2,h3⟩
   |struct fs =>
    obtain⟨xs,n,hn,_,hc,hlen,hg⟩:=DataW.trod_struct ht h
    have hn:n=fuel:=ab
    subst hn;have htl:=htile;unfold zxy at htl;rw[ht]at htl hchild;simp only at htl;split at htl
    ·rename_i m hm
     have htl:=eb htl
     obtain⟨_,vs,h2,h3,h4⟩:=zcp (P:=P) (Z:=w.cell?) cs fs.toList 0 m hm ab (λf hf=>by
      obtain⟨i,hi,rfl⟩:=List.getElem_of_mem hf;have h1:=hg i _ (by rw[<- Array.getElem?_toList];exact List.getElem?_eq_getElem hi);rw[List.getElem?_eq_getElem (by rw[hlen];simpa using hi)]at h1
      exact zjm hP n _ _ _ (lb ((List.all_eq_true.1 hchild) _ (List.getElem_mem _))) h1)
     rw[List.drop_zero,Nat.sub_zero,List.take_of_length_le ab]at h3;exact⟨vs,.struct ht ab (λf hf=>by have:=(h4 f hf).2;rwa [Nat.sub_zero]at this),h3⟩
    ·cases htl
   |array m e =>
    obtain⟨xs,n,hn,_,hc,hlen,hg⟩:=DataW.trod_array ht h
    have hn:n=fuel:=ab
    subst hn;have htl:=htile;unfold zxy at htl;rw[ht]at htl hchild;have htl:=eb htl
    obtain⟨vs,h2,h3,h4⟩:=zgo (P:=P) (Z:=w.cell?) cs e m 0 ab (λi hi=>by
     have h1:=hg i hi;rw[List.getElem?_eq_getElem ab]at h1;rw[Nat.zero_add]
     exact zjm hP n _ _ _ (lb hchild) h1)
    rw[List.drop_zero,List.take_of_length_le ab]at h3;exact⟨vs,.array ht ab h4,h3⟩
   |_=>exact hother (by unfold Kl;rw[ht])
end
def zIy{P:Program}(h:zVn P=true):∀t,t<P.types.size->zxy P t=true/\znf P t=true:=λt ht=>by
 have:=(List.all_eq_true.1 h) t (List.mem_range.2 ht)
 rwa [bn]at this
section
variable{P:Program}{t e m:Nat}{fs:Array Field}{cs:List V}{k:IntKind}
def zCk(ht:P.underlying t=some .bool)(h:zG P t cs):∃b,cs=[.bool b]:=by
 cases h with
 |bool=>exact⟨_,rfl⟩
 |int h|str h|slice h|struct h|array h=>rw[ht]at h;cases h
 |other h=>unfold Kl at h;rw[ht]at h;cases h
def zIz(ht:P.underlying t=some (.int k))(h:zG P t cs):∃n,cs=[.int k n]/\(Lit.int k n).wf=true:=by
 cases h with
 |int h hw=>rw[ht]at h;cases h;exact⟨_,rfl,hw⟩
 |bool h|str h|slice h|struct h|array h=>rw[ht]at h;cases h
 |other h=>unfold Kl at h;rw[ht]at h;cases h
def zI0(ht:P.underlying t=some .string)(h:zG P t cs):∃s,cs=[.str s]/\s.length<=maxLen:=by
 cases h with
 |str h hl=>exact⟨_,rfl,hl⟩
 |bool h|int h|slice h|struct h|array h=>rw[ht]at h;cases h
 |other h=>unfold Kl at h;rw[ht]at h;cases h
def vm(ht:P.underlying t=some (.slice e))(h:zG P t cs):∃els,cs=[.vs (P.cellsOf e) els]/\els.length<=maxLen/\∀x∈els,zG P e x:=by
 cases h with
 |slice h hl hx=>rw[ht]at h;cases h;exact⟨_,rfl,hl,hx⟩
 |bool h|int h|str h|struct h|array h=>rw[ht]at h;cases h
 |other h=>unfold Kl at h;rw[ht]at h;cases h
def xv(ht:P.underlying t=some (.struct fs))(h:zG P t cs):cs.length=P.cellsOf t/\∀f∈fs.toList,zG P f.type ((cs.drop f.offset).take (P.cellsOf f.type)):=by
 cases h with
 |struct h hc hx=>rw[ht]at h;cases h;exact⟨hc,hx⟩
 |bool h|int h|str h|slice h|array h=>rw[ht]at h;cases h
 |other h=>unfold Kl at h;rw[ht]at h;cases h
def vF{α:Type}{enc:α->List V}{ok:α->Prop}(h1:∀c,zG P e c->∃a,c=enc a/\ok a):∀{els:List (List V)},(∀x∈els,zG P e x)->∃l:List α,els=l.map enc/\∀a∈l,ok a
 |[],_=>⟨[],rfl,λ_ h=>by cases h⟩
 |c::els,h=>by
  obtain⟨a,rfl,ha⟩:=h1 c (h c al);obtain⟨l,rfl,hl⟩:=vF h1 (λx hx=>h x (mcQ _ hx))
  exact⟨a::l,rfl,λb hb=>by
   rcases List.mem_cons.1 hb with rfl|hb
   ·exact ha
   ·exact hl b hb⟩
end
def okK(k:IntKind)(n:Int):Prop:=(Lit.int k n).wf=true
def okS(s:ak):Prop:=s.length<=maxLen
def zcq{α:Type}(ok:α->Prop)(l:List α):Prop:=l.length<=maxLen/\∀a∈l,ok a
def zxz{m m':M}{Z Z':ZM}{G:Heap}{w w':World}(hG:zAz G=true)(hs:wH m Z G w)(h:Step m Z G w m' Z' G w'):Below w.heap.size w w':=by
 refine⟨h.os,h.tape,h.output,h.size,λb hb=>?_⟩;by_cases hx:∃p∈G,blk m p b
 ·obtain⟨p,hp,e⟩:=hx
  obtain⟨g,ob,cs,hl,_⟩:=zPc hG hp;have h1:=hs.holds p hp;have h2:=h.sim.holds p hp;rw[hl]at h1 h2;obtain⟨h3,⟨h4,_⟩,_⟩:=h1;obtain⟨_,⟨h5,_⟩,_⟩:=h2
  have:g=b:=by
   obtain⟨k,o⟩:=p;simp only at hl h3;subst hl;simpa[blk,u9,Obj.ver,h3]using e
  subst this;rw[h4,h5]
 ·exact h.frame b hb λp hp e=>hx ⟨p,hp,e⟩
section
variable{H:Type}{enc:TypeId×Value->H}{P:Program}
def zgp(hl:laidOutB P=true){W W':World}(hb:Below W.heap.size W W'):∀(ts:List TypeId)(vs:List Value)(ds:List (DataW H))(ps:List MemPlace),(ts.all λt=>P.readableRec t&&decide (t<P.types.size))=true ->
  DataW.TrodAll enc P W 0 (λ_=>true) true ts vs ds ps->(∀x∈ps,x.block<W.heap.size)->DataW.TrodAll enc P W' 0 (λb=>decide (b<W.heap.size)) true ts vs ds ps
 |[],[],[],ps,_,h,_=>h
 |t::ts,v::vs,d::ds,ps,ht,h,hlt=>by
  obtain⟨p,q,h1,h2,rfl⟩:=h;simp only[List.all_cons,bn,decide_eq_true_eq]at ht;exact⟨p,q,Below.trod hl ht.1.1 ht.1.2 h1 hb (λx hx=>hlt x (List.mem_append_left _ hx)),zgp hl hb ts vs ds q ht.2 h2 (λx hx=>hlt x (List.mem_append_right _ hx)),rfl⟩
 |[],[],_::_,_,_,h,_=>h.elim
 |[],_::_,_,_,_,h,_=>h.elim
 |_::_,[],_,_,_,h,_=>h.elim
 |_::_,_::_,[],_,_,h,_=>h.elim
end
end Go.EV
