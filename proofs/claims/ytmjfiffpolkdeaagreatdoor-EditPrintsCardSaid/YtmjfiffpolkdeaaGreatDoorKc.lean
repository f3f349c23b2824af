/- texts that the proof reaches, part 3 -/
import Derived.Test.YtmjfiffpolkdeaaGreatDoorKb
import Derived.Shelf.Strings.Builder1
import Derived.Shelf.Strings.Builder2
import Derived.Shelf.Strings.OnBuilder
import Derived.Shelf.Small.Wraps
import Derived.Shelf.Strings.BuilderF
import Derived.Shelf.Strings.BuilderK
import Derived.Shelf.Utf8.RuneCount
import Derived.Shelf.Strings.Builder2Cap
import Derived.Shelf.Strconv.Itoa0
import Derived.Shelf.Strconv.Itoa1
import Derived.Shelf.LaysM
import Derived.Shelf.Strconv.Itoa2
import Derived.Shelf.Strconv.Itoa3
import Derived.Shelf.Strings.Search1
import Derived.Shelf.Strings.Search2
import Derived.Shelf.Strings.Search3
import Derived.Shelf.Strings.Count
import Derived.Shelf.Strings.Shaped
import Derived.Shelf.Strings.Prefix
import Derived.Shelf.Strings.Split
import Derived.Shelf.Strings.Fields
import Derived.Shelf.Strings.Replace
import Derived.Shelf.Strings.SplitShaped
import Derived.Shelf.Unicode.Latin
import Derived.Shelf.Unicode.Decode
import Derived.Shelf.Strings.RuneCount
import Derived.Shelf.Unicode.DecodeSlow
import Derived.Shelf.Unicode.DecodeAny
import Derived.Shelf.Unicode.Is16White
import Derived.Shelf.Unicode.IsSpaceAny
import Derived.Shelf.Unicode.Is16WhiteD
import Derived.Shelf.Unicode.Is16Any
import Derived.Shelf.Unicode.Is32Any
import Derived.Shelf.Unicode.ExclAny
import Derived.Shelf.Slices.Turned
import Derived.Shelf.Slices.Equal
import Derived.Ground.Names2Prog
import Derived.Shelf.Slices.Clone
import Derived.Shelf.Slices.SearchI
import Derived.Shelf.Slices.Empties2
import Derived.Ground.SlgnProg
import Derived.Shelf.SlicesE.Clone
import Derived.ProofKit
import Derived.Deep.Fields
import Derived.ChangeSame
import Derived.LaidMore
import Derived.OpenShut
import Derived.Lib.SmallJoins
set_option linter.all false
open Bool renaming false->bd,true->bg,not_eq_true'->bW,false_eq_true->cr,or_eq_true->dc
open Go renaming Program->bm,Value->bu,TypeId->bA,Operand->bB,World->bE
open Go.Proofs.Tryz renaming prog->bo,underlying67->dh,underlying9->dp,underlying3->ej,underlying4->ep,underlying5->eG,underlying293->ft,underlying282->fw,underlying240->abj,underlying0->gP,underlying323->abr,underlying20->abC,underlying21->abB
open List renaming length->bf,all_eq_true->bj,mem_cons->bq,mem_append->bw,getElem?_eq_some_iff->bx,mem_map->bz,getElem?_eq_getElem->bF,mem_append_left->bI,mem_append_right->bK,length_map->bL,append_nil->bM,cons_append->bO,length_drop->bU,length_take->bX,nil_append->cl,mem_map_of_mem->cm,all_cons->cv,contains_eq_mem->cy,getElem?_map->cC,map_append->cG,take_of_length_le->cI,nodup_cons->cJ,nodup_append->cO,map->cP,map_map->cW,map_nil->cX,isEmpty->dj,drop_drop->dz,nodup_nil->dG,take_left->dO,drop_eq_nil_of_le->dP,getElem_of_mem->dS,mem_filter->dT,drop_zero->ef,isEmpty_iff->eF,drop_append->aaX,reverse_append->fU,reverse_cons->abA,take_add->abP
open Nat renaming beq->bk,zero_le->bP,ble->cw,zero_add->cA,beq_refl->cF,succ_mul->dx,ble_eq_true_of_le->ez,zero_mul->eK,sub_self->aa_,sub_zero->abz
open Option renaming some->bc,none->bh,map_eq_some_iff->cx,isSome_iff_exists->cL,map_some->cZ,bind_eq_some_iff->dy
namespace Go.EQ
open Go Go.RowKit Go.iE Go.EV
section
variable{S:lD}
def adv:A S.T->Bool
 |.rh ..=>bg
 |_=>bd
def Ta(H:AH S.T)(a:A S.T):Option (A S.T×List Nat×List (Nat×Nat)):=match a with
 |.rh sz k n=>match H.get k with
  |some (.row _ c _ _ _)=>match Bx H (.l c) (.rh sz k n)with
   |some rx=>bc (.gC (.l c) rx.x,rx.fz,rx.eq)
   |none=>bh
  |_=>bh
 |a=>bc (a,[],[])
def OQ(H:AH S.T):List (A S.T)->Option (List (A S.T)×List Nat×List (Nat×Nat))
 |[]=>bc ([],[],[])
 |a::r=>match Ta H a with
  |some (a',f,e)=>match OQ H r with
   |some (r',f',e')=>bc (a'::r',f++f',e++e')
   |none=>bh
  |none=>bh
def QO(P:bm)(E:AE S.T)(H:AH S.T)(cd:Nat->Option TC)(d t n:Nat)(parts:List (Nat×bB)):OR S:=match parts with
 |[(i,.tmp s)]=>match E.get s with
  |.ag cs=>bif cs.any adv then(match OQ H cs with
    |some (iK,fz,eq)=>match kK P ((s,.ag iK)::E) cd d t n [(i,.tmp s)]with
     |.one [] [] a F'=>match qL (dedup fz) H with
      |some R=>bif nodupB (dedup fz)&&F'.all (λp=>!(dedup fz).contains p.1)then .eqs eq (.one (dedup fz) [] a (F'++ny R))else .no
      |none=>.no
     |_=>.no
    |none=>.no)
   else kK P E cd d t n [(i,.tmp s)]
  |_=>kK P E cd d t n [(i,.tmp s)]
 |ps=>kK P E cd d t n ps
def zrc{H:AH S.T}{a a':A S.T}{fz:List Nat}{eq:List (Nat×Nat)}(h:Ta H a=bc (a',fz,eq))(heq:xZ eq){R:ax}(hR:RowsIn H R fz):av R a.v a'.v:=by
 unfold Ta at h;split at h
 .split at h
  .split at h
   .rename_i rx IB;cases h;have:=AV IB heq hR;simpa only[A.v]using this
   .cases h
  .cases h
 .cases h;exact .same _
def aaG{H:AH S.T}{R:ax}:∀{cs iK:List (A S.T)}{fz:List Nat}{eq:List (Nat×Nat)},OQ H cs=bc (iK,fz,eq)->xZ eq->RowsIn H R fz->jT R (A.vs cs) (A.vs iK)
 |[],iK,fz,eq,h,heq,hR=>by
  cases h;simp only[A.vs];exact .nil
 |a::r,iK,fz,eq,h,heq,hR=>by
  simp only[OQ]at h;split at h
  .rename_i a' f e h1;split at h
   .rename_i r' f' e' h2;cases h;simp only[A.vs];exact .cons (zrc h1 heq.left hR.left) (aaG h2 heq.right hR.right)
   .cases h
  .cases h
def zB1{P:bm}{ρ ρ2:Env}{o:Oper}{v:V}{F0 R:ax}(h:EV.Loc P o ρ2 [] v F0)(hv:∀x∈o.op.operands,av R (a_ ρ x) (a_ ρ2 x))(hR:gD R=R)(hd:∀p∈F0,∀q∈R,p.1≠q.1):EV.Loc P o ρ R v (F0++R):=by
 intro ρr m Z w bT hs lh
 have D4:∀k t sz fz els,R.get k=bc (.row t sz fz els)->Holds m Z w k (.row t sz els.length els):=λk t sz fz els hg=>by
  have gV:=ax.get_mem hg;have h1:=hs.holds _ gV
  have:fz=els.length:=by
   rw[<- hR]at gV
   rcases kI gV with⟨k',t',iF,pq,BJ,h2,h3⟩|⟨h2,h3⟩
   .simp only[Prod.mk.injEq,Obj.row.injEq]at h3;obtain⟨_,_,_,e1,e2⟩:=h3;rw[e1,e2]
   .exact aU rfl (h3 t sz fz els)
  subst this;exact h1
 refine(h ρr m Z w (λx hx=>av.rep D4 (hv x hx) (bT x hx)) ⟨hs.frozen,λp hp=>(by cases hp),dG,λp hp=>(by cases hp)⟩ (λk hk _=>?_)).mono ?_
 .obtain⟨p,hp,rfl⟩:=bz.1 hk
  refine lh p.1 (by rw[zC];exact bI _ (ay hp)) λBZ=>?_
  obtain⟨q,hq,e⟩:=bz.1 BZ;exact hd p hp q hq e.symm
 .rintro x w' ⟨m',Z',st,hr⟩;exact⟨m',Z',Step.sv (F:=[]) (G:=R) hs st hd,hr⟩
def zmo{H:AH S.T}:∀{ks:List Nat}{R:AH S.T},qL ks H=bc R->keys (hV R)=ks
 |[],R,h=>by cases h;rfl
 |k::ks,R,h=>by
  simp only[qL]at h;split at h
  .split at h
   .rename_i o _ l hl;cases h;have:=zmo hl;simp only[hV,keys,gf,cW]at this ⊢;rw[this]
   .cases h
  .cases h
def ze0(hS:S.OK){P:bm}{E:AE S.T}{H:AH S.T}{dst:Option Tmp}{ty:bA}{pos:String}{aft:Array Edge}{gd:Option (Nat×Bool)}{cd:Nat->Option TC}{d t n:Nat}{parts:List (Nat×bB)}:(QO P E H cd d t n parts).OK P ⟨dst,.buildSlice t n parts.toArray,ty,pos,aft,gd⟩ E H:=by
 unfold QO;split
 .rename_i i s;split
  .rename_i cs hE
   cases hb:cs.any adv with
   |false=>exact qn hS
   |true =>
    simp only[aH];split
    .rename_i iK fz eq h1;have hA:=qn (P:=P) (E:=(s,.ag iK)::E) (H:=H) (dst:=dst) (ty:=ty) (pos:=pos) (aft:=aft) (gd:=gd) hS (cd:=cd) (d:=d) (t:=t) (n:=n) (parts:=[(i,.tmp s)]);split
     .rename_i a F' h2;rw[h2]at hA;split
      .rename_i R h3
       cases hc:nodupB (dedup fz)&&F'.all (λp=>!(dedup fz).contains p.1)with
       |false=>trivial
       |true =>
        simp only[bn]at hc;intro heq F R0 hF Ik;cases zm Ik;have e2:F=R:=Option.some.inj (hF.symm.trans h3);subst e2;have hl:=hA [] [] rfl rfl;rw[show hV F'++hV ([]:AH S.T)=hV F' from bM _]at hl
        have θ:∀x∈(Oper.mk dst (.buildSlice t n [(i,Operand.tmp s)].toArray) ty pos aft gd).op.operands,av (gD (hV F)) (a_ (eV E) x) (a_ (eV ((s,.ag iK)::E:AE S.T)) x):=λx hx=>by
         cases x with
         |tmp q =>
          show av _ ((eV E).get q) ((eV ((s,.ag iK)::E:AE S.T)).get q)
          rw[Jh,Jh];simp only[AE.get]
          cases hq:bk q s with
          |false=>exact .same _
          |true =>
           have:=eb hq;subst this;rw[hE];simp only[aH,A.v]
           exact .agg (aaG h1 heq λk hk e c' f' l wl hg=>by
            rw[<- jZ hS]
            exact⟨_,VG h3 k (qC hk) _ hg⟩)
         |_=>exact .same _
        have hd:∀p∈hV F',∀q∈gD (hV F),p.1≠q.1:=λp hp q hq e=>by obtain⟨p',iT,rfl⟩:=bz.1 hp;have h5:=(bj.1 hc.2) p' iT;have h6:=ay hq;rw[wu,zmo h3]at h6;simp only[bW,cy,aX]at h5;exact h5 (by rw[e];exact h6)
        have:=zAy (Fa:=[]) (R:=hV F) (F2:=gD (hV F)) rfl (zB1 (R:=gD (hV F)) hl θ oj hd)
        show EV.Loc P _ (eV E) (hV F++hV ([]:AH S.T)) a.v (hV (F'++ny F)++hV ([]:AH S.T))
        rw[show hV F++hV ([]:AH S.T)=hV F from bM _,show hV (F'++ny F)++hV ([]:AH S.T)=hV F'++hV (ny F) from(bM _).trans cG,jZ hS];exact this
      .trivial
     .trivial
    .trivial
  .exact qn hS
 .exact qn hS
abbrev ke(S:lD):=List (Nat×Ct S)
def ke.OK(P:bm):ke S->Prop
 |[]=>True
 |p::r=>(ze P p.1/\p.2.OK P p.1)/\ke.OK P r
def EU(H:AH S.T)(d f:Nat)(vs:List (A S.T)):ke S->OR S
 |[]=>.no
 |(g,c)::r=>bif bk f g then match c.call H d vs with
   |some q=>bif c.alt then q.ι (EU H d f vs r)else q
   |none=>EU H d f vs r
  else EU H d f vs r
def Lc(H:AH S.T):Option (A S.T×AH S.T)->List (Nat×Nat)
 |some (_,[(k,.row _ _ _ _ w)])=>match H.get k with
  |some (.row _ _ _ _ w0)=>[(w0.n,w.n)]
  |_=>[]
 |_=>[]
def Zb(H:AH S.T):(q:Option (A S.T×AH S.T))->(∀p∈Lc H q,p.1=p.2)->Option (A S.T×AH S.T)
 |some (a,[(k,.row e c fz l w)]),h=>match hg:H.get k with
  |some (.row _ _ _ _ w0)=>bc (a,[(k,.row e c fz l ⟨w0.n,by
    have h1:Lc H (bc (a,[(k,.row e c fz l w)]))=[(w0.n,w.n)]:=by simp only[Lc,hg]
    have h2:=h (w0.n,w.n) (by rw[h1];exact al)
    exact w.h.trans h2.symm⟩)])
  |_=>bh
 |_,_=>bh
def Tb(H:AH S.T):OR S->OR S
 |.iJ o kF kR r=>.DD o (λx=>Lc H (r x)) kF kR λx h=>Zb H (r x) h
 |.eqs l q=>.eqs l (Tb H q)
 |q=>q
def ady(b:Bool)(H:AH S.T)(q:OR S):OR S:=bif b then Tb H q else q
def zUy{H:AH S.T}{q:Option (A S.T×AH S.T)}{h:∀p∈Lc H q,p.1=p.2}{a:A S.T}{F':AH S.T}(hr:Zb H q h=bc (a,F')):∃F,q=bc (a,F)/\hV F'=hV F:=by
 unfold Zb at hr;split at hr
 .split at hr
  .cases hr;exact⟨_,rfl,rfl⟩
  .cases hr
 .cases hr
def zmp{P:bm}{o:Oper}{E:AE S.T}{H:AH S.T}:∀{q:OR S},q.OK P o E H->(Tb H q).OK P o E H
 |.iJ ..,h=>λx hx q a F' hr F R hF hR=>by
  obtain⟨G,e1,e2⟩:=zUy hr;rw[e2];exact h x hx a G e1 F R hF hR
 |.eqs l r,h=>λhe=>zmp (h he)
 |.no,h=>h
 |.one ..,h=>h
 |.alt ..,h=>h
 |.DD ..,h=>h
def zPl{P:bm}{o:Oper}{E:AE S.T}{H:AH S.T}{b:Bool}{q:OR S}(h:q.OK P o E H):(ady b H q).OK P o E H:=by
 cases b with
 |false=>exact h
 |true=>exact zmp h
def Nx(a b:A S.T)(op:BinOp):OR S:=match intOf a,intOf b with
 |some (k,m),bc (k',n)=>bif decide (k=k')then .iJ (ea (n≠0)) [] [] λ_=>bc (.gC (.i k) (match op with|.quo=>k.wrap (m.tdiv n)|_=>m.tmod n),[])else .no
 |_,_=>.no
def Zz(a b:A S.T):OR S:=match intOf a,intOf b with
 |some (k,m),bc (_,n)=>.iJ (ea (0<=n)) [] [] λ_=>bc (.gC (.i k) (k.wrap (m*2 ^ (min n.toNat k.bits))),[])
 |_,_=>.no
def ZA(a b:A S.T):OR S:=match intOf a,intOf b with
 |some (k,m),bc (_,n)=>.iJ (ea (0<=n)) [] [] λ_=>bc (.gC (.i k) (m.fdiv (2 ^ (min n.toNat k.bits))),[])
 |_,_=>.no
def Ug(P:bm)(H:AH S.T)(d s t:Nat):A S.T->OR S
 |.rh sz k n=>match H.get k with
  |some (.row _ (.i .u8) _ l w)=>bif IX P s t&&bk sz 1 then .eqs [(n,w.n)] (.one [] [k] (.gC .s (bytesOf l)) [])else .no
  |_=>.no
 |_=>.no
def XH:A S.T->Option (Nat×Nat×Nat×Nat×Nat)
 |.rh sz k n=>bc (sz,k,n,0,n)
 |.raw (.sl sz k L o n)=>bc (sz,k,L,o,n)
 |_=>bh
def zUz:Fz->Bool
 |.zero=>bg
 |_=>bd
def strOf:A S.T->Option ak
 |.gC .s ys=>bc ys
 |_=>bh
def OS(b:Bool):A S.T->OR S
 |.raw .lJ=>.one [] [] (.raw (.bool b)) []
 |.iG _ _=>.one [] [] (.raw (.bool (!b))) []
 |_=>.no
def Uh(P:bm)(H:AH S.T)(t:Nat)(x y:A S.T):OR S:=match qy P t with
 |none=>.no
 |some (e,sz,_)=>match XH x with
  |none=>.no
  |some (iF,k,L,o,n)=>match H.get k with
   |some (.row e' c fz l w)=>bif bk e e'&&(bk sz iF&&(bk sz (zH S c)&&(zUz fz&&Bh c)))then(match strOf y with
    |some ys=>if h:c=.i .u8 then .eqs [(L,w.n)] (.iJ (ea (o+n<=L)) [k] [] λ_ =>
      bc (.gC (.i .i64) ((min ys.length n:Nat):Int),[(k,.row e (.i .u8) .zero (C9 (h▸l:List ((TC.i .u8).ty S.T)) o ((ys.take (min ys.length n)).map λb=>((UInt8.toNat b:Nat):Int))) ⟨w.n,by subst h;rw[zbl];exact w.h⟩)]))else .no
    |none=>match F6 H k c y with
     |some (ys,kR,eq)=>.eqs ((L,w.n)::eq) (.iJ (ea (o+n<=L)) [k] kR λ_ =>
      bc (.gC (.i .i64) ((min ys.length n:Nat):Int),[(k,.row e c .zero (C9 l o (ys.take (min ys.length n))) ⟨w.n,by rw[zbl];exact w.h⟩)]))
     |none=>.no)else .no
   |_=>.no
def anyS:Int⊕ak->ak
 |.inr s=>s
 |.inl _=>[]
def anyI:Int⊕ak->Int
 |.inl n=>n
 |.inr _=>0
def Eu:Int⊕ak->Bool
 |.inr _=>bg
 |.inl _=>bd
def Ui(P:bm)(t:Nat):A S.T->OR S
 |.gC (.a ti ts) u=>bif bk t ts&&(!(bk ti t)&&(BA P t&&EJ P t (.string ⟨#[]⟩)))then .one [] [] (.gu [.gC .s (anyS u),.gC .b (Eu u)]) []
  else bif bk t ti&&(!(bk ts t)&&(BA P t&&EJ P t (.int .i64 0)))then .one [] [] (.gu [.gC (.i .i64) (anyI u),.gC .b (!(Eu u))]) []else .no
 |.iG t' a=>bif bk t t'&&BA P t then .one [] [] (.gu [a,.raw (.bool bg)]) []else .no
 |_=>.no
def OT(P:bm)(t n:Nat):Bool:=match oe P t with
 |some (bc m)=>bk n m
 |_=>bd
def GI(P:bm)(H:AH S.T)(t g:Nat):List Nat->OR S
 |[]=>.no
 |k::r=>match H.get k with
  |some (.rw i)=>match hg:S.gl i with
   |some (g',_,l)=>bif bk g g'&&OT P t l.length then .one [] [k] (.ag (l.map λs=>.gC .s s)) []else GI P H t g r
   |none=>GI P H t g r
  |_=>GI P H t g r
def GJ:List (A S.T)->Option (List ak)
 |[]=>bc []
 |.gC .s x::r=>match GJ r with
  |some l=>bc (x::l)
  |none=>bh
 |_=>bh
def Tc(P:bm)(t:Nat)(a i:A S.T):OR S:=match a with
 |.ag cs=>match GJ cs,intOf i with
  |some l,bc (_,n)=>bif Nw P t l.length then .iJ (idx (α:=ak) l n) [] [] λx=>bc (.gC .s x,[])else .no
  |_,_=>.no
 |a=>Tg P t a i
def KF:List V->List V->Bool
 |[],[]=>bg
 |.kq::a,.kq::b=>KF a b
 |.gR::a,.gR::b=>KF a b
 |.k_::a,.k_::b=>KF a b
 |_,_=>bd
def mkB(t:Nat)(cs:List (A S.T)):OA S.T:=match S.ga t with
 |some (i,d,Hd)=>bif KF (A.vs cs) Hd then .gn i d.1 d.2 else .box t cs
 |none=>.box t cs
def MU:OR S->OR S
 |.one kF [] a [(k,.box t cs)]=>.one kF [] a [(k,mkB t cs)]
 |q=>q
def Po(P:bm)(t:Nat)(b:Bool):A S.T->A S.T->OR S
 |.ag cs,.ag iK=>match GJ cs,GJ iK with
  |some l,bc m=>bif F7 P t l.length&&bk l.length m.length then .one [] [] (.gC .b (bif b then EV.Aa l m else !(EV.Aa l m))) []else .no
  |_,_=>.no
 |_,_=>.no
def Zc(P:bm)(T:ke S)(cd:Nat->Option TC)(E:AE S.T)(H:AH S.T)(d:Nat):Op->OR S
 |.load t (.global g)=>GI P H t g (H.map (·.1))
 |.load t x=>T9 P H t (bV E x)
 |.typeAssert x _ t bg=>Ui P t (bV E x)
 |.store t x y=>Tf P H t (bV E x) (bV E y)
 |.indexAddr t x y=>match UH P t (bV E x) (bV E y)with
  |some r=>r
  |none=>WE P t (bV E x) (bV E y)
 |.index t x y=>Tc P t (bV E x) (bV E y)
 |.slice t x lo hi bh=>Th P E t (bV E x) lo hi
 |.alloc t=>MU (Ti P d t)
 |.box t x=>MU (YM d t (bV E x))
 |.buildSlice t n ps=>QO P E H cd d t n ps.toList
 |.makeSlice t x y=>WG P E cd d t x y
 |.makeMap t bh=>bif (cd (3000000+t)).isSome then WQ P cd d t else WM P cd d t
 |.lookup t x y co=>match IM (bV E x)with
  |some k=>Xw P H t k (bV E y) co
  |none=>Xu P H t (bV E x) (bV E y) co
 |.mapUpdate t x y z=>match IM (bV E x)with
  |some k=>O1 P H t k (bV E y) (bV E z)
  |none=>KB P H t (bV E x) (bV E y) (bV E z)
 |.insert t x y z=>match IM (bV E x)with
  |some k=>O1 P H t k (bV E y) (bV E z)
  |none=>KB P H t (bV E x) (bV E y) (bV E z)
 |.call ⟨.builtin .append,⟨[x,y]⟩,⟨[t,t']⟩⟩=>OY P E H cd d t t' x y
 |.call ⟨.builtin .copy,⟨[x,y]⟩,⟨[t,_]⟩⟩=>Uh P H t (bV E x) (bV E y)
 |.call ⟨.value (.func f),l,_⟩=>ady (cd (9000000+f)).isSome H (EU H d f (l.toList.map (bV E)) T)
 |.call ⟨.value x,l,_⟩=>match bV E x with
  |.fn f a b=>EU H d f (a++l.toList.map (bV E)++b) T
  |_=>.no
 |.makeInterface t x=>bif L4 P t then .one [] [] (.iG t (bV E x)) []else .no
 |.convert s t x=>Ug P H d s t (bV E x)
 |.binOp .eql t x (.const .nilIface) _=>bif Et P t then OS bg (bV E x)else .no
 |.binOp .neq t x (.const .nilIface) _=>bif Et P t then OS bd (bV E x)else .no
 |.binOp .eql t x (.const (.map bh)) _=>Nv P H bg t (bV E x)
 |.binOp .neq t x (.const (.map bh)) _=>Nv P H bd t (bV E x)
 |.binOp .eql t x y _=>Po P t bg (bV E x) (bV E y)
 |.binOp .neq t x y _=>Po P t bd (bV E x) (bV E y)
 |.binOp .add _ x y _=>XD (bV E x) (bV E y)
 |.binOp .quo _ x y _=>Nx (bV E x) (bV E y) .quo
 |.binOp .rem _ x y _=>Nx (bV E x) (bV E y) .rem
 |.binOp .shl _ x y _=>Zz (bV E x) (bV E y)
 |.binOp .shr _ x y _=>ZA (bV E x) (bV E y)
 |_=>.no
def Db(P:bm)(T:ke S)(cd:Nat->Option TC)(E:AE S.T)(H:AH S.T)(d:Nat)(op:Op):OR S:=match T8 P E op with
 |some a=>.one [] [] a []
 |none=>Zc P T cd E H d op
def F8:A S.T->Bool
 |.nh ..=>bg
 |_=>bd
def Dv:A S.T->A S.T
 |.nh sz k n=>.rh sz k n
 |a=>a
def Bq(E:AE S.T):AE S.T:=E.map λp=>(p.1,Dv p.2)
def zU0(E:AE S.T):Bool:=E.any λp=>F8 p.2
def Uj{α:Type}:List α->Bool
 |_::_=>bg
 |[]=>bd
def Uk:A S.T->Bool
 |.raw .gR=>bg
 |_=>bd
def Ny(P:bm)(b:Bool)(t:Nat)(a y:A S.T):Option (OR S):=match a with
 |.nh _ _ n=>bif Uk y&&w8 P t .gR then bc (.one [] [] (.gC .b (bif b then decide (n=0)else !decide (n=0))) [])else bh
 |_=>bh
def XI(P:bm)(E:AE S.T)(H:AH S.T)(t t':Nat)(x y:bB):OR S:=match qy P t with
 |some (e,sz,bytes)=>bif bk t t'&&cw 1 bytes then match bV E x with
  |.nh iF k n=>match H.get k with
   |some (.row e' c fz l w)=>match F6 H k c (Dv (bV E y))with
    |some (ys,kR,eq)=>bif Uj ys&&(bk e e'&&(bk iF sz&&(bk sz (zH S c)&&Bh c)))then
      .eqs ((n,w.n)::eq) (.iJ (ea ((l++ys).length*bytes<=140737488355328)) [k] kR (λ_=>bc (.nh sz k (l++ys).length,[(k,.row e c (fz.grow l.length) (l++ys) ⟨_,rfl⟩)])))
     else .no
    |none=>.no
   |_=>.no
  |_=>.no
  else .no
 |none=>.no
def SJ(P:bm)(T:ke S)(cd:Nat->Option TC)(E:AE S.T)(H:AH S.T)(d:Nat):Op->OR S
 |.binOp .eql t x y t'=>match Ny P bg t (bV E x) (bV E y)with
  |some r=>r
  |none=>Db P T cd (Bq E) H d (.binOp .eql t x y t')
 |.binOp .neq t x y t'=>match Ny P bd t (bV E x) (bV E y)with
  |some r=>r
  |none=>Db P T cd (Bq E) H d (.binOp .neq t x y t')
 |.call ⟨.builtin .append,⟨[x,y]⟩,⟨[t,t']⟩⟩=>bif F8 (bV E x)then XI P E H t t' x y else Db P T cd (Bq E) H d (.call ⟨.builtin .append,⟨[x,y]⟩,⟨[t,t']⟩⟩)
 |.store t x y=>Db P T cd E H d (.store t x y)
 |op=>Db P T cd (Bq E) H d op
def Bc(P:bm)(T:ke S)(cd:Nat->Option TC)(E:AE S.T)(H:AH S.T)(d:Nat)(op:Op):OR S:=bif zU0 E then SJ P T cd E H d op else Db P T cd E H d op
def zIl(E:AE S.T)(t:Nat):(Bq E).get t=Dv (E.get t):=by
 induction E with
 |nil=>rfl
 |cons p r ih =>
  obtain⟨d,a⟩:=p;simp only[Bq,gf,AE.get]at ih ⊢
  cases bk t d with
  |true=>rfl
  |false=>exact ih
def zU1{v:V}:F8 (sJ (S:=S) v)=bd:=by
 cases v<;>rfl
def zU2{v:V}:F8 (Lb (S:=S) v)=bd:=by
 unfold Lb;split
 .rfl
 .exact zU1
def zIm{a:A S.T}(h:F8 a=bd):Dv a=a:=by
 cases a<;>first|rfl|cases h
def XJ(E:AE S.T)(x:bB):bV (Bq E) x=Dv (bV E x):=by
 cases x with
 |tmp t=>exact zIl E t
 |const v=>exact(zIm zU2).symm
 |global g=>rfl
 |func f=>rfl
def zB4{a:A S.T}{m:Option M}{Z:ZM}{x:bu}(h:aV m Z a.v x):aV m Z (Dv a).v x:=by
 cases a<;>first|exact h|skip
 simp only[A.v]at h;simp only[Dv,A.v];exact Vs h
def ZV{P:bm}{o:Oper}{E:AE S.T}{F F':ax}{v:V}(h:EV.Loc P o (eV (Bq E)) F v F'):EV.Loc P o (eV E) F v F':=λρr m Z w bT hs lh=>h ρr m Z w (λx hx=>by
 rw[zJ,XJ]
 exact zB4 (by rw[<- zJ];exact bT x hx)) hs lh
def QP{P:bm}{o:Oper}{E:AE S.T}{H:AH S.T}:∀{r:OR S},r.OK P o (Bq E) H->r.OK P o E H
 |.no,_=>trivial
 |.one ..,h=>λF R hF hR=>ZV (h F R hF hR)
 |.iJ ..,h=>λx hx a F' hr F R hF hR=>ZV (h x hx a F' hr F R hF hR)
 |.eqs l r,h=>λhe=>QP (h he)
 |.alt ..,h=>⟨λx hx a F' hr F R hF hR=>ZV (h.1 x hx a F' hr F R hF hR),QP h.2⟩
 |.DD ..,h=>λx hx q a F' hr F R hF hR=>ZV (h x hx q a F' hr F R hF hR)
section
variable{P:bm}{E:AE S.T}{H:AH S.T}{dst:Option Tmp}{ty:bA}{pos:String}{aft:Array Edge}{gd:Option (Nat×Bool)}
def VH(hS:S.OK){d f:Nat}{vs:List (A S.T)}{o:Oper}(hv:ze P f->GC P o (eV E) f (A.vs vs)):∀{T:ke S},ke.OK P T->(EU H d f vs T).OK P o E H
 |[],_=>trivial
 |(g,c)::r,hT=>by
  simp only[EU]
  cases hb:bk f g with
  |true =>
   have:=eb hb;subst this;rw[aH];split
   .rename_i q hq;have h1:=zPj hS hT.1.2 (hv hT.1.1) hq
    cases c.alt with
    |true=>exact ztv h1 (VH hS hv hT.2)
    |false=>exact h1
   .exact VH hS hv hT.2
  |false=>exact VH hS hv hT.2
def zB5{op:BinOp}(iS:op=.quo∨op=.rem){t t':bA}{x y:bB}:(Nx (bV E x) (bV E y) op).OK P ⟨dst,.binOp op t x y t',ty,pos,aft,gd⟩ E H:=by
 unfold Nx;split
 .rename_i k m k' n h1 h2
  cases hk:decide (k=k')with
  |false=>trivial
  |true =>
   have:=aY hk;subst this;intro u hu a F' hr F R hF hR;cases hr;cases zm hF;cases zm hR;have hn:=yD hu;have:=zOq (P:=P) (ρ:=eV E) (dst:=dst) (ty:=ty) (pos:=pos) (aft:=aft) (gd:=gd) (t:=t) (t':=t') iS (by rw[zJ];exact jX h1) (by rw[zJ];exact jX h2) hn
   rcases iS with rfl|rfl<;>exact this
 .trivial
def zPs{t t':bA}{x y:bB}:(Zz (bV E x) (bV E y)).OK P ⟨dst,.binOp .shl t x y t',ty,pos,aft,gd⟩ E H:=by
 unfold Zz;split
 .rename_i k m k' n h1 h2;intro u hu a F' hr F R hF hR;cases hr;cases zm hF;cases zm hR
  have hn:¬n<0:=by have:=yD hu;omega
  exact zmm (.inl rfl) (by rw[zJ];exact jX h1) (by rw[zJ];exact jX h2) (by simp only[Gi,hn,if_false];rfl)
 .trivial
def zPt{t t':bA}{x y:bB}:(ZA (bV E x) (bV E y)).OK P ⟨dst,.binOp .shr t x y t',ty,pos,aft,gd⟩ E H:=by
 unfold ZA;split
 .rename_i k m k' n h1 h2;intro u hu a F' hr F R hF hR;cases hr;cases zm hF;cases zm hR
  have hn:¬n<0:=by have:=yD hu;omega
  exact zmm (.inr rfl) (by rw[zJ];exact jX h1) (by rw[zJ];exact jX h2) (by simp only[Gi,hn,if_false];rfl)
 .trivial
def zIn{d s t:Nat}{x:bB}:(Ug P H d s t (bV E x)).OK P ⟨dst,.convert s t x,ty,pos,aft,gd⟩ E H:=by
 unfold Ug;split
 .rename_i sz k n e;split
  .rename_i et fz l wl hg
   cases hb:IX P s t&&bk sz 1 with
   |false=>trivial
   |true =>
    simp only[bn]at hb;have h1:=eb hb.2;subst h1;intro heq F R hF hR;have hL:n=l.length:=(heq _ (bS.2 rfl)).trans wl.h.symm;cases zm hF;cases wx hg hR;exact zl0 (l:=l) hb.1 (by rw[zJ,e];rfl) hL
  .trivial
 .trivial
def zf6{op:BinOp}{b:Bool}(iS:(op=.eql/\b=bg)∨(op=.neq/\b=bd)){t t':bA}{x:bB}(h:Et P t=bg):(OS b (bV E x)).OK P ⟨dst,.binOp op t x (.const .nilIface) t',ty,pos,aft,gd⟩ E H:=by
 unfold OS;split
 .rename_i e;intro F R hF hR;cases zm hF;cases zm hR;exact zf5 (v:=.lJ) (b:=bg) (.inl ⟨rfl,rfl⟩) (by rcases iS with⟨rfl,rfl⟩|⟨rfl,rfl⟩<;>simp) h (by rw[zJ,e];simp only[A.v])
 .rename_i tx u e;intro F R hF hR;cases zm hF;cases zm hR;exact zf5 (v:=.iG tx u.v) (b:=bd) (.inr ⟨_,_,rfl,rfl⟩) (by rcases iS with⟨rfl,rfl⟩|⟨rfl,rfl⟩<;>simp) h (by rw[zJ,e];simp only[A.v])
 .trivial
def zB6{a:A S.T}{sz k L o n:Nat}(h:XH a=bc (sz,k,L,o,n)):a.v=.sl sz k L o n:=by
 unfold XH at h;split at h
 .cases h;simp only[A.v]
 .cases h;simp only[A.v]
 .cases h
def zPu{a:A S.T}{ys:ak}(h:strOf a=bc ys):a.v=.str ys:=by
 unfold strOf at h;split at h
 .cases h;simp only[A.v,vt]
 .cases h
def zIo(hS:S.OK){t t2:Nat}{x y:bB}:(Uh P H t (bV E x) (bV E y)).OK P ⟨dst,.call ⟨.builtin .copy,#[x,y],#[t,t2]⟩,ty,pos,aft,gd⟩ E H:=by
 unfold Uh;split
 .trivial
 .rename_i e sz by_ hT;split
  .trivial
  .rename_i iF k L o n hx;split
   .rename_i e' c fz l w hg
    cases hb:bk e e'&&(bk sz iF&&(bk sz (zH S c)&&(zUz fz&&Bh c)))with
    |false=>trivial
    |true =>
     simp only[bn]at hb;obtain⟨h1,h2,h3,h4,h5⟩:=hb;have h1:=eb h1;have h2:=eb h2;have h3:=eb h3;subst h1;subst h2;subst h3
     have nt:fz=.zero:=by cases fz<;>first|rfl|cases h4
     subst nt;have M':=zB6 hx;rw[aH];split
     .rename_i ys hy;split
      .rename_i hc;subst hc;intro heq u hu a F' hr F R hF hR;have hL:L=l.length:=(heq _ (bS.2 rfl)).trans w.h.symm;cases hr;cases zm hR;cases wx hg hF;exact zqu (q:=l) hT (by rw[zJ];exact M') hL.symm (yD hu) (by rw[zJ];exact zPu hy) rfl rfl
      .trivial
     .split
      .rename_i ys kR eq hy;intro heq u hu a F' hr F R hF hR;have hL:L=l.length:=(heq _ al).trans w.h.symm;cases hr;cases wx hg hF;obtain⟨g1,g2⟩:=XE hS hy (λp hp=>heq p (gq _ hp)) hR
       have hm:∀k e,c≠.m k e:=λk e hc=>by subst hc;cases h5
       have hl:=zAx (P:=P) (ρ:=eV E) (dst:=dst) (ty:=ty) (pos:=pos) (aft:=aft) (gd:=gd) (t2:=t2) (x:=x) (y:=y) (k:=k) (R:=hV R) (AQ S c) (q:=l) (ys:=ys) hT (by rw[zJ];exact M') hL.symm (yD hu) g1 (λa=>zBc hS c a hm) (λa=>vG hS c a) (by rw[og];exact g2) rfl rfl;exact hl
      .trivial
   .trivial
def zIp(hS:S.OK){t xt:Nat}{x:bB}:(Ui P t (bV E x)).OK P ⟨dst,.typeAssert x xt t bg,ty,pos,aft,gd⟩ E H:=by
 unfold Ui;split
 .rename_i ti ts u hx
  cases h1:bk t ts&&(!(bk ti t)&&(BA P t&&EJ P t (.string ⟨#[]⟩)))with
  |true =>
   simp only[bn,bW]at h1;obtain⟨e1,e2,e3,e4⟩:=h1;have:=eb e1;subst this;intro F R hF hR;cases zm hF;cases zm hR
   cases u with
   |inr s=>exact Hs (v:=.str s) e3 (by rw[zJ,hx];rfl)
   |inl n=>exact aac (z:=.str []) (zv:=.string ⟨#[]⟩) (t':=ti) (v:=.int .i64 n) e3 e2 e4 (λ_ _=>rfl) (by rw[zJ,hx];rfl)
  |false =>
   rw[cf]
   cases h2:bk t ti&&(!(bk ts t)&&(BA P t&&EJ P t (.int .i64 0)))with
   |false=>trivial
   |true =>
    simp only[bn,bW]at h2;obtain⟨e1,e2,e3,e4⟩:=h2;have:=eb e1;subst this;intro F R hF hR;cases zm hF;cases zm hR
    cases u with
    |inl n=>exact Hs (v:=.int .i64 n) e3 (by rw[zJ,hx];rfl)
    |inr s=>exact aac (z:=.int .i64 0) (zv:=.int .i64 0) (t':=ts) (v:=.str s) e3 e2 e4 (λ_ _=>rfl) (by rw[zJ,hx];rfl)
 .rename_i t' a hx
  cases h1:bk t t'&&BA P t with
  |false=>trivial
  |true =>
   simp only[bn]at h1;have:=eb h1.1;subst this;intro F R hF hR;cases zm hF;cases zm hR;exact Hs (v:=a.v) h1.2 (by rw[zJ,hx];simp only[A.v])
 .trivial
def zxr{t n:Nat}(h:OT P t n=bg):oe P t=bc (bc n):=by
 unfold OT at h;split at h
 .rename_i m e;rw[e,eb h]
 .cases h
def zMd:∀l:List ak,A.vs (l.map λs=>A.gC (T:=S.T) .s s)=l.map V.str
 |[]=>rfl
 |s::l=>by
  show(A.gC (T:=S.T) .s s).v::A.vs (l.map λs=>A.gC (T:=S.T) .s s)=V.str s::l.map V.str
  rw[zMd l];rfl
def ZW(hS:S.OK){t g:Nat}:∀{ks:List Nat},(GI P H t g ks).OK P ⟨dst,.load t (.global g),ty,pos,aft,gd⟩ E H
 |[]=>trivial
 |k::r=>by
  unfold GI;split
  .rename_i i hk;split
   .rename_i g' u l hg
    cases hb:bk g g'&&OT P t l.length with
    |false=>exact ZW hS
    |true =>
     simp only[bn]at hb;have:=eb hb.1;subst this;obtain⟨ob,hob⟩:=hS.kg i g u l hg;intro F R hF hR;cases zm hF;cases wx hk hR;have hl:=zmk (P:=P) (ρ:=eV E) (dst:=dst) (ty:=ty) (pos:=pos) (aft:=aft) (gd:=gd) (g:=g) (k:=k) (ob:=ob) (cs:=l.map V.str) (zxr hb.2) (by rw[bL])
     show EV.Loc P _ _ [(k,S.ro i)] _ [(k,S.ro i)]
     rw[hob]
     have e:(A.ag (l.map λs=>A.gC (T:=S.T) .s s)).v=.agg (l.map V.str):=by simp only[A.v];exact aQ V.agg (zMd l)
     rw[e];exact hl
   .exact ZW hS
  .exact ZW hS
def OU:∀{cs:List (A S.T)}{l:List ak},GJ cs=bc l->A.vs cs=l.map V.str
 |[],l,h=>by cases h;rfl
 |a::r,l,h=>by
  unfold GJ at h;split at h
  .rename_i e;cases e
  .rename_i x r' e;cases e;split at h
   .rename_i l' e';cases h;simp only[A.vs,gf,OU e'];rfl
   .cases h
  .cases h
def zB7{t:Nat}{x ix:bB}:(Tc P t (bV E x) (bV E ix)).OK P ⟨dst,.index t x ix,ty,pos,aft,gd⟩ E H:=by
 unfold Tc;split
 .rename_i cs hx;split
  .rename_i l k n h1 h2
   cases hb:Nw P t l.length with
   |false=>trivial
   |true =>
    intro y hy a F' hr F R hF hR;cases hr;cases zm hF;cases zm hR;obtain⟨g1,g2,g3⟩:=V7 hy;have fZ:n.toNat<l.length:=ab;refine zml (k:=k) (i:=n) (cs:=l.map V.str) (by rw[bL];exact hb) (by rw[zJ,hx];simp only[A.v,OU h1]) (by rw[zJ];exact jX h2) g1 ?_;rw[cC,bF fZ,g3,List.getD_eq_getElem?_getD,bF fZ];rfl
  .trivial
 .exact zBi
def Ht:∀{a b:List V},KF a b=bg->a=b
 |[],[],_=>rfl
 |.kq::a,.kq::b,h=>by rw[Ht (a:=a) (b:=b) h]
 |.gR::a,.gR::b,h=>by rw[Ht (a:=a) (b:=b) h]
 |.k_::a,.k_::b,h=>by rw[Ht (a:=a) (b:=b) h]
def zIq{o:Oper}{ρ:Env}{F:ax}{v:V}{k:Nat}{o1 o2:EV.Obj}(h:EV.Loc P o ρ F v [(k,o1)])(hc:∀m Z w,Holds m Z w k o1->Holds m Z w k o2/\∀b,fD m (k,o2) b->fD m (k,o1) b):EV.Loc P o ρ F v [(k,o2)]:=by
 intro ρr m Z w bT hs iO
 refine(h ρr m Z w bT hs iO).mono λx w' ⟨m',Z',st,hr⟩=>⟨m',Z',⟨⟨st.gy.frozen,λp hp=>?_,st.gy.nodup,λp hp q hq b _ _=>?_⟩,st.mM,st.lR,st.os,st.tape,st.output,st.size,st.frame,st.keep,st.pT,λp hp b hb=>?_,st.mB⟩,hr⟩
 .cases bS.1 hp;exact(hc _ _ _ (st.gy.holds _ (bS.2 rfl))).1
 .cases bS.1 hp;cases bS.1 hq;rfl
 .cases bS.1 hp;exact st.mn _ (bS.2 rfl) b ((hc _ _ _ (st.gy.holds _ (bS.2 rfl))).2 b hb)
def zMe(hS:S.OK){o:Oper}:∀{q:OR S},q.OK P o E H->(MU q).OK P o E H:=by
 intro q h;unfold MU;split
 .rename_i kF a k t cs;intro F R hF hR;have h1:=h F R hF hR;cases zm hR;unfold mkB;split
  .rename_i i d Hd hg
   cases hb:KF (A.vs cs) Hd with
   |false=>exact h1
   |true =>
    rw[aH];have e:=Ht hb;have h2:EV.Loc P o (eV E) (hV F++[]) a.v [(k,.box t (A.vs cs))]:=h1
    show EV.Loc P o (eV E) (hV F++[]) a.v [(k,S.go i d.1 d.2)]
    rw[e]at h2
    exact zIq h2 λm Z w=>hS.adg t i d Hd hg m Z w k
  .exact h1
 .exact h
def NY{o1 o2:Oper}(hl:∀F v F',EV.Loc P o1 (eV E) F v F'->EV.Loc P o2 (eV E) F v F'):∀{r:OR S},r.OK P o1 E H->r.OK P o2 E H
 |.no,_=>trivial
 |.one ..,h=>λF R hF hR=>hl _ _ _ (h F R hF hR)
 |.iJ ..,h=>λx hx a F' hr F R hF hR=>hl _ _ _ (h x hx a F' hr F R hF hR)
 |.eqs l r,h=>λhe=>NY hl (h he)
 |.alt ..,h=>⟨λx hx a F' hr F R hF hR=>hl _ _ _ (h.1 x hx a F' hr F R hF hR),NY hl h.2⟩
 |.DD ..,h=>λx hx q a F' hr F R hF hR=>hl _ _ _ (h x hx q a F' hr F R hF hR)
def zmr{op:BinOp}{b:Bool}(iS:(op=.eql/\b=bg)∨(op=.neq/\b=bd)){t t':bA}{x y:bB}:(Po P t b (bV E x) (bV E y)).OK P ⟨dst,.binOp op t x y t',ty,pos,aft,gd⟩ E H:=by
 unfold Po;split
 .rename_i cs iK hx hy;split
  .rename_i l m h1 h2
   cases hb:F7 P t l.length&&bk l.length m.length with
   |false=>trivial
   |true =>
    simp only[bn]at hb;intro F R hF hR;cases zm hF;cases zm hR;have h:=zBz (P:=P) (ρ:=eV E) (dst:=dst) (ty:=ty) (pos:=pos) (aft:=aft) (gd:=gd) (t':=t') (op:=op) (iS.imp (·.1) (·.1)) hb.1 (eb hb.2) (by rw[zJ,hx];simp only[A.v,OU h1]) (by rw[zJ,hy];simp only[A.v,OU h2])
    rcases iS with⟨rfl,rfl⟩|⟨rfl,rfl⟩<;>exact h
  .trivial
 .trivial
def zPv(hS:S.OK){T:ke S}(hT:ke.OK P T){cd:Nat->Option TC}{d:Nat}{op:Op}:(Zc P T cd E H d op).OK P ⟨dst,op,ty,pos,aft,gd⟩ E H:=by
 unfold Zc;split
 .exact ZW hS
 .exact zH5 hS
 .exact zIp hS
 .exact zBo hS
 .split
  .rename_i r hr;exact zmi hr
  .exact zil
 .exact zB7
 .exact zBj
 .exact zMe hS zBm
 .exact zMe hS (zO8 hS)
 .exact ze0 hS
 .exact ziq hS
 .rename_i t
  cases hb:(cd (3000000+t)).isSome with
  |true=>exact zq7 hS
  |false=>exact zq2
 .split
  .rename_i k hk;exact zxo hS (Tj hk)
  .exact zxl hS
 .split
  .rename_i k hk;exact zf4 hS (Tj hk)
  .exact aao hS
 .rename_i t x y z
  have hl:∀F v F',EV.Loc P ⟨dst,.mapUpdate t x y z,ty,pos,aft,gd⟩ (eV E) F v F'->EV.Loc P ⟨dst,.insert t x y z,ty,pos,aft,gd⟩ (eV E) F v F':=λF v F' h=>h
  split
  .rename_i k hk;exact NY hl (zf4 hS (Tj hk))
  .exact NY hl (aao hS)
 .exact zf1 hS
 .exact zIo hS
 .rename_i f l ts;refine zPl (VH hS (λhb=>?_) hT);rw[<- LA];exact zxb (l:=l.toList) hb rfl
 .rename_i x l ts _;split
  .rename_i f a b hx;refine VH hS (λhb=>?_) hT;rw[Jg,Jg,<- LA];exact zAs (l:=l.toList) hb (by rw[zJ,hx];simp only[A.v]) rfl
  .trivial
 .rename_i t x
  cases hb:L4 P t with
  |false=>trivial
  |true =>
   intro F R hF hR;cases zm hF;cases zm hR;have:=zq9 (P:=P) (ρ:=eV E) (dst:=dst) (ty:=ty) (pos:=pos) (aft:=aft) (gd:=gd) (x:=x) hb rfl;rw[zJ]at this;simpa[hV,A.v]using this
 .exact zIn
 .rename_i t x t'
  cases hb:Et P t with
  |true=>exact zf6 (.inl ⟨rfl,rfl⟩) hb
  |false=>trivial
 .rename_i t x t'
  cases hb:Et P t with
  |true=>exact zf6 (.inr ⟨rfl,rfl⟩) hb
  |false=>trivial
 .exact zBx hS (.inl ⟨rfl,rfl⟩)
 .exact zBx hS (.inr ⟨rfl,rfl⟩)
 .exact zmr (.inl ⟨rfl,rfl⟩)
 .exact zmr (.inr ⟨rfl,rfl⟩)
 .exact zxi
 .exact zB5 (.inl rfl)
 .exact zB5 (.inr rfl)
 .exact zPs
 .exact zPt
 .trivial
def zB8{op:BinOp}{b:Bool}(iS:(op=.eql/\b=bg)∨(op=.neq/\b=bd)){t t':bA}{x y:bB}{r:OR S}(h:Ny P b t (bV E x) (bV E y)=bc r):r.OK P ⟨dst,.binOp op t x y t',ty,pos,aft,gd⟩ E H:=by
 unfold Ny at h;split at h
 .rename_i sz k n e
  cases hb:Uk (bV E y)&&w8 P t .gR with
  |false=>rw[hb]at h;cases h
  |true =>
   rw[hb]at h;simp only[bn]at hb;simp only[aH,Option.some.injEq]at h;subst h
   have ey:bV E y=.raw .gR:=by
    have:=hb.1;unfold Uk at this;split at this
    .assumption
    .cases this
   intro F R hF hR;cases zm hF;cases zm hR;intro ρr m Z w bT hs _;have hX:=bT x (by simp[Op.operands]);have hY:=bT y (by simp[Op.operands]);rw[zJ,e]at hX;rw[zJ,ey]at hY;simp only[A.v]at hX hY
   have hv:∃u,aV (bc m) Z u (ev ρr x)/\Zo P t u .gR=bc (decide (n=0)):=by
    cases n with
    |zero =>
     obtain⟨f,hf,loc,h1,h2,h3,⟨h4,_⟩|⟨_,_,h4⟩⟩:=hX
     .exact aU rfl h4
     .exact⟨.gR,h4,by simp[Zo,hb.2,Gj,Cd]⟩
    |succ n=>exact⟨.sl sz k (n+1) 0 (n+1),Vs hX,by simp[Zo,hb.2,Gj,Cd]⟩
   obtain⟨u,hu,hq⟩:=hv;have hr:=(AT (P:=P) (w:=w) (dst:=dst) (t':=t') (ty:=ty) (pos:=pos) (aft:=aft) (gd:=gd) hu hY hq).1
   rcases iS with⟨rfl,rfl⟩|⟨rfl,rfl⟩
   .exact⟨rfl,.inl ⟨_,w,hr.1,m,Z,Step.refl hs,rfl⟩⟩
   .exact⟨rfl,.inl ⟨_,w,hr.2,m,Z,Step.refl hs,rfl⟩⟩
 .cases h
def zU3{o:Oper}{ρ:Env}{F F':ax}{sz k n:Nat}(hn:n≠0)(h:EV.Loc P o ρ F (.sl sz k n 0 n) F'):EV.Loc P o ρ F (.gv k (C' sz n)) F':=λρr m Z w bT hs lh=>by refine(h ρr m Z w bT hs lh).mono ?_;rintro x w' ⟨m',Z',st,hr⟩;exact⟨m',Z',st,zw5 hn hr⟩
def zxs(hS:S.OK){t t':Nat}{x y:bB}:(XI P E H t t' x y).OK P ⟨dst,.call ⟨.builtin .append,#[x,y],#[t,t']⟩,ty,pos,aft,gd⟩ E H:=by
 unfold XI;have hA:=QP (zf1 (P:=P) (E:=Bq E) (H:=H) (dst:=dst) (ty:=ty) (pos:=pos) (aft:=aft) (gd:=gd) hS (cd:=λ_=>bh) (d:=0) (t:=t) (t':=t') (x:=x) (y:=y));unfold OY at hA;split
 .rename_i e sz bytes h1;rw[h1]at hA;dsimp only at hA
  cases mV:bk t t'&&cw 1 bytes with
  |false=>trivial
  |true =>
   rw[mV]at hA;simp only[aH]at hA ⊢;split
   .rename_i iF k n e1;rw[XJ,e1]at hA;simp only[Dv]at hA;split
    .rename_i e' c fz l wl hg;rw[hg]at hA;dsimp only at hA;split
     .rename_i ys kR eq h2;rw[XJ,h2]at hA;dsimp only at hA
      cases hb:Uj ys&&(bk e e'&&(bk iF sz&&(bk sz (zH S c)&&Bh c)))with
      |false=>trivial
      |true =>
       simp only[bn]at hb
       have lj:(bk e e'&&(bk iF sz&&(bk sz (zH S c)&&Bh c)))=bg:=by simp only[bn];exact hb.2
       rw[lj]at hA;simp only[aH]at hA ⊢;intro heq u hu a F' hr F R hF hR;cases hr;have:=hA heq u hu _ _ rfl F R hF hR;simp only[A.v]at this ⊢;refine zU3 (λh0=>?_) this;have h3:=hb.1;unfold Uj at h3;split at h3
       .simp at h0
       .cases h3
     .trivial
    .trivial
   .trivial
 .trivial
def WI(hS:S.OK){T:ke S}(hT:ke.OK P T){cd:Nat->Option TC}{o:Oper}{d:Nat}:(Db P T cd E H d o.op).OK P o E H:=by
 obtain⟨dst,op,ty,pos,aft,gd⟩:=o;unfold Db;split
 .rename_i a ha;intro F R hF hR;cases zm hF;cases zm hR;exact zHl (zO6 hS ha)
 .exact zPv hS hT
def zU4(hS:S.OK){T:ke S}(hT:ke.OK P T){cd:Nat->Option TC}{op:Op}{d:Nat}:(SJ P T cd E H d op).OK P ⟨dst,op,ty,pos,aft,gd⟩ E H:=by
 unfold SJ;split
 .rename_i t x y t';split
  .rename_i h;exact zB8 (.inl ⟨rfl,rfl⟩) h
  .exact QP (WI (o:=⟨dst,.binOp .eql t x y t',ty,pos,aft,gd⟩) hS hT)
 .rename_i t x y t';split
  .rename_i h;exact zB8 (.inr ⟨rfl,rfl⟩) h
  .exact QP (WI (o:=⟨dst,.binOp .neq t x y t',ty,pos,aft,gd⟩) hS hT)
 .rename_i x y t t'
  cases F8 (bV E x)with
  |true=>exact zxs hS
  |false=>exact QP (WI (o:=⟨dst,.call ⟨.builtin .append,⟨[x,y]⟩,⟨[t,t']⟩⟩,ty,pos,aft,gd⟩) hS hT)
 .rename_i t x y;exact WI (o:=⟨dst,.store t x y,ty,pos,aft,gd⟩) hS hT
 .exact QP (WI (o:=⟨dst,op,ty,pos,aft,gd⟩) hS hT)
def zMf(hS:S.OK){T:ke S}(hT:ke.OK P T){cd:Nat->Option TC}{o:Oper}{d:Nat}:(Bc P T cd E H d o.op).OK P o E H:=by
 unfold Bc
 cases hb:zU0 E with
 |false=>exact WI hS hT
 |true=>exact zU4 hS hT
end
abbrev o4(S:lD)(pc:List TC):=List (Nat×lC S pc)
def o4.OK{pc:List TC}(P:bm)(pv:HL S.T pc->bu):o4 S pc->Prop
 |[]=>True
 |p::r=>(ze P p.1/\p.2.OK P pv p.1)/\o4.OK P pv r
def nQ(pt:Tp)(pc:List TC)(q:HL S.T pc):bu:=Es (pt.put (S:=S) [] (yP pc q)).v
def Zu(pt:Tp)(pc:List TC):A S.T->Option (HL S.T pc)
 |.iG t a=>match pt.read (S:=S) [] bg [] (.iG t a)with
  |some rd=>bif pt.names.isEmpty&&(EI a.v&&(nodupB (rd.ps.map (·.1))&&(rd.ps.all (λp=>cw (p.1+1) pc.length)&&(rd.ns.isEmpty&&rd.eq.isEmpty))))then Bz rd.ps 0 pc else bh
  |none=>bh
 |_=>bh
def Qj{pc:List TC}(H:AH S.T)(f:Nat)(vs:List (A S.T)):o4 S pc->Option (uh S pc)
 |[]=>bh
 |(g,c)::r=>bif bk f g then(match c.MT H vs with
   |some t=>bc t
   |none=>Qj H f vs r)else Qj H f vs r
inductive ac'(S:lD)(pc:List TC) where
 |none
 |op (q:HL S.T pc)
 |call (t:uh S pc)
def J_{pc:List TC}:Option (uh S pc)->ac' S pc
 |some t=>.call t
 |none=>.none
def F9{pc:List TC}(TP:o4 S pc)(pt:Tp)(E:AE S.T)(H:AH S.T):Op->ac' S pc
 |.panic x=>match Zu pt pc (bV E x)with
  |some q=>.op q
  |none=>.none
 |.call ⟨.value (.func f),l,_⟩=>J_ (Qj H f (l.toList.map (bV E)) TP)
 |.call ⟨.value x,l,_⟩=>match bV E x with
  |.fn f a b=>J_ (Qj H f (a++l.toList.map (bV E)++b) TP)
  |_=>.none
 |_=>.none
section
variable{P:bm}{E:AE S.T}{H:AH S.T}{dst:Option Tmp}{ty:bA}{pos:String}{aft:Array Edge}{gd:Option (Nat×Bool)}
def zxt{f:FuncId}{l:List bB}{ts:Array bA}{vs:List V}(hf:ze P f)(he:l.map (a_ (eV E))=vs):NW P ⟨dst,.call ⟨.value (.func f),l.toArray,ts⟩,ty,pos,aft,gd⟩ (eV E) f vs:=λρr m Z w bT=>by subst he;exact⟨_,zG.tmps (ρ:=eV E) l λx hx=>bT x (by simp[Op.operands,Call.operands,hx]),rfl,ztc _ hf rfl⟩
def zB9{f:FuncId}{l:List bB}{ts:Array bA}{vs first caps:List V}{x:bB}(hf:ze P f)(hx:a_ (eV E) x=.fn f first caps)(he:first++l.map (a_ (eV E))++caps=vs):NW P ⟨dst,.call ⟨.value x,l.toArray,ts⟩,ty,pos,aft,gd⟩ (eV E) f vs:=λρr m Z w bT=>by subst he;have h:=bT x (by simp[Op.operands,Call.operands]);rw[hx]at h;obtain⟨l1,l2,e,h1,h2⟩:=h;exact⟨l1++l.map (ev ρr)++l2,(h1.append (zG.tmps (ρ:=eV E) l λx hx=>bT x (by simp[Op.operands,Call.operands,hx]))).append h2,rfl,zlx e hf⟩
def ZX{pc:List TC}{f:Nat}{vs:List (A S.T)}{t:uh S pc}{pv:HL S.T pc->bu}:∀{TP:o4 S pc},o4.OK P pv TP->Qj H f vs TP=bc t->∃c:lC S pc,ze P f/\c.OK P pv f/\c.MT H vs=bc t
 |[],_,h=>by cases h
 |(g,c)::r,hT,h=>by
  simp only[Qj]at h
  cases hb:bk f g with
  |true =>
   have:=eb hb;subst this;rw[hb,aH]at h;split at h
   .rename_i t' ht;cases h;exact⟨c,hT.1.1,hT.1.2,ht⟩
   .exact ZX hT.2 h
  |false=>rw[hb]at h;exact ZX hT.2 h
def zms{pc:List TC}{x:Option (uh S pc)}{t:uh S pc}(h:J_ x=.call t):x=bc t:=by
 cases x with
 |none=>cases h
 |some y=>cases h;rfl
def zmt(hS:S.OK){pc:List TC}{TP:o4 S pc}{pt:Tp}{pv:HL S.T pc->bu}(hT:o4.OK P pv TP){op:Op}{t:uh S pc}(h:F9 TP pt E H op=.call t){q:HL S.T pc}(hq:t.o=bc q)(heq:xZ t.eqs):
  ∀F R,qL t.kF H=bc F->qL t.kR H=bc R->Cg P ⟨dst,op,ty,pos,aft,gd⟩ (eV E) (hV F++hV R) (pv q):=by
 unfold F9 at h;split at h
 .split at h<;>cases h
 .rename_i f l ts;obtain⟨c,h1,h2,h3⟩:=ZX hT (zms h);exact zMa hS h2 (zxt (l:=l.toList) h1 (by rw[LA])) h3 hq heq
 .rename_i x l ts _;split at h
  .rename_i f a b hx;obtain⟨c,h1,h2,h3⟩:=ZX hT (zms h);exact zMa hS h2 (zB9 (l:=l.toList) (first:=A.vs a) (caps:=A.vs b) h1 (by rw[zJ,hx];simp only[A.v]) (by rw[Jg,Jg,LA])) h3 hq heq
  .cases h
 .cases h
def zPw(hS:S.OK){pt:Tp}{pc:List TC}{a:A S.T}{q:HL S.T pc}(h:Zu pt pc a=bc q):∃t v,a.v=.iG t v/\EI v=bg/\Es (.iG t v)=nQ pt pc q:=by
 unfold Zu at h;split at h
 .rename_i t a;split at h
  .rename_i rd hr
   cases hc:pt.names.isEmpty&&(EI a.v&&(nodupB (rd.ps.map (·.1))&&(rd.ps.all (λp=>cw (p.1+1) pc.length)&&(rd.ns.isEmpty&&rd.eq.isEmpty))))with
   |false=>rw[hc]at h;cases h
   |true =>
    rw[hc,aH]at h;simp only[bn,eF]at hc;obtain⟨c1,c2,c3,c4,c5,c6⟩:=hc
    have hs:Sat (yP pc q) rd.ps:=Pn (yj c3) h λp hp=>lb ((bj.1 c4) p hp)
    have h1:=(wy (hp:=[]) (ds:=yP pc q) (σ:=id) (H:=([]:AH S.T)) hS pt (.iG t a) rd hr hs (by rw[c5];exact λp hp=>(by cases hp)) (by rw[c6];exact λp hp=>(by cases hp)) ⟨λk c j hj=>(by cases hj)⟩).1;rw[GH hS,ZT _ (by rw[ZU hS];exact c1)]at h1;exact⟨t,a.v,by simp only[A.v],c2,by rw[nQ,<- h1];simp only[A.v]⟩
  .cases h
 .cases h
end
end
mutual
def VC{σ:Nat->Nat}:∀v:V,(v.dW σ).refs=v.refs.map σ
 |.undef=>rfl
 |.no=>rfl
 |.int ..=>rfl
 |.bool _=>rfl
 |.str _=>rfl
 |.kq=>rfl
 |.ptr ..=>rfl
 |.vp ..=>rfl
 |.gR=>rfl
 |.sl ..=>rfl
 |.vs ..=>rfl
 |.fn f a b=>by simp only[V.dW,V.refs,AY a,AY b,cG]
 |.lZ=>rfl
 |.agg cs=>by simp only[V.dW,V.refs,AY cs]
 |.gu cs=>by simp only[V.dW,V.refs,AY cs]
 |.k_=>rfl
 |.mp _=>rfl
 |.lJ=>rfl
 |.iG t v=>by simp only[V.dW,V.refs,VC v]
 |.gv ..=>rfl
 |.pv _=>rfl
def AY{σ:Nat->Nat}:∀vs:List V,wi (nS σ vs)=(wi vs).map σ
 |[]=>rfl
 |v::vs=>by simp only[nS,wi,VC v,AY vs,cG]
end
def zCa{σ:Nat->Nat}(o:EV.Obj):(o.dW σ).refs=o.refs.map σ:=by
 cases o<;>simp[Obj.dW,Obj.refs,AY]
section
variable{K0:List Nat}{c:Ctx K0}{w:bE}{ρr:yC}
def zxu{m:M}{Z:ZM}{H1:ax}{σ:Nat->Nat}(sw:nodupB ((keys H1).map σ)=bg)(lk:(H1.all λp=>p.2.refs.all (keys H1).contains)=bg)(hK:∀k∈K0,k∈keys H1/\σ k=k)(SC:QI c m Z (JF σ H1) w):
  ∃mc,QI c mc Z H1 w/\∀v x,v.refs.all (keys H1).contains=bg->aV (bc m) Z (v.dW σ) x->aV (bc mc) Z v x:=by
 have hs:=SC.step.gy;have y3:∀{a b:Nat},a∈keys H1->b∈keys H1->σ a=σ b->a=b:=S8 (yj sw)
 let mc:M:=λk L=>if k∈keys H1 then m (σ k) L else bh
 have rz:∀k∈keys H1,mc k=m (σ k):=λk hk=>by funext L;simp[mc,hk]
 have E5:∀k,k ∉ keys H1->∀L,mc k L=bh:=λk hk L=>by simp[mc,hk]
 have nL:∀p∈H1,fD mc p=fD m (σ p.1,p.2.dW σ):=λp hp=>Lx (rz p.1 (ay hp))
 have gV:∀p∈H1,(σ p.1,p.2.dW σ)∈JF σ H1:=λp hp=>bz.2 ⟨p,hp,rfl⟩
 have IE:wo mc Z H1 w:=by
  refine⟨hs.frozen,λp hp=>?_,?_,λp hp q hq b h1 h2=>?_⟩
  .have hh:=hs.holds _ (gV p hp);have hk:=rz p.1 (ay hp);obtain⟨k,o⟩:=p
   cases o with
   |box t cs =>
    obtain⟨b,cur,h1,h2,h3,h4,h5⟩:=hh;refine⟨b,cur,by rw[hk];exact h1,h2,zG.sT σ cs _ (λj hj L loc e=>?_) h3,h4,by rw[hk];exact h5⟩;have:=(bj.1 lk) _ hp;have:=(bj.1 this) j hj;rw[rz j (by simpa using this)];exact e
   |row t sz fz els =>
    rcases hh with⟨h1,h2,h3,⟨b,h4⟩,h5⟩|⟨b,cap,cur,fr,h1,h2⟩
    .exact .inl ⟨h1,h2,h3,⟨b,by rw[hk];exact h4⟩,by rw[hk];exact h5⟩
    .exact .inr ⟨b,cap,cur,fr,by rw[hk];exact h1,by rw[hk];exact h2⟩
   |map l =>
    obtain⟨b,es,clock,h1,h2⟩:=hh;exact⟨b,es,clock,by rw[hk];exact h1,by rw[hk];exact h2⟩
   |kg g t cs=>exact⟨by rw[hk];exact hh.1,hh.2.1,by rw[hk];exact hh.2.2⟩
   |nest t e sz pd ls =>
    show q9 (mc k) _ _ t e sz pd ls
    rw[hk];exact hh
   |gen G =>
    show G.holds (mc k) _ _
    rw[hk];exact hh
  .have:=hs.nodup;rw[ve]at this;exact wj _ this
  .rw[nL p hp]at h1;rw[nL q hq]at h2;exact y3 (ay hp) (ay hq) (hs.nW _ (gV p hp) _ (gV q hq) b h1 h2)
 refine⟨mc,⟨⟨IE,λk L loc e=>?_,SC.step.lR,SC.step.os,SC.step.tape,SC.step.output,SC.step.size,SC.step.frame,λk hk=>(hK k (c.hk▸hk)).1,λk hk=>?_,λp hp b hb=>?_,SC.step.mB⟩,E5⟩,λv x hv hr=>?_⟩
 .by_cases hk:k∈K0
  .rw[rz k (hK k hk).1,(hK k hk).2];exact SC.step.mM k L loc e
  .rw[c.PM k hk L]at e;cases e
 .funext L
  rw[E5 k hk L,c.PM k (λh=>hk (hK k h).1) L]
 .rw[nL p hp]at hb;exact SC.step.mn _ (gV p hp) b hb
 .refine aV.sT σ v x (λk hk L loc e=>?_) hr;have:=(bj.1 hv) k hk;rw[rz k (by simpa using this)];exact e
def ahD{ρ lS:Env}{H H1 F:ax}{σ:Nat->Nat}(fz:List Nat)(nt:nodupB fz=bg)(hF:ua fz H=bc F)
  (na:ua ((keys H1).map σ) H=bc (JF σ H1)) (Y4:∀k∈(keys H1).map σ,k ∉ fz) (sw:nodupB ((keys H1).map σ)=bg)
  (lk:(H1.all λp=>p.2.refs.all (keys H1).contains)=bg) (hK:∀k∈K0,k∈keys H1/\σ k=k)
  (hv:∀t,lS.get t=.undef∨(lS.get t).refs.all (keys H1).contains=bg/\av (gD F) (ρ.get t) ((lS.get t).dW σ)):Cut K0 ρ H lS H1:=by
 intro c ρr w S;obtain⟨m,Z,SC,hr⟩:=S.freeze fz nt hF
 have lH:keys (gD F)=fz:=by rw[wu];exact(xd hF).1
 have mF:=SC.step.gy.nodup
 have ahG:∀k t sz f els,(gD F).get k=bc (.row t sz f els)->Holds m Z w k (.row t sz els.length els):=λk t sz f els hg=>by
  have gV:=ax.get_mem hg;have h1:=SC.step.gy.holds _ (bI _ gV)
  have:f=els.length:=by
   rcases kI gV with⟨k',agV,iF,pq,BJ,h2,h3⟩|⟨h2,h3⟩
   .simp only[Prod.mk.injEq,Obj.row.injEq]at h3;obtain⟨_,_,_,e1,e2⟩:=h3;rw[e1,e2]
   .exact aU rfl (h3 t sz f els)
  subst this;exact h1
 have akc:ua ((keys H1).map σ) (gD F++qw fz H)=bc (JF σ H1):=by
  rw[<- na];clear na sw;generalize (keys H1).map σ=l at Y4
  induction l with
  |nil=>rfl
  |cons k l ih =>
   have hk:=Y4 k al
   have e:(gD F++qw fz H).get k=H.get k:=by rw[get_append,aO (by rw[lH];exact hk),QK hk]
   simp only[ua,e,ih λj hj=>Y4 j (gq _ hj)]
 obtain⟨m',MR,hc⟩:=SC.cut _ akc sw (bj.2 λk hk=>by
   obtain⟨h1,h2⟩:=hK k hk;simp only[cy,aW]
   exact bz.2 ⟨k,h1,h2⟩) (bj.2 λp hp=>by
   obtain⟨q,hq,rfl⟩:=bz.1 hp
   refine bj.2 λj hj=>?_
   simp only[zCa]at hj;obtain⟨i,hi,rfl⟩:=bz.1 hj;have:=(bj.1 ((bj.1 lk) q hq)) i hi;simp only[cy,aW]at this ⊢
   exact cm this)
 obtain⟨mc,afX,Iq⟩:=zxu sw lk hK MR;refine⟨mc,Z,afX,λt=>?_⟩
 rcases hv t with h|⟨h1,h2⟩
 .rw[h];trivial
 .refine Iq _ _ h1 (hc _ _ (bj.2 λj hj=>?_) (h2.rep ahG (hr t)));rw[VC]at hj;obtain⟨i,hi,rfl⟩:=bz.1 hj;have:=(bj.1 h1) i hi;simp only[cy,aW]at this ⊢;exact cm this
end
section
variable{S:lD}
structure GR(S:lD)(vs:List TC) where
 caps:List (Nat×Dy S.T)
 v:HL S.T vs
 eq:List (Nat×Nat)
def Tm.tO(T:Tm)(K0:List Nat)(ns:List (Nat×Nat))(nws:List (Nat×Dy S.T))(fz:List Nat)(R:AH S.T):Bool:=
 nodupB (nws.map (·.1))&&(nws.all (λp=>cw (p.1+1) (T.cs.length+T.vs.length))&&(ns.all (λp=>bk (iy ns p.1) p.2)&&(nodupB (T.hp.map λp=>iy ns p.1) &&
  (qN (T.sl.map (·.2)) T.hp&&(K0.all (λk=>(T.hp.map (·.1)).contains k&&bk (iy ns k) k)&&(R.all (λp=>Zw p.2)&&(nodupB fz&&(T.hp.map λp=>iy ns p.1).all λk=>!fz.contains k)))))))
def Tm.get(T:Tm)(K0:List Nat)(E:AE S.T)(H:AH S.T):Option (GR S T.vs):=match Tp.reads T.hp bd H (T.sl.map (·.2)) (T.sl.map λp=>E.get p.1)with
 |none=>bh
 |some r1=>match By T.hp H (r1.ns++K0.map λk=>(k,k)) T.hp with
  |none=>bh
  |some r2=>match Bz ((r1.app r2).ps.filter λp=>cw T.cs.length p.1) T.cs.length T.vs,qL (dedup r1.fz) H with
   |some v,bc R=>match qL (T.hp.map λp=>iy (r1.ns++(K0.map λk=>(k,k))++r2.ns) p.1) H with
    |some _=>bif T.tO K0 (r1.ns++(K0.map λk=>(k,k))++r2.ns) ((r1.app r2).ps.filter λp=>cw T.cs.length p.1) (dedup r1.fz) R then bc ⟨(r1.app r2).ps.filter λp=>!Nat.ble T.cs.length p.1,v,(r1.app r2).eq⟩else bh
    |none=>bh
   |_,_=>bh
def Tm.nk(T:Tm)(x:HL S.T T.cs)(v:HL S.T T.vs):AE S.T:=pP T.hp T.sl (yP T.cs x++yP T.vs v)
def Tm.mR(T:Tm)(x:HL S.T T.cs)(v:HL S.T T.vs):AH S.T:=oY T.hp (yP T.cs x++yP T.vs v)
def vf:∀{ks:List Nat}{H F:AH S.T},qL ks H=bc F->ua ks (hV H)=bc (hV F)
 |[],H,F,h=>by cases h;rfl
 |k::r,H,F,h=>by
  simp only[qL]at h;split at h
  .rename_i o ho;split at h
   .rename_i F' BR;cases h;simp only[ua,JI,ho,cZ,vf BR];rfl
   .cases h
  .cases h
def zCb{a b:List (Dy S.T)}{j:Nat}{c:TC}(h:j<a.length):WC (a++b) j c=WC a j c:=by unfold WC;rw[List.getElem?_append_left h]
def zt6{hp:List (Nat×TO)}{ds:List (Dy S.T)}{t:Nat}:∀{sl:List (Nat×Tp)},(pP (S:=S) hp sl ds).get t=.raw .undef∨∃tp,(t,tp)∈sl/\(pP (S:=S) hp sl ds).get t=tp.put hp ds
 |[]=>.inl rfl
 |(d,tp)::r=>by
  simp only[pP,gf,AE.get]
  cases hb:bk t d with
  |true =>
   have:=eb hb;subst this;exact .inr ⟨tp,al,rfl⟩
  |false =>
   rcases zt6 (hp:=hp) (ds:=ds) (t:=t) (sl:=r)with h|⟨tp',h1,h2⟩
   .exact .inl h
   .exact .inr ⟨tp',gq _ h1,h2⟩
def zmu{R:ax}{f g:Nat×Tp->V}:∀{l:List (Nat×Tp)},jT R (l.map f) (l.map g)->∀p∈l,av R (f p) (g p)
 |q::l,h,p,hp=>by
  simp only[gf]at h
  cases h with
  |cons h1 h2 =>
   rcases bq.1 hp with rfl|hp
   .exact h1
   .exact zmu h2 p hp
def Tm.acm(T:Tm)(K0:List Nat)(E:AE S.T)(H:AH S.T)(x:HL S.T T.cs)(v:HL S.T T.vs):Prop:=
 ∃g,T.get K0 E H=bc g/\xZ g.eq/\(∀p∈g.caps,p.2.2=WC (yP T.cs x) p.1 p.2.1)/\g.v=v
def zf8{k:Nat}{tp:Tp}:∀{l:List Tp},tp∈l->k∈tp.names->k∈Tp.tN l
 |t::r,h,hk=>by
  simp only[Tp.tN]
  rcases bq.1 h with rfl|h
  .exact bI _ hk
  .exact bK _ (zf8 h hk)
def zt7{σ:Nat->Nat}:∀l:List (A S.T),A.pV σ l=l.map (A.dW σ)
 |[]=>by simp only[A.pV,cX]
 |a::r=>by rw[A.pV,zt7 r,gf]
def Ab{hp:List (Nat×TO)}{ds:List (Dy S.T)}:∀l:List Tp,Tp.j_ hp ds l=l.map (Tp.put hp ds)
 |[]=>by simp only[Tp.j_,cX]
 |a::r=>by rw[Tp.j_,Ab r,gf]
def zPx(hS:S.OK){T:Tm}{K0:List Nat}{E:AE S.T}{H:AH S.T}{x:HL S.T T.cs}{v:HL S.T T.vs}(h:T.acm K0 E H x v):Cut K0 (eV E) (hV H) (eV (T.nk x v)) (hV (T.mR x v)):=by
 obtain⟨g,h,heq,Mo,rfl⟩:=h;unfold Tm.get at h;split at h
 .cases h
 .rename_i r1 g1;split at h
  .cases h
  .rename_i r2 g2;split at h
   .rename_i v R g3 g4;split at h
    .rename_i F1 g5;generalize hL:r1.ns++(K0.map λk=>(k,k))++r2.ns=L at *
     cases hb:T.tO K0 L ((r1.app r2).ps.filter λp=>cw T.cs.length p.1) (dedup r1.fz) R with
     |false=>rw[hb]at h;cases h
     |true =>
      rw[hb]at h;cases h;simp only[Tm.tO,bn]at hb;obtain⟨b1,b2,b3,b4,b5,b6,b7,b8,b9⟩:=hb;generalize ru:yP T.cs x++yP T.vs v=ds at *;have hlen:(yP T.cs x).length=T.cs.length:=ztr ..
      have hs:Sat ds (r1.app r2).ps:=λp hp=>by
       cases hq:cw T.cs.length p.1 with
       |false =>
        have h1:=Mo p (dT.2 ⟨hp,by rw[hq];rfl⟩)
        have fZ:p.1<T.cs.length:=Nat.lt_of_not_le λh2=>by rw[ez h2]at hq;cases hq
        rw[h1,<- ru];exact zCb (by rw[hlen];exact fZ)
       |true =>
        have It:=lb hq;have hm:p∈(r1.app r2).ps.filter (λp=>cw T.cs.length p.1):=dT.2 ⟨hp,hq⟩;have fZ:=lb ((bj.1 b2) p hm);have:=UG (yj b1) T.vs T.cs.length v g3 p.1 p.2 hm It ab;rw[<- ru];refine zBu ?_;rw[List.getElem?_append_right (by rw[hlen];exact It),hlen];exact this
      have nv:mq (iy L) L:=λp hp=>eb ((bj.1 b3) p hp)
      have mW:mq (iy L) (r1.ns++K0.map λk=>(k,k)):=by rw[<- hL]at nv ⊢;exact nv.left
      have sH:mq (iy L) r2.ns:=by rw[<- hL]at nv ⊢;exact nv.right
      have he:xZ (r1.app r2).eq:=heq;have hr:o8 T.hp ds (iy L) H:=VE g2 hs.right mW sH;obtain⟨k1,k2⟩:=VF hS g2 hs.right mW sH he.right hr F1 g5
      have tS:=uP hS (R:=hV (ny R)) _ _ r1 g1 hs.left mW.left he.left hr λk hk e c' f' l wl hg=>⟨_,VG g4 k (qC hk) _ hg⟩
      have oo:keys (hV (T.mR x v))=T.hp.map (·.1):=wO
      have fS:T.mR x v=oY T.hp ds:=by rw[<- ru];rfl
      have hsE:T.nk x v=pP T.hp T.sl ds:=by rw[<- ru];rfl
      have Y7:(keys (hV (T.mR x v))).map (iy L)=T.hp.map λp=>iy L p.1:=by rw[oo,cW];rfl
      simp only[qN,bn]at b5
      refine ahD (σ:=iy L) (F:=hV R) (dedup r1.fz) b8 (vf g4) ?_ ?_ (by rw[Y7];exact b4) ?_ ?_ λt=>?_
      .rw[Y7,vf g5,k1,fS];rfl
      .rw[Y7];intro k hk l8;have:=(bj.1 b9) k hk;simp only[bW,cy,aX]at this;exact this l8
      .rw[oo,fS]
       refine bj.2 λp hp=>?_
       simp only[hV,oY,cW,bz]at hp;obtain⟨q,hq,rfl⟩:=hp;have:=(bj.1 b5.2) q hq;obtain⟨k,o⟩:=q
       cases o with
       |box t cs=>simpa[OA.o,TO.put,Obj.refs,jY hS,TO.names]using this
       |row=>rfl
       |map=>rfl
       |rw i=>show((S.ro i).refs.all _)=bg;rw[hS.P2];rfl
       |gn i c j=>show((S.go i c (WC _ j c)).refs.all _)=bg;rw[hS.PO];rfl
      .intro k hk;have:=(bj.1 b6) k hk;simp only[bn,cy,aW]at this;rw[oo];exact⟨this.1,eb this.2⟩
      .rw[hsE];simp only[Jh]
       rcases zt6 (S:=S) (hp:=T.hp) (ds:=ds) (t:=t) (sl:=T.sl)with h|⟨tp,h1,h2⟩
       .rw[h];exact .inl rfl
       .rw[h2];refine .inr ⟨?_,?_⟩
        .rw[ZU hS,oo]
         refine bj.2 λk hk=>?_
         exact(bj.1 b5.1) k (zf8 (bz.2 ⟨_,h1,rfl⟩) hk)
        .rw[zt7,Ab,xY,xY,cW,cW,cW,cW]at tS;have:=zmu tS _ h1;simp only[Function.comp]at this;rw[GH hS]at this;rw[<- jZ hS];exact this
    .cases h
   .cases h
end
section
variable{K0:List Nat}
def JK{k k':Nat}:∀j,iy [(k,k')] j=if j=k then k' else j:=λj=>by
 simp only[iy]
 cases hb:bk j k with
 |true=>rw[aP (eb hb)];rfl
 |false=>rw[aO λe=>by subst e;rw[cF]at hb;cases hb];rfl
def Holds.dW{m m':M}{Z:ZM}{w:bE}{σ:Nat->Nat}{k:Nat}{o:EV.Obj}(hk:m' (σ k)=m k)(hr:∀j L loc,m j L=bc loc->m' (σ j) L=bc loc)(hh:Holds m Z w k o):Holds m' Z w (σ k) (o.dW σ):=by
 cases o with
 |box t cs =>
  obtain⟨b,cur,h1,h2,h3,h4,h5⟩:=hh;exact⟨b,cur,by rw[hk];exact h1,h2,zG.dW σ cs _ (λj _ L loc e=>hr j L loc e) h3,h4,by rw[hk];exact h5⟩
 |row t sz fz els =>
  rcases hh with⟨h1,h2,h3,⟨b,h4⟩,h5⟩|⟨b,cap,cur,fr,h1,h2⟩
  .exact .inl ⟨h1,h2,h3,⟨b,by rw[hk];exact h4⟩,by rw[hk];exact h5⟩
  .exact .inr ⟨b,cap,cur,fr,by rw[hk];exact h1,by rw[hk];exact h2⟩
 |map l =>
  obtain⟨b,es,clock,h1,h2⟩:=hh;exact⟨b,es,clock,by rw[hk];exact h1,by rw[hk];exact h2⟩
 |kg g t cs=>exact⟨by rw[hk];exact hh.1,hh.2.1,by rw[hk];exact hh.2.2⟩
 |nest t e sz pd ls =>
  show q9 (m' (σ k)) _ _ t e sz pd ls
  rw[hk];exact hh
 |gen G =>
  show G.holds (m' (σ k)) _ _
  rw[hk];exact hh
def zCc{σ:Nat->Nat}{t:Nat}:∀ρ:Env,Env.get (ρ.map λp=>(p.1,p.2.dW σ)) t=(ρ.get t).dW σ
 |[]=>by simp[Env.get,V.dW]
 |p::r=>by
  simp only[gf,Env.get]
  cases bk t p.1 with
  |true=>rfl
  |false=>exact zCc r
def zIs{ρ:Env}{H:ax}{k k':Nat}(hk:jW k H=bg)(me:jW k' H=bd):Cut K0 ρ H (ρ.map λp=>(p.1,p.2.dW (iy [(k,k')]))) ((k,.gen gone)::JF (iy [(k,k')]) H):=λc ρr w ⟨m,Z,SC,hR⟩=>by
 have hkm:=yK.1 hk
 have Mr:k' ∉ keys H:=λh=>by rw[yK.2 h]at me;cases me
 have g_:k≠k':=λe=>Mr (e▸hkm)
 have adO:∀L,m k' L=bh:=λL=>SC.rn k' Mr L
 let m':M:=λj L=>if j=k' then m k L else m j L
 have tU:m' k'=m k:=by funext L;simp[m']
 have sX:∀j,j≠k'->m' j=m j:=λj hj=>by funext L;simp[m',hj]
 have hr:∀j L loc,m j L=bc loc->m' (iy [(k,k')] j) L=bc loc:=λj L loc e=>by
  rw[JK];by_cases h:j=k
  .subst h;rw[aP rfl,tU];exact e
  .rw[aO h,sX j λh=>by subst h;rw[adO]at e;cases e];exact e
 have FG:∀j∈keys H,m' (iy [(k,k')] j)=m j:=λj hj=>by
  rw[JK];by_cases h:j=k
  .subst h;rw[aP rfl,tU]
  .rw[aO h,sX j λh=>by subst h;exact Mr hj]
 have y3:∀{a b:Nat},a∈keys H->b∈keys H->iy [(k,k')] a=iy [(k,k')] b->a=b:=λ{a b} ha hb e=>by
  rw[JK,JK]at e;by_cases h1:a=k<;>by_cases h2:b=k
  .rw[h1,h2]
  .rw[aP h1,aO h2]at e;subst e;exact aU hb Mr
  .rw[aO h1,aP h2]at e;subst e;exact aU ha Mr
  .rw[aO h1,aO h2]at e;exact e
 have hs:=SC.step.gy
 have Mv:k ∉ keys (JF (iy [(k,k')]) H):=λh=>by
  rw[ve]at h;obtain⟨j,hj,e⟩:=bz.1 h;rw[JK]at e;by_cases h1:j=k
  .rw[aP h1]at e;exact g_ e.symm
  .rw[aO h1]at e;exact h1 e
 have gV:∀p∈JF (iy [(k,k')]) H,∃q∈H,p=(iy [(k,k')] q.1,q.2.dW (iy [(k,k')])):=λp hp=>by obtain⟨q,hq,e⟩:=bz.1 hp;exact⟨q,hq,e.symm⟩
 have nL:∀q∈H,fD m' (iy [(k,k')] q.1,q.2.dW (iy [(k,k')]))=fD m q:=λq hq=>(Lx (FG q.1 (ay hq)).symm).symm
 have ε:∀b,fD m' (k,.gen gone) b->False:=λb h=>h
 have hin:∀j,j ∉ keys ((k,EV.Obj.gen gone)::JF (iy [(k,k')]) H)->j≠k'/\j ∉ keys H:=λj hj=>by simp only[keys,gf,bq,not_or]at hj;obtain⟨h1,h2⟩:=hj;have h2:j ∉ keys (JF (iy [(k,k')]) H):=h2;rw[ve]at h2;exact⟨λe=>h2 (bz.2 ⟨k,hkm,by rw[JK,aP rfl,e]⟩),λh=>h2 (bz.2 ⟨j,h,by rw[JK,aO h1]⟩)⟩
 refine⟨m',Z,⟨⟨⟨hs.frozen,λp hp=>?_,?_,λp hp q hq b h1 h2=>?_⟩,λj L loc e=>?_,SC.step.lR,SC.step.os,SC.step.tape,SC.step.output,SC.step.size,SC.step.frame,λj hj=>?_,λj hj=>?_,λp hp b hb=>?_,SC.step.mB⟩,λj hj L=>?_⟩,λt=>?_⟩
 .rcases bq.1 hp with rfl|hp
  .exact trivial
  .obtain⟨q,hq,rfl⟩:=gV p hp;exact Holds.dW (FG q.1 (ay hq)) hr (hs.holds q hq)
 .show(k::keys (JF (iy [(k,k')]) H)).Nodup
  refine cJ.2 ⟨Mv,?_⟩;rw[ve];have hn:=hs.nodup
  have:∀l:List Nat,l.Nodup->(∀j∈l,j∈keys H)->(l.map (iy [(k,k')])).Nodup:=λl=>by
   induction l with
   |nil=>intro _ _;exact dG
   |cons a l ih =>
    intro h1 h2;rw[cJ]at h1;rw[gf,cJ];refine⟨λh=>?_,ih h1.2 λj hj=>h2 j (gq _ hj)⟩;obtain⟨b,hb,e⟩:=bz.1 h;have:=y3 (h2 b (gq _ hb)) (h2 a al) e;subst this;exact h1.1 hb
  exact this _ hn λ_ h=>h
 .rcases bq.1 hp with rfl|hp<;>rcases bq.1 hq with rfl|hq
  .rfl
  .exact(ε b h1).elim
  .exact(ε b h2).elim
  .obtain⟨p',iT,rfl⟩:=gV p hp;obtain⟨q',mf,rfl⟩:=gV q hq;rw[nL p' iT]at h1;rw[nL q' mf]at h2;rw[show p'.1=q'.1 from hs.nW p' iT q' mf b h1 h2]
 .have h1:=SC.step.mM j L loc e
  show m' j L=bc loc
  rw[sX j λh=>by subst h;rw[adO]at h1;cases h1];exact h1
 .have h1:=SC.step.keep j hj;simp only[keys,gf,bq];by_cases h:j=k
  .exact .inl h
  .right
   show j∈keys (JF (iy [(k,k')]) H)
   rw[ve];exact bz.2 ⟨j,h1,by rw[JK,aO h]⟩
 .obtain⟨h1,h2⟩:=hin j hj;rw[sX j h1];exact SC.step.pT j h2
 .rcases bq.1 hp with rfl|hp
  .exact(ε b hb).elim
  .obtain⟨q,hq,rfl⟩:=gV p hp;rw[nL q hq]at hb;exact SC.step.mn q hq b hb
 .obtain⟨h1,h2⟩:=hin j hj;rw[sX j h1];exact SC.rn j h2 L
 .rw[zCc];exact aV.dW _ _ _ (λj _ L loc e=>hr j L loc e) (hR t)
end
section
variable{S:lD}{K0:List Nat}
def AE.dW(σ:Nat->Nat)(E:AE S.T):AE S.T:=E.map λp=>(p.1,p.2.dW σ)
def zU6:OA S.T->Bool
 |.rw 0=>bg
 |_=>bd
def NZ:List (Nat×TO)->List Nat
 |[]=>[]
 |(k,.rw 0)::r=>k::NZ r
 |_::r=>NZ r
def EW:List Nat->AE S.T->AH S.T->AE S.T×AH S.T
 |[],E,H=>(E,H)
 |k::r,E,H=>match H.get k with
  |none=>EW r E H
  | some o=>bif zU6 o||H.has (6000000+k)then EW r E H else EW r (AE.dW (iy [(k,6000000+k)]) E) ((k,.rw 0)::IN (iy [(k,6000000+k)]) H)
def AH.akH{H:AH S.T}{k:Nat}{o:OA S.T}(h:H.get k=bc o):H.has k=bg:=by
 induction H with
 |nil=>cases h
 |cons p r ih =>
  obtain⟨d,a⟩:=p;simp only[AH.get,AH.has]at h ⊢
  cases hb:bk k d with
  |true=>rfl
  |false=>rw[hb]at h;exact ih h
def VI(hS:S.OK):∀(l:List Nat)(E:AE S.T)(H:AH S.T),Cut K0 (eV E) (hV H) (eV (EW l E H).1) (hV (EW l E H).2)
 |[],E,H=>Cut.refl
 |k::r,E,H=>by
  unfold EW;split
  .exact VI hS r E H
  .rename_i o ho
   cases hb:zU6 o||H.has (6000000+k)with
   |true=>exact VI hS r E H
   |false =>
    simp only[Bool.or_eq_false_iff]at hb;refine Cut.trans ?_ (VI hS r _ _);have:=zIs (K0:=K0) (ρ:=eV E) (H:=hV H) (k:=k) (k':=6000000+k) (by rw[og];exact AH.akH ho) (by rw[og];exact hb.2)
    have e1:eV (AE.dW (iy [(k,6000000+k)]) E)=(eV E).map λp=>(p.1,p.2.dW (iy [(k,6000000+k)])):=by simp only[eV,AE.dW,cW,Function.comp_def,GH hS]
    have e2:hV (((k,.rw 0)::IN (iy [(k,6000000+k)]) H):AH S.T)=(k,.gen gone)::JF (iy [(k,6000000+k)]) (hV H):=by rw[<- Uf hS];simp only[hV,gf,OA.o,hS.Nk]
    rw[e1,e2];exact this
abbrev NB:=Nat->List (Nat×Bool×Nat×TC)
def AH.rem(k:Nat)(H:AH S.T):AH S.T:=H.filter λp=>!(bk p.1 k)
def Zd:A S.T->Bool
 |.raw .gR=>bg
 |_=>bd
def rhB:A S.T->Bool
 |.raw .gR=>bg
 |.rh ..=>bg
 |.nh ..=>bg
 |_=>bd
def Nz(l:List Nat)(H:AH S.T):Option (AH S.T):=match l with
 |[]=>bc H
 |[k]=>match H.get k with
  |some o=>bc ((k,o.gD)::AH.rem k H)
  |none=>bh
 |_=>bh
def jB(H:AH S.T)(kb j:Nat):Nat:=bif H.has (1000000000000+kb*1000+j)then 1000000000500+kb*1000+j else 1000000000000+kb*1000+j
def Tl(kb j:Nat)(c:TC)(H:AH S.T):AH S.T:=match c with
 |.l (.m kc ec)=>match H.get kb with
  |some (.box t cs)=>match cs[j]? with
   |some (.raw .k_)=>bif S.om&&!(H.has (jB H kb j))then(jB H kb j,.gn 7 (.l (.m kc ec)) ([]:List (List (kc.ty S.T×ec.ty S.T))))::(kb,.box t (cs.set j (.oh (jB H kb j))))::AH.rem kb H else H
   |_=>H
  |_=>H
 |_=>H
def Tn(kb j e:Nat)(c:TC)(H:AH S.T):AH S.T:=match H.get kb with
 |some (.box t cs)=>match cs[j]? with
  |some (.raw .gR)=>bif !(H.has (jB H kb j))&&cw 1 (zH S c)then(jB H kb j,.row e c .zero [] ⟨_,rfl⟩)::(kb,.box t (cs.set j (.nh (zH S c) (jB H kb j) 0)))::AH.rem kb H else H
  |_=>H
 |_=>H
def wz(kb:Nat):List (Nat×Bool×Nat×TC)->AH S.T->AH S.T×List (Nat×Nat)
 |[],H=>(H,[])
 |(j,bg,e,c)::r,H=>bif bk e 7000000 then wz kb r (Tl kb j c H)else bif cw 8000000 e then wz kb r (Tn kb j (Nat.sub e 8000000) c H)else match H.get kb with
  |some (.box t cs)=>match cs[j]? with
   |some a=>bif Zd a&&(!(H.has (jB H kb j))&&cw 1 (zH S c))then
     wz kb r ((jB H kb j,.row e c .zero [] ⟨_,rfl⟩)::(kb,.box t (cs.set j (.rh (zH S c) (jB H kb j) 0)))::AH.rem kb H)
    else wz kb r H
   |none=>wz kb r H
  |_=>wz kb r H
 |(j,bd,_,c)::r,H=>match H.get kb with
  |some (.box t cs)=>match cs[j]? with
   |some a=>bif rhB a then(match Bx H (.l c) a with
    |some rx=>match Nz rx.fz H with
     |some H1=>match wz kb r ((kb,.box t (cs.set j (.gC (.l c) rx.x)))::AH.rem kb H1)with
      |(H',q)=>(H',rx.eq++q)
     |none=>wz kb r H
    |none=>wz kb r H)
    else wz kb r H
   |none=>wz kb r H
  |_=>wz kb r H
def oq(nb:NB):List (Nat×OA S.T)->AH S.T->AH S.T×List (Nat×Nat)
 |[],H=>(H,[])
 |(k,.box t _)::r,H=>match wz k (nb t) H with
  |(H1,q1)=>match oq nb r H1 with
   |(H2,q2)=>(H2,q1++q2)
 |(k,.row e _ _ _ _)::r,H=>bif (nb (2000000+e)).isEmpty then oq nb r H else(match Nz [k] H with
  |some H1=>oq nb r H1
  |none=>oq nb r H)
 |_::r,H=>oq nb r H
def OV(nb:NB)(H:AH S.T):AH S.T×List (Nat×Nat):=match oq nb H H with
 |(H1,q1)=>bif (nb 2000000).isEmpty then(H1,q1)else match oq nb H1 H1 with
  |(H2,q2)=>(H2,q1++q2)
def GL{k:Nat}{H:AH S.T}:hV (AH.rem k H)=qw [k] (hV H):=by
 induction H with
 |nil=>rfl
 |cons p r ih =>
  simp only[AH.rem,hV,qw,List.filter_cons,gf]at ih ⊢
  have:(![k].contains p.1)=!(bk p.1 k):=by
   simp only[List.contains_cons,List.contains_nil,Bool.or_false]
   cases hb:bk p.1 k with
   |true=>rw[eb hb];simp
   |false =>
    have:p.1≠k:=λe=>by rw[e,cF]at hb;cases hb
    simp[this]
  rw[this]
  cases bk p.1 k with
  |true=>simpa using ih
  |false=>simp only[Bool.not_false,if_true,gf,ih]
def Pp:∀(l:List (A S.T))(j:Nat)(a:A S.T),A.vs (l.set j a)=(A.vs l).set j a.v:=λl j a=>by simp only[xY,List.map_set]
def ZY{R:ax}{a b:V}(h:av R a b):∀{l:List V}{j:Nat},l[j]?=bc a->jT R l (l.set j b)
 |v::l,0,e=>by
  simp only[List.getElem?_cons_zero,Option.some.injEq]at e;subst e;exact .cons h zf0
 |v::l,j+1,e=>by simp only[List.getElem?_cons_succ]at e;exact .cons (.same _) (ZY h e)
def zxw(hS:S.OK){kb j:Nat}{c:TC}{ρ:Env}{H:AH S.T}:Cut K0 ρ (hV H) ρ (hV (Tl kb j c H)):=by
 unfold Tl;split
 .rename_i kc ec;split
  .rename_i t cs hg;split
   .rename_i ha
    cases hb:S.om&&!(H.has (jB H kb j))with
    |false=>exact Cut.refl
    |true =>
     simp only[bn,bW]at hb
     have na:ua [kb] (hV H)=bc [(kb,.box t (A.vs cs))]:=by simp only[ua,JI,hg,cZ,OA.o]
     refine zq5 kb j (jB H kb j) na (by rw[xY,cC,ha];simp only[cZ,A.v]) rfl (by rw[og];exact hb.2) ?_;have e1:=hS.DZ hb.1 kc ec [];have e2:(OA.gn 7 (.l (.m kc ec)) ([]:List (List (kc.ty S.T×ec.ty S.T))):OA S.T).o=.gen (oX []):=e1;rw[<- GL];simp only[aH,hV,gf,OA.o,Pp,A.v]at e2 ⊢;rw[e2]
   .exact Cut.refl
  .exact Cut.refl
 .exact Cut.refl
def zxx{kb j e:Nat}{c:TC}{ρ:Env}{H:AH S.T}:Cut K0 ρ (hV H) ρ (hV (Tn kb j e c H)):=by
 unfold Tn;split
 .rename_i t cs hg;split
  .rename_i ha
   cases hb:!(H.has (jB H kb j))&&cw 1 (zH S c)with
   |false=>exact Cut.refl
   |true =>
    simp only[bn,bW]at hb
    have na:ua [kb] (hV H)=bc [(kb,.box t (A.vs cs))]:=by simp only[ua,JI,hg,cZ,OA.o]
    refine zqt kb j (jB H kb j) e (zH S c) hb.2 na (by rw[xY,cC,ha];simp only[cZ,A.v]) rfl (by rw[og];exact hb.1) ?_;rw[<- GL];simp only[aH,hV,gf,OA.o,Pp,A.v,Fz.n,cX]
  .exact Cut.refl
 .exact Cut.refl
def yS(hS:S.OK){kb:Nat}:∀(l:List (Nat×Bool×Nat×TC))(ρ:Env)(H:AH S.T),xZ (wz kb l H).2->Cut K0 ρ (hV H) ρ (hV (wz kb l H).1)
 |[],ρ,H,_=>Cut.refl
 |(j,bg,e,c)::r,ρ,H,heq=>by
  unfold wz at heq ⊢
  cases h7:bk e 7000000 with
  |true =>
   rw[h7]at heq;exact(zxw hS).trans (yS hS r ρ _ heq)
  |false =>
  rw[h7]at heq;simp only[cf]at heq ⊢
  cases h8:cw 8000000 e with
  |true =>
   rw[h8]at heq;simp only[aH]at heq ⊢;exact zxx.trans (yS hS r ρ _ heq)
  |false =>
   rw[h8]at heq;simp only[cf]at heq ⊢;split at heq
   .rename_i t cs hg;split at heq
    .rename_i a ha
     cases hb:Zd a&&(!(H.has (jB H kb j))&&cw 1 (zH S c))with
     |false=>rw[hb]at heq;exact yS hS r ρ H heq
     |true =>
      rw[hb]at heq;simp only[bn,bW]at hb;obtain⟨h1,h2,h3⟩:=hb;refine Cut.trans ?_ (yS hS r ρ _ heq)
      have ha2:a=.raw .gR:=by
       unfold Zd at h1;split at h1
       .rfl
       .cases h1
      subst ha2
      have na:ua [kb] (hV H)=bc [(kb,.box t (A.vs cs))]:=by simp only[ua,JI,hg,cZ,OA.o]
      refine zxe kb j (jB H kb j) e (zH S c) h3 na (by rw[xY,cC,ha];simp only[cZ,A.v]) rfl (by rw[og];exact h2) ?_;rw[<- GL];simp only[hV,gf,OA.o,Pp,A.v,Fz.n,cX]
    .rename_i ha;exact yS hS r ρ H heq
   .rename_i hg;exact yS hS r ρ H heq
 |(j,bd,e,c)::r,ρ,H,heq=>by
  unfold wz at heq ⊢;split at heq
  .rename_i t cs hg;split at heq
   .rename_i a ha
    cases hb:rhB a with
    |false=>rw[hb]at heq;exact yS hS r ρ H heq
    |true =>
     rw[hb]at heq;simp only[aH]at heq ⊢;split at heq
     .rename_i rx IB;split at heq
      .rename_i H1 nN;have adn:xZ rx.eq:=heq.left;have ahU:=heq.right;refine Cut.trans ?_ (yS hS r ρ _ ahU)
       have l7:(A.vs cs)[j]?=bc a.v:=by rw[xY,cC,ha];rfl
       have pS:∀X:AH S.T,hV (((kb,.box t (cs.set j (.gC (.l c) rx.x)))::X):AH S.T)=(kb,.box t ((A.vs cs).set j (vt S (.l c) rx.x)))::hV X:=λX=>by simp only[hV,gf,OA.o,Pp,A.v]
       rw[pS,GL]
       have FE:(hV H).get kb=bc (.box t (A.vs cs)):=by rw[JI,hg];rfl
       unfold Nz at nN;split at nN
       .rename_i nt;cases nN;have hv:av ([]:ax) a.v (vt S (.l c) rx.x):=AV IB adn (by rw[nt];intro k hk;cases hk);exact XA [] [] FE rfl rfl (ZY hv l7) rfl
       .rename_i k nt;split at nN
        .rename_i o ho;cases nN
         have na:ua [k] (hV H)=bc (hV ([(k,o)]:AH S.T)):=by simp only[ua];rw[JI,ho];rfl
         have e1:hV (((k,o.gD)::AH.rem k H):AH S.T)=gD (hV ([(k,o)]:AH S.T))++qw [k] (hV H):=by rw[<- jZ hS,<- GL];rfl
         have hv:av (gD (hV ([(k,o)]:AH S.T))) a.v (vt S (.l c) rx.x):=AV IB adn (by
          rw[nt];intro k' me e' c' f l w lG;rw[bS.1 me,ho]at lG;cases lG;rw[<- jZ hS,bS.1 me];refine⟨l.length,?_⟩
          simp only[ny,hV,gf,cX,ax.get,cF,aH,OA.gD,OA.o,Fz.n])
         refine Cut.trans (zfs (F:=hV ([(k,o)]:AH S.T)) [k] rfl na rfl) ?_;rw[e1];by_cases mE:kb=k
         .subst mE;rw[hg]at ho;cases ho;refine XA (gD (hV ([(kb,.box t cs)]:AH S.T))) [kb] ?_ ?_ oj (ZY hv l7) rfl
          .simp only[hV,gf,cX,gD,OA.o,bO,ax.get,cF,aH]
          .simp only[hV,gf,cX,gD,OA.o,bO,ua,ax.get,cF,aH]
         .have g_:bk kb k=bd:=by
           cases h:bk kb k with
           |true=>exact aU (eb h) mE
           |false=>rfl
          have mv:keys (gD (hV ([(k,o)]:AH S.T)))=[k]:=by rw[wu];rfl
          refine XA (gD (hV ([(k,o)]:AH S.T))) [k] ?_ ?_ oj (ZY hv l7) rfl
          .rw[get_append,aO (by rw[mv];simpa using mE),QK (by simpa using mE)];exact FE
          .have:=WB (H:=gD (hV ([(k,o)]:AH S.T))++qw [k] (hV H)) (F:=gD (hV ([(k,o)]:AH S.T))) λp hp=>by
            have Iw:p.1=k:=by have:=ay hp;rw[mv]at this;exact bS.1 this
            rw[get_append,aP (by rw[mv,Iw];exact bS.2 rfl)];refine get_of_mem (by rw[mv];exact cJ.2 ⟨λh=>(by cases h),dG⟩) hp
           rw[mv]at this;exact this
        .cases nN
       .cases nN
      .rename_i nN;exact yS hS r ρ H heq
     .rename_i IB;exact yS hS r ρ H heq
   .rename_i ha;exact yS hS r ρ H heq
  .rename_i hg;exact yS hS r ρ H heq
def wX(hS:S.OK){nb:NB}:∀(l:List (Nat×OA S.T))(ρ:Env)(H:AH S.T),xZ (oq nb l H).2->Cut K0 ρ (hV H) ρ (hV (oq nb l H).1)
 |[],ρ,H,_=>Cut.refl
 |(k,.box t cs)::r,ρ,H,heq=>(yS hS _ ρ H (xZ.left (b:=(oq nb r (wz k (nb t) H).1).2) heq)).trans (wX hS r ρ _ (xZ.right (a:=(wz k (nb t) H).2) heq))
 |(k,.row e c f l w)::r,ρ,H,heq=>by
  simp only[oq]at heq ⊢
  cases hb:(nb (2000000+e)).isEmpty with
  |true =>
   rw[hb]at heq;exact wX hS r ρ H heq
  |false =>
   rw[hb]at heq;simp only[cf]at heq ⊢;split at heq
   .rename_i H1 nN;refine Cut.trans ?_ (wX hS r ρ H1 heq);simp only[Nz]at nN;split at nN
    .rename_i o ho;cases nN
     have na:ua [k] (hV H)=bc (hV ([(k,o)]:AH S.T)):=by simp only[ua];rw[JI,ho];rfl
     refine zfs (F:=hV ([(k,o)]:AH S.T)) [k] rfl na ?_;rw[<- jZ hS,<- GL];rfl
    .cases nN
   .exact wX hS r ρ H heq
 |(k,.map ..)::r,ρ,H,heq=>wX hS r ρ H heq
 |(k,.rw _)::r,ρ,H,heq=>wX hS r ρ H heq
 |(k,.gn ..)::r,ρ,H,heq=>wX hS r ρ H heq
def zri(hS:S.OK){nb:NB}(ρ:Env)(H:AH S.T)(heq:xZ (OV nb H).2):Cut K0 ρ (hV H) ρ (hV (OV nb H).1):=by
 unfold OV at heq ⊢
 cases hb:(nb 2000000).isEmpty with
 |true =>
  rw[hb]at heq;exact wX hS H ρ H heq
 |false =>rw[hb]at heq;exact(wX hS H ρ H (xZ.left (b:=(oq nb (oq nb H H).1 (oq nb H H).1).2) heq)).trans (wX hS _ ρ _ (xZ.right (a:=(oq nb H H).2) heq))
end
section
variable{S:lD}
def Ch{R:Type}(p:Pg R):List (Nat×Nat)->Pg R
 |[]=>p
 |q::l=>.pJ q.1 q.2 (Ch p l)
def J'{R:Type}(ds:List (Dy S.T))(p:Pg R):List (Nat×Dy S.T)->Pg R
 |[]=>p
 |q::l=>.pJ q.2.2 (WC ds q.1 q.2.1) (J' ds p l)
def AF{R:Type}{p:Pg R}{r:R}:∀{l:List (Nat×Nat)},(Ch p l).Is r->xZ l/\p.Is r
 |[],h=>⟨λ_ hp=>(nomatch hp),h⟩
 |q::l,h=>by obtain⟨h1,h2⟩:=Is.pJ h;obtain⟨h3,h4⟩:=AF h2;exact⟨λp hp=>(bq.1 hp).elim (λe=>e▸h1) (h3 p),h4⟩
def OW{R:Type}{ds:List (Dy S.T)}{p:Pg R}{r:R}:∀{l:List (Nat×Dy S.T)},(J' ds p l).Is r->(∀q∈l,q.2.2=WC ds q.1 q.2.1)/\p.Is r
 |[],h=>⟨λ_ hp=>(nomatch hp),h⟩
 |q::l,h=>by obtain⟨h1,h2⟩:=Is.pJ h;obtain⟨h3,h4⟩:=OW h2;exact⟨λp hp=>(bq.1 hp).elim (λe=>e▸h1) (h3 p),h4⟩
def Zx:List (Nat×TO)->Nat->Option (Nat×TC×Bool)
 |[],_=>bh
 |(k',.row e c _ fz)::r,k=>bif bk k k' then bc (e,c,fz)else Zx r k
 |_::r,k=>Zx r k
def VJ(hp:List (Nat×TO)):List (Nat×Tp)->AE S.T->AH S.T->AE S.T×AH S.T
 |[],E,H=>(E,H)
 |(t,tp)::r,E,H=>match tp with
  |.row sz k=>match E.get t with
   |.raw .gR=>match Zx hp k with
    |some (e,c,fz)=>bif !(H.has (5000000+t))&&(cw 1 sz&&bk sz (zH S c))then VJ hp r ((t,.rh sz (5000000+t) 0)::E) ((5000000+t,.row e c (bif fz then .all else .zero) [] ⟨_,rfl⟩)::H)else VJ hp r E H
    |none=>VJ hp r E H
   |_=>VJ hp r E H
  |_=>VJ hp r E H
def uQ{K0:List Nat}{hp:List (Nat×TO)}:∀(l:List (Nat×Tp))(E:AE S.T)(H:AH S.T),Cut K0 (eV E) (hV H) (eV (VJ hp l E H).1) (hV (VJ hp l E H).2)
 |[],E,H=>Cut.refl
 |(t,tp)::r,E,H=>by
  unfold VJ;split
  .rename_i sz k;split
   .rename_i hE;split
    .rename_i e c fz _
     cases hb:!(H.has (5000000+t))&&(cw 1 sz&&bk sz (zH S c))with
     |false=>exact uQ r E H
     |true =>
      simp only[bn,bW]at hb;have e1:=eb hb.2.2;subst e1;refine Cut.trans ?_ (uQ r ((t,.rh (zH S c) (5000000+t) 0)::E) ((5000000+t,.row e c (bif fz then .all else .zero) [] ⟨_,rfl⟩)::H));cases fz<;>exact zw9 t (5000000+t) e (zH S c) hb.2.1 (by rw[Jh,hE];simp only[A.v]) (by rw[og];exact hb.1)
    .exact uQ r E H
   .exact uQ r E H
  .exact uQ r E H
def tg(T:Tm)(E:AE S.T)(H:AH S.T):AE S.T×AH S.T:=match EW (NZ T.hp) E H with
 |(E',H')=>VJ T.hp T.sl E' H'
def zIv(hS:S.OK){K0:List Nat}(T:Tm)(E:AE S.T)(H:AH S.T):Cut K0 (eV E) (hV H) (eV (tg T E H).1) (hV (tg T E H).2):=(VI hS (NZ T.hp) E H).trans (uQ T.sl _ _)
def Tm.GX(T:Tm)(K0:List Nat)(E:AE S.T)(H:AH S.T)(x:HL S.T T.cs)(v:HL S.T T.vs):Prop:=T.acm K0 (tg T E H).1 (tg T E H).2 x v
def xR(hS:S.OK){T:Tm}{K0:List Nat}{E:AE S.T}{H:AH S.T}{x:HL S.T T.cs}{v:HL S.T T.vs}(h:T.GX K0 E H x v):Cut K0 (eV E) (hV H) (eV (T.nk x v)) (hV (T.mR x v)):=(zIv hS T E H).trans (zPx hS h)
def Ka{R:Type}(T:Tm)(x:HL S.T T.cs)(k:HL S.T T.vs->Pg R):Option (GR S T.vs)->Pg R
 |some g=>Ch (J' (yP T.cs x) (k g.v) g.caps) g.eq
 |none=>.fail
def pQ{R:Type}(T:Tm)(K0:List Nat)(E:AE S.T)(H:AH S.T)(x:HL S.T T.cs)(k:HL S.T T.vs->Pg R):Pg R:=match tg T E H with
 |(E',H')=>Ka T x k (T.get K0 E' H')
def kL{R:Type}{r:R}{T:Tm}{K0:List Nat}{E:AE S.T}{H:AH S.T}{x:HL S.T T.cs}{k:HL S.T T.vs->Pg R}(h:(pQ T K0 E H x k).Is r):∃v,T.GX K0 E H x v/\(k v).Is r:=by
 change (Ka T x k (T.get K0 (tg T E H).1 (tg T E H).2)).Is r at h;unfold Ka at h;split at h
 .rename_i g hg;obtain⟨h1,h2⟩:=AF h;obtain⟨h3,h4⟩:=OW h2;exact⟨g.v,⟨g,hg,h1,h3,rfl⟩,h4⟩
 .exact(Is.fail h).elim
def DX:List (Nat×Nat)->Bool
 |[]=>bg
 |p::r=>bk p.1 p.2&&DX r
def zMg:∀{l:List (Nat×Nat)},DX l=bg->xZ l
 |[],_=>λ_ h=>(by cases h)
 |p::r,h=>by
  simp only[DX,bn]at h
  exact λq hq=>(bq.1 hq).elim (λe=>e▸eb h.1) (zMg h.2 q)
def adh{R:Type}(T:Tm)(K0:List Nat)(E:AE S.T)(H:AH S.T)(x:HL S.T T.cs)(k:HL S.T T.vs->Pg R):Pg R:=match tg T E H with
 |(E',H')=>match T.get K0 E' H' with
  |some g=>.iJ (ea (DX g.eq=bg)) λ_=>J' (yP T.cs x) (k g.v) g.caps
  |none=>.fail
def zPy{R:Type}{r:R}{T:Tm}{K0:List Nat}{E:AE S.T}{H:AH S.T}{x:HL S.T T.cs}{k:HL S.T T.vs->Pg R}(h:(adh T K0 E H x k).Is r):∃v,T.GX K0 E H x v/\(k v).Is r:=by
 change (match T.get K0 (tg T E H).1 (tg T E H).2 with
  |some g=>Pg.iJ (ea (DX g.eq=bg)) λ_=>J' (yP T.cs x) (k g.v) g.caps
  |none=>.fail).Is r at h
 split at h
 .rename_i g hg;obtain⟨u,hu,h⟩:=Is.iJ h;obtain⟨h3,h4⟩:=OW h;exact⟨g.v,⟨g,hg,zMg (yD hu),h3,rfl⟩,h4⟩
 .exact(Is.fail h).elim
def I8{R:Type}(T1 T2:Tm)(K0:List Nat)(E:AE S.T)(H:AH S.T)(x1:HL S.T T1.cs)(x2:HL S.T T2.cs)(k1:HL S.T T1.vs->Pg R)(k2:HL S.T T2.vs->Pg R):Pg R:=match tg T1 E H with
 |(E',H')=>match T1.get K0 E' H' with
  |some g=>Ka T1 x1 k1 (bc g)
  |none=>pQ T2 K0 E H x2 k2
def zt9{R:Type}{r:R}{T1 T2:Tm}{K0:List Nat}{E:AE S.T}{H:AH S.T}{x1:HL S.T T1.cs}{x2:HL S.T T2.cs}{k1:HL S.T T1.vs->Pg R}{k2:HL S.T T2.vs->Pg R}(h:(I8 T1 T2 K0 E H x1 x2 k1 k2).Is r):
  (∃v,T1.GX K0 E H x1 v/\(k1 v).Is r)∨∃v,T2.GX K0 E H x2 v/\(k2 v).Is r:=by
 change (match T1.get K0 (tg T1 E H).1 (tg T1 E H).2 with
  |some g=>Ka T1 x1 k1 (bc g)
  |none=>pQ T2 K0 E H x2 k2).Is r at h
 split at h
 .rename_i g hg;obtain⟨h1,h2⟩:=AF h;obtain⟨h3,h4⟩:=OW h2;exact .inl ⟨g.v,⟨g,hg,h1,h3,rfl⟩,h4⟩
 .exact .inr (kL h)
def N0(hp:List (Nat×TO))(E:AE S.T)(H:AH S.T):List (Nat×Tp)->List (Nat×Dy S.T)
 |[]=>[]
 |(t,tp)::r=>match tp.read hp bd H (E.get t)with
  |some x=>x.ps++N0 hp E H r
  |none=>N0 hp E H r
def I9(hp:List (Nat×TO))(H:AH S.T):List (Nat×TO)->List (Nat×Dy S.T)
 |[]=>[]
 |(k,toZ)::r=>match H.get k with
  |some o=>match toZ.read hp H o with
   |some x=>x.ps++I9 hp H r
   |none=>I9 hp H r
  |none=>I9 hp H r
def Ul(T:Tm)(so:List (Nat×Tp))(ho:List (Nat×TO))(E:AE S.T)(H:AH S.T):Option (HL S.T T.cs):=Bz (N0 T.hp E H T.sl++(I9 T.hp H T.hp++(N0 ho E H so++I9 ho H ho))) 0 T.cs
def Ub:A S.T->A S.T
 |.raw (.bool b)=>.raw (.bool b)
 |.raw v=>tZ v
 |a=>a
def zP1(a:A S.T):(Ub a).v=a.v:=by
 unfold Ub;split
 .rfl
 .rw[zUo];simp[A.v]
 .rfl
def tH(o:Oper)(a:A S.T)(E:AE S.T):AE S.T:=match o.dst with
 |some d=>(d,Ub a)::E
 |none=>E
def Gh{o:Oper}{a:A S.T}{E:AE S.T}:eV (tH o a E)=EV.pP o.dst a.v (eV E):=by
 unfold tH EV.pP
 cases o.dst with
 |some d=>simp only[eV,gf,zP1]
 |none=>rfl
def YV(H:AH S.T):AH S.T->AH S.T
 |[]=>H
 |p::r=>bif (YV H r).has p.1 then(YV H r).set p.1 p.2 else p::YV H r
def zua:∀{H:ax}{k:Nat}{o:EV.Obj},keys (ax.set H k o)=keys H
 |[],_,_=>rfl
 |(k',o')::r,k,o=>by
  simp only[ax.set]
  cases hb:bk k k' with
  |true=>rfl
  |false =>
   have:=zua (H:=r) (k:=k) (o:=o);simp only[keys,cf,gf]at this ⊢;rw[this]
def zCh:∀{H:ax}{k:Nat}{o:EV.Obj}{j:Nat},k∈keys H->(ax.set H k o).get j=if j=k then bc o else H.get j
 |(k',o')::r,k,o,j,hk=>by
  simp only[ax.set]
  cases hb:bk k k' with
  |true =>
   have:=eb hb;subst this;simp only[aH,ax.get];by_cases e:j=k
   .subst e;simp
   .have hc:bk j k=bd:=by
     cases h:bk j k with
     |true=>exact aU (eb h) e
     |false=>rfl
    rw[aO e,hc];rfl
  |false =>
   have g_:k≠k':=λe=>by subst e;rw[cF]at hb;cases hb
   simp only[cf,ax.get]
   have me:k∈keys r:=by simp only[keys,gf,bq]at hk;exact hk.resolve_left g_
   rw[zCh me]
   cases hc:bk j k' with
   |true =>
    have:=eb hc;subst this;have Y8:¬j=k:=Ne.symm g_;simp[Y8]
   |false=>rfl
def KH{H:AH S.T}(h:(keys (hV H)).Nodup):∀F':AH S.T,(keys (hV (YV H F'))).Nodup
 |[]=>h
 |p::r=>by
  have ih:=KH h r;simp only[YV]
  cases hb:(YV H r).has p.1 with
  |true=>rw[aH,zL3,zua];exact ih
  |false =>
   rw[cf];rw[<- og]at hb
   show(p.1::keys (hV (YV H r))).Nodup
   refine cJ.2 ⟨λhm=>?_,ih⟩;rw[yK.2 hm]at hb;cases hb
def VK{H:AH S.T}(k:Nat):∀F':AH S.T,(hV (YV H F')).get k=if k∈keys (hV F')then(hV F').get k else(hV H).get k
 |[]=>rfl
 |p::r=>by
  have ih:=VK (H:=H) k r;simp only[YV];have hk:keys (hV (p::r))=p.1::keys (hV r):=rfl;have hg:(hV (p::r)).get k=bif bk k p.1 then bc p.2.o else(hV r).get k:=rfl;rw[hk,hg]
  cases hb:(YV H r).has p.1 with
  |true =>
   rw[aH,zL3,zCh (yK.1 (by rw[og];exact hb))];by_cases e:k=p.1
   .subst e;simp
   .have:bk k p.1=bd:=by
     cases h:bk k p.1 with
     |true=>exact aU (eb h) e
     |false=>rfl
    rw[aO e,ih,this];simp only[bq,e,false_or,cf]
  |false =>
   rw[cf]
   show(bif bk k p.1 then bc p.2.o else(hV (YV H r)).get k)=_
   cases h:bk k p.1 with
   |true =>
    have:=eb h;subst this;simp
   |false =>
    have e:k≠p.1:=λe=>by subst e;rw[cF]at h;cases h
    simp only[cf,ih,bq,e,false_or]
def oo(F:AH S.T):List Nat:=F.map (·.1)
def Tq(gk:List (Nat×Nat))(F':AH S.T):Bool:=gk.all λp=>match F'.get p.1 with|none=>bg|some (.rw i)=>bk i p.2|_=>bd
def N1(gk:List (Nat×Nat))(H:AH S.T):Bool:=gk.all λp=>match H.get p.1 with|some (.rw i)=>bk i p.2|_=>bd
def pK(S:lD)(gk:List (Nat×Nat)):ax:=gk.map λp=>(p.1,S.ro p.2)
def zIy{gk:List (Nat×Nat)}{H:AH S.T}(h:N1 gk H=bg):re (pK S gk) (hV H).get:=λp hp=>by
 obtain⟨q,hq,rfl⟩:=bz.1 hp;have:=(bj.1 h) q hq;simp only at this ⊢;rw[JI];split at this
 .rename_i i e;rw[e,eb this];rfl
 .cases this
def VL{gk:List (Nat×Nat)}{H F':AH S.T}(h:Tq gk F'=bg)(hG:re (pK S gk) (hV H).get):re (pK S gk) (hV (YV H F')).get:=λp hp=>by
 have hH:=hG p hp;obtain⟨q,hq,rfl⟩:=bz.1 hp;have:=(bj.1 h) q hq;simp only at this hH ⊢;rw[VK];split
 .rename_i hk;rw[JI];split at this
  .rename_i e;have h2:=JI F' q.1;rw[e]at h2;exact aU hk (get_none.2 h2)
  .rename_i i e;rw[e,eb this];rfl
  .cases this
 .exact hH
def JL(N:Nat)(gk:List (Nat×Nat))(H:AH S.T)(o:Oper)(kF kR:List Nat)(F':AH S.T):Bool:=C8 N o&&(QM o.op&&(nodupB (oo F'++kR)&&(nodupB kF&&(kF.all (oo F').contains&&((F'.all λp=>kF.contains p.1||!(H.has p.1))&&(nodupB (kF++kR)&&((qL kF H).isSome&&((qL kR H).isSome&&Tq gk F'))))))))
def Dc{R:Type}(N:Nat)(gk:List (Nat×Nat))(i:Nat)(o:Oper)(E:AE S.T)(H:AH S.T)(k:AE S.T->AH S.T->FP->Pg R)(kF kR:List Nat)(a:A S.T)(F':AH S.T):Pg R:=bif JL N gk H o kF kR F' then k (tH o a E) (YV H F') (.m i (oo F') kR)else .fail
def rE{R:Type}(N:Nat)(gk:List (Nat×Nat))(i:Nat)(o:Oper)(E:AE S.T)(H:AH S.T)(k:AE S.T->AH S.T->FP->Pg R):OR S->Pg R
 |.no=>.fail
 |.one kF kR a F'=>Dc N gk i o E H k kF kR a F'
 |.iJ ov kF kR r=>.iJ ov λx=>match r x with
  |some (a,F')=>Dc N gk i o E H k kF kR a F'
  |none=>.fail
 |.eqs l r=>Ch (rE N gk i o E H k r) l
 |.DD ov l kF kR r=>.iJ ov λx=>.iJ (ahF (l x)) λh=>match r x h.down with
  |some (a,F')=>Dc N gk i o E H k kF kR a F'
  |none=>.fail
 |.alt ov kF kR r q=>.tA ov (λx=>match r x with
  |some (a,F')=>Dc N gk i o E H k kF kR a F'
  |none=>.fail) (rE N gk i o E H k q)
inductive afZ where
 |bad|yes|skip
 |ask (d:Nat) (t:Bool) (want:Bool)
def Dw(all:List Oper)(E:AE S.T)(o:Oper):afZ:=match o.guard with
 |none=>.yes
 |some (j,want)=>match (all[j]?).bind (·.dst)with
  |some d=>match E.get d with
   |.raw (.bool bg)=>bif want then .yes else .skip
   |.raw (.bool bd)=>bif want then .skip else .yes
   |.raw .no=>.skip
   |.gC .b t=>.ask d t want
   |_=>.bad
  |none=>.bad
structure Cx(S:lD) where
 P:bm
 N:Nat
 K0:List Nat
 T:ke S
 cd:Nat->Option TC
 kk:Nat
 nb:NB
 rT:Tm
 x:HL S.T rT.cs
 pt:Tp:=.no
 TP:o4 S rT.vs:=[]
 pm:Bool:=bd
 gk:List (Nat×Nat):=[]
def Bf{R:Type}(N:Nat)(i:Nat)(o:Oper)(E:AE S.T)(H:AH S.T)(k:AE S.T->AH S.T->FP->Pg R):Pg R:=bif C8 N o&&QM o.op then k (tH o (.raw .no) E) H (.m i [] [])else .fail
abbrev PK(S:lD)(R:Type):=Nat->Oper->List Oper->AE S.T->AH S.T->List FP->Pg R->Pg R
def N2:A S.T->A S.T->Option (List (Nat×Nat))
 |.nh sz k n,.nh iF k' n'=>bif bk sz iF&&bk k k' then bc [(n,n')]else bh
 |_,_=>bh
def I_(P:bm)(H:AH S.T)(k t off:Nat):Option (Nat×A S.T):=match H.get k with
 |some (.box bt cs)=>match oe P t with
  |some sh=>match Fj cs off sh with
   |some b=>bc (bt,b)
   |none=>bh
  |none=>bh
 |_=>bh
def ldQ(P:bm)(E:AE S.T)(H:AH S.T)(o:Oper)(E':AE S.T):Option (List (Nat×Nat)×(Nat×Nat×Nat)):=match o.op,o.dst with
 |.load t x,bc d=>match bV E x with
  |.raw (.ptr k 0 off)=>match I_ P H k t off with
   |some (_,b)=>match N2 (E'.get d) b with
    |some l=>bc (l,(k,t,off))
    |none=>bh
   |none=>bh
  |_=>bh
 |_,_=>bh
def Uc(P:bm)(H H':AH S.T)(c:Nat×Nat×Nat):Option (List (Nat×Nat)):=match I_ P H c.1 c.2.1 c.2.2,I_ P H' c.1 c.2.1 c.2.2 with
 |some (bt,b),bc (G8,b')=>bif bk bt G8 then N2 b b' else bh
 |_,_=>bh
def CY(P:bm)(ms:List Nat)(H H':AH S.T)(fp:FP):List FP->List (List (Nat×Nat)×(Nat×Nat×Nat))
 |[]=>[]
 |x::r=>match x.ld with
  |some c=>bif tE c.1 fp.fk&&!(pD ms fp.i x.i)then match Uc P H H' c with
   |some l=>(l,c)::CY P ms H H' fp r
   |none=>CY P ms H H' fp r
   else CY P ms H H' fp r
  |none=>CY P ms H H' fp r
def Zp(l:List Nat)(k:Nat):Bool:=match l with
 |[j]=>bk j k
 |_=>bd
def GM{R:Type}(dr:Bool)(P:bm)(all:List Oper)(E:AE S.T)(H:AH S.T)(o:Oper)(done:List FP)(E':AE S.T)(H':AH S.T)(fp:FP)(k:FP->Pg R):Pg R:=
 bif dr then
  match ldQ P E H o E' with
  |some (l,x)=>bif fp.fk.isEmpty&&Zp fp.rk x.1 then Ch (k ⟨fp.i,[],[x.1],bc x,[]⟩) l else k fp
  |none=>match CY P (jk all []) H H' fp done with
   |[]=>k fp
   |q=>Ch (k ⟨fp.i,fp.fk,fp.rk,bh,q.map (·.2)⟩) (q.map (·.1)).flatten
 else k fp
def NA(P:bm)(N:Nat)(E:AE S.T)(o:Oper):Option (Nat×Bool):=match o.dst,o.op with
 |some d,.binOp .eql t x (.const (.slice bh 0 0)) _=>match bV E x with
  |.gC (.l c) l=>bif o6 P t&&cw (d+1) N then bc (d,dj (α:=c.ty S.T) l)else bh
  |_=>bh
 |_,_=>bh
def Zg{R:Type}(b:Bool)(x y:Pg R):Pg R:=bif b then .pJ x.run y.run (.rO bg x y)else y
def rg{R:Type}(X:Cx S)(all:List Oper)(dr:Bool)(pk:PK S R)(k:AE S.T->AH S.T->List FP->Pg R):Nat->List Oper->AE S.T->AH S.T->List FP->Pg R
 |_,[],E,H,done=>k E H done
 |i,o::r,E,H,done=>match Dw all E o with
  |.bad=>.fail
  |.yes=>match (bif dr then bh else NA X.P X.N E o)with
   |some (d,b)=>Zg b (rg X all dr pk k (i+1) r ((d,.raw (.bool bg))::E) H (.m i [] []::done)) (rg X all dr pk k (i+1) r ((d,.raw (.bool bd))::E) H (.m i [] []::done))
   |none=>pk i o r E H done (rE X.N X.gk i o E H (λE' H' fp=>GM dr X.P all E H o done E' H' fp λfp=>rg X all dr pk k (i+1) r E' H' (fp::done)) (Bc X.P X.T X.cd E H (o.dst.getD 0+1000000) o.op))
  |.skip=>Bf X.N i o E H λE' H' fp=>rg X all dr pk k (i+1) r E' H' (fp::done)
  |.ask d t want=>.rO t
    (bif want then pk i o r ((d,.raw (.bool bg))::E) H done (rE X.N X.gk i o ((d,.raw (.bool bg))::E) H (λE' H' fp=>GM dr X.P all ((d,.raw (.bool bg))::E) H o done E' H' fp λfp=>rg X all dr pk k (i+1) r E' H' (fp::done)) (Bc X.P X.T X.cd ((d,.raw (.bool bg))::E) H (o.dst.getD 0+1000000) o.op))
     else Bf X.N i o ((d,.raw (.bool bg))::E) H λE' H' fp=>rg X all dr pk k (i+1) r E' H' (fp::done))
    (bif want then Bf X.N i o ((d,.raw (.bool bd))::E) H (λE' H' fp=>rg X all dr pk k (i+1) r E' H' (fp::done))
     else pk i o r ((d,.raw (.bool bd))::E) H done (rE X.N X.gk i o ((d,.raw (.bool bd))::E) H (λE' H' fp=>GM dr X.P all ((d,.raw (.bool bd))::E) H o done E' H' fp λfp=>rg X all dr pk k (i+1) r E' H' (fp::done)) (Bc X.P X.T X.cd ((d,.raw (.bool bd))::E) H (o.dst.getD 0+1000000) o.op)))
def tC{R:Type}(X:Cx S)(all:List Oper)(ip:Nat)(k:AE S.T->AH S.T->List FP->Pg R):Nat->List Oper->AE S.T->AH S.T->List FP->Pg R
 |_,[],E,H,done=>k E H done
 |i,o::r,E,H,done=>bif pD (jk all []) i ip then tC X all ip k (i+1) r E H done else match Dw all E o with
  |.bad=>.fail
  |.yes=>rE X.N X.gk i o E H (λE' H' fp=>tC X all ip k (i+1) r E' H' (fp::done)) (Bc X.P X.T X.cd E H (o.dst.getD 0+1000000) o.op)
  |.skip=>Bf X.N i o E H λE' H' fp=>tC X all ip k (i+1) r E' H' (fp::done)
  |.ask d t want=>.rO t
    (bif want then rE X.N X.gk i o ((d,.raw (.bool bg))::E) H (λE' H' fp=>tC X all ip k (i+1) r E' H' (fp::done)) (Bc X.P X.T X.cd ((d,.raw (.bool bg))::E) H (o.dst.getD 0+1000000) o.op)
     else Bf X.N i o ((d,.raw (.bool bg))::E) H λE' H' fp=>tC X all ip k (i+1) r E' H' (fp::done))
    (bif want then Bf X.N i o ((d,.raw (.bool bd))::E) H (λE' H' fp=>tC X all ip k (i+1) r E' H' (fp::done))
     else rE X.N X.gk i o ((d,.raw (.bool bd))::E) H (λE' H' fp=>tC X all ip k (i+1) r E' H' (fp::done)) (Bc X.P X.T X.cd ((d,.raw (.bool bd))::E) H (o.dst.getD 0+1000000) o.op))
def Kb{α R:Type}(inj:Option (α->R))(q:α):Pg R:=match inj with
 |some j=>.ret (bc (j q))
 |none=>.fail
def FR{pc:List TC}(t:uh S pc)(H:AH S.T):Bool:=nodupB (t.kF++t.kR)&&((qL t.kF H).isSome&&(qL t.kR H).isSome)
def Nj{R:Type}(X:Cx S)(inj:Option (HL S.T X.rT.vs->R)):PK S R:=λ_ o _ E H _ p=>bif X.pm then(match F9 X.TP X.pt E H o.op with
  |.none=>p
  |.op q=>Kb inj q
  |.call t=>Ch (.tA t.o (λq=>bif FR t H then Kb inj q else .fail) p) t.eqs)else p
def Ni{R:Type}(X:Cx S)(all:List Oper)(inj:Option (HL S.T X.rT.vs->R)):PK S R:=λi o rest E H done p=>bif X.pm then(match F9 X.TP X.pt E H o.op with
  |.none=>p
  |.op _=>.fail
  |.call t=>Ch (.tA t.o (λq=>bif FR t H then tC X all i (λ_ _ P3=>bif Pm all (.m i t.kF t.kR) P3.reverse&&(P3.take (P3.length-done.length)).all (λx=>Jf all x (.m i t.kF t.kR))then Kb inj q else .fail) (i+1) rest E H done else .fail) p) t.eqs)else p
def Pt{R:Type}{r:R}{P:bm}{N i:Nat}{gk:List (Nat×Nat)}{o:Oper}{E:AE S.T}{H:AH S.T}{k:AE S.T->AH S.T->FP->Pg R}:∀{q:OR S},q.OK P o E H->(rE N gk i o E H k q).Is r ->
  ∃kF kR a F' F Rr,(k (tH o a E) (YV H F') (.m i (oo F') kR)).Is r/\JL N gk H o kF kR F'=bg/\qL kF H=bc F/\qL kR H=bc Rr/\EV.Loc P o (eV E) (hV F++hV Rr) a.v (hV F'++hV Rr)
 |.no,_,h=>(Is.fail h).elim
 |.one kF kR a F',hq,h=>by
  simp only[rE,Dc]at h
  cases hb:JL N gk H o kF kR F' with
  |false=>rw[hb]at h;exact(Is.fail h).elim
  |true =>
   rw[hb]at h;have kd:=hb;simp only[JL,bn]at kd;obtain⟨_,_,_,_,_,_,_,h1,h2,_⟩:=kd;obtain⟨F,hF⟩:=cL.1 h1;obtain⟨Rr,hR⟩:=cL.1 h2;exact⟨kF,kR,a,F',F,Rr,h,hb,hF,hR,hq F Rr hF hR⟩
 |.iJ ov kF kR rr,hq,h=>by
  simp only[rE]at h;obtain⟨x,hx,h⟩:=Is.iJ h;split at h
  .rename_i a F' hr;simp only[Dc]at h
   cases hb:JL N gk H o kF kR F' with
   |false=>rw[hb]at h;exact(Is.fail h).elim
   |true =>
    rw[hb]at h;have kd:=hb;simp only[JL,bn]at kd;obtain⟨_,_,_,_,_,_,_,h1,h2,_⟩:=kd;obtain⟨F,hF⟩:=cL.1 h1;obtain⟨Rr,hR⟩:=cL.1 h2;exact⟨kF,kR,a,F',F,Rr,h,hb,hF,hR,hq x hx a F' hr F Rr hF hR⟩
  .exact(Is.fail h).elim
 |.eqs l q,hq,h=>by
  simp only[rE]at h;obtain⟨h1,h2⟩:=AF h;exact Pt (hq h1) h2
 |.DD ov l kF kR rr,hq,h=>by
  simp only[rE]at h;obtain⟨x,hx,h⟩:=Is.iJ h;obtain⟨y,hy,h⟩:=Is.iJ h;split at h
  .rename_i a F' hr;simp only[Dc]at h
   cases hb:JL N gk H o kF kR F' with
   |false=>rw[hb]at h;exact(Is.fail h).elim
   |true =>
    rw[hb]at h;have kd:=hb;simp only[JL,bn]at kd;obtain⟨_,_,_,_,_,_,_,h1,h2,_⟩:=kd;obtain⟨F,hF⟩:=cL.1 h1;obtain⟨Rr,hR⟩:=cL.1 h2;exact⟨kF,kR,a,F',F,Rr,h,hb,hF,hR,hq x hx y.down a F' hr F Rr hF hR⟩
  .exact(Is.fail h).elim
 |.alt ov kF kR rr q,hq,h=>by
  simp only[rE]at h
  rcases Is.tA h with⟨x,hx,h⟩|⟨_,h⟩
  .split at h
   .rename_i a F' hr;simp only[Dc]at h
    cases hb:JL N gk H o kF kR F' with
    |false=>rw[hb]at h;exact(Is.fail h).elim
    |true =>
     rw[hb]at h;have kd:=hb;simp only[JL,bn]at kd;obtain⟨_,_,_,_,_,_,_,h1,h2,_⟩:=kd;obtain⟨F,hF⟩:=cL.1 h1;obtain⟨Rr,hR⟩:=cL.1 h2;exact⟨kF,kR,a,F',F,Rr,h,hb,hF,hR,hq.1 x hx a F' hr F Rr hF hR⟩
   .exact(Is.fail h).elim
  .exact Pt hq.2 h
def Uz{all:List Oper}{E:AE S.T}{o:Oper}(h:Dw all E o=.yes):yR all (eV E) o=bc bg:=by
 unfold Dw at h;unfold yR;split at h
 .rename_i hg;rw[hg]
 .rename_i j want hg;rw[hg];split at h
  .rename_i d hd;simp only[hd,Jh];split at h
   .rename_i he;rw[he];cases want<;>first|(cases h;done)|rfl
   .rename_i he;rw[he];cases want<;>first|(cases h;done)|rfl
   .cases h
   .cases h
   .cases h
  .cases h
def zga{all:List Oper}{E:AE S.T}{o:Oper}(h:Dw all E o=.skip):yR all (eV E) o=bc bd:=by
 unfold Dw at h;unfold yR;split at h
 .cases h
 .rename_i j want hg;rw[hg];split at h
  .rename_i d hd;simp only[hd,Jh];split at h
   .rename_i he;rw[he];cases want<;>first|(cases h;done)|rfl
   .rename_i he;rw[he];cases want<;>first|(cases h;done)|rfl
   .rename_i he;rw[he];rfl
   .cases h
   .cases h
  .cases h
def zmw{all:List Oper}{E:AE S.T}{o:Oper}{d:Nat}{t want:Bool}(h:Dw all E o=.ask d t want):(eV E).get d=.bool t/\∀b,yR all ((d,.bool b)::eV E) o=bc (b==want):=by
 unfold Dw at h;unfold yR;split at h
 .cases h
 .rename_i j adT hg;rw[hg];split at h
  .rename_i d' hd;simp only[hd,Jh];split at h
   .cases adT<;>cases h
   .cases adT<;>cases h
   .cases h
   .rename_i he;cases h;refine⟨by rw[he];rfl,λb=>?_⟩;simp only[Env.get,cF,aH]
   .cases h
  .cases h
variable{X:Cx S}{R:Type}{r:R}{all:List Oper}{pk:PK S R}{k:AE S.T->AH S.T->List FP->Pg R}
def zuc{a b:A S.T}{l:List (Nat×Nat)}(h:N2 a b=bc l)(hl:xZ l):a.v=b.v:=by
 unfold N2 at h;split at h
 .rename_i sz k n iF k' n'
  cases hb:bk sz iF&&bk k k' with
  |false=>rw[hb]at h;cases h
  |true =>
   rw[hb]at h;cases h;simp only[bn]at hb;rw[eb hb.1,eb hb.2,show n=n' from hl _ (bS.2 rfl)]
 .cases h
def VN{P:bm}{H:AH S.T}{k t off bt:Nat}{b:A S.T}(h:I_ P H k t off=bc (bt,b)):∃cs,(hV H).get k=bc (.box bt cs)/\mO P t cs off=bc b.v:=by
 unfold I_ at h;split at h
 .rename_i G8 cs hg;split at h
  .rename_i sh nf;split at h
   .rename_i b' hb;cases h;exact⟨A.vs cs,by rw[JI,hg];rfl,(V' hb).at nf⟩
   .cases h
  .cases h
 .cases h
def L5{P:bm}{ms:List Nat}{H H':AH S.T}{fp:FP}:∀{done:List FP},xZ ((CY P ms H H' fp done).map (·.1)).flatten->∀c∈(CY P ms H H' fp done).map (·.2),c.1∈fp.fk/\∃bt cs iK,(hV H).get c.1=bc (.box bt cs)/\(hV H').get c.1=bc (.box bt iK)/\mO P c.2.1 cs c.2.2=mO P c.2.1 iK c.2.2
 |[],_,c,hc=>by cases hc
 |x::r,hl,c,hc=>by
  unfold CY at hl hc;split at hl
  .rename_i c0 FF;rw[FF]at hc;simp only at hc
   cases hm:tE c0.1 fp.fk&&!(pD ms fp.i x.i)with
   |false=>rw[hm]at hl hc;exact L5 hl c hc
   |true =>
    rw[hm,aH]at hl hc
    cases hk:Uc P H H' c0 with
    |none=>rw[hk]at hl hc;exact L5 hl c hc
    |some l =>
     rw[hk]at hl hc;simp only[gf,List.flatten_cons]at hl hc
     rcases bq.1 hc with rfl|hc
     .simp only[bn]at hm;refine⟨Vv.1 hm.1,?_⟩;unfold Uc at hk;split at hk
      .rename_i bt b G8 b' h1 h2
       cases hb:bk bt G8 with
       |false=>rw[hb]at hk;cases hk
       |true =>
        rw[hb]at hk;have:=eb hb;subst this;obtain⟨cs,g1,g2⟩:=VN h1;obtain⟨iK,g3,g4⟩:=VN h2;exact⟨bt,cs,iK,g1,g3,by rw[g2,g4,zuc hk λp hp=>hl p (bI _ hp)]⟩
      .cases hk
     .exact L5 (λp hp=>hl p (bK _ hp)) c hc
  .rename_i FF;rw[FF]at hc;exact L5 hl c hc
def zI0{o:Oper}{a:A S.T}{E:AE S.T}{d:Nat}(h:o.dst=bc d):((tH o a E).get d).v=a.v:=by have:=Jh (tH o a E) d;rw[Gh,h]at this;rw[<- this];simp only[EV.pP,Env.get,cF,aH]
def zP3{k:Nat}:∀{l:List Nat},Zp l k=bg->l=[k]
 |[],h=>by cases h
 |[j],h=>by rw[eb (show bk j k=bg from h)]
 |_::_::_,h=>by cases h
def zI1{R:Type}{r:R}{dr:Bool}{P:bm}{all:List Oper}{E:AE S.T}{H:AH S.T}{o:Oper}{done:List FP}{a:A S.T}{H':AH S.T}{i:Nat}{fk rk:List Nat}{k:FP->Pg R}(h:(GM dr P all E H o done (tH o a E) H' (.m i fk rk) k).Is r):
  ∃fp,(k fp).Is r/\fp.i=i/\fp.fk=fk/\fp.rk=rk/\Ce P o (eV E).get (hV H).get (hV H').get a.v fp:=by
 have h0:(k (.m i fk rk)).Is r->∃fp,(k fp).Is r/\fp.i=i/\fp.fk=fk/\fp.rk=rk/\Ce P o (eV E).get (hV H).get (hV H').get a.v fp:=λh=>⟨_,h,rfl,rfl,rfl,zLy⟩
 unfold GM at h
 cases dr with
 |false=>exact h0 h
 |true =>
  rw[aH]at h;split at h
  .rename_i l x hx
   cases hb:(FP.m i fk rk).fk.isEmpty&&Zp (FP.m i fk rk).rk x.1 with
   |false=>rw[hb]at h;exact h0 h
   |true =>
    rw[hb,aH]at h;obtain⟨hl,h⟩:=AF h;simp only[bn,eF]at hb;obtain⟨b1,b2⟩:=hb;have b3:rk=[x.1]:=zP3 b2;refine⟨_,h,rfl,b1.symm,b3.symm,λk t off hk=>?_,λk t off hk=>by cases hk⟩;obtain⟨dst,op,ty,pos,aft,gd⟩:=o;unfold ldQ at hx;split at hx
    .rename_i t' y d e1 e2;split at hx
     .rename_i k' sR e3;split at hx
      .rename_i bt b e4;split at hx
       .rename_i l' e5;cases hx;cases hk;obtain⟨cs,g1,g2⟩:=VN e4;have hv:=(zI0 (a:=a) (E:=E) e2).symm.trans (zuc e5 hl);rw[<- hv]at g2;refine⟨rfl,rfl,⟨bt,cs,g1,g2⟩,λbt cs hc=>?_⟩;have e1:op=.load t y:=e1;subst e1
        refine ug.congr (g:=a_ (eV E)) ?_ λx _=>Ly (eV E) x
        exact zti (by rw[zJ,e3];rfl) hc
       .cases hx
      .cases hx
     .cases hx
    .cases hx
  .split at h
   .exact h0 h
   .obtain⟨hl,h⟩:=AF h;exact⟨_,h,rfl,rfl,rfl,λ_ _ _ hk=>(by cases hk),λk t off hk=>L5 hl (k,t,off) hk⟩
def zP4{R:Type}{r:R}{b:Bool}{x y:Pg R}(h:(Zg b x y).Is r):(b=bg->x.Is r)/\y.Is r:=by
 unfold Zg at h
 cases b with
 |false=>exact⟨λe=>(by cases e),h⟩
 |true =>
  rw[aH]at h;obtain⟨e,h⟩:=Is.pJ h;obtain⟨h1,h2,h3⟩:=h;have rq:x.run=bc r:=h1;exact⟨λ_=>⟨rq,h2⟩,⟨e.symm.trans rq,h3⟩⟩
def zP5{P:bm}{N:Nat}{E:AE S.T}{o:Oper}{d:Nat}{b:Bool}(h:NA P N E o=bc (d,b)):∃t x t',o.dst=bc d/\o.op=.binOp .eql t x (.const (.slice bh 0 0)) t'/\o6 P t=bg/\cw (d+1) N=bg/\∃sz els,a_ (eV E) x=.vs sz els/\dj els=b:=by
 unfold NA at h;split at h
 .rename_i d' t x t' e1 e2;split at h
  .rename_i c l e3
   cases hb:o6 P t&&cw (d'+1) N with
   |false=>rw[hb]at h;cases h
   |true =>
    rw[hb]at h;cases h;simp only[bn]at hb;refine⟨t,x,t',e1,e2,hb.1,hb.2,zH S c,l.map (AQ S c),by rw[zJ,e3];rfl,?_⟩
    show dj (cP (AQ S c) l)=dj (α:=c.ty S.T) l
    cases l<;>rfl
  .cases h
 .cases h
def Gy{dr:Bool}(hS:S.OK)(hT:ke.OK X.P X.T)(W:Nat->List Oper->Env->ax->List FP->Prop)
  (Cy:∀i E H done,(k E H done).Is r->W i [] (eV E) (hV H) done)
  (iS:∀i o rest (E:AE S.T) (H:AH S.T) kF kR (a:A S.T) (F' F Rr:AH S.T) done,all.drop i=o::rest->yR all (eV E) o=bc bg->JL X.N X.gk H o kF kR F'=bg->qL kF H=bc F->qL kR H=bc Rr->EV.Loc X.P o (eV E) (hV F++hV Rr) a.v (hV F'++hV Rr)->∀fp:FP,fp.i=i->fp.fk=oo F'->fp.rk=kR->Ce X.P o (eV E).get (hV H).get (hV (YV H F')).get a.v fp->W (i+1) rest (eV (tH o a E)) (hV (YV H F')) (fp::done)->W i (o::rest) (eV E) (hV H) done)
  (IF:∀i o rest (E:AE S.T) (H:AH S.T) done,all.drop i=o::rest->yR all (eV E) o=bc bd->(C8 X.N o&&QM o.op)=bg->W (i+1) rest (eV (tH o (.raw .no) E)) (hV H) (.m i [] []::done)->W i (o::rest) (eV E) (hV H) done)
  (DF:∀i l d v (E:AE S.T) (H:AH S.T) done,(eV E).get d=v->W i l ((d,v)::eV E) (hV H) done->W i l (eV E) (hV H) done)
  (tX:∀i o rest (E:AE S.T) (H:AH S.T) done p,all.drop i=o::rest->yR all (eV E) o=bc bg->(pk i o rest E H done p).Is r->p.Is r∨W i (o::rest) (eV E) (hV H) done)
  (mH:dr=bd->∀i o rest (E:AE S.T) (H:AH S.T) done d b,yR all (eV E) o=bc bg->NA X.P X.N E o=bc (d,b)->(b=bg->W (i+1) rest ((d,.bool bg)::eV E) (hV H) (.m i [] []::done))->W (i+1) rest ((d,.bool bd)::eV E) (hV H) (.m i [] []::done)->W i (o::rest) (eV E) (hV H) done):
  ∀(l:List Oper)(i:Nat)(E:AE S.T)(H:AH S.T)(done:List FP),all.drop i=l->(rg X all dr pk k i l E H done).Is r->W i l (eV E) (hV H) done
 |[],i,E,H,done,_,h=>Cy i E H done h
 |o::rest,i,E,H,done,hd,h=>by
  have lf:all.drop (i+1)=rest:=by rw[<- dz,hd];rfl
  have go:∀E:AE S.T,yR all (eV E) o=bc bg->(pk i o rest E H done (rE X.N X.gk i o E H (λE' H' fp=>GM dr X.P all E H o done E' H' fp λfp=>rg X all dr pk k (i+1) rest E' H' (fp::done)) (Bc X.P X.T X.cd E H (o.dst.getD 0+1000000) o.op))).Is r->W i (o::rest) (eV E) (hV H) done:=λE hw h=>by
   rcases tX i o rest E H done _ hd hw h with h|h
   rotate_left
   .exact h
   obtain⟨kF,kR,a,F',F,Rr,h1,h2,h3,h4,h5⟩:=Pt (zMf hS hT) h;obtain⟨fp,h1,f1,f2,f3,f4⟩:=zI1 h1;exact iS i o rest E H kF kR a F' F Rr done hd hw h2 h3 h4 h5 fp f1 f2 f3 f4 (Gy hS hT W Cy iS IF DF tX mH rest (i+1) _ _ _ lf h1)
  have sk:∀E:AE S.T,yR all (eV E) o=bc bd->(Bf X.N i o E H λE' H' fp=>rg X all dr pk k (i+1) rest E' H' (fp::done)).Is r->W i (o::rest) (eV E) (hV H) done:=λE hw h=>by
   unfold Bf at h
   cases hb:C8 X.N o&&QM o.op with
   |false=>rw[hb]at h;exact(Is.fail h).elim
   |true =>rw[hb]at h;exact IF i o rest E H done hd hw hb (Gy hS hT W Cy iS IF DF tX mH rest (i+1) _ _ _ lf h)
  simp only[rg]at h;split at h
  .exact(Is.fail h).elim
  .rename_i hw;split at h
   .rename_i d b hq
    cases dr with
    |true=>cases hq
    |false =>obtain⟨g1,g2⟩:=zP4 h;exact mH rfl i o rest E H done d b (Uz hw) hq (λe=>Gy hS hT W Cy iS IF DF tX mH rest (i+1) _ _ _ lf (g1 e)) (Gy hS hT W Cy iS IF DF tX mH rest (i+1) _ _ _ lf g2)
   .exact go E (Uz hw) h
  .rename_i hw;exact sk E (zga hw) h
  .rename_i d t want hw;obtain⟨h1,h2⟩:=zmw hw;obtain⟨h3,h4⟩:=Is.rO h
   cases t with
   |true =>
    have h3:=h3 rfl;refine DF i _ d (.bool bg) E H done h1 ?_;have h2:=h2 bg
    cases want with
    |true=>exact go ((d,.raw (.bool bg))::E) h2 h3
    |false=>exact sk ((d,.raw (.bool bg))::E) h2 h3
   |false =>
    have h4:=h4 rfl;refine DF i _ d (.bool bd) E H done h1 ?_;have h2:=h2 bd
    cases want with
    |true=>exact sk ((d,.raw (.bool bd))::E) h2 h4
    |false=>exact go ((d,.raw (.bool bd))::E) h2 h4
def VM(F:AH S.T):oo F=keys (hV F):=(zA8 F).symm
def V0:∀{a b:List Nat}{H F G:ax},ua a H=bc F->ua b H=bc G->ua (a++b) H=bc (F++G)
 |[],b,H,F,G,h1,h2=>by cases h1;exact h2
 |q::a,b,H,F,G,h1,h2=>by
  simp only[ua]at h1;split at h1
  .rename_i o l ho hl;cases h1;simp only[bO,ua,ho,V0 hl h2]
  .cases h1
def V2{H F' F Rr:AH S.T}{kF kR:List Nat}(hn:(keys (hV H)).Nodup)(h1:nodupB (oo F'++kR)=bg)(h2:(kF.all (oo F').contains)=bg)(h3:(F'.all λp=>kF.contains p.1||!(H.has p.1))=bg)(hR:qL kR H=bc Rr):
  (hV F'++qw kF (hV H)).Perm (hV (YV H F'))/\((hV F'++hV Rr)++qw (kF++kR) (hV H)).Perm (hV (YV H F')):=by
 have lH:=vf hR;obtain⟨BU,BV⟩:=xd lH;rw[VM]at h1;have mF:=yj h1
 have nZ:∀k∈kF,k∈keys (hV F'):=λk hk=>by have:=(bj.1 h2) k hk;rw[<- VM];simpa using this
 have iO:∀k∈keys (hV F'),k ∉ kF->k ∉ keys (hV H):=λk hk nO R7=>by
  rw[<- VM]at hk;obtain⟨p,hp,rfl⟩:=bz.1 hk;have:=(bj.1 h3) p hp;simp only[dc,cy,aW,bW]at this
  rcases this with h|h
  .exact nO h
  .rw[<- og,yK.2 R7]at h;cases h
 have ads:∀ks:List Nat,(keys (qw ks (hV H))).Nodup:=λks=>by
  have:(keys (qw ks (hV H)))=(keys (hV H)).filter (λk=>!ks.contains k):=by simp only[keys,qw];rw[List.filter_map];rfl
  rw[this];exact hn.filter _
 have gV:∀{ks:List Nat}{k:Nat},k∈keys (qw ks (hV H))->k∈keys (hV H)/\k ∉ ks:=λ{ks k} hk=>by obtain⟨p,hp,rfl⟩:=bz.1 hk;have:=dT.1 hp;exact⟨ay this.1,by simpa using this.2⟩
 refine⟨QL ?_ (KH hn F') λk=>?_,QL ?_ (KH hn F') λk=>?_⟩
 .rw[zC];refine cO.2 ⟨(cO.1 mF).1,ads kF,λa ha b hb e=>?_⟩;subst e;exact iO a ha (gV hb).2 (gV hb).1
 .rw[VK,get_append];split
  .rfl
  .rename_i hk
   exact QK λh=>hk (nZ k h)
 .rw[zC,zC,BU];refine cO.2 ⟨mF,ads _,λa ha b hb e=>?_⟩;subst e;obtain⟨g1,g2⟩:=gV hb
  rcases bw.1 ha with ha|ha
  .exact iO a ha (λh=>g2 (bI _ h)) g1
  .exact g2 (bK _ ha)
 .rw[VK,get_append,zC,BU,get_append];by_cases hk:k∈keys (hV F')
  .rw[aP (bI _ hk),aP hk,aP hk]
  .rw[aO hk,aO hk];by_cases l8:k∈kR
   .rw[aP (bK _ l8)];obtain⟨p,hp,e⟩:=bz.1 (BU▸l8:k∈keys (hV Rr));subst e;rw[get_of_mem (by rw[BU];exact(cO.1 mF).2.1) hp,get_of_mem hn (BV p hp)]
   .rw[aO λh=>(bw.1 h).elim hk l8]
    exact QK λh=>(bw.1 h).elim (λh=>hk (nZ k h)) l8
section
variable{K0:List Nat}{c:Ctx K0}{Q:xH}{rw0:Option Nat}
def zP6{ρ:Env}{H:ax}{d:Nat}{v:V}(h:ρ.get d=v):Cut K0 ρ H ((d,v)::ρ) H:=zUk d h rfl
def XK{α:Type}{inj:Option (α->R)}{q:α}(h:(Kb inj q).Is r):∃j,inj=bc j/\j q=r:=by
 unfold Kb at h;split at h
 .rename_i j;exact⟨j,rfl,Option.some.inj (Is.ret h)⟩
 .exact(Is.fail h).elim
def zMi{pc:List TC}{t:uh S pc}{H:AH S.T}(h:FR t H=bg):nodupB (t.kF++t.kR)=bg/\∃F Rr,qL t.kF H=bc F/\qL t.kR H=bc Rr:=by simp only[FR,bn]at h;obtain⟨h1,h2,h3⟩:=h;obtain⟨F,hF⟩:=cL.1 h2;obtain⟨Rr,hR⟩:=cL.1 h3;exact⟨h1,F,Rr,hF,hR⟩
def zP7(hS:S.OK){P:bm}{pc:List TC}{TP:o4 S pc}{pt:Tp}{E:AE S.T}{H:AH S.T}{o:Oper}{q:HL S.T pc}(h:F9 TP pt E H o.op=.op q):Cg P o (eV E) [] (nQ pt pc q):=by
 obtain⟨dst,op,ty,pos,aft,gd⟩:=o;unfold F9 at h;split at h
 .rename_i x e;cases e;split at h
  .rename_i q' hq;cases h;obtain⟨t,v,h1,h2,h3⟩:=zPw hS hq;rw[<- h3];exact zq4 (by rw[zJ];exact h1) h2
  .cases h
 .unfold J_ at h;split at h<;>cases h
 .split at h
  .unfold J_ at h;split at h<;>cases h
  .cases h
 .cases h
def Cx.Fg(X:Cx S):Prop:=X.pm=bg->o4.OK X.P (nQ X.pt X.rT.vs) X.TP
def ZZ{N:Nat}{gk:List (Nat×Nat)}{H F':AH S.T}{o:Oper}{kF kR:List Nat}(h:JL N gk H o kF kR F'=bg):Tq gk F'=bg:=by simp only[JL,bn]at h;exact h.2.2.2.2.2.2.2.2.2
def zVa{GK H H':ax}(hG:re GK H.get)(hk:KG H H'):KG GK H':=λp hp zz=>hk p (ax.get_mem (hG p hp)) zz
def zP8(hS:S.OK)(hT:ke.OK X.P X.T)(mo:X.Fg){inj:Option (HL S.T X.rT.vs->R)}{l:List Oper}{E:AE S.T}{H:AH S.T}(tv:re (pK S X.gk) (hV H).get)(h:(rg X l bd (Nj X inj) k 0 l E H []).Is r)(hQ:∀E H done,(k E H done).Is r->Q .normal (eV E) (hV H) [])
  (hp:∀q j,X.pm=bg->inj=bc j->j q=r->∀H',KG (pK S X.gk) H'->Q (.panic [tf (nQ X.pt X.rT.vs q)]) [] H' []):Zn c X.P rw0 X.N l Q l (eV E) (hV H) []:=by
 refine Gy (X:=X) (all:=l) hS hT (λ_ l' ρ H _=>re (pK S X.gk) H.get->Zn c X.P rw0 X.N l Q l' ρ H []) (λi E H done h _=>zT6 (hQ E H done h)) ?_ ?_ ?_ ?_ ?_ l 0 E H [] rfl h tv
 .intro i o rest E H kF kR a F' F Rr done hd hw hb hF hR hl fp _ _ _ _ hW hG;have kd:=hb;simp only[JL,bn]at kd;obtain⟨b1,b2,b3,b4,b5,b6,b7,b8⟩:=kd
  refine zHm λhn=>?_
  obtain⟨p1,p2⟩:=V2 (F:=F) hn b3 b5 b6 hR;have na:ua (kF++kR) (hV H)=bc (hV F++hV Rr):=V0 (vf hF) (vf hR);refine zUd (kF++kR) b1 hw b7 na hl (bj.2 λp hp=>?_) (zOp p2 ?_)
  .rcases bw.1 hp with hp|hp
   .obtain⟨q,hq,rfl⟩:=bz.1 hp;have:=(bj.1 b6) q hq;simp only[dc,cy,aW,bW,bw]at this ⊢
    rcases this with h|h
    .exact .inl (.inl h)
    .right;rw[<- og]at h;simp only[aX]
     exact λhm=>by rw[yK.2 hm]at h;cases h
   .have:=ay hp;rw[(xd (vf hR)).1]at this;simp[this]
  .rw[<- Gh];exact hW (VL (ZZ hb) hG)
 .intro i o rest E H done hd hw hb hW hG;simp only[bn]at hb;have:=hW hG;rw[Gh,show(A.raw (T:=S.T) .no).v=.no by simp only[A.v]]at this;have mD:=hb.1;unfold C8 at mD
  cases lf:o.dst with
  |none=>rw[lf]at this;exact zHd lf hw this
  |some d=>rw[lf]at this mD;exact zOg d lf mD hw this
 .intro i l' d v E H done hg hW hG;exact ah4 _ _ (zP6 hg) (hW hG)
 .intro i o rest E H done p hd hw h;unfold Nj at h
  cases hm:X.pm with
  |false=>rw[hm]at h;exact .inl h
  |true =>
   rw[hm,aH]at h;split at h
   .exact .inl h
   .rename_i q hq;obtain⟨j,h1,h2⟩:=XK h
    exact .inr λhG=>zL8 [] hw rfl rfl (zP7 hS hq) λH' hk=>hp q j hm h1 h2 H' (zVa hG hk)
   .rename_i t ht;obtain⟨h1,h2⟩:=AF h
    rcases Is.tA h2 with⟨q,hq,h3⟩|⟨_,h3⟩
    .cases hb:FR t H with
     |false=>rw[hb]at h3;exact(Is.fail h3).elim
     |true =>
      rw[hb,aH]at h3;obtain⟨j,g1,g2⟩:=XK h3;obtain⟨b1,F,Rr,hF,hR⟩:=zMi hb;obtain⟨dst,op,ty,pos,aft,gd⟩:=o
      exact .inr λhG=>zL8 (t.kF++t.kR) hw b1 (V0 (vf hF) (vf hR)) (zmt hS (mo hm) ht hq h1 F Rr hF hR) λH' hk=>hp q j hm g1 g2 H' (zVa hG hk)
    .exact .inl h3
 .intro _ i o rest E H done d b hw hq h1 h2 hG;obtain⟨t,x,t',e1,e2,ht,hd,sz,els,hx,hb⟩:=zP5 hq;obtain⟨dst,op,ty,pos,aft,gd⟩:=o;have e1:dst=bc d:=e1;have e2:op=_:=e2;subst e1;subst e2;exact zUw hd ht hx rfl hw (λe=>h1 (hb▸e) hG) (h2 hG)
def ai0{P:bm}{N:Nat}{all l:List Oper}{done:List FP}{ρ ρ':Env}{H:ax}{K:Env->ax->Prop}(hg:ρ'.get=ρ.get)(h:uu P N all done l ρ' H K):uu P N all done l ρ H K:=by unfold uu at h ⊢;rw[hg]at h;exact h
def Ts{i:Nat}{o:Oper}{rest:List Oper}{E:AE S.T}{H F' F Rr:AH S.T}{kF kR:List Nat}{a:A S.T}(hd:all.drop i=o::rest)(hw:yR all (eV E) o=bc bg)(hb:JL X.N X.gk H o kF kR F'=bg)(hF:qL kF H=bc F)(hR:qL kR H=bc Rr)
  (hl:EV.Loc X.P o (eV E) (hV F++hV Rr) a.v (hV F'++hV Rr)) (hn:(keys (hV H)).Nodup) {fp:FP} (f1:fp.i=i) (f2:fp.fk=oo F') (f3:fp.rk=kR) (f4:Ce X.P o (eV E).get (hV H).get (hV (YV H F')).get a.v fp):(keys (hV (YV H F'))).Nodup/\jJ X.P X.N all fp (eV E).get (hV H).get (eV (tH o a E)).get (hV (YV H F')).get:=by
 have kd:=hb;simp only[JL,bn]at kd;obtain⟨b1,b2,b3,b4,b5,b6,b7,b8⟩:=kd;obtain⟨p1,p2⟩:=V2 (F:=F) hn b3 b5 b6 hR
 have pg:all[i]?=bc o:=by have:=aQ (λx=>x[0]?) hd;simpa using this
 rw[VM]at b3 b5
 have e:(hV F'++qw kF (hV H)).get=(hV (YV H F')).get:=by
  funext k
  rw[VK,get_append];split
  .rfl
  .rename_i hk
   exact QK λh=>hk (by
    have:=(bj.1 b5) k h
    simpa using this)
 obtain⟨h1,h2⟩:=zPf (P:=X.P) (N:=X.N) (all:=all) (ρ:=eV E) (H:=hV H) (F:=hV F) (R:=hV Rr) (F':=hV F') i kF kR pg (AD b2) b1 hw (vf hF) (vf hR) b3 b4 b5 (bj.2 λp hp=>by
  obtain⟨q,hq,rfl⟩:=bz.1 hp;have:=(bj.1 b6) q hq;simp only[og]
  exact this) hl hn (fp:=fp) f1 (f2.trans (VM F')) f3 (by rw[e];exact f4)
 have sH:=KH hn F';rw[e,<- Gh]at h2;exact⟨sH,h2⟩
def zMj{i:Nat}{o:Oper}{rest:List Oper}{E:AE S.T}{H:AH S.T}(hd:all.drop i=o::rest)(hw:yR all (eV E) o=bc bd)(hb:(C8 X.N o&&QM o.op)=bg):jJ X.P X.N all (.m i [] []) (eV E).get (hV H).get (eV (tH o (.raw .no) E)).get (hV H).get:=by
 simp only[bn]at hb
 have pg:all[i]?=bc o:=by have:=aQ (λx=>x[0]?) hd;simpa using this
 refine⟨o,.no,pg,AD hb.2,λd lf=>?_,?_,.inl ⟨hw,rfl,rfl,rfl,rfl⟩⟩
 .have mD:=hb.1;unfold C8 at mD;rw[lf]at mD;exact lb mD
 .rw[Gh,show(A.raw (T:=S.T) .no).v=.no by simp only[A.v]];exact Vz _ _ _
def ext_get{d:Nat}{v:V}{ρ:Env}(hg:ρ.get d=v):Env.get ((d,v)::ρ)=ρ.get:=by
 funext t
 simp only[Env.get]
 cases ht:bk t d with
 |true =>
  have:=eb ht;subst this;exact hg.symm
 |false=>rfl
def Z1{α:Type}(a b:List α):(a++b).take ((a++b).length-b.length)=a:=by rw[la,Nat.add_sub_cancel,List.take_left'];rfl
def Pu(hS:S.OK)(hT:ke.OK X.P X.T){ip:Nat}:∀(l:List Oper)(i:Nat)(E:AE S.T)(H:AH S.T)(done:List FP),all.drop i=l->(keys (hV H)).Nodup->re (pK S X.gk) (hV H).get->(tC X all ip k i l E H done).Is r ->
  ∃fps E' H',wa (pK S X.gk) X.P X.N all fps.reverse (eV E).get (hV H).get (eV E').get (hV H').get/\(k E' H' (fps++done)).Is r
 |[],i,E,H,done,_,hn,hG,h=>⟨[],E,H,.nil,h⟩
 |o::rest,i,E,H,done,hd,hn,hG,h=>by
  have lf:all.drop (i+1)=rest:=by rw[<- dz,hd];rfl
  have go:∀E:AE S.T,yR all (eV E) o=bc bg->(rE X.N X.gk i o E H (λE' H' fp=>tC X all ip k (i+1) rest E' H' (fp::done)) (Bc X.P X.T X.cd E H (o.dst.getD 0+1000000) o.op)).Is r->∃fps E' H',wa (pK S X.gk) X.P X.N all fps.reverse (eV E).get (hV H).get (eV E').get (hV H').get/\(k E' H' (fps++done)).Is r:=λE hw h=>by obtain⟨kF,kR,a,F',F,Rr,h1,h2,h3,h4,h5⟩:=Pt (zMf hS hT) h;obtain⟨g1,g2⟩:=Ts (fp:=.m i (oo F') kR) hd hw h2 h3 h4 h5 hn rfl rfl rfl zLy;obtain⟨fps,E',H',g3,g4⟩:=Pu hS hT rest (i+1) _ _ _ lf g1 (VL (ZZ h2) hG) h1;exact⟨fps++[.m i (oo F') kR],E',H',by rw[fU];exact .cons g2 (VL (ZZ h2) hG) g3,by rw[gO];exact g4⟩
  have sk:∀E:AE S.T,yR all (eV E) o=bc bd->(Bf X.N i o E H λE' H' fp=>tC X all ip k (i+1) rest E' H' (fp::done)).Is r->∃fps E' H',wa (pK S X.gk) X.P X.N all fps.reverse (eV E).get (hV H).get (eV E').get (hV H').get/\(k E' H' (fps++done)).Is r:=λE hw h=>by
   unfold Bf at h
   cases hb:C8 X.N o&&QM o.op with
   |false=>rw[hb]at h;exact(Is.fail h).elim
   |true =>rw[hb]at h;obtain⟨fps,E',H',g3,g4⟩:=Pu hS hT rest (i+1) _ _ _ lf hn hG h;exact⟨fps++[.m i [] []],E',H',by rw[fU];exact .cons (zMj hd hw hb) hG g3,by rw[gO];exact g4⟩
  simp only[tC]at h
  cases GY:pD (jk all []) i ip with
  |true=>rw[GY,aH]at h;exact Pu hS hT rest (i+1) _ _ _ lf hn hG h
  |false =>
   rw[GY,cf]at h;split at h
   .exact(Is.fail h).elim
   .rename_i hw;exact go E (Uz hw) h
   .rename_i hw;exact sk E (zga hw) h
   .rename_i d t want hw;obtain⟨h1,h2⟩:=zmw hw;obtain⟨h3,h4⟩:=Is.rO h
    have key:∀b,(eV E).get d=.bool b->Env.get (eV (((d,.raw (.bool b))::E):AE S.T))=(eV E).get:=λb hb=>ext_get hb
    cases t with
    |true =>
     have h3:=h3 rfl;have h2:=h2 bg;rw[<- key bg h1]
     cases want with
     |true=>exact go ((d,.raw (.bool bg))::E) h2 h3
     |false=>exact sk ((d,.raw (.bool bg))::E) h2 h3
    |false =>
     have h4:=h4 rfl;have h2:=h2 bd;rw[<- key bd h1]
     cases want with
     |true=>exact sk ((d,.raw (.bool bd))::E) h2 h4
     |false=>exact go ((d,.raw (.bool bd))::E) h2 h4
def zP9(hS:S.OK)(hT:ke.OK X.P X.T)(mo:X.Fg){inj:Option (HL S.T X.rT.vs->R)}{l:List Oper}{E:AE S.T}{H:AH S.T}{K:Env->ax->Prop}(tv:re (pK S X.gk) (hV H).get)(h:(rg X l bg (Ni X l inj) (λE H done=>bif jf l (jk l []) done.reverse then k E H done else .fail) 0 l E H []).Is r)(hQ:∀E H done,(k E H done).Is r->K (eV E) (hV H)):
  uu X.P X.N l [] l (eV E) (hV H) K∨∃q j,X.pm=bg/\inj=bc j/\j q=r/\NX (pK S X.gk) X.P X.N l (eV E) (hV H) (nQ X.pt X.rT.vs q):=by
 by_cases nv:(keys (hV H)).Nodup
 rotate_left
 .exact .inl ⟨[],eV E,hV H,λh=>aU h nv⟩
 generalize hPP:(∃q j,X.pm=bg/\inj=bc j/\j q=r/\NX (pK S X.gk) X.P X.N l (eV E) (hV H) (nQ X.pt X.rT.vs q))=PP;refine Gy (X:=X) (all:=l) hS hT (λ_ l' ρ H' done=>((keys H').Nodup/\re (pK S X.gk) H'.get/\wa (pK S X.gk) X.P X.N l done.reverse (eV E).get (hV H).get ρ.get H'.get)->(uu X.P X.N l done l' ρ H' K∨PP)) (λi E H done h _=>?_) ?_ ?_ ?_ ?_ (λe=>by cases e) l 0 E H [] rfl h ⟨nv,tv,.nil⟩
 .cases hb:jf l (jk l []) done.reverse with
  |false=>rw[hb]at h;exact(Is.fail h).elim
  |true=>rw[hb]at h;exact .inl (ai1 hb (hQ E H done h))
 .intro i o rest E1 H1 kF kR a F' F Rr done hd hw hb hF hR hl fp f1 f2 f3 f4 hW su;have kd:=hb;simp only[JL,bn]at kd;obtain⟨b1,b2,b3,b4,b5,b6,b7,b8⟩:=kd;have hlen:=aQ bf hd;simp only[bU,lc]at hlen
  have pg:l[i]?=bc o:=by have:=aQ (λx=>x[0]?) hd;simpa using this
  rcases hW (by
   obtain⟨hn,hG,mu⟩:=su;obtain⟨g1,g2⟩:=Ts hd hw hb hF hR hl hn f1 f2 f3 f4;have MZ:=VL (ZZ hb) hG
   exact⟨g1,MZ,by rw[abA];exact mu.app (.cons g2 MZ .nil)⟩)with hW|hW
  .left;exact zL0 (fp:=fp) ab ab (λhn=>Ts hd hw hb hF hR hl hn f1 f2 f3 f4) hW
  .exact .inr hW
 .intro i o rest E1 H1 done hd hw hb hW su;have hlen:=aQ bf hd;simp only[bU,lc]at hlen
  have pg:l[i]?=bc o:=by have:=aQ (λx=>x[0]?) hd;simpa using this
  rcases hW (by
   obtain⟨hn,hG,mu⟩:=su
   exact⟨hn,hG,by rw[abA];exact mu.app (.cons (zMj hd hw hb) hG .nil)⟩)with hW|hW
  .left;simp only[bn]at hb;have:=hW;rw[Gh,show(A.raw (T:=S.T) .no).v=.no by simp only[A.v]]at this;exact zUj i ab (ez ab) pg (AD hb.2) hb.1 hw this
  .exact .inr hW
 .intro i l' d v E1 H1 done hg hW su
  rcases hW (by rw[ext_get hg];exact su)with hW|hW
  .exact .inl (ai0 (ext_get hg) hW)
  .exact .inr hW
 .intro i o rest E1 H1 done p hd hw h;unfold Ni at h
  cases hm:X.pm with
  |false=>rw[hm]at h;exact .inl h
  |true =>
   rw[hm,aH]at h;split at h
   .exact .inl h
   .exact(Is.fail h).elim
   .rename_i t ht;obtain⟨h1,h2⟩:=AF h
    rcases Is.tA h2 with⟨q,hq,h3⟩|⟨_,h3⟩
    .right;intro su;right
     cases hb:FR t H1 with
     |false=>rw[hb]at h3;exact(Is.fail h3).elim
     |true =>
      rw[hb,aH]at h3;obtain⟨b1,F,Rr,hF,hR⟩:=zMi hb
      have pg:l[i]?=bc o:=by have:=aQ (λx=>x[0]?) hd;simpa using this
      have lf:l.drop (i+1)=rest:=by rw[<- dz,hd];rfl
      have PQ:Cg X.P o (eV E1) (hV F++hV Rr) (nQ X.pt X.rT.vs q):=by obtain⟨dst,op,ty,pos,aft,gd⟩:=o;exact zmt hS (mo hm) ht hq h1 F Rr hF hR
      have PW:(keys (hV H1)).Nodup->QN X.P l (.m i t.kF t.kR) (eV E1).get (hV H1).get (nQ X.pt X.rT.vs q):=λhn=>by
       obtain⟨f1,f2⟩:=xd (vf hF);obtain⟨r1,r2⟩:=xd (vf hR);refine⟨o,hV F,hV Rr,pg,hw,I5.congr (g:=a_ (eV E1)) PQ λx _=>Ly (eV E1) x,?_,f1,r1,λp hp=>?_⟩
       .rw[zC,f1,r1];exact yj b1
       .rcases bw.1 hp with hp|hp
        .exact get_of_mem hn (f2 p hp)
        .exact get_of_mem hn (r2 p hp)
      subst hPP
      .obtain⟨hn,hG,mu⟩:=su;obtain⟨fps,E',H',g1,g2⟩:=Pu hS hT rest (i+1) E1 H1 done lf hn hG h3
       cases hc:Pm l (.m i t.kF t.kR) (fps++done).reverse&&((fps++done).take ((fps++done).length-done.length)).all (λx=>Jf l x (.m i t.kF t.kR))with
       |false=>rw[hc]at g2;exact(Is.fail g2).elim
       |true =>
        rw[hc,aH]at g2;obtain⟨j,j1,j2⟩:=XK g2;simp only[bn]at hc;have G0:=hc.2;rw[Z1]at G0;refine⟨q,j,hm,j1,j2,zIg (fps:=(fps++done).reverse) (p:=.m i t.kF t.kR) (e2:=(eV E').get) (η2:=(hV H').get) (λ_=>⟨?_,tv,?_⟩) hc.1⟩
        .rw[fU];exact mu.app g1
        .refine wa.fwd g1 (PW hn) λx hx=>?_
         exact(bj.1 G0) x (List.mem_reverse.1 hx)
    .exact .inl h3
end
end
section
variable{S:lD}
inductive HT(S:lD)(co:List TC):Type 1 where
 |n
 |s (a b:HT S co)
 |j (T:Tm) (ret:Bool) (a:HT S co)
 |l (T:Tm) (so:List (Nat×Tp)) (ho:List (Nat×TO)) (vo:List TC) (id:Nat) (fn:HL S.T T.cs->Nat->HL S.T T.vs->Option (HL S.T vo)) (a:HT S co)
 |lr (T:Tm) (so:List (Nat×Tp)) (ho:List (Nat×TO)) (vo:List TC) (id:Nat) (fn:HL S.T T.cs->Nat->HL S.T T.vs->Option (HL S.T co⊕HL S.T vo)) (a:HT S co)
 |lr2 (s1:List (Nat×Tp)) (h1:List (Nat×TO)) (v1:List TC) (s2:List (Nat×Tp)) (h2:List (Nat×TO)) (v2:List TC) (so:List (Nat×Tp)) (ho:List (Nat×TO)) (vo:List TC) (id:Nat) (fn:Nat->HL S.T v1⊕HL S.T v2->Option (HL S.T co⊕HL S.T vo)) (a1 a2:HT S co)
def HT.a{co:List TC}:HT S co->HT S co
 |.s a _=>a
 |_=>.n
def HT.b{co:List TC}:HT S co->HT S co
 |.s _ b=>b
 |_=>.n
def NC{R:Type}(X:Cx S)(inj:Option (HL S.T X.rT.vs->R))(E:AE S.T)(H:AH S.T):Pg R:=match inj with
 |none=>.fail
 |some i=>bif X.pm then .fail else bif (X.cd 5000000).isSome then adh X.rT X.K0 E H X.x λv=>.ret (bc (i v))else pQ X.rT X.K0 E H X.x λv=>.ret (bc (i v))
def zCl{R:Type}{r:R}{X:Cx S}{inj:Option (HL S.T X.rT.vs->R)}{E:AE S.T}{H:AH S.T}(h:(NC X inj E H).Is r):X.pm=bd/\∃i v,inj=bc i/\X.rT.GX X.K0 E H X.x v/\i v=r:=by
 unfold NC at h;split at h
 .exact(Is.fail h).elim
 .rename_i i
  cases z':X.pm with
  |true=>rw[z']at h;exact(Is.fail h).elim
  |false =>
   rw[z',cf]at h
   cases hc:(X.cd 5000000).isSome with
   |true =>
    rw[hc,aH]at h;obtain⟨v,g1,g2⟩:=zPy h;exact⟨rfl,i,v,rfl,g1,Option.some.inj (Is.ret g2)⟩
   |false =>rw[hc,cf]at h;obtain⟨v,g1,g2⟩:=kL h;exact⟨rfl,i,v,rfl,g1,Option.some.inj (Is.ret g2)⟩
abbrev y7(X:Cx S):=HT S X.rT.vs->(R:Type)->Option (HL S.T X.rT.vs->R)->(AE S.T->AH S.T->Pg R)->(Nat->AE S.T->AH S.T->Pg R)->AE S.T->AH S.T->Pg R
def Ew{α R:Type}(inj:Option (α->R))(q:α):Option R:=match inj with
 |some i=>bc (i q)
 |none=>bh
def wrap(X:Cx S)(h:HT S X.rT.vs)(f:y7 X)(R:Type)(inj:Option (HL S.T X.rT.vs->R))(kn:AE S.T->AH S.T->Pg R)(kx:Nat->AE S.T->AH S.T->Pg R)(E:AE S.T)(H:AH S.T):Pg R:=match h with
 |.j T ret h'=>match Ul T [] [] E H with
  |none=>.fail
  |some xc=>bif ret then
    .jr (f h' (HL S.T X.rT.vs⊕HL S.T T.vs) (bc .inl) (λE' H'=>pQ T X.K0 E' H' xc λv=>.ret (bc (.inr v))) (λ_ _ _=>.fail) E H) (Ew inj) (λv=>kn (T.nk xc v) (T.mR xc v))
   else .jn (f h' (HL S.T T.vs) bh (λE' H'=>pQ T X.K0 E' H' xc λv=>.ret (bc v)) (λ_ _ _=>.fail) E H) λv=>kn (T.nk xc v) (T.mR xc v)
 |h=>f h R inj kn kx E H
def Uq{R:Type}(X:Cx S)(f:y7 X)(T:Tm)(To:Tm)(hT:T.cs=To.cs)(id:Nat)(fn:HL S.T T.cs->Nat->HL S.T T.vs->Option (HL S.T To.vs))(h:HT S X.rT.vs)(kx:Nat->AE S.T->AH S.T->Pg R)(E:AE S.T)(H:AH S.T):Pg R:=match Ul T To.sl To.hp E H with
 |none=>.fail
 |some xc=>pQ T X.K0 E H xc λv0 =>
  .pJ (λq:HL S.T T.vs=>fn xc 0 q) (λ_=>bh)
   (.lp (R0:=HL S.T To.vs) (X:=Nat×HL S.T T.vs)
    (λq=>f h (HL S.T To.vs) bh (λE' H'=>pQ T X.K0 E' H' xc λv=>.ret (fn xc q.1 v))
     (λi E' H'=>bif bk i id then pQ To X.K0 E' H' (hT▸xc) λv=>.ret (bc v)else .fail) (T.nk xc q.2) (T.mR xc q.2))
    (λq=>fn xc (q.1+1) q.2)
    (.iJ (fn xc X.kk v0) λv=>kx id (To.nk (hT▸xc) v) (To.mR (hT▸xc) v)))
def Ur{R:Type}(X:Cx S)(f:y7 X)(T:Tm)(To:Tm)(hT:T.cs=To.cs)(id:Nat)(fn:HL S.T T.cs->Nat->HL S.T T.vs->Option (HL S.T X.rT.vs⊕HL S.T To.vs))(h:HT S X.rT.vs)(inj:Option (HL S.T X.rT.vs->R))(kx:Nat->AE S.T->AH S.T->Pg R)(E:AE S.T)(H:AH S.T):Pg R:=match Ul T To.sl To.hp E H with
 |none=>.fail
 |some xc=>pQ T X.K0 E H xc λv0 =>
  .pJ (λq:HL S.T T.vs=>fn xc 0 q) (λ_=>bh)
   (.lp (R0:=HL S.T X.rT.vs⊕HL S.T To.vs) (X:=Nat×HL S.T T.vs)
    (λq=>f h (HL S.T X.rT.vs⊕HL S.T To.vs) (bc .inl) (λE' H'=>pQ T X.K0 E' H' xc λv=>.ret (fn xc q.1 v))
     (λi E' H'=>bif bk i id then pQ To X.K0 E' H' (hT▸xc) λv=>.ret (bc (.inr v))else .fail) (T.nk xc q.2) (T.mR xc q.2))
    (λq=>fn xc (q.1+1) q.2)
    (.jr (.ret (fn xc X.kk v0)) (Ew inj) λv=>kx id (To.nk (hT▸xc) v) (To.mR (hT▸xc) v)))
def NS{R:Type}(X:Cx S)(f:y7 X)(s1:List (Nat×Tp))(h1:List (Nat×TO))(v1:List TC)(s2:List (Nat×Tp))(h2:List (Nat×TO))(v2:List TC)(so:List (Nat×Tp))(ho:List (Nat×TO))(vo:List TC)(id:Nat)(fn:Nat->HL S.T v1⊕HL S.T v2->Option (HL S.T X.rT.vs⊕HL S.T vo))(a1 a2:HT S X.rT.vs)(inj:Option (HL S.T X.rT.vs->R))(kx:Nat->AE S.T->AH S.T->Pg R)(q0:HL S.T v1⊕HL S.T v2):Pg R:=
  .pJ (λq:HL S.T v1⊕HL S.T v2=>fn 0 q) (λ_=>bh)
   (.lp (R0:=HL S.T X.rT.vs⊕HL S.T vo) (X:=Nat×HL S.T v1)
    (λq=>f a1 (HL S.T X.rT.vs⊕HL S.T vo) (bc .inl) (λE' H'=>I8 ⟨s1,h1,[],v1⟩ ⟨s2,h2,[],v2⟩ X.K0 E' H' () () (λv=>.ret (fn q.1 (.inl v))) (λv=>.ret (fn q.1 (.inr v))))
     (λi E' H'=>bif bk i id then pQ ⟨so,ho,[],vo⟩ X.K0 E' H' () λv=>.ret (bc (.inr v))else .fail) (Tm.nk ⟨s1,h1,[],v1⟩ () q.2) (Tm.mR ⟨s1,h1,[],v1⟩ () q.2))
    (λq=>fn (q.1+1) (.inl q.2))
   (.lp (R0:=HL S.T X.rT.vs⊕HL S.T vo) (X:=Nat×HL S.T v2)
    (λq=>f a2 (HL S.T X.rT.vs⊕HL S.T vo) (bc .inl) (λE' H'=>I8 ⟨s1,h1,[],v1⟩ ⟨s2,h2,[],v2⟩ X.K0 E' H' () () (λv=>.ret (fn q.1 (.inl v))) (λv=>.ret (fn q.1 (.inr v))))
     (λi E' H'=>bif bk i id then pQ ⟨so,ho,[],vo⟩ X.K0 E' H' () λv=>.ret (bc (.inr v))else .fail) (Tm.nk ⟨s2,h2,[],v2⟩ () q.2) (Tm.mR ⟨s2,h2,[],v2⟩ () q.2))
    (λq=>fn (q.1+1) (.inr q.2))
    (.jr (.ret (fn X.kk q0)) (Ew inj) λv=>kx id (Tm.nk ⟨so,ho,[],vo⟩ () v) (Tm.mR ⟨so,ho,[],vo⟩ () v))))
def Us{R:Type}(X:Cx S)(inj:Option (HL S.T X.rT.vs->R))(l:List Oper)(draw:Bool)(kn:AE S.T->AH S.T->Pg R)(E:AE S.T)(H:AH S.T):Pg R:=bif N1 X.gk H then bif draw then
  bif Vw l then rg X l bg (Ni X l inj) (λE H done=>bif jf l (jk l []) done.reverse then kn E H else .fail) 0 l E H []else .fail
 else rg X l bd (Nj X inj) (λE H _=>kn E H) 0 l E H []else .fail
def adD{R:Type}(X:Cx S)(inj:Option (HL S.T X.rT.vs->R))(l:List Oper)(draw:Bool)(kn:AE S.T->AH S.T->Pg R)(E:AE S.T)(H:AH S.T):Pg R:=Us X inj l draw (λE H=>match OV X.nb H with
 |(H',q)=>Ch (kn E H') q) E H
def ev(X:Cx S):Code->y7 X
 |.skip,_,_,_,kn,_,E,H=>kn E H
 |.exit id,_,_,_,_,kx,E,H=>kx id E H
 |.ret,_,_,inj,_,_,E,H=>NC X inj E H
 |.seq a b,h,R,inj,kn,kx,E,H=>wrap X h.a (ev X a) R inj (λE H=>wrap X h.b (ev X b) R inj kn kx E H) kx E H
 |.cond c a b,h,R,inj,kn,kx,E,H=>match bV E c with
  |.gC .b t=>.rO t (wrap X h.a (ev X a) R inj kn kx E H) (wrap X h.b (ev X b) R inj kn kx E H)
  |.raw (.bool bg)=>wrap X h.a (ev X a) R inj kn kx E H
  |.raw (.bool bd)=>wrap X h.b (ev X b) R inj kn kx E H
  |_=>.fail
 |.block id a,h,R,inj,kn,kx,E,H=>wrap X h.a (ev X a) R inj kn (λi E H=>bif bk i id then kn E H else kx i E H) E H
 |.region _ ops draw,_,_,inj,kn,_,E,H=>adD X inj ops.toList draw kn E H
 |.loop a,h,_,inj,_,kx,E,H=>match h with
  |.l T so ho vo id fn hb=>Uq X (λh'=>wrap X h' (ev X a)) T ⟨so,ho,T.cs,vo⟩ rfl id fn hb kx E H
  |.lr T so ho vo id fn hb=>Ur X (λh'=>wrap X h' (ev X a)) T ⟨so,ho,T.cs,vo⟩ rfl id fn hb inj kx E H
  |.lr2 s1 h1 v1 s2 h2 v2 so ho vo id fn a1 a2=>I8 ⟨s1,h1,[],v1⟩ ⟨s2,h2,[],v2⟩ X.K0 E H () () (λv=>NS X (λh'=>wrap X h' (ev X a)) s1 h1 v1 s2 h2 v2 so ho vo id fn a1 a2 inj kx (.inl v)) (λv=>NS X (λh'=>wrap X h' (ev X a)) s1 h1 v1 s2 h2 v2 so ho vo id fn a1 a2 inj kx (.inr v))
  |_=>.fail
 |.scope a,h,R,inj,kn,kx,E,H=>wrap X h.a (ev X a) R inj kn kx E H
 |.label _,_,_,_,kn,_,E,H=>kn E H
 |_,_,_,_,_,_,_,_=>.fail
def Ex(K0:List Nat)(Q:xH):xH:=λe ρ H ds=>∃lS H1,Cut K0 ρ H lS H1/\Q e lS H1 ds
def YW{K0:List Nat}{c:Ctx K0}{P:bm}{r:Option Nat}{N:Nat}{x:Code}{Q:xH}{ρ:Env}{H:ax}{ds:List Deferred}(h:lK c P r N x (Ex K0 Q) ρ H ds):lK c P r N x Q ρ H ds:=λρr w iX SA hM=>LU (h ρr w iX SA hM) λe y2 lX w' ⟨ρ',H',S',lT,lS,H1,hc,hQ⟩=>⟨lS,H1,hc c _ _ S',lT,hQ⟩
variable(X:Cx S)(c:Ctx X.K0)
def Fin(q:HL S.T X.rT.vs)(Q:xH):Prop:=(X.pm=bd->Q .ret (eV (X.rT.nk X.x q)) (hV (X.rT.mR X.x q)) [])/\(X.pm=bg->∀H',KG (pK S X.gk) H'->Q (.panic [tf (nQ X.pt X.rT.vs q)]) [] H' [])
def Fi(f:y7 X)(code:Code):Prop:=∀(h:HT S X.rT.vs)(R:Type)(inj:Option (HL S.T X.rT.vs->R))(kn:AE S.T->AH S.T->Pg R)(kx:Nat->AE S.T->AH S.T->Pg R)(E:AE S.T)(H:AH S.T)(r:R)(Q:xH),
 (f h R inj kn kx E H).Is r->(∀E' H',(kn E' H').Is r->Q .normal (eV E') (hV H') [])->(∀i E' H',(kx i E' H').Is r->Q (.exit i) (eV E') (hV H') []) ->
 (∀q i,inj=bc i->i q=r->Fin X q Q)->lK c X.P bh X.N code Q (eV E) (hV H) []
variable{X c}
def Fin.cut{K0:List Nat}{q:HL S.T X.rT.vs}{Q:xH}(h:Fin X q Q):Fin X q (Ex K0 Q):=⟨λe=>⟨_,_,Cut.refl,h.1 e⟩,λe H' hk=>⟨_,_,Cut.refl,h.2 e H' hk⟩⟩
def UA{α R:Type}{inj:Option (α->R)}{q:α}{r:R}(h:Ew inj q=bc r):∃i,inj=bc i/\i q=r:=by
 unfold Ew at h;split at h
 .cases h;exact⟨_,rfl,rfl⟩
 .cases h
def wA(hS:S.OK){f:y7 X}{code:Code}(hf:Fi X c f code):Fi X c (λh=>wrap X h f) code:=by
 intro h R inj kn kx E H r Q hI hn hx hr;simp only[wrap]at hI;split at hI
 .rename_i T ret h';split at hI
  .exact(Is.fail hI).elim
  .rename_i xc _
   cases ret with
   |true =>
    rw[aH]at hI;refine YW ?_
    rcases Is.jr hI with⟨q,h1,h2⟩|⟨s,h1,h2⟩
    .refine hf _ _ _ _ _ _ _ _ (Ex X.K0 Q) h1 (λE' H' g=>?_) (λ_ _ _ g=>(Is.fail g).elim) (λq' i e1 e2=>?_)
     .obtain⟨v,g1,g2⟩:=kL g;have:=Is.ret g2;cases this
     .cases e1;cases e2;obtain⟨i,e3,e4⟩:=UA h2;exact(hr _ i e3 e4).cut
    .refine hf _ _ _ _ _ _ _ _ (Ex X.K0 Q) h1 (λE' H' g=>?_) (λ_ _ _ g=>(Is.fail g).elim) (λq' i e1 e2=>?_)
     .obtain⟨v,g1,g2⟩:=kL g;have:=Is.ret g2;cases this;exact⟨_,_,xR hS g1,hn _ _ h2⟩
     .cases e1;cases e2
   |false =>
    rw[cf]at hI;refine YW ?_;obtain⟨s,h1,h2⟩:=Is.jn hI;refine hf _ _ _ _ _ _ _ _ (Ex X.K0 Q) h1 (λE' H' g=>?_) (λ_ _ _ g=>(Is.fail g).elim) (λq' i e1 e2=>?_)
    .obtain⟨v,g1,g2⟩:=kL g;have:=Is.ret g2;cases this;exact⟨_,_,xR hS g1,hn _ _ h2⟩
    .cases e1
 .exact hf _ _ _ _ _ _ _ _ Q hI hn hx hr
def zI3(hS:S.OK){R:Type}{r:R}{f:y7 X}{a:Code}(hf:Fi X c f a){T To:Tm}{Il:T.cs=To.cs}{id:Nat}{fn:HL S.T T.cs->Nat->HL S.T T.vs->Option (HL S.T To.vs)}{h:HT S X.rT.vs}{kx:Nat->AE S.T->AH S.T->Pg R}{E:AE S.T}{H:AH S.T}{Q:xH}
  (hI:(Uq X f T To Il id fn h kx E H).Is r) (hx:∀i E' H',(kx i E' H').Is r->Q (.exit i) (eV E') (hV H') []):lK c X.P bh X.N (.loop a) Q (eV E) (hV H) []:=by
 unfold Uq at hI;split at hI
 .exact(Is.fail hI).elim
 .rename_i xc _;obtain⟨v0,h1,h2⟩:=kL hI;obtain⟨h3,h4⟩:=Is.pJ h2;obtain⟨h5,h6⟩:=Is.lp h4;obtain⟨z,h7,h8⟩:=Is.iJ h6;refine YW ?_
  refine S_ (λq=>eV (T.nk xc q)) (λq=>hV (T.mR xc q)) (fn xc) (λq=>congrFun h3 q) X.kk v0 h7 (xR hS h1) λK q hq=>?_
  refine hf _ _ _ _ _ _ _ _ _ (h5 (K,q) z hq) (λE' H' g=>?_) (λi E' H' g=>?_) (λq' i e1 e2=>?_)
  .obtain⟨v,g1,g2⟩:=kL g;exact ZQ v (Is.ret g2) (xR hS g1)
  .cases hb:bk i id with
   |false=>rw[hb]at g;exact(Is.fail g).elim
   |true =>
    rw[hb,aH]at g;have:=eb hb;subst this;obtain⟨v,g1,g2⟩:=kL g;have:=Is.ret g2;cases this;exact Vx ⟨_,_,xR hS g1,hx _ _ _ h8⟩
  .cases e1
def zI4(hS:S.OK){R:Type}{r:R}{f:y7 X}{a:Code}(hf:Fi X c f a){T To:Tm}{Il:T.cs=To.cs}{id:Nat}{fn:HL S.T T.cs->Nat->HL S.T T.vs->Option (HL S.T X.rT.vs⊕HL S.T To.vs)}{h:HT S X.rT.vs}{inj:Option (HL S.T X.rT.vs->R)}{kx:Nat->AE S.T->AH S.T->Pg R}{E:AE S.T}{H:AH S.T}{Q:xH}
  (hI:(Ur X f T To Il id fn h inj kx E H).Is r) (hx:∀i E' H',(kx i E' H').Is r->Q (.exit i) (eV E') (hV H') [])
  (hr:∀q i,inj=bc i->i q=r->Fin X q Q):lK c X.P bh X.N (.loop a) Q (eV E) (hV H) []:=by
 unfold Ur at hI;split at hI
 .exact(Is.fail hI).elim
 .rename_i xc _;obtain⟨v0,h1,h2⟩:=kL hI;obtain⟨h3,h4⟩:=Is.pJ h2;obtain⟨h5,h6⟩:=Is.lp h4
  have hz:∃z,fn xc X.kk v0=bc z/\((∃q,z=.inl q/\Ew inj q=bc r)∨∃s,z=.inr s/\(kx id (To.nk (Il▸xc) s) (To.mR (Il▸xc) s)).Is r):=by
   rcases Is.jr h6 with⟨q,g1,g2⟩|⟨s,g1,g2⟩
   .exact⟨_,Is.ret g1,.inl ⟨q,rfl,g2⟩⟩
   .exact⟨_,Is.ret g1,.inr ⟨s,rfl,g2⟩⟩
  obtain⟨z,h7,h8⟩:=hz;refine YW ?_
  refine S_ (λq=>eV (T.nk xc q)) (λq=>hV (T.mR xc q)) (fn xc) (λq=>congrFun h3 q) X.kk v0 h7 (xR hS h1) λK q hq=>?_
  refine hf _ _ _ _ _ _ _ _ _ (h5 (K,q) z hq) (λE' H' g=>?_) (λi E' H' g=>?_) (λq' i e1 e2=>?_)
  .obtain⟨v,g1,g2⟩:=kL g;exact ZQ v (Is.ret g2) (xR hS g1)
  .cases hb:bk i id with
   |false=>rw[hb]at g;exact(Is.fail g).elim
   |true =>
    rw[hb,aH]at g;have:=eb hb;subst this;obtain⟨v,g1,g2⟩:=kL g;have:=Is.ret g2;cases this
    rcases h8 with⟨q,e,_⟩|⟨s,e,g3⟩
    .cases e
    .cases e;exact Vx ⟨_,_,xR hS g1,hx _ _ _ g3⟩
  .cases e1;cases e2
   rcases h8 with⟨q,e,g3⟩|⟨s,e,_⟩
   .cases e;obtain⟨i,e3,e4⟩:=UA g3;have hF:=(hr _ i e3 e4).cut (K0:=X.K0);exact⟨λe=>V6 (hF.1 e),λe H'=>hF.2 e H'⟩
   .cases e
def zue(hS:S.OK){R:Type}{r:R}{f:y7 X}{a:Code}(hf:Fi X c f a){s1:List (Nat×Tp)}{h1:List (Nat×TO)}{v1:List TC}{s2:List (Nat×Tp)}{h2:List (Nat×TO)}{v2:List TC}{so:List (Nat×Tp)}{ho:List (Nat×TO)}{vo:List TC}{id:Nat}{fn:Nat->HL S.T v1⊕HL S.T v2->Option (HL S.T X.rT.vs⊕HL S.T vo)}{a1 a2:HT S X.rT.vs}{inj:Option (HL S.T X.rT.vs->R)}{kx:Nat->AE S.T->AH S.T->Pg R}{q0:HL S.T v1⊕HL S.T v2}{E:AE S.T}{H:AH S.T}{Q:xH}
  (hI:(NS X f s1 h1 v1 s2 h2 v2 so ho vo id fn a1 a2 inj kx q0).Is r) (h0:Cut X.K0 (eV E) (hV H) (eV (match q0 with|.inl v=>Tm.nk ⟨s1,h1,[],v1⟩ () v|.inr v=>Tm.nk ⟨s2,h2,[],v2⟩ () v)) (hV (match q0 with|.inl v=>Tm.mR ⟨s1,h1,[],v1⟩ () v|.inr v=>Tm.mR ⟨s2,h2,[],v2⟩ () v)))
  (hx:∀i E' H',(kx i E' H').Is r->Q (.exit i) (eV E') (hV H') []) (hr:∀q i,inj=bc i->i q=r->Fin X q Q):lK c X.P bh X.N (.loop a) Q (eV E) (hV H) []:=by
 unfold NS at hI;obtain⟨h3,h4⟩:=Is.pJ hI;obtain⟨h5,h4⟩:=Is.lp h4;obtain⟨agx,h6⟩:=Is.lp h4
 have hz:∃z,fn X.kk q0=bc z/\((∃q,z=.inl q/\Ew inj q=bc r)∨∃s,z=.inr s/\(kx id (Tm.nk ⟨so,ho,[],vo⟩ () s) (Tm.mR ⟨so,ho,[],vo⟩ () s)).Is r):=by
  rcases Is.jr h6 with⟨q,g1,g2⟩|⟨s,g1,g2⟩
  .exact⟨_,Is.ret g1,.inl ⟨q,rfl,g2⟩⟩
  .exact⟨_,Is.ret g1,.inr ⟨s,rfl,g2⟩⟩
 obtain⟨z,h7,h8⟩:=hz;refine YW ?_
 refine S_ (λq=>eV (match q with|.inl v=>Tm.nk ⟨s1,h1,[],v1⟩ () v|.inr v=>Tm.nk ⟨s2,h2,[],v2⟩ () v)) (λq=>hV (match q with|.inl v=>Tm.mR ⟨s1,h1,[],v1⟩ () v|.inr v=>Tm.mR ⟨s2,h2,[],v2⟩ () v)) fn (λq=>congrFun h3 q) X.kk q0 h7 h0 λK q hq=>?_
 have Mp:∀E' H',(I8 ⟨s1,h1,[],v1⟩ ⟨s2,h2,[],v2⟩ X.K0 E' H' () () (λv=>Pg.ret (fn K (.inl v))) (λv=>Pg.ret (fn K (.inr v)))).Is z->∃q':HL S.T v1⊕HL S.T v2,fn K q'=bc z/\Cut X.K0 (eV E') (hV H') (eV (match q' with|.inl v=>Tm.nk ⟨s1,h1,[],v1⟩ () v|.inr v=>Tm.nk ⟨s2,h2,[],v2⟩ () v)) (hV (match q' with|.inl v=>Tm.mR ⟨s1,h1,[],v1⟩ () v|.inr v=>Tm.mR ⟨s2,h2,[],v2⟩ () v)):=λE' H' g=>by
  rcases zt9 g with⟨v,g1,g2⟩|⟨v,g1,g2⟩
  .exact⟨.inl v,Is.ret g2,xR hS g1⟩
  .exact⟨.inr v,Is.ret g2,xR hS g1⟩
 have adJ:∀i E' H',(bif bk i id then pQ ⟨so,ho,[],vo⟩ X.K0 E' H' () (λv=>Pg.ret (bc (Sum.inr v)))else Pg.fail:Pg (HL S.T X.rT.vs⊕HL S.T vo)).Is z->i=id/\∃s,z=.inr s/\Cut X.K0 (eV E') (hV H') (eV (Tm.nk ⟨so,ho,[],vo⟩ () s)) (hV (Tm.mR ⟨so,ho,[],vo⟩ () s)):=λi E' H' g=>by
  cases hb:bk i id with
  |false=>rw[hb]at g;exact(Is.fail g).elim
  |true =>
   rw[hb,aH]at g;obtain⟨v,g1,g2⟩:=kL g;have:=Is.ret g2;cases this;exact⟨eb hb,v,rfl,xR hS g1⟩
 have pS:∀q' i,(bc Sum.inl:Option (HL S.T X.rT.vs->HL S.T X.rT.vs⊕HL S.T vo))=bc i->i q'=z->Fin X q' (Ex X.K0 Q):=λq' i e1 e2=>by
  cases e1;cases e2
  rcases h8 with⟨q,e,g3⟩|⟨s,e,_⟩
  .cases e;obtain⟨i,e3,e4⟩:=UA g3;exact(hr _ i e3 e4).cut (K0:=X.K0)
  .cases e
 cases q with
 |inl v =>
  refine hf _ _ _ _ _ _ _ _ _ (h5 (K,v) z hq) (λE' H' g=>?_) (λi E' H' g=>?_) (λq' i e1 e2=>?_)
  .obtain⟨q',g1,g2⟩:=Mp _ _ g;exact ZQ q' g1 g2
  .obtain⟨rfl,s,e,g2⟩:=adJ i _ _ g
   rcases h8 with⟨q,e',_⟩|⟨s',e',g3⟩
   .rw[e]at e';cases e'
   .rw[e]at e';cases e';exact Vx ⟨_,_,g2,hx _ _ _ g3⟩
  .have hF:=pS q' i e1 e2;exact⟨λe=>V6 (hF.1 e),λe H'=>hF.2 e H'⟩
 |inr v =>
  refine hf _ _ _ _ _ _ _ _ _ (agx (K,v) z hq) (λE' H' g=>?_) (λi E' H' g=>?_) (λq' i e1 e2=>?_)
  .obtain⟨q',g1,g2⟩:=Mp _ _ g;exact ZQ q' g1 g2
  .obtain⟨rfl,s,e,g2⟩:=adJ i _ _ g
   rcases h8 with⟨q,e',_⟩|⟨s',e',g3⟩
   .rw[e]at e';cases e'
   .rw[e]at e';cases e';exact Vx ⟨_,_,g2,hx _ _ _ g3⟩
  .have hF:=pS q' i e1 e2;exact⟨λe=>V6 (hF.1 e),λe H'=>hF.2 e H'⟩
def zI5(hS:S.OK)(hT:ke.OK X.P X.T)(mo:X.Fg)(hm:X.P.follows .mixedOrders=bg){R:Type}{r:R}{inj:Option (HL S.T X.rT.vs->R)}{l:List Oper}{draw:Bool}{id:Nat}{kn:AE S.T->AH S.T->Pg R}{E:AE S.T}{H:AH S.T}{Q:xH}
  (hI:(Us X inj l draw kn E H).Is r) (hr:∀q i,inj=bc i->i q=r->Fin X q Q) (hn:∀E' H',(kn E' H').Is r->Q .normal (eV E') (hV H') []):lK c X.P bh X.N (.region id l.toArray draw) Q (eV E) (hV H) []:=by
 unfold Us at hI
 have tv:re (pK S X.gk) (hV H).get:=by
  cases hg:N1 X.gk H with
  |false=>rw[hg]at hI;exact(Is.fail hI).elim
  |true=>exact zIy hg
 have hI:(bif draw then bif Vw l then rg X l bg (Ni X l inj) (λE H done=>bif jf l (jk l []) done.reverse then kn E H else .fail) 0 l E H []else .fail else rg X l bd (Nj X inj) (λE H _=>kn E H) 0 l E H []).Is r:=by
  cases hg:N1 X.gk H with
  |false=>rw[hg]at hI;exact(Is.fail hI).elim
  |true=>rw[hg]at hI;exact hI
 cases draw with
 |true =>
  rw[aH]at hI
  cases hb:Vw l with
  |false=>rw[hb]at hI;exact(Is.fail hI).elim
  |true =>
   rw[hb]at hI
   rcases zP9 (K:=λρ' H'=>Q .normal ρ' H' []) hS hT mo tv hI λE' H' _ h=>hn E' H' h with h|⟨q,j,e1,e2,e3,h⟩
   .exact zUi hm hb h
   .exact zPe hm hb h ((hr q j e2 e3).2 e1)
 |false =>rw[cf]at hI;exact zOu (zP8 hS hT mo tv hI (λE' H' _ h=>hn E' H' h) λq j e1 e2 e3=>(hr q j e2 e3).2 e1)
def zQf(hS:S.OK)(hT:ke.OK X.P X.T)(mo:X.Fg)(hm:X.P.follows .mixedOrders=bg){R:Type}{r:R}{inj:Option (HL S.T X.rT.vs->R)}{l:List Oper}{draw:Bool}{id:Nat}{kn:AE S.T->AH S.T->Pg R}{E:AE S.T}{H:AH S.T}{Q:xH}
  (hI:(adD X inj l draw kn E H).Is r) (hr:∀q i,inj=bc i->i q=r->Fin X q Q) (hn:∀E' H',(kn E' H').Is r->Q .normal (eV E') (hV H') []):lK c X.P bh X.N (.region id l.toArray draw) Q (eV E) (hV H) []:=YW (zI5 hS hT mo hm (Q:=Ex X.K0 Q) hI (λq i e1 e2=>(hr q i e1 e2).cut) λE' H' h=>⟨_,_,zri hS (eV E') H' (AF h).1,hn _ _ (AF h).2⟩)
def ou(hS:S.OK)(hT:ke.OK X.P X.T)(mo:X.Fg)(hm:X.P.follows .mixedOrders=bg):∀code:Code,Fi X c (ev X code) code
 |.skip=>λh R inj kn kx E H r Q hI hn hx hr=>by
  simp only[ev]at hI;exact zT3 (hn _ _ hI)
 |.exit id=>λh R inj kn kx E H r Q hI hn hx hr=>by
  simp only[ev]at hI;exact zT4 (hx _ _ _ hI)
 |.ret=>λh R inj kn kx E H r Q hI hn hx hr=>by
  simp only[ev]at hI;obtain⟨z',i,v,e1,g1,e2⟩:=zCl hI;exact adF _ _ (xR hS g1) (aku ((hr v i e1 e2).1 z'))
 |.seq a b=>λh R inj kn kx E H r Q hI hn hx hr=>by
  simp only[ev]at hI;refine akv (wA hS (ou hS hT mo hm a) _ _ _ _ _ _ _ _ _ hI (λE' H' g=>?_) (λi E' H' g=>?_) (λq i e1 e2=>?_))
  .exact zz2 (wA hS (ou hS hT mo hm b) _ _ _ _ _ _ _ _ Q g hn hx hr)
  .exact zwy (hx i E' H' g)
  .exact⟨λe=>zz3 ((hr q i e1 e2).1 e),λe H'=>(hr q i e1 e2).2 e H'⟩
 |.cond y a b=>λh R inj kn kx E H r Q hI hn hx hr=>by
  simp only[ev]at hI;split at hI
  .rename_i t ht;obtain⟨h1,h2⟩:=Is.rO hI;exact X_ t (by rw[zJ,ht];rfl) (λe=>wA hS (ou hS hT mo hm a) _ _ _ _ _ _ _ _ Q (h1 e) hn hx hr) (λe=>wA hS (ou hS hT mo hm b) _ _ _ _ _ _ _ _ Q (h2 e) hn hx hr)
  .rename_i ht;exact X_ bg (by rw[zJ,ht];simp only[A.v]) (λ_=>wA hS (ou hS hT mo hm a) _ _ _ _ _ _ _ _ Q hI hn hx hr) (λe=>by cases e)
  .rename_i ht;exact X_ bd (by rw[zJ,ht];simp only[A.v]) (λe=>by cases e) (λ_=>wA hS (ou hS hT mo hm b) _ _ _ _ _ _ _ _ Q hI hn hx hr)
  .exact(Is.fail hI).elim
 |.block id a=>λh R inj kn kx E H r Q hI hn hx hr=>by
  simp only[ev]at hI;refine zOe (wA hS (ou hS hT mo hm a) _ _ _ _ _ _ _ _ _ hI (λE' H' g=>zHb (hn _ _ g)) (λi E' H' g=>?_) (λq i e1 e2=>⟨λe=>zHc ((hr q i e1 e2).1 e),λe H'=>(hr q i e1 e2).2 e H'⟩))
  cases hb:bk i id with
  |true =>
   rw[hb]at g;have:=eb hb;subst this;exact zz4 (hn _ _ g)
  |false =>
   rw[hb]at g;exact za6 hb (hx _ _ _ g)
 |.region id ops draw=>λh R inj kn kx E H r Q hI hn hx hr=>by
  simp only[ev]at hI;exact zQf (l:=ops.toList) hS hT mo hm hI hr hn
 |.loop a=>λh R inj kn kx E H r Q hI hn hx hr=>by
  simp only[ev]at hI;split at hI
  .exact zI3 hS (wA hS (ou hS hT mo hm a)) hI hx
  .exact zI4 hS (wA hS (ou hS hT mo hm a)) hI hx hr
  .rcases zt9 hI with⟨v,g1,g2⟩|⟨v,g1,g2⟩
   .exact zue hS (wA hS (ou hS hT mo hm a)) g2 (xR hS g1) hx hr
   .exact zue hS (wA hS (ou hS hT mo hm a)) g2 (xR hS g1) hx hr
  .exact(Is.fail hI).elim
 |.rangeFunc ..=>λh R inj kn kx E H r Q hI hn hx hr=>by simp only[ev]at hI;exact(Is.fail hI).elim
 |.scope a=>λh R inj kn kx E H r Q hI hn hx hr=>by
  simp only[ev]at hI;refine zOy (wA hS (ou hS hT mo hm a) _ _ _ _ _ _ _ _ (Lz Q) hI (λE' H' g=>zHw (hn E' H' g)) (λi E' H' g=>zA0 (hx i E' H' g)) λq i e1 e2=>?_);exact⟨λe=>zHx ((hr q i e1 e2).1 e),λe H'=>(hr q i e1 e2).2 e H'⟩
 |.label _=>λh R inj kn kx E H r Q hI hn hx hr=>by
  simp only[ev]at hI;exact zOx (hn _ _ hI)
 |.goto _=>λh R inj kn kx E H r Q hI hn hx hr=>by simp only[ev]at hI;exact(Is.fail hI).elim
 |.refuse _=>λh R inj kn kx E H r Q hI hn hx hr=>by simp only[ev]at hI;exact(Is.fail hI).elim
end
def zVb:List (Nat×Nat×Nat)->Nat->Option (Nat×Nat)
 |[],_=>bh
 |(t,k,off)::r,u=>bif bk u t then bc (k,off)else zVb r u
def NT:List (Nat×TO)->Nat->Option TO
 |[],_=>bh
 |(k,o)::r,j=>bif bk j k then bc o else NT r j
def Pv:Tp->Tp->Bool
 |.d c j,.d c' j'=>decide (c=c')&&bk j j'
 |.ptr k o,.ptr k' o'=>bk k k'&&bk o o'
 |.mp k,.mp k'=>bk k k'
 |.row s k,.row s' k'=>bk s s'&&bk k k'
 |.kq,.kq=>bg
 |.gR,.gR=>bg
 |.lZ,.lZ=>bg
 |.k_,.k_=>bg
 |.lJ,.lJ=>bg
 |_,_=>bd
def O5:List Tp->List Tp->Bool
 |[],[]=>bg
 |a::r,b::r'=>Pv a b&&O5 r r'
 |_,_=>bd
def zmy{a b:Tp}(h:Pv a b=bg):a=b:=by
 unfold Pv at h
 split at h<;>first|(cases h;done)|rfl|skip
 .simp only[bn,aW]at h;rw[h.1,eb h.2]
 .simp only[bn]at h;rw[eb h.1,eb h.2]
 .rw[eb h]
 .simp only[bn]at h;rw[eb h.1,eb h.2]
def zgb:∀{a b:List Tp},O5 a b=bg->a=b
 |[],[],_=>rfl
 |x::r,y::r',h=>by
  simp only[O5,bn]at h;rw[zmy h.1,zgb h.2]
 |[],_::_,h=>by cases h
 |_::_,[],h=>by cases h
def zVc:Tp->Bool
 |.d (.st _) _=>bd
 |.d (.m _ _) _=>bd
 |.d _ _=>bg
 |.ptr _ _=>bg
 |.mp _=>bg
 |.row _ _=>bg
 |.kq=>bg
 |.gR=>bg
 |.lZ=>bg
 |.k_=>bg
 |.lJ=>bg
 |_=>bd
def NU(P:bm)(ty:Nat)(cs:List Tp)(off:Nat)(o:Tp):Bool:=match oe P ty with
 |none=>bd
 |some bh=>match cs[off]? with
  |some t=>Pv t o&&zVc o
  |none=>bd
 |some (bc k)=>cw (off+k) cs.length&&(match o with|.ag l=>O5 ((cs.drop off).take k) l|_=>bd)
def Bi(P:bm)(rc:List (Nat×Nat×Nat))(iB:List (Nat×TO)):List ResultVar->List Tp->Option (List (Nat×Tp))
 |[],[]=>bc []
 |.tmp t::r,o::os=>match Bi P rc iB r os with
  |some l=>bc ((t,o)::l)
  |none=>bh
 |.cell t ty::r,o::os=>match zVb rc t with
  |some (k,off)=>match NT iB k with
   |some (.box _ cs)=>bif NU P ty cs off o then(match Bi P rc iB r os with
    |some l=>bc ((t,.ptr k off)::l)
    |none=>bh)else bh
   |_=>bh
  |none=>bh
 |_,_=>bh
def NV(P:bm)(rc:List (Nat×Nat×Nat))(iB:List (Nat×TO))(l:List ResultVar)(out:Tp):Option (List (Nat×Tp)):=match l with
 |[]=>match out with
  |.gu []=>bc []
  |_=>bh
 |[x]=>Bi P rc iB [x] [out]
 |x::y::r=>match out with
  |.gu os=>Bi P rc iB (x::y::r) os
  |_=>bh
section
variable{S:lD}
def Lg(n:Nat)(c:Ct S)(rs:List (Nat×Tp)):Bool:=nodupB (rs.map (·.1))&&(cw c.ins.length n&&(qN [c.out] c.iB&&(nodupB (c.iB.map (·.1))&&(c.hin.map (·.1)).all (c.iB.map (·.1)).contains)))
def CE(P:bm)(N:Nat)(T:ke S)(cd:Nat->Option TC)(kk:Nat)(nb:NB)(c:Ct S)(rs:List (Nat×Tp))(x:HL S.T c.ci)(K0:List Nat):Cx S:={ P:=P,N:=N,K0:=K0,T:=T,cd:=cd,kk:=kk,nb:=nb,rT:=⟨rs,c.iB,c.ci,c.co⟩,x:=x }
def Cq(l:List (A S.T)):AE S.T:=l.zipIdx.map λp=>(p.2,p.1)
def XL(l:List (A S.T)):eV (Cq l)=ur (A.vs l):=by
 simp only[Cq,ur,eV,cW,xY]
 suffices h:∀(l:List (A S.T))(j:Nat),cP ((λp:Nat×A S.T=>(p.1,p.2.v)) ∘ λp=>(p.2,p.1)) (l.zipIdx j)=cP (λp=>(p.2,p.1)) ((l.map A.v).zipIdx j) from h l 0
 intro l
 induction l with
 |nil=>intro j;rfl
 |cons a l ih=>intro j;simp only[List.zipIdx_cons,gf,ih (j+1)];rfl
def mP(P:bm)(fn:Func)(code:Code)(T:ke S)(cd:Nat->Option TC)(kk:Nat)(nb:NB)(c:Ct S)(rc:List (Nat×Nat×Nat))(h:HT S c.co)(x:HL S.T c.ci):Pg (HL S.T c.co):=match NV P rc c.iB fn.results.toList c.out with
 |none=>.fail
 |some rs=>bif Lg fn.ntmps c rs then
   wrap (CE P fn.ntmps T cd kk nb c rs x (c.hin.map (·.1))) h (ev (CE P fn.ntmps T cd kk nb c rs x (c.hin.map (·.1))) code) (HL S.T c.co) (bc id) (λE H=>NC (CE P fn.ntmps T cd kk nb c rs x (c.hin.map (·.1))) (bc id) E H) (λ_ _ _=>.fail)
    (Cq (Tp.j_ c.hin (yP c.ci x) c.ins)) (oY c.hin (yP c.ci x))
  else .fail
def WW{hp:List (Nat×TO)}{ds:List (Dy S.T)}:∀{sl:List (Nat×Tp)},(sl.map (·.1)).Nodup->∀{t:Nat}{tp:Tp},(t,tp)∈sl->(pP (S:=S) hp sl ds).get t=tp.put hp ds
 |(d,tp')::r,hn,t,tp,h=>by
  simp only[gf,cJ]at hn;simp only[pP,gf,AE.get]
  rcases bq.1 h with e|h2
  .cases e;rw[cF];rfl
  .have:bk t d=bd:=by
    cases hb:bk t d with
    |false=>rfl
    |true =>
     have:=eb hb;subst this;have hm:t∈r.map (·.1):=cm (f:=(·.1)) h2;exact aU hm hn.1
   rw[this];exact WW hn.2 h2
def zCm{hp ho:List (Nat×TO)}{ds:List (Dy S.T)}{k:Nat}:(hV (Nu (S:=S) hp ds ho)).get k=(NT ho k).map λo=>(o.put (S:=S) hp ds).o:=by
 induction ho with
 |nil=>rfl
 |cons p r ih =>
  obtain⟨d,o⟩:=p;simp only[Nu,hV,gf,ax.get,NT]at ih ⊢
  cases bk k d with
  |true=>rfl
  |false=>exact ih
def zQg{hp:List (Nat×TO)}{ds:List (Dy S.T)}:∀{o:Tp},zVc o=bg->(o.put (S:=S) hp ds).v.one=bg
 |.d c j,h=>by
  cases c<;>first|(cases h;done)|(simp only[Tp.put,A.v,vt];rfl)|(simp only[Tp.put,A.v,vt];unfold Yt;split<;>rfl)
 |.ptr ..,_=>by simp only[Tp.put,A.v];rfl
 |.mp _,_=>by simp only[Tp.put,A.v];rfl
 |.row ..,_=>by simp only[Tp.put,A.v];rfl
 |.kq,_=>by simp only[Tp.put,A.v];rfl
 |.gR,_=>by simp only[Tp.put,A.v];rfl
 |.lZ,_=>by simp only[Tp.put,A.v];rfl
 |.k_,_=>by simp only[Tp.put,A.v];rfl
 |.lJ,_=>by simp only[Tp.put,A.v];rfl
 |.no,h=>by cases h
 |.Np,h=>by cases h
 |.ag _,h=>by cases h
 |.gu _,h=>by cases h
 |.fn ..,h=>by cases h
 |.iG ..,h=>by cases h
def zI9{P:bm}{ty:Nat}{cs:List Tp}{off:Nat}{o:Tp}(h:NU P ty cs off o=bg){hp:List (Nat×TO)}{ds:List (Dy S.T)}:mO P ty (A.vs (Tp.j_ (S:=S) hp ds cs)) off=bc (o.put hp ds).v:=by
 unfold NU at h;split at h
 .cases h
 .rename_i hs;split at h
  .rename_i t ht;simp only[bn]at h;have:=zmy h.1;subst this;refine Part.at (k:=bh) hs ⟨?_,zQg h.2⟩;rw[xY,Ab,cW,cC,ht];rfl
  .cases h
 .rename_i k hs;simp only[bn]at h;obtain⟨h1,h2⟩:=h;split at h2
  .rename_i l;have:=zgb h2;subst this;refine Part.at (k:=bc k) hs ⟨?_,?_⟩
   .rw[qA,Ab,bL];exact lb h1
   .simp only[Tp.put,A.v,xY,Ab,cW,List.map_take,List.map_drop]
  .cases h2
def O6{P:bm}{ρ:Env}{rc:List (Nat×Nat×Nat)}{hp:List (Nat×TO)}{ds:List (Dy S.T)}:∀{l:List ResultVar}{os:List Tp}{rs:List (Nat×Tp)},Bi P rc hp l os=bc rs->(∀t tp,(t,tp)∈rs->ρ.get t=(tp.put hp ds).v)->Bo P ρ (hV (oY hp ds)) l=bc (A.vs (Tp.j_ (S:=S) hp ds os))/\os.length=l.length
 |[],[],rs,h,hg=>by simp[Bo,Tp.j_,A.vs]
 |.tmp t::r,o::os,rs,h,hg=>by
  simp only[Bi]at h;split at h
  .rename_i l hl;cases h
   obtain⟨h1,h2⟩:=O6 hl λt tp hm=>hg t tp (gq _ hm)
   simp only[Bo,K_,hg t o al,h1,Tp.j_,A.vs,lc,h2];simp
  .cases h
 |.cell t ty::r,o::os,rs,h,hg=>by
  simp only[Bi]at h;split at h
  .rename_i k off hk;split at h
   .rename_i bt cs hb
    cases Sf:NU P ty cs off o with
    |false=>rw[Sf]at h;cases h
    |true =>
     rw[Sf]at h;dsimp only[aH]at h;split at h
     .rename_i l hl;cases h
      obtain⟨h1,h2⟩:=O6 hl λt tp hm=>hg t tp (gq _ hm)
      have h3:=hg t (.ptr k off) al
      have h4:(hV (oY (S:=S) hp ds)).get k=bc (.box bt (A.vs (Tp.j_ hp ds cs))):=by have:=zCm (S:=S) (hp:=hp) (ho:=hp) (ds:=ds) (k:=k);rw[hb]at this;exact this
      simp only[Tp.put,A.v]at h3;simp only[Bo,K_,h3,h4,zI9 Sf,h1,Tp.j_,A.vs,lc,h2];simp
     .cases h
   .cases h
  .cases h
 |[],_::_,_,h,_=>by simp only[Bi]at h;cases h
 |.tmp _::_,[],_,h,_=>by simp only[Bi]at h;cases h
 |.cell ..::_,[],_,h,_=>by simp only[Bi]at h;cases h
def zCn{P:bm}{fn:Func}{ρ:Env}{rc:List (Nat×Nat×Nat)}{hp:List (Nat×TO)}{ds:List (Dy S.T)}{out:Tp}{rs:List (Nat×Tp)}(h:NV P rc hp fn.results.toList out=bc rs)(hg:∀t tp,(t,tp)∈rs->ρ.get t=(tp.put hp ds).v):FZ fn ρ (hV (oY hp ds)) P=bc (out.put (S:=S) hp ds).v:=by
 unfold FZ;generalize fn.results.toList=l at h ⊢;unfold NV at h;split at h
 .split at h
  .cases h;simp only[Bo,Tp.put,Tp.j_,A.v,A.vs]
  .cases h
 .rename_i x;obtain⟨h1,h2⟩:=O6 h hg;rw[h1];simp only[Tp.j_,A.vs]
 .split at h
  .rename_i x y r os;obtain⟨h1,h2⟩:=O6 h hg;rw[h1]
   match os,h2 with
   |a::b::r,_=>simp only[Tp.put,Tp.j_,A.v,A.vs]
  .cases h
def Ut(hS:S.OK){P:bm}{f:Nat}{fn:Func}{code:Code}{T:ke S}{cd:Nat->Option TC}{kk:Nat}{nb:NB}{c:Ct S}{rc:List (Nat×Nat×Nat)}{h:HT S c.co}(hf:P.funcs[f]?=bc fn)(hb:fn.body=bc code)(hm:P.follows .mixedOrders=bg)(hT:ke.OK P T)
  (iV:∀x,(mP P fn code T cd kk nb c rc h x).run=c.fn x) (IH:∀x,(mP P fn code T cd kk nb c rc h x).tr bg=(mP P fn code T cd kk nb c rc h x).tr bd):c.OK P f:=by
 intro x r hr
 have hI:(mP P fn code T cd kk nb c rc h x).Is r:=⟨(iV x).trans hr,wv _ (IH x)⟩
 unfold mP at hI;split at hI
 .exact(Is.fail hI).elim
 .rename_i rs Sh
  cases hc:Lg fn.ntmps c rs with
  |false=>rw[hc]at hI;exact(Is.fail hI).elim
  |true =>
   rw[hc,aH]at hI;simp only[Lg,bn]at hc;obtain⟨c1,c2,c3,c4,c5⟩:=hc;simp only[qN,bn]at c3
   have oo:∀ds,keys (hV (oY (S:=S) c.iB ds))=c.iB.map (·.1):=λds=>wO
   have pS:∀e:Exit,(e=.normal∨e=.ret)->K' P fn (c.hin.map (·.1)) (c.out.put c.iB (yP c.ci x++yP c.co r)).v (hV (oY c.iB (yP c.ci x++yP c.co r))) e
     (eV (pP c.iB rs (yP c.ci x++yP c.co r))) (hV (oY c.iB (yP c.ci x++yP c.co r))) []:=by
    have h1:FZ fn (eV (pP c.iB rs (yP c.ci x++yP c.co r))) (hV (oY c.iB (yP c.ci x++yP c.co r))) P=bc (c.out.put c.iB (yP c.ci x++yP c.co r)).v:=zCn Sh λt tp gV=>by rw[Jh,WW (yj c1) gV]
    have h2:ua (keys (hV (oY (S:=S) c.iB (yP c.ci x++yP c.co r)))) (hV (oY c.iB (yP c.ci x++yP c.co r)))=bc (hV (oY c.iB (yP c.ci x++yP c.co r))):=WB λp hp=>get_of_mem (by rw[oo];exact yj c4) hp
    have h3:F3 (c.out.put (S:=S) c.iB (yP c.ci x++yP c.co r)).v (hV (oY c.iB (yP c.ci x++yP c.co r))) (c.hin.map (·.1))=bg:=by have lk:=AX (S:=S) hS (ins:=[c.out]) (hin:=c.iB) (ds:=yP c.ci x++yP c.co r) (by simp only[qN,bn];exact c3);simp only[EV.AA,bn,Tp.j_,A.vs,wi,bM]at lk;simp only[F3,bn,oo]at lk ⊢;exact⟨c4,c5,lk.1,lk.2⟩
    rintro e (rfl|rfl)<;>exact⟨rfl,h1,h2,h3⟩
   have key:∀(K0:List Nat),K0=c.hin.map (·.1)->∀cc:Ctx K0,lK cc P bh fn.ntmps code (K' P fn K0 (c.out.put c.iB (yP c.ci x++yP c.co r)).v (hV (oY c.iB (yP c.ci x++yP c.co r)))) (ur (A.vs (Tp.j_ c.hin (yP c.ci x) c.ins))) (hV (oY c.hin (yP c.ci x))) []:=by
    intro K0 e cc;subst e;rw[<- XL];refine YW (wA (X:=CE P fn.ntmps T cd kk nb c rs x (c.hin.map (·.1))) hS (ou hS hT (λe=>by cases e) hm code) _ _ _ _ _ _ _ _ _ hI (λE' H' g=>?_) (λ_ _ _ g=>(Is.fail g).elim) (λq i e1 e2=>?_))
    .obtain⟨_,i,v,e1,g1,e2⟩:=zCl g;cases e1;cases e2;exact⟨_,_,xR hS g1,pS _ (.inl rfl)⟩
    .cases e1;cases e2;exact⟨λ_=>⟨_,_,Cut.refl,pS _ (.inr rfl)⟩,λe=>by cases e⟩
   exact zAf hf hb rfl (by rw[qA,Ab,bL];exact c2) (key _ wO)
def Dd:List (Nat×TO)->List (Nat×Nat)
 |[]=>[]
 |(k,.rw i)::r=>bif bk i 0 then Dd r else(k,i)::Dd r
 |_::r=>Dd r
def zug{k i:Nat}:∀{hin:List (Nat×TO)},(k,TO.rw i)∈hin->i≠0->(k,i)∈Dd hin
 |[],h,_=>by cases h
 |(k0,o0)::r,h,hi=>by
  rcases bq.1 h with e|h2
  .cases e
   have:bk i 0=bd:=by
    cases hb:bk i 0 with
    |true=>exact aU (eb hb) hi
    |false=>rfl
   simp only[Dd,this,cf];exact al
  .have ih:=zug h2 hi
   cases o0 with
   |rw j =>
    simp only[Dd]
    cases bk j 0 with
    |true=>exact ih
    |false=>exact gq _ ih
   |_=>exact ih
def zVe(hS:S.OK){hin:List (Nat×TO)}{ds:List (Dy S.T)}{H':ax}(hk:KG (pK S (Dd hin)) H'):KG (hV (oY hin ds)) H':=λp hp zz=>by
 obtain⟨q,hq,rfl⟩:=bz.1 hp;obtain⟨⟨k,o⟩,ho,rfl⟩:=bz.1 hq
 cases o with
 |rw i =>
  by_cases hi:i=0
  .subst hi;have:La (k,S.ro 0)=bg:=zz;rw[hS.Nk]at this;cases this
  .exact hk (k,S.ro i) (bz.2 ⟨(k,i),zug ho hi,rfl⟩) zz
 |gn i c j =>
  have:La (k,S.go i c (WC ds j c))=bg:=zz;rw[hS.Rk]at this;cases this
 |box t cs=>cases zz
 |row e c j fz=>cases zz
 |map kc ec j=>cases zz
def MV(P:bm)(N:Nat)(T:ke S)(cd:Nat->Option TC)(kk:Nat)(nb:NB)(pt:Tp){pc:List TC}(TP:o4 S pc)(c:lC S pc)(x:HL S.T c.ci):Cx S:={ P:=P,N:=N,K0:=c.hin.map (·.1),T:=T,cd:=cd,kk:=kk,nb:=nb,rT:=⟨[],[],c.ci,pc⟩,x:=x,pt:=pt,TP:=TP,pm:=bg,gk:=Dd c.hin }
def tP(P:bm)(fn:Func)(code:Code)(T:ke S)(cd:Nat->Option TC)(kk:Nat)(nb:NB)(pt:Tp){pc:List TC}(TP:o4 S pc)(c:lC S pc)(h:HT S pc)(x:HL S.T c.ci):Pg (HL S.T pc):=bif cw c.ins.length fn.ntmps then
   wrap (MV P fn.ntmps T cd kk nb pt TP c x) h (ev (MV P fn.ntmps T cd kk nb pt TP c x) code) (HL S.T pc) (bc id) (λ_ _=>.fail) (λ_ _ _=>.fail)
    (Cq (Tp.j_ c.hin (yP c.ci x) c.ins)) (oY c.hin (yP c.ci x))
  else .fail
def zMl(hS:S.OK){P:bm}{f:Nat}{fn:Func}{code:Code}{T:ke S}{cd:Nat->Option TC}{kk:Nat}{nb:NB}{pt:Tp}{pc:List TC}{TP:o4 S pc}{c:lC S pc}{h:HT S pc}(hf:P.funcs[f]?=bc fn)(hb:fn.body=bc code)(hm:P.follows .mixedOrders=bg)(hT:ke.OK P T)(mo:o4.OK P (nQ pt pc) TP)
  (iV:∀x,(tP P fn code T cd kk nb pt TP c h x).run=c.fn x) (IH:∀x,(tP P fn code T cd kk nb pt TP c h x).tr bg=(tP P fn code T cd kk nb pt TP c h x).tr bd):c.OK P (nQ pt pc) f:=by
 intro x q hq
 have hI:(tP P fn code T cd kk nb pt TP c h x).Is q:=⟨(iV x).trans hq,wv _ (IH x)⟩
 unfold tP at hI
 cases hc:cw c.ins.length fn.ntmps with
 |false=>rw[hc]at hI;exact(Is.fail hI).elim
 |true =>
  rw[hc,aH]at hI
  have key:∀(K0:List Nat),K0=c.hin.map (·.1)->∀cc:Ctx K0,lK cc P bh fn.ntmps code (ade (nQ pt pc q) (hV (oY c.hin (yP c.ci x)))) (ur (A.vs (Tp.j_ c.hin (yP c.ci x) c.ins))) (hV (oY c.hin (yP c.ci x))) []:=by intro K0 e cc;subst e;rw[<- XL];refine YW (wA (X:=MV P fn.ntmps T cd kk nb pt TP c x) hS (ou (X:=MV P fn.ntmps T cd kk nb pt TP c x) hS hT (λ_=>mo) hm code) _ _ _ _ _ _ _ _ _ hI (λE' H' g=>(Is.fail g).elim) (λ_ _ _ g=>(Is.fail g).elim) (λq' i e1 e2=>?_));cases e1;cases e2;exact⟨λe=>(by cases e),λ_ H' hk=>⟨_,_,Cut.refl,rfl,zVe hS hk⟩⟩
  exact zBq hf hb rfl (by rw[qA,Ab,bL];exact hc) (key _ wO)
end
end Go.EQ
namespace Go.Proofs.YtmjfiffpolkdeaaGreatDoor
open Go Go.RowKit Go.iE Go.EV Go.EQ
def zQi(T:Nat)(s:ak)(mk:Nat->Option (Nat×Nat))(Z:ZM)(w:bE):Prop:=
 ∃b n p v,mk 0=bc (b,1)/\w.heap[b]?=bc (.cells #[p,v] T (0,0))/\Lib.IsBuilderF T 5 0 b (Lib.byteCells s) w/\(∀g,v.ownBlock=bc g->∃j,mk (j+1)=bc (g,1))/\(∀j,n<j->mk j=bh) /\
  (∀j loc,mk j=bc loc->loc.2=1/\∃cur u fr,w.heap[loc.1]?=bc (.cells cur u fr))/\∀a x,Z a=bc x->∀j,mk j≠bc (a.block,1)
def zJa{T b:Nat}{bs:List bu}{w w':bE}{p v:bu}(h:Lib.IsBuilderF T 5 0 b bs w)(hb:w.heap[b]?=bc (.cells #[p,v] T (0,0)))(h1:w'.heap[b]?=w.heap[b]?)(h2:∀g,v.ownBlock=bc g->w'.heap[g]?=w.heap[g]?):Lib.IsBuilderF T 5 0 b bs w':=by
 have key:∀q,Lib.BuilderAtF T 5 0 b q bs w->Lib.BuilderAtF T 5 0 b q bs w':=λq ⟨hB,v',iI,ma,g_⟩=>by
  rw[hb]at iI;cases iI;refine⟨hB,v,h1.trans hb,⟨ma.1,?_⟩,g_⟩
  rcases ma.2 with h|⟨g,cap,cur,fz,e1,e2,e3,r⟩
  .exact .inl h
  .exact .inr ⟨g,cap,cur,fz,e1,e2,(h2 g (by rw[e1];rfl)).trans e3,r⟩
 exact h.elim (λh=>.inl (key _ h)) λh=>.inr (key _ h)
def sbG(T:Nat)(s:ak):Od where
 holds:=zQi T s
 mn mk b:=∃j,mk j=bc (b,1)
 some_ mk b h:=by obtain⟨j,h⟩:=h;exact⟨j,1,h,ae⟩
 own mk Z w b h hb:=by obtain⟨b0,n,p,v,h1,h2,h3,h4,h5,h6,h7⟩:=h;obtain⟨j,hj⟩:=hb;obtain⟨_,cur,u,fr,e⟩:=h6 j _ hj;exact⟨_,e,rfl⟩
 keep mk Z Z' w w' h hZ hw:=by
  obtain⟨b0,n,p,v,h1,h2,h3,h4,h5,h6,h7⟩:=h;refine⟨b0,n,p,v,h1,(hw b0 ⟨0,h1⟩).1.trans h2,zJa h3 h2 (hw b0 ⟨0,h1⟩).1 λg hg=>?_,h4,h5,λj loc e=>?_,λa x ha j e=>?_⟩
  .obtain⟨j,hj⟩:=h4 g hg;exact(hw g ⟨_,hj⟩).1
  .obtain⟨e1,cur,u,fr,e2⟩:=h6 j loc e
   have:loc=(loc.1,1):=by rw[<- e1]
   exact⟨e1,cur,u,fr,(hw loc.1 ⟨j,by rw[e,<- this]⟩).1.trans e2⟩
  .exact h7 a x ((hw a.block ⟨j,e⟩).2 a x ha rfl) j e
def sb(T:Nat)(s:ak):EV.Obj:=.gen (sbG T s)
def I'{T:Nat}{s:ak}{k:Nat}{m:M}{Z:ZM}{w:bE}(hs:wo m Z [(k,sb T s)] w):∃b,m k 0=bc (b,1)/\Lib.IsBuilderF T 5 0 b (Lib.byteCells s) w:=by obtain⟨b,n,p,v,h1,h2,h3,_⟩:=hs.holds _ (bS.2 rfl);exact⟨b,h1,h3⟩
def Lt{T:Nat}{s s':ak}{k b:Nat}{m:M}{Z:ZM}{w w':bE}(hs:wo m Z [(k,sb T s)] w)(hb:m k 0=bc (b,1))(h:Lib.IsBuilderF T 5 0 b (Lib.byteCells s') w')(ht:Hk b w w'):
  ∃m',Step m Z [(k,sb T s)] w m' Z [(k,sb T s')] w':=by
 obtain⟨b0,n,p0,v0,h1,h2,h3,h4,h5,h6,h7⟩:=hs.holds _ (bS.2 rfl);rw[h1]at hb;cases hb;obtain⟨p,v,T2,p',v',t1,t2,t3,t4,t5,t6,t7,t8,t9⟩:=ht;rw[t1]at h2;cases h2
 have fZ:∀{a x},Z a=bc x->a.block<w.heap.size:=λha=>vq hs.frozen ha
 have old:∀k',k'<w.heap.size->(∀j,m k j≠bc (k',1))->w'.heap[k']?=w.heap[k']?:=λk' hk hn=>t7 k' hk (λe=>hn 0 (e▸h1)) λe=>by obtain⟨j,hj⟩:=h4 k' e;exact hn _ hj
 let m':M:=λk' L=>if k'=k/\L=n+1 then v'.ownBlock.map λg=>(g,1)else m k' L
 have ry:∀L,L≠n+1->m' k L=m k L:=λL hL=>by simp[m',hL]
 have M6:m' k (n+1)=v'.ownBlock.map λg=>(g,1):=by simp[m']
 have hmo:∀k',k'≠k->m' k'=m k':=λk' hk=>by funext L;simp[m',hk]
 have mW:m k (n+1)=bh:=h5 _ (Nat.lt_succ_self n);have agw:(0:Nat)≠n+1:=ab
 have ma:∀g,v'.ownBlock=bc g->∃cur u fr,w'.heap[g]?=bc (.cells cur u fr):=λg hg=>by
  have:∀q,Lib.BuilderAtF T 5 0 b q (Lib.byteCells s') w'->∃cur u fr,w'.heap[g]?=bc (.cells cur u fr):=λq ⟨_,v2,e1,e2,_⟩=>by
   rw[t2]at e1;cases e1
   rcases e2.2 with⟨rfl,_⟩|⟨g2,cap,cur,fz,rfl,_,e3,_⟩
   .cases hg
   .simp only[Value.ownBlock,Option.some.injEq]at hg;subst hg;exact⟨_,_,_,e3⟩
  exact h.elim (this _) (this _)
 have adV:∀j loc,m' k j=bc loc->loc.2=1/\∃cur u fr,w'.heap[loc.1]?=bc (.cells cur u fr):=λj loc e=>by
  by_cases hj:j=n+1
  .subst hj;rw[M6]at e;obtain⟨g,hg,rfl⟩:=cx.1 e;exact⟨rfl,ma g hg⟩
  .rw[ry j hj]at e;obtain⟨e1,cur,u,fr,e2⟩:=h6 j loc e;refine⟨e1,?_⟩;by_cases hb:loc.1=b
   .rw[hb];exact⟨_,_,_,t2⟩
   .by_cases sI:v0.ownBlock=bc loc.1
    .exact t9 _ sI hb
    .rw[t7 loc.1 (Array.getElem?_eq_some_iff.1 e2).1 hb sI];exact⟨_,_,_,e2⟩
 have hz:∀a x,Z a=bc x->∀j,m' k j≠bc (a.block,1):=λa x ha j e=>by
  by_cases hj:j=n+1
  .subst hj;rw[M6]at e;obtain⟨g,hg,e2⟩:=cx.1 e;simp only[Prod.mk.injEq,and_true]at e2;subst e2
   rcases t8 _ hg with h9|h9
   .have:=fZ ha;omega
   .obtain⟨j,hj⟩:=h4 _ h9;exact h7 a x ha _ hj
  .rw[ry j hj]at e;exact h7 a x ha j e
 have nt:∀a x,Z a=bc x->w'.cell? a=bc x:=λa x ha=>by
  have h8:=hs.frozen a x ha
  have h9:=old a.block (fZ ha) λj=>h7 a x ha j
  simpa only[World.cell?,h9]using h8
 refine⟨m',⟨nt,λq hq=>?_,hs.nodup,λq hq r hr c _ _=>?_⟩,λk' L loc e=>?_,λ_ _ e=>e,t3,t4,t5,t6,λc hc hn=>?_,λ_ h=>h,λk' hk=>?_,λq hq c hc=>?_,λ_ _ e=>.inl e⟩
 .cases bS.1 hq;refine⟨b,n+1,p',v',(ry 0 agw).trans h1,t2,h,λg hg=>⟨n,by rw[M6,hg];rfl⟩,λj hj=>?_,adV,hz⟩;rw[ry j ab];exact h5 j ab
 .cases bS.1 hq;cases bS.1 hr;rfl
 .by_cases hk:k'=k
  .subst hk;by_cases hL:L=n+1
   .subst hL;rw[mW]at e;cases e
   .rw[ry L hL];exact e
  .rw[hmo k' hk];exact e
 .exact old c hc λj e=>hn _ (bS.2 rfl) ⟨j,e⟩
 .have:k'≠k:=λe=>hk (by subst e;exact bS.2 rfl)
  exact hmo k' this
 .cases bS.1 hq;obtain⟨j,e⟩:=hc;by_cases hj:j=n+1
  .subst hj;rw[M6]at e;obtain⟨g,hg,e2⟩:=cx.1 e;simp only[Prod.mk.injEq,and_true]at e2;subst e2
   rcases t8 _ hg with h9|h9
   .exact .inl h9
   .obtain⟨j,hj⟩:=h4 _ h9;exact .inr ⟨_,bS.2 rfl,_,hj⟩
  .rw[ry j hj]at e;exact .inr ⟨_,bS.2 rfl,j,e⟩
def strCells_eq(t:ak):Lib.strCells ⟨t.toArray⟩=Lib.byteCells t:=by simp[Lib.strCells,Lib.byteCells]
def aap(a b:ak):Lib.byteCells (a++b)=Lib.byteCells a++Lib.byteCells b:=by simp[Lib.byteCells]
def size_mk(t:ak):(⟨t.toArray⟩:ByteArray).size=t.length:=by show t.toArray.size=_;simp
def KI{m:M}{Z:ZM}{k:Nat}{vs:List V}{vals:List bu}{b:Nat}(hb:m k 0=bc (b,1))(h:zG (bc m) Z (.ptr k 0 0::vs) vals):∃r,vals=.pointer (bc ⟨b,0,bh⟩)::r/\zG (bc m) Z vs r:=by obtain⟨x,xs,rfl,⟨f,loc,e1,e2,rfl⟩,h2⟩:=h;cases e1;rw[hb]at e2;cases e2;exact⟨xs,rfl,h2⟩
def XM{T:Nat}(hT:w_ T)(k:Nat)(s t:ak)(hl:s.length+t.length<=140737488355328):mx bo 26 [.ptr k 0 0,.str t] [(k,sb T s)] (.gu [.int .i64 (t.length:Nat),.lJ]) [(k,sb T (s++t))]:=by intro w m Z vals hs hv _;obtain⟨b,h1,h2⟩:=I' hs;obtain⟨r,rfl,h3⟩:=KI h1 hv;obtain⟨x,xs,rfl,rfl,h4⟩:=h3;cases h4;refine Calls.mono (zzs hT b _ ⟨t.toArray⟩ w h2 (by rw[Lib.byteCells_length,size_mk];exact hl)).1 ?_;rintro en w' ⟨rfl,h5,h6⟩;rw[strCells_eq,<- aap]at h5;obtain⟨m',st⟩:=Lt hs h1 h5 h6;exact⟨_,m',Z,rfl,st,_,rfl,_,_,rfl,by rw[size_mk];rfl,_,_,rfl,rfl,rfl⟩
def zJb{T:Nat}(hT:w_ T)(k:Nat)(s:ak)(c:UInt8)(hl:s.length+1<=140737488355328):mx bo 153 [.ptr k 0 0,.int .u8 c.toNat] [(k,sb T s)] .lJ [(k,sb T (s++[c]))]:=by
 intro w m Z vals hs hv _;obtain⟨b,h1,h2⟩:=I' hs;obtain⟨r,rfl,h3⟩:=KI h1 hv;obtain⟨x,xs,rfl,rfl,h4⟩:=h3;cases h4;refine Calls.mono (zG8 hT b _ c.toNat w h2 (by rw[Lib.byteCells_length];exact hl)).1 ?_;rintro en w' ⟨rfl,h5,h6⟩
 have e:Lib.byteCells s++[.int .u8 c.toNat]=Lib.byteCells (s++[c]):=by simp[Lib.byteCells]
 rw[e]at h5;obtain⟨m',st⟩:=Lt hs h1 h5 h6;exact⟨_,m',Z,rfl,st,rfl⟩
def WJ{T:Nat}(k:Nat)(s:ak):mx bo 28 [.ptr k 0 0] [(k,sb T s)] (.str s) [(k,sb T s)]:=by intro w m Z vals hs hv _;obtain⟨b,h1,h2⟩:=I' hs;obtain⟨r,rfl,h3⟩:=KI h1 hv;cases h3;refine Calls.mono (zwv b s w h2) ?_;rintro en w' ⟨rfl,h5,h6⟩;obtain⟨m',st⟩:=Lt hs h1 h5 h6;exact⟨_,m',Z,rfl,st,rfl⟩
def zCp{T:Nat}(k:Nat)(s:ak):mx bo 27 [.ptr k 0 0] [(k,sb T s)] (.int .i64 (s.length:Nat)) [(k,sb T s)]:=by intro w m Z vals hs hv _;obtain⟨b,h1,h2⟩:=I' hs;obtain⟨r,rfl,h3⟩:=KI h1 hv;cases h3;refine Calls.mono (zN8 b _ w h2) ?_;rintro en w' ⟨rfl,rfl⟩;exact⟨_,m,Z,rfl,Step.refl hs,by rw[Lib.byteCells_length];rfl⟩
def Tt{T k:Nat}{m:M}{Z:ZM}{w:bE}(h:Holds m Z w k (.box T [.kq,.gR])):Holds m Z w k (sb T [])/\∀b,fD m (k,sb T []) b->fD m (k,.box T [.kq,.gR]) b:=by
 obtain⟨b,cur,h1,h2,h3,h4,h5⟩:=h;obtain⟨x,xs,e1,hx,y,ys,e2,hy,e3⟩:=h3;subst e3;subst e2;have hx:x=.pointer bh:=hx;have hy:y=.slice bh 0 0:=hy;subst hx;subst hy
 have hc:cur=#[.pointer bh,.slice bh 0 0]:=by apply Array.ext';rw[e1]
 subst hc
 have only:∀j loc,m k j=bc loc->j=0/\loc=(b,1):=λj loc e=>by have h6:=h5 j loc e;have h7:j=0:=Nat.le_zero.1 h6;subst h7;rw[h1]at e;exact⟨rfl,(Option.some.inj e).symm⟩
 refine⟨⟨b,0,_,_,h1,h2,.inl ⟨bP _,_,h2,World.ownsRowF_nil _ _ _ _,by simp[Value.ownBlock]⟩,λg hg=>(by cases hg),λj hj=>?_,λj loc e=>?_,λa x ha j e=>?_⟩,λc hc=>?_⟩
 .cases e:m k j with
  |none=>rfl
  |some loc=>have:=(only j loc e).1;omega
 .obtain⟨_,rfl⟩:=only j loc e;exact⟨rfl,_,_,_,h2⟩
 .have:=(only j _ e).2;simp only[Prod.mk.injEq,and_true]at this;exact h4 a x ha this
 .obtain⟨j,e⟩:=hc;obtain⟨_,e2⟩:=only j _ e;simp only[Prod.mk.injEq,and_true]at e2;subst e2;simp[fD,qZ,Obj.hO,h1]
end Go.Proofs.YtmjfiffpolkdeaaGreatDoor
namespace Go.Proofs
open Go.Shelf
def Tryz.akR:Go.Shelf.Ren:=⟨λ|171=>69|243=>161|246=>204|283=>227|284=>228|285=>229|286=>230|129=>238|317=>237|318=>239|319=>240|320=>241|337=>242|338=>243|n=>n,λ|3=>3|9=>9|2=>2|4=>4|171=>313|0=>0|53=>314|37=>67|5=>5|173=>317|212=>328|51=>282|20=>20|213=>329|46=>293|232=>332|233=>333|n=>n,λ|17=>6|18=>7|19=>8|n=>n⟩
def Tryz.akN:Go.Proofs.LaysM.n171 bo Tryz.akR:={
 mixed:=by kernel_rfl
 f129:=Tryz.func238.trans (aQ bc (by kernel_rfl))
 f171:=Tryz.func69.trans (aQ bc (by kernel_rfl))
 f243:=Tryz.func161.trans (aQ bc (by kernel_rfl))
 f246:=Tryz.func204.trans (aQ bc (by kernel_rfl))
 f283:=Tryz.func227.trans (aQ bc (by kernel_rfl))
 f284:=Tryz.func228.trans (aQ bc (by kernel_rfl))
 f285:=Tryz.func229.trans (aQ bc (by kernel_rfl))
 f286:=Tryz.func230.trans (aQ bc (by kernel_rfl))
 f317:=Tryz.func237.trans (aQ bc (by kernel_rfl))
 f318:=Tryz.func239.trans (aQ bc (by kernel_rfl))
 f319:=Tryz.func240.trans (aQ bc (by kernel_rfl))
 f320:=Tryz.func241.trans (aQ bc (by kernel_rfl))
 f337:=Tryz.func242.trans (aQ bc (by kernel_rfl))
 f338:=Tryz.func243.trans (aQ bc (by kernel_rfl))
 t0:=gP
 a0:=Tryz.isAgg0
 z0:=Tryz.sizeOf0
 v0:=Tryz.zeroValue0
 t2:=Tryz.underlying2
 a2:=Tryz.isAgg2
 z2:=Tryz.sizeOf2
 v2:=Tryz.zeroValue2
 t3:=ej
 a3:=Tryz.isAgg3
 z3:=Tryz.sizeOf3
 v3:=Tryz.zeroValue3
 t4:=ep
 a4:=Tryz.isAgg4
 z4:=Tryz.sizeOf4
 v4:=Tryz.zeroValue4
 t5:=eG
 a5:=Tryz.isAgg5
 z5:=Tryz.sizeOf5
 v5:=Tryz.zeroValue5
 t9:=dp
 a9:=Tryz.isAgg9
 z9:=Tryz.sizeOf9
 v9:=Tryz.zeroValue9
 t20:=abC
 a20:=Tryz.isAgg20
 z20:=Tryz.sizeOf20
 v20:=Tryz.zeroValue20
 t37:=dh
 a37:=Tryz.isAgg67
 z37:=Tryz.sizeOf67
 v37:=Tryz.zeroValue67
 t46:=ft
 a46:=Tryz.isAgg293
 z46:=Tryz.sizeOf293
 v46:=Tryz.zeroValue293
 t51:=fw
 a51:=Tryz.isAgg282
 z51:=Tryz.sizeOf282
 v51:=Tryz.zeroValue282
 t53:=Tryz.underlying314
 a53:=Tryz.isAgg314
 z53:=Tryz.sizeOf314
 v53:=Tryz.zeroValue314
 t171:=Tryz.underlying313
 a171:=Tryz.isAgg313
 z171:=Tryz.sizeOf313
 v171:=Tryz.zeroValue313
 t173:=Tryz.underlying317
 a173:=Tryz.isAgg317
 z173:=Tryz.sizeOf317
 v173:=Tryz.zeroValue317
 t212:=Tryz.underlying328
 a212:=Tryz.isAgg328
 z212:=Tryz.sizeOf328
 v212:=Tryz.zeroValue328
 t213:=Tryz.underlying329
 a213:=Tryz.isAgg329
 z213:=Tryz.sizeOf329
 t232:=Tryz.underlying332
 a232:=Tryz.isAgg332
 z232:=Tryz.sizeOf332
 v232:=Tryz.zeroValue332
 t233:=Tryz.underlying333
 a233:=Tryz.isAgg333
 z233:=Tryz.sizeOf333
 v233:=Tryz.zeroValue333
 g17:=by kernel_rfl
 g18:=by kernel_rfl
 g19:=by kernel_rfl
 i0:=by kernel_rfl
 i2:=by kernel_rfl
 i3:=by kernel_rfl
 i4:=by kernel_rfl
 i5:=by kernel_rfl
 i9:=by kernel_rfl
 i20:=by kernel_rfl
 i37:=by kernel_rfl
 i46:=by kernel_rfl
 i51:=by kernel_rfl
 i53:=by kernel_rfl
 i171:=by kernel_rfl
 i173:=by kernel_rfl
 i212:=by kernel_rfl
 i232:=by kernel_rfl
 i233:=by kernel_rfl
 m17:=by kernel_rfl
 m18:=by kernel_rfl
 m19:=by kernel_rfl }
open Go.RowKit Go.Sort Go.Lib in
theorem Tryz.strconv_Itoa (n : Int) (h0 : -9223372036854775808 <= n) (h1 : n <= 9223372036854775807) (w : bE) (E8 : Lib.TabIs bo w "internal/strconv.uint64pow10" .u64 Lib.pow10Tab):
  Calls bo 69 #[.int .i64 n] w λe w'=>e=.returned (.string ⟨(Lib.itoa n).toArray⟩)/\∃k os,w'=grow (w.drewN k) os:=Any.strconv_Itoa Tryz.akN n h0 h1 w E8
def Tryz.akP:Go.Shelf.Ren:=⟨λ|144=>60|143=>152|219=>197|217=>219|225=>220|224=>221|267=>222|266=>235|314=>236|n=>n,λ|9=>9|4=>4|3=>3|5=>5|46=>293|146=>323|51=>282|n=>n,λ|1=>3|n=>n⟩
def Tryz.akI:Go.Proofs.Lays.n144 bo Tryz.akP:={
 mixed:=by kernel_rfl
 f143:=Tryz.func152.trans (aQ bc (by kernel_rfl))
 f144:=Tryz.func60.trans (aQ bc (by kernel_rfl))
 f217:=Tryz.func219.trans (aQ bc (by kernel_rfl))
 f219:=Tryz.func197.trans (aQ bc (by kernel_rfl))
 f224:=Tryz.func221.trans (aQ bc (by kernel_rfl))
 f225:=Tryz.func220.trans (aQ bc (by kernel_rfl))
 f266:=Tryz.func235.trans (aQ bc (by kernel_rfl))
 f267:=Tryz.func222.trans (aQ bc (by kernel_rfl))
 f314:=Tryz.func236.trans (aQ bc (by kernel_rfl))
 t3:=ej
 a3:=Tryz.isAgg3
 z3:=Tryz.sizeOf3
 v3:=Tryz.zeroValue3
 t4:=ep
 a4:=Tryz.isAgg4
 z4:=Tryz.sizeOf4
 v4:=Tryz.zeroValue4
 t5:=eG
 a5:=Tryz.isAgg5
 z5:=Tryz.sizeOf5
 v5:=Tryz.zeroValue5
 t9:=dp
 a9:=Tryz.isAgg9
 z9:=Tryz.sizeOf9
 v9:=Tryz.zeroValue9
 t46:=ft
 a46:=Tryz.isAgg293
 z46:=Tryz.sizeOf293
 v46:=Tryz.zeroValue293
 t51:=fw
 a51:=Tryz.isAgg282
 z51:=Tryz.sizeOf282
 v51:=Tryz.zeroValue282
 t146:=abr
 a146:=Tryz.isAgg323
 z146:=Tryz.sizeOf323
 v146:=Tryz.zeroValue323
 g1:=by kernel_rfl }
open Go.RowKit Go.Lib in
theorem Tryz.strings_Contains(s sub:ByteArray)(m:Int)(w:bE)(hs:s.size<4294967281)(hm:w.cell? ⟨3,0,bh⟩=bc (.int .i64 m)):
  Calls bo 60 #[.string s,.string sub] w λe w'=>e=.returned (.bool (Lib.contains s.data.toList sub.data.toList))/\w'=w:=Any.strings_Contains Tryz.akI s sub m w hs hm
def Tryz.akO:Go.Shelf.Ren:=⟨λ|99=>165|206=>205|n=>n,λ|9=>9|4=>4|3=>3|n=>n,λ|n=>n⟩
def Tryz.akE:Go.Proofs.Lays.n99 bo Tryz.akO:={
 mixed:=by kernel_rfl
 f99:=Tryz.func165.trans (aQ bc (by kernel_rfl))
 f206:=Tryz.func205.trans (aQ bc (by kernel_rfl))
 t3:=ej
 a3:=Tryz.isAgg3
 z3:=Tryz.sizeOf3
 v3:=Tryz.zeroValue3
 t4:=ep
 a4:=Tryz.isAgg4
 z4:=Tryz.sizeOf4
 v4:=Tryz.zeroValue4
 t9:=dp
 a9:=Tryz.isAgg9
 z9:=Tryz.sizeOf9
 v9:=Tryz.zeroValue9 }
open Go.RowKit Go.Lib in
theorem Tryz.strings_HasPrefix(s p:ByteArray)(w:bE):
  Calls bo 165 #[.string s,.string p] w λe w'=>e=.returned (.bool (Lib.hasPrefix s.data.toList p.data.toList))/\w'=w:=Any.strings_HasPrefix Tryz.akE s p w
def Tryz.akQ:Go.Shelf.Ren:=⟨λ|157=>67|229=>156|199=>157|261=>199|311=>224|312=>225|n=>n,λ|9=>9|31=>26|3=>3|5=>5|4=>4|119=>240|0=>0|40=>242|152=>279|21=>21|154=>281|51=>282|141=>284|196=>301|193=>298|198=>304|49=>302|194=>299|201=>307|226=>325|46=>293|227=>326|n=>n,λ|0=>0|6=>2|n=>n⟩
def Tryz.akK:Go.Proofs.Lays.n157 bo Tryz.akQ:={
 mixed:=by kernel_rfl
 f157:=Tryz.func67.trans (aQ bc (by kernel_rfl))
 f199:=Tryz.func157.trans (aQ bc (by kernel_rfl))
 f229:=Tryz.func156.trans (aQ bc (by kernel_rfl))
 f261:=Tryz.func199.trans (aQ bc (by kernel_rfl))
 f311:=Tryz.func224.trans (aQ bc (by kernel_rfl))
 f312:=Tryz.func225.trans (aQ bc (by kernel_rfl))
 t0:=gP
 a0:=Tryz.isAgg0
 z0:=Tryz.sizeOf0
 v0:=Tryz.zeroValue0
 t3:=ej
 a3:=Tryz.isAgg3
 z3:=Tryz.sizeOf3
 v3:=Tryz.zeroValue3
 t4:=ep
 a4:=Tryz.isAgg4
 z4:=Tryz.sizeOf4
 v4:=Tryz.zeroValue4
 t5:=eG
 a5:=Tryz.isAgg5
 z5:=Tryz.sizeOf5
 v5:=Tryz.zeroValue5
 t9:=dp
 a9:=Tryz.isAgg9
 z9:=Tryz.sizeOf9
 v9:=Tryz.zeroValue9
 t21:=abB
 a21:=Tryz.isAgg21
 z21:=Tryz.sizeOf21
 v21:=Tryz.zeroValue21
 t31:=Tryz.underlying26
 a31:=Tryz.isAgg26
 z31:=Tryz.sizeOf26
 v31:=Tryz.zeroValue26
 t40:=Tryz.underlying242
 a40:=Tryz.isAgg242
 z40:=Tryz.sizeOf242
 v40:=Tryz.zeroValue242
 t46:=ft
 a46:=Tryz.isAgg293
 z46:=Tryz.sizeOf293
 v46:=Tryz.zeroValue293
 t49:=Tryz.underlying302
 a49:=Tryz.isAgg302
 z49:=Tryz.sizeOf302
 v49:=Tryz.zeroValue302
 t51:=fw
 a51:=Tryz.isAgg282
 z51:=Tryz.sizeOf282
 v51:=Tryz.zeroValue282
 t119:=abj
 a119:=Tryz.isAgg240
 z119:=Tryz.sizeOf240
 t141:=Tryz.underlying284
 a141:=Tryz.isAgg284
 z141:=Tryz.sizeOf284
 v141:=Tryz.zeroValue284
 t152:=Tryz.underlying279
 a152:=Tryz.isAgg279
 z152:=Tryz.sizeOf279
 v152:=Tryz.zeroValue279
 t154:=Tryz.underlying281
 a154:=Tryz.isAgg281
 z154:=Tryz.sizeOf281
 v154:=Tryz.zeroValue281
 t193:=Tryz.underlying298
 a193:=Tryz.isAgg298
 z193:=Tryz.sizeOf298
 v193:=Tryz.zeroValue298
 t194:=Tryz.underlying299
 a194:=Tryz.isAgg299
 z194:=Tryz.sizeOf299
 v194:=Tryz.zeroValue299
 t196:=Tryz.underlying301
 a196:=Tryz.isAgg301
 z196:=Tryz.sizeOf301
 v196:=Tryz.zeroValue301
 t198:=Tryz.underlying304
 a198:=Tryz.isAgg304
 z198:=Tryz.sizeOf304
 v198:=Tryz.zeroValue304
 t201:=Tryz.underlying307
 a201:=Tryz.isAgg307
 z201:=Tryz.sizeOf307
 v201:=Tryz.zeroValue307
 t226:=Tryz.underlying325
 a226:=Tryz.isAgg325
 z226:=Tryz.sizeOf325
 v226:=Tryz.zeroValue325
 t227:=Tryz.underlying326
 a227:=Tryz.isAgg326
 z227:=Tryz.sizeOf326
 v227:=Tryz.zeroValue326
 g0:=by kernel_rfl
 g6:=by kernel_rfl }
open Go.RowKit Go.Lib in
theorem Tryz.strings_Fields (s : ByteArray) (w : bE) (hs : s.size < 4294967281) (aky : ∀ (j : Nat) b, s.data.toList[j]? = bc b -> b.toNat < 128) (E8 : Lib.TabIs bo w "strings.asciiSpace" .u8 Lib.asciiSpaceTab):
  Calls bo 67 #[.string s] w λe w' =>
   e=.returned (.slice (bc ⟨w.heap.size,0,bh⟩) (Lib.fields s.data.toList).length (Lib.fields s.data.toList).length)/\w'=w.alloc (.cells ((Lib.fields s.data.toList).map λl=>Value.string ⟨l.toArray⟩).toArray 9):=Any.strings_Fields Tryz.akK (by kernel_rfl) (by kernel_rfl) s w hs aky E8
def Tryz.ad5:Go.Shelf.Ren:=⟨λ|154=>68|138=>158|165=>159|143=>152|166=>26|197=>160|169=>28|195=>200|218=>201|240=>70|241=>202|219=>197|260=>203|276=>162|277=>226|217=>219|225=>220|224=>221|267=>222|266=>235|314=>236|n=>n,λ|9=>9|3=>3|4=>4|72=>69|0=>0|76=>74|105=>244|21=>21|5=>5|70=>66|20=>20|37=>67|75=>73|127=>142|164=>246|46=>293|119=>240|139=>312|138=>311|146=>323|51=>282|80=>77|n=>n,λ|1=>3|3=>4|4=>5|n=>n⟩
def Tryz.akJ:Go.Proofs.Lays.n154 bo Tryz.ad5:={
 mixed:=by kernel_rfl
 f138:=Tryz.func158.trans (aQ bc (by kernel_rfl))
 f143:=Tryz.func152.trans (aQ bc (by kernel_rfl))
 f154:=Tryz.func68.trans (aQ bc (by kernel_rfl))
 f165:=Tryz.func159.trans (aQ bc (by kernel_rfl))
 f166:=Tryz.func26.trans (aQ bc (by kernel_rfl))
 f169:=Tryz.func28.trans (aQ bc (by kernel_rfl))
 f195:=Tryz.func200.trans (aQ bc (by kernel_rfl))
 f197:=Tryz.func160.trans (aQ bc (by kernel_rfl))
 f217:=Tryz.func219.trans (aQ bc (by kernel_rfl))
 f218:=Tryz.func201.trans (aQ bc (by kernel_rfl))
 f219:=Tryz.func197.trans (aQ bc (by kernel_rfl))
 f224:=Tryz.func221.trans (aQ bc (by kernel_rfl))
 f225:=Tryz.func220.trans (aQ bc (by kernel_rfl))
 f240:=Tryz.func70.trans (aQ bc (by kernel_rfl))
 f241:=Tryz.func202.trans (aQ bc (by kernel_rfl))
 f260:=Tryz.func203.trans (aQ bc (by kernel_rfl))
 f266:=Tryz.func235.trans (aQ bc (by kernel_rfl))
 f267:=Tryz.func222.trans (aQ bc (by kernel_rfl))
 f276:=Tryz.func162.trans (aQ bc (by kernel_rfl))
 f277:=Tryz.func226.trans (aQ bc (by kernel_rfl))
 f314:=Tryz.func236.trans (aQ bc (by kernel_rfl))
 t0:=gP
 a0:=Tryz.isAgg0
 z0:=Tryz.sizeOf0
 v0:=Tryz.zeroValue0
 t3:=ej
 a3:=Tryz.isAgg3
 z3:=Tryz.sizeOf3
 v3:=Tryz.zeroValue3
 t4:=ep
 a4:=Tryz.isAgg4
 z4:=Tryz.sizeOf4
 v4:=Tryz.zeroValue4
 t5:=eG
 a5:=Tryz.isAgg5
 z5:=Tryz.sizeOf5
 v5:=Tryz.zeroValue5
 t9:=dp
 a9:=Tryz.isAgg9
 z9:=Tryz.sizeOf9
 v9:=Tryz.zeroValue9
 t20:=abC
 a20:=Tryz.isAgg20
 z20:=Tryz.sizeOf20
 v20:=Tryz.zeroValue20
 t21:=abB
 a21:=Tryz.isAgg21
 z21:=Tryz.sizeOf21
 v21:=Tryz.zeroValue21
 t37:=dh
 a37:=Tryz.isAgg67
 z37:=Tryz.sizeOf67
 v37:=Tryz.zeroValue67
 t46:=ft
 a46:=Tryz.isAgg293
 z46:=Tryz.sizeOf293
 v46:=Tryz.zeroValue293
 t51:=fw
 a51:=Tryz.isAgg282
 z51:=Tryz.sizeOf282
 v51:=Tryz.zeroValue282
 t70:=Tryz.underlying66
 a70:=Tryz.isAgg66
 z70:=Tryz.sizeOf66
 v70:=Tryz.zeroValue66
 t72:=Tryz.underlying69
 a72:=Tryz.isAgg69
 z72:=Tryz.sizeOf69
 v72:=Tryz.zeroValue69
 t75:=Tryz.underlying73
 a75:=Tryz.isAgg73
 z75:=Tryz.sizeOf73
 v75:=Tryz.zeroValue73
 t76:=Tryz.underlying74
 a76:=Tryz.isAgg74
 z76:=Tryz.sizeOf74
 v76:=Tryz.zeroValue74
 t105:=Tryz.underlying244
 a105:=Tryz.isAgg244
 z105:=Tryz.sizeOf244
 v105:=Tryz.zeroValue244
 t119:=abj
 a119:=Tryz.isAgg240
 z119:=Tryz.sizeOf240
 t127:=Tryz.underlying142
 a127:=Tryz.isAgg142
 z127:=Tryz.sizeOf142
 v127:=Tryz.zeroValue142
 t138:=Tryz.underlying311
 a138:=Tryz.isAgg311
 z138:=Tryz.sizeOf311
 v138:=Tryz.zeroValue311
 t139:=Tryz.underlying312
 a139:=Tryz.isAgg312
 z139:=Tryz.sizeOf312
 v139:=Tryz.zeroValue312
 t146:=abr
 a146:=Tryz.isAgg323
 z146:=Tryz.sizeOf323
 v146:=Tryz.zeroValue323
 t164:=Tryz.underlying246
 a164:=Tryz.isAgg246
 z164:=Tryz.sizeOf246
 v164:=Tryz.zeroValue246
 g1:=by kernel_rfl
 g3:=by kernel_rfl
 g4:=by kernel_rfl }
def Tryz.akS:Builder.Extra bo Tryz.ad5:={
 sizeBuilder:=by kernel_rfl
 liesBuilder:=by kernel_rfl
 t5:=eG
 a5:=Tryz.isAgg5
 z5:=Tryz.sizeOf5
 v5:=Tryz.zeroValue5
 infoByte:=by kernel_rfl
 cellsByte:=by kernel_rfl
 sizeByte:=by kernel_rfl
 neB5:=by decide }
open Go.RowKit Go.Lib in
theorem Tryz.strings_Replace(s old new:ByteArray)(n:Int)(m:Int)(w:bE)(hs:s.size<4294967281)(hm:w.cell? ⟨3,0,bh⟩=bc (.int .i64 m))(h1:1<=old.size)(hlen:s.size+Lib.countB s old*new.size<=140737488355328):
  Calls bo 68 #[.string s,.string old,.string new,.int .i64 n] w λe w' =>
   e=.returned (.string ⟨(Lib.replace s.data.toList old.data.toList new.data.toList n).toArray⟩)/\Below w.heap.size w w':=Any.strings_Replace Tryz.akJ Tryz.akS s old new n m w hs hm h1 hlen
end Go.Proofs
set_option maxRecDepth 100000
namespace Go.Proofs.YtmjfiffpolkdeaaGreatDoor
open Go Go.RowKit Go.iE Go.EV Go.EQ
def Gn:List ak:=[[60,61],[61,61],[59],[44],[58],[61],[60],[43],[45],[42],[47],[37],[40],[41]]
def Ie(ob:Go.Obj):EV.Obj:=.kg 1 ob (Gn.map V.str)
def Fu(ob:Go.Obj):EV.Obj:=.kg 0 ob (Lib.asciiSpaceTab.map (V.int .u8))
def DY(ob:Go.Obj)(m:Int):EV.Obj:=.kg 3 ob [.int .i64 m]
def Fv(ob:Go.Obj):EV.Obj:=.kg 6 ob (Lib.pow10Tab.map (V.int .u64))
class JC where
 CZ:Go.Obj
 B_:Go.Obj
 C0:Go.Obj
 m2:Int
 B':Go.Obj
variable[JC]
def gl:ax:=[(900000000,Ie JC.CZ),(900000001,Fu JC.B_),(900000002,DY JC.C0 JC.m2),(900000003,Fv JC.B')]
def Z5{α:Type}{f:α->V}(h:∀a,(f a).bare=bg):∀l:List α,Vu (l.map f)=bg
 |[]=>rfl
 |a::l=>by simp only[gf,Vu,h a,Z5 h l,Bool.and_self]
def MX:IY gl=bg:=by have h0:=Z5 (f:=V.str) (λ_=>rfl) Gn;have h1:=Z5 (f:=V.int .u8) (λ_=>rfl) Lib.asciiSpaceTab;have h3:=Z5 (f:=V.int .u64) (λ_=>rfl) Lib.pow10Tab;simp only[IY,gl,cv,List.all_nil,Ie,Fu,DY,Fv,h0,h1,h3];rfl
def Kw{α:Type}{enc:α->V}{f:α->bu}{m:Option M}{Z:ZM}(h:∀a x,aV m Z (enc a) x->x=f a):∀{l:List α}{xs:List bu},zG m Z (l.map enc) xs->xs=l.map f
 |[],xs,hx=>hx
 |a::l,xs,hx=>by obtain⟨x,r,rfl,h1,h2⟩:=hx;rw[h a x h1,Kw h h2];rfl
def bind_some{α β:Type}{o:Option α}{f:α->Option β}{r:β}(h:o.bind f=bc r):∃a,o=bc a/\f a=bc r:=dy.1 h
def zx1(w:bE)(k:Nat)(os:Array Go.Obj):Below w.heap.size w (Sort.grow (w.drewN k) os):=
 ⟨rfl,rfl,rfl,by show w.heap.size<=(w.heap++os).size;simp,λj hj=>by
  show(w.heap++os)[j]?=_
  rw[Array.getElem?_append_left hj]⟩
def L6(n:Int):Option ak:=(ea (-9223372036854775808<=n/\n<=9223372036854775807)).bind λ_=>bc (Lib.itoa n)
def zVf(n:Int)(r:ak)(hs:L6 n=bc r):mx bo 69 [.int .i64 n] gl (.str r) gl:=by
 unfold L6 at hs;obtain⟨_,h,hs⟩:=bind_some hs;obtain⟨h0,h1⟩:=yD h;obtain rfl:=Option.some.inj hs
 refine ZR MX rfl λw Z vals hf hg hv=>?_
 obtain⟨x,xs,rfl,e1,e2⟩:=hv;cases e2;cases e1;obtain⟨cur,u,fr,g1,g2⟩:=hg (900000003,Fv JC.B') (by simp[gl]) 6 _ _ rfl;have hc:cur.toList=Lib.pow10Tab.map (Value.int .u64):=Kw (enc:=V.int .u64) (f:=Value.int .u64) (λa x h=>h) g2
 have E8 : Lib.TabIs bo w "internal/strconv.uint64pow10" .u64 Lib.pow10Tab := by
  unfold Lib.TabIs World.var?
  rw [show Tryz.prog.globalNamed "internal/strconv.uint64pow10" = bc 6 by kernel_rfl]
  simp only[aC,g1];rw[<- hc]
 refine Calls.mono (Tryz.strconv_Itoa n h0 h1 w E8) ?_;rintro e w' ⟨rfl,k,os,rfl⟩;exact⟨_,rfl,λ_=>rfl,zx1 w k os⟩
def JM:ak->ak->Bool
 |[],sub=>sub.isEmpty
 | b::l,sub=>sub.isPrefixOf (b::l)||JM l sub
def zm0:∀s sub:ak,Lib.contains s sub=JM s sub
 |[],sub=>by
  unfold Lib.contains Lib.index JM;cases sub<;>rfl
 |b::l,sub=>by
  have ih:=zm0 l sub;have hg:=Lib.index_ge l sub;unfold Lib.contains at ih ⊢
  have ahX:Lib.index (b::l) sub=if sub.isPrefixOf (b::l)then 0 else if Lib.index l sub==-1 then -1 else Lib.index l sub+1:=by rw[Lib.index]
  unfold JM;rw[<- ih,ahX]
  cases sub.isPrefixOf (b::l)with
  |true=>simp
  |false =>
   simp only[cr,if_false,Bool.false_or];by_cases h:Lib.index l sub=-1
   .simp[h]
   .have h2:(Lib.index l sub==-1)=bd:=by simpa using h
    simp only[h2,cr,if_false];simp only[decide_eq_decide];constructor<;>intro h3<;>omega
def KJ(s sub:ak):Option Bool:=(ea (bf s<4294967281)).bind λ_=>bc (JM s sub)
def XN{s:ak}{n:Nat}(h:s.length<n):(⟨s.toArray⟩:ByteArray).size<n:=by rw[size_mk];exact h
def zx2(s sub:ak)(r:Bool)(hs:KJ s sub=bc r):mx bo 60 [.str s,.str sub] gl (.bool r) gl:=by
 unfold KJ at hs;obtain⟨_,h,hs⟩:=bind_some hs;have h0:=yD h;obtain rfl:=Option.some.inj hs
 refine ZR MX rfl λw Z vals hf hg hv=>?_
 obtain⟨x,xs,rfl,e1,x2,xs2,rfl,e2,e3⟩:=hv;cases e3;cases e1;cases e2;obtain⟨cur,u,fr,g1,g2⟩:=hg (900000002,DY JC.C0 JC.m2) (by simp[gl]) 3 _ _ rfl;obtain⟨y,ys,g3,rfl,rfl⟩:=g2
 have hm:w.cell? ⟨3,0,bh⟩=bc (.int .i64 JC.m2):=by rw[cell_of_row w 3 0 cur u fr g1,<- Array.getElem?_toList,g3];rfl
 refine Calls.mono (Tryz.strings_Contains ⟨s.toArray⟩ ⟨sub.toArray⟩ JC.m2 w (XN h0) hm) ?_;rintro e w' ⟨rfl,rfl⟩;exact⟨_,rfl,λ_=>by rw[<- zm0];rfl,Below.refl _ _⟩
def zb3(s p:ak):Option Bool:=bc (p.isPrefixOf s)
def zrn(s p:ak)(r:Bool)(hs:zb3 s p=bc r):mx bo 165 [.str s,.str p] [] (.bool r) []:=by
 obtain rfl:=Option.some.inj hs
 refine ZR rfl rfl λw Z vals hf hg hv=>?_
 obtain⟨x,xs,rfl,e1,x2,xs2,rfl,e2,e3⟩:=hv;cases e3;cases e1;cases e2;refine Calls.mono (Tryz.strings_HasPrefix ⟨s.toArray⟩ ⟨p.toArray⟩ w) ?_;rintro e w' ⟨rfl,rfl⟩;exact⟨_,rfl,λ_=>rfl,Below.refl _ _⟩
def KN(s:ak):Option (List ak):=(ea (bf s<4294967281/\s.all (λb=>Nat.blt b.toNat 128)=bg/\0<(Lib.fields s).length/\(Lib.fields s).length<=maxLen)).bind λ_=>bc (Lib.fields s)
def zVg(Z:ZM):∀r:List ak,zG bh Z ((r.map λx=>[V.str x]).flatten) (r.map λl=>Value.string ⟨l.toArray⟩)
 |[]=>rfl
 |_::r=>⟨_,_,rfl,rfl,zVg Z r⟩
def zJc(s:ak)(r:List ak)(hs:KN s=bc r):mx bo 67 [.str s] gl (.sl 1 60 r.length 0 r.length) ((60,.row 9 1 0 (r.map λx=>[V.str x]))::gl):=by
 unfold KN at hs;obtain⟨_,h,hs⟩:=bind_some hs;obtain⟨h0,h1,h2,h3⟩:=yD h;have hr:=Option.some.inj hs;intro w m Z vals hS hv iO;obtain⟨x,xs,rfl,e1,e2⟩:=hv;cases e2;cases e1;have hh:=hS.holds (900000001,Fu JC.B_) (by simp[gl]);obtain⟨_,⟨g1,cur,u,fr,e1,g2⟩,_⟩:=hh;rw[e1]at g1;have hc:cur.toList=Lib.asciiSpaceTab.map (Value.int .u8):=Kw (enc:=V.int .u8) (f:=Value.int .u8) (λa x h=>h) g2
 have E8 : Lib.TabIs bo w "strings.asciiSpace" .u8 Lib.asciiSpaceTab := by
  unfold Lib.TabIs World.var?
  rw [show Tryz.prog.globalNamed "strings.asciiSpace" = bc 0 by kernel_rfl]
  simp only[aC,g1];rw[<- hc]
 refine Calls.mono (Tryz.strings_Fields ⟨s.toArray⟩ w (XN h0) (λj b hb=>?_) E8) ?_
 .have:=(bj.1 h1) b (List.mem_of_getElem? hb);exact lb this
 rintro e w' ⟨rfl,rfl⟩;have Ea:Lib.fields (⟨s.toArray⟩:ByteArray).data.toList=r:=hr;rw[Ea]at *;rw[hr]at h2 h3
 have hf:zG bh Z ((r.map λx=>[V.str x]).flatten) (r.map λl=>Value.string ⟨l.toArray⟩):=by exact zVg Z r
 obtain⟨m',st,hk⟩:=Step.new (m:=m) (Z:=Z) (w:=w) (k:=60) (o:=.row 9 1 0 (r.map λx=>[V.str x])) (.cells (r.map λl=>Value.string ⟨l.toArray⟩).toArray 9) r.length hS.frozen (λL=>iO 60 (by simp[keys,gl]) L) λm' g1 g2 g3=>by
  refine .inr ⟨w.heap.size,r.length,_,(0,0),by simpa[Obj.hO]using g1,h2,World.alloc_heap_new w _,af,h3,af,Nat.one_pos,?_,λx hx=>?_,bP _,bP _,λa x ha e=>?_,λL l e=>?_,λoff x ho=>?_⟩
  .rw[bL,Nat.mul_one,cI af];exact hf
  .obtain⟨y,_,rfl⟩:=bz.1 hx;rfl
  .have:=vq hS.frozen ha;omega
  .have:=g2 L l e;simp only[Obj.hO]at this;omega
  .omega
 have SL:=Step.sv (F:=[]) (G:=gl) hS st λp hp q hq e=>by
  cases bS.1 hp;simp only[gl,bq,List.not_mem_nil,or_false]at hq
  rcases hq with rfl|rfl|rfl|rfl<;>cases e
 refine⟨_,m',Z,rfl,SL,m',(w.heap.size,r.length),rfl,by simpa[Obj.hO]using hk,af,h3,.inl ?_⟩;simp
end Go.Proofs.YtmjfiffpolkdeaaGreatDoor
namespace Go.EV
open Go Go.ChangeShapes Go.WideShapes Go.ChangeAt Go.RowKit Go.Deep Go.Joins Go.iE
def LZ(P:bm):List Field->Nat->Option Nat
 |[],off=>bc off
 |f::r,off=>if bk f.offset off then LZ P r (off+P.cellsOf f.type)else bh
def Gz(P:bm)(t:bA):Bool:=match P.underlying t with
 |some (.struct fs)=>match LZ P fs.toList 0 with|some n=>bk n (P.cellsOf t)|none=>bd
 |some (.array m e)=>bk (m*P.cellsOf e) (P.cellsOf t)
 |_=>bg
def L1(P:bm)(t:bA):Bool:=match P.underlying t with
 |some (.struct fs)=>fs.toList.all λf=>cw (f.type+1) P.types.size
 |some (.array _ e)|some (.slice e)=>cw (e+1) P.types.size
 |_=>bg
def zVh(P:bm):Bool:=(List.range P.types.size).all λt=>Gz P t&&L1 P t
def JN(P:bm)(t:bA):Bool:=match P.underlying t with
 |some .bool|some (.int _)|some .string|some (.slice _)|some (.struct _)|some (.array ..)=>bg
 |_=>bd
inductive ya(P:bm):bA->List V->Prop
 |bool {t:bA} {b:Bool} (h:P.underlying t=bc .bool):ya P t [.bool b]
 |int {t:bA} {k:IntKind} {n:Int} (h:P.underlying t=bc (.int k)) (hw:(Lit.int k n).wf=bg):ya P t [.int k n]
 |str {t:bA} {s:ak} (h:P.underlying t=bc .string) (hl:s.length<=maxLen):ya P t [.str s]
 |slice {t e:bA} {els:List (List V)} (h:P.underlying t=bc (.slice e)) (hl:els.length<=maxLen) (hx:∀x∈els,ya P e x):ya P t [.vs (P.cellsOf e) els]
 |struct {t:bA} {fs:Array Field} {cs:List V} (h:P.underlying t=bc (.struct fs)) (hc:cs.length=P.cellsOf t) (hx:∀f∈fs.toList,ya P f.type ((cs.drop f.offset).take (P.cellsOf f.type))):ya P t cs
 |array {t e:bA} {m:Nat} {cs:List V} (h:P.underlying t=bc (.array m e)) (hc:cs.length=P.cellsOf t) (hx:∀i,i<m->ya P e ((cs.drop (i*P.cellsOf e)).take (P.cellsOf e))):ya P t cs
 |other {t:bA} {cs:List V} (h:JN P t=bd):ya P t cs
def zuh{α:Type}[Inhabited α]{p:Nat->α->Prop}:∀n:Nat,(∀i,i<n->∃x,p i x)->∃l:List α,l.length=n/\∀i x,l[i]?=bc x->p i x
 |0,_=>⟨[],rfl,λi x h=>by simp at h⟩
 |n+1,h=>by
  obtain⟨l,hl,hp⟩:=zuh n (λi hi=>h i ab);obtain⟨x,hx⟩:=h n ab;refine⟨l++[x],by simp[hl],λi y hy=>?_⟩;rw[List.getElem?_append]at hy;split at hy
  .exact hp i y hy
  .rename_i fZ
   have:i=n:=by have:=(bx.1 hy).1;simp at this;omega
   subst this;rw[hl,aa_]at hy;simp at hy;subst hy;exact hx
def WK{Z:ZM}:∀cs:List bu,zG bh Z (cs.map λ_=>V.undef) cs
 |[]=>rfl
 |c::cs=>⟨c,cs,rfl,trivial,WK cs⟩
def zb4{P:bm}{Z:ZM}(cs:List bu):∀(fs:List Field)(off n:Nat),LZ P fs off=bc n->n<=cs.length ->
  (∀f∈fs,∃vs,ya P f.type vs/\zG bh Z vs ((cs.drop f.offset).take (P.cellsOf f.type))) ->
  off<=n/\∃vs,vs.length=n-off/\zG bh Z vs ((cs.drop off).take (n-off))/\∀f∈fs,off<=f.offset/\ya P f.type ((vs.drop (f.offset-off)).take (P.cellsOf f.type))
 |[],off,n,h,hn,_=>by
  simp only[LZ,Option.some.injEq]at h;subst h;exact⟨aq,[],af,by simp[zG],λf hf=>by cases hf⟩
 |f::fs,off,n,h,hn,hx=>by
  simp only[LZ]at h;split at h
  .rename_i hb;have hb:=eb hb;obtain⟨h1,vs,h2,h3,h4⟩:=zb4 cs fs _ n h hn (λg hg=>hx g (gq _ hg));obtain⟨us,h5,h6⟩:=hx f al;rw[hb]at h6
   have Sk:us.length=P.cellsOf f.type:=by have:=h6.length;rw[bX,bU]at this;omega
   refine⟨ab,us++vs,by rw[la];omega,?_,λg hg=>?_⟩
   .have e:(cs.drop off).take (n-off)=(cs.drop off).take (P.cellsOf f.type)++(cs.drop (off+P.cellsOf f.type)).take (n-(off+P.cellsOf f.type)):=by rw[<- dz,show n-off=P.cellsOf f.type+(n-(off+P.cellsOf f.type)) by omega,abP]
    rw[e];exact h6.append h3
   .rcases bq.1 hg with rfl|hg
    .refine⟨ab,?_⟩;rw[hb,aa_,ef,<- Sk,dO];exact h5
    .obtain⟨h7,h8⟩:=h4 g hg;refine⟨ab,?_⟩;rw[show g.offset-off=us.length+(g.offset-(off+P.cellsOf f.type)) by omega,aaX];rw[dP ab,cl,show us.length+(g.offset-(off+P.cellsOf f.type))-us.length=g.offset-(off+P.cellsOf f.type) by omega];exact h8
  .cases h
def zgd{P:bm}{Z:ZM}(cs:List bu)(e:bA):∀(m off:Nat),off+m*P.cellsOf e<=cs.length ->
  (∀i,i<m->∃vs,ya P e vs/\zG bh Z vs ((cs.drop (off+i*P.cellsOf e)).take (P.cellsOf e))) ->
  ∃vs,vs.length=m*P.cellsOf e/\zG bh Z vs ((cs.drop off).take (m*P.cellsOf e))/\∀i,i<m->ya P e ((vs.drop (i*P.cellsOf e)).take (P.cellsOf e))
 |0,off,hn,_=>⟨[],af,by simp[zG],λi hi=>ab⟩
 |m+1,off,hn,hx=>by
  rw[dx]at hn
  obtain⟨vs,h2,h3,h4⟩:=zgd (P:=P) cs e m (off+P.cellsOf e) ab (λi hi=>by
   have:=hx (i+1) ab;rw[dx,show off+(i*P.cellsOf e+P.cellsOf e)=off+P.cellsOf e+i*P.cellsOf e by omega]at this
   exact this)
  obtain⟨us,h5,h6⟩:=hx 0 ab;rw[eK,Nat.add_zero]at h6
  have Sk:us.length=P.cellsOf e:=by have:=h6.length;rw[bX,bU]at this;omega
  refine⟨us++vs,by rw[la,dx];omega,?_,λi hi=>?_⟩
  .have e1:(cs.drop off).take ((m+1)*P.cellsOf e)=(cs.drop off).take (P.cellsOf e)++(cs.drop (off+P.cellsOf e)).take (m*P.cellsOf e):=by rw[<- dz,dx,Nat.add_comm,abP]
   rw[e1];exact h6.append h3
  .cases i with
   |zero=>rw[eK,ef,<- Sk,dO];exact h5
   |succ i =>
    have:=h4 i ab;rw[dx,show i*P.cellsOf e+P.cellsOf e=us.length+i*P.cellsOf e by omega,aaX];rw[dP ab,cl,show us.length+i*P.cellsOf e-us.length=i*P.cellsOf e by omega];exact this
section
variable{H:Type}{enc:bA×bu->H}{P:bm}{w:bE}{base:Nat}{spare:Nat->Bool}{held:Bool}
def O7(hP:∀t,t<P.types.size->Gz P t=bg/\L1 P t=bg):∀(fuel:Nat)(t:bA)(cs:List bu)(x:DataW H×List MemPlace),t<P.types.size->DataW.trod enc P w base spare held fuel t cs=bc x->∃vs,ya P t vs/\zG bh w.cell? vs cs
 |0,t,cs,x,_,h=>by simp[DataW.trod]at h
 |fuel+1,t,cs,x,fZ,h=>by
  obtain⟨adQ,Fb⟩:=hP t fZ;unfold L1 at Fb
  cases ht:P.underlying t with
  |none=>exact⟨_,.other (by unfold JN;rw[ht]),WK cs⟩
  |some d =>
   have akB:JN P t=bd->∃vs,ya P t vs/\zG bh w.cell? vs cs:=λhp=>⟨_,.other hp,WK cs⟩
   cases d with
   |bool =>
    obtain⟨b,rfl,_⟩:=DataW.trod_bool ht h;exact⟨[.bool b],.bool ht,_,_,rfl,rfl,rfl⟩
   |int k =>
    obtain⟨n,rfl,_,hw⟩:=DataW.trod_int ht h;exact⟨[.int k n],.int ht hw,_,_,rfl,rfl,rfl⟩
   |string =>
    obtain⟨s,rfl,_,hs⟩:=DataW.trod_string ht h;exact⟨[.str s.data.toList],.str ht (by simpa using hs),_,_,rfl,rfl,rfl⟩
   |slice e =>
    rcases DataW.trod_slice ht h with⟨rfl,_⟩|⟨a,len,cap,elems,rest,n,hn,rfl,_,_,hl,hm,hlen,hel,_⟩
    .exact⟨[.vs (P.cellsOf e) []],.slice ht (bP _) (λ_ h=>by cases h),_,_,rfl,⟨bh,0,rfl,aq,bP _,.inl rfl⟩,rfl⟩
    .have hn:n=fuel:=ab;subst hn
     obtain⟨els,he,hp⟩:=zuh (α:=List V) (p:=λi vs=>ya P e vs/\vs.length=P.cellsOf e/\Ay w.cell? (a.add (i*P.cellsOf e)) 0 vs) len (λi hi=>by
      have h1:=hel i hi;rw[bF ab]at h1;obtain⟨iK,h2,h3⟩:=dy.1 h1;obtain⟨_,h4,h5⟩:=World.cells?_some h2;rw[ht]at Fb;obtain⟨vs,h6,h7⟩:=O7 hP n e iK _ (lb Fb) h3;have h8:=h7.length;refine⟨vs,h6,ab,Ay.n7 λj v hj=>?_⟩;obtain⟨u,h9,p9⟩:=h7.get hj;rw[cA,h5 j (by have:=(bx.1 hj).1;omega)]
      exact⟨u,h9,p9⟩)
     refine⟨[.vs (P.cellsOf e) els],.slice ht ab (λx hx=>?_),_,_,rfl,⟨bc a,cap,by rw[he],ab,hm,.inr ⟨a,rfl,wm.n7 λi iK hi=>?_⟩⟩,rfl⟩
     .obtain⟨i,hi,rfl⟩:=dS hx;exact(hp i _ (bF hi)).1
     .obtain⟨_,h2,h3⟩:=hp i iK hi;rw[cA];exact⟨h2,h3⟩
   |struct fs =>
    obtain⟨xs,n,hn,_,hc,hlen,hg⟩:=DataW.trod_struct ht h;have hn:n=fuel:=ab;subst hn;have rC:=adQ;unfold Gz at rC;rw[ht]at rC Fb;simp only at rC;split at rC
    .rename_i m hm;have rC:=eb rC
     obtain⟨_,vs,h2,h3,h4⟩:=zb4 (P:=P) (Z:=w.cell?) cs fs.toList 0 m hm ab (λf hf=>by
      obtain⟨i,hi,rfl⟩:=dS hf;have h1:=hg i _ (by rw[<- Array.getElem?_toList];exact bF hi);rw[bF (by rw[hlen];simpa using hi)]at h1
      exact O7 hP n _ _ _ (lb ((bj.1 Fb) _ (List.getElem_mem _))) h1)
     rw[ef,abz,cI ab]at h3;exact⟨vs,.struct ht ab (λf hf=>by have:=(h4 f hf).2;rwa [abz]at this),h3⟩
    .cases rC
   |array m e =>
    obtain⟨xs,n,hn,_,hc,hlen,hg⟩:=DataW.trod_array ht h;have hn:n=fuel:=ab;subst hn;have rC:=adQ;unfold Gz at rC;rw[ht]at rC Fb;have rC:=eb rC
    obtain⟨vs,h2,h3,h4⟩:=zgd (P:=P) (Z:=w.cell?) cs e m 0 ab (λi hi=>by
     have h1:=hg i hi;rw[bF ab]at h1;rw[cA]
     exact O7 hP n _ _ _ (lb Fb) h1)
    rw[ef,cI ab]at h3;exact⟨vs,.array ht ab h4,h3⟩
   |_=>exact akB (by unfold JN;rw[ht])
end
def zJd{P:bm}(h:zVh P=bg):∀t,t<P.types.size->Gz P t=bg/\L1 P t=bg:=λt ht=>by
 have:=(bj.1 h) t (List.mem_range.2 ht)
 rwa [bn]at this
section
variable{P:bm}{t e m:Nat}{fs:Array Field}{cs:List V}{k:IntKind}
def zCr(ht:P.underlying t=bc .bool)(h:ya P t cs):∃b,cs=[.bool b]:=by
 cases h with
 |bool=>exact⟨_,rfl⟩
 |int h|str h|slice h|struct h|array h=>rw[ht]at h;cases h
 |other h=>unfold JN at h;rw[ht]at h;cases h
def zJe(ht:P.underlying t=bc (.int k))(h:ya P t cs):∃n,cs=[.int k n]/\(Lit.int k n).wf=bg:=by
 cases h with
 |int h hw=>rw[ht]at h;cases h;exact⟨_,rfl,hw⟩
 |bool h|str h|slice h|struct h|array h=>rw[ht]at h;cases h
 |other h=>unfold JN at h;rw[ht]at h;cases h
def zJf(ht:P.underlying t=bc .string)(h:ya P t cs):∃s,cs=[.str s]/\s.length<=maxLen:=by
 cases h with
 |str h hl=>exact⟨_,rfl,hl⟩
 |bool h|int h|slice h|struct h|array h=>rw[ht]at h;cases h
 |other h=>unfold JN at h;rw[ht]at h;cases h
def WL(ht:P.underlying t=bc (.slice e))(h:ya P t cs):∃els,cs=[.vs (P.cellsOf e) els]/\els.length<=maxLen/\∀x∈els,ya P e x:=by
 cases h with
 |slice h hl hx=>rw[ht]at h;cases h;exact⟨_,rfl,hl,hx⟩
 |bool h|int h|str h|struct h|array h=>rw[ht]at h;cases h
 |other h=>unfold JN at h;rw[ht]at h;cases h
def ow(ht:P.underlying t=bc (.struct fs))(h:ya P t cs):cs.length=P.cellsOf t/\∀f∈fs.toList,ya P f.type ((cs.drop f.offset).take (P.cellsOf f.type)):=by
 cases h with
 |struct h hc hx=>rw[ht]at h;cases h;exact⟨hc,hx⟩
 |bool h|int h|str h|slice h|array h=>rw[ht]at h;cases h
 |other h=>unfold JN at h;rw[ht]at h;cases h
def VO{α:Type}{enc:α->List V}{ok:α->Prop}(h1:∀c,ya P e c->∃a,c=enc a/\ok a):∀{els:List (List V)},(∀x∈els,ya P e x)->∃l:List α,els=l.map enc/\∀a∈l,ok a
 |[],_=>⟨[],rfl,λ_ h=>by cases h⟩
 |c::els,h=>by
  obtain⟨a,rfl,ha⟩:=h1 c (h c al);obtain⟨l,rfl,hl⟩:=VO h1 (λx hx=>h x (gq _ hx))
  exact⟨a::l,rfl,λb hb=>by
   rcases bq.1 hb with rfl|hb
   .exact ha
   .exact hl b hb⟩
end
def rD(k:IntKind)(n:Int):Prop:=(Lit.int k n).wf=bg
def C1(s:ak):Prop:=s.length<=maxLen
def Ey{α:Type}(ok:α->Prop)(l:List α):Prop:=l.length<=maxLen/\∀a∈l,ok a
def zx4{m m':M}{Z Z':ZM}{G:ax}{w w':bE}(hG:IY G=bg)(hs:wo m Z G w)(h:Step m Z G w m' Z' G w'):Below w.heap.size w w':=by
 refine⟨h.os,h.tape,h.output,h.size,λb hb=>?_⟩;by_cases hx:∃p∈G,fD m p b
 .obtain⟨p,hp,e⟩:=hx;obtain⟨g,ob,cs,hl,_⟩:=zOz hG hp;have h1:=hs.holds p hp;have h2:=h.gy.holds p hp;rw[hl]at h1 h2;obtain⟨h3,⟨h4,_⟩,_⟩:=h1;obtain⟨_,⟨h5,_⟩,_⟩:=h2
  have:g=b:=by obtain⟨k,o⟩:=p;simp only at hl h3;subst hl;simpa[fD,qZ,Obj.hO,h3]using e
  subst this;rw[h4,h5]
 .exact h.frame b hb λp hp e=>hx ⟨p,hp,e⟩
section
variable{H:Type}{enc:bA×bu->H}{P:bm}
def zge(hl:laidOutB P=bg){W W':bE}(hb:Below W.heap.size W W'):∀(ts:List bA)(vs:List bu)(ds:List (DataW H))(ps:List MemPlace),(ts.all λt=>P.readableRec t&&decide (t<P.types.size))=bg ->
  DataW.TrodAll enc P W 0 (λ_=>bg) bg ts vs ds ps->(∀x∈ps,x.block<W.heap.size)->DataW.TrodAll enc P W' 0 (λb=>decide (b<W.heap.size)) bg ts vs ds ps
 |[],[],[],ps,_,h,_=>h
 |t::ts,v::vs,d::ds,ps,ht,h,fZ=>by
  obtain⟨p,q,h1,h2,rfl⟩:=h;simp only[cv,bn,aW]at ht;exact⟨p,q,Below.trod hl ht.1.1 ht.1.2 h1 hb (λx hx=>fZ x (bI _ hx)),zge hl hb ts vs ds q ht.2 h2 (λx hx=>fZ x (bK _ hx)),rfl⟩
 |[],[],_::_,_,_,h,_=>h.elim
 |[],_::_,_,_,_,h,_=>h.elim
 |_::_,[],_,_,_,h,_=>h.elim
 |_::_,_::_,[],_,_,h,_=>h.elim
end
end Go.EV
