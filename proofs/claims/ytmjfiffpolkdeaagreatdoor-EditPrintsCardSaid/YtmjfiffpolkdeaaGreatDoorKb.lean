/- texts that the proof reaches, part 2 -/
import Derived.Test.YtmjfiffpolkdeaaGreatDoorKa
import Derived.Sort.Row
import Derived.Sort.Grow
import Derived.Lib.SlicesCompact
import Derived.MapKept
import Derived.Maps.RangeRun
import Derived.Laws.MakeOwn
import Derived.Scope
import Derived.Laws.BytesArg
import Derived.Lib.FrozenHead
import Derived.Laws.IdiomRangeMap
import Derived.ChangeKeysEq
set_option linter.all false
open Array renaming getElem?_eq_some_iff->ck,getD_eq_getD_getElem?->cz,getElem?_replicate->dF,getElem?_eq_getElem->dU,toList_modify->fV,toList_push->gF
open Bool renaming false->bd,true->bg,not_eq_true'->bW,or_eq_true->dc,eq_iff_iff->eN,and_self->abp
open Go renaming Program->bm,Value->bu,TypeId->bA,Operand->bB,World->bE,execOp->ca,Deferred->cg
open Int renaming toNat->bQ
open List renaming length->bf,all_eq_true->bj,mem_cons->bq,mem_append->bw,getElem?_eq_some_iff->bx,mem_map->bz,getElem?_eq_getElem->bF,mem_append_left->bI,mem_append_right->bK,length_map->bL,append_nil->bM,length_drop->bU,length_take->bX,getD_eq_getElem?_getD->bY,nil_append->cl,mem_map_of_mem->cm,contains_eq_mem->cy,getElem?_map->cC,getElem?_take->cE,map_append->cG,size_toArray->cH,take_of_length_le->cI,nodup_cons->cJ,flatten_cons->cK,nodup_append->cO,map->cP,range->cQ,replicate->cS,mem_nil_iff->cV,map_map->cW,map_nil->cX,flatten_append->da,isEmpty->dj,perm_append_comm->dk,length_set->dn,mem_of_mem_take->dv,nodup_nil->dG,take_left->dO,drop_eq_nil_of_le->dP,getElem_of_mem->dS,getElem_mem->dX,map_take->dZ,drop_take->eg,mem_of_mem_drop->ee,pairwise_append->eB,getElem?_set_ne->eC,isEmpty_iff->eF,append_eq_nil_iff->eM,pairwise_cons->eL,take_take->eU,mem_flatten->eZ,map_congr_left->fc,eq_of_mem_replicate->ff,map_drop->fg,length_replicate->aaW,take_append->fM,getElem_modify->fY,mem_range->abe,drop_left->abh,pairwise_iff_getElem->aa6,drop_eq_getElem_cons->abk,getElem?_set->gH,drop->gN,take_append_drop->abc,take_zero->abl,length_modify->abq,map_replicate->abv,mem_set->abQ
open Nat renaming beq->bk,zero_le->bP,mul_le_mul_right->cj,ble->cw,zero_add->cA,beq_refl->cF,le_trans->cR,le_refl->du,add_mul->dC,add_zero->dM,min_eq_left->ei,ble_eq_true_of_le->ez,add_comm->eW,le_mul_of_pos_right->aa3,mul_one->abH,min->lE
open Option renaming some->bc,none->bh,bind_eq_some_iff->dy,getD_some->dJ
namespace Go.EV
open Go Go.RowKit Go.iE
section
variable{K0:List Nat}{c:Ctx K0}{P:bm}{r:Option Nat}{N:Nat}{Q:xH}{ρ:Env}{H H':ax}{ds:List cg}{all rest l:List Oper}{o:Oper}{x:Code}{K:Env->ax->Prop}{done P3:List FP}
def C8(N:Nat)(o:Oper):Bool:=match o.dst with|some d=>cw (d+1) N|none=>bg
def zOu{id:Nat}(h:Zn c P r N l Q l ρ H ds):lK c P r N (.region id l.toArray bd) Q ρ H ds:=zHe h
def Cut(K0:List Nat)(ρ':Env)(H':ax)(lS:Env)(H1:ax):Prop:=∀(c:Ctx K0) ρr w,Kv c ρ' H' ρr w->Kv c lS H1 ρr w
def Cut.trans{K0:List Nat}{lS ρ2 MP:Env}{H1 H2 H3:ax}(h:Cut K0 lS H1 ρ2 H2)(k:Cut K0 ρ2 H2 MP H3):Cut K0 lS H1 MP H3:=λc ρr w S=>k c ρr w (h c ρr w S)
def Cut.refl{K0:List Nat}{lS:Env}{H1:ax}:Cut K0 lS H1 lS H1:=λ_ _ _ S=>S
def zfs{F lS:ax}(ks:List Nat)(lH:nodupB ks=bg)(hF:ua ks H=bc F)(agz:gD F++qw ks H=lS):Cut K0 ρ H ρ lS:=λc ρr w S=>by subst agz;exact S.freeze ks lH hF
def zw9(t d e sz:Nat)(gp:cw 1 sz=bg)(ht:ρ.get t=.gR)(hd:jW d H=bd):Cut K0 ρ H ((t,.sl sz d 0 0 0)::ρ) ((d,.row e sz 0 [])::H):=λc ρr w S=>S.ν t d e sz gp ht hd
def zUk(t:Nat){v v':V}(h1:ρ.get t=v)(h2:v=v'):Cut K0 ρ H ((t,v')::ρ) H:=λc ρr w S=>by
 subst h2;obtain⟨m,Z,S,hr⟩:=S;refine⟨m,Z,S,λu=>?_⟩
 show aV (bc m) Z (bif bk u t then v else ρ.get u) (ρr u)
 cases hb:bk u t with
 |false=>exact hr u
 |true =>
  have:=eb hb;subst this;rw[<- h1];exact hr u
def adF(lS:Env)(H1:ax)(h:Cut K0 ρ H lS H1)(k:lK c P r N x Q lS H1 ds):lK c P r N x Q ρ H ds:=λρr w iX S hM=>k ρr w iX (h c ρr w S) hM
def ah4(lS:Env)(H1:ax)(h:Cut K0 ρ H lS H1)(k:Zn c P r N all Q l lS H1 ds):Zn c P r N all Q l ρ H ds:=λρr w iX S hM=>k ρr w iX (h c ρr w S) hM
def I1{G:Type}(K0:List Nat)(ds:List cg)(env:G->Env)(hp:G->ax)(Inv:G->Prop)(pI:G->Nat)(g:G)(Q:xH):xH
 |.normal,ρ',H',lX=>lX=ds/\∃g',Inv g'/\pI g'<pI g/\Cut K0 ρ' H' (env g') (hp g')
 |e,ρ',H',lX=>Q e ρ' H' lX
def zHp{G:Type}(env:G->Env)(hp:G->ax)(Inv:G->Prop)(pI:G->Nat)(g0:G)(hi:Inv g0)(h0:Cut K0 ρ H (env g0) (hp g0))
  (MK:∀g,Inv g->lK c P r N x (I1 K0 ds env hp Inv pI g Q) (env g) (hp g) ds):lK c P r N (.loop x) Q ρ H ds:=by
 refine adF _ _ h0 ?_
 refine zT5 env hp Inv pI g0 hi λg hg=>?_
 intro ρr w iX SA hM
 refine LU (MK g hg ρr w iX SA hM) λe y2 lX w' ⟨ρ',H',S',lT,hQ⟩=>?_
 cases e with
 |normal =>
  obtain⟨_,g',RY,fZ,hc⟩:=hQ;exact⟨_,_,hc c _ _ S',lT,rfl,g',rfl,rfl,RY,fZ⟩
 |exit id=>exact⟨ρ',H',S',lT,hQ⟩
 |goto l=>exact⟨ρ',H',S',lT,hQ⟩
 |ret=>exact⟨ρ',H',S',lT,hQ⟩
 |panic ch=>exact⟨ρ',H',S',lT,hQ⟩
 |outgrown=>exact⟨ρ',H',S',lT,hQ⟩
def zHq{G:Type}{env:G->Env}{hp:G->ax}{Inv:G->Prop}{pI:G->Nat}{g:G}(g':G)(hi:Inv g')(afz:pI g'<pI g)(h:Cut K0 ρ H (env g') (hp g')):I1 K0 ds env hp Inv pI g Q .normal ρ H ds:=⟨rfl,g',hi,afz,h⟩
def zHr{G:Type}{env:G->Env}{hp:G->ax}{Inv:G->Prop}{pI:G->Nat}{g:G}(h:Q .ret ρ H ds):I1 K0 ds env hp Inv pI g Q .ret ρ H ds:=h
def zAq{G:Type}{env:G->Env}{hp:G->ax}{Inv:G->Prop}{pI:G->Nat}{g:G}{id:Nat}(h:Q (.exit id) ρ H ds):I1 K0 ds env hp Inv pI g Q (.exit id) ρ H ds:=h
def NR{S Z:Type}(K0:List Nat)(ds:List cg)(env:S->Env)(hp:S->ax)(L:Nat->S->Option Z)(z:Z)(n:Nat)(q:S)(Q:xH):xH:=I1 K0 ds (λg:Nat×S=>env g.2) (λg=>hp g.2) (λg=>L g.1 g.2=bc z) (λg=>g.1) (n+1,q) Q
def S_{S Z:Type}(env:S->Env)(hp:S->ax)(L:Nat->S->Option Z){z:Z}(Rm:∀q,L 0 q=bh)(n:Nat)(s0:S)(hs:L n s0=bc z)(h0:Cut K0 ρ H (env s0) (hp s0))
  (MK:∀K q,L (K+1) q=bc z->lK c P r N x (NR K0 ds env hp L z K q Q) (env q) (hp q) ds):lK c P r N (.loop x) Q ρ H ds:=
 zHp (λg:Nat×S=>env g.2) (λg=>hp g.2) (λg=>L g.1 g.2=bc z) (λg=>g.1) (n,s0) hs h0 λg hg=>by
  obtain⟨K,q⟩:=g
  cases K with
  |zero=>rw[Rm]at hg;cases hg
  |succ K=>exact MK K q hg
def ZQ{S Z:Type}{env:S->Env}{hp:S->ax}{L:Nat->S->Option Z}{z:Z}{Kn:Nat}{q:S}(q':S)(hs:L Kn q'=bc z)(h:Cut K0 ρ H (env q') (hp q')):
  NR K0 ds env hp L z Kn q Q .normal ρ H ds:=zHq (Kn,q') hs (Nat.lt_succ_self _) h
def V6{S Z:Type}{env:S->Env}{hp:S->ax}{L:Nat->S->Option Z}{z:Z}{Kn:Nat}{q:S}(h:Q .ret ρ H ds):NR K0 ds env hp L z Kn q Q .ret ρ H ds:=zHr h
def Vx{S Z:Type}{env:S->Env}{hp:S->ax}{L:Nat->S->Option Z}{z:Z}{Kn:Nat}{q:S}{id:Nat}(h:Q (.exit id) ρ H ds):NR K0 ds env hp L z Kn q Q (.exit id) ρ H ds:=zAq h
end
section
variable{P:bm}{ρ:Env}{dst:Option Tmp}{ty:bA}{pos:String}{aft:Array Edge}{gd:Option (Nat×Bool)}
def zbi{t e sz bytes n:Nat}{x y:bB}{k fz L:Nat}{els ys all:List (List V)}{R:ax}(hT:qy P t=bc (e,sz,bytes))(hx:a_ ρ x=.sl sz k L 0 L)(hL:els.length=L)(hy:Src sz R (a_ ρ y) ys)
  (h1:∀c∈ys,c.all V.one=bg) (nd:∀c∈ys,c.length=sz) (BZ:jW k R=bd) (nX:els++ys=all) (hn:all.length=n) (hlen:n*bytes<=140737488355328) (sC:n<=9223372036854775807):
  Loc P ⟨dst,.call ⟨.builtin .append,#[x,y],#[t,t]⟩,ty,pos,aft,gd⟩ ρ ((k,.row e sz fz els)::R) (.sl sz k n 0 n) ((k,.row e sz fz all)::R):=by subst nX;subst hn;have hl:(els++ys).length=els.length+ys.length:=af;exact zw6 hT hx hL.symm hy h1 (by rw[<- hl];exact hlen) (by rw[<- hl];exact sC) BZ nd
def zid{t e sz kk L n:Nat}{x ix:bB}{k:IntKind}{i:Int}(ht:JB P t=bc (e,sz))(hx:a_ ρ x=.sl sz kk L 0 n)(hi:a_ ρ ix=.int k i)(h0:0<=i)(h1:i<n):
  Loc P ⟨dst,.indexAddr t x ix,ty,pos,aft,gd⟩ ρ [] (.ptr kk L (i.toNat*sz+0)) []:=by
 have:=zlo (P:=P) (ρ:=ρ) (dst:=dst) (ty:=ty) (pos:=pos) (aft:=aft) (gd:=gd) ht hx hi h0 h1
 rwa [Nat.zero_mul,cA]at this
def zlw{t e sz:Nat}{x:bB}{lo hi:Option bB}{l h:Int}{els all:List (List V)}(ht:JB P t=bc (e,sz))(hx:a_ ρ x=.vs sz els)(hl:sO ρ lo 0 l)(hh:sO ρ hi els.length h)(h0:0<=l)(h1:l<=h)(h2:h<=els.length)(nX:(els.take h.toNat).drop l.toNat=all):
  Loc P ⟨dst,.slice t x lo hi bh,ty,pos,aft,gd⟩ ρ [] (.vs sz all) []:=by subst nX;exact zqp ht hx hl hh h0 h1 h2
def zOv{α:Type}[Inhabited α](enc:α->List V){l:List α}{i:Nat}(h:i<l.length):(l.map enc)[i]?=bc (enc (l.getD i default)):=by rw[cC,bF h,bY,bF h];rfl
def ztl{α:Type}(enc:α->List V)(h:∀a,(enc a).all V.one=bg)(l:List α):∀c∈l.map enc,c.all V.one=bg:=λc hc=>by obtain⟨a,_,rfl⟩:=bz.1 hc;exact h a
def ztm{α:Type}(enc:α->List V){k:Nat}(h:∀a,(enc a).length=k)(l:List α):∀c∈l.map enc,c.length=k:=λc hc=>by obtain⟨a,_,rfl⟩:=bz.1 hc;exact h a
end
section
variable{P:bm}{ρ:Env}{dst:Option Tmp}{ty:bA}{pos:String}{aft:Array Edge}{gd:Option (Nat×Bool)}{f:FuncId}{l:List bB}{ts:Array bA}{args vs:List V}{F F' R:ax}{r:V}
end
def idx{α:Type}[Inhabited α](l:List α)(i:Int):Option α:=if 0<=i/\i<l.length then bc (l.getD i.toNat default)else bh
def cut{α:Type}(l:List α)(lo hi:Int):Option (List α):=if 0<=lo/\lo<=hi/\hi<=l.length then bc ((l.take hi.toNat).drop lo.toNat)else bh
def ea(p:Prop)[Decidable p]:Option Unit:=if p then bc ()else bh
def V7{α:Type}[Inhabited α]{l:List α}{i:Int}{x:α}(h:idx l i=bc x):0<=i/\i<l.length/\x=l.getD i.toNat default:=by
 unfold idx at h;split at h
 .rename_i hc;cases h;exact⟨hc.1,hc.2,rfl⟩
 .cases h
def ztn{α:Type}{l:List α}{lo hi:Int}{x:List α}(h:cut l lo hi=bc x):0<=lo/\lo<=hi/\hi<=l.length/\x=(l.take hi.toNat).drop lo.toNat:=by
 unfold cut at h;split at h
 .rename_i hc;cases h;exact⟨hc.1,hc.2.1,hc.2.2,rfl⟩
 .cases h
def yD{p:Prop}[Decidable p]{u:Unit}(h:ea p=bc u):p:=by
 unfold ea at h;split at h
 .assumption
 .cases h
abbrev aS(n:Int):Int:=IntKind.i64.wrap n
def tF(k:IntKind)(n:Int):List V:=[.int k n]
def ahE(n:Int):List V:=[.int .i64 n]
def Cf(s:ak):List V:=[.str s]
def GC(P:bm)(o:Oper)(ρ:Env)(f:FuncId)(vs:List V):Prop:=
 ∀ρr m Z w,(∀x∈o.op.operands,aV (bc m) Z (a_ ρ x) (ev ρr x))->∃vals:List bu,zG (bc m) Z vs vals/\∀Rr:bu->bE->Prop,(Calls P f vals.toArray w λen w'=>∃x,en=.returned x/\Rr x w')->Ep P o ρr w Rr
section
variable{P:bm}{ρ:Env}{dst:Option Tmp}{ty:bA}{pos:String}{aft:Array Edge}{gd:Option (Nat×Bool)}{f:FuncId}{l:List bB}{ts:Array bA}{args:List V}{F F' R:ax}{r:V}
def zxb{vs:List V}(hf:ze P f)(he:l.map (a_ ρ)=vs):GC P ⟨dst,.call ⟨.value (.func f),l.toArray,ts⟩,ty,pos,aft,gd⟩ ρ f vs:=λρr m Z w bT=>by subst he;exact⟨_,zG.tmps (ρ:=ρ) l λx hx=>bT x (by simp[Op.operands,Call.operands,hx]),λRr h=>zAi hf h⟩
def zlx{ρr:yC}{w:bE}{x:bB}{l1 l2:List bu}(hx:ev ρr x=.func (.func f) l1.toArray l2.toArray)(hf:ze P f):
  (ca (ev ρr) ⟨dst,.call ⟨.value x,l.toArray,ts⟩,ty,pos,aft,gd⟩).run P w=.ok (.enter f (l1++l.map (ev ρr)++l2).toArray) w:=by
 obtain⟨fn,h1,h2,h3⟩:=hf
 have sA : ¬ fn.name = "runtime.NumGoroutine" := by simpa using h2
 have BP:¬fn.body=bh:=by intro e;rw[e]at h3;cases h3
 simp[ca,resolve,hx,Deferred.ofValue,invoke,callFunc,program,Sem.run,h1,sA,BP]
def zAs{vs first caps:List V}{x:bB}(hf:ze P f)(hx:a_ ρ x=.fn f first caps)(he:first++l.map (a_ ρ)++caps=vs):GC P ⟨dst,.call ⟨.value x,l.toArray,ts⟩,ty,pos,aft,gd⟩ ρ f vs:=λρr m Z w bT=>by subst he;have h:=bT x (by simp[Op.operands,Call.operands]);rw[hx]at h;obtain⟨l1,l2,e,h1,h2⟩:=h;exact⟨l1++l.map (ev ρr)++l2,(h1.append (zG.tmps (ρ:=ρ) l λx hx=>bT x (by simp[Op.operands,Call.operands,hx]))).append h2,λRr h=>⟨rfl,.inr (.inr ⟨f,_,w,zlx e hf,h⟩)⟩⟩
def zAt{o:Oper}{vs:List V}(σ:List (Nat×Nat))(hc:GC P o ρ f vs)(h:mx P f args F r F')(hv:jT R vs (nS (iy σ) args))(hR:gD R=R)(sw:nodupB ((keys F').map (iy σ))=bg)(lk:AA args F=bg)(nZ:((keys F).all (keys F').contains)=bg)
  (CI:((keys (JF (iy σ) F')).all λk=>!(jW k R))=bg):
  Loc P o ρ (JF (iy σ) F++R) (r.dW (iy σ)) (JF (iy σ) F'++R):=by
 intro ρr m Z w bT hs lh;obtain⟨vals,MH,hex⟩:=hc ρr m Z w bT
 have D4:∀k t sz fz els,R.get k=bc (.row t sz fz els)->Holds m Z w k (.row t sz els.length els):=λk t sz fz els hg=>by
  have gV:=ax.get_mem hg;have h1:=hs.holds _ (bK _ gV)
  have:fz=els.length:=by
   rw[<- hR]at gV
   rcases kI gV with⟨k',t',iF,pq,BJ,h2,h3⟩|⟨h2,h3⟩
   .simp only[Prod.mk.injEq,Obj.row.injEq]at h3;obtain⟨_,_,_,e1,e2⟩:=h3;rw[e1,e2]
   .exact aU rfl (h3 t sz fz els)
  subst this;exact h1
 have ML:=jT.rep D4 hv MH
 have adi:∀p∈JF (iy σ) F',∀q∈R,p.1≠q.1:=λp hp q hq e=>by have:=(bj.1 CI) p.1 (ay hp);simp only[bW]at this;rw[e,yK.2 (ay hq)]at this;cases this
 refine hex _ (Calls.mono (h.at sw lk nZ w m Z _ hs.left ML λk hk nO L=>lh k (by rw[zC];exact bI _ hk) (λh'=>?_) L) ?_)
 .rw[zC,bw]at h'
  rcases h' with h'|h'
  .exact nO h'
  .obtain⟨p,hp,e1⟩:=bz.1 hk;obtain⟨q,hq,e2⟩:=bz.1 h';exact adi p hp q hq (e1.trans e2.symm)
 .rintro en w' ⟨x,m',Z',he,fS,hr⟩;exact⟨x,he,m',Z',Step.sv hs fS adi,hr⟩
def zxc{o:Oper}{vs:List V}(hc:GC P o ρ f vs)(h:mx P f args [] r [])(hv:jT R vs args)(hb:r.bare=bg)(CR:r.refs=[])(IA:wi args=[]):
  Loc P o ρ R r R:=by
 intro ρr m Z w bT hs lh;obtain⟨vals,MH,hex⟩:=hc ρr m Z w bT;have fS:=Step.freeze hs;have akD:zG (bc m) (rb m Z R w) vs vals:=MH.up fS.lR (λg e=>by cases e;exact⟨m,rfl,λ_ _ _ e=>e⟩)
 have D4:∀k t sz fz els,R.get k=bc (.row t sz fz els)->Holds m (rb m Z R w) w k (.row t sz els.length els):=λk t sz fz els hg=>by
  refine fS.gy.holds (k,.row t sz els.length els) ?_
  have:∀(F:ax),(k,Obj.row t sz fz els)∈F->(k,Obj.row t sz els.length els)∈gD F:=λF=>by
   induction F with
   |nil=>intro h;cases h
   |cons p F ih =>
    intro h;obtain⟨k',o'⟩:=p
    rcases bq.1 h with h1|h1
    .cases h1;exact al
    .cases o'<;>exact gq _ (ih h1)
  exact this R (ax.get_mem hg)
 have ML:=jT.rep D4 hv akD
 let m0:M:=λ_ _=>bh
 have akC:zG (bc m0) (rb m Z R w) args vals:=ML.swap λk hk=>by rw[IA]at hk;cases hk
 refine hex _ (Calls.mono (h w m0 (rb m Z R w) _ ⟨fS.gy.frozen,λp hp=>(by cases hp),dG,λp hp=>(by cases hp)⟩ akC λ_ _ _=>rfl) ?_);rintro en w' ⟨x,m',Z',he,Mz,hr⟩
 have κ:∀b,b<w.heap.size->w'.heap[b]?=w.heap[b]?:=λb hb=>Mz.frame b hb λp hp=>by cases hp
 refine⟨x,he,m,Z,⟨⟨λa y ha=>?_,λp hp=>?_,hs.nodup,hs.nW⟩,λ_ _ _ e=>e,λ_ _ e=>e,Mz.os,Mz.tape,Mz.output,Mz.size,λb hb _=>κ b hb,λ_ h=>h,λ_ _=>rfl,λp hp b hb=>.inr ⟨p,hp,hb⟩,λ_ _ h=>.inl h⟩,?_⟩
 .rw[AU (κ _ (vq hs.frozen ha))];exact hs.frozen a y ha
 .exact(hs.holds p hp).keep (λ_ _ _ e=>e) rfl (λ_ _ e=>e) λb hb=>⟨κ b ((hs.holds p hp).fD b hb),λ_ _ e _=>e⟩
 .have h1:aV bh Z' r x:=aV.flat r x CR hr;exact aV.DI (aV.bare r x hb h1)
end
def UC{α:Type}(f:α->V):∀l:List α,(l.map λa=>[f a]).flatten=l.map f
 |[]=>rfl
 |a::l=>by simp[UC f l]
def Kw{α:Type}{enc:α->V}{f:α->bu}{m:Option M}{Z:ZM}(h:∀a x,aV m Z (enc a) x->x=f a):∀{l:List α}{xs:List bu},zG m Z (l.map enc) xs->xs=l.map f
 |[],xs,hx=>hx
 |a::l,xs,hx=>by obtain⟨x,xs,rfl,h1,h2⟩:=hx;rw[h a x h1,Kw h h2];rfl
def Hq{α:Type}{enc:α->V}{f:α->bu}{m:Option M}{Z:ZM}(h:∀a,aV m Z (enc a) (f a)):∀l:List α,zG m Z (l.map enc) (l.map f)
 |[]=>rfl
 |a::l=>⟨_,_,rfl,h a,Hq h l⟩
section
variable{α:Type}[Inhabited α]{enc:α->V}{f:α->bu}{m:M}{Z:ZM}{w:bE}{k e:Nat}{l l':List α}
variable{P:bm}{F:FuncId}
end
section
variable{K0:List Nat}{c:Ctx K0}{P:bm}{r:Option Nat}{N:Nat}{Q:xH}{ρ:Env}{H:ax}{ds:List cg}{all rest:List Oper}{ty:bA}{pos:String}{aft:Array Edge}{gd:Option (Nat×Bool)}{t t':bA}{x y:bB}
end
def xh{α β:Type}[DecidableEq α](a:α):List (α×β)->Option β
 |[]=>bh
 |(k,b)::r=>if a=k then bc b else xh a r
def oV{α β:Type}[DecidableEq α](a:α)(b:β):List (α×β)->List (α×β)
 |[]=>[(a,b)]
 |(k,c)::r=>if a=k then(a,b)::r else(k,c)::oV a b r
def nI{α β:Type}(f:α->V)(g:β->V)(l:List (α×β)):List (V×V):=l.map λp=>(f p.1,g p.2)
def Qj{α:Type}[DecidableEq α](a:α):List α->List MapEntry->Nat->Option (Nat×bu)
 |k::ks,e::es,i=>if a=k then bc (i,e.val)else Qj a ks es (i+1)
 |_,_,_=>bh
structure ER(P:bm)(kt:bA){α:Type}[DecidableEq α](f:α->V)(val:α->bu):Prop where
 MW:∀m Z a x,aV m Z (f a) x->x=val a
 rep:∀m Z a,aV m Z (f a) (val a)
 check:∀e a w,(Instr.checkKey e 10000 kt (val a)).run P w=.ok () w
 find:∀(a:α)(es:List MapEntry)(ks:List α) w,es.map (·.key)=ks.map val->(Instr.findKey kt (val a) es).run P w=.ok (Qj a ks es 0) w
 bits:∀a,Instr.sameBits 10000 (val a) (val a)=bg
def zft{α:Type}[DecidableEq α]{d:TypeDesc}{val:α->bu}(h:∀a b,Instr.sameNow d (val a) (val b)=bc (decide (a=b)))(a:α):∀(es:List MapEntry)(ks:List α)(i:Nat),es.map (·.key)=ks.map val->Instr.findNow d (val a) es i=bc (Qj a ks es i)
 |[],ks,i,he=>by
  cases ks with
  |nil=>rfl
  |cons=>simp at he
 |e::es,[],i,he=>by simp at he
 |e::es,k::ks,i,he=>by
  simp only[gf,List.cons.injEq]at he;have ih:=zft h a es ks (i+1) he.2;simp only[Instr.findNow,he.1,h,Qj];by_cases e1:a=k
  .simp[e1]
  .simp[e1,ih]
section
variable{P:bm}
def zto{α:Type}[DecidableEq α]{kt:bA}{d:TypeDesc}{f:α->V}{val:α->bu}(hk:P.underlying kt=bc d)(hd:∀m Z a x,aV m Z (f a) x->x=val a)(hr:∀m Z a,aV m Z (f a) (val a))
  (hc:∀e a w,(Instr.checkKey e 10000 kt (val a)).run P w=.ok () w) (h:∀a b,Instr.sameNow d (val a) (val b)=bc (decide (a=b))) (hb:∀a,Instr.sameBits 10000 (val a) (val a)=bg):ER P kt f val:=⟨hd,hr,hc,λa es ks w he=>by simp[Instr.findKey,run_underlying hk,zft h a es ks 0 he],hb⟩
def bytes_beq(a b:ak):((⟨a.toArray⟩:ByteArray)==⟨b.toArray⟩)=decide (a=b):=by rw[show((⟨a.toArray⟩:ByteArray)==⟨b.toArray⟩)=(a.toArray==b.toArray) from rfl,eN];simp
def Vy{kt:bA}(hk:P.underlying kt=bc .string):ER P kt V.str (λs=>.string ⟨s.toArray⟩):=
 zto hk (λ_ _ _ _ h=>h) (λ_ _ _=>rfl) (λe a w=>by
  unfold Instr.checkKey
  simp[run_underlying hk]) (λa b=>by simp only[Instr.sameNow,bytes_beq]) λa=>by simp only[Instr.sameBits,bytes_beq];simp
def zly{kt:bA}{q:IntKind}(hk:P.underlying kt=bc (.int q)):ER P kt (V.int q) (λn=>.int q n):=
 zto hk (λ_ _ _ _ h=>h) (λ_ _ _=>rfl) (λe a w=>by
  unfold Instr.checkKey
  simp[run_underlying hk]) (λa b=>by simp[Instr.sameNow];rfl) λa=>by simp[Instr.sameBits]
def tG(P:bm)(t:Nat):Option (Nat×Nat):=match P.underlying t with|some (.map k e)=>bc (k,e)|_=>bh
def zAu{t k e:Nat}(h:tG P t=bc (k,e)):P.underlying t=bc (.map k e):=by
 unfold tG at h;split at h
 .cases h;assumption
 .cases h
def GF(P:bm)(t:Nat):Option V:=match P.info? t with|some i=>i.zero.map Eh|none=>bh
def zHu{t:Nat}{v:V}{m:Option M}{Z:ZM}{w:bE}(h:GF P t=bc v):∃z,(zeroValue t).run P w=.ok z w/\aV m Z v z:=by
 unfold GF at h;split at h
 .rename_i i hi;obtain⟨z,hz,rfl⟩:=Option.map_eq_some_iff.1 h;exact⟨z,by simp[zeroValue,typeInfo,hi,hz,Sem.run],zz5 z⟩
 .cases h
def akg(c:Bool)(v:V)(b:Bool):V:=match c with|true=>.gu [v,.bool b]|false=>v
def ta.find{α β:Type}[DecidableEq α]{Z:ZM}{f:α->V}{g:β->V}{val:α->bu}(hd:∀m Z a x,aV m Z (f a) x->x=val a)(a:α):∀{l:List (α×β)}{es:List MapEntry}(i:Nat),ta Z (nI f g l) es ->
  es.map (·.key)=(l.map (·.1)).map val/\match xh a l with
   |some b=>∃j e,Qj a (l.map (·.1)) es i=bc (i+j,e.val)/\es[j]?=bc e/\e.key=val a/\aV bh Z (g b) e.val/\∀(c:β)(y:bu),aV bh Z (g c) y->ta Z (nI f g (oV a c l)) (es.modify j λe=>{ e with key:=val a,val:=y })
   |none=>Qj a (l.map (·.1)) es i=bh/\∀(c:β)(y:bu)(n:Nat),aV bh Z (f a) (val a)->aV bh Z (g c) y->ta Z (nI f g (oV a c l)) (es++[{ key:=val a,val:=y,born:=n }])
 |[],es,i,h=>by
  cases h;exact⟨rfl,rfl,λc y n h1 h2=>⟨_,[],rfl,h1,h2,rfl⟩⟩
 |(k,b)::l,es,i,h=>by
  obtain⟨e,es,rfl,h1,h2,h3⟩:=h;have hk:=hd _ _ _ _ h1;obtain⟨h4,h5⟩:=ta.find hd a (i+1) h3;refine⟨by simp[hk,h4],?_⟩;simp only[xh];by_cases e1:a=k
  .subst e1;simp only[aP];refine⟨0,e,by simp[Qj],rfl,hk,h2,λc y hy=>?_⟩;simp only[oV,aP];exact⟨_,es,rfl,by rw[<- hk];exact h1,hy,h3⟩
  .rw[aO e1]
   cases hm:xh a l with
   |some b' =>
    rw[hm]at h5;obtain⟨j,e',g1,g2,g3,g4,g5⟩:=h5;refine⟨j+1,e',by simp only[gf,Qj,aO e1,g1];congr 2;omega,by simpa using g2,g3,g4,λc y hy=>?_⟩;simp only[oV,aO e1];exact⟨e,_,af,h1,h2,g5 c y hy⟩
   |none =>rw[hm]at h5;obtain⟨g1,g2⟩:=h5;refine⟨by simp only[gf,Qj,aO e1,g1],λc y n q1 q2=>?_⟩;simp only[oV,aO e1];exact⟨e,_,rfl,h1,h2,g2 c y n q1 q2⟩
variable{ρ:Env}{dst:Option Tmp}{ty:bA}{pos:String}{aft:Array Edge}{gd:Option (Nat×Bool)}
def zfu{α β:Type}[DecidableEq α]{f:α->V}{val:α->bu}{g:β->V}{t kt et k:Nat}{x ix:bB}{l:List (α×β)}(c:Bool){a:α}{z:β}{zv:V}(hT:tG P t=bc (kt,et))(K:ER P kt f val)(hz:GF P et=bc zv)
  (Ss:∀(m:Option M)(Z:ZM)(y:bu),aV m Z zv y->aV m Z (g z) y) (hx:a_ ρ x=.mp k) (hi:a_ ρ ix=f a):
  Loc P ⟨dst,.lookup t x ix c,ty,pos,aft,gd⟩ ρ [(k,.map (nI f g l))] (akg c (g ((xh a l).getD z)) (xh a l).isSome) [(k,.map (nI f g l))]:=by
 intro ρr m Z w bT hs _;have hX:=bT x (by simp[Op.operands]);have hI:=K.MW _ _ _ _ (hi▸bT ix (by simp[Op.operands]));rw[hx]at hX;obtain⟨m1,loc,e1,e2,hX⟩:=hX;cases e1;obtain⟨b,es,clock,g1,g2,g3,g4,g5,g6,g7⟩:=hs.holds _ (bS.2 rfl);rw[g1]at e2;cases e2;obtain⟨h1,h2⟩:=g3.find K.MW a 0;obtain⟨afR,Sq,hz2⟩:=zHu (m:=bc m) (Z:=Z) (w:=w) hz;have Cz:=K.find a es.toList _ w h1;have hc:=K.check es.isEmpty a w;have hu:=zAu hT
 have key:∃v b',(Instr.lookup t (.map (bc b)) (val a) c).run P w=.ok (if c then .tuple #[v,.bool b']else v) w/\aV (bc m) Z (g ((xh a l).getD z)) v/\b'=(xh a l).isSome:=by
  cases hm:xh a l with
  |some b' =>
   rw[hm]at h2;obtain⟨j,e',q1,q2,q3,q4,q5⟩:=h2;rw[q1]at Cz;exact⟨e'.val,bg,by simp[Instr.lookup,run_underlying hu,MapKept.run_getObj_map g2,hc,Cz],aV.up (λ_ _ e=>e) (λf e=>by cases e) q4,rfl⟩
  |none =>rw[hm]at h2;rw[h2.1]at Cz;exact⟨afR,bd,by simp[Instr.lookup,run_underlying hu,MapKept.run_getObj_map g2,hc,Cz,Sq],Ss _ _ _ hz2,rfl⟩
 obtain⟨v,b',iV,hv,hb⟩:=key;refine⟨rfl,.inl ⟨_,w,by simp only[ca,hX,hI,Sem.run_bind,iV,Result.andThen_ok,Sem.run_pure];rfl,m,Z,Step.refl hs,?_⟩⟩
 cases c with
 |true=>exact⟨[v,.bool b'],rfl,v,_,rfl,hv,_,_,rfl,by rw[hb];rfl,rfl⟩
 |false=>exact hv
def aau{α β:Type}[DecidableEq α]{f:α->V}{val:α->bu}{g:β->V}{t kt et k:Nat}{x ix y:bB}{l:List (α×β)}{a:α}{c:β}(hT:tG P t=bc (kt,et))(K:ER P kt f val)
  (hx:a_ ρ x=.mp k) (hi:a_ ρ ix=f a) (hy:a_ ρ y=g c) (hr:(g c).refs=[]) (hra:(f a).refs=[]):
  Loc P ⟨dst,.mapUpdate t x ix y,ty,pos,aft,gd⟩ ρ [(k,.map (nI f g l))] .no [(k,.map (nI f g (oV a c l)))]:=by
 intro ρr m Z w bT hs _;have hX:=bT x (by simp[Op.operands]);have hI0:=bT ix (by simp[Op.operands]);have hY:=bT y (by simp[Op.operands]);have hI:=K.MW _ _ _ _ (hi▸hI0);rw[hx]at hX;rw[hy]at hY;have hY:aV bh Z (g c) (ev ρr y):=aV.flat _ _ hr hY;obtain⟨m1,loc,e1,e2,hX⟩:=hX;cases e1;obtain⟨b,es,clock,g1,g2,g3,g4,g5,g6,g7⟩:=hs.holds _ (bS.2 rfl);rw[g1]at e2;cases e2;obtain⟨h1,h2⟩:=g3.find K.MW a 0;have Cz:=K.find a es.toList _ w h1;have hc:=K.check bd a w;have hu:=zAu hT;have RI:b<w.heap.size:=(ck.1 g2).1
 have key:∃Fs P8,(Instr.mapUpdate t (.map (bc b)) (val a) (ev ρr y)).run P w=.ok () { w with heap:=w.heap.setIfInBounds b (.map Fs P8) }/\ta Z (nI f g (oV a c l)) Fs.toList/\(Fs.toList.Pairwise λx y=>x.born<y.born)/\(∀e∈Fs.toList,e.born<P8):=by
  cases hm:xh a l with
  |some b' =>
   rw[hm]at h2;obtain⟨j,e',q1,q2,q3,q4,q5⟩:=h2;rw[q1]at Cz
   have Ei:es[0+j]?=bc e':=by simpa using q2
   have gV:∀e∈(es.toList.modify (0+j) λe=>{ e with key:=val a,val:=ev ρr y }),∃e0∈es.toList,e.born=e0.born:=λe he=>by obtain⟨i,hi,rfl⟩:=dS he;rw[fY];simp only[abq]at hi;refine⟨es.toList[i],dX _,?_⟩;split<;>rfl
   refine⟨es.modify (0+j) λe=>{ e with key:=val a,val:=ev ρr y },clock,?_,?_,?_,?_⟩
   .have aix:es[j]?=bc e':=by simpa using Ei
    simp[Instr.mapUpdate,run_underlying hu,MapKept.run_getObj_map g2,hc,Cz,Instr.keyThatStays,aix,q3,K.bits,MapKept.run_setObj_map _ g2]
   .rw[fV];simpa using q5 c _ hY
   .rw[fV,aa6];intro i j' hi hj z_;rw[fY,fY];simp only[abq]at hi hj;have:=aa6.1 g4 i j' hi hj z_;split<;>split<;>exact this
   .rw[fV];intro e he;obtain⟨e0,h3,h4⟩:=gV e he;rw[h4];exact g5 e0 h3
  |none =>
   rw[hm]at h2;rw[h2.1]at Cz;refine⟨es.push { key:=val a,val:=ev ρr y,born:=clock },clock+1,by simp[Instr.mapUpdate,run_underlying hu,MapKept.run_getObj_map g2,hc,Cz,MapKept.run_setObj_map _ g2],?_,?_,?_⟩
   .rw[gF];exact h2.2 c _ _ (K.rep _ _ _) hY
   .rw[gF,eB];exact⟨g4,af,λp hp q hq=>by simp at hq;subst hq;exact g5 p hp⟩
   .rw[gF];intro e he
    rcases bw.1 he with he|he
    .have:=g5 e he;omega
    .simp at he;subst he;simp
 obtain⟨Fs,P8,iV,k1,k2,k3⟩:=key;refine⟨rfl,.inr (.inl ⟨_,by simp only[ca,hX,hI,Sem.run_bind,iV,Result.andThen_ok,Sem.run_pure];rfl,m,Z,?_,rfl⟩)⟩;refine Step.write (b:=b) hs (by simp[fD,qZ,Obj.hO,g1]) (QJ rfl rfl rfl) rfl rfl rfl af (λj hj=>by simp[Array.getElem?_setIfInBounds_ne (Ne.symm hj)]) (λa x ha e=>aU e (g6 a x ha)) ?_;exact⟨b,Fs,P8,g1,by simp[RI],k1,k2,k3,g6,g7⟩
end
section
variable{P:bm}{N:Nat}{Q:ZN}{ρ:yC}{ds:List cg}{w:bE}
end
section
variable{K0:List Nat}{c:Ctx K0}{P:bm}{N:Nat}{Q:xH}{ds:List cg}{ty:bA}{pos:String}{aft:Array Edge}
end
def zlz{α:Type}(f:Nat->α)(sz:Nat):∀n,(cQ (n*sz)).map (λj=>f (j % sz))=(cS n ((cQ sz).map f)).flatten
 |0=>af
 |n+1=>by
  rw[Nat.succ_mul,List.range_add,cG,zlz f sz n,List.replicate_succ',da,cW]
  congr 1
  simp only[cK,List.flatten_nil,bM]
  refine fc λj hj=>?_
  have hj:=abe.1 hj;simp only[Function.comp];rw[eW,Nat.add_mul_mod_self_right,Nat.mod_eq_of_lt hj]
def ztp{m:Option M}{Z:ZM}{zc:Array bu}{n:Nat}(h0:0<zc.size):zG m Z (cS n (zc.toList.map sd)).flatten (madeCells zc (n*zc.size)).toList:=by
 have e:(madeCells zc (n*zc.size)).toList=(cS n zc.toList).flatten:=by
  have h1:(cQ zc.size).map (λj=>zc[j]!)=zc.toList:=by
   apply List.ext_getElem
   .simp
   .intro i h1 h2;simp at h1;simp[h1]
  rw[<- h1,<- zlz];simp[madeCells]
 rw[e,<- abv,<- List.map_flatten];exact AS _
def zG.π{Z:ZM}{cs cs2:List V}(hw:∀(Z:ZM)(l:List bu),zG bh Z cs l->zG bh Z cs2 l):∀(n:Nat)(l:List bu),zG bh Z (cS n cs).flatten l->zG bh Z (cS n cs2).flatten l
 |0,l,h=>h
 |n+1,l,h=>by rw[List.replicate_succ,cK]at h ⊢;have h1:=h.take cs.length;have h2:=h.drop cs.length;rw[dO]at h1;rw[abh]at h2;rw[<- abc cs.length l];exact zG.append (hw _ _ h1) (zG.π hw n _ h2)
section
variable{P:bm}{ρ:Env}{dst:Option Tmp}{ty:bA}{pos:String}{aft:Array Edge}{gd:Option (Nat×Bool)}
def zif{t d e sz bytes n:Nat}{x y:bB}{k k2:IntKind}{cs cs2:List V}(hT:qy P t=bc (e,sz,bytes))(hz:zeroV P e=bc cs)(hx:a_ ρ x=.int k n)(hy:a_ ρ y=.int k2 n)(hlen:n*bytes<=281474976710656)(sC:n<=9223372036854775807)
  (hw:∀(Z:ZM)(l:List bu),zG bh Z cs l->zG bh Z cs2 l) (n9:cs2.length=cs.length):
  Loc P ⟨dst,.makeSlice t x y,ty,pos,aft,gd⟩ ρ [] (.sl sz d n 0 n) [(d,.row e sz 0 (cS n cs2))]:=by
 intro ρr m Z w bT hs iO
 have hX:ev ρr x=.int k n:=by have:=bT x (by simp[Op.operands]);rw[hx]at this;exact this
 have hY:ev ρr y=.int k2 n:=by have:=bT y (by simp[Op.operands]);rw[hy]at this;exact this
 obtain⟨i,z,hu,hi,hiz,gp,hb,h0,Rm⟩:=qz hT
 have l7:cs=z.cells.toList.map sd:=by simp only[zeroV,hi,hiz,Option.some.injEq]at hz;exact hz.symm
 subst l7;have iV:=run_make (P:=P) (w:=w) t e i z hu hi hiz k k2 (n:Int) (n:Int) ab ab (by rw[hb,Int.mul_comm];omega) ab;have e1:((n:Int).toNat)=n:=ab;rw[e1]at iV
 have P0:z.cells.size=i.size:=by rw[h0,gp]
 have lk:cs2.length=i.size:=by rw[n9];simp[P0]
 have nY:(cS n cs2).length=n:=af
 obtain⟨m',h2,h3⟩:=Step.new (m:=m) (Z:=Z) (w:=w) (k:=d) (o:=.row e sz 0 (cS n cs2)) (.cells (madeCells z.cells (n*i.size)) e) n hs.frozen (λL=>iO d (by simp[keys]) (by simp[keys]) L) λm' g1 g2 g3=>by
  by_cases nv:n=0
  .subst nv;have B5:(Obj.row e sz 0 (cS 0 cs2)).hO=0:=rfl;rw[B5]at g1;exact .inl ⟨Rm,rfl,rfl,⟨_,g1⟩,λL l e=>by have:=g2 L l e;rw[B5]at this;omega⟩
  have y4:(Obj.row e sz 0 (cS n cs2)).hO=n:=nY;rw[y4]at g1;have PY:=ztp (m:=bh) (Z:=Z) (zc:=z.cells) (n:=n) ab;rw[P0]at PY;have PY:=zG.π hw n _ PY;refine .inr ⟨w.heap.size,n,madeCells z.cells (n*i.size),(0,0),by rw[nY];exact g1,ab,World.alloc_heap_new w _,by rw[nY];exact du _,by simp only[maxLen];omega,by rw[size_madeCells,gp],ab,?_,?_,af,af,λa x ha e=>by have:=vq hs.frozen ha;omega,λL l e=>by have:=g2 L l e;rw[y4]at this;rw[nY];omega,λoff x ho=>ab⟩
  .rw[nY,<- gp,cI (by simp[size_madeCells])];exact PY
  .intro c hc;rw[ff hc,lk,gp]
 have y4:(Obj.row e sz 0 (cS n cs2)).hO=n:=nY;rw[y4]at h3;refine⟨rfl,.inl ⟨.slice (bc ⟨w.heap.size,0,bh⟩) n n,w.alloc (.cells (madeCells z.cells (n*i.size)) e),?_,m',Z,h2,m',_,rfl,h3,af,by simp only[maxLen];omega,.inl af⟩⟩;simp only[ca,hX,hY,Sem.run_bind,iV,Result.andThen_ok,Sem.run_pure]
def zev{t d e sz bytes L:Nat}{q:Int}{x y:bB}{k k2:IntKind}{cs cs2:List V}{all:List (List V)}(hT:qy P t=bc (e,sz,bytes))(hz:zeroV P e=bc cs)(hx:a_ ρ x=.int k q)(hy:a_ ρ y=.int k2 q)(n9:bk cs2.length cs.length=bg)(h0:0<=q)(hlen:q*bytes<=281474976710656)(sC:q<=9223372036854775807)(nX:cS q.toNat cs2=all)(hL:L=q.toNat)(hw:∀(Z:ZM)(l:List bu),zG bh Z cs l->zG bh Z cs2 l):
  Loc P ⟨dst,.makeSlice t x y,ty,pos,aft,gd⟩ ρ [] (.sl sz d L 0 L) [(d,.row e sz 0 all)]:=by
 subst nX hL;have e1:q=((q.toNat:Nat):Int):=ab
 exact zif hT hz (by rw[<- e1];exact hx) (by rw[<- e1];exact hy) (by
   have:((q.toNat*bytes:Nat):Int)<=281474976710656:=by rw[Int.natCast_mul,<- e1];exact hlen
   omega) ab hw (eb n9)
end
section
variable{m:M}{Z:ZM}{w w':bE}
end
section
variable{P:bm}{ρ:Env}{dst:Option Tmp}{ty:bA}{pos:String}{aft:Array Edge}{gd:Option (Nat×Bool)}
end
section
variable{K0:List Nat}{ρ:Env}{H:ax}
def XA{k t:Nat}{cs iK:List V}(R:ax)(ks:List Nat)(hg:H.get k=bc (.box t cs))(hR:ua ks H=bc R)(nt:gD R=R)(hv:jT R cs iK){H1:ax}(nN:(k,.box t iK)::qw [k] H=H1):Cut K0 ρ H ρ H1:=λc ρr w S=>by
 subst nN;obtain⟨m,Z,S,hr⟩:=S;have hp:=vF (ks:=[k]) (F:=[(k,.box t cs)]) S.step.gy.nodup af (zOo hg);have S1:Step c.m0 c.aaI c.F0 c.W0 m Z ((k,.box t cs)::qw [k] H) w:=S.step.MJ hp
 have θ:∀l,zG (bc m) Z cs l->zG (bc m) Z iK l:=λl hl=>hv.rep (F:=R) (w:=w) (λk t' sz fz els hg=>by
  have gV:=ax.get_mem hg;have h1:=S.step.gy.holds _ ((xd hR).2 _ gV)
  have:fz=els.length:=by
   rw[<- nt]at gV
   rcases kI gV with⟨k',agV,iF,pq,BJ,h2,h3⟩|⟨h2,h3⟩
   .simp only[Prod.mk.injEq,Obj.row.injEq]at h3;obtain⟨_,_,_,e1,e2⟩:=h3;rw[e1,e2]
   .exact aU rfl (h3 t' sz fz els)
  subst this
  exact h1) hl
 have nL:∀p∈((k,.box t iK)::qw [k] H:ax),∃q∈((k,.box t cs)::qw [k] H:ax),q.1=p.1/\fD m q=fD m p:=λp hp=>by
  rcases bq.1 hp with rfl|hp
  .exact⟨(k,.box t cs),al,rfl,rfl⟩
  .exact⟨p,gq _ hp,rfl,rfl⟩
 have hk:keys ((k,.box t iK)::qw [k] H)=keys ((k,.box t cs)::qw [k] H):=rfl;refine⟨m,Z,⟨⟨⟨S1.gy.frozen,λp hp=>?_,by rw[hk];exact S1.gy.nodup,λp hp q hq b h1 h2=>?_⟩,S1.mM,S1.lR,S1.os,S1.tape,S1.output,S1.size,S1.frame,λa ha=>by rw[hk];exact S1.keep a ha,λa ha=>S1.pT a (by rw[<- hk];exact ha),λp hp b hb=>?_,S1.mB⟩,λa ha=>S.rn a λh=>ha ?_⟩,hr⟩
 .rcases bq.1 hp with rfl|hp
  .obtain⟨b,cur,g1,g2,g3,g4,g5⟩:=S1.gy.holds (k,.box t cs) al;exact⟨b,cur,g1,g2,θ _ g3,g4,g5⟩
  .exact S1.gy.holds p (gq _ hp)
 .obtain⟨p',iT,e1,e2⟩:=nL p hp;obtain⟨q',mf,e3,e4⟩:=nL q hq;rw[<- e1,<- e3];exact S1.gy.nW p' iT q' mf b (by rw[e2];exact h1) (by rw[e4];exact h2)
 .obtain⟨p',iT,e1,e2⟩:=nL p hp;exact S1.mn p' iT b (by rw[e2];exact hb)
 .rw[hk];exact(hp.map _).mem_iff.1 h
end
def y8(a b:List V):Prop:=∀(Z:ZM)(l:List bu),zG bh Z a l->zG bh Z b l
def zUl:y8 [] []:=λ_ _ h=>h
def Step.adU{m m':M}{Z Z':ZM}{F:ax}{w w':bE}{d:Nat}{o o':Obj}(h:Step m Z F w m' Z' [(d,o)] w')(hb:fD m' (d,o')=fD m' (d,o))(hh:Holds m' Z' w' d o->Holds m' Z' w' d o'):Step m Z F w m' Z' [(d,o')] w':=by
 refine⟨⟨h.gy.frozen,λp hp=>?_,h.gy.nodup,λp hp q hq _ _ _=>?_⟩,h.mM,h.lR,h.os,h.tape,h.output,h.size,h.frame,h.keep,h.pT,λp hp b kd=>?_,h.mB⟩
 .simp only[bS]at hp;subst hp;exact hh (h.gy.holds _ (bS.2 rfl))
 .simp only[bS]at hp hq;subst hp;subst hq;rfl
 .simp only[bS]at hp;subst hp;exact h.mn (d,o) (bS.2 rfl) b (by rw[<- hb];exact kd)
section
variable{P:bm}{ρ:Env}{dst:Option Tmp}{ty:bA}{pos:String}{aft:Array Edge}{gd:Option (Nat×Bool)}
def zbk{t d e sz n:Nat}{parts:List (Nat×bB)}{els PN all:List (List V)}{fl fl2:List V}(hT:JB P t=bc (e,sz))(gp:cw (n*sz) 16777216=bg)(h:Gv n sz (parts.map λp=>(p.1,a_ ρ p.2))=bc els)
  (h1:els.flatten=fl) (h2:PN.flatten=fl2) (hw:y8 fl fl2) (hl:bk PN.length els.length=bg) (hc:PN.all (λe=>bk e.length sz)=bg) (ha:PN=all):
  Loc P ⟨dst,.buildSlice t n parts.toArray,ty,pos,aft,gd⟩ ρ [] (.sl sz d n 0 n) [(d,.row e sz 0 all)]:=by
 subst ha;have hL:=zet (dst:=dst) (ty:=ty) (pos:=pos) (aft:=aft) (gd:=gd) (d:=d) hT gp h;have hl:=eb hl;intro ρr m Z w bT hs iO
 refine(hL ρr m Z w bT hs (λk hk me L=>iO k (by simpa[keys]using hk) me L)).mono λx w' hx=>?_
 obtain⟨m',Z',st,hr⟩:=hx;refine⟨m',Z',st.adU (by funext b;simp only[fD,qZ,Obj.hO];rw[hl]) λhh=>?_,hr⟩
 rcases hh with⟨g1,g2,g3,g4,g5⟩|⟨b,cap,cur,fr,g1,g2,g3,g4,g5,g6,g7,g8,g9,g10,g11,g12,g13,g14⟩
 .exact .inl ⟨g1,by rw[g2]at hl;exact List.eq_nil_of_length_eq_zero hl,g3,g4,g5⟩
 .refine .inr ⟨b,cap,cur,fr,by rw[hl];exact g1,g2,g3,by rw[hl];exact g4,g5,g6,g7,?_,λe he=>eb ((bj.1 hc) e he),g10,by rw[hl];exact g11,g12,by rw[hl];exact g13,g14⟩;rw[hl,h2];rw[h1]at g8;exact hw _ _ g8
end
section
variable{m:M}{Z:ZM}{w:bE}
end
section
variable{K0:List Nat}{ρ:Env}{H:ax}
end
section
variable{P:bm}{ρ:Env}{dst:Option Tmp}{ty:bA}{pos:String}{aft:Array Edge}{gd:Option (Nat×Bool)}{α:Type}
end
section
variable{m:M}{Z:ZM}{w w':bE}
end
section
variable{K0:List Nat}{ρ:Env}{H:ax}
end
section
variable{P:bm}{ρ:Env}{dst:Option Tmp}{ty:bA}{pos:String}{aft:Array Edge}{gd:Option (Nat×Bool)}
end
section
variable{P:bm}
end
section
variable{P:bm}{ρ:Env}{dst:Option Tmp}{ty:bA}{pos:String}{aft:Array Edge}{gd:Option (Nat×Bool)}
end
def mr{α:Type}(l:List α)(o:Nat)(ys:List α):List α:=l.take o++ys++l.drop (o+ys.length)
def Kx{α:Type}{l ys:List α}{o:Nat}(h:o+ys.length<=l.length):(mr l o ys).length=l.length:=by simp[mr];omega
def XB{α:Type}(l:List α)(o:Nat):mr l o []=l:=by simp[mr]
def zAv{α β:Type}(f:α->β)(l:List α)(o:Nat)(ys:List α):(mr l o ys).map f=mr (l.map f) o (ys.map f):=by simp[mr]
def C9{α:Type}(l:List α)(o:Nat)(ys:List α):List α:=(mr l o ys).take l.length
def zbl{α:Type}{l ys:List α}{o:Nat}:(C9 l o ys).length=l.length:=by simp[C9,mr];omega
def zAw{α:Type}{l ys:List α}{o:Nat}(h:o+ys.length<=l.length):C9 l o ys=mr l o ys:=by rw[C9,cI];rw[Kx h];exact du _
def vr{sz:Nat}:∀{els:List (List V)},(∀e∈els,e.length=sz)->∀o,(els.take o).flatten=els.flatten.take (o*sz)
 |[],_,o=>af
 |a::l,h,0=>af
 |a::l,h,o+1=>by have ha:=h a al;rw[List.take_succ_cons,cK,cK,vr (λe he=>h e (gq _ he)) o,dC,Nat.one_mul,eW,<- ha,List.take_length_add_append]
def jK{sz:Nat}:∀{els:List (List V)},(∀e∈els,e.length=sz)->∀o,(els.drop o).flatten=els.flatten.drop (o*sz)
 |[],_,o=>af
 |a::l,h,0=>af
 |a::l,h,o+1=>by have ha:=h a al;rw[List.drop_succ_cons,cK,jK (λe he=>h e (gq _ he)) o,dC,Nat.one_mul,eW,<- ha,List.drop_length_add_append]
def Rd(w:bE)(Z:ZM)(y:bu)(ys:List (List V)):Prop:=
 ∃A cc,y=.slice A ys.length cc/\(0<ys.length->∃a,A=bc a/\∃news:List bu,zG bh Z ys.flatten news/\∀j u,news[j]?=bc u->w.cell? (a.add j)=bc u)
section
variable{P:bm}{m:M}{Z:ZM}{w:bE}
def zHv{k e sz bytes t t2 ty L o n c:Nat}{els ys:List (List V)}{X Y:bu}(hT:qy P t=bc (e,sz,bytes))(hs:wo m Z [(k,.row e sz 0 els)] w)(hX:aV (bc m) Z (.sl sz k L o n) X)(hL:L=els.length)(B1:o+n<=L)(hY:Rd w Z Y ys)(h1:∀c∈ys,c.all V.one=bg)
  (nd:∀c∈ys,c.length=sz) (hc:c=min ys.length n):∃w',(Builtin.copy_ #[t,t2] ty #[X,Y]).run P w=.ok (.int .i64 c) w'/\Step m Z [(k,.row e sz 0 els)] w m Z [(k,.row e sz 0 (mr els o (ys.take c)))] w':=by
 obtain⟨i,z,hu,hi,hz,tM,BW,Ba,h0⟩:=qz hT;subst tM;subst BW;subst hL;obtain⟨f,loc,e1,e2,e3,e4,e5⟩:=hX;cases e1;obtain⟨A,cc,rfl,hA⟩:=hY
 obtain⟨B,cB,D5⟩:∃B cB,X=.slice B n cB:=by
  rcases e5 with e5|⟨e5,A',e6⟩|⟨_,e5,A',c',e6,_⟩
  .exact⟨_,_,e5⟩
  .exact⟨A',0,by rw[e6];congr 1;omega⟩
  .exact⟨A',c',by rw[e6,e5]⟩
 have fZ:(ys.take c).length=c:=by rw[bX];omega
 by_cases nr:c=0
 .refine⟨w,?_,by rw[nr,abl,XB];exact Step.refl hs⟩;have BK:lE ys.length n=0:=hc.symm.trans nr
  have hf:(Builtin.firstCells i.size 0 (.slice A ys.length cc)).run P w=.ok #[] w:=by
   cases A with
   |none=>simp[Builtin.firstCells]
   |some a=>simp[Builtin.firstCells,loadCells,loadCellsFrom]
  rw[D5,nr]
  cases B with
  |none=>simp[Builtin.copy_,run_underlying hu,sizeOf,typeInfo,hi,Builtin.lenOf,BK,hf,goInt]
  |some b=>simp[Builtin.copy_,run_underlying hu,sizeOf,typeInfo,hi,Builtin.lenOf,BK,hf,storeCells,goInt]
 have nv:0<n:=ab;have hy0:0<ys.length:=ab;obtain⟨a,rfl,news,mW,sH⟩:=hA hy0
 rcases hs.holds _ (bS.2 rfl)with⟨_,g1,_⟩|⟨b,cap,cur,fr,g1,g0,g2,g3,g4,g5,g6,g7,g8,g9,g10,g11,g12,g13⟩
 .subst g1;simp at B1;omega
 have g1:m k els.length=bc (b,cap):=g1;rw[g1]at e2;cases e2
 have e5:X=.slice (bc ⟨b,o*i.size,bh⟩) n (cap-o):=by
  rcases e5 with e5|⟨e5,_⟩|⟨_,e5,_⟩
  .exact e5
  .simp only at e5;omega
  .omega
 have mH:news.length=ys.length*i.size:=by rw[mW.length,wk nd]
 have BK:lE ys.length n=c:=hc.symm;have Ir:c<=ys.length:=ab;have hcn:c<=n:=ab;have l7:c*i.size<=ys.length*i.size:=cj _ Ir
 have rR:(news.take (c*i.size)).length=c*i.size:=by rw[bX,mH];omega
 have hf:=run_firstCells_some (P:=P) w i.size c a ys.length cc (news.take (c*i.size)) rR (λj v hj=>by
  rw[cE]at hj;split at hj
  .exact sH j v hj
  .cases hj)
 have tq:∀u∈news,u.oneCell'=bg:=Wz mW (bj.2 λv hv=>by
  obtain⟨c,hc,B6⟩:=eZ.1 hv
  exact(bj.1 (h1 c hc)) v B6)
 have PZ:(o+c)*i.size<=els.length*i.size:=cj _ ab;have adI:els.length*i.size<=cap*i.size:=cj _ g3;have Mm:(o+c)*i.size=o*i.size+c*i.size:=dC ..;have fS:=run_storeCells_atF P b (o*i.size) e fr (news.take (c*i.size)) 0 cur w g2 (by simp at g9;omega) (by rw[rR,g5];omega) (λv hv=>tq v (dv hv));simp only[dM,rR]at fS;refine⟨w.setRow b (cur.toList.take (o*i.size)++news.take (c*i.size)++cur.toList.drop (o*i.size+c*i.size)).toArray,?_,?_⟩
 .rw[e5];simp[Builtin.copy_,run_underlying hu,sizeOf,typeInfo,hi,Builtin.lenOf,BK,hf,fS,goInt]
 .have iI:fD m (k,.row e i.size 0 els) b:=by have:cap≠0:=ab;simp[fD,qZ,Obj.hO,g1,this]
  have rl:(mr els o (ys.take c)).length=els.length:=Kx (by rw[fZ];omega)
  have lk:cur.toList.length=cap*i.size:=by simpa using g5
  have tV:∀a x,Z a=bc x->a.block≠b:=λa x ha e=>by have:=g11 a x ha e;simp at this
  refine Step.write (b:=b) hs iI (λb2 h=>QJ (by simp only[Obj.hO];exact rl) rfl rfl b2 h) rfl rfl rfl af (λj hj=>setRow_other w b j _ hj) (λa x ha e=>aU e (tV a x ha)) ?_;refine .inr ⟨b,cap,_,fr,by rw[rl];exact g1,g0,setRow_heap w b cur _ e fr g2,by rw[rl];exact g3,g4,?_,g6,?_,?_,g9,ab,λa x ha e=>aU e (tV a x ha),by rw[rl];exact g12,λoff x h=>by simp at h⟩
  .simp only[cH,la,bX,bU,mH];omega
  .rw[rl]
   have rP:(mr els o (ys.take c)).flatten=els.flatten.take (o*i.size)++ys.flatten.take (c*i.size)++els.flatten.drop ((o+c)*i.size):=by rw[mr,da,da,vr g8,vr nd,fZ,jK g8]
   rw[rP]
   have D7:(cur.toList.take (o*i.size)++news.take (c*i.size)++cur.toList.drop (o*i.size+c*i.size)).toArray.toList.take (els.length*i.size)=(cur.toList.take (els.length*i.size)).take (o*i.size)++news.take (c*i.size)++(cur.toList.take (els.length*i.size)).drop ((o+c)*i.size):=by
    simp only[]
    have rv:(cur.toList.take (o*i.size)++news.take (c*i.size)).length=o*i.size+c*i.size:=by rw[la,rR,bX];omega
    rw[fM,cI (by rw[rv];omega),rv,eU,eg,Mm]
    congr 2
    rw[ei ab]
   rw[D7];exact((g7.take _).append (mW.take _)).append (g7.drop _)
  .intro c' mQ;rw[mr,gO]at mQ
   rcases bw.1 mQ with h|h
   .exact g8 _ (dv h)
   .rcases bw.1 h with h|h
    .exact nd _ (dv h)
    .exact g8 _ (ee h)
def Src.rd{R:ax}{sz:Nat}{y:V}{ys:List (List V)}{x:bu}(h:Src sz R y ys)(h0:0<sz)(hs:wo m Z R w)(hx:aV (bc m) Z y x):Rd w Z x ys:=by
 obtain⟨A,c,e1,_,e2,e3⟩:=h.read h0 hs hx;refine⟨A,c,e1,λhp=>?_⟩
 cases A with
 |none=>rw[e2 rfl]at hp;simp at hp
 |some a=>exact⟨a,rfl,e3 a rfl⟩
end
section
variable{P:bm}{ρ:Env}{dst:Option Tmp}{ty:bA}{pos:String}{aft:Array Edge}{gd:Option (Nat×Bool)}{α:Type}
def zAx(f:α->List V){t t2 e sz bytes k L o n c:Nat}{x y:bB}{q ys all:List α}{R:ax}(hT:qy P t=bc (e,sz,bytes))(hx:a_ ρ x=.sl sz k L o n)(hL:q.length=L)(B1:o+n<=L)(hy:Src sz R (a_ ρ y) (ys.map f))(h1:∀a,(f a).all V.one=bg)(nd:∀a,(f a).length=sz)(BZ:jW k R=bd)
  (hc:c=min ys.length n) (nX:C9 q o (ys.take c)=all):
  Loc P ⟨dst,.call ⟨.builtin .copy,#[x,y],#[t,t2]⟩,ty,pos,aft,gd⟩ ρ ((k,.row e sz 0 (q.map f))::R) (.int .i64 c) ((k,.row e sz 0 (all.map f))::R):=by
 intro ρr m Z w bT hs lh;rw[zAw (by rw[bX];omega)]at nX;subst nX;have hX:=bT x (by simp[Op.operands,Call.operands]);have hY:=bT y (by simp[Op.operands,Call.operands]);rw[hx]at hX;obtain⟨i,z,hu,hi,hz,tM,BW,Ba,h0⟩:=qz hT;have iQ:wo m Z [(k,.row e sz 0 (q.map f))] w:=wo.left (F:=[(k,.row e sz 0 (q.map f))]) (G:=R) hs;have ID:wo m Z R w:=wo.left (F:=R) (G:=[(k,.row e sz 0 (q.map f))]) (hs.perm (dk (l₁:=[(k,Obj.row e sz 0 (q.map f))]) (l₂:=R)));obtain⟨w',hr,fS⟩:=zHv (t2:=t2) (ty:=ty) (c:=c) hT iQ hX (by rw[bL];exact hL.symm) B1 (hy.rd h0 ID hY) (ztl f h1 ys) (ztm f nd ys) (by rw[bL];exact hc);rw[<- dZ,<- zAv]at fS
 exact⟨rfl,.inl ⟨_,w',by simp[ca,resolve,invoke,builtin,hr],m,Z,Step.sv (F:=[(k,.row e sz 0 (q.map f))]) (G:=R) (F':=[(k,.row e sz 0 ((mr q o (ys.take c)).map f))]) hs fS (λp hp r Ea e'=>by
  simp only[bS]at hp;subst hp;have e':k=r.1:=e'
  rw[yK.2 (by rw[e'];exact ay Ea)]at BZ;cases BZ),rfl⟩⟩
def zig{t e sz k L n:Nat}{x:bB}{lo hi:Option bB}{l h:Int}(ht:JB P t=bc (e,sz))(hx:a_ ρ x=.sl sz k L 0 n)(hl:sO ρ lo 0 l)(hh:sO ρ hi n h)(h0:0<=l)(h1:l<=h)(h2:h<=n):
  Loc P ⟨dst,.slice t x lo hi bh,ty,pos,aft,gd⟩ ρ [] (.sl sz k L l.toNat (h.toNat-l.toNat)) []:=by
 have:=zlr (P:=P) (ρ:=ρ) (dst:=dst) (ty:=ty) (pos:=pos) (aft:=aft) (gd:=gd) ht hx hl hh h0 h1 h2
 rwa [cA]at this
end
section
variable{P:bm}{ρ:Env}{o:Oper}{v:V}
def zAy{Fa R F2 F1:ax}(h2:Fa++gD R=F2)(hl:Loc P o ρ F2 v F1):Loc P o ρ (Fa++R) v F1:=by
 subst h2;intro ρr m Z w bT hs lh;have ID:wo m Z R w:=wo.left (F:=R) (G:=Fa) (hs.perm dk)
 have fS:Step m Z (R++Fa) w m (rb m Z R w) (gD R++Fa) w:=Step.sv (hs.perm dk) (Step.freeze ID) λp hp q hq e=>by
  have h1:p.1∈keys R:=by rw[<- wu];exact ay hp
  obtain⟨p',iT,e'⟩:=bz.1 h1;exact aab hs.nodup hq iT (by rw[e'];exact e.symm)
 have fS:=(fS.adS dk).MJ (dk (l₁:=gD R) (l₂:=Fa));refine(hl ρr m _ w (λx hx=>(bT x hx).up fS.lR λf e=>by cases e;exact⟨m,rfl,fS.mM⟩) fS.gy (λk hk hn=>lh k hk λh=>hn ?_)).mono ?_
 .rw[zC]at h ⊢;rw[wu];exact h
 .rintro x w' ⟨m',Z',st,hr⟩;exact⟨m',Z',fS.trans st,hr⟩
end
section
variable{K0:List Nat}{ρ:Env}{H:ax}
def zxe(kb j d e sz:Nat){t:Nat}{cs iK:List V}(gp:cw 1 sz=bg)(hF:ua [kb] H=bc [(kb,.box t cs)])(hj:cs[j]?=bc .gR)(l7:cs.set j (.sl sz d 0 0 0)=iK)(hd:jW d H=bd){H1:ax}(nN:(d,.row e sz 0 [])::(kb,.box t iK)::qw [kb] H=H1):
  Cut K0 ρ H ρ H1:=λc ρr w S=>by
 subst nN;subst l7
 have lf:d ∉ keys H:=λh=>by rw[yK.2 h]at hd;cases hd
 have mE:kb∈keys H:=by have:=(xd hF).2 _ (bS.2 rfl);exact ay this
 have g_:d≠kb:=λe=>lf (e▸mE)
 have:=Kv.step (c:=c) (ρ:=ρ) (H:=H) (F:=[(kb,.box t cs)]) (F':=[(d,.row e sz 0 []),(kb,.box t (cs.set j (.sl sz d 0 0 0)))]) (ks:=[kb]) (ρ':=ρ) (ρr:=ρr) (w:=w) (by simp[nodupB]) hF (by simp[JE,lf,g_]) (λm Z hs lh hR=>by
  have y5:∀L,m d L=bh:=λL=>lh d (by simp[keys]) (by simp[keys];exact g_) L
  let m':M:=λk' L=>if k'=d/\L=0 then bc (0,0)else m k' L
  have h1:m' d 0=bc (0,0):=by simp[m']
  have h2:∀k L loc,m k L=bc loc->m' k L=bc loc:=λk L loc e=>by
   by_cases hc:k=d/\L=0
   .obtain⟨rfl,rfl⟩:=hc;rw[y5]at e;cases e
   .simp only[m',aO hc];exact e
  have h3:∀k,k≠d->m' k=m k:=λk hk=>by funext L;simp[m',hk]
  obtain⟨b,cur,g1,g2,g3,g4,g5⟩:=hs.holds _ (bS.2 rfl)
  have mD:∀b',fD m' (d,.row e sz 0 []) b'->False:=λb' h=>by simp[fD,qZ,Obj.hO,h1]at h
  have lj:∀b',fD m' (kb,.box t (cs.set j (.sl sz d 0 0 0))) b'->fD m (kb,.box t cs) b':=λb' h=>by simp only[fD,qZ,Obj.hO,h3 kb (Ne.symm g_)]at h ⊢;exact h
  refine⟨m',Z,⟨⟨hs.frozen,λp hp=>?_,by simp[keys];exact g_,λp hp q hq b' q1 q2=>?_⟩,h2,λ_ _ e=>e,rfl,rfl,rfl,aq,λ_ _ _=>rfl,λk hk=>?_,λk hk=>?_,λp hp b' hb=>?_,λ_ _ e=>.inl e⟩,λu=>(hR u).up (λ_ _ e=>e) (λf e=>by cases e;exact⟨m',rfl,h2⟩)⟩
  .simp only[bq,cV,or_false]at hp
   rcases hp with rfl|rfl
   .refine .inl ⟨lb gp,rfl,rfl,⟨0,h1⟩,λL loc e=>?_⟩;simp only[m']at e;split at e
    .rename_i hc;omega
    .rw[y5]at e;cases e
   .have tR:=g3.up (Z':=Z) (m':=bc m') (λ_ _ e=>e) (λf e=>by cases e;exact⟨m',rfl,h2⟩);refine⟨b,cur,by rw[h3 kb (Ne.symm g_)];exact g1,g2,?_,g4,by rw[h3 kb (Ne.symm g_)];exact g5⟩;obtain⟨x,Ef,n_⟩:=tR.get hj;have n_:x=.slice bh 0 0:=n_
    refine zG.n7 (by rw[dn];exact tR.length) λi v y hv hy=>?_
    by_cases z_:j=i
    .subst z_;have CO:=(bx.1 hj).1;rw[gH,aP rfl,aP CO]at hv;cases hv;rw[Ef]at hy;cases hy;exact⟨m',_,rfl,h1,aq,bP _,.inr (.inl ⟨rfl,bh,n_⟩)⟩
    .rw[eC z_]at hv;obtain⟨z,hz,hr⟩:=tR.get hv;rw[hy]at hz;cases hz;exact hr
  .simp only[bq,cV,or_false]at hp hq
   rcases hp with rfl|rfl<;>rcases hq with rfl|rfl
   .rfl
   .exact(mD _ q1).elim
   .exact(mD _ q2).elim
   .rfl
  .simp only[keys,gf,cX,bS]at hk;subst hk;simp[keys]
  .simp only[keys,gf,cX,bq,cV,or_false,not_or]at hk;exact h3 k hk.1
  .simp only[bq,cV,or_false]at hp
   rcases hp with rfl|rfl
   .exact(mD _ hb).elim
   .exact .inr ⟨_,bS.2 rfl,lj _ hb⟩) S
 exact this
def zqt(kb j d e sz:Nat){t:Nat}{cs iK:List V}(gp:cw 1 sz=bg)(hF:ua [kb] H=bc [(kb,.box t cs)])(hj:cs[j]?=bc .gR)(l7:cs.set j (.gv d (C' sz 0))=iK)(hd:jW d H=bd){H1:ax}(nN:(d,.row e sz 0 [])::(kb,.box t iK)::qw [kb] H=H1):
  Cut K0 ρ H ρ H1:=λc ρr w S=>by
 subst nN;subst l7
 have lf:d ∉ keys H:=λh=>by rw[yK.2 h]at hd;cases hd
 have mE:kb∈keys H:=by have:=(xd hF).2 _ (bS.2 rfl);exact ay this
 have g_:d≠kb:=λe=>lf (e▸mE)
 have:=Kv.step (c:=c) (ρ:=ρ) (H:=H) (F:=[(kb,.box t cs)]) (F':=[(d,.row e sz 0 []),(kb,.box t (cs.set j (.gv d (C' sz 0))))]) (ks:=[kb]) (ρ':=ρ) (ρr:=ρr) (w:=w) (by simp[nodupB]) hF (by simp[JE,lf,g_]) (λm Z hs lh hR=>by
  have y5:∀L,m d L=bh:=λL=>lh d (by simp[keys]) (by simp[keys];exact g_) L
  let m':M:=λk' L=>if k'=d/\L=0 then bc (0,0)else m k' L
  have h1:m' d 0=bc (0,0):=by simp[m']
  have h2:∀k L loc,m k L=bc loc->m' k L=bc loc:=λk L loc e=>by
   by_cases hc:k=d/\L=0
   .obtain⟨rfl,rfl⟩:=hc;rw[y5]at e;cases e
   .simp only[m',aO hc];exact e
  have h3:∀k,k≠d->m' k=m k:=λk hk=>by funext L;simp[m',hk]
  obtain⟨b,cur,g1,g2,g3,g4,g5⟩:=hs.holds _ (bS.2 rfl)
  have mD:∀b',fD m' (d,.row e sz 0 []) b'->False:=λb' h=>by simp[fD,qZ,Obj.hO,h1]at h
  have lj:∀b',fD m' (kb,.box t (cs.set j (.gv d (C' sz 0)))) b'->fD m (kb,.box t cs) b':=λb' h=>by simp only[fD,qZ,Obj.hO,h3 kb (Ne.symm g_)]at h ⊢;exact h
  refine⟨m',Z,⟨⟨hs.frozen,λp hp=>?_,by simp[keys];exact g_,λp hp q hq b' q1 q2=>?_⟩,h2,λ_ _ e=>e,rfl,rfl,rfl,aq,λ_ _ _=>rfl,λk hk=>?_,λk hk=>?_,λp hp b' hb=>?_,λ_ _ e=>.inl e⟩,λu=>(hR u).up (λ_ _ e=>e) (λf e=>by cases e;exact⟨m',rfl,h2⟩)⟩
  .simp only[bq,cV,or_false]at hp
   rcases hp with rfl|rfl
   .refine .inl ⟨lb gp,rfl,rfl,⟨0,h1⟩,λL loc e=>?_⟩;simp only[m']at e;split at e
    .rename_i hc;omega
    .rw[y5]at e;cases e
   .have tR:=g3.up (Z':=Z) (m':=bc m') (λ_ _ e=>e) (λf e=>by cases e;exact⟨m',rfl,h2⟩);refine⟨b,cur,by rw[h3 kb (Ne.symm g_)];exact g1,g2,?_,g4,by rw[h3 kb (Ne.symm g_)];exact g5⟩;obtain⟨x,Ef,n_⟩:=tR.get hj;have n_:x=.slice bh 0 0:=n_
    refine zG.n7 (by rw[dn];exact tR.length) λi v y hv hy=>?_
    by_cases z_:j=i
    .subst z_;have CO:=(bx.1 hj).1;rw[gH,aP rfl,aP CO]at hv;cases hv;rw[Ef]at hy;cases hy;exact⟨m',rfl,_,h1,bP _,bP _,.inr ⟨rfl,rfl,n_⟩⟩
    .rw[eC z_]at hv;obtain⟨z,hz,hr⟩:=tR.get hv;rw[hy]at hz;cases hz;exact hr
  .simp only[bq,cV,or_false]at hp hq
   rcases hp with rfl|rfl<;>rcases hq with rfl|rfl
   .rfl
   .exact(mD _ q1).elim
   .exact(mD _ q2).elim
   .rfl
  .simp only[keys,gf,cX,bS]at hk;subst hk;simp[keys]
  .simp only[keys,gf,cX,bq,cV,or_false,not_or]at hk;exact h3 k hk.1
  .simp only[bq,cV,or_false]at hp
   rcases hp with rfl|rfl
   .exact(mD _ hb).elim
   .exact .inr ⟨_,bS.2 rfl,lj _ hb⟩) S
 exact this
end
section
variable{P:bm}{ρ:Env}{dst:Option Tmp}{ty:bA}{pos:String}{aft:Array Edge}{gd:Option (Nat×Bool)}
def UD{a b c d:List V}(hl:a.length=b.length)(h1:y8 a b)(h2:y8 c d):y8 (a++c) (b++d):=λZ l h=>by have h3:=h.take a.length;have h4:=h.drop a.length;rw[dO]at h3;rw[abh]at h4;rw[<- abc a.length l];exact(h1 _ _ h3).append (h2 _ _ h4)
def zAz{a:List V}:y8 a a:=λ_ _ h=>h
def zOw{m:M}{Z:ZM}{w:bE}{k t sz fz:Nat}{els:List (List V)}(hs:wo m Z [(k,.row t sz fz els)] w){n:Nat}(hn:n<els.length):els[n].length=sz:=by
 rcases hs.holds _ (bS.2 rfl)with⟨_,g1,_⟩|⟨b,cap,cur,fr,g1,g0,g2,g3,g4,g5,g6,g7,g8,_⟩
 .subst g1;simp at hn
 .exact g8 _ (dX hn)
def zih{t et sz fz k L off:Nat}{a x:bB}{els all:List (List V)}{cs c1 c2:List V}(i j:Nat)(ha:a_ ρ a=.ptr k L off)(hL:L=els.length)(Mw:off=i*sz+j)(hc:els[i]?=bc cs)(nt:fz<=i)
  (hp:(a_ ρ x).plain=bg) (h1:(a_ ρ x).cells.all V.one=bg) (CR:(a_ ρ x).refs=[]) (gp:Ho P t (a_ ρ x).cells.length=bg) (Mq:cw (j+(a_ ρ x).cells.length) sz=bg) (mQ:cs.take j++(a_ ρ x).cells++cs.drop (j+(a_ ρ x).cells.length)=c1)
  (hw:y8 c1 c2) (hl:bk c1.length c2.length=bg) (nX:els.set i c2=all):
  Loc P ⟨dst,.store t a x,ty,pos,aft,gd⟩ ρ [(k,.row et sz fz els)] .no [(k,.row et sz fz all)]:=by
 subst mQ;subst nX;have hl:=eb hl;have h0:=zlp (P:=P) (dst:=dst) (ty:=ty) (pos:=pos) (aft:=aft) (gd:=gd) (et:=et) i j ha hL Mw hc nt hp h1 CR gp (lb Mq);generalize cs.take j++(a_ ρ x).cells++cs.drop (j+(a_ ρ x).cells.length)=c1 at h0 hw hl;have hi:=(bx.1 hc).1;intro ρr m Z w bT hs lh
 refine(h0 ρr m Z w bT hs (λk hk me L=>by exact lh k (by simpa[keys]using hk) me L)).mono λy w' hy=>?_
 obtain⟨m',Z',st,hr⟩:=hy;refine⟨m',Z',st.adU (by funext b;simp only[fD,qZ,Obj.hO,dn]) λhh=>?_,hr⟩
 rcases hh with⟨_,g1,_⟩|⟨b,cap,cur,fr,g1,g0,g2,g3,g4,g5,g6,g7,g8,g9,g10,g11,g12,g13⟩
 .have:=aQ bf g1;simp only[dn,List.length_nil]at this;omega
 .simp only[dn]at g1 g3 g7 g10 g12;refine .inr ⟨b,cap,cur,fr,by rw[dn];exact g1,g0,g2,by rw[dn];exact g3,g4,g5,g6,?_,λe he=>?_,g9,by rw[dn];exact g10,g11,by rw[dn];exact g12,g13⟩
  .rw[dn];rw[List.set_eq_take_append_cons_drop,aP hi,da,cK]at g7 ⊢;exact UD rfl zAz (UD hl hw zAz) _ _ g7
  .rcases List.mem_or_eq_of_mem_set he with h|h
   .obtain⟨n,hn,rfl⟩:=dS h;by_cases FH:i=n
    .subst FH
     -- the old element's length: the element itself is gone; its length is that of the new one's
     have hm:=g8 c1 (abQ hi c1);exact(zOw hs hn)
    .exact g8 _ (by
      have:(els.set i c1)[n]?=bc els[n]:=by rw[eC FH,bF hn]
      exact List.mem_of_getElem? this)
   .subst h;have hm:=g8 c1 (abQ hi c1);rw[<- hl];exact hm
end
section
variable{α β:Type}[DecidableEq α]
end
section
variable{e sz:Nat}{l:List (V×List (List V))}{ho:Option Nat}{mk:Nat->Option (Nat×Nat)}{Z:ZM}{w:bE}
end
def gone:Od where
 holds _ _ _:=True
 mn _ _:=False
 some_ _ _ h:=h.elim
 own _ _ _ _ _ h:=h.elim
 keep _ _ _ _ _ h _ _:=h
section
variable{m:M}{Z:ZM}{w w':bE}
end
section
variable{P:bm}{ρ:Env}{dst:Option Tmp}{ty:bA}{pos:String}{aft:Array Edge}{gd:Option (Nat×Bool)}{α β:Type}[DecidableEq α]
end
section
variable{m:M}{Z:ZM}{w:bE}{K0:List Nat}{ρ:Env}{H:ax}
end
section
variable{P:bm}{ρ:Env}{dst:Option Tmp}{ty:bA}{pos:String}{aft:Array Edge}{gd:Option (Nat×Bool)}
end
section
variable{m:M}{Z:ZM}{w:bE}{K0:List Nat}{ρ:Env}{H:ax}
end
section
variable{α β:Type}[DecidableEq α]
variable{P:bm}{ρ:Env}{dst:Option Tmp}{ty:bA}{pos:String}{aft:Array Edge}{gd:Option (Nat×Bool)}
end
section
variable{K0:List Nat}{ρ:Env}{H:ax}
end
section
variable{P:bm}{f:FuncId}{args:List V}{F F':ax}{r:V}
end
section
variable{P:bm}
end
section
variable{P:bm}{F:Fence}{n:Nat}{b:Frame}{a:Act}{k:List Item}{cs:List Frame}{w:bE}{Q:Exit->Act->bE->Prop}
def kJ{c:Code}:step P (lone (b.atR a (.code (.scope c)::k)) cs w)=.next (lone (b.atR a (.code c::.inScope c::k)) cs w):=step_lone_go (by simp[stepG,stepG.exec,Frame.atR])
def zii{c:Code}:step P (lone (b.atR a (.inScope c::k)) cs w)=.next (lone (b.atR a k) cs w):=step_lone_go (by simp[stepG,stepG.exec,Frame.atR])
def zxf{c:Code}(h:c.wpIn F n P (Exit.noGoto Q) a w):(Code.scope c).wpIn F n P Q a w:=by
 intro b k cs hro hb hr;have h0:(lone (b.atR a (.code (.scope c)::k)) cs w).fenced P F:=fenced_calm hb hr rfl;obtain⟨e,G5,G6,hq,GZ⟩:=h b (.inScope c::k) cs hro hb hr
 cases e with
 |normal=>exact⟨.normal,G5,G6,hq,.head h0 kJ (StepsIn.trans GZ (.one (fenced_calm hb hr rfl) zii))⟩
 |exit id =>
  have hx:exitTo id (.inScope c::k)=exitTo id k:=by simp[exitTo]
  exact⟨.exit id,G5,G6,hq,λk' hk=>.head h0 kJ (GZ.1 k' (by rw[hx];exact hk)),
   λEa hk=>let ⟨k₁,h1,h2⟩:=GZ.2 Ea (by rw[hx];exact hk);⟨k₁,h1,.head h0 kJ h2⟩⟩
 |goto l=>exact hq.elim
 |ret=>exact⟨_,G5,G6,hq,.of_steps (.one h0 kJ) GZ⟩
 |panic ch=>exact⟨_,G5,G6,hq,.of_steps (.one h0 kJ) GZ⟩
 |outgrown=>exact⟨_,G5,G6,hq,.of_steps (.one h0 kJ) GZ⟩
end
section
variable{K0:List Nat}{c:Ctx K0}{P:bm}{r:Option Nat}{N:Nat}{Q:xH}{ρ:Env}{H:ax}{ds:List cg}
def Lz(Q:xH):xH
 |.goto _,_,_,_=>False
 |e,ρ,H,ds=>Q e ρ H ds
def zOx{l:Nat}(h:Q .normal ρ H ds):lK c P r N (.label l) Q ρ H ds:=λρr w iX S hM=>by intro a n hf;exact wpIn_label ⟨ρr,iX,hf,ρ,H,S,hM,h⟩
def zOy{x:Code}(h:lK c P r N x (Lz Q) ρ H ds):lK c P r N (.scope x) Q ρ H ds:=λρr w iX S hM=>by
 intro a n hf;refine zxf (wpIn_mono (h ρr w iX S hM a n hf) λe a' w' hq=>?_);obtain⟨lS,lX,mb,ρ',H',S',lT,hQ⟩:=hq
 cases e with
 |goto l=>exact hQ.elim
 |normal=>exact⟨lS,lX,mb,ρ',H',S',lT,hQ⟩
 |exit id=>exact⟨lS,lX,mb,ρ',H',S',lT,hQ⟩
 |ret=>exact⟨lS,lX,mb,ρ',H',S',lT,hQ⟩
 |panic ch=>exact⟨lS,lX,mb,ρ',H',S',lT,hQ⟩
 |outgrown=>exact⟨lS,lX,mb,ρ',H',S',lT,hQ⟩
def zHw(h:Q .normal ρ H ds):Lz Q .normal ρ H ds:=h
def zHx(h:Q .ret ρ H ds):Lz Q .ret ρ H ds:=h
def zA0{i:Nat}(h:Q (.exit i) ρ H ds):Lz Q (.exit i) ρ H ds:=h
end
def La:Nat×Obj->Bool|(_,.kg _ _ _)=>bg|_=>bd
section
variable{P:bm}{f:FuncId}{args:List V}{F F' F2 G:ax}{r:V}{s:Nat->Bool}
end
end Go.EV
namespace Go.iE
open Go Go.RowKit
section
variable{P:bm}{r:Option Nat}{N:Nat}{Q:ZN}{ρ:yC}{ds:List cg}{w W0:bE}{L:List Own}
variable{all rest:List Oper}{ty:bA}{pos:String}{aft:Array Edge}{gd:Option (Nat×Bool)}{jl:Nat}{S:bE->Prop}{K:yC->List cg->bE->Prop}
open Go.Sort
end
section
variable{P:bm}{ρ:yC}{w W:bE}{dst:Option Tmp}{ty:bA}{pos:String}{aft:Array Edge}{gd:Option (Nat×Bool)}{α:Type}{enc:α->List bu}{k:Nat}{v:bu}{l:List α}
end
section
variable{P:bm}{r:Option Nat}{N:Nat}{Q:ZN}{ρ:yC}{ds:List cg}{w W0:bE}{L:List Own}
variable{all rest:List Oper}{ty:bA}{pos:String}{aft:Array Edge}{gd:Option (Nat×Bool)}
end
end Go.iE
namespace Go.EV
open Go Go.RowKit Go.iE
section
variable{P:bm}{f:FuncId}{args:List V}{r:V}
def zxg{w w':bE}{m:M}{Z:ZM}(hf:∀a x,Z a=bc x->w.cell? a=bc x)(hb:Below w.heap.size w w'):Step m Z [] w m Z [] w':=⟨⟨λa x ha=>by rw[AU (hb.block _ (vq hf ha))];exact hf a x ha,λp hp=>(by cases hp),dG,λp hp=>(by cases hp)⟩,λ_ _ _ h=>h,λ_ _ h=>h,hb.os,hb.tape,hb.output,hb.size,λb kd _=>hb.block b kd,λ_ h=>h,λ_ _=>rfl,λp hp=>(by cases hp),λ_ _ h=>.inl h⟩
end
def IX(P:bm)(src dst:bA):Bool:=match P.underlying src with
 |some (.slice e)=>match P.underlying e with|some (.int .u8)=>(match P.underlying dst with|some .string=>bg|_=>bd)|_=>bd
 |_=>bd
def zHy{P:bm}{src dst:bA}(h:IX P src dst=bg):∃e,P.underlying src=bc (.slice e)/\P.underlying e=bc (.int .u8)/\P.underlying dst=bc .string:=by
 unfold IX at h;split at h
 .split at h
  .split at h
   .exact⟨_,by assumption,by assumption,by assumption⟩
   .cases h
  .cases h
 .cases h
def bytesOf(l:List Int):ak:=l.map λn=>UInt8.ofNat n.toNat
section
variable{P:bm}{ρ:Env}{dst:Option Tmp}{ty:bA}{pos:String}{aft:Array Edge}{gd:Option (Nat×Bool)}
def zl0{s d k t fz L:Nat}{x:bB}{l:List Int}(ht:IX P s d=bg)(hx:a_ ρ x=.sl 1 k L 0 L)(hL:L=l.length):
  Loc P ⟨dst,.convert s d x,ty,pos,aft,gd⟩ ρ [(k,.row t 1 fz (l.map (tF .u8)))] (.str (bytesOf l)) [(k,.row t 1 fz (l.map (tF .u8)))]:=by
 intro ρr m Z w bT hs _;have hX:=bT x (by simp[Op.operands]);rw[hx]at hX;subst hL;obtain⟨f,loc,e1,e2,e3,e4,e5⟩:=hX;cases e1;obtain⟨e,h1,h2,h3⟩:=zHy ht
 have iV:∀X,ev ρr x=X->(convert s d X).run P w=.ok (.string ⟨(bytesOf l).toArray⟩) w->∃x',(ca (ev ρr) ⟨dst,.convert s d x,ty,pos,aft,gd⟩).run P w=.ok (.value x') w/\∃m' Z',Step m Z [(k,.row t 1 fz (l.map (tF .u8)))] w m' Z' [(k,.row t 1 fz (l.map (tF .u8)))] w/\aV (bc m') Z' (.str (bytesOf l)) x':=λX hX hr =>⟨_,by simp[ca,hX,hr],m,Z,Step.refl hs,rfl⟩
 have Cy:∀A c,l=[]->(convert s d (.slice A 0 c)).run P w=.ok (.string ⟨(bytesOf l).toArray⟩) w:=λA c h0=>by
  subst h0
  cases A with
  |none=>exact run_convert_bytes_nil w s e h1 h2 0 c d h3
  |some a =>
   rw[run_convert_bytes_string w s d e _ 0 c h1 h2 h3,run_bytesToString w a 0 c [] (by have:=run_loadCells_list (P:=P) w a [] (λj v hj=>by simp at hj);simpa using this)];rfl
 refine⟨rfl,.inl ?_⟩;have hh:=hs.holds _ (bS.2 rfl);by_cases h0:l=[]
 .have:∃A c,ev ρr x=.slice A 0 c:=by
   rcases e5 with h|⟨_,A,h⟩|⟨_,_,A,c,h,_⟩
   .subst h0;exact⟨_,_,h⟩
   .exact⟨_,_,h⟩
   .exact⟨_,_,h⟩
  obtain⟨A,c,hX⟩:=this;obtain⟨x',g1,g2⟩:=iV _ hX (Cy A c h0);exact⟨x',w,g1,g2⟩
 .rcases hh with⟨_,hn,_⟩|⟨b,cap,cur,fr,g1,g0,g2,g3,g4,g5,g6,g7,g8,g9,g10,g11,g12,g13⟩
  .rw[List.map_eq_nil_iff]at hn;exact aU hn h0
  .simp only[bL]at g1 g3 g7;rw[g1]at e2;cases e2
   have rP:(l.map (tF .u8)).flatten=l.map λn=>V.int .u8 n:=UC (λn=>V.int .u8 n) l
   rw[rP,abH]at g7;have M_:=Kw (enc:=λn=>V.int .u8 n) (f:=Value.int .u8) (m:=bh) (Z:=Z) (λa x h=>h) g7
   rcases e5 with hX|⟨hc,_⟩|⟨hc,_⟩
   .have sS:∀i,i<l.length->w.cell? ⟨b,0+i,bh⟩=bc (.int .u8 (l.getD i 0)):=λi hi=>by
     rw[cell_of_row w b _ cur t fr g2,cA]
     have e7:(cur.toList.take l.length)[i]?=(l.map (Value.int .u8))[i]?:=by rw[M_]
     rw[cE,aP hi]at e7;have e8:cur[i]?=cur.toList[i]?:=af;rw[e8,e7];simp[bY,bF hi]
    have:=run_convert_bytes_arg w s e h1 h2 b 0 l.length (cap-0) l rfl sS d h3;obtain⟨x',k1,k2⟩:=iV _ (by simpa using hX) (by simp only[Nat.sub_zero]at this;exact this);exact⟨x',w,k1,k2⟩
   .simp only at hc;omega
   .omega
end
open Go Go.RowKit Go.iE Go.Lib
section
variable{P:bm}{ρ:Env}{dst:Option Tmp}{ty:bA}{pos:String}{aft:Array Edge}{gd:Option (Nat×Bool)}
def IY(G:ax):Bool:=G.all λp=>match p.2 with|.kg _ _ cs=>Vu cs|_=>bd
def zOz{G:ax}(h:IY G=bg){p:Nat×Obj}(hp:p∈G):∃g t cs,p.2=.kg g t cs/\Vu cs=bg:=by
 have:=(bj.1 h) p hp;split at this
 .exact⟨_,_,_,by assumption,this⟩
 .cases this
def wo.right{m:M}{Z:ZM}{F G:ax}{w:bE}(h:wo m Z (F++G) w):wo m Z G w:=(h.perm dk).left
def ZR{f:FuncId}{args:List V}{r:V}{G:ax}(hG:IY G=bg)(IA:wi args=[])
  (h:∀w Z vals,(∀a y,Z a=bc y->w.cell? a=bc y)->(∀p∈G,∀g ob cs,p.2=.kg g ob cs->∃cur u fr,w.heap[g]?=bc (.cells cur u fr)/\zG bh Z cs cur.toList)->zG bh Z args vals->Calls P f vals.toArray w λen w'=>∃x,en=.returned x/\(∀m,aV m Z r x)/\Below w.heap.size w w'):mx P f args G r G:=by intro w m Z vals hs hv iO;refine Calls.mono (h w Z vals hs.frozen (λp hp g ob cs hl=>by have hh:=hs.holds p hp;rw[hl]at hh;obtain⟨_,⟨h2,cur,u,fr,h5,h3⟩,_⟩:=hh;exact⟨cur,u,fr,by rw[h2,h5],h3⟩) (zG.flat args vals IA hv)) ?_;rintro en w' ⟨x,he,hr,hb⟩;refine⟨x,m,Z,he,?_,hr _⟩;have:=Step.sv (F:=[]) (F':=[]) (G:=G) hs (zxg hs.frozen hb) (λp hp=>by cases hp);exact this
end
section
variable{P:bm}{m:M}{Z:ZM}{w:bE}
def zA3{k e sz bytes t t2 ty L o n c:Nat}{els ys:List (List V)}{X Y:bu}(hT:qy P t=bc (e,sz,bytes))(hs:wo m Z [(k,.row e sz 0 els)] w)(hX:aV (bc m) Z (.sl sz k L o n) X)(hL:L=els.length)(B1:o+n<=L)(Sa:(Builtin.lenOf Y).run P w=.ok ys.length w)(hY0:(Builtin.firstCells sz 0 Y).run P w=.ok #[] w)(hY:0<c->∃news,zG bh Z ys.flatten news/\(Builtin.firstCells sz c Y).run P w=.ok (news.take (c*sz)).toArray w)(h1:∀c∈ys,c.all V.one=bg)
  (nd:∀c∈ys,c.length=sz) (hc:c=min ys.length n):∃w',(Builtin.copy_ #[t,t2] ty #[X,Y]).run P w=.ok (.int .i64 c) w'/\Step m Z [(k,.row e sz 0 els)] w m Z [(k,.row e sz 0 (mr els o (ys.take c)))] w':=by
 obtain⟨i,z,hu,hi,hz,tM,BW,Ba,h0⟩:=qz hT;subst tM;subst BW;subst hL;obtain⟨f,loc,e1,e2,e3,e4,e5⟩:=hX;cases e1
 obtain⟨B,cB,D5⟩:∃B cB,X=.slice B n cB:=by
  rcases e5 with e5|⟨e5,A',e6⟩|⟨_,e5,A',c',e6,_⟩
  .exact⟨_,_,e5⟩
  .exact⟨A',0,by rw[e6];congr 1;omega⟩
  .exact⟨A',c',by rw[e6,e5]⟩
 have fZ:(ys.take c).length=c:=by rw[bX];omega
 by_cases nr:c=0
 .refine⟨w,?_,by rw[nr,abl,XB];exact Step.refl hs⟩;have BK:lE ys.length n=0:=hc.symm.trans nr;have hf:=hY0;rw[D5,nr]
  cases B with
  |none=>simp[Builtin.copy_,run_underlying hu,sizeOf,typeInfo,hi,Sa,BK,hf,goInt]
  |some b=>simp[Builtin.copy_,run_underlying hu,sizeOf,typeInfo,hi,Sa,BK,hf,storeCells,goInt]
 have nv:0<n:=ab;have hy0:0<ys.length:=ab;obtain⟨news,mW,hf⟩:=hY ab
 rcases hs.holds _ (bS.2 rfl)with⟨_,g1,_⟩|⟨b,cap,cur,fr,g1,g0,g2,g3,g4,g5,g6,g7,g8,g9,g10,g11,g12,g13⟩
 .subst g1;simp at B1;omega
 have g1:m k els.length=bc (b,cap):=g1;rw[g1]at e2;cases e2
 have e5:X=.slice (bc ⟨b,o*i.size,bh⟩) n (cap-o):=by
  rcases e5 with e5|⟨e5,_⟩|⟨_,e5,_⟩
  .exact e5
  .simp only at e5;omega
  .omega
 have mH:news.length=ys.length*i.size:=by rw[mW.length,wk nd]
 have BK:lE ys.length n=c:=hc.symm;have Ir:c<=ys.length:=ab;have hcn:c<=n:=ab;have l7:c*i.size<=ys.length*i.size:=cj _ Ir
 have rR:(news.take (c*i.size)).length=c*i.size:=by rw[bX,mH];omega
 have tq:∀u∈news,u.oneCell'=bg:=Wz mW (bj.2 λv hv=>by
  obtain⟨c,hc,B6⟩:=eZ.1 hv
  exact(bj.1 (h1 c hc)) v B6)
 have PZ:(o+c)*i.size<=els.length*i.size:=cj _ ab;have adI:els.length*i.size<=cap*i.size:=cj _ g3;have Mm:(o+c)*i.size=o*i.size+c*i.size:=dC ..;have fS:=run_storeCells_atF P b (o*i.size) e fr (news.take (c*i.size)) 0 cur w g2 (by simp at g9;omega) (by rw[rR,g5];omega) (λv hv=>tq v (dv hv));simp only[dM,rR]at fS;refine⟨w.setRow b (cur.toList.take (o*i.size)++news.take (c*i.size)++cur.toList.drop (o*i.size+c*i.size)).toArray,?_,?_⟩
 .rw[e5];simp[Builtin.copy_,run_underlying hu,sizeOf,typeInfo,hi,Sa,BK,hf,fS,goInt]
 .have iI:fD m (k,.row e i.size 0 els) b:=by have:cap≠0:=ab;simp[fD,qZ,Obj.hO,g1,this]
  have rl:(mr els o (ys.take c)).length=els.length:=Kx (by rw[fZ];omega)
  have lk:cur.toList.length=cap*i.size:=by simpa using g5
  have tV:∀a x,Z a=bc x->a.block≠b:=λa x ha e=>by have:=g11 a x ha e;simp at this
  refine Step.write (b:=b) hs iI (λb2 h=>QJ (by simp only[Obj.hO];exact rl) rfl rfl b2 h) rfl rfl rfl af (λj hj=>setRow_other w b j _ hj) (λa x ha e=>aU e (tV a x ha)) ?_;refine .inr ⟨b,cap,_,fr,by rw[rl];exact g1,g0,setRow_heap w b cur _ e fr g2,by rw[rl];exact g3,g4,?_,g6,?_,?_,g9,ab,λa x ha e=>aU e (tV a x ha),by rw[rl];exact g12,λoff x h=>by simp at h⟩
  .simp only[cH,la,bX,bU,mH];omega
  .rw[rl]
   have rP:(mr els o (ys.take c)).flatten=els.flatten.take (o*i.size)++ys.flatten.take (c*i.size)++els.flatten.drop ((o+c)*i.size):=by rw[mr,da,da,vr g8,vr nd,fZ,jK g8]
   rw[rP]
   have D7:(cur.toList.take (o*i.size)++news.take (c*i.size)++cur.toList.drop (o*i.size+c*i.size)).toArray.toList.take (els.length*i.size)=(cur.toList.take (els.length*i.size)).take (o*i.size)++news.take (c*i.size)++(cur.toList.take (els.length*i.size)).drop ((o+c)*i.size):=by
    simp only[]
    have rv:(cur.toList.take (o*i.size)++news.take (c*i.size)).length=o*i.size+c*i.size:=by rw[la,rR,bX];omega
    rw[fM,cI (by rw[rv];omega),rv,eU,eg,Mm]
    congr 2
    rw[ei ab]
   rw[D7];exact((g7.take _).append (mW.take _)).append (g7.drop _)
  .intro c' mQ;rw[mr,gO]at mQ
   rcases bw.1 mQ with h|h
   .exact g8 _ (dv h)
   .rcases bw.1 h with h|h
    .exact nd _ (dv h)
    .exact g8 _ (ee h)
end
def zfv{m:Option M}{Z:ZM}:∀s:ak,zG m Z (s.map λb=>V.int .u8 b.toNat) (s.map λb=>Value.int .u8 b.toNat)
 |[]=>rfl
 |b::s=>⟨_,_,rfl,rfl,zfv s⟩
def ztq{P:bm}{w:bE}(s:ak)(c:Nat)(hc:c<=s.length):(Builtin.firstCells 1 c (.string ⟨s.toArray⟩)).run P w=.ok (((s.map λb=>Value.int .u8 b.toNat).take (c*1)).toArray) w:=by
 have:((⟨s.toArray⟩:ByteArray).extract 0 c).data=(s.take c).toArray:=by rw[ByteArray.data_extract];simp
 simp only[Builtin.firstCells,this,abH,Sem.run_pure];rw[<- dZ];simp
section
variable{P:bm}{ρ:Env}{dst:Option Tmp}{ty:bA}{pos:String}{aft:Array Edge}{gd:Option (Nat×Bool)}
def zqu{t t2 e bytes k L o n c:Nat}{x y:bB}{q all:List Int}{ys:ak}(hT:qy P t=bc (e,1,bytes))(hx:a_ ρ x=.sl 1 k L o n)(hL:q.length=L)(B1:o+n<=L)(hy:a_ ρ y=.str ys)
  (hc:c=min ys.length n) (nX:C9 q o ((ys.take c).map λb=>(b.toNat:Int))=all):
  Loc P ⟨dst,.call ⟨.builtin .copy,#[x,y],#[t,t2]⟩,ty,pos,aft,gd⟩ ρ [(k,.row e 1 0 (q.map (tF .u8)))] (.int .i64 c) [(k,.row e 1 0 (all.map (tF .u8)))]:=by
 intro ρr m Z w bT hs lh;rw[zAw (by rw[bL,bX];omega)]at nX;subst nX;have hX:=bT x (by simp[Op.operands,Call.operands]);have hY:=bT y (by simp[Op.operands,Call.operands]);rw[hx]at hX;rw[hy]at hY;have hY:ev ρr y=.string ⟨ys.toArray⟩:=hY
 let zs:List Int:=ys.map λb=>(b.toNat:Int)
 have rP:(zs.map (tF .u8)).flatten=ys.map λb=>V.int .u8 b.toNat:=by
  show((ys.map λb=>(b.toNat:Int)).map (tF .u8)).flatten=_
  rw[cW];exact UC (λb:UInt8=>V.int .u8 b.toNat) ys
 have FL:zs.length=ys.length:=bL ..
 obtain⟨w',hr,fS⟩:=zA3 (P:=P) (t2:=t2) (ty:=ty) (c:=c) (ys:=zs.map (tF .u8)) (Y:=.string ⟨ys.toArray⟩) hT hs hX (by rw[bL];exact hL.symm) B1 (by simp[Builtin.lenOf,ByteArray.size,FL]) (by simpa using ztq (P:=P) (w:=w) ys 0 (bP _))
  (λh0=>⟨ys.map λb=>Value.int .u8 b.toNat,by rw[rP];exact zfv ys,ztq ys c ab⟩) (ztl (tF .u8) (λ_=>rfl) zs) (ztm (tF .u8) (λ_=>rfl) zs) (by rw[bL,FL];exact hc)
 rw[<- dZ,<- zAv,<- dZ]at fS;exact⟨rfl,.inl ⟨_,w',by simp[ca,resolve,invoke,builtin,hY,hr],m,Z,fS,rfl⟩⟩
end
section
variable{K0:List Nat}{c:Ctx K0}{P:bm}{r:Option Nat}{N:Nat}{Q:xH}{ρ:Env}{H:ax}{ds:List cg}
end
section
variable{P:bm}{ρ:Env}{dst:Option Tmp}{ty:bA}{pos:String}{aft:Array Edge}{gd:Option (Nat×Bool)}{α β:Type}[DecidableEq α]
end
section
variable{P:bm}{m:M}{Z:ZM}{w:bE}
def zA4{k e sz bytes t ty L o n:Nat}{els:List (List V)}{X:bu}{cs cs2:List V}(hT:qy P t=bc (e,sz,bytes))(hzc:zeroV P e=bc cs)(hw:∀(Z:ZM)(l:List bu),zG bh Z cs l->zG bh Z cs2 l)(n9:cs2.length=cs.length)(h1:cs2.all V.one=bg)(hs:wo m Z [(k,.row e sz 0 els)] w)(hX:aV (bc m) Z (.sl sz k L o n) X)(hL:L=els.length)(B1:o+n<=L):
  ∃w',(Builtin.clear_ #[t] ty #[X]).run P w=.ok (.tuple #[]) w'/\Step m Z [(k,.row e sz 0 els)] w m Z [(k,.row e sz 0 (mr els o (cS n cs2)))] w':=by
 obtain⟨i,z,hu,hi,hz,tM,BW,Ba,h0⟩:=qz hT;subst tM;subst BW;subst hL;obtain⟨f,loc,e1,e2,e3,e4,e5⟩:=hX;cases e1
 obtain⟨B,cB,D5⟩:∃B cB,X=.slice B n cB:=by
  rcases e5 with e5|⟨e5,A',e6⟩|⟨_,e5,A',c',e6,_⟩
  .exact⟨_,_,e5⟩
  .exact⟨A',0,by rw[e6];congr 1;omega⟩
  .exact⟨A',c',by rw[e6,e5]⟩
 have l7:cs=z.cells.toList.map sd:=by simp only[zeroV,hi,hz,Option.some.injEq]at hzc;exact hzc.symm
 have P0:z.cells.size=i.size:=Ba
 have lk:cs2.length=i.size:=by rw[n9,l7];simp[P0]
 let ys:=cS n cs2
 let news:List bu:=(Builtin.zeroCells z.cells n).toList
 have fZ:ys.length=n:=aaW ..
 have nd:∀c∈ys,c.length=i.size:=λc hc=>by rw[ff hc,lk]
 have mW:zG bh Z ys.flatten news:=by have:=ztp (m:=bh) (Z:=Z) (zc:=z.cells) (n:=n) ab;rw[<- l7]at this;exact zG.π hw n _ this
 have h1:∀c∈ys,c.all V.one=bg:=λc hc=>by rw[ff hc];exact h1
 by_cases nr:n=0
 .subst nr;refine⟨w,?_,by show Step m Z _ w m Z [(k,.row e i.size 0 (mr els o []))] w;rw[XB];exact Step.refl hs⟩;rw[D5]
  cases B with
  |none=>simp[Builtin.clear_,run_underlying hu]
  |some b=>simp[Builtin.clear_,run_underlying hu]
 have nv:0<n:=ab
 rcases hs.holds _ (bS.2 rfl)with⟨_,g1,_⟩|⟨b,cap,cur,fr,g1,g0,g2,g3,g4,g5,g6,g7,g8,g9,g10,g11,g12,g13⟩
 .subst g1;simp at B1;omega
 have g1:m k els.length=bc (b,cap):=g1;rw[g1]at e2;cases e2
 have e5:X=.slice (bc ⟨b,o*i.size,bh⟩) n (cap-o):=by
  rcases e5 with e5|⟨e5,_⟩|⟨_,e5,_⟩
  .exact e5
  .simp only at e5;omega
  .omega
 have mH:news.length=ys.length*i.size:=by rw[mW.length,wk nd]
 have Ir:n<=ys.length:=ab;have aly:n*i.size<=ys.length*i.size:=cj _ Ir
 have rR:(news.take (n*i.size)).length=n*i.size:=by rw[bX,mH];omega
 have M_:news.take (n*i.size)=news:=cI (by rw[mH,fZ];exact du _)
 have tq:∀u∈news,u.oneCell'=bg:=Wz mW (bj.2 λv hv=>by
  obtain⟨c,hc,B6⟩:=eZ.1 hv
  exact(bj.1 (h1 c hc)) v B6)
 have PZ:(o+n)*i.size<=els.length*i.size:=cj _ ab;have adI:els.length*i.size<=cap*i.size:=cj _ g3;have Mm:(o+n)*i.size=o*i.size+n*i.size:=dC ..;have fS:=run_storeCells_atF P b (o*i.size) e fr (news.take (n*i.size)) 0 cur w g2 (by simp at g9;omega) (by rw[rR,g5];omega) (λv hv=>tq v (dv hv));simp only[dM,rR]at fS;refine⟨w.setRow b (cur.toList.take (o*i.size)++news.take (n*i.size)++cur.toList.drop (o*i.size+n*i.size)).toArray,?_,?_⟩
 .rw[e5]
  obtain⟨n',rfl⟩:∃n',n=n'+1:=⟨n-1,ab⟩
  rw[M_]at fS;simp[Builtin.clear_,run_underlying hu,zeroValue,typeInfo,hi,hz];rw[show(Builtin.zeroCells z.cells (n'+1)).toList=news from rfl,fS];simp[M_]
 .have iI:fD m (k,.row e i.size 0 els) b:=by have:cap≠0:=ab;simp[fD,qZ,Obj.hO,g1,this]
  have rl:(mr els o ys).length=els.length:=Kx (by rw[fZ];omega)
  have lk:cur.toList.length=cap*i.size:=by simpa using g5
  have tV:∀a x,Z a=bc x->a.block≠b:=λa x ha e=>by have:=g11 a x ha e;simp at this
  refine Step.write (b:=b) hs iI (λb2 h=>QJ (by simp only[Obj.hO];exact rl) rfl rfl b2 h) rfl rfl rfl af (λj hj=>setRow_other w b j _ hj) (λa x ha e=>aU e (tV a x ha)) ?_;refine .inr ⟨b,cap,_,fr,by rw[rl];exact g1,g0,setRow_heap w b cur _ e fr g2,by rw[rl];exact g3,g4,?_,g6,?_,?_,g9,ab,λa x ha e=>aU e (tV a x ha),by rw[rl];exact g12,λoff x h=>by simp at h⟩
  .simp only[cH,la,bX,bU,mH];omega
  .rw[rl]
   have rP:(mr els o ys).flatten=els.flatten.take (o*i.size)++ys.flatten.take (n*i.size)++els.flatten.drop ((o+n)*i.size):=by rw[mr,da,da,vr g8,jK g8,fZ,cI (l:=ys.flatten) (by rw[wk nd,fZ];exact du _)]
   rw[rP]
   have D7:(cur.toList.take (o*i.size)++news.take (n*i.size)++cur.toList.drop (o*i.size+n*i.size)).toArray.toList.take (els.length*i.size)=(cur.toList.take (els.length*i.size)).take (o*i.size)++news.take (n*i.size)++(cur.toList.take (els.length*i.size)).drop ((o+n)*i.size):=by
    simp only[]
    have rv:(cur.toList.take (o*i.size)++news.take (n*i.size)).length=o*i.size+n*i.size:=by rw[la,rR,bX];omega
    rw[fM,cI (by rw[rv];omega),rv,eU,eg,Mm]
    congr 2
    rw[ei ab]
   rw[D7];exact((g7.take _).append (mW.take _)).append (g7.drop _)
  .intro c' mQ;rw[mr,gO]at mQ
   rcases bw.1 mQ with h|h
   .exact g8 _ (dv h)
   .rcases bw.1 h with h|h
    .exact nd _ h
    .exact g8 _ (ee h)
end
section
variable{P:bm}{ρ:Env}{dst:Option Tmp}{ty:bA}{pos:String}{aft:Array Edge}{gd:Option (Nat×Bool)}{α:Type}
end
section
variable{m:M}{Z:ZM}{w:bE}
end
section
variable{K0:List Nat}{ρ:Env}{H:ax}
end
section
variable{K0:List Nat}{c:Ctx K0}{P:bm}{r:Option Nat}{N:Nat}{all rest:List Oper}{o:Oper}{Q:xH}{ρ:Env}{H:ax}{ds:List cg}
end
section
variable{P:bm}{ρ:Env}{dst:Option Tmp}{ty:bA}{pos:String}{aft:Array Edge}{gd:Option (Nat×Bool)}
end
section
variable{α β:Type}
variable[DecidableEq α]
variable{P:bm}{ρ:Env}{dst:Option Tmp}{ty:bA}{pos:String}{aft:Array Edge}{gd:Option (Nat×Bool)}
end
section
variable{K0:List Nat}{ρ:Env}{H:ax}
end
section
variable{P:bm}{f:FuncId}{args alC:List V}{F F' F2 rN G:ax}{r r2:V}{s:Nat->Bool}
end
section
variable{P:bm}{ρ:Env}{dst:Option Tmp}{ty:bA}{pos:String}{aft:Array Edge}{gd:Option (Nat×Bool)}{x y:bB}{t t' k:Nat}{a:Nat->Nat}{i:Nat}
end
def akk(mk:Nat->Option (Nat×Nat))(Z:ZM)(w:bE):List (List (V×V))->Prop
 |[]=>(∃b,mk 0=bc (b,0))/\∀L loc,mk L=bc loc->L=0
 |l::_=>∃(b:Nat)(es:Array MapEntry)(clock:Nat),mk 0=bc (b,1)/\w.heap[b]?=bc (.map es clock)/\ta Z l es.toList/\(es.toList.Pairwise λx y=>x.born<y.born)/\(∀e∈es.toList,e.born<clock)/\(∀a x,Z a=bc x->a.block≠b)/\(∃L0,∀L loc,mk L=bc loc->L<=L0)
def zUn(mk:Nat->Option (Nat×Nat))(b:Nat):List (List (V×V))->Prop
 |[]=>False
 |_::_=>((mk 0).bind λloc=>if loc.2=0 then bh else bc loc.1)=bc b
def oX(l:List (List (V×V))):Od where
 holds:=λmk Z w=>akk mk Z w l
 mn:=λmk b=>zUn mk b l
 some_:=λmk b h=>by
  cases l with
  |nil=>exact h.elim
  |cons x r =>
   have h:((mk 0).bind λloc=>if loc.2=0 then bh else bc loc.1)=bc b:=h;obtain⟨loc,e1,e2⟩:=dy.1 h;split at e2
   .cases e2
   .rename_i hc;cases e2;exact⟨_,loc.2,e1,hc⟩
 own:=λmk Z w b h hb=>by
  cases l with
  |nil=>exact hb.elim
  |cons x r =>
   obtain⟨b',es,clock,h1,h2,_⟩:=h;have hb:((mk 0).bind λloc=>if loc.2=0 then bh else bc loc.1)=bc b:=hb;rw[h1]at hb;simp at hb;subst hb;exact⟨_,h2,rfl⟩
 keep:=λmk Z Z' w w' h hZ hb=>by
  cases l with
  |nil=>exact h
  |cons x r =>
   obtain⟨b',es,clock,h1,h2,h3,h4,h5,h6,h7⟩:=h
   have RI:zUn mk b' (x::r):=by
    show((mk 0).bind λloc=>if loc.2=0 then bh else bc loc.1)=bc b'
    rw[h1];simp
   obtain⟨g1,g2⟩:=hb b' RI;exact⟨b',es,clock,h1,g1.trans h2,h3.up hZ,h4,h5,λa y ha e=>h6 a y (g2 a y ha e) e,h7⟩
def Dm:Yn where
 rep:=λmk x=>∃loc,mk 0=bc loc/\x=.map (if loc.2=0 then bh else bc loc.1)
 mono:=λmk mk' x hm ⟨loc,h1,h2⟩=>⟨loc,hm 0 loc h1,h2⟩
 one:=λmk x h=>by obtain⟨loc,_,rfl⟩:=h;split<;>exact⟨rfl,rfl⟩
def V_{m:M}{Z:ZM}{k b:Nat}{x:bu}(hb:m k 0=bc (b,1)):aV (bc m) Z (.gv k Dm) x↔aV (bc m) Z (.mp k) x:=by
 constructor
 .rintro⟨f,hf,loc,h1,h2⟩;cases hf;rw[hb]at h1;cases h1;exact⟨m,_,rfl,hb,h2⟩
 .rintro⟨f,loc,hf,h1,h2⟩;cases hf;rw[hb]at h1;cases h1;exact⟨m,rfl,_,hb,h2⟩
def zHz{m:M}{Z:ZM}{k b:Nat}{x:bu}(hb:m k 0=bc (b,0))(h:aV (bc m) Z (.gv k Dm) x):x=.map bh:=by obtain⟨f,hf,loc,h1,h2⟩:=h;cases hf;rw[hb]at h1;cases h1;exact h2
section
variable{P:bm}{o:Oper}{ρ ρ2:Env}{k:Nat}{l l':List (V×V)}{v:V}
def zA5{m:M}{Z:ZM}{w:bE}(hs:wo m Z [(k,.gen (oX [l]))] w):wo m Z [(k,.map l)] w:=
 ⟨hs.frozen,λp hp=>by
  cases bS.1 hp
  exact hs.holds (k,.gen (oX [l])) (bS.2 rfl),hs.nodup,λp hp q hq b _ _=>by
  cases bS.1 hp;cases bS.1 hq
  rfl⟩
def zfw{m:M}{Z:ZM}{w:bE}(hs:wo m Z [(k,.map l)] w):wo m Z [(k,.gen (oX [l]))] w:=
 ⟨hs.frozen,λp hp=>by
  cases bS.1 hp
  exact hs.holds (k,.map l) (bS.2 rfl),hs.nodup,λp hp q hq b _ _=>by
  cases bS.1 hp;cases bS.1 hq
  rfl⟩
def zH0(h:Loc P o ρ2 [(k,.map l)] v [(k,.map l')])(hv:∀x∈o.op.operands,∀(m:M)(Z:ZM)(y:bu)(b:Nat),m k 0=bc (b,1)->aV (bc m) Z (a_ ρ x) y->aV (bc m) Z (a_ ρ2 x) y):Loc P o ρ [(k,.gen (oX [l]))] v [(k,.gen (oX [l']))]:=by
 intro ρr m Z w bT hs lh;obtain⟨b0,_,_,mV,_⟩:=hs.holds _ (bS.2 rfl);refine(h ρr m Z w (λx hx=>hv x hx m Z _ b0 mV (bT x hx)) (zA5 hs) lh).mono ?_;rintro x w' ⟨m',Z',st,hr⟩;refine⟨m',Z',⟨zfw st.gy,st.mM,st.lR,st.os,st.tape,st.output,st.size,λb hb hn=>st.frame b hb λp hp=>?_,st.keep,st.pT,λp hp b hb=>?_,λa y ha=>?_⟩,hr⟩
 .cases bS.1 hp;exact hn (k,.gen (oX [l])) (bS.2 rfl)
 .cases bS.1 hp
  refine(st.mn _ (bS.2 rfl) b hb).imp id λ⟨q,hq,lj⟩=>?_
  cases bS.1 hq;exact⟨_,bS.2 rfl,lj⟩
 .refine(st.mB a y ha).imp id (Or.imp id λ⟨q,hq,lj⟩=>?_);cases bS.1 hq;exact⟨_,bS.2 rfl,lj⟩
def zl2{t d:Nat}{dst:Option Tmp}{ty:bA}{pos:String}{aft:Array Edge}{gd:Option (Nat×Bool)}:Loc P ⟨dst,.makeMap t bh,ty,pos,aft,gd⟩ ρ [] (.gv d Dm) [(d,.gen (oX [[]]))]:=by
 intro ρr m Z w bT hs lh;refine(zbd (P:=P) (ρ:=ρ) ρr m Z w bT hs lh).mono ?_;rintro x w' ⟨m',Z',st,hr⟩;refine⟨m',Z',⟨zfw st.gy,st.mM,st.lR,st.os,st.tape,st.output,st.size,st.frame,st.keep,st.pT,λp hp b hb=>?_,st.mB⟩,?_⟩
 .cases bS.1 hp;exact st.mn _ (bS.2 rfl) b hb
 .obtain⟨b0,_,_,mV,_⟩:=st.gy.holds _ (bS.2 rfl);exact(V_ mV).2 hr
end
section
variable{P:bm}{ρ:Env}{dst:Option Tmp}{ty t t':bA}{pos:String}{aft:Array Edge}{gd:Option (Nat×Bool)}
def zqv{op:BinOp}{b:Bool}(iS:(op=.eql/\b=bg)∨(op=.neq/\b=bd))(ht:w8 P t .k_=bg){x:bB}{k:Nat}{D:List (List (V×V))}(hx:a_ ρ x=.gv k Dm):
  Loc P ⟨dst,.binOp op t x (.const (.map bh)) t',ty,pos,aft,gd⟩ ρ [(k,.gen (oX D))] (.bool (bif b then D.isEmpty else !D.isEmpty)) [(k,.gen (oX D))]:=by
 intro ρr m Z w bT hs _;have hX:=bT x (by simp[Op.operands]);have hY:aV (bc m) Z .k_ (ev ρr (.const (.map bh))):=rfl;rw[hx]at hX;have hH:=hs.holds _ (bS.2 rfl)
 have hv:∃u,aV (bc m) Z u (ev ρr x)/\Zo P t u .k_=bc D.isEmpty:=by
  cases D with
  |nil =>
   obtain⟨⟨b0,mV⟩,_⟩:=hH;exact⟨.k_,zHz mV hX,by simp[Zo,ht,Gj,Cd]⟩
  |cons l r =>obtain⟨b0,_,_,mV,_⟩:=hH;exact⟨.mp k,(V_ mV).1 hX,by simp[Zo,ht,Gj,Cd]⟩
 obtain⟨u,hu,hq⟩:=hv;have hr:=(AT (P:=P) (w:=w) (dst:=dst) (t':=t') (ty:=ty) (pos:=pos) (aft:=aft) (gd:=gd) hu hY hq).1
 rcases iS with⟨rfl,rfl⟩|⟨rfl,rfl⟩
 .exact⟨rfl,.inl ⟨_,w,hr.1,m,Z,Step.refl hs,rfl⟩⟩
 .exact⟨rfl,.inl ⟨_,w,hr.2,m,Z,Step.refl hs,rfl⟩⟩
end
end Go.EV
namespace Go.EQ
open Go Go.RowKit Go.iE Go.EV
inductive TC where
 |i (k:IntKind)
 |b
 |s
 |y
 |l (t:TC)
 |m (k e:TC)
 |st (n:Nat)
 |a (ti ts:Nat)
 deriving DecidableEq
def Yt(ti ts:Nat):Int⊕ak->V
 |.inl n=>.iG ti (.int .i64 n)
 |.inr s=>.iG ts (.str s)
def TC.ty(T:Nat->Type):TC->Type
 |.i _=>Int
 |.b=>Bool
 |.s=>ak
 |.y=>UInt8
 |.l t=>List (t.ty T)
 |.m k e=>List (k.ty T×e.ty T)
 |.st n=>T n
 |.a _ _=>Int⊕ak
def HL(T:Nat->Type):List TC->Type
 |[]=>Unit
 |[c]=>c.ty T
 |c::d::r=>c.ty T×HL T (d::r)
abbrev Dy(T:Nat->Type):=(c:TC)×c.ty T
structure lD where
 T:Nat->Type
 PL:(n:Nat)->T n
 fl:Nat->List TC
 cn:Nat->Nat
 out:(n:Nat)->T n->HL T (fl n)
 inj:(n:Nat)->HL T (fl n)->T n
 enc:(n:Nat)->T n->List V
 ro:Nat->EV.Obj
 go:Nat->(c:TC)->c.ty T->EV.Obj:=λ_ _ _=>.gen gone
 gl:Nat->Option (Nat×Nat×List ak):=λ_=>bh
 ga:Nat->Option (Nat×Dy T×List V):=λ_=>bh
 om:Bool:=bd
section
variable(S:lD)
def zH:TC->Nat
 |.st n=>S.cn n
 |_=>1
def AQ:(c:TC)->c.ty S.T->List V
 |.i k,n=>[.int k n]
 |.b,t=>[.bool t]
 |.s,x=>[.str x]
 |.y,x=>[.int .u8 (UInt8.toNat x)]
 |.l t,l=>[.vs (zH S t) (l.map (AQ t))]
 |.m _ _,_=>[.undef]
 |.st n,x=>S.enc n x
 |.a ti ts,x=>[Yt ti ts x]
def vt:(c:TC)->c.ty S.T->V
 |.i k,n=>.int k n
 |.b,t=>.bool t
 |.s,x=>.str x
 |.y,x=>.int .u8 (UInt8.toNat x)
 |.l t,l=>.vs (zH S t) (l.map (AQ S t))
 |.m _ _,_=>.undef
 |.st n,x=>.agg (S.enc n x)
 |.a ti ts,x=>Yt ti ts x
def T7:(c:TC)->c.ty S.T
 |.i _=>(0:Int)
 |.b=>bd
 |.s=>([]:ak)
 |.y=>(0:UInt8)
 |.l _=>[]
 |.m _ _=>[]
 |.st n=>S.PL n
 |.a _ _=>.inl (0:Int)
def IZ:(cs:List TC)->HL S.T cs->List V
 |[],_=>[]
 |[c],x=>AQ S c x
 |c::d::r,x=>AQ S c x.1++IZ (d::r) x.2
structure lD.OK:Prop where
 Fc:∀n x,S.enc n x=IZ S (S.fl n) (S.out n x)
 MM:∀n h,S.out n (S.inj n h)=h
 len:∀n x,(S.enc n x).length=S.cn n
 one:∀n x,(S.enc n x).all V.one=bg
 refs:∀n x,wi (S.enc n x)=[]
 Nk:S.ro 0=.gen gone
 Zy:∀i σ,(S.ro i).dW σ=S.ro i
 P2:∀i,(S.ro i).refs=[]
 Zv:∀i k,gD [(k,S.ro i)]=[(k,S.ro i)]
 YT:∀i c x σ,(S.go i c x).dW σ=S.go i c x:=by intros;rfl
 PO:∀i c x,(S.go i c x).refs=[]:=by intros;rfl
 YR:∀i c x k,gD [(k,S.go i c x)]=[(k,S.go i c x)]:=by intros;rfl
 adg:∀t i d cs,S.ga t=bc (i,d,cs)->∀m Z w k,Holds m Z w k (.box t cs)->Holds m Z w k (S.go i d.1 d.2)/\∀b,fD m (k,S.go i d.1 d.2) b->fD m (k,.box t cs) b:=by intro t i d cs h;cases h
 Rk:∀i c x k,La (k,S.go i c x)=bd:=by intros;rfl
 kg:∀i g t l,S.gl i=bc (g,t,l)->∃ob,S.ro i=.kg g ob (l.map V.str):=by intro i g t l h;cases h
 DZ:S.om=bg->∀(kc ec:TC)(x:List (List (kc.ty S.T×ec.ty S.T))),S.go 7 (.l (.m kc ec)) x=.gen (oX (x.map (nI (vt S kc) (vt S ec)))):=by intro h;cases h
end
inductive A(T:Nat->Type) where
 |raw (v:V)
 |gC (c:TC) (x:c.ty T)
 |ag (cs:List (A T))
 |gu (xs:List (A T))
 |rh (sz k n:Nat)
 |oh (k:Nat)
 |nh (sz k n:Nat)
 |rp (k L i off sz:Nat)
 |vp (c:TC) (x:c.ty T) (off:Nat)
 |fn (f:Nat) (first caps:List (A T))
 |iG (t:Nat) (a:A T)
section
variable{S:lD}
mutual
def A.v:A S.T->V
 |.raw v=>v
 |.gC c x=>vt S c x
 |.ag cs=>.agg (A.vs cs)
 |.gu xs=>.gu (A.vs xs)
 |.rh sz k n=>.sl sz k n 0 n
 |.oh k=>.gv k Dm
 |.nh sz k n=>.gv k (C' sz n)
 |.rp k L i off sz=>.ptr k L (i*sz+off)
 |.vp c x off=>.vp (AQ S c x) off
 |.fn f a b=>.fn f (A.vs a) (A.vs b)
 |.iG t a=>.iG t a.v
def A.vs:List (A S.T)->List V
 |[]=>[]
 |a::r=>a.v::A.vs r
end
def tZ:V->A S.T
 |.int k n=>.gC (.i k) n
 |.bool t=>.gC .b t
 |.str x=>.gC .s x
 |v=>.raw v
def sJ:V->A S.T
 |.agg cs=>.ag (cs.map tZ)
 |v=>tZ v
def zUo(v:V):(tZ (S:=S) v).v=v:=by cases v<;>simp[tZ,A.v,vt]
def Gl:∀l:List V,A.vs (l.map (tZ (S:=S)))=l
 |[]=>by simp[A.vs]
 |v::l=>by rw[gf,A.vs,zUo,Gl l]
def I0(v:V):(sJ (S:=S) v).v=v:=by
 cases v<;>first|(rw[sJ,A.v,Gl];done)|simp[sJ,tZ,A.v,vt]
def xY:∀l:List (A S.T),A.vs l=l.map A.v
 |[]=>by simp[A.vs]
 |a::l=>by rw[A.vs,xY l,gf]
def qA(l:List (A S.T)):(A.vs l).length=l.length:=by rw[xY,bL]
def Jg(a b:List (A S.T)):A.vs (a++b)=A.vs a++A.vs b:=by simp only[xY,cG]
end
inductive Fz where
 |zero
 |all
 |pre (n:Nat)
def Fz.n(L:Nat):Fz->Nat
 |.zero=>0
 |.all=>L
 |.pre n=>n
structure aiH{α:Type}(l:List α) where
 n:Nat
 h:l.length=n
inductive OA(T:Nat->Type) where
 |box (t:Nat) (cs:List (A T))
 |row (e:Nat) (c:TC) (fz:Fz) (l:List (c.ty T)) (w:aiH l)
 |map (kc ec:TC) (l:List (kc.ty T×ec.ty T))
 |rw(i:Nat)
 |gn (i:Nat) (c:TC) (x:c.ty T)
abbrev AE(T:Nat->Type):=List (Nat×A T)
abbrev AH(T:Nat->Type):=List (Nat×OA T)
section
variable{S:lD}
def OA.o:OA S.T->EV.Obj
 |.box t cs=>.box t (A.vs cs)
 |.row e c fz l _=>.row e (zH S c) (fz.n l.length) (l.map (AQ S c))
 |.map kc ec l=>.map (nI (vt S kc) (vt S ec) l)
 |.rw i=>S.ro i
 |.gn i c x=>S.go i c x
def eV(E:AE S.T):Env:=E.map λp=>(p.1,p.2.v)
def hV(H:AH S.T):ax:=H.map λp=>(p.1,p.2.o)
def AE.get:AE S.T->Nat->A S.T
 |[],_=>.raw .undef
 |(d,a)::r,t=>bif bk t d then a else AE.get r t
def AH.get:AH S.T->Nat->Option (OA S.T)
 |[],_=>bh
 |(k,o)::r,j=>bif bk j k then bc o else AH.get r j
def AH.set:AH S.T->Nat->OA S.T->AH S.T
 |[],_,_=>[]
 |(k',o')::r,k,o=>bif bk k k' then(k',o)::r else(k',o')::AH.set r k o
def AH.has(k:Nat):AH S.T->Bool
 |[]=>bd
 |(k',_)::r=>bif bk k k' then bg else AH.has k r
def Jh(E:AE S.T)(t:Nat):(eV E).get t=(E.get t).v:=by
 induction E with
 |nil=>simp[eV,Env.get,AE.get,A.v]
 |cons p r ih =>
  obtain⟨d,a⟩:=p;simp only[eV,gf,Env.get,AE.get]at ih ⊢
  cases bk t d with
  |true=>rfl
  |false=>exact ih
def JI(H:AH S.T)(k:Nat):(hV H).get k=(H.get k).map OA.o:=by
 induction H with
 |nil=>rfl
 |cons p r ih =>
  obtain⟨d,a⟩:=p;simp only[hV,gf,ax.get,AH.get]at ih ⊢
  cases bk k d with
  |true=>rfl
  |false=>exact ih
def zA8(H:AH S.T):keys (hV H)=H.map (·.1):=by simp[keys,hV]
def zUp(a b:AH S.T):hV (a++b)=hV a++hV b:=by simp[hV]
def og(H:AH S.T)(k:Nat):jW k (hV H)=H.has k:=by
 induction H with
 |nil=>rfl
 |cons p r ih =>
  obtain⟨d,a⟩:=p;simp only[hV,gf,jW,AH.has]at ih ⊢
  cases bk k d with
  |true=>rfl
  |false=>exact ih
def zL3(H:AH S.T)(k:Nat)(o:OA S.T):hV (H.set k o)=(hV H).set k o.o:=by
 induction H with
 |nil=>rfl
 |cons p r ih =>
  obtain⟨d,a⟩:=p;simp only[hV,gf,ax.set,AH.set]at ih ⊢
  cases bk k d with
  |true=>rfl
  |false=>simp only[cf,gf,ih]
def Lb:V->A S.T
 |.bool b=>.raw (.bool b)
 |v=>sJ v
def zL4(v:V):(Lb (S:=S) v).v=v:=by
 unfold Lb;split
 .simp[A.v]
 .exact I0 _
def bV(E:AE S.T):bB->A S.T
 |.tmp t=>E.get t
 |.const v=>Lb (Eh v)
 |.global _=>.raw .undef
 |.func f=>.fn f [] []
def zJ(E:AE S.T)(x:bB):a_ (eV E) x=(bV E x).v:=by
 cases x with
 |tmp t=>exact Jh E t
 |const v=>exact(zL4 _).symm
 |global g=>simp[a_,bV,A.v]
 |func f=>simp[a_,bV,A.v,A.vs]
end
inductive Pg:Type->Type 1 where
 |fail {R:Type}:Pg R
 |ret {R:Type} (o:Option R):Pg R
 |iJ {R α:Type} (o:Option α) (k:α->Pg R):Pg R
 |rO {R:Type} (b:Bool) (x y:Pg R):Pg R
 |jn {R S:Type} (p:Pg S) (k:S->Pg R):Pg R
 |jr {R R0 S:Type} (p:Pg (R0⊕S)) (l:R0->Option R) (k:S->Pg R):Pg R
 |pJ {R α:Type} (a b:α) (p:Pg R):Pg R
 |tA {R α:Type} (o:Option α) (l:α->Pg R) (k:Pg R):Pg R
 |lp {R R0 X:Type} (p:X->Pg R0) (f:X->Option R0) (k:Pg R):Pg R
def xo{R0 S R:Type}(l:R0->Option R)(k:S->Option R):R0⊕S->Option R
 |.inl r=>l r
 |.inr s=>k s
def er{α R:Type}(o:Option α)(l:α->Option R)(k:Option R):Option R:=match o with
 |some a=>l a
 |none=>k
def Pg.run:{R:Type}->Pg R->Option R
 |_,.fail=>bh
 |_,.ret o=>o
 |_,.iJ o k=>o.bind λa=>(k a).run
 |_,.rO b x y=>bif b then x.run else y.run
 |_,.jn p k=>p.run.bind λs=>(k s).run
 |_,.jr p l k=>p.run.bind (xo l λs=>(k s).run)
 |_,.pJ _ _ p=>p.run
 |_,.tA o l k=>er o (λa=>(l a).run) k.run
 |_,.lp _ _ k=>k.run
def Pg.ob:{R:Type}->Pg R->Prop
 |_,.fail=>True
 |_,.ret _=>True
 |_,.iJ _ k=>∀a,(k a).ob
 |_,.rO _ x y=>x.ob/\y.ob
 |_,.jn p k=>p.ob/\∀s,(k s).ob
 |_,.jr p _ k=>p.ob/\∀s,(k s).ob
 |_,.pJ a b p=>a=b/\p.ob
 |_,.tA _ l k=>(∀a,(l a).ob)/\k.ob
 |_,.lp p f k=>(∀x,(p x).run=f x/\(p x).ob)/\k.ob
inductive Tr:Type 1 where
 |nil
 |all {α:Type} (f:α->Tr)
 |two (x y:Tr)
 |note {α:Type} (a:α) (t:Tr)
def Pg.tr(t:Bool):{R:Type}->Pg R->Tr
 |_,.fail=>.nil
 |_,.ret _=>.nil
 |_,.iJ _ k=>.all λa=>(k a).tr t
 |_,.rO _ x y=>.two (x.tr t) (y.tr t)
 |_,.jn p k=>.two (p.tr t) (.all λs=>(k s).tr t)
 |_,.jr p _ k=>.two (p.tr t) (.all λs=>(k s).tr t)
 |_,.pJ a b p=>.note (bif t then a else b) (p.tr t)
 |_,.tA _ l k=>.two (.all λa=>(l a).tr t) (k.tr t)
 |_,.lp p f k=>.two (.all λx=>.note (bif t then(p x).run else f x) ((p x).tr t)) (k.tr t)
def wv:{R:Type}->(p:Pg R)->p.tr bg=p.tr bd->p.ob
 |_,.fail,_=>trivial
 |_,.ret _,_=>trivial
 |_,.iJ _ k,h=>λa=>wv (k a) (by
   simp only[Pg.tr,Tr.all.injEq,heq_eq_eq,true_and]at h
   exact congrFun h a)
 |_,.rO _ x y,h=>by
   simp only[Pg.tr,Tr.two.injEq]at h;exact⟨wv x h.1,wv y h.2⟩
 |_,.jn p k,h=>by
   simp only[Pg.tr,Tr.two.injEq,Tr.all.injEq,heq_eq_eq,true_and]at h;exact⟨wv p h.1,λs=>wv (k s) (congrFun h.2 s)⟩
 |_,.jr p _ k,h=>by
   simp only[Pg.tr,Tr.two.injEq,Tr.all.injEq,heq_eq_eq,true_and]at h;exact⟨wv p h.1,λs=>wv (k s) (congrFun h.2 s)⟩
 |_,.pJ a b p,h=>by
   simp only[Pg.tr,Tr.note.injEq,heq_eq_eq,true_and,aH,cf]at h;exact⟨h.1,wv p h.2⟩
 |_,.tA _ l k,h=>by
   simp only[Pg.tr,Tr.two.injEq,Tr.all.injEq,heq_eq_eq,true_and]at h;exact⟨λa=>wv (l a) (congrFun h.1 a),wv k h.2⟩
 |_,.lp p f k,h=>by simp only[Pg.tr,Tr.two.injEq,Tr.all.injEq,heq_eq_eq,true_and]at h;refine⟨λx=>?_,wv k h.2⟩;have h1:=congrFun h.1 x;simp only[Tr.note.injEq,heq_eq_eq,true_and,aH,cf]at h1;exact⟨h1.1,wv (p x) h1.2⟩
def Pg.Is{R:Type}(p:Pg R)(r:R):Prop:=p.run=bc r/\p.ob
section
variable{R:Type}{r:R}
def Is.ret{o:Option R}(h:(Pg.ret o).Is r):o=bc r:=h.1
def Is.fail(h:(Pg.fail:Pg R).Is r):False:=by cases h.1
def Is.iJ{α:Type}{o:Option α}{k:α->Pg R}(h:(Pg.iJ o k).Is r):∃a,o=bc a/\(k a).Is r:=by obtain⟨h1,h2⟩:=h;obtain⟨a,e,h3⟩:=dy.1 h1;exact⟨a,e,h3,h2 a⟩
def Is.rO{b:Bool}{x y:Pg R}(h:(Pg.rO b x y).Is r):(b=bg->x.Is r)/\(b=bd->y.Is r):=by obtain⟨h1,h2,h3⟩:=h;exact⟨λe=>by subst e;exact⟨h1,h2⟩,λe=>by subst e;exact⟨h1,h3⟩⟩
def Is.jn{S:Type}{p:Pg S}{k:S->Pg R}(h:(Pg.jn p k).Is r):∃s,p.Is s/\(k s).Is r:=by obtain⟨h1,h2,h3⟩:=h;obtain⟨s,e,h4⟩:=dy.1 h1;exact⟨s,⟨e,h2⟩,h4,h3 s⟩
def Is.jr{R0 S:Type}{p:Pg (R0⊕S)}{l:R0->Option R}{k:S->Pg R}(h:(Pg.jr p l k).Is r):(∃q,p.Is (.inl q)/\l q=bc r)∨∃s,p.Is (.inr s)/\(k s).Is r:=by
 obtain⟨h1,h2,h3⟩:=h;obtain⟨z,e,h4⟩:=dy.1 h1
 cases z with
 |inl q=>exact .inl ⟨q,⟨e,h2⟩,h4⟩
 |inr s=>exact .inr ⟨s,⟨e,h2⟩,h4,h3 s⟩
def Is.tA{α:Type}{o:Option α}{l:α->Pg R}{k:Pg R}(h:(Pg.tA o l k).Is r):(∃a,o=bc a/\(l a).Is r)∨(o=bh/\k.Is r):=by
 obtain⟨h1,h2,h3⟩:=h
 cases o with
 |some a=>exact .inl ⟨a,rfl,h1,h2 a⟩
 |none=>exact .inr ⟨rfl,h1,h3⟩
def Is.lp{R0 X:Type}{p:X->Pg R0}{f:X->Option R0}{k:Pg R}(h:(Pg.lp p f k).Is r):(∀x z,f x=bc z->(p x).Is z)/\k.Is r:=⟨λx z e=>⟨(h.2.1 x).1.trans e,(h.2.1 x).2⟩,h.1,h.2.2⟩
def Is.pJ{α:Type}{a b:α}{p:Pg R}(h:(Pg.pJ a b p).Is r):a=b/\p.Is r:=⟨h.2.1,h.1,h.2.2⟩
end
inductive Tp where
 |kq|gR|lZ|k_|lJ|no|Np
 |d (c:TC) (j:Nat)
 |ptr (k off:Nat)
 |mp (k:Nat)
 |row (sz k:Nat)
 |om (k:Nat)
 |pU (sz k:Nat)
 |rp (sz k j off:Nat)
 |ci (k:IntKind) (n:Int)
 |ag (l:List Tp)
 |gu (l:List Tp)
 |fn (f:Nat) (a b:List Tp)
 |iG (t:Nat) (a:Tp)
inductive TO where
 |box (t:Nat) (cs:List Tp)
 |row (e:Nat) (c:TC) (j:Nat) (fz:Bool)
 |map (kc ec:TC) (j:Nat)
 |rw(i:Nat)
 |gn (i:Nat) (c:TC) (j:Nat)
structure Tm where
 sl:List (Nat×Tp)
 hp:List (Nat×TO)
 cs:List TC
 vs:List TC
section
variable{S:lD}
def WC(ds:List (Dy S.T))(j:Nat)(c:TC):c.ty S.T:=
 match ds[j]? with
 |some ⟨c',x⟩=>if h:c'=c then h▸x else T7 S c
 |none=>T7 S c
def yP:(cs:List TC)->HL S.T cs->List (Dy S.T)
 |[],_=>[]
 |[c],x=>[⟨c,x⟩]
 |c::d::r,x=>⟨c,x.1⟩::yP (d::r) x.2
def ztr:∀(cs:List TC)(x:HL S.T cs),(yP cs x).length=cs.length
 |[],_=>rfl
 |[c],x=>rfl
 |c::d::r,x=>by simp only[yP,lc,ztr (d::r) x.2]
def Eo(ds:List (Dy S.T)):List (Nat×TO)->Nat->Nat
 |[],_=>0
 |(k',.row _ c j _)::r,k=>bif bk k k' then(WC ds j (.l c):List (c.ty S.T)).length else Eo ds r k
 |_::r,k=>Eo ds r k
mutual
def Tp.put(hp:List (Nat×TO))(ds:List (Dy S.T)):Tp->A S.T
 |.kq=>.raw .kq
 |.gR=>.raw .gR
 |.lZ=>.raw .lZ
 |.k_=>.raw .k_
 |.lJ=>.raw .lJ
 |.no=>.raw .no
 |.Np=>.raw .undef
 |.d c j=>.gC c (WC ds j c)
 |.ptr k off=>.raw (.ptr k 0 off)
 |.mp k=>.raw (.mp k)
 |.row sz k=>.rh sz k (Eo ds hp k)
 |.om k=>.oh k
 |.pU sz k=>.nh sz k (Eo ds hp k)
 |.rp sz k j off=>.rp k (Eo ds hp k) (bQ (WC ds j (.i .i64))) off sz
 |.ci k n=>.gC (.i k) n
 |.ag l=>.ag (Tp.j_ hp ds l)
 |.gu l=>.gu (Tp.j_ hp ds l)
 |.fn f a b=>.fn f (Tp.j_ hp ds a) (Tp.j_ hp ds b)
 |.iG t a=>.iG t (a.put hp ds)
def Tp.j_(hp:List (Nat×TO))(ds:List (Dy S.T)):List Tp->List (A S.T)
 |[]=>[]
 |t::r=>t.put hp ds::Tp.j_ hp ds r
end
def TO.put(hp:List (Nat×TO))(ds:List (Dy S.T)):TO->OA S.T
 |.box t cs=>.box t (Tp.j_ hp ds cs)
 |.row e c j fz=>.row e c (bif fz then .all else .zero) (WC ds j (.l c)) ⟨_,rfl⟩
 |.map kc ec j=>.map kc ec (WC ds j (.m kc ec))
 |.rw i=>.rw i
 |.gn i c j=>.gn i c (WC ds j c)
def oY(hp:List (Nat×TO))(ds:List (Dy S.T)):AH S.T:=hp.map λp=>(p.1,p.2.put hp ds)
def pP(hp:List (Nat×TO))(sl:List (Nat×Tp))(ds:List (Dy S.T)):AE S.T:=sl.map λp=>(p.1,p.2.put hp ds)
structure Rx(α:Type) where
 x:α
 fz:List Nat
 eq:List (Nat×Nat)
def aki:(c:TC)->Option (Rx (c.ty S.T))
 |.l _=>bc ⟨([]:List _),[],[]⟩
 |_=>bh
def F5(H:AH S.T)(sz k n:Nat):(c:TC)->Option (Rx (c.ty S.T))
 |.l t=>match H.get k with
  |some (.row _ t' _ l w)=>if h:t'=t then bif bk sz (zH S t)then bc ⟨(h▸l:List (t.ty S.T)),[k],[(n,w.n)]⟩else bh else bh
  |_=>bh
 |_=>bh
def aiW(b:Bool):(c:TC)->Option (Rx (c.ty S.T))
 |.b=>bc ⟨b,[],[]⟩
 |_=>bh
def Za(t:Nat)(a:A S.T):(c:TC)->Option (Rx (c.ty S.T))
 |.a ti ts=>match a with
  |.gC .s x=>bif bk t ts then bc ⟨.inr x,[],[]⟩else bh
  |.gC (.i .i64) n=>bif bk t ti then bc ⟨.inl n,[],[]⟩else bh
  |_=>bh
 |_=>bh
def Bx(H:AH S.T)(c:TC):A S.T->Option (Rx (c.ty S.T))
 |.gC c' x=>if h:c'=c then bc ⟨h▸x,[],[]⟩else bh
 |.raw .gR=>aki c
 |.raw (.bool b)=>aiW b c
 |.rh sz k n=>F5 H sz k n c
 |.nh sz k n=>F5 H sz k n c
 |.iG t a=>Za t a c
 |_=>bh
mutual
/-- One datum at the head of these cells. -/
def WD(H:AH S.T):Nat->(c:TC)->List (A S.T)->Option (Rx (c.ty S.T)×List (A S.T))
 |0,_,_=>bh
 |f+1,.st m,cs=>match Dn H f (S.fl m) cs with
  |some (⟨h,fz,eq⟩,r)=>bc (⟨S.inj m h,fz,eq⟩,r)
  |none=>bh
 |_+1,c,a::r=>match Bx H c a with
  |some rx=>bc (rx,r)
  |none=>bh
 |_+1,_,[]=>bh
def Dn(H:AH S.T):Nat->(cs:List TC)->List (A S.T)->Option (Rx (HL S.T cs)×List (A S.T))
 |0,_,_=>bh
 |_+1,[],asZ=>bc (⟨(),[],[]⟩,asZ)
 |f+1,[c],asZ=>WD H f c asZ
 |f+1,c::d::r,asZ=>match WD H f c asZ with
  |some (⟨x,fz,eq⟩,DM)=>match Dn H f (d::r) DM with
   |some (⟨y,pq,DW⟩,Yv)=>bc (⟨(x,y),fz++pq,eq++DW⟩,Yv)
   |none=>bh
  |none=>bh
end
def S6(H:AH S.T)(cs:List (A S.T)):(c:TC)->Option (Rx (c.ty S.T))
 |.st m=>match WD H 64 (.st m) cs with
  |some (rx,[])=>bc rx
  |_=>bh
 |_=>bh
def YS(H:AH S.T)(c:TC)(a:A S.T):Option (Rx (c.ty S.T)):=match Bx H c a with
 |some rx=>bc rx
 |none=>match a with
  |.ag cs=>S6 H cs c
  |_=>bh
structure Rd(T:Nat->Type) where
 ps:List (Nat×Dy T):=[]
 ns:List (Nat×Nat):=[]
 fz:List Nat:=[]
 eq:List (Nat×Nat):=[]
def Rd.app{T:Nat->Type}(a b:Rd T):Rd T:=⟨a.ps++b.ps,a.ns++b.ns,a.fz++b.fz,a.eq++b.eq⟩
def Bp:List (Nat×TO)->Nat->Option (TC×Nat)
 |[],_=>bh
 |(k',.row _ c j _)::r,k=>bif bk k k' then bc (c,j)else Bp r k
 |_::r,k=>Bp r k
def Y'(a b:Int):Bool:=decide (a=b)
def zO2{a b:Int}(h:Y' a b=bg):a=b:=aY h
def aiX(b:Bool):(c:TC)->Option (c.ty S.T)
 |.b=>bc b
 |_=>bh
def YO(c:TC):A S.T->Option (c.ty S.T)
 |.gC c' x=>if h:c'=c then bc (h▸x)else bh
 |.raw (.bool b)=>aiX b c
 |_=>bh
mutual
/-- Reads a value; ex: asZ it is, no row seen asZ data. -/
def Tp.read(hp:List (Nat×TO))(ex:Bool)(H:AH S.T):Tp->A S.T->Option (Rd S.T)
 |.d c j,a=>bif ex then(match YO c a with
   |some x=>bc ⟨[(j,⟨c,x⟩)],[],[],[]⟩
   |none=>bh)
  else match YS H c a with
   |some rx=>bc ⟨[(j,⟨c,rx.x⟩)],[],rx.fz,rx.eq⟩
   |none=>bh
 |.kq,.raw .kq=>bc {}
 |.gR,.raw .gR=>bc {}
 |.lZ,.raw .lZ=>bc {}
 |.k_,.raw .k_=>bc {}
 |.lJ,.raw .lJ=>bc {}
 |.no,.raw .no=>bc {}
 |.ptr k off,.raw (.ptr k' 0 sR)=>bif bk off sR then bc { ns:=[(k,k')] }else bh
 |.mp k,.raw (.mp k')=>bc { ns:=[(k,k')] }
 |.row sz k,.rh iF k' n=>match H.get k',Bp hp k with
  |some (.row _ _ _ _ w),bc _=>bif bk sz iF then bc { ns:=[(k,k')],eq:=[(n,w.n)] }else bh
  |_,_=>bh
 |.pU sz k,.nh iF k' n=>match H.get k',Bp hp k with
  |some (.row _ _ _ _ w),bc _=>bif bk sz iF then bc { ns:=[(k,k')],eq:=[(n,w.n)] }else bh
  |_,_=>bh
 |.rp sz k j off,.rp k' L i sR iF=>match H.get k',Bp hp k with
  |some (.row _ _ _ _ w),bc _=>bif bk sz iF&&bk off sR then bc { ps:=[(j,⟨.i .i64,Int.ofNat i⟩)],ns:=[(k,k')],eq:=[(L,w.n)] }else bh
  |_,_=>bh
 |.om k,.oh k'=>bc { ns:=[(k,k')] }
 |.ci k n,.gC (.i k') m=>bif decide (k'=k)&&Y' m n then bc {}else bh
 |.ag l,.ag l'=>Tp.reads hp ex H l l'
 |.gu l,.gu l'=>Tp.reads hp bg H l l'
 |.fn f a b,.fn f' a' b'=>bif bk f f' then
   match Tp.reads hp bg H a a' with
   |some r=>match Tp.reads hp bg H b b' with
    |some r'=>bc (r.app r')
    |none=>bh
   |none=>bh
  else bh
 |.iG t a,.iG t' a'=>bif bk t t' then a.read hp bg H a' else bh
 |_,_=>bh
def Tp.reads(hp:List (Nat×TO))(ex:Bool)(H:AH S.T):List Tp->List (A S.T)->Option (Rd S.T)
 |[],[]=>bc {}
 |t::r,a::r'=>match t.read hp ex H a with
  |some x=>match Tp.reads hp ex H r r' with
   |some y=>bc (x.app y)
   |none=>bh
  |none=>bh
 |_,_=>bh
end
def NN:List (Nat×Nat)->Nat->Option Nat
 |[],_=>bh
 |(k,k')::r,j=>bif bk j k then bc k' else NN r j
def Rf:Bool->Fz->Bool
 |true,.all=>bg
 |false,.zero=>bg
 |_,_=>bd
def TO.read(hp:List (Nat×TO))(H:AH S.T):TO->OA S.T->Option (Rd S.T)
 |.box t cs,.box t' iK=>bif bk t t' then Tp.reads hp bg H cs iK else bh
 |.row e c j fz,.row e' c' pq l _=>bif bk e e'&&Rf fz pq then
   if h:c'=c then bc { ps:=[(j,⟨.l c,(h▸l:List (c.ty S.T))⟩)] }else bh
  else bh
 |.rw i,.rw j=>bif bk i j then bc {}else bh
 |.gn i c j,.gn i' c' x=>bif bk i i' then(if h:c'=c then bc { ps:=[(j,⟨c,(h▸x:c.ty S.T)⟩)] }else bh)else bh
 |.map kc ec j,.map SD pY l=>if h:SD=kc/\pY=ec then bc { ps:=[(j,⟨.m kc ec,(h.1▸h.2▸l:List (kc.ty S.T×ec.ty S.T))⟩)] }else bh
 |_,_=>bh
def By(hp:List (Nat×TO))(H:AH S.T):List (Nat×Nat)->List (Nat×TO)->Option (Rd S.T)
 |_,[]=>bc {}
 |ns,(k,o)::r=>match NN ns k with
  |some k'=>match H.get k' with
   |some o'=>match o.read hp H o' with
    |some x=>match By hp H (ns++x.ns) r with
     |some y=>bc (x.app y)
     |none=>bh
    |none=>bh
   |none=>bh
  |none=>bh
def pick(j:Nat)(c:TC):List (Nat×Dy S.T)->Option (c.ty S.T)
 |[]=>bh
 |(j',⟨c',x⟩)::r=>bif bk j j' then(if h:c'=c then bc (h▸x)else bh)else pick j c r
def Bz(ps:List (Nat×Dy S.T)):(j:Nat)->(cs:List TC)->Option (HL S.T cs)
 |_,[]=>bc ()
 |j,[c]=>pick j c ps
 |j,c::d::r=>match pick j c ps with
  |some x=>match Bz ps (j+1) (d::r)with
   |some y=>bc (x,y)
   |none=>bh
  |none=>bh
end
section
variable{S:lD}
def Pr(n off:Nat):Option Nat->Bool
 |some k=>bk k n&&bk off 0
 |none=>bd
mutual
/-- What lies at cell off of a datum: one cell (none), or so many. -/
def Fk:Nat->(c:TC)->c.ty S.T->Nat->Option Nat->Option (A S.T)
 |0,_,_,_,_=>bh
 |f+1,.st n,x,off,k=>bif Pr (S.cn n) off k then bc (.gC (.st n) x)else Fl f (S.fl n) (S.out n x) off k
 |_+1,.m _ _,_,_,_=>bh
 |_+1,c,x,off,k=>bif bk off 0&&k.isNone then bc (.gC c x)else bh
def Fl:Nat->(cs:List TC)->HL S.T cs->Nat->Option Nat->Option (A S.T)
 |0,_,_,_,_=>bh
 |_+1,[],_,_,_=>bh
 |f+1,[c],x,off,k=>bif cw (off+1) (zH S c)then Fk f c x off k else bh
 |f+1,c::d::r,x,off,k=>bif cw (off+1) (zH S c)then Fk f c x.1 off k else Fl f (d::r) x.2 (off-zH S c) k
end
def Fj(cs:List (A S.T))(off:Nat):Option Nat->Option (A S.T)
 |none=>match cs[off]? with|some a=>bif a.v.one then bc a else bh|none=>bh
 |some k=>bif cw (off+k) cs.length then bc (.ag ((cs.drop off).take k))else bh
mutual
/-- A datum asZ cells. -/
def GG:Nat->(c:TC)->c.ty S.T->Option (List (A S.T))
 |0,_,_=>bh
 |f+1,.st n,x=>I2 f (S.fl n) (S.out n x)
 |_+1,.m _ _,_=>bh
 |_+1,c,x=>bc [.gC c x]
def I2:Nat->(cs:List TC)->HL S.T cs->Option (List (A S.T))
 |0,_,_=>bh
 |_+1,[],_=>bc []
 |f+1,[c],x=>GG f c x
 |f+1,c::d::r,x=>match GG f c x.1 with
  |some u=>match I2 f (d::r) x.2 with
   |some v=>bc (u++v)
   |none=>bh
  |none=>bh
end
def A.cells:A S.T->Option (List (A S.T))
 |.gC c x=>GG 64 c x
 |.ag cs=>bc cs
 |.raw .undef=>bh
 |.raw .no=>bh
 |.raw (.agg _)=>bh
 |a=>bc [a]
def I3(places:List (Nat×Nat))(cells:List (A S.T)):List (Nat×A S.T)->Option (List (A S.T))
 |[]=>bc cells
 |(i,a)::rest=>match places[i]? with
  |none=>bh
  |some (off,size)=>match a.cells with
   |none=>bh
   |some u=>bif bk u.length size&&cw (off+size) cells.length then I3 places (cells.take off++u++cells.drop (off+size)) rest else bh
def zBc(hS:S.OK):∀(c:TC)(x:c.ty S.T),(∀k e,c≠.m k e)->(AQ S c x).all V.one=bg
 |.i _,_,_=>rfl
 |.b,_,_=>rfl
 |.s,_,_=>rfl
 |.y,_,_=>rfl
 |.a _ _,x,_=>by cases x<;>rfl
 |.l _,_,_=>rfl
 |.m k e,_,h=>aU rfl (h k e)
 |.st n,x,_=>hS.one n x
def zH2:∀(c:TC)(x:c.ty S.T),(∀n,c≠.st n)->(∀k e,c≠.m k e)->AQ S c x=[vt S c x]/\(vt S c x).one=bg/\zH S c=1
 |.i _,_,_,_=>⟨rfl,rfl,rfl⟩
 |.b,_,_,_=>⟨rfl,rfl,rfl⟩
 |.s,_,_,_=>⟨rfl,rfl,rfl⟩
 |.y,_,_,_=>⟨rfl,rfl,rfl⟩
 |.a _ _,x,_,_=>by cases x<;>exact⟨rfl,rfl,rfl⟩
 |.l _,_,_,_=>⟨rfl,rfl,rfl⟩
 |.m k e,_,_,h=>aU rfl (h k e)
 |.st n,_,h,_=>aU rfl (h n)
mutual
def ZS(hS:S.OK):∀(f:Nat)(c:TC)(x:c.ty S.T)(cs:List (A S.T)),GG f c x=bc cs->A.vs cs=AQ S c x
 |0,_,_,_,h=>by cases h
 |f+1,.st n,x,cs,h=>by
  rw[GG]at h;exact(ztt hS f _ _ _ h).trans (hS.Fc n x).symm
 |_+1,.m _ _,_,_,h=>by cases h
 |_+1,.i _,x,cs,h=>by cases h;rfl
 |_+1,.b,x,cs,h=>by cases h;rfl
 |_+1,.s,x,cs,h=>by cases h;rfl
 |_+1,.y,x,cs,h=>by cases h;rfl
 |_+1,.a _ _,x,cs,h=>by cases h;rfl
 |_+1,.l _,x,cs,h=>by cases h;rfl
def ztt(hS:S.OK):∀(f:Nat)(l:List TC)(x:HL S.T l)(cs:List (A S.T)),I2 f l x=bc cs->A.vs cs=IZ S l x
 |0,_,_,_,h=>by cases h
 |_+1,[],_,cs,h=>by cases h;rfl
 |f+1,[c],x,cs,h=>by
  rw[I2]at h;exact ZS hS f c x cs h
 |f+1,c::d::r,x,cs,h=>by
  rw[I2]at h;split at h
  .rename_i u hu;split at h
   .rename_i v hv;cases h;rw[Jg,ZS hS f c x.1 u hu,ztt hS f (d::r) x.2 v hv];rfl
   .cases h
  .cases h
end
def A.P9(hS:S.OK){a:A S.T}{cs:List (A S.T)}(h:a.cells=bc cs):A.vs cs=a.v.cells/\a.v.plain=bg:=by
 cases a with
 |raw v=>cases v<;>first|(cases h;done)|(cases h;exact⟨rfl,rfl⟩)
 |gC c x =>
  have h1:=ZS hS _ c x cs h
  cases c<;>first|(cases h;done)|exact⟨h1,rfl⟩|(cases x<;>exact⟨h1,rfl⟩)
 |ag l=>cases h;exact⟨rfl,rfl⟩
 |gu l=>cases h;exact⟨rfl,rfl⟩
 |rh=>cases h;exact⟨rfl,rfl⟩
 |oh=>cases h;exact⟨rfl,rfl⟩
 |nh=>cases h;exact⟨rfl,rfl⟩
 |rp=>cases h;exact⟨rfl,rfl⟩
 |vp=>cases h;exact⟨rfl,rfl⟩
 |fn=>cases h;exact⟨rfl,rfl⟩
 |iG=>cases h;exact⟨rfl,rfl⟩
def Part(cs:List V)(off:Nat)(k:Option Nat)(v:V):Prop:=match k with
 |none=>cs[off]?=bc v/\v.one=bg
 |some k=>off+k<=cs.length/\v=.agg ((cs.drop off).take k)
def Part.left{cs ds:List V}{off:Nat}{k:Option Nat}{v:V}(h:Part cs off k v):Part (cs++ds) off k v:=by
 cases k with
 |none =>
  have:=(bx.1 h.1).1;exact⟨by rw[List.getElem?_append_left this];exact h.1,h.2⟩
 |some k =>
  have h1:off+k<=cs.length:=h.1;refine⟨by rw[la];omega,?_⟩;rw[h.2,List.drop_append_of_le_length ab,List.take_append_of_le_length (by rw[bU];omega)]
def Part.right{cs ds:List V}{off:Nat}{k:Option Nat}{v:V}(ho:cs.length<=off)(h:Part ds (off-cs.length) k v):Part (cs++ds) off k v:=by
 cases k with
 |none=>exact⟨by rw[List.getElem?_append_right ho];exact h.1,h.2⟩
 |some k =>
  have h1:off-cs.length+k<=ds.length:=h.1;refine⟨by rw[la];omega,?_⟩;rw[h.2,List.drop_append,dP ho,cl]
def Part.at{P:bm}{t off:Nat}{cs:List V}{k:Option Nat}{v:V}(hk:oe P t=bc k)(h:Part cs off k v):mO P t cs off=bc v:=by
 unfold mO;rw[hk]
 cases k with
 |none=>simp only[h.1,h.2,if_true]
 |some k=>simp only[show cw (off+k) cs.length=bg from ez h.1,if_true,h.2]
def vG(hS:S.OK):∀(c:TC)(x:c.ty S.T),(AQ S c x).length=zH S c
 |.i _,_=>rfl
 |.b,_=>rfl
 |.s,_=>rfl
 |.y,_=>rfl
 |.a _ _,_=>rfl
 |.l _,_=>rfl
 |.m _ _,_=>rfl
 |.st n,x=>hS.len n x
def Ky(c:TC)(x:c.ty S.T)(h1:∀n,c≠.st n)(h2:∀k e,c≠.m k e){off:Nat}{k:Option Nat}{a:A S.T}(h:(bif bk off 0&&k.isNone then bc (A.gC c x)else bh)=bc a):Part (AQ S c x) off k a.v:=by
 cases hb:bk off 0&&k.isNone with
 |false=>rw[hb]at h;cases h
 |true =>
  rw[hb]at h;cases h;simp only[bn]at hb;have h0:=eb hb.1;subst h0;obtain⟨e1,e2,_⟩:=zH2 c x h1 h2
  cases k with
  |none=>exact⟨by rw[e1];rfl,e2⟩
  |some k=>simp at hb
mutual
def VA(hS:S.OK):∀(f:Nat)(c:TC)(x:c.ty S.T)(off:Nat)(k:Option Nat)(a:A S.T),Fk f c x off k=bc a->Part (AQ S c x) off k a.v
 |0,_,_,_,_,_,h=>by cases h
 |f+1,.st n,x,off,k,a,h=>by
  change (bif Pr (S.cn n) off k then bc (A.gC (.st n) x)else Fl f (S.fl n) (S.out n x) off k)=bc a at h
  cases hb:Pr (S.cn n) off k with
  |true =>
   rw[hb]at h;cases h
   cases k with
   |none=>cases hb
   |some k =>
    simp only[Pr,bn]at hb;have h0:=eb hb.1;have h1:=eb hb.2;subst h0;subst h1;have hl:=hS.len n x;refine⟨?_,?_⟩
    .show 0+S.cn n<=(S.enc n x).length
     omega
    .show V.agg (S.enc n x)=.agg ((S.enc n x).drop 0 |>.take (S.cn n))
     rw[List.drop_zero,<- hl,List.take_length]
  |false =>
   rw[hb]at h;have:=ztu hS f _ _ _ _ _ h
   show Part (S.enc n x) off k a.v
   rw[hS.Fc n x];exact this
 |_+1,.m _ _,_,_,_,_,h=>by cases h
 |_+1,.i _,x,off,k,a,h=>Ky _ x (λ_ e=>by cases e) (λ_ _ e=>by cases e) h
 |_+1,.b,x,off,k,a,h=>Ky _ x (λ_ e=>by cases e) (λ_ _ e=>by cases e) h
 |_+1,.y,x,off,k,a,h=>Ky _ x (λ_ e=>by cases e) (λ_ _ e=>by cases e) h
 |_+1,.a _ _,x,off,k,a,h=>Ky _ x (λ_ e=>by cases e) (λ_ _ e=>by cases e) h
 |_+1,.s,x,off,k,a,h=>Ky _ x (λ_ e=>by cases e) (λ_ _ e=>by cases e) h
 |_+1,.l _,x,off,k,a,h=>Ky _ x (λ_ e=>by cases e) (λ_ _ e=>by cases e) h
def ztu(hS:S.OK):∀(f:Nat)(l:List TC)(x:HL S.T l)(off:Nat)(k:Option Nat)(a:A S.T),Fl f l x off k=bc a->Part (IZ S l x) off k a.v
 |0,_,_,_,_,_,h=>by cases h
 |_+1,[],_,_,_,_,h=>by cases h
 |f+1,[c],x,off,k,a,h=>by
  rw[Fl]at h
  cases hb:cw (off+1) (zH S c)with
  |true=>rw[hb]at h;exact VA hS f c x off k a h
  |false=>rw[hb]at h;cases h
 |f+1,c::d::r,x,off,k,a,h=>by
  rw[Fl]at h
  cases hb:cw (off+1) (zH S c)with
  |true=>rw[hb]at h;exact(VA hS f c x.1 off k a h).left
  |false =>
   rw[hb]at h
   have fZ:zH S c<=off:=by
    have:¬off+1<=zH S c:=λh'=>by rw[ez h']at hb;cases hb
    omega
   refine Part.right (by rw[vG hS];exact fZ) ?_;rw[vG hS];exact ztu hS f (d::r) x.2 _ k a h
end
def V'{cs:List (A S.T)}{off:Nat}{k:Option Nat}{a:A S.T}(h:Fj cs off k=bc a):Part (A.vs cs) off k a.v:=by
 cases k with
 |none =>
  simp only[Fj]at h;split at h
  .rename_i b hb
   cases ho:b.v.one with
   |true =>
    rw[ho]at h;cases h;exact⟨by rw[xY,cC,hb];rfl,ho⟩
   |false=>rw[ho]at h;cases h
  .cases h
 |some k =>
  simp only[Fj]at h
  cases hb:cw (off+k) cs.length with
  |true =>
   rw[hb]at h;cases h;refine⟨by rw[qA];exact lb hb,?_⟩;simp only[A.v,xY,dZ,fg]
  |false=>rw[hb]at h;cases h
def XC(hS:S.OK)(places:List (Nat×Nat)):∀(parts:List (Nat×A S.T))(cells out:List (A S.T)),I3 places cells parts=bc out->uq places (A.vs cells) (parts.map λp=>(p.1,p.2.v))=bc (A.vs out)
 |[],cells,out,h=>by cases h;rfl
 |(i,a)::rest,cells,out,h=>by
  simp only[I3]at h;simp only[gf,uq];split at h
  .cases h
  .rename_i off size hp;rw[hp];split at h
   .cases h
   .rename_i u hu;obtain⟨e1,e2⟩:=A.P9 hS hu
    cases hb:bk u.length size&&cw (off+size) cells.length with
    |false=>rw[hb]at h;cases h
    |true =>
     rw[hb]at h;have ih:=XC hS places rest _ _ h;rw[Jg,Jg,xY (List.take off cells),xY (gN (off+size) cells),dZ,fg,<- xY,e1]at ih;simp only[e2,<- e1,qA,hb,abp,if_true];rw[e1];exact ih
end
section
variable{S:lD}
def zL5(P:bm)(s f:Nat):Option (Nat×Nat):=match P.underlying s with
 |some (.struct fs)=>match fs[f]? with
  |some pZ=>bc (pZ.type,pZ.offset)
  |none=>bh
 |_=>bh
def Td(P:bm)(t:Nat)(parts:List (Nat×A S.T)):Option (List (A S.T)):=
 match P.info? t,P.underlying t with
 |some it,bc (.struct fields) =>
  match it.zero,fields.toList.mapM (λf=>(P.info? f.type).map λi=>(f.offset,i.size))with
  |some z,bc places=>I3 places ((z.cells.toList.map sd).map tZ) parts
  |_,_=>bh
 |some it,bc (.array n e) =>
  match it.zero,P.info? e with
  |some z,bc ie=>I3 ((cQ n).map λi=>(i*ie.size,ie.size)) ((z.cells.toList.map sd).map tZ) parts
  |_,_=>bh
 |_,_=>bh
def zH3(hS:S.OK){P:bm}{t:Nat}{parts:List (Nat×A S.T)}{cs:List (A S.T)}(h:Td P t parts=bc cs):Pq P t (parts.map λp=>(p.1,p.2.v))=bc (A.vs cs):=by
 unfold Td at h;unfold Pq;split at h
 .rename_i it fields e1 e2;rw[e1,e2];simp only;split at h
  .rename_i z places e3 e4;rw[e3,e4];have:=XC hS _ _ _ _ h;rw[Gl]at this;exact this
  .cases h
 .rename_i it n e e1 e2;rw[e1,e2];simp only;split at h
  .rename_i z ie e3 e4;rw[e3,e4];have:=XC hS _ _ _ _ h;rw[Gl]at this;exact this
  .cases h
 .cases h
def Te(P:bm)(s f:Nat)(a:A S.T):Option (A S.T):=match zL5 P s f with
 |some (t,o)=>match oe P t with
  |some k=>match a with
   |.gC (.st n) x=>Fk 64 (.st n) x o k
   |.ag cs=>Fj cs o k
   |_=>bh
  |none=>bh
 |none=>bh
def zH4(hS:S.OK){P:bm}{s f:Nat}{a b:A S.T}(h:Te P s f a=bc b):∃cs,a.v=.agg cs/\LY P s f cs=bc b.v:=by
 unfold Te at h;split at h
 .rename_i t o e1
  have e2:∀cs,LY P s f cs=mO P t cs o:=λcs=>by
   unfold zL5 at e1;unfold LY;split at e1
   .split at e1
    .rename_i fs e3 _ pZ e4;simp only[e3,e4];cases e1;rfl
    .cases e1
   .cases e1
  split at h
  .rename_i k hk;split at h
   .exact⟨_,rfl,by rw[e2];exact(VA hS _ _ _ _ _ _ h).at hk⟩
   .exact⟨_,rfl,by rw[e2];exact(V' h).at hk⟩
   .cases h
  .cases h
 .cases h
def zl4:A S.T->Option (A S.T)
 |.raw (.ptr k L off)=>bc (.raw (.ptr k L off))
 |.raw (.fn f a b)=>bc (.raw (.fn f a b))
 |.vp c x off=>bc (.vp c x off)
 |.rp k L i off sz=>bc (.rp k L i off sz)
 |.fn f a b=>bc (.fn f a b)
 |_=>bh
def zfy(P:bm)(s f:Nat)(a:A S.T):Option (A S.T):=match ZO P s f with
 |some o=>match a with
  |.raw (.ptr k L off)=>bc (.raw (.ptr k L (off+o)))
  |.vp c x off=>bc (.vp c x (off+o))
  |.rp k L i off sz=>bc (.rp k L i (off+o) sz)
  |_=>bh
 |none=>bh
def zUr(P:bm)(t:Nat):A S.T->Option (A S.T)
 |.vp c x off=>match oe P t with
  |some k=>Fk 64 c x off k
  |none=>bh
 |_=>bh
def adx(P:bm)(t:Nat):A S.T->Option (A S.T)
 |.gC (.l c) l=>bif o6 P t then bc (.gC (.i .i64) ((bf (α:=c.ty S.T) l:Nat):Int))else bh
 |.gC .s l=>match P.underlying t with|some .string=>bc (.gC (.i .i64) ((bf (α:=UInt8) l:Nat):Int))|_=>bh
 |.rh _ _ n=>bif o6 P t then bc (.gC (.i .i64) ((n:Nat):Int))else bh
 |_=>bh
def Ns:A S.T->Bool
 |.raw .kq=>bg
 |.raw .gR=>bg
 |.raw .lZ=>bg
 |.raw .k_=>bg
 |.raw .lJ=>bg
 |_=>bd
def SM(a b:A S.T)(v:V):A S.T:=bif Ns a||Ns b then .raw v else sJ v
def akq(a b:A S.T)(v:V):(SM a b v).v=v:=by
 unfold SM
 cases Ns a||Ns b with
 |true=>simp only[aH,A.v]
 |false=>exact I0 v
def adb:BinOp->bB->Bool
 |.quo,.const _=>bd
 |.rem,.const _=>bd
 |.quo,_=>bg
 |.rem,_=>bg
 |.shl,.const _=>bd
 |.shr,.const _=>bd
 |.shl,_=>bg
 |.shr,_=>bg
 |_,_=>bd
def T8(P:bm)(E:AE S.T):Op->Option (A S.T)
 |.move x=>bc (bV E x)
 |.assign x=>bc (bV E x)
 |.nilCheck x=>zl4 (bV E x)
 |.extract x i=>match bV E x with|.gu xs=>xs[i]?|_=>bh
 |.makeFunc (.func f) a b=>bc (.fn f (a.toList.map (bV E)) (b.toList.map (bV E)))
 |.field s x f=>Te P s f (bV E x)
 |.fieldAddr s x f=>zfy P s f (bV E x)
 |.load t a=>zUr P t (bV E a)
 |.build t parts=>match Td P t (parts.toList.map λp=>(p.1,bV E p.2))with|some cs=>bc (.ag cs)|none=>bh
 |.call ⟨.builtin .len,args,ts⟩=>match args.toList,ts.toList with|[x],[t]=>adx P t (bV E x)|_,_=>bh
 |.binOp op t x y t'=>bif adb op y then bh else match Hn P (eV E) (.binOp op t x y t')with|some v=>bc (SM (bV E x) (bV E y) v)|none=>bh
 |.unOp op t x=>match Hn P (eV E) (.unOp op t x)with|some v=>bc (sJ v)|none=>bh
 |.convert a b x=>match Hn P (eV E) (.convert a b x)with|some v=>bc (sJ v)|none=>bh
 |.pick a b x=>match bV E a with
  |.raw (.bool bg)=>bc (bV E b)
  |.raw (.bool bd)=>bc (bV E x)
  |_=>match Hn P (eV E) (.pick a b x)with|some v=>bc (sJ v)|none=>bh
 |.call ⟨.builtin b,args,ts⟩=>match Hn P (eV E) (.call ⟨.builtin b,args,ts⟩)with|some v=>bc (sJ v)|none=>bh
 |_=>bh
def LA(E:AE S.T)(l:List bB):l.map (a_ (eV E))=A.vs (l.map (bV E)):=by
 rw[xY,cW]
 exact fc λx _=>zJ E x
def zO4(a b:V):EP bg a b=a:=by
 unfold EP
 split<;>first|rfl|(split<;>rfl)
def zO5(a b:V):EP bd a b=b:=by
 unfold EP
 split<;>first|rfl|(split<;>first|rfl|(rename_i h;subst h;rfl))
def zO6(hS:S.OK){P:bm}{E:AE S.T}{op:Op}{a:A S.T}(h:T8 P E op=bc a):Hn P (eV E) op=bc a.v:=by
 unfold T8 at h;split at h
 .cases h;exact aQ bc (zJ E _)
 .cases h;exact aQ bc (zJ E _)
 .rename_i x;simp only[Hn,zJ];unfold zl4 at h
  split at h<;>first|(cases h;done)|(rename_i e;rw[e];cases h;rfl)
 .rename_i x i;simp only[Hn,zJ];split at h
  .rename_i xs e;rw[e];simp only[A.v,xY,cC,h,Option.map_some]
  .cases h
 .rename_i f x y;cases h;simp only[Hn,LA,A.v]
 .rename_i s x f;obtain⟨cs,e1,e2⟩:=zH4 hS h;simp only[Hn,zJ,e1,e2]
 .rename_i s x f;simp only[Hn,zJ];unfold zfy at h;split at h
  .rename_i o e;rw[e]
   split at h<;>first|(cases h;done)|(rename_i e';rw[e'];cases h;first|rfl|simp only[A.v,Nat.add_assoc])
  .cases h
 .rename_i t x;simp only[Hn,zJ];unfold zUr at h;split at h
  .rename_i c x off e;rw[e];split at h
   .rename_i k hk;exact(VA hS _ _ _ _ _ _ h).at hk
   .cases h
  .cases h
 .rename_i t parts;split at h
  .rename_i cs e;cases h;have:=zH3 hS e;rw[cW]at this;simp only[Hn];rw[show(parts.toList.map λp=>(p.1,a_ (eV E) p.2))=parts.toList.map ((λp:Nat×A S.T=>(p.1,p.2.v)) ∘ λp=>(p.1,bV E p.2)) from fc λp _=>by simp[zJ],this];rfl
  .cases h
 .rename_i args ts;split at h
  .rename_i x t e1 e2;simp only[Hn,e1,e2,gf,cX,zJ,Q9];unfold adx at h;split at h
   .rename_i c l e;rw[e]
    cases hb:o6 P t with
    |true =>
     rw[hb]at h;cases h;have hl:(cP (AQ S c) l).length=bf (α:=c.ty S.T) l:=bL ..;simp only[FY,A.v,vt,hb,if_true,hl]
    |false=>rw[hb]at h;cases h
   .rename_i l e;rw[e];split at h
    .rename_i hb;cases h;simp[FY,A.v,vt,hb]
    .cases h
   .rename_i n e;rw[e]
    cases hb:o6 P t with
    |true=>rw[hb]at h;cases h;simp[FY,A.v,vt,hb]
    |false=>rw[hb]at h;cases h
   .cases h
  .cases h
 .rename_i op t x y t'
  cases hb:adb op y with
  |true=>rw[hb]at h;cases h
  |false =>
   rw[hb,cf]at h
   split at h<;>first|(cases h;done)|(rename_i e;cases h;rw[e,akq])
 rotate_left 2
 .rename_i a b x;split at h
  .rename_i e;cases h;simp only[Hn,zJ,e,A.v,zO4]
  .rename_i e;cases h;simp only[Hn,zJ,e,A.v,zO5]
  .split at h<;>first|(cases h;done)|(rename_i e;cases h;rw[e,I0])
 all_goals first|(split at h<;>first|(cases h;done)|(rename_i e;cases h;rw[e,I0]))|(cases h;done)
inductive OR(S:lD):Type 1 where
 |no
 |one (kF kR:List Nat) (a:A S.T) (F':AH S.T)
 |iJ {α:Type} (o:Option α) (kF kR:List Nat) (r:α->Option (A S.T×AH S.T))
 |eqs (l:List (Nat×Nat)) (r:OR S)
 |alt {α:Type} (o:Option α) (kF kR:List Nat) (r:α->Option (A S.T×AH S.T)) (k:OR S)
 |DD {α:Type} (o:Option α) (l:α->List (Nat×Nat)) (kF kR:List Nat) (r:(x:α)->(∀p∈l x,p.1=p.2)->Option (A S.T×AH S.T))
def ahF(l:List (Nat×Nat)):Option (PLift (∀p∈l,p.1=p.2)):=if h:∀p∈l,p.1=p.2 then bc ⟨h⟩else bh
def OR.ι{S:lD}:OR S->OR S->OR S
 |.eqs l q,k=>.eqs l (q.ι k)
 |.iJ o kF kR r,k=>.alt o kF kR r k
 |q,_=>q
def qL:List Nat->AH S.T->Option (AH S.T)
 |[],_=>bc []
 |k::r,H=>match H.get k with
  |some o=>match qL r H with
   |some F=>bc ((k,o)::F)
   |none=>bh
  |none=>bh
def OR.OK(P:bm)(o:Oper)(E:AE S.T)(H:AH S.T):OR S->Prop
 |.no=>True
 |.one kF kR a F'=>∀F R,qL kF H=bc F->qL kR H=bc R->EV.Loc P o (eV E) (hV F++hV R) a.v (hV F'++hV R)
 |.iJ o' kF kR r=>∀x,o'=bc x->∀a F',r x=bc (a,F')->∀F R,qL kF H=bc F->qL kR H=bc R->EV.Loc P o (eV E) (hV F++hV R) a.v (hV F'++hV R)
 |.eqs l r=>(∀p∈l,p.1=p.2)->r.OK P o E H
 |.DD o' l kF kR r=>∀x,o'=bc x->∀h a F',r x h=bc (a,F')->∀F R,qL kF H=bc F->qL kR H=bc R->EV.Loc P o (eV E) (hV F++hV R) a.v (hV F'++hV R)
 |.alt o' kF kR r k=>(∀x,o'=bc x->∀a F',r x=bc (a,F')->∀F R,qL kF H=bc F->qL kR H=bc R->EV.Loc P o (eV E) (hV F++hV R) a.v (hV F'++hV R))/\k.OK P o E H
def ztv{S:lD}{P:bm}{o:Oper}{E:AE S.T}{H:AH S.T}:∀{q k:OR S},q.OK P o E H->k.OK P o E H->(q.ι k).OK P o E H
 |.eqs l q,k,h1,h2=>λh=>ztv (q:=q) (h1 h) h2
 |.iJ o' kF kR r,k,h1,h2=>⟨h1,h2⟩
 |.no,k,h1,h2=>h1
 |.one ..,k,h1,h2=>h1
 |.alt ..,k,h1,h2=>h1
 |.DD ..,k,h1,h2=>h1
def wx{k:Nat}{H F:AH S.T}{o:OA S.T}(hg:H.get k=bc o)(h:qL [k] H=bc F):F=[(k,o)]:=by simp only[qL,hg]at h;exact(Option.some.inj h).symm
def zm{H F:AH S.T}(h:qL [] H=bc F):F=[]:=(Option.some.inj h).symm
abbrev Ra(c:TC):Inhabited (c.ty S.T):=⟨T7 S c⟩
def intOf:A S.T->Option (IntKind×Int)
 |.gC (.i k) n=>bc (k,n)
 |_=>bh
def jX{a:A S.T}{k:IntKind}{n:Int}(h:intOf a=bc (k,n)):a.v=.int k n:=by
 unfold intOf at h;split at h
 .cases h;rfl
 .cases h
def C_(E:AE S.T):Option bB->Int->Option Int
 |none,d=>bc d
 |some x,_=>match intOf (bV E x)with|some (_,n)=>bc n|none=>bh
def Gm{E:AE S.T}{o:Option bB}{d i:Int}(h:C_ E o d=bc i):sO (eV E) o d i:=by
 cases o with
 |none=>cases h;rfl
 |some x =>
  simp only[C_]at h;split at h
  .rename_i k n e;cases h;exact⟨k,by rw[zJ];exact jX e⟩
  .cases h
def T9(P:bm)(H:AH S.T)(t:Nat)(a:A S.T):OR S:=match oe P t with
 |none=>.no
 |some sh=>match a with
  |.raw (.ptr k 0 off)=>match H.get k with
   |some (.box _ cs)=>match Fj cs off sh with
    |some b=>.one [] [k] b []
    |none=>.no
   |_=>.no
  |.rp k L i off sz=>match H.get k with
   |some (.row _ c _ l w)=>bif bk sz (zH S c)then .eqs [(L,w.n)] (.iJ (l[i]?) [] [k] λx=>match Fk 64 c x off sh with|some b=>bc (b,[])|none=>bh)else .no
   |_=>.no
  |_=>.no
def Tf(P:bm)(H:AH S.T)(t:Nat)(a x:A S.T):OR S:=match x.cells with
 |none=>.no
 |some u=>match a with
  |.raw (.ptr k 0 off)=>match H.get k with
   |some (.box bt cs)=>bif (A.vs u).all V.one&&(Ho P t u.length&&cw (off+u.length) cs.length)then .one [k] [] (.raw .no) [(k,.box bt (cs.take off++u++cs.drop (off+u.length)))]else .no
   |_=>.no
  |.rp k L i off sz=>match H.get k with
   |some (.row e c .zero l w)=>bif bk sz (zH S c)&&(Ho P t u.length&&((A.vs u).all V.one&&x.v.refs.isEmpty))then
     .eqs [(L,w.n)] (.iJ (l[i]?) [k] [] λy=>match GG 64 c y with
      |some cs=>match WD (S:=S) [] 64 c (cs.take off++u++cs.drop (off+u.length))with
       |some (⟨z,_,_⟩,[])=>bif cw (off+u.length) sz then bc (.raw .no,[(k,.row e c .zero (l.set i z) ⟨w.n,by rw[dn];exact w.h⟩)])else bh
       |_=>bh
      |none=>bh)
     else .no
   |_=>.no
  |_=>.no
def WE(P:bm)(t:Nat)(a i:A S.T):OR S:=match JB P t,intOf i with
 |some (_,sz),bc (_,n)=>match a with
  |.gC (.l c) l=>bif bk sz (zH S c)then .iJ (@idx (c.ty S.T) (Ra c) l n) [] [] λx=>bc (.vp c x 0,[])else .no
  |.rh iF k m=>bif bk sz iF then .iJ (ea (0<=n/\n<(m:Nat))) [] [] λ_=>bc (.rp k m (bQ n) 0 sz,[])else .no
  |_=>.no
 |_,_=>.no
def Tg(P:bm)(t:Nat)(a i:A S.T):OR S:=match intOf i with
 |some (_,n)=>match a with
  |.gC .s l=>bif Da P t then .iJ (idx (α:=UInt8) l n) [] [] λx=>bc (.gC (.i .u8) ((x.toNat:Nat):Int),[])else .no
  |_=>.no
 |none=>.no
def Th(P:bm)(E:AE S.T)(t:Nat)(a:A S.T)(lo hi:Option bB):OR S:=match a with
 |.gC .s l=>match C_ E lo 0,C_ E hi ((bf (α:=UInt8) l:Nat):Int)with
  |some x,bc y=>bif Da P t then .iJ (cut (α:=UInt8) l x y) [] [] λz=>bc (.gC .s z,[])else .no
  |_,_=>.no
 |.gC (.l c) l=>match JB P t with
  |some (_,sz)=>match C_ E lo 0,C_ E hi ((bf (α:=c.ty S.T) l:Nat):Int)with
   |some x,bc y=>bif bk sz (zH S c)then .iJ (cut (α:=c.ty S.T) l x y) [] [] λz=>bc (.gC (.l c) z,[])else .no
   |_,_=>.no
  |none=>.no
 |.rh sz k n=>match JB P t with
  |some (_,iF)=>match C_ E lo 0,C_ E hi ((n:Nat):Int)with
   |some x,bc y=>bif bk sz iF then .iJ (ea (0<=x/\x<=y/\y<=(n:Nat))) [] [] λ_=>bc (.raw (.sl sz k n (bQ x) (bQ y-bQ x)),[])else .no
   |_,_=>.no
  |none=>.no
 |_=>.no
section
variable{P:bm}{E:AE S.T}{H:AH S.T}{dst:Option Tmp}{ty:bA}{pos:String}{aft:Array Edge}{gd:Option (Nat×Bool)}
def zH5(hS:S.OK){t:Nat}{x:bB}:(T9 P H t (bV E x)).OK P ⟨dst,.load t x,ty,pos,aft,gd⟩ E H:=by
 unfold T9;split
 .trivial
 .rename_i sh nf;split
  .rename_i k off e;split
   .rename_i bt cs hg;split
    .rename_i b hb;intro F R hF hR;cases zm hF;cases wx hg hR;exact zti (by rw[zJ,e];rfl) ((V' hb).at nf)
    .trivial
   .trivial
  .rename_i k L i off sz e;split
   .rename_i et c fz l wl hg
    cases hb:bk sz (zH S c)with
    |false=>trivial
    |true =>
     have gp:=eb hb;subst gp;intro heq y hy a F' hr F R hF hR;have hL:L=l.length:=(heq _ (bS.2 rfl)).trans wl.h.symm;dsimp only at hr;split at hr
     .rename_i b FC;cases hr;cases zm hF;cases wx hg hR;refine zqo (L:=L) (cs:=AQ S c y) (sz:=zH S c) i off (by rw[zJ,e];rfl) (by rw[hL,bL]) rfl ?_ ((VA hS _ _ _ _ _ _ FC).at nf);rw[cC,hy];rfl
     .cases hr
   .trivial
  .trivial
def zil{t:Nat}{x ix:bB}:(WE P t (bV E x) (bV E ix)).OK P ⟨dst,.indexAddr t x ix,ty,pos,aft,gd⟩ E H:=by
 unfold WE;split
 .rename_i e sz k n h1 h2;split
  .rename_i c l e1
   cases hb:bk sz (zH S c)with
   |false=>trivial
   |true =>
    have gp:=eb hb;subst gp;intro y hy a F' hr F R hF hR;cases hr;cases zm hF;cases zm hR;obtain⟨g1,g2,g3⟩:=@V7 _ (Ra c) _ _ _ hy;refine zqn (k:=k) (i:=n) h1 (by rw[zJ,e1];rfl) (by rw[zJ];exact jX h2) g1 ?_;have fZ:n.toNat<bf (α:=c.ty S.T) l:=ab;rw[g3];exact @zOv (c.ty S.T) (Ra c) (AQ S c) l n.toNat fZ
  .rename_i iF k' m e1
   cases hb:bk sz iF with
   |false=>trivial
   |true =>
    have gp:=eb hb;subst gp;intro y hy a F' hr F R hF hR;cases hr;cases zm hF;cases zm hR;obtain⟨g1,g2⟩:=yD hy;exact zid (k:=k) h1 (by rw[zJ,e1];rfl) (by rw[zJ];exact jX h2) g1 g2
  .trivial
 .trivial
def zBi{t:Nat}{x ix:bB}:(Tg P t (bV E x) (bV E ix)).OK P ⟨dst,.index t x ix,ty,pos,aft,gd⟩ E H:=by
 unfold Tg;split
 .rename_i k n h2;split
  .rename_i l e1
   cases hb:Da P t with
   |false=>trivial
   |true =>
    intro y hy a F' hr F R hF hR;cases hr;cases zm hF;cases zm hR;obtain⟨g1,g2,g3⟩:=V7 hy;have:=zln (P:=P) (dst:=dst) (ty:=ty) (pos:=pos) (aft:=aft) (gd:=gd) (ρ:=eV E) (k:=k) (x:=x) (ix:=ix) hb (by rw[zJ,e1];rfl) (by rw[zJ];exact jX h2) g1 g2;rw[g3];exact this
  .trivial
 .trivial
def zBj{t:Nat}{x:bB}{lo hi:Option bB}:(Th P E t (bV E x) lo hi).OK P ⟨dst,.slice t x lo hi bh,ty,pos,aft,gd⟩ E H:=by
 unfold Th;split
 .rename_i l e1;split
  .rename_i p q h1 h2
   cases hb:Da P t with
   |false=>trivial
   |true =>intro y hy a F' hr F R hF hR;cases hr;cases zm hF;cases zm hR;obtain⟨g1,g2,g3,g4⟩:=ztn hy;rw[g4];exact zlq hb (by rw[zJ,e1];rfl) (Gm h1) (Gm h2) g1 g2 g3
  .trivial
 .rename_i c l e1;split
  .rename_i e sz h0;split
   .rename_i p q h1 h2
    cases hb:bk sz (zH S c)with
    |false=>trivial
    |true =>
     have gp:=eb hb;subst gp;intro y hy a F' hr F R hF hR;cases hr;cases zm hF;cases zm hR;obtain⟨g1,g2,g3,g4⟩:=ztn hy;have hl:(cP (AQ S c) l).length=bf (α:=c.ty S.T) l:=bL ..;refine zlw h0 (by rw[zJ,e1];rfl) (Gm h1) (by rw[hl];exact Gm h2) g1 g2 (by rw[hl];exact g3) ?_;rw[g4,fg];exact aQ (gN p.toNat) (dZ (f:=AQ S c) (l:=(l:List (c.ty S.T))) (i:=q.toNat)).symm
   .trivial
  .trivial
 .rename_i sz k n e1;split
  .rename_i e iF h0;split
   .rename_i p q h1 h2
    cases hb:bk sz iF with
    |false=>trivial
    |true =>
     have gp:=eb hb;subst gp;intro y hy a F' hr F R hF hR;cases hr;cases zm hF;cases zm hR;obtain⟨g1,g2,g3⟩:=yD hy;exact zig h0 (by rw[zJ,e1];rfl) (Gm h1) (Gm h2) g1 g2 g3
   .trivial
  .trivial
 .trivial
end
end
section
variable{S:lD}
def RowsIn(H:AH S.T)(R:ax)(fz:List Nat):Prop:=∀k∈fz,∀e c f l w,H.get k=bc (.row e c f l w)->∃f',R.get k=bc (.row e (zH S c) f' (l.map (AQ S c)))
def RowsIn.left{H:AH S.T}{R:ax}{a b:List Nat}(h:RowsIn H R (a++b)):RowsIn H R a:=λk hk=>h k (bI _ hk)
def RowsIn.right{H:AH S.T}{R:ax}{a b:List Nat}(h:RowsIn H R (a++b)):RowsIn H R b:=λk hk=>h k (bK _ hk)
def aaF{R:ax}:∀{a b c d:List V},jT R a b->jT R c d->jT R (a++c) (b++d)
 |[],_,_,_,.nil,h=>h
 |_::_,_,_,_,.cons h1 h2,h=>.cons h1 (aaF h2 h)
def zf0{R:ax}:∀{a:List V},jT R a a
 |[]=>.nil
 |v::a=>.cons (.same v) zf0
def xZ(l:List (Nat×Nat)):Prop:=∀p∈l,p.1=p.2
def xZ.left{a b:List (Nat×Nat)}(h:xZ (a++b)):xZ a:=λk hk=>h k (bI _ hk)
def xZ.right{a b:List (Nat×Nat)}(h:xZ (a++b)):xZ b:=λk hk=>h k (bK _ hk)
def zL7{t:Nat}{a:A S.T}{c:TC}{rx:Rx (c.ty S.T)}(h:Za t a c=bc rx):V.iG t a.v=vt S c rx.x/\rx.fz=[]/\rx.eq=[]:=by
 unfold Za at h;split at h
 .rename_i ti ts;split at h
  .rename_i x
   cases hb:bk t ts with
   |false=>rw[hb]at h;cases h
   |true =>rw[hb]at h;cases h;rw[eb hb];exact⟨rfl,rfl,rfl⟩
  .rename_i x
   cases hb:bk t ti with
   |false=>rw[hb]at h;cases h
   |true =>rw[hb]at h;cases h;rw[eb hb];exact⟨rfl,rfl,rfl⟩
  .cases h
 .cases h
def AV{H:AH S.T}{c:TC}{a:A S.T}{rx:Rx (c.ty S.T)}(h:Bx H c a=bc rx)(heq:xZ rx.eq){R:ax}(hR:RowsIn H R rx.fz):av R a.v (vt S c rx.x):=by
 unfold Bx at h;split at h
 .split at h
  .rename_i e;subst e;cases h;exact .same _
  .cases h
 .cases c<;>first|(cases h;done)|(cases h;exact .gR _)
 .cases c<;>first|(cases h;done)|(cases h;exact .same _)
 .rename_i sz k n
  cases c<;>first|(cases h;done)|skip
  rename_i t;simp only[F5]at h;split at h
  .rename_i e t' fz l wl hg;split at h
   .rename_i e;subst e
    cases hb:bk sz (zH S t')with
    |false=>rw[hb]at h;cases h
    |true =>
     rw[hb]at h;have gp:=eb hb;subst gp;cases h;obtain⟨f',hf⟩:=hR k (bS.2 rfl) _ _ _ _ _ hg;have hn:n=l.length:=(heq _ (bS.2 rfl)).trans wl.h.symm;exact .row hf (by rw[bL];exact hn)
   .cases h
  .cases h
 .rename_i sz k n
  cases c<;>first|(cases h;done)|skip
  rename_i t;simp only[F5]at h;split at h
  .rename_i e t' fz l wl hg;split at h
   .rename_i e;subst e
    cases hb:bk sz (zH S t')with
    |false=>rw[hb]at h;cases h
    |true =>
     rw[hb]at h;have gp:=eb hb;subst gp;cases h;obtain⟨f',hf⟩:=hR k (bS.2 rfl) _ _ _ _ _ hg;have hn:n=l.length:=(heq _ (bS.2 rfl)).trans wl.h.symm;exact .pU hf (by rw[bL];exact hn)
   .cases h
  .cases h
 .have:=(zL7 h).1;rw[<- this];simp only[A.v];exact .same _
 .cases h
def zH6:∀(c:TC)(x:c.ty S.T),(∀n,c≠.st n)->AQ S c x=[vt S c x]
 |.i _,_,_=>rfl
 |.b,_,_=>rfl
 |.s,_,_=>rfl
 |.y,_,_=>rfl
 |.a _ _,_,_=>rfl
 |.l _,_,_=>rfl
 |.m k e,_,_=>rfl
 |.st n,_,h=>aU rfl (h n)
mutual
def Kz(hS:S.OK){H:AH S.T}:∀(f:Nat)(c:TC)(cs:List (A S.T))(rx:Rx (c.ty S.T))(r:List (A S.T)),WD H f c cs=bc (rx,r)->xZ rx.eq ->
  ∃u,cs=u++r/\∀R,RowsIn H R rx.fz->jT R (A.vs u) (AQ S c rx.x)
 |0,_,_,_,_,h,_=>by cases h
 |f+1,.st m,cs,rx,r,h,heq=>by
  rw[WD]at h;split at h
  .rename_i x fz eq r' e;cases h;obtain⟨u,h1,h2⟩:=KA hS f (S.fl m) cs ⟨x,fz,eq⟩ r e heq;refine⟨u,h1,λR hR=>?_⟩;have:=h2 R hR
   show jT R (A.vs u) (S.enc m (S.inj m x))
   rw[hS.Fc,hS.MM];exact this
  .cases h
 |f+1,c,a::r0,rx,r,h,heq=>by
  by_cases hc:∃m,c=.st m
  .obtain⟨m,rfl⟩:=hc;rw[WD]at h;split at h
   .rename_i x fz eq r' e;cases h;obtain⟨u,h1,h2⟩:=KA hS f (S.fl m) _ ⟨x,fz,eq⟩ r e heq;refine⟨u,h1,λR hR=>?_⟩;have:=h2 R hR
    show jT R (A.vs u) (S.enc m (S.inj m x))
    rw[hS.Fc,hS.MM];exact this
   .cases h
  .have mQ:∀m,c≠.st m:=λm e=>hc ⟨m,e⟩
   have h':(match Bx H c a with|some rx=>bc (rx,r0)|none=>bh)=bc (rx,r):=by
    cases c<;>first|exact aU rfl (mQ _)|exact h
   split at h'
   .rename_i IP e;cases h';refine⟨[a],rfl,λR hR=>?_⟩;have:=AV e heq hR;rw[zH6 c rx.x mQ];exact .cons this .nil
   .cases h'
 |f+1,c,[],rx,r,h,heq=>by
  by_cases hc:∃m,c=.st m
  .obtain⟨m,rfl⟩:=hc;rw[WD]at h;split at h
   .rename_i x fz eq r' e;cases h;obtain⟨u,h1,h2⟩:=KA hS f (S.fl m) _ ⟨x,fz,eq⟩ r e heq;refine⟨u,h1,λR hR=>?_⟩;have:=h2 R hR
    show jT R (A.vs u) (S.enc m (S.inj m x))
    rw[hS.Fc,hS.MM];exact this
   .cases h
  .have mQ:∀m,c≠.st m:=λm e=>hc ⟨m,e⟩
   cases c<;>first|exact aU rfl (mQ _)|cases h
def KA(hS:S.OK){H:AH S.T}:∀(f:Nat)(l:List TC)(cs:List (A S.T))(rx:Rx (HL S.T l))(r:List (A S.T)),Dn H f l cs=bc (rx,r)->xZ rx.eq ->
  ∃u,cs=u++r/\∀R,RowsIn H R rx.fz->jT R (A.vs u) (IZ S l rx.x)
 |0,_,_,_,_,h,_=>by cases h
 |_+1,[],cs,rx,r,h,_=>by cases h;exact⟨[],rfl,λR _=>.nil⟩
 |f+1,[c],cs,rx,r,h,heq=>by
  rw[Dn]at h;exact Kz hS f c cs rx r h heq
 |f+1,c::d::l,cs,rx,r,h,heq=>by
  rw[Dn]at h;split at h
  .rename_i x fz eq DM e;split at h
   .rename_i y pq DW Yv e';cases h;obtain⟨u,h1,h2⟩:=Kz hS f c cs ⟨x,fz,eq⟩ DM e heq.left;obtain⟨v,h3,h4⟩:=KA hS f (d::l) DM ⟨y,pq,DW⟩ r e' heq.right;refine⟨u++v,by rw[h1,h3,gO],λR hR=>?_⟩;rw[Jg];exact aaF (h2 R hR.left) (h4 R hR.right)
   .cases h
  .cases h
end
def zbp(hS:S.OK){H:AH S.T}{c:TC}{a:A S.T}{rx:Rx (c.ty S.T)}(h:YS H c a=bc rx)(heq:xZ rx.eq){R:ax}(hR:RowsIn H R rx.fz):av R a.v (vt S c rx.x):=by
 unfold YS at h;split at h
 .rename_i IP e;cases h;exact AV e heq hR
 .split at h
  .rename_i cs
   cases c<;>first|(cases h;done)|skip
   rename_i m;simp only[S6]at h;split at h
   .rename_i IP e;cases h;obtain⟨u,h1,h2⟩:=Kz hS _ _ _ _ _ e heq;rw[bM]at h1;subst h1;exact .agg (h2 R hR)
   .cases h
  .cases h
def zBk(hS:S.OK):∀(c:TC)(x:c.ty S.T),wi (AQ S c x)=[]
 |.i _,_=>rfl
 |.b,_=>rfl
 |.s,_=>rfl
 |.y,_=>rfl
 |.a _ _,x=>by cases x<;>rfl
 |.l _,_=>rfl
 |.m _ _,_=>rfl
 |.st n,x=>hS.refs n x
def zUs(hS:S.OK){a:List V}{c:TC}{x:c.ty S.T}(h:jT [] a (AQ S c x)):y8 a (AQ S c x):=λZ l hl=>by
 let m0:M:=λ_ _=>bh
 have h1:zG (bc m0) Z a l:=hl.up (λ_ _ e=>e) (λf e=>by cases e);have h2:=jT.rep (m:=m0) (Z:=Z) (w:=default) (F:=[]) (λk t sz fz els e=>by cases e) h h1;exact zG.flat _ _ (zBk hS c x) h2
def zl5{c:TC}{a:A S.T}{rx:Rx (c.ty S.T)}(h:Bx [] c a=bc rx):rx.fz=[]/\rx.eq=[]:=by
 unfold Bx at h;split at h
 .split at h
  .cases h;exact⟨rfl,rfl⟩
  .cases h
 .cases c<;>first|(cases h;done)|(cases h;exact⟨rfl,rfl⟩)
 .cases c<;>first|(cases h;done)|(cases h;exact⟨rfl,rfl⟩)
 .cases c<;>first|(cases h;done)|(simp only[F5,AH.get]at h;cases h)
 .cases c<;>first|(cases h;done)|(simp only[F5,AH.get]at h;cases h)
 .exact(zL7 h).2
 .cases h
mutual
def VB:∀(f:Nat)(c:TC)(cs:List (A S.T))(rx:Rx (c.ty S.T))(r:List (A S.T)),WD [] f c cs=bc (rx,r)->rx.fz=[]/\rx.eq=[]
 |0,_,_,_,_,h=>by cases h
 |f+1,c,cs,rx,r,h=>by
  by_cases hc:∃m,c=.st m
  .obtain⟨m,rfl⟩:=hc;rw[WD]at h;split at h
   .rename_i x fz eq r' e;cases h;exact zl6 f (S.fl m) _ ⟨x,fz,eq⟩ r e
   .cases h
  .have mQ:∀m,c≠.st m:=λm e=>hc ⟨m,e⟩
   cases cs with
   |nil=>cases c<;>first|exact aU rfl (mQ _)|cases h
   |cons a r0 =>
    have h':(match Bx [] c a with|some rx=>bc (rx,r0)|none=>bh)=bc (rx,r):=by
     cases c<;>first|exact aU rfl (mQ _)|exact h
    split at h'
    .rename_i IP e;cases h';exact zl5 e
    .cases h'
def zl6:∀(f:Nat)(l:List TC)(cs:List (A S.T))(rx:Rx (HL S.T l))(r:List (A S.T)),Dn [] f l cs=bc (rx,r)->rx.fz=[]/\rx.eq=[]
 |0,_,_,_,_,h=>by cases h
 |_+1,[],cs,rx,r,h=>by cases h;exact⟨rfl,rfl⟩
 |f+1,[c],cs,rx,r,h=>by
  rw[Dn]at h;exact VB f c cs rx r h
 |f+1,c::d::l,cs,rx,r,h=>by
  rw[Dn]at h;split at h
  .rename_i x fz eq DM e;split at h
   .rename_i y pq DW Yv e';cases h;obtain⟨h1,h2⟩:=VB f c cs ⟨x,fz,eq⟩ DM e;obtain⟨h3,h4⟩:=zl6 f (d::l) DM ⟨y,pq,DW⟩ r e';exact⟨by rw[show fz=[] from h1,show pq=[] from h3];rfl,by rw[show eq=[] from h2,show DW=[] from h4];rfl⟩
   .cases h
  .cases h
end
def Wv(hS:S.OK){f:Nat}{c:TC}{cs:List (A S.T)}{rx:Rx (c.ty S.T)}(h:WD [] f c cs=bc (rx,[])):y8 (A.vs cs) (AQ S c rx.x):=by obtain⟨h1,h2⟩:=VB _ _ _ _ _ h;obtain⟨u,e1,e2⟩:=Kz hS _ _ _ _ _ h (by rw[h2];intro p hp;cases hp);rw[bM]at e1;subst e1;exact zUs hS (e2 [] (by rw[h1];intro k hk;cases hk))
end
end Go.EQ
namespace Go.EV
open Go Go.RowKit Go.iE
section
variable{P:bm}{ρ:Env}{dst:Option Tmp}{ty:bA}{pos:String}{aft:Array Edge}{gd:Option (Nat×Bool)}
def Step.ν{m:M}{Z:ZM}{w:bE}{R:ax}{d e sz:Nat}(gp:0<sz)(hs:wo m Z R w)(lh:∀L,m d L=bh)(hd:d ∉ keys R):
  ∃m',Step m Z R w m' Z ((d,.row e sz 0 [])::R) w/\m' d 0=bc (0,0):=by
 let m':M:=λk' L=>if k'=d/\L=0 then bc (0,0)else m k' L
 have h1:m' d 0=bc (0,0):=by simp[m']
 have h2:∀k L loc,m k L=bc loc->m' k L=bc loc:=λk L loc e=>by
  by_cases hc:k=d/\L=0
  .obtain⟨rfl,rfl⟩:=hc;rw[lh]at e;cases e
  .simp only[m',aO hc];exact e
 have hs0:wo m Z [] w:=⟨hs.frozen,λp hp=>(by cases hp),dG,λp hp=>(by cases hp)⟩
 have fS:Step m Z [] w m' Z [(d,.row e sz 0 [])] w:=by
  refine⟨⟨hs.frozen,λp hp=>?_,by simp[keys],λp hp q hq _ _ _=>?_⟩,h2,λ_ _ e=>e,rfl,rfl,rfl,aq,λ_ _ _=>rfl,λk hk=>(by cases hk),λk hk=>?_,λp hp b hb=>?_,λ_ _ e=>.inl e⟩
  .simp only[bS]at hp;subst hp;refine .inl ⟨gp,rfl,rfl,⟨0,h1⟩,λL loc e=>?_⟩;simp only[m']at e;split at e
   .rename_i hc;omega
   .rw[lh]at e;cases e
  .simp only[bS]at hp hq;subst hp;subst hq;rfl
  .funext L
   have:k≠d:=by simpa[keys]using hk
   simp[m',this]
  .simp only[bS]at hp;subst hp;simp[fD,qZ,Obj.hO,h1]at hb
 exact⟨m',Step.sv (F:=[]) (G:=R) (F':=[(d,.row e sz 0 [])]) hs fS λp hp q hq e'=>by
  simp only[bS]at hp;subst hp;have agq:d=q.1:=e'
  exact hd (by rw[agq];exact ay hq),h1⟩
def zin{t e sz bytes n d j:Nat}{y:bB}{ys:List (List V)}{R:ax}(hT:qy P t=bc (e,sz,bytes))(hx:a_ ρ (.tmp j)=.gR)(Sp:y≠.tmp j)(hy:Src sz R (a_ ρ y) ys)
  (h1:∀c∈ys,c.all V.one=bg) (nd:∀c∈ys,c.length=sz) (RR:jW d R=bd) (hn:ys.length=n) (hlen:n*bytes<=140737488355328) (sC:n<=9223372036854775807):
  Loc P ⟨dst,.call ⟨.builtin .append,#[.tmp j,y],#[t,t]⟩,ty,pos,aft,gd⟩ ρ R (.sl sz d n 0 n) ((d,.row e sz 0 ys)::R):=by
 intro ρr m Z w bT hs lh
 have lf:d ∉ keys R:=λh=>by rw[yK.2 h]at RR;cases RR
 obtain⟨_,_,_,_,_,_,_,_,h0⟩:=qz hT;obtain⟨m',fS,ry⟩:=Step.ν (e:=e) (sz:=sz) h0 hs (λL=>lh d (by simp[keys]) lf L) lf
 have hev:∀z,z≠.tmp j->a_ ((j,V.sl sz d 0 0 0)::ρ) z=a_ ρ z:=λz hz=>by
  cases z with
  |tmp t' =>
   have:t'≠j:=λe=>hz (by rw[e])
   show(bif bk t' j then _ else _)=_
   cases hb:bk t' j with
   |true=>exact aU (eb hb) this
   |false=>rfl
  |_=>rfl
 have hj:a_ ((j,V.sl sz d 0 0 0)::ρ) (.tmp j)=.sl sz d 0 0 0:=by
  show(bif bk j j then _ else _)=_
  rw[cF];rfl
 have hl:=zbi (P:=P) (ρ:=(j,V.sl sz d 0 0 0)::ρ) (dst:=dst) (ty:=ty) (pos:=pos) (aft:=aft) (gd:=gd) (k:=d) (fz:=0) (L:=0) (els:=[]) (ys:=ys) (R:=R) (e:=e) (n:=n) hT hj rfl (by rw[hev y Sp];exact hy) h1 nd RR (cl _) hn hlen sC
 refine(hl ρr m' Z w (λz hz=>?_) fS.gy (λk hk me L=>aU hk me)).mono λx w' hx=>?_
 .by_cases hzj:z=.tmp j
  .subst hzj;have:=bT (.tmp j) hz;rw[hx]at this;rw[hj];exact⟨m',_,rfl,ry,aq,bP _,.inr (.inl ⟨rfl,bh,this⟩)⟩
  .rw[hev z hzj]
   exact(bT z hz).up (λ_ _ e=>e) λf e=>by cases e;exact⟨m',rfl,fS.mM⟩
 .obtain⟨m2,Z2,st,hr⟩:=hx;exact⟨m2,Z2,fS.trans st,hr⟩
end
end Go.EV
namespace Go.EQ
open Go Go.RowKit Go.iE Go.EV
section
variable{S:lD}
def Ti(P:bm)(d t:Nat):OR S:=match zeroV P t with
 |some cs=>.one [] [] (.raw (.ptr d 0 0)) [(d,.box t (cs.map tZ))]
 |none=>.no
def YM(d t:Nat)(x:A S.T):OR S:=match x.cells with
 |some u=>.one [] [] (.raw (.ptr d 0 0)) [(d,.box t u)]
 |none=>.no
def Ps(c:TC):List (A S.T)->Option (List (c.ty S.T))
 |[]=>bc []
 |a::r=>match a.cells with
  |some u=>match WD [] 64 c u with
   |some (rx,[])=>match Ps c r with
    |some zs=>bif bk u.length (zH S c)then bc (rx.x::zs)else bh
    |none=>bh
   |_=>bh
  |none=>bh
def kK(P:bm)(E:AE S.T)(cd:Nat->Option TC)(d t n:Nat)(parts:List (Nat×bB)):OR S:=match JB P t with
 |some (e,sz)=>match cd e with
  |some c=>match Ps c (parts.map λp=>bV E p.2)with
   |some zs=>bif bk sz (zH S c)&&(cw (n*sz) 16777216&&(Gv n sz (parts.map λp=>(p.1,a_ (eV E) p.2))).isSome)then(match cd (1000000+e)with
    |none=>.one [] [] (.rh sz d n) [(d,.row e c .zero zs ⟨_,rfl⟩)]
    |some _=>.one [] [] (.gC (.l c) zs) [(d,.row e c .all zs ⟨_,rfl⟩)])else .no
   |none=>.no
  |none=>.no
 |none=>.no
def ET:bB->bB->Bool
 |.tmp a,.tmp b=>bk a b
 |_,_=>bd
def WG(P:bm)(E:AE S.T)(cd:Nat->Option TC)(d t:Nat)(x y:bB):OR S:=match qy P t,intOf (bV E x),intOf (bV E y)with
 |some (e,sz,bytes),bc (_,n),bc (_,n')=>match cd e,zeroV P e with
  |some c,bc cs=>match WD (S:=S) [] 64 c (cs.map tZ)with
   | some (rx,[])=>bif bk sz (zH S c)&&(bk cs.length sz&&(ET x y||decide (n=n')))then
     .iJ (ea (0<=n/\n*bytes<=281474976710656/\n<=9223372036854775807)) [] [] (λ_=>bc (.rh sz d (cS (bQ n) rx.x).length,[(d,.row e c .zero (cS (bQ n) rx.x) ⟨_,rfl⟩)]))
    else .no
   |_=>.no
  |_,_=>.no
 |_,_,_=>.no
def Fz.grow(n:Nat):Fz->Fz
 |.zero=>.zero
 |.all=>.pre n
 |.pre n=>.pre n
def F6(H:AH S.T)(k:Nat)(c:TC):A S.T->Option (List (c.ty S.T)×List Nat×List (Nat×Nat))
 |.gC (.l c') l=>if h:c'=c then bc ((h▸l:List (c.ty S.T)),[],[])else bh
 |.raw .gR=>bc ([],[],[])
 |.rh sz k' n=>match H.get k' with
  |some (.row _ c' _ l w)=>if h:c'=c then bif !(bk k k')&&bk sz (zH S c)then bc ((h▸l:List (c.ty S.T)),[k'],[(n,w.n)])else bh else bh
  |_=>bh
 |_=>bh
def Bh:TC->Bool
 |.m _ _=>bd
 |_=>bg
def zUt:bB->Option Nat
 |.tmp t=>bc t
 |_=>bh
def OY(P:bm)(E:AE S.T)(H:AH S.T)(cd:Nat->Option TC)(d t t':Nat)(x y:bB):OR S:=match qy P t with
 |some (e,sz,bytes)=>bif bk t t'&&cw 1 bytes then match bV E x with
  |.rh iF k n=>match H.get k with
   |some (.row e' c fz l w)=>match F6 H k c (bV E y)with
    |some (ys,kR,eq)=>bif bk e e'&&(bk iF sz&&(bk sz (zH S c)&&Bh c))then
      .eqs ((n,w.n)::eq) (.iJ (ea ((l++ys).length*bytes<=140737488355328)) [k] kR (λ_=>bc (.rh sz k (l++ys).length,[(k,.row e c (fz.grow l.length) (l++ys) ⟨_,rfl⟩)])))
     else .no
    |none=>.no
   |_=>.no
  |.raw .gR=>match cd e,zUt x with
   |some c,bc j=>match F6 H d c (bV E y)with
    |some (ys,kR,eq)=>bif bk sz (zH S c)&&(Bh c&&!(ET x y))then
      .eqs eq (.iJ (ea (ys.length*bytes<=140737488355328)) [] kR (λ_=>bc (.rh sz d ys.length,[(d,.row e c .zero ys ⟨_,rfl⟩)])))
     else .no
    |none=>.no
   |_,_=>.no
  |_=>.no
  else .no
 |none=>.no
def XD(a b:A S.T):OR S:=match a,b with
 |.gC .s x,.gC .s y=>.iJ (ea (bf (α:=UInt8) x+bf (α:=UInt8) y<=9223372036854775807)) [] [] (λ_=>bc (.gC .s (List.append (α:=UInt8) x y),[]))
 |_,_=>.no
section
variable{P:bm}{E:AE S.T}{H:AH S.T}{dst:Option Tmp}{ty:bA}{pos:String}{aft:Array Edge}{gd:Option (Nat×Bool)}
def zBm{d t:Nat}:(Ti (S:=S) P d t).OK P ⟨dst,.alloc t,ty,pos,aft,gd⟩ E H:=by
 unfold Ti;split
 .rename_i cs h;intro F R hF hR;cases zm hF;cases zm hR;have:=zAe (P:=P) (ρ:=eV E) (dst:=dst) (ty:=ty) (pos:=pos) (aft:=aft) (gd:=gd) (d:=d) h;simpa[hV,OA.o,Gl,A.v]using this
 .trivial
def zO8(hS:S.OK){d t:Nat}{x:bB}:(YM d t (bV E x)).OK P ⟨dst,.box t x,ty,pos,aft,gd⟩ E H:=by
 unfold YM;split
 .rename_i u h;intro F R hF hR;cases zm hF;cases zm hR;obtain⟨h1,h2⟩:=A.P9 hS h;have:=zOn (P:=P) (ρ:=eV E) (dst:=dst) (ty:=ty) (pos:=pos) (aft:=aft) (gd:=gd) (d:=d) (t:=t) (x:=x) (by rw[zJ];exact h2);rw[zJ,<- h1]at this;exact this
 .trivial
def zxi{t t':bA}{x y:bB}:(XD (bV E x) (bV E y)).OK P ⟨dst,.binOp .add t x y t',ty,pos,aft,gd⟩ E H:=by
 unfold XD;split
 .rename_i a b h1 h2;intro z hz a F' hr F R hF hR;cases hr;cases zm hF;cases zm hR;exact zw8 (by rw[zJ,h1];rfl) (by rw[zJ,h2];rfl) (yD hz)
 .trivial
def zH7{x y:bB}(h:ET x y=bg):x=y:=by
 unfold ET at h;split at h
 .rw[eb h]
 .cases h
def ziq(hS:S.OK){cd:Nat->Option TC}{d t:Nat}{x y:bB}:(WG P E cd d t x y).OK P ⟨dst,.makeSlice t x y,ty,pos,aft,gd⟩ E H:=by
 unfold WG;split
 .rename_i e sz bytes k n k' n' h1 h2 h3;split
  .rename_i c cs h4 h5;split
   .rename_i rx h6
    cases hb:bk sz (zH S c)&&(bk cs.length sz&&(ET x y||decide (n=n')))with
    |false=>trivial
    |true =>
     simp only[bn,dc]at hb;have gp:=eb hb.1;subst gp
     have hn:n'=n:=by
      rcases hb.2.2 with h|h
      .have:=zH7 h;subst this;rw[h2]at h3;cases h3;rfl
      .exact(aY h).symm
     subst hn;intro u hu a F' hr F R hF hR;cases hr;cases zm hF;cases zm hR;obtain⟨g1,g2,g3⟩:=yD hu;have hlen:(cS n'.toNat rx.x).length=n'.toNat:=aaW;refine zev (cs:=cs) (cs2:=AQ S c rx.x) h1 h5 (by rw[zJ];exact jX h2) (by rw[zJ];exact jX h3) (by rw[vG hS,eb hb.2.1];exact cF _) g1 g2 g3 ?_ hlen ?_
     .exact(abv ..).symm
     .have:=Wv hS h6;rw[Gl]at this;exact this
   .trivial
  .trivial
 .trivial
def zl7(hS:S.OK){c:TC}:∀{asZ:List (A S.T)}{zs:List (c.ty S.T)},Ps c asZ=bc zs->y8 ((A.vs asZ).map V.cells).flatten (zs.map (AQ S c)).flatten/\zs.length=asZ.length
 |[],zs,h=>by cases h;exact⟨zUl,rfl⟩
 |a::r,zs,h=>by
  simp only[Ps]at h;split at h
  .rename_i u hu;split at h
   .rename_i rx e;split at h
    .rename_i zs' e'
     cases hb:bk u.length (zH S c)with
     |false=>rw[hb]at h;cases h
     |true =>
      rw[hb]at h;cases h;obtain⟨h1,h2⟩:=zl7 hS e';obtain⟨h3,_⟩:=A.P9 hS hu;have h4:=Wv hS e;refine⟨?_,by simp[h2]⟩;simp only[A.vs,gf,cK];rw[<- h3];exact UD (by rw[qA,vG hS];exact eb hb) h4 h1
    .cases h
   .cases h
  .cases h
def zxj{P:bm}{ρ:Env}{o:Oper}{d t sz n:Nat}{els:List (List V)}(hl:EV.Loc P o ρ [] (.sl sz d n 0 n) [(d,.row t sz 0 els)])(hn:els.length=n):EV.Loc P o ρ [] (.vs sz els) [(d,.row t sz els.length els)]:=by subst hn;intro ρr m Z w bT hs lh;refine(hl ρr m Z w bT hs lh).mono ?_;rintro x w' ⟨m',Z',st,hr⟩;have fS:Step m' Z' [(d,.row t sz 0 els)] w' m' (rb m' Z' [(d,.row t sz 0 els)] w') [(d,.row t sz els.length els)] w':=Step.freeze st.gy;refine⟨m',rb m' Z' [(d,.row t sz 0 els)] w',st.trans fS,av.rep (w:=w') (F:=[(d,.row t sz els.length els)]) (λk t' iF pq BJ hg=>?_) (.row (t:=t) (fz:=els.length) (by simp[ax.get]) rfl) (hr.up fS.lR λf e=>by cases e;exact⟨m',rfl,fS.mM⟩)⟩;have hm:=ax.get_mem hg;cases bS.1 hm;exact fS.gy.holds _ (bS.2 rfl)
def qn(hS:S.OK){cd:Nat->Option TC}{d t n:Nat}{parts:List (Nat×bB)}:(kK P E cd d t n parts).OK P ⟨dst,.buildSlice t n parts.toArray,ty,pos,aft,gd⟩ E H:=by
 unfold kK;split
 .rename_i e sz h1;split
  .rename_i c h2;split
   .rename_i zs h3
    cases hb:bk sz (zH S c)&&(cw (n*sz) 16777216&&(Gv n sz (parts.map λp=>(p.1,a_ (eV E) p.2))).isSome)with
    |false=>trivial
    |true =>
     simp only[bn]at hb;have gp:=eb hb.1;subst gp;obtain⟨els,h4⟩:=Option.isSome_iff_exists.1 hb.2.2;obtain⟨h5,h6⟩:=zl7 hS h3
     have nY:els=(A.vs (parts.map λp=>bV E p.2)).map V.cells/\els.length=n:=by
      unfold Gv at h4;split at h4
      .rename_i hr;split at h4
       .cases h4;refine⟨?_,?_⟩
        .rw[xY];simp only[cW]
         exact fc λp _=>by simp[zJ]
        .have:=aQ bf hr;simpa using this
       .cases h4
      .cases h4
     have FL:(zs.map (AQ S c)).length=els.length:=by rw[nY.1];simp[qA,h6]
     suffices PQ:EV.Loc P ⟨dst,.buildSlice t n parts.toArray,ty,pos,aft,gd⟩ (eV E) [] (.sl (zH S c) d n 0 n) [(d,.row e (zH S c) 0 (zs.map (AQ S c)))] by
      simp only[aH];split
      .intro F R hF hR;cases zm hF;cases zm hR;exact PQ
      .intro F R hF hR;cases zm hF;cases zm hR;have:=zxj PQ (by rw[FL];exact nY.2);simpa[hV,OA.o,Fz.n,A.v,vt]using this
     refine zbk (fl:=els.flatten) (fl2:=(zs.map (AQ S c)).flatten) h1 hb.2.1 h4 rfl rfl (by rw[nY.1];exact h5) (by rw[FL];exact cF _) ?_ rfl
     exact bj.2 λy hy=>by obtain⟨z,_,rfl⟩:=bz.1 hy;rw[vG hS];exact cF _
   .trivial
  .trivial
 .trivial
def zUu{c:TC}(h:Bh c=bg):∀k e,c≠.m k e:=λk e e'=>by subst e';cases h
def XE(hS:S.OK){k:Nat}{c:TC}{y:bB}{ys:List (c.ty S.T)}{kR:List Nat}{eq:List (Nat×Nat)}(h:F6 H k c (bV E y)=bc (ys,kR,eq))(heq:xZ eq){R:AH S.T}(hR:qL kR H=bc R):
  Src (zH S c) (hV R) (a_ (eV E) y) (ys.map (AQ S c))/\AH.has k R=bd:=by
 rw[zJ];unfold F6 at h;split at h
 .rename_i c' l e1;split at h
  .rename_i e;subst e;cases h;cases zm hR;rw[e1];exact⟨.vs _,rfl⟩
  .cases h
 .rename_i e1;cases h;cases zm hR;rw[e1];exact⟨.gR,rfl⟩
 .rename_i sz k' n e1;split at h
  .rename_i e' c' fz l wl hg;split at h
   .rename_i e;subst e
    cases hb:!(bk k k')&&bk sz (zH S c')with
    |false=>rw[hb]at h;cases h
    |true =>
     rw[hb]at h;cases h;simp only[bn,bW]at hb;have gp:=eb hb.2;subst gp;cases wx hg hR;rw[e1];have hn:n=l.length:=(heq _ (bS.2 rfl)).trans wl.h.symm;refine⟨.sl (t:=e') (fz:=fz.n l.length) ?_ (by rw[bL];exact hn),?_⟩
     .simp[hV,ax.get,OA.o,cF]
     .simp[AH.has,hb.1]
   .cases h
  .cases h
 .cases h
def zf1(hS:S.OK){cd:Nat->Option TC}{d t t':Nat}{x y:bB}:(OY P E H cd d t t' x y).OK P ⟨dst,.call ⟨.builtin .append,#[x,y],#[t,t']⟩,ty,pos,aft,gd⟩ E H:=by
 unfold OY;split
 .rename_i e sz bytes h1
  cases mV:bk t t'&&cw 1 bytes with
  |false=>trivial
  |true =>
   simp only[bn]at mV;have htt:=eb mV.1;subst htt;have M4:=lb mV.2
   have adB:∀(c:TC)(ys:List (c.ty S.T)),(∀k e,c≠.m k e)->∀u∈ys.map (AQ S c),u.all V.one=bg:=λc ys hm u hu=>by obtain⟨z,_,rfl⟩:=bz.1 hu;exact zBc hS c z hm
   have lens:∀(c:TC)(ys:List (c.ty S.T)),∀u∈ys.map (AQ S c),u.length=zH S c:=λc ys u hu=>by obtain⟨z,_,rfl⟩:=bz.1 hu;exact vG hS c z
   dsimp only[aH];split
   .rename_i iF k n e1;split
    .rename_i e' c fz l wl hg;split
     .rename_i ys kR eq h2
      cases hb:bk e e'&&(bk iF sz&&(bk sz (zH S c)&&Bh c))with
      |false=>trivial
      |true =>
       simp only[bn]at hb;have q1:=eb hb.1;have q2:=eb hb.2.1;have q3:=eb hb.2.2.1;have hm:=zUu hb.2.2.2;subst q1;subst q2;subst q3;intro heq u hu a F' hr F R hF hR;cases hr;cases wx hg hF;have hn:n=l.length:=(heq _ al).trans wl.h.symm;obtain⟨g1,g2⟩:=XE hS h2 (λp hp=>heq p (gq _ hp)) hR;have tT:=yD hu;have sC:=cR (aa3 (l++ys).length M4) tT;have hl:=zbi (P:=P) (ρ:=eV E) (dst:=dst) (ty:=ty) (pos:=pos) (aft:=aft) (gd:=gd) (k:=k) (fz:=fz.n l.length) (L:=n) (els:=l.map (AQ S c)) (ys:=ys.map (AQ S c)) (R:=hV R) (n:=(l++ys).length) (all:=(l++ys).map (AQ S c)) h1 (by rw[zJ,e1];rfl) (by rw[bL];exact hn.symm) g1 (adB c ys hm) (lens c ys) (by rw[og];exact g2) (cG ..).symm (by rw[bL]) tT ab
       have hz:Fz.n (l++ys).length (fz.grow l.length)=fz.n l.length:=by cases fz<;>rfl
       show EV.Loc P _ _ _ _ ((k,.row e (zH S c) (Fz.n (l++ys).length (fz.grow l.length)) ((l++ys).map (AQ S c)))::hV R)
       rw[hz];exact hl
     .trivial
    .trivial
   .rename_i e1;split
    .rename_i c j h2 h3;split
     .rename_i ys kR eq h4
      cases hb:bk sz (zH S c)&&(Bh c&&!(ET x y))with
      |false=>trivial
      |true =>
       simp only[bn,bW]at hb;have q1:=eb hb.1;subst q1;have hm:=zUu hb.2.1;intro heq u hu a F' hr F R hF hR;cases hr;cases zm hF;obtain⟨g1,g2⟩:=XE hS h4 heq hR;have tT:=yD hu;have sC:=cR (aa3 ys.length M4) tT
       have hx:x=.tmp j:=by
        cases x<;>simp only[zUt]at h3<;>first|(cases h3;done)|(cases h3;rfl)
       subst hx
       have Sp:y≠.tmp j:=λe=>by subst e;simp[ET,cF]at hb
       have hl:=zin (P:=P) (ρ:=eV E) (dst:=dst) (ty:=ty) (pos:=pos) (aft:=aft) (gd:=gd) (d:=d) (ys:=ys.map (AQ S c)) (R:=hV R) (n:=ys.length) h1 (by rw[zJ,e1];rfl) Sp g1 (adB c ys hm) (lens c ys) (by rw[og];exact g2) (by rw[bL]) tT ab;exact hl
     .trivial
    .trivial
   .trivial
 .trivial
end
end
section
variable{S:lD}
def WM(P:bm)(cd:Nat->Option TC)(d t:Nat):OR S:=match tG P t with
 |some (kt,et)=>match cd kt,cd et with
  |some kc,bc ec=>.one [] [] (.raw (.mp d)) [(d,.map kc ec [])]
  |_,_=>.no
 |none=>.no
def T_(kc ec:TC)[DecidableEq (kc.ty S.T)](k:Nat)(l:List (kc.ty S.T×ec.ty S.T))(a:kc.ty S.T)(z:ec.ty S.T)(co:Bool):OR S:=.one [] [k] (bif co then .gu [.gC ec ((xh a l).getD z),.gC .b (xh a l).isSome]else .gC ec ((xh a l).getD z)) []
def ZI(kc ec:TC)[DecidableEq (kc.ty S.T)](k:Nat)(l:List (kc.ty S.T×ec.ty S.T))(a:kc.ty S.T)(b:ec.ty S.T):OR S:=.one [k] [] (.raw .no) [(k,.map kc ec (oV a b l))]
def td:DecidableEq (TC.ty S.T .s):=inferInstanceAs (DecidableEq ak)
def Nt(k:IntKind):DecidableEq (TC.ty S.T (.i k)):=inferInstanceAs (DecidableEq Int)
def Xu(P:bm)(H:AH S.T)(t:Nat)(x ix:A S.T)(co:Bool):OR S:=match tG P t with
 |some (kt,et)=>match x,GF P et with
  |.raw (.mp k),bc zv=>match H.get k,ix with
   |some (.map .s ec l),.gC .s a=>match P.underlying kt,YS [] ec (sJ zv)with
    |some .string,bc rx=>@T_ S .s ec td k l a rx.x co
    |_,_=>.no
   |some (.map (.i q) ec l),.gC (.i q') a=>match P.underlying kt,YS [] ec (sJ zv)with
    |some (.int Ca),bc rx=>if q'=q/\Ca=q then @T_ S (.i q) ec (Nt q) k l a rx.x co else .no
    |_,_=>.no
   |_,_=>.no
  |_,_=>.no
 |none=>.no
def NP:A S.T->A S.T
 |.raw (.bool b)=>.gC .b b
 |a=>a
def Xv(a:A S.T):(NP a).v=a.v:=by
 unfold NP;split
 .rfl
 .rfl
def KB(P:bm)(H:AH S.T)(t:Nat)(x ix y:A S.T):OR S:=match tG P t with
 |some (kt,_)=>match x,NP y with
  |.raw (.mp k),.gC pY b=>match H.get k,ix with
   |some (.map .s ec l),.gC .s a=>match P.underlying kt with
    |some .string=>if h:pY=ec then @ZI S .s ec td k l a (h▸b)else .no
    |_=>.no
   |some (.map (.i q) ec l),.gC (.i q') a=>match P.underlying kt with
    |some (.int Ca)=>if h:pY=ec then(if q'=q/\Ca=q then @ZI S (.i q) ec (Nt q) k l a (h▸b)else .no)else .no
    |_=>.no
   |_,_=>.no
  |_,_=>.no
 |none=>.no
section
variable{P:bm}{E:AE S.T}{H:AH S.T}{dst:Option Tmp}{ty:bA}{pos:String}{aft:Array Edge}{gd:Option (Nat×Bool)}
def oi(hS:S.OK):∀(c:TC)(x:c.ty S.T),(vt S c x).refs=[]
 |.i _,_=>rfl
 |.b,_=>rfl
 |.s,_=>rfl
 |.y,_=>rfl
 |.a _ _,x=>by cases x<;>rfl
 |.l _,_=>rfl
 |.m _ _,_=>rfl
 |.st n,x=>by simp only[vt,V.refs];exact hS.refs n x
def akx(hS:S.OK){v:V}{c:TC}{x:c.ty S.T}(h:av [] v (vt S c x))(m:Option M)(Z:ZM)(y:bu)(hr:aV m Z v y):aV m Z (vt S c x) y:=by
 cases m with
 |some m=>exact av.rep (w:=default) (λk t sz fz els e=>by cases e) h hr
 |none =>
  let m0:M:=λ_ _=>bh
  have h1:aV (bc m0) Z v y:=hr.DI;exact aV.flat _ _ (oi hS c x) (av.rep (w:=default) (λk t sz fz els e=>by cases e) h h1)
def zq2{cd:Nat->Option TC}{d t:Nat}:(WM (S:=S) P cd d t).OK P ⟨dst,.makeMap t bh,ty,pos,aft,gd⟩ E H:=by
 unfold WM;split
 .split
  .intro F R hF hR;cases zm hF;cases zm hR;exact zbd
  .trivial
 .trivial
def ztx{kc ec:TC}(D:DecidableEq (kc.ty S.T)){val:kc.ty S.T->bu}{t kt et k:Nat}{x ix:bB}{l:List (kc.ty S.T×ec.ty S.T)}{a:kc.ty S.T}{z:ec.ty S.T}{zv:V}(co:Bool)(hT:tG P t=bc (kt,et))(K:ER P kt (vt S kc) val)(hz:GF P et=bc zv)
  (Ss:∀(m:Option M)(Z:ZM)(y:bu),aV m Z zv y->aV m Z (vt S ec z) y) (hx:bV E x=.raw (.mp k)) (hi:(bV E ix).v=vt S kc a) (hg:H.get k=bc (.map kc ec l)):(T_ kc ec k l a z co).OK P ⟨dst,.lookup t x ix co,ty,pos,aft,gd⟩ E H:=by
 intro F R hF hR;cases zm hF;cases wx hg hR;have:=zfu (P:=P) (ρ:=eV E) (dst:=dst) (ty:=ty) (pos:=pos) (aft:=aft) (gd:=gd) (x:=x) (ix:=ix) (l:=l) (a:=a) co hT K hz Ss (by rw[zJ,hx];rfl) (by rw[zJ];exact hi)
 cases co with
 |true=>exact this
 |false=>exact this
def zBn(hS:S.OK){kc ec:TC}(D:DecidableEq (kc.ty S.T)){val:kc.ty S.T->bu}{t kt et k:Nat}{x ix y:bB}{l:List (kc.ty S.T×ec.ty S.T)}{a:kc.ty S.T}{b:ec.ty S.T}(hT:tG P t=bc (kt,et))(K:ER P kt (vt S kc) val)
  (hx:bV E x=.raw (.mp k)) (hi:(bV E ix).v=vt S kc a) (hy:(bV E y).v=vt S ec b) (hg:H.get k=bc (.map kc ec l)):(ZI kc ec k l a b).OK P ⟨dst,.mapUpdate t x ix y,ty,pos,aft,gd⟩ E H:=by intro F R hF hR;cases zm hR;cases wx hg hF;exact aau (P:=P) (ρ:=eV E) (dst:=dst) (ty:=ty) (pos:=pos) (aft:=aft) (gd:=gd) (x:=x) (ix:=ix) (y:=y) (l:=l) (a:=a) (c:=b) hT K (by rw[zJ,hx];rfl) (by rw[zJ];exact hi) (by rw[zJ];exact hy) (oi hS ec b) (oi hS kc a)
def UE(hS:S.OK){ec:TC}{zv:V}{rx:Rx (ec.ty S.T)}(h:YS [] ec (sJ zv)=bc rx)(m:Option M)(Z:ZM)(y:bu)(hr:aV m Z zv y):aV m Z (vt S ec rx.x) y:=by
 have h0:rx.fz=[]/\rx.eq=[]:=by
  unfold YS at h;split at h
  .rename_i IP e;cases h;exact zl5 e
  .split at h
   .cases ec<;>first|(cases h;done)|skip
    simp only[S6]at h;split at h
    .rename_i IP e;cases h;exact VB _ _ _ _ _ e
    .cases h
   .cases h
 have hv:=zbp hS (R:=[]) h (by rw[h0.2];intro p hp;cases hp) (by rw[h0.1];intro k hk;cases hk);rw[I0]at hv;exact akx hS hv m Z y hr
def zxl(hS:S.OK){t:Nat}{x ix:bB}{co:Bool}:(Xu P H t (bV E x) (bV E ix) co).OK P ⟨dst,.lookup t x ix co,ty,pos,aft,gd⟩ E H:=by
 unfold Xu;split
 .rename_i kt et hT;split
  .rename_i k zv hx hz;split
   .rename_i ec l a hg hi;split
    .rename_i rx hk hd;exact ztx (val:=λs:ak=>.string ⟨s.toArray⟩) td co hT (Vy hk) hz (UE hS hd) hx (by rw[hi];rfl) hg
    .trivial
   .rename_i q ec l q' a hg hi;split
    .rename_i Ca rx hk hd;split
     .rename_i hq;obtain⟨rfl,rfl⟩:=hq;exact ztx (val:=λn:Int=>.int Ca n) (Nt Ca) co hT (zly hk) hz (UE hS hd) hx (by rw[hi];rfl) hg
     .trivial
    .trivial
   .trivial
  .trivial
 .trivial
def aao(hS:S.OK){t:Nat}{x ix y:bB}:(KB P H t (bV E x) (bV E ix) (bV E y)).OK P ⟨dst,.mapUpdate t x ix y,ty,pos,aft,gd⟩ E H:=by
 unfold KB;split
 .rename_i kt et hT;split
  .rename_i k pY b hx hy;split
   .rename_i ec l a hg hi;split
    .rename_i hk;split
     .rename_i e;subst e;exact zBn hS (val:=λs:ak=>.string ⟨s.toArray⟩) td hT (Vy hk) hx (by rw[hi];rfl) (by rw[<- Xv,hy];rfl) hg
     .trivial
    .trivial
   .rename_i q ec l q' a hg hi;split
    .rename_i Ca hk;split
     .rename_i e;subst e;split
      .rename_i hq;obtain⟨rfl,rfl⟩:=hq;exact zBn hS (val:=λn:Int=>.int Ca n) (Nt Ca) hT (zly hk) hx (by rw[hi];rfl) (by rw[<- Xv,hy];rfl) hg
      .trivial
     .trivial
    .trivial
   .trivial
  .trivial
 .trivial
def zBo(hS:S.OK){t:Nat}{x y:bB}:(Tf P H t (bV E x) (bV E y)).OK P ⟨dst,.store t x y,ty,pos,aft,gd⟩ E H:=by
 unfold Tf;split
 .trivial
 .rename_i u hu;obtain⟨c1,c2⟩:=A.P9 hS hu;split
  .rename_i k off e;split
   .rename_i bt cs hg
    cases hb:(A.vs u).all V.one&&(Ho P t u.length&&cw (off+u.length) cs.length)with
    |false=>trivial
    |true =>
     simp only[bn]at hb;intro F R hF hR;cases zm hR;cases wx hg hF;have hl:=zAd (P:=P) (ρ:=eV E) (dst:=dst) (ty:=ty) (pos:=pos) (aft:=aft) (gd:=gd) (t:=t) (k:=k) (off:=off) (bt:=bt) (a:=x) (x:=y) (cs:=A.vs cs) (by rw[zJ,e];rfl) (by rw[zJ];exact c2) (by rw[zJ,<- c1];exact hb.1) (by rw[zJ,<- c1,qA];exact hb.2.1) (by rw[zJ,<- c1,qA,qA];exact lb hb.2.2);rw[zJ,<- c1,qA]at hl
     show EV.Loc P _ _ [(k,.box bt (A.vs cs))] .no [(k,.box bt (A.vs (cs.take off++u++cs.drop (off+u.length))))]
     rw[Jg,Jg,xY (cs.take off),xY (cs.drop _),dZ,fg,<- xY];exact hl
   .trivial
  .rename_i k L i off sz e;split
   .rename_i et c l wl hg
    cases hb:bk sz (zH S c)&&(Ho P t u.length&&((A.vs u).all V.one&&(bV E y).v.refs.isEmpty))with
    |false=>trivial
    |true =>
     simp only[bn]at hb;have gp:=eb hb.1;subst gp;intro heq z hz a F' hr F R hF hR;have hL:L=l.length:=(heq _ (bS.2 rfl)).trans wl.h.symm;dsimp only at hr;split at hr
     .rename_i cs l7;split at hr
      .rename_i aci pq DW hd
       cases lj:cw (off+u.length) (zH S c)with
       |false=>rw[lj]at hr;cases hr
       |true =>
        rw[lj]at hr;cases hr;cases zm hR;cases wx hg hF;have hw:=Wv hS hd;have adm:=ZS hS _ _ _ _ l7;have alw:=lb lj;have hlen:=vG hS c z
        have lk:cs.length=zH S c:=by rw[<- hlen,<- adm,qA]
        have CR:(a_ (eV E) y).refs=[]:=by rw[zJ];exact eF.1 hb.2.2.2
        refine zih (et:=et) (sz:=zH S c) (fz:=0) (L:=L) (off:=i*zH S c+off) (cs:=AQ S c z) (c1:=A.vs (cs.take off++u++cs.drop (off+u.length))) (c2:=AQ S c aci) i off (by rw[zJ,e];rfl) (by rw[hL,bL]) rfl (by rw[cC,hz];rfl) (bP _)
         (by rw[zJ];exact c2) (by rw[zJ,<- c1];exact hb.2.2.1) CR (by rw[zJ,<- c1,qA];exact hb.2.1) (by rw[zJ,<- c1,qA];exact lj) ?_ hw ?_ (List.map_set ..).symm
        .rw[zJ,<- c1,Jg,Jg,xY (cs.take off),xY (cs.drop _),dZ,fg,<- xY,adm,qA]
        .rw[qA,vG hS]
         have:(cs.take off++u++cs.drop (off+u.length)).length=zH S c:=by simp only[la,bX,bU];omega
         rw[this];exact cF _
      .cases hr
     .cases hr
   .trivial
  .trivial
end
end
end Go.EQ
namespace Go.EV
open Go Go.RowKit Go.iE
def ai2:Obj->Obj
 |.kg g ob cs=>.kg g ob cs
 |_=>.gen gone
def Dp(F:ax):ax:=F.map λp=>(p.1,ai2 p.2)
def tf(v:bu):PanicEntry:={ v,recovered:=bd }
def WH(F:ax):keys (Dp F)=keys F:=by simp[keys,Dp]
def zf2{F:ax}{p:Nat×Obj}(hp:p∈F)(h:La p=bg):p∈Dp F:=by
 refine bz.2 ⟨p,hp,?_⟩;obtain⟨k,o⟩:=p
 cases o<;>first|rfl|(cases h;done)
def VD{F:ax}{p:Nat×Obj}(hp:p∈Dp F):(∃k,p=(k,.gen gone))∨(p∈F/\∃k g ob cs,p=(k,.kg g ob cs)):=by
 obtain⟨q,hq,rfl⟩:=bz.1 hp;obtain⟨k,o⟩:=q
 cases o with
 |kg g ob cs=>exact .inr ⟨hq,k,g,ob,cs,rfl⟩
 |_=>exact .inl ⟨k,rfl⟩
def zH9{m:M}{Z:ZM}{w:bE}{k g:Nat}{ob:Go.Obj}{cs:List V}(h:Holds m Z w k (.kg g ob cs)):fD m (k,.kg g ob cs) g:=by
 show qZ m (k,.kg g ob cs)=bc g
 simp[qZ,Obj.hO,h.1]
def KG(GK H:ax):Prop:=∀p∈GK,La p=bg->p∈H
structure sa(m:M)(Z:ZM)(F:ax)(w:bE)(Z':ZM)(w':bE):Prop where
 frozen:∀a x,Z' a=bc x->w'.cell? a=bc x
 lR:∀a x,Z a=bc x->Z' a=bc x
 os:w'.os=w.os
 tape:w'.tape=w.tape
 output:w'.output=w.output
 size:w.heap.size<=w'.heap.size
 frame:∀b,b<w.heap.size->(∀p∈F,¬fD m p b)->w'.heap[b]?=w.heap[b]?
 mB:∀a x,Z' a=bc x->Z a=bc x∨w.heap.size<=a.block∨∃q∈F,fD m q a.block
 kg:∀k g ob cs,(k,.kg g ob cs)∈F->w'.heap[g]?=w.heap[g]?
def sa.step{m:M}{Z Z':ZM}{F:ax}{w w':bE}(hs:wo m Z F w)(h:sa m Z F w Z' w'):Step m Z F w m Z' (Dp F) w':=by
 refine⟨⟨h.frozen,λp hp=>?_,by rw[WH];exact hs.nodup,λp hp q hq b h1 h2=>?_⟩,λ_ _ _ e=>e,h.lR,h.os,h.tape,h.output,h.size,h.frame,λk hk=>by rw[WH];exact hk,λ_ _=>rfl,λp hp b hb=>?_,h.mB⟩
 .rcases VD hp with⟨k,rfl⟩|⟨hm,k,g,ob,cs,rfl⟩
  .trivial
  .obtain⟨h1,⟨h2,cur,u,fr,h3,h4⟩,h5⟩:=hs.holds _ hm;exact⟨h1,⟨(h.kg k g ob cs hm).trans h2,cur,u,fr,h3,h4.up h.lR (λf e=>by cases e)⟩,h5⟩
 .rcases VD hp with⟨k,rfl⟩|⟨hm,_⟩
  .exact h1.elim
  .rcases VD hq with⟨k,rfl⟩|⟨sX,_⟩
   .exact h2.elim
   .exact hs.nW p hm q sX b h1 h2
 .rcases VD hp with⟨k,rfl⟩|⟨hm,_⟩
  .exact hb.elim
  .exact .inr ⟨p,hm,hb⟩
def Step.lost{m m':M}{Z Z':ZM}{F F':ax}{w w':bE}(h:Step m Z F w m' Z' F' w')(hg:∀k g ob cs,(k,.kg g ob cs)∈F->w'.heap[g]?=w.heap[g]?):sa m Z F w Z' w':=⟨h.gy.frozen,h.lR,h.os,h.tape,h.output,h.size,h.frame,h.mB,hg⟩
def Ff(P:bm)(f:FuncId)(args:List V)(F:ax)(v:bu):Prop:=
 ∀w m Z vals,wo m Z F w->zG (bc m) Z args vals->(∀k,k ∉ keys F->∀L,m k L=bh) ->
  Calls P f vals.toArray w λen w'=>en=.panicked [tf v]/\∃Z',sa m Z F w Z' w'
def I4(P:bm)(o:Oper)(ρr:yC)(w:bE)(R:bu->bE->Prop):Prop:=
 jV o.op=bg/\((∃v w',(ca (ev ρr) o).run P w=.halt (.panic v) w'/\R v w') ∨
  ∃f args w1,(ca (ev ρr) o).run P w=.ok (.enter f args) w1/\Calls P f args w1 λen w'=>∃v,en=.panicked [tf v]/\R v w')
def Cg(P:bm)(o:Oper)(ρ:Env)(F:ax)(v:bu):Prop:=
 ∀ρr m Z w,(∀x∈o.op.operands,aV (bc m) Z (a_ ρ x) (ev ρr x))->wo m Z F w->I4 P o ρr w λx w'=>x=v/\∃Z',sa m Z F w Z' w'
section
variable{P:bm}{f:FuncId}{args:List V}{F R:ax}{v:bu}{ρ:Env}
def I4.mono{o:Oper}{ρr:yC}{w:bE}{R R':bu->bE->Prop}(h:I4 P o ρr w R)(hm:∀x w',R x w'->R' x w'):I4 P o ρr w R':=by
 refine⟨h.1,?_⟩
 rcases h.2 with⟨x,w',h1,h2⟩|⟨g,args,w1,h1,h2⟩
 .exact .inl ⟨x,w',h1,hm _ _ h2⟩
 .exact .inr ⟨g,args,w1,h1,Calls.mono h2 λ_ _ ⟨x,e,hr⟩=>⟨x,e,hm _ _ hr⟩⟩
def Ff.at{σ:Nat->Nat}(h:Ff P f args F v)(sw:nodupB ((keys F).map σ)=bg)(lk:AA args F=bg):
  ∀w m Z vals,wo m Z (JF σ F) w->zG (bc m) Z (nS σ args) vals ->
   Calls P f vals.toArray w λen w'=>en=.panicked [tf v]/\∃Z',sa m Z (JF σ F) w Z' w':=by
 intro w m Z vals hs hv;simp only[AA,bn]at lk;have y3:∀{a b:Nat},a∈keys F->b∈keys F->σ a=σ b->a=b:=S8 (yj sw)
 let mc:M:=λk L=>if k∈keys F then m (σ k) L else bh
 have rz:∀k∈keys F,mc k=m (σ k):=λk hk=>by funext L;simp[mc,hk]
 have E5:∀k,k ∉ keys F->∀L,mc k L=bh:=λk hk L=>by simp[mc,hk]
 have nL:∀p∈F,fD mc p=fD m (σ p.1,p.2.dW σ):=λp hp=>Lx (rz p.1 (ay hp))
 have gV:∀p∈F,(σ p.1,p.2.dW σ)∈JF σ F:=λp hp=>bz.2 ⟨p,hp,rfl⟩
 have IE:wo mc Z F w:=by
  refine⟨hs.frozen,λp hp=>?_,?_,λp hp q hq b h1 h2=>?_⟩
  .have hh:=hs.holds _ (gV p hp);have hk:=rz p.1 (ay hp);obtain⟨k,o⟩:=p
   cases o with
   |box t cs =>
    obtain⟨b,cur,h1,h2,h3,h4,h5⟩:=hh;refine⟨b,cur,by rw[hk];exact h1,h2,zG.sT σ cs _ (λj hj L loc e=>?_) h3,h4,by rw[hk];exact h5⟩;have:=(bj.1 lk.2) _ hp;have:=(bj.1 this) j hj;rw[rz j (by simpa using this)];exact e
   |row t sz fz els =>
    rcases hh with⟨h1,h2,h3,⟨b,h4⟩,h5⟩|⟨b,cap,cur,fr,h1,h2⟩
    .exact .inl ⟨h1,h2,h3,⟨b,by rw[hk];exact h4⟩,by rw[hk];exact h5⟩
    .exact .inr ⟨b,cap,cur,fr,by rw[hk];exact h1,by rw[hk];exact h2⟩
   |map l =>
    obtain⟨b,es,clock,h1,h2⟩:=hh;exact⟨b,es,clock,by rw[hk];exact h1,by rw[hk];exact h2⟩
   |kg g t cs=>exact⟨by rw[hk];exact hh.1,hh.2.1,by rw[hk];exact hh.2.2⟩
   |nest t e sz pd ls =>
    show q9 (mc k) _ _ t e sz pd ls
    rw[hk];exact hh
   |gen G =>
    show G.holds (mc k) _ _
    rw[hk];exact hh
  .have:=hs.nodup;rw[ve]at this;exact wj _ this
  .rw[nL p hp]at h1;rw[nL q hq]at h2;exact y3 (ay hp) (ay hq) (hs.nW _ (gV p hp) _ (gV q hq) b h1 h2)
 refine Calls.mono (h w mc Z vals IE (zG.sT σ args vals (λj hj L loc e=>?_) hv) E5) ?_
 .have:=(bj.1 lk.1) j hj;rw[rz j (by simpa using this)];exact e
 rintro en w' ⟨he,Z',hl⟩;refine⟨he,Z',hl.frozen,hl.lR,hl.os,hl.tape,hl.output,hl.size,λb hb hn=>hl.frame b hb λp hp D6=>?_,λa x e=>?_,λk g ob cs hk=>?_⟩
 rotate_left 2
 .obtain⟨⟨k0,o0⟩,hp,e⟩:=bz.1 hk;simp only[Prod.mk.injEq]at e;obtain⟨_,e⟩:=e;cases o0<;>simp only[Obj.dW,reduceCtorEq,Obj.kg.injEq]at e;obtain⟨rfl,rfl,rfl⟩:=e;exact hl.kg _ _ _ _ hp
 .rw[nL p hp]at D6;exact hn _ (gV p hp) D6
 .rcases hl.mB a x e with h1|h1|⟨q,hq,h1⟩
  .exact .inl h1
  .exact .inr (.inl h1)
  .rw[nL q hq]at h1;exact .inr (.inr ⟨_,gV q hq,h1⟩)
def NW(P:bm)(o:Oper)(ρ:Env)(f:FuncId)(vs:List V):Prop:=
 ∀ρr m Z w,(∀x∈o.op.operands,aV (bc m) Z (a_ ρ x) (ev ρr x))->∃vals:List bu,zG (bc m) Z vs vals/\jV o.op=bg/\(ca (ev ρr) o).run P w=.ok (.enter f vals.toArray) w
def sa.sv{m:M}{Z Z':ZM}{w w':bE}(hs:wo m Z (F++R) w)(h:sa m Z F w Z' w'):sa m Z (F++R) w Z' w':=
 ⟨h.frozen,h.lR,h.os,h.tape,h.output,h.size,λb hb hn=>h.frame b hb λp hp=>hn p (bI _ hp),λa x e=>by
  rcases h.mB a x e with h1|h1|⟨q,hq,h1⟩
  .exact .inl h1
  .exact .inr (.inl h1)
  .exact .inr (.inr ⟨q,bI _ hq,h1⟩),λk g ob cs hk=>by
  rcases bw.1 hk with hk|hk
  .exact h.kg _ _ _ _ hk
  .have hb:=zH9 (hs.holds _ (bK _ hk))
   refine h.frame g ((hs.holds _ (bK _ hk)).fD _ hb) λp hp CQ=>?_
   have e:=hs.nW p (bI _ hp) _ (bK _ hk) g CQ hb;have hn:=hs.nodup;rw[zC]at hn
   exact(cO.1 hn).2.2 _ (ay hp) _ (ay hk) e⟩
def zIc{o:Oper}{vs:List V}(σ:List (Nat×Nat))(hc:NW P o ρ f vs)(h:Ff P f args F v)(hv:jT R vs (nS (iy σ) args))(hR:gD R=R)(sw:nodupB ((keys F).map (iy σ))=bg)(lk:AA args F=bg):
  Cg P o ρ (JF (iy σ) F++R) v:=by
 intro ρr m Z w bT hs;obtain⟨vals,MH,mF,hex⟩:=hc ρr m Z w bT
 have D4:∀k t sz fz els,R.get k=bc (.row t sz fz els)->Holds m Z w k (.row t sz els.length els):=λk t sz fz els hg=>by
  have gV:=ax.get_mem hg;have h1:=hs.holds _ (bK _ gV)
  have:fz=els.length:=by
   rw[<- hR]at gV
   rcases kI gV with⟨k',t',iF,pq,BJ,h2,h3⟩|⟨h2,h3⟩
   .simp only[Prod.mk.injEq,Obj.row.injEq]at h3;obtain⟨_,_,_,e1,e2⟩:=h3;rw[e1,e2]
   .exact aU rfl (h3 t sz fz els)
  subst this;exact h1
 have ML:=jT.rep D4 hv MH;refine⟨mF,.inr ⟨f,_,w,hex,Calls.mono (h.at sw lk w m Z _ hs.left ML) ?_⟩⟩;rintro en w' ⟨he,Z',hl⟩;exact⟨v,he,rfl,Z',hl.sv hs⟩
def zty{k g:Nat}{ob:Go.Obj}{cs:List V}:∀{F:ax},(k,Obj.kg g ob cs)∈F->(k,Obj.kg g ob cs)∈gD F
 |[],h=>by cases h
 |(k0,o0)::r,h=>by
  rcases bq.1 h with e|h2
  .cases e;exact al
  .clear h;cases o0<;>exact gq _ (zty h2)
def zId{o:Oper}{Fa F:ax}(h:Cg P o ρ (Fa++gD F) v):Cg P o ρ (Fa++F) v:=by
 intro ρr m Z w bT hs;have fS:Step m Z F w m (rb m Z F w) (gD F) w:=Step.freeze hs.right
 have lu:wo m (rb m Z F w) (Fa++gD F) w:=by
  have:=Step.sv (F:=F) (F':=gD F) (G:=Fa) (hs.perm dk) fS (λp hp q hq e=>by
   have hk:p.1∈keys F:=by rw[<- wu];exact ay hp
   have hn:=hs.nodup;rw[zC]at hn
   exact(cO.1 hn).2.2 _ (ay hq) _ hk e.symm)
  exact this.gy.perm dk
 refine(h ρr m _ w (λx hx=>(bT x hx).up fS.lR (λf e=>by cases e;exact⟨m,rfl,λ_ _ _ e=>e⟩)) lu).mono λx w' ⟨hx,Z',hl⟩=>⟨hx,Z',hl.frozen,λa y e=>hl.lR a y (fS.lR a y e),hl.os,hl.tape,hl.output,hl.size,λb hb hn=>hl.frame b hb λp hp D6=>?_,λa y e=>?_,λk g ob cs hk=>hl.kg k g ob cs (by
  rcases bw.1 hk with hk|hk
  .exact bI _ hk
  .exact bK _ (zty hk))⟩
 .rcases bw.1 hp with hp|hp
  .exact hn p (bI _ hp) D6
  .rcases fS.mn p hp b D6 with h1|⟨q,hq,h1⟩
   .omega
   .exact hn q (bK _ hq) h1
 .rcases hl.mB a y e with h1|h1|⟨q,hq,h1⟩
  .rcases fS.mB a y h1 with h2|h2|⟨q,hq,h2⟩
   .exact .inl h2
   .exact .inr (.inl h2)
   .exact .inr (.inr ⟨q,bK _ hq,h2⟩)
  .exact .inr (.inl h1)
  .rcases bw.1 hq with hq|hq
   .exact .inr (.inr ⟨q,bI _ hq,h1⟩)
   .rcases fS.mn q hq _ h1 with h2|⟨q',mf,h2⟩
    .exact .inr (.inl h2)
    .exact .inr (.inr ⟨q',bK _ mf,h2⟩)
end
section
variable{K0:List Nat}{c:Ctx K0}{P:bm}{r:Option Nat}{N:Nat}{Q:xH}{ρ:Env}{H:ax}{ds:List cg}{all rest:List Oper}{o:Oper}{v:bu}
def QI.lost{m:M}{Z Z':ZM}{w w':bE}(S:QI c m Z H w)(h:sa m Z H w Z' w'):QI c m Z' (Dp H) w':=⟨S.step.trans (h.step S.step.gy),λk hk L=>S.rn k (by rw[WH]at hk;exact hk) L⟩
def zL8{F:ax}(ks:List Nat)(hw:yR all ρ o=bc bg)(lH:nodupB ks=bg)(hF:ua ks H=bc F)(hl:Cg P o ρ F v)
  (h:∀H',KG H H'->Q (.panic [tf v]) [] H' ds):Zn c P r N all Q (o::rest) ρ H ds:=by
 rintro ρr w iX ⟨m,Z,S,hR⟩ hM a n hf;have hp:=vF S.step.gy.nodup (yj lH) hF;have hs:wo m Z (F++qw ks H) w:=S.step.gy.perm hp;obtain⟨hn,hex⟩:=hl ρr m Z w (λx _=>hR.ev x) hs.left;have ng:=(hf.wanted all _).trans (vn hR hw)
 have go:∀w',(∃Z',sa m Z F w Z' w')->lift N (Dq c Q ds) (.panic [tf v]) a w':=λw' ⟨Z',q8⟩=>by
  have Ms:sa m Z H w Z' w':=by
   have h1:=q8.sv hs
   exact⟨h1.frozen,h1.lR,h1.os,h1.tape,h1.output,h1.size,λb hb B0=>h1.frame b hb λp iT=>B0 p (hp.mem_iff.2 iT),λa' x e=>by
    rcases h1.mB a' x e with h2|h2|⟨q,hq,h2⟩
    .exact .inl h2
    .exact .inr (.inl h2)
    .exact .inr (.inr ⟨q,hp.mem_iff.2 hq,h2⟩),λk g ob cs hk=>h1.kg k g ob cs (hp.mem_iff.1 hk)⟩
  refine⟨ρr,iX,hf,[],_,⟨_,Z',S.lost Ms,λ_=>trivial⟩,?_,h _ λp hp h=>zf2 hp h⟩;exact xg.step hM S.step.gy (Ms.step S.step.gy)
 simp only[wpListIn,ng,if_true];refine⟨λ_ _=>trivial,?_⟩;rw[oZ hn,hf.eval]
 rcases hex with⟨x,w',iV,rfl,hx⟩|⟨f,args,w1,iV,hx⟩
 .rw[iV,Oper.uponIn_panic];exact go w' hx
 .rw[iV,Oper.uponIn_enter];refine⟨λhx=>by simp[Fw]at hx,(AR r hx).mono λe rF BV=>?_⟩;obtain⟨x,rfl,rfl,n_⟩:=BV;exact go rF n_
end
def ab0{P:bm}{fn:Func}{tmps:Array bu}{R:Ending->bE->Prop}{chain:List PanicEntry}:∀(ds:List cg)(w w':bE),Mh ds w w'->R (.panicked chain) w'->LeavesInM Fence.wide 0 P fn tmps R ds (.panicking chain) w
 |[],w,w',ht,hR=>by
  subst ht;exact hR
 |d::ds,w,w',⟨D,hd,hh,ht⟩,hR=>by subst hd;exact⟨af,.inl ⟨D,_,rfl,run_takeDeferred hh,ab0 ds _ w' ht hR⟩⟩
mutual
/-- What a value is that needs no memory. -/
def Es:V->bu
 |.int k n=>.int k n
 |.bool b=>.bool b
 |.str l=>.string ⟨l.toArray⟩
 |.agg cs=>.agg (Ud cs).toArray
 |.iG t v=>.iface t (Es v)
 |_=>Go.undef
def Ud:List V->List bu
 |[]=>[]
 |v::vs=>Es v::Ud vs
end
mutual
def EI:V->Bool
 |.int _ _=>bg
 |.bool _=>bg
 |.str _=>bg
 |.agg cs=>OZ cs
 |.iG _ v=>EI v
 |_=>bd
def OZ:List V->Bool
 |[]=>bg
 |v::vs=>EI v&&OZ vs
end
mutual
def WN{m:Option M}{Z:ZM}:∀(v:V)(x:bu),EI v=bg->aV m Z v x->x=Es v
 |.int _ _,x,_,h=>h
 |.bool _,x,_,h=>h
 |.str _,x,_,h=>h
 |.agg cs,x,hb,h=>by
  obtain⟨l,rfl,h1⟩:=h;rw[zl9 cs l hb h1];rfl
 |.iG t v,x,hb,h=>by
  obtain⟨y,rfl,h1⟩:=h;rw[WN v y hb h1];rfl
 |.undef,_,hb,_=>by cases hb
 |.no,_,hb,_=>by cases hb
 |.kq,_,hb,_=>by cases hb
 |.ptr ..,_,hb,_=>by cases hb
 |.vp ..,_,hb,_=>by cases hb
 |.gR,_,hb,_=>by cases hb
 |.sl ..,_,hb,_=>by cases hb
 |.vs ..,_,hb,_=>by cases hb
 |.fn ..,_,hb,_=>by cases hb
 |.lZ,_,hb,_=>by cases hb
 |.gu _,_,hb,_=>by cases hb
 |.k_,_,hb,_=>by cases hb
 |.mp _,_,hb,_=>by cases hb
 |.lJ,_,hb,_=>by cases hb
 |.gv ..,_,hb,_=>by cases hb
 |.pv _,_,hb,_=>by cases hb
def zl9{m:Option M}{Z:ZM}:∀(vs:List V)(l:List bu),OZ vs=bg->zG m Z vs l->l=Ud vs
 |[],l,_,h=>h
 |v::vs,l,hb,h=>by simp only[OZ,bn]at hb;obtain⟨x,xs,rfl,h1,h2⟩:=h;rw[WN v x hb.1 h1,zl9 vs xs hb.2 h2];rfl
end
def zq4{P:bm}{ρ:Env}{dst:Option Tmp}{ty:bA}{pos:String}{aft:Array Edge}{gd:Option (Nat×Bool)}{x:bB}{t:Nat}{v:V}(hx:a_ ρ x=.iG t v)(hf:EI v=bg):Cg P ⟨dst,.panic x,ty,pos,aft,gd⟩ ρ [] (Es (.iG t v)):=by intro ρr m Z w bT hs;have hX:=bT x (by simp[Op.operands]);rw[hx]at hX;have hX:=WN (.iG t v) _ hf hX;refine⟨rfl,.inl ⟨_,w,?_,rfl,Z,hs.frozen,λ_ _ e=>e,rfl,rfl,rfl,aq,λ_ _ _=>rfl,λ_ _ e=>.inl e,λ_ _ _ _ _=>rfl⟩⟩;simp only[ca,hX,Es];rfl
def ade(v:bu)(GK:ax):xH
 |.panic ch,_,H,_=>ch=[tf v]/\KG GK H
 |_,_,_,_=>False
def zBq{P:bm}{f:FuncId}{args:List V}{F:ax}{v:bu}{N:Nat}{fn:Func}{code:Code}(hf:P.funcs[f]?=bc fn)(hb:fn.body=bc code)(hN:fn.ntmps=N)(ha:cw args.length N=bg)
  (h:∀c:Ctx (keys F),lK c P bh N code (ade v F) (ur args) F []):Ff P f args F v:=by
 intro w m Z vals hs hv sQ;have Ec:=hv.length
 have S:Kv (⟨[],w,m,Z,F,rfl,sQ⟩:Ctx (keys F)) (ur args) F (jw vals) w:=⟨m,Z,⟨Step.refl hs,sQ⟩,λt=>by
  have:=Vt args vals 0 t hv
  simpa[ur,jw]using this⟩
 have h':=h ⟨[],w,m,Z,F,rfl,sQ⟩ _ _ _ S (xg.nil rfl);have ha:=lb ha;refine(callsIn_wide (n:=0)).1 (callsIn_of_wp_marks hf hb trivial ?_)
 refine wpIn_mono (h' _ 0 ⟨?_,rfl,λt=>?_⟩) λe a w' hq=>?_
 .simp;omega
 .simp only[jw,cz,bY];rw[Array.getElem?_append];split
  .simp
  .rename_i fZ;simp only[cH]at fZ;rw[List.getElem?_eq_none ab];simp only[cH];rw[dF];split<;>rfl
 .obtain⟨y2,lX,mb,ρ',H',S',FG,hq⟩:=hq;obtain⟨Ds,ru,hn,hD⟩:=FG.marks rfl
  cases e with
  |panic ch =>
   obtain⟨mu,hkg⟩:ch=[tf v]/\KG F H':=hq;subst mu;obtain⟨m',Z',S2,hR⟩:=S';obtain⟨w2,ht,S4⟩:=Vq Ds w' hn hD S2;refine ab0 _ _ _ (by rw[mb.defs,ru];exact ht) ⟨rfl,Z',?_⟩
   exact S4.step.lost λk g ob cs hk=>((S4.step.gy.holds _ (hkg _ hk rfl)).2.1.1).trans ((hs.holds _ hk).2.1.1).symm
  |normal=>exact hq.elim
  |ret=>exact hq.elim
  |exit id=>exact hq.elim
  |goto l=>exact hq.elim
  |outgrown=>exact hq.elim
def I5(P:bm)(o:Oper)(g:bB->V)(F:ax)(v:bu):Prop:=
 ∀ρr m Z w,(∀x∈o.op.operands,aV (bc m) Z (g x) (ev ρr x))->wo m Z F w->I4 P o ρr w λx w'=>x=v/\∃Z',sa m Z F w Z' w'
def I5.congr{P:bm}{o:Oper}{g g':bB->V}{F:ax}{v:bu}(h:I5 P o g F v)(hg:∀x∈o.op.operands,g' x=g x):I5 P o g' F v:=λρr m Z w bT=>h ρr m Z w λx hx=>by rw[<- hg x hx];exact bT x hx
def QN(P:bm)(all:List Oper)(fp:FP)(e:Nat->V)(η:HF)(v:bu):Prop:=
 ∃o F R,all[fp.i]?=bc o/\AB all e o=bc bg/\I5 P o (mP e) (F++R) v/\(keys (F++R)).Nodup/\keys F=fp.fk/\keys R=fp.rk/\∀p∈F++R,η p.1=bc p.2
section
variable{K0:List Nat}{c:Ctx K0}{P:bm}{r:Option Nat}{N:Nat}{all:List Oper}{ds:List cg}{v:bu}
def QN.back{x p:FP}{e e1:Nat->V}{η ky:HF}(h:jJ P N all x e η e1 ky)(k:QN P all p e1 ky v)(hi:Jf all x p=bg):QN P all p e η v:=by
 obtain⟨o,u,ho,hn,hd,rfl,h⟩:=h;obtain⟨o',F,R,rS,hw,hl,mF,hF,hR,hg⟩:=k;simp only[Jf,ho,rS,bn]at hi;obtain⟨hs,CS,mv,l8⟩:=hi;have mv:=Hp mv;have l8:=Hp l8;obtain⟨Ft,Ic⟩:=OP (v:=u) (e:=e) hs;refine⟨o',F,R,rS,by rw[<- Ic];exact hw,hl.congr λx hx=>(Ft x hx).symm,mF,hF,hR,λp hp=>?_⟩;rw[<- hg p hp]
 rcases h with⟨_,_,rfl,_,_⟩|⟨_,F1,R1,tt,_,_,_,_,ek,_,_,_,rfl,_⟩
 .rfl
 .refine(xz λhm=>?_).symm;rw[ek]at hm
  rcases bw.1 hp with hp|hp
  .exact mv _ hm (hF▸ay hp)
  .exact l8 _ hm (hR▸ay hp)
def re(GK:ax)(η:HF):Prop:=∀p∈GK,η p.1=bc p.2
def jJ.off{x:FP}{e e1:Nat->V}{η ky:HF}(h:jJ P N all x e η e1 ky){k:Nat}(hk:k ∉ x.fk):ky k=η k:=by
 obtain⟨o,u,ho,hn,hd,rfl,h⟩:=h
 rcases h with⟨_,_,rfl,_,_⟩|⟨_,F1,R1,tt,_,_,_,_,ek,_,_,_,rfl,_⟩
 .rfl
 .exact xz (by rw[ek];exact hk)
inductive wa(GK:ax)(P:bm)(N:Nat)(all:List Oper):List FP->(Nat->V)->HF->(Nat->V)->HF->Prop
 |nil {e:Nat->V} {η:HF}:wa GK P N all [] e η e η
 |cons {a:FP} {l:List FP} {e e1 e2:Nat->V} {η ky η2:HF} (h:jJ P N all a e η e1 ky) (g:re GK ky) (k:wa GK P N all l e1 ky e2 η2):wa GK P N all (a::l) e η e2 η2
def zPc{a b:FP}(hi:Qp all a b=bg):∀k∈a.fk,k ∉ b.fk:=by
 unfold Qp at hi;split at hi
 .simp only[bn,dc,Ua]at hi
  rcases hi.2.2 with h|h
  .exact Hp h.1
  .intro k hk;rw[(zLz h).1]at hk;cases hk
 .cases hi
def wa.front{GK:ax}{b:FP}{l2:List FP}:∀{l1:List FP}{e e2:Nat->V}{η η2:HF},re GK η->wa GK P N all (l1++b::l2) e η e2 η2->(∀a∈l1,Qp all a b=bg) ->
  ∃e1 ky,jJ P N all b e η e1 ky/\re GK ky/\wa GK P N all (l1++l2) e1 ky e2 η2
 |[],e,e2,η,η2,_,h,_=>by
  cases h with
  |cons h g k=>exact⟨_,_,h,g,k⟩
 |a::l1,e,e2,η,η2,g0,h,hi=>by
  cases h with
  |cons h g k =>
   obtain⟨e1,ky,h1,g1,h2⟩:=wa.front (l1:=l1) g k λc hc=>hi c (gq _ hc)
   have hd:=zPc (hi a al);obtain⟨Fo,GW,h3,h4⟩:=h.swap h1 (hi a al);refine⟨Fo,GW,h3,λp hp=>?_,.cons h4 g1 h2⟩;by_cases hk:p.1∈b.fk
   .rw[<- h4.off λIv=>hd _ Iv hk];exact g1 p hp
   .rw[h3.off hk];exact g0 p hp
def wa.back{GK:ax}{p:FP}{e2:Nat->V}{η2:HF}(k:QN P all p e2 η2 v):∀{L:List FP}{e:Nat->V}{η:HF},wa GK P N all L e η e2 η2->(∀x∈L,Jf all x p=bg)->QN P all p e η v
 |[],_,_,h,_=>by cases h;exact k
 |x::L,_,_,h,hi=>by
  cases h with
  |cons h g h'=>exact(wa.back k h' λy hy=>hi y (gq _ hy)).back h (hi x al)
def zIe{GK:ax}{Q:xH}{Fm:List cg}{fp:FP}{e:Nat->V}{η:HF}{a:Act}{w:bE}{n:Nat}{KK:Act->bE->Prop}(hs:QN P all fp e η v)(S:Er c N ds e η a w)(hG:re GK η)(h:∀H',KG GK H'->Q (.panic [tf v]) [] H' Fm):wpOpIn (Fw r) n P all.toArray (lift N (Dq c Q Fm)) fp.i KK a w:=by
 obtain⟨o,F,R,ho,hw,hl,mF,_,_,hg⟩:=hs;obtain⟨hM,ρr,ρ,H,hf,rfl,rfl,m,Z,SC,hR⟩:=S
 have rS:all.toArray[fp.i]?=bc o:=by simpa using ho
 unfold wpOpIn;simp only[rS];have ng:=(hf.wanted all o).trans (vn hR hw);simp only[ng,if_true];refine⟨λ_ _=>trivial,?_⟩;have na:ua (keys (F++R)) H=bc (F++R):=WB hg;have hp:=vF SC.step.gy.nodup mF na;have hs:wo m Z ((F++R)++qw (keys (F++R)) H) w:=SC.step.gy.perm hp;obtain⟨hn,hex⟩:=hl ρr m Z w (λx _=>by rw[Ly];exact hR.ev x) hs.left
 have go:∀w',(∃Z',sa m Z (F++R) w Z' w')->lift N (Dq c Q Fm) (.panic [tf v]) a w':=λw' ⟨Z',q8⟩=>by
  have Ms:sa m Z H w Z' w':=by
   have h1:=q8.sv hs
   exact⟨h1.frozen,h1.lR,h1.os,h1.tape,h1.output,h1.size,λb hb B0=>h1.frame b hb λp iT=>B0 p (hp.mem_iff.2 iT),λa' x e=>by
    rcases h1.mB a' x e with h2|h2|⟨q,hq,h2⟩
    .exact .inl h2
    .exact .inr (.inl h2)
    .exact .inr (.inr ⟨q,hp.mem_iff.2 hq,h2⟩),λk g ob cs hk=>h1.kg k g ob cs (hp.mem_iff.1 hk)⟩
  refine⟨ρr,ds,hf,[],_,⟨_,Z',SC.lost Ms,λ_=>trivial⟩,?_,h _ λq hq zz=>zf2 (ax.get_mem (hG q hq)) zz⟩;exact xg.step hM SC.step.gy (Ms.step SC.step.gy)
 rw[oZ hn,hf.eval]
 rcases hex with⟨x,w',iV,rfl,hx⟩|⟨f,args,w1,iV,hx⟩
 .rw[iV,Oper.uponIn_panic];exact go w' hx
 .rw[iV,Oper.uponIn_enter];refine⟨λhx=>by simp[Fw]at hx,(AR r hx).mono λe rF BV=>?_⟩;obtain⟨x,rfl,rfl,n_⟩:=BV;exact go rF n_
def ztz:∀(n:Nat)(l:List Nat),l.Nodup->(∀x∈l,x<n)->l.length<=n
 |0,[],_,_=>du _
 |0,x::l,_,h=>by have:=h x al;omega
 |n+1,l,hn,h=>by
  have h1:=ztz n (l.erase n) (hn.erase n) λx hx=>by
   have h2:=h x (List.mem_of_mem_erase hx)
   have h3:x≠n:=λe=>by subst e;exact hn.not_mem_erase hx
   omega
  rw[List.length_erase]at h1;split at h1<;>omega
def least{p:Nat->Prop}:∀i,p i->∃j,p j/\∀k,k<j->¬p k:=λi=>by
 induction i using Nat.strongRecOn with
 |_ i ih =>
  intro h;by_cases hk:∃k,k<i/\p k
  .obtain⟨k,h1,h2⟩:=hk;exact ih k h1 h2
  .exact⟨i,h,λk h1 h2=>hk ⟨k,h1,h2⟩⟩
def zPd{GK:ax}(hE:Vw all=bg){Q:xH}{Fm:List cg}{n:Nat}{e2:Nat->V}{η2:HF}{p:FP}(PW:QN P all p e2 η2 v)(hQ:∀H',KG GK H'->Q (.panic [tf v]) [] H' Fm):∀(fuel:Nat)(L:List FP)(listed:Array Bool)(e:Nat->V)(η:HF)(a:Act)(w:bE),
  re GK η->wa GK P N all L e η e2 η2->jf all (jk all []) L=bg->(L.map (·.i)).Pairwise (· < ·)->(∀i,i<all.length->(listed.getD i bd=bd↔(i∈L.map (·.i)∨i=p.i∨pD (jk all []) i p.i=bg)))->(∀i∈L.map (·.i),i<all.length) ->
  (∀x∈L,pD (jk all []) p.i x.i=bg∨Jf all x p=bg)->p.i ∉ L.map (·.i)->(∀x∈L,pD (jk all []) x.i p.i=bd)->EG all.toArray listed->listed.size=all.length->L.length+1<=fuel ->
  Er c N ds e η a w->wpAnyIn (Fw r) n P .any all.toArray (lift N (Dq c Q Fm)) fuel listed a w:=by
 intro fuel
 have B2:p.i<all.length:=by obtain⟨o,_,_,ho,_⟩:=PW;exact(bx.1 ho).1
 induction fuel with
 |zero=>intro L listed e η a w _ _ _ _ _ _ _ _ _ _ _ hlen _;omega
 |succ fuel ih =>
  intro L listed e η a w tv mu RN hp hl fZ hin hnp Sc hc gp hlen S;have hpf:listed.getD p.i bd=bd:=(hl p.i B2).2 (.inr (.inl rfl));refine⟨λhr=>?_,λj hj=>?_⟩
  .exfalso;obtain⟨j,⟨R4,hj2⟩,hj3⟩:=least (p:=λi=>i<all.length/\listed.getD i bd=bd) p.i ⟨B2,hpf⟩
   have gV:j∈Region.ready .any all.toArray listed:=by
    refine mem_ready.2 ⟨?_,all[j]'R4,by simpa using bF R4,λe' CK ZJ=>?_⟩
    .have Mt:j<listed.size:=ab;simp only[cz,dU Mt,dJ]at hj2 ⊢;exact hj2
    .have Mu:=V5 hE (bF R4) CK ZJ
     cases hq:listed.getD e'.on bd with
     |true=>rfl
     |false=>exact aU ⟨ab,hq⟩ (hj3 _ Mu)
   rw[hr]at gV;cases gV
  .obtain⟨h1,o,ho,su⟩:=mem_ready.1 hj
   have BY:j<all.length:=by have:=(ck.1 ho).1;simpa using this
   have D_:j<listed.size:=ab
   have R5:listed.getD j bd=bd:=by simp only[cz,dU D_,dJ]at h1 ⊢;exact h1
   have GY:∀i,pD (jk all []) j i=bg->listed.getD i bd=bg:=zfr hE hc j o (by simpa using ho) su
   rcases(hl j BY).1 R5 with hjL|rfl|hja
   .obtain⟨l1,b,l2,rfl,rfl⟩:=zlv hjL;obtain⟨iO,Y3⟩:=JH RN;have z':((l1++b::l2).map (·.i)).Pairwise (· < ·):=hp;rw[cG,gf,eB]at z';obtain⟨Iw,Se,Ix⟩:=z';have My:=eL.1 Se
    have G0:∀x∈l1,Qp all x b=bg:=λx hx=>by
     rcases iO x hx with h'|h'
     .exfalso;have FK:=GY x.i h';have So:x.i<all.length:=fZ x.i (by simp;exact .inl ⟨x,hx,rfl⟩);have:=(hl x.i So).2 (.inl (by simp;exact .inl ⟨x,hx,rfl⟩));rw[FK]at this;cases this
     .exact h'
    obtain⟨e1,ky,iS,MZ,YY⟩:=mu.front tv G0
    have nZ:∀x∈l1++l2,x∈l1++b::l2:=λx hx=>by
     rcases bw.1 hx with hx|hx
     .exact bI _ hx
     .exact bK _ (gq _ hx)
    have hbi:b∈l1++b::l2:=af
    have D6:b.i≠p.i:=λe=>hnp (by rw[<- e];exact cm hbi)
    refine zlu iS S λa' w' S'=>ih (l1++l2) _ e1 ky a' w' MZ YY Y3 ?_ ?_ ?_ (λx hx=>hin x (nZ x hx)) ?_ (λx hx=>Sc x (nZ x hx)) (hc.set hj) (by simpa using gp) (by simp at hlen ⊢;omega) S'
    .rw[cG,eB];exact⟨Iw,My.2,λx hx y hy=>Ix x hx y (gq _ hy)⟩
    .intro i hi;have g_:i=b.i∨i≠b.i:=Decidable.em _
     rcases g_ with rfl|g_
     .have Mv:b.i ∉ (l1++l2).map (·.i):=by
       rw[cG,bw];rintro(h'|h')
       .have:=Ix _ h' b.i al;omega
       .have:=My.1 _ h';omega
      have h9:(listed.setIfInBounds b.i bg).getD b.i bd=bg:=by simp[D_]
      rw[h9];refine⟨λh'=>(by cases h'),λh'=>?_⟩
      rcases h' with h'|h'|h'
      .exact aU h' Mv
      .exact aU h' D6
      .rw[Sc b hbi]at h';cases h'
     .rw[getD_set_ne bd (Ne.symm g_),hl i hi];simp only[cG,gf,bw,bq,g_,false_or]
    .intro i hi;refine fZ i ?_;rw[cG,bw]at hi;simp only[cG,gf,bw,bq]
     rcases hi with hi|hi
     .exact .inl hi
     .exact .inr (.inr hi)
    .intro h';refine hnp ?_;obtain⟨x,hx,e⟩:=bz.1 h';exact bz.2 ⟨x,nZ x hx,e⟩
   .have nX:∀x∈L,Jf all x p=bg:=λx hx=>by
     rcases hin x hx with h'|h'
     .exfalso;have FK:=GY x.i h';have hxm:x.i∈L.map (·.i):=cm hx;have:=(hl x.i (fZ x.i hxm)).2 (.inl hxm);rw[FK]at this;cases this
     .exact h'
    exact zIe (wa.back PW mu nX) S tv hQ
   .exfalso;have:=GY _ hja;rw[hpf]at this;cases this
def NX(GK:ax)(P:bm)(N:Nat)(all:List Oper)(ρ:Env)(H:ax)(v:bu):Prop:=
 ∃fps p e2 η2,(keys H).Nodup->(wa GK P N all fps ρ.get H.get e2 η2/\re GK H.get/\QN P all p e2 η2 v/\(fps.map (·.i)).Pairwise (· < ·)/\(∀i,i<all.length->(i∈fps.map (·.i)∨i=p.i∨pD (jk all []) i p.i=bg))/\(∀i∈fps.map (·.i),i<all.length) /\
  (∀x∈fps,pD (jk all []) p.i x.i=bg∨Jf all x p=bg)/\p.i ∉ fps.map (·.i)/\(∀x∈fps,pD (jk all []) x.i p.i=bd)/\jf all (jk all []) fps=bg)
def zPe{GK:ax}{Q:xH}{ρ:Env}{H:ax}{id:Nat}(hm:P.follows .mixedOrders=bg)(hE:Vw all=bg)(h:NX GK P N all ρ H v)(hQ:∀H',KG GK H'->Q (.panic [tf v]) [] H' ds):lK c P r N (.region id all.toArray bg) Q ρ H ds:=by
 intro ρr w iX S hM a n hf;obtain⟨fps,p,e2,η2,h⟩:=h;obtain⟨m,Z,SC,hR⟩:=S;obtain⟨h1,tv,h2,h3,h4,h5,h6,h7,h8,h9⟩:=h SC.step.gy.nodup
 have Z3:Kv c ρ H ρr w.drew:=⟨m,Z,⟨SC.step.trans (Step.same SC.step.gy rfl rfl rfl rfl),SC.rn⟩,hR⟩
 refine wpIn_region_any hm ?_
 have B2:p.i<all.length:=by obtain⟨o,_,_,ho,_⟩:=h2;exact(bx.1 ho).1
 have aj0:fps.length+1<=all.length:=by
  have mF:(p.i::fps.map (·.i)).Nodup:=cJ.2 ⟨h7,h3.imp λh=>Nat.ne_of_lt h⟩
  have:=ztz all.length _ mF λx hx=>by
   rcases bq.1 hx with rfl|hx
   .exact B2
   .exact h5 x hx
  simpa using this
 refine zPd (c:=c) (ds:=iX) (r:=r) hE h2 hQ all.toArray.size fps _ ρ.get H.get a _ tv h1 h9 h3 ?_ h5 h6 h7 h8 ?_ af (by simpa using aj0) ⟨hM.same rfl,ρr,ρ,H,hf,rfl,rfl,Z3⟩
 .intro i hi;simp only[cH,cz,dF];rw[aP hi];simp only[dJ,true_iff];exact h4 i hi
 .have:=aaE all;simpa using this
end
section
variable{P:bm}{N:Nat}{all:List Oper}{ρ:Env}{H:ax}{o:Oper}
def zPf{F R F':ax}{v:V}(i:Nat)(kF kR:List Nat)(ho:all[i]?=bc o)(hn:jV o.op=bg)(hd:(match o.dst with|some d=>cw (d+1) N|none=>bg)=bg)(hw:yR all ρ o=bc bg)
  (hF:ua kF H=bc F) (hR:ua kR H=bc R) (mF:nodupB (keys F'++kR)=bg) (ahZ:nodupB kF=bg) (nZ:(kF.all (keys F').contains)=bg) (iO:(F'.all λp=>kF.contains p.1||!jW p.1 H)=bg)
  (hl:Loc P o ρ (F++R) v (F'++R)) (Sb:(keys H).Nodup) {fp:FP} (hfi:fp.i=i) (hff:fp.fk=keys F') (ahW:fp.rk=kR) (aj2:Ce P o ρ.get H.get (F'++qw kF H).get v fp):(keys (F'++qw kF H)).Nodup/\jJ P N all fp ρ.get H.get (pP o.dst v ρ).get (F'++qw kF H).get:=by
 subst hfi;obtain⟨D3,Ij⟩:=xd hF;obtain⟨BU,BV⟩:=xd hR
 have adX:∀p∈F',p.1 ∉ kF->p.1 ∉ keys H:=λp hp hk R7=>by
  have:=(bj.1 iO) p hp;simp only[dc,cy,aW,bW]at this
  rcases this with h'|h'
  .exact hk h'
  .rw[yK.2 R7]at h';cases h'
 have aj':(keys F').Nodup:=(cO.1 (yj mF)).1
 have akb:(keys (qw kF H)).Nodup:=by
  have:(keys (qw kF H))=(keys H).filter (λk=>!kF.contains k):=by simp only[keys,qw];rw[List.filter_map];rfl
  rw[this];exact Sb.filter _
 refine⟨?_,o,v,ho,hn,λd lf=>?_,Vz _ _ _,.inr ⟨hw,F,R,F',?_,?_,?_,?_,hff.symm,BU.trans ahW.symm,λp hp=>?_,λk hk nO=>?_,?_,aj2⟩⟩
 .rw[zC];refine cO.2 ⟨aj',akb,λa ha b hb e=>?_⟩;subst e;obtain⟨p,hp,rfl⟩:=bz.1 ha;obtain⟨q,hq,e⟩:=bz.1 hb;have mf:=List.mem_filter.1 hq
  have hnk:p.1 ∉ kF:=by have:=mf.2;simp only[bW,cy,aX]at this;rw[<- e];exact this
  exact adX p hp hnk (by rw[<- e];exact ay mf.1)
 .rw[lf]at hd;exact lb hd
 .exact ug.congr (g:=a_ ρ) hl λx _=>Ly ρ x
 .rw[zC,BU];exact yj mF
 .rw[D3];exact yj ahZ
 .intro k hk;rw[D3]at hk;have:=(bj.1 nZ) k hk;simpa using this
 .rcases bw.1 hp with hp|hp
  .exact get_of_mem Sb (Ij p hp)
  .exact get_of_mem Sb (BV p hp)
 .obtain⟨p,hp,rfl⟩:=bz.1 hk;exact get_none.1 (adX p hp (D3▸nO))
 .funext k
  rw[get_append];by_cases h1:k∈keys F'
  .simp[nH,h1]
  .rw[aO h1,xz h1]
   refine QK λhk=>h1 ?_
   have:=(bj.1 nZ) k hk;simpa using this
def QN.fwd{v:bu}{x p:FP}{e e1:Nat->V}{η ky:HF}(h:jJ P N all x e η e1 ky)(k:QN P all p e η v)(hi:Jf all x p=bg):QN P all p e1 ky v:=by
 obtain⟨o,u,ho,hn,hd,rfl,h⟩:=h;obtain⟨o',F,R,rS,hw,hl,mF,hF,hR,hg⟩:=k;simp only[Jf,ho,rS,bn]at hi;obtain⟨hs,CS,mv,l8⟩:=hi;have mv:=Hp mv;have l8:=Hp l8;obtain⟨Ft,Ic⟩:=OP (v:=u) (e:=e) hs;refine⟨o',F,R,rS,by rw[Ic];exact hw,hl.congr λx hx=>Ft x hx,mF,hF,hR,λp hp=>?_⟩;rw[<- hg p hp]
 rcases h with⟨_,_,rfl,_,_⟩|⟨_,F1,R1,tt,_,_,_,_,ek,_,_,_,rfl,_⟩
 .rfl
 .refine xz λhm=>?_
  rw[ek]at hm
  rcases bw.1 hp with hp|hp
  .exact mv _ hm (hF▸ay hp)
  .exact l8 _ hm (hR▸ay hp)
def wa.fwd{GK:ax}{v:bu}{p:FP}:∀{L:List FP}{e e2:Nat->V}{η η2:HF},wa GK P N all L e η e2 η2->QN P all p e η v->(∀x∈L,Jf all x p=bg)->QN P all p e2 η2 v
 |[],_,_,_,_,h,k,_=>by cases h;exact k
 |x::L,_,_,_,_,h,k,hi=>by
  cases h with
  |cons h g h'=>exact wa.fwd h' (k.fwd h (hi x al)) λy hy=>hi y (gq _ hy)
def wa.app{GK:ax}:∀{L L':List FP}{e e1 e2:Nat->V}{η ky η2:HF},wa GK P N all L e η e1 ky->wa GK P N all L' e1 ky e2 η2->wa GK P N all (L++L') e η e2 η2
 |[],_,_,_,_,_,_,_,h,k=>by cases h;exact k
 |x::L,_,_,_,_,_,_,_,h,k=>by
  cases h with
  |cons h g h'=>exact .cons h g (wa.app h' k)
def O0:List Nat->Bool
 |a::b::r=>cw (a+1) b&&O0 (b::r)
 |_=>bg
def zmb:∀{l:List Nat},O0 l=bg->l.Pairwise (· < ·)
 |[],_=>.nil
 |[a],_=>List.pairwise_singleton _ _
 |a::b::r,h=>by
  simp only[O0,bn]at h;have h1:=lb h.1;have h2:=zmb h.2;refine eL.2 ⟨λx hx=>?_,h2⟩
  rcases bq.1 hx with rfl|hx
  .exact h1
  .exact Nat.lt_trans h1 ((eL.1 h2).1 x hx)
def Pm(all:List Oper)(p:FP)(L:List FP):Bool:=
 O0 (L.map (·.i))&&((cQ all.length).all (λi=>tE i (L.map (·.i))||(bk i p.i||pD (jk all []) i p.i))&&(L.all (λx=>cw (x.i+1) all.length) &&
  (L.all (λx=>pD (jk all []) p.i x.i||Jf all x p)&&(!(tE p.i (L.map (·.i)))&&(L.all (λx=>!(pD (jk all []) x.i p.i))&&jf all (jk all []) L)))))
def zIg{GK:ax}{v:bu}{fps:List FP}{p:FP}{e2:Nat->V}{η2:HF}(h:(keys H).Nodup->wa GK P N all fps ρ.get H.get e2 η2/\re GK H.get/\QN P all p e2 η2 v)(hc:Pm all p fps=bg):NX GK P N all ρ H v:=by
 simp only[Pm,bn]at hc;obtain⟨c1,c2,c3,c4,c5,c6,c7⟩:=hc;refine⟨fps,p,e2,η2,λhn=>⟨(h hn).1,(h hn).2.1,(h hn).2.2,zmb c1,λi hi=>?_,λi hi=>?_,λx hx=>?_,λhm=>?_,λx hx=>?_,c7⟩⟩
 .have:=(bj.1 c2) i (abe.2 hi);simp only[dc]at this
  rcases this with h1|h1|h1
  .exact .inl (Vv.1 h1)
  .exact .inr (.inl (eb h1))
  .exact .inr (.inr h1)
 .obtain⟨x,hx,rfl⟩:=bz.1 hi;exact lb ((bj.1 c3) x hx)
 .have:=(bj.1 c4) x hx;simpa using this
 .rw[Vv.2 hm]at c5;cases c5
 .have:=(bj.1 c6) x hx;simpa using this
end
end Go.EV
namespace Go.EQ
open Go Go.RowKit Go.iE Go.EV
mutual
def ZT{σ:Nat->Nat}:∀v:V,v.refs=[]->v.dW σ=v
 |.undef,_=>rfl
 |.no,_=>rfl
 |.int ..,_=>rfl
 |.bool _,_=>rfl
 |.str _,_=>rfl
 |.kq,_=>rfl
 |.ptr ..,h=>by simp[V.refs]at h
 |.vp ..,_=>rfl
 |.gR,_=>rfl
 |.sl ..,h=>by simp[V.refs]at h
 |.vs ..,_=>rfl
 |.fn f a b,h=>by
  simp only[V.refs,eM]at h;simp only[V.dW,AW a h.1,AW b h.2]
 |.lZ,_=>rfl
 |.agg cs,h=>by simp only[V.dW,AW cs h]
 |.gu xs,h=>by simp only[V.dW,AW xs h]
 |.k_,_=>rfl
 |.mp _,h=>by simp[V.refs]at h
 |.lJ,_=>rfl
 |.iG t v,h=>by simp only[V.dW,ZT v h]
 |.gv ..,h=>by simp[V.refs]at h
 |.pv _,_=>rfl
def AW{σ:Nat->Nat}:∀vs:List V,wi vs=[]->nS σ vs=vs
 |[],_=>rfl
 |v::vs,h=>by simp only[wi,eM]at h;simp only[nS,ZT v h.1,AW vs h.2]
end
section
variable{S:lD}
mutual
def A.dW(σ:Nat->Nat):A S.T->A S.T
 |.raw v=>.raw (v.dW σ)
 |.gC c x=>.gC c x
 |.ag cs=>.ag (A.pV σ cs)
 |.gu xs=>.gu (A.pV σ xs)
 |.rh sz k n=>.rh sz (σ k) n
 |.oh k=>.oh (σ k)
 |.nh sz k n=>.nh sz (σ k) n
 |.rp k L i off sz=>.rp (σ k) L i off sz
 |.vp c x off=>.vp c x off
 |.fn f a b=>.fn f (A.pV σ a) (A.pV σ b)
 |.iG t a=>.iG t (a.dW σ)
def A.pV(σ:Nat->Nat):List (A S.T)->List (A S.T)
 |[]=>[]
 |a::r=>a.dW σ::A.pV σ r
end
def OA.dW(σ:Nat->Nat):OA S.T->OA S.T
 |.box t cs=>.box t (A.pV σ cs)
 |o=>o
def IN(σ:Nat->Nat)(F:AH S.T):AH S.T:=F.map λp=>(σ p.1,p.2.dW σ)
mutual
def GH(hS:S.OK){σ:Nat->Nat}:∀a:A S.T,(a.dW σ).v=a.v.dW σ
 |.raw _=>by simp only[A.dW,A.v]
 |.gC c x=>by simp only[A.dW,A.v];exact(ZT _ (oi hS c x)).symm
 |.ag cs=>by simp only[A.dW,A.v,V.dW,Hr hS cs]
 |.gu xs=>by simp only[A.dW,A.v,V.dW,Hr hS xs]
 |.rh ..=>by simp only[A.dW,A.v,V.dW]
 |.oh ..=>by simp only[A.dW,A.v,V.dW]
 |.nh ..=>by simp only[A.dW,A.v,V.dW]
 |.rp ..=>by simp only[A.dW,A.v,V.dW]
 |.vp ..=>by simp only[A.dW,A.v,V.dW]
 |.fn f a b=>by simp only[A.dW,A.v,V.dW,Hr hS a,Hr hS b]
 |.iG t a=>by simp only[A.dW,A.v,V.dW,GH hS a]
def Hr(hS:S.OK){σ:Nat->Nat}:∀l:List (A S.T),A.vs (A.pV σ l)=nS σ (A.vs l)
 |[]=>by simp only[A.pV,A.vs,nS]
 |a::r=>by simp only[A.pV,A.vs,nS,GH hS a,Hr hS r]
end
def zL9(hS:S.OK){σ:Nat->Nat}:∀o:OA S.T,(o.dW σ).o=o.o.dW σ
 |.box t cs=>by simp only[OA.dW,OA.o,Obj.dW,Hr hS]
 |.row ..=>rfl
 |.map ..=>rfl
 |.rw i=>by simp only[OA.dW,OA.o,hS.Zy]
 |.gn ..=>by simp only[OA.dW,OA.o,hS.YT]
structure Ct(S:lD) where
 ins:List Tp
 hin:List (Nat×TO)
 ci:List TC
 out:Tp
 iB:List (Nat×TO)
 co:List TC
 alt:Bool
 fn:HL S.T ci->Option (HL S.T co)
def Ct.OK(P:bm)(f:Nat)(c:Ct S):Prop:=∀x r,c.fn x=bc r ->
 mx P f (A.vs (Tp.j_ c.hin (yP c.ci x) c.ins)) (hV (oY c.hin (yP c.ci x))) (c.out.put c.iB (yP c.ci x++yP c.co r)).v (hV (oY c.iB (yP c.ci x++yP c.co r)))
structure lC(S:lD)(pc:List TC) where
 ins:List Tp
 hin:List (Nat×TO)
 ci:List TC
 fn:HL S.T ci->Option (HL S.T pc)
def lC.OK{pc:List TC}(P:bm)(pv:HL S.T pc->bu)(f:Nat)(c:lC S pc):Prop:=∀x q,c.fn x=bc q ->
 Ff P f (A.vs (Tp.j_ c.hin (yP c.ci x) c.ins)) (hV (oY c.hin (yP c.ci x))) (pv q)
end
mutual
/-- The names in a template. -/
def Tp.names:Tp->List Nat
 |.ptr k _=>[k]
 |.mp k=>[k]
 |.row _ k=>[k]
 |.om k=>[k]
 |.pU _ k=>[k]
 |.rp _ k _ _=>[k]
 |.ag l=>Tp.tN l
 |.gu l=>Tp.tN l
 |.fn _ a b=>Tp.tN a++Tp.tN b
 |.iG _ a=>a.names
 |_=>[]
def Tp.tN:List Tp->List Nat
 |[]=>[]
 |t::r=>t.names++Tp.tN r
end
def TO.names:TO->List Nat
 |.box _ cs=>Tp.tN cs
 |_=>[]
section
variable{S:lD}
mutual
def ZU(hS:S.OK){hp:List (Nat×TO)}{ds:List (Dy S.T)}:∀t:Tp,(t.put hp ds).v.refs=t.names
 |.kq=>by simp only[Tp.put,A.v,V.refs,Tp.names]
 |.gR=>by simp only[Tp.put,A.v,V.refs,Tp.names]
 |.lZ=>by simp only[Tp.put,A.v,V.refs,Tp.names]
 |.k_=>by simp only[Tp.put,A.v,V.refs,Tp.names]
 |.lJ=>by simp only[Tp.put,A.v,V.refs,Tp.names]
 |.no=>by simp only[Tp.put,A.v,V.refs,Tp.names]
 |.Np=>by simp only[Tp.put,A.v,V.refs,Tp.names]
 |.d c j=>by simp only[Tp.put,A.v,Tp.names];exact oi hS c _
 |.ptr ..=>by simp only[Tp.put,A.v,V.refs,Tp.names]
 |.mp _=>by simp only[Tp.put,A.v,V.refs,Tp.names]
 |.row ..=>by simp only[Tp.put,A.v,V.refs,Tp.names]
 |.om _=>by simp only[Tp.put,A.v,V.refs,Tp.names]
 |.pU ..=>by simp only[Tp.put,A.v,V.refs,Tp.names]
 |.rp ..=>by simp only[Tp.put,A.v,V.refs,Tp.names]
 |.ci ..=>by simp only[Tp.put,A.v,vt,V.refs,Tp.names]
 |.ag l=>by simp only[Tp.put,A.v,V.refs,Tp.names];exact jY hS l
 |.gu l=>by simp only[Tp.put,A.v,V.refs,Tp.names];exact jY hS l
 |.fn f a b=>by simp only[Tp.put,A.v,V.refs,Tp.names,jY hS a,jY hS b]
 |.iG t a=>by simp only[Tp.put,A.v,V.refs,Tp.names];exact ZU hS a
def jY(hS:S.OK){hp:List (Nat×TO)}{ds:List (Dy S.T)}:∀l:List Tp,wi (A.vs (Tp.j_ hp ds l))=Tp.tN l
 |[]=>by simp only[Tp.j_,A.vs,wi,Tp.tN]
 |t::r=>by simp only[Tp.j_,A.vs,wi,Tp.tN,ZU hS t,jY hS r]
end
def qN(ins:List Tp)(hin:List (Nat×TO)):Bool:=(Tp.tN ins).all (hin.map (·.1)).contains&&hin.all λp=>p.2.names.all (hin.map (·.1)).contains
def wO{hp:List (Nat×TO)}{ds:List (Dy S.T)}:keys (hV (oY (S:=S) hp ds))=hp.map (·.1):=by simp only[zA8,oY,cW];rfl
def AX(hS:S.OK){ins:List Tp}{hin:List (Nat×TO)}{ds:List (Dy S.T)}(h:qN ins hin=bg):EV.AA (A.vs (Tp.j_ hin ds ins)) (hV (oY hin ds))=bg:=by
 simp only[qN,bn]at h;simp only[EV.AA,bn,jY hS,wO];refine⟨h.1,bj.2 λp hp=>?_⟩;simp only[hV,oY,cW,bz]at hp;obtain⟨q,hq,rfl⟩:=hp;have:=(bj.1 h.2) q hq;obtain⟨k,o⟩:=q
 cases o with
 |box t cs=>simpa[OA.o,TO.put,Obj.refs,jY hS,TO.names]using this
 |row=>rfl
 |map=>rfl
 |rw i=>show((S.ro i).refs.all _)=bg;rw[hS.P2];rfl
 |gn i c j=>show((S.go i c (WC ds j c)).refs.all _)=bg;rw[hS.PO];rfl
end
section
variable{S:lD}
def Sat(ds:List (Dy S.T))(ps:List (Nat×Dy S.T)):Prop:=∀p∈ps,WC ds p.1 p.2.1=p.2.2
def mq(σ:Nat->Nat)(ns:List (Nat×Nat)):Prop:=∀p∈ns,σ p.1=p.2
def Sat.left{ds:List (Dy S.T)}{a b:List (Nat×Dy S.T)}(h:Sat ds (a++b)):Sat ds a:=λp hp=>h p (bI _ hp)
def Sat.right{ds:List (Dy S.T)}{a b:List (Nat×Dy S.T)}(h:Sat ds (a++b)):Sat ds b:=λp hp=>h p (bK _ hp)
def mq.left{σ:Nat->Nat}{a b:List (Nat×Nat)}(h:mq σ (a++b)):mq σ a:=λp hp=>h p (bI _ hp)
def mq.right{σ:Nat->Nat}{a b:List (Nat×Nat)}(h:mq σ (a++b)):mq σ b:=λp hp=>h p (bK _ hp)
structure o8(hp:List (Nat×TO))(ds:List (Dy S.T))(σ:Nat->Nat)(H:AH S.T):Prop where
 r:∀k c j,Bp hp k=bc (c,j)->∀e c' fz l w,H.get (σ k)=bc (.row e c' fz l w)->bf (α:=c.ty S.T) (WC ds j (.l c))=l.length
def JJ{ds:List (Dy S.T)}:∀{hp:List (Nat×TO)}{k:Nat}{c:TC}{j:Nat},Bp hp k=bc (c,j)->Eo ds hp k=bf (α:=c.ty S.T) (WC ds j (.l c))
 |(k',.row e c' j' fz)::r,k,c,j,h=>by
  simp only[Bp]at h;simp only[Eo]
  cases hb:bk k k' with
  |true=>rw[hb]at h;cases h;rfl
  |false=>rw[hb]at h;exact JJ h
 |(k',.box ..)::r,k,c,j,h=>JJ (hp:=r) h
 |(k',.map ..)::r,k,c,j,h=>JJ (hp:=r) h
 |(k',.rw _)::r,k,c,j,h=>JJ (hp:=r) h
 |(k',.gn ..)::r,k,c,j,h=>JJ (hp:=r) h
def zUv{c:TC}{a:A S.T}{x:c.ty S.T}(h:YO c a=bc x):a.v=vt S c x:=by
 unfold YO at h;split at h
 .split at h
  .rename_i e;subst e;cases h;rfl
  .cases h
 .cases c<;>first|(cases h;done)|(cases h;rfl)
 .cases h
variable{hp:List (Nat×TO)}{ds:List (Dy S.T)}{σ:Nat->Nat}{H:AH S.T}
def zIh{sz k iF k' n:Nat}{rd:Rd S.T}(h:Tp.read hp bg H (.row sz k) (.rh iF k' n)=bc rd)(hn:mq σ rd.ns)(he:xZ rd.eq)(hr:o8 hp ds σ H):(A.rh (T:=S.T) iF k' n)=((Tp.row sz k).put hp ds).dW σ:=by
 simp only[Tp.read]at h;split at h
 .rename_i l w q hg hq
  cases hb:bk sz iF with
  |false=>rw[hb]at h;cases h
  |true =>
   rw[hb]at h;cases h;have e1:=eb hb;subst e1;have e2:σ k=k':=hn _ (bS.2 rfl);have e3:n=l.length:=(he _ (bS.2 rfl)).trans w.h.symm;obtain⟨c,j⟩:=q;simp only[Tp.put,A.dW,JJ hq,e2];rw[hr.r k c j hq _ _ _ _ _ (by rw[e2];exact hg),e3]
 .cases h
def zBs{sz k iF k' n:Nat}{rd:Rd S.T}(h:Tp.read hp bg H (.pU sz k) (.nh iF k' n)=bc rd)(hn:mq σ rd.ns)(he:xZ rd.eq)(hr:o8 hp ds σ H):(A.nh (T:=S.T) iF k' n)=((Tp.pU sz k).put hp ds).dW σ:=by
 simp only[Tp.read]at h;split at h
 .rename_i l w q hg hq
  cases hb:bk sz iF with
  |false=>rw[hb]at h;cases h
  |true =>
   rw[hb]at h;cases h;have e1:=eb hb;subst e1;have e2:σ k=k':=hn _ (bS.2 rfl);have e3:n=l.length:=(he _ (bS.2 rfl)).trans w.h.symm;obtain⟨c,j⟩:=q;simp only[Tp.put,A.dW,JJ hq,e2];rw[hr.r k c j hq _ _ _ _ _ (by rw[e2];exact hg),e3]
 .cases h
def zPg{sz k j off k' L i sR iF:Nat}{rd:Rd S.T}(h:Tp.read hp bg H (.rp sz k j off) (.rp k' L i sR iF)=bc rd)(hs:Sat ds rd.ps)(hn:mq σ rd.ns)(he:xZ rd.eq)(hr:o8 hp ds σ H):(A.rp (T:=S.T) k' L i sR iF)=((Tp.rp sz k j off).put hp ds).dW σ:=by
 simp only[Tp.read]at h;split at h
 .rename_i l w q hg hq
  cases hb:bk sz iF&&bk off sR with
  |false=>rw[hb]at h;cases h
  |true =>
   rw[hb]at h;cases h;simp only[bn]at hb;have e1:=eb hb.1;have e4:=eb hb.2;subst e1;subst e4;have e2:σ k=k':=hn _ (bS.2 rfl);have e3:L=l.length:=(he _ (bS.2 rfl)).trans w.h.symm;have e5:WC ds j (.i .i64)=Int.ofNat i:=hs _ (bS.2 rfl);obtain⟨c,j'⟩:=q;simp only[Tp.put,A.dW,JJ hq,e2,e5];rw[hr.r k c j' hq _ _ _ _ _ (by rw[e2];exact hg),e3];rfl
 .cases h
mutual
def wy(hS:S.OK):∀(t:Tp)(a:A S.T)(rd:Rd S.T),Tp.read hp bg H t a=bc rd->Sat ds rd.ps->mq σ rd.ns->xZ rd.eq->o8 hp ds σ H->a.v=((t.put hp ds).dW σ).v/\rd.fz=[]
 |.d c j,a,rd,h,hs,hn,he,hr=>by
  simp only[Tp.read,aH]at h;split at h
  .rename_i x e;cases h;have h1:WC ds j c=x:=hs _ (bS.2 rfl);refine⟨?_,rfl⟩;simp only[Tp.put,A.dW,h1];exact zUv e
  .cases h
 |.row sz k,a,rd,h,hs,hn,he,hr=>by
  cases a<;>first|(simp only[Tp.read]at h;cases h;done)|skip
  rename_i iF k' n;refine⟨aQ A.v (zIh h hn he hr),?_⟩;simp only[Tp.read]at h;split at h
  .cases hb:bk sz iF with
   |false=>rw[hb]at h;cases h
   |true=>rw[hb]at h;cases h;rfl
  .cases h
 |.pU sz k,a,rd,h,hs,hn,he,hr=>by
  cases a<;>first|(simp only[Tp.read]at h;cases h;done)|skip
  rename_i iF k' n;refine⟨aQ A.v (zBs h hn he hr),?_⟩;simp only[Tp.read]at h;split at h
  .cases hb:bk sz iF with
   |false=>rw[hb]at h;cases h
   |true=>rw[hb]at h;cases h;rfl
  .cases h
 |.rp sz k j off,a,rd,h,hs,hn,he,hr=>by
  cases a<;>first|(simp only[Tp.read]at h;cases h;done)|skip
  rename_i k' L i sR iF;refine⟨aQ A.v (zPg h hs hn he hr),?_⟩;simp only[Tp.read]at h;split at h
  .cases hb:bk sz iF&&bk off sR with
   |false=>rw[hb]at h;cases h
   |true=>rw[hb]at h;cases h;rfl
  .cases h
 |.om k,a,rd,h,hs,hn,he,hr=>by
  cases a<;>first|(simp only[Tp.read]at h;cases h;done)|skip
  rename_i k';simp only[Tp.read]at h;cases h;refine⟨?_,rfl⟩;have e2:σ k=k':=hn _ (bS.2 rfl);simp only[Tp.put,A.dW,e2]
 |.ci k n,a,rd,h,hs,hn,he,hr=>by
  cases a<;>first|(simp only[Tp.read]at h;cases h;done)|skip
  rename_i c x
  cases c<;>first|(simp only[Tp.read]at h;cases h;done)|skip
  rename_i k';simp only[Tp.read]at h
  cases hb:decide (k'=k)&&Y' x n with
  |false=>rw[hb]at h;cases h
  |true =>
   rw[hb]at h;cases h;simp only[bn,aW]at hb;obtain⟨rfl,hx⟩:=hb;have hx:@Eq Int x n:=zO2 hx;subst hx;exact⟨by simp only[Tp.put,A.dW],rfl⟩
 |.kq,a,rd,h,hs,hn,he,hr=>by
  cases a<;>first|(simp only[Tp.read]at h;cases h;done)|skip
  rename_i v
  cases v<;>first|(simp only[Tp.read]at h;cases h;done)|skip
  simp only[Tp.read]at h;cases h;exact⟨by simp only[Tp.put,A.dW,A.v,V.dW],rfl⟩
 |.gR,a,rd,h,hs,hn,he,hr=>by
  cases a<;>first|(simp only[Tp.read]at h;cases h;done)|skip
  rename_i v
  cases v<;>first|(simp only[Tp.read]at h;cases h;done)|skip
  simp only[Tp.read]at h;cases h;exact⟨by simp only[Tp.put,A.dW,A.v,V.dW],rfl⟩
 |.lZ,a,rd,h,hs,hn,he,hr=>by
  cases a<;>first|(simp only[Tp.read]at h;cases h;done)|skip
  rename_i v
  cases v<;>first|(simp only[Tp.read]at h;cases h;done)|skip
  simp only[Tp.read]at h;cases h;exact⟨by simp only[Tp.put,A.dW,A.v,V.dW],rfl⟩
 |.k_,a,rd,h,hs,hn,he,hr=>by
  cases a<;>first|(simp only[Tp.read]at h;cases h;done)|skip
  rename_i v
  cases v<;>first|(simp only[Tp.read]at h;cases h;done)|skip
  simp only[Tp.read]at h;cases h;exact⟨by simp only[Tp.put,A.dW,A.v,V.dW],rfl⟩
 |.lJ,a,rd,h,hs,hn,he,hr=>by
  cases a<;>first|(simp only[Tp.read]at h;cases h;done)|skip
  rename_i v
  cases v<;>first|(simp only[Tp.read]at h;cases h;done)|skip
  simp only[Tp.read]at h;cases h;exact⟨by simp only[Tp.put,A.dW,A.v,V.dW],rfl⟩
 |.no,a,rd,h,hs,hn,he,hr=>by
  cases a<;>first|(simp only[Tp.read]at h;cases h;done)|skip
  rename_i v
  cases v<;>first|(simp only[Tp.read]at h;cases h;done)|skip
  simp only[Tp.read]at h;cases h;exact⟨by simp only[Tp.put,A.dW,A.v,V.dW],rfl⟩
 |.Np,a,rd,h,hs,hn,he,hr=>by cases a<;>(simp only[Tp.read]at h;cases h)
 |.ptr k off,a,rd,h,hs,hn,he,hr=>by
  cases a<;>first|(simp only[Tp.read]at h;cases h;done)|skip
  rename_i v
  cases v<;>first|(simp only[Tp.read]at h;cases h;done)|skip
  rename_i k' L sR
  cases L with
  |succ L=>simp only[Tp.read]at h;cases h
  |zero =>
   simp only[Tp.read]at h
   cases hb:bk off sR with
   |false=>rw[hb]at h;cases h
   |true =>
    rw[hb]at h;cases h;have e1:=eb hb;subst e1;have e2:σ k=k':=hn _ (bS.2 rfl);exact⟨by simp only[Tp.put,A.dW,A.v,V.dW,e2],rfl⟩
 |.mp k,a,rd,h,hs,hn,he,hr=>by
  cases a<;>first|(simp only[Tp.read]at h;cases h;done)|skip
  rename_i v
  cases v<;>first|(simp only[Tp.read]at h;cases h;done)|skip
  rename_i k';simp only[Tp.read]at h;cases h;have e2:σ k=k':=hn _ (bS.2 rfl);exact⟨by simp only[Tp.put,A.dW,A.v,V.dW,e2],rfl⟩
 |.ag l,a,rd,h,hs,hn,he,hr=>by
  cases a<;>first|(simp only[Tp.read]at h;cases h;done)|skip
  rename_i l';simp only[Tp.read]at h;obtain⟨h1,h2⟩:=KC hS l l' rd h hs hn he hr;exact⟨by simp only[Tp.put,A.dW,A.v,h1],h2⟩
 |.gu l,a,rd,h,hs,hn,he,hr=>by
  cases a<;>first|(simp only[Tp.read]at h;cases h;done)|skip
  rename_i l';simp only[Tp.read]at h;obtain⟨h1,h2⟩:=KC hS l l' rd h hs hn he hr;exact⟨by simp only[Tp.put,A.dW,A.v,h1],h2⟩
 |.fn f x y,a,rd,h,hs,hn,he,hr=>by
  cases a<;>first|(simp only[Tp.read]at h;cases h;done)|skip
  rename_i f' x' y';simp only[Tp.read]at h
  cases hb:bk f f' with
  |false=>rw[hb]at h;cases h
  |true =>
   rw[hb]at h;have e1:=eb hb;subst e1;dsimp only[aH]at h;split at h
   .rename_i r1 g1;split at h
    .rename_i r2 g2;cases h;obtain⟨h1,h2⟩:=KC hS x x' r1 g1 hs.left hn.left he.left hr;obtain⟨h3,h4⟩:=KC hS y y' r2 g2 hs.right hn.right he.right hr;exact⟨by simp only[Tp.put,A.dW,A.v,h1,h3],by simp only[Rd.app,h2,h4,bM]⟩
    .cases h
   .cases h
 |.iG afL x,a,rd,h,hs,hn,he,hr=>by
  cases a<;>first|(simp only[Tp.read]at h;cases h;done)|skip
  rename_i t' x';simp only[Tp.read]at h
  cases hb:bk afL t' with
  |false=>rw[hb]at h;cases h
  |true =>
   rw[hb]at h;have e1:=eb hb;subst e1;obtain⟨h1,h2⟩:=wy hS x x' rd h hs hn he hr;exact⟨by simp only[Tp.put,A.dW,A.v,h1],h2⟩
def KC(hS:S.OK):∀(ts:List Tp)(asZ:List (A S.T))(rd:Rd S.T),Tp.reads hp bg H ts asZ=bc rd->Sat ds rd.ps->mq σ rd.ns->xZ rd.eq->o8 hp ds σ H->A.vs asZ=A.vs (A.pV σ (Tp.j_ hp ds ts))/\rd.fz=[]
 |[],[],rd,h,hs,hn,he,hr=>by
  simp only[Tp.reads]at h;cases h;exact⟨by simp only[Tp.j_,A.pV],rfl⟩
 |t::ts,a::asZ,rd,h,hs,hn,he,hr=>by
  simp only[Tp.reads]at h;split at h
  .rename_i r1 g1;split at h
   .rename_i r2 g2;cases h;obtain⟨h1,h2⟩:=wy hS t a r1 g1 hs.left hn.left he.left hr;obtain⟨h3,h4⟩:=KC hS ts asZ r2 g2 hs.right hn.right he.right hr;exact⟨by simp only[Tp.j_,A.pV,A.vs,h1,h3],by simp only[Rd.app,h2,h4,bM]⟩
   .cases h
  .cases h
 |[],_::_,_,h,_,_,_,_=>by simp only[Tp.reads]at h;cases h
 |_::_,[],_,h,_,_,_,_=>by simp only[Tp.reads]at h;cases h
end
def KD{t:Tp}(a:A S.T)(ht:t=.kq∨t=.gR∨t=.lZ∨t=.k_∨t=.lJ∨t=.no):Tp.read hp bg H t a=Tp.read hp bd H t a:=by
 rcases ht with rfl|rfl|rfl|rfl|rfl|rfl<;>(cases a<;>first|(simp only[Tp.read];done)|(rename_i v;cases v<;>simp only[Tp.read]))
mutual
def zBt(hS:S.OK){R:ax}:∀(t:Tp)(a:A S.T)(rd:Rd S.T),Tp.read hp bd H t a=bc rd->Sat ds rd.ps->mq σ rd.ns->xZ rd.eq->o8 hp ds σ H->RowsIn H R rd.fz->av R a.v ((t.put hp ds).dW σ).v
 |.d c j,a,rd,h,hs,hn,he,hr,hR=>by
  simp only[Tp.read,cf]at h;split at h
  .rename_i rx e;cases h;have h1:WC ds j c=rx.x:=hs _ (bS.2 rfl);simp only[Tp.put,A.dW,h1];exact zbp hS e he hR
  .cases h
 |.ag l,a,rd,h,hs,hn,he,hr,hR=>by
  cases a<;>first|(simp only[Tp.read]at h;cases h;done)|skip
  rename_i l';simp only[Tp.read]at h;have:=uP hS l l' rd h hs hn he hr hR;simp only[Tp.put,A.dW,A.v];exact .agg this
 |.gu l,a,rd,h,hs,hn,he,hr,hR=>by
  rw[(wy hS (.gu l) a rd (by rw[<- h];cases a<;>simp only[Tp.read]) hs hn he hr).1];exact .same _
 |.kq,a,rd,h,hs,hn,he,hr,hR=>by rw[(wy hS .kq a rd (by rw[<- h];exact KD a af) hs hn he hr).1];exact .same _
 |.gR,a,rd,h,hs,hn,he,hr,hR=>by rw[(wy hS .gR a rd (by rw[<- h];exact KD a af) hs hn he hr).1];exact .same _
 |.lZ,a,rd,h,hs,hn,he,hr,hR=>by rw[(wy hS .lZ a rd (by rw[<- h];exact KD a af) hs hn he hr).1];exact .same _
 |.k_,a,rd,h,hs,hn,he,hr,hR=>by rw[(wy hS .k_ a rd (by rw[<- h];exact KD a af) hs hn he hr).1];exact .same _
 |.lJ,a,rd,h,hs,hn,he,hr,hR=>by rw[(wy hS .lJ a rd (by rw[<- h];exact KD a af) hs hn he hr).1];exact .same _
 |.no,a,rd,h,hs,hn,he,hr,hR=>by rw[(wy hS .no a rd (by rw[<- h];exact KD a af) hs hn he hr).1];exact .same _
 |.ptr k off,a,rd,h,hs,hn,he,hr,hR=>by rw[(wy hS (.ptr k off) a rd (by rw[<- h];cases a<;>first|(simp only[Tp.read];done)|(rename_i v;cases v<;>first|(simp only[Tp.read];done)|(rename_i q L sR;cases L<;>simp only[Tp.read]))) hs hn he hr).1];exact .same _
 |.mp k,a,rd,h,hs,hn,he,hr,hR=>by rw[(wy hS (.mp k) a rd (by rw[<- h];cases a<;>first|(simp only[Tp.read];done)|(rename_i v;cases v<;>simp only[Tp.read])) hs hn he hr).1];exact .same _
 |.row sz k,a,rd,h,hs,hn,he,hr,hR=>by rw[(wy hS (.row sz k) a rd (by rw[<- h];cases a<;>simp only[Tp.read]) hs hn he hr).1];exact .same _
 |.rp sz k j off,a,rd,h,hs,hn,he,hr,hR=>by rw[(wy hS (.rp sz k j off) a rd (by rw[<- h];cases a<;>simp only[Tp.read]) hs hn he hr).1];exact .same _
 |.pU sz k,a,rd,h,hs,hn,he,hr,hR=>by rw[(wy hS (.pU sz k) a rd (by rw[<- h];cases a<;>simp only[Tp.read]) hs hn he hr).1];exact .same _
 |.om k,a,rd,h,hs,hn,he,hr,hR=>by rw[(wy hS (.om k) a rd (by rw[<- h];cases a<;>simp only[Tp.read]) hs hn he hr).1];exact .same _
 |.ci k n,a,rd,h,hs,hn,he,hr,hR=>by rw[(wy hS (.ci k n) a rd (by rw[<- h];cases a<;>first|(simp only[Tp.read];done)|(rename_i c x;cases c<;>simp only[Tp.read])) hs hn he hr).1];exact .same _
 |.fn f x y,a,rd,h,hs,hn,he,hr,hR=>by rw[(wy hS (.fn f x y) a rd (by rw[<- h];cases a<;>simp only[Tp.read]) hs hn he hr).1];exact .same _
 |.iG f x,a,rd,h,hs,hn,he,hr,hR=>by rw[(wy hS (.iG f x) a rd (by rw[<- h];cases a<;>simp only[Tp.read]) hs hn he hr).1];exact .same _
def uP(hS:S.OK){R:ax}:∀(ts:List Tp)(asZ:List (A S.T))(rd:Rd S.T),Tp.reads hp bd H ts asZ=bc rd->Sat ds rd.ps->mq σ rd.ns->xZ rd.eq->o8 hp ds σ H->RowsIn H R rd.fz->jT R (A.vs asZ) (A.vs (A.pV σ (Tp.j_ hp ds ts)))
 |[],[],rd,h,hs,hn,he,hr,hR=>by
  simp only[Tp.j_,A.pV,A.vs];exact .nil
 |t::ts,a::asZ,rd,h,hs,hn,he,hr,hR=>by
  simp only[Tp.reads]at h;split at h
  .rename_i r1 g1;split at h
   .rename_i r2 g2;cases h;simp only[Tp.j_,A.pV,A.vs];exact .cons (zBt hS t a r1 g1 hs.left hn.left he.left hr hR.left) (uP hS ts asZ r2 g2 hs.right hn.right he.right hr hR.right)
   .cases h
  .cases h
 |[],_::_,_,h,_,_,_,_,_=>by simp only[Tp.reads]at h;cases h
 |_::_,[],_,h,_,_,_,_,_=>by simp only[Tp.reads]at h;cases h
end
end
section
variable{S:lD}
def Nu(hp:List (Nat×TO))(ds:List (Dy S.T))(l:List (Nat×TO)):AH S.T:=l.map λp=>(p.1,p.2.put hp ds)
variable{hp:List (Nat×TO)}{ds:List (Dy S.T)}{σ:Nat->Nat}{H:AH S.T}
def KE:∀{hp:List (Nat×TO)}{k:Nat}{c:TC}{j:Nat},Bp hp k=bc (c,j)->∃e fz,(k,TO.row e c j fz)∈hp
 |(k',.row e c' j' fz)::r,k,c,j,h=>by
  simp only[Bp]at h
  cases hb:bk k k' with
  |true =>
   rw[hb]at h;cases h;have:=eb hb;subst this;exact⟨e,fz,al⟩
  |false =>
   rw[hb]at h;obtain⟨e,fz,h1⟩:=KE h;exact⟨e,fz,gq _ h1⟩
 |(k',.box ..)::r,k,c,j,h=>by
  obtain⟨e,fz,h1⟩:=KE (hp:=r) h;exact⟨e,fz,gq _ h1⟩
 |(k',.map ..)::r,k,c,j,h=>by
  obtain⟨e,fz,h1⟩:=KE (hp:=r) h;exact⟨e,fz,gq _ h1⟩
 |(k',.rw _)::r,k,c,j,h=>by
  obtain⟨e,fz,h1⟩:=KE (hp:=r) h;exact⟨e,fz,gq _ h1⟩
 |(k',.gn ..)::r,k,c,j,h=>by obtain⟨e,fz,h1⟩:=KE (hp:=r) h;exact⟨e,fz,gq _ h1⟩
def UF:∀{ns:List (Nat×Nat)}{k k':Nat},NN ns k=bc k'->(k,k')∈ns
 |(a,b)::r,k,k',h=>by
  simp only[NN]at h
  cases hb:bk k a with
  |true =>
   rw[hb]at h;cases h;have:=eb hb;subst this;exact al
  |false=>rw[hb]at h;exact gq _ (UF h)
def zmc{e:Nat}{c:TC}{j:Nat}{fz:Bool}{o:OA S.T}{rd:Rd S.T}(h:TO.read hp H (.row e c j fz) o=bc rd)(hs:Sat ds rd.ps):∃f l w,o=.row e c f l w/\WC ds j (.l c)=l/\Rf fz f=bg/\rd.fz=[]:=by
 cases o<;>first|(simp only[TO.read]at h;cases h;done)|skip
 rename_i e' c' f l wl;simp only[TO.read]at h
 cases hb:bk e e'&&Rf fz f with
 |false=>rw[hb]at h;cases h
 |true =>
  rw[hb]at h;simp only[bn]at hb;have e1:=eb hb.1;subst e1;dsimp only[aH]at h;split at h
  .rename_i e2;subst e2;cases h;exact⟨f,l,wl,rfl,hs _ (bS.2 rfl),hb.2,rfl⟩
  .cases h
def zIi(hS:S.OK){toZ:TO}{o:OA S.T}{rd:Rd S.T}(h:TO.read hp H toZ o=bc rd)(hs:Sat ds rd.ps)(hn:mq σ rd.ns)(he:xZ rd.eq)(hr:o8 hp ds σ H):o.o=((toZ.put hp ds).dW σ).o/\rd.fz=[]:=by
 cases toZ with
 |box t cs =>
  cases o<;>first|(simp only[TO.read]at h;cases h;done)|skip
  rename_i t' iK;simp only[TO.read]at h
  cases hb:bk t t' with
  |false=>rw[hb]at h;cases h
  |true =>
   rw[hb]at h;have e1:=eb hb;subst e1;obtain⟨h1,h2⟩:=KC hS cs iK rd h hs hn he hr;exact⟨by simp only[OA.o,TO.put,OA.dW,h1],h2⟩
 |row e c j fz =>
  obtain⟨f,l,w,rfl,e1,e2,e3⟩:=zmc h hs;refine⟨?_,e3⟩;simp only[TO.put,OA.dW,e1,OA.o]
  cases fz<;>cases f<;>first|(cases e2;done)|rfl
 |map kc ec j =>
  cases o<;>first|(simp only[TO.read]at h;cases h;done)|skip
  rename_i SD pY l;simp only[TO.read]at h;split at h
  .rename_i e;obtain⟨rfl,rfl⟩:=e;cases h;have h1:WC ds j (.m SD pY)=l:=hs _ (bS.2 rfl);exact⟨by simp only[TO.put,OA.dW,h1],rfl⟩
  .cases h
 |gn i c j =>
  cases o<;>first|(simp only[TO.read]at h;cases h;done)|skip
  rename_i i' c' x;simp only[TO.read]at h
  cases hb:bk i i' with
  |false=>rw[hb]at h;cases h
  |true =>
   rw[hb]at h;have e1:=eb hb;subst e1;dsimp only[aH]at h;split at h
   .rename_i e;subst e;cases h;have h1:WC ds j c'=x:=hs _ (bS.2 rfl);exact⟨by simp only[TO.put,OA.dW,h1],rfl⟩
   .cases h
 |rw i =>
  cases o<;>first|(simp only[TO.read]at h;cases h;done)|skip
  rename_i i';simp only[TO.read]at h
  cases hb:bk i i' with
  |false=>rw[hb]at h;cases h
  |true =>
   rw[hb]at h;have e1:=eb hb;subst e1;cases h;exact⟨rfl,rfl⟩
def zf3:∀{l:List (Nat×TO)}{ns:List (Nat×Nat)}{rd:Rd S.T},By hp H ns l=bc rd->Sat ds rd.ps->mq σ ns->mq σ rd.ns->∀k e c j fz,(k,TO.row e c j fz)∈l->∃f l' w,H.get (σ k)=bc (.row e c f l' w)/\WC ds j (.l c)=l'
 |[],ns,rd,h,hs,h1,h2,k,e,c,j,fz,hm=>by cases hm
 |(k0,o)::r,ns,rd,h,hs,h1,h2,k,e,c,j,fz,hm=>by
  simp only[By]at h;split at h
  .rename_i k' hk;split at h
   .rename_i o' ho;split at h
    .rename_i x hx;split at h
     .rename_i y hy;cases h
      rcases bq.1 hm with e1|hm
      .cases e1;obtain⟨f,l',w,rfl,e2,_,_⟩:=zmc hx hs.left;have e3:=h1 _ (UF hk);exact⟨f,l',w,by rw[e3];exact ho,e2⟩
      .exact zf3 hy hs.right (λp hp=>(bw.1 hp).elim (h1 p) (h2.left p)) h2.right k e c j fz hm
     .cases h
    .cases h
   .cases h
  .cases h
def VE{ns:List (Nat×Nat)}{rd:Rd S.T}(h:By hp H ns hp=bc rd)(hs:Sat ds rd.ps)(h1:mq σ ns)(h2:mq σ rd.ns):o8 hp ds σ H:=⟨λk c j hj e c' fz l wl hg=>by
 obtain⟨e0,fz0,hm⟩:=KE hj;obtain⟨f,l',w,g1,g2⟩:=zf3 h hs h1 h2 k e0 c j fz0 hm;rw[hg]at g1;cases g1
 rw[g2]⟩
def VF(hS:S.OK):∀{l:List (Nat×TO)}{ns:List (Nat×Nat)}{rd:Rd S.T},By hp H ns l=bc rd->Sat ds rd.ps->mq σ ns->mq σ rd.ns->xZ rd.eq->o8 hp ds σ H->∀F,qL (l.map λp=>σ p.1) H=bc F->hV F=JF σ (hV (Nu hp ds l))/\rd.fz=[]
 |[],ns,rd,h,hs,h1,h2,he,hr,F,hF=>by
  simp only[By]at h;cases h;cases zm hF;exact⟨rfl,rfl⟩
 |(k0,o)::r,ns,rd,h,hs,h1,h2,he,hr,F,hF=>by
  simp only[By]at h;split at h
  .rename_i k' hk;split at h
   .rename_i o' ho;split at h
    .rename_i x hx;split at h
     .rename_i y hy;cases h;have e3:σ k0=k':=h1 _ (UF hk);simp only[gf,qL,e3,ho]at hF;split at hF
      .rename_i F' BR;cases hF;obtain⟨g1,g2⟩:=zIi hS hx hs.left h2.left he.left hr;obtain⟨g3,g4⟩:=VF hS hy hs.right (λp hp=>(bw.1 hp).elim (h1 p) (h2.left p)) h2.right he.right hr F' BR;refine⟨?_,by simp only[Rd.app,g2,g4,bM]⟩;have g5:((o.put hp ds).dW σ).o=(o.put hp ds).o.dW σ:=zL9 hS _;simp only[hV,gf,JF,Nu]at g3 ⊢;rw[g3,g1,g5,e3]
      .cases hF
     .cases h
    .cases h
   .cases h
  .cases h
def dedup:List Nat->List Nat
 |[]=>[]
 |k::r=>bif tE k r then dedup r else k::dedup r
def ux(d:Nat)(hin iB:List (Nat×TO)):List (Nat×Nat):=(((iB.map (·.1)).filter λk=>!((hin.map (·.1)).contains k)).zipIdx).map λp=>(p.1,3000000+d*100+p.2)
def OA.gD:OA S.T->OA S.T
 |.row e c _ l w=>.row e c .all l w
 |o=>o
def Zw:OA S.T->Bool
 |.row ..=>bg
 |_=>bd
def ny(F:AH S.T):AH S.T:=F.map λp=>(p.1,p.2.gD)
def Co:List (Nat×TO)->List (Nat×Nat)
 |[]=>[]
 |(k,.rw (_+1))::r=>(k,k)::Co r
 |_::r=>Co r
def Ct.tO(c:Ct S)(d:Nat)(rd:Rd S.T)(fz:List Nat)(R:AH S.T):Bool:=
 nodupB (rd.ps.map (·.1))&&(rd.ps.all (λp=>cw (p.1+1) c.ci.length)&&((rd.ns++Co c.hin).all (λp=>bk (iy (rd.ns++ux d c.hin c.iB) p.1) p.2) &&
  (nodupB ((c.iB.map (·.1)).map (iy (rd.ns++ux d c.hin c.iB)))&&((c.hin.map (·.1)).all (c.iB.map (·.1)).contains&&(qN c.ins c.hin&&(R.all (λp=>Zw p.2) &&
  ((c.iB.map (λp=>iy (rd.ns++ux d c.hin c.iB) p.1)).all λk=>!(R.has k))))))))
def L3:Tp->Bool
 |.d (.i _) _=>bg
 |.d .b _=>bg
 |.d .s _=>bg
 |_=>bd
def Ue:Tp->Bool
 |.gu l=>l.all L3
 |t=>L3 t
def Ct.fK(c:Ct S):Bool:=c.hin.isEmpty&&(c.iB.isEmpty&&Ue c.out)
def Ct.call(c:Ct S)(H:AH S.T)(d:Nat)(vs:List (A S.T)):Option (OR S):=match Tp.reads c.hin bd H c.ins vs with
 |some r1=>match By c.hin H (r1.ns++Co c.hin) c.hin with
  |some r2=>match Bz (r1.app r2).ps 0 c.ci,qL (dedup r1.fz) H with
   |some x,bc R =>
    bif c.tO d (r1.app r2) (dedup r1.fz) R
    then bif c.fK then bc (.eqs (r1.app r2).eq (.iJ (c.fn x) [] (dedup r1.fz) λr=>bc (c.out.put c.iB (yP c.ci x++yP c.co r),[])))
    else bc (.eqs (r1.app r2).eq (.iJ (c.fn x) ((c.hin.map λp=>iy ((r1.app r2).ns++ux d c.hin c.iB) p.1)++dedup r1.fz) [] λr =>bc ((c.out.put c.iB (yP c.ci x++yP c.co r)).dW (iy ((r1.app r2).ns++ux d c.hin c.iB)),IN (iy ((r1.app r2).ns++ux d c.hin c.iB)) (oY c.iB (yP c.ci x++yP c.co r))++ny R)))
    else bh
   |_,_=>bh
  |none=>bh
 |none=>bh
def qC{k:Nat}:∀{l:List Nat},k∈l->k∈dedup l
 |a::r,h=>by
  simp only[dedup]
  cases hb:tE a r with
  |true =>
   rw[aH]
   have ha:a∈r:=by
    clear h
    induction r with
    |nil=>cases hb
    |cons b r ih =>
     simp only[tE]at hb
     cases hc:bk a b with
     |true=>rw[eb hc];exact al
     |false=>rw[hc]at hb;exact gq _ (ih hb)
   rcases bq.1 h with rfl|h
   .exact qC ha
   .exact qC h
  |false =>
   rw[cf]
   rcases bq.1 h with rfl|h
   .exact al
   .exact gq _ (qC h)
def zt1(p:Nat×EV.Obj)(F:ax):gD (p::F)=gD [p]++gD F:=by obtain⟨k,o⟩:=p;cases o<;>rfl
def jZ(hS:S.OK):∀{F:AH S.T},hV (ny F)=gD (hV F)
 |[]=>rfl
 |(k,o)::r=>by
  have ih:=jZ hS (F:=r)
  cases o with
  |rw i =>
   show(k,S.ro i)::hV (ny r)=gD ((k,S.ro i)::hV r)
   rw[zt1,hS.Zv,ih];rfl
  |gn i c x =>
   show(k,S.go i c x)::hV (ny r)=gD ((k,S.go i c x)::hV r)
   rw[zt1,hS.YR,ih];rfl
  |box t cs=>simp only[ny,hV,gf,OA.gD,OA.o,gD]at ih ⊢;rw[ih]
  |map kc ec l=>simp only[ny,hV,gf,OA.gD,OA.o,gD]at ih ⊢;rw[ih]
  |row e c f l w=>simp only[ny,hV,gf,OA.gD,OA.o,gD,Fz.n,bL]at ih ⊢;rw[ih]
def oj:∀{F:ax},gD (gD F)=gD F
 |[]=>rfl
 |(k,.row t sz _ els)::r=>by simp only[gD,oj (F:=r)]
 |(k,.box t cs)::r=>by simp only[gD,oj (F:=r)]
 |(k,.map l)::r=>by simp only[gD,oj (F:=r)]
 |(k,.kg g t cs)::r=>by simp only[gD,oj (F:=r)]
 |(k,.nest g t sz0 pd0 ls0)::r=>by simp only[gD,oj (F:=r)]
 |(k,.gen g)::r=>by simp only[gD,oj (F:=r)]
def WO:∀{ps:List (Nat×Dy S.T)}{j:Nat}{c:TC}{x:c.ty S.T},pick j c ps=bc x->(ps.map (·.1)).Nodup->∀d,(j,d)∈ps->d=⟨c,x⟩
 |(j',⟨c',y⟩)::r,j,c,x,h,hn,d,hd=>by
  simp only[gf,cJ]at hn;simp only[pick]at h
  cases hb:bk j j' with
  |true =>
   rw[hb]at h;have e1:=eb hb;subst e1;dsimp only[aH]at h;split at h
   .rename_i e;subst e;cases h
    rcases bq.1 hd with e2|hd
    .cases e2;rfl
    .exact aU (cm hd) hn.1
   .cases h
  |false =>
   rw[hb]at h
   rcases bq.1 hd with e2|hd
   .cases e2;rw[cF]at hb;cases hb
   .exact WO h hn.2 d hd
def UG{ps:List (Nat×Dy S.T)}(hn:(ps.map (·.1)).Nodup):∀(cs:List TC)(j0:Nat)(x:HL S.T cs),Bz ps j0 cs=bc x->∀j d,(j,d)∈ps->j0<=j->j<j0+cs.length->(yP cs x)[j-j0]?=bc d
 |[],j0,x,h,j,d,hd,h1,h2=>by simp at h2;omega
 |[c],j0,x,h,j,d,hd,h1,h2=>by
  have e1:j=j0:=by simp at h2;omega
  subst e1;simp only[Bz]at h;rw[WO h hn d hd];simp[yP]
 |c::c'::r,j0,x,h,j,d,hd,h1,h2=>by
  simp only[Bz]at h;split at h
  .rename_i y hy;split at h
   .rename_i z hz;cases h;by_cases e1:j=j0
    .subst e1;rw[WO hy hn d hd];simp[yP]
    .have:=UG hn (c'::r) (j0+1) z hz j d hd ab (by simp only[lc]at h2 ⊢;omega)
     show((⟨c,y⟩:Dy S.T)::yP (c'::r) z)[j-j0]?=bc d
     rw[show j-j0=(j-(j0+1))+1 by omega,List.getElem?_cons_succ];exact this
   .cases h
  .cases h
def zBu{ds:List (Dy S.T)}{j:Nat}{d:Dy S.T}(h:ds[j]?=bc d):WC ds j d.1=d.2:=by unfold WC;rw[h];simp
def Pn{ps:List (Nat×Dy S.T)}(hn:(ps.map (·.1)).Nodup){cs:List TC}{x:HL S.T cs}(h:Bz ps 0 cs=bc x)(hl:∀p∈ps,p.1<cs.length):Sat (yP cs x) ps:=λp hp=>by obtain⟨j,d⟩:=p;have:=UG hn cs 0 x h j d hp (bP _) (by have:=hl _ hp;simpa using this);exact zBu this
def zbv:∀{a b:List Nat}{F:AH S.T},qL (a++b) H=bc F->∃F1 F2,F=F1++F2/\qL a H=bc F1/\qL b H=bc F2
 |[],b,F,h=>⟨[],F,rfl,rfl,h⟩
 |k::a,b,F,h=>by
  simp only[List.cons_append,qL]at h;split at h
  .rename_i o ho;split at h
   .rename_i F' BR;cases h;obtain⟨F1,F2,rfl,h1,h2⟩:=zbv BR;exact⟨(k,o)::F1,F2,rfl,by simp only[qL,ho,h1],h2⟩
   .cases h
  .cases h
def VG:∀{ks:List Nat}{R:AH S.T},qL ks H=bc R->∀k∈ks,∀o,H.get k=bc o->(hV (ny R)).get k=bc o.gD.o
 |k0::r,R,h,k,hk,o,ho=>by
  simp only[qL]at h;split at h
  .rename_i o0 Sd;split at h
   .rename_i F' BR;cases h;simp only[ny,hV,gf,ax.get]
    cases hb:bk k k0 with
    |true =>
     have:=eb hb;subst this;rw[Sd]at ho;cases ho;rfl
    |false =>
     rcases bq.1 hk with rfl|hk
     .rw[cF]at hb;cases hb
     .exact VG BR k hk o ho
   .cases h
  .cases h
def zme:∀{ks:List Nat}{R:AH S.T},qL ks H=bc R->∀k∈ks,∀o,H.get k=bc o->(hV R).get k=bc o.o
 |k0::r,R,h,k,hk,o,ho=>by
  simp only[qL]at h;split at h
  .rename_i o0 Sd;split at h
   .rename_i F' BR;cases h;simp only[hV,gf,ax.get]
    cases hb:bk k k0 with
    |true =>
     have:=eb hb;subst this;rw[Sd]at ho;cases ho;rfl
    |false =>
     rcases bq.1 hk with rfl|hk
     .rw[cF]at hb;cases hb
     .exact zme BR k hk o ho
   .cases h
  .cases h
def LB{σ:Nat->Nat}{a b:List (Nat×Nat)}(h:mq σ a)(k:mq σ b):mq σ (a++b):=λp hp=>(bw.1 hp).elim (h p) (k p)
def zmf{hp:List (Nat×TO)}{ds:List (Dy S.T)}{t:Tp}(h:L3 t=bg):(t.put hp ds).v.bare=bg/\(t.put hp ds).v.refs=[]:=by
 unfold L3 at h;split at h
 .exact⟨by simp only[Tp.put,A.v,vt,V.bare],by simp only[Tp.put,A.v,vt,V.refs]⟩
 .exact⟨by simp only[Tp.put,A.v,vt,V.bare],by simp only[Tp.put,A.v,vt,V.refs]⟩
 .exact⟨by simp only[Tp.put,A.v,vt,V.bare],by simp only[Tp.put,A.v,vt,V.refs]⟩
 .cases h
def zt3{hp:List (Nat×TO)}{ds:List (Dy S.T)}:∀{l:List Tp},l.all L3=bg->Vu (A.vs (Tp.j_ hp ds l))=bg/\wi (A.vs (Tp.j_ hp ds l))=[]
 |[],_=>⟨by simp only[Tp.j_,A.vs,Vu],by simp only[Tp.j_,A.vs,wi]⟩
 |t::r,h=>by simp only[List.all_cons,bn]at h;obtain⟨h1,h2⟩:=zmf (hp:=hp) (ds:=ds) h.1;obtain⟨h3,h4⟩:=zt3 (hp:=hp) (ds:=ds) h.2;exact⟨by simp only[Tp.j_,A.vs,Vu,h1,h3,abp],by simp only[Tp.j_,A.vs,wi,h2,h4,bM]⟩
def zIj{hp:List (Nat×TO)}{ds:List (Dy S.T)}{t:Tp}(h:Ue t=bg):(t.put hp ds).v.bare=bg/\(t.put hp ds).v.refs=[]:=by
 unfold Ue at h;split at h
 .obtain⟨h1,h2⟩:=zt3 (hp:=hp) (ds:=ds) h;exact⟨by simp only[Tp.put,A.v,V.bare,h1],by simp only[Tp.put,A.v,V.refs,h2]⟩
 .exact zmf h
def Uf(hS:S.OK){σ:Nat->Nat}:∀{F:AH S.T},hV (IN σ F)=JF σ (hV F)
 |[]=>rfl
 |(k,o)::r=>by have ih:=Uf hS (σ:=σ) (F:=r);have h1:=zL9 hS (σ:=σ) o;simp only[IN,hV,JF,gf]at ih ⊢;rw[ih,h1]
def zt4{k:Nat}:∀{F:AH S.T},(ny F).has k=F.has k
 |[]=>rfl
 |p::r=>by have ih:=zt4 (k:=k) (F:=r);simp only[ny,gf,AH.has]at ih ⊢;rw[ih]
def zPj(hS:S.OK){P:bm}{f d:Nat}{c:Ct S}(hc:c.OK P f){o:Oper}{E:AE S.T}{vs:List (A S.T)}(hv:GC P o (eV E) f (A.vs vs)){r:OR S}(h:c.call H d vs=bc r):r.OK P o E H:=by
 unfold Ct.call at h;split at h
 .rename_i r1 g1;split at h
  .rename_i r2 g2;split at h
   .rename_i x R g3 g4
    cases hb:c.tO d (r1.app r2) (dedup r1.fz) R with
    |false=>rw[hb]at h;cases h
    |true =>
     rw[hb,aH]at h;simp only[Ct.tO,bn]at hb;obtain⟨b1,b2,b3,b4,b5,b6,b7,b8⟩:=hb
     cases hB:c.fK with
     |true =>
      rw[hB,aH]at h;cases h;intro heq q hq a F' E7 F R0 hF Ik;cases zm hF;cases E7;have e2:R0=R:=Option.some.inj (Ik.symm.trans g4);subst e2;simp only[Ct.fK,bn,eF]at hB;obtain⟨i1,i2,i3⟩:=hB
      have hs:Sat (yP c.ci x) (r1.app r2).ps:=Pn (yj b1) g3 λp hp=>by have:=(bj.1 b2) p hp;exact lb this
      have hn:mq (iy ((r1.app r2).ns++ux d c.hin c.iB)) ((r1.app r2).ns++Co c.hin):=λp hp=>eb ((bj.1 b3) p hp)
      have he:xZ (r1.app r2).eq:=heq;have hr:o8 c.hin (yP c.ci x) (iy ((r1.app r2).ns++ux d c.hin c.iB)) H:=VE g2 hs.right (LB hn.left.left hn.right) hn.left.right
      have tS:=uP hS (R:=hV R0) c.ins vs r1 g1 hs.left hn.left.left he.left hr λk hk e c' f' l wl hg=>⟨_,zme g4 k (qC hk) _ hg⟩
      have lk:=AX (S:=S) hS (ds:=yP c.ci x) b6
      have hrefs:wi (A.vs (Tp.j_ c.hin (yP c.ci x) c.ins))=[]:=by
       simp only[qN,bn,i1,cX]at b6;rw[jY hS]
       refine List.eq_nil_iff_forall_not_mem.2 λk hk=>?_
       have:=(bj.1 b6.1) k hk;simp at this
      rw[Hr hS,AW _ hrefs]at tS;have FD:=hc x q hq;obtain⟨e1,e2⟩:=zIj (S:=S) (hp:=c.iB) (ds:=yP c.ci x++yP c.co q) i3
      have h0:∀ds,hV (oY (S:=S) c.hin ds)=[]:=λds=>by rw[i1];rfl
      have h1:∀ds,hV (oY (S:=S) c.iB ds)=[]:=λds=>by rw[i2];rfl
      rw[h0,h1]at FD;have:=zxc (o:=o) (ρ:=eV E) hv FD tS e1 e2 hrefs;simpa[hV]using this
     |false =>
     rw[hB,cf]at h;cases h;intro heq q hq a F' E7 F R0 hF Ik;cases zm Ik;cases E7;generalize hL:(r1.app r2).ns++ux d c.hin c.iB=L at *;obtain⟨F1,F2,rfl,D3,Ij⟩:=zbv hF;have e2:F2=R:=Option.some.inj (Ij.symm.trans g4);subst e2
     have hs:Sat (yP c.ci x) (r1.app r2).ps:=Pn (yj b1) g3 λp hp=>by have:=(bj.1 b2) p hp;exact lb this
     have hn:mq (iy L) ((r1.app r2).ns++Co c.hin):=λp hp=>eb ((bj.1 b3) p hp)
     have he:xZ (r1.app r2).eq:=heq;have hr:o8 c.hin (yP c.ci x) (iy L) H:=VE g2 hs.right (LB hn.left.left hn.right) hn.left.right;obtain⟨k1,k2⟩:=VF hS g2 hs.right (LB hn.left.left hn.right) hn.left.right he.right hr F1 D3
     have hR:gD (hV (ny F2))=hV (ny F2):=by rw[jZ hS,oj]
     have tS:=uP hS (R:=hV (ny F2)) c.ins vs r1 g1 hs.left hn.left.left he.left hr λk hk e c' f' l wl hg=>⟨_,VG g4 k (qC hk) _ hg⟩
     rw[Hr hS]at tS
     have E_:=zAt (o:=o) L hv (hc x q hq) tS hR (by rw[wO];exact b4) (AX hS b6) (by rw[wO,wO];exact b5) (by
      rw[ve,wO,cW]
      refine bj.2 λk hk=>?_
      have:=(bj.1 b8) k hk;rw[og]
      rw[zt4];exact this)
     have pS:=zAy (Fa:=hV F1) (R:=hV F2) (o:=o) (P:=P) (ρ:=eV E) rfl (by rw[k1,<- jZ hS];exact E_);simp only[zUp]
     show EV.Loc P o (eV E) (hV F1++hV F2++[]) _ (_++[])
     rw[bM,bM,Uf hS,GH hS];exact pS
   .cases h
  .cases h
 .cases h
def lC.tO{pc:List TC}(c:lC S pc)(rd:Rd S.T)(R:AH S.T):Bool:=
 nodupB (rd.ps.map (·.1))&&(rd.ps.all (λp=>cw (p.1+1) c.ci.length)&&((rd.ns++Co c.hin).all (λp=>bk (iy rd.ns p.1) p.2) &&
  (nodupB ((c.hin.map (·.1)).map (iy rd.ns))&&(qN c.ins c.hin&&R.all (λp=>Zw p.2)))))
structure uh(S:lD)(pc:List TC) where
 eqs:List (Nat×Nat)
 o:Option (HL S.T pc)
 kF:List Nat
 kR:List Nat
def lC.MT{pc:List TC}(c:lC S pc)(H:AH S.T)(vs:List (A S.T)):Option (uh S pc):=match Tp.reads c.hin bd H c.ins vs with
 |some r1=>match By c.hin H (r1.ns++Co c.hin) c.hin with
  |some r2=>match Bz (r1.app r2).ps 0 c.ci,qL (dedup r1.fz) H with
   |some x,bc R =>
    bif c.tO (r1.app r2) R then bc ⟨(r1.app r2).eq,c.fn x,c.hin.map λp=>iy (r1.app r2).ns p.1,dedup r1.fz⟩else bh
   |_,_=>bh
  |none=>bh
 |none=>bh
def zMa(hS:S.OK){P:bm}{pc:List TC}{pv:HL S.T pc->bu}{f:Nat}{c:lC S pc}(hc:c.OK P pv f){o:Oper}{E:AE S.T}{vs:List (A S.T)}(hv:NW P o (eV E) f (A.vs vs)){t:uh S pc}(h:c.MT H vs=bc t){q:HL S.T pc}(hq:t.o=bc q)(heq:xZ t.eqs):
  ∀F R,qL t.kF H=bc F->qL t.kR H=bc R->Cg P o (eV E) (hV F++hV R) (pv q):=by
 unfold lC.MT at h;split at h
 .rename_i r1 g1;split at h
  .rename_i r2 g2;split at h
   .rename_i x R g3 g4
    cases hb:c.tO (r1.app r2) R with
    |false=>rw[hb]at h;cases h
    |true =>
     rw[hb]at h;cases h;simp only[lC.tO,bn]at hb;obtain⟨b1,b2,b3,b4,b6,b7⟩:=hb;intro F1 F2 D3 Ij;generalize hL:(r1.app r2).ns=L at *;have e2:F2=R:=Option.some.inj (Ij.symm.trans g4);subst e2
     have hs:Sat (yP c.ci x) (r1.app r2).ps:=Pn (yj b1) g3 λp hp=>by have:=(bj.1 b2) p hp;exact lb this
     have hn:mq (iy L) ((r1.app r2).ns++Co c.hin):=λp hp=>eb ((bj.1 b3) p (by rw[<- hL];exact hp))
     have he:xZ (r1.app r2).eq:=heq;have hr:o8 c.hin (yP c.ci x) (iy L) H:=VE g2 hs.right (LB hn.left.left hn.right) hn.left.right;obtain⟨k1,k2⟩:=VF hS g2 hs.right (LB hn.left.left hn.right) hn.left.right he.right hr F1 D3
     have hR:gD (hV (ny F2))=hV (ny F2):=by rw[jZ hS,oj]
     have tS:=uP hS (R:=hV (ny F2)) c.ins vs r1 g1 hs.left hn.left.left he.left hr λk hk e c' f' l wl hg=>⟨_,VG g4 k (qC hk) _ hg⟩
     rw[Hr hS]at tS;have E_:=zIc (o:=o) L hv (hc x q hq) tS hR (by rw[wO];exact b4) (AX hS b6);rw[k1];refine zId ?_;rw[<- jZ hS];exact E_
   .cases h
  .cases h
 .cases h
end
end Go.EQ
namespace Go.EV
open Go Go.RowKit Go.iE
section
variable{K0:List Nat}{ρ:Env}{H:ax}
def zq5(kb j d:Nat){t:Nat}{cs iK:List V}(hF:ua [kb] H=bc [(kb,.box t cs)])(hj:cs[j]?=bc .k_)(l7:cs.set j (.gv d Dm)=iK)(hd:jW d H=bd){H1:ax}(nN:(d,.gen (oX []))::(kb,.box t iK)::qw [kb] H=H1):
  Cut K0 ρ H ρ H1:=λc ρr w S=>by
 subst nN;subst l7
 have lf:d ∉ keys H:=λh=>by rw[yK.2 h]at hd;cases hd
 have mE:kb∈keys H:=by have:=(xd hF).2 _ (bS.2 rfl);exact ay this
 have g_:d≠kb:=λe=>lf (e▸mE)
 have:=Kv.step (c:=c) (ρ:=ρ) (H:=H) (F:=[(kb,.box t cs)]) (F':=[(d,.gen (oX [])),(kb,.box t (cs.set j (.gv d Dm)))]) (ks:=[kb]) (ρ':=ρ) (ρr:=ρr) (w:=w) (by simp[nodupB]) hF (by simp[JE,lf,g_]) (λm Z hs lh hR=>by
  have y5:∀L,m d L=bh:=λL=>lh d (by simp[keys]) (by simp[keys];exact g_) L
  let m':M:=λk' L=>if k'=d/\L=0 then bc (0,0)else m k' L
  have h1:m' d 0=bc (0,0):=by simp[m']
  have h2:∀k L loc,m k L=bc loc->m' k L=bc loc:=λk L loc e=>by
   by_cases hc:k=d/\L=0
   .obtain⟨rfl,rfl⟩:=hc;rw[y5]at e;cases e
   .simp only[m',aO hc];exact e
  have h3:∀k,k≠d->m' k=m k:=λk hk=>by funext L;simp[m',hk]
  obtain⟨b,cur,g1,g2,g3,g4,g5⟩:=hs.holds _ (bS.2 rfl)
  have mD:∀b',fD m' (d,.gen (oX [])) b'->False:=λb' h=>h
  have lj:∀b',fD m' (kb,.box t (cs.set j (.gv d Dm))) b'->fD m (kb,.box t cs) b':=λb' h=>by simp only[fD,qZ,Obj.hO,h3 kb (Ne.symm g_)]at h ⊢;exact h
  refine⟨m',Z,⟨⟨hs.frozen,λp hp=>?_,by simp[keys];exact g_,λp hp q hq b' q1 q2=>?_⟩,h2,λ_ _ e=>e,rfl,rfl,rfl,aq,λ_ _ _=>rfl,λk hk=>?_,λk hk=>?_,λp hp b' hb=>?_,λ_ _ e=>.inl e⟩,λu=>(hR u).up (λ_ _ e=>e) (λf e=>by cases e;exact⟨m',rfl,h2⟩)⟩
  .simp only[bq,cV,or_false]at hp
   rcases hp with rfl|rfl
   .refine⟨⟨0,h1⟩,λL loc e=>?_⟩;simp only[m']at e;split at e
    .rename_i hc;omega
    .rw[y5]at e;cases e
   .have tR:=g3.up (Z':=Z) (m':=bc m') (λ_ _ e=>e) (λf e=>by cases e;exact⟨m',rfl,h2⟩);refine⟨b,cur,by rw[h3 kb (Ne.symm g_)];exact g1,g2,?_,g4,by rw[h3 kb (Ne.symm g_)];exact g5⟩;obtain⟨x,Ef,n_⟩:=tR.get hj;have n_:x=.map bh:=n_
    refine zG.n7 (by rw[dn];exact tR.length) λi v y hv hy=>?_
    by_cases z_:j=i
    .subst z_;have CO:=(bx.1 hj).1;rw[gH,aP rfl,aP CO]at hv;cases hv;rw[Ef]at hy;cases hy;exact⟨m',rfl,_,h1,n_⟩
    .rw[eC z_]at hv;obtain⟨z,hz,hr⟩:=tR.get hv;rw[hy]at hz;cases hz;exact hr
  .simp only[bq,cV,or_false]at hp hq
   rcases hp with rfl|rfl<;>rcases hq with rfl|rfl
   .rfl
   .exact(mD _ q1).elim
   .exact(mD _ q2).elim
   .rfl
  .simp only[keys,gf,cX,bS]at hk;subst hk;simp[keys]
  .simp only[keys,gf,cX,bq,cV,or_false,not_or]at hk;exact h3 k hk.1
  .simp only[bq,cV,or_false]at hp
   rcases hp with rfl|rfl
   .exact(mD _ hb).elim
   .exact .inr ⟨_,bS.2 rfl,lj _ hb⟩) S
 simpa using this
end
section
variable{P:bm}{ρ:Env}{dst:Option Tmp}{ty:bA}{pos:String}{aft:Array Edge}{gd:Option (Nat×Bool)}
def Yu(P:bm)(t:Nat):Option (Nat×Nat):=
 match P.underlying t with
 |some (.array n e)=>match P.info? e with
  |some i=>bc (n,i.size)
  |none=>bh
 |_=>bh
def zmg{t n sz kk L off:Nat}{x ix:bB}{k:IntKind}{i:Int}(ht:Yu P t=bc (n,sz))(hx:a_ ρ x=.ptr kk L off)(hi:a_ ρ ix=.int k i)(h0:0<=i)(h1:i<n):
  Loc P ⟨dst,.indexAddr t x ix,ty,pos,aft,gd⟩ ρ [] (.ptr kk L (off+i.toNat*sz)) []:=by
 intro ρr m Z w bT hs _;have hX:=bT x (by simp[Op.operands]);have hI:=bT ix (by simp[Op.operands]);rw[hx]at hX;rw[hi]at hI;have hI:ev ρr ix=.int k i:=hI;obtain⟨f,loc,e1,e2,hX⟩:=hX;cases e1;unfold Yu at ht;split at ht
 .rename_i n' e' hu;split at ht
  .rename_i ii BX;simp only[Option.some.injEq,Prod.mk.injEq]at ht;obtain⟨rfl,rfl⟩:=ht;refine⟨rfl,.inl ⟨.pointer (bc ⟨loc.1,off+i.toNat*ii.size,bh⟩),w,?_,m,Z,Step.refl hs,m,loc,rfl,e2,rfl⟩⟩;have h7:¬((n':Int)<=i):=ab;simp[ca,Instr.indexAt,run_underlying hu,asIntOf,hX,hI,Instr.sureAddr,sizeOf,typeInfo,BX,h0,h7,Addr.add_lit]
  .cases ht
 .cases ht
end
end Go.EV
namespace Go.EQ
open Go Go.RowKit Go.iE Go.EV
section
variable{S:lD}
def IM:A S.T->Option Nat
 |.oh k=>bc k
 |_=>bh
def Tj{a:A S.T}{k:Nat}(h:IM a=bc k):a=.oh k:=by
 unfold IM at h;split at h
 .cases h;rfl
 .cases h
def nz{α:Type}:List α->Option α
 |[l]=>bc l
 |_=>bh
def zmh{α:Type}{D:List α}{l:α}(h:nz D=bc l):D=[l]:=by
 unfold nz at h;split at h
 .cases h;rfl
 .cases h
def Nv(P:bm)(H:AH S.T)(b:Bool)(t:Nat):A S.T->OR S
 |.oh k=>bif S.om&&w8 P t .k_ then(match H.get k with
  |some (.gn 7 (.l (.m kc ec)) D)=>.one [k] [] (.gC .b (bif b then dj (α:=List (kc.ty S.T×ec.ty S.T)) D else !(dj (α:=List (kc.ty S.T×ec.ty S.T)) D))) [(k,.gn 7 (.l (.m kc ec)) D)]
  |_=>.no)else .no
 |_=>.no
def Xw(P:bm)(H:AH S.T)(t k:Nat)(ix:A S.T)(co:Bool):OR S:=bif S.om then(match tG P t with
 |some (kt,et)=>match GF P et with
  |some zv=>match H.get k,ix with
   |some (.gn 7 (.l (.m .s ec)) D),.gC .s a=>match P.underlying kt,YS [] ec (sJ zv)with
    |some .string,bc rx=>.iJ (nz (α:=List (TC.ty S.T .s×ec.ty S.T)) D) [k] [] λl =>
      bc (bif co then .gu [.gC ec ((@xh _ _ td a l).getD rx.x),.gC .b (@xh _ _ td a l).isSome]else .gC ec ((@xh _ _ td a l).getD rx.x),[(k,.gn 7 (.l (.m .s ec)) [l])])
    |_,_=>.no
   |_,_=>.no
  |none=>.no
 |none=>.no)else .no
def O1(P:bm)(H:AH S.T)(t k:Nat)(ix y:A S.T):OR S:=bif S.om then(match tG P t with
 |some (kt,_)=>match NP y with
  |.gC pY b=>match H.get k,ix with
   |some (.gn 7 (.l (.m .s ec)) D),.gC .s a=>match P.underlying kt with
    |some .string=>if h:pY=ec then .iJ (nz (α:=List (TC.ty S.T .s×ec.ty S.T)) D) [k] [] λl=>bc (.raw .no,[(k,.gn 7 (.l (.m .s ec)) [@oV _ _ td a (h▸b) l])])else .no
    |_=>.no
   |_,_=>.no
  |_=>.no
 |none=>.no)else .no
def WQ(P:bm)(cd:Nat->Option TC)(d t:Nat):OR S:=bif S.om then(match tG P t with
 |some (kt,et)=>match cd kt,cd et with
  |some .s,bc ec=>.one [] [] (.oh d) [(d,.gn 7 (.l (.m .s ec)) [([]:List (TC.ty S.T .s×ec.ty S.T))])]
  |_,_=>.no
 |none=>.no)else .no
variable{P:bm}{E:AE S.T}{H:AH S.T}{dst:Option Tmp}{ty:bA}{pos:String}{aft:Array Edge}{gd:Option (Nat×Bool)}
def zBx(hS:S.OK){op:BinOp}{b:Bool}(iS:(op=.eql/\b=bg)∨(op=.neq/\b=bd)){t t':bA}{x:bB}:(Nv P H b t (bV E x)).OK P ⟨dst,.binOp op t x (.const (.map bh)) t',ty,pos,aft,gd⟩ E H:=by
 unfold Nv;split
 .rename_i k e
  cases ht:S.om&&w8 P t .k_ with
  |false=>trivial
  |true =>
   simp only[bn]at ht;simp only[aH];split
   .rename_i kc ec D hg;intro F R hF hR;cases zm hR;cases wx hg hF;have h1:=zqv (P:=P) (ρ:=eV E) (dst:=dst) (ty:=ty) (t':=t') (pos:=pos) (aft:=aft) (gd:=gd) iS ht.2 (x:=x) (k:=k) (D:=cP (nI (vt S kc) (vt S ec)) D) (by rw[zJ,e];simp only[A.v]);have e1:=hS.DZ ht.1 kc ec D;rw[<- e1]at h1
    have e2:(cP (nI (vt S kc) (vt S ec)) D).isEmpty=dj (α:=List (kc.ty S.T×ec.ty S.T)) D:=by cases D<;>rfl
    rw[e2]at h1;simp only[hV,gf,cX,OA.o,bM,A.v,vt];exact h1
   .trivial
 .trivial
def UH(P:bm)(t:Nat)(a i:A S.T):Option (OR S):=match Yu P t with
 |some (n,sz)=>match intOf i,a with
  |some (_,j),.raw (.ptr k L off)=>bc (bif decide (0<=j)&&decide (j<(n:Nat))then .one [] [] (.raw (.ptr k L (off+bQ j*sz))) []else .no)
  |_,_=>bc .no
 |none=>bh
def zmi{t:Nat}{x ix:bB}{r:OR S}(h:UH P t (bV E x) (bV E ix)=bc r):r.OK P ⟨dst,.indexAddr t x ix,ty,pos,aft,gd⟩ E H:=by
 unfold UH at h;split at h
 .rename_i n sz ht;split at h
  .rename_i q j k L off h1 h2;cases h
   cases hb:decide (0<=j)&&decide (j<(n:Nat))with
   |false=>trivial
   |true =>simp only[bn,aW]at hb;intro F R hF hR;cases zm hF;cases zm hR;exact zmg ht (by rw[zJ,h2];simp only[A.v]) (by rw[zJ];exact jX h1) hb.1 hb.2
  .cases h;trivial
 .cases h
def zMb{o:Oper}{x:bB}{k:Nat}{l l':List (V×V)}{v:V}(hx:bV E x=.oh k)
  (h:∀ρ2:Env,a_ ρ2 x=.mp k->(∀y,(∀k',bV E y≠.oh k')->a_ ρ2 y=a_ (eV E) y)->EV.Loc P o ρ2 [(k,.map l)] v [(k,.map l')]):EV.Loc P o (eV E) [(k,.gen (oX [l]))] v [(k,.gen (oX [l']))]:=by
 cases x with
 |tmp t =>
  have ht:E.get t=.oh k:=hx
  refine zH0 (ρ2:=(t,.mp k)::eV E) (h _ (by simp[a_,Env.get]) λy hy=>?_) λx CU m Z y b hb hr=>?_
  .cases y with
   |tmp q =>
    simp only[a_,Env.get]
    cases hq:bk q t with
    |true =>
     have:=eb hq;subst this;exact aU ht (hy k)
    |false=>rfl
   |_=>rfl
  .cases x with
   |tmp q =>
    simp only[a_,Env.get]
    cases hq:bk q t with
    |true =>
     have:=eb hq;subst this;simp only[aH];refine(V_ hb).1 ?_;simp only[a_,Jh,ht,A.v]at hr;exact hr
    |false=>exact hr
   |_=>exact hr
 |const c =>
  simp only[bV]at hx;have:=aQ A.v hx;rw[zL4]at this;unfold Eh at this;split at this
  .cases this
  .unfold sd at this
   split at this<;>first|(cases this;done)|(split at this<;>cases this)
 |global g=>cases hx
 |func f=>cases hx
def zxo(hS:S.OK){t k:Nat}{x ix:bB}{co:Bool}(hx:bV E x=.oh k):(Xw P H t k (bV E ix) co).OK P ⟨dst,.lookup t x ix co,ty,pos,aft,gd⟩ E H:=by
 unfold Xw
 cases FI:S.om with
 |false=>trivial
 |true =>
  simp only[aH];split
  .rename_i kt et hT;split
   .rename_i zv hz;split
    .rename_i ec D a hg hi;split
     .rename_i rx hk hd;intro l hl a' F' hr F R hF hR;cases hr;have hD:=zmh hl;subst hD;cases zm hR;cases wx hg hF
      have h1:=zMb (P:=P) (o:=⟨dst,.lookup t x ix co,ty,pos,aft,gd⟩) (k:=k) (l:=nI (vt S .s) (vt S ec) l) (l':=nI (vt S .s) (vt S ec) l) hx λρ2 h2 h3 =>
       @zfu P ρ2 dst ty pos aft gd _ _ td (vt S .s) (λs:ak=>.string ⟨s.toArray⟩) (vt S ec) t kt et k x ix l co a rx.x zv hT (Vy hk) hz (UE hS hd) h2 (by rw[h3 ix (λk' e=>by rw[hi]at e;cases e),zJ,hi];rfl)
      have e1:=hS.DZ FI .s ec [l];change EV.Loc P _ (eV E) [(k,.gen (oX (cP (nI (vt S .s) (vt S ec)) [l])))] _ [(k,.gen (oX (cP (nI (vt S .s) (vt S ec)) [l])))]at h1;rw[<- e1]at h1;simp only[hV,gf,cX,OA.o,bM];cases co<;>exact h1
     .trivial
    .trivial
   .trivial
  .trivial
def zq7(hS:S.OK){cd:Nat->Option TC}{d t:Nat}:(WQ (S:=S) P cd d t).OK P ⟨dst,.makeMap t bh,ty,pos,aft,gd⟩ E H:=by
 unfold WQ
 cases FI:S.om with
 |false=>trivial
 |true =>
  simp only[aH];split
  .rename_i kt et hT;split
   .rename_i ec h1 h2;intro F R hF hR;cases zm hF;cases zm hR;have h1:=zl2 (P:=P) (ρ:=eV E) (t:=t) (d:=d) (dst:=dst) (ty:=ty) (pos:=pos) (aft:=aft) (gd:=gd);have e1:=hS.DZ FI .s ec [[]];change EV.Loc P _ (eV E) [] _ [(d,.gen (oX (cP (nI (vt S .s) (vt S ec)) [[]])))]at h1;rw[<- e1]at h1;simp only[hV,gf,cX,OA.o,bM,A.v];exact h1
   .trivial
  .trivial
def zf4(hS:S.OK){t k:Nat}{x ix y:bB}(hx:bV E x=.oh k):(O1 P H t k (bV E ix) (bV E y)).OK P ⟨dst,.mapUpdate t x ix y,ty,pos,aft,gd⟩ E H:=by
 unfold O1
 cases FI:S.om with
 |false=>trivial
 |true =>
  simp only[aH];split
  .rename_i kt et hT;split
   .rename_i pY b hy;split
    .rename_i ec D a hg hi;split
     .rename_i hk;split
      .rename_i e;subst e;intro l hl a' F' hr F R hF hR;cases hr;have hD:=zmh hl;subst hD;cases zm hR;cases wx hg hF
       have h1:=zMb (P:=P) (o:=⟨dst,.mapUpdate t x ix y,ty,pos,aft,gd⟩) (k:=k) (l:=nI (vt S .s) (vt S pY) l) (l':=nI (vt S .s) (vt S pY) (@oV _ _ td a b l)) hx λρ2 h2 h3 =>
        @aau P ρ2 dst ty pos aft gd _ _ td (vt S .s) (λs:ak=>.string ⟨s.toArray⟩) (vt S pY) t kt et k x ix y l a b hT (Vy hk) h2 (by
         rw[h3 ix (λk' e=>by rw[hi]at e;cases e),zJ,hi];rfl) (by rw[h3 y (λk' e=>by rw[e]at hy;cases hy),zJ,<- Xv,hy];rfl) (oi hS _ _) (oi hS _ _)
       have e1:=hS.DZ FI .s pY [l];have e2:=hS.DZ FI .s pY [@oV _ _ td a b l];change EV.Loc P _ (eV E) [(k,.gen (oX (cP (nI (vt S .s) (vt S pY)) [l])))] _ [(k,.gen (oX (cP (nI (vt S .s) (vt S pY)) [@oV _ _ td a b l])))]at h1;rw[<- e1,<- e2]at h1;simp only[hV,gf,cX,OA.o,bM,A.v];exact h1
      .trivial
     .trivial
    .trivial
   .trivial
  .trivial
end
end Go.EQ
namespace Go.EV
open Go Go.RowKit Go.iE
def L4(P:bm)(t:bA):Bool:=match P.underlying t with
 |some (.interface _)=>bd
 |some _=>bg
 |none=>bd
section
variable{P:bm}{ρ:Env}{dst:Option Tmp}{ty:bA}{pos:String}{aft:Array Edge}{gd:Option (Nat×Bool)}{x:bB}{v:V}
def zq8{t:bA}{w:bE}(h:L4 P t=bg)(X:bu):(Instr.makeInterface t X).run P w=.ok (.iface t X) w:=by
 unfold L4 at h;split at h
 .cases h
 .rename_i u hu hn;unfold Instr.makeInterface;simp only[Sem.run_bind,run_underlying hn,Result.andThen_ok];rfl
 .cases h
def zq9{t:bA}(h:L4 P t=bg)(hx:a_ ρ x=v):Loc P ⟨dst,.makeInterface t x,ty,pos,aft,gd⟩ ρ [] (.iG t v) []:=by intro ρr m Z w bT hs _;have hX:=bT x (by simp[Op.operands]);rw[hx]at hX;refine⟨rfl,.inl ⟨_,w,?_,m,Z,Step.refl hs,ev ρr x,rfl,hX⟩⟩;simp only[ca,Sem.run_bind,zq8 h,Result.andThen_ok];rfl
def Et(P:bm)(t:bA):Bool:=match P.underlying t with|some (.interface _)=>bg|_=>bd
def zf5{op:BinOp}{t t':bA}{x:bB}{v:V}{b r:Bool}(hv:(v=.lJ/\b=bg)∨∃tx u,v=.iG tx u/\b=bd)(iS:(op=.eql/\r=b)∨(op=.neq/\r=!b))(h:Et P t=bg)(hx:a_ ρ x=v):
  Loc P ⟨dst,.binOp op t x (.const .nilIface) t',ty,pos,aft,gd⟩ ρ [] (.bool r) []:=by
 intro ρr m Z w bT hs _;have hX:=bT x (by simp[Op.operands]);rw[hx]at hX
 obtain⟨ms,ht⟩:∃ms,P.underlying t=bc (.interface ms):=by
  unfold Et at h;split at h
  .exact⟨_,by assumption⟩
  .cases h
 have key:∀(X:bu),((X=.nilIface/\b=bg)∨∃tx u,X=.iface tx u/\b=bd)->ev ρr x=X->∃u,(ca (ev ρr) ⟨dst,.binOp op t x (.const .nilIface) t',ty,pos,aft,gd⟩).run P w=.ok (.value (.bool r)) w/\u=X:=by
  intro X hX2 hxX;have hc:ev ρr (.const .nilIface)=.nilIface:=rfl
  have h':∀d:Nat,(Op.equalIn (d+1) t X .nilIface).run P w=.ok b w:=λd=>by
   rcases hX2 with⟨rfl,rfl⟩|⟨tx,u,rfl,rfl⟩<;>simp[Op.equalIn,run_underlying ht]
  have h2:(Op.equal t X .nilIface).run P w=.ok b w:=h' 9999;refine⟨X,?_,rfl⟩
  rcases hX2 with⟨rfl,rfl⟩|⟨tx,u,rfl,rfl⟩<;>rcases iS with⟨rfl,rfl⟩|⟨rfl,rfl⟩<;>simp only[ca,hxX,hc,eqGuard,binOp]<;>simp[h2]
 rcases hv with⟨rfl,rfl⟩|⟨tx,u,rfl,rfl⟩
 .obtain⟨u,h1,_⟩:=key _ (.inl ⟨rfl,rfl⟩) hX;exact⟨rfl,.inl ⟨_,w,h1,m,Z,Step.refl hs,rfl⟩⟩
 .obtain⟨y,h1,h2⟩:=hX;obtain⟨u,h1,_⟩:=key _ (.inr ⟨_,_,rfl,rfl⟩) h1;exact⟨rfl,.inl ⟨_,w,h1,m,Z,Step.refl hs,rfl⟩⟩
end
section
variable{P:bm}{ρ:Env}{dst:Option Tmp}{ty:bA}{pos:String}{aft:Array Edge}{gd:Option (Nat×Bool)}
def EJ(P:bm)(t:bA):bu->Bool
 |.string s=>match P.info? t with
  |some i=>match i.zero with|some (.string b)=>bk s.size 0&&bk b.size 0|_=>bd
  |none=>bd
 |.int k n=>match P.info? t with
  |some i=>match i.zero with|some (.int k' m)=>decide (k=k')&&decide (n=m)|_=>bd
  |none=>bd
 |_=>bd
def zIk{t:bA}{z:bu}{w:bE}(h:EJ P t z=bg):(zeroValue t).run P w=.ok z w:=by
 unfold EJ at h;split at h
 .rename_i s;split at h
  .rename_i i hi;split at h
   .rename_i b hz;simp only[bn]at h;have h1:=eb h.1;have h2:=eb h.2
    have e:s=b:=by have h3:s.data.size=0:=h1;have h4:b.data.size=0:=h2;cases s;cases b;simp only[Array.size_eq_zero_iff]at h3 h4;rw[h3,h4]
    subst e;simp[zeroValue,typeInfo,hi,hz]
   .cases h
  .cases h
 .rename_i k n;split at h
  .rename_i i hi;split at h
   .rename_i k' m hz;simp only[bn,aW]at h;obtain⟨rfl,rfl⟩:=h;simp[zeroValue,typeInfo,hi,hz]
   .cases h
  .cases h
 .cases h
def BA(P:bm)(t:bA):Bool:=match P.underlying t with|some (.interface _)=>bd|some _=>bg|none=>bd
def Hs{t xt:bA}{x:bB}{v:V}(h:BA P t=bg)(hx:a_ ρ x=.iG t v):Loc P ⟨dst,.typeAssert x xt t bg,ty,pos,aft,gd⟩ ρ [] (.gu [v,.bool bg]) []:=by
 intro ρr m Z w bT hs _;have hX:=bT x (by simp[Op.operands]);rw[hx]at hX;obtain⟨y,h1,h2⟩:=hX;refine⟨rfl,.inl ⟨.tuple #[y,.bool bg],w,?_,m,Z,Step.refl hs,[y,.bool bg],rfl,y,[.bool bg],rfl,h2,.bool bg,[],rfl,rfl,rfl⟩⟩;unfold BA at h
 split at h<;>first|(cases h;done)|skip
 rename_i u FH hu;simp only[ca,h1,Instr.typeAssert,Sem.run_bind,run_underlying hu,Result.andThen_ok]
 cases u<;>first|exact aU rfl (FH _)|simp
def aac{t xt t':bA}{x:bB}{v z:V}{zv:bu}(h:BA P t=bg)(g_:bk t' t=bd)(hz:EJ P t zv=bg)(hzr:∀(m:Option M)(Z:ZM),aV m Z z zv)(hx:a_ ρ x=.iG t' v):Loc P ⟨dst,.typeAssert x xt t bg,ty,pos,aft,gd⟩ ρ [] (.gu [z,.bool bd]) []:=by
 intro ρr m Z w bT hs _;have hX:=bT x (by simp[Op.operands]);rw[hx]at hX;obtain⟨y,h1,h2⟩:=hX
 have Y8:t'≠t:=λe=>by subst e;rw[cF]at g_;cases g_
 refine⟨rfl,.inl ⟨.tuple #[zv,.bool bd],w,?_,m,Z,Step.refl hs,[zv,.bool bd],rfl,zv,[.bool bd],rfl,hzr _ _,.bool bd,[],rfl,rfl,rfl⟩⟩;have hzz:=zIk (w:=w) hz;unfold BA at h
 split at h<;>first|(cases h;done)|skip
 rename_i u FH hu;simp only[ca,h1,Instr.typeAssert,Sem.run_bind,run_underlying hu,Result.andThen_ok]
 cases u<;>first|exact aU rfl (FH _)|simp[Y8,hzz]
def zmk{t g k n:Nat}{ob:Go.Obj}{cs:List V}(h:oe P t=bc (bc n))(hn:cs.length=n):Loc P ⟨dst,.load t (.global g),ty,pos,aft,gd⟩ ρ [(k,.kg g ob cs)] (.agg cs) [(k,.kg g ob cs)]:=by intro ρr m Z w bT hs _;obtain⟨g1,⟨g2,cur,u,fr,e1,g3⟩,g4⟩:=hs.holds _ (bS.2 rfl);subst e1;have hl:=g3.length;refine⟨rfl,.inl ⟨.agg cur.toList.toArray,w,o5 (p:=⟨g,0,bh⟩) _ (qx h) rfl ab λj u' hj=>?_,m,Z,Step.refl hs,_,rfl,g3.up (λ_ _ e=>e) (λf e=>by cases e)⟩⟩;have:(⟨g,0,bh⟩:Addr).add j=⟨g,0+j,bh⟩:=Addr.add_lit ..;rw[this,cA,cell_of_row w g j cur u fr g2];simpa using hj
def Nw(P:bm)(t n:bA):Bool:=match P.underlying t with
 |some (.array m e)=>bk m n&&(match oe P e with|some bh=>(match P.info? e with|some i=>bk i.size 1|none=>bd)|_=>bd)
 |_=>bd
def zml{t:bA}{x ix:bB}{k:IntKind}{i:Int}{cs:List V}{v:V}(ht:Nw P t cs.length=bg)(hx:a_ ρ x=.agg cs)(hi:a_ ρ ix=.int k i)(h0:0<=i)(hv:cs[i.toNat]?=bc v):
  Loc P ⟨dst,.index t x ix,ty,pos,aft,gd⟩ ρ [] v []:=by
 intro ρr m Z w bT hs _;have hX:=bT x (by simp[Op.operands]);have hI:=bT ix (by simp[Op.operands]);rw[hx]at hX;rw[hi]at hI;have hI:ev ρr ix=.int k i:=hI;obtain⟨l,h1,h2⟩:=hX;obtain⟨u,h3,h4⟩:=h2.get hv;have hl:=h2.length;have fZ:=(bx.1 hv).1;refine⟨rfl,.inl ⟨u,w,?_,m,Z,Step.refl hs,h4⟩⟩;unfold Nw at ht;split at ht
 .rename_i mm e hu;simp only[bn]at ht;have hm:=eb ht.1;subst hm;have ht:=ht.2;split at ht
  .rename_i nf;split at ht
   .rename_i inf ahY;have iQ:=eb ht;have R3:i<(cs.length:Nat):=ab;have M1:(isAgg e).run P w=.ok bd w:=qm (uO nf);simp[ca,Instr.index,asIntOf,hI,h1,run_underlying hu,h0,R3,sizeOf,typeInfo,ahY,iQ,part,M1,h3]
   .cases ht
  .cases ht
 .cases ht
def zmm{op:BinOp}(iS:op=.shl∨op=.shr){t t':bA}{x y:bB}{k k':IntKind}{m n:Int}{v:V}(hx:a_ ρ x=.int k m)(hy:a_ ρ y=.int k' n)(h:Gi op k m n=bc v):Loc P ⟨dst,.binOp op t x y t',ty,pos,aft,gd⟩ ρ [] v []:=by intro ρr mm Z w bT hs _;have hX:=bT x (by simp[Op.operands]);have hY:=bT y (by simp[Op.operands]);rw[hx]at hX;rw[hy]at hY;obtain⟨u,h1,h2⟩:=Wx (P:=P) (m:=bc mm) (Z:=Z) (w:=w) (dst:=dst) (ty:=ty) (pos:=pos) (aft:=aft) (gd:=gd) (t:=t) (t':=t') hX hY iS h;exact⟨rfl,.inl ⟨u,w,h1,mm,Z,Step.refl hs,h2⟩⟩
end
def Aa:List ak->List ak->Bool
 |[],[]=>bg
 |[a],[b]=>decide (a=b)
 |a::l,b::m=>decide (a=b)&&Aa l m
 |_,_=>bd
def zra(a b:ak):∀l m:List ak,l.length=m.length->Aa (a::l) (b::m)=(decide (a=b)&&Aa l m)
 |[],[],_=>by simp[Aa]
 |_::_,_::_,_=>by rw[Aa];intro h;cases h
 |[],_::_,h=>by cases h
 |_::_,[],h=>by cases h
def Cp(l:List ak):List bu:=l.map λs=>Value.string ⟨s.toArray⟩
def XG{m:Option M}{Z:ZM}:∀{l:List ak}{xs:List bu},zG m Z (l.map V.str) xs->xs=Cp l
 |[],xs,h=>h
 |s::l,xs,h=>by obtain⟨x,r,rfl,h1,h2⟩:=h;rw[XG h2,show x=.string ⟨s.toArray⟩ from h1];rfl
section
variable{P:bm}{w:bE}
def zmn{d:Nat}{e:bA}(he:P.underlying e=bc .string){l m:List ak}:∀(k j:Nat),j+k=l.length->j+k=m.length ->
  (Op.eqItems (d+1) e 1 (Cp l).toArray (Cp m).toArray (List.range' j k)).run P w=.ok (Aa (l.drop j) (m.drop j)) w
 |0,j,h1,h2=>by
  have e1:l.drop j=[]:=dP ab;have e2:m.drop j=[]:=dP ab;rw[e1,e2];simp[Op.eqItems,Aa]
 |k+1,j,h1,h2=>by
  have i1:j<l.length:=ab;have i2:j<m.length:=ab;have ih:=zmn (d:=d) he (l:=l) (m:=m) k (j+1) ab ab
  have M1:(isAgg e).run P w=.ok bd w:=by simp[isAgg,run_underlying he]
  have px:(part e (Cp l).toArray (j*1)).run P w=.ok (.string ⟨l[j].toArray⟩) w:=by simp[part,M1,Cp,i1]
  have py:(part e (Cp m).toArray (j*1)).run P w=.ok (.string ⟨m[j].toArray⟩) w:=by simp[part,M1,Cp,i2]
  have afI:(Op.equalIn (d+1) e (.string ⟨l[j].toArray⟩) (.string ⟨m[j].toArray⟩)).run P w=.ok (decide (l[j]=m[j])) w:=by
   rw[run_equalIn_string w d e _ _ he];simp only[ByteArray.toList_eq]
   congr 1
   rw[eN];simp
  rw[List.range'_succ,abk i1,abk i2,zra _ _ _ _ (by simp only[bU];omega)];simp only[Op.eqItems,Sem.run_bind,px,py,afI,Result.andThen_ok]
  cases decide (l[j]=m[j])with
  |false=>simp
  |true=>simpa using ih
def F7(P:bm)(t n:bA):Bool:=(!P.eqGuardType P.depth t)&&match P.underlying t with
 |some (.array m e)=>bk m n&&((match P.underlying e with|some .string=>bg|_=>bd)&&match P.info? e with|some i=>bk i.size 1|none=>bd)
 |_=>bd
def zBy{t:bA}{l m:List ak}(ht:F7 P t l.length=bg)(hl:l.length=m.length):(Op.equalIn 10000 t (.agg (Cp l).toArray) (.agg (Cp m).toArray)).run P w=.ok (Aa l m) w:=by
 simp only[F7,bn]at ht;have ht:=ht.2;split at ht
 .rename_i k e hu;simp only[bn]at ht;obtain⟨h1,h2,h3⟩:=ht;have h1:=eb h1;subst h1;split at h2
  .rename_i he;split at h3
   .rename_i i hi
    have hc:P.cellsOf e=1:=by simp[Program.cellsOf,hi,eb h3]
    rw[run_equalIn_array w 9999 _ _ hu hi,hc,List.range_eq_range'];have:=zmn (w:=w) (d:=9998) he (l:=l) (m:=m) l.length 0 ab ab;simpa using this
   .cases h3
  .cases h2
 .cases ht
end
section
variable{P:bm}{ρ:Env}{dst:Option Tmp}{ty:bA}{pos:String}{aft:Array Edge}{gd:Option (Nat×Bool)}
def zBz{op:BinOp}{t t':bA}{x y:bB}{l m:List ak}(iS:op=.eql∨op=.neq)(ht:F7 P t l.length=bg)(hl:l.length=m.length)(hx:a_ ρ x=.agg (l.map V.str))(hy:a_ ρ y=.agg (m.map V.str)):
  Loc P ⟨dst,.binOp op t x y t',ty,pos,aft,gd⟩ ρ [] (.bool (match op with|.eql=>Aa l m|_=>!(Aa l m))) []:=by
 intro ρr mm Z w bT hs _;have hX:=bT x (by simp[Op.operands]);have hY:=bT y (by simp[Op.operands]);rw[hx]at hX;rw[hy]at hY;obtain⟨c1,e1,r1⟩:=hX;obtain⟨c2,e2,r2⟩:=hY;have r1:=XG r1;have r2:=XG r2;subst r1;subst r2
 have h3:P.eqGuardType P.depth t=bd:=by simp only[F7,bn,bW]at ht;exact ht.1
 have h:=zBy (w:=w) ht hl
 rcases iS with rfl|rfl
 .exact⟨rfl,.inl ⟨.bool (Aa l m),w,by simp[ca,e1,e2,run_eqGuard_agg w _ t x y _ _ h3,run_eql_struct,h],mm,Z,Step.refl hs,rfl⟩⟩
 .exact⟨rfl,.inl ⟨.bool (!(Aa l m)),w,by simp[ca,e1,e2,run_eqGuard_agg w _ t x y _ _ h3,run_neq_struct,h],mm,Z,Step.refl hs,rfl⟩⟩
end
section
variable{K0:List Nat}{c:Ctx K0}{P:bm}{r:Option Nat}{N:Nat}{Q:xH}{ρ:Env}{H:ax}{ds:List cg}{all rest:List Oper}{ty:bA}{pos:String}{aft:Array Edge}{gd:Option (Nat×Bool)}{t t':bA}{x y:bB}
def zUw{d sz:Nat}{els:List (List V)}(hd:cw (d+1) N=bg)(ht:o6 P t=bg)(hx:a_ ρ x=.vs sz els)(hy:a_ ρ y=.gR)(hw:yR all ρ ⟨bc d,.binOp .eql t x y t',ty,pos,aft,gd⟩=bc bg)
  (h1:els.isEmpty=bg->Zn c P r N all Q rest ((d,.bool bg)::ρ) H ds) (h2:Zn c P r N all Q rest ((d,.bool bd)::ρ) H ds):Zn c P r N all Q (⟨bc d,.binOp .eql t x y t',ty,pos,aft,gd⟩::rest) ρ H ds:=by
 rintro ρr w iX ⟨m,Z,S,hR⟩ hM;have hX:=hR.ev x;rw[hx]at hX;obtain⟨A,cp,hX,_,_,hA⟩:=hX;have hY:=hR.ev y;rw[hy]at hY;simp only[aV]at hY
 have FJ:∃e,P.underlying t=bc (.slice e):=by
  simp only[o6]at ht;split at ht
  .exact⟨_,by assumption⟩
  .cases ht
 obtain⟨e,FJ⟩:=FJ
 have iV:(ca (ev ρr) ⟨bc d,.binOp .eql t x y t',ty,pos,aft,gd⟩).run P w=.ok (.value (.bool A.isNone)) w:=by
  have hq:∀k,(Op.equalIn (k+1) t (.slice A els.length cp) (.slice bh 0 0)).run P w=.ok A.isNone w:=λk=>by cases A<;>simp[Op.equalIn,run_underlying FJ]
  refine(Xx (dst:=bc d) (t':=t') (ty:=ty) (pos:=pos) (aft:=aft) (gd:=gd) (b:=A.isNone) hX hY rfl rfl (hq 9999)).1
 refine zzv d _ rfl hd (vn hR hw) rfl iV ?_
 cases A with
 |none =>
  have he:els.isEmpty=bg:=by
   rcases hA with rfl|⟨a,h,_⟩
   .rfl
   .cases h
  exact h1 he _ _ _ ⟨m,Z,S,hR.put d rfl⟩ hM
 |some a=>exact h2 _ _ _ ⟨m,Z,S,hR.put d rfl⟩ hM
end
end Go.EV
