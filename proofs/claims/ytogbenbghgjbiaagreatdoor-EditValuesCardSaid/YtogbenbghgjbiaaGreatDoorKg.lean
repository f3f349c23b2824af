/- texts that the proof reaches, part 7 -/
import Derived.Test.YtogbenbghgjbiaaGreatDoorKf
set_option linter.all false
open Array renaming getElem?_eq_some_iff->bw,getElem?_push->ik
open BitVec renaming ofInt->cg
open Bool renaming false->bf,true->bh
open Go renaming Program->bo,Value->bx,World->bF,Operand->bI,TypeId->bK,execOp->bP,Deferred->cr
open Go.Proofs.Tryz renaming prog->bk
open Int renaming toNat->bj,fdiv->cP
open List renaming length->ba,replicate->bp,getElem?_eq_some_iff->bq,mem_cons->bu,length_map->bM,nodup_cons->cA,set->cD,mem_map_of_mem->cG,append_nil->cL,isEmpty->cO,map->cQ,nodup_nil->cZ,take->dF,drop->dN,mem_nil_iff->eg
open Nat renaming beq->bm,ble->cm,le_trans->cY
open Option renaming some->aY,bind->aM,none->bg,getD->cR
namespace Go.EQ
open Go Go.RowKit Go.lG Go.EV
section
variable{K0:List Nat}{c:Ctx K0}{P:bo}{fn:Func}{tmps:Array bx}{R:Ending->bF->Prop}
end
section
variable{S:ni}
end
end Go.EQ
namespace Go.EV
open Go Go.RowKit Go.lG
end Go.EV
namespace Go.Proofs.YtogbenbghgjbiaaGreatDoor
open Go Go.RowKit Go.lG Go.EV
structure Expr where
 Op:Int
 N:Int
 S:aj
 Key:aj
 aH:(List Expr)
instance:Inhabited Expr:=⟨⟨0,0,[],[],[]⟩⟩
mutual
def Y9:Expr->List V
 |⟨a0,a1,a2,a3,a4⟩=>[.int .i64 a0,.int .i64 a1,.str a2,.str a3,.vs 5 (zo a4)]
def zo:List Expr->List (List V)
 |[]=>[]
 |x::r=>Y9 x::zo r
end
def zY(x:Expr):List V:=[.int .i64 x.Op,.int .i64 x.N,.str x.S,.str x.Key,.vs 5 (zo x.aH)]
def zhw(x:Expr):Y9 x=zY x:=by cases x;rw[Y9];rfl
def kU:∀l:List Expr,zo l=l.map zY
 |[]=>by rw[zo];rfl
 |x::r=>by rw[zo,zhw,kU r];rfl
structure Def where
 aK:aj
 Body:Expr
 deriving Inhabited
def ze(x:Def):List V:=[.str x.aK,.int .i64 x.Body.Op,.int .i64 x.Body.N,.str x.Body.S,.str x.Body.Key,.vs 5 (zo x.Body.aH)]
structure av where
 aK:aj
 N:Int
 deriving Inhabited,DecidableEq
def HS(x:av):List V:=[.str x.aK,.int .i64 x.N]
structure ar where
 aK:aj
 Rows:(List av)
 nU:Int
 deriving Inhabited,DecidableEq
def HU(x:ar):List V:=[.str x.aK,.vs 2 (cQ HS x.Rows),.int .i64 x.nU]
structure zK where
 X:Int
 Y:Int
 deriving Inhabited,DecidableEq
def uO(x:zK):List V:=[.int .i64 x.X,.int .i64 x.Y]
structure zF where
 aK:aj
 nf:Bool
 ay:(List zK)
 deriving Inhabited,DecidableEq
def Ql(x:zF):List V:=[.str x.aK,.bool x.nf,.vs 2 (cQ uO x.ay)]
structure zh where
 nL:Int
 nK:Int
 nG:Int
 Den:Int
 deriving Inhabited,DecidableEq
def Za(x:zh):List V:=[.int .i64 x.nL,.int .i64 x.nK,.int .i64 x.nG,.int .i64 x.Den]
structure za where
 aK:aj
 aA:(List aj)
 Except:(List aj)
 lA:Int
 j_:Int
 lN:Int
 lU:Bool
 aL:Int
 Test:Expr
 zh:zh
 Uses:Int
 lK:Int
 N:Int
 deriving Inhabited
def Qm(x:za):List V:=[.str x.aK,.vs 1 (cQ EV.encS x.aA),.vs 1 (cQ EV.encS x.Except),.int .i64 x.lA,.int .i64 x.j_,.int .i64 x.lN,.bool x.lU,.int .i64 x.aL,.int .i64 x.Test.Op,.int .i64 x.Test.N,.str x.Test.S,.str x.Test.Key,.vs 5 (zo x.Test.aH),.int .i64 x.zh.nL,.int .i64 x.zh.nK,.int .i64 x.zh.nG,.int .i64 x.zh.Den,.int .i64 x.Uses,.int .i64 x.lK,.int .i64 x.N]
structure a_ where
 aK:aj
 sH:Int
 pB:Int
 ay:(List zK)
 deriving Inhabited,DecidableEq
def Zb(x:a_):List V:=[.str x.aK,.int .i64 x.sH,.int .i64 x.pB,.vs 2 (cQ uO x.ay)]
structure zj where
 X:Int
 Y:Int
 Z_:Int
 deriving Inhabited,DecidableEq
def uo(x:zj):List V:=[.int .i64 x.X,.int .i64 x.Y,.int .i64 x.Z_]
structure au where
 aK:aj
 nq:zj
 sJ:Int
 mK:(List zj)
 deriving Inhabited,DecidableEq
def Qn(x:au):List V:=[.str x.aK,.int .i64 x.nq.X,.int .i64 x.nq.Y,.int .i64 x.nq.Z_,.int .i64 x.sJ,.vs 3 (cQ uo x.mK)]
structure yp where
 aE:(List Def)
 Tables:(List ar)
 aA:(List zF)
 aB:(List za)
 aI:(List a_)
 aF:(List au)
 aJ:(List zj)
 aG:Int
 deriving Inhabited
def xo(x:yp):List V:=[.vs 6 (cQ ze x.aE),.vs 3 (cQ HU x.Tables),.vs 3 (cQ Ql x.aA),.vs 20 (cQ Qm x.aB),.vs 4 (cQ Zb x.aI),.vs 6 (cQ Qn x.aF),.vs 3 (cQ uo x.aJ),.int .i64 x.aG]
end Go.Proofs.YtogbenbghgjbiaaGreatDoor
namespace Go.EV
open Go Go.RowKit Go.lG
structure IS(m:M)(Z:ZM)(F:aw)(ρ:Env)(ρr:zS)(w:bF):Prop where
 iW:w8 m Z F w
 rep:rM m Z ρ ρr
section
variable{P:bo}{r:Option Nat}{N:Nat}{all rest:List Oper}{Q:Wy}{ρr:zS}{ds:List cr}{w:bF}{m:M}{Z:ZM}{F:aw}{ρ:Env}{o:Oper}
def xQ{ρr:zS}{d t:Nat}{x:bx}(h:t≠d):l3 ρr d x t=ρr t:=by
 show(bif bm t d then x else ρr t)=_
 cases hb:bm t d with
 |true=>exact aQ (eb hb) h
 |false=>rfl
def Wh{ρr:zS}{d:Nat}{x:bx}:l3 ρr d x d=x:=by
 show(bif bm d d then x else ρr d)=_
 rw[Nat.beq_refl];rfl
def qD{d:Nat}{v:V}{op:Op}{ty:bK}{pos:String}{aft:Array Edge}{gd:Option (Nat×Bool)}(S:IS m Z F ρ ρr w)(hN:cm (d+1) N=bh)(hw:ye all ρ ⟨aY d,op,ty,pos,aft,gd⟩=aY bh)(hv:od P ρ op=aY v)
  (h:∀ρ',IS m Z F ((d,v)::ρ) ρ' w->(∀t,t≠d->ρ' t=ρr t)->nH P r N all Q rest ρ' ds w):nH P r N all Q (⟨aY d,op,ty,pos,aft,gd⟩::rest) ρr ds w:=by obtain⟨hn,u,h1,h2⟩:=X4 (P:=P) (w:=w) (dst:=aY d) (ty:=ty) (pos:=pos) (aft:=aft) (gd:=gd) (m:=aY m) (Z:=Z) hv (λx _=>S.rep.ev x) S.iW.frozen;exact wk d u rfl hN (xf S.rep hw) hn h1 (h _ ⟨S.iW,S.rep.put d h2⟩ λt ht=>xQ ht)
def Sc{d k off bt:Nat}{cs:List V}{v:V}{t:bK}{a:bI}{ty:bK}{pos:String}{aft:Array Edge}{gd:Option (Nat×Bool)}(S:IS m Z F ρ ρr w)(hN:cm (d+1) N=bh)(hw:ye all ρ ⟨aY d,.load t a,ty,pos,aft,gd⟩=aY bh)
  (ha:aV ρ a=.ptr k 0 off) (hg:(k,Obj.box bt cs)∈F) (hv:nr P t cs off=aY v)
  (h:∀ρ',IS m Z F ((d,v)::ρ) ρ' w->(∀t,t≠d->ρ' t=ρr t)->nH P r N all Q rest ρ' ds w):nH P r N all Q (⟨aY d,.load t a,ty,pos,aft,gd⟩::rest) ρr ds w:=by
 have rG:w8 m Z [(k,.box bt cs)] w:=⟨S.iW.frozen,λp hp=>by simp only[b_]at hp;subst hp;exact S.iW.holds _ hg,by simp[keys],λp hp q hq _ _ _=>by simp only[b_]at hp hq;subst hp;subst hq;rfl⟩
 have G_:=rG.holds _ (b_.2 rfl);obtain⟨b,cur,g1,g2,g3,g4,g5⟩:=G_;have hx:=S.rep.ev a;rw[ha]at hx;obtain⟨f',loc,e1,e2,e3⟩:=hx;cases e1;rw[g1]at e2;cases e2
 have pj:∀j u,cur.toList[j]?=aY u->w.cell? ⟨b,j,bg⟩=aY u:=λj u hu=>by rw[cell_of_row w b j cur bt (0,0) g2];simpa using hu
 have key:∃u,(bP (ev ρr) ⟨aY d,.load t a,ty,pos,aft,gd⟩).run P w=.ok (.value u) w/\aT (aY m) Z v u:=by
  unfold nr at hv;split at hv
  .rename_i nk;split at hv
   .rename_i v' D_;split at hv
    .cases hv;obtain⟨u,h4,h5⟩:=g3.get D_;exact⟨u,xu (xO nk) e3 (pj _ _ h4),h5⟩
    .cases hv
   .cases hv
  .rename_i n nk;split at hv
   .rename_i hk;have hk:=mi hk;cases hv;have hl:=g3.length;refine⟨.agg ((cur.toList.drop off).take n).toArray,w9 _ (ve nk) e3 (by simp at hl ⊢;omega) λj u hj=>?_,_,rfl,(g3.drop off).take n⟩;rw[Addr.add_lit]
    have DZ:j<n:=by have:=(bq.1 hj).1;simp at this;omega
    rw[List.getElem?_take,aO DZ,List.getElem?_drop]at hj;exact pj _ _ hj
   .cases hv
  .cases hv
 obtain⟨u,h1,h2⟩:=key;exact wk d u rfl hN (xf S.rep hw) rfl h1 (h _ ⟨S.iW,S.rep.put d h2⟩ λt ht=>xQ ht)
def aiF{d:Nat}{u:bx}{op:Op}{w':bF}{ty:bK}{pos:String}{aft:Array Edge}{gd:Option (Nat×Bool)}(S:IS m Z F ρ ρr w)(S':w8 m Z F w')(hN:cm (d+1) N=bh)(hw:ye all ρ ⟨aY d,op,ty,pos,aft,gd⟩=aY bh)(hn:vu op=bh)
  (hr:(bP (ev ρr) ⟨aY d,op,ty,pos,aft,gd⟩).run P w=.ok (.value u) w') (v:V) (hv:aT (aY m) Z v u)
  (h:∀ρ',IS m Z F ((d,v)::ρ) ρ' w'->(∀t,t≠d->ρ' t=ρr t)->ρ' d=u->nH P r N all Q rest ρ' ds w'):nH P r N all Q (⟨aY d,op,ty,pos,aft,gd⟩::rest) ρr ds w:=wk d u rfl hN (xf S.rep hw) hn hr (h _ ⟨S',S.rep.put d hv⟩ (λt ht=>xQ ht) Wh)
def IL{d:Nat}{op:Op}{ty:bK}{pos:String}{aft:Array Edge}{gd:Option (Nat×Bool)}(S:IS m Z F ρ ρr w)(hN:cm (d+1) N=bh)(hw:ye all ρ ⟨aY d,op,ty,pos,aft,gd⟩=aY bf)
  (h:∀ρ',IS m Z F ((d,.no)::ρ) ρ' w->(∀t,t≠d->ρ' t=ρr t)->nH P r N all Q rest ρ' ds w):nH P r N all Q (⟨aY d,op,ty,pos,aft,gd⟩::rest) ρr ds w:=zmv d rfl hN (xf S.rep hw) (h _ ⟨S.iW,S.rep.put d rfl⟩ λt ht=>xQ ht)
def zEi{G:Type}{x:Code}(Inv:G->zS->List cr->bF->Prop)(nN:G->Nat)(g0:G)(hi:Inv g0 ρr ds w)
  (Bj:∀g ρ' mL w',Inv g ρ' mL w'->Wp P r N x (andThen (λnO nV w2=>∃g',Inv g' nO nV w2/\nN g'<nN g) Q) ρ' mL w'):Wp P r N (.loop x) Q ρr ds w:=by
 intro a n hf
 let I:Act->bF->Nat->Prop:=λa w m=>∃g ρ' nV,pV N nV a ρ'/\Inv g ρ' nV w/\nN g=m
 have hex:∀a w,(∃m,I a w m)->∃m,I a w m/\∀k,k<m->¬I a w k:=λa w ⟨m,hm⟩=>least _ m hm
 refine wpIn_loop (λa w=>∃m,I a w m) (λa w=>(Classical.epsilon λm=>I a w m/\∀k,k<m->¬I a w k)) ⟨_,g0,ρr,ds,hf,hi,rfl⟩ ?_;intro a w hI;obtain⟨⟨g,ρ',nV,nR,hinv,hm⟩,Dp⟩:=Classical.epsilon_spec (hex a w hI)
 refine wpIn_mono (Bj g ρ' nV w hinv a n nR) λe a' w' hq=>?_
 obtain⟨nO,nV,rS,hq⟩:=hq
 cases e with
 |normal =>
  obtain⟨g',TA,ib⟩:=hq
  have pD:I a' w' (nN g'):=⟨g',nO,nV,rS,TA,rfl⟩
  refine⟨⟨_,pD⟩,?_⟩;obtain⟨_,TE⟩:=Classical.epsilon_spec (hex a' w' ⟨_,pD⟩);refine Nat.lt_of_le_of_lt ?_ (hm▸ib)
  exact Nat.le_of_not_lt λhl=>TE _ hl pD
 |exit id=>exact⟨nO,nV,rS,hq⟩
 |goto l=>exact⟨nO,nV,rS,hq⟩
 |ret=>exact⟨nO,nV,rS,hq⟩
 |panic ch=>exact⟨nO,nV,rS,hq⟩
 |outgrown=>exact⟨nO,nV,rS,hq⟩
def zuz{d e sz:Nat}{t:bK}{x ix:bI}{k:IntKind}{i:Int}{els:List (List V)}{cs:List V}{ty:bK}{pos:String}{aft:Array Edge}{gd:Option (Nat×Bool)}(S:IS m Z F ρ ρr w)(hN:cm (d+1) N=bh)(hw:ye all ρ ⟨aY d,.indexAddr t x ix,ty,pos,aft,gd⟩=aY bh)
  (ht:kP P t=aY (e,sz)) (hx:aV ρ x=.vs sz els) (hi:aV ρ ix=.int k i) (h0:0<=i) (hc:els[i.toNat]?=aY cs)
  (h:∀ρ',IS m Z F ((d,.vp cs 0)::ρ) ρ' w->(∀t,t≠d->ρ' t=ρr t)->nH P r N all Q rest ρ' ds w):nH P r N all Q (⟨aY d,.indexAddr t x ix,ty,pos,aft,gd⟩::rest) ρr ds w:=by
 have key:∃u,(bP (ev ρr) ⟨aY d,.indexAddr t x ix,ty,pos,aft,gd⟩).run P w=.ok (.value u) w/\aT (aY m) Z (.vp cs 0) u:=by
  have hX:=S.rep.ev x;have hI:=S.rep.ev ix;rw[hx]at hX;rw[hi]at hI;have hI:ev ρr ix=.int k i:=hI;obtain⟨A,c,h1,h2,h3,h4⟩:=hX;have ib:=(bq.1 hc).1
  rcases h4 with h4|⟨a,rfl,h5⟩
  .subst h4;simp at ib
  have h6:=(h5.get hc).2;rw[Nat.zero_add]at h6;unfold kP at ht;split at ht
  .rename_i e' hu;split at ht
   .rename_i ii rj;split at ht
    .simp only[Option.some.injEq,Prod.mk.injEq]at ht;obtain⟨rfl,h_⟩:=ht;refine⟨.pointer (aY (a.add (i.toNat*sz))),?_,a.add (i.toNat*sz),by rw[Addr.add_zero'],h6⟩;have h7:¬((els.length:Int)<=i):=ab;simp[bP,Instr.indexAt,run_underlying hu,asIntOf,h1,hI,sizeOf,typeInfo,rj,h_,h0,h7]
    .cases ht
   .cases ht
  .cases ht
 obtain⟨u,h1,h2⟩:=key;exact wk d u rfl hN (xf S.rep hw) rfl h1 (h _ ⟨S.iW,S.rep.put d h2⟩ λt ht=>xQ ht)
end
structure mE{α:Type}(W:bF)(D:qt)(J:List α->qt->bF->Prop)(own:List (Nat×Go.Obj))(pre:List α)(D1:qt)(w:bF)(ds:List cr):Prop where
 j:J pre D1 w
 only:HI D W w
 grows:vY D D1 W
 own:∀p∈own,w.heap[p.1]?=aY p.2/\¬D1 p.1/\W.heap.size<=p.1
 marks:∃Ds:List Nat,ds=Ds.map lG.mark/\Ds.Nodup/\∀K∈Ds,w.heap[K]?=aY (.deferred (aY []))/\¬D1 K/\W.heap.size<=K
section
variable{α:Type}{W w w':bF}{D D1:qt}{J J':List α->qt->bF->Prop}{own:List (Nat×Go.Obj)}{pre:List α}{ds:List cr}
def mE.ND(S:mE W D J own pre D1 w ds)(hJ:rO (J pre)){row:Option Nat}(hg:w.grownBy w' row)(hr:∀b,row=aY b->W.heap.size<=b/\¬D1 b/\(∀p∈own,p.1≠b)/\∀K,lG.mark K∈ds->K≠b):mE W D J own pre D1 w' ds:=by
 refine⟨hJ.grown S.j hg λb e=>(hr b e).2.1,⟨cY S.only.size hg.size,λb hb hn=>(hg.block b (Nat.lt_of_lt_of_le hb S.only.size) λe=>by have:=(hr b e.symm).1;omega).trans (S.only.same b hb hn)⟩,S.grows,λp hp=>?_,?_⟩
 .obtain⟨h1,h2,h3⟩:=S.own p hp;exact⟨(hg.block _ (bw.1 h1).1 λe=>(hr _ e.symm).2.2.1 p hp rfl).trans h1,h2,h3⟩
 .obtain⟨Ds,h1,h2,h3⟩:=S.marks;refine⟨Ds,h1,h2,λK hK=>?_⟩;obtain⟨h4,h5,h6⟩:=h3 K hK;exact⟨(hg.block _ (bw.1 h4).1 λe=>(hr K e.symm).2.2.2 K (by rw[h1];exact cG hK) rfl).trans h4,h5,h6⟩
def mE.alloc(S:mE W D J own pre D1 w ds)(hJ:rO (J pre))(o:Go.Obj):mE W D J own pre D1 (w.alloc o) ds:=S.ND hJ (World.grownBy_alloc w o bg) λb e=>by cases e
def mE.new(S:mE W D J own pre D1 w ds)(hJ:rO (J pre))(o:Go.Obj):mE W D J ((w.heap.size,o)::own) pre D1 (w.alloc o) ds:=by
 have S':=S.alloc hJ o;refine⟨S'.j,S'.only,S'.grows,λp hp=>?_,S'.marks⟩
 rcases bu.1 hp with rfl|hp
 .exact⟨World.alloc_heap_new w o,λh=>by have:=hJ.2.1 _ _ S.j _ h;omega,S.only.size⟩
 .exact S'.own p hp
def mE.drop{p:Nat×Go.Obj}(S:mE W D J (p::own) pre D1 w ds):mE W D J own pre D1 w ds:=⟨S.j,S.only,S.grows,λq hq=>S.own q (iO _ hq),S.marks⟩
def mE.begin(hJ:J pre D W)(ho:∀p∈own,False):mE W D J own pre D W []:=⟨hJ,HI.refl _ _,vY.refl _ _,λp hp=>(ho p hp).elim,[],rfl,cZ,λ_ h=>by cases h⟩
def mE.yield{sr:List α}{D2:qt}(S:mE W D J own pre D1 w ds)(ho:HI D1 w w')(hg:vY D1 D2 w)(hj:J' sr D2 w'):mE W D J' own sr D2 w' ds:=by
 have hD:∀b,b<w.heap.size->¬D1 b->¬D2 b:=λb hb hn h=>(hg.f b h).elim hn ab
 refine⟨hj,S.only.trans S.grows ho,S.grows.trans S.only.size hg,λp hp=>?_,?_⟩
 .obtain⟨h1,h2,h3⟩:=S.own p hp;have hl:=(bw.1 h1).1;exact⟨(ho.same _ hl h2).trans h1,hD _ hl h2,h3⟩
 .obtain⟨Ds,h1,h2,h3⟩:=S.marks;refine⟨Ds,h1,h2,λK hK=>?_⟩;obtain⟨h4,h5,h6⟩:=h3 K hK;have hl:=(bw.1 h4).1;exact⟨(ho.same _ hl h5).trans h4,hD _ hl h5,h6⟩
def ED(w0:bF)(D1:qt):qt:=⟨D1.z,λb=>b<w0.heap.size∨D1 b⟩
def mE.below(S:mE W D J own pre D1 w ds):(∀p∈own,p.1<w.heap.size)/\∀K,lG.mark K∈ds->K<w.heap.size:=by
 refine⟨λp hp=>(bw.1 (S.own p hp).1).1,λK hK=>?_⟩;obtain⟨Ds,rfl,_,h⟩:=S.marks;obtain⟨K',h1,h2⟩:=List.mem_map.1 hK
 have:K'=K:=by simpa[lG.mark]using h2
 subst this;exact(bw.1 (h _ h1).1).1
def mE.aaW{w0:bF}{p:qt->Prop}(hJ:rO (J pre))(hW:W.heap.size<=w0.heap.size)(ho:∀q∈own,q.1<w0.heap.size)(hd:∀K,lG.mark K∈ds->K<w0.heap.size):
  rO λDf w=>∃D1,mE W D J own pre D1 w ds/\Df=ED w0 D1/\p D1/\w0.heap.size<=w.heap.size:=by
 refine⟨?_,?_,?_⟩
 .rintro Df A B row ⟨D1,S,rfl,hp,hs⟩ hg hr;refine⟨D1,S.ND hJ hg λb e=>?_,rfl,hp,cY hs hg.size⟩;have hn:=hr b e
  have h1:¬b<w0.heap.size:=λh=>hn (Or.inl h)
  exact⟨ab,λh=>hn (Or.inr h),λq hq he=>h1 (he▸ho q hq),λK hK he=>h1 (he▸hd K hK)⟩
 .rintro Df A ⟨D1,S,rfl,hp,hs⟩ b hb
  rcases hb with hb|hb
  .omega
  .exact hJ.2.1 _ _ S.j b hb
 .rintro Df A ⟨D1,S,rfl,hp,hs⟩ a x hz;exact Or.inr (hJ.2.2 _ _ S.j a x hz)
def mE.mark{K:Nat}(S:mE W D J own pre D1 w ds)(hK:w.heap[K]?=aY (.deferred (aY [])))(hn:¬D1 K)(hW:W.heap.size<=K)(hd:∀K',lG.mark K'∈ds->K'≠K):mE W D J own pre D1 w (lG.mark K::ds):=by
 refine⟨S.j,S.only,S.grows,S.own,?_⟩;obtain⟨Ds,rfl,h2,h3⟩:=S.marks;refine⟨K::Ds,rfl,cA.2 ⟨λh=>hd K (cG h) rfl,h2⟩,λK' u_=>?_⟩
 rcases bu.1 u_ with rfl|u_
 .exact⟨hK,hn,hW⟩
 .exact h3 K' u_
def zu0:∀(Ds:List Nat)(w:bF),Ds.Nodup->(∀K∈Ds,w.heap[K]?=aY (.deferred (aY []))/\¬D1 K/\W.heap.size<=K)->rO (J pre)->J pre D1 w->HI D W w->∃w',lG.FZ (Ds.map lG.mark) w w'/\J pre D1 w'/\HI D W w'
 |[],w,_,_,_,hj,ho=>⟨w,rfl,hj,ho⟩
 |K::Ds,w,hn,hK,hJ,hj,ho=>by
  obtain⟨h1,h2⟩:=cA.1 hn;obtain⟨h3,h4,h5⟩:=hK K ak
  obtain⟨w',h6,h7⟩:=zu0 Ds (w.putObj K (.deferred bg)) h2 (λK' u_=>by
   obtain⟨g1,g2⟩:=hK K' (iO _ u_)
   exact⟨(World.putObj_heap_other (λe=>h1 (by first|(rw[<- e];exact u_)|(rw[e];exact u_)))).trans g1,g2⟩) hJ (hJ.putObj _ hj h4) ⟨by simpa using ho.size,λb hb hn=>(World.putObj_heap_other ab).trans (ho.same b hb hn)⟩
  exact⟨w',⟨K,rfl,h3,h6⟩,h7⟩
def mE.fin{P:bo}{fn:Func}{ρr:zS}{R:bx->bF->Prop}(S:mE W D J own pre D1 w ds)(hJ:rO (J pre))(hr:fn.results=#[])(h:∀w',J pre D1 w'->HI D W w'->vY D D1 W->R (.tuple #[]) w'):Ft P fn R .ret ρr ds w:=by obtain⟨Ds,rfl,h2,h3⟩:=S.marks;obtain⟨w',h4,h5,h6⟩:=zu0 Ds w h2 h3 hJ S.j S.only;exact⟨w',.tuple #[],h4,λtmps _=>by simp[results,hr],h w' h5 h6 S.grows⟩
end
section
variable{P:bo}{r:Option Nat}{N:Nat}{all rest:List Oper}{Q:Wy}{ρr:zS}{ds:List cr}{w:bF}
def zEj{d:Nat}{t:bK}{x:bI}{l:List bx}{cs0:List V}{ty ty':bK}{pos pos':String}{aft afn:Array Edge}(hN:cm (d+1) N=bh)(hz:zeroV P t=aY cs0)(hl:cs0.length=l.length)(h_:vJ P t cs0.length=bh)(S9:∀u∈l,u.oneCell'=bh)
  (hx:ev (l3 ρr d (.pointer (aY ⟨w.heap.size,0,bg⟩))) x=.agg l.toArray)
  (h:nH P r N all Q rest (l3 ρr d (.pointer (aY ⟨w.heap.size,0,bg⟩))) ds (w.alloc (.cells l.toArray t))):
  nH P r N all Q (⟨aY d,.alloc t,ty,pos,aft,bg⟩::⟨bg,.store t (.tmp d) x,ty',pos',afn,bg⟩::rest) ρr ds w:=by
 unfold zeroV at hz;split at hz
 .rename_i i hi;split at hz
  .rename_i z hzz;cases hz
   have LI:z.cells.size=l.length:=by simpa using hl
   refine wk d (.pointer (aY ⟨w.heap.size,0,bg⟩)) (w':=w.alloc (.cells z.cells t)) rfl hN rfl rfl (by simp[bP,Instr.alloc,zeroValue,typeInfo,hi,hzz,newVar,newRow,newObj];rfl) ?_;have gy:=run_storeCells_at P w.heap.size 0 t l 0 z.cells (w.alloc (.cells z.cells t)) (World.alloc_heap_new w _) (by simp;omega) S9
   have hw:(w.alloc (.cells z.cells t)).setRow w.heap.size l.toArray=w.alloc (.cells l.toArray t):=by
    unfold World.setRow World.alloc
    congr 1
    apply Array.ext_getElem?;intro i;rw[Array.getElem?_modify,ik,ik];by_cases hi:i=w.heap.size
    .subst hi;simp
    .simp[hi,Ne.symm hi]
   have h1:(z.cells.toList.take 0++l++z.cells.toList.drop (0+l.length)).toArray=l.toArray:=by rw[List.drop_of_length_le (by simp;omega)];simp
   simp only[Nat.add_zero]at gy;rw[h1,hw]at gy;unfold vJ at h_;rw[hi]at h_;have DX:=eb h_;simp at DX;refine zx8 (w':=w.alloc (.cells l.toArray t)) rfl rfl rfl ?_ h;have Gh:l.length=i.size:=ab;have B_:ev (l3 ρr d (.pointer (aY ⟨w.heap.size,0,bg⟩))) (.tmp d)=.pointer (aY ⟨w.heap.size,0,bg⟩):=Wh;have mY:(Value.agg l.toArray).cells=l.toArray:=rfl;simp[bP,Instr.storeAt,B_,hx,Instr.sureAddr,storeVar,sizeOf,typeInfo,hi,mY,Gh];rw[gy];rfl
  .cases hz
 .cases hz
end
def KC{m:M}{Z:ZM}{ρr:zS}:∀{l:Env},(∀p∈l,aT (aY m) Z p.2 (ρr p.1))->rM m Z l ρr
 |[],_=>λt=>trivial
 |(d,v)::l,h=>λt=>by
  show aT (aY m) Z (bif bm t d then v else Env.get l t) (ρr t)
  cases hb:bm t d with
  |true=>have:=eb hb;subst this;exact h (t,v) ak
  |false=>exact KC (l:=l) (λp hp=>h p (iO _ hp)) t
def RE(m:M)(w:bF):w8 m (λ_=>bg) [] w:=⟨λ_ _ h=>(by cases h),λ_ h=>(by cases h),cZ,λ_ h=>(by cases h)⟩
end Go.EV
set_option maxRecDepth 100000
namespace Go.Proofs.YtogbenbghgjbiaaGreatDoor.O
open Go Go.RowKit Go.lG Go.EV
mutual
def zJ:Expr->List aj
 |⟨op,n,s,key,args⟩=>(if op=1 then[s]else[])++xA args
def xA:List Expr->List aj
 |[]=>[]
 |x::r=>zJ x++xA r
end
def HV(e:Expr):zJ e=(if e.Op=1 then[e.S]else[])++xA e.aH:=by cases e;rw[zJ]
def kI{β:Type}(l:List (aj×β)):List aj:=(l.map (·.1)).mergeSort λx y=>decide (x<=y)
def rN(s:aj):bx:=.string ⟨s.toArray⟩
abbrev rL(l:Nat):bx:=.func (.yield l) #[] #[]
def uP{n:Int}(h0:-9223372036854775808<=n)(h1:n<=9223372036854775807):EV.aD n=n:=by rw[show EV.aD n=IntKind.i64.wrap n from rfl,IntKind.wrap_i64];omega
def zu1:zb bk 228:=⟨_,Tryz.func228,by kernel_rfl,by kernel_rfl⟩
def zu2:zb bk 179:=⟨_,Tryz.func179,by kernel_rfl,by kernel_rfl⟩
def zqt(vs:List bx)(w:bF):Calls bk 179 [Value.agg vs.toArray].toArray w λen w'=>∃v,en=.returned v/\v=.func (.func 228) #[] #[.pointer (aY ⟨w.heap.size,0,bg⟩)]/\w'=w.alloc (.cells vs.toArray 34):=by
 refine V8 (N:=4) (R:=λv w'=>v=.func (.func 228) #[] #[.pointer (aY ⟨w.heap.size,0,bg⟩)]/\w'=w.alloc (.cells vs.toArray 34)) Tryz.func179 rfl rfl rfl ?_
 refine Q4 ?_;refine vt ?_;refine wk 1 (.pointer (aY ⟨w.heap.size,0,bg⟩)) (w':=w.alloc (.cells vs.toArray 34)) rfl rfl rfl rfl (by simp[bP,Instr.box,newVar,newRow,newObj,ev,kD,Value.cells];rfl) ?_;refine wk 2 .nilFunc rfl rfl rfl rfl (FL rfl) ?_;refine vI ?_;refine xG ?_;refine Q4 ?_;refine vt ?_;refine wk 3 (.func (.func 228) #[] #[.pointer (aY ⟨w.heap.size,0,bg⟩)]) rfl rfl rfl rfl (FL rfl) ?_;refine wk 2 (.func (.func 228) #[] #[.pointer (aY ⟨w.heap.size,0,bg⟩)]) rfl rfl rfl rfl (FL rfl) ?_;refine vI ?_;refine xG ?_;refine M6 ?_;exact⟨_,_,rfl,λtmps hg=>by simp[results,hg];rfl,rfl,rfl⟩
def zoc{re:zS}{b:Bool}{d d':Nat}(hd:d'≠d)(h9:re d'=.bool bh)(w3:bF):IS (λ_ _=>bg) (λ_=>bg) [] [(d,.bool b),(d',.bool bh)] (l3 re d (.bool b)) w3:=⟨RE _ _,KC λp ka=>by
 simp only[bu,eg,or_false]at ka
 rcases ka with rfl|rfl
 .exact Wh
 .exact(xQ hd).trans h9⟩
def zqu(e:Expr)(k:Nat)(ih:∀a∈e.aH,∀k,I1 bk 228 [.ptr k 0 0] [(k,.box 34 (zY a))] rN (zJ a)):I1 bk 228 [.ptr k 0 0] [(k,.box 34 (zY e))] rN (zJ e):=by
 intro lb l J Jx W D NG hJ E6 hY h0;obtain⟨m0,hs0,hr0⟩:=NG [] D W h0;obtain⟨x,xs,rfl,⟨f,loc,e1,SX,rfl⟩,Eb⟩:=hr0;cases e1;cases Eb
 have NC:∀pre D1 w,J pre D1 w->∃m,w8 m D1.z [(k,.box 34 (zY e))] w/\aT (aY m) D1.z (.ptr k 0 0) (.pointer (aY ⟨loc.1,0,bg⟩)):=λpre D1 w j=>by obtain⟨m,h1,x,xs,h2,h3,h4⟩:=NG pre D1 w j;cases h2;exact⟨m,h1,h3⟩
 obtain⟨R,hR⟩:∃R:bx->bF->Prop,R=λ_ w'=>∃D',HI D W w'/\vY D D' W/\(J (zJ e) D' w'∨∃pre,pre <+: zJ e/\Jx pre D' w'):=⟨_,rfl⟩
 refine Calls.mono (V8 (N:=31) (R:=R) Tryz.func228 rfl rfl rfl ?_) (λ_ _ ⟨v,he,hr⟩=>⟨⟨v,he⟩,by rw[hR]at hr;exact hr⟩)
 have aal:∀{fn:Func}{own pre D1 w ds ρ},fn.results=#[]->mE W D Jx own pre D1 w ds->pre <+: zJ e->Ft bk fn R .ret ρ ds w:=λ{fn own pre D1 w ds ρ} hr S hp=>S.fin (E6 pre) hr λw' h1 h2 h3=>by rw[hR];exact⟨D1,h2,h3,.inr ⟨pre,hp,h1⟩⟩
 have afr:∀{fn:Func}{own D1 w ds ρ},fn.results=#[]->mE W D J own (zJ e) D1 w ds->Ft bk fn R .ret ρ ds w:=λ{fn own D1 w ds ρ} hr S=>S.fin (hJ _) hr λw' h1 h2 h3=>by rw[hR];exact⟨D1,h2,h3,.inl h1⟩
 obtain⟨b2,pZ⟩:∃b2,W.heap.size=b2:=⟨_,rfl⟩
 refine Q4 ?_;refine vt ?_;refine wk 2 (.pointer (aY ⟨b2,0,bg⟩)) (w':=W.alloc (.cells #[rL l] 125)) rfl rfl rfl rfl (by subst pZ;simp[bP,Instr.box,newVar,newRow,newObj,ev,kD,Value.cells];rfl) ?_;refine vI ?_;refine xG ?_
 have S0:mE W D J [(b2,.cells #[rL l] 125)] [] D (W.alloc (.cells #[rL l] 125)) []:=by subst pZ;exact(mE.begin (own:=[]) h0 ae).new (hJ []) _
 have r1:l3 (kD [rL l,.pointer (aY ⟨loc.1,0,bg⟩)]) 2 (.pointer (aY ⟨b2,0,bg⟩)) 1=.pointer (aY ⟨loc.1,0,bg⟩):=rfl;have r2:l3 (kD [rL l,.pointer (aY ⟨loc.1,0,bg⟩)]) 2 (.pointer (aY ⟨b2,0,bg⟩)) 2=.pointer (aY ⟨b2,0,bg⟩):=rfl;generalize l3 (kD [rL l,.pointer (aY ⟨loc.1,0,bg⟩)]) 2 (.pointer (aY ⟨b2,0,bg⟩))=adJ at r1 r2;generalize W.alloc (.cells #[rL l] 125)=w1 at S0;refine Q4 ?_
 refine YF (Q:=λe' ρ ds w=>match e' with
  |.normal=>∃D1,mE W D J [(b2,.cells #[rL l] 125)] (if e.Op=1 then[e.S]else[]) D1 w ds/\ρ 1=.pointer (aY ⟨loc.1,0,bg⟩)/\ρ 2=.pointer (aY ⟨b2,0,bg⟩)
  |.ret=>∃D1,e.Op=1/\mE W D Jx [(b2,.cells #[rL l] 125)] [e.S] D1 w ds
  |_=>False) ?_ ?_
 .obtain⟨m,hs,hp⟩:=NC _ _ _ S0.j
  have hI:IS m D.z [(k,.box 34 (zY e))] [(1,.ptr k 0 0)] adJ w1:=⟨hs,KC λp ka=>by simp only[b_]at ka;subst ka;rw[r1];exact hp⟩
  refine Q4 ?_;refine vt ?_
  refine qD (v:=.ptr k 0 0) hI rfl rfl (by kernel_rfl) λl0 hI q1=>?_
  refine Sc (off:=0) (v:=.int .i64 e.Op) hI rfl rfl (by kernel_rfl) (b_.2 rfl) (by kernel_rfl) λnO hI q2=>?_
  refine qD (v:=.bool (decide (e.Op=1))) hI rfl rfl (by kernel_rfl) λsv hI q3=>?_
  refine qD (v:=.bool (decide (e.Op=1))) hI rfl rfl (by kernel_rfl) λDu hI q4=>?_
  have t1:Du 1=.pointer (aY ⟨loc.1,0,bg⟩):=by rw[q4 1 ad,q3 1 ad,q2 1 ad,q1 1 ad];exact r1
  have t2:Du 2=.pointer (aY ⟨b2,0,bg⟩):=by rw[q4 2 ad,q3 2 ad,q2 2 ad,q1 2 ad];exact r2
  clear q1 q2 q3 q4
  cases nv:decide (e.Op=1)with
  |false =>
   rw[nv]at hI
   refine IL hI rfl (by kernel_rfl) λDv hI q5=>?_
   refine IL hI rfl (by kernel_rfl) λNP hI q6=>?_
   refine IL hI rfl (by kernel_rfl) λre hI q7=>?_
   refine IL hI rfl (by kernel_rfl) λT3 hI q8=>?_
   refine IL hI rfl (by kernel_rfl) λT4 hI q9=>?_
   refine qD (v:=.bool bf) hI rfl rfl (by kernel_rfl) λI_ hI Ej=>?_
   refine vI ?_;refine xG ?_;have uQ:I_ 15=.bool bf:=hI.rep 15;refine WZ uQ ?_;refine IA ?_;have lD:¬e.Op=1:=of_decide_eq_false nv;refine⟨D,by rw[aN lD];exact S0,?_,?_⟩
   .rw[Ej 1 ad,q9 1 ad,q8 1 ad,q7 1 ad,q6 1 ad,q5 1 ad];exact t1
   .rw[Ej 2 ad,q9 2 ad,q8 2 ad,q7 2 ad,q6 2 ad,q5 2 ad];exact t2
  |true =>
   rw[nv]at hI;have heq:e.Op=1:=aX nv;obtain⟨pj,G2,hle⟩:=S0.own _ (b_.2 rfl)
   refine aiF (u:=rL l) hI hI.iW rfl rfl rfl (xu (xO (by kernel_rfl)) t2 (by rw[cell_of_row w1 b2 0 _ _ _ pj];rfl)) .undef trivial λDv hI q5 adG=>?_
   refine qD (v:=.ptr k 0 2) hI rfl rfl (by kernel_rfl) λNP hI q6=>?_
   refine Sc (off:=2) (v:=.str e.S) hI rfl rfl (by kernel_rfl) (b_.2 rfl) (by kernel_rfl) λre hI q7=>?_
   have adH:re 10=rL l:=by rw[q7 10 ad,q6 10 ad];exact adG
   have afj:re 12=rN e.S:=hI.rep 12;refine zgb [rN e.S] rfl (xf hI.rep (by kernel_rfl)) adH (by simp[ev,afj]) (hY [] e.S _ _ S0.j (by rw[HV,aO heq];exact⟨_,rfl⟩)) ?_;rintro en w3 ⟨D3,ho,hg,hh⟩
   have u1:re 1=.pointer (aY ⟨loc.1,0,bg⟩):=by rw[q7 1 ad,q6 1 ad,q5 1 ad];exact t1
   have u2:re 2=.pointer (aY ⟨b2,0,bg⟩):=by rw[q7 2 ad,q6 2 ad,q5 2 ad];exact t2
   rcases hh with⟨rfl,hj⟩|⟨rfl,hj⟩
   .refine⟨_,rfl,?_⟩;have pD:=zoc (b:=bh) (d:=13) (d':=9) ad (hI.rep 9) w3;have p1:l3 re 13 (.bool bh) 1=re 1:=xQ ad;have p2:l3 re 13 (.bool bh) 2=re 2:=xQ ad;generalize l3 re 13 (.bool bh)=T3 at pD p1 p2
    refine qD (v:=.bool bf) pD rfl rfl (by kernel_rfl) λT4 pD q9=>?_
    refine qD (v:=.bool bf) pD rfl rfl (by kernel_rfl) λI_ pD Ej=>?_
    refine vI ?_;refine xG ?_;have Pb:I_ 15=.bool bf:=pD.rep 15;refine WZ Pb ?_;refine IA ?_;exact⟨D3,by rw[aO heq];exact S0.yield ho hg hj,by rw[Ej 1 ad,q9 1 ad,p1];exact u1,by rw[Ej 2 ad,q9 2 ad,p2];exact u2⟩
   .refine⟨_,rfl,?_⟩;have pD:=zoc (b:=bf) (d:=13) (d':=9) ad (hI.rep 9) w3;have p1:l3 re 13 (.bool bf) 1=re 1:=xQ ad;have p2:l3 re 13 (.bool bf) 2=re 2:=xQ ad;generalize l3 re 13 (.bool bf)=T3 at pD p1 p2
    refine qD (v:=.bool bh) pD rfl rfl (by kernel_rfl) λT4 pD q9=>?_
    refine qD (v:=.bool bh) pD rfl rfl (by kernel_rfl) λI_ pD Ej=>?_
    refine vI ?_;refine xG ?_;have Pb:I_ 15=.bool bh:=pD.rep 15;refine PY Pb ?_;refine M6 ?_;exact⟨D3,heq,S0.yield ho hg hj⟩
 .intro e' ρ ds w hq
  cases e' with
  |panic c=>exact hq.elim
  |exit id=>exact hq.elim
  |goto l=>exact hq.elim
  |outgrown=>exact hq.elim
  |ret =>
   obtain⟨D1,heq,S⟩:=hq;exact PZ (aal rfl S (by rw[HV,aO heq];exact⟨_,rfl⟩))
  |normal =>
   obtain⟨D1,S1,t1,t2⟩:=hq;refine xG ?_;have rA:(if e.Op=1 then[e.S]else[])++xA e.aH=zJ e:=(HV e).symm;generalize (if e.Op=1 then[e.S]else[]:List aj)=pre at S1 rA;refine Q4 ?_;refine vt ?_;obtain⟨m,hs,hp⟩:=NC _ _ _ S1.j
   have hI:IS m D1.z [(k,.box 34 (zY e))] [(1,.ptr k 0 0)] ρ w:=⟨hs,KC λp ka=>by simp only[b_]at ka;subst ka;rw[t1];exact hp⟩
   refine qD (v:=.ptr k 0 4) hI rfl rfl (by kernel_rfl) λl0 hI q1=>?_
   refine Sc (off:=4) (v:=.vs 5 (zo e.aH)) hI rfl rfl (by kernel_rfl) (b_.2 rfl) (by kernel_rfl) λnO hI q2=>?_
   refine qD (v:=.int .i64 ((zo e.aH).length:Nat)) hI rfl rfl (by kernel_rfl) λsv hI q3=>?_
   refine qD (v:=.int .i64 (0:Nat)) hI rfl rfl (by kernel_rfl) λDu hI q4=>?_
   refine vI ?_;refine xG ?_
   have v2:Du 2=.pointer (aY ⟨b2,0,bg⟩):=by rw[q4 2 ad,q3 2 ad,q2 2 ad,q1 2 ad];exact t2
   have pz:aT bg D1.z (.vs 5 (zo e.aH)) (Du 17):=aT.flat _ _ rfl (hI.rep 17);have rm:Du 18=.int .i64 ((zo e.aH).length:Nat):=hI.rep 18;have rn:Du 19=.int .i64 (0:Nat):=hI.rep 19;refine YG ?_;refine zEi (G:=List Expr) (λrem ρ ds w=>∃(rf:List Expr)(pre:List aj)(D1:qt),e.aH=rf++rem/\pre++xA rem=zJ e/\mE W D J [(b2,.cells #[rL l] 125)] pre D1 w ds/\ρ 2=.pointer (aY ⟨b2,0,bg⟩)/\ρ 19=.int .i64 (rf.length:Nat)/\ρ 18=.int .i64 ((zo e.aH).length:Nat)/\aT bg D1.z (.vs 5 (zo e.aH)) (ρ 17)) ba e.aH ⟨[],pre,D1,rfl,rA,S1,v2,rn,rm,pz⟩ ?_;rintro rem ρ ds w ⟨rf,pre,D1,NF,rA,S,v2,rn,rm,pz⟩
   have hlen:(zo e.aH).length=rf.length+rem.length:=by rw[kU,bM,NF,la]
   refine Q4 ?_;refine vt ?_
   have hI:IS (λ_ _=>bg) (λ_=>bg) [] [(19,.int .i64 (rf.length:Nat)),(18,.int .i64 ((zo e.aH).length:Nat))] ρ w:=⟨RE _ _,KC λp ka=>by
    simp only[bu,eg,or_false]at ka
    rcases ka with rfl|rfl
    .exact rn
    .exact rm⟩
   refine qD (v:=.bool (decide ((rf.length:Int)<((zo e.aH).length:Nat)))) hI rfl rfl (by kernel_rfl) λl0 hI q1=>?_
   refine vI ?_;refine xG ?_;have nC:l0 20=.bool (decide ((rf.length:Int)<((zo e.aH).length:Nat))):=hI.rep 20;rw[hlen]at nC;refine Q4 ?_
   cases rem with
   |nil =>
    refine WZ (by show l0 20=_;rw[nC];simp) ?_;refine WA ?_;refine zf7 ?_;refine zf7 ?_;refine zx7 ?_
    have S':mE W D J [(b2,.cells #[rL l] 125)] (zJ e) D1 w ds:=by rw[<- rA,xA,cL];exact S
    exact zx9 (afr rfl S')
   |cons a rem =>
    have ib:(rf.length:Int)<((rf.length+(a::rem).length:Nat):Int):=by simp only[lc];omega
    refine PY (by show l0 20=_;rw[nC,dt ib]) ?_;refine IA ?_;refine xG ?_;refine Q4 ?_;refine YG ?_;refine Q4 ?_;refine vt ?_;obtain⟨m,hs,hp⟩:=NC _ _ _ S.j
    have w2:l0 2=.pointer (aY ⟨b2,0,bg⟩):=by rw[q1 2 ad];exact v2
    have VM:l0 17=ρ 17:=q1 17 ad
    have afb:l0 18=.int .i64 ((zo e.aH).length:Nat):=by rw[q1 18 ad];exact rm
    have VN:l0 19=.int .i64 (rf.length:Nat):=by rw[q1 19 ad];exact rn
    have hI:IS m D1.z [(k,.box 34 (zY e))] [(17,.vs 5 (zo e.aH)),(19,.int .i64 (rf.length:Nat))] l0 w:=⟨hs,KC λp ka=>by
     simp only[bu,eg,or_false]at ka
     rcases ka with rfl|rfl
     .show aT _ _ _ (l0 17)
      rw[VM];exact pz.up (λ_ _ h=>h) λ_ h=>by cases h
     .exact VN⟩
    refine zuz (e:=34) (sz:=5) (k:=.i64) (i:=(rf.length:Nat)) (els:=zo e.aH) (cs:=zY a) hI rfl rfl (by kernel_rfl) rfl rfl ab (by rw[kU,NF];simp) λnO hI q2=>?_
    refine qD (v:=.agg (zY a)) hI rfl rfl (by kernel_rfl) λsv hI q3=>?_
    obtain⟨lv,afk,B4⟩:=hI.rep 22;have Nv:zC bg D1.z (zY a) lv:=zC.flat _ _ rfl B4
    have x2:sv 2=.pointer (aY ⟨b2,0,bg⟩):=by rw[q3 2 ad,q2 2 ad];exact w2
    have CY:sv 17=ρ 17:=by rw[q3 17 ad,q2 17 ad];exact VM
    have Pj:sv 18=.int .i64 ((zo e.aH).length:Nat):=by rw[q3 18 ad,q2 18 ad];exact afb
    have Ia:sv 19=.int .i64 (rf.length:Nat):=by rw[q3 19 ad,q2 19 ad];exact VN
    clear q1 q2 q3;refine zEj (l:=lv) (cs0:=[.int .i64 0,.int .i64 0,.str [],.str [],.gg]) rfl (by kernel_rfl) Nv.length.symm (by kernel_rfl) (Q9 Nv rfl) ((xQ ad).trans afk) ?_;refine vI ?_;refine xG ?_
    obtain⟨b3,UA⟩:∃b3,w.heap.size=b3:=⟨_,rfl⟩
    have S3:mE W D J [(b3,.cells lv.toArray 34),(b2,.cells #[rL l] 125)] pre D1 (w.alloc (.cells lv.toArray 34)) ds:=by rw[<- UA];exact S.new (hJ _) _
    rw[UA];generalize w.alloc (.cells lv.toArray 34)=w3 at S3;refine Q4 ?_;refine vt ?_;have ai7:=(S3.own _ ak).1;refine wk 23 (.agg lv.toArray) rfl rfl rfl rfl (w9 lv (ve (k:=5) (by kernel_rfl)) (p:=⟨b3,0,bg⟩) Wh Nv.length λj u hj=>by rw[Addr.add_lit,cell_of_row w3 b3 _ _ _ _ ai7];simpa using hj) ?_;refine zf8 24 rfl rfl rfl rfl (zmw [.agg lv.toArray] zu2 rfl) (zqt lv w3) ?_;rintro en w4 ⟨v,rfl,rfl,rfl⟩;refine⟨_,rfl,?_⟩;refine vI ?_;refine xG ?_
    obtain⟨b4,UB⟩:∃b4,w3.heap.size=b4:=⟨_,rfl⟩
    have S4:mE W D J [(b4,.cells lv.toArray 34),(b3,.cells lv.toArray 34),(b2,.cells #[rL l] 125)] pre D1 (w3.alloc (.cells lv.toArray 34)) ds:=by rw[<- UB];exact S3.new (hJ _) _
    rw[UB];generalize w3.alloc (.cells lv.toArray 34)=w4 at S4;refine YG ?_
    have z2:∀(x:bx)(v:bx),l3 (l3 (l3 sv 4 (.pointer (aY ⟨b3,0,bg⟩))) 23 x) 24 v 2=.pointer (aY ⟨b2,0,bg⟩):=λx v=>(xQ ad).trans ((xQ ad).trans ((xQ ad).trans x2))
    have VY:∀(x:bx)(v:bx),l3 (l3 (l3 sv 4 (.pointer (aY ⟨b3,0,bg⟩))) 23 x) 24 v 17=ρ 17:=λx v=>(xQ ad).trans ((xQ ad).trans ((xQ ad).trans CY))
    have V0:∀(x:bx)(v:bx),l3 (l3 (l3 sv 4 (.pointer (aY ⟨b3,0,bg⟩))) 23 x) 24 v 18=.int .i64 ((zo e.aH).length:Nat):=λx v=>(xQ ad).trans ((xQ ad).trans ((xQ ad).trans Pj))
    have V7:∀(x:bx)(v:bx),l3 (l3 (l3 sv 4 (.pointer (aY ⟨b3,0,bg⟩))) 23 x) 24 v 19=.int .i64 (rf.length:Nat):=λx v=>(xQ ad).trans ((xQ ad).trans ((xQ ad).trans Ia))
    have z24:∀(x:bx)(v:bx),l3 (l3 (l3 sv 4 (.pointer (aY ⟨b3,0,bg⟩))) 23 x) 24 v 24=v:=λx v=>Wh
    have y2:=z2 (.agg lv.toArray) (.func (.func 228) #[] #[.pointer (aY ⟨b4,0,bg⟩)]);have VS:=VY (.agg lv.toArray) (.func (.func 228) #[] #[.pointer (aY ⟨b4,0,bg⟩)]);have VT:=V0 (.agg lv.toArray) (.func (.func 228) #[] #[.pointer (aY ⟨b4,0,bg⟩)]);have VU:=V7 (.agg lv.toArray) (.func (.func 228) #[] #[.pointer (aY ⟨b4,0,bg⟩)]);have VV:=z24 (.agg lv.toArray) (.func (.func 228) #[] #[.pointer (aY ⟨b4,0,bg⟩)]);generalize l3 (l3 (l3 sv 4 (.pointer (aY ⟨b3,0,bg⟩))) 23 (.agg lv.toArray)) 24 (.func (.func 228) #[] #[.pointer (aY ⟨b4,0,bg⟩)])=Dv at y2 VS VT VU VV;clear z2 VY V0 V7 z24;have hb:=S4.below;have Ln:W.heap.size<=w4.heap.size:=S4.only.size;have ny:∀q∈([(b4,.cells lv.toArray 34),(b3,.cells lv.toArray 34),(b2,.cells #[rL l] 125)]:List (Nat×Go.Obj)),q.1<w4.heap.size:=hb.1
    have hpx:∀sr x,sr++[x] <+: zJ a->(pre++sr)++[x] <+: zJ e:=λsr x hp=>by obtain⟨L8,Ta⟩:=hp;rw[<- rA,xA,<- Ta];exact⟨L8++xA rem,ae⟩
    have stJ:∀sr,rO λDf w=>∃sW,mE W D J [(b4,.cells lv.toArray 34),(b3,.cells lv.toArray 34),(b2,.cells #[rL l] 125)] (pre++sr) sW w ds/\Df=ED w4 sW/\(∀a x,D1.z a=aY x->sW.z a=aY x)/\w4.heap.size<=w.heap.size:=λsr=>mE.aaW (hJ _) Ln ny hb.2
    have stX:∀(co:Code) sr,rO λDf w=>∃sW,mE W D Jx [(b4,.cells lv.toArray 34),(b3,.cells lv.toArray 34),(b2,.cells #[rL l] 125)] (pre++sr) sW w ds/\Df=ED w4 sW/\(co=.ret)/\w4.heap.size<=w.heap.size:=λco sr=>mE.aaW (p:=λ_=>co=.ret) (E6 _) Ln ny hb.2
    refine znh (ps:=[25]) (gf:=228) (lb:=[.pointer (aY ⟨b4,0,bg⟩)]) (encs:=λx=>[rN x]) (xs:=zJ a) VV zu1 (ih a (by rw[NF];simp) k [.pointer (aY ⟨b4,0,bg⟩)]) (λ_=>rfl) rfl _ _ stJ stX ?_ (ED w4 D1) ⟨D1,by rw[cL];exact S4,rfl,λ_ _ h=>h,al⟩ (λx=>l3 (l3 Dv 25 (rN x)) 5 (rN x)) ?_ ?_ ?_ ?_ ?_
    .rintro sr Df w5 ⟨sW,S5,rfl,hz,G9⟩;obtain⟨m5,afW,_⟩:=NC _ _ _ S5.j;obtain⟨hc4,hn4,hl4⟩:=S5.own _ ak;refine⟨λk' L=>if k'=k/\L=0 then aY (b4,1)else bg,⟨afW.frozen,λp hp=>?_,by simp[keys],λp hp q hq _ _ _=>?_⟩,_,[],rfl,⟨_,(b4,1),rfl,ae,rfl⟩,rfl⟩
     .simp only[b_]at hp;subst hp;refine⟨b4,lv.toArray,ae,hc4,?_,λa x ha he=>hn4 (he▸(hJ _).2.2 _ _ S5.j a x ha),λL loc h=>?_⟩
      .exact zC.up (m:=bg) hz (λ_ h=>by cases h) Nv
      .simp only at h;split at h
       .rename_i h';omega
       .cases h
     .simp only[b_]at hp hq;subst hp;subst hq;rfl
    .intro adz x w5;refine vt (l:=[_]) ?_;refine wk 5 (rN x) rfl rfl rfl rfl (w':=w5) (by simp[bP,ev,Fs,l3]) ?_;exact vI ⟨rfl,rfl,rfl⟩
    .rintro adz sr x Df w5 ⟨sW,S5,rfl,hz,G9⟩ LB;obtain⟨Oy,ng,Fh⟩:=S5.own _ (iO _ (iO _ ak));have u2:l3 (l3 Dv 25 (rN x)) 5 (rN x) 2=.pointer (aY ⟨b2,0,bg⟩):=(xQ ad).trans ((xQ ad).trans y2);have u5:l3 (l3 Dv 25 (rN x)) 5 (rN x) 5=rN x:=Wh;generalize l3 (l3 Dv 25 (rN x)) 5 (rN x)=NP at u2 u5;refine YG ?_;refine Q4 ?_;refine vt ?_;refine wk 26 (rL l) rfl rfl rfl rfl (xu (xO (by kernel_rfl)) u2 (by rw[cell_of_row w5 b2 0 _ _ _ Oy];rfl)) ?_;refine wk 27 (rN x) rfl rfl rfl rfl (FL (show pv _ _=_ from aP aY ((xQ ad).trans u5))) ?_;refine zgb [rN x] rfl rfl ((xQ ad).trans Wh) (aP (λv=>[v]) Wh) (hY (pre++sr) x _ _ S5.j (hpx _ _ LB)) ?_;rintro en w6 ⟨D3,ho,hg,hh⟩
     have Bw:HI (ED w4 sW) w5 w6:=ho.sub λb h=>Or.inr h
     have nj:vY (ED w4 sW) (ED w4 D3) w5:=⟨λb h=>by
      rcases h with h|h
      .exact .inl (Or.inl h)
      .exact(hg.f b h).imp (λh=>Or.inr h) id,hg.z⟩
     have U0:w4.heap.size<=w6.heap.size:=cY G9 ho.size
     rcases hh with⟨rfl,hj⟩|⟨rfl,hj⟩
     .refine⟨_,rfl,?_⟩;refine wk 29 (.bool bf) rfl rfl rfl rfl (FL rfl) ?_;refine vI ?_;refine xG ?_;refine WZ rfl ?_;refine IA ?_;refine Rs ?_;exact⟨_,Bw,nj,D3,by rw[<- tF];exact S5.yield ho hg hj,rfl,λa x h=>hg.z a x (hz a x h),U0⟩
     .refine⟨_,rfl,?_⟩;refine wk 29 (.bool bh) rfl rfl rfl rfl (FL rfl) ?_;refine vI ?_;refine xG ?_;refine PY rfl ?_;refine M6 ?_;refine MC ?_;exact⟨_,Bw,nj,D3,by rw[<- tF];exact S5.yield ho hg hj,rfl,rfl,U0⟩
    .rintro K Df w5 hK ⟨sW,S5,rfl,hz,G9⟩ ON _ _ v_;refine Rs ?_;refine Rs ?_;refine xG ?_
     have ajW:rf.length+1<=9223372036854775807:=by obtain⟨A,c,_,h1,h2,_⟩:=pz;rw[hlen]at h1;simp only[lc,maxLen]at h1 h2;omega
     have S6:=(S5.drop.drop.mark v_ (λh=>ON (Or.inr h)) (cY Ln hK) (λK' u_=>by have:=hb.2 K' u_;omega))
     refine vt ?_
     have GM:IS (λ_ _=>bg) (λ_=>bg) [] [(19,.int .i64 (rf.length:Nat))] Dv w5:=⟨RE _ _,KC λp ka=>by
      simp only[b_]at ka
      subst ka;exact VU⟩
     refine qD (v:=.int .i64 (EV.aD ((rf.length:Nat)+1))) GM rfl rfl (by kernel_rfl) λNP GM q6=>?_
     refine qD (v:=.int .i64 (EV.aD ((rf.length:Nat)+1))) GM rfl rfl (by kernel_rfl) λre GM q7=>?_
     refine vI ?_;refine xG ⟨rem,⟨rf++[a],pre++zJ a,sW,by rw[NF];simp,by rw[<- rA,xA];simp,S6,?_,?_,?_,?_⟩,ae⟩
     .rw[q7 2 ad,q6 2 ad];exact y2
     .have ael:re 19=.int .i64 (EV.aD ((rf.length:Nat)+1)):=GM.rep 19;rw[ael]
      congr 1
      rw[uP ab ab];simp
     .rw[q7 18 ad,q6 18 ad];exact VT
     .rw[q7 17 ad,q6 17 ad,VS];exact pz.up hz λ_ h=>by cases h
    .rintro K Df sr w5 hK LB ⟨sW,S5,rfl,_,G9⟩ ON _ _ v_;refine MC ?_;refine MC ?_;refine PZ ?_;refine PZ ?_;refine MC ?_
     have S6:=(S5.mark v_ (λh=>ON (Or.inr h)) (cY Ln hK) (λK' u_=>by have:=hb.2 K' u_;omega))
     refine aal rfl S6 ?_;obtain⟨L8,Ta⟩:=LB;rw[<- rA,xA,<- Ta];exact⟨L8++xA rem,ae⟩
    .rintro id K Df sr w5 hK LB ⟨sW,S5,rfl,h,G9⟩;cases h
def zqv(k:Nat)(e:Expr):I1 bk 228 [.ptr k 0 0] [(k,.box 34 (zY e))] rN (zJ e):=by
 have key:∀(n:Nat)(e:Expr),SizeOf.sizeOf e<n->∀k,I1 bk 228 [.ptr k 0 0] [(k,.box 34 (zY e))] rN (zJ e):=λn=>by
  induction n with
  |zero=>intro e h;omega
  |succ n ih =>
   intro e h k
   refine zqu e k λa ha k=>ih a ?_ k
   have h1:=List.sizeOf_lt_of_mem ha;cases e;simp at h h1;omega
 exact key _ e (Nat.lt_succ_self _) k
def si{α:Type}{a b:α}(h:aY a=aY b):a=b:=Option.some.inj h
def kr{α:Sort _}{a b:α}(h:a=b:=by kernel_rfl):a=b:=h
abbrev nT:=@zgd
abbrev vT:=@zs7
abbrev oN:=@WD
abbrev vS:=@Xp
abbrev oR:=@zHl
abbrev bS:=@bind_some
abbrev vK:=@WC
abbrev oP:=@zHm
abbrev rT:=@zge
abbrev rB:=@zm0
abbrev nB:=@zmz
abbrev vB:=@zsk
abbrev mI(l:List Int):=cQ EV.encI l
abbrev mS(l:List aj):=cQ EV.encS l
abbrev mB(l:List Bool):=cQ EV.aak l
abbrev mM{α:Type}(f:α->List V)(l:List α):=cQ f l
abbrev ub:Nat:=IntKind.u64.bits
abbrev uw(n:Int):Int:=IntKind.u64.wrap n
def bG{p:Prop}[Decidable p]{β:Type}{f:Unit->Option β}{r:β}(h:(bD p).bind f=aY r):p/\f ()=aY r:=by obtain⟨u,h1,h2⟩:=bind_some h;exact⟨yY h1,h2⟩
def bE{α β:Type}{x:α}{f:α->Option β}{r:β}(h:(aY x).bind f=aY r):∃a,x=a/\f a=aY r:=⟨x,rfl,h⟩
abbrev Sr:Type:=aj
abbrev eI:=Bc 1 EV.encI
abbrev lH(l:List (List Int)):=cQ eI l
abbrev uR{α β:Type}(l:List α)(x:β):=bp (bj (ba l:Int)) x
def lM{α β:Type}{l:List α}{f:α->β}:(cQ f l).length=l.length:=bM ..
abbrev uL(x:Int):Int:=uw ((cg ub x &&& cg ub 4294967295).toNat:Int)
abbrev uH(x:Int):Int:=cP x (2 ^ (min (32:Int).toNat ub))
def lh{a b:Nat}(h:a=b:=by first|(simp only[bM,List.length_set,zX];done)|rfl):a=b:=h
abbrev Ee:aj:=([97,114,101,97]:aj)
abbrev LN:aj:=([99,111,118,101,114]:aj)
abbrev LO:aj:=([102,108,111,111,114]:aj)
abbrev LP:aj:=([102,108,111,111,114,115]:aj)
abbrev LQ:aj:=([104,101,105,103,104,116]:aj)
abbrev LR:aj:=([104,111,109,101,115]:aj)
abbrev LS:aj:=([114,117,110,111,102,102]:aj)
abbrev LU:aj:=([115,101,116,98,97,99,107]:aj)
abbrev LV:aj:=([116,114,97,102,102,105,99]:aj)
abbrev LM:List aj:=[([97,114,101,97]:aj),([99,111,118,101,114]:aj),([102,108,111,111,114]:aj),([102,108,111,111,114,115]:aj),([104,101,105,103,104,116]:aj),([104,111,109,101,115]:aj),([114,117,110,111,102,102]:aj),([115,101,116,98,97,99,107]:aj),([116,114,97,102,102,105,99]:aj)]
class Fuel where
 n:Nat
 pN:18446744073709551616<=n
def KK[Fuel]:Nat:=Fuel.n
section
variable[Fuel]
def vz :Option (List aj):=aY [([97,114,101,97]:aj),([99,111,118,101,114]:aj),([102,108,111,111,114]:aj),([102,108,111,111,114,115]:aj),([104,101,105,103,104,116]:aj),([104,111,109,101,115]:aj),([114,117,110,111,102,102]:aj),([115,101,116,98,97,99,107]:aj),([116,114,97,102,102,105,99]:aj)]
def kJ(e:Expr):Option (Int×Int×aj×aj×(List Expr)):=aY (e.Op,e.N,e.S,e.Key,e.aH)
def AW(m_:(List (aj×Bool))):Option Unit:=aY ()
def yL :List aj->(List (aj×Bool))->Option (List (aj×Bool))
 |[],q1=>aY q1
 |x1::VP,q1=>yL VP (vW x1 bh q1)
def wP(e:Expr):Option (List aj):=
 aM (kJ e) λy1=>aM (yL (zJ (Expr.mk y1.1 y1.2.1 y1.2.2.1 y1.2.2.2.1 y1.2.2.2.2)) []) λv1=>aM (AW v1) λy2=>aM (bD ((cQ (·.1) v1).Nodup/\(∀k∈cQ (·.1) v1,ba k<=9223372036854775807)/\ba v1*16<=140737488355328)) λ_=>aY (kI v1)
def zV(l:(List Def)):Nat->(Int×(List (aj×Int)))->Option (List (aj×Int))
 |0,_=>bg
 |K1+1,q1=>(bif (decide (q1.1<(ba l:Int)))then(idx l q1.1).bind λx1=>(zV l) K1 ((aD (q1.1+1)),(vW x1.aK q1.1 q1.2))else aY q1.2)
def zW(v1:(List (aj×Int)))(y1:(List aj))(q2:(Int×(List (List Int)))):Nat->(Int×(List (List Int)))->Option (List (List Int))
 |0,_=>bg
 |K3+1,q3=>(bif (decide (q3.1<(ba y1:Int)))then(idx y1 q3.1).bind λx3=>aM ((bif (Option.isSome (zr x3 v1))then(bD (0<=q2.1/\q2.1<((ba q3.2):Nat))).bind λ_=>aM (aY (q3.2.getD (bj q2.1) default)) λe1=>aM (bD ((ba (e1++[(cR (zr x3 v1) 0)]))*8<=140737488355328)) λ_=>aM (bD (0<=q2.1/\q2.1<((ba q3.2):Nat))) λ_=>aY (cD q3.2 (bj q2.1) (e1++[(cR (zr x3 v1) 0)]))else aY q3.2)) λv4=>(zW v1 y1 q2) K3 ((aD (q3.1+1)),v4)else aY q3.2)
def yq(l:(List Def))(v1:(List (aj×Int))):Nat->(Int×(List (List Int)))->Option (List (List Int))
 |0,_=>bg
 |K2+1,q2=>(bif (decide (q2.1<(ba l:Int)))then(idx l q2.1).bind λx2=>aM (wP x2.Body) λy1=>aM ((zW v1 y1 q2) KK (0,q2.2)) λv3=>(yq l v1) K2 ((aD (q2.1+1)),v3)else aY q2.2)
def xR(l:(List Def)):Option ((List Def)×(List (List Int))):=
 aM ((zV l) KK (0,[])) λv1=>aM (bD (0<=(ba l:Int)/\(ba l:Int)*24<=281474976710656/\(ba l:Int)<=9223372036854775807)) λ_=>aM ((yq l v1) KK (0,(bp (bj (ba l:Int)) ([]:List Int)))) λv2=>aY (l,v2)
def HW(x:Int)(y:Int):Option (Int×Int):=aY ((IntKind.u64.wrap ((IntKind.u64.wrap ((IntKind.u64.wrap ((cP x (2 ^ (min (32:Int).toNat IntKind.u64.bits)))*(cP y (2 ^ (min (32:Int).toNat IntKind.u64.bits)))))+(cP (IntKind.u64.wrap ((IntKind.u64.wrap ((cP x (2 ^ (min (32:Int).toNat IntKind.u64.bits)))*(IntKind.u64.wrap ((cg IntKind.u64.bits y &&& cg IntKind.u64.bits 4294967295).toNat:Int))))+(cP (IntKind.u64.wrap ((IntKind.u64.wrap ((cg IntKind.u64.bits x &&& cg IntKind.u64.bits 4294967295).toNat:Int))*(IntKind.u64.wrap ((cg IntKind.u64.bits y &&& cg IntKind.u64.bits 4294967295).toNat:Int)))) (2 ^ (min (32:Int).toNat IntKind.u64.bits))))) (2 ^ (min (32:Int).toNat IntKind.u64.bits)))))+(cP (IntKind.u64.wrap ((IntKind.u64.wrap ((cg IntKind.u64.bits (IntKind.u64.wrap ((IntKind.u64.wrap ((cP x (2 ^ (min (32:Int).toNat IntKind.u64.bits)))*(IntKind.u64.wrap ((cg IntKind.u64.bits y &&& cg IntKind.u64.bits 4294967295).toNat:Int))))+(cP (IntKind.u64.wrap ((IntKind.u64.wrap ((cg IntKind.u64.bits x &&& cg IntKind.u64.bits 4294967295).toNat:Int))*(IntKind.u64.wrap ((cg IntKind.u64.bits y &&& cg IntKind.u64.bits 4294967295).toNat:Int)))) (2 ^ (min (32:Int).toNat IntKind.u64.bits))))) &&& cg IntKind.u64.bits 4294967295).toNat:Int))+(IntKind.u64.wrap ((IntKind.u64.wrap ((cg IntKind.u64.bits x &&& cg IntKind.u64.bits 4294967295).toNat:Int))*(cP y (2 ^ (min (32:Int).toNat IntKind.u64.bits))))))) (2 ^ (min (32:Int).toNat IntKind.u64.bits))))),(IntKind.u64.wrap (x*y)))
def VF(x:Int)(y:Int):Option (Int×Int):=aM (HW x y) λy1=>aY (y1.1,y1.2)
def wV :Nat->(Int×(List Int))->Option (List Int)
 |0,_=>bg
 |K1+1,q1=>(bif (decide (q1.1<((q1.2).length:Int)))then(bD (0<=q1.1/\q1.1<=((q1.2).length:Int)/\((q1.2).length:Int)<=((q1.2).length:Nat))).bind λ_=>aM (bD (0<=(0:Int)/\(0:Int)<=q1.1/\q1.1<=((q1.2).length:Nat))) λ_=>wV K1 ((aD (q1.1+(((min (bj q1.1-bj 0) (bj ((q1.2).length:Int)-bj q1.1)):Nat):Int))),(sF q1.2 (bj q1.1) (dF (min (bj q1.1-bj 0) (bj ((q1.2).length:Int)-bj q1.1)) (dF (bj q1.1-bj 0) (dN (bj 0) q1.2)))))else aY q1.2)
def vh(x:(List Int))(count:Int):Option (List Int):=
 (bif (decide (count<0))then bg else(VF (IntKind.u64.wrap ((ba x:Int))) (IntKind.u64.wrap (count))).bind λy1=>aM ((bif (decide (y1.1>0))then aY bh else aY (decide (y1.2>9223372036854775807)))) λv1=>(bif v1 then bg else(bD (0<=(aD (y1.2))/\(aD (y1.2))*8<=281474976710656/\(aD (y1.2))<=9223372036854775807)).bind λ_=>aM (wV KK ((((min (ba x) (((bp (bj (aD (y1.2))) (0:Int))).length)):Nat):Int),(sF (bp (bj (aD (y1.2))) (0:Int)) 0 (dF (min (ba x) (((bp (bj (aD (y1.2))) (0:Int))).length)) x)))) λv2=>aY v2))
def zx(s:(List Int))(v:Int):Nat->Int->Option (Int⊕Unit)
 |0,_=>bg
 |K1+1,q1=>(bif (decide (q1<(ba s:Int)))then(idx s q1).bind λx1=>(bif (decide (v=x1))then aY (.inl q1)else(zx s v) K1 (aD (q1+1)))else aY (.inr ()))
def yS(s:(List Int))(v:Int):Option Int:=
  aM ((zx s v) KK 0:Option (Int⊕Unit)) λz1=>match z1 with
 |.inl r=>aY r
 |.inr v1=>aY (-1)
def zU(s:(List Int))(v:Int):Option Bool:=aM (yS s v) λy1=>aY (decide (y1>=0))
def zl(iy:(List (List Int)))(e2:Int):Nat->(Int×(List Int)×Nat×(List Int))->Option ((List Int)×Nat×(List Int))
 |0,_=>bg
 |K2+1,q2=>(bif (decide (q2.1<(ba iy:Int)))then(idx iy q2.1).bind λx1=>aM (aM (bD (0<=q2.1/\q2.1<((q2.2.2.2).length:Nat))) λ_=>aM (aY (q2.2.2.2.getD (bj q2.1) default)) λe3=>(bif (decide (e3<0))then(zU x1 e2).bind λy2=>aY (y2,q2.2.1,q2.2.2.1)else aY (bf,q2.2.1,q2.2.2.1))) λv3=>aM ((bif v3.1 then(bD (0<=e2/\e2<((q2.2.2.2).length:Nat))).bind λ_=>aM (aY (q2.2.2.2.getD (bj e2) default)) λe4=>aM (bD (0<=q2.1/\q2.1<((q2.2.2.2).length:Nat))) λ_=>aM (aY (q2.2.2.2.getD (bj q2.1) default)) λe5=>aM (bD ((ba (v3.2.1++[q2.1]))*8<=140737488355328)) λ_=>aY ((v3.2.1++[q2.1]),(v3.2.2+1),(cD q2.2.2.2 (bj q2.1) (aD (e4+1))))else aY (v3.2.1,v3.2.2,q2.2.2.2))) λv4=>(zl iy e2) K2 ((aD (q2.1+1)),v4.1,v4.2.1,v4.2.2)else aY (q2.2.1,q2.2.2.1,q2.2.2.2))
def zt(iy:(List (List Int))):Nat->((List Int)×Nat×(List Int))->Option (List Int)
 |0,_=>bg
 |K1+1,q1=>(bif (decide (((ba q1.1):Int)>0))then(bD (0<=(0:Int)/\(0:Int)<((ba q1.1):Nat))).bind λ_=>aM (aY (q1.1.getD (bj 0) default)) λe2=>aM (bD (1<=(ba q1.1))) λ_=>aM ((zl iy e2) KK (0,(dN 1 q1.1),(q1.2.1+1),q1.2.2)) λv2=>(zt iy) K1 (v2.1,v2.2.1,v2.2.2)else aY q1.2.2)
def yA(gW:(List Def))(iy:(List (List Int)))(toZ:Int):Option ((List Int)×(List Def)×(List (List Int))):=
 aM (vh [(-1)] (ba gW:Int)) λy1=>aM (bD (0<=toZ/\toZ<((y1).length:Nat))) λ_=>aM (aY (y1.getD (bj toZ) default)) λe1=>aM ((zt iy) KK ([toZ],1,(cD y1 (bj toZ) 0))) λv1=>aY (v1,gW,iy)
def zE(y1:((List Int)×(List Def)×(List (List Int))))(x2:(List Int)):Nat->(Int×Int)->Option Int
 |0,_=>bg
 |K2+1,q2=>(bif (decide (q2.2<(ba x2:Int)))then(idx x2 q2.2).bind λx3=>aM (aM (idx y1.1 x3) λx4=>(bif (decide (x4>=0))then(bif (decide (q2.1<0))then aY bh else(idx y1.1 x3).bind λx5=>aM (idx y1.1 q2.1) λx6=>aY (decide (x5<x6)))else aY bf)) λv3=>aM ((bif v3 then aY x3 else aY q2.1)) λv4=>(zE y1 x2) K2 (v4,(aD (q2.2+1)))else aY q2.1)
def z6(from_:Int)(y1:((List Int)×(List Def)×(List (List Int)))):Nat->(Int×(List aj))->Option (((List aj)×(List Def)×(List (List Int)))⊕Unit)
 |0,_=>bg
 |K1+1,q1=>aM (idx y1.2.1 q1.1) λx1=>aM (bD (((q1.2++[x1.aK])).length*16<=140737488355328)) λ_=>aM (idx y1.2.2 q1.1) λx2=>aM ((zE y1 x2) KK ((-1),0)) λv2=>(bif (decide (v2<0))then aY (.inl ([],y1.2.1,y1.2.2))else(bif (decide (v2=from_))then(bD (cO (q1.2++[x1.aK])=bf)).bind λ_=>aY (.inl ((q1.2++[x1.aK]),y1.2.1,y1.2.2))else(z6 from_ y1) K1 (v2,(q1.2++[x1.aK]))))
def yW(gW:(List Def))(iy:(List (List Int)))(from_:Int):Option ((List aj)×(List Def)×(List (List Int))):=
  aM (yA gW iy from_) λy1=>aM ((z6 from_ y1) KK (from_,[]):Option (((List aj)×(List Def)×(List (List Int)))⊕Unit)) λz1=>match z1 with
 |.inl r=>aY r
 |.inr _=>bg
def xl(x:aj):Option Bool:=aY (!(decide (x=x)))
def yC(x:aj)(y:aj):Option Int:=aM (xl x) λy1=>aM (xl y) λy2=>(bif y1 then(bif y2 then aY 0 else aY (-1))else(bif y2 then aY 1 else(bif (Op.bytesLess x y)then aY (-1)else(bif (!((Op.bytesLess x y)||(decide (x=y))))then aY 1 else aY 0))))
def yv(s1:(List aj))(s2:(List aj)):Nat->Int->Option (Int⊕Unit)
 |0,_=>bg
 |K1+1,q1=>(bif (decide (q1<(ba s1:Int)))then(idx s1 q1).bind λx1=>(bif (decide (q1>=(ba s2:Int)))then aY (.inl 1)else(idx s2 q1).bind λx2=>aM (yC x1 x2) λy1=>(bif (!(decide (y1=0)))then aY (.inl y1)else(yv s1 s2) K1 (aD (q1+1))))else aY (.inr ()))
def xr(s1:(List aj))(s2:(List aj)):Option Int:=
  aM ((yv s1 s2) KK 0:Option (Int⊕Unit)) λz1=>match z1 with
 |.inl r=>aY r
 |.inr v1=>(bif (decide ((ba s1:Int)<(ba s2:Int)))then aY (-1)else aY 0)
def zG(gW:(List Def)):Nat->((List aj)×Int×(List Def)×(List (List Int)))->Option ((List aj)×(List Def)×(List (List Int)))
 |0,_=>bg
 |K1+1,q1=>(bif (decide (q1.2.1<(ba gW:Int)))then(aM (yW q1.2.2.1 q1.2.2.2 q1.2.1) λy1=>(bif (cO y1.1)then aY (q1.1,y1.2.1,y1.2.2)else((bif (cO q1.1)then aY (q1.1,y1.1,bh)else(bif (decide ((ba y1.1:Int)<(ba q1.1:Int)))then aY (q1.1,y1.1,bh)else(bif (decide ((ba y1.1:Int)=(ba q1.1:Int)))then(xr y1.1 q1.1).bind λy2=>aY (q1.1,y1.1,(decide (y2<0)))else aY (q1.1,y1.1,bf))))).bind λv3=>aM ((bif v3.2.2 then aY v3.2.1 else aY v3.1)) λv4=>aY (v4,y1.2.1,y1.2.2))).bind λv2=>(zG gW) K1 (v2.1,(aD (q1.2.1+1)),v2.2.1,v2.2.2)else aY (q1.1,q1.2.2.1,q1.2.2.2))
def yD(gW:(List Def))(iy:(List (List Int))):Option ((List aj)×(List Def)×(List (List Int))):=aM ((zG gW) KK ([],0,gW,iy)) λv1=>aY (v1.1,v1.2.1,v1.2.2)
def xp(k:Int)(a1:(List Bool)):Option (Bool×(List Bool)):=
 aM (bD (0<=k/\k<((a1).length:Nat))) λ_=>aM (aY (a1.getD (bj k) default)) λe1=>aY ((!e1),a1)
def zu(s:(List Int)):Nat->(Int×(List Bool))->Option ((Int×(List Bool))⊕(List Bool))
 |0,_=>bg
 |K1+1,q1=>(bif (decide (q1.1<(ba s:Int)))then(idx s q1.1).bind λx1=>aM (xp x1 q1.2) λy1=>(bif y1.1 then aY (.inl (q1.1,y1.2))else(zu s) K1 ((aD (q1.1+1)),y1.2))else aY (.inr q1.2))
def yE(s:(List Int))(k:(List Bool)):Option (Int×(List Bool)):=
  aM ((zu s) KK (0,k):Option ((Int×(List Bool))⊕(List Bool))) λz1=>match z1 with
 |.inl r=>aY r
 |.inr v1=>aY ((-1),v1)
def zO(s:(List Int))(k:(List Bool)):Option (Bool×(List Bool)):=aM (yE s k) λy1=>aY ((decide (y1.1>=0)),y1.2)
def zH(gW:(List Def))(iy:(List (List Int))):Nat->(Int×Int×(List Bool))->Option (Int×(List Bool))
 |0,_=>bg
 |K2+1,q2=>(bif (decide (q2.2.1<(ba iy:Int)))then(idx iy q2.2.1).bind λx1=>aM (zO x1 q2.2.2) λy1=>aM (aM (bD (0<=q2.2.1/\q2.2.1<((y1.2).length:Nat))) λ_=>aM (aY (y1.2.getD (bj q2.2.1) default)) λe1=>(bif (!e1)then(bif (!y1.1)then(bif (decide (q2.1<0))then aY bh else(idx gW q2.2.1).bind λx2=>aM (idx gW q2.1) λx3=>aY (Op.bytesLess x2.aK x3.aK))else aY bf)else aY bf)) λv3=>aM ((bif v3 then aY q2.2.1 else aY q2.1)) λv4=>(zH gW iy) K2 (v4,(aD (q2.2.1+1)),y1.2)else aY (q2.1,q2.2.2))
def zQ(gW:(List Def))(iy:(List (List Int))):Nat->(Int×(List Bool)×(List Int))->Option (List Int)
 |0,_=>bg
 |K1+1,q1=>(bif (decide (q1.1<(ba gW:Int)))then((zH gW iy) KK ((-1),0,q1.2.1)).bind λv2=>aM (bD (0<=v2.1/\v2.1<((v2.2).length:Nat))) λ_=>aM (aY (v2.2.getD (bj v2.1) default)) λe2=>aM (bD (((q1.2.2++[v2.1])).length*8<=140737488355328)) λ_=>(zQ gW iy) K1 ((aD (q1.1+1)),(cD v2.2 (bj v2.1) bh),(q1.2.2++[v2.1]))else aY q1.2.2)
def xa(gW:(List Def))(iy:(List (List Int))):Option ((List Int)×(List Def)×(List (List Int))):=
 aM (bD (0<=(ba gW:Int)/\(ba gW:Int)*1<=281474976710656/\(ba gW:Int)<=9223372036854775807)) λ_=>aM ((zQ gW iy) KK (0,(bp (bj (ba gW:Int)) (bf:Bool)),[])) λv1=>aY (v1,gW,iy)
def xd(y1:(List aj)):Nat->(Int×(List (aj×Bool)))->Option (List (aj×Bool))
 |0,_=>bg
 |K1+1,q1=>(bif (decide (q1.1<(ba y1:Int)))then(idx y1 q1.1).bind λx1=>(xd y1) K1 ((aD (q1.1+1)),(vW x1 bh q1.2))else aY q1.2)
def yM(p:yp):Nat->(Int×(List (aj×Bool)))->Option (((List Int)×(List aj)×Int)⊕Unit)
 |0,_=>bg
 |K2+1,q2=>(bif (decide (q2.1<(ba p.aE:Int)))then(idx p.aE q2.1).bind λx2=>(bif (cR (zr x2.aK q2.2) bf)then aY (.inl ([],[],5))else(yM p) K2 ((aD (q2.1+1)),(vW x2.aK bh q2.2)))else aY (.inr ()))
def vZ(p:yp):Option ((List Int)×(List aj)×Int):=
  aM (vz ) λy1=>aM ((xd y1) KK (0,[])) λv1=>aM ((yM p) KK (0,v1):Option (((List Int)×(List aj)×Int)⊕Unit)) λz2=>match z2 with
 |.inl r=>aY r
 |.inr v2=>aM (xR p.aE) λy2=>aM (yD y2.1 y2.2) λy3=>(bif (!(cO y3.1))then aY ([],y3.1,16)else(xa y3.2.1 y3.2.2).bind λy4=>aY (y4.1,[],0))
end
end Go.Proofs.YtogbenbghgjbiaaGreatDoor.O
namespace Go.Proofs.YtogbenbghgjbiaaGreatDoor
open Go Go.RowKit Go.lG Go.EV Go.EQ
class Fuel where
 n:Nat
 pN:18446744073709551616<=n
def KK[Fuel]:Nat:=Fuel.n
instance Ui[Fuel]:O.Fuel:=⟨KK,Fuel.pN⟩
def zu3[Fuel](p:yp):Option ((List Int)×(List aj)×Int):=@O.vZ Ui p
set_option maxRecDepth 100000
variable[KY]
def Zc(s old new:aj)(n:Int):Option aj:=aM (bD (ba s<4294967281/\1<=ba old/\ba s+Lib.count s old*ba new<=140737488355328)) λ_=>aY (Lib.replace s old new n)
def zu4(s old new:aj)(n:Int)(r:aj)(hs:Zc s old new n=aY r):mz bk 130 [.str s,.str old,.str new,.int .i64 n] gl (.str r) gl:=by
 unfold Zc at hs;obtain⟨_,h,hs⟩:=bind_some hs;obtain⟨h0,h1,h2⟩:=yY h;obtain rfl:=Option.some.inj hs
 refine Yb Lk rfl λw Z vals hf hg hv=>?_
 obtain⟨x,xs,rfl,e1,x2,VQ,rfl,e2,x3,xs3,rfl,e3,x4,xs4,rfl,e4,e5⟩:=hv;cases e5;cases e1;cases e2;cases e3;cases e4;obtain⟨cur,u,fr,g1,g2⟩:=hg (900000002,E2 KY.Ei KY.m2) (by simp[gl]) 3 _ _ rfl;obtain⟨y,ys,g3,rfl,rfl⟩:=g2
 have hm:w.cell? ⟨3,0,bg⟩=aY (.int .i64 KY.m2):=by rw[cell_of_row w 3 0 cur u fr g1,<- Array.getElem?_toList,g3];rfl
 refine Calls.mono (Tryz.strings_Replace ⟨s.toArray⟩ ⟨old.toArray⟩ ⟨new.toArray⟩ n KY.m2 w (zuv h0) hm (by rw[size_mk];exact h1) (by rw[size_mk,size_mk];exact h2)) ?_;rintro e w' ⟨rfl,hb⟩;exact⟨_,rfl,λ_=>rfl,hb⟩
end Go.Proofs.YtogbenbghgjbiaaGreatDoor
