/- texts that the proof reaches, part 2 -/
import Derived.Test.YtffencjoddkghaaGreatDoorKa
import Derived.Sort.Row
import Derived.Sort.Grow
import Derived.Lib.SlicesCompact
import Derived.MapKept
import Derived.Maps.RangeRun
import Derived.Laws.MakeOwn
import Derived.Scope
import Derived.Laws.BytesArg
import Derived.Lib.FrozenHead
import Derived.Lib.AppendStr
import Derived.Lib.Builder
import Derived.Lib.UnsafeStr
import Derived.Laws.Externs
import Derived.Laws.IdiomRangeMap
set_option linter.all false
open Array renaming getElem?_eq_some_iff->bX,getD_eq_getD_getElem?->cx,getElem?_replicate->dy,getElem?_eq_getElem->dH,toList_modify->fm,toList_push->fQ
open Bool renaming false->bd,true->bf,not_eq_true'->bQ,or_eq_true->cZ,and_self->gP
open Go renaming Program->bm,Value->bu,Operand->bE,World->bG,TypeId->bJ,execOp->bY,Deferred->cb
open Int renaming toNat->cg
open List renaming length->bg,all_eq_true->bj,mem_cons->bp,getElem?_eq_some_iff->bw,mem_map->bx,mem_append->bz,getElem?_eq_getElem->bA,append_nil->bI,mem_append_left->bK,mem_append_right->bL,nil_append->bM,length_map->bN,map_append->bO,getD_eq_getElem?_getD->ca,contains_eq_mem->cl,nodup_append->cu,mem_map_of_mem->cw,length_drop->cz,length_take->cE,nodup_cons->cG,getElem?_take->cJ,getElem?_map->cK,size_toArray->cN,flatten_cons->cO,range->cQ,mem_nil_iff->cR,map_map->cS,map_nil->cT,replicate->cV,map->cX,take_of_length_le->db,perm_append_comm->di,length_set->dj,isEmpty->dm,nodup_nil->dv,getElem_of_mem->dE,flatten_append->dF,getElem_mem->dL,map_take->dN,mem_of_mem_take->dP,pairwise_append->ed,getElem?_set_ne->dZ,isEmpty_iff->eh,take_left->ef,append_eq_nil_iff->eu,pairwise_cons->eo,map_congr_left->eG,map_drop->eH,getElem_modify->fw,take_take->fI,drop_take->fF,mem_range->fH,pairwise_iff_getElem->fO,getElem?_set->fT,mem_flatten->fY,take_append_drop->gp,take_zero->gG,drop_left->gF,mem_of_mem_drop->gD,length_modify->gZ,map_replicate->hJ,take_append->iA,mem_set->iO
open Nat renaming beq->bk,zero_le->cj,ble->cm,mul_le_mul_right->cr,beq_refl->cD,zero_add->cI,le_trans->cW,le_refl->dk,add_mul->dB,ble_eq_true_of_le->dX,add_zero->dY,min_eq_left->eI,le_mul_of_pos_right->eN,add_comm->fA,mul_one->gw,min->iP
open Option renaming some->bc,none->bh,bind_eq_some_iff->du,getD_some->dM
namespace Go.EV
open Go Go.RowKit Go.Eng
section
variable{K0:List Nat}{c:Ctx K0}{P:bm}{r:Option Nat}{N:Nat}{Q:wj}{ρ:Env}{H H':ax}{ds:List cb}{all rest l:List Oper}{o:Oper}{x:Code}{K:Env->ax->Prop}{done done':List FP}
def zL6(N:Nat)(o:Oper):Bool:=match o.dst with|some d=>cm (d+1) N|none=>bf
def zPe{id:Nat}(h:ze2 c P r N l Q l ρ H ds):WpV c P r N (.region id l.toArray bd) Q ρ H ds:=zG3 h
def Cut(K0:List Nat)(ρ':Env)(H':ax)(ρ1:Env)(H1:ax):Prop:=∀(c:Ctx K0) ρr w,QB c ρ' H' ρr w->QB c ρ1 H1 ρr w
def Cut.trans{K0:List Nat}{ρ1 ρ2 ρ3:Env}{H1 H2 H3:ax}(h:Cut K0 ρ1 H1 ρ2 H2)(k:Cut K0 ρ2 H2 ρ3 H3):Cut K0 ρ1 H1 ρ3 H3:=λc ρr w S=>k c ρr w (h c ρr w S)
def Cut.refl{K0:List Nat}{ρ1:Env}{H1:ax}:Cut K0 ρ1 H1 ρ1 H1:=λ_ _ _ S=>S
def zf8{F ρ1:ax}(ks:List Nat)(hks:yt ks=bf)(hF:ux ks H=bc F)(hρ1:frz F++qK ks H=ρ1):Cut K0 ρ H ρ ρ1:=λc ρr w S=>by subst hρ1;exact S.freeze ks hks hF
def zxc(t d e sz:Nat)(hsz:cm 1 sz=bf)(ht:ρ.get t=.nils)(hd:kv d H=bd):Cut K0 ρ H ((t,.sl sz d 0 0 0)::ρ) ((d,.row e sz 0 [])::H):=λc ρr w S=>S.nilRow t d e sz hsz ht hd
def zUu(t:Nat){v v':V}(h1:ρ.get t=v)(h2:v=v'):Cut K0 ρ H ((t,v')::ρ) H:=λc ρr w S=>by
 subst h2;obtain⟨m,Z,S,hr⟩:=S;refine⟨m,Z,S,λu=>?_⟩
 show Rep (bc m) Z (bif bk u t then v else ρ.get u) (ρr u)
 cases hb:bk u t with
 |false=>exact hr u
 |true =>
  have:=eb hb;subst this;rw[<- h1];exact hr u
def v_to(ρ1:Env)(H1:ax)(h:Cut K0 ρ H ρ1 H1)(k:WpV c P r N x Q ρ1 H1 ds):WpV c P r N x Q ρ H ds:=λρr w ds1 S hM=>k ρr w ds1 (h c ρr w S) hM
def o_to(ρ1:Env)(H1:ax)(h:Cut K0 ρ H ρ1 H1)(k:ze2 c P r N all Q l ρ1 H1 ds):ze2 c P r N all Q l ρ H ds:=λρr w ds1 S hM=>k ρr w ds1 (h c ρr w S) hM
def zAq{G:Type}(K0:List Nat)(ds:List cb)(env:G->Env)(hp:G->ax)(Inv:G->Prop)(μ:G->Nat)(g:G)(Q:wj):wj
 |.normal,ρ',H',ds'=>ds'=ds/\∃g',Inv g'/\μ g'<μ g/\Cut K0 ρ' H' (env g') (hp g')
 |e,ρ',H',ds'=>Q e ρ' H' ds'
def zHe{G:Type}(env:G->Env)(hp:G->ax)(Inv:G->Prop)(μ:G->Nat)(g0:G)(hi:Inv g0)(h0:Cut K0 ρ H (env g0) (hp g0))
  (hround:∀g,Inv g->WpV c P r N x (zAq K0 ds env hp Inv μ g Q) (env g) (hp g) ds):WpV c P r N (.loop x) Q ρ H ds:=by
 refine v_to _ _ h0 ?_
 refine zUf env hp Inv μ g0 hi λg hg=>?_
 intro ρr w ds1 SA hM
 refine zly (hround g hg ρr w ds1 SA hM) λe ρr' ds' w' ⟨ρ',H',S',hM',hQ⟩=>?_
 cases e with
 |normal =>
  obtain⟨_,g',hi',hlt,hc⟩:=hQ;exact⟨_,_,hc c _ _ S',hM',rfl,g',rfl,rfl,hi',hlt⟩
 |exit id=>exact⟨ρ',H',S',hM',hQ⟩
 |goto l=>exact⟨ρ',H',S',hM',hQ⟩
 |ret=>exact⟨ρ',H',S',hM',hQ⟩
 |panic ch=>exact⟨ρ',H',S',hM',hQ⟩
 |outgrown=>exact⟨ρ',H',S',hM',hQ⟩
def zHf{G:Type}{env:G->Env}{hp:G->ax}{Inv:G->Prop}{μ:G->Nat}{g:G}(g':G)(hi:Inv g')(hμ:μ g'<μ g)(h:Cut K0 ρ H (env g') (hp g')):zAq K0 ds env hp Inv μ g Q .normal ρ H ds :=
 ⟨rfl,g',hi,hμ,h⟩
def zHg{G:Type}{env:G->Env}{hp:G->ax}{Inv:G->Prop}{μ:G->Nat}{g:G}(h:Q .ret ρ H ds):zAq K0 ds env hp Inv μ g Q .ret ρ H ds:=h
def zAr{G:Type}{env:G->Env}{hp:G->ax}{Inv:G->Prop}{μ:G->Nat}{g:G}{id:Nat}(h:Q (.exit id) ρ H ds):zAq K0 ds env hp Inv μ g Q (.exit id) ρ H ds:=h
def zHh{S Z:Type}(K0:List Nat)(ds:List cb)(env:S->Env)(hp:S->ax)(L:Nat->S->Option Z)(z:Z)(n:Nat)(q:S)(Q:wj):wj :=
 zAq K0 ds (λg:Nat×S=>env g.2) (λg=>hp g.2) (λg=>L g.1 g.2=bc z) (λg=>g.1) (n+1,q) Q
def zAs{S Z:Type}(env:S->Env)(hp:S->ax)(L:Nat->S->Option Z){z:Z}(h00:∀q,L 0 q=bh)(n:Nat)(s0:S)(hs:L n s0=bc z)(h0:Cut K0 ρ H (env s0) (hp s0))
  (hround:∀K q,L (K+1) q=bc z->WpV c P r N x (zHh K0 ds env hp L z K q Q) (env q) (hp q) ds):WpV c P r N (.loop x) Q ρ H ds :=
 zHe (λg:Nat×S=>env g.2) (λg=>hp g.2) (λg=>L g.1 g.2=bc z) (λg=>g.1) (n,s0) hs h0 λg hg=>by
  obtain⟨K,q⟩:=g
  cases K with
  |zero=>rw[h00]at hg;cases hg
  |succ K=>exact hround K q hg
def zan{S Z:Type}{env:S->Env}{hp:S->ax}{L:Nat->S->Option Z}{z:Z}{Kn:Nat}{q:S}(q':S)(hs:L Kn q'=bc z)(h:Cut K0 ρ H (env q') (hp q')):
  zHh K0 ds env hp L z Kn q Q .normal ρ H ds:=zHf (Kn,q') hs (Nat.lt_succ_self _) h
def zim{S Z:Type}{env:S->Env}{hp:S->ax}{L:Nat->S->Option Z}{z:Z}{Kn:Nat}{q:S}(h:Q .ret ρ H ds):zHh K0 ds env hp L z Kn q Q .ret ρ H ds:=zHg h
def Ws{S Z:Type}{env:S->Env}{hp:S->ax}{L:Nat->S->Option Z}{z:Z}{Kn:Nat}{q:S}{id:Nat}(h:Q (.exit id) ρ H ds):zHh K0 ds env hp L z Kn q Q (.exit id) ρ H ds:=zAr h
end
section
variable{P:bm}{ρ:Env}{dst:Option Tmp}{ty:bJ}{pos:String}{aft:Array Edge}{gd:Option (Nat×Bool)}
def zb4{t e sz bytes n:Nat}{x y:bE}{k fz L:Nat}{els ys all:List (List V)}{R:ax}(hT:oJ P t=bc (e,sz,bytes))(hx:evV ρ x=.sl sz k L 0 L)(hL:els.length=L)(hy:Src sz R (evV ρ y) ys)
  (h1:∀c∈ys,c.all V.one=bf) (hkl:∀c∈ys,c.length=sz) (hkR:kv k R=bd) (hall:els++ys=all) (hn:all.length=n) (hlen:n*bytes<=140737488355328) (h63:n<=9223372036854775807):
  Loc P ⟨dst,.call ⟨.builtin .append,#[x,y],#[t,t]⟩,ty,pos,aft,gd⟩ ρ ((k,.row e sz fz els)::R) (.sl sz k n 0 n) ((k,.row e sz fz all)::R):=by
 subst hall;subst hn
 have hl:(els++ys).length=els.length+ys.length:=af
 exact zw9 hT hx hL.symm hy h1 (by rw[<- hl];exact hlen) (by rw[<- hl];exact h63) hkR hkl
def zin{t e sz kk L n:Nat}{x ix:bE}{k:IntKind}{i:Int}(ht:J4 P t=bc (e,sz))(hx:evV ρ x=.sl sz kk L 0 n)(hi:evV ρ ix=.int k i)(h0:0<=i)(h1:i<n):
  Loc P ⟨dst,.indexAddr t x ix,ty,pos,aft,gd⟩ ρ [] (.ptr kk L (i.toNat*sz+0)) []:=by
 have:=zl7 (P:=P) (ρ:=ρ) (dst:=dst) (ty:=ty) (pos:=pos) (aft:=aft) (gd:=gd) ht hx hi h0 h1
 rwa [Nat.zero_mul,cI]at this
def zmf{t e sz:Nat}{x:bE}{lo hi:Option bE}{l h:Int}{els all:List (List V)}(ht:J4 P t=bc (e,sz))(hx:evV ρ x=.vs sz els)(hl:ztm ρ lo 0 l)(hh:ztm ρ hi els.length h)(h0:0<=l)(h1:l<=h)(h2:h<=els.length)(hall:(els.take h.toNat).drop l.toNat=all):
  Loc P ⟨dst,.slice t x lo hi bh,ty,pos,aft,gd⟩ ρ [] (.vs sz all) []:=by subst hall;exact zql ht hx hl hh h0 h1 h2
def zPf{α:Type}[Inhabited α](enc:α->List V){l:List α}{i:Nat}(h:i<l.length):(l.map enc)[i]?=bc (enc (l.getD i default)):=by
 rw[cK,bA h,ca,bA h];rfl
def ztn{α:Type}(enc:α->List V)(h:∀a,(enc a).all V.one=bf)(l:List α):∀c∈l.map enc,c.all V.one=bf:=λc hc=>by
 obtain⟨a,_,rfl⟩:=bx.1 hc;exact h a
def zto{α:Type}(enc:α->List V){k:Nat}(h:∀a,(enc a).length=k)(l:List α):∀c∈l.map enc,c.length=k:=λc hc=>by
 obtain⟨a,_,rfl⟩:=bx.1 hc;exact h a
end
section
variable{P:bm}{ρ:Env}{dst:Option Tmp}{ty:bJ}{pos:String}{aft:Array Edge}{gd:Option (Nat×Bool)}{f:FuncId}{l:List bE}{ts:Array bJ}{args vs:List V}{F F' R:ax}{r:V}
end
def idx{α:Type}[Inhabited α](l:List α)(i:Int):Option α:=if 0<=i/\i<l.length then bc (l.getD i.toNat default)else bh
def cut{α:Type}(l:List α)(lo hi:Int):Option (List α):=if 0<=lo/\lo<=hi/\hi<=l.length then bc ((l.take hi.toNat).drop lo.toNat)else bh
def grd(p:Prop)[Decidable p]:Option Unit:=if p then bc ()else bh
def zio{α:Type}[Inhabited α]{l:List α}{i:Int}{x:α}(h:idx l i=bc x):0<=i/\i<l.length/\x=l.getD i.toNat default:=by
 unfold idx at h;split at h
 ·rename_i hc;cases h;exact⟨hc.1,hc.2,rfl⟩
 ·cases h
def ztp{α:Type}{l:List α}{lo hi:Int}{x:List α}(h:cut l lo hi=bc x):0<=lo/\lo<=hi/\hi<=l.length/\x=(l.take hi.toNat).drop lo.toNat:=by
 unfold cut at h;split at h
 ·rename_i hc;cases h;exact⟨hc.1,hc.2.1,hc.2.2,rfl⟩
 ·cases h
def xo{p:Prop}[Decidable p]{u:Unit}(h:grd p=bc u):p:=by
 unfold grd at h;split at h
 ·assumption
 ·cases h
abbrev w64(n:Int):Int:=IntKind.i64.wrap n
def zzm(k:IntKind)(n:Int):List V:=[.int k n]
def zTq(s:ak):List V:=[.str s]
def zxd(P:bm)(o:Oper)(ρ:Env)(f:FuncId)(vs:List V):Prop :=
 ∀ρr m Z w,(∀x∈o.op.operands,Rep (bc m) Z (evV ρ x) (ev ρr x))->∃vals:List bu,zT (bc m) Z vs vals/\∀Rr:bu->bG->Prop,(Calls P f vals.toArray w λen w'=>∃x,en=.returned x/\Rr x w')->zOz P o ρr w Rr
section
variable{P:bm}{ρ:Env}{dst:Option Tmp}{ty:bJ}{pos:String}{aft:Array Edge}{gd:Option (Nat×Bool)}{f:FuncId}{l:List bE}{ts:Array bJ}{args:List V}{F F' R:ax}{r:V}
def zxe{vs:List V}(hf:ze P f)(he:l.map (evV ρ)=vs):zxd P ⟨dst,.call ⟨.value (.func f),l.toArray,ts⟩,ty,pos,aft,gd⟩ ρ f vs:=λρr m Z w hops=>by
 subst he;exact⟨_,zT.tmps (ρ:=ρ) l λx hx=>hops x (by simp[Op.operands,Call.operands,hx]),λRr h=>zAk hf h⟩
def zmg{ρr:yL}{w:bG}{x:bE}{l1 l2:List bu}(hx:ev ρr x=.func (.func f) l1.toArray l2.toArray)(hf:ze P f):
  (bY (ev ρr) ⟨dst,.call ⟨.value x,l.toArray,ts⟩,ty,pos,aft,gd⟩).run P w=.ok (.enter f (l1++l.map (ev ρr)++l2).toArray) w:=by
 obtain⟨fn,h1,h2,h3⟩:=hf
 have h2' : ¬ fn.name = "runtime.NumGoroutine" := by simpa using h2
 have h3':¬fn.body=bh:=by intro e;rw[e]at h3;cases h3
 simp[bY,resolve,hx,Deferred.ofValue,invoke,callFunc,program,Sem.run,h1,h2',h3']
def zAt{vs first caps:List V}{x:bE}(hf:ze P f)(hx:evV ρ x=.fn f first caps)(he:first++l.map (evV ρ)++caps=vs):zxd P ⟨dst,.call ⟨.value x,l.toArray,ts⟩,ty,pos,aft,gd⟩ ρ f vs:=λρr m Z w hops=>by
 subst he;have h:=hops x (by simp[Op.operands,Call.operands]);rw[hx]at h;obtain⟨l1,l2,e,h1,h2⟩:=h;exact⟨l1++l.map (ev ρr)++l2,(h1.append (zT.tmps (ρ:=ρ) l λx hx=>hops x (by simp[Op.operands,Call.operands,hx]))).append h2,λRr h=>⟨rfl,.inr (.inr ⟨f,_,w,zmg e hf,h⟩)⟩⟩
def zAu{o:Oper}{vs:List V}(σ:List (Nat×Nat))(hc:zxd P o ρ f vs)(h:FnA P f args F r F')(hv:kq R vs (zfa (asg σ) args))(hR:frz R=R)(hσ:yt ((keys F').map (asg σ))=bf)(hcl:AX args F=bf)(hsub:((keys F).all (keys F').contains)=bf)
  (hap:((keys (Kx (asg σ) F')).all λk=>!(kv k R))=bf):
  Loc P o ρ (Kx (asg σ) F++R) (r.ren (asg σ)) (Kx (asg σ) F'++R):=by
 intro ρr m Z w hops hs hnew;obtain⟨vals,hvals,hex⟩:=hc ρr m Z w hops
 have hRk:∀k t sz fz els,R.get k=bc (.row t sz fz els)->Holds m Z w k (.row t sz els.length els):=λk t sz fz els hg=>by
  have hmem:=ax.get_mem hg;have h1:=hs.holds _ (bL _ hmem)
  have:fz=els.length:=by
   rw[<- hR]at hmem
   rcases k8 hmem with⟨k',t',sz',fz',els',h2,h3⟩|⟨h2,h3⟩
   ·simp only[Prod.mk.injEq,Obj.row.injEq]at h3
    obtain⟨_,_,_,e1,e2⟩:=h3;rw[e1,e2]
   ·exact aU rfl (h3 t sz fz els)
  subst this;exact h1
 have hvals':=kq.rep hRk hv hvals
 have hapk:∀p∈Kx (asg σ) F',∀q∈R,p.1≠q.1:=λp hp q hq e=>by
  have:=(bj.1 hap) p.1 (ay hp);simp only[bQ]at this;rw[e,yR.2 (ay hq)]at this;cases this
 refine hex _ (Calls.mono (h.at hσ hcl hsub w m Z _ hs.left hvals' λk hk hkF L=>hnew k (by rw[zH];exact bK _ hk) (λh'=>?_) L) ?_)
 ·rw[zH,bz]at h'
  rcases h' with h'|h'
  ·exact hkF h'
  ·obtain⟨p,hp,e1⟩:=bx.1 hk
   obtain⟨q,hq,e2⟩:=bx.1 h';exact hapk p hp q hq (e1.trans e2.symm)
 ·rintro en w' ⟨x,m',Z',he,hst,hr⟩
  exact⟨x,he,m',Z',Step.frame_rule hs hst hapk,hr⟩
def zxf{o:Oper}{vs:List V}(hc:zxd P o ρ f vs)(h:FnA P f args [] r [])(hv:kq R vs args)(hb:r.bare=bf)(hrf:r.refs=[])(hrl:wP args=[]):
  Loc P o ρ R r R:=by
 intro ρr m Z w hops hs hnew;obtain⟨vals,hvals,hex⟩:=hc ρr m Z w hops;have hst:=Step.freeze hs;have hvals1:zT (bc m) (zl5 m Z R w) vs vals:=hvals.up hst.zext (λg e=>by cases e;exact⟨m,rfl,λ_ _ _ e=>e⟩)
 have hRk:∀k t sz fz els,R.get k=bc (.row t sz fz els)->Holds m (zl5 m Z R w) w k (.row t sz els.length els):=λk t sz fz els hg=>by
  refine hst.sim.holds (k,.row t sz els.length els) ?_
  have:∀(F:ax),(k,Obj.row t sz fz els)∈F->(k,Obj.row t sz els.length els)∈frz F:=λF=>by
   induction F with
   |nil=>intro h;cases h
   |cons p F ih =>
    intro h;obtain⟨k',o'⟩:=p
    rcases bp.1 h with h1|h1
    ·cases h1;exact al
    ·cases o'<;>exact mcQ _ (ih h1)
  exact this R (ax.get_mem hg)
 have hvals':=kq.rep hRk hv hvals1
 let m0:M:=λ_ _=>bh
 have hvals0:zT (bc m0) (zl5 m Z R w) args vals:=hvals'.swap λk hk=>by rw[hrl]at hk;cases hk
 refine hex _ (Calls.mono (h w m0 (zl5 m Z R w) _ ⟨hst.sim.frozen,λp hp=>(by cases hp),dv,λp hp=>(by cases hp)⟩ hvals0 λ_ _ _=>rfl) ?_);rintro en w' ⟨x,m',Z',he,hst',hr⟩
 have hframe:∀b,b<w.heap.size->w'.heap[b]?=w.heap[b]?:=λb hb=>hst'.frame b hb λp hp=>by cases hp
 refine⟨x,he,m,Z,⟨⟨λa y ha=>?_,λp hp=>?_,hs.nodup,hs.disj⟩,λ_ _ _ e=>e,λ_ _ e=>e,hst'.os,hst'.tape,hst'.output,hst'.size,λb hb _=>hframe b hb,λ_ h=>h,λ_ _=>rfl,λp hp b hb=>.inr ⟨p,hp,hb⟩,λ_ _ h=>.inl h⟩,?_⟩
 ·rw[Hb (hframe _ (vK hs.frozen ha))]
  exact hs.frozen a y ha
 ·exact(hs.holds p hp).keep (λ_ _ _ e=>e) rfl (λ_ _ e=>e) λb hb=>⟨hframe b ((hs.holds p hp).blk b hb),λ_ _ e _=>e⟩
 ·have h1:Rep bh Z' r x:=Rep.flat r x hrf hr
  exact Rep.none_some (Rep.bare r x hb h1)
end
def zb5{α:Type}(f:α->V):∀l:List α,(l.map λa=>[f a]).flatten=l.map f
 |[]=>rfl
 |a::l=>by simp[zb5 f l]
def QC{α:Type}{enc:α->V}{f:α->bu}{m:Option M}{Z:ZM}(h:∀a x,Rep m Z (enc a) x->x=f a):∀{l:List α}{xs:List bu},zT m Z (l.map enc) xs->xs=l.map f
 |[],xs,hx=>hx
 |a::l,xs,hx=>by
  obtain⟨x,xs,rfl,h1,h2⟩:=hx;rw[h a x h1,QC h h2];rfl
def H7{α:Type}{enc:α->V}{f:α->bu}{m:Option M}{Z:ZM}(h:∀a,Rep m Z (enc a) (f a)):∀l:List α,zT m Z (l.map enc) (l.map f)
 |[]=>rfl
 |a::l=>⟨_,_,rfl,h a,H7 h l⟩
section
variable{α:Type}[Inhabited α]{enc:α->V}{f:α->bu}{m:M}{Z:ZM}{w:bG}{k e:Nat}{l l':List α}
variable{P:bm}{F:FuncId}
end
section
variable{K0:List Nat}{c:Ctx K0}{P:bm}{r:Option Nat}{N:Nat}{Q:wj}{ρ:Env}{H:ax}{ds:List cb}{all rest:List Oper}{ty:bJ}{pos:String}{aft:Array Edge}{gd:Option (Nat×Bool)}{t t':bJ}{x y:bE}
end
def xj{α β:Type}[DecidableEq α](a:α):List (α×β)->Option β
 |[]=>bh
 |(k,b)::r=>if a=k then bc b else xj a r
def u9{α β:Type}[DecidableEq α](a:α)(b:β):List (α×β)->List (α×β)
 |[]=>[(a,b)]
 |(k,c)::r=>if a=k then(a,b)::r else(k,c)::u9 a b r
def ze4{α β:Type}(f:α->V)(g:β->V)(l:List (α×β)):List (V×V):=l.map λp=>(f p.1,g p.2)
def Q9{α:Type}[DecidableEq α](a:α):List α->List MapEntry->Nat->Option (Nat×bu)
 |k::ks,e::es,i=>if a=k then bc (i,e.val)else Q9 a ks es (i+1)
 |_,_,_=>bh
structure zqm(P:bm)(kt:bJ){α:Type}[DecidableEq α](f:α->V)(val:α->bu):Prop where
 det:∀m Z a x,Rep m Z (f a) x->x=val a
 rep:∀m Z a,Rep m Z (f a) (val a)
 check:∀e a w,(Instr.checkKey e 10000 kt (val a)).run P w=.ok () w
 find:∀(a:α)(es:List MapEntry)(ks:List α) w,es.map (·.key)=ks.map val->(Instr.findKey kt (val a) es).run P w=.ok (Q9 a ks es 0) w
 bits:∀a,Instr.sameBits 10000 (val a) (val a)=bf
def zf9{α:Type}[DecidableEq α]{d:TypeDesc}{val:α->bu}(h:∀a b,Instr.sameNow d (val a) (val b)=bc (decide (a=b)))(a:α):∀(es:List MapEntry)(ks:List α)(i:Nat),es.map (·.key)=ks.map val->Instr.findNow d (val a) es i=bc (Q9 a ks es i)
 |[],ks,i,he=>by
  cases ks with
  |nil=>rfl
  |cons=>simp at he
 |e::es,[],i,he=>by simp at he
 |e::es,k::ks,i,he=>by
  simp only[mk9,List.cons.injEq]at he;have ih:=zf9 h a es ks (i+1) he.2;simp only[Instr.findNow,he.1,h,Q9];by_cases e1:a=k
  ·simp[e1]
  ·simp[e1,ih]
section
variable{P:bm}
def ztq{α:Type}[DecidableEq α]{kt:bJ}{d:TypeDesc}{f:α->V}{val:α->bu}(hk:P.underlying kt=bc d)(hd:∀m Z a x,Rep m Z (f a) x->x=val a)(hr:∀m Z a,Rep m Z (f a) (val a))
  (hc:∀e a w,(Instr.checkKey e 10000 kt (val a)).run P w=.ok () w) (h:∀a b,Instr.sameNow d (val a) (val b)=bc (decide (a=b))) (hb:∀a,Instr.sameBits 10000 (val a) (val a)=bf):zqm P kt f val :=
 ⟨hd,hr,hc,λa es ks w he=>by simp[Instr.findKey,run_underlying hk,zf9 h a es ks 0 he],hb⟩
def bytes_beq(a b:ak):((⟨a.toArray⟩:ByteArray)==⟨b.toArray⟩)=decide (a=b):=by
 rw[show((⟨a.toArray⟩:ByteArray)==⟨b.toArray⟩)=(a.toArray==b.toArray) from rfl,Bool.eq_iff_iff];simp
def Wt{kt:bJ}(hk:P.underlying kt=bc .string):zqm P kt V.str (λs=>.string ⟨s.toArray⟩) :=
 ztq hk (λ_ _ _ _ h=>h) (λ_ _ _=>rfl) (λe a w=>by
  unfold Instr.checkKey
  simp[run_underlying hk]) (λa b=>by simp only[Instr.sameNow,bytes_beq]) λa=>by simp only[Instr.sameBits,bytes_beq];simp
def zmh{kt:bJ}{q:IntKind}(hk:P.underlying kt=bc (.int q)):zqm P kt (V.int q) (λn=>.int q n) :=
 ztq hk (λ_ _ _ _ h=>h) (λ_ _ _=>rfl) (λe a w=>by
  unfold Instr.checkKey
  simp[run_underlying hk]) (λa b=>by simp[Instr.sameNow];rfl) λa=>by simp[Instr.sameBits]
def zzn(P:bm)(t:Nat):Option (Nat×Nat):=match P.underlying t with|some (.map k e)=>bc (k,e)|_=>bh
def zAv{t k e:Nat}(h:zzn P t=bc (k,e)):P.underlying t=bc (.map k e):=by
 unfold zzn at h;split at h
 ·cases h;assumption
 ·cases h
def zxg(P:bm)(t:Nat):Option V:=match P.info? t with|some i=>i.zero.map ofC|none=>bh
def zHi{t:Nat}{v:V}{m:Option M}{Z:ZM}{w:bG}(h:zxg P t=bc v):∃z,(zeroValue t).run P w=.ok z w/\Rep m Z v z:=by
 unfold zxg at h;split at h
 ·rename_i i hi
  obtain⟨z,hz,rfl⟩:=Option.map_eq_some_iff.1 h;exact⟨z,by simp[zeroValue,typeInfo,hi,hz,Sem.run],zz6 z⟩
 ·cases h
def lookV(c:Bool)(v:V)(b:Bool):V:=match c with|true=>.tup [v,.bool b]|false=>v
def zw0.find{α β:Type}[DecidableEq α]{Z:ZM}{f:α->V}{g:β->V}{val:α->bu}(hd:∀m Z a x,Rep m Z (f a) x->x=val a)(a:α):∀{l:List (α×β)}{es:List MapEntry}(i:Nat),zw0 Z (ze4 f g l) es ->
  es.map (·.key)=(l.map (·.1)).map val/\match xj a l with
   |some b=>∃j e,Q9 a (l.map (·.1)) es i=bc (i+j,e.val)/\es[j]?=bc e/\e.key=val a/\Rep bh Z (g b) e.val/\∀(c:β)(y:bu),Rep bh Z (g c) y->zw0 Z (ze4 f g (u9 a c l)) (es.modify j λe=>{ e with key:=val a,val:=y })
   |none=>Q9 a (l.map (·.1)) es i=bh/\∀(c:β)(y:bu)(n:Nat),Rep bh Z (f a) (val a)->Rep bh Z (g c) y->zw0 Z (ze4 f g (u9 a c l)) (es++[{ key:=val a,val:=y,born:=n }])
 |[],es,i,h=>by
  cases h;exact⟨rfl,rfl,λc y n h1 h2=>⟨_,[],rfl,h1,h2,rfl⟩⟩
 |(k,b)::l,es,i,h=>by
  obtain⟨e,es,rfl,h1,h2,h3⟩:=h;have hk:=hd _ _ _ _ h1;obtain⟨h4,h5⟩:=zw0.find hd a (i+1) h3;refine⟨by simp[hk,h4],?_⟩;simp only[xj];by_cases e1:a=k
  ·subst e1
   simp only[aP];refine⟨0,e,by simp[Q9],rfl,hk,h2,λc y hy=>?_⟩;simp only[u9,aP];exact⟨_,es,rfl,by rw[<- hk];exact h1,hy,h3⟩
  ·rw[aO e1]
   cases hm:xj a l with
   |some b' =>
    rw[hm]at h5;obtain⟨j,e',g1,g2,g3,g4,g5⟩:=h5;refine⟨j+1,e',by simp only[mk9,Q9,aO e1,g1];congr 2;omega,by simpa using g2,g3,g4,λc y hy=>?_⟩;simp only[u9,aO e1];exact⟨e,_,af,h1,h2,g5 c y hy⟩
   |none =>
    rw[hm]at h5;obtain⟨g1,g2⟩:=h5;refine⟨by simp only[mk9,Q9,aO e1,g1],λc y n q1 q2=>?_⟩;simp only[u9,aO e1];exact⟨e,_,rfl,h1,h2,g2 c y n q1 q2⟩
variable{ρ:Env}{dst:Option Tmp}{ty:bJ}{pos:String}{aft:Array Edge}{gd:Option (Nat×Bool)}
def zga{α β:Type}[DecidableEq α]{f:α->V}{val:α->bu}{g:β->V}{t kt et k:Nat}{x ix:bE}{l:List (α×β)}(c:Bool){a:α}{z:β}{zv:V}(hT:zzn P t=bc (kt,et))(K:zqm P kt f val)(hz:zxg P et=bc zv)
  (hzg:∀(m:Option M)(Z:ZM)(y:bu),Rep m Z zv y->Rep m Z (g z) y) (hx:evV ρ x=.mp k) (hi:evV ρ ix=f a):
  Loc P ⟨dst,.lookup t x ix c,ty,pos,aft,gd⟩ ρ [(k,.map (ze4 f g l))] (lookV c (g ((xj a l).getD z)) (xj a l).isSome) [(k,.map (ze4 f g l))]:=by
 intro ρr m Z w hops hs _;have hX:=hops x (by simp[Op.operands]);have hI:=K.det _ _ _ _ (hi▸hops ix (by simp[Op.operands]));rw[hx]at hX;obtain⟨m1,loc,e1,e2,hX⟩:=hX;cases e1;obtain⟨b,es,clock,g1,g2,g3,g4,g5,g6,g7⟩:=hs.holds _ (msQ.2 rfl);rw[g1]at e2;cases e2;obtain⟨h1,h2⟩:=g3.find K.det a 0;obtain⟨zz,hz1,hz2⟩:=zHi (m:=bc m) (Z:=Z) (w:=w) hz;have hfind:=K.find a es.toList _ w h1;have hc:=K.check es.isEmpty a w;have hu:=zAv hT
 have key:∃v b',(Instr.lookup t (.map (bc b)) (val a) c).run P w=.ok (if c then .tuple #[v,.bool b']else v) w/\Rep (bc m) Z (g ((xj a l).getD z)) v/\b'=(xj a l).isSome:=by
  cases hm:xj a l with
  |some b' =>
   rw[hm]at h2;obtain⟨j,e',q1,q2,q3,q4,q5⟩:=h2;rw[q1]at hfind;exact⟨e'.val,bf,by simp[Instr.lookup,run_underlying hu,MapKept.run_getObj_map g2,hc,hfind],Rep.up (λ_ _ e=>e) (λf e=>by cases e) q4,rfl⟩
  |none =>
   rw[hm]at h2;rw[h2.1]at hfind;exact⟨zz,bd,by simp[Instr.lookup,run_underlying hu,MapKept.run_getObj_map g2,hc,hfind,hz1],hzg _ _ _ hz2,rfl⟩
 obtain⟨v,b',hrun,hv,hb⟩:=key;refine⟨rfl,.inl ⟨_,w,by simp only[bY,hX,hI,Sem.run_bind,hrun,Result.andThen_ok,Sem.run_pure];rfl,m,Z,Step.refl hs,?_⟩⟩
 cases c with
 |true=>exact⟨[v,.bool b'],rfl,v,_,rfl,hv,_,_,rfl,by rw[hb];rfl,rfl⟩
 |false=>exact hv
def Wu{α β:Type}[DecidableEq α]{f:α->V}{val:α->bu}{g:β->V}{t kt et k:Nat}{x ix y:bE}{l:List (α×β)}{a:α}{c:β}(hT:zzn P t=bc (kt,et))(K:zqm P kt f val)
  (hx:evV ρ x=.mp k) (hi:evV ρ ix=f a) (hy:evV ρ y=g c) (hr:(g c).refs=[]) (hra:(f a).refs=[]):
  Loc P ⟨dst,.mapUpdate t x ix y,ty,pos,aft,gd⟩ ρ [(k,.map (ze4 f g l))] .no [(k,.map (ze4 f g (u9 a c l)))]:=by
 intro ρr m Z w hops hs _;have hX:=hops x (by simp[Op.operands]);have hI0:=hops ix (by simp[Op.operands]);have hY:=hops y (by simp[Op.operands]);have hI:=K.det _ _ _ _ (hi▸hI0);rw[hx]at hX;rw[hy]at hY;have hY:Rep bh Z (g c) (ev ρr y):=Rep.flat _ _ hr hY;obtain⟨m1,loc,e1,e2,hX⟩:=hX;cases e1;obtain⟨b,es,clock,g1,g2,g3,g4,g5,g6,g7⟩:=hs.holds _ (msQ.2 rfl);rw[g1]at e2;cases e2;obtain⟨h1,h2⟩:=g3.find K.det a 0;have hfind:=K.find a es.toList _ w h1;have hc:=K.check bd a w;have hu:=zAv hT;have hbl:b<w.heap.size:=(bX.1 g2).1
 have key:∃es' clock',(Instr.mapUpdate t (.map (bc b)) (val a) (ev ρr y)).run P w=.ok () { w with heap:=w.heap.setIfInBounds b (.map es' clock') }/\zw0 Z (ze4 f g (u9 a c l)) es'.toList/\(es'.toList.Pairwise λx y=>x.born<y.born)/\(∀e∈es'.toList,e.born<clock'):=by
  cases hm:xj a l with
  |some b' =>
   rw[hm]at h2;obtain⟨j,e',q1,q2,q3,q4,q5⟩:=h2;rw[q1]at hfind
   have q2':es[0+j]?=bc e':=by simpa using q2
   have hmem:∀e∈(es.toList.modify (0+j) λe=>{ e with key:=val a,val:=ev ρr y }),∃e0∈es.toList,e.born=e0.born:=λe he=>by
    obtain⟨i,hi,rfl⟩:=dE he;rw[fw];simp only[gZ]at hi;refine⟨es.toList[i],dL _,?_⟩;split<;>rfl
   refine⟨es.modify (0+j) λe=>{ e with key:=val a,val:=ev ρr y },clock,?_,?_,?_,?_⟩
   ·have q2'':es[j]?=bc e':=by simpa using q2'
    simp[Instr.mapUpdate,run_underlying hu,MapKept.run_getObj_map g2,hc,hfind,Instr.keyThatStays,q2'',q3,K.bits,MapKept.run_setObj_map _ g2]
   ·rw[fm];simpa using q5 c _ hY
   ·rw[fm,fO]
    intro i j' hi hj hij;rw[fw,fw];simp only[gZ]at hi hj;have:=fO.1 g4 i j' hi hj hij;split<;>split<;>exact this
   ·rw[fm]
    intro e he;obtain⟨e0,h3,h4⟩:=hmem e he;rw[h4];exact g5 e0 h3
  |none =>
   rw[hm]at h2;rw[h2.1]at hfind;refine⟨es.push { key:=val a,val:=ev ρr y,born:=clock },clock+1,by simp[Instr.mapUpdate,run_underlying hu,MapKept.run_getObj_map g2,hc,hfind,MapKept.run_setObj_map _ g2],?_,?_,?_⟩
   ·rw[fQ];exact h2.2 c _ _ (K.rep _ _ _) hY
   ·rw[fQ,ed]
    exact⟨g4,af,λp hp q hq=>by simp at hq;subst hq;exact g5 p hp⟩
   ·rw[fQ]
    intro e he
    rcases bz.1 he with he|he
    ·have:=g5 e he;omega
    ·simp at he;subst he;simp
 obtain⟨es',clock',hrun,k1,k2,k3⟩:=key;refine⟨rfl,.inr (.inl ⟨_,by simp only[bY,hX,hI,Sem.run_bind,hrun,Result.andThen_ok,Sem.run_pure];rfl,m,Z,?_,rfl⟩)⟩;refine Step.write (b:=b) hs (by simp[blk,u6,Obj.ver,g1]) (zby rfl rfl rfl) rfl rfl rfl af (λj hj=>by simp[Array.getElem?_setIfInBounds_ne (Ne.symm hj)]) (λa x ha e=>aU e (g6 a x ha)) ?_;exact⟨b,es',clock',g1,by simp[hbl],k1,k2,k3,g6,g7⟩
end
section
variable{P:bm}{N:Nat}{Q:zak}{ρ:yL}{ds:List cb}{w:bG}
end
section
variable{K0:List Nat}{c:Ctx K0}{P:bm}{N:Nat}{Q:wj}{ds:List cb}{ty:bJ}{pos:String}{aft:Array Edge}
end
def zmi{α:Type}(f:Nat->α)(sz:Nat):∀n,(cQ (n*sz)).map (λj=>f (j % sz))=(cV n ((cQ sz).map f)).flatten
 |0=>af
 |n+1=>by
  rw[Nat.succ_mul,List.range_add,bO,zmi f sz n,List.replicate_succ',dF,cS]
  congr 1
  simp only[cO,List.flatten_nil,bI]
  refine eG λj hj=>?_
  have hj:=fH.1 hj;simp only[Function.comp];rw[fA,Nat.add_mul_mod_self_right,Nat.mod_eq_of_lt hj]
def zHj{m:Option M}{Z:ZM}{zc:Array bu}{n:Nat}(h0:0<zc.size):zT m Z (cV n (zc.toList.map zte)).flatten (madeCells zc (n*zc.size)).toList:=by
 have e:(madeCells zc (n*zc.size)).toList=(cV n zc.toList).flatten:=by
  have h1:(cQ zc.size).map (λj=>zc[j]!)=zc.toList:=by
   apply List.ext_getElem
   ·simp
   ·intro i h1 h2
    simp at h1;simp[h1]
  rw[<- h1,<- zmi];simp[madeCells]
 rw[e,<- hJ,<- List.map_flatten];exact A9 _
def zT.row_weak{Z:ZM}{cs cs2:List V}(hw:∀(Z:ZM)(l:List bu),zT bh Z cs l->zT bh Z cs2 l):∀(n:Nat)(l:List bu),zT bh Z (cV n cs).flatten l->zT bh Z (cV n cs2).flatten l
 |0,l,h=>h
 |n+1,l,h=>by
  rw[List.replicate_succ,cO]at h ⊢;have h1:=h.take cs.length;have h2:=h.drop cs.length;rw[ef]at h1;rw[gF]at h2;rw[<- gp cs.length l];exact zT.append (hw _ _ h1) (zT.row_weak hw n _ h2)
section
variable{P:bm}{ρ:Env}{dst:Option Tmp}{ty:bJ}{pos:String}{aft:Array Edge}{gd:Option (Nat×Bool)}
def ziq{t d e sz bytes n:Nat}{x y:bE}{k k2:IntKind}{cs cs2:List V}(hT:oJ P t=bc (e,sz,bytes))(hz:zeroV P e=bc cs)(hx:evV ρ x=.int k n)(hy:evV ρ y=.int k2 n)(hlen:n*bytes<=281474976710656)(h63:n<=9223372036854775807)
  (hw:∀(Z:ZM)(l:List bu),zT bh Z cs l->zT bh Z cs2 l) (hl2:cs2.length=cs.length):
  Loc P ⟨dst,.makeSlice t x y,ty,pos,aft,gd⟩ ρ [] (.sl sz d n 0 n) [(d,.row e sz 0 (cV n cs2))]:=by
 intro ρr m Z w hops hs hfr
 have hX:ev ρr x=.int k n:=by have:=hops x (by simp[Op.operands]);rw[hx]at this;exact this
 have hY:ev ρr y=.int k2 n:=by have:=hops y (by simp[Op.operands]);rw[hy]at this;exact this
 obtain⟨i,z,hu,hi,hiz,hsz,hb,h0,h00⟩:=Hc hT
 have hcs:cs=z.cells.toList.map zte:=by
  simp only[zeroV,hi,hiz,Option.some.injEq]at hz;exact hz.symm
 subst hcs;have hrun:=run_make (P:=P) (w:=w) t e i z hu hi hiz k k2 (n:Int) (n:Int) ab ab (by rw[hb,Int.mul_comm];omega) ab
 have e1:((n:Int).toNat)=n:=ab
 rw[e1]at hrun
 have hszz:z.cells.size=i.size:=by rw[h0,hsz]
 have hcl:cs2.length=i.size:=by rw[hl2];simp[hszz]
 have hels:(cV n cs2).length=n:=af
 obtain⟨m',h2,h3⟩:=Step.new (m:=m) (Z:=Z) (w:=w) (k:=d) (o:=.row e sz 0 (cV n cs2)) (.cells (madeCells z.cells (n*i.size)) e) n hs.frozen (λL=>hfr d (by simp[keys]) (by simp[keys]) L) λm' g1 g2 g3=>by
  by_cases hn0:n=0
  ·subst hn0
   have hv0:(Obj.row e sz 0 (cV 0 cs2)).ver=0:=rfl;rw[hv0]at g1;exact .inl ⟨h00,rfl,rfl,⟨_,g1⟩,λL l e=>by have:=g2 L l e;rw[hv0]at this;omega⟩
  have hver:(Obj.row e sz 0 (cV n cs2)).ver=n:=hels;rw[hver]at g1;have hrep:=zHj (m:=bh) (Z:=Z) (zc:=z.cells) (n:=n) ab;rw[hszz]at hrep;have hrep:=zT.row_weak hw n _ hrep;refine .inr ⟨w.heap.size,n,madeCells z.cells (n*i.size),(0,0),by rw[hels];exact g1,ab,World.alloc_heap_new w _,by rw[hels];exact dk _,by simp only[maxLen];omega,by rw[size_madeCells,hsz],ab,?_,?_,af,af,λa x ha e=>by have:=vK hs.frozen ha;omega,λL l e=>by have:=g2 L l e;rw[hver]at this;rw[hels];omega,λoff x ho=>ab⟩
  ·rw[hels,<- hsz,db (by simp[size_madeCells])]
   exact hrep
  ·intro c hc
   rw[List.eq_of_mem_replicate hc,hcl,hsz]
 have hver:(Obj.row e sz 0 (cV n cs2)).ver=n:=hels;rw[hver]at h3;refine⟨rfl,.inl ⟨.slice (bc ⟨w.heap.size,0,bh⟩) n n,w.alloc (.cells (madeCells z.cells (n*i.size)) e),?_,m',Z,h2,m',_,rfl,h3,af,by simp only[maxLen];omega,.inl af⟩⟩;simp only[bY,hX,hY,Sem.run_bind,hrun,Result.andThen_ok,Sem.run_pure]
def zfd{t d e sz bytes L:Nat}{q:Int}{x y:bE}{k k2:IntKind}{cs cs2:List V}{all:List (List V)}(hT:oJ P t=bc (e,sz,bytes))(hz:zeroV P e=bc cs)(hx:evV ρ x=.int k q)(hy:evV ρ y=.int k2 q)(hl2:bk cs2.length cs.length=bf)(h0:0<=q)(hlen:q*bytes<=281474976710656)(h63:q<=9223372036854775807)(hall:cV q.toNat cs2=all)(hL:L=q.toNat)(hw:∀(Z:ZM)(l:List bu),zT bh Z cs l->zT bh Z cs2 l):
  Loc P ⟨dst,.makeSlice t x y,ty,pos,aft,gd⟩ ρ [] (.sl sz d L 0 L) [(d,.row e sz 0 all)]:=by
 subst hall hL
 have e1:q=((q.toNat:Nat):Int):=ab
 exact ziq hT hz (by rw[<- e1];exact hx) (by rw[<- e1];exact hy) (by
   have:((q.toNat*bytes:Nat):Int)<=281474976710656:=by rw[Int.natCast_mul,<- e1];exact hlen
   omega) ab hw (eb hl2)
end
section
variable{P:bm}{ρ:Env}{dst:Option Tmp}{ty:bJ}{pos:String}{aft:Array Edge}{gd:Option (Nat×Bool)}
end
section
variable{m:M}{Z:ZM}{w w':bG}
end
section
variable{P:bm}{ρ:Env}{dst:Option Tmp}{ty:bJ}{pos:String}{aft:Array Edge}{gd:Option (Nat×Bool)}
end
section
variable{K0:List Nat}{ρ:Env}{H:ax}
def zqn{k t:Nat}{cs cs':List V}(R:ax)(ks:List Nat)(hg:H.get k=bc (.box t cs))(hR:ux ks H=bc R)(hfz:frz R=R)(hv:kq R cs cs'){H1:ax}(hH1:(k,.box t cs')::qK [k] H=H1):Cut K0 ρ H ρ H1:=λc ρr w S=>by
 subst hH1;obtain⟨m,Z,S,hr⟩:=S;have hp:=ja (ks:=[k]) (F:=[(k,.box t cs)]) S.step.sim.nodup af (zO8 hg);have S1:Step c.m0 c.Z0 c.F0 c.W0 m Z ((k,.box t cs)::qK [k] H) w:=S.step.permR hp
 have hview:∀l,zT (bc m) Z cs l->zT (bc m) Z cs' l:=λl hl=>hv.rep (F:=R) (w:=w) (λk t' sz fz els hg=>by
  have hmem:=ax.get_mem hg;have h1:=S.step.sim.holds _ ((xn hR).2 _ hmem)
  have:fz=els.length:=by
   rw[<- hfz]at hmem
   rcases k8 hmem with⟨k',t'',sz',fz',els',h2,h3⟩|⟨h2,h3⟩
   ·simp only[Prod.mk.injEq,Obj.row.injEq]at h3
    obtain⟨_,_,_,e1,e2⟩:=h3;rw[e1,e2]
   ·exact aU rfl (h3 t' sz fz els)
  subst this
  exact h1) hl
 have hblk:∀p∈((k,.box t cs')::qK [k] H:ax),∃q∈((k,.box t cs)::qK [k] H:ax),q.1=p.1/\blk m q=blk m p:=λp hp=>by
  rcases bp.1 hp with rfl|hp
  ·exact⟨(k,.box t cs),al,rfl,rfl⟩
  ·exact⟨p,mcQ _ hp,rfl,rfl⟩
 have hk:keys ((k,.box t cs')::qK [k] H)=keys ((k,.box t cs)::qK [k] H):=rfl;refine⟨m,Z,⟨⟨⟨S1.sim.frozen,λp hp=>?_,by rw[hk];exact S1.sim.nodup,λp hp q hq b h1 h2=>?_⟩,S1.mext,S1.zext,S1.os,S1.tape,S1.output,S1.size,S1.frame,λa ha=>by rw[hk];exact S1.keep a ha,λa ha=>S1.newk a (by rw[<- hk];exact ha),λp hp b hb=>?_,S1.znew⟩,λa ha=>S.dom a λh=>ha ?_⟩,hr⟩
 ·rcases bp.1 hp with rfl|hp
  ·obtain⟨b,cur,g1,g2,g3,g4,g5⟩:=S1.sim.holds (k,.box t cs) al
   exact⟨b,cur,g1,g2,hview _ g3,g4,g5⟩
  ·exact S1.sim.holds p (mcQ _ hp)
 ·obtain⟨p',hp',e1,e2⟩:=hblk p hp
  obtain⟨q',hq',e3,e4⟩:=hblk q hq;rw[<- e1,<- e3];exact S1.sim.disj p' hp' q' hq' b (by rw[e2];exact h1) (by rw[e4];exact h2)
 ·obtain⟨p',hp',e1,e2⟩:=hblk p hp
  exact S1.blks p' hp' b (by rw[e2];exact hb)
 ·rw[hk];exact(hp.map _).mem_iff.1 h
end
def WkL(a b:List V):Prop:=∀(Z:ZM)(l:List bu),zT bh Z a l->zT bh Z b l
def zUv:WkL [] []:=λ_ _ h=>h
def Step.weak1{m m':M}{Z Z':ZM}{F:ax}{w w':bG}{d:Nat}{o o':Obj}(h:Step m Z F w m' Z' [(d,o)] w')(hb:blk m' (d,o')=blk m' (d,o))(hh:Holds m' Z' w' d o->Holds m' Z' w' d o'):Step m Z F w m' Z' [(d,o')] w':=by
 refine⟨⟨h.sim.frozen,λp hp=>?_,h.sim.nodup,λp hp q hq _ _ _=>?_⟩,h.mext,h.zext,h.os,h.tape,h.output,h.size,h.frame,h.keep,h.newk,λp hp b hb'=>?_,h.znew⟩
 ·simp only[msQ]at hp
  subst hp;exact hh (h.sim.holds _ (msQ.2 rfl))
 ·simp only[msQ]at hp hq
  subst hp;subst hq;rfl
 ·simp only[msQ]at hp
  subst hp;exact h.blks (d,o) (msQ.2 rfl) b (by rw[<- hb];exact hb')
section
variable{P:bm}{ρ:Env}{dst:Option Tmp}{ty:bJ}{pos:String}{aft:Array Edge}{gd:Option (Nat×Bool)}
def zb6{t d e sz n:Nat}{parts:List (Nat×bE)}{els els2 all:List (List V)}{fl fl2:List V}(hT:J4 P t=bc (e,sz))(hsz:cm (n*sz) 16777216=bf)(h:zw6 n sz (parts.map λp=>(p.1,evV ρ p.2))=bc els)
  (h1:els.flatten=fl) (h2:els2.flatten=fl2) (hw:WkL fl fl2) (hl:bk els2.length els.length=bf) (hc:els2.all (λe=>bk e.length sz)=bf) (ha:els2=all):
  Loc P ⟨dst,.buildSlice t n parts.toArray,ty,pos,aft,gd⟩ ρ [] (.sl sz d n 0 n) [(d,.row e sz 0 all)]:=by
 subst ha;have hL:=zfb (dst:=dst) (ty:=ty) (pos:=pos) (aft:=aft) (gd:=gd) (d:=d) hT hsz h;have hl:=eb hl;intro ρr m Z w hops hs hfr
 refine(hL ρr m Z w hops hs (λk hk hk' L=>hfr k (by simpa[keys]using hk) hk' L)).mono λx w' hx=>?_
 obtain⟨m',Z',st,hr⟩:=hx;refine⟨m',Z',st.weak1 (by funext b;simp only[blk,u6,Obj.ver];rw[hl]) λhh=>?_,hr⟩
 rcases hh with⟨g1,g2,g3,g4,g5⟩|⟨b,cap,cur,fr,g1,g2,g3,g4,g5,g6,g7,g8,g9,g10,g11,g12,g13,g14⟩
 ·exact .inl ⟨g1,by rw[g2]at hl;exact List.eq_nil_of_length_eq_zero hl,g3,g4,g5⟩
 ·refine .inr ⟨b,cap,cur,fr,by rw[hl];exact g1,g2,g3,by rw[hl];exact g4,g5,g6,g7,?_,λe he=>eb ((bj.1 hc) e he),g10,by rw[hl];exact g11,g12,by rw[hl];exact g13,g14⟩
  rw[hl,h2];rw[h1]at g8;exact hw _ _ g8
end
section
variable{m:M}{Z:ZM}{w:bG}
end
section
variable{K0:List Nat}{ρ:Env}{H:ax}
end
section
variable{P:bm}{ρ:Env}{dst:Option Tmp}{ty:bJ}{pos:String}{aft:Array Edge}{gd:Option (Nat×Bool)}{α:Type}
end
section
variable{m:M}{Z:ZM}{w w':bG}
end
section
variable{K0:List Nat}{ρ:Env}{H:ax}
end
section
variable{P:bm}{ρ:Env}{dst:Option Tmp}{ty:bJ}{pos:String}{aft:Array Edge}{gd:Option (Nat×Bool)}
end
section
variable{P:bm}
end
section
variable{P:bm}{ρ:Env}{dst:Option Tmp}{ty:bJ}{pos:String}{aft:Array Edge}{gd:Option (Nat×Bool)}
end
def cpy{α:Type}(l:List α)(o:Nat)(ys:List α):List α:=l.take o++ys++l.drop (o+ys.length)
def YP{α:Type}{l ys:List α}{o:Nat}(h:o+ys.length<=l.length):(cpy l o ys).length=l.length:=by simp[cpy];omega
def zAw{α:Type}(l:List α)(o:Nat):cpy l o []=l:=by simp[cpy]
def zAx{α β:Type}(f:α->β)(l:List α)(o:Nat)(ys:List α):(cpy l o ys).map f=cpy (l.map f) o (ys.map f):=by simp[cpy]
def zL7{α:Type}(l:List α)(o:Nat)(ys:List α):List α:=(cpy l o ys).take l.length
def zb7{α:Type}{l ys:List α}{o:Nat}:(zL7 l o ys).length=l.length:=by simp[zL7,cpy];omega
def zAy{α:Type}{l ys:List α}{o:Nat}(h:o+ys.length<=l.length):zL7 l o ys=cpy l o ys:=by
 rw[zL7,db];rw[YP h];exact dk _
def qM{sz:Nat}:∀{els:List (List V)},(∀e∈els,e.length=sz)->∀o,(els.take o).flatten=els.flatten.take (o*sz)
 |[],_,o=>af
 |a::l,h,0=>af
 |a::l,h,o+1=>by
  have ha:=h a al;rw[List.take_succ_cons,cO,cO,qM (λe he=>h e (mcQ _ he)) o,dB,Nat.one_mul,fA,<- ha,List.take_length_add_append]
def KA{sz:Nat}:∀{els:List (List V)},(∀e∈els,e.length=sz)->∀o,(els.drop o).flatten=els.flatten.drop (o*sz)
 |[],_,o=>af
 |a::l,h,0=>af
 |a::l,h,o+1=>by
  have ha:=h a al;rw[List.drop_succ_cons,cO,KA (λe he=>h e (mcQ _ he)) o,dB,Nat.one_mul,fA,<- ha,List.drop_length_add_append]
def Rd(w:bG)(Z:ZM)(y:bu)(ys:List (List V)):Prop :=
 ∃A cc,y=.slice A ys.length cc/\(0<ys.length->∃a,A=bc a/\∃news:List bu,zT bh Z ys.flatten news/\∀j u,news[j]?=bc u->w.cell? (a.add j)=bc u)
section
variable{P:bm}{m:M}{Z:ZM}{w:bG}
def zHk{k e sz bytes t t2 ty L o n c:Nat}{els ys:List (List V)}{X Y:bu}(hT:oJ P t=bc (e,sz,bytes))(hs:wQ m Z [(k,.row e sz 0 els)] w)(hX:Rep (bc m) Z (.sl sz k L o n) X)(hL:L=els.length)(hon:o+n<=L)(hY:Rd w Z Y ys)(h1:∀c∈ys,c.all V.one=bf)
  (hkl:∀c∈ys,c.length=sz) (hc:c=min ys.length n):∃w',(Builtin.copy_ #[t,t2] ty #[X,Y]).run P w=.ok (.int .i64 c) w'/\Step m Z [(k,.row e sz 0 els)] w m Z [(k,.row e sz 0 (cpy els o (ys.take c)))] w':=by
 obtain⟨i,z,hu,hi,hz,hisz,hib,hzs,h0⟩:=Hc hT;subst hisz;subst hib;subst hL;obtain⟨f,loc,e1,e2,e3,e4,e5⟩:=hX;cases e1;obtain⟨A,cc,rfl,hA⟩:=hY
 obtain⟨B,cB,hXv⟩:∃B cB,X=.slice B n cB:=by
  rcases e5 with e5|⟨e5,A',e6⟩|⟨_,e5,A',c',e6,_⟩
  ·exact⟨_,_,e5⟩
  ·exact⟨A',0,by rw[e6];congr 1;omega⟩
  ·exact⟨A',c',by rw[e6,e5]⟩
 have hlt:(ys.take c).length=c:=by rw[cE];omega
 by_cases hc0:c=0
 ·refine⟨w,?_,by rw[hc0,gG,zAw];exact Step.refl hs⟩
  have hmin:iP ys.length n=0:=hc.symm.trans hc0
  have hf:(Builtin.firstCells i.size 0 (.slice A ys.length cc)).run P w=.ok #[] w:=by
   cases A with
   |none=>simp[Builtin.firstCells]
   |some a=>simp[Builtin.firstCells,loadCells,loadCellsFrom]
  rw[hXv,hc0]
  cases B with
  |none=>simp[Builtin.copy_,run_underlying hu,sizeOf,typeInfo,hi,Builtin.lenOf,hmin,hf,goInt]
  |some b=>simp[Builtin.copy_,run_underlying hu,sizeOf,typeInfo,hi,Builtin.lenOf,hmin,hf,storeCells,goInt]
 have hn0:0<n:=ab
 have hy0:0<ys.length:=ab
 obtain⟨a,rfl,news,hn1,hn2⟩:=hA hy0
 rcases hs.holds _ (msQ.2 rfl)with⟨_,g1,_⟩|⟨b,cap,cur,fr,g1,g0,g2,g3,g4,g5,g6,g7,g8,g9,g10,g11,g12,g13⟩
 ·subst g1;simp at hon;omega
 have g1:m k els.length=bc (b,cap):=g1;rw[g1]at e2;cases e2
 have e5:X=.slice (bc ⟨b,o*i.size,bh⟩) n (cap-o):=by
  rcases e5 with e5|⟨e5,_⟩|⟨_,e5,_⟩
  ·exact e5
  ·simp only at e5;omega
  ·omega
 have hnl:news.length=ys.length*i.size:=by rw[hn1.length,j6 hkl]
 have hmin:iP ys.length n=c:=hc.symm
 have hcy:c<=ys.length:=ab
 have hcn:c<=n:=ab
 have hcs:c*i.size<=ys.length*i.size:=cr _ hcy
 have hnc:(news.take (c*i.size)).length=c*i.size:=by rw[cE,hnl];omega
 have hf:=run_firstCells_some (P:=P) w i.size c a ys.length cc (news.take (c*i.size)) hnc (λj v hj=>by
  rw[cJ]at hj;split at hj
  ·exact hn2 j v hj
  ·cases hj)
 have hones:∀u∈news,u.oneCell'=bf:=zig hn1 (bj.2 λv hv=>by
  obtain⟨c,hc,hvc⟩:=fY.1 hv
  exact(bj.1 (h1 c hc)) v hvc)
 have hsum:(o+c)*i.size<=els.length*i.size:=cr _ ab;have hcapm:els.length*i.size<=cap*i.size:=cr _ g3;have hadd:(o+c)*i.size=o*i.size+c*i.size:=dB ..;have hst:=run_storeCells_atF P b (o*i.size) e fr (news.take (c*i.size)) 0 cur w g2 (by simp at g9;omega) (by rw[hnc,g5];omega) (λv hv=>hones v (dP hv));simp only[dY,hnc]at hst;refine⟨w.setRow b (cur.toList.take (o*i.size)++news.take (c*i.size)++cur.toList.drop (o*i.size+c*i.size)).toArray,?_,?_⟩
 ·rw[e5]
  simp[Builtin.copy_,run_underlying hu,sizeOf,typeInfo,hi,Builtin.lenOf,hmin,hf,hst,goInt]
 ·have hbk:blk m (k,.row e i.size 0 els) b:=by
   have:cap≠0:=ab
   simp[blk,u6,Obj.ver,g1,this]
  have hlen2:(cpy els o (ys.take c)).length=els.length:=YP (by rw[hlt];omega)
  have hcl:cur.toList.length=cap*i.size:=by simpa using g5
  have hno:∀a x,Z a=bc x->a.block≠b:=λa x ha e=>by have:=g11 a x ha e;simp at this
  refine Step.write (b:=b) hs hbk (λb2 h=>zby (by simp only[Obj.ver];exact hlen2) rfl rfl b2 h) rfl rfl rfl af (λj hj=>setRow_other w b j _ hj) (λa x ha e=>aU e (hno a x ha)) ?_;refine .inr ⟨b,cap,_,fr,by rw[hlen2];exact g1,g0,setRow_heap w b cur _ e fr g2,by rw[hlen2];exact g3,g4,?_,g6,?_,?_,g9,ab,λa x ha e=>aU e (hno a x ha),by rw[hlen2];exact g12,λoff x h=>by simp at h⟩
  ·simp only[cN,la,cE,cz,hnl];omega
  ·rw[hlen2]
   have hfl:(cpy els o (ys.take c)).flatten=els.flatten.take (o*i.size)++ys.flatten.take (c*i.size)++els.flatten.drop ((o+c)*i.size):=by
    rw[cpy,dF,dF,qM g8,qM hkl,hlt,KA g8]
   rw[hfl]
   have hcu:(cur.toList.take (o*i.size)++news.take (c*i.size)++cur.toList.drop (o*i.size+c*i.size)).toArray.toList.take (els.length*i.size)=(cur.toList.take (els.length*i.size)).take (o*i.size)++news.take (c*i.size)++(cur.toList.take (els.length*i.size)).drop ((o+c)*i.size):=by
    simp only[]
    have hl1:(cur.toList.take (o*i.size)++news.take (c*i.size)).length=o*i.size+c*i.size:=by
     rw[la,hnc,cE];omega
    rw[iA,db (by rw[hl1];omega),hl1,fI,fF,hadd]
    congr 2
    rw[eI ab]
   rw[hcu];exact((g7.take _).append (hn1.take _)).append (g7.drop _)
  ·intro c' hc'
   rw[cpy,asc]at hc'
   rcases bz.1 hc' with h|h
   ·exact g8 _ (dP h)
   ·rcases bz.1 h with h|h
    ·exact hkl _ (dP h)
    ·exact g8 _ (gD h)
def Src.rd{R:ax}{sz:Nat}{y:V}{ys:List (List V)}{x:bu}(h:Src sz R y ys)(h0:0<sz)(hs:wQ m Z R w)(hx:Rep (bc m) Z y x):Rd w Z x ys:=by
 obtain⟨A,c,e1,_,e2,e3⟩:=h.read h0 hs hx;refine⟨A,c,e1,λhp=>?_⟩
 cases A with
 |none=>rw[e2 rfl]at hp;simp at hp
 |some a=>exact⟨a,rfl,e3 a rfl⟩
end
section
variable{P:bm}{ρ:Env}{dst:Option Tmp}{ty:bJ}{pos:String}{aft:Array Edge}{gd:Option (Nat×Bool)}{α:Type}
def zAz(f:α->List V){t t2 e sz bytes k L o n c:Nat}{x y:bE}{q ys all:List α}{R:ax}(hT:oJ P t=bc (e,sz,bytes))(hx:evV ρ x=.sl sz k L o n)(hL:q.length=L)(hon:o+n<=L)(hy:Src sz R (evV ρ y) (ys.map f))(h1:∀a,(f a).all V.one=bf)(hkl:∀a,(f a).length=sz)(hkR:kv k R=bd)
  (hc:c=min ys.length n) (hall:zL7 q o (ys.take c)=all):
  Loc P ⟨dst,.call ⟨.builtin .copy,#[x,y],#[t,t2]⟩,ty,pos,aft,gd⟩ ρ ((k,.row e sz 0 (q.map f))::R) (.int .i64 c) ((k,.row e sz 0 (all.map f))::R):=by
 intro ρr m Z w hops hs hnew;rw[zAy (by rw[cE];omega)]at hall;subst hall;have hX:=hops x (by simp[Op.operands,Call.operands]);have hY:=hops y (by simp[Op.operands,Call.operands]);rw[hx]at hX;obtain⟨i,z,hu,hi,hz,hisz,hib,hzs,h0⟩:=Hc hT;have hs1:wQ m Z [(k,.row e sz 0 (q.map f))] w:=wQ.left (F:=[(k,.row e sz 0 (q.map f))]) (G:=R) hs;have hsR:wQ m Z R w:=wQ.left (F:=R) (G:=[(k,.row e sz 0 (q.map f))]) (hs.perm (di (l₁:=[(k,Obj.row e sz 0 (q.map f))]) (l₂:=R)));obtain⟨w',hr,hst⟩:=zHk (t2:=t2) (ty:=ty) (c:=c) hT hs1 hX (by rw[bN];exact hL.symm) hon (hy.rd h0 hsR hY) (ztn f h1 ys) (zto f hkl ys) (by rw[bN];exact hc);rw[<- dN,<- zAx]at hst
 exact⟨rfl,.inl ⟨_,w',by simp[bY,resolve,invoke,builtin,hr],m,Z,Step.frame_rule (F:=[(k,.row e sz 0 (q.map f))]) (G:=R) (F':=[(k,.row e sz 0 ((cpy q o (ys.take c)).map f))]) hs hst (λp hp r hr' e'=>by
  simp only[msQ]at hp;subst hp;have e':k=r.1:=e'
  rw[yR.2 (by rw[e'];exact ay hr')]at hkR;cases hkR),rfl⟩⟩
def zir{t e sz k L n:Nat}{x:bE}{lo hi:Option bE}{l h:Int}(ht:J4 P t=bc (e,sz))(hx:evV ρ x=.sl sz k L 0 n)(hl:ztm ρ lo 0 l)(hh:ztm ρ hi n h)(h0:0<=l)(h1:l<=h)(h2:h<=n):
  Loc P ⟨dst,.slice t x lo hi bh,ty,pos,aft,gd⟩ ρ [] (.sl sz k L l.toNat (h.toNat-l.toNat)) []:=by
 have:=zma (P:=P) (ρ:=ρ) (dst:=dst) (ty:=ty) (pos:=pos) (aft:=aft) (gd:=gd) ht hx hl hh h0 h1 h2
 rwa [cI]at this
end
section
variable{P:bm}{ρ:Env}{o:Oper}{v:V}
def zA0{Fa R F2 F1:ax}(h2:Fa++frz R=F2)(hl:Loc P o ρ F2 v F1):Loc P o ρ (Fa++R) v F1:=by
 subst h2;intro ρr m Z w hops hs hnew;have hsR:wQ m Z R w:=wQ.left (F:=R) (G:=Fa) (hs.perm di)
 have hst:Step m Z (R++Fa) w m (zl5 m Z R w) (frz R++Fa) w:=Step.frame_rule (hs.perm di) (Step.freeze hsR) λp hp q hq e=>by
  have h1:p.1∈keys R:=by rw[<- wT];exact ay hp
  obtain⟨p',hp',e'⟩:=bx.1 h1;exact Vg hs.nodup hq hp' (by rw[e'];exact e.symm)
 have hst:=(hst.permL di).permR (di (l₁:=frz R) (l₂:=Fa));refine(hl ρr m _ w (λx hx=>(hops x hx).up hst.zext λf e=>by cases e;exact⟨m,rfl,hst.mext⟩) hst.sim (λk hk hn=>hnew k hk λh=>hn ?_)).mono ?_
 ·rw[zH]at h ⊢
  rw[wT];exact h
 ·rintro x w' ⟨m',Z',st,hr⟩
  exact⟨m',Z',hst.trans st,hr⟩
end
section
variable{K0:List Nat}{ρ:Env}{H:ax}
def zxh(kb j d e sz:Nat){t:Nat}{cs cs':List V}(hsz:cm 1 sz=bf)(hF:ux [kb] H=bc [(kb,.box t cs)])(hj:cs[j]?=bc .nils)(hcs:cs.set j (.sl sz d 0 0 0)=cs')(hd:kv d H=bd){H1:ax}(hH1:(d,.row e sz 0 [])::(kb,.box t cs')::qK [kb] H=H1):
  Cut K0 ρ H ρ H1:=λc ρr w S=>by
 subst hH1;subst hcs
 have hd':d ∉ keys H:=λh=>by rw[yR.2 h]at hd;cases hd
 have hkb:kb∈keys H:=by
  have:=(xn hF).2 _ (msQ.2 rfl);exact ay this
 have hne:d≠kb:=λe=>hd' (e▸hkb)
 have:=QB.step (c:=c) (ρ:=ρ) (H:=H) (F:=[(kb,.box t cs)]) (F':=[(d,.row e sz 0 []),(kb,.box t (cs.set j (.sl sz d 0 0 0)))]) (ks:=[kb]) (ρ':=ρ) (ρr:=ρr) (w:=w) (by simp[yt]) hF (by simp[Kw,hd',hne]) (λm Z hs hnew hR=>by
  have hnew':∀L,m d L=bh:=λL=>hnew d (by simp[keys]) (by simp[keys];exact hne) L
  let m':M:=λk' L=>if k'=d/\L=0 then bc (0,0)else m k' L
  have h1:m' d 0=bc (0,0):=by simp[m']
  have h2:∀k L loc,m k L=bc loc->m' k L=bc loc:=λk L loc e=>by
   by_cases hc:k=d/\L=0
   ·obtain⟨rfl,rfl⟩:=hc;rw[hnew']at e;cases e
   ·simp only[m',aO hc];exact e
  have h3:∀k,k≠d->m' k=m k:=λk hk=>by funext L;simp[m',hk]
  obtain⟨b,cur,g1,g2,g3,g4,g5⟩:=hs.holds _ (msQ.2 rfl)
  have hb1:∀b',blk m' (d,.row e sz 0 []) b'->False:=λb' h=>by simp[blk,u6,Obj.ver,h1]at h
  have hb2:∀b',blk m' (kb,.box t (cs.set j (.sl sz d 0 0 0))) b'->blk m (kb,.box t cs) b':=λb' h=>by
   simp only[blk,u6,Obj.ver,h3 kb (Ne.symm hne)]at h ⊢;exact h
  refine⟨m',Z,⟨⟨hs.frozen,λp hp=>?_,by simp[keys];exact hne,λp hp q hq b' q1 q2=>?_⟩,h2,λ_ _ e=>e,rfl,rfl,rfl,aq,λ_ _ _=>rfl,λk hk=>?_,λk hk=>?_,λp hp b' hb=>?_,λ_ _ e=>.inl e⟩,λu=>(hR u).up (λ_ _ e=>e) (λf e=>by cases e;exact⟨m',rfl,h2⟩)⟩
  ·simp only[bp,cR,or_false]at hp
   rcases hp with rfl|rfl
   ·refine .inl ⟨lb hsz,rfl,rfl,⟨0,h1⟩,λL loc e=>?_⟩
    simp only[m']at e;split at e
    ·rename_i hc;omega
    ·rw[hnew']at e;cases e
   ·have g3':=g3.up (Z':=Z) (m':=bc m') (λ_ _ e=>e) (λf e=>by cases e;exact⟨m',rfl,h2⟩)
    refine⟨b,cur,by rw[h3 kb (Ne.symm hne)];exact g1,g2,?_,g4,by rw[h3 kb (Ne.symm hne)];exact g5⟩;obtain⟨x,hx1,hx2⟩:=g3'.get hj;have hx2:x=.slice bh 0 0:=hx2
    refine zT.of_get (by rw[dj];exact g3'.length) λi v y hv hy=>?_
    by_cases hij:j=i
    ·subst hij
     have hjl:=(bw.1 hj).1;rw[fT,aP rfl,aP hjl]at hv;cases hv;rw[hx1]at hy;cases hy;exact⟨m',_,rfl,h1,aq,cj _,.inr (.inl ⟨rfl,bh,hx2⟩)⟩
    ·rw[dZ hij]at hv
     obtain⟨z,hz,hr⟩:=g3'.get hv;rw[hy]at hz;cases hz;exact hr
  ·simp only[bp,cR,or_false]at hp hq
   rcases hp with rfl|rfl<;>rcases hq with rfl|rfl
   ·rfl
   ·exact(hb1 _ q1).elim
   ·exact(hb1 _ q2).elim
   ·rfl
  ·simp only[keys,mk9,cT,msQ]at hk
   subst hk;simp[keys]
  ·simp only[keys,mk9,cT,bp,cR,or_false,not_or]at hk
   exact h3 k hk.1
  ·simp only[bp,cR,or_false]at hp
   rcases hp with rfl|rfl
   ·exact(hb1 _ hb).elim
   ·exact .inr ⟨_,msQ.2 rfl,hb2 _ hb⟩) S
 exact this
def zqo(kb j d e sz:Nat){t:Nat}{cs cs':List V}(hsz:cm 1 sz=bf)(hF:ux [kb] H=bc [(kb,.box t cs)])(hj:cs[j]?=bc .nils)(hcs:cs.set j (.gv d (zL1 sz 0))=cs')(hd:kv d H=bd){H1:ax}(hH1:(d,.row e sz 0 [])::(kb,.box t cs')::qK [kb] H=H1):
  Cut K0 ρ H ρ H1:=λc ρr w S=>by
 subst hH1;subst hcs
 have hd':d ∉ keys H:=λh=>by rw[yR.2 h]at hd;cases hd
 have hkb:kb∈keys H:=by
  have:=(xn hF).2 _ (msQ.2 rfl);exact ay this
 have hne:d≠kb:=λe=>hd' (e▸hkb)
 have:=QB.step (c:=c) (ρ:=ρ) (H:=H) (F:=[(kb,.box t cs)]) (F':=[(d,.row e sz 0 []),(kb,.box t (cs.set j (.gv d (zL1 sz 0))))]) (ks:=[kb]) (ρ':=ρ) (ρr:=ρr) (w:=w) (by simp[yt]) hF (by simp[Kw,hd',hne]) (λm Z hs hnew hR=>by
  have hnew':∀L,m d L=bh:=λL=>hnew d (by simp[keys]) (by simp[keys];exact hne) L
  let m':M:=λk' L=>if k'=d/\L=0 then bc (0,0)else m k' L
  have h1:m' d 0=bc (0,0):=by simp[m']
  have h2:∀k L loc,m k L=bc loc->m' k L=bc loc:=λk L loc e=>by
   by_cases hc:k=d/\L=0
   ·obtain⟨rfl,rfl⟩:=hc;rw[hnew']at e;cases e
   ·simp only[m',aO hc];exact e
  have h3:∀k,k≠d->m' k=m k:=λk hk=>by funext L;simp[m',hk]
  obtain⟨b,cur,g1,g2,g3,g4,g5⟩:=hs.holds _ (msQ.2 rfl)
  have hb1:∀b',blk m' (d,.row e sz 0 []) b'->False:=λb' h=>by simp[blk,u6,Obj.ver,h1]at h
  have hb2:∀b',blk m' (kb,.box t (cs.set j (.gv d (zL1 sz 0)))) b'->blk m (kb,.box t cs) b':=λb' h=>by
   simp only[blk,u6,Obj.ver,h3 kb (Ne.symm hne)]at h ⊢;exact h
  refine⟨m',Z,⟨⟨hs.frozen,λp hp=>?_,by simp[keys];exact hne,λp hp q hq b' q1 q2=>?_⟩,h2,λ_ _ e=>e,rfl,rfl,rfl,aq,λ_ _ _=>rfl,λk hk=>?_,λk hk=>?_,λp hp b' hb=>?_,λ_ _ e=>.inl e⟩,λu=>(hR u).up (λ_ _ e=>e) (λf e=>by cases e;exact⟨m',rfl,h2⟩)⟩
  ·simp only[bp,cR,or_false]at hp
   rcases hp with rfl|rfl
   ·refine .inl ⟨lb hsz,rfl,rfl,⟨0,h1⟩,λL loc e=>?_⟩
    simp only[m']at e;split at e
    ·rename_i hc;omega
    ·rw[hnew']at e;cases e
   ·have g3':=g3.up (Z':=Z) (m':=bc m') (λ_ _ e=>e) (λf e=>by cases e;exact⟨m',rfl,h2⟩)
    refine⟨b,cur,by rw[h3 kb (Ne.symm hne)];exact g1,g2,?_,g4,by rw[h3 kb (Ne.symm hne)];exact g5⟩;obtain⟨x,hx1,hx2⟩:=g3'.get hj;have hx2:x=.slice bh 0 0:=hx2
    refine zT.of_get (by rw[dj];exact g3'.length) λi v y hv hy=>?_
    by_cases hij:j=i
    ·subst hij
     have hjl:=(bw.1 hj).1;rw[fT,aP rfl,aP hjl]at hv;cases hv;rw[hx1]at hy;cases hy;exact⟨m',rfl,_,h1,cj _,cj _,.inr ⟨rfl,rfl,hx2⟩⟩
    ·rw[dZ hij]at hv
     obtain⟨z,hz,hr⟩:=g3'.get hv;rw[hy]at hz;cases hz;exact hr
  ·simp only[bp,cR,or_false]at hp hq
   rcases hp with rfl|rfl<;>rcases hq with rfl|rfl
   ·rfl
   ·exact(hb1 _ q1).elim
   ·exact(hb1 _ q2).elim
   ·rfl
  ·simp only[keys,mk9,cT,msQ]at hk
   subst hk;simp[keys]
  ·simp only[keys,mk9,cT,bp,cR,or_false,not_or]at hk
   exact h3 k hk.1
  ·simp only[bp,cR,or_false]at hp
   rcases hp with rfl|rfl
   ·exact(hb1 _ hb).elim
   ·exact .inr ⟨_,msQ.2 rfl,hb2 _ hb⟩) S
 exact this
end
section
variable{P:bm}{ρ:Env}{dst:Option Tmp}{ty:bJ}{pos:String}{aft:Array Edge}{gd:Option (Nat×Bool)}
def zb8{a b c d:List V}(hl:a.length=b.length)(h1:WkL a b)(h2:WkL c d):WkL (a++c) (b++d):=λZ l h=>by
 have h3:=h.take a.length;have h4:=h.drop a.length;rw[ef]at h3;rw[gF]at h4;rw[<- gp a.length l];exact(h1 _ _ h3).append (h2 _ _ h4)
def zA1{a:List V}:WkL a a:=λ_ _ h=>h
def zPg{m:M}{Z:ZM}{w:bG}{k t sz fz:Nat}{els:List (List V)}(hs:wQ m Z [(k,.row t sz fz els)] w){n:Nat}(hn:n<els.length):els[n].length=sz:=by
 rcases hs.holds _ (msQ.2 rfl)with⟨_,g1,_⟩|⟨b,cap,cur,fr,g1,g0,g2,g3,g4,g5,g6,g7,g8,_⟩
 ·subst g1;simp at hn
 ·exact g8 _ (dL hn)
def zis{t et sz fz k L off:Nat}{a x:bE}{els all:List (List V)}{cs c1 c2:List V}(i j:Nat)(ha:evV ρ a=.ptr k L off)(hL:L=els.length)(hoff:off=i*sz+j)(hc:els[i]?=bc cs)(hfz:fz<=i)
  (hp:(evV ρ x).plain=bf) (h1:(evV ρ x).cells.all V.one=bf) (hrf:(evV ρ x).refs=[]) (hsz:H0 P t (evV ρ x).cells.length=bf) (hfit:cm (j+(evV ρ x).cells.length) sz=bf) (hc':cs.take j++(evV ρ x).cells++cs.drop (j+(evV ρ x).cells.length)=c1)
  (hw:WkL c1 c2) (hl:bk c1.length c2.length=bf) (hall:els.set i c2=all):
  Loc P ⟨dst,.store t a x,ty,pos,aft,gd⟩ ρ [(k,.row et sz fz els)] .no [(k,.row et sz fz all)]:=by
 subst hc';subst hall;have hl:=eb hl;have h0:=zl8 (P:=P) (dst:=dst) (ty:=ty) (pos:=pos) (aft:=aft) (gd:=gd) (et:=et) i j ha hL hoff hc hfz hp h1 hrf hsz (lb hfit);generalize cs.take j++(evV ρ x).cells++cs.drop (j+(evV ρ x).cells.length)=c1 at h0 hw hl;have hi:=(bw.1 hc).1;intro ρr m Z w hops hs hnew
 refine(h0 ρr m Z w hops hs (λk hk hk' L=>by exact hnew k (by simpa[keys]using hk) hk' L)).mono λy w' hy=>?_
 obtain⟨m',Z',st,hr⟩:=hy;refine⟨m',Z',st.weak1 (by funext b;simp only[blk,u6,Obj.ver,dj]) λhh=>?_,hr⟩
 rcases hh with⟨_,g1,_⟩|⟨b,cap,cur,fr,g1,g0,g2,g3,g4,g5,g6,g7,g8,g9,g10,g11,g12,g13⟩
 ·have:=aQ bg g1
  simp only[dj,List.length_nil]at this;omega
 ·simp only[dj]at g1 g3 g7 g10 g12
  refine .inr ⟨b,cap,cur,fr,by rw[dj];exact g1,g0,g2,by rw[dj];exact g3,g4,g5,g6,?_,λe he=>?_,g9,by rw[dj];exact g10,g11,by rw[dj];exact g12,g13⟩
  ·rw[dj]
   rw[List.set_eq_take_append_cons_drop,aP hi,dF,cO]at g7 ⊢;exact zb8 rfl zA1 (zb8 hl hw zA1) _ _ g7
  ·rcases List.mem_or_eq_of_mem_set he with h|h
   ·obtain⟨n,hn,rfl⟩:=dE h
    by_cases hni:i=n
    ·subst hni
     -- the old element's length: the element itself is gone; its length is that of the new one's
     have hm:=g8 c1 (iO hi c1);exact(zPg hs hn)
    ·exact g8 _ (by
      have:(els.set i c1)[n]?=bc els[n]:=by rw[dZ hni,bA hn]
      exact List.mem_of_getElem? this)
   ·subst h
    have hm:=g8 c1 (iO hi c1);rw[<- hl];exact hm
end
section
variable{α β:Type}[DecidableEq α]
end
section
variable{e sz:Nat}{l:List (V×List (List V))}{ho:Option Nat}{mk:Nat->Option (Nat×Nat)}{Z:ZM}{w:bG}
end
def gone:zZv where
 holds _ _ _:=True
 blks _ _:=False
 some_ _ _ h:=h.elim
 own _ _ _ _ _ h:=h.elim
 keep _ _ _ _ _ h _ _:=h
section
variable{m:M}{Z:ZM}{w w':bG}
end
section
variable{P:bm}{ρ:Env}{dst:Option Tmp}{ty:bJ}{pos:String}{aft:Array Edge}{gd:Option (Nat×Bool)}{α β:Type}[DecidableEq α]
end
section
variable{m:M}{Z:ZM}{w:bG}{K0:List Nat}{ρ:Env}{H:ax}
end
section
variable{P:bm}{ρ:Env}{dst:Option Tmp}{ty:bJ}{pos:String}{aft:Array Edge}{gd:Option (Nat×Bool)}
end
section
variable{m:M}{Z:ZM}{w:bG}{K0:List Nat}{ρ:Env}{H:ax}
end
section
variable{α β:Type}[DecidableEq α]
variable{P:bm}{ρ:Env}{dst:Option Tmp}{ty:bJ}{pos:String}{aft:Array Edge}{gd:Option (Nat×Bool)}
end
section
variable{K0:List Nat}{ρ:Env}{H:ax}
end
section
variable{P:bm}{f:FuncId}{args:List V}{F F':ax}{r:V}
end
section
variable{P:bm}
end
section
variable{P:bm}{F:Fence}{n:Nat}{b:Frame}{a:Act}{k:List Item}{cs:List Frame}{w:bG}{Q:Exit->Act->bG->Prop}
def qa{c:Code}:step P (lone (b.atR a (.code (.scope c)::k)) cs w)=.next (lone (b.atR a (.code c::.inScope c::k)) cs w) :=
 step_lone_go (by simp[stepG,stepG.exec,Frame.atR])
def zit{c:Code}:step P (lone (b.atR a (.inScope c::k)) cs w)=.next (lone (b.atR a k) cs w) :=
 step_lone_go (by simp[stepG,stepG.exec,Frame.atR])
def zxi{c:Code}(h:c.wpIn F n P (Exit.noGoto Q) a w):(Code.scope c).wpIn F n P Q a w:=by
 intro b k cs hro hb hr;have h0:(lone (b.atR a (.code (.scope c)::k)) cs w).fenced P F:=fenced_calm hb hr rfl;obtain⟨e,a₁,w₁,hq,harr⟩:=h b (.inScope c::k) cs hro hb hr
 cases e with
 |normal=>exact⟨.normal,a₁,w₁,hq,.head h0 qa (StepsIn.trans harr (.one (fenced_calm hb hr rfl) zit))⟩
 |exit id =>
  have hx:exitTo id (.inScope c::k)=exitTo id k:=by simp[exitTo]
  exact⟨.exit id,a₁,w₁,hq,λk' hk=>.head h0 qa (harr.1 k' (by rw[hx];exact hk)),
   λhr' hk=>let ⟨k₁,h1,h2⟩:=harr.2 hr' (by rw[hx];exact hk);⟨k₁,h1,.head h0 qa h2⟩⟩
 |goto l=>exact hq.elim
 |ret=>exact⟨_,a₁,w₁,hq,.of_steps (.one h0 qa) harr⟩
 |panic ch=>exact⟨_,a₁,w₁,hq,.of_steps (.one h0 qa) harr⟩
 |outgrown=>exact⟨_,a₁,w₁,hq,.of_steps (.one h0 qa) harr⟩
end
section
variable{K0:List Nat}{c:Ctx K0}{P:bm}{r:Option Nat}{N:Nat}{Q:wj}{ρ:Env}{H:ax}{ds:List cb}
def zb9(Q:wj):wj
 |.goto _,_,_,_=>False
 |e,ρ,H,ds=>Q e ρ H ds
def zPh{l:Nat}(h:Q .normal ρ H ds):WpV c P r N (.label l) Q ρ H ds:=λρr w ds1 S hM=>by
 intro a n hf;exact wpIn_label ⟨ρr,ds1,hf,ρ,H,S,hM,h⟩
def zPi{x:Code}(h:WpV c P r N x (zb9 Q) ρ H ds):WpV c P r N (.scope x) Q ρ H ds:=λρr w ds1 S hM=>by
 intro a n hf;refine zxi (wpIn_mono (h ρr w ds1 S hM a n hf) λe a' w' hq=>?_);obtain⟨ρ1,ds',hf',ρ',H',S',hM',hQ⟩:=hq
 cases e with
 |goto l=>exact hQ.elim
 |normal=>exact⟨ρ1,ds',hf',ρ',H',S',hM',hQ⟩
 |exit id=>exact⟨ρ1,ds',hf',ρ',H',S',hM',hQ⟩
 |ret=>exact⟨ρ1,ds',hf',ρ',H',S',hM',hQ⟩
 |panic ch=>exact⟨ρ1,ds',hf',ρ',H',S',hM',hQ⟩
 |outgrown=>exact⟨ρ1,ds',hf',ρ',H',S',hM',hQ⟩
def zHl(h:Q .normal ρ H ds):zb9 Q .normal ρ H ds:=h
def zHm(h:Q .ret ρ H ds):zb9 Q .ret ρ H ds:=h
def zA2{i:Nat}(h:Q (.exit i) ρ H ds):zb9 Q (.exit i) ρ H ds:=h
end
def zUw:Nat×Obj->Bool|(_,.glob _ _ _)=>bf|_=>bd
section
variable{P:bm}{f:FuncId}{args:List V}{F F' F2 G:ax}{r:V}{s:Nat->Bool}
end
end Go.EV
namespace Go.Eng
open Go Go.RowKit
section
variable{P:bm}{r:Option Nat}{N:Nat}{Q:zak}{ρ:yL}{ds:List cb}{w W0:bG}{L:List Own}
variable{all rest:List Oper}{ty:bJ}{pos:String}{aft:Array Edge}{gd:Option (Nat×Bool)}{jl:Nat}{S:bG->Prop}{K:yL->List cb->bG->Prop}
open Go.Sort
end
section
variable{P:bm}{ρ:yL}{w W:bG}{dst:Option Tmp}{ty:bJ}{pos:String}{aft:Array Edge}{gd:Option (Nat×Bool)}{α:Type}{enc:α->List bu}{k:Nat}{v:bu}{l:List α}
end
section
variable{P:bm}{r:Option Nat}{N:Nat}{Q:zak}{ρ:yL}{ds:List cb}{w W0:bG}{L:List Own}
variable{all rest:List Oper}{ty:bJ}{pos:String}{aft:Array Edge}{gd:Option (Nat×Bool)}
end
end Go.Eng
namespace Go.EV
open Go Go.RowKit Go.Eng
section
variable{P:bm}{f:FuncId}{args:List V}{r:V}
def zxj{w w':bG}{m:M}{Z:ZM}(hf:∀a x,Z a=bc x->w.cell? a=bc x)(hb:Below w.heap.size w w'):Step m Z [] w m Z [] w' :=
 ⟨⟨λa x ha=>by rw[Hb (hb.block _ (vK hf ha))];exact hf a x ha,λp hp=>(by cases hp),dv,λp hp=>(by cases hp)⟩,λ_ _ _ h=>h,λ_ _ h=>h,hb.os,hb.tape,hb.output,hb.size,λb hb' _=>hb.block b hb',λ_ h=>h,λ_ _=>rfl,λp hp=>(by cases hp),λ_ _ h=>.inl h⟩
end
def zA3(P:bm)(src dst:bJ):Bool:=match P.underlying src with
 |some (.slice e)=>match P.underlying e with|some (.int .u8)=>(match P.underlying dst with|some .string=>bf|_=>bd)|_=>bd
 |_=>bd
def zHn{P:bm}{src dst:bJ}(h:zA3 P src dst=bf):∃e,P.underlying src=bc (.slice e)/\P.underlying e=bc (.int .u8)/\P.underlying dst=bc .string:=by
 unfold zA3 at h;split at h
 ·split at h
  ·split at h
   ·exact⟨_,by assumption,by assumption,by assumption⟩
   ·cases h
  ·cases h
 ·cases h
def bytesOf(l:List Int):ak:=l.map λn=>UInt8.ofNat n.toNat
section
variable{P:bm}{ρ:Env}{dst:Option Tmp}{ty:bJ}{pos:String}{aft:Array Edge}{gd:Option (Nat×Bool)}
def zmj{s d k t fz L:Nat}{x:bE}{l:List Int}(ht:zA3 P s d=bf)(hx:evV ρ x=.sl 1 k L 0 L)(hL:L=l.length):
  Loc P ⟨dst,.convert s d x,ty,pos,aft,gd⟩ ρ [(k,.row t 1 fz (l.map (zzm .u8)))] (.str (bytesOf l)) [(k,.row t 1 fz (l.map (zzm .u8)))]:=by
 intro ρr m Z w hops hs _;have hX:=hops x (by simp[Op.operands]);rw[hx]at hX;subst hL;obtain⟨f,loc,e1,e2,e3,e4,e5⟩:=hX;cases e1;obtain⟨e,h1,h2,h3⟩:=zHn ht
 have hrun:∀X,ev ρr x=X->(convert s d X).run P w=.ok (.string ⟨(bytesOf l).toArray⟩) w->∃x',(bY (ev ρr) ⟨dst,.convert s d x,ty,pos,aft,gd⟩).run P w=.ok (.value x') w/\∃m' Z',Step m Z [(k,.row t 1 fz (l.map (zzm .u8)))] w m' Z' [(k,.row t 1 fz (l.map (zzm .u8)))] w/\Rep (bc m') Z' (.str (bytesOf l)) x':=λX hX hr =>
  ⟨_,by simp[bY,hX,hr],m,Z,Step.refl hs,rfl⟩
 have hnil:∀A c,l=[]->(convert s d (.slice A 0 c)).run P w=.ok (.string ⟨(bytesOf l).toArray⟩) w:=λA c h0=>by
  subst h0
  cases A with
  |none=>exact run_convert_bytes_nil w s e h1 h2 0 c d h3
  |some a =>
   rw[run_convert_bytes_string w s d e _ 0 c h1 h2 h3,run_bytesToString w a 0 c [] (by have:=run_loadCells_list (P:=P) w a [] (λj v hj=>by simp at hj);simpa using this)];rfl
 refine⟨rfl,.inl ?_⟩;have hh:=hs.holds _ (msQ.2 rfl);by_cases h0:l=[]
 ·have:∃A c,ev ρr x=.slice A 0 c:=by
   rcases e5 with h|⟨_,A,h⟩|⟨_,_,A,c,h,_⟩
   ·subst h0;exact⟨_,_,h⟩
   ·exact⟨_,_,h⟩
   ·exact⟨_,_,h⟩
  obtain⟨A,c,hX⟩:=this;obtain⟨x',g1,g2⟩:=hrun _ hX (hnil A c h0);exact⟨x',w,g1,g2⟩
 ·rcases hh with⟨_,hn,_⟩|⟨b,cap,cur,fr,g1,g0,g2,g3,g4,g5,g6,g7,g8,g9,g10,g11,g12,g13⟩
  ·rw[List.map_eq_nil_iff]at hn;exact aU hn h0
  ·simp only[bN]at g1 g3 g7
   rw[g1]at e2;cases e2
   have hfl:(l.map (zzm .u8)).flatten=l.map λn=>V.int .u8 n:=zb5 (λn=>V.int .u8 n) l
   rw[hfl,gw]at g7;have htk:=QC (enc:=λn=>V.int .u8 n) (f:=Value.int .u8) (m:=bh) (Z:=Z) (λa x h=>h) g7
   rcases e5 with hX|⟨hc,_⟩|⟨hc,_⟩
   ·have hcell:∀i,i<l.length->w.cell? ⟨b,0+i,bh⟩=bc (.int .u8 (l.getD i 0)):=λi hi=>by
     rw[cell_of_row w b _ cur t fr g2,cI]
     have e7:(cur.toList.take l.length)[i]?=(l.map (Value.int .u8))[i]?:=by rw[htk]
     rw[cJ,aP hi]at e7
     have e8:cur[i]?=cur.toList[i]?:=af
     rw[e8,e7];simp[ca,bA hi]
    have:=run_convert_bytes_arg w s e h1 h2 b 0 l.length (cap-0) l rfl hcell d h3;obtain⟨x',k1,k2⟩:=hrun _ (by simpa using hX) (by simp only[Nat.sub_zero]at this;exact this);exact⟨x',w,k1,k2⟩
   ·simp only at hc;omega
   ·omega
end
open Go Go.RowKit Go.Eng Go.Lib
section
variable{P:bm}{ρ:Env}{dst:Option Tmp}{ty:bJ}{pos:String}{aft:Array Edge}{gd:Option (Nat×Bool)}
end
section
variable{P:bm}{ρ:Env}{dst:Option Tmp}{ty:bJ}{pos:String}{aft:Array Edge}{gd:Option (Nat×Bool)}
def zA4(G:ax):Bool:=G.all λp=>match p.2 with|.glob _ _ cs=>Wn cs|_=>bd
def zPj{G:ax}(h:zA4 G=bf){p:Nat×Obj}(hp:p∈G):∃g t cs,p.2=.glob g t cs/\Wn cs=bf:=by
 have:=(bj.1 h) p hp;split at this
 ·exact⟨_,_,_,by assumption,this⟩
 ·cases this
def wQ.right{m:M}{Z:ZM}{F G:ax}{w:bG}(h:wQ m Z (F++G) w):wQ m Z G w:=(h.perm di).left
def ziu{f:FuncId}{args:List V}{r:V}{G:ax}(hG:zA4 G=bf)(hrl:wP args=[])
  (h:∀w Z vals,(∀a y,Z a=bc y->w.cell? a=bc y)->(∀p∈G,∀g ob cs,p.2=.glob g ob cs->∃cur u fr,w.heap[g]?=bc (.cells cur u fr)/\zT bh Z cs cur.toList)->zT bh Z args vals->Calls P f vals.toArray w λen w'=>∃x,en=.returned x/\(∀m,Rep m Z r x)/\Below w.heap.size w w'):FnA P f args G r G:=by
 intro w m Z vals hs hv hfr;refine Calls.mono (h w Z vals hs.frozen (λp hp g ob cs hl=>by have hh:=hs.holds p hp;rw[hl]at hh;obtain⟨_,⟨h2,cur,u,fr,h5,h3⟩,_⟩:=hh;exact⟨cur,u,fr,by rw[h2,h5],h3⟩) (zT.flat args vals hrl hv)) ?_;rintro en w' ⟨x,he,hr,hb⟩;refine⟨x,m,Z,he,?_,hr _⟩;have:=Step.frame_rule (F:=[]) (F':=[]) (G:=G) hs (zxj hs.frozen hb) (λp hp=>by cases hp);exact this
end
section
variable{P:bm}{m:M}{Z:ZM}{w:bG}
def zA5{k e sz bytes t t2 ty L o n c:Nat}{els ys:List (List V)}{X Y:bu}(hT:oJ P t=bc (e,sz,bytes))(hs:wQ m Z [(k,.row e sz 0 els)] w)(hX:Rep (bc m) Z (.sl sz k L o n) X)(hL:L=els.length)(hon:o+n<=L)(hlY:(Builtin.lenOf Y).run P w=.ok ys.length w)(hY0:(Builtin.firstCells sz 0 Y).run P w=.ok #[] w)(hY:0<c->∃news,zT bh Z ys.flatten news/\(Builtin.firstCells sz c Y).run P w=.ok (news.take (c*sz)).toArray w)(h1:∀c∈ys,c.all V.one=bf)
  (hkl:∀c∈ys,c.length=sz) (hc:c=min ys.length n):∃w',(Builtin.copy_ #[t,t2] ty #[X,Y]).run P w=.ok (.int .i64 c) w'/\Step m Z [(k,.row e sz 0 els)] w m Z [(k,.row e sz 0 (cpy els o (ys.take c)))] w':=by
 obtain⟨i,z,hu,hi,hz,hisz,hib,hzs,h0⟩:=Hc hT;subst hisz;subst hib;subst hL;obtain⟨f,loc,e1,e2,e3,e4,e5⟩:=hX;cases e1
 obtain⟨B,cB,hXv⟩:∃B cB,X=.slice B n cB:=by
  rcases e5 with e5|⟨e5,A',e6⟩|⟨_,e5,A',c',e6,_⟩
  ·exact⟨_,_,e5⟩
  ·exact⟨A',0,by rw[e6];congr 1;omega⟩
  ·exact⟨A',c',by rw[e6,e5]⟩
 have hlt:(ys.take c).length=c:=by rw[cE];omega
 by_cases hc0:c=0
 ·refine⟨w,?_,by rw[hc0,gG,zAw];exact Step.refl hs⟩
  have hmin:iP ys.length n=0:=hc.symm.trans hc0;have hf:=hY0;rw[hXv,hc0]
  cases B with
  |none=>simp[Builtin.copy_,run_underlying hu,sizeOf,typeInfo,hi,hlY,hmin,hf,goInt]
  |some b=>simp[Builtin.copy_,run_underlying hu,sizeOf,typeInfo,hi,hlY,hmin,hf,storeCells,goInt]
 have hn0:0<n:=ab
 have hy0:0<ys.length:=ab
 obtain⟨news,hn1,hf⟩:=hY ab
 rcases hs.holds _ (msQ.2 rfl)with⟨_,g1,_⟩|⟨b,cap,cur,fr,g1,g0,g2,g3,g4,g5,g6,g7,g8,g9,g10,g11,g12,g13⟩
 ·subst g1;simp at hon;omega
 have g1:m k els.length=bc (b,cap):=g1;rw[g1]at e2;cases e2
 have e5:X=.slice (bc ⟨b,o*i.size,bh⟩) n (cap-o):=by
  rcases e5 with e5|⟨e5,_⟩|⟨_,e5,_⟩
  ·exact e5
  ·simp only at e5;omega
  ·omega
 have hnl:news.length=ys.length*i.size:=by rw[hn1.length,j6 hkl]
 have hmin:iP ys.length n=c:=hc.symm
 have hcy:c<=ys.length:=ab
 have hcn:c<=n:=ab
 have hcs:c*i.size<=ys.length*i.size:=cr _ hcy
 have hnc:(news.take (c*i.size)).length=c*i.size:=by rw[cE,hnl];omega
 have hones:∀u∈news,u.oneCell'=bf:=zig hn1 (bj.2 λv hv=>by
  obtain⟨c,hc,hvc⟩:=fY.1 hv
  exact(bj.1 (h1 c hc)) v hvc)
 have hsum:(o+c)*i.size<=els.length*i.size:=cr _ ab;have hcapm:els.length*i.size<=cap*i.size:=cr _ g3;have hadd:(o+c)*i.size=o*i.size+c*i.size:=dB ..;have hst:=run_storeCells_atF P b (o*i.size) e fr (news.take (c*i.size)) 0 cur w g2 (by simp at g9;omega) (by rw[hnc,g5];omega) (λv hv=>hones v (dP hv));simp only[dY,hnc]at hst;refine⟨w.setRow b (cur.toList.take (o*i.size)++news.take (c*i.size)++cur.toList.drop (o*i.size+c*i.size)).toArray,?_,?_⟩
 ·rw[e5]
  simp[Builtin.copy_,run_underlying hu,sizeOf,typeInfo,hi,hlY,hmin,hf,hst,goInt]
 ·have hbk:blk m (k,.row e i.size 0 els) b:=by
   have:cap≠0:=ab
   simp[blk,u6,Obj.ver,g1,this]
  have hlen2:(cpy els o (ys.take c)).length=els.length:=YP (by rw[hlt];omega)
  have hcl:cur.toList.length=cap*i.size:=by simpa using g5
  have hno:∀a x,Z a=bc x->a.block≠b:=λa x ha e=>by have:=g11 a x ha e;simp at this
  refine Step.write (b:=b) hs hbk (λb2 h=>zby (by simp only[Obj.ver];exact hlen2) rfl rfl b2 h) rfl rfl rfl af (λj hj=>setRow_other w b j _ hj) (λa x ha e=>aU e (hno a x ha)) ?_;refine .inr ⟨b,cap,_,fr,by rw[hlen2];exact g1,g0,setRow_heap w b cur _ e fr g2,by rw[hlen2];exact g3,g4,?_,g6,?_,?_,g9,ab,λa x ha e=>aU e (hno a x ha),by rw[hlen2];exact g12,λoff x h=>by simp at h⟩
  ·simp only[cN,la,cE,cz,hnl];omega
  ·rw[hlen2]
   have hfl:(cpy els o (ys.take c)).flatten=els.flatten.take (o*i.size)++ys.flatten.take (c*i.size)++els.flatten.drop ((o+c)*i.size):=by
    rw[cpy,dF,dF,qM g8,qM hkl,hlt,KA g8]
   rw[hfl]
   have hcu:(cur.toList.take (o*i.size)++news.take (c*i.size)++cur.toList.drop (o*i.size+c*i.size)).toArray.toList.take (els.length*i.size)=(cur.toList.take (els.length*i.size)).take (o*i.size)++news.take (c*i.size)++(cur.toList.take (els.length*i.size)).drop ((o+c)*i.size):=by
    simp only[]
    have hl1:(cur.toList.take (o*i.size)++news.take (c*i.size)).length=o*i.size+c*i.size:=by
     rw[la,hnc,cE];omega
    rw[iA,db (by rw[hl1];omega),hl1,fI,fF,hadd]
    congr 2
    rw[eI ab]
   rw[hcu];exact((g7.take _).append (hn1.take _)).append (g7.drop _)
  ·intro c' hc'
   rw[cpy,asc]at hc'
   rcases bz.1 hc' with h|h
   ·exact g8 _ (dP h)
   ·rcases bz.1 h with h|h
    ·exact hkl _ (dP h)
    ·exact g8 _ (gD h)
end
def zgb{m:Option M}{Z:ZM}:∀s:ak,zT m Z (s.map λb=>V.int .u8 b.toNat) (s.map λb=>Value.int .u8 b.toNat)
 |[]=>rfl
 |b::s=>⟨_,_,rfl,rfl,zgb s⟩
def ztr{P:bm}{w:bG}(s:ak)(c:Nat)(hc:c<=s.length):(Builtin.firstCells 1 c (.string ⟨s.toArray⟩)).run P w=.ok (((s.map λb=>Value.int .u8 b.toNat).take (c*1)).toArray) w:=by
 have:((⟨s.toArray⟩:ByteArray).extract 0 c).data=(s.take c).toArray:=by
  rw[ByteArray.data_extract];simp
 simp only[Builtin.firstCells,this,gw,Sem.run_pure];rw[<- dN];simp
section
variable{P:bm}{ρ:Env}{dst:Option Tmp}{ty:bJ}{pos:String}{aft:Array Edge}{gd:Option (Nat×Bool)}
def zqp{t t2 e bytes k L o n c:Nat}{x y:bE}{q all:List Int}{ys:ak}(hT:oJ P t=bc (e,1,bytes))(hx:evV ρ x=.sl 1 k L o n)(hL:q.length=L)(hon:o+n<=L)(hy:evV ρ y=.str ys)
  (hc:c=min ys.length n) (hall:zL7 q o ((ys.take c).map λb=>(b.toNat:Int))=all):
  Loc P ⟨dst,.call ⟨.builtin .copy,#[x,y],#[t,t2]⟩,ty,pos,aft,gd⟩ ρ [(k,.row e 1 0 (q.map (zzm .u8)))] (.int .i64 c) [(k,.row e 1 0 (all.map (zzm .u8)))]:=by
 intro ρr m Z w hops hs hnew;rw[zAy (by rw[bN,cE];omega)]at hall;subst hall;have hX:=hops x (by simp[Op.operands,Call.operands]);have hY:=hops y (by simp[Op.operands,Call.operands]);rw[hx]at hX;rw[hy]at hY;have hY:ev ρr y=.string ⟨ys.toArray⟩:=hY
 let zs:List Int:=ys.map λb=>(b.toNat:Int)
 have hfl:(zs.map (zzm .u8)).flatten=ys.map λb=>V.int .u8 b.toNat:=by
  show((ys.map λb=>(b.toNat:Int)).map (zzm .u8)).flatten=_
  rw[cS];exact zb5 (λb:UInt8=>V.int .u8 b.toNat) ys
 have hzl:zs.length=ys.length:=bN ..
 obtain⟨w',hr,hst⟩:=zA5 (P:=P) (t2:=t2) (ty:=ty) (c:=c) (ys:=zs.map (zzm .u8)) (Y:=.string ⟨ys.toArray⟩) hT hs hX (by rw[bN];exact hL.symm) hon (by simp[Builtin.lenOf,ByteArray.size,hzl]) (by simpa using ztr (P:=P) (w:=w) ys 0 (cj _))
  (λh0=>⟨ys.map λb=>Value.int .u8 b.toNat,by rw[hfl];exact zgb ys,ztr ys c ab⟩) (ztn (zzm .u8) (λ_=>rfl) zs) (zto (zzm .u8) (λ_=>rfl) zs) (by rw[bN,hzl];exact hc)
 rw[<- dN,<- zAx,<- dN]at hst;exact⟨rfl,.inl ⟨_,w',by simp[bY,resolve,invoke,builtin,hY,hr],m,Z,hst,rfl⟩⟩
end
section
variable{K0:List Nat}{c:Ctx K0}{P:bm}{r:Option Nat}{N:Nat}{Q:wj}{ρ:Env}{H:ax}{ds:List cb}
end
section
variable{P:bm}{ρ:Env}{dst:Option Tmp}{ty:bJ}{pos:String}{aft:Array Edge}{gd:Option (Nat×Bool)}{α β:Type}[DecidableEq α]
end
section
variable{P:bm}{m:M}{Z:ZM}{w:bG}
end
section
variable{P:bm}{ρ:Env}{dst:Option Tmp}{ty:bJ}{pos:String}{aft:Array Edge}{gd:Option (Nat×Bool)}{α:Type}
end
section
variable{m:M}{Z:ZM}{w:bG}
end
section
variable{K0:List Nat}{ρ:Env}{H:ax}
end
section
variable{K0:List Nat}{c:Ctx K0}{P:bm}{r:Option Nat}{N:Nat}{all rest:List Oper}{o:Oper}{Q:wj}{ρ:Env}{H:ax}{ds:List cb}
end
section
variable{P:bm}{ρ:Env}{dst:Option Tmp}{ty:bJ}{pos:String}{aft:Array Edge}{gd:Option (Nat×Bool)}
end
section
variable{P:bm}{ρ:Env}{dst:Option Tmp}{ty:bJ}{pos:String}{aft:Array Edge}{gd:Option (Nat×Bool)}
end
section
variable{α β:Type}
variable[DecidableEq α]
variable{P:bm}{ρ:Env}{dst:Option Tmp}{ty:bJ}{pos:String}{aft:Array Edge}{gd:Option (Nat×Bool)}
end
section
variable{K0:List Nat}{ρ:Env}{H:ax}
end
section
variable{P:bm}{f:FuncId}{args args2:List V}{F F' F2 F2' G:ax}{r r2:V}{s:Nat->Bool}
end
section
variable{P:bm}{ρ:Env}{dst:Option Tmp}{ty:bJ}{pos:String}{aft:Array Edge}{gd:Option (Nat×Bool)}{x y:bE}{t t' k:Nat}{a:Nat->Nat}{i:Nat}
end
def omapH(mk:Nat->Option (Nat×Nat))(Z:ZM)(w:bG):List (List (V×V))->Prop
 |[]=>(∃b,mk 0=bc (b,0))/\∀L loc,mk L=bc loc->L=0
 |l::_=>∃(b:Nat)(es:Array MapEntry)(clock:Nat),mk 0=bc (b,1)/\w.heap[b]?=bc (.map es clock)/\zw0 Z l es.toList/\(es.toList.Pairwise λx y=>x.born<y.born)/\(∀e∈es.toList,e.born<clock)/\(∀a x,Z a=bc x->a.block≠b)/\(∃L0,∀L loc,mk L=bc loc->L<=L0)
def zUx(mk:Nat->Option (Nat×Nat))(b:Nat):List (List (V×V))->Prop
 |[]=>False
 |_::_=>((mk 0).bind λloc=>if loc.2=0 then bh else bc loc.1)=bc b
def As(l:List (List (V×V))):zZv where
 holds:=λmk Z w=>omapH mk Z w l
 blks:=λmk b=>zUx mk b l
 some_:=λmk b h=>by
  cases l with
  |nil=>exact h.elim
  |cons x r =>
   have h:((mk 0).bind λloc=>if loc.2=0 then bh else bc loc.1)=bc b:=h;obtain⟨loc,e1,e2⟩:=du.1 h;split at e2
   ·cases e2
   ·rename_i hc;cases e2;exact⟨_,loc.2,e1,hc⟩
 own:=λmk Z w b h hb=>by
  cases l with
  |nil=>exact hb.elim
  |cons x r =>
   obtain⟨b',es,clock,h1,h2,_⟩:=h;have hb:((mk 0).bind λloc=>if loc.2=0 then bh else bc loc.1)=bc b:=hb;rw[h1]at hb;simp at hb;subst hb;exact⟨_,h2,rfl⟩
 keep:=λmk Z Z' w w' h hZ hb=>by
  cases l with
  |nil=>exact h
  |cons x r =>
   obtain⟨b',es,clock,h1,h2,h3,h4,h5,h6,h7⟩:=h
   have hbl:zUx mk b' (x::r):=by
    show((mk 0).bind λloc=>if loc.2=0 then bh else bc loc.1)=bc b'
    rw[h1];simp
   obtain⟨g1,g2⟩:=hb b' hbl;exact⟨b',es,clock,h1,g1.trans h2,h3.up hZ,h4,h5,λa y ha e=>h6 a y (g2 a y ha e) e,h7⟩
def zmk:GVal where
 rep:=λmk x=>∃loc,mk 0=bc loc/\x=.map (if loc.2=0 then bh else bc loc.1)
 mono:=λmk mk' x hm ⟨loc,h1,h2⟩=>⟨loc,hm 0 loc h1,h2⟩
 one:=λmk x h=>by
  obtain⟨loc,_,rfl⟩:=h;split<;>exact⟨rfl,rfl⟩
def ziv{m:M}{Z:ZM}{k b:Nat}{x:bu}(hb:m k 0=bc (b,1)):Rep (bc m) Z (.gv k zmk) x↔Rep (bc m) Z (.mp k) x:=by
 constructor
 ·rintro⟨f,hf,loc,h1,h2⟩
  cases hf;rw[hb]at h1;cases h1;exact⟨m,_,rfl,hb,h2⟩
 ·rintro⟨f,loc,hf,h1,h2⟩
  cases hf;rw[hb]at h1;cases h1;exact⟨m,rfl,_,hb,h2⟩
def zHo{m:M}{Z:ZM}{k b:Nat}{x:bu}(hb:m k 0=bc (b,0))(h:Rep (bc m) Z (.gv k zmk) x):x=.map bh:=by
 obtain⟨f,hf,loc,h1,h2⟩:=h;cases hf;rw[hb]at h1;cases h1;exact h2
section
variable{P:bm}{o:Oper}{ρ ρ2:Env}{k:Nat}{l l':List (V×V)}{v:V}
def zA6{m:M}{Z:ZM}{w:bG}(hs:wQ m Z [(k,.gen (As [l]))] w):wQ m Z [(k,.map l)] w :=
 ⟨hs.frozen,λp hp=>by
  cases msQ.1 hp
  exact hs.holds (k,.gen (As [l])) (msQ.2 rfl),hs.nodup,λp hp q hq b _ _=>by
  cases msQ.1 hp;cases msQ.1 hq
  rfl⟩
def zgc{m:M}{Z:ZM}{w:bG}(hs:wQ m Z [(k,.map l)] w):wQ m Z [(k,.gen (As [l]))] w :=
 ⟨hs.frozen,λp hp=>by
  cases msQ.1 hp
  exact hs.holds (k,.map l) (msQ.2 rfl),hs.nodup,λp hp q hq b _ _=>by
  cases msQ.1 hp;cases msQ.1 hq
  rfl⟩
def zHp(h:Loc P o ρ2 [(k,.map l)] v [(k,.map l')])(hv:∀x∈o.op.operands,∀(m:M)(Z:ZM)(y:bu)(b:Nat),m k 0=bc (b,1)->Rep (bc m) Z (evV ρ x) y->Rep (bc m) Z (evV ρ2 x) y):Loc P o ρ [(k,.gen (As [l]))] v [(k,.gen (As [l']))]:=by
 intro ρr m Z w hops hs hnew;obtain⟨b0,_,_,hb0,_⟩:=hs.holds _ (msQ.2 rfl);refine(h ρr m Z w (λx hx=>hv x hx m Z _ b0 hb0 (hops x hx)) (zA6 hs) hnew).mono ?_;rintro x w' ⟨m',Z',st,hr⟩;refine⟨m',Z',⟨zgc st.sim,st.mext,st.zext,st.os,st.tape,st.output,st.size,λb hb hn=>st.frame b hb λp hp=>?_,st.keep,st.newk,λp hp b hb=>?_,λa y ha=>?_⟩,hr⟩
 ·cases msQ.1 hp
  exact hn (k,.gen (As [l])) (msQ.2 rfl)
 ·cases msQ.1 hp
  refine(st.blks _ (msQ.2 rfl) b hb).imp id λ⟨q,hq,hb2⟩=>?_
  cases msQ.1 hq;exact⟨_,msQ.2 rfl,hb2⟩
 ·refine(st.znew a y ha).imp id (Or.imp id λ⟨q,hq,hb2⟩=>?_)
  cases msQ.1 hq;exact⟨_,msQ.2 rfl,hb2⟩
def zml{t d:Nat}{dst:Option Tmp}{ty:bJ}{pos:String}{aft:Array Edge}{gd:Option (Nat×Bool)}:Loc P ⟨dst,.makeMap t bh,ty,pos,aft,gd⟩ ρ [] (.gv d zmk) [(d,.gen (As [[]]))]:=by
 intro ρr m Z w hops hs hnew;refine(zbz (P:=P) (ρ:=ρ) ρr m Z w hops hs hnew).mono ?_;rintro x w' ⟨m',Z',st,hr⟩;refine⟨m',Z',⟨zgc st.sim,st.mext,st.zext,st.os,st.tape,st.output,st.size,st.frame,st.keep,st.newk,λp hp b hb=>?_,st.znew⟩,?_⟩
 ·cases msQ.1 hp
  exact st.blks _ (msQ.2 rfl) b hb
 ·obtain⟨b0,_,_,hb0,_⟩:=st.sim.holds _ (msQ.2 rfl)
  exact(ziv hb0).2 hr
end
section
variable{P:bm}{ρ:Env}{dst:Option Tmp}{ty t t':bJ}{pos:String}{aft:Array Edge}{gd:Option (Nat×Bool)}
def zqq{op:BinOp}{b:Bool}(hop:(op=.eql/\b=bf)∨(op=.neq/\b=bd))(ht:zz9 P t .nilm=bf){x:bE}{k:Nat}{D:List (List (V×V))}(hx:evV ρ x=.gv k zmk):
  Loc P ⟨dst,.binOp op t x (.const (.map bh)) t',ty,pos,aft,gd⟩ ρ [(k,.gen (As D))] (.bool (bif b then D.isEmpty else !D.isEmpty)) [(k,.gen (As D))]:=by
 intro ρr m Z w hops hs _;have hX:=hops x (by simp[Op.operands]);have hY:Rep (bc m) Z .nilm (ev ρr (.const (.map bh))):=rfl;rw[hx]at hX;have hH:=hs.holds _ (msQ.2 rfl)
 have hv:∃u,Rep (bc m) Z u (ev ρr x)/\zab P t u .nilm=bc D.isEmpty:=by
  cases D with
  |nil =>
   obtain⟨⟨b0,hb0⟩,_⟩:=hH;exact⟨.nilm,zHo hb0 hX,by simp[zab,ht,zf1,zG6]⟩
  |cons l r =>
   obtain⟨b0,_,_,hb0,_⟩:=hH;exact⟨.mp k,(ziv hb0).1 hX,by simp[zab,ht,zf1,zG6]⟩
 obtain⟨u,hu,hq⟩:=hv;have hr:=(Ha (P:=P) (w:=w) (dst:=dst) (t':=t') (ty:=ty) (pos:=pos) (aft:=aft) (gd:=gd) hu hY hq).1
 rcases hop with⟨rfl,rfl⟩|⟨rfl,rfl⟩
 ·exact⟨rfl,.inl ⟨_,w,hr.1,m,Z,Step.refl hs,rfl⟩⟩
 ·exact⟨rfl,.inl ⟨_,w,hr.2,m,Z,Step.refl hs,rfl⟩⟩
end
end Go.EV
namespace Go.EQ
open Go Go.RowKit Go.Eng Go.EV
inductive TC where
 |i (k:IntKind)
 |b
 |s
 |y
 |l (t:TC)
 |m (k e:TC)
 |st (n:Nat)
 |a (ti ts:Nat)
 deriving DecidableEq
def anyV(ti ts:Nat):Int⊕ak->V
 |.inl n=>.ifc ti (.int .i64 n)
 |.inr s=>.ifc ts (.str s)
def TC.ty(T:Nat->Type):TC->Type
 |.i _=>Int
 |.b=>Bool
 |.s=>ak
 |.y=>UInt8
 |.l t=>List (t.ty T)
 |.m k e=>List (k.ty T×e.ty T)
 |.st n=>T n
 |.a _ _=>Int⊕ak
def HL(T:Nat->Type):List TC->Type
 |[]=>Unit
 |[c]=>c.ty T
 |c::d::r=>c.ty T×HL T (d::r)
abbrev Dy(T:Nat->Type):=(c:TC)×c.ty T
structure Tab where
 T:Nat->Type
 dflt:(n:Nat)->T n
 fl:Nat->List TC
 cn:Nat->Nat
 out:(n:Nat)->T n->HL T (fl n)
 inj:(n:Nat)->HL T (fl n)->T n
 enc:(n:Nat)->T n->List V
 ro:Nat->EV.Obj
 go:Nat->(c:TC)->c.ty T->EV.Obj:=λ_ _ _=>.gen gone
 gl:Nat->Option (Nat×Nat×List ak):=λ_=>bh
 ga:Nat->Option (Nat×Dy T×List V):=λ_=>bh
 om:Bool:=bd
section
variable(S:Tab)
def zR:TC->Nat
 |.st n=>S.cn n
 |_=>1
def HU:(c:TC)->c.ty S.T->List V
 |.i k,n=>[.int k n]
 |.b,t=>[.bool t]
 |.s,x=>[.str x]
 |.y,x=>[.int .u8 (UInt8.toNat x)]
 |.l t,l=>[.vs (zR S t) (l.map (HU t))]
 |.m _ _,_=>[.undef]
 |.st n,x=>S.enc n x
 |.a ti ts,x=>[anyV ti ts x]
def vL:(c:TC)->c.ty S.T->V
 |.i k,n=>.int k n
 |.b,t=>.bool t
 |.s,x=>.str x
 |.y,x=>.int .u8 (UInt8.toNat x)
 |.l t,l=>.vs (zR S t) (l.map (HU S t))
 |.m _ _,_=>.undef
 |.st n,x=>.agg (S.enc n x)
 |.a ti ts,x=>anyV ti ts x
def zPk:(c:TC)->c.ty S.T
 |.i _=>(0:Int)
 |.b=>bd
 |.s=>([]:ak)
 |.y=>(0:UInt8)
 |.l _=>[]
 |.m _ _=>[]
 |.st n=>S.dflt n
 |.a _ _=>.inl (0:Int)
def zA7:(cs:List TC)->HL S.T cs->List V
 |[],_=>[]
 |[c],x=>HU S c x
 |c::d::r,x=>HU S c x.1++zA7 (d::r) x.2
structure Tab.OK:Prop where
 enc_out:∀n x,S.enc n x=zA7 S (S.fl n) (S.out n x)
 out_mk:∀n h,S.out n (S.inj n h)=h
 len:∀n x,(S.enc n x).length=S.cn n
 one:∀n x,(S.enc n x).all V.one=bf
 refs:∀n x,wP (S.enc n x)=[]
 ro0:S.ro 0=.gen gone
 rren:∀i σ,(S.ro i).ren σ=S.ro i
 rref:∀i,(S.ro i).refs=[]
 rfrz:∀i k,frz [(k,S.ro i)]=[(k,S.ro i)]
 gren:∀i c x σ,(S.go i c x).ren σ=S.go i c x:=by intros;rfl
 gref:∀i c x,(S.go i c x).refs=[]:=by intros;rfl
 gfrz:∀i c x k,frz [(k,S.go i c x)]=[(k,S.go i c x)]:=by intros;rfl
 gbox:∀t i d cs,S.ga t=bc (i,d,cs)->∀m Z w k,Holds m Z w k (.box t cs)->Holds m Z w k (S.go i d.1 d.2)/\∀b,blk m (k,S.go i d.1 d.2) b->blk m (k,.box t cs) b:=by intro t i d cs h;cases h
 ggl:∀i c x k,zUw (k,S.go i c x)=bd:=by intros;rfl
 glob:∀i g t l,S.gl i=bc (g,t,l)->∃ob,S.ro i=.glob g ob (l.map V.str):=by intro i g t l h;cases h
 gom:S.om=bf->∀(kc ec:TC)(x:List (List (kc.ty S.T×ec.ty S.T))),S.go 7 (.l (.m kc ec)) x=.gen (As (x.map (ze4 (vL S kc) (vL S ec)))):=by intro h;cases h
end
inductive A(T:Nat->Type) where
 |raw (v:V)
 |dat (c:TC) (x:c.ty T)
 |ag (cs:List (A T))
 |tup (xs:List (A T))
 |rh (sz k n:Nat)
 |oh (k:Nat)
 |nh (sz k n:Nat)
 |rp (k L i off sz:Nat)
 |vp (c:TC) (x:c.ty T) (off:Nat)
 |fn (f:Nat) (first caps:List (A T))
 |ifc (t:Nat) (a:A T)
section
variable{S:Tab}
mutual
def A.v:A S.T->V
 |.raw v=>v
 |.dat c x=>vL S c x
 |.ag cs=>.agg (A.vs cs)
 |.tup xs=>.tup (A.vs xs)
 |.rh sz k n=>.sl sz k n 0 n
 |.oh k=>.gv k zmk
 |.nh sz k n=>.gv k (zL1 sz n)
 |.rp k L i off sz=>.ptr k L (i*sz+off)
 |.vp c x off=>.vp (HU S c x) off
 |.fn f a b=>.fn f (A.vs a) (A.vs b)
 |.ifc t a=>.ifc t a.v
def A.vs:List (A S.T)->List V
 |[]=>[]
 |a::r=>a.v::A.vs r
end
def of1:V->A S.T
 |.int k n=>.dat (.i k) n
 |.bool t=>.dat .b t
 |.str x=>.dat .s x
 |v=>.raw v
def ofV:V->A S.T
 |.agg cs=>.ag (cs.map of1)
 |v=>of1 v
def zUy(v:V):(of1 (S:=S) v).v=v:=by cases v<;>simp[of1,A.v,vL]
def zgd:∀l:List V,A.vs (l.map (of1 (S:=S)))=l
 |[]=>by simp[A.vs]
 |v::l=>by rw[mk9,A.vs,zUy,zgd l]
def zA8(v:V):(ofV (S:=S) v).v=v:=by
 cases v<;>first|(rw[ofV,A.v,zgd];done)|simp[ofV,of1,A.v,vL]
def wG:∀l:List (A S.T),A.vs l=l.map A.v
 |[]=>by simp[A.vs]
 |a::l=>by rw[A.vs,wG l,mk9]
def qN(l:List (A S.T)):(A.vs l).length=l.length:=by rw[wG,bN]
def JS(a b:List (A S.T)):A.vs (a++b)=A.vs a++A.vs b:=by simp only[wG,bO]
end
inductive Fz where
 |zero
 |all
 |pre (n:Nat)
def Fz.n(L:Nat):Fz->Nat
 |.zero=>0
 |.all=>L
 |.pre n=>n
structure LenOf{α:Type}(l:List α) where
 n:Nat
 h:l.length=n
inductive OA(T:Nat->Type) where
 |box (t:Nat) (cs:List (A T))
 |row (e:Nat) (c:TC) (fz:Fz) (l:List (c.ty T)) (w:LenOf l)
 |map (kc ec:TC) (l:List (kc.ty T×ec.ty T))
 |rw(i:Nat)
 |gn (i:Nat) (c:TC) (x:c.ty T)
abbrev AE(T:Nat->Type):=List (Nat×A T)
abbrev AH(T:Nat->Type):=List (Nat×OA T)
section
variable{S:Tab}
def OA.o:OA S.T->EV.Obj
 |.box t cs=>.box t (A.vs cs)
 |.row e c fz l _=>.row e (zR S c) (fz.n l.length) (l.map (HU S c))
 |.map kc ec l=>.map (ze4 (vL S kc) (vL S ec) l)
 |.rw i=>S.ro i
 |.gn i c x=>S.go i c x
def eV(E:AE S.T):Env:=E.map λp=>(p.1,p.2.v)
def hV(H:AH S.T):ax:=H.map λp=>(p.1,p.2.o)
def AE.get:AE S.T->Nat->A S.T
 |[],_=>.raw .undef
 |(d,a)::r,t=>bif bk t d then a else AE.get r t
def AH.get:AH S.T->Nat->Option (OA S.T)
 |[],_=>bh
 |(k,o)::r,j=>bif bk j k then bc o else AH.get r j
def AH.set:AH S.T->Nat->OA S.T->AH S.T
 |[],_,_=>[]
 |(k',o')::r,k,o=>bif bk k k' then(k',o)::r else(k',o')::AH.set r k o
def AH.has(k:Nat):AH S.T->Bool
 |[]=>bd
 |(k',_)::r=>bif bk k k' then bf else AH.has k r
def JT(E:AE S.T)(t:Nat):(eV E).get t=(E.get t).v:=by
 induction E with
 |nil=>simp[eV,Env.get,AE.get,A.v]
 |cons p r ih =>
  obtain⟨d,a⟩:=p;simp only[eV,mk9,Env.get,AE.get]at ih ⊢
  cases bk t d with
  |true=>rfl
  |false=>exact ih
def KB(H:AH S.T)(k:Nat):(hV H).get k=(H.get k).map OA.o:=by
 induction H with
 |nil=>rfl
 |cons p r ih =>
  obtain⟨d,a⟩:=p;simp only[hV,mk9,ax.get,AH.get]at ih ⊢
  cases bk k d with
  |true=>rfl
  |false=>exact ih
def zA9(H:AH S.T):keys (hV H)=H.map (·.1):=by simp[keys,hV]
def zUz(a b:AH S.T):hV (a++b)=hV a++hV b:=by simp[hV]
def oK(H:AH S.T)(k:Nat):kv k (hV H)=H.has k:=by
 induction H with
 |nil=>rfl
 |cons p r ih =>
  obtain⟨d,a⟩:=p;simp only[hV,mk9,kv,AH.has]at ih ⊢
  cases bk k d with
  |true=>rfl
  |false=>exact ih
def zL8(H:AH S.T)(k:Nat)(o:OA S.T):hV (H.set k o)=(hV H).set k o.o:=by
 induction H with
 |nil=>rfl
 |cons p r ih =>
  obtain⟨d,a⟩:=p;simp only[hV,mk9,ax.set,AH.set]at ih ⊢
  cases bk k d with
  |true=>rfl
  |false=>simp only[cf,mk9,ih]
def zU0:V->A S.T
 |.bool b=>.raw (.bool b)
 |v=>ofV v
def zL9(v:V):(zU0 (S:=S) v).v=v:=by
 unfold zU0;split
 ·simp[A.v]
 ·exact zA8 _
def evA(E:AE S.T):bE->A S.T
 |.tmp t=>E.get t
 |.const v=>zU0 (ofC v)
 |.global _=>.raw .undef
 |.func f=>.fn f [] []
def zY(E:AE S.T)(x:bE):evV (eV E) x=(evA E x).v:=by
 cases x with
 |tmp t=>exact JT E t
 |const v=>exact(zL9 _).symm
 |global g=>simp[evV,evA,A.v]
 |func f=>simp[evV,evA,A.v,A.vs]
end
inductive Pg:Type->Type 1 where
 |fail {R:Type}:Pg R
 |ret {R:Type} (o:Option R):Pg R
 |bnd {R α:Type} (o:Option α) (k:α->Pg R):Pg R
 |cnd {R:Type} (b:Bool) (x y:Pg R):Pg R
 |jn {R S:Type} (p:Pg S) (k:S->Pg R):Pg R
 |jr {R R0 S:Type} (p:Pg (R0⊕S)) (l:R0->Option R) (k:S->Pg R):Pg R
 |eqn {R α:Type} (a b:α) (p:Pg R):Pg R
 |orr {R α:Type} (o:Option α) (l:α->Pg R) (k:Pg R):Pg R
 |lp {R R0 X:Type} (p:X->Pg R0) (f:X->Option R0) (k:Pg R):Pg R
def wq{R0 S R:Type}(l:R0->Option R)(k:S->Option R):R0⊕S->Option R
 |.inl r=>l r
 |.inr s=>k s
def orC{α R:Type}(o:Option α)(l:α->Option R)(k:Option R):Option R:=match o with
 |some a=>l a
 |none=>k
def Pg.run:{R:Type}->Pg R->Option R
 |_,.fail=>bh
 |_,.ret o=>o
 |_,.bnd o k=>o.bind λa=>(k a).run
 |_,.cnd b x y=>bif b then x.run else y.run
 |_,.jn p k=>p.run.bind λs=>(k s).run
 |_,.jr p l k=>p.run.bind (wq l λs=>(k s).run)
 |_,.eqn _ _ p=>p.run
 |_,.orr o l k=>orC o (λa=>(l a).run) k.run
 |_,.lp _ _ k=>k.run
def Pg.ob:{R:Type}->Pg R->Prop
 |_,.fail=>True
 |_,.ret _=>True
 |_,.bnd _ k=>∀a,(k a).ob
 |_,.cnd _ x y=>x.ob/\y.ob
 |_,.jn p k=>p.ob/\∀s,(k s).ob
 |_,.jr p _ k=>p.ob/\∀s,(k s).ob
 |_,.eqn a b p=>a=b/\p.ob
 |_,.orr _ l k=>(∀a,(l a).ob)/\k.ob
 |_,.lp p f k=>(∀x,(p x).run=f x/\(p x).ob)/\k.ob
inductive Tr:Type 1 where
 |nil
 |all {α:Type} (f:α->Tr)
 |two (x y:Tr)
 |note {α:Type} (a:α) (t:Tr)
def Pg.tr(t:Bool):{R:Type}->Pg R->Tr
 |_,.fail=>.nil
 |_,.ret _=>.nil
 |_,.bnd _ k=>.all λa=>(k a).tr t
 |_,.cnd _ x y=>.two (x.tr t) (y.tr t)
 |_,.jn p k=>.two (p.tr t) (.all λs=>(k s).tr t)
 |_,.jr p _ k=>.two (p.tr t) (.all λs=>(k s).tr t)
 |_,.eqn a b p=>.note (bif t then a else b) (p.tr t)
 |_,.orr _ l k=>.two (.all λa=>(l a).tr t) (k.tr t)
 |_,.lp p f k=>.two (.all λx=>.note (bif t then(p x).run else f x) ((p x).tr t)) (k.tr t)
def wU:{R:Type}->(p:Pg R)->p.tr bf=p.tr bd->p.ob
 |_,.fail,_=>trivial
 |_,.ret _,_=>trivial
 |_,.bnd _ k,h=>λa=>wU (k a) (by
   simp only[Pg.tr,Tr.all.injEq,heq_eq_eq,true_and]at h
   exact congrFun h a)
 |_,.cnd _ x y,h=>by
   simp only[Pg.tr,Tr.two.injEq]at h;exact⟨wU x h.1,wU y h.2⟩
 |_,.jn p k,h=>by
   simp only[Pg.tr,Tr.two.injEq,Tr.all.injEq,heq_eq_eq,true_and]at h;exact⟨wU p h.1,λs=>wU (k s) (congrFun h.2 s)⟩
 |_,.jr p _ k,h=>by
   simp only[Pg.tr,Tr.two.injEq,Tr.all.injEq,heq_eq_eq,true_and]at h;exact⟨wU p h.1,λs=>wU (k s) (congrFun h.2 s)⟩
 |_,.eqn a b p,h=>by
   simp only[Pg.tr,Tr.note.injEq,heq_eq_eq,true_and,ctQ,cf]at h;exact⟨h.1,wU p h.2⟩
 |_,.orr _ l k,h=>by
   simp only[Pg.tr,Tr.two.injEq,Tr.all.injEq,heq_eq_eq,true_and]at h;exact⟨λa=>wU (l a) (congrFun h.1 a),wU k h.2⟩
 |_,.lp p f k,h=>by
   simp only[Pg.tr,Tr.two.injEq,Tr.all.injEq,heq_eq_eq,true_and]at h;refine⟨λx=>?_,wU k h.2⟩;have h1:=congrFun h.1 x;simp only[Tr.note.injEq,heq_eq_eq,true_and,ctQ,cf]at h1;exact⟨h1.1,wU (p x) h1.2⟩
def Pg.Is{R:Type}(p:Pg R)(r:R):Prop:=p.run=bc r/\p.ob
section
variable{R:Type}{r:R}
def Is.ret{o:Option R}(h:(Pg.ret o).Is r):o=bc r:=h.1
def Is.fail(h:(Pg.fail:Pg R).Is r):False:=by cases h.1
def Is.bnd{α:Type}{o:Option α}{k:α->Pg R}(h:(Pg.bnd o k).Is r):∃a,o=bc a/\(k a).Is r:=by
 obtain⟨h1,h2⟩:=h;obtain⟨a,e,h3⟩:=du.1 h1;exact⟨a,e,h3,h2 a⟩
def Is.cnd{b:Bool}{x y:Pg R}(h:(Pg.cnd b x y).Is r):(b=bf->x.Is r)/\(b=bd->y.Is r):=by
 obtain⟨h1,h2,h3⟩:=h;exact⟨λe=>by subst e;exact⟨h1,h2⟩,λe=>by subst e;exact⟨h1,h3⟩⟩
def Is.jn{S:Type}{p:Pg S}{k:S->Pg R}(h:(Pg.jn p k).Is r):∃s,p.Is s/\(k s).Is r:=by
 obtain⟨h1,h2,h3⟩:=h;obtain⟨s,e,h4⟩:=du.1 h1;exact⟨s,⟨e,h2⟩,h4,h3 s⟩
def Is.jr{R0 S:Type}{p:Pg (R0⊕S)}{l:R0->Option R}{k:S->Pg R}(h:(Pg.jr p l k).Is r):(∃q,p.Is (.inl q)/\l q=bc r)∨∃s,p.Is (.inr s)/\(k s).Is r:=by
 obtain⟨h1,h2,h3⟩:=h;obtain⟨z,e,h4⟩:=du.1 h1
 cases z with
 |inl q=>exact .inl ⟨q,⟨e,h2⟩,h4⟩
 |inr s=>exact .inr ⟨s,⟨e,h2⟩,h4,h3 s⟩
def Is.orr{α:Type}{o:Option α}{l:α->Pg R}{k:Pg R}(h:(Pg.orr o l k).Is r):(∃a,o=bc a/\(l a).Is r)∨(o=bh/\k.Is r):=by
 obtain⟨h1,h2,h3⟩:=h
 cases o with
 |some a=>exact .inl ⟨a,rfl,h1,h2 a⟩
 |none=>exact .inr ⟨rfl,h1,h3⟩
def Is.lp{R0 X:Type}{p:X->Pg R0}{f:X->Option R0}{k:Pg R}(h:(Pg.lp p f k).Is r):(∀x z,f x=bc z->(p x).Is z)/\k.Is r :=
 ⟨λx z e=>⟨(h.2.1 x).1.trans e,(h.2.1 x).2⟩,h.1,h.2.2⟩
def Is.eqn{α:Type}{a b:α}{p:Pg R}(h:(Pg.eqn a b p).Is r):a=b/\p.Is r:=⟨h.2.1,h.1,h.2.2⟩
end
inductive Tp where
 |nilp|nils|nilf|nilm|nili|no|und
 |d (c:TC) (j:Nat)
 |ptr (k off:Nat)
 |mp (k:Nat)
 |row (sz k:Nat)
 |om (k:Nat)
 |nrow (sz k:Nat)
 |ci (k:IntKind) (n:Int)
 |ag (l:List Tp)
 |tup (l:List Tp)
 |fn (f:Nat) (a b:List Tp)
 |ifc (t:Nat) (a:Tp)
inductive TO where
 |box (t:Nat) (cs:List Tp)
 |row (e:Nat) (c:TC) (j:Nat) (fz:Bool)
 |map (kc ec:TC) (j:Nat)
 |rw(i:Nat)
 |gn (i:Nat) (c:TC) (j:Nat)
structure Tm where
 sl:List (Nat×Tp)
 hp:List (Nat×TO)
 cs:List TC
 vs:List TC
section
variable{S:Tab}
def zac(ds:List (Dy S.T))(j:Nat)(c:TC):c.ty S.T :=
 match ds[j]? with
 |some ⟨c',x⟩=>if h:c'=c then h▸x else zPk S c
 |none=>zPk S c
def yT:(cs:List TC)->HL S.T cs->List (Dy S.T)
 |[],_=>[]
 |[c],x=>[⟨c,x⟩]
 |c::d::r,x=>⟨c,x.1⟩::yT (d::r) x.2
def zts:∀(cs:List TC)(x:HL S.T cs),(yT cs x).length=cs.length
 |[],_=>rfl
 |[c],x=>rfl
 |c::d::r,x=>by simp only[yT,lc,zts (d::r) x.2]
def zTr(ds:List (Dy S.T)):List (Nat×TO)->Nat->Nat
 |[],_=>0
 |(k',.row _ c j _)::r,k=>bif bk k k' then(zac ds j (.l c):List (c.ty S.T)).length else zTr ds r k
 |_::r,k=>zTr ds r k
mutual
def Tp.put(hp:List (Nat×TO))(ds:List (Dy S.T)):Tp->A S.T
 |.nilp=>.raw .nilp
 |.nils=>.raw .nils
 |.nilf=>.raw .nilf
 |.nilm=>.raw .nilm
 |.nili=>.raw .nili
 |.no=>.raw .no
 |.und=>.raw .undef
 |.d c j=>.dat c (zac ds j c)
 |.ptr k off=>.raw (.ptr k 0 off)
 |.mp k=>.raw (.mp k)
 |.row sz k=>.rh sz k (zTr ds hp k)
 |.om k=>.oh k
 |.nrow sz k=>.nh sz k (zTr ds hp k)
 |.ci k n=>.dat (.i k) n
 |.ag l=>.ag (Tp.puts hp ds l)
 |.tup l=>.tup (Tp.puts hp ds l)
 |.fn f a b=>.fn f (Tp.puts hp ds a) (Tp.puts hp ds b)
 |.ifc t a=>.ifc t (a.put hp ds)
def Tp.puts(hp:List (Nat×TO))(ds:List (Dy S.T)):List Tp->List (A S.T)
 |[]=>[]
 |t::r=>t.put hp ds::Tp.puts hp ds r
end
def TO.put(hp:List (Nat×TO))(ds:List (Dy S.T)):TO->OA S.T
 |.box t cs=>.box t (Tp.puts hp ds cs)
 |.row e c j fz=>.row e c (bif fz then .all else .zero) (zac ds j (.l c)) ⟨_,rfl⟩
 |.map kc ec j=>.map kc ec (zac ds j (.m kc ec))
 |.rw i=>.rw i
 |.gn i c j=>.gn i c (zac ds j c)
def oa(hp:List (Nat×TO))(ds:List (Dy S.T)):AH S.T:=hp.map λp=>(p.1,p.2.put hp ds)
def zlr(hp:List (Nat×TO))(sl:List (Nat×Tp))(ds:List (Dy S.T)):AE S.T:=sl.map λp=>(p.1,p.2.put hp ds)
structure Rx(α:Type) where
 x:α
 fz:List Nat
 eq:List (Nat×Nat)
def nilsC:(c:TC)->Option (Rx (c.ty S.T))
 |.l _=>bc ⟨([]:List _),[],[]⟩
 |_=>bh
def zTs(H:AH S.T)(sz k n:Nat):(c:TC)->Option (Rx (c.ty S.T))
 |.l t=>match H.get k with
  |some (.row _ t' _ l w)=>if h:t'=t then bif bk sz (zR S t)then bc ⟨(h▸l:List (t.ty S.T)),[k],[(n,w.n)]⟩else bh else bh
  |_=>bh
 |_=>bh
def boolC(b:Bool):(c:TC)->Option (Rx (c.ty S.T))
 |.b=>bc ⟨b,[],[]⟩
 |_=>bh
def ifcC(t:Nat)(a:A S.T):(c:TC)->Option (Rx (c.ty S.T))
 |.a ti ts=>match a with
  |.dat .s x=>bif bk t ts then bc ⟨.inr x,[],[]⟩else bh
  |.dat (.i .i64) n=>bif bk t ti then bc ⟨.inl n,[],[]⟩else bh
  |_=>bh
 |_=>bh
def zfe(H:AH S.T)(c:TC):A S.T->Option (Rx (c.ty S.T))
 |.dat c' x=>if h:c'=c then bc ⟨h▸x,[],[]⟩else bh
 |.raw .nils=>nilsC c
 |.raw (.bool b)=>boolC b c
 |.rh sz k n=>zTs H sz k n c
 |.nh sz k n=>zTs H sz k n c
 |.ifc t a=>ifcC t a c
 |_=>bh
mutual
/-- One datum at the head of these cells. -/
def YQ(H:AH S.T):Nat->(c:TC)->List (A S.T)->Option (Rx (c.ty S.T)×List (A S.T))
 |0,_,_=>bh
 |f+1,.st m,cs=>match zmm H f (S.fl m) cs with
  |some (⟨h,fz,eq⟩,r)=>bc (⟨S.inj m h,fz,eq⟩,r)
  |none=>bh
 |_+1,c,a::r=>match zfe H c a with
  |some rx=>bc (rx,r)
  |none=>bh
 |_+1,_,[]=>bh
def zmm(H:AH S.T):Nat->(cs:List TC)->List (A S.T)->Option (Rx (HL S.T cs)×List (A S.T))
 |0,_,_=>bh
 |_+1,[],asZ=>bc (⟨(),[],[]⟩,asZ)
 |f+1,[c],asZ=>YQ H f c asZ
 |f+1,c::d::r,asZ=>match YQ H f c asZ with
  |some (⟨x,fz,eq⟩,as')=>match zmm H f (d::r) as' with
   |some (⟨y,fz',eq'⟩,as'')=>bc (⟨(x,y),fz++fz',eq++eq'⟩,as'')
   |none=>bh
  |none=>bh
end
def zBa(H:AH S.T)(cs:List (A S.T)):(c:TC)->Option (Rx (c.ty S.T))
 |.st m=>match YQ H 64 (.st m) cs with
  |some (rx,[])=>bc rx
  |_=>bh
 |_=>bh
def Zy(H:AH S.T)(c:TC)(a:A S.T):Option (Rx (c.ty S.T)):=match zfe H c a with
 |some rx=>bc rx
 |none=>match a with
  |.ag cs=>zBa H cs c
  |_=>bh
structure Rd(T:Nat->Type) where
 ps:List (Nat×Dy T):=[]
 ns:List (Nat×Nat):=[]
 fz:List Nat:=[]
 eq:List (Nat×Nat):=[]
def Rd.app{T:Nat->Type}(a b:Rd T):Rd T:=⟨a.ps++b.ps,a.ns++b.ns,a.fz++b.fz,a.eq++b.eq⟩
def zHq:List (Nat×TO)->Nat->Option (TC×Nat)
 |[],_=>bh
 |(k',.row _ c j _)::r,k=>bif bk k k' then bc (c,j)else zHq r k
 |_::r,k=>zHq r k
def ieqB(a b:Int):Bool:=decide (a=b)
def zPl{a b:Int}(h:ieqB a b=bf):a=b:=aY h
def boolX(b:Bool):(c:TC)->Option (c.ty S.T)
 |.b=>bc b
 |_=>bh
def datX(c:TC):A S.T->Option (c.ty S.T)
 |.dat c' x=>if h:c'=c then bc (h▸x)else bh
 |.raw (.bool b)=>boolX b c
 |_=>bh
mutual
/-- Reads a value; ex: asZ it is, no row seen asZ data. -/
def Tp.read(hp:List (Nat×TO))(ex:Bool)(H:AH S.T):Tp->A S.T->Option (Rd S.T)
 |.d c j,a=>bif ex then(match datX c a with
   |some x=>bc ⟨[(j,⟨c,x⟩)],[],[],[]⟩
   |none=>bh)
  else match Zy H c a with
   |some rx=>bc ⟨[(j,⟨c,rx.x⟩)],[],rx.fz,rx.eq⟩
   |none=>bh
 |.nilp,.raw .nilp=>bc {}
 |.nils,.raw .nils=>bc {}
 |.nilf,.raw .nilf=>bc {}
 |.nilm,.raw .nilm=>bc {}
 |.nili,.raw .nili=>bc {}
 |.no,.raw .no=>bc {}
 |.ptr k off,.raw (.ptr k' 0 off')=>bif bk off off' then bc { ns:=[(k,k')] }else bh
 |.mp k,.raw (.mp k')=>bc { ns:=[(k,k')] }
 |.row sz k,.rh sz' k' n=>match H.get k',zHq hp k with
  |some (.row _ _ _ _ w),bc _=>bif bk sz sz' then bc { ns:=[(k,k')],eq:=[(n,w.n)] }else bh
  |_,_=>bh
 |.nrow sz k,.nh sz' k' n=>match H.get k',zHq hp k with
  |some (.row _ _ _ _ w),bc _=>bif bk sz sz' then bc { ns:=[(k,k')],eq:=[(n,w.n)] }else bh
  |_,_=>bh
 |.om k,.oh k'=>bc { ns:=[(k,k')] }
 |.ci k n,.dat (.i k') m=>bif decide (k'=k)&&ieqB m n then bc {}else bh
 |.ag l,.ag l'=>Tp.reads hp ex H l l'
 |.tup l,.tup l'=>Tp.reads hp bf H l l'
 |.fn f a b,.fn f' a' b'=>bif bk f f' then
   match Tp.reads hp bf H a a' with
   |some r=>match Tp.reads hp bf H b b' with
    |some r'=>bc (r.app r')
    |none=>bh
   |none=>bh
  else bh
 |.ifc t a,.ifc t' a'=>bif bk t t' then a.read hp bf H a' else bh
 |_,_=>bh
def Tp.reads(hp:List (Nat×TO))(ex:Bool)(H:AH S.T):List Tp->List (A S.T)->Option (Rd S.T)
 |[],[]=>bc {}
 |t::r,a::r'=>match t.read hp ex H a with
  |some x=>match Tp.reads hp ex H r r' with
   |some y=>bc (x.app y)
   |none=>bh
  |none=>bh
 |_,_=>bh
end
def zHr:List (Nat×Nat)->Nat->Option Nat
 |[],_=>bh
 |(k,k')::r,j=>bif bk j k then bc k' else zHr r j
def fzB:Bool->Fz->Bool
 |true,.all=>bf
 |false,.zero=>bf
 |_,_=>bd
def TO.read(hp:List (Nat×TO))(H:AH S.T):TO->OA S.T->Option (Rd S.T)
 |.box t cs,.box t' cs'=>bif bk t t' then Tp.reads hp bf H cs cs' else bh
 |.row e c j fz,.row e' c' fz' l _=>bif bk e e'&&fzB fz fz' then
   if h:c'=c then bc { ps:=[(j,⟨.l c,(h▸l:List (c.ty S.T))⟩)] }else bh
  else bh
 |.rw i,.rw j=>bif bk i j then bc {}else bh
 |.gn i c j,.gn i' c' x=>bif bk i i' then(if h:c'=c then bc { ps:=[(j,⟨c,(h▸x:c.ty S.T)⟩)] }else bh)else bh
 |.map kc ec j,.map kc' ec' l=>if h:kc'=kc/\ec'=ec then bc { ps:=[(j,⟨.m kc ec,(h.1▸h.2▸l:List (kc.ty S.T×ec.ty S.T))⟩)] }else bh
 |_,_=>bh
def zff(hp:List (Nat×TO))(H:AH S.T):List (Nat×Nat)->List (Nat×TO)->Option (Rd S.T)
 |_,[]=>bc {}
 |ns,(k,o)::r=>match zHr ns k with
  |some k'=>match H.get k' with
   |some o'=>match o.read hp H o' with
    |some x=>match zff hp H (ns++x.ns) r with
     |some y=>bc (x.app y)
     |none=>bh
    |none=>bh
   |none=>bh
  |none=>bh
def pick(j:Nat)(c:TC):List (Nat×Dy S.T)->Option (c.ty S.T)
 |[]=>bh
 |(j',⟨c',x⟩)::r=>bif bk j j' then(if h:c'=c then bc (h▸x)else bh)else pick j c r
def zfg(ps:List (Nat×Dy S.T)):(j:Nat)->(cs:List TC)->Option (HL S.T cs)
 |_,[]=>bc ()
 |j,[c]=>pick j c ps
 |j,c::d::r=>match pick j c ps with
  |some x=>match zfg ps (j+1) (d::r)with
   |some y=>bc (x,y)
   |none=>bh
  |none=>bh
end
section
variable{S:Tab}
def ztt(n off:Nat):Option Nat->Bool
 |some k=>bk k n&&bk off 0
 |none=>bd
mutual
/-- What lies at cell off of a datum: one cell (none), or so many. -/
def atC:Nat->(c:TC)->c.ty S.T->Nat->Option Nat->Option (A S.T)
 |0,_,_,_,_=>bh
 |f+1,.st n,x,off,k=>bif ztt (S.cn n) off k then bc (.dat (.st n) x)else atL f (S.fl n) (S.out n x) off k
 |_+1,.m _ _,_,_,_=>bh
 |_+1,c,x,off,k=>bif bk off 0&&k.isNone then bc (.dat c x)else bh
def atL:Nat->(cs:List TC)->HL S.T cs->Nat->Option Nat->Option (A S.T)
 |0,_,_,_,_=>bh
 |_+1,[],_,_,_=>bh
 |f+1,[c],x,off,k=>bif cm (off+1) (zR S c)then atC f c x off k else bh
 |f+1,c::d::r,x,off,k=>bif cm (off+1) (zR S c)then atC f c x.1 off k else atL f (d::r) x.2 (off-zR S c) k
end
def atA(cs:List (A S.T))(off:Nat):Option Nat->Option (A S.T)
 |none=>match cs[off]? with|some a=>bif a.v.one then bc a else bh|none=>bh
 |some k=>bif cm (off+k) cs.length then bc (.ag ((cs.drop off).take k))else bh
mutual
/-- A datum asZ cells. -/
def zxk:Nat->(c:TC)->c.ty S.T->Option (List (A S.T))
 |0,_,_=>bh
 |f+1,.st n,x=>zBb f (S.fl n) (S.out n x)
 |_+1,.m _ _,_=>bh
 |_+1,c,x=>bc [.dat c x]
def zBb:Nat->(cs:List TC)->HL S.T cs->Option (List (A S.T))
 |0,_,_=>bh
 |_+1,[],_=>bc []
 |f+1,[c],x=>zxk f c x
 |f+1,c::d::r,x=>match zxk f c x.1 with
  |some u=>match zBb f (d::r) x.2 with
   |some v=>bc (u++v)
   |none=>bh
  |none=>bh
end
def A.cells:A S.T->Option (List (A S.T))
 |.dat c x=>zxk 64 c x
 |.ag cs=>bc cs
 |.raw .undef=>bh
 |.raw .no=>bh
 |.raw (.agg _)=>bh
 |a=>bc [a]
def zBc(places:List (Nat×Nat))(cells:List (A S.T)):List (Nat×A S.T)->Option (List (A S.T))
 |[]=>bc cells
 |(i,a)::rest=>match places[i]? with
  |none=>bh
  |some (off,size)=>match a.cells with
   |none=>bh
   |some u=>bif bk u.length size&&cm (off+size) cells.length then zBc places (cells.take off++u++cells.drop (off+size)) rest else bh
def zBd(hS:S.OK):∀(c:TC)(x:c.ty S.T),(∀k e,c≠.m k e)->(HU S c x).all V.one=bf
 |.i _,_,_=>rfl
 |.b,_,_=>rfl
 |.s,_,_=>rfl
 |.y,_,_=>rfl
 |.a _ _,x,_=>by cases x<;>rfl
 |.l _,_,_=>rfl
 |.m k e,_,h=>aU rfl (h k e)
 |.st n,x,_=>hS.one n x
def zHs:∀(c:TC)(x:c.ty S.T),(∀n,c≠.st n)->(∀k e,c≠.m k e)->HU S c x=[vL S c x]/\(vL S c x).one=bf/\zR S c=1
 |.i _,_,_,_=>⟨rfl,rfl,rfl⟩
 |.b,_,_,_=>⟨rfl,rfl,rfl⟩
 |.s,_,_,_=>⟨rfl,rfl,rfl⟩
 |.y,_,_,_=>⟨rfl,rfl,rfl⟩
 |.a _ _,x,_,_=>by cases x<;>exact⟨rfl,rfl,rfl⟩
 |.l _,_,_,_=>⟨rfl,rfl,rfl⟩
 |.m k e,_,_,h=>aU rfl (h k e)
 |.st n,_,h,_=>aU rfl (h n)
mutual
def zao(hS:S.OK):∀(f:Nat)(c:TC)(x:c.ty S.T)(cs:List (A S.T)),zxk f c x=bc cs->A.vs cs=HU S c x
 |0,_,_,_,h=>by cases h
 |f+1,.st n,x,cs,h=>by
  rw[zxk]at h;exact(ztu hS f _ _ _ h).trans (hS.enc_out n x).symm
 |_+1,.m _ _,_,_,h=>by cases h
 |_+1,.i _,x,cs,h=>by cases h;rfl
 |_+1,.b,x,cs,h=>by cases h;rfl
 |_+1,.s,x,cs,h=>by cases h;rfl
 |_+1,.y,x,cs,h=>by cases h;rfl
 |_+1,.a _ _,x,cs,h=>by cases h;rfl
 |_+1,.l _,x,cs,h=>by cases h;rfl
def ztu(hS:S.OK):∀(f:Nat)(l:List TC)(x:HL S.T l)(cs:List (A S.T)),zBb f l x=bc cs->A.vs cs=zA7 S l x
 |0,_,_,_,h=>by cases h
 |_+1,[],_,cs,h=>by cases h;rfl
 |f+1,[c],x,cs,h=>by
  rw[zBb]at h;exact zao hS f c x cs h
 |f+1,c::d::r,x,cs,h=>by
  rw[zBb]at h;split at h
  ·rename_i u hu
   split at h
   ·rename_i v hv
    cases h;rw[JS,zao hS f c x.1 u hu,ztu hS f (d::r) x.2 v hv];rfl
   ·cases h
  ·cases h
end
def A.cells_v(hS:S.OK){a:A S.T}{cs:List (A S.T)}(h:a.cells=bc cs):A.vs cs=a.v.cells/\a.v.plain=bf:=by
 cases a with
 |raw v=>cases v<;>first|(cases h;done)|(cases h;exact⟨rfl,rfl⟩)
 |dat c x =>
  have h1:=zao hS _ c x cs h
  cases c<;>first|(cases h;done)|exact⟨h1,rfl⟩|(cases x<;>exact⟨h1,rfl⟩)
 |ag l=>cases h;exact⟨rfl,rfl⟩
 |tup l=>cases h;exact⟨rfl,rfl⟩
 |rh=>cases h;exact⟨rfl,rfl⟩
 |oh=>cases h;exact⟨rfl,rfl⟩
 |nh=>cases h;exact⟨rfl,rfl⟩
 |rp=>cases h;exact⟨rfl,rfl⟩
 |vp=>cases h;exact⟨rfl,rfl⟩
 |fn=>cases h;exact⟨rfl,rfl⟩
 |ifc=>cases h;exact⟨rfl,rfl⟩
def Part(cs:List V)(off:Nat)(k:Option Nat)(v:V):Prop:=match k with
 |none=>cs[off]?=bc v/\v.one=bf
 |some k=>off+k<=cs.length/\v=.agg ((cs.drop off).take k)
def Part.left{cs ds:List V}{off:Nat}{k:Option Nat}{v:V}(h:Part cs off k v):Part (cs++ds) off k v:=by
 cases k with
 |none =>
  have:=(bw.1 h.1).1;exact⟨by rw[List.getElem?_append_left this];exact h.1,h.2⟩
 |some k =>
  have h1:off+k<=cs.length:=h.1;refine⟨by rw[la];omega,?_⟩;rw[h.2,List.drop_append_of_le_length ab,List.take_append_of_le_length (by rw[cz];omega)]
def Part.right{cs ds:List V}{off:Nat}{k:Option Nat}{v:V}(ho:cs.length<=off)(h:Part ds (off-cs.length) k v):Part (cs++ds) off k v:=by
 cases k with
 |none=>exact⟨by rw[List.getElem?_append_right ho];exact h.1,h.2⟩
 |some k =>
  have h1:off-cs.length+k<=ds.length:=h.1;refine⟨by rw[la];omega,?_⟩;rw[h.2,List.drop_append,List.drop_eq_nil_of_le ho,bM]
def Part.at{P:bm}{t off:Nat}{cs:List V}{k:Option Nat}{v:V}(hk:oI P t=bc k)(h:Part cs off k v):atV P t cs off=bc v:=by
 unfold atV;rw[hk]
 cases k with
 |none=>simp only[h.1,h.2,if_true]
 |some k=>simp only[show cm (off+k) cs.length=bf from dX h.1,if_true,h.2]
def jb(hS:S.OK):∀(c:TC)(x:c.ty S.T),(HU S c x).length=zR S c
 |.i _,_=>rfl
 |.b,_=>rfl
 |.s,_=>rfl
 |.y,_=>rfl
 |.a _ _,_=>rfl
 |.l _,_=>rfl
 |.m _ _,_=>rfl
 |.st n,x=>hS.len n x
def QD(c:TC)(x:c.ty S.T)(h1:∀n,c≠.st n)(h2:∀k e,c≠.m k e){off:Nat}{k:Option Nat}{a:A S.T}(h:(bif bk off 0&&k.isNone then bc (A.dat c x)else bh)=bc a):Part (HU S c x) off k a.v:=by
 cases hb:bk off 0&&k.isNone with
 |false=>rw[hb]at h;cases h
 |true =>
  rw[hb]at h;cases h;simp only[bn]at hb;have h0:=eb hb.1;subst h0;obtain⟨e1,e2,_⟩:=zHs c x h1 h2
  cases k with
  |none=>exact⟨by rw[e1];rfl,e2⟩
  |some k=>simp at hb
mutual
def Wv(hS:S.OK):∀(f:Nat)(c:TC)(x:c.ty S.T)(off:Nat)(k:Option Nat)(a:A S.T),atC f c x off k=bc a->Part (HU S c x) off k a.v
 |0,_,_,_,_,_,h=>by cases h
 |f+1,.st n,x,off,k,a,h=>by
  change (bif ztt (S.cn n) off k then bc (A.dat (.st n) x)else atL f (S.fl n) (S.out n x) off k)=bc a at h
  cases hb:ztt (S.cn n) off k with
  |true =>
   rw[hb]at h;cases h
   cases k with
   |none=>cases hb
   |some k =>
    simp only[ztt,bn]at hb;have h0:=eb hb.1;have h1:=eb hb.2;subst h0;subst h1;have hl:=hS.len n x;refine⟨?_,?_⟩
    ·show 0+S.cn n<=(S.enc n x).length
     omega
    ·show V.agg (S.enc n x)=.agg ((S.enc n x).drop 0 |>.take (S.cn n))
     rw[List.drop_zero,<- hl,List.take_length]
  |false =>
   rw[hb]at h;have:=ztv hS f _ _ _ _ _ h
   show Part (S.enc n x) off k a.v
   rw[hS.enc_out n x];exact this
 |_+1,.m _ _,_,_,_,_,h=>by cases h
 |_+1,.i _,x,off,k,a,h=>QD _ x (λ_ e=>by cases e) (λ_ _ e=>by cases e) h
 |_+1,.b,x,off,k,a,h=>QD _ x (λ_ e=>by cases e) (λ_ _ e=>by cases e) h
 |_+1,.y,x,off,k,a,h=>QD _ x (λ_ e=>by cases e) (λ_ _ e=>by cases e) h
 |_+1,.a _ _,x,off,k,a,h=>QD _ x (λ_ e=>by cases e) (λ_ _ e=>by cases e) h
 |_+1,.s,x,off,k,a,h=>QD _ x (λ_ e=>by cases e) (λ_ _ e=>by cases e) h
 |_+1,.l _,x,off,k,a,h=>QD _ x (λ_ e=>by cases e) (λ_ _ e=>by cases e) h
def ztv(hS:S.OK):∀(f:Nat)(l:List TC)(x:HL S.T l)(off:Nat)(k:Option Nat)(a:A S.T),atL f l x off k=bc a->Part (zA7 S l x) off k a.v
 |0,_,_,_,_,_,h=>by cases h
 |_+1,[],_,_,_,_,h=>by cases h
 |f+1,[c],x,off,k,a,h=>by
  rw[atL]at h
  cases hb:cm (off+1) (zR S c)with
  |true=>rw[hb]at h;exact Wv hS f c x off k a h
  |false=>rw[hb]at h;cases h
 |f+1,c::d::r,x,off,k,a,h=>by
  rw[atL]at h
  cases hb:cm (off+1) (zR S c)with
  |true=>rw[hb]at h;exact(Wv hS f c x.1 off k a h).left
  |false =>
   rw[hb]at h
   have hlt:zR S c<=off:=by
    have:¬off+1<=zR S c:=λh'=>by rw[dX h']at hb;cases hb
    omega
   refine Part.right (by rw[jb hS];exact hlt) ?_;rw[jb hS];exact ztv hS f (d::r) x.2 _ k a h
end
def ziw{cs:List (A S.T)}{off:Nat}{k:Option Nat}{a:A S.T}(h:atA cs off k=bc a):Part (A.vs cs) off k a.v:=by
 cases k with
 |none =>
  simp only[atA]at h;split at h
  ·rename_i b hb
   cases ho:b.v.one with
   |true =>
    rw[ho]at h;cases h;exact⟨by rw[wG,cK,hb];rfl,ho⟩
   |false=>rw[ho]at h;cases h
  ·cases h
 |some k =>
  simp only[atA]at h
  cases hb:cm (off+k) cs.length with
  |true =>
   rw[hb]at h;cases h;refine⟨by rw[qN];exact lb hb,?_⟩;simp only[A.v,wG,dN,eH]
  |false=>rw[hb]at h;cases h
def zqr(hS:S.OK)(places:List (Nat×Nat)):∀(parts:List (Nat×A S.T))(cells out:List (A S.T)),zBc places cells parts=bc out->zbv places (A.vs cells) (parts.map λp=>(p.1,p.2.v))=bc (A.vs out)
 |[],cells,out,h=>by cases h;rfl
 |(i,a)::rest,cells,out,h=>by
  simp only[zBc]at h;simp only[mk9,zbv];split at h
  ·cases h
  ·rename_i off size hp
   rw[hp];split at h
   ·cases h
   ·rename_i u hu
    obtain⟨e1,e2⟩:=A.cells_v hS hu
    cases hb:bk u.length size&&cm (off+size) cells.length with
    |false=>rw[hb]at h;cases h
    |true =>
     rw[hb]at h;have ih:=zqr hS places rest _ _ h;rw[JS,JS,wG (List.take off cells),wG (List.drop (off+size) cells),dN,eH,<- wG,e1]at ih;simp only[e2,<- e1,qN,hb,gP,if_true];rw[e1];exact ih
end
section
variable{S:Tab}
def zMa(P:bm)(s f:Nat):Option (Nat×Nat):=match P.underlying s with
 |some (.struct fs)=>match fs[f]? with
  |some fld=>bc (fld.type,fld.offset)
  |none=>bh
 |_=>bh
def zBe(P:bm)(t:Nat)(parts:List (Nat×A S.T)):Option (List (A S.T)) :=
 match P.info? t,P.underlying t with
 |some it,bc (.struct fields) =>
  match it.zero,fields.toList.mapM (λf=>(P.info? f.type).map λi=>(f.offset,i.size))with
  |some z,bc places=>zBc places ((z.cells.toList.map zte).map of1) parts
  |_,_=>bh
 |some it,bc (.array n e) =>
  match it.zero,P.info? e with
  |some z,bc ie=>zBc ((cQ n).map λi=>(i*ie.size,ie.size)) ((z.cells.toList.map zte).map of1) parts
  |_,_=>bh
 |_,_=>bh
def zHt(hS:S.OK){P:bm}{t:Nat}{parts:List (Nat×A S.T)}{cs:List (A S.T)}(h:zBe P t parts=bc cs):ztj P t (parts.map λp=>(p.1,p.2.v))=bc (A.vs cs):=by
 unfold zBe at h;unfold ztj;split at h
 ·rename_i it fields e1 e2
  rw[e1,e2];simp only;split at h
  ·rename_i z places e3 e4
   rw[e3,e4];have:=zqr hS _ _ _ _ h;rw[zgd]at this;exact this
  ·cases h
 ·rename_i it n e e1 e2
  rw[e1,e2];simp only;split at h
  ·rename_i z ie e3 e4
   rw[e3,e4];have:=zqr hS _ _ _ _ h;rw[zgd]at this;exact this
  ·cases h
 ·cases h
def zBf(P:bm)(s f:Nat)(a:A S.T):Option (A S.T):=match zMa P s f with
 |some (t,o)=>match oI P t with
  |some k=>match a with
   |.dat (.st n) x=>atC 64 (.st n) x o k
   |.ag cs=>atA cs o k
   |_=>bh
  |none=>bh
 |none=>bh
def zHu(hS:S.OK){P:bm}{s f:Nat}{a b:A S.T}(h:zBf P s f a=bc b):∃cs,a.v=.agg cs/\zl3 P s f cs=bc b.v:=by
 unfold zBf at h;split at h
 ·rename_i t o e1
  have e2:∀cs,zl3 P s f cs=atV P t cs o:=λcs=>by
   unfold zMa at e1;unfold zl3;split at e1
   ·split at e1
    ·rename_i fs e3 _ fld e4
     simp only[e3,e4];cases e1;rfl
    ·cases e1
   ·cases e1
  split at h
  ·rename_i k hk
   split at h
   ·exact⟨_,rfl,by rw[e2];exact(Wv hS _ _ _ _ _ _ h).at hk⟩
   ·exact⟨_,rfl,by rw[e2];exact(ziw h).at hk⟩
   ·cases h
  ·cases h
 ·cases h
def zmn:A S.T->Option (A S.T)
 |.raw (.ptr k L off)=>bc (.raw (.ptr k L off))
 |.raw (.fn f a b)=>bc (.raw (.fn f a b))
 |.vp c x off=>bc (.vp c x off)
 |.rp k L i off sz=>bc (.rp k L i off sz)
 |.fn f a b=>bc (.fn f a b)
 |_=>bh
def zge(P:bm)(s f:Nat)(a:A S.T):Option (A S.T):=match zal P s f with
 |some o=>match a with
  |.raw (.ptr k L off)=>bc (.raw (.ptr k L (off+o)))
  |.vp c x off=>bc (.vp c x (off+o))
  |.rp k L i off sz=>bc (.rp k L i (off+o) sz)
  |_=>bh
 |none=>bh
def zU1(P:bm)(t:Nat):A S.T->Option (A S.T)
 |.vp c x off=>match oI P t with
  |some k=>atC 64 c x off k
  |none=>bh
 |_=>bh
def lenA(P:bm)(t:Nat):A S.T->Option (A S.T)
 |.dat (.l c) l=>bif Wh P t then bc (.dat (.i .i64) ((bg (α:=c.ty S.T) l:Nat):Int))else bh
 |.dat .s l=>match P.underlying t with|some .string=>bc (.dat (.i .i64) ((bg (α:=UInt8) l:Nat):Int))|_=>bh
 |.rh _ _ n=>bif Wh P t then bc (.dat (.i .i64) ((n:Nat):Int))else bh
 |_=>bh
def zZy:A S.T->Bool
 |.raw .nilp=>bf
 |.raw .nils=>bf
 |.raw .nilf=>bf
 |.raw .nilm=>bf
 |.raw .nili=>bf
 |_=>bd
def stA(a b:A S.T)(v:V):A S.T:=bif zZy a||zZy b then .raw v else ofV v
def stA_v(a b:A S.T)(v:V):(stA a b v).v=v:=by
 unfold stA
 cases zZy a||zZy b with
 |true=>simp only[ctQ,A.v]
 |false=>exact zA8 v
def divB:BinOp->bE->Bool
 |.quo,.const _=>bd
 |.rem,.const _=>bd
 |.quo,_=>bf
 |.rem,_=>bf
 |.shl,.const _=>bd
 |.shr,.const _=>bd
 |.shl,_=>bf
 |.shr,_=>bf
 |_,_=>bd
def zPm(P:bm)(E:AE S.T):Op->Option (A S.T)
 |.move x=>bc (evA E x)
 |.assign x=>bc (evA E x)
 |.nilCheck x=>zmn (evA E x)
 |.extract x i=>match evA E x with|.tup xs=>xs[i]?|_=>bh
 |.makeFunc (.func f) a b=>bc (.fn f (a.toList.map (evA E)) (b.toList.map (evA E)))
 |.field s x f=>zBf P s f (evA E x)
 |.fieldAddr s x f=>zge P s f (evA E x)
 |.load t a=>zU1 P t (evA E a)
 |.build t parts=>match zBe P t (parts.toList.map λp=>(p.1,evA E p.2))with|some cs=>bc (.ag cs)|none=>bh
 |.call ⟨.builtin .len,args,ts⟩=>match args.toList,ts.toList with|[x],[t]=>lenA P t (evA E x)|_,_=>bh
 |.binOp op t x y t'=>bif divB op y then bh else match HZ P (eV E) (.binOp op t x y t')with|some v=>bc (stA (evA E x) (evA E y) v)|none=>bh
 |.unOp op t x=>match HZ P (eV E) (.unOp op t x)with|some v=>bc (ofV v)|none=>bh
 |.convert a b x=>match HZ P (eV E) (.convert a b x)with|some v=>bc (ofV v)|none=>bh
 |.pick a b x=>match evA E a with
  |.raw (.bool bf)=>bc (evA E b)
  |.raw (.bool bd)=>bc (evA E x)
  |_=>match HZ P (eV E) (.pick a b x)with|some v=>bc (ofV v)|none=>bh
 |.call ⟨.builtin b,args,ts⟩=>match HZ P (eV E) (.call ⟨.builtin b,args,ts⟩)with|some v=>bc (ofV v)|none=>bh
 |_=>bh
def zca(E:AE S.T)(l:List bE):l.map (evV (eV E))=A.vs (l.map (evA E)):=by
 rw[wG,cS]
 exact eG λx _=>zY E x
def zPn(a b:V):zqe bf a b=a:=by
 unfold zqe
 split<;>first|rfl|(split<;>rfl)
def zPo(a b:V):zqe bd a b=b:=by
 unfold zqe
 split<;>first|rfl|(split<;>first|rfl|(rename_i h;subst h;rfl))
def zPp(hS:S.OK){P:bm}{E:AE S.T}{op:Op}{a:A S.T}(h:zPm P E op=bc a):HZ P (eV E) op=bc a.v:=by
 unfold zPm at h;split at h
 ·cases h;exact aQ bc (zY E _)
 ·cases h;exact aQ bc (zY E _)
 ·rename_i x
  simp only[HZ,zY];unfold zmn at h
  split at h<;>first|(cases h;done)|(rename_i e;rw[e];cases h;rfl)
 ·rename_i x i
  simp only[HZ,zY];split at h
  ·rename_i xs e
   rw[e];simp only[A.v,wG,cK,h,Option.map_some]
  ·cases h
 ·rename_i f x y
  cases h;simp only[HZ,zca,A.v]
 ·rename_i s x f
  obtain⟨cs,e1,e2⟩:=zHu hS h;simp only[HZ,zY,e1,e2]
 ·rename_i s x f
  simp only[HZ,zY];unfold zge at h;split at h
  ·rename_i o e
   rw[e]
   split at h<;>first|(cases h;done)|(rename_i e';rw[e'];cases h;first|rfl|simp only[A.v,Nat.add_assoc])
  ·cases h
 ·rename_i t x
  simp only[HZ,zY];unfold zU1 at h;split at h
  ·rename_i c x off e
   rw[e];split at h
   ·rename_i k hk
    exact(Wv hS _ _ _ _ _ _ h).at hk
   ·cases h
  ·cases h
 ·rename_i t parts
  split at h
  ·rename_i cs e
   cases h;have:=zHt hS e;rw[cS]at this;simp only[HZ];rw[show(parts.toList.map λp=>(p.1,evV (eV E) p.2))=parts.toList.map ((λp:Nat×A S.T=>(p.1,p.2.v)) ∘ λp=>(p.1,evA E p.2)) from eG λp _=>by simp[zY],this];rfl
  ·cases h
 ·rename_i args ts
  split at h
  ·rename_i x t e1 e2
   simp only[HZ,e1,e2,mk9,cT,zY,biV];unfold lenA at h;split at h
   ·rename_i c l e
    rw[e]
    cases hb:Wh P t with
    |true =>
     rw[hb]at h;cases h;have hl:(cX (HU S c) l).length=bg (α:=c.ty S.T) l:=bN ..;simp only[zTn,A.v,vL,hb,if_true,hl]
    |false=>rw[hb]at h;cases h
   ·rename_i l e
    rw[e];split at h
    ·rename_i hb;cases h;simp[zTn,A.v,vL,hb]
    ·cases h
   ·rename_i n e
    rw[e]
    cases hb:Wh P t with
    |true=>rw[hb]at h;cases h;simp[zTn,A.v,vL,hb]
    |false=>rw[hb]at h;cases h
   ·cases h
  ·cases h
 ·rename_i op t x y t'
  cases hb:divB op y with
  |true=>rw[hb]at h;cases h
  |false =>
   rw[hb,cf]at h
   split at h<;>first|(cases h;done)|(rename_i e;cases h;rw[e,stA_v])
 rotate_left 2
 ·rename_i a b x
  split at h
  ·rename_i e
   cases h;simp only[HZ,zY,e,A.v,zPn]
  ·rename_i e
   cases h;simp only[HZ,zY,e,A.v,zPo]
  ·split at h<;>first|(cases h;done)|(rename_i e;cases h;rw[e,zA8])
 all_goals first|(split at h<;>first|(cases h;done)|(rename_i e;cases h;rw[e,zA8]))|(cases h;done)
end
section
variable{S:Tab}
inductive OR(S:Tab):Type 1 where
 |no
 |one (kF kR:List Nat) (a:A S.T) (F':AH S.T)
 |bnd {α:Type} (o:Option α) (kF kR:List Nat) (r:α->Option (A S.T×AH S.T))
 |eqs (l:List (Nat×Nat)) (r:OR S)
 |alt {α:Type} (o:Option α) (kF kR:List Nat) (r:α->Option (A S.T×AH S.T)) (k:OR S)
def OR.orAlt{S:Tab}:OR S->OR S->OR S
 |.eqs l q,k=>.eqs l (q.orAlt k)
 |.bnd o kF kR r,k=>.alt o kF kR r k
 |q,_=>q
def uz:List Nat->AH S.T->Option (AH S.T)
 |[],_=>bc []
 |k::r,H=>match H.get k with
  |some o=>match uz r H with
   |some F=>bc ((k,o)::F)
   |none=>bh
  |none=>bh
def OR.OK(P:bm)(o:Oper)(E:AE S.T)(H:AH S.T):OR S->Prop
 |.no=>True
 |.one kF kR a F'=>∀F R,uz kF H=bc F->uz kR H=bc R->EV.Loc P o (eV E) (hV F++hV R) a.v (hV F'++hV R)
 |.bnd o' kF kR r=>∀x,o'=bc x->∀a F',r x=bc (a,F')->∀F R,uz kF H=bc F->uz kR H=bc R->EV.Loc P o (eV E) (hV F++hV R) a.v (hV F'++hV R)
 |.eqs l r=>(∀p∈l,p.1=p.2)->r.OK P o E H
 |.alt o' kF kR r k=>(∀x,o'=bc x->∀a F',r x=bc (a,F')->∀F R,uz kF H=bc F->uz kR H=bc R->EV.Loc P o (eV E) (hV F++hV R) a.v (hV F'++hV R))/\k.OK P o E H
def ztw{S:Tab}{P:bm}{o:Oper}{E:AE S.T}{H:AH S.T}:∀{q k:OR S},q.OK P o E H->k.OK P o E H->(q.orAlt k).OK P o E H
 |.eqs l q,k,h1,h2=>λh=>ztw (q:=q) (h1 h) h2
 |.bnd o' kF kR r,k,h1,h2=>⟨h1,h2⟩
 |.no,k,h1,h2=>h1
 |.one ..,k,h1,h2=>h1
 |.alt ..,k,h1,h2=>h1
def wV{k:Nat}{H F:AH S.T}{o:OA S.T}(hg:H.get k=bc o)(h:uz [k] H=bc F):F=[(k,o)]:=by
 simp only[uz,hg]at h;exact(Option.some.inj h).symm
def zm{H F:AH S.T}(h:uz [] H=bc F):F=[]:=(Option.some.inj h).symm
abbrev dfl(c:TC):Inhabited (c.ty S.T):=⟨zPk S c⟩
def intOf:A S.T->Option (IntKind×Int)
 |.dat (.i k) n=>bc (k,n)
 |_=>bh
def kz{a:A S.T}{k:IntKind}{n:Int}(h:intOf a=bc (k,n)):a.v=.int k n:=by
 unfold intOf at h;split at h
 ·cases h;rfl
 ·cases h
def zMb(E:AE S.T):Option bE->Int->Option Int
 |none,d=>bc d
 |some x,_=>match intOf (evA E x)with|some (_,n)=>bc n|none=>bh
def zgf{E:AE S.T}{o:Option bE}{d i:Int}(h:zMb E o d=bc i):ztm (eV E) o d i:=by
 cases o with
 |none=>cases h;rfl
 |some x =>
  simp only[zMb]at h;split at h
  ·rename_i k n e
   cases h;exact⟨k,by rw[zY];exact kz e⟩
  ·cases h
def zPq(P:bm)(H:AH S.T)(t:Nat)(a:A S.T):OR S:=match oI P t with
 |none=>.no
 |some sh=>match a with
  |.raw (.ptr k 0 off)=>match H.get k with
   |some (.box _ cs)=>match atA cs off sh with
    |some b=>.one [] [k] b []
    |none=>.no
   |_=>.no
  |.rp k L i off sz=>match H.get k with
   |some (.row _ c _ l w)=>bif bk sz (zR S c)then .eqs [(L,w.n)] (.bnd (l[i]?) [] [k] λx=>match atC 64 c x off sh with|some b=>bc (b,[])|none=>bh)else .no
   |_=>.no
  |_=>.no
def zBg(P:bm)(H:AH S.T)(t:Nat)(a x:A S.T):OR S:=match x.cells with
 |none=>.no
 |some u=>match a with
  |.raw (.ptr k 0 off)=>match H.get k with
   |some (.box bt cs)=>bif (A.vs u).all V.one&&(H0 P t u.length&&cm (off+u.length) cs.length)then .one [k] [] (.raw .no) [(k,.box bt (cs.take off++u++cs.drop (off+u.length)))]else .no
   |_=>.no
  |.rp k L i off sz=>match H.get k with
   |some (.row e c .zero l w)=>bif bk sz (zR S c)&&(H0 P t u.length&&((A.vs u).all V.one&&x.v.refs.isEmpty))then
     .eqs [(L,w.n)] (.bnd (l[i]?) [k] [] λy=>match zxk 64 c y with
      |some cs=>match YQ (S:=S) [] 64 c (cs.take off++u++cs.drop (off+u.length))with
       |some (⟨z,_,_⟩,[])=>bif cm (off+u.length) sz then bc (.raw .no,[(k,.row e c .zero (l.set i z) ⟨w.n,by rw[dj];exact w.h⟩)])else bh
       |_=>bh
      |none=>bh)
     else .no
   |_=>.no
  |_=>.no
def YR(P:bm)(t:Nat)(a i:A S.T):OR S:=match J4 P t,intOf i with
 |some (_,sz),bc (_,n)=>match a with
  |.dat (.l c) l=>bif bk sz (zR S c)then .bnd (@idx (c.ty S.T) (dfl c) l n) [] [] λx=>bc (.vp c x 0,[])else .no
  |.rh sz' k m=>bif bk sz sz' then .bnd (grd (0<=n/\n<(m:Nat))) [] [] λ_=>bc (.rp k m (cg n) 0 sz,[])else .no
  |_=>.no
 |_,_=>.no
def zBh(P:bm)(t:Nat)(a i:A S.T):OR S:=match intOf i with
 |some (_,n)=>match a with
  |.dat .s l=>bif zL2 P t then .bnd (idx (α:=UInt8) l n) [] [] λx=>bc (.dat (.i .u8) ((x.toNat:Nat):Int),[])else .no
  |_=>.no
 |none=>.no
def zBi(P:bm)(E:AE S.T)(t:Nat)(a:A S.T)(lo hi:Option bE):OR S:=match a with
 |.dat .s l=>match zMb E lo 0,zMb E hi ((bg (α:=UInt8) l:Nat):Int)with
  |some x,bc y=>bif zL2 P t then .bnd (cut (α:=UInt8) l x y) [] [] λz=>bc (.dat .s z,[])else .no
  |_,_=>.no
 |.dat (.l c) l=>match J4 P t with
  |some (_,sz)=>match zMb E lo 0,zMb E hi ((bg (α:=c.ty S.T) l:Nat):Int)with
   |some x,bc y=>bif bk sz (zR S c)then .bnd (cut (α:=c.ty S.T) l x y) [] [] λz=>bc (.dat (.l c) z,[])else .no
   |_,_=>.no
  |none=>.no
 |.rh sz k n=>match J4 P t with
  |some (_,sz')=>match zMb E lo 0,zMb E hi ((n:Nat):Int)with
   |some x,bc y=>bif bk sz sz' then .bnd (grd (0<=x/\x<=y/\y<=(n:Nat))) [] [] λ_=>bc (.raw (.sl sz k n (cg x) (cg y-cg x)),[])else .no
   |_,_=>.no
  |none=>.no
 |_=>.no
section
variable{P:bm}{E:AE S.T}{H:AH S.T}{dst:Option Tmp}{ty:bJ}{pos:String}{aft:Array Edge}{gd:Option (Nat×Bool)}
def zHv(hS:S.OK){t:Nat}{x:bE}:(zPq P H t (evA E x)).OK P ⟨dst,.load t x,ty,pos,aft,gd⟩ E H:=by
 unfold zPq;split
 ·trivial
 ·rename_i sh hsh
  split
  ·rename_i k off e
   split
   ·rename_i bt cs hg
    split
    ·rename_i b hb
     intro F R hF hR;cases zm hF;cases wV hg hR;exact ztk (by rw[zY,e];rfl) ((ziw hb).at hsh)
    ·trivial
   ·trivial
  ·rename_i k L i off sz e
   split
   ·rename_i et c fz l wl hg
    cases hb:bk sz (zR S c)with
    |false=>trivial
    |true =>
     have hsz:=eb hb;subst hsz;intro heq y hy a F' hr F R hF hR;have hL:L=l.length:=(heq _ (msQ.2 rfl)).trans wl.h.symm;dsimp only at hr;split at hr
     ·rename_i b hat
      cases hr;cases zm hF;cases wV hg hR;refine zqk (L:=L) (cs:=HU S c y) (sz:=zR S c) i off (by rw[zY,e];rfl) (by rw[hL,bN]) rfl ?_ ((Wv hS _ _ _ _ _ _ hat).at hsh);rw[cK,hy];rfl
     ·cases hr
   ·trivial
  ·trivial
def zix{t:Nat}{x ix:bE}:(YR P t (evA E x) (evA E ix)).OK P ⟨dst,.indexAddr t x ix,ty,pos,aft,gd⟩ E H:=by
 unfold YR;split
 ·rename_i e sz k n h1 h2
  split
  ·rename_i c l e1
   cases hb:bk sz (zR S c)with
   |false=>trivial
   |true =>
    have hsz:=eb hb;subst hsz;intro y hy a F' hr F R hF hR;cases hr;cases zm hF;cases zm hR;obtain⟨g1,g2,g3⟩:=@zio _ (dfl c) _ _ _ hy;refine zqj (k:=k) (i:=n) h1 (by rw[zY,e1];rfl) (by rw[zY];exact kz h2) g1 ?_
    have hlt:n.toNat<bg (α:=c.ty S.T) l:=ab
    rw[g3];exact @zPf (c.ty S.T) (dfl c) (HU S c) l n.toNat hlt
  ·rename_i sz' k' m e1
   cases hb:bk sz sz' with
   |false=>trivial
   |true =>
    have hsz:=eb hb;subst hsz;intro y hy a F' hr F R hF hR;cases hr;cases zm hF;cases zm hR;obtain⟨g1,g2⟩:=xo hy;exact zin (k:=k) h1 (by rw[zY,e1];rfl) (by rw[zY];exact kz h2) g1 g2
  ·trivial
 ·trivial
def zBj{t:Nat}{x ix:bE}:(zBh P t (evA E x) (evA E ix)).OK P ⟨dst,.index t x ix,ty,pos,aft,gd⟩ E H:=by
 unfold zBh;split
 ·rename_i k n h2
  split
  ·rename_i l e1
   cases hb:zL2 P t with
   |false=>trivial
   |true =>
    intro y hy a F' hr F R hF hR;cases hr;cases zm hF;cases zm hR;obtain⟨g1,g2,g3⟩:=zio hy;have:=zl6 (P:=P) (dst:=dst) (ty:=ty) (pos:=pos) (aft:=aft) (gd:=gd) (ρ:=eV E) (k:=k) (x:=x) (ix:=ix) hb (by rw[zY,e1];rfl) (by rw[zY];exact kz h2) g1 g2;rw[g3];exact this
  ·trivial
 ·trivial
def zBk{t:Nat}{x:bE}{lo hi:Option bE}:(zBi P E t (evA E x) lo hi).OK P ⟨dst,.slice t x lo hi bh,ty,pos,aft,gd⟩ E H:=by
 unfold zBi;split
 ·rename_i l e1
  split
  ·rename_i p q h1 h2
   cases hb:zL2 P t with
   |false=>trivial
   |true =>
    intro y hy a F' hr F R hF hR;cases hr;cases zm hF;cases zm hR;obtain⟨g1,g2,g3,g4⟩:=ztp hy;rw[g4];exact zl9 hb (by rw[zY,e1];rfl) (zgf h1) (zgf h2) g1 g2 g3
  ·trivial
 ·rename_i c l e1
  split
  ·rename_i e sz h0
   split
   ·rename_i p q h1 h2
    cases hb:bk sz (zR S c)with
    |false=>trivial
    |true =>
     have hsz:=eb hb;subst hsz;intro y hy a F' hr F R hF hR;cases hr;cases zm hF;cases zm hR;obtain⟨g1,g2,g3,g4⟩:=ztp hy;have hl:(cX (HU S c) l).length=bg (α:=c.ty S.T) l:=bN ..;refine zmf h0 (by rw[zY,e1];rfl) (zgf h1) (by rw[hl];exact zgf h2) g1 g2 (by rw[hl];exact g3) ?_;rw[g4,eH];exact aQ (List.drop p.toNat) (dN (f:=HU S c) (l:=(l:List (c.ty S.T))) (i:=q.toNat)).symm
   ·trivial
  ·trivial
 ·rename_i sz k n e1
  split
  ·rename_i e sz' h0
   split
   ·rename_i p q h1 h2
    cases hb:bk sz sz' with
    |false=>trivial
    |true =>
     have hsz:=eb hb;subst hsz;intro y hy a F' hr F R hF hR;cases hr;cases zm hF;cases zm hR;obtain⟨g1,g2,g3⟩:=xo hy;exact zir h0 (by rw[zY,e1];rfl) (zgf h1) (zgf h2) g1 g2 g3
   ·trivial
  ·trivial
 ·trivial
end
end
section
variable{S:Tab}
def RowsIn(H:AH S.T)(R:ax)(fz:List Nat):Prop:=∀k∈fz,∀e c f l w,H.get k=bc (.row e c f l w)->∃f',R.get k=bc (.row e (zR S c) f' (l.map (HU S c)))
def RowsIn.left{H:AH S.T}{R:ax}{a b:List Nat}(h:RowsIn H R (a++b)):RowsIn H R a:=λk hk=>h k (bK _ hk)
def RowsIn.right{H:AH S.T}{R:ax}{a b:List Nat}(h:RowsIn H R (a++b)):RowsIn H R b:=λk hk=>h k (bL _ hk)
def Zz{R:ax}:∀{a b c d:List V},kq R a b->kq R c d->kq R (a++c) (b++d)
 |[],_,_,_,.nil,h=>h
 |_::_,_,_,_,.cons h1 h2,h=>.cons h1 (Zz h2 h)
def zgg{R:ax}:∀{a:List V},kq R a a
 |[]=>.nil
 |v::a=>.cons (.same v) zgg
def wW(l:List (Nat×Nat)):Prop:=∀p∈l,p.1=p.2
def wW.left{a b:List (Nat×Nat)}(h:wW (a++b)):wW a:=λk hk=>h k (bK _ hk)
def wW.right{a b:List (Nat×Nat)}(h:wW (a++b)):wW b:=λk hk=>h k (bL _ hk)
def zMc{t:Nat}{a:A S.T}{c:TC}{rx:Rx (c.ty S.T)}(h:ifcC t a c=bc rx):V.ifc t a.v=vL S c rx.x/\rx.fz=[]/\rx.eq=[]:=by
 unfold ifcC at h;split at h
 ·rename_i ti ts
  split at h
  ·rename_i x
   cases hb:bk t ts with
   |false=>rw[hb]at h;cases h
   |true =>
    rw[hb]at h;cases h;rw[eb hb];exact⟨rfl,rfl,rfl⟩
  ·rename_i x
   cases hb:bk t ti with
   |false=>rw[hb]at h;cases h
   |true =>
    rw[hb]at h;cases h;rw[eb hb];exact⟨rfl,rfl,rfl⟩
  ·cases h
 ·cases h
def Hd{H:AH S.T}{c:TC}{a:A S.T}{rx:Rx (c.ty S.T)}(h:zfe H c a=bc rx)(heq:wW rx.eq){R:ax}(hR:RowsIn H R rx.fz):av R a.v (vL S c rx.x):=by
 unfold zfe at h;split at h
 ·split at h
  ·rename_i e
   subst e;cases h;exact .same _
  ·cases h
 ·cases c<;>first|(cases h;done)|(cases h;exact .nils _)
 ·cases c<;>first|(cases h;done)|(cases h;exact .same _)
 ·rename_i sz k n
  cases c<;>first|(cases h;done)|skip
  rename_i t;simp only[zTs]at h;split at h
  ·rename_i e t' fz l wl hg
   split at h
   ·rename_i e
    subst e
    cases hb:bk sz (zR S t')with
    |false=>rw[hb]at h;cases h
    |true =>
     rw[hb]at h;have hsz:=eb hb;subst hsz;cases h;obtain⟨f',hf⟩:=hR k (msQ.2 rfl) _ _ _ _ _ hg;have hn:n=l.length:=(heq _ (msQ.2 rfl)).trans wl.h.symm;exact .row hf (by rw[bN];exact hn)
   ·cases h
  ·cases h
 ·rename_i sz k n
  cases c<;>first|(cases h;done)|skip
  rename_i t;simp only[zTs]at h;split at h
  ·rename_i e t' fz l wl hg
   split at h
   ·rename_i e
    subst e
    cases hb:bk sz (zR S t')with
    |false=>rw[hb]at h;cases h
    |true =>
     rw[hb]at h;have hsz:=eb hb;subst hsz;cases h;obtain⟨f',hf⟩:=hR k (msQ.2 rfl) _ _ _ _ _ hg;have hn:n=l.length:=(heq _ (msQ.2 rfl)).trans wl.h.symm;exact .nrow hf (by rw[bN];exact hn)
   ·cases h
  ·cases h
 ·have:=(zMc h).1
  rw[<- this];simp only[A.v];exact .same _
 ·cases h
def zHw:∀(c:TC)(x:c.ty S.T),(∀n,c≠.st n)->HU S c x=[vL S c x]
 |.i _,_,_=>rfl
 |.b,_,_=>rfl
 |.s,_,_=>rfl
 |.y,_,_=>rfl
 |.a _ _,_,_=>rfl
 |.l _,_,_=>rfl
 |.m k e,_,_=>rfl
 |.st n,_,h=>aU rfl (h n)
mutual
def QE(hS:S.OK){H:AH S.T}:∀(f:Nat)(c:TC)(cs:List (A S.T))(rx:Rx (c.ty S.T))(r:List (A S.T)),YQ H f c cs=bc (rx,r)->wW rx.eq ->
  ∃u,cs=u++r/\∀R,RowsIn H R rx.fz->kq R (A.vs u) (HU S c rx.x)
 |0,_,_,_,_,h,_=>by cases h
 |f+1,.st m,cs,rx,r,h,heq=>by
  rw[YQ]at h;split at h
  ·rename_i x fz eq r' e
   cases h;obtain⟨u,h1,h2⟩:=QF hS f (S.fl m) cs ⟨x,fz,eq⟩ r e heq;refine⟨u,h1,λR hR=>?_⟩;have:=h2 R hR
   show kq R (A.vs u) (S.enc m (S.inj m x))
   rw[hS.enc_out,hS.out_mk];exact this
  ·cases h
 |f+1,c,a::r0,rx,r,h,heq=>by
  by_cases hc:∃m,c=.st m
  ·obtain⟨m,rfl⟩:=hc
   rw[YQ]at h;split at h
   ·rename_i x fz eq r' e
    cases h;obtain⟨u,h1,h2⟩:=QF hS f (S.fl m) _ ⟨x,fz,eq⟩ r e heq;refine⟨u,h1,λR hR=>?_⟩;have:=h2 R hR
    show kq R (A.vs u) (S.enc m (S.inj m x))
    rw[hS.enc_out,hS.out_mk];exact this
   ·cases h
  ·have hc':∀m,c≠.st m:=λm e=>hc ⟨m,e⟩
   have h':(match zfe H c a with|some rx=>bc (rx,r0)|none=>bh)=bc (rx,r):=by
    cases c<;>first|exact aU rfl (hc' _)|exact h
   split at h'
   ·rename_i rx' e
    cases h';refine⟨[a],rfl,λR hR=>?_⟩;have:=Hd e heq hR;rw[zHw c rx.x hc'];exact .cons this .nil
   ·cases h'
 |f+1,c,[],rx,r,h,heq=>by
  by_cases hc:∃m,c=.st m
  ·obtain⟨m,rfl⟩:=hc
   rw[YQ]at h;split at h
   ·rename_i x fz eq r' e
    cases h;obtain⟨u,h1,h2⟩:=QF hS f (S.fl m) _ ⟨x,fz,eq⟩ r e heq;refine⟨u,h1,λR hR=>?_⟩;have:=h2 R hR
    show kq R (A.vs u) (S.enc m (S.inj m x))
    rw[hS.enc_out,hS.out_mk];exact this
   ·cases h
  ·have hc':∀m,c≠.st m:=λm e=>hc ⟨m,e⟩
   cases c<;>first|exact aU rfl (hc' _)|cases h
def QF(hS:S.OK){H:AH S.T}:∀(f:Nat)(l:List TC)(cs:List (A S.T))(rx:Rx (HL S.T l))(r:List (A S.T)),zmm H f l cs=bc (rx,r)->wW rx.eq ->
  ∃u,cs=u++r/\∀R,RowsIn H R rx.fz->kq R (A.vs u) (zA7 S l rx.x)
 |0,_,_,_,_,h,_=>by cases h
 |_+1,[],cs,rx,r,h,_=>by cases h;exact⟨[],rfl,λR _=>.nil⟩
 |f+1,[c],cs,rx,r,h,heq=>by
  rw[zmm]at h;exact QE hS f c cs rx r h heq
 |f+1,c::d::l,cs,rx,r,h,heq=>by
  rw[zmm]at h;split at h
  ·rename_i x fz eq as' e
   split at h
   ·rename_i y fz' eq' as'' e'
    cases h;obtain⟨u,h1,h2⟩:=QE hS f c cs ⟨x,fz,eq⟩ as' e heq.left;obtain⟨v,h3,h4⟩:=QF hS f (d::l) as' ⟨y,fz',eq'⟩ r e' heq.right;refine⟨u++v,by rw[h1,h3,asc],λR hR=>?_⟩;rw[JS];exact Zz (h2 R hR.left) (h4 R hR.right)
   ·cases h
  ·cases h
end
def zcb(hS:S.OK){H:AH S.T}{c:TC}{a:A S.T}{rx:Rx (c.ty S.T)}(h:Zy H c a=bc rx)(heq:wW rx.eq){R:ax}(hR:RowsIn H R rx.fz):av R a.v (vL S c rx.x):=by
 unfold Zy at h;split at h
 ·rename_i rx' e
  cases h;exact Hd e heq hR
 ·split at h
  ·rename_i cs
   cases c<;>first|(cases h;done)|skip
   rename_i m;simp only[zBa]at h;split at h
   ·rename_i rx' e
    cases h;obtain⟨u,h1,h2⟩:=QE hS _ _ _ _ _ e heq;rw[bI]at h1;subst h1;exact .agg (h2 R hR)
   ·cases h
  ·cases h
def zBl(hS:S.OK):∀(c:TC)(x:c.ty S.T),wP (HU S c x)=[]
 |.i _,_=>rfl
 |.b,_=>rfl
 |.s,_=>rfl
 |.y,_=>rfl
 |.a _ _,x=>by cases x<;>rfl
 |.l _,_=>rfl
 |.m _ _,_=>rfl
 |.st n,x=>hS.refs n x
def zU2(hS:S.OK){a:List V}{c:TC}{x:c.ty S.T}(h:kq [] a (HU S c x)):WkL a (HU S c x):=λZ l hl=>by
 let m0:M:=λ_ _=>bh
 have h1:zT (bc m0) Z a l:=hl.up (λ_ _ e=>e) (λf e=>by cases e);have h2:=kq.rep (m:=m0) (Z:=Z) (w:=default) (F:=[]) (λk t sz fz els e=>by cases e) h h1;exact zT.flat _ _ (zBl hS c x) h2
def zmo{c:TC}{a:A S.T}{rx:Rx (c.ty S.T)}(h:zfe [] c a=bc rx):rx.fz=[]/\rx.eq=[]:=by
 unfold zfe at h;split at h
 ·split at h
  ·cases h;exact⟨rfl,rfl⟩
  ·cases h
 ·cases c<;>first|(cases h;done)|(cases h;exact⟨rfl,rfl⟩)
 ·cases c<;>first|(cases h;done)|(cases h;exact⟨rfl,rfl⟩)
 ·cases c<;>first|(cases h;done)|(simp only[zTs,AH.get]at h;cases h)
 ·cases c<;>first|(cases h;done)|(simp only[zTs,AH.get]at h;cases h)
 ·exact(zMc h).2
 ·cases h
mutual
def Ww:∀(f:Nat)(c:TC)(cs:List (A S.T))(rx:Rx (c.ty S.T))(r:List (A S.T)),YQ [] f c cs=bc (rx,r)->rx.fz=[]/\rx.eq=[]
 |0,_,_,_,_,h=>by cases h
 |f+1,c,cs,rx,r,h=>by
  by_cases hc:∃m,c=.st m
  ·obtain⟨m,rfl⟩:=hc
   rw[YQ]at h;split at h
   ·rename_i x fz eq r' e
    cases h;exact zmp f (S.fl m) _ ⟨x,fz,eq⟩ r e
   ·cases h
  ·have hc':∀m,c≠.st m:=λm e=>hc ⟨m,e⟩
   cases cs with
   |nil=>cases c<;>first|exact aU rfl (hc' _)|cases h
   |cons a r0 =>
    have h':(match zfe [] c a with|some rx=>bc (rx,r0)|none=>bh)=bc (rx,r):=by
     cases c<;>first|exact aU rfl (hc' _)|exact h
    split at h'
    ·rename_i rx' e
     cases h';exact zmo e
    ·cases h'
def zmp:∀(f:Nat)(l:List TC)(cs:List (A S.T))(rx:Rx (HL S.T l))(r:List (A S.T)),zmm [] f l cs=bc (rx,r)->rx.fz=[]/\rx.eq=[]
 |0,_,_,_,_,h=>by cases h
 |_+1,[],cs,rx,r,h=>by cases h;exact⟨rfl,rfl⟩
 |f+1,[c],cs,rx,r,h=>by
  rw[zmm]at h;exact Ww f c cs rx r h
 |f+1,c::d::l,cs,rx,r,h=>by
  rw[zmm]at h;split at h
  ·rename_i x fz eq as' e
   split at h
   ·rename_i y fz' eq' as'' e'
    cases h;obtain⟨h1,h2⟩:=Ww f c cs ⟨x,fz,eq⟩ as' e;obtain⟨h3,h4⟩:=zmp f (d::l) as' ⟨y,fz',eq'⟩ r e';exact⟨by rw[show fz=[] from h1,show fz'=[] from h3];rfl,by rw[show eq=[] from h2,show eq'=[] from h4];rfl⟩
   ·cases h
  ·cases h
end
def ziy(hS:S.OK){f:Nat}{c:TC}{cs:List (A S.T)}{rx:Rx (c.ty S.T)}(h:YQ [] f c cs=bc (rx,[])):WkL (A.vs cs) (HU S c rx.x):=by
 obtain⟨h1,h2⟩:=Ww _ _ _ _ _ h;obtain⟨u,e1,e2⟩:=QE hS _ _ _ _ _ h (by rw[h2];intro p hp;cases hp);rw[bI]at e1;subst e1;exact zU2 hS (e2 [] (by rw[h1];intro k hk;cases hk))
end
end Go.EQ
namespace Go.EV
open Go Go.RowKit Go.Eng
section
variable{P:bm}{ρ:Env}{dst:Option Tmp}{ty:bJ}{pos:String}{aft:Array Edge}{gd:Option (Nat×Bool)}
def Step.nilRow{m:M}{Z:ZM}{w:bG}{R:ax}{d e sz:Nat}(hsz:0<sz)(hs:wQ m Z R w)(hnew:∀L,m d L=bh)(hd:d ∉ keys R):
  ∃m',Step m Z R w m' Z ((d,.row e sz 0 [])::R) w/\m' d 0=bc (0,0):=by
 let m':M:=λk' L=>if k'=d/\L=0 then bc (0,0)else m k' L
 have h1:m' d 0=bc (0,0):=by simp[m']
 have h2:∀k L loc,m k L=bc loc->m' k L=bc loc:=λk L loc e=>by
  by_cases hc:k=d/\L=0
  ·obtain⟨rfl,rfl⟩:=hc;rw[hnew]at e;cases e
  ·simp only[m',aO hc];exact e
 have hs0:wQ m Z [] w:=⟨hs.frozen,λp hp=>(by cases hp),dv,λp hp=>(by cases hp)⟩
 have hst:Step m Z [] w m' Z [(d,.row e sz 0 [])] w:=by
  refine⟨⟨hs.frozen,λp hp=>?_,by simp[keys],λp hp q hq _ _ _=>?_⟩,h2,λ_ _ e=>e,rfl,rfl,rfl,aq,λ_ _ _=>rfl,λk hk=>(by cases hk),λk hk=>?_,λp hp b hb=>?_,λ_ _ e=>.inl e⟩
  ·simp only[msQ]at hp
   subst hp;refine .inl ⟨hsz,rfl,rfl,⟨0,h1⟩,λL loc e=>?_⟩;simp only[m']at e;split at e
   ·rename_i hc;omega
   ·rw[hnew]at e;cases e
  ·simp only[msQ]at hp hq
   subst hp;subst hq;rfl
  ·funext L
   have:k≠d:=by simpa[keys]using hk
   simp[m',this]
  ·simp only[msQ]at hp
   subst hp;simp[blk,u6,Obj.ver,h1]at hb
 exact⟨m',Step.frame_rule (F:=[]) (G:=R) (F':=[(d,.row e sz 0 [])]) hs hst λp hp q hq e'=>by
  simp only[msQ]at hp;subst hp;have e'':d=q.1:=e'
  exact hd (by rw[e''];exact ay hq),h1⟩
def ziz{t e sz bytes n d j:Nat}{y:bE}{ys:List (List V)}{R:ax}(hT:oJ P t=bc (e,sz,bytes))(hx:evV ρ (.tmp j)=.nils)(hxy:y≠.tmp j)(hy:Src sz R (evV ρ y) ys)
  (h1:∀c∈ys,c.all V.one=bf) (hkl:∀c∈ys,c.length=sz) (hdR:kv d R=bd) (hn:ys.length=n) (hlen:n*bytes<=140737488355328) (h63:n<=9223372036854775807):
  Loc P ⟨dst,.call ⟨.builtin .append,#[.tmp j,y],#[t,t]⟩,ty,pos,aft,gd⟩ ρ R (.sl sz d n 0 n) ((d,.row e sz 0 ys)::R):=by
 intro ρr m Z w hops hs hnew
 have hd':d ∉ keys R:=λh=>by rw[yR.2 h]at hdR;cases hdR
 obtain⟨_,_,_,_,_,_,_,_,h0⟩:=Hc hT;obtain⟨m',hst,hm'⟩:=Step.nilRow (e:=e) (sz:=sz) h0 hs (λL=>hnew d (by simp[keys]) hd' L) hd'
 have hev:∀z,z≠.tmp j->evV ((j,V.sl sz d 0 0 0)::ρ) z=evV ρ z:=λz hz=>by
  cases z with
  |tmp t' =>
   have:t'≠j:=λe=>hz (by rw[e])
   show(bif bk t' j then _ else _)=_
   cases hb:bk t' j with
   |true=>exact aU (eb hb) this
   |false=>rfl
  |_=>rfl
 have hj:evV ((j,V.sl sz d 0 0 0)::ρ) (.tmp j)=.sl sz d 0 0 0:=by
  show(bif bk j j then _ else _)=_
  rw[cD];rfl
 have hl:=zb4 (P:=P) (ρ:=(j,V.sl sz d 0 0 0)::ρ) (dst:=dst) (ty:=ty) (pos:=pos) (aft:=aft) (gd:=gd) (k:=d) (fz:=0) (L:=0) (els:=[]) (ys:=ys) (R:=R) (e:=e) (n:=n) hT hj rfl (by rw[hev y hxy];exact hy) h1 hkl hdR (bM _) hn hlen h63
 refine(hl ρr m' Z w (λz hz=>?_) hst.sim (λk hk hk' L=>aU hk hk')).mono λx w' hx=>?_
 ·by_cases hzj:z=.tmp j
  ·subst hzj
   have:=hops (.tmp j) hz;rw[hx]at this;rw[hj];exact⟨m',_,rfl,hm',aq,cj _,.inr (.inl ⟨rfl,bh,this⟩)⟩
  ·rw[hev z hzj]
   exact(hops z hz).up (λ_ _ e=>e) λf e=>by cases e;exact⟨m',rfl,hst.mext⟩
 ·obtain⟨m2,Z2,st,hr⟩:=hx
  exact⟨m2,Z2,hst.trans st,hr⟩
end
end Go.EV
namespace Go.EQ
open Go Go.RowKit Go.Eng Go.EV
section
variable{S:Tab}
def zBm(P:bm)(d t:Nat):OR S:=match zeroV P t with
 |some cs=>.one [] [] (.raw (.ptr d 0 0)) [(d,.box t (cs.map of1))]
 |none=>.no
def boxA(d t:Nat)(x:A S.T):OR S:=match x.cells with
 |some u=>.one [] [] (.raw (.ptr d 0 0)) [(d,.box t u)]
 |none=>.no
def ztx(c:TC):List (A S.T)->Option (List (c.ty S.T))
 |[]=>bc []
 |a::r=>match a.cells with
  |some u=>match YQ [] 64 c u with
   |some (rx,[])=>match ztx c r with
    |some zs=>bif bk u.length (zR S c)then bc (rx.x::zs)else bh
    |none=>bh
   |_=>bh
  |none=>bh
def qb(P:bm)(E:AE S.T)(cd:Nat->Option TC)(d t n:Nat)(parts:List (Nat×bE)):OR S:=match J4 P t with
 |some (e,sz)=>match cd e with
  |some c=>match ztx c (parts.map λp=>evA E p.2)with
   |some zs=>bif bk sz (zR S c)&&(cm (n*sz) 16777216&&(zw6 n sz (parts.map λp=>(p.1,evV (eV E) p.2))).isSome)then(match cd (1000000+e)with
    |none=>.one [] [] (.rh sz d n) [(d,.row e c .zero zs ⟨_,rfl⟩)]
    |some _=>.one [] [] (.dat (.l c) zs) [(d,.row e c .all zs ⟨_,rfl⟩)])else .no
   |none=>.no
  |none=>.no
 |none=>.no
def zqs:bE->bE->Bool
 |.tmp a,.tmp b=>bk a b
 |_,_=>bd
def YS(P:bm)(E:AE S.T)(cd:Nat->Option TC)(d t:Nat)(x y:bE):OR S:=match oJ P t,intOf (evA E x),intOf (evA E y)with
 |some (e,sz,bytes),bc (_,n),bc (_,n')=>match cd e,zeroV P e with
  |some c,bc cs=>match YQ (S:=S) [] 64 c (cs.map of1)with
   | some (rx,[])=>bif bk sz (zR S c)&&(bk cs.length sz&&(zqs x y||decide (n=n')))then
     .bnd (grd (0<=n/\n*bytes<=281474976710656/\n<=9223372036854775807)) [] [] (λ_=>bc (.rh sz d (cV (cg n) rx.x).length,[(d,.row e c .zero (cV (cg n) rx.x) ⟨_,rfl⟩)]))
    else .no
   |_=>.no
  |_,_=>.no
 |_,_,_=>.no
def Fz.grow(n:Nat):Fz->Fz
 |.zero=>.zero
 |.all=>.pre n
 |.pre n=>.pre n
def zTt(H:AH S.T)(k:Nat)(c:TC):A S.T->Option (List (c.ty S.T)×List Nat×List (Nat×Nat))
 |.dat (.l c') l=>if h:c'=c then bc ((h▸l:List (c.ty S.T)),[],[])else bh
 |.raw .nils=>bc ([],[],[])
 |.rh sz k' n=>match H.get k' with
  |some (.row _ c' _ l w)=>if h:c'=c then bif !(bk k k')&&bk sz (zR S c)then bc ((h▸l:List (c.ty S.T)),[k'],[(n,w.n)])else bh else bh
  |_=>bh
 |_=>bh
def zGr:TC->Bool
 |.m _ _=>bd
 |_=>bf
def zU3:bE->Option Nat
 |.tmp t=>bc t
 |_=>bh
def zi0(P:bm)(E:AE S.T)(H:AH S.T)(cd:Nat->Option TC)(d t t':Nat)(x y:bE):OR S:=match oJ P t with
 |some (e,sz,bytes)=>bif bk t t'&&cm 1 bytes then match evA E x with
  |.rh sz' k n=>match H.get k with
   |some (.row e' c fz l w)=>match zTt H k c (evA E y)with
    |some (ys,kR,eq)=>bif bk e e'&&(bk sz' sz&&(bk sz (zR S c)&&zGr c))then
      .eqs ((n,w.n)::eq) (.bnd (grd ((l++ys).length*bytes<=140737488355328)) [k] kR (λ_=>bc (.rh sz k (l++ys).length,[(k,.row e c (fz.grow l.length) (l++ys) ⟨_,rfl⟩)])))
     else .no
    |none=>.no
   |_=>.no
  |.raw .nils=>match cd e,zU3 x with
   |some c,bc j=>match zTt H d c (evA E y)with
    |some (ys,kR,eq)=>bif bk sz (zR S c)&&(zGr c&&!(zqs x y))then
      .eqs eq (.bnd (grd (ys.length*bytes<=140737488355328)) [] kR (λ_=>bc (.rh sz d ys.length,[(d,.row e c .zero ys ⟨_,rfl⟩)])))
     else .no
    |none=>.no
   |_,_=>.no
  |_=>.no
  else .no
 |none=>.no
def zqt(a b:A S.T):OR S:=match a,b with
 |.dat .s x,.dat .s y=>.bnd (grd (bg (α:=UInt8) x+bg (α:=UInt8) y<=9223372036854775807)) [] [] (λ_=>bc (.dat .s (List.append (α:=UInt8) x y),[]))
 |_,_=>.no
section
variable{P:bm}{E:AE S.T}{H:AH S.T}{dst:Option Tmp}{ty:bJ}{pos:String}{aft:Array Edge}{gd:Option (Nat×Bool)}
def zBn{d t:Nat}:(zBm (S:=S) P d t).OK P ⟨dst,.alloc t,ty,pos,aft,gd⟩ E H:=by
 unfold zBm;split
 ·rename_i cs h
  intro F R hF hR;cases zm hF;cases zm hR;have:=zAg (P:=P) (ρ:=eV E) (dst:=dst) (ty:=ty) (pos:=pos) (aft:=aft) (gd:=gd) (d:=d) h;simpa[hV,OA.o,zgd,A.v]using this
 ·trivial
def zPr(hS:S.OK){d t:Nat}{x:bE}:(boxA d t (evA E x)).OK P ⟨dst,.box t x,ty,pos,aft,gd⟩ E H:=by
 unfold boxA;split
 ·rename_i u h
  intro F R hF hR;cases zm hF;cases zm hR;obtain⟨h1,h2⟩:=A.cells_v hS h;have:=zO7 (P:=P) (ρ:=eV E) (dst:=dst) (ty:=ty) (pos:=pos) (aft:=aft) (gd:=gd) (d:=d) (t:=t) (x:=x) (by rw[zY];exact h2);rw[zY,<- h1]at this;exact this
 ·trivial
def zxl{t t':bJ}{x y:bE}:(zqt (evA E x) (evA E y)).OK P ⟨dst,.binOp .add t x y t',ty,pos,aft,gd⟩ E H:=by
 unfold zqt;split
 ·rename_i a b h1 h2
  intro z hz a F' hr F R hF hR;cases hr;cases zm hF;cases zm hR;exact zxb (by rw[zY,h1];rfl) (by rw[zY,h2];rfl) (xo hz)
 ·trivial
def zHx{x y:bE}(h:zqs x y=bf):x=y:=by
 unfold zqs at h;split at h
 ·rw[eb h]
 ·cases h
def zi1(hS:S.OK){cd:Nat->Option TC}{d t:Nat}{x y:bE}:(YS P E cd d t x y).OK P ⟨dst,.makeSlice t x y,ty,pos,aft,gd⟩ E H:=by
 unfold YS;split
 ·rename_i e sz bytes k n k' n' h1 h2 h3
  split
  ·rename_i c cs h4 h5
   split
   ·rename_i rx h6
    cases hb:bk sz (zR S c)&&(bk cs.length sz&&(zqs x y||decide (n=n')))with
    |false=>trivial
    |true =>
     simp only[bn,cZ]at hb;have hsz:=eb hb.1;subst hsz
     have hn:n'=n:=by
      rcases hb.2.2 with h|h
      ·have:=zHx h
       subst this;rw[h2]at h3;cases h3;rfl
      ·exact(aY h).symm
     subst hn;intro u hu a F' hr F R hF hR;cases hr;cases zm hF;cases zm hR;obtain⟨g1,g2,g3⟩:=xo hu;have hlen:(cV n'.toNat rx.x).length=n'.toNat:=List.length_replicate;refine zfd (cs:=cs) (cs2:=HU S c rx.x) h1 h5 (by rw[zY];exact kz h2) (by rw[zY];exact kz h3) (by rw[jb hS,eb hb.2.1];exact cD _) g1 g2 g3 ?_ hlen ?_
     ·exact(hJ ..).symm
     ·have:=ziy hS h6
      rw[zgd]at this;exact this
   ·trivial
  ·trivial
 ·trivial
def zmq(hS:S.OK){c:TC}:∀{asZ:List (A S.T)}{zs:List (c.ty S.T)},ztx c asZ=bc zs->WkL ((A.vs asZ).map V.cells).flatten (zs.map (HU S c)).flatten/\zs.length=asZ.length
 |[],zs,h=>by cases h;exact⟨zUv,rfl⟩
 |a::r,zs,h=>by
  simp only[ztx]at h;split at h
  ·rename_i u hu
   split at h
   ·rename_i rx e
    split at h
    ·rename_i zs' e'
     cases hb:bk u.length (zR S c)with
     |false=>rw[hb]at h;cases h
     |true =>
      rw[hb]at h;cases h;obtain⟨h1,h2⟩:=zmq hS e';obtain⟨h3,_⟩:=A.cells_v hS hu;have h4:=ziy hS e;refine⟨?_,by simp[h2]⟩;simp only[A.vs,mk9,cO];rw[<- h3];exact zb8 (by rw[qN,jb hS];exact eb hb) h4 h1
    ·cases h
   ·cases h
  ·cases h
def zxm{P:bm}{ρ:Env}{o:Oper}{d t sz n:Nat}{els:List (List V)}(hl:EV.Loc P o ρ [] (.sl sz d n 0 n) [(d,.row t sz 0 els)])(hn:els.length=n):EV.Loc P o ρ [] (.vs sz els) [(d,.row t sz els.length els)]:=by
 subst hn;intro ρr m Z w hops hs hnew;refine(hl ρr m Z w hops hs hnew).mono ?_;rintro x w' ⟨m',Z',st,hr⟩;have hst:Step m' Z' [(d,.row t sz 0 els)] w' m' (zl5 m' Z' [(d,.row t sz 0 els)] w') [(d,.row t sz els.length els)] w':=Step.freeze st.sim;refine⟨m',zl5 m' Z' [(d,.row t sz 0 els)] w',st.trans hst,av.rep (w:=w') (F:=[(d,.row t sz els.length els)]) (λk t' sz' fz' els' hg=>?_) (.row (t:=t) (fz:=els.length) (by simp[ax.get]) rfl) (hr.up hst.zext λf e=>by cases e;exact⟨m',rfl,hst.mext⟩)⟩;have hm:=ax.get_mem hg;cases msQ.1 hm;exact hst.sim.holds _ (msQ.2 rfl)
def qE(hS:S.OK){cd:Nat->Option TC}{d t n:Nat}{parts:List (Nat×bE)}:(qb P E cd d t n parts).OK P ⟨dst,.buildSlice t n parts.toArray,ty,pos,aft,gd⟩ E H:=by
 unfold qb;split
 ·rename_i e sz h1
  split
  ·rename_i c h2
   split
   ·rename_i zs h3
    cases hb:bk sz (zR S c)&&(cm (n*sz) 16777216&&(zw6 n sz (parts.map λp=>(p.1,evV (eV E) p.2))).isSome)with
    |false=>trivial
    |true =>
     simp only[bn]at hb;have hsz:=eb hb.1;subst hsz;obtain⟨els,h4⟩:=Option.isSome_iff_exists.1 hb.2.2;obtain⟨h5,h6⟩:=zmq hS h3
     have hels:els=(A.vs (parts.map λp=>evA E p.2)).map V.cells/\els.length=n:=by
      unfold zw6 at h4;split at h4
      ·rename_i hr
       split at h4
       ·cases h4
        refine⟨?_,?_⟩
        ·rw[wG]
         simp only[cS]
         exact eG λp _=>by simp[zY]
        ·have:=aQ bg hr
         simpa using this
       ·cases h4
      ·cases h4
     have hzl:(zs.map (HU S c)).length=els.length:=by rw[hels.1];simp[qN,h6]
     suffices hloc:EV.Loc P ⟨dst,.buildSlice t n parts.toArray,ty,pos,aft,gd⟩ (eV E) [] (.sl (zR S c) d n 0 n) [(d,.row e (zR S c) 0 (zs.map (HU S c)))] by
      simp only[ctQ];split
      ·intro F R hF hR
       cases zm hF;cases zm hR;exact hloc
      ·intro F R hF hR
       cases zm hF;cases zm hR;have:=zxm hloc (by rw[hzl];exact hels.2);simpa[hV,OA.o,Fz.n,A.v,vL]using this
     refine zb6 (fl:=els.flatten) (fl2:=(zs.map (HU S c)).flatten) h1 hb.2.1 h4 rfl rfl (by rw[hels.1];exact h5) (by rw[hzl];exact cD _) ?_ rfl
     exact bj.2 λy hy=>by
      obtain⟨z,_,rfl⟩:=bx.1 hy;rw[jb hS];exact cD _
   ·trivial
  ·trivial
 ·trivial
def zU4{c:TC}(h:zGr c=bf):∀k e,c≠.m k e:=λk e e'=>by subst e';cases h
def zqu(hS:S.OK){k:Nat}{c:TC}{y:bE}{ys:List (c.ty S.T)}{kR:List Nat}{eq:List (Nat×Nat)}(h:zTt H k c (evA E y)=bc (ys,kR,eq))(heq:wW eq){R:AH S.T}(hR:uz kR H=bc R):
  Src (zR S c) (hV R) (evV (eV E) y) (ys.map (HU S c))/\AH.has k R=bd:=by
 rw[zY];unfold zTt at h;split at h
 ·rename_i c' l e1
  split at h
  ·rename_i e
   subst e;cases h;cases zm hR;rw[e1];exact⟨.vs _,rfl⟩
  ·cases h
 ·rename_i e1
  cases h;cases zm hR;rw[e1];exact⟨.nils,rfl⟩
 ·rename_i sz k' n e1
  split at h
  ·rename_i e' c' fz l wl hg
   split at h
   ·rename_i e
    subst e
    cases hb:!(bk k k')&&bk sz (zR S c')with
    |false=>rw[hb]at h;cases h
    |true =>
     rw[hb]at h;cases h;simp only[bn,bQ]at hb;have hsz:=eb hb.2;subst hsz;cases wV hg hR;rw[e1];have hn:n=l.length:=(heq _ (msQ.2 rfl)).trans wl.h.symm;refine⟨.sl (t:=e') (fz:=fz.n l.length) ?_ (by rw[bN];exact hn),?_⟩
     ·simp[hV,ax.get,OA.o,cD]
     ·simp[AH.has,hb.1]
   ·cases h
  ·cases h
 ·cases h
def zgh(hS:S.OK){cd:Nat->Option TC}{d t t':Nat}{x y:bE}:(zi0 P E H cd d t t' x y).OK P ⟨dst,.call ⟨.builtin .append,#[x,y],#[t,t']⟩,ty,pos,aft,gd⟩ E H:=by
 unfold zi0;split
 ·rename_i e sz bytes h1
  cases hb0:bk t t'&&cm 1 bytes with
  |false=>trivial
  |true =>
   simp only[bn]at hb0;have htt:=eb hb0.1;subst htt;have hby:=lb hb0.2
   have ones:∀(c:TC)(ys:List (c.ty S.T)),(∀k e,c≠.m k e)->∀u∈ys.map (HU S c),u.all V.one=bf:=λc ys hm u hu=>by
    obtain⟨z,_,rfl⟩:=bx.1 hu;exact zBd hS c z hm
   have lens:∀(c:TC)(ys:List (c.ty S.T)),∀u∈ys.map (HU S c),u.length=zR S c:=λc ys u hu=>by
    obtain⟨z,_,rfl⟩:=bx.1 hu;exact jb hS c z
   dsimp only[ctQ];split
   ·rename_i sz' k n e1
    split
    ·rename_i e' c fz l wl hg
     split
     ·rename_i ys kR eq h2
      cases hb:bk e e'&&(bk sz' sz&&(bk sz (zR S c)&&zGr c))with
      |false=>trivial
      |true =>
       simp only[bn]at hb;have q1:=eb hb.1;have q2:=eb hb.2.1;have q3:=eb hb.2.2.1;have hm:=zU4 hb.2.2.2;subst q1;subst q2;subst q3;intro heq u hu a F' hr F R hF hR;cases hr;cases wV hg hF;have hn:n=l.length:=(heq _ al).trans wl.h.symm;obtain⟨g1,g2⟩:=zqu hS h2 (λp hp=>heq p (mcQ _ hp)) hR;have hgr:=xo hu;have h63:=cW (eN (l++ys).length hby) hgr;have hl:=zb4 (P:=P) (ρ:=eV E) (dst:=dst) (ty:=ty) (pos:=pos) (aft:=aft) (gd:=gd) (k:=k) (fz:=fz.n l.length) (L:=n) (els:=l.map (HU S c)) (ys:=ys.map (HU S c)) (R:=hV R) (n:=(l++ys).length) (all:=(l++ys).map (HU S c)) h1 (by rw[zY,e1];rfl) (by rw[bN];exact hn.symm) g1 (ones c ys hm) (lens c ys) (by rw[oK];exact g2) (bO ..).symm (by rw[bN]) hgr ab
       have hz:Fz.n (l++ys).length (fz.grow l.length)=fz.n l.length:=by cases fz<;>rfl
       show EV.Loc P _ _ _ _ ((k,.row e (zR S c) (Fz.n (l++ys).length (fz.grow l.length)) ((l++ys).map (HU S c)))::hV R)
       rw[hz];exact hl
     ·trivial
    ·trivial
   ·rename_i e1
    split
    ·rename_i c j h2 h3
     split
     ·rename_i ys kR eq h4
      cases hb:bk sz (zR S c)&&(zGr c&&!(zqs x y))with
      |false=>trivial
      |true =>
       simp only[bn,bQ]at hb;have q1:=eb hb.1;subst q1;have hm:=zU4 hb.2.1;intro heq u hu a F' hr F R hF hR;cases hr;cases zm hF;obtain⟨g1,g2⟩:=zqu hS h4 heq hR;have hgr:=xo hu;have h63:=cW (eN ys.length hby) hgr
       have hx:x=.tmp j:=by
        cases x<;>simp only[zU3]at h3<;>first|(cases h3;done)|(cases h3;rfl)
       subst hx
       have hxy:y≠.tmp j:=λe=>by
        subst e;simp[zqs,cD]at hb
       have hl:=ziz (P:=P) (ρ:=eV E) (dst:=dst) (ty:=ty) (pos:=pos) (aft:=aft) (gd:=gd) (d:=d) (ys:=ys.map (HU S c)) (R:=hV R) (n:=ys.length) h1 (by rw[zY,e1];rfl) hxy g1 (ones c ys hm) (lens c ys) (by rw[oK];exact g2) (by rw[bN]) hgr ab;exact hl
     ·trivial
    ·trivial
   ·trivial
 ·trivial
end
end
section
variable{S:Tab}
def zi2(P:bm)(cd:Nat->Option TC)(d t:Nat):OR S:=match zzn P t with
 |some (kt,et)=>match cd kt,cd et with
  |some kc,bc ec=>.one [] [] (.raw (.mp d)) [(d,.map kc ec [])]
  |_,_=>.no
 |none=>.no
def zPs(kc ec:TC)[DecidableEq (kc.ty S.T)](k:Nat)(l:List (kc.ty S.T×ec.ty S.T))(a:kc.ty S.T)(z:ec.ty S.T)(co:Bool):OR S :=
 .one [] [k] (bif co then .tup [.dat ec ((xj a l).getD z),.dat .b (xj a l).isSome]else .dat ec ((xj a l).getD z)) []
def updC(kc ec:TC)[DecidableEq (kc.ty S.T)](k:Nat)(l:List (kc.ty S.T×ec.ty S.T))(a:kc.ty S.T)(b:ec.ty S.T):OR S :=
 .one [k] [] (.raw .no) [(k,.map kc ec (u9 a b l))]
def zxn:DecidableEq (TC.ty S.T .s):=inferInstanceAs (DecidableEq ak)
def zZz(k:IntKind):DecidableEq (TC.ty S.T (.i k)):=inferInstanceAs (DecidableEq Int)
def zqv(P:bm)(H:AH S.T)(t:Nat)(x ix:A S.T)(co:Bool):OR S:=match zzn P t with
 |some (kt,et)=>match x,zxg P et with
  |.raw (.mp k),bc zv=>match H.get k,ix with
   |some (.map .s ec l),.dat .s a=>match P.underlying kt,Zy [] ec (ofV zv)with
    |some .string,bc rx=>@zPs S .s ec zxn k l a rx.x co
    |_,_=>.no
   |some (.map (.i q) ec l),.dat (.i q') a=>match P.underlying kt,Zy [] ec (ofV zv)with
    |some (.int q''),bc rx=>if q'=q/\q''=q then @zPs S (.i q) ec (zZz q) k l a rx.x co else .no
    |_,_=>.no
   |_,_=>.no
  |_,_=>.no
 |none=>.no
def zHy:A S.T->A S.T
 |.raw (.bool b)=>.dat .b b
 |a=>a
def zqw(a:A S.T):(zHy a).v=a.v:=by
 unfold zHy;split
 ·rfl
 ·rfl
def YT(P:bm)(H:AH S.T)(t:Nat)(x ix y:A S.T):OR S:=match zzn P t with
 |some (kt,_)=>match x,zHy y with
  |.raw (.mp k),.dat ec' b=>match H.get k,ix with
   |some (.map .s ec l),.dat .s a=>match P.underlying kt with
    |some .string=>if h:ec'=ec then @updC S .s ec zxn k l a (h▸b)else .no
    |_=>.no
   |some (.map (.i q) ec l),.dat (.i q') a=>match P.underlying kt with
    |some (.int q'')=>if h:ec'=ec then(if q'=q/\q''=q then @updC S (.i q) ec (zZz q) k l a (h▸b)else .no)else .no
    |_=>.no
   |_,_=>.no
  |_,_=>.no
 |none=>.no
section
variable{P:bm}{E:AE S.T}{H:AH S.T}{dst:Option Tmp}{ty:bJ}{pos:String}{aft:Array Edge}{gd:Option (Nat×Bool)}
def oL(hS:S.OK):∀(c:TC)(x:c.ty S.T),(vL S c x).refs=[]
 |.i _,_=>rfl
 |.b,_=>rfl
 |.s,_=>rfl
 |.y,_=>rfl
 |.a _ _,x=>by cases x<;>rfl
 |.l _,_=>rfl
 |.m _ _,_=>rfl
 |.st n,x=>by simp only[vL,V.refs];exact hS.refs n x
def weakV(hS:S.OK){v:V}{c:TC}{x:c.ty S.T}(h:av [] v (vL S c x))(m:Option M)(Z:ZM)(y:bu)(hr:Rep m Z v y):Rep m Z (vL S c x) y:=by
 cases m with
 |some m=>exact av.rep (w:=default) (λk t sz fz els e=>by cases e) h hr
 |none =>
  let m0:M:=λ_ _=>bh
  have h1:Rep (bc m0) Z v y:=hr.none_some;exact Rep.flat _ _ (oL hS c x) (av.rep (w:=default) (λk t sz fz els e=>by cases e) h h1)
def zqx{cd:Nat->Option TC}{d t:Nat}:(zi2 (S:=S) P cd d t).OK P ⟨dst,.makeMap t bh,ty,pos,aft,gd⟩ E H:=by
 unfold zi2;split
 ·split
  ·intro F R hF hR
   cases zm hF;cases zm hR;exact zbz
  ·trivial
 ·trivial
def zty{kc ec:TC}(D:DecidableEq (kc.ty S.T)){val:kc.ty S.T->bu}{t kt et k:Nat}{x ix:bE}{l:List (kc.ty S.T×ec.ty S.T)}{a:kc.ty S.T}{z:ec.ty S.T}{zv:V}(co:Bool)(hT:zzn P t=bc (kt,et))(K:zqm P kt (vL S kc) val)(hz:zxg P et=bc zv)
  (hzg:∀(m:Option M)(Z:ZM)(y:bu),Rep m Z zv y->Rep m Z (vL S ec z) y) (hx:evA E x=.raw (.mp k)) (hi:(evA E ix).v=vL S kc a) (hg:H.get k=bc (.map kc ec l)):(zPs kc ec k l a z co).OK P ⟨dst,.lookup t x ix co,ty,pos,aft,gd⟩ E H:=by
 intro F R hF hR;cases zm hF;cases wV hg hR;have:=zga (P:=P) (ρ:=eV E) (dst:=dst) (ty:=ty) (pos:=pos) (aft:=aft) (gd:=gd) (x:=x) (ix:=ix) (l:=l) (a:=a) co hT K hz hzg (by rw[zY,hx];rfl) (by rw[zY];exact hi)
 cases co with
 |true=>exact this
 |false=>exact this
def zBo(hS:S.OK){kc ec:TC}(D:DecidableEq (kc.ty S.T)){val:kc.ty S.T->bu}{t kt et k:Nat}{x ix y:bE}{l:List (kc.ty S.T×ec.ty S.T)}{a:kc.ty S.T}{b:ec.ty S.T}(hT:zzn P t=bc (kt,et))(K:zqm P kt (vL S kc) val)
  (hx:evA E x=.raw (.mp k)) (hi:(evA E ix).v=vL S kc a) (hy:(evA E y).v=vL S ec b) (hg:H.get k=bc (.map kc ec l)):(updC kc ec k l a b).OK P ⟨dst,.mapUpdate t x ix y,ty,pos,aft,gd⟩ E H:=by
 intro F R hF hR;cases zm hR;cases wV hg hF;exact Wu (P:=P) (ρ:=eV E) (dst:=dst) (ty:=ty) (pos:=pos) (aft:=aft) (gd:=gd) (x:=x) (ix:=ix) (y:=y) (l:=l) (a:=a) (c:=b) hT K (by rw[zY,hx];rfl) (by rw[zY];exact hi) (by rw[zY];exact hy) (oL hS ec b) (oL hS kc a)
def zcc(hS:S.OK){ec:TC}{zv:V}{rx:Rx (ec.ty S.T)}(h:Zy [] ec (ofV zv)=bc rx)(m:Option M)(Z:ZM)(y:bu)(hr:Rep m Z zv y):Rep m Z (vL S ec rx.x) y:=by
 have h0:rx.fz=[]/\rx.eq=[]:=by
  unfold Zy at h;split at h
  ·rename_i rx' e
   cases h;exact zmo e
  ·split at h
   ·cases ec<;>first|(cases h;done)|skip
    simp only[zBa]at h;split at h
    ·rename_i rx' e
     cases h;exact Ww _ _ _ _ _ e
    ·cases h
   ·cases h
 have hv:=zcb hS (R:=[]) h (by rw[h0.2];intro p hp;cases hp) (by rw[h0.1];intro k hk;cases hk);rw[zA8]at hv;exact weakV hS hv m Z y hr
def zxo(hS:S.OK){t:Nat}{x ix:bE}{co:Bool}:(zqv P H t (evA E x) (evA E ix) co).OK P ⟨dst,.lookup t x ix co,ty,pos,aft,gd⟩ E H:=by
 unfold zqv;split
 ·rename_i kt et hT
  split
  ·rename_i k zv hx hz
   split
   ·rename_i ec l a hg hi
    split
    ·rename_i rx hk hd
     exact zty (val:=λs:ak=>.string ⟨s.toArray⟩) zxn co hT (Wt hk) hz (zcc hS hd) hx (by rw[hi];rfl) hg
    ·trivial
   ·rename_i q ec l q' a hg hi
    split
    ·rename_i q'' rx hk hd
     split
     ·rename_i hq
      obtain⟨rfl,rfl⟩:=hq;exact zty (val:=λn:Int=>.int q'' n) (zZz q'') co hT (zmh hk) hz (zcc hS hd) hx (by rw[hi];rfl) hg
     ·trivial
    ·trivial
   ·trivial
  ·trivial
 ·trivial
def zi3(hS:S.OK){t:Nat}{x ix y:bE}:(YT P H t (evA E x) (evA E ix) (evA E y)).OK P ⟨dst,.mapUpdate t x ix y,ty,pos,aft,gd⟩ E H:=by
 unfold YT;split
 ·rename_i kt et hT
  split
  ·rename_i k ec' b hx hy
   split
   ·rename_i ec l a hg hi
    split
    ·rename_i hk
     split
     ·rename_i e
      subst e;exact zBo hS (val:=λs:ak=>.string ⟨s.toArray⟩) zxn hT (Wt hk) hx (by rw[hi];rfl) (by rw[<- zqw,hy];rfl) hg
     ·trivial
    ·trivial
   ·rename_i q ec l q' a hg hi
    split
    ·rename_i q'' hk
     split
     ·rename_i e
      subst e;split
      ·rename_i hq
       obtain⟨rfl,rfl⟩:=hq;exact zBo hS (val:=λn:Int=>.int q'' n) (zZz q'') hT (zmh hk) hx (by rw[hi];rfl) (by rw[<- zqw,hy];rfl) hg
      ·trivial
     ·trivial
    ·trivial
   ·trivial
  ·trivial
 ·trivial
def zBp(hS:S.OK){t:Nat}{x y:bE}:(zBg P H t (evA E x) (evA E y)).OK P ⟨dst,.store t x y,ty,pos,aft,gd⟩ E H:=by
 unfold zBg;split
 ·trivial
 ·rename_i u hu
  obtain⟨c1,c2⟩:=A.cells_v hS hu;split
  ·rename_i k off e
   split
   ·rename_i bt cs hg
    cases hb:(A.vs u).all V.one&&(H0 P t u.length&&cm (off+u.length) cs.length)with
    |false=>trivial
    |true =>
     simp only[bn]at hb;intro F R hF hR;cases zm hR;cases wV hg hF;have hl:=zAf (P:=P) (ρ:=eV E) (dst:=dst) (ty:=ty) (pos:=pos) (aft:=aft) (gd:=gd) (t:=t) (k:=k) (off:=off) (bt:=bt) (a:=x) (x:=y) (cs:=A.vs cs) (by rw[zY,e];rfl) (by rw[zY];exact c2) (by rw[zY,<- c1];exact hb.1) (by rw[zY,<- c1,qN];exact hb.2.1) (by rw[zY,<- c1,qN,qN];exact lb hb.2.2);rw[zY,<- c1,qN]at hl
     show EV.Loc P _ _ [(k,.box bt (A.vs cs))] .no [(k,.box bt (A.vs (cs.take off++u++cs.drop (off+u.length))))]
     rw[JS,JS,wG (cs.take off),wG (cs.drop _),dN,eH,<- wG];exact hl
   ·trivial
  ·rename_i k L i off sz e
   split
   ·rename_i et c l wl hg
    cases hb:bk sz (zR S c)&&(H0 P t u.length&&((A.vs u).all V.one&&(evA E y).v.refs.isEmpty))with
    |false=>trivial
    |true =>
     simp only[bn]at hb;have hsz:=eb hb.1;subst hsz;intro heq z hz a F' hr F R hF hR;have hL:L=l.length:=(heq _ (msQ.2 rfl)).trans wl.h.symm;dsimp only at hr;split at hr
     ·rename_i cs hcs
      split at hr
      ·rename_i z' fz' eq' hd
       cases hb2:cm (off+u.length) (zR S c)with
       |false=>rw[hb2]at hr;cases hr
       |true =>
        rw[hb2]at hr;cases hr;cases zm hR;cases wV hg hF;have hw:=ziy hS hd;have hcs':=zao hS _ _ _ _ hcs;have hb2':=lb hb2;have hlen:=jb hS c z
        have hcl:cs.length=zR S c:=by rw[<- hlen,<- hcs',qN]
        have hrf:(evV (eV E) y).refs=[]:=by rw[zY];exact eh.1 hb.2.2.2
        refine zis (et:=et) (sz:=zR S c) (fz:=0) (L:=L) (off:=i*zR S c+off) (cs:=HU S c z) (c1:=A.vs (cs.take off++u++cs.drop (off+u.length))) (c2:=HU S c z') i off (by rw[zY,e];rfl) (by rw[hL,bN]) rfl (by rw[cK,hz];rfl) (cj _)
         (by rw[zY];exact c2) (by rw[zY,<- c1];exact hb.2.2.1) hrf (by rw[zY,<- c1,qN];exact hb.2.1) (by rw[zY,<- c1,qN];exact hb2) ?_ hw ?_ (List.map_set ..).symm
        ·rw[zY,<- c1,JS,JS,wG (cs.take off),wG (cs.drop _),dN,eH,<- wG,hcs',qN]
        ·rw[qN,jb hS]
         have:(cs.take off++u++cs.drop (off+u.length)).length=zR S c:=by
          simp only[la,cE,cz];omega
         rw[this];exact cD _
      ·cases hr
     ·cases hr
   ·trivial
  ·trivial
end
end
end Go.EQ
namespace Go.EV
open Go Go.RowKit Go.Eng
def goneO:Obj->Obj
 |.glob g ob cs=>.glob g ob cs
 |_=>.gen gone
def zfh(F:ax):ax:=F.map λp=>(p.1,goneO p.2)
def zxp(v:bu):PanicEntry:={ v,recovered:=bd }
def YU(F:ax):keys (zfh F)=keys F:=by simp[keys,zfh]
def zgi{F:ax}{p:Nat×Obj}(hp:p∈F)(h:zUw p=bf):p∈zfh F:=by
 refine bx.2 ⟨p,hp,?_⟩;obtain⟨k,o⟩:=p
 cases o<;>first|rfl|(cases h;done)
def Wx{F:ax}{p:Nat×Obj}(hp:p∈zfh F):(∃k,p=(k,.gen gone))∨(p∈F/\∃k g ob cs,p=(k,.glob g ob cs)):=by
 obtain⟨q,hq,rfl⟩:=bx.1 hp;obtain⟨k,o⟩:=q
 cases o with
 |glob g ob cs=>exact .inr ⟨hq,k,g,ob,cs,rfl⟩
 |_=>exact .inl ⟨k,rfl⟩
def zHz{m:M}{Z:ZM}{w:bG}{k g:Nat}{ob:Go.Obj}{cs:List V}(h:Holds m Z w k (.glob g ob cs)):blk m (k,.glob g ob cs) g:=by
 show u6 m (k,.glob g ob cs)=bc g
 simp[u6,Obj.ver,h.1]
def KG(GK H:ax):Prop:=∀p∈GK,zUw p=bf->p∈H
structure zqy(m:M)(Z:ZM)(F:ax)(w:bG)(Z':ZM)(w':bG):Prop where
 frozen:∀a x,Z' a=bc x->w'.cell? a=bc x
 zext:∀a x,Z a=bc x->Z' a=bc x
 os:w'.os=w.os
 tape:w'.tape=w.tape
 output:w'.output=w.output
 size:w.heap.size<=w'.heap.size
 frame:∀b,b<w.heap.size->(∀p∈F,¬blk m p b)->w'.heap[b]?=w.heap[b]?
 znew:∀a x,Z' a=bc x->Z a=bc x∨w.heap.size<=a.block∨∃q∈F,blk m q a.block
 glob:∀k g ob cs,(k,.glob g ob cs)∈F->w'.heap[g]?=w.heap[g]?
def zqy.step{m:M}{Z Z':ZM}{F:ax}{w w':bG}(hs:wQ m Z F w)(h:zqy m Z F w Z' w'):Step m Z F w m Z' (zfh F) w':=by
 refine⟨⟨h.frozen,λp hp=>?_,by rw[YU];exact hs.nodup,λp hp q hq b h1 h2=>?_⟩,λ_ _ _ e=>e,h.zext,h.os,h.tape,h.output,h.size,h.frame,λk hk=>by rw[YU];exact hk,λ_ _=>rfl,λp hp b hb=>?_,h.znew⟩
 ·rcases Wx hp with⟨k,rfl⟩|⟨hm,k,g,ob,cs,rfl⟩
  ·trivial
  ·obtain⟨h1,⟨h2,cur,u,fr,h3,h4⟩,h5⟩:=hs.holds _ hm
   exact⟨h1,⟨(h.glob k g ob cs hm).trans h2,cur,u,fr,h3,h4.up h.zext (λf e=>by cases e)⟩,h5⟩
 ·rcases Wx hp with⟨k,rfl⟩|⟨hm,_⟩
  ·exact h1.elim
  ·rcases Wx hq with⟨k,rfl⟩|⟨hm2,_⟩
   ·exact h2.elim
   ·exact hs.disj p hm q hm2 b h1 h2
 ·rcases Wx hp with⟨k,rfl⟩|⟨hm,_⟩
  ·exact hb.elim
  ·exact .inr ⟨p,hm,hb⟩
def Step.lost{m m':M}{Z Z':ZM}{F F':ax}{w w':bG}(h:Step m Z F w m' Z' F' w')(hg:∀k g ob cs,(k,.glob g ob cs)∈F->w'.heap[g]?=w.heap[g]?):zqy m Z F w Z' w':=⟨h.sim.frozen,h.zext,h.os,h.tape,h.output,h.size,h.frame,h.znew,hg⟩
def FnP(P:bm)(f:FuncId)(args:List V)(F:ax)(v:bu):Prop :=
 ∀w m Z vals,wQ m Z F w->zT (bc m) Z args vals->(∀k,k ∉ keys F->∀L,m k L=bh) ->
  Calls P f vals.toArray w λen w'=>en=.panicked [zxp v]/\∃Z',zqy m Z F w Z' w'
def zBq(P:bm)(o:Oper)(ρr:yL)(w:bG)(R:bu->bG->Prop):Prop :=
 ku o.op=bf/\((∃v w',(bY (ev ρr) o).run P w=.halt (.panic v) w'/\R v w') ∨
  ∃f args w1,(bY (ev ρr) o).run P w=.ok (.enter f args) w1/\Calls P f args w1 λen w'=>∃v,en=.panicked [zxp v]/\R v w')
def zH0(P:bm)(o:Oper)(ρ:Env)(F:ax)(v:bu):Prop :=
 ∀ρr m Z w,(∀x∈o.op.operands,Rep (bc m) Z (evV ρ x) (ev ρr x))->wQ m Z F w->zBq P o ρr w λx w'=>x=v/\∃Z',zqy m Z F w Z' w'
section
variable{P:bm}{f:FuncId}{args:List V}{F R:ax}{v:bu}{ρ:Env}
def zBq.mono{o:Oper}{ρr:yL}{w:bG}{R R':bu->bG->Prop}(h:zBq P o ρr w R)(hm:∀x w',R x w'->R' x w'):zBq P o ρr w R':=by
 refine⟨h.1,?_⟩
 rcases h.2 with⟨x,w',h1,h2⟩|⟨g,args,w1,h1,h2⟩
 ·exact .inl ⟨x,w',h1,hm _ _ h2⟩
 ·exact .inr ⟨g,args,w1,h1,Calls.mono h2 λ_ _ ⟨x,e,hr⟩=>⟨x,e,hm _ _ hr⟩⟩
def FnP.at{σ:Nat->Nat}(h:FnP P f args F v)(hσ:yt ((keys F).map σ)=bf)(hcl:AX args F=bf):
  ∀w m Z vals,wQ m Z (Kx σ F) w->zT (bc m) Z (zfa σ args) vals ->
   Calls P f vals.toArray w λen w'=>en=.panicked [zxp v]/\∃Z',zqy m Z (Kx σ F) w Z' w':=by
 intro w m Z vals hs hv;simp only[AX,bn]at hcl;have hinj:∀{a b:Nat},a∈keys F->b∈keys F->σ a=σ b->a=b:=zAi (yz hσ)
 let mc:M:=λk L=>if k∈keys F then m (σ k) L else bh
 have hmc:∀k∈keys F,mc k=m (σ k):=λk hk=>by funext L;simp[mc,hk]
 have hmcn:∀k,k ∉ keys F->∀L,mc k L=bh:=λk hk L=>by simp[mc,hk]
 have hblk:∀p∈F,blk mc p=blk m (σ p.1,p.2.ren σ):=λp hp=>zb1 (hmc p.1 (ay hp))
 have hmem:∀p∈F,(σ p.1,p.2.ren σ)∈Kx σ F:=λp hp=>bx.2 ⟨p,hp,rfl⟩
 have hsc:wQ mc Z F w:=by
  refine⟨hs.frozen,λp hp=>?_,?_,λp hp q hq b h1 h2=>?_⟩
  ·have hh:=hs.holds _ (hmem p hp)
   have hk:=hmc p.1 (ay hp);obtain⟨k,o⟩:=p
   cases o with
   |box t cs =>
    obtain⟨b,cur,h1,h2,h3,h4,h5⟩:=hh;refine⟨b,cur,by rw[hk];exact h1,h2,zT.unren σ cs _ (λj hj L loc e=>?_) h3,h4,by rw[hk];exact h5⟩;have:=(bj.1 hcl.2) _ hp;have:=(bj.1 this) j hj;rw[hmc j (by simpa using this)];exact e
   |row t sz fz els =>
    rcases hh with⟨h1,h2,h3,⟨b,h4⟩,h5⟩|⟨b,cap,cur,fr,h1,h2⟩
    ·exact .inl ⟨h1,h2,h3,⟨b,by rw[hk];exact h4⟩,by rw[hk];exact h5⟩
    ·exact .inr ⟨b,cap,cur,fr,by rw[hk];exact h1,by rw[hk];exact h2⟩
   |map l =>
    obtain⟨b,es,clock,h1,h2⟩:=hh;exact⟨b,es,clock,by rw[hk];exact h1,by rw[hk];exact h2⟩
   |glob g t cs=>exact⟨by rw[hk];exact hh.1,hh.2.1,by rw[hk];exact hh.2.2⟩
   |nest t e sz pd ls =>
    show uw (mc k) _ _ t e sz pd ls
    rw[hk];exact hh
   |gen G =>
    show G.holds (mc k) _ _
    rw[hk];exact hh
  ·have:=hs.nodup
   rw[vB]at this;exact wR _ this
  ·rw[hblk p hp]at h1
   rw[hblk q hq]at h2;exact hinj (ay hp) (ay hq) (hs.disj _ (hmem p hp) _ (hmem q hq) b h1 h2)
 refine Calls.mono (h w mc Z vals hsc (zT.unren σ args vals (λj hj L loc e=>?_) hv) hmcn) ?_
 ·have:=(bj.1 hcl.1) j hj
  rw[hmc j (by simpa using this)];exact e
 rintro en w' ⟨he,Z',hl⟩;refine⟨he,Z',hl.frozen,hl.zext,hl.os,hl.tape,hl.output,hl.size,λb hb hn=>hl.frame b hb λp hp hbp=>?_,λa x e=>?_,λk g ob cs hk=>?_⟩
 rotate_left 2
 ·obtain⟨⟨k0,o0⟩,hp,e⟩:=bx.1 hk
  simp only[Prod.mk.injEq]at e;obtain⟨_,e⟩:=e;cases o0<;>simp only[Obj.ren,reduceCtorEq,Obj.glob.injEq]at e;obtain⟨rfl,rfl,rfl⟩:=e;exact hl.glob _ _ _ _ hp
 ·rw[hblk p hp]at hbp
  exact hn _ (hmem p hp) hbp
 ·rcases hl.znew a x e with h1|h1|⟨q,hq,h1⟩
  ·exact .inl h1
  ·exact .inr (.inl h1)
  ·rw[hblk q hq]at h1
   exact .inr (.inr ⟨_,hmem q hq,h1⟩)
def zH1(P:bm)(o:Oper)(ρ:Env)(f:FuncId)(vs:List V):Prop :=
 ∀ρr m Z w,(∀x∈o.op.operands,Rep (bc m) Z (evV ρ x) (ev ρr x))->∃vals:List bu,zT (bc m) Z vs vals/\ku o.op=bf/\(bY (ev ρr) o).run P w=.ok (.enter f vals.toArray) w
def zqy.frame_rule{m:M}{Z Z':ZM}{w w':bG}(hs:wQ m Z (F++R) w)(h:zqy m Z F w Z' w'):zqy m Z (F++R) w Z' w' :=
 ⟨h.frozen,h.zext,h.os,h.tape,h.output,h.size,λb hb hn=>h.frame b hb λp hp=>hn p (bK _ hp),λa x e=>by
  rcases h.znew a x e with h1|h1|⟨q,hq,h1⟩
  ·exact .inl h1
  ·exact .inr (.inl h1)
  ·exact .inr (.inr ⟨q,bK _ hq,h1⟩),λk g ob cs hk=>by
  rcases bz.1 hk with hk|hk
  ·exact h.glob _ _ _ _ hk
  ·have hb:=zHz (hs.holds _ (bL _ hk))
   refine h.frame g ((hs.holds _ (bL _ hk)).blk _ hb) λp hp hpb=>?_
   have e:=hs.disj p (bK _ hp) _ (bL _ hk) g hpb hb;have hn:=hs.nodup;rw[zH]at hn
   exact(cu.1 hn).2.2 _ (ay hp) _ (ay hk) e⟩
def zH2{o:Oper}{vs:List V}(σ:List (Nat×Nat))(hc:zH1 P o ρ f vs)(h:FnP P f args F v)(hv:kq R vs (zfa (asg σ) args))(hR:frz R=R)(hσ:yt ((keys F).map (asg σ))=bf)(hcl:AX args F=bf):
  zH0 P o ρ (Kx (asg σ) F++R) v:=by
 intro ρr m Z w hops hs;obtain⟨vals,hvals,hnd,hex⟩:=hc ρr m Z w hops
 have hRk:∀k t sz fz els,R.get k=bc (.row t sz fz els)->Holds m Z w k (.row t sz els.length els):=λk t sz fz els hg=>by
  have hmem:=ax.get_mem hg;have h1:=hs.holds _ (bL _ hmem)
  have:fz=els.length:=by
   rw[<- hR]at hmem
   rcases k8 hmem with⟨k',t',sz',fz',els',h2,h3⟩|⟨h2,h3⟩
   ·simp only[Prod.mk.injEq,Obj.row.injEq]at h3
    obtain⟨_,_,_,e1,e2⟩:=h3;rw[e1,e2]
   ·exact aU rfl (h3 t sz fz els)
  subst this;exact h1
 have hvals':=kq.rep hRk hv hvals;refine⟨hnd,.inr ⟨f,_,w,hex,Calls.mono (h.at hσ hcl w m Z _ hs.left hvals') ?_⟩⟩;rintro en w' ⟨he,Z',hl⟩;exact⟨v,he,rfl,Z',hl.frame_rule hs⟩
def ztz{k g:Nat}{ob:Go.Obj}{cs:List V}:∀{F:ax},(k,Obj.glob g ob cs)∈F->(k,Obj.glob g ob cs)∈frz F
 |[],h=>by cases h
 |(k0,o0)::r,h=>by
  rcases bp.1 h with e|h2
  ·cases e
   exact al
  ·clear h
   cases o0<;>exact mcQ _ (ztz h2)
def zH3{o:Oper}{Fa F:ax}(h:zH0 P o ρ (Fa++frz F) v):zH0 P o ρ (Fa++F) v:=by
 intro ρr m Z w hops hs;have hst:Step m Z F w m (zl5 m Z F w) (frz F) w:=Step.freeze hs.right
 have hs2:wQ m (zl5 m Z F w) (Fa++frz F) w:=by
  have:=Step.frame_rule (F:=F) (F':=frz F) (G:=Fa) (hs.perm di) hst (λp hp q hq e=>by
   have hk:p.1∈keys F:=by rw[<- wT];exact ay hp
   have hn:=hs.nodup;rw[zH]at hn
   exact(cu.1 hn).2.2 _ (ay hq) _ hk e.symm)
  exact this.sim.perm di
 refine(h ρr m _ w (λx hx=>(hops x hx).up hst.zext (λf e=>by cases e;exact⟨m,rfl,λ_ _ _ e=>e⟩)) hs2).mono λx w' ⟨hx,Z',hl⟩=>⟨hx,Z',hl.frozen,λa y e=>hl.zext a y (hst.zext a y e),hl.os,hl.tape,hl.output,hl.size,λb hb hn=>hl.frame b hb λp hp hbp=>?_,λa y e=>?_,λk g ob cs hk=>hl.glob k g ob cs (by
  rcases bz.1 hk with hk|hk
  ·exact bK _ hk
  ·exact bL _ (ztz hk))⟩
 ·rcases bz.1 hp with hp|hp
  ·exact hn p (bK _ hp) hbp
  ·rcases hst.blks p hp b hbp with h1|⟨q,hq,h1⟩
   ·omega
   ·exact hn q (bL _ hq) h1
 ·rcases hl.znew a y e with h1|h1|⟨q,hq,h1⟩
  ·rcases hst.znew a y h1 with h2|h2|⟨q,hq,h2⟩
   ·exact .inl h2
   ·exact .inr (.inl h2)
   ·exact .inr (.inr ⟨q,bL _ hq,h2⟩)
  ·exact .inr (.inl h1)
  ·rcases bz.1 hq with hq|hq
   ·exact .inr (.inr ⟨q,bK _ hq,h1⟩)
   ·rcases hst.blks q hq _ h1 with h2|⟨q',hq',h2⟩
    ·exact .inr (.inl h2)
    ·exact .inr (.inr ⟨q',bL _ hq',h2⟩)
end
section
variable{K0:List Nat}{c:Ctx K0}{P:bm}{r:Option Nat}{N:Nat}{Q:wj}{ρ:Env}{H:ax}{ds:List cb}{all rest:List Oper}{o:Oper}{v:bu}
def Vu.lost{m:M}{Z Z':ZM}{w w':bG}(S:Vu c m Z H w)(h:zqy m Z H w Z' w'):Vu c m Z' (zfh H) w' :=
 ⟨S.step.trans (h.step S.step.sim),λk hk L=>S.dom k (by rw[YU]at hk;exact hk) L⟩
def zMd{F:ax}(ks:List Nat)(hw:xx all ρ o=bc bf)(hks:yt ks=bf)(hF:ux ks H=bc F)(hl:zH0 P o ρ F v)
  (h:∀H',KG H H'->Q (.panic [zxp v]) [] H' ds):ze2 c P r N all Q (o::rest) ρ H ds:=by
 rintro ρr w ds1 ⟨m,Z,S,hR⟩ hM a n hf;have hp:=ja S.step.sim.nodup (yz hks) hF;have hs:wQ m Z (F++qK ks H) w:=S.step.sim.perm hp;obtain⟨hn,hex⟩:=hl ρr m Z w (λx _=>hR.ev x) hs.left;have hw':=(hf.wanted all _).trans (jD hR hw)
 have go:∀w',(∃Z',zqy m Z F w Z' w')->lift N (zl1 c Q ds) (.panic [zxp v]) a w':=λw' ⟨Z',hlo⟩=>by
  have hlo2:zqy m Z H w Z' w':=by
   have h1:=hlo.frame_rule hs
   exact⟨h1.frozen,h1.zext,h1.os,h1.tape,h1.output,h1.size,λb hb hnb=>h1.frame b hb λp hp'=>hnb p (hp.mem_iff.2 hp'),λa' x e=>by
    rcases h1.znew a' x e with h2|h2|⟨q,hq,h2⟩
    ·exact .inl h2
    ·exact .inr (.inl h2)
    ·exact .inr (.inr ⟨q,hp.mem_iff.2 hq,h2⟩),λk g ob cs hk=>h1.glob k g ob cs (hp.mem_iff.1 hk)⟩
  refine⟨ρr,ds1,hf,[],_,⟨_,Z',S.lost hlo2,λ_=>trivial⟩,?_,h _ λp hp h=>zgi hp h⟩;exact xw.step hM S.step.sim (hlo2.step S.step.sim)
 simp only[wpListIn,hw',if_true];refine⟨λ_ _=>trivial,?_⟩;rw[Ax hn,hf.eval]
 rcases hex with⟨x,w',hrun,rfl,hx⟩|⟨f,args,w1,hrun,hx⟩
 ·rw[hrun,Oper.uponIn_panic]
  exact go w' hx
 ·rw[hrun,Oper.uponIn_enter]
  refine⟨λhx=>by simp[Fw]at hx,(A8 r hx).mono λe w'' hR2=>?_⟩;obtain⟨x,rfl,rfl,hx2⟩:=hR2;exact go w'' hx2
end
def qO{P:bm}{fn:Func}{tmps:Array bu}{R:Ending->bG->Prop}{chain:List PanicEntry}:∀(ds:List cb)(w w':bG),zz1 ds w w'->R (.panicked chain) w'->LeavesInM Fence.wide 0 P fn tmps R ds (.panicking chain) w
 |[],w,w',ht,hR=>by
  subst ht;exact hR
 |d::ds,w,w',⟨D,hd,hh,ht⟩,hR=>by
  subst hd;exact⟨af,.inl ⟨D,_,rfl,run_takeDeferred hh,qO ds _ w' ht hR⟩⟩
mutual
/-- What a value is that needs no memory. -/
def zPt:V->bu
 |.int k n=>.int k n
 |.bool b=>.bool b
 |.str l=>.string ⟨l.toArray⟩
 |.agg cs=>.agg (zPu cs).toArray
 |.ifc t v=>.iface t (zPt v)
 |_=>Go.undef
def zPu:List V->List bu
 |[]=>[]
 |v::vs=>zPt v::zPu vs
end
mutual
def zcd:V->Bool
 |.int _ _=>bf
 |.bool _=>bf
 |.str _=>bf
 |.agg cs=>zi4 cs
 |.ifc _ v=>zcd v
 |_=>bd
def zi4:List V->Bool
 |[]=>bf
 |v::vs=>zcd v&&zi4 vs
end
mutual
def zi5{m:Option M}{Z:ZM}:∀(v:V)(x:bu),zcd v=bf->Rep m Z v x->x=zPt v
 |.int _ _,x,_,h=>h
 |.bool _,x,_,h=>h
 |.str _,x,_,h=>h
 |.agg cs,x,hb,h=>by
  obtain⟨l,rfl,h1⟩:=h;rw[zmr cs l hb h1];rfl
 |.ifc t v,x,hb,h=>by
  obtain⟨y,rfl,h1⟩:=h;rw[zi5 v y hb h1];rfl
 |.undef,_,hb,_=>by cases hb
 |.no,_,hb,_=>by cases hb
 |.nilp,_,hb,_=>by cases hb
 |.ptr ..,_,hb,_=>by cases hb
 |.vp ..,_,hb,_=>by cases hb
 |.nils,_,hb,_=>by cases hb
 |.sl ..,_,hb,_=>by cases hb
 |.vs ..,_,hb,_=>by cases hb
 |.fn ..,_,hb,_=>by cases hb
 |.nilf,_,hb,_=>by cases hb
 |.tup _,_,hb,_=>by cases hb
 |.nilm,_,hb,_=>by cases hb
 |.mp _,_,hb,_=>by cases hb
 |.nili,_,hb,_=>by cases hb
 |.gv ..,_,hb,_=>by cases hb
 |.pv _,_,hb,_=>by cases hb
def zmr{m:Option M}{Z:ZM}:∀(vs:List V)(l:List bu),zi4 vs=bf->zT m Z vs l->l=zPu vs
 |[],l,_,h=>h
 |v::vs,l,hb,h=>by
  simp only[zi4,bn]at hb;obtain⟨x,xs,rfl,h1,h2⟩:=h;rw[zi5 v x hb.1 h1,zmr vs xs hb.2 h2];rfl
end
def zqz{P:bm}{ρ:Env}{dst:Option Tmp}{ty:bJ}{pos:String}{aft:Array Edge}{gd:Option (Nat×Bool)}{x:bE}{t:Nat}{v:V}(hx:evV ρ x=.ifc t v)(hf:zcd v=bf):zH0 P ⟨dst,.panic x,ty,pos,aft,gd⟩ ρ [] (zPt (.ifc t v)):=by
 intro ρr m Z w hops hs;have hX:=hops x (by simp[Op.operands]);rw[hx]at hX;have hX:=zi5 (.ifc t v) _ hf hX;refine⟨rfl,.inl ⟨_,w,?_,rfl,Z,hs.frozen,λ_ _ e=>e,rfl,rfl,rfl,aq,λ_ _ _=>rfl,λ_ _ e=>.inl e,λ_ _ _ _ _=>rfl⟩⟩;simp only[bY,hX,zPt];rfl
def finP(v:bu)(GK:ax):wj
 |.panic ch,_,H,_=>ch=[zxp v]/\KG GK H
 |_,_,_,_=>False
def zBr{P:bm}{f:FuncId}{args:List V}{F:ax}{v:bu}{N:Nat}{fn:Func}{code:Code}(hf:P.funcs[f]?=bc fn)(hb:fn.body=bc code)(hN:fn.ntmps=N)(ha:cm args.length N=bf)
  (h:∀c:Ctx (keys F),WpV c P bh N code (finP v F) (zb0 args) F []):FnP P f args F v:=by
 intro w m Z vals hs hv hdom;have hvl:=hv.length
 have S:QB (⟨[],w,m,Z,F,rfl,hdom⟩:Ctx (keys F)) (zb0 args) F (jL vals) w:=⟨m,Z,⟨Step.refl hs,hdom⟩,λt=>by
  have:=Wm args vals 0 t hv
  simpa[zb0,jL]using this⟩
 have h':=h ⟨[],w,m,Z,F,rfl,hdom⟩ _ _ _ S (xw.nil rfl);have ha:=lb ha;refine(callsIn_wide (n:=0)).1 (callsIn_of_wp_marks hf hb trivial ?_)
 refine wpIn_mono (h' _ 0 ⟨?_,rfl,λt=>?_⟩) λe a w' hq=>?_
 ·simp;omega
 ·simp only[jL,cx,ca]
  rw[Array.getElem?_append];split
  ·simp
  ·rename_i hlt
   simp only[cN]at hlt;rw[List.getElem?_eq_none ab];simp only[cN];rw[dy];split<;>rfl
 ·obtain⟨ρr',ds',hf',ρ',H',S',hmk,hq⟩:=hq
  obtain⟨Ds,hds,hn,hD⟩:=hmk.marks rfl
  cases e with
  |panic ch =>
   obtain⟨hch,hkg⟩:ch=[zxp v]/\KG F H':=hq;subst hch;obtain⟨m',Z',S2,hR⟩:=S';obtain⟨w2,ht,S4⟩:=zie Ds w' hn hD S2;refine qO _ _ _ (by rw[hf'.defs,hds];exact ht) ⟨rfl,Z',?_⟩
   exact S4.step.lost λk g ob cs hk=>((S4.step.sim.holds _ (hkg _ hk rfl)).2.1.1).trans ((hs.holds _ hk).2.1.1).symm
  |normal=>exact hq.elim
  |ret=>exact hq.elim
  |exit id=>exact hq.elim
  |goto l=>exact hq.elim
  |outgrown=>exact hq.elim
def zBs(P:bm)(o:Oper)(g:bE->V)(F:ax)(v:bu):Prop :=
 ∀ρr m Z w,(∀x∈o.op.operands,Rep (bc m) Z (g x) (ev ρr x))->wQ m Z F w->zBq P o ρr w λx w'=>x=v/\∃Z',zqy m Z F w Z' w'
def zBs.congr{P:bm}{o:Oper}{g g':bE->V}{F:ax}{v:bu}(h:zBs P o g F v)(hg:∀x∈o.op.operands,g' x=g x):zBs P o g' F v :=
 λρr m Z w hops=>h ρr m Z w λx hx=>by rw[<- hg x hx];exact hops x hx
def Vy(P:bm)(all:List Oper)(fp:FP)(e:Nat->V)(η:HF)(v:bu):Prop :=
 ∃o F R,all[fp.i]?=bc o/\AY all e o=bc bf/\zBs P o (evF e) (F++R) v/\(keys (F++R)).Nodup/\keys F=fp.fk/\keys R=fp.rk/\∀p∈F++R,η p.1=bc p.2
section
variable{K0:List Nat}{c:Ctx K0}{P:bm}{r:Option Nat}{N:Nat}{all:List Oper}{ds:List cb}{v:bu}
def Vy.back{x p:FP}{e e1:Nat->V}{η η1:HF}(h:j7 P N all x e η e1 η1)(k:Vy P all p e1 η1 v)(hi:JR all x p=bf):Vy P all p e η v:=by
 obtain⟨o,u,ho,hn,hd,rfl,h⟩:=h;obtain⟨o',F,R,ho',hw,hl,hnd,hF,hR,hg⟩:=k;simp only[JR,ho,ho',bn]at hi;obtain⟨hs,hs',hk1,hk2⟩:=hi;have hk1:=H5 hk1;have hk2:=H5 hk2;obtain⟨ev1,ew1⟩:=zii (v:=u) (e:=e) hs;refine⟨o',F,R,ho',by rw[<- ew1];exact hw,hl.congr λx hx=>(ev1 x hx).symm,hnd,hF,hR,λp hp=>?_⟩;rw[<- hg p hp]
 rcases h with⟨_,_,rfl,_,_⟩|⟨_,F1,R1,F1',_,_,_,_,ek,_,_,_,rfl,_⟩
 ·rfl
 ·refine(xP λhm=>?_).symm
  rw[ek]at hm
  rcases bz.1 hp with hp|hp
  ·exact hk1 _ hm (hF▸ay hp)
  ·exact hk2 _ hm (hR▸ay hp)
def zms(GK:ax)(η:HF):Prop:=∀p∈GK,η p.1=bc p.2
def j7.off{x:FP}{e e1:Nat->V}{η η1:HF}(h:j7 P N all x e η e1 η1){k:Nat}(hk:k ∉ x.fk):η1 k=η k:=by
 obtain⟨o,u,ho,hn,hd,rfl,h⟩:=h
 rcases h with⟨_,_,rfl,_,_⟩|⟨_,F1,R1,F1',_,_,_,_,ek,_,_,_,rfl,_⟩
 ·rfl
 ·exact xP (by rw[ek];exact hk)
inductive wH(GK:ax)(P:bm)(N:Nat)(all:List Oper):List FP->(Nat->V)->HF->(Nat->V)->HF->Prop
 |nil {e:Nat->V} {η:HF}:wH GK P N all [] e η e η
 |cons {a:FP} {l:List FP} {e e1 e2:Nat->V} {η η1 η2:HF} (h:j7 P N all a e η e1 η1) (g:zms GK η1) (k:wH GK P N all l e1 η1 e2 η2):wH GK P N all (a::l) e η e2 η2
def zPv{a b:FP}(hi:Vi all a b=bf):∀k∈a.fk,k ∉ b.fk:=by
 unfold Vi at hi;split at hi
 ·simp only[bn,cZ,zPb]at hi
  rcases hi.2.2 with h|h
  ·exact H5 h.1
  ·intro k hk
   rw[(zL4 h).1]at hk;cases hk
 ·cases hi
def wH.front{GK:ax}{b:FP}{l2:List FP}:∀{l1:List FP}{e e2:Nat->V}{η η2:HF},zms GK η->wH GK P N all (l1++b::l2) e η e2 η2->(∀a∈l1,Vi all a b=bf) ->
  ∃e1 η1,j7 P N all b e η e1 η1/\zms GK η1/\wH GK P N all (l1++l2) e1 η1 e2 η2
 |[],e,e2,η,η2,_,h,_=>by
  cases h with
  |cons h g k=>exact⟨_,_,h,g,k⟩
 |a::l1,e,e2,η,η2,g0,h,hi=>by
  cases h with
  |cons h g k =>
   obtain⟨e1,η1,h1,g1,h2⟩:=wH.front (l1:=l1) g k λc hc=>hi c (mcQ _ hc)
   have hd:=zPv (hi a al);obtain⟨e1',η1',h3,h4⟩:=h.swap h1 (hi a al);refine⟨e1',η1',h3,λp hp=>?_,.cons h4 g1 h2⟩;by_cases hk:p.1∈b.fk
   ·rw[<- h4.off λhka=>hd _ hka hk]
    exact g1 p hp
   ·rw[h3.off hk]
    exact g0 p hp
def wH.back{GK:ax}{p:FP}{e2:Nat->V}{η2:HF}(k:Vy P all p e2 η2 v):∀{L:List FP}{e:Nat->V}{η:HF},wH GK P N all L e η e2 η2->(∀x∈L,JR all x p=bf)->Vy P all p e η v
 |[],_,_,h,_=>by cases h;exact k
 |x::L,_,_,h,hi=>by
  cases h with
  |cons h g h'=>exact(wH.back k h' λy hy=>hi y (mcQ _ hy)).back h (hi x al)
def zH4{GK:ax}{Q:wj}{ds0:List cb}{fp:FP}{e:Nat->V}{η:HF}{a:Act}{w:bG}{n:Nat}{KK:Act->bG->Prop}(hs:Vy P all fp e η v)(S:zPc c N ds e η a w)(hG:zms GK η)(h:∀H',KG GK H'->Q (.panic [zxp v]) [] H' ds0):wpOpIn (Fw r) n P all.toArray (lift N (zl1 c Q ds0)) fp.i KK a w:=by
 obtain⟨o,F,R,ho,hw,hl,hnd,_,_,hg⟩:=hs;obtain⟨hM,ρr,ρ,H,hf,rfl,rfl,m,Z,SC,hR⟩:=S
 have ho':all.toArray[fp.i]?=bc o:=by simpa using ho
 unfold wpOpIn;simp only[ho'];have hw':=(hf.wanted all o).trans (jD hR hw);simp only[hw',if_true];refine⟨λ_ _=>trivial,?_⟩;have hsel:ux (keys (F++R)) H=bc (F++R):=YO hg;have hp:=ja SC.step.sim.nodup hnd hsel;have hs:wQ m Z ((F++R)++qK (keys (F++R)) H) w:=SC.step.sim.perm hp;obtain⟨hn,hex⟩:=hl ρr m Z w (λx _=>by rw[zb2];exact hR.ev x) hs.left
 have go:∀w',(∃Z',zqy m Z (F++R) w Z' w')->lift N (zl1 c Q ds0) (.panic [zxp v]) a w':=λw' ⟨Z',hlo⟩=>by
  have hlo2:zqy m Z H w Z' w':=by
   have h1:=hlo.frame_rule hs
   exact⟨h1.frozen,h1.zext,h1.os,h1.tape,h1.output,h1.size,λb hb hnb=>h1.frame b hb λp hp'=>hnb p (hp.mem_iff.2 hp'),λa' x e=>by
    rcases h1.znew a' x e with h2|h2|⟨q,hq,h2⟩
    ·exact .inl h2
    ·exact .inr (.inl h2)
    ·exact .inr (.inr ⟨q,hp.mem_iff.2 hq,h2⟩),λk g ob cs hk=>h1.glob k g ob cs (hp.mem_iff.1 hk)⟩
  refine⟨ρr,ds,hf,[],_,⟨_,Z',SC.lost hlo2,λ_=>trivial⟩,?_,h _ λq hq hgl=>zgi (ax.get_mem (hG q hq)) hgl⟩;exact xw.step hM SC.step.sim (hlo2.step SC.step.sim)
 rw[Ax hn,hf.eval]
 rcases hex with⟨x,w',hrun,rfl,hx⟩|⟨f,args,w1,hrun,hx⟩
 ·rw[hrun,Oper.uponIn_panic]
  exact go w' hx
 ·rw[hrun,Oper.uponIn_enter]
  refine⟨λhx=>by simp[Fw]at hx,(A8 r hx).mono λe w'' hR2=>?_⟩;obtain⟨x,rfl,rfl,hx2⟩:=hR2;exact go w'' hx2
def zt0:∀(n:Nat)(l:List Nat),l.Nodup->(∀x∈l,x<n)->l.length<=n
 |0,[],_,_=>dk _
 |0,x::l,_,h=>by have:=h x al;omega
 |n+1,l,hn,h=>by
  have h1:=zt0 n (l.erase n) (hn.erase n) λx hx=>by
   have h2:=h x (List.mem_of_mem_erase hx)
   have h3:x≠n:=λe=>by subst e;exact hn.not_mem_erase hx
   omega
  rw[List.length_erase]at h1;split at h1<;>omega
def least{p:Nat->Prop}:∀i,p i->∃j,p j/\∀k,k<j->¬p k:=λi=>by
 induction i using Nat.strongRecOn with
 |_ i ih =>
  intro h;by_cases hk:∃k,k<i/\p k
  ·obtain⟨k,h1,h2⟩:=hk
   exact ih k h1 h2
  ·exact⟨i,h,λk h1 h2=>hk ⟨k,h1,h2⟩⟩
def zPw{GK:ax}(hE:Wr all=bf){Q:wj}{ds0:List cb}{n:Nat}{e2:Nat->V}{η2:HF}{p:FP}(hpan:Vy P all p e2 η2 v)(hQ:∀H',KG GK H'->Q (.panic [zxp v]) [] H' ds0):∀(fuel:Nat)(L:List FP)(listed:Array Bool)(e:Nat->V)(η:HF)(a:Act)(w:bG),
  zms GK η->wH GK P N all L e η e2 η2->jz all (jE all []) L=bf->(L.map (·.i)).Pairwise (· < ·)->(∀i,i<all.length->(listed.getD i bd=bd↔(i∈L.map (·.i)∨i=p.i∨zik (jE all []) i p.i=bf)))->(∀i∈L.map (·.i),i<all.length) ->
  (∀x∈L,zik (jE all []) p.i x.i=bf∨JR all x p=bf)->p.i ∉ L.map (·.i)->(∀x∈L,zik (jE all []) x.i p.i=bd)->zbq all.toArray listed->listed.size=all.length->L.length+1<=fuel ->
  zPc c N ds e η a w->wpAnyIn (Fw r) n P .any all.toArray (lift N (zl1 c Q ds0)) fuel listed a w:=by
 intro fuel
 have hpl:p.i<all.length:=by
  obtain⟨o,_,_,ho,_⟩:=hpan;exact(bw.1 ho).1
 induction fuel with
 |zero=>intro L listed e η a w _ _ _ _ _ _ _ _ _ _ _ hlen _;omega
 |succ fuel ih =>
  intro L listed e η a w hG0 hch hcp hp hl hlt hin hnp hna hc hsz hlen S;have hpf:listed.getD p.i bd=bd:=(hl p.i hpl).2 (.inr (.inl rfl));refine⟨λhr=>?_,λj hj=>?_⟩
  ·exfalso
   obtain⟨j,⟨hj1,hj2⟩,hj3⟩:=least (p:=λi=>i<all.length/\listed.getD i bd=bd) p.i ⟨hpl,hpf⟩
   have hmem:j∈Region.ready .any all.toArray listed:=by
    refine mem_ready.2 ⟨?_,all[j]'hj1,by simpa using bA hj1,λe' he' hbind=>?_⟩
    ·have hlt':j<listed.size:=ab
     simp only[cx,dH hlt',dM]at hj2 ⊢;exact hj2
    ·have hlt2:=zil hE (bA hj1) he' hbind
     cases hq:listed.getD e'.on bd with
     |true=>rfl
     |false=>exact aU ⟨ab,hq⟩ (hj3 _ hlt2)
   rw[hr]at hmem;cases hmem
  ·obtain⟨h1,o,ho,hpre⟩:=mem_ready.1 hj
   have hj':j<all.length:=by have:=(bX.1 ho).1;simpa using this
   have hjs:j<listed.size:=ab
   have hjf:listed.getD j bd=bd:=by
    simp only[cx,dH hjs,dM]at h1 ⊢;exact h1
   have hanc:∀i,zik (jE all []) j i=bf->listed.getD i bd=bf:=zf7 hE hc j o (by simpa using ho) hpre
   rcases(hl j hj').1 hjf with hjL|rfl|hja
   ·obtain⟨l1,b,l2,rfl,rfl⟩:=zme hjL
    obtain⟨hfr,hcp'⟩:=Kz hcp;have hpm:((l1++b::l2).map (·.i)).Pairwise (· < ·):=hp;rw[bO,mk9,ed]at hpm;obtain⟨hp1,hp2,hp3⟩:=hpm;have hp2':=eo.1 hp2
    have hind:∀x∈l1,Vi all x b=bf:=λx hx=>by
     rcases hfr x hx with h'|h'
     ·exfalso
      have hxl:=hanc x.i h';have hxn:x.i<all.length:=hlt x.i (by simp;exact .inl ⟨x,hx,rfl⟩);have:=(hl x.i hxn).2 (.inl (by simp;exact .inl ⟨x,hx,rfl⟩));rw[hxl]at this;cases this
     ·exact h'
    obtain⟨e1,η1,hop,hG1,hch'⟩:=hch.front hG0 hind
    have hsub:∀x∈l1++l2,x∈l1++b::l2:=λx hx=>by
     rcases bz.1 hx with hx|hx
     ·exact bK _ hx
     ·exact bL _ (mcQ _ hx)
    have hbi:b∈l1++b::l2:=af
    have hbp:b.i≠p.i:=λe=>hnp (by rw[<- e];exact cw hbi)
    refine zmd hop S λa' w' S'=>ih (l1++l2) _ e1 η1 a' w' hG1 hch' hcp' ?_ ?_ ?_ (λx hx=>hin x (hsub x hx)) ?_ (λx hx=>hna x (hsub x hx)) (hc.set hj) (by simpa using hsz) (by simp at hlen ⊢;omega) S'
    ·rw[bO,ed]
     exact⟨hp1,hp2'.2,λx hx y hy=>hp3 x hx y (mcQ _ hy)⟩
    ·intro i hi
     have hne:i=b.i∨i≠b.i:=Decidable.em _
     rcases hne with rfl|hne
     ·have hnot:b.i ∉ (l1++l2).map (·.i):=by
       rw[bO,bz];rintro(h'|h')
       ·have:=hp3 _ h' b.i al;omega
       ·have:=hp2'.1 _ h';omega
      have h9:(listed.setIfInBounds b.i bf).getD b.i bd=bf:=by simp[hjs]
      rw[h9];refine⟨λh'=>(by cases h'),λh'=>?_⟩
      rcases h' with h'|h'|h'
      ·exact aU h' hnot
      ·exact aU h' hbp
      ·rw[hna b hbi]at h';cases h'
     ·rw[getD_set_ne bd (Ne.symm hne),hl i hi]
      simp only[bO,mk9,bz,bp,hne,false_or]
    ·intro i hi
     refine hlt i ?_;rw[bO,bz]at hi;simp only[bO,mk9,bz,bp]
     rcases hi with hi|hi
     ·exact .inl hi
     ·exact .inr (.inr hi)
    ·intro h'
     refine hnp ?_;obtain⟨x,hx,e⟩:=bx.1 h';exact bx.2 ⟨x,hsub x hx,e⟩
   ·have hall:∀x∈L,JR all x p=bf:=λx hx=>by
     rcases hin x hx with h'|h'
     ·exfalso
      have hxl:=hanc x.i h';have hxm:x.i∈L.map (·.i):=cw hx;have:=(hl x.i (hlt x.i hxm)).2 (.inl hxm);rw[hxl]at this;cases this
     ·exact h'
    exact zH4 (wH.back hpan hch hall) S hG0 hQ
   ·exfalso
    have:=hanc _ hja;rw[hpf]at this;cases this
def zH5(GK:ax)(P:bm)(N:Nat)(all:List Oper)(ρ:Env)(H:ax)(v:bu):Prop :=
 ∃fps p e2 η2,(keys H).Nodup->(wH GK P N all fps ρ.get H.get e2 η2/\zms GK H.get/\Vy P all p e2 η2 v/\(fps.map (·.i)).Pairwise (· < ·)/\(∀i,i<all.length->(i∈fps.map (·.i)∨i=p.i∨zik (jE all []) i p.i=bf))/\(∀i∈fps.map (·.i),i<all.length) /\
  (∀x∈fps,zik (jE all []) p.i x.i=bf∨JR all x p=bf)/\p.i ∉ fps.map (·.i)/\(∀x∈fps,zik (jE all []) x.i p.i=bd)/\jz all (jE all []) fps=bf)
def zPx{GK:ax}{Q:wj}{ρ:Env}{H:ax}{id:Nat}(hm:P.follows .mixedOrders=bf)(hE:Wr all=bf)(h:zH5 GK P N all ρ H v)(hQ:∀H',KG GK H'->Q (.panic [zxp v]) [] H' ds):WpV c P r N (.region id all.toArray bf) Q ρ H ds:=by
 intro ρr w ds1 S hM a n hf;obtain⟨fps,p,e2,η2,h⟩:=h;obtain⟨m,Z,SC,hR⟩:=S;obtain⟨h1,hG0,h2,h3,h4,h5,h6,h7,h8,h9⟩:=h SC.step.sim.nodup
 have hdrew:QB c ρ H ρr w.drew:=⟨m,Z,⟨SC.step.trans (Step.same SC.step.sim rfl rfl rfl rfl),SC.dom⟩,hR⟩
 refine wpIn_region_any hm ?_
 have hpl:p.i<all.length:=by
  obtain⟨o,_,_,ho,_⟩:=h2;exact(bw.1 ho).1
 have hcard:fps.length+1<=all.length:=by
  have hnd:(p.i::fps.map (·.i)).Nodup:=cG.2 ⟨h7,h3.imp λh=>Nat.ne_of_lt h⟩
  have:=zt0 all.length _ hnd λx hx=>by
   rcases bp.1 hx with rfl|hx
   ·exact hpl
   ·exact h5 x hx
  simpa using this
 refine zPw (c:=c) (ds:=ds1) (r:=r) hE h2 hQ all.toArray.size fps _ ρ.get H.get a _ hG0 h1 h9 h3 ?_ h5 h6 h7 h8 ?_ af (by simpa using hcard) ⟨hM.same rfl,ρr,ρ,H,hf,rfl,rfl,hdrew⟩
 ·intro i hi
  simp only[cN,cx,dy];rw[aP hi];simp only[dM,true_iff];exact h4 i hi
 ·have:=Zx all
  simpa using this
end
section
variable{P:bm}{N:Nat}{all:List Oper}{ρ:Env}{H:ax}{o:Oper}
def zPy{F R F':ax}{v:V}(i:Nat)(kF kR:List Nat)(ho:all[i]?=bc o)(hn:ku o.op=bf)(hd:(match o.dst with|some d=>cm (d+1) N|none=>bf)=bf)(hw:xx all ρ o=bc bf)
  (hF:ux kF H=bc F) (hR:ux kR H=bc R) (hnd:yt (keys F'++kR)=bf) (hndF:yt kF=bf) (hsub:(kF.all (keys F').contains)=bf) (hfr:(F'.all λp=>kF.contains p.1||!kv p.1 H)=bf)
  (hl:Loc P o ρ (F++R) v (F'++R)) (hnH:(keys H).Nodup) {fp:FP} (hfi:fp.i=i) (hff:fp.fk=keys F') (hfr':fp.rk=kR) (hfine:zHd P o ρ.get H.get (F'++qK kF H).get v fp):(keys (F'++qK kF H)).Nodup/\j7 P N all fp ρ.get H.get (zlr o.dst v ρ).get (F'++qK kF H).get:=by
 subst hfi;obtain⟨hF1,hF2⟩:=xn hF;obtain⟨hR1,hR2⟩:=xn hR
 have hnotin:∀p∈F',p.1 ∉ kF->p.1 ∉ keys H:=λp hp hk hkH=>by
  have:=(bj.1 hfr) p hp;simp only[cZ,cl,aW,bQ]at this
  rcases this with h'|h'
  ·exact hk h'
  ·rw[yR.2 hkH]at h';cases h'
 have hndF':(keys F').Nodup:=(cu.1 (yz hnd)).1
 have hremn:(keys (qK kF H)).Nodup:=by
  have:(keys (qK kF H))=(keys H).filter (λk=>!kF.contains k):=by
   simp only[keys,qK];rw[List.filter_map];rfl
  rw[this];exact hnH.filter _
 refine⟨?_,o,v,ho,hn,λd hd'=>?_,zih _ _ _,.inr ⟨hw,F,R,F',?_,?_,?_,?_,hff.symm,hR1.trans hfr'.symm,λp hp=>?_,λk hk hkF=>?_,?_,hfine⟩⟩
 ·rw[zH]
  refine cu.2 ⟨hndF',hremn,λa ha b hb e=>?_⟩;subst e;obtain⟨p,hp,rfl⟩:=bx.1 ha;obtain⟨q,hq,e⟩:=bx.1 hb;have hq':=List.mem_filter.1 hq
  have hnk:p.1 ∉ kF:=by
   have:=hq'.2;simp only[bQ,cl,aX]at this;rw[<- e];exact this
  exact hnotin p hp hnk (by rw[<- e];exact ay hq'.1)
 ·rw[hd']at hd;exact lb hd
 ·exact zAo.congr (g:=evV ρ) hl λx _=>zb2 ρ x
 ·rw[zH,hR1];exact yz hnd
 ·rw[hF1];exact yz hndF
 ·intro k hk
  rw[hF1]at hk;have:=(bj.1 hsub) k hk;simpa using this
 ·rcases bz.1 hp with hp|hp
  ·exact get_of_mem hnH (hF2 p hp)
  ·exact get_of_mem hnH (hR2 p hp)
 ·obtain⟨p,hp,rfl⟩:=bx.1 hk
  exact get_none.1 (hnotin p hp (hF1▸hkF))
 ·funext k
  rw[get_append];by_cases h1:k∈keys F'
  ·simp[ze3,h1]
  ·rw[aO h1,xP h1]
   refine Vv λhk=>h1 ?_
   have:=(bj.1 hsub) k hk;simpa using this
def Vy.fwd{v:bu}{x p:FP}{e e1:Nat->V}{η η1:HF}(h:j7 P N all x e η e1 η1)(k:Vy P all p e η v)(hi:JR all x p=bf):Vy P all p e1 η1 v:=by
 obtain⟨o,u,ho,hn,hd,rfl,h⟩:=h;obtain⟨o',F,R,ho',hw,hl,hnd,hF,hR,hg⟩:=k;simp only[JR,ho,ho',bn]at hi;obtain⟨hs,hs',hk1,hk2⟩:=hi;have hk1:=H5 hk1;have hk2:=H5 hk2;obtain⟨ev1,ew1⟩:=zii (v:=u) (e:=e) hs;refine⟨o',F,R,ho',by rw[ew1];exact hw,hl.congr λx hx=>ev1 x hx,hnd,hF,hR,λp hp=>?_⟩;rw[<- hg p hp]
 rcases h with⟨_,_,rfl,_,_⟩|⟨_,F1,R1,F1',_,_,_,_,ek,_,_,_,rfl,_⟩
 ·rfl
 ·refine xP λhm=>?_
  rw[ek]at hm
  rcases bz.1 hp with hp|hp
  ·exact hk1 _ hm (hF▸ay hp)
  ·exact hk2 _ hm (hR▸ay hp)
def wH.fwd{GK:ax}{v:bu}{p:FP}:∀{L:List FP}{e e2:Nat->V}{η η2:HF},wH GK P N all L e η e2 η2->Vy P all p e η v->(∀x∈L,JR all x p=bf)->Vy P all p e2 η2 v
 |[],_,_,_,_,h,k,_=>by cases h;exact k
 |x::L,_,_,_,_,h,k,hi=>by
  cases h with
  |cons h g h'=>exact wH.fwd h' (k.fwd h (hi x al)) λy hy=>hi y (mcQ _ hy)
def wH.app{GK:ax}:∀{L L':List FP}{e e1 e2:Nat->V}{η η1 η2:HF},wH GK P N all L e η e1 η1->wH GK P N all L' e1 η1 e2 η2->wH GK P N all (L++L') e η e2 η2
 |[],_,_,_,_,_,_,_,h,k=>by cases h;exact k
 |x::L,_,_,_,_,_,_,_,h,k=>by
  cases h with
  |cons h g h'=>exact .cons h g (wH.app h' k)
def zi6:List Nat->Bool
 |a::b::r=>cm (a+1) b&&zi6 (b::r)
 |_=>bf
def zmt:∀{l:List Nat},zi6 l=bf->l.Pairwise (· < ·)
 |[],_=>.nil
 |[a],_=>List.pairwise_singleton _ _
 |a::b::r,h=>by
  simp only[zi6,bn]at h;have h1:=lb h.1;have h2:=zmt h.2;refine eo.2 ⟨λx hx=>?_,h2⟩
  rcases bp.1 hx with rfl|hx
  ·exact h1
  ·exact Nat.lt_trans h1 ((eo.1 h2).1 x hx)
def zt1(all:List Oper)(p:FP)(L:List FP):Bool :=
 zi6 (L.map (·.i))&&((cQ all.length).all (λi=>zzl i (L.map (·.i))||(bk i p.i||zik (jE all []) i p.i))&&(L.all (λx=>cm (x.i+1) all.length) &&
  (L.all (λx=>zik (jE all []) p.i x.i||JR all x p)&&(!(zzl p.i (L.map (·.i)))&&(L.all (λx=>!(zik (jE all []) x.i p.i))&&jz all (jE all []) L)))))
def zH6{GK:ax}{v:bu}{fps:List FP}{p:FP}{e2:Nat->V}{η2:HF}(h:(keys H).Nodup->wH GK P N all fps ρ.get H.get e2 η2/\zms GK H.get/\Vy P all p e2 η2 v)(hc:zt1 all p fps=bf):zH5 GK P N all ρ H v:=by
 simp only[zt1,bn]at hc;obtain⟨c1,c2,c3,c4,c5,c6,c7⟩:=hc;refine⟨fps,p,e2,η2,λhn=>⟨(h hn).1,(h hn).2.1,(h hn).2.2,zmt c1,λi hi=>?_,λi hi=>?_,λx hx=>?_,λhm=>?_,λx hx=>?_,c7⟩⟩
 ·have:=(bj.1 c2) i (fH.2 hi)
  simp only[cZ]at this
  rcases this with h1|h1|h1
  ·exact .inl (Wq.1 h1)
  ·exact .inr (.inl (eb h1))
  ·exact .inr (.inr h1)
 ·obtain⟨x,hx,rfl⟩:=bx.1 hi
  exact lb ((bj.1 c3) x hx)
 ·have:=(bj.1 c4) x hx
  simpa using this
 ·rw[Wq.2 hm]at c5;cases c5
 ·have:=(bj.1 c6) x hx
  simpa using this
end
end Go.EV
namespace Go.EQ
open Go Go.RowKit Go.Eng Go.EV
mutual
def zap{σ:Nat->Nat}:∀v:V,v.refs=[]->v.ren σ=v
 |.undef,_=>rfl
 |.no,_=>rfl
 |.int ..,_=>rfl
 |.bool _,_=>rfl
 |.str _,_=>rfl
 |.nilp,_=>rfl
 |.ptr ..,h=>by simp[V.refs]at h
 |.vp ..,_=>rfl
 |.nils,_=>rfl
 |.sl ..,h=>by simp[V.refs]at h
 |.vs ..,_=>rfl
 |.fn f a b,h=>by
  simp only[V.refs,eu]at h;simp only[V.ren,He a h.1,He b h.2]
 |.nilf,_=>rfl
 |.agg cs,h=>by simp only[V.ren,He cs h]
 |.tup xs,h=>by simp only[V.ren,He xs h]
 |.nilm,_=>rfl
 |.mp _,h=>by simp[V.refs]at h
 |.nili,_=>rfl
 |.ifc t v,h=>by simp only[V.ren,zap v h]
 |.gv ..,h=>by simp[V.refs]at h
 |.pv _,_=>rfl
def He{σ:Nat->Nat}:∀vs:List V,wP vs=[]->zfa σ vs=vs
 |[],_=>rfl
 |v::vs,h=>by
  simp only[wP,eu]at h;simp only[zfa,zap v h.1,He vs h.2]
end
section
variable{S:Tab}
mutual
def A.ren(σ:Nat->Nat):A S.T->A S.T
 |.raw v=>.raw (v.ren σ)
 |.dat c x=>.dat c x
 |.ag cs=>.ag (A.rens σ cs)
 |.tup xs=>.tup (A.rens σ xs)
 |.rh sz k n=>.rh sz (σ k) n
 |.oh k=>.oh (σ k)
 |.nh sz k n=>.nh sz (σ k) n
 |.rp k L i off sz=>.rp (σ k) L i off sz
 |.vp c x off=>.vp c x off
 |.fn f a b=>.fn f (A.rens σ a) (A.rens σ b)
 |.ifc t a=>.ifc t (a.ren σ)
def A.rens(σ:Nat->Nat):List (A S.T)->List (A S.T)
 |[]=>[]
 |a::r=>a.ren σ::A.rens σ r
end
def OA.ren(σ:Nat->Nat):OA S.T->OA S.T
 |.box t cs=>.box t (A.rens σ cs)
 |o=>o
def rhA(σ:Nat->Nat)(F:AH S.T):AH S.T:=F.map λp=>(σ p.1,p.2.ren σ)
mutual
def zxq(hS:S.OK){σ:Nat->Nat}:∀a:A S.T,(a.ren σ).v=a.v.ren σ
 |.raw _=>by simp only[A.ren,A.v]
 |.dat c x=>by simp only[A.ren,A.v];exact(zap _ (oL hS c x)).symm
 |.ag cs=>by simp only[A.ren,A.v,V.ren,H8 hS cs]
 |.tup xs=>by simp only[A.ren,A.v,V.ren,H8 hS xs]
 |.rh ..=>by simp only[A.ren,A.v,V.ren]
 |.oh ..=>by simp only[A.ren,A.v,V.ren]
 |.nh ..=>by simp only[A.ren,A.v,V.ren]
 |.rp ..=>by simp only[A.ren,A.v,V.ren]
 |.vp ..=>by simp only[A.ren,A.v,V.ren]
 |.fn f a b=>by simp only[A.ren,A.v,V.ren,H8 hS a,H8 hS b]
 |.ifc t a=>by simp only[A.ren,A.v,V.ren,zxq hS a]
def H8(hS:S.OK){σ:Nat->Nat}:∀l:List (A S.T),A.vs (A.rens σ l)=zfa σ (A.vs l)
 |[]=>by simp only[A.rens,A.vs,zfa]
 |a::r=>by simp only[A.rens,A.vs,zfa,zxq hS a,H8 hS r]
end
def zMe(hS:S.OK){σ:Nat->Nat}:∀o:OA S.T,(o.ren σ).o=o.o.ren σ
 |.box t cs=>by simp only[OA.ren,OA.o,Obj.ren,H8 hS]
 |.row ..=>rfl
 |.map ..=>rfl
 |.rw i=>by simp only[OA.ren,OA.o,hS.rren]
 |.gn ..=>by simp only[OA.ren,OA.o,hS.gren]
structure Ct(S:Tab) where
 ins:List Tp
 hin:List (Nat×TO)
 ci:List TC
 out:Tp
 hout:List (Nat×TO)
 co:List TC
 alt:Bool
 fn:HL S.T ci->Option (HL S.T co)
def Ct.OK(P:bm)(f:Nat)(c:Ct S):Prop:=∀x r,c.fn x=bc r ->
 FnA P f (A.vs (Tp.puts c.hin (yT c.ci x) c.ins)) (hV (oa c.hin (yT c.ci x))) (c.out.put c.hout (yT c.ci x++yT c.co r)).v (hV (oa c.hout (yT c.ci x++yT c.co r)))
structure CtP(S:Tab)(pc:List TC) where
 ins:List Tp
 hin:List (Nat×TO)
 ci:List TC
 fn:HL S.T ci->Option (HL S.T pc)
def CtP.OK{pc:List TC}(P:bm)(pv:HL S.T pc->bu)(f:Nat)(c:CtP S pc):Prop:=∀x q,c.fn x=bc q ->
 FnP P f (A.vs (Tp.puts c.hin (yT c.ci x) c.ins)) (hV (oa c.hin (yT c.ci x))) (pv q)
end
mutual
/-- The names in a template. -/
def Tp.names:Tp->List Nat
 |.ptr k _=>[k]
 |.mp k=>[k]
 |.row _ k=>[k]
 |.om k=>[k]
 |.nrow _ k=>[k]
 |.ag l=>Tp.namesL l
 |.tup l=>Tp.namesL l
 |.fn _ a b=>Tp.namesL a++Tp.namesL b
 |.ifc _ a=>a.names
 |_=>[]
def Tp.namesL:List Tp->List Nat
 |[]=>[]
 |t::r=>t.names++Tp.namesL r
end
def TO.names:TO->List Nat
 |.box _ cs=>Tp.namesL cs
 |_=>[]
section
variable{S:Tab}
mutual
def zaq(hS:S.OK){hp:List (Nat×TO)}{ds:List (Dy S.T)}:∀t:Tp,(t.put hp ds).v.refs=t.names
 |.nilp=>by simp only[Tp.put,A.v,V.refs,Tp.names]
 |.nils=>by simp only[Tp.put,A.v,V.refs,Tp.names]
 |.nilf=>by simp only[Tp.put,A.v,V.refs,Tp.names]
 |.nilm=>by simp only[Tp.put,A.v,V.refs,Tp.names]
 |.nili=>by simp only[Tp.put,A.v,V.refs,Tp.names]
 |.no=>by simp only[Tp.put,A.v,V.refs,Tp.names]
 |.und=>by simp only[Tp.put,A.v,V.refs,Tp.names]
 |.d c j=>by simp only[Tp.put,A.v,Tp.names];exact oL hS c _
 |.ptr ..=>by simp only[Tp.put,A.v,V.refs,Tp.names]
 |.mp _=>by simp only[Tp.put,A.v,V.refs,Tp.names]
 |.row ..=>by simp only[Tp.put,A.v,V.refs,Tp.names]
 |.om _=>by simp only[Tp.put,A.v,V.refs,Tp.names]
 |.nrow ..=>by simp only[Tp.put,A.v,V.refs,Tp.names]
 |.ci ..=>by simp only[Tp.put,A.v,vL,V.refs,Tp.names]
 |.ag l=>by simp only[Tp.put,A.v,V.refs,Tp.names];exact kA hS l
 |.tup l=>by simp only[Tp.put,A.v,V.refs,Tp.names];exact kA hS l
 |.fn f a b=>by simp only[Tp.put,A.v,V.refs,Tp.names,kA hS a,kA hS b]
 |.ifc t a=>by simp only[Tp.put,A.v,V.refs,Tp.names];exact zaq hS a
def kA(hS:S.OK){hp:List (Nat×TO)}{ds:List (Dy S.T)}:∀l:List Tp,wP (A.vs (Tp.puts hp ds l))=Tp.namesL l
 |[]=>by simp only[Tp.puts,A.vs,wP,Tp.namesL]
 |t::r=>by simp only[Tp.puts,A.vs,wP,Tp.namesL,zaq hS t,kA hS r]
end
def uj(ins:List Tp)(hin:List (Nat×TO)):Bool:=(Tp.namesL ins).all (hin.map (·.1)).contains&&hin.all λp=>p.2.names.all (hin.map (·.1)).contains
def vr{hp:List (Nat×TO)}{ds:List (Dy S.T)}:keys (hV (oa (S:=S) hp ds))=hp.map (·.1):=by
 simp only[zA9,oa,cS];rfl
def Hf(hS:S.OK){ins:List Tp}{hin:List (Nat×TO)}{ds:List (Dy S.T)}(h:uj ins hin=bf):EV.AX (A.vs (Tp.puts hin ds ins)) (hV (oa hin ds))=bf:=by
 simp only[uj,bn]at h;simp only[EV.AX,bn,kA hS,vr];refine⟨h.1,bj.2 λp hp=>?_⟩;simp only[hV,oa,cS,bx]at hp;obtain⟨q,hq,rfl⟩:=hp;have:=(bj.1 h.2) q hq;obtain⟨k,o⟩:=q
 cases o with
 |box t cs=>simpa[OA.o,TO.put,Obj.refs,kA hS,TO.names]using this
 |row=>rfl
 |map=>rfl
 |rw i=>show((S.ro i).refs.all _)=bf;rw[hS.rref];rfl
 |gn i c j=>show((S.go i c (zac ds j c)).refs.all _)=bf;rw[hS.gref];rfl
end
section
variable{S:Tab}
def Sat(ds:List (Dy S.T))(ps:List (Nat×Dy S.T)):Prop:=∀p∈ps,zac ds p.1 p.2.1=p.2.2
def Nam(σ:Nat->Nat)(ns:List (Nat×Nat)):Prop:=∀p∈ns,σ p.1=p.2
def Sat.left{ds:List (Dy S.T)}{a b:List (Nat×Dy S.T)}(h:Sat ds (a++b)):Sat ds a:=λp hp=>h p (bK _ hp)
def Sat.right{ds:List (Dy S.T)}{a b:List (Nat×Dy S.T)}(h:Sat ds (a++b)):Sat ds b:=λp hp=>h p (bL _ hp)
def Nam.left{σ:Nat->Nat}{a b:List (Nat×Nat)}(h:Nam σ (a++b)):Nam σ a:=λp hp=>h p (bK _ hp)
def Nam.right{σ:Nat->Nat}{a b:List (Nat×Nat)}(h:Nam σ (a++b)):Nam σ b:=λp hp=>h p (bL _ hp)
structure Hg(hp:List (Nat×TO))(ds:List (Dy S.T))(σ:Nat->Nat)(H:AH S.T):Prop where
 r:∀k c j,zHq hp k=bc (c,j)->∀e c' fz l w,H.get (σ k)=bc (.row e c' fz l w)->bg (α:=c.ty S.T) (zac ds j (.l c))=l.length
def Vz{ds:List (Dy S.T)}:∀{hp:List (Nat×TO)}{k:Nat}{c:TC}{j:Nat},zHq hp k=bc (c,j)->zTr ds hp k=bg (α:=c.ty S.T) (zac ds j (.l c))
 |(k',.row e c' j' fz)::r,k,c,j,h=>by
  simp only[zHq]at h;simp only[zTr]
  cases hb:bk k k' with
  |true=>rw[hb]at h;cases h;rfl
  |false=>rw[hb]at h;exact Vz h
 |(k',.box ..)::r,k,c,j,h=>Vz (hp:=r) h
 |(k',.map ..)::r,k,c,j,h=>Vz (hp:=r) h
 |(k',.rw _)::r,k,c,j,h=>Vz (hp:=r) h
 |(k',.gn ..)::r,k,c,j,h=>Vz (hp:=r) h
def zU5{c:TC}{a:A S.T}{x:c.ty S.T}(h:datX c a=bc x):a.v=vL S c x:=by
 unfold datX at h;split at h
 ·split at h
  ·rename_i e
   subst e;cases h;rfl
  ·cases h
 ·cases c<;>first|(cases h;done)|(cases h;rfl)
 ·cases h
variable{hp:List (Nat×TO)}{ds:List (Dy S.T)}{σ:Nat->Nat}{H:AH S.T}
def zH7{sz k sz' k' n:Nat}{rd:Rd S.T}(h:Tp.read hp bf H (.row sz k) (.rh sz' k' n)=bc rd)(hn:Nam σ rd.ns)(he:wW rd.eq)(hr:Hg hp ds σ H):(A.rh (T:=S.T) sz' k' n)=((Tp.row sz k).put hp ds).ren σ:=by
 simp only[Tp.read]at h;split at h
 ·rename_i l w q hg hq
  cases hb:bk sz sz' with
  |false=>rw[hb]at h;cases h
  |true =>
   rw[hb]at h;cases h;have e1:=eb hb;subst e1;have e2:σ k=k':=hn _ (msQ.2 rfl);have e3:n=l.length:=(he _ (msQ.2 rfl)).trans w.h.symm;obtain⟨c,j⟩:=q;simp only[Tp.put,A.ren,Vz hq,e2];rw[hr.r k c j hq _ _ _ _ _ (by rw[e2];exact hg),e3]
 ·cases h
def zBt{sz k sz' k' n:Nat}{rd:Rd S.T}(h:Tp.read hp bf H (.nrow sz k) (.nh sz' k' n)=bc rd)(hn:Nam σ rd.ns)(he:wW rd.eq)(hr:Hg hp ds σ H):(A.nh (T:=S.T) sz' k' n)=((Tp.nrow sz k).put hp ds).ren σ:=by
 simp only[Tp.read]at h;split at h
 ·rename_i l w q hg hq
  cases hb:bk sz sz' with
  |false=>rw[hb]at h;cases h
  |true =>
   rw[hb]at h;cases h;have e1:=eb hb;subst e1;have e2:σ k=k':=hn _ (msQ.2 rfl);have e3:n=l.length:=(he _ (msQ.2 rfl)).trans w.h.symm;obtain⟨c,j⟩:=q;simp only[Tp.put,A.ren,Vz hq,e2];rw[hr.r k c j hq _ _ _ _ _ (by rw[e2];exact hg),e3]
 ·cases h
mutual
def vz(hS:S.OK):∀(t:Tp)(a:A S.T)(rd:Rd S.T),Tp.read hp bf H t a=bc rd->Sat ds rd.ps->Nam σ rd.ns->wW rd.eq->Hg hp ds σ H->a.v=((t.put hp ds).ren σ).v/\rd.fz=[]
 |.d c j,a,rd,h,hs,hn,he,hr=>by
  simp only[Tp.read,ctQ]at h;split at h
  ·rename_i x e
   cases h;have h1:zac ds j c=x:=hs _ (msQ.2 rfl);refine⟨?_,rfl⟩;simp only[Tp.put,A.ren,h1];exact zU5 e
  ·cases h
 |.row sz k,a,rd,h,hs,hn,he,hr=>by
  cases a<;>first|(simp only[Tp.read]at h;cases h;done)|skip
  rename_i sz' k' n;refine⟨aQ A.v (zH7 h hn he hr),?_⟩;simp only[Tp.read]at h;split at h
  ·cases hb:bk sz sz' with
   |false=>rw[hb]at h;cases h
   |true=>rw[hb]at h;cases h;rfl
  ·cases h
 |.nrow sz k,a,rd,h,hs,hn,he,hr=>by
  cases a<;>first|(simp only[Tp.read]at h;cases h;done)|skip
  rename_i sz' k' n;refine⟨aQ A.v (zBt h hn he hr),?_⟩;simp only[Tp.read]at h;split at h
  ·cases hb:bk sz sz' with
   |false=>rw[hb]at h;cases h
   |true=>rw[hb]at h;cases h;rfl
  ·cases h
 |.om k,a,rd,h,hs,hn,he,hr=>by
  cases a<;>first|(simp only[Tp.read]at h;cases h;done)|skip
  rename_i k';simp only[Tp.read]at h;cases h;refine⟨?_,rfl⟩;have e2:σ k=k':=hn _ (msQ.2 rfl);simp only[Tp.put,A.ren,e2]
 |.ci k n,a,rd,h,hs,hn,he,hr=>by
  cases a<;>first|(simp only[Tp.read]at h;cases h;done)|skip
  rename_i c x
  cases c<;>first|(simp only[Tp.read]at h;cases h;done)|skip
  rename_i k';simp only[Tp.read]at h
  cases hb:decide (k'=k)&&ieqB x n with
  |false=>rw[hb]at h;cases h
  |true =>
   rw[hb]at h;cases h;simp only[bn,aW]at hb;obtain⟨rfl,hx⟩:=hb;have hx:@Eq Int x n:=zPl hx;subst hx;exact⟨by simp only[Tp.put,A.ren],rfl⟩
 |.nilp,a,rd,h,hs,hn,he,hr=>by
  cases a<;>first|(simp only[Tp.read]at h;cases h;done)|skip
  rename_i v
  cases v<;>first|(simp only[Tp.read]at h;cases h;done)|skip
  simp only[Tp.read]at h;cases h;exact⟨by simp only[Tp.put,A.ren,A.v,V.ren],rfl⟩
 |.nils,a,rd,h,hs,hn,he,hr=>by
  cases a<;>first|(simp only[Tp.read]at h;cases h;done)|skip
  rename_i v
  cases v<;>first|(simp only[Tp.read]at h;cases h;done)|skip
  simp only[Tp.read]at h;cases h;exact⟨by simp only[Tp.put,A.ren,A.v,V.ren],rfl⟩
 |.nilf,a,rd,h,hs,hn,he,hr=>by
  cases a<;>first|(simp only[Tp.read]at h;cases h;done)|skip
  rename_i v
  cases v<;>first|(simp only[Tp.read]at h;cases h;done)|skip
  simp only[Tp.read]at h;cases h;exact⟨by simp only[Tp.put,A.ren,A.v,V.ren],rfl⟩
 |.nilm,a,rd,h,hs,hn,he,hr=>by
  cases a<;>first|(simp only[Tp.read]at h;cases h;done)|skip
  rename_i v
  cases v<;>first|(simp only[Tp.read]at h;cases h;done)|skip
  simp only[Tp.read]at h;cases h;exact⟨by simp only[Tp.put,A.ren,A.v,V.ren],rfl⟩
 |.nili,a,rd,h,hs,hn,he,hr=>by
  cases a<;>first|(simp only[Tp.read]at h;cases h;done)|skip
  rename_i v
  cases v<;>first|(simp only[Tp.read]at h;cases h;done)|skip
  simp only[Tp.read]at h;cases h;exact⟨by simp only[Tp.put,A.ren,A.v,V.ren],rfl⟩
 |.no,a,rd,h,hs,hn,he,hr=>by
  cases a<;>first|(simp only[Tp.read]at h;cases h;done)|skip
  rename_i v
  cases v<;>first|(simp only[Tp.read]at h;cases h;done)|skip
  simp only[Tp.read]at h;cases h;exact⟨by simp only[Tp.put,A.ren,A.v,V.ren],rfl⟩
 |.und,a,rd,h,hs,hn,he,hr=>by cases a<;>(simp only[Tp.read]at h;cases h)
 |.ptr k off,a,rd,h,hs,hn,he,hr=>by
  cases a<;>first|(simp only[Tp.read]at h;cases h;done)|skip
  rename_i v
  cases v<;>first|(simp only[Tp.read]at h;cases h;done)|skip
  rename_i k' L off'
  cases L with
  |succ L=>simp only[Tp.read]at h;cases h
  |zero =>
   simp only[Tp.read]at h
   cases hb:bk off off' with
   |false=>rw[hb]at h;cases h
   |true =>
    rw[hb]at h;cases h;have e1:=eb hb;subst e1;have e2:σ k=k':=hn _ (msQ.2 rfl);exact⟨by simp only[Tp.put,A.ren,A.v,V.ren,e2],rfl⟩
 |.mp k,a,rd,h,hs,hn,he,hr=>by
  cases a<;>first|(simp only[Tp.read]at h;cases h;done)|skip
  rename_i v
  cases v<;>first|(simp only[Tp.read]at h;cases h;done)|skip
  rename_i k';simp only[Tp.read]at h;cases h;have e2:σ k=k':=hn _ (msQ.2 rfl);exact⟨by simp only[Tp.put,A.ren,A.v,V.ren,e2],rfl⟩
 |.ag l,a,rd,h,hs,hn,he,hr=>by
  cases a<;>first|(simp only[Tp.read]at h;cases h;done)|skip
  rename_i l';simp only[Tp.read]at h;obtain⟨h1,h2⟩:=QG hS l l' rd h hs hn he hr;exact⟨by simp only[Tp.put,A.ren,A.v,h1],h2⟩
 |.tup l,a,rd,h,hs,hn,he,hr=>by
  cases a<;>first|(simp only[Tp.read]at h;cases h;done)|skip
  rename_i l';simp only[Tp.read]at h;obtain⟨h1,h2⟩:=QG hS l l' rd h hs hn he hr;exact⟨by simp only[Tp.put,A.ren,A.v,h1],h2⟩
 |.fn f x y,a,rd,h,hs,hn,he,hr=>by
  cases a<;>first|(simp only[Tp.read]at h;cases h;done)|skip
  rename_i f' x' y';simp only[Tp.read]at h
  cases hb:bk f f' with
  |false=>rw[hb]at h;cases h
  |true =>
   rw[hb]at h;have e1:=eb hb;subst e1;dsimp only[ctQ]at h;split at h
   ·rename_i r1 g1
    split at h
    ·rename_i r2 g2
     cases h;obtain⟨h1,h2⟩:=QG hS x x' r1 g1 hs.left hn.left he.left hr;obtain⟨h3,h4⟩:=QG hS y y' r2 g2 hs.right hn.right he.right hr;exact⟨by simp only[Tp.put,A.ren,A.v,h1,h3],by simp only[Rd.app,h2,h4,bI]⟩
    ·cases h
   ·cases h
 |.ifc tt x,a,rd,h,hs,hn,he,hr=>by
  cases a<;>first|(simp only[Tp.read]at h;cases h;done)|skip
  rename_i t' x';simp only[Tp.read]at h
  cases hb:bk tt t' with
  |false=>rw[hb]at h;cases h
  |true =>
   rw[hb]at h;have e1:=eb hb;subst e1;obtain⟨h1,h2⟩:=vz hS x x' rd h hs hn he hr;exact⟨by simp only[Tp.put,A.ren,A.v,h1],h2⟩
def QG(hS:S.OK):∀(ts:List Tp)(asZ:List (A S.T))(rd:Rd S.T),Tp.reads hp bf H ts asZ=bc rd->Sat ds rd.ps->Nam σ rd.ns->wW rd.eq->Hg hp ds σ H->A.vs asZ=A.vs (A.rens σ (Tp.puts hp ds ts))/\rd.fz=[]
 |[],[],rd,h,hs,hn,he,hr=>by
  simp only[Tp.reads]at h;cases h;exact⟨by simp only[Tp.puts,A.rens],rfl⟩
 |t::ts,a::asZ,rd,h,hs,hn,he,hr=>by
  simp only[Tp.reads]at h;split at h
  ·rename_i r1 g1
   split at h
   ·rename_i r2 g2
    cases h;obtain⟨h1,h2⟩:=vz hS t a r1 g1 hs.left hn.left he.left hr;obtain⟨h3,h4⟩:=QG hS ts asZ r2 g2 hs.right hn.right he.right hr;exact⟨by simp only[Tp.puts,A.rens,A.vs,h1,h3],by simp only[Rd.app,h2,h4,bI]⟩
   ·cases h
  ·cases h
 |[],_::_,_,h,_,_,_,_=>by simp only[Tp.reads]at h;cases h
 |_::_,[],_,h,_,_,_,_=>by simp only[Tp.reads]at h;cases h
end
def QH{t:Tp}(a:A S.T)(ht:t=.nilp∨t=.nils∨t=.nilf∨t=.nilm∨t=.nili∨t=.no):Tp.read hp bf H t a=Tp.read hp bd H t a:=by
 rcases ht with rfl|rfl|rfl|rfl|rfl|rfl<;>(cases a<;>first|(simp only[Tp.read];done)|(rename_i v;cases v<;>simp only[Tp.read]))
mutual
def zBu(hS:S.OK){R:ax}:∀(t:Tp)(a:A S.T)(rd:Rd S.T),Tp.read hp bd H t a=bc rd->Sat ds rd.ps->Nam σ rd.ns->wW rd.eq->Hg hp ds σ H->RowsIn H R rd.fz->av R a.v ((t.put hp ds).ren σ).v
 |.d c j,a,rd,h,hs,hn,he,hr,hR=>by
  simp only[Tp.read,cf]at h;split at h
  ·rename_i rx e
   cases h;have h1:zac ds j c=rx.x:=hs _ (msQ.2 rfl);simp only[Tp.put,A.ren,h1];exact zcb hS e he hR
  ·cases h
 |.ag l,a,rd,h,hs,hn,he,hr,hR=>by
  cases a<;>first|(simp only[Tp.read]at h;cases h;done)|skip
  rename_i l';simp only[Tp.read]at h;have:=oc hS l l' rd h hs hn he hr hR;simp only[Tp.put,A.ren,A.v];exact .agg this
 |.tup l,a,rd,h,hs,hn,he,hr,hR=>by
  rw[(vz hS (.tup l) a rd (by rw[<- h];cases a<;>simp only[Tp.read]) hs hn he hr).1];exact .same _
 |.nilp,a,rd,h,hs,hn,he,hr,hR=>by rw[(vz hS .nilp a rd (by rw[<- h];exact QH a af) hs hn he hr).1];exact .same _
 |.nils,a,rd,h,hs,hn,he,hr,hR=>by rw[(vz hS .nils a rd (by rw[<- h];exact QH a af) hs hn he hr).1];exact .same _
 |.nilf,a,rd,h,hs,hn,he,hr,hR=>by rw[(vz hS .nilf a rd (by rw[<- h];exact QH a af) hs hn he hr).1];exact .same _
 |.nilm,a,rd,h,hs,hn,he,hr,hR=>by rw[(vz hS .nilm a rd (by rw[<- h];exact QH a af) hs hn he hr).1];exact .same _
 |.nili,a,rd,h,hs,hn,he,hr,hR=>by rw[(vz hS .nili a rd (by rw[<- h];exact QH a af) hs hn he hr).1];exact .same _
 |.no,a,rd,h,hs,hn,he,hr,hR=>by rw[(vz hS .no a rd (by rw[<- h];exact QH a af) hs hn he hr).1];exact .same _
 |.ptr k off,a,rd,h,hs,hn,he,hr,hR=>by rw[(vz hS (.ptr k off) a rd (by rw[<- h];cases a<;>first|(simp only[Tp.read];done)|(rename_i v;cases v<;>first|(simp only[Tp.read];done)|(rename_i q L off';cases L<;>simp only[Tp.read]))) hs hn he hr).1];exact .same _
 |.mp k,a,rd,h,hs,hn,he,hr,hR=>by rw[(vz hS (.mp k) a rd (by rw[<- h];cases a<;>first|(simp only[Tp.read];done)|(rename_i v;cases v<;>simp only[Tp.read])) hs hn he hr).1];exact .same _
 |.row sz k,a,rd,h,hs,hn,he,hr,hR=>by rw[(vz hS (.row sz k) a rd (by rw[<- h];cases a<;>simp only[Tp.read]) hs hn he hr).1];exact .same _
 |.nrow sz k,a,rd,h,hs,hn,he,hr,hR=>by rw[(vz hS (.nrow sz k) a rd (by rw[<- h];cases a<;>simp only[Tp.read]) hs hn he hr).1];exact .same _
 |.om k,a,rd,h,hs,hn,he,hr,hR=>by rw[(vz hS (.om k) a rd (by rw[<- h];cases a<;>simp only[Tp.read]) hs hn he hr).1];exact .same _
 |.ci k n,a,rd,h,hs,hn,he,hr,hR=>by rw[(vz hS (.ci k n) a rd (by rw[<- h];cases a<;>first|(simp only[Tp.read];done)|(rename_i c x;cases c<;>simp only[Tp.read])) hs hn he hr).1];exact .same _
 |.fn f x y,a,rd,h,hs,hn,he,hr,hR=>by rw[(vz hS (.fn f x y) a rd (by rw[<- h];cases a<;>simp only[Tp.read]) hs hn he hr).1];exact .same _
 |.ifc f x,a,rd,h,hs,hn,he,hr,hR=>by rw[(vz hS (.ifc f x) a rd (by rw[<- h];cases a<;>simp only[Tp.read]) hs hn he hr).1];exact .same _
def oc(hS:S.OK){R:ax}:∀(ts:List Tp)(asZ:List (A S.T))(rd:Rd S.T),Tp.reads hp bd H ts asZ=bc rd->Sat ds rd.ps->Nam σ rd.ns->wW rd.eq->Hg hp ds σ H->RowsIn H R rd.fz->kq R (A.vs asZ) (A.vs (A.rens σ (Tp.puts hp ds ts)))
 |[],[],rd,h,hs,hn,he,hr,hR=>by
  simp only[Tp.puts,A.rens,A.vs];exact .nil
 |t::ts,a::asZ,rd,h,hs,hn,he,hr,hR=>by
  simp only[Tp.reads]at h;split at h
  ·rename_i r1 g1
   split at h
   ·rename_i r2 g2
    cases h;simp only[Tp.puts,A.rens,A.vs];exact .cons (zBu hS t a r1 g1 hs.left hn.left he.left hr hR.left) (oc hS ts asZ r2 g2 hs.right hn.right he.right hr hR.right)
   ·cases h
  ·cases h
 |[],_::_,_,h,_,_,_,_,_=>by simp only[Tp.reads]at h;cases h
 |_::_,[],_,h,_,_,_,_,_=>by simp only[Tp.reads]at h;cases h
end
end
section
variable{S:Tab}
def zZ0(hp:List (Nat×TO))(ds:List (Dy S.T))(l:List (Nat×TO)):AH S.T:=l.map λp=>(p.1,p.2.put hp ds)
variable{hp:List (Nat×TO)}{ds:List (Dy S.T)}{σ:Nat->Nat}{H:AH S.T}
def QI:∀{hp:List (Nat×TO)}{k:Nat}{c:TC}{j:Nat},zHq hp k=bc (c,j)->∃e fz,(k,TO.row e c j fz)∈hp
 |(k',.row e c' j' fz)::r,k,c,j,h=>by
  simp only[zHq]at h
  cases hb:bk k k' with
  |true =>
   rw[hb]at h;cases h;have:=eb hb;subst this;exact⟨e,fz,al⟩
  |false =>
   rw[hb]at h;obtain⟨e,fz,h1⟩:=QI h;exact⟨e,fz,mcQ _ h1⟩
 |(k',.box ..)::r,k,c,j,h=>by
  obtain⟨e,fz,h1⟩:=QI (hp:=r) h;exact⟨e,fz,mcQ _ h1⟩
 |(k',.map ..)::r,k,c,j,h=>by
  obtain⟨e,fz,h1⟩:=QI (hp:=r) h;exact⟨e,fz,mcQ _ h1⟩
 |(k',.rw _)::r,k,c,j,h=>by
  obtain⟨e,fz,h1⟩:=QI (hp:=r) h;exact⟨e,fz,mcQ _ h1⟩
 |(k',.gn ..)::r,k,c,j,h=>by
  obtain⟨e,fz,h1⟩:=QI (hp:=r) h;exact⟨e,fz,mcQ _ h1⟩
def zce:∀{ns:List (Nat×Nat)}{k k':Nat},zHr ns k=bc k'->(k,k')∈ns
 |(a,b)::r,k,k',h=>by
  simp only[zHr]at h
  cases hb:bk k a with
  |true =>
   rw[hb]at h;cases h;have:=eb hb;subst this;exact al
  |false=>rw[hb]at h;exact mcQ _ (zce h)
def zmu{e:Nat}{c:TC}{j:Nat}{fz:Bool}{o:OA S.T}{rd:Rd S.T}(h:TO.read hp H (.row e c j fz) o=bc rd)(hs:Sat ds rd.ps):∃f l w,o=.row e c f l w/\zac ds j (.l c)=l/\fzB fz f=bf/\rd.fz=[]:=by
 cases o<;>first|(simp only[TO.read]at h;cases h;done)|skip
 rename_i e' c' f l wl;simp only[TO.read]at h
 cases hb:bk e e'&&fzB fz f with
 |false=>rw[hb]at h;cases h
 |true =>
  rw[hb]at h;simp only[bn]at hb;have e1:=eb hb.1;subst e1;dsimp only[ctQ]at h;split at h
  ·rename_i e2
   subst e2;cases h;exact⟨f,l,wl,rfl,hs _ (msQ.2 rfl),hb.2,rfl⟩
  ·cases h
def zH8(hS:S.OK){toZ:TO}{o:OA S.T}{rd:Rd S.T}(h:TO.read hp H toZ o=bc rd)(hs:Sat ds rd.ps)(hn:Nam σ rd.ns)(he:wW rd.eq)(hr:Hg hp ds σ H):o.o=((toZ.put hp ds).ren σ).o/\rd.fz=[]:=by
 cases toZ with
 |box t cs =>
  cases o<;>first|(simp only[TO.read]at h;cases h;done)|skip
  rename_i t' cs';simp only[TO.read]at h
  cases hb:bk t t' with
  |false=>rw[hb]at h;cases h
  |true =>
   rw[hb]at h;have e1:=eb hb;subst e1;obtain⟨h1,h2⟩:=QG hS cs cs' rd h hs hn he hr;exact⟨by simp only[OA.o,TO.put,OA.ren,h1],h2⟩
 |row e c j fz =>
  obtain⟨f,l,w,rfl,e1,e2,e3⟩:=zmu h hs;refine⟨?_,e3⟩;simp only[TO.put,OA.ren,e1,OA.o]
  cases fz<;>cases f<;>first|(cases e2;done)|rfl
 |map kc ec j =>
  cases o<;>first|(simp only[TO.read]at h;cases h;done)|skip
  rename_i kc' ec' l;simp only[TO.read]at h;split at h
  ·rename_i e
   obtain⟨rfl,rfl⟩:=e;cases h;have h1:zac ds j (.m kc' ec')=l:=hs _ (msQ.2 rfl);exact⟨by simp only[TO.put,OA.ren,h1],rfl⟩
  ·cases h
 |gn i c j =>
  cases o<;>first|(simp only[TO.read]at h;cases h;done)|skip
  rename_i i' c' x;simp only[TO.read]at h
  cases hb:bk i i' with
  |false=>rw[hb]at h;cases h
  |true =>
   rw[hb]at h;have e1:=eb hb;subst e1;dsimp only[ctQ]at h;split at h
   ·rename_i e
    subst e;cases h;have h1:zac ds j c'=x:=hs _ (msQ.2 rfl);exact⟨by simp only[TO.put,OA.ren,h1],rfl⟩
   ·cases h
 |rw i =>
  cases o<;>first|(simp only[TO.read]at h;cases h;done)|skip
  rename_i i';simp only[TO.read]at h
  cases hb:bk i i' with
  |false=>rw[hb]at h;cases h
  |true =>
   rw[hb]at h;have e1:=eb hb;subst e1;cases h;exact⟨rfl,rfl⟩
def zgj:∀{l:List (Nat×TO)}{ns:List (Nat×Nat)}{rd:Rd S.T},zff hp H ns l=bc rd->Sat ds rd.ps->Nam σ ns->Nam σ rd.ns->∀k e c j fz,(k,TO.row e c j fz)∈l->∃f l' w,H.get (σ k)=bc (.row e c f l' w)/\zac ds j (.l c)=l'
 |[],ns,rd,h,hs,h1,h2,k,e,c,j,fz,hm=>by cases hm
 |(k0,o)::r,ns,rd,h,hs,h1,h2,k,e,c,j,fz,hm=>by
  simp only[zff]at h;split at h
  ·rename_i k' hk
   split at h
   ·rename_i o' ho
    split at h
    ·rename_i x hx
     split at h
     ·rename_i y hy
      cases h
      rcases bp.1 hm with e1|hm
      ·cases e1
       obtain⟨f,l',w,rfl,e2,_,_⟩:=zmu hx hs.left;have e3:=h1 _ (zce hk);exact⟨f,l',w,by rw[e3];exact ho,e2⟩
      ·exact zgj hy hs.right (λp hp=>(bz.1 hp).elim (h1 p) (h2.left p)) h2.right k e c j fz hm
     ·cases h
    ·cases h
   ·cases h
  ·cases h
def Wy{ns:List (Nat×Nat)}{rd:Rd S.T}(h:zff hp H ns hp=bc rd)(hs:Sat ds rd.ps)(h1:Nam σ ns)(h2:Nam σ rd.ns):Hg hp ds σ H:=⟨λk c j hj e c' fz l wl hg=>by
 obtain⟨e0,fz0,hm⟩:=QI hj;obtain⟨f,l',w,g1,g2⟩:=zgj h hs h1 h2 k e0 c j fz0 hm;rw[hg]at g1;cases g1
 rw[g2]⟩
def Wz(hS:S.OK):∀{l:List (Nat×TO)}{ns:List (Nat×Nat)}{rd:Rd S.T},zff hp H ns l=bc rd->Sat ds rd.ps->Nam σ ns->Nam σ rd.ns->wW rd.eq->Hg hp ds σ H->∀F,uz (l.map λp=>σ p.1) H=bc F->hV F=Kx σ (hV (zZ0 hp ds l))/\rd.fz=[]
 |[],ns,rd,h,hs,h1,h2,he,hr,F,hF=>by
  simp only[zff]at h;cases h;cases zm hF;exact⟨rfl,rfl⟩
 |(k0,o)::r,ns,rd,h,hs,h1,h2,he,hr,F,hF=>by
  simp only[zff]at h;split at h
  ·rename_i k' hk
   split at h
   ·rename_i o' ho
    split at h
    ·rename_i x hx
     split at h
     ·rename_i y hy
      cases h;have e3:σ k0=k':=h1 _ (zce hk);simp only[mk9,uz,e3,ho]at hF;split at hF
      ·rename_i F' hF'
       cases hF;obtain⟨g1,g2⟩:=zH8 hS hx hs.left h2.left he.left hr;obtain⟨g3,g4⟩:=Wz hS hy hs.right (λp hp=>(bz.1 hp).elim (h1 p) (h2.left p)) h2.right he.right hr F' hF';refine⟨?_,by simp only[Rd.app,g2,g4,bI]⟩;have g5:((o.put hp ds).ren σ).o=(o.put hp ds).o.ren σ:=zMe hS _;simp only[hV,mk9,Kx,zZ0]at g3 ⊢;rw[g3,g1,g5,e3]
      ·cases hF
     ·cases h
    ·cases h
   ·cases h
  ·cases h
def dedup:List Nat->List Nat
 |[]=>[]
 |k::r=>bif zzl k r then dedup r else k::dedup r
def uJ(d:Nat)(hin hout:List (Nat×TO)):List (Nat×Nat):=(((hout.map (·.1)).filter λk=>!((hin.map (·.1)).contains k)).zipIdx).map λp=>(p.1,3000000+d*100+p.2)
def OA.frz:OA S.T->OA S.T
 |.row e c _ l w=>.row e c .all l w
 |o=>o
def rowB:OA S.T->Bool
 |.row ..=>bf
 |_=>bd
def zcf(F:AH S.T):AH S.T:=F.map λp=>(p.1,p.2.frz)
def zi7:List (Nat×TO)->List (Nat×Nat)
 |[]=>[]
 |(k,.rw (_+1))::r=>(k,k)::zi7 r
 |_::r=>zi7 r
def Ct.chk(c:Ct S)(d:Nat)(rd:Rd S.T)(fz:List Nat)(R:AH S.T):Bool :=
 yt (rd.ps.map (·.1))&&(rd.ps.all (λp=>cm (p.1+1) c.ci.length)&&((rd.ns++zi7 c.hin).all (λp=>bk (asg (rd.ns++uJ d c.hin c.hout) p.1) p.2) &&
  (yt ((c.hout.map (·.1)).map (asg (rd.ns++uJ d c.hin c.hout)))&&((c.hin.map (·.1)).all (c.hout.map (·.1)).contains&&(uj c.ins c.hin&&(R.all (λp=>rowB p.2) &&
  ((c.hout.map (λp=>asg (rd.ns++uJ d c.hin c.hout) p.1)).all λk=>!(R.has k))))))))
def zmv:Tp->Bool
 |.d (.i _) _=>bf
 |.d .b _=>bf
 |.d .s _=>bf
 |_=>bd
def zPz:Tp->Bool
 |.tup l=>l.all zmv
 |t=>zmv t
def Ct.isB(c:Ct S):Bool:=c.hin.isEmpty&&(c.hout.isEmpty&&zPz c.out)
def Ct.call(c:Ct S)(H:AH S.T)(d:Nat)(vs:List (A S.T)):Option (OR S):=match Tp.reads c.hin bd H c.ins vs with
 |some r1=>match zff c.hin H (r1.ns++zi7 c.hin) c.hin with
  |some r2=>match zfg (r1.app r2).ps 0 c.ci,uz (dedup r1.fz) H with
   |some x,bc R =>
    bif c.chk d (r1.app r2) (dedup r1.fz) R
    then bif c.isB then bc (.eqs (r1.app r2).eq (.bnd (c.fn x) [] (dedup r1.fz) λr=>bc (c.out.put c.hout (yT c.ci x++yT c.co r),[])))
    else bc (.eqs (r1.app r2).eq (.bnd (c.fn x) ((c.hin.map λp=>asg ((r1.app r2).ns++uJ d c.hin c.hout) p.1)++dedup r1.fz) [] λr =>
     bc ((c.out.put c.hout (yT c.ci x++yT c.co r)).ren (asg ((r1.app r2).ns++uJ d c.hin c.hout)),rhA (asg ((r1.app r2).ns++uJ d c.hin c.hout)) (oa c.hout (yT c.ci x++yT c.co r))++zcf R)))
    else bh
   |_,_=>bh
  |none=>bh
 |none=>bh
def qP{k:Nat}:∀{l:List Nat},k∈l->k∈dedup l
 |a::r,h=>by
  simp only[dedup]
  cases hb:zzl a r with
  |true =>
   rw[ctQ]
   have ha:a∈r:=by
    clear h
    induction r with
    |nil=>cases hb
    |cons b r ih =>
     simp only[zzl]at hb
     cases hc:bk a b with
     |true=>rw[eb hc];exact al
     |false=>rw[hc]at hb;exact mcQ _ (ih hb)
   rcases bp.1 h with rfl|h
   ·exact qP ha
   ·exact qP h
  |false =>
   rw[cf]
   rcases bp.1 h with rfl|h
   ·exact al
   ·exact mcQ _ (qP h)
def zt2(p:Nat×EV.Obj)(F:ax):frz (p::F)=frz [p]++frz F:=by
 obtain⟨k,o⟩:=p;cases o<;>rfl
def kB(hS:S.OK):∀{F:AH S.T},hV (zcf F)=frz (hV F)
 |[]=>rfl
 |(k,o)::r=>by
  have ih:=kB hS (F:=r)
  cases o with
  |rw i =>
   show(k,S.ro i)::hV (zcf r)=frz ((k,S.ro i)::hV r)
   rw[zt2,hS.rfrz,ih];rfl
  |gn i c x =>
   show(k,S.go i c x)::hV (zcf r)=frz ((k,S.go i c x)::hV r)
   rw[zt2,hS.gfrz,ih];rfl
  |box t cs=>simp only[zcf,hV,mk9,OA.frz,OA.o,frz]at ih ⊢;rw[ih]
  |map kc ec l=>simp only[zcf,hV,mk9,OA.frz,OA.o,frz]at ih ⊢;rw[ih]
  |row e c f l w=>simp only[zcf,hV,mk9,OA.frz,OA.o,frz,Fz.n,bN]at ih ⊢;rw[ih]
def oM:∀{F:ax},frz (frz F)=frz F
 |[]=>rfl
 |(k,.row t sz _ els)::r=>by simp only[frz,oM (F:=r)]
 |(k,.box t cs)::r=>by simp only[frz,oM (F:=r)]
 |(k,.map l)::r=>by simp only[frz,oM (F:=r)]
 |(k,.glob g t cs)::r=>by simp only[frz,oM (F:=r)]
 |(k,.nest g t sz0 pd0 ls0)::r=>by simp only[frz,oM (F:=r)]
 |(k,.gen g)::r=>by simp only[frz,oM (F:=r)]
def zi8:∀{ps:List (Nat×Dy S.T)}{j:Nat}{c:TC}{x:c.ty S.T},pick j c ps=bc x->(ps.map (·.1)).Nodup->∀d,(j,d)∈ps->d=⟨c,x⟩
 |(j',⟨c',y⟩)::r,j,c,x,h,hn,d,hd=>by
  simp only[mk9,cG]at hn;simp only[pick]at h
  cases hb:bk j j' with
  |true =>
   rw[hb]at h;have e1:=eb hb;subst e1;dsimp only[ctQ]at h;split at h
   ·rename_i e
    subst e;cases h
    rcases bp.1 hd with e2|hd
    ·cases e2;rfl
    ·exact aU (cw hd) hn.1
   ·cases h
  |false =>
   rw[hb]at h
   rcases bp.1 hd with e2|hd
   ·cases e2
    rw[cD]at hb;cases hb
   ·exact zi8 h hn.2 d hd
def zcg{ps:List (Nat×Dy S.T)}(hn:(ps.map (·.1)).Nodup):∀(cs:List TC)(j0:Nat)(x:HL S.T cs),zfg ps j0 cs=bc x->∀j d,(j,d)∈ps->j0<=j->j<j0+cs.length->(yT cs x)[j-j0]?=bc d
 |[],j0,x,h,j,d,hd,h1,h2=>by simp at h2;omega
 |[c],j0,x,h,j,d,hd,h1,h2=>by
  have e1:j=j0:=by simp at h2;omega
  subst e1;simp only[zfg]at h;rw[zi8 h hn d hd];simp[yT]
 |c::c'::r,j0,x,h,j,d,hd,h1,h2=>by
  simp only[zfg]at h;split at h
  ·rename_i y hy
   split at h
   ·rename_i z hz
    cases h;by_cases e1:j=j0
    ·subst e1
     rw[zi8 hy hn d hd];simp[yT]
    ·have:=zcg hn (c'::r) (j0+1) z hz j d hd ab (by simp only[lc]at h2 ⊢;omega)
     show((⟨c,y⟩:Dy S.T)::yT (c'::r) z)[j-j0]?=bc d
     rw[show j-j0=(j-(j0+1))+1 by omega,List.getElem?_cons_succ];exact this
   ·cases h
  ·cases h
def zBv{ds:List (Dy S.T)}{j:Nat}{d:Dy S.T}(h:ds[j]?=bc d):zac ds j d.1=d.2:=by
 unfold zac;rw[h];simp
def zt3{ps:List (Nat×Dy S.T)}(hn:(ps.map (·.1)).Nodup){cs:List TC}{x:HL S.T cs}(h:zfg ps 0 cs=bc x)(hl:∀p∈ps,p.1<cs.length):Sat (yT cs x) ps:=λp hp=>by
 obtain⟨j,d⟩:=p;have:=zcg hn cs 0 x h j d hp (cj _) (by have:=hl _ hp;simpa using this);exact zBv this
def zch:∀{a b:List Nat}{F:AH S.T},uz (a++b) H=bc F->∃F1 F2,F=F1++F2/\uz a H=bc F1/\uz b H=bc F2
 |[],b,F,h=>⟨[],F,rfl,rfl,h⟩
 |k::a,b,F,h=>by
  simp only[List.cons_append,uz]at h;split at h
  ·rename_i o ho
   split at h
   ·rename_i F' hF'
    cases h;obtain⟨F1,F2,rfl,h1,h2⟩:=zch hF';exact⟨(k,o)::F1,F2,rfl,by simp only[uz,ho,h1],h2⟩
   ·cases h
  ·cases h
def WA:∀{ks:List Nat}{R:AH S.T},uz ks H=bc R->∀k∈ks,∀o,H.get k=bc o->(hV (zcf R)).get k=bc o.frz.o
 |k0::r,R,h,k,hk,o,ho=>by
  simp only[uz]at h;split at h
  ·rename_i o0 ho0
   split at h
   ·rename_i F' hF'
    cases h;simp only[zcf,hV,mk9,ax.get]
    cases hb:bk k k0 with
    |true =>
     have:=eb hb;subst this;rw[ho0]at ho;cases ho;rfl
    |false =>
     rcases bp.1 hk with rfl|hk
     ·rw[cD]at hb;cases hb
     ·exact WA hF' k hk o ho
   ·cases h
  ·cases h
def zmw:∀{ks:List Nat}{R:AH S.T},uz ks H=bc R->∀k∈ks,∀o,H.get k=bc o->(hV R).get k=bc o.o
 |k0::r,R,h,k,hk,o,ho=>by
  simp only[uz]at h;split at h
  ·rename_i o0 ho0
   split at h
   ·rename_i F' hF'
    cases h;simp only[hV,mk9,ax.get]
    cases hb:bk k k0 with
    |true =>
     have:=eb hb;subst this;rw[ho0]at ho;cases ho;rfl
    |false =>
     rcases bp.1 hk with rfl|hk
     ·rw[cD]at hb;cases hb
     ·exact zmw hF' k hk o ho
   ·cases h
  ·cases h
def zci{σ:Nat->Nat}{a b:List (Nat×Nat)}(h:Nam σ a)(k:Nam σ b):Nam σ (a++b):=λp hp=>(bz.1 hp).elim (h p) (k p)
def zmx{hp:List (Nat×TO)}{ds:List (Dy S.T)}{t:Tp}(h:zmv t=bf):(t.put hp ds).v.bare=bf/\(t.put hp ds).v.refs=[]:=by
 unfold zmv at h;split at h
 ·exact⟨by simp only[Tp.put,A.v,vL,V.bare],by simp only[Tp.put,A.v,vL,V.refs]⟩
 ·exact⟨by simp only[Tp.put,A.v,vL,V.bare],by simp only[Tp.put,A.v,vL,V.refs]⟩
 ·exact⟨by simp only[Tp.put,A.v,vL,V.bare],by simp only[Tp.put,A.v,vL,V.refs]⟩
 ·cases h
def zt4{hp:List (Nat×TO)}{ds:List (Dy S.T)}:∀{l:List Tp},l.all zmv=bf->Wn (A.vs (Tp.puts hp ds l))=bf/\wP (A.vs (Tp.puts hp ds l))=[]
 |[],_=>⟨by simp only[Tp.puts,A.vs,Wn],by simp only[Tp.puts,A.vs,wP]⟩
 |t::r,h=>by
  simp only[List.all_cons,bn]at h;obtain⟨h1,h2⟩:=zmx (hp:=hp) (ds:=ds) h.1;obtain⟨h3,h4⟩:=zt4 (hp:=hp) (ds:=ds) h.2;exact⟨by simp only[Tp.puts,A.vs,Wn,h1,h3,gP],by simp only[Tp.puts,A.vs,wP,h2,h4,bI]⟩
def zH9{hp:List (Nat×TO)}{ds:List (Dy S.T)}{t:Tp}(h:zPz t=bf):(t.put hp ds).v.bare=bf/\(t.put hp ds).v.refs=[]:=by
 unfold zPz at h;split at h
 ·obtain⟨h1,h2⟩:=zt4 (hp:=hp) (ds:=ds) h
  exact⟨by simp only[Tp.put,A.v,V.bare,h1],by simp only[Tp.put,A.v,V.refs,h2]⟩
 ·exact zmx h
def zP0(hS:S.OK){σ:Nat->Nat}:∀{F:AH S.T},hV (rhA σ F)=Kx σ (hV F)
 |[]=>rfl
 |(k,o)::r=>by
  have ih:=zP0 hS (σ:=σ) (F:=r);have h1:=zMe hS (σ:=σ) o;simp only[rhA,hV,Kx,mk9]at ih ⊢;rw[ih,h1]
def zt5{k:Nat}:∀{F:AH S.T},(zcf F).has k=F.has k
 |[]=>rfl
 |p::r=>by
  have ih:=zt5 (k:=k) (F:=r);simp only[zcf,mk9,AH.has]at ih ⊢;rw[ih]
def zP1(hS:S.OK){P:bm}{f d:Nat}{c:Ct S}(hc:c.OK P f){o:Oper}{E:AE S.T}{vs:List (A S.T)}(hv:zxd P o (eV E) f (A.vs vs)){r:OR S}(h:c.call H d vs=bc r):r.OK P o E H:=by
 unfold Ct.call at h;split at h
 ·rename_i r1 g1
  split at h
  ·rename_i r2 g2
   split at h
   ·rename_i x R g3 g4
    cases hb:c.chk d (r1.app r2) (dedup r1.fz) R with
    |false=>rw[hb]at h;cases h
    |true =>
     rw[hb,ctQ]at h;simp only[Ct.chk,bn]at hb;obtain⟨b1,b2,b3,b4,b5,b6,b7,b8⟩:=hb
     cases hB:c.isB with
     |true =>
      rw[hB,ctQ]at h;cases h;intro heq q hq a F' hres F R0 hF hR0;cases zm hF;cases hres;have e2:R0=R:=Option.some.inj (hR0.symm.trans g4);subst e2;simp only[Ct.isB,bn,eh]at hB;obtain⟨i1,i2,i3⟩:=hB
      have hs:Sat (yT c.ci x) (r1.app r2).ps:=zt3 (yz b1) g3 λp hp=>by
       have:=(bj.1 b2) p hp;exact lb this
      have hn:Nam (asg ((r1.app r2).ns++uJ d c.hin c.hout)) ((r1.app r2).ns++zi7 c.hin):=λp hp=>eb ((bj.1 b3) p hp)
      have he:wW (r1.app r2).eq:=heq;have hr:Hg c.hin (yT c.ci x) (asg ((r1.app r2).ns++uJ d c.hin c.hout)) H:=Wy g2 hs.right (zci hn.left.left hn.right) hn.left.right
      have hV1:=oc hS (R:=hV R0) c.ins vs r1 g1 hs.left hn.left.left he.left hr λk hk e c' f' l wl hg=>⟨_,zmw g4 k (qP hk) _ hg⟩
      have hcl:=Hf (S:=S) hS (ds:=yT c.ci x) b6
      have hrefs:wP (A.vs (Tp.puts c.hin (yT c.ci x) c.ins))=[]:=by
       simp only[uj,bn,i1,cT]at b6;rw[kA hS]
       refine List.eq_nil_iff_forall_not_mem.2 λk hk=>?_
       have:=(bj.1 b6.1) k hk;simp at this
      rw[H8 hS,He _ hrefs]at hV1;have hfn:=hc x q hq;obtain⟨e1,e2⟩:=zH9 (S:=S) (hp:=c.hout) (ds:=yT c.ci x++yT c.co q) i3
      have h0:∀ds,hV (oa (S:=S) c.hin ds)=[]:=λds=>by rw[i1];rfl
      have h1:∀ds,hV (oa (S:=S) c.hout ds)=[]:=λds=>by rw[i2];rfl
      rw[h0,h1]at hfn;have:=zxf (o:=o) (ρ:=eV E) hv hfn hV1 e1 e2 hrefs;simpa[hV]using this
     |false =>
     rw[hB,cf]at h;cases h;intro heq q hq a F' hres F R0 hF hR0;cases zm hR0;cases hres;generalize hL:(r1.app r2).ns++uJ d c.hin c.hout=L at *;obtain⟨F1,F2,rfl,hF1,hF2⟩:=zch hF;have e2:F2=R:=Option.some.inj (hF2.symm.trans g4);subst e2
     have hs:Sat (yT c.ci x) (r1.app r2).ps:=zt3 (yz b1) g3 λp hp=>by
      have:=(bj.1 b2) p hp;exact lb this
     have hn:Nam (asg L) ((r1.app r2).ns++zi7 c.hin):=λp hp=>eb ((bj.1 b3) p hp)
     have he:wW (r1.app r2).eq:=heq;have hr:Hg c.hin (yT c.ci x) (asg L) H:=Wy g2 hs.right (zci hn.left.left hn.right) hn.left.right;obtain⟨k1,k2⟩:=Wz hS g2 hs.right (zci hn.left.left hn.right) hn.left.right he.right hr F1 hF1
     have hR:frz (hV (zcf F2))=hV (zcf F2):=by rw[kB hS,oM]
     have hV1:=oc hS (R:=hV (zcf F2)) c.ins vs r1 g1 hs.left hn.left.left he.left hr λk hk e c' f' l wl hg=>⟨_,WA g4 k (qP hk) _ hg⟩
     rw[H8 hS]at hV1
     have hcall:=zAu (o:=o) L hv (hc x q hq) hV1 hR (by rw[vr];exact b4) (Hf hS b6) (by rw[vr,vr];exact b5) (by
      rw[vB,vr,cS]
      refine bj.2 λk hk=>?_
      have:=(bj.1 b8) k hk;rw[oK]
      rw[zt5];exact this)
     have hfin:=zA0 (Fa:=hV F1) (R:=hV F2) (o:=o) (P:=P) (ρ:=eV E) rfl (by rw[k1,<- kB hS];exact hcall);simp only[zUz]
     show EV.Loc P o (eV E) (hV F1++hV F2++[]) _ (_++[])
     rw[bI,bI,zP0 hS,zxq hS];exact hfin
   ·cases h
  ·cases h
 ·cases h
def CtP.chk{pc:List TC}(c:CtP S pc)(rd:Rd S.T)(R:AH S.T):Bool :=
 yt (rd.ps.map (·.1))&&(rd.ps.all (λp=>cm (p.1+1) c.ci.length)&&((rd.ns++zi7 c.hin).all (λp=>bk (asg rd.ns p.1) p.2) &&
  (yt ((c.hin.map (·.1)).map (asg rd.ns))&&(uj c.ins c.hin&&R.all (λp=>rowB p.2)))))
structure zBw(S:Tab)(pc:List TC) where
 eqs:List (Nat×Nat)
 o:Option (HL S.T pc)
 kF:List Nat
 kR:List Nat
def CtP.att{pc:List TC}(c:CtP S pc)(H:AH S.T)(vs:List (A S.T)):Option (zBw S pc):=match Tp.reads c.hin bd H c.ins vs with
 |some r1=>match zff c.hin H (r1.ns++zi7 c.hin) c.hin with
  |some r2=>match zfg (r1.app r2).ps 0 c.ci,uz (dedup r1.fz) H with
   |some x,bc R =>
    bif c.chk (r1.app r2) R then bc ⟨(r1.app r2).eq,c.fn x,c.hin.map λp=>asg (r1.app r2).ns p.1,dedup r1.fz⟩else bh
   |_,_=>bh
  |none=>bh
 |none=>bh
def zMf(hS:S.OK){P:bm}{pc:List TC}{pv:HL S.T pc->bu}{f:Nat}{c:CtP S pc}(hc:c.OK P pv f){o:Oper}{E:AE S.T}{vs:List (A S.T)}(hv:zH1 P o (eV E) f (A.vs vs)){t:zBw S pc}(h:c.att H vs=bc t){q:HL S.T pc}(hq:t.o=bc q)(heq:wW t.eqs):
  ∀F R,uz t.kF H=bc F->uz t.kR H=bc R->zH0 P o (eV E) (hV F++hV R) (pv q):=by
 unfold CtP.att at h;split at h
 ·rename_i r1 g1
  split at h
  ·rename_i r2 g2
   split at h
   ·rename_i x R g3 g4
    cases hb:c.chk (r1.app r2) R with
    |false=>rw[hb]at h;cases h
    |true =>
     rw[hb]at h;cases h;simp only[CtP.chk,bn]at hb;obtain⟨b1,b2,b3,b4,b6,b7⟩:=hb;intro F1 F2 hF1 hF2;generalize hL:(r1.app r2).ns=L at *;have e2:F2=R:=Option.some.inj (hF2.symm.trans g4);subst e2
     have hs:Sat (yT c.ci x) (r1.app r2).ps:=zt3 (yz b1) g3 λp hp=>by
      have:=(bj.1 b2) p hp;exact lb this
     have hn:Nam (asg L) ((r1.app r2).ns++zi7 c.hin):=λp hp=>eb ((bj.1 b3) p (by rw[<- hL];exact hp))
     have he:wW (r1.app r2).eq:=heq;have hr:Hg c.hin (yT c.ci x) (asg L) H:=Wy g2 hs.right (zci hn.left.left hn.right) hn.left.right;obtain⟨k1,k2⟩:=Wz hS g2 hs.right (zci hn.left.left hn.right) hn.left.right he.right hr F1 hF1
     have hR:frz (hV (zcf F2))=hV (zcf F2):=by rw[kB hS,oM]
     have hV1:=oc hS (R:=hV (zcf F2)) c.ins vs r1 g1 hs.left hn.left.left he.left hr λk hk e c' f' l wl hg=>⟨_,WA g4 k (qP hk) _ hg⟩
     rw[H8 hS]at hV1;have hcall:=zH2 (o:=o) L hv (hc x q hq) hV1 hR (by rw[vr];exact b4) (Hf hS b6);rw[k1];refine zH3 ?_;rw[<- kB hS];exact hcall
   ·cases h
  ·cases h
 ·cases h
end
end Go.EQ
namespace Go.EV
open Go Go.RowKit Go.Eng
section
variable{K0:List Nat}{ρ:Env}{H:ax}
def zq0(kb j d:Nat){t:Nat}{cs cs':List V}(hF:ux [kb] H=bc [(kb,.box t cs)])(hj:cs[j]?=bc .nilm)(hcs:cs.set j (.gv d zmk)=cs')(hd:kv d H=bd){H1:ax}(hH1:(d,.gen (As []))::(kb,.box t cs')::qK [kb] H=H1):
  Cut K0 ρ H ρ H1:=λc ρr w S=>by
 subst hH1;subst hcs
 have hd':d ∉ keys H:=λh=>by rw[yR.2 h]at hd;cases hd
 have hkb:kb∈keys H:=by
  have:=(xn hF).2 _ (msQ.2 rfl);exact ay this
 have hne:d≠kb:=λe=>hd' (e▸hkb)
 have:=QB.step (c:=c) (ρ:=ρ) (H:=H) (F:=[(kb,.box t cs)]) (F':=[(d,.gen (As [])),(kb,.box t (cs.set j (.gv d zmk)))]) (ks:=[kb]) (ρ':=ρ) (ρr:=ρr) (w:=w) (by simp[yt]) hF (by simp[Kw,hd',hne]) (λm Z hs hnew hR=>by
  have hnew':∀L,m d L=bh:=λL=>hnew d (by simp[keys]) (by simp[keys];exact hne) L
  let m':M:=λk' L=>if k'=d/\L=0 then bc (0,0)else m k' L
  have h1:m' d 0=bc (0,0):=by simp[m']
  have h2:∀k L loc,m k L=bc loc->m' k L=bc loc:=λk L loc e=>by
   by_cases hc:k=d/\L=0
   ·obtain⟨rfl,rfl⟩:=hc;rw[hnew']at e;cases e
   ·simp only[m',aO hc];exact e
  have h3:∀k,k≠d->m' k=m k:=λk hk=>by funext L;simp[m',hk]
  obtain⟨b,cur,g1,g2,g3,g4,g5⟩:=hs.holds _ (msQ.2 rfl)
  have hb1:∀b',blk m' (d,.gen (As [])) b'->False:=λb' h=>h
  have hb2:∀b',blk m' (kb,.box t (cs.set j (.gv d zmk))) b'->blk m (kb,.box t cs) b':=λb' h=>by
   simp only[blk,u6,Obj.ver,h3 kb (Ne.symm hne)]at h ⊢;exact h
  refine⟨m',Z,⟨⟨hs.frozen,λp hp=>?_,by simp[keys];exact hne,λp hp q hq b' q1 q2=>?_⟩,h2,λ_ _ e=>e,rfl,rfl,rfl,aq,λ_ _ _=>rfl,λk hk=>?_,λk hk=>?_,λp hp b' hb=>?_,λ_ _ e=>.inl e⟩,λu=>(hR u).up (λ_ _ e=>e) (λf e=>by cases e;exact⟨m',rfl,h2⟩)⟩
  ·simp only[bp,cR,or_false]at hp
   rcases hp with rfl|rfl
   ·refine⟨⟨0,h1⟩,λL loc e=>?_⟩
    simp only[m']at e;split at e
    ·rename_i hc;omega
    ·rw[hnew']at e;cases e
   ·have g3':=g3.up (Z':=Z) (m':=bc m') (λ_ _ e=>e) (λf e=>by cases e;exact⟨m',rfl,h2⟩)
    refine⟨b,cur,by rw[h3 kb (Ne.symm hne)];exact g1,g2,?_,g4,by rw[h3 kb (Ne.symm hne)];exact g5⟩;obtain⟨x,hx1,hx2⟩:=g3'.get hj;have hx2:x=.map bh:=hx2
    refine zT.of_get (by rw[dj];exact g3'.length) λi v y hv hy=>?_
    by_cases hij:j=i
    ·subst hij
     have hjl:=(bw.1 hj).1;rw[fT,aP rfl,aP hjl]at hv;cases hv;rw[hx1]at hy;cases hy;exact⟨m',rfl,_,h1,hx2⟩
    ·rw[dZ hij]at hv
     obtain⟨z,hz,hr⟩:=g3'.get hv;rw[hy]at hz;cases hz;exact hr
  ·simp only[bp,cR,or_false]at hp hq
   rcases hp with rfl|rfl<;>rcases hq with rfl|rfl
   ·rfl
   ·exact(hb1 _ q1).elim
   ·exact(hb1 _ q2).elim
   ·rfl
  ·simp only[keys,mk9,cT,msQ]at hk
   subst hk;simp[keys]
  ·simp only[keys,mk9,cT,bp,cR,or_false,not_or]at hk
   exact h3 k hk.1
  ·simp only[bp,cR,or_false]at hp
   rcases hp with rfl|rfl
   ·exact(hb1 _ hb).elim
   ·exact .inr ⟨_,msQ.2 rfl,hb2 _ hb⟩) S
 simpa using this
end
section
variable{P:bm}{ρ:Env}{dst:Option Tmp}{ty:bJ}{pos:String}{aft:Array Edge}{gd:Option (Nat×Bool)}
def arrP(P:bm)(t:Nat):Option (Nat×Nat) :=
 match P.underlying t with
 |some (.array n e)=>match P.info? e with
  |some i=>bc (n,i.size)
  |none=>bh
 |_=>bh
def zmy{t n sz kk L off:Nat}{x ix:bE}{k:IntKind}{i:Int}(ht:arrP P t=bc (n,sz))(hx:evV ρ x=.ptr kk L off)(hi:evV ρ ix=.int k i)(h0:0<=i)(h1:i<n):
  Loc P ⟨dst,.indexAddr t x ix,ty,pos,aft,gd⟩ ρ [] (.ptr kk L (off+i.toNat*sz)) []:=by
 intro ρr m Z w hops hs _;have hX:=hops x (by simp[Op.operands]);have hI:=hops ix (by simp[Op.operands]);rw[hx]at hX;rw[hi]at hI;have hI:ev ρr ix=.int k i:=hI;obtain⟨f,loc,e1,e2,hX⟩:=hX;cases e1;unfold arrP at ht;split at ht
 ·rename_i n' e' hu
  split at ht
  ·rename_i ii hii
   simp only[Option.some.injEq,Prod.mk.injEq]at ht;obtain⟨rfl,rfl⟩:=ht;refine⟨rfl,.inl ⟨.pointer (bc ⟨loc.1,off+i.toNat*ii.size,bh⟩),w,?_,m,Z,Step.refl hs,m,loc,rfl,e2,rfl⟩⟩
   have h7:¬((n':Int)<=i):=ab
   simp[bY,Instr.indexAt,run_underlying hu,asIntOf,hX,hI,Instr.sureAddr,sizeOf,typeInfo,hii,h0,h7,Addr.add_lit]
  ·cases ht
 ·cases ht
end
end Go.EV
namespace Go.EQ
open Go Go.RowKit Go.Eng Go.EV
section
variable{S:Tab}
def ohB:A S.T->Option Nat
 |.oh k=>bc k
 |_=>bh
def zMg{a:A S.T}{k:Nat}(h:ohB a=bc k):a=.oh k:=by
 unfold ohB at h;split at h
 ·cases h;rfl
 ·cases h
def HV{α:Type}:List α->Option α
 |[l]=>bc l
 |_=>bh
def zmz{α:Type}{D:List α}{l:α}(h:HV D=bc l):D=[l]:=by
 unfold HV at h;split at h
 ·cases h;rfl
 ·cases h
def zZ1(P:bm)(H:AH S.T)(b:Bool)(t:Nat):A S.T->OR S
 |.oh k=>bif S.om&&zz9 P t .nilm then(match H.get k with
  |some (.gn 7 (.l (.m kc ec)) D)=>.one [k] [] (.dat .b (bif b then dm (α:=List (kc.ty S.T×ec.ty S.T)) D else !(dm (α:=List (kc.ty S.T×ec.ty S.T)) D))) [(k,.gn 7 (.l (.m kc ec)) D)]
  |_=>.no)else .no
 |_=>.no
def zq1(P:bm)(H:AH S.T)(t k:Nat)(ix:A S.T)(co:Bool):OR S:=bif S.om then(match zzn P t with
 |some (kt,et)=>match zxg P et with
  |some zv=>match H.get k,ix with
   |some (.gn 7 (.l (.m .s ec)) D),.dat .s a=>match P.underlying kt,Zy [] ec (ofV zv)with
    |some .string,bc rx=>.bnd (HV (α:=List (TC.ty S.T .s×ec.ty S.T)) D) [k] [] λl =>
      bc (bif co then .tup [.dat ec ((@xj _ _ zxn a l).getD rx.x),.dat .b (@xj _ _ zxn a l).isSome]else .dat ec ((@xj _ _ zxn a l).getD rx.x),[(k,.gn 7 (.l (.m .s ec)) [l])])
    |_,_=>.no
   |_,_=>.no
  |none=>.no
 |none=>.no)else .no
def zq2(P:bm)(H:AH S.T)(t k:Nat)(ix y:A S.T):OR S:=bif S.om then(match zzn P t with
 |some (kt,_)=>match zHy y with
  |.dat ec' b=>match H.get k,ix with
   |some (.gn 7 (.l (.m .s ec)) D),.dat .s a=>match P.underlying kt with
    |some .string=>if h:ec'=ec then .bnd (HV (α:=List (TC.ty S.T .s×ec.ty S.T)) D) [k] [] λl=>bc (.raw .no,[(k,.gn 7 (.l (.m .s ec)) [@u9 _ _ zxn a (h▸b) l])])else .no
    |_=>.no
   |_,_=>.no
  |_=>.no
 |none=>.no)else .no
def zi9(P:bm)(cd:Nat->Option TC)(d t:Nat):OR S:=bif S.om then(match zzn P t with
 |some (kt,et)=>match cd kt,cd et with
  |some .s,bc ec=>.one [] [] (.oh d) [(d,.gn 7 (.l (.m .s ec)) [([]:List (TC.ty S.T .s×ec.ty S.T))])]
  |_,_=>.no
 |none=>.no)else .no
variable{P:bm}{E:AE S.T}{H:AH S.T}{dst:Option Tmp}{ty:bJ}{pos:String}{aft:Array Edge}{gd:Option (Nat×Bool)}
def zBx(hS:S.OK){op:BinOp}{b:Bool}(hop:(op=.eql/\b=bf)∨(op=.neq/\b=bd)){t t':bJ}{x:bE}:(zZ1 P H b t (evA E x)).OK P ⟨dst,.binOp op t x (.const (.map bh)) t',ty,pos,aft,gd⟩ E H:=by
 unfold zZ1;split
 ·rename_i k e
  cases ht:S.om&&zz9 P t .nilm with
  |false=>trivial
  |true =>
   simp only[bn]at ht;simp only[ctQ];split
   ·rename_i kc ec D hg
    intro F R hF hR;cases zm hR;cases wV hg hF;have h1:=zqq (P:=P) (ρ:=eV E) (dst:=dst) (ty:=ty) (t':=t') (pos:=pos) (aft:=aft) (gd:=gd) hop ht.2 (x:=x) (k:=k) (D:=cX (ze4 (vL S kc) (vL S ec)) D) (by rw[zY,e];simp only[A.v]);have e1:=hS.gom ht.1 kc ec D;rw[<- e1]at h1
    have e2:(cX (ze4 (vL S kc) (vL S ec)) D).isEmpty=dm (α:=List (kc.ty S.T×ec.ty S.T)) D:=by cases D<;>rfl
    rw[e2]at h1;simp only[hV,mk9,cT,OA.o,bI,A.v,vL];exact h1
   ·trivial
 ·trivial
def zcj(P:bm)(t:Nat)(a i:A S.T):Option (OR S):=match arrP P t with
 |some (n,sz)=>match intOf i,a with
  |some (_,j),.raw (.ptr k L off)=>bc (bif decide (0<=j)&&decide (j<(n:Nat))then .one [] [] (.raw (.ptr k L (off+cg j*sz))) []else .no)
  |_,_=>bc .no
 |none=>bh
def zm0{t:Nat}{x ix:bE}{r:OR S}(h:zcj P t (evA E x) (evA E ix)=bc r):r.OK P ⟨dst,.indexAddr t x ix,ty,pos,aft,gd⟩ E H:=by
 unfold zcj at h;split at h
 ·rename_i n sz ht
  split at h
  ·rename_i q j k L off h1 h2
   cases h
   cases hb:decide (0<=j)&&decide (j<(n:Nat))with
   |false=>trivial
   |true =>
    simp only[bn,aW]at hb;intro F R hF hR;cases zm hF;cases zm hR;exact zmy ht (by rw[zY,h2];simp only[A.v]) (by rw[zY];exact kz h1) hb.1 hb.2
  ·cases h;trivial
 ·cases h
def zMh{o:Oper}{x:bE}{k:Nat}{l l':List (V×V)}{v:V}(hx:evA E x=.oh k)
  (h:∀ρ2:Env,evV ρ2 x=.mp k->(∀y,(∀k',evA E y≠.oh k')->evV ρ2 y=evV (eV E) y)->EV.Loc P o ρ2 [(k,.map l)] v [(k,.map l')]):EV.Loc P o (eV E) [(k,.gen (As [l]))] v [(k,.gen (As [l']))]:=by
 cases x with
 |tmp t =>
  have ht:E.get t=.oh k:=hx
  refine zHp (ρ2:=(t,.mp k)::eV E) (h _ (by simp[evV,Env.get]) λy hy=>?_) λx hx' m Z y b hb hr=>?_
  ·cases y with
   |tmp q =>
    simp only[evV,Env.get]
    cases hq:bk q t with
    |true =>
     have:=eb hq;subst this;exact aU ht (hy k)
    |false=>rfl
   |_=>rfl
  ·cases x with
   |tmp q =>
    simp only[evV,Env.get]
    cases hq:bk q t with
    |true =>
     have:=eb hq;subst this;simp only[ctQ];refine(ziv hb).1 ?_;simp only[evV,JT,ht,A.v]at hr;exact hr
    |false=>exact hr
   |_=>exact hr
 |const c =>
  simp only[evA]at hx;have:=aQ A.v hx;rw[zL9]at this;unfold ofC at this;split at this
  ·cases this
  ·unfold zte at this
   split at this<;>first|(cases this;done)|(split at this<;>cases this)
 |global g=>cases hx
 |func f=>cases hx
def zxr(hS:S.OK){t k:Nat}{x ix:bE}{co:Bool}(hx:evA E x=.oh k):(zq1 P H t k (evA E ix) co).OK P ⟨dst,.lookup t x ix co,ty,pos,aft,gd⟩ E H:=by
 unfold zq1
 cases hom:S.om with
 |false=>trivial
 |true =>
  simp only[ctQ];split
  ·rename_i kt et hT
   split
   ·rename_i zv hz
    split
    ·rename_i ec D a hg hi
     split
     ·rename_i rx hk hd
      intro l hl a' F' hr F R hF hR;cases hr;have hD:=zmz hl;subst hD;cases zm hR;cases wV hg hF
      have h1:=zMh (P:=P) (o:=⟨dst,.lookup t x ix co,ty,pos,aft,gd⟩) (k:=k) (l:=ze4 (vL S .s) (vL S ec) l) (l':=ze4 (vL S .s) (vL S ec) l) hx λρ2 h2 h3 =>
       @zga P ρ2 dst ty pos aft gd _ _ zxn (vL S .s) (λs:ak=>.string ⟨s.toArray⟩) (vL S ec) t kt et k x ix l co a rx.x zv hT (Wt hk) hz (zcc hS hd) h2 (by
        rw[h3 ix (λk' e=>by rw[hi]at e;cases e),zY,hi];rfl)
      have e1:=hS.gom hom .s ec [l];change EV.Loc P _ (eV E) [(k,.gen (As (cX (ze4 (vL S .s) (vL S ec)) [l])))] _ [(k,.gen (As (cX (ze4 (vL S .s) (vL S ec)) [l])))]at h1;rw[<- e1]at h1;simp only[hV,mk9,cT,OA.o,bI];cases co<;>exact h1
     ·trivial
    ·trivial
   ·trivial
  ·trivial
def zq3(hS:S.OK){cd:Nat->Option TC}{d t:Nat}:(zi9 (S:=S) P cd d t).OK P ⟨dst,.makeMap t bh,ty,pos,aft,gd⟩ E H:=by
 unfold zi9
 cases hom:S.om with
 |false=>trivial
 |true =>
  simp only[ctQ];split
  ·rename_i kt et hT
   split
   ·rename_i ec h1 h2
    intro F R hF hR;cases zm hF;cases zm hR;have h1:=zml (P:=P) (ρ:=eV E) (t:=t) (d:=d) (dst:=dst) (ty:=ty) (pos:=pos) (aft:=aft) (gd:=gd);have e1:=hS.gom hom .s ec [[]];change EV.Loc P _ (eV E) [] _ [(d,.gen (As (cX (ze4 (vL S .s) (vL S ec)) [[]])))]at h1;rw[<- e1]at h1;simp only[hV,mk9,cT,OA.o,bI,A.v];exact h1
   ·trivial
  ·trivial
def zxs(hS:S.OK){t k:Nat}{x ix y:bE}(hx:evA E x=.oh k):(zq2 P H t k (evA E ix) (evA E y)).OK P ⟨dst,.mapUpdate t x ix y,ty,pos,aft,gd⟩ E H:=by
 unfold zq2
 cases hom:S.om with
 |false=>trivial
 |true =>
  simp only[ctQ];split
  ·rename_i kt et hT
   split
   ·rename_i ec' b hy
    split
    ·rename_i ec D a hg hi
     split
     ·rename_i hk
      split
      ·rename_i e
       subst e;intro l hl a' F' hr F R hF hR;cases hr;have hD:=zmz hl;subst hD;cases zm hR;cases wV hg hF
       have h1:=zMh (P:=P) (o:=⟨dst,.mapUpdate t x ix y,ty,pos,aft,gd⟩) (k:=k) (l:=ze4 (vL S .s) (vL S ec') l) (l':=ze4 (vL S .s) (vL S ec') (@u9 _ _ zxn a b l)) hx λρ2 h2 h3 =>
        @Wu P ρ2 dst ty pos aft gd _ _ zxn (vL S .s) (λs:ak=>.string ⟨s.toArray⟩) (vL S ec') t kt et k x ix y l a b hT (Wt hk) h2 (by
         rw[h3 ix (λk' e=>by rw[hi]at e;cases e),zY,hi];rfl) (by
         rw[h3 y (λk' e=>by rw[e]at hy;cases hy),zY,<- zqw,hy];rfl) (oL hS _ _) (oL hS _ _)
       have e1:=hS.gom hom .s ec' [l];have e2:=hS.gom hom .s ec' [@u9 _ _ zxn a b l];change EV.Loc P _ (eV E) [(k,.gen (As (cX (ze4 (vL S .s) (vL S ec')) [l])))] _ [(k,.gen (As (cX (ze4 (vL S .s) (vL S ec')) [@u9 _ _ zxn a b l])))]at h1;rw[<- e1,<- e2]at h1;simp only[hV,mk9,cT,OA.o,bI,A.v];exact h1
      ·trivial
     ·trivial
    ·trivial
   ·trivial
  ·trivial
end
end Go.EQ
namespace Go.EV
open Go Go.RowKit Go.Eng
def zm1(P:bm)(t:bJ):Bool:=match P.underlying t with
 |some (.interface _)=>bd
 |some _=>bf
 |none=>bd
section
variable{P:bm}{ρ:Env}{dst:Option Tmp}{ty:bJ}{pos:String}{aft:Array Edge}{gd:Option (Nat×Bool)}{x:bE}{v:V}
def zq4{t:bJ}{w:bG}(h:zm1 P t=bf)(X:bu):(Instr.makeInterface t X).run P w=.ok (.iface t X) w:=by
 unfold zm1 at h;split at h
 ·cases h
 ·rename_i u hu hn
  unfold Instr.makeInterface;simp only[Sem.run_bind,run_underlying hn,Result.andThen_ok];rfl
 ·cases h
def zq5{t:bJ}(h:zm1 P t=bf)(hx:evV ρ x=v):Loc P ⟨dst,.makeInterface t x,ty,pos,aft,gd⟩ ρ [] (.ifc t v) []:=by
 intro ρr m Z w hops hs _;have hX:=hops x (by simp[Op.operands]);rw[hx]at hX;refine⟨rfl,.inl ⟨_,w,?_,m,Z,Step.refl hs,ev ρr x,rfl,hX⟩⟩;simp only[bY,Sem.run_bind,zq4 h,Result.andThen_ok];rfl
def zP2(P:bm)(t:bJ):Bool:=match P.underlying t with|some (.interface _)=>bf|_=>bd
def zgk{op:BinOp}{t t':bJ}{x:bE}{v:V}{b r:Bool}(hv:(v=.nili/\b=bf)∨∃tx u,v=.ifc tx u/\b=bd)(hop:(op=.eql/\r=b)∨(op=.neq/\r=!b))(h:zP2 P t=bf)(hx:evV ρ x=v):
  Loc P ⟨dst,.binOp op t x (.const .nilIface) t',ty,pos,aft,gd⟩ ρ [] (.bool r) []:=by
 intro ρr m Z w hops hs _;have hX:=hops x (by simp[Op.operands]);rw[hx]at hX
 obtain⟨ms,ht⟩:∃ms,P.underlying t=bc (.interface ms):=by
  unfold zP2 at h;split at h
  ·exact⟨_,by assumption⟩
  ·cases h
 have key:∀(X:bu),((X=.nilIface/\b=bf)∨∃tx u,X=.iface tx u/\b=bd)->ev ρr x=X->∃u,(bY (ev ρr) ⟨dst,.binOp op t x (.const .nilIface) t',ty,pos,aft,gd⟩).run P w=.ok (.value (.bool r)) w/\u=X:=by
  intro X hX2 hxX;have hc:ev ρr (.const .nilIface)=.nilIface:=rfl
  have h':∀d:Nat,(Op.equalIn (d+1) t X .nilIface).run P w=.ok b w:=λd=>by
   rcases hX2 with⟨rfl,rfl⟩|⟨tx,u,rfl,rfl⟩<;>simp[Op.equalIn,run_underlying ht]
  have h2:(Op.equal t X .nilIface).run P w=.ok b w:=h' 9999;refine⟨X,?_,rfl⟩
  rcases hX2 with⟨rfl,rfl⟩|⟨tx,u,rfl,rfl⟩<;>rcases hop with⟨rfl,rfl⟩|⟨rfl,rfl⟩<;>simp only[bY,hxX,hc,eqGuard,binOp]<;>simp[h2]
 rcases hv with⟨rfl,rfl⟩|⟨tx,u,rfl,rfl⟩
 ·obtain⟨u,h1,_⟩:=key _ (.inl ⟨rfl,rfl⟩) hX
  exact⟨rfl,.inl ⟨_,w,h1,m,Z,Step.refl hs,rfl⟩⟩
 ·obtain⟨y,h1,h2⟩:=hX
  obtain⟨u,h1,_⟩:=key _ (.inr ⟨_,_,rfl,rfl⟩) h1;exact⟨rfl,.inl ⟨_,w,h1,m,Z,Step.refl hs,rfl⟩⟩
end
section
variable{P:bm}{ρ:Env}{dst:Option Tmp}{ty:bJ}{pos:String}{aft:Array Edge}{gd:Option (Nat×Bool)}
def zck(P:bm)(t:bJ):bu->Bool
 |.string s=>match P.info? t with
  |some i=>match i.zero with|some (.string b)=>bk s.size 0&&bk b.size 0|_=>bd
  |none=>bd
 |.int k n=>match P.info? t with
  |some i=>match i.zero with|some (.int k' m)=>decide (k=k')&&decide (n=m)|_=>bd
  |none=>bd
 |_=>bd
def zIa{t:bJ}{z:bu}{w:bG}(h:zck P t z=bf):(zeroValue t).run P w=.ok z w:=by
 unfold zck at h;split at h
 ·rename_i s
  split at h
  ·rename_i i hi
   split at h
   ·rename_i b hz
    simp only[bn]at h;have h1:=eb h.1;have h2:=eb h.2
    have e:s=b:=by
     have h3:s.data.size=0:=h1;have h4:b.data.size=0:=h2;cases s;cases b;simp only[Array.size_eq_zero_iff]at h3 h4;rw[h3,h4]
    subst e;simp[zeroValue,typeInfo,hi,hz]
   ·cases h
  ·cases h
 ·rename_i k n
  split at h
  ·rename_i i hi
   split at h
   ·rename_i k' m hz
    simp only[bn,aW]at h;obtain⟨rfl,rfl⟩:=h;simp[zeroValue,typeInfo,hi,hz]
   ·cases h
  ·cases h
 ·cases h
def zfi(P:bm)(t:bJ):Bool:=match P.underlying t with|some (.interface _)=>bd|some _=>bf|none=>bd
def H9{t xt:bJ}{x:bE}{v:V}(h:zfi P t=bf)(hx:evV ρ x=.ifc t v):Loc P ⟨dst,.typeAssert x xt t bf,ty,pos,aft,gd⟩ ρ [] (.tup [v,.bool bf]) []:=by
 intro ρr m Z w hops hs _;have hX:=hops x (by simp[Op.operands]);rw[hx]at hX;obtain⟨y,h1,h2⟩:=hX;refine⟨rfl,.inl ⟨.tuple #[y,.bool bf],w,?_,m,Z,Step.refl hs,[y,.bool bf],rfl,y,[.bool bf],rfl,h2,.bool bf,[],rfl,rfl,rfl⟩⟩;unfold zfi at h
 split at h<;>first|(cases h;done)|skip
 rename_i u hni hu;simp only[bY,h1,Instr.typeAssert,Sem.run_bind,run_underlying hu,Result.andThen_ok]
 cases u<;>first|exact aU rfl (hni _)|simp
def Vk{t xt t':bJ}{x:bE}{v z:V}{zv:bu}(h:zfi P t=bf)(hne:bk t' t=bd)(hz:zck P t zv=bf)(hzr:∀(m:Option M)(Z:ZM),Rep m Z z zv)(hx:evV ρ x=.ifc t' v):Loc P ⟨dst,.typeAssert x xt t bf,ty,pos,aft,gd⟩ ρ [] (.tup [z,.bool bd]) []:=by
 intro ρr m Z w hops hs _;have hX:=hops x (by simp[Op.operands]);rw[hx]at hX;obtain⟨y,h1,h2⟩:=hX
 have hne':t'≠t:=λe=>by subst e;rw[cD]at hne;cases hne
 refine⟨rfl,.inl ⟨.tuple #[zv,.bool bd],w,?_,m,Z,Step.refl hs,[zv,.bool bd],rfl,zv,[.bool bd],rfl,hzr _ _,.bool bd,[],rfl,rfl,rfl⟩⟩;have hzz:=zIa (w:=w) hz;unfold zfi at h
 split at h<;>first|(cases h;done)|skip
 rename_i u hni hu;simp only[bY,h1,Instr.typeAssert,Sem.run_bind,run_underlying hu,Result.andThen_ok]
 cases u<;>first|exact aU rfl (hni _)|simp[hne',hzz]
def zm2{t g k n:Nat}{ob:Go.Obj}{cs:List V}(h:oI P t=bc (bc n))(hn:cs.length=n):Loc P ⟨dst,.load t (.global g),ty,pos,aft,gd⟩ ρ [(k,.glob g ob cs)] (.agg cs) [(k,.glob g ob cs)]:=by
 intro ρr m Z w hops hs _;obtain⟨g1,⟨g2,cur,u,fr,e1,g3⟩,g4⟩:=hs.holds _ (msQ.2 rfl);subst e1;have hl:=g3.length;refine⟨rfl,.inl ⟨.agg cur.toList.toArray,w,Ay (p:=⟨g,0,bh⟩) _ (qL h) rfl ab λj u' hj=>?_,m,Z,Step.refl hs,_,rfl,g3.up (λ_ _ e=>e) (λf e=>by cases e)⟩⟩;have:(⟨g,0,bh⟩:Addr).add j=⟨g,0+j,bh⟩:=Addr.add_lit ..;rw[this,cI,cell_of_row w g j cur u fr g2];simpa using hj
def zZ2(P:bm)(t n:bJ):Bool:=match P.underlying t with
 |some (.array m e)=>bk m n&&(match oI P e with|some bh=>(match P.info? e with|some i=>bk i.size 1|none=>bd)|_=>bd)
 |_=>bd
def zm3{t:bJ}{x ix:bE}{k:IntKind}{i:Int}{cs:List V}{v:V}(ht:zZ2 P t cs.length=bf)(hx:evV ρ x=.agg cs)(hi:evV ρ ix=.int k i)(h0:0<=i)(hv:cs[i.toNat]?=bc v):
  Loc P ⟨dst,.index t x ix,ty,pos,aft,gd⟩ ρ [] v []:=by
 intro ρr m Z w hops hs _;have hX:=hops x (by simp[Op.operands]);have hI:=hops ix (by simp[Op.operands]);rw[hx]at hX;rw[hi]at hI;have hI:ev ρr ix=.int k i:=hI;obtain⟨l,h1,h2⟩:=hX;obtain⟨u,h3,h4⟩:=h2.get hv;have hl:=h2.length;have hlt:=(bw.1 hv).1;refine⟨rfl,.inl ⟨u,w,?_,m,Z,Step.refl hs,h4⟩⟩;unfold zZ2 at ht;split at ht
 ·rename_i mm e hu
  simp only[bn]at ht;have hm:=eb ht.1;subst hm;have ht:=ht.2;split at ht
  ·rename_i hsh
   split at ht
   ·rename_i inf hinf
    have hs1:=eb ht
    have hil:i<(cs.length:Nat):=ab
    have hag:(isAgg e).run P w=.ok bd w:=qD (u7 hsh);simp[bY,Instr.index,asIntOf,hI,h1,run_underlying hu,h0,hil,sizeOf,typeInfo,hinf,hs1,part,hag,h3]
   ·cases ht
  ·cases ht
 ·cases ht
def zm4{op:BinOp}(hop:op=.shl∨op=.shr){t t':bJ}{x y:bE}{k k':IntKind}{m n:Int}{v:V}(hx:evV ρ x=.int k m)(hy:evV ρ y=.int k' n)(h:zf0 op k m n=bc v):Loc P ⟨dst,.binOp op t x y t',ty,pos,aft,gd⟩ ρ [] v []:=by
 intro ρr mm Z w hops hs _;have hX:=hops x (by simp[Op.operands]);have hY:=hops y (by simp[Op.operands]);rw[hx]at hX;rw[hy]at hY;obtain⟨u,h1,h2⟩:=YL (P:=P) (m:=bc mm) (Z:=Z) (w:=w) (dst:=dst) (ty:=ty) (pos:=pos) (aft:=aft) (gd:=gd) (t:=t) (t':=t') hX hY hop h;exact⟨rfl,.inl ⟨u,w,h1,mm,Z,Step.refl hs,h2⟩⟩
end
end Go.EV
