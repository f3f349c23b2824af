/- texts that the proof reaches, part 12 -/
import Derived.Test.YtffencjoddkghaaGreatDoorKk
set_option linter.all false
open BitVec renaming ofInt->cv,toNat_ofInt->iA
open Bool renaming false->bd,true->bg,not_true->bW,true_and->cr,not_false->cK,and_false->eL,and_eq_false_iff->fq
open Go.Proofs.Tryz renaming prog->bm
open Int renaming toNat->bX,toNat_natCast->dB,toNat_of_nonneg->dN,emod_nonneg->eX,natCast_pow->fM,emod_lt_of_pos->iC
open List renaming length->bf,all_eq_true->bj,mem_cons->bq,mem_map->bu,getElem?_eq_getElem->bz,mem_append->bA,append_nil->bE,length_nil->bI,length_map->bJ,mem_of_getElem?->bL,nil_append->bN,flatMap_cons->bO,cons_append->bP,map_append->bU,nodup_append->cu,getElem?_map->cz,nodup_cons->cA,range->cL,all_cons->cO,foldl_cons->dv,flatMap_nil->dx,flatMap_append->dy,take_left->dK,take_append_drop->eG,take_succ_cons->eR,isEmpty_nil->fy,append_of_mem->gm,drop_eq_getElem_cons->gB,isEmpty_cons->gH
open Nat renaming zero_le->cj,lt_succ_self->cS,le_trans->cU,le_refl->dj,testBit->dH,not_lt_zero->ee,add_assoc->ei,mod_lt->fD,add_le_add_left->il,succ_le_succ->iR,two_pow_pos->lj
open Option renaming bind->aN,some->bc,none->bh,bind_assoc->cy
open Sum renaming inl->bp,inr->br
set_option maxRecDepth 100000
namespace Go.Proofs.YtffencjoddkghaaGreatDoor
open Go Go.RowKit Go.Eng Go.EV Go.EQ
variable[Fuel]
def SR{α β:Type}(l:List ar)(x:Except EE (α×List ar))(s:Option β)(f:α->Int->β):Prop:=match x with
 |.ok (v,r)=>s=bc (f v (zU l r))/\St l r
 |.error _=>s=bh
def RT.sr{α β:Type}{l:List ar}{x:Except EE (α×List ar)}{s:Option β}{p:Option EE}{f:α->Int->β}(h:RT l x s p f):SR l x s f:=by
 match x,h with
 |.ok (v,r),h=>exact⟨h.1,h.2.2⟩
 |.error e,h=>exact h.1
def SR.bind{α β α' β':Type}{l:List ar}{x:Except EE (α×List ar)}{s:Option β}{f:α->Int->β}{g:α->List ar->Except EE (α'×List ar)}{s2:β->Option β'}{f2:α'->Int->β'}
  (h:SR l x s f) (h2:∀v r,x=.ok (v,r)->St l r->SR l (g v r) (s2 (f v (zU l r))) f2):SR l (thn x g) (s.bind s2) f2:=by
 match x,h,h2 with
 |.error e,h,_=>show _=bh;rw[show s=bh from h];rfl
 |.ok (v,r),⟨h,hs⟩,h2 =>
  have:=h2 v r rfl hs;rw[h];exact this
def RTS{α β γ δ:Type}(l:List ar)(x:Except EE (α×List ar))(s:Option (β⊕γ))(p:Option (EE⊕δ))(f:α->Int->β):Prop:=match x with
 |.ok (v,r)=>s=bc (.inl (f v (zU l r)))/\p=bh/\St l r
 |.error e=>s=bh/\p=bc (.inl e)
def fE(e:Expr)(i:Int):Int×Int×Int×ak×ak×List Expr:=(i,e.Op,e.N,e.S,e.Key,e.Args)
def fP(x:Nat×Expr)(i:Int):Int×Int×Int×Int×ak×ak×List Expr:=((x.1:Int),i,x.2.Op,x.2.N,x.2.S,x.2.Key,x.2.Args)
section
variable{l r:List ar}
def ZE(h:St l r)(t:ak)(lv m:Nat):((bif (decide ((lv:Int)<=(m:Int)))then(xF l (zU l r) t).bind λx2=>bc (x2.2,x2.1)else bc (zU l r,bd)))=bc (if lv<=m/\isB t r=bg then(zU l r.tail,bg)else(zU l r,bd)):=by
 rw[zll h];have e:decide ((lv:Int)<=(m:Int))=decide (lv<=m):=yE ab;rw[e];by_cases hm:lv<=m
 ·cases hb:isB t r<;>simp[hm]
 ·simp[hm]
def zZ9{K:Nat}(h:St l r)(ihE:∀(lv:Nat)(r':List ar),lv<=8->r'.length<r.length->St l r'->SR l (DE lv r') (yd K l (zU l r') (lv:Int)) fE):
  SR l (thn (Yf r) λe r=>.ok ((8,e),r)) (aN (xO l (zU l r)) λx14=>(bif x14 then(kr l (zU l r) 0 1099511627776).bind λx15=>bc (8,x15.2,0,x15.1,([]:ak),([]:ak),[])else(xF l (zU l r) ym).bind λx16=>(bif x16.1 then(xx l x16.2).bind λx17=>aN (xx l x17.2) λx18=>bc (8,x18.2,2,0,x17.1,x18.1,[])else(xF l x16.2 yR).bind λx19=>(bif x19.1 then(xx l x19.2).bind λx20=>bc (8,x20.2,3,0,x20.1,([]:ak),[])else(xF l x19.2 AP).bind λx21=>(bif x21.1 then(yd K l x21.2 0).bind λx22=>aN (jV l x22.1 qu) λx23=>bc (8,x23,x22.2.1,x22.2.2.1,x22.2.2.2.1,x22.2.2.2.2.1,x22.2.2.2.2.2)else(xx l x21.2).bind λx24=>bc (8,x24.2,1,0,x24.1,([]:ak),[])))))) fP:=by
 unfold Yf;rw[QJ h,bsQ]
 cases hn:Kq r with
 |true =>
  rw[aP rfl,ctQ,zP]
  exact(zbz h 0 1099511627776).sr.bind λv r1 _ hs=>⟨rfl,hs⟩
 |false =>
  rw[aO af,cf,zll h,bsQ]
  cases hb:isB ym r with
  |true =>
   have ht:=h.tail (zw hb);simp only[if_true,ctQ,zP]
   exact(H8 ht).sr.bind λv r1 _ hs=>(H8 hs).sr.bind λv2 r2 _ hs2=>⟨rfl,hs2⟩
  |false =>
   simp only[aO (show ¬(bd=bg) by simp),cf];rw[zll h,bsQ]
   cases hz:isB yR r with
   |true =>
    have ht:=h.tail (zw hz);simp only[if_true,ctQ,zP]
    exact(H8 ht).sr.bind λv r1 _ hs=>⟨rfl,hs⟩
   |false =>
    simp only[aO (show ¬(bd=bg) by simp),cf];rw[zll h,bsQ]
    cases hp:isB AP r with
    |true =>
     have ht:=h.tail (zw hp);simp only[if_true,ctQ,zP]
     exact(ihE 0 r.tail ab (Zv h.wf) ht).bind λv r1 _ hs=>(Q6 hs _).sr.bind λ_ r2 _ hs2=>⟨rfl,hs2⟩
    |false =>
     simp only[aO (show ¬(bd=bg) by simp),cf,zP]
     exact(H8 h).sr.bind λv r1 _ hs=>⟨rfl,hs⟩
def zw0{K lv:Nat}(h:St l r)(ihE:∀(lv:Nat)(r':List ar),lv<=8->r'.length<r.length->St l r'->SR l (DE lv r') (yd K l (zU l r') (lv:Int)) fE):
  SR l (PX lv r) (ku (K+1) l (zU l r) (lv:Int)) fP:=by
 rw[ku];have e0:=ZE h WL lv 0;rw[show((0:Nat):Int)=0 from rfl]at e0;rw[e0,bsQ];unfold PX;by_cases c0:lv<=0/\isB WL r=bg
 ·rw[aP c0,aP c0]
  have ht:=zF h.wf (zw c0.2);simp only[ctQ,ifS,zP]
  refine(ihE 0 r.tail ab ht.lt (h.aft ht.e)).bind λa r1 h1 hs1=>?_
  have q1:=ht.trans (wu ht.wf h1).e
  refine(Q6 hs1 _).sr.bind λ_ r2 h2 hs2=>?_
  have q2:=q1.trans (xr q1.wf h2).e
  refine(ihE 0 r2 ab q2.lt hs2).bind λb r3 h3 hs3=>?_
  have q3:=q2.trans (wu q2.wf h3).e
  refine(Q6 hs3 _).sr.bind λ_ r4 h4 hs4=>?_
  have q4:=q3.trans (xr q3.wf h4).e
  exact(ihE 0 r4 ab q4.lt hs4).bind λc r5 h5 hs5=>⟨by cases a;cases b;cases c;rfl,hs5⟩
 ·rw[aO c0,aO c0]
  simp only[cf];have e3:=ZE h um lv 3;rw[show((3:Nat):Int)=3 from rfl]at e3;rw[e3,bsQ];by_cases c3:lv<=3/\isB um r=bg
  ·rw[aP c3,aP c3]
   have ht:=zF h.wf (zw c3.2);simp only[ctQ]
   exact(ihE 3 r.tail ab ht.lt (h.aft ht.e)).bind λa r1 h1 hs1=>⟨by cases a;rfl,hs1⟩
  ·rw[aO c3,aO c3]
   simp only[cf];have e7:=ZE h xa lv 7;rw[show((7:Nat):Int)=7 from rfl]at e7;rw[e7,bsQ];by_cases c7:lv<=7/\isB xa r=bg
   ·rw[aP c7,aP c7]
    have ht:=zF h.wf (zw c7.2);simp only[ctQ]
    exact(ihE 7 r.tail ab ht.lt (h.aft ht.e)).bind λa r1 h1 hs1=>⟨by cases a;rfl,hs1⟩
   ·rw[aO c7,aO c7]
    simp only[cf];exact zZ9 h ihE
end
-- the operator that comes next
def zap(r:List ar)(a:ak×Int×Int)(o:zd):ak×Int×Int:=if isB o.text r then(o.text,o.op,o.form)else a
def op_L{l r:List ar}(h:St l r)(c2 c3 c6:Int)(c7:ak)(c8:List Expr)(c9 c10:Int)(c11 c12:ak)(c13:List Expr):∀(os:List zd)(i K:Nat)(a:ak×Int×Int),OPS.drop i=os->i<=10->os.length<K ->
  xX l (zU l r) c2 c3 OPS 10 c6 c7 c8 c9 c10 c11 c12 c13 K ((i:Int),a.1,a.2.1,a.2.2)=bc (os.foldl (zap r) a):=by
 intro os
 induction os with
 |nil =>
  intro i K a hr hi hK
  obtain⟨K,rfl⟩:∃k,K=k+1:=⟨K-1,ab⟩
  have:=drop_nil hr hi;have:i=10:=this;rw[xX,df (show ¬((i:Int)<10) by omega)];rfl
 |cons o os ih =>
  intro i K a hr hi hK
  obtain⟨K,rfl⟩:∃k,K=k+1:=⟨K-1,ab⟩
  obtain⟨h1,h2,h3⟩:=xA hr;have h3:i<10:=h3;simp only[lc]at hK
  have e:(bif isB o.text r then bc (o.text,o.op,o.form)else bc (a.1,a.2.1,a.2.2))=bc (zap r a o):=by
   unfold zap;cases isB o.text r<;>rfl
  rw[xX,dt (show((i:Int)<10) by omega),ctQ,z7 h1,bsQ,q_is h,bsQ];simp only;rw[e,bsQ,yV ab,ih (i+1) K (zap r a o) h2 ab ab];rfl
def zaz:Option zd->ak×Int×Int
 |some o=>(o.text,o.op,o.form)
 |none=>([],0,0)
def zfc{r:List ar}:∀{os:List zd}{a:ak×Int×Int},(∀o∈os,isB o.text r=bd)->os.foldl (zap r) a=a
 |[],a,_=>rfl
 |o::os,a,h=>by
  rw[dv,zap,h o al,aO af]
  exact zfc λx hx=>h x (mcQ _ hx)
def zLs(r:List ar):OPS.foldl (zap r) ([],0,0)=zaz (opR r):=by
 by_cases hk:(hdT r).aM=3
 ·rw[opR,aP hk]
  exact zfc λo _=>by rw[isB,dt hk];rfl
 ·rw[opR,aO hk]
  have hb:∀s,isB s r=decide ((hdT r).Text=s):=λs=>by rw[isB,df hk];rfl
  generalize (hdT r).Text=t at hb;by_cases hm:∃o∈OPS,t=o.text
  ·obtain⟨o,ho,rfl⟩:=hm
   simp only[OPS,bq,List.mem_nil_iff,or_false]at ho
   rcases ho with rfl|rfl|rfl|rfl|rfl|rfl|rfl|rfl|rfl|rfl<;>simp only[OPS,dv,List.foldl_nil,zap,hb]<;>rfl
  ·have hn:∀o∈OPS,t≠o.text:=λo ho e=>hm ⟨o,ho,e⟩
   rw[zfc λo ho=>by rw[hb];exact df (hn o ho),List.find?_eq_none.2 λo ho=>by simp[hn o ho]];rfl
def zF9{l r:List ar}(h:St l r)(c2 c3 c6:Int)(c7:ak)(c8:List Expr)(c9 c10:Int)(c11 c12:ak)(c13:List Expr):
  xX l (zU l r) c2 c3 OPS 10 c6 c7 c8 c9 c10 c11 c12 c13 KK (0,([]:ak),0,0)=bc (zaz (opR r)):=by
 rw[<- zLs];exact op_L h c2 c3 c6 c7 c8 c9 c10 c11 c12 c13 OPS 0 KK ([],0,0) rfl ab (vJ ae)
def zGa{l r:List ar}(h:St l r)(c2 c3 c6:Int)(c7:ak)(c8:List Expr)(c9 c10:Int)(c11 c12:ak)(c13:List Expr):
  vP l (zU l r) c2 c3 OPS 10 c6 c7 c8 c9 c10 c11 c12 c13 KK (0,([]:ak),0,0)=bc (zaz (opR r)):=by
 have:∀K q,vP l (zU l r) c2 c3 OPS 10 c6 c7 c8 c9 c10 c11 c12 c13 K q=xX l (zU l r) c2 c3 OPS 10 c6 c7 c8 c9 c10 c11 c12 c13 K q:=by
  intro K
  induction K with
  |zero=>intro q;rfl
  |succ K ih=>intro q;rw[vP,xX];simp only[ih]
 rw[this,zF9 h]
def zVp(lv own:Nat):Option zd->Bool
 |none=>bg
 |some x=>decide (x.form<(lv:Int)∨(own:Int)<x.form∨(own=4/\x.form=4))
def zPg(lv own:Nat)(o:Option zd)(ho:∀x,o=bc x->x∈OPS):((bif (decide ((zaz o).1=([]:ak)))then bc bg else(bif (decide ((zaz o).2.2<(lv:Int)))then bc bg else(bif (decide ((own:Int)<(zaz o).2.2))then bc bg else(bif (decide ((own:Int)=4))then bc (decide ((zaz o).2.2=4))else bc bd)))))=bc (zVp lv own o):=by
 cases o with
 |none=>rfl
 |some x =>
  obtain⟨f,h1,_,h3⟩:=Yq (ho x rfl);have e0:decide ((zaz (bc x)).1=([]:ak))=bd:=df h3;rw[e0,cf];unfold zVp;change (bif (decide (x.form<(lv:Int)))then bc bg else(bif (decide ((own:Int)<x.form))then bc bg else(bif (decide ((own:Int)=4))then bc (decide (x.form=4))else bc bd)))=_;by_cases a:x.form<(lv:Int)
  ·simp[a]
  ·by_cases b:(own:Int)<x.form
   ·simp[a,b]
   ·by_cases c:own=4
    ·subst c
     have b':¬((4:Int)<x.form):=b;simp[a,b']
    ·have:¬((own:Int)=4):=ab
     simp[a,b,c,this]
def zPh(l:List ar):∀(n K lv:Nat)(r:List ar),r.length<n->2*n<=K->lv<=8->St l r->SR l (DE lv r) (yd K l (zU l r) (lv:Int)) fE:=by
 intro n
 induction n with
 |zero=>intro K lv r h;omega
 |succ n ih =>
  intro K lv r hn hK hl h
  obtain⟨K,rfl⟩:∃k,K=k+2:=⟨K-2,ab⟩
  have ihE:∀(lv:Nat)(r':List ar),lv<=8->r'.length<r.length->St l r'->SR l (DE lv r') (yd K l (zU l r') (lv:Int)) fE:=λlv r' h1 h2 h3=>ih K lv r' ab ab h1 h3
  -- the loop
  have loop:∀(m:Nat)(r':List ar)(own:Nat)(e:Expr)(Q:Nat),r'.length<m->m<=Q->r'.length<r.length->St l r' ->
    SR l (CL lv own e r') ((j3 (yd (K+1)) l (lv:Int) 0 ([]:ak) [] Q (zU l r',(own:Int),e.Op,e.N,e.S,e.Key,e.Args)).bind (xT bc λ_=>bh)) fE:=by
   intro m
   induction m with
   |zero=>intro r' own e Q h;omega
   |succ m ihm =>
    intro r' own e Q hm hQ hlt hs
    obtain⟨Q,rfl⟩:∃k,Q=k+1:=⟨Q-1,ab⟩
    rw[j3,show wZ=bc OPS from rfl,bsQ,show((bf OPS:Nat):Int)=10 from rfl,zF9 hs,bsQ];simp only;rw[zPg lv own _ (λx hx=>(qe hx).2.1),bsQ,zZu hs.wf]
    cases ho:opR r' with
    |none=>exact⟨rfl,hs⟩
    |some o =>
     obtain⟨hk,hmem,_⟩:=qe ho;obtain⟨f,hf,hf2,_⟩:=Yq hmem;dsimp only;by_cases hc:o.form<(lv:Int)∨(own:Int)<o.form∨(own=4/\o.form=4)
     ·rw[aP hc,zVp,dt hc]
      exact⟨rfl,hs⟩
     ·rw[aO hc,zVp,df hc,cf,hs.step]
      have ht:=zF hs.wf hk
      have e1:w64 ((zaz (bc o)).2.2+1)=((f+1:Nat):Int):=by
       show w64 (o.form+1)=_
       rw[hf,xY ab ab];rfl
      rw[e1,cy];have ih2:=ih (K+1) (f+1) r'.tail (by have:=ht.lt;omega) ab ab (hs.aft ht.e);rw[hf,dB]
      refine ih2.bind λe2 r2 h2 hs2=>?_
      have hq:=ht.trans (wu ht.wf h2).e;have:=ihm r2 f (Zu o.op e e2) Q (by have:=hq.lt;omega) ab (by have:=hq.lt;omega) hs2;refine Eq.mp ?_ this
      congr 4
      simp only[fE,zaz,hf,Zu];cases e;cases e2;rfl
  rw[yd,zZv hl h.wf]
  refine(zw0 h ihE).bind λx r1 h1 hs1=>?_
  have hq:=zFj h.wf h1;exact loop (r1.length+1) r1 x.1 x.2 KK ab (by have:=vJ (n:=r1.length+1) (by have:=hs1.lt;have:=hs1.len;omega);omega) hq.lt hs1
end Go.Proofs.YtffencjoddkghaaGreatDoor
namespace Go.Proofs.YtffencjoddkghaaGreatDoor
open Go Go.RowKit Go.Eng Go.EV Go.EQ
variable[Fuel]
def PR{α:Type}(x:Except EE (α×List ar))(p:Option EE):Prop:=match x with
 |.ok _=>p=bh
 |.error e=>p=bc e
def RT.pr{α β:Type}{l:List ar}{x:Except EE (α×List ar)}{s:Option β}{p:Option EE}{f:α->Int->β}(h:RT l x s p f):PR x p:=by
 match x,h with
 |.ok (v,r),h=>exact h.2.1
 |.error e,h=>exact h.2
def rt_of{α β:Type}{l:List ar}{x:Except EE (α×List ar)}{s:Option β}{p:Option EE}{f:α->Int->β}(h:SR l x s f)(k:PR x p):RT l x s p f:=by
 match x,h,k with
 |.ok (v,r),h,k=>exact⟨h.1,k,h.2⟩
 |.error e,h,k=>exact⟨h,k⟩
def PR.bind{α β α':Type}{l:List ar}{x:Except EE (α×List ar)}{s:Option β}{p:Option EE}{f:α->Int->β}{g:α->List ar->Except EE (α'×List ar)}{p2:β->Option EE}
  (hs:SR l x s f) (h:PR x p) (h2:∀v r,x=.ok (v,r)->St l r->PR (g v r) (p2 (f v (zU l r)))):PR (thn x g) (orC p (λq=>bc q) (s.bind p2)):=by
 match x,hs,h,h2 with
 |.error e,hs,h,_=>show _=bc e;rw[show p=bc e from h];rfl
 |.ok (v,r),⟨hs,hst⟩,h,h2 =>
  have:=h2 v r rfl hst;rw[show p=bh from h,hs];exact this
def PR.last{α β α':Type}{l:List ar}{x:Except EE (α×List ar)}{s:Option β}{p:Option EE}{f:α->Int->β}{g:α->List ar->α'}(hs:SR l x s f)(h:PR x p):PR (thn x λv r=>.ok (g v r,r)) (orC p (λq=>bc q) (s.bind λ_=>bh)):=PR.bind hs h λ_ _ _ _=>rfl
section
variable{l r:List ar}
def z0a{K:Nat}(h:St l r)(ihS:∀(lv:Nat)(r':List ar),lv<=8->r'.length<r.length->St l r'->SR l (DE lv r') (yd KK l (zU l r') (lv:Int)) fE)
  (ihE:∀(lv:Nat)(r':List ar),lv<=8->r'.length<r.length->St l r'->PR (DE lv r') (xf K l (zU l r') (lv:Int))):
  PR (thn (Yf r) λe r=>.ok ((8,e),r)) (aN (xO l (zU l r)) λx21=>(bif x21 then(orC (oJ l (zU l r) 0 1099511627776) (λx22=>bc x22) (aN (kr l (zU l r) 0 1099511627776) λ_=>bh))else(xF l (zU l r) ym).bind λx24=>(bif x24.1 then(orC (jW l x24.2) (λx25=>bc x25) (aN (xx l x24.2) λx26=>(orC (jW l x26.2) (λx27=>bc x27) (aN (xx l x26.2) λ_=>bh))))else(xF l x24.2 yR).bind λx29=>(bif x29.1 then(orC (jW l x29.2) (λx30=>bc x30) (aN (xx l x29.2) λ_=>bh))else(xF l x29.2 AP).bind λx32=>(bif x32.1 then(orC (xf K l x32.2 0) (λx33=>bc x33) (aN (yd KK l x32.2 0) λx34=>(orC (AY l x34.1 qu) (λx35=>bc x35) (aN (jV l x34.1 qu) λ_=>bh))))else(orC (jW l x32.2) (λx37=>bc x37) (aN (xx l x32.2) λ_=>bh))))))):=by
 unfold Yf;rw[QJ h,bsQ]
 cases hn:Kq r with
 |true =>
  rw[aP rfl,ctQ,zP];exact PR.last (zbz h 0 1099511627776).sr (zbz h 0 1099511627776).pr
 |false =>
  rw[aO af,cf,zll h,bsQ]
  cases hb:isB ym r with
  |true =>
   have ht:=h.tail (zw hb);simp only[if_true,ctQ,zP]
   exact PR.bind (H8 ht).sr (H8 ht).pr λv r1 _ hs=>PR.last (H8 hs).sr (H8 hs).pr
  |false =>
   simp only[aO (show ¬(bd=bg) by simp),cf];rw[zll h,bsQ]
   cases hz:isB yR r with
   |true =>
    have ht:=h.tail (zw hz);simp only[if_true,ctQ,zP];exact PR.last (H8 ht).sr (H8 ht).pr
   |false =>
    simp only[aO (show ¬(bd=bg) by simp),cf];rw[zll h,bsQ]
    cases hp:isB AP r with
    |true =>
     have ht:=h.tail (zw hp);simp only[if_true,ctQ,zP]
     exact PR.bind (ihS 0 r.tail ab (Zv h.wf) ht) (ihE 0 r.tail ab (Zv h.wf) ht) λv r1 _ hs=>PR.last (Q6 hs _).sr (Q6 hs _).pr
    |false =>
     simp only[aO (show ¬(bd=bg) by simp),cf,zP];exact PR.last (H8 h).sr (H8 h).pr
def zLt{K lv:Nat}(h:St l r)(ihS:∀(lv:Nat)(r':List ar),lv<=8->r'.length<r.length->St l r'->SR l (DE lv r') (yd KK l (zU l r') (lv:Int)) fE)
  (ihE:∀(lv:Nat)(r':List ar),lv<=8->r'.length<r.length->St l r'->PR (DE lv r') (xf K l (zU l r') (lv:Int))):PR (PX lv r) (oK (K+1) l (zU l r) (lv:Int)):=by
 rw[oK];have e0:=ZE h WL lv 0;rw[show((0:Nat):Int)=0 from rfl]at e0;rw[e0,bsQ];unfold PX;by_cases c0:lv<=0/\isB WL r=bg
 ·rw[aP c0,aP c0]
  have ht:=zF h.wf (zw c0.2);have hst:=h.aft ht.e;simp only[ctQ,ifS,zP]
  refine PR.bind (ihS 0 r.tail ab ht.lt hst) (ihE 0 r.tail ab ht.lt hst) λa r1 h1 hs1=>?_
  have q1:=ht.trans (wu ht.wf h1).e
  refine PR.bind (Q6 hs1 _).sr (Q6 hs1 _).pr λ_ r2 h2 hs2=>?_
  have q2:=q1.trans (xr q1.wf h2).e
  refine PR.bind (ihS 0 r2 ab q2.lt hs2) (ihE 0 r2 ab q2.lt hs2) λb r3 h3 hs3=>?_
  have q3:=q2.trans (wu q2.wf h3).e
  refine PR.bind (Q6 hs3 _).sr (Q6 hs3 _).pr λ_ r4 h4 hs4=>?_
  have q4:=q3.trans (xr q3.wf h4).e;exact PR.last (ihS 0 r4 ab q4.lt hs4) (ihE 0 r4 ab q4.lt hs4)
 ·rw[aO c0,aO c0]
  simp only[cf];have e3:=ZE h um lv 3;rw[show((3:Nat):Int)=3 from rfl]at e3;rw[e3,bsQ];by_cases c3:lv<=3/\isB um r=bg
  ·rw[aP c3,aP c3]
   have ht:=zF h.wf (zw c3.2);have hst:=h.aft ht.e;simp only[ctQ];exact PR.last (ihS 3 r.tail ab ht.lt hst) (ihE 3 r.tail ab ht.lt hst)
  ·rw[aO c3,aO c3]
   simp only[cf];have e7:=ZE h xa lv 7;rw[show((7:Nat):Int)=7 from rfl]at e7;rw[e7,bsQ];by_cases c7:lv<=7/\isB xa r=bg
   ·rw[aP c7,aP c7]
    have ht:=zF h.wf (zw c7.2);have hst:=h.aft ht.e;simp only[ctQ];exact PR.last (ihS 7 r.tail ab ht.lt hst) (ihE 7 r.tail ab ht.lt hst)
   ·rw[aO c7,aO c7]
    simp only[cf];exact z0a h ihS ihE
end
def ziw:18446744073709551616<=KK:=Fuel.big
def ztu{l r:List ar}{lv:Nat}(hl:lv<=8)(h:St l r):SR l (DE lv r) (yd KK l (zU l r) (lv:Int)) fE:=by
 have h1:=h.lt;have h2:=h.len;have h3:=ziw;exact zPh l (r.length+1) KK lv r ab ab hl h
def z0b(l:List ar):∀(n K lv:Nat)(r:List ar),r.length<n->2*n<=K->lv<=8->St l r->PR (DE lv r) (xf K l (zU l r) (lv:Int)):=by
 intro n
 induction n with
 |zero=>intro K lv r h;omega
 |succ n ih =>
  intro K lv r hn hK hl h
  obtain⟨K,rfl⟩:∃k,K=k+2:=⟨K-2,ab⟩
  have ihE:∀(lv:Nat)(r':List ar),lv<=8->r'.length<r.length->St l r'->PR (DE lv r') (xf K l (zU l r') (lv:Int)):=λlv r' h1 h2 h3=>ih K lv r' ab ab h1 h3
  have loop:∀(m:Nat)(r':List ar)(own:Nat)(e:Expr)(Q:Nat),r'.length<m->m<=Q->r'.length<r.length->St l r' ->
    PR (CL lv own e r') ((j4 (xf (K+1)) l (lv:Int) 0 ([]:ak) [] Q (zU l r',(own:Int),e.Op,e.N,e.S,e.Key,e.Args)).bind (xT bc λ_=>bh)):=by
   intro m
   induction m with
   |zero=>intro r' own e Q h;omega
   |succ m ihm =>
    intro r' own e Q hm hQ hlt hs
    obtain⟨Q,rfl⟩:∃k,Q=k+1:=⟨Q-1,ab⟩
    rw[j4,show wZ=bc OPS from rfl,bsQ,show((bf OPS:Nat):Int)=10 from rfl,zGa hs,bsQ];simp only;rw[zPg lv own _ (λx hx=>(qe hx).2.1),bsQ,zZu hs.wf]
    cases ho:opR r' with
    |none=>exact rfl
    |some o =>
     obtain⟨hk,hmem,_⟩:=qe ho;obtain⟨f,hf,hf2,_⟩:=Yq hmem;dsimp only;by_cases hc:o.form<(lv:Int)∨(own:Int)<o.form∨(own=4/\o.form=4)
     ·rw[aP hc,zVp,dt hc]
      exact rfl
     ·rw[aO hc,zVp,df hc,cf,hs.step]
      have ht:=zF hs.wf hk
      have e1:w64 ((zaz (bc o)).2.2+1)=((f+1:Nat):Int):=by
       show w64 (o.form+1)=_
       rw[hf,xY ab ab];rfl
      rw[e1];have hst:=hs.aft ht.e;have hS:=ztu (lv:=f+1) ab hst;have hP:=ih (K+1) (f+1) r'.tail (by have:=ht.lt;omega) ab ab hst;rw[hf,dB]
      cases hx:DE (f+1) r'.tail with
      |error er =>
       rw[hx]at hP;rw[show xf (K+1) l (zU l r'.tail) ((f+1:Nat):Int)=bc er from hP];rfl
      |ok y =>
       obtain⟨e2,r2⟩:=y;rw[hx]at hP hS;have hq:=ht.trans (wu ht.wf hx).e;have hs2:=hS.2;rw[show xf (K+1) l (zU l r'.tail) ((f+1:Nat):Int)=bh from hP,hS.1];have:=ihm r2 f (Zu o.op e e2) Q (by have:=hq.lt;omega) ab (by have:=hq.lt;omega) hs2;refine Eq.mp ?_ this
       show _=PR (CL lv f (Zu o.op e e2) r2) _
       congr 4
       simp only[fE,zaz,hf,Zu];cases e;cases e2;rfl
  rw[xf,zZv hl h.wf]
  have hS:SR l (PX lv r) (ku KK l (zU l r) (lv:Int)) fP:=by
   have h3:=ziw;have h1:=h.lt;have h2:=h.len
   obtain⟨k,hk⟩:∃k,KK=k+1:=⟨KK-1,ab⟩
   rw[hk]
   exact zw0 h λlv r' q1 q2 q3=>zPh l (r'.length+1) k lv r' ab ab q1 q3
  refine PR.bind hS (zLt h (λlv r' q1 q2 q3=>ztu q1 q3) ihE) λx r1 h1 hs1=>?_
  have hq:=zFj h.wf h1;exact loop (r1.length+1) r1 x.1 x.2 KK ab (by have:=vJ (n:=r1.length+1) (by have:=hs1.lt;have:=hs1.len;omega);omega) hq.lt hs1
def z0c{l r:List ar}{lv:Nat}(hl:lv<=8)(h:St l r):RT l (DE lv r) (yd KK l (zU l r) (lv:Int)) (xf KK l (zU l r) (lv:Int)) fE:=by
 have h1:=h.lt;have h2:=h.len;have h3:=ziw;exact rt_of (ztu hl h) (z0b l (r.length+1) KK lv r ab ab hl h)
def ZF(b:BB):zo b=vF b.l b.i:=rfl
def is2(b:BB)(s:ak):vG b s=zdh b.l b.i s:=rfl
def has2(b:BB)(s:ak):zD b s=xF b.l b.i s:=rfl
def AM(b:BB)(c:Bool)(e:Int):zf b c e=yH b.l b.i c e:=rfl
def J2(b:BB)(c:Bool)(e:Int):zt b c e=wm b.l b.i c e:=rfl
def zUa(b:BB)(s:ak):zA b s=jV b.l b.i s:=rfl
def zPi(b:BB)(s:ak):yk b s=AY b.l b.i s:=rfl
def zfd(b:BB):yj b=xO b.l b.i:=rfl
def qR(b:BB):zJ b=oI b.l b.i:=rfl
def VL(b:BB):zL b=xx b.l b.i:=rfl
def zaq(b:BB):yX b=jW b.l b.i:=rfl
def ztv(b:BB)(x y:Int):zk b x y=kr b.l b.i x y:=rfl
def zw1(b:BB)(x y:Int):zC b x y=oJ b.l b.i x y:=rfl
def L2_2(b:BB)(c1:Int){c17 c18 c21 c24 c25 d2 d3 d6 d9 d10:Int}{ops:List zd}{n:Int}{c22 c26 c27 d7 d11 d12:ak}{c23 c28 d8 d13:List Expr}:∀(K:Nat)(q:Int×ak×Int×Int),
  kQ b c1 c17 c18 ops n c21 c22 c23 c24 c25 c26 c27 c28 K q=xX b.l c1 d2 d3 ops n d6 d7 d8 d9 d10 d11 d12 d13 K q
 |0,q=>rfl
 |K+1,q=>by
  rw[kQ,xX];simp only[is2,L2_2 b c1 (d2:=d2) (d3:=d3) (d6:=d6) (d7:=d7) (d8:=d8) (d9:=d9) (d10:=d10) (d11:=d11) (d12:=d12) (d13:=d13) K]
def z0d(b:BB)(c1:Int){c17 c18 c21 c24 c25 d2 d3 d6 d9 d10:Int}{ops:List zd}{n:Int}{c22 c26 c27 d7 d11 d12:ak}{c23 c28 d8 d13:List Expr}:∀(K:Nat)(q:Int×ak×Int×Int),
  kW b c1 c17 c18 ops n c21 c22 c23 c24 c25 c26 c27 c28 K q=vP b.l c1 d2 d3 ops n d6 d7 d8 d9 d10 d11 d12 d13 K q
 |0,q=>rfl
 |K+1,q=>by
  rw[kW,vP];simp only[is2,z0d b c1 (d2:=d2) (d3:=d3) (d6:=d6) (d7:=d7) (d8:=d8) (d9:=d9) (d10:=d10) (d11:=d11) (d12:=d12) (d13:=d13) K]
def L1_2{r1:BB->Int->Option (Int×Int×Int×ak×ak×(List Expr))}{r2:(List ar)->Int->Int->Option (Int×Int×Int×ak×ak×(List Expr))}(hr:∀b f,r1 b f=r2 b.l b.i f)(b:BB)(c1 c2:Int)(c3:ak)(c4:List Expr):∀(K:Nat) q,
  kS r1 b c1 c2 c3 c4 K q=j3 r2 b.l c1 c2 c3 c4 K q
 |0,q=>rfl
 |K+1,q=>by
  rw[kS,j3];simp only[hr,L1_2 hr b c1 c2 c3 c4 K,L2_2 { b with i:=0 } q.1 (d2:=c1) (d3:=q.2.1) (d6:=c2) (d7:=c3) (d8:=c4) (d9:=q.2.2.1) (d10:=q.2.2.2.1) (d11:=q.2.2.2.2.1) (d12:=q.2.2.2.2.2.1) (d13:=q.2.2.2.2.2.2)]
def zqm:∀K:Nat,(∀b f,ur K b f=ku K b.l b.i f)/\(∀b f,yb K b f=yd K b.l b.i f)
 |0=>⟨λ_ _=>rfl,λ_ _=>rfl⟩
 |K+1=>by
  have ih:=zqm K;refine⟨λb f=>?_,λb f=>?_⟩
  ·rw[ur,ku]
   simp only[has2,zUa,VL,ztv,zfd,ih.2]
  ·rw[yb,yd]
   simp only[ih.1,L1_2 ih.2]
def z0e{r1:BB->Int->Option (Int×Int)}{r2:(List ar)->Int->Int->Option (Int×Int)}(hr:∀b f,r1 b f=r2 b.l b.i f)(b:BB)(c1 c2:Int)(c3:ak)(c4:List Expr):∀(K:Nat) q,
  kX r1 b c1 c2 c3 c4 K q=j4 r2 b.l c1 c2 c3 c4 K q
 |0,q=>rfl
 |K+1,q=>by
  rw[kX,j4];simp only[hr,z0e hr b c1 c2 c3 c4 K,(zqm KK).2,z0d { b with i:=0 } q.1 (d2:=c1) (d3:=q.2.1) (d6:=c2) (d7:=c3) (d8:=c4) (d9:=q.2.2.1) (d10:=q.2.2.2.1) (d11:=q.2.2.2.2.1) (d12:=q.2.2.2.2.2.1) (d13:=q.2.2.2.2.2.2)]
def zPj:∀K:Nat,(∀b f,A0 K b f=oK K b.l b.i f)/\(∀b f,xz K b f=xf K b.l b.i f)
 |0=>⟨λ_ _=>rfl,λ_ _=>rfl⟩
 |K+1=>by
  have ih:=zPj K;refine⟨λb f=>?_,λb f=>?_⟩
  ·rw[A0,oK]
   simp only[has2,zUa,zPi,VL,zaq,ztv,zw1,zfd,ih.2,(zqm KK).2]
  ·rw[xz,xf]
   simp only[ih.1,z0e ih.2,(zqm KK).1]
-- the builder at a place
structure At(b:BB)(r:List ar):Prop where
 st:St b.l r
 at_:b.i=zU b.l r
section
variable{b:BB}{r:List ar}
def At.next(h:At b r):zo b=bc ((hdT r).aM,(hdT r).Text,(hdT r).N,(hdT r).Pos):=by rw[ZF,h.at_,Yd h.st]
def At.is(h:At b r)(s:ak):vG b s=bc (isB s r):=by rw[is2,h.at_,q_is h.st]
def At.has(h:At b r)(s:ak):zD b s=bc (isB s r,if isB s r then zU b.l r.tail else zU b.l r):=by rw[has2,h.at_,zll h.st]
def At.isNumber(h:At b r):yj b=bc (Kq r):=by rw[zfd,h.at_,QJ h.st]
def At.isName(h:At b r):zJ b=bc (zfv r):=by rw[qR,h.at_,zwi h.st]
def At.check(h:At b r)(c:Bool)(e:Int):RT b.l (Ki c e r) (zf b c e) (zt b c e) (λ_ _=>()):=by rw[AM,J2,h.at_];exact ztg h.st c e
def At.want(h:At b r)(s:ak):RT b.l (wb s r) (zA b s) (yk b s) (λ_ i=>i):=by rw[zUa,zPi,h.at_];exact Q6 h.st s
def At.name(h:At b r):RT b.l (oq r) (zL b) (yX b) (λv i=>(v,i)):=by rw[VL,zaq,h.at_];exact H8 h.st
def At.number(h:At b r)(lo hi:Int):RT b.l (qk lo hi r) (zk b lo hi) (zC b lo hi) (λv i=>(v,i)):=by rw[ztv,zw1,h.at_];exact zbz h.st lo hi
def At.expr(h:At b r):RT b.l (DE 0 r) (yb KK b 0) (xz KK b 0) fE:=by rw[(zqm KK).2,(zPj KK).2,h.at_];exact z0c (lv:=0) ab h.st
def At.step(h:At b r):w64 (b.i+1)=zU b.l r.tail:=by rw[h.at_,h.st.step]
end
def yq{b b2:BB}{r:List ar}(hl:b2.l=b.l)(hi:b2.i=zU b.l r)(h:St b.l r):At b2 r:=⟨by rw[hl];exact h,by rw[hi,hl]⟩
def RR{α β:Type}(l:List ar)(x:Except EE (α×List ar))(s:Option β)(p:Option EE)(S:α->Int->β->Prop):Prop:=match x with
 |.ok (v,r)=>(∃y,s=bc y/\S v (zU l r) y)/\p=bh/\St l r
 |.error e=>s=bh/\p=bc e
def RJ{α γ:Type}(l:List ar)(x:Except EE (α×List ar))(s:Option γ)(p:Option (EE⊕γ))(f:α->Int->γ):Prop:=match x with
 |.ok (v,r)=>s=bc (f v (zU l r))/\p=bc (.inr (f v (zU l r)))/\St l r
 |.error e=>s=bh/\p=bc (.inl e)
section
variable{α β α' β' γ δ:Type}{l:List ar}{x:Except EE (α×List ar)}{s:Option β}{p:Option EE}{f:α->Int->β}{g:α->List ar->Except EE (α'×List ar)}{s2:β->Option β'}{p2:β->Option EE}{f2:α'->Int->β'}
def RT.rr(h:RT l x s p f):RR l x s p (λv i y=>y=f v i):=by
 match x,h with
 |.ok (v,r),h=>exact⟨⟨_,h.1,rfl⟩,h.2.1,h.2.2⟩
 |.error e,h=>exact h
def RR.rt(h:RR l x s p (λv i y=>y=f v i)):RT l x s p f:=by
 match x,h with
 |.ok (v,r),⟨⟨y,h1,h2⟩,h3,h4⟩=>exact⟨by rw[h1,h2],h3,h4⟩
 |.error e,h=>exact h
def RR.bind{S:α->Int->β->Prop}{S2:α'->Int->β'->Prop}(h:RR l x s p S)(h2:∀v r y,x=.ok (v,r)->St l r->S v (zU l r) y->RR l (g v r) (s2 y) (p2 y) S2):RR l (thn x g) (s.bind s2) (orC p (λq=>bc q) (s.bind p2)) S2:=by
 match x,h,h2 with
 |.error e,⟨h,h'⟩,_=>exact⟨by rw[h];rfl,by rw[h'];rfl⟩
 |.ok (v,r),⟨⟨y,h,hy⟩,h',hs⟩,h2 =>
  have:=h2 v r y rfl hs hy;rw[h,h'];exact this
def RT.bindR{S2:α'->Int->β'->Prop}(h:RT l x s p f)(h2:∀v r,x=.ok (v,r)->St l r->RR l (g v r) (s2 (f v (zU l r))) (p2 (f v (zU l r))) S2):RR l (thn x g) (s.bind s2) (orC p (λq=>bc q) (s.bind p2)) S2 :=
 h.rr.bind λv r y h1 hs hy=>by subst hy;exact h2 v r h1 hs
def RJ.bindR{sj:Option γ}{pj:Option (EE⊕γ)}{fj:α->Int->γ}{s2:γ->Option β'}{p2:γ->Option EE}{S2:α'->Int->β'->Prop}(h:RJ l x sj pj fj)(h2:∀v r,x=.ok (v,r)->St l r->RR l (g v r) (s2 (fj v (zU l r))) (p2 (fj v (zU l r))) S2):RR l (thn x g) (sj.bind s2) (pj.bind (xT bc p2)) S2:=by
 match x,h,h2 with
 |.error e,⟨h,h'⟩,_=>exact⟨by rw[h];rfl,by rw[h'];rfl⟩
 |.ok (v,r),⟨h,h',hs⟩,h2 =>
  have:=h2 v r rfl hs;rw[h,h'];exact this
def RJ.bindT{sj:Option γ}{pj:Option (EE⊕γ)}{fj:α->Int->γ}{s2:γ->Option β'}{p2:γ->Option EE}(h:RJ l x sj pj fj)(h2:∀v r,x=.ok (v,r)->St l r->RT l (g v r) (s2 (fj v (zU l r))) (p2 (fj v (zU l r))) f2):RT l (thn x g) (sj.bind s2) (pj.bind (xT bc p2)) f2 :=
 (h.bindR λv r h1 hs=>(h2 v r h1 hs).rr).rt
def RT.bindJ{s2:β->Option γ}{p2:β->Option (EE⊕γ)}{fj:α'->Int->γ}(h:RT l x s p f)(h2:∀v r,x=.ok (v,r)->St l r->RJ l (g v r) (s2 (f v (zU l r))) (p2 (f v (zU l r))) fj):RJ l (thn x g) (s.bind s2) (orC p (λq=>bc (.inl q)) (s.bind p2)) fj:=by
 match x,h,h2 with
 |.error e,⟨h,h'⟩,_=>exact⟨by rw[h];rfl,by rw[h'];rfl⟩
 |.ok (v,r),⟨h,h',hs⟩,h2 =>
  have:=h2 v r rfl hs;rw[h,h'];exact this
def RR.ret{r:List ar}{v:α}{y:β}{S:α->Int->β->Prop}(hs:St l r)(hy:S v (zU l r) y):RR l (.ok (v,r)) (bc y) bh S:=⟨⟨y,rfl,hy⟩,rfl,hs⟩
def RTS.rt{sj:Option (β⊕γ)}{pj:Option (EE⊕δ)}{k:γ->Option β}{k2:δ->Option EE}(h:RTS l x sj pj f):RT l x (sj.bind (xT bc k)) (pj.bind (xT bc k2)) f:=by
 match x,h with
 |.ok (v,r),⟨h,h',hs⟩=>exact⟨by rw[h];rfl,by rw[h'];rfl,hs⟩
 |.error e,⟨h,h'⟩=>exact⟨by rw[h];rfl,by rw[h'];rfl⟩
def RT.bindS{s2:β->Option (β'⊕γ)}{p2:β->Option (EE⊕δ)}(h:RT l x s p f)(h2:∀v r,x=.ok (v,r)->St l r->RTS l (g v r) (s2 (f v (zU l r))) (p2 (f v (zU l r))) f2):RTS l (thn x g) (s.bind s2) (orC p (λq=>bc (.inl q)) (s.bind p2)) f2:=by
 match x,h,h2 with
 |.error e,⟨h,h'⟩,_=>exact⟨by rw[h];rfl,by rw[h'];rfl⟩
 |.ok (v,r),⟨h,h',hs⟩,h2 =>
  have:=h2 v r rfl hs;rw[h,h'];exact this
end
-- what is read
def wR(known:List ak)(r:List ar):Except EE (ak×List ar):=if zfv r then(if(hdT r).Text∈known then .error (zin r 5)else .ok ((hdT r).Text,r.tail))else .error (zin r 14)
def ja(most:Int)(r:List ar):Except EE (Int×List ar):=if isB xa r then thn (qk 0 most r.tail) λn r=>.ok (0-n,r)else qk 0 most r
def kj(w:List ak)(r:List ar):Except EE (Int×List ar):=if(hdT r).aM=0 then(match H7 (hdT r).Text w with|some i=>.ok ((i:Int),r.tail)|none=>.error (zin r 14))else .error (zin r 14)
def qi:Nat->List zV->List ar->Except EE (List zV×List ar)
 |0,_,_=>oof
 |n+1,acc,r=>thn (qk 0 1048576 r) λx r=>thn (qk 0 1048576 r) λy r=>if Kq r then qi n (acc++[zV.mk x y]) r else .ok (acc++[zV.mk x y],r)
def Jb(r:List ar):Except EE (zg×List ar):=thn (qk 0 1048576 r) λx r=>thn (qk 0 1048576 r) λy r=>thn (qk 0 4096 r) λz r=>.ok (zg.mk x y z,r)
def ztw(c:Bool)(e:Int)(r:List ar):Except EE (Unit×List ar):=thn (Ki (isB yc r) 14 r) λ_ r=>thn (Ki c e r) λ_ r=>.ok ((),r.tail)
def ZG:Nat->List ak->List ar->Except EE (List ak×List ar)
 |0,_,_=>oof
 |n+1,acc,r=>if zfv r then thn (oq r) λs r=>ZG n (acc++[s]) r else .ok (acc,r)
def Yw(r:List ar):Except EE (List ak×List ar):=thn (oq r) λs r1=>ZG (r1.length+1) [s] r1
def KN(m:List (ak×Bool))(L:List ak):Prop:=∀x,(xn x m).getD bd=decide (x∈L)
def MN(D:List (List (ak×Bool)))(L:List ak):Prop:=(D=[]/\L=[])∨∃m,D=[m]/\KN m L
def zPk:KN [] []:=λx=>by simp[xn]
def zix{α β:Type}[DecidableEq α](a x:α)(b:β):∀l:List (α×β),xn x (oB a b l)=if x=a then bc b else xn x l
 |[]=>by simp[oB,xn]
 |(k,c)::r=>by
  have ih:=zix a x b r;simp only[oB];by_cases h:a=k
  ·rw[aP h]
   subst h;by_cases h2:x=a
   ·simp[xn,h2]
   ·simp[xn,h2]
  ·rw[aO h]
   simp only[xn,ih];by_cases h2:x=k
   ·subst h2
    simp[Ne.symm h]
   ·simp[h2]
def KN.add{m:List (ak×Bool)}{L:List ak}(h:KN m L)(s:ak):KN (oB s bg m) (L++[s]):=λx=>by
 rw[zix];by_cases e:x=s
 ·simp[e]
 ·rw[aO e,h x]
  exact yE (by simp[e])
section
variable{b:BB}{r:List ar}
def zqn{known:List (ak×Bool)}{L:List ak}(h:At b r)(hk:KN known L):RT b.l (wR L r) (yf b known) (yy b known) (λv i=>(v,i,oB v bg known)):=by
 unfold yf yy wR;simp only[h.isName,bsQ,h.next,AM,J2,h.at_];have hc:=ztg h.st;have hn:=h.name;unfold oq at hn
 cases hb:zfv r with
 |false =>
  have:=hc bd 14;rw[show Ki bd 14 r=.error (zin r 14) from rfl]at this;rw[this.1,this.2];exact⟨rfl,rfl⟩
 |true =>
  rw[hb]at hn;have h1:=hc bg 14;rw[show Ki bg 14 r=.ok ((),r) from rfl]at h1;rw[h1.1,h1.2.1];simp only[bsQ,orC,if_true];rw[hk (hdT r).Text];by_cases hm:(hdT r).Text∈L
  ·rw[aP hm,dt hm]
   have h2:=hc bd 5;rw[show Ki bd 5 r=.error (zin r 5) from rfl]at h2;rw[bW,h2.1,h2.2];exact⟨rfl,rfl⟩
  ·rw[aO hm,df hm]
   have h2:=hc bg 5;rw[show Ki bg 5 r=.ok ((),r) from rfl]at h2;rw[cK,h2.1,h2.2.1];obtain⟨n1,n2,n3⟩:=hn;simp only[bsQ,orC];rw[n1,n2];exact⟨rfl,rfl,n3⟩
def Yx(h:At b r)(most:Int)(hm:most<=1099511627776):RT b.l (ja most r) (wL b most) (qA b most) (λv i=>(v,i)):=by
 unfold wL qA ja;rw[h.has,bsQ,bsQ]
 cases hb:isB xa r with
 |true =>
  simp only[if_true,ctQ];have h2:At { b with i:=zU b.l r.tail } r.tail:=yq rfl rfl (h.st.tail (zw hb))
  refine(h2.number 0 most).bind λv r1 h1 hs=>?_
  have hw:w64 (0-v)=0-v:=by
   unfold qk at h1;split at h1
   ·split at h1
    ·cases h1;rename_i hh;exact xY ab ab
    ·cases h1
   ·cases h1
  show RT _ _ (bc (w64 (0-v),_)) _ _
  rw[hw];exact⟨rfl,rfl,hs⟩
 |false =>
  simp only[aO (show ¬(bd=bg) by simp),cf];have h2:At { b with i:=zU b.l r } r:=yq rfl rfl h.st
  have:=(h2.number 0 most).bind (g:=λv r=>.ok (v,r)) (s2:=λx3=>bc (x3.1,x3.2)) (p2:=λ_=>bh) (f2:=λv i=>(v,i)) λv r1 h1 hs=>⟨rfl,rfl,hs⟩
  rw[Ye]at this;exact this
def zUb(w:List ak)(s:ak)(hw:w.length<1000):∀(k:List ak)(i K:Nat),w.drop i=k->i<=w.length->k.length<K->xS w s (w.length:Int) K (i:Int)=bc (match H7 s k with|some j=>.inl ((i+j:Nat):Int)|none=>.inr ()):=by
 intro k
 induction k with
 |nil =>
  intro i K hr hi hK
  obtain⟨K,rfl⟩:∃k,K=k+1:=⟨K-1,ab⟩
  have:=drop_nil hr hi;rw[xS,df ab];rfl
 |cons c k ih =>
  intro i K hr hi hK
  obtain⟨K,rfl⟩:∃k,K=k+1:=⟨K-1,ab⟩
  obtain⟨h1,h2,h3⟩:=xA hr;simp only[lc]at hK;rw[xS,dt ab,ctQ,z7 h1,bsQ,H7];by_cases hc:c=s
  ·rw[dt hc.symm,aP hc];rfl
  ·rw[df (λe=>hc e.symm),aO hc,cf,yV ab,ih (i+1) K h2 ab ab]
   cases H7 s k with
   |none=>rfl
   |some j=>simp only[Option.map_some];congr 3;omega
def zw2{t:ak}{w:List ak}(ht:vH t=bc w)(hw:w.length<1000)(s:ak):Vp t s=bc (K3 (H7 s w)):=by
 unfold Vp Hp;have:=zUb w s hw w 0 KK rfl ab (vJ ab);rw[show(((0:Nat):Int))=(0:Int) from rfl]at this;rw[ht,bsQ,this]
 cases H7 s w with
 |none=>rfl
 |some j=>simp[xT,K3]
def USE:List ak:=[[104,111,109,101],[115,104,111,112],[119,111,114,107],[112,97,114,107],[112,108,97,110,116],[104,97,108,108]]
def LOAD:List ak:=[[104,111,109,101,115],[116,114,97,102,102,105,99],[114,117,110,111,102,102]]
def QL:vH zj=bc USE:=by
 unfold vH Jp;rw[zB (by refine⟨ae,ae,ae,ae⟩)];rfl
def ztx:vH zX=bc LOAD:=by
 unfold vH Jp;rw[zB (by refine⟨ae,ae,ae,ae⟩)];rfl
def Yy(h:At b r){t:ak}{w:List ak}(ht:vH t=bc w)(hw:w.length<1000):RT b.l (kj w r) (xy b t) (ji b t) (λv i=>(v,i)):=by
 unfold xy ji kj;simp only[h.next,bsQ,zw2 ht hw,AM,J2,h.at_,h.st.step];have hc:=ztg h.st;have h0:=hc bd 14;rw[show Ki bd 14 r=.error (zin r 14) from rfl]at h0;by_cases hk:(hdT r).aM=0
 ·rw[aP hk,dt hk,ctQ,ctQ]
  cases hf:H7 (hdT r).Text w with
  |none =>
   rw[show decide (K3 bh>=0)=bd from rfl,h0.1,h0.2];exact⟨rfl,rfl⟩
  |some i =>
   have h1:=hc bg 14;rw[show Ki bg 14 r=.ok ((),r) from rfl]at h1;have:decide (K3 (bc i)>=0)=bg:=dt (show((i:Int))>=0 by omega);rw[this,h1.1,h1.2.1];exact⟨rfl,rfl,h.st.tail ab⟩
 ·rw[aO hk,df hk,cf,cf,h0.1,h0.2]
  exact⟨rfl,rfl⟩
def zl4(h:At b r):RT b.l (Jb r) (kV b) (HM b) (λv i=>(i,v.X,v.Y,v.Z_)):=by
 unfold kV HM Jb
 refine(h.number 0 1048576).bind λx r1 h1 hs1=>?_
 have a1:At { b with i:=zU b.l r1 } r1:=yq rfl rfl hs1
 refine(a1.number 0 1048576).bind λy r2 h2 hs2=>?_
 have a2:At { b with i:=zU b.l r2 } r2:=yq rfl rfl hs2
 exact(a2.number 0 4096).bind λz r3 h3 hs3=>⟨rfl,rfl,hs3⟩
def VM(h:At b r)(n:Nat)(most:Nat)(hk:(hdT r).aM≠3):RT b.l (thn (Ki (decide (n<most)) 6 r) λ_ r=>.ok ((),r.tail)) (yS b (n:Int) (most:Int)) (jh b (n:Int) (most:Int)) (λ_ i=>i):=by
 unfold yS jh;rw[h.step,show decide ((n:Int)<(most:Int))=decide (n<most) from yE ab]
 refine(h.check _ _).bind λu r1 h1 hs=>?_
 unfold Ki at h1;split at h1
 ·cases h1;exact⟨rfl,rfl,hs.tail hk⟩
 ·cases h1
def zqo(h:At b r)(c:Bool)(e:Int):RT b.l (ztw c e r) (j6 b c e) (JD b c e) (λ_ i=>i):=by
 unfold j6 JD ztw;rw[h.is,bsQ,bsQ,h.step]
 refine(h.check _ _).bind λu r1 h1 hs1=>?_
 unfold Ki at h1;split at h1
 ·rename_i hb
  cases h1
  refine(h.check _ _).bind λu r1 h1 hs1=>?_
  unfold Ki at h1;split at h1
  ·cases h1;exact⟨rfl,rfl,hs1.tail (zw hb)⟩
  ·cases h1
 ·cases h1
def zLu:∀(n:Nat)(r:List ar)(acc:List zV)(K:Nat),St b.l r->r.length<n->n<=K->acc.length+r.length<=2000000 ->
  RTS b.l (qi n acc r) (kT b K (zU b.l r,acc)) (kY b K (zU b.l r,acc)) (λv i=>(v,i)):=by
 intro n
 induction n with
 |zero=>intro r acc K hs hn;omega
 |succ n ih =>
  intro r acc K hs hn hK hacc
  obtain⟨K,rfl⟩:∃k,K=k+1:=⟨K-1,ab⟩
  rw[qi,kT,kY];have a0:At { b with i:=zU b.l r } r:=yq rfl rfl hs
  refine(a0.number 0 1048576).bindS λx r1 h1 hs1=>?_
  have q1:=qd hs.wf h1;have a1:At { b with i:=zU b.l r1 } r1:=yq rfl rfl hs1
  refine(a1.number 0 1048576).bindS λy r2 h2 hs2=>?_
  have q2:=qd hs1.wf h2;have a2:At { b with i:=zU b.l r2 } r2:=yq rfl rfl hs2;have g1:=q1.lt;have g2:=q2.lt;dsimp only;rw[zB (by simp only[laQ,lc,bI];omega),bsQ,bsQ,a2.isNumber,bsQ,bsQ]
  cases hk:Kq r2 with
  |true =>
   simp only[if_true,bW,cf];exact ih r2 _ K hs2 ab ab (by simp only[laQ,lc,bI];omega)
  |false=>exact⟨rfl,rfl,hs2⟩
def zzv{l r:List ar}(h:St l r):r.length+1<=KK:=by
 have:=h.lt;have:=h.len;have:=ziw;omega
def zfe(h:At b r):RT b.l (qi (r.length+1) [] r) (wM b) (qB b) (λv i=>(v,i)):=by
 unfold wM qB;rw[h.at_];have:=h.st.lt;have:=h.st.len;exact(zLu (b:={ b with i:=0 }) (r.length+1) r [] KK h.st (cS _) (zzv h.st) (by simp;omega)).rt
def z0f:∀(n:Nat)(r:List ar)(acc:List ak)(K:Nat),St b.l r->r.length<n->n<=K->acc.length+r.length<=2000000 ->
  RJ b.l (ZG n acc r) (Al b K (zU b.l r,acc)) (Aq b K (zU b.l r,acc)) (λv i=>(i,v)):=by
 intro n
 induction n with
 |zero=>intro r acc K hs hn;omega
 |succ n ih =>
  intro r acc K hs hn hK hacc
  obtain⟨K,rfl⟩:∃k,K=k+1:=⟨K-1,ab⟩
  rw[ZG,Al,Aq];have a0:At { b with i:=zU b.l r } r:=yq rfl rfl hs;rw[a0.isName,bsQ,bsQ]
  cases hk:zfv r with
  |true =>
   simp only[if_true,ctQ]
   refine a0.name.bindJ λs r1 h1 hs1=>?_
   have q1:=jQ hs.wf h1;have g1:=q1.lt;dsimp only;rw[zB (by simp only[laQ,lc,bI];omega),bsQ,bsQ];exact ih r1 _ K hs1 ab ab (by simp only[laQ,lc,bI];omega)
  |false=>exact⟨rfl,rfl,hs⟩
def zGb(h:At b r):RT b.l (Yw r) (u6 b) (JH b) (λv i=>(v,i)):=by
 unfold u6 JH Yw
 refine h.name.bind λs r1 h1 hs1=>?_
 have:=hs1.lt;have:=hs1.len;have hL:=z0f (b:={ b with i:=0 }) (r1.length+1) r1 [s] KK hs1 (cS _) (zzv hs1) (by simp;omega)
 have:=hL.bindT (g:=λv r=>.ok (v,r)) (s2:=λx2=>bc (x2.2,x2.1)) (p2:=λ_=>bh) (f2:=λv i=>(v,i)) λv r2 h2 hs2=>⟨rfl,rfl,hs2⟩
 rw[Ye]at this;exact this
end
end Go.Proofs.YtffencjoddkghaaGreatDoor
namespace Go.Proofs.YtffencjoddkghaaGreatDoor
open Go Go.RowKit Go.Eng Go.EV Go.EQ
variable[Fuel]
def MN.get{D:List (List (ak×Bool))}{L:List ak}(h:MN D L):∃m,((bif (List.isEmpty D)then bc ([([]:List (ak×Bool))]:List (List (ak×Bool)))else bc D))=bc [m]/\KN m L:=by
 rcases h with⟨rfl,rfl⟩|⟨m,rfl,h⟩
 ·exact⟨[],rfl,zPk⟩
 ·exact⟨m,rfl,h⟩
def ZH{b:BB}{r:List ar}{m:List (ak×Bool)}{L:List ak}(h:At b r)(hk:KN m L):RR b.l (wR L r) (aN (aN (yf b m) λy=>bc (y.1,y.2.1,[y.2.2])) λx2=>bc (x2.1,x2.2.1,x2.2.2)) (orC (yy b m) (λx2=>bc x2) (aN (aN (yf b m) λy=>bc (y.1,y.2.1,[y.2.2])) λ_=>bh)) (λv i y=>y.1=v/\y.2.1=i/\MN y.2.2 (L++[v])):=by
 have:=(zqn h hk).bindR (g:=λv r=>.ok (v,r)) (s2:=λy=>aN (bc (y.1,y.2.1,[y.2.2])) λx2=>bc (x2.1,x2.2.1,x2.2.2)) (p2:=λ_=>bh) (S2:=λv i y=>y.1=v/\y.2.1=i/\MN y.2.2 (L++[v])) λv r1 h1 hs=>RR.ret hs ⟨rfl,rfl,.inr ⟨_,rfl,hk.add v⟩⟩
 rw[Ye]at this;simp only[cy]at this ⊢;exact this
def zLv(b:BB)(m:List (ak×Bool)):KF { b with n0:=[m] }=(yf b m).bind λy=>bc (y.1,y.2.1,[y.2.2]):=by
 unfold KF yf;simp only[qR,AM,ZF,VL,Je,bsQ,cy]
def zLw(b:BB)(m:List (ak×Bool)):WR { b with n0:=[m] }=yy b m:=by
 unfold WR yy;simp only[qR,AM,J2,ZF,VL,zaq,Je,bsQ]
def zUc{b:BB}{r:List ar}{L:List ak}(h:At b r)(hm:MN b.n0 L):RR b.l (wR L r) (zdj b) (zkr b) (λv i y=>y.1=v/\y.2.1=i/\MN y.2.2 (L++[v])):=by
 obtain⟨m,hm1,hm2⟩:=hm.get;unfold zdj zkr;rw[hm1,bsQ,bsQ,zLv,zLw];exact ZH h hm2
def zLx(b:BB)(m:List (ak×Bool)):Ah { b with n1:=[m] }=(yf b m).bind λy=>bc (y.1,y.2.1,[y.2.2]):=by
 unfold Ah yf;simp only[qR,AM,ZF,VL,Je,bsQ,cy]
def zLy(b:BB)(m:List (ak×Bool)):JE { b with n1:=[m] }=yy b m:=by
 unfold JE yy;simp only[qR,AM,J2,ZF,VL,zaq,Je,bsQ]
def zUd{b:BB}{r:List ar}{L:List ak}(h:At b r)(hm:MN b.n1 L):RR b.l (wR L r) (KH b) (WS b) (λv i y=>y.1=v/\y.2.1=i/\MN y.2.2 (L++[v])):=by
 obtain⟨m,hm1,hm2⟩:=hm.get;unfold KH WS;rw[hm1,bsQ,bsQ,zLx,zLy];exact ZH h hm2
def zLz(b:BB)(m:List (ak×Bool)):Ai { b with n2:=[m] }=(yf b m).bind λy=>bc (y.1,y.2.1,[y.2.2]):=by
 unfold Ai yf;simp only[qR,AM,ZF,VL,Je,bsQ,cy]
def zL0(b:BB)(m:List (ak×Bool)):JF { b with n2:=[m] }=yy b m:=by
 unfold JF yy;simp only[qR,AM,J2,ZF,VL,zaq,Je,bsQ]
def zGc{b:BB}{r:List ar}{L:List ak}(h:At b r)(hm:MN b.n2 L):RR b.l (wR L r) (Aj b) (KP b) (λv i y=>y.1=v/\y.2.1=i/\MN y.2.2 (L++[v])):=by
 obtain⟨m,hm1,hm2⟩:=hm.get;unfold Aj KP;rw[hm1,bsQ,bsQ,zLz,zL0];exact ZH h hm2
def zL1(b:BB)(m:List (ak×Bool)):Ak { b with n3:=[m] }=(yf b m).bind λy=>bc (y.1,y.2.1,[y.2.2]):=by
 unfold Ak yf;simp only[qR,AM,ZF,VL,Je,bsQ,cy]
def zL2(b:BB)(m:List (ak×Bool)):JG { b with n3:=[m] }=yy b m:=by
 unfold JG yy;simp only[qR,AM,J2,ZF,VL,zaq,Je,bsQ]
def zUe{b:BB}{r:List ar}{L:List ak}(h:At b r)(hm:MN b.n3 L):RR b.l (wR L r) (KJ b) (WU b) (λv i y=>y.1=v/\y.2.1=i/\MN y.2.2 (L++[v])):=by
 obtain⟨m,hm1,hm2⟩:=hm.get;unfold KJ WU;rw[hm1,bsQ,bsQ,zL1,zL2];exact ZH h hm2
def zL3(b:BB)(m:List (ak×Bool)):Am { b with n4:=[m] }=(yf b m).bind λy=>bc (y.1,y.2.1,[y.2.2]):=by
 unfold Am yf;simp only[qR,AM,ZF,VL,Je,bsQ,cy]
def zL4(b:BB)(m:List (ak×Bool)):JI { b with n4:=[m] }=yy b m:=by
 unfold JI yy;simp only[qR,AM,J2,ZF,VL,zaq,Je,bsQ]
def zUf{b:BB}{r:List ar}{L:List ak}(h:At b r)(hm:MN b.n4 L):RR b.l (wR L r) (An b) (KQ b) (λv i y=>y.1=v/\y.2.1=i/\MN y.2.2 (L++[v])):=by
 obtain⟨m,hm1,hm2⟩:=hm.get;unfold An KQ;rw[hm1,bsQ,bsQ,zL3,zL4];exact ZH h hm2
def zL5(b:BB)(m:List (ak×Bool)):Ao { b with n5:=[m] }=(yf b m).bind λy=>bc (y.1,y.2.1,[y.2.2]):=by
 unfold Ao yf;simp only[qR,AM,ZF,VL,Je,bsQ,cy]
def zL6(b:BB)(m:List (ak×Bool)):JJ { b with n5:=[m] }=yy b m:=by
 unfold JJ yy;simp only[qR,AM,J2,ZF,VL,zaq,Je,bsQ]
def zUg{b:BB}{r:List ar}{L:List ak}(h:At b r)(hm:MN b.n5 L):RR b.l (wR L r) (KO b) (WW b) (λv i y=>y.1=v/\y.2.1=i/\MN y.2.2 (L++[v])):=by
 obtain⟨m,hm1,hm2⟩:=hm.get;unfold KO WW;rw[hm1,bsQ,bsQ,zL5,zL6];exact ZH h hm2
-- sets of uses
def zUh:∀s<64,∀k<6,decide ((IntKind.i64.wrap ((cv IntKind.i64.bits (Int.fdiv (s:Nat) (2 ^ (min (bX (k:Nat)) IntKind.i64.bits))) &&& cv IntKind.i64.bits 1).toNat:Int))=0)=!(dH s k):=ah
def zUi:∀s<64,∀k<6,(IntKind.i64.wrap ((cv IntKind.i64.bits (s:Nat) ||| cv IntKind.i64.bits (w64 (1*2 ^ (min (bX (k:Nat)) IntKind.i64.bits)))).toNat:Int))=((s ||| 2 ^ k:Nat):Int):=ah
def or_lt:∀s<64,∀k<6,s ||| 2 ^ k<64/\0<s ||| 2 ^ k:=ah
def zty:Nat->Nat->List ar->Except EE (Nat×List ar)
 |0,_,_=>oof
 |n+1,set,r=>match H7 (hdT r).Text USE with
  |none=>if 0<set then .ok (set,r)else .error (zin r 14)
  | some k=>if 0<set/\(hdT r).aM≠0 then .ok (set,r)else if dH set k then .error (zin r 5)else if(hdT r).aM=0 then zty n (set ||| 2 ^ k) r.tail else .error (zin r 14)
def z0g{t:ak}{k:Nat}(h:H7 t USE=bc k):k<6:=(List.getElem?_eq_some_iff.1 (zpx h)).1
def set_L{b:BB}:∀(n:Nat)(r:List ar)(set K:Nat),St b.l r->r.length<n->n<=K->set<64->RTS b.l (zty n set r) (HI b K (zU b.l r,(set:Int))) (HK b K (zU b.l r,(set:Int))) (λv i=>((v:Int),i)):=by
 intro n
 induction n with
 |zero=>intro r set K hs hn;omega
 |succ n ih =>
  intro r set K hs hn hK h64
  obtain⟨K,rfl⟩:∃k,K=k+1:=⟨K-1,ab⟩
  have a0:At { b with i:=zU b.l r } r:=yq rfl rfl hs;have hch:=Yy a0 QL ae
  have hck:=λc e=>a0.check c e
  rw[zty,HI,HK];simp only[a0.next,bsQ,zw2 QL (show USE.length<1000 by decide)]
  cases hf:H7 (hdT r).Text USE with
  |none =>
   dsimp only;rw[show decide (K3 bh<0)=bg from rfl];by_cases h0:0<set
   ·rw[aP h0,dt (show((set:Int))>0 by omega)]
    exact⟨rfl,rfl,hs⟩
   ·rw[aO h0,df (show ¬((set:Int))>0 by omega)]
    have h1:=hck bg 5;rw[show Ki bg 5 r=.ok ((),r) from rfl]at h1;unfold kj at hch;rw[hf]at hch
    have h2:xy { b with i:=zU b.l r } zj=bh/\ji { b with i:=zU b.l r } zj=bc (zin r 14):=by
     by_cases hk:(hdT r).aM=0
     ·rw[aP hk]at hch;exact hch
     ·rw[aO hk]at hch;exact hch
    simp only[ctQ,cf,bsQ];rw[h1.1,h1.2.1];simp only[bsQ,orC,xT,h2.1,h2.2];exact⟨rfl,rfl⟩
  |some k =>
   have hk6:=z0g hf;dsimp only;have e0:decide (K3 (bc k)<0)=bd:=df (show ¬((k:Int))<0 by omega);have e1:(grd (0<=K3 (bc k)))=bc ():=zB (show(0:Int)<=(k:Int) by omega);rw[e0,e1];by_cases hq:0<set/\(hdT r).aM≠0
   ·rw[aP hq,dt (show((set:Int))>0 by omega),df hq.2]
    exact⟨rfl,rfl,hs⟩
   ·rw[aO hq]
    have e2:((bif decide ((set:Int)>0)then(bif bd then bc bg else bc (!(decide ((hdT r).aM=0))))else bc bd))=bc bd:=by
     by_cases h0:0<set
     ·have hk:(hdT r).aM=0:=Classical.byContradiction λhh=>hq ⟨h0,hh⟩
      rw[dt (show((set:Int))>0 by omega),dt hk];rfl
     ·rw[df (show ¬((set:Int))>0 by omega)];rfl
    rw[e2];simp only[bsQ,cf];have e3:K3 (bc k)=((k:Nat):Int):=rfl;rw[e3,zUh set h64 k hk6]
    cases hb:dH set k with
    |true =>
     have h1:=hck bd 5;rw[show Ki bd 5 r=.error (zin r 5) from rfl]at h1;rw[bW,h1.1,h1.2];exact⟨rfl,rfl⟩
    |false =>
     have h1:=hck bg 5;rw[show Ki bg 5 r=.ok ((),r) from rfl]at h1;rw[cK,h1.1,h1.2.1];simp only[bsQ,orC,xT,aO (show ¬(bd=bg) by simp)];unfold kj at hch;by_cases hk:(hdT r).aM=0
     ·rw[aP hk,hf]at hch
      rw[aP hk,hch.1,hch.2.1];have g:=or_lt set h64 k hk6;simp only[bsQ,orC];rw[zB (show(0:Int)<=(k:Int) by omega),bsQ,bsQ,zUi set h64 k hk6];have:=zby hs.wf;exact ih r.tail _ K (hs.tail ab) ab ab g.1
     ·rw[aO hk]at hch
      rw[aO hk,hch.1,hch.2];exact⟨rfl,rfl⟩
def z0h{b:BB}{r:List ar}(h:At b r):RT b.l (zty (r.length+1) 0 r) (zdl b) (zks b) (λv i=>((v:Int),i)):=by
 unfold zdl zks;rw[h.at_];exact(set_L (b:={ b with i:=0 }) (r.length+1) r 0 KK h.st (cS _) (zzv h.st) ae).rt
-- directions of the sun
def zGd:Nat->List zg->List ar->Except EE (List zg×List ar)
 |0,_,_=>oof
 | n+1,acc,r=>thn (Ki (isB xa r||Kq r) 14 r) λ_ r=>thn (Ki (decide (acc.length<24)) 6 r) λ_ r=>thn (ja 4096 r) λx r=>thn (ja 4096 r) λy r=>thn (qk 1 4096 r) λz r =>
  if isB kP r then zGd n (acc++[zg.mk x y z]) r.tail else .ok (acc++[zg.mk x y z],r)
def qS{c:Bool}{e:Int}{r r2:List ar}{u:Unit}(h:Ki c e r=.ok (u,r2)):r2=r/\c=bg:=by
 unfold Ki at h;split at h
 ·rename_i hc;cases h;exact⟨rfl,hc⟩
 ·cases h
def J3{r r2:List ar}{m n:Int}(hr:TWF r)(h:ja m r=.ok (n,r2)):Aft r r2:=by
 unfold ja at h;split at h
 ·rename_i hb
  obtain⟨a,r1,h1,h2⟩:=yA h;cases h2;have ht:=zF hr (zw hb);exact ht.trans (qd ht.wf h1).e
 ·exact qd hr h
def z0i{b:BB}:∀(n:Nat)(r:List ar)(acc:List zg)(K:Nat),St b.l r->r.length<n->n<K->RJ b.l (zGd n acc r) (oL b K (zU b.l r,acc,bg)) (oM b K (zU b.l r,acc,bg)) (λv i=>(i,v)):=by
 intro n
 induction n with
 |zero=>intro r acc K hs hn;omega
 |succ n ih =>
  intro r acc K hs hn hK
  obtain⟨K,rfl⟩:∃k,K=k+1:=⟨K-1,ab⟩
  have a0:At { b with i:=zU b.l r,S:=acc } r:=yq rfl rfl hs;rw[zGd,oL,oM];simp only[ctQ,a0.is,a0.isNumber,bsQ]
  have first:RJ b.l (Ki (isB xa r||Kq r) 14 r) (bif isB xa r then(zf { b with i:=zU b.l r,S:=acc } bg 14).bind λ_=>bc ()else(zf { b with i:=zU b.l r,S:=acc } (Kq r) 14).bind λ_=>bc ())
    (bif isB xa r then(orC (zt { b with i:=zU b.l r,S:=acc } bg 14) (λx3=>bc (bp x3)) (aN (zf { b with i:=zU b.l r,S:=acc } bg 14) λ_=>bc (br ())))else(orC (zt { b with i:=zU b.l r,S:=acc } (Kq r) 14) (λx6=>bc (bp x6)) (aN (zf { b with i:=zU b.l r,S:=acc } (Kq r) 14) λ_=>bc (br ())))) (λ_ _=>()):=by
   cases isB xa r with
   |true =>
    have:=(a0.check bg 14).bindJ (g:=λv r=>.ok (v,r)) (s2:=λ_=>bc ()) (p2:=λ_=>bc (br ())) (fj:=λ_ _=>()) λv r1 h1 hs1=>⟨rfl,rfl,hs1⟩
    rw[Ye]at this;exact this
   |false =>
    have:=(a0.check (Kq r) 14).bindJ (g:=λv r=>.ok (v,r)) (s2:=λ_=>bc ()) (p2:=λ_=>bc (br ())) (fj:=λ_ _=>()) λv r1 h1 hs1=>⟨rfl,rfl,hs1⟩
    rw[Ye]at this;exact this
  have bindJJ:∀{g:Unit->List ar->Except EE (List zg×List ar)}{sj:Option Unit}{pj:Option (EE⊕Unit)}{s2:Unit->Option (Int×List zg)}{p2:Unit->Option (EE⊕(Int×List zg))},RJ b.l (Ki (isB xa r||Kq r) 14 r) sj pj (λ_ _=>())->(∀u r1,Ki (isB xa r||Kq r) 14 r=.ok (u,r1)->RJ b.l (g u r1) (s2 ()) (p2 ()) (λv i=>(i,v)))->RJ b.l (thn (Ki (isB xa r||Kq r) 14 r) g) (sj.bind s2) (pj.bind (xT (λq=>bc (bp q)) p2)) (λv i=>(i,v)):=by
   intro g sj pj s2 p2 h h2
   cases hx:Ki (isB xa r||Kq r) 14 r with
   |error e=>rw[hx]at h;rw[h.1,h.2];exact⟨rfl,rfl⟩
   |ok y =>
    obtain⟨u,r1⟩:=y;rw[hx]at h;rw[h.1,h.2.1];exact h2 u r1 hx
  refine bindJJ first λu r0 h0=>?_
  obtain⟨rfl,hc0⟩:=qS h0;rw[show decide ((((bf acc):Nat):Int)<24)=decide (acc.length<24) from yE ab]
  refine(a0.check _ _).bindJ λu r1 h1 hs1=>?_
  obtain⟨rfl,hc1⟩:=qS h1;have hl:=aY hc1
  refine(Yx a0 4096 ab).bindJ λx r2 h2 hs2=>?_
  have q2:=J3 hs.wf h2;have a2:At { b with i:=zU b.l r2,S:=acc } r2:=yq rfl rfl hs2
  refine(Yx a2 4096 ab).bindJ λy r3 h3 hs3=>?_
  have q3:=J3 hs2.wf h3;have a3:At { b with i:=zU b.l r3,S:=acc } r3:=yq rfl rfl hs3
  refine(a3.number 1 4096).bindJ λz r4 h4 hs4=>?_
  have q4:=qd hs3.wf h4;dsimp only;rw[zB (by simp only[laQ,lc,bI];omega),bsQ,bsQ];have a4:At { b with i:=zU b.l r4,S:=acc++[zg.mk x y z] } r4:=yq rfl rfl hs4;have g2:=q2.lt;have g3:=q3.lt;have g4:=q4.lt;rw[a4.has,bsQ,bsQ]
  cases hb:isB kP r4 with
  |true =>
   simp only[if_true];have:=zby hs4.wf;exact ih r4.tail _ K (hs4.tail (zw hb)) ab ab
  |false =>
   simp only[aO (show ¬(bd=bg) by simp)]
   obtain⟨K,rfl⟩:∃k,K=k+1:=⟨K-1,ab⟩
   exact⟨by rw[oL];rfl,by rw[oM];rfl,hs4⟩
def zL7(acc:List zg)(r:List ar):Except EE (List zg×List ar):=thn (zGd (r.length+1) acc r) λout r=>thn (wb yc r) λ_ r=>.ok (out,r)
def z0j{b:BB}{r:List ar}(h:At b r):RT b.l (zL7 b.S r) (Vq b) (zdm b) (λv i=>(i,v)):=by
 unfold Vq zdm zL7;rw[h.at_];have h1:=h.st.lt;have h2:=h.st.len;have h3:=ziw
 refine(z0i (b:={ b with i:=0,S:=[] }) (r.length+1) r b.S KK h.st (cS _) ab).bindT λout r1 _ hs1=>?_
 have a1:At { b with i:=zU b.l r1,S:=out } r1:=yq rfl rfl hs1
 exact(a1.want yc).bind λu r2 _ hs2=>⟨rfl,rfl,hs2⟩
variable[Fuel]
-- an expression has no more nodes than what was read has tokens
def zGe{op:Int}{a b:Expr}:jF (Zu op a b)=jF a+jF b+1:=by unfold Zu;rw[jF,H9,H9,H9];omega
def zGf:∀(n:Nat),(∀(lv:Nat)(r:List ar),lv<=8->r.length<n->TWF r->∀e r2,DE lv r=.ok (e,r2)->jF e+r2.length<=r.length)/\(∀(lv:Nat)(e:Expr)(r:List ar),lv<8->r.length<n->TWF r->∀e2 r2,LP lv e r=.ok (e2,r2)->jF e2+r2.length<=jF e+r.length):=by
 intro n
 induction n with
 |zero=>exact⟨λ_ _ _ h=>ab,λ_ _ _ _ h=>ab⟩
 |succ n ih =>
  have hLP:∀(lv:Nat)(e:Expr)(r:List ar),lv<8->r.length<n+1->TWF r->∀e2 r2,LP lv e r=.ok (e2,r2)->jF e2+r2.length<=jF e+r.length:=by
   intro lv e r hlv hn hr e2 r2 h;rw[zEu hr]at h;split at h
   ·cases h;omega
   ·rename_i op hop
    obtain⟨o,ho,_⟩:=K5 hop;have ht:=zF hr (qe ho).1;obtain⟨a,r1,h1,h2⟩:=yA h;have g:=ht.lt;have ha:=wu ht.wf h1;have g1:=ha.lt;have k1:=ih.1 (lv+1) _ ab ab ht.wf _ _ h1;split at h2
    ·cases h2;rw[zGe];omega
    ·have:=ih.2 lv _ _ hlv ab ha.wf _ _ h2
     rw[zGe]at this;omega
  refine⟨λlv=>?_,hLP⟩
  have key:∀(k lv:Nat),8-lv=k->lv<=8->∀(r:List ar),r.length<n+1->TWF r->∀e r2,DE lv r=.ok (e,r2)->jF e+r2.length<=r.length:=by
   intro k
   induction k with
   |zero =>
    intro lv hk hl r hn hr e r2 h
    obtain rfl:lv=8:=ab
    rw[zHn hr]at h;unfold Yf at h;split at h
    ·obtain⟨a,r1,h1,h2⟩:=yA h
     cases h2;have:=(qd hr h1).lt;rw[jF,H9];omega
    ·split at h
     ·rename_i hb
      have ht:=zF hr (zw hb);obtain⟨a,r1,h1,h2⟩:=yA h;obtain⟨b,r3,h3,h4⟩:=yA h2;cases h4;have q1:=jQ ht.wf h1;have q2:=jQ q1.wf h3;have:=ht.lt;have:=q1.lt;have:=q2.lt;rw[jF,H9];omega
     ·split at h
      ·rename_i hb
       have ht:=zF hr (zw hb);obtain⟨a,r1,h1,h2⟩:=yA h;cases h2;have:=ht.lt;have:=(jQ ht.wf h1).lt;rw[jF,H9];omega
      ·split at h
       ·rename_i hb
        have ht:=zF hr (zw hb);obtain⟨a,r1,h1,h2⟩:=yA h;obtain⟨b,r3,h3,h4⟩:=yA h2;cases h4;have g:=ht.lt;have q1:=ih.1 0 _ ab ab ht.wf _ _ h1;have:=(xr (wu ht.wf h1).wf h3).lt;omega
       ·obtain⟨a,r1,h1,h2⟩:=yA h
        cases h2;have:=(jQ hr h1).lt;rw[jF,H9];omega
   |succ k ihk =>
    intro lv hk hl r hn hr e r2 h;rw[zgi ab hr]at h;split at h
    ·rename_i hb
     unfold ifS at h;have ht:=zF hr (zw hb.2);have g:=ht.lt;obtain⟨a,r1,h1,h⟩:=yA h;obtain⟨u,r3,h3,h⟩:=yA h;obtain⟨b,r4,h4,h⟩:=yA h;obtain⟨u,r5,h5,h⟩:=yA h;obtain⟨c,r6,h6,h⟩:=yA h;cases h;have w1:=wu ht.wf h1;have w3:=xr w1.wf h3;have w4:=wu w3.wf h4;have w5:=xr w4.wf h5;have:=w1.lt;have:=w3.lt;have:=w4.lt;have:=w5.lt;have q1:=ih.1 0 _ ab ab ht.wf _ _ h1;have q4:=ih.1 0 _ ab ab w3.wf _ _ h4;have q6:=ih.1 0 _ ab ab w5.wf _ _ h6;rw[jF,H9,H9,H9,H9];omega
    ·split at h
     ·rename_i hb
      have ht:=zF hr (zw hb.2);have g:=ht.lt;obtain⟨a,r1,h1,h⟩:=yA h;cases h;have q1:=ih.1 3 _ ab ab ht.wf _ _ h1;rw[jF,H9,H9];omega
     ·split at h
      ·rename_i hb
       have ht:=zF hr (zw hb.2);have g:=ht.lt;obtain⟨a,r1,h1,h⟩:=yA h;cases h;have q1:=ih.1 7 _ ab ab ht.wf _ _ h1;rw[jF,H9,H9];omega
      ·obtain⟨a,r1,h1,h⟩:=yA h
       have q1:=ihk (lv+1) ab ab r hn hr _ _ h1;have w1:=wu hr h1;have:=w1.lt;have:=ih.2 lv a r1 ab ab w1.wf _ _ h;omega
  exact λr hl=>key _ lv rfl hl r
def z0k{lv:Nat}{r r2:List ar}{e:Expr}(hl:lv<=8)(hr:TWF r)(h:DE lv r=.ok (e,r2)):jF e+r2.length<=r.length:=(zGf (r.length+1)).1 lv r hl (cS _) hr e r2 h
def zqp{l r r2:List ar}{e:Expr}(hs:St l r)(h:DE 0 r=.ok (e,r2)):jg KK e=bc ((YJ e:Nat):Int):=by
 have h1:=z0k ab hs.wf h;have h2:=hs.lt;have h3:=hs.len;have h4:=ziw;exact zEx 1000000 e KK ab ab ab
def QM{r r2:List ar}{L:List ak}{s:ak}(h:TWF r)(e:wR L r=.ok (s,r2)):Aft r r2:=by
 unfold wR at e;split at e
 ·rename_i hk
  split at e
  ·cases e
  ·cases e;exact zF h (zex hk)
 ·cases e
def ziy{r r2:List ar}{p:zg}(h:TWF r)(e:Jb r=.ok (p,r2)):Aft r r2:=by
 obtain⟨a,r1,h1,e⟩:=yA e;obtain⟨b,r3,h3,e⟩:=yA e;obtain⟨c,r4,h4,e⟩:=yA e;cases e;have q1:=qd h h1;have q3:=qd q1.wf h3;exact q1.trans (q3.trans (qd q3.wf h4).e).e
-- definitions
def zL8(L:List ak)(r:List ar):Except EE (Def×List ar):=thn (wR L r) λs r=>thn (wb AQ r) λ_ r=>thn (DE 0 r) λe r=>thn (ztw (decide (YJ e<=12)) 6 r) λ_ r=>.ok (Def.mk s e,r)
section
variable{b:BB}{r:List ar}{L:List ak}
def zGg(h:At b r)(hm:MN b.n0 L)(hb:b.D.length<=1000):RR b.l (zL8 L r) (HH b) (Qy b) (λd i y=>y.1=i/\y.2.1=b.D++[d]/\MN y.2.2 (L++[d.aL])):=by
 unfold HH Qy zL8
 refine(zUc h hm).bind λs r1 y h1 hs1 hy=>?_
 obtain⟨y1,y2,y3⟩:=y;obtain⟨rfl,rfl,hy⟩:=hy;dsimp only at hy ⊢;have a1:At { b with i:=zU b.l r1,n0:=y3 } r1:=yq rfl rfl hs1
 refine(a1.want AQ).bindR λu r2 h2 hs2=>?_
 have a2:At { b with i:=zU b.l r2,n0:=y3 } r2:=yq rfl rfl hs2
 refine a2.expr.bindR λe r3 h3 hs3=>?_
 have a3:At { b with i:=zU b.l r3,n0:=y3 } r3:=yq rfl rfl hs3;simp only[fE,xg];rw[zqp hs2 h3,bsQ,bsQ,show decide (((YJ e:Nat):Int)<=12)=decide (YJ e<=12) from yE ab]
 refine(zqo a3 (decide (YJ e<=12)) 6).bindR λu r4 h4 hs4=>?_
 rw[zB (by simp only[laQ,lc,bI];omega),bsQ,bsQ];exact RR.ret hs4 ⟨rfl,rfl,hy⟩
end
def ZI:Nat->List aw->List ar->Except EE (List aw×List ar)
 |0,_,_=>oof
 |n+1,acc,r=>if zfv r then thn (Ki (decide (acc.length<60)) 6 r) λ_ r=>thn (wR (acc.map aw.aL) r) λs r=>thn (ja 1099511627776 r) λv r=>ZI n (acc++[aw.mk s v]) r else .ok (acc,r)
def Yz(L:List ak)(r:List ar):Except EE (au×List ar):=thn (wR L r) λs r=>thn (ZI (r.length+1) [] r) λrows r=>thn (wb xh r) λ_ r=>thn (ja 1099511627776 r) λv r=>thn (wb yc r) λ_ r=>.ok (au.mk s rows v,r)
def zz9:Nat->List zg->List ar->Except EE (List zg×List ar)
 |0,_,_=>oof
 |n+1,acc,r=>if Kq r then thn (Ki (decide (acc.length<20)) 6 r) λ_ r=>thn (Jb r) λp r=>zz9 n (acc++[p]) r else .ok (acc,r)
def zl5(L:List ak)(r:List ar):Except EE (av×List ar):=thn (wR L r) λs r=>thn (Jb r) λeye r=>thn (wb vO r) λ_ r=>thn (qk 0 20 r) λn r=>thn (wb xQ r) λ_ r=>thn (Jb r) λp r=>thn (zz9 (r.length+1) [p] r) λl r=>thn (wb yc r) λ_ r=>.ok (av.mk s eye n l,r)
noncomputable def zff(L:List ak)(over:Bool)(r:List ar):Except EE (yt×List ar):=thn (wR L r) λs r=>thn (qi (r.length+1) [] r) λc r=>thn (ztw (pd (Hs c)) 10 r) λ_ r=>.ok (yt.mk s over c,r)
noncomputable def zPl(L:List ak)(r:List ar):Except EE (Cap×List ar):=thn (wR L r) λs r=>thn (kj LOAD r) λk r=>thn (qk 0 1099511627776 r) λn r=>thn (qi (r.length+1) [] r) λc r=>thn (ztw (pd (Hs c)) 10 r) λ_ r=>.ok (Cap.mk s k n c,r)
section
variable{b:BB}{r:List ar}{L:List ak}
def z0l{c15:List (List (ak×Bool))}{c16:ak}{c17:Int}:∀(n:Nat)(r:List ar)(acc:List aw)(m:List (ak×Bool))(K:Nat),St b.l r->r.length<n->n<=K->KN m (acc.map aw.aL) ->
  RJ b.l (ZI n acc r) (uu b c15 c16 c17 K (zU b.l r,m,acc)) (uv b c15 c16 c17 K (zU b.l r,m,acc)) (λv i=>(i,v)):=by
 intro n
 induction n with
 |zero=>intro r acc m K hs hn;omega
 |succ n ih =>
  intro r acc m K hs hn hK hm
  obtain⟨K,rfl⟩:∃k,K=k+1:=⟨K-1,ab⟩
  rw[ZI,uu,uv];have a0:At { b with i:=zU b.l r,n1:=c15 } r:=yq rfl rfl hs;rw[a0.isName,bsQ,bsQ]
  cases hk:zfv r with
  |true =>
   simp only[if_true,ctQ];rw[show decide ((((bf acc):Nat):Int)<60)=decide (acc.length<60) from yE ab]
   refine(a0.check _ _).bindJ λu r1 h1 hs1=>?_
   obtain⟨rfl,hc1⟩:=qS h1;have hl:=aY hc1
   refine(zqn a0 hm).bindJ λs r2 h2 hs2=>?_
   have q2:=QM hs.wf h2;have a2:At { b with i:=zU b.l r2,n1:=c15 } r2:=yq rfl rfl hs2;dsimp only
   refine(Yx a2 1099511627776 ab).bindJ λv r3 h3 hs3=>?_
   have q3:=J3 hs2.wf h3;have g2:=q2.lt;have g3:=q3.lt;dsimp only;rw[zB (by simp only[laQ,lc,bI];omega),bsQ,bsQ];exact ih r3 _ _ K hs3 ab ab (by rw[bU];exact hm.add s)
  |false=>exact⟨rfl,rfl,hs⟩
def zL9(h:At b r)(hm:MN b.n1 L)(hb:b.T.length<=1000):RR b.l (Yz L r) (KI b) (WT b) (λd i y=>y.1=i/\y.2.1=b.T++[d]/\MN y.2.2 (L++[d.aL])):=by
 unfold KI WT Yz
 refine(zUd h hm).bind λs r1 y h1 hs1 hy=>?_
 obtain⟨y1,y2,y3⟩:=y;obtain⟨rfl,rfl,hy⟩:=hy;dsimp only at hy ⊢
 refine(z0l (b:={ b with i:=0,n1:=[] }) (r1.length+1) r1 [] [] KK hs1 (cS _) (zzv hs1) zPk).bindR λrows r2 h2 hs2=>?_
 have a2:At { b with i:=zU b.l r2,n1:=y3 } r2:=yq rfl rfl hs2
 refine(a2.want xh).bindR λu r3 h3 hs3=>?_
 have a3:At { b with i:=zU b.l r3,n1:=y3 } r3:=yq rfl rfl hs3
 refine(Yx a3 1099511627776 ab).bindR λv r4 h4 hs4=>?_
 have a4:At { b with i:=zU b.l r4,n1:=y3 } r4:=yq rfl rfl hs4
 refine(a4.want yc).bindR λu r5 h5 hs5=>?_
 dsimp only;rw[zB (by simp only[laQ,lc,bI];omega),bsQ,bsQ];exact RR.ret hs5 ⟨rfl,rfl,hy⟩
def tgt_L{c15:List (List (ak×Bool))}{c16:ak}{c17 c18 c19 c20:Int}:∀(n:Nat)(r:List ar)(acc:List zg)(K:Nat),St b.l r->r.length<n->n<=K ->
  RJ b.l (zz9 n acc r) (Ap b c15 c16 c17 c18 c19 c20 K (zU b.l r,acc)) (Ar b c15 c16 c17 c18 c19 c20 K (zU b.l r,acc)) (λv i=>(i,v)):=by
 intro n
 induction n with
 |zero=>intro r acc K hs hn;omega
 |succ n ih =>
  intro r acc K hs hn hK
  obtain⟨K,rfl⟩:∃k,K=k+1:=⟨K-1,ab⟩
  rw[zz9,Ap,Ar];have a0:At { b with i:=zU b.l r,n5:=c15 } r:=yq rfl rfl hs;rw[a0.isNumber,bsQ,bsQ]
  cases hk:Kq r with
  |true =>
   simp only[if_true,ctQ];rw[show decide ((((bf acc):Nat):Int)<20)=decide (acc.length<20) from yE ab]
   refine(a0.check _ _).bindJ λu r1 h1 hs1=>?_
   obtain⟨rfl,hc1⟩:=qS h1;have hl:=aY hc1
   refine(zl4 a0).bindJ λp r2 h2 hs2=>?_
   have q2:=ziy hs.wf h2;have g2:=q2.lt;dsimp only;rw[zB (by simp only[laQ,lc,bI];omega),bsQ,bsQ];exact ih r2 _ K hs2 ab ab
  |false=>exact⟨rfl,rfl,hs⟩
def zUj(h:At b r)(hm:MN b.n5 L)(hb:b.V.length<=1000):RR b.l (zl5 L r) (JC b) (WX b) (λd i y=>y.1=i/\y.2.1=b.V++[d]/\MN y.2.2 (L++[d.aL])):=by
 unfold JC WX zl5
 refine(zUg h hm).bind λs r1 y h1 hs1 hy=>?_
 obtain⟨y1,y2,y3⟩:=y;obtain⟨rfl,rfl,hy⟩:=hy;dsimp only at hy ⊢;have a1:At { b with i:=zU b.l r1,n5:=y3 } r1:=yq rfl rfl hs1
 refine(zl4 a1).bindR λeye r2 h2 hs2=>?_
 have a2:At { b with i:=zU b.l r2,n5:=y3 } r2:=yq rfl rfl hs2
 refine(a2.want vO).bindR λu r3 h3 hs3=>?_
 have a3:At { b with i:=zU b.l r3,n5:=y3 } r3:=yq rfl rfl hs3
 refine(a3.number 0 20).bindR λn r4 h4 hs4=>?_
 have a4:At { b with i:=zU b.l r4,n5:=y3 } r4:=yq rfl rfl hs4
 refine(a4.want xQ).bindR λu r5 h5 hs5=>?_
 have a5:At { b with i:=zU b.l r5,n5:=y3 } r5:=yq rfl rfl hs5
 refine(zl4 a5).bindR λp r6 h6 hs6=>?_
 dsimp only;rw[zB af,bsQ,bsQ]
 refine(tgt_L (b:={ b with i:=0,n5:=[] }) (r6.length+1) r6 [p] KK hs6 (cS _) (zzv hs6)).bindR λl r7 h7 hs7=>?_
 have a7:At { b with i:=zU b.l r7,n5:=y3 } r7:=yq rfl rfl hs7
 refine(a7.want yc).bindR λu r8 h8 hs8=>?_
 dsimp only;rw[zB (by simp only[laQ,lc,bI];omega),bsQ,bsQ];exact RR.ret hs8 ⟨rfl,rfl,hy⟩
end
def zfg{α:Type}(t:ak)(d:α)(f:List ar->Except EE (α×List ar))(r:List ar):Except EE (α×List ar):=if isB t r then f r.tail else .ok (d,r)
def zAa(t:ak)(r:List ar):List ar:=if isB t r then r.tail else r
abbrev BD:=Int×Expr×zy×Int×Int×Int
def fB(v:BD)(i:Int):Int×Int×Int×Int×ak×ak×List Expr×Int×Int×Int×Int×Int×Int×Int:=(i,v.1,v.2.1.Op,v.2.1.N,v.2.1.S,v.2.1.Key,v.2.1.Args,v.2.2.1.Side,v.2.2.1.Base,v.2.2.1.Num,v.2.2.1.Den,v.2.2.2.1,v.2.2.2.2.1,v.2.2.2.2.2)
def ex0:Expr:=Expr.mk 0 0 [] [] []
def pl0:zy:=zy.mk 0 0 0 0
def zw3(r:List ar):Except EE (BD×List ar):=thn (qk 0 3 r) λa r=>thn (wb AX r) λ_ r=>thn (qk 0 4096 r) λb r=>thn (wb jH r) λ_ r=>thn (qk 0 4096 r) λc r=>thn (qk 1 4096 r) λd r=>thn (wb yc r) λ_ r=>.ok ((1,ex0,zy.mk a b c d,0,0,0),r)
def zMa(r:List ar):Except EE (BD×List ar):=thn (zty (r.length+1) 0 r) λs r=>thn (wb yc r) λ_ r=>.ok ((2,ex0,pl0,((s:Nat):Int),0,0),r)
def zw4(r:List ar):Except EE (BD×List ar):=thn (kj USE r) λa r=>thn (kj USE r) λb r=>thn (qk 0 1048576 r) λn r=>thn (wb yc r) λ_ r=>.ok ((3,ex0,pl0,a,b,n),r)
def zMb(r:List ar):Except EE (BD×List ar):=thn (DE 0 r) λe r=>thn (ztw (decide (YJ e<=12)) 6 r) λ_ r=>.ok ((0,e,pl0,0,0,0),r)
def ZJ(r:List ar):Except EE (BD×List ar):=if isB qt r then zw3 r.tail else if isB Ag r then zMa r.tail else if isB qs r then zw4 r.tail else zMb r
def zl6(L:List ak)(r:List ar):Except EE (zO×List ar):=thn (wR L r) λs r=>thn (zfg zft [] Yw r) λz r=>thn (zfg xe [] Yw r) λx r=>thn (zfg vE 0 (qk 0 1073741824) r) λf r=>thn (zfg xK 0 (qk (f+1) 1073741824) r) λu r=>thn (zfg xW 0 (qk 0 1073741824) r) λg r=>thn (wb xQ (zAa wB r)) λ_ r2=>thn (ZJ r2) λb r3=>.ok (zO.mk s z x f u g (isB wB r) b.1 b.2.1 b.2.2.1 b.2.2.2.1 b.2.2.2.2.1 b.2.2.2.2.2,r3)
def zUk{lo hi n:Int}{r r2:List ar}(h:qk lo hi r=.ok (n,r2)):lo<=n/\n<=hi:=by
 unfold qk at h;split at h
 ·split at h
  ·rename_i hh;cases h;exact hh
  ·cases h
 ·cases h
def zMc{lo hi n:Int}{t:ak}{r r2:List ar}(hl:lo<=0/\0<=hi)(h:zfg t 0 (qk lo hi) r=.ok (n,r2)):lo<=n/\n<=hi:=by
 unfold zfg at h;split at h
 ·exact zUk h
 ·cases h;exact hl
section
variable{b:BB}{r:List ar}{L:List ak}
def zqq{α:Type}{t:ak}{d:α}{f:List ar->Except EE (α×List ar)}{sf:Int->Option (α×Int)}{pf:Int->Option EE}(h:At b r)(hf:isB t r=bg->RT b.l (f r.tail) (sf (zU b.l r.tail)) (pf (zU b.l r.tail)) (λv i=>(v,i))):
  RJ b.l (zfg t d f r) (aN (zD b t) λx3=>(bif x3.1 then(sf x3.2).bind λx4=>bc (x4.2,x4.1)else bc (x3.2,d))) (aN (zD b t) λx4=>(bif x4.1 then(orC (pf x4.2) (λx5=>bc (bp x5)) (aN (sf x4.2) λx6=>bc (br (x6.2,x6.1))))else bc (br (x4.2,d)))) (λv i=>(i,v)):=by
 unfold zfg;rw[h.has,bsQ,bsQ]
 cases hb:isB t r with
 |true =>
  simp only[if_true,ctQ]
  have:=(hf hb).bindJ (g:=λv r=>.ok (v,r)) (s2:=λx4=>bc (x4.2,x4.1)) (p2:=λx6=>bc (br (x6.2,x6.1))) (fj:=λv i=>(i,v)) λv r1 h1 hs=>⟨rfl,rfl,hs⟩
  rw[Ye]at this;exact this
 |false =>
  simp only[aO (show ¬(bd=bg) by simp),cf];exact⟨rfl,rfl,h.st⟩
def zUl{l:List ar}{t:ak}(h:St l r):St l (zAa t r)/\(if isB t r then zU l r.tail else zU l r)=zU l (zAa t r):=by
 unfold zAa;split
 ·rename_i hb;exact⟨h.tail (zw hb),rfl⟩
 ·exact⟨h,rfl⟩
def zUm(h:At b r)(hm:MN b.n3 L)(hb:b.R.length<=1000):RR b.l (zl6 L r) (JB b) (WV b) (λd i y=>y.1=i/\y.2.1=b.R++[d]/\MN y.2.2 (L++[d.aL])):=by
 unfold JB WV zl6
 refine(zUe h hm).bind λs r1 y h1 hs1 hy=>?_
 obtain⟨y1,y2,y3⟩:=y;obtain⟨rfl,rfl,hy⟩:=hy;dsimp only at hy ⊢;have a1:At { b with i:=zU b.l r1,n3:=y3 } r1:=yq rfl rfl hs1
 refine(zqq (t:=zft) (d:=[]) (f:=Yw) (sf:=λi=>u6 { b with i:=i,n3:=y3 }) (pf:=λi=>JH { b with i:=i,n3:=y3 }) a1 λhb=>zGb (yq rfl rfl (hs1.tail (zw hb)))).bindR λz r2 h2 hs2=>?_
 have a2:At { b with i:=zU b.l r2,n3:=y3 } r2:=yq rfl rfl hs2
 refine(zqq (t:=xe) (d:=[]) (f:=Yw) (sf:=λi=>u6 { b with i:=i,n3:=y3 }) (pf:=λi=>JH { b with i:=i,n3:=y3 }) a2 λhb=>zGb (yq rfl rfl (hs2.tail (zw hb)))).bindR λx r3 h3 hs3=>?_
 have a3:At { b with i:=zU b.l r3,n3:=y3 } r3:=yq rfl rfl hs3
 refine(zqq (t:=vE) (d:=0) (f:=qk 0 1073741824) (sf:=λi=>zk { b with i:=i,n3:=y3 } 0 1073741824) (pf:=λi=>zC { b with i:=i,n3:=y3 } 0 1073741824) a3 λhb=>(yq rfl rfl (hs3.tail (zw hb)):At { b with i:=zU b.l r3.tail,n3:=y3 } r3.tail).number 0 1073741824).bindR λf r4 h4 hs4=>?_
 have hf:=zMc ab h4;have a4:At { b with i:=zU b.l r4,n3:=y3 } r4:=yq rfl rfl hs4;dsimp only;rw[xY (n:=f+1) ab ab]
 refine(zqq (t:=xK) (d:=0) (f:=qk (f+1) 1073741824) (sf:=λi=>zk { b with i:=i,n3:=y3 } (f+1) 1073741824) (pf:=λi=>zC { b with i:=i,n3:=y3 } (f+1) 1073741824) a4 λhb=>(yq rfl rfl (hs4.tail (zw hb)):At { b with i:=zU b.l r4.tail,n3:=y3 } r4.tail).number (f+1) 1073741824).bindR λu r5 h5 hs5=>?_
 have a5:At { b with i:=zU b.l r5,n3:=y3 } r5:=yq rfl rfl hs5
 refine(zqq (t:=xW) (d:=0) (f:=qk 0 1073741824) (sf:=λi=>zk { b with i:=i,n3:=y3 } 0 1073741824) (pf:=λi=>zC { b with i:=i,n3:=y3 } 0 1073741824) a5 λhb=>(yq rfl rfl (hs5.tail (zw hb)):At { b with i:=zU b.l r5.tail,n3:=y3 } r5.tail).number 0 1073741824).bindR λg r6 h6 hs6=>?_
 have a6:At { b with i:=zU b.l r6,n3:=y3 } r6:=yq rfl rfl hs6;dsimp only;obtain⟨hs7,e7⟩:=zUl (t:=wB) hs6;rw[a6.has,bsQ,bsQ];dsimp only;rw[e7];have a7:At { b with i:=zU b.l (zAa wB r6),n3:=y3 } (zAa wB r6):=yq rfl rfl hs7
 refine(a7.want xQ).bindR λw r8 h8 hs8=>?_
 have a8:At { b with i:=zU b.l r8,n3:=y3 } r8:=yq rfl rfl hs8
 refine RJ.bindR (fj:=fB) (x:=ZJ r8) ?_ λv r9 h9 hs9=>?_
 ·unfold ZJ
  rw[a8.has,bsQ,bsQ]
  cases hb1:isB qt r8 with
  |true =>
   simp only[if_true,ctQ,zw3];have s0:=hs8.tail (zw hb1);have b0:At { b with i:=zU b.l r8.tail,n3:=y3 } r8.tail:=yq rfl rfl s0
   refine(b0.number 0 3).bindJ λp1 k1 _ s1=>?_
   have b1:At { b with i:=zU b.l k1,n3:=y3 } k1:=yq rfl rfl s1
   refine(b1.want AX).bindJ λp2 k2 _ s2=>?_
   have b2:At { b with i:=zU b.l k2,n3:=y3 } k2:=yq rfl rfl s2
   refine(b2.number 0 4096).bindJ λp3 k3 _ s3=>?_
   have b3:At { b with i:=zU b.l k3,n3:=y3 } k3:=yq rfl rfl s3
   refine(b3.want jH).bindJ λp4 k4 _ s4=>?_
   have b4:At { b with i:=zU b.l k4,n3:=y3 } k4:=yq rfl rfl s4
   refine(b4.number 0 4096).bindJ λp5 k5 _ s5=>?_
   have b5:At { b with i:=zU b.l k5,n3:=y3 } k5:=yq rfl rfl s5
   refine(b5.number 1 4096).bindJ λp6 k6 _ s6=>?_
   have b6:At { b with i:=zU b.l k6,n3:=y3 } k6:=yq rfl rfl s6
   exact(b6.want yc).bindJ λp7 k7 _ s7=>⟨rfl,rfl,s7⟩
  |false =>
   simp only[aO (show ¬(bd=bg) by simp),cf];rw[a8.has,bsQ,bsQ]
   cases hb2:isB Ag r8 with
   |true =>
    simp only[if_true,ctQ,zMa];have s0:=hs8.tail (zw hb2);have b0:At { b with i:=zU b.l r8.tail,n3:=y3 } r8.tail:=yq rfl rfl s0
    refine(z0h b0).bindJ λp1 k1 _ s1=>?_
    have b1:At { b with i:=zU b.l k1,n3:=y3 } k1:=yq rfl rfl s1
    exact(b1.want yc).bindJ λp7 k7 _ s7=>⟨rfl,rfl,s7⟩
   |false =>
    simp only[aO (show ¬(bd=bg) by simp),cf];rw[a8.has,bsQ,bsQ]
    cases hb3:isB qs r8 with
    |true =>
     simp only[if_true,ctQ,zw4];have s0:=hs8.tail (zw hb3);have b0:At { b with i:=zU b.l r8.tail,n3:=y3 } r8.tail:=yq rfl rfl s0
     refine(Yy b0 QL ae).bindJ λp1 k1 _ s1=>?_
     have b1:At { b with i:=zU b.l k1,n3:=y3 } k1:=yq rfl rfl s1
     refine(Yy b1 QL ae).bindJ λp2 k2 _ s2=>?_
     have b2:At { b with i:=zU b.l k2,n3:=y3 } k2:=yq rfl rfl s2
     refine(b2.number 0 1048576).bindJ λp3 k3 _ s3=>?_
     have b3:At { b with i:=zU b.l k3,n3:=y3 } k3:=yq rfl rfl s3
     exact(b3.want yc).bindJ λp7 k7 _ s7=>⟨rfl,rfl,s7⟩
    |false =>
     simp only[aO (show ¬(bd=bg) by simp),cf,zMb]
     refine a8.expr.bindJ λe k1 h1 s1=>?_
     have b1:At { b with i:=zU b.l k1,n3:=y3 } k1:=yq rfl rfl s1;simp only[fE,xg];rw[zqp hs8 h1,bsQ,bsQ,show decide (((YJ e:Nat):Int)<=12)=decide (YJ e<=12) from yE ab]
     exact(zqo b1 (decide (YJ e<=12)) 6).bindJ λu k2 _ s2=>⟨rfl,rfl,s2⟩
 ·dsimp only
  rw[zB (by simp only[laQ,lc,bI];omega),bsQ,bsQ];obtain⟨v1,v2,v3,v4,v5,v6⟩:=v;refine RR.ret hs9 ⟨rfl,?_,hy⟩;simp only[fB,xg]
end
def MV{α:Type}(r:List ar)(x:Except EE (α×List ar)):Prop:=∀a r2,x=.ok (a,r2)->zio r r2
section
variable{α β:Type}{r:List ar}
def MV.thn{x:Except EE (α×List ar)}{g:α->List ar->Except EE (β×List ar)}(h:MV r x)(hg:∀a r1,x=.ok (a,r1)->zio r r1->MV r1 (g a r1)):MV r (thn x g):=λb r2 e=>by
 obtain⟨a,r1,h1,h2⟩:=yA e;have:=h a r1 h1;exact this.trans (hg a r1 h1 this b r2 h2)
def MV.ret{a:α}(h:TWF r):MV r (.ok (a,r)):=λ_ _ e=>by cases e;exact zio.refl h
def MV.err{e:EE}:MV r (.error e:Except EE (α×List ar)):=λ_ _ e=>by cases e
def MV.ite{c:Prop}[Decidable c]{x y:Except EE (α×List ar)}(h1:c->MV r x)(h2:¬c->MV r y):MV r (if c then x else y):=by
 split
 ·rename_i h;exact h1 h
 ·rename_i h;exact h2 h
def MV.of{x:Except EE (α×List ar)}(h:∀a r2,x=.ok (a,r2)->Aft r r2):MV r x:=λa r2 e=>(h a r2 e).e
def MV.tail{x:Except EE (α×List ar)}(ht:TWF r)(hk:(hdT r).aM≠3)(h:MV r.tail x):MV r x:=λa r2 e=>((zF ht hk).trans (h a r2 e)).e
def YA{c:Bool}{e:Int}(h:TWF r):MV r (Ki c e r):=λ_ _ k=>by obtain⟨rfl,_⟩:=qS k;exact zio.refl h
def qj{lo hi:Int}(h:TWF r):MV r (qk lo hi r):=MV.of λ_ _ e=>qd h e
def zGh(h:TWF r):MV r (oq r):=MV.of λ_ _ e=>jQ h e
def kl{t:ak}(h:TWF r):MV r (wb t r):=MV.of λ_ _ e=>xr h e
def ud{L:List ak}(h:TWF r):MV r (wR L r):=MV.of λ_ _ e=>QM h e
def zl7(h:TWF r):MV r (Jb r):=MV.of λ_ _ e=>ziy h e
def YB{m:Int}(h:TWF r):MV r (ja m r):=MV.of λ_ _ e=>J3 h e
def z0m{lv:Nat}(h:TWF r):MV r (DE lv r):=MV.of λ_ _ e=>wu h e
def YC{w:List ak}(h:TWF r):MV r (kj w r):=by
 unfold kj
 refine MV.ite (λhk=>?_) λ_=>MV.err
 split
 ·exact MV.tail h ab (MV.ret (h.tail ab))
 ·exact MV.err
def zfh{c:Bool}{e:Int}(h:TWF r):MV r (ztw c e r):=by
 unfold ztw
 refine(YA h).thn λ_ r1 h1 q1=>(YA q1.wf).thn λ_ r2 h2 q2=>?_
 obtain⟨rfl,hb⟩:=qS h1;obtain⟨rfl,_⟩:=qS h2;exact MV.tail h (zw hb) (MV.ret (h.tail (zw hb)))
def Jc:∀(n:Nat)(acc:List zV)(r:List ar),TWF r->MV r (qi n acc r)
 |0,_,_,_=>MV.err
 |n+1,acc,r,h=>by
  rw[qi]
  exact(qj h).thn λ_ r1 _ q1=>(qj q1.wf).thn λ_ r2 _ q2=>MV.ite (λ_=>Jc n _ r2 q2.wf) λ_=>MV.ret q2.wf
def zGi:∀(n:Nat)(acc:List aw)(r:List ar),TWF r->MV r (ZI n acc r)
 |0,_,_,_=>MV.err
 |n+1,acc,r,h=>by
  rw[ZI]
  exact MV.ite (λ_=>(YA h).thn λ_ r1 _ q1=>(ud q1.wf).thn λ_ r2 _ q2=>(YB q2.wf).thn λ_ r3 _ q3=>zGi n _ r3 q3.wf) λ_=>MV.ret h
def zPm:∀(n:Nat)(acc:List zg)(r:List ar),TWF r->MV r (zz9 n acc r)
 |0,_,_,_=>MV.err
 |n+1,acc,r,h=>by
  rw[zz9]
  exact MV.ite (λ_=>(YA h).thn λ_ r1 _ q1=>(zl7 q1.wf).thn λ_ r2 _ q2=>zPm n _ r2 q2.wf) λ_=>MV.ret h
def zGj:∀(n:Nat)(acc:List ak)(r:List ar),TWF r->MV r (ZG n acc r)
 |0,_,_,_=>MV.err
 |n+1,acc,r,h=>by
  rw[ZG]
  exact MV.ite (λ_=>(zGh h).thn λ_ r1 _ q1=>zGj n _ r1 q1.wf) λ_=>MV.ret h
def zl8(h:TWF r):MV r (Yw r):=by
 unfold Yw
 exact(zGh h).thn λ_ r1 _ q1=>zGj _ _ r1 q1.wf
def zPn:∀(n:Nat)(s:Nat)(r:List ar),TWF r->MV r (zty n s r)
 |0,_,_,_=>MV.err
 |n+1,s,r,h=>by
  rw[zty];split
  ·exact MV.ite (λ_=>MV.ret h) λ_=>MV.err
  ·exact MV.ite (λ_=>MV.ret h) λ_=>MV.ite (λ_=>MV.err) λ_=>MV.ite (λhk=>MV.tail h ab (zPn n _ _ (h.tail ab))) λ_=>MV.err
def zPo:∀(n:Nat)(acc:List zg)(r:List ar),TWF r->MV r (zGd n acc r)
 |0,_,_,_=>MV.err
 |n+1,acc,r,h=>by
  rw[zGd]
  exact(YA h).thn λ_ r1 _ q1=>(YA q1.wf).thn λ_ r2 _ q2=>(YB q2.wf).thn λ_ r3 _ q3=>(YB q3.wf).thn λ_ r4 _ q4=>(qj q4.wf).thn λ_ r5 _ q5=>MV.ite (λhb=>MV.tail q5.wf (zw hb) (zPo n _ _ (q5.wf.tail (zw hb)))) λ_=>MV.ret q5.wf
def zGk{acc:List zg}(h:TWF r):MV r (zL7 acc r):=by
 unfold zL7
 exact(zPo _ _ r h).thn λ_ r1 _ q1=>(kl q1.wf).thn λ_ r2 _ q2=>MV.ret q2.wf
def Va{t:ak}{d:α}{f:List ar->Except EE (α×List ar)}(h:TWF r)(hf:∀r,TWF r->MV r (f r)):MV r (zfg t d f r):=by
 unfold zfg
 exact MV.ite (λhb=>MV.tail h (zw hb) (hf _ (h.tail (zw hb)))) λ_=>MV.ret h
def zPp{L:List ak}(h:TWF r):MV r (zL8 L r):=by
 unfold zL8
 exact(ud h).thn λ_ r1 _ q1=>(kl q1.wf).thn λ_ r2 _ q2=>(z0m q2.wf).thn λ_ r3 _ q3=>(zfh q3.wf).thn λ_ r4 _ q4=>MV.ret q4.wf
def zw5{L:List ak}(h:TWF r):MV r (Yz L r):=by
 unfold Yz
 exact(ud h).thn λ_ r1 _ q1=>(zGi _ _ r1 q1.wf).thn λ_ r2 _ q2=>(kl q2.wf).thn λ_ r3 _ q3=>(YB q3.wf).thn λ_ r4 _ q4=>(kl q4.wf).thn λ_ r5 _ q5=>MV.ret q5.wf
def zGl{L:List ak}(h:TWF r):MV r (zl5 L r):=by
 unfold zl5
 exact(ud h).thn λ_ r1 _ q1=>(zl7 q1.wf).thn λ_ r2 _ q2=>(kl q2.wf).thn λ_ r3 _ q3=>(qj q3.wf).thn λ_ r4 _ q4=>(kl q4.wf).thn λ_ r5 _ q5=>(zl7 q5.wf).thn λ_ r6 _ q6=>(zPm _ _ r6 q6.wf).thn λ_ r7 _ q7=>(kl q7.wf).thn λ_ r8 _ q8=>MV.ret q8.wf
def zGm{L:List ak}{o:Bool}(h:TWF r):MV r (zff L o r):=by
 unfold zff
 exact(ud h).thn λ_ r1 _ q1=>(Jc _ _ r1 q1.wf).thn λ_ r2 _ q2=>(zfh q2.wf).thn λ_ r3 _ q3=>MV.ret q3.wf
def z0n{L:List ak}(h:TWF r):MV r (zPl L r):=by
 unfold zPl
 exact(ud h).thn λ_ r1 _ q1=>(YC q1.wf).thn λ_ r2 _ q2=>(qj q2.wf).thn λ_ r3 _ q3=>(Jc _ _ r3 q3.wf).thn λ_ r4 _ q4=>(zfh q4.wf).thn λ_ r5 _ q5=>MV.ret q5.wf
def zUn(h:TWF r):MV r (ZJ r):=by
 unfold ZJ
 refine MV.ite (λhb=>MV.tail h (zw hb) ?_) λ_=>MV.ite (λhb=>MV.tail h (zw hb) ?_) λ_=>MV.ite (λhb=>MV.tail h (zw hb) ?_) λ_=>?_
 ·have k:=h.tail (zw hb)
  unfold zw3
  exact(qj k).thn λ_ r1 _ q1=>(kl q1.wf).thn λ_ r2 _ q2=>(qj q2.wf).thn λ_ r3 _ q3=>(kl q3.wf).thn λ_ r4 _ q4=>(qj q4.wf).thn λ_ r5 _ q5=>(qj q5.wf).thn λ_ r6 _ q6=>(kl q6.wf).thn λ_ r7 _ q7=>MV.ret q7.wf
 ·have k:=h.tail (zw hb)
  unfold zMa
  exact(zPn _ _ _ k).thn λ_ r1 _ q1=>(kl q1.wf).thn λ_ r2 _ q2=>MV.ret q2.wf
 ·have k:=h.tail (zw hb)
  unfold zw4
  exact(YC k).thn λ_ r1 _ q1=>(YC q1.wf).thn λ_ r2 _ q2=>(qj q2.wf).thn λ_ r3 _ q3=>(kl q3.wf).thn λ_ r4 _ q4=>MV.ret q4.wf
 ·unfold zMb
  exact(z0m h).thn λ_ r1 _ q1=>(zfh q1.wf).thn λ_ r2 _ q2=>MV.ret q2.wf
def zl9{t:ak}(h:TWF r):zio r (zAa t r):=by
 unfold zAa;split
 ·rename_i hb;exact(zF h (zw hb)).e
 ·exact zio.refl h
def MV.from{x:Except EE (α×List ar)}{r1:List ar}(h:zio r r1)(k:MV r1 x):MV r x:=λa r2 e=>h.trans (k a r2 e)
def zGn{L:List ak}(h:TWF r):MV r (zl6 L r):=by
 unfold zl6
 exact(ud h).thn λ_ r1 _ q1=>(Va q1.wf λr h=>zl8 h).thn λ_ r2 _ q2=>(Va q2.wf λr h=>zl8 h).thn λ_ r3 _ q3=>(Va q3.wf λr h=>qj h).thn λ_ r4 _ q4=>(Va q4.wf λr h=>qj h).thn λ_ r5 _ q5=>(Va q5.wf λr h=>qj h).thn λ_ r6 _ q6=>(MV.from (zl9 q6.wf) (kl (zl9 q6.wf).wf)).thn λ_ r7 _ q7=>(zUn q7.wf).thn λ_ r8 _ q8=>MV.ret q8.wf
end
def YD(n most:Nat)(r:List ar):Except EE (Unit×List ar):=thn (Ki (decide (n<most)) 6 r) λ_ r=>.ok ((),r.tail)
noncomputable def zqr(p:yZ)(h:Bool)(r:List ar):Except EE ((yZ×Bool)×List ar) :=
 if isB xJ r then thn (YD p.aF.length 60 r) λ_ r=>thn (zL8 (p.aF.map Def.aL) r) λd r=>.ok (({ p with aF:=p.aF++[d] },h),r)
 else if isB ym r then thn (YD p.Tables.length 60 r) λ_ r=>thn (Yz (p.Tables.map au.aL) r) λd r=>.ok (({ p with Tables:=p.Tables++[d] },h),r)
 else if isB yR r then thn (YD p.aB.length 60 r) λ_ r=>thn (zff (p.aB.map yt.aL) bd r) λd r=>.ok (({ p with aB:=p.aB++[d] },h),r)
 else if isB yr r then thn (YD p.aB.length 60 r) λ_ r=>thn (zff (p.aB.map yt.aL) bg r) λd r=>.ok (({ p with aB:=p.aB++[d] },h),r)
 else if isB jN r then thn (YD p.aE.length 200 r) λ_ r=>thn (zl6 (p.aE.map zO.aL) r) λd r=>.ok (({ p with aE:=p.aE++[d] },h),r)
 else if isB Ko r then thn (YD p.aJ.length 30 r) λ_ r=>thn (zPl (p.aJ.map Cap.aL) r) λd r=>.ok (({ p with aJ:=p.aJ++[d] },h),r)
 else if isB ql r then thn (YD p.aG.length 60 r) λ_ r=>thn (zl5 (p.aG.map av.aL) r) λd r=>.ok (({ p with aG:=p.aG++[d] },h),r)
 else if isB Af r then thn (Ki (decide (p.aK.length=0)) 5 r) λ_ r=>thn (zL7 p.aK r.tail) λs r=>.ok (({ p with aK:=s },h),r)
 else if isB vA r then thn (Ki (!h) 5 r) λ_ r=>thn (qk 0 24 r.tail) λn r=>thn (wb yc r) λ_ r=>.ok (({ p with aI:=n },bg),r)
 else .error (zin r 14)
noncomputable def za0:Nat->yZ->Bool->List ar->Except EE ((yZ×Bool)×List ar)
 |0,_,_,_=>oof
 |n+1,p,h,r=>if(hdT r).aM=3 then .ok ((p,h),r)else thn (zqr p h r) λx r=>za0 n x.1 x.2 r
def RP{α γ:Type}(l:List ar)(x:Except EE (α×List ar))(s:Option γ)(p:Option (EE⊕γ))(S:α->Int->γ->Prop):Prop:=match x with
 |.ok (v,r)=>(∃y,s=bc y/\p=bc (.inr y)/\S v (zU l r) y)/\St l r
 |.error e=>s=bh/\p=bc (.inl e)
def RR.bindP{α β α' γ:Type}{l:List ar}{x:Except EE (α×List ar)}{s:Option β}{p:Option EE}{S:α->Int->β->Prop}{g:α->List ar->Except EE (α'×List ar)}{s2:β->Option γ}{p2:β->Option (EE⊕γ)}{S2:α'->Int->γ->Prop}(h:RR l x s p S)(h2:∀v r y,x=.ok (v,r)->St l r->S v (zU l r) y->RP l (g v r) (s2 y) (p2 y) S2):RP l (thn x g) (s.bind s2) (orC p (λq=>bc (.inl q)) (s.bind p2)) S2:=by
 match x,h,h2 with
 |.error e,⟨h,h'⟩,_=>exact⟨by rw[h];rfl,by rw[h'];rfl⟩
 |.ok (v,r),⟨⟨y,h,hy⟩,h',hs⟩,h2 =>
  have:=h2 v r y rfl hs hy;rw[h,h'];exact this
def RT.bindP{α β α' γ:Type}{l:List ar}{x:Except EE (α×List ar)}{s:Option β}{p:Option EE}{f:α->Int->β}{g:α->List ar->Except EE (α'×List ar)}{s2:β->Option γ}{p2:β->Option (EE⊕γ)}{S2:α'->Int->γ->Prop}(h:RT l x s p f)(h2:∀v r,x=.ok (v,r)->St l r->RP l (g v r) (s2 (f v (zU l r))) (p2 (f v (zU l r))) S2):RP l (thn x g) (s.bind s2) (orC p (λq=>bc (.inl q)) (s.bind p2)) S2 :=
 h.rr.bindP λv r y h1 hs hy=>by subst hy;exact h2 v r h1 hs
abbrev NM:=List (List (ak×Bool))
def qT(l:List ar)(p:yZ)(h:Bool)(r:List ar)(n0 n1 n2 n3 n4 n5:NM):Int×Int×Bool×List Def×List au×List yt×List zO×List Cap×List av×List zg×NM×NM×NM×NM×NM×NM :=
 (zU l r,p.aI,h,p.aF,p.Tables,p.aB,p.aE,p.aJ,p.aG,p.aK,n0,n1,n2,n3,n4,n5)
def QS(v:yZ×Bool)(i:Int)(y:Int×Int×Bool×List Def×List au×List yt×List zO×List Cap×List av×List zg×NM×NM×NM×NM×NM×NM):Prop:=y.1=i/\y.2.1=v.1.aI/\y.2.2.1=v.2/\y.2.2.2.1=v.1.aF/\y.2.2.2.2.1=v.1.Tables/\y.2.2.2.2.2.1=v.1.aB/\y.2.2.2.2.2.2.1=v.1.aE/\y.2.2.2.2.2.2.2.1=v.1.aJ/\y.2.2.2.2.2.2.2.2.1=v.1.aG/\y.2.2.2.2.2.2.2.2.2.1=v.1.aK
def Hf{n most:Nat}{r r2:List ar}{u:Unit}(h:YD n most r=.ok (u,r2)):r2=r.tail/\n<most:=by
 obtain⟨a,r1,h1,h2⟩:=yA h;obtain⟨rfl,hc⟩:=qS h1;cases h2;exact⟨rfl,aY hc⟩
section
variable{b:BB}
def zGo{r:List ar}{t:ak}(hk:¬(hdT r).aM=3):isB t r=decide ((hdT r).Text=t):=by
 unfold isB;rw[df hk];rfl
def z0o:∀(n:Nat)(r:List ar)(p:yZ)(h:Bool)(n0 n1 n2 n3 n4 n5:NM)(K:Nat),St b.l r->r.length<n->n<=K ->
  MN n0 (p.aF.map Def.aL)->MN n1 (p.Tables.map au.aL)->MN n2 (p.aB.map yt.aL)->MN n3 (p.aE.map zO.aL)->MN n4 (p.aJ.map Cap.aL)->MN n5 (p.aG.map av.aL) ->
  RP b.l (za0 n p h r) (yn b K (qT b.l p h r n0 n1 n2 n3 n4 n5)) (yo b K (qT b.l p h r n0 n1 n2 n3 n4 n5)) QS:=by
 intro n
 induction n with
 |zero=>intro r p h n0 n1 n2 n3 n4 n5 K hs hn;omega
 |succ n ih =>
  intro r p h n0 n1 n2 n3 n4 n5 K hs hn hK m0 m1 m2 m3 m4 m5
  obtain⟨K,rfl⟩:∃k,K=k+1:=⟨K-1,ab⟩
  rw[za0,yn,yo,show za=zb from rfl];have a0:At { (zb b (qT b.l p h r n0 n1 n2 n3 n4 n5))with l:=b.l } r:=yq rfl rfl hs;simp only[a0.next,bsQ];by_cases hk:(hdT r).aM=3
  ·rw[aP hk,dt hk]
   exact⟨⟨_,rfl,rfl,rfl,rfl,rfl,rfl,rfl,rfl,rfl,rfl,rfl,rfl⟩,hs⟩
  ·rw[aO hk,df hk,cK,ctQ,ctQ]
   have hlt:=Zv hs.wf;unfold zqr;simp only[<- zGo hk]
   have go:∀{r2:List ar},zio r.tail r2->r2.length<n/\n<=K:=λh=>⟨by have:=h.le;omega,ab⟩
   cases e1:isB xJ r with
   |true =>
    simp only[if_true,ctQ,zP]
    refine(VM a0 p.aF.length 60 hk).bindP λu r1 h1 hs1=>?_
    obtain⟨rfl,hl⟩:=Hf h1
    refine(zGg (yq rfl rfl hs1:At { zb b (qT b.l p h r n0 n1 n2 n3 n4 n5)with l:=b.l,i:=zU b.l r.tail } r.tail) m0 (show p.aF.length<=1000 by omega)).bindP λd r2 y h2 hs2 hy=>?_
    obtain⟨y1,y2,y3⟩:=y;obtain⟨rfl,rfl,hy⟩:=hy;have g:=go (zPp hs1.wf _ _ h2);exact ih r2 { p with aF:=p.aF++[d] } h y3 n1 n2 n3 n4 n5 K hs2 g.1 g.2 (by rw[bU];exact hy) m1 m2 m3 m4 m5
   |false =>
   simp only[aO (show ¬(bd=bg) by simp),cf]
   cases e2:isB ym r with
   |true =>
    simp only[if_true,ctQ,zP]
    refine(VM a0 p.Tables.length 60 hk).bindP λu r1 h1 hs1=>?_
    obtain⟨rfl,hl⟩:=Hf h1
    refine(zL9 (yq rfl rfl hs1:At { zb b (qT b.l p h r n0 n1 n2 n3 n4 n5)with l:=b.l,i:=zU b.l r.tail } r.tail) m1 (show p.Tables.length<=1000 by omega)).bindP λd r2 y h2 hs2 hy=>?_
    obtain⟨y1,y2,y3⟩:=y;obtain⟨rfl,rfl,hy⟩:=hy;have g:=go (zw5 hs1.wf _ _ h2);exact ih r2 { p with Tables:=p.Tables++[d] } h n0 y3 n2 n3 n4 n5 K hs2 g.1 g.2 m0 (by rw[bU];exact hy) m2 m3 m4 m5
   |false =>
   simp only[aO (show ¬(bd=bg) by simp),cf]
   cases e3:isB yR r with
   |true =>
    simp only[if_true,ctQ,zP]
    have ho:isB yr r=bd:=by
     rw[zGo hk]at e3 ⊢;rw[aY e3];rfl
    rw[a0.is,ho,bsQ,bsQ]
    refine(VM a0 p.aB.length 60 hk).bindP λu r1 h1 hs1=>?_
    obtain⟨rfl,hl⟩:=Hf h1;unfold zff;simp only[zP]
    refine(zGc (yq rfl rfl hs1:At { zb b (qT b.l p h r n0 n1 n2 n3 n4 n5)with l:=b.l,i:=zU b.l r.tail } r.tail) m2).bindP λs r2 y h2 hs2 hy=>?_
    obtain⟨y1,y2,y3⟩:=y;obtain⟨rfl,rfl,hy⟩:=hy;have q2:=ud hs1.wf _ _ h2
    refine(zfe (yq rfl rfl hs2:At { zb b (qT b.l p h r n0 n1 n2 n3 n4 n5)with l:=b.l,i:=zU b.l r2,n2:=y3 } r2)).bindP λc r3 h3 hs3=>?_
    have q3:=q2.trans (Jc _ _ _ hs2.wf _ _ h3);dsimp only;rw[ze2,bsQ,bsQ]
    refine(zqo (yq rfl rfl hs3:At { zb b (qT b.l p h r n0 n1 n2 n3 n4 n5)with l:=b.l,i:=zU b.l r3,n2:=y3 } r3) _ _).bindP λu r4 h4 hs4=>?_
    have g:=go (q3.trans (zfh hs3.wf _ _ h4));rw[zB (by show(p.aB++_).length*48<=_;simp only[laQ,lc,bI];omega),bsQ,bsQ];exact ih r4 { p with aB:=p.aB++[yt.mk y1 bd c] } h n0 n1 y3 n3 n4 n5 K hs4 g.1 g.2 m0 m1 (by rw[bU];exact hy) m3 m4 m5
   |false =>
   simp only[aO (show ¬(bd=bg) by simp),cf]
   cases e4:isB yr r with
   |true =>
    simp only[if_true,ctQ,zP];rw[a0.is,e4,bsQ,bsQ]
    refine(VM a0 p.aB.length 60 hk).bindP λu r1 h1 hs1=>?_
    obtain⟨rfl,hl⟩:=Hf h1;unfold zff;simp only[zP]
    refine(zGc (yq rfl rfl hs1:At { zb b (qT b.l p h r n0 n1 n2 n3 n4 n5)with l:=b.l,i:=zU b.l r.tail } r.tail) m2).bindP λs r2 y h2 hs2 hy=>?_
    obtain⟨y1,y2,y3⟩:=y;obtain⟨rfl,rfl,hy⟩:=hy;have q2:=ud hs1.wf _ _ h2
    refine(zfe (yq rfl rfl hs2:At { zb b (qT b.l p h r n0 n1 n2 n3 n4 n5)with l:=b.l,i:=zU b.l r2,n2:=y3 } r2)).bindP λc r3 h3 hs3=>?_
    have q3:=q2.trans (Jc _ _ _ hs2.wf _ _ h3);dsimp only;rw[ze2,bsQ,bsQ]
    refine(zqo (yq rfl rfl hs3:At { zb b (qT b.l p h r n0 n1 n2 n3 n4 n5)with l:=b.l,i:=zU b.l r3,n2:=y3 } r3) _ _).bindP λu r4 h4 hs4=>?_
    have g:=go (q3.trans (zfh hs3.wf _ _ h4));rw[zB (by show(p.aB++_).length*48<=_;simp only[laQ,lc,bI];omega),bsQ,bsQ];exact ih r4 { p with aB:=p.aB++[yt.mk y1 bg c] } h n0 n1 y3 n3 n4 n5 K hs4 g.1 g.2 m0 m1 (by rw[bU];exact hy) m3 m4 m5
   |false =>
   simp only[aO (show ¬(bd=bg) by simp),cf]
   cases e5:isB jN r with
   |true =>
    simp only[if_true,ctQ,zP]
    refine(VM a0 p.aE.length 200 hk).bindP λu r1 h1 hs1=>?_
    obtain⟨rfl,hl⟩:=Hf h1
    refine(zUm (yq rfl rfl hs1:At { zb b (qT b.l p h r n0 n1 n2 n3 n4 n5)with l:=b.l,i:=zU b.l r.tail } r.tail) m3 (show p.aE.length<=1000 by omega)).bindP λd r2 y h2 hs2 hy=>?_
    obtain⟨y1,y2,y3⟩:=y;obtain⟨rfl,rfl,hy⟩:=hy;have g:=go (zGn hs1.wf _ _ h2);exact ih r2 { p with aE:=p.aE++[d] } h n0 n1 n2 y3 n4 n5 K hs2 g.1 g.2 m0 m1 m2 (by rw[bU];exact hy) m4 m5
   |false =>
   simp only[aO (show ¬(bd=bg) by simp),cf]
   cases e6:isB Ko r with
   |true =>
    simp only[if_true,ctQ,zP]
    refine(VM a0 p.aJ.length 30 hk).bindP λu r1 h1 hs1=>?_
    obtain⟨rfl,hl⟩:=Hf h1;unfold zPl;simp only[zP]
    refine(zUf (yq rfl rfl hs1:At { zb b (qT b.l p h r n0 n1 n2 n3 n4 n5)with l:=b.l,i:=zU b.l r.tail } r.tail) m4).bindP λs r2 y h2 hs2 hy=>?_
    obtain⟨y1,y2,y3⟩:=y;obtain⟨rfl,rfl,hy⟩:=hy;have q2:=ud hs1.wf _ _ h2
    refine(Yy (yq rfl rfl hs2:At { zb b (qT b.l p h r n0 n1 n2 n3 n4 n5)with l:=b.l,i:=zU b.l r2,n4:=y3 } r2) ztx ae).bindP λk r3 h3 hs3=>?_
    have q3:=q2.trans (YC hs2.wf _ _ h3)
    refine((yq rfl rfl hs3:At { zb b (qT b.l p h r n0 n1 n2 n3 n4 n5)with l:=b.l,i:=zU b.l r3,n4:=y3 } r3).number 0 1099511627776).bindP λm r4 h4 hs4=>?_
    have q4:=q3.trans (qj hs3.wf _ _ h4)
    refine(zfe (yq rfl rfl hs4:At { zb b (qT b.l p h r n0 n1 n2 n3 n4 n5)with l:=b.l,i:=zU b.l r4,n4:=y3 } r4)).bindP λc r5 h5 hs5=>?_
    have q5:=q4.trans (Jc _ _ _ hs4.wf _ _ h5);dsimp only;rw[ze2,bsQ,bsQ]
    refine(zqo (yq rfl rfl hs5:At { zb b (qT b.l p h r n0 n1 n2 n3 n4 n5)with l:=b.l,i:=zU b.l r5,n4:=y3 } r5) _ _).bindP λu r6 h6 hs6=>?_
    have g:=go (q5.trans (zfh hs5.wf _ _ h6));rw[zB (by show(p.aJ++_).length*56<=_;simp only[laQ,lc,bI];omega),bsQ,bsQ];exact ih r6 { p with aJ:=p.aJ++[Cap.mk y1 k m c] } h n0 n1 n2 n3 y3 n5 K hs6 g.1 g.2 m0 m1 m2 m3 (by rw[bU];exact hy) m5
   |false =>
   simp only[aO (show ¬(bd=bg) by simp),cf]
   cases e7:isB ql r with
   |true =>
    simp only[if_true,ctQ,zP]
    refine(VM a0 p.aG.length 60 hk).bindP λu r1 h1 hs1=>?_
    obtain⟨rfl,hl⟩:=Hf h1
    refine(zUj (yq rfl rfl hs1:At { zb b (qT b.l p h r n0 n1 n2 n3 n4 n5)with l:=b.l,i:=zU b.l r.tail } r.tail) m5 (show p.aG.length<=1000 by omega)).bindP λd r2 y h2 hs2 hy=>?_
    obtain⟨y1,y2,y3⟩:=y;obtain⟨rfl,rfl,hy⟩:=hy;have g:=go (zGl hs1.wf _ _ h2);exact ih r2 { p with aG:=p.aG++[d] } h n0 n1 n2 n3 n4 y3 K hs2 g.1 g.2 m0 m1 m2 m3 m4 (by rw[bU];exact hy)
   |false =>
   simp only[aO (show ¬(bd=bg) by simp),cf]
   cases e8:isB Af r with
   |true =>
    simp only[if_true,ctQ,zP];have hst:=hs.tail hk
    refine(a0.check (decide (p.aK.length=0)) 5).bindP λu r1 h1 hs1=>?_
    obtain⟨rfl,hl⟩:=qS h1;rw[a0.step]
    refine(z0j (b:={ zb b (qT b.l p h r1 n0 n1 n2 n3 n4 n5)with l:=b.l,i:=zU b.l r1.tail }) (yq rfl rfl hst)).bindP λs r2 h2 hs2=>?_
    have g:=go (zGk hst.wf _ _ h2);exact ih r2 { p with aK:=s } h n0 n1 n2 n3 n4 n5 K hs2 g.1 g.2 m0 m1 m2 m3 m4 m5
   |false =>
   simp only[aO (show ¬(bd=bg) by simp),cf]
   cases e9:isB vA r with
   |true =>
    simp only[if_true,ctQ,zP];have hst:=hs.tail hk
    refine(a0.check (!h) 5).bindP λu r1 h1 hs1=>?_
    obtain⟨rfl,hl⟩:=qS h1;rw[a0.step]
    refine((yq rfl rfl hst:At { zb b (qT b.l p h r1 n0 n1 n2 n3 n4 n5)with l:=b.l,i:=zU b.l r1.tail } r1.tail).number 0 24).bindP λm r2 h2 hs2=>?_
    have q2:=qj hst.wf _ _ h2
    refine((yq rfl rfl hs2:At { zb b (qT b.l p h r1 n0 n1 n2 n3 n4 n5)with l:=b.l,i:=zU b.l r2,H:=m,h:=bg } r2).want yc).bindP λu r3 h3 hs3=>?_
    have g:=go (q2.trans (kl hs2.wf _ _ h3));exact ih r3 { p with aI:=m } bg n0 n1 n2 n3 n4 n5 K hs3 g.1 g.2 m0 m1 m2 m3 m4 m5
   |false =>
   simp only[aO (show ¬(bd=bg) by simp),cf];refine⟨rfl,?_⟩;unfold HJ;rw[a0.next];rfl
end
structure Stop(r:List ar):Prop where
 wf:TWF r
 num:Kq r=bd
 nam:zfv r=bd
 op:opR r=bh
 comma:isB kP r=bd
 use:H7 (hdT r).Text USE=bh
def zGp{p:Int}{r:List ar}(h:TWF r):Stop (tk (sgQ yc) p::r):=⟨jS (a:=sgQ yc) rfl h,rfl,rfl,rfl,by rw[zE];decide,rfl⟩
def zMd(p:Nat):Stop [K4 p]:=⟨rfl,rfl,rfl,rfl,rfl,rfl⟩
def zPq{w:ak}{p:Int}{r:List ar}(h:zN w=bd):zfv (tk (kwQ w) p::r)=bd:=by rw[<- h];exact cr _
def J4{w:ak}{p:Int}{r:List ar}(hw:Kp w=bg)(h1:zN w=bd)(h2:OPS.find? (λo=>decide (w=o.text))=bh)(h3:H7 w USE=bh)(h4:w≠kP)(h:TWF r):Stop (tk (kwQ w) p::r) :=
 ⟨jS (zFg hw) h,rfl,zPq h1,h2,by rw[zE];exact(cr _).trans (df h4),h3⟩
def zGq(d:Decl){p:Int}{r:List ar}(h:TWF r):Stop (tk (kwQ (jJ d)) p::r):=by
 cases d with
 |z x =>
  cases hx:x.Overlay<;>simp only[jJ,hx]
  ·exact J4 (w:=yR) rfl ah ah rfl ae h
  ·exact J4 (w:=yr) rfl ah ah rfl ae h
 |d x=>exact J4 (w:=xJ) rfl ah ah rfl ae h
 |t x=>exact J4 (w:=ym) rfl ah ah rfl ae h
 |r x=>exact J4 (w:=jN) rfl ah ah rfl ae h
 |c x=>exact J4 (w:=Ko) rfl ah ah rfl ae h
 |v x=>exact J4 (w:=ql) rfl ah ah rfl ae h
 |s x=>exact J4 (w:=Af) rfl ah ah rfl ae h
 |h x=>exact J4 (w:=vA) rfl ah ah rfl ae h
def J5{s:ak}{L:List ak}{p:Int}{r:List ar}(h:zN s=bg)(hL:s ∉ L):wR L (tk (kwQ s) p::r)=.ok (s,r):=by
 unfold wR;rw[aP (zwv h),aO (show ¬(hdT (tk (kwQ s) p::r)).Text∈L from hL)];rfl
def zUo{n p:Int}{w:ak}{r:List ar}(h:w.all xi=bd):isB w (tk (wa n) p::r)=bd:=by
 rw[zE];exact(cr _).trans (df (AJ h))
def zw6{most n:Int}{l r:List ar}(h0:0-most<=n)(h1:n<=most)(hl:l.map t3=zzt n):ja most (l++r)=.ok (n,r):=by
 unfold zzt at hl;split at hl
 ·obtain⟨p,l1,rfl,e1⟩:=map_cons hl
  obtain⟨q,l2,rfl,e2⟩:=map_cons e1;obtain rfl:=map_nil e2;unfold ja
  show(if isB xa (tk (sgQ xa) p::tk (wa (0-n)) q::r)=bg then thn (qk 0 most (tk (wa (0-n)) q::r)) _ else _)=_
  rw[aP (show isB xa (tk (sgQ xa) p::tk (wa (0-n)) q::r)=bg by rw[zE];decide)];rw[qm ab ab]
  show Except.ok (0-(0-n),r)=_
  rw[show 0-(0-n)=n by omega]
 ·obtain⟨p,l1,rfl,e1⟩:=map_cons hl
  obtain rfl:=map_nil e1;unfold ja
  show(if isB xa (tk (wa n) p::r)=bg then _ else qk 0 most (tk (wa n) p::r))=_
  rw[zUo rfl,aO af,qm ab h1]
def zb6{e:Int}{r:List ar}:ztw bg e r=wb yc r:=by
 unfold ztw wb;cases isB yc r<;>rfl
def zma:∀(ps:List zV)(n:Nat)(acc:List zV)(l r:List ar),ps≠[]->ps.length<=n->(∀p∈ps,(0<=p.X/\p.X<=1048576)/\(0<=p.Y/\p.Y<=1048576))->l.map t3=ps.flatMap ptQ->Kq r=bd->qi n acc (l++r)=.ok (acc++ps,r)
 |[],_,_,_,_,h,_,_,_,_=>aU rfl h
 |p::ps,0,_,_,_,_,h,_,_,_=>by simp at h
 |p::ps,n+1,acc,l,r,_,hn,hb,hl,hr=>by
  obtain⟨⟨x0,x1⟩,y0,y1⟩:=hb p al;rw[bO]at hl;obtain⟨a,l1,rfl,e1⟩:=map_cons (show l.map t3=wa p.X::(wa p.Y::ps.flatMap ptQ) from hl);obtain⟨b,l2,rfl,e2⟩:=map_cons e1;rw[qi]
  show thn (qk 0 1048576 (tk (wa p.X) a::(tk (wa p.Y) b::(l2++r)))) _=_
  rw[qm x0 x1]
  show thn (qk 0 1048576 (tk (wa p.Y) b::(l2++r))) _=_
  rw[qm y0 y1]
  show(if Kq (l2++r)=bg then qi n (acc++[p]) (l2++r)else .ok (acc++[p],l2++r))=_
  cases ps with
  |nil =>
   obtain rfl:=map_nil e2;rw[bN,hr,aO af]
  |cons q ps =>
   have hk:Kq (l2++r)=bg:=by
    rw[bO]at e2;obtain⟨c,l3,rfl,_⟩:=map_cons (show l2.map t3=wa q.X::(wa q.Y::ps.flatMap ptQ) from e2);rfl
   rw[aP hk,zma (q::ps) n (acc++[p]) l2 r af (by simpa using hn) (λx hx=>hb x (mcQ _ hx)) e2 hr,asc];rfl
def zmb{p:zg}(h:Yl p){l r:List ar}(hl:l.map t3=zT5 p):Jb (l++r)=.ok (p,r):=by
 obtain⟨⟨x0,x1⟩,⟨y0,y1⟩,z0,z1⟩:=h;obtain⟨a,l1,rfl,e1⟩:=map_cons (show l.map t3=[wa p.X,wa p.Y,wa p.Z_] from hl);obtain⟨b,l2,rfl,e2⟩:=map_cons e1;obtain⟨c,l3,rfl,e3⟩:=map_cons e2;obtain rfl:=map_nil e3;unfold Jb
 show thn (qk 0 1048576 (tk (wa p.X) a::(tk (wa p.Y) b::(tk (wa p.Z_) c::r)))) _=_
 rw[qm x0 x1]
 show thn (qk 0 1048576 (tk (wa p.Y) b::(tk (wa p.Z_) c::r))) _=_
 rw[qm y0 y1]
 show thn (qk 0 4096 (tk (wa p.Z_) c::r)) _=_
 rw[qm z0 z1];rfl
def zw7:∀(ps:List zg)(n:Nat)(acc:List zg)(l r:List ar),ps.length<n->acc.length+ps.length<=20->(∀p∈ps,Yl p)->l.map t3=ps.flatMap zT5->Kq r=bd->zz9 n acc (l++r)=.ok (acc++ps,r)
 |_,0,_,_,_,h,_,_,_,_=>aU h (ee _)
 |[],n+1,acc,l,r,_,_,_,hl,hr=>by
  obtain rfl:=map_nil hl;rw[zz9,bN,hr,aO af,bE]
 |p::ps,n+1,acc,l,r,hn,hm,hb,hl,hr=>by
  rw[bO]at hl;obtain⟨l1,l2,rfl,e1,e2⟩:=wh hl;simp only[lc]at hn hm
  have hk:Kq (l1++l2++r)=bg:=by
   obtain⟨a,l3,rfl,_⟩:=map_cons (show l1.map t3=[wa p.X,wa p.Y,wa p.Z_] from e1);rfl
  rw[zz9,aP hk];unfold Ki;rw[aP (dt (show acc.length<20 by omega)),asc]
  show thn (Jb (l1++(l2++r))) _=_
  rw[zmb (hb p al) e1]
  show zz9 n (acc++[p]) (l2++r)=_
  rw[zw7 ps n (acc++[p]) l2 r ab (by simp only[laQ,lc,bI];omega) (λx hx=>hb x (mcQ _ hx)) e2 hr,asc];rfl
def V1:∀(es:List aw)(n:Nat)(acc:List aw)(l r:List ar),es.length<n->acc.length+es.length<=60->(∀x∈es,zN x.aL=bg/\-1099511627776<=x.N/\x.N<=1099511627776)->((acc++es).map aw.aL).Nodup->l.map t3=es.flatMap zZ6->zfv r=bd->ZI n acc (l++r)=.ok (acc++es,r)
 |_,0,_,_,_,h,_,_,_,_,_=>aU h (ee _)
 |[],n+1,acc,l,r,_,_,_,_,hl,hr=>by
  obtain rfl:=map_nil hl;rw[ZI,bN,hr,aO af,bE]
 |x::es,n+1,acc,l,r,hn,hm,hb,hd,hl,hr=>by
  rw[bO]at hl;obtain⟨a,l1,rfl,e1⟩:=map_cons (show l.map t3=kwQ x.aL::(zzt x.N++es.flatMap zZ6) from hl);obtain⟨l2,l3,rfl,e2,e3⟩:=wh e1;simp only[lc]at hn hm;obtain⟨b1,b2,b3⟩:=hb x al
  have hx:x.aL ∉ acc.map aw.aL:=λh=>by
   rw[bU,cu]at hd;exact hd.2.2 _ h _ af rfl
  show ZI (n+1) acc (tk (kwQ x.aL) a::(l2++l3++r))=_
  rw[ZI,aP (zwv b1)];unfold Ki;rw[aP (dt (show acc.length<60 by omega)),asc]
  show thn (wR (acc.map aw.aL) (tk (kwQ x.aL) a::(l2++(l3++r)))) _=_
  rw[J5 b1 hx]
  show thn (ja 1099511627776 (l2++(l3++r))) _=_
  rw[zw6 ab b3 e2]
  show ZI n (acc++[x]) (l3++r)=_
  rw[V1 es n (acc++[x]) l3 r ab (by simp only[laQ,lc,bI];omega) (λy hy=>hb y (mcQ _ hy)) (by rw[asc];exact hd) e3 hr,asc];rfl
def zqs:∀(zs:List ak)(n:Nat)(acc:List ak)(l r:List ar),zs.length<n->zs.all zN=bg->l.map t3=zs.map kwQ->zfv r=bd->ZG n acc (l++r)=.ok (acc++zs,r)
 |_,0,_,_,_,h,_,_,_=>aU h (ee _)
 |[],n+1,acc,l,r,_,_,hl,hr=>by
  obtain rfl:=map_nil hl;rw[ZG,bN,hr,aO af,bE]
 |z::zs,n+1,acc,l,r,hn,hb,hl,hr=>by
  obtain⟨a,l1,rfl,e1⟩:=map_cons (show l.map t3=kwQ z::zs.map kwQ from hl);rw[cO,bn]at hb;simp only[lc]at hn
  show ZG (n+1) acc (tk (kwQ z) a::(l1++r))=_
  rw[ZG,aP (zwv hb.1),ZC hb.1]
  show ZG n (acc++[z]) (l1++r)=_
  rw[zqs zs n (acc++[z]) l1 r ab hb.2 e1 hr,asc];rfl
def zGr{z:ak}{zs:List ak}{l r:List ar}(hb:(z::zs).all zN=bg)(hl:l.map t3=(z::zs).map kwQ)(hr:zfv r=bd):Yw (l++r)=.ok (z::zs,r):=by
 obtain⟨a,l1,rfl,e1⟩:=map_cons (show l.map t3=kwQ z::zs.map kwQ from hl);rw[cO,bn]at hb;unfold Yw
 show thn (oq (tk (kwQ z) a::(l1++r))) _=_
 rw[ZC hb.1]
 show ZG ((l1++r).length+1) [z] (l1++r)=_
 have hlen:=aQ bf e1;rw[bJ,bJ]at hlen;exact zqs zs _ [z] l1 r (by rw[laQ];omega) hb.2 e1 hr
def VN{w:List ak}{i:Nat}{p:Int}{r:List ar}(h:H7 (w.getD i []) w=bc i):kj w (tk (kwQ (w.getD i [])) p::r)=.ok ((i:Int),r):=by
 unfold kj;rw[aP (show(hdT (tk (kwQ (w.getD i [])) p::r)).aM=0 from rfl),show(hdT (tk (kwQ (w.getD i [])) p::r)).Text=w.getD i [] from rfl,h];rfl
def zmc:∀i<6,H7 (ow.getD i []) ow=bc i:=ah
def zGs:∀i<3,H7 (J0.getD i []) J0=bc i:=ah
def orB(s:Nat)(is:List Nat):Nat:=is.foldl (λs i=>s ||| 2 ^ i) s
def zw8:∀(is:List Nat)(n s:Nat)(l r:List ar),is.length<n->(∀i∈is,i<6/\dH s i=bd)->is.Nodup->(0<s∨is≠[])->l.map t3=is.map (λi=>kwQ (ow.getD i []))->H7 (hdT r).Text USE=bh->zty n s (l++r)=.ok (orB s is,r)
 |_,0,_,_,_,h,_,_,_,_,_=>aU h (ee _)
 |[],n+1,s,l,r,_,_,_,h0,hl,hr=>by
  obtain rfl:=map_nil hl
  have hs:0<s:=by
   rcases h0 with h|h
   ·exact h
   ·exact aU rfl h
  rw[zty,bN,hr];dsimp only;rw[aP hs];rfl
 |i::is,n+1,s,l,r,hn,hb,hd,_,hl,hr=>by
  obtain⟨a,l1,rfl,e1⟩:=map_cons (show l.map t3=kwQ (ow.getD i [])::is.map (λi=>kwQ (ow.getD i [])) from hl);obtain⟨b1,b2⟩:=hb i al;obtain⟨d1,d2⟩:=cA.1 hd;simp only[lc]at hn
  show zty (n+1) s (tk (kwQ (ow.getD i [])) a::(l1++r))=_
  rw[zty,show H7 (hdT (tk (kwQ (ow.getD i [])) a::(l1++r))).Text USE=bc i from zmc i b1];dsimp only;rw[aO (show ¬(0<s/\(hdT (tk (kwQ (ow.getD i [])) a::(l1++r))).aM≠0) from λh=>h.2 rfl),b2,aO af,aP (show(hdT (tk (kwQ (ow.getD i [])) a::(l1++r))).aM=0 from rfl)]
  show zty n (s ||| 2 ^ i) (l1++r)=_
  refine(zw8 is n (s ||| 2 ^ i) l1 r ab (λj hj=>?_) d2 (.inl ?_) e1 hr).trans rfl
  ·obtain⟨c1,c2⟩:=hb j (mcQ _ hj)
   refine⟨c1,?_⟩
   have hne:i≠j:=λe=>d1 (e▸hj)
   rw[Nat.testBit_or,c2,Nat.testBit_two_pow_of_ne hne];rfl
  ·have:2 ^ i<=s ||| 2 ^ i:=Nat.right_le_or
   have:=lj i;omega
def zMe:∀u<64,orB 0 ((cL 6).filter (dH u))=u:=ah
def zMf:∀u<64,0<u->(cL 6).filter (dH u)≠[]:=ah
def zw9:∀(ps:List zg)(n:Nat)(acc:List zg)(l r:List ar)(p:zg),ps.length<n->acc.length+ps.length+1<=24->(∀q∈p::ps,zz7 q)->l.map t3=zHp p++ps.flatMap (λq=>sgQ kP::zHp q)->isB kP r=bd->zGd n acc (l++r)=.ok (acc++p::ps,r)
 |_,0,_,_,_,_,h,_,_,_,_=>aU h (ee _)
 |ps,n+1,acc,l,r,p,hn,hm,hb,hl,hr=>by
  obtain⟨⟨x0,x1⟩,⟨y0,y1⟩,z0,z1⟩:=hb p al;obtain⟨l0,l1,rfl,e0,e1⟩:=wh hl;obtain⟨lx,l2,rfl,ex,e2⟩:=wh (show l0.map t3=zzt p.X++(zzt p.Y++[wa p.Z_]) from e0);obtain⟨ly,l3,rfl,ey,e3⟩:=wh e2;obtain⟨c,l4,rfl,e4⟩:=map_cons e3;obtain rfl:=map_nil e4
  have hk:(isB xa (lx++(ly++(tk (wa p.Z_) c::(l1++r))))||Kq (lx++(ly++(tk (wa p.Z_) c::(l1++r)))))=bg:=by
   unfold zzt at ex;split at ex
   ·obtain⟨a,l5,rfl,_⟩:=map_cons ex
    rw[bP,zE];rfl
   ·obtain⟨a,l5,rfl,_⟩:=map_cons ex
    rw[Bool.or_eq_true];exact .inr rfl
  have ea:lx++(ly++[tk (wa p.Z_) c])++l1++r=lx++(ly++(tk (wa p.Z_) c::(l1++r))):=af
  rw[ea,zGd];unfold Ki;rw[hk,aP rfl]
  show thn (if decide (acc.length<24)=bg then _ else _) _=_
  rw[aP (dt (show acc.length<24 by omega))]
  show thn (ja 4096 (lx++(ly++(tk (wa p.Z_) c::(l1++r))))) _=_
  rw[zw6 ab x1 ex]
  show thn (ja 4096 (ly++(tk (wa p.Z_) c::(l1++r)))) _=_
  rw[zw6 ab y1 ey]
  show thn (qk 1 4096 (tk (wa p.Z_) c::(l1++r))) _=_
  rw[qm z0 z1]
  show(if isB kP (l1++r)=bg then zGd n (acc++[p]) (l1++r).tail else .ok (acc++[p],l1++r))=_
  cases ps with
  |nil =>
   obtain rfl:=map_nil e1;rw[bN,hr,aO af]
  |cons q ps =>
   rw[bO]at e1;obtain⟨d,l6,rfl,e6⟩:=map_cons (show l1.map t3=sgQ kP::(zHp q++ps.flatMap (λq=>sgQ kP::zHp q)) from e1);simp only[lc]at hn hm;rw[aP (by rw[bP,zE];decide)]
   show zGd n (acc++[p]) (l6++r)=_
   rw[zw9 ps n (acc++[p]) l6 r q ab (by simp only[laQ,lc,bI];omega) (λx hx=>hb x (mcQ _ hx)) e6 hr,asc];rfl
def ziz{α β:Type}{a:α}{r:List ar}{g:α->List ar->Except EE β}:thn (.ok (a,r)) g=g a r:=rfl
def HS(S:List ak)(x:List ar):Prop:=∃t p r,x=tk t p::r/\t.1≠1/\t.2.1∈S
def zi0{S:List ak}{x:List ar}{w:ak}(h:HS S x)(hw:w ∉ S):isB w x=bd:=by
 obtain⟨t,p,r,rfl,_,hm⟩:=h;rw[zE,fq];exact .inr (df λe=>hw (e▸hm))
def zPr{S:List ak}{x:List ar}(h:HS S x)(hS:S.all (λw=>!(zN w))=bg):zfv x=bd:=by
 obtain⟨t,p,r,rfl,_,hm⟩:=h;have:=bj.1 hS _ hm;unfold zfv;rw[fq];exact .inr (show zN t.2.1=bd by simpa using this)
def HS.mono{S S':List ak}{x:List ar}(h:HS S x)(hS:∀w∈S,w∈S'):HS S' x:=by
 obtain⟨t,p,r,e,h1,h2⟩:=h;exact⟨t,p,r,e,h1,hS _ h2⟩
def zMg{w:ak}{zs:List ak}{S:List ak}{l x:List ar}(hl:l.map t3=zao w zs)(hx:HS S x):HS (w::S) (l++x):=by
 unfold zao at hl
 cases he:zs.isEmpty with
 |true =>
  rw[he]at hl;obtain rfl:=map_nil hl
  exact hx.mono λv hv=>mcQ _ hv
 |false =>
  rw[he]at hl;obtain⟨p,l1,rfl,_⟩:=map_cons (show l.map t3=kwQ w::zs.map kwQ from hl);exact⟨kwQ w,p,_,rfl,(by decide:(0:Int)≠1),al⟩
def ztz{w:ak}{n:Int}{S:List ak}{l x:List ar}(hl:l.map t3=zl1 w n)(hx:HS S x):HS (w::S) (l++x):=by
 unfold zl1 at hl;split at hl
 ·obtain rfl:=map_nil hl
  exact hx.mono λv hv=>mcQ _ hv
 ·obtain⟨p,l1,rfl,_⟩:=map_cons hl
  exact⟨kwQ w,p,_,rfl,(by decide:(0:Int)≠1),al⟩
def zUp{b:Bool}{S:List ak}{l x:List ar}(hl:l.map t3=zLr b)(hx:HS S x):HS (wB::S) (l++x):=by
 cases b with
 |false =>
  obtain rfl:=map_nil hl
  exact hx.mono λv hv=>mcQ _ hv
 |true =>
  obtain⟨p,l1,rfl,_⟩:=map_cons (show l.map t3=[kwQ wB] from hl);exact⟨kwQ wB,p,_,rfl,(by decide:(0:Int)≠1),al⟩
def zqt{w:ak}{zs:List ak}{l x:List ar}(hb:zs.all zN=bg)(hl:l.map t3=zao w zs)(h1:isB w x=bd)(h2:zfv x=bd):zfg w [] Yw (l++x)=.ok (zs,x):=by
 unfold zao at hl
 cases zs with
 |nil =>
  obtain rfl:=map_nil hl;unfold zfg;rw[bN,h1,aO af]
 |cons z zs =>
  obtain⟨p,l1,rfl,e1⟩:=map_cons (show l.map t3=kwQ w::(z::zs).map kwQ from hl);unfold zfg;rw[aP (show isB w (tk (kwQ w) p::l1++x)=bg by rw[bP,zE];exact(cr _).trans (dt rfl))];exact zGr hb e1 h2
def zmd{w:ak}{n lo hi:Int}{l x:List ar}(hn:n≠0->lo<=n/\n<=hi)(hl:l.map t3=zl1 w n)(h1:isB w x=bd):zfg w 0 (qk lo hi) (l++x)=.ok (n,x):=by
 unfold zl1 at hl;split at hl
 ·rename_i h0
  obtain rfl:=map_nil hl;unfold zfg;rw[bN,h1,aO af,h0]
 ·rename_i h0
  obtain⟨p,l1,rfl,e1⟩:=map_cons hl;obtain⟨q,l2,rfl,e2⟩:=map_cons e1;obtain rfl:=map_nil e2;obtain⟨a,b⟩:=hn h0;unfold zfg;rw[aP (show isB w (tk (kwQ w) p::[tk (wa n) q]++x)=bg by rw[bP,zE];exact(cr _).trans (dt rfl))];exact qm a b
def zMh{b:Bool}{l x:List ar}(hl:l.map t3=zLr b)(h1:isB wB x=bd):isB wB (l++x)=b/\zAa wB (l++x)=x:=by
 cases b with
 |false =>
  obtain rfl:=map_nil hl;unfold zAa;rw[bN,h1,aO af];exact⟨rfl,rfl⟩
 |true =>
  obtain⟨p,l1,rfl,e1⟩:=map_cons (show l.map t3=[kwQ wB] from hl);obtain rfl:=map_nil e1
  have hb:isB wB ([tk (kwQ wB) p]++x)=bg:=by rw[bP,zE];decide
  unfold zAa;rw[hb,aP rfl];exact⟨rfl,rfl⟩
def zGt{d:Nat}{e:Expr}(h:OX d e):∀t ts,xH d e=t::ts->t.2.1≠qt/\t.2.1≠Ag/\t.2.1≠qs:=by
 have nm:∀{s:ak},zN s=bg->s≠qt/\s≠Ag/\s≠qs:=λh=>⟨ztm h ah,ztm h ah,ztm h ah⟩
 induction h with
 |@num d n h1 h2 =>
  intro t ts e;obtain⟨rfl,_⟩:=List.cons.inj (show[wa n]=t::ts from e);exact⟨AJ rfl,AJ rfl,AJ rfl⟩
 |@name d s h =>
  intro t ts e;obtain⟨rfl,_⟩:=List.cons.inj (show[kwQ s]=t::ts from e);exact nm h
 |@table d s k h1 h2 =>
  intro t ts e;obtain⟨rfl,_⟩:=List.cons.inj (show[kwQ ym,kwQ s,kwQ k]=t::ts from e);exact⟨ae,ae,ae⟩
 |@zone d s h =>
  intro t ts e;obtain⟨rfl,_⟩:=List.cons.inj (show[kwQ yR,kwQ s]=t::ts from e);exact⟨ae,ae,ae⟩
 |@neg d a _ _ =>
  intro t ts e;obtain⟨rfl,_⟩:=List.cons.inj (show sgQ xa::_=t::ts from e);exact⟨ae,ae,ae⟩
 |@not d a _ _ =>
  intro t ts e;obtain⟨rfl,_⟩:=List.cons.inj (show kwQ um::_=t::ts from e);exact⟨ae,ae,ae⟩
 |@cond d a b c _ _ _ _ _ _ =>
  intro t ts e;obtain⟨rfl,_⟩:=List.cons.inj (show kwQ WL::_=t::ts from e);exact⟨ae,ae,ae⟩
 |@bin d op a b hb ha _ ia _ =>
  intro t ts e;rw[Yn hb]at e;unfold Ym at e;by_cases hp:lvO a.Op<zls op
  ·rw[aP hp]at e
   obtain⟨rfl,_⟩:=List.cons.inj e;exact⟨ae,ae,ae⟩
  ·rw[aO hp]at e
   cases hq:xH d a with
   |nil=>exact aU hq (uL ha).1
   |cons u us =>
    rw[hq]at e;obtain⟨rfl,_⟩:=List.cons.inj e;exact ia _ _ hq
def z0p(r:zO):BD:=(r.aM,r.Test,r.zy,r.Uses,r.Other,r.N)
def zGu{x:zO}(hb:VE x){l r:List ar}(hl:l.map t3=zF5 x)(hr:Stop r):ZJ (l++r)=thn (wb yc r) λ_ r=>.ok (z0p x,r):=by
 obtain⟨nm,zs,ex,fr,un,gr,va,ki,te,pl,us,ot,n⟩:=x;obtain⟨⟨k0,k3⟩,b1,b2,b3,b4,b5,b6,b7,b8⟩:=hb;unfold zF5 at hl;unfold z0p;dsimp only at *;by_cases h0:ki=0
 ·subst h0
  rw[aP rfl]at hl;have ox:=zFf 12 _ (b1 rfl);obtain rfl:=b4 ae;obtain rfl:=b7 ae ae;obtain⟨rfl,rfl⟩:=b8 ae
  have no:∀w,(∀t ts,xH 12 te=t::ts->t.2.1≠w)->isB w (l++r)=bd:=λw hw=>by
   cases hq:xH 12 te with
   |nil=>exact aU hq (uL ox).1
   |cons t ts =>
    rw[hq]at hl;obtain⟨p,l1,rfl,_⟩:=map_cons hl;rw[bP,zE,fq];exact .inr (df (hw t ts hq))
  have hw:=zGt ox;unfold ZJ;rw[no qt (λt ts e=>(hw t ts e).1),no Ag (λt ts e=>(hw t ts e).2.1),no qs (λt ts e=>(hw t ts e).2.2),aO af,aO af,aO af];unfold zMb;rw[(zFm ox).1 0 l r ab (by rw[hl];exact zZp.symm) hr.wf (zFk hr.op)]
  show thn (ztw (decide (YJ te<=12)) 6 r) _=_
  rw[dt (zPc ox),zb6];rfl
 rw[aO h0]at hl;obtain rfl:=b2 h0;by_cases h1:ki=1
 ·subst h1
  rw[aP rfl]at hl;obtain⟨⟨n1,m1⟩,⟨n2,m2⟩,⟨n3,m3⟩,n4,m4⟩:=b3 rfl;obtain rfl:=b7 ae ae;obtain⟨rfl,rfl⟩:=b8 ae;obtain⟨sd,ba,nu,de⟩:=pl;dsimp only at *;obtain⟨p1,l1,rfl,e1⟩:=map_cons hl;obtain⟨p2,l2,rfl,e2⟩:=map_cons e1;obtain⟨p3,l3,rfl,e3⟩:=map_cons e2;obtain⟨p4,l4,rfl,e4⟩:=map_cons e3;obtain⟨p5,l5,rfl,e5⟩:=map_cons e4;obtain⟨p6,l6,rfl,e6⟩:=map_cons e5;obtain⟨p7,l7,rfl,e7⟩:=map_cons e6;obtain rfl:=map_nil e7;unfold ZJ;rw[aP (by rw[bP,zE];decide)];unfold zw3
  show thn (qk 0 3 (tk (wa sd) p2::tk (kwQ AX) p3::tk (wa ba) p4::tk (kwQ jH) p5::tk (wa nu) p6::tk (wa de) p7::r)) _=_
  rw[qm n1 m1,ziz,K9 (show isB AX (tk (kwQ AX) p3::tk (wa ba) p4::tk (kwQ jH) p5::tk (wa nu) p6::tk (wa de) p7::r)=bg by rw[zE];decide)]
  show thn (qk 0 4096 (tk (wa ba) p4::tk (kwQ jH) p5::tk (wa nu) p6::tk (wa de) p7::r)) _=_
  rw[qm n2 m2,ziz,K9 (show isB jH (tk (kwQ jH) p5::tk (wa nu) p6::tk (wa de) p7::r)=bg by rw[zE];decide)]
  show thn (qk 0 4096 (tk (wa nu) p6::tk (wa de) p7::r)) _=_
  rw[qm n3 m3]
  show thn (qk 1 4096 (tk (wa de) p7::r)) _=_
  rw[qm n4 m4];rfl
 rw[aO h1]at hl;obtain rfl:=b4 h1;by_cases h3:ki=3
 ·subst h3
  rw[aP rfl]at hl;obtain⟨⟨n1,m1⟩,⟨n2,m2⟩,n3,m3⟩:=b6 rfl;obtain⟨p1,l1,rfl,e1⟩:=map_cons hl;obtain⟨p2,l2,rfl,e2⟩:=map_cons e1;obtain⟨p3,l3,rfl,e3⟩:=map_cons e2;obtain⟨p4,l4,rfl,e4⟩:=map_cons e3;obtain rfl:=map_nil e4;unfold ZJ;rw[aO (by rw[bP,zE];decide),aO (by rw[bP,zE];decide),aP (by rw[bP,zE];decide)];unfold zw4
  show thn (kj ow (tk (kwQ (ow.getD us.toNat [])) p2::tk (kwQ (ow.getD ot.toNat [])) p3::tk (wa n) p4::r)) _=_
  rw[VN (zmc _ ab)]
  show thn (kj ow (tk (kwQ (ow.getD ot.toNat [])) p3::tk (wa n) p4::r)) _=_
  rw[VN (zmc _ ab)]
  show thn (qk 0 1048576 (tk (wa n) p4::r)) _=_
  rw[qm n3 m3]
  show thn (wb yc r) (λ_ r=>.ok ((3,ex0,pl0,((us.toNat:Nat):Int),((ot.toNat:Nat):Int),n),r))=_
  rw[dN n1,dN n2];rfl
 rw[aO h3]at hl
 obtain rfl:ki=2:=ab
 obtain⟨n1,m1⟩:=b5 rfl;obtain⟨rfl,rfl⟩:=b8 ae;obtain⟨p1,l1,rfl,e1⟩:=map_cons hl;unfold ZJ;rw[aO (by rw[bP,zE];decide),aP (by rw[bP,zE];decide)];unfold zMa
 show thn (zty ((l1++r).length+1) 0 (l1++r)) _=_
 have hlen:=aQ bf e1;unfold z1t at hlen;rw[bJ,bJ]at hlen;rw[zw8 _ _ 0 l1 r (by rw[laQ];omega) (λi hi=>⟨by simpa using(List.mem_filter.1 hi).1,Nat.zero_testBit i⟩) (List.nodup_range.filter _) (.inr (zMf _ ab ab)) e1 hr.use,zMe _ ab]
 show thn (wb yc r) (λ_ r=>.ok ((2,ex0,pl0,((us.toNat:Nat):Int),0,0),r))=_
 rw[dN ab];rfl
def zGv{x:zO}{L:List ak}(hn:zN x.aL=bg)(hL:x.aL ∉ L)(h:Yj x){l r:List ar}(hl:l.map t3=QR (.r x))(hr:Stop r):zl6 L (l++r)=thn (wb yc r) λ_ r=>.ok (x,r):=by
 obtain⟨⟨⟨z0,x0⟩,d1,d2,d3,d4⟩,hb⟩:=h;obtain⟨p,l1,rfl,e1⟩:=map_cons (show l.map t3=kwQ x.aL::zT6 x from hl);obtain⟨a1,m1,rfl,f1,g1⟩:=wh e1;obtain⟨a2,m2,rfl,f2,g2⟩:=wh g1;obtain⟨a3,m3,rfl,f3,g3⟩:=wh g2;obtain⟨a4,m4,rfl,f4,g4⟩:=wh g3;obtain⟨a5,m5,rfl,f5,g5⟩:=wh g4;obtain⟨a6,m6,rfl,f6,g6⟩:=wh g5;obtain⟨p7,a7,rfl,f7⟩:=map_cons g6
 have ea:tk (kwQ x.aL) p::(a1++(a2++(a3++(a4++(a5++(a6++tk (sgQ xQ) p7::a7))))))++r=tk (kwQ x.aL) p::(a1++(a2++(a3++(a4++(a5++(a6++(tk (sgQ xQ) p7::(a7++r)))))))):=af
 rw[ea]
 have s7:HS [xQ] (tk (sgQ xQ) p7::(a7++r)):=⟨sgQ xQ,p7,_,rfl,(by decide:(2:Int)≠1),al⟩
 have s6:=zUp f6 s7;have s5:=ztz f5 s6;have s4:=ztz f4 s5;have s3:=ztz f3 s4;have s2:=zMg f2 s3;unfold zl6;rw[J5 hn hL]
 show thn (zfg zft [] Yw (a1++_)) _=_
 rw[zqt z0 f1 (zi0 s2 ah) (zPr s2 ah)]
 show thn (zfg xe [] Yw (a2++_)) _=_
 rw[zqt x0 f2 (zi0 s3 ah) (zPr s3 ah)]
 show thn (zfg vE 0 (qk 0 1073741824) (a3++_)) _=_
 rw[zmd (λ_=>d1) f3 (zi0 s4 ah)]
 show thn (zfg xK 0 (qk (x.From+1) 1073741824) (a4++_)) _=_
 rw[zmd (λh=>⟨ab,d3.2⟩) f4 (zi0 s5 ah)]
 show thn (zfg xW 0 (qk 0 1073741824) (a5++_)) _=_
 rw[zmd (λ_=>d2) f5 (zi0 s6 ah)];obtain⟨v1,v2⟩:=zMh f6 (zi0 s7 ah)
 show thn (wb xQ (zAa wB (a6++(tk (sgQ xQ) p7::(a7++r))))) (λ_ r2=>thn (ZJ r2) λb r3=>.ok (zO.mk x.aL x.aB x.Except x.From x.Until x.Grace (isB wB (a6++(tk (sgQ xQ) p7::(a7++r)))) b.1 b.2.1 b.2.2.1 b.2.2.2.1 b.2.2.2.2.1 b.2.2.2.2.2,r3))=_
 rw[v1,v2,K9 (by rw[zE];decide)]
 show thn (ZJ (a7++r)) _=_
 rw[zGu hb f7 hr,zP];rfl
def zGw(p:yZ)(h:Bool):Decl->yZ×Bool
 |.d x=>({ p with aF:=p.aF++[x] },h)
 |.t x=>({ p with Tables:=p.Tables++[x] },h)
 |.z x=>({ p with aB:=p.aB++[x] },h)
 |.r x=>({ p with aE:=p.aE++[x] },h)
 |.c x=>({ p with aJ:=p.aJ++[x] },h)
 |.v x=>({ p with aG:=p.aG++[x] },h)
 |.s x=>({ p with aK:=x },h)
 |.h x=>({ p with aI:=x },bg)
def zPs(p:yZ)(h:Bool):Decl->Prop
 |.d x=>x.aL ∉ p.aF.map Def.aL/\p.aF.length<60
 |.t x=>x.aL ∉ p.Tables.map au.aL/\p.Tables.length<60
 |.z x=>x.aL ∉ p.aB.map yt.aL/\p.aB.length<60
 |.r x=>x.aL ∉ p.aE.map zO.aL/\p.aE.length<200
 |.c x=>x.aL ∉ p.aJ.map Cap.aL/\p.aJ.length<30
 |.v x=>x.aL ∉ p.aG.map av.aL/\p.aG.length<60
 |.s _=>p.aK=[]
 |.h _=>h=bd
def VO{n m:Nat}{t:ar}{r:List ar}(h:n<m):YD n m (t::r)=.ok ((),r):=by
 unfold YD Ki;rw[aP (dt h)];rfl
def Hg{α β:Type}{r:List ar}{w:ak}{a:α}{g:α->List ar->Except EE β}:thn (thn (wb w r) λ_ r=>.ok (a,r)) g=thn (wb w r) λ_ r=>g a r:=by
 rw[zP];rfl
def VP:∀(l seen:List ak),AD bg seen l=bg->l.Nodup/\∀s∈l,s ∉ seen
 |[],_,_=>⟨List.nodup_nil,λ_ h=>by cases h⟩
 |s::l,seen,h=>by
  rw[AD]at h;simp only[bn,cr,Bool.not_eq_true',aX]at h;obtain⟨_,h2,h3⟩:=h;obtain⟨i1,i2⟩:=VP l (seen++[s]) h3;refine⟨cA.2 ⟨λhm=>i2 s hm af,i1⟩,λx hx=>?_⟩
  rcases bq.1 hx with rfl|hx
  ·exact h2
  ·exact λhm=>i2 x hx (List.mem_append_left _ hm)
def zxa{l:List zV}(h:Hs l):l≠[]:=λe=>by
 have:=h.1.1;rw[e]at this;simp at this
def J6{α β:Type}{f:α->List β}{k:Nat}(h:∀x,k<=(f x).length):∀l:List α,l.length*k<=(l.flatMap f).length
 |[]=>af
 |x::l=>by
  have:=h x;have:=J6 h l;rw[bO,laQ,lc,Nat.add_mul];omega
def zMi{x:Def}{L:List ak}(hn:zN x.aL=bg)(hL:x.aL ∉ L)(h:OX 12 x.Body){l r:List ar}(hl:l.map t3=QR (.d x))(hr:Stop r):zL8 L (l++r)=thn (wb yc r) λ_ r=>.ok (x,r):=by
 obtain⟨p,l1,rfl,e1⟩:=map_cons (show l.map t3=kwQ x.aL::(sgQ AQ::xH 12 x.Body) from hl);obtain⟨q,l2,rfl,e2⟩:=map_cons e1;unfold zL8
 show thn (wR L (tk (kwQ x.aL) p::tk (sgQ AQ) q::(l2++r))) _=_
 rw[J5 hn hL,ziz,K9 (show isB AQ (tk (sgQ AQ) q::(l2++r))=bg by rw[zE];decide)]
 show thn (DE 0 (l2++r)) _=_
 rw[(zFm h).1 0 l2 r ab (by rw[e2];exact zZp.symm) hr.wf (zFk hr.op)]
 show thn (ztw (decide (YJ x.Body<=12)) 6 r) _=_
 rw[dt (zPc h),zb6]
def zGx{x:yt}{L:List ak}(hn:zN x.aL=bg)(hL:x.aL ∉ L)(h:Hs x.aA){l r:List ar}(hl:l.map t3=QR (.z x))(hr:Stop r):zff L x.Overlay (l++r)=thn (wb yc r) λ_ r=>.ok (x,r):=by
 obtain⟨p,l1,rfl,e1⟩:=map_cons (show l.map t3=kwQ x.aL::x.aA.flatMap ptQ from hl);unfold zff
 show thn (wR L (tk (kwQ x.aL) p::(l1++r))) _=_
 rw[J5 hn hL]
 show thn (qi ((l1++r).length+1) [] (l1++r)) _=_
 have hlen:=aQ bf e1;have:=J6 (f:=ptQ) (k:=2) (λ_=>dj 2) x.aA;rw[bJ]at hlen;rw[zma x.aA _ [] l1 r (zxa h) (by rw[laQ];omega) (ZD h) e1 hr.num]
 show thn (ztw (pd (Hs x.aA)) 10 r) _=_
 rw[zlq h,zb6];rfl
def zMj{x:Cap}{L:List ak}(hn:zN x.aL=bg)(hL:x.aL ∉ L)(h:zLb x){l r:List ar}(hl:l.map t3=QR (.c x))(hr:Stop r):zPl L (l++r)=thn (wb yc r) λ_ r=>.ok (x,r):=by
 obtain⟨⟨c0,c1⟩,⟨n0,n1⟩,hp⟩:=h;obtain⟨p,l1,rfl,e1⟩:=map_cons (show l.map t3=kwQ x.aL::kwQ (J0.getD x.Load.toNat [])::wa x.Limit::x.aA.flatMap ptQ from hl);obtain⟨p2,l2,rfl,e2⟩:=map_cons e1;obtain⟨p3,l3,rfl,e3⟩:=map_cons e2;unfold zPl
 show thn (wR L (tk (kwQ x.aL) p::tk (kwQ (J0.getD x.Load.toNat [])) p2::tk (wa x.Limit) p3::(l3++r))) _=_
 rw[J5 hn hL]
 show thn (kj J0 (tk (kwQ (J0.getD x.Load.toNat [])) p2::tk (wa x.Limit) p3::(l3++r))) _=_
 rw[VN (zGs _ ab)]
 show thn (qk 0 1099511627776 (tk (wa x.Limit) p3::(l3++r))) _=_
 rw[qm n0 n1]
 show thn (qi ((l3++r).length+1) [] (l3++r)) _=_
 have hlen:=aQ bf e3;have:=J6 (f:=ptQ) (k:=2) (λ_=>dj 2) x.aA;rw[bJ]at hlen;rw[zma x.aA _ [] l3 r (zxa hp) (by rw[laQ];omega) (ZD hp) e3 hr.num]
 show thn (ztw (pd (Hs x.aA)) 10 r) (λ_ r=>.ok (Cap.mk x.aL ((x.Load.toNat:Nat):Int) x.Limit x.aA,r))=_
 rw[zlq hp,zb6,dN c0]
def zGy{x:av}{L:List ak}(hn:zN x.aL=bg)(hL:x.aL ∉ L)(h:Zz x){l r:List ar}(hl:l.map t3=QR (.v x))(hr:Stop r):zl5 L (l++r)=thn (wb yc r) λ_ r=>.ok (x,r):=by
 obtain⟨⟨n0,n1⟩,⟨t0,t1⟩,he,ht⟩:=h;obtain⟨p,l1,rfl,e1⟩:=map_cons (show l.map t3=kwQ x.aL::(zT5 x.Eye++(kwQ vO::wa x.Least::sgQ xQ::x.Targets.flatMap zT5)) from hl);obtain⟨l2,l3,rfl,e2,e3⟩:=wh e1;obtain⟨p3,l4,rfl,e4⟩:=map_cons e3;obtain⟨p4,l5,rfl,e5⟩:=map_cons e4;obtain⟨p5,l6,rfl,e6⟩:=map_cons e5
 have ea:tk (kwQ x.aL) p::(l2++tk (kwQ vO) p3::tk (wa x.Least) p4::tk (sgQ xQ) p5::l6)++r=tk (kwQ x.aL) p::(l2++(tk (kwQ vO) p3::tk (wa x.Least) p4::tk (sgQ xQ) p5::(l6++r))):=af
 rw[ea];unfold zl5;rw[J5 hn hL]
 show thn (Jb (l2++_)) _=_
 rw[zmb he e2,ziz,K9 (show isB vO (tk (kwQ vO) p3::tk (wa x.Least) p4::tk (sgQ xQ) p5::(l6++r))=bg by rw[zE];decide)]
 show thn (qk 0 20 (tk (wa x.Least) p4::tk (sgQ xQ) p5::(l6++r))) _=_
 rw[qm n0 n1,ziz,K9 (show isB xQ (tk (sgQ xQ) p5::(l6++r))=bg by rw[zE];decide)];obtain⟨nm,eye,lst,tg⟩:=x;dsimp only at *
 cases tg with
 |nil=>simp at t0
 |cons q tg =>
  rw[bO]at e6;obtain⟨l7,l8,rfl,e7,e8⟩:=wh e6
  show thn (Jb (l7++l8++r)) _=_
  rw[asc,zmb (ht q al) e7]
  show thn (zz9 ((l8++r).length+1) [q] (l8++r)) _=_
  have hlen:=aQ bf e8;have:=J6 (f:=zT5) (k:=3) (λ_=>dj 3) tg;rw[bJ]at hlen;simp only[lc]at t1;rw[zw7 tg _ [q] l8 r (by rw[laQ];omega) (by simp only[lc,bI];omega) (λy hy=>ht y (mcQ _ hy)) e8 hr.num];rfl
def zzw{x:au}{L:List ak}(hn:zN x.aL=bg)(hL:x.aL ∉ L)(h:A9 x){l r:List ar}(hl:l.map t3=QR (.t x))(hr:Stop r):Yz L (l++r)=thn (wb yc r) λ_ r=>.ok (x,r):=by
 have hnm:=Yu h;obtain⟨⟨r0,r1⟩,⟨n0,n1⟩,hx⟩:=h;obtain⟨p,l1,rfl,e1⟩:=map_cons (show l.map t3=kwQ x.aL::(x.Rows.flatMap zZ6++(kwQ xh::zzt x.Else)) from hl);obtain⟨l2,l3,rfl,e2,e3⟩:=wh e1;obtain⟨p3,l4,rfl,e4⟩:=map_cons e3
 have ea:tk (kwQ x.aL) p::(l2++tk (kwQ xh) p3::l4)++r=tk (kwQ x.aL) p::(l2++(tk (kwQ xh) p3::(l4++r))):=af
 rw[ea];unfold Yz;rw[J5 hn hL]
 show thn (ZI ((l2++(tk (kwQ xh) p3::(l4++r))).length+1) [] (l2++(tk (kwQ xh) p3::(l4++r)))) _=_
 have hlen:=aQ bf e2;have:=J6 (f:=zZ6) (k:=1) (λ_=>iR (cj _)) x.Rows;rw[bJ]at hlen;rw[V1 x.Rows _ [] l2 _ (by rw[laQ];omega) (by simpa using r0) (λy hy=>⟨hnm y hy,hx y hy⟩) (VP _ _ r1).1 e2 (zPq ah)];rw[ziz,K9 (show isB xh (tk (kwQ xh) p3::(l4++r))=bg by rw[zE];decide)]
 show thn (ja 1099511627776 (l4++r)) _=_
 rw[zw6 ab n1 e4];rfl
def zGz{x:List zg}(h0:x≠[])(h:∀p∈x,zz7 p)(hx:x.length<=24){l r:List ar}(hl:l.map t3=QR (.s x))(hr:Stop r):zL7 [] (l++r)=thn (wb yc r) λ_ r=>.ok (x,r):=by
 cases x with
 |nil=>exact aU rfl h0
 |cons p ps =>
  unfold zL7;have hlen:=aQ bf hl;have:=J6 (f:=λq=>sgQ kP::zHp q) (k:=1) (λ_=>iR (cj _)) ps;rw[bJ]at hlen;have e:(QR (.s (p::ps))).length=(zHp p).length+(ps.flatMap λq=>sgQ kP::zHp q).length:=laQ;simp only[lc]at hx;rw[zw9 ps _ [] l r p (by rw[laQ];omega) (by simp only[bI];omega) h hl hr.comma];rfl
def zqu{p:yZ}{h:Bool}{d:Decl}(hd:AR d)(hf:zPs p h d){l r:List ar}{q:Int}(hl:l.map t3=QR d)(hr:Stop r):zqr p h (tk (kwQ (jJ d)) q::(l++r))=thn (wb yc r) λ_ r=>.ok (zGw p h d,r):=by
 unfold zqr
 cases d with
 |d x =>
  show(if isB xJ (tk (kwQ xJ) q::(l++r))=bg then _ else _)=_
  rw[aP (by rw[zE];decide),show tk (kwQ (jJ (.d x))) q=tk (kwQ xJ) q from rfl,VO hf.2]
  show thn (zL8 (p.aF.map Def.aL) (l++r)) _=_
  rw[zMi hd.1 hf.1 hd.2 hl hr,Hg];rfl
 |t x =>
  show(if isB xJ (tk (kwQ ym) q::(l++r))=bg then _ else if isB ym (tk (kwQ ym) q::(l++r))=bg then _ else _)=_
  rw[aO (by rw[zE];decide),aP (by rw[zE];decide),show tk (kwQ (jJ (.t x))) q=tk (kwQ ym) q from rfl,VO hf.2]
  show thn (Yz (p.Tables.map au.aL) (l++r)) _=_
  rw[zzw hd.1 hf.1 hd.2 hl hr,Hg];rfl
 |z x =>
  have key:=zGx (L:=p.aB.map yt.aL) hd.1 hf.1 hd.2 hl hr
  cases ho:x.Overlay with
  |false =>
   rw[ho]at key;rw[show jJ (.z x)=yR by rw[jJ,ho];rfl,aO (by rw[zE];decide),aO (by rw[zE];decide),aP (by rw[zE];decide),VO hf.2]
   show thn (zff (p.aB.map yt.aL) bd (l++r)) _=_
   rw[key,Hg];rfl
  |true =>
   rw[ho]at key;rw[show jJ (.z x)=yr by rw[jJ,ho];rfl,aO (by rw[zE];decide),aO (by rw[zE];decide),aO (by rw[zE];decide),aP (by rw[zE];decide),VO hf.2]
   show thn (zff (p.aB.map yt.aL) bg (l++r)) _=_
   rw[key,Hg];rfl
 |r x =>
  rw[show jJ (.r x)=jN from rfl,aO (by rw[zE];decide),aO (by rw[zE];decide),aO (by rw[zE];decide),aO (by rw[zE];decide),aP (by rw[zE];decide),VO hf.2]
  show thn (zl6 (p.aE.map zO.aL) (l++r)) _=_
  rw[zGv hd.1 hf.1 hd.2 hl hr,Hg];rfl
 |c x =>
  rw[show jJ (.c x)=Ko from rfl,aO (by rw[zE];decide),aO (by rw[zE];decide),aO (by rw[zE];decide),aO (by rw[zE];decide),aO (by rw[zE];decide),aP (by rw[zE];decide),VO hf.2]
  show thn (zPl (p.aJ.map Cap.aL) (l++r)) _=_
  rw[zMj hd.1 hf.1 hd.2 hl hr,Hg];rfl
 |v x =>
  rw[show jJ (.v x)=ql from rfl,aO (by rw[zE];decide),aO (by rw[zE];decide),aO (by rw[zE];decide),aO (by rw[zE];decide),aO (by rw[zE];decide),aO (by rw[zE];decide),aP (by rw[zE];decide),VO hf.2]
  show thn (zl5 (p.aG.map av.aL) (l++r)) _=_
  rw[zGy hd.1 hf.1 hd.2 hl hr,Hg];rfl
 |s x =>
  have h0:p.aK=[]:=hf;rw[show jJ (.s x)=Af from rfl,aO (by rw[zE];decide),aO (by rw[zE];decide),aO (by rw[zE];decide),aO (by rw[zE];decide),aO (by rw[zE];decide),aO (by rw[zE];decide),aO (by rw[zE];decide),aP (by rw[zE];decide),h0]
  show thn (zL7 [] (l++r)) _=_
  rw[zGz hd.1 hd.2.1 hd.2.2 hl hr,Hg];rfl
 |h x =>
  have h0:h=bd:=hf;obtain⟨n0,n1,_⟩:=hd;obtain⟨p1,l1,rfl,e1⟩:=map_cons (show l.map t3=[wa x] from hl);obtain rfl:=map_nil e1;rw[show jJ (.h x)=vA from rfl,aO (by rw[zE];decide),aO (by rw[zE];decide),aO (by rw[zE];decide),aO (by rw[zE];decide),aO (by rw[zE];decide),aO (by rw[zE];decide),aO (by rw[zE];decide),aO (by rw[zE];decide),aP (by rw[zE];decide),h0]
  show thn (qk 0 24 (tk (wa x) p1::r)) _=_
  rw[qm n0 n1];rfl
def Vb(ds:List Decl):List T3:=ds.flatMap λd=>AS d++[sgQ yc]
def zme:yZ->Bool->List Decl->yZ×Bool
 |p,h,[]=>(p,h)
 |p,h,d::ds=>zme (zGw p h d).1 (zGw p h d).2 ds
def zmo:yZ->Bool->List Decl->Prop
 |_,_,[]=>True
 |p,h,d::ds=>AR d/\zPs p h d/\zmo (zGw p h d).1 (zGw p h d).2 ds
def zxb:∀(a b:List Decl)(p:yZ)(h:Bool),zme p h (a++b)=zme (zme p h a).1 (zme p h a).2 b
 |[],_,_,_=>rfl
 |d::a,b,p,h=>zxb a b (zGw p h d).1 (zGw p h d).2
def zb7:∀(a b:List Decl)(p:yZ)(h:Bool),zmo p h (a++b)↔zmo p h a/\zmo (zme p h a).1 (zme p h a).2 b
 |[],_,_,_=>⟨λh=>⟨trivial,h⟩,λh=>h.2⟩
 |d::a,b,p,h=>by
  have ih:=zb7 a b (zGw p h d).1 (zGw p h d).2;exact⟨λ⟨h1,h2,h3⟩=>⟨⟨h1,h2,(ih.1 h3).1⟩,(ih.1 h3).2⟩,λ⟨⟨h1,h2,h3⟩,h4⟩=>⟨h1,h2,ih.2 ⟨h3,h4⟩⟩⟩
def YE:∀{ds:List Decl}{p:yZ}{h:Bool},zmo p h ds->∀d∈ds,AR d
 |[],_,_,_,_,hd=>by cases hd
 |x::ds,p,h,hs,d,hd=>by
  obtain⟨h1,_,h3⟩:=hs
  rcases bq.1 hd with rfl|hd
  ·exact h1
  ·exact YE h3 d hd
def zMk{d:Decl}(h:AR d):OKs (AS d++[sgQ yc]):=VJ (Yv h) (xq rfl AI)
def zfi:∀{ds:List Decl},(∀d∈ds,AR d)->OKs (Vb ds)
 |[],_=>AI
 |d::ds,h=>by
  rw[Vb,bO];exact VJ (zMk (h d al)) (zfi λx hx=>h x (mcQ _ hx))
def zfj:∀(ds:List Decl)(m:Nat)(p:yZ)(h:Bool)(l r:List ar),zmo p h ds->l.map t3=Vb ds->TWF r->za0 (ds.length+m) p h (l++r)=za0 m (zme p h ds).1 (zme p h ds).2 r
 |[],m,p,h,l,r,_,hl,_=>by
  obtain rfl:=map_nil hl;rw[bI,Nat.zero_add];rfl
 |d::ds,m,p,h,l,r,⟨h1,h2,h3⟩,hl,hr=>by
  rw[Vb,bO]at hl;obtain⟨l1,l2,rfl,e1,e2⟩:=wh hl;obtain⟨a,l3,rfl,e3⟩:=map_cons (show l1.map t3=kwQ (jJ d)::(QR d++[sgQ yc]) from e1);obtain⟨l4,l5,rfl,e4,e5⟩:=wh e3;obtain⟨b,l6,rfl,e6⟩:=map_cons e5;obtain rfl:=map_nil e6
  have ea:tk (kwQ (jJ d)) a::(l4++[tk (sgQ yc) b])++l2++r=tk (kwQ (jJ d)) a::(l4++(tk (sgQ yc) b::(l2++r))):=af
  have hw:TWF (l2++r):=kh (zfi (YE h3)) e2 hr;rw[ea,show(d::ds).length+m=ds.length+m+1 by rw[lc];omega,za0,aO (show ¬(hdT (tk (kwQ (jJ d)) a::(l4++(tk (sgQ yc) b::(l2++r))))).aM=3 by show ¬(0:Int)=3;decide),zqu h1 h2 e4 (zGp hw),K9 (by rw[zE];decide)];exact zfj ds m (zGw p h d).1 (zGw p h d).2 l2 r h3 e2 hr
def zMl{ds:List Decl}{d:Decl}{m:Nat}{p:yZ}{h:Bool}{l l2 r:List ar}(hs:zmo p h (ds++[d]))(hl:l.map t3=Vb ds)(hl2:l2.map t3=AS d)(hr:Stop r)(hb:isB yc r=bd):za0 (ds.length+(m+1)) p h (l++(l2++r))=.error (zin r 14):=by
 obtain⟨s1,s2,s3,_⟩:=(zb7 _ _ _ _).1 hs;rw[zfj ds (m+1) p h l (l2++r) s1 hl (kh (Yv s2) hl2 hr.wf)];obtain⟨a,l3,rfl,e3⟩:=map_cons (show l2.map t3=kwQ (jJ d)::QR d from hl2);rw[bP,za0,aO (show ¬(hdT (tk (kwQ (jJ d)) a::(l3++r))).aM=3 by show ¬(0:Int)=3;decide),zqu s2 s3 e3 hr];unfold wb;rw[hb,aO af];rfl
-- the declarations of a plan
def decls(p:yZ):Nat->List Decl
 |0=>p.aF.map .d
 |1=>p.Tables.map .t
 |2=>p.aB.map .z
 |3=>p.aE.map .r
 |4=>p.aJ.map .c
 |5=>p.aG.map .v
 |6=>bif p.aK.isEmpty then[]else[.s p.aK]
 |7=>if p.aI=0 then[]else[.h p.aI]
 |_=>[]
def pick{α:Type}(k:Nat)(ks:List Nat)(l:List α):List α:=if k∈ks then l else[]
def zt0(p:yZ)(ks:List Nat):Int:=if 7∈ks then p.aI else 0
def AN(p:yZ)(ks:List Nat):yZ:=yZ.mk (pick 0 ks p.aF) (pick 1 ks p.Tables) (pick 2 ks p.aB) (pick 3 ks p.aE) (pick 4 ks p.aJ) (pick 5 ks p.aG) (pick 6 ks p.aK) (zt0 p ks)
def zgk(p:yZ)(ks:List Nat):Bool:=decide (7∈ks)&&!(decide (p.aI=0))
def Hh{α:Type}{k:Nat}{ks:List Nat}{l:List α}:pick k (k::ks) l=l:=aP al
def zu{α:Type}{k j:Nat}{ks:List Nat}{l:List α}(h:j≠k):pick j (k::ks) l=pick j ks l:=by
 unfold pick;by_cases hm:j∈ks
 ·rw[aP hm,aP (mcQ _ hm)]
 ·rw[aO hm,aO (λhc=>by rcases bq.1 hc with e|e;exact h e;exact hm e)]
def uE{α:Type}{k:Nat}{ks:List Nat}{l:List α}(h:k ∉ ks):pick k ks l=[]:=aO h
def zt1{k j:Nat}{ks:List Nat}(h:j≠k):j∈k::ks↔j∈ks:=⟨λhc=>by rcases bq.1 hc with e|e;exact aU e h;exact e,mcQ _⟩
def Hi{p:yZ}{k:Nat}{ks:List Nat}(h:7≠k):zt0 p (k::ks)=zt0 p ks:=by
 unfold zt0;by_cases hm:7∈ks
 ·rw[aP hm,aP ((zt1 h).2 hm)]
 ·rw[aO hm,aO λhc=>hm ((zt1 h).1 hc)]
def Qc{p:yZ}{k:Nat}{ks:List Nat}(h:7≠k):zgk p (k::ks)=zgk p ks:=by
 unfold zgk;rw[decide_eq_decide.2 (zt1 h)]
def oV{α:Type}{l:List α}{g:α->ak}{m:Nat}(h:kg l g m):(l.map g).Nodup:=(VP _ _ h.2).1
def z0q{h:Bool}:∀(xs acc:List Def)(q:yZ),(∀x∈xs,zN x.aL=bg/\OX 12 x.Body)->((acc++xs).map Def.aL).Nodup->(acc++xs).length<=60->zmo { q with aF:=acc } h (xs.map .d)/\zme { q with aF:=acc } h (xs.map .d)=({ q with aF:=acc++xs },h)
 |[],acc,q,_,_,_=>⟨trivial,by rw[bE];rfl⟩
 |x::xs,acc,q,hP,hd,hm=>by
  have hx:x.aL ∉ acc.map Def.aL:=λh=>by
   rw[bU,cu]at hd;exact hd.2.2 _ h _ af rfl
  simp only[laQ,lc]at hm;obtain⟨i1,i2⟩:=z0q (h:=h) xs (acc++[x]) q (λy hy=>hP y (mcQ _ hy)) (by rw[asc];exact hd) (by simp only[laQ,lc,bI];omega);rw[asc]at i2;exact⟨⟨hP x al,⟨hx,by show acc.length<60;omega⟩,i1⟩,i2⟩
def z0r{h:Bool}:∀(xs acc:List au)(q:yZ),(∀x∈xs,zN x.aL=bg/\A9 x)->((acc++xs).map au.aL).Nodup->(acc++xs).length<=60->zmo { q with Tables:=acc } h (xs.map .t)/\zme { q with Tables:=acc } h (xs.map .t)=({ q with Tables:=acc++xs },h)
 |[],acc,q,_,_,_=>⟨trivial,by rw[bE];rfl⟩
 |x::xs,acc,q,hP,hd,hm=>by
  have hx:x.aL ∉ acc.map au.aL:=λh=>by
   rw[bU,cu]at hd;exact hd.2.2 _ h _ af rfl
  simp only[laQ,lc]at hm;obtain⟨i1,i2⟩:=z0r (h:=h) xs (acc++[x]) q (λy hy=>hP y (mcQ _ hy)) (by rw[asc];exact hd) (by simp only[laQ,lc,bI];omega);rw[asc]at i2;exact⟨⟨hP x al,⟨hx,by show acc.length<60;omega⟩,i1⟩,i2⟩
def z0s{h:Bool}:∀(xs acc:List yt)(q:yZ),(∀x∈xs,zN x.aL=bg/\Hs x.aA)->((acc++xs).map yt.aL).Nodup->(acc++xs).length<=60->zmo { q with aB:=acc } h (xs.map .z)/\zme { q with aB:=acc } h (xs.map .z)=({ q with aB:=acc++xs },h)
 |[],acc,q,_,_,_=>⟨trivial,by rw[bE];rfl⟩
 |x::xs,acc,q,hP,hd,hm=>by
  have hx:x.aL ∉ acc.map yt.aL:=λh=>by
   rw[bU,cu]at hd;exact hd.2.2 _ h _ af rfl
  simp only[laQ,lc]at hm;obtain⟨i1,i2⟩:=z0s (h:=h) xs (acc++[x]) q (λy hy=>hP y (mcQ _ hy)) (by rw[asc];exact hd) (by simp only[laQ,lc,bI];omega);rw[asc]at i2;exact⟨⟨hP x al,⟨hx,by show acc.length<60;omega⟩,i1⟩,i2⟩
def z0t{h:Bool}:∀(xs acc:List zO)(q:yZ),(∀x∈xs,zN x.aL=bg/\Yj x)->((acc++xs).map zO.aL).Nodup->(acc++xs).length<=200->zmo { q with aE:=acc } h (xs.map .r)/\zme { q with aE:=acc } h (xs.map .r)=({ q with aE:=acc++xs },h)
 |[],acc,q,_,_,_=>⟨trivial,by rw[bE];rfl⟩
 |x::xs,acc,q,hP,hd,hm=>by
  have hx:x.aL ∉ acc.map zO.aL:=λh=>by
   rw[bU,cu]at hd;exact hd.2.2 _ h _ af rfl
  simp only[laQ,lc]at hm;obtain⟨i1,i2⟩:=z0t (h:=h) xs (acc++[x]) q (λy hy=>hP y (mcQ _ hy)) (by rw[asc];exact hd) (by simp only[laQ,lc,bI];omega);rw[asc]at i2;exact⟨⟨hP x al,⟨hx,by show acc.length<200;omega⟩,i1⟩,i2⟩
def z0u{h:Bool}:∀(xs acc:List Cap)(q:yZ),(∀x∈xs,zN x.aL=bg/\zLb x)->((acc++xs).map Cap.aL).Nodup->(acc++xs).length<=30->zmo { q with aJ:=acc } h (xs.map .c)/\zme { q with aJ:=acc } h (xs.map .c)=({ q with aJ:=acc++xs },h)
 |[],acc,q,_,_,_=>⟨trivial,by rw[bE];rfl⟩
 |x::xs,acc,q,hP,hd,hm=>by
  have hx:x.aL ∉ acc.map Cap.aL:=λh=>by
   rw[bU,cu]at hd;exact hd.2.2 _ h _ af rfl
  simp only[laQ,lc]at hm;obtain⟨i1,i2⟩:=z0u (h:=h) xs (acc++[x]) q (λy hy=>hP y (mcQ _ hy)) (by rw[asc];exact hd) (by simp only[laQ,lc,bI];omega);rw[asc]at i2;exact⟨⟨hP x al,⟨hx,by show acc.length<30;omega⟩,i1⟩,i2⟩
def z0v{h:Bool}:∀(xs acc:List av)(q:yZ),(∀x∈xs,zN x.aL=bg/\Zz x)->((acc++xs).map av.aL).Nodup->(acc++xs).length<=60->zmo { q with aG:=acc } h (xs.map .v)/\zme { q with aG:=acc } h (xs.map .v)=({ q with aG:=acc++xs },h)
 |[],acc,q,_,_,_=>⟨trivial,by rw[bE];rfl⟩
 |x::xs,acc,q,hP,hd,hm=>by
  have hx:x.aL ∉ acc.map av.aL:=λh=>by
   rw[bU,cu]at hd;exact hd.2.2 _ h _ af rfl
  simp only[laQ,lc]at hm;obtain⟨i1,i2⟩:=z0v (h:=h) xs (acc++[x]) q (λy hy=>hP y (mcQ _ hy)) (by rw[asc];exact hd) (by simp only[laQ,lc,bI];omega);rw[asc]at i2;exact⟨⟨hP x al,⟨hx,by show acc.length<60;omega⟩,i1⟩,i2⟩
def zMm{p:yZ}(hp:Q8 p){ks:List Nat}:∀k,k<8->k ∉ ks->zmo (AN p ks) (zgk p ks) (decls p k)/\zme (AN p ks) (zgk p ks) (decls p k)=(AN p (k::ks),zgk p (k::ks)):=by
 have nm:=zl0 hp;obtain⟨⟨h1,h2,h3,h4,h5,h6⟩,⟨b1,b2,b3,b4,b5,b6,b7⟩,hh,hs⟩:=hp;intro k hk hn
 obtain rfl|rfl|rfl|rfl|rfl|rfl|rfl|rfl:k=0∨k=1∨k=2∨k=3∨k=4∨k=5∨k=6∨k=7:=ab
 ·obtain⟨s1,s2⟩:=z0q (h:=zgk p ks) p.aF [] (AN p ks) (λx hx=>⟨nm.d x hx,zFf 12 _ (b1 x hx)⟩) (by rw[bN];exact oV h1) (by rw[bN];exact h1.1)
  have e:({ AN p ks with aF:=[] }:yZ)=AN p ks:=by unfold AN;rw[uE (k:=0) hn]
  rw[e]at s1 s2;rw[bN]at s2;refine⟨s1,s2.trans ?_⟩;unfold AN;rw[Hh,zu (j:=1) ae,zu (j:=2) ae,zu (j:=3) ae,zu (j:=4) ae,zu (j:=5) ae,zu (j:=6) ae,Hi ae,Qc ae]
 ·obtain⟨s1,s2⟩:=z0r (h:=zgk p ks) p.Tables [] (AN p ks) (λx hx=>⟨nm.t x hx,b2 x hx⟩) (by rw[bN];exact oV h2) (by rw[bN];exact h2.1)
  have e:({ AN p ks with Tables:=[] }:yZ)=AN p ks:=by unfold AN;rw[uE (k:=1) hn]
  rw[e]at s1 s2;rw[bN]at s2;refine⟨s1,s2.trans ?_⟩;unfold AN;rw[Hh,zu (j:=0) ae,zu (j:=2) ae,zu (j:=3) ae,zu (j:=4) ae,zu (j:=5) ae,zu (j:=6) ae,Hi ae,Qc ae]
 ·obtain⟨s1,s2⟩:=z0s (h:=zgk p ks) p.aB [] (AN p ks) (λx hx=>⟨nm.z x hx,b3 x hx⟩) (by rw[bN];exact oV h3) (by rw[bN];exact h3.1)
  have e:({ AN p ks with aB:=[] }:yZ)=AN p ks:=by unfold AN;rw[uE (k:=2) hn]
  rw[e]at s1 s2;rw[bN]at s2;refine⟨s1,s2.trans ?_⟩;unfold AN;rw[Hh,zu (j:=0) ae,zu (j:=1) ae,zu (j:=3) ae,zu (j:=4) ae,zu (j:=5) ae,zu (j:=6) ae,Hi ae,Qc ae]
 ·obtain⟨s1,s2⟩:=z0t (h:=zgk p ks) p.aE [] (AN p ks) (λx hx=>⟨nm.r x hx,b4 x hx⟩) (by rw[bN];exact oV h4) (by rw[bN];exact h4.1)
  have e:({ AN p ks with aE:=[] }:yZ)=AN p ks:=by unfold AN;rw[uE (k:=3) hn]
  rw[e]at s1 s2;rw[bN]at s2;refine⟨s1,s2.trans ?_⟩;unfold AN;rw[Hh,zu (j:=0) ae,zu (j:=1) ae,zu (j:=2) ae,zu (j:=4) ae,zu (j:=5) ae,zu (j:=6) ae,Hi ae,Qc ae]
 ·obtain⟨s1,s2⟩:=z0u (h:=zgk p ks) p.aJ [] (AN p ks) (λx hx=>⟨nm.c x hx,b5 x hx⟩) (by rw[bN];exact oV h5) (by rw[bN];exact h5.1)
  have e:({ AN p ks with aJ:=[] }:yZ)=AN p ks:=by unfold AN;rw[uE (k:=4) hn]
  rw[e]at s1 s2;rw[bN]at s2;refine⟨s1,s2.trans ?_⟩;unfold AN;rw[Hh,zu (j:=0) ae,zu (j:=1) ae,zu (j:=2) ae,zu (j:=3) ae,zu (j:=5) ae,zu (j:=6) ae,Hi ae,Qc ae]
 ·obtain⟨s1,s2⟩:=z0v (h:=zgk p ks) p.aG [] (AN p ks) (λx hx=>⟨nm.v x hx,b6 x hx⟩) (by rw[bN];exact oV h6) (by rw[bN];exact h6.1)
  have e:({ AN p ks with aG:=[] }:yZ)=AN p ks:=by unfold AN;rw[uE (k:=5) hn]
  rw[e]at s1 s2;rw[bN]at s2;refine⟨s1,s2.trans ?_⟩;unfold AN;rw[Hh,zu (j:=0) ae,zu (j:=1) ae,zu (j:=2) ae,zu (j:=3) ae,zu (j:=4) ae,zu (j:=6) ae,Hi ae,Qc ae]
 ·have e:(AN p ks).aK=[]:=uE hn
  cases hx:p.aK with
  |nil =>
   refine⟨by simp only[decls,hx,fy,ctQ];trivial,?_⟩;simp only[decls,hx,fy,ctQ,zme];unfold AN;rw[zu (j:=0) ae,zu (j:=1) ae,zu (j:=2) ae,zu (j:=3) ae,zu (j:=4) ae,zu (j:=5) ae,Hi ae,Qc ae,hx,Hh,uE hn]
  |cons q r =>
   simp only[decls,hx,gH,cf];refine⟨⟨⟨af,by rw[<- hx];exact b7,by rw[<- hx];exact hs⟩,e,trivial⟩,?_⟩
   show({ AN p ks with aK:=q::r },zgk p ks)=_
   unfold AN;rw[zu (j:=0) ae,zu (j:=1) ae,zu (j:=2) ae,zu (j:=3) ae,zu (j:=4) ae,zu (j:=5) ae,Hi ae,Qc ae,hx,Hh]
 ·by_cases hx:p.aI=0
  ·simp only[decls,hx,if_true]
   refine⟨trivial,?_⟩
   show(AN p ks,zgk p ks)=_
   unfold AN zgk zt0;rw[zu (k:=7) (j:=0) ae,zu (k:=7) (j:=1) ae,zu (k:=7) (j:=2) ae,zu (k:=7) (j:=3) ae,zu (k:=7) (j:=4) ae,zu (k:=7) (j:=5) ae,zu (k:=7) (j:=6) ae,hx,ite_self,ite_self,dt rfl,bW,eL,eL]
  ·simp only[decls,hx,if_false]
   have e:zgk p ks=bd:=by unfold zgk;rw[df hn];rfl
   refine⟨⟨⟨hh.1,hh.2,hx⟩,e,trivial⟩,?_⟩
   show({ AN p ks with aI:=p.aI },bg)=_
   unfold AN zgk zt0;rw[zu (k:=7) (j:=0) ae,zu (k:=7) (j:=1) ae,zu (k:=7) (j:=2) ae,zu (k:=7) (j:=3) ae,zu (k:=7) (j:=4) ae,zu (k:=7) (j:=5) ae,zu (k:=7) (j:=6) ae,dt al,df hx,aP al];rfl
def zfk{p:yZ}(hp:Q8 p):∀(js ks:List Nat),(∀j∈js,j<8/\j ∉ ks)->js.Nodup->zmo (AN p ks) (zgk p ks) (js.flatMap (decls p))/\zme (AN p ks) (zgk p ks) (js.flatMap (decls p))=(AN p (js.reverse++ks),zgk p (js.reverse++ks))
 |[],ks,_,_=>⟨trivial,rfl⟩
 |j::js,ks,h,hd=>by
  obtain⟨d1,d2⟩:=cA.1 hd;obtain⟨a1,a2⟩:=h j al;obtain⟨s1,s2⟩:=zMm hp (ks:=ks) j a1 a2
  obtain⟨t1,t2⟩:=zfk hp js (j::ks) (λi hi=>⟨(h i (mcQ _ hi)).1,λhm=>by
   rcases bq.1 hm with rfl|hm
   ·exact d1 hi
   ·exact(h i (mcQ _ hi)).2 hm⟩) d2
  rw[bO,zb7,zxb,s2];refine⟨⟨s1,t1⟩,t2.trans ?_⟩;rw[List.reverse_cons,asc];rfl
def zUq{p:yZ}{ks:List Nat}(h:∀k<8,k∈ks):AN p ks=p:=by
 unfold AN pick zt0;rw[aP (h 0 ab),aP (h 1 ab),aP (h 2 ab),aP (h 3 ab),aP (h 4 ab),aP (h 5 ab),aP (h 6 ab),aP (h 7 ab)]
def LC(s:ak)(ts:List T3):Prop:=∀p r,∃l,l.map t3=ts/\zHm p (s++r)=zOx l (zHm (p+s.length) r)
def z0w:LC [] []:=λp r=>⟨[],rfl,by rw[zwd];rfl⟩
def z0x{s:ak}{c:UInt8}{ts:List T3}(hc:yv c=bg)(h:LX s ts):LC (s++[c]) ts:=λp r=>by
 obtain⟨l,h1,h2⟩:=h p (c::r) (zlj hc);refine⟨l,h1,?_⟩;rw[asc,show[c]++r=c::r from rfl,h2,zim hc,laQ,ei];rfl
def zG0{a b:ak}{ts us:List T3}(ha:LC a ts)(hb:LC b us):LC (a++b) (ts++us):=λp r=>by
 obtain⟨l,h1,h2⟩:=ha p (b++r);obtain⟨m,h3,h4⟩:=hb (p+a.length) r;refine⟨l++m,by rw[bU,h1,h3],?_⟩;rw[asc,h2,h4,zwc,laQ,ei]
def z0y{s:ak}{ts:List T3}(h:LC s ts):LX s ts:=λp r _=>h p r
def yh(d:Decl):ak:=yi (zF4 d)
def zUr{d:Decl}(h:AR d):LC (yh d) (AS d++[sgQ yc]):=by
 unfold yh;rw[zfb h,show([32,59,10]:ak)=[32,59]++[10] from rfl,<- asc];exact z0x rfl (zEp (zZt (Yv h)) (zwe (c:=32) rfl (zEo (t:=sgQ yc) rfl)) (zlj rfl))
def z0z{d:Decl}(h:AR d):LC (jq (AS d)++[32]) (AS d):=z0x rfl (zZt (Yv h))
def zb8:∀{ds:List Decl},(∀d∈ds,AR d)->LC (ds.flatMap yh) (Vb ds)
 |[],_=>z0w
 |d::ds,h=>by
  rw[bO,Vb,bO];exact zG0 (zUr (h d al)) (zb8 λx hx=>h x (mcQ _ hx))
def KS:List Nat:=[0,1,2,3,4,5,6,7]
def zt2(p:yZ):Kk p=(KS.flatMap (decls p)).flatMap yh:=by
 unfold Kk KS;simp only[bO,dx,bE,dy,decls,List.flatMap_map];refine aQ _ (aQ _ (aQ _ (aQ _ (aQ _ (aQ _ ?_)))))
 have e1:((bif p.aK.isEmpty then[]else[Decl.s p.aK]):List Decl).flatMap yh=bif p.aK.isEmpty then[]else yi (zFs p.aK):=by
  cases p.aK.isEmpty
  ·simp[yh,zF4]
  ·rfl
 have e2:((if p.aI=0 then[]else[Decl.h p.aI]):List Decl).flatMap yh=if p.aI=0 then[]else yi (Q9 p.aI):=by
  split
  ·rfl
  ·simp[yh,zF4]
 rw[e1,e2]
def zqv(ds:List Decl):ds.length<=(Vb ds).length:=by
 have:=J6 (f:=λd=>AS d++[sgQ yc]) (k:=1) (λd=>by simp[AS]) ds;unfold Vb;omega
def zi1:∀c:UInt8,xb c=bg->c≠10:=λc h=>by
 rintro rfl;exact aU h ae
def zMn{t:T3}(h:okT t):∀b∈t.2.1,b≠10:=by
 obtain⟨k,x,n⟩:=t;unfold okT at h;dsimp only at h ⊢
 cases x with
 |nil=>intro b hb;cases hb
 |cons c x =>
  rw[vX]at h;split at h
  ·split at h
   ·have e:(c::x).takeWhile xb=c::x:=aQ (λy:T3=>y.2.1) (Except.ok.inj h)
    have:=zlh xb (c::x);rw[e]at this
    exact λb hb=>zi1 b (bj.1 this b hb)
   ·cases h
  ·split at h
   ·split at h
    ·have e:(c::x).takeWhile xi=c::x:=aQ (λy:T3=>y.2.1) (Except.ok.inj h)
     have:=zlh xi (c::x);rw[e]at this;intro b hb;have hd:=bj.1 this b hb;exact zi1 b (by rw[xb,hd,Bool.or_true])
    ·cases h
   ·split at h
    ·rename_i s hs
     have e:s=c::x:=aQ (λy:T3=>y.2.1) (Except.ok.inj h);subst e;unfold zlg at hs;have hm:=List.mem_of_find?_eq_some hs
     have:∀s∈SG,∀b∈s,b≠10:=ae
     exact this _ hm
    ·cases h
def zG1:∀{ts:List T3},OKs ts->∀b∈sq ts,b≠10
 |[],_,b,hb=>by cases hb
 |t::ts,h,b,hb=>by
  rw[zFt]at hb
  rcases bA.1 hb with hb|hb
  ·rcases bq.1 hb with rfl|hb
   ·decide
   ·exact zMn (h t al) b hb
  ·exact zG1 (λx hx=>h x (mcQ _ hx)) b hb
def zi2{d:Decl}(h:AR d):∃x,yh d=x++[10]/\∀b∈x,b≠10:=by
 refine⟨jq (AS d)++[32,59],by unfold yh;rw[zfb h,asc];rfl,λb hb=>?_⟩;have hq:=Yv h
 rcases bA.1 hb with hb|hb
 ·have:b∈sq (AS d):=by
   rw[zLe (show AS d≠[] by simp[AS])];exact mcQ _ hb
  exact zG1 hq b this
 ·have:∀b∈([32,59]:ak),b≠10:=ae
  exact this b hb
section
variable{s:ak}
def zPt(hs:s.length<=1000000):∀(y z:ak)(a i K:Nat)(out:List ak),s.drop i=y++z->i<=s.length->(∀b∈y,b≠10)->xo s (K+y.length) ((a:Int),(i:Int),out)=xo s K ((a:Int),((i+y.length:Nat):Int),out)
 |[],z,a,i,K,out,_,_,_=>rfl
 |b::y,z,a,i,K,out,h,hi,hb=>by
  obtain⟨h1,h2,h3⟩:=xA (show s.drop i=b::(y++z) from h)
  have hb0:¬((b.toNat:Nat):Int)=10:=λe=>hb b al (by
   have:b.toNat=10:=ab
   exact UInt8.toNat_inj.1 this)
  rw[show K+(b::y).length=K+y.length+1 by rw[lc];omega,xo];simp only[uC h1,ctQ,z7 h1,bsQ];rw[df hb0,cf,bsQ,yV ab];rw[zPt hs y z a (i+1) K out h2 ab λc hc=>hb c (mcQ _ hc),show i+1+y.length=i+(b::y).length by rw[lc];omega]
def zG2(hs:s.length<=1000000):∀(ds:List Decl)(a K:Nat)(out:List ak),(∀d∈ds,AR d)->s.drop a=ds.flatMap yh->a<=s.length->(ds.flatMap yh).length<K->out.length<=a->xo s K ((a:Int),(a:Int),out)=bc (out++ds.map yh)
 |[],a,K,out,_,h,ha,hK,_=>by
  obtain⟨K,rfl⟩:∃m,K=m+1:=⟨K-1,by simp at hK;omega⟩
  have:=drop_nil h ha;subst this;rw[xo];simp only[jR,cf,List.map_nil,bE]
 |d::ds,a,K,out,hd,h,ha,hK,ho=>by
  obtain⟨x,hx,hb⟩:=zi2 (hd d al);rw[bO,hx,asc]at h;rw[bO,laQ,hx,laQ]at hK;simp only[lc,bI]at hK
  obtain⟨K,rfl⟩:∃m,K=m+1+x.length:=⟨K-1-x.length,ab⟩
  rw[zPt hs x _ a a (K+1) out h ha hb]
  have hd2:s.drop (a+x.length)=10::ds.flatMap yh:=by
   rw[<- List.drop_drop,h];exact List.drop_left
  obtain⟨h1,h2,h3⟩:=xA hd2;rw[xo];simp only[uC h1,ctQ,z7 h1,bsQ];rw[dt (show(((10:UInt8).toNat:Nat):Int)=10 from rfl),ctQ,yV ab,zEg ab ab,bsQ]
  have hc:(s.take (a+x.length+1)).drop a=yh d:=by
   rw[List.drop_take,h,show a+x.length+1-a=x.length+1 by omega,hx,<- asc]
   have:x.length+1=(x++[10]).length:=af
   rw[this];exact dK
  rw[hc,zB (by simp only[laQ,lc,bI];omega),bsQ,bsQ];rw[zG2 hs ds (a+x.length+1) K (out++[yh d]) (λe he=>hd e (mcQ _ he)) h2 ab ab (by simp only[laQ,lc,bI];omega),asc];rfl
end
def zMo{ds:List Decl}(hd:∀d∈ds,AR d)(hs:(ds.flatMap yh).length<=1000000):JO (ds.flatMap yh)=bc (ds.map yh):=by
 unfold JO;have:=zG2 (s:=ds.flatMap yh) hs ds 0 KK [] hd rfl (cj _) (vJ ab) aq;rw[show((0:Nat):Int)=(0:Int) from rfl]at this;rw[this];rfl
-- kinds
def YF:Decl->Nat
 |.d _=>0
 |.t _=>1
 |.z _=>2
 |.r _=>3
 |.c _=>4
 |.v _=>5
 |.s _=>6
 |.h _=>7
def uF:List ak:=[zog,wk,qv,zhk,zDg,zNz,zDi,zN0,zvd]
def zfl:List Int:=[0,1,2,2,3,4,5,6,7]
def zUs{c c':UInt8}{r w:ak}{i K:Nat}(hw:uF[i]?=bc (c'::w))(hc:c≠c'):yT (c::r) uF zfl (K+1) (i:Int)=yT (c::r) uF zfl K ((i+1:Nat):Int):=by
 have hi:=qN hw;have h9:uF.length=9:=rfl;rw[yT];rw[uC hw,ctQ,zB ab,bsQ,dB,hw,bsQ]
 have e:((bif (decide (((bf (c::r):Nat):Int)>=((bf (c'::w):Nat):Int)))then(bc ()).bind λ_=>aN (bc (c'::w)) λx5=>aN (cut (c::r) 0 ((bf x5:Nat):Int)) λx6=>aN (bc ()) λ_=>aN (bc (c'::w)) λx8=>bc (decide (x6=x8))else bc bd):Option Bool)=bc bd:=by
  by_cases hl:(c'::w).length<=(c::r).length
  ·rw[dt ab,ctQ,bsQ,bsQ,Yb hl,bsQ,bsQ,bsQ,lc,eR,df (λe=>hc (List.cons.inj e).1)]
  ·rw[df ab];rfl
 rw[e,bsQ,cf,yV ab]
def zMp{w r:ak}{i K:Nat}{k:Int}(hw:uF[i]?=bc w)(hk:zfl[i]?=bc k):yT (w++r) uF zfl (K+1) (i:Int)=bc (.inl k):=by
 have hi:=qN hw;have h9:uF.length=9:=rfl;have k9:zfl.length=9:=rfl;rw[yT];rw[uC hw,ctQ,zB ab,bsQ,dB,hw,bsQ,dt (show((bf (w++r):Nat):Int)>=((bf w:Nat):Int) by rw[laQ];omega),ctQ,bsQ,bsQ,Yb (by rw[laQ];omega),bsQ,bsQ,bsQ,dK,dt rfl,bsQ,ctQ,zB ab,bsQ,hk];rfl
def zG3{d:Decl}(h:AR d):∃r,yh d=jJ d++32::r:=by
 unfold yh;rw[zfb h]
 show ∃r,jJ d++sq (QR d)++[32,59,10]=_
 cases hq:QR d with
 |nil=>exact⟨[59,10],by rw[sq,dx,bE]⟩
 |cons t ts=>exact⟨t.2.1++sq ts++[32,59,10],by rw[zFt];simp⟩
def zPu:∃k,KK=k+10:=⟨KK-10,by have:=vJ (n:=100) ab;omega⟩
def zUt{d:Decl}(h:AR d):qI (yh d)=bc ((YF d:Nat):Int):=by
 obtain⟨r,hr⟩:=zG3 h;obtain⟨k,hk⟩:=zPu
 have st:∀(i:Nat)(w:ak)(q:Int)(c:UInt8)(v:ak),w=c::v->uF[i]?=bc w->zfl[i]?=bc q->i<9->(∀j<i,∃c' w',uF[j]?=bc (c'::w')/\c≠c')->∀r,qI (w++r)=bc q:=by
  intro i w q c v hw hi hq h9 hj r;unfold qI
  show(yT (w++r) uF zfl KK 0).bind _=_
  have go:∀j,j<=i->yT (w++r) uF zfl KK 0=yT (w++r) uF zfl (k+10-j) (j:Int):=by
   intro j
   induction j with
   |zero=>intro _;rw[hk];rfl
   |succ j ih =>
    intro hji;obtain⟨c',w',h1,h2⟩:=hj j ab;rw[ih ab,hw,bP,show k+10-j=k+10-(j+1)+1 by omega,zUs h1 h2]
  rw[go i aq,show k+10-i=k+10-(i+1)+1 by omega,zMp hi hq];rfl
 have nine:∀i<9,∀j<i,∃c' w',uF[j]?=bc (c'::w')/\(uF.getD i []).headD 0≠c':=by
  intro i hi j hj
  have:∀i<9,∀j<i,uF[j]?=bc ((uF.getD j []).headD 0::(uF.getD j []).tail)/\(uF.getD i []).headD 0≠(uF.getD j []).headD 0:=ah
  exact⟨_,_,(this i hi j hj).1,(this i hi j hj).2⟩
 have one:∀(i:Nat)(q:Int),i<9->zfl[i]?=bc q->∀r,qI (uF.getD i []++r)=bc q:=λi q hi hq r=>by
  have e:∀i<9,uF.getD i []=(uF.getD i []).headD 0::(uF.getD i []).tail/\uF[i]?=bc (uF.getD i []):=ah
  exact st i _ q _ _ (e i hi).1 (e i hi).2 hq hi (nine i hi) r
 have sp:∀(i:Nat)(q:Int)(w:ak),i<9->zfl[i]?=bc q->uF.getD i []=w++[32]->qI (w++32::r)=bc q:=λi q w hi hq hw=>by
  have:=one i q hi hq r;rw[hw,asc]at this;exact this
 rw[hr]
 cases d with
 |d x=>exact sp 0 _ xJ ab rfl rfl
 |t x=>exact sp 1 _ ym ab rfl rfl
 |z x =>
  cases ho:x.Overlay<;>simp only[jJ,ho]
  ·exact sp 2 _ yR ab rfl rfl
  ·exact sp 3 _ yr ab rfl rfl
 |r x=>exact sp 4 _ jN ab rfl rfl
 |c x=>exact sp 5 _ Ko ab rfl rfl
 |v x=>exact sp 6 _ ql ab rfl rfl
 |s x=>exact sp 7 _ Af ab rfl rfl
 |h x=>exact sp 8 _ vA ab rfl rfl
section
variable{α γ α' γ':Type}{l:List ar}{x:Except EE (α×List ar)}{s:Option γ}{f:α->Int->γ}{pe:γ->EE}{g:α->List ar->Except EE (α'×List ar)}{s2:γ->Option γ'}{f2:α'->Int->γ'}{pe2:γ'->EE}
end
section
variable{l:List ar}{a E P:Int}{r:List ar}
-- with an error, nothing more is read
end
section
variable{l r:List ar}
end
section
variable{l r:List ar}
end
section
variable{l r:List ar}
end
section
variable{l r:List ar}
end
section
variable{l r:List ar}
end
section
variable{α β:Type}{r:List ar}
def zUu{p:yZ}{h:Bool}(hs:TWF r)(hk:(hdT r).aM≠3):MV r (zqr p h r):=by
 have ht:=hs.tail hk
 have room:∀{n most:Nat},MV r (YD n most r):=λ{n most}=>by
  unfold YD
  exact(YA hs).thn λ_ r1 h1 q1=>by obtain⟨rfl,_⟩:=qS h1;exact MV.tail hs hk (MV.ret ht)
 unfold zqr
 refine MV.ite (λ_=>room.thn λ_ r1 h1 q1=>(zPp q1.wf).thn λd r2 h2 q2=>MV.ret q2.wf) λ_=>MV.ite (λ_=>room.thn λ_ r1 h1 q1=>(zw5 q1.wf).thn λd r2 h2 q2=>MV.ret q2.wf) λ_=>MV.ite (λ_=>room.thn λ_ r1 h1 q1=>(zGm q1.wf).thn λd r2 h2 q2=>MV.ret q2.wf) λ_=>MV.ite (λ_=>room.thn λ_ r1 h1 q1=>(zGm q1.wf).thn λd r2 h2 q2=>MV.ret q2.wf) λ_=>MV.ite (λ_=>room.thn λ_ r1 h1 q1=>(zGn q1.wf).thn λd r2 h2 q2=>MV.ret q2.wf) λ_=>MV.ite (λ_=>room.thn λ_ r1 h1 q1=>(z0n q1.wf).thn λd r2 h2 q2=>MV.ret q2.wf) λ_=>MV.ite (λ_=>room.thn λ_ r1 h1 q1=>(zGl q1.wf).thn λd r2 h2 q2=>MV.ret q2.wf) λ_=>MV.ite (λ_=>(YA hs).thn λ_ r1 h1 q1=>?_) λ_=>MV.ite (λ_=>(YA hs).thn λ_ r1 h1 q1=>?_) λ_=>MV.err
 ·obtain⟨rfl,_⟩:=qS h1
  exact MV.tail hs hk ((zGk ht).thn λd r2 h2 q2=>MV.ret q2.wf)
 ·obtain⟨rfl,_⟩:=qS h1
  exact MV.tail hs hk ((qj ht).thn λd r2 h2 q2=>(kl q2.wf).thn λ_ r3 h3 q3=>MV.ret q3.wf)
end
def zUv(k:Nat)(h):(@JN ⟨k+500,h⟩)=bc bg:=aj
def zMq[i:Fuel]:JN=bc bg:=by
 obtain⟨n,h⟩:=i
 obtain⟨k,rfl⟩:∃k,n=k+500:=⟨n-500,ab⟩
 exact zUv k h
def zmf:∀(n p:Nat)(s:ak)(q:Nat)(e:Int),zaw n p s=.error (q,e)->e≠0
 |0,_,_,_,_,h=>by cases h
 |n+1,p,s,q,e,h=>by
  rw[zaw]at h;split at h
  ·cases h
  ·split at h
   ·rename_i c r hd e' ht
    cases h;exact zwb ht
   ·split at h
    ·rename_i hl
     cases h;exact zmf n _ _ _ _ hl
    ·cases h
def ZK:yZ:=yZ.mk [] [] [] [] [] [] [] 0
noncomputable def zgl(s:ak):Except EE yZ:=match zVk s with
 |.error (p,e)=>.error ((p:Int),e)
 |.ok l=>match za0 (l.length+1) ZK bd l with
  |.ok (v,_)=>.ok v.1
  |.error e=>.error e
def zUw:Except EE yZ->Int×Int×List zg×Int×List Def×List au×List yt×List zO×List Cap×List av
 |.ok p=>(0,0,p.aK,p.aI,p.aF,p.Tables,p.aB,p.aE,p.aJ,p.aG)
 |.error e=>(e.1,e.2,[],0,[],[],[],[],[],[])
def fit0:z1p ZK:=by unfold z1p ZK;simp
def NZ{α:Type}(x:Except EE α):Prop:=∀e,x=.error e->e.2≠0
section
variable{α β:Type}{r:List ar}
def NZ.thn{x:Except EE (α×List ar)}{g:α->List ar->Except EE β}(h:NZ x)(hg:∀a r,x=.ok (a,r)->NZ (g a r)):NZ (thn x g):=by
 match x,h,hg with
 |.error e,h,_=>exact λe' he=>h e' (aQ Except.error (Except.error.inj he))
 |.ok (a,r),_,hg=>exact hg a r rfl
def xN{a:α}:NZ (.ok a:Except EE α):=λe h=>by cases h
def zPv{p k:Int}(h:k≠0):NZ (.error (p,k):Except EE α):=λe he=>by cases he;exact h
def zzx{k:Int}(h:k≠0):NZ (.error (zin r k):Except EE α):=zPv h
def zfm:NZ (oof:Except EE α):=zPv ae
def NZ.ite{c:Prop}[Decidable c]{x y:Except EE α}(h1:c->NZ x)(h2:¬c->NZ y):NZ (if c then x else y):=by
 split
 ·rename_i h;exact h1 h
 ·rename_i h;exact h2 h
def kG{lo hi:Int}:NZ (qk lo hi r):=.ite (λ_=>.ite (λ_=>xN) λ_=>zzx ae) λ_=>zzx ae
def ZL:NZ (oq r):=.ite (λ_=>xN) λ_=>zzx ae
def jb{w:ak}:NZ (wb w r):=.ite (λ_=>xN) λ_=>zzx ae
def YG{b:Bool}{k:Int}(h:k≠0):NZ (Ki b k r):=.ite (λ_=>xN) λ_=>zzx h
def J7{L:List ak}:NZ (wR L r):=.ite (λ_=>.ite (λ_=>zzx ae) λ_=>xN) λ_=>zzx ae
def YH{m:Int}:NZ (ja m r):=.ite (λ_=>kG.thn λ_ _ _=>xN) λ_=>kG
def zfn{w:List ak}:NZ (kj w r):=.ite (λ_=>by
 split
 ·exact xN
 ·exact zzx ae) λ_=>zzx ae
def zmg:NZ (Jb r):=kG.thn λ_ _ _=>kG.thn λ_ _ _=>kG.thn λ_ _ _=>xN
def zxc{c:Bool}{k:Int}(h:k≠0):NZ (ztw c k r):=(YG ae).thn λ_ _ _=>(YG h).thn λ_ _ _=>xN
end
def zfo:∀(n:Nat)(acc:List zV)(r:List ar),NZ (qi n acc r)
 |0,_,_=>zfm
 |n+1,acc,r=>kG.thn λ_ _ _=>kG.thn λ_ _ _=>.ite (λ_=>zfo n _ _) λ_=>xN
def zG4:∀(n:Nat)(acc:List ak)(r:List ar),NZ (ZG n acc r)
 |0,_,_=>zfm
 |n+1,acc,r=>.ite (λ_=>ZL.thn λ_ _ _=>zG4 n _ _) λ_=>xN
def zG5{r:List ar}:NZ (Yw r):=ZL.thn λ_ _ _=>zG4 _ _ _
def zG6:∀(n:Nat)(acc:List aw)(r:List ar),NZ (ZI n acc r)
 |0,_,_=>zfm
 |n+1,acc,r=>.ite (λ_=>(YG ae).thn λ_ _ _=>J7.thn λ_ _ _=>YH.thn λ_ _ _=>zG6 n _ _) λ_=>xN
def zPw:∀(n:Nat)(acc:List zg)(r:List ar),NZ (zz9 n acc r)
 |0,_,_=>zfm
 |n+1,acc,r=>.ite (λ_=>(YG ae).thn λ_ _ _=>zmg.thn λ_ _ _=>zPw n _ _) λ_=>xN
def zPx:∀(n s:Nat)(r:List ar),NZ (zty n s r)
 |0,_,_=>zfm
 |n+1,s,r=>by
  rw[zty];split
  ·exact .ite (λ_=>xN) λ_=>zzx ae
  ·exact .ite (λ_=>xN) λ_=>.ite (λ_=>zzx ae) λ_=>.ite (λ_=>zPx n _ _) λ_=>zzx ae
def zPy:∀(n:Nat)(acc:List zg)(r:List ar),NZ (zGd n acc r)
 |0,_,_=>zfm
 |n+1,acc,r=>(YG ae).thn λ_ _ _=>(YG ae).thn λ_ _ _=>YH.thn λ_ _ _=>YH.thn λ_ _ _=>kG.thn λ_ _ _=>.ite (λ_=>zPy n _ _) λ_=>xN
def zMr:∀(n:Nat),(∀(lv:Nat)(r:List ar),lv<=8->r.length<n->TWF r->NZ (DE lv r))/\(∀(lv:Nat)(e:Expr)(r:List ar),lv<8->r.length<n->TWF r->NZ (LP lv e r)):=by
 intro n
 induction n with
 |zero=>exact⟨λ_ _ _ h=>ab,λ_ _ _ _ h=>ab⟩
 |succ n ih =>
  have hLP:∀(lv:Nat)(e:Expr)(r:List ar),lv<8->r.length<n+1->TWF r->NZ (LP lv e r):=by
   intro lv e r hlv hn hr;rw[zEu hr];split
   ·exact xN
   ·rename_i op hop
    obtain⟨o,ho,_⟩:=K5 hop;have ht:=zF hr (qe ho).1;have g:=ht.lt
    refine(ih.1 (lv+1) _ ab ab ht.wf).thn λa r1 h1=>?_
    have ha:=wu ht.wf h1;have g1:=ha.lt
    exact .ite (λ_=>xN) λ_=>ih.2 lv _ _ hlv ab ha.wf
  refine⟨λlv=>?_,hLP⟩
  have key:∀(k lv:Nat),8-lv=k->lv<=8->∀(r:List ar),r.length<n+1->TWF r->NZ (DE lv r):=by
   intro k
   induction k with
   |zero =>
    intro lv hk hl r hn hr
    obtain rfl:lv=8:=ab
    rw[zHn hr]
    refine .ite (λ_=>kG.thn λ_ _ _=>xN) λ_=>.ite (λ_=>ZL.thn λ_ _ _=>ZL.thn λ_ _ _=>xN) λ_=>.ite (λ_=>ZL.thn λ_ _ _=>xN) λ_=>.ite (λhb=>?_) λ_=>ZL.thn λ_ _ _=>xN
    have ht:=zF hr (zw hb);have g:=ht.lt
    exact(ih.1 0 _ ab ab ht.wf).thn λ_ _ _=>jb.thn λ_ _ _=>xN
   |succ k ihk =>
    intro lv hk hl r hn hr;rw[zgi ab hr]
    refine .ite (λhb=>?_) λ_=>.ite (λhb=>?_) λ_=>.ite (λhb=>?_) λ_=>?_
    ·have ht:=zF hr (zw hb.2)
     have g:=ht.lt
     refine(ih.1 0 _ ab ab ht.wf).thn λa r1 h1=>jb.thn λu r3 h3=>?_
     have w1:=wu ht.wf h1;have w3:=xr w1.wf h3;have:=w1.lt;have:=w3.lt
     refine(ih.1 0 _ ab ab w3.wf).thn λb r4 h4=>jb.thn λu r5 h5=>?_
     have w4:=wu w3.wf h4;have w5:=xr w4.wf h5;have:=w4.lt;have:=w5.lt
     exact(ih.1 0 _ ab ab w5.wf).thn λ_ _ _=>xN
    ·have ht:=zF hr (zw hb.2)
     have g:=ht.lt
     exact(ih.1 3 _ ab ab ht.wf).thn λ_ _ _=>xN
    ·have ht:=zF hr (zw hb.2)
     have g:=ht.lt
     exact(ih.1 7 _ ab ab ht.wf).thn λ_ _ _=>xN
    ·refine(ihk (lv+1) ab ab r hn hr).thn λa r1 h1=>?_
     have w1:=wu hr h1;have:=w1.lt;exact ih.2 lv a r1 ab ab w1.wf
  exact λr hl=>key _ lv rfl hl r
def z00{lv:Nat}{r:List ar}(hl:lv<=8)(hr:TWF r):NZ (DE lv r):=(zMr (r.length+1)).1 lv r hl (cS _) hr
section
variable{r:List ar}{L:List ak}
def z01(hr:TWF r):NZ (zL8 L r):=J7.thn λ_ r1 h1=>jb.thn λ_ r2 h2=>(z00 ab (xr (QM hr h1).wf h2).wf).thn λ_ _ _=>(zxc ae).thn λ_ _ _=>xN
def zMs:NZ (Yz L r):=J7.thn λ_ _ _=>(zG6 _ _ _).thn λ_ _ _=>jb.thn λ_ _ _=>YH.thn λ_ _ _=>jb.thn λ_ _ _=>xN
def zUx:NZ (zl5 L r):=J7.thn λ_ _ _=>zmg.thn λ_ _ _=>jb.thn λ_ _ _=>kG.thn λ_ _ _=>jb.thn λ_ _ _=>zmg.thn λ_ _ _=>(zPw _ _ _).thn λ_ _ _=>jb.thn λ_ _ _=>xN
def zG7{o:Bool}:NZ (zff L o r):=J7.thn λ_ _ _=>(zfo _ _ _).thn λ_ _ _=>(zxc ae).thn λ_ _ _=>xN
def z02:NZ (zPl L r):=J7.thn λ_ _ _=>zfn.thn λ_ _ _=>kG.thn λ_ _ _=>(zfo _ _ _).thn λ_ _ _=>(zxc ae).thn λ_ _ _=>xN
def zUy{acc:List zg}:NZ (zL7 acc r):=(zPy _ _ _).thn λ_ _ _=>jb.thn λ_ _ _=>xN
def zqw{α:Type}{t:ak}{d:α}{f:List ar->Except EE (α×List ar)}(hf:∀r,NZ (f r)):NZ (zfg t d f r):=.ite (λ_=>hf _) λ_=>xN
def zUz(hr:TWF r):NZ (ZJ r):=.ite (λ_=>kG.thn λ_ _ _=>jb.thn λ_ _ _=>kG.thn λ_ _ _=>jb.thn λ_ _ _=>kG.thn λ_ _ _=>kG.thn λ_ _ _=>jb.thn λ_ _ _=>xN)
 λ_=>.ite (λ_=>(zPx _ _ _).thn λ_ _ _=>jb.thn λ_ _ _=>xN) λ_=>.ite (λ_=>zfn.thn λ_ _ _=>zfn.thn λ_ _ _=>kG.thn λ_ _ _=>jb.thn λ_ _ _=>xN)
 λ_=>(z00 ab hr).thn λ_ _ _=>(zxc ae).thn λ_ _ _=>xN
def zU0(hr:TWF r):NZ (zl6 L r):=J7.thn λ_ r1 h1=>(zqw λ_=>zG5).thn λ_ r2 h2=>(zqw λ_=>zG5).thn λ_ r3 h3=>(zqw λ_=>kG).thn λ_ r4 h4=>(zqw λ_=>kG).thn λ_ r5 h5=>(zqw λ_=>kG).thn λ_ r6 h6=>jb.thn λ_ r7 h7=>by
 have w1:=(QM hr h1).wf;have w2:=(Va w1 (λ_ h=>zl8 h) _ _ h2).wf;have w3:=(Va w2 (λ_ h=>zl8 h) _ _ h3).wf;have w4:=(Va w3 (λ_ h=>qj h) _ _ h4).wf;have w5:=(Va w4 (λ_ h=>qj h) _ _ h5).wf;have w6:=(Va w5 (λ_ h=>qj h) _ _ h6).wf
 exact(zUz (xr (zl9 w6).wf h7).wf).thn λ_ _ _=>xN
def VQ{n m:Nat}:NZ (YD n m r):=(YG ae).thn λ_ _ _=>xN
def zU1{p:yZ}{h:Bool}(hr:TWF r)(hk:(hdT r).aM≠3):NZ (zqr p h r):=by
 have tl:=(zF hr hk).wf
 have ok:∀{n m:Nat}{u:Unit}{r2:List ar},YD n m r=.ok (u,r2)->TWF r2:=λ{n m u r2} h=>by rw[(Hf h).1];exact tl
 unfold zqr
 exact .ite (λ_=>VQ.thn λ_ _ h1=>(z01 (ok h1)).thn λ_ _ _=>xN) λ_=>.ite (λ_=>VQ.thn λ_ _ _=>zMs.thn λ_ _ _=>xN) λ_=>.ite (λ_=>VQ.thn λ_ _ _=>zG7.thn λ_ _ _=>xN) λ_ =>
  .ite (λ_=>VQ.thn λ_ _ _=>zG7.thn λ_ _ _=>xN) λ_=>.ite (λ_=>VQ.thn λ_ _ h1=>(zU0 (ok h1)).thn λ_ _ _=>xN) λ_=>.ite (λ_=>VQ.thn λ_ _ _=>z02.thn λ_ _ _=>xN) λ_ =>
  .ite (λ_=>VQ.thn λ_ _ _=>zUx.thn λ_ _ _=>xN) λ_=>.ite (λ_=>(YG ae).thn λ_ _ _=>zUy.thn λ_ _ _=>xN) λ_=>.ite (λ_=>(YG ae).thn λ_ _ _=>kG.thn λ_ _ _=>jb.thn λ_ _ _=>xN) λ_=>zzx ae
end
def zG8:∀(n:Nat)(p:yZ)(h:Bool)(r:List ar),TWF r->NZ (za0 n p h r)
 |0,_,_,_,_=>zfm
 |n+1,p,h,r,hr=>.ite (λ_=>xN) λhk=>(zU1 hr hk).thn λx r1 h1=>zG8 n _ _ _ (zUu hr hk _ _ h1).wf
def zMt{s:ak}(hs:s.length<=8000){e:EE}(h:zgl s=.error e):e.2≠0:=by
 unfold zgl at h;split at h
 ·rename_i p k hl
  cases h;exact zmf _ _ _ _ _ hl
 ·rename_i l hl
  split at h
  ·cases h
  ·rename_i e' he
   cases h;exact zG8 _ _ _ _ (zEs hs hl).1.wf _ he
def zG9{s:ak}(h:s.length<=8000):As s=bc (zUw (zgl s)):=by
 have hne:∀e,zgl s=.error e->e.2≠0:=λe he=>zMt h he
 unfold zgl at hne;unfold As zgl;rw[l_Lex h,bsQ]
 cases hx:zVk s with
 |error y =>
  obtain⟨p,e⟩:=y;have he:=zmf _ _ _ _ _ hx;rw[show lexR (.error (p,e))=([],(p:Int),e) from rfl];dsimp only;rw[df he];rfl
 |ok l =>
  rw[hx]at hne;dsimp only at hne;obtain⟨hs,hp⟩:=zEs h hx;rw[show lexR (.ok l)=(l,0,0) from rfl];dsimp only;rw[show decide ((0:Int)=0)=bg from rfl,bW,cf];have hL:=z0o (b:=BB.mk l 0 [] [] [] [] [] [] [] 0 [] [] [] [] [] [] bd) (l.length+1) l ZK bd [] [] [] [] [] [] KK hs (cS _) (zzv hs) (.inl ⟨rfl,rfl⟩) (.inl ⟨rfl,rfl⟩) (.inl ⟨rfl,rfl⟩) (.inl ⟨rfl,rfl⟩) (.inl ⟨rfl,rfl⟩) (.inl ⟨rfl,rfl⟩)
  have hq:qT l ZK bd l [] [] [] [] [] []=(0,0,bd,[],[],[],[],[],[],[],[],[],[],[],[],[]):=by unfold qT;rw[hp];rfl
  rw[show(BB.mk l 0 [] [] [] [] [] [] [] 0 [] [] [] [] [] [] bd).l=l from rfl,hq]at hL;unfold KR JK zkq zkt
  cases hy:za0 (l.length+1) ZK bd l with
  |ok v =>
   obtain⟨⟨v,hh⟩,r⟩:=v;rw[hy]at hL;obtain⟨⟨y,h1,h2,q1,q2,q3,q4,q5,q6,q7,q8,q9,q10⟩,_⟩:=hL;dsimp only;rw[h1];obtain⟨y1,y2,y3,y4,y5,y6,y7,y8,y9,y10,y11⟩:=y;dsimp only at q1 q2 q3 q4 q5 q6 q7 q8 q9 q10;subst q2 q4 q5 q6 q7 q8 q9 q10;rfl
  |error e =>
   rw[hy]at hL hne;have he:=hne e rfl;obtain⟨h1,h2⟩:=hL;dsimp only;rw[h1,h2]
   show(bif (!(decide (e.2=0)))then _ else bh)=_
   rw[df he];rfl
section code
variable{c1:Int}{c8:Int}{s:ak}
def P_L1{c0:List Def}{c2:List au}{c3:List yt}{c4:List zO}{c5:List Cap}{c6:List av}{c7:List zg}(hl:c0.length<=300)(hs:VR s)(hn:∀x∈c0,zN x.aL=bg)(h:∀x∈c0,okE 12 x.Body=bg)(hq:∀x∈c0,jF x.Body<=5000)(hb:(s++c0.flatMap λx=>yi (zz8 x)).length<=140737488355328):
  jk c0 (bf c0:Nat) c2 c3 c4 c5 c6 c7 c8 KK (0,s)=bc (s++c0.flatMap λx=>yi (zz8 x))/\VR (s++c0.flatMap λx=>yi (zz8 x)):=by
 refine vZ c0 (λx=>yi (zz8 x)) (λK q s=>jk c0 (bf c0:Nat) c2 c3 c4 c5 c6 c7 c8 K (q,s)) 140737488355328 VR ab hs hb (λK i x s hx hI hM=>?_) (λK s=>?_)
 ·have hi:=qN hx
  have hA:=zZ0 (hn x (bL hx)) (h x (bL hx)) (hq x (bL hx))
  have e:yi (zz8 x)=QQ (.inr xJ)++(spT [.inr x.aL,.inr AQ]++(spT [.inr (zQ 12 x.Body)]++[32,59,10])):=by
   show yi (.inr xJ::([.inr x.aL,.inr AQ]++[.inr (zQ 12 x.Body)]))=_
   rw[jT,JZ,asc]
  simp only[e]at hM ⊢;have hM0:=hM;simp only[laQ]at hM0;obtain⟨p1,g1⟩:=Hd (x:=.inr xJ) (l:=[.inr x.aL,.inr AQ]) hI (λy hy=>(hA y (by simp only[zz8,bq,List.not_mem_nil,or_false]at hy ⊢;rcases hy with h|h|h<;>simp[h])).1) af (by simp only[laQ];omega);obtain⟨p2,g2⟩:=zqh g1 (h x (bL hx)) (by simp only[laQ];omega)
  show jk _ _ _ _ _ _ _ _ _ (K+1) ((i:Int),s)=_/\_
  rw[jk];simp only[uC hx,ctQ,z7 hx,bsQ,xg];rw[p1,bsQ,p2,bsQ,yV ab];simp only[asc]at g2 ⊢;exact⟨trivial,g2⟩
 ·show jk _ _ _ _ _ _ _ _ _ (K+1) (_,s)=_
  rw[jk];simp only[jR,cf]
def P_L3{c0:List au}{c2:Int}{c3:List aw}{c5:List Def}{c6:List yt}{c7:List zO}{c8:List Cap}{c9:List av}{c10:List zg}{c11:Int}{c12:ak}{c13:Int}(hl:c3.length<=64)(hs:Good s)(h:∀x∈c3,YL (ztp x))(hb:(s++spT (c3.flatMap ztp)).length<=140737488355328):
  jm c0 c1 c2 c3 (bf c3:Nat) c5 c6 c7 c8 c9 c10 c11 c12 c13 KK (0,s)=bc (s++spT (c3.flatMap ztp))/\Good (s++spT (c3.flatMap ztp)):=by
 rw[Ys]at hb ⊢;refine vZ c3 (λx=>spT (ztp x)) (λK q s=>jm c0 c1 c2 c3 (bf c3:Nat) c5 c6 c7 c8 c9 c10 c11 c12 c13 K (q,s)) 140737488355328 Good ab hs hb (λK i x s hx hI hM=>?_) (λK s=>?_)
 ·have hi:=qN hx
  obtain⟨p1,g1⟩:=vj (l:=ztp x) hI (h x (bL hx)).g (by simp[ztp]) hM;refine⟨?_,g1⟩
  show jm _ _ _ _ _ _ _ _ _ _ _ _ _ _ (K+1) ((i:Int),s)=_
  rw[jm];simp only[uC hx,ctQ,z7 hx,bsQ];rw[show([(br x.aL),(bp x.N)]:List (Int⊕ak))=ztp x from rfl,p1,bsQ,yV ab]
 ·show jm _ _ _ _ _ _ _ _ _ _ _ _ _ _ (K+1) (_,s)=_
  rw[jm];simp only[jR,cf]
def zzy(x:au):yi (Kj x)=QQ (.inr ym)++(spT [.inr x.aL]++(spT (x.Rows.flatMap ztp)++(spT [.inr xh,.inl x.Else]++[32,59,10]))):=by
 show yi (.inr ym::([.inr x.aL]++(x.Rows.flatMap ztp++[.inr xh,.inl x.Else])))=_
 rw[jT];simp only[JZ,asc]
def P_L2{c0:List au}{c2:List Def}{c3:List yt}{c4:List zO}{c5:List Cap}{c6:List av}{c7:List zg}(hl:c0.length<=300)(hs:VR s)(hn:∀x∈c0,zN x.aL=bg)(h:∀x∈c0,A9 x)(hf:∀x∈c0,x.Rows.length<=64)(hb:(s++c0.flatMap λx=>yi (Kj x)).length<=140737488355328):
  jo c0 (bf c0:Nat) c2 c3 c4 c5 c6 c7 c8 KK (0,s)=bc (s++c0.flatMap λx=>yi (Kj x))/\VR (s++c0.flatMap λx=>yi (Kj x)):=by
 refine vZ c0 (λx=>yi (Kj x)) (λK q s=>jo c0 (bf c0:Nat) c2 c3 c4 c5 c6 c7 c8 K (q,s)) 140737488355328 VR ab hs hb (λK i x s hx hI hM=>?_) (λK s=>?_)
 ·have hi:=qN hx
  have hm:=bL hx;have hT:=h x hm;rw[zzy]at hM ⊢;have hM0:=hM;simp only[laQ]at hM0;obtain⟨p1,g1⟩:=Hd (x:=.inr ym) (l:=[.inr x.aL]) hI (zl (xm ae) (zl (vu (hn x hm)) yD)).g af (by simp only[laQ];omega);obtain⟨p2,g2⟩:=P_L3 (c0:=c0) (c1:=(bf c0:Nat)) (c2:=(i:Int)) (c3:=x.Rows) (c5:=c2) (c6:=c3) (c7:=c4) (c8:=c5) (c9:=c6) (c10:=c7) (c11:=c8) (c12:=x.aL) (c13:=x.Else) (hf x hm) g1 (λy hy=>zZ1 (Yu hT y hy) (hT.2.2 y hy)) (by simp only[laQ];omega);obtain⟨p3,g3⟩:=vj (l:=[.inr xh,.inl x.Else]) g2 (zl (xm ae) (zl (yK (we hT.2.1 ab ab)) yD)).g af (by simp only[laQ];omega);obtain⟨p4,g4⟩:=Yr g3 (by simp only[laQ];omega)
  show jo _ _ _ _ _ _ _ _ _ (K+1) ((i:Int),s)=_/\_
  rw[jo];simp only[uC hx,ctQ,z7 hx,bsQ];rw[p1,bsQ,p2,bsQ,p3,bsQ,p4,bsQ,yV ab];simp only[asc]at g4 ⊢;exact⟨trivial,g4⟩
 ·show jo _ _ _ _ _ _ _ _ _ (K+1) (_,s)=_
  rw[jo];simp only[jR,cf]
def zHa(x:yt):yi (ze7 x)=QQ (.inr (bif x.Overlay then yr else yR))++(spT [.inr x.aL]++(spT (x.aA.flatMap ptT)++[32,59,10])):=by
 show yi (.inr (bif x.Overlay then yr else yR)::([.inr x.aL]++x.aA.flatMap ptT))=_
 rw[jT];simp only[JZ,asc]
def P_L4{c0:List yt}{c2:List Def}{c3:List au}{c4:List zO}{c5:List Cap}{c6:List av}{c7:List zg}(hl:c0.length<=300)(hs:VR s)(hn:∀x∈c0,zN x.aL=bg)(h:∀x∈c0,Hs x.aA)(hf:∀x∈c0,x.aA.length<=64)(hb:(s++c0.flatMap λx=>yi (ze7 x)).length<=140737488355328):
  jt c0 (bf c0:Nat) c2 c3 c4 c5 c6 c7 c8 KK (0,s)=bc (s++c0.flatMap λx=>yi (ze7 x))/\VR (s++c0.flatMap λx=>yi (ze7 x)):=by
 refine vZ c0 (λx=>yi (ze7 x)) (λK q s=>jt c0 (bf c0:Nat) c2 c3 c4 c5 c6 c7 c8 K (q,s)) 140737488355328 VR ab hs hb (λK i x s hx hI hM=>?_) (λK s=>?_)
 ·have hi:=qN hx
  have hm:=bL hx;rw[zHa]at hM ⊢;have hM0:=hM;simp only[laQ]at hM0;obtain⟨p1,g1⟩:=Hd (x:=.inr (bif x.Overlay then yr else yR)) (l:=[.inr x.aL]) hI (zl (zql _) (zl (vu (hn x hm)) yD)).g af (by simp only[laQ];omega);obtain⟨p2,g2⟩:=ze9 g1 (zb5 (h x hm)) (hf x hm) (by simp only[laQ];omega)
  have hw:(bif x.Overlay then bc yr else bc yR)=bc (bif x.Overlay then yr else yR):=by cases x.Overlay<;>rfl
  show jt _ _ _ _ _ _ _ _ _ (K+1) ((i:Int),s)=_/\_
  rw[jt];simp only[uC hx,ctQ,z7 hx,bsQ];rw[hw,bsQ,p1,bsQ,p2,bsQ,yV ab];simp only[asc]at g2 ⊢;exact⟨trivial,g2⟩
 ·show jt _ _ _ _ _ _ _ _ _ (K+1) (_,s)=_
  rw[jt];simp only[jR,cf]
def P_L5{c0:List zO}{c2:List Def}{c3:List au}{c4:List yt}{c5:List Cap}{c6:List av}{c7:List zg}(hl:c0.length<=300)(hs:VR s)(hn:∀x∈c0,zN x.aL=bg)(h:∀x∈c0,Yj x)(hf:∀x∈c0,zHo x=bg)(hb:(s++c0.flatMap λx=>yi (VK x)).length<=140737488355328):
  ju c0 (bf c0:Nat) c2 c3 c4 c5 c6 c7 c8 KK (0,s)=bc (s++c0.flatMap λx=>yi (VK x))/\VR (s++c0.flatMap λx=>yi (VK x)):=by
 refine vZ c0 (λx=>yi (VK x)) (λK q s=>ju c0 (bf c0:Nat) c2 c3 c4 c5 c6 c7 c8 K (q,s)) 140737488355328 VR ab hs hb (λK i x s hx hI hM=>?_) (λK s=>?_)
 ·have hi:=qN hx
  have hm:=bL hx;obtain⟨p1,g1⟩:=zFx hI (h x hm) (hn x hm) (hf x hm) hM;refine⟨?_,g1⟩
  show ju _ _ _ _ _ _ _ _ _ (K+1) ((i:Int),s)=_
  rw[ju];simp only[uC hx,ctQ,z7 hx,bsQ,xg];rw[p1,bsQ,yV ab]
 ·show ju _ _ _ _ _ _ _ _ _ (K+1) (_,s)=_
  rw[ju];simp only[jR,cf]
def zHb{i:Nat}(h:i<3):J0[i]?=bc (J0.getD i []):=by
 rw[List.getD_eq_getElem?_getD,bz (show i<J0.length from h)];rfl
def zMu(x:Cap):yi (zFr x)=QQ (.inr Ko)++(spT [.inr x.aL,.inr (J0.getD x.Load.toNat []),.inl x.Limit]++(spT (x.aA.flatMap ptT)++[32,59,10])):=by
 show yi (.inr Ko::([.inr x.aL,.inr (J0.getD x.Load.toNat []),.inl x.Limit]++x.aA.flatMap ptT))=_
 rw[jT];simp only[JZ,asc]
def P_L6{c0:List Cap}{c2:List Def}{c3:List au}{c4:List yt}{c5:List zO}{c6:List av}{c7:List zg}(hl:c0.length<=300)(hs:VR s)(hn:∀x∈c0,zN x.aL=bg)(h:∀x∈c0,zLb x)(hf:∀x∈c0,x.aA.length<=64)(hb:(s++c0.flatMap λx=>yi (zFr x)).length<=140737488355328):
  jv c0 (bf c0:Nat) c2 c3 c4 c5 c6 c7 c8 KK (0,s)=bc (s++c0.flatMap λx=>yi (zFr x))/\VR (s++c0.flatMap λx=>yi (zFr x)):=by
 refine vZ c0 (λx=>yi (zFr x)) (λK q s=>jv c0 (bf c0:Nat) c2 c3 c4 c5 c6 c7 c8 K (q,s)) 140737488355328 VR ab hs hb (λK i x s hx hI hM=>?_) (λK s=>?_)
 ·have hi:=qN hx
  have hm:=bL hx;obtain⟨k1,k2,k3⟩:=h x hm;rw[zMu]at hM ⊢;have hM0:=hM;simp only[laQ]at hM0;obtain⟨p1,g1⟩:=Hd (x:=.inr Ko) (l:=[.inr x.aL,.inr (J0.getD x.Load.toNat []),.inl x.Limit]) hI (zl (xm ae) (zl (vu (hn x hm)) (zl (zqk ab) (zl (yK (we k2 ab ab)) yD)))).g af (by simp only[laQ];omega);obtain⟨p2,g2⟩:=ze9 g1 (zb5 k3) (hf x hm) (by simp only[laQ];omega)
  show jv _ _ _ _ _ _ _ _ _ (K+1) ((i:Int),s)=_/\_
  rw[jv];simp only[uC hx,ctQ,z7 hx,bsQ,zqg];rw[zB (show 0<=x.Load/\x.Load<((bf J0:Nat):Int) by rw[show J0.length=3 from rfl];omega),bsQ,zHb (show x.Load.toNat<3 by omega),bsQ,p1,bsQ,p2,bsQ,yV ab];simp only[asc]at g2 ⊢;exact⟨trivial,g2⟩
 ·show jv _ _ _ _ _ _ _ _ _ (K+1) (_,s)=_
  rw[jv];simp only[jR,cf]
def P_L8{c0:List av}{c2:Int}{c3:List zg}{c5:List Def}{c6:List au}{c7:List yt}{c8:List zO}{c9:List Cap}{c10:List zg}{c11:Int}(hl:c3.length<=64)(hs:Good s)(h:∀x∈c3,YL (YK x))(hb:(s++spT (c3.flatMap YK)).length<=140737488355328):
  jw c0 c1 c2 c3 (bf c3:Nat) c5 c6 c7 c8 c9 c10 c11 KK (0,s)=bc (s++spT (c3.flatMap YK))/\Good (s++spT (c3.flatMap YK)):=by
 rw[Ys]at hb ⊢;refine vZ c3 (λx=>spT (YK x)) (λK q s=>jw c0 c1 c2 c3 (bf c3:Nat) c5 c6 c7 c8 c9 c10 c11 K (q,s)) 140737488355328 Good ab hs hb (λK i x s hx hI hM=>?_) (λK s=>?_)
 ·have hi:=qN hx
  obtain⟨p1,g1⟩:=vj (l:=YK x) hI (h x (bL hx)).g (by simp[YK]) hM;refine⟨?_,g1⟩
  show jw _ _ _ _ _ _ _ _ _ _ _ _ (K+1) ((i:Int),s)=_
  rw[jw];simp only[uC hx,ctQ,z7 hx,bsQ];rw[show([(bp x.X),(bp x.Y),(bp x.Z_)]:List (Int⊕ak))=YK x from rfl,p1,bsQ,yV ab]
 ·show jw _ _ _ _ _ _ _ _ _ _ _ _ (K+1) (_,s)=_
  rw[jw];simp only[jR,cf]
def zHc(x:av):yi (ze8 x)=QQ (.inr ql)++(spT [.inr x.aL,.inl x.Eye.X,.inl x.Eye.Y,.inl x.Eye.Z_,.inr vO,.inl x.Least,.inr xQ]++(spT (x.Targets.flatMap YK)++[32,59,10])):=by
 show yi (.inr ql::([.inr x.aL,.inl x.Eye.X,.inl x.Eye.Y,.inl x.Eye.Z_,.inr vO,.inl x.Least,.inr xQ]++x.Targets.flatMap YK))=_
 rw[jT];simp only[JZ,asc]
def P_L7{c0:List av}{c2:List Def}{c3:List au}{c4:List yt}{c5:List zO}{c6:List Cap}{c7:List zg}(hl:c0.length<=300)(hs:VR s)(hn:∀x∈c0,zN x.aL=bg)(h:∀x∈c0,Zz x)(hf:∀x∈c0,x.Targets.length<=64)(hb:(s++c0.flatMap λx=>yi (ze8 x)).length<=140737488355328):
  jx c0 (bf c0:Nat) c2 c3 c4 c5 c6 c7 c8 KK (0,s)=bc (s++c0.flatMap λx=>yi (ze8 x))/\VR (s++c0.flatMap λx=>yi (ze8 x)):=by
 refine vZ c0 (λx=>yi (ze8 x)) (λK q s=>jx c0 (bf c0:Nat) c2 c3 c4 c5 c6 c7 c8 K (q,s)) 140737488355328 VR ab hs hb (λK i x s hx hI hM=>?_) (λK s=>?_)
 ·have hi:=qN hx
  have hm:=bL hx;obtain⟨k1,k2,k3,k4⟩:=h x hm;obtain⟨e1,e2,e3⟩:=Yt k3;rw[zHc]at hM ⊢;have hM0:=hM;simp only[laQ]at hM0;obtain⟨p1,g1⟩:=Hd (x:=.inr ql) (l:=[.inr x.aL,.inl x.Eye.X,.inl x.Eye.Y,.inl x.Eye.Z_,.inr vO,.inl x.Least,.inr xQ]) hI (zl (xm ae) (zl (vu (hn x hm)) (zl (yK e1) (zl (yK e2) (zl (yK e3) (zl (xm ae) (zl (yK (we k1 ab ab)) (zl (xm ae) yD)))))))).g af (by simp only[laQ];omega);obtain⟨p2,g2⟩:=P_L8 (c0:=c0) (c1:=(bf c0:Nat)) (c2:=(i:Int)) (c3:=x.Targets) (c5:=c2) (c6:=c3) (c7:=c4) (c8:=c5) (c9:=c6) (c10:=c7) (c11:=c8) (hf x hm) g1 (λy hy=>zzr (Yt (k4 y hy))) (by simp only[laQ];omega);obtain⟨p3,g3⟩:=Yr g2 (by simp only[laQ];omega)
  show jx _ _ _ _ _ _ _ _ _ (K+1) ((i:Int),s)=_/\_
  rw[jx];simp only[uC hx,ctQ,z7 hx,bsQ];rw[p1,bsQ,p2,bsQ,p3,bsQ,yV ab];simp only[asc]at g3 ⊢;exact⟨trivial,g3⟩
 ·show jx _ _ _ _ _ _ _ _ _ (K+1) (_,s)=_
  rw[jx];simp only[jR,cf]
end code
def zar(p:zg):List Tok:=.inr kP::YK p
def z03{l:List zg}{c2:List Def}{c3:List au}{c4:List yt}{c5:List zO}{c6:List Cap}{c7:List av}{c8:Int}(hl:l.length<=64)(h:∀x∈l,zz7 x):∀(r:List zg)(i K:Nat)(s:ak),1<=i->l.drop i=r->i<=l.length->r.length<K->Good s->(s++r.flatMap λx=>spT (zar x)).length<=140737488355328 ->
  jy l (bf l:Nat) c2 c3 c4 c5 c6 c7 c8 K ((i:Int),s)=bc (s++r.flatMap λx=>spT (zar x))/\Good (s++r.flatMap λx=>spT (zar x))
 |[],i,K,s,h1,hr,hi,hK,hI,hM=>by
  obtain⟨K,rfl⟩:∃k,K=k+1:=⟨K-1,by simp at hK;omega⟩
  have:=drop_nil hr hi;subst this;rw[jy];simp only[jR,cf,dx,bE,true_and];exact hI
 |x::r,i,K,s,h1,hr,hi,hK,hI,hM=>by
  obtain⟨K,rfl⟩:∃k,K=k+1:=⟨K-1,by simp at hK;omega⟩
  obtain⟨g1,g2,g3⟩:=xA hr;simp only[lc]at hK;rw[bO,<- asc]at hM ⊢;obtain⟨p1,p2⟩:=vj (l:=zar x) hI (zl (xm ae) (zzr (zlz (h x (bL g1))))).g (by simp[zar,YK]) (by rw[laQ]at hM;omega);rw[jy];simp only[uC g1,ctQ,z7 g1,bsQ]
  rw[show min (i:Int) 1=1 by omega,zB ae,bsQ,show(([Af,kP]:List ak))[(bX 1)]?=bc kP from rfl,bsQ,
   show([(br kP),(bp x.X),(bp x.Y),(bp x.Z_)]:List (Int⊕ak))=zar x from rfl,p1,bsQ,yV ab]
  exact z03 hl h r (i+1) K _ ab g2 ab ab p2 hM
def zMv(p:zg)(r:List zg):yi (zFs (p::r))=QQ (.inr Af)++(spT (YK p)++((r.flatMap λx=>spT (zar x))++[32,59,10])):=by
 show yi (.inr Af::(YK p++r.flatMap zar))=_
 rw[jT];simp only[JZ,asc,Ys]
def P_L9{l:List zg}{c2:List Def}{c3:List au}{c4:List yt}{c5:List zO}{c6:List Cap}{c7:List av}{c8:Int}{s:ak}(hl:l.length<=64)(hs:VR s)(h:∀x∈l,zz7 x)(hb:(s++(bif l.isEmpty then[]else yi (zFs l))).length<=140737488355328):
  (jy l (bf l:Nat) c2 c3 c4 c5 c6 c7 c8 KK (0,s)).bind (λx8=>((bif (decide (((bf l:Nat):Int)>0))then(qH x8).bind λx10=>bc x10 else bc x8)))=bc (s++(bif l.isEmpty then[]else yi (zFs l)))/\VR (s++(bif l.isEmpty then[]else yi (zFs l))):=by
 obtain⟨k,hk⟩:∃k,KK=k+1:=⟨KK-1,by have:=vJ (n:=100) ab;omega⟩
 have hkl:l.length<k+1:=by rw[<- hk];exact vJ ab
 cases l with
 |nil =>
  rw[hk,jy];simp only[fy,ctQ,bE,bI];exact⟨rfl,hs⟩
 |cons p r =>
  simp only[gH,cf]at hb ⊢;rw[zMv]at hb ⊢;have hM0:=hb;simp only[laQ]at hM0;simp only[lc]at hkl;have hp:=h p al;obtain⟨p1,g1⟩:=Hd (x:=.inr Af) (l:=YK p) hs (zl (xm ae) (zzr (zlz hp))).g (by simp[YK]) (by simp only[laQ];omega);obtain⟨p2,g2⟩:=z03 (l:=p::r) (c2:=c2) (c3:=c3) (c4:=c4) (c5:=c5) (c6:=c6) (c7:=c7) (c8:=c8) hl h r 1 k _ ab rfl af ab g1 (by simp only[laQ];omega);obtain⟨p3,g3⟩:=Yr g2 (by simp only[laQ];omega);rw[hk,jy];have h0:(p::r)[0]?=bc p:=rfl;have d0:decide ((0:Int)<(((p::r).length:Nat):Int))=bg:=uC h0;have i0:idx (p::r) 0=bc p:=z7 h0;simp only[d0,ctQ,i0,bsQ]
  rw[show min (0:Int) 1=0 from rfl,zB ae,bsQ,show(([Af,kP]:List ak))[(bX 0)]?=bc Af from rfl,bsQ,
   show([(br Af),(bp p.X),(bp p.Y),(bp p.Z_)]:List (Int⊕ak))=.inr Af::YK p from rfl,p1,bsQ,show w64 (0+1)=((1:Nat):Int) from rfl,p2,bsQ]
  rw[p3];simp only[asc,bsQ,true_and]at g3 ⊢;exact g3
def zU2{s:ak}{n:Int}(hs:VR s)(h:0<=n/\n<=24)(hb:(s++(if n=0 then[]else yi (Q9 n))).length<=140737488355328):
  ((bif (!(decide (n=0)))then(yB s ([(br vA),(bp n)]:List (Int⊕ak))).bind λx12=>aN (qH x12) λx13=>bc x13 else bc s))=bc (s++(if n=0 then[]else yi (Q9 n))):=by
 by_cases h0:n=0
 ·rw[aP h0,dt h0,bE];rfl
 ·rw[aO h0]at hb ⊢
  have e:yi (Q9 n)=QQ (.inr vA)++(spT [.inl n]++[32,59,10]):=jT _ _;rw[e]at hb ⊢;have hM0:=hb;simp only[laQ]at hM0;obtain⟨p1,g1⟩:=Hd (x:=.inr vA) (l:=[.inl n]) hs (zF1 h).g af (by simp only[laQ];omega);obtain⟨p2,g2⟩:=Yr g1 (by simp only[laQ];omega);rw[df h0,cK,ctQ,p1,bsQ,p2];simp only[asc,bsQ]
noncomputable def zHd(p:yZ):ak×Int:=bif pd (Q8 p)then(if(Kk p).length<=8000 then(Kk p,0)else([],6))else([],1)
def zMw{p:yZ}(hf:zZm p):zdn p=bc (zHd p):=by
 unfold zdn zHd;rw[zLc hf,bsQ]
 cases hr:pd (Q8 p)with
 |false=>rfl
 |true =>
  have hR:=jE.1 hr;have hb:=zF3 hf hR;have nm:=zl0 hR;obtain⟨_,⟨b1,b2,b3,b4,b5,b6,b7⟩,hh,hs⟩:=hR;simp only[bW,cf,ctQ];have hb0:=hb;simp only[Kk,laQ]at hb0;obtain⟨p1,g1⟩:=P_L1 (c0:=p.aF) (c2:=p.Tables) (c3:=p.aB) (c4:=p.aE) (c5:=p.aJ) (c6:=p.aG) (c7:=p.aK) (c8:=p.aI) (s:=[]) hf.d (.inl rfl) nm.d b1 (λx hx=>(Yi (hf.ds x hx).2).1) (by simp only[bN];omega);rw[bN]at p1 g1;generalize hs1:(p.aF.flatMap λx=>yi (zz8 x))=s1 at p1 g1 hb0;obtain⟨p2,g2⟩:=P_L2 (c0:=p.Tables) (c2:=p.aF) (c3:=p.aB) (c4:=p.aE) (c5:=p.aJ) (c6:=p.aG) (c7:=p.aK) (c8:=p.aI) hf.t g1 nm.t b2 (λx hx=>(hf.ts x hx).2.1) (by simp only[laQ];omega);generalize hs2:(p.Tables.flatMap λx=>yi (Kj x))=s2 at p2 g2 hb0;obtain⟨p3,g3⟩:=P_L4 (c0:=p.aB) (c2:=p.aF) (c3:=p.Tables) (c4:=p.aE) (c5:=p.aJ) (c6:=p.aG) (c7:=p.aK) (c8:=p.aI) hf.z g2 nm.z b3 (λx hx=>(hf.zs x hx).2) (by simp only[laQ];omega);generalize hs3:(p.aB.flatMap λx=>yi (ze7 x))=s3 at p3 g3 hb0;obtain⟨p4,g4⟩:=P_L5 (c0:=p.aE) (c2:=p.aF) (c3:=p.Tables) (c4:=p.aB) (c5:=p.aJ) (c6:=p.aG) (c7:=p.aK) (c8:=p.aI) hf.r g3 nm.r b4 hf.rs (by simp only[laQ];omega);generalize hs4:(p.aE.flatMap λx=>yi (VK x))=s4 at p4 g4 hb0;obtain⟨p5,g5⟩:=P_L6 (c0:=p.aJ) (c2:=p.aF) (c3:=p.Tables) (c4:=p.aB) (c5:=p.aE) (c6:=p.aG) (c7:=p.aK) (c8:=p.aI) hf.c g4 nm.c b5 (λx hx=>(hf.cs x hx).2) (by simp only[laQ];omega);generalize hs5:(p.aJ.flatMap λx=>yi (zFr x))=s5 at p5 g5 hb0;obtain⟨p6,g6⟩:=P_L7 (c0:=p.aG) (c2:=p.aF) (c3:=p.Tables) (c4:=p.aB) (c5:=p.aE) (c6:=p.aJ) (c7:=p.aK) (c8:=p.aI) hf.v g5 nm.v b6 (λx hx=>(hf.vs x hx).2) (by simp only[laQ];omega);generalize hs6:(p.aG.flatMap λx=>yi (ze8 x))=s6 at p6 g6 hb0;obtain⟨p7,g7⟩:=P_L9 (l:=p.aK) (c2:=p.aF) (c3:=p.Tables) (c4:=p.aB) (c5:=p.aE) (c6:=p.aJ) (c7:=p.aG) (c8:=p.aI) hf.s g6 b7 (by simp only[laQ];omega)
  generalize hs7:(bif p.aK.isEmpty then[]else yi (zFs p.aK))=s7 at p7 g7 hb0;have p8:=zU2 g7 hh (by simp only[laQ];omega)
  have e:s1++s2++s3++s4++s5++s6++s7++(if p.aI=0 then[]else yi (Q9 p.aI))=Kk p:=by
   unfold Kk;rw[hs1,hs2,hs3,hs4,hs5,hs6,hs7];simp only[asc]
  rw[e]at p8;rw[p1,bsQ,p2,bsQ,p3,bsQ,p4,bsQ,p5,bsQ,p6,bsQ];rw[<- cy,p7,bsQ,p8,bsQ];unfold zsd HP;rw[bsQ];by_cases hl:(Kk p).length<=8000
  ·rw[aP hl,df ab];rfl
  ·rw[aO hl,dt ab];rfl
def zzz{ds:List Decl}{p:yZ}{h:Bool}(hs:zmo ZK bd ds)(hr:zme ZK bd ds=(p,h)):zgl (ds.flatMap yh)=.ok p:=by
 obtain⟨l,q,h1,h2⟩:=zO0 (z0y (zb8 (YE hs)));unfold zgl;rw[h2];dsimp only;have hlen:=aQ bf h1;rw[bJ]at hlen;have:=zqv ds
 obtain⟨m,hm⟩:∃m,(l++[K4 q]).length+1=ds.length+(m+1):=⟨l.length+1-ds.length,by simp only[laQ,lc,bI];omega⟩
 rw[hm,zfj ds (m+1) ZK bd l [K4 q] hs h1 (show TWF [K4 q] from rfl),hr,za0,aP (show(hdT [K4 q]).aM=3 from rfl)]
def ks_lt:∀k∈KS,k<8:=ae
def zMx(p:yZ):yZ.mk p.aF p.Tables p.aB p.aE p.aJ p.aG p.aK p.aI=p:=rfl
def zHe(x:Int)(k:Nat)(hk:k<=62):(IntKind.i64.wrap ((cv IntKind.i64.bits x &&& cv IntKind.i64.bits (2 ^ k-1)).toNat:Int))=x % 2 ^ k:=by
 have hb:IntKind.i64.bits=64:=rfl;have hp:(2:Nat) ^ k<=2 ^ 62:=Nat.pow_le_pow_right ab hk;have hp0:0<(2:Nat) ^ k:=lj k
 have e1:(cv IntKind.i64.bits (2 ^ k-1)).toNat=2 ^ k-1:=by
  rw[iA,hb]
  have:((2:Int) ^ k-1)=((2 ^ k-1:Nat):Int):=by
   rw[Int.natCast_sub ab];simp
  rw[this,Int.emod_eq_of_lt ab ab];rfl
 rw[BitVec.toNat_and,e1,Nat.and_two_pow_sub_one_eq_mod,iA,hb]
 have hm:(((x % ((2 ^ 64:Nat):Int)).toNat % 2 ^ k:Nat):Int)=x % 2 ^ k:=by
  rw[Int.natCast_emod,dN (eX _ ae),fM];refine Int.emod_emod_of_dvd x ?_
  have:(2 ^ 64:Nat)=2 ^ k*2 ^ (64-k):=by rw[<- Nat.pow_add,show k+(64-k)=64 by omega]
  have h2:((2 ^ k:Nat):Int) ∣ ((2 ^ 64:Nat):Int):=by
   rw[this,Int.natCast_mul];exact Int.dvd_mul_right _ _
  simpa using h2
 rw[hm]
 have hlt:x % 2 ^ k<2 ^ k:=iC _ (by
  have:((2 ^ k:Nat):Int)=(2:Int) ^ k:=fM 2 k
  omega)
 have h0:0<=x % 2 ^ k:=eX _ (by
  have:((2 ^ k:Nat):Int)=(2:Int) ^ k:=fM 2 k
  omega)
 have hc:(2:Int) ^ k=((2 ^ k:Nat):Int):=(fM 2 k).symm;exact xY ab ab
def zHf(x:Int):w64 x % 8=x % 8:=by
 have:∃q:Int,w64 x=x+q*18446744073709551616:=by
  have h0:=Int.emod_add_mul_ediv x 18446744073709551616
  have e:w64 x=if x % 18446744073709551616>=9223372036854775808 then x % 18446744073709551616-18446744073709551616 else x % 18446744073709551616:=by
   unfold w64 IntKind.wrap;simp[IntKind.bits,IntKind.signed]
  rw[e];split
  ·exact⟨-(x / 18446744073709551616)-1,ab⟩
  ·exact⟨-(x / 18446744073709551616),ab⟩
 obtain⟨q,hq⟩:=this;rw[hq];omega
def jsO(m:Nat):List Nat:=(cL 8).map λk=>(m+5*k) % 8
def zU3:∀m<8,(jsO m).Perm KS:=ah
def zMy:∀m<8,(jsO m).Nodup:=ah
def js_lt(m:Nat):∀j∈jsO m,j<8:=λj hj=>by
 obtain⟨k,_,rfl⟩:=bu.1 hj;exact fD _ ae
def z04:∀m<8,∀k<8,k∈(jsO m).reverse++[]:=ah
def zi3{p:yZ}{k:Nat}:∀d∈decls p k,YF d=k:=λd hd=>by
 match k,hd with
 |0,hd=>obtain⟨x,_,rfl⟩:=bu.1 hd;rfl
 |1,hd=>obtain⟨x,_,rfl⟩:=bu.1 hd;rfl
 |2,hd=>obtain⟨x,_,rfl⟩:=bu.1 hd;rfl
 |3,hd=>obtain⟨x,_,rfl⟩:=bu.1 hd;rfl
 |4,hd=>obtain⟨x,_,rfl⟩:=bu.1 hd;rfl
 |5,hd=>obtain⟨x,_,rfl⟩:=bu.1 hd;rfl
 |6,hd =>
  simp only[decls]at hd
  cases hs:p.aK.isEmpty with
  |true=>rw[hs]at hd;cases hd
  |false=>rw[hs]at hd;rw[msQ.1 hd];rfl
 |7,hd =>
  simp only[decls]at hd;split at hd
  ·cases hd
  ·rw[msQ.1 hd];rfl
 |_+8,hd=>cases hd
def zas{p:yZ}{j:Nat}:∀ks:List Nat,ks.Nodup->(ks.flatMap (decls p)).filter (λd=>decide (YF d=j))=if j∈ks then decls p j else[]
 |[],_=>rfl
 |k::ks,hd=>by
  obtain⟨d1,d2⟩:=cA.1 hd;rw[bO,List.filter_append,zas ks d2];by_cases hj:k=j
  ·subst hj
   rw[aO d1,aP al,bE]
   exact List.filter_eq_self.2 λd hd=>dt (zi3 d hd)
  ·have:(decls p k).filter (λd=>decide (YF d=j))=[]:=List.filter_eq_nil_iff.2 λd hd=>by
    have:=zi3 d hd;simp[this,hj]
   rw[this,bN];by_cases hm:j∈ks
   ·rw[aP hm,aP (mcQ _ hm)]
   ·rw[aO hm,aO λh=>by
     rcases bq.1 h with e|e
     ·exact hj e.symm
     ·exact hm e]
def zMz{a b:List Decl}(h:a.Sublist b):(a.flatMap yh).length<=(b.flatMap yh).length:=by
 induction h with
 |slnil=>exact dj _
 |cons t _ ih=>rw[bO,laQ];exact cU ih (Nat.le_add_left _ _)
 |cons_cons t _ ih=>rw[bO,bO,laQ,laQ];exact il ih _
section
variable{c2:Bool}{c3:ak}{c6:List Def}{c7:List au}{c8:List yt}{c9:List zO}{c10:List Cap}{c11:List av}{c12:List zg}{c13:Int}{turn cut:Int}{ds:List Decl}
def zM0(hd:∀d∈ds,AR d)(hl:(ds.flatMap yh).length<=1000000)(hn:ds.length<=1000000){k j:Nat}(hk:k<8)(hj:(turn+5*(k:Int)) % 8=(j:Int))(s:ak)(hs:s.length<=100000000):
  z8 turn cut c2 c3 (ds.map yh) (k:Int) c6 c7 c8 c9 c10 c11 c12 c13 KK (s,0)=bc (s++(ds.filter λd=>decide (YF d=j)).flatMap yh):=by
 have hm:(IntKind.i64.wrap ((cv IntKind.i64.bits (w64 (turn+(w64 (5*(k:Int))))) &&& cv IntKind.i64.bits 7).toNat:Int))=(j:Int):=by
  have:=zHe (w64 (turn+(w64 (5*(k:Int))))) 3 ab;rw[show((2:Int) ^ 3-1)=7 from rfl,show((2:Int) ^ 3)=8 from rfl,zHf]at this;rw[this];have:=zHf (5*(k:Int));omega
 have key:=Yg ds (λ(s:ak) d=>bif decide (YF d=j)then s++yh d else s) (λs=>bc s) (λi s=>s.length<=100000000+i*1000000) (λK q s=>z8 turn cut c2 c3 (ds.map yh) (k:Int) c6 c7 c8 c9 c10 c11 c12 c13 K (s,q)) s ab ab (λK i d s hx hs=>by
  have hi:=qN hx;have hmem:=bL hx
  have hx2:(ds.map yh)[i]?=bc (yh d):=by rw[cz,hx];rfl
  have hll:(yh d).length<=1000000:=by
   obtain⟨a,b,e⟩:=gm hmem;rw[e]at hl;simp only[dy,bO,laQ]at hl;omega
  constructor
  ·show z8 _ _ _ _ _ _ _ _ _ _ _ _ _ _ (K+1) (s,(i:Int))=_
   rw[z8];simp only[uC hx2,ctQ,z7 hx2,bsQ,zUt (hd d hmem),hm,yV (show i<9223372036854775807 by omega)];rw[show decide (((YF d:Nat):Int)=(j:Int))=decide (YF d=j) from yE ab];cases decide (YF d=j)
   ·rfl
   ·rw[ctQ,zB ab];rfl
  ·cases decide (YF d=j)
   ·exact cU (m:=100000000+i*1000000) hs (il (Nat.mul_le_mul_right _ (Nat.le_succ i)) _)
   ·have hs:s.length<=100000000+i*1000000:=hs
    have e:(s++yh d).length<=100000000+(i+1)*1000000:=by
     clear hm hj;rw[laQ];omega
    exact e) (λK s _=>by
  show z8 _ _ _ _ _ _ _ _ _ _ _ _ _ _ (K+1) (s,_)=_
  rw[z8,show decide (((ds.length:Nat):Int)<(bf (ds.map yh):Nat))=bd from df (by rw[bJ];omega)];rfl)
 have hf:∀(l:List Decl)(s:ak),l.foldl (λ(s:ak) d=>bif decide (YF d=j)then s++yh d else s) s=s++(l.filter λd=>decide (YF d=j)).flatMap yh:=λl=>by
  induction l with
  |nil=>intro s;simp
  |cons d l ih =>
   intro s;rw[dv,ih,List.filter_cons];cases decide (YF d=j)<;>simp
 rw[key.1,hf]
def zM1{p:yZ}(hds:ds=KS.flatMap (decls p))(hd:∀d∈ds,AR d)(hl:(ds.flatMap yh).length<=1000000)(hn:ds.length<=1000000){m:Nat}(hm:(turn % 8)=(m:Int))(hm8:m<8):
  yl turn cut c2 c3 (ds.map yh) c6 c7 c8 c9 c10 c11 c12 c13 KK ([],0)=bc (((jsO m).flatMap (decls p)).flatMap yh):=by
 obtain⟨K,hK⟩:=zPu
 have hfl:∀j<8,(ds.filter λd=>decide (YF d=j))=decls p j:=λj hj=>by
  rw[hds,zas KS ae,aP (by
   have:∀k<8,k∈KS:=ae
   exact this j hj)]
 have hone:∀j<8,((decls p j).flatMap yh).length<=1000000:=λj hj=>by
  rw[<- hfl j hj];exact cU (zMz List.filter_sublist) hl
 have step:∀n,n<=8->yl turn cut c2 c3 (ds.map yh) c6 c7 c8 c9 c10 c11 c12 c13 KK ([],0)=yl turn cut c2 c3 (ds.map yh) c6 c7 c8 c9 c10 c11 c12 c13 (K+10-n) ((((cL n).map λk=>(m+5*k) % 8).flatMap (decls p)).flatMap yh,(n:Int))/\((((cL n).map λk=>(m+5*k) % 8).flatMap (decls p)).flatMap yh).length<=n*1000000:=by
  intro n
  induction n with
  |zero=>intro _;exact⟨by rw[hK];rfl,af⟩
  |succ n ih =>
   intro hn8;obtain⟨i1,i2⟩:=ih ab;have hj:=hone ((m+5*n) % 8) (fD _ ae);rw[List.range_succ,bU,dy,dy,show([n].map λk=>(m+5*k) % 8).flatMap (decls p)=decls p ((m+5*n) % 8) by simp];refine⟨?_,by rw[laQ];omega⟩;rw[i1,show K+10-n=K+10-(n+1)+1 by omega,yl];dsimp only;rw[dt (show(n:Int)<8 by omega),ctQ,zM0 hd hl hn (k:=n) (j:=(m+5*n) % 8) ab ab _ ab,bsQ,yV ab,hfl _ (fD _ ae)]
 obtain⟨s1,_⟩:=step 8 aq;rw[s1,show K+10-8=K+1+1 by omega,yl];rfl
theorem zM2{b:Bool}{c:Nat}{d0:Decl}(hc:ds[c]?=bc d0)(hd:∀d∈ds,AR d)(hl:(ds.flatMap yh).length<=1000000)(hn:ds.length<=1000000):
  yF b (ds.map yh) (c:Int) KK ([],0)=bc ((ds.take c).flatMap yh++((jq (AS d0)++[32])++(ds.drop (c+1)).flatMap yh)):=by
 have hline:∀d∈ds,(yh d).length<=1000000:=λd hmem=>by
  obtain⟨a,b,e⟩:=gm hmem;rw[e]at hl;simp only[dy,bO,laQ]at hl;omega
 have go:∀(r:List Decl)(i K:Nat)(s:ak),ds.drop i=r->i<=ds.length->r.length<K->s.length<=i*1000000 ->
   yF b (ds.map yh) (c:Int) K (s,(i:Int))=bc (s++if i<=c then(r.take (c-i)).flatMap yh++((jq (AS d0)++[32])++(ds.drop (c+1)).flatMap yh)else r.flatMap yh):=by
  intro r
  induction r with
  |nil =>
   intro i K s hr hi hK hs
   obtain⟨K,rfl⟩:∃m,K=m+1:=⟨K-1,by simp at hK;omega⟩
   have:=drop_nil hr hi;subst this;have:=qN hc;rw[yF,aO ab,show decide (((ds.length:Nat):Int)<(bf (ds.map yh):Nat))=bd from df (by rw[bJ];omega)];simp
  |cons d r ih =>
   intro i K s hr hi hK hs
   obtain⟨K,rfl⟩:∃m,K=m+1:=⟨K-1,by simp at hK;omega⟩
   obtain⟨h1,h2,h3⟩:=xA hr;simp only[lc]at hK;have hmem:=bL h1
   have hx2:(ds.map yh)[i]?=bc (yh d):=by rw[cz,h1];rfl
   have hll:=hline d hmem;rw[yF];simp only[uC hx2,ctQ,z7 hx2,bsQ,yV (show i<9223372036854775807 by omega)];by_cases hic:i=c
   ·subst hic
    obtain rfl:d=d0:=Option.some.inj (h1.symm.trans hc)
    have hj:yh d=(jq (AS d)++[32])++[59,10]:=by
     unfold yh;rw[zfb (hd d hmem),asc];rfl
    have hcut:cut (yh d) 0 (max 0 (w64 (((bf (yh d):Nat):Int)-2)))=bc (jq (AS d)++[32]):=by
     have hlen:=aQ bf hj;rw[laQ (b:=[59,10]),show([59,10]:ak).length=2 from rfl]at hlen;rw[xY ab ab,show max 0 (((bf (yh d):Nat):Int)-2)=(((jq (AS d)++[32]).length:Nat):Int) by omega,Yb ab,hj,dK]
    rw[dt rfl,bW,cf,hcut,bsQ];have hlen:=aQ bf hj;rw[laQ (b:=[59,10])]at hlen;rw[zB ab,bsQ,bsQ,ih (i+1) K _ h2 ab ab (by rw[laQ];omega),aO ab,aP aq,Nat.sub_self,List.take_zero,dx,bN,<- h2,asc]
   ·rw[df (show ¬(i:Int)=(c:Int) by omega),cK,ctQ,zB ab,bsQ,bsQ,ih (i+1) K _ h2 ab ab (by rw[laQ];omega)]
    by_cases hle:i<=c
    ·rw[aP ab,aP hle,show c-i=c-(i+1)+1 by omega,eR,bO]
     simp only[asc]
    ·rw[aO ab,aO hle,bO,asc]
 have:=go ds 0 KK [] rfl (cj _) (vJ ab) (cj _);rw[aP (cj _)]at this;exact this
end
def zU4(d:Decl)(q:Int)(r:List ar):isB yc (tk (kwQ (jJ d)) q::r)=bd:=by
 have hm:jJ d∈[xJ,ym,yR,yr,jN,Ko,ql,Af,vA]:=by
  cases d with
  |z x=>cases ho:x.Overlay<;>simp[jJ,ho]
  |_=>simp[jJ]
 have:∀w∈[xJ,ym,yR,yr,jN,Ko,ql,Af,vA],decide (w=yc)=bd:=ae
 rw[zE];exact(cr _).trans (this _ hm)
def zM3{ds:List Decl}(hs:zmo ZK bd ds){c:Nat}{d0:Decl}(hc:ds[c]?=bc d0):∃e,zgl ((ds.take c).flatMap yh++((jq (AS d0)++[32])++(ds.drop (c+1)).flatMap yh))=.error (e,14):=by
 have hd:=YE hs
 have hsplit:ds=ds.take c++([d0]++ds.drop (c+1)):=by
  have hlt:=qN hc
  have e:ds.drop c=d0::ds.drop (c+1):=by
   rw[gB hlt]
   congr 1
   exact Option.some.inj ((bz hlt).symm.trans hc)
  have:=eG c ds;rw[e]at this;exact this.symm
 have h0:AR d0:=hd d0 (bL hc)
 have ht:∀d∈ds.take c,AR d:=λd h=>hd d (List.mem_of_mem_take h)
 have hr:∀d∈ds.drop (c+1),AR d:=λd h=>hd d (List.mem_of_mem_drop h)
 obtain⟨l,q,h1,h2⟩:=zO0 (z0y (zG0 (zb8 ht) (zG0 (z0z h0) (zb8 hr))));obtain⟨la,lb,rfl,ea,eb⟩:=wh h1;obtain⟨lm,lr,rfl,em,er⟩:=wh eb
 have hst:Stop (lr++[K4 q])/\isB yc (lr++[K4 q])=bd:=by
  cases hx:ds.drop (c+1)with
  |nil =>
   rw[hx]at er;obtain rfl:=map_nil er;exact⟨zMd q,rfl⟩
  |cons d r =>
   rw[hx]at er;have hw:=kh (zfi hr) (by rw[hx];exact er) (show TWF [K4 q] from rfl);obtain⟨p,l',rfl,_⟩:=map_cons (show lr.map t3=kwQ (jJ d)::(QR d++[sgQ yc]++Vb r) from er);refine⟨zGq d ?_,zU4 d p _⟩;exact TWF.tail hw (show(hdT (tk (kwQ (jJ d)) p::l'++[K4 q])).aM≠3 by show(0:Int)≠3;decide)
 unfold zgl;rw[h2];dsimp only;have hlen:=aQ bf ea;rw[bJ]at hlen;have:=zqv (ds.take c)
 obtain⟨m,hm⟩:∃m,(la++(lm++lr)++[K4 q]).length+1=(ds.take c).length+(m+1):=⟨la.length+lm.length+lr.length+1-(ds.take c).length,by simp only[laQ,lc,bI];omega⟩
 have hs2:zmo ZK bd (ds.take c++[d0]):=by
  rw[hsplit,<- asc]at hs;exact((zb7 _ _ _ _).1 hs).1
 have e3:la++(lm++lr)++[K4 q]=la++(lm++(lr++[K4 q])):=af
 rw[hm,e3,zMl hs2 ea em hst.1 hst.2];exact⟨_,rfl⟩
def zHg{p:yZ}{turn cut:Int}(hp:LenP p):jB p turn cut=bc bg:=by
 unfold jB;rw[zMq,bsQ,zTd hp,bsQ]
 cases h1:zY5 p with
 |false=>rfl
 |true =>
  have f1:=zTs h1;rw[bW,cf,zMw f1.big,bsQ];unfold zHd
  cases hr:pd (Q8 p)with
  |false=>rfl
  |true =>
   rw[ctQ];by_cases hl:(Kk p).length<=8000
   ·rw[aP hl]
    dsimp only;have hR:=jE.1 hr;obtain⟨s1,s2⟩:=zfk hR KS [] (λj hj=>⟨ks_lt j hj,λh=>by cases h⟩) ae;have hd:=YE s1;rw[show decide ((0:Int)=0)=bg from rfl,bW,cf];have hpd:=zt2 p;generalize hds:KS.flatMap (decls p)=ds at s1 s2 hd hpd;rw[hpd]at hl ⊢
    have hne:∀d:Decl,d∈ds->1<=(yh d).length:=λd hdm=>by
     obtain⟨x,hx,_⟩:=zi2 (hd d hdm);rw[hx,laQ];simp
    have hn:ds.length<=8000:=by
     have:∀l:List Decl,(∀d∈l,1<=(yh d).length)->l.length<=(l.flatMap yh).length:=λl=>by
      induction l with
      |nil=>intro _;simp
      |cons d l ih =>
       intro h;have:=h d al
       have:=ih λx hx=>h x (mcQ _ hx)
       rw[bO,laQ,lc];omega
     exact cU (this ds hne) hl
    rw[zMo hd ab,bsQ]
    obtain⟨m,hm,hm8⟩:∃m:Nat,turn % 8=(m:Int)/\m<8:=⟨(turn % 8).toNat,ab,ab⟩
    rw[zM1 hds.symm hd ab ab hm hm8,bsQ];obtain⟨t1,t2⟩:=zfk hR (jsO m) [] (λj hj=>⟨js_lt m j hj,λh=>by cases h⟩) (zMy m hm8);rw[zUq (z04 m hm8)]at t2
    have hperm:(((jsO m).flatMap (decls p)).flatMap yh).length=(ds.flatMap yh).length:=by
     rw[<- hds];exact(((zU3 m hm8).flatMap_right (decls p)).flatMap_right yh).length_eq
    rw[zG9 ab,bsQ,zzz t1 t2];simp only[zUw,zMx,hperm,decide_true,bW,cf];rw[zp6 (zZn f1),zlq rfl];simp only[bsQ,bW,cf,bJ];by_cases h0:ds.length=0
    ·have hnil:ds=[]:=List.length_eq_zero_iff.1 h0
     rw[dt ab,ctQ,hnil];rfl
    ·rw[df ab,cf,zB ab,bsQ]
     have hmask:=zHe cut 62 aq;rw[show((2:Int) ^ 62-1)=4611686018427387903 from rfl]at hmask;rw[hmask];have hnn:0<=cut % 2 ^ 62:=eX _ ae;rw[Int.tmod_eq_emod_of_nonneg hnn]
     obtain⟨c,hc,hcl⟩:∃c:Nat,cut % 2 ^ 62 % ((ds.length:Nat):Int)=(c:Int)/\c<ds.length:=⟨(cut % 2 ^ 62 % ((ds.length:Nat):Int)).toNat,by
      have:=eX (cut % 2 ^ 62) (show((ds.length:Nat):Int)≠0 by omega)
      omega,by
      have:=eX (cut % 2 ^ 62) (show((ds.length:Nat):Int)≠0 by omega);have:=iC (cut % 2 ^ 62) (show 0<((ds.length:Nat):Int) by omega)
      omega⟩
     rw[hc];have hget:ds[c]?=bc (ds[c]'hcl):=bz hcl;rw[zM2 hget hd ab ab,bsQ];obtain⟨e,he⟩:=zM3 s1 hget
     have hlen:((ds.take c).flatMap yh++((jq (AS (ds[c]'hcl))++[32])++(ds.drop (c+1)).flatMap yh)).length<=8000:=by
      have e1:yh (ds[c]'hcl)=jq (AS (ds[c]'hcl))++[32,59,10]:=by unfold yh;exact zfb (hd _ (List.getElem_mem hcl))
      have e2:ds.flatMap yh=(ds.take c).flatMap yh++(yh (ds[c]'hcl)++(ds.drop (c+1)).flatMap yh):=by
       have e3:ds.drop c=ds[c]'hcl::ds.drop (c+1):=gB hcl;have e4:=eG c ds;rw[e3]at e4;rw[<- bO,<- dy,e4]
      rw[e2,e1]at hl;simp only[laQ,lc,bI]at hl ⊢;omega
     rw[zG9 hlen,bsQ,he];simp only[zUw,decide_true,ctQ];have:=zp6 (a:=ZK) (b:=ZK) fit0;rw[zlq rfl]at this;exact(aQ (λo:Option Bool=>o.bind λx=>bc x) this)
   ·rw[aO hl];rfl
end Go.Proofs.YtffencjoddkghaaGreatDoor
namespace Go.Proofs.YtffencjoddkghaaGreatDoor
open Go Go.ChangeShapes Go.WideShapes Go.ChangeAt Go.RowKit Go.Deep Go.Joins Go.EV
def zM4{p:yZ}(h:zDu p):LenP p:=λr hr=>by
 have h1:=h.2.2.2.1.2 r hr;exact⟨h1.2.1.1,h1.2.2.1.1⟩
def zHh[QZ][Fuel](x0:yZ)(x1:Int)(x2:Int)(r:Bool)(h:jB x0 x1 x2=bc r):FnA bm 7 [.agg (Qq x0),.int .i64 x1,.int .i64 x2] gl (.bool r) gl:=kmp aj (W9.2 (x0,x1,x2) r h)
set_option maxRecDepth 100000 in
theorem YI(os:Os)(started:os.Started)(H:Type)(enc:TypeId×Value->H):
  ReturnsInHanded {} Tryz.checked os 7 .any (λw args=>(Rows.syntaxOrderSpec.pre enc bm Tryz.f7 [] bd w args/\laidMetH bm zyo w)/\sizedMet enc bm Tryz.f7 (OpenSpec.ofChange Rows.syntaxOrderSpec) bd w args)
   (Rows.syntaxOrderSpec.post enc bm Tryz.f7 bd bg bd bd):=by
 refine zn9 (C:=Tryz.checked) (X:=λw _=>laidMetH bm zyo w) (λ_ _ _ hh h=>h.of_heap hh) own started aj Tryz.func7
  (ChangeSpec.witness_shaped (enc:=enc) (C:=Tryz.checked) (os:=os) (X:=λw _=>laidMetH bm zyo w) bd (World.doorLaid bm 400 os) #[.agg #[.slice bh 0 0,.slice bh 0 0,.slice bh 0 0,.slice bh 0 0,.slice bh 0 0,.slice bh 0 0,.slice bh 0 0,.int .i64 0],.int .i64 0,.int .i64 0] 8 rfl (World.shaped_of_RefB aj aj) aj aj aj (zJ1 os _)) ?_
 intro W base args ds gs before hval0 hW hS hL;have hval:∀(j:Nat) t v,Tryz.f7.params[j]?=bc t->args[j]?=bc v->Value.okWide bm W .any base t v:=hval0;have hW':=hW;obtain⟨p,q,hA0,hV,rfl,hfz,hnd⟩:=hW;have hA:DataW.TrodAll enc bm W 0 (λ_=>bg) bg Tryz.f7.params.toList args.toList ds p:=hA0;rw[Tryz.params7]at hA hval;have hA1:=hA;obtain⟨v0,vs,d0,ds,p0,q0,ha,rfl,rfl,h0,hA⟩:=trodAll_cons hA;obtain⟨v1,vs,d1,ds,p1,q1,rfl,rfl,rfl,h1,hA⟩:=trodAll_cons hA;obtain⟨v2,vs,d2,ds,p2,q2,rfl,rfl,rfl,h2,hA⟩:=trodAll_cons hA;obtain⟨rfl,rfl,rfl⟩:=trodAll_nil hA;obtain⟨rfl,rfl⟩:=trodVars_none hV
 have ha:args=#[v0,v1,v2]:=by cases args;simp_all
 subst ha;obtain⟨x0,ox0,rx0⟩:=zSx (hval 0 31 v0 rfl rfl) h0;obtain⟨x1,ox1,rx1⟩:=open_3 (hval 1 3 v1 rfl rfl) h1;obtain⟨x2,ox2,rx2⟩:=open_3 (hval 2 3 v2 rfl rfl) h2;simp only[bE]at hW'
 let fu:Fuel:=⟨18446744073709551616,aq⟩
 refine Calls.mono (zC9 (f:=7) (args:=[.agg (Qq x0),.int .i64 x1,.int .i64 x2]) (vals:=[v0,v1,v2]) (zHh x0 x1 x2 bg (zHg (zM4 ox0))) hL hS ⟨_,_,rfl,rx0,⟨_,_,rfl,rx1,⟨_,_,rfl,rx2,rfl⟩⟩⟩) λe W' ⟨he,hb⟩=>?_
 subst he;refine⟨_,rfl,?_⟩;refine⟨_,_,_,[],_,[],hW',?_,zhf laidOut hb _ _ _ _ aj hA1 (λx hx=>by simpa using hW'.lt x (by simpa using hx)),rfl,hb.frame _,λh=>by cases h⟩;exact trodAll_mk1 (shut_bool Tryz.underlying4 bg)
def zfp:Rows.SyntaxOrderSaid :=
 OpenClaim.holds_of_wide 7 Tryz.f7 rfl rfl rfl rfl rfl rfl rfl ⟨rfl,rfl,rfl,rfl,rfl⟩ rfl rfl rfl rfl rfl aj Tryz.func7 Zb
  (aY aj) (by unfold Func.isWrapper;first|(rw[aP ah];kernel_rfl)|(rw[aO ah];exact⟨rfl,rfl⟩))
  (λos started H enc _=>YI os started H enc)
theorem syntaxOrder_holds:Rows.SyntaxOrderCardSaid :=
 Claim7.holds_tied_plain_at .later [] [.data, .data, .data, .listed, .data, .data] bg (bg, "808b1baaab06890156bf9594850e24f5baf562363ce7a6119ef76d48d3ae3efc") bg
  zfp (λ_ h=>by cases h) aj (λ_ h=>by cases h) syntaxOrder_row_tie rfl ⟨rfl,rfl⟩ aj rfl
  (λf fn hf hfn=>by
   obtain rfl : f = 7 := Option.some.inj ((show Tryz.prog.funcNamed "greenbelt/greenbeltlaw15.SyntaxOrder" = bc 7 by kernel_rfl).symm.trans hf) |>.symm
   obtain rfl:fn=Tryz.f7:=(Option.some.inj (Tryz.func7.symm.trans hfn)).symm
   exact⟨aj,λj t ht=>by
    rw[Tryz.params7]at ht
    have hm:t∈[31,3,3]:=by simpa using Array.mem_of_getElem? ht
    have hall:([31,3,3].all λu=>!Tryz.prog.wantsStandIn u)=bg:=aj
    exact(show Tryz.prog.wantsStandIn t=bd by simpa using bj.1 hall t hm)⟩)
  aj
#print axioms syntaxOrder_holds
end Go.Proofs.YtffencjoddkghaaGreatDoor
