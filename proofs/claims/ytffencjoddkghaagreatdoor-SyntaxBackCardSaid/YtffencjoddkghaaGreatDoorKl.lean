/- texts that the proof reaches, part 12 -/
import Derived.Test.YtffencjoddkghaaGreatDoorKk
set_option linter.all false
set_option maxRecDepth 100000
namespace Go.Proofs.YtffencjoddkghaaGreatDoor
open Go Go.RowKit Go.Eng Go.EV Go.EQ
variable[Fuel]
def SR{α β:Type}(l:List Token)(x:Except EE (α×List Token))(s:Option β)(f:α->Int->β):Prop:=match x with
 |.ok (v,r)=>s=some (f v (zU l r))/\St l r
 |.error _=>s=none
def RT.sr{α β:Type}{l:List Token}{x:Except EE (α×List Token)}{s:Option β}{p:Option EE}{f:α->Int->β}(h:RT l x s p f):SR l x s f:=by
 match x,h with
 |.ok (v,r),h=>exact⟨h.1,h.2.2⟩
 |.error e,h=>exact h.1
def SR.bind{α β α' β':Type}{l:List Token}{x:Except EE (α×List Token)}{s:Option β}{f:α->Int->β}{g:α->List Token->Except EE (α'×List Token)}{s2:β->Option β'}{f2:α'->Int->β'}
  (h:SR l x s f) (h2:∀v r,x=.ok (v,r)->St l r->SR l (g v r) (s2 (f v (zU l r))) f2):SR l (thn x g) (s.bind s2) f2:=by
 match x,h,h2 with
 |.error e,h,_=>show _=none;rw[show s=none from h];rfl
 |.ok (v,r),⟨h,hs⟩,h2 =>
  have:=h2 v r rfl hs;rw[h];exact this
def RTS{α β γ δ:Type}(l:List Token)(x:Except EE (α×List Token))(s:Option (β⊕γ))(p:Option (EE⊕δ))(f:α->Int->β):Prop:=match x with
 |.ok (v,r)=>s=some (.inl (f v (zU l r)))/\p=none/\St l r
 |.error e=>s=none/\p=some (.inl e)
def fE(e:Expr)(i:Int):Int×Int×Int×ak×ak×List Expr:=(i,e.Op,e.N,e.S,e.Key,e.Args)
def fP(x:Nat×Expr)(i:Int):Int×Int×Int×Int×ak×ak×List Expr:=((x.1:Int),i,x.2.Op,x.2.N,x.2.S,x.2.Key,x.2.Args)
section
variable{l r:List Token}
def Y8(h:St l r)(t:ak)(lv m:Nat):((bif (decide ((lv:Int)<=(m:Int)))then(xx l (zU l r) t).bind λx2=>some (x2.2,x2.1)else some (zU l r,false)))=some (if lv<=m/\isB t r=true then(zU l r.tail,true)else(zU l r,false)):=by
 rw[zkr h];have e:decide ((lv:Int)<=(m:Int))=decide (lv<=m):=yE ab;rw[e];by_cases hm:lv<=m
 ·cases hb:isB t r<;>simp[hm]
 ·simp[hm]
def zYs{K:Nat}(h:St l r)(ihE:∀(lv:Nat)(r':List Token),lv<=8->r'.length<r.length->St l r'->SR l (DE lv r') (ya K l (zU l r') (lv:Int)) fE):
  SR l (thn (WA r) λe r=>.ok ((8,e),r)) ((xG l (zU l r)).bind λx14=>(bif x14 then(ka l (zU l r) 0 1099511627776).bind λx15=>some (8,x15.2,0,x15.1,([]:ak),([]:ak),[])else(xx l (zU l r) yz).bind λx16=>(bif x16.1 then(xn l x16.2).bind λx17=>(xn l x17.2).bind λx18=>some (8,x18.2,2,0,x17.1,x18.1,[])else(xx l x16.2 xh).bind λx19=>(bif x19.1 then(xn l x19.2).bind λx20=>some (8,x20.2,3,0,x20.1,([]:ak),[])else(xx l x19.2 Ay).bind λx21=>(bif x21.1 then(ya K l x21.2 0).bind λx22=>(jJ l x22.1 qj).bind λx23=>some (8,x23,x22.2.1,x22.2.2.1,x22.2.2.2.1,x22.2.2.2.2.1,x22.2.2.2.2.2)else(xn l x21.2).bind λx24=>some (8,x24.2,1,0,x24.1,([]:ak),[])))))) fP:=by
 unfold WA;rw[Qx h,bsQ]
 cases hn:Kc r with
 |true =>
  rw[if_pos rfl,ctQ,zP]
  exact(zbf h 0 1099511627776).sr.bind λv r1 _ hs=>⟨rfl,hs⟩
 |false =>
  rw[if_neg af,cf,zkr h,bsQ]
  cases hb:isB yz r with
  |true =>
   have ht:=h.tail (zw hb);simp only[if_true,ctQ,zP]
   exact(HO ht).sr.bind λv r1 _ hs=>(HO hs).sr.bind λv2 r2 _ hs2=>⟨rfl,hs2⟩
  |false =>
   simp only[if_neg (show ¬(false=true) by simp),cf];rw[zkr h,bsQ]
   cases hz:isB xh r with
   |true =>
    have ht:=h.tail (zw hz);simp only[if_true,ctQ,zP]
    exact(HO ht).sr.bind λv r1 _ hs=>⟨rfl,hs⟩
   |false =>
    simp only[if_neg (show ¬(false=true) by simp),cf];rw[zkr h,bsQ]
    cases hp:isB Ay r with
    |true =>
     have ht:=h.tail (zw hp);simp only[if_true,ctQ,zP]
     exact(ihE 0 r.tail ab (YZ h.wf) ht).bind λv r1 _ hs=>(QT hs _).sr.bind λ_ r2 _ hs2=>⟨rfl,hs2⟩
    |false =>
     simp only[if_neg (show ¬(false=true) by simp),cf,zP]
     exact(HO h).sr.bind λv r1 _ hs=>⟨rfl,hs⟩
def zv8{K lv:Nat}(h:St l r)(ihE:∀(lv:Nat)(r':List Token),lv<=8->r'.length<r.length->St l r'->SR l (DE lv r') (ya K l (zU l r') (lv:Int)) fE):
  SR l (PX lv r) (kd (K+1) l (zU l r) (lv:Int)) fP:=by
 rw[kd];have e0:=Y8 h V9 lv 0;rw[show((0:Nat):Int)=0 from rfl]at e0;rw[e0,bsQ];unfold PX;by_cases c0:lv<=0/\isB V9 r=true
 ·rw[if_pos c0,if_pos c0]
  have ht:=zF h.wf (zw c0.2);simp only[ctQ,ifS,zP]
  refine(ihE 0 r.tail ab ht.lt (h.aft ht.e)).bind λa r1 h1 hs1=>?_
  have q1:=ht.trans (wc ht.wf h1).e
  refine(QT hs1 _).sr.bind λ_ r2 h2 hs2=>?_
  have q2:=q1.trans (xj q1.wf h2).e
  refine(ihE 0 r2 ab q2.lt hs2).bind λb r3 h3 hs3=>?_
  have q3:=q2.trans (wc q2.wf h3).e
  refine(QT hs3 _).sr.bind λ_ r4 h4 hs4=>?_
  have q4:=q3.trans (xj q3.wf h4).e
  exact(ihE 0 r4 ab q4.lt hs4).bind λc r5 h5 hs5=>⟨by cases a;cases b;cases c;rfl,hs5⟩
 ·rw[if_neg c0,if_neg c0]
  simp only[cf];have e3:=Y8 h qZ lv 3;rw[show((3:Nat):Int)=3 from rfl]at e3;rw[e3,bsQ];by_cases c3:lv<=3/\isB qZ r=true
  ·rw[if_pos c3,if_pos c3]
   have ht:=zF h.wf (zw c3.2);simp only[ctQ]
   exact(ihE 3 r.tail ab ht.lt (h.aft ht.e)).bind λa r1 h1 hs1=>⟨by cases a;rfl,hs1⟩
  ·rw[if_neg c3,if_neg c3]
   simp only[cf];have e7:=Y8 h yS lv 7;rw[show((7:Nat):Int)=7 from rfl]at e7;rw[e7,bsQ];by_cases c7:lv<=7/\isB yS r=true
   ·rw[if_pos c7,if_pos c7]
    have ht:=zF h.wf (zw c7.2);simp only[ctQ]
    exact(ihE 7 r.tail ab ht.lt (h.aft ht.e)).bind λa r1 h1 hs1=>⟨by cases a;rfl,hs1⟩
   ·rw[if_neg c7,if_neg c7]
    simp only[cf];exact zYs h ihE
end
-- the operator that comes next
def ZL(r:List Token)(a:ak×Int×Int)(o:zd):ak×Int×Int:=if isB o.text r then(o.text,o.op,o.form)else a
def op_L{l r:List Token}(h:St l r)(c2 c3 c6:Int)(c7:ak)(c8:List Expr)(c9 c10:Int)(c11 c12:ak)(c13:List Expr):∀(os:List zd)(i K:Nat)(a:ak×Int×Int),OPS.drop i=os->i<=10->os.length<K ->
  xP l (zU l r) c2 c3 OPS 10 c6 c7 c8 c9 c10 c11 c12 c13 K ((i:Int),a.1,a.2.1,a.2.2)=some (os.foldl (ZL r) a):=by
 intro os
 induction os with
 |nil =>
  intro i K a hr hi hK
  obtain⟨K,rfl⟩:∃k,K=k+1:=⟨K-1,ab⟩
  have:=drop_nil hr hi;have:i=10:=this;rw[xP,df (show ¬((i:Int)<10) by omega)];rfl
 |cons o os ih =>
  intro i K a hr hi hK
  obtain⟨K,rfl⟩:∃k,K=k+1:=⟨K-1,ab⟩
  obtain⟨h1,h2,h3⟩:=wb hr;have h3:i<10:=h3;simp only[lc]at hK
  have e:(bif isB o.text r then some (o.text,o.op,o.form)else some (a.1,a.2.1,a.2.2))=some (ZL r a o):=by
   unfold ZL;cases isB o.text r<;>rfl
  rw[xP,dt (show((i:Int)<10) by omega),ctQ,ye h1,bsQ,q_is h,bsQ];simp only;rw[e,bsQ,xB ab,ih (i+1) K (ZL r a o) h2 ab ab];rfl
def zaf:Option zd->ak×Int×Int
 |some o=>(o.text,o.op,o.form)
 |none=>([],0,0)
def zep{r:List Token}:∀{os:List zd}{a:ak×Int×Int},(∀o∈os,isB o.text r=false)->os.foldl (ZL r) a=a
 |[],a,_=>rfl
 |o::os,a,h=>by
  rw[List.foldl_cons,ZL,h o al,if_neg af]
  exact zep λx hx=>h x (mcQ _ hx)
def zKs(r:List Token):OPS.foldl (ZL r) ([],0,0)=zaf (opR r):=by
 by_cases hk:(hdT r).Kind=3
 ·rw[opR,if_pos hk]
  exact zep λo _=>by rw[isB,dt hk];rfl
 ·rw[opR,if_neg hk]
  have hb:∀s,isB s r=decide ((hdT r).Text=s):=λs=>by rw[isB,df hk];rfl
  generalize (hdT r).Text=t at hb;by_cases hm:∃o∈OPS,t=o.text
  ·obtain⟨o,ho,rfl⟩:=hm
   simp only[OPS,List.mem_cons,List.mem_nil_iff,or_false]at ho
   rcases ho with rfl|rfl|rfl|rfl|rfl|rfl|rfl|rfl|rfl|rfl<;>simp only[OPS,List.foldl_cons,List.foldl_nil,ZL,hb]<;>rfl
  ·have hn:∀o∈OPS,t≠o.text:=λo ho e=>hm ⟨o,ho,e⟩
   rw[zep λo ho=>by rw[hb];exact df (hn o ho),List.find?_eq_none.2 λo ho=>by simp[hn o ho]];rfl
def zFh{l r:List Token}(h:St l r)(c2 c3 c6:Int)(c7:ak)(c8:List Expr)(c9 c10:Int)(c11 c12:ak)(c13:List Expr):
  xP l (zU l r) c2 c3 OPS 10 c6 c7 c8 c9 c10 c11 c12 c13 KK (0,([]:ak),0,0)=some (zaf (opR r)):=by
 rw[<- zKs];exact op_L h c2 c3 c6 c7 c8 c9 c10 c11 c12 c13 OPS 0 KK ([],0,0) rfl ab (jz ae)
def zFi{l r:List Token}(h:St l r)(c2 c3 c6:Int)(c7:ak)(c8:List Expr)(c9 c10:Int)(c11 c12:ak)(c13:List Expr):
  vH l (zU l r) c2 c3 OPS 10 c6 c7 c8 c9 c10 c11 c12 c13 KK (0,([]:ak),0,0)=some (zaf (opR r)):=by
 have:∀K q,vH l (zU l r) c2 c3 OPS 10 c6 c7 c8 c9 c10 c11 c12 c13 K q=xP l (zU l r) c2 c3 OPS 10 c6 c7 c8 c9 c10 c11 c12 c13 K q:=by
  intro K
  induction K with
  |zero=>intro q;rfl
  |succ K ih=>intro q;rw[vH,xP];simp only[ih]
 rw[this,zFh h]
def zT7(lv own:Nat):Option zd->Bool
 |none=>true
 |some x=>decide (x.form<(lv:Int)∨(own:Int)<x.form∨(own=4/\x.form=4))
def zN3(lv own:Nat)(o:Option zd)(ho:∀x,o=some x->x∈OPS):((bif (decide ((zaf o).1=([]:ak)))then some true else(bif (decide ((zaf o).2.2<(lv:Int)))then some true else(bif (decide ((own:Int)<(zaf o).2.2))then some true else(bif (decide ((own:Int)=4))then some (decide ((zaf o).2.2=4))else some false)))))=some (zT7 lv own o):=by
 cases o with
 |none=>rfl
 |some x =>
  obtain⟨f,h1,_,h3⟩:=WL (ho x rfl);have e0:decide ((zaf (some x)).1=([]:ak))=false:=df h3;rw[e0,cf];unfold zT7;change (bif (decide (x.form<(lv:Int)))then some true else(bif (decide ((own:Int)<x.form))then some true else(bif (decide ((own:Int)=4))then some (decide (x.form=4))else some false)))=_;by_cases a:x.form<(lv:Int)
  ·simp[a]
  ·by_cases b:(own:Int)<x.form
   ·simp[a,b]
   ·by_cases c:own=4
    ·subst c
     have b':¬((4:Int)<x.form):=b;simp[a,b']
    ·have:¬((own:Int)=4):=ab
     simp[a,b,c,this]
def zN4(l:List Token):∀(n K lv:Nat)(r:List Token),r.length<n->2*n<=K->lv<=8->St l r->SR l (DE lv r) (ya K l (zU l r) (lv:Int)) fE:=by
 intro n
 induction n with
 |zero=>intro K lv r h;omega
 |succ n ih =>
  intro K lv r hn hK hl h
  obtain⟨K,rfl⟩:∃k,K=k+2:=⟨K-2,ab⟩
  have ihE:∀(lv:Nat)(r':List Token),lv<=8->r'.length<r.length->St l r'->SR l (DE lv r') (ya K l (zU l r') (lv:Int)) fE:=λlv r' h1 h2 h3=>ih K lv r' ab ab h1 h3
  -- the loop
  have loop:∀(m:Nat)(r':List Token)(own:Nat)(e:Expr)(Q:Nat),r'.length<m->m<=Q->r'.length<r.length->St l r' ->
    SR l (CL lv own e r') ((jP (ya (K+1)) l (lv:Int) 0 ([]:ak) [] Q (zU l r',(own:Int),e.Op,e.N,e.S,e.Key,e.Args)).bind (xM some λ_=>none)) fE:=by
   intro m
   induction m with
   |zero=>intro r' own e Q h;omega
   |succ m ihm =>
    intro r' own e Q hm hQ hlt hs
    obtain⟨Q,rfl⟩:∃k,Q=k+1:=⟨Q-1,ab⟩
    rw[jP,show wT=some OPS from rfl,bsQ,show((List.length OPS:Nat):Int)=10 from rfl,zFh hs,bsQ];simp only;rw[zN3 lv own _ (λx hx=>(kU hx).2.1),bsQ,zYd hs.wf]
    cases ho:opR r' with
    |none=>exact⟨rfl,hs⟩
    |some o =>
     obtain⟨hk,hmem,_⟩:=kU ho;obtain⟨f,hf,hf2,_⟩:=WL hmem;dsimp only;by_cases hc:o.form<(lv:Int)∨(own:Int)<o.form∨(own=4/\o.form=4)
     ·rw[if_pos hc,zT7,dt hc]
      exact⟨rfl,hs⟩
     ·rw[if_neg hc,zT7,df hc,cf,hs.step]
      have ht:=zF hs.wf hk
      have e1:w64 ((zaf (some o)).2.2+1)=((f+1:Nat):Int):=by
       show w64 (o.form+1)=_
       rw[hf,wa ab ab];rfl
      rw[e1,Option.bind_assoc];have ih2:=ih (K+1) (f+1) r'.tail (by have:=ht.lt;omega) ab ab (hs.aft ht.e);rw[hf,Int.toNat_natCast]
      refine ih2.bind λe2 r2 h2 hs2=>?_
      have hq:=ht.trans (wc ht.wf h2).e;have:=ihm r2 f (YY o.op e e2) Q (by have:=hq.lt;omega) ab (by have:=hq.lt;omega) hs2;refine Eq.mp ?_ this
      congr 4
      simp only[fE,zaf,hf,YY];cases e;cases e2;rfl
  rw[ya,zYe hl h.wf]
  refine(zv8 h ihE).bind λx r1 h1 hs1=>?_
  have hq:=zEs h.wf h1;exact loop (r1.length+1) r1 x.1 x.2 KK ab (by have:=jz (n:=r1.length+1) (by have:=hs1.lt;have:=hs1.len;omega);omega) hq.lt hs1
end Go.Proofs.YtffencjoddkghaaGreatDoor
namespace Go.Proofs.YtffencjoddkghaaGreatDoor
open Go Go.RowKit Go.Eng Go.EV Go.EQ
variable[Fuel]
def PR{α:Type}(x:Except EE (α×List Token))(p:Option EE):Prop:=match x with
 |.ok _=>p=none
 |.error e=>p=some e
def RT.pr{α β:Type}{l:List Token}{x:Except EE (α×List Token)}{s:Option β}{p:Option EE}{f:α->Int->β}(h:RT l x s p f):PR x p:=by
 match x,h with
 |.ok (v,r),h=>exact h.2.1
 |.error e,h=>exact h.2
def rt_of{α β:Type}{l:List Token}{x:Except EE (α×List Token)}{s:Option β}{p:Option EE}{f:α->Int->β}(h:SR l x s f)(k:PR x p):RT l x s p f:=by
 match x,h,k with
 |.ok (v,r),h,k=>exact⟨h.1,k,h.2⟩
 |.error e,h,k=>exact⟨h,k⟩
def PR.bind{α β α':Type}{l:List Token}{x:Except EE (α×List Token)}{s:Option β}{p:Option EE}{f:α->Int->β}{g:α->List Token->Except EE (α'×List Token)}{p2:β->Option EE}
  (hs:SR l x s f) (h:PR x p) (h2:∀v r,x=.ok (v,r)->St l r->PR (g v r) (p2 (f v (zU l r)))):PR (thn x g) (orC p (λq=>some q) (s.bind p2)):=by
 match x,hs,h,h2 with
 |.error e,hs,h,_=>show _=some e;rw[show p=some e from h];rfl
 |.ok (v,r),⟨hs,hst⟩,h,h2 =>
  have:=h2 v r rfl hst;rw[show p=none from h,hs];exact this
def PR.last{α β α':Type}{l:List Token}{x:Except EE (α×List Token)}{s:Option β}{p:Option EE}{f:α->Int->β}{g:α->List Token->α'}(hs:SR l x s f)(h:PR x p):PR (thn x λv r=>.ok (g v r,r)) (orC p (λq=>some q) (s.bind λ_=>none)):=PR.bind hs h λ_ _ _ _=>rfl
section
variable{l r:List Token}
def zYt{K:Nat}(h:St l r)(ihS:∀(lv:Nat)(r':List Token),lv<=8->r'.length<r.length->St l r'->SR l (DE lv r') (ya KK l (zU l r') (lv:Int)) fE)
  (ihE:∀(lv:Nat)(r':List Token),lv<=8->r'.length<r.length->St l r'->PR (DE lv r') (yV K l (zU l r') (lv:Int))):
  PR (thn (WA r) λe r=>.ok ((8,e),r)) ((xG l (zU l r)).bind λx21=>(bif x21 then(orC (ou l (zU l r) 0 1099511627776) (λx22=>some x22) ((ka l (zU l r) 0 1099511627776).bind λ_=>none))else(xx l (zU l r) yz).bind λx24=>(bif x24.1 then(orC (jK l x24.2) (λx25=>some x25) ((xn l x24.2).bind λx26=>(orC (jK l x26.2) (λx27=>some x27) ((xn l x26.2).bind λ_=>none))))else(xx l x24.2 xh).bind λx29=>(bif x29.1 then(orC (jK l x29.2) (λx30=>some x30) ((xn l x29.2).bind λ_=>none))else(xx l x29.2 Ay).bind λx32=>(bif x32.1 then(orC (yV K l x32.2 0) (λx33=>some x33) ((ya KK l x32.2 0).bind λx34=>(orC (AK l x34.1 qj) (λx35=>some x35) ((jJ l x34.1 qj).bind λ_=>none))))else(orC (jK l x32.2) (λx37=>some x37) ((xn l x32.2).bind λ_=>none))))))):=by
 unfold WA;rw[Qx h,bsQ]
 cases hn:Kc r with
 |true =>
  rw[if_pos rfl,ctQ,zP];exact PR.last (zbf h 0 1099511627776).sr (zbf h 0 1099511627776).pr
 |false =>
  rw[if_neg af,cf,zkr h,bsQ]
  cases hb:isB yz r with
  |true =>
   have ht:=h.tail (zw hb);simp only[if_true,ctQ,zP]
   exact PR.bind (HO ht).sr (HO ht).pr λv r1 _ hs=>PR.last (HO hs).sr (HO hs).pr
  |false =>
   simp only[if_neg (show ¬(false=true) by simp),cf];rw[zkr h,bsQ]
   cases hz:isB xh r with
   |true =>
    have ht:=h.tail (zw hz);simp only[if_true,ctQ,zP];exact PR.last (HO ht).sr (HO ht).pr
   |false =>
    simp only[if_neg (show ¬(false=true) by simp),cf];rw[zkr h,bsQ]
    cases hp:isB Ay r with
    |true =>
     have ht:=h.tail (zw hp);simp only[if_true,ctQ,zP]
     exact PR.bind (ihS 0 r.tail ab (YZ h.wf) ht) (ihE 0 r.tail ab (YZ h.wf) ht) λv r1 _ hs=>PR.last (QT hs _).sr (QT hs _).pr
    |false =>
     simp only[if_neg (show ¬(false=true) by simp),cf,zP];exact PR.last (HO h).sr (HO h).pr
def zKt{K lv:Nat}(h:St l r)(ihS:∀(lv:Nat)(r':List Token),lv<=8->r'.length<r.length->St l r'->SR l (DE lv r') (ya KK l (zU l r') (lv:Int)) fE)
  (ihE:∀(lv:Nat)(r':List Token),lv<=8->r'.length<r.length->St l r'->PR (DE lv r') (yV K l (zU l r') (lv:Int))):PR (PX lv r) (ow (K+1) l (zU l r) (lv:Int)):=by
 rw[ow];have e0:=Y8 h V9 lv 0;rw[show((0:Nat):Int)=0 from rfl]at e0;rw[e0,bsQ];unfold PX;by_cases c0:lv<=0/\isB V9 r=true
 ·rw[if_pos c0,if_pos c0]
  have ht:=zF h.wf (zw c0.2);have hst:=h.aft ht.e;simp only[ctQ,ifS,zP]
  refine PR.bind (ihS 0 r.tail ab ht.lt hst) (ihE 0 r.tail ab ht.lt hst) λa r1 h1 hs1=>?_
  have q1:=ht.trans (wc ht.wf h1).e
  refine PR.bind (QT hs1 _).sr (QT hs1 _).pr λ_ r2 h2 hs2=>?_
  have q2:=q1.trans (xj q1.wf h2).e
  refine PR.bind (ihS 0 r2 ab q2.lt hs2) (ihE 0 r2 ab q2.lt hs2) λb r3 h3 hs3=>?_
  have q3:=q2.trans (wc q2.wf h3).e
  refine PR.bind (QT hs3 _).sr (QT hs3 _).pr λ_ r4 h4 hs4=>?_
  have q4:=q3.trans (xj q3.wf h4).e;exact PR.last (ihS 0 r4 ab q4.lt hs4) (ihE 0 r4 ab q4.lt hs4)
 ·rw[if_neg c0,if_neg c0]
  simp only[cf];have e3:=Y8 h qZ lv 3;rw[show((3:Nat):Int)=3 from rfl]at e3;rw[e3,bsQ];by_cases c3:lv<=3/\isB qZ r=true
  ·rw[if_pos c3,if_pos c3]
   have ht:=zF h.wf (zw c3.2);have hst:=h.aft ht.e;simp only[ctQ];exact PR.last (ihS 3 r.tail ab ht.lt hst) (ihE 3 r.tail ab ht.lt hst)
  ·rw[if_neg c3,if_neg c3]
   simp only[cf];have e7:=Y8 h yS lv 7;rw[show((7:Nat):Int)=7 from rfl]at e7;rw[e7,bsQ];by_cases c7:lv<=7/\isB yS r=true
   ·rw[if_pos c7,if_pos c7]
    have ht:=zF h.wf (zw c7.2);have hst:=h.aft ht.e;simp only[ctQ];exact PR.last (ihS 7 r.tail ab ht.lt hst) (ihE 7 r.tail ab ht.lt hst)
   ·rw[if_neg c7,if_neg c7]
    simp only[cf];exact zYt h ihS ihE
end
def zh2:18446744073709551616<=KK:=Fuel.big
def zsz{l r:List Token}{lv:Nat}(hl:lv<=8)(h:St l r):SR l (DE lv r) (ya KK l (zU l r) (lv:Int)) fE:=by
 have h1:=h.lt;have h2:=h.len;have h3:=zh2;exact zN4 l (r.length+1) KK lv r ab ab hl h
def zYu(l:List Token):∀(n K lv:Nat)(r:List Token),r.length<n->2*n<=K->lv<=8->St l r->PR (DE lv r) (yV K l (zU l r) (lv:Int)):=by
 intro n
 induction n with
 |zero=>intro K lv r h;omega
 |succ n ih =>
  intro K lv r hn hK hl h
  obtain⟨K,rfl⟩:∃k,K=k+2:=⟨K-2,ab⟩
  have ihE:∀(lv:Nat)(r':List Token),lv<=8->r'.length<r.length->St l r'->PR (DE lv r') (yV K l (zU l r') (lv:Int)):=λlv r' h1 h2 h3=>ih K lv r' ab ab h1 h3
  have loop:∀(m:Nat)(r':List Token)(own:Nat)(e:Expr)(Q:Nat),r'.length<m->m<=Q->r'.length<r.length->St l r' ->
    PR (CL lv own e r') ((jQ (yV (K+1)) l (lv:Int) 0 ([]:ak) [] Q (zU l r',(own:Int),e.Op,e.N,e.S,e.Key,e.Args)).bind (xM some λ_=>none)):=by
   intro m
   induction m with
   |zero=>intro r' own e Q h;omega
   |succ m ihm =>
    intro r' own e Q hm hQ hlt hs
    obtain⟨Q,rfl⟩:∃k,Q=k+1:=⟨Q-1,ab⟩
    rw[jQ,show wT=some OPS from rfl,bsQ,show((List.length OPS:Nat):Int)=10 from rfl,zFi hs,bsQ];simp only;rw[zN3 lv own _ (λx hx=>(kU hx).2.1),bsQ,zYd hs.wf]
    cases ho:opR r' with
    |none=>exact rfl
    |some o =>
     obtain⟨hk,hmem,_⟩:=kU ho;obtain⟨f,hf,hf2,_⟩:=WL hmem;dsimp only;by_cases hc:o.form<(lv:Int)∨(own:Int)<o.form∨(own=4/\o.form=4)
     ·rw[if_pos hc,zT7,dt hc]
      exact rfl
     ·rw[if_neg hc,zT7,df hc,cf,hs.step]
      have ht:=zF hs.wf hk
      have e1:w64 ((zaf (some o)).2.2+1)=((f+1:Nat):Int):=by
       show w64 (o.form+1)=_
       rw[hf,wa ab ab];rfl
      rw[e1];have hst:=hs.aft ht.e;have hS:=zsz (lv:=f+1) ab hst;have hP:=ih (K+1) (f+1) r'.tail (by have:=ht.lt;omega) ab ab hst;rw[hf,Int.toNat_natCast]
      cases hx:DE (f+1) r'.tail with
      |error er =>
       rw[hx]at hP;rw[show yV (K+1) l (zU l r'.tail) ((f+1:Nat):Int)=some er from hP];rfl
      |ok y =>
       obtain⟨e2,r2⟩:=y;rw[hx]at hP hS;have hq:=ht.trans (wc ht.wf hx).e;have hs2:=hS.2;rw[show yV (K+1) l (zU l r'.tail) ((f+1:Nat):Int)=none from hP,hS.1];have:=ihm r2 f (YY o.op e e2) Q (by have:=hq.lt;omega) ab (by have:=hq.lt;omega) hs2;refine Eq.mp ?_ this
       show _=PR (CL lv f (YY o.op e e2) r2) _
       congr 4
       simp only[fE,zaf,hf,YY];cases e;cases e2;rfl
  rw[yV,zYe hl h.wf]
  have hS:SR l (PX lv r) (kd KK l (zU l r) (lv:Int)) fP:=by
   have h3:=zh2;have h1:=h.lt;have h2:=h.len
   obtain⟨k,hk⟩:∃k,KK=k+1:=⟨KK-1,ab⟩
   rw[hk]
   exact zv8 h λlv r' q1 q2 q3=>zN4 l (r'.length+1) k lv r' ab ab q1 q3
  refine PR.bind hS (zKt h (λlv r' q1 q2 q3=>zsz q1 q3) ihE) λx r1 h1 hs1=>?_
  have hq:=zEs h.wf h1;exact loop (r1.length+1) r1 x.1 x.2 KK ab (by have:=jz (n:=r1.length+1) (by have:=hs1.lt;have:=hs1.len;omega);omega) hq.lt hs1
def zYv{l r:List Token}{lv:Nat}(hl:lv<=8)(h:St l r):RT l (DE lv r) (ya KK l (zU l r) (lv:Int)) (yV KK l (zU l r) (lv:Int)) fE:=by
 have h1:=h.lt;have h2:=h.len;have h3:=zh2;exact rt_of (zsz hl h) (zYu l (r.length+1) KK lv r ab ab hl h)
def Y9(b:BB):zo b=vx b.l b.i:=rfl
def is2(b:BB)(s:ak):vy b s=zcw b.l b.i s:=rfl
def has2(b:BB)(s:ak):zC b s=xx b.l b.i s:=rfl
def Av(b:BB)(c:Bool)(e:Int):zf b c e=yB b.l b.i c e:=rfl
def JT(b:BB)(c:Bool)(e:Int):zt b c e=xX b.l b.i c e:=rfl
def zSw(b:BB)(s:ak):zA b s=jJ b.l b.i s:=rfl
def zN5(b:BB)(s:ak):yi b s=AK b.l b.i s:=rfl
def zeq(b:BB):yh b=xG b.l b.i:=rfl
def qF(b:BB):zJ b=oq b.l b.i:=rfl
def Vw(b:BB):zL b=xn b.l b.i:=rfl
def ZN(b:BB):yQ b=jK b.l b.i:=rfl
def zs0(b:BB)(x y:Int):zk b x y=ka b.l b.i x y:=rfl
def zv9(b:BB)(x y:Int):zB b x y=ou b.l b.i x y:=rfl
def L2_2(b:BB)(c1:Int){c17 c18 c21 c24 c25 d2 d3 d6 d9 d10:Int}{ops:List zd}{n:Int}{c22 c26 c27 d7 d11 d12:ak}{c23 c28 d8 d13:List Expr}:∀(K:Nat)(q:Int×ak×Int×Int),
  kG b c1 c17 c18 ops n c21 c22 c23 c24 c25 c26 c27 c28 K q=xP b.l c1 d2 d3 ops n d6 d7 d8 d9 d10 d11 d12 d13 K q
 |0,q=>rfl
 |K+1,q=>by
  rw[kG,xP];simp only[is2,L2_2 b c1 (d2:=d2) (d3:=d3) (d6:=d6) (d7:=d7) (d8:=d8) (d9:=d9) (d10:=d10) (d11:=d11) (d12:=d12) (d13:=d13) K]
def zYw(b:BB)(c1:Int){c17 c18 c21 c24 c25 d2 d3 d6 d9 d10:Int}{ops:List zd}{n:Int}{c22 c26 c27 d7 d11 d12:ak}{c23 c28 d8 d13:List Expr}:∀(K:Nat)(q:Int×ak×Int×Int),
  kL b c1 c17 c18 ops n c21 c22 c23 c24 c25 c26 c27 c28 K q=vH b.l c1 d2 d3 ops n d6 d7 d8 d9 d10 d11 d12 d13 K q
 |0,q=>rfl
 |K+1,q=>by
  rw[kL,vH];simp only[is2,zYw b c1 (d2:=d2) (d3:=d3) (d6:=d6) (d7:=d7) (d8:=d8) (d9:=d9) (d10:=d10) (d11:=d11) (d12:=d12) (d13:=d13) K]
def L1_2{r1:BB->Int->Option (Int×Int×Int×ak×ak×(List Expr))}{r2:(List Token)->Int->Int->Option (Int×Int×Int×ak×ak×(List Expr))}(hr:∀b f,r1 b f=r2 b.l b.i f)(b:BB)(c1 c2:Int)(c3:ak)(c4:List Expr):∀(K:Nat) q,
  kH r1 b c1 c2 c3 c4 K q=jP r2 b.l c1 c2 c3 c4 K q
 |0,q=>rfl
 |K+1,q=>by
  rw[kH,jP];simp only[hr,L1_2 hr b c1 c2 c3 c4 K,L2_2 { b with i:=0 } q.1 (d2:=c1) (d3:=q.2.1) (d6:=c2) (d7:=c3) (d8:=c4) (d9:=q.2.2.1) (d10:=q.2.2.2.1) (d11:=q.2.2.2.2.1) (d12:=q.2.2.2.2.2.1) (d13:=q.2.2.2.2.2.2)]
def zpq:∀K:Nat,(∀b f,ud K b f=kd K b.l b.i f)/\(∀b f,z8 K b f=ya K b.l b.i f)
 |0=>⟨λ_ _=>rfl,λ_ _=>rfl⟩
 |K+1=>by
  have ih:=zpq K;refine⟨λb f=>?_,λb f=>?_⟩
  ·rw[ud,kd]
   simp only[has2,zSw,Vw,zs0,zeq,ih.2]
  ·rw[z8,ya]
   simp only[ih.1,L1_2 ih.2]
def zYx{r1:BB->Int->Option (Int×Int)}{r2:(List Token)->Int->Int->Option (Int×Int)}(hr:∀b f,r1 b f=r2 b.l b.i f)(b:BB)(c1 c2:Int)(c3:ak)(c4:List Expr):∀(K:Nat) q,
  kM r1 b c1 c2 c3 c4 K q=jQ r2 b.l c1 c2 c3 c4 K q
 |0,q=>rfl
 |K+1,q=>by
  rw[kM,jQ];simp only[hr,zYx hr b c1 c2 c3 c4 K,(zpq KK).2,zYw { b with i:=0 } q.1 (d2:=c1) (d3:=q.2.1) (d6:=c2) (d7:=c3) (d8:=c4) (d9:=q.2.2.1) (d10:=q.2.2.2.1) (d11:=q.2.2.2.2.1) (d12:=q.2.2.2.2.2.1) (d13:=q.2.2.2.2.2.2)]
def zN6:∀K:Nat,(∀b f,AM K b f=ow K b.l b.i f)/\(∀b f,xp K b f=yV K b.l b.i f)
 |0=>⟨λ_ _=>rfl,λ_ _=>rfl⟩
 |K+1=>by
  have ih:=zN6 K;refine⟨λb f=>?_,λb f=>?_⟩
  ·rw[AM,ow]
   simp only[has2,zSw,zN5,Vw,ZN,zs0,zv9,zeq,ih.2,(zpq KK).2]
  ·rw[xp,yV]
   simp only[ih.1,zYx ih.2,(zpq KK).1]
-- the builder at a place
structure At(b:BB)(r:List Token):Prop where
 st:St b.l r
 at_:b.i=zU b.l r
section
variable{b:BB}{r:List Token}
def At.next(h:At b r):zo b=some ((hdT r).Kind,(hdT r).Text,(hdT r).N,(hdT r).Pos):=by rw[Y9,h.at_,Wy h.st]
def At.is(h:At b r)(s:ak):vy b s=some (isB s r):=by rw[is2,h.at_,q_is h.st]
def At.has(h:At b r)(s:ak):zC b s=some (isB s r,if isB s r then zU b.l r.tail else zU b.l r):=by rw[has2,h.at_,zkr h.st]
def At.isNumber(h:At b r):yh b=some (Kc r):=by rw[zeq,h.at_,Qx h.st]
def At.isName(h:At b r):zJ b=some (ze3 r):=by rw[qF,h.at_,zvp h.st]
def At.check(h:At b r)(c:Bool)(e:Int):RT b.l (J8 c e r) (zf b c e) (zt b c e) (λ_ _=>()):=by rw[Av,JT,h.at_];exact zsj h.st c e
def At.want(h:At b r)(s:ak):RT b.l (xV s r) (zA b s) (yi b s) (λ_ i=>i):=by rw[zSw,zN5,h.at_];exact QT h.st s
def At.name(h:At b r):RT b.l (u0 r) (zL b) (yQ b) (λv i=>(v,i)):=by rw[Vw,ZN,h.at_];exact HO h.st
def At.number(h:At b r)(lo hi:Int):RT b.l (qb lo hi r) (zk b lo hi) (zB b lo hi) (λv i=>(v,i)):=by rw[zs0,zv9,h.at_];exact zbf h.st lo hi
def At.expr(h:At b r):RT b.l (DE 0 r) (z8 KK b 0) (xp KK b 0) fE:=by rw[(zpq KK).2,(zN6 KK).2,h.at_];exact zYv (lv:=0) ab h.st
def At.step(h:At b r):w64 (b.i+1)=zU b.l r.tail:=by rw[h.at_,h.st.step]
end
def ym{b b2:BB}{r:List Token}(hl:b2.l=b.l)(hi:b2.i=zU b.l r)(h:St b.l r):At b2 r:=⟨by rw[hl];exact h,by rw[hi,hl]⟩
def RR{α β:Type}(l:List Token)(x:Except EE (α×List Token))(s:Option β)(p:Option EE)(S:α->Int->β->Prop):Prop:=match x with
 |.ok (v,r)=>(∃y,s=some y/\S v (zU l r) y)/\p=none/\St l r
 |.error e=>s=none/\p=some e
def RJ{α γ:Type}(l:List Token)(x:Except EE (α×List Token))(s:Option γ)(p:Option (EE⊕γ))(f:α->Int->γ):Prop:=match x with
 |.ok (v,r)=>s=some (f v (zU l r))/\p=some (.inr (f v (zU l r)))/\St l r
 |.error e=>s=none/\p=some (.inl e)
section
variable{α β α' β' γ δ:Type}{l:List Token}{x:Except EE (α×List Token)}{s:Option β}{p:Option EE}{f:α->Int->β}{g:α->List Token->Except EE (α'×List Token)}{s2:β->Option β'}{p2:β->Option EE}{f2:α'->Int->β'}
def RT.rr(h:RT l x s p f):RR l x s p (λv i y=>y=f v i):=by
 match x,h with
 |.ok (v,r),h=>exact⟨⟨_,h.1,rfl⟩,h.2.1,h.2.2⟩
 |.error e,h=>exact h
def RR.rt(h:RR l x s p (λv i y=>y=f v i)):RT l x s p f:=by
 match x,h with
 |.ok (v,r),⟨⟨y,h1,h2⟩,h3,h4⟩=>exact⟨by rw[h1,h2],h3,h4⟩
 |.error e,h=>exact h
def RR.bind{S:α->Int->β->Prop}{S2:α'->Int->β'->Prop}(h:RR l x s p S)(h2:∀v r y,x=.ok (v,r)->St l r->S v (zU l r) y->RR l (g v r) (s2 y) (p2 y) S2):RR l (thn x g) (s.bind s2) (orC p (λq=>some q) (s.bind p2)) S2:=by
 match x,h,h2 with
 |.error e,⟨h,h'⟩,_=>exact⟨by rw[h];rfl,by rw[h'];rfl⟩
 |.ok (v,r),⟨⟨y,h,hy⟩,h',hs⟩,h2 =>
  have:=h2 v r y rfl hs hy;rw[h,h'];exact this
def RT.bindR{S2:α'->Int->β'->Prop}(h:RT l x s p f)(h2:∀v r,x=.ok (v,r)->St l r->RR l (g v r) (s2 (f v (zU l r))) (p2 (f v (zU l r))) S2):RR l (thn x g) (s.bind s2) (orC p (λq=>some q) (s.bind p2)) S2 :=
 h.rr.bind λv r y h1 hs hy=>by subst hy;exact h2 v r h1 hs
def RJ.bindR{sj:Option γ}{pj:Option (EE⊕γ)}{fj:α->Int->γ}{s2:γ->Option β'}{p2:γ->Option EE}{S2:α'->Int->β'->Prop}(h:RJ l x sj pj fj)(h2:∀v r,x=.ok (v,r)->St l r->RR l (g v r) (s2 (fj v (zU l r))) (p2 (fj v (zU l r))) S2):RR l (thn x g) (sj.bind s2) (pj.bind (xM some p2)) S2:=by
 match x,h,h2 with
 |.error e,⟨h,h'⟩,_=>exact⟨by rw[h];rfl,by rw[h'];rfl⟩
 |.ok (v,r),⟨h,h',hs⟩,h2 =>
  have:=h2 v r rfl hs;rw[h,h'];exact this
def RJ.bindT{sj:Option γ}{pj:Option (EE⊕γ)}{fj:α->Int->γ}{s2:γ->Option β'}{p2:γ->Option EE}(h:RJ l x sj pj fj)(h2:∀v r,x=.ok (v,r)->St l r->RT l (g v r) (s2 (fj v (zU l r))) (p2 (fj v (zU l r))) f2):RT l (thn x g) (sj.bind s2) (pj.bind (xM some p2)) f2 :=
 (h.bindR λv r h1 hs=>(h2 v r h1 hs).rr).rt
def RT.bindJ{s2:β->Option γ}{p2:β->Option (EE⊕γ)}{fj:α'->Int->γ}(h:RT l x s p f)(h2:∀v r,x=.ok (v,r)->St l r->RJ l (g v r) (s2 (f v (zU l r))) (p2 (f v (zU l r))) fj):RJ l (thn x g) (s.bind s2) (orC p (λq=>some (.inl q)) (s.bind p2)) fj:=by
 match x,h,h2 with
 |.error e,⟨h,h'⟩,_=>exact⟨by rw[h];rfl,by rw[h'];rfl⟩
 |.ok (v,r),⟨h,h',hs⟩,h2 =>
  have:=h2 v r rfl hs;rw[h,h'];exact this
def RR.ret{r:List Token}{v:α}{y:β}{S:α->Int->β->Prop}(hs:St l r)(hy:S v (zU l r) y):RR l (.ok (v,r)) (some y) none S:=⟨⟨y,rfl,hy⟩,rfl,hs⟩
def RTS.rt{sj:Option (β⊕γ)}{pj:Option (EE⊕δ)}{k:γ->Option β}{k2:δ->Option EE}(h:RTS l x sj pj f):RT l x (sj.bind (xM some k)) (pj.bind (xM some k2)) f:=by
 match x,h with
 |.ok (v,r),⟨h,h',hs⟩=>exact⟨by rw[h];rfl,by rw[h'];rfl,hs⟩
 |.error e,⟨h,h'⟩=>exact⟨by rw[h];rfl,by rw[h'];rfl⟩
def RT.bindS{s2:β->Option (β'⊕γ)}{p2:β->Option (EE⊕δ)}(h:RT l x s p f)(h2:∀v r,x=.ok (v,r)->St l r->RTS l (g v r) (s2 (f v (zU l r))) (p2 (f v (zU l r))) f2):RTS l (thn x g) (s.bind s2) (orC p (λq=>some (.inl q)) (s.bind p2)) f2:=by
 match x,h,h2 with
 |.error e,⟨h,h'⟩,_=>exact⟨by rw[h];rfl,by rw[h'];rfl⟩
 |.ok (v,r),⟨h,h',hs⟩,h2 =>
  have:=h2 v r rfl hs;rw[h,h'];exact this
end
-- what is read
def wJ(known:List ak)(r:List Token):Except EE (ak×List Token):=if ze3 r then(if(hdT r).Text∈known then .error (zkq r 5)else .ok ((hdT r).Text,r.tail))else .error (zkq r 14)
def vR(most:Int)(r:List Token):Except EE (Int×List Token):=if isB yS r then thn (qb 0 most r.tail) λn r=>.ok (0-n,r)else qb 0 most r
def j4(w:List ak)(r:List Token):Except EE (Int×List Token):=if(hdT r).Kind=0 then(match JM (hdT r).Text w with|some i=>.ok ((i:Int),r.tail)|none=>.error (zkq r 14))else .error (zkq r 14)
def kY:Nat->List zV->List Token->Except EE (List zV×List Token)
 |0,_,_=>oof
 |n+1,acc,r=>thn (qb 0 1048576 r) λx r=>thn (qb 0 1048576 r) λy r=>if Kc r then kY n (acc++[zV.mk x y]) r else .ok (acc++[zV.mk x y],r)
def HW(r:List Token):Except EE (zg×List Token):=thn (qb 0 1048576 r) λx r=>thn (qb 0 1048576 r) λy r=>thn (qb 0 4096 r) λz r=>.ok (zg.mk x y z,r)
def zs1(c:Bool)(e:Int)(r:List Token):Except EE (Unit×List Token):=thn (J8 (isB yg r) 14 r) λ_ r=>thn (J8 c e r) λ_ r=>.ok ((),r.tail)
def Za:Nat->List ak->List Token->Except EE (List ak×List Token)
 |0,_,_=>oof
 |n+1,acc,r=>if ze3 r then thn (u0 r) λs r=>Za n (acc++[s]) r else .ok (acc,r)
def WR(r:List Token):Except EE (List ak×List Token):=thn (u0 r) λs r1=>Za (r1.length+1) [s] r1
def KN(m:List (ak×Bool))(L:List ak):Prop:=∀x,(xe x m).getD false=decide (x∈L)
def MN(D:List (List (ak×Bool)))(L:List ak):Prop:=(D=[]/\L=[])∨∃m,D=[m]/\KN m L
def zN7:KN [] []:=λx=>by simp[xe]
def zh3{α β:Type}[DecidableEq α](a x:α)(b:β):∀l:List (α×β),xe x (oc a b l)=if x=a then some b else xe x l
 |[]=>by simp[oc,xe]
 |(k,c)::r=>by
  have ih:=zh3 a x b r;simp only[oc];by_cases h:a=k
  ·rw[if_pos h]
   subst h;by_cases h2:x=a
   ·simp[xe,h2]
   ·simp[xe,h2]
  ·rw[if_neg h]
   simp only[xe,ih];by_cases h2:x=k
   ·subst h2
    simp[Ne.symm h]
   ·simp[h2]
def KN.add{m:List (ak×Bool)}{L:List ak}(h:KN m L)(s:ak):KN (oc s true m) (L++[s]):=λx=>by
 rw[zh3];by_cases e:x=s
 ·simp[e]
 ·rw[if_neg e,h x]
  exact yE (by simp[e])
section
variable{b:BB}{r:List Token}
def zpr{known:List (ak×Bool)}{L:List ak}(h:At b r)(hk:KN known L):RT b.l (wJ L r) (yc b known) (yt b known) (λv i=>(v,i,oc v true known)):=by
 unfold yc yt wJ;simp only[h.isName,bsQ,h.next,Av,JT,h.at_];have hc:=zsj h.st;have hn:=h.name;unfold u0 at hn
 cases hb:ze3 r with
 |false =>
  have:=hc false 14;rw[show J8 false 14 r=.error (zkq r 14) from rfl]at this;rw[this.1,this.2];exact⟨rfl,rfl⟩
 |true =>
  rw[hb]at hn;have h1:=hc true 14;rw[show J8 true 14 r=.ok ((),r) from rfl]at h1;rw[h1.1,h1.2.1];simp only[bsQ,orC,if_true];rw[hk (hdT r).Text];by_cases hm:(hdT r).Text∈L
  ·rw[if_pos hm,dt hm]
   have h2:=hc false 5;rw[show J8 false 5 r=.error (zkq r 5) from rfl]at h2;rw[Bool.not_true,h2.1,h2.2];exact⟨rfl,rfl⟩
  ·rw[if_neg hm,df hm]
   have h2:=hc true 5;rw[show J8 true 5 r=.ok ((),r) from rfl]at h2;rw[Bool.not_false,h2.1,h2.2.1];obtain⟨n1,n2,n3⟩:=hn;simp only[bsQ,orC];rw[n1,n2];exact⟨rfl,rfl,n3⟩
def WS(h:At b r)(most:Int)(hm:most<=1099511627776):RT b.l (vR most r) (wC b most) (qo b most) (λv i=>(v,i)):=by
 unfold wC qo vR;rw[h.has,bsQ,bsQ]
 cases hb:isB yS r with
 |true =>
  simp only[if_true,ctQ];have h2:At { b with i:=zU b.l r.tail } r.tail:=ym rfl rfl (h.st.tail (zw hb))
  refine(h2.number 0 most).bind λv r1 h1 hs=>?_
  have hw:w64 (0-v)=0-v:=by
   unfold qb at h1;split at h1
   ·split at h1
    ·cases h1;rename_i hh;exact wa ab ab
    ·cases h1
   ·cases h1
  show RT _ _ (some (w64 (0-v),_)) _ _
  rw[hw];exact⟨rfl,rfl,hs⟩
 |false =>
  simp only[if_neg (show ¬(false=true) by simp),cf];have h2:At { b with i:=zU b.l r } r:=ym rfl rfl h.st
  have:=(h2.number 0 most).bind (g:=λv r=>.ok (v,r)) (s2:=λx3=>some (x3.1,x3.2)) (p2:=λ_=>none) (f2:=λv i=>(v,i)) λv r1 h1 hs=>⟨rfl,rfl,hs⟩
  rw[Wz]at this;exact this
def zSx(w:List ak)(s:ak)(hw:w.length<1000):∀(k:List ak)(i K:Nat),w.drop i=k->i<=w.length->k.length<K->xK w s (w.length:Int) K (i:Int)=some (match JM s k with|some j=>.inl ((i+j:Nat):Int)|none=>.inr ()):=by
 intro k
 induction k with
 |nil =>
  intro i K hr hi hK
  obtain⟨K,rfl⟩:∃k,K=k+1:=⟨K-1,ab⟩
  have:=drop_nil hr hi;rw[xK,df ab];rfl
 |cons c k ih =>
  intro i K hr hi hK
  obtain⟨K,rfl⟩:∃k,K=k+1:=⟨K-1,ab⟩
  obtain⟨h1,h2,h3⟩:=wb hr;simp only[lc]at hK;rw[xK,dt ab,ctQ,ye h1,bsQ,JM];by_cases hc:c=s
  ·rw[dt hc.symm,if_pos hc];rfl
  ·rw[df (λe=>hc e.symm),if_neg hc,cf,xB ab,ih (i+1) K h2 ab ab]
   cases JM s k with
   |none=>rfl
   |some j=>simp only[Option.map_some];congr 3;omega
def zwa{t:ak}{w:List ak}(ht:vz t=some w)(hw:w.length<1000)(s:ak):Va t s=some (KP (JM s w)):=by
 unfold Va Hb;have:=zSx w s hw w 0 KK rfl ab (jz ab);rw[show(((0:Nat):Int))=(0:Int) from rfl]at this;rw[ht,bsQ,this]
 cases JM s w with
 |none=>rfl
 |some j=>simp[xM,KP]
def USE:List ak:=[[104,111,109,101],[115,104,111,112],[119,111,114,107],[112,97,114,107],[112,108,97,110,116],[104,97,108,108]]
def LOAD:List ak:=[[104,111,109,101,115],[116,114,97,102,102,105,99],[114,117,110,111,102,102]]
def Qz:vz zj=some USE:=by
 unfold vz Jf;rw[zD (by refine⟨ae,ae,ae,ae⟩)];rfl
def zs2:vz zX=some LOAD:=by
 unfold vz Jf;rw[zD (by refine⟨ae,ae,ae,ae⟩)];rfl
def WT(h:At b r){t:ak}{w:List ak}(ht:vz t=some w)(hw:w.length<1000):RT b.l (j4 w r) (xo b t) (vZ b t) (λv i=>(v,i)):=by
 unfold xo vZ j4;simp only[h.next,bsQ,zwa ht hw,Av,JT,h.at_,h.st.step];have hc:=zsj h.st;have h0:=hc false 14;rw[show J8 false 14 r=.error (zkq r 14) from rfl]at h0;by_cases hk:(hdT r).Kind=0
 ·rw[if_pos hk,dt hk,ctQ,ctQ]
  cases hf:JM (hdT r).Text w with
  |none =>
   rw[show decide (KP none>=0)=false from rfl,h0.1,h0.2];exact⟨rfl,rfl⟩
  |some i =>
   have h1:=hc true 14;rw[show J8 true 14 r=.ok ((),r) from rfl]at h1;have:decide (KP (some i)>=0)=true:=dt (show((i:Int))>=0 by omega);rw[this,h1.1,h1.2.1];exact⟨rfl,rfl,h.st.tail ab⟩
 ·rw[if_neg hk,df hk,cf,cf,h0.1,h0.2]
  exact⟨rfl,rfl⟩
def zk9(h:At b r):RT b.l (HW r) (kK b) (Hy b) (λv i=>(i,v.X,v.Y,v.Z_)):=by
 unfold kK Hy HW
 refine(h.number 0 1048576).bind λx r1 h1 hs1=>?_
 have a1:At { b with i:=zU b.l r1 } r1:=ym rfl rfl hs1
 refine(a1.number 0 1048576).bind λy r2 h2 hs2=>?_
 have a2:At { b with i:=zU b.l r2 } r2:=ym rfl rfl hs2
 exact(a2.number 0 4096).bind λz r3 h3 hs3=>⟨rfl,rfl,hs3⟩
def Vx(h:At b r)(n:Nat)(most:Nat)(hk:(hdT r).Kind≠3):RT b.l (thn (J8 (decide (n<most)) 6 r) λ_ r=>.ok ((),r.tail)) (yN b (n:Int) (most:Int)) (vY b (n:Int) (most:Int)) (λ_ i=>i):=by
 unfold yN vY;rw[h.step,show decide ((n:Int)<(most:Int))=decide (n<most) from yE ab]
 refine(h.check _ _).bind λu r1 h1 hs=>?_
 unfold J8 at h1;split at h1
 ·cases h1;exact⟨rfl,rfl,hs.tail hk⟩
 ·cases h1
def zps(h:At b r)(c:Bool)(e:Int):RT b.l (zs1 c e r) (jS b c e) (Ju b c e) (λ_ i=>i):=by
 unfold jS Ju zs1;rw[h.is,bsQ,bsQ,h.step]
 refine(h.check _ _).bind λu r1 h1 hs1=>?_
 unfold J8 at h1;split at h1
 ·rename_i hb
  cases h1
  refine(h.check _ _).bind λu r1 h1 hs1=>?_
  unfold J8 at h1;split at h1
  ·cases h1;exact⟨rfl,rfl,hs1.tail (zw hb)⟩
  ·cases h1
 ·cases h1
def zKu:∀(n:Nat)(r:List Token)(acc:List zV)(K:Nat),St b.l r->r.length<n->n<=K->acc.length+r.length<=2000000 ->
  RTS b.l (kY n acc r) (kI b K (zU b.l r,acc)) (kN b K (zU b.l r,acc)) (λv i=>(v,i)):=by
 intro n
 induction n with
 |zero=>intro r acc K hs hn;omega
 |succ n ih =>
  intro r acc K hs hn hK hacc
  obtain⟨K,rfl⟩:∃k,K=k+1:=⟨K-1,ab⟩
  rw[kY,kI,kN];have a0:At { b with i:=zU b.l r } r:=ym rfl rfl hs
  refine(a0.number 0 1048576).bindS λx r1 h1 hs1=>?_
  have q1:=kT hs.wf h1;have a1:At { b with i:=zU b.l r1 } r1:=ym rfl rfl hs1
  refine(a1.number 0 1048576).bindS λy r2 h2 hs2=>?_
  have q2:=kT hs1.wf h2;have a2:At { b with i:=zU b.l r2 } r2:=ym rfl rfl hs2;have g1:=q1.lt;have g2:=q2.lt;dsimp only;rw[zD (by simp only[la,lc,List.length_nil];omega),bsQ,bsQ,a2.isNumber,bsQ,bsQ]
  cases hk:Kc r2 with
  |true =>
   simp only[if_true,Bool.not_true,cf];exact ih r2 _ K hs2 ab ab (by simp only[la,lc,List.length_nil];omega)
  |false=>exact⟨rfl,rfl,hs2⟩
def zy7{l r:List Token}(h:St l r):r.length+1<=KK:=by
 have:=h.lt;have:=h.len;have:=zh2;omega
def zer(h:At b r):RT b.l (kY (r.length+1) [] r) (wD b) (qp b) (λv i=>(v,i)):=by
 unfold wD qp;rw[h.at_];have:=h.st.lt;have:=h.st.len;exact(zKu (b:={ b with i:=0 }) (r.length+1) r [] KK h.st (Nat.lt_succ_self _) (zy7 h.st) (by simp;omega)).rt
def zYy:∀(n:Nat)(r:List Token)(acc:List ak)(K:Nat),St b.l r->r.length<n->n<=K->acc.length+r.length<=2000000 ->
  RJ b.l (Za n acc r) (o7 b K (zU b.l r,acc)) (Ad b K (zU b.l r,acc)) (λv i=>(i,v)):=by
 intro n
 induction n with
 |zero=>intro r acc K hs hn;omega
 |succ n ih =>
  intro r acc K hs hn hK hacc
  obtain⟨K,rfl⟩:∃k,K=k+1:=⟨K-1,ab⟩
  rw[Za,o7,Ad];have a0:At { b with i:=zU b.l r } r:=ym rfl rfl hs;rw[a0.isName,bsQ,bsQ]
  cases hk:ze3 r with
  |true =>
   simp only[if_true,ctQ]
   refine a0.name.bindJ λs r1 h1 hs1=>?_
   have q1:=jG hs.wf h1;have g1:=q1.lt;dsimp only;rw[zD (by simp only[la,lc,List.length_nil];omega),bsQ,bsQ];exact ih r1 _ K hs1 ab ab (by simp only[la,lc,List.length_nil];omega)
  |false=>exact⟨rfl,rfl,hs⟩
def zFj(h:At b r):RT b.l (WR r) (uP b) (Jy b) (λv i=>(v,i)):=by
 unfold uP Jy WR
 refine h.name.bind λs r1 h1 hs1=>?_
 have:=hs1.lt;have:=hs1.len;have hL:=zYy (b:={ b with i:=0 }) (r1.length+1) r1 [s] KK hs1 (Nat.lt_succ_self _) (zy7 hs1) (by simp;omega)
 have:=hL.bindT (g:=λv r=>.ok (v,r)) (s2:=λx2=>some (x2.2,x2.1)) (p2:=λ_=>none) (f2:=λv i=>(v,i)) λv r2 h2 hs2=>⟨rfl,rfl,hs2⟩
 rw[Wz]at this;exact this
end
end Go.Proofs.YtffencjoddkghaaGreatDoor
namespace Go.Proofs.YtffencjoddkghaaGreatDoor
open Go Go.RowKit Go.Eng Go.EV Go.EQ
variable[Fuel]
def MN.get{D:List (List (ak×Bool))}{L:List ak}(h:MN D L):∃m,((bif (List.isEmpty D)then some ([([]:List (ak×Bool))]:List (List (ak×Bool)))else some D))=some [m]/\KN m L:=by
 rcases h with⟨rfl,rfl⟩|⟨m,rfl,h⟩
 ·exact⟨[],rfl,zN7⟩
 ·exact⟨m,rfl,h⟩
def Zb{b:BB}{r:List Token}{m:List (ak×Bool)}{L:List ak}(h:At b r)(hk:KN m L):RR b.l (wJ L r) (((yc b m).bind λy=>some (y.1,y.2.1,[y.2.2])).bind λx2=>some (x2.1,x2.2.1,x2.2.2)) (orC (yt b m) (λx2=>some x2) (((yc b m).bind λy=>some (y.1,y.2.1,[y.2.2])).bind λ_=>none)) (λv i y=>y.1=v/\y.2.1=i/\MN y.2.2 (L++[v])):=by
 have:=(zpr h hk).bindR (g:=λv r=>.ok (v,r)) (s2:=λy=>(some (y.1,y.2.1,[y.2.2])).bind λx2=>some (x2.1,x2.2.1,x2.2.2)) (p2:=λ_=>none) (S2:=λv i y=>y.1=v/\y.2.1=i/\MN y.2.2 (L++[v])) λv r1 h1 hs=>RR.ret hs ⟨rfl,rfl,.inr ⟨_,rfl,hk.add v⟩⟩
 rw[Wz]at this;simp only[Option.bind_assoc]at this ⊢;exact this
def zKv(b:BB)(m:List (ak×Bool)):Ks { b with n0:=[m] }=(yc b m).bind λy=>some (y.1,y.2.1,[y.2.2]):=by
 unfold Ks yc;simp only[qF,Av,Y9,Vw,HZ,bsQ,Option.bind_assoc]
def zKw(b:BB)(m:List (ak×Bool)):We { b with n0:=[m] }=yt b m:=by
 unfold We yt;simp only[qF,Av,JT,Y9,Vw,ZN,HZ,bsQ]
def zSy{b:BB}{r:List Token}{L:List ak}(h:At b r)(hm:MN b.n0 L):RR b.l (wJ L r) (zcy b) (zjv b) (λv i y=>y.1=v/\y.2.1=i/\MN y.2.2 (L++[v])):=by
 obtain⟨m,hm1,hm2⟩:=hm.get;unfold zcy zjv;rw[hm1,bsQ,bsQ,zKv,zKw];exact Zb h hm2
def zKx(b:BB)(m:List (ak×Bool)):oY { b with n1:=[m] }=(yc b m).bind λy=>some (y.1,y.2.1,[y.2.2]):=by
 unfold oY yc;simp only[qF,Av,Y9,Vw,HZ,bsQ,Option.bind_assoc]
def zKy(b:BB)(m:List (ak×Bool)):Jv { b with n1:=[m] }=yt b m:=by
 unfold Jv yt;simp only[qF,Av,JT,Y9,Vw,ZN,HZ,bsQ]
def zSz{b:BB}{r:List Token}{L:List ak}(h:At b r)(hm:MN b.n1 L):RR b.l (wJ L r) (Kt b) (Wf b) (λv i y=>y.1=v/\y.2.1=i/\MN y.2.2 (L++[v])):=by
 obtain⟨m,hm1,hm2⟩:=hm.get;unfold Kt Wf;rw[hm1,bsQ,bsQ,zKx,zKy];exact Zb h hm2
def zKz(b:BB)(m:List (ak×Bool)):oZ { b with n2:=[m] }=(yc b m).bind λy=>some (y.1,y.2.1,[y.2.2]):=by
 unfold oZ yc;simp only[qF,Av,Y9,Vw,HZ,bsQ,Option.bind_assoc]
def zK0(b:BB)(m:List (ak×Bool)):Jw { b with n2:=[m] }=yt b m:=by
 unfold Jw yt;simp only[qF,Av,JT,Y9,Vw,ZN,HZ,bsQ]
def zFk{b:BB}{r:List Token}{L:List ak}(h:At b r)(hm:MN b.n2 L):RR b.l (wJ L r) (o5 b) (Kx b) (λv i y=>y.1=v/\y.2.1=i/\MN y.2.2 (L++[v])):=by
 obtain⟨m,hm1,hm2⟩:=hm.get;unfold o5 Kx;rw[hm1,bsQ,bsQ,zKz,zK0];exact Zb h hm2
def zK1(b:BB)(m:List (ak×Bool)):o6 { b with n3:=[m] }=(yc b m).bind λy=>some (y.1,y.2.1,[y.2.2]):=by
 unfold o6 yc;simp only[qF,Av,Y9,Vw,HZ,bsQ,Option.bind_assoc]
def zK2(b:BB)(m:List (ak×Bool)):Jx { b with n3:=[m] }=yt b m:=by
 unfold Jx yt;simp only[qF,Av,JT,Y9,Vw,ZN,HZ,bsQ]
def zS0{b:BB}{r:List Token}{L:List ak}(h:At b r)(hm:MN b.n3 L):RR b.l (wJ L r) (Kv b) (Wh b) (λv i y=>y.1=v/\y.2.1=i/\MN y.2.2 (L++[v])):=by
 obtain⟨m,hm1,hm2⟩:=hm.get;unfold Kv Wh;rw[hm1,bsQ,bsQ,zK1,zK2];exact Zb h hm2
def zK3(b:BB)(m:List (ak×Bool)):o8 { b with n4:=[m] }=(yc b m).bind λy=>some (y.1,y.2.1,[y.2.2]):=by
 unfold o8 yc;simp only[qF,Av,Y9,Vw,HZ,bsQ,Option.bind_assoc]
def zK4(b:BB)(m:List (ak×Bool)):Jz { b with n4:=[m] }=yt b m:=by
 unfold Jz yt;simp only[qF,Av,JT,Y9,Vw,ZN,HZ,bsQ]
def zS1{b:BB}{r:List Token}{L:List ak}(h:At b r)(hm:MN b.n4 L):RR b.l (wJ L r) (Aa b) (Ky b) (λv i y=>y.1=v/\y.2.1=i/\MN y.2.2 (L++[v])):=by
 obtain⟨m,hm1,hm2⟩:=hm.get;unfold Aa Ky;rw[hm1,bsQ,bsQ,zK3,zK4];exact Zb h hm2
def zK5(b:BB)(m:List (ak×Bool)):Ab { b with n5:=[m] }=(yc b m).bind λy=>some (y.1,y.2.1,[y.2.2]):=by
 unfold Ab yc;simp only[qF,Av,Y9,Vw,HZ,bsQ,Option.bind_assoc]
def zK6(b:BB)(m:List (ak×Bool)):JA { b with n5:=[m] }=yt b m:=by
 unfold JA yt;simp only[qF,Av,JT,Y9,Vw,ZN,HZ,bsQ]
def zS2{b:BB}{r:List Token}{L:List ak}(h:At b r)(hm:MN b.n5 L):RR b.l (wJ L r) (Kw b) (Wj b) (λv i y=>y.1=v/\y.2.1=i/\MN y.2.2 (L++[v])):=by
 obtain⟨m,hm1,hm2⟩:=hm.get;unfold Kw Wj;rw[hm1,bsQ,bsQ,zK5,zK6];exact Zb h hm2
-- sets of uses
def zS3:∀s<64,∀k<6,decide ((IntKind.i64.wrap ((BitVec.ofInt IntKind.i64.bits (Int.fdiv (s:Nat) (2 ^ (min (Int.toNat (k:Nat)) IntKind.i64.bits))) &&& BitVec.ofInt IntKind.i64.bits 1).toNat:Int))=0)=!(Nat.testBit s k):=ah
def zS4:∀s<64,∀k<6,(IntKind.i64.wrap ((BitVec.ofInt IntKind.i64.bits (s:Nat) ||| BitVec.ofInt IntKind.i64.bits (w64 (1*2 ^ (min (Int.toNat (k:Nat)) IntKind.i64.bits)))).toNat:Int))=((s ||| 2 ^ k:Nat):Int):=ah
def or_lt:∀s<64,∀k<6,s ||| 2 ^ k<64/\0<s ||| 2 ^ k:=ah
def zs3:Nat->Nat->List Token->Except EE (Nat×List Token)
 |0,_,_=>oof
 |n+1,set,r=>match JM (hdT r).Text USE with
  |none=>if 0<set then .ok (set,r)else .error (zkq r 14)
  | some k=>if 0<set/\(hdT r).Kind≠0 then .ok (set,r)else if Nat.testBit set k then .error (zkq r 5)else if(hdT r).Kind=0 then zs3 n (set ||| 2 ^ k) r.tail else .error (zkq r 14)
def zYz{t:ak}{k:Nat}(h:JM t USE=some k):k<6:=(List.getElem?_eq_some_iff.1 (zo1 h)).1
def set_L{b:BB}:∀(n:Nat)(r:List Token)(set K:Nat),St b.l r->r.length<n->n<=K->set<64->RTS b.l (zs3 n set r) (Hu b K (zU b.l r,(set:Int))) (Hx b K (zU b.l r,(set:Int))) (λv i=>((v:Int),i)):=by
 intro n
 induction n with
 |zero=>intro r set K hs hn;omega
 |succ n ih =>
  intro r set K hs hn hK h64
  obtain⟨K,rfl⟩:∃k,K=k+1:=⟨K-1,ab⟩
  have a0:At { b with i:=zU b.l r } r:=ym rfl rfl hs;have hch:=WT a0 Qz ae
  have hck:=λc e=>a0.check c e
  rw[zs3,Hu,Hx];simp only[a0.next,bsQ,zwa Qz (show USE.length<1000 by decide)]
  cases hf:JM (hdT r).Text USE with
  |none =>
   dsimp only;rw[show decide (KP none<0)=true from rfl];by_cases h0:0<set
   ·rw[if_pos h0,dt (show((set:Int))>0 by omega)]
    exact⟨rfl,rfl,hs⟩
   ·rw[if_neg h0,df (show ¬((set:Int))>0 by omega)]
    have h1:=hck true 5;rw[show J8 true 5 r=.ok ((),r) from rfl]at h1;unfold j4 at hch;rw[hf]at hch
    have h2:xo { b with i:=zU b.l r } zj=none/\vZ { b with i:=zU b.l r } zj=some (zkq r 14):=by
     by_cases hk:(hdT r).Kind=0
     ·rw[if_pos hk]at hch;exact hch
     ·rw[if_neg hk]at hch;exact hch
    simp only[ctQ,cf,bsQ];rw[h1.1,h1.2.1];simp only[bsQ,orC,xM,h2.1,h2.2];exact⟨rfl,rfl⟩
  |some k =>
   have hk6:=zYz hf;dsimp only;have e0:decide (KP (some k)<0)=false:=df (show ¬((k:Int))<0 by omega);have e1:(grd (0<=KP (some k)))=some ():=zD (show(0:Int)<=(k:Int) by omega);rw[e0,e1];by_cases hq:0<set/\(hdT r).Kind≠0
   ·rw[if_pos hq,dt (show((set:Int))>0 by omega),df hq.2]
    exact⟨rfl,rfl,hs⟩
   ·rw[if_neg hq]
    have e2:((bif decide ((set:Int)>0)then(bif false then some true else some (!(decide ((hdT r).Kind=0))))else some false))=some false:=by
     by_cases h0:0<set
     ·have hk:(hdT r).Kind=0:=Classical.byContradiction λhh=>hq ⟨h0,hh⟩
      rw[dt (show((set:Int))>0 by omega),dt hk];rfl
     ·rw[df (show ¬((set:Int))>0 by omega)];rfl
    rw[e2];simp only[bsQ,cf];have e3:KP (some k)=((k:Nat):Int):=rfl;rw[e3,zS3 set h64 k hk6]
    cases hb:Nat.testBit set k with
    |true =>
     have h1:=hck false 5;rw[show J8 false 5 r=.error (zkq r 5) from rfl]at h1;rw[Bool.not_true,h1.1,h1.2];exact⟨rfl,rfl⟩
    |false =>
     have h1:=hck true 5;rw[show J8 true 5 r=.ok ((),r) from rfl]at h1;rw[Bool.not_false,h1.1,h1.2.1];simp only[bsQ,orC,xM,if_neg (show ¬(false=true) by simp)];unfold j4 at hch;by_cases hk:(hdT r).Kind=0
     ·rw[if_pos hk,hf]at hch
      rw[if_pos hk,hch.1,hch.2.1];have g:=or_lt set h64 k hk6;simp only[bsQ,orC];rw[zD (show(0:Int)<=(k:Int) by omega),bsQ,bsQ,zS4 set h64 k hk6];have:=zbe hs.wf;exact ih r.tail _ K (hs.tail ab) ab ab g.1
     ·rw[if_neg hk]at hch
      rw[if_neg hk,hch.1,hch.2];exact⟨rfl,rfl⟩
def zY0{b:BB}{r:List Token}(h:At b r):RT b.l (zs3 (r.length+1) 0 r) (zc0 b) (zjw b) (λv i=>((v:Int),i)):=by
 unfold zc0 zjw;rw[h.at_];exact(set_L (b:={ b with i:=0 }) (r.length+1) r 0 KK h.st (Nat.lt_succ_self _) (zy7 h.st) ae).rt
-- directions of the sun
def zFl:Nat->List zg->List Token->Except EE (List zg×List Token)
 |0,_,_=>oof
 | n+1,acc,r=>thn (J8 (isB yS r||Kc r) 14 r) λ_ r=>thn (J8 (decide (acc.length<24)) 6 r) λ_ r=>thn (vR 4096 r) λx r=>thn (vR 4096 r) λy r=>thn (qb 1 4096 r) λz r =>
  if isB qa r then zFl n (acc++[zg.mk x y z]) r.tail else .ok (acc++[zg.mk x y z],r)
def qG{c:Bool}{e:Int}{r r2:List Token}{u:Unit}(h:J8 c e r=.ok (u,r2)):r2=r/\c=true:=by
 unfold J8 at h;split at h
 ·rename_i hc;cases h;exact⟨rfl,hc⟩
 ·cases h
def JU{r r2:List Token}{m n:Int}(hr:TWF r)(h:vR m r=.ok (n,r2)):Aft r r2:=by
 unfold vR at h;split at h
 ·rename_i hb
  obtain⟨a,r1,h1,h2⟩:=yv h;cases h2;have ht:=zF hr (zw hb);exact ht.trans (kT ht.wf h1).e
 ·exact kT hr h
def zY1{b:BB}:∀(n:Nat)(r:List Token)(acc:List zg)(K:Nat),St b.l r->r.length<n->n<K->RJ b.l (zFl n acc r) (oy b K (zU b.l r,acc,true)) (oz b K (zU b.l r,acc,true)) (λv i=>(i,v)):=by
 intro n
 induction n with
 |zero=>intro r acc K hs hn;omega
 |succ n ih =>
  intro r acc K hs hn hK
  obtain⟨K,rfl⟩:∃k,K=k+1:=⟨K-1,ab⟩
  have a0:At { b with i:=zU b.l r,S:=acc } r:=ym rfl rfl hs;rw[zFl,oy,oz];simp only[ctQ,a0.is,a0.isNumber,bsQ]
  have first:RJ b.l (J8 (isB yS r||Kc r) 14 r) (bif isB yS r then(zf { b with i:=zU b.l r,S:=acc } true 14).bind λ_=>some ()else(zf { b with i:=zU b.l r,S:=acc } (Kc r) 14).bind λ_=>some ())
    (bif isB yS r then(orC (zt { b with i:=zU b.l r,S:=acc } true 14) (λx3=>some (Sum.inl x3)) ((zf { b with i:=zU b.l r,S:=acc } true 14).bind λ_=>some (Sum.inr ())))else(orC (zt { b with i:=zU b.l r,S:=acc } (Kc r) 14) (λx6=>some (Sum.inl x6)) ((zf { b with i:=zU b.l r,S:=acc } (Kc r) 14).bind λ_=>some (Sum.inr ())))) (λ_ _=>()):=by
   cases isB yS r with
   |true =>
    have:=(a0.check true 14).bindJ (g:=λv r=>.ok (v,r)) (s2:=λ_=>some ()) (p2:=λ_=>some (Sum.inr ())) (fj:=λ_ _=>()) λv r1 h1 hs1=>⟨rfl,rfl,hs1⟩
    rw[Wz]at this;exact this
   |false =>
    have:=(a0.check (Kc r) 14).bindJ (g:=λv r=>.ok (v,r)) (s2:=λ_=>some ()) (p2:=λ_=>some (Sum.inr ())) (fj:=λ_ _=>()) λv r1 h1 hs1=>⟨rfl,rfl,hs1⟩
    rw[Wz]at this;exact this
  have bindJJ:∀{g:Unit->List Token->Except EE (List zg×List Token)}{sj:Option Unit}{pj:Option (EE⊕Unit)}{s2:Unit->Option (Int×List zg)}{p2:Unit->Option (EE⊕(Int×List zg))},RJ b.l (J8 (isB yS r||Kc r) 14 r) sj pj (λ_ _=>())->(∀u r1,J8 (isB yS r||Kc r) 14 r=.ok (u,r1)->RJ b.l (g u r1) (s2 ()) (p2 ()) (λv i=>(i,v)))->RJ b.l (thn (J8 (isB yS r||Kc r) 14 r) g) (sj.bind s2) (pj.bind (xM (λq=>some (Sum.inl q)) p2)) (λv i=>(i,v)):=by
   intro g sj pj s2 p2 h h2
   cases hx:J8 (isB yS r||Kc r) 14 r with
   |error e=>rw[hx]at h;rw[h.1,h.2];exact⟨rfl,rfl⟩
   |ok y =>
    obtain⟨u,r1⟩:=y;rw[hx]at h;rw[h.1,h.2.1];exact h2 u r1 hx
  refine bindJJ first λu r0 h0=>?_
  obtain⟨rfl,hc0⟩:=qG h0;rw[show decide ((((List.length acc):Nat):Int)<24)=decide (acc.length<24) from yE ab]
  refine(a0.check _ _).bindJ λu r1 h1 hs1=>?_
  obtain⟨rfl,hc1⟩:=qG h1;have hl:=of_decide_eq_true hc1
  refine(WS a0 4096 ab).bindJ λx r2 h2 hs2=>?_
  have q2:=JU hs.wf h2;have a2:At { b with i:=zU b.l r2,S:=acc } r2:=ym rfl rfl hs2
  refine(WS a2 4096 ab).bindJ λy r3 h3 hs3=>?_
  have q3:=JU hs2.wf h3;have a3:At { b with i:=zU b.l r3,S:=acc } r3:=ym rfl rfl hs3
  refine(a3.number 1 4096).bindJ λz r4 h4 hs4=>?_
  have q4:=kT hs3.wf h4;dsimp only;rw[zD (by simp only[la,lc,List.length_nil];omega),bsQ,bsQ];have a4:At { b with i:=zU b.l r4,S:=acc++[zg.mk x y z] } r4:=ym rfl rfl hs4;have g2:=q2.lt;have g3:=q3.lt;have g4:=q4.lt;rw[a4.has,bsQ,bsQ]
  cases hb:isB qa r4 with
  |true =>
   simp only[if_true];have:=zbe hs4.wf;exact ih r4.tail _ K (hs4.tail (zw hb)) ab ab
  |false =>
   simp only[if_neg (show ¬(false=true) by simp)]
   obtain⟨K,rfl⟩:∃k,K=k+1:=⟨K-1,ab⟩
   exact⟨by rw[oy];rfl,by rw[oz];rfl,hs4⟩
def zK7(acc:List zg)(r:List Token):Except EE (List zg×List Token):=thn (zFl (r.length+1) acc r) λout r=>thn (xV yg r) λ_ r=>.ok (out,r)
def zY2{b:BB}{r:List Token}(h:At b r):RT b.l (zK7 b.S r) (Vb b) (zc1 b) (λv i=>(i,v)):=by
 unfold Vb zc1 zK7;rw[h.at_];have h1:=h.st.lt;have h2:=h.st.len;have h3:=zh2
 refine(zY1 (b:={ b with i:=0,S:=[] }) (r.length+1) r b.S KK h.st (Nat.lt_succ_self _) ab).bindT λout r1 _ hs1=>?_
 have a1:At { b with i:=zU b.l r1,S:=out } r1:=ym rfl rfl hs1
 exact(a1.want yg).bind λu r2 _ hs2=>⟨rfl,rfl,hs2⟩
variable[Fuel]
-- an expression has no more nodes than what was read has tokens
def zFm{op:Int}{a b:Expr}:jv (YY op a b)=jv a+jv b+1:=by unfold YY;rw[jv,HP,HP,HP];omega
def zFn:∀(n:Nat),(∀(lv:Nat)(r:List Token),lv<=8->r.length<n->TWF r->∀e r2,DE lv r=.ok (e,r2)->jv e+r2.length<=r.length)/\(∀(lv:Nat)(e:Expr)(r:List Token),lv<8->r.length<n->TWF r->∀e2 r2,LP lv e r=.ok (e2,r2)->jv e2+r2.length<=jv e+r.length):=by
 intro n
 induction n with
 |zero=>exact⟨λ_ _ _ h=>ab,λ_ _ _ _ h=>ab⟩
 |succ n ih =>
  have hLP:∀(lv:Nat)(e:Expr)(r:List Token),lv<8->r.length<n+1->TWF r->∀e2 r2,LP lv e r=.ok (e2,r2)->jv e2+r2.length<=jv e+r.length:=by
   intro lv e r hlv hn hr e2 r2 h;rw[zD3 hr]at h;split at h
   ·cases h;omega
   ·rename_i op hop
    obtain⟨o,ho,_⟩:=KQ hop;have ht:=zF hr (kU ho).1;obtain⟨a,r1,h1,h2⟩:=yv h;have g:=ht.lt;have ha:=wc ht.wf h1;have g1:=ha.lt;have k1:=ih.1 (lv+1) _ ab ab ht.wf _ _ h1;split at h2
    ·cases h2;rw[zFm];omega
    ·have:=ih.2 lv _ _ hlv ab ha.wf _ _ h2
     rw[zFm]at this;omega
  refine⟨λlv=>?_,hLP⟩
  have key:∀(k lv:Nat),8-lv=k->lv<=8->∀(r:List Token),r.length<n+1->TWF r->∀e r2,DE lv r=.ok (e,r2)->jv e+r2.length<=r.length:=by
   intro k
   induction k with
   |zero =>
    intro lv hk hl r hn hr e r2 h
    obtain rfl:lv=8:=ab
    rw[zGo hr]at h;unfold WA at h;split at h
    ·obtain⟨a,r1,h1,h2⟩:=yv h
     cases h2;have:=(kT hr h1).lt;rw[jv,HP];omega
    ·split at h
     ·rename_i hb
      have ht:=zF hr (zw hb);obtain⟨a,r1,h1,h2⟩:=yv h;obtain⟨b,r3,h3,h4⟩:=yv h2;cases h4;have q1:=jG ht.wf h1;have q2:=jG q1.wf h3;have:=ht.lt;have:=q1.lt;have:=q2.lt;rw[jv,HP];omega
     ·split at h
      ·rename_i hb
       have ht:=zF hr (zw hb);obtain⟨a,r1,h1,h2⟩:=yv h;cases h2;have:=ht.lt;have:=(jG ht.wf h1).lt;rw[jv,HP];omega
      ·split at h
       ·rename_i hb
        have ht:=zF hr (zw hb);obtain⟨a,r1,h1,h2⟩:=yv h;obtain⟨b,r3,h3,h4⟩:=yv h2;cases h4;have g:=ht.lt;have q1:=ih.1 0 _ ab ab ht.wf _ _ h1;have:=(xj (wc ht.wf h1).wf h3).lt;omega
       ·obtain⟨a,r1,h1,h2⟩:=yv h
        cases h2;have:=(jG hr h1).lt;rw[jv,HP];omega
   |succ k ihk =>
    intro lv hk hl r hn hr e r2 h;rw[zfq ab hr]at h;split at h
    ·rename_i hb
     unfold ifS at h;have ht:=zF hr (zw hb.2);have g:=ht.lt;obtain⟨a,r1,h1,h⟩:=yv h;obtain⟨u,r3,h3,h⟩:=yv h;obtain⟨b,r4,h4,h⟩:=yv h;obtain⟨u,r5,h5,h⟩:=yv h;obtain⟨c,r6,h6,h⟩:=yv h;cases h;have w1:=wc ht.wf h1;have w3:=xj w1.wf h3;have w4:=wc w3.wf h4;have w5:=xj w4.wf h5;have:=w1.lt;have:=w3.lt;have:=w4.lt;have:=w5.lt;have q1:=ih.1 0 _ ab ab ht.wf _ _ h1;have q4:=ih.1 0 _ ab ab w3.wf _ _ h4;have q6:=ih.1 0 _ ab ab w5.wf _ _ h6;rw[jv,HP,HP,HP,HP];omega
    ·split at h
     ·rename_i hb
      have ht:=zF hr (zw hb.2);have g:=ht.lt;obtain⟨a,r1,h1,h⟩:=yv h;cases h;have q1:=ih.1 3 _ ab ab ht.wf _ _ h1;rw[jv,HP,HP];omega
     ·split at h
      ·rename_i hb
       have ht:=zF hr (zw hb.2);have g:=ht.lt;obtain⟨a,r1,h1,h⟩:=yv h;cases h;have q1:=ih.1 7 _ ab ab ht.wf _ _ h1;rw[jv,HP,HP];omega
      ·obtain⟨a,r1,h1,h⟩:=yv h
       have q1:=ihk (lv+1) ab ab r hn hr _ _ h1;have w1:=wc hr h1;have:=w1.lt;have:=ih.2 lv a r1 ab ab w1.wf _ _ h;omega
  exact λr hl=>key _ lv rfl hl r
def zY3{lv:Nat}{r r2:List Token}{e:Expr}(hl:lv<=8)(hr:TWF r)(h:DE lv r=.ok (e,r2)):jv e+r2.length<=r.length:=(zFn (r.length+1)).1 lv r hl (Nat.lt_succ_self _) hr e r2 h
def zpt{l r r2:List Token}{e:Expr}(hs:St l r)(h:DE 0 r=.ok (e,r2)):vX KK e=some ((W2 e:Nat):Int):=by
 have h1:=zY3 ab hs.wf h;have h2:=hs.lt;have h3:=hs.len;have h4:=zh2;exact zD6 1000000 e KK ab ab ab
def QA{r r2:List Token}{L:List ak}{s:ak}(h:TWF r)(e:wJ L r=.ok (s,r2)):Aft r r2:=by
 unfold wJ at e;split at e
 ·rename_i hk
  split at e
  ·cases e
  ·cases e;exact zF h (zea hk)
 ·cases e
def zh4{r r2:List Token}{p:zg}(h:TWF r)(e:HW r=.ok (p,r2)):Aft r r2:=by
 obtain⟨a,r1,h1,e⟩:=yv e;obtain⟨b,r3,h3,e⟩:=yv e;obtain⟨c,r4,h4,e⟩:=yv e;cases e;have q1:=kT h h1;have q3:=kT q1.wf h3;exact q1.trans (q3.trans (kT q3.wf h4).e).e
-- definitions
def zK8(L:List ak)(r:List Token):Except EE (Def×List Token):=thn (wJ L r) λs r=>thn (xV Az r) λ_ r=>thn (DE 0 r) λe r=>thn (zs1 (decide (W2 e<=12)) 6 r) λ_ r=>.ok (Def.mk s e,r)
section
variable{b:BB}{r:List Token}{L:List ak}
def zFo(h:At b r)(hm:MN b.n0 L)(hb:b.D.length<=1000):RR b.l (zK8 L r) (Ht b) (Qm b) (λd i y=>y.1=i/\y.2.1=b.D++[d]/\MN y.2.2 (L++[d.Name])):=by
 unfold Ht Qm zK8
 refine(zSy h hm).bind λs r1 y h1 hs1 hy=>?_
 obtain⟨y1,y2,y3⟩:=y;obtain⟨rfl,rfl,hy⟩:=hy;dsimp only at hy ⊢;have a1:At { b with i:=zU b.l r1,n0:=y3 } r1:=ym rfl rfl hs1
 refine(a1.want Az).bindR λu r2 h2 hs2=>?_
 have a2:At { b with i:=zU b.l r2,n0:=y3 } r2:=ym rfl rfl hs2
 refine a2.expr.bindR λe r3 h3 hs3=>?_
 have a3:At { b with i:=zU b.l r3,n0:=y3 } r3:=ym rfl rfl hs3;simp only[fE,yW];rw[zpt hs2 h3,bsQ,bsQ,show decide (((W2 e:Nat):Int)<=12)=decide (W2 e<=12) from yE ab]
 refine(zps a3 (decide (W2 e<=12)) 6).bindR λu r4 h4 hs4=>?_
 rw[zD (by simp only[la,lc,List.length_nil];omega),bsQ,bsQ];exact RR.ret hs4 ⟨rfl,rfl,hy⟩
end
def Zc:Nat->List Entry->List Token->Except EE (List Entry×List Token)
 |0,_,_=>oof
 |n+1,acc,r=>if ze3 r then thn (J8 (decide (acc.length<60)) 6 r) λ_ r=>thn (wJ (acc.map Entry.Name) r) λs r=>thn (vR 1099511627776 r) λv r=>Zc n (acc++[Entry.mk s v]) r else .ok (acc,r)
def WU(L:List ak)(r:List Token):Except EE (Table×List Token):=thn (wJ L r) λs r=>thn (Zc (r.length+1) [] r) λrows r=>thn (xV yY r) λ_ r=>thn (vR 1099511627776 r) λv r=>thn (xV yg r) λ_ r=>.ok (Table.mk s rows v,r)
def zzl:Nat->List zg->List Token->Except EE (List zg×List Token)
 |0,_,_=>oof
 |n+1,acc,r=>if Kc r then thn (J8 (decide (acc.length<20)) 6 r) λ_ r=>thn (HW r) λp r=>zzl n (acc++[p]) r else .ok (acc,r)
def zla(L:List ak)(r:List Token):Except EE (View×List Token):=thn (wJ L r) λs r=>thn (HW r) λeye r=>thn (xV vG r) λ_ r=>thn (qb 0 20 r) λn r=>thn (xV xI r) λ_ r=>thn (HW r) λp r=>thn (zzl (r.length+1) [p] r) λl r=>thn (xV yg r) λ_ r=>.ok (View.mk s eye n l,r)
noncomputable def zes(L:List ak)(over:Bool)(r:List Token):Except EE (yp×List Token):=thn (wJ L r) λs r=>thn (kY (r.length+1) [] r) λc r=>thn (zs1 (pd (Hg c)) 10 r) λ_ r=>.ok (yp.mk s over c,r)
noncomputable def zN8(L:List ak)(r:List Token):Except EE (Cap×List Token):=thn (wJ L r) λs r=>thn (j4 LOAD r) λk r=>thn (qb 0 1099511627776 r) λn r=>thn (kY (r.length+1) [] r) λc r=>thn (zs1 (pd (Hg c)) 10 r) λ_ r=>.ok (Cap.mk s k n c,r)
section
variable{b:BB}{r:List Token}{L:List ak}
def zY4{c15:List (List (ak×Bool))}{c16:ak}{c17:Int}:∀(n:Nat)(r:List Token)(acc:List Entry)(m:List (ak×Bool))(K:Nat),St b.l r->r.length<n->n<=K->KN m (acc.map Entry.Name) ->
  RJ b.l (Zc n acc r) (ue b c15 c16 c17 K (zU b.l r,m,acc)) (uf b c15 c16 c17 K (zU b.l r,m,acc)) (λv i=>(i,v)):=by
 intro n
 induction n with
 |zero=>intro r acc m K hs hn;omega
 |succ n ih =>
  intro r acc m K hs hn hK hm
  obtain⟨K,rfl⟩:∃k,K=k+1:=⟨K-1,ab⟩
  rw[Zc,ue,uf];have a0:At { b with i:=zU b.l r,n1:=c15 } r:=ym rfl rfl hs;rw[a0.isName,bsQ,bsQ]
  cases hk:ze3 r with
  |true =>
   simp only[if_true,ctQ];rw[show decide ((((List.length acc):Nat):Int)<60)=decide (acc.length<60) from yE ab]
   refine(a0.check _ _).bindJ λu r1 h1 hs1=>?_
   obtain⟨rfl,hc1⟩:=qG h1;have hl:=of_decide_eq_true hc1
   refine(zpr a0 hm).bindJ λs r2 h2 hs2=>?_
   have q2:=QA hs.wf h2;have a2:At { b with i:=zU b.l r2,n1:=c15 } r2:=ym rfl rfl hs2;dsimp only
   refine(WS a2 1099511627776 ab).bindJ λv r3 h3 hs3=>?_
   have q3:=JU hs2.wf h3;have g2:=q2.lt;have g3:=q3.lt;dsimp only;rw[zD (by simp only[la,lc,List.length_nil];omega),bsQ,bsQ];exact ih r3 _ _ K hs3 ab ab (by rw[List.map_append];exact hm.add s)
  |false=>exact⟨rfl,rfl,hs⟩
def zK9(h:At b r)(hm:MN b.n1 L)(hb:b.T.length<=1000):RR b.l (WU L r) (Ku b) (Wg b) (λd i y=>y.1=i/\y.2.1=b.T++[d]/\MN y.2.2 (L++[d.Name])):=by
 unfold Ku Wg WU
 refine(zSz h hm).bind λs r1 y h1 hs1 hy=>?_
 obtain⟨y1,y2,y3⟩:=y;obtain⟨rfl,rfl,hy⟩:=hy;dsimp only at hy ⊢
 refine(zY4 (b:={ b with i:=0,n1:=[] }) (r1.length+1) r1 [] [] KK hs1 (Nat.lt_succ_self _) (zy7 hs1) zN7).bindR λrows r2 h2 hs2=>?_
 have a2:At { b with i:=zU b.l r2,n1:=y3 } r2:=ym rfl rfl hs2
 refine(a2.want yY).bindR λu r3 h3 hs3=>?_
 have a3:At { b with i:=zU b.l r3,n1:=y3 } r3:=ym rfl rfl hs3
 refine(WS a3 1099511627776 ab).bindR λv r4 h4 hs4=>?_
 have a4:At { b with i:=zU b.l r4,n1:=y3 } r4:=ym rfl rfl hs4
 refine(a4.want yg).bindR λu r5 h5 hs5=>?_
 dsimp only;rw[zD (by simp only[la,lc,List.length_nil];omega),bsQ,bsQ];exact RR.ret hs5 ⟨rfl,rfl,hy⟩
def tgt_L{c15:List (List (ak×Bool))}{c16:ak}{c17 c18 c19 c20:Int}:∀(n:Nat)(r:List Token)(acc:List zg)(K:Nat),St b.l r->r.length<n->n<=K ->
  RJ b.l (zzl n acc r) (Ac b c15 c16 c17 c18 c19 c20 K (zU b.l r,acc)) (Ae b c15 c16 c17 c18 c19 c20 K (zU b.l r,acc)) (λv i=>(i,v)):=by
 intro n
 induction n with
 |zero=>intro r acc K hs hn;omega
 |succ n ih =>
  intro r acc K hs hn hK
  obtain⟨K,rfl⟩:∃k,K=k+1:=⟨K-1,ab⟩
  rw[zzl,Ac,Ae];have a0:At { b with i:=zU b.l r,n5:=c15 } r:=ym rfl rfl hs;rw[a0.isNumber,bsQ,bsQ]
  cases hk:Kc r with
  |true =>
   simp only[if_true,ctQ];rw[show decide ((((List.length acc):Nat):Int)<20)=decide (acc.length<20) from yE ab]
   refine(a0.check _ _).bindJ λu r1 h1 hs1=>?_
   obtain⟨rfl,hc1⟩:=qG h1;have hl:=of_decide_eq_true hc1
   refine(zk9 a0).bindJ λp r2 h2 hs2=>?_
   have q2:=zh4 hs.wf h2;have g2:=q2.lt;dsimp only;rw[zD (by simp only[la,lc,List.length_nil];omega),bsQ,bsQ];exact ih r2 _ K hs2 ab ab
  |false=>exact⟨rfl,rfl,hs⟩
def zS5(h:At b r)(hm:MN b.n5 L)(hb:b.V.length<=1000):RR b.l (zla L r) (Jt b) (Wk b) (λd i y=>y.1=i/\y.2.1=b.V++[d]/\MN y.2.2 (L++[d.Name])):=by
 unfold Jt Wk zla
 refine(zS2 h hm).bind λs r1 y h1 hs1 hy=>?_
 obtain⟨y1,y2,y3⟩:=y;obtain⟨rfl,rfl,hy⟩:=hy;dsimp only at hy ⊢;have a1:At { b with i:=zU b.l r1,n5:=y3 } r1:=ym rfl rfl hs1
 refine(zk9 a1).bindR λeye r2 h2 hs2=>?_
 have a2:At { b with i:=zU b.l r2,n5:=y3 } r2:=ym rfl rfl hs2
 refine(a2.want vG).bindR λu r3 h3 hs3=>?_
 have a3:At { b with i:=zU b.l r3,n5:=y3 } r3:=ym rfl rfl hs3
 refine(a3.number 0 20).bindR λn r4 h4 hs4=>?_
 have a4:At { b with i:=zU b.l r4,n5:=y3 } r4:=ym rfl rfl hs4
 refine(a4.want xI).bindR λu r5 h5 hs5=>?_
 have a5:At { b with i:=zU b.l r5,n5:=y3 } r5:=ym rfl rfl hs5
 refine(zk9 a5).bindR λp r6 h6 hs6=>?_
 dsimp only;rw[zD af,bsQ,bsQ]
 refine(tgt_L (b:={ b with i:=0,n5:=[] }) (r6.length+1) r6 [p] KK hs6 (Nat.lt_succ_self _) (zy7 hs6)).bindR λl r7 h7 hs7=>?_
 have a7:At { b with i:=zU b.l r7,n5:=y3 } r7:=ym rfl rfl hs7
 refine(a7.want yg).bindR λu r8 h8 hs8=>?_
 dsimp only;rw[zD (by simp only[la,lc,List.length_nil];omega),bsQ,bsQ];exact RR.ret hs8 ⟨rfl,rfl,hy⟩
end
def zet{α:Type}(t:ak)(d:α)(f:List Token->Except EE (α×List Token))(r:List Token):Except EE (α×List Token):=if isB t r then f r.tail else .ok (d,r)
def zzm(t:ak)(r:List Token):List Token:=if isB t r then r.tail else r
abbrev BD:=Int×Expr×zy×Int×Int×Int
def fB(v:BD)(i:Int):Int×Int×Int×Int×ak×ak×List Expr×Int×Int×Int×Int×Int×Int×Int:=(i,v.1,v.2.1.Op,v.2.1.N,v.2.1.S,v.2.1.Key,v.2.1.Args,v.2.2.1.Side,v.2.2.1.Base,v.2.2.1.Num,v.2.2.1.Den,v.2.2.2.1,v.2.2.2.2.1,v.2.2.2.2.2)
def ex0:Expr:=Expr.mk 0 0 [] [] []
def pl0:zy:=zy.mk 0 0 0 0
def zwb(r:List Token):Except EE (BD×List Token):=thn (qb 0 3 r) λa r=>thn (xV AI r) λ_ r=>thn (qb 0 4096 r) λb r=>thn (xV jx r) λ_ r=>thn (qb 0 4096 r) λc r=>thn (qb 1 4096 r) λd r=>thn (xV yg r) λ_ r=>.ok ((1,ex0,zy.mk a b c d,0,0,0),r)
def zLa(r:List Token):Except EE (BD×List Token):=thn (zs3 (r.length+1) 0 r) λs r=>thn (xV yg r) λ_ r=>.ok ((2,ex0,pl0,((s:Nat):Int),0,0),r)
def zwc(r:List Token):Except EE (BD×List Token):=thn (j4 USE r) λa r=>thn (j4 USE r) λb r=>thn (qb 0 1048576 r) λn r=>thn (xV yg r) λ_ r=>.ok ((3,ex0,pl0,a,b,n),r)
def zLb(r:List Token):Except EE (BD×List Token):=thn (DE 0 r) λe r=>thn (zs1 (decide (W2 e<=12)) 6 r) λ_ r=>.ok ((0,e,pl0,0,0,0),r)
def Zd(r:List Token):Except EE (BD×List Token):=if isB qi r then zwb r.tail else if isB oW r then zLa r.tail else if isB qh r then zwc r.tail else zLb r
def zlb(L:List ak)(r:List Token):Except EE (zO×List Token):=thn (wJ L r) λs r=>thn (zet ze1 [] WR r) λz r=>thn (zet yU [] WR r) λx r=>thn (zet vw 0 (qb 0 1073741824) r) λf r=>thn (zet xC 0 (qb (f+1) 1073741824) r) λu r=>thn (zet xO 0 (qb 0 1073741824) r) λg r=>thn (xV xI (zzm wm r)) λ_ r2=>thn (Zd r2) λb r3=>.ok (zO.mk s z x f u g (isB wm r) b.1 b.2.1 b.2.2.1 b.2.2.2.1 b.2.2.2.2.1 b.2.2.2.2.2,r3)
def zS6{lo hi n:Int}{r r2:List Token}(h:qb lo hi r=.ok (n,r2)):lo<=n/\n<=hi:=by
 unfold qb at h;split at h
 ·split at h
  ·rename_i hh;cases h;exact hh
  ·cases h
 ·cases h
def zLc{lo hi n:Int}{t:ak}{r r2:List Token}(hl:lo<=0/\0<=hi)(h:zet t 0 (qb lo hi) r=.ok (n,r2)):lo<=n/\n<=hi:=by
 unfold zet at h;split at h
 ·exact zS6 h
 ·cases h;exact hl
section
variable{b:BB}{r:List Token}{L:List ak}
def zpu{α:Type}{t:ak}{d:α}{f:List Token->Except EE (α×List Token)}{sf:Int->Option (α×Int)}{pf:Int->Option EE}(h:At b r)(hf:isB t r=true->RT b.l (f r.tail) (sf (zU b.l r.tail)) (pf (zU b.l r.tail)) (λv i=>(v,i))):
  RJ b.l (zet t d f r) ((zC b t).bind λx3=>(bif x3.1 then(sf x3.2).bind λx4=>some (x4.2,x4.1)else some (x3.2,d))) ((zC b t).bind λx4=>(bif x4.1 then(orC (pf x4.2) (λx5=>some (Sum.inl x5)) ((sf x4.2).bind λx6=>some (Sum.inr (x6.2,x6.1))))else some (Sum.inr (x4.2,d)))) (λv i=>(i,v)):=by
 unfold zet;rw[h.has,bsQ,bsQ]
 cases hb:isB t r with
 |true =>
  simp only[if_true,ctQ]
  have:=(hf hb).bindJ (g:=λv r=>.ok (v,r)) (s2:=λx4=>some (x4.2,x4.1)) (p2:=λx6=>some (Sum.inr (x6.2,x6.1))) (fj:=λv i=>(i,v)) λv r1 h1 hs=>⟨rfl,rfl,hs⟩
  rw[Wz]at this;exact this
 |false =>
  simp only[if_neg (show ¬(false=true) by simp),cf];exact⟨rfl,rfl,h.st⟩
def zS7{l:List Token}{t:ak}(h:St l r):St l (zzm t r)/\(if isB t r then zU l r.tail else zU l r)=zU l (zzm t r):=by
 unfold zzm;split
 ·rename_i hb;exact⟨h.tail (zw hb),rfl⟩
 ·exact⟨h,rfl⟩
def zS8(h:At b r)(hm:MN b.n3 L)(hb:b.R.length<=1000):RR b.l (zlb L r) (Js b) (Wi b) (λd i y=>y.1=i/\y.2.1=b.R++[d]/\MN y.2.2 (L++[d.Name])):=by
 unfold Js Wi zlb
 refine(zS0 h hm).bind λs r1 y h1 hs1 hy=>?_
 obtain⟨y1,y2,y3⟩:=y;obtain⟨rfl,rfl,hy⟩:=hy;dsimp only at hy ⊢;have a1:At { b with i:=zU b.l r1,n3:=y3 } r1:=ym rfl rfl hs1
 refine(zpu (t:=ze1) (d:=[]) (f:=WR) (sf:=λi=>uP { b with i:=i,n3:=y3 }) (pf:=λi=>Jy { b with i:=i,n3:=y3 }) a1 λhb=>zFj (ym rfl rfl (hs1.tail (zw hb)))).bindR λz r2 h2 hs2=>?_
 have a2:At { b with i:=zU b.l r2,n3:=y3 } r2:=ym rfl rfl hs2
 refine(zpu (t:=yU) (d:=[]) (f:=WR) (sf:=λi=>uP { b with i:=i,n3:=y3 }) (pf:=λi=>Jy { b with i:=i,n3:=y3 }) a2 λhb=>zFj (ym rfl rfl (hs2.tail (zw hb)))).bindR λx r3 h3 hs3=>?_
 have a3:At { b with i:=zU b.l r3,n3:=y3 } r3:=ym rfl rfl hs3
 refine(zpu (t:=vw) (d:=0) (f:=qb 0 1073741824) (sf:=λi=>zk { b with i:=i,n3:=y3 } 0 1073741824) (pf:=λi=>zB { b with i:=i,n3:=y3 } 0 1073741824) a3 λhb=>(ym rfl rfl (hs3.tail (zw hb)):At { b with i:=zU b.l r3.tail,n3:=y3 } r3.tail).number 0 1073741824).bindR λf r4 h4 hs4=>?_
 have hf:=zLc ab h4;have a4:At { b with i:=zU b.l r4,n3:=y3 } r4:=ym rfl rfl hs4;dsimp only;rw[wa (n:=f+1) ab ab]
 refine(zpu (t:=xC) (d:=0) (f:=qb (f+1) 1073741824) (sf:=λi=>zk { b with i:=i,n3:=y3 } (f+1) 1073741824) (pf:=λi=>zB { b with i:=i,n3:=y3 } (f+1) 1073741824) a4 λhb=>(ym rfl rfl (hs4.tail (zw hb)):At { b with i:=zU b.l r4.tail,n3:=y3 } r4.tail).number (f+1) 1073741824).bindR λu r5 h5 hs5=>?_
 have a5:At { b with i:=zU b.l r5,n3:=y3 } r5:=ym rfl rfl hs5
 refine(zpu (t:=xO) (d:=0) (f:=qb 0 1073741824) (sf:=λi=>zk { b with i:=i,n3:=y3 } 0 1073741824) (pf:=λi=>zB { b with i:=i,n3:=y3 } 0 1073741824) a5 λhb=>(ym rfl rfl (hs5.tail (zw hb)):At { b with i:=zU b.l r5.tail,n3:=y3 } r5.tail).number 0 1073741824).bindR λg r6 h6 hs6=>?_
 have a6:At { b with i:=zU b.l r6,n3:=y3 } r6:=ym rfl rfl hs6;dsimp only;obtain⟨hs7,e7⟩:=zS7 (t:=wm) hs6;rw[a6.has,bsQ,bsQ];dsimp only;rw[e7];have a7:At { b with i:=zU b.l (zzm wm r6),n3:=y3 } (zzm wm r6):=ym rfl rfl hs7
 refine(a7.want xI).bindR λw r8 h8 hs8=>?_
 have a8:At { b with i:=zU b.l r8,n3:=y3 } r8:=ym rfl rfl hs8
 refine RJ.bindR (fj:=fB) (x:=Zd r8) ?_ λv r9 h9 hs9=>?_
 ·unfold Zd
  rw[a8.has,bsQ,bsQ]
  cases hb1:isB qi r8 with
  |true =>
   simp only[if_true,ctQ,zwb];have s0:=hs8.tail (zw hb1);have b0:At { b with i:=zU b.l r8.tail,n3:=y3 } r8.tail:=ym rfl rfl s0
   refine(b0.number 0 3).bindJ λp1 k1 _ s1=>?_
   have b1:At { b with i:=zU b.l k1,n3:=y3 } k1:=ym rfl rfl s1
   refine(b1.want AI).bindJ λp2 k2 _ s2=>?_
   have b2:At { b with i:=zU b.l k2,n3:=y3 } k2:=ym rfl rfl s2
   refine(b2.number 0 4096).bindJ λp3 k3 _ s3=>?_
   have b3:At { b with i:=zU b.l k3,n3:=y3 } k3:=ym rfl rfl s3
   refine(b3.want jx).bindJ λp4 k4 _ s4=>?_
   have b4:At { b with i:=zU b.l k4,n3:=y3 } k4:=ym rfl rfl s4
   refine(b4.number 0 4096).bindJ λp5 k5 _ s5=>?_
   have b5:At { b with i:=zU b.l k5,n3:=y3 } k5:=ym rfl rfl s5
   refine(b5.number 1 4096).bindJ λp6 k6 _ s6=>?_
   have b6:At { b with i:=zU b.l k6,n3:=y3 } k6:=ym rfl rfl s6
   exact(b6.want yg).bindJ λp7 k7 _ s7=>⟨rfl,rfl,s7⟩
  |false =>
   simp only[if_neg (show ¬(false=true) by simp),cf];rw[a8.has,bsQ,bsQ]
   cases hb2:isB oW r8 with
   |true =>
    simp only[if_true,ctQ,zLa];have s0:=hs8.tail (zw hb2);have b0:At { b with i:=zU b.l r8.tail,n3:=y3 } r8.tail:=ym rfl rfl s0
    refine(zY0 b0).bindJ λp1 k1 _ s1=>?_
    have b1:At { b with i:=zU b.l k1,n3:=y3 } k1:=ym rfl rfl s1
    exact(b1.want yg).bindJ λp7 k7 _ s7=>⟨rfl,rfl,s7⟩
   |false =>
    simp only[if_neg (show ¬(false=true) by simp),cf];rw[a8.has,bsQ,bsQ]
    cases hb3:isB qh r8 with
    |true =>
     simp only[if_true,ctQ,zwc];have s0:=hs8.tail (zw hb3);have b0:At { b with i:=zU b.l r8.tail,n3:=y3 } r8.tail:=ym rfl rfl s0
     refine(WT b0 Qz ae).bindJ λp1 k1 _ s1=>?_
     have b1:At { b with i:=zU b.l k1,n3:=y3 } k1:=ym rfl rfl s1
     refine(WT b1 Qz ae).bindJ λp2 k2 _ s2=>?_
     have b2:At { b with i:=zU b.l k2,n3:=y3 } k2:=ym rfl rfl s2
     refine(b2.number 0 1048576).bindJ λp3 k3 _ s3=>?_
     have b3:At { b with i:=zU b.l k3,n3:=y3 } k3:=ym rfl rfl s3
     exact(b3.want yg).bindJ λp7 k7 _ s7=>⟨rfl,rfl,s7⟩
    |false =>
     simp only[if_neg (show ¬(false=true) by simp),cf,zLb]
     refine a8.expr.bindJ λe k1 h1 s1=>?_
     have b1:At { b with i:=zU b.l k1,n3:=y3 } k1:=ym rfl rfl s1;simp only[fE,yW];rw[zpt hs8 h1,bsQ,bsQ,show decide (((W2 e:Nat):Int)<=12)=decide (W2 e<=12) from yE ab]
     exact(zps b1 (decide (W2 e<=12)) 6).bindJ λu k2 _ s2=>⟨rfl,rfl,s2⟩
 ·dsimp only
  rw[zD (by simp only[la,lc,List.length_nil];omega),bsQ,bsQ];obtain⟨v1,v2,v3,v4,v5,v6⟩:=v;refine RR.ret hs9 ⟨rfl,?_,hy⟩;simp only[fB,yW]
end
def MV{α:Type}(r:List Token)(x:Except EE (α×List Token)):Prop:=∀a r2,x=.ok (a,r2)->zhv r r2
section
variable{α β:Type}{r:List Token}
def MV.thn{x:Except EE (α×List Token)}{g:α->List Token->Except EE (β×List Token)}(h:MV r x)(hg:∀a r1,x=.ok (a,r1)->zhv r r1->MV r1 (g a r1)):MV r (thn x g):=λb r2 e=>by
 obtain⟨a,r1,h1,h2⟩:=yv e;have:=h a r1 h1;exact this.trans (hg a r1 h1 this b r2 h2)
def MV.ret{a:α}(h:TWF r):MV r (.ok (a,r)):=λ_ _ e=>by cases e;exact zhv.refl h
def MV.err{e:EE}:MV r (.error e:Except EE (α×List Token)):=λ_ _ e=>by cases e
def MV.ite{c:Prop}[Decidable c]{x y:Except EE (α×List Token)}(h1:c->MV r x)(h2:¬c->MV r y):MV r (if c then x else y):=by
 split
 ·rename_i h;exact h1 h
 ·rename_i h;exact h2 h
def MV.of{x:Except EE (α×List Token)}(h:∀a r2,x=.ok (a,r2)->Aft r r2):MV r x:=λa r2 e=>(h a r2 e).e
def MV.tail{x:Except EE (α×List Token)}(ht:TWF r)(hk:(hdT r).Kind≠3)(h:MV r.tail x):MV r x:=λa r2 e=>((zF ht hk).trans (h a r2 e)).e
def WV{c:Bool}{e:Int}(h:TWF r):MV r (J8 c e r):=λ_ _ k=>by obtain⟨rfl,_⟩:=qG k;exact zhv.refl h
def kZ{lo hi:Int}(h:TWF r):MV r (qb lo hi r):=MV.of λ_ _ e=>kT h e
def zFp(h:TWF r):MV r (u0 r):=MV.of λ_ _ e=>jG h e
def j5{t:ak}(h:TWF r):MV r (xV t r):=MV.of λ_ _ e=>xj h e
def qQ{L:List ak}(h:TWF r):MV r (wJ L r):=MV.of λ_ _ e=>QA h e
def zlc(h:TWF r):MV r (HW r):=MV.of λ_ _ e=>zh4 h e
def WW{m:Int}(h:TWF r):MV r (vR m r):=MV.of λ_ _ e=>JU h e
def zY5{lv:Nat}(h:TWF r):MV r (DE lv r):=MV.of λ_ _ e=>wc h e
def WX{w:List ak}(h:TWF r):MV r (j4 w r):=by
 unfold j4
 refine MV.ite (λhk=>?_) λ_=>MV.err
 split
 ·exact MV.tail h ab (MV.ret (h.tail ab))
 ·exact MV.err
def zeu{c:Bool}{e:Int}(h:TWF r):MV r (zs1 c e r):=by
 unfold zs1
 refine(WV h).thn λ_ r1 h1 q1=>(WV q1.wf).thn λ_ r2 h2 q2=>?_
 obtain⟨rfl,hb⟩:=qG h1;obtain⟨rfl,_⟩:=qG h2;exact MV.tail h (zw hb) (MV.ret (h.tail (zw hb)))
def HX:∀(n:Nat)(acc:List zV)(r:List Token),TWF r->MV r (kY n acc r)
 |0,_,_,_=>MV.err
 |n+1,acc,r,h=>by
  rw[kY]
  exact(kZ h).thn λ_ r1 _ q1=>(kZ q1.wf).thn λ_ r2 _ q2=>MV.ite (λ_=>HX n _ r2 q2.wf) λ_=>MV.ret q2.wf
def zFq:∀(n:Nat)(acc:List Entry)(r:List Token),TWF r->MV r (Zc n acc r)
 |0,_,_,_=>MV.err
 |n+1,acc,r,h=>by
  rw[Zc]
  exact MV.ite (λ_=>(WV h).thn λ_ r1 _ q1=>(qQ q1.wf).thn λ_ r2 _ q2=>(WW q2.wf).thn λ_ r3 _ q3=>zFq n _ r3 q3.wf) λ_=>MV.ret h
def zN9:∀(n:Nat)(acc:List zg)(r:List Token),TWF r->MV r (zzl n acc r)
 |0,_,_,_=>MV.err
 |n+1,acc,r,h=>by
  rw[zzl]
  exact MV.ite (λ_=>(WV h).thn λ_ r1 _ q1=>(zlc q1.wf).thn λ_ r2 _ q2=>zN9 n _ r2 q2.wf) λ_=>MV.ret h
def zFr:∀(n:Nat)(acc:List ak)(r:List Token),TWF r->MV r (Za n acc r)
 |0,_,_,_=>MV.err
 |n+1,acc,r,h=>by
  rw[Za]
  exact MV.ite (λ_=>(zFp h).thn λ_ r1 _ q1=>zFr n _ r1 q1.wf) λ_=>MV.ret h
def zld(h:TWF r):MV r (WR r):=by
 unfold WR
 exact(zFp h).thn λ_ r1 _ q1=>zFr _ _ r1 q1.wf
def zOa:∀(n:Nat)(s:Nat)(r:List Token),TWF r->MV r (zs3 n s r)
 |0,_,_,_=>MV.err
 |n+1,s,r,h=>by
  rw[zs3];split
  ·exact MV.ite (λ_=>MV.ret h) λ_=>MV.err
  ·exact MV.ite (λ_=>MV.ret h) λ_=>MV.ite (λ_=>MV.err) λ_=>MV.ite (λhk=>MV.tail h ab (zOa n _ _ (h.tail ab))) λ_=>MV.err
def zOb:∀(n:Nat)(acc:List zg)(r:List Token),TWF r->MV r (zFl n acc r)
 |0,_,_,_=>MV.err
 |n+1,acc,r,h=>by
  rw[zFl]
  exact(WV h).thn λ_ r1 _ q1=>(WV q1.wf).thn λ_ r2 _ q2=>(WW q2.wf).thn λ_ r3 _ q3=>(WW q3.wf).thn λ_ r4 _ q4=>(kZ q4.wf).thn λ_ r5 _ q5=>MV.ite (λhb=>MV.tail q5.wf (zw hb) (zOb n _ _ (q5.wf.tail (zw hb)))) λ_=>MV.ret q5.wf
def zFs{acc:List zg}(h:TWF r):MV r (zK7 acc r):=by
 unfold zK7
 exact(zOb _ _ r h).thn λ_ r1 _ q1=>(j5 q1.wf).thn λ_ r2 _ q2=>MV.ret q2.wf
def QW{t:ak}{d:α}{f:List Token->Except EE (α×List Token)}(h:TWF r)(hf:∀r,TWF r->MV r (f r)):MV r (zet t d f r):=by
 unfold zet
 exact MV.ite (λhb=>MV.tail h (zw hb) (hf _ (h.tail (zw hb)))) λ_=>MV.ret h
def zOc{L:List ak}(h:TWF r):MV r (zK8 L r):=by
 unfold zK8
 exact(qQ h).thn λ_ r1 _ q1=>(j5 q1.wf).thn λ_ r2 _ q2=>(zY5 q2.wf).thn λ_ r3 _ q3=>(zeu q3.wf).thn λ_ r4 _ q4=>MV.ret q4.wf
def zwd{L:List ak}(h:TWF r):MV r (WU L r):=by
 unfold WU
 exact(qQ h).thn λ_ r1 _ q1=>(zFq _ _ r1 q1.wf).thn λ_ r2 _ q2=>(j5 q2.wf).thn λ_ r3 _ q3=>(WW q3.wf).thn λ_ r4 _ q4=>(j5 q4.wf).thn λ_ r5 _ q5=>MV.ret q5.wf
def zFt{L:List ak}(h:TWF r):MV r (zla L r):=by
 unfold zla
 exact(qQ h).thn λ_ r1 _ q1=>(zlc q1.wf).thn λ_ r2 _ q2=>(j5 q2.wf).thn λ_ r3 _ q3=>(kZ q3.wf).thn λ_ r4 _ q4=>(j5 q4.wf).thn λ_ r5 _ q5=>(zlc q5.wf).thn λ_ r6 _ q6=>(zN9 _ _ r6 q6.wf).thn λ_ r7 _ q7=>(j5 q7.wf).thn λ_ r8 _ q8=>MV.ret q8.wf
def zFu{L:List ak}{o:Bool}(h:TWF r):MV r (zes L o r):=by
 unfold zes
 exact(qQ h).thn λ_ r1 _ q1=>(HX _ _ r1 q1.wf).thn λ_ r2 _ q2=>(zeu q2.wf).thn λ_ r3 _ q3=>MV.ret q3.wf
def zY6{L:List ak}(h:TWF r):MV r (zN8 L r):=by
 unfold zN8
 exact(qQ h).thn λ_ r1 _ q1=>(WX q1.wf).thn λ_ r2 _ q2=>(kZ q2.wf).thn λ_ r3 _ q3=>(HX _ _ r3 q3.wf).thn λ_ r4 _ q4=>(zeu q4.wf).thn λ_ r5 _ q5=>MV.ret q5.wf
def zS9(h:TWF r):MV r (Zd r):=by
 unfold Zd
 refine MV.ite (λhb=>MV.tail h (zw hb) ?_) λ_=>MV.ite (λhb=>MV.tail h (zw hb) ?_) λ_=>MV.ite (λhb=>MV.tail h (zw hb) ?_) λ_=>?_
 ·have k:=h.tail (zw hb)
  unfold zwb
  exact(kZ k).thn λ_ r1 _ q1=>(j5 q1.wf).thn λ_ r2 _ q2=>(kZ q2.wf).thn λ_ r3 _ q3=>(j5 q3.wf).thn λ_ r4 _ q4=>(kZ q4.wf).thn λ_ r5 _ q5=>(kZ q5.wf).thn λ_ r6 _ q6=>(j5 q6.wf).thn λ_ r7 _ q7=>MV.ret q7.wf
 ·have k:=h.tail (zw hb)
  unfold zLa
  exact(zOa _ _ _ k).thn λ_ r1 _ q1=>(j5 q1.wf).thn λ_ r2 _ q2=>MV.ret q2.wf
 ·have k:=h.tail (zw hb)
  unfold zwc
  exact(WX k).thn λ_ r1 _ q1=>(WX q1.wf).thn λ_ r2 _ q2=>(kZ q2.wf).thn λ_ r3 _ q3=>(j5 q3.wf).thn λ_ r4 _ q4=>MV.ret q4.wf
 ·unfold zLb
  exact(zY5 h).thn λ_ r1 _ q1=>(zeu q1.wf).thn λ_ r2 _ q2=>MV.ret q2.wf
def zle{t:ak}(h:TWF r):zhv r (zzm t r):=by
 unfold zzm;split
 ·rename_i hb;exact(zF h (zw hb)).e
 ·exact zhv.refl h
def MV.from{x:Except EE (α×List Token)}{r1:List Token}(h:zhv r r1)(k:MV r1 x):MV r x:=λa r2 e=>h.trans (k a r2 e)
def zFv{L:List ak}(h:TWF r):MV r (zlb L r):=by
 unfold zlb
 exact(qQ h).thn λ_ r1 _ q1=>(QW q1.wf λr h=>zld h).thn λ_ r2 _ q2=>(QW q2.wf λr h=>zld h).thn λ_ r3 _ q3=>(QW q3.wf λr h=>kZ h).thn λ_ r4 _ q4=>(QW q4.wf λr h=>kZ h).thn λ_ r5 _ q5=>(QW q5.wf λr h=>kZ h).thn λ_ r6 _ q6=>(MV.from (zle q6.wf) (j5 (zle q6.wf).wf)).thn λ_ r7 _ q7=>(zS9 q7.wf).thn λ_ r8 _ q8=>MV.ret q8.wf
end
def WY(n most:Nat)(r:List Token):Except EE (Unit×List Token):=thn (J8 (decide (n<most)) 6 r) λ_ r=>.ok ((),r.tail)
noncomputable def zpv(p:yX)(h:Bool)(r:List Token):Except EE ((yX×Bool)×List Token) :=
 if isB wR r then thn (WY p.Defs.length 60 r) λ_ r=>thn (zK8 (p.Defs.map Def.Name) r) λd r=>.ok (({ p with Defs:=p.Defs++[d] },h),r)
 else if isB yz r then thn (WY p.Tables.length 60 r) λ_ r=>thn (WU (p.Tables.map Table.Name) r) λd r=>.ok (({ p with Tables:=p.Tables++[d] },h),r)
 else if isB xh r then thn (WY p.Zones.length 60 r) λ_ r=>thn (zes (p.Zones.map yp.Name) false r) λd r=>.ok (({ p with Zones:=p.Zones++[d] },h),r)
 else if isB yI r then thn (WY p.Zones.length 60 r) λ_ r=>thn (zes (p.Zones.map yp.Name) true r) λd r=>.ok (({ p with Zones:=p.Zones++[d] },h),r)
 else if isB ua r then thn (WY p.Rules.length 200 r) λ_ r=>thn (zlb (p.Rules.map zO.Name) r) λd r=>.ok (({ p with Rules:=p.Rules++[d] },h),r)
 else if isB V7 r then thn (WY p.Caps.length 30 r) λ_ r=>thn (zN8 (p.Caps.map Cap.Name) r) λd r=>.ok (({ p with Caps:=p.Caps++[d] },h),r)
 else if isB AJ r then thn (WY p.Views.length 60 r) λ_ r=>thn (zla (p.Views.map View.Name) r) λd r=>.ok (({ p with Views:=p.Views++[d] },h),r)
 else if isB Jm r then thn (J8 (decide (p.Sun.length=0)) 5 r) λ_ r=>thn (zK7 p.Sun r.tail) λs r=>.ok (({ p with Sun:=s },h),r)
 else if isB kE r then thn (J8 (!h) 5 r) λ_ r=>thn (qb 0 24 r.tail) λn r=>thn (xV yg r) λ_ r=>.ok (({ p with Hours:=n },true),r)
 else .error (zkq r 14)
noncomputable def zft:Nat->yX->Bool->List Token->Except EE ((yX×Bool)×List Token)
 |0,_,_,_=>oof
 |n+1,p,h,r=>if(hdT r).Kind=3 then .ok ((p,h),r)else thn (zpv p h r) λx r=>zft n x.1 x.2 r
def RP{α γ:Type}(l:List Token)(x:Except EE (α×List Token))(s:Option γ)(p:Option (EE⊕γ))(S:α->Int->γ->Prop):Prop:=match x with
 |.ok (v,r)=>(∃y,s=some y/\p=some (.inr y)/\S v (zU l r) y)/\St l r
 |.error e=>s=none/\p=some (.inl e)
def RR.bindP{α β α' γ:Type}{l:List Token}{x:Except EE (α×List Token)}{s:Option β}{p:Option EE}{S:α->Int->β->Prop}{g:α->List Token->Except EE (α'×List Token)}{s2:β->Option γ}{p2:β->Option (EE⊕γ)}{S2:α'->Int->γ->Prop}(h:RR l x s p S)(h2:∀v r y,x=.ok (v,r)->St l r->S v (zU l r) y->RP l (g v r) (s2 y) (p2 y) S2):RP l (thn x g) (s.bind s2) (orC p (λq=>some (.inl q)) (s.bind p2)) S2:=by
 match x,h,h2 with
 |.error e,⟨h,h'⟩,_=>exact⟨by rw[h];rfl,by rw[h'];rfl⟩
 |.ok (v,r),⟨⟨y,h,hy⟩,h',hs⟩,h2 =>
  have:=h2 v r y rfl hs hy;rw[h,h'];exact this
def RT.bindP{α β α' γ:Type}{l:List Token}{x:Except EE (α×List Token)}{s:Option β}{p:Option EE}{f:α->Int->β}{g:α->List Token->Except EE (α'×List Token)}{s2:β->Option γ}{p2:β->Option (EE⊕γ)}{S2:α'->Int->γ->Prop}(h:RT l x s p f)(h2:∀v r,x=.ok (v,r)->St l r->RP l (g v r) (s2 (f v (zU l r))) (p2 (f v (zU l r))) S2):RP l (thn x g) (s.bind s2) (orC p (λq=>some (.inl q)) (s.bind p2)) S2 :=
 h.rr.bindP λv r y h1 hs hy=>by subst hy;exact h2 v r h1 hs
abbrev NM:=List (List (ak×Bool))
def qT(l:List Token)(p:yX)(h:Bool)(r:List Token)(n0 n1 n2 n3 n4 n5:NM):Int×Int×Bool×List Def×List Table×List yp×List zO×List Cap×List View×List zg×NM×NM×NM×NM×NM×NM :=
 (zU l r,p.Hours,h,p.Defs,p.Tables,p.Zones,p.Rules,p.Caps,p.Views,p.Sun,n0,n1,n2,n3,n4,n5)
def QS(v:yX×Bool)(i:Int)(y:Int×Int×Bool×List Def×List Table×List yp×List zO×List Cap×List View×List zg×NM×NM×NM×NM×NM×NM):Prop:=y.1=i/\y.2.1=v.1.Hours/\y.2.2.1=v.2/\y.2.2.2.1=v.1.Defs/\y.2.2.2.2.1=v.1.Tables/\y.2.2.2.2.2.1=v.1.Zones/\y.2.2.2.2.2.2.1=v.1.Rules/\y.2.2.2.2.2.2.2.1=v.1.Caps/\y.2.2.2.2.2.2.2.2.1=v.1.Views/\y.2.2.2.2.2.2.2.2.2.1=v.1.Sun
def A1{n most:Nat}{r r2:List Token}{u:Unit}(h:WY n most r=.ok (u,r2)):r2=r.tail/\n<most:=by
 obtain⟨a,r1,h1,h2⟩:=yv h;obtain⟨rfl,hc⟩:=qG h1;cases h2;exact⟨rfl,of_decide_eq_true hc⟩
section
variable{b:BB}
def zFw{r:List Token}{t:ak}(hk:¬(hdT r).Kind=3):isB t r=decide ((hdT r).Text=t):=by
 unfold isB;rw[df hk];rfl
def zY7:∀(n:Nat)(r:List Token)(p:yX)(h:Bool)(n0 n1 n2 n3 n4 n5:NM)(K:Nat),St b.l r->r.length<n->n<=K ->
  MN n0 (p.Defs.map Def.Name)->MN n1 (p.Tables.map Table.Name)->MN n2 (p.Zones.map yp.Name)->MN n3 (p.Rules.map zO.Name)->MN n4 (p.Caps.map Cap.Name)->MN n5 (p.Views.map View.Name) ->
  RP b.l (zft n p h r) (yj b K (qT b.l p h r n0 n1 n2 n3 n4 n5)) (yk b K (qT b.l p h r n0 n1 n2 n3 n4 n5)) QS:=by
 intro n
 induction n with
 |zero=>intro r p h n0 n1 n2 n3 n4 n5 K hs hn;omega
 |succ n ih =>
  intro r p h n0 n1 n2 n3 n4 n5 K hs hn hK m0 m1 m2 m3 m4 m5
  obtain⟨K,rfl⟩:∃k,K=k+1:=⟨K-1,ab⟩
  rw[zft,yj,yk,show za=zb from rfl];have a0:At { (zb b (qT b.l p h r n0 n1 n2 n3 n4 n5))with l:=b.l } r:=ym rfl rfl hs;simp only[a0.next,bsQ];by_cases hk:(hdT r).Kind=3
  ·rw[if_pos hk,dt hk]
   exact⟨⟨_,rfl,rfl,rfl,rfl,rfl,rfl,rfl,rfl,rfl,rfl,rfl,rfl⟩,hs⟩
  ·rw[if_neg hk,df hk,Bool.not_false,ctQ,ctQ]
   have hlt:=YZ hs.wf;unfold zpv;simp only[<- zFw hk]
   have go:∀{r2:List Token},zhv r.tail r2->r2.length<n/\n<=K:=λh=>⟨by have:=h.le;omega,ab⟩
   cases e1:isB wR r with
   |true =>
    simp only[if_true,ctQ,zP]
    refine(Vx a0 p.Defs.length 60 hk).bindP λu r1 h1 hs1=>?_
    obtain⟨rfl,hl⟩:=A1 h1
    refine(zFo (ym rfl rfl hs1:At { zb b (qT b.l p h r n0 n1 n2 n3 n4 n5)with l:=b.l,i:=zU b.l r.tail } r.tail) m0 (show p.Defs.length<=1000 by omega)).bindP λd r2 y h2 hs2 hy=>?_
    obtain⟨y1,y2,y3⟩:=y;obtain⟨rfl,rfl,hy⟩:=hy;have g:=go (zOc hs1.wf _ _ h2);exact ih r2 { p with Defs:=p.Defs++[d] } h y3 n1 n2 n3 n4 n5 K hs2 g.1 g.2 (by rw[List.map_append];exact hy) m1 m2 m3 m4 m5
   |false =>
   simp only[if_neg (show ¬(false=true) by simp),cf]
   cases e2:isB yz r with
   |true =>
    simp only[if_true,ctQ,zP]
    refine(Vx a0 p.Tables.length 60 hk).bindP λu r1 h1 hs1=>?_
    obtain⟨rfl,hl⟩:=A1 h1
    refine(zK9 (ym rfl rfl hs1:At { zb b (qT b.l p h r n0 n1 n2 n3 n4 n5)with l:=b.l,i:=zU b.l r.tail } r.tail) m1 (show p.Tables.length<=1000 by omega)).bindP λd r2 y h2 hs2 hy=>?_
    obtain⟨y1,y2,y3⟩:=y;obtain⟨rfl,rfl,hy⟩:=hy;have g:=go (zwd hs1.wf _ _ h2);exact ih r2 { p with Tables:=p.Tables++[d] } h n0 y3 n2 n3 n4 n5 K hs2 g.1 g.2 m0 (by rw[List.map_append];exact hy) m2 m3 m4 m5
   |false =>
   simp only[if_neg (show ¬(false=true) by simp),cf]
   cases e3:isB xh r with
   |true =>
    simp only[if_true,ctQ,zP]
    have ho:isB yI r=false:=by
     rw[zFw hk]at e3 ⊢;rw[of_decide_eq_true e3];rfl
    rw[a0.is,ho,bsQ,bsQ]
    refine(Vx a0 p.Zones.length 60 hk).bindP λu r1 h1 hs1=>?_
    obtain⟨rfl,hl⟩:=A1 h1;unfold zes;simp only[zP]
    refine(zFk (ym rfl rfl hs1:At { zb b (qT b.l p h r n0 n1 n2 n3 n4 n5)with l:=b.l,i:=zU b.l r.tail } r.tail) m2).bindP λs r2 y h2 hs2 hy=>?_
    obtain⟨y1,y2,y3⟩:=y;obtain⟨rfl,rfl,hy⟩:=hy;have q2:=qQ hs1.wf _ _ h2
    refine(zer (ym rfl rfl hs2:At { zb b (qT b.l p h r n0 n1 n2 n3 n4 n5)with l:=b.l,i:=zU b.l r2,n2:=y3 } r2)).bindP λc r3 h3 hs3=>?_
    have q3:=q2.trans (HX _ _ _ hs2.wf _ _ h3);dsimp only;rw[zeg,bsQ,bsQ]
    refine(zps (ym rfl rfl hs3:At { zb b (qT b.l p h r n0 n1 n2 n3 n4 n5)with l:=b.l,i:=zU b.l r3,n2:=y3 } r3) _ _).bindP λu r4 h4 hs4=>?_
    have g:=go (q3.trans (zeu hs3.wf _ _ h4));rw[zD (by show(p.Zones++_).length*48<=_;simp only[la,lc,List.length_nil];omega),bsQ,bsQ];exact ih r4 { p with Zones:=p.Zones++[yp.mk y1 false c] } h n0 n1 y3 n3 n4 n5 K hs4 g.1 g.2 m0 m1 (by rw[List.map_append];exact hy) m3 m4 m5
   |false =>
   simp only[if_neg (show ¬(false=true) by simp),cf]
   cases e4:isB yI r with
   |true =>
    simp only[if_true,ctQ,zP];rw[a0.is,e4,bsQ,bsQ]
    refine(Vx a0 p.Zones.length 60 hk).bindP λu r1 h1 hs1=>?_
    obtain⟨rfl,hl⟩:=A1 h1;unfold zes;simp only[zP]
    refine(zFk (ym rfl rfl hs1:At { zb b (qT b.l p h r n0 n1 n2 n3 n4 n5)with l:=b.l,i:=zU b.l r.tail } r.tail) m2).bindP λs r2 y h2 hs2 hy=>?_
    obtain⟨y1,y2,y3⟩:=y;obtain⟨rfl,rfl,hy⟩:=hy;have q2:=qQ hs1.wf _ _ h2
    refine(zer (ym rfl rfl hs2:At { zb b (qT b.l p h r n0 n1 n2 n3 n4 n5)with l:=b.l,i:=zU b.l r2,n2:=y3 } r2)).bindP λc r3 h3 hs3=>?_
    have q3:=q2.trans (HX _ _ _ hs2.wf _ _ h3);dsimp only;rw[zeg,bsQ,bsQ]
    refine(zps (ym rfl rfl hs3:At { zb b (qT b.l p h r n0 n1 n2 n3 n4 n5)with l:=b.l,i:=zU b.l r3,n2:=y3 } r3) _ _).bindP λu r4 h4 hs4=>?_
    have g:=go (q3.trans (zeu hs3.wf _ _ h4));rw[zD (by show(p.Zones++_).length*48<=_;simp only[la,lc,List.length_nil];omega),bsQ,bsQ];exact ih r4 { p with Zones:=p.Zones++[yp.mk y1 true c] } h n0 n1 y3 n3 n4 n5 K hs4 g.1 g.2 m0 m1 (by rw[List.map_append];exact hy) m3 m4 m5
   |false =>
   simp only[if_neg (show ¬(false=true) by simp),cf]
   cases e5:isB ua r with
   |true =>
    simp only[if_true,ctQ,zP]
    refine(Vx a0 p.Rules.length 200 hk).bindP λu r1 h1 hs1=>?_
    obtain⟨rfl,hl⟩:=A1 h1
    refine(zS8 (ym rfl rfl hs1:At { zb b (qT b.l p h r n0 n1 n2 n3 n4 n5)with l:=b.l,i:=zU b.l r.tail } r.tail) m3 (show p.Rules.length<=1000 by omega)).bindP λd r2 y h2 hs2 hy=>?_
    obtain⟨y1,y2,y3⟩:=y;obtain⟨rfl,rfl,hy⟩:=hy;have g:=go (zFv hs1.wf _ _ h2);exact ih r2 { p with Rules:=p.Rules++[d] } h n0 n1 n2 y3 n4 n5 K hs2 g.1 g.2 m0 m1 m2 (by rw[List.map_append];exact hy) m4 m5
   |false =>
   simp only[if_neg (show ¬(false=true) by simp),cf]
   cases e6:isB V7 r with
   |true =>
    simp only[if_true,ctQ,zP]
    refine(Vx a0 p.Caps.length 30 hk).bindP λu r1 h1 hs1=>?_
    obtain⟨rfl,hl⟩:=A1 h1;unfold zN8;simp only[zP]
    refine(zS1 (ym rfl rfl hs1:At { zb b (qT b.l p h r n0 n1 n2 n3 n4 n5)with l:=b.l,i:=zU b.l r.tail } r.tail) m4).bindP λs r2 y h2 hs2 hy=>?_
    obtain⟨y1,y2,y3⟩:=y;obtain⟨rfl,rfl,hy⟩:=hy;have q2:=qQ hs1.wf _ _ h2
    refine(WT (ym rfl rfl hs2:At { zb b (qT b.l p h r n0 n1 n2 n3 n4 n5)with l:=b.l,i:=zU b.l r2,n4:=y3 } r2) zs2 ae).bindP λk r3 h3 hs3=>?_
    have q3:=q2.trans (WX hs2.wf _ _ h3)
    refine((ym rfl rfl hs3:At { zb b (qT b.l p h r n0 n1 n2 n3 n4 n5)with l:=b.l,i:=zU b.l r3,n4:=y3 } r3).number 0 1099511627776).bindP λm r4 h4 hs4=>?_
    have q4:=q3.trans (kZ hs3.wf _ _ h4)
    refine(zer (ym rfl rfl hs4:At { zb b (qT b.l p h r n0 n1 n2 n3 n4 n5)with l:=b.l,i:=zU b.l r4,n4:=y3 } r4)).bindP λc r5 h5 hs5=>?_
    have q5:=q4.trans (HX _ _ _ hs4.wf _ _ h5);dsimp only;rw[zeg,bsQ,bsQ]
    refine(zps (ym rfl rfl hs5:At { zb b (qT b.l p h r n0 n1 n2 n3 n4 n5)with l:=b.l,i:=zU b.l r5,n4:=y3 } r5) _ _).bindP λu r6 h6 hs6=>?_
    have g:=go (q5.trans (zeu hs5.wf _ _ h6));rw[zD (by show(p.Caps++_).length*56<=_;simp only[la,lc,List.length_nil];omega),bsQ,bsQ];exact ih r6 { p with Caps:=p.Caps++[Cap.mk y1 k m c] } h n0 n1 n2 n3 y3 n5 K hs6 g.1 g.2 m0 m1 m2 m3 (by rw[List.map_append];exact hy) m5
   |false =>
   simp only[if_neg (show ¬(false=true) by simp),cf]
   cases e7:isB AJ r with
   |true =>
    simp only[if_true,ctQ,zP]
    refine(Vx a0 p.Views.length 60 hk).bindP λu r1 h1 hs1=>?_
    obtain⟨rfl,hl⟩:=A1 h1
    refine(zS5 (ym rfl rfl hs1:At { zb b (qT b.l p h r n0 n1 n2 n3 n4 n5)with l:=b.l,i:=zU b.l r.tail } r.tail) m5 (show p.Views.length<=1000 by omega)).bindP λd r2 y h2 hs2 hy=>?_
    obtain⟨y1,y2,y3⟩:=y;obtain⟨rfl,rfl,hy⟩:=hy;have g:=go (zFt hs1.wf _ _ h2);exact ih r2 { p with Views:=p.Views++[d] } h n0 n1 n2 n3 n4 y3 K hs2 g.1 g.2 m0 m1 m2 m3 m4 (by rw[List.map_append];exact hy)
   |false =>
   simp only[if_neg (show ¬(false=true) by simp),cf]
   cases e8:isB Jm r with
   |true =>
    simp only[if_true,ctQ,zP];have hst:=hs.tail hk
    refine(a0.check (decide (p.Sun.length=0)) 5).bindP λu r1 h1 hs1=>?_
    obtain⟨rfl,hl⟩:=qG h1;rw[a0.step]
    refine(zY2 (b:={ zb b (qT b.l p h r1 n0 n1 n2 n3 n4 n5)with l:=b.l,i:=zU b.l r1.tail }) (ym rfl rfl hst)).bindP λs r2 h2 hs2=>?_
    have g:=go (zFs hst.wf _ _ h2);exact ih r2 { p with Sun:=s } h n0 n1 n2 n3 n4 n5 K hs2 g.1 g.2 m0 m1 m2 m3 m4 m5
   |false =>
   simp only[if_neg (show ¬(false=true) by simp),cf]
   cases e9:isB kE r with
   |true =>
    simp only[if_true,ctQ,zP];have hst:=hs.tail hk
    refine(a0.check (!h) 5).bindP λu r1 h1 hs1=>?_
    obtain⟨rfl,hl⟩:=qG h1;rw[a0.step]
    refine((ym rfl rfl hst:At { zb b (qT b.l p h r1 n0 n1 n2 n3 n4 n5)with l:=b.l,i:=zU b.l r1.tail } r1.tail).number 0 24).bindP λm r2 h2 hs2=>?_
    have q2:=kZ hst.wf _ _ h2
    refine((ym rfl rfl hs2:At { zb b (qT b.l p h r1 n0 n1 n2 n3 n4 n5)with l:=b.l,i:=zU b.l r2,H:=m,h:=true } r2).want yg).bindP λu r3 h3 hs3=>?_
    have g:=go (q2.trans (j5 hs2.wf _ _ h3));exact ih r3 { p with Hours:=m } true n0 n1 n2 n3 n4 n5 K hs3 g.1 g.2 m0 m1 m2 m3 m4 m5
   |false =>
   simp only[if_neg (show ¬(false=true) by simp),cf];refine⟨rfl,?_⟩;unfold Hw;rw[a0.next];rfl
end
structure Stop(r:List Token):Prop where
 wf:TWF r
 num:Kc r=false
 nam:ze3 r=false
 op:opR r=none
 comma:isB qa r=false
 use:JM (hdT r).Text USE=none
def zFx{p:Int}{r:List Token}(h:TWF r):Stop (tk (sgQ yg) p::r):=⟨kp (a:=sgQ yg) rfl h,rfl,rfl,rfl,by rw[zE];decide,rfl⟩
def zY8{w:ak}{p:Int}{r:List Token}(h:zN w=false):ze3 (tk (kwQ w) p::r)=false:=by rw[<- h];exact Bool.true_and _
def JV{s:ak}{L:List ak}{p:Int}{r:List Token}(h:zN s=true)(hL:s ∉ L):wJ L (tk (kwQ s) p::r)=.ok (s,r):=by
 unfold wJ;rw[if_pos (zv2 h),if_neg (show ¬(hdT (tk (kwQ s) p::r)).Text∈L from hL)];rfl
def zTa{n p:Int}{w:ak}{r:List Token}(h:w.all xi=false):isB w (tk (xR n) p::r)=false:=by
 rw[zE];exact(Bool.true_and _).trans (df (Ar h))
def zwe{most n:Int}{l r:List Token}(h0:0-most<=n)(h1:n<=most)(hl:l.map t3=zy5 n):vR most (l++r)=.ok (n,r):=by
 unfold zy5 at hl;split at hl
 ·obtain⟨p,l1,rfl,e1⟩:=map_cons hl
  obtain⟨q,l2,rfl,e2⟩:=map_cons e1;obtain rfl:=map_nil e2;unfold vR
  show(if isB yS (tk (sgQ yS) p::tk (xR (0-n)) q::r)=true then thn (qb 0 most (tk (xR (0-n)) q::r)) _ else _)=_
  rw[if_pos (show isB yS (tk (sgQ yS) p::tk (xR (0-n)) q::r)=true by rw[zE];decide)];rw[qc ab ab]
  show Except.ok (0-(0-n),r)=_
  rw[show 0-(0-n)=n by omega]
 ·obtain⟨p,l1,rfl,e1⟩:=map_cons hl
  obtain rfl:=map_nil e1;unfold vR
  show(if isB yS (tk (xR n) p::r)=true then _ else qb 0 most (tk (xR n) p::r))=_
  rw[zTa rfl,if_neg af,qc ab h1]
def zbn{e:Int}{r:List Token}:zs1 true e r=xV yg r:=by
 unfold zs1 xV;cases isB yg r<;>rfl
def zlf:∀(ps:List zV)(n:Nat)(acc:List zV)(l r:List Token),ps≠[]->ps.length<=n->(∀p∈ps,(0<=p.X/\p.X<=1048576)/\(0<=p.Y/\p.Y<=1048576))->l.map t3=ps.flatMap ptQ->Kc r=false->kY n acc (l++r)=.ok (acc++ps,r)
 |[],_,_,_,_,h,_,_,_,_=>absurd rfl h
 |p::ps,0,_,_,_,_,h,_,_,_=>by simp at h
 |p::ps,n+1,acc,l,r,_,hn,hb,hl,hr=>by
  obtain⟨⟨x0,x1⟩,y0,y1⟩:=hb p al;rw[List.flatMap_cons]at hl;obtain⟨a,l1,rfl,e1⟩:=map_cons (show l.map t3=xR p.X::(xR p.Y::ps.flatMap ptQ) from hl);obtain⟨b,l2,rfl,e2⟩:=map_cons e1;rw[kY]
  show thn (qb 0 1048576 (tk (xR p.X) a::(tk (xR p.Y) b::(l2++r)))) _=_
  rw[qc x0 x1]
  show thn (qb 0 1048576 (tk (xR p.Y) b::(l2++r))) _=_
  rw[qc y0 y1]
  show(if Kc (l2++r)=true then kY n (acc++[p]) (l2++r)else .ok (acc++[p],l2++r))=_
  cases ps with
  |nil =>
   obtain rfl:=map_nil e2;rw[List.nil_append,hr,if_neg af]
  |cons q ps =>
   have hk:Kc (l2++r)=true:=by
    rw[List.flatMap_cons]at e2;obtain⟨c,l3,rfl,_⟩:=map_cons (show l2.map t3=xR q.X::(xR q.Y::ps.flatMap ptQ) from e2);rfl
   rw[if_pos hk,zlf (q::ps) n (acc++[p]) l2 r af (by simpa using hn) (λx hx=>hb x (mcQ _ hx)) e2 hr,asc];rfl
def zlg{p:zg}(h:WG p){l r:List Token}(hl:l.map t3=zSq p):HW (l++r)=.ok (p,r):=by
 obtain⟨⟨x0,x1⟩,⟨y0,y1⟩,z0,z1⟩:=h;obtain⟨a,l1,rfl,e1⟩:=map_cons (show l.map t3=[xR p.X,xR p.Y,xR p.Z_] from hl);obtain⟨b,l2,rfl,e2⟩:=map_cons e1;obtain⟨c,l3,rfl,e3⟩:=map_cons e2;obtain rfl:=map_nil e3;unfold HW
 show thn (qb 0 1048576 (tk (xR p.X) a::(tk (xR p.Y) b::(tk (xR p.Z_) c::r)))) _=_
 rw[qc x0 x1]
 show thn (qb 0 1048576 (tk (xR p.Y) b::(tk (xR p.Z_) c::r))) _=_
 rw[qc y0 y1]
 show thn (qb 0 4096 (tk (xR p.Z_) c::r)) _=_
 rw[qc z0 z1];rfl
def zwf:∀(ps:List zg)(n:Nat)(acc:List zg)(l r:List Token),ps.length<n->acc.length+ps.length<=20->(∀p∈ps,WG p)->l.map t3=ps.flatMap zSq->Kc r=false->zzl n acc (l++r)=.ok (acc++ps,r)
 |_,0,_,_,_,h,_,_,_,_=>absurd h (Nat.not_lt_zero _)
 |[],n+1,acc,l,r,_,_,_,hl,hr=>by
  obtain rfl:=map_nil hl;rw[zzl,List.nil_append,hr,if_neg af,List.append_nil]
 |p::ps,n+1,acc,l,r,hn,hm,hb,hl,hr=>by
  rw[List.flatMap_cons]at hl;obtain⟨l1,l2,rfl,e1,e2⟩:=wF hl;simp only[lc]at hn hm
  have hk:Kc (l1++l2++r)=true:=by
   obtain⟨a,l3,rfl,_⟩:=map_cons (show l1.map t3=[xR p.X,xR p.Y,xR p.Z_] from e1);rfl
  rw[zzl,if_pos hk];unfold J8;rw[if_pos (dt (show acc.length<20 by omega)),asc]
  show thn (HW (l1++(l2++r))) _=_
  rw[zlg (hb p al) e1]
  show zzl n (acc++[p]) (l2++r)=_
  rw[zwf ps n (acc++[p]) l2 r ab (by simp only[la,lc,List.length_nil];omega) (λx hx=>hb x (mcQ _ hx)) e2 hr,asc];rfl
def VM:∀(es:List Entry)(n:Nat)(acc:List Entry)(l r:List Token),es.length<n->acc.length+es.length<=60->(∀x∈es,zN x.Name=true/\-1099511627776<=x.N/\x.N<=1099511627776)->((acc++es).map Entry.Name).Nodup->l.map t3=es.flatMap zYp->ze3 r=false->Zc n acc (l++r)=.ok (acc++es,r)
 |_,0,_,_,_,h,_,_,_,_,_=>absurd h (Nat.not_lt_zero _)
 |[],n+1,acc,l,r,_,_,_,_,hl,hr=>by
  obtain rfl:=map_nil hl;rw[Zc,List.nil_append,hr,if_neg af,List.append_nil]
 |x::es,n+1,acc,l,r,hn,hm,hb,hd,hl,hr=>by
  rw[List.flatMap_cons]at hl;obtain⟨a,l1,rfl,e1⟩:=map_cons (show l.map t3=kwQ x.Name::(zy5 x.N++es.flatMap zYp) from hl);obtain⟨l2,l3,rfl,e2,e3⟩:=wF e1;simp only[lc]at hn hm;obtain⟨b1,b2,b3⟩:=hb x al
  have hx:x.Name ∉ acc.map Entry.Name:=λh=>by
   rw[List.map_append,List.nodup_append]at hd;exact hd.2.2 _ h _ af rfl
  show Zc (n+1) acc (tk (kwQ x.Name) a::(l2++l3++r))=_
  rw[Zc,if_pos (zv2 b1)];unfold J8;rw[if_pos (dt (show acc.length<60 by omega)),asc]
  show thn (wJ (acc.map Entry.Name) (tk (kwQ x.Name) a::(l2++(l3++r)))) _=_
  rw[JV b1 hx]
  show thn (vR 1099511627776 (l2++(l3++r))) _=_
  rw[zwe ab b3 e2]
  show Zc n (acc++[x]) (l3++r)=_
  rw[VM es n (acc++[x]) l3 r ab (by simp only[la,lc,List.length_nil];omega) (λy hy=>hb y (mcQ _ hy)) (by rw[asc];exact hd) e3 hr,asc];rfl
def zpw:∀(zs:List ak)(n:Nat)(acc:List ak)(l r:List Token),zs.length<n->zs.all zN=true->l.map t3=zs.map kwQ->ze3 r=false->Za n acc (l++r)=.ok (acc++zs,r)
 |_,0,_,_,_,h,_,_,_=>absurd h (Nat.not_lt_zero _)
 |[],n+1,acc,l,r,_,_,hl,hr=>by
  obtain rfl:=map_nil hl;rw[Za,List.nil_append,hr,if_neg af,List.append_nil]
 |z::zs,n+1,acc,l,r,hn,hb,hl,hr=>by
  obtain⟨a,l1,rfl,e1⟩:=map_cons (show l.map t3=kwQ z::zs.map kwQ from hl);rw[List.all_cons,bn]at hb;simp only[lc]at hn
  show Za (n+1) acc (tk (kwQ z) a::(l1++r))=_
  rw[Za,if_pos (zv2 hb.1),Y6 hb.1]
  show Za n (acc++[z]) (l1++r)=_
  rw[zpw zs n (acc++[z]) l1 r ab hb.2 e1 hr,asc];rfl
def zFy{z:ak}{zs:List ak}{l r:List Token}(hb:(z::zs).all zN=true)(hl:l.map t3=(z::zs).map kwQ)(hr:ze3 r=false):WR (l++r)=.ok (z::zs,r):=by
 obtain⟨a,l1,rfl,e1⟩:=map_cons (show l.map t3=kwQ z::zs.map kwQ from hl);rw[List.all_cons,bn]at hb;unfold WR
 show thn (u0 (tk (kwQ z) a::(l1++r))) _=_
 rw[Y6 hb.1]
 show Za ((l1++r).length+1) [z] (l1++r)=_
 have hlen:=congrArg List.length e1;rw[List.length_map,List.length_map]at hlen;exact zpw zs _ [z] l1 r (by rw[la];omega) hb.2 e1 hr
def Vy{w:List ak}{i:Nat}{p:Int}{r:List Token}(h:JM (w.getD i []) w=some i):j4 w (tk (kwQ (w.getD i [])) p::r)=.ok ((i:Int),r):=by
 unfold j4;rw[if_pos (show(hdT (tk (kwQ (w.getD i [])) p::r)).Kind=0 from rfl),show(hdT (tk (kwQ (w.getD i [])) p::r)).Text=w.getD i [] from rfl,h];rfl
def zlh:∀i<6,JM (u6.getD i []) u6=some i:=ah
def zFz:∀i<3,JM (JR.getD i []) JR=some i:=ah
def orB(s:Nat)(is:List Nat):Nat:=is.foldl (λs i=>s ||| 2 ^ i) s
def zwg:∀(is:List Nat)(n s:Nat)(l r:List Token),is.length<n->(∀i∈is,i<6/\Nat.testBit s i=false)->is.Nodup->(0<s∨is≠[])->l.map t3=is.map (λi=>kwQ (u6.getD i []))->JM (hdT r).Text USE=none->zs3 n s (l++r)=.ok (orB s is,r)
 |_,0,_,_,_,h,_,_,_,_,_=>absurd h (Nat.not_lt_zero _)
 |[],n+1,s,l,r,_,_,_,h0,hl,hr=>by
  obtain rfl:=map_nil hl
  have hs:0<s:=by
   rcases h0 with h|h
   ·exact h
   ·exact absurd rfl h
  rw[zs3,List.nil_append,hr];dsimp only;rw[if_pos hs];rfl
 |i::is,n+1,s,l,r,hn,hb,hd,_,hl,hr=>by
  obtain⟨a,l1,rfl,e1⟩:=map_cons (show l.map t3=kwQ (u6.getD i [])::is.map (λi=>kwQ (u6.getD i [])) from hl);obtain⟨b1,b2⟩:=hb i al;obtain⟨d1,d2⟩:=List.nodup_cons.1 hd;simp only[lc]at hn
  show zs3 (n+1) s (tk (kwQ (u6.getD i [])) a::(l1++r))=_
  rw[zs3,show JM (hdT (tk (kwQ (u6.getD i [])) a::(l1++r))).Text USE=some i from zlh i b1];dsimp only;rw[if_neg (show ¬(0<s/\(hdT (tk (kwQ (u6.getD i [])) a::(l1++r))).Kind≠0) from λh=>h.2 rfl),b2,if_neg af,if_pos (show(hdT (tk (kwQ (u6.getD i [])) a::(l1++r))).Kind=0 from rfl)]
  show zs3 n (s ||| 2 ^ i) (l1++r)=_
  refine(zwg is n (s ||| 2 ^ i) l1 r ab (λj hj=>?_) d2 (.inl ?_) e1 hr).trans rfl
  ·obtain⟨c1,c2⟩:=hb j (mcQ _ hj)
   refine⟨c1,?_⟩
   have hne:i≠j:=λe=>d1 (e▸hj)
   rw[Nat.testBit_or,c2,Nat.testBit_two_pow_of_ne hne];rfl
  ·have:2 ^ i<=s ||| 2 ^ i:=Nat.right_le_or
   have:=Nat.two_pow_pos i;omega
def zLd:∀u<64,orB 0 ((List.range 6).filter (Nat.testBit u))=u:=ah
def zLe:∀u<64,0<u->(List.range 6).filter (Nat.testBit u)≠[]:=ah
def zwh:∀(ps:List zg)(n:Nat)(acc:List zg)(l r:List Token)(p:zg),ps.length<n->acc.length+ps.length+1<=24->(∀q∈p::ps,zzj q)->l.map t3=zGq p++ps.flatMap (λq=>sgQ qa::zGq q)->isB qa r=false->zFl n acc (l++r)=.ok (acc++p::ps,r)
 |_,0,_,_,_,_,h,_,_,_,_=>absurd h (Nat.not_lt_zero _)
 |ps,n+1,acc,l,r,p,hn,hm,hb,hl,hr=>by
  obtain⟨⟨x0,x1⟩,⟨y0,y1⟩,z0,z1⟩:=hb p al;obtain⟨l0,l1,rfl,e0,e1⟩:=wF hl;obtain⟨lx,l2,rfl,ex,e2⟩:=wF (show l0.map t3=zy5 p.X++(zy5 p.Y++[xR p.Z_]) from e0);obtain⟨ly,l3,rfl,ey,e3⟩:=wF e2;obtain⟨c,l4,rfl,e4⟩:=map_cons e3;obtain rfl:=map_nil e4
  have hk:(isB yS (lx++(ly++(tk (xR p.Z_) c::(l1++r))))||Kc (lx++(ly++(tk (xR p.Z_) c::(l1++r)))))=true:=by
   unfold zy5 at ex;split at ex
   ·obtain⟨a,l5,rfl,_⟩:=map_cons ex
    rw[List.cons_append,zE];rfl
   ·obtain⟨a,l5,rfl,_⟩:=map_cons ex
    rw[Bool.or_eq_true];exact .inr rfl
  have ea:lx++(ly++[tk (xR p.Z_) c])++l1++r=lx++(ly++(tk (xR p.Z_) c::(l1++r))):=af
  rw[ea,zFl];unfold J8;rw[hk,if_pos rfl]
  show thn (if decide (acc.length<24)=true then _ else _) _=_
  rw[if_pos (dt (show acc.length<24 by omega))]
  show thn (vR 4096 (lx++(ly++(tk (xR p.Z_) c::(l1++r))))) _=_
  rw[zwe ab x1 ex]
  show thn (vR 4096 (ly++(tk (xR p.Z_) c::(l1++r)))) _=_
  rw[zwe ab y1 ey]
  show thn (qb 1 4096 (tk (xR p.Z_) c::(l1++r))) _=_
  rw[qc z0 z1]
  show(if isB qa (l1++r)=true then zFl n (acc++[p]) (l1++r).tail else .ok (acc++[p],l1++r))=_
  cases ps with
  |nil =>
   obtain rfl:=map_nil e1;rw[List.nil_append,hr,if_neg af]
  |cons q ps =>
   rw[List.flatMap_cons]at e1;obtain⟨d,l6,rfl,e6⟩:=map_cons (show l1.map t3=sgQ qa::(zGq q++ps.flatMap (λq=>sgQ qa::zGq q)) from e1);simp only[lc]at hn hm;rw[if_pos (by rw[List.cons_append,zE];decide)]
   show zFl n (acc++[p]) (l6++r)=_
   rw[zwh ps n (acc++[p]) l6 r q ab (by simp only[la,lc,List.length_nil];omega) (λx hx=>hb x (mcQ _ hx)) e6 hr,asc];rfl
def zh5{α β:Type}{a:α}{r:List Token}{g:α->List Token->Except EE β}:thn (.ok (a,r)) g=g a r:=rfl
def HS(S:List ak)(x:List Token):Prop:=∃t p r,x=tk t p::r/\t.1≠1/\t.2.1∈S
def zh6{S:List ak}{x:List Token}{w:ak}(h:HS S x)(hw:w ∉ S):isB w x=false:=by
 obtain⟨t,p,r,rfl,_,hm⟩:=h;rw[zE,Bool.and_eq_false_iff];exact .inr (df λe=>hw (e▸hm))
def zOd{S:List ak}{x:List Token}(h:HS S x)(hS:S.all (λw=>!(zN w))=true):ze3 x=false:=by
 obtain⟨t,p,r,rfl,_,hm⟩:=h;have:=List.all_eq_true.1 hS _ hm;unfold ze3;rw[Bool.and_eq_false_iff];exact .inr (show zN t.2.1=false by simpa using this)
def HS.mono{S S':List ak}{x:List Token}(h:HS S x)(hS:∀w∈S,w∈S'):HS S' x:=by
 obtain⟨t,p,r,e,h1,h2⟩:=h;exact⟨t,p,r,e,h1,hS _ h2⟩
def zLf{w:ak}{zs:List ak}{S:List ak}{l x:List Token}(hl:l.map t3=ZK w zs)(hx:HS S x):HS (w::S) (l++x):=by
 unfold ZK at hl
 cases he:zs.isEmpty with
 |true =>
  rw[he]at hl;obtain rfl:=map_nil hl
  exact hx.mono λv hv=>mcQ _ hv
 |false =>
  rw[he]at hl;obtain⟨p,l1,rfl,_⟩:=map_cons (show l.map t3=kwQ w::zs.map kwQ from hl);exact⟨kwQ w,p,_,rfl,(by decide:(0:Int)≠1),al⟩
def zs4{w:ak}{n:Int}{S:List ak}{l x:List Token}(hl:l.map t3=zk6 w n)(hx:HS S x):HS (w::S) (l++x):=by
 unfold zk6 at hl;split at hl
 ·obtain rfl:=map_nil hl
  exact hx.mono λv hv=>mcQ _ hv
 ·obtain⟨p,l1,rfl,_⟩:=map_cons hl
  exact⟨kwQ w,p,_,rfl,(by decide:(0:Int)≠1),al⟩
def zTb{b:Bool}{S:List ak}{l x:List Token}(hl:l.map t3=zKr b)(hx:HS S x):HS (wm::S) (l++x):=by
 cases b with
 |false =>
  obtain rfl:=map_nil hl
  exact hx.mono λv hv=>mcQ _ hv
 |true =>
  obtain⟨p,l1,rfl,_⟩:=map_cons (show l.map t3=[kwQ wm] from hl);exact⟨kwQ wm,p,_,rfl,(by decide:(0:Int)≠1),al⟩
def zpx{w:ak}{zs:List ak}{l x:List Token}(hb:zs.all zN=true)(hl:l.map t3=ZK w zs)(h1:isB w x=false)(h2:ze3 x=false):zet w [] WR (l++x)=.ok (zs,x):=by
 unfold ZK at hl
 cases zs with
 |nil =>
  obtain rfl:=map_nil hl;unfold zet;rw[List.nil_append,h1,if_neg af]
 |cons z zs =>
  obtain⟨p,l1,rfl,e1⟩:=map_cons (show l.map t3=kwQ w::(z::zs).map kwQ from hl);unfold zet;rw[if_pos (show isB w (tk (kwQ w) p::l1++x)=true by rw[List.cons_append,zE];exact(Bool.true_and _).trans (dt rfl))];exact zFy hb e1 h2
def zli{w:ak}{n lo hi:Int}{l x:List Token}(hn:n≠0->lo<=n/\n<=hi)(hl:l.map t3=zk6 w n)(h1:isB w x=false):zet w 0 (qb lo hi) (l++x)=.ok (n,x):=by
 unfold zk6 at hl;split at hl
 ·rename_i h0
  obtain rfl:=map_nil hl;unfold zet;rw[List.nil_append,h1,if_neg af,h0]
 ·rename_i h0
  obtain⟨p,l1,rfl,e1⟩:=map_cons hl;obtain⟨q,l2,rfl,e2⟩:=map_cons e1;obtain rfl:=map_nil e2;obtain⟨a,b⟩:=hn h0;unfold zet;rw[if_pos (show isB w (tk (kwQ w) p::[tk (xR n) q]++x)=true by rw[List.cons_append,zE];exact(Bool.true_and _).trans (dt rfl))];exact qc a b
def zLg{b:Bool}{l x:List Token}(hl:l.map t3=zKr b)(h1:isB wm x=false):isB wm (l++x)=b/\zzm wm (l++x)=x:=by
 cases b with
 |false =>
  obtain rfl:=map_nil hl;unfold zzm;rw[List.nil_append,h1,if_neg af];exact⟨rfl,rfl⟩
 |true =>
  obtain⟨p,l1,rfl,e1⟩:=map_cons (show l.map t3=[kwQ wm] from hl);obtain rfl:=map_nil e1
  have hb:isB wm ([tk (kwQ wm) p]++x)=true:=by rw[List.cons_append,zE];decide
  unfold zzm;rw[hb,if_pos rfl];exact⟨rfl,rfl⟩
def zF0{d:Nat}{e:Expr}(h:OX d e):∀t ts,xz d e=t::ts->t.2.1≠qi/\t.2.1≠oW/\t.2.1≠qh:=by
 have nm:∀{s:ak},zN s=true->s≠qi/\s≠oW/\s≠qh:=λh=>⟨zsq h ah,zsq h ah,zsq h ah⟩
 induction h with
 |@num d n h1 h2 =>
  intro t ts e;obtain⟨rfl,_⟩:=List.cons.inj (show[xR n]=t::ts from e);exact⟨Ar rfl,Ar rfl,Ar rfl⟩
 |@name d s h =>
  intro t ts e;obtain⟨rfl,_⟩:=List.cons.inj (show[kwQ s]=t::ts from e);exact nm h
 |@table d s k h1 h2 =>
  intro t ts e;obtain⟨rfl,_⟩:=List.cons.inj (show[kwQ yz,kwQ s,kwQ k]=t::ts from e);exact⟨ae,ae,ae⟩
 |@zone d s h =>
  intro t ts e;obtain⟨rfl,_⟩:=List.cons.inj (show[kwQ xh,kwQ s]=t::ts from e);exact⟨ae,ae,ae⟩
 |@neg d a _ _ =>
  intro t ts e;obtain⟨rfl,_⟩:=List.cons.inj (show sgQ yS::_=t::ts from e);exact⟨ae,ae,ae⟩
 |@not d a _ _ =>
  intro t ts e;obtain⟨rfl,_⟩:=List.cons.inj (show kwQ qZ::_=t::ts from e);exact⟨ae,ae,ae⟩
 |@cond d a b c _ _ _ _ _ _ =>
  intro t ts e;obtain⟨rfl,_⟩:=List.cons.inj (show kwQ V9::_=t::ts from e);exact⟨ae,ae,ae⟩
 |@bin d op a b hb ha _ ia _ =>
  intro t ts e;rw[WI hb]at e;unfold WH at e;by_cases hp:lvO a.Op<zkx op
  ·rw[if_pos hp]at e
   obtain⟨rfl,_⟩:=List.cons.inj e;exact⟨ae,ae,ae⟩
  ·rw[if_neg hp]at e
   cases hq:xz d a with
   |nil=>exact absurd hq (uy ha).1
   |cons u us =>
    rw[hq]at e;obtain⟨rfl,_⟩:=List.cons.inj e;exact ia _ _ hq
def zY9(r:zO):BD:=(r.Kind,r.Test,r.zy,r.Uses,r.Other,r.N)
def zF1{x:zO}(hb:Vp x){l r:List Token}(hl:l.map t3=zFd x)(hr:Stop r):Zd (l++r)=thn (xV yg r) λ_ r=>.ok (zY9 x,r):=by
 obtain⟨nm,zs,ex,fr,un,gr,va,ki,te,pl,us,ot,n⟩:=x;obtain⟨⟨k0,k3⟩,b1,b2,b3,b4,b5,b6,b7,b8⟩:=hb;unfold zFd at hl;unfold zY9;dsimp only at *;by_cases h0:ki=0
 ·subst h0
  rw[if_pos rfl]at hl;have ox:=zEp 12 _ (b1 rfl);obtain rfl:=b4 ae;obtain rfl:=b7 ae ae;obtain⟨rfl,rfl⟩:=b8 ae
  have no:∀w,(∀t ts,xz 12 te=t::ts->t.2.1≠w)->isB w (l++r)=false:=λw hw=>by
   cases hq:xz 12 te with
   |nil=>exact absurd hq (uy ox).1
   |cons t ts =>
    rw[hq]at hl;obtain⟨p,l1,rfl,_⟩:=map_cons hl;rw[List.cons_append,zE,Bool.and_eq_false_iff];exact .inr (df (hw t ts hq))
  have hw:=zF0 ox;unfold Zd;rw[no qi (λt ts e=>(hw t ts e).1),no oW (λt ts e=>(hw t ts e).2.1),no qh (λt ts e=>(hw t ts e).2.2),if_neg af,if_neg af,if_neg af];unfold zLb;rw[(zEv ox).1 0 l r ab (by rw[hl];exact zX9.symm) hr.wf (zEt hr.op)]
  show thn (zs1 (decide (W2 te<=12)) 6 r) _=_
  rw[dt (zNz ox),zbn];rfl
 rw[if_neg h0]at hl;obtain rfl:=b2 h0;by_cases h1:ki=1
 ·subst h1
  rw[if_pos rfl]at hl;obtain⟨⟨n1,m1⟩,⟨n2,m2⟩,⟨n3,m3⟩,n4,m4⟩:=b3 rfl;obtain rfl:=b7 ae ae;obtain⟨rfl,rfl⟩:=b8 ae;obtain⟨sd,ba,nu,de⟩:=pl;dsimp only at *;obtain⟨p1,l1,rfl,e1⟩:=map_cons hl;obtain⟨p2,l2,rfl,e2⟩:=map_cons e1;obtain⟨p3,l3,rfl,e3⟩:=map_cons e2;obtain⟨p4,l4,rfl,e4⟩:=map_cons e3;obtain⟨p5,l5,rfl,e5⟩:=map_cons e4;obtain⟨p6,l6,rfl,e6⟩:=map_cons e5;obtain⟨p7,l7,rfl,e7⟩:=map_cons e6;obtain rfl:=map_nil e7;unfold Zd;rw[if_pos (by rw[List.cons_append,zE];decide)];unfold zwb
  show thn (qb 0 3 (tk (xR sd) p2::tk (kwQ AI) p3::tk (xR ba) p4::tk (kwQ jx) p5::tk (xR nu) p6::tk (xR de) p7::r)) _=_
  rw[qc n1 m1,zh5,KW (show isB AI (tk (kwQ AI) p3::tk (xR ba) p4::tk (kwQ jx) p5::tk (xR nu) p6::tk (xR de) p7::r)=true by rw[zE];decide)]
  show thn (qb 0 4096 (tk (xR ba) p4::tk (kwQ jx) p5::tk (xR nu) p6::tk (xR de) p7::r)) _=_
  rw[qc n2 m2,zh5,KW (show isB jx (tk (kwQ jx) p5::tk (xR nu) p6::tk (xR de) p7::r)=true by rw[zE];decide)]
  show thn (qb 0 4096 (tk (xR nu) p6::tk (xR de) p7::r)) _=_
  rw[qc n3 m3]
  show thn (qb 1 4096 (tk (xR de) p7::r)) _=_
  rw[qc n4 m4];rfl
 rw[if_neg h1]at hl;obtain rfl:=b4 h1;by_cases h3:ki=3
 ·subst h3
  rw[if_pos rfl]at hl;obtain⟨⟨n1,m1⟩,⟨n2,m2⟩,n3,m3⟩:=b6 rfl;obtain⟨p1,l1,rfl,e1⟩:=map_cons hl;obtain⟨p2,l2,rfl,e2⟩:=map_cons e1;obtain⟨p3,l3,rfl,e3⟩:=map_cons e2;obtain⟨p4,l4,rfl,e4⟩:=map_cons e3;obtain rfl:=map_nil e4;unfold Zd;rw[if_neg (by rw[List.cons_append,zE];decide),if_neg (by rw[List.cons_append,zE];decide),if_pos (by rw[List.cons_append,zE];decide)];unfold zwc
  show thn (j4 u6 (tk (kwQ (u6.getD us.toNat [])) p2::tk (kwQ (u6.getD ot.toNat [])) p3::tk (xR n) p4::r)) _=_
  rw[Vy (zlh _ ab)]
  show thn (j4 u6 (tk (kwQ (u6.getD ot.toNat [])) p3::tk (xR n) p4::r)) _=_
  rw[Vy (zlh _ ab)]
  show thn (qb 0 1048576 (tk (xR n) p4::r)) _=_
  rw[qc n3 m3]
  show thn (xV yg r) (λ_ r=>.ok ((3,ex0,pl0,((us.toNat:Nat):Int),((ot.toNat:Nat):Int),n),r))=_
  rw[Int.toNat_of_nonneg n1,Int.toNat_of_nonneg n2];rfl
 rw[if_neg h3]at hl
 obtain rfl:ki=2:=ab
 obtain⟨n1,m1⟩:=b5 rfl;obtain⟨rfl,rfl⟩:=b8 ae;obtain⟨p1,l1,rfl,e1⟩:=map_cons hl;unfold Zd;rw[if_neg (by rw[List.cons_append,zE];decide),if_pos (by rw[List.cons_append,zE];decide)];unfold zLa
 show thn (zs3 ((l1++r).length+1) 0 (l1++r)) _=_
 have hlen:=congrArg List.length e1;unfold z0a at hlen;rw[List.length_map,List.length_map]at hlen;rw[zwg _ _ 0 l1 r (by rw[la];omega) (λi hi=>⟨by simpa using(List.mem_filter.1 hi).1,Nat.zero_testBit i⟩) (List.nodup_range.filter _) (.inr (zLe _ ab ab)) e1 hr.use,zLd _ ab]
 show thn (xV yg r) (λ_ r=>.ok ((2,ex0,pl0,((us.toNat:Nat):Int),0,0),r))=_
 rw[Int.toNat_of_nonneg ab];rfl
def zF2{x:zO}{L:List ak}(hn:zN x.Name=true)(hL:x.Name ∉ L)(h:WD x){l r:List Token}(hl:l.map t3=zad (.r x))(hr:Stop r):zlb L (l++r)=thn (xV yg r) λ_ r=>.ok (x,r):=by
 obtain⟨⟨⟨z0,x0⟩,d1,d2,d3,d4⟩,hb⟩:=h;obtain⟨p,l1,rfl,e1⟩:=map_cons (show l.map t3=kwQ x.Name::zSr x from hl);obtain⟨a1,m1,rfl,f1,g1⟩:=wF e1;obtain⟨a2,m2,rfl,f2,g2⟩:=wF g1;obtain⟨a3,m3,rfl,f3,g3⟩:=wF g2;obtain⟨a4,m4,rfl,f4,g4⟩:=wF g3;obtain⟨a5,m5,rfl,f5,g5⟩:=wF g4;obtain⟨a6,m6,rfl,f6,g6⟩:=wF g5;obtain⟨p7,a7,rfl,f7⟩:=map_cons g6
 have ea:tk (kwQ x.Name) p::(a1++(a2++(a3++(a4++(a5++(a6++tk (sgQ xI) p7::a7))))))++r=tk (kwQ x.Name) p::(a1++(a2++(a3++(a4++(a5++(a6++(tk (sgQ xI) p7::(a7++r)))))))):=af
 rw[ea]
 have s7:HS [xI] (tk (sgQ xI) p7::(a7++r)):=⟨sgQ xI,p7,_,rfl,(by decide:(2:Int)≠1),al⟩
 have s6:=zTb f6 s7;have s5:=zs4 f5 s6;have s4:=zs4 f4 s5;have s3:=zs4 f3 s4;have s2:=zLf f2 s3;unfold zlb;rw[JV hn hL]
 show thn (zet ze1 [] WR (a1++_)) _=_
 rw[zpx z0 f1 (zh6 s2 ah) (zOd s2 ah)]
 show thn (zet yU [] WR (a2++_)) _=_
 rw[zpx x0 f2 (zh6 s3 ah) (zOd s3 ah)]
 show thn (zet vw 0 (qb 0 1073741824) (a3++_)) _=_
 rw[zli (λ_=>d1) f3 (zh6 s4 ah)]
 show thn (zet xC 0 (qb (x.From+1) 1073741824) (a4++_)) _=_
 rw[zli (λh=>⟨ab,d3.2⟩) f4 (zh6 s5 ah)]
 show thn (zet xO 0 (qb 0 1073741824) (a5++_)) _=_
 rw[zli (λ_=>d2) f5 (zh6 s6 ah)];obtain⟨v1,v2⟩:=zLg f6 (zh6 s7 ah)
 show thn (xV xI (zzm wm (a6++(tk (sgQ xI) p7::(a7++r))))) (λ_ r2=>thn (Zd r2) λb r3=>.ok (zO.mk x.Name x.Zones x.Except x.From x.Until x.Grace (isB wm (a6++(tk (sgQ xI) p7::(a7++r)))) b.1 b.2.1 b.2.2.1 b.2.2.2.1 b.2.2.2.2.1 b.2.2.2.2.2,r3))=_
 rw[v1,v2,KW (by rw[zE];decide)]
 show thn (Zd (a7++r)) _=_
 rw[zF1 hb f7 hr,zP];rfl
def zF3(p:yX)(h:Bool):Decl->yX×Bool
 |.d x=>({ p with Defs:=p.Defs++[x] },h)
 |.t x=>({ p with Tables:=p.Tables++[x] },h)
 |.z x=>({ p with Zones:=p.Zones++[x] },h)
 |.r x=>({ p with Rules:=p.Rules++[x] },h)
 |.c x=>({ p with Caps:=p.Caps++[x] },h)
 |.v x=>({ p with Views:=p.Views++[x] },h)
 |.s x=>({ p with Sun:=x },h)
 |.h x=>({ p with Hours:=x },true)
def zOe(p:yX)(h:Bool):Decl->Prop
 |.d x=>x.Name ∉ p.Defs.map Def.Name/\p.Defs.length<60
 |.t x=>x.Name ∉ p.Tables.map Table.Name/\p.Tables.length<60
 |.z x=>x.Name ∉ p.Zones.map yp.Name/\p.Zones.length<60
 |.r x=>x.Name ∉ p.Rules.map zO.Name/\p.Rules.length<200
 |.c x=>x.Name ∉ p.Caps.map Cap.Name/\p.Caps.length<30
 |.v x=>x.Name ∉ p.Views.map View.Name/\p.Views.length<60
 |.s _=>p.Sun=[]
 |.h _=>h=false
def Vz{n m:Nat}{t:Token}{r:List Token}(h:n<m):WY n m (t::r)=.ok ((),r):=by
 unfold WY J8;rw[if_pos (dt h)];rfl
def A2{α β:Type}{r:List Token}{w:ak}{a:α}{g:α->List Token->Except EE β}:thn (thn (xV w r) λ_ r=>.ok (a,r)) g=thn (xV w r) λ_ r=>g a r:=by
 rw[zP];rfl
def VA:∀(l seen:List ak),An true seen l=true->l.Nodup/\∀s∈l,s ∉ seen
 |[],_,_=>⟨List.nodup_nil,λ_ h=>by cases h⟩
 |s::l,seen,h=>by
  rw[An]at h;simp only[bn,Bool.true_and,Bool.not_eq_true',decide_eq_false_iff_not]at h;obtain⟨_,h2,h3⟩:=h;obtain⟨i1,i2⟩:=VA l (seen++[s]) h3;refine⟨List.nodup_cons.2 ⟨λhm=>i2 s hm af,i1⟩,λx hx=>?_⟩
  rcases List.mem_cons.1 hx with rfl|hx
  ·exact h2
  ·exact λhm=>i2 x hx (List.mem_append_left _ hm)
def zwi{l:List zV}(h:Hg l):l≠[]:=λe=>by
 have:=h.1.1;rw[e]at this;simp at this
def JW{α β:Type}{f:α->List β}{k:Nat}(h:∀x,k<=(f x).length):∀l:List α,l.length*k<=(l.flatMap f).length
 |[]=>af
 |x::l=>by
  have:=h x;have:=JW h l;rw[List.flatMap_cons,la,lc,Nat.add_mul];omega
def zLh{x:Def}{L:List ak}(hn:zN x.Name=true)(hL:x.Name ∉ L)(h:OX 12 x.Body){l r:List Token}(hl:l.map t3=zad (.d x))(hr:Stop r):zK8 L (l++r)=thn (xV yg r) λ_ r=>.ok (x,r):=by
 obtain⟨p,l1,rfl,e1⟩:=map_cons (show l.map t3=kwQ x.Name::(sgQ Az::xz 12 x.Body) from hl);obtain⟨q,l2,rfl,e2⟩:=map_cons e1;unfold zK8
 show thn (wJ L (tk (kwQ x.Name) p::tk (sgQ Az) q::(l2++r))) _=_
 rw[JV hn hL,zh5,KW (show isB Az (tk (sgQ Az) q::(l2++r))=true by rw[zE];decide)]
 show thn (DE 0 (l2++r)) _=_
 rw[(zEv h).1 0 l2 r ab (by rw[e2];exact zX9.symm) hr.wf (zEt hr.op)]
 show thn (zs1 (decide (W2 x.Body<=12)) 6 r) _=_
 rw[dt (zNz h),zbn]
def zF4{x:yp}{L:List ak}(hn:zN x.Name=true)(hL:x.Name ∉ L)(h:Hg x.Corners){l r:List Token}(hl:l.map t3=zad (.z x))(hr:Stop r):zes L x.Overlay (l++r)=thn (xV yg r) λ_ r=>.ok (x,r):=by
 obtain⟨p,l1,rfl,e1⟩:=map_cons (show l.map t3=kwQ x.Name::x.Corners.flatMap ptQ from hl);unfold zes
 show thn (wJ L (tk (kwQ x.Name) p::(l1++r))) _=_
 rw[JV hn hL]
 show thn (kY ((l1++r).length+1) [] (l1++r)) _=_
 have hlen:=congrArg List.length e1;have:=JW (f:=ptQ) (k:=2) (λ_=>Nat.le_refl 2) x.Corners;rw[List.length_map]at hlen;rw[zlf x.Corners _ [] l1 r (zwi h) (by rw[la];omega) (Y7 h) e1 hr.num]
 show thn (zs1 (pd (Hg x.Corners)) 10 r) _=_
 rw[zso h,zbn];rfl
def zLi{x:Cap}{L:List ak}(hn:zN x.Name=true)(hL:x.Name ∉ L)(h:zKd x){l r:List Token}(hl:l.map t3=zad (.c x))(hr:Stop r):zN8 L (l++r)=thn (xV yg r) λ_ r=>.ok (x,r):=by
 obtain⟨⟨c0,c1⟩,⟨n0,n1⟩,hp⟩:=h;obtain⟨p,l1,rfl,e1⟩:=map_cons (show l.map t3=kwQ x.Name::kwQ (JR.getD x.Load.toNat [])::xR x.Limit::x.Corners.flatMap ptQ from hl);obtain⟨p2,l2,rfl,e2⟩:=map_cons e1;obtain⟨p3,l3,rfl,e3⟩:=map_cons e2;unfold zN8
 show thn (wJ L (tk (kwQ x.Name) p::tk (kwQ (JR.getD x.Load.toNat [])) p2::tk (xR x.Limit) p3::(l3++r))) _=_
 rw[JV hn hL]
 show thn (j4 JR (tk (kwQ (JR.getD x.Load.toNat [])) p2::tk (xR x.Limit) p3::(l3++r))) _=_
 rw[Vy (zFz _ ab)]
 show thn (qb 0 1099511627776 (tk (xR x.Limit) p3::(l3++r))) _=_
 rw[qc n0 n1]
 show thn (kY ((l3++r).length+1) [] (l3++r)) _=_
 have hlen:=congrArg List.length e3;have:=JW (f:=ptQ) (k:=2) (λ_=>Nat.le_refl 2) x.Corners;rw[List.length_map]at hlen;rw[zlf x.Corners _ [] l3 r (zwi hp) (by rw[la];omega) (Y7 hp) e3 hr.num]
 show thn (zs1 (pd (Hg x.Corners)) 10 r) (λ_ r=>.ok (Cap.mk x.Name ((x.Load.toNat:Nat):Int) x.Limit x.Corners,r))=_
 rw[zso hp,zbn,Int.toNat_of_nonneg c0]
def zF5{x:View}{L:List ak}(hn:zN x.Name=true)(hL:x.Name ∉ L)(h:Y3 x){l r:List Token}(hl:l.map t3=zad (.v x))(hr:Stop r):zla L (l++r)=thn (xV yg r) λ_ r=>.ok (x,r):=by
 obtain⟨⟨n0,n1⟩,⟨t0,t1⟩,he,ht⟩:=h;obtain⟨p,l1,rfl,e1⟩:=map_cons (show l.map t3=kwQ x.Name::(zSq x.Eye++(kwQ vG::xR x.Least::sgQ xI::x.Targets.flatMap zSq)) from hl);obtain⟨l2,l3,rfl,e2,e3⟩:=wF e1;obtain⟨p3,l4,rfl,e4⟩:=map_cons e3;obtain⟨p4,l5,rfl,e5⟩:=map_cons e4;obtain⟨p5,l6,rfl,e6⟩:=map_cons e5
 have ea:tk (kwQ x.Name) p::(l2++tk (kwQ vG) p3::tk (xR x.Least) p4::tk (sgQ xI) p5::l6)++r=tk (kwQ x.Name) p::(l2++(tk (kwQ vG) p3::tk (xR x.Least) p4::tk (sgQ xI) p5::(l6++r))):=af
 rw[ea];unfold zla;rw[JV hn hL]
 show thn (HW (l2++_)) _=_
 rw[zlg he e2,zh5,KW (show isB vG (tk (kwQ vG) p3::tk (xR x.Least) p4::tk (sgQ xI) p5::(l6++r))=true by rw[zE];decide)]
 show thn (qb 0 20 (tk (xR x.Least) p4::tk (sgQ xI) p5::(l6++r))) _=_
 rw[qc n0 n1,zh5,KW (show isB xI (tk (sgQ xI) p5::(l6++r))=true by rw[zE];decide)];obtain⟨nm,eye,lst,tg⟩:=x;dsimp only at *
 cases tg with
 |nil=>simp at t0
 |cons q tg =>
  rw[List.flatMap_cons]at e6;obtain⟨l7,l8,rfl,e7,e8⟩:=wF e6
  show thn (HW (l7++l8++r)) _=_
  rw[asc,zlg (ht q al) e7]
  show thn (zzl ((l8++r).length+1) [q] (l8++r)) _=_
  have hlen:=congrArg List.length e8;have:=JW (f:=zSq) (k:=3) (λ_=>Nat.le_refl 3) tg;rw[List.length_map]at hlen;simp only[lc]at t1;rw[zwf tg _ [q] l8 r (by rw[la];omega) (by simp only[lc,List.length_nil];omega) (λy hy=>ht y (mcQ _ hy)) e8 hr.num];rfl
def zy8{x:Table}{L:List ak}(hn:zN x.Name=true)(hL:x.Name ∉ L)(h:AV x){l r:List Token}(hl:l.map t3=zad (.t x))(hr:Stop r):WU L (l++r)=thn (xV yg r) λ_ r=>.ok (x,r):=by
 have hnm:=WQ h;obtain⟨⟨r0,r1⟩,⟨n0,n1⟩,hx⟩:=h;obtain⟨p,l1,rfl,e1⟩:=map_cons (show l.map t3=kwQ x.Name::(x.Rows.flatMap zYp++(kwQ yY::zy5 x.Else)) from hl);obtain⟨l2,l3,rfl,e2,e3⟩:=wF e1;obtain⟨p3,l4,rfl,e4⟩:=map_cons e3
 have ea:tk (kwQ x.Name) p::(l2++tk (kwQ yY) p3::l4)++r=tk (kwQ x.Name) p::(l2++(tk (kwQ yY) p3::(l4++r))):=af
 rw[ea];unfold WU;rw[JV hn hL]
 show thn (Zc ((l2++(tk (kwQ yY) p3::(l4++r))).length+1) [] (l2++(tk (kwQ yY) p3::(l4++r)))) _=_
 have hlen:=congrArg List.length e2;have:=JW (f:=zYp) (k:=1) (λ_=>Nat.succ_le_succ (Nat.zero_le _)) x.Rows;rw[List.length_map]at hlen;rw[VM x.Rows _ [] l2 _ (by rw[la];omega) (by simpa using r0) (λy hy=>⟨hnm y hy,hx y hy⟩) (VA _ _ r1).1 e2 (zY8 ah)];rw[zh5,KW (show isB yY (tk (kwQ yY) p3::(l4++r))=true by rw[zE];decide)]
 show thn (vR 1099511627776 (l4++r)) _=_
 rw[zwe ab n1 e4];rfl
def zF6{x:List zg}(h0:x≠[])(h:∀p∈x,zzj p)(hx:x.length<=24){l r:List Token}(hl:l.map t3=zad (.s x))(hr:Stop r):zK7 [] (l++r)=thn (xV yg r) λ_ r=>.ok (x,r):=by
 cases x with
 |nil=>exact absurd rfl h0
 |cons p ps =>
  unfold zK7;have hlen:=congrArg List.length hl;have:=JW (f:=λq=>sgQ qa::zGq q) (k:=1) (λ_=>Nat.succ_le_succ (Nat.zero_le _)) ps;rw[List.length_map]at hlen;have e:(zad (.s (p::ps))).length=(zGq p).length+(ps.flatMap λq=>sgQ qa::zGq q).length:=la;simp only[lc]at hx;rw[zwh ps _ [] l r p (by rw[la];omega) (by simp only[List.length_nil];omega) h hl hr.comma];rfl
def zF7{p:yX}{h:Bool}{d:Decl}(hd:zfr d)(hf:zOe p h d){l r:List Token}{q:Int}(hl:l.map t3=zad d)(hr:Stop r):zpv p h (tk (kwQ (HV d)) q::(l++r))=thn (xV yg r) λ_ r=>.ok (zF3 p h d,r):=by
 unfold zpv
 cases d with
 |d x =>
  show(if isB wR (tk (kwQ wR) q::(l++r))=true then _ else _)=_
  rw[if_pos (by rw[zE];decide),show tk (kwQ (HV (.d x))) q=tk (kwQ wR) q from rfl,Vz hf.2]
  show thn (zK8 (p.Defs.map Def.Name) (l++r)) _=_
  rw[zLh hd.1 hf.1 hd.2 hl hr,A2];rfl
 |t x =>
  show(if isB wR (tk (kwQ yz) q::(l++r))=true then _ else if isB yz (tk (kwQ yz) q::(l++r))=true then _ else _)=_
  rw[if_neg (by rw[zE];decide),if_pos (by rw[zE];decide),show tk (kwQ (HV (.t x))) q=tk (kwQ yz) q from rfl,Vz hf.2]
  show thn (WU (p.Tables.map Table.Name) (l++r)) _=_
  rw[zy8 hd.1 hf.1 hd.2 hl hr,A2];rfl
 |z x =>
  have key:=zF4 (L:=p.Zones.map yp.Name) hd.1 hf.1 hd.2 hl hr
  cases ho:x.Overlay with
  |false =>
   rw[ho]at key;rw[show HV (.z x)=xh by rw[HV,ho];rfl,if_neg (by rw[zE];decide),if_neg (by rw[zE];decide),if_pos (by rw[zE];decide),Vz hf.2]
   show thn (zes (p.Zones.map yp.Name) false (l++r)) _=_
   rw[key,A2];rfl
  |true =>
   rw[ho]at key;rw[show HV (.z x)=yI by rw[HV,ho];rfl,if_neg (by rw[zE];decide),if_neg (by rw[zE];decide),if_neg (by rw[zE];decide),if_pos (by rw[zE];decide),Vz hf.2]
   show thn (zes (p.Zones.map yp.Name) true (l++r)) _=_
   rw[key,A2];rfl
 |r x =>
  rw[show HV (.r x)=ua from rfl,if_neg (by rw[zE];decide),if_neg (by rw[zE];decide),if_neg (by rw[zE];decide),if_neg (by rw[zE];decide),if_pos (by rw[zE];decide),Vz hf.2]
  show thn (zlb (p.Rules.map zO.Name) (l++r)) _=_
  rw[zF2 hd.1 hf.1 hd.2 hl hr,A2];rfl
 |c x =>
  rw[show HV (.c x)=V7 from rfl,if_neg (by rw[zE];decide),if_neg (by rw[zE];decide),if_neg (by rw[zE];decide),if_neg (by rw[zE];decide),if_neg (by rw[zE];decide),if_pos (by rw[zE];decide),Vz hf.2]
  show thn (zN8 (p.Caps.map Cap.Name) (l++r)) _=_
  rw[zLi hd.1 hf.1 hd.2 hl hr,A2];rfl
 |v x =>
  rw[show HV (.v x)=AJ from rfl,if_neg (by rw[zE];decide),if_neg (by rw[zE];decide),if_neg (by rw[zE];decide),if_neg (by rw[zE];decide),if_neg (by rw[zE];decide),if_neg (by rw[zE];decide),if_pos (by rw[zE];decide),Vz hf.2]
  show thn (zla (p.Views.map View.Name) (l++r)) _=_
  rw[zF5 hd.1 hf.1 hd.2 hl hr,A2];rfl
 |s x =>
  have h0:p.Sun=[]:=hf;rw[show HV (.s x)=Jm from rfl,if_neg (by rw[zE];decide),if_neg (by rw[zE];decide),if_neg (by rw[zE];decide),if_neg (by rw[zE];decide),if_neg (by rw[zE];decide),if_neg (by rw[zE];decide),if_neg (by rw[zE];decide),if_pos (by rw[zE];decide),h0]
  show thn (zK7 [] (l++r)) _=_
  rw[zF6 hd.1 hd.2.1 hd.2.2 hl hr,A2];rfl
 |h x =>
  have h0:h=false:=hf;obtain⟨n0,n1,_⟩:=hd;obtain⟨p1,l1,rfl,e1⟩:=map_cons (show l.map t3=[xR x] from hl);obtain rfl:=map_nil e1;rw[show HV (.h x)=kE from rfl,if_neg (by rw[zE];decide),if_neg (by rw[zE];decide),if_neg (by rw[zE];decide),if_neg (by rw[zE];decide),if_neg (by rw[zE];decide),if_neg (by rw[zE];decide),if_neg (by rw[zE];decide),if_neg (by rw[zE];decide),if_pos (by rw[zE];decide),h0]
  show thn (qb 0 24 (tk (xR x) p1::r)) _=_
  rw[qc n0 n1];rfl
def ZO(ds:List Decl):List T3:=ds.flatMap λd=>zsy d++[sgQ yg]
def zlj:yX->Bool->List Decl->yX×Bool
 |p,h,[]=>(p,h)
 |p,h,d::ds=>zlj (zF3 p h d).1 (zF3 p h d).2 ds
def zs5:yX->Bool->List Decl->Prop
 |_,_,[]=>True
 |p,h,d::ds=>zfr d/\zOe p h d/\zs5 (zF3 p h d).1 (zF3 p h d).2 ds
def zwj:∀(a b:List Decl)(p:yX)(h:Bool),zlj p h (a++b)=zlj (zlj p h a).1 (zlj p h a).2 b
 |[],_,_,_=>rfl
 |d::a,b,p,h=>zwj a b (zF3 p h d).1 (zF3 p h d).2
def zwk:∀(a b:List Decl)(p:yX)(h:Bool),zs5 p h (a++b)↔zs5 p h a/\zs5 (zlj p h a).1 (zlj p h a).2 b
 |[],_,_,_=>⟨λh=>⟨trivial,h⟩,λh=>h.2⟩
 |d::a,b,p,h=>by
  have ih:=zwk a b (zF3 p h d).1 (zF3 p h d).2;exact⟨λ⟨h1,h2,h3⟩=>⟨⟨h1,h2,(ih.1 h3).1⟩,(ih.1 h3).2⟩,λ⟨⟨h1,h2,h3⟩,h4⟩=>⟨h1,h2,ih.2 ⟨h3,h4⟩⟩⟩
def zlk:∀{ds:List Decl}{p:yX}{h:Bool},zs5 p h ds->∀d∈ds,zfr d
 |[],_,_,_,_,hd=>by cases hd
 |x::ds,p,h,hs,d,hd=>by
  obtain⟨h1,_,h3⟩:=hs
  rcases List.mem_cons.1 hd with rfl|hd
  ·exact h1
  ·exact zlk h3 d hd
def zLj{d:Decl}(h:zfr d):OKs (zsy d++[sgQ yg]):=Vu (zv7 h) (xg rfl Aq)
def zpy:∀{ds:List Decl},(∀d∈ds,zfr d)->OKs (ZO ds)
 |[],_=>Aq
 |d::ds,h=>by
  rw[ZO,List.flatMap_cons];exact Vu (zLj (h d al)) (zpy λx hx=>h x (mcQ _ hx))
def zpz:∀(ds:List Decl)(m:Nat)(p:yX)(h:Bool)(l r:List Token),zs5 p h ds->l.map t3=ZO ds->TWF r->zft (ds.length+m) p h (l++r)=zft m (zlj p h ds).1 (zlj p h ds).2 r
 |[],m,p,h,l,r,_,hl,_=>by
  obtain rfl:=map_nil hl;rw[List.length_nil,Nat.zero_add];rfl
 |d::ds,m,p,h,l,r,⟨h1,h2,h3⟩,hl,hr=>by
  rw[ZO,List.flatMap_cons]at hl;obtain⟨l1,l2,rfl,e1,e2⟩:=wF hl;obtain⟨a,l3,rfl,e3⟩:=map_cons (show l1.map t3=kwQ (HV d)::(zad d++[sgQ yg]) from e1);obtain⟨l4,l5,rfl,e4,e5⟩:=wF e3;obtain⟨b,l6,rfl,e6⟩:=map_cons e5;obtain rfl:=map_nil e6
  have ea:tk (kwQ (HV d)) a::(l4++[tk (sgQ yg) b])++l2++r=tk (kwQ (HV d)) a::(l4++(tk (sgQ yg) b::(l2++r))):=af
  have hw:TWF (l2++r):=qD (zpy (zlk h3)) e2 hr;rw[ea,show(d::ds).length+m=ds.length+m+1 by rw[lc];omega,zft,if_neg (show ¬(hdT (tk (kwQ (HV d)) a::(l4++(tk (sgQ yg) b::(l2++r))))).Kind=3 by show ¬(0:Int)=3;decide),zF7 h1 h2 e4 (zFx hw),KW (by rw[zE];decide)];exact zpz ds m (zF3 p h d).1 (zF3 p h d).2 l2 r h3 e2 hr
def decls(p:yX):Nat->List Decl
 |0=>p.Defs.map .d
 |1=>p.Tables.map .t
 |2=>p.Zones.map .z
 |3=>p.Rules.map .r
 |4=>p.Caps.map .c
 |5=>p.Views.map .v
 |6=>bif p.Sun.isEmpty then[]else[.s p.Sun]
 |7=>if p.Hours=0 then[]else[.h p.Hours]
 |_=>[]
def pick{α:Type}(k:Nat)(ks:List Nat)(l:List α):List α:=if k∈ks then l else[]
def zs6(p:yX)(ks:List Nat):Int:=if 7∈ks then p.Hours else 0
def Aw(p:yX)(ks:List Nat):yX:=yX.mk (pick 0 ks p.Defs) (pick 1 ks p.Tables) (pick 2 ks p.Zones) (pick 3 ks p.Rules) (pick 4 ks p.Caps) (pick 5 ks p.Views) (pick 6 ks p.Sun) (zs6 p ks)
def zfu(p:yX)(ks:List Nat):Bool:=decide (7∈ks)&&!(decide (p.Hours=0))
def A3{α:Type}{k:Nat}{ks:List Nat}{l:List α}:pick k (k::ks) l=l:=if_pos al
def zu{α:Type}{k j:Nat}{ks:List Nat}{l:List α}(h:j≠k):pick j (k::ks) l=pick j ks l:=by
 unfold pick;by_cases hm:j∈ks
 ·rw[if_pos hm,if_pos (mcQ _ hm)]
 ·rw[if_neg hm,if_neg (λhc=>by rcases List.mem_cons.1 hc with e|e;exact h e;exact hm e)]
def uq{α:Type}{k:Nat}{ks:List Nat}{l:List α}(h:k ∉ ks):pick k ks l=[]:=if_neg h
def zs7{k j:Nat}{ks:List Nat}(h:j≠k):j∈k::ks↔j∈ks:=⟨λhc=>by rcases List.mem_cons.1 hc with e|e;exact absurd e h;exact e,mcQ _⟩
def A4{p:yX}{k:Nat}{ks:List Nat}(h:7≠k):zs6 p (k::ks)=zs6 p ks:=by
 unfold zs6;by_cases hm:7∈ks
 ·rw[if_pos hm,if_pos ((zs7 h).2 hm)]
 ·rw[if_neg hm,if_neg λhc=>hm ((zs7 h).1 hc)]
def KZ{p:yX}{k:Nat}{ks:List Nat}(h:7≠k):zfu p (k::ks)=zfu p ks:=by
 unfold zfu;rw[decide_eq_decide.2 (zs7 h)]
def oI{α:Type}{l:List α}{g:α->ak}{m:Nat}(h:j3 l g m):(l.map g).Nodup:=(VA _ _ h.2).1
def zZa{h:Bool}:∀(xs acc:List Def)(q:yX),(∀x∈xs,zN x.Name=true/\OX 12 x.Body)->((acc++xs).map Def.Name).Nodup->(acc++xs).length<=60->zs5 { q with Defs:=acc } h (xs.map .d)/\zlj { q with Defs:=acc } h (xs.map .d)=({ q with Defs:=acc++xs },h)
 |[],acc,q,_,_,_=>⟨trivial,by rw[List.append_nil];rfl⟩
 |x::xs,acc,q,hP,hd,hm=>by
  have hx:x.Name ∉ acc.map Def.Name:=λh=>by
   rw[List.map_append,List.nodup_append]at hd;exact hd.2.2 _ h _ af rfl
  simp only[la,lc]at hm;obtain⟨i1,i2⟩:=zZa (h:=h) xs (acc++[x]) q (λy hy=>hP y (mcQ _ hy)) (by rw[asc];exact hd) (by simp only[la,lc,List.length_nil];omega);rw[asc]at i2;exact⟨⟨hP x al,⟨hx,by show acc.length<60;omega⟩,i1⟩,i2⟩
def zZb{h:Bool}:∀(xs acc:List Table)(q:yX),(∀x∈xs,zN x.Name=true/\AV x)->((acc++xs).map Table.Name).Nodup->(acc++xs).length<=60->zs5 { q with Tables:=acc } h (xs.map .t)/\zlj { q with Tables:=acc } h (xs.map .t)=({ q with Tables:=acc++xs },h)
 |[],acc,q,_,_,_=>⟨trivial,by rw[List.append_nil];rfl⟩
 |x::xs,acc,q,hP,hd,hm=>by
  have hx:x.Name ∉ acc.map Table.Name:=λh=>by
   rw[List.map_append,List.nodup_append]at hd;exact hd.2.2 _ h _ af rfl
  simp only[la,lc]at hm;obtain⟨i1,i2⟩:=zZb (h:=h) xs (acc++[x]) q (λy hy=>hP y (mcQ _ hy)) (by rw[asc];exact hd) (by simp only[la,lc,List.length_nil];omega);rw[asc]at i2;exact⟨⟨hP x al,⟨hx,by show acc.length<60;omega⟩,i1⟩,i2⟩
def zZc{h:Bool}:∀(xs acc:List yp)(q:yX),(∀x∈xs,zN x.Name=true/\Hg x.Corners)->((acc++xs).map yp.Name).Nodup->(acc++xs).length<=60->zs5 { q with Zones:=acc } h (xs.map .z)/\zlj { q with Zones:=acc } h (xs.map .z)=({ q with Zones:=acc++xs },h)
 |[],acc,q,_,_,_=>⟨trivial,by rw[List.append_nil];rfl⟩
 |x::xs,acc,q,hP,hd,hm=>by
  have hx:x.Name ∉ acc.map yp.Name:=λh=>by
   rw[List.map_append,List.nodup_append]at hd;exact hd.2.2 _ h _ af rfl
  simp only[la,lc]at hm;obtain⟨i1,i2⟩:=zZc (h:=h) xs (acc++[x]) q (λy hy=>hP y (mcQ _ hy)) (by rw[asc];exact hd) (by simp only[la,lc,List.length_nil];omega);rw[asc]at i2;exact⟨⟨hP x al,⟨hx,by show acc.length<60;omega⟩,i1⟩,i2⟩
def zZd{h:Bool}:∀(xs acc:List zO)(q:yX),(∀x∈xs,zN x.Name=true/\WD x)->((acc++xs).map zO.Name).Nodup->(acc++xs).length<=200->zs5 { q with Rules:=acc } h (xs.map .r)/\zlj { q with Rules:=acc } h (xs.map .r)=({ q with Rules:=acc++xs },h)
 |[],acc,q,_,_,_=>⟨trivial,by rw[List.append_nil];rfl⟩
 |x::xs,acc,q,hP,hd,hm=>by
  have hx:x.Name ∉ acc.map zO.Name:=λh=>by
   rw[List.map_append,List.nodup_append]at hd;exact hd.2.2 _ h _ af rfl
  simp only[la,lc]at hm;obtain⟨i1,i2⟩:=zZd (h:=h) xs (acc++[x]) q (λy hy=>hP y (mcQ _ hy)) (by rw[asc];exact hd) (by simp only[la,lc,List.length_nil];omega);rw[asc]at i2;exact⟨⟨hP x al,⟨hx,by show acc.length<200;omega⟩,i1⟩,i2⟩
def zZe{h:Bool}:∀(xs acc:List Cap)(q:yX),(∀x∈xs,zN x.Name=true/\zKd x)->((acc++xs).map Cap.Name).Nodup->(acc++xs).length<=30->zs5 { q with Caps:=acc } h (xs.map .c)/\zlj { q with Caps:=acc } h (xs.map .c)=({ q with Caps:=acc++xs },h)
 |[],acc,q,_,_,_=>⟨trivial,by rw[List.append_nil];rfl⟩
 |x::xs,acc,q,hP,hd,hm=>by
  have hx:x.Name ∉ acc.map Cap.Name:=λh=>by
   rw[List.map_append,List.nodup_append]at hd;exact hd.2.2 _ h _ af rfl
  simp only[la,lc]at hm;obtain⟨i1,i2⟩:=zZe (h:=h) xs (acc++[x]) q (λy hy=>hP y (mcQ _ hy)) (by rw[asc];exact hd) (by simp only[la,lc,List.length_nil];omega);rw[asc]at i2;exact⟨⟨hP x al,⟨hx,by show acc.length<30;omega⟩,i1⟩,i2⟩
def zZf{h:Bool}:∀(xs acc:List View)(q:yX),(∀x∈xs,zN x.Name=true/\Y3 x)->((acc++xs).map View.Name).Nodup->(acc++xs).length<=60->zs5 { q with Views:=acc } h (xs.map .v)/\zlj { q with Views:=acc } h (xs.map .v)=({ q with Views:=acc++xs },h)
 |[],acc,q,_,_,_=>⟨trivial,by rw[List.append_nil];rfl⟩
 |x::xs,acc,q,hP,hd,hm=>by
  have hx:x.Name ∉ acc.map View.Name:=λh=>by
   rw[List.map_append,List.nodup_append]at hd;exact hd.2.2 _ h _ af rfl
  simp only[la,lc]at hm;obtain⟨i1,i2⟩:=zZf (h:=h) xs (acc++[x]) q (λy hy=>hP y (mcQ _ hy)) (by rw[asc];exact hd) (by simp only[la,lc,List.length_nil];omega);rw[asc]at i2;exact⟨⟨hP x al,⟨hx,by show acc.length<60;omega⟩,i1⟩,i2⟩
def zLk{p:yX}(hp:KT p){ks:List Nat}:∀k,k<8->k ∉ ks->zs5 (Aw p ks) (zfu p ks) (decls p k)/\zlj (Aw p ks) (zfu p ks) (decls p k)=(Aw p (k::ks),zfu p (k::ks)):=by
 have nm:=zk5 hp;obtain⟨⟨h1,h2,h3,h4,h5,h6⟩,⟨b1,b2,b3,b4,b5,b6,b7⟩,hh,hs⟩:=hp;intro k hk hn
 obtain rfl|rfl|rfl|rfl|rfl|rfl|rfl|rfl:k=0∨k=1∨k=2∨k=3∨k=4∨k=5∨k=6∨k=7:=ab
 ·obtain⟨s1,s2⟩:=zZa (h:=zfu p ks) p.Defs [] (Aw p ks) (λx hx=>⟨nm.d x hx,zEp 12 _ (b1 x hx)⟩) (by rw[List.nil_append];exact oI h1) (by rw[List.nil_append];exact h1.1)
  have e:({ Aw p ks with Defs:=[] }:yX)=Aw p ks:=by unfold Aw;rw[uq (k:=0) hn]
  rw[e]at s1 s2;rw[List.nil_append]at s2;refine⟨s1,s2.trans ?_⟩;unfold Aw;rw[A3,zu (j:=1) ae,zu (j:=2) ae,zu (j:=3) ae,zu (j:=4) ae,zu (j:=5) ae,zu (j:=6) ae,A4 ae,KZ ae]
 ·obtain⟨s1,s2⟩:=zZb (h:=zfu p ks) p.Tables [] (Aw p ks) (λx hx=>⟨nm.t x hx,b2 x hx⟩) (by rw[List.nil_append];exact oI h2) (by rw[List.nil_append];exact h2.1)
  have e:({ Aw p ks with Tables:=[] }:yX)=Aw p ks:=by unfold Aw;rw[uq (k:=1) hn]
  rw[e]at s1 s2;rw[List.nil_append]at s2;refine⟨s1,s2.trans ?_⟩;unfold Aw;rw[A3,zu (j:=0) ae,zu (j:=2) ae,zu (j:=3) ae,zu (j:=4) ae,zu (j:=5) ae,zu (j:=6) ae,A4 ae,KZ ae]
 ·obtain⟨s1,s2⟩:=zZc (h:=zfu p ks) p.Zones [] (Aw p ks) (λx hx=>⟨nm.z x hx,b3 x hx⟩) (by rw[List.nil_append];exact oI h3) (by rw[List.nil_append];exact h3.1)
  have e:({ Aw p ks with Zones:=[] }:yX)=Aw p ks:=by unfold Aw;rw[uq (k:=2) hn]
  rw[e]at s1 s2;rw[List.nil_append]at s2;refine⟨s1,s2.trans ?_⟩;unfold Aw;rw[A3,zu (j:=0) ae,zu (j:=1) ae,zu (j:=3) ae,zu (j:=4) ae,zu (j:=5) ae,zu (j:=6) ae,A4 ae,KZ ae]
 ·obtain⟨s1,s2⟩:=zZd (h:=zfu p ks) p.Rules [] (Aw p ks) (λx hx=>⟨nm.r x hx,b4 x hx⟩) (by rw[List.nil_append];exact oI h4) (by rw[List.nil_append];exact h4.1)
  have e:({ Aw p ks with Rules:=[] }:yX)=Aw p ks:=by unfold Aw;rw[uq (k:=3) hn]
  rw[e]at s1 s2;rw[List.nil_append]at s2;refine⟨s1,s2.trans ?_⟩;unfold Aw;rw[A3,zu (j:=0) ae,zu (j:=1) ae,zu (j:=2) ae,zu (j:=4) ae,zu (j:=5) ae,zu (j:=6) ae,A4 ae,KZ ae]
 ·obtain⟨s1,s2⟩:=zZe (h:=zfu p ks) p.Caps [] (Aw p ks) (λx hx=>⟨nm.c x hx,b5 x hx⟩) (by rw[List.nil_append];exact oI h5) (by rw[List.nil_append];exact h5.1)
  have e:({ Aw p ks with Caps:=[] }:yX)=Aw p ks:=by unfold Aw;rw[uq (k:=4) hn]
  rw[e]at s1 s2;rw[List.nil_append]at s2;refine⟨s1,s2.trans ?_⟩;unfold Aw;rw[A3,zu (j:=0) ae,zu (j:=1) ae,zu (j:=2) ae,zu (j:=3) ae,zu (j:=5) ae,zu (j:=6) ae,A4 ae,KZ ae]
 ·obtain⟨s1,s2⟩:=zZf (h:=zfu p ks) p.Views [] (Aw p ks) (λx hx=>⟨nm.v x hx,b6 x hx⟩) (by rw[List.nil_append];exact oI h6) (by rw[List.nil_append];exact h6.1)
  have e:({ Aw p ks with Views:=[] }:yX)=Aw p ks:=by unfold Aw;rw[uq (k:=5) hn]
  rw[e]at s1 s2;rw[List.nil_append]at s2;refine⟨s1,s2.trans ?_⟩;unfold Aw;rw[A3,zu (j:=0) ae,zu (j:=1) ae,zu (j:=2) ae,zu (j:=3) ae,zu (j:=4) ae,zu (j:=6) ae,A4 ae,KZ ae]
 ·have e:(Aw p ks).Sun=[]:=uq hn
  cases hx:p.Sun with
  |nil =>
   refine⟨by simp only[decls,hx,List.isEmpty_nil,ctQ];trivial,?_⟩;simp only[decls,hx,List.isEmpty_nil,ctQ,zlj];unfold Aw;rw[zu (j:=0) ae,zu (j:=1) ae,zu (j:=2) ae,zu (j:=3) ae,zu (j:=4) ae,zu (j:=5) ae,A4 ae,KZ ae,hx,A3,uq hn]
  |cons q r =>
   simp only[decls,hx,List.isEmpty_cons,cf];refine⟨⟨⟨af,by rw[<- hx];exact b7,by rw[<- hx];exact hs⟩,e,trivial⟩,?_⟩
   show({ Aw p ks with Sun:=q::r },zfu p ks)=_
   unfold Aw;rw[zu (j:=0) ae,zu (j:=1) ae,zu (j:=2) ae,zu (j:=3) ae,zu (j:=4) ae,zu (j:=5) ae,A4 ae,KZ ae,hx,A3]
 ·by_cases hx:p.Hours=0
  ·simp only[decls,hx,if_true]
   refine⟨trivial,?_⟩
   show(Aw p ks,zfu p ks)=_
   unfold Aw zfu zs6;rw[zu (k:=7) (j:=0) ae,zu (k:=7) (j:=1) ae,zu (k:=7) (j:=2) ae,zu (k:=7) (j:=3) ae,zu (k:=7) (j:=4) ae,zu (k:=7) (j:=5) ae,zu (k:=7) (j:=6) ae,hx,ite_self,ite_self,dt rfl,Bool.not_true,Bool.and_false,Bool.and_false]
  ·simp only[decls,hx,if_false]
   have e:zfu p ks=false:=by unfold zfu;rw[df hn];rfl
   refine⟨⟨⟨hh.1,hh.2,hx⟩,e,trivial⟩,?_⟩
   show({ Aw p ks with Hours:=p.Hours },true)=_
   unfold Aw zfu zs6;rw[zu (k:=7) (j:=0) ae,zu (k:=7) (j:=1) ae,zu (k:=7) (j:=2) ae,zu (k:=7) (j:=3) ae,zu (k:=7) (j:=4) ae,zu (k:=7) (j:=5) ae,zu (k:=7) (j:=6) ae,dt al,df hx,if_pos al];rfl
def zp0{p:yX}(hp:KT p):∀(js ks:List Nat),(∀j∈js,j<8/\j ∉ ks)->js.Nodup->zs5 (Aw p ks) (zfu p ks) (js.flatMap (decls p))/\zlj (Aw p ks) (zfu p ks) (js.flatMap (decls p))=(Aw p (js.reverse++ks),zfu p (js.reverse++ks))
 |[],ks,_,_=>⟨trivial,rfl⟩
 |j::js,ks,h,hd=>by
  obtain⟨d1,d2⟩:=List.nodup_cons.1 hd;obtain⟨a1,a2⟩:=h j al;obtain⟨s1,s2⟩:=zLk hp (ks:=ks) j a1 a2
  obtain⟨t1,t2⟩:=zp0 hp js (j::ks) (λi hi=>⟨(h i (mcQ _ hi)).1,λhm=>by
   rcases List.mem_cons.1 hm with rfl|hm
   ·exact d1 hi
   ·exact(h i (mcQ _ hi)).2 hm⟩) d2
  rw[List.flatMap_cons,zwk,zwj,s2];refine⟨⟨s1,t1⟩,t2.trans ?_⟩;rw[List.reverse_cons,asc];rfl
def zTc{p:yX}{ks:List Nat}(h:∀k<8,k∈ks):Aw p ks=p:=by
 unfold Aw pick zs6;rw[if_pos (h 0 ab),if_pos (h 1 ab),if_pos (h 2 ab),if_pos (h 3 ab),if_pos (h 4 ab),if_pos (h 5 ab),if_pos (h 6 ab),if_pos (h 7 ab)]
def LC(s:ak)(ts:List T3):Prop:=∀p r,∃l,l.map t3=ts/\zGn p (s++r)=zNk l (zGn (p+s.length) r)
def zZg:LC [] []:=λp r=>⟨[],rfl,by rw[zvk];rfl⟩
def lc_of{s:ak}{c:UInt8}{ts:List T3}(hc:yo c=true)(h:LX s ts):LC (s++[c]) ts:=λp r=>by
 obtain⟨l,h1,h2⟩:=h p (c::r) (zko hc);refine⟨l,h1,?_⟩;rw[asc,show[c]++r=c::r from rfl,h2,zhu hc,la,Nat.add_assoc];rfl
def zZh{a b:ak}{ts us:List T3}(ha:LC a ts)(hb:LC b us):LC (a++b) (ts++us):=λp r=>by
 obtain⟨l,h1,h2⟩:=ha p (b++r);obtain⟨m,h3,h4⟩:=hb (p+a.length) r;refine⟨l++m,by rw[List.map_append,h1,h3],?_⟩;rw[asc,h2,h4,zvj,la,Nat.add_assoc]
def lc_lx{s:ak}{ts:List T3}(h:LC s ts):LX s ts:=λp r _=>h p r
def zll(d:Decl):ak:=yf (zFc d)
def zTd{d:Decl}(h:zfr d):LC (zll d) (zsy d++[sgQ yg]):=by
 unfold zll;rw[zSv h,show([32,59,10]:ak)=[32,59]++[10] from rfl,<- asc];exact lc_of rfl (zDy (lx_jq (zv7 h)) (zvl (c:=32) rfl (zDx (t:=sgQ yg) rfl)) (zko rfl))
def zwl:∀{ds:List Decl},(∀d∈ds,zfr d)->LC (ds.flatMap zll) (ZO ds)
 |[],_=>zZg
 |d::ds,h=>by
  rw[List.flatMap_cons,ZO,List.flatMap_cons];exact zZh (zTd (h d al)) (zwl λx hx=>h x (mcQ _ hx))
def KS:List Nat:=[0,1,2,3,4,5,6,7]
def zs8(p:yX):HR p=(KS.flatMap (decls p)).flatMap zll:=by
 unfold HR KS;simp only[List.flatMap_cons,List.flatMap_nil,List.append_nil,List.flatMap_append,decls,List.flatMap_map];refine congrArg _ (congrArg _ (congrArg _ (congrArg _ (congrArg _ (congrArg _ ?_)))))
 have e1:((bif p.Sun.isEmpty then[]else[Decl.s p.Sun]):List Decl).flatMap zll=bif p.Sun.isEmpty then[]else yf (zE1 p.Sun):=by
  cases p.Sun.isEmpty
  ·simp[zll,zFc]
  ·rfl
 have e2:((if p.Hours=0 then[]else[Decl.h p.Hours]):List Decl).flatMap zll=if p.Hours=0 then[]else yf (QV p.Hours):=by
  split
  ·rfl
  ·simp[zll,zFc]
 rw[e1,e2]
def zF8(ds:List Decl):ds.length<=(ZO ds).length:=by
 have:=JW (f:=λd=>zsy d++[sgQ yg]) (k:=1) (λd=>by simp[zsy]) ds;unfold ZO;omega
section
variable{α γ α' γ':Type}{l:List Token}{x:Except EE (α×List Token)}{s:Option γ}{f:α->Int->γ}{pe:γ->EE}{g:α->List Token->Except EE (α'×List Token)}{s2:γ->Option γ'}{f2:α'->Int->γ'}{pe2:γ'->EE}
end
section
variable{l:List Token}{a E P:Int}{r:List Token}
-- with an error, nothing more is read
end
section
variable{l r:List Token}
end
section
variable{l r:List Token}
end
section
variable{l r:List Token}
end
section
variable{l r:List Token}
end
section
variable{l r:List Token}
end
section
variable{α β:Type}{r:List Token}
def zTe{p:yX}{h:Bool}(hs:TWF r)(hk:(hdT r).Kind≠3):MV r (zpv p h r):=by
 have ht:=hs.tail hk
 have room:∀{n most:Nat},MV r (WY n most r):=λ{n most}=>by
  unfold WY
  exact(WV hs).thn λ_ r1 h1 q1=>by obtain⟨rfl,_⟩:=qG h1;exact MV.tail hs hk (MV.ret ht)
 unfold zpv
 refine MV.ite (λ_=>room.thn λ_ r1 h1 q1=>(zOc q1.wf).thn λd r2 h2 q2=>MV.ret q2.wf) λ_=>MV.ite (λ_=>room.thn λ_ r1 h1 q1=>(zwd q1.wf).thn λd r2 h2 q2=>MV.ret q2.wf) λ_=>MV.ite (λ_=>room.thn λ_ r1 h1 q1=>(zFu q1.wf).thn λd r2 h2 q2=>MV.ret q2.wf) λ_=>MV.ite (λ_=>room.thn λ_ r1 h1 q1=>(zFu q1.wf).thn λd r2 h2 q2=>MV.ret q2.wf) λ_=>MV.ite (λ_=>room.thn λ_ r1 h1 q1=>(zFv q1.wf).thn λd r2 h2 q2=>MV.ret q2.wf) λ_=>MV.ite (λ_=>room.thn λ_ r1 h1 q1=>(zY6 q1.wf).thn λd r2 h2 q2=>MV.ret q2.wf) λ_=>MV.ite (λ_=>room.thn λ_ r1 h1 q1=>(zFt q1.wf).thn λd r2 h2 q2=>MV.ret q2.wf) λ_=>MV.ite (λ_=>(WV hs).thn λ_ r1 h1 q1=>?_) λ_=>MV.ite (λ_=>(WV hs).thn λ_ r1 h1 q1=>?_) λ_=>MV.err
 ·obtain⟨rfl,_⟩:=qG h1
  exact MV.tail hs hk ((zFs ht).thn λd r2 h2 q2=>MV.ret q2.wf)
 ·obtain⟨rfl,_⟩:=qG h1
  exact MV.tail hs hk ((kZ ht).thn λd r2 h2 q2=>(j5 q2.wf).thn λ_ r3 h3 q3=>MV.ret q3.wf)
end
def zTf(k:Nat)(h):(@JE ⟨k+500,h⟩)=some true:=aj
def zLl[i:Fuel]:JE=some true:=by
 obtain⟨n,h⟩:=i
 obtain⟨k,rfl⟩:∃k,n=k+500:=⟨n-500,ab⟩
 exact zTf k h
def zlm:∀(n p:Nat)(s:ak)(q:Nat)(e:Int),zab n p s=.error (q,e)->e≠0
 |0,_,_,_,_,h=>by cases h
 |n+1,p,s,q,e,h=>by
  rw[zab]at h;split at h
  ·cases h
  ·split at h
   ·rename_i c r hd e' ht
    cases h;exact zvi ht
   ·split at h
    ·rename_i hl
     cases h;exact zlm n _ _ _ _ hl
    ·cases h
def zs9:yX:=yX.mk [] [] [] [] [] [] [] 0
noncomputable def zln(s:ak):Except EE yX:=match zT2 s with
 |.error (p,e)=>.error ((p:Int),e)
 |.ok l=>match zft (l.length+1) zs9 false l with
  |.ok (v,_)=>.ok v.1
  |.error e=>.error e
def zZi:Except EE yX->Int×Int×List zg×Int×List Def×List Table×List yp×List zO×List Cap×List View
 |.ok p=>(0,0,p.Sun,p.Hours,p.Defs,p.Tables,p.Zones,p.Rules,p.Caps,p.Views)
 |.error e=>(e.1,e.2,[],0,[],[],[],[],[],[])
def NZ{α:Type}(x:Except EE α):Prop:=∀e,x=.error e->e.2≠0
section
variable{α β:Type}{r:List Token}
def NZ.thn{x:Except EE (α×List Token)}{g:α->List Token->Except EE β}(h:NZ x)(hg:∀a r,x=.ok (a,r)->NZ (g a r)):NZ (thn x g):=by
 match x,h,hg with
 |.error e,h,_=>exact λe' he=>h e' (congrArg Except.error (Except.error.inj he))
 |.ok (a,r),_,hg=>exact hg a r rfl
def xF{a:α}:NZ (.ok a:Except EE α):=λe h=>by cases h
def zOf{p k:Int}(h:k≠0):NZ (.error (p,k):Except EE α):=λe he=>by cases he;exact h
def zy9{k:Int}(h:k≠0):NZ (.error (zkq r k):Except EE α):=zOf h
def zev:NZ (oof:Except EE α):=zOf ae
def NZ.ite{c:Prop}[Decidable c]{x y:Except EE α}(h1:c->NZ x)(h2:¬c->NZ y):NZ (if c then x else y):=by
 split
 ·rename_i h;exact h1 h
 ·rename_i h;exact h2 h
def kq{lo hi:Int}:NZ (qb lo hi r):=.ite (λ_=>.ite (λ_=>xF) λ_=>zy9 ae) λ_=>zy9 ae
def Ze:NZ (u0 r):=.ite (λ_=>xF) λ_=>zy9 ae
def vS{w:ak}:NZ (xV w r):=.ite (λ_=>xF) λ_=>zy9 ae
def WZ{b:Bool}{k:Int}(h:k≠0):NZ (J8 b k r):=.ite (λ_=>xF) λ_=>zy9 h
def JX{L:List ak}:NZ (wJ L r):=.ite (λ_=>.ite (λ_=>zy9 ae) λ_=>xF) λ_=>zy9 ae
def W1{m:Int}:NZ (vR m r):=.ite (λ_=>kq.thn λ_ _ _=>xF) λ_=>kq
def zew{w:List ak}:NZ (j4 w r):=.ite (λ_=>by
 split
 ·exact xF
 ·exact zy9 ae) λ_=>zy9 ae
def zlo:NZ (HW r):=kq.thn λ_ _ _=>kq.thn λ_ _ _=>kq.thn λ_ _ _=>xF
def zwm{c:Bool}{k:Int}(h:k≠0):NZ (zs1 c k r):=(WZ ae).thn λ_ _ _=>(WZ h).thn λ_ _ _=>xF
end
def zex:∀(n:Nat)(acc:List zV)(r:List Token),NZ (kY n acc r)
 |0,_,_=>zev
 |n+1,acc,r=>kq.thn λ_ _ _=>kq.thn λ_ _ _=>.ite (λ_=>zex n _ _) λ_=>xF
def zF9:∀(n:Nat)(acc:List ak)(r:List Token),NZ (Za n acc r)
 |0,_,_=>zev
 |n+1,acc,r=>.ite (λ_=>Ze.thn λ_ _ _=>zF9 n _ _) λ_=>xF
def zGa{r:List Token}:NZ (WR r):=Ze.thn λ_ _ _=>zF9 _ _ _
def zGb:∀(n:Nat)(acc:List Entry)(r:List Token),NZ (Zc n acc r)
 |0,_,_=>zev
 |n+1,acc,r=>.ite (λ_=>(WZ ae).thn λ_ _ _=>JX.thn λ_ _ _=>W1.thn λ_ _ _=>zGb n _ _) λ_=>xF
def zOg:∀(n:Nat)(acc:List zg)(r:List Token),NZ (zzl n acc r)
 |0,_,_=>zev
 |n+1,acc,r=>.ite (λ_=>(WZ ae).thn λ_ _ _=>zlo.thn λ_ _ _=>zOg n _ _) λ_=>xF
def zOh:∀(n s:Nat)(r:List Token),NZ (zs3 n s r)
 |0,_,_=>zev
 |n+1,s,r=>by
  rw[zs3];split
  ·exact .ite (λ_=>xF) λ_=>zy9 ae
  ·exact .ite (λ_=>xF) λ_=>.ite (λ_=>zy9 ae) λ_=>.ite (λ_=>zOh n _ _) λ_=>zy9 ae
def zOi:∀(n:Nat)(acc:List zg)(r:List Token),NZ (zFl n acc r)
 |0,_,_=>zev
 |n+1,acc,r=>(WZ ae).thn λ_ _ _=>(WZ ae).thn λ_ _ _=>W1.thn λ_ _ _=>W1.thn λ_ _ _=>kq.thn λ_ _ _=>.ite (λ_=>zOi n _ _) λ_=>xF
def zLm:∀(n:Nat),(∀(lv:Nat)(r:List Token),lv<=8->r.length<n->TWF r->NZ (DE lv r))/\(∀(lv:Nat)(e:Expr)(r:List Token),lv<8->r.length<n->TWF r->NZ (LP lv e r)):=by
 intro n
 induction n with
 |zero=>exact⟨λ_ _ _ h=>ab,λ_ _ _ _ h=>ab⟩
 |succ n ih =>
  have hLP:∀(lv:Nat)(e:Expr)(r:List Token),lv<8->r.length<n+1->TWF r->NZ (LP lv e r):=by
   intro lv e r hlv hn hr;rw[zD3 hr];split
   ·exact xF
   ·rename_i op hop
    obtain⟨o,ho,_⟩:=KQ hop;have ht:=zF hr (kU ho).1;have g:=ht.lt
    refine(ih.1 (lv+1) _ ab ab ht.wf).thn λa r1 h1=>?_
    have ha:=wc ht.wf h1;have g1:=ha.lt
    exact .ite (λ_=>xF) λ_=>ih.2 lv _ _ hlv ab ha.wf
  refine⟨λlv=>?_,hLP⟩
  have key:∀(k lv:Nat),8-lv=k->lv<=8->∀(r:List Token),r.length<n+1->TWF r->NZ (DE lv r):=by
   intro k
   induction k with
   |zero =>
    intro lv hk hl r hn hr
    obtain rfl:lv=8:=ab
    rw[zGo hr]
    refine .ite (λ_=>kq.thn λ_ _ _=>xF) λ_=>.ite (λ_=>Ze.thn λ_ _ _=>Ze.thn λ_ _ _=>xF) λ_=>.ite (λ_=>Ze.thn λ_ _ _=>xF) λ_=>.ite (λhb=>?_) λ_=>Ze.thn λ_ _ _=>xF
    have ht:=zF hr (zw hb);have g:=ht.lt
    exact(ih.1 0 _ ab ab ht.wf).thn λ_ _ _=>vS.thn λ_ _ _=>xF
   |succ k ihk =>
    intro lv hk hl r hn hr;rw[zfq ab hr]
    refine .ite (λhb=>?_) λ_=>.ite (λhb=>?_) λ_=>.ite (λhb=>?_) λ_=>?_
    ·have ht:=zF hr (zw hb.2)
     have g:=ht.lt
     refine(ih.1 0 _ ab ab ht.wf).thn λa r1 h1=>vS.thn λu r3 h3=>?_
     have w1:=wc ht.wf h1;have w3:=xj w1.wf h3;have:=w1.lt;have:=w3.lt
     refine(ih.1 0 _ ab ab w3.wf).thn λb r4 h4=>vS.thn λu r5 h5=>?_
     have w4:=wc w3.wf h4;have w5:=xj w4.wf h5;have:=w4.lt;have:=w5.lt
     exact(ih.1 0 _ ab ab w5.wf).thn λ_ _ _=>xF
    ·have ht:=zF hr (zw hb.2)
     have g:=ht.lt
     exact(ih.1 3 _ ab ab ht.wf).thn λ_ _ _=>xF
    ·have ht:=zF hr (zw hb.2)
     have g:=ht.lt
     exact(ih.1 7 _ ab ab ht.wf).thn λ_ _ _=>xF
    ·refine(ihk (lv+1) ab ab r hn hr).thn λa r1 h1=>?_
     have w1:=wc hr h1;have:=w1.lt;exact ih.2 lv a r1 ab ab w1.wf
  exact λr hl=>key _ lv rfl hl r
def zZj{lv:Nat}{r:List Token}(hl:lv<=8)(hr:TWF r):NZ (DE lv r):=(zLm (r.length+1)).1 lv r hl (Nat.lt_succ_self _) hr
section
variable{r:List Token}{L:List ak}
def zZk(hr:TWF r):NZ (zK8 L r):=JX.thn λ_ r1 h1=>vS.thn λ_ r2 h2=>(zZj ab (xj (QA hr h1).wf h2).wf).thn λ_ _ _=>(zwm ae).thn λ_ _ _=>xF
def zLn:NZ (WU L r):=JX.thn λ_ _ _=>(zGb _ _ _).thn λ_ _ _=>vS.thn λ_ _ _=>W1.thn λ_ _ _=>vS.thn λ_ _ _=>xF
def zTg:NZ (zla L r):=JX.thn λ_ _ _=>zlo.thn λ_ _ _=>vS.thn λ_ _ _=>kq.thn λ_ _ _=>vS.thn λ_ _ _=>zlo.thn λ_ _ _=>(zOg _ _ _).thn λ_ _ _=>vS.thn λ_ _ _=>xF
def zGc{o:Bool}:NZ (zes L o r):=JX.thn λ_ _ _=>(zex _ _ _).thn λ_ _ _=>(zwm ae).thn λ_ _ _=>xF
def zZl:NZ (zN8 L r):=JX.thn λ_ _ _=>zew.thn λ_ _ _=>kq.thn λ_ _ _=>(zex _ _ _).thn λ_ _ _=>(zwm ae).thn λ_ _ _=>xF
def zTh{acc:List zg}:NZ (zK7 acc r):=(zOi _ _ _).thn λ_ _ _=>vS.thn λ_ _ _=>xF
def zp1{α:Type}{t:ak}{d:α}{f:List Token->Except EE (α×List Token)}(hf:∀r,NZ (f r)):NZ (zet t d f r):=.ite (λ_=>hf _) λ_=>xF
def zTi(hr:TWF r):NZ (Zd r):=.ite (λ_=>kq.thn λ_ _ _=>vS.thn λ_ _ _=>kq.thn λ_ _ _=>vS.thn λ_ _ _=>kq.thn λ_ _ _=>kq.thn λ_ _ _=>vS.thn λ_ _ _=>xF)
 λ_=>.ite (λ_=>(zOh _ _ _).thn λ_ _ _=>vS.thn λ_ _ _=>xF) λ_=>.ite (λ_=>zew.thn λ_ _ _=>zew.thn λ_ _ _=>kq.thn λ_ _ _=>vS.thn λ_ _ _=>xF)
 λ_=>(zZj ab hr).thn λ_ _ _=>(zwm ae).thn λ_ _ _=>xF
def zTj(hr:TWF r):NZ (zlb L r):=JX.thn λ_ r1 h1=>(zp1 λ_=>zGa).thn λ_ r2 h2=>(zp1 λ_=>zGa).thn λ_ r3 h3=>(zp1 λ_=>kq).thn λ_ r4 h4=>(zp1 λ_=>kq).thn λ_ r5 h5=>(zp1 λ_=>kq).thn λ_ r6 h6=>vS.thn λ_ r7 h7=>by
 have w1:=(QA hr h1).wf;have w2:=(QW w1 (λ_ h=>zld h) _ _ h2).wf;have w3:=(QW w2 (λ_ h=>zld h) _ _ h3).wf;have w4:=(QW w3 (λ_ h=>kZ h) _ _ h4).wf;have w5:=(QW w4 (λ_ h=>kZ h) _ _ h5).wf;have w6:=(QW w5 (λ_ h=>kZ h) _ _ h6).wf
 exact(zTi (xj (zle w6).wf h7).wf).thn λ_ _ _=>xF
def VB{n m:Nat}:NZ (WY n m r):=(WZ ae).thn λ_ _ _=>xF
def zTk{p:yX}{h:Bool}(hr:TWF r)(hk:(hdT r).Kind≠3):NZ (zpv p h r):=by
 have tl:=(zF hr hk).wf
 have ok:∀{n m:Nat}{u:Unit}{r2:List Token},WY n m r=.ok (u,r2)->TWF r2:=λ{n m u r2} h=>by rw[(A1 h).1];exact tl
 unfold zpv
 exact .ite (λ_=>VB.thn λ_ _ h1=>(zZk (ok h1)).thn λ_ _ _=>xF) λ_=>.ite (λ_=>VB.thn λ_ _ _=>zLn.thn λ_ _ _=>xF) λ_=>.ite (λ_=>VB.thn λ_ _ _=>zGc.thn λ_ _ _=>xF) λ_ =>
  .ite (λ_=>VB.thn λ_ _ _=>zGc.thn λ_ _ _=>xF) λ_=>.ite (λ_=>VB.thn λ_ _ h1=>(zTj (ok h1)).thn λ_ _ _=>xF) λ_=>.ite (λ_=>VB.thn λ_ _ _=>zZl.thn λ_ _ _=>xF) λ_ =>
  .ite (λ_=>VB.thn λ_ _ _=>zTg.thn λ_ _ _=>xF) λ_=>.ite (λ_=>(WZ ae).thn λ_ _ _=>zTh.thn λ_ _ _=>xF) λ_=>.ite (λ_=>(WZ ae).thn λ_ _ _=>kq.thn λ_ _ _=>vS.thn λ_ _ _=>xF) λ_=>zy9 ae
end
def zGd:∀(n:Nat)(p:yX)(h:Bool)(r:List Token),TWF r->NZ (zft n p h r)
 |0,_,_,_,_=>zev
 |n+1,p,h,r,hr=>.ite (λ_=>xF) λhk=>(zTk hr hk).thn λx r1 h1=>zGd n _ _ _ (zTe hr hk _ _ h1).wf
def zLo{s:ak}(hs:s.length<=8000){e:EE}(h:zln s=.error e):e.2≠0:=by
 unfold zln at h;split at h
 ·rename_i p k hl
  cases h;exact zlm _ _ _ _ _ hl
 ·rename_i l hl
  split at h
  ·cases h
  ·rename_i e' he
   cases h;exact zGd _ _ _ _ (zD1 hs hl).1.wf _ he
def zTl{s:ak}(h:s.length<=8000):Hc s=some (zZi (zln s)):=by
 have hne:∀e,zln s=.error e->e.2≠0:=λe he=>zLo h he
 unfold zln at hne;unfold Hc zln;rw[l_Lex h,bsQ]
 cases hx:zT2 s with
 |error y =>
  obtain⟨p,e⟩:=y;have he:=zlm _ _ _ _ _ hx;rw[show lexR (.error (p,e))=([],(p:Int),e) from rfl];dsimp only;rw[df he];rfl
 |ok l =>
  rw[hx]at hne;dsimp only at hne;obtain⟨hs,hp⟩:=zD1 h hx;rw[show lexR (.ok l)=(l,0,0) from rfl];dsimp only;rw[show decide ((0:Int)=0)=true from rfl,Bool.not_true,cf];have hL:=zY7 (b:=BB.mk l 0 [] [] [] [] [] [] [] 0 [] [] [] [] [] [] false) (l.length+1) l zs9 false [] [] [] [] [] [] KK hs (Nat.lt_succ_self _) (zy7 hs) (.inl ⟨rfl,rfl⟩) (.inl ⟨rfl,rfl⟩) (.inl ⟨rfl,rfl⟩) (.inl ⟨rfl,rfl⟩) (.inl ⟨rfl,rfl⟩) (.inl ⟨rfl,rfl⟩)
  have hq:qT l zs9 false l [] [] [] [] [] []=(0,0,false,[],[],[],[],[],[],[],[],[],[],[],[],[]):=by unfold qT;rw[hp];rfl
  rw[show(BB.mk l 0 [] [] [] [] [] [] [] 0 [] [] [] [] [] [] false).l=l from rfl,hq]at hL;unfold Kz JB zju zjx
  cases hy:zft (l.length+1) zs9 false l with
  |ok v =>
   obtain⟨⟨v,hh⟩,r⟩:=v;rw[hy]at hL;obtain⟨⟨y,h1,h2,q1,q2,q3,q4,q5,q6,q7,q8,q9,q10⟩,_⟩:=hL;dsimp only;rw[h1];obtain⟨y1,y2,y3,y4,y5,y6,y7,y8,y9,y10,y11⟩:=y;dsimp only at q1 q2 q3 q4 q5 q6 q7 q8 q9 q10;subst q2 q4 q5 q6 q7 q8 q9 q10;rfl
  |error e =>
   rw[hy]at hL hne;have he:=hne e rfl;obtain⟨h1,h2⟩:=hL;dsimp only;rw[h1,h2]
   show(bif (!(decide (e.2=0)))then _ else none)=_
   rw[df he];rfl
section code
variable{c1:Int}{c8:Int}{s:ak}
def P_L1{c0:List Def}{c2:List Table}{c3:List yp}{c4:List zO}{c5:List Cap}{c6:List View}{c7:List zg}(hl:c0.length<=300)(hs:VC s)(hn:∀x∈c0,zN x.Name=true)(h:∀x∈c0,okE 12 x.Body=true)(hq:∀x∈c0,jv x.Body<=5000)(hb:(s++c0.flatMap λx=>yf (zzk x)).length<=140737488355328):
  jb c0 (List.length c0:Nat) c2 c3 c4 c5 c6 c7 c8 KK (0,s)=some (s++c0.flatMap λx=>yf (zzk x))/\VC (s++c0.flatMap λx=>yf (zzk x)):=by
 refine vQ c0 (λx=>yf (zzk x)) (λK q s=>jb c0 (List.length c0:Nat) c2 c3 c4 c5 c6 c7 c8 K (q,s)) 140737488355328 VC ab hs hb (λK i x s hx hI hM=>?_) (λK s=>?_)
 ·have hi:=AA hx
  have hA:=zYj (hn x (List.mem_of_getElem? hx)) (h x (List.mem_of_getElem? hx)) (hq x (List.mem_of_getElem? hx))
  have e:yf (zzk x)=QE (.inr wR)++(spT [.inr x.Name,.inr Az]++(spT [.inr (zQ 12 x.Body)]++[32,59,10])):=by
   show yf (.inr wR::([.inr x.Name,.inr Az]++[.inr (zQ 12 x.Body)]))=_
   rw[jH,JQ,asc]
  simp only[e]at hM ⊢;have hM0:=hM;simp only[la]at hM0;obtain⟨p1,g1⟩:=AZ (x:=.inr wR) (l:=[.inr x.Name,.inr Az]) hI (λy hy=>(hA y (by simp only[zzk,List.mem_cons,List.not_mem_nil,or_false]at hy ⊢;rcases hy with h|h|h<;>simp[h])).1) af (by simp only[la];omega);obtain⟨p2,g2⟩:=zpl g1 (h x (List.mem_of_getElem? hx)) (by simp only[la];omega)
  show jb _ _ _ _ _ _ _ _ _ (K+1) ((i:Int),s)=_/\_
  rw[jb];simp only[HQ hx,ctQ,ye hx,bsQ,yW];rw[p1,bsQ,p2,bsQ,xB ab];simp only[asc]at g2 ⊢;exact⟨trivial,g2⟩
 ·show jb _ _ _ _ _ _ _ _ _ (K+1) (_,s)=_
  rw[jb];simp only[ko,cf]
def P_L3{c0:List Table}{c2:Int}{c3:List Entry}{c5:List Def}{c6:List yp}{c7:List zO}{c8:List Cap}{c9:List View}{c10:List zg}{c11:Int}{c12:ak}{c13:Int}(hl:c3.length<=64)(hs:Good s)(h:∀x∈c3,W4 (zst x))(hb:(s++spT (c3.flatMap zst)).length<=140737488355328):
  jc c0 c1 c2 c3 (List.length c3:Nat) c5 c6 c7 c8 c9 c10 c11 c12 c13 KK (0,s)=some (s++spT (c3.flatMap zst))/\Good (s++spT (c3.flatMap zst)):=by
 rw[WN]at hb ⊢;refine vQ c3 (λx=>spT (zst x)) (λK q s=>jc c0 c1 c2 c3 (List.length c3:Nat) c5 c6 c7 c8 c9 c10 c11 c12 c13 K (q,s)) 140737488355328 Good ab hs hb (λK i x s hx hI hM=>?_) (λK s=>?_)
 ·have hi:=AA hx
  obtain⟨p1,g1⟩:=vd (l:=zst x) hI (h x (List.mem_of_getElem? hx)).g (by simp[zst]) hM;refine⟨?_,g1⟩
  show jc _ _ _ _ _ _ _ _ _ _ _ _ _ _ (K+1) ((i:Int),s)=_
  rw[jc];simp only[HQ hx,ctQ,ye hx,bsQ];rw[show([(Sum.inr x.Name),(Sum.inl x.N)]:List (Int⊕ak))=zst x from rfl,p1,bsQ,xB ab]
 ·show jc _ _ _ _ _ _ _ _ _ _ _ _ _ _ (K+1) (_,s)=_
  rw[jc];simp only[ko,cf]
def zza(x:Table):yf (J9 x)=QE (.inr yz)++(spT [.inr x.Name]++(spT (x.Rows.flatMap zst)++(spT [.inr yY,.inl x.Else]++[32,59,10]))):=by
 show yf (.inr yz::([.inr x.Name]++(x.Rows.flatMap zst++[.inr yY,.inl x.Else])))=_
 rw[jH];simp only[JQ,asc]
def P_L2{c0:List Table}{c2:List Def}{c3:List yp}{c4:List zO}{c5:List Cap}{c6:List View}{c7:List zg}(hl:c0.length<=300)(hs:VC s)(hn:∀x∈c0,zN x.Name=true)(h:∀x∈c0,AV x)(hf:∀x∈c0,x.Rows.length<=64)(hb:(s++c0.flatMap λx=>yf (J9 x)).length<=140737488355328):
  jd c0 (List.length c0:Nat) c2 c3 c4 c5 c6 c7 c8 KK (0,s)=some (s++c0.flatMap λx=>yf (J9 x))/\VC (s++c0.flatMap λx=>yf (J9 x)):=by
 refine vQ c0 (λx=>yf (J9 x)) (λK q s=>jd c0 (List.length c0:Nat) c2 c3 c4 c5 c6 c7 c8 K (q,s)) 140737488355328 VC ab hs hb (λK i x s hx hI hM=>?_) (λK s=>?_)
 ·have hi:=AA hx
  have hm:=List.mem_of_getElem? hx;have hT:=h x hm;rw[zza]at hM ⊢;have hM0:=hM;simp only[la]at hM0;obtain⟨p1,g1⟩:=AZ (x:=.inr yz) (l:=[.inr x.Name]) hI (zl (xd ae) (zl (vj (hn x hm)) yy)).g af (by simp only[la];omega);obtain⟨p2,g2⟩:=P_L3 (c0:=c0) (c1:=(List.length c0:Nat)) (c2:=(i:Int)) (c3:=x.Rows) (c5:=c2) (c6:=c3) (c7:=c4) (c8:=c5) (c9:=c6) (c10:=c7) (c11:=c8) (c12:=x.Name) (c13:=x.Else) (hf x hm) g1 (λy hy=>zYk (WQ hT y hy) (hT.2.2 y hy)) (by simp only[la];omega);obtain⟨p3,g3⟩:=vd (l:=[.inr yY,.inl x.Else]) g2 (zl (xd ae) (zl (yF (xT hT.2.1 ab ab)) yy)).g af (by simp only[la];omega);obtain⟨p4,g4⟩:=WM g3 (by simp only[la];omega)
  show jd _ _ _ _ _ _ _ _ _ (K+1) ((i:Int),s)=_/\_
  rw[jd];simp only[HQ hx,ctQ,ye hx,bsQ];rw[p1,bsQ,p2,bsQ,p3,bsQ,p4,bsQ,xB ab];simp only[asc]at g4 ⊢;exact⟨trivial,g4⟩
 ·show jd _ _ _ _ _ _ _ _ _ (K+1) (_,s)=_
  rw[jd];simp only[ko,cf]
def zGe(x:yp):yf (zel x)=QE (.inr (bif x.Overlay then yI else xh))++(spT [.inr x.Name]++(spT (x.Corners.flatMap ptT)++[32,59,10])):=by
 show yf (.inr (bif x.Overlay then yI else xh)::([.inr x.Name]++x.Corners.flatMap ptT))=_
 rw[jH];simp only[JQ,asc]
def P_L4{c0:List yp}{c2:List Def}{c3:List Table}{c4:List zO}{c5:List Cap}{c6:List View}{c7:List zg}(hl:c0.length<=300)(hs:VC s)(hn:∀x∈c0,zN x.Name=true)(h:∀x∈c0,Hg x.Corners)(hf:∀x∈c0,x.Corners.length<=64)(hb:(s++c0.flatMap λx=>yf (zel x)).length<=140737488355328):
  je c0 (List.length c0:Nat) c2 c3 c4 c5 c6 c7 c8 KK (0,s)=some (s++c0.flatMap λx=>yf (zel x))/\VC (s++c0.flatMap λx=>yf (zel x)):=by
 refine vQ c0 (λx=>yf (zel x)) (λK q s=>je c0 (List.length c0:Nat) c2 c3 c4 c5 c6 c7 c8 K (q,s)) 140737488355328 VC ab hs hb (λK i x s hx hI hM=>?_) (λK s=>?_)
 ·have hi:=AA hx
  have hm:=List.mem_of_getElem? hx;rw[zGe]at hM ⊢;have hM0:=hM;simp only[la]at hM0;obtain⟨p1,g1⟩:=AZ (x:=.inr (bif x.Overlay then yI else xh)) (l:=[.inr x.Name]) hI (zl (zpp _) (zl (vj (hn x hm)) yy)).g af (by simp only[la];omega);obtain⟨p2,g2⟩:=zen g1 (zbm (h x hm)) (hf x hm) (by simp only[la];omega)
  have hw:(bif x.Overlay then some yI else some xh)=some (bif x.Overlay then yI else xh):=by cases x.Overlay<;>rfl
  show je _ _ _ _ _ _ _ _ _ (K+1) ((i:Int),s)=_/\_
  rw[je];simp only[HQ hx,ctQ,ye hx,bsQ];rw[hw,bsQ,p1,bsQ,p2,bsQ,xB ab];simp only[asc]at g2 ⊢;exact⟨trivial,g2⟩
 ·show je _ _ _ _ _ _ _ _ _ (K+1) (_,s)=_
  rw[je];simp only[ko,cf]
def P_L5{c0:List zO}{c2:List Def}{c3:List Table}{c4:List yp}{c5:List Cap}{c6:List View}{c7:List zg}(hl:c0.length<=300)(hs:VC s)(hn:∀x∈c0,zN x.Name=true)(h:∀x∈c0,WD x)(hf:∀x∈c0,zGp x=true)(hb:(s++c0.flatMap λx=>yf (Vv x)).length<=140737488355328):
  jf c0 (List.length c0:Nat) c2 c3 c4 c5 c6 c7 c8 KK (0,s)=some (s++c0.flatMap λx=>yf (Vv x))/\VC (s++c0.flatMap λx=>yf (Vv x)):=by
 refine vQ c0 (λx=>yf (Vv x)) (λK q s=>jf c0 (List.length c0:Nat) c2 c3 c4 c5 c6 c7 c8 K (q,s)) 140737488355328 VC ab hs hb (λK i x s hx hI hM=>?_) (λK s=>?_)
 ·have hi:=AA hx
  have hm:=List.mem_of_getElem? hx;obtain⟨p1,g1⟩:=zE5 hI (h x hm) (hn x hm) (hf x hm) hM;refine⟨?_,g1⟩
  show jf _ _ _ _ _ _ _ _ _ (K+1) ((i:Int),s)=_
  rw[jf];simp only[HQ hx,ctQ,ye hx,bsQ,yW];rw[p1,bsQ,xB ab]
 ·show jf _ _ _ _ _ _ _ _ _ (K+1) (_,s)=_
  rw[jf];simp only[ko,cf]
def zGf{i:Nat}(h:i<3):JR[i]?=some (JR.getD i []):=by
 rw[List.getD_eq_getElem?_getD,List.getElem?_eq_getElem (show i<JR.length from h)];rfl
def zLp(x:Cap):yf (zE0 x)=QE (.inr V7)++(spT [.inr x.Name,.inr (JR.getD x.Load.toNat []),.inl x.Limit]++(spT (x.Corners.flatMap ptT)++[32,59,10])):=by
 show yf (.inr V7::([.inr x.Name,.inr (JR.getD x.Load.toNat []),.inl x.Limit]++x.Corners.flatMap ptT))=_
 rw[jH];simp only[JQ,asc]
def P_L6{c0:List Cap}{c2:List Def}{c3:List Table}{c4:List yp}{c5:List zO}{c6:List View}{c7:List zg}(hl:c0.length<=300)(hs:VC s)(hn:∀x∈c0,zN x.Name=true)(h:∀x∈c0,zKd x)(hf:∀x∈c0,x.Corners.length<=64)(hb:(s++c0.flatMap λx=>yf (zE0 x)).length<=140737488355328):
  jg c0 (List.length c0:Nat) c2 c3 c4 c5 c6 c7 c8 KK (0,s)=some (s++c0.flatMap λx=>yf (zE0 x))/\VC (s++c0.flatMap λx=>yf (zE0 x)):=by
 refine vQ c0 (λx=>yf (zE0 x)) (λK q s=>jg c0 (List.length c0:Nat) c2 c3 c4 c5 c6 c7 c8 K (q,s)) 140737488355328 VC ab hs hb (λK i x s hx hI hM=>?_) (λK s=>?_)
 ·have hi:=AA hx
  have hm:=List.mem_of_getElem? hx;obtain⟨k1,k2,k3⟩:=h x hm;rw[zLp]at hM ⊢;have hM0:=hM;simp only[la]at hM0;obtain⟨p1,g1⟩:=AZ (x:=.inr V7) (l:=[.inr x.Name,.inr (JR.getD x.Load.toNat []),.inl x.Limit]) hI (zl (xd ae) (zl (vj (hn x hm)) (zl (zpo ab) (zl (yF (xT k2 ab ab)) yy)))).g af (by simp only[la];omega);obtain⟨p2,g2⟩:=zen g1 (zbm k3) (hf x hm) (by simp only[la];omega)
  show jg _ _ _ _ _ _ _ _ _ (K+1) ((i:Int),s)=_/\_
  rw[jg];simp only[HQ hx,ctQ,ye hx,bsQ,zpk];rw[zD (show 0<=x.Load/\x.Load<((List.length JR:Nat):Int) by rw[show JR.length=3 from rfl];omega),bsQ,zGf (show x.Load.toNat<3 by omega),bsQ,p1,bsQ,p2,bsQ,xB ab];simp only[asc]at g2 ⊢;exact⟨trivial,g2⟩
 ·show jg _ _ _ _ _ _ _ _ _ (K+1) (_,s)=_
  rw[jg];simp only[ko,cf]
def P_L8{c0:List View}{c2:Int}{c3:List zg}{c5:List Def}{c6:List Table}{c7:List yp}{c8:List zO}{c9:List Cap}{c10:List zg}{c11:Int}(hl:c3.length<=64)(hs:Good s)(h:∀x∈c3,W4 (W3 x))(hb:(s++spT (c3.flatMap W3)).length<=140737488355328):
  jh c0 c1 c2 c3 (List.length c3:Nat) c5 c6 c7 c8 c9 c10 c11 KK (0,s)=some (s++spT (c3.flatMap W3))/\Good (s++spT (c3.flatMap W3)):=by
 rw[WN]at hb ⊢;refine vQ c3 (λx=>spT (W3 x)) (λK q s=>jh c0 c1 c2 c3 (List.length c3:Nat) c5 c6 c7 c8 c9 c10 c11 K (q,s)) 140737488355328 Good ab hs hb (λK i x s hx hI hM=>?_) (λK s=>?_)
 ·have hi:=AA hx
  obtain⟨p1,g1⟩:=vd (l:=W3 x) hI (h x (List.mem_of_getElem? hx)).g (by simp[W3]) hM;refine⟨?_,g1⟩
  show jh _ _ _ _ _ _ _ _ _ _ _ _ (K+1) ((i:Int),s)=_
  rw[jh];simp only[HQ hx,ctQ,ye hx,bsQ];rw[show([(Sum.inl x.X),(Sum.inl x.Y),(Sum.inl x.Z_)]:List (Int⊕ak))=W3 x from rfl,p1,bsQ,xB ab]
 ·show jh _ _ _ _ _ _ _ _ _ _ _ _ (K+1) (_,s)=_
  rw[jh];simp only[ko,cf]
def zGg(x:View):yf (zem x)=QE (.inr AJ)++(spT [.inr x.Name,.inl x.Eye.X,.inl x.Eye.Y,.inl x.Eye.Z_,.inr vG,.inl x.Least,.inr xI]++(spT (x.Targets.flatMap W3)++[32,59,10])):=by
 show yf (.inr AJ::([.inr x.Name,.inl x.Eye.X,.inl x.Eye.Y,.inl x.Eye.Z_,.inr vG,.inl x.Least,.inr xI]++x.Targets.flatMap W3))=_
 rw[jH];simp only[JQ,asc]
def P_L7{c0:List View}{c2:List Def}{c3:List Table}{c4:List yp}{c5:List zO}{c6:List Cap}{c7:List zg}(hl:c0.length<=300)(hs:VC s)(hn:∀x∈c0,zN x.Name=true)(h:∀x∈c0,Y3 x)(hf:∀x∈c0,x.Targets.length<=64)(hb:(s++c0.flatMap λx=>yf (zem x)).length<=140737488355328):
  ji c0 (List.length c0:Nat) c2 c3 c4 c5 c6 c7 c8 KK (0,s)=some (s++c0.flatMap λx=>yf (zem x))/\VC (s++c0.flatMap λx=>yf (zem x)):=by
 refine vQ c0 (λx=>yf (zem x)) (λK q s=>ji c0 (List.length c0:Nat) c2 c3 c4 c5 c6 c7 c8 K (q,s)) 140737488355328 VC ab hs hb (λK i x s hx hI hM=>?_) (λK s=>?_)
 ·have hi:=AA hx
  have hm:=List.mem_of_getElem? hx;obtain⟨k1,k2,k3,k4⟩:=h x hm;obtain⟨e1,e2,e3⟩:=WO k3;rw[zGg]at hM ⊢;have hM0:=hM;simp only[la]at hM0;obtain⟨p1,g1⟩:=AZ (x:=.inr AJ) (l:=[.inr x.Name,.inl x.Eye.X,.inl x.Eye.Y,.inl x.Eye.Z_,.inr vG,.inl x.Least,.inr xI]) hI (zl (xd ae) (zl (vj (hn x hm)) (zl (yF e1) (zl (yF e2) (zl (yF e3) (zl (xd ae) (zl (yF (xT k1 ab ab)) (zl (xd ae) yy)))))))).g af (by simp only[la];omega);obtain⟨p2,g2⟩:=P_L8 (c0:=c0) (c1:=(List.length c0:Nat)) (c2:=(i:Int)) (c3:=x.Targets) (c5:=c2) (c6:=c3) (c7:=c4) (c8:=c5) (c9:=c6) (c10:=c7) (c11:=c8) (hf x hm) g1 (λy hy=>zy3 (WO (k4 y hy))) (by simp only[la];omega);obtain⟨p3,g3⟩:=WM g2 (by simp only[la];omega)
  show ji _ _ _ _ _ _ _ _ _ (K+1) ((i:Int),s)=_/\_
  rw[ji];simp only[HQ hx,ctQ,ye hx,bsQ];rw[p1,bsQ,p2,bsQ,p3,bsQ,xB ab];simp only[asc]at g3 ⊢;exact⟨trivial,g3⟩
 ·show ji _ _ _ _ _ _ _ _ _ (K+1) (_,s)=_
  rw[ji];simp only[ko,cf]
end code
def ZP(p:zg):List Tok:=.inr qa::W3 p
def zZm{l:List zg}{c2:List Def}{c3:List Table}{c4:List yp}{c5:List zO}{c6:List Cap}{c7:List View}{c8:Int}(hl:l.length<=64)(h:∀x∈l,zzj x):∀(r:List zg)(i K:Nat)(s:ak),1<=i->l.drop i=r->i<=l.length->r.length<K->Good s->(s++r.flatMap λx=>spT (ZP x)).length<=140737488355328 ->
  jj l (List.length l:Nat) c2 c3 c4 c5 c6 c7 c8 K ((i:Int),s)=some (s++r.flatMap λx=>spT (ZP x))/\Good (s++r.flatMap λx=>spT (ZP x))
 |[],i,K,s,h1,hr,hi,hK,hI,hM=>by
  obtain⟨K,rfl⟩:∃k,K=k+1:=⟨K-1,by simp at hK;omega⟩
  have:=drop_nil hr hi;subst this;rw[jj];simp only[ko,cf,List.flatMap_nil,List.append_nil,true_and];exact hI
 |x::r,i,K,s,h1,hr,hi,hK,hI,hM=>by
  obtain⟨K,rfl⟩:∃k,K=k+1:=⟨K-1,by simp at hK;omega⟩
  obtain⟨g1,g2,g3⟩:=wb hr;simp only[lc]at hK;rw[List.flatMap_cons,<- asc]at hM ⊢;obtain⟨p1,p2⟩:=vd (l:=ZP x) hI (zl (xd ae) (zy3 (zk4 (h x (List.mem_of_getElem? g1))))).g (by simp[ZP,W3]) (by rw[la]at hM;omega);rw[jj];simp only[HQ g1,ctQ,ye g1,bsQ]
  rw[show min (i:Int) 1=1 by omega,zD ae,bsQ,show(([Jm,qa]:List ak))[(Int.toNat 1)]?=some qa from rfl,bsQ,
   show([(Sum.inr qa),(Sum.inl x.X),(Sum.inl x.Y),(Sum.inl x.Z_)]:List (Int⊕ak))=ZP x from rfl,p1,bsQ,xB ab]
  exact zZm hl h r (i+1) K _ ab g2 ab ab p2 hM
def zLq(p:zg)(r:List zg):yf (zE1 (p::r))=QE (.inr Jm)++(spT (W3 p)++((r.flatMap λx=>spT (ZP x))++[32,59,10])):=by
 show yf (.inr Jm::(W3 p++r.flatMap ZP))=_
 rw[jH];simp only[JQ,asc,WN]
def P_L9{l:List zg}{c2:List Def}{c3:List Table}{c4:List yp}{c5:List zO}{c6:List Cap}{c7:List View}{c8:Int}{s:ak}(hl:l.length<=64)(hs:VC s)(h:∀x∈l,zzj x)(hb:(s++(bif l.isEmpty then[]else yf (zE1 l))).length<=140737488355328):
  (jj l (List.length l:Nat) c2 c3 c4 c5 c6 c7 c8 KK (0,s)).bind (λx8=>((bif (decide (((List.length l:Nat):Int)>0))then(qw x8).bind λx10=>some x10 else some x8)))=some (s++(bif l.isEmpty then[]else yf (zE1 l)))/\VC (s++(bif l.isEmpty then[]else yf (zE1 l))):=by
 obtain⟨k,hk⟩:∃k,KK=k+1:=⟨KK-1,by have:=jz (n:=100) ab;omega⟩
 have hkl:l.length<k+1:=by rw[<- hk];exact jz ab
 cases l with
 |nil =>
  rw[hk,jj];simp only[List.isEmpty_nil,ctQ,List.append_nil,List.length_nil];exact⟨rfl,hs⟩
 |cons p r =>
  simp only[List.isEmpty_cons,cf]at hb ⊢;rw[zLq]at hb ⊢;have hM0:=hb;simp only[la]at hM0;simp only[lc]at hkl;have hp:=h p al;obtain⟨p1,g1⟩:=AZ (x:=.inr Jm) (l:=W3 p) hs (zl (xd ae) (zy3 (zk4 hp))).g (by simp[W3]) (by simp only[la];omega);obtain⟨p2,g2⟩:=zZm (l:=p::r) (c2:=c2) (c3:=c3) (c4:=c4) (c5:=c5) (c6:=c6) (c7:=c7) (c8:=c8) hl h r 1 k _ ab rfl af ab g1 (by simp only[la];omega);obtain⟨p3,g3⟩:=WM g2 (by simp only[la];omega);rw[hk,jj];have h0:(p::r)[0]?=some p:=rfl;have d0:decide ((0:Int)<(((p::r).length:Nat):Int))=true:=HQ h0;have i0:idx (p::r) 0=some p:=ye h0;simp only[d0,ctQ,i0,bsQ]
  rw[show min (0:Int) 1=0 from rfl,zD ae,bsQ,show(([Jm,qa]:List ak))[(Int.toNat 0)]?=some Jm from rfl,bsQ,
   show([(Sum.inr Jm),(Sum.inl p.X),(Sum.inl p.Y),(Sum.inl p.Z_)]:List (Int⊕ak))=.inr Jm::W3 p from rfl,p1,bsQ,show w64 (0+1)=((1:Nat):Int) from rfl,p2,bsQ]
  rw[p3];simp only[asc,bsQ,true_and]at g3 ⊢;exact g3
def zTm{s:ak}{n:Int}(hs:VC s)(h:0<=n/\n<=24)(hb:(s++(if n=0 then[]else yf (QV n))).length<=140737488355328):
  ((bif (!(decide (n=0)))then(yw s ([(Sum.inr kE),(Sum.inl n)]:List (Int⊕ak))).bind λx12=>(qw x12).bind λx13=>some x13 else some s))=some (s++(if n=0 then[]else yf (QV n))):=by
 by_cases h0:n=0
 ·rw[if_pos h0,dt h0,List.append_nil];rfl
 ·rw[if_neg h0]at hb ⊢
  have e:yf (QV n)=QE (.inr kE)++(spT [.inl n]++[32,59,10]):=jH _ _;rw[e]at hb ⊢;have hM0:=hb;simp only[la]at hM0;obtain⟨p1,g1⟩:=AZ (x:=.inr kE) (l:=[.inl n]) hs (zE9 h).g af (by simp only[la];omega);obtain⟨p2,g2⟩:=WM g1 (by simp only[la];omega);rw[df h0,Bool.not_false,ctQ,p1,bsQ,p2];simp only[asc,bsQ]
noncomputable def zwn(p:yX):ak×Int:=bif pd (KT p)then(if(HR p).length<=8000 then(HR p,0)else([],6))else([],1)
def zwo{p:yX}(hf:zX6 p):YI p=some (zwn p):=by
 unfold YI zwn;rw[zbi hf,bsQ]
 cases hr:pd (KT p)with
 |false=>rfl
 |true =>
  have hR:=ju.1 hr;have hb:=zFb hf hR;have nm:=zk5 hR;obtain⟨_,⟨b1,b2,b3,b4,b5,b6,b7⟩,hh,hs⟩:=hR;simp only[Bool.not_true,cf,ctQ];have hb0:=hb;simp only[HR,la]at hb0;obtain⟨p1,g1⟩:=P_L1 (c0:=p.Defs) (c2:=p.Tables) (c3:=p.Zones) (c4:=p.Rules) (c5:=p.Caps) (c6:=p.Views) (c7:=p.Sun) (c8:=p.Hours) (s:=[]) hf.d (.inl rfl) nm.d b1 (λx hx=>(WC (hf.ds x hx).2).1) (by simp only[List.nil_append];omega);rw[List.nil_append]at p1 g1;generalize hs1:(p.Defs.flatMap λx=>yf (zzk x))=s1 at p1 g1 hb0;obtain⟨p2,g2⟩:=P_L2 (c0:=p.Tables) (c2:=p.Defs) (c3:=p.Zones) (c4:=p.Rules) (c5:=p.Caps) (c6:=p.Views) (c7:=p.Sun) (c8:=p.Hours) hf.t g1 nm.t b2 (λx hx=>(hf.ts x hx).2.1) (by simp only[la];omega);generalize hs2:(p.Tables.flatMap λx=>yf (J9 x))=s2 at p2 g2 hb0;obtain⟨p3,g3⟩:=P_L4 (c0:=p.Zones) (c2:=p.Defs) (c3:=p.Tables) (c4:=p.Rules) (c5:=p.Caps) (c6:=p.Views) (c7:=p.Sun) (c8:=p.Hours) hf.z g2 nm.z b3 (λx hx=>(hf.zs x hx).2) (by simp only[la];omega);generalize hs3:(p.Zones.flatMap λx=>yf (zel x))=s3 at p3 g3 hb0;obtain⟨p4,g4⟩:=P_L5 (c0:=p.Rules) (c2:=p.Defs) (c3:=p.Tables) (c4:=p.Zones) (c5:=p.Caps) (c6:=p.Views) (c7:=p.Sun) (c8:=p.Hours) hf.r g3 nm.r b4 hf.rs (by simp only[la];omega);generalize hs4:(p.Rules.flatMap λx=>yf (Vv x))=s4 at p4 g4 hb0;obtain⟨p5,g5⟩:=P_L6 (c0:=p.Caps) (c2:=p.Defs) (c3:=p.Tables) (c4:=p.Zones) (c5:=p.Rules) (c6:=p.Views) (c7:=p.Sun) (c8:=p.Hours) hf.c g4 nm.c b5 (λx hx=>(hf.cs x hx).2) (by simp only[la];omega);generalize hs5:(p.Caps.flatMap λx=>yf (zE0 x))=s5 at p5 g5 hb0;obtain⟨p6,g6⟩:=P_L7 (c0:=p.Views) (c2:=p.Defs) (c3:=p.Tables) (c4:=p.Zones) (c5:=p.Rules) (c6:=p.Caps) (c7:=p.Sun) (c8:=p.Hours) hf.v g5 nm.v b6 (λx hx=>(hf.vs x hx).2) (by simp only[la];omega);generalize hs6:(p.Views.flatMap λx=>yf (zem x))=s6 at p6 g6 hb0;obtain⟨p7,g7⟩:=P_L9 (l:=p.Sun) (c2:=p.Defs) (c3:=p.Tables) (c4:=p.Zones) (c5:=p.Rules) (c6:=p.Caps) (c7:=p.Views) (c8:=p.Hours) hf.s g6 b7 (by simp only[la];omega)
  generalize hs7:(bif p.Sun.isEmpty then[]else yf (zE1 p.Sun))=s7 at p7 g7 hb0;have p8:=zTm g7 hh (by simp only[la];omega)
  have e:s1++s2++s3++s4++s5++s6++s7++(if p.Hours=0 then[]else yf (QV p.Hours))=HR p:=by
   unfold HR;rw[hs1,hs2,hs3,hs4,hs5,hs6,hs7];simp only[asc]
  rw[e]at p8;rw[p1,bsQ,p2,bsQ,p3,bsQ,p4,bsQ,p5,bsQ,p6,bsQ];rw[<- Option.bind_assoc,p7,bsQ,p8,bsQ];unfold zri HB;rw[bsQ];by_cases hl:(HR p).length<=8000
  ·rw[if_pos hl,df ab];rfl
  ·rw[if_neg hl,dt ab];rfl
def zzb{ds:List Decl}{p:yX}{h:Bool}(hs:zs5 zs9 false ds)(hr:zlj zs9 false ds=(p,h)):zln (ds.flatMap zll)=.ok p:=by
 obtain⟨l,q,h1,h2⟩:=zXo (lc_lx (zwl (zlk hs)));unfold zln;rw[h2];dsimp only;have hlen:=congrArg List.length h1;rw[List.length_map]at hlen;have:=zF8 ds
 obtain⟨m,hm⟩:∃m,(l++[zkm q]).length+1=ds.length+(m+1):=⟨l.length+1-ds.length,by simp only[la,lc,List.length_nil];omega⟩
 rw[hm,zpz ds (m+1) zs9 false l [zkm q] hs h1 (show TWF [zkm q] from rfl),hr,zft,if_pos (show(hdT [zkm q]).Kind=3 from rfl)]
def ks_lt:∀k∈KS,k<8:=ae
def zZn:∀k<8,k∈KS.reverse++[]:=ae
def zGh{p:yX}(hp:KT p):zln (HR p)=.ok p:=by
 obtain⟨s1,s2⟩:=zp0 hp KS [] (λj hj=>⟨ks_lt j hj,λh=>by cases h⟩) ae;rw[zs8];exact zzb s1 (s2.trans (by rw[zTc zZn]))
def zLr(p:yX):yX.mk p.Defs p.Tables p.Zones p.Rules p.Caps p.Views p.Sun p.Hours=p:=rfl
def zLs{p:yX}(hp:LenP p):jM p=some true:=by
 unfold jM;rw[zLl,bsQ,zRx hp,bsQ]
 cases h1:zXp p with
 |false=>rfl
 |true =>
  have f1:=zSc h1;rw[Bool.not_true,cf,zwo f1.big,bsQ];unfold zwn
  cases hr:pd (KT p)with
  |false=>rw[cf,zbi f1.big,hr];rfl
  |true =>
   rw[ctQ];by_cases hl:(HR p).length<=8000
   ·rw[if_pos hl]
    dsimp only;have hR:=ju.1 hr;rw[show decide ((0:Int)=0)=true from rfl,Bool.not_true,cf,zTl hl,bsQ,zGh hR];simp only[zZi,zLr];rw[zwo f1.big,bsQ];unfold zwn;rw[hr,ctQ,if_pos hl,zbi f1.big,hr,zEa (zX7 f1),zso rfl];simp only[decide_true,ctQ,bsQ];rw[dt ab]
   ·rw[if_neg hl,zbi f1.big,hr];rfl
end Go.Proofs.YtffencjoddkghaaGreatDoor
namespace Go.Proofs.YtffencjoddkghaaGreatDoor
open Go Go.ChangeShapes Go.WideShapes Go.ChangeAt Go.RowKit Go.Deep Go.Joins Go.EV
def zLt{p:yX}(h:zC4 p):LenP p:=λr hr=>by
 have h1:=h.2.2.2.1.2 r hr;exact⟨h1.2.1.1,h1.2.2.1.1⟩
def zGi[QL][Fuel](x0:yX)(r:Bool)(h:jM x0=some r):FnA Tryz.prog 6 [.agg (Qd x0)] gl (.bool r) gl:=kmp aj (YU.2 x0 r h)
set_option maxRecDepth 100000 in
def Zf(os:Os)(started:os.Started)(H:Type)(enc:TypeId×Value->H):
  ReturnsInHanded {} Tryz.checked os 6 .any (λw args=>(Rows.syntaxBackSpec.pre enc Tryz.prog Tryz.f6 [] false w args/\laidMetH Tryz.prog zx0 w)/\sizedMet enc Tryz.prog Tryz.f6 (OpenSpec.ofChange Rows.syntaxBackSpec) false w args)
   (Rows.syntaxBackSpec.post enc Tryz.prog Tryz.f6 false true false false):=by
 refine zng (C:=Tryz.checked) (X:=λw _=>laidMetH Tryz.prog zx0 w) (λ_ _ _ hh h=>h.of_heap hh) own started aj Tryz.func6
  (ChangeSpec.witness_shaped (enc:=enc) (C:=Tryz.checked) (os:=os) (X:=λw _=>laidMetH Tryz.prog zx0 w) false (World.doorLaid Tryz.prog 400 os) #[.agg #[.slice none 0 0,.slice none 0 0,.slice none 0 0,.slice none 0 0,.slice none 0 0,.slice none 0 0,.slice none 0 0,.int .i64 0]] 8 rfl (World.shaped_of_RefB aj aj) aj aj aj (zI2 os _)) ?_
 intro W base args ds gs before hval0 hW hS hL;have hval:∀(j:Nat) t v,Tryz.f6.params[j]?=some t->args[j]?=some v->Value.okWide Tryz.prog W .any base t v:=hval0;have hW':=hW;obtain⟨p,q,hA0,hV,rfl,hfz,hnd⟩:=hW;have hA:DataW.TrodAll enc Tryz.prog W 0 (λ_=>true) true Tryz.f6.params.toList args.toList ds p:=hA0;rw[Tryz.params6]at hA hval;have hA1:=hA;obtain⟨v0,vs,d0,ds,p0,q0,ha,rfl,rfl,h0,hA⟩:=trodAll_cons hA;obtain⟨rfl,rfl,rfl⟩:=trodAll_nil hA;obtain⟨rfl,rfl⟩:=trodVars_none hV
 have ha:args=#[v0]:=by cases args;simp_all
 subst ha;obtain⟨x0,ox0,rx0⟩:=zRh (hval 0 31 v0 rfl rfl) h0;simp only[List.append_nil]at hW'
 let fu:Fuel:=⟨18446744073709551616,aq⟩
 refine Calls.mono (zCl (f:=6) (args:=[.agg (Qd x0)]) (vals:=[v0]) (zGi x0 true (zLs (zLt ox0))) hL hS ⟨_,_,rfl,rx0,rfl⟩) λe W' ⟨he,hb⟩=>?_
 subst he;refine⟨_,rfl,?_⟩;refine⟨_,_,_,[],_,[],hW',?_,zgp laidOut hb _ _ _ _ aj hA1 (λx hx=>by simpa using hW'.lt x (by simpa using hx)),rfl,hb.frame _,λh=>by cases h⟩;exact trodAll_mk1 (shut_bool Tryz.underlying4 true)
def zfv:Rows.SyntaxBackSaid :=
 OpenClaim.holds_of_wide 6 Tryz.f6 rfl rfl rfl rfl rfl rfl rfl ⟨rfl,rfl,rfl,rfl,rfl⟩ rfl rfl rfl rfl rfl aj Tryz.func6 Z7
  (of_decide_eq_true aj) (by unfold Func.isWrapper;first|(rw[if_pos ah];kernel_rfl)|(rw[if_neg ah];exact⟨rfl,rfl⟩))
  (λos started H enc _=>Zf os started H enc)
theorem syntaxBack_holds:Rows.SyntaxBackCardSaid :=
 Claim7.holds_tied_plain_at .later [] [.data, .data, .data, .listed, .data, .data] true (true, "808b1baaab06890156bf9594850e24f5baf562363ce7a6119ef76d48d3ae3efc") true
  zfv (λ_ h=>by cases h) aj (λ_ h=>by cases h) syntaxBack_row_tie rfl ⟨rfl,rfl⟩ aj rfl
  (λf fn hf hfn=>by
   obtain rfl : f = 6 := Option.some.inj ((show Tryz.prog.funcNamed "greenbelt/greenbeltlaw15.SyntaxBack" = some 6 by kernel_rfl).symm.trans hf) |>.symm
   obtain rfl:fn=Tryz.f6:=(Option.some.inj (Tryz.func6.symm.trans hfn)).symm
   exact⟨aj,λj t ht=>by
    rw[Tryz.params6]at ht
    have hm:t∈[31]:=by simpa using Array.mem_of_getElem? ht
    have hall:([31].all λu=>!Tryz.prog.wantsStandIn u)=true:=aj
    exact(show Tryz.prog.wantsStandIn t=false by simpa using List.all_eq_true.1 hall t hm)⟩)
  aj
#print axioms syntaxBack_holds
end Go.Proofs.YtffencjoddkghaaGreatDoor
