/- texts that the proof of SyntaxPrints reaches, part 10 -/
import Derived.Test.YtffencjoddkghaaGreatDoorKi
set_option linter.all false
set_option maxRecDepth 100000
namespace Go.Proofs.YtffencjoddkghaaGreatDoor
open Go Go.RowKit Go.Eng Go.EV Go.EQ
variable[Fuel]
abbrev RT20:=Int×Int×Int×List UInt8×List (List UInt8)×List (List UInt8)×Int×Int×Int×Bool×Int×Int×Int×List UInt8×List UInt8×List Expr×Int×Int×Int×Int×Int×Int×Int
abbrev fRl(v:zX)(i:Int):RT20:=(i,0,0,v.Name,v.Zones,v.Except,v.From,v.Until,v.Grace,v.Vary,v.Kind,v.Test.Op,v.Test.N,v.Test.S,v.Test.Key,v.Test.Args,v.zE.Side,v.zE.Base,v.zE.Num,v.zE.Den,v.Uses,v.Other,v.N)
abbrev mkR(s:List UInt8)(z x:List (List UInt8))(f u g:Int)(vy:Bool)(b:BD):zX:=zX.mk s z x f u g vy b.1 b.2.1 b.2.2.1 b.2.2.2.1 b.2.2.2.2.1 b.2.2.2.2.2
section
variable{l r:List Token}
theorem zE9{s:List UInt8}{z x:List (List UInt8)}{f u g:Int}{vy:Bool}(h:St l r):RF l (zin r) (JN l (zA l r) 0 0 (zX.mk s z x f u g vy 0 (Expr.mk 0 0 [] [] []) (zE.mk 0 0 0 0) 0 0 0)) (fun b i=>fRl (mkR s z x f u g vy b) i) peH:=by
 unfold JN zin;rw[zmz h,bsQ,h.step]
 cases hb1:isB AD r with
 |true =>
  simp only[if_true,ctQ,zmw];have s0:=h.tail (zl hb1)
  refine(yz s0 0 3).bind (fun y e he hy=>?_) fun p1 k1 _ s1=>?_
  ·obtain⟨y1,y2,y3,y4⟩:=y;cases hy;have he:y3≠0:=he
   simp only[zC he,zu he,bsQ];exact DD.some rfl
  refine(xK s1 Ke).bind (fun y e he hy=>?_) fun p2 k2 _ s2=>?_
  ·obtain⟨y1,y2,y3⟩:=y;cases hy;have he:y2≠0:=he
   simp only[zC he,zu he,bsQ];exact DD.some rfl
  refine(yz s2 0 4096).bind (fun y e he hy=>?_) fun p3 k3 _ s3=>?_
  ·obtain⟨y1,y2,y3,y4⟩:=y;cases hy;have he:y3≠0:=he
   simp only[zC he,zu he,bsQ];exact DD.some rfl
  refine(xK s3 oy).bind (fun y e he hy=>?_) fun p4 k4 _ s4=>?_
  ·obtain⟨y1,y2,y3⟩:=y;cases hy;have he:y2≠0:=he
   simp only[zC he,zu he,bsQ];exact DD.some rfl
  refine(yz s4 0 4096).bind (fun y e he hy=>?_) fun p5 k5 _ s5=>?_
  ·obtain⟨y1,y2,y3,y4⟩:=y;cases hy;have he:y3≠0:=he
   simp only[zC he,zu he,bsQ];exact DD.some rfl
  refine(yz s5 1 4096).bind (fun y e he hy=>?_) fun p6 k6 _ s6=>?_
  ·obtain⟨y1,y2,y3,y4⟩:=y;cases hy;have he:y3≠0:=he
   simp only[zC he,zu he,bsQ];exact DD.some rfl
  exact(xK s6 yi).bind (fun y e he hy=>by exact DD.some hy) fun p7 k7 _ s7=>⟨rfl,s7⟩
 |false =>
 simp only[if_neg (show ¬(false=true) by simp),cf];rw[zmz h,bsQ]
 cases hb2:isB Q8 r with
 |true =>
  simp only[if_true,ctQ,zAh];have s0:=h.tail (zl hb2)
  refine(zLo s0).bind (fun y e he hy=>?_) fun p1 k1 _ s1=>?_
  ·obtain⟨y1,y2,y3,y4⟩:=y;cases hy;have he:y3≠0:=he
   simp only[zC he,zu he,bsQ];exact DD.some rfl
  exact(xK s1 yi).bind (fun y e he hy=>by exact DD.some hy) fun p7 k7 _ s7=>⟨rfl,s7⟩
 |false =>
 simp only[if_neg (show ¬(false=true) by simp),cf];rw[zmz h,bsQ]
 cases hb3:isB AA r with
 |true =>
  simp only[if_true,ctQ,zmx,zm0,bsQ];have s0:=h.tail (zl hb3)
  refine(ziu s0 (by decide)).bind (fun y e he hy=>?_) fun p1 k1 _ s1=>?_
  ·obtain⟨y1,y2,y3,y4⟩:=y;cases hy;have he:y3≠0:=he
   simp only[zC he,VJ he,zu he,bsQ];exact DD.some rfl
  refine(ziu s1 (by decide)).bind (fun y e he hy=>?_) fun p2 k2 _ s2=>?_
  ·obtain⟨y1,y2,y3,y4⟩:=y;cases hy;have he:y3≠0:=he
   simp only[zC he,VJ he,zu he,bsQ];exact DD.some rfl
  refine(yz s2 0 1048576).bind (fun y e he hy=>?_) fun p3 k3 _ s3=>?_
  ·obtain⟨y1,y2,y3,y4⟩:=y;cases hy;have he:y3≠0:=he
   simp only[zC he,zu he,bsQ];exact DD.some rfl
  exact(xK s3 yi).bind (fun y e he hy=>by exact DD.some hy) fun p7 k7 _ s7=>⟨rfl,s7⟩
 |false =>
 simp only[if_neg (show ¬(false=true) by simp),cf,zAi]
 refine(zp0 h).bind (fun y e he hy=>?_) fun e k1 h1 s1=>?_
 ·obtain⟨y1,y2,y3,y4⟩:=y;cases hy;have he:y2≠0:=he
  simp only[qQ he,bsQ];exact DD.some rfl
 simp only[fX,xN]
 exact(zst s1 (K9 h h1)).bind (fun y e he hy=>by exact DD.some hy) fun u k2 _ s2=>⟨rfl,s2⟩
theorem zm1{α:Type}{t:List UInt8}{d:α}{f:List Token→Except EE (α×List Token)}{sf:Int→Int→Int→Option (α×Int×Int×Int)}(h:St l r)(hf:isB t r=true→RF l (f r.tail) (sf (zA l r.tail) 0 0) fv4 pe4):
  RF l (zpt t d f r) ((yr l (zA l r) 0 0 t).bind fun x3=>(bif x3 then(sf (w64 (zA l r+1)) 0 0).bind fun x4=>some (x4.2.1,x4.2.2.1,x4.2.2.2,x4.1)else some (zA l r,0,0,d))) fH peH:=by
 unfold zpt;rw[zmz h,bsQ,h.step]
 cases hb:isB t r with
 |true =>
  simp only[if_true,ctQ]
  have:=(hf hb).bind (g:=fun v r=>.ok (v,r)) (s2:=fun x4=>some (x4.2.1,x4.2.2.1,x4.2.2.2,x4.1)) (f2:=fH) (pe2:=peH) (fun y e he hy=>by exact DD.some hy) fun v r1 h1 hs=>⟨rfl,hs⟩
  rw[oc]at this;exact this
 |false =>
  simp only[if_neg (show ¬(false=true) by simp),cf];exact⟨rfl,h⟩
theorem zFa{L:List (List UInt8)}(h:St l r)(hL:L.length≤200):RF l (zio L r) (JO l (zA l r) 0 0 L) fRl peH:=by
 unfold JO zio
 refine(oe h (m:=201) (by omega) (by omega)).bind (fun y e he hy=>?_) fun s r1 h1 hs1=>?_
 ·obtain⟨y1,y2,y3,y4⟩:=y;cases hy;have he:y3≠0:=he
  simp only[kr he,zu he,qc he,bsQ,cf];exact DD.some rfl
 refine(zm1 (t:=zDt) (d:=[]) (f:=K5) (sf:=fun i E P=>A7 l i E P) hs1 fun hb=>zsu (hs1.tail (zl hb))).bind (fun y e he hy=>?_) fun z r2 h2 hs2=>?_
 ·obtain⟨y1,y2,y3,y4⟩:=y;cases hy;have he:y2≠0:=he
  simp only[kr he,zu he,qc he,bsQ,cf];exact DD.some rfl
 refine(zm1 (t:=qm) (d:=[]) (f:=K5) (sf:=fun i E P=>A7 l i E P) hs2 fun hb=>zsu (hs2.tail (zl hb))).bind (fun y e he hy=>?_) fun x r3 h3 hs3=>?_
 ·obtain⟨y1,y2,y3,y4⟩:=y;cases hy;have he:y2≠0:=he
  simp only[kr he,zu he,qc he,bsQ,cf];exact DD.some rfl
 refine(zm1 (t:=Q7) (d:=0) (f:=Ad 0 1073741824) (sf:=fun i E P=>zN l i E P 0 1073741824) hs3 fun hb=>yz (hs3.tail (zl hb)) 0 1073741824).bind (fun y e he hy=>?_) fun f r4 h4 hs4=>?_
 ·obtain⟨y1,y2,y3,y4⟩:=y;cases hy;have he:y2≠0:=he
  simp only[kr he,zu he,qc he,bsQ,cf];exact DD.some rfl
 have hf:=zss (by omega) h4;dsimp only[fH];rw[xv (n:=f+1) (by omega) (by omega)]
 refine(zm1 (t:=AF) (d:=0) (f:=Ad (f+1) 1073741824) (sf:=fun i E P=>zN l i E P (f+1) 1073741824) hs4 fun hb=>yz (hs4.tail (zl hb)) (f+1) 1073741824).bind (fun y e he hy=>?_) fun u r5 h5 hs5=>?_
 ·obtain⟨y1,y2,y3,y4⟩:=y;cases hy;have he:y2≠0:=he
  simp only[kr he,zu he,qc he,bsQ,cf];exact DD.some rfl
 refine(zm1 (t:=AB) (d:=0) (f:=Ad 0 1073741824) (sf:=fun i E P=>zN l i E P 0 1073741824) hs5 fun hb=>yz (hs5.tail (zl hb)) 0 1073741824).bind (fun y e he hy=>?_) fun g r6 h6 hs6=>?_
 ·obtain⟨y1,y2,y3,y4⟩:=y;cases hy;have he:y2≠0:=he
  simp only[kr he,zu he,qc he,bsQ,cf];exact DD.some rfl
 dsimp only[fH];obtain⟨hs7,e7⟩:=zAk (t:=kP) hs6
 have ev:((yr l (zA l r6) 0 0 kP).bind fun x18=>(bif x18 then some ((w64 (zA l r6+1)),true)else some (zA l r6,false)))=some (zA l (zE6 kP r6),isB kP r6):=by
  rw[zmz hs6,bsQ,hs6.step,← e7];cases isB kP r6<;>rfl
 rw[ev,bsQ]
 refine(xK hs7 uK).bind (fun y e he hy=>?_) fun w r8 h8 hs8=>?_
 ·obtain⟨y1,y2,y3⟩:=y;cases hy;have he:y2≠0:=he
  simp only[qc he,bsQ];exact DD.some rfl
 exact(zE9 hs8).bind (fun y e he hy=>by exact DD.some hy) fun b r9 h9 hs9=>⟨rfl,hs9⟩
end
abbrev PT11:=Int×Int×Int×List zf×Int×List Def×List Table×List yl×List zX×List Cap×List View
abbrev fPl(v:wB×Bool)(i:Int):PT11:=(i,0,0,v.1.Sun,v.1.Hours,v.1.Defs,v.1.Tables,v.1.Zones,v.1.Rules,v.1.Caps,v.1.Views)
def zRw(p:wB):Prop:=p.Defs.length≤60∧p.Tables.length≤60∧p.Zones.length≤60∧p.Rules.length≤200∧p.Caps.length≤30∧p.Views.length≤60
section
variable{l r:List Token}
theorem zT{a E P:Int}(h:E≠0){c1:List zf}{c2:Int}{c3:List Def}{c4:List Table}{c5:List yl}{c6:List zX}{c7:List Cap}{c8:List View}{b:Bool}{S:List zf}{H:Int}{D:List Def}{T:List Table}{Z:List yl}{R:List zX}{C:List Cap}{V:List View}(K:Nat):
  yx l c1 c2 c3 c4 c5 c6 c7 c8 (K+1) (a,E,P,b,S,H,D,T,Z,R,C,V)=some (a,E,P,S,H,D,T,Z,R,C,V):=by
 rw[yx,df h];rfl
theorem zu9{a E P:Int}{L:List (List UInt8)}(h:E≠0):oY l a E P L=some (a,E,P,[],0,[]):=by
 unfold oY;obtain⟨k,hk⟩:=ku;rw[hk];simp only[qb h,uH h,zu h,xy h,bsQ]
theorem zAs{a E P:Int}{L:List (List UInt8)}(h:E≠0):JP l a E P L=some (a,E,P,[],0,0,0,0,[zf.mk 0 0 0]):=by
 unfold JP;obtain⟨k,hk⟩:=ku;rw[hk];simp only[qb h,jf h,zu h,zC h,kv h,bsQ]
theorem zAt{a E P:Int}{L:List (List UInt8)}(h:E≠0):JO l a E P L=some (a,E,P,[],[],[],0,0,0,false,0,0,0,[],[],[],0,0,0,0,0,0,0):=by
 unfold JO;simp only[qb h,kr h,zu h,qc h,bsQ,cf]
theorem Hm(h:St l r)(hk:(hdT r).Kind≠3)(n most:Nat):RF l (YR n most r) (jE l (zA l r) 0 0 (n:Int) (most:Int)) fu3 pe3:=by
 unfold jE YR oa;rw[jg h,h.step];by_cases hn:n<most
 ·rw[dt hn,df (show ¬(n:Int)≥(most:Int) by omega)]
  exact⟨rfl,h.tail hk⟩
 ·rw[df hn,dt (show(n:Int)≥(most:Int) by omega)]
  exact RF.err (by decide) rfl
theorem zLq{c1:List zf}{c2:Int}{c3:List Def}{c4:List Table}{c5:List yl}{c6:List zX}{c7:List Cap}{c8:List View}:∀(n:Nat)(r:List Token)(p:wB)(h:Bool)(K:Nat),St l r→r.length<n→n<K→zRw p →
  RF l (YS n p h r) (yx l c1 c2 c3 c4 c5 c6 c7 c8 K (zA l r,0,0,h,p.Sun,p.Hours,p.Defs,p.Tables,p.Zones,p.Rules,p.Caps,p.Views)) fPl peH:=by
 intro n
 induction n with
 |zero=>intro r p h K hs hn;omega
 |succ n ih =>
  intro r p h K hs hn hK hp;obtain⟨p1,p2,p3,p4,p5,p6⟩:=id hp
  obtain⟨K,rfl⟩:∃k,K=k+1:=⟨K-1,by omega⟩
  obtain⟨K',hK'⟩:∃k,K=k+1:=⟨K-1,by omega⟩
  have nm:=zp1 (p:=p) (by omega) (by omega) (by omega) (by omega) (by omega) (by omega);have nm0:xu (wB.mk p.Defs p.Tables p.Zones p.Rules p.Caps p.Views p.Sun p.Hours) 0=some (p.Defs.map Def.Name):=nm 0 (by decide);have nm1:xu (wB.mk p.Defs p.Tables p.Zones p.Rules p.Caps p.Views p.Sun p.Hours) 1=some (p.Tables.map Table.Name):=nm 1 (by decide);have nm2:xu (wB.mk p.Defs p.Tables p.Zones p.Rules p.Caps p.Views p.Sun p.Hours) 2=some (p.Zones.map yl.Name):=nm 2 (by decide);have nm3:xu (wB.mk p.Defs p.Tables p.Zones p.Rules p.Caps p.Views p.Sun p.Hours) 3=some (p.Rules.map zX.Name):=nm 3 (by decide);have nm4:xu (wB.mk p.Defs p.Tables p.Zones p.Rules p.Caps p.Views p.Sun p.Hours) 4=some (p.Caps.map Cap.Name):=nm 4 (by decide);have nm5:xu (wB.mk p.Defs p.Tables p.Zones p.Rules p.Caps p.Views p.Sun p.Hours) 5=some (p.Views.map View.Name):=nm 5 (by decide);rw[YS,yx];simp only[hs.idx,zmz hs,bsQ,decide_true,ctQ];by_cases hk:(hdT r).Kind=3
  ·rw[if_pos hk,dt hk]
   exact⟨rfl,hs⟩
  ·rw[if_neg hk,df hk,Bool.not_false,ctQ]
   have hlt:=oF hs.wf;unfold zpy
   have go:∀{r2:List Token},zco r.tail r2→r2.length<n∧n<K:=fun h=>⟨by have:=h.le;omega,by omega⟩
   cases e1:isB ql r with
   |true =>
    simp only[if_true,ctQ,zy]
    refine(Hm hs hk p.Defs.length 60).bind (fun y e he hy=>?_) fun u r1 h1 hs1=>?_
    ·obtain⟨y1,y2,y3⟩:=y;cases hy;have he:y2≠0:=he
     simp only[nm0,qb he,zu he,J2 he,qQ he,bsQ];rw[zx (by simp only[la,lc,List.length_nil];omega),bsQ,hK',zT he];exact DD.some rfl
    obtain⟨rfl,hl⟩:=yR h1;dsimp only[fu3];rw[nm0,bsQ];unfold zHk;simp only[zy]
    refine(oe hs1 (m:=61) (by rw[List.length_map];omega) (by rw[List.length_map];omega)).bind (fun y e he hy=>?_) fun s r2 h2 hs2=>?_
    ·obtain⟨y1,y2,y3,y4⟩:=y;cases hy;have he:y3≠0:=he
     simp only[zu he,J2 he,qQ he,bsQ];rw[zx (by simp only[la,lc,List.length_nil];omega),bsQ,hK',zT he];exact DD.some rfl
    have q2:=yZ hs1.wf _ _ h2
    refine(xK hs2 Q9).bind (fun y e he hy=>?_) fun u r3 h3 hs3=>?_
    ·obtain⟨y1,y2,y3⟩:=y;cases hy;have he:y2≠0:=he
     simp only[J2 he,qQ he,bsQ];rw[zx (by simp only[la,lc,List.length_nil];omega),bsQ,hK',zT he];exact DD.some rfl
    have q3:=q2.trans (xJ hs2.wf _ _ h3)
    refine(zp0 hs3).bind (fun y e he hy=>?_) fun ex r4 h4 hs4=>?_
    ·obtain⟨y1,y2,y3,y4⟩:=y;cases hy;have he:y2≠0:=he
     simp only[qQ he,bsQ];rw[zx (by simp only[la,lc,List.length_nil];omega),bsQ,hK',zT he];exact DD.some rfl
    have q4:=q3.trans (zLe hs3.wf _ _ h4);simp only[fX,xN]
    refine(zst hs4 (K9 hs3 h4)).bind (fun y e he hy=>?_) fun u r5 h5 hs5=>?_
    ·obtain⟨y1,y2,y3⟩:=y;cases hy;have he:y2≠0:=he
     dsimp only;rw[zx (by simp only[la,lc,List.length_nil];omega),bsQ,hK',zT he];exact DD.some rfl
    have g:=go (q4.trans (Jn hs4.wf _ _ h5));dsimp only;rw[zx (by simp only[la,lc,List.length_nil];omega),bsQ];exact ih r5 { p with Defs:=p.Defs++[Def.mk s ex] } h K hs5 g.1 g.2 ⟨by simp;omega,p2,p3,p4,p5,p6⟩
   |false =>
   simp only[if_neg (show ¬(false=true) by simp),cf]
   cases e2:isB xG r with
   |true =>
    simp only[if_true,ctQ,zy]
    refine(Hm hs hk p.Tables.length 60).bind (fun y e he hy=>?_) fun u r1 h1 hs1=>?_
    ·obtain⟨y1,y2,y3⟩:=y;cases hy;have he:y2≠0:=he
     simp only[nm1,bsQ];simp only[zu9 he,bsQ];rw[zx (by simp only[la,lc,List.length_nil];omega),bsQ,hK',zT he];exact DD.some rfl
    obtain⟨rfl,hl⟩:=yR h1;dsimp only[fu3];rw[nm1,bsQ]
    refine(zAq hs1 (by rw[List.length_map];omega)).bind (fun y e he hy=>?_) fun d r2 h2 hs2=>?_
    ·obtain⟨y1,y2,y3,y4⟩:=y;cases hy;have he:y2≠0:=he
     dsimp only;rw[zx (by simp only[la,lc,List.length_nil];omega),bsQ,hK',zT he];exact DD.some rfl
    have g:=go (zir hs1.wf _ _ h2);dsimp only[fTab];rw[zx (by simp only[la,lc,List.length_nil];omega),bsQ];exact ih r2 { p with Tables:=p.Tables++[d] } h K hs2 g.1 g.2 ⟨p1,by simp;omega,p3,p4,p5,p6⟩
   |false =>
   simp only[if_neg (show ¬(false=true) by simp),cf]
   cases e3:isB wH r with
   |true =>
    simp only[if_true,ctQ,zy]
    have ho:isB xf r=false:=by
     rw[zpz hk]at e3 ⊢;rw[of_decide_eq_true e3];rfl
    simp only[ho,bsQ,ctQ]
    refine(Hm hs hk p.Zones.length 60).bind (fun y e he hy=>?_) fun u r1 h1 hs1=>?_
    ·obtain⟨y1,y2,y3⟩:=y;cases hy;have he:y2≠0:=he
     simp only[nm2,qb he,wX he,xT he,bsQ];rw[zx (by simp only[la,lc,List.length_nil];omega),bsQ,hK',zT he];exact DD.some rfl
    obtain⟨rfl,hl⟩:=yR h1;dsimp only[fu3];rw[nm2,bsQ];unfold zda;simp only[zy]
    refine(oe hs1 (m:=61) (by rw[List.length_map];omega) (by rw[List.length_map];omega)).bind (fun y e he hy=>?_) fun s r2 h2 hs2=>?_
    ·obtain⟨y1,y2,y3,y4⟩:=y;cases hy;have he:y3≠0:=he
     simp only[wX he,xT he,bsQ];rw[zx (by simp only[la,lc,List.length_nil];omega),bsQ,hK',zT he];exact DD.some rfl
    have q2:=yZ hs1.wf _ _ h2
    refine(W9 hs2).bind (fun y e he hy=>?_) fun c r3 h3 hs3=>?_
    ·obtain⟨y1,y2,y3,y4⟩:=y;cases hy;have he:y3≠0:=he
     simp only[xT he,bsQ];rw[zx (by simp only[la,lc,List.length_nil];omega),bsQ,hK',zT he];exact DD.some rfl
    have q3:=q2.trans (jP _ _ _ hs2.wf _ _ h3)
    refine(zix hs3).bind (fun y e he hy=>?_) fun u r4 h4 hs4=>?_
    ·obtain⟨y1,y2,y3⟩:=y;cases hy;have he:y2≠0:=he
     dsimp only;rw[zx (by simp only[la,lc,List.length_nil];omega),bsQ,hK',zT he];exact DD.some rfl
    have g:=go (q3.trans (Jn hs3.wf _ _ h4));dsimp only;rw[zx (by simp only[la,lc,List.length_nil];omega),bsQ];exact ih r4 { p with Zones:=p.Zones++[yl.mk s false c] } h K hs4 g.1 g.2 ⟨p1,p2,by simp;omega,p4,p5,p6⟩
   |false =>
   simp only[if_neg (show ¬(false=true) by simp),cf]
   cases e4:isB xf r with
   |true =>
    simp only[if_true,ctQ,zy];simp only[bsQ,ctQ]
    refine(Hm hs hk p.Zones.length 60).bind (fun y e he hy=>?_) fun u r1 h1 hs1=>?_
    ·obtain⟨y1,y2,y3⟩:=y;cases hy;have he:y2≠0:=he
     simp only[nm2,qb he,wX he,xT he,bsQ];rw[zx (by simp only[la,lc,List.length_nil];omega),bsQ,hK',zT he];exact DD.some rfl
    obtain⟨rfl,hl⟩:=yR h1;dsimp only[fu3];rw[nm2,bsQ];unfold zda;simp only[zy]
    refine(oe hs1 (m:=61) (by rw[List.length_map];omega) (by rw[List.length_map];omega)).bind (fun y e he hy=>?_) fun s r2 h2 hs2=>?_
    ·obtain⟨y1,y2,y3,y4⟩:=y;cases hy;have he:y3≠0:=he
     simp only[wX he,xT he,bsQ];rw[zx (by simp only[la,lc,List.length_nil];omega),bsQ,hK',zT he];exact DD.some rfl
    have q2:=yZ hs1.wf _ _ h2
    refine(W9 hs2).bind (fun y e he hy=>?_) fun c r3 h3 hs3=>?_
    ·obtain⟨y1,y2,y3,y4⟩:=y;cases hy;have he:y3≠0:=he
     simp only[xT he,bsQ];rw[zx (by simp only[la,lc,List.length_nil];omega),bsQ,hK',zT he];exact DD.some rfl
    have q3:=q2.trans (jP _ _ _ hs2.wf _ _ h3)
    refine(zix hs3).bind (fun y e he hy=>?_) fun u r4 h4 hs4=>?_
    ·obtain⟨y1,y2,y3⟩:=y;cases hy;have he:y2≠0:=he
     dsimp only;rw[zx (by simp only[la,lc,List.length_nil];omega),bsQ,hK',zT he];exact DD.some rfl
    have g:=go (q3.trans (Jn hs3.wf _ _ h4));dsimp only;rw[zx (by simp only[la,lc,List.length_nil];omega),bsQ];exact ih r4 { p with Zones:=p.Zones++[yl.mk s true c] } h K hs4 g.1 g.2 ⟨p1,p2,by simp;omega,p4,p5,p6⟩
   |false =>
   simp only[if_neg (show ¬(false=true) by simp),cf,bsQ]
   cases e5:isB Hs r with
   |true =>
    simp only[if_true,ctQ,zy]
    refine(Hm hs hk p.Rules.length 200).bind (fun y e he hy=>?_) fun u r1 h1 hs1=>?_
    ·obtain⟨y1,y2,y3⟩:=y;cases hy;have he:y2≠0:=he
     simp only[nm3,bsQ];simp only[zAt he,bsQ];rw[zx (by simp only[la,lc,List.length_nil];omega),bsQ,hK',zT he];exact DD.some rfl
    obtain⟨rfl,hl⟩:=yR h1;dsimp only[fu3];rw[nm3,bsQ]
    refine(zFa hs1 (by rw[List.length_map];omega)).bind (fun y e he hy=>?_) fun d r2 h2 hs2=>?_
    ·obtain⟨y1,y2,y3,y4⟩:=y;cases hy;have he:y2≠0:=he
     dsimp only;rw[zx (by simp only[la,lc,List.length_nil];omega),bsQ,hK',zT he];exact DD.some rfl
    have g:=go (zpx hs1.wf _ _ h2);simp only[fRl,xN];rw[zx (by simp only[la,lc,List.length_nil];omega),bsQ];exact ih r2 { p with Rules:=p.Rules++[d] } h K hs2 g.1 g.2 ⟨p1,p2,p3,by simp;omega,p5,p6⟩
   |false =>
   simp only[if_neg (show ¬(false=true) by simp),cf]
   cases e6:isB zag r with
   |true =>
    simp only[if_true,ctQ,zy];simp only[zu8,bsQ]
    refine(Hm hs hk p.Caps.length 30).bind (fun y e he hy=>?_) fun u r1 h1 hs1=>?_
    ·obtain⟨y1,y2,y3⟩:=y;cases hy;have he:y2≠0:=he
     simp only[nm4,qb he,VJ he,zC he,wX he,xT he,bsQ];rw[zx (by simp only[la,lc,List.length_nil];omega),bsQ,hK',zT he];exact DD.some rfl
    obtain⟨rfl,hl⟩:=yR h1;dsimp only[fu3];rw[nm4,bsQ];unfold zLb;simp only[zy]
    refine(oe hs1 (m:=31) (by rw[List.length_map];omega) (by rw[List.length_map];omega)).bind (fun y e he hy=>?_) fun s r2 h2 hs2=>?_
    ·obtain⟨y1,y2,y3,y4⟩:=y;cases hy;have he:y3≠0:=he
     simp only[VJ he,zC he,wX he,xT he,bsQ];rw[zx (by simp only[la,lc,List.length_nil];omega),bsQ,hK',zT he];exact DD.some rfl
    have q2:=yZ hs1.wf _ _ h2
    refine(ziu hs2 (by decide)).bind (fun y e he hy=>?_) fun k r3 h3 hs3=>?_
    ·obtain⟨y1,y2,y3,y4⟩:=y;cases hy;have he:y3≠0:=he
     simp only[zC he,wX he,xT he,bsQ];rw[zx (by simp only[la,lc,List.length_nil];omega),bsQ,hK',zT he];exact DD.some rfl
    have q3:=q2.trans (Ai hs2.wf _ _ h3)
    refine(yz hs3 0 1099511627776).bind (fun y e he hy=>?_) fun m r4 h4 hs4=>?_
    ·obtain⟨y1,y2,y3,y4⟩:=y;cases hy;have he:y3≠0:=he
     simp only[wX he,xT he,bsQ];rw[zx (by simp only[la,lc,List.length_nil];omega),bsQ,hK',zT he];exact DD.some rfl
    have q4:=q3.trans (wW hs3.wf _ _ h4)
    refine(W9 hs4).bind (fun y e he hy=>?_) fun c r5 h5 hs5=>?_
    ·obtain⟨y1,y2,y3,y4⟩:=y;cases hy;have he:y3≠0:=he
     simp only[xT he,bsQ];rw[zx (by simp only[la,lc,List.length_nil];omega),bsQ,hK',zT he];exact DD.some rfl
    have q5:=q4.trans (jP _ _ _ hs4.wf _ _ h5)
    refine(zix hs5).bind (fun y e he hy=>?_) fun u r6 h6 hs6=>?_
    ·obtain⟨y1,y2,y3⟩:=y;cases hy;have he:y2≠0:=he
     dsimp only;rw[zx (by simp only[la,lc,List.length_nil];omega),bsQ,hK',zT he];exact DD.some rfl
    have g:=go (q5.trans (Jn hs5.wf _ _ h6));dsimp only;rw[zx (by simp only[la,lc,List.length_nil];omega),bsQ];exact ih r6 { p with Caps:=p.Caps++[Cap.mk s k m c] } h K hs6 g.1 g.2 ⟨p1,p2,p3,p4,by simp;omega,p6⟩
   |false =>
   simp only[if_neg (show ¬(false=true) by simp),cf]
   cases e7:isB HQ r with
   |true =>
    simp only[if_true,ctQ,zy]
    refine(Hm hs hk p.Views.length 60).bind (fun y e he hy=>?_) fun u r1 h1 hs1=>?_
    ·obtain⟨y1,y2,y3⟩:=y;cases hy;have he:y2≠0:=he
     simp only[nm5,bsQ];simp only[zAs he,bsQ];rw[zx (by simp only[la,lc,List.length_nil];omega),bsQ,hK',zT he];exact DD.some rfl
    obtain⟨rfl,hl⟩:=yR h1;dsimp only[fu3];rw[nm5,bsQ]
    refine(zE8 hs1 (by rw[List.length_map];omega)).bind (fun y e he hy=>?_) fun d r2 h2 hs2=>?_
    ·obtain⟨y1,y2,y3,y4⟩:=y;cases hy;have he:y2≠0:=he
     dsimp only;rw[zx (by simp only[la,lc,List.length_nil];omega),bsQ,hK',zT he];exact DD.some rfl
    have g:=go (zpw hs1.wf _ _ h2);dsimp only[fVw];rw[zx (by simp only[la,lc,List.length_nil];omega),bsQ];exact ih r2 { p with Views:=p.Views++[d] } h K hs2 g.1 g.2 ⟨p1,p2,p3,p4,p5,by simp;omega⟩
   |false =>
   simp only[if_neg (show ¬(false=true) by simp),cf]
   cases e8:isB Wf r with
   |true =>
    simp only[if_true,ctQ,zy];have hst:=hs.tail hk;by_cases hz:p.Sun.length=0
    ·rw[dt hz,df (show ¬((p.Sun.length:Nat):Int)>0 by omega)]
     have hn0:p.Sun=[]:=List.length_eq_zero_iff.1 hz;simp only[cf,bsQ];have ht:=xK hs Wf;unfold vD at ht;rw[e8]at ht;rw[ht.1,bsQ]
     show RF l (thn (zA7 p.Sun r.tail) _) _ _ _
     rw[hn0]
     refine(zLp hst).bind (fun y e he hy=>?_) fun sn r2 h2 hs2=>?_
     ·obtain⟨y1,y2,y3,y4⟩:=y;cases hy;have he:y3≠0:=he
      dsimp only;rw[hK',zT he];exact DD.some rfl
     have g:=go (zpv hst.wf _ _ h2);exact ih r2 { p with Sun:=sn } h K hs2 g.1 g.2 ⟨p1,p2,p3,p4,p5,p6⟩
    ·rw[df hz,dt (show((p.Sun.length:Nat):Int)>0 by omega)]
     simp only[ctQ,jg hs,bsQ,zu (show(5:Int)≠0 by decide),zE7 (show(5:Int)≠0 by decide)];rw[hK',zT (show(5:Int)≠0 by decide)];exact RF.err (by decide) rfl
   |false =>
   simp only[if_neg (show ¬(false=true) by simp),cf]
   cases e9:isB jW r with
   |true =>
    simp only[if_true,ctQ,zy];have hst:=hs.tail hk
    cases h with
    |false =>
     simp only[cf,bsQ];have ht:=xK hs jW;unfold vD at ht;rw[e9]at ht;rw[ht.1,bsQ]
     show RF l (thn (Ad 0 24 r.tail) _) _ _ _
     refine(yz hst 0 24).bind (fun y e he hy=>?_) fun m r2 h2 hs2=>?_
     ·obtain⟨y1,y2,y3,y4⟩:=y;cases hy;have he:y3≠0:=he
      simp only[zu he,bsQ];rw[hK',zT he];exact DD.some rfl
     have q2:=wW hst.wf _ _ h2
     refine(xK hs2 yi).bind (fun y e he hy=>?_) fun u r3 h3 hs3=>?_
     ·obtain⟨y1,y2,y3⟩:=y;cases hy;have he:y2≠0:=he
      dsimp only;rw[hK',zT he];exact DD.some rfl
     have g:=go (q2.trans (xJ hs2.wf _ _ h3));exact ih r3 { p with Hours:=m } true K hs3 g.1 g.2 ⟨p1,p2,p3,p4,p5,p6⟩
    |true =>
     simp only[ctQ,jg hs,bsQ,zu (show(5:Int)≠0 by decide),zC (show(5:Int)≠0 by decide)];rw[hK',zT (show(5:Int)≠0 by decide)];exact RF.err (by decide) rfl
   |false =>
   simp only[if_neg (show ¬(false=true) by simp),cf];rw[jg hs,bsQ,hK',zT (show(14:Int)≠0 by decide)];exact RF.err (by decide) rfl
end
def OT{α:Type}(x:Except EE (α×List Token))(P:α→Prop):Prop:=∀a r,x=.ok (a,r)→P a
section
variable{α β:Type}{r:List Token}
theorem OT.thn{x:Except EE (α×List Token)}{g:α→List Token→Except EE (β×List Token)}{P:β→Prop}(h:∀a r,x=.ok (a,r)→OT (g a r) P):OT (thn x g) P:=fun b r2 e=>by
 obtain⟨a,r1,h1,h2⟩:=yd e;exact h a r1 h1 b r2 h2
theorem OT.ret{a:α}{P:α→Prop}(h:P a):OT (.ok (a,r)) P:=fun _ _ e=>by cases e;exact h
theorem OT.err{e:EE}{P:α→Prop}:OT (.error e:Except EE (α×List Token)) P:=fun _ _ e=>by cases e
theorem OT.ite{c:Prop}[Decidable c]{x y:Except EE (α×List Token)}{P:α→Prop}(h1:c→OT x P)(h2:¬c→OT y P):OT (if c then x else y) P:=by
 split
 ·rename_i h;exact h1 h
 ·rename_i h;exact h2 h
theorem OT.imp{x:Except EE (α×List Token)}{P Q:α→Prop}(h:OT x P)(k:∀a,P a→Q a):OT x Q:=fun a r e=>k a (h a r e)
theorem zcj:∀(n:Nat)(acc:List zG)(r:List Token),OT (kq n acc r) fun v=>v.length≤acc.length+n
 |0,_,_=>OT.err
 |n+1,acc,r=>by
  rw[kq]
  exact OT.thn fun _ _ _=>OT.thn fun _ _ _=>OT.ite (fun _=>(zcj n _ _).imp fun v h=>by simp at h;omega) fun _=>OT.ret (by simp)
theorem zAu:∀(n:Nat)(acc:List Entry)(r:List Token),OT (zc9 n acc r) fun v=>v.length≤acc.length+n
 |0,_,_=>OT.err
 |n+1,acc,r=>by
  rw[zc9]
  exact OT.ite (fun _=>OT.thn fun _ _ _=>OT.thn fun _ _ _=>OT.thn fun _ _ _=>(zAu n _ _).imp fun v h=>by simp at h;omega) fun _=>OT.ret (by omega)
theorem zHp:∀(n:Nat)(acc:List zf)(r:List Token),OT (zA8 n acc r) fun v=>v.length≤acc.length+n
 |0,_,_=>OT.err
 |n+1,acc,r=>by
  rw[zA8]
  exact OT.ite (fun _=>OT.thn fun _ _ _=>OT.thn fun _ _ _=>(zHp n _ _).imp fun v h=>by simp at h;omega) fun _=>OT.ret (by omega)
theorem zAv:∀(n:Nat)(acc:List (List UInt8))(r:List Token),OT (YQ n acc r) fun v=>v.length≤acc.length+n
 |0,_,_=>OT.err
 |n+1,acc,r=>by
  rw[YQ]
  exact OT.ite (fun _=>OT.thn fun _ _ _=>(zAv n _ _).imp fun v h=>by simp at h;omega) fun _=>OT.ret (by omega)
theorem zHq:∀(n:Nat)(acc:List zf)(r:List Token),OT (zA6 n acc r) fun v=>v.length≤acc.length+n
 |0,_,_=>OT.err
 |n+1,acc,r=>by
  rw[zA6]
  exact OT.thn fun _ _ _=>OT.thn fun _ _ _=>OT.thn fun _ _ _=>OT.thn fun _ _ _=>OT.thn fun _ _ _=>OT.ite (fun _=>(zHq n _ _).imp fun v h=>by simp at h;omega) fun _=>OT.ret (by simp)
structure Sh(r:List Token):Prop where
 wf:TWF r
 le:r.length≤1000000
theorem Sh.to{r r2:List Token}(h:Sh r)(k:zco r r2):Sh r2:=⟨k.wf,Nat.le_trans k.le h.le⟩
theorem Sh.tail{r:List Token}(h:Sh r)(k:(hdT r).Kind≠3):Sh r.tail:=h.to (zR h.wf k).e
theorem zLr(h:Sh r):OT (DE 0 r) uG:=fun e r2 k=>by
 have:=zAf (by omega) h.wf k;have:=h.le;unfold uG;omega
theorem zLs(h:Sh r):OT (K5 r) fun v=>v.length<4611686018427387904:=by
 unfold K5
 exact OT.thn fun _ r1 h1=>(zAv _ _ _).imp fun v k=>by
  have:=(h.to (zpu h.wf _ _ h1)).le;simp at k;omega
theorem zRb{L:List (List UInt8)}(h:Sh r):OT (zHk L r) fun d=>uG d.Body:=by
 unfold zHk
 exact OT.thn fun s r1 h1=>OT.thn fun _ r2 h2=>OT.thn fun e r3 h3=>OT.thn fun _ r4 h4=>by
  have q1:=h.to (yZ h.wf _ _ h1);have q2:=q1.to (xJ q1.wf _ _ h2);exact OT.ret (zLr q2 _ _ h3)
theorem zFb{L:List (List UInt8)}(h:Sh r):OT (VE L r) fun d=>d.Rows.length<4611686018427387904:=by
 unfold VE
 exact OT.thn fun s r1 h1=>OT.thn fun rows r2 h2=>OT.thn fun _ _ _=>OT.thn fun _ _ _=>OT.thn fun _ _ _=>by
  have q1:=(h.to (yZ h.wf _ _ h1)).le;have:=zAu _ _ _ _ _ h2;exact OT.ret (by simp at this ⊢;omega)
theorem zAw{L:List (List UInt8)}{o:Bool}(h:Sh r):OT (zda L o r) fun d=>d.Corners.length<4611686018427387904:=by
 unfold zda
 exact OT.thn fun s r1 h1=>OT.thn fun rows r2 h2=>OT.thn fun _ _ _=>by
  have q1:=(h.to (yZ h.wf _ _ h1)).le;have:=zcj _ _ _ _ _ h2;exact OT.ret (by simp at this ⊢;omega)
theorem zRc{L:List (List UInt8)}(h:Sh r):OT (zLb L r) fun d=>d.Corners.length<4611686018427387904:=by
 unfold zLb
 exact OT.thn fun s r1 h1=>OT.thn fun _ r2 h2=>OT.thn fun _ r3 h3=>OT.thn fun rows r4 h4=>OT.thn fun _ _ _=>by
  have q1:=h.to (yZ h.wf _ _ h1);have q2:=q1.to (Ai q1.wf _ _ h2);have q3:=(q2.to (wW q2.wf _ _ h3)).le;have:=zcj _ _ _ _ _ h4;exact OT.ret (by simp at this ⊢;omega)
theorem zLt{L:List (List UInt8)}(h:Sh r):OT (zim L r) fun d=>d.Targets.length<4611686018427387904:=by
 unfold zim
 exact OT.thn fun s r1 h1=>OT.thn fun _ r2 h2=>OT.thn fun _ r3 h3=>OT.thn fun _ r4 h4=>OT.thn fun _ r5 h5=>OT.thn fun _ r6 h6=>OT.thn fun tl r7 h7=>OT.thn fun _ _ _=>by
  have q1:=h.to (yZ h.wf _ _ h1);have q2:=q1.to (VG q1.wf _ _ h2);have q3:=q2.to (xJ q2.wf _ _ h3);have q4:=q3.to (wW q3.wf _ _ h4);have q5:=q4.to (xJ q4.wf _ _ h5);have q6:=(q5.to (VG q5.wf _ _ h6)).le;have:=zHp _ _ _ _ _ h7;exact OT.ret (by simp at this ⊢;omega)
theorem VK:uG ex0:=by unfold uG ex0;rw[JY,K7];omega
theorem zLu(h:Sh r):OT (zin r) fun b=>uG b.2.1:=by
 unfold zin
 refine OT.ite (fun _=>?_) fun _=>OT.ite (fun _=>?_) fun _=>OT.ite (fun _=>?_) fun _=>?_
 ·unfold zmw
  exact OT.thn fun _ _ _=>OT.thn fun _ _ _=>OT.thn fun _ _ _=>OT.thn fun _ _ _=>OT.thn fun _ _ _=>OT.thn fun _ _ _=>OT.thn fun _ _ _=>OT.ret VK
 ·unfold zAh
  exact OT.thn fun _ _ _=>OT.thn fun _ _ _=>OT.ret VK
 ·unfold zmx
  exact OT.thn fun _ _ _=>OT.thn fun _ _ _=>OT.thn fun _ _ _=>OT.thn fun _ _ _=>OT.ret VK
 ·unfold zAi
  exact OT.thn fun e r1 h1=>OT.thn fun _ _ _=>OT.ret (zLr h _ _ h1)
theorem zHr{t:List UInt8}(h:Sh r):OT (zpt t [] K5 r) fun v=>v.length<4611686018427387904:=by
 unfold zpt
 exact OT.ite (fun hb=>zLs (h.tail (zl hb))) fun _=>OT.ret (by simp)
theorem zLv{L:List (List UInt8)}(h:Sh r):OT (zio L r) fun d=>d.Zones.length<4611686018427387904∧d.Except.length<4611686018427387904∧uG d.Test:=by
 unfold zio
 exact OT.thn fun s r1 h1=>OT.thn fun z r2 h2=>OT.thn fun x r3 h3=>OT.thn fun f r4 h4=>OT.thn fun u r5 h5=>OT.thn fun g r6 h6=>OT.thn fun _ r7 h7=>OT.thn fun b r8 h8=>by
  have q1:=h.to (yZ h.wf _ _ h1);have q2:=q1.to (Kq q1.wf (fun r h=>ziq h) _ _ h2);have q3:=q2.to (Kq q2.wf (fun r h=>ziq h) _ _ h3);have q4:=q3.to (Kq q3.wf (fun r h=>wW h) _ _ h4);have q5:=q4.to (Kq q4.wf (fun r h=>wW h) _ _ h5);have q6:=q5.to (Kq q5.wf (fun r h=>wW h) _ _ h6);have q6':=q6.to (zis (t:=kP) q6.wf);have q7:=q6'.to (xJ q6'.wf _ _ h7);exact OT.ret ⟨zHr q1 _ _ h2,zHr q2 _ _ h3,zLu q7 _ _ h8⟩
theorem zLw(h:Sh r):OT (zA7 [] r) fun v=>v.length<4611686018427387904:=by
 unfold zA7
 exact OT.thn fun s r1 h1=>OT.thn fun _ _ _=>by
  have:=zHq _ _ _ _ _ h1;have:=h.le;exact OT.ret (by simp at *;omega)
def zRx(p:wB):Prop:=zRw p∧zMm p
theorem zFc{p:wB}{h:Bool}(hs:Sh r)(hk:(hdT r).Kind≠3)(hp:zRx p):OT (zpy p h r) fun v=>zRx v.1:=by
 obtain⟨⟨m1,m2,m3,m4,m5,m6⟩,⟨a1,d1⟩,⟨a2,d2⟩,⟨a3,d3⟩,⟨a4,d4⟩,⟨a5,d5⟩,⟨a6,d6⟩,a7⟩:=hp;have ht:=hs.tail hk
 have all:∀{γ:Type}{Q:γ→Prop}{l:List γ}{x:γ},(∀d∈l,Q d)→Q x→∀d∈l++[x],Q d:=fun h1 h2 d hd=>by
  rcases List.mem_append.1 hd with hd|hd
  ·exact h1 d hd
  ·rw[msQ.1 hd];exact h2
 unfold zpy
 refine OT.ite (fun _=>OT.thn fun _ r1 h1=>OT.thn fun d r2 h2=>?_) fun _=>OT.ite (fun _=>OT.thn fun _ r1 h1=>OT.thn fun d r2 h2=>?_) fun _=>OT.ite (fun _=>OT.thn fun _ r1 h1=>OT.thn fun d r2 h2=>?_) fun _=>OT.ite (fun _=>OT.thn fun _ r1 h1=>OT.thn fun d r2 h2=>?_) fun _=>OT.ite (fun _=>OT.thn fun _ r1 h1=>OT.thn fun d r2 h2=>?_) fun _=>OT.ite (fun _=>OT.thn fun _ r1 h1=>OT.thn fun d r2 h2=>?_) fun _=>OT.ite (fun _=>OT.thn fun _ r1 h1=>OT.thn fun d r2 h2=>?_) fun _=>OT.ite (fun _=>OT.thn fun _ r1 h1=>OT.thn fun d r2 h2=>?_) fun _=>OT.ite (fun _=>OT.thn fun _ r1 h1=>OT.thn fun d r2 h2=>OT.thn fun _ r3 h3=>?_) fun _=>OT.err
 ·obtain⟨rfl,hl⟩:=yR h1
  exact OT.ret ⟨⟨by simp;omega,m2,m3,m4,m5,m6⟩,⟨by simp;omega,all d1 (zRb ht _ _ h2)⟩,⟨a2,d2⟩,⟨a3,d3⟩,⟨a4,d4⟩,⟨a5,d5⟩,⟨a6,d6⟩,a7⟩
 ·obtain⟨rfl,hl⟩:=yR h1
  exact OT.ret ⟨⟨m1,by simp;omega,m3,m4,m5,m6⟩,⟨a1,d1⟩,⟨by simp;omega,all d2 (zFb ht _ _ h2)⟩,⟨a3,d3⟩,⟨a4,d4⟩,⟨a5,d5⟩,⟨a6,d6⟩,a7⟩
 ·obtain⟨rfl,hl⟩:=yR h1
  exact OT.ret ⟨⟨m1,m2,by simp;omega,m4,m5,m6⟩,⟨a1,d1⟩,⟨a2,d2⟩,⟨by simp;omega,all d3 (zAw ht _ _ h2)⟩,⟨a4,d4⟩,⟨a5,d5⟩,⟨a6,d6⟩,a7⟩
 ·obtain⟨rfl,hl⟩:=yR h1
  exact OT.ret ⟨⟨m1,m2,by simp;omega,m4,m5,m6⟩,⟨a1,d1⟩,⟨a2,d2⟩,⟨by simp;omega,all d3 (zAw ht _ _ h2)⟩,⟨a4,d4⟩,⟨a5,d5⟩,⟨a6,d6⟩,a7⟩
 ·obtain⟨rfl,hl⟩:=yR h1
  exact OT.ret ⟨⟨m1,m2,m3,by simp;omega,m5,m6⟩,⟨a1,d1⟩,⟨a2,d2⟩,⟨a3,d3⟩,⟨by simp;omega,all d4 (zLv ht _ _ h2)⟩,⟨a5,d5⟩,⟨a6,d6⟩,a7⟩
 ·obtain⟨rfl,hl⟩:=yR h1
  exact OT.ret ⟨⟨m1,m2,m3,m4,by simp;omega,m6⟩,⟨a1,d1⟩,⟨a2,d2⟩,⟨a3,d3⟩,⟨a4,d4⟩,⟨by simp;omega,all d5 (zRc ht _ _ h2)⟩,⟨a6,d6⟩,a7⟩
 ·obtain⟨rfl,hl⟩:=yR h1
  exact OT.ret ⟨⟨m1,m2,m3,m4,m5,by simp;omega⟩,⟨a1,d1⟩,⟨a2,d2⟩,⟨a3,d3⟩,⟨a4,d4⟩,⟨a5,d5⟩,⟨by simp;omega,all d6 (zLt ht _ _ h2)⟩,a7⟩
 ·obtain⟨rfl,hl⟩:=vt h1
  rw[List.length_eq_zero_iff.1 (of_decide_eq_true hl)]at h2;exact OT.ret ⟨⟨m1,m2,m3,m4,m5,m6⟩,⟨a1,d1⟩,⟨a2,d2⟩,⟨a3,d3⟩,⟨a4,d4⟩,⟨a5,d5⟩,⟨a6,d6⟩,zLw ht _ _ h2⟩
 ·exact OT.ret ⟨⟨m1,m2,m3,m4,m5,m6⟩,⟨a1,d1⟩,⟨a2,d2⟩,⟨a3,d3⟩,⟨a4,d4⟩,⟨a5,d5⟩,⟨a6,d6⟩,a7⟩
theorem zLx{p:wB}{h:Bool}(hs:TWF r)(hk:(hdT r).Kind≠3):MV r (zpy p h r):=by
 have ht:=hs.tail hk
 have room:∀{n most:Nat},MV r (YR n most r):=fun{n most}=>by
  unfold YR
  exact(VF hs).thn fun _ r1 h1 q1=>by obtain⟨rfl,_⟩:=vt h1;exact MV.tail hs hk (MV.ret ht)
 unfold zpy
 refine MV.ite (fun _=>room.thn fun _ r1 h1 q1=>(zHo q1.wf).thn fun d r2 h2 q2=>MV.ret q2.wf) fun _=>MV.ite (fun _=>room.thn fun _ r1 h1 q1=>(zir q1.wf).thn fun d r2 h2 q2=>MV.ret q2.wf) fun _=>MV.ite (fun _=>room.thn fun _ r1 h1 q1=>(zAn q1.wf).thn fun d r2 h2 q2=>MV.ret q2.wf) fun _=>MV.ite (fun _=>room.thn fun _ r1 h1 q1=>(zAn q1.wf).thn fun d r2 h2 q2=>MV.ret q2.wf) fun _=>MV.ite (fun _=>room.thn fun _ r1 h1 q1=>(zpx q1.wf).thn fun d r2 h2 q2=>MV.ret q2.wf) fun _=>MV.ite (fun _=>room.thn fun _ r1 h1 q1=>(zQ4 q1.wf).thn fun d r2 h2 q2=>MV.ret q2.wf) fun _=>MV.ite (fun _=>room.thn fun _ r1 h1 q1=>(zpw q1.wf).thn fun d r2 h2 q2=>MV.ret q2.wf) fun _=>MV.ite (fun _=>(VF hs).thn fun _ r1 h1 q1=>?_) fun _=>MV.ite (fun _=>(VF hs).thn fun _ r1 h1 q1=>?_) fun _=>MV.err
 ·obtain⟨rfl,_⟩:=vt h1
  exact MV.tail hs hk ((zpv ht).thn fun d r2 h2 q2=>MV.ret q2.wf)
 ·obtain⟨rfl,_⟩:=vt h1
  exact MV.tail hs hk ((wW ht).thn fun d r2 h2 q2=>(xJ q2.wf).thn fun _ r3 h3 q3=>MV.ret q3.wf)
theorem zsv:∀(n:Nat)(r:List Token)(p:wB)(h:Bool),Sh r→zRx p→OT (YS n p h r) fun v=>zRx v.1
 |0,_,_,_,_,_=>OT.err
 |n+1,r,p,h,hs,hp=>by
  rw[YS]
  exact OT.ite (fun _=>OT.ret hp) fun hk=>OT.thn fun x r1 h1=>zsv n r1 x.1 x.2 (hs.to (zLx hs.wf hk _ _ h1)) (zFc hs hk hp _ _ h1)
end
theorem zLy(k:Nat)(h):(@A4 ⟨k+500,h⟩)=some true:=by kernel_rfl
theorem zFd[i:Fuel]:A4=some true:=by
 obtain⟨n,h⟩:=i
 obtain⟨k,rfl⟩:∃k,n=k+500:=⟨n-500,by omega⟩
 exact zLy k h
theorem VL:∀(n p:Nat)(s:List UInt8)(q:Nat)(e:Int),Zo n p s=.error (q,e)→e≠0
 |0,_,_,_,_,h=>by cases h
 |n+1,p,s,q,e,h=>by
  rw[Zo]at h;split at h
  ·cases h
  ·split at h
   ·rename_i c r hd e' ht
    cases h;exact zid ht
   ·split at h
    ·rename_i hl
     cases h;exact VL n _ _ _ _ hl
    ·cases h
def VM:wB:=wB.mk [] [] [] [] [] [] [] 0
noncomputable def uI(s:List UInt8):Except EE wB:=match zzq s with
 |.error (p,e)=>.error ((p:Int),e)
 |.ok l=>match YS (l.length+1) VM false l with
  |.ok (v,_)=>.ok v.1
  |.error e=>.error e
def HB:Except EE wB→Int×Int×List zf×Int×List Def×List Table×List yl×List zX×List Cap×List View
 |.ok p=>(0,0,p.Sun,p.Hours,p.Defs,p.Tables,p.Zones,p.Rules,p.Caps,p.Views)
 |.error e=>(e.1,e.2,[],0,[],[],[],[],[],[])
def zva(l:List Token):Except EE (Expr×List Token):=thn (DE 0 l) fun e r=>thn (oa (decide ((hdT r).Kind=3)) 14 r) fun _ r=>thn (oa (decide (JX e≤12)) 6 r) fun _ r=>.ok (e,r)
def Hn(s:List UInt8):Except EE Expr:=match zzq s with
 |.error (p,e)=>.error ((p:Int),e)
 |.ok l=>match zva l with
  |.ok (e,_)=>.ok e
  |.error e=>.error e
def Ya:Except EE Expr→Int×Int×Int×Int×List UInt8×List UInt8×List Expr
 |.ok e=>(0,0,e.Op,e.N,e.S,e.Key,e.Args)
 |.error e=>(e.1,e.2,0,0,[],[],[])
theorem max0:zRw VM:=by unfold zRw VM;simp
theorem fit0:zMm VM:=by unfold zMm VM;simp
theorem zHs{l:List Token}(hs:St l l)(hp:zA l l=0):RF l (YS (l.length+1) VM false l) (Zd l 0 0 0) fPl peH:=by
 unfold Zd;have h1:=hs.len;have h2:=Ag
 have:=(zLq (c1:=[]) (c2:=0) (c3:=[]) (c4:=[]) (c5:=[]) (c6:=[]) (c7:=[]) (c8:=[]) (l.length+1) l VM false KK hs (Nat.lt_succ_self _) (by omega) max0).bind (g:=fun v r=>.ok (v,r)) (s2:=fun x1=>some (x1.1,x1.2.1,x1.2.2.1,x1.2.2.2.1,x1.2.2.2.2.1,x1.2.2.2.2.2.1,x1.2.2.2.2.2.2.1,x1.2.2.2.2.2.2.2.1,x1.2.2.2.2.2.2.2.2.1,x1.2.2.2.2.2.2.2.2.2.1,x1.2.2.2.2.2.2.2.2.2.2)) (f2:=fPl) (pe2:=peH) (fun y e he hy=>by exact DD.some hy) fun v r1 h1 hs=>⟨rfl,hs⟩
 rw[oc,hp]at this;exact this
theorem zvb{s:List UInt8}(h:s.length≤8000):Vm s=some (HB (uI s)):=by
 unfold Vm uI;rw[zQk h,bsQ]
 cases hx:zzq s with
 |error y =>
  obtain⟨p,e⟩:=y;have he:=VL _ _ _ _ _ hx;rw[show zzr (.error (p,e))=([],(p:Int),e) from rfl];dsimp only;rw[df he];rfl
 |ok l =>
  obtain⟨hs,hp⟩:=W1 h hx;have hr:=zHs hs hp;rw[show zzr (.ok l)=(l,0,0) from rfl];dsimp only;rw[show decide ((0:Int)=0)=true from rfl,Bool.not_true,cf]
  cases hy:YS (l.length+1) VM false l with
  |ok v =>
   obtain⟨v,r⟩:=v;rw[hy]at hr;rw[hr.1];rfl
  |error e =>
   rw[hy]at hr;obtain⟨he,y,hy1,hy2⟩:=hr;obtain⟨y1,y2,y3,y4⟩:=y;cases hy2;have he:y2≠0:=he;rw[hy1,bsQ];dsimp only;rw[df he];rfl
theorem zFe{l:List Token}{e:EE}(hs:St l l)(hp:zA l l=0)(h:YS (l.length+1) VM false l=.error e):e.2≠0:=by
 have hr:=zHs hs hp;rw[h]at hr;exact hr.1
theorem zFf{s:List UInt8}(h:s.length≤8000):oA s=some (HB (uI s)):=by
 unfold oA uI;rw[zQj h,bsQ]
 cases hx:zzq s with
 |error y =>
  obtain⟨p,e⟩:=y;have he:=VL _ _ _ _ _ hx;rw[show zzr (.error (p,e))=([],(p:Int),e) from rfl];dsimp only;rw[df he];rfl
 |ok l =>
  obtain⟨hs,hp⟩:=W1 h hx;rw[show zzr (.ok l)=(l,0,0) from rfl];dsimp only;rw[show decide ((0:Int)=0)=true from rfl,Bool.not_true,cf];have hL:=zQ5 (b:=BB.mk l 0 [] [] [] [] [] [] [] 0 [] [] [] [] [] [] false) (l.length+1) l VM false [] [] [] [] [] [] KK hs (Nat.lt_succ_self _) (zce hs) (.inl ⟨rfl,rfl⟩) (.inl ⟨rfl,rfl⟩) (.inl ⟨rfl,rfl⟩) (.inl ⟨rfl,rfl⟩) (.inl ⟨rfl,rfl⟩) (.inl ⟨rfl,rfl⟩)
  have hq:qT l VM false l [] [] [] [] [] []=(0,0,false,[],[],[],[],[],[],[],[],[],[],[],[],[]):=by unfold qT;rw[hp];rfl
  rw[show(BB.mk l 0 [] [] [] [] [] [] [] 0 [] [] [] [] [] [] false).l=l from rfl,hq]at hL;unfold H5 AW zhc zhf
  cases hy:YS (l.length+1) VM false l with
  |ok v =>
   obtain⟨⟨v,hh⟩,r⟩:=v;rw[hy]at hL;obtain⟨⟨y,h1,h2,q1,q2,q3,q4,q5,q6,q7,q8,q9,q10⟩,_⟩:=hL;dsimp only;rw[h1];obtain⟨y1,y2,y3,y4,y5,y6,y7,y8,y9,y10,y11⟩:=y;dsimp only at q1 q2 q3 q4 q5 q6 q7 q8 q9 q10;subst q2 q4 q5 q6 q7 q8 q9 q10;rfl
  |error e =>
   have he:=zFe hs hp hy;rw[hy]at hL;obtain⟨h1,h2⟩:=hL;dsimp only;rw[h1,h2]
   show(bif (!(decide (e.2=0)))then _ else none)=_
   rw[df he];rfl
-- expressions
theorem zLz{l:List Token}(hs:St l l)(hp:zA l l=0):yM KK l 0 0 0 0=yM KK l (zA l l) 0 0 0:=by rw[hp]
theorem Kr{s:List UInt8}(h:s.length≤8000):qu s=some (Ya (Hn s))∧∀e,Hn s=.error e→e.2≠0:=by
 unfold qu Hn;rw[zQk h,bsQ]
 cases hx:zzq s with
 |error y =>
  obtain⟨p,e⟩:=y;have he:=VL _ _ _ _ _ hx;rw[show zzr (.error (p,e))=([],(p:Int),e) from rfl];dsimp only;rw[df he];exact⟨rfl,fun e' h=>by cases h;exact he⟩
 |ok l =>
  obtain⟨hs,hp⟩:=W1 h hx;rw[show zzr (.ok l)=(l,0,0) from rfl];dsimp only;rw[show decide ((0:Int)=0)=true from rfl,Bool.not_true,cf,zLz hs hp];have hr:=zp0 hs;unfold zva
  cases hy:DE 0 l with
  |error e =>
   rw[hy]at hr;obtain⟨he,y,hy1,hy2⟩:=hr;obtain⟨y1,y2,y3,y4⟩:=y;cases hy2;have he':y2≠0:=he;rw[hy1,bsQ];dsimp only;simp only[df he',cf,bsQ,Bool.not_false,ctQ];exact⟨rfl,fun e' h=>by cases h;exact he⟩
  |ok v =>
   obtain⟨e,r⟩:=v;rw[hy]at hr;obtain⟨h1,hs2⟩:=hr;rw[h1,bsQ];simp only[fX,xN,decide_true,ctQ,hs2.idx,bsQ];by_cases hk:(hdT r).Kind=3
   ·rw[dt hk,Bool.not_true,cf,bsQ]
    dsimp only;rw[show decide ((0:Int)=0)=true from rfl,ctQ,K9 hs hy,bsQ,bsQ];by_cases hl:JX e≤12
    ·rw[df (show ¬((JX e:Nat):Int)>12 by omega),cf,bsQ]
     refine⟨?_,fun e' h=>?_⟩
     ·simp only[thn,oa,if_true,hk,decide_true,dt hl]
      rfl
     ·simp only[thn,oa,if_true,hk,decide_true,dt hl]at h
      cases h
    ·rw[dt (show((JX e:Nat):Int)>12 by omega),ctQ,jg hs2,bsQ,bsQ]
     refine⟨?_,fun e' h=>?_⟩
     ·simp only[thn,oa,if_true,hk,decide_true,df hl]
      rfl
     ·simp only[thn,oa,if_true,hk,decide_true,df hl]at h
      cases h
      show(6:Int)≠0
      decide
   ·rw[df hk,Bool.not_false,ctQ,jg hs2,bsQ,bsQ]
    refine⟨?_,fun e' h=>?_⟩
    ·simp only[thn,oa,df hk]
     rfl
    ·simp only[thn,oa,df hk]at h
     cases h
     show(14:Int)≠0
     decide
theorem zm2{s:List UInt8}(h:s.length≤8000):ud s=some (Ya (Hn s)):=by
 have hne:=(Kr h).2;unfold Hn at hne;unfold ud Hn;rw[zQj h,bsQ]
 cases hx:zzq s with
 |error y =>
  obtain⟨p,e⟩:=y;have he:=VL _ _ _ _ _ hx;rw[show zzr (.error (p,e))=([],(p:Int),e) from rfl];dsimp only;rw[df he];rfl
 |ok l =>
  rw[hx]at hne;dsimp only at hne;obtain⟨hs,hp⟩:=W1 h hx;rw[show zzr (.ok l)=(l,0,0) from rfl];dsimp only;rw[show decide ((0:Int)=0)=true from rfl,Bool.not_true,cf]
  have key:RT l (zva l) (qq l 0 0 0 [] [] []) (qs l 0 0 0 [] [] []) fE:=by
   unfold qq qs zva;have hE:=zHc (lv:=0) (by omega) hs;rw[hp,show(((0:Nat):Int))=(0:Int) from rfl]at hE
   refine hE.bind fun e r h1 hs1=>?_
   simp only[fE,xN];rw[Kl hs1,bsQ,bsQ]
   refine(zb9 hs1 _ _).bind fun u r2 h2 hs2=>?_
   obtain⟨rfl,hc⟩:=vt h2;rw[zch hs h1,bsQ,bsQ,show decide (((JX e:Nat):Int)≤12)=decide (JX e≤12) from yn (by omega)]
   refine(zb9 hs1 _ _).bind fun u r3 h3 hs3=>?_
   obtain⟨rfl,_⟩:=vt h3;exact⟨rfl,rfl,hs3⟩
  unfold j3 jv
  cases hy:zva l with
  |ok v =>
   obtain⟨e,r⟩:=v;rw[hy]at key;rw[key.1];rfl
  |error e =>
   rw[hy]at key hne;have he:=hne e rfl;dsimp only;rw[key.1,key.2]
   show(bif (!(decide (e.2=0)))then _ else none)=_
   rw[df he];rfl
theorem zAx{s:List UInt8}{p:wB}(h:s.length≤8000)(hp:uI s=.ok p):zMm p:=by
 unfold uI at hp;split at hp
 ·cases hp
 ·rename_i l hl
  obtain⟨hs,h0⟩:=W1 h hl;split at hp
  ·rename_i v r hv
   cases hp;exact(zsv _ _ _ _ ⟨hs.wf,hs.len⟩ ⟨max0,fit0⟩ _ _ hv).2
  ·cases hp
theorem zp3{s:List UInt8}{e:Expr}(h:s.length≤8000)(hp:Hn s=.ok e):uG e:=by
 unfold Hn at hp;split at hp
 ·cases hp
 ·rename_i l hl
  obtain⟨hs,h0⟩:=W1 h hl;split at hp
  ·rename_i v r hv
   cases hp;unfold zva at hv;obtain⟨a,r1,h1,h2⟩:=yd hv;obtain⟨b,r3,h3,h4⟩:=yd h2;obtain⟨c,r5,h5,h6⟩:=yd h4;cases h6;exact zLr ⟨hs.wf,hs.len⟩ _ _ h1
  ·cases hp
theorem zAy{s:List UInt8}:vj s=some true:=by
 unfold vj;rw[zFd,bsQ];by_cases hl:s.length≤3000
 ·rw[df (show ¬((s.length:Nat):Int)>3000 by omega),cf,zFf (by omega),bsQ,zvb (by omega),bsQ,zm2 (by omega),bsQ,(Kr (by omega)).1,bsQ]
  simp only[decide_true,ctQ]
  have same:A9 (wB.mk (HB (uI s)).2.2.2.2.1 (HB (uI s)).2.2.2.2.2.1 (HB (uI s)).2.2.2.2.2.2.1 (HB (uI s)).2.2.2.2.2.2.2.1 (HB (uI s)).2.2.2.2.2.2.2.2.1 (HB (uI s)).2.2.2.2.2.2.2.2.2 (HB (uI s)).2.2.1 (HB (uI s)).2.2.2.1) (wB.mk (HB (uI s)).2.2.2.2.1 (HB (uI s)).2.2.2.2.2.1 (HB (uI s)).2.2.2.2.2.2.1 (HB (uI s)).2.2.2.2.2.2.2.1 (HB (uI s)).2.2.2.2.2.2.2.2.1 (HB (uI s)).2.2.2.2.2.2.2.2.2 (HB (uI s)).2.2.1 (HB (uI s)).2.2.2.1)=some true:=by
   cases hp:uI s with
   |error e =>
    show A9 VM VM=some true
    rw[zHh fit0,ziw rfl]
   |ok p =>
    show A9 (wB.mk p.Defs p.Tables p.Zones p.Rules p.Caps p.Views p.Sun p.Hours) (wB.mk p.Defs p.Tables p.Zones p.Rules p.Caps p.Views p.Sun p.Hours)=some true
    rw[zHh (show zMm (wB.mk p.Defs p.Tables p.Zones p.Rules p.Caps p.Views p.Sun p.Hours) from zAx (by omega) hp),ziw rfl]
  have samee:yy KK (Expr.mk (Ya (Hn s)).2.2.1 (Ya (Hn s)).2.2.2.1 (Ya (Hn s)).2.2.2.2.1 (Ya (Hn s)).2.2.2.2.2.1 (Ya (Hn s)).2.2.2.2.2.2) (Expr.mk (Ya (Hn s)).2.2.1 (Ya (Hn s)).2.2.2.1 (Ya (Hn s)).2.2.2.2.1 (Ya (Hn s)).2.2.2.2.2.1 (Ya (Hn s)).2.2.2.2.2.2)=some true:=by
   cases hp:Hn s with
   |error e =>
    show yy KK (Expr.mk 0 0 [] [] []) (Expr.mk 0 0 [] [] [])=some true
    rw[zik (show uG (Expr.mk 0 0 [] [] []) from VK),ziw rfl]
   |ok e =>
    simp only[Ya,xN];rw[zik (zp3 (by omega) hp),ziw rfl]
  rw[same,bsQ,ctQ,samee,bsQ,ctQ,zmi (by omega),bsQ,zmj (by omega),bsQ,beq_self_eq_true]
 ·rw[dt (show((s.length:Nat):Int)>3000 by omega)];rfl
end Go.Proofs.YtffencjoddkghaaGreatDoor
namespace Go.Proofs.YtffencjoddkghaaGreatDoor
open Go Go.ChangeShapes Go.WideShapes Go.ChangeAt Go.RowKit Go.Deep Go.Joins Go.EV
theorem zAz[Kd][Fuel](x0:(List UInt8))(r:Bool)(h:vj x0=some r):FnA Tryz.prog 3 [.str x0] gl (.bool r) gl:=kmp (by kernel_rfl) (Vx.2 x0 r h)
set_option maxRecDepth 100000 in
theorem VN(os:Os)(started:os.Started)(H:Type)(enc:TypeId×Value→H):
  ReturnsInHanded {} Tryz.checked os 3 .any (fun w args=>(Rows.syntaxTellsSpec.pre enc Tryz.prog Tryz.f3 [] false w args∧laidMetH Tryz.prog zt7 w)∧sizedMet enc Tryz.prog Tryz.f3 (OpenSpec.ofChange Rows.syntaxTellsSpec) false w args)
   (Rows.syntaxTellsSpec.post enc Tryz.prog Tryz.f3 false true false false):=by
 refine zkp (C:=Tryz.checked) (X:=fun w _=>laidMetH Tryz.prog zt7 w) (fun _ _ _ hh h=>h.of_heap hh) own started (by kernel_rfl) Tryz.func3
  (ChangeSpec.witness_shaped (enc:=enc) (C:=Tryz.checked) (os:=os) (X:=fun w _=>laidMetH Tryz.prog zt7 w) false (World.doorLaid Tryz.prog 400 os) #[.string ⟨#[]⟩] 8 rfl (World.shaped_of_RefB (by kernel_rfl) (by kernel_rfl)) (by kernel_rfl) (by kernel_rfl) (by kernel_rfl) (zDk os _)) ?_
 intro W base args ds gs before hval0 hW hS hL;have hval:∀(j:Nat) t v,Tryz.f3.params[j]?=some t→args[j]?=some v→Value.okWide Tryz.prog W .any base t v:=hval0;have hW':=hW;obtain⟨p,q,hA0,hV,rfl,hfz,hnd⟩:=hW;have hA:DataW.TrodAll enc Tryz.prog W 0 (fun _=>true) true Tryz.f3.params.toList args.toList ds p:=hA0;rw[Tryz.params3]at hA hval;have hA1:=hA;obtain⟨v0,vs,d0,ds,p0,q0,ha,rfl,rfl,h0,hA⟩:=trodAll_cons hA;obtain⟨rfl,rfl,rfl⟩:=trodAll_nil hA;obtain⟨rfl,rfl⟩:=trodVars_none hV
 have ha:args=#[v0]:=by cases args;simp_all
 subst ha;obtain⟨x0,ox0,rx0⟩:=zOi (hval 0 9 v0 rfl rfl) h0;simp only[List.append_nil]at hW'
 let fu:Fuel:=⟨18446744073709551616,Nat.le_refl _⟩
 refine Calls.mono (zyg (f:=3) (args:=[.str x0]) (vals:=[v0]) (zAz x0 true (zAy)) hL hS ⟨_,_,rfl,rx0,rfl⟩) fun e W' ⟨he,hb⟩=>?_
 subst he;refine⟨_,rfl,?_⟩;refine⟨_,_,_,[],_,[],hW',?_,zd4 laidOut hb _ _ _ _ (by kernel_rfl) hA1 (fun x hx=>by simpa using hW'.lt x (by simpa using hx)),rfl,hb.frame _,fun h=>by cases h⟩;exact trodAll_mk1 (shut_bool Tryz.underlying4 true)
theorem zck:Rows.SyntaxTellsSaid :=
 OpenClaim.holds_of_wide 3 Tryz.f3 rfl rfl rfl rfl rfl rfl rfl ⟨rfl,rfl,rfl,rfl,rfl⟩ rfl rfl rfl rfl rfl (by kernel_rfl) Tryz.func3 Wd
  (of_decide_eq_true (by kernel_rfl)) (by unfold Func.isWrapper;first|(rw[if_pos (by decide +kernel)];kernel_rfl)|(rw[if_neg (by decide +kernel)];exact⟨rfl,rfl⟩))
  (fun os started H enc _=>VN os started H enc)
theorem syntaxTells_holds:Rows.SyntaxTellsCardSaid :=
 Claim7.holds_tied_plain_at .later [] [.data, .data, .data, .listed, .data, .data] true (true, "808b1baaab06890156bf9594850e24f5baf562363ce7a6119ef76d48d3ae3efc") true
  zck (fun _ h=>by cases h) (by kernel_rfl) (fun _ h=>by cases h) syntaxTells_row_tie rfl ⟨rfl,rfl⟩ (by kernel_rfl) rfl
  (fun f fn hf hfn=>by
   obtain rfl : f = 3 := Option.some.inj ((show Tryz.prog.funcNamed "greenbelt/greenbeltlaw15.SyntaxTells" = some 3 by kernel_rfl).symm.trans hf) |>.symm
   obtain rfl:fn=Tryz.f3:=(Option.some.inj (Tryz.func3.symm.trans hfn)).symm
   exact⟨by kernel_rfl,fun j t ht=>by
    rw[Tryz.params3]at ht
    have hm:t∈[9]:=by simpa using Array.mem_of_getElem? ht
    have hall:([9].all fun u=>!Tryz.prog.wantsStandIn u)=true:=by kernel_rfl
    exact(show Tryz.prog.wantsStandIn t=false by simpa using List.all_eq_true.1 hall t hm)⟩)
  (by kernel_rfl)
#print axioms syntaxTells_holds
end Go.Proofs.YtffencjoddkghaaGreatDoor
