/- texts that the proof of SyntaxPrints reaches, part 12 -/
import Derived.Test.YtffencjoddkghaaGreatDoorKk
set_option linter.all false
set_option maxRecDepth 100000
namespace Go.Proofs.YtffencjoddkghaaGreatDoor
open Go Go.RowKit Go.Eng Go.EV Go.EQ
variable[Fuel]
section ref
variable{c0:List Def}{c1:List Table}{c2:List zY}{c3:List zB}{c4:List Cap}{c5:List View}{c6:List zf}{c7:Int}{s:List UInt8}
theorem RP_L1(hl:c0.length≤8)(hn:∀x∈c0,zM x.Name=true)(h:∀x∈c0,okE 12 x.Body=true)(hb:(s++c0.flatMap fun x=>zE (zkx x)).length≤140737488355328):
  xE c0 c1 c2 c3 c4 c5 c6 c7 KK (s,0)=some (s++c0.flatMap fun x=>zE (zkx x)):=by
 refine(yn c0 (fun x=>zE (zkx x)) (fun K q s=>xE c0 c1 c2 c3 c4 c5 c6 c7 K (s,q)) 140737488355328 (fun _=>True) (by omega) trivial hb (fun K i x s hx _ hM=>⟨?_,trivial⟩) (fun K s=>?_)).1
 ·have hi:=jb hx
  have hm:=List.mem_of_getElem? hx
  have lM:s.length≤140737488355328:=by rw[la]at hM;omega
  show xE _ _ _ _ _ _ _ _ (K+1) (s,(i:Int))=_
  have ln:=(kQ (hn x hm)).1;have lt:=zhy (h x hm);rw[xE];simp only[vk hx,ctQ,zy hx,bsQ,zek (h x hm)];rw[zi (by (try simp only[wlQ]);omega),bsQ,zi (by (try simp only[wlQ]);omega),bsQ,zi (by (try simp only[wlQ]);omega),bsQ,zi (by (try simp only[wlQ]);omega),bsQ,zi (by (try simp only[wlQ]);omega),bsQ,ya (by omega)]
  have e:s++zE (zkx x)=((((s++ko)++x.Name)++QS)++zN 12 x.Body)++z7:=by
   rw[zkx,wT];simp only[xu,xA,vE,vF,asc,List.append_nil,List.cons_append];rfl
  rw[e]
 ·show xE _ _ _ _ _ _ _ _ (K+1) (s,_)=_
  rw[xE];simp only[yZ,cf]
theorem RP_L3{d0:Int}{d9:List UInt8}{l:List Entry}{d11:Int}(hl:l.length≤64)(h:∀x∈l,x.Name.length≤20∧jd x.N)(hb:(s++spT (l.flatMap zem)).length≤140737488355328):
  xF d0 c0 c1 c2 c3 c4 c5 c6 c7 d9 l d11 KK (s,0)=some (s++spT (l.flatMap zem)):=by
 rw[qH]at hb ⊢;refine(yn l (fun x=>spT (zem x)) (fun K q s=>xF d0 c0 c1 c2 c3 c4 c5 c6 c7 d9 l d11 K (s,q)) 140737488355328 (fun _=>True) (by omega) trivial hb (fun K i x s hx _ hM=>⟨?_,trivial⟩) (fun K s=>?_)).1
 ·have hi:=jb hx
  obtain⟨ln,n1⟩:=h x (List.mem_of_getElem? hx);have l1:=wM n1
  have lM:s.length≤140737488355328:=by rw[la]at hM;omega
  show xF _ _ _ _ _ _ _ _ _ _ _ _ (K+1) (s,(i:Int))=_
  rw[xF];simp only[vk hx,ctQ,zy hx,bsQ,xZ n1];rw[zi (by (try simp only[wlQ]);omega),bsQ,zi (by (try simp only[wlQ]);omega),bsQ,zi (by (try simp only[wlQ]);omega),bsQ,ya (by omega)]
  have e:s++spT (zem x)=((s++t__)++x.Name)++32::uw (.inl x.N):=by
   rw[zem];simp only[xu,xA,vE,vF,asc,List.append_nil,List.cons_append];rfl
  rw[e]
 ·show xF _ _ _ _ _ _ _ _ _ _ _ _ (K+1) (s,_)=_
  rw[xF];simp only[yZ,cf]
theorem RP_L2(hl:c1.length≤8)(hn:∀x∈c1,zM x.Name=true)(h:∀x∈c1,kT x)(hf:∀x∈c1,x.Rows.length≤64)(hb:(s++c1.flatMap fun x=>zE (oV x)).length≤140737488355328):
  xG c0 c1 c2 c3 c4 c5 c6 c7 KK (s,0)=some (s++c1.flatMap fun x=>zE (oV x)):=by
 refine(yn c1 (fun x=>zE (oV x)) (fun K q s=>xG c0 c1 c2 c3 c4 c5 c6 c7 K (s,q)) 140737488355328 (fun _=>True) (by omega) trivial hb (fun K i x s hx _ hM=>⟨?_,trivial⟩) (fun K s=>?_)).1
 ·have hi:=jb hx
  have hm:=List.mem_of_getElem? hx
  have lM:s.length≤140737488355328:=by rw[la]at hM;omega
  show xG _ _ _ _ _ _ _ _ (K+1) (s,(i:Int))=_
  have ln:=(kQ (hn x hm)).1;have hT:=h x hm;have n1:=yx hT.2.1 (by omega) (by omega);have l1:=wM n1;rw[zhx]at hM ⊢;have hM0:=hM;simp only[la]at hM0;have ll:(uw (.inr wC)).length=5:=rfl
  have lsn:(spT [.inr x.Name]).length=x.Name.length+1:=by simp[xu,xA,vF]
  have e0:(s++yG)++x.Name=s++(uw (.inr wC)++spT [.inr x.Name]):=by
   simp only[xu,xA,vE,vF,asc,List.append_nil,List.cons_append];rfl
  rw[xG];simp only[vk hx,ctQ,zy hx,bsQ,xZ n1];rw[zi (by (try simp only[wlQ]);omega),bsQ,zi (by (try simp only[wlQ]);omega),bsQ,e0,RP_L3 (hf x hm) (fun y hy=>⟨(kQ (zeq hT y hy)).1,yx (hT.2.2 y hy) (by omega) (by omega)⟩) (by simp only[la];omega),bsQ]
  have lX:(s++(uw (.inr wC)++spT [.inr x.Name])++spT (x.Rows.flatMap zem)).length≤140737488355328:=by simp only[la];omega
  rw[show s++(uw (.inr wC)++(spT [.inr x.Name]++(spT (x.Rows.flatMap zem)++(spT [.inr kp,.inl x.Else]++[32,59,10]))))=(s++(uw (.inr wC)++spT [.inr x.Name])++spT (x.Rows.flatMap zem))++(spT [.inr kp,.inl x.Else]++[32,59,10]) by simp only[asc]];generalize s++(uw (.inr wC)++spT [.inr x.Name])++spT (x.Rows.flatMap zem)=X at lX ⊢;rw[zi (by (try simp only[wlQ]);omega),bsQ,zi (by (try simp only[wlQ]);omega),bsQ,zi (by (try simp only[wlQ]);omega),bsQ,ya (by omega)]
  have e:X++(spT [.inr kp,.inl x.Else]++[32,59,10])=((X++QR)++32::uw (.inl x.Else))++z7:=by
   simp only[xu,xA,vE,vF,asc,List.append_nil,List.cons_append];rfl
  rw[e]
 ·show xG _ _ _ _ _ _ _ _ (K+1) (s,_)=_
  rw[xG];simp only[yZ,cf]
theorem RP_L4(hl:c2.length≤8)(hn:∀x∈c2,zM x.Name=true)(h:∀x∈c2,Jv x.Corners)(hf:∀x∈c2,x.Corners.length≤64)(hb:(s++c2.flatMap fun x=>zE (Vv x)).length≤140737488355328):
  xH c0 c1 c2 c3 c4 c5 c6 c7 KK (s,0)=some (s++c2.flatMap fun x=>zE (Vv x)):=by
 refine(yn c2 (fun x=>zE (Vv x)) (fun K q s=>xH c0 c1 c2 c3 c4 c5 c6 c7 K (s,q)) 140737488355328 (fun _=>True) (by omega) trivial hb (fun K i x s hx _ hM=>⟨?_,trivial⟩) (fun K s=>?_)).1
 ·have hi:=jb hx
  have hm:=List.mem_of_getElem? hx
  have lM:s.length≤140737488355328:=by rw[la]at hM;omega
  show xH _ _ _ _ _ _ _ _ (K+1) (s,(i:Int))=_
  have ln:=(kQ (hn x hm)).1;obtain⟨r1,l1⟩:=Zx (hf x hm) (KJ (h x hm));rw[xH];simp only[vk hx,ctQ,zy hx,bsQ,r1]
  have hw:(bif x.Overlay then some vJ else some we)=some (bif x.Overlay then vJ else we):=by cases x.Overlay<;>rfl
  have lw:(bif x.Overlay then vJ else we).length≤8:=by cases x.Overlay<;>decide
  have ew:(bif x.Overlay then vJ else we)=(bif x.Overlay then yX else kq)++[32]:=by cases x.Overlay<;>rfl
  rw[hw,bsQ]
  have e:s++zE (Vv x)=(((s++(bif x.Overlay then vJ else we))++x.Name)++spT (x.Corners.flatMap ptT))++z7:=by
   rw[zpb,ew];simp only[xu,xA,vE,vF,asc,List.append_nil,List.cons_append,List.nil_append];rfl
  rw[e];generalize (bif x.Overlay then vJ else we)=W at lw ⊢;rw[zi (by (try simp only[wlQ]);omega),bsQ,zi (by (try simp only[wlQ]);omega),bsQ,zi (by (try simp only[wlQ]);omega),bsQ,zi (by (try simp only[wlQ]);omega),bsQ,ya (by omega)]
 ·show xH _ _ _ _ _ _ _ _ (K+1) (s,_)=_
  rw[xH];simp only[yZ,cf]
theorem RP_L5(hl:c3.length≤8)(hn:∀x∈c3,zM x.Name=true)(h:∀x∈c3,AO x)(hf:∀x∈c3,zr3 x=true)(hb:(s++c3.flatMap fun x=>zE (oX x)).length≤140737488355328):
  xI c0 c1 c2 c3 c4 c5 c6 c7 KK (s,0)=some (s++c3.flatMap fun x=>zE (oX x)):=by
 refine(yn c3 (fun x=>zE (oX x)) (fun K q s=>xI c0 c1 c2 c3 c4 c5 c6 c7 K (s,q)) 140737488355328 (fun _=>True) (by omega) trivial hb (fun K i x s hx _ hM=>⟨?_,trivial⟩) (fun K s=>?_)).1
 ·have hi:=jb hx
  have hm:=List.mem_of_getElem? hx
  have lM:s.length≤140737488355328:=by rw[la]at hM;omega
  show xI _ _ _ _ _ _ _ _ (K+1) (s,(i:Int))=_
  obtain⟨r1,l1⟩:=zD5 (h x hm) (hn x hm) (hf x hm);rw[xI];simp only[vk hx,ctQ,zy hx,bsQ,r1];rw[zi (by (try simp only[wlQ]);omega),bsQ,zi (by (try simp only[wlQ]);omega),bsQ,ya (by omega)]
  have e:s++zE (oX x)=(s++zpe (oX x))++z7:=by
   rw[asc];exact congrArg (s++·) (zD4 _ _)
  rw[e]
 ·show xI _ _ _ _ _ _ _ _ (K+1) (s,_)=_
  rw[xI];simp only[yZ,cf]
theorem RP_L6(hl:c4.length≤8)(hn:∀x∈c4,zM x.Name=true)(h:∀x∈c4,zEb x)(hf:∀x∈c4,x.Corners.length≤64)(hb:(s++c4.flatMap fun x=>zE (zsa x)).length≤140737488355328):
  xJ c0 c1 c2 c3 c4 c5 c6 c7 KK (s,0)=some (s++c4.flatMap fun x=>zE (zsa x)):=by
 refine(yn c4 (fun x=>zE (zsa x)) (fun K q s=>xJ c0 c1 c2 c3 c4 c5 c6 c7 K (s,q)) 140737488355328 (fun _=>True) (by omega) trivial hb (fun K i x s hx _ hM=>⟨?_,trivial⟩) (fun K s=>?_)).1
 ·have hi:=jb hx
  have hm:=List.mem_of_getElem? hx
  have lM:s.length≤140737488355328:=by rw[la]at hM;omega
  show xJ _ _ _ _ _ _ _ _ (K+1) (s,(i:Int))=_
  have ln:=(kQ (hn x hm)).1;obtain⟨k1,k2,k3⟩:=h x hm;obtain⟨r1,l1⟩:=Zx (hf x hm) (KJ k3);have n1:=yx k2 (by omega) (by omega);have l2:=wM n1
  have i1:idx [zjl,Wh,ZU] x.Load=some (W1.getD x.Load.toNat []):=by
   have:=zy (l:=[zjl,Wh,ZU]) (zpc (show x.Load.toNat<3 by omega))
   rwa [Int.toNat_of_nonneg k1.1]at this
  have ll:(W1.getD x.Load.toNat []).length≤7:=by
   have:x.Load.toNat<3:=by omega
   generalize x.Load.toNat=i at this
   obtain rfl|rfl|rfl:i=0∨i=1∨i=2:=by omega
   all_goals decide
  rw[xJ];unfold H8;simp only[vk hx,ctQ,zy hx,bsQ,r1,i1,xZ n1];rw[zi (by (try simp only[wlQ]);omega),bsQ,zi (by (try simp only[wlQ]);omega),bsQ,zi (by (try simp only[wlQ]);omega),bsQ,zi (by (try simp only[wlQ]);omega),bsQ,zi (by (try simp only[wlQ]);omega),bsQ,zi (by (try simp only[wlQ]);omega),bsQ,zi (by (try simp only[wlQ]);omega),bsQ,ya (by omega)]
  have e:s++zE (zsa x)=((((((s++JL)++x.Name)++t__)++W1.getD x.Load.toNat [])++32::uw (.inl x.Limit))++spT (x.Corners.flatMap ptT))++z7:=by
   rw[zu9];simp only[xu,xA,vE,vF,asc,List.append_nil,List.cons_append];rfl
  rw[e]
 ·show xJ _ _ _ _ _ _ _ _ (K+1) (s,_)=_
  rw[xJ];simp only[yZ,cf]
theorem RP_L8{d0:Int}{d9:List UInt8}{d10 d11 d12 d13:Int}{l:List zf}(hl:l.length≤64)(h:∀x∈l,jd x.X∧jd x.Y∧jd x.Z_)(hb:(s++spT (l.flatMap oW)).length≤140737488355328):
  xK d0 c0 c1 c2 c3 c4 c5 c6 c7 d9 d10 d11 d12 d13 l KK (s,0)=some (s++spT (l.flatMap oW)):=by
 rw[qH]at hb ⊢;refine(yn l (fun x=>spT (oW x)) (fun K q s=>xK d0 c0 c1 c2 c3 c4 c5 c6 c7 d9 d10 d11 d12 d13 l K (s,q)) 140737488355328 (fun _=>True) (by omega) trivial hb (fun K i x s hx _ hM=>⟨?_,trivial⟩) (fun K s=>?_)).1
 ·have hi:=jb hx
  obtain⟨r1,l1⟩:=KL (h x (List.mem_of_getElem? hx))
  have lM:s.length≤140737488355328:=by rw[la]at hM;omega
  show xK _ _ _ _ _ _ _ _ _ _ _ _ _ _ _ (K+1) (s,(i:Int))=_
  rw[xK];simp only[vk hx,ctQ,zy hx,bsQ,r1];rw[zi (by (try simp only[wlQ]);omega),bsQ,ya (by omega)]
 ·show xK _ _ _ _ _ _ _ _ _ _ _ _ _ _ _ (K+1) (s,_)=_
  rw[xK];simp only[yZ,cf]
theorem RP_L7(hl:c5.length≤8)(hn:∀x∈c5,zM x.Name=true)(h:∀x∈c5,KR x)(hf:∀x∈c5,x.Targets.length≤64)(hb:(s++c5.flatMap fun x=>zE (Vw x)).length≤140737488355328):
  xL c0 c1 c2 c3 c4 c5 c6 c7 KK (s,0)=some (s++c5.flatMap fun x=>zE (Vw x)):=by
 refine(yn c5 (fun x=>zE (Vw x)) (fun K q s=>xL c0 c1 c2 c3 c4 c5 c6 c7 K (s,q)) 140737488355328 (fun _=>True) (by omega) trivial hb (fun K i x s hx _ hM=>⟨?_,trivial⟩) (fun K s=>?_)).1
 ·have hi:=jb hx
  have hm:=List.mem_of_getElem? hx
  have lM:s.length≤140737488355328:=by rw[la]at hM;omega
  show xL _ _ _ _ _ _ _ _ (K+1) (s,(i:Int))=_
  have ln:=(kQ (hn x hm)).1;obtain⟨k1,k2,k3,k4⟩:=h x hm;obtain⟨r1,l1⟩:=KL (Hm k3);have n1:=yx k1 (by omega) (by omega);have l2:=wM n1;rw[xL];simp only[vk hx,ctQ,zy hx,bsQ,r1,xZ n1]
  have e:s++zE (Vw x)=(((((((s++ub)++x.Name)++spT (oW x.Eye))++uy)++32::uw (.inl x.Least))++xy)++spT (x.Targets.flatMap oW))++z7:=by
   rw[zpd,oW];simp only[xu,xA,vE,vF,asc,List.append_nil,List.cons_append];rfl
  rw[e]at hM ⊢
  have lX:((((((s++ub)++x.Name)++spT (oW x.Eye))++uy)++32::uw (.inl x.Least))++xy++spT (x.Targets.flatMap oW)).length≤140737488355328:=by
   rw[la]at hM;omega
  rw[zi (by (try simp only[wlQ]);omega),bsQ,zi (by (try simp only[wlQ]);omega),bsQ,zi (by (try simp only[wlQ]);omega),bsQ,zi (by (try simp only[wlQ]);omega),bsQ,zi (by (try simp only[wlQ]);omega),bsQ,zi (by (try simp only[wlQ]);omega),bsQ,RP_L8 (hf x hm) (fun y hy=>Hm (k4 y hy)) lX,bsQ];generalize ((((((s++ub)++x.Name)++spT (oW x.Eye))++uy)++32::uw (.inl x.Least))++xy)++spT (x.Targets.flatMap oW)=X at lX ⊢;rw[zi (by (try simp only[wlQ]);omega),bsQ,ya (by omega)]
 ·show xL _ _ _ _ _ _ _ _ (K+1) (s,_)=_
  rw[xL];simp only[yZ,cf]
theorem zS4(hl:c6.length≤64)(h:∀x∈c6,zxo x):∀(r:List zf)(i K:Nat)(s:List UInt8),1≤i→c6.drop i=r→r≠[]→i≤c6.length→r.length<K→s.length+100*r.length≤140737488355328 →
  xk c0 c1 c2 c3 c4 c5 c6 c7 K (s,(i:Int))=some (s++((r.flatMap fun x=>spT (AA x))++[32,59,10]))
 |[],i,K,s,h1,hr,h0,hi,hK,hM=>absurd rfl h0
 |x::r,i,K,s,h1,hr,h0,hi,hK,hM=>by
  obtain⟨K,rfl⟩:∃k,K=k+1:=⟨K-1,by simp at hK;omega⟩
  obtain⟨g1,g2,g3⟩:=y6 hr;simp only[lc]at hK hM;obtain⟨r1,l1⟩:=KL (YQ (h x (List.mem_of_getElem? g1)))
  have e:s++spT (AA x)=(s++zgf)++spT (oW x):=by
   rw[AA,xu,asc];rfl
  rw[xk];simp only[vk g1,ctQ,df (show ¬(i:Int)=0 by omega),cf,zy g1,bsQ,r1];rw[zi (by (try simp only[wlQ]);omega),bsQ,zi (by (try simp only[wlQ]);omega),bsQ,ya (by omega),List.flatMap_cons,asc (spT (AA x)),← asc s,e]
  have lX:((s++zgf)++spT (oW x)).length≤s.length+100:=by simp only[wlQ];omega
  generalize (s++zgf)++spT (oW x)=X at lX ⊢
  cases r with
  |nil =>
   have hend:=drop_nil g2 (by omega)
   obtain⟨K,rfl⟩:∃k,K=k+1:=⟨K-1,by simp at hK;omega⟩
   rw[dt (show((i+1:Nat):Int)=((List.length c6:Nat):Int) by omega),ctQ,zi (by (try simp only[wlQ]);omega),bsQ,bsQ,hend,xk];simp only[yZ,cf,List.flatMap_nil,List.nil_append];rfl
  |cons y r =>
   have hlt:i+1<c6.length:=(y6 g2).2.2;rw[df (show ¬((i+1:Nat):Int)=((List.length c6:Nat):Int) by omega),cf,bsQ];exact zS4 hl h (y::r) (i+1) K X (by omega) g2 (by simp) (by omega) (by omega) (by omega)
theorem RP_L9(hl:c6.length≤64)(h:∀x∈c6,zxo x)(hb:s.length≤140737488000000):xk c0 c1 c2 c3 c4 c5 c6 c7 KK (s,0)=some (s++(bif c6.isEmpty then[]else zE (zDt c6))):=by
 obtain⟨k,hk⟩:∃k,KK=k+2:=⟨KK-2,by have:=ja (n:=100) (by omega);omega⟩
 have hkl:c6.length<k+2:=by rw[← hk];exact ja (by omega)
 cases hc:c6 with
 |nil =>
  rw[hk,xk];simp only[List.isEmpty_nil,ctQ,List.append_nil,List.length_nil];rfl
 |cons p r =>
  rw[hc]at hl h hkl;simp only[List.isEmpty_cons,cf];simp only[lc]at hkl;rw[zva];have g1:(p::r)[0]?=some p:=rfl;have d0:decide ((0:Int)<(((p::r).length:Nat):Int))=true:=vk g1;have i0:idx (p::r) 0=some p:=zy g1;obtain⟨r1,l1⟩:=KL (YQ (h p (List.mem_cons_self ..)));rw[hk,xk];simp only[d0,ctQ,i0,bsQ,r1,decide_true];rw[zi (by (try simp only[wlQ]);omega),bsQ,zi (by (try simp only[wlQ]);omega),bsQ,show w64 (0+1)=((1:Nat):Int) from rfl];rw[show s++(uw (.inr oB)++(spT (oW p)++((r.flatMap fun x=>spT (AA x))++[32,59,10])))=((s++oB)++spT (oW p))++((r.flatMap fun x=>spT (AA x))++[32,59,10]) by simp only[asc,vF]]
  have lX:((s++oB)++spT (oW p)).length≤s.length+100:=by simp only[wlQ];omega
  generalize (s++oB)++spT (oW p)=X at lX ⊢
  cases r with
  |nil =>
   rw[dt (show((1:Nat):Int)=((List.length [p]:Nat):Int) from rfl),ctQ,zi (by (try simp only[wlQ]);omega),bsQ,bsQ,xk];rfl
  |cons y r =>
   rw[df (show ¬((1:Nat):Int)=((List.length (p::y::r):Nat):Int) by simp only[lc];omega),cf,bsQ];simp only[lc]at hl hkl;exact zS4 (c6:=p::y::r) hl h (y::r) 1 (k+1) X (by omega) rfl (by simp) (by simp) (by simp only[lc];omega) (by simp only[lc];omega)
end ref
theorem zxu{p:vg}(hf:zDh p):Wz p=some (zvb p):=by
 unfold Wz zvb;rw[zhu hf,bsQ]
 cases hr:pd (Qi p)with
 |false=>rfl
 |true =>
  have hR:=y7.1 hr;have hb:=zhw hf hR;have nm:=zk0 hR;obtain⟨_,⟨b1,b2,b3,b4,b5,b6,b7⟩,hh,hs⟩:=hR;simp only[Bool.not_true,cf,ctQ];have hb0:=hb;simp only[Ay,la]at hb0
  have e:(([]:List UInt8)++p.Defs.flatMap fun x=>zE (zkx x))=p.Defs.flatMap fun x=>zE (zkx x):=List.nil_append _
  rw[RP_L1 hf.d nm.d b1 (by simp only[List.nil_append];omega),bsQ,e];generalize hs1:(p.Defs.flatMap fun x=>zE (zkx x))=s1 at hb0 ⊢;rw[RP_L2 hf.t nm.t b2 (fun x hx=>(hf.ts x hx).2.1) (by simp only[la];omega),bsQ];generalize hs2:(p.Tables.flatMap fun x=>zE (oV x))=s2 at hb0 ⊢;rw[RP_L4 hf.z nm.z b3 (fun x hx=>(hf.zs x hx).2) (by simp only[la];omega),bsQ];generalize hs3:(p.Zones.flatMap fun x=>zE (Vv x))=s3 at hb0 ⊢;rw[RP_L5 hf.r nm.r b4 hf.rs (by simp only[la];omega),bsQ];generalize hs4:(p.Rules.flatMap fun x=>zE (oX x))=s4 at hb0 ⊢;rw[RP_L6 hf.c nm.c b5 (fun x hx=>(hf.cs x hx).2) (by simp only[la];omega),bsQ];generalize hs5:(p.Caps.flatMap fun x=>zE (zsa x))=s5 at hb0 ⊢;rw[RP_L7 hf.v nm.v b6 (fun x hx=>(hf.vs x hx).2) (by simp only[la];omega),bsQ];generalize hs6:(p.Views.flatMap fun x=>zE (Vw x))=s6 at hb0 ⊢;rw[RP_L9 hf.s b7 (by simp only[la];omega),bsQ];generalize hs7:(bif p.Sun.isEmpty then[]else zE (zDt p.Sun))=s7 at hb0 ⊢
  have e:s1++s2++s3++s4++s5++s6++s7++(if p.Hours=0 then[]else zE (Qj p.Hours))=Ay p:=by
   unfold Ay;rw[hs1,hs2,hs3,hs4,hs5,hs6,hs7];simp only[asc]
  have lX:(s1++s2++s3++s4++s5++s6++s7).length≤140737488000000:=by simp only[la];omega
  have key:(bif (!(decide (p.Hours=0)))then(grd (List.length (s1++s2++s3++s4++s5++s6++s7)+List.length xO≤9223372036854775807)).bind fun _=>(wi p.Hours).bind fun x11=>(grd (List.length ((s1++s2++s3++s4++s5++s6++s7)++xO)+List.length x11≤9223372036854775807)).bind fun _=>(grd (List.length (((s1++s2++s3++s4++s5++s6++s7)++xO)++x11)+List.length z7≤9223372036854775807)).bind fun _=>some ((((s1++s2++s3++s4++s5++s6++s7)++xO)++x11)++z7)else some (s1++s2++s3++s4++s5++s6++s7))=some (Ay p):=by
   rw[← e];generalize s1++s2++s3++s4++s5++s6++s7=X at lX ⊢;by_cases h0:p.Hours=0
   ·rw[if_pos h0,dt h0,List.append_nil];rfl
   ·have n1:=yx hh (by omega) (by omega)
    have l1:=wM n1;rw[if_neg h0,df h0,Bool.not_false,ctQ,zi (by (try simp only[wlQ]);omega),bsQ,xZ n1,bsQ,zi (by (try simp only[wlQ]);omega),bsQ,zi (by (try simp only[wlQ]);omega),bsQ];rw[Qj,wT];simp only[xu,xA,vE,vF,asc,List.append_nil,List.cons_append];rfl
  rw[key,bsQ];by_cases hl:(Ay p).length≤8000
  ·rw[if_pos hl,df (by omega)];rfl
  ·rw[if_neg hl,dt (by omega)];rfl
theorem zH3{b:Bool}{p:vg}(hf:zDh p):yh b p.Defs p.Tables p.Zones p.Rules p.Caps p.Views p.Sun p.Hours KK 0=some (.inr ()):=by
 have:=WV p.Defs (fun _=>true) (some (Sum.inr ())) (some (Sum.inl false)) (yh b p.Defs p.Tables p.Zones p.Rules p.Caps p.Views p.Sun p.Hours) (by have:=hf.d;omega) (fun K i x hx=>?_) (fun K=>by rw[yh,yZ];rfl)
 ·rw[this]
  have:p.Defs.all (fun _=>true)=true:=by simp
  rw[this];rfl
 ·have hi:=jb hx
  have he:=(hf.ds x (List.mem_of_getElem? hx)).2;rw[yh];simp only[vk hx,ctQ,zy hx,bsQ,yd,zo3 he,zfh he,Au he,qF he,decide_true,Bool.not_true,cf,beq_self_eq_true];rw[ya (by have:=hf.d;omega)]
theorem zxv{p q:vg}(hp:zTl p)(hq:zTl q):vi p q=some true:=by
 unfold vi;rw[zHb,bsQ,zC2 hp,bsQ]
 cases h1:zOr p with
 |false=>rfl
 |true =>
  rw[Bool.not_true,cf,zC2 hq,bsQ]
  cases h2:zOr q with
  |false=>rfl
  |true =>
   have f1:=zDi h1;have f2:=zDi h2;simp only[Bool.not_true,bsQ,cf];rw[zH1 f1,bsQ,zxu f1,bsQ];simp only[decide_true,Bool.not_true,cf];rw[zu2 f1,bsQ,zhu f1,bsQ];simp only[beq_self_eq_true,Bool.not_true,cf];rw[zot (zDj f1),bsQ,zSe (zDj f1),bsQ];simp only[beq_self_eq_true,Bool.not_true,cf];rw[zot (zDj f2),bsQ,zks rfl,bsQ];simp only[Bool.not_true,cf];rw[zH3 f1];rfl
end Go.Proofs.YtffencjoddkghaaGreatDoor
