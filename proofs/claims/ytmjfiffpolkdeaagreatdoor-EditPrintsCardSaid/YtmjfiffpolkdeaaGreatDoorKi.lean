/- texts that the proof reaches, part 9 -/
import Derived.Test.YtmjfiffpolkdeaaGreatDoorKh
set_option linter.all false
open Go.Proofs.Tryz renaming prog->bo,underlying33->cY,underlying9->dp,underlying29->dE,underlying36->dN,underlying27->eS,underlying31->eT,underlying93->gG,underlying22->abx
open List renaming length_map->bL
set_option maxRecDepth 100000
namespace Go.Proofs.YtmjfiffpolkdeaaGreatDoor
open Go Go.ChangeShapes Go.WideShapes Go.ChangeAt Go.RowKit Go.Deep Go.Joins Go.EV
def qG{c:List V}(h:ya bo 3 c):∃n,c=EV.ahE n/\rD .i64 n:=zJe Tryz.underlying3 h
def EK{c:List V}(h:ya bo 9 c):∃s,c=EV.Cf s/\C1 s:=zJf dp h
def zC5{c:List V}(h:ya bo 26 c):∃l:List ak,c=[.vs 1 (l.map EV.Cf)]/\Ey C1 l:=by obtain⟨els,rfl,hl,hx⟩:=WL Tryz.underlying26 h;obtain⟨l,rfl,h2⟩:=VO (λc h=>EK h) hx;rw[bL]at hl;exact⟨l,by rw[show Tryz.prog.cellsOf 9=1 by kernel_rfl],hl,h2⟩
def zVq{c:List V}(h:ya bo 4 c):∃b:Bool,c=[.bool b]/\True:=by obtain⟨b,e⟩:=zCr Tryz.underlying4 h;exact⟨b,e,trivial⟩
mutual
def C2:Expr->Prop
 |⟨_,_,s,_,args⟩=>s.length<=9223372036854775807/\args.length<=9223372036854775807/\EC args
def EC:List Expr->Prop
 |[]=>True
 |x::r=>C2 x/\EC r
end
def zVr(e:Expr):C2 e=(e.S.length<=9223372036854775807/\e.aZ.length<=9223372036854775807/\EC e.aZ):=by cases e;rw[C2]
def zC6:∀{l:List Expr},(∀x∈l,C2 x)->EC l
 |[],_=>by rw[EC];trivial
 |x::l,h=>by rw[EC];exact⟨h x al,zC6 λy hy=>h y (gq _ hy)⟩
def zuo{α:Type}{enc:α->List V}{ok:α->Prop}:∀{els:List (List V)},(∀x∈els,∃a,x=enc a/\ok a)->∃l:List α,els=l.map enc/\∀a∈l,ok a
 |[],_=>⟨[],rfl,λ_ h=>by cases h⟩
 |c::els,h=>by
  obtain⟨a,rfl,ha⟩:=h c al;obtain⟨l,rfl,hl⟩:=zuo (λx hx=>h x (gq _ hx))
  exact⟨a::l,rfl,λb hb=>by
   rcases List.mem_cons.1 hb with rfl|hb
   .exact ha
   .exact hl b hb⟩
def zC7{t:TypeId}{cs:List V}(h:ya bo t cs):(t=29->∃e:Expr,cs=vg e/\C2 e)/\(t=27->∃l:List Expr,cs=[.vs 5 (yk l)]/\l.length<=maxLen/\EC l):=by
 induction h with
 |bool h|int h|str h=>exact⟨λe=>by (subst e;rw[dE]at h;cases h),λe=>by subst e;rw[eS]at h;cases h⟩
 |array h=>exact⟨λe=>by (subst e;rw[dE]at h;cases h),λe=>by subst e;rw[eS]at h;cases h⟩
 |other h=>exact⟨λe=>by (subst e;unfold JN at h;rw[dE]at h;cases h),λe=>by subst e;unfold JN at h;rw[eS]at h;cases h⟩
 |slice h hl hx ih =>
  refine⟨λe=>by (subst e;rw[dE]at h;cases h),λe=>?_⟩;subst e;rw[eS]at h;cases h;obtain⟨l,rfl,h2⟩:=zuo (λx CU=>(ih x CU).1 rfl);rw[bL]at hl;exact⟨l,by rw[show Tryz.prog.cellsOf 29=5 by kernel_rfl,jL],hl,zC6 h2⟩
 |@struct t' fs iK h hc hx ih =>
  refine⟨λe=>?_,λe=>by subst e;rw[eS]at h;cases h⟩;subst e;have nX:ya bo 29 iK:=.struct h hc hx;rw[dE]at h;cases h;have hl:=hc.trans (show Tryz.prog.cellsOf 29=5 by kernel_rfl);clear hc
  match iK,hl,nX,ih with
  |[c0,c1,c2,c3,c4],_,h,ih =>
   have h0:ya bo 3 [c0]:=zB dE h 0 0 3 1 rfl rfl rfl (by kernel_rfl);have h1:ya bo 3 [c1]:=zB dE h 1 1 3 1 rfl rfl rfl (by kernel_rfl);have h2:ya bo 9 [c2]:=zB dE h 2 2 9 1 rfl rfl rfl (by kernel_rfl);have h3:ya bo 9 [c3]:=zB dE h 3 3 9 1 rfl rfl rfl (by kernel_rfl);obtain⟨l,e4,k4,afG⟩:=(ih _ (List.mem_of_getElem? (i:=4) rfl)).2 rfl;obtain⟨n0,e0,k0⟩:=qG h0;obtain⟨n1,e1,k1⟩:=qG h1;obtain⟨n2,e2,k2⟩:=EK h2;obtain⟨n3,e3,k3⟩:=EK h3
   have agu:[c4]=[.vs 5 (yk l)]:=by rw[<- e4];exact(aQ (λn=>(List.drop 4 [c0,c1,c2,c3,c4]).take n) (show Tryz.prog.cellsOf 27=1 by kernel_rfl)).symm
   cases e0;cases e1;cases e2;cases e3;cases agu;exact⟨⟨n0,n1,n2,n3,l⟩,rfl,by rw[zVr];exact⟨k2,k4,afG⟩⟩
def znl{c:List V}(h:ya bo 29 c):∃e:Expr,c=vg e/\C2 e:=(zC7 h).1 rfl
def zC8(x:zj):Prop:=rD .i64 x.lz/\rD .i64 x.ly/\rD .i64 x.ln/\rD .i64 x.Den
def zQw{c:List V}(h:ya bo 31 c):∃x:zj,c=JR x/\zC8 x:=by
 have hl:=(ow eT h).1.trans (show Tryz.prog.cellsOf 31=4 by kernel_rfl)
 match c,hl,h with
 |[c0,c1,c2,c3],_,h =>
  have h0:ya bo 3 [c0]:=zB eT h 0 0 3 1 rfl rfl rfl (by kernel_rfl);have h1:ya bo 3 [c1]:=zB eT h 1 1 3 1 rfl rfl rfl (by kernel_rfl);have h2:ya bo 3 [c2]:=zB eT h 2 2 3 1 rfl rfl rfl (by kernel_rfl);have h3:ya bo 3 [c3]:=zB eT h 3 3 3 1 rfl rfl rfl (by kernel_rfl);obtain⟨n0,e0,k0⟩:=qG h0;obtain⟨n1,e1,k1⟩:=qG h1;obtain⟨n2,e2,k2⟩:=qG h2;obtain⟨n3,e3,k3⟩:=qG h3;cases e0;cases e1;cases e2;cases e3;exact⟨⟨n0,n1,n2,n3⟩,rfl,k0,k1,k2,k3⟩
def zMq(x:zd):Prop:=C1 x.aL/\(Ey C1) x.aB/\(Ey C1) x.Except/\rD .i64 x.gY/\rD .i64 x.gW/\rD .i64 x.hU/\True/\rD .i64 x.aM/\C2 x.Test/\zC8 x.zj/\rD .i64 x.Uses/\rD .i64 x.gS/\rD .i64 x.N
def zQx{c:List V}(h:ya bo 33 c):∃x:zd,c=KO x/\zMq x:=by
 have hl:=(ow cY h).1.trans (show Tryz.prog.cellsOf 33=20 by kernel_rfl)
 match c,hl,h with
 |[c0,c1,c2,c3,c4,c5,c6,c7,c8,c9,c10,c11,c12,c13,c14,c15,c16,c17,c18,c19],_,h =>
  have h0:ya bo 9 [c0]:=zB cY h 0 0 9 1 rfl rfl rfl (by kernel_rfl);have h1:ya bo 26 [c1]:=zB cY h 1 1 26 1 rfl rfl rfl (by kernel_rfl);have h2:ya bo 26 [c2]:=zB cY h 2 2 26 1 rfl rfl rfl (by kernel_rfl);have h3:ya bo 3 [c3]:=zB cY h 3 3 3 1 rfl rfl rfl (by kernel_rfl);have h4:ya bo 3 [c4]:=zB cY h 4 4 3 1 rfl rfl rfl (by kernel_rfl);have h5:ya bo 3 [c5]:=zB cY h 5 5 3 1 rfl rfl rfl (by kernel_rfl);have h6:ya bo 4 [c6]:=zB cY h 6 6 4 1 rfl rfl rfl (by kernel_rfl);have h7:ya bo 3 [c7]:=zB cY h 7 7 3 1 rfl rfl rfl (by kernel_rfl);have h8:ya bo 29 [c8,c9,c10,c11,c12]:=zB cY h 8 8 29 5 rfl rfl rfl (by kernel_rfl);have h9:ya bo 31 [c13,c14,c15,c16]:=zB cY h 9 13 31 4 rfl rfl rfl (by kernel_rfl);have p9:ya bo 3 [c17]:=zB cY h 10 17 3 1 rfl rfl rfl (by kernel_rfl);have p_:ya bo 3 [c18]:=zB cY h 11 18 3 1 rfl rfl rfl (by kernel_rfl);have Rn:ya bo 3 [c19]:=zB cY h 12 19 3 1 rfl rfl rfl (by kernel_rfl);obtain⟨n0,e0,k0⟩:=EK h0;obtain⟨n1,e1,k1⟩:=zC5 h1;obtain⟨n2,e2,k2⟩:=zC5 h2;obtain⟨n3,e3,k3⟩:=qG h3;obtain⟨n4,e4,k4⟩:=qG h4;obtain⟨n5,e5,k5⟩:=qG h5;obtain⟨n6,e6,k6⟩:=zVq h6;obtain⟨afD,e7,k7⟩:=qG h7;obtain⟨afE,e8,k8⟩:=znl h8;obtain⟨afF,e9,k9⟩:=zQw h9;obtain⟨agM,Rb,agA⟩:=qG p9;obtain⟨agN,ags,agB⟩:=qG p_;obtain⟨agO,agt,Bb⟩:=qG Rn;cases e0;cases e1;cases e2;cases e3;cases e4;cases e5;cases e6;cases e7;cases e8;cases e9;cases Rb;cases ags;cases agt;exact⟨⟨n0,n1,n2,n3,n4,n5,n6,afD,afE,afF,agM,agN,agO⟩,rfl,k0,k1,k2,k3,k4,k5,k6,k7,k8,k9,agA,agB,Bb⟩
def XP(x:zx):Prop:=rD .i64 x.X/\rD .i64 x.Y
def zQy{c:List V}(h:ya bo 93 c):∃x:zx,c=vu x/\XP x:=by
 have hl:=(ow gG h).1.trans (show Tryz.prog.cellsOf 93=2 by kernel_rfl)
 match c,hl,h with
 |[c0,c1],_,h =>
  have h0:ya bo 3 [c0]:=zB gG h 0 0 3 1 rfl rfl rfl (by kernel_rfl);have h1:ya bo 3 [c1]:=zB gG h 1 1 3 1 rfl rfl rfl (by kernel_rfl);obtain⟨n0,e0,k0⟩:=qG h0;obtain⟨n1,e1,k1⟩:=qG h1;cases e0;cases e1;exact⟨⟨n0,n1⟩,rfl,k0,k1⟩
def zQz{c:List V}(h:ya bo 34 c):∃l:List zx,c=[.vs 2 (l.map vu)]/\Ey XP l:=by obtain⟨els,rfl,hl,hx⟩:=WL Tryz.underlying34 h;obtain⟨l,rfl,h2⟩:=VO (λc h=>zQy h) hx;rw[bL]at hl;exact⟨l,by rw[show Tryz.prog.cellsOf 93=2 by kernel_rfl],hl,h2⟩
def Tk(x:zN):Prop:=rD .i64 x.aM/\C1 x.aL/\C1 x.Key/\rD .i64 x.N/\zMq x.zd/\C2 x.Body/\(Ey XP) x.aA
def zQ0{c:List V}(h:ya bo 36 c):∃x:zN,c=Hw x/\Tk x:=by
 have hl:=(ow dN h).1.trans (show Tryz.prog.cellsOf 36=30 by kernel_rfl)
 match c,hl,h with
 |[c0,c1,c2,c3,c4,c5,c6,c7,c8,c9,c10,c11,c12,c13,c14,c15,c16,c17,c18,c19,c20,po,DO,DP,DQ,DR,DS,DT,DU,G9],_,h =>
  have h0:ya bo 3 [c0]:=zB dN h 0 0 3 1 rfl rfl rfl (by kernel_rfl);have h1:ya bo 9 [c1]:=zB dN h 1 1 9 1 rfl rfl rfl (by kernel_rfl);have h2:ya bo 9 [c2]:=zB dN h 2 2 9 1 rfl rfl rfl (by kernel_rfl);have h3:ya bo 3 [c3]:=zB dN h 3 3 3 1 rfl rfl rfl (by kernel_rfl);have h4:ya bo 33 [c4,c5,c6,c7,c8,c9,c10,c11,c12,c13,c14,c15,c16,c17,c18,c19,c20,po,DO,DP]:=zB dN h 4 4 33 20 rfl rfl rfl (by kernel_rfl);have h5:ya bo 29 [DQ,DR,DS,DT,DU]:=zB dN h 5 24 29 5 rfl rfl rfl (by kernel_rfl);have h6:ya bo 34 [G9]:=zB dN h 6 29 34 1 rfl rfl rfl (by kernel_rfl);obtain⟨n0,e0,k0⟩:=qG h0;obtain⟨n1,e1,k1⟩:=EK h1;obtain⟨n2,e2,k2⟩:=EK h2;obtain⟨n3,e3,k3⟩:=qG h3;obtain⟨n4,e4,k4⟩:=zQx h4;obtain⟨n5,e5,k5⟩:=znl h5;obtain⟨n6,e6,k6⟩:=zQz h6;cases e0;cases e1;cases e2;cases e3;cases e4;cases e5;cases e6;exact⟨⟨n0,n1,n2,n3,n4,n5,n6⟩,rfl,k0,k1,k2,k3,k4,k5,k6⟩
def zQ1{c:List V}(h:ya bo 22 c):∃l:List zN,c=[.vs 30 (l.map Hw)]/\Ey Tk l:=by obtain⟨els,rfl,hl,hx⟩:=WL abx h;obtain⟨l,rfl,h2⟩:=VO (λc h=>zQ0 h) hx;rw[bL]at hl;exact⟨l,by rw[show Tryz.prog.cellsOf 36=30 by kernel_rfl],hl,h2⟩
section
variable{H:Type}{enc:TypeId×Value->H}{W:World}{b0:Nat}{r:Reach}{v:Value}{d:DataW H}{p:List MemPlace}{t:TypeId}
def zQ2(hv:Value.okWide bo W r b0 22 v)(h:DataW.Trod enc bo W 0 (λ_=>true) true 22 v d p):∃l:List zN,Ey Tk l/\aV none W.cell? (.vs 30 (List.map Hw l)) v:=by obtain⟨vs,h1,h2⟩:=zMm (by kernel_rfl) h;obtain⟨l,rfl,hl⟩:=zQ1 h1;exact⟨l,hl,zCs abx hv h2⟩
def zVs(hv:Value.okWide bo W r b0 9 v)(h:DataW.Trod enc bo W 0 (λ_=>true) true 9 v d p):∃s:ak,C1 s/\aV none W.cell? (.str s) v:=by obtain⟨vs,h1,h2⟩:=zMm (by kernel_rfl) h;obtain⟨s,rfl,hs⟩:=EK h1;obtain⟨s',rfl,_⟩:=Go.ChangeMaps.open_string dp hv h;obtain⟨x,xs,e1,h3,_⟩:=h2;cases e1;exact⟨s,hs,h3⟩
end
end Go.Proofs.YtmjfiffpolkdeaaGreatDoor
