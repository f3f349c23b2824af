/- texts that the proof reaches, part 9 -/
import Derived.Test.YtkmjhipiiifekaaGreatDoorKh
set_option linter.all false
open Bool renaming true->bg
open Go.Proofs.Tryz renaming prog->bj,underlying38->cG,underlying3->cT,underlying30->cV,underlying34->de,underlying41->dh,underlying43->dF,underlying32->dV,underlying36->dS,underlying75->dU,underlying79->dT,underlying70->eA,underlying72->ez,underlying77->eB,underlying134->eU,underlying113->eZ,underlying67->fw,underlying31->gu
open List renaming length_map->bM
open Option renaming none->bh
set_option maxRecDepth 100000
namespace Go.Proofs.YtkmjhipiiifekaaGreatDoor
open Go Go.ChangeShapes Go.WideShapes Go.ChangeAt Go.RowKit Go.Deep Go.Joins Go.EV
def oB{c:List V}(h:zn bj 9 c):∃s,c=EV.encS s/\pw s:=ztk Tryz.underlying9 h
def yA{c:List V}(h:zn bj 3 c):∃n,c=EV.encI n/\ma .i64 n:=ztj cT h
mutual
def sR:Expr->Prop
 |⟨_,_,s,_,args⟩=>s.length<=9223372036854775807/\args.length<=9223372036854775807/\Bs args
def Bs:List Expr->Prop
 |[]=>True
 |x::r=>sR x/\Bs r
end
def zB0(e:Expr):sR e=(e.S.length<=9223372036854775807/\e.fu.length<=9223372036854775807/\Bs e.fu):=by cases e;rw[sR]
def TY:∀{l:List Expr},(∀x∈l,sR x)->Bs l
 |[],_=>by rw[Bs];trivial
 |x::l,h=>by rw[Bs];exact⟨h x ak,TY λy hy=>h y (iT _ hy)⟩
def Te{α:Type}{enc:α->List V}{ok:α->Prop}:∀{els:List (List V)},(∀x∈els,∃a,x=enc a/\ok a)->∃l:List α,els=l.map enc/\∀a∈l,ok a
 |[],_=>⟨[],rfl,λ_ h=>by cases h⟩
 |c::els,h=>by
  obtain⟨a,rfl,ha⟩:=h c ak;obtain⟨l,rfl,hl⟩:=Te (λx hx=>h x (iT _ hx))
  exact⟨a::l,rfl,λb hb=>by
   rcases List.mem_cons.1 hb with rfl|hb
   .exact ha
   .exact hl b hb⟩
def zo9{t:TypeId}{cs:List V}(h:zn bj t cs):(t=34->∃e:Expr,cs=qx e/\sR e)/\(t=32->∃l:List Expr,cs=[.vs 5 (xq l)]/\l.length<=maxLen/\Bs l):=by
 induction h with
 |bool h|int h|str h=>exact⟨λe=>by (subst e;rw[de]at h;cases h),λe=>by subst e;rw[dV]at h;cases h⟩
 |array h=>exact⟨λe=>by (subst e;rw[de]at h;cases h),λe=>by subst e;rw[dV]at h;cases h⟩
 |other h=>exact⟨λe=>by (subst e;unfold o8 at h;rw[de]at h;cases h),λe=>by subst e;unfold o8 at h;rw[dV]at h;cases h⟩
 |slice h hl hx ih =>
  refine⟨λe=>by (subst e;rw[de]at h;cases h),λe=>?_⟩;subst e;rw[dV]at h;cases h;obtain⟨l,rfl,h2⟩:=Te (λx z_=>(ih x z_).1 rfl);rw[bM]at hl;exact⟨l,by rw[show Tryz.prog.cellsOf 34=5 by kernel_rfl,o9],hl,TY h2⟩
 |@struct t' fs ly h hc hx ih =>
  refine⟨λe=>?_,λe=>by subst e;rw[dV]at h;cases h⟩;subst e;have pU:zn bj 34 ly:=.struct h hc hx;rw[de]at h;cases h;have hl:=hc.trans (show Tryz.prog.cellsOf 34=5 by kernel_rfl);clear hc
  match ly,hl,pU,ih with
  |[c0,c1,c2,c3,c4],_,h,ih =>
   have h0:zn bj 3 [c0]:=zf de h 0 0 3 1 rfl rfl rfl (by kernel_rfl);have h1:zn bj 3 [c1]:=zf de h 1 1 3 1 rfl rfl rfl (by kernel_rfl);have h2:zn bj 9 [c2]:=zf de h 2 2 9 1 rfl rfl rfl (by kernel_rfl);have h3:zn bj 9 [c3]:=zf de h 3 3 9 1 rfl rfl rfl (by kernel_rfl);obtain⟨l,e4,k4,aac⟩:=(ih _ (List.mem_of_getElem? (i:=4) rfl)).2 rfl;obtain⟨n0,e0,k0⟩:=yA h0;obtain⟨n1,e1,k1⟩:=yA h1;obtain⟨n2,e2,k2⟩:=oB h2;obtain⟨n3,e3,k3⟩:=oB h3
   have aaL:[c4]=[.vs 5 (xq l)]:=by rw[<- e4];exact(aP (λn=>(List.drop 4 [c0,c1,c2,c3,c4]).take n) (show Tryz.prog.cellsOf 32=1 by kernel_rfl)).symm
   cases e0;cases e1;cases e2;cases e3;cases aaL;exact⟨⟨n0,n1,n2,n3,l⟩,rfl,by rw[zB0];exact⟨k2,k4,aac⟩⟩
def V7{c:List V}(h:zn bj 34 c):∃e:Expr,c=qx e/\sR e:=(zo9 h).1 rfl
def MH(x:Def):Prop:=pw x.aK/\sR x.Body
def zx5{c:List V}(h:zn bj 67 c):∃x:Def,c=VT x/\MH x:=by
 have hl:=(z7 fw h).1.trans (show Tryz.prog.cellsOf 67=6 by kernel_rfl)
 match c,hl,h with
 |[c0,c1,c2,c3,c4,c5],_,h =>
  have h0:zn bj 9 [c0]:=zf fw h 0 0 9 1 rfl rfl rfl (by kernel_rfl);have h1:zn bj 34 [c1,c2,c3,c4,c5]:=zf fw h 1 1 34 5 rfl rfl rfl (by kernel_rfl);obtain⟨n0,e0,k0⟩:=oB h0;obtain⟨n1,e1,k1⟩:=V7 h1;cases e0;cases e1;exact⟨⟨n0,n1⟩,rfl,k0,k1⟩
def zx6{c:List V}(h:zn bj 22 c):∃l:List Def,c=[.vs 6 (l.map VT)]/\Qi MH l:=by obtain⟨els,rfl,hl,hx⟩:=xB Tryz.underlying22 h;obtain⟨l,rfl,h2⟩:=xS (λc h=>zx5 h) hx;rw[bM]at hl;exact⟨l,by rw[show Tryz.prog.cellsOf 67=6 by kernel_rfl],hl,h2⟩
def LS(x:av):Prop:=pw x.aK/\ma .i64 x.N
def zts{c:List V}(h:zn bj 134 c):∃x:av,c=Aa x/\LS x:=by
 have hl:=(z7 eU h).1.trans (show Tryz.prog.cellsOf 134=2 by kernel_rfl)
 match c,hl,h with
 |[c0,c1],_,h =>
  have h0:zn bj 9 [c0]:=zf eU h 0 0 9 1 rfl rfl rfl (by kernel_rfl);have h1:zn bj 3 [c1]:=zf eU h 1 1 3 1 rfl rfl rfl (by kernel_rfl);obtain⟨n0,e0,k0⟩:=oB h0;obtain⟨n1,e1,k1⟩:=yA h1;cases e0;cases e1;exact⟨⟨n0,n1⟩,rfl,k0,k1⟩
def zx7{c:List V}(h:zn bj 68 c):∃l:List av,c=[.vs 2 (l.map Aa)]/\Qi LS l:=by obtain⟨els,rfl,hl,hx⟩:=xB Tryz.underlying68 h;obtain⟨l,rfl,h2⟩:=xS (λc h=>zts h) hx;rw[bM]at hl;exact⟨l,by rw[show Tryz.prog.cellsOf 134=2 by kernel_rfl],hl,h2⟩
def LU(x:ar):Prop:=pw x.aK/\(Qi LS) x.Rows/\ma .i64 x.mD
def zx8{c:List V}(h:zn bj 70 c):∃x:ar,c=Ab x/\LU x:=by
 have hl:=(z7 eA h).1.trans (show Tryz.prog.cellsOf 70=3 by kernel_rfl)
 match c,hl,h with
 |[c0,c1,c2],_,h =>
  have h0:zn bj 9 [c0]:=zf eA h 0 0 9 1 rfl rfl rfl (by kernel_rfl);have h1:zn bj 68 [c1]:=zf eA h 1 1 68 1 rfl rfl rfl (by kernel_rfl);have h2:zn bj 3 [c2]:=zf eA h 2 2 3 1 rfl rfl rfl (by kernel_rfl);obtain⟨n0,e0,k0⟩:=oB h0;obtain⟨n1,e1,k1⟩:=zx7 h1;obtain⟨n2,e2,k2⟩:=yA h2;cases e0;cases e1;cases e2;exact⟨⟨n0,n1,n2⟩,rfl,k0,k1,k2⟩
def zx9{c:List V}(h:zn bj 23 c):∃l:List ar,c=[.vs 3 (l.map Ab)]/\Qi LU l:=by obtain⟨els,rfl,hl,hx⟩:=xB Tryz.underlying23 h;obtain⟨l,rfl,h2⟩:=xS (λc h=>zx8 h) hx;rw[bM]at hl;exact⟨l,by rw[show Tryz.prog.cellsOf 70=3 by kernel_rfl],hl,h2⟩
def UL{c:List V}(h:zn bj 4 c):∃b:Bool,c=[.bool b]/\True:=by obtain⟨b,e⟩:=zos Tryz.underlying4 h;exact⟨b,e,trivial⟩
def V8(x:zt):Prop:=ma .i64 x.X/\ma .i64 x.Y
def ztt{c:List V}(h:zn bj 113 c):∃x:zt,c=kY x/\V8 x:=by
 have hl:=(z7 eZ h).1.trans (show Tryz.prog.cellsOf 113=2 by kernel_rfl)
 match c,hl,h with
 |[c0,c1],_,h =>
  have h0:zn bj 3 [c0]:=zf eZ h 0 0 3 1 rfl rfl rfl (by kernel_rfl);have h1:zn bj 3 [c1]:=zf eZ h 1 1 3 1 rfl rfl rfl (by kernel_rfl);obtain⟨n0,e0,k0⟩:=yA h0;obtain⟨n1,e1,k1⟩:=yA h1;cases e0;cases e1;exact⟨⟨n0,n1⟩,rfl,k0,k1⟩
def LV{c:List V}(h:zn bj 39 c):∃l:List zt,c=[.vs 2 (l.map kY)]/\Qi V8 l:=by obtain⟨els,rfl,hl,hx⟩:=xB Tryz.underlying39 h;obtain⟨l,rfl,h2⟩:=xS (λc h=>ztt h) hx;rw[bM]at hl;exact⟨l,by rw[show Tryz.prog.cellsOf 113=2 by kernel_rfl],hl,h2⟩
def Mj(x:zq):Prop:=pw x.aK/\True/\(Qi V8) x.ay
def zya{c:List V}(h:zn bj 72 c):∃x:zq,c=JD x/\Mj x:=by
 have hl:=(z7 ez h).1.trans (show Tryz.prog.cellsOf 72=3 by kernel_rfl)
 match c,hl,h with
 |[c0,c1,c2],_,h =>
  have h0:zn bj 9 [c0]:=zf ez h 0 0 9 1 rfl rfl rfl (by kernel_rfl);have h1:zn bj 4 [c1]:=zf ez h 1 1 4 1 rfl rfl rfl (by kernel_rfl);have h2:zn bj 39 [c2]:=zf ez h 2 2 39 1 rfl rfl rfl (by kernel_rfl);obtain⟨n0,e0,k0⟩:=oB h0;obtain⟨n1,e1,k1⟩:=UL h1;obtain⟨n2,e2,k2⟩:=LV h2;cases e0;cases e1;cases e2;exact⟨⟨n0,n1,n2⟩,rfl,k0,k1,k2⟩
def zyb{c:List V}(h:zn bj 24 c):∃l:List zq,c=[.vs 3 (l.map JD)]/\Qi Mj l:=by obtain⟨els,rfl,hl,hx⟩:=xB Tryz.underlying24 h;obtain⟨l,rfl,h2⟩:=xS (λc h=>zya h) hx;rw[bM]at hl;exact⟨l,by rw[show Tryz.prog.cellsOf 72=3 by kernel_rfl],hl,h2⟩
def LW{c:List V}(h:zn bj 31 c):∃l:List aj,c=[.vs 1 (l.map EV.encS)]/\Qi pw l:=by obtain⟨els,rfl,hl,hx⟩:=xB gu h;obtain⟨l,rfl,h2⟩:=xS (λc h=>oB h) hx;rw[bM]at hl;exact⟨l,by rw[show Tryz.prog.cellsOf 9=1 by kernel_rfl],hl,h2⟩
def T_(x:zg):Prop:=ma .i64 x.me/\ma .i64 x.mb/\ma .i64 x.l8/\ma .i64 x.Den
def zyc{c:List V}(h:zn bj 36 c):∃x:zg,c=VU x/\T_ x:=by
 have hl:=(z7 dS h).1.trans (show Tryz.prog.cellsOf 36=4 by kernel_rfl)
 match c,hl,h with
 |[c0,c1,c2,c3],_,h =>
  have h0:zn bj 3 [c0]:=zf dS h 0 0 3 1 rfl rfl rfl (by kernel_rfl);have h1:zn bj 3 [c1]:=zf dS h 1 1 3 1 rfl rfl rfl (by kernel_rfl);have h2:zn bj 3 [c2]:=zf dS h 2 2 3 1 rfl rfl rfl (by kernel_rfl);have h3:zn bj 3 [c3]:=zf dS h 3 3 3 1 rfl rfl rfl (by kernel_rfl);obtain⟨n0,e0,k0⟩:=yA h0;obtain⟨n1,e1,k1⟩:=yA h1;obtain⟨n2,e2,k2⟩:=yA h2;obtain⟨n3,e3,k3⟩:=yA h3;cases e0;cases e1;cases e2;cases e3;exact⟨⟨n0,n1,n2,n3⟩,rfl,k0,k1,k2,k3⟩
def F8(x:za):Prop:=pw x.aK/\(Qi pw) x.aA/\(Qi pw) x.Except/\ma .i64 x.il/\ma .i64 x.hJ/\ma .i64 x.iI/\True/\ma .i64 x.aL/\sR x.Test/\T_ x.zg/\ma .i64 x.Uses/\ma .i64 x.iD/\ma .i64 x.N
def T'{c:List V}(h:zn bj 38 c):∃x:za,c=JE x/\F8 x:=by
 have hl:=(z7 cG h).1.trans (show Tryz.prog.cellsOf 38=20 by kernel_rfl)
 match c,hl,h with
 |[c0,c1,c2,c3,c4,c5,c6,c7,c8,c9,iE,iK,iQ,iF,iL,iX,lV,pX,pY,pZ],_,h =>
  have h0:zn bj 9 [c0]:=zf cG h 0 0 9 1 rfl rfl rfl (by kernel_rfl);have h1:zn bj 31 [c1]:=zf cG h 1 1 31 1 rfl rfl rfl (by kernel_rfl);have h2:zn bj 31 [c2]:=zf cG h 2 2 31 1 rfl rfl rfl (by kernel_rfl);have h3:zn bj 3 [c3]:=zf cG h 3 3 3 1 rfl rfl rfl (by kernel_rfl);have h4:zn bj 3 [c4]:=zf cG h 4 4 3 1 rfl rfl rfl (by kernel_rfl);have h5:zn bj 3 [c5]:=zf cG h 5 5 3 1 rfl rfl rfl (by kernel_rfl);have h6:zn bj 4 [c6]:=zf cG h 6 6 4 1 rfl rfl rfl (by kernel_rfl);have h7:zn bj 3 [c7]:=zf cG h 7 7 3 1 rfl rfl rfl (by kernel_rfl);have h8:zn bj 34 [c8,c9,iE,iK,iQ]:=zf cG h 8 8 34 5 rfl rfl rfl (by kernel_rfl);have h9:zn bj 36 [iF,iL,iX,lV]:=zf cG h 9 13 36 4 rfl rfl rfl (by kernel_rfl);have sG:zn bj 3 [pX]:=zf cG h 10 17 3 1 rfl rfl rfl (by kernel_rfl);have sg:zn bj 3 [pY]:=zf cG h 11 18 3 1 rfl rfl rfl (by kernel_rfl);have rz:zn bj 3 [pZ]:=zf cG h 12 19 3 1 rfl rfl rfl (by kernel_rfl);obtain⟨n0,e0,k0⟩:=oB h0;obtain⟨n1,e1,k1⟩:=LW h1;obtain⟨n2,e2,k2⟩:=LW h2;obtain⟨n3,e3,k3⟩:=yA h3;obtain⟨n4,e4,k4⟩:=yA h4;obtain⟨n5,e5,k5⟩:=yA h5;obtain⟨n6,e6,k6⟩:=UL h6;obtain⟨n7,e7,k7⟩:=yA h7;obtain⟨n8,e8,k8⟩:=V7 h8;obtain⟨aaa,e9,k9⟩:=zyc h9;obtain⟨abg,aaI,E0⟩:=yA sG;obtain⟨abh,aaJ,O3⟩:=yA sg;obtain⟨abi,aaK,O4⟩:=yA rz;cases e0;cases e1;cases e2;cases e3;cases e4;cases e5;cases e6;cases e7;cases e8;cases e9;cases aaI;cases aaJ;cases aaK;exact⟨⟨n0,n1,n2,n3,n4,n5,n6,n7,n8,aaa,abg,abh,abi⟩,rfl,k0,k1,k2,k3,k4,k5,k6,k7,k8,k9,E0,O3,O4⟩
def zyd{c:List V}(h:zn bj 25 c):∃l:List za,c=[.vs 20 (l.map JE)]/\Qi F8 l:=by obtain⟨els,rfl,hl,hx⟩:=xB Tryz.underlying25 h;obtain⟨l,rfl,h2⟩:=xS (λc h=>T' h) hx;rw[bM]at hl;exact⟨l,by rw[show Tryz.prog.cellsOf 38=20 by kernel_rfl],hl,h2⟩
def MQ(x:eC):Prop:=pw x.aK/\ma .i64 x.oS/\ma .i64 x.mM/\(Qi V8) x.ay
def zyf{c:List V}(h:zn bj 75 c):∃x:eC,c=VV x/\MQ x:=by
 have hl:=(z7 dU h).1.trans (show Tryz.prog.cellsOf 75=4 by kernel_rfl)
 match c,hl,h with
 |[c0,c1,c2,c3],_,h =>
  have h0:zn bj 9 [c0]:=zf dU h 0 0 9 1 rfl rfl rfl (by kernel_rfl);have h1:zn bj 3 [c1]:=zf dU h 1 1 3 1 rfl rfl rfl (by kernel_rfl);have h2:zn bj 3 [c2]:=zf dU h 2 2 3 1 rfl rfl rfl (by kernel_rfl);have h3:zn bj 39 [c3]:=zf dU h 3 3 39 1 rfl rfl rfl (by kernel_rfl);obtain⟨n0,e0,k0⟩:=oB h0;obtain⟨n1,e1,k1⟩:=yA h1;obtain⟨n2,e2,k2⟩:=yA h2;obtain⟨n3,e3,k3⟩:=LV h3;cases e0;cases e1;cases e2;cases e3;exact⟨⟨n0,n1,n2,n3⟩,rfl,k0,k1,k2,k3⟩
def zyg{c:List V}(h:zn bj 26 c):∃l:List eC,c=[.vs 4 (l.map VV)]/\Qi MQ l:=by obtain⟨els,rfl,hl,hx⟩:=xB Tryz.underlying26 h;obtain⟨l,rfl,h2⟩:=xS (λc h=>zyf h) hx;rw[bM]at hl;exact⟨l,by rw[show Tryz.prog.cellsOf 75=4 by kernel_rfl],hl,h2⟩
def JW(x:zh):Prop:=ma .i64 x.X/\ma .i64 x.Y/\ma .i64 x.Z_
def Ua{c:List V}(h:zn bj 77 c):∃x:zh,c=kz x/\JW x:=by
 have hl:=(z7 eB h).1.trans (show Tryz.prog.cellsOf 77=3 by kernel_rfl)
 match c,hl,h with
 |[c0,c1,c2],_,h =>
  have h0:zn bj 3 [c0]:=zf eB h 0 0 3 1 rfl rfl rfl (by kernel_rfl);have h1:zn bj 3 [c1]:=zf eB h 1 1 3 1 rfl rfl rfl (by kernel_rfl);have h2:zn bj 3 [c2]:=zf eB h 2 2 3 1 rfl rfl rfl (by kernel_rfl);obtain⟨n0,e0,k0⟩:=yA h0;obtain⟨n1,e1,k1⟩:=yA h1;obtain⟨n2,e2,k2⟩:=yA h2;cases e0;cases e1;cases e2;exact⟨⟨n0,n1,n2⟩,rfl,k0,k1,k2⟩
def Ub{c:List V}(h:zn bj 28 c):∃l:List zh,c=[.vs 3 (l.map kz)]/\Qi JW l:=by obtain⟨els,rfl,hl,hx⟩:=xB Tryz.underlying28 h;obtain⟨l,rfl,h2⟩:=xS (λc h=>Ua h) hx;rw[bM]at hl;exact⟨l,by rw[show Tryz.prog.cellsOf 77=3 by kernel_rfl],hl,h2⟩
def Mk(x:au):Prop:=pw x.aK/\JW x.l3/\ma .i64 x.oU/\(Qi JW) x.lL
def zyh{c:List V}(h:zn bj 79 c):∃x:au,c=JF x/\Mk x:=by
 have hl:=(z7 dT h).1.trans (show Tryz.prog.cellsOf 79=6 by kernel_rfl)
 match c,hl,h with
 |[c0,c1,c2,c3,c4,c5],_,h =>
  have h0:zn bj 9 [c0]:=zf dT h 0 0 9 1 rfl rfl rfl (by kernel_rfl);have h1:zn bj 77 [c1,c2,c3]:=zf dT h 1 1 77 3 rfl rfl rfl (by kernel_rfl);have h2:zn bj 3 [c4]:=zf dT h 2 4 3 1 rfl rfl rfl (by kernel_rfl);have h3:zn bj 28 [c5]:=zf dT h 3 5 28 1 rfl rfl rfl (by kernel_rfl);obtain⟨n0,e0,k0⟩:=oB h0;obtain⟨n1,e1,k1⟩:=Ua h1;obtain⟨n2,e2,k2⟩:=yA h2;obtain⟨n3,e3,k3⟩:=Ub h3;cases e0;cases e1;cases e2;cases e3;exact⟨⟨n0,n1,n2,n3⟩,rfl,k0,k1,k2,k3⟩
def zyi{c:List V}(h:zn bj 27 c):∃l:List au,c=[.vs 6 (l.map JF)]/\Qi Mk l:=by obtain⟨els,rfl,hl,hx⟩:=xB Tryz.underlying27 h;obtain⟨l,rfl,h2⟩:=xS (λc h=>zyh h) hx;rw[bM]at hl;exact⟨l,by rw[show Tryz.prog.cellsOf 79=6 by kernel_rfl],hl,h2⟩
def UM(x:yf):Prop:=(Qi MH) x.aE/\(Qi LU) x.Tables/\(Qi Mj) x.aA/\(Qi F8) x.aB/\(Qi MQ) x.aI/\(Qi Mk) x.aF/\(Qi JW) x.aJ/\ma .i64 x.aG
def zyj{c:List V}(h:zn bj 30 c):∃x:yf,c=A6 x/\UM x:=by
 have hl:=(z7 cV h).1.trans (show Tryz.prog.cellsOf 30=8 by kernel_rfl)
 match c,hl,h with
 |[c0,c1,c2,c3,c4,c5,c6,c7],_,h =>
  have h0:zn bj 22 [c0]:=zf cV h 0 0 22 1 rfl rfl rfl (by kernel_rfl);have h1:zn bj 23 [c1]:=zf cV h 1 1 23 1 rfl rfl rfl (by kernel_rfl);have h2:zn bj 24 [c2]:=zf cV h 2 2 24 1 rfl rfl rfl (by kernel_rfl);have h3:zn bj 25 [c3]:=zf cV h 3 3 25 1 rfl rfl rfl (by kernel_rfl);have h4:zn bj 26 [c4]:=zf cV h 4 4 26 1 rfl rfl rfl (by kernel_rfl);have h5:zn bj 27 [c5]:=zf cV h 5 5 27 1 rfl rfl rfl (by kernel_rfl);have h6:zn bj 28 [c6]:=zf cV h 6 6 28 1 rfl rfl rfl (by kernel_rfl);have h7:zn bj 3 [c7]:=zf cV h 7 7 3 1 rfl rfl rfl (by kernel_rfl);obtain⟨n0,e0,k0⟩:=zx6 h0;obtain⟨n1,e1,k1⟩:=zx9 h1;obtain⟨n2,e2,k2⟩:=zyb h2;obtain⟨n3,e3,k3⟩:=zyd h3;obtain⟨n4,e4,k4⟩:=zyg h4;obtain⟨n5,e5,k5⟩:=zyi h5;obtain⟨n6,e6,k6⟩:=Ub h6;obtain⟨n7,e7,k7⟩:=yA h7;cases e0;cases e1;cases e2;cases e3;cases e4;cases e5;cases e6;cases e7;exact⟨⟨n0,n1,n2,n3,n4,n5,n6,n7⟩,rfl,k0,k1,k2,k3,k4,k5,k6,k7⟩
def UN(x:zA):Prop:=ma .i64 x.aL/\pw x.aK/\pw x.Key/\ma .i64 x.N/\F8 x.za/\sR x.Body/\(Qi V8) x.ay
def zyk{c:List V}(h:zn bj 41 c):∃x:zA,c=A7 x/\UN x:=by
 have hl:=(z7 dh h).1.trans (show Tryz.prog.cellsOf 41=30 by kernel_rfl)
 match c,hl,h with
 |[c0,c1,c2,c3,c4,c5,c6,c7,c8,c9,iE,iK,iQ,iF,iL,iX,lV,pX,pY,pZ,oW,pF,rY,rq,rZ,th,tj,tk,tl,sc],_,h =>
  have h0:zn bj 3 [c0]:=zf dh h 0 0 3 1 rfl rfl rfl (by kernel_rfl);have h1:zn bj 9 [c1]:=zf dh h 1 1 9 1 rfl rfl rfl (by kernel_rfl);have h2:zn bj 9 [c2]:=zf dh h 2 2 9 1 rfl rfl rfl (by kernel_rfl);have h3:zn bj 3 [c3]:=zf dh h 3 3 3 1 rfl rfl rfl (by kernel_rfl);have h4:zn bj 38 [c4,c5,c6,c7,c8,c9,iE,iK,iQ,iF,iL,iX,lV,pX,pY,pZ,oW,pF,rY,rq]:=zf dh h 4 4 38 20 rfl rfl rfl (by kernel_rfl);have h5:zn bj 34 [rZ,th,tj,tk,tl]:=zf dh h 5 24 34 5 rfl rfl rfl (by kernel_rfl);have h6:zn bj 39 [sc]:=zf dh h 6 29 39 1 rfl rfl rfl (by kernel_rfl);obtain⟨n0,e0,k0⟩:=yA h0;obtain⟨n1,e1,k1⟩:=oB h1;obtain⟨n2,e2,k2⟩:=oB h2;obtain⟨n3,e3,k3⟩:=yA h3;obtain⟨n4,e4,k4⟩:=T' h4;obtain⟨n5,e5,k5⟩:=V7 h5;obtain⟨n6,e6,k6⟩:=LV h6;cases e0;cases e1;cases e2;cases e3;cases e4;cases e5;cases e6;exact⟨⟨n0,n1,n2,n3,n4,n5,n6⟩,rfl,k0,k1,k2,k3,k4,k5,k6⟩
def UO(x:yl):Prop:=ma .i64 x.X0/\ma .i64 x.Y0/\ma .i64 x.X1/\ma .i64 x.Y1
def zyl{c:List V}(h:zn bj 43 c):∃x:yl,c=A8 x/\UO x:=by
 have hl:=(z7 dF h).1.trans (show Tryz.prog.cellsOf 43=4 by kernel_rfl)
 match c,hl,h with
 |[c0,c1,c2,c3],_,h =>
  have h0:zn bj 3 [c0]:=zf dF h 0 0 3 1 rfl rfl rfl (by kernel_rfl);have h1:zn bj 3 [c1]:=zf dF h 1 1 3 1 rfl rfl rfl (by kernel_rfl);have h2:zn bj 3 [c2]:=zf dF h 2 2 3 1 rfl rfl rfl (by kernel_rfl);have h3:zn bj 3 [c3]:=zf dF h 3 3 3 1 rfl rfl rfl (by kernel_rfl);obtain⟨n0,e0,k0⟩:=yA h0;obtain⟨n1,e1,k1⟩:=yA h1;obtain⟨n2,e2,k2⟩:=yA h2;obtain⟨n3,e3,k3⟩:=yA h3;cases e0;cases e1;cases e2;cases e3;exact⟨⟨n0,n1,n2,n3⟩,rfl,k0,k1,k2,k3⟩
section
variable{H:Type}{enc:TypeId×Value->H}{W:World}{b0:Nat}{r:Reach}{v:Value}{d:DataW H}{p:List MemPlace}{t:TypeId}
def zym(hv:Value.okWide bj W r b0 30 v)(h:DataW.Trod enc bj W 0 (λ_=>bg) bg 30 v d p):∃x:yf,UM x/\dQ bh W.cell? (.agg (A6 x)) v:=by obtain⟨vs,h1,h2⟩:=DR (by kernel_rfl) h;obtain⟨x,rfl,hx⟩:=zyj h1;obtain⟨cs,rfl,_⟩:=okWide_struct cV hv;exact⟨x,hx,cs.toList,ae,h2⟩
def zyn(hv:Value.okWide bj W r b0 41 v)(h:DataW.Trod enc bj W 0 (λ_=>bg) bg 41 v d p):∃x:zA,UN x/\dQ bh W.cell? (.agg (A7 x)) v:=by obtain⟨vs,h1,h2⟩:=DR (by kernel_rfl) h;obtain⟨x,rfl,hx⟩:=zyk h1;obtain⟨cs,rfl,_⟩:=okWide_struct dh hv;exact⟨x,hx,cs.toList,ae,h2⟩
def zyo(hv:Value.okWide bj W r b0 31 v)(h:DataW.Trod enc bj W 0 (λ_=>bg) bg 31 v d p):∃l:List aj,Qi pw l/\dQ bh W.cell? (.vs 1 (List.map EV.encS l)) v:=by obtain⟨vs,h1,h2⟩:=DR (by kernel_rfl) h;obtain⟨l,rfl,hl⟩:=LW h1;exact⟨l,hl,zot gu hv h2⟩
def open_3(hv:Value.okWide bj W r b0 3 v)(h:DataW.Trod enc bj W 0 (λ_=>bg) bg 3 v d p):∃n:Int,ma .i64 n/\dQ bh W.cell? (.int .i64 n) v:=by obtain⟨vs,h1,h2⟩:=DR (by kernel_rfl) h;obtain⟨s,rfl,hs⟩:=yA h1;obtain⟨n,rfl,_⟩:=open_int cT hv h;obtain⟨x,xs,e1,h3,_⟩:=h2;cases e1;exact⟨s,hs,h3⟩
def zyp(hv:Value.okWide bj W r b0 43 v)(h:DataW.Trod enc bj W 0 (λ_=>bg) bg 43 v d p):∃x:yl,UO x/\dQ bh W.cell? (.agg (A8 x)) v:=by obtain⟨vs,h1,h2⟩:=DR (by kernel_rfl) h;obtain⟨x,rfl,hx⟩:=zyl h1;obtain⟨cs,rfl,_⟩:=okWide_struct dF hv;exact⟨x,hx,cs.toList,ae,h2⟩
end
end Go.Proofs.YtkmjhipiiifekaaGreatDoor
