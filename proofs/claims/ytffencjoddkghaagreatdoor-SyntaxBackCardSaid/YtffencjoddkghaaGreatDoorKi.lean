/- texts that the proof reaches, part 9 -/
import Derived.Test.YtffencjoddkghaaGreatDoorKh
set_option linter.all false
set_option maxRecDepth 100000
namespace Go.Proofs.YtffencjoddkghaaGreatDoor
open Go Go.ChangeShapes Go.WideShapes Go.ChangeAt Go.RowKit Go.Deep Go.Joins Go.EV
def QN{c:List V}(h:zG Tryz.prog 9 c):∃s,c=EV.zO8 s/\okS s:=zI0 Tryz.underlying9 h
def vB{c:List V}(h:zG Tryz.prog 3 c):∃n,c=EV.encI n/\okK .i64 n:=zIz Tryz.underlying3 h
mutual
def okX:Expr->Prop
 |⟨_,_,s,_,args⟩=>s.length<=9223372036854775807/\args.length<=9223372036854775807/\zQ0 args
def zQ0:List Expr->Prop
 |[]=>True
 |x::r=>okX x/\zQ0 r
end
def zV1(e:Expr):okX e=(e.S.length<=9223372036854775807/\e.Args.length<=9223372036854775807/\zQ0 e.Args):=by cases e;rw[okX]
def zCu:∀{l:List Expr},(∀x∈l,okX x)->zQ0 l
 |[],_=>by rw[zQ0];trivial
 |x::l,h=>by rw[zQ0];exact⟨h x al,zCu λy hy=>h y (mcQ _ hy)⟩
def zul{α:Type}{enc:α->List V}{ok:α->Prop}:∀{els:List (List V)},(∀x∈els,∃a,x=enc a/\ok a)->∃l:List α,els=l.map enc/\∀a∈l,ok a
 |[],_=>⟨[],rfl,λ_ h=>by cases h⟩
 |c::els,h=>by
  obtain⟨a,rfl,ha⟩:=h c al;obtain⟨l,rfl,hl⟩:=zul (λx hx=>h x (mcQ _ hx))
  exact⟨a::l,rfl,λb hb=>by
   rcases List.mem_cons.1 hb with rfl|hb
   ·exact ha
   ·exact hl b hb⟩
def zCv{t:TypeId}{cs:List V}(h:zG Tryz.prog t cs):(t=37->∃e:Expr,cs=vv e/\okX e)/\(t=35->∃l:List Expr,cs=[.vs 5 (yK l)]/\l.length<=maxLen/\zQ0 l):=by
 induction h with
 |bool h|int h|str h=>exact⟨λe=>by (subst e;rw[Tryz.underlying37]at h;cases h),λe=>by subst e;rw[Tryz.underlying35]at h;cases h⟩
 |array h=>exact⟨λe=>by (subst e;rw[Tryz.underlying37]at h;cases h),λe=>by subst e;rw[Tryz.underlying35]at h;cases h⟩
 |other h=>exact⟨λe=>by (subst e;unfold Kl at h;rw[Tryz.underlying37]at h;cases h),λe=>by subst e;unfold Kl at h;rw[Tryz.underlying35]at h;cases h⟩
 |slice h hl hx ih =>
  refine⟨λe=>by (subst e;rw[Tryz.underlying37]at h;cases h),λe=>?_⟩;subst e;rw[Tryz.underlying35]at h;cases h;obtain⟨l,rfl,h2⟩:=zul (λx hx'=>(ih x hx').1 rfl);rw[List.length_map]at hl;exact⟨l,by rw[show Tryz.prog.cellsOf 37=5 by kernel_rfl,j8],hl,zCu h2⟩
 |@struct t' fs cs' h hc hx ih =>
  refine⟨λe=>?_,λe=>by subst e;rw[Tryz.underlying35]at h;cases h⟩;subst e;have hall:zG Tryz.prog 37 cs':=.struct h hc hx;rw[Tryz.underlying37]at h;cases h;have hl:=hc.trans (show Tryz.prog.cellsOf 37=5 by kernel_rfl);clear hc
  match cs',hl,hall,ih with
  |[c0,c1,c2,c3,c4],_,h,ih =>
   have h0:zG Tryz.prog 3 [c0]:=zn Tryz.underlying37 h 0 0 3 1 rfl rfl rfl aj;have h1:zG Tryz.prog 3 [c1]:=zn Tryz.underlying37 h 1 1 3 1 rfl rfl rfl aj;have h2:zG Tryz.prog 9 [c2]:=zn Tryz.underlying37 h 2 2 9 1 rfl rfl rfl aj;have h3:zG Tryz.prog 9 [c3]:=zn Tryz.underlying37 h 3 3 9 1 rfl rfl rfl aj;obtain⟨l,e4,k4,o4⟩:=(ih _ (List.mem_of_getElem? (i:=4) rfl)).2 rfl;obtain⟨n0,e0,k0⟩:=vB h0;obtain⟨n1,e1,k1⟩:=vB h1;obtain⟨n2,e2,k2⟩:=QN h2;obtain⟨n3,e3,k3⟩:=QN h3
   have e4':[c4]=[.vs 5 (yK l)]:=by
    rw[<- e4];exact(congrArg (λn=>(List.drop 4 [c0,c1,c2,c3,c4]).take n) (show Tryz.prog.cellsOf 35=1 by kernel_rfl)).symm
   cases e0;cases e1;cases e2;cases e3;cases e4';exact⟨⟨n0,n1,n2,n3,l⟩,rfl,by rw[zV1];exact⟨k2,k4,o4⟩⟩
def znv{c:List V}(h:zG Tryz.prog 37 c):∃e:Expr,c=vv e/\okX e:=(zCv h).1 rfl
def zQ1(x:Def):Prop:=okS x.Name/\okX x.Body
def zQ2{c:List V}(h:zG Tryz.prog 57 c):∃x:Def,c=Q6 x/\zQ1 x:=by
 have hl:=(xv Tryz.underlying57 h).1.trans (show Tryz.prog.cellsOf 57=6 by kernel_rfl)
 match c,hl,h with
 |[c0,c1,c2,c3,c4,c5],_,h =>
  have h0:zG Tryz.prog 9 [c0]:=zn Tryz.underlying57 h 0 0 9 1 rfl rfl rfl aj;have h1:zG Tryz.prog 37 [c1,c2,c3,c4,c5]:=zn Tryz.underlying57 h 1 1 37 5 rfl rfl rfl aj;obtain⟨n0,e0,k0⟩:=QN h0;obtain⟨n1,e1,k1⟩:=znv h1;cases e0;cases e1;exact⟨⟨n0,n1⟩,rfl,k0,k1⟩
def zQ3{c:List V}(h:zG Tryz.prog 23 c):∃l:List Def,c=[.vs 6 (l.map Q6)]/\zcq zQ1 l:=by
 obtain⟨els,rfl,hl,hx⟩:=vm Tryz.underlying23 h;obtain⟨l,rfl,h2⟩:=vF (λc h=>zQ2 h) hx;rw[List.length_map]at hl;exact⟨l,by rw[show Tryz.prog.cellsOf 57=6 by kernel_rfl],hl,h2⟩
def zrj(x:Entry):Prop:=okS x.Name/\okK .i64 x.N
def zJc{c:List V}(h:zG Tryz.prog 119 c):∃x:Entry,c=qY x/\zrj x:=by
 have hl:=(xv Tryz.underlying119 h).1.trans (show Tryz.prog.cellsOf 119=2 by kernel_rfl)
 match c,hl,h with
 |[c0,c1],_,h =>
  have h0:zG Tryz.prog 9 [c0]:=zn Tryz.underlying119 h 0 0 9 1 rfl rfl rfl aj;have h1:zG Tryz.prog 3 [c1]:=zn Tryz.underlying119 h 1 1 3 1 rfl rfl rfl aj;obtain⟨n0,e0,k0⟩:=QN h0;obtain⟨n1,e1,k1⟩:=vB h1;cases e0;cases e1;exact⟨⟨n0,n1⟩,rfl,k0,k1⟩
def zQ4{c:List V}(h:zG Tryz.prog 85 c):∃l:List Entry,c=[.vs 2 (l.map qY)]/\zcq zrj l:=by
 obtain⟨els,rfl,hl,hx⟩:=vm Tryz.underlying85 h;obtain⟨l,rfl,h2⟩:=vF (λc h=>zJc h) hx;rw[List.length_map]at hl;exact⟨l,by rw[show Tryz.prog.cellsOf 119=2 by kernel_rfl],hl,h2⟩
def zrk(x:Table):Prop:=okS x.Name/\(zcq zrj) x.Rows/\okK .i64 x.Else
def zQ5{c:List V}(h:zG Tryz.prog 87 c):∃x:Table,c=oT x/\zrk x:=by
 have hl:=(xv Tryz.underlying87 h).1.trans (show Tryz.prog.cellsOf 87=3 by kernel_rfl)
 match c,hl,h with
 |[c0,c1,c2],_,h =>
  have h0:zG Tryz.prog 9 [c0]:=zn Tryz.underlying87 h 0 0 9 1 rfl rfl rfl aj;have h1:zG Tryz.prog 85 [c1]:=zn Tryz.underlying87 h 1 1 85 1 rfl rfl rfl aj;have h2:zG Tryz.prog 3 [c2]:=zn Tryz.underlying87 h 2 2 3 1 rfl rfl rfl aj;obtain⟨n0,e0,k0⟩:=QN h0;obtain⟨n1,e1,k1⟩:=zQ4 h1;obtain⟨n2,e2,k2⟩:=vB h2;cases e0;cases e1;cases e2;exact⟨⟨n0,n1,n2⟩,rfl,k0,k1,k2⟩
def zQ6{c:List V}(h:zG Tryz.prog 24 c):∃l:List Table,c=[.vs 3 (l.map oT)]/\zcq zrk l:=by
 obtain⟨els,rfl,hl,hx⟩:=vm Tryz.underlying24 h;obtain⟨l,rfl,h2⟩:=vF (λc h=>zQ5 h) hx;rw[List.length_map]at hl;exact⟨l,by rw[show Tryz.prog.cellsOf 87=3 by kernel_rfl],hl,h2⟩
def zMn{c:List V}(h:zG Tryz.prog 4 c):∃b:Bool,c=[.bool b]/\True:=by
 obtain⟨b,e⟩:=zCk Tryz.underlying4 h;exact⟨b,e,trivial⟩
def zjy(x:zV):Prop:=okK .i64 x.X/\okK .i64 x.Y
def zJd{c:List V}(h:zG Tryz.prog 156 c):∃x:zV,c=jC x/\zjy x:=by
 have hl:=(xv Tryz.underlying156 h).1.trans (show Tryz.prog.cellsOf 156=2 by kernel_rfl)
 match c,hl,h with
 |[c0,c1],_,h =>
  have h0:zG Tryz.prog 3 [c0]:=zn Tryz.underlying156 h 0 0 3 1 rfl rfl rfl aj;have h1:zG Tryz.prog 3 [c1]:=zn Tryz.underlying156 h 1 1 3 1 rfl rfl rfl aj;obtain⟨n0,e0,k0⟩:=vB h0;obtain⟨n1,e1,k1⟩:=vB h1;cases e0;cases e1;exact⟨⟨n0,n1⟩,rfl,k0,k1⟩
def zCw{c:List V}(h:zG Tryz.prog 62 c):∃l:List zV,c=[.vs 2 (l.map jC)]/\zcq zjy l:=by
 obtain⟨els,rfl,hl,hx⟩:=vm Tryz.underlying62 h;obtain⟨l,rfl,h2⟩:=vF (λc h=>zJd h) hx;rw[List.length_map]at hl;exact⟨l,by rw[show Tryz.prog.cellsOf 156=2 by kernel_rfl],hl,h2⟩
def zCx(x:yp):Prop:=okS x.Name/\True/\(zcq zjy) x.Corners
def zQ7{c:List V}(h:zG Tryz.prog 64 c):∃x:yp,c=Jg x/\zCx x:=by
 have hl:=(xv Tryz.underlying64 h).1.trans (show Tryz.prog.cellsOf 64=3 by kernel_rfl)
 match c,hl,h with
 |[c0,c1,c2],_,h =>
  have h0:zG Tryz.prog 9 [c0]:=zn Tryz.underlying64 h 0 0 9 1 rfl rfl rfl aj;have h1:zG Tryz.prog 4 [c1]:=zn Tryz.underlying64 h 1 1 4 1 rfl rfl rfl aj;have h2:zG Tryz.prog 62 [c2]:=zn Tryz.underlying64 h 2 2 62 1 rfl rfl rfl aj;obtain⟨n0,e0,k0⟩:=QN h0;obtain⟨n1,e1,k1⟩:=zMn h1;obtain⟨n2,e2,k2⟩:=zCw h2;cases e0;cases e1;cases e2;exact⟨⟨n0,n1,n2⟩,rfl,k0,k1,k2⟩
def zQ8{c:List V}(h:zG Tryz.prog 25 c):∃l:List yp,c=[.vs 3 (l.map Jg)]/\zcq zCx l:=by
 obtain⟨els,rfl,hl,hx⟩:=vm Tryz.underlying25 h;obtain⟨l,rfl,h2⟩:=vF (λc h=>zQ7 h) hx;rw[List.length_map]at hl;exact⟨l,by rw[show Tryz.prog.cellsOf 64=3 by kernel_rfl],hl,h2⟩
def zCy{c:List V}(h:zG Tryz.prog 58 c):∃l:List ak,c=[.vs 1 (l.map EV.zO8)]/\zcq okS l:=by
 obtain⟨els,rfl,hl,hx⟩:=vm Tryz.underlying58 h;obtain⟨l,rfl,h2⟩:=vF (λc h=>QN h) hx;rw[List.length_map]at hl;exact⟨l,by rw[show Tryz.prog.cellsOf 9=1 by kernel_rfl],hl,h2⟩
def zCz(x:zy):Prop:=okK .i64 x.Side/\okK .i64 x.Base/\okK .i64 x.Num/\okK .i64 x.Den
def zQ9{c:List V}(h:zG Tryz.prog 92 c):∃x:zy,c=Kp x/\zCz x:=by
 have hl:=(xv Tryz.underlying92 h).1.trans (show Tryz.prog.cellsOf 92=4 by kernel_rfl)
 match c,hl,h with
 |[c0,c1,c2,c3],_,h =>
  have h0:zG Tryz.prog 3 [c0]:=zn Tryz.underlying92 h 0 0 3 1 rfl rfl rfl aj;have h1:zG Tryz.prog 3 [c1]:=zn Tryz.underlying92 h 1 1 3 1 rfl rfl rfl aj;have h2:zG Tryz.prog 3 [c2]:=zn Tryz.underlying92 h 2 2 3 1 rfl rfl rfl aj;have h3:zG Tryz.prog 3 [c3]:=zn Tryz.underlying92 h 3 3 3 1 rfl rfl rfl aj;obtain⟨n0,e0,k0⟩:=vB h0;obtain⟨n1,e1,k1⟩:=vB h1;obtain⟨n2,e2,k2⟩:=vB h2;obtain⟨n3,e3,k3⟩:=vB h3;cases e0;cases e1;cases e2;cases e3;exact⟨⟨n0,n1,n2,n3⟩,rfl,k0,k1,k2,k3⟩
def zC0(x:zO):Prop:=okS x.Name/\(zcq okS) x.Zones/\(zcq okS) x.Except/\okK .i64 x.From/\okK .i64 x.Until/\okK .i64 x.Grace/\True/\okK .i64 x.Kind/\okX x.Test/\zCz x.zy/\okK .i64 x.Uses/\okK .i64 x.Other/\okK .i64 x.N
def zRa{c:List V}(h:zG Tryz.prog 94 c):∃x:zO,c=Jh x/\zC0 x:=by
 have hl:=(xv Tryz.underlying94 h).1.trans (show Tryz.prog.cellsOf 94=20 by kernel_rfl)
 match c,hl,h with
 |[c0,c1,c2,c3,c4,c5,c6,c7,c8,c9,c10,c11,c12,c13,c14,c15,c16,c17,c18,c19],_,h =>
  have h0:zG Tryz.prog 9 [c0]:=zn Tryz.underlying94 h 0 0 9 1 rfl rfl rfl aj;have h1:zG Tryz.prog 58 [c1]:=zn Tryz.underlying94 h 1 1 58 1 rfl rfl rfl aj;have h2:zG Tryz.prog 58 [c2]:=zn Tryz.underlying94 h 2 2 58 1 rfl rfl rfl aj;have h3:zG Tryz.prog 3 [c3]:=zn Tryz.underlying94 h 3 3 3 1 rfl rfl rfl aj;have h4:zG Tryz.prog 3 [c4]:=zn Tryz.underlying94 h 4 4 3 1 rfl rfl rfl aj;have h5:zG Tryz.prog 3 [c5]:=zn Tryz.underlying94 h 5 5 3 1 rfl rfl rfl aj;have h6:zG Tryz.prog 4 [c6]:=zn Tryz.underlying94 h 6 6 4 1 rfl rfl rfl aj;have h7:zG Tryz.prog 3 [c7]:=zn Tryz.underlying94 h 7 7 3 1 rfl rfl rfl aj;have h8:zG Tryz.prog 37 [c8,c9,c10,c11,c12]:=zn Tryz.underlying94 h 8 8 37 5 rfl rfl rfl aj;have h9:zG Tryz.prog 92 [c13,c14,c15,c16]:=zn Tryz.underlying94 h 9 13 92 4 rfl rfl rfl aj;have h10:zG Tryz.prog 3 [c17]:=zn Tryz.underlying94 h 10 17 3 1 rfl rfl rfl aj;have h11:zG Tryz.prog 3 [c18]:=zn Tryz.underlying94 h 11 18 3 1 rfl rfl rfl aj;have h12:zG Tryz.prog 3 [c19]:=zn Tryz.underlying94 h 12 19 3 1 rfl rfl rfl aj;obtain⟨n0,e0,k0⟩:=QN h0;obtain⟨n1,e1,k1⟩:=zCy h1;obtain⟨n2,e2,k2⟩:=zCy h2;obtain⟨n3,e3,k3⟩:=vB h3;obtain⟨n4,e4,k4⟩:=vB h4;obtain⟨n5,e5,k5⟩:=vB h5;obtain⟨n6,e6,k6⟩:=zMn h6;obtain⟨n7,e7,k7⟩:=vB h7;obtain⟨n8,e8,k8⟩:=znv h8;obtain⟨n9,e9,k9⟩:=zQ9 h9;obtain⟨n10,e10,k10⟩:=vB h10;obtain⟨n11,e11,k11⟩:=vB h11;obtain⟨n12,e12,k12⟩:=vB h12;cases e0;cases e1;cases e2;cases e3;cases e4;cases e5;cases e6;cases e7;cases e8;cases e9;cases e10;cases e11;cases e12;exact⟨⟨n0,n1,n2,n3,n4,n5,n6,n7,n8,n9,n10,n11,n12⟩,rfl,k0,k1,k2,k3,k4,k5,k6,k7,k8,k9,k10,k11,k12⟩
def zRb{c:List V}(h:zG Tryz.prog 26 c):∃l:List zO,c=[.vs 20 (l.map Jh)]/\zcq zC0 l:=by
 obtain⟨els,rfl,hl,hx⟩:=vm Tryz.underlying26 h;obtain⟨l,rfl,h2⟩:=vF (λc h=>zRa h) hx;rw[List.length_map]at hl;exact⟨l,by rw[show Tryz.prog.cellsOf 94=20 by kernel_rfl],hl,h2⟩
def zRc(x:Cap):Prop:=okS x.Name/\okK .i64 x.Load/\okK .i64 x.Limit/\(zcq zjy) x.Corners
def zRd{c:List V}(h:zG Tryz.prog 96 c):∃x:Cap,c=Q7 x/\zRc x:=by
 have hl:=(xv Tryz.underlying96 h).1.trans (show Tryz.prog.cellsOf 96=4 by kernel_rfl)
 match c,hl,h with
 |[c0,c1,c2,c3],_,h =>
  have h0:zG Tryz.prog 9 [c0]:=zn Tryz.underlying96 h 0 0 9 1 rfl rfl rfl aj;have h1:zG Tryz.prog 3 [c1]:=zn Tryz.underlying96 h 1 1 3 1 rfl rfl rfl aj;have h2:zG Tryz.prog 3 [c2]:=zn Tryz.underlying96 h 2 2 3 1 rfl rfl rfl aj;have h3:zG Tryz.prog 62 [c3]:=zn Tryz.underlying96 h 3 3 62 1 rfl rfl rfl aj;obtain⟨n0,e0,k0⟩:=QN h0;obtain⟨n1,e1,k1⟩:=vB h1;obtain⟨n2,e2,k2⟩:=vB h2;obtain⟨n3,e3,k3⟩:=zCw h3;cases e0;cases e1;cases e2;cases e3;exact⟨⟨n0,n1,n2,n3⟩,rfl,k0,k1,k2,k3⟩
def zRe{c:List V}(h:zG Tryz.prog 27 c):∃l:List Cap,c=[.vs 4 (l.map Q7)]/\zcq zRc l:=by
 obtain⟨els,rfl,hl,hx⟩:=vm Tryz.underlying27 h;obtain⟨l,rfl,h2⟩:=vF (λc h=>zRd h) hx;rw[List.length_map]at hl;exact⟨l,by rw[show Tryz.prog.cellsOf 96=4 by kernel_rfl],hl,h2⟩
def Wm(x:zg):Prop:=okK .i64 x.X/\okK .i64 x.Y/\okK .i64 x.Z_
def zC1{c:List V}(h:zG Tryz.prog 98 c):∃x:zg,c=vV x/\Wm x:=by
 have hl:=(xv Tryz.underlying98 h).1.trans (show Tryz.prog.cellsOf 98=3 by kernel_rfl)
 match c,hl,h with
 |[c0,c1,c2],_,h =>
  have h0:zG Tryz.prog 3 [c0]:=zn Tryz.underlying98 h 0 0 3 1 rfl rfl rfl aj;have h1:zG Tryz.prog 3 [c1]:=zn Tryz.underlying98 h 1 1 3 1 rfl rfl rfl aj;have h2:zG Tryz.prog 3 [c2]:=zn Tryz.underlying98 h 2 2 3 1 rfl rfl rfl aj;obtain⟨n0,e0,k0⟩:=vB h0;obtain⟨n1,e1,k1⟩:=vB h1;obtain⟨n2,e2,k2⟩:=vB h2;cases e0;cases e1;cases e2;exact⟨⟨n0,n1,n2⟩,rfl,k0,k1,k2⟩
def zC2{c:List V}(h:zG Tryz.prog 29 c):∃l:List zg,c=[.vs 3 (l.map vV)]/\zcq Wm l:=by
 obtain⟨els,rfl,hl,hx⟩:=vm Tryz.underlying29 h;obtain⟨l,rfl,h2⟩:=vF (λc h=>zC1 h) hx;rw[List.length_map]at hl;exact⟨l,by rw[show Tryz.prog.cellsOf 98=3 by kernel_rfl],hl,h2⟩
def zC3(x:View):Prop:=okS x.Name/\Wm x.Eye/\okK .i64 x.Least/\(zcq Wm) x.Targets
def zJe{c:List V}(h:zG Tryz.prog 100 c):∃x:View,c=Ji x/\zC3 x:=by
 have hl:=(xv Tryz.underlying100 h).1.trans (show Tryz.prog.cellsOf 100=6 by kernel_rfl)
 match c,hl,h with
 |[c0,c1,c2,c3,c4,c5],_,h =>
  have h0:zG Tryz.prog 9 [c0]:=zn Tryz.underlying100 h 0 0 9 1 rfl rfl rfl aj;have h1:zG Tryz.prog 98 [c1,c2,c3]:=zn Tryz.underlying100 h 1 1 98 3 rfl rfl rfl aj;have h2:zG Tryz.prog 3 [c4]:=zn Tryz.underlying100 h 2 4 3 1 rfl rfl rfl aj;have h3:zG Tryz.prog 29 [c5]:=zn Tryz.underlying100 h 3 5 29 1 rfl rfl rfl aj;obtain⟨n0,e0,k0⟩:=QN h0;obtain⟨n1,e1,k1⟩:=zC1 h1;obtain⟨n2,e2,k2⟩:=vB h2;obtain⟨n3,e3,k3⟩:=zC2 h3;cases e0;cases e1;cases e2;cases e3;exact⟨⟨n0,n1,n2,n3⟩,rfl,k0,k1,k2,k3⟩
def zRf{c:List V}(h:zG Tryz.prog 28 c):∃l:List View,c=[.vs 6 (l.map Ji)]/\zcq zC3 l:=by
 obtain⟨els,rfl,hl,hx⟩:=vm Tryz.underlying28 h;obtain⟨l,rfl,h2⟩:=vF (λc h=>zJe h) hx;rw[List.length_map]at hl;exact⟨l,by rw[show Tryz.prog.cellsOf 100=6 by kernel_rfl],hl,h2⟩
def zC4(x:yX):Prop:=(zcq zQ1) x.Defs/\(zcq zrk) x.Tables/\(zcq zCx) x.Zones/\(zcq zC0) x.Rules/\(zcq zRc) x.Caps/\(zcq zC3) x.Views/\(zcq Wm) x.Sun/\okK .i64 x.Hours
def zRg{c:List V}(h:zG Tryz.prog 31 c):∃x:yX,c=Qd x/\zC4 x:=by
 have hl:=(xv Tryz.underlying31 h).1.trans (show Tryz.prog.cellsOf 31=8 by kernel_rfl)
 match c,hl,h with
 |[c0,c1,c2,c3,c4,c5,c6,c7],_,h =>
  have h0:zG Tryz.prog 23 [c0]:=zn Tryz.underlying31 h 0 0 23 1 rfl rfl rfl aj;have h1:zG Tryz.prog 24 [c1]:=zn Tryz.underlying31 h 1 1 24 1 rfl rfl rfl aj;have h2:zG Tryz.prog 25 [c2]:=zn Tryz.underlying31 h 2 2 25 1 rfl rfl rfl aj;have h3:zG Tryz.prog 26 [c3]:=zn Tryz.underlying31 h 3 3 26 1 rfl rfl rfl aj;have h4:zG Tryz.prog 27 [c4]:=zn Tryz.underlying31 h 4 4 27 1 rfl rfl rfl aj;have h5:zG Tryz.prog 28 [c5]:=zn Tryz.underlying31 h 5 5 28 1 rfl rfl rfl aj;have h6:zG Tryz.prog 29 [c6]:=zn Tryz.underlying31 h 6 6 29 1 rfl rfl rfl aj;have h7:zG Tryz.prog 3 [c7]:=zn Tryz.underlying31 h 7 7 3 1 rfl rfl rfl aj;obtain⟨n0,e0,k0⟩:=zQ3 h0;obtain⟨n1,e1,k1⟩:=zQ6 h1;obtain⟨n2,e2,k2⟩:=zQ8 h2;obtain⟨n3,e3,k3⟩:=zRb h3;obtain⟨n4,e4,k4⟩:=zRe h4;obtain⟨n5,e5,k5⟩:=zRf h5;obtain⟨n6,e6,k6⟩:=zC2 h6;obtain⟨n7,e7,k7⟩:=vB h7;cases e0;cases e1;cases e2;cases e3;cases e4;cases e5;cases e6;cases e7;exact⟨⟨n0,n1,n2,n3,n4,n5,n6,n7⟩,rfl,k0,k1,k2,k3,k4,k5,k6,k7⟩
section
variable{H:Type}{enc:TypeId×Value->H}{W:World}{b0:Nat}{r:Reach}{v:Value}{d:DataW H}{p:List MemPlace}{t:TypeId}
def zRh(hv:Value.okWide Tryz.prog W r b0 31 v)(h:DataW.Trod enc Tryz.prog W 0 (λ_=>true) true 31 v d p):∃x:yX,zC4 x/\Rep none W.cell? (.agg (Qd x)) v:=by
 obtain⟨vs,h1,h2⟩:=zVo aj h;obtain⟨x,rfl,hx⟩:=zRg h1;obtain⟨cs,rfl,_⟩:=okWide_struct Tryz.underlying31 hv;exact⟨x,hx,cs.toList,af,h2⟩
end
end Go.Proofs.YtffencjoddkghaaGreatDoor
