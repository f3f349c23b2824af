/- texts that the proof reaches, part 9 -/
import Derived.Test.YtffencjoddkghaaGreatDoorKh
set_option linter.all false
open Go.Proofs.Tryz renaming prog->bm,underlying94->cV,underlying31->dm,underlying37->dA,underlying3->dV,underlying100->eA,underlying35->eI,underlying92->eH,underlying96->eJ,underlying87->fb,underlying64->fe,underlying98->ff,underlying119->gb,underlying156->gh,underlying57->gD
open List renaming length_map->bJ
set_option maxRecDepth 100000
namespace Go.Proofs.YtffencjoddkghaaGreatDoor
open Go Go.ChangeShapes Go.WideShapes Go.ChangeAt Go.RowKit Go.Deep Go.Joins Go.EV
def Q1{c:List V}(h:zG bm 9 c):∃s,c=EV.zQo s/\okS s:=zJz Tryz.underlying9 h
def vr{c:List V}(h:zG bm 3 c):∃n,c=EV.encI n/\okK .i64 n:=zJy dV h
mutual
def okX:Expr->Prop
 |⟨_,_,s,_,args⟩=>s.length<=9223372036854775807/\args.length<=9223372036854775807/\zSg args
def zSg:List Expr->Prop
 |[]=>True
 |x::r=>okX x/\zSg r
end
def zXi(e:Expr):okX e=(e.S.length<=9223372036854775807/\e.Args.length<=9223372036854775807/\zSg e.Args):=by cases e;rw[okX]
def zDk:∀{l:List Expr},(∀x∈l,okX x)->zSg l
 |[],_=>by rw[zSg];trivial
 |x::l,h=>by rw[zSg];exact⟨h x al,zDk λy hy=>h y (mcQ _ hy)⟩
def zve{α:Type}{enc:α->List V}{ok:α->Prop}:∀{els:List (List V)},(∀x∈els,∃a,x=enc a/\ok a)->∃l:List α,els=l.map enc/\∀a∈l,ok a
 |[],_=>⟨[],rfl,λ_ h=>by cases h⟩
 |c::els,h=>by
  obtain⟨a,rfl,ha⟩:=h c al;obtain⟨l,rfl,hl⟩:=zve (λx hx=>h x (mcQ _ hx))
  exact⟨a::l,rfl,λb hb=>by
   rcases List.mem_cons.1 hb with rfl|hb
   ·exact ha
   ·exact hl b hb⟩
def zDl{t:TypeId}{cs:List V}(h:zG bm t cs):(t=37->∃e:Expr,cs=vD e/\okX e)/\(t=35->∃l:List Expr,cs=[.vs 5 (yO l)]/\l.length<=maxLen/\zSg l):=by
 induction h with
 |bool h|int h|str h=>exact⟨λe=>by (subst e;rw[dA]at h;cases h),λe=>by subst e;rw[eI]at h;cases h⟩
 |array h=>exact⟨λe=>by (subst e;rw[dA]at h;cases h),λe=>by subst e;rw[eI]at h;cases h⟩
 |other h=>exact⟨λe=>by (subst e;unfold Kz at h;rw[dA]at h;cases h),λe=>by subst e;unfold Kz at h;rw[eI]at h;cases h⟩
 |slice h hl hx ih =>
  refine⟨λe=>by (subst e;rw[dA]at h;cases h),λe=>?_⟩;subst e;rw[eI]at h;cases h;obtain⟨l,rfl,h2⟩:=zve (λx hx'=>(ih x hx').1 rfl);rw[bJ]at hl;exact⟨l,by rw[show Tryz.prog.cellsOf 37=5 by kernel_rfl,kp],hl,zDk h2⟩
 |@struct t' fs cs' h hc hx ih =>
  refine⟨λe=>?_,λe=>by subst e;rw[eI]at h;cases h⟩;subst e;have hall:zG bm 37 cs':=.struct h hc hx;rw[dA]at h;cases h;have hl:=hc.trans (show Tryz.prog.cellsOf 37=5 by kernel_rfl);clear hc
  match cs',hl,hall,ih with
  |[c0,c1,c2,c3,c4],_,h,ih =>
   have h0:zG bm 3 [c0]:=zn dA h 0 0 3 1 rfl rfl rfl aj;have h1:zG bm 3 [c1]:=zn dA h 1 1 3 1 rfl rfl rfl aj;have h2:zG bm 9 [c2]:=zn dA h 2 2 9 1 rfl rfl rfl aj;have h3:zG bm 9 [c3]:=zn dA h 3 3 9 1 rfl rfl rfl aj;obtain⟨l,e4,k4,o4⟩:=(ih _ (List.mem_of_getElem? (i:=4) rfl)).2 rfl;obtain⟨n0,e0,k0⟩:=vr h0;obtain⟨n1,e1,k1⟩:=vr h1;obtain⟨n2,e2,k2⟩:=Q1 h2;obtain⟨n3,e3,k3⟩:=Q1 h3
   have e4':[c4]=[.vs 5 (yO l)]:=by
    rw[<- e4];exact(aQ (λn=>(List.drop 4 [c0,c1,c2,c3,c4]).take n) (show Tryz.prog.cellsOf 35=1 by kernel_rfl)).symm
   cases e0;cases e1;cases e2;cases e3;cases e4';exact⟨⟨n0,n1,n2,n3,l⟩,rfl,by rw[zXi];exact⟨k2,k4,o4⟩⟩
def zoq{c:List V}(h:zG bm 37 c):∃e:Expr,c=vD e/\okX e:=(zDl h).1 rfl
def zSh(x:Def):Prop:=okS x.aL/\okX x.Body
def zSi{c:List V}(h:zG bm 57 c):∃x:Def,c=Vl x/\zSh x:=by
 have hl:=(xD gD h).1.trans (show Tryz.prog.cellsOf 57=6 by kernel_rfl)
 match c,hl,h with
 |[c0,c1,c2,c3,c4,c5],_,h =>
  have h0:zG bm 9 [c0]:=zn gD h 0 0 9 1 rfl rfl rfl aj;have h1:zG bm 37 [c1,c2,c3,c4,c5]:=zn gD h 1 1 37 5 rfl rfl rfl aj;obtain⟨n0,e0,k0⟩:=Q1 h0;obtain⟨n1,e1,k1⟩:=zoq h1;cases e0;cases e1;exact⟨⟨n0,n1⟩,rfl,k0,k1⟩
def zSj{c:List V}(h:zG bm 23 c):∃l:List Def,c=[.vs 6 (l.map Vl)]/\zdb zSh l:=by
 obtain⟨els,rfl,hl,hx⟩:=vw Tryz.underlying23 h;obtain⟨l,rfl,h2⟩:=vN (λc h=>zSi h) hx;rw[bJ]at hl;exact⟨l,by rw[show Tryz.prog.cellsOf 57=6 by kernel_rfl],hl,h2⟩
def zse(x:aw):Prop:=okS x.aL/\okK .i64 x.N
def zKb{c:List V}(h:zG bm 119 c):∃x:aw,c=uk x/\zse x:=by
 have hl:=(xD gb h).1.trans (show Tryz.prog.cellsOf 119=2 by kernel_rfl)
 match c,hl,h with
 |[c0,c1],_,h =>
  have h0:zG bm 9 [c0]:=zn gb h 0 0 9 1 rfl rfl rfl aj;have h1:zG bm 3 [c1]:=zn gb h 1 1 3 1 rfl rfl rfl aj;obtain⟨n0,e0,k0⟩:=Q1 h0;obtain⟨n1,e1,k1⟩:=vr h1;cases e0;cases e1;exact⟨⟨n0,n1⟩,rfl,k0,k1⟩
def zSk{c:List V}(h:zG bm 85 c):∃l:List aw,c=[.vs 2 (l.map uk)]/\zdb zse l:=by
 obtain⟨els,rfl,hl,hx⟩:=vw Tryz.underlying85 h;obtain⟨l,rfl,h2⟩:=vN (λc h=>zKb h) hx;rw[bJ]at hl;exact⟨l,by rw[show Tryz.prog.cellsOf 119=2 by kernel_rfl],hl,h2⟩
def zsf(x:au):Prop:=okS x.aL/\(zdb zse) x.Rows/\okK .i64 x.Else
def zSl{c:List V}(h:zG bm 87 c):∃x:au,c=Ac x/\zsf x:=by
 have hl:=(xD fb h).1.trans (show Tryz.prog.cellsOf 87=3 by kernel_rfl)
 match c,hl,h with
 |[c0,c1,c2],_,h =>
  have h0:zG bm 9 [c0]:=zn fb h 0 0 9 1 rfl rfl rfl aj;have h1:zG bm 85 [c1]:=zn fb h 1 1 85 1 rfl rfl rfl aj;have h2:zG bm 3 [c2]:=zn fb h 2 2 3 1 rfl rfl rfl aj;obtain⟨n0,e0,k0⟩:=Q1 h0;obtain⟨n1,e1,k1⟩:=zSk h1;obtain⟨n2,e2,k2⟩:=vr h2;cases e0;cases e1;cases e2;exact⟨⟨n0,n1,n2⟩,rfl,k0,k1,k2⟩
def zSm{c:List V}(h:zG bm 24 c):∃l:List au,c=[.vs 3 (l.map Ac)]/\zdb zsf l:=by
 obtain⟨els,rfl,hl,hx⟩:=vw Tryz.underlying24 h;obtain⟨l,rfl,h2⟩:=vN (λc h=>zSl h) hx;rw[bJ]at hl;exact⟨l,by rw[show Tryz.prog.cellsOf 87=3 by kernel_rfl],hl,h2⟩
def zN1{c:List V}(h:zG bm 4 c):∃b:Bool,c=[.bool b]/\True:=by
 obtain⟨b,e⟩:=zC8 Tryz.underlying4 h;exact⟨b,e,trivial⟩
def zku(x:zV):Prop:=okK .i64 x.X/\okK .i64 x.Y
def zKc{c:List V}(h:zG bm 156 c):∃x:zV,c=jM x/\zku x:=by
 have hl:=(xD gh h).1.trans (show Tryz.prog.cellsOf 156=2 by kernel_rfl)
 match c,hl,h with
 |[c0,c1],_,h =>
  have h0:zG bm 3 [c0]:=zn gh h 0 0 3 1 rfl rfl rfl aj;have h1:zG bm 3 [c1]:=zn gh h 1 1 3 1 rfl rfl rfl aj;obtain⟨n0,e0,k0⟩:=vr h0;obtain⟨n1,e1,k1⟩:=vr h1;cases e0;cases e1;exact⟨⟨n0,n1⟩,rfl,k0,k1⟩
def zDm{c:List V}(h:zG bm 62 c):∃l:List zV,c=[.vs 2 (l.map jM)]/\zdb zku l:=by
 obtain⟨els,rfl,hl,hx⟩:=vw Tryz.underlying62 h;obtain⟨l,rfl,h2⟩:=vN (λc h=>zKc h) hx;rw[bJ]at hl;exact⟨l,by rw[show Tryz.prog.cellsOf 156=2 by kernel_rfl],hl,h2⟩
def zDn(x:yt):Prop:=okS x.aL/\True/\(zdb zku) x.aA
def zSn{c:List V}(h:zG bm 64 c):∃x:yt,c=Jq x/\zDn x:=by
 have hl:=(xD fe h).1.trans (show Tryz.prog.cellsOf 64=3 by kernel_rfl)
 match c,hl,h with
 |[c0,c1,c2],_,h =>
  have h0:zG bm 9 [c0]:=zn fe h 0 0 9 1 rfl rfl rfl aj;have h1:zG bm 4 [c1]:=zn fe h 1 1 4 1 rfl rfl rfl aj;have h2:zG bm 62 [c2]:=zn fe h 2 2 62 1 rfl rfl rfl aj;obtain⟨n0,e0,k0⟩:=Q1 h0;obtain⟨n1,e1,k1⟩:=zN1 h1;obtain⟨n2,e2,k2⟩:=zDm h2;cases e0;cases e1;cases e2;exact⟨⟨n0,n1,n2⟩,rfl,k0,k1,k2⟩
def zSo{c:List V}(h:zG bm 25 c):∃l:List yt,c=[.vs 3 (l.map Jq)]/\zdb zDn l:=by
 obtain⟨els,rfl,hl,hx⟩:=vw Tryz.underlying25 h;obtain⟨l,rfl,h2⟩:=vN (λc h=>zSn h) hx;rw[bJ]at hl;exact⟨l,by rw[show Tryz.prog.cellsOf 64=3 by kernel_rfl],hl,h2⟩
def zDo{c:List V}(h:zG bm 58 c):∃l:List ak,c=[.vs 1 (l.map EV.zQo)]/\zdb okS l:=by
 obtain⟨els,rfl,hl,hx⟩:=vw Tryz.underlying58 h;obtain⟨l,rfl,h2⟩:=vN (λc h=>Q1 h) hx;rw[bJ]at hl;exact⟨l,by rw[show Tryz.prog.cellsOf 9=1 by kernel_rfl],hl,h2⟩
def zDp(x:zy):Prop:=okK .i64 x.Side/\okK .i64 x.Base/\okK .i64 x.Num/\okK .i64 x.Den
def zSp{c:List V}(h:zG bm 92 c):∃x:zy,c=KC x/\zDp x:=by
 have hl:=(xD eH h).1.trans (show Tryz.prog.cellsOf 92=4 by kernel_rfl)
 match c,hl,h with
 |[c0,c1,c2,c3],_,h =>
  have h0:zG bm 3 [c0]:=zn eH h 0 0 3 1 rfl rfl rfl aj;have h1:zG bm 3 [c1]:=zn eH h 1 1 3 1 rfl rfl rfl aj;have h2:zG bm 3 [c2]:=zn eH h 2 2 3 1 rfl rfl rfl aj;have h3:zG bm 3 [c3]:=zn eH h 3 3 3 1 rfl rfl rfl aj;obtain⟨n0,e0,k0⟩:=vr h0;obtain⟨n1,e1,k1⟩:=vr h1;obtain⟨n2,e2,k2⟩:=vr h2;obtain⟨n3,e3,k3⟩:=vr h3;cases e0;cases e1;cases e2;cases e3;exact⟨⟨n0,n1,n2,n3⟩,rfl,k0,k1,k2,k3⟩
def zDq(x:zO):Prop:=okS x.aL/\(zdb okS) x.aB/\(zdb okS) x.Except/\okK .i64 x.From/\okK .i64 x.Until/\okK .i64 x.Grace/\True/\okK .i64 x.aM/\okX x.Test/\zDp x.zy/\okK .i64 x.Uses/\okK .i64 x.Other/\okK .i64 x.N
def zSq{c:List V}(h:zG bm 94 c):∃x:zO,c=Jr x/\zDq x:=by
 have hl:=(xD cV h).1.trans (show Tryz.prog.cellsOf 94=20 by kernel_rfl)
 match c,hl,h with
 |[c0,c1,c2,c3,c4,c5,c6,c7,c8,c9,c10,c11,c12,c13,c14,c15,c16,c17,c18,c19],_,h =>
  have h0:zG bm 9 [c0]:=zn cV h 0 0 9 1 rfl rfl rfl aj;have h1:zG bm 58 [c1]:=zn cV h 1 1 58 1 rfl rfl rfl aj;have h2:zG bm 58 [c2]:=zn cV h 2 2 58 1 rfl rfl rfl aj;have h3:zG bm 3 [c3]:=zn cV h 3 3 3 1 rfl rfl rfl aj;have h4:zG bm 3 [c4]:=zn cV h 4 4 3 1 rfl rfl rfl aj;have h5:zG bm 3 [c5]:=zn cV h 5 5 3 1 rfl rfl rfl aj;have h6:zG bm 4 [c6]:=zn cV h 6 6 4 1 rfl rfl rfl aj;have h7:zG bm 3 [c7]:=zn cV h 7 7 3 1 rfl rfl rfl aj;have h8:zG bm 37 [c8,c9,c10,c11,c12]:=zn cV h 8 8 37 5 rfl rfl rfl aj;have h9:zG bm 92 [c13,c14,c15,c16]:=zn cV h 9 13 92 4 rfl rfl rfl aj;have h10:zG bm 3 [c17]:=zn cV h 10 17 3 1 rfl rfl rfl aj;have h11:zG bm 3 [c18]:=zn cV h 11 18 3 1 rfl rfl rfl aj;have h12:zG bm 3 [c19]:=zn cV h 12 19 3 1 rfl rfl rfl aj;obtain⟨n0,e0,k0⟩:=Q1 h0;obtain⟨n1,e1,k1⟩:=zDo h1;obtain⟨n2,e2,k2⟩:=zDo h2;obtain⟨n3,e3,k3⟩:=vr h3;obtain⟨n4,e4,k4⟩:=vr h4;obtain⟨n5,e5,k5⟩:=vr h5;obtain⟨n6,e6,k6⟩:=zN1 h6;obtain⟨n7,e7,k7⟩:=vr h7;obtain⟨n8,e8,k8⟩:=zoq h8;obtain⟨n9,e9,k9⟩:=zSp h9;obtain⟨n10,e10,k10⟩:=vr h10;obtain⟨n11,e11,k11⟩:=vr h11;obtain⟨n12,e12,k12⟩:=vr h12;cases e0;cases e1;cases e2;cases e3;cases e4;cases e5;cases e6;cases e7;cases e8;cases e9;cases e10;cases e11;cases e12;exact⟨⟨n0,n1,n2,n3,n4,n5,n6,n7,n8,n9,n10,n11,n12⟩,rfl,k0,k1,k2,k3,k4,k5,k6,k7,k8,k9,k10,k11,k12⟩
def zSr{c:List V}(h:zG bm 26 c):∃l:List zO,c=[.vs 20 (l.map Jr)]/\zdb zDq l:=by
 obtain⟨els,rfl,hl,hx⟩:=vw Tryz.underlying26 h;obtain⟨l,rfl,h2⟩:=vN (λc h=>zSq h) hx;rw[bJ]at hl;exact⟨l,by rw[show Tryz.prog.cellsOf 94=20 by kernel_rfl],hl,h2⟩
def zSs(x:Cap):Prop:=okS x.aL/\okK .i64 x.Load/\okK .i64 x.Limit/\(zdb zku) x.aA
def zSt{c:List V}(h:zG bm 96 c):∃x:Cap,c=Vm x/\zSs x:=by
 have hl:=(xD eJ h).1.trans (show Tryz.prog.cellsOf 96=4 by kernel_rfl)
 match c,hl,h with
 |[c0,c1,c2,c3],_,h =>
  have h0:zG bm 9 [c0]:=zn eJ h 0 0 9 1 rfl rfl rfl aj;have h1:zG bm 3 [c1]:=zn eJ h 1 1 3 1 rfl rfl rfl aj;have h2:zG bm 3 [c2]:=zn eJ h 2 2 3 1 rfl rfl rfl aj;have h3:zG bm 62 [c3]:=zn eJ h 3 3 62 1 rfl rfl rfl aj;obtain⟨n0,e0,k0⟩:=Q1 h0;obtain⟨n1,e1,k1⟩:=vr h1;obtain⟨n2,e2,k2⟩:=vr h2;obtain⟨n3,e3,k3⟩:=zDm h3;cases e0;cases e1;cases e2;cases e3;exact⟨⟨n0,n1,n2,n3⟩,rfl,k0,k1,k2,k3⟩
def zSu{c:List V}(h:zG bm 27 c):∃l:List Cap,c=[.vs 4 (l.map Vm)]/\zdb zSs l:=by
 obtain⟨els,rfl,hl,hx⟩:=vw Tryz.underlying27 h;obtain⟨l,rfl,h2⟩:=vN (λc h=>zSt h) hx;rw[bJ]at hl;exact⟨l,by rw[show Tryz.prog.cellsOf 96=4 by kernel_rfl],hl,h2⟩
def WZ(x:zg):Prop:=okK .i64 x.X/\okK .i64 x.Y/\okK .i64 x.Z_
def zDr{c:List V}(h:zG bm 98 c):∃x:zg,c=je x/\WZ x:=by
 have hl:=(xD ff h).1.trans (show Tryz.prog.cellsOf 98=3 by kernel_rfl)
 match c,hl,h with
 |[c0,c1,c2],_,h =>
  have h0:zG bm 3 [c0]:=zn ff h 0 0 3 1 rfl rfl rfl aj;have h1:zG bm 3 [c1]:=zn ff h 1 1 3 1 rfl rfl rfl aj;have h2:zG bm 3 [c2]:=zn ff h 2 2 3 1 rfl rfl rfl aj;obtain⟨n0,e0,k0⟩:=vr h0;obtain⟨n1,e1,k1⟩:=vr h1;obtain⟨n2,e2,k2⟩:=vr h2;cases e0;cases e1;cases e2;exact⟨⟨n0,n1,n2⟩,rfl,k0,k1,k2⟩
def zDs{c:List V}(h:zG bm 29 c):∃l:List zg,c=[.vs 3 (l.map je)]/\zdb WZ l:=by
 obtain⟨els,rfl,hl,hx⟩:=vw Tryz.underlying29 h;obtain⟨l,rfl,h2⟩:=vN (λc h=>zDr h) hx;rw[bJ]at hl;exact⟨l,by rw[show Tryz.prog.cellsOf 98=3 by kernel_rfl],hl,h2⟩
def zDt(x:av):Prop:=okS x.aL/\WZ x.Eye/\okK .i64 x.Least/\(zdb WZ) x.Targets
def zKd{c:List V}(h:zG bm 100 c):∃x:av,c=Js x/\zDt x:=by
 have hl:=(xD eA h).1.trans (show Tryz.prog.cellsOf 100=6 by kernel_rfl)
 match c,hl,h with
 |[c0,c1,c2,c3,c4,c5],_,h =>
  have h0:zG bm 9 [c0]:=zn eA h 0 0 9 1 rfl rfl rfl aj;have h1:zG bm 98 [c1,c2,c3]:=zn eA h 1 1 98 3 rfl rfl rfl aj;have h2:zG bm 3 [c4]:=zn eA h 2 4 3 1 rfl rfl rfl aj;have h3:zG bm 29 [c5]:=zn eA h 3 5 29 1 rfl rfl rfl aj;obtain⟨n0,e0,k0⟩:=Q1 h0;obtain⟨n1,e1,k1⟩:=zDr h1;obtain⟨n2,e2,k2⟩:=vr h2;obtain⟨n3,e3,k3⟩:=zDs h3;cases e0;cases e1;cases e2;cases e3;exact⟨⟨n0,n1,n2,n3⟩,rfl,k0,k1,k2,k3⟩
def zSv{c:List V}(h:zG bm 28 c):∃l:List av,c=[.vs 6 (l.map Js)]/\zdb zDt l:=by
 obtain⟨els,rfl,hl,hx⟩:=vw Tryz.underlying28 h;obtain⟨l,rfl,h2⟩:=vN (λc h=>zKd h) hx;rw[bJ]at hl;exact⟨l,by rw[show Tryz.prog.cellsOf 100=6 by kernel_rfl],hl,h2⟩
def zDu(x:yZ):Prop:=(zdb zSh) x.aF/\(zdb zsf) x.Tables/\(zdb zDn) x.aB/\(zdb zDq) x.aE/\(zdb zSs) x.aJ/\(zdb zDt) x.aG/\(zdb WZ) x.aK/\okK .i64 x.aI
def zSw{c:List V}(h:zG bm 31 c):∃x:yZ,c=Qq x/\zDu x:=by
 have hl:=(xD dm h).1.trans (show Tryz.prog.cellsOf 31=8 by kernel_rfl)
 match c,hl,h with
 |[c0,c1,c2,c3,c4,c5,c6,c7],_,h =>
  have h0:zG bm 23 [c0]:=zn dm h 0 0 23 1 rfl rfl rfl aj;have h1:zG bm 24 [c1]:=zn dm h 1 1 24 1 rfl rfl rfl aj;have h2:zG bm 25 [c2]:=zn dm h 2 2 25 1 rfl rfl rfl aj;have h3:zG bm 26 [c3]:=zn dm h 3 3 26 1 rfl rfl rfl aj;have h4:zG bm 27 [c4]:=zn dm h 4 4 27 1 rfl rfl rfl aj;have h5:zG bm 28 [c5]:=zn dm h 5 5 28 1 rfl rfl rfl aj;have h6:zG bm 29 [c6]:=zn dm h 6 6 29 1 rfl rfl rfl aj;have h7:zG bm 3 [c7]:=zn dm h 7 7 3 1 rfl rfl rfl aj;obtain⟨n0,e0,k0⟩:=zSj h0;obtain⟨n1,e1,k1⟩:=zSm h1;obtain⟨n2,e2,k2⟩:=zSo h2;obtain⟨n3,e3,k3⟩:=zSr h3;obtain⟨n4,e4,k4⟩:=zSu h4;obtain⟨n5,e5,k5⟩:=zSv h5;obtain⟨n6,e6,k6⟩:=zDs h6;obtain⟨n7,e7,k7⟩:=vr h7;cases e0;cases e1;cases e2;cases e3;cases e4;cases e5;cases e6;cases e7;exact⟨⟨n0,n1,n2,n3,n4,n5,n6,n7⟩,rfl,k0,k1,k2,k3,k4,k5,k6,k7⟩
section
variable{H:Type}{enc:TypeId×Value->H}{W:World}{b0:Nat}{r:Reach}{v:Value}{d:DataW H}{p:List MemPlace}{t:TypeId}
def zSx(hv:Value.okWide bm W r b0 31 v)(h:DataW.Trod enc bm W 0 (λ_=>true) true 31 v d p):∃x:yZ,zDu x/\Rep none W.cell? (.agg (Qq x)) v:=by
 obtain⟨vs,h1,h2⟩:=zNw aj h;obtain⟨x,rfl,hx⟩:=zSw h1;obtain⟨cs,rfl,_⟩:=okWide_struct dm hv;exact⟨x,hx,cs.toList,af,h2⟩
def open_3(hv:Value.okWide bm W r b0 3 v)(h:DataW.Trod enc bm W 0 (λ_=>true) true 3 v d p):∃n:Int,okK .i64 n/\Rep none W.cell? (.int .i64 n) v:=by
 obtain⟨vs,h1,h2⟩:=zNw aj h;obtain⟨s,rfl,hs⟩:=vr h1;obtain⟨n,rfl,_⟩:=open_int dV hv h;obtain⟨x,xs,e1,h3,_⟩:=h2;cases e1;exact⟨s,hs,h3⟩
end
end Go.Proofs.YtffencjoddkghaaGreatDoor
