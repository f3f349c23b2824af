/- texts that the proof of SyntaxPrints reaches, part 9 -/
import Derived.Test.YtffencjoddkghaaGreatDoorKh
set_option linter.all false
set_option maxRecDepth 100000
namespace Go.Proofs.YtffencjoddkghaaGreatDoor
open Go Go.ChangeShapes Go.WideShapes Go.ChangeAt Go.RowKit Go.Deep Go.Joins Go.EV
theorem K5{c:List V}(h:zF Tryz.prog 9 c):∃s,c=EV.zKs s∧okS s:=zGm Tryz.underlying9 h
theorem vj{c:List V}(h:zF Tryz.prog 3 c):∃n,c=EV.encI n∧okK .i64 n:=zGl Tryz.underlying3 h
mutual
def okX:Expr→Prop
 |⟨_,_,s,_,args⟩=>s.length≤9223372036854775807∧args.length≤9223372036854775807∧zMi args
def zMi:List Expr→Prop
 |[]=>True
 |x::r=>okX x∧zMi r
end
theorem zQh(e:Expr):okX e=(e.S.length≤9223372036854775807∧e.Args.length≤9223372036854775807∧zMi e.Args):=by cases e;rw[okX]
theorem zBe:∀{l:List Expr},(∀x∈l,okX x)→zMi l
 |[],_=>by rw[zMi];trivial
 |x::l,h=>by rw[zMi];exact⟨h x (List.mem_cons_self ..),zBe fun y hy=>h y (mcQ _ hy)⟩
theorem ztt{α:Type}{enc:α→List V}{ok:α→Prop}:∀{els:List (List V)},(∀x∈els,∃a,x=enc a∧ok a)→∃l:List α,els=l.map enc∧∀a∈l,ok a
 |[],_=>⟨[],rfl,fun _ h=>by cases h⟩
 |c::els,h=>by
  obtain⟨a,rfl,ha⟩:=h c (List.mem_cons_self ..);obtain⟨l,rfl,hl⟩:=ztt (fun x hx=>h x (mcQ _ hx))
  exact⟨a::l,rfl,fun b hb=>by
   rcases List.mem_cons.1 hb with rfl|hb
   ·exact ha
   ·exact hl b hb⟩
theorem zBf{t:TypeId}{cs:List V}(h:zF Tryz.prog t cs):(t=37→∃e:Expr,cs=vf e∧okX e)∧(t=35→∃l:List Expr,cs=[.vs 5 (yF l)]∧l.length≤maxLen∧zMi l):=by
 induction h with
 |bool h|int h|str h=>exact⟨fun e=>by (subst e;rw[Tryz.underlying37]at h;cases h),fun e=>by subst e;rw[Tryz.underlying35]at h;cases h⟩
 |array h=>exact⟨fun e=>by (subst e;rw[Tryz.underlying37]at h;cases h),fun e=>by subst e;rw[Tryz.underlying35]at h;cases h⟩
 |other h=>exact⟨fun e=>by (subst e;unfold JF at h;rw[Tryz.underlying37]at h;cases h),fun e=>by subst e;unfold JF at h;rw[Tryz.underlying35]at h;cases h⟩
 |slice h hl hx ih =>
  refine⟨fun e=>by (subst e;rw[Tryz.underlying37]at h;cases h),fun e=>?_⟩;subst e;rw[Tryz.underlying35]at h;cases h;obtain⟨l,rfl,h2⟩:=ztt (fun x hx'=>(ih x hx').1 rfl);rw[List.length_map]at hl;exact⟨l,by rw[show Tryz.prog.cellsOf 37=5 by kernel_rfl,jK],hl,zBe h2⟩
 |@struct t' fs cs' h hc hx ih =>
  refine⟨fun e=>?_,fun e=>by subst e;rw[Tryz.underlying35]at h;cases h⟩;subst e;have hall:zF Tryz.prog 37 cs':=.struct h hc hx;rw[Tryz.underlying37]at h;cases h;have hl:=hc.trans (show Tryz.prog.cellsOf 37=5 by kernel_rfl);clear hc
  match cs',hl,hall,ih with
  |[c0,c1,c2,c3,c4],_,h,ih =>
   have h0:zF Tryz.prog 3 [c0]:=zo Tryz.underlying37 h 0 0 3 1 rfl rfl rfl (by kernel_rfl);have h1:zF Tryz.prog 3 [c1]:=zo Tryz.underlying37 h 1 1 3 1 rfl rfl rfl (by kernel_rfl);have h2:zF Tryz.prog 9 [c2]:=zo Tryz.underlying37 h 2 2 9 1 rfl rfl rfl (by kernel_rfl);have h3:zF Tryz.prog 9 [c3]:=zo Tryz.underlying37 h 3 3 9 1 rfl rfl rfl (by kernel_rfl);obtain⟨l,e4,k4,o4⟩:=(ih _ (List.mem_of_getElem? (i:=4) rfl)).2 rfl;obtain⟨n0,e0,k0⟩:=vj h0;obtain⟨n1,e1,k1⟩:=vj h1;obtain⟨n2,e2,k2⟩:=K5 h2;obtain⟨n3,e3,k3⟩:=K5 h3
   have e4':[c4]=[.vs 5 (yF l)]:=by
    rw[← e4];exact(congrArg (fun n=>(List.drop 4 [c0,c1,c2,c3,c4]).take n) (show Tryz.prog.cellsOf 35=1 by kernel_rfl)).symm
   cases e0;cases e1;cases e2;cases e3;cases e4';exact⟨⟨n0,n1,n2,n3,l⟩,rfl,by rw[zQh];exact⟨k2,k4,o4⟩⟩
theorem znc{c:List V}(h:zF Tryz.prog 37 c):∃e:Expr,c=vf e∧okX e:=(zBf h).1 rfl
def zMj(x:Def):Prop:=okS x.Name∧okX x.Body
theorem zMk{c:List V}(h:zF Tryz.prog 57 c):∃x:Def,c=QP x∧zMj x:=by
 have hl:=(xa Tryz.underlying57 h).1.trans (show Tryz.prog.cellsOf 57=6 by kernel_rfl)
 match c,hl,h with
 |[c0,c1,c2,c3,c4,c5],_,h =>
  have h0:zF Tryz.prog 9 [c0]:=zo Tryz.underlying57 h 0 0 9 1 rfl rfl rfl (by kernel_rfl);have h1:zF Tryz.prog 37 [c1,c2,c3,c4,c5]:=zo Tryz.underlying57 h 1 1 37 5 rfl rfl rfl (by kernel_rfl);obtain⟨n0,e0,k0⟩:=K5 h0;obtain⟨n1,e1,k1⟩:=znc h1;cases e0;cases e1;exact⟨⟨n0,n1⟩,rfl,k0,k1⟩
theorem zMl{c:List V}(h:zF Tryz.prog 23 c):∃l:List Def,c=[.vs 6 (l.map QP)]∧zbs zMj l:=by
 obtain⟨els,rfl,hl,hx⟩:=wW Tryz.underlying23 h;obtain⟨l,rfl,h2⟩:=vq (fun c h=>zMk h) hx;rw[List.length_map]at hl;exact⟨l,by rw[show Tryz.prog.cellsOf 57=6 by kernel_rfl],hl,h2⟩
def zq3(x:Entry):Prop:=okS x.Name∧okK .i64 x.N
theorem zGx{c:List V}(h:zF Tryz.prog 119 c):∃x:Entry,c=qO x∧zq3 x:=by
 have hl:=(xa Tryz.underlying119 h).1.trans (show Tryz.prog.cellsOf 119=2 by kernel_rfl)
 match c,hl,h with
 |[c0,c1],_,h =>
  have h0:zF Tryz.prog 9 [c0]:=zo Tryz.underlying119 h 0 0 9 1 rfl rfl rfl (by kernel_rfl);have h1:zF Tryz.prog 3 [c1]:=zo Tryz.underlying119 h 1 1 3 1 rfl rfl rfl (by kernel_rfl);obtain⟨n0,e0,k0⟩:=K5 h0;obtain⟨n1,e1,k1⟩:=vj h1;cases e0;cases e1;exact⟨⟨n0,n1⟩,rfl,k0,k1⟩
theorem zMm{c:List V}(h:zF Tryz.prog 85 c):∃l:List Entry,c=[.vs 2 (l.map qO)]∧zbs zq3 l:=by
 obtain⟨els,rfl,hl,hx⟩:=wW Tryz.underlying85 h;obtain⟨l,rfl,h2⟩:=vq (fun c h=>zGx h) hx;rw[List.length_map]at hl;exact⟨l,by rw[show Tryz.prog.cellsOf 119=2 by kernel_rfl],hl,h2⟩
def zq4(x:Table):Prop:=okS x.Name∧(zbs zq3) x.Rows∧okK .i64 x.Else
theorem zMn{c:List V}(h:zF Tryz.prog 87 c):∃x:Table,c=oz x∧zq4 x:=by
 have hl:=(xa Tryz.underlying87 h).1.trans (show Tryz.prog.cellsOf 87=3 by kernel_rfl)
 match c,hl,h with
 |[c0,c1,c2],_,h =>
  have h0:zF Tryz.prog 9 [c0]:=zo Tryz.underlying87 h 0 0 9 1 rfl rfl rfl (by kernel_rfl);have h1:zF Tryz.prog 85 [c1]:=zo Tryz.underlying87 h 1 1 85 1 rfl rfl rfl (by kernel_rfl);have h2:zF Tryz.prog 3 [c2]:=zo Tryz.underlying87 h 2 2 3 1 rfl rfl rfl (by kernel_rfl);obtain⟨n0,e0,k0⟩:=K5 h0;obtain⟨n1,e1,k1⟩:=zMm h1;obtain⟨n2,e2,k2⟩:=vj h2;cases e0;cases e1;cases e2;exact⟨⟨n0,n1,n2⟩,rfl,k0,k1,k2⟩
theorem zMo{c:List V}(h:zF Tryz.prog 24 c):∃l:List Table,c=[.vs 3 (l.map oz)]∧zbs zq4 l:=by
 obtain⟨els,rfl,hl,hx⟩:=wW Tryz.underlying24 h;obtain⟨l,rfl,h2⟩:=vq (fun c h=>zMn h) hx;rw[List.length_map]at hl;exact⟨l,by rw[show Tryz.prog.cellsOf 87=3 by kernel_rfl],hl,h2⟩
theorem zIx{c:List V}(h:zF Tryz.prog 4 c):∃b:Bool,c=[.bool b]∧True:=by
 obtain⟨b,e⟩:=zAz Tryz.underlying4 h;exact⟨b,e,trivial⟩
def zjs(x:zG):Prop:=okK .i64 x.X∧okK .i64 x.Y
theorem zGy{c:List V}(h:zF Tryz.prog 156 c):∃x:zG,c=jm x∧zjs x:=by
 have hl:=(xa Tryz.underlying156 h).1.trans (show Tryz.prog.cellsOf 156=2 by kernel_rfl)
 match c,hl,h with
 |[c0,c1],_,h =>
  have h0:zF Tryz.prog 3 [c0]:=zo Tryz.underlying156 h 0 0 3 1 rfl rfl rfl (by kernel_rfl);have h1:zF Tryz.prog 3 [c1]:=zo Tryz.underlying156 h 1 1 3 1 rfl rfl rfl (by kernel_rfl);obtain⟨n0,e0,k0⟩:=vj h0;obtain⟨n1,e1,k1⟩:=vj h1;cases e0;cases e1;exact⟨⟨n0,n1⟩,rfl,k0,k1⟩
theorem zBg{c:List V}(h:zF Tryz.prog 62 c):∃l:List zG,c=[.vs 2 (l.map jm)]∧zbs zjs l:=by
 obtain⟨els,rfl,hl,hx⟩:=wW Tryz.underlying62 h;obtain⟨l,rfl,h2⟩:=vq (fun c h=>zGy h) hx;rw[List.length_map]at hl;exact⟨l,by rw[show Tryz.prog.cellsOf 156=2 by kernel_rfl],hl,h2⟩
def zBh(x:zY):Prop:=okS x.Name∧True∧(zbs zjs) x.Corners
theorem zMp{c:List V}(h:zF Tryz.prog 64 c):∃x:zY,c=HA x∧zBh x:=by
 have hl:=(xa Tryz.underlying64 h).1.trans (show Tryz.prog.cellsOf 64=3 by kernel_rfl)
 match c,hl,h with
 |[c0,c1,c2],_,h =>
  have h0:zF Tryz.prog 9 [c0]:=zo Tryz.underlying64 h 0 0 9 1 rfl rfl rfl (by kernel_rfl);have h1:zF Tryz.prog 4 [c1]:=zo Tryz.underlying64 h 1 1 4 1 rfl rfl rfl (by kernel_rfl);have h2:zF Tryz.prog 62 [c2]:=zo Tryz.underlying64 h 2 2 62 1 rfl rfl rfl (by kernel_rfl);obtain⟨n0,e0,k0⟩:=K5 h0;obtain⟨n1,e1,k1⟩:=zIx h1;obtain⟨n2,e2,k2⟩:=zBg h2;cases e0;cases e1;cases e2;exact⟨⟨n0,n1,n2⟩,rfl,k0,k1,k2⟩
theorem zMq{c:List V}(h:zF Tryz.prog 25 c):∃l:List zY,c=[.vs 3 (l.map HA)]∧zbs zBh l:=by
 obtain⟨els,rfl,hl,hx⟩:=wW Tryz.underlying25 h;obtain⟨l,rfl,h2⟩:=vq (fun c h=>zMp h) hx;rw[List.length_map]at hl;exact⟨l,by rw[show Tryz.prog.cellsOf 64=3 by kernel_rfl],hl,h2⟩
theorem zBi{c:List V}(h:zF Tryz.prog 58 c):∃l:List (List UInt8),c=[.vs 1 (l.map EV.zKs)]∧zbs okS l:=by
 obtain⟨els,rfl,hl,hx⟩:=wW Tryz.underlying58 h;obtain⟨l,rfl,h2⟩:=vq (fun c h=>K5 h) hx;rw[List.length_map]at hl;exact⟨l,by rw[show Tryz.prog.cellsOf 9=1 by kernel_rfl],hl,h2⟩
def zBj(x:zt):Prop:=okK .i64 x.Side∧okK .i64 x.Base∧okK .i64 x.Num∧okK .i64 x.Den
theorem zMr{c:List V}(h:zF Tryz.prog 92 c):∃x:zt,c=JI x∧zBj x:=by
 have hl:=(xa Tryz.underlying92 h).1.trans (show Tryz.prog.cellsOf 92=4 by kernel_rfl)
 match c,hl,h with
 |[c0,c1,c2,c3],_,h =>
  have h0:zF Tryz.prog 3 [c0]:=zo Tryz.underlying92 h 0 0 3 1 rfl rfl rfl (by kernel_rfl);have h1:zF Tryz.prog 3 [c1]:=zo Tryz.underlying92 h 1 1 3 1 rfl rfl rfl (by kernel_rfl);have h2:zF Tryz.prog 3 [c2]:=zo Tryz.underlying92 h 2 2 3 1 rfl rfl rfl (by kernel_rfl);have h3:zF Tryz.prog 3 [c3]:=zo Tryz.underlying92 h 3 3 3 1 rfl rfl rfl (by kernel_rfl);obtain⟨n0,e0,k0⟩:=vj h0;obtain⟨n1,e1,k1⟩:=vj h1;obtain⟨n2,e2,k2⟩:=vj h2;obtain⟨n3,e3,k3⟩:=vj h3;cases e0;cases e1;cases e2;cases e3;exact⟨⟨n0,n1,n2,n3⟩,rfl,k0,k1,k2,k3⟩
def zBk(x:zB):Prop:=okS x.Name∧(zbs okS) x.Zones∧(zbs okS) x.Except∧okK .i64 x.From∧okK .i64 x.Until∧okK .i64 x.Grace∧True∧okK .i64 x.Kind∧okX x.Test∧zBj x.zt∧okK .i64 x.Uses∧okK .i64 x.Other∧okK .i64 x.N
theorem zMs{c:List V}(h:zF Tryz.prog 94 c):∃x:zB,c=HB x∧zBk x:=by
 have hl:=(xa Tryz.underlying94 h).1.trans (show Tryz.prog.cellsOf 94=20 by kernel_rfl)
 match c,hl,h with
 |[c0,c1,c2,c3,c4,c5,c6,c7,c8,c9,c10,c11,c12,c13,c14,c15,c16,c17,c18,c19],_,h =>
  have h0:zF Tryz.prog 9 [c0]:=zo Tryz.underlying94 h 0 0 9 1 rfl rfl rfl (by kernel_rfl);have h1:zF Tryz.prog 58 [c1]:=zo Tryz.underlying94 h 1 1 58 1 rfl rfl rfl (by kernel_rfl);have h2:zF Tryz.prog 58 [c2]:=zo Tryz.underlying94 h 2 2 58 1 rfl rfl rfl (by kernel_rfl);have h3:zF Tryz.prog 3 [c3]:=zo Tryz.underlying94 h 3 3 3 1 rfl rfl rfl (by kernel_rfl);have h4:zF Tryz.prog 3 [c4]:=zo Tryz.underlying94 h 4 4 3 1 rfl rfl rfl (by kernel_rfl);have h5:zF Tryz.prog 3 [c5]:=zo Tryz.underlying94 h 5 5 3 1 rfl rfl rfl (by kernel_rfl);have h6:zF Tryz.prog 4 [c6]:=zo Tryz.underlying94 h 6 6 4 1 rfl rfl rfl (by kernel_rfl);have h7:zF Tryz.prog 3 [c7]:=zo Tryz.underlying94 h 7 7 3 1 rfl rfl rfl (by kernel_rfl);have h8:zF Tryz.prog 37 [c8,c9,c10,c11,c12]:=zo Tryz.underlying94 h 8 8 37 5 rfl rfl rfl (by kernel_rfl);have h9:zF Tryz.prog 92 [c13,c14,c15,c16]:=zo Tryz.underlying94 h 9 13 92 4 rfl rfl rfl (by kernel_rfl);have h10:zF Tryz.prog 3 [c17]:=zo Tryz.underlying94 h 10 17 3 1 rfl rfl rfl (by kernel_rfl);have h11:zF Tryz.prog 3 [c18]:=zo Tryz.underlying94 h 11 18 3 1 rfl rfl rfl (by kernel_rfl);have h12:zF Tryz.prog 3 [c19]:=zo Tryz.underlying94 h 12 19 3 1 rfl rfl rfl (by kernel_rfl);obtain⟨n0,e0,k0⟩:=K5 h0;obtain⟨n1,e1,k1⟩:=zBi h1;obtain⟨n2,e2,k2⟩:=zBi h2;obtain⟨n3,e3,k3⟩:=vj h3;obtain⟨n4,e4,k4⟩:=vj h4;obtain⟨n5,e5,k5⟩:=vj h5;obtain⟨n6,e6,k6⟩:=zIx h6;obtain⟨n7,e7,k7⟩:=vj h7;obtain⟨n8,e8,k8⟩:=znc h8;obtain⟨n9,e9,k9⟩:=zMr h9;obtain⟨n10,e10,k10⟩:=vj h10;obtain⟨n11,e11,k11⟩:=vj h11;obtain⟨n12,e12,k12⟩:=vj h12;cases e0;cases e1;cases e2;cases e3;cases e4;cases e5;cases e6;cases e7;cases e8;cases e9;cases e10;cases e11;cases e12;exact⟨⟨n0,n1,n2,n3,n4,n5,n6,n7,n8,n9,n10,n11,n12⟩,rfl,k0,k1,k2,k3,k4,k5,k6,k7,k8,k9,k10,k11,k12⟩
theorem zMt{c:List V}(h:zF Tryz.prog 26 c):∃l:List zB,c=[.vs 20 (l.map HB)]∧zbs zBk l:=by
 obtain⟨els,rfl,hl,hx⟩:=wW Tryz.underlying26 h;obtain⟨l,rfl,h2⟩:=vq (fun c h=>zMs h) hx;rw[List.length_map]at hl;exact⟨l,by rw[show Tryz.prog.cellsOf 94=20 by kernel_rfl],hl,h2⟩
def zMu(x:Cap):Prop:=okS x.Name∧okK .i64 x.Load∧okK .i64 x.Limit∧(zbs zjs) x.Corners
theorem zMv{c:List V}(h:zF Tryz.prog 96 c):∃x:Cap,c=QQ x∧zMu x:=by
 have hl:=(xa Tryz.underlying96 h).1.trans (show Tryz.prog.cellsOf 96=4 by kernel_rfl)
 match c,hl,h with
 |[c0,c1,c2,c3],_,h =>
  have h0:zF Tryz.prog 9 [c0]:=zo Tryz.underlying96 h 0 0 9 1 rfl rfl rfl (by kernel_rfl);have h1:zF Tryz.prog 3 [c1]:=zo Tryz.underlying96 h 1 1 3 1 rfl rfl rfl (by kernel_rfl);have h2:zF Tryz.prog 3 [c2]:=zo Tryz.underlying96 h 2 2 3 1 rfl rfl rfl (by kernel_rfl);have h3:zF Tryz.prog 62 [c3]:=zo Tryz.underlying96 h 3 3 62 1 rfl rfl rfl (by kernel_rfl);obtain⟨n0,e0,k0⟩:=K5 h0;obtain⟨n1,e1,k1⟩:=vj h1;obtain⟨n2,e2,k2⟩:=vj h2;obtain⟨n3,e3,k3⟩:=zBg h3;cases e0;cases e1;cases e2;cases e3;exact⟨⟨n0,n1,n2,n3⟩,rfl,k0,k1,k2,k3⟩
theorem zMw{c:List V}(h:zF Tryz.prog 27 c):∃l:List Cap,c=[.vs 4 (l.map QQ)]∧zbs zMu l:=by
 obtain⟨els,rfl,hl,hx⟩:=wW Tryz.underlying27 h;obtain⟨l,rfl,h2⟩:=vq (fun c h=>zMv h) hx;rw[List.length_map]at hl;exact⟨l,by rw[show Tryz.prog.cellsOf 96=4 by kernel_rfl],hl,h2⟩
def WA(x:zf):Prop:=okK .i64 x.X∧okK .i64 x.Y∧okK .i64 x.Z_
theorem zBl{c:List V}(h:zF Tryz.prog 98 c):∃x:zf,c=vI x∧WA x:=by
 have hl:=(xa Tryz.underlying98 h).1.trans (show Tryz.prog.cellsOf 98=3 by kernel_rfl)
 match c,hl,h with
 |[c0,c1,c2],_,h =>
  have h0:zF Tryz.prog 3 [c0]:=zo Tryz.underlying98 h 0 0 3 1 rfl rfl rfl (by kernel_rfl);have h1:zF Tryz.prog 3 [c1]:=zo Tryz.underlying98 h 1 1 3 1 rfl rfl rfl (by kernel_rfl);have h2:zF Tryz.prog 3 [c2]:=zo Tryz.underlying98 h 2 2 3 1 rfl rfl rfl (by kernel_rfl);obtain⟨n0,e0,k0⟩:=vj h0;obtain⟨n1,e1,k1⟩:=vj h1;obtain⟨n2,e2,k2⟩:=vj h2;cases e0;cases e1;cases e2;exact⟨⟨n0,n1,n2⟩,rfl,k0,k1,k2⟩
theorem zBm{c:List V}(h:zF Tryz.prog 29 c):∃l:List zf,c=[.vs 3 (l.map vI)]∧zbs WA l:=by
 obtain⟨els,rfl,hl,hx⟩:=wW Tryz.underlying29 h;obtain⟨l,rfl,h2⟩:=vq (fun c h=>zBl h) hx;rw[List.length_map]at hl;exact⟨l,by rw[show Tryz.prog.cellsOf 98=3 by kernel_rfl],hl,h2⟩
def zBn(x:View):Prop:=okS x.Name∧WA x.Eye∧okK .i64 x.Least∧(zbs WA) x.Targets
theorem zGz{c:List V}(h:zF Tryz.prog 100 c):∃x:View,c=HC x∧zBn x:=by
 have hl:=(xa Tryz.underlying100 h).1.trans (show Tryz.prog.cellsOf 100=6 by kernel_rfl)
 match c,hl,h with
 |[c0,c1,c2,c3,c4,c5],_,h =>
  have h0:zF Tryz.prog 9 [c0]:=zo Tryz.underlying100 h 0 0 9 1 rfl rfl rfl (by kernel_rfl);have h1:zF Tryz.prog 98 [c1,c2,c3]:=zo Tryz.underlying100 h 1 1 98 3 rfl rfl rfl (by kernel_rfl);have h2:zF Tryz.prog 3 [c4]:=zo Tryz.underlying100 h 2 4 3 1 rfl rfl rfl (by kernel_rfl);have h3:zF Tryz.prog 29 [c5]:=zo Tryz.underlying100 h 3 5 29 1 rfl rfl rfl (by kernel_rfl);obtain⟨n0,e0,k0⟩:=K5 h0;obtain⟨n1,e1,k1⟩:=zBl h1;obtain⟨n2,e2,k2⟩:=vj h2;obtain⟨n3,e3,k3⟩:=zBm h3;cases e0;cases e1;cases e2;cases e3;exact⟨⟨n0,n1,n2,n3⟩,rfl,k0,k1,k2,k3⟩
theorem zMx{c:List V}(h:zF Tryz.prog 28 c):∃l:List View,c=[.vs 6 (l.map HC)]∧zbs zBn l:=by
 obtain⟨els,rfl,hl,hx⟩:=wW Tryz.underlying28 h;obtain⟨l,rfl,h2⟩:=vq (fun c h=>zGz h) hx;rw[List.length_map]at hl;exact⟨l,by rw[show Tryz.prog.cellsOf 100=6 by kernel_rfl],hl,h2⟩
def zBo(x:vg):Prop:=(zbs zMj) x.Defs∧(zbs zq4) x.Tables∧(zbs zBh) x.Zones∧(zbs zBk) x.Rules∧(zbs zMu) x.Caps∧(zbs zBn) x.Views∧(zbs WA) x.Sun∧okK .i64 x.Hours
theorem zMy{c:List V}(h:zF Tryz.prog 31 c):∃x:vg,c=Ab x∧zBo x:=by
 have hl:=(xa Tryz.underlying31 h).1.trans (show Tryz.prog.cellsOf 31=8 by kernel_rfl)
 match c,hl,h with
 |[c0,c1,c2,c3,c4,c5,c6,c7],_,h =>
  have h0:zF Tryz.prog 23 [c0]:=zo Tryz.underlying31 h 0 0 23 1 rfl rfl rfl (by kernel_rfl);have h1:zF Tryz.prog 24 [c1]:=zo Tryz.underlying31 h 1 1 24 1 rfl rfl rfl (by kernel_rfl);have h2:zF Tryz.prog 25 [c2]:=zo Tryz.underlying31 h 2 2 25 1 rfl rfl rfl (by kernel_rfl);have h3:zF Tryz.prog 26 [c3]:=zo Tryz.underlying31 h 3 3 26 1 rfl rfl rfl (by kernel_rfl);have h4:zF Tryz.prog 27 [c4]:=zo Tryz.underlying31 h 4 4 27 1 rfl rfl rfl (by kernel_rfl);have h5:zF Tryz.prog 28 [c5]:=zo Tryz.underlying31 h 5 5 28 1 rfl rfl rfl (by kernel_rfl);have h6:zF Tryz.prog 29 [c6]:=zo Tryz.underlying31 h 6 6 29 1 rfl rfl rfl (by kernel_rfl);have h7:zF Tryz.prog 3 [c7]:=zo Tryz.underlying31 h 7 7 3 1 rfl rfl rfl (by kernel_rfl);obtain⟨n0,e0,k0⟩:=zMl h0;obtain⟨n1,e1,k1⟩:=zMo h1;obtain⟨n2,e2,k2⟩:=zMq h2;obtain⟨n3,e3,k3⟩:=zMt h3;obtain⟨n4,e4,k4⟩:=zMw h4;obtain⟨n5,e5,k5⟩:=zMx h5;obtain⟨n6,e6,k6⟩:=zBm h6;obtain⟨n7,e7,k7⟩:=vj h7;cases e0;cases e1;cases e2;cases e3;cases e4;cases e5;cases e6;cases e7;exact⟨⟨n0,n1,n2,n3,n4,n5,n6,n7⟩,rfl,k0,k1,k2,k3,k4,k5,k6,k7⟩
section
variable{H:Type}{enc:TypeId×Value→H}{W:World}{b0:Nat}{r:Reach}{v:Value}{d:DataW H}{p:List MemPlace}{t:TypeId}
theorem zBp(hv:Value.okWide Tryz.prog W r b0 31 v)(h:DataW.Trod enc Tryz.prog W 0 (fun _=>true) true 31 v d p):∃x:vg,zBo x∧Rep none W.cell? (.agg (Ab x)) v:=by
 obtain⟨vs,h1,h2⟩:=zQa (by kernel_rfl) h;obtain⟨x,rfl,hx⟩:=zMy h1;obtain⟨cs,rfl,_⟩:=okWide_struct Tryz.underlying31 hv;exact⟨x,hx,cs.toList,by simp,h2⟩
end
end Go.Proofs.YtffencjoddkghaaGreatDoor
