/- texts that the proof reaches, part 9 -/
import Derived.Test.YthnokpghgeppdaaGreatDoorKh
set_option linter.all false
set_option maxRecDepth 100000
namespace Go.Proofs.YthnokpghgeppdaaGreatDoor
open Go Go.ChangeShapes Go.WideShapes Go.ChangeAt Go.RowKit Go.Deep Go.Joins Go.EV
theorem uM{c:List V}(h:zk Tryz.prog 9 c):∃s,c=EV.zAm s∧okS s:=ztq Tryz.underlying9 h
theorem yL{c:List V}(h:zk Tryz.prog 3 c):∃n,c=EV.encI n∧okK .i64 n:=ztp Tryz.underlying3 h
mutual
def okX:Expr→Prop
 |⟨_,_,s,_,args⟩=>s.length≤9223372036854775807∧args.length≤9223372036854775807∧zyo args
def zyo:List Expr→Prop
 |[]=>True
 |x::r=>okX x∧zyo r
end
theorem zCe(e:Expr):okX e=(e.S.length≤9223372036854775807∧e.Args.length≤9223372036854775807∧zyo e.Args):=by cases e;rw[okX]
theorem zpd:∀{l:List Expr},(∀x∈l,okX x)→zyo l
 |[],_=>by rw[zyo];trivial
 |x::l,h=>by rw[zyo];exact⟨h x (List.mem_cons_self ..),zpd fun y hy=>h y (List.mem_cons_of_mem _ hy)⟩
theorem zio{α:Type}{enc:α→List V}{ok:α→Prop}:∀{els:List (List V)},(∀x∈els,∃a,x=enc a∧ok a)→∃l:List α,els=l.map enc∧∀a∈l,ok a
 |[],_=>⟨[],rfl,fun _ h=>by cases h⟩
 |c::els,h=>by
  obtain⟨a,rfl,ha⟩:=h c (List.mem_cons_self ..);obtain⟨l,rfl,hl⟩:=zio (fun x hx=>h x (List.mem_cons_of_mem _ hx))
  exact⟨a::l,rfl,fun b hb=>by
   rcases List.mem_cons.1 hb with rfl|hb
   ·exact ha
   ·exact hl b hb⟩
theorem zpe{t:TypeId}{cs:List V}(h:zk Tryz.prog t cs):(t=35→∃e:Expr,cs=kT e∧okX e)∧(t=33→∃l:List Expr,cs=[.vs 5 (y7 l)]∧l.length≤maxLen∧zyo l):=by
 induction h with
 |bool h|int h|str h=>exact⟨fun e=>by (subst e;rw[Tryz.underlying35]at h;cases h),fun e=>by subst e;rw[Tryz.underlying33]at h;cases h⟩
 |array h=>exact⟨fun e=>by (subst e;rw[Tryz.underlying35]at h;cases h),fun e=>by subst e;rw[Tryz.underlying33]at h;cases h⟩
 |other h=>exact⟨fun e=>by (subst e;unfold ox at h;rw[Tryz.underlying35]at h;cases h),fun e=>by subst e;unfold ox at h;rw[Tryz.underlying33]at h;cases h⟩
 |slice h hl hx ih =>
  refine⟨fun e=>by (subst e;rw[Tryz.underlying35]at h;cases h),fun e=>?_⟩;subst e;rw[Tryz.underlying33]at h;cases h;obtain⟨l,rfl,h2⟩:=zio (fun x hx'=>(ih x hx').1 rfl);rw[List.length_map]at hl;exact⟨l,by rw[show Tryz.prog.cellsOf 35=5 by kernel_rfl,oy],hl,zpd h2⟩
 |@struct t' fs cs' h hc hx ih =>
  refine⟨fun e=>?_,fun e=>by subst e;rw[Tryz.underlying33]at h;cases h⟩;subst e;have hall:zk Tryz.prog 35 cs':=.struct h hc hx;rw[Tryz.underlying35]at h;cases h;have hl:=hc.trans (show Tryz.prog.cellsOf 35=5 by kernel_rfl);clear hc
  match cs',hl,hall,ih with
  |[c0,c1,c2,c3,c4],_,h,ih =>
   have h0:zk Tryz.prog 3 [c0]:=zf Tryz.underlying35 h 0 0 3 1 rfl rfl rfl (by kernel_rfl);have h1:zk Tryz.prog 3 [c1]:=zf Tryz.underlying35 h 1 1 3 1 rfl rfl rfl (by kernel_rfl);have h2:zk Tryz.prog 9 [c2]:=zf Tryz.underlying35 h 2 2 9 1 rfl rfl rfl (by kernel_rfl);have h3:zk Tryz.prog 9 [c3]:=zf Tryz.underlying35 h 3 3 9 1 rfl rfl rfl (by kernel_rfl);obtain⟨l,e4,k4,o4⟩:=(ih _ (List.mem_of_getElem? (i:=4) rfl)).2 rfl;obtain⟨n0,e0,k0⟩:=yL h0;obtain⟨n1,e1,k1⟩:=yL h1;obtain⟨n2,e2,k2⟩:=uM h2;obtain⟨n3,e3,k3⟩:=uM h3
   have e4':[c4]=[.vs 5 (y7 l)]:=by
    rw[← e4];exact(congrArg (fun n=>(List.drop 4 [c0,c1,c2,c3,c4]).take n) (show Tryz.prog.cellsOf 33=1 by kernel_rfl)).symm
   cases e0;cases e1;cases e2;cases e3;cases e4';exact⟨⟨n0,n1,n2,n3,l⟩,rfl,by rw[zCe];exact⟨k2,k4,o4⟩⟩
theorem Vz{c:List V}(h:zk Tryz.prog 35 c):∃e:Expr,c=kT e∧okX e:=(zpe h).1 rfl
def zyp(x:Def):Prop:=okS x.Name∧okX x.Body
theorem zyq{c:List V}(h:zk Tryz.prog 67 c):∃x:Def,c=Vl x∧zyp x:=by
 have hl:=(yd Tryz.underlying67 h).1.trans (show Tryz.prog.cellsOf 67=6 by kernel_rfl)
 match c,hl,h with
 |[c0,c1,c2,c3,c4,c5],_,h =>
  have h0:zk Tryz.prog 9 [c0]:=zf Tryz.underlying67 h 0 0 9 1 rfl rfl rfl (by kernel_rfl);have h1:zk Tryz.prog 35 [c1,c2,c3,c4,c5]:=zf Tryz.underlying67 h 1 1 35 5 rfl rfl rfl (by kernel_rfl);obtain⟨n0,e0,k0⟩:=uM h0;obtain⟨n1,e1,k1⟩:=Vz h1;cases e0;cases e1;exact⟨⟨n0,n1⟩,rfl,k0,k1⟩
theorem zyr{c:List V}(h:zk Tryz.prog 22 c):∃l:List Def,c=[.vs 6 (l.map Vl)]∧Kj zyp l:=by
 obtain⟨els,rfl,hl,hx⟩:=yD Tryz.underlying22 h;obtain⟨l,rfl,h2⟩:=y6 (fun c h=>zyq h) hx;rw[List.length_map]at hl;exact⟨l,by rw[show Tryz.prog.cellsOf 67=6 by kernel_rfl],hl,h2⟩
def zf8(x:Entry):Prop:=okS x.Name∧okK .i64 x.N
theorem zys{c:List V}(h:zk Tryz.prog 86 c):∃x:Entry,c=oz x∧zf8 x:=by
 have hl:=(yd Tryz.underlying86 h).1.trans (show Tryz.prog.cellsOf 86=2 by kernel_rfl)
 match c,hl,h with
 |[c0,c1],_,h =>
  have h0:zk Tryz.prog 9 [c0]:=zf Tryz.underlying86 h 0 0 9 1 rfl rfl rfl (by kernel_rfl);have h1:zk Tryz.prog 3 [c1]:=zf Tryz.underlying86 h 1 1 3 1 rfl rfl rfl (by kernel_rfl);obtain⟨n0,e0,k0⟩:=uM h0;obtain⟨n1,e1,k1⟩:=yL h1;cases e0;cases e1;exact⟨⟨n0,n1⟩,rfl,k0,k1⟩
theorem zyt{c:List V}(h:zk Tryz.prog 68 c):∃l:List Entry,c=[.vs 2 (l.map oz)]∧Kj zf8 l:=by
 obtain⟨els,rfl,hl,hx⟩:=yD Tryz.underlying68 h;obtain⟨l,rfl,h2⟩:=y6 (fun c h=>zys h) hx;rw[List.length_map]at hl;exact⟨l,by rw[show Tryz.prog.cellsOf 86=2 by kernel_rfl],hl,h2⟩
def zf9(x:Table):Prop:=okS x.Name∧(Kj zf8) x.Rows∧okK .i64 x.Else
theorem zyu{c:List V}(h:zk Tryz.prog 70 c):∃x:Table,c=oA x∧zf9 x:=by
 have hl:=(yd Tryz.underlying70 h).1.trans (show Tryz.prog.cellsOf 70=3 by kernel_rfl)
 match c,hl,h with
 |[c0,c1,c2],_,h =>
  have h0:zk Tryz.prog 9 [c0]:=zf Tryz.underlying70 h 0 0 9 1 rfl rfl rfl (by kernel_rfl);have h1:zk Tryz.prog 68 [c1]:=zf Tryz.underlying70 h 1 1 68 1 rfl rfl rfl (by kernel_rfl);have h2:zk Tryz.prog 3 [c2]:=zf Tryz.underlying70 h 2 2 3 1 rfl rfl rfl (by kernel_rfl);obtain⟨n0,e0,k0⟩:=uM h0;obtain⟨n1,e1,k1⟩:=zyt h1;obtain⟨n2,e2,k2⟩:=yL h2;cases e0;cases e1;cases e2;exact⟨⟨n0,n1,n2⟩,rfl,k0,k1,k2⟩
theorem zyv{c:List V}(h:zk Tryz.prog 23 c):∃l:List Table,c=[.vs 3 (l.map oA)]∧Kj zf9 l:=by
 obtain⟨els,rfl,hl,hx⟩:=yD Tryz.underlying23 h;obtain⟨l,rfl,h2⟩:=y6 (fun c h=>zyu h) hx;rw[List.length_map]at hl;exact⟨l,by rw[show Tryz.prog.cellsOf 70=3 by kernel_rfl],hl,h2⟩
theorem zvj{c:List V}(h:zk Tryz.prog 4 c):∃b:Bool,c=[.bool b]∧True:=by
 obtain⟨b,e⟩:=zo2 Tryz.underlying4 h;exact⟨b,e,trivial⟩
def VA(x:zw):Prop:=okK .i64 x.X∧okK .i64 x.Y
theorem zyw{c:List V}(h:zk Tryz.prog 90 c):∃x:zw,c=kp x∧VA x:=by
 have hl:=(yd Tryz.underlying90 h).1.trans (show Tryz.prog.cellsOf 90=2 by kernel_rfl)
 match c,hl,h with
 |[c0,c1],_,h =>
  have h0:zk Tryz.prog 3 [c0]:=zf Tryz.underlying90 h 0 0 3 1 rfl rfl rfl (by kernel_rfl);have h1:zk Tryz.prog 3 [c1]:=zf Tryz.underlying90 h 1 1 3 1 rfl rfl rfl (by kernel_rfl);obtain⟨n0,e0,k0⟩:=yL h0;obtain⟨n1,e1,k1⟩:=yL h1;cases e0;cases e1;exact⟨⟨n0,n1⟩,rfl,k0,k1⟩
theorem zga{c:List V}(h:zk Tryz.prog 40 c):∃l:List zw,c=[.vs 2 (l.map kp)]∧Kj VA l:=by
 obtain⟨els,rfl,hl,hx⟩:=yD Tryz.underlying40 h;obtain⟨l,rfl,h2⟩:=y6 (fun c h=>zyw h) hx;rw[List.length_map]at hl;exact⟨l,by rw[show Tryz.prog.cellsOf 90=2 by kernel_rfl],hl,h2⟩
def zpf(x:zm):Prop:=okS x.Name∧True∧(Kj VA) x.Corners
theorem zyx{c:List V}(h:zk Tryz.prog 72 c):∃x:zm,c=HQ x∧zpf x:=by
 have hl:=(yd Tryz.underlying72 h).1.trans (show Tryz.prog.cellsOf 72=3 by kernel_rfl)
 match c,hl,h with
 |[c0,c1,c2],_,h =>
  have h0:zk Tryz.prog 9 [c0]:=zf Tryz.underlying72 h 0 0 9 1 rfl rfl rfl (by kernel_rfl);have h1:zk Tryz.prog 4 [c1]:=zf Tryz.underlying72 h 1 1 4 1 rfl rfl rfl (by kernel_rfl);have h2:zk Tryz.prog 40 [c2]:=zf Tryz.underlying72 h 2 2 40 1 rfl rfl rfl (by kernel_rfl);obtain⟨n0,e0,k0⟩:=uM h0;obtain⟨n1,e1,k1⟩:=zvj h1;obtain⟨n2,e2,k2⟩:=zga h2;cases e0;cases e1;cases e2;exact⟨⟨n0,n1,n2⟩,rfl,k0,k1,k2⟩
theorem zyy{c:List V}(h:zk Tryz.prog 24 c):∃l:List zm,c=[.vs 3 (l.map HQ)]∧Kj zpf l:=by
 obtain⟨els,rfl,hl,hx⟩:=yD Tryz.underlying24 h;obtain⟨l,rfl,h2⟩:=y6 (fun c h=>zyx h) hx;rw[List.length_map]at hl;exact⟨l,by rw[show Tryz.prog.cellsOf 72=3 by kernel_rfl],hl,h2⟩
theorem zpg{c:List V}(h:zk Tryz.prog 32 c):∃l:List (List UInt8),c=[.vs 1 (l.map EV.zAm)]∧Kj okS l:=by
 obtain⟨els,rfl,hl,hx⟩:=yD Tryz.underlying32 h;obtain⟨l,rfl,h2⟩:=y6 (fun c h=>uM h) hx;rw[List.length_map]at hl;exact⟨l,by rw[show Tryz.prog.cellsOf 9=1 by kernel_rfl],hl,h2⟩
def zph(x:zg):Prop:=okK .i64 x.Side∧okK .i64 x.Base∧okK .i64 x.Num∧okK .i64 x.Den
theorem zyz{c:List V}(h:zk Tryz.prog 37 c):∃x:zg,c=Vm x∧zph x:=by
 have hl:=(yd Tryz.underlying37 h).1.trans (show Tryz.prog.cellsOf 37=4 by kernel_rfl)
 match c,hl,h with
 |[c0,c1,c2,c3],_,h =>
  have h0:zk Tryz.prog 3 [c0]:=zf Tryz.underlying37 h 0 0 3 1 rfl rfl rfl (by kernel_rfl);have h1:zk Tryz.prog 3 [c1]:=zf Tryz.underlying37 h 1 1 3 1 rfl rfl rfl (by kernel_rfl);have h2:zk Tryz.prog 3 [c2]:=zf Tryz.underlying37 h 2 2 3 1 rfl rfl rfl (by kernel_rfl);have h3:zk Tryz.prog 3 [c3]:=zf Tryz.underlying37 h 3 3 3 1 rfl rfl rfl (by kernel_rfl);obtain⟨n0,e0,k0⟩:=yL h0;obtain⟨n1,e1,k1⟩:=yL h1;obtain⟨n2,e2,k2⟩:=yL h2;obtain⟨n3,e3,k3⟩:=yL h3;cases e0;cases e1;cases e2;cases e3;exact⟨⟨n0,n1,n2,n3⟩,rfl,k0,k1,k2,k3⟩
def ziq(x:zb):Prop:=okS x.Name∧(Kj okS) x.Zones∧(Kj okS) x.Except∧okK .i64 x.From∧okK .i64 x.Until∧okK .i64 x.Grace∧True∧okK .i64 x.Kind∧okX x.Test∧zph x.zg∧okK .i64 x.Uses∧okK .i64 x.Other∧okK .i64 x.N
theorem zpi{c:List V}(h:zk Tryz.prog 39 c):∃x:zb,c=HR x∧ziq x:=by
 have hl:=(yd Tryz.underlying39 h).1.trans (show Tryz.prog.cellsOf 39=20 by kernel_rfl)
 match c,hl,h with
 |[c0,c1,c2,c3,c4,c5,c6,c7,c8,c9,c10,c11,c12,c13,c14,c15,c16,c17,c18,c19],_,h =>
  have h0:zk Tryz.prog 9 [c0]:=zf Tryz.underlying39 h 0 0 9 1 rfl rfl rfl (by kernel_rfl);have h1:zk Tryz.prog 32 [c1]:=zf Tryz.underlying39 h 1 1 32 1 rfl rfl rfl (by kernel_rfl);have h2:zk Tryz.prog 32 [c2]:=zf Tryz.underlying39 h 2 2 32 1 rfl rfl rfl (by kernel_rfl);have h3:zk Tryz.prog 3 [c3]:=zf Tryz.underlying39 h 3 3 3 1 rfl rfl rfl (by kernel_rfl);have h4:zk Tryz.prog 3 [c4]:=zf Tryz.underlying39 h 4 4 3 1 rfl rfl rfl (by kernel_rfl);have h5:zk Tryz.prog 3 [c5]:=zf Tryz.underlying39 h 5 5 3 1 rfl rfl rfl (by kernel_rfl);have h6:zk Tryz.prog 4 [c6]:=zf Tryz.underlying39 h 6 6 4 1 rfl rfl rfl (by kernel_rfl);have h7:zk Tryz.prog 3 [c7]:=zf Tryz.underlying39 h 7 7 3 1 rfl rfl rfl (by kernel_rfl);have h8:zk Tryz.prog 35 [c8,c9,c10,c11,c12]:=zf Tryz.underlying39 h 8 8 35 5 rfl rfl rfl (by kernel_rfl);have h9:zk Tryz.prog 37 [c13,c14,c15,c16]:=zf Tryz.underlying39 h 9 13 37 4 rfl rfl rfl (by kernel_rfl);have h10:zk Tryz.prog 3 [c17]:=zf Tryz.underlying39 h 10 17 3 1 rfl rfl rfl (by kernel_rfl);have h11:zk Tryz.prog 3 [c18]:=zf Tryz.underlying39 h 11 18 3 1 rfl rfl rfl (by kernel_rfl);have h12:zk Tryz.prog 3 [c19]:=zf Tryz.underlying39 h 12 19 3 1 rfl rfl rfl (by kernel_rfl);obtain⟨n0,e0,k0⟩:=uM h0;obtain⟨n1,e1,k1⟩:=zpg h1;obtain⟨n2,e2,k2⟩:=zpg h2;obtain⟨n3,e3,k3⟩:=yL h3;obtain⟨n4,e4,k4⟩:=yL h4;obtain⟨n5,e5,k5⟩:=yL h5;obtain⟨n6,e6,k6⟩:=zvj h6;obtain⟨n7,e7,k7⟩:=yL h7;obtain⟨n8,e8,k8⟩:=Vz h8;obtain⟨n9,e9,k9⟩:=zyz h9;obtain⟨n10,e10,k10⟩:=yL h10;obtain⟨n11,e11,k11⟩:=yL h11;obtain⟨n12,e12,k12⟩:=yL h12;cases e0;cases e1;cases e2;cases e3;cases e4;cases e5;cases e6;cases e7;cases e8;cases e9;cases e10;cases e11;cases e12;exact⟨⟨n0,n1,n2,n3,n4,n5,n6,n7,n8,n9,n10,n11,n12⟩,rfl,k0,k1,k2,k3,k4,k5,k6,k7,k8,k9,k10,k11,k12⟩
theorem zy0{c:List V}(h:zk Tryz.prog 25 c):∃l:List zb,c=[.vs 20 (l.map HR)]∧Kj ziq l:=by
 obtain⟨els,rfl,hl,hx⟩:=yD Tryz.underlying25 h;obtain⟨l,rfl,h2⟩:=y6 (fun c h=>zpi h) hx;rw[List.length_map]at hl;exact⟨l,by rw[show Tryz.prog.cellsOf 39=20 by kernel_rfl],hl,h2⟩
def zy1(x:Cap):Prop:=okS x.Name∧okK .i64 x.Load∧okK .i64 x.Limit∧(Kj VA) x.Corners
theorem zy2{c:List V}(h:zk Tryz.prog 75 c):∃x:Cap,c=Vn x∧zy1 x:=by
 have hl:=(yd Tryz.underlying75 h).1.trans (show Tryz.prog.cellsOf 75=4 by kernel_rfl)
 match c,hl,h with
 |[c0,c1,c2,c3],_,h =>
  have h0:zk Tryz.prog 9 [c0]:=zf Tryz.underlying75 h 0 0 9 1 rfl rfl rfl (by kernel_rfl);have h1:zk Tryz.prog 3 [c1]:=zf Tryz.underlying75 h 1 1 3 1 rfl rfl rfl (by kernel_rfl);have h2:zk Tryz.prog 3 [c2]:=zf Tryz.underlying75 h 2 2 3 1 rfl rfl rfl (by kernel_rfl);have h3:zk Tryz.prog 40 [c3]:=zf Tryz.underlying75 h 3 3 40 1 rfl rfl rfl (by kernel_rfl);obtain⟨n0,e0,k0⟩:=uM h0;obtain⟨n1,e1,k1⟩:=yL h1;obtain⟨n2,e2,k2⟩:=yL h2;obtain⟨n3,e3,k3⟩:=zga h3;cases e0;cases e1;cases e2;cases e3;exact⟨⟨n0,n1,n2,n3⟩,rfl,k0,k1,k2,k3⟩
theorem zy3{c:List V}(h:zk Tryz.prog 26 c):∃l:List Cap,c=[.vs 4 (l.map Vn)]∧Kj zy1 l:=by
 obtain⟨els,rfl,hl,hx⟩:=yD Tryz.underlying26 h;obtain⟨l,rfl,h2⟩:=y6 (fun c h=>zy2 h) hx;rw[List.length_map]at hl;exact⟨l,by rw[show Tryz.prog.cellsOf 75=4 by kernel_rfl],hl,h2⟩
def Je(x:zj):Prop:=okK .i64 x.X∧okK .i64 x.Y∧okK .i64 x.Z_
theorem zpj{c:List V}(h:zk Tryz.prog 77 c):∃x:zj,c=jU x∧Je x:=by
 have hl:=(yd Tryz.underlying77 h).1.trans (show Tryz.prog.cellsOf 77=3 by kernel_rfl)
 match c,hl,h with
 |[c0,c1,c2],_,h =>
  have h0:zk Tryz.prog 3 [c0]:=zf Tryz.underlying77 h 0 0 3 1 rfl rfl rfl (by kernel_rfl);have h1:zk Tryz.prog 3 [c1]:=zf Tryz.underlying77 h 1 1 3 1 rfl rfl rfl (by kernel_rfl);have h2:zk Tryz.prog 3 [c2]:=zf Tryz.underlying77 h 2 2 3 1 rfl rfl rfl (by kernel_rfl);obtain⟨n0,e0,k0⟩:=yL h0;obtain⟨n1,e1,k1⟩:=yL h1;obtain⟨n2,e2,k2⟩:=yL h2;cases e0;cases e1;cases e2;exact⟨⟨n0,n1,n2⟩,rfl,k0,k1,k2⟩
theorem zpk{c:List V}(h:zk Tryz.prog 28 c):∃l:List zj,c=[.vs 3 (l.map jU)]∧Kj Je l:=by
 obtain⟨els,rfl,hl,hx⟩:=yD Tryz.underlying28 h;obtain⟨l,rfl,h2⟩:=y6 (fun c h=>zpj h) hx;rw[List.length_map]at hl;exact⟨l,by rw[show Tryz.prog.cellsOf 77=3 by kernel_rfl],hl,h2⟩
def zpl(x:View):Prop:=okS x.Name∧Je x.Eye∧okK .i64 x.Least∧(Kj Je) x.Targets
theorem zy4{c:List V}(h:zk Tryz.prog 79 c):∃x:View,c=HS x∧zpl x:=by
 have hl:=(yd Tryz.underlying79 h).1.trans (show Tryz.prog.cellsOf 79=6 by kernel_rfl)
 match c,hl,h with
 |[c0,c1,c2,c3,c4,c5],_,h =>
  have h0:zk Tryz.prog 9 [c0]:=zf Tryz.underlying79 h 0 0 9 1 rfl rfl rfl (by kernel_rfl);have h1:zk Tryz.prog 77 [c1,c2,c3]:=zf Tryz.underlying79 h 1 1 77 3 rfl rfl rfl (by kernel_rfl);have h2:zk Tryz.prog 3 [c4]:=zf Tryz.underlying79 h 2 4 3 1 rfl rfl rfl (by kernel_rfl);have h3:zk Tryz.prog 28 [c5]:=zf Tryz.underlying79 h 3 5 28 1 rfl rfl rfl (by kernel_rfl);obtain⟨n0,e0,k0⟩:=uM h0;obtain⟨n1,e1,k1⟩:=zpj h1;obtain⟨n2,e2,k2⟩:=yL h2;obtain⟨n3,e3,k3⟩:=zpk h3;cases e0;cases e1;cases e2;cases e3;exact⟨⟨n0,n1,n2,n3⟩,rfl,k0,k1,k2,k3⟩
theorem zy5{c:List V}(h:zk Tryz.prog 27 c):∃l:List View,c=[.vs 6 (l.map HS)]∧Kj zpl l:=by
 obtain⟨els,rfl,hl,hx⟩:=yD Tryz.underlying27 h;obtain⟨l,rfl,h2⟩:=y6 (fun c h=>zy4 h) hx;rw[List.length_map]at hl;exact⟨l,by rw[show Tryz.prog.cellsOf 79=6 by kernel_rfl],hl,h2⟩
def zvk(x:zu):Prop:=(Kj zyp) x.Defs∧(Kj zf9) x.Tables∧(Kj zpf) x.Zones∧(Kj ziq) x.Rules∧(Kj zy1) x.Caps∧(Kj zpl) x.Views∧(Kj Je) x.Sun∧okK .i64 x.Hours
theorem zy6{c:List V}(h:zk Tryz.prog 30 c):∃x:zu,c=An x∧zvk x:=by
 have hl:=(yd Tryz.underlying30 h).1.trans (show Tryz.prog.cellsOf 30=8 by kernel_rfl)
 match c,hl,h with
 |[c0,c1,c2,c3,c4,c5,c6,c7],_,h =>
  have h0:zk Tryz.prog 22 [c0]:=zf Tryz.underlying30 h 0 0 22 1 rfl rfl rfl (by kernel_rfl);have h1:zk Tryz.prog 23 [c1]:=zf Tryz.underlying30 h 1 1 23 1 rfl rfl rfl (by kernel_rfl);have h2:zk Tryz.prog 24 [c2]:=zf Tryz.underlying30 h 2 2 24 1 rfl rfl rfl (by kernel_rfl);have h3:zk Tryz.prog 25 [c3]:=zf Tryz.underlying30 h 3 3 25 1 rfl rfl rfl (by kernel_rfl);have h4:zk Tryz.prog 26 [c4]:=zf Tryz.underlying30 h 4 4 26 1 rfl rfl rfl (by kernel_rfl);have h5:zk Tryz.prog 27 [c5]:=zf Tryz.underlying30 h 5 5 27 1 rfl rfl rfl (by kernel_rfl);have h6:zk Tryz.prog 28 [c6]:=zf Tryz.underlying30 h 6 6 28 1 rfl rfl rfl (by kernel_rfl);have h7:zk Tryz.prog 3 [c7]:=zf Tryz.underlying30 h 7 7 3 1 rfl rfl rfl (by kernel_rfl);obtain⟨n0,e0,k0⟩:=zyr h0;obtain⟨n1,e1,k1⟩:=zyv h1;obtain⟨n2,e2,k2⟩:=zyy h2;obtain⟨n3,e3,k3⟩:=zy0 h3;obtain⟨n4,e4,k4⟩:=zy3 h4;obtain⟨n5,e5,k5⟩:=zy5 h5;obtain⟨n6,e6,k6⟩:=zpk h6;obtain⟨n7,e7,k7⟩:=yL h7;cases e0;cases e1;cases e2;cases e3;cases e4;cases e5;cases e6;cases e7;exact⟨⟨n0,n1,n2,n3,n4,n5,n6,n7⟩,rfl,k0,k1,k2,k3,k4,k5,k6,k7⟩
def zpm(x:zn):Prop:=okK .i64 x.Kind∧okS x.Name∧okS x.Key∧okK .i64 x.N∧ziq x.zb∧okX x.Body∧(Kj VA) x.Corners
theorem zy7{c:List V}(h:zk Tryz.prog 42 c):∃x:zn,c=ud x∧zpm x:=by
 have hl:=(yd Tryz.underlying42 h).1.trans (show Tryz.prog.cellsOf 42=30 by kernel_rfl)
 match c,hl,h with
 |[c0,c1,c2,c3,c4,c5,c6,c7,c8,c9,c10,c11,c12,c13,c14,c15,c16,c17,c18,c19,c20,c21,c22,c23,c24,c25,c26,c27,c28,c29],_,h =>
  have h0:zk Tryz.prog 3 [c0]:=zf Tryz.underlying42 h 0 0 3 1 rfl rfl rfl (by kernel_rfl);have h1:zk Tryz.prog 9 [c1]:=zf Tryz.underlying42 h 1 1 9 1 rfl rfl rfl (by kernel_rfl);have h2:zk Tryz.prog 9 [c2]:=zf Tryz.underlying42 h 2 2 9 1 rfl rfl rfl (by kernel_rfl);have h3:zk Tryz.prog 3 [c3]:=zf Tryz.underlying42 h 3 3 3 1 rfl rfl rfl (by kernel_rfl);have h4:zk Tryz.prog 39 [c4,c5,c6,c7,c8,c9,c10,c11,c12,c13,c14,c15,c16,c17,c18,c19,c20,c21,c22,c23]:=zf Tryz.underlying42 h 4 4 39 20 rfl rfl rfl (by kernel_rfl);have h5:zk Tryz.prog 35 [c24,c25,c26,c27,c28]:=zf Tryz.underlying42 h 5 24 35 5 rfl rfl rfl (by kernel_rfl);have h6:zk Tryz.prog 40 [c29]:=zf Tryz.underlying42 h 6 29 40 1 rfl rfl rfl (by kernel_rfl);obtain⟨n0,e0,k0⟩:=yL h0;obtain⟨n1,e1,k1⟩:=uM h1;obtain⟨n2,e2,k2⟩:=uM h2;obtain⟨n3,e3,k3⟩:=yL h3;obtain⟨n4,e4,k4⟩:=zpi h4;obtain⟨n5,e5,k5⟩:=Vz h5;obtain⟨n6,e6,k6⟩:=zga h6;cases e0;cases e1;cases e2;cases e3;cases e4;cases e5;cases e6;exact⟨⟨n0,n1,n2,n3,n4,n5,n6⟩,rfl,k0,k1,k2,k3,k4,k5,k6⟩
theorem zy8{c:List V}(h:zk Tryz.prog 31 c):∃l:List zn,c=[.vs 30 (l.map ud)]∧Kj zpm l:=by
 obtain⟨els,rfl,hl,hx⟩:=yD Tryz.underlying31 h;obtain⟨l,rfl,h2⟩:=y6 (fun c h=>zy7 h) hx;rw[List.length_map]at hl;exact⟨l,by rw[show Tryz.prog.cellsOf 42=30 by kernel_rfl],hl,h2⟩
section
variable{H:Type}{enc:TypeId×Value→H}{W:World}{b0:Nat}{r:Reach}{v:Value}{d:DataW H}{p:List MemPlace}{t:TypeId}
theorem zy9(hv:Value.okWide Tryz.prog W r b0 30 v)(h:DataW.Trod enc Tryz.prog W 0 (fun _=>true) true 30 v d p):∃x:zu,zvk x∧Rep none W.cell? (.agg (An x)) v:=by
 obtain⟨vs,h1,h2⟩:=zvh (by kernel_rfl) h;obtain⟨x,rfl,hx⟩:=zy6 h1;obtain⟨cs,rfl,_⟩:=okWide_struct Tryz.underlying30 hv;exact⟨x,hx,cs.toList,by simp,h2⟩
theorem zza(hv:Value.okWide Tryz.prog W r b0 31 v)(h:DataW.Trod enc Tryz.prog W 0 (fun _=>true) true 31 v d p):∃l:List zn,Kj zpm l∧Rep none W.cell? (.vs 30 (List.map ud l)) v:=by
 obtain⟨vs,h1,h2⟩:=zvh (by kernel_rfl) h;obtain⟨l,rfl,hl⟩:=zy8 h1;exact⟨l,hl,zo3 Tryz.underlying31 hv h2⟩
end
end Go.Proofs.YthnokpghgeppdaaGreatDoor
