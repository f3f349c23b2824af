/- texts that the proof reaches, part 9 -/
import Derived.Test.YthnokpghgeppdaaGreatDoorKh
set_option linter.all false
set_option maxRecDepth 100000
namespace Go.Proofs.YthnokpghgeppdaaGreatDoor
open Go Go.ChangeShapes Go.WideShapes Go.ChangeAt Go.RowKit Go.Deep Go.Joins Go.EV
theorem uC{c:List V}(h:zk Tryz.prog 9 c):∃s,c=EV.zzh s∧okS s:=zsz Tryz.underlying9 h
theorem yG{c:List V}(h:zk Tryz.prog 3 c):∃n,c=EV.encI n∧okK .i64 n:=zsy Tryz.underlying3 h
mutual
def okX:Expr→Prop
 |⟨_,_,s,_,args⟩=>s.length≤9223372036854775807∧args.length≤9223372036854775807∧zxq args
def zxq:List Expr→Prop
 |[]=>True
 |x::r=>okX x∧zxq r
end
theorem zBa(e:Expr):okX e=(e.S.length≤9223372036854775807∧e.Args.length≤9223372036854775807∧zxq e.Args):=by cases e;rw[okX]
theorem zou:∀{l:List Expr},(∀x∈l,okX x)→zxq l
 |[],_=>by rw[zxq];trivial
 |x::l,h=>by rw[zxq];exact⟨h x (List.mem_cons_self ..),zou fun y hy=>h y (List.mem_cons_of_mem _ hy)⟩
theorem zh6{α:Type}{enc:α→List V}{ok:α→Prop}:∀{els:List (List V)},(∀x∈els,∃a,x=enc a∧ok a)→∃l:List α,els=l.map enc∧∀a∈l,ok a
 |[],_=>⟨[],rfl,fun _ h=>by cases h⟩
 |c::els,h=>by
  obtain⟨a,rfl,ha⟩:=h c (List.mem_cons_self ..);obtain⟨l,rfl,hl⟩:=zh6 (fun x hx=>h x (List.mem_cons_of_mem _ hx))
  exact⟨a::l,rfl,fun b hb=>by
   rcases List.mem_cons.1 hb with rfl|hb
   ·exact ha
   ·exact hl b hb⟩
theorem zov{t:TypeId}{cs:List V}(h:zk Tryz.prog t cs):(t=35→∃e:Expr,cs=kM e∧okX e)∧(t=33→∃l:List Expr,cs=[.vs 5 (yZ l)]∧l.length≤maxLen∧zxq l):=by
 induction h with
 |bool h|int h|str h=>exact⟨fun e=>by (subst e;rw[Tryz.underlying35]at h;cases h),fun e=>by subst e;rw[Tryz.underlying33]at h;cases h⟩
 |array h=>exact⟨fun e=>by (subst e;rw[Tryz.underlying35]at h;cases h),fun e=>by subst e;rw[Tryz.underlying33]at h;cases h⟩
 |other h=>exact⟨fun e=>by (subst e;unfold od at h;rw[Tryz.underlying35]at h;cases h),fun e=>by subst e;unfold od at h;rw[Tryz.underlying33]at h;cases h⟩
 |slice h hl hx ih =>
  refine⟨fun e=>by (subst e;rw[Tryz.underlying35]at h;cases h),fun e=>?_⟩;subst e;rw[Tryz.underlying33]at h;cases h;obtain⟨l,rfl,h2⟩:=zh6 (fun x hx'=>(ih x hx').1 rfl);rw[List.length_map]at hl;exact⟨l,by rw[show Tryz.prog.cellsOf 35=5 by kernel_rfl,oe],hl,zou h2⟩
 |@struct t' fs cs' h hc hx ih =>
  refine⟨fun e=>?_,fun e=>by subst e;rw[Tryz.underlying33]at h;cases h⟩;subst e;have hall:zk Tryz.prog 35 cs':=.struct h hc hx;rw[Tryz.underlying35]at h;cases h;have hl:=hc.trans (show Tryz.prog.cellsOf 35=5 by kernel_rfl);clear hc
  match cs',hl,hall,ih with
  |[c0,c1,c2,c3,c4],_,h,ih =>
   have h0:zk Tryz.prog 3 [c0]:=zf Tryz.underlying35 h 0 0 3 1 rfl rfl rfl (by kernel_rfl);have h1:zk Tryz.prog 3 [c1]:=zf Tryz.underlying35 h 1 1 3 1 rfl rfl rfl (by kernel_rfl);have h2:zk Tryz.prog 9 [c2]:=zf Tryz.underlying35 h 2 2 9 1 rfl rfl rfl (by kernel_rfl);have h3:zk Tryz.prog 9 [c3]:=zf Tryz.underlying35 h 3 3 9 1 rfl rfl rfl (by kernel_rfl);obtain⟨l,e4,k4,o4⟩:=(ih _ (List.mem_of_getElem? (i:=4) rfl)).2 rfl;obtain⟨n0,e0,k0⟩:=yG h0;obtain⟨n1,e1,k1⟩:=yG h1;obtain⟨n2,e2,k2⟩:=uC h2;obtain⟨n3,e3,k3⟩:=uC h3
   have e4':[c4]=[.vs 5 (yZ l)]:=by
    rw[← e4];exact(congrArg (fun n=>(List.drop 4 [c0,c1,c2,c3,c4]).take n) (show Tryz.prog.cellsOf 33=1 by kernel_rfl)).symm
   cases e0;cases e1;cases e2;cases e3;cases e4';exact⟨⟨n0,n1,n2,n3,l⟩,rfl,by rw[zBa];exact⟨k2,k4,o4⟩⟩
theorem Vn{c:List V}(h:zk Tryz.prog 35 c):∃e:Expr,c=kM e∧okX e:=(zov h).1 rfl
def zxr(x:Def):Prop:=okS x.Name∧okX x.Body
theorem zxs{c:List V}(h:zk Tryz.prog 67 c):∃x:Def,c=Q9 x∧zxr x:=by
 have hl:=(zV Tryz.underlying67 h).1.trans (show Tryz.prog.cellsOf 67=6 by kernel_rfl)
 match c,hl,h with
 |[c0,c1,c2,c3,c4,c5],_,h =>
  have h0:zk Tryz.prog 9 [c0]:=zf Tryz.underlying67 h 0 0 9 1 rfl rfl rfl (by kernel_rfl);have h1:zk Tryz.prog 35 [c1,c2,c3,c4,c5]:=zf Tryz.underlying67 h 1 1 35 5 rfl rfl rfl (by kernel_rfl);obtain⟨n0,e0,k0⟩:=uC h0;obtain⟨n1,e1,k1⟩:=Vn h1;cases e0;cases e1;exact⟨⟨n0,n1⟩,rfl,k0,k1⟩
theorem zxt{c:List V}(h:zk Tryz.prog 22 c):∃l:List Def,c=[.vs 6 (l.map Q9)]∧Qh zxr l:=by
 obtain⟨els,rfl,hl,hx⟩:=xb Tryz.underlying22 h;obtain⟨l,rfl,h2⟩:=xn (fun c h=>zxs h) hx;rw[List.length_map]at hl;exact⟨l,by rw[show Tryz.prog.cellsOf 67=6 by kernel_rfl],hl,h2⟩
def zfm(x:Entry):Prop:=okS x.Name∧okK .i64 x.N
theorem zxu{c:List V}(h:zk Tryz.prog 86 c):∃x:Entry,c=og x∧zfm x:=by
 have hl:=(zV Tryz.underlying86 h).1.trans (show Tryz.prog.cellsOf 86=2 by kernel_rfl)
 match c,hl,h with
 |[c0,c1],_,h =>
  have h0:zk Tryz.prog 9 [c0]:=zf Tryz.underlying86 h 0 0 9 1 rfl rfl rfl (by kernel_rfl);have h1:zk Tryz.prog 3 [c1]:=zf Tryz.underlying86 h 1 1 3 1 rfl rfl rfl (by kernel_rfl);obtain⟨n0,e0,k0⟩:=uC h0;obtain⟨n1,e1,k1⟩:=yG h1;cases e0;cases e1;exact⟨⟨n0,n1⟩,rfl,k0,k1⟩
theorem zxv{c:List V}(h:zk Tryz.prog 68 c):∃l:List Entry,c=[.vs 2 (l.map og)]∧Qh zfm l:=by
 obtain⟨els,rfl,hl,hx⟩:=xb Tryz.underlying68 h;obtain⟨l,rfl,h2⟩:=xn (fun c h=>zxu h) hx;rw[List.length_map]at hl;exact⟨l,by rw[show Tryz.prog.cellsOf 86=2 by kernel_rfl],hl,h2⟩
def zfn(x:Table):Prop:=okS x.Name∧(Qh zfm) x.Rows∧okK .i64 x.Else
theorem zxw{c:List V}(h:zk Tryz.prog 70 c):∃x:Table,c=oi x∧zfn x:=by
 have hl:=(zV Tryz.underlying70 h).1.trans (show Tryz.prog.cellsOf 70=3 by kernel_rfl)
 match c,hl,h with
 |[c0,c1,c2],_,h =>
  have h0:zk Tryz.prog 9 [c0]:=zf Tryz.underlying70 h 0 0 9 1 rfl rfl rfl (by kernel_rfl);have h1:zk Tryz.prog 68 [c1]:=zf Tryz.underlying70 h 1 1 68 1 rfl rfl rfl (by kernel_rfl);have h2:zk Tryz.prog 3 [c2]:=zf Tryz.underlying70 h 2 2 3 1 rfl rfl rfl (by kernel_rfl);obtain⟨n0,e0,k0⟩:=uC h0;obtain⟨n1,e1,k1⟩:=zxv h1;obtain⟨n2,e2,k2⟩:=yG h2;cases e0;cases e1;cases e2;exact⟨⟨n0,n1,n2⟩,rfl,k0,k1,k2⟩
theorem zxx{c:List V}(h:zk Tryz.prog 23 c):∃l:List Table,c=[.vs 3 (l.map oi)]∧Qh zfn l:=by
 obtain⟨els,rfl,hl,hx⟩:=xb Tryz.underlying23 h;obtain⟨l,rfl,h2⟩:=xn (fun c h=>zxw h) hx;rw[List.length_map]at hl;exact⟨l,by rw[show Tryz.prog.cellsOf 70=3 by kernel_rfl],hl,h2⟩
theorem zum{c:List V}(h:zk Tryz.prog 4 c):∃b:Bool,c=[.bool b]∧True:=by
 obtain⟨b,e⟩:=zol Tryz.underlying4 h;exact⟨b,e,trivial⟩
def Vo(x:zu):Prop:=okK .i64 x.X∧okK .i64 x.Y
theorem zxy{c:List V}(h:zk Tryz.prog 90 c):∃x:zu,c=kg x∧Vo x:=by
 have hl:=(zV Tryz.underlying90 h).1.trans (show Tryz.prog.cellsOf 90=2 by kernel_rfl)
 match c,hl,h with
 |[c0,c1],_,h =>
  have h0:zk Tryz.prog 3 [c0]:=zf Tryz.underlying90 h 0 0 3 1 rfl rfl rfl (by kernel_rfl);have h1:zk Tryz.prog 3 [c1]:=zf Tryz.underlying90 h 1 1 3 1 rfl rfl rfl (by kernel_rfl);obtain⟨n0,e0,k0⟩:=yG h0;obtain⟨n1,e1,k1⟩:=yG h1;cases e0;cases e1;exact⟨⟨n0,n1⟩,rfl,k0,k1⟩
theorem zfo{c:List V}(h:zk Tryz.prog 40 c):∃l:List zu,c=[.vs 2 (l.map kg)]∧Qh Vo l:=by
 obtain⟨els,rfl,hl,hx⟩:=xb Tryz.underlying40 h;obtain⟨l,rfl,h2⟩:=xn (fun c h=>zxy h) hx;rw[List.length_map]at hl;exact⟨l,by rw[show Tryz.prog.cellsOf 90=2 by kernel_rfl],hl,h2⟩
def zow(x:zr):Prop:=okS x.Name∧True∧(Qh Vo) x.Corners
theorem zxz{c:List V}(h:zk Tryz.prog 72 c):∃x:zr,c=Jf x∧zow x:=by
 have hl:=(zV Tryz.underlying72 h).1.trans (show Tryz.prog.cellsOf 72=3 by kernel_rfl)
 match c,hl,h with
 |[c0,c1,c2],_,h =>
  have h0:zk Tryz.prog 9 [c0]:=zf Tryz.underlying72 h 0 0 9 1 rfl rfl rfl (by kernel_rfl);have h1:zk Tryz.prog 4 [c1]:=zf Tryz.underlying72 h 1 1 4 1 rfl rfl rfl (by kernel_rfl);have h2:zk Tryz.prog 40 [c2]:=zf Tryz.underlying72 h 2 2 40 1 rfl rfl rfl (by kernel_rfl);obtain⟨n0,e0,k0⟩:=uC h0;obtain⟨n1,e1,k1⟩:=zum h1;obtain⟨n2,e2,k2⟩:=zfo h2;cases e0;cases e1;cases e2;exact⟨⟨n0,n1,n2⟩,rfl,k0,k1,k2⟩
theorem zx0{c:List V}(h:zk Tryz.prog 24 c):∃l:List zr,c=[.vs 3 (l.map Jf)]∧Qh zow l:=by
 obtain⟨els,rfl,hl,hx⟩:=xb Tryz.underlying24 h;obtain⟨l,rfl,h2⟩:=xn (fun c h=>zxz h) hx;rw[List.length_map]at hl;exact⟨l,by rw[show Tryz.prog.cellsOf 72=3 by kernel_rfl],hl,h2⟩
theorem zox{c:List V}(h:zk Tryz.prog 32 c):∃l:List (List UInt8),c=[.vs 1 (l.map EV.zzh)]∧Qh okS l:=by
 obtain⟨els,rfl,hl,hx⟩:=xb Tryz.underlying32 h;obtain⟨l,rfl,h2⟩:=xn (fun c h=>uC h) hx;rw[List.length_map]at hl;exact⟨l,by rw[show Tryz.prog.cellsOf 9=1 by kernel_rfl],hl,h2⟩
def zoy(x:zg):Prop:=okK .i64 x.Side∧okK .i64 x.Base∧okK .i64 x.Num∧okK .i64 x.Den
theorem zx1{c:List V}(h:zk Tryz.prog 37 c):∃x:zg,c=Va x∧zoy x:=by
 have hl:=(zV Tryz.underlying37 h).1.trans (show Tryz.prog.cellsOf 37=4 by kernel_rfl)
 match c,hl,h with
 |[c0,c1,c2,c3],_,h =>
  have h0:zk Tryz.prog 3 [c0]:=zf Tryz.underlying37 h 0 0 3 1 rfl rfl rfl (by kernel_rfl);have h1:zk Tryz.prog 3 [c1]:=zf Tryz.underlying37 h 1 1 3 1 rfl rfl rfl (by kernel_rfl);have h2:zk Tryz.prog 3 [c2]:=zf Tryz.underlying37 h 2 2 3 1 rfl rfl rfl (by kernel_rfl);have h3:zk Tryz.prog 3 [c3]:=zf Tryz.underlying37 h 3 3 3 1 rfl rfl rfl (by kernel_rfl);obtain⟨n0,e0,k0⟩:=yG h0;obtain⟨n1,e1,k1⟩:=yG h1;obtain⟨n2,e2,k2⟩:=yG h2;obtain⟨n3,e3,k3⟩:=yG h3;cases e0;cases e1;cases e2;cases e3;exact⟨⟨n0,n1,n2,n3⟩,rfl,k0,k1,k2,k3⟩
def zh7(x:zb):Prop:=okS x.Name∧(Qh okS) x.Zones∧(Qh okS) x.Except∧okK .i64 x.From∧okK .i64 x.Until∧okK .i64 x.Grace∧True∧okK .i64 x.Kind∧okX x.Test∧zoy x.zg∧okK .i64 x.Uses∧okK .i64 x.Other∧okK .i64 x.N
theorem zoz{c:List V}(h:zk Tryz.prog 39 c):∃x:zb,c=Jg x∧zh7 x:=by
 have hl:=(zV Tryz.underlying39 h).1.trans (show Tryz.prog.cellsOf 39=20 by kernel_rfl)
 match c,hl,h with
 |[c0,c1,c2,c3,c4,c5,c6,c7,c8,c9,c10,c11,c12,c13,c14,c15,c16,c17,c18,c19],_,h =>
  have h0:zk Tryz.prog 9 [c0]:=zf Tryz.underlying39 h 0 0 9 1 rfl rfl rfl (by kernel_rfl);have h1:zk Tryz.prog 32 [c1]:=zf Tryz.underlying39 h 1 1 32 1 rfl rfl rfl (by kernel_rfl);have h2:zk Tryz.prog 32 [c2]:=zf Tryz.underlying39 h 2 2 32 1 rfl rfl rfl (by kernel_rfl);have h3:zk Tryz.prog 3 [c3]:=zf Tryz.underlying39 h 3 3 3 1 rfl rfl rfl (by kernel_rfl);have h4:zk Tryz.prog 3 [c4]:=zf Tryz.underlying39 h 4 4 3 1 rfl rfl rfl (by kernel_rfl);have h5:zk Tryz.prog 3 [c5]:=zf Tryz.underlying39 h 5 5 3 1 rfl rfl rfl (by kernel_rfl);have h6:zk Tryz.prog 4 [c6]:=zf Tryz.underlying39 h 6 6 4 1 rfl rfl rfl (by kernel_rfl);have h7:zk Tryz.prog 3 [c7]:=zf Tryz.underlying39 h 7 7 3 1 rfl rfl rfl (by kernel_rfl);have h8:zk Tryz.prog 35 [c8,c9,c10,c11,c12]:=zf Tryz.underlying39 h 8 8 35 5 rfl rfl rfl (by kernel_rfl);have h9:zk Tryz.prog 37 [c13,c14,c15,c16]:=zf Tryz.underlying39 h 9 13 37 4 rfl rfl rfl (by kernel_rfl);have h10:zk Tryz.prog 3 [c17]:=zf Tryz.underlying39 h 10 17 3 1 rfl rfl rfl (by kernel_rfl);have h11:zk Tryz.prog 3 [c18]:=zf Tryz.underlying39 h 11 18 3 1 rfl rfl rfl (by kernel_rfl);have h12:zk Tryz.prog 3 [c19]:=zf Tryz.underlying39 h 12 19 3 1 rfl rfl rfl (by kernel_rfl);obtain⟨n0,e0,k0⟩:=uC h0;obtain⟨n1,e1,k1⟩:=zox h1;obtain⟨n2,e2,k2⟩:=zox h2;obtain⟨n3,e3,k3⟩:=yG h3;obtain⟨n4,e4,k4⟩:=yG h4;obtain⟨n5,e5,k5⟩:=yG h5;obtain⟨n6,e6,k6⟩:=zum h6;obtain⟨n7,e7,k7⟩:=yG h7;obtain⟨n8,e8,k8⟩:=Vn h8;obtain⟨n9,e9,k9⟩:=zx1 h9;obtain⟨n10,e10,k10⟩:=yG h10;obtain⟨n11,e11,k11⟩:=yG h11;obtain⟨n12,e12,k12⟩:=yG h12;cases e0;cases e1;cases e2;cases e3;cases e4;cases e5;cases e6;cases e7;cases e8;cases e9;cases e10;cases e11;cases e12;exact⟨⟨n0,n1,n2,n3,n4,n5,n6,n7,n8,n9,n10,n11,n12⟩,rfl,k0,k1,k2,k3,k4,k5,k6,k7,k8,k9,k10,k11,k12⟩
theorem zx2{c:List V}(h:zk Tryz.prog 25 c):∃l:List zb,c=[.vs 20 (l.map Jg)]∧Qh zh7 l:=by
 obtain⟨els,rfl,hl,hx⟩:=xb Tryz.underlying25 h;obtain⟨l,rfl,h2⟩:=xn (fun c h=>zoz h) hx;rw[List.length_map]at hl;exact⟨l,by rw[show Tryz.prog.cellsOf 39=20 by kernel_rfl],hl,h2⟩
def zx3(x:Cap):Prop:=okS x.Name∧okK .i64 x.Load∧okK .i64 x.Limit∧(Qh Vo) x.Corners
theorem zx4{c:List V}(h:zk Tryz.prog 75 c):∃x:Cap,c=Vb x∧zx3 x:=by
 have hl:=(zV Tryz.underlying75 h).1.trans (show Tryz.prog.cellsOf 75=4 by kernel_rfl)
 match c,hl,h with
 |[c0,c1,c2,c3],_,h =>
  have h0:zk Tryz.prog 9 [c0]:=zf Tryz.underlying75 h 0 0 9 1 rfl rfl rfl (by kernel_rfl);have h1:zk Tryz.prog 3 [c1]:=zf Tryz.underlying75 h 1 1 3 1 rfl rfl rfl (by kernel_rfl);have h2:zk Tryz.prog 3 [c2]:=zf Tryz.underlying75 h 2 2 3 1 rfl rfl rfl (by kernel_rfl);have h3:zk Tryz.prog 40 [c3]:=zf Tryz.underlying75 h 3 3 40 1 rfl rfl rfl (by kernel_rfl);obtain⟨n0,e0,k0⟩:=uC h0;obtain⟨n1,e1,k1⟩:=yG h1;obtain⟨n2,e2,k2⟩:=yG h2;obtain⟨n3,e3,k3⟩:=zfo h3;cases e0;cases e1;cases e2;cases e3;exact⟨⟨n0,n1,n2,n3⟩,rfl,k0,k1,k2,k3⟩
theorem zx5{c:List V}(h:zk Tryz.prog 26 c):∃l:List Cap,c=[.vs 4 (l.map Vb)]∧Qh zx3 l:=by
 obtain⟨els,rfl,hl,hx⟩:=xb Tryz.underlying26 h;obtain⟨l,rfl,h2⟩:=xn (fun c h=>zx4 h) hx;rw[List.length_map]at hl;exact⟨l,by rw[show Tryz.prog.cellsOf 75=4 by kernel_rfl],hl,h2⟩
def Jy(x:zj):Prop:=okK .i64 x.X∧okK .i64 x.Y∧okK .i64 x.Z_
theorem zo0{c:List V}(h:zk Tryz.prog 77 c):∃x:zj,c=jN x∧Jy x:=by
 have hl:=(zV Tryz.underlying77 h).1.trans (show Tryz.prog.cellsOf 77=3 by kernel_rfl)
 match c,hl,h with
 |[c0,c1,c2],_,h =>
  have h0:zk Tryz.prog 3 [c0]:=zf Tryz.underlying77 h 0 0 3 1 rfl rfl rfl (by kernel_rfl);have h1:zk Tryz.prog 3 [c1]:=zf Tryz.underlying77 h 1 1 3 1 rfl rfl rfl (by kernel_rfl);have h2:zk Tryz.prog 3 [c2]:=zf Tryz.underlying77 h 2 2 3 1 rfl rfl rfl (by kernel_rfl);obtain⟨n0,e0,k0⟩:=yG h0;obtain⟨n1,e1,k1⟩:=yG h1;obtain⟨n2,e2,k2⟩:=yG h2;cases e0;cases e1;cases e2;exact⟨⟨n0,n1,n2⟩,rfl,k0,k1,k2⟩
theorem zo1{c:List V}(h:zk Tryz.prog 28 c):∃l:List zj,c=[.vs 3 (l.map jN)]∧Qh Jy l:=by
 obtain⟨els,rfl,hl,hx⟩:=xb Tryz.underlying28 h;obtain⟨l,rfl,h2⟩:=xn (fun c h=>zo0 h) hx;rw[List.length_map]at hl;exact⟨l,by rw[show Tryz.prog.cellsOf 77=3 by kernel_rfl],hl,h2⟩
def zo2(x:View):Prop:=okS x.Name∧Jy x.Eye∧okK .i64 x.Least∧(Qh Jy) x.Targets
theorem zx6{c:List V}(h:zk Tryz.prog 79 c):∃x:View,c=Jh x∧zo2 x:=by
 have hl:=(zV Tryz.underlying79 h).1.trans (show Tryz.prog.cellsOf 79=6 by kernel_rfl)
 match c,hl,h with
 |[c0,c1,c2,c3,c4,c5],_,h =>
  have h0:zk Tryz.prog 9 [c0]:=zf Tryz.underlying79 h 0 0 9 1 rfl rfl rfl (by kernel_rfl);have h1:zk Tryz.prog 77 [c1,c2,c3]:=zf Tryz.underlying79 h 1 1 77 3 rfl rfl rfl (by kernel_rfl);have h2:zk Tryz.prog 3 [c4]:=zf Tryz.underlying79 h 2 4 3 1 rfl rfl rfl (by kernel_rfl);have h3:zk Tryz.prog 28 [c5]:=zf Tryz.underlying79 h 3 5 28 1 rfl rfl rfl (by kernel_rfl);obtain⟨n0,e0,k0⟩:=uC h0;obtain⟨n1,e1,k1⟩:=zo0 h1;obtain⟨n2,e2,k2⟩:=yG h2;obtain⟨n3,e3,k3⟩:=zo1 h3;cases e0;cases e1;cases e2;cases e3;exact⟨⟨n0,n1,n2,n3⟩,rfl,k0,k1,k2,k3⟩
theorem zx7{c:List V}(h:zk Tryz.prog 27 c):∃l:List View,c=[.vs 6 (l.map Jh)]∧Qh zo2 l:=by
 obtain⟨els,rfl,hl,hx⟩:=xb Tryz.underlying27 h;obtain⟨l,rfl,h2⟩:=xn (fun c h=>zx6 h) hx;rw[List.length_map]at hl;exact⟨l,by rw[show Tryz.prog.cellsOf 79=6 by kernel_rfl],hl,h2⟩
def zun(x:zK):Prop:=(Qh zxr) x.Defs∧(Qh zfn) x.Tables∧(Qh zow) x.Zones∧(Qh zh7) x.Rules∧(Qh zx3) x.Caps∧(Qh zo2) x.Views∧(Qh Jy) x.Sun∧okK .i64 x.Hours
theorem zx8{c:List V}(h:zk Tryz.prog 30 c):∃x:zK,c=Ab x∧zun x:=by
 have hl:=(zV Tryz.underlying30 h).1.trans (show Tryz.prog.cellsOf 30=8 by kernel_rfl)
 match c,hl,h with
 |[c0,c1,c2,c3,c4,c5,c6,c7],_,h =>
  have h0:zk Tryz.prog 22 [c0]:=zf Tryz.underlying30 h 0 0 22 1 rfl rfl rfl (by kernel_rfl);have h1:zk Tryz.prog 23 [c1]:=zf Tryz.underlying30 h 1 1 23 1 rfl rfl rfl (by kernel_rfl);have h2:zk Tryz.prog 24 [c2]:=zf Tryz.underlying30 h 2 2 24 1 rfl rfl rfl (by kernel_rfl);have h3:zk Tryz.prog 25 [c3]:=zf Tryz.underlying30 h 3 3 25 1 rfl rfl rfl (by kernel_rfl);have h4:zk Tryz.prog 26 [c4]:=zf Tryz.underlying30 h 4 4 26 1 rfl rfl rfl (by kernel_rfl);have h5:zk Tryz.prog 27 [c5]:=zf Tryz.underlying30 h 5 5 27 1 rfl rfl rfl (by kernel_rfl);have h6:zk Tryz.prog 28 [c6]:=zf Tryz.underlying30 h 6 6 28 1 rfl rfl rfl (by kernel_rfl);have h7:zk Tryz.prog 3 [c7]:=zf Tryz.underlying30 h 7 7 3 1 rfl rfl rfl (by kernel_rfl);obtain⟨n0,e0,k0⟩:=zxt h0;obtain⟨n1,e1,k1⟩:=zxx h1;obtain⟨n2,e2,k2⟩:=zx0 h2;obtain⟨n3,e3,k3⟩:=zx2 h3;obtain⟨n4,e4,k4⟩:=zx5 h4;obtain⟨n5,e5,k5⟩:=zx7 h5;obtain⟨n6,e6,k6⟩:=zo1 h6;obtain⟨n7,e7,k7⟩:=yG h7;cases e0;cases e1;cases e2;cases e3;cases e4;cases e5;cases e6;cases e7;exact⟨⟨n0,n1,n2,n3,n4,n5,n6,n7⟩,rfl,k0,k1,k2,k3,k4,k5,k6,k7⟩
def zuo(x:zq):Prop:=okK .i64 x.Kind∧okS x.Name∧okS x.Key∧okK .i64 x.N∧zh7 x.zb∧okX x.Body∧(Qh Vo) x.Corners
theorem zx9{c:List V}(h:zk Tryz.prog 42 c):∃x:zq,c=kN x∧zuo x:=by
 have hl:=(zV Tryz.underlying42 h).1.trans (show Tryz.prog.cellsOf 42=30 by kernel_rfl)
 match c,hl,h with
 |[c0,c1,c2,c3,c4,c5,c6,c7,c8,c9,c10,c11,c12,c13,c14,c15,c16,c17,c18,c19,c20,c21,c22,c23,c24,c25,c26,c27,c28,c29],_,h =>
  have h0:zk Tryz.prog 3 [c0]:=zf Tryz.underlying42 h 0 0 3 1 rfl rfl rfl (by kernel_rfl);have h1:zk Tryz.prog 9 [c1]:=zf Tryz.underlying42 h 1 1 9 1 rfl rfl rfl (by kernel_rfl);have h2:zk Tryz.prog 9 [c2]:=zf Tryz.underlying42 h 2 2 9 1 rfl rfl rfl (by kernel_rfl);have h3:zk Tryz.prog 3 [c3]:=zf Tryz.underlying42 h 3 3 3 1 rfl rfl rfl (by kernel_rfl);have h4:zk Tryz.prog 39 [c4,c5,c6,c7,c8,c9,c10,c11,c12,c13,c14,c15,c16,c17,c18,c19,c20,c21,c22,c23]:=zf Tryz.underlying42 h 4 4 39 20 rfl rfl rfl (by kernel_rfl);have h5:zk Tryz.prog 35 [c24,c25,c26,c27,c28]:=zf Tryz.underlying42 h 5 24 35 5 rfl rfl rfl (by kernel_rfl);have h6:zk Tryz.prog 40 [c29]:=zf Tryz.underlying42 h 6 29 40 1 rfl rfl rfl (by kernel_rfl);obtain⟨n0,e0,k0⟩:=yG h0;obtain⟨n1,e1,k1⟩:=uC h1;obtain⟨n2,e2,k2⟩:=uC h2;obtain⟨n3,e3,k3⟩:=yG h3;obtain⟨n4,e4,k4⟩:=zoz h4;obtain⟨n5,e5,k5⟩:=Vn h5;obtain⟨n6,e6,k6⟩:=zfo h6;cases e0;cases e1;cases e2;cases e3;cases e4;cases e5;cases e6;exact⟨⟨n0,n1,n2,n3,n4,n5,n6⟩,rfl,k0,k1,k2,k3,k4,k5,k6⟩
section
variable{H:Type}{enc:TypeId×Value→H}{W:World}{b0:Nat}{r:Reach}{v:Value}{d:DataW H}{p:List MemPlace}{t:TypeId}
theorem zya(hv:Value.okWide Tryz.prog W r b0 30 v)(h:DataW.Trod enc Tryz.prog W 0 (fun _=>true) true 30 v d p):∃x:zK,zun x∧Rep none W.cell? (.agg (Ab x)) v:=by
 obtain⟨vs,h1,h2⟩:=zuk (by kernel_rfl) h;obtain⟨x,rfl,hx⟩:=zx8 h1;obtain⟨cs,rfl,_⟩:=okWide_struct Tryz.underlying30 hv;exact⟨x,hx,cs.toList,by simp,h2⟩
theorem zo3(hv:Value.okWide Tryz.prog W r b0 42 v)(h:DataW.Trod enc Tryz.prog W 0 (fun _=>true) true 42 v d p):∃x:zq,zuo x∧Rep none W.cell? (.agg (kN x)) v:=by
 obtain⟨vs,h1,h2⟩:=zuk (by kernel_rfl) h;obtain⟨x,rfl,hx⟩:=zx9 h1;obtain⟨cs,rfl,_⟩:=okWide_struct Tryz.underlying42 hv;exact⟨x,hx,cs.toList,by simp,h2⟩
end
end Go.Proofs.YthnokpghgeppdaaGreatDoor
