/- texts that the proof of SyntaxPrints reaches, part 9 -/
import Derived.Test.YtffencjoddkghaaGreatDoorKh
set_option linter.all false
set_option maxRecDepth 100000
namespace Go.Proofs.YtffencjoddkghaaGreatDoor
open Go Go.ChangeShapes Go.WideShapes Go.ChangeAt Go.RowKit Go.Deep Go.Joins Go.EV
theorem zzp{c:List V}(h:wA Tryz.prog 9 c):∃s,c=EV.zEa s∧okS s:=zwz Tryz.underlying9 h
theorem zzq{c:List V}(h:wA Tryz.prog 3 c):∃n,c=EV.encI n∧okK .i64 n:=zwy Tryz.underlying3 h
mutual
def okX:Expr→Prop
 |⟨_,_,s,_,args⟩=>s.length≤9223372036854775807∧args.length≤9223372036854775807∧zDf args
def zDf:List Expr→Prop
 |[]=>True
 |x::r=>okX x∧zDf r
end
theorem zGb(e:Expr):okX e=(e.S.length≤9223372036854775807∧e.Args.length≤9223372036854775807∧zDf e.Args):=by cases e;rw[okX]
theorem zsi:∀{l:List Expr},(∀x∈l,okX x)→zDf l
 |[],_=>by rw[zDf];trivial
 |x::l,h=>by rw[zDf];exact⟨h x (List.mem_cons_self ..),zsi fun y hy=>h y (mcQ _ hy)⟩
theorem zla{α:Type}{enc:α→List V}{ok:α→Prop}:∀{els:List (List V)},(∀x∈els,∃a,x=enc a∧ok a)→∃l:List α,els=l.map enc∧∀a∈l,ok a
 |[],_=>⟨[],rfl,fun _ h=>by cases h⟩
 |c::els,h=>by
  obtain⟨a,rfl,ha⟩:=h c (List.mem_cons_self ..);obtain⟨l,rfl,hl⟩:=zla (fun x hx=>h x (mcQ _ hx))
  exact⟨a::l,rfl,fun b hb=>by
   rcases List.mem_cons.1 hb with rfl|hb
   ·exact ha
   ·exact hl b hb⟩
theorem zsj{t:TypeId}{cs:List V}(h:wA Tryz.prog t cs):(t=37→∃e:Expr,cs=y6 e∧okX e)∧(t=35→∃l:List Expr,cs=[.vs 5 (yn l)]∧l.length≤maxLen∧zDf l):=by
 induction h with
 |bool h|int h|str h=>exact⟨fun e=>by (subst e;rw[Tryz.underlying37]at h;cases h),fun e=>by subst e;rw[Tryz.underlying35]at h;cases h⟩
 |array h=>exact⟨fun e=>by (subst e;rw[Tryz.underlying37]at h;cases h),fun e=>by subst e;rw[Tryz.underlying35]at h;cases h⟩
 |other h=>exact⟨fun e=>by (subst e;unfold Jc at h;rw[Tryz.underlying37]at h;cases h),fun e=>by subst e;unfold Jc at h;rw[Tryz.underlying35]at h;cases h⟩
 |slice h hl hx ih =>
  refine⟨fun e=>by (subst e;rw[Tryz.underlying37]at h;cases h),fun e=>?_⟩;subst e;rw[Tryz.underlying35]at h;cases h;obtain⟨l,rfl,h2⟩:=zla (fun x hx'=>(ih x hx').1 rfl);rw[List.length_map]at hl;exact⟨l,by rw[show Tryz.prog.cellsOf 37=5 by kernel_rfl,wU],hl,zsi h2⟩
 |@struct t' fs cs' h hc hx ih =>
  refine⟨fun e=>?_,fun e=>by subst e;rw[Tryz.underlying35]at h;cases h⟩;subst e;have hall:wA Tryz.prog 37 cs':=.struct h hc hx;rw[Tryz.underlying37]at h;cases h;have hl:=hc.trans (show Tryz.prog.cellsOf 37=5 by kernel_rfl);clear hc
  match cs',hl,hall,ih with
  |[c0,c1,c2,c3,c4],_,h,ih =>
   have h0:wA Tryz.prog 3 [c0]:=Ak Tryz.underlying37 h 0 0 3 1 rfl rfl rfl (by kernel_rfl);have h1:wA Tryz.prog 3 [c1]:=Ak Tryz.underlying37 h 1 1 3 1 rfl rfl rfl (by kernel_rfl);have h2:wA Tryz.prog 9 [c2]:=Ak Tryz.underlying37 h 2 2 9 1 rfl rfl rfl (by kernel_rfl);have h3:wA Tryz.prog 9 [c3]:=Ak Tryz.underlying37 h 3 3 9 1 rfl rfl rfl (by kernel_rfl);obtain⟨l,e4,k4,o4⟩:=(ih _ (List.mem_of_getElem? (i:=4) rfl)).2 rfl;obtain⟨n0,e0,k0⟩:=zzq h0;obtain⟨n1,e1,k1⟩:=zzq h1;obtain⟨n2,e2,k2⟩:=zzp h2;obtain⟨n3,e3,k3⟩:=zzp h3
   have e4':[c4]=[.vs 5 (yn l)]:=by
    rw[← e4];exact(congrArg (fun n=>(List.drop 4 [c0,c1,c2,c3,c4]).take n) (show Tryz.prog.cellsOf 35=1 by kernel_rfl)).symm
   cases e0;cases e1;cases e2;cases e3;cases e4';exact⟨⟨n0,n1,n2,n3,l⟩,rfl,by rw[zGb];exact⟨k2,k4,o4⟩⟩
theorem zsk{c:List V}(h:wA Tryz.prog 37 c):∃e:Expr,c=y6 e∧okX e:=(zsj h).1 rfl
section
variable{H:Type}{enc:TypeId×Value→H}{W:World}{b0:Nat}{r:Reach}{v:Value}{d:DataW H}{p:List MemPlace}{t:TypeId}
theorem zDg(hv:Value.okWide Tryz.prog W r b0 37 v)(h:DataW.Trod enc Tryz.prog W 0 (fun _=>true) true 37 v d p):∃x:Expr,okX x∧Rep none W.cell? (.agg (y6 x)) v:=by
 obtain⟨vs,h1,h2⟩:=zF3 (by kernel_rfl) h;obtain⟨x,rfl,hx⟩:=zsk h1;obtain⟨cs,rfl,_⟩:=okWide_struct Tryz.underlying37 hv;exact⟨x,hx,cs.toList,by simp,h2⟩
end
end Go.Proofs.YtffencjoddkghaaGreatDoor
