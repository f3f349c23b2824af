/- texts that the proof reaches, part 7 -/
import Derived.Test.YtkmjhipiiifekaaGreatDoorKf
import Derived.Shelf.Spec.SlicesGrow
import Derived.Ground.Names7Prog
set_option linter.all false
open Go renaming Value->bw,World->bG
open Go.Proofs.Tryz renaming prog->bj
open List renaming length->ba,replicate->bY
open Option renaming some->aY,bind->aM,none->bh
namespace Go.EQ
open Go Go.RowKit Go.lA Go.EV
section
variable{K0:List Nat}{c:Ctx K0}{P:Program}{fn:Func}{tmps:Array bw}{R:Ending->bG->Prop}
end
section
variable{S:lW}
end
end Go.EQ
namespace Go.Proofs.YtkmjhipiiifekaaGreatDoor
open Go Go.RowKit Go.lA Go.EV Go.EQ
class Fuel where
 n:Nat
 nV:18446744073709551616<=n
def KK[Fuel]:Nat:=Fuel.n
set_option maxRecDepth 100000
variable[Jg]
def VQ(s old new:aj)(n:Int):Option aj:=aM (fN (ba s<4294967281/\1<=ba old/\ba s+Lib.count s old*ba new<=140737488355328)) λ_=>aY (Lib.replace s old new n)
def zov(s old new:aj)(n:Int)(r:aj)(hs:VQ s old new n=aY r):mN bj 121 [.str s,.str old,.str new,.int .i64 n] gl (.str r) gl:=by
 unfold VQ at hs;obtain⟨_,h,hs⟩:=bind_some hs;obtain⟨h0,h1,h2⟩:=yL h;obtain rfl:=Option.some.inj hs
 refine QV ED rfl λw Z vals hf hg hv=>?_
 obtain⟨x,xs,rfl,e1,x2,Pr,rfl,e2,x3,xs3,rfl,e3,x4,xs4,rfl,e4,e5⟩:=hv;cases e5;cases e1;cases e2;cases e3;cases e4;obtain⟨cur,u,fr,g1,g2⟩:=hg (900000002,B3 Jg.Bc Jg.m2) (by simp[gl]) 3 _ _ rfl;obtain⟨y,ys,g3,rfl,rfl⟩:=g2
 have hm:w.cell? ⟨3,0,bh⟩=aY (.int .i64 Jg.m2):=by rw[cell_of_row w 3 0 cur u fr g1,<- Array.getElem?_toList,g3];rfl
 refine Calls.mono (Tryz.strings_Replace ⟨s.toArray⟩ ⟨old.toArray⟩ ⟨new.toArray⟩ n Jg.m2 w (T4 h0) hm (by rw[size_mk];exact h1) (by rw[size_mk,size_mk];exact h2)) ?_;rintro e w' ⟨rfl,hb⟩;exact⟨_,rfl,λ_=>rfl,hb⟩
end Go.Proofs.YtkmjhipiiifekaaGreatDoor
namespace Go.EV
open Go Go.RowKit Go.lA
def Gp(l:List Int):List Int:=l.mergeSort λx y=>decide (x<=y)
def K4(l:List Int):(Gp l).length=l.length:=List.length_mergeSort _
end Go.EV
namespace Go.Proofs
open Go.Shelf
def Tryz.afa:Go.Shelf.Ren:=⟨λ|4=>264|n=>n,λ|22=>55|25=>43|3=>3|4=>4|9=>9|20=>20|0=>0|n=>n,λ|n=>n⟩
def Tryz.acP:Go.Proofs.Lays8.n4 bj Tryz.afa:={
 mixed:=by kernel_rfl
 f4:=⟨Tryz.f264.name,ad,Tryz.func264.trans (aP aY (by kernel_rfl))⟩
 t0:=Tryz.underlying0
 a0:=Tryz.isAgg0
 z0:=Tryz.sizeOf0
 v0:=Tryz.zeroValue0
 t3:=Tryz.underlying3
 a3:=Tryz.isAgg3
 z3:=Tryz.sizeOf3
 v3:=Tryz.zeroValue3
 t4:=Tryz.underlying4
 a4:=Tryz.isAgg4
 z4:=Tryz.sizeOf4
 v4:=Tryz.zeroValue4
 t9:=Tryz.underlying9
 a9:=Tryz.isAgg9
 z9:=Tryz.sizeOf9
 v9:=Tryz.zeroValue9
 t20:=Tryz.underlying20
 a20:=Tryz.isAgg20
 z20:=Tryz.sizeOf20
 v20:=Tryz.zeroValue20
 t22:=Tryz.underlying55
 a22:=Tryz.isAgg55
 z22:=Tryz.sizeOf55
 v22:=Tryz.zeroValue55 }
end Go.Proofs
namespace Go.Proofs.YtkmjhipiiifekaaGreatDoor
open Go Go.RowKit Go.lA Go.EV
def T5:∀(Z:ZM)(a:Int)(x:bw),dQ bh Z (V.int .i64 a) x->x=.int .i64 a:=λ_ _ _ h=>h
def F7(l:List Int):Option (List Int):=aM (fN (ba l<4611686018427387904)) λ_=>aY (Gp l)
def VR(l:List Int):Option (List Int×List Int):=aY (Lib.compact l,Lib.compact l++bY (l.length-(Lib.compact l).length) 0)
def zBv(l r:List Int)(h:F7 l=aY r):mN bj 223 [.sl 1 1 l.length 0 l.length] [(1,.row 3 1 0 (l.map EV.encI))] (.ij []) [(1,.row 3 1 0 (r.map EV.encI))]:=by obtain⟨_,h1,h2⟩:=bind_some h;cases h2;have h:=yL h1;exact zsr (f:=Value.int .i64) (enc:=V.int .i64) T5 (λ_ _=>rfl) (K4 l) (λgT cap w hH hb _=>Tryz.slices_Sort_int gT 0 cap l w hH hb h) (λA c w=>Tryz.slices_Sort_int_none A c w)
def zox(l:List Int)(r:List Int×List Int)(h:VR l=aY r):mN bj 224 [.sl 1 1 l.length 0 l.length] [(1,.row 3 1 0 (l.map EV.encI))] (.vs 1 (r.1.map EV.encI)) [(1,.row 3 1 r.2.length (r.2.map EV.encI))]:=by
 cases h;have:=Lib.compact_length_le l
 have e:(Lib.compact l++bY (l.length-(Lib.compact l).length) (0:Int)).length=l.length:=by simp;omega
 show mN bj 224 _ _ _ [(1,.row 3 1 (Lib.compact l++bY (l.length-(Lib.compact l).length) (0:Int)).length _)]
 rw[e];exact zft (f:=Value.int .i64) (enc:=V.int .i64) T5 (λ_ _=>rfl) (Lib.compact_length_le l) (λgT cap w hH hc hl=>Tryz.slices_Compact_int gT 0 cap l w hH hl hc) (λA c w=>Tryz.slices_Compact_int_empty A c w)
set_option maxHeartbeats 2000000 in
theorem zxy(p:Option Addr)(cap:Nat)(fv:bw)(w:bG):Calls bj 292 #[.slice p 1 cap,.int .i64 0,.int .i64 1,fv] w λe w'=>e=.returned (.tuple #[])/\w'=w:=by
 go_enter Tryz.func292,Tryz.ntmps292
 go_wp2
 refine wp_loop_rounds 1 ?_;rw[rounds_succ]
 go_wp2
 go_end0
 exact⟨rfl,rfl⟩
set_option maxHeartbeats 2000000 in
theorem zxz(p:Option Addr)(cap:Nat)(lim:Int)(fv:bw)(w:bG):Calls bj 284 #[.slice p 1 cap,.int .i64 0,.int .i64 1,.int .i64 lim,fv] w λe w'=>e=.returned (.tuple #[])/\w'=w:=by
 go_enter Tryz.func284,Tryz.ntmps284
 go_wp2
 refine wp_loop_rounds 1 ?_;rw[rounds_succ]
 go_wp2_with (go_at_call 292;refine(zxy _ _ _ _).mono ?_;rintro e w' ⟨rfl,rfl⟩)
 (try simp only[Exit.inBlock,Exit.then]);refine bodyPost_ret (results_none rfl _ _ _) rfl ?_
 exact⟨rfl,rfl⟩
set_option maxHeartbeats 2000000 in
theorem zoy(p:Option Addr)(cap:Nat)(fv:bw)(w:bG):Calls bj 265 #[.slice p 1 cap,fv] w λe w'=>e=.returned (.tuple #[])/\w'=w:=by
 have hl:∀W,Calls bj 249 #[.int .u64 1] W λe w'=>e=.returned (.int .i64 (Lib.bitLen 1:Nat))/\w'=W:=λW=>Tryz.bits_Len 1 W ab ab
 go_enter Tryz.func265,Tryz.ntmps265
 go_wp2_with (first|(go_at_call 249;refine(hl _).mono ?_;rintro e w' ⟨rfl,rfl⟩)|(go_at_call 284;refine(zxz _ _ _ _ _).mono ?_;rintro e w' ⟨rfl,rfl⟩))
 go_end0
 exact⟨rfl,rfl⟩
def zx0{L:Nat}{els:List (List V)}(hL:L=1)(hl:els.length=1):mN bj 265 [.sl 2 1 L 0 L,.fn 266 [] []] [(1,.row 326 2 0 els)] (.ij []) [(1,.row 326 2 0 els)]:=by
 subst hL;rintro w m Z vals hs ⟨x,xs,rfl,hx,y,ys,rfl,hy,pt⟩ _;cases pt;obtain⟨f',⟨b,cap⟩,e1,e2,e3,e4,hx⟩:=hx
 obtain⟨p,c,rfl⟩:∃p c,x=.slice p 1 c:=by
  rcases hx with rfl|⟨_,A,rfl⟩|⟨h0,_⟩
  .exact⟨_,_,rfl⟩
  .exfalso;simp only at e3;omega
  .omega
 refine Calls.mono (zoy p c y w) λen w' ⟨he,hw⟩=>?_
 subst hw;exact⟨_,m,Z,he,Step.refl hs,[],rfl,rfl⟩
def ztp{P:Program}{f T n k:Nat}{i:TypeInfo}{z:bw}(EZ:z.cells.size=i.size)(h0:0<i.size)(hn:0<n)(Nj:n<=1000000)
  (hc:∀w,Calls P f #[.slice bh 0 0,.int .i64 n] w λen w'=>en=.returned (.slice (aY ⟨w.heap.size,0,bh⟩) 0 (grownCap w n 0 T))/\w'=w.drew.alloc (.cells (Builtin.zeroCells z.cells n++Builtin.zeroCells z.cells (grownCap w n 0 T-n)) T)):
  mN P f [.iO,.int .i64 n] [] (.sl i.size k 0 0 0) [(k,.row T i.size 0 [])]:=by
 rintro w m Z vals hs ⟨x,xs,rfl,hx,y,ys,rfl,hy,pt⟩ ln;cases pt;have hx:x=.slice bh 0 0:=hx;have hy:y=.int .i64 n:=hy;subst hx;subst hy
 refine Calls.mono (hc w) λen w' ⟨he,hw⟩=>?_
 subst hw;have p9:=grownCap_ge w n 0 T;have sj:=grownCap_le_maxLen w n 0 T (by simp only[maxLen];omega);have sP:Step m Z [] w m Z [] w.drew:=Step.same hs rfl rfl rfl rfl
 obtain⟨m',h2,h3⟩:=Step.new (m:=m) (Z:=Z) (w:=w.drew) (k:=k) (o:=.row T i.size 0 []) (.cells (Builtin.zeroCells z.cells n++Builtin.zeroCells z.cells (grownCap w n 0 T-n)) T) (grownCap w n 0 T) sP.iV.frozen (λL=>ln k (by simp[keys]) L) λm' g1 g2 g3=>by
  refine .inr ⟨w.heap.size,grownCap w n 0 T,_,(0,0),g1,ab,World.alloc_heap_new w.drew _,Nat.zero_le _,sj,?_,ab,?_,?_,ae,ae,λa x ha e=>by have:=xo hs.frozen ha;omega,λL l e=>by have:=g2 L l e;simp[Obj.iZ]at this;simp[this],λoff x ho=>ab⟩
  .simp only[Array.size_append,size_zeroCells,EZ,<- Nat.add_mul];congr 1;omega
  .simp;rfl
  .intro c hc;cases hc
 exact⟨_,m',Z,he,sP.trans h2,m',_,rfl,h3,ae,by simp only[maxLen]at sj ⊢;omega,.inl ae⟩
def T6(n:Int):Option Unit:=fN (0<n/\n<=1000000)
def zBw(n:Int)(u:Unit)(h0:T6 n=aY u):mN bj 264 [.iO,.int .i64 n] [] (.sl 4 70 0 0 0) [(70,.row 43 4 0 [])]:=by
 have h:=yL h0;clear h0
 obtain⟨k,rfl⟩:∃k:Nat,n=(k:Int):=⟨n.toNat,ab⟩
 obtain⟨i,hi,hz,hs⟩:∃i,Tryz.prog.info? 43=aY i/\i.zero=aY (.agg #[.int .i64 0,.int .i64 0,.int .i64 0,.int .i64 0])/\i.size=4/\i.bytes=32:=by
  have h:(Tryz.prog.info? 43).map (λi=>(i.zero,i.size,i.bytes))=aY (aY (.agg #[.int .i64 0,.int .i64 0,.int .i64 0,.int .i64 0]),4,32):=by kernel_rfl
  obtain⟨i,h1,h2⟩:=Option.map_eq_some_iff.1 h;simp only[Prod.mk.injEq]at h2;exact⟨i,h1,h2.1,h2.2.1,h2.2.2⟩
 have:=ztp (P:=bj) (f:=264) (T:=43) (n:=k) (k:=70) (i:=i) (z:=.agg #[.int .i64 0,.int .i64 0,.int .i64 0,.int .i64 0]) (by rw[hs.1];rfl) ab ab ab (λw=>by
  have:=Any8.slices_Grow_grow Tryz.acP i (.agg #[.int .i64 0,.int .i64 0,.int .i64 0,.int .i64 0]) hi hz ab bh 0 0 k [] w al ab (by rw[hs.2];omega) ab ae (λ_=>rfl) (λa e=>by cases e);simp only[Nat.zero_add,Nat.sub_zero,show([]:List bw).toArray=#[] from rfl,Array.empty_append]at this
  exact this)
 rw[hs.1]at this;exact this
end Go.Proofs.YtkmjhipiiifekaaGreatDoor
