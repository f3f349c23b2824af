/- texts that the proof reaches, part 1 -/
import Derived.Test.YtogbenbghgjbiaaGreatDoorProg
import Derived.Shelf.RegionOpenPlain
import Derived.Lib.Strings
import Derived.Lib.Slices
import Derived.Lib.Walk
import Derived.Lib.Builder
import Derived.Lib.AppendStr
import Derived.Lib.UnsafeStr
import Derived.WalkKit
import Derived.Laws.Externs
import Derived.Laws.IdiomCopy
import Derived.Laws.BitsLemmas
import Derived.Lib.FrozenHead2
import Derived.DefersIn
import Derived.ControlIn
import Derived.TacticsIn
import Derived.OrdersIn
import Derived.OrdersHeld
import Derived.Below
import Derived.Laws.AppendOwn
import Derived.Laws.Entries
import Derived.Laws.Slices
import Derived.Laws.Strings
import Derived.Laws.Cells
import Derived.Laws.Rows
import Derived.Laws.NewBlocks
import Derived.Laws.OwnMore
import Derived.Laws.Small
import Derived.Laws.StructEq
import Derived.KernelRfl
import Derived.Maps.AppendAt
import Derived.Deep.Slices
import Derived.RangeFuncLeaves
import Derived.RangeFuncRecord
import Derived.RangeFuncSeq
import Derived.Laws.Tables
import Derived.Lib.SliceRun
import Derived.Laws.CopyRow
set_option linter.all false
open Array renaming getElem?_eq_some_iff->bw,getD_eq_getD_getElem?->cT,getElem?_modify->ep,getElem?_replicate->ez,toList_append->eE,size_append->eP,eq_empty_of_size_eq_zero->fK,ext'->fZ,getElem?_append->gX,range->ia,empty_append->ir
open BitVec renaming ofInt->cg
open Bool renaming false->bf,true->bh,not_eq_true'->bX,false_eq_true->cI,or_eq_true->dk,eq_iff_iff->eJ
open Go renaming Program->bo,Value->bx,World->bF,Operand->bI,TypeId->bK,execOp->bP,Deferred->cr
open Go.Proofs.Tryz renaming prog->bk,underlying9->dc,underlying106->ei,underlying105->fo,underlying299->gw,underlying229->gj
open List renaming all_eq_true->bl,getElem?_eq_some_iff->bq,mem_cons->bu,getElem?_eq_getElem->bA,getD_eq_getElem?_getD->bB,mem_append->bJ,mem_map->bL,mem_append_left->bQ,mem_of_getElem?->bW,length_take->bY,getElem?_take->cj,mem_append_right->cq,contains_eq_mem->cv,nil_append->cw,eq_nil_of_length_eq_zero->cy,getElem?_map->cz,nodup_cons->cA,length_drop->cF,mem_map_of_mem->cG,nodup_append->cK,append_nil->cL,flatten_cons->cN,map->cQ,size_toArray->cS,map_map->cU,getElem?_drop->cW,nodup_nil->cZ,cons_append->dj,range->dn,getElem?_append_left->dq,take_of_length_le->du,length_nil->dw,take_left->dz,map_nil->dC,getElem?_append_right->dJ,getElem?_range->dM,getElem_of_mem->dL,mem_filter->dO,getElem?_eq_none->dQ,getElem_mem->dS,drop_zero->dW,getElem?_cons_zero->dZ,drop_drop->ej,length_pos_iff->eC,append_eq_nil_iff->eG,take_length_add_append->eN,drop_take->fD,getElem?_toArray->fH,isEmpty_iff->fL,filter_cons->fN,filterMap_cons->fX,perm_ext_iff_of_nodup->gm,take_take->gb,extract_eq_drop_take->gD,find?_eq_none->iz,mem_toArray->iR
open Nat renaming beq->bm,mul_le_mul_right->ck,zero_add->cl,ble->cm,beq_refl->cC,zero_le->cH,le_trans->cY,add_mul->da,succ_mul->dh,add_zero->dK,lt_of_lt_of_le->dT,zero_mul->ee,min_eq_left->eH,one_mul->eT,add_assoc->ff,le_refl->fv,le_of_eq->fY,lt_irrefl->gJ,mul_comm->gR,mul_assoc->il,pow_zero->iD,pow_succ->iH
open Option renaming some->aY,none->bg,map_eq_some_iff->ca,map_some->de,getD_some->dB
open Sum renaming getLeft?->fB,getRight?->ll
namespace Go
def aN := @if_neg
def aO := @if_pos
def aP := @congrArg
def aQ := @absurd
def aU := @decide_eq_true_eq
def aW := @decide_eq_false_iff_not
def aX := @of_decide_eq_true
end Go
namespace Go
theorem ab {p : Prop} (h : p := by omega) : p := h
theorem ad {p : Prop} (h : p := by decide) : p := h
theorem ae {p : Prop} (h : p := by simp) : p := h
theorem af {p : Prop} (h : p := by decide +kernel) : p := h
theorem ah {p : Prop} (h : p := by rfl) : p := h
theorem ajz.{u} {α : Sort u} {a b : α} (h : a = b := by kernel_rfl) : a = b := h
abbrev aj := List UInt8
theorem ak.{u} {α : Type u} {a : α} {l : List α} : a ∈ a :: l := List.mem_cons_self
theorem al {n : Nat} : n ≤ n := fv n
end Go
namespace Go
def aC.{u,v}{α:Type u}{β:Type v}(a:α)(f:α->Option β):(aY a).bind f=f a:=rfl
def df{p:Prop}[i:Decidable p](h:¬p):decide p=bf:=decide_eq_false h
def dt{p:Prop}[i:Decidable p](h:p):decide p=bh:=decide_eq_true h
def la.{u}{α:Type u}{a b:List α}:(a++b).length=a.length+b.length:=List.length_append
def lc.{u}{α:Type u}{a:α}{b:List α}:(a::b).length=b.length+1:=List.length_cons
def ct.{u}{α:Sort u}(a b:α):(bif bh then a else b)=a:=rfl
def cf.{u}{α:Sort u}(a b:α):(bif bf then a else b)=b:=rfl
def b_.{u}{α:Type u}{a b:α}:a∈[b]↔a=b:=List.mem_singleton
def iO.{u}{α:Type u}(y:α){a:α}{l:List α}(h:a∈l):a∈y::l:=List.mem_cons_of_mem y h
def mi{n m:Nat}(h:cm n m=bh):n<=m:=Nat.le_of_ble_eq_true h
def eb{n m:Nat}(h:bm n m=bh):n=m:=Nat.eq_of_beq_eq_true h
def bn(a b:Bool):((a&&b)=bh)=(a=bh/\b=bh):=Bool.and_eq_true a b
def ij.{u,v}{α:Type u}{β:Type v}{f:α->β}{a:α}{l:List α}:cQ f (a::l)=f a::cQ f l:=List.map_cons
def tF.{u}{α:Type u}(a b c:List α):a++b++c=a++(b++c):=List.append_assoc a b c
end Go
namespace Go.Proofs.YtogbenbghgjbiaaGreatDoor
open Go Go.RowKit
structure Ih(T:bK):Prop where
 lies:liesAt bk Tryz.prog.depth T (2 / Tryz.prog.cellsOf T) 0 108 1=bh
 ne:T≠5
def agX:Ih 108:=⟨by kernel_rfl,ad⟩
def V_:(Tryz.prog.info? 108).map (·.size)=aY 2:=by kernel_rfl
set_option maxHeartbeats 1000000 in
set_option maxRecDepth 100000 in
theorem zpo(b:Nat)(w:bF)(h0:w.cell? ⟨b,0,bg⟩=aY (.pointer (aY ⟨b,0,bg⟩))):
  Calls bk 132 #[.pointer (aY ⟨b,0,bg⟩)] w λe w'=>e=.returned (.tuple #[])/\w'=w:=by
 obtain⟨j,hj,_⟩:=ca.1 V_
 go_enter Tryz.func132,Tryz.ntmps132
 go_wp2
 rw[Lib.run_neq_ptr_same w _ fo hj]
 go_wp2
 go_end0
 exact⟨rfl,rfl⟩
set_option maxHeartbeats 1000000 in
set_option maxRecDepth 100000 in
theorem zki{T:bK}(hT:Ih T)(b:Nat)(w:bF)(h0:w.cell? ⟨b,0,bg⟩=aY (.pointer bg))(nk:w.shape? b=aY (T,2))(nW:w.frozen? ⟨b,0,bg⟩=bf):
  Calls bk 132 #[.pointer (aY ⟨b,0,bg⟩)] w λe w'=>e=.returned (.tuple #[])/\w'=w.setCell ⟨b,0,bg⟩ (.pointer (aY ⟨b,0,bg⟩)):=by
 obtain⟨j,hj,Lx⟩:=ca.1 V_
 go_enter Tryz.func132,Tryz.ntmps132
 go_wp2
 rw[Lib.run_to_unsafe w ⟨b,0,bg⟩ fo gw hj (by rw[Lx];decide) nk (Nat.zero_lt_succ 1)];simp only[Result.andThen];rw[Oper.upon_value]
 go_wp2
 rw[run_callFunc_extern Tryz.func217 (by kernel_rfl) (by kernel_rfl) (by kernel_rfl) (e:=Extern.AbiNoEscape.same) (by kernel_rfl)];rw[Lib.run_noEscape];simp only[Result.andThen];rw[Oper.upon_value]
 go_wp2
 rw[Lib.run_from_unsafe w ⟨b,0,bg⟩ gw fo hj nk hT.lies];simp only[Result.andThen];rw[Oper.upon_value]
 go_wp2
 go_end0
 exact⟨rfl,rfl⟩
def infoByte:(Tryz.prog.info? 5).map (λi=>(i.zero,i.size,i.bytes))=aY (aY (.int .u8 0),1,1):=by kernel_rfl
def aiG:∃i,Tryz.prog.info? 5=aY i/\i.zero=aY (.int .u8 0)/\i.size=1/\i.bytes=1:=by obtain⟨i,h1,h2⟩:=ca.1 infoByte;simp only[Prod.mk.injEq]at h2;exact⟨i,h1,h2.1,h2.2.1,h2.2.2⟩
def aae(w w':bF)(v v':bx):Prop:=(∀g,v'.ownBlock=aY g->w.heap.size<=g∨v.ownBlock=aY g)/\∀g,v.ownBlock=aY g->∃cur fr,w'.heap[g]?=aY (.cells cur 5 fr)
def zpp(w:bF)(v:bx)(n:Nat)(xs:List bx)(ny:w.ownsRowF 0 5 1 v n xs)(s:ByteArray)(hb:n+s.size<=140737488355328):
  ∃v' w',(Builtin.append_ #[106,9] 106 #[v,.string s]).run bk w=.ok v' w'/\w'.ownsRowF 0 5 1 v' (n+s.size) (xs++Lib.strCells s)/\w.grownBy w' v.ownBlock/\aae w w' v v':=by
 obtain⟨i,hi,hz,hs,hy⟩:=aiG
 have rF:n+s.size<=maxLen:=by unfold maxLen;omega
 rcases ny.2 with⟨rfl,rfl⟩|⟨g,cap,cur,fz,rfl,Ls,hg,nW,Fi,tf,nD,aiC⟩
 .obtain⟨v',w',h1,h2,h3,_⟩:=Lib.run_append_own_stringF (P:=bk) w w.heap.size 106 9 106 5 i ei dc hi hz hs hy (.slice bg 0 0) 0 xs ⟨ny.1,.inl ⟨rfl,rfl⟩⟩ s rF hb al;refine⟨v',w',h1,⟨h2.1,?_⟩,h3,λg hg=>.inl (h2.lt g hg).1,λg hg=>by cases hg⟩
  rcases h2.2 with h|⟨g,cap,cur,fz,e1,e2,r⟩
  .exact .inl h
  .exact .inr ⟨g,cap,cur,fz,e1,cH _,r⟩
 .obtain⟨v',w',h1,h2,h3,_⟩:=Lib.run_append_own_stringF (P:=bk) w 0 106 9 106 5 i ei dc hi hz hs hy _ n xs ny s rF hb (cH _);refine⟨v',w',h1,h2,h3,?_⟩;by_cases Bi:n+s.size<=cap
  .have hr:=Lib.run_append_room_stringF (P:=bk) w 106 9 106 5 i ei dc hi hs g n cap cur fz hg (by simpa using nW) s Bi ab;rw[h1]at hr;cases hr;refine⟨λg' nj=>.inr (by simpa[Value.ownBlock]using nj),λg' nj=>?_⟩
   rcases h2.2 with⟨e,_⟩|⟨g2,ajM,ajN,fz2,e1,_,e3,_⟩
   .cases e
   .cases e1;simp only[Value.ownBlock,Option.some.injEq]at nj;subst nj;exact⟨_,_,e3⟩
  .have holds:∀j u,xs[j]?=aY u->w.cell? ((⟨g,0,bg⟩:Addr).add j)=aY u:=ny.cells (g:=g) rfl;have hr:=Lib.run_append_grow_string (P:=bk) w 106 9 106 5 i (.int .u8 0) ei dc hi hz ⟨g,0,bg⟩ n cap xs (by rw[hs];exact ny.1) holds s ab ab (by rw[hy];exact growslice_fits ab ab);rw[h1]at hr;cases hr;refine⟨λg' nj=>?_,λg' nj=>?_⟩
   .simp only[Value.ownBlock,Option.some.injEq]at nj;exact .inl ab
   .simp only[Value.ownBlock,Option.some.injEq]at nj;subst nj;exact⟨_,_,(Lib.alloc_old w.drew _ g (bw.1 hg).1).trans hg⟩
def zpq{ops:Array Oper}{rest:List Oper}{o:Oper}{a:Act}{w:bF}{Q:Exit->Act->bF->Prop}(hgd:o.guard=bg)(sl x:bI)
  (ho:o.op=.call { callee:=.builtin .append,args:=#[sl,x],argTypes:=#[106,9] }) (hty:o.type=106)
  (v:bx) (n:Nat) (xs:List bx) (hs:a.eval sl=v) (ny:w.ownsRowF 0 5 1 v n xs) (s:ByteArray) (hx:a.eval x=.string s) (hb:n+s.size<=140737488355328)
  (h:∀v' w',w'.ownsRowF 0 5 1 v' (n+s.size) (xs++Lib.strCells s)->w.grownBy w' v.ownBlock->aae w w' v v'->wpList bk ops Q rest (a.put o.dst v') w'):wpList bk ops Q (o::rest) a w:=by
 refine wpList_plain hgd λK hK=>?_
 obtain⟨v',w',hr,h2,h3,h4⟩:=zpp w v n xs ny s hb;unfold Oper.wp bP;simp only[ho,hty,resolve,invoke,builtin,Sem.run_bind,Sem.run_pure,Result.andThen_ok,List.map_toArray,ij,dC,hs,hx,hr];exact hK _ _ (h v' w' h2 h3 h4)
def YE(b:Nat)(w w':bF):Prop:=∃p v T p' v',w.heap[b]?=aY (.cells #[p,v] T (0,0))/\w'.heap[b]?=aY (.cells #[p',v'] T (0,0))/\w'.os=w.os/\w'.tape=w.tape/\w'.output=w.output/\w.heap.size<=w'.heap.size /\
 (∀k,k<w.heap.size->k≠b->v.ownBlock≠aY k->w'.heap[k]?=w.heap[k]?)/\(∀g,v'.ownBlock=aY g->w.heap.size<=g∨v.ownBlock=aY g)/\∀g,v.ownBlock=aY g->g≠b->∃cur u fr,w'.heap[g]?=aY (.cells cur u fr)
def check{T:bK}(hT:Ih T)(b:Nat)(bs:List bx)(w:bF)(h:Lib.IsBuilderF T 5 0 b bs w):
  Calls bk 132 #[.pointer (aY ⟨b,0,bg⟩)] w λe w'=>e=.returned (.tuple #[])/\Lib.BuilderAtF T 5 0 b (.pointer (aY ⟨b,0,bg⟩)) bs w'/\∃p v,w.heap[b]?=aY (.cells #[p,v] T (0,0))/\w'.heap[b]?=aY (.cells #[.pointer (aY ⟨b,0,bg⟩),v] T (0,0))/\w'.os=w.os/\w'.tape=w.tape/\w'.output=w.output/\w'.heap.size=w.heap.size/\∀k,k≠b->w'.heap[k]?=w.heap[k]?:=by
 rcases h with h|h
 .refine(zki hT b w h.cell0 h.shape h.frozen0).mono ?_;rintro e w' ⟨rfl,rfl⟩;have h2:=h.used (.pointer (aY ⟨b,0,bg⟩));obtain⟨_,v,hb,_⟩:=h;exact⟨rfl,h2,_,v,hb,by simp[World.setCell,ep,hb],rfl,rfl,rfl,by simp[World.setCell],λk hk=>Below.heap_setCell _ _ _ _ (λe=>hk (by simp[e]))⟩
 .refine(zpo b w h.cell0).mono ?_;rintro e w' ⟨rfl,rfl⟩;have h2:=h;obtain⟨_,v,hb,_⟩:=h;exact⟨rfl,h2,_,v,hb,hb,rfl,rfl,rfl,rfl,λ_ _=>rfl⟩
set_option maxHeartbeats 2000000 in
set_option maxRecDepth 100000 in
theorem zCl{T:bK}(hT:Ih T)(b:Nat)(bs:List bx)(s:ByteArray)(w:bF)(h:Lib.IsBuilderF T 5 0 b bs w)(hlen:bs.length+s.size<=140737488355328):
  (Calls bk 40 #[.pointer (aY ⟨b,0,bg⟩),.string s] w λe w'=>e=.returned (.tuple #[.int .i64 s.size,.nilIface])/\Lib.IsBuilderF T 5 0 b (bs++Lib.strCells s) w'/\YE b w w') /\
  ∀u,CallsDIn Fence.wide 0 bk 40 #[.pointer (aY ⟨b,0,bg⟩),.string s] u w λe u' w'=>u'=u/\(e=.returned (.tuple #[.int .i64 s.size,.nilIface])/\Lib.IsBuilderF T 5 0 b (bs++Lib.strCells s) w'/\YE b w w'):=by
 refine⟨calls_of_wp Tryz.func40 rfl ?_,λu=>callsDIn_of_wp Tryz.func40 rfl trivial (wpIn_wide.2 ?_)⟩
 all_goals
  simp only[Tryz.ntmps40,cS,lc,dw,Nat.reduceAdd,Nat.reduceSub,Array.replicate_succ,Array.replicate_zero,List.push_toArray,List.append_toArray,cw,dj]
  go_wp2_with (go_at_call 132;refine(check hT b bs _ h).mono ?_)
  rintro e w1 ⟨rfl,h1,p0,v0,k1,k2,k3,k4,k5,k6,k7⟩;obtain⟨hB,v,mX,ny,lD⟩:=h1
  have c0:w1.cell? ⟨b,0,bg⟩=aY (.pointer (aY ⟨b,0,bg⟩)):=by rw[Lib.cell_of_heap mX];rfl
  have c1:w1.cell? ⟨b,1,bg⟩=aY v:=by rw[Lib.cell_of_heap mX];rfl
  go_wp2_with (at_builtin;refine zpq rfl _ _ rfl rfl _ _ _ rfl ny s rfl ?c4 ?_)
  case c4=>omega
  intro v' w2 aa9 Gj aba
  have ib:b<w1.heap.size:=by
   rcases Nat.lt_or_ge b w1.heap.size with h'|h'
   .exact h'
   .simp[Array.getElem?_eq_none h']at mX
  have pZ:w2.heap[b]?=aY (.cells #[.pointer (aY ⟨b,0,bg⟩),v] T (0,0)):=by rw[Gj.block b ib (λe=>lD e.symm)];exact mX
  have d0:w2.cell? ⟨b,0,bg⟩=aY (.pointer (aY ⟨b,0,bg⟩)):=by rw[Lib.cell_of_heap pZ];rfl
  have d1:w2.cell? ⟨b,1,bg⟩=aY v:=by rw[Lib.cell_of_heap pZ];rfl
  have f1:w2.frozen? ⟨b,1,bg⟩=bf:=Lib.frozen_of_heap pZ 1
  obtain⟨ao,n',cap,rfl⟩:∃ao n' cap,v'=.slice ao n' cap:=by
   rcases aa9.2 with⟨hv,_⟩|⟨g,cap,cur,fz,hv,_⟩
   .exact⟨_,_,_,hv⟩
   .exact⟨_,_,_,hv⟩
  go_wp2
  go_ret2
  rw[mX]at k2;cases k2;refine⟨rfl,.inr (Lib.BuilderAtF.put hB pZ (bs':=bs++Lib.strCells s) (by simpa[Lib.strCells_length]using aa9) hT.ne),p0,v0,T,.pointer (aY ⟨b,0,bg⟩),.slice ao n' cap,k1,by simp[World.setCell,ep,pZ],Gj.os.trans k3,Gj.tape.trans k4,Gj.output.trans k5,by simpa[World.setCell]using cY (fY k6.symm) Gj.size,λk hk th hkv=>?_,λg hg=>?_,λg hg Lv=>?_⟩
  .rw[Below.heap_setCell _ _ _ _ (λe=>th (by simp[e])),Gj.block k ab (λe=>hkv e.symm),k7 k th]
  .have:=aba.1 g hg
   rwa [k6]at this
  .obtain⟨cur,fr,e⟩:=aba.2 g hg;exact⟨cur,5,fr,by rw[Below.heap_setCell _ _ _ _ (λe=>Lv (by simp[e]))];exact e⟩
set_option maxHeartbeats 1000000 in
set_option maxRecDepth 100000 in
theorem zCm{T:bK}(b:Nat)(bs:List bx)(w:bF)(h:Lib.IsBuilderF T 5 0 b bs w):
  Calls bk 41 #[.pointer (aY ⟨b,0,bg⟩)] w λe w'=>e=.returned (.int .i64 bs.length)/\w'=w:=by
 obtain⟨p,hB,v,mX,ny,lD⟩:∃p,Lib.BuilderAtF T 5 0 b p bs w:=by
  rcases h with h|h
  .exact⟨_,h⟩
  .exact⟨_,h⟩
 obtain⟨ao,cap,rfl⟩:∃ao cap,v=.slice ao bs.length cap:=by
  rcases ny.2 with⟨hv,h0⟩|⟨g,cap,cur,fz,hv,_⟩
  .exact⟨bg,0,by rw[hv,h0]⟩
  .exact⟨_,_,hv⟩
 have c1:w.cell? ⟨b,1,bg⟩=aY (.slice ao bs.length cap):=by rw[Lib.cell_of_heap mX];rfl
 go_enter Tryz.func41,Tryz.ntmps41
 go_wp2
 go_ret
 exact⟨rfl,rfl⟩
def MT:Tryz.prog.follows .mixedOrders=bh:=by kernel_rfl
def zGy:Tryz.prog.cellsOf 5=1:=by kernel_rfl
def zCn(W:bF)(q:Option Addr):(Builtin.unsafeString_ #[229,3] 9 #[.pointer q,.int .i64 0]).run bk W=.ok (.string .empty) W:=Lib.run_unsafeString_none W _ _ _ q
def WY{b:Nat}{w w':bF}{p v:bx}{T:bK}(h1:w.heap[b]?=aY (.cells #[p,v] T (0,0)))(h2:w'.heap[b]?=aY (.cells #[p,v] T (0,0)))(ho:w'.os=w.os)(ht:w'.tape=w.tape)(hu:w'.output=w.output)(hs:w.heap.size<=w'.heap.size)
  (hf:∀k,k<w.heap.size->k≠b->v.ownBlock≠aY k->w'.heap[k]?=w.heap[k]?) (hg:∀g,v.ownBlock=aY g->g≠b->∃cur u fr,w'.heap[g]?=aY (.cells cur u fr)):YE b w w':=⟨p,v,T,p,v,h1,h2,ho,ht,hu,hs,hf,λg hg=>.inr hg,hg⟩
set_option maxHeartbeats 2000000 in
set_option maxRecDepth 100000 in
theorem zkj{T:bK}(b:Nat)(l:aj)(w:bF)(h:Lib.IsBuilderF T 5 0 b (Lib.byteCells l) w)(h0:l≠[]):
  Calls bk 42 #[.pointer (aY ⟨b,0,bg⟩)] w λe w'=>e=.returned (.string ⟨l.toArray⟩)/\Lib.IsBuilderF T 5 0 b (Lib.byteCells l) w'/\YE b w w':=by
 obtain⟨p,hp,hAt⟩:∃p,(p=.pointer bg∨p=.pointer (aY ⟨b,0,bg⟩))/\Lib.BuilderAtF T 5 0 b p (Lib.byteCells l) w:=by
  rcases h with h|h
  .exact⟨_,.inl rfl,h⟩
  .exact⟨_,.inr rfl,h⟩
 obtain⟨hB,v,mX,ny,lD⟩:=hAt
 have y5:l.length≠0:=by simpa using h0
 rw[Lib.byteCells_length]at ny
 obtain⟨g,cap,cur,fz,rfl,Ls,hg,nW,Fi,tf,nD,aiC⟩:∃g cap cur fz,v=.slice (aY ⟨g,0,bg⟩) l.length cap/\0<=g/\w.heap[g]?=aY (.cells cur 5 fz)/\fz.2<=l.length*1/\l.length<=cap/\cap<=maxLen/\cur.size=cap*1/\cur.toList.take (l.length*1)=Lib.byteCells l:=by
  rcases ny.2 with⟨_,hz⟩|⟨g,cap,cur,fz,hv,r⟩
  .exact aQ hz y5
  .exact⟨g,cap,cur,fz,hv,r⟩
 have c1:w.drew.cell? ⟨b,1,bg⟩=aY (.slice (aY ⟨g,0,bg⟩) l.length cap):=by have:w.drew.heap[b]?=aY (.cells #[p,.slice (aY ⟨g,0,bg⟩) l.length cap] T (0,0)):=mX;rw[Lib.cell_of_heap this];rfl
 have Ou:(Builtin.unsafeSliceData_ #[106] 229 #[.slice (aY ⟨g,0,bg⟩) l.length cap]).run bk w.drew=.ok (.pointer (aY ⟨g,0,bg⟩)) w.drew:=Lib.run_unsafeSliceData_row _ _ _ _ _ _ ab
 have hUS:(Builtin.unsafeString_ #[229,3] 9 #[.pointer (aY ⟨g,0,bg⟩),.int .i64 l.length]).run bk w.drew=.ok (.string ⟨l.toArray⟩) (w.drew.freeze ⟨g,0,bg⟩ l.length):=by refine Lib.run_unsafeString_row w.drew 229 3 9 5 gj zGy g cur.size (by have nj:w.drew.heap[g]?=aY (.cells cur 5 fz):=hg;simp[World.shape?,nj]) l h0 ab (by unfold maxLen at tf;omega) ?_;intro j x hx;exact ny.cells (g:=g) rfl j (.int .u8 x.toNat) (by simp[Lib.byteCells,hx])
 have TB:Lib.IsBuilderF T 5 0 b (Lib.byteCells l) (w.drew.freeze ⟨g,0,bg⟩ l.length):=by
  have hA:Lib.BuilderAtF T 5 0 b p (Lib.byteCells l) w.drew:=⟨hB,_,mX,by rw[Lib.byteCells_length];exact ny,lD⟩
  have hF:=hA.froze (g:=g) (cap:=cap) (by rw[Lib.byteCells_length];exact c1);rw[Lib.byteCells_length]at hF
  rcases hp with rfl|rfl
  .exact .inl hF
  .exact .inr hF
 have Ls:b≠g:=λe=>lD (by simp[Value.ownBlock,e])
 have aaD:∀k,k≠g->(w.drew.freeze ⟨g,0,bg⟩ l.length).heap[k]?=w.heap[k]?:=λk hk=>by
  unfold World.freeze;split
  .rfl
  .simp only[ep];rw[aN (λe=>hk e.symm)];rfl
 have aiD:YE b w (w.drew.freeze ⟨g,0,bg⟩ l.length):=WY mX ((aaD b Ls).trans mX) (by unfold World.freeze;split<;>rfl) (by unfold World.freeze;split<;>rfl) (by unfold World.freeze;split<;>rfl) (by unfold World.freeze;split;exact fv _;exact fY Array.size_modify.symm) (λk _ _ hk=>aaD k λe=>hk (by simp[Value.ownBlock,e])) λg' nj _=>by
  simp only[Value.ownBlock,Option.some.injEq]at nj;subst nj;have nj:w.drew.heap[g]?=aY (.cells cur 5 fz):=hg;unfold World.freeze;split
  .exact⟨_,_,_,nj⟩
  .simp only[ep,if_true,nj,de];exact⟨_,_,_,rfl⟩
 have mixed:=MT
 go_enter Tryz.func42,Tryz.ntmps42
 go_wp2
 go_region_o
 all_goals (go_wp2;go_ret;exact⟨rfl,TB,aiD⟩)
set_option maxHeartbeats 2000000 in
set_option maxRecDepth 100000 in
theorem zkk{T:bK}(b:Nat)(w:bF)(h:Lib.IsBuilderF T 5 0 b [] w):
  Calls bk 42 #[.pointer (aY ⟨b,0,bg⟩)] w λe w'=>e=.returned (.string ⟨#[]⟩)/\Lib.IsBuilderF T 5 0 b [] w'/\YE b w w':=by
 have hUS:=zCn
 obtain⟨p,hp,hA⟩:∃p,(p=.pointer bg∨p=.pointer (aY ⟨b,0,bg⟩))/\Lib.BuilderAtF T 5 0 b p [] w:=by
  rcases h with h|h
  .exact⟨_,.inl rfl,h⟩
  .exact⟨_,.inr rfl,h⟩
 have ib:=hA.lt;have Oq:=hA;obtain⟨hB,v,mX,ny,lD⟩:=hA
 have fin:∀w',Lib.BuilderAtF T 5 0 b p [] w'->Lib.IsBuilderF T 5 0 b [] w':=λw' hk=>by
  rcases hp with rfl|rfl
  .exact .inl hk
  .exact .inr hk
 rcases ny.2 with⟨rfl,_⟩|⟨g,cap,cur,fz,rfl,Ls,hg,_,_,_,_,_⟩
 .have c1:w.drew.cell? ⟨b,1,bg⟩=aY (.slice bg 0 0):=by have:w.drew.heap[b]?=aY (.cells #[p,.slice bg 0 0] T (0,0)):=mX;rw[Lib.cell_of_heap this];rfl
  have Ou:(Builtin.unsafeSliceData_ #[106] 229 #[.slice bg 0 0]).run bk w.drew=.ok (.pointer bg) w.drew:=rfl;have hf:Lib.IsBuilderF T 5 0 b [] w.drew:=fin _ Oq
  have ht:YE b w w.drew:=WY mX mX rfl rfl rfl al (λ_ _ _ _=>rfl) λg' nj _=>(by cases nj)
  have mixed:=MT
  go_enter Tryz.func42,Tryz.ntmps42
  go_wp2
  go_region_o
  all_goals (go_wp2;go_ret;exact⟨rfl,hf,ht⟩)
 .by_cases nQ:cap=0
  .subst nQ
   have c1:w.drew.cell? ⟨b,1,bg⟩=aY (.slice (aY ⟨g,0,bg⟩) 0 0):=by have:w.drew.heap[b]?=aY (.cells #[p,.slice (aY ⟨g,0,bg⟩) 0 0] T (0,0)):=mX;rw[Lib.cell_of_heap this];rfl
   have Ou:(Builtin.unsafeSliceData_ #[106] 229 #[.slice (aY ⟨g,0,bg⟩) 0 0]).run bk w.drew=.ok (.pointer (aY ⟨w.drew.heap.size,0,bg⟩)) (w.drew.alloc (.view ⟨g,0,bg⟩ 5)):=
    Lib.run_unsafeSliceData_zero w.drew _ _ 5 gj ⟨g,0,bg⟩ 0 (5,cur.size) (by have nj:w.drew.heap[g]?=aY (.cells cur 5 fz):=hg;simp[World.shape?,nj])
   have c2:(w.drew.alloc (.view ⟨g,0,bg⟩ 5)).cell? ⟨b,1,bg⟩=aY (.slice (aY ⟨g,0,bg⟩) 0 0):=by have:(w.drew.alloc (.view ⟨g,0,bg⟩ 5)).heap[b]?=_:=(Lib.alloc_old w.drew _ b ib).trans mX;rw[Lib.cell_of_heap this];rfl
   have c3:(w.alloc (.view ⟨g,0,bg⟩ 5)).drew.cell? ⟨b,1,bg⟩=aY (.slice (aY ⟨g,0,bg⟩) 0 0):=c2;have c0:w.cell? ⟨b,1,bg⟩=aY (.slice (aY ⟨g,0,bg⟩) 0 0):=c1;have hf:Lib.IsBuilderF T 5 0 b [] (w.drew.alloc (.view ⟨g,0,bg⟩ 5)):=fin _ (Oq.drew.alloc _)
   have ht:YE b w (w.drew.alloc (.view ⟨g,0,bg⟩ 5)):=WY mX ((Lib.alloc_old w.drew _ b ib).trans mX) rfl rfl rfl (Nat.le_of_lt (by rw[show(w.drew.alloc (.view ⟨g,0,bg⟩ 5)).heap.size=w.drew.heap.size+1 from by simp];exact Nat.lt_succ_self _)) (λk hk _ _=>Lib.alloc_old w.drew _ k hk) λg' nj _=>by simp only[Value.ownBlock,Option.some.injEq]at nj;subst nj;exact⟨_,_,_,(Lib.alloc_old w.drew _ g (bw.1 hg).1).trans hg⟩
   have mixed:=MT
   go_enter Tryz.func42,Tryz.ntmps42
   go_wp2
   go_region_o
   all_goals (go_wp2;go_ret;exact⟨rfl,hf,ht⟩)
  .have c1:w.drew.cell? ⟨b,1,bg⟩=aY (.slice (aY ⟨g,0,bg⟩) 0 cap):=by have:w.drew.heap[b]?=aY (.cells #[p,.slice (aY ⟨g,0,bg⟩) 0 cap] T (0,0)):=mX;rw[Lib.cell_of_heap this];rfl
   have Ou:(Builtin.unsafeSliceData_ #[106] 229 #[.slice (aY ⟨g,0,bg⟩) 0 cap]).run bk w.drew=.ok (.pointer (aY ⟨g,0,bg⟩)) w.drew:=Lib.run_unsafeSliceData_row _ _ _ _ _ _ nQ;clear nQ;have hf:Lib.IsBuilderF T 5 0 b [] w.drew:=fin _ Oq
   have ht:YE b w w.drew:=WY mX mX rfl rfl rfl al (λ_ _ _ _=>rfl) λg' nj _=>(by
    simp only[Value.ownBlock,Option.some.injEq]at nj;subst nj
    exact⟨_,_,_,hg⟩)
   have mixed:=MT
   go_enter Tryz.func42,Tryz.ntmps42
   go_wp2
   go_region_o
   all_goals (go_wp2;go_ret;exact⟨rfl,hf,ht⟩)
def zpr{T:bK}(b:Nat)(l:aj)(w:bF)(h:Lib.IsBuilderF T 5 0 b (Lib.byteCells l) w):
  Calls bk 42 #[.pointer (aY ⟨b,0,bg⟩)] w λe w'=>e=.returned (.string ⟨l.toArray⟩)/\Lib.IsBuilderF T 5 0 b (Lib.byteCells l) w'/\YE b w w':=by
 cases l with
 |nil=>exact zkk b w h
 |cons x r=>exact zkj b (x::r) w h ae
end Go.Proofs.YtogbenbghgjbiaaGreatDoor
namespace Go.lG
open Go Go.RowKit
abbrev zS:=Nat->bx
def l3(ρ:zS)(d:Nat)(v:bx):zS:=λt=>bif bm t d then v else ρ t
abbrev Wy:=Exit->zS->List cr->bF->Prop
def ev(ρ:zS):bI->bx
 |.tmp t=>ρ t
 |.const v=>v
 |.global g=>.pointer (aY ⟨g,0,bg⟩)
 |.func f=>.func (.func f) #[] #[]
structure pV(N:Nat)(ds:List cr)(a:Act)(ρ:zS):Prop where
 size:a.tmps.size=N
 defs:a.defers=ds
 get:∀t,a.tmps.getD t undef=ρ t
def pV.eval{N:Nat}{ds:List cr}{a:Act}{ρ:zS}(h:pV N ds a ρ):a.eval=ev ρ:=by
 funext x
 cases x with
 |tmp t=>exact h.get t
 |const v=>rfl
 |global g=>rfl
 |func f=>rfl
def pV.put{N:Nat}{ds:List cr}{a:Act}{ρ:zS}(h:pV N ds a ρ){d:Nat}(hd:d<N)(v:bx):pV N ds (a.put (aY d) v) (l3 ρ d v):=by
 refine⟨by simp[Act.put,h.size],h.defs,λt=>?_⟩;simp only[Act.put,l3];by_cases OW:t=d
 .subst OW;simp[cT,cC,h.size,hd]
 .have hb:bm t d=bf:=by
   cases hx:bm t d with
   |false=>rfl
   |true=>exact aQ (eb hx) OW
  rw[hb,cf,<- h.get t];simp[cT,Array.getElem?_setIfInBounds_ne (Ne.symm OW)]
def pV.Gm{N:Nat}{ds:List cr}{a:Act}{ρ:zS}(h:pV N ds a ρ)(v:bx):pV N ds (a.put bg v) ρ:=h
def Fw(r:Option Nat):Fence:={ fn:=λ_=>True,depth:=bg,alive:=bf,round:=r }
def JE{n:Nat}{P:bo}{f:FuncId}{args:Array bx}{w:bF}{R:Ending->bF->Prop}(r:Option Nat)(h:Calls P f args w R):CallsIn (Fw r) n P f args w R:=(callsIn_wide (n:=n)).2 h
def lift(N:Nat)(Q:Wy):Exit->Act->bF->Prop:=λe a w=>∃ρ ds,pV N ds a ρ/\Q e ρ ds w
def zsc{N:Nat}{Q Q':Wy}(h:∀e ρ ds w,Q e ρ ds w->Q' e ρ ds w){e:Exit}{a:Act}{w:bF}:lift N Q e a w->lift N Q' e a w:=λ⟨ρ,ds,hf,hq⟩=>⟨ρ,ds,hf,h _ _ _ _ hq⟩
def Wp(P:bo)(r:Option Nat)(N:Nat)(c:Code)(Q:Wy)(ρ:zS)(ds:List cr)(w:bF):Prop:=∀a n,pV N ds a ρ->c.wpIn (Fw r) n P (lift N Q) a w
def andThen(K:zS->List cr->bF->Prop)(Q:Wy):Wy
 |.normal,ρ,ds,w=>K ρ ds w
 |e,ρ,ds,w=>Q e ρ ds w
def FY(id:Nat)(Q:Wy):Wy
 |.exit i,ρ,ds,w=>if i=id then Q .normal ρ ds w else Q (.exit i) ρ ds w
 |e,ρ,ds,w=>Q e ρ ds w
section
variable{P:bo}{r:Option Nat}{N:Nat}{Q:Wy}{ρ:zS}{ds:List cr}{w:bF}
def YF{c:Code}{Q':Wy}(h:Wp P r N c Q ρ ds w)(hq:∀e ρ ds w,Q e ρ ds w->Q' e ρ ds w):Wp P r N c Q' ρ ds w:=λa n hf=>wpIn_mono (h a n hf) λ_ _ _=>zsc hq
def IA(h:Q .normal ρ ds w):Wp P r N .skip Q ρ ds w:=λ_ _ hf=>wpIn_skip ⟨_,_,hf,h⟩
def WA{id:Nat}(h:Q (.exit id) ρ ds w):Wp P r N (.exit id) Q ρ ds w:=λ_ _ hf=>wpIn_exit ⟨_,_,hf,h⟩
def M6(h:Q .ret ρ ds w):Wp P r N .ret Q ρ ds w:=λ_ _ hf=>wpIn_ret ⟨_,_,hf,h⟩
def Q4{x y:Code}(h:Wp P r N x (andThen (λρ ds w=>Wp P r N y Q ρ ds w) Q) ρ ds w):Wp P r N (.seq x y) Q ρ ds w:=
 λa n hf=>wpIn_seq (wpIn_mono (h a n hf) λe a' w' hq=>by
  obtain⟨ρ',mL,nR,mZ⟩:=hq
  cases e with
  |normal=>exact mZ a' n nR
  |exit id=>exact⟨ρ',mL,nR,mZ⟩
  |goto l=>exact⟨ρ',mL,nR,mZ⟩
  |ret=>exact⟨ρ',mL,nR,mZ⟩
  |panic ch=>exact⟨ρ',mL,nR,mZ⟩
  |outgrown=>exact⟨ρ',mL,nR,mZ⟩)
def zGz{c:bI}{x y:Code}(t:Bool)(hc:ev ρ c=.bool t)(h1:t=bh->Wp P r N x Q ρ ds w)(h2:t=bf->Wp P r N y Q ρ ds w):Wp P r N (.cond c x y) Q ρ ds w:=λa n hf=>wpIn_cond_split (by rw[hf.eval];exact hc) (λht=>h1 ht a n hf) (λht=>h2 ht a n hf)
def PY{c:bI}{x y:Code}(hc:ev ρ c=.bool bh)(h1:Wp P r N x Q ρ ds w):Wp P r N (.cond c x y) Q ρ ds w:=λa n hf=>wpIn_cond_true (by rw[hf.eval];exact hc) (h1 a n hf)
def WZ{c:bI}{x y:Code}(hc:ev ρ c=.bool bf)(h1:Wp P r N y Q ρ ds w):Wp P r N (.cond c x y) Q ρ ds w:=λa n hf=>wpIn_cond_false (by rw[hf.eval];exact hc) (h1 a n hf)
def YG{id:Nat}{c:Code}(h:Wp P r N c (FY id Q) ρ ds w):Wp P r N (.block id c) Q ρ ds w:=
 λa n hf=>wpIn_block (wpIn_mono (h a n hf) λe a' w' hq=>by
  obtain⟨ρ',mL,nR,mZ⟩:=hq
  cases e with
  |exit i =>
   simp only[FY]at mZ;simp only[Exit.inBlock];split
   .rename_i he;rw[aO he]at mZ;exact⟨ρ',mL,nR,mZ⟩
   .rename_i he;rw[aN he]at mZ;exact⟨ρ',mL,nR,mZ⟩
  |normal=>exact⟨ρ',mL,nR,mZ⟩
  |goto l=>exact⟨ρ',mL,nR,mZ⟩
  |ret=>exact⟨ρ',mL,nR,mZ⟩
  |panic ch=>exact⟨ρ',mL,nR,mZ⟩
  |outgrown=>exact⟨ρ',mL,nR,mZ⟩)
def xG{K:zS->List cr->bF->Prop}(h:K ρ ds w):andThen K Q .normal ρ ds w:=h
def PZ{K:zS->List cr->bF->Prop}(h:Q .ret ρ ds w):andThen K Q .ret ρ ds w:=h
def zf7{id:Nat}{K:zS->List cr->bF->Prop}(h:Q (.exit id) ρ ds w):andThen K Q (.exit id) ρ ds w:=h
def Rs{id:Nat}(h:Q .normal ρ ds w):FY id Q .normal ρ ds w:=h
def MC{id:Nat}(h:Q .ret ρ ds w):FY id Q .ret ρ ds w:=h
def zx7{id:Nat}(h:Q .normal ρ ds w):FY id Q (.exit id) ρ ds w:=by
 show(if id=id then Q .normal ρ ds w else Q (.exit id) ρ ds w)
 rw[aO rfl];exact h
def least(p:Nat->Prop):∀n,p n->∃m,p m/\∀k,k<m->¬p k:=by
 intro n
 induction n using Nat.strongRecOn with
 |_ n ih =>
  intro h;by_cases hk:∃k,k<n/\p k
  .obtain⟨k,y0,B6⟩:=hk;exact ih k y0 B6
  .exact⟨n,h,λk y0 B6=>hk ⟨k,y0,B6⟩⟩
def gv(all:List Oper)(ρ:zS)(j:Nat):Option Bool:=
 match (all[j]?).bind (·.dst)with
 |some d=>match ρ d with|.bool b=>aY b|_=>bg
 |none=>bg
def wanted(all:List Oper)(ρ:zS)(o:Oper):Bool:=
 match o.guard with
 |none=>bh
 |some (j,want)=>gv all ρ j==aY want
def pV.yielded{a:Act}(hf:pV N ds a ρ)(all:List Oper)(j:Nat):Go.yielded all.toArray a.tmps j=gv all ρ j:=by
 unfold Go.yielded gv;simp only[fH]
 cases h:(all[j]?).bind (·.dst)with
 |none=>rfl
 |some d =>
  simp only[aC];have hg:=hf.get d;rw[cT]at hg
  cases hx:a.tmps[d]? with
  |none=>rw[hx]at hg;rw[<- hg];rfl
  |some v=>rw[hx]at hg;rw[<- hg];cases v<;>rfl
def pV.wanted{a:Act}(hf:pV N ds a ρ)(all:List Oper)(o:Oper):Region.wanted o (Go.yielded all.toArray a.tmps)=wanted all ρ o:=by
 unfold Region.wanted lG.wanted
 cases o.guard with
 |none=>rfl
 |some p=>simp only[hf.yielded all]
def nH(P:bo)(r:Option Nat)(N:Nat)(all:List Oper)(Q:Wy)(l:List Oper)(ρ:zS)(ds:List cr)(w:bF):Prop:=∀a n,pV N ds a ρ->wpListIn (Fw r) n P all.toArray (lift N Q) l a w
def vt{id:Nat}{l:List Oper}(h:nH P r N l Q l ρ ds w):Wp P r N (.region id l.toArray bf) Q ρ ds w:=λa n hf=>wpIn_region_lit (h a n hf)
def vu:Op->Bool|.defer _=>bf|_=>bh
def AJ{o:Oper}(h:vu o.op=bh)(ρ:bI->bx)(ro:Option Nat):o.semAt ro ρ=bP ρ o:=Oper.semAt_eq ro ρ o (λc hc=>by rw[hc]at h;cases h)
section
variable{all rest:List Oper}{o:Oper}
def vI(h:Q .normal ρ ds w):nH P r N all Q [] ρ ds w:=λ_ _ hf=>⟨_,_,hf,h⟩
def zmv(d:Nat)(hd:o.dst=aY d)(hN:cm (d+1) N=bh)(hw:wanted all ρ o=bf)(h:nH P r N all Q rest (l3 ρ d undef) ds w):nH P r N all Q (o::rest) ρ ds w:=by intro a n hf;have rH:=(hf.wanted all o).trans hw;simp only[wpListIn,rH,cI,if_false];exact⟨λ_ _=>trivial,h _ n (by rw[hd];exact hf.put (mi hN) _)⟩
def zsd(hd:o.dst=bg)(hw:wanted all ρ o=bf)(h:nH P r N all Q rest ρ ds w):nH P r N all Q (o::rest) ρ ds w:=by intro a n hf;have rH:=(hf.wanted all o).trans hw;simp only[wpListIn,rH,cI,if_false];exact⟨λ_ _=>trivial,h _ n (by rw[hd];exact hf.Gm _)⟩
def wk(d:Nat)(v:bx){w':bF}(hd:o.dst=aY d)(hN:cm (d+1) N=bh)(hw:wanted all ρ o=bh)(hn:vu o.op=bh)
  (hr:(bP (ev ρ) o).run P w=.ok (.value v) w') (h:nH P r N all Q rest (l3 ρ d v) ds w'):nH P r N all Q (o::rest) ρ ds w:=by intro a n hf;have rH:=(hf.wanted all o).trans hw;simp only[wpListIn,rH,if_true];refine⟨λ_ _=>trivial,?_⟩;rw[AJ hn,hf.eval,hr,Oper.uponIn_value,hd];exact h _ n (hf.put (mi hN) _)
def zx8{w':bF}(hd:o.dst=bg)(hw:wanted all ρ o=bh)(hn:vu o.op=bh)
  (hr:(bP (ev ρ) o).run P w=.ok .skip w') (h:nH P r N all Q rest ρ ds w'):nH P r N all Q (o::rest) ρ ds w:=by intro a n hf;have rH:=(hf.wanted all o).trans hw;simp only[wpListIn,rH,if_true];refine⟨λ_ _=>trivial,?_⟩;rw[AJ hn,hf.eval,hr,Oper.uponIn_skip,hd];exact h _ n (hf.Gm _)
def zf8(d:Nat){w':bF}{f:FuncId}{args:Array bx}{R:Ending->bF->Prop}(hd:o.dst=aY d)(hN:cm (d+1) N=bh)(hw:wanted all ρ o=bh)(hn:vu o.op=bh)
  (hr:(bP (ev ρ) o).run P w=.ok (.enter f args) w') (hc:Calls P f args w' R)
  (h:∀e tM,R e tM->∃v,e=.returned v/\nH P r N all Q rest (l3 ρ d v) ds tM):nH P r N all Q (o::rest) ρ ds w:=by intro a n hf;have rH:=(hf.wanted all o).trans hw;simp only[wpListIn,rH,if_true];refine⟨λ_ _=>trivial,?_⟩;rw[AJ hn,hf.eval,hr,Oper.uponIn_enter];refine⟨λhx=>by simp[Fw]at hx,(JE r hc).mono λe tM hR=>?_⟩;obtain⟨v,rfl,hk⟩:=h e tM hR;rw[hd];exact hk _ n (hf.put (mi hN) _)
end
end
def FK(ops:Array Oper)(listed:Array Bool):Prop:=∀j o,listed.getD j bf=bh->ops[j]?=aY o->∀e∈o.after,Region.binds .any e=bh->listed.getD e.on bf=bh
def FK.set{ops:Array Oper}{listed:Array Bool}{i:Nat}(h:FK ops listed)(hr:i∈Region.ready .any ops listed):FK ops (listed.setIfInBounds i bh):=by
 intro j o hj ho e he hb;refine getD_set_true ?_;by_cases CR:i=j
 .subst CR;obtain⟨_,o',Bw,nF⟩:=mem_ready.1 hr;rw[ho]at Bw;cases Bw;exact nF e he hb
 .rw[getD_set_ne bf CR]at hj;exact h j o hj ho e he hb
section
variable{P:bo}{r:Option Nat}{n:Nat}{ops:Array Oper}{jl:Nat}{S T:bF->Prop}{Q:Exit->Act->bF->Prop}
end
section
variable{P:bo}{r:Option Nat}{N:Nat}{Q:Wy}{ρ:zS}{ds:List cr}{w:bF}{all:List Oper}{jl:Nat}{S:bF->Prop}{K:zS->List cr->bF->Prop}
end
section
inductive Own where
 |gM (b:Nat) (cs:List bx) (t:bK)
 |row (e k:Nat) (v:bx) (xs:List (List bx))
 |obj (b:Nat) (o:Obj)
 |ajS (W:bF)
variable{W0 w w':bF}{L:List Own}{x x' y:Own}
variable{a b c d e f g i:Own}
def zpt{k:Nat}:∀{xs:List (List bx)},(∀x∈xs,x.length=k)->∀{m j:Nat}{x:List bx}{u:bx},xs[m]?=aY x->x[j]?=aY u->xs.flatten[m*k+j]?=aY u:=by
 intro xs
 induction xs with
 |nil=>intro _ m j x u hm;simp at hm
 |cons y ys ih =>
  intro hk m j x u hm hj;have hy:=hk y ak;have DY:j<x.length:=(bq.1 hj).1
  cases m with
  |zero =>
   simp at hm;subst hm;rw[cN,ee,cl,dq DY];exact hj
  |succ m =>
   rw[cN,dJ (by rw[hy,dh];omega)];have:=ih (λx hx=>hk x (iO _ hx)) (m:=m) (by simpa using hm) hj;rw[<- this]
   congr 1
   rw[hy,dh];omega
end
def IB:TypeDesc->Bool|.struct _=>bf|.array _ _=>bf|_=>bh
def SE(P:bo)(t:bK):Prop:=∃d i,P.underlying t=aY d/\IB d=bh/\P.info? t=aY i/\i.size=1
def SD(P:bo)(t:bK)(k:Nat):Prop:=∃d i,P.underlying t=aY d/\IB d=bf/\P.info? t=aY i/\i.size=k
section
variable{P:bo}{ρ:zS}{w:bF}{dst:Option Tmp}{ty:bK}{pos:String}{aft:Array Edge}{gd:Option (Nat×Bool)}
def kC{t:bK}(h:SE P t):(isAgg t).run P w=.ok bf w:=by obtain⟨d,_,hd,hs,_⟩:=h;unfold isAgg;cases d<;>simp[run_underlying hd,IB]at hs ⊢
def AK{t k:bK}(h:SD P t k):(isAgg t).run P w=.ok bh w:=by obtain⟨d,i,hd,hs,_⟩:=h;unfold isAgg;cases d<;>simp[run_underlying hd,IB]at hs ⊢
def xu{t:bK}{x:bI}{p:Addr}{v:bx}(hs:SE P t)(ha:ev ρ x=.pointer (aY p))(hc:w.cell? p=aY v):
  (bP (ev ρ) ⟨dst,.load t x,ty,pos,aft,gd⟩).run P w=.ok (.value v) w:=by simp[bP,Instr.loadAt,ha,Instr.sureAddr,loadVar,kC hs,load,Sem.run,hc]
def w9{t:bK}{x:bI}{p:Addr}{k:Nat}(cs:List bx)(hs:SD P t k)(ha:ev ρ x=.pointer (aY p))(hl:cs.length=k)
  (hc:∀j u,cs[j]?=aY u->w.cell? (p.add j)=aY u):
  (bP (ev ρ) ⟨dst,.load t x,ty,pos,aft,gd⟩).run P w=.ok (.value (.agg cs.toArray)) w:=by obtain⟨d,i,hd,_,hi,hk⟩:=id hs;subst hl;simp[bP,Instr.loadAt,ha,Instr.sureAddr,loadVar,AK hs,sizeOf,typeInfo,hi,hk,run_loadCells_list w p cs hc]
end
abbrev str(l:aj):bx:=.string ⟨l.toArray⟩
abbrev i64(n:Int):bx:=.int .i64 n
def SJ(op:BinOp)(x y:bx):Option bx:=
 match x,y with
 |.int k a,.int k' b =>
  if k=k' then
   match op with
   |.lss=>aY (.bool (decide (a<b)))
   |.leq=>aY (.bool (decide (a<=b)))
   |.gtr=>aY (.bool (decide (a>b)))
   |.geq=>aY (.bool (decide (a>=b)))
   |.eql=>aY (.bool (decide (a=b)))
   |.neq=>aY (.bool (!decide (a=b)))
   |.add=>aY (.int k (k.wrap (a+b)))
   |.sub=>aY (.int k (k.wrap (a-b)))
   |.mul=>aY (.int k (k.wrap (a*b)))
   |_=>bg
  else bg
 |.string a,.string b =>
  match op with
  |.eql=>aY (.bool (decide (a.data.toList=b.data.toList)))
  |.neq=>aY (.bool (!decide (a.data.toList=b.data.toList)))
  |.lss=>aY (.bool (Op.bytesLess a.data.toList b.data.toList))
  |_=>bg
 |_,_=>bg
def pv(ρ:zS):Op->Option bx
 |.move x|.assign x=>aY (ev ρ x)
 |.pick c a b=>match ev ρ c with|.bool t=>aY (bif t then ev ρ a else ev ρ b)|_=>bg
 |.binOp op _ x y _=>SJ op (ev ρ x) (ev ρ y)
 |.unOp .not _ x=>match ev ρ x with|.bool b=>aY (.bool (!b))|_=>bg
 |.unOp .neg _ x=>match ev ρ x with|.int k n=>aY (.int k (k.wrap (0-n)))|_=>bg
 |.extract x i=>match ev ρ x with|.tuple vs=>vs.toList[i]?|_=>bg
 |.makeFunc fn first cap=>aY (.func fn (first.toList.map (ev ρ)).toArray (cap.toList.map (ev ρ)).toArray)
 |_=>bg
section
variable{P:bo}{ρ:zS}{w:bF}{dst:Option Tmp}{ty:bK}{pos:String}{aft:Array Edge}{gd:Option (Nat×Bool)}
def zse{op:BinOp}{t t':bK}{x y:bI}{v:bx}(h:SJ op (ev ρ x) (ev ρ y)=aY v):
  (bP (ev ρ) ⟨dst,.binOp op t x y t',ty,pos,aft,gd⟩).run P w=.ok (.value v) w:=by
 unfold SJ at h;split at h
 .rename_i k a k' b hx hy;split at h
  .rename_i hk;subst hk;cases op<;>simp only[Option.some.injEq,reduceCtorEq]at h<;>subst h<;>simp[bP,hx,hy,eqGuard,binOp,Op.intCmp,Op.intArith]<;>rfl
  .cases h
 .rename_i a b hx hy
  cases op<;>simp only[Option.some.injEq,reduceCtorEq]at h<;>subst h<;>simp[bP,hx,hy,eqGuard,binOp,Op.stringOp,ByteArray.toList_eq]<;>first|(rw[eJ];simp;done)|rfl
 .cases h
def FL{op:Op}{v:bx}(h:pv ρ op=aY v):(bP (ev ρ) ⟨dst,op,ty,pos,aft,gd⟩).run P w=.ok (.value v) w:=by
 cases op with
 |move x=>simp only[pv,Option.some.injEq]at h;subst h;simp[bP]
 |assign x=>simp only[pv,Option.some.injEq]at h;subst h;simp[bP]
 |pick c a b =>
  simp only[pv]at h;split at h
  .rename_i t hc;simp only[Option.some.injEq]at h;subst h;simp only[bP,hc,asBool];cases t<;>simp
  .cases h
 |binOp op t x y t'=>exact zse h
 |unOp op t x =>
  cases op with
  |not =>
   simp only[pv]at h;split at h
   .rename_i b hb;simp only[Option.some.injEq]at h;subst h;simp[bP,hb,Op.unary]
   .cases h
  |neg =>
   simp only[pv]at h;split at h
   .rename_i k n hb;simp only[Option.some.injEq]at h;subst h;simp[bP,hb,Op.unary,Op.intArith]
   .cases h
  |_=>simp[pv]at h
 |extract x i =>
  simp only[pv]at h;split at h
  .rename_i vs hx
   have h':vs[i]?=aY v:=by simpa using h
   simp[bP,hx,Instr.extract,h']
  .cases h
 |makeFunc fn first cap =>
  simp only[pv,Option.some.injEq]at h;subst h
  have e:∀l:Array bI,l.map (ev ρ)=(l.toList.map (ev ρ)).toArray:=λl=>fZ ae
  simp only[bP,Instr.makeFunc,e];rfl
 |_=>simp[pv]at h
def RU(P:bo)(s f off:Nat):Prop:=∃fs sd i,P.underlying s=aY (.struct fs)/\fs[f]?=aY sd/\sd.offset=off/\P.info? sd.type=aY i/\i.size≠0
def K4{s f off:Nat}{x:bI}{p:Addr}(hf:RU P s f off)(ha:ev ρ x=.pointer (aY p)):
  (bP (ev ρ) ⟨dst,.fieldAddr s x f,ty,pos,aft,gd⟩).run P w=.ok (.value (.pointer (aY (p.add off)))) w:=by obtain⟨fs,sd,i,h1,h2,h3,h4,h5⟩:=hf;subst h3;simp[bP,Instr.fieldAt,run_underlying h1,h2,ha,Instr.sureAddr,fieldPlace,sizeOf,typeInfo,h4,h5]
def zCo(b o n:Nat):(⟨b,o,bg⟩:Addr).add n=⟨b,o+n,bg⟩:=Addr.add_lit b o n
def ab5{s f off:Nat}{x:bI}{b o o':Nat}(hf:RU P s f off)(ho:o+off=o')(ha:ev ρ x=.pointer (aY ⟨b,o,bg⟩)):
  (bP (ev ρ) ⟨dst,.fieldAddr s x f,ty,pos,aft,gd⟩).run P w=.ok (.value (.pointer (aY ⟨b,o',bg⟩))) w:=by subst ho;rw[<- zCo];exact K4 hf ha
def zkm{t:bK}{x:bI}{s:aj}(ht:P.underlying t=aY .string)(ha:ev ρ x=str s):
  (bP (ev ρ) ⟨dst,.call ⟨.builtin .len,#[x],#[t]⟩,ty,pos,aft,gd⟩).run P w=.ok (.value (i64 s.length)) w:=by
 have hs:(⟨s.toArray⟩:ByteArray).size=s.length:=by show s.toArray.size=_;simp
 simp[bP,resolve,invoke,builtin,ha,Builtin.len_,run_underlying ht,goInt,hs]
def oF{t e:bK}{x:bI}{A:Option Addr}{n c:Nat}(ht:P.underlying t=aY (.slice e))(ha:ev ρ x=.slice A n c):
  (bP (ev ρ) ⟨dst,.call ⟨.builtin .len,#[x],#[t]⟩,ty,pos,aft,gd⟩).run P w=.ok (.value (i64 n)) w:=by simp[bP,resolve,invoke,builtin,ha,Builtin.len_,run_underlying ht,goInt]
def zdt{t t':bK}{x y:bI}{a b:Bool}(ht:P.underlying t=aY .bool)(ha:ev ρ x=.bool a)(hb:ev ρ y=.bool b):
  (bP (ev ρ) ⟨dst,.binOp .eql t x y t',ty,pos,aft,gd⟩).run P w=.ok (.value (.bool (a==b))) w:=by simp[bP,ha,hb,run_eql_bool _ _ _ _ ht,eqGuard]
def zdu{t t':bK}{x y:bI}{a b:Bool}(ht:P.underlying t=aY .bool)(ha:ev ρ x=.bool a)(hb:ev ρ y=.bool b):
  (bP (ev ρ) ⟨dst,.binOp .neq t x y t',ty,pos,aft,gd⟩).run P w=.ok (.value (.bool (!(a==b)))) w:=by simp[bP,ha,hb,run_neq_bool _ _ _ _ ht,eqGuard]
end
def zsg{a:Int}(h1:-9223372036854775808<=a)(h2:a<=9223372036854775807):IntKind.i64.wrap a=a:=by rw[IntKind.wrap_i64];omega
section
variable{P:bo}{r:Option Nat}{N:Nat}{Q:Wy}{ρ:zS}{ds:List cr}{w W0:bF}{L:List Own}
variable{all rest:List Oper}{ty:bK}{pos:String}{aft:Array Edge}{gd:Option (Nat×Bool)}
def zb (P : bo) (f : FuncId) : Prop := ∃ fn, P.funcs[f]? = aY fn /\ (fn.name == "runtime.NumGoroutine") = bf /\ fn.body.isNone = bf
def zmw{d:Option Tmp}{f:FuncId}{l:List bI}{ts:Array bK}(vs:List bx)(hf:zb P f)(ha:l.map (ev ρ)=vs):
  (bP (ev ρ) ⟨d,.call ⟨.value (.func f),l.toArray,ts⟩,ty,pos,aft,gd⟩).run P w=.ok (.enter f vs.toArray) w:=by
 obtain⟨fn,h1,h2,h3⟩:=hf;subst ha
 have u4 : ¬ fn.name = "runtime.NumGoroutine" := by simpa using h2
 have pH:¬fn.body=bg:=by intro e;rw[e]at h3;cases h3
 simp[bP,resolve,ev,Deferred.ofValue,invoke,callFunc,program,Sem.run,h1,u4,pH]
def kD(l:List bx):zS:=λt=>l.getD t undef
section
variable{fn:Func}{ajw:bx->bF->Prop}
end
end
end Go.lG
namespace Go.EV
open Go Go.RowKit Go.lG
structure Mb where
 rep:(Nat->Option (Nat×Nat))->bx->Prop
 mono:∀mk mk' x,(∀L loc,mk L=aY loc->mk' L=aY loc)->rep mk x->rep mk' x
 one:∀mk x,rep mk x->x.oneCell'=bh/\x.cells.toList=[x]
def Ti(sz n:Nat):Mb where
 rep:=λmk x=>∃loc,mk n=aY loc/\n<=loc.2/\loc.2<=maxLen/\((n≠0/\x=.slice (aY ⟨loc.1,0*sz,bg⟩) n (loc.2-0))∨(n=0/\loc.2=0/\x=.slice bg 0 0))
 mono:=λmk mk' x hm ⟨loc,h1,h2⟩=>⟨loc,hm n loc h1,h2⟩
 one:=λmk x h=>by obtain⟨loc,_,_,_,⟨_,rfl⟩|⟨_,_,rfl⟩⟩:=h<;>exact⟨rfl,rfl⟩
structure aac where
 rep:(Addr->Option bx)->bx->Prop
 mono:∀Z Z' x,(∀a x,Z a=aY x->Z' a=aY x)->rep Z x->rep Z' x
 one:∀Z x,rep Z x->x.oneCell'=bh/\x.cells.toList=[x]
inductive V where
 |undef
 |no
 |int (k:IntKind) (n:Int)
 |bool (b:Bool)
 |str (l:aj)
 |mx
 |ptr (k L off:Nat)
 |vp (cs:List V) (off:Nat)
 |gg
 |sl (sz k L o n:Nat)
 |vs (sz:Nat) (els:List (List V))
 |fn (f:Nat) (first caps:List V)
 |nd
 |agg (cs:List V)
 |iN (xs:List V)
 |mD
 |mp (k:Nat)
 |nM
 |mP (t:Nat) (v:V)
 |gv (k:Nat) (R:Mb)
 |pv (R:aac)
 deriving Inhabited
abbrev M:=Nat->Nat->Option (Nat×Nat)
abbrev ZM:=Addr->Option bx
mutual
def aT(m:Option M)(Z:ZM):V->bx->Prop
 |.undef,_=>True
 |.no,x=>x=Go.undef
 |.int k n,x=>x=.int k n
 |.bool b,x=>x=.bool b
 |.str l,x=>x=.string ⟨l.toArray⟩
 |.mx,x=>x=.pointer bg
 |.ptr k L off,x=>∃f loc,m=aY f/\f k L=aY loc/\x=.pointer (aY ⟨loc.1,off,bg⟩)
 |.vp cs off,x=>∃a:Addr,x=.pointer (aY (a.add off))/\qV Z a 0 cs
 |.gg,x=>x=.slice bg 0 0
 |.sl sz k L o n,x=>∃f loc,m=aY f/\f k L=aY loc/\o+n<=loc.2/\loc.2<=maxLen/\(x=.slice (aY ⟨loc.1,o*sz,bg⟩) n (loc.2-o)∨(loc.2=0/\∃A,x=.slice A 0 0)∨(0<o/\n=0/\∃A c,x=.slice A 0 c/\c<=maxLen))
 |.vs sz els,x=>∃A c,x=.slice A els.length c/\els.length<=c/\c<=maxLen/\(els=[]∨∃a,A=aY a/\xq Z a sz 0 els)
 |.fn f first caps,x=>∃l1 l2:List bx,x=.func (.func f) l1.toArray l2.toArray/\zC m Z first l1/\zC m Z caps l2
 |.nd,x=>x=.nilFunc
 |.agg cs,x=>∃l:List bx,x=.agg l.toArray/\zC m Z cs l
 |.iN xs,x=>∃l:List bx,x=.tuple l.toArray/\zC m Z xs l
 |.mD,x=>x=.map bg
 |.mp k,x=>∃f loc,m=aY f/\f k 0=aY loc/\x=.map (aY loc.1)
 |.nM,x=>x=.nilIface
 |.mP t v,x=>∃y,x=.iface t y/\aT m Z v y
 |.gv k R,x=>∃f,m=aY f/\R.rep (f k) x
 |.pv R,x=>R.rep Z x
def zC(m:Option M)(Z:ZM):List V->List bx->Prop
 |[],l=>l=[]
 |v::vs,l=>∃x xs,l=x::xs/\aT m Z v x/\zC m Z vs xs
/-- The cells at a, from number j on, read asZ these. -/
def qV(Z:ZM)(a:Addr):Nat->List V->Prop
 |_,[]=>True
 |j,v::vs=>(∃x,Z (a.add j)=aY x/\aT bg Z v x)/\qV Z a (j+1) vs
def xq(Z:ZM)(a:Addr)(sz:Nat):Nat->List (List V)->Prop
 |_,[]=>True
 |i,cs::r=>(cs.length=sz/\qV Z (a.add (i*sz)) 0 cs)/\xq Z a sz (i+1) r
end
mutual
/-- The names that a value holds. -/
def V.refs:V->List Nat
 |.ptr k _ _=>[k]
 |.sl _ k _ _ _=>[k]
 |.mp k=>[k]
 |.fn _ first caps=>wh first++wh caps
 |.agg cs=>wh cs
 |.iN xs=>wh xs
 |.mP _ v=>v.refs
 |.gv k _=>[k]
 |_=>[]
def wh:List V->List Nat
 |[]=>[]
 |v::vs=>v.refs++wh vs
end
mutual
def V.fM(f:Nat->Nat):V->V
 |.ptr k L off=>.ptr (f k) L off
 |.sl sz k L o n=>.sl sz (f k) L o n
 |.mp k=>.mp (f k)
 |.fn g first caps=>.fn g (rr f first) (rr f caps)
 |.agg cs=>.agg (rr f cs)
 |.iN xs=>.iN (rr f xs)
 |.mP t v=>.mP t (v.fM f)
 |.gv k R=>.gv (f k) R
 |v=>v
def rr(f:Nat->Nat):List V->List V
 |[]=>[]
 |v::vs=>v.fM f::rr f vs
end
section
variable{m m':Option M}{Z Z':ZM}
mutual
def aT.rW(hZ:∀a x,Z a=aY x->Z' a=aY x):
  ∀(v:V)(m m':Option M)(_:∀f,m=aY f->∃f',m'=aY f'/\∀k L loc,f k L=aY loc->f' k L=aY loc)(x:bx),aT m Z v x->aT m' Z' v x
 |.undef,m,m',hm,x,h=>trivial
 |.no,m,m',hm,x,h=>h
 |.int k n,m,m',hm,x,h=>h
 |.bool b,m,m',hm,x,h=>h
 |.str l,m,m',hm,x,h=>h
 |.mx,m,m',hm,x,h=>h
 |.ptr k L off,m,m',hm,x,h=>by
  obtain⟨f,loc,h1,h2,h3⟩:=h;obtain⟨f',h4,h5⟩:=hm f h1;exact⟨f',loc,h4,h5 _ _ _ h2,h3⟩
 |.vp cs off,m,m',hm,x,h=>by
  obtain⟨a,h1,h2⟩:=h;exact⟨a,h1,qV.rW hZ a cs 0 h2⟩
 |.gg,m,m',hm,x,h=>h
 |.sl sz k L o n,m,m',hm,x,h=>by
  obtain⟨f,loc,h1,h2,h3⟩:=h;obtain⟨f',h4,h5⟩:=hm f h1;exact⟨f',loc,h4,h5 _ _ _ h2,h3⟩
 |.vs sz els,m,m',hm,x,h=>by
  obtain⟨A,c,h1,h2,h3,h4⟩:=h;refine⟨A,c,h1,h2,h3,?_⟩
  rcases h4 with h4|⟨a,h4,h5⟩
  .exact .inl h4
  .exact .inr ⟨a,h4,xq.rW hZ a sz els 0 h5⟩
 |.fn f first caps,m,m',hm,x,h=>by
  obtain⟨l1,l2,h1,h2,h3⟩:=h;exact⟨l1,l2,h1,zC.rW hZ first m m' hm l1 h2,zC.rW hZ caps m m' hm l2 h3⟩
 |.nd,m,m',hm,x,h=>h
 |.agg cs,m,m',hm,x,h=>by
  obtain⟨l,h1,h2⟩:=h;exact⟨l,h1,zC.rW hZ cs m m' hm l h2⟩
 |.iN xs,m,m',hm,x,h=>by
  obtain⟨l,h1,h2⟩:=h;exact⟨l,h1,zC.rW hZ xs m m' hm l h2⟩
 |.mD,m,m',hm,x,h=>h
 |.mp k,m,m',hm,x,h=>by
  obtain⟨f,loc,h1,h2,h3⟩:=h;obtain⟨f',h4,h5⟩:=hm f h1;exact⟨f',loc,h4,h5 _ _ _ h2,h3⟩
 |.nM,m,m',hm,x,h=>h
 |.mP t v,m,m',hm,x,h=>by
  obtain⟨y,h1,h2⟩:=h;exact⟨y,h1,aT.rW hZ v m m' hm y h2⟩
 |.gv k R,m,m',hm,x,h=>by
  obtain⟨f,h1,h2⟩:=h;obtain⟨f',h4,h5⟩:=hm f h1;exact⟨f',h4,R.mono _ _ _ (h5 k) h2⟩
 |.pv R,m,m',hm,x,h=>R.mono _ _ _ hZ h
def zC.rW(hZ:∀a x,Z a=aY x->Z' a=aY x):
  ∀(vs:List V)(m m':Option M)(_:∀f,m=aY f->∃f',m'=aY f'/\∀k L loc,f k L=aY loc->f' k L=aY loc)(l:List bx),zC m Z vs l->zC m' Z' vs l
 |[],m,m',hm,l,h=>h
 |v::vs,m,m',hm,l,h=>by obtain⟨x,xs,h1,h2,h3⟩:=h;exact⟨x,xs,h1,aT.rW hZ v m m' hm x h2,zC.rW hZ vs m m' hm xs h3⟩
def qV.rW(hZ:∀a x,Z a=aY x->Z' a=aY x)(a:Addr):∀(vs:List V)(j:Nat),qV Z a j vs->qV Z' a j vs
 |[],_,_=>trivial
 |v::vs,j,h=>by obtain⟨⟨x,h1,h2⟩,h3⟩:=h;exact⟨⟨x,hZ _ _ h1,aT.rW hZ v bg bg (λf hf=>by cases hf) x h2⟩,qV.rW hZ a vs (j+1) h3⟩
def xq.rW(hZ:∀a x,Z a=aY x->Z' a=aY x)(a:Addr)(sz:Nat):∀(els:List (List V))(i:Nat),xq Z a sz i els->xq Z' a sz i els
 |[],_,_=>trivial
 |cs::r,i,h=>by obtain⟨⟨h1,h2⟩,h3⟩:=h;exact⟨⟨h1,qV.rW hZ _ cs 0 h2⟩,xq.rW hZ a sz r (i+1) h3⟩
end
def aT.up{v:V}{x:bx}(hZ:∀a x,Z a=aY x->Z' a=aY x)(hm:∀f,m=aY f->∃f',m'=aY f'/\∀k L loc,f k L=aY loc->f' k L=aY loc)(h:aT m Z v x):aT m' Z' v x:=aT.rW hZ v m m' hm x h
def zC.up{v:List V}{x:List bx}(hZ:∀a x,Z a=aY x->Z' a=aY x)(hm:∀f,m=aY f->∃f',m'=aY f'/\∀k L loc,f k L=aY loc->f' k L=aY loc)(h:zC m Z v x):zC m' Z' v x:=zC.rW hZ v m m' hm x h
mutual
/-- The names are moved. -/
def aT.fM{f f':M}(σ:Nat->Nat):∀(v:V)(x:bx),(∀k∈v.refs,∀L loc,f k L=aY loc->f' (σ k) L=aY loc)->aT (aY f) Z v x->aT (aY f') Z (v.fM σ) x
 |.undef,x,_,h=>trivial
 |.no,x,_,h=>h
 |.int k n,x,_,h=>h
 |.bool b,x,_,h=>h
 |.str l,x,_,h=>h
 |.mx,x,_,h=>h
 |.ptr k L off,x,hm,h=>by
  obtain⟨g,loc,h1,h2,h3⟩:=h;cases h1;exact⟨f',loc,rfl,hm k (by simp[V.refs]) _ _ h2,h3⟩
 |.vp cs off,x,_,h=>h
 |.gg,x,_,h=>h
 |.sl sz k L o n,x,hm,h=>by
  obtain⟨g,loc,h1,h2,h3⟩:=h;cases h1;exact⟨f',loc,rfl,hm k (by simp[V.refs]) _ _ h2,h3⟩
 |.vs sz els,x,_,h=>h
 |.fn g first caps,x,hm,h=>by
  obtain⟨l1,l2,h1,h2,h3⟩:=h;exact⟨l1,l2,h1,zC.fM σ first l1 (λk hk=>hm k (by simp[V.refs,hk])) h2,zC.fM σ caps l2 (λk hk=>hm k (by simp[V.refs,hk])) h3⟩
 |.nd,x,_,h=>h
 |.agg cs,x,hm,h=>by
  obtain⟨l,h1,h2⟩:=h;exact⟨l,h1,zC.fM σ cs l (λk hk=>hm k (by simpa[V.refs]using hk)) h2⟩
 |.iN xs,x,hm,h=>by
  obtain⟨l,h1,h2⟩:=h;exact⟨l,h1,zC.fM σ xs l (λk hk=>hm k (by simpa[V.refs]using hk)) h2⟩
 |.mD,x,_,h=>h
 |.mp k,x,hm,h=>by
  obtain⟨g,loc,h1,h2,h3⟩:=h;cases h1;exact⟨f',loc,rfl,hm k (by simp[V.refs]) _ _ h2,h3⟩
 |.nM,x,_,h=>h
 |.mP t v,x,hm,h=>by
  obtain⟨y,h1,h2⟩:=h;exact⟨y,h1,aT.fM σ v y (λk hk=>hm k (by simpa[V.refs]using hk)) h2⟩
 |.gv k R,x,hm,h=>by
  obtain⟨g,h1,h2⟩:=h;cases h1;exact⟨f',rfl,R.mono _ _ _ (hm k (by simp[V.refs])) h2⟩
 |.pv R,x,hm,h=>h
def zC.fM{f f':M}(σ:Nat->Nat):∀(vs:List V)(l:List bx),(∀k∈wh vs,∀L loc,f k L=aY loc->f' (σ k) L=aY loc)->zC (aY f) Z vs l->zC (aY f') Z (rr σ vs) l
 |[],l,_,h=>h
 |v::vs,l,hm,h=>by obtain⟨x,xs,h1,h2,h3⟩:=h;exact⟨x,xs,h1,aT.fM σ v x (λk hk=>hm k (by simp[wh,hk])) h2,zC.fM σ vs xs (λk hk=>hm k (by simp[wh,hk])) h3⟩
end
mutual
def V.TP:∀v:V,v.fM id=v
 |.undef|.no|.int ..|.bool ..|.str ..|.mx|.ptr ..|.vp ..|.gg|.sl ..|.vs ..|.nd|.mD|.mp ..|.nM|.gv ..|.pv ..=>rfl
 |.fn g first caps=>by simp only[V.fM,Q6 first,Q6 caps]
 |.agg cs=>by simp only[V.fM,Q6 cs]
 |.iN xs=>by simp only[V.fM,Q6 xs]
 |.mP t v=>by simp only[V.fM,V.TP v]
def Q6:∀vs:List V,rr id vs=vs
 |[]=>rfl
 |v::vs=>by simp only[rr,V.TP v,Q6 vs]
end
def aT.swap{f f':M}{v:V}{x:bx}(hm:∀k∈v.refs,∀L loc,f k L=aY loc->f' k L=aY loc)(h:aT (aY f) Z v x):aT (aY f') Z v x:=by
 have:=aT.fM (f:=f) (f':=f') id v x hm h
 rwa [V.TP]at this
def zC.swap{f f':M}{vs:List V}{l:List bx}(hm:∀k∈wh vs,∀L loc,f k L=aY loc->f' k L=aY loc)(h:zC (aY f) Z vs l):zC (aY f') Z vs l:=by
 have:=zC.fM (f:=f) (f':=f') id vs l hm h
 rwa [Q6]at this
def aT.BU{v:V}{x:bx}(h:aT bg Z v x):aT m Z v x:=aT.up (λ_ _ h=>h) (λf hf=>by cases hf) h
def zC.BU{vs:List V}{l:List bx}(h:zC bg Z vs l):zC m Z vs l:=zC.up (λ_ _ h=>h) (λf hf=>by cases hf) h
def zC.length:∀{vs:List V}{l:List bx},zC m Z vs l->l.length=vs.length
 |[],l,h=>by cases h;rfl
 |v::vs,l,h=>by obtain⟨x,xs,rfl,_,h3⟩:=h;simp[zC.length h3]
def zC.get:∀{vs:List V}{l:List bx},zC m Z vs l->∀{i:Nat}{v:V},vs[i]?=aY v->∃x,l[i]?=aY x/\aT m Z v x
 |[],l,_,i,v,hv=>by simp at hv
 |u::vs,l,h,i,v,hv=>by
  obtain⟨x,xs,rfl,h2,h3⟩:=h
  cases i with
  |zero=>simp at hv;subst hv;exact⟨x,rfl,h2⟩
  |succ i=>exact zC.get h3 (i:=i) (by simpa using hv)
def zC.po:∀{vs:List V}{l:List bx},l.length=vs.length->(∀(i:Nat)(v:V)(x:bx),vs[i]?=aY v->l[i]?=aY x->aT m Z v x)->zC m Z vs l
 |[],l,hl,_=>cy (by simpa using hl)
 |v::vs,[],hl,_=>by simp at hl
 |v::vs,x::xs,hl,h=>⟨x,xs,rfl,h 0 v x rfl rfl,zC.po (by simpa using hl) (λi u y hu hy=>h (i+1) u y (by simpa using hu) (by simpa using hy))⟩
def zC.append:∀{vs us:List V}{l k:List bx},zC m Z vs l->zC m Z us k->zC m Z (vs++us) (l++k)
 |[],us,l,k,h,h'=>by cases h;exact h'
 |v::vs,us,l,k,h,h'=>by obtain⟨x,xs,rfl,h2,h3⟩:=h;exact⟨x,xs++k,rfl,h2,zC.append h3 h'⟩
def zC.take{vs:List V}{l:List bx}(n:Nat)(h:zC m Z vs l):zC m Z (vs.take n) (l.take n):=by
 refine zC.po (by simp[h.length]) λi v x hv hx=>?_
 rw[cj]at hv hx;split at hv
 .rename_i ib;rw[aO ib]at hx;obtain⟨y,hy,hr⟩:=h.get hv;rw[hx]at hy;cases hy;exact hr
 .cases hv
def zC.drop{vs:List V}{l:List bx}(n:Nat)(h:zC m Z vs l):zC m Z (vs.drop n) (l.drop n):=by
 refine zC.po (by simp[h.length]) λi v x hv hx=>?_
 rw[cW]at hv hx;obtain⟨y,hy,hr⟩:=h.get hv;rw[hx]at hy;cases hy;exact hr
def qV.get{a:Addr}:∀{vs:List V}{j:Nat},qV Z a j vs->∀{i:Nat}{v:V},vs[i]?=aY v->∃x,Z (a.add (j+i))=aY x/\aT bg Z v x
 |[],j,_,i,v,hv=>by simp at hv
 |u::vs,j,h,i,v,hv=>by
  obtain⟨⟨x,h1,h2⟩,h3⟩:=h
  cases i with
  |zero=>simp at hv;subst hv;exact⟨x,h1,h2⟩
  |succ i =>obtain⟨y,h4,h5⟩:=qV.get h3 (i:=i) (v:=v) (by simpa using hv);exact⟨y,by rw[<- h4];congr 2;omega,h5⟩
def qV.po{a:Addr}:∀{vs:List V}{j:Nat},(∀(i:Nat)(v:V),vs[i]?=aY v->∃x,Z (a.add (j+i))=aY x/\aT bg Z v x)->qV Z a j vs
 |[],j,_=>trivial
 |u::vs,j,h=>⟨h 0 u rfl,qV.po λi v hv=>by
   obtain⟨x,h1,h2⟩:=h (i+1) v (by simpa using hv)
   exact⟨x,by rw[<- h1];congr 2;omega,h2⟩⟩
def xq.get{a:Addr}{sz:Nat}:∀{els:List (List V)}{j:Nat},xq Z a sz j els->∀{i:Nat}{cs:List V},els[i]?=aY cs->cs.length=sz/\qV Z (a.add ((j+i)*sz)) 0 cs
 |[],j,_,i,v,hv=>by simp at hv
 |u::vs,j,h,i,v,hv=>by
  obtain⟨⟨h1,h2⟩,h3⟩:=h
  cases i with
  |zero=>simp at hv;subst hv;exact⟨h1,h2⟩
  |succ i =>
   have:=xq.get h3 (i:=i) (cs:=v) (by simpa using hv);rw[show j+1+i=j+(i+1) by omega]at this;exact this
def xq.po{a:Addr}{sz:Nat}:∀{els:List (List V)}{j:Nat},(∀(i:Nat)(cs:List V),els[i]?=aY cs->cs.length=sz/\qV Z (a.add ((j+i)*sz)) 0 cs)->xq Z a sz j els
 |[],j,_=>trivial
 |u::vs,j,h=>⟨h 0 u rfl,xq.po λi v hv=>by
   have:=h (i+1) v (by simpa using hv);rw[show j+(i+1)=j+1+i by omega]at this
   exact this⟩
end
mutual
/-- What holds no name needs no map. -/
def aT.flat{f:M}{Z:ZM}:∀(v:V)(x:bx),v.refs=[]->aT (aY f) Z v x->aT bg Z v x
 |.undef,x,_,h=>trivial
 |.no,x,_,h=>h
 |.int k n,x,_,h=>h
 |.bool b,x,_,h=>h
 |.str l,x,_,h=>h
 |.mx,x,_,h=>h
 |.ptr k L off,x,hr,h=>by cases hr
 |.vp cs off,x,_,h=>h
 |.gg,x,_,h=>h
 |.sl sz k L o n,x,hr,h=>by cases hr
 |.vs sz els,x,_,h=>h
 |.fn g first caps,x,hr,h=>by
  obtain⟨l1,l2,h1,h2,h3⟩:=h;obtain⟨B7,tj⟩:=eG.1 hr;exact⟨l1,l2,h1,zC.flat first l1 B7 h2,zC.flat caps l2 tj h3⟩
 |.nd,x,_,h=>h
 |.agg cs,x,hr,h=>by
  obtain⟨l,h1,h2⟩:=h;exact⟨l,h1,zC.flat cs l hr h2⟩
 |.iN xs,x,hr,h=>by
  obtain⟨l,h1,h2⟩:=h;exact⟨l,h1,zC.flat xs l hr h2⟩
 |.mD,x,_,h=>h
 |.mp k,x,hr,h=>by cases hr
 |.nM,x,_,h=>h
 |.mP t v,x,hr,h=>by
  obtain⟨y,h1,h2⟩:=h;exact⟨y,h1,aT.flat v y hr h2⟩
 |.gv k R,x,hr,h=>by cases hr
 |.pv R,x,hr,h=>h
def zC.flat{f:M}{Z:ZM}:∀(vs:List V)(l:List bx),wh vs=[]->zC (aY f) Z vs l->zC bg Z vs l
 |[],l,_,h=>h
 |v::vs,l,hr,h=>by obtain⟨x,xs,h1,h2,h3⟩:=h;obtain⟨B7,tj⟩:=eG.1 hr;exact⟨x,xs,h1,aT.flat v x B7 h2,zC.flat vs xs tj h3⟩
end
def V.one:V->Bool
 |.undef|.no|.agg _|.iN _=>bf
 |_=>bh
def aT.one{m:Option M}{Z:ZM}{v:V}{x:bx}(h:aT m Z v x)(h1:v.one=bh):x.oneCell'=bh:=by
 cases v<;>simp only[V.one,cI]at h1<;>simp only[aT]at h
 case int=>subst h;rfl
 case bool=>subst h;rfl
 case str=>subst h;rfl
 case mx=>subst h;rfl
 case ptr=>obtain⟨_,_,_,_,rfl⟩:=h;rfl
 case vp=>obtain⟨_,rfl,_⟩:=h;rfl
 case gg=>subst h;rfl
 case sl=>obtain⟨_,_,_,_,_,_,rfl|⟨_,_,rfl⟩|⟨_,_,_,_,rfl,_⟩⟩:=h<;>rfl
 case vs=>obtain⟨_,_,rfl,_⟩:=h;rfl
 case fn=>obtain⟨_,_,rfl,_⟩:=h;rfl
 case nd=>subst h;rfl
 case mD=>subst h;rfl
 case mp=>obtain⟨_,_,_,_,rfl⟩:=h;rfl
 case nM=>subst h;rfl
 case mP=>obtain⟨_,rfl,_⟩:=h;rfl
 case gv k R=>obtain⟨_,_,h⟩:=h;first|exact(R.one _ _ h).1|exact(R.one _ _ h).2
 case pv R=>first|exact(R.one _ _ h).1|exact(R.one _ _ h).2
def V.cells:V->List V
 |.agg cs=>cs
 |v=>[v]
def V.plain:V->Bool
 |.undef|.no=>bf
 |_=>bh
def aT.cells{m:Option M}{Z:ZM}{v:V}{x:bx}(h:aT m Z v x)(hp:v.plain=bh):zC m Z v.cells x.cells.toList:=by
 cases v<;>simp only[V.plain,cI]at hp<;>simp only[V.cells]
 case agg=>obtain⟨l,rfl,h2⟩:=h;simpa[Value.cells]using h2
 case iN=>obtain⟨l,rfl,h2⟩:=id h;exact⟨_,[],rfl,h,rfl⟩
 all_goals
  refine⟨x,[],?_,h,rfl⟩;simp only[aT]at h
 case int=>subst h;rfl
 case bool=>subst h;rfl
 case str=>subst h;rfl
 case mx=>subst h;rfl
 case ptr=>obtain⟨_,_,_,_,rfl⟩:=h;rfl
 case vp=>obtain⟨_,rfl,_⟩:=h;rfl
 case gg=>subst h;rfl
 case sl=>obtain⟨_,_,_,_,_,_,rfl|⟨_,_,rfl⟩|⟨_,_,_,_,rfl,_⟩⟩:=h<;>rfl
 case vs=>obtain⟨_,_,rfl,_⟩:=h;rfl
 case fn=>obtain⟨_,_,rfl,_⟩:=h;rfl
 case nd=>subst h;rfl
 case mD=>subst h;rfl
 case mp=>obtain⟨_,_,_,_,rfl⟩:=h;rfl
 case nM=>subst h;rfl
 case mP=>obtain⟨_,rfl,_⟩:=h;rfl
 case gv k R=>obtain⟨_,_,h⟩:=h;first|exact(R.one _ _ h).1|exact(R.one _ _ h).2
 case pv R=>first|exact(R.one _ _ h).1|exact(R.one _ _ h).2
end Go.EV
namespace Go.lG
open Go Go.RowKit
section
variable{P:bo}{r:Option Nat}{N:Nat}{Q:Wy}{ρ:zS}{ds:List cr}{w W0:bF}{L:List Own}
variable{all rest:List Oper}{jl:Nat}{S:bF->Prop}{K:zS->List cr->bF->Prop}
variable{dst:Option Tmp}{ty:bK}{pos:String}{aft:Array Edge}{gd:Option (Nat×Bool)}
section
variable{α:Type}{enc:α->List bx}{k:Nat}{v:bx}{l:List α}
end
def zsh (P : bo) (f : FuncId) : Bool := match P.funcs[f]? with | some fn => !(fn.name == "runtime.NumGoroutine") && !fn.body.isNone | none => bf
def zd{f:FuncId}(h:zsh P f=bh):zb P f:=by
 unfold zsh at h;split at h
 .rename_i fn hf;simp only[bn,bX]at h;exact⟨fn,hf,h.1,h.2⟩
 .cases h
end
section
variable{P:bo}{r:Option Nat}{N:Nat}{Q:Wy}{ρ:zS}{ds:List cr}{w W0:bF}{L:List Own}
variable{all rest:List Oper}{ty:bK}{pos:String}{aft:Array Edge}{gd:Option (Nat×Bool)}
end
def oG(W:bF)(l:Nat)(o:Obj):W.grownBy (W.putObj l o) (aY l):=⟨rfl,rfl,rfl,ae,λ_ _ hk=>World.putObj_heap_other (λe=>hk (by rw[e]))⟩
def mark(D:Nat):cr:={ target:=.collected D,args:=#[] }
def Fs(ρ:zS):List (Nat×bx)->zS
 |[]=>ρ
 |(d,v)::r=>Fs (l3 ρ d v) r
def zga{n:Nat}{P:bo}{l:Nat}{f:FuncId}{tmps:Array bx}{assign body:Code}{w:bF}{R:Ending->bF->Prop}(r:Option Nat)(h:RoundIn Fence.wide n P l f tmps assign body w R)(m:Nat):
  RoundIn (Fw r) m P l f tmps assign body w R:=⟨trivial,λc cs _=>h.2 c cs (room_wide _)⟩
section
variable{P:bo}{N:Nat}{Q:Wy}{ρ:zS}{ds:List cr}{w:bF}
def zmx{a:Act}:∀(l:List (Nat×bx))(tmps:Array bx)(ρ:zS),(∀p∈l,p.1<N)->tmps.size=N->(∀t,tmps.getD t undef=ρ t) ->
  (l.foldl (λt p=>t.setIfInBounds p.1 p.2) tmps).size=N/\∀t,(l.foldl (λt p=>t.setIfInBounds p.1 p.2) tmps).getD t undef=Fs ρ l t
 |[],tmps,ρ,_,hs,hg=>⟨hs,hg⟩
 |(d,v)::l,tmps,ρ,hl,hs,hg=>by
  have hf:pV N [] (Act.mk tmps []) ρ:=⟨hs,rfl,hg⟩
  have:=hf.put (hl (d,v) ak) v;exact zmx (a:=a) l _ _ (λp hp=>hl p (iO _ hp)) this.size this.get
end
def FZ:List cr->bF->bF->Prop
 |[],w,w'=>w'=w
 |d::ds,w,w'=>∃D,d=mark D/\w.heap[D]?=aY (.deferred (aY []))/\FZ ds (w.putObj D (.deferred bg)) w'
section
variable{P:bo}{N:Nat}{Q:Wy}{ρ:zS}{ds:List cr}{w W0:bF}{L:List Own}
def vb{fn:Func}{tmps:Array bx}{R:Ending->bF->Prop}{v:bx}:∀(ds:List cr)(w w':bF),FZ ds w w'->(results fn tmps).run P w'=.ok v w'->R (.returned v) w'->LeavesInM Fence.wide 0 P fn tmps R ds .returning w
 |[],w,w',ht,hr,hR=>by
  subst ht;exact⟨v,hr,hR⟩
 |d::ds,w,w',⟨D,hd,hh,ht⟩,hr,hR=>by subst hd;exact⟨ae,.inl ⟨D,_,rfl,run_takeDeferred hh,vb ds _ w' ht hr hR⟩⟩
def Ft(P:bo)(fn:Func)(R:bx->bF->Prop):Wy
 |.normal,ρ,ds,w|.ret,ρ,ds,w=>∃w' v,FZ ds w w'/\(∀tmps:Array bx,(∀t,tmps.getD t undef=ρ t)->(results fn tmps).run P w'=.ok v w')/\R v w'
 |_,_,_,_=>False
def V8{f:FuncId}{fn:Func}{c:Code}{args:List bx}{R:bx->bF->Prop}(hf:P.funcs[f]?=aY fn)(hb:fn.body=aY c)(hN:fn.ntmps=N)(ha:cm args.length N=bh)
  (h:Wp P bg N c (Ft P fn R) (kD args) [] w):Calls P f args.toArray w λe w'=>∃v,e=.returned v/\R v w':=by
 have ha:=mi ha;refine(callsIn_wide (n:=0)).1 (callsIn_of_wp_marks hf hb trivial ?_)
 refine wpIn_mono (h _ 0 ⟨?_,rfl,λt=>?_⟩) λe a w' hq=>?_
 .simp;omega
 .simp only[kD,cT,bB];rw[gX];split
  .simp
  .rename_i ib;simp only[cS]at ib;rw[dQ ab];simp only[cS];rw[ez];split<;>rfl
 .obtain⟨ρ',mL,nR,hq⟩:=hq
  cases e with
  |normal =>
   obtain⟨w2,v,ht,hr,hR⟩:=hq;exact vb _ _ _ (by rw[nR.defs];exact ht) (hr _ nR.get) ⟨v,rfl,hR⟩
  |ret =>
   obtain⟨w2,v,ht,hr,hR⟩:=hq;exact vb _ _ _ (by rw[nR.defs];exact ht) (hr _ nR.get) ⟨v,rfl,hR⟩
  |panic c=>exact hq.elim
  |exit id=>exact hq.elim
  |goto l=>exact hq.elim
  |outgrown=>exact hq.elim
def zx9{fn:Func}{R:bx->bF->Prop}(h:Ft P fn R .ret ρ ds w):Ft P fn R .normal ρ ds w:=h
variable{r:Option Nat}{all rest:List Oper}{ty:bK}{pos:String}{aft:Array Edge}{gd:Option (Nat×Bool)}
def zgb{d:Nat}{x:bI}{l:List bI}{ts:Array bK}{k:Nat}(vs:List bx){R:Ending->bF->Prop}(hN:cm (d+1) N=bh)
  (hw:wanted all ρ ⟨aY d,.call ⟨.value x,l.toArray,ts⟩,ty,pos,aft,gd⟩=bh) (hx:ev ρ x=.func (.yield k) #[] #[]) (ha:l.map (ev ρ)=vs) (hy:YieldAt Fence.wide 0 P k vs.toArray w R)
  (h:∀e w',R e w'->∃v,e=.returned v/\nH P r N all Q rest (l3 ρ d v) ds w'):
  nH P r N all Q (⟨aY d,.call ⟨.value x,l.toArray,ts⟩,ty,pos,aft,gd⟩::rest) ρ ds w:=by
 intro a n hf;have rH:=(hf.wanted all _).trans hw;simp only[wpListIn,rH,if_true];refine⟨λ_ _=>trivial,?_⟩;obtain⟨fn,tmps,assign,body,mO,Bj⟩:=hy
 have hr:(bP (ev ρ) ⟨aY d,.call ⟨.value x,l.toArray,ts⟩,ty,pos,aft,gd⟩).run P w=.ok (.round k fn tmps assign body) w:=by subst ha;simp[bP,resolve,hx,Deferred.ofValue,invoke]at mO ⊢;exact mO
 rw[AJ rfl,hf.eval,hr,Oper.uponIn_round];refine⟨λhx=>by simp[Fw]at hx,(zga r Bj _).mono λe tM hR=>?_⟩;obtain⟨v,rfl,hk⟩:=h e tM hR;exact hk _ n (hf.put (mi hN) v)
end
end Go.lG
namespace Go.EV
open Go Go.RowKit Go.lG
def Fu:Go.Obj->Bool|.loop _|.deferred _=>bh|_=>bf
structure Ic where
 holds:(Nat->Option (Nat×Nat))->ZM->bF->Prop
 nZ:(Nat->Option (Nat×Nat))->Nat->Prop
 some_:∀mk b,nZ mk b->∃j c,mk j=aY (b,c)/\c≠0
 own:∀mk Z w b,holds mk Z w->nZ mk b->∃ob,w.heap[b]?=aY ob/\Fu ob=bf
 keep:∀mk Z Z' w w',holds mk Z w->(∀a x,Z a=aY x->Z' a=aY x)->(∀b,nZ mk b->w'.heap[b]?=w.heap[b]?/\∀a x,Z' a=aY x->a.block=b->Z a=aY x)->holds mk Z' w'
inductive Obj where
 |box (t:bK) (cs:List V)
 |row (t:bK) (sz fz:Nat) (els:List (List V))
 |map (l:List (V×V))
 |n_ (g:Nat) (ob:Go.Obj) (cs:List V)
 |nest (t e sz:Nat) (pd:Option Nat) (ls:List (List (List V)))
 |gen (G:Ic)
 deriving Inhabited
def code(i n:Nat):Nat:=2 ^ i*(2*n+1)
def K5(i n:Nat):0<code i n:=Nat.mul_pos (Nat.pow_pos ab) ab
def JF:∀{i j n m:Nat},code i n=code j m->i=j/\n=m
 |0,0,n,m,h=>by simp only[code,iD,eT]at h;exact⟨rfl,ab⟩
 |0,j+1,n,m,h=>by
  simp only[code,iD,eT,iH,gR _ 2,il]at h;omega
 |i+1,0,n,m,h=>by
  simp only[code,iD,eT,iH,gR _ 2,il]at h;omega
 |i+1,j+1,n,m,h=>by
  have:code i n=code j m:=by simp only[code,iH,gR _ 2,il]at h ⊢;omega
  obtain⟨h1,h2⟩:=JF this;exact⟨ab,h2⟩
def Obj.ver:Obj->Nat|.row _ _ _ els=>els.length|_=>0
abbrev aw:=List (Nat×Obj)
def keys(H:aw):List Nat:=H.map (·.1)
def oi(m:M)(p:Nat×Obj):Option Nat:=(m p.1 p.2.ver).bind λloc=>if loc.2=0 then bg else aY loc.1
def Ep(mk:Nat->Option (Nat×Nat))(ls:List (List (List V)))(b:Nat):Prop:=∃j c,mk j=aY (b,c)/\c≠0/\(j=0∨∃i l,ls[i]?=aY l/\j=code i l.length)
def gM(m:M)(p:Nat×Obj)(b:Nat):Prop:=match p.2 with
 |.nest _ _ _ _ ls=>Ep (m p.1) ls b
 |.gen G=>G.nZ (m p.1) b
 |_=>oi m p=aY b
def zgc{m m':M}{p:Nat×Obj}(h:m' p.1=m p.1):gM m' p=gM m p:=by
 obtain⟨k,o⟩:=p;simp only at h
 funext b
 cases o<;>simp only[gM,oi,h]
def zya{m:M}{p:Nat×Obj}{b:Nat}(h:gM m p b):∃j c,m p.1 j=aY (b,c)/\c≠0:=by
 obtain⟨k,o⟩:=p
 have one:oi m (k,o)=aY b->∃j c,m k j=aY (b,c)/\c≠0:=λh=>by
  unfold oi at h;obtain⟨loc,e1,e2⟩:=Option.bind_eq_some_iff.1 h;split at e2
  .cases e2
  .rename_i hc;cases e2;exact⟨_,loc.2,e1,hc⟩
 cases o with
 |nest t e sz pd ls=>obtain⟨j,c,e1,e2,_⟩:=h;exact⟨j,c,e1,e2⟩
 |gen G=>exact G.some_ _ _ h
 |box t cs=>exact one h
 |row t sz fz els=>exact one h
 |map l=>exact one h
 |n_ g ob cs=>exact one h
def aw.get:aw->Nat->Option Obj
 |[],_=>bg
 |(k,o)::r,j=>bif bm j k then aY o else aw.get r j
def s4(Z:ZM):List (V×V)->List MapEntry->Prop
 |[],l=>l=[]
 |(k,v)::r,l=>∃e es,l=e::es/\aT bg Z k e.key/\aT bg Z v e.val/\s4 Z r es
def RV(mk:Nat->Option (Nat×Nat))(Z:ZM)(w:bF)(e sz i:Nat)(l:List (List V))(h:Option bx):Prop:=
 (l=[]/\h=aY (.slice bg 0 0)/\mk (code i 0)=bg)∨∃(b cap:Nat)(cur:Array bx)(fr:Nat×Nat),h=aY (.slice (aY ⟨b,0,bg⟩) l.length cap)/\mk (code i l.length)=aY (b,cap)/\0<l.length/\w.heap[b]?=aY (.cells cur e fr)/\fr.2=0/\l.length<=cap/\cap<=maxLen /\
  cur.size=cap*sz/\zC bg Z l.flatten (cur.toList.take (l.length*sz))/\(∀x∈l,x.length=sz)/\∀a x,Z a=aY x->a.block≠b
def xD(mk:Nat->Option (Nat×Nat))(Z:ZM)(w:bF)(t e sz:Nat)(pd:Option Nat)(ls:List (List (List V))):Prop:=
 (ls=[]/\pd=aY 0/\∀b c,mk 0=aY (b,c)->c≠0->∃cur u fr,w.heap[b]?=aY (.cells cur u fr))∨0<sz/\((ls=[]/\(∃b,mk 0=aY (b,0))/\∀L loc,mk L=aY loc->L=0)∨∃(b cap:Nat)(cur:Array bx)(fr:Nat×Nat),mk 0=aY (b,cap)/\0<cap/\w.heap[b]?=aY (.cells cur t fr)/\fr.2=0/\cur.size=cap/\ls.length=cap/\cap<=maxLen/\(∀a x,Z a=aY x->a.block≠b) /\
  (∀i l,ls[i]?=aY l->∃h,RV mk Z w e sz i l (aY h)/\(pd≠aY i->cur[i]?=aY h)) /\
  (∀j1 j2 c1 c2 g,mk j1=aY (g,c1)->mk j2=aY (g,c2)->(j1=0∨∃i l,ls[i]?=aY l/\j1=code i l.length)->(j2=0∨∃i l,ls[i]?=aY l/\j2=code i l.length)->c1≠0->c2≠0->j1=j2) /\
  ∀L loc,mk L=aY loc->L=0∨∃i n l,ls[i]?=aY l/\n<=l.length/\L=code i n)
def Holds(m:M)(Z:ZM)(w:bF)(k:Nat):Obj->Prop
 |.box t cs=>∃(b:Nat)(cur:Array bx),m k 0=aY (b,1)/\w.heap[b]?=aY (.cells cur t (0,0))/\zC (aY m) Z cs cur.toList/\(∀a x,Z a=aY x->a.block≠b)/\(∀L loc,m k L=aY loc->L<=0)
 |.row t sz fz els=>(0<sz/\els=[]/\fz=0/\(∃b,m k 0=aY (b,0))/\(∀L loc,m k L=aY loc->L<=0))∨∃(b cap:Nat)(cur:Array bx)(fr:Nat×Nat),m k els.length=aY (b,cap)/\0<cap/\w.heap[b]?=aY (.cells cur t fr)/\els.length<=cap/\cap<=maxLen/\cur.size=cap*sz/\0<sz /\
   zC bg Z els.flatten (cur.toList.take (els.length*sz))/\(∀e∈els,e.length=sz)/\fr.2<=fz*sz/\fz<=els.length/\(∀a x,Z a=aY x->a.block=b->a.off<fz*sz)/\(∀L loc,m k L=aY loc->L<=els.length)/\(∀(off:Nat)(x:bx),off<fz*sz->cur[off]?=aY x->Z ⟨b,off,bg⟩=aY x)
 |.map l=>∃(b:Nat)(es:Array MapEntry)(clock:Nat),m k 0=aY (b,1)/\w.heap[b]?=aY (.map es clock)/\s4 Z l es.toList/\(es.toList.Pairwise λx y=>x.born<y.born)/\(∀e∈es.toList,e.born<clock)/\(∀a x,Z a=aY x->a.block≠b)/\(∃L0,∀L loc,m k L=aY loc->L<=L0)
 |.n_ g ob cs=>m k 0=aY (g,1)/\(w.heap[g]?=aY ob/\∃cur u fr,ob=.cells cur u fr/\zC bg Z cs cur.toList)/\∀L loc,m k L=aY loc->L<=0
 |.nest t e sz pd ls=>xD (m k) Z w t e sz pd ls
 |.gen G=>G.holds (m k) Z w
def xD.own{mk:Nat->Option (Nat×Nat)}{Z:ZM}{w:bF}{t e sz:Nat}{pd:Option Nat}{ls:List (List (List V))}(h:xD mk Z w t e sz pd ls){b:Nat}(hb:Ep mk ls b):∃cur u fr,w.heap[b]?=aY (.cells cur u fr):=by
 obtain⟨rfl,_,hd⟩|⟨_,⟨rfl,⟨b0,h1⟩,_⟩|⟨b0,cap,cur,fr,h1,h2,h3,_,_,_,_,_,h9,_⟩⟩:=h
 .obtain⟨j,c,e1,e2,rfl|⟨i,l,e3,rfl⟩⟩:=hb
  .exact hd b c e1 e2
  .simp at e3
 .obtain⟨j,c,e1,e2,rfl|⟨i,l,e3,rfl⟩⟩:=hb
  .rw[h1]at e1;cases e1;exact aQ rfl e2
  .simp at e3
 .obtain⟨j,c,e1,e2,rfl|⟨i,l,e3,rfl⟩⟩:=hb
  .rw[h1]at e1;cases e1;exact⟨_,_,_,h3⟩
  .obtain⟨hd,hI,_⟩:=h9 i l e3
   rcases hI with⟨rfl,_,e4⟩|⟨b',cap',cur',fr',_,g2,_,g4,_⟩
   .rw[dw,e4]at e1;cases e1
   .rw[g2]at e1;cases e1;exact⟨_,_,_,g4⟩
def xD.keep{mk:Nat->Option (Nat×Nat)}{Z Z':ZM}{w w':bF}{t e sz:Nat}{pd:Option Nat}{ls:List (List (List V))}(h:xD mk Z w t e sz pd ls)(hZ:∀a x,Z a=aY x->Z' a=aY x)
  (hw:∀b,Ep mk ls b->w'.heap[b]?=w.heap[b]?/\∀a x,Z' a=aY x->a.block=b->Z a=aY x):xD mk Z' w' t e sz pd ls:=by
 obtain⟨rfl,rfl,hd⟩|⟨h0,hh|⟨b0,cap,cur,fr,h1,h2,h3,h4,h5,h6,h7,h8,h9,pW,pX⟩⟩:=h
 .refine .inl ⟨rfl,rfl,λb c e1 e2=>?_⟩;obtain⟨cur,u,fr,h3⟩:=hd b c e1 e2;exact⟨cur,u,fr,(hw b ⟨0,c,e1,e2,.inl rfl⟩).1.trans h3⟩
 .exact .inr ⟨h0,.inl hh⟩
 .obtain⟨hw0,tk⟩:=hw b0 ⟨0,cap,h1,ab,.inl rfl⟩;refine .inr ⟨h0,.inr ⟨b0,cap,cur,fr,h1,h2,hw0.trans h3,h4,h5,h6,h7,λa x ha e=>h8 a x (tk a x ha e) e,λi l hl=>?_,pW,pX⟩⟩;obtain⟨hd,hI,hc⟩:=h9 i l hl;refine⟨hd,?_,hc⟩
  rcases hI with hh|⟨b',cap',cur',fr',g1,g2,g3,g4,g5,g6,g7,g8,g9,g10,g11⟩
  .exact .inl hh
  .obtain⟨OY,Hw⟩:=hw b' ⟨_,cap',g2,ab,.inr ⟨i,l,hl,rfl⟩⟩;exact .inr ⟨b',cap',cur',fr',g1,g2,g3,OY.trans g4,g5,g6,g7,g8,g9.up hZ (λf e=>by cases e),g10,λa x ha e=>g11 a x (Hw a x ha e) e⟩
structure w8(m:M)(Z:ZM)(H:aw)(w:bF):Prop where
 frozen:∀a x,Z a=aY x->w.cell? a=aY x
 holds:∀p∈H,Holds m Z w p.1 p.2
 nodup:(keys H).Nodup
 p_:∀p∈H,∀q∈H,∀b,gM m p b->gM m q b->p.1=q.1
structure Step(m:M)(Z:ZM)(F:aw)(w:bF)(m':M)(Z':ZM)(F':aw)(w':bF):Prop where
 iW:w8 m' Z' F' w'
 pM:∀k L loc,m k L=aY loc->m' k L=aY loc
 o4:∀a x,Z a=aY x->Z' a=aY x
 os:w'.os=w.os
 tape:w'.tape=w.tape
 output:w'.output=w.output
 size:w.heap.size<=w'.heap.size
 frame:∀b,b<w.heap.size->(∀p∈F,¬gM m p b)->w'.heap[b]?=w.heap[b]?
 keep:∀k∈keys F,k∈keys F'
 sT:∀k,k ∉ keys F'->m' k=m k
 nZ:∀p∈F',∀b,gM m' p b->w.heap.size<=b∨∃q∈F,gM m q b
 su:∀a x,Z' a=aY x->Z a=aY x∨w.heap.size<=a.block∨∃q∈F,gM m q a.block
def Holds.gM{m:M}{Z:ZM}{w:bF}{k:Nat}{o:Obj}(h:Holds m Z w k o):∀b,EV.gM m (k,o) b->b<w.heap.size:=by
 intro b' mf
 cases o with
 |box t cs =>
  obtain⟨b,cur,h1,h2,_⟩:=h;simp[EV.gM,EV.oi,Obj.ver,h1]at mf;subst mf;exact(bw.1 h2).1
 |row t sz fz els =>
  rcases h with⟨_,rfl,_,⟨b,h1⟩,_⟩|⟨b,cap,cur,fr,h1,h0,h2,_⟩
  .simp[EV.gM,EV.oi,Obj.ver,h1]at mf
  .have:cap≠0:=ab;simp[EV.gM,EV.oi,Obj.ver,h1,this]at mf;subst mf;exact(bw.1 h2).1
 |map l =>
  obtain⟨b,es,clock,h1,h2,_⟩:=h;simp[EV.gM,EV.oi,Obj.ver,h1]at mf;subst mf;exact(bw.1 h2).1
 |n_ g ob cs =>
  obtain⟨h1,⟨h2,_⟩,_⟩:=h;simp[EV.gM,EV.oi,Obj.ver,h1]at mf;subst mf;exact(bw.1 h2).1
 |nest t e sz pd ls =>
  obtain⟨cur,u,fr,h2⟩:=xD.own h mf;exact(bw.1 h2).1
 |gen G =>obtain⟨ob,h2,_⟩:=G.own _ _ _ _ h mf;exact(bw.1 h2).1
def Holds.TI{m:M}{Z:ZM}{w:bF}{k:Nat}{o:Obj}(h:Holds m Z w k o):∀b,EV.gM m (k,o) b->∃ob,w.heap[b]?=aY ob/\Fu ob=bf:=by
 intro b' mf
 cases o with
 |box t cs =>
  obtain⟨b,cur,h1,h2,_⟩:=h;simp[EV.gM,EV.oi,Obj.ver,h1]at mf;subst mf;exact⟨_,h2,rfl⟩
 |row t sz fz els =>
  rcases h with⟨_,rfl,_,⟨b,h1⟩,_⟩|⟨b,cap,cur,fr,h1,h0,h2,_⟩
  .simp[EV.gM,EV.oi,Obj.ver,h1]at mf
  .have:cap≠0:=ab;simp[EV.gM,EV.oi,Obj.ver,h1,this]at mf;subst mf;exact⟨_,h2,rfl⟩
 |map l =>
  obtain⟨b,es,clock,h1,h2,_⟩:=h;simp[EV.gM,EV.oi,Obj.ver,h1]at mf;subst mf;exact⟨_,h2,rfl⟩
 |n_ g ob cs =>
  obtain⟨h1,⟨h2,cur,u,fr,rfl,_⟩,_⟩:=h;simp[EV.gM,EV.oi,Obj.ver,h1]at mf;subst mf;exact⟨_,h2,rfl⟩
 |nest t e sz pd ls =>
  obtain⟨cur,u,fr,h2⟩:=xD.own h mf;exact⟨_,h2,rfl⟩
 |gen G=>exact G.own _ _ _ _ h mf
def s4.up{Z Z':ZM}(hZ:∀a x,Z a=aY x->Z' a=aY x):∀{l:List (V×V)}{es:List MapEntry},s4 Z l es->s4 Z' l es
 |[],_,h=>h
 |(k,v)::r,_,h=>by obtain⟨e,es,h1,h2,h3,h4⟩:=h;exact⟨e,es,h1,h2.up hZ (λf hf=>by cases hf),h3.up hZ (λf hf=>by cases hf),s4.up hZ h4⟩
def Holds.keep{m m':M}{Z Z':ZM}{w w':bF}{k:Nat}{o:Obj}(h:Holds m Z w k o)(hm:∀k L loc,m k L=aY loc->m' k L=aY loc)(hk:m' k=m k)
  (hZ:∀a x,Z a=aY x->Z' a=aY x) (hw:∀b,EV.gM m (k,o) b->w'.heap[b]?=w.heap[b]?/\∀a x,Z' a=aY x->a.block=b->Z a=aY x):Holds m' Z' w' k o:=by
 have hf:∀f,aY m=aY f->∃f',aY m'=aY f'/\∀k L loc,f k L=aY loc->f' k L=aY loc:=λf e=>by cases e;exact⟨m',rfl,hm⟩
 cases o with
 |box t cs =>
  obtain⟨b',cur,h1,h2,h3,h4,h5⟩:=h;obtain⟨hw,hz⟩:=hw b' (by simp[EV.gM,EV.oi,Obj.ver,h1]);exact⟨b',cur,by rw[hk];exact h1,hw.trans h2,h3.up hZ hf,λa x ha e=>h4 a x (hz a x ha e) e,by rw[hk];exact h5⟩
 |row t sz fz els =>
  rcases h with⟨h0,h1,h2,⟨b,h3⟩,h4⟩|⟨b',cap,cur,fr,h1,h0,h2,h3,h4,h5,h6,h7,h8,h9,pW,pX,tG,rE⟩
  .exact .inl ⟨h0,h1,h2,⟨b,by rw[hk];exact h3⟩,by rw[hk];exact h4⟩
  .have:cap≠0:=ab;obtain⟨hw,hz⟩:=hw b' (by simp[EV.gM,EV.oi,Obj.ver,h1,this]);exact .inr ⟨b',cap,cur,fr,by rw[hk];exact h1,h0,hw.trans h2,h3,h4,h5,h6,h7.up hZ (λf e=>by cases e),h8,h9,pW,λa x ha e=>pX a x (hz a x ha e) e,by rw[hk];exact tG,λoff x ho hx=>hZ _ _ (rE off x ho hx)⟩
 |map l =>
  obtain⟨b',es,clock,h1,h2,h3,h4,h5,h6,h7⟩:=h;obtain⟨hw,hz⟩:=hw b' (by simp[EV.gM,EV.oi,Obj.ver,h1]);exact⟨b',es,clock,by rw[hk];exact h1,hw.trans h2,h3.up hZ,h4,h5,λa x ha e=>h6 a x (hz a x ha e) e,by rw[hk];exact h7⟩
 |n_ g ob cs =>
  obtain⟨h1,⟨h2,cur,u,fr,h5,h3⟩,h4⟩:=h;exact⟨by rw[hk];exact h1,⟨(hw g (by simp[EV.gM,EV.oi,Obj.ver,h1])).1.trans h2,cur,u,fr,h5,h3.up hZ (λf e=>by cases e)⟩,by rw[hk];exact h4⟩
 |nest t e sz pd ls =>
  show xD (m' k) Z' w' t e sz pd ls
  rw[hk];exact xD.keep h hZ hw
 |gen G =>
  show G.holds (m' k) Z' w'
  rw[hk];exact G.keep _ _ _ _ _ h hZ hw
section
variable{m m' m2:M}{Z Z' Z2:ZM}{F F' F2 G H:aw}{w w' w2:bF}
def ax{p:Nat×Obj}(h:p∈H):p.1∈keys H:=cG h
def zA:keys (F++G)=keys F++keys G:=by simp[keys]
def w8.left(h:w8 m Z (F++G) w):w8 m Z F w:=
  ⟨h.frozen,λp hp=>h.holds p (bQ _ hp),by have:=h.nodup;rw[zA]at this;exact(cK.1 this).1,
   λp hp q hq b=>h.p_ p (bQ _ hp) q (bQ _ hq) b⟩
def w8.perm(h:w8 m Z F w)(hp:F.Perm F'):w8 m Z F' w:=⟨h.frozen,λp hq=>h.holds p (hp.mem_iff.2 hq),(hp.map _).nodup_iff.1 h.nodup,λp hq q hr=>h.p_ p (hp.mem_iff.2 hq) q (hp.mem_iff.2 hr)⟩
def Kf(h:(keys (F++G)).Nodup){p q:Nat×Obj}(hp:p∈F)(hq:q∈G):p.1≠q.1:=by rw[zA]at h;exact(cK.1 h).2.2 _ (ax hp) _ (ax hq)
def Step.Bk(hs:w8 m Z (F++G) w)(h:Step m Z F w m' Z' F' w')(Bt:∀p∈F',∀q∈G,p.1≠q.1):Step m Z (F++G) w m' Z' (F'++G) w':=by
 have aa1:∀q∈G,∀b,gM m q b->b<w.heap.size/\∀p∈F,¬gM m p b:=λq hq b hb=>by exact⟨(hs.holds q (cq _ hq)).gM b hb,λp hp Fk=>Kf hs.nodup hp hq (hs.p_ p (bQ _ hp) q (cq _ hq) b Fk hb)⟩
 have UL:∀q∈G,m' q.1=m q.1:=λq hq=>h.sT _ λhk=>by obtain⟨p,hp,e⟩:=bL.1 hk;exact Bt p hp q hq e
 have Lp:∀q∈G,gM m' q=gM m q:=λq hq=>zgc (UL q hq)
 have ai9:∀q∈G,Holds m' Z' w' q.1 q.2:=λq hq=>by
  refine(hs.holds q (cq _ hq)).keep h.pM (UL q hq) h.o4 λb h1=>?_
  have h3:=aa1 q hq b h1;refine⟨h.frame b h3.1 h3.2,λa x ha e=>?_⟩
  rcases h.su a x ha with h'|h'|⟨p,hp,Fk⟩
  .exact h'
  .omega
  .rw[e]at Fk;exact aQ Fk (h3.2 p hp)
 refine⟨⟨h.iW.frozen,λp hp=>?_,?_,λp hp q hq b h1 h2=>?_⟩,h.pM,h.o4,h.os,h.tape,h.output,h.size,λb hb hn=>h.frame b hb λp hp=>hn p (bQ _ hp),λk hk=>?_,λk hk=>?_,λp hp b hb=>?_,λa x ha=>?_⟩
 .rcases bJ.1 hp with hp|hp
  .exact h.iW.holds p hp
  .exact ai9 p hp
 .rw[zA];refine cK.2 ⟨h.iW.nodup,?_,λa ha b hb=>?_⟩
  .have:=hs.nodup;rw[zA]at this;exact(cK.1 this).2.1
  .obtain⟨p,hp,rfl⟩:=bL.1 ha;obtain⟨q,hq,rfl⟩:=bL.1 hb;exact Bt p hp q hq
 .have key:∀p∈F',∀q∈G,gM m' p b->gM m' q b->False:=λp hp q hq Fk UZ=>by
   rw[Lp q hq]at UZ;have h3:=aa1 q hq b UZ
   rcases h.nZ p hp b Fk with h'|⟨r,hr,hrb⟩
   .omega
   .exact h3.2 r hr hrb
  rcases bJ.1 hp with hp|hp<;>rcases bJ.1 hq with hq|hq
  .exact h.iW.p_ p hp q hq b h1 h2
  .exact(key p hp q hq h1 h2).elim
  .exact(key q hq p hp h2 h1).elim
  .rw[Lp p hp]at h1;rw[Lp q hq]at h2;exact hs.p_ p (cq _ hp) q (cq _ hq) b h1 h2
 .rw[zA,bJ]at hk ⊢;exact hk.imp (h.keep k) id
 .rw[zA,bJ,not_or]at hk;exact h.sT k hk.1
 .rcases bJ.1 hp with hp|hp
  .exact(h.nZ p hp b hb).imp id λ⟨q,hq,e⟩=>⟨q,bQ _ hq,e⟩
  .exact .inr ⟨p,cq _ hp,by rw[<- Lp p hp];exact hb⟩
 .exact(h.su a x ha).imp id (Or.imp id λ⟨q,hq,e⟩=>⟨q,bQ _ hq,e⟩)
def Step.trans(h:Step m Z F w m' Z' F' w')(k:Step m' Z' F' w' m2 Z2 F2 w2):Step m Z F w m2 Z2 F2 w2:=by
 refine⟨k.iW,λ_ _ _ e=>k.pM _ _ _ (h.pM _ _ _ e),λ_ _ e=>k.o4 _ _ (h.o4 _ _ e),k.os.trans h.os,k.tape.trans h.tape,k.output.trans h.output,cY h.size k.size,λb hb hn=>?_,
  λa ha=>k.keep a (h.keep a ha),λa ha=>(k.sT a ha).trans (h.sT a λh'=>ha (k.keep a h')),λp hp b hb=>?_,λa x ha=>?_⟩
 .rw[k.frame b (by have:=h.size;omega) λp hp e=>?_,h.frame b hb hn]
  rcases h.nZ p hp b e with h'|⟨q,hq,e'⟩
  .omega
  .exact hn q hq e'
 .rcases k.nZ p hp b hb with h'|⟨q,hq,e'⟩
  .exact .inl (by have:=h.size;omega)
  .exact h.nZ q hq b e'
 .rcases k.su a x ha with h'|h'|⟨q,hq,e'⟩
  .exact h.su a x h'
  .exact .inr (.inl (by have:=h.size;omega))
  .exact .inr (h.nZ q hq _ e')
def Step.refl(h:w8 m Z F w):Step m Z F w m Z F w:=⟨h,λ_ _ _ e=>e,λ_ _ e=>e,rfl,rfl,rfl,al,λ_ _ _=>rfl,λ_ h=>h,λ_ _=>rfl,λp hp b hb=>.inr ⟨p,hp,hb⟩,λ_ _ h=>.inl h⟩
def Step.aiM(h:Step m Z F w m' Z' F' w')(hp:F.Perm F2):Step m Z F2 w m' Z' F' w':=
  ⟨h.iW,h.pM,h.o4,h.os,h.tape,h.output,h.size,λb hb hn=>h.frame b hb λp hq=>hn p (hp.mem_iff.1 hq),λk hk=>h.keep k ((hp.map _).mem_iff.2 hk),h.sT,
   λp hq b hb=>(h.nZ p hq b hb).imp id λ⟨q,hr,e⟩=>⟨q,hp.mem_iff.1 hr,e⟩,λa x ha=>(h.su a x ha).imp id (Or.imp id λ⟨q,hr,e⟩=>⟨q,hp.mem_iff.1 hr,e⟩)⟩
def Step.NK(h:Step m Z F w m' Z' F' w')(hp:F'.Perm F2):Step m Z F w m' Z' F2 w':=
  ⟨h.iW.perm hp,h.pM,h.o4,h.os,h.tape,h.output,h.size,h.frame,λk hk=>(hp.map _).mem_iff.1 (h.keep k hk),λk hk=>h.sT k λh'=>hk ((hp.map _).mem_iff.1 h'),
   λp hq=>h.nZ p (hp.mem_iff.2 hq),h.su⟩
def Step.same(h:w8 m Z F w)(hh:w'.heap=w.heap)(h1:w'.os=w.os)(h2:w'.tape=w.tape)(h3:w'.output=w.output):Step m Z F w m Z F w':=by
 refine⟨⟨λa x ha=>?_,λp hp=>?_,h.nodup,h.p_⟩,λ_ _ _ e=>e,λ_ _ e=>e,h1,h2,h3,by rw[hh];exact fv _,λ_ _ _=>by rw[hh],λ_ h=>h,λ_ _=>rfl,λp hp b hb=>.inr ⟨p,hp,hb⟩,λ_ _ h=>.inl h⟩
 .have:=h.frozen a x ha;simpa only[World.cell?,hh]using this
 .exact(h.holds p hp).keep (λ_ _ _ e=>e) rfl (λ_ _ e=>e) λb _=>⟨by rw[hh],λ_ _ e _=>e⟩
end
abbrev Env:=List (Nat×V)
def Env.get:Env->Nat->V
 |[],_=>.undef
 |(d,v)::r,t=>bif bm t d then v else Env.get r t
def rM(m:M)(Z:ZM)(ρ:Env)(ρr:zS):Prop:=∀t,aT (aY m) Z (ρ.get t) (ρr t)
structure Ctx(K0:List Nat) where
 base:List cr
 W0:bF
 m0:M
 Z0:ZM
 F0:aw
 hk:keys F0=K0
 Nr:∀k,k ∉ K0->∀L,m0 k L=bg
structure W4{K0:List Nat}(c:Ctx K0)(m:M)(Z:ZM)(H:aw)(w:bF):Prop where
 step:Step c.m0 c.Z0 c.F0 c.W0 m Z H w
 pa:∀k,k ∉ keys H->∀L,m k L=bg
def Kc{K0:List Nat}(c:Ctx K0)(ρ:Env)(H:aw)(ρr:zS)(w:bF):Prop:=∃m Z,W4 c m Z H w/\rM m Z ρ ρr
def Step.lp{m m':M}{Z Z':ZM}{F F':aw}{w w':bF}(hs:w8 m Z F w)(h:Step m Z F w m' Z' F' w'){b:Nat}{ob:Go.Obj}(hb:w.heap[b]?=aY ob)(hl:Fu ob=bh):w'.heap[b]?=aY ob:=by rw[h.frame b (bw.1 hb).1 λp hp e=>?_,hb];obtain⟨ob',h1,h2⟩:=(hs.holds p hp).TI b e;rw[hb]at h1;cases h1;rw[hl]at h2;cases h2
def wm{K0:List Nat}(c:Ctx K0)(ds:List cr)(w:bF):Prop:=∃Ds:List (Nat⊕cr),ds=Ds.map (Sum.elim lG.mark id)/\Ds.filterMap ll=c.base/\(Ds.filterMap fB).Nodup/\(∀D∈Ds.filterMap fB,w.heap[D]?=aY (.deferred (aY []))/\c.W0.heap.size<=D)/\∀d∈c.base,∀D,d.target≠.collected D
def wm.nil{K0:List Nat}{c:Ctx K0}{w:bF}(hb:c.base=[]):wm c [] w:=⟨[],rfl,hb.symm,cZ,λ_ h=>(by cases h),λd hd=>(by rw[hb]at hd;cases hd)⟩
def wm.marks{K0:List Nat}{c:Ctx K0}{ds:List cr}{w:bF}(h:wm c ds w)(hb:c.base=[]):∃Ds:List Nat,ds=Ds.map lG.mark/\Ds.Nodup/\∀D∈Ds,w.heap[D]?=aY (.deferred (aY []))/\c.W0.heap.size<=D:=by
 obtain⟨l,h1,h2,h3,h4,_⟩:=h;rw[hb]at h2;refine⟨l.filterMap fB,?_,h3,h4⟩;subst h1;clear h3 h4 hb
 induction l with
 |nil=>rfl
 |cons x l ih =>
  cases x with
  |inl D=>simp only[fX,ll,fB,ij,Sum.elim_inl]at h2 ⊢;rw[ih h2]
  |inr d=>simp[fX]at h2
def wm.step{K0:List Nat}{c:Ctx K0}{ds:List cr}{m m':M}{Z Z':ZM}{F F':aw}{w w':bF}(h:wm c ds w)(hs:w8 m Z F w)(st:Step m Z F w m' Z' F' w'):wm c ds w':=by obtain⟨Ds,h1,hb,h2,h3,h4⟩:=h;exact⟨Ds,h1,hb,h2,λD hD=>⟨st.lp hs (h3 D hD).1 rfl,(h3 D hD).2⟩,h4⟩
def wm.same{K0:List Nat}{c:Ctx K0}{ds:List cr}{w w':bF}(h:wm c ds w)(hh:w'.heap=w.heap):wm c ds w':=by obtain⟨Ds,h1,hb,h2,h3,h4⟩:=h;exact⟨Ds,h1,hb,h2,λD hD=>by rw[hh];exact h3 D hD,h4⟩
def W4.lps{K0:List Nat}{c:Ctx K0}{m:M}{Z:ZM}{H:aw}{w w':bF}{row:Option Nat}(S:W4 c m Z H w)(hg:w.grownBy w' row)(hr:∀b,row=aY b->c.W0.heap.size<=b/\∃o,w.heap[b]?=aY o/\Fu o=bh):W4 c m Z H w':=by
 have hs:=S.step
 have q_:∀p∈H,∀b,gM m p b->w'.heap[b]?=w.heap[b]?:=λp hp b hb=>by
  obtain⟨ob,h1,h2⟩:=(hs.iW.holds p hp).TI b hb
  refine hg.block b (bw.1 h1).1 λe=>?_
  obtain⟨_,o,h3,h4⟩:=hr b e.symm;rw[h1]at h3;cases h3;rw[h4]at h2;cases h2
 have hz:∀a x,Z a=aY x->w'.cell? a=w.cell? a:=λa x ha=>by
  have h1:=hs.iW.frozen a x ha;have h2:=World.block_lt_of_cell? w a h1
  have:w'.heap[a.block]?=w.heap[a.block]?:=by
   refine hg.block _ h2 λe=>?_
   obtain⟨_,o,h3,h4⟩:=hr _ e.symm;simp only[World.cell?,h3]at h1;cases o<;>simp[Fu]at h4<;>cases h1
  simp only[World.cell?,this]
 refine⟨⟨⟨λa x ha=>(hz a x ha).trans (hs.iW.frozen a x ha),λp hp=>(hs.iW.holds p hp).keep (λ_ _ _ e=>e) rfl (λ_ _ e=>e) λb hb=>⟨q_ p hp b hb,λ_ _ e _=>e⟩,hs.iW.nodup,hs.iW.p_⟩,hs.pM,hs.o4,hg.os.trans hs.os,hg.tape.trans hs.tape,hg.output.trans hs.output,cY hs.size hg.size,λb hb hn=>?_,hs.keep,hs.sT,hs.nZ,hs.su⟩,S.pa⟩;rw[hg.block b (dT hb hs.size) λe=>by have:=(hr b e.symm).1;omega];exact hs.frame b hb hn
abbrev xF:=Exit->Env->aw->List cr->Prop
def M9{K0:List Nat}(c:Ctx K0)(Q:xF)(ds:List cr):Wy:=λe ρr mj w=>∃ρ H,Kc c ρ H ρr w/\wm c mj w/\Q e ρ H ds
def l9{K0:List Nat}(c:Ctx K0)(P:bo)(r:Option Nat)(N:Nat)(code:Code)(Q:xF)(ρ:Env)(H:aw)(ds:List cr):Prop:=∀ρr w mj,Kc c ρ H ρr w->wm c mj w->Wp P r N code (M9 c Q ds) ρr mj w
def IX(K:Env->aw->List cr->Prop)(Q:xF):xF
 |.normal,ρ,H,ds=>K ρ H ds
 |e,ρ,H,ds=>Q e ρ H ds
def Fv(id:Nat)(Q:xF):xF
 |.exit i,ρ,H,ds=>if i=id then Q .normal ρ H ds else Q (.exit i) ρ H ds
 |e,ρ,H,ds=>Q e ρ H ds
def rM.put{m:M}{Z:ZM}{ρ:Env}{ρr:zS}{v:V}{x:bx}(h:rM m Z ρ ρr)(d:Nat)(hv:aT (aY m) Z v x):rM m Z ((d,v)::ρ) (l3 ρr d x):=by
 intro t
 show aT (aY m) Z (bif bm t d then v else ρ.get t) (bif bm t d then x else ρr t)
 cases bm t d with
 |true=>exact hv
 |false=>exact h t
def rM.up{m m':M}{Z Z':ZM}{ρ:Env}{ρr:zS}(h:rM m Z ρ ρr)(hZ:∀a x,Z a=aY x->Z' a=aY x)(hm:∀k L loc,m k L=aY loc->m' k L=aY loc):rM m' Z' ρ ρr:=λt=>(h t).up hZ λf e=>by cases e;exact⟨m',rfl,hm⟩
section
variable{K0:List Nat}{c:Ctx K0}{P:bo}{r:Option Nat}{N:Nat}{Q:xF}{ρ:Env}{H:aw}{ds:List cr}
def WC(h:Q .normal ρ H ds):l9 c P r N .skip Q ρ H ds:=λ_ _ _ S hM=>IA ⟨ρ,H,S,hM,h⟩
def kN{id:Nat}(h:Q (.exit id) ρ H ds):l9 c P r N (.exit id) Q ρ H ds:=λ_ _ _ S hM=>WA ⟨ρ,H,S,hM,h⟩
def vc(h:Q .ret ρ H ds):l9 c P r N .ret Q ρ H ds:=λ_ _ _ S hM=>M6 ⟨ρ,H,S,hM,h⟩
def Xp{x y:Code}(h:l9 c P r N x (IX (λρ H ds=>l9 c P r N y Q ρ H ds) Q) ρ H ds):l9 c P r N (.seq x y) Q ρ H ds:=
 λρr w mj S hM=>Q4 (YF (h ρr w mj S hM) λe Cu mL w' ⟨ρ',H',S',mW,hQ⟩=>by
  cases e with
  |normal=>exact hQ Cu w' mL S' mW
  |exit id=>exact⟨ρ',H',S',mW,hQ⟩
  |goto l=>exact⟨ρ',H',S',mW,hQ⟩
  |ret=>exact⟨ρ',H',S',mW,hQ⟩
  |panic ch=>exact⟨ρ',H',S',mW,hQ⟩
  |outgrown=>exact⟨ρ',H',S',mW,hQ⟩)
def zsk{id:Nat}{x:Code}(h:l9 c P r N x (Fv id Q) ρ H ds):l9 c P r N (.block id x) Q ρ H ds:=
 λρr w mj S hM=>YG (YF (h ρr w mj S hM) λe Cu mL w' ⟨ρ',H',S',mW,hQ⟩=>by
  cases e with
  |exit i =>
   simp only[Fv]at hQ;simp only[FY];split
   .rename_i he;rw[aO he]at hQ;exact⟨ρ',H',S',mW,hQ⟩
   .rename_i he;rw[aN he]at hQ;exact⟨ρ',H',S',mW,hQ⟩
  |normal=>exact⟨ρ',H',S',mW,hQ⟩
  |goto l=>exact⟨ρ',H',S',mW,hQ⟩
  |ret=>exact⟨ρ',H',S',mW,hQ⟩
  |panic ch=>exact⟨ρ',H',S',mW,hQ⟩
  |outgrown=>exact⟨ρ',H',S',mW,hQ⟩)
def zgd{K:Env->aw->List cr->Prop}(h:K ρ H ds):IX K Q .normal ρ H ds:=h
def zge{K:Env->aw->List cr->Prop}(h:Q .ret ρ H ds):IX K Q .ret ρ H ds:=h
def yx{id:Nat}{K:Env->aw->List cr->Prop}(h:Q (.exit id) ρ H ds):IX K Q (.exit id) ρ H ds:=h
def zmz{id:Nat}(h:Q .normal ρ H ds):Fv id Q .normal ρ H ds:=h
def zm0{id:Nat}(h:Q .ret ρ H ds):Fv id Q .ret ρ H ds:=h
def yU{id:Nat}(h:Q .normal ρ H ds):Fv id Q (.exit id) ρ H ds:=by
 show(if id=id then Q .normal ρ H ds else Q (.exit id) ρ H ds)
 rw[aO rfl];exact h
def ac3{id i:Nat}(lD:bm i id=bf)(h:Q (.exit i) ρ H ds):Fv id Q (.exit i) ρ H ds:=by
 show(if i=id then Q .normal ρ H ds else Q (.exit i) ρ H ds)
 rw[aN (λe=>by subst e;rw[cC]at lD;cases lD)];exact h
end
def s3:bx->V
 |.int k n=>.int k n
 |.bool b=>.bool b
 |.string s=>.str s.data.toList
 |.pointer bg=>.mx
 |.slice bg 0 0=>.gg
 |.nilFunc=>.nd
 |.map bg=>.mD
 |.nilIface=>.nM
 |.func (.func f) a b=>if a.size=0/\b.size=0 then .fn f [] []else .undef
 |_=>.undef
def Fq:bx->V
 |.agg cs=>.agg (cs.toList.map s3)
 |v=>s3 v
def aV(ρ:Env):bI->V
 |.tmp t=>ρ.get t
 |.const v=>Fq v
 |.global _=>.undef
 |.func f=>.fn f [] []
def zm2{m:Option M}{Z:ZM}(v:bx):aT m Z (s3 v) v:=by
 unfold s3;split
 .rfl
 .rfl
 .show _=_;simp
 .rfl
 .rfl
 .rfl
 .rfl
 .rfl
 .split
  .rename_i h;exact⟨[],[],by rw[fK h.1,fK h.2],rfl,rfl⟩
  .trivial
 .trivial
def o6{m:Option M}{Z:ZM}:∀l:List bx,zC m Z (l.map s3) l
 |[]=>rfl
 |v::l=>⟨v,l,rfl,zm2 v,o6 l⟩
def zsl{m:Option M}{Z:ZM}(v:bx):aT m Z (Fq v) v:=by
 unfold Fq;split
 .exact⟨_,ae,o6 _⟩
 .exact zm2 _
def rM.ev{m:M}{Z:ZM}{ρ:Env}{ρr:zS}(h:rM m Z ρ ρr)(x:bI):aT (aY m) Z (aV ρ x) (ev ρr x):=by
 cases x with
 |tmp t=>exact h t
 |const v=>exact zsl v
 |global g=>trivial
 |func f=>exact⟨[],[],rfl,rfl,rfl⟩
section
variable{K0:List Nat}{c:Ctx K0}{P:bo}{r:Option Nat}{N:Nat}{Q:xF}{ρ:Env}{H:aw}{ds:List cr}
def yy{x:bI}{a b:Code}(t:Bool)(hc:aV ρ x=.bool t)(h1:t=bh->l9 c P r N a Q ρ H ds)(h2:t=bf->l9 c P r N b Q ρ H ds):l9 c P r N (.cond x a b) Q ρ H ds:=
 λρr w mj S hM=>zGz t (by obtain⟨m,Z,_,hR⟩:=S;have:=hR.ev x;rw[hc]at this;exact this) (λe=>h1 e ρr w mj S hM) (λe=>h2 e ρr w mj S hM)
def zyc{x:bI}{a b:Code}(hc:aV ρ x=.bool bf)(h1:l9 c P r N b Q ρ H ds):l9 c P r N (.cond x a b) Q ρ H ds:=yy bf hc (λe=>by cases e) (λ_=>h1)
def zG2{G:Type}{x:Code}(env:G->Env)(hp:G->aw)(Inv:G->Prop)(nN:G->Nat)(g0:G)(hi:Inv g0)
  (Bj:∀g,Inv g->l9 c P r N x (IX (λρ' H' mL=>mL=ds/\∃g',ρ'=env g'/\H'=hp g'/\Inv g'/\nN g'<nN g) Q) (env g) (hp g) ds):l9 c P r N (.loop x) Q (env g0) (hp g0) ds:=by
 intro ρr w mj S hM a n hf
 let I:Act->bF->Nat->Prop:=λa w m=>∃g ρ' nV,pV N nV a ρ'/\Kc c (env g) (hp g) ρ' w/\wm c nV w/\Inv g/\nN g=m
 have hex:∀a w,(∃m,I a w m)->∃m,I a w m/\∀k,k<m->¬I a w k:=λa w ⟨m,hm⟩=>least _ m hm
 refine wpIn_loop (λa w=>∃m,I a w m) (λa w=>(Classical.epsilon λm=>I a w m/\∀k,k<m->¬I a w k)) ⟨_,g0,ρr,mj,hf,S,hM,hi,rfl⟩ ?_;intro a w hI;obtain⟨⟨g,ρ',nV,nR,hS,hM2,hinv,hm⟩,Dp⟩:=Classical.epsilon_spec (hex a w hI)
 refine wpIn_mono (Bj g hinv ρ' w nV hS hM2 a n nR) λe a' w' hq=>?_
 obtain⟨nO,nV,rS,ET,Hv,S2,E7,hq⟩:=hq
 cases e with
 |normal =>
  obtain⟨_,g',rfl,rfl,TA,ib⟩:=hq
  have pD:I a' w' (nN g'):=⟨g',nO,nV,rS,S2,E7,TA,rfl⟩
  refine⟨⟨_,pD⟩,?_⟩;obtain⟨_,TE⟩:=Classical.epsilon_spec (hex a' w' ⟨_,pD⟩);refine Nat.lt_of_le_of_lt ?_ (hm▸ib)
  exact Nat.le_of_not_lt λhl=>TE _ hl pD
 |exit id=>exact⟨nO,nV,rS,ET,Hv,S2,E7,hq⟩
 |goto l=>exact⟨nO,nV,rS,ET,Hv,S2,E7,hq⟩
 |ret=>exact⟨nO,nV,rS,ET,Hv,S2,E7,hq⟩
 |panic ch=>exact⟨nO,nV,rS,ET,Hv,S2,E7,hq⟩
 |outgrown=>exact⟨nO,nV,rS,ET,Hv,S2,E7,hq⟩
end
def Er(ts:List Nat)(ρ:Env):Env:=ts.map λt=>(t,ρ.get t)
def kO(ks:List Nat)(H:aw):Option aw:=
 match ks with
 |[]=>aY []
 |k::r=>match H.get k,kO r H with
  |some o,aY l=>aY ((k,o)::l)
  |_,_=>bg
def Obj.refs:Obj->List Nat
 |.box _ cs=>wh cs
 |_=>[]
def nodupB:List Nat->Bool
 |[]=>bh
 |k::r=>!(r.contains k)&&nodupB r
def P0(K0 ts ks:List Nat)(ρ:Env)(H':aw):Bool:=nodupB ks&&(K0.all ks.contains&&((Er ts ρ).all (λp=>p.2.refs.all ks.contains)&&H'.all λp=>p.2.refs.all ks.contains))
def yB:∀{l:List Nat},nodupB l=bh->l.Nodup
 |[],_=>cZ
 |k::r,h=>by simp only[nodupB,bn,bX,cv,aW]at h;exact cA.2 ⟨h.1,yB h.2⟩
def aw.get_mem:∀{H:aw}{k:Nat}{o:Obj},H.get k=aY o->(k,o)∈H
 |[],_,_,h=>by cases h
 |(k',o')::r,k,o,h=>by
  simp only[aw.get]at h
  cases hb:bm k k' with
  |true =>
   rw[hb]at h;have:=eb hb;subst this;simp only[ct,Option.some.injEq]at h;subst h;exact ak
  |false =>rw[hb]at h;exact iO _ (aw.get_mem h)
def yX:∀{ks:List Nat}{H H':aw},kO ks H=aY H'->keys H'=ks/\∀p∈H',p∈H
 |[],_,_,h=>by cases h;exact⟨rfl,λ_ h=>by cases h⟩
 |k::r,H,H',h=>by
  simp only[kO]at h;split at h
  .rename_i o l h1 h2;cases h;obtain⟨h3,h4⟩:=yX h2;refine⟨by simp[keys]at h3 ⊢;exact h3,λp hp=>?_⟩
   rcases bu.1 hp with rfl|hp
   .exact aw.get_mem h1
   .exact h4 p hp
  .cases h
def P1(ρ:Env)(t:Nat):∀ts:List Nat,(Er ts ρ).get t=if t∈ts then ρ.get t else .undef
 |[]=>rfl
 |u::r=>by
  show(bif bm t u then ρ.get u else(Er r ρ).get t)=_
  cases hb:bm t u with
  |true =>
   have:=eb hb;subst this;simp
  |false =>
   have:t≠u:=λe=>by subst e;rw[cC]at hb;cases hb
   rw[cf,P1 ρ t r];simp[this]
def Env.get_mem:∀{ρ:Env}{t:Nat},ρ.get t=.undef∨∃p∈ρ,p.2=ρ.get t
 |[],_=>.inl rfl
 |(d,v)::r,t=>by
  simp only[Env.get]
  cases bm t d with
  |true=>exact .inr ⟨_,ak,rfl⟩
  |false =>
   rcases Env.get_mem (ρ:=r) (t:=t)with h|⟨p,hp,h⟩
   .exact .inl h
   .exact .inr ⟨p,iO _ hp,h⟩
def W4.cut{K0:List Nat}{c:Ctx K0}{m:M}{Z:ZM}{H H':aw}{w:bF}(ks:List Nat)(hH:kO ks H=aY H')(nI:nodupB ks=bh)(hK:K0.all ks.contains=bh)(hO:(H'.all λp=>p.2.refs.all ks.contains)=bh)(S:W4 c m Z H w):
  ∃m',W4 c m' Z H' w/\∀v x,v.refs.all ks.contains=bh->aT (aY m) Z v x->aT (aY m') Z v x:=by
 obtain⟨ml,pF⟩:=yX hH
 let m':M:=λk L=>if k∈ks then m k L else bg
 have hin:∀k∈ks,m' k=m k:=λk hk=>by funext L;simp[m',hk]
 have hb:∀p∈H',gM m' p=gM m p:=λp ka=>zgc (hin p.1 (ml▸ax ka))
 have hs:=S.step;refine⟨m',⟨⟨⟨hs.iW.frozen,λp ka=>?_,by rw[ml];exact yB nI,λp ka q hq b h1 h2=>hs.iW.p_ p (pF p ka) q (pF q hq) b (hb p ka▸h1) (hb q hq▸h2)⟩,?_,hs.o4,hs.os,hs.tape,hs.output,hs.size,hs.frame,?_,?_,?_,hs.su⟩,?_⟩,?_⟩
 .have hh:=hs.iW.holds p (pF p ka);have l5:p.1∈ks:=ml▸ax ka;obtain⟨k,o⟩:=p
  cases o with
  |box t cs =>
   obtain⟨b,cur,h1,h2,h3,h4,h5⟩:=hh;refine⟨b,cur,by rw[hin k l5];exact h1,h2,h3.swap λj hj L loc e=>?_,h4,by rw[hin k l5];exact h5⟩;have:=(bl.1 hO) _ ka;have:=(bl.1 this) j hj;rw[hin j (by simpa using this)];exact e
  |row t sz fz els =>
   rcases hh with⟨h1,h2,h3,⟨b,h4⟩,h5⟩|⟨b,cap,cur,fr,h1,h2⟩
   .exact .inl ⟨h1,h2,h3,⟨b,by rw[hin k l5];exact h4⟩,by rw[hin k l5];exact h5⟩
   .exact .inr ⟨b,cap,cur,fr,by rw[hin k l5];exact h1,by rw[hin k l5];exact h2⟩
  |map l =>
   obtain⟨b,es,clock,h1,h2⟩:=hh;exact⟨b,es,clock,by rw[hin k l5];exact h1,by rw[hin k l5];exact h2⟩
  |n_ g t cs=>exact⟨by rw[hin k l5];exact hh.1,hh.2.1,by rw[hin k l5];exact hh.2.2⟩
  |nest t e sz pd ls =>
   show xD (m' k) _ _ t e sz pd ls
   rw[hin k l5];exact hh
  |gen G =>
   show G.holds (m' k) _ _
   rw[hin k l5];exact hh
 .intro k L loc e;by_cases hk:k∈K0
  .have:=(bl.1 hK) k hk;rw[hin k (by simpa using this)];exact hs.pM k L loc e
  .rw[c.Nr k hk]at e;cases e
 .intro k hk;rw[ml];have:=(bl.1 hK) k (c.hk▸hk);simpa using this
 .intro k hk;rw[ml]at hk
  funext L
  rw[c.Nr k (λh=>hk (by have:=(bl.1 hK) k h;simpa using this))];simp[m',hk]
 .intro p ka b hbb;exact hs.nZ p (pF p ka) b (hb p ka▸hbb)
 .intro k hk L;rw[ml]at hk;simp[m',hk]
 .intro v x hr h
  exact h.swap λj hj L loc e=>by have:=(bl.1 hr) j hj;rw[hin j (by simpa using this)];exact e
def Kc.prune{K0:List Nat}{c:Ctx K0}{ρ:Env}{H H':aw}{ρr:zS}{w:bF}(ts ks:List Nat)(hH:kO ks H=aY H')(hp:P0 K0 ts ks ρ H'=bh)(S:Kc c ρ H ρr w):Kc c (Er ts ρ) H' ρr w:=by
 obtain⟨m,Z,S,hR⟩:=S;simp only[P0,bn]at hp;obtain⟨nI,hK,hE,hO⟩:=hp;obtain⟨m',S',hc⟩:=S.cut ks hH nI hK hO;refine⟨m',Z,S',λt=>?_⟩;rw[P1];split
 .rename_i ht
  have rU:((Er ts ρ).get t)=(ρ.get t):=by rw[P1,aO ht]
  refine hc _ _ ?_ (hR t)
  rcases Env.get_mem (ρ:=Er ts ρ) (t:=t)with h|⟨p,ka,h⟩
  .rw[rU]at h;rw[h];rfl
  .have:=(bl.1 hE) p ka;rw[h,rU]at this;exact this
 .trivial
def CZ(P:bo)(o:Oper)(ρr:zS)(w:bF)(R:bx->bF->Prop):Prop:=
 vu o.op=bh/\((∃x w',(bP (ev ρr) o).run P w=.ok (.value x) w'/\R x w')∨(∃w',(bP (ev ρr) o).run P w=.ok .skip w'/\R Go.undef w') ∨
  ∃f args w1,(bP (ev ρr) o).run P w=.ok (.enter f args) w1/\Calls P f args w1 λen w'=>∃x,en=.returned x/\R x w')
def CZ.mono{P:bo}{o:Oper}{ρr:zS}{w:bF}{R R':bx->bF->Prop}(h:CZ P o ρr w R)(hm:∀x w',R x w'->R' x w'):CZ P o ρr w R':=by
 refine⟨h.1,?_⟩
 rcases h.2 with⟨x,w',h1,h2⟩|⟨w',h1,h2⟩|⟨f,args,w1,h1,h2⟩
 .exact .inl ⟨x,w',h1,hm _ _ h2⟩
 .exact .inr (.inl ⟨w',h1,hm _ _ h2⟩)
 .exact .inr (.inr ⟨f,args,w1,h1,Calls.mono h2 λ_ _ ⟨x,e,hr⟩=>⟨x,e,hm _ _ hr⟩⟩)
def Loc(P:bo)(o:Oper)(ρ:Env)(F:aw)(v:V)(F':aw):Prop:=
 ∀ρr m Z w,(∀x∈o.op.operands,aT (aY m) Z (aV ρ x) (ev ρr x))->w8 m Z F w->(∀k∈keys F',k ∉ keys F->∀L,m k L=bg) ->
  CZ P o ρr w λx w'=>∃m' Z',Step m Z F w m' Z' F' w'/\aT (aY m') Z' v x
def ye(all:List Oper)(ρ:Env)(o:Oper):Option Bool:=
 match o.guard with
 |none=>aY bh
 |some (j,want)=>match (all[j]?).bind (·.dst)with
  |some d=>match ρ.get d with
   |.bool b=>aY (b==want)
   |.no=>aY bf
   |_=>bg
  |none=>bg
def xf{all:List Oper}{ρ:Env}{ρr:zS}{m:M}{Z:ZM}{o:Oper}{t:Bool}(hR:rM m Z ρ ρr)(h:ye all ρ o=aY t):wanted all ρr o=t:=by
 unfold ye at h;unfold wanted
 cases hg:o.guard with
 |none=>rw[hg]at h;simpa using h
 |some p =>
  obtain⟨j,want⟩:=p;rw[hg]at h;simp only[gv]at h ⊢
  cases hd:(all[j]?).bind (·.dst)with
  |none=>rw[hd]at h;cases h
  |some d =>
   rw[hd]at h;simp only at h ⊢;have hr:=hR d;split at h
   .rename_i b hb;rw[hb]at hr;simp only[aT]at hr;rw[hr];simp only[Option.some.injEq]at h;subst h;cases b<;>cases want<;>rfl
   .rename_i hb;rw[hb]at hr;simp only[aT]at hr;rw[hr];simp only[Option.some.injEq]at h;subst h;rfl
   .cases h
def HH{K0:List Nat}(c:Ctx K0)(P:bo)(r:Option Nat)(N:Nat)(all:List Oper)(Q:xF)(l:List Oper)(ρ:Env)(H:aw)(ds:List cr):Prop:=∀ρr w mj,Kc c ρ H ρr w->wm c mj w->nH P r N all (M9 c Q ds) l ρr mj w
def js(ks:List Nat)(H:aw):aw:=H.filter λp=>!ks.contains p.1
def vd{α β:Type}(f:α->β):∀{l:List α},(l.map f).Nodup->l.Nodup
 |[],_=>cZ
 |a::l,h=>by rw[ij,cA]at h;exact cA.2 ⟨λha=>h.1 (cG ha),vd f h.2⟩
def j6:∀{ks:List Nat}{H F:aw},(keys H).Nodup->ks.Nodup->kO ks H=aY F->H.Perm (F++js ks H):=by
 intro ks H F hH ml hF
 have h1:∀p,p∈H↔p∈F++js ks H:=by
  obtain⟨h2,h3⟩:=yX hF;intro p;rw[bJ];constructor
  .intro hp;by_cases hk:p.1∈ks
   .left;rw[<- h2]at hk;obtain⟨q,hq,e⟩:=bL.1 hk;have hqH:=h3 q hq
    have:q=p:=by
     have Cw:∀(l:aw),(keys l).Nodup->∀p∈l,∀q∈l,q.1=p.1->q=p:=by
      intro l hl
      induction l with
      |nil=>intro p hp;cases hp
      |cons a l ih =>
       simp only[keys,ij,cA]at hl;intro p hp q hq e
       rcases bu.1 hp with h1|h1<;>rcases bu.1 hq with h2|h2
       .rw[h1,h2]
       .exact(hl.1 (bL.2 ⟨q,h2,by rw[e,h1]⟩)).elim
       .exact(hl.1 (bL.2 ⟨p,h1,by rw[<- e,h2]⟩)).elim
       .exact ih hl.2 p h1 q h2 e
     exact Cw H hH p hp q hqH e
    exact this▸hq
   .right;simp only[js,dO,bX,cv,aW];exact⟨hp,hk⟩
  .rintro(hp|hp)
   .exact h3 p hp
   .exact(dO.1 hp).1
 have hn:H.Nodup:=vd _ hH
 have ng:(F++js ks H).Nodup:=by obtain⟨h2,h3⟩:=yX hF;refine cK.2 ⟨vd _ (by show(keys F).Nodup;rw[h2];exact ml),hn.filter _,λa ha b hb e=>?_⟩;subst e;have:=(dO.1 hb).2;simp only[bX,cv,aW]at this;exact this (h2▸ax ha)
 exact(gm hn ng).2 h1
def o7(F':aw)(ks:List Nat)(H:aw):Bool:=F'.all λp=>ks.contains p.1||!((keys H).contains p.1)
section
variable{K0:List Nat}{c:Ctx K0}{P:bo}{r:Option Nat}{N:Nat}{Q:xF}{ρ:Env}{H:aw}{ds:List cr}{all rest:List Oper}{o:Oper}
def W4.NL{m m':M}{Z Z':ZM}{F F':aw}{w w':bF}{ks:List Nat}(S:W4 c m Z H w)(ml:nodupB ks=bh)(hF:kO ks H=aY F)(lR:o7 F' ks H=bh)
  (h:w8 m Z F w->(∀k∈keys F',k ∉ keys F->∀L,m k L=bg)->Step m Z F w m' Z' F' w'):W4 c m' Z' (F'++js ks H) w':=by
 have hp:=j6 S.step.iW.nodup (yB ml) hF;obtain⟨h2,h3⟩:=yX hF;have hs:w8 m Z (F++js ks H) w:=S.step.iW.perm hp
 have mU:∀k∈keys F',k ∉ keys F->k ∉ keys H:=by
  intro k hk pI;obtain⟨p,ka,rfl⟩:=bL.1 hk;have:=(bl.1 lR) p ka;simp only[dk,cv,aU,bX,aW]at this
  rcases this with this|this
  .exact aQ (h2▸this) pI
  .exact this
 have gy:=h hs.left (λk hk pI=>S.pa k (mU k hk pI))
 have Bt:∀p∈F',∀q∈js ks H,p.1≠q.1:=by
  intro p ka q hq e;have CU:=dO.1 hq;by_cases G5:p.1∈keys F
  .have:=CU.2;simp only[bX,cv,aW]at this;exact this (by rw[<- e,<- h2];exact G5)
  .exact mU p.1 (ax ka) G5 (by rw[e];exact ax CU.1)
 have lR:=Step.Bk hs gy Bt;refine⟨(S.step.NK hp).trans lR,λk hk L=>?_⟩;rw[lR.sT k hk];exact S.pa k (λmu=>hk (lR.keep k ((hp.map _).mem_iff.1 mu))) L
def WD(h:Q .normal ρ H ds):HH c P r N all Q [] ρ H ds:=λ_ _ _ S hM=>vI ⟨ρ,H,S,hM,h⟩
def zsm(d:Nat)(hd:o.dst=aY d)(hN:cm (d+1) N=bh)(hw:ye all ρ o=aY bf)(h:HH c P r N all Q rest ((d,.no)::ρ) H ds):HH c P r N all Q (o::rest) ρ H ds:=by rintro ρr w mj ⟨m,Z,S,hR⟩ hM;exact zmv d hd hN (xf hR hw) (h _ _ _ ⟨m,Z,S,hR.put d rfl⟩ hM)
def zm3(hd:o.dst=bg)(hw:ye all ρ o=aY bf)(h:HH c P r N all Q rest ρ H ds):HH c P r N all Q (o::rest) ρ H ds:=by rintro ρr w mj ⟨m,Z,S,hR⟩ hM;exact zsd hd (xf hR hw) (h _ _ _ ⟨m,Z,S,hR⟩ hM)
def zG3{F F':aw}{v:V}(d:Nat)(ks:List Nat)(hd:o.dst=aY d)(hN:cm (d+1) N=bh)(hw:ye all ρ o=aY bh)(ml:nodupB ks=bh)(hF:kO ks H=aY F)(hl:Loc P o ρ F v F')(lR:o7 F' ks H=bh)
  (h:HH c P r N all Q rest ((d,v)::ρ) (F'++js ks H) ds):HH c P r N all Q (o::rest) ρ H ds:=by
 rintro ρr w mj ⟨m,Z,S,hR⟩ hM a n hf;have hp:=j6 S.step.iW.nodup (yB ml) hF;have hs:w8 m Z (F++js ks H) w:=S.step.iW.perm hp;obtain⟨h2,h3⟩:=yX hF
 obtain⟨hn,hex⟩:=hl ρr m Z w (λx _=>hR.ev x) hs.left (λk hk pI=>S.pa k (by
  obtain⟨p,ka,rfl⟩:=bL.1 hk;have:=(bl.1 lR) p ka;simp only[dk,cv,aU,bX,aW]at this
  rcases this with this|this
  .exact aQ (h2▸this) pI
  .exact this))
 have go:∀x w',(∃m' Z',Step m Z F w m' Z' F' w'/\aT (aY m') Z' v x)->nH P r N all (M9 c Q ds) rest (l3 ρr d x) mj w':=λx w' ⟨m',Z',gy,hr⟩ =>h _ _ _ ⟨m',Z',S.NL ml hF lR (λ_ _=>gy),(hR.up gy.o4 gy.pM).put d hr⟩ (hM.step hs.left gy)
 rcases hex with⟨x,w',mO,hx⟩|⟨w',mO,hx⟩|⟨f,args,w1,mO,hx⟩
 .exact wk d x hd hN (xf hR hw) hn mO (go x w' hx) a n hf
 .have rH:=(hf.wanted all _).trans (xf hR hw);simp only[wpListIn,rH,if_true];refine⟨λ_ _=>trivial,?_⟩;rw[AJ hn,hf.eval,mO,Oper.uponIn_skip,hd];exact go _ w' hx _ n (hf.put (mi hN) _)
 .exact zf8 d hd hN (xf hR hw) hn mO hx (λe tM ⟨x,he,hr⟩=>⟨x,he,go x tM hr⟩) a n hf
def zCr{F F':aw}{v:V}(ks:List Nat)(hd:o.dst=bg)(hw:ye all ρ o=aY bh)(ml:nodupB ks=bh)(hF:kO ks H=aY F)(hl:Loc P o ρ F v F')(lR:o7 F' ks H=bh)
  (h:HH c P r N all Q rest ρ (F'++js ks H) ds):HH c P r N all Q (o::rest) ρ H ds:=by
 rintro ρr w mj ⟨m,Z,S,hR⟩ hM a n hf;have hp:=j6 S.step.iW.nodup (yB ml) hF;have hs:w8 m Z (F++js ks H) w:=S.step.iW.perm hp;obtain⟨h2,h3⟩:=yX hF
 obtain⟨hn,hex⟩:=hl ρr m Z w (λx _=>hR.ev x) hs.left (λk hk pI=>S.pa k (by
  obtain⟨p,ka,rfl⟩:=bL.1 hk;have:=(bl.1 lR) p ka;simp only[dk,cv,aU,bX,aW]at this
  rcases this with this|this
  .exact aQ (h2▸this) pI
  .exact this))
 have go:∀x w',(∃m' Z',Step m Z F w m' Z' F' w'/\aT (aY m') Z' v x)->nH P r N all (M9 c Q ds) rest ρr mj w':=λx w' ⟨m',Z',gy,hr⟩ =>h _ _ _ ⟨m',Z',S.NL ml hF lR (λ_ _=>gy),hR.up gy.o4 gy.pM⟩ (hM.step hs.left gy)
 have rH:=(hf.wanted all _).trans (xf hR hw);simp only[wpListIn,rH,if_true];refine⟨λ_ _=>trivial,?_⟩;rw[AJ hn,hf.eval]
 rcases hex with⟨x,w',mO,hx⟩|⟨w',mO,hx⟩|⟨f,args,w1,mO,hx⟩
 .rw[mO,Oper.uponIn_value,hd];exact go x w' hx _ n (hf.Gm _)
 .rw[mO,Oper.uponIn_skip,hd];exact go _ w' hx _ n (hf.Gm _)
 .rw[mO,Oper.uponIn_enter];refine⟨λhx=>by simp[Fw]at hx,(JE r hx).mono λe tM ⟨x,he,hr⟩=>?_⟩;subst he;rw[hd];exact go x tM hr _ n (hf.Gm _)
def zyd{id:Nat}{l:List Oper}(h:HH c P r N l Q l ρ H ds):l9 c P r N (.region id l.toArray bf) Q ρ H ds:=λρr w mj S hM=>vt (h ρr w mj S hM)
end
end Go.EV
namespace Go.lG
open Go Go.RowKit
section
variable{P:bo}{ρ:zS}{w W:bF}{dst:Option Tmp}{ty:bK}{pos:String}{aft:Array Edge}{gd:Option (Nat×Bool)}{α:Type}{enc:α->List bx}{k:Nat}{v:bx}{l:List α}
end
inductive Tag where
 |int (k:IntKind)
 |bool
 |str
 deriving DecidableEq
def Ew:TypeDesc->Option Tag|.int k=>aY (.int k)|.bool=>aY .bool|.string=>aY .str|_=>bg
def F3:Tag->bx->Bool|.int k,.int k' _=>decide (k=k')|.bool,.bool _=>bh|.str,.string _=>bh|_,_=>bf
def E0:bx->bx->Bool|.int _ a,.int _ b=>decide (a=b)|.bool a,.bool b=>a==b|.string a,.string b=>decide (a.data.toList=b.data.toList)|_,_=>bf
def Cm:List bx->List bx->Bool|[],[]=>bh|a::l,b::m=>E0 a b&&Cm l m|_,_=>bf
def Kg:List Tag->List bx->Bool|[],[]=>bh|k::ks,v::vs=>F3 k v&&Kg ks vs|_,_=>bf
def YI(P:bo):List Field->Nat->List Tag->Bool
 |[],_,[]=>bh
 | f :: fs, i, k :: ks => !(f.name == "_") && (bm f.offset i && ((match P.underlying f.type with | some d => decide (Ew d = aY k) | none => bf) && YI P fs (i + 1) ks))
 |_,_,_=>bf
def M_(P:bo)(t:bK)(ks:List Tag):Prop:=P.underlying t=aY (.struct (P.fieldsOf t))/\P.stoodInHeld t=bf/\P.eqGuardType P.depth t=bf/\YI P (P.fieldsOf t).toList 0 ks=bh
def P2(P:bo)(t:bK)(ks:List Tag):Bool:=(match P.underlying t with|some (.struct _)=>bh|_=>bf)&&((!P.stoodInHeld t)&&((!P.eqGuardType P.depth t)&&YI P (P.fieldsOf t).toList 0 ks))
def zCs{P:bo}{t:bK}{ks:List Tag}(h:P2 P t ks=bh):M_ P t ks:=by
 simp only[P2,bn,bX]at h;obtain⟨h1,h2,h3,h4⟩:=h;refine⟨?_,h2,h3,h4⟩;split at h1
 .rename_i fs hf;simp[Program.fieldsOf,hf]
 .cases h1
section
variable{P:bo}{ρ:zS}{w:bF}{dst:Option Tmp}{ty:bK}{pos:String}{aft:Array Edge}{gd:Option (Nat×Bool)}
def ac4{d:Nat}{t:Nat}{k:Tag}{a b:bx}{desc:TypeDesc}(hu:P.underlying t=aY desc)(ht:Ew desc=aY k)(ha:F3 k a=bh)(hb:F3 k b=bh):(Op.equalIn (d+1) t a b).run P w=.ok (E0 a b) w:=by
 cases desc<;>simp only[Ew,Option.some.injEq,reduceCtorEq]at ht<;>subst ht<;>(cases a<;>simp only[F3,cI]at ha<;>cases b<;>simp only[F3,cI]at hb)
 .rw[run_equalIn_bool' w d t _ _ hu];rfl
 .have ha:=aX ha;have hb:=aX hb;subst ha;subst hb;rw[run_equalIn_int w d t _ _ _ _ hu];rfl
 .rw[run_equalIn_string w d t _ _ hu];simp only[E0,ByteArray.toList_eq];congr 1;rw[eJ];simp
def zm4{t:Nat}{k:Tag}{desc:TypeDesc}(hu:P.underlying t=aY desc)(ht:Ew desc=aY k):(isAgg t).run P w=.ok bf w:=by unfold isAgg;cases desc<;>simp only[Ew,reduceCtorEq]at ht<;>simp[run_underlying hu]
def V9{d:Nat}{xs ys:List bx}:∀(fs:List Field)(i:Nat)(ks:List Tag),YI P fs i ks=bh->Kg ks (xs.drop i)=bh->Kg ks (ys.drop i)=bh ->
  (Op.eqFields (d+1) xs.toArray ys.toArray fs).run P w=.ok (Cm (xs.drop i) (ys.drop i)) w:=by
 intro fs
 induction fs with
 |nil =>
  intro i ks h hx hy
  cases ks with
  |cons k ks=>cases h
  |nil =>
   cases B':xs.drop i with
   |cons a l=>rw[B']at hx;cases hx
   |nil =>
    cases rl:ys.drop i with
    |cons a l=>rw[rl]at hy;cases hy
    |nil=>simp[Op.eqFields,Cm]
 |cons f fs ih =>
  intro i ks h hx hy
  cases ks with
  |nil=>cases h
  |cons k ks =>
   simp only[YI,bn]at h;obtain⟨h1,h2,h3,h4⟩:=h;have h2:=eb h2
   have h1 : f.name ≠ "_" := by simpa using h1
   cases B':xs.drop i with
   |nil=>rw[B']at hx;cases hx
   |cons a l =>
    cases rl:ys.drop i with
    |nil=>rw[rl]at hy;cases hy
    |cons b m =>
     rw[B']at hx;rw[rl]at hy;simp only[Kg,bn]at hx hy
     have ex:xs.drop (i+1)=l:=by rw[<- ej,B'];rfl
     have ey:ys.drop (i+1)=m:=by rw[<- ej,rl];rfl
     have adt:xs[i]?=aY a:=by have:=aP (·[0]?) B';simpa using this
     have adu:ys[i]?=aY b:=by have:=aP (·[0]?) rl;simpa using this
     cases hu:P.underlying f.type with
     |none=>rw[hu]at h3;cases h3
     |some desc =>
      rw[hu]at h3
      have h3:Ew desc=aY k:=by simpa using h3
      have ih:=ih (i+1) ks h4 (by rw[ex];exact hx.2) (by rw[ey];exact hy.2);rw[ex,ey]at ih
      have px:(part f.type xs.toArray f.offset).run P w=.ok a w:=by simp[part,zm4 hu h3,h2,adt]
      have py:(part f.type ys.toArray f.offset).run P w=.ok b w:=by simp[part,zm4 hu h3,h2,adu]
      rw[Op.eqFields,aO h1];simp only[Sem.run_bind,px,py,Result.andThen_ok,ac4 hu h3 hx.1 hy.1,Cm];cases E0 a b
      .simp
      .simp[ih]
def zCt{t t':bK}{ks:List Tag}{a b:List bx}{x y:bI}(res:Bool)(hF:M_ P t ks)(ha:ev ρ x=.agg a.toArray)(hb:ev ρ y=.agg b.toArray)(OJ:Kg ks a=bh)(th:Kg ks b=bh)(hr:Cm a b=res):
  (bP (ev ρ) ⟨dst,.binOp .eql t x y t',ty,pos,aft,gd⟩).run P w=.ok (.value (.bool res)) w:=by obtain⟨h1,h2,h3,h4⟩:=hF;have h:=V9 (P:=P) (w:=w) (d:=9998) (xs:=a) (ys:=b) _ 0 ks h4 (by simpa using OJ) (by simpa using th);simp only[dW]at h;simp[bP,ha,hb,run_eqGuard_agg w _ t x y _ _ h3,run_eql_struct,run_equalIn_agg w 9999 t _ _ h1 h2,h,hr]
def zCu{t t':bK}{ks:List Tag}{a b:List bx}{x y:bI}(res:Bool)(hF:M_ P t ks)(ha:ev ρ x=.agg a.toArray)(hb:ev ρ y=.agg b.toArray)(OJ:Kg ks a=bh)(th:Kg ks b=bh)(hr:Cm a b=res):
  (bP (ev ρ) ⟨dst,.binOp .neq t x y t',ty,pos,aft,gd⟩).run P w=.ok (.value (.bool (!res))) w:=by obtain⟨h1,h2,h3,h4⟩:=hF;have h:=V9 (P:=P) (w:=w) (d:=9998) (xs:=a) (ys:=b) _ 0 ks h4 (by simpa using OJ) (by simpa using th);simp only[dW]at h;simp[bP,ha,hb,run_eqGuard_agg w _ t x y _ _ h3,run_neq_struct,run_equalIn_agg w 9999 t _ _ h1 h2,h,hr]
def zpw{t:bK}{parts:List (Nat×bI)}(ps:List (Nat×bx))(cs:List bx)(hp:parts.map (λp=>(p.1,ev ρ p.2))=ps)(h:P.built t ps=aY cs.toArray):
  (bP (ev ρ) ⟨dst,.build t parts.toArray,ty,pos,aft,gd⟩).run P w=.ok (.value (.agg cs.toArray)) w:=by
 have e:(parts.toArray.map λx=>(x.1,ev ρ x.2))=ps.toArray:=by rw[<- hp];simp
 simp only[bP,e];simp[run_build w t ps.toArray cs.toArray (by simpa using h)]
end
section
variable{P:bo}{r:Option Nat}{N:Nat}{Q:Wy}{ρ:zS}{ds:List cr}{w W0:bF}{L:List Own}
variable{all rest:List Oper}{ty:bK}{pos:String}{aft:Array Edge}{gd:Option (Nat×Bool)}
end
end Go.lG
namespace Go.EV
open Go Go.RowKit Go.lG
def agM(P:bo)(t:bK):Option Tag:=match P.underlying t with|some d=>Ew d|none=>bg
def zm5(P:bo)(t:bK):Option (List Tag):=
 match (P.fieldsOf t).toList.mapM (λf=>agM P f.type)with
 |some ks=>if P2 P t ks then aY ks else bg
 |none=>bg
def YK:Tag->V->Bool|.int k,.int k' _=>decide (k=k')|.bool,.bool _=>bh|.str,.str _=>bh|_,_=>bf
def oH:List Tag->List V->Bool|[],[]=>bh|k::ks,v::vs=>YK k v&&oH ks vs|_,_=>bf
def Mc:V->V->Bool|.int _ a,.int _ b=>decide (a=b)|.bool a,.bool b=>a==b|.str a,.str b=>decide (a=b)|_,_=>bf
def IY:List V->List V->Bool|[],[]=>bh|[a],[b]=>Mc a b|a::l,b::m=>Mc a b&&IY l m|_,_=>bf
def Xq(op:BinOp)(k:IntKind)(a b:Int):Option V:=
 match op with
 |.and=>aY (.int k (k.wrap (cg k.bits a &&& cg k.bits b).toNat))
 | .or=>aY (.int k (k.wrap (cg k.bits a ||| cg k.bits b).toNat))
 |.xor=>aY (.int k (k.wrap (cg k.bits a ^^^ cg k.bits b).toNat))
 |.andNot=>aY (.int k (k.wrap (cg k.bits a &&& ~~~cg k.bits b).toNat))
 |_=>bg
def Ie(op:BinOp)(k:IntKind)(a b:Int):Option V:=
 match op with
 |.lss=>aY (.bool (decide (a<b)))
 |.leq=>aY (.bool (decide (a<=b)))
 |.gtr=>aY (.bool (decide (a>b)))
 |.geq=>aY (.bool (decide (a>=b)))
 |.eql=>aY (.bool (decide (a=b)))
 |.neq=>aY (.bool (!decide (a=b)))
 |.add=>aY (.int k (k.wrap (a+b)))
 |.sub=>aY (.int k (k.wrap (a-b)))
 |.mul=>aY (.int k (k.wrap (a*b)))
 |.quo=>if b=0 then bg else aY (.int k (k.wrap (a.tdiv b)))
 |.rem=>if b=0 then bg else aY (.int k (a.tmod b))
 |op=>Xq op k a b
def RW(op:BinOp)(k:IntKind)(a b:Int):Option V:=
 if b<0 then bg else
 match op with
 |.shl=>aY (.int k (k.wrap (a*2 ^ (min b.toNat k.bits))))
 |.shr=>aY (.int k (a.fdiv (2 ^ (min b.toNat k.bits))))
 |_=>bg
def Tq(op:BinOp)(a b:aj):Option V:=
 match op with
 |.eql=>aY (.bool (decide (a=b)))
 |.neq=>aY (.bool (!decide (a=b)))
 |.lss=>aY (.bool (Op.bytesLess a b))
 | .leq=>aY (.bool (Op.bytesLess a b||decide (a=b)))
 | .gtr=>aY (.bool (!(Op.bytesLess a b||decide (a=b))))
 |.geq=>aY (.bool (!Op.bytesLess a b))
 |_=>bg
def Ig:V->Option Bool
 |.mx|.gg|.nd|.mD=>aY bh
 |.ptr ..|.vp ..|.fn ..|.mp _=>aY bf
 |.sl _ _ (_+1) _ (_+1)=>aY bf
 |.vs _ (_::_)=>aY bf
 |_=>bg
def BK(P:bo)(t:bK):V->Bool
 |.mx=>match P.underlying t with|some (.pointer _)=>bh|_=>bf
 |.gg=>match P.underlying t with|some (.slice _)=>bh|_=>bf
 |.nd=>match P.underlying t with|some (.func ..)=>bh|_=>bf
 |.mD=>match P.underlying t with|some (.map ..)=>bh|_=>bf
 |_=>bf
def WE:V->V->Bool
 |.mx,.mx|.ptr ..,.mx|.vp ..,.mx=>bh
 |.gg,.gg|.sl ..,.gg|.vs ..,.gg=>bh
 |.nd,.nd|.fn ..,.nd=>bh
 |.mD,.mD|.mp _,.mD=>bh
 |_,_=>bf
def F4(P:bo)(t:bK)(x y:V):Option Bool:=if BK P t y&&WE x y then Ig x else bg
def Xr(P:bo)(t:bK):Bool:=match P.underlying t with|some .bool=>bh|_=>bf
def Md(P:bo)(t:bK)(x y:V):Option Bool:=
 match x,y with
 |.bool a,.bool b=>if Xr P t then aY (a==b)else bg
 |.agg a,.agg b=>match zm5 P t with
  |some ks=>if oH ks a&&oH ks b then aY (IY a b)else bg
  |none=>bg
 |_,_=>bg
def ID(P:bo)(op:BinOp)(t:bK)(x y:V):Option V:=
 match x,y with
 |.int k a,.int k' b=>match op with
  |.shl|.shr=>RW op k a b
  |_=>if k=k' then Ie op k a b else bg
 |.str a,.str b=>Tq op a b
 |x,y=>match op with
  |.eql=>(Md P t x y).map .bool
  |.neq=>(Md P t x y).map λb=>.bool (!b)
  |_=>bg
section
variable{P:bo}{ρr:zS}{w:bF}{dst:Option Tmp}{ty:bK}{pos:String}{aft:Array Edge}{gd:Option (Nat×Bool)}{m:Option M}{Z:ZM}
def P3{op:BinOp}{t t':bK}{x y:bI}{k:IntKind}{a b:Int}{v:V}(hx:ev ρr x=.int k a)(hy:ev ρr y=.int k b)(hs:op≠.shl/\op≠.shr)(h:Ie op k a b=aY v):
  ∃u,(bP (ev ρr) ⟨dst,.binOp op t x y t',ty,pos,aft,gd⟩).run P w=.ok (.value u) w/\aT m Z v u:=by
 cases op<;>simp only[Ie,Xq,Option.some.injEq,reduceCtorEq]at h
 case quo =>
  split at h
  .cases h
  .rename_i hb;simp only[Option.some.injEq]at h;subst h;exact⟨_,by simp[bP,hx,hy,eqGuard,binOp,Op.intDiv,hb],rfl⟩
 case rem =>
  split at h
  .cases h
  .rename_i hb;simp only[Option.some.injEq]at h;subst h;exact⟨_,by simp[bP,hx,hy,eqGuard,binOp,Op.intDiv,hb],rfl⟩
 all_goals
  subst h;exact⟨_,by simp[bP,hx,hy,eqGuard,binOp,Op.intCmp,Op.intArith,Op.intBits];first|rfl|done,rfl⟩
def X3{op:BinOp}{t t':bK}{x y:bI}{k k':IntKind}{a b:Int}{v:V}(hx:ev ρr x=.int k a)(hy:ev ρr y=.int k' b)(hs:op=.shl∨op=.shr)(h:RW op k a b=aY v):
  ∃u,(bP (ev ρr) ⟨dst,.binOp op t x y t',ty,pos,aft,gd⟩).run P w=.ok (.value u) w/\aT m Z v u:=by
 unfold RW at h;split at h
 .cases h
 .rename_i hb
  rcases hs with rfl|rfl<;>simp only[Option.some.injEq]at h<;>subst h<;>exact⟨_,by simp[bP,hx,hy,eqGuard,binOp,Op.shift,hb],rfl⟩
def zyg{op:BinOp}{t t':bK}{x y:bI}{a b:aj}{v:V}(hx:ev ρr x=.string ⟨a.toArray⟩)(hy:ev ρr y=.string ⟨b.toArray⟩)(h:Tq op a b=aY v):
  ∃u,(bP (ev ρr) ⟨dst,.binOp op t x y t',ty,pos,aft,gd⟩).run P w=.ok (.value u) w/\aT m Z v u:=by
 have e:(a==b)=decide (a=b):=by rw[eJ];simp
 cases op<;>simp only[Tq,Option.some.injEq,reduceCtorEq]at h<;>subst h <;>
  exact⟨_,by simp[bP,hx,hy,eqGuard,binOp,Op.stringOp,ByteArray.toList_eq,e];first|rfl|done,rfl⟩
def zCv{k:Tag}{v:V}{x:bx}(h:aT m Z v x)(hk:YK k v=bh):F3 k x=bh:=by
 cases k<;>cases v<;>simp only[YK,cI]at hk<;>simp only[aT]at h<;>subst h
 .exact hk
 .rfl
 .rfl
def K6:∀{ks:List Tag}{vs:List V}{l:List bx},zC m Z vs l->oH ks vs=bh->Kg ks l=bh
 |[],[],l,h,_=>by cases h;rfl
 |[],_::_,_,_,hk=>by cases hk
 |_::_,[],_,_,hk=>by cases hk
 |k::ks,v::vs,l,h,hk=>by obtain⟨x,xs,rfl,h2,h3⟩:=h;simp only[oH,bn]at hk;simp only[Kg,bn];exact⟨zCv h2 hk.1,K6 h3 hk.2⟩
def zG8{m':Option M}{k:Tag}{u v:V}{x y:bx}(h:aT m Z u x)(h':aT m' Z v y)(hk:YK k u=bh)(mu:YK k v=bh):E0 x y=Mc u v:=by
 cases k<;>cases u<;>simp only[YK,cI]at hk<;>cases v<;>simp only[YK,cI]at mu<;>simp only[aT]at h h'<;>subst h<;>subst h'<;>first|rfl|simp[E0,Mc]
def zsp:∀{ks:List Tag}{us vs:List V}{l k:List bx},zC m Z us l->zC m Z vs k->oH ks us=bh->oH ks vs=bh->Cm l k=IY us vs
 |[],[],[],l,k,h,h',_,_=>by cases h;cases h';rfl
 |[],_::_,_,_,_,_,_,hk,_=>by cases hk
 |[],[],_::_,_,_,_,_,_,hk=>by cases hk
 |_::_,[],_,_,_,_,_,hk,_=>by cases hk
 |_::_,_::_,[],_,_,_,_,_,hk=>by cases hk
 |k::ks,u::us,v::vs,l,l',h,h',hk,mu=>by
  obtain⟨x,xs,rfl,h2,h3⟩:=h;obtain⟨y,ys,rfl,h4,h5⟩:=h';simp only[oH,bn]at hk mu;have e1:=zG8 h2 h4 hk.1 mu.1;have e2:=zsp h3 h5 hk.2 mu.2
  cases us with
  |nil =>
   cases vs with
   |nil=>cases h3;cases h5;simp[Cm,IY,e1]
   |cons v' vs=>cases ks<;>simp only[oH,cI,and_false]at hk mu
  |cons u' us =>
   cases vs with
   |nil=>cases ks<;>simp only[oH,cI,and_false]at hk mu
   |cons v' vs=>simp only[Cm,IY,e1];rw[e2]
def zm6{t t':bK}{x y:bI}{u v:V}{b:Bool}(hx:aT m Z u (ev ρr x))(hy:aT m Z v (ev ρr y))(h:Md P t u v=aY b):
  (bP (ev ρr) ⟨dst,.binOp .eql t x y t',ty,pos,aft,gd⟩).run P w=.ok (.value (.bool b)) w/\(bP (ev ρr) ⟨dst,.binOp .neq t x y t',ty,pos,aft,gd⟩).run P w=.ok (.value (.bool (!b))) w:=by
 unfold Md at h;split at h
 .rename_i a a';split at h
  .rename_i hb;simp only[Option.some.injEq]at h;subst h;unfold Xr at hb;split at hb
   .rename_i ht;exact⟨zdt ht hx hy,zdu ht hx hy⟩
   .cases hb
  .cases h
 .rename_i l l';split at h
  .rename_i ks ml;split at h
   .rename_i hk;simp only[bn]at hk;simp only[Option.some.injEq]at h;subst h;obtain⟨c1,e1,r1⟩:=hx;obtain⟨c2,e2,r2⟩:=hy
    have hF:M_ P t ks:=by
     unfold zm5 at ml;split at ml
     .split at ml
      .rename_i hc;simp only[Option.some.injEq]at ml;subst ml;exact zCs hc
      .cases ml
     .cases ml
    have he:=zsp r1 r2 hk.1 hk.2;exact⟨zCt _ hF e1 e2 (K6 r1 hk.1) (K6 r2 hk.2) he,zCu _ hF e1 e2 (K6 r1 hk.1) (K6 r2 hk.2) he⟩
   .cases h
  .cases h
 .cases h
def Q7{op:BinOp}{t t':bK}{x y:bI}{u v r:V}(hx:aT m Z u (ev ρr x))(hy:aT m Z v (ev ρr y))(h:ID P op t u v=aY r):
  ∃z,(bP (ev ρr) ⟨dst,.binOp op t x y t',ty,pos,aft,gd⟩).run P w=.ok (.value z) w/\aT m Z r z:=by
 unfold ID at h;split at h
 .rename_i k a k' b;split at h
  .exact X3 hx hy (.inl rfl) h
  .exact X3 hx hy (.inr rfl) h
  .rename_i h1 h2;split at h
   .rename_i hk;subst hk;exact P3 hx hy ⟨h1,h2⟩ h
   .cases h
 .exact zyg hx hy h
 .split at h
  .obtain⟨b,hb,rfl⟩:=ca.1 h;exact⟨_,(zm6 hx hy hb).1,rfl⟩
  .obtain⟨b,hb,rfl⟩:=ca.1 h;exact⟨_,(zm6 hx hy hb).2,rfl⟩
  .cases h
end
def Ex(t:Bool)(a b:V):V:=
 match a,b with
 |.bool x,.bool y=>.bool (bif t then x else y)
 |.int k x,.int k' y=>if k=k' then .int k (bif t then x else y)else bif t then .int k x else .int k' y
 |.str x,.str y=>.str (bif t then x else y)
 |a,b=>bif t then a else b
def zyh{m:Option M}{Z:ZM}{t:Bool}{a b:V}{x y:bx}(ha:aT m Z a x)(hb:aT m Z b y):aT m Z (Ex t a b) (bif t then x else y):=by
 unfold Ex;split
 .cases t<;>assumption
 .split
  .rename_i hk;subst hk;cases t<;>assumption
  .cases t<;>assumption
 .cases t<;>assumption
 .cases t<;>assumption
def W5(P:bo)(s f:Nat):Option Nat:=
 match P.underlying s with
 |some (.struct fs)=>match fs[f]? with
  |some sd=>match P.info? sd.type with
   |some i=>if i.size=0 then bg else aY sd.offset
   |none=>bg
  |none=>bg
 |_=>bg
def zkp{P:bo}{s f o:Nat}(h:W5 P s f=aY o):RU P s f o:=by
 unfold W5 at h;split at h
 .rename_i fs hs;split at h
  .rename_i sd hf;split at h
   .rename_i i hi;split at h
    .cases h
    .rename_i hz;simp only[Option.some.injEq]at h;exact⟨fs,sd,i,hs,hf,h,hi,hz⟩
   .cases h
  .cases h
 .cases h
def oj(P:bo)(t:Nat):Option (Option Nat):=
 match P.underlying t,P.info? t with
 |some d,aY i=>if IB d then(if i.size=1 then aY bg else bg)else aY (aY i.size)
 |_,_=>bg
def xO{P:bo}{t:Nat}(h:oj P t=aY bg):SE P t:=by
 unfold oj at h;split at h
 .rename_i d i hd hi;split at h
  .rename_i hn;split at h
   .rename_i h1;exact⟨d,i,hd,hn,hi,h1⟩
   .cases h
  .cases h
 .cases h
def ve{P:bo}{t k:Nat}(h:oj P t=aY (aY k)):SD P t k:=by
 unfold oj at h;split at h
 .rename_i d i hd hi;split at h
  .split at h<;>cases h
  .rename_i hn;simp only[Option.some.injEq]at h;exact⟨d,i,hd,by simpa using hn,hi,h⟩
 .cases h
def nr(P:bo)(t:Nat)(cs:List V)(off:Nat):Option V:=
 match oj P t with
 |some bg=>match cs[off]? with|some v=>if v.one then aY v else bg|none=>bg
 |some (aY k)=>if cm (off+k) cs.length then aY (.agg ((cs.drop off).take k))else bg
 |none=>bg
def IE(P:bo)(s f:Nat)(cs:List V):Option V:=
 match P.underlying s with
 |some (.struct fs)=>match fs[f]? with
  |some sd=>nr P sd.type cs sd.offset
  |none=>bg
 |_=>bg
def Xs(P:bo)(src dst:Nat)(x:V):Option V:=
 match P.underlying src,P.underlying dst,x with
 |some _,aY (.int k),.int _ n=>aY (.int k (k.wrap n))
 |some _,aY .string,.str l=>aY (.str l)
 |_,_,_=>bg
def jE(P:bo)(t:Nat):Bool:=match P.underlying t with|some (.slice _)=>bh|_=>bf
def Es(P:bo)(t:Nat)(x:V):Option V:=
 match x with
 |.str l=>match P.underlying t with|some .string=>aY (.int .i64 l.length)|_=>bg
 |.sl _ _ _ _ n=>if jE P t then aY (.int .i64 n)else bg
 |.vs _ els=>if jE P t then aY (.int .i64 els.length)else bg
 |.gg=>if jE P t then aY (.int .i64 0)else bg
 |_=>bg
def YL(places:List (Nat×Nat))(cells:List V):List (Nat×V)->Option (List V)
 |[]=>aY cells
 |(i,v)::rest=>match places[i]? with
  |none=>bg
  |some (off,size)=>if v.plain&&(bm v.cells.length size&&cm (off+size) cells.length)then YL places (cells.take off++v.cells++cells.drop (off+size)) rest else bg
def MS(P:bo)(t:Nat)(parts:List (Nat×V)):Option (List V):=
 match P.info? t,P.underlying t with
 |some it,aY (.struct fields) =>
  match it.zero,fields.toList.mapM (λf=>(P.info? f.type).map λi=>(f.offset,i.size))with
  |some z,aY places=>YL places (z.cells.toList.map s3) parts
  |_,_=>bg
 |some it,aY (.array n e) =>
  match it.zero,P.info? e with
  |some z,aY ie=>YL ((dn n).map λi=>(i*ie.size,ie.size)) (z.cells.toList.map s3) parts
  |_,_=>bg
 |_,_=>bg
def KT(P:bo)(b:Builtin)(vs:List V)(ts:List bK):Option V:=
 match b with
 |.len=>match vs,ts with|[v],[t]=>Es P t v|_,_=>bg
 |.min=>match vs with|[.int k a,.int k' b]=>if k=k' then aY (.int k (min a b))else bg|_=>bg
 |.max=>match vs with
  |[.int k a,.int k' b]=>if k=k' then aY (.int k (max a b))else bg
  |[.int k a,.int k' b,.int Vj c]=>if k=k' then if k=Vj then aY (.int k (max (max a b) c))else bg else bg
  |_=>bg
 |_=>bg
def od(P:bo)(ρ:Env):Op->Option V
 |.move x|.assign x=>aY (aV ρ x)
 |.pick c a b=>match aV ρ c with|.bool t=>aY (Ex t (aV ρ a) (aV ρ b))|_=>bg
 |.binOp op t x y _=>match op with
  |.eql=>match F4 P t (aV ρ x) (aV ρ y)with
   |some b=>aY (.bool b)
   |none=>match F4 P t (aV ρ y) (aV ρ x)with
    |some b=>aY (.bool b)
    |none=>ID P .eql t (aV ρ x) (aV ρ y)
  |.neq=>match F4 P t (aV ρ x) (aV ρ y)with
   |some b=>aY (.bool (!b))
   |none=>match F4 P t (aV ρ y) (aV ρ x)with
    |some b=>aY (.bool (!b))
    |none=>ID P .neq t (aV ρ x) (aV ρ y)
  |op=>ID P op t (aV ρ x) (aV ρ y)
 |.unOp .not _ x=>match aV ρ x with|.bool b=>aY (.bool (!b))|_=>bg
 |.unOp .neg _ x=>match aV ρ x with|.int k n=>aY (.int k (k.wrap (0-n)))|_=>bg
 |.extract x i=>match aV ρ x with|.iN vs=>vs[i]?|_=>bg
 |.makeFunc (.func f) first cap=>aY (.fn f (first.toList.map (aV ρ)) (cap.toList.map (aV ρ)))
 |.convert src dst x=>Xs P src dst (aV ρ x)
 |.fieldAddr s x f=>match W5 P s f with
  |some o=>match aV ρ x with
   |.ptr k L off=>aY (.ptr k L (off+o))
   |.vp cs off=>aY (.vp cs (off+o))
   |_=>bg
  |none=>bg
 |.field s x f=>match aV ρ x with|.agg cs=>IE P s f cs|_=>bg
 |.load t a=>match aV ρ a with|.vp cs off=>nr P t cs off|_=>bg
 |.nilCheck x=>match aV ρ x with
  |.ptr k L off=>aY (.ptr k L off)
  |.vp cs off=>aY (.vp cs off)
  |.fn f first caps=>aY (.fn f first caps)
  |_=>bg
 |.call ⟨.builtin b,args,ts⟩=>KT P b (args.toList.map (aV ρ)) ts.toList
 |.build t parts=>(MS P t (parts.toList.map λp=>(p.1,aV ρ p.2))).map .agg
 |_=>bg
def qC:bx->Bool|.pointer _|.slice ..|.map _|.func ..|.nilFunc=>bh|_=>bf
section
variable{P:bo}{ρr:zS}{w:bF}{dst:Option Tmp}{ty:bK}{pos:String}{aft:Array Edge}{gd:Option (Nat×Bool)}{m:Option M}{Z:ZM}
def Mx{t t':bK}{x y:bI}{X Y:bx}{b:Bool}(hx:ev ρr x=X)(hy:ev ρr y=Y)(h1:qC X=bh)(h2:qC Y=bh)(h:(Op.equalIn (9999+1) t X Y).run P w=.ok b w):
  (bP (ev ρr) ⟨dst,.binOp .eql t x y t',ty,pos,aft,gd⟩).run P w=.ok (.value (.bool b)) w/\(bP (ev ρr) ⟨dst,.binOp .neq t x y t',ty,pos,aft,gd⟩).run P w=.ok (.value (.bool (!b))) w:=by
 have h':(Op.equal t X Y).run P w=.ok b w:=h
 cases X<;>simp only[qC,cI]at h1<;>cases Y<;>simp only[qC,cI]at h2 <;>
  exact⟨by simp only[bP,hx,hy,eqGuard,binOp];simp[h'],by simp only[bP,hx,hy,eqGuard,binOp];simp[h']⟩
def zsq(d:Nat){t:bK}{u v:V}{X Y:bx}{b:Bool}(hx:aT m Z u X)(hy:aT m Z v Y)(hf:WE u v=bh)(hn:BK P t v=bh)(h:Ig u=aY b):
  qC X=bh/\qC Y=bh/\(Op.equalIn (d+1) t X Y).run P w=.ok b w/\(Op.equalIn (d+1) t Y X).run P w=.ok b w:=by
 have fin:∀{b':Bool},aY b'=aY b->b'=b:=λe=>by injection e
 cases v with
 |mx =>
  simp only[BK]at hn;split at hn
  .rename_i ht;simp only[aT]at hy;subst hy
   cases u<;>first
    |(cases hf;done)
    |(simp only[aT]at hx;cases fin h;subst hx;simp[qC,Op.equalIn,run_underlying ht];done)
    |(simp only[aT]at hx;cases fin h;obtain⟨_,_,_,_,rfl⟩:=hx;simp[qC,Op.equalIn,run_underlying ht];done)
    |(simp only[aT]at hx;cases fin h;obtain⟨_,rfl,_⟩:=hx;simp[qC,Op.equalIn,run_underlying ht];done)
  .cases hn
 |gg =>
  simp only[BK]at hn;split at hn
  .rename_i ht;simp only[aT]at hy;subst hy
   cases u<;>first
    |(cases hf;done)
    |(simp only[aT]at hx;cases fin h;subst hx;simp[qC,Op.equalIn,run_underlying ht];done)
    |skip
   .rename_i sz k L o n;obtain⟨g,loc,_,_,h3,_,h5⟩:=hx
    cases L with
    |zero=>simp[Ig]at h
    |succ L =>
     cases n with
     |zero=>simp[Ig]at h
     |succ n =>
      cases fin h
      rcases h5 with rfl|⟨h5,_⟩|⟨_,h5,_⟩
      .simp[qC,Op.equalIn,run_underlying ht]
      .omega
      .omega
   rename_i sz els;obtain⟨A,c,rfl,_,_,h4⟩:=hx
   cases els with
   |nil=>simp[Ig]at h
   |cons e els =>
    cases fin h
    rcases h4 with h4|⟨a,rfl,_⟩
    .cases h4
    .simp[qC,Op.equalIn,run_underlying ht]
  .cases hn
 |nd =>
  simp only[BK]at hn;split at hn
  .rename_i ht;simp only[aT]at hy;subst hy
   cases u<;>first
    |(cases hf;done)
    |(simp only[aT]at hx;cases fin h;subst hx;simp[qC,Op.equalIn,run_underlying ht];done)
    |(simp only[aT]at hx;cases fin h;obtain⟨_,_,rfl,_⟩:=hx;simp[qC,Op.equalIn,run_underlying ht];done)
  .cases hn
 |mD =>
  simp only[BK]at hn;split at hn
  .rename_i ht;simp only[aT]at hy;subst hy
   cases u<;>first
    |(cases hf;done)
    |(simp only[aT]at hx;cases fin h;subst hx;simp[qC,Op.equalIn,run_underlying ht];done)
    |(simp only[aT]at hx;cases fin h;obtain⟨_,_,_,_,rfl⟩:=hx;simp[qC,Op.equalIn,run_underlying ht];done)
  .cases hn
 |_=>cases hn
def K7{t t':bK}{x y:bI}{u v:V}{b:Bool}(hx:aT m Z u (ev ρr x))(hy:aT m Z v (ev ρr y))(h:F4 P t u v=aY b):
  ((bP (ev ρr) ⟨dst,.binOp .eql t x y t',ty,pos,aft,gd⟩).run P w=.ok (.value (.bool b)) w/\(bP (ev ρr) ⟨dst,.binOp .neq t x y t',ty,pos,aft,gd⟩).run P w=.ok (.value (.bool (!b))) w) /\
  ((bP (ev ρr) ⟨dst,.binOp .eql t y x t',ty,pos,aft,gd⟩).run P w=.ok (.value (.bool b)) w/\(bP (ev ρr) ⟨dst,.binOp .neq t y x t',ty,pos,aft,gd⟩).run P w=.ok (.value (.bool (!b))) w):=by
 unfold F4 at h;split at h
 .rename_i hh;simp only[bn]at hh;obtain⟨h1,h2,h3,h4⟩:=zsq (P:=P) (w:=w) 9999 hx hy hh.2 hh.1 h;exact⟨Mx rfl rfl h1 h2 h3,Mx rfl rfl h2 h1 h4⟩
 .cases h
def zC.tmps{ρ:Env}{f:bI->V}{g:bI->bx}:∀(l:List bI),(∀x∈l,aT m Z (f x) (g x))->zC m Z (l.map f) (l.map g)
 |[],_=>rfl
 |x::l,h=>⟨_,_,rfl,h x ak,zC.tmps (ρ:=ρ) l λy hy=>h y (iO _ hy)⟩
def YM{off:Nat}{cs us:List V}{l k:List bx}(h:zC m Z cs l)(h':zC m Z us k):zC m Z (cs.take off++us++cs.drop (off+us.length)) (l.take off++k++l.drop (off+k.length)):=by rw[h'.length];exact((h.take off).append h').append (h.drop _)
def K8{α:Type}(v:α):∀(l:List α)(n:Nat),n<l.length->(l.set n v).take (n+1)=l.take n++[v]
 |[],n,h=>by simp at h
 |a::l,0,_=>ae
 |a::l,n+1,h=>by have:=K8 v l n (by simpa using h);simp[this]
def K9{α:Type}(v:α):∀(l:List α)(n k:Nat),n<k->(l.set n v).drop k=l.drop k
 |[],n,k,_=>ae
 |a::l,0,k+1,_=>ae
 |a::l,n+1,k+1,h=>by have:=K9 v l n k ab;simp[this]
def YN{α:Type}:∀(vs:List α)(j off:Nat)(a:Array α),off+j+vs.length<=a.size ->
  ((vs.zipIdx j).foldl (λcs (p:α×Nat)=>cs.setIfInBounds (off+p.2) p.1) a).toList=a.toList.take (off+j)++vs++a.toList.drop (off+j+vs.length)
 |[],j,off,a,_=>ae
 |v::vs,j,off,a,h=>by
  simp only[lc]at h;rw[List.zipIdx_cons,List.foldl_cons,YN vs (j+1) off _ (by simp;omega)];have hl:a.toList.length=a.size:=ae;simp only[Array.toList_setIfInBounds,lc];rw[<- ff off j 1,K8 v a.toList (off+j) ab,K9 v a.toList (off+j) _ ab];rw[tF,tF,tF]
  congr 1
  simp only[dj,cw]
  congr 3;omega
def W6{places:List (Nat×Nat)}{place:Nat->Option (Nat×Nat)}(LC:∀i p,places[i]?=aY p->place i=aY p):∀{parts:List (Nat×V)}{ps:List (Nat×bx)}{cells r:List V}{a:Array bx},zC m Z cells a.toList ->
  (ps.map (·.1)=parts.map (·.1))->zC m Z (parts.map (·.2)) (ps.map (·.2))->YL places cells parts=aY r->∃a':Array bx,Instr.fill place a ps=aY a'/\zC m Z r a'.toList
 |[],ps,cells,r,a,hc,h1,h2,h=>by
  simp only[YL,Option.some.injEq]at h;subst h;simp at h1;subst h1;exact⟨a,rfl,hc⟩
 |(i,v)::parts,[],cells,r,a,hc,h1,h2,h=>by simp at h1
 |(i,v)::parts,(i',x)::ps,cells,r,a,hc,h1,h2,h=>by
  simp only[ij,List.cons.injEq]at h1;obtain⟨rfl,h1⟩:=h1;obtain⟨y,ys,h3,h4,h5⟩:=h2;simp only[ij,List.cons.injEq]at h3;obtain⟨rfl,rfl⟩:=h3;simp only[YL]at h;split at h
  .cases h
  .rename_i off size hp;split at h
   .rename_i hk;simp only[bn]at hk;obtain⟨hpv,l6,my⟩:=hk;have l6:=eb l6;have my:=mi my;have UF:=h4.cells hpv
    have hlen:x.cells.size=size:=by have:=UF.length;simp at this;omega
    have hal:a.size=cells.length:=by have:=hc.length;simpa using this
    have aa5:=YN x.cells.toList 0 off a (by simp;omega);simp only[dK]at aa5
    have hz:(x.cells.zipIdx.foldl (λcs (p:bx×Nat)=>cs.setIfInBounds (off+p.2) p.1) a)=(x.cells.toList.zipIdx 0).foldl (λcs (p:bx×Nat)=>cs.setIfInBounds (off+p.2) p.1) a:=by rw[<- Array.foldl_toList];simp
    have OT:=YM (off:=off) hc UF;have e:off+size=off+v.cells.length:=ab;rw[e]at h;obtain⟨a',h6,h7⟩:=W6 LC (a:=x.cells.zipIdx.foldl (λcs (p:bx×Nat)=>cs.setIfInBounds (off+p.2) p.1) a) (by rw[hz,aa5];simpa using OT) h1 h5 h;refine⟨a',?_,h7⟩;simp only[Instr.fill,LC _ _ hp];rw[aN (by simp[hlen];omega)];exact h6
   .cases h
end
section
variable{P:bo}{ρ:Env}{ρr:zS}{w:bF}{dst:Option Tmp}{ty:bK}{pos:String}{aft:Array Edge}{gd:Option (Nat×Bool)}{m:Option M}{Z:ZM}
def JG(a:Addr)(i j:Nat):(a.add i).add j=a.add (i+j):=Go.Deep.add_add a i j
def zyi{t off:Nat}{cs:List V}{v:V}{x:bI}{a:Addr}{mm:Option M}(hW:∀a x,Z a=aY x->w.cell? a=aY x)(hx:ev ρr x=.pointer (aY (a.add off)))(hr:qV Z a 0 cs)(h:nr P t cs off=aY v):
  ∃u,(bP (ev ρr) ⟨dst,.load t x,ty,pos,aft,gd⟩).run P w=.ok (.value u) w/\aT mm Z v u:=by
 unfold nr at h;split at h
 .rename_i hs;split at h
  .rename_i v' hv;split at h
   .cases h;obtain⟨u,h1,h2⟩:=hr.get hv;rw[cl]at h1;exact⟨u,xu (xO hs) hx (hW _ _ h1),h2.BU⟩
   .cases h
  .cases h
 .rename_i k hs;split at h
  .rename_i hk;have hk:=mi hk;cases h
   have hex:∀j,j<k->∃u v,cs[off+j]?=aY v/\w.cell? (a.add (off+j))=aY u/\aT bg Z v u:=λj hj=>by have hc:cs[off+j]?=aY (cs[off+j]' ab):=bA ab;obtain⟨u,h1,h2⟩:=hr.get hc;rw[cl]at h1;exact⟨u,_,hc,hW _ _ h1,h2⟩
   let us:List bx:=(dn k).map λj=>((w.cell? (a.add (off+j))).getD Go.undef)
   have U5:us.length=k:=by simp[us]
   have ra:∀j,j<k->us[j]?=w.cell? (a.add (off+j)):=λj hj=>by obtain⟨u,v,_,h2,_⟩:=hex j hj;simp[us,hj,h2]
   refine⟨.agg us.toArray,w9 us (ve hs) hx U5 λj u hj=>?_,us,rfl,?_⟩
   .have B3:j<k:=by have:=(bq.1 hj).1;omega
    rw[JG,<- ra j B3];exact hj
   .refine zC.po (by simp[U5];omega) λj v u hv hu=>?_
    have B3:j<k:=by have:=(bq.1 hu).1;omega
    rw[cj,aO B3,cW]at hv;obtain⟨u',v',h1,h2,h3⟩:=hex j B3;rw[hv]at h1;cases h1;rw[ra j B3,h2]at hu;cases hu;exact h3.BU
  .cases h
 .cases h
def zpy{t off:Nat}{cs:List V}{v:V}{l:List bx}(hr:zC m Z cs l)(h:nr P t cs off=aY v):∃u,(part t l.toArray off).run P w=.ok u w/\aT m Z v u:=by
 unfold nr at h;split at h
 .rename_i hs;split at h
  .rename_i v' hv;split at h
   .cases h;obtain⟨u,h1,h2⟩:=hr.get hv;exact⟨u,by simp[part,kC (xO hs),h1],h2⟩
   .cases h
  .cases h
 .rename_i k hs;split at h
  .rename_i hk;have hk:=mi hk;cases h;obtain⟨d,i,hd,hn,hi,DX⟩:=id (ve hs);refine⟨.agg ((l.drop off).take k).toArray,?_,_,rfl,(hr.drop off).take k⟩
   have e:l.toArray.extract off (off+k)=((l.drop off).take k).toArray:=by apply fZ;simp[gD]
   simp[part,AK (ve hs),sizeOf,typeInfo,hi,DX,e]
  .cases h
 .cases h
def zkq{t:bK}{x:bI}{v r:V}(hx:aT m Z v (ev ρr x))(h:Es P t v=aY r):
  ∃u,(bP (ev ρr) ⟨dst,.call ⟨.builtin .len,#[x],#[t]⟩,ty,pos,aft,gd⟩).run P w=.ok (.value u) w/\aT m Z r u:=by
 have Ht:∀{A n c},ev ρr x=.slice A n c->jE P t=bh->(bP (ev ρr) ⟨dst,.call ⟨.builtin .len,#[x],#[t]⟩,ty,pos,aft,gd⟩).run P w=.ok (.value (i64 n)) w:=λhv hs=>by
  unfold jE at hs;split at hs
  .rename_i e ht;exact oF ht hv
  .cases hs
 unfold Es at h;split at h
 .split at h
  .rename_i ht;cases h;exact⟨_,zkm ht hx,rfl⟩
  .cases h
 .split at h
  .rename_i hs;cases h;obtain⟨_,_,_,_,h3,_,hv|⟨h0,A,hv⟩|⟨_,h0,A,c',hv,_⟩⟩:=hx
   .exact⟨_,Ht hv hs,rfl⟩
   .have h6:=(Nat.add_eq_zero_iff.1 (Nat.le_zero.1 (h0▸h3))).2;subst h6;exact⟨_,Ht hv hs,rfl⟩
   .subst h0;exact⟨_,Ht hv hs,rfl⟩
  .cases h
 .split at h
  .rename_i hs;cases h;obtain⟨_,_,hv,_⟩:=hx;exact⟨_,Ht hv hs,rfl⟩
  .cases h
 .split at h
  .rename_i hs;cases h;exact⟨_,Ht hx hs,rfl⟩
  .cases h
 .cases h
def zCx{α β:Type}{f:α->β}{l:List α}{b:β}(h:l.map f=[b]):∃x,l=[x]/\f x=b:=by
 match l,h with
 |[x],h=>exact⟨x,rfl,by simpa using h⟩
def zsr{α β:Type}{f:α->β}{l:List α}{b c:β}(h:l.map f=[b,c]):∃x y,l=[x,y]/\f x=b/\f y=c:=by
 match l,h with
 |[x,y],h=>exact⟨x,y,rfl,by simpa using h⟩
def zss{α β:Type}{f:α->β}{l:List α}{b c d:β}(h:l.map f=[b,c,d]):∃x y z,l=[x,y,z]/\f x=b/\f y=c/\f z=d:=by
 match l,h with
 |[x,y,z],h=>exact⟨x,y,z,rfl,by simpa using h⟩
def X4{op:Op}{v:V}(h:od P ρ op=aY v)(e9:∀x∈op.operands,aT m Z (aV ρ x) (ev ρr x))(hW:∀a x,Z a=aY x->w.cell? a=aY x):
  vu op=bh/\∃u,(bP (ev ρr) ⟨dst,op,ty,pos,aft,gd⟩).run P w=.ok (.value u) w/\aT m Z v u:=by
 unfold od at h;split at h
 .cases h;exact⟨rfl,_,by simp[bP],e9 _ (by simp[Op.operands])⟩
 .cases h;exact⟨rfl,_,by simp[bP],e9 _ (by simp[Op.operands])⟩
 .rename_i c a b;split at h
  .rename_i t hc;cases h;have h1:=e9 c (by simp[Op.operands]);rw[hc]at h1;simp only[aT]at h1;refine⟨rfl,_,?_,zyh (t:=t) (e9 a (by simp[Op.operands])) (e9 b (by simp[Op.operands]))⟩;simp only[bP,h1,asBool];cases t<;>simp
  .cases h
 .rename_i op t x y t';have hx:=e9 x (by simp[Op.operands]);have hy:=e9 y (by simp[Op.operands]);split at h
  .split at h
   .rename_i b hb;cases h;exact⟨rfl,_,(K7 hx hy hb).1.1,rfl⟩
   .split at h
    .rename_i b hb;cases h;exact⟨rfl,_,(K7 hy hx hb).2.1,rfl⟩
    .exact⟨rfl,Q7 hx hy h⟩
  .split at h
   .rename_i b hb;cases h;exact⟨rfl,_,(K7 hx hy hb).1.2,rfl⟩
   .split at h
    .rename_i b hb;cases h;exact⟨rfl,_,(K7 hy hx hb).2.2,rfl⟩
    .exact⟨rfl,Q7 hx hy h⟩
  .exact⟨rfl,Q7 hx hy h⟩
 .rename_i t x;have hx:=e9 x (by simp[Op.operands]);split at h
  .rename_i b hb;cases h;rw[hb]at hx;simp only[aT]at hx;exact⟨rfl,_,by simp[bP,hx,Op.unary],rfl⟩
  .cases h
 .rename_i t x;have hx:=e9 x (by simp[Op.operands]);split at h
  .rename_i k n hb;cases h;rw[hb]at hx;simp only[aT]at hx;exact⟨rfl,_,by simp[bP,hx,Op.unary,Op.intArith],rfl⟩
  .cases h
 .rename_i x i;have hx:=e9 x (by simp[Op.operands]);split at h
  .rename_i vs hv;rw[hv]at hx;obtain⟨l,e,hl⟩:=hx;obtain⟨u,h1,h2⟩:=hl.get h;exact⟨rfl,u,by simp[bP,e,Instr.extract,h1],h2⟩
  .cases h
 .rename_i f first cap
  cases h
  have e:∀l:Array bI,l.map (ev ρr)=(l.toList.map (ev ρr)).toArray:=λl=>fZ ae
  refine⟨rfl,.func (.func f) (first.toList.map (ev ρr)).toArray (cap.toList.map (ev ρr)).toArray,by simp only[bP,Instr.makeFunc,e];rfl,_,_,rfl,?_,?_⟩
  .exact zC.tmps (ρ:=ρ) _ λx hx=>e9 x (by simp[Op.operands];exact .inl (by simpa using hx))
  .exact zC.tmps (ρ:=ρ) _ λx hx=>e9 x (by simp[Op.operands];exact .inr (by simpa using hx))
 .rename_i src ajO x;have hx:=e9 x (by simp[Op.operands]);unfold Xs at h;split at h
  .rename_i d k k' n h1 h2 h3;cases h;rw[h3]at hx;simp only[aT]at hx;refine⟨rfl,_,?_,rfl⟩;simp[bP,convert,run_underlying h1,run_underlying h2,hx,Conv.intToInt]
  .rename_i d l h1 h2 h3;cases h;rw[h3]at hx;simp only[aT]at hx;refine⟨rfl,_,?_,rfl⟩;simp[bP,convert,run_underlying h1,run_underlying h2,hx]
  .cases h
 .rename_i s x f;have hx:=e9 x (by simp[Op.operands]);split at h
  .rename_i o ho;have hF:=zkp ho;split at h
   .rename_i k L off hv;cases h;rw[hv]at hx;obtain⟨g,loc,h1,h2,h3⟩:=hx;exact⟨rfl,_,ab5 hF rfl h3,g,loc,h1,h2,rfl⟩
   .rename_i cs off hv;cases h;rw[hv]at hx;obtain⟨a,h1,h2⟩:=hx;exact⟨rfl,_,K4 hF h1,a,by rw[JG],h2⟩
   .cases h
  .cases h
 .rename_i s x f;have hx:=e9 x (by simp[Op.operands]);split at h
  .rename_i cs hv;rw[hv]at hx;obtain⟨l,e,hl⟩:=hx;unfold IE at h;split at h
   .rename_i fs hs;split at h
    .rename_i sd hf;obtain⟨u,h1,h2⟩:=zpy (w:=w) hl h;exact⟨rfl,u,by simp[bP,Instr.field,run_underlying hs,hf,e,asAgg,h1],h2⟩
    .cases h
   .cases h
  .cases h
 .rename_i t x;have hx:=e9 x (by simp[Op.operands]);split at h
  .rename_i cs off hv;rw[hv]at hx;obtain⟨a,h1,h2⟩:=hx;exact⟨rfl,zyi hW h1 h2 h⟩
  .cases h
 .rename_i x;have hx:=e9 x (by simp[Op.operands]);split at h
  .rename_i hv;cases h;rw[hv]at hx;obtain⟨g,loc,h1,h2,h3⟩:=id hx;exact⟨rfl,_,by simp[bP,h3];rfl,by rw[h3]at hx;exact hx⟩
  .rename_i hv;cases h;rw[hv]at hx;obtain⟨a,h3,h4⟩:=id hx;exact⟨rfl,_,by simp[bP,h3];rfl,by rw[h3]at hx;exact hx⟩
  .rename_i hv;cases h;rw[hv]at hx;obtain⟨a,b,h3,h4⟩:=id hx;exact⟨rfl,_,by simp[bP,h3];rfl,by rw[h3]at hx;exact hx⟩
  .cases h
 .rename_i b args ts;obtain⟨args⟩:=args;obtain⟨ts⟩:=ts;refine⟨rfl,?_⟩
  have nv:∀x∈args,aT m Z (aV ρ x) (ev ρr x):=λx hx=>e9 x (by simp[Op.operands,Call.operands,hx])
  unfold KT at h;simp only at h;split at h
  .split at h
   .rename_i v t hv;obtain⟨x,rfl,rfl⟩:=zCx hv;exact zkq (nv x ae) h
   .cases h
  .split at h
   .rename_i k a k' b hv;obtain⟨x,y,rfl,sB⟩:=zsr hv
    .skip
     have hx:=nv x ae;have hy:=nv y ae;rw[sB.1]at hx;rw[sB.2]at hy;split at h
     .rename_i hk;subst hk;cases h;have h':(if b<a then b else a)=min a b:=ab;exact⟨_,by simp[bP,resolve,invoke,builtin,(show ev ρr x=_ from hx),(show ev ρr y=_ from hy),Builtin.min_,Builtin.min2,h'],rfl⟩
     .cases h
   .cases h
  .split at h
   .rename_i k a k' b hv;obtain⟨x,y,rfl,sB⟩:=zsr hv
    .skip
     have hx:=nv x ae;have hy:=nv y ae;rw[sB.1]at hx;rw[sB.2]at hy;split at h
     .rename_i hk;subst hk;cases h;have h':(if b>a then b else a)=max a b:=ab;exact⟨_,by simp[bP,resolve,invoke,builtin,(show ev ρr x=_ from hx),(show ev ρr y=_ from hy),Builtin.max_,Builtin.max2,h'],rfl⟩
     .cases h
   .rename_i k a k' b Vj c hv;obtain⟨x,y,z,rfl,sB⟩:=zss hv
    .skip
     have hx:=nv x ae;have hy:=nv y ae;have hz:=nv z ae;rw[sB.1]at hx;rw[sB.2.1]at hy;rw[sB.2.2]at hz;split at h
     .rename_i hk;subst hk;split at h
      .rename_i hk;subst hk;cases h;have h1:(if b>a then b else a)=max a b:=ab;have h2:(if c>max a b then c else max a b)=max (max a b) c:=ab;exact⟨_,by simp[bP,resolve,invoke,builtin,(show ev ρr x=_ from hx),(show ev ρr y=_ from hy),(show ev ρr z=_ from hz),Builtin.max_,Builtin.max2,h1,h2],rfl⟩
      .cases h
     .cases h
   .cases h
  .cases h
 .rename_i t parts;obtain⟨cs,hb,rfl⟩:=ca.1 h
  have abg:zC m Z ((parts.toList.map λp=>(p.1,aV ρ p.2)).map (·.2)) ((parts.toList.map λp=>(p.1,ev ρr p.2)).map (·.2)):=by
   rw[cU,cU]
   refine zC.po ae λi v x hv hx=>?_
   rw[cz]at hv hx;obtain⟨p,hp,rfl⟩:=ca.1 hv;rw[hp]at hx;simp only[de,Option.some.injEq,Function.comp]at hx;subst hx;exact e9 p.2 (by have:=bW hp;simp only[Op.operands,iR];exact cG this)
  have aaE:(parts.toList.map λp=>(p.1,ev ρr p.2)).map (·.1)=(parts.toList.map λp=>(p.1,aV ρ p.2)).map (·.1):=ae
  have key:∃a:Array bx,P.built t (parts.toList.map λp=>(p.1,ev ρr p.2))=aY a/\zC m Z cs a.toList:=by
   unfold MS at hb;unfold Program.built;split at hb
   .rename_i it fields h1 h2;simp only[h1,h2];split at hb
    .rename_i z places h3 h4;simp only[h3,h4];exact W6 (places:=places) (by intro i p hp;simpa using hp) (o6 _) aaE abg hb
    .cases hb
   .rename_i it n e h1 h2;simp only[h1,h2];split at hb
    .rename_i z ie h3 h4;simp only[h3,h4];refine W6 (places:=(dn n).map λi=>(i*ie.size,ie.size)) ?_ (o6 _) aaE abg hb;intro i p hp;rw[cz]at hp;obtain⟨j,hj,rfl⟩:=ca.1 hp
     have ib:i<n:=by have:=(bq.1 hj).1;simpa using this
     rw[dM ib]at hj;cases hj;rfl
    .cases hb
   .cases hb
  obtain⟨a,ha,hr⟩:=key;refine⟨rfl,.agg a,?_,a.toList,ae,hr⟩;have:=zpw (P:=P) (ρ:=ρr) (w:=w) (dst:=dst) (ty:=ty) (pos:=pos) (aft:=aft) (gd:=gd) (t:=t) (parts:=parts.toList) _ a.toList rfl (by simpa using ha);simpa using this
 .cases h
end
section
variable{m m':M}{Z Z':ZM}{w w':bF}{k:Nat}{o o':Obj}{b:Nat}
def Qa(ob:Go.Obj){j:Nat}(h:j<w.heap.size):(w.alloc ob).heap[j]?=w.heap[j]?:=Below.heap_alloc w ob j h
def xv(hf:∀a x,Z a=aY x->w.cell? a=aY x){a:Addr}{x:bx}(ha:Z a=aY x):a.block<w.heap.size:=World.block_lt_of_cell? w a (hf a x ha)
def jF{a:Addr}(h:w'.heap[a.block]?=w.heap[a.block]?):w'.cell? a=w.cell? a:=by simp only[World.cell?,h]
def Step.new(ob:Go.Obj)(loc:Nat)(hf:∀a x,Z a=aY x->w.cell? a=aY x)(hm:∀L,m k L=bg)
  (hh:∀m',m' k o.ver=aY (w.heap.size,loc)->(∀L l,m' k L=aY l->L=o.ver)->(∀k L l,m k L=aY l->m' k L=aY l)->Holds m' Z (w.alloc ob) k o):
  ∃m',Step m Z [] w m' Z [(k,o)] (w.alloc ob)/\m' k o.ver=aY (w.heap.size,loc):=by
 let m':M:=λk' L=>if k'=k then(if L=o.ver then aY (w.heap.size,loc)else bg)else m k' L
 have h1:m' k o.ver=aY (w.heap.size,loc):=by simp[m']
 have h2:∀k L l,m k L=aY l->m' k L=aY l:=λk' L l e=>by
  by_cases hk:k'=k
  .subst hk;rw[hm]at e;cases e
  .simp[m',hk,e]
 have h3:∀L l,m' k L=aY l->L=o.ver:=λL l e=>by
  simp only[m',if_true]at e;split at e
  .assumption
  .cases e
 refine⟨m',⟨⟨λa x ha=>?_,λp hp=>?_,by simp[keys],λp hp q hq _ _ _=>?_⟩,h2,λ_ _ e=>e,rfl,rfl,rfl,by rw[World.size_alloc];omega,λb hb _=>Qa ob hb,λk hk=>(by cases hk),λk' hk=>?_,λp hp b hb=>?_,λa x ha=>.inl ha⟩,h1⟩
 .rw[jF (Qa ob (xv hf ha))];exact hf a x ha
 .simp only[b_]at hp;subst hp;exact hh m' h1 h3 h2
 .simp only[b_]at hp hq;subst hp;subst hq;rfl
 .funext L
  have:k'≠k:=by simpa[keys]using hk
  simp[m',this]
 .simp only[b_]at hp;subst hp;obtain⟨j,c,e1,_⟩:=zya hb;have e2:=h3 _ _ e1;subst e2;rw[h1]at e1;cases e1;exact .inl al
def Obj.single:Obj->Bool|.nest ..|.gen _=>bf|_=>bh
def My{m:M}{k:Nat}{o o':Obj}(hv:o'.ver=o.ver)(h1:o.single=bh)(h2:o'.single=bh)(b:Nat)(h:gM m (k,o') b):gM m (k,o) b:=by
 cases o<;>cases o'<;>simp only[Obj.single,cI]at h1 h2<;>(simp only[gM,oi,hv]at h ⊢;exact h)
def Step.write(hs:w8 m Z [(k,o)] w)(hb:gM m (k,o) b)(hv:∀b2,gM m (k,o') b2->gM m (k,o) b2)(h1:w'.os=w.os)(h2:w'.tape=w.tape)(h3:w'.output=w.output)(h4:w'.heap.size=w.heap.size)
  (hw:∀j,j≠b->w'.heap[j]?=w.heap[j]?) (hz:∀a x,Z a=aY x->a.block=b->w'.cell? a=aY x) (hh:Holds m Z w' k o'):Step m Z [(k,o)] w m Z [(k,o')] w':=by
 refine⟨⟨λa x ha=>?_,λp hp=>?_,by simp[keys],λp hp q hq _ _ _=>?_⟩,λ_ _ _ e=>e,λ_ _ e=>e,h1,h2,h3,ab,λj hj hn=>hw j λe=>?_,λk hk=>?_,λ_ _=>rfl,λp hp b2 pZ=>?_,λa x ha=>.inl ha⟩
 .by_cases e:a.block=b
  .exact hz a x ha e
  .rw[jF (hw _ e)];exact hs.frozen a x ha
 .simp only[b_]at hp;subst hp;exact hh
 .simp only[b_]at hp hq;subst hp;subst hq;rfl
 .subst e;exact hn _ (b_.2 rfl) hb
 .simpa[keys]using hk
 .simp only[b_]at hp;subst hp;exact .inr ⟨_,b_.2 rfl,hv _ pZ⟩
end
inductive Gs where
 |pure (v:V)
 |read (k:Nat) (v:V)
 |write (k:Nat) (o:Obj) (v:V)
 |new (k:Nat) (o:Obj) (v:V)
def vJ(P:bo)(t n:Nat):Bool:=match P.info? t with|some i=>bm i.size n|none=>bf
def zeroV(P:bo)(t:Nat):Option (List V):=
 match P.info? t with
 |some i=>match i.zero with|some z=>aY (z.cells.toList.map s3)|none=>bg
 |none=>bg
def kP(P:bo)(t:Nat):Option (Nat×Nat):=
 match P.underlying t with
 |some (.slice e)=>match P.info? e with
  |some i=>if cm 1 i.size&&i.zero.isSome then aY (e,i.size)else bg
  |none=>bg
 |_=>bg
def Ey(n sz:Nat)(parts:List (Nat×V)):Option (List (List V)):=
 if(parts.map (·.1))=dn n then
  if parts.all (λp=>p.2.plain&&(bm p.2.cells.length sz&&(p.2.cells.all V.one&&p.2.refs.isEmpty)))then aY (parts.map (·.2.cells))else bg
 else bg
def Me(P:bo)(ρ:Env)(H:aw)(d:Nat)(op:Op):Option Gs:=
 match od P ρ op with
 |some v=>aY (.pure v)
 |none=>match op with
  |.load t a=>match aV ρ a with
   |.ptr k 0 off=>match H.get k with
    |some (.box _ cs)=>(nr P t cs off).map (.read k)
    |_=>bg
   |_=>bg
  |.store t a x=>match aV ρ a with
   |.ptr k 0 off=>match H.get k with
    |some (.box bt cs)=>if(aV ρ x).plain&&((aV ρ x).cells.all V.one&&(vJ P t (aV ρ x).cells.length&&cm (off+(aV ρ x).cells.length) cs.length))
      then aY (.write k (.box bt (cs.take off++(aV ρ x).cells++cs.drop (off+(aV ρ x).cells.length))) .no)else bg
    |_=>bg
   |_=>bg
  |.alloc t=>(zeroV P t).map λcs=>.new d (.box t cs) (.ptr d 0 0)
  |.box t x=>if(aV ρ x).plain then aY (.new d (.box t (aV ρ x).cells) (.ptr d 0 0))else bg
  |.buildSlice t n parts=>match kP P t with
   |some (e,sz)=>if cm (n*sz) 16777216 then(Ey n sz (parts.toList.map λp=>(p.1,aV ρ p.2))).map λels=>.new d (.row e sz 0 els) (.sl sz d n 0 n)else bg
   |none=>bg
  |.makeMap _ bg=>aY (.new d (.map []) (.mp d))
  |_=>bg
section
variable{P:bo}{ρ:Env}{w:bF}{dst:Option Tmp}{ty:bK}{pos:String}{aft:Array Edge}{gd:Option (Nat×Bool)}
def PV{op:Op}{v:V}(h:od P ρ op=aY v):Loc P ⟨dst,op,ty,pos,aft,gd⟩ ρ [] v []:=by intro ρr m Z w e9 hs _;obtain⟨hn,u,h1,h2⟩:=X4 (P:=P) (w:=w) (dst:=dst) (ty:=ty) (pos:=pos) (aft:=aft) (gd:=gd) h e9 hs.frozen;exact⟨hn,.inl ⟨u,w,h1,m,Z,Step.refl hs,h2⟩⟩
def zm8{t k off:Nat}{a:bI}{bt:Nat}{cs:List V}{v:V}(ha:aV ρ a=.ptr k 0 off)(h:nr P t cs off=aY v):Loc P ⟨dst,.load t a,ty,pos,aft,gd⟩ ρ [(k,.box bt cs)] v [(k,.box bt cs)]:=by
 intro ρr m Z w e9 hs _;have hx:=e9 a (by simp[Op.operands]);rw[ha]at hx;obtain⟨f,loc,h1,h2,h3⟩:=hx;cases h1;obtain⟨b,cur,g1,g2,g3,g4,g5⟩:=hs.holds _ (b_.2 rfl);rw[g1]at h2;cases h2
 have pj:∀j u,cur.toList[j]?=aY u->w.cell? ⟨b,j,bg⟩=aY u:=λj u hu=>by rw[cell_of_row w b j cur bt (0,0) g2];simpa using hu
 refine⟨rfl,.inl ?_⟩;unfold nr at h;split at h
 .rename_i nk;split at h
  .rename_i v' hv;split at h
   .cases h;obtain⟨u,h4,h5⟩:=g3.get hv;exact⟨u,w,xu (xO nk) h3 (pj _ _ h4),m,Z,Step.refl hs,h5⟩
   .cases h
  .cases h
 .rename_i n nk;split at h
  .rename_i hk;have hk:=mi hk;cases h;have hl:=g3.length;refine⟨.agg ((cur.toList.drop off).take n).toArray,w,w9 _ (ve nk) h3 (by simp at hl ⊢;omega) λj u hj=>?_,m,Z,Step.refl hs,_,rfl,(g3.drop off).take n⟩;rw[Addr.add_lit]
   have DZ:j<n:=by have:=(bq.1 hj).1;simp at this;omega
   rw[cj,aO DZ,cW]at hj;exact pj _ _ hj
  .cases h
 .cases h
def zgh{t k off bt:Nat}{a x:bI}{cs:List V}(ha:aV ρ a=.ptr k 0 off)(hp:(aV ρ x).plain=bh)(h1:(aV ρ x).cells.all V.one=bh)(h_:vJ P t (aV ρ x).cells.length=bh)(tB:off+(aV ρ x).cells.length<=cs.length):
  Loc P ⟨dst,.store t a x,ty,pos,aft,gd⟩ ρ [(k,.box bt cs)] .no [(k,.box bt (cs.take off++(aV ρ x).cells++cs.drop (off+(aV ρ x).cells.length)))]:=by
 intro ρr m Z w e9 hs _;have hx:=e9 a (by simp[Op.operands]);rw[ha]at hx;obtain⟨f,loc,e1,h2,h3⟩:=hx;cases e1;obtain⟨b,cur,g1,g2,g3,g4,g5⟩:=hs.holds _ (b_.2 rfl);rw[g1]at h2;cases h2;have hv:=(e9 x (by simp[Op.operands])).cells hp;have B4:=hv.length;have hl:=g3.length
 have Bh:∀u∈(ev ρr x).cells.toList,u.oneCell'=bh:=λu hu=>by
  obtain⟨i,hi,he⟩:=dL hu
  have hg:(ev ρr x).cells.toList[i]?=aY u:=by rw[<- he];exact bA hi
  have hvi:(aV ρ x).cells[i]?=aY ((aV ρ x).cells[i]' ab):=bA ab;obtain⟨u',h4,h5⟩:=hv.get hvi;rw[hg]at h4;cases h4;exact h5.one ((bl.1 h1) _ (dS _))
 unfold vJ at h_;split at h_
 .rename_i i hi;have DX:=eb h_;have gy:=run_storeCells_at P b off bt (ev ρr x).cells.toList 0 cur w g2 (by simp at hl B4 ⊢;omega) Bh;simp only[dK]at gy;have e:(ev ρr x).cells=(ev ρr x).cells.toList.toArray:=ae;refine⟨rfl,.inr (.inl ⟨w.setRow b (cur.toList.take off++(ev ρr x).cells.toList++cur.toList.drop (off+(ev ρr x).cells.toList.length)).toArray,?_,m,Z,?_,rfl⟩)⟩
  .have Gh:(ev ρr x).cells.size=i.size:=by simp at B4;omega
   simp[bP,Instr.storeAt,h3,Instr.sureAddr,storeVar,sizeOf,typeInfo,hi,Gh,gy]
  .refine Step.write (b:=b) hs (by simp[gM,oi,Obj.ver,g1]) (My rfl rfl rfl) rfl rfl rfl ae (λj hj=>setRow_other w b j _ hj) (λa x ha e=>aQ e (g4 a x ha)) ?_;exact⟨b,_,g1,setRow_heap w b _ _ bt _ g2,by simpa using YM (off:=off) g3 hv,g4,g5⟩
 .cases h_
def zgi{t d:Nat}{cs:List V}(h:zeroV P t=aY cs):Loc P ⟨dst,.alloc t,ty,pos,aft,gd⟩ ρ [] (.ptr d 0 0) [(d,.box t cs)]:=by
 intro ρr m Z w e9 hs lR;unfold zeroV at h;split at h
 .rename_i i hi;split at h
  .rename_i z hz;cases h
   obtain⟨m',h1,h2⟩:=Step.new (m:=m) (Z:=Z) (w:=w) (k:=d) (o:=.box t (z.cells.toList.map s3)) (.cells z.cells t) 1 hs.frozen (λL=>lR d (by simp[keys]) (by simp[keys]) L) λm' g1 g2 g3 =>
    ⟨w.heap.size,z.cells,g1,World.alloc_heap_new w _,o6 _,λa x ha e=>by have:=xv hs.frozen ha;omega,λL l e=>by have:=g2 L l e;simp only[Obj.ver]at this;omega⟩
   refine⟨rfl,.inl ⟨.pointer (aY ⟨w.heap.size,0,bg⟩),w.alloc (.cells z.cells t),?_,m',Z,h1,m',_,rfl,h2,rfl⟩⟩;simp[bP,Instr.alloc,zeroValue,typeInfo,hi,hz,newVar,newRow,newObj];rfl
  .cases h
 .cases h
def zst{t d:Nat}{x:bI}(hp:(aV ρ x).plain=bh):Loc P ⟨dst,.box t x,ty,pos,aft,gd⟩ ρ [] (.ptr d 0 0) [(d,.box t (aV ρ x).cells)]:=by
 intro ρr m Z w e9 hs lR;have hv:=(e9 x (by simp[Op.operands])).cells hp
 obtain⟨m',h1,h2⟩:=Step.new (m:=m) (Z:=Z) (w:=w) (k:=d) (o:=.box t (aV ρ x).cells) (.cells (ev ρr x).cells t) 1 hs.frozen (λL=>lR d (by simp[keys]) (by simp[keys]) L) λm' g1 g2 g3 =>
  ⟨w.heap.size,(ev ρr x).cells,g1,World.alloc_heap_new w _,hv.up (λ_ _ e=>e) (λf e=>by cases e;exact⟨m',rfl,g3⟩),λa x ha e=>by have:=xv hs.frozen ha;omega,λL l e=>by have:=g2 L l e;simp only[Obj.ver]at this;omega⟩
 refine⟨rfl,.inl ⟨.pointer (aY ⟨w.heap.size,0,bg⟩),w.alloc (.cells (ev ρr x).cells t),?_,m',Z,h1,m',_,rfl,h2,rfl⟩⟩;simp[bP,Instr.box,newVar,newRow,newObj];rfl
def YO{t d:Nat}:Loc P ⟨dst,.makeMap t bg,ty,pos,aft,gd⟩ ρ [] (.mp d) [(d,.map [])]:=by
 intro ρr m Z w e9 hs lR
 obtain⟨m',h1,h2⟩:=Step.new (m:=m) (Z:=Z) (w:=w) (k:=d) (o:=.map []) (.map #[] 0) 1 hs.frozen (λL=>lR d (by simp[keys]) (by simp[keys]) L) λm' g1 g2 g3 =>
  ⟨w.heap.size,#[],0,g1,World.alloc_heap_new w _,rfl,ae,ae,λa x ha e=>by (have:=xv hs.frozen ha;omega),0,λL l e=>by have:=g2 L l e;simp only[Obj.ver]at this;omega⟩
 refine⟨rfl,.inl ⟨.map (aY w.heap.size),w.alloc (.map #[] 0),?_,m',Z,h1,m',_,rfl,h2,rfl⟩⟩;simp[bP,Instr.makeMap,newObj];rfl
def zgj{n sz:Nat}:∀(parts:List (Nat×V))(j:Nat)(cells:List V),parts.map (·.1)=List.range' j parts.length->j+parts.length=n->cells.length=n*sz->(∀p∈parts,p.2.plain=bh/\p.2.cells.length=sz) ->
  YL ((dn n).map λi=>(i*sz,sz)) cells parts=aY (cells.take (j*sz)++(parts.map (·.2.cells)).flatten)
 |[],j,cells,_,hn,hc,_=>by
  simp only[YL,dC,List.flatten_nil,cL,Option.some.injEq];rw[du];simp at hn;subst hn;omega
 |(i,v)::parts,j,cells,h1,hn,hc,hp=>by
  simp only[ij,lc,List.range'_succ,List.cons.injEq]at h1 hn;obtain⟨rfl,h1⟩:=h1;obtain⟨hv,LG⟩:=hp (i,v) ak;have hin:i<n:=ab
  have LC:((dn n).map λi=>(i*sz,sz))[i]?=aY (i*sz,sz):=by rw[cz,dM hin];rfl
  have hle:i*sz+sz<=n*sz:=by
   have:(i+1)*sz<=n*sz:=ck sz hin
   rwa [dh]at this
  simp only[YL,LC,hv,LG,cC,Bool.true_and]
  have hb:cm (i*sz+sz) cells.length=bh:=by rw[hc];exact Nat.ble_eq_true_of_le hle
  rw[aO hb];rw[zgj parts (i+1) _ h1 ab (by simp only[la,bY,cF,LG,hc];omega) (λp ka=>hp p (iO _ ka))]
  congr 1
  have e:(i+1)*sz=(cells.take (i*sz)++v.cells).length:=by simp[LG,dh];omega
  rw[e,List.take_left' rfl];simp
def Kh{t d e n sz:Nat}{parts:List (Nat×bI)}{els:List (List V)}(hT:kP P t=aY (e,sz))(h_:cm (n*sz) 16777216=bh)(h:Ey n sz (parts.map λp=>(p.1,aV ρ p.2))=aY els):
  Loc P ⟨dst,.buildSlice t n parts.toArray,ty,pos,aft,gd⟩ ρ [] (.sl sz d n 0 n) [(d,.row e sz 0 els)]:=by
 intro ρr m Z w e9 hs lR;have h_:=mi h_;unfold kP at hT;split at hT
 .rename_i e' hu;split at hT
  .rename_i i hi;split at hT
   .rename_i hc;simp only[Option.some.injEq,Prod.mk.injEq]at hT;obtain⟨rfl,rfl⟩:=hT;simp only[bn]at hc;have h0:=mi hc.1;obtain⟨z,hz⟩:=Option.isSome_iff_exists.1 hc.2;unfold Ey at h;split at h
    .rename_i Nx;split at h
     .rename_i nF;cases h
      have hlen:parts.length=n:=by have:=aP List.length Nx;simpa using this
      have Jj:∀p∈parts.map (λp=>(p.1,aV ρ p.2)),p.2.plain=bh/\p.2.cells.length=i.size/\p.2.cells.all V.one=bh/\p.2.refs=[]:=λp hp=>by have:=(bl.1 nF) p hp;simp only[bn,fL]at this;exact⟨this.1,eb this.2.1,this.2.2.1,this.2.2.2⟩
      have Gk:((ia (n*i.size)).map λj=>z.cells[j % z.cells.size]!).toList.length=n*i.size:=ae;have aa4:=zgj (n:=n) (sz:=i.size) (parts.map λp=>(p.1,aV ρ p.2)) 0 (((ia (n*i.size)).map λj=>z.cells[j % z.cells.size]!).toList.map λ_=>V.undef) (by rw[Nx];simp[List.range_eq_range',hlen]) (by simp[hlen]) ae (λp hp=>⟨(Jj p hp).1,(Jj p hp).2.1⟩);simp only[ee,List.take_zero,cw]at aa4
      have hun:∀l:List bx,zC (aY m) Z (l.map λ_=>V.undef) l:=λl=>by
       induction l with
       |nil=>rfl
       |cons x l ih=>exact⟨x,l,rfl,trivial,ih⟩
      obtain⟨a',OF,rS⟩:=W6 (m:=aY m) (Z:=Z) (places:=(dn n).map λj=>(j*i.size,i.size)) (place:=λj=>aY (j*i.size,i.size)) (by
       intro j p hp;rw[cz]at hp;obtain⟨j',rU,rfl⟩:=ca.1 hp
       have ib:j<n:=by have:=(bq.1 rU).1;simpa using this
       rw[dM ib]at rU
       cases rU;rfl) (ps:=parts.map λp=>(p.1,ev ρr p.2)) (hun _) ae (by
        rw[cU,cU]
        refine zC.po ae λi v x hv hx=>?_
        rw[cz]at hv hx;obtain⟨p,hp,rfl⟩:=ca.1 hv;rw[hp]at hx;simp only[de,Option.some.injEq,Function.comp]at hx;subst hx
        exact e9 p.2 (by have:=bW hp;simp only[Op.operands,iR];exact cG this)) aa4
      have sI:(((parts.map λp=>(p.1,aV ρ p.2)).map (·.2.cells)):List (List V)).length=n:=by simp[hlen]
      have Ty:∀l:List (Nat×V),(∀p∈l,p.2.refs=[])->wh (l.map (·.2.cells)).flatten=[]:=λl=>by
       induction l with
       |nil=>intro _;rfl
       |cons p l ih =>
        intro hp
        have afv:∀a b:List V,wh (a++b)=wh a++wh b:=λa b=>by
         induction a with
         |nil=>rfl
         |cons x a ih=>simp[wh,ih]
        rw[ij,cN,afv,ih (λq hq=>hp q (iO _ hq)),cL];have h1:=hp p ak;cases hv:p.2<;>rw[hv]at h1<;>simp only[V.cells,wh,cL]<;>exact h1
      have hla:∀l:List (Nat×V),(∀p∈l,p.2.cells.length=i.size)->(l.map (·.2.cells)).flatten.length=l.length*i.size:=λl=>by
       induction l with
       |nil=>intro _;simp
       |cons p l ih =>intro hp;rw[ij,cN,la,ih (λq hq=>hp q (iO _ hq)),hp p ak,lc,dh];omega
      have aau:a'.size=n*i.size:=by have h1:=rS.length;rw[hla _ (λp hp=>(Jj p hp).2.1)]at h1;simpa[hlen]using h1
      have UH:=zC.flat _ _ (Ty _ λp hp=>(Jj p hp).2.2.2) rS
      have Fj:n<=maxLen:=by have:n<=n*i.size:=Nat.le_mul_of_pos_right n h0;simp only[maxLen];omega
      obtain⟨m',h1,h2⟩:=Step.new (m:=m) (Z:=Z) (w:=w) (k:=d) (o:=.row e' i.size 0 ((parts.map λp=>(p.1,aV ρ p.2)).map (·.2.cells))) (.cells a' e') n hs.frozen (λL=>lR d (by simp[keys]) (by simp[keys]) L) λm' g1 g2 g3=>by
       by_cases pg:n=0
       .have he:((parts.map λp=>(p.1,aV ρ p.2)).map (·.2.cells))=[]:=cy (by rw[sI,pg])
        have CV:(Obj.row e' i.size 0 ((parts.map λp=>(p.1,aV ρ p.2)).map (·.2.cells))).ver=0:=by simp only[Obj.ver];rw[sI,pg]
        rw[CV]at g1;subst pg;exact .inl ⟨h0,he,rfl,⟨_,g1⟩,λL l e=>by have:=g2 L l e;rw[CV]at this;omega⟩
       refine .inr ⟨w.heap.size,n,a',(0,0),g1,ab,World.alloc_heap_new w _,by rw[sI];exact fv _,Fj,aau,h0,?_,?_,ae,ae,λa x ha e=>by have:=xv hs.frozen ha;omega,λL l e=>by have:=g2 L l e;simp only[Obj.ver]at this;omega,λoff x ho=>ab⟩
       .rw[sI,du (by simp[aau])];exact UH
       .intro x hx;obtain⟨p,hp,rfl⟩:=bL.1 hx;exact(Jj p hp).2.1
      have rb:(Obj.row e' i.size 0 ((parts.map λp=>(p.1,aV ρ p.2)).map (·.2.cells))).ver=n:=sI;rw[rb]at h2;refine⟨rfl,.inl ⟨.slice (aY ⟨w.heap.size,0,bg⟩) n n,w.alloc (.cells a' e'),?_,m',Z,h1,m',_,rfl,h2,ae,Fj,.inl ae⟩⟩
      have e2:(parts.toArray.map λx=>(x.1,ev ρr x.2)).toList=parts.map λp=>(p.1,ev ρr p.2):=ae
      have OH:¬n*i.size>2 ^ 24:=ab;simp only[bP,Instr.buildSlice,Sem.run_bind,run_underlying hu,Result.andThen_ok,sizeOf,typeInfo];simp only[program,Sem.run,hi,Sem.run_bind,Sem.run_pure,Result.andThen_ok,aN OH,e2];by_cases pg:n*i.size=0
      .have hA:∀f:Nat->bx,(ia (n*i.size)).map f=#[]:=λf=>by have e0:ia 0=(#[]:Array Nat):=rfl;rw[pg,e0];simp
       rw[hA]at OF;simp only[aO pg,Sem.run_pure,Result.andThen_ok,hA,OF];simp[newRow,newObj];rfl
      .simp only[aN pg,Sem.run_bind,zeroValue,typeInfo,program,Sem.run,hi,hz,Sem.run_pure,Result.andThen_ok,OF];simp[newRow,newObj];rfl
     .cases h
    .cases h
   .cases hT
  .cases hT
 .cases hT
end
def aw.set:aw->Nat->Obj->aw
 |[],_,_=>[]
 |(k',o')::r,k,o=>bif bm k k' then(k',o)::r else(k',o')::aw.set r k o
def wj(k:Nat):aw->Bool
 |[]=>bf
 |(k',_)::r=>bif bm k k' then bh else wj k r
def yt{k:Nat}:∀{H:aw},wj k H=bh↔k∈keys H
 |[]=>by simp[wj,keys]
 |(k',o)::r=>by
  simp only[wj,keys,ij,bu]
  cases hb:bm k k' with
  |true=>simp[eb hb]
  |false =>
   have:k≠k':=λe=>by subst e;rw[cC]at hb;cases hb
   simp only[cf,this,false_or];exact yt
def set_perm{k:Nat}{o:Obj}:∀{H:aw},(keys H).Nodup->k∈keys H->(aw.set H k o).Perm ((k,o)::js [k] H)
 |[],_,h=>by simp[keys]at h
 |(k',o')::r,hn,h=>by
  simp only[keys,ij,cA]at hn;simp only[aw.set]
  cases hb:bm k k' with
  |true =>
   have:=eb hb;subst this
   have e:js [k] ((k,o')::r)=r:=by
    simp only[js,fN];have:(!([k].contains k))=bf:=ae;simp only[this,cI,if_false]
    exact List.filter_eq_self.2 λp hp=>by
     have:p.1≠k:=λe=>hn.1 (e▸cG hp)
     simp[this]
   rw[e];exact .refl _
  |false =>
   have lD:k≠k':=λe=>by subst e;rw[cC]at hb;cases hb
   have hk:k∈keys r:=by
    simp only[keys,ij,bu]at h
    rcases h with h|h
    .exact aQ h lD
    .exact h
   have e:js [k] ((k',o')::r)=(k',o')::js [k] r:=by
    simp only[js,fN]
    have:(!([k].contains k'))=bh:=by simp[Ne.symm lD]
    simp only[this,if_true]
   rw[cf,e];exact((set_perm hn.2 hk).cons _).trans (.swap ..)
def Q8{H:aw}{k:Nat}{o:Obj}(h:H.get k=aY o):kO [k] H=aY [(k,o)]:=by simp[kO,h]
def Rt{H:aw}{k:Nat}{o:Obj}(h:H.get k=aY o):k∈keys H:=ax (aw.get_mem h)
def IF(H:aw):Gs->Option (V×aw)
 |.pure v=>aY (v,H)
 |.read _ v=>aY (v,H)
 |.write k o v=>aY (v,H.set k o)
 |.new k o v=>bif wj k H then bg else aY (v,(k,o)::H)
def W7(d:Option Nat)(v:V)(ρ:Env):Env:=match d with|some d=>(d,v)::ρ|none=>ρ
def C0(P:bo)(all:List Oper)(N:Nat):List Oper->Env->aw->Option (Env×aw)
 |[],ρ,H=>aY (ρ,H)
 |o::r,ρ,H=>bif (match o.dst with|some d=>cm (d+1) N|none=>bh)then
   match ye all ρ o with
   |some bf=>C0 P all N r (W7 o.dst .no ρ) H
   |some bh=>match Me P ρ H (o.dst.getD 0) o.op with
    |some e=>match IF H e with
     |some (v,H')=>C0 P all N r (W7 o.dst v ρ) H'
     |none=>bg
    |none=>bg
   |none=>bg
  else bg
section
variable{K0:List Nat}{c:Ctx K0}{P:bo}{r:Option Nat}{N:Nat}{Q:xF}{ρ:Env}{H H':aw}{ds:List cr}{all rest:List Oper}{o:Oper}
def Kc.perm{ρr:zS}{w:bF}(hp:H.Perm H')(S:Kc c ρ H ρr w):Kc c ρ H' ρr w:=by obtain⟨m,Z,S,hR⟩:=S;exact⟨m,Z,⟨S.step.NK hp,λk hk=>S.pa k λh=>hk ((hp.map _).mem_iff.1 h)⟩,hR⟩
def Ru(hp:H.Perm H')(h:HH c P r N all Q rest ρ H' ds):HH c P r N all Q rest ρ H ds:=λρr w mj S hM=>h ρr w mj (S.perm hp) hM
def PW(h:(keys H).Nodup->HH c P r N all Q rest ρ H ds):HH c P r N all Q rest ρ H ds:=λρr w mj S hM=>by obtain⟨m,Z,S',hR⟩:=id S;exact h S'.step.iW.nodup ρr w mj S hM
def YP{F F':aw}{v:V}(ks:List Nat)(hd:(match o.dst with|some d=>cm (d+1) N|none=>bh)=bh)(hw:ye all ρ o=aY bh)(ml:nodupB ks=bh)(hF:kO ks H=aY F)(hl:Loc P o ρ F v F')(lR:o7 F' ks H=bh)
  (h:HH c P r N all Q rest (W7 o.dst v ρ) (F'++js ks H) ds):HH c P r N all Q (o::rest) ρ H ds:=by
 cases mA:o.dst with
 |none=>rw[mA]at h;exact zCr ks mA hw ml hF hl lR h
 |some d=>rw[mA]at h hd;exact zG3 d ks mA hd hw ml hF hl lR h
def oo:js [] H=H:=by simp[js]
def zm9{e:Gs}{d:Nat}(h:Me P ρ H d o.op=aY e):
  match e with
  |.pure v=>Loc P o ρ [] v []
  |.read k v=>∃ob,H.get k=aY ob/\Loc P o ρ [(k,ob)] v [(k,ob)]
  |.write k ob v=>∃tl,H.get k=aY tl/\Loc P o ρ [(k,tl)] v [(k,ob)]
  |.new k ob v=>Loc P o ρ [] v [(k,ob)]:=by
 obtain⟨dst,op,ty,pos,aft,gd⟩:=o;simp only at h ⊢;unfold Me at h;split at h
 .rename_i v hv;cases h;exact PV hv
 .split at h
  .rename_i t a;split at h
   .rename_i k off ha;split at h
    .rename_i bt cs hk;obtain⟨v,hv,rfl⟩:=ca.1 h;exact⟨_,hk,zm8 ha hv⟩
    .cases h
   .cases h
  .rename_i t a x;split at h
   .rename_i k off ha;split at h
    .rename_i bt cs hk;split at h
     .rename_i hc;cases h;simp only[bn]at hc;exact⟨_,hk,zgh ha hc.1 hc.2.1 hc.2.2.1 (mi hc.2.2.2)⟩
     .cases h
    .cases h
   .cases h
  .obtain⟨cs,hc,rfl⟩:=ca.1 h;exact zgi hc
  .split at h
   .rename_i hp;cases h;exact zst hp
   .cases h
  .split at h
   .rename_i e' sz hT;split at h
    .rename_i h_;obtain⟨els,he,rfl⟩:=ca.1 h;rename_i t n parts;have:=Kh (P:=P) (ρ:=ρ) (dst:=dst) (ty:=ty) (pos:=pos) (aft:=aft) (gd:=gd) (d:=d) hT h_ he;simpa using this
    .cases h
   .cases h
  .cases h;exact YO
  .cases h
def Rv{all:List Oper}:∀(l:List Oper)(ρ:Env)(H:aw)(ρ':Env)(H':aw),C0 P all N l ρ H=aY (ρ',H')->HH c P r N all Q rest ρ' H' ds->HH c P r N all Q (l++rest) ρ H ds
 |[],ρ,H,ρ',H',hr,h=>by
  simp only[C0,Option.some.injEq,Prod.mk.injEq]at hr;obtain⟨rfl,rfl⟩:=hr;exact h
 |o::l,ρ,H,ρ',H',hr,h=>by
  simp only[C0]at hr
  cases hd:(match o.dst with|some d=>cm (d+1) N|none=>bh)with
  |false=>rw[hd]at hr;cases hr
  |true =>
   rw[hd,ct]at hr;split at hr
   .rename_i hw;have ih:=Rv l _ _ _ _ hr h
    cases mA:o.dst with
    |none=>rw[mA]at ih;exact zm3 mA hw ih
    |some d=>rw[mA]at ih hd;exact zsm d mA hd hw ih
   .rename_i hw;split at hr
    .rename_i e he;split at hr
     .rename_i v H1 hH;have ih:=Rv l _ _ _ _ hr h;have hl:=zm9 (P:=P) (o:=o) he
      cases e with
      |pure v' =>
       simp only[IF,Option.some.injEq,Prod.mk.injEq]at hH;obtain⟨rfl,rfl⟩:=hH;exact YP [] hd hw rfl rfl hl rfl (by rw[cw,oo];exact ih)
      |read k v' =>
       simp only[IF,Option.some.injEq,Prod.mk.injEq]at hH;obtain⟨rfl,rfl⟩:=hH;obtain⟨ob,h1,h2⟩:=hl
       refine PW λnI=>YP [k] hd hw rfl (Q8 h1) h2 (by simp[o7]) ?_
       exact Ru (j6 nI ae (Q8 h1)).symm ih
      |write k ob v' =>
       simp only[IF,Option.some.injEq,Prod.mk.injEq]at hH;obtain⟨rfl,rfl⟩:=hH;obtain⟨tl,h1,h2⟩:=hl
       refine PW λnI=>YP [k] hd hw rfl (Q8 h1) h2 (by simp[o7]) ?_
       exact Ru (set_perm nI (Rt h1)).symm ih
      |new k ob v' =>
       simp only[IF]at hH
       cases hk:wj k H with
       |true=>rw[hk]at hH;cases hH
       |false =>
        rw[hk]at hH;simp only[cf,Option.some.injEq,Prod.mk.injEq]at hH;obtain⟨rfl,rfl⟩:=hH
        have mu:k ∉ keys H:=λh'=>by rw[yt.2 h']at hk;cases hk
        exact YP [] hd hw rfl rfl hl (by simp[o7,mu]) (by rw[oo];exact ih)
     .cases hr
    .cases hr
   .cases hr
end
def mz(P:bo)(f:FuncId)(args:List V)(F:aw)(r:V)(F':aw):Prop:=
 ∀w m Z vals,w8 m Z F w->zC (aY m) Z args vals->(∀k,k ∉ keys F->∀L,m k L=bg) ->
  Calls P f vals.toArray w λen w'=>∃x m' Z',en=.returned x/\Step m Z F w m' Z' F' w'/\aT (aY m') Z' r x
def F5(args:List V):Env:=args.zipIdx.map λp=>(p.2,p.1)
def zgl{m:Option M}{Z:ZM}:∀(args:List V)(vals:List bx)(j t:Nat),zC m Z args vals->aT m Z (Env.get ((args.zipIdx j).map λp=>(p.2,p.1)) t) (if j<=t then vals.getD (t-j) Go.undef else Go.undef)
 |[],vals,j,t,h=>by
  cases h
  show True
  trivial
 |v::args,vals,j,t,h=>by
  obtain⟨x,xs,rfl,h1,h2⟩:=h
  show aT m Z (bif bm t j then v else(Env.get ((args.zipIdx (j+1)).map λp=>(p.2,p.1)) t)) _
  cases hb:bm t j with
  |true =>
   have:=eb hb;subst this;simpa using h1
  |false =>
   have lD:t≠j:=λe=>by subst e;rw[cC]at hb;cases hb
   have ih:=zgl args xs (j+1) t h2;rw[cf];by_cases hj:j<=t
   .rw[aO hj];rw[aO ab]at ih;have e:t-j=(t-(j+1))+1:=ab;rw[e];simpa using ih
   .rw[aN hj];rw[aN ab]at ih;exact ih
def Ik(P:bo)(ρ:Env)(H:aw):ResultVar->Option V
 |.tmp t=>aY (ρ.get t)
 |.cell a ty=>match ρ.get a with
  |.ptr k 0 off=>match H.get k with
   |some (.box _ cs)=>nr P ty cs off
   |_=>bg
  |_=>bg
def BL(P:bo)(ρ:Env)(H:aw):List ResultVar->Option (List V)
 |[]=>aY []
 |x::l=>match Ik P ρ H x,BL P ρ H l with|some v,aY vs=>aY (v::vs)|_,_=>bg
def Et(fn:Func)(ρ:Env)(H:aw)(P:bo):Option V:=
 match BL P ρ H fn.results.toList with
 |some [v]=>aY v
 |some vs=>aY (.iN vs)
 |none=>bg
def Il(r:V)(F':aw)(K0:List Nat):Bool:=
 let ks:=keys F'
 nodupB ks&&(K0.all ks.contains&&(r.refs.all ks.contains&&F'.all λp=>p.2.refs.all ks.contains))
def Im(P:bo)(fn:Func)(K0:List Nat)(r:V)(F':aw):xF
 |.normal,ρ,H,ds|.ret,ρ,H,ds=>ds=[]/\Et fn ρ H P=aY r/\kO (keys F') H=aY F'/\Il r F' K0=bh
 |_,_,_,_=>False
section
variable{P:bo}{f:FuncId}{args:List V}{F F':aw}{r:V}{N:Nat}
def FM(tmps:Array bx):ResultVar->Sem bx
 |.tmp t=>pure (tmps.getD t Go.undef)
 |.cell a t=>do loadVar t (<- asAddr (tmps.getD a Go.undef))
def zp0{m:M}{Z:ZM}{H:aw}{w:bF}{ρ:Env}{ρr:zS}{v:V}(hs:w8 m Z H w)(hR:rM m Z ρ ρr){tmps:Array bx}(ht:∀t,tmps.getD t Go.undef=ρr t):∀{x:ResultVar},Ik P ρ H x=aY v ->
  ∃u,(FM tmps x).run P w=.ok u w/\aT (aY m) Z v u
 |.tmp t,h=>by
  cases h;exact⟨ρr t,by simp only[FM,ht];rfl,hR t⟩
 |.cell a ty,h=>by
  simp only[Ik]at h;split at h
  .rename_i k off ha;split at h
   .rename_i bt cs hk;obtain⟨b,cur,g1,g2,g3,g4,g5⟩:=hs.holds _ (aw.get_mem hk);have hr:=hR a;rw[ha]at hr;obtain⟨f',loc,e1,e2,e3⟩:=hr;cases e1;rw[g1]at e2;cases e2
    have pj:∀j u,cur.toList[j]?=aY u->w.cell? ⟨b,j,bg⟩=aY u:=λj u hu=>by rw[cell_of_row w b j cur bt (0,0) g2];simpa using hu
    unfold nr at h;split at h
    .rename_i nk;split at h
     .rename_i u hu;split at h
      .cases h;obtain⟨y,h6,h7⟩:=g3.get hu;have hc:=pj off y h6;refine⟨y,?_,h7⟩;simp[FM,ht,e3,asAddr,loadVar,kC (xO nk),load,Sem.run,hc]
      .cases h
     .cases h
    .rename_i n nk;split at h
     .rename_i my;have my:=mi my;cases h;have hl:=g3.length
      have hll:((cur.toList.drop off).take n).length=n:=by simp at hl ⊢;omega
      refine⟨.agg ((cur.toList.drop off).take n).toArray,?_,_,rfl,(g3.drop off).take n⟩;obtain⟨d',i',mA,_,B2,mu⟩:=id (ve nk)
      have nD:∀j u,((cur.toList.drop off).take n)[j]?=aY u->w.cell? ((⟨b,off,bg⟩:Addr).add j)=aY u:=λj u hj=>by
       rw[Addr.add_lit]
       have DZ:j<n:=by have:=(bq.1 hj).1;simp at this;omega
       rw[cj,aO DZ,cW]at hj;exact pj _ _ hj
      have UR:=run_loadCells_list (P:=P) w (⟨b,off,bg⟩:Addr) _ nD;rw[hll]at UR;simp only[FM,ht,e3,asAddr,loadVar,Sem.run_bind,Sem.run_pure,Result.andThen_ok,AK (ve nk),if_true];simp[sizeOf,typeInfo,B2,mu,UR,Sem.run]
     .cases h
    .cases h
   .cases h
  .cases h
def X5{m:M}{Z:ZM}{H:aw}{w:bF}{ρ:Env}{ρr:zS}(hs:w8 m Z H w)(hR:rM m Z ρ ρr){tmps:Array bx}(ht:∀t,tmps.getD t Go.undef=ρr t):∀{l:List ResultVar}{vs:List V},BL P ρ H l=aY vs ->
  ∃us,(l.mapM (FM tmps)).run P w=.ok us w/\zC (aY m) Z vs us
 |[],vs,h=>by
  cases h;exact⟨[],ae,rfl⟩
 |x::l,vs,h=>by
  simp only[BL]at h;split at h
  .rename_i v vs' h1 h2;cases h;obtain⟨u,h3,h4⟩:=zp0 hs hR ht h1;obtain⟨us,h5,h6⟩:=X5 hs hR ht h2;exact⟨u::us,by simp[List.mapM_cons,h3,h5],u,us,rfl,h4,h6⟩
  .cases h
def zp1{m:M}{Z:ZM}{H:aw}{w:bF}{ρ:Env}{ρr:zS}{fn:Func}{r:V}(hs:w8 m Z H w)(hR:rM m Z ρ ρr)(h:Et fn ρ H P=aY r){tmps:Array bx}(ht:∀t,tmps.getD t Go.undef=ρr t):
  ∃x,(results fn tmps).run P w=.ok x w/\aT (aY m) Z r x:=by
 have key:∀vs,BL P ρ H fn.results.toList=aY vs->∃us:List bx,(results fn tmps).run P w=.ok (if h:us.toArray.size=1 then us.toArray[0]else .tuple us.toArray) w/\zC (aY m) Z vs us:=by
  intro vs hv;obtain⟨us,h1,h2⟩:=X5 hs hR ht hv;refine⟨us,?_,h2⟩
  have e:results fn tmps=(do let vs <- fn.results.mapM (FM tmps);pure (if h:vs.size=1 then vs[0]else .tuple vs)):=by
   unfold results
   congr 1
  rw[e,Array.mapM_eq_mapM_toList];simp[h1]
 unfold Et at h;split at h
 .rename_i v hv;cases h;obtain⟨us,h1,h2⟩:=key _ hv;obtain⟨u,En,rfl,h3,h4⟩:=h2;cases h4;exact⟨u,by simpa using h1,h3⟩
 .rename_i vs lD hv;cases h;obtain⟨us,h1,h2⟩:=key _ hv
  have hl:us.toArray.size≠1:=λe=>by
   have:=h2.length;simp only[cS]at e;rw[e]at this
   match vs,this with
   |[v],_=>exact lD v rfl
   |[],h=>simp at h
   |_::_::_,h=>simp at h
  rw[dif_neg hl]at h1;exact⟨_,h1,us,rfl,h2⟩
 .cases h
def zna{K0:List Nat}{c:Ctx K0}{m:M}{Z:ZM}{H:aw}:∀(Ds:List Nat)(w:bF),Ds.Nodup->(∀D∈Ds,w.heap[D]?=aY (.deferred (aY []))/\c.W0.heap.size<=D)->W4 c m Z H w->∃w',lG.FZ (Ds.map lG.mark) w w'/\W4 c m Z H w'
 |[],w,_,_,S=>⟨w,rfl,S⟩
 |D::Ds,w,hn,hD,S=>by
  obtain⟨h1,h2⟩:=cA.1 hn;obtain⟨h3,h4⟩:=hD D ak
  have S':W4 c m Z H (w.putObj D (.deferred bg)):=S.lps (row:=aY D) (lG.oG w D _) λb e=>by
   cases e;exact⟨h4,_,h3,rfl⟩
  obtain⟨w',h5,h6⟩:=zna Ds _ h2 (λD' Ot=>by
   obtain⟨h7,h8⟩:=hD D' (iO _ Ot)
   exact⟨(World.putObj_heap_other (λe=>h1 (by first|(rw[<- e];exact Ot)|(rw[e];exact Ot)))).trans h7,h8⟩) S'
  exact⟨w',⟨D,rfl,h3,h5⟩,h6⟩
def yo{fn:Func}{code:Code}(hf:P.funcs[f]?=aY fn)(hb:fn.body=aY code)(hN:fn.ntmps=N)(ha:cm args.length N=bh)
  (h:∀c:Ctx (keys F),l9 c P bg N code (Im P fn (keys F) r F') (F5 args) F []):mz P f args F r F':=by
 intro w m Z vals hs hv Nu;have LG:=hv.length
 have S:Kc (⟨[],w,m,Z,F,rfl,Nu⟩:Ctx (keys F)) (F5 args) F (kD vals) w:=⟨m,Z,⟨Step.refl hs,Nu⟩,λt=>by
  have:=zgl args vals 0 t hv
  simpa[F5,kD]using this⟩
 have h':=h ⟨[],w,m,Z,F,rfl,Nu⟩ _ _ _ S (wm.nil rfl);have ha:=mi ha;refine(callsIn_wide (n:=0)).1 (callsIn_of_wp_marks hf hb trivial ?_)
 refine wpIn_mono (h' _ 0 ⟨?_,rfl,λt=>?_⟩) λe a w' hq=>?_
 .simp;omega
 .simp only[kD,cT,bB];rw[gX];split
  .simp
  .rename_i ib;simp only[cS]at ib;rw[dQ ab];simp only[cS];rw[ez];split<;>rfl
 .obtain⟨Cu,mL,nR,ρ',H',S',Lz,hq⟩:=hq;obtain⟨Ds,Fe,hn,hD⟩:=Lz.marks rfl
  have key:Im P fn (keys F) r F' .ret ρ' H' []->∃w2 v,lG.FZ a.defers w' w2/\(results fn a.tmps).run P w2=.ok v w2/\∃x m' Z',Ending.returned v=.returned x/\Step m Z F w m' Z' F' w2/\aT (aY m') Z' r x:=by rintro⟨_,Jf,sS,tA⟩;simp only[Il,bn]at tA;obtain⟨h1,h2,h3,h4⟩:=tA;obtain⟨m',Z',S2,hR⟩:=S';obtain⟨w2,ht,S4⟩:=zna Ds w' hn hD S2;obtain⟨m2,S3,hc⟩:=S4.cut (keys F') sS h1 h2 h4;obtain⟨x,OZ,Eb⟩:=zp1 S4.step.iW hR Jf (tmps:=a.tmps) nR.get;exact⟨w2,x,by rw[nR.defs,Fe];exact ht,OZ,x,m2,Z',rfl,S3.step,hc _ _ h3 Eb⟩
  cases e with
  |normal =>
   obtain⟨w2,v,ht,hr,hR⟩:=key hq;exact lG.vb _ _ _ ht hr hR
  |ret =>
   obtain⟨w2,v,ht,hr,hR⟩:=key hq;exact lG.vb _ _ _ ht hr hR
  |panic c=>exact hq.elim
  |exit id=>exact hq.elim
  |goto l=>exact hq.elim
  |outgrown=>exact hq.elim
end
def Obj.fM(σ:Nat->Nat):Obj->Obj
 |.box t cs=>.box t (rr σ cs)
 |o=>o
def JH(σ:Nat->Nat)(F:aw):aw:=F.map λp=>(σ p.1,p.2.fM σ)
def lV:List (Nat×Nat)->Nat->Nat
 |[],k=>k
 |(a,b)::r,k=>bif bm k a then b else lV r k
def Kx(args:List V)(F:aw):Bool:=(wh args).all (keys F).contains&&F.all λp=>p.2.refs.all (keys F).contains
def vv{σ:Nat->Nat}{F:aw}:keys (JH σ F)=(keys F).map σ:=by simp[keys,JH]
def Mz{σ:Nat->Nat}{m mc:M}{p:Nat×Obj}(h:mc p.1=m (σ p.1)):gM mc p=gM m (σ p.1,p.2.fM σ):=by
 obtain⟨k,o⟩:=p;simp only at h
 funext b
 cases o<;>simp only[gM,oi,Obj.fM,Obj.ver,h]
mutual
def aT.tW{f f':M}{Z:ZM}(σ:Nat->Nat):∀(v:V)(x:bx),(∀k∈v.refs,∀L loc,f (σ k) L=aY loc->f' k L=aY loc)->aT (aY f) Z (v.fM σ) x->aT (aY f') Z v x
 |.undef,x,_,h=>trivial
 |.no,x,_,h=>h
 |.int k n,x,_,h=>h
 |.bool b,x,_,h=>h
 |.str l,x,_,h=>h
 |.mx,x,_,h=>h
 |.ptr k L off,x,hm,h=>by
  obtain⟨g,loc,h1,h2,h3⟩:=h;cases h1;exact⟨f',loc,rfl,hm k (by simp[V.refs]) _ _ h2,h3⟩
 |.vp cs off,x,_,h=>h
 |.gg,x,_,h=>h
 |.sl sz k L o n,x,hm,h=>by
  obtain⟨g,loc,h1,h2,h3⟩:=h;cases h1;exact⟨f',loc,rfl,hm k (by simp[V.refs]) _ _ h2,h3⟩
 |.vs sz els,x,_,h=>h
 |.fn g first caps,x,hm,h=>by
  obtain⟨l1,l2,h1,h2,h3⟩:=h;exact⟨l1,l2,h1,zC.tW σ first l1 (λk hk=>hm k (by simp[V.refs,hk])) h2,zC.tW σ caps l2 (λk hk=>hm k (by simp[V.refs,hk])) h3⟩
 |.nd,x,_,h=>h
 |.agg cs,x,hm,h=>by
  obtain⟨l,h1,h2⟩:=h;exact⟨l,h1,zC.tW σ cs l (λk hk=>hm k (by simpa[V.refs]using hk)) h2⟩
 |.iN xs,x,hm,h=>by
  obtain⟨l,h1,h2⟩:=h;exact⟨l,h1,zC.tW σ xs l (λk hk=>hm k (by simpa[V.refs]using hk)) h2⟩
 |.mD,x,_,h=>h
 |.mp k,x,hm,h=>by
  obtain⟨g,loc,h1,h2,h3⟩:=h;cases h1;exact⟨f',loc,rfl,hm k (by simp[V.refs]) _ _ h2,h3⟩
 |.nM,x,_,h=>h
 |.mP t v,x,hm,h=>by
  obtain⟨y,h1,h2⟩:=h;exact⟨y,h1,aT.tW σ v y (λk hk=>hm k (by simpa[V.refs]using hk)) h2⟩
 |.gv k R,x,hm,h=>by
  obtain⟨g,h1,h2⟩:=h;cases h1;exact⟨f',rfl,R.mono _ _ _ (hm k (by simp[V.refs])) h2⟩
 |.pv R,x,hm,h=>h
def zC.tW{f f':M}{Z:ZM}(σ:Nat->Nat):∀(vs:List V)(l:List bx),(∀k∈wh vs,∀L loc,f (σ k) L=aY loc->f' k L=aY loc)->zC (aY f) Z (rr σ vs) l->zC (aY f') Z vs l
 |[],l,_,h=>h
 |v::vs,l,hm,h=>by obtain⟨x,xs,h1,h2,h3⟩:=h;exact⟨x,xs,h1,aT.tW σ v x (λk hk=>hm k (by simp[wh,hk])) h2,zC.tW σ vs xs (λk hk=>hm k (by simp[wh,hk])) h3⟩
end
section
variable{P:bo}{f:FuncId}{args:List V}{F F':aw}{r:V}{σ:Nat->Nat}
def WJ{l:List Nat}(h:(l.map σ).Nodup):∀{a b:Nat},a∈l->b∈l->σ a=σ b->a=b:=by
 induction l with
 |nil=>intro a b ha;cases ha
 |cons x l ih =>
  rw[ij,cA]at h;intro a b ha hb e
  rcases bu.1 ha with h1|h1<;>rcases bu.1 hb with h2|h2
  .rw[h1,h2]
  .subst h1;exact(h.1 (e▸cG h2)).elim
  .subst h2;exact(h.1 (e▸cG h1)).elim
  .exact ih h.2 h1 h2 e
def mz.at(h:mz P f args F r F')(tD:nodupB ((keys F').map σ)=bh)(mY:Kx args F=bh)(pF:((keys F).all (keys F').contains)=bh):
  ∀w m Z vals,w8 m Z (JH σ F) w->zC (aY m) Z (rr σ args) vals->(∀k∈keys (JH σ F'),k ∉ keys (JH σ F)->∀L,m k L=bg) ->
   Calls P f vals.toArray w λen w'=>∃x m' Z',en=.returned x/\Step m Z (JH σ F) w m' Z' (JH σ F') w'/\aT (aY m') Z' (r.fM σ) x:=by
 intro w m Z vals hs hv mU;simp only[Kx,bn]at mY
 have NJ:∀k∈keys F,k∈keys F':=λk hk=>by have:=(bl.1 pF) k hk;simpa using this
 have Cw:∀{a b:Nat},a∈keys F'->b∈keys F'->σ a=σ b->a=b:=WJ (yB tD)
 let mc:M:=λk L=>if k∈keys F then m (σ k) L else bg
 have y_:∀k∈keys F,mc k=m (σ k):=λk hk=>by funext L;simp[mc,hk]
 have Je:∀k,k ∉ keys F->∀L,mc k L=bg:=λk hk L=>by simp[mc,hk]
 have q_:∀p∈F,gM mc p=gM m (σ p.1,p.2.fM σ):=λp hp=>Mz (y_ p.1 (ax hp))
 have l5:∀p∈F,(σ p.1,p.2.fM σ)∈JH σ F:=λp hp=>bL.2 ⟨p,hp,rfl⟩
 have G_:w8 mc Z F w:=by
  refine⟨hs.frozen,λp hp=>?_,?_,λp hp q hq b h1 h2=>?_⟩
  .have hh:=hs.holds _ (l5 p hp);have hk:=y_ p.1 (ax hp);obtain⟨k,o⟩:=p
   cases o with
   |box t cs =>
    obtain⟨b,cur,h1,h2,h3,h4,h5⟩:=hh;refine⟨b,cur,by rw[hk];exact h1,h2,zC.tW σ cs _ (λj hj L loc e=>?_) h3,h4,by rw[hk];exact h5⟩;have:=(bl.1 mY.2) _ hp;have:=(bl.1 this) j hj;rw[y_ j (by simpa using this)];exact e
   |row t sz fz els =>
    rcases hh with⟨h1,h2,h3,⟨b,h4⟩,h5⟩|⟨b,cap,cur,fr,h1,h2⟩
    .exact .inl ⟨h1,h2,h3,⟨b,by rw[hk];exact h4⟩,by rw[hk];exact h5⟩
    .exact .inr ⟨b,cap,cur,fr,by rw[hk];exact h1,by rw[hk];exact h2⟩
   |map l =>
    obtain⟨b,es,clock,h1,h2⟩:=hh;exact⟨b,es,clock,by rw[hk];exact h1,by rw[hk];exact h2⟩
   |n_ g t cs=>exact⟨by rw[hk];exact hh.1,hh.2.1,by rw[hk];exact hh.2.2⟩
   |nest t e sz pd ls =>
    show xD (mc k) _ _ t e sz pd ls
    rw[hk];exact hh
   |gen G =>
    show G.holds (mc k) _ _
    rw[hk];exact hh
  .have:=hs.nodup;rw[vv]at this;exact vd _ this
  .rw[q_ p hp]at h1;rw[q_ q hq]at h2;exact Cw (NJ _ (ax hp)) (NJ _ (ax hq)) (hs.p_ _ (l5 p hp) _ (l5 q hq) b h1 h2)
 refine Calls.mono (h w mc Z vals G_ (zC.tW σ args vals (λj hj L loc e=>?_) hv) Je) ?_
 .have:=(bl.1 mY.1) j hj;rw[y_ j (by simpa using this)];exact e
 rintro en w' ⟨x,Hz,Z',he,gy,hr⟩
 let m':M:=λk2 L=>match (keys F').find? (λi=>decide (σ i=k2))with
  |some i=>Hz i L
  |none=>m k2 L
 have Nw:∀i∈keys F',m' (σ i)=Hz i:=λi hi=>by
  funext L
  cases hf:(keys F').find? (λj=>decide (σ j=σ i))with
  |none =>
   have:=iz.1 hf i hi;simp at this
  |some j =>
   have h1:=List.find?_some hf;have h2:=List.mem_of_find?_eq_some hf;simp only[aU]at h1;have:=Cw h2 hi h1;subst this;simp only[m',hf]
 have aaG:∀k,k ∉ keys (JH σ F')->m' k=m k:=λk hk=>by
  funext L
  have:(keys F').find? (λj=>decide (σ j=k))=bg:=iz.2 λj hj=>by simp only[aU];rintro rfl;exact hk (by rw[vv];exact cG hj)
  simp only[m',this]
 have Dm:∀i∈keys F',∀L loc,Hz i L=aY loc->m' (σ i) L=aY loc:=λi hi L loc e=>by rw[Nw i hi];exact e
 have aa3:∀k L loc,Hz k L=aY loc->m' (σ k) L=aY loc:=λk L loc e=>by
  by_cases hk:k∈keys F'
  .exact Dm k hk L loc e
  .rw[gy.sT k hk]at e;rw[Je k (λh'=>hk (NJ k h'))]at e;cases e
 have Tu:∀p∈F',gM m' (σ p.1,p.2.fM σ)=gM Hz p:=λp hp=>(Mz (Nw p.1 (ax hp)).symm).symm
 have Tv:∀p∈F,∀b,gM mc p b->∃q∈JH σ F,gM m q b:=λp hp b hb=>⟨_,l5 p hp,by rw[<- q_ p hp];exact hb⟩
 refine⟨x,m',Z',he,⟨⟨gy.iW.frozen,?_,?_,?_⟩,?_,gy.o4,gy.os,gy.tape,gy.output,gy.size,?_,?_,aaG,?_,?_⟩,aT.fM σ r x (λk _ L loc e=>aa3 k L loc e) hr⟩
 .intro q hq;obtain⟨p,hp,rfl⟩:=bL.1 hq;have hh:=gy.iW.holds p hp;have hk:=Nw p.1 (ax hp);obtain⟨k,o⟩:=p
  cases o with
  |box t cs =>
   obtain⟨b,cur,h1,h2,h3,h4,h5⟩:=hh;exact⟨b,cur,by rw[hk];exact h1,h2,zC.fM σ cs _ (λj _ L loc e=>aa3 j L loc e) h3,h4,by rw[hk];exact h5⟩
  |row t sz fz els =>
   rcases hh with⟨h1,h2,h3,⟨b,h4⟩,h5⟩|⟨b,cap,cur,fr,h1,h2⟩
   .exact .inl ⟨h1,h2,h3,⟨b,by rw[hk];exact h4⟩,by rw[hk];exact h5⟩
   .exact .inr ⟨b,cap,cur,fr,by rw[hk];exact h1,by rw[hk];exact h2⟩
  |map l =>
   obtain⟨b,es,clock,h1,h2⟩:=hh;exact⟨b,es,clock,by rw[hk];exact h1,by rw[hk];exact h2⟩
  |n_ g t cs=>exact⟨by rw[hk];exact hh.1,hh.2.1,by rw[hk];exact hh.2.2⟩
  |nest t e sz pd ls =>
   show xD (m' (σ k)) _ _ t e sz pd ls
   rw[hk];exact hh
  |gen G =>
   show G.holds (m' (σ k)) _ _
   rw[hk];exact hh
 .rw[vv];exact yB tD
 .intro p hp q hq b h1 h2;obtain⟨p',ka,rfl⟩:=bL.1 hp;obtain⟨q',mZ,rfl⟩:=bL.1 hq;rw[Tu p' ka]at h1;rw[Tu q' mZ]at h2;exact aP σ (gy.iW.p_ p' ka q' mZ b h1 h2)
 .intro k L loc e;by_cases hk:k∈keys (JH σ F')
  .rw[vv]at hk;obtain⟨i,hi,rfl⟩:=bL.1 hk;rw[Nw i hi];by_cases UJ:i∈keys F
   .exact gy.pM i L loc (by rw[y_ i UJ];exact e)
   .rw[mU (σ i) (by rw[vv];exact cG hi) (λh'=>by
     rw[vv]at h';obtain⟨j,hj,e'⟩:=bL.1 h';have:=Cw (NJ j hj) hi e';subst this
     exact UJ hj)]at e
    cases e
  .rw[aaG k hk];exact e
 .intro b hb hn
  exact gy.frame b hb λp hp e=>by obtain⟨q,hq,e'⟩:=Tv p hp b e;exact hn q hq e'
 .intro k hk;rw[vv]at hk ⊢;obtain⟨i,hi,rfl⟩:=bL.1 hk;exact cG (gy.keep i hi)
 .intro q hq b hb;obtain⟨p,hp,rfl⟩:=bL.1 hq;rw[Tu p hp]at hb
  exact(gy.nZ p hp b hb).imp id λ⟨p',ka,e⟩=>Tv p' ka b e
 .intro a x ha;exact(gy.su a x ha).imp id (Or.imp id λ⟨p',ka,e⟩=>Tv p' ka _ e)
end
mutual
inductive au(F:aw):V->V->Prop
 |Ji {v v':V} (h:∀(m:Option M)(Z:ZM)(x:bx),aT m Z v x->aT m Z v' x):au F v v'
 |same (v:V):au F v v
 |gg (sz:Nat):au F .gg (.vs sz [])
 |row {k sz t fz L:Nat} {els:List (List V)} (h:F.get k=aY (.row t sz fz els)) (hL:L=els.length):au F (.sl sz k L 0 L) (.vs sz els)
 |sub {k sz t fz L o n:Nat} {els:List (List V)} (h:F.get k=aY (.row t sz fz els)) (hL:L=els.length) (hn:o+n<=L):au F (.sl sz k L o n) (.vs sz ((els.drop o).take n))
 |agg {cs cs':List V} (h:jG F cs cs'):au F (.agg cs) (.agg cs')
 |tU {k sz t fz L:Nat} {els:List (List V)} (h:F.get k=aY (.row t sz fz els)) (hL:L=els.length):au F (.gv k (Ti sz L)) (.vs sz els)
inductive jG(F:aw):List V->List V->Prop
 |nil:jG F [] []
 |cons {v v':V} {l l':List V} (h:au F v v') (h':jG F l l'):jG F (v::l) (v'::l')
end
def k_:aw->aw
 |[]=>[]
 |(k,.row t sz _ els)::r=>(k,.row t sz els.length els)::k_ r
 |p::r=>p::k_ r
open Classical in
noncomputable def sQ(m:M)(Z:ZM)(F:aw)(w:bF):ZM:=λa =>
 if a.spot=bg/\∃k t sz fz els b cap,(k,Obj.row t sz fz els)∈F/\m k els.length=aY (b,cap)/\0<cap/\a.block=b/\a.off<els.length*sz then w.cell? a else Z a
def j7:∀{F:aw}{p:Nat×Obj},p∈k_ F->(∃k t sz fz els,(k,Obj.row t sz fz els)∈F/\p=(k,.row t sz els.length els))∨(p∈F/\∀t sz fz els,p.2≠.row t sz fz els)
 |[],p,h=>by cases h
 |(k,.row t sz fz els)::r,p,h=>by
  simp only[k_]at h
  rcases bu.1 h with rfl|h
  .exact .inl ⟨k,t,sz,fz,els,ak,rfl⟩
  .rcases j7 h with⟨k,t,sz,fz,els,h1,h2⟩|⟨h1,h2⟩
   .exact .inl ⟨k,t,sz,fz,els,iO _ h1,h2⟩
   .exact .inr ⟨iO _ h1,h2⟩
 |(k,.box t cs)::r,p,h=>by
  simp only[k_]at h
  rcases bu.1 h with rfl|h
  .exact .inr ⟨ak,λ_ _ _ _ e=>by cases e⟩
  .rcases j7 h with⟨k,t,sz,fz,els,h1,h2⟩|⟨h1,h2⟩
   .exact .inl ⟨k,t,sz,fz,els,iO _ h1,h2⟩
   .exact .inr ⟨iO _ h1,h2⟩
 |(k,.map l)::r,p,h=>by
  simp only[k_]at h
  rcases bu.1 h with rfl|h
  .exact .inr ⟨ak,λ_ _ _ _ e=>by cases e⟩
  .rcases j7 h with⟨k,t,sz,fz,els,h1,h2⟩|⟨h1,h2⟩
   .exact .inl ⟨k,t,sz,fz,els,iO _ h1,h2⟩
   .exact .inr ⟨iO _ h1,h2⟩
 |(k,.n_ g t cs)::r,p,h=>by
  simp only[k_]at h
  rcases bu.1 h with rfl|h
  .exact .inr ⟨ak,λ_ _ _ _ e=>by cases e⟩
  .rcases j7 h with⟨k,t,sz,fz,els,h1,h2⟩|⟨h1,h2⟩
   .exact .inl ⟨k,t,sz,fz,els,iO _ h1,h2⟩
   .exact .inr ⟨iO _ h1,h2⟩
 |(k,.nest g t VD Vx Ee)::r,p,h=>by
  simp only[k_]at h
  rcases bu.1 h with rfl|h
  .exact .inr ⟨ak,λ_ _ _ _ e=>by cases e⟩
  .rcases j7 h with⟨k,t,sz,fz,els,h1,h2⟩|⟨h1,h2⟩
   .exact .inl ⟨k,t,sz,fz,els,iO _ h1,h2⟩
   .exact .inr ⟨iO _ h1,h2⟩
 |(k,.gen g)::r,p,h=>by
  simp only[k_]at h
  rcases bu.1 h with rfl|h
  .exact .inr ⟨ak,λ_ _ _ _ e=>by cases e⟩
  .rcases j7 h with⟨k,t,sz,fz,els,h1,h2⟩|⟨h1,h2⟩
   .exact .inl ⟨k,t,sz,fz,els,iO _ h1,h2⟩
   .exact .inr ⟨iO _ h1,h2⟩
def wU:∀{F:aw},keys (k_ F)=keys F
 |[]=>rfl
 |(k,.row t sz fz els)::r=>by simp only[k_,keys,ij];congr 1;exact wU
 |(k,.box t cs)::r=>by simp only[k_,keys,ij];congr 1;exact wU
 |(k,.map l)::r=>by simp only[k_,keys,ij];congr 1;exact wU
 |(k,.n_ g t cs)::r=>by simp only[k_,keys,ij];congr 1;exact wU
 |(k,.nest g t VD Vx Ee)::r=>by simp only[k_,keys,ij];congr 1;exact wU
 |(k,.gen g)::r=>by simp only[k_,keys,ij];congr 1;exact wU
section
variable{m:M}{Z:ZM}{F:aw}{w:bF}
def Rw(hf:∀a x,Z a=aY x->w.cell? a=aY x):∀a x,Z a=aY x->sQ m Z F w a=aY x:=λa x h=>by
 unfold sQ;split
 .exact hf a x h
 .exact h
def zsu(hf:∀a x,Z a=aY x->w.cell? a=aY x):∀a x,sQ m Z F w a=aY x->w.cell? a=aY x:=λa x h=>by
 unfold sQ at h;split at h
 .exact h
 .exact hf a x h
def znb:∀{l:aw},(keys l).Nodup->∀p∈l,∀q∈l,q.1=p.1->q=p:=by
 intro l hl
 induction l with
 |nil=>intro p hp;cases hp
 |cons a l ih =>
  simp only[keys,ij,cA]at hl;intro p hp q hq e
  rcases bu.1 hp with h1|h1<;>rcases bu.1 hq with h2|h2
  .rw[h1,h2]
  .exact(hl.1 (bL.2 ⟨q,h2,by rw[e,h1]⟩)).elim
  .exact(hl.1 (bL.2 ⟨p,h1,by rw[<- e,h2]⟩)).elim
  .exact ih hl.2 p h1 q h2 e
def Step.freeze(hs:w8 m Z F w):Step m Z F w m (sQ m Z F w) (k_ F) w:=by
 have rb:∀p∈k_ F,∃q∈F,p.1=q.1/\gM m p=gM m q:=λp hp=>by
  rcases j7 hp with⟨k,t,sz,fz,els,h1,h2⟩|⟨h1,_⟩
  .subst h2;exact⟨_,h1,rfl,rfl⟩
  .exact⟨p,h1,rfl,rfl⟩
 have Hx:∀a x,sQ m Z F w a=aY x->Z a=aY x∨∃k t sz fz els b cap,(k,Obj.row t sz fz els)∈F/\m k els.length=aY (b,cap)/\0<cap/\a.block=b/\a.off<els.length*sz:=λa x h=>by
  unfold sQ at h;split at h
  .rename_i hc;exact .inr hc.2
  .exact .inl h
 refine⟨⟨zsu hs.frozen,λp hp=>?_,by rw[wU];exact hs.nodup,λp hp q hq b h1 h2=>?_⟩,λ_ _ _ e=>e,Rw hs.frozen,rfl,rfl,rfl,al,λ_ _ _=>rfl,λk hk=>by rw[wU];exact hk,λ_ _=>rfl,λp hp b hb=>?_,λa x ha=>?_⟩
 .rcases j7 hp with⟨k,t,sz,fz,els,h1,h2⟩|⟨h1,h2⟩
  .subst h2
   rcases hs.holds _ h1 with⟨g1,rfl,g3,g4,g5⟩|⟨b,cap,cur,fr,g1,g0,g2,g3,g4,g5,g6,g7,g8,g9,g10,g11,g12,g13⟩
   .exact .inl ⟨g1,rfl,rfl,g4,g5⟩
   have nQ:cap≠0:=ab;refine .inr ⟨b,cap,cur,fr,g1,g0,g2,g3,g4,g5,g6,g7.up (Rw hs.frozen) (λf e=>by cases e),g8,cY g9 (ck _ g10),al,λa x ha e=>?_,g12,λoff x ho hx=>?_⟩
   .rcases Hx a x ha with h'|⟨k',t',mo,rC,Cv,b',cap',Br,u4,Uj,pH,Oj⟩
    .exact dT (g11 a x h' e) (ck _ g10)
    .have GU:cap'≠0:=ab;have hk:k'=k:=hs.p_ _ Br _ h1 b (by simp[gM,oi,Obj.ver,u4,GU,<- pH,e]) (by simp[gM,oi,Obj.ver,g1,nQ]);subst hk;have hq:=znb hs.nodup _ h1 _ Br rfl;simp only[Prod.mk.injEq,Obj.row.injEq,true_and]at hq;obtain⟨_,rfl,_,rfl⟩:=hq;exact Oj
   .unfold sQ;rw[aO ⟨rfl,k,t,sz,fz,els,b,cap,h1,g1,g0,rfl,ho⟩,cell_of_row w b off cur t fr g2];exact hx
  .have hh:=hs.holds p h1
   refine hh.keep (λ_ _ _ e=>e) rfl (Rw hs.frozen) λb hb=>⟨rfl,λa x ha e=>?_⟩
   rcases Hx a x ha with h'|⟨k',t',mo,rC,Cv,b',cap',Br,u4,Uj,pH,Oj⟩
   .exact h'
   .have GU:cap'≠0:=ab;have hk:k'=p.1:=hs.p_ _ Br _ h1 b (by simp[gM,oi,Obj.ver,u4,GU,<- pH,e]) hb;have:=znb hs.nodup p h1 _ Br hk;exact aQ (by rw[<- this]) (h2 t' mo rC Cv)
 .obtain⟨p',ka,e1,e2⟩:=rb p hp;obtain⟨q',mZ,e3,e4⟩:=rb q hq;rw[e1,e3];exact hs.p_ p' ka q' mZ b (e2▸h1) (e4▸h2)
 .obtain⟨q,hq,_,e⟩:=rb p hp;exact .inr ⟨q,hq,e▸hb⟩
 .rcases Hx a x ha with h'|⟨k',t',mo,rC,Cv,b',cap',Br,u4,Uj,pH,Oj⟩
  .exact .inl h'
  .have GU:cap'≠0:=ab;exact .inr (.inr ⟨_,Br,by simp[gM,oi,Obj.ver,u4,pH,GU]⟩)
end
def jt{sz:Nat}:∀{els:List (List V)},(∀e∈els,e.length=sz)->∀{i j:Nat}{cs:List V}{v:V},els[i]?=aY cs->cs[j]?=aY v->els.flatten[i*sz+j]?=aY v
 |[],_,i,j,cs,v,h,_=>by simp at h
 |e::r,hk,0,j,cs,v,h,hj=>by
  simp only[dZ,Option.some.injEq]at h;subst h;rw[cN,ee,cl,dq (bq.1 hj).1];exact hj
 |e::r,hk,i+1,j,cs,v,h,hj=>by have he:=hk e ak;rw[cN,dJ (by rw[he,dh];omega)];rw[show(i+1)*sz+j-e.length=i*sz+j by rw[he,dh];omega];exact jt (λx hx=>hk x (iO _ hx)) (by simpa using h) hj
def xw{sz:Nat}:∀{els:List (List V)},(∀e∈els,e.length=sz)->els.flatten.length=els.length*sz
 |[],_=>ae
 |e::r,hk=>by rw[cN,la,xw (λx hx=>hk x (iO _ hx)),hk e ak,lc,dh];omega
section
variable{m:M}{Z:ZM}{F:aw}{w:bF}
def Ry{k t sz:Nat}{els:List (List V)}(h:Holds m Z w k (.row t sz els.length els)):∃b cap,m k els.length=aY (b,cap)/\els.length<=cap/\(cap=0∨xq Z ⟨b,0,bg⟩ sz 0 els):=by
 rcases h with⟨g1,rfl,g3,⟨b,g4⟩,g5⟩|⟨b,cap,cur,fr,g1,g0,g2,g3,g4,g5,g6,g7,g8,g9,g10,g11,g12,g13⟩
 .exact⟨b,0,g4,al,.inl rfl⟩
 refine⟨b,cap,g1,g3,.inr (xq.po λi cs hi=>⟨g8 cs (bW hi),qV.po λj v hj=>?_⟩)⟩;have pf:i<els.length:=(bq.1 hi).1
 have DY:j<sz:=by have:=(bq.1 hj).1;rw[g8 cs (bW hi)]at this;exact this
 have ib:i*sz+j<els.length*sz:=by have:(i+1)*sz<=els.length*sz:=ck sz pf;rw[dh]at this;omega
 obtain⟨x,h1,h2⟩:=g7.get (jt g8 hi hj);rw[cj,aO ib]at h1;refine⟨x,?_,h2⟩;rw[cl,cl,JG,Addr.add_lit,cl];exact g13 _ x ib (by simpa using h1)
def zyj{m:Option M}{Z:ZM}{k sz n:Nat}{x:bx}(h:aT m Z (.gv k (Ti sz n)) x):aT m Z (.sl sz k n 0 n) x:=by
 obtain⟨f,hf,loc,h1,h2,h3,h4⟩:=h;refine⟨f,loc,hf,h1,ab,h3,?_⟩
 rcases h4 with⟨_,h4⟩|⟨h5,h6,h4⟩
 .exact .inl h4
 .exact .inr (.inl ⟨h6,bg,h4⟩)
mutual
def au.rep(hs:∀k t sz fz els,F.get k=aY (.row t sz fz els)->Holds m Z w k (.row t sz els.length els)):∀{v v':V},au F v v'->∀{x:bx},aT (aY m) Z v x->aT (aY m) Z v' x
 |_,_,.Ji hw,x,h=>hw _ _ _ h
 |_,_,.same v,x,h=>h
 |_,_,.gg sz,x,h=>⟨bg,0,h,al,cH _,.inl rfl⟩
 |_,_,.row (k:=k) (sz:=sz) (t:=t) (fz:=fz) (L:=L) (els:=els) hg hL,x,h=>by
  subst hL;obtain⟨b,cap,h1,h2,h4⟩:=Ry (hs _ _ _ _ _ hg);obtain⟨f,loc,e1,e2,e3,e4,e5⟩:=h;cases e1;rw[h1]at e2;cases e2
  rcases e5 with e5|⟨e5,A,e6⟩|⟨e5,_⟩
  .refine⟨_,_,e5,by simpa using h2,by simpa using e4,?_⟩
   rcases h4 with h4|h4
   .exact .inl (cy ab)
   .exact .inr ⟨⟨b,0,bg⟩,ae,h4⟩
  .have:els=[]:=cy (by simp only at e5;omega);subst this;exact⟨A,0,e6,al,by simp[maxLen],.inl rfl⟩
  .omega
 |_,_,.tU (k:=k) (sz:=sz) (t:=t) (fz:=fz) (L:=L) (els:=els) hg hL,x,h=>by
  subst hL;have h:=zyj h;obtain⟨b,cap,h1,h2,h4⟩:=Ry (hs _ _ _ _ _ hg);obtain⟨f,loc,e1,e2,e3,e4,e5⟩:=h;cases e1;rw[h1]at e2;cases e2
  rcases e5 with e5|⟨e5,A,e6⟩|⟨e5,_⟩
  .refine⟨_,_,e5,by simpa using h2,by simpa using e4,?_⟩
   rcases h4 with h4|h4
   .exact .inl (cy ab)
   .exact .inr ⟨⟨b,0,bg⟩,ae,h4⟩
  .have:els=[]:=cy (by simp only at e5;omega);subst this;exact⟨A,0,e6,al,by simp[maxLen],.inl rfl⟩
  .omega
 |_,_,.sub (k:=k) (sz:=sz) (t:=t) (fz:=fz) (L:=L) (o:=o) (n:=n) (els:=els) hg hL hn,x,h=>by
  subst hL;obtain⟨b,cap,h1,h2,h4⟩:=Ry (hs _ _ _ _ _ hg);obtain⟨f,loc,e1,e2,e3,e4,e5⟩:=h;cases e1;rw[h1]at e2;cases e2
  have hl:((els.drop o).take n).length=n:=by simp;omega
  simp only at e3 e4 e5
  rcases e5 with e5|⟨e5,A,e6⟩|⟨_,e5,A,c',e6,e7⟩
  .refine⟨aY ⟨b,o*sz,bg⟩,cap-o,by rw[hl];exact e5,by rw[hl];omega,ab,?_⟩
   rcases h4 with h4|h4
   .exact .inl (cy (by rw[hl];omega))
   refine .inr ⟨_,rfl,xq.po λi cs hi=>?_⟩;rw[cj]at hi;split at hi
   .rw[cW]at hi;have:=h4.get hi;refine⟨this.1,?_⟩;have h5:=this.2;rw[Addr.add_lit]at h5 ⊢;rw[show o*sz+(0+i)*sz=0+(0+(o+i))*sz by rw[cl,cl,cl,da]];exact h5
   .cases hi
  .have h0:(els.drop o).take n=[]:=cy (by rw[hl];omega);rw[h0];exact⟨A,0,e6,al,by simp[maxLen],.inl rfl⟩
  .have h0:(els.drop o).take n=[]:=cy (by rw[hl];omega);rw[h0];exact⟨A,c',e6,cH _,e7,.inl rfl⟩
 |_,_,.agg hl,x,h=>by obtain⟨l,h1,h2⟩:=h;exact⟨l,h1,jG.rep hs hl h2⟩
def jG.rep(hs:∀k t sz fz els,F.get k=aY (.row t sz fz els)->Holds m Z w k (.row t sz els.length els)):∀{l l':List V},jG F l l'->∀{xs:List bx},zC (aY m) Z l xs->zC (aY m) Z l' xs
 |_,_,.nil,xs,h=>h
 |_,_,.cons h1 h2,xs,h=>by obtain⟨x,Ib,rfl,h3,h4⟩:=h;exact⟨x,Ib,rfl,au.rep hs h1 h3,jG.rep hs h2 h4⟩
end
end
mutual
/-- No slice among it that is only read. -/
def V.bare:V->Bool
 |.vs ..|.vp ..|.pv ..=>bf
 |.agg cs=>Qb cs
 |.iN xs=>Qb xs
 |.fn _ a b=>Qb a&&Qb b
 |.mP _ v=>v.bare
 |_=>bh
def Qb:List V->Bool
 |[]=>bh
 |v::l=>v.bare&&Qb l
end
mutual
def aT.bare{m:Option M}{Z Z':ZM}:∀(v:V)(x:bx),v.bare=bh->aT m Z v x->aT m Z' v x
 |.undef,x,_,h=>trivial
 |.no,x,_,h=>h
 |.int k n,x,_,h=>h
 |.bool b,x,_,h=>h
 |.str l,x,_,h=>h
 |.mx,x,_,h=>h
 |.ptr k L off,x,_,h=>h
 |.vp cs off,x,hb,h=>by cases hb
 |.gg,x,_,h=>h
 |.sl sz k L o n,x,_,h=>h
 |.vs sz els,x,hb,h=>by cases hb
 |.fn g first caps,x,hb,h=>by
  obtain⟨l1,l2,h1,h2,h3⟩:=h;simp only[V.bare,bn]at hb;exact⟨l1,l2,h1,zC.bare first l1 hb.1 h2,zC.bare caps l2 hb.2 h3⟩
 |.nd,x,_,h=>h
 |.agg cs,x,hb,h=>by
  obtain⟨l,h1,h2⟩:=h;exact⟨l,h1,zC.bare cs l hb h2⟩
 |.iN xs,x,hb,h=>by
  obtain⟨l,h1,h2⟩:=h;exact⟨l,h1,zC.bare xs l hb h2⟩
 |.mD,x,_,h=>h
 |.mp k,x,_,h=>h
 |.nM,x,_,h=>h
 |.mP t v,x,hb,h=>by
  obtain⟨y,h1,h2⟩:=h;exact⟨y,h1,aT.bare v y hb h2⟩
 |.gv k R,x,_,h=>h
 |.pv R,x,hb,h=>by cases hb
def zC.bare{m:Option M}{Z Z':ZM}:∀(vs:List V)(l:List bx),Qb vs=bh->zC m Z vs l->zC m Z' vs l
 |[],l,_,h=>h
 |v::vs,l,hb,h=>by obtain⟨x,xs,h1,h2,h3⟩:=h;simp only[Qb,bn]at hb;exact⟨x,xs,h1,aT.bare v x hb.1 h2,zC.bare vs xs hb.2 h3⟩
end
def get_of_mem{F:aw}(hn:(keys F).Nodup):∀{k:Nat}{o:Obj},(k,o)∈F->F.get k=aY o:=by
 induction F with
 |nil=>intro k o h;cases h
 |cons p F ih =>
  obtain⟨k',o'⟩:=p;simp only[keys,ij,cA]at hn;intro k o h;simp only[aw.get]
  rcases bu.1 h with h|h
  .cases h;rw[cC];rfl
  .have lD:k≠k':=λe=>hn.1 (e▸cG h)
   have:bm k k'=bf:=by
    cases hb:bm k k' with
    |true=>exact aQ (eb hb) lD
    |false=>rfl
   rw[this,cf];exact ih hn.2 h
section
variable{P:bo}{ρ:Env}{w:bF}{dst:Option Tmp}{ty:bK}{pos:String}{aft:Array Edge}{gd:Option (Nat×Bool)}{f:FuncId}{l:List bI}{ts:Array bK}{args:List V}{F F' R:aw}{r:V}
def zsv{ρr:zS}{w:bF}{Rr:bx->bF->Prop}(hf:zb P f)(h:Calls P f (l.map (ev ρr)).toArray w λen w'=>∃x,en=.returned x/\Rr x w'):CZ P ⟨dst,.call ⟨.value (.func f),l.toArray,ts⟩,ty,pos,aft,gd⟩ ρr w Rr:=⟨rfl,.inr (.inr ⟨f,_,w,zmw _ hf rfl,h⟩)⟩
end
inductive Src(sz:Nat)(R:aw):V->List (List V)->Prop
 |vs (ys:List (List V)):Src sz R (.vs sz ys) ys
 |gg:Src sz R .gg []
 |sl {k L t fz:Nat} {ys:List (List V)} (h:R.get k=aY (.row t sz fz ys)) (hL:L=ys.length):Src sz R (.sl sz k L 0 L) ys
def zsw{Z:ZM}{w:bF}{a:Addr}{sz:Nat}{ys:List (List V)}(h0:0<sz)(hf:∀a x,Z a=aY x->w.cell? a=aY x)(h:xq Z a sz 0 ys):
  ∃news:List bx,zC bg Z ys.flatten news/\∀j u,news[j]?=aY u->w.cell? (a.add j)=aY u:=by
 have hlen:∀e∈ys,e.length=sz:=λe he=>by obtain⟨i,hi,rfl⟩:=dL he;exact(h.get (bA hi)).1
 have B1:=xw hlen
 have key:∀j,j<ys.flatten.length->∃x,w.cell? (a.add j)=aY x/\∀v,ys.flatten[j]?=aY v->aT bg Z v x:=λj hj=>by
  rw[B1]at hj;have hdiv:j / sz<ys.length:=(Nat.div_lt_iff_lt_mul h0).2 hj;have ajR:j % sz<sz:=Nat.mod_lt _ h0
  have B3:j / sz*sz+j % sz=j:=by rw[gR];exact Nat.div_add_mod j sz
  have GX:ys[j / sz]?=aY (ys[j / sz]'hdiv):=bA hdiv;have Lu:=hlen _ (dS hdiv);obtain⟨_,DR⟩:=h.get GX;have hv:(ys[j / sz]'hdiv)[j % sz]?=aY ((ys[j / sz]'hdiv)[j % sz]' ab):=bA ab;obtain⟨x,h1,h2⟩:=DR.get hv;rw[cl,cl,JG,B3]at h1;refine⟨x,hf _ _ h1,λv D_=>?_⟩;have:=jt hlen GX hv;rw[B3,D_]at this;cases this;exact h2
 let news:List bx:=(dn ys.flatten.length).map λj=>(w.cell? (a.add j)).getD Go.undef
 have ra:∀j,j<ys.flatten.length->news[j]?=w.cell? (a.add j):=λj hj=>by obtain⟨x,h1,_⟩:=key j hj;simp only[news,cz,dM hj,de,h1,dB]
 refine⟨news,zC.po (by simp[news]) λj v x hv hx=>?_,λj u hj=>?_⟩
 .have hj:=(bq.1 hv).1;obtain⟨y,h1,h2⟩:=key j hj;rw[ra j hj,h1]at hx;cases hx;exact h2 v hv
 .have DY:j<ys.flatten.length:=by have:=(bq.1 hj).1;simpa[news]using this
  rw[<- ra j DY];exact hj
def Src.read{m:M}{Z:ZM}{w:bF}{R:aw}{sz:Nat}{y:V}{ys:List (List V)}{x:bx}(h:Src sz R y ys)(h0:0<sz)(hs:w8 m Z R w)(hx:aT (aY m) Z y x):
  ∃A c,x=.slice A ys.length c/\ys.length<=maxLen/\(A=bg->ys=[])/\∀a,A=aY a->∃news:List bx,zC bg Z ys.flatten news/\∀j u,news[j]?=aY u->w.cell? (a.add j)=aY u:=by
 cases h with
 |vs =>
  obtain⟨A,c,h1,h2,h3,h4⟩:=hx;refine⟨A,c,h1,ab,λhA=>?_,λa hA=>?_⟩
  .rcases h4 with h4|⟨a,h4,_⟩
   .exact h4
   .rw[hA]at h4;cases h4
  .rcases h4 with h4|⟨a',h4,h5⟩
   .subst h4;exact⟨[],rfl,λj u h=>by simp at h⟩
   .rw[hA]at h4;cases h4;exact zsw h0 hs.frozen h5
 |gg=>exact⟨bg,0,hx,by simp[maxLen],λ_=>rfl,λa h=>by cases h⟩
 |sl hg hL =>
  subst hL;obtain⟨f,loc,e1,e2,e3,e4,e5⟩:=hx;cases e1
  replace e5:=e5.imp_right λh=>h.resolve_right λh=>gJ 0 h.1
  rcases hs.holds _ (aw.get_mem hg)with⟨_,h1,_,⟨b,h3⟩,_⟩|⟨b,cap,cur,fr,g1,g0,g2,g3,g4,g5,g6,g7,g8,g9,g10,g11,g12,g13⟩
  .subst h1
   rcases e5 with e5|⟨_,A,e5⟩
   .exact⟨_,_,e5,by simp[maxLen],λ_=>rfl,λa _=>⟨[],rfl,λj u h=>by simp at h⟩⟩
   .exact⟨_,_,e5,by simp[maxLen],λ_=>rfl,λa _=>⟨[],rfl,λj u h=>by simp at h⟩⟩
  .rw[g1]at e2;cases e2
   rcases e5 with e5|⟨e5,_⟩
   .refine⟨_,_,e5,ab,λh=>(by cases h),λa h=>?_⟩;cases h;refine⟨_,g7,λj u hj=>?_⟩;rw[Addr.add_lit,ee,cl,cell_of_row w b j cur _ fr g2];rw[cj]at hj;split at hj
    .simpa using hj
    .cases hj
   .simp only at e5;omega
def kQ(P:bo)(t:Nat):Option (Nat×Nat×Nat):=
 match P.underlying t with
 |some (.slice e)=>match P.info? e with
  |some i=>match i.zero with
   |some z=>if cm 1 i.size&&bm z.cells.size i.size then aY (e,i.size,i.bytes)else bg
   |none=>bg
  |none=>bg
 |_=>bg
def kS{P:bo}{t e sz bytes:Nat}(h:kQ P t=aY (e,sz,bytes)):∃i z,P.underlying t=aY (.slice e)/\P.info? e=aY i/\i.zero=aY z/\i.size=sz/\i.bytes=bytes/\z.cells.size=sz/\0<sz:=by
 unfold kQ at h;split at h
 .rename_i e' hu;split at h
  .rename_i i hi;split at h
   .rename_i z hz;split at h
    .rename_i hc;simp only[bn]at hc;simp only[Option.some.injEq,Prod.mk.injEq]at h;obtain⟨rfl,rfl,rfl⟩:=h;exact⟨i,z,hu,hi,hz,rfl,rfl,eb hc.2,mi hc.1⟩
    .cases h
   .cases h
  .cases h
 .cases h
section
variable{P:bo}{m:M}{Z:ZM}{w:bF}
def Q9{vs:List V}{l:List bx}{mm:Option M}(h:zC mm Z vs l)(h1:vs.all V.one=bh):∀u∈l,u.oneCell'=bh:=λu hu=>by obtain⟨i,hi,he⟩:=dL hu;have hl:=h.length;have hv:vs[i]?=aY (vs[i]' ab):=bA ab;obtain⟨u',h4,h5⟩:=h.get hv;rw[bA hi,he]at h4;cases h4;exact h5.one ((bl.1 h1) _ (dS _))
def Step.grown{k t sz fz:Nat}{els all:List (List V)}{cur:Array bx}{cap:Nat}{o:Obj}{w1:bF}(hs:w8 m Z [(k,o)] w)(rb:o.ver=els.length)(mU:∀L loc,m k L=aY loc->L<=els.length)(ib:els.length<all.length)
  (hh:w1.heap=w.heap) (h1:w1.os=w.os) (h2:w1.tape=w.tape) (h3:w1.output=w.output)
  (h0:0<sz) (EG:all.length<=cap) (tf:cap<=maxLen) (nD:cur.size=cap*sz) (hr:zC bg Z all.flatten (cur.toList.take (all.length*sz))) (hk:∀e∈all,e.length=sz) (nW:fz<=els.length):
  ∃m' Z',Step m Z [(k,o)] w m' Z' [(k,.row t sz fz all)] (w1.alloc (.cells cur t))/\m' k all.length=aY (w.heap.size,cap):=by
 let m':M:=λk' L=>if k'=k/\L=all.length then aY (w.heap.size,cap)else m k' L
 have sg:m' k all.length=aY (w.heap.size,cap):=by simp[m']
 have y7:∀k' L loc,m k' L=aY loc->m' k' L=aY loc:=λk' L loc e=>by
  by_cases hc:k'=k/\L=all.length
  .obtain⟨rfl,rfl⟩:=hc;have:=mU _ _ e;omega
  .simp only[m',aN hc];exact e
 let Z':ZM:=λa=>if a.block=w.heap.size/\a.spot=bg/\a.off<fz*sz then cur[a.off]? else Z a
 have h_:w1.heap.size=w.heap.size:=by rw[hh]
 have Gg:∀a x,Z a=aY x->a.block<w.heap.size:=λa x ha=>xv hs.frozen ha
 have Uy:∀a x,Z a=aY x->Z' a=aY x:=λa x ha=>by have:=Gg a x ha;simp only[Z',aN (show ¬(a.block=w.heap.size/\a.spot=bg/\a.off<fz*sz) by omega)];exact ha
 have Dr:(w1.alloc (.cells cur t)).heap[w.heap.size]?=aY (.cells cur t (0,0)):=by rw[<- h_];exact World.alloc_heap_new w1 _
 have pj:∀off,(w1.alloc (.cells cur t)).cell? ⟨w.heap.size,off,bg⟩=cur[off]?:=λoff=>cell_of_row _ _ off cur t (0,0) Dr
 have hold:∀j,j<w.heap.size->(w1.alloc (.cells cur t)).heap[j]?=w.heap[j]?:=λj hj=>by rw[<- hh];exact Below.heap_alloc w1 _ j ab
 have nQ:cap≠0:=ab;refine⟨m',Z',⟨⟨λa x ha=>?_,λp hp=>?_,by simp[keys],λp hp q hq _ _ _=>?_⟩,y7,Uy,h1,h2,h3,by simp[h_],λj hj _=>hold j hj,λj hj=>by simpa[keys]using hj,λj hj=>?_,λp hp b hb=>?_,λa x ha=>?_⟩,sg⟩
 .simp only[Z']at ha;split at ha
  .rename_i hc;obtain⟨b,off,sp⟩:=a;obtain⟨rfl,rfl,_⟩:=hc;rw[pj];exact ha
  .rw[jF (hold _ (Gg a x ha))];exact hs.frozen a x ha
 .simp only[b_]at hp;subst hp;refine .inr ⟨w.heap.size,cap,cur,(0,0),sg,ab,Dr,EG,tf,nD,h0,hr.up Uy (λf e=>by cases e),hk,ae,ab,λa x ha e=>?_,λL loc e=>?_,λoff x ho hx=>?_⟩
  .simp only[Z']at ha;split at ha
   .rename_i hc;exact hc.2.2
   .have:=Gg a x ha;omega
  .simp only[m']at e;split at e
   .rename_i hc;omega
   .have:=mU _ _ e;omega
  .simp only[Z'];rw[aO (by simp[ho])];exact hx
 .simp only[b_]at hp hq;subst hp;subst hq;rfl
 .funext L
  have:j≠k:=by simpa[keys]using hj
  simp[m',this]
 .simp only[b_]at hp;subst hp;simp only[gM,oi,oi,Obj.ver,sg,aC,aN nQ,Option.some.injEq]at hb;exact .inl ab
 .simp only[Z']at ha;split at ha
  .rename_i hc;exact .inr (.inl ab)
  .exact .inl ha
def Step.ajf{k t sz fz:Nat}{els all:List (List V)}{b cap:Nat}{cur cur':Array bx}{fr:Nat×Nat}(hs:w8 m Z [(k,.row t sz fz els)] w)(g1:m k els.length=aY (b,cap))(g0:0<cap)(g2:w.heap[b]?=aY (.cells cur t fr))
  (hle:els.length<=all.length) (EG:all.length<=cap) (nD:cur'.size=cap*sz) (Jm:∀off,off<els.length*sz->cur'[off]?=cur[off]?) (hr:zC bg Z all.flatten (cur'.toList.take (all.length*sz))) (hk:∀e∈all,e.length=sz)
  {w':bF} (hw:w'=w.setRow b cur'):∃m',Step m Z [(k,.row t sz fz els)] w m' Z [(k,.row t sz fz all)] w'/\m' k all.length=aY (b,cap):=by
 subst hw
 rcases hs.holds _ (b_.2 rfl)with⟨_,h1,_,⟨b',h3⟩,_⟩|⟨b',cap',afp,fr',N_,ajJ,GC,g3,g4,g5,g6,g7,g8,g9,g10,g11,g12,g13⟩
 .subst h1;have:=g1.symm.trans h3;simp only[Option.some.injEq,Prod.mk.injEq]at this;omega
 rw[g1]at N_;simp only[Option.some.injEq,Prod.mk.injEq]at N_;obtain⟨rfl,rfl⟩:=N_;rw[g2]at GC;simp only[Option.some.injEq,Obj.cells.injEq]at GC;obtain⟨rfl,_,rfl⟩:=GC
 let m':M:=λk' L=>if k'=k/\L=all.length then aY (b,cap)else m k' L
 have sg:m' k all.length=aY (b,cap):=by simp[m']
 have y7:∀k' L loc,m k' L=aY loc->m' k' L=aY loc:=λk' L loc e=>by
  by_cases hc:k'=k/\L=all.length
  .obtain⟨rfl,rfl⟩:=hc;have h:=g12 _ _ e;have:all.length=els.length:=ab;rw[this,g1]at e;rw[sg];exact e
  .simp only[m',aN hc];exact e
 have nQ:cap≠0:=ab;have Dr:=setRow_heap w b cur cur' t fr g2;have afz:b<w.heap.size:=(bw.1 g2).1;have ajV:fz*sz<=els.length*sz:=ck _ g10
 have pj:∀off,(w.setRow b cur').cell? ⟨b,off,bg⟩=cur'[off]?:=λoff=>cell_of_row _ _ off cur' t fr Dr
 refine⟨m',⟨⟨λa x ha=>?_,λp hp=>?_,by simp[keys],λp hp q hq _ _ _=>?_⟩,y7,λ_ _ e=>e,rfl,rfl,rfl,ae,λj hj hn=>setRow_other w b j _ λe=>?_,λj hj=>by simpa[keys]using hj,λj hj=>?_,λp hp b' hb=>?_,λa x ha=>.inl ha⟩,sg⟩
 .by_cases e:a.block=b
  .have ib:=g11 a x ha e;have hc:=hs.frozen a x ha;obtain⟨bb,off,sp⟩:=a;simp only at e ib;subst e
   have OV:sp=bg:=by
    simp only[World.cell?,g2]at hc
    cases sp with
    |none=>rfl
    |some _=>simp at hc
   subst OV;rw[cell_of_row w bb off cur t fr g2]at hc;rw[pj,Jm off ab];exact hc
  .rw[jF (setRow_other w b _ _ e)];exact hs.frozen a x ha
 .simp only[b_]at hp;subst hp;refine .inr ⟨b,cap,cur',fr,sg,g0,Dr,EG,g4,nD,g6,hr,hk,by have:=ck sz hle;omega,ab,g11,λL loc e=>?_,λoff x ho hx=>?_⟩
  .simp only[m']at e;split at e
   .rename_i hc;omega
   .have:=g12 _ _ e;omega
  .rw[Jm off ab]at hx;exact g13 off x ho hx
 .simp only[b_]at hp hq;subst hp;subst hq;rfl
 .subst e;exact hn _ (b_.2 rfl) (by simp[gM,oi,Obj.ver,g1,nQ])
 .funext L
  have:j≠k:=by simpa[keys]using hj
  simp[m',this]
 .simp only[b_]at hp;subst hp;simp only[gM,oi,oi,Obj.ver,sg,aC,aN nQ,Option.some.injEq]at hb;exact .inr ⟨_,b_.2 rfl,by simp[gM,oi,Obj.ver,g1,nQ,hb]⟩
end
section
variable{P:bo}{ρ:Env}{dst:Option Tmp}{ty:bK}{pos:String}{aft:Array Edge}{gd:Option (Nat×Bool)}
def xP{α:Type}(a b:List (List α)):(a++b).flatten=a.flatten++b.flatten:=List.flatten_append
def zp2{t e sz bytes:Nat}{x y:bI}{k fz L:Nat}{els ys:List (List V)}{R:aw}(hT:kQ P t=aY (e,sz,bytes))(hx:aV ρ x=.sl sz k L 0 L)(hL:L=els.length)(hy:Src sz R (aV ρ y) ys)
  (h1:∀c∈ys,c.all V.one=bh) (hlen:(els.length+ys.length)*bytes<=140737488355328) (rF:els.length+ys.length<=9223372036854775807) (sf:wj k R=bf) (nu:∀c∈ys,c.length=sz):
  Loc P ⟨dst,.call ⟨.builtin .append,#[x,y],#[t,t]⟩,ty,pos,aft,gd⟩ ρ ((k,.row e sz fz els)::R) (.sl sz k (els++ys).length 0 (els++ys).length) ((k,.row e sz fz (els++ys))::R):=by
 intro ρr m Z w e9 hs mU;obtain⟨i,z,hu,hi,hz,Dn,CQ,Ca,h0⟩:=kS hT;subst Dn;subst CQ;subst hL;have hX:=e9 x (by simp[Op.operands,Call.operands]);have hY:=e9 y (by simp[Op.operands,Call.operands]);rw[hx]at hX;have rG:w8 m Z [(k,.row e i.size fz els)] w:=w8.left (F:=[(k,.row e i.size fz els)]) (G:=R) hs;have B8:w8 m Z R w:=w8.left (F:=R) (G:=[(k,.row e i.size fz els)]) (hs.perm (List.perm_append_comm (l₁:=[(k,Obj.row e i.size fz els)]) (l₂:=R)));obtain⟨A,c,td,U8,hA,EO⟩:=hy.read h0 B8 hY
 have Bt:∀p∈[(k,Obj.row e i.size fz (els++ys))],∀q∈R,p.1≠q.1:=λp hp q hq e'=>by simp only[b_]at hp;subst hp;have e':k=q.1:=e';rw[yt.2 (by rw[e'];exact ax hq)]at sf;cases sf
 have lR:∀{m' Z' w'},Step m Z [(k,.row e i.size fz els)] w m' Z' [(k,.row e i.size fz (els++ys))] w'->Step m Z ((k,.row e i.size fz els)::R) w m' Z' ((k,.row e i.size fz (els++ys))::R) w':=λh=>Step.Bk (F:=[(k,.row e i.size fz els)]) (G:=R) (F':=[(k,.row e i.size fz (els++ys))]) hs h Bt
 have fin:∀{v w'},(Builtin.append_ #[t,t] ty #[ev ρr x,ev ρr y]).run P w=.ok v w'->(bP (ev ρr) ⟨dst,.call ⟨.builtin .append,#[x,y],#[t,t]⟩,ty,pos,aft,gd⟩).run P w=.ok (.value v) w':=λh=>by simp[bP,resolve,invoke,builtin,h]
 have pU:(els++ys).length=els.length+ys.length:=ae;obtain⟨f,loc,e1,e2,e3,e4,e5⟩:=hX;cases e1
 replace e5:=e5.imp_right λh=>h.resolve_right λh=>gJ 0 h.1
 by_cases rl:ys=[]
 .-- nothing is appended
  subst rl
  have aio:∃A' c',ev ρr x=.slice A' els.length c'/\els.length<=c':=by
   rcases e5 with e5|⟨e5,A',e6⟩
   .exact⟨_,_,e5,ab⟩
   .exact⟨A',0,by rw[e6];congr 1;omega,ab⟩
  obtain⟨A',c',Ow,pc⟩:=aio
  have mO:(Builtin.append_ #[t,t] ty #[ev ρr x,ev ρr y]).run P w=.ok (ev ρr x) w:=by
   rw[Ow,td]
   have hf:(Builtin.firstCells i.size 0 (.slice A 0 c)).run P w=.ok #[] w:=by
    cases A with
    |none=>simp[Builtin.firstCells]
    |some a=>simp[Builtin.firstCells,loadCells,loadCellsFrom]
   cases A' with
   |none=>simp[Builtin.append_,run_underlying hu,sizeOf,typeInfo,hi,Builtin.lenOf,pc,hf]
   |some a'=>simp[Builtin.append_,run_underlying hu,sizeOf,typeInfo,hi,Builtin.lenOf,pc,hf,storeCells]
  simp only[cL];refine⟨rfl,.inl ⟨_,w,fin mO,m,Z,Step.refl hs,m,loc,rfl,e2,e3,e4,e5.imp_right .inl⟩⟩
 have pg:0<ys.length:=eC.2 rl
 obtain⟨a,rfl⟩:∃a,A=aY a:=by
  cases A with
  |none=>exact aQ (hA rfl) rl
  |some a=>exact⟨a,rfl⟩
 obtain⟨news,mN,ng⟩:=EO a rfl
 have mv:news.length=ys.length*i.size:=by rw[mN.length,xw nu]
 have Bh:∀u∈news,u.oneCell'=bh:=Q9 mN (bl.2 λv hv=>by
  obtain⟨c,hc,Ea⟩:=List.mem_flatten.1 hv
  exact(bl.1 (h1 c hc)) v Ea)
 have Cy:els.length+ys.length<=maxLen:=by simp only[maxLen];omega
 rcases rG.holds _ (b_.2 rfl)with⟨_,g1,g2,⟨b,g3⟩,g4⟩|⟨b,cap,cur,fr,g1,g0,g2,g3,g4,g5,g6,g7,g8,g9,g10,g11,g12,g13⟩
 .-- an empty row without room
  subst g1;subst g2;have g3:m k 0=aY (b,0):=g3;rw[show m k ([]:List (List V)).length=m k 0 from rfl,g3]at e2;cases e2;have np:=grownCap_ge w ys.length 0 e;have sy:=grownCap_le_maxLen w ys.length 0 e (by simpa using Cy)
  obtain⟨m',Z',gy,pR⟩:=Step.grown (m:=m) (Z:=Z) (w:=w) (k:=k) (t:=e) (sz:=i.size) (fz:=0) (els:=[]) (all:=[]++ys) (cur:=news.toArray++Builtin.zeroCells z.cells (grownCap w ys.length 0 e-ys.length)) (cap:=grownCap w ys.length 0 e) (w1:=w.drew) rG rfl (by simpa using g4) (by simpa using pg) rfl rfl rfl rfl h0 (by simpa using np) sy
   (by simp only[eP,cS,size_zeroCells,Ca,mv,<- da];congr 1;omega)
   (by
    have:(news.toArray++Builtin.zeroCells z.cells (grownCap w ys.length 0 e-ys.length)).toList.take (([]++ys:List (List V)).length*i.size)=news:=by simp only[eE,cw,<- mv];exact dz
    rw[this];simpa using mN) (by simpa using nu) (cH _)
  have hr:=run_append_nil (P:=P) w t ty e i z hu hi hz a ys.length c news mv ng pg ab (by have:=hlen;simp only[dw,cl]at this;omega)
  rcases e5 with e5|⟨_,A',e5⟩
  .simp only[dw,ee]at e5;have tj:=run_append_grow (P:=P) w t ty e i z hu hi hz ⟨b,0,bg⟩ 0 0 [] ae (λj v h=>by simp at h) a ys.length c news mv ng ab ab (growslice_fits ab (by simpa using hlen));simp only[cl,cw,ir]at tj;refine⟨rfl,.inl ⟨_,_,fin (by rw[e5,td];exact tj),m',Z',lR gy,m',_,rfl,pR,by simpa using np,sy,.inl ae⟩⟩
  .cases A' with
   |none=>exact⟨rfl,.inl ⟨_,_,fin (by rw[e5,td];exact hr),m',Z',lR gy,m',_,rfl,pR,by simpa using np,sy,.inl ae⟩⟩
   |some a' =>
    have tj:=run_append_grow (P:=P) w t ty e i z hu hi hz a' 0 0 [] ae (λj v h=>by simp at h) a ys.length c news mv ng ab ab (growslice_fits ab (by simpa using hlen));simp only[cl,cw,ir]at tj;exact⟨rfl,.inl ⟨_,_,fin (by rw[e5,td];exact tj),m',Z',lR gy,m',_,rfl,pR,by simpa using np,sy,.inl ae⟩⟩
 .have g1:m k els.length=aY (b,cap):=g1;rw[g1]at e2;cases e2
  have e5:ev ρr x=.slice (aY ⟨b,0,bg⟩) els.length cap:=by
   rcases e5 with e5|⟨e5,_⟩
   .simpa using e5
   .simp only at e5;omega
  have B1:=xw g8
  have mY:cur.toList.length=cap*i.size:=by simpa using g5
  by_cases Bi:els.length+ys.length<=cap
  .have tB:els.length*i.size+news.length<=cur.size:=by rw[mv,g5,<- da];exact ck _ Bi
   have hr:=run_append_roomF (P:=P) w t ty e i hu hi b els.length cap cur fr g2 (cY g9 (ck _ g10)) a ys.length c news mv ng Bh Bi tB
   have ib:els.length*i.size<=cur.toList.length:=by rw[mY];exact ck _ g3
   obtain⟨m',gy,pR⟩:=Step.ajf (all:=els++ys) (cur':=(cur.toList.take (els.length*i.size)++news++cur.toList.drop (els.length*i.size+news.length)).toArray) rG g1 g0 g2 ae ab
    (by simp only[cS,la,bY,cF];(have:cur.size=cur.toList.length:=ae);omega)
    (λoff ho=>by
     simp only[fH,tF]
     rw[dq (by simp only[bY];omega),cj,aO ho];simp)
    (by
     have e6:((els++ys).length*i.size)=(cur.toList.take (els.length*i.size)++news).length:=by
      have h7:(cur.toList.take (els.length*i.size)).length=els.length*i.size:=by rw[bY];omega
      rw[pU,la (a:=cur.toList.take (els.length*i.size)),h7,mv,da]
     rw[e6,xP];simp only[];rw[dz]
     exact g7.append mN)
    (λc hc=>by
     rcases bJ.1 hc with hc|hc
     .exact g8 c hc
     .exact nu c hc) rfl
   exact⟨rfl,.inl ⟨_,_,fin (by rw[e5,td];exact hr),m',Z,lR gy,m',_,rfl,pR,by simp only[pU];omega,g4,.inl (by simp[pU])⟩⟩
  .have np:=grownCap_ge w (els.length+ys.length) cap e;have sy:=grownCap_le_maxLen w (els.length+ys.length) cap e Cy
   have pE:(cur.toList.take (els.length*i.size)).length=els.length*i.size:=by rw[bY,mY];exact eH (ck _ g3)
   have hr:=run_append_grow (P:=P) w t ty e i z hu hi hz ⟨b,0,bg⟩ els.length cap (cur.toList.take (els.length*i.size)) pE (λj v h=>by
    rw[Addr.add_lit,cl,cell_of_row w b j cur e fr g2];rw[cj]at h;split at h
    .simpa using h
    .cases h) a ys.length c news mv ng ab ab (growslice_fits ab hlen)
   obtain⟨m',Z',gy,pR⟩:=Step.grown (m:=m) (Z:=Z) (w:=w) (k:=k) (t:=e) (sz:=i.size) (fz:=fz) (els:=els) (all:=els++ys) (cur:=(cur.toList.take (els.length*i.size)).toArray++news.toArray++Builtin.zeroCells z.cells (grownCap w (els.length+ys.length) cap e-(els.length+ys.length))) (cap:=grownCap w (els.length+ys.length) cap e) (w1:=w.drew) rG rfl g12 ab rfl rfl rfl rfl h0 ab sy
    (by simp only[eP,cS,size_zeroCells,Ca,mv,pE,<- da];congr 1;omega)
    (by
     have e6:((els++ys).length*i.size)=(cur.toList.take (els.length*i.size)++news).length:=by rw[pU,la (a:=cur.toList.take (els.length*i.size)),pE,mv,da]
     rw[e6,xP];simp only[eE];rw[dz]
     exact g7.append mN)
    (λc hc=>by
     rcases bJ.1 hc with hc|hc
     .exact g8 c hc
     .exact nu c hc) g10
   exact⟨rfl,.inl ⟨_,_,fin (by rw[e5,td];exact hr),m',Z',lR gy,m',_,rfl,pR,by simp only[pU];omega,sy,.inl (by simp[pU])⟩⟩
def C8(P:bo)(t:Nat):Bool:=match P.underlying t with|some .string=>bh|_=>bf
def zsx{t:Nat}(h:C8 P t=bh):P.underlying t=aY .string:=by
 unfold C8 at h;split at h
 .assumption
 .cases h
def zgm{t:bK}{x ix:bI}{k:IntKind}{i:Int}{l:aj}(ht:C8 P t=bh)(hx:aV ρ x=.str l)(hi:aV ρ ix=.int k i)(h0:0<=i)(h1:i<l.length):
  Loc P ⟨dst,.index t x ix,ty,pos,aft,gd⟩ ρ [] (.int .u8 ((l.getD i.toNat 0).toNat)) []:=by
 intro ρr m Z w e9 hs _;have hX:=e9 x (by simp[Op.operands]);have hI:=e9 ix (by simp[Op.operands]);rw[hx]at hX;rw[hi]at hI;have hX:ev ρr x=.string ⟨l.toArray⟩:=hX;have hI:ev ρr ix=.int k i:=hI;have ib:i.toNat<l.length:=ab
 have hg:(⟨l.toArray⟩:ByteArray)[i.toNat]?=aY (l.getD i.toNat 0):=by
  have h_:(⟨l.toArray⟩:ByteArray).size=l.length:=by show l.toArray.size=_;simp
  rw[getElem?_pos _ _ (by rw[h_];exact ib)]
  congr 1
  show l.toArray[i.toNat]=_
  simp[bB,bA ib]
 refine⟨rfl,.inl ⟨_,w,?_,m,Z,Step.refl hs,rfl⟩⟩;simp[bP,Instr.index,asIntOf,hX,hI,run_underlying (zsx ht),h0,hg]
def zM{t e sz:Nat}{x ix:bI}{k:IntKind}{i:Int}{els:List (List V)}{cs:List V}(ht:kP P t=aY (e,sz))(hx:aV ρ x=.vs sz els)(hi:aV ρ ix=.int k i)(h0:0<=i)(hc:els[i.toNat]?=aY cs):
  Loc P ⟨dst,.indexAddr t x ix,ty,pos,aft,gd⟩ ρ [] (.vp cs 0) []:=by
 intro ρr m Z w e9 hs _;have hX:=e9 x (by simp[Op.operands]);have hI:=e9 ix (by simp[Op.operands]);rw[hx]at hX;rw[hi]at hI;have hI:ev ρr ix=.int k i:=hI;obtain⟨A,c,h1,h2,h3,h4⟩:=hX;have ib:=(bq.1 hc).1
 rcases h4 with h4|⟨a,rfl,h5⟩
 .subst h4;simp at ib
 have h6:=(h5.get hc).2;rw[cl]at h6;unfold kP at ht;split at ht
 .rename_i e' hu;split at ht
  .rename_i ii rj;split at ht
   .simp only[Option.some.injEq,Prod.mk.injEq]at ht;obtain⟨rfl,h_⟩:=ht;refine⟨rfl,.inl ⟨.pointer (aY (a.add (i.toNat*sz))),w,?_,m,Z,Step.refl hs,a.add (i.toNat*sz),by rw[Addr.add_zero'],h6⟩⟩;have h7:¬((els.length:Int)<=i):=ab;simp[bP,Instr.indexAt,run_underlying hu,asIntOf,h1,hI,sizeOf,typeInfo,rj,h_,h0,h7]
   .cases ht
  .cases ht
 .cases ht
def zgn{t e sz kk L o n:Nat}{x ix:bI}{k:IntKind}{i:Int}(ht:kP P t=aY (e,sz))(hx:aV ρ x=.sl sz kk L o n)(hi:aV ρ ix=.int k i)(h0:0<=i)(h1:i<n):
  Loc P ⟨dst,.indexAddr t x ix,ty,pos,aft,gd⟩ ρ [] (.ptr kk L (o*sz+i.toNat*sz)) []:=by
 intro ρr m Z w e9 hs _;have hX:=e9 x (by simp[Op.operands]);have hI:=e9 ix (by simp[Op.operands]);rw[hx]at hX;rw[hi]at hI;have hI:ev ρr ix=.int k i:=hI;obtain⟨f,loc,e1,e2,e3,e4,e5⟩:=hX;cases e1
 have e5:ev ρr x=.slice (aY ⟨loc.1,o*sz,bg⟩) n (loc.2-o):=by
  rcases e5 with e5|⟨e5,_⟩|⟨_,e5,_⟩
  .exact e5
  .omega
  .omega
 unfold kP at ht;split at ht
 .rename_i e' hu;split at ht
  .rename_i ii rj;split at ht
   .simp only[Option.some.injEq,Prod.mk.injEq]at ht;obtain⟨rfl,h_⟩:=ht;refine⟨rfl,.inl ⟨.pointer (aY ⟨loc.1,o*sz+i.toNat*sz,bg⟩),w,?_,m,Z,Step.refl hs,m,loc,rfl,e2,rfl⟩⟩;have h7:¬((n:Int)<=i):=ab;simp[bP,Instr.indexAt,run_underlying hu,asIntOf,e5,hI,sizeOf,typeInfo,rj,h_,h0,h7,Addr.add_lit]
   .cases ht
  .cases ht
 .cases ht
def zsy{m:M}{Z:ZM}{w:bF}{k t sz fz:Nat}{els:List (List V)}{i:Nat}{cs:List V}(h:Holds m Z w k (.row t sz fz els))(hc:els[i]?=aY cs):
  ∃b cap cur fr,m k els.length=aY (b,cap)/\w.heap[b]?=aY (.cells cur t fr)/\∀j v,cs[j]?=aY v->∃x,cur[i*sz+j]?=aY x/\aT bg Z v x:=by
 have ib:=(bq.1 hc).1
 rcases h with⟨_,rfl,_⟩|⟨b,cap,cur,fr,g1,g0,g2,g3,g4,g5,g6,g7,g8,g9,g10,g11,g12,g13⟩
 .simp at ib
 refine⟨b,cap,cur,fr,g1,g2,λj v hj=>?_⟩;obtain⟨x,h1,h2⟩:=g7.get (jt g8 hc hj);rw[cj]at h1;split at h1
 .exact⟨x,by simpa using h1,h2⟩
 .cases h1
def uI{t et sz fz k L off:Nat}{a:bI}{els:List (List V)}{cs:List V}{v:V}(i j:Nat)(ha:aV ρ a=.ptr k L off)(hL:L=els.length)(tR:off=i*sz+j)(hc:els[i]?=aY cs)(hv:nr P t cs j=aY v):
  Loc P ⟨dst,.load t a,ty,pos,aft,gd⟩ ρ [(k,.row et sz fz els)] v [(k,.row et sz fz els)]:=by
 intro ρr m Z w e9 hs _;have hX:=e9 a (by simp[Op.operands]);rw[ha]at hX;subst hL;subst tR;obtain⟨f,loc,e1,e2,e3⟩:=hX;cases e1;obtain⟨b,cap,cur,fr,g1,g2,g3⟩:=zsy (hs.holds _ (b_.2 rfl)) hc;have g1:m k els.length=aY (b,cap):=g1;rw[g1]at e2;cases e2
 have pj:∀q,w.cell? ⟨b,q,bg⟩=cur[q]?:=λq=>cell_of_row w b q cur et fr g2
 refine⟨rfl,.inl ?_⟩;unfold nr at hv;split at hv
 .rename_i nk;split at hv
  .rename_i v' D_;split at hv
   .cases hv;obtain⟨u,h4,h5⟩:=g3 _ _ D_;exact⟨u,w,xu (xO nk) e3 (by rw[pj];exact h4),m,Z,Step.refl hs,h5.BU⟩
   .cases hv
  .cases hv
 .rename_i n nk;split at hv
  .rename_i hk;have hk:=mi hk;cases hv
   let us:List bx:=(dn n).map λq=>(cur[i*sz+(j+q)]?).getD Go.undef
   have hex:∀q,q<n->∃u v,cs[j+q]?=aY v/\cur[i*sz+(j+q)]?=aY u/\aT bg Z v u:=λq hq=>by have Fb:cs[j+q]?=aY (cs[j+q]' ab):=bA ab;obtain⟨u,h1,h2⟩:=g3 _ _ Fb;exact⟨u,_,Fb,h1,h2⟩
   have ra:∀q,q<n->us[q]?=cur[i*sz+(j+q)]?:=λq hq=>by obtain⟨u,v,_,h2,_⟩:=hex q hq;simp only[us,cz,dM hq,de,h2,dB]
   refine⟨.agg us.toArray,w,w9 us (ve nk) e3 (by simp[us]) λq u hq=>?_,m,Z,Step.refl hs,us,rfl,?_⟩
   .have zz:q<n:=by have:=(bq.1 hq).1;simpa[us]using this
    rw[Addr.add_lit,pj,ff,<- ra q zz];exact hq
   .refine zC.po (by simp[us];omega) λq v u hv hu=>?_
    have zz:q<n:=by have:=(bq.1 hu).1;simpa[us]using this
    rw[cj,aO zz,cW]at hv;obtain⟨u',v',h1,h2,h3⟩:=hex q zz;rw[hv]at h1;cases h1;rw[ra q zz,h2]at hu;cases hu;exact h3.BU
  .cases hv
 .cases hv
def Wa{α:Type}{k off:Nat}{us:List α}:∀(xs:List (List α)),(∀x∈xs,x.length=k)->∀(i:Nat)(x:List α),xs[i]?=aY x->off+us.length<=k ->
  (xs.set i (x.take off++us++x.drop (off+us.length))).flatten=xs.flatten.take (i*k+off)++us++xs.flatten.drop (i*k+off+us.length)
 |[],_,i,x,h,_=>by simp at h
 |y::xs,hk,0,x,h,hf=>by
  have hy:=hk y ak;simp only[dZ,Option.some.injEq]at h;subst h;rw[List.set_cons_zero,cN,cN,ee,cl,List.take_append_of_le_length ab,List.drop_append_of_le_length ab];simp[tF]
 |y::xs,hk,i+1,x,h,hf=>by have hy:=hk y ak;have ih:=Wa (us:=us) (off:=off) xs (λz hz=>hk z (iO _ hz)) i x (by simpa using h) hf;rw[List.set_cons_succ,cN,cN,ih,show(i+1)*k+off=y.length+(i*k+off) by rw[hy,dh];omega,eN,ff,List.drop_append];rw[List.drop_of_length_le (by omega:y.length<=y.length+(i*k+off)+us.length),show y.length+(i*k+off)+us.length-y.length=i*k+(off+us.length) by omega];simp[tF]
def zp3{α:Type}(c us:List α)(p n:Nat)(h:p+us.length<=n)(hn:n<=c.length):(c.take p++us++c.drop (p+us.length)).take n=(c.take n).take p++us++(c.take n).drop (p+us.length):=by
 have hA:(c.take p++us).length=p+us.length:=by simp only[la,bY];omega
 have e:n=(c.take p++us).length+(n-(p+us.length)):=ab
 have e1:(c.take n).take p=c.take p:=by rw[gb,eH ab]
 rw[e1,fD]
 conv=>lhs;rw[e]
 rw[eN]
def Wb{t et sz fz k L off:Nat}{a x:bI}{els:List (List V)}{cs:List V}(i j:Nat)(ha:aV ρ a=.ptr k L off)(hL:L=els.length)(tR:off=i*sz+j)(hc:els[i]?=aY cs)(nW:fz<=i)
  (hp:(aV ρ x).plain=bh) (h1:(aV ρ x).cells.all V.one=bh) (Bx:(aV ρ x).refs=[]) (h_:vJ P t (aV ρ x).cells.length=bh) (tB:j+(aV ρ x).cells.length<=sz):
  Loc P ⟨dst,.store t a x,ty,pos,aft,gd⟩ ρ [(k,.row et sz fz els)] .no [(k,.row et sz fz (els.set i (cs.take j++(aV ρ x).cells++cs.drop (j+(aV ρ x).cells.length))))]:=by
 intro ρr m Z w e9 hs _;have hX:=e9 a (by simp[Op.operands]);rw[ha]at hX;subst hL;subst tR;obtain⟨f,loc,e1,e2,e3⟩:=hX;cases e1;have ib:=(bq.1 hc).1
 rcases hs.holds _ (b_.2 rfl)with⟨_,g1,_⟩|⟨b,cap,cur,fr,g1,g0,g2,g3,g4,g5,g6,g7,g8,g9,g10,g11,g12,g13⟩
 .subst g1;simp at ib
 have g1:m k els.length=aY (b,cap):=g1;rw[g1]at e2;cases e2;have CV:=(e9 x (by simp[Op.operands])).cells hp
 have hv:zC bg Z (aV ρ x).cells (ev ρr x).cells.toList:=by refine zC.flat _ _ ?_ CV;cases hxv:aV ρ x<;>rw[hxv]at Bx<;>simp only[V.cells,wh,cL]<;>exact Bx
 have B4:=hv.length;have Bh:=Q9 hv h1;have nD:=g8 cs (bW hc)
 have hle:i*sz+sz<=els.length*sz:=by
  have:(i+1)*sz<=els.length*sz:=ck sz ib
  rwa [dh]at this
 have ajQ:els.length*sz<=cap*sz:=ck sz g3;have B1:fz*sz<=i*sz:=ck sz nW
 have mY:cur.toList.length=cap*sz:=by simpa using g5
 unfold vJ at h_;split at h_
 .rename_i ii hi;have DX:=eb h_;have gy:=run_storeCells_atF P b (i*sz+j) et fr (ev ρr x).cells.toList 0 cur w g2 ab ab Bh;simp only[dK]at gy
  have Gh:(ev ρr x).cells.size=ii.size:=by simp at B4;omega
  have Dr:=setRow_heap w b cur (cur.toList.take (i*sz+j)++(ev ρr x).cells.toList++cur.toList.drop (i*sz+j+(ev ρr x).cells.toList.length)).toArray et fr g2;have hlen:(els.set i (cs.take j++(aV ρ x).cells++cs.drop (j+(aV ρ x).cells.length))).length=els.length:=ae;have nQ:cap≠0:=ab;refine⟨rfl,.inr (.inl ⟨w.setRow b (cur.toList.take (i*sz+j)++(ev ρr x).cells.toList++cur.toList.drop (i*sz+j+(ev ρr x).cells.toList.length)).toArray,?_,m,Z,?_,rfl⟩)⟩
  .simp[bP,Instr.storeAt,e3,Instr.sureAddr,storeVar,sizeOf,typeInfo,hi,Gh,gy]
  .have Jm:∀off,off<i*sz+j->(cur.toList.take (i*sz+j)++(ev ρr x).cells.toList++cur.toList.drop (i*sz+j+(ev ρr x).cells.toList.length)).toArray[off]?=cur[off]?:=λoff ho=>by simp only[fH,tF];rw[dq (by simp only[bY];omega),cj,aO ho];simp
   refine Step.write (b:=b) hs (by simp[gM,oi,Obj.ver,g1,nQ]) (My (by simp[Obj.ver]) rfl rfl) rfl rfl rfl ae (λq hq=>setRow_other w b q _ hq) (λaa y w_ e=>?_) ?_
   .have hl:=g11 aa y w_ e;have pc:=hs.frozen aa y w_;obtain⟨bb,off,sp⟩:=aa;simp only at e hl;subst e
    have OV:sp=bg:=by
     simp only[World.cell?,g2]at pc
     cases sp with
     |none=>rfl
     |some _=>simp at pc
    subst OV;rw[cell_of_row w bb off cur et fr g2]at pc;rw[cell_of_row _ bb off _ et fr Dr,Jm off ab];exact pc
   .refine .inr ⟨b,cap,_,fr,by rw[hlen];exact g1,g0,Dr,by rw[hlen];exact g3,g4,?_,g6,?_,?_,g9,by rw[hlen];exact g10,g11,by rw[hlen];exact g12,λoff y ho hy=>?_⟩
    .simp only[cS,la,bY,cF];have:cur.size=cur.toList.length:=ae;omega
    .rw[hlen,Wa els g8 i cs hc ab];simp only[];rw[zp3 _ _ _ _ ab ab];have:=YM (off:=i*sz+j) g7 hv;exact this
    .intro c Oz
     rcases List.mem_or_eq_of_mem_set Oz with Oz|rfl
     .exact g8 c Oz
     .simp only[la,bY,cF];omega
    .rw[Jm off ab]at hy;exact g13 off y ho hy
 .cases h_
end
def s5(ρ:Env):Option bI->Int->Int->Prop
 |none,d,i=>i=d
 |some x,_,i=>∃k,aV ρ x=.int k i
section
variable{P:bo}{ρ:Env}{dst:Option Tmp}{ty:bK}{pos:String}{aft:Array Edge}{gd:Option (Nat×Bool)}
def zsz{ρr:zS}{m:Option M}{Z:ZM}{o:Option bI}{d i:Int}(h:s5 ρ o d i)(hr:∀x∈o,aT m Z (aV ρ x) (ev ρr x)):(o=bg/\i=d)∨∃x k,o=aY x/\ev ρr x=.int k i:=by
 cases o with
 |none=>exact .inl ⟨rfl,h⟩
 |some x =>
  obtain⟨k,hk⟩:=h;have:=hr x rfl;rw[hk]at this;exact .inr ⟨x,k,rfl,this⟩
def JI{w:bF}{ρr:zS}{m:Option M}{Z:ZM}{lo hi:Option bI}{l h:Int}{isS:Bool}{len cap:Nat}(hl:s5 ρ lo 0 l)(hh:s5 ρ hi len h)(D7:∀x∈lo,aT m Z (aV ρ x) (ev ρr x))(hrh:∀x∈hi,aT m Z (aV ρ x) (ev ρr x))
  (h0:0<=l) (h1:l<=h) (h2:h<=len) (hc:len<=cap):(Instr.sliceBounds isS len cap (lo.map (ev ρr)) (hi.map (ev ρr)) bg).run P w=.ok (l.toNat,h.toNat,cap) w:=by
 have h3:h<=(cap:Int):=ab;have h4:0<=h:=ab;have h5:((h.toNat:Nat):Int)=h:=Int.toNat_of_nonneg h4
 rcases zsz hl D7 with⟨rfl,rfl⟩|⟨x,k,rfl,hx⟩<;>rcases zsz hh hrh with⟨rfl,rfl⟩|⟨y,k',rfl,hy⟩
 .simp[Instr.sliceBounds]
 .simp[Instr.sliceBounds,Instr.sliceBound,asIntOf,hy,h4,h3]
 .simp[Instr.sliceBounds,Instr.sliceBound,asIntOf,hx,h0,h1]
 .simp[Instr.sliceBounds,Instr.sliceBound,asIntOf,hx,hy,h4,h3,h0,h5,h1]
def zgo{t:bK}{x:bI}{lo hi:Option bI}{l h:Int}{s:aj}(ht:C8 P t=bh)(hx:aV ρ x=.str s)(hl:s5 ρ lo 0 l)(hh:s5 ρ hi s.length h)(h0:0<=l)(h1:l<=h)(h2:h<=s.length):
  Loc P ⟨dst,.slice t x lo hi bg,ty,pos,aft,gd⟩ ρ [] (.str ((s.take h.toNat).drop l.toNat)) []:=by
 intro ρr m Z w e9 hs _;have hX:=e9 x (by simp[Op.operands]);rw[hx]at hX;have hX:ev ρr x=.string ⟨s.toArray⟩:=hX
 have h_:(⟨s.toArray⟩:ByteArray).size=s.length:=by show s.toArray.size=_;simp
 have hb:=JI (P:=P) (w:=w) (isS:=bf) (cap:=s.length) hl hh (λy hy=>e9 y (by simp[Op.operands];right;left;simpa using hy)) (λy hy=>e9 y (by simp[Op.operands];right;right;simpa using hy)) h0 h1 h2 al;refine⟨rfl,.inl ⟨.string ((⟨s.toArray⟩:ByteArray).extract l.toNat h.toNat),w,?_,m,Z,Step.refl hs,?_⟩⟩
 .simp[bP,Instr.sliceAt,Instr.slice,run_underlying (zsx ht),hX,h_,hb]
 .show _=_
  congr 1
  apply ByteArray.ext;rw[ByteArray.data_extract];apply fZ;simp[gD,fD]
def zky{t e sz:Nat}{x:bI}{lo hi:Option bI}{l h:Int}{els:List (List V)}(ht:kP P t=aY (e,sz))(hx:aV ρ x=.vs sz els)(hl:s5 ρ lo 0 l)(hh:s5 ρ hi els.length h)(h0:0<=l)(h1:l<=h)(h2:h<=els.length):
  Loc P ⟨dst,.slice t x lo hi bg,ty,pos,aft,gd⟩ ρ [] (.vs sz ((els.take h.toNat).drop l.toNat)) []:=by
 intro ρr m Z w e9 hs _;have hX:=e9 x (by simp[Op.operands]);rw[hx]at hX;obtain⟨A,c,g1,g2,g3,g4⟩:=hX;have hb:=JI (P:=P) (w:=w) (isS:=bh) (cap:=c) hl hh (λy hy=>e9 y (by simp[Op.operands];right;left;simpa using hy)) (λy hy=>e9 y (by simp[Op.operands];right;right;simpa using hy)) h0 h1 h2 g2;unfold kP at ht;split at ht
 .rename_i e' hu;split at ht
  .rename_i ii rj;split at ht
   .simp only[Option.some.injEq,Prod.mk.injEq]at ht;obtain⟨rfl,h_⟩:=ht
    have hlen:((els.take h.toNat).drop l.toNat).length=h.toNat-l.toNat:=by simp;omega
    refine⟨rfl,.inl ⟨.slice (if c=l.toNat then A else A.map (·.add (l.toNat*sz))) (h.toNat-l.toNat) (c-l.toNat),w,?_,m,Z,Step.refl hs,(if c=l.toNat then A else A.map (·.add (l.toNat*sz))),c-l.toNat,by rw[hlen],by rw[hlen];omega,ab,?_⟩⟩
    .simp[bP,Instr.sliceAt,Instr.slice,run_underlying hu,g1,hb,sizeOf,typeInfo,rj,h_]
    .by_cases he:(els.take h.toNat).drop l.toNat=[]
     .exact .inl he
     .have Nx:0<h.toNat-l.toNat:=by rw[<- hlen];exact eC.2 he
      rcases g4 with g4|⟨a,rfl,g5⟩
      .subst g4;simp at h2;omega
      .refine .inr ⟨a.add (l.toNat*sz),by rw[aN ab];rfl,xq.po λi cs hi=>?_⟩;rw[cW,cj]at hi;split at hi
       .have:=g5.get hi;refine⟨this.1,?_⟩;have h6:=this.2;rw[JG,cl,<- da]
        rwa [cl]at h6
       .cases hi
   .cases ht
  .cases ht
 .cases ht
def zgp{t e sz k L o n:Nat}{x:bI}{lo hi:Option bI}{l h:Int}(ht:kP P t=aY (e,sz))(hx:aV ρ x=.sl sz k L o n)(hl:s5 ρ lo 0 l)(hh:s5 ρ hi n h)(h0:0<=l)(h1:l<=h)(h2:h<=n):
  Loc P ⟨dst,.slice t x lo hi bg,ty,pos,aft,gd⟩ ρ [] (.sl sz k L (o+l.toNat) (h.toNat-l.toNat)) []:=by
 intro ρr m Z w e9 hs _;have hX:=e9 x (by simp[Op.operands]);rw[hx]at hX;obtain⟨f,loc,e1,e2,e3,e4,e5⟩:=hX;cases e1
 have SS:∀c,n<=c->(Instr.sliceBounds bh n c (lo.map (ev ρr)) (hi.map (ev ρr)) bg).run P w=.ok (l.toNat,h.toNat,c) w:=λc hc =>JI (P:=P) (w:=w) (isS:=bh) (cap:=c) hl hh (λy hy=>e9 y (by simp[Op.operands];right;left;simpa using hy)) (λy hy=>e9 y (by simp[Op.operands];right;right;simpa using hy)) h0 h1 h2 hc
 unfold kP at ht;split at ht
 .rename_i e' hu;split at ht
  .rename_i ii rj;split at ht
   .simp only[Option.some.injEq,Prod.mk.injEq]at ht;obtain⟨rfl,h_⟩:=ht
    have run:∀A c,ev ρr x=.slice A n c->n<=c->(bP (ev ρr) ⟨dst,.slice t x lo hi bg,ty,pos,aft,gd⟩).run P w=.ok (.value (.slice (if c=l.toNat then A else A.map (·.add (l.toNat*sz))) (h.toNat-l.toNat) (c-l.toNat))) w:=λA c hv hc=>by simp[bP,Instr.sliceAt,Instr.slice,run_underlying hu,hv,SS c hc,sizeOf,typeInfo,rj,h_]
    rcases e5 with e5|⟨e5,A,e6⟩|⟨e5,e6,A,c,e7,e8⟩
    .refine⟨rfl,.inl ⟨_,w,run _ _ e5 ab,m,Z,Step.refl hs,m,loc,rfl,e2,ab,e4,?_⟩⟩;by_cases hc:loc.2-o=l.toNat
     .by_cases y5:l.toNat=0
      .rw[aO hc];by_cases ho:0<o
       .exact .inr (.inr ⟨ab,ab,_,_,by rw[show h.toNat-l.toNat=0 by omega],ab⟩)
       .refine .inl ?_;rw[show o=0 by omega];simp[y5]
      .rw[aO hc];exact .inr (.inr ⟨ab,ab,_,_,by rw[show h.toNat-l.toNat=0 by omega],ab⟩)
     .rw[aN hc];refine .inl ?_;simp only[de,Addr.add_lit,da];rw[Nat.sub_sub]
    .have hn:n=0:=ab;subst hn;have y5:l.toNat=0:=ab;have OI:h.toNat=0:=ab;refine⟨rfl,.inl ⟨_,w,run _ _ e6 al,m,Z,Step.refl hs,m,loc,rfl,e2,ab,e4,.inr (.inl ⟨e5,_,by rw[y5,OI]⟩)⟩⟩
    .subst e6;have y5:l.toNat=0:=ab;have OI:h.toNat=0:=ab;refine⟨rfl,.inl ⟨_,w,run _ _ e7 (cH _),m,Z,Step.refl hs,m,loc,rfl,e2,ab,e4,.inr (.inr ⟨ab,ab,_,_,by rw[OI,y5],ab⟩)⟩⟩
   .cases ht
  .cases ht
 .cases ht
def zp4{t t':bK}{x y:bI}{a b:aj}(hx:aV ρ x=.str a)(hy:aV ρ y=.str b)(h:a.length+b.length<=9223372036854775807):
  Loc P ⟨dst,.binOp .add t x y t',ty,pos,aft,gd⟩ ρ [] (.str (a++b)) []:=by
 intro ρr m Z w e9 hs _;have hX:=e9 x (by simp[Op.operands]);have hY:=e9 y (by simp[Op.operands]);rw[hx]at hX;rw[hy]at hY;have hX:ev ρr x=.string ⟨a.toArray⟩:=hX;have hY:ev ρr y=.string ⟨b.toArray⟩:=hY
 have ha:(⟨a.toArray⟩:ByteArray).size=a.length:=by show a.toArray.size=_;simp
 have hb:(⟨b.toArray⟩:ByteArray).size=b.length:=by show b.toArray.size=_;simp
 have hm:¬(((a.length+b.length:Nat):Int)>IntKind.i64.max):=by have:IntKind.i64.max=9223372036854775807:=ad;omega
 refine⟨rfl,.inl ⟨.string ((⟨a.toArray⟩:ByteArray)++⟨b.toArray⟩),w,?_,m,Z,Step.refl hs,?_⟩⟩
 .simp only[bP,hX,hY,eqGuard,binOp,Op.stringOp,ha,hb,aN hm];simp
 .show _=_
  congr 1
def zCz{op:BinOp}{t t':bK}{x y:bI}{k:IntKind}{a b:Int}(nv:op=.quo∨op=.rem)(hx:aV ρ x=.int k a)(hy:aV ρ y=.int k b)(hb:b≠0):
  Loc P ⟨dst,.binOp op t x y t',ty,pos,aft,gd⟩ ρ [] (.int k (match op with|.quo=>k.wrap (a.tdiv b)|_=>a.tmod b)) []:=by
 intro ρr m Z w e9 hs _;have hX:=e9 x (by simp[Op.operands]);have hY:=e9 y (by simp[Op.operands]);rw[hx]at hX;rw[hy]at hY
 rcases nv with rfl|rfl
 .obtain⟨u,h1,h2⟩:=P3 (P:=P) (w:=w) (dst:=dst) (ty:=ty) (pos:=pos) (aft:=aft) (gd:=gd) (t:=t) (t':=t') (op:=.quo) (m:=aY m) (Z:=Z) (v:=.int k (k.wrap (a.tdiv b))) hX hY ae (by simp[Ie,hb]);exact⟨rfl,.inl ⟨u,w,h1,m,Z,Step.refl hs,h2⟩⟩
 .obtain⟨u,h1,h2⟩:=P3 (P:=P) (w:=w) (dst:=dst) (ty:=ty) (pos:=pos) (aft:=aft) (gd:=gd) (t:=t) (t':=t') (op:=.rem) (m:=aY m) (Z:=Z) (v:=.int k (a.tmod b)) hX hY ae (by simp[Ie,hb]);exact⟨rfl,.inl ⟨u,w,h1,m,Z,Step.refl hs,h2⟩⟩
end
section
variable{K0:List Nat}{c:Ctx K0}{P:bo}{r:Option Nat}{N:Nat}{Q:xF}{ρ:Env}{H H':aw}{ds:List cr}{all l rest:List Oper}{x:Code}
def Kc.step{F F':aw}{ks:List Nat}{ρr:zS}{w:bF}{ρ':Env}(ml:nodupB ks=bh)(hF:kO ks H=aY F)(lR:o7 F' ks H=bh)
  (h:∀m Z,w8 m Z F w->(∀k∈keys F',k ∉ keys F->∀L,m k L=bg)->rM m Z ρ ρr->∃m' Z',Step m Z F w m' Z' F' w/\rM m' Z' ρ' ρr) (S:Kc c ρ H ρr w):Kc c ρ' (F'++js ks H) ρr w:=by
 obtain⟨m,Z,S,hR⟩:=S;have hp:=j6 S.step.iW.nodup (yB ml) hF;obtain⟨h2,h3⟩:=yX hF;have hs:w8 m Z (F++js ks H) w:=S.step.iW.perm hp
 obtain⟨m',Z',gy,E8⟩:=h m Z hs.left (λk hk pI=>S.pa k (by
  obtain⟨p,ka,rfl⟩:=bL.1 hk;have:=(bl.1 lR) p ka;simp only[dk,cv,aU,bX,aW]at this
  rcases this with this|this
  .exact aQ (h2▸this) pI
  .exact this)) hR
 exact⟨m',Z',S.NL ml hF lR (λ_ _=>gy),E8⟩
def oI{F:aw}{ks:List Nat}(h:∀p∈F,p.1∈ks):o7 F ks H=bh:=bl.2 λp hp=>by simp[h p hp]
def Kc.freeze{F:aw}(ks:List Nat){ρr:zS}{w:bF}(ml:nodupB ks=bh)(hF:kO ks H=aY F)(S:Kc c ρ H ρr w):Kc c ρ (k_ F++js ks H) ρr w:=Kc.step ml hF (oI λp hp=>by rw[<- (yX hF).1,<- wU];exact ax hp) (λm Z hs _ hR=>⟨m,_,Step.freeze hs,hR.up (Step.freeze hs).o4 λ_ _ _ e=>e⟩) S
def Kc.TN(t d e sz:Nat){ρr:zS}{w:bF}(h_:cm 1 sz=bh)(ht:ρ.get t=.gg)(hd:wj d H=bf)(S:Kc c ρ H ρr w):Kc c ((t,.sl sz d 0 0 0)::ρ) ((d,.row e sz 0 [])::H) ρr w:=by
 have mA:d ∉ keys H:=λh=>by rw[yt.2 h]at hd;cases hd
 have:=Kc.step (c:=c) (ρ:=ρ) (H:=H) (F:=[]) (F':=[(d,.row e sz 0 [])]) (ks:=[]) (ρ':=(t,.sl sz d 0 0 0)::ρ) (ρr:=ρr) (w:=w) rfl rfl (by simp[o7,mA]) (λm Z hs mU hR=>by
  have CB:∀L,m d L=bg:=λL=>mU d (by simp[keys]) (by simp[keys]) L
  let m':M:=λk' L=>if k'=d/\L=0 then aY (0,0)else m k' L
  have h1:m' d 0=aY (0,0):=by simp[m']
  have h2:∀k L loc,m k L=aY loc->m' k L=aY loc:=λk L loc e=>by
   by_cases hc:k=d/\L=0
   .obtain⟨rfl,rfl⟩:=hc;rw[CB]at e;cases e
   .simp only[m',aN hc];exact e
  refine⟨m',Z,⟨⟨hs.frozen,λp hp=>?_,by simp[keys],λp hp q hq _ _ _=>?_⟩,h2,λ_ _ e=>e,rfl,rfl,rfl,al,λ_ _ _=>rfl,λk hk=>(by cases hk),λk hk=>?_,λp hp b hb=>?_,λ_ _ e=>.inl e⟩,?_⟩
  .simp only[b_]at hp;subst hp;refine .inl ⟨mi h_,rfl,rfl,⟨0,h1⟩,λL loc e=>?_⟩;simp only[m']at e;split at e
   .rename_i hc;omega
   .rw[CB]at e;cases e
  .simp only[b_]at hp hq;subst hp;subst hq;rfl
  .funext L
   have:k≠d:=by simpa[keys]using hk
   simp[m',this]
  .simp only[b_]at hp;subst hp;simp[gM,oi,Obj.ver,h1]at hb
  .intro u;have hu:=(hR u).up (Z':=Z) (m':=aY m') (λ_ _ e=>e) (λf e=>by cases e;exact⟨m',rfl,h2⟩)
   show aT (aY m') Z (bif bm u t then V.sl sz d 0 0 0 else ρ.get u) (ρr u)
   cases hb:bm u t with
   |false=>exact hu
   |true =>
    have:=eb hb;subst this;rw[ht]at hu
    exact⟨m',_,rfl,h1,al,cH _,.inr (.inl ⟨rfl,bg,hu⟩)⟩) S
 rw[oo]at this;exact this
def vX{ρ':Env}(Gp:ρ'=ρ)(hH:H'=H)(h:l9 c P r N x Q ρ' H' ds):l9 c P r N x Q ρ H ds:=by subst Gp;subst hH;exact h
def Xw(n:Nat)(ρ':Env)(H':aw)(hr:C0 P all N (l.take n) ρ H=aY (ρ',H'))(h:HH c P r N all Q (l.drop n) ρ' H' ds):HH c P r N all Q l ρ H ds:=by
 have:=Rv (rest:=l.drop n) (l.take n) ρ H ρ' H' hr h
 rwa [List.take_append_drop]at this
end
def pQ(e:Nat->V):bI->V
 |.tmp t=>e t
 |.const v=>Fq v
 |.global _=>.undef
 |.func f=>.fn f [] []
def Rz(ρ:Env)(x:bI):pQ ρ.get x=aV ρ x:=by cases x<;>rfl
def Bb(P:bo)(o:Oper)(g:bI->V)(F:aw)(v:V)(F':aw):Prop:=
 ∀ρr m Z w,(∀x∈o.op.operands,aT (aY m) Z (g x) (ev ρr x))->w8 m Z F w->(∀k∈keys F',k ∉ keys F->∀L,m k L=bg) ->
  CZ P o ρr w λx w'=>∃m' Z',Step m Z F w m' Z' F' w'/\aT (aY m') Z' v x
def Bb.congr{P:bo}{o:Oper}{g g':bI->V}{F F':aw}{v:V}(h:Bb P o g F v F')(hg:∀x∈o.op.operands,g' x=g x):Bb P o g' F v F':=λρr m Z w e9=>h ρr m Z w λx hx=>by rw[<- hg x hx];exact e9 x hx
def AL(all:List Oper)(e:Nat->V)(o:Oper):Option Bool:=
 match o.guard with
 |none=>aY bh
 |some (j,want)=>match (all[j]?).bind (·.dst)with
  |some d=>match e d with
   |.bool b=>aY (b==want)
   |.no=>aY bf
   |_=>bg
  |none=>bg
def sE(d:Option Nat)(v:V)(e:Nat->V):Nat->V:=match d with|some d=>λt=>bif bm t d then v else e t|none=>e
def PX(d:Option Nat)(v:V)(ρ:Env):(W7 d v ρ).get=sE d v ρ.get:=by
 cases d with
 |none=>rfl
 |some d=>rfl
structure FP where
 i:Nat
 fk:List Nat
 rk:List Nat
 ld:Option (Nat×Nat×Nat)
 kc:List (Nat×Nat×Nat)
abbrev FP.m(i:Nat)(fk rk:List Nat):FP:=⟨i,fk,rk,bg,[]⟩
abbrev HF:=Nat->Option Obj
def YQ(F':aw)(η:HF):HF:=λk=>if k∈keys F' then F'.get k else η k
def Eo(P:bo)(o:Oper)(e:Nat->V)(η pG:HF)(v:V)(fp:FP):Prop:=
 (∀k t off,fp.ld=aY (k,t,off)->fp.fk=[]/\fp.rk=[k]/\(∃bt cs,η k=aY (.box bt cs)/\nr P t cs off=aY v)/\∀bt cs,nr P t cs off=aY v->Bb P o (pQ e) [(k,.box bt cs)] v [(k,.box bt cs)]) /\
 (∀k t off,(k,t,off)∈fp.kc->k∈fp.fk/\∃bt cs cs',η k=aY (.box bt cs)/\pG k=aY (.box bt cs')/\nr P t cs off=nr P t cs' off)
def WK{P:bo}{o:Oper}{e:Nat->V}{η pG:HF}{v:V}{i:Nat}{fk rk:List Nat}:Eo P o e η pG v (.m i fk rk):=⟨λ_ _ _ h=>(by cases h),λ_ _ _ h=>(by cases h)⟩
def o8(P:bo)(N:Nat)(all:List Oper)(fp:FP)(e:Nat->V)(η:HF)(e1:Nat->V)(pG:HF):Prop:=
  ∃o v,all[fp.i]?=aY o/\vu o.op=bh/\(∀d,o.dst=aY d->d+1<=N)/\e1=sE o.dst v e /\
    ((AL all e o=aY bf/\v=.no/\pG=η/\fp.fk=[]/\fp.rk=[]) ∨
     (AL all e o=aY bh/\∃F R F',Bb P o (pQ e) (F++R) v (F'++R)/\(keys (F'++R)).Nodup/\(keys F).Nodup/\(∀k∈keys F,k∈keys F')/\keys F'=fp.fk/\keys R=fp.rk /\
       (∀p∈F++R,η p.1=aY p.2)/\(∀k∈keys F',k ∉ keys F->η k=bg)/\pG=YQ F' η/\Eo P o e η pG v fp))
def Xx(all:List Oper)(o:Oper)(d:Nat):Bool:=
 o.op.operands.toList.any (λ| .tmp t=>bm t d | _=>bf)||(match o.guard with | some (j,_)=>(match (all[j]?).bind (·.dst)with | some d'=>bm d' d | none=>bh) | none=>bf)
def FN(all:List Oper)(o o':Oper):Bool:=
 (match o.dst with|some d=>!Xx all o' d|none=>bh)&&(match o.dst,o'.dst with|some d,aY d'=>!Nat.beq d d'|_,_=>bh)
def C9(k:Nat):List Nat->Bool|[]=>bf|j::r=>bif bm k j then bh else C9 k r
def FW:List Nat->List Nat->Bool|[],_=>bh|k::r,l=>!C9 k l&&FW r l
def Xy(a b:FP):Bool:=FW a.fk b.fk&&(FW a.fk b.rk&&FW a.rk b.fk)
def Xz(a b:Nat×Nat×Nat):Bool:=bm a.1 b.1&&(bm a.2.1 b.2.1&&bm a.2.2 b.2.2)
def O'(a b:FP):Bool:=match a.ld with
 |some x=>a.fk.isEmpty&&(b.kc.any (Xz x))
 |none=>bf
def FO(all:List Oper)(a b:FP):Bool:=
 match all[a.i]?,all[b.i]? with
 | some o,aY o'=>FN all o o'&&(FN all o' o&&(Xy a b||O' a b))
 |_,_=>bf
def zHh{a b:FP}(h:O' a b=bh):a.fk=[]/\∃k t off,a.ld=aY (k,t,off)/\(k,t,off)∈b.kc:=by
 unfold O' at h;split at h
 .rename_i x hx;simp only[bn,fL,List.any_eq_true,Xz]at h;obtain⟨h1,y,h2,h3,h4,h5⟩:=h;refine⟨h1,y.1,y.2.1,y.2.2,?_,h2⟩;rw[hx,<- eb h3,<- eb h4,<- eb h5]
 .cases h
def znd{k:Nat}:∀{l:List Nat},C9 k l=bh↔k∈l
 |[]=>by simp[C9]
 |j::r=>by
  simp only[C9,bu]
  cases hb:bm k j with
  |true=>simp[eb hb]
  |false =>
   have:k≠j:=λe=>by subst e;rw[cC]at hb;cases hb
   simp only[cf,this,false_or];exact znd
def MA:∀{l k:List Nat},FW l k=bh->∀x∈l,x ∉ k
 |[],_,_,x,h=>by cases h
 |j::r,k,h,x,hx=>by
  simp only[FW,bn,bX]at h
  rcases bu.1 hx with rfl|hx
  .intro hk;rw[znd.2 hk]at h;cases h.1
  .exact MA h.2 x hx
def zs1{all:List Oper}{o o':Oper}{v:V}{e:Nat->V}(h:FN all o o'=bh):(∀x∈o'.op.operands,pQ (sE o.dst v e) x=pQ e x)/\AL all (sE o.dst v e) o'=AL all e o':=by
 simp only[FN,bn]at h
 cases hd:o.dst with
 |none=>exact⟨λ_ _=>rfl,rfl⟩
 |some d =>
  rw[hd]at h;simp only[bX,Xx,Bool.or_eq_false_iff]at h;refine⟨λx hx=>?_,?_⟩
  .cases x with
   |tmp t =>
    have:=(List.any_eq_false.1 h.1.1) (.tmp t) (by simpa using hx);simp only[Bool.not_eq_true]at this;simp only[pQ,sE,this,cf]
   |_=>rfl
  .unfold AL
   cases hg:o'.guard with
   |none=>rfl
   |some p =>
    obtain⟨j,want⟩:=p;have h2:=h.1.2;rw[hg]at h2;simp only at h2 ⊢
    cases hj:(all[j]?).bind (·.dst)with
    |none=>rfl
    |some d' =>rw[hj]at h2;simp only at h2 ⊢;simp only[sE,h2,cf]
def put_comm{o o':Oper}{all:List Oper}{v v':V}{e:Nat->V}(h:FN all o o'=bh):sE o.dst v (sE o'.dst v' e)=sE o'.dst v' (sE o.dst v e):=by
 simp only[FN,bn]at h
 cases hd:o.dst with
 |none=>rfl
 |some d =>
  cases mA:o'.dst with
  |none=>rfl
  |some d' =>
   rw[hd,mA]at h;simp only[bX]at h
   funext t
   simp only[sE]
   cases h1:bm t d with
   |false=>rfl
   |true =>
    cases h2:bm t d' with
    |false=>rfl
    |true =>
     have:=eb h1;have:=eb h2
     subst_vars
     rw[cC]at h;cases h.2
def xz{F:aw}{η:HF}{k:Nat}(h:k ∉ keys F):YQ F η k=η k:=by simp[YQ,h]
def zs2{F G:aw}{η:HF}(h:∀k∈keys F,k ∉ keys G):YQ F (YQ G η)=YQ G (YQ F η):=by
 funext k
 by_cases h1:k∈keys F
 .have h2:=h k h1;rw[xz h2];simp[YQ,h1]
 .rw[xz h1];by_cases h2:k∈keys G
  .simp[YQ,h2]
  .rw[xz h2,xz h2,xz h1]
def o8.swap{P:bo}{N:Nat}{all:List Oper}{a b:FP}{e e1 e2:Nat->V}{η pG η2:HF}(h:o8 P N all a e η e1 pG)(k:o8 P N all b e1 pG e2 η2)(hi:FO all a b=bh):
  ∃Le Nn,o8 P N all b e η Le Nn/\o8 P N all a Le Nn e2 η2:=by
 obtain⟨o,v,ho,hn,hd,rfl,h⟩:=h;obtain⟨o',v',Bw,CS,mA,rfl,k⟩:=k;simp only[FO,ho,Bw,bn,dk,Xy]at hi;obtain⟨hs,LF,hi⟩:=hi;obtain⟨Ue,ew1⟩:=zs1 (v:=v) (e:=e) hs;obtain⟨Uf,Ug⟩:=zs1 (v:=v') (e:=e) LF;rw[ew1]at k
 have hA:∀{BV:HF},(AL all e o'=aY bf/\v'=.no/\BV=η/\b.fk=[]/\b.rk=[])∨(AL all e o'=aY bh/\∃F R F',Bb P o' (pQ e) (F++R) v' (F'++R)/\(keys (F'++R)).Nodup/\(keys F).Nodup/\(∀k∈keys F,k∈keys F')/\keys F'=b.fk/\keys R=b.rk /\
   (∀p∈F++R,η p.1=aY p.2)/\(∀k∈keys F',k ∉ keys F->η k=bg)/\BV=YQ F' η/\Eo P o' e η BV v' b)->o8 P N all b e η (sE o'.dst v' e) BV:=λh=>⟨o',v',Bw,CS,mA,rfl,h⟩
 have hB:∀{ES BV:HF},(AL all e o=aY bf/\v=.no/\BV=ES/\a.fk=[]/\a.rk=[])∨(AL all e o=aY bh/\∃F R F',Bb P o (pQ e) (F++R) v (F'++R)/\(keys (F'++R)).Nodup/\(keys F).Nodup/\(∀k∈keys F,k∈keys F')/\keys F'=a.fk/\keys R=a.rk /\
   (∀p∈F++R,ES p.1=aY p.2)/\(∀k∈keys F',k ∉ keys F->ES k=bg)/\BV=YQ F' ES/\Eo P o e ES BV v a)->o8 P N all a (sE o'.dst v' e) ES (sE o'.dst v' (sE o.dst v e)) BV:=λh=>by
  refine⟨o,v,ho,hn,hd,put_comm (v:=v') (v':=v) LF,?_⟩
  rcases h with⟨h1,h2⟩|⟨h1,F,R,F',h2,h3,h4,h5,h6,h7,h8,h9,pW,f1,f2⟩
  .exact .inl ⟨Ug.trans h1,h2⟩
  .refine .inr ⟨Ug.trans h1,F,R,F',h2.congr (λx hx=>Uf x hx),h3,h4,h5,h6,h7,h8,h9,pW,λk t off hk=>?_,f2⟩;obtain⟨g1,g2,g3,g4⟩:=f1 k t off hk;exact⟨g1,g2,g3,λbt cs hc=>(g4 bt cs hc).congr λx hx=>Uf x hx⟩
 rcases k with⟨k1,k2,rfl,k4,k5⟩|⟨k1,F2,R2,sK,l2,n2,Pa,s2,EZ,GB,g2,f2,rfl,q2,Ek⟩
 .exact⟨_,η,hA (.inl ⟨k1,k2,rfl,k4,k5⟩),hB h⟩
 .have O_:Bb P o' (pQ e) (F2++R2) v' (sK++R2):=l2.congr (λx hx=>(Ue x hx).symm)
  have q3:∀k t off,b.ld=aY (k,t,off)->b.fk=[]/\b.rk=[k]/\(∃bt cs,pG k=aY (.box bt cs)/\nr P t cs off=aY v')/\∀bt cs,nr P t cs off=aY v'->Bb P o' (pQ e) [(k,.box bt cs)] v' [(k,.box bt cs)]:=λk t off hk=>by obtain⟨g1,g2,g3,g4⟩:=q2 k t off hk;exact⟨g1,g2,g3,λbt cs hc=>(g4 bt cs hc).congr λx hx=>(Ue x hx).symm⟩
  rcases h with⟨h1,h2,rfl,h4,h5⟩|⟨h1,F1,R1,tE,l1,n1,nf1,s1,GA,N7,g1,f1,rfl,q1,Vy⟩
  .exact⟨_,_,hA (.inr ⟨k1,F2,R2,sK,O_,n2,Pa,s2,EZ,GB,g2,f2,rfl,q3,Ek⟩),hB (.inl ⟨h1,h2,rfl,h4,h5⟩)⟩
  .rcases hi with⟨l6,my,nt⟩|hi
   .have l6:=MA l6;have my:=MA my;have nt:=MA nt
    have Jl:∀k∈keys sK++keys R2,k ∉ keys tE:=λk hk SW=>by
     rw[GA]at SW
     rcases bJ.1 hk with hk|hk
     .rw[EZ]at hk;exact l6 k SW hk
     .rw[GB]at hk;exact my k SW hk
    have NI:∀k∈keys tE++keys R1,k ∉ keys sK:=λk hk EI=>by
     rw[EZ]at EI
     rcases bJ.1 hk with hk|hk
     .rw[GA]at hk;exact l6 k hk EI
     .rw[N7]at hk;exact nt k hk EI
    have aiy:∀p∈F2++R2,p.1∈keys sK++keys R2:=λp hp=>by
     rcases bJ.1 hp with hp|hp
     .exact bQ _ (s2 _ (ax hp))
     .exact cq _ (ax hp)
    have aix:∀p∈F1++R1,p.1∈keys tE++keys R1:=λp hp=>by
     rcases bJ.1 hp with hp|hp
     .exact bQ _ (s1 _ (ax hp))
     .exact cq _ (ax hp)
    have tf:YQ sK (YQ tE η)=YQ tE (YQ sK η):=zs2 λk hk mu=>Jl k (bQ _ hk) mu
    refine⟨_,YQ sK η,hA (.inr ⟨k1,F2,R2,sK,O_,n2,Pa,s2,EZ,GB,λp hp=>?_,λk hk pI=>?_,rfl,λk t off hk=>?_,λk t off hk=>?_⟩),hB (.inr ⟨h1,F1,R1,tE,l1,n1,nf1,s1,GA,N7,λp hp=>?_,λk hk pI=>?_,tf,λk t off hk=>?_,λk t off hk=>?_⟩)⟩
    .rw[<- g2 p hp,xz (Jl _ (aiy p hp))]
    .rw[<- f2 k hk pI,xz (Jl k (bQ _ hk))]
    .obtain⟨w1,w2,w3,w4⟩:=q3 k t off hk;rw[xz (Jl k (cq _ (by rw[GB,w2];exact b_.2 rfl)))]at w3;exact⟨w1,w2,w3,w4⟩
    .obtain⟨w1,bt,cs,cs',w2,w3,w4⟩:=Ek k t off hk;have sX:=Jl k (bQ _ (by rw[EZ];exact w1));rw[xz sX]at w2;rw[tf,xz sX]at w3;exact⟨w1,bt,cs,cs',w2,w3,w4⟩
    .rw[<- g1 p hp,xz (NI _ (aix p hp))]
    .rw[<- f1 k hk pI,xz (NI k (bQ _ hk))]
    .obtain⟨w1,w2,w3,w4⟩:=q1 k t off hk;rw[<- xz (F:=sK) (η:=η) (NI k (cq _ (by rw[N7,w2];exact b_.2 rfl)))]at w3;exact⟨w1,w2,w3,w4⟩
    .obtain⟨w1,bt,cs,cs',w2,w3,w4⟩:=Vy k t off hk;have sX:=NI k (bQ _ (by rw[GA];exact w1));rw[<- xz (F:=sK) (η:=η) sX]at w2;rw[<- xz (F:=sK) (η:=YQ tE η) sX]at w3;exact⟨w1,bt,cs,cs',w2,w3,w4⟩
   .obtain⟨i1,k,t,off,i2,i3⟩:=zHh hi
    have e1:tE=[]:=by
     have:keys tE=[]:=by rw[GA,i1]
     exact List.map_eq_nil_iff.1 this
    subst e1
    have adv:YQ [] η=η:=funext λk=>xz (by simp[keys])
    obtain⟨w1,w2,⟨bt,cs,w3,w4⟩,w5⟩:=q1 k t off i2;rw[adv]at g2 f2 Ek q3 ⊢;obtain⟨u1,bt',cs1,cs2,u2,u3,adD⟩:=Ek k t off i3;rw[w3]at u2;cases u2;have ha:nr P t cs2 off=aY v:=adD.symm.trans w4
    have EK:∀k t off,(k,t,off) ∉ a.kc:=λk t off hk=>by have:=(Vy k t off hk).1;rw[i1]at this;cases this
    refine⟨_,YQ sK η,hA (.inr ⟨k1,F2,R2,sK,O_,n2,Pa,s2,EZ,GB,g2,f2,rfl,q3,Ek⟩),hB (.inr ⟨h1,[],[(k,.box bt cs2)],[],w5 _ _ ha,?_,cZ,λk hk=>hk,i1.symm,w2.symm,λp hp=>?_,λk hk=>(by cases hk),(funext λk=>xz (by simp[keys])).symm,λk' t' tC hk=>?_,λk t off hk=>aQ hk (EK k t off)⟩)⟩
    .simp[keys]
    .cases b_.1 hp;exact u3
    .rw[i2]at hk;cases hk;exact⟨w1,w2,⟨bt,cs2,u3,ha⟩,w5⟩
inductive Cf(P:bo)(N:Nat)(all:List Oper):List FP->(Nat->V)->HF->(Nat->V)->HF->Prop
 |nil {e:Nat->V} {η:HF}:Cf P N all [] e η e η
 |cons {a:FP} {l:List FP} {e e1 e2:Nat->V} {η pG η2:HF} (h:o8 P N all a e η e1 pG) (k:Cf P N all l e1 pG e2 η2):Cf P N all (a::l) e η e2 η2
def Cf.front{P:bo}{N:Nat}{all:List Oper}{b:FP}{l2:List FP}:∀{l1:List FP}{e e2:Nat->V}{η η2:HF},Cf P N all (l1++b::l2) e η e2 η2->(∀a∈l1,FO all a b=bh) ->
  ∃e1 pG,o8 P N all b e η e1 pG/\Cf P N all (l1++l2) e1 pG e2 η2
 |[],e,e2,η,η2,h,_=>by
  cases h with
  |cons h k=>exact⟨_,_,h,k⟩
 |a::l1,e,e2,η,η2,h,hi=>by
  cases h with
  |cons h k =>
   obtain⟨e1,pG,h1,h2⟩:=Cf.front (l1:=l1) k λc hc=>hi c (iO _ hc)
   obtain⟨Le,Nn,h3,h4⟩:=h.swap h1 (hi a ak);exact⟨Le,Nn,h3,.cons h4 h2⟩
def Ki(l:List Edge)(acc:List Nat):Nat->Nat:=λs=>match l with
 |[]=>s
 | e::r=>Ki r acc (if Region.binds .any e then s ||| 2 ^ e.on ||| acc.getD e.on 0 else s)
def Ky:List Oper->List Nat->List Nat
 |[],acc=>acc
 |o::r,acc=>Ky r (acc++[Ki o.after.toList acc 0])
def Io(ms:List Nat)(j i:Nat):Bool:=(ms.getD j 0).testBit i
def X6{acc:List Nat}{i:Nat}:∀{l:List Edge}{s:Nat},(Ki l acc s).testBit i=bh->s.testBit i=bh∨∃e∈l,Region.binds .any e=bh/\(e.on=i∨(acc.getD e.on 0).testBit i=bh)
 |[],s,h=>.inl h
 |e::r,s,h=>by
  simp only[Ki]at h
  rcases X6 h with h|⟨e',CO,h1,h2⟩
  .split at h
   .rename_i hb;simp only[Nat.testBit_or,dk]at h
    rcases h with(h|h)|h
    .exact .inl h
    .refine .inr ⟨e,ak,hb,.inl ?_⟩;rw[Nat.testBit_two_pow]at h;simpa using h
    .exact .inr ⟨e,ak,hb,.inr h⟩
   .exact .inl h
  .exact .inr ⟨e',iO _ CO,h1,h2⟩
def X7:∀(l:List Oper)(acc:List Nat),(Ky l acc).take acc.length=acc/\∀(k:Nat)(o:Oper),l[k]?=aY o->(Ky l acc).getD (acc.length+k) 0=Ki o.after.toList ((Ky l acc).take (acc.length+k)) 0
 |[],acc=>⟨by simp[Ky],λk o h=>by simp at h⟩
 |o::r,acc=>by
  obtain⟨h1,h2⟩:=X7 r (acc++[Ki o.after.toList acc 0]);simp only[Ky];have hl:(acc++[Ki o.after.toList acc 0]).length=acc.length+1:=ae;rw[hl]at h1 h2
  have U2:(Ky r (acc++[Ki o.after.toList acc 0])).take acc.length=acc:=by have:=aP (List.take acc.length) h1;rw[gb,eH ab]at this;rw[this];simp
  refine⟨U2,λk o' hk=>?_⟩
  cases k with
  |zero =>
   simp only[dZ,Option.some.injEq]at hk;subst hk;rw[dK,U2,bB]
   have:(Ky r (acc++[Ki o.after.toList acc 0]))[acc.length]?=aY (Ki o.after.toList acc 0):=by have h3:=aP (λl=>l[acc.length]?) h1;simp only[cj]at h3;rw[aO ab]at h3;rw[h3];simp
   rw[this];rfl
  |succ k =>
   have:=h2 k o' (by simpa using hk);rw[show acc.length+1+k=acc.length+(k+1) by omega]at this;exact this
def FQ(all:List Oper):Bool:=(dn all.length).all λj=>match all[j]? with
 | some o=>o.after.toList.all λe=>!Region.binds .any e||cm (e.on+1) j
 |none=>bh
def zne{all:List Oper}(h:FQ all=bh){j:Nat}{o:Oper}(ho:all[j]?=aY o){e:Edge}(he:e∈o.after)(hb:Region.binds .any e=bh):e.on<j:=by have hj:j<all.length:=(bq.1 ho).1;have h1:=(bl.1 h) j (List.mem_range.2 hj);rw[ho]at h1;have h2:=(bl.1 h1) e (by simpa using he);simp only[hb,Bool.not_true,Bool.false_or]at h2;exact mi h2
def zp6{all:List Oper}(hE:FQ all=bh){listed:Array Bool}(hc:FK all.toArray listed):∀(j:Nat)(o:Oper),all[j]?=aY o->(∀e∈o.after,Region.binds .any e=bh->listed.getD e.on bf=bh)->∀i,Io (Ky all []) j i=bh->listed.getD i bf=bh:=by
 intro j
 induction j using Nat.strongRecOn with
 |_ j ih =>
  intro o ho rA i hi;have hs:=(X7 all []).2 j o ho;simp only[dw,cl]at hs;unfold Io at hi;rw[hs]at hi
  rcases X6 hi with h|⟨e,he,hb,h⟩
  .simp at h
  .have CO:e∈o.after:=by simpa using he
   have ib:=zne hE ho CO hb;have hl:=rA e CO hb
   rcases h with rfl|h
   .exact hl
   .have hj:j<all.length:=(bq.1 ho).1;have G4:all[e.on]?=aY (all[e.on]' ab):=bA ab;refine ih e.on ib _ G4 (λe2 GW pZ=>hc e.on _ hl (by simpa using G4) e2 GW pZ) i ?_;unfold Io;rw[bB,cj,aO ib,<- bB]at h;exact h
def qs(all:List Oper)(ms:List Nat):List FP->Bool
 |[]=>bh
 | a::r=>r.all (λb=>Io ms b.i a.i||FO all a b)&&qs all ms r
def Wc{all:List Oper}{ms:List Nat}{b:FP}{l2:List FP}:∀{l1:List FP},qs all ms (l1++b::l2)=bh->(∀a∈l1,Io ms b.i a.i=bh∨FO all a b=bh)/\qs all ms (l1++l2)=bh
 |[],h=>by
  simp only[cw,qs,bn]at h;exact⟨λ_ h=>(by cases h),h.2⟩
 |a::l1,h=>by
  simp only[dj,qs,bn]at h;obtain⟨h1,h2⟩:=Wc h.2;have h3:=bl.1 h.1;refine⟨λx hx=>?_,?_⟩
  .rcases bu.1 hx with rfl|hx
   .have:=h3 b ae;simpa using this
   .exact h1 x hx
  .simp only[dj,qs,bn];refine⟨bl.2 λx hx=>h3 x ?_,h2⟩
   rcases bJ.1 hx with hx|hx
   .exact bQ _ hx
   .exact cq _ (iO _ hx)
def zgq:∀{l:List Nat},l.Nodup->nodupB l=bh
 |[],_=>rfl
 |k::r,h=>by rw[cA]at h;simp only[nodupB,bn,bX,cv,aW];exact⟨h.1,zgq h.2⟩
def MB{H:aw}:∀{F:aw},(∀p∈F,H.get p.1=aY p.2)->kO (keys F) H=aY F
 |[],_=>rfl
 |(k,o)::r,h=>by
  have h1:=h (k,o) ak
  have h2:=MB (F:=r) λp hp=>h p (iO _ hp)
  show(match H.get k,kO (keys r) H with|some o,aY l=>aY ((k,o)::l)|_,_=>bg)=_
  rw[h1,h2]
def get_none:∀{H:aw}{k:Nat},k ∉ keys H↔H.get k=bg
 |[],k=>by simp[keys,aw.get]
 |(k',o)::r,k=>by
  simp only[keys,ij,bu,not_or,aw.get]
  cases hb:bm k k' with
  |true=>simp[eb hb]
  |false =>
   have:k≠k':=λe=>by subst e;rw[cC]at hb;cases hb
   simp only[cf,ne_eq,this,not_false_eq_true,true_and];exact get_none
def get_append{A B:aw}{k:Nat}:(A++B).get k=if k∈keys A then A.get k else B.get k:=by
 induction A with
 |nil=>simp[keys]
 |cons p A ih =>
  obtain⟨k',o⟩:=p;simp only[dj,aw.get,keys,ij,bu]
  cases hb:bm k k' with
  |true=>simp[eb hb]
  |false =>
   have:k≠k':=λe=>by subst e;rw[cC]at hb;cases hb
   simp only[cf,this,false_or];exact ih
def HJ{ks:List Nat}{H:aw}{k:Nat}(h:k ∉ ks):(js ks H).get k=H.get k:=by
 induction H with
 |nil=>rfl
 |cons p H ih =>
  obtain⟨k',o⟩:=p;simp only[js,fN];split
  .simp only[aw.get];rw[show aw.get (List.filter (λp=>!ks.contains p.1) H) k=aw.get H k from ih]
  .rename_i hc
   have mu:k'∈ks:=by simpa using hc
   have lD:k≠k':=λe=>h (e▸mu)
   have hb:bm k k'=bf:=by
    cases hb:bm k k' with
    |true=>exact aQ (eb hb) lD
    |false=>rfl
   simp only[aw.get,hb,cf];exact ih
def Kz{A B:aw}(hA:(keys A).Nodup)(hB:(keys B).Nodup)(h:∀k,A.get k=B.get k):A.Perm B:=by
 refine(gm (vd _ hA) (vd _ hB)).2 λp=>?_
 obtain⟨k,o⟩:=p;constructor
 .intro hp;have:=get_of_mem hA hp;rw[h]at this;exact aw.get_mem this
 .intro hp;have:=get_of_mem hB hp;rw[<- h]at this;exact aw.get_mem this
end Go.EV
