/- texts that the proof reaches, part 1 -/
import Derived.Test.YtkmjhipiiifekaaGreatDoorProg
import Derived.Shelf.RegionOpenPlain
import Derived.Lib.Strings
import Derived.Lib.Slices
import Derived.Lib.Walk
import Derived.Lib.Builder
import Derived.Lib.AppendStr
import Derived.Lib.UnsafeStr
import Derived.WalkKit
import Derived.Laws.Externs
import Derived.Laws.IdiomCopy
import Derived.Laws.BitsLemmas
import Derived.Lib.FrozenHead2
import Derived.DefersIn
import Derived.ControlIn
import Derived.TacticsIn
import Derived.OrdersIn
import Derived.OrdersHeld
import Derived.Below
import Derived.Laws.AppendOwn
import Derived.Laws.Entries
import Derived.Laws.Slices
import Derived.Laws.Strings
import Derived.Laws.Cells
import Derived.Laws.Rows
import Derived.Laws.NewBlocks
import Derived.Laws.OwnMore
import Derived.Laws.Small
import Derived.Laws.StructEq
import Derived.KernelRfl
import Derived.Maps.AppendAt
import Derived.Deep.Slices
import Derived.RangeFuncLeaves
import Derived.RangeFuncRecord
import Derived.RangeFuncSeq
import Derived.Laws.Tables
import Derived.Lib.SliceRun
import Derived.Laws.CopyRow
set_option linter.all false
open Array renaming getElem?_eq_some_iff->bP,getD_eq_getD_getElem?->cB,getElem?_modify->dp,getElem?_eq_getElem->ef,getElem?_replicate->ei,eq_empty_of_size_eq_zero->eF,empty_append->eW,size_append->fo,range->fO,toList_append->fT,ext'->gb
open BitVec renaming ofInt->dP
open Bool renaming false->bf,true->bg,not_eq_true'->bL,false_eq_true->cu,or_eq_true->cM,eq_iff_iff->ek
open Go renaming Program->bl,TypeId->bu,Value->bw,Operand->bE,World->bG,execOp->bU,Deferred->ca
open Go.Proofs.Tryz renaming prog->bj,underlying9->cL,underlying96->dE,underlying95->ew,underlying288->eX,underlying217->ff
open List renaming length->ba,all_eq_true->bm,mem_cons->bo,getElem?_eq_some_iff->bq,getElem?_eq_getElem->bx,mem_map->bF,mem_append->bI,mem_append_left->bJ,mem_of_getElem?->bK,mem_append_right->bO,eq_nil_of_length_eq_zero->bW,contains_eq_mem->bX,getElem?_take->cb,nil_append->cq,nodup_cons->cr,mem_map_of_mem->cv,getElem?_map->cw,append_nil->cy,nodup_append->cz,length_take->cD,map_map->cF,flatten_cons->cI,getD_eq_getElem?_getD->cJ,cons_append->cK,map->cN,map_append->cO,getElem?_append_left->cR,length_drop->cS,size_toArray->cW,getElem?_drop->cX,range->dc,nodup_nil->dj,map_nil->dm,take_of_length_le->dk,getElem_of_mem->dn,getElem_mem->dq,mem_filter->du,getElem?_range->dv,length_nil->dD,drop_zero->dJ,getElem?_cons_zero->dG,take_left->dH,append_eq_nil_iff->dL,drop_drop->dW,getElem?_toArray->eD,isEmpty_iff->eG,pairwise_append->eJ,take_length_add_append->eT,perm_ext_iff_of_nodup->fb,extract_eq_drop_take->fj,range'_succ->fD,filterMap_cons->fS,length_pos_iff->fR,find?_eq_none->gf,pairwise_cons->fY,mem_toArray->gC,range'->gE,take_take->gJ,drop_take->gG
open Nat renaming beq->bk,ble->ck,zero_add->cj,beq_refl->cl,zero_le->cx,mul_le_mul_right->cA,succ_mul->cU,zero_mul->dw,add_mul->dK,le_trans->dN,add_zero->ea,le_refl->er,min_eq_left->eN,lt_of_lt_of_le->fa,add_assoc->fA,lt_irrefl->fx,lt_succ_self->fE,le_of_eq->gR
open Option renaming some->aY,none->bh,map_eq_some_iff->bQ,map_some->cP,bind_eq_some_iff->cQ,getD_some->dz
open Sum renaming getLeft?->fG,getRight?->gM
namespace Go
def aN := @if_neg
def aO := @if_pos
def aP := @congrArg
def aQ := @absurd
def aU := @decide_eq_true_eq
def aW := @decide_eq_false_iff_not
def aX := @of_decide_eq_true
end Go
namespace Go
theorem ab {p : Prop} (h : p := by omega) : p := h
theorem ad {p : Prop} (h : p := by decide) : p := h
theorem ae {p : Prop} (h : p := by simp) : p := h
theorem af {p : Prop} (h : p := by decide +kernel) : p := h
theorem ah {p : Prop} (h : p := by rfl) : p := h
theorem afm.{u} {α : Sort u} {a b : α} (h : a = b := by kernel_rfl) : a = b := h
abbrev aj := List UInt8
theorem ak.{u} {α : Type u} {a : α} {l : List α} : a ∈ a :: l := List.mem_cons_self
theorem al {n : Nat} : n ≤ n := er n
end Go
namespace Go
def aH.{u,v}{α:Type u}{β:Type v}(a:α)(f:α->Option β):(aY a).bind f=f a:=rfl
def df{p:Prop}[i:Decidable p](h:¬p):decide p=bf:=decide_eq_false h
def dt{p:Prop}[i:Decidable p](h:p):decide p=bg:=decide_eq_true h
def pa.{u}{α:Type u}{a b:List α}:(a++b).length=a.length+b.length:=List.length_append
def lX.{u}{α:Type u}{a:α}{b:List α}:(a::b).length=b.length+1:=List.length_cons
def ct.{u}{α:Sort u}(a b:α):(bif bg then a else b)=a:=rfl
def cf.{u}{α:Sort u}(a b:α):(bif bf then a else b)=b:=rfl
def gX.{u}{α:Type u}{a b:α}:a∈[b]↔a=b:=List.mem_singleton
def iT.{u}{α:Type u}(y:α){a:α}{l:List α}(h:a∈l):a∈y::l:=List.mem_cons_of_mem y h
def lR{n m:Nat}(h:ck n m=bg):n<=m:=Nat.le_of_ble_eq_true h
def eb{n m:Nat}(h:bk n m=bg):n=m:=Nat.eq_of_beq_eq_true h
def bn(a b:Bool):((a&&b)=bg)=(a=bg/\b=bg):=Bool.and_eq_true a b
def ig.{u,v}{α:Type u}{β:Type v}{f:α->β}{a:α}{l:List α}:cN f (a::l)=f a::cN f l:=List.map_cons
def sF.{u}{α:Type u}(a b c:List α):a++b++c=a++(b++c):=List.append_assoc a b c
end Go
namespace Go.Proofs.YtkmjhipiiifekaaGreatDoor
open Go Go.RowKit
structure Ea(T:bu):Prop where
 lies:liesAt bj Tryz.prog.depth T (2 / Tryz.prog.cellsOf T) 0 98 1=bg
 ne:T≠5
def acI:Ea 98:=⟨by kernel_rfl,ad⟩
def UF:(Tryz.prog.info? 98).map (·.size)=aY 2:=by kernel_rfl
set_option maxHeartbeats 1000000 in
set_option maxRecDepth 100000 in
theorem zjo(b:Nat)(w:bG)(h0:w.cell? ⟨b,0,bh⟩=aY (.pointer (aY ⟨b,0,bh⟩))):
  Calls bj 123 #[.pointer (aY ⟨b,0,bh⟩)] w λe w'=>e=.returned (.tuple #[])/\w'=w:=by
 obtain⟨j,hj,_⟩:=bQ.1 UF
 go_enter Tryz.func123,Tryz.ntmps123
 go_wp2
 rw[Lib.run_neq_ptr_same w _ ew hj]
 go_wp2
 go_end0
 exact⟨rfl,rfl⟩
set_option maxHeartbeats 1000000 in
set_option maxRecDepth 100000 in
theorem zfd{T:bu}(hT:Ea T)(b:Nat)(w:bG)(h0:w.cell? ⟨b,0,bh⟩=aY (.pointer bh))(mW:w.shape? b=aY (T,2))(np:w.frozen? ⟨b,0,bh⟩=bf):
  Calls bj 123 #[.pointer (aY ⟨b,0,bh⟩)] w λe w'=>e=.returned (.tuple #[])/\w'=w.setCell ⟨b,0,bh⟩ (.pointer (aY ⟨b,0,bh⟩)):=by
 obtain⟨j,hj,ER⟩:=bQ.1 UF
 go_enter Tryz.func123,Tryz.ntmps123
 go_wp2
 rw[Lib.run_to_unsafe w ⟨b,0,bh⟩ ew eX hj (by rw[ER];decide) mW (Nat.zero_lt_succ 1)];simp only[Result.andThen];rw[Oper.upon_value]
 go_wp2
 rw[run_callFunc_extern Tryz.func206 (by kernel_rfl) (by kernel_rfl) (by kernel_rfl) (e:=Extern.AbiNoEscape.same) (by kernel_rfl)];rw[Lib.run_noEscape];simp only[Result.andThen];rw[Oper.upon_value]
 go_wp2
 rw[Lib.run_from_unsafe w ⟨b,0,bh⟩ eX ew hj mW hT.lies];simp only[Result.andThen];rw[Oper.upon_value]
 go_wp2
 go_end0
 exact⟨rfl,rfl⟩
def infoByte:(Tryz.prog.info? 5).map (λi=>(i.zero,i.size,i.bytes))=aY (aY (.int .u8 0),1,1):=by kernel_rfl
def aeu:∃i,Tryz.prog.info? 5=aY i/\i.zero=aY (.int .u8 0)/\i.size=1/\i.bytes=1:=by obtain⟨i,h1,h2⟩:=bQ.1 infoByte;simp only[Prod.mk.injEq]at h2;exact⟨i,h1,h2.1,h2.2.1,h2.2.2⟩
def U8(w w':bG)(v v':bw):Prop:=(∀g,v'.ownBlock=aY g->w.heap.size<=g∨v.ownBlock=aY g)/\∀g,v.ownBlock=aY g->∃cur fr,w'.heap[g]?=aY (.cells cur 5 fr)
def zjp(w:bG)(v:bw)(n:Nat)(xs:List bw)(mT:w.ownsRowF 0 5 1 v n xs)(s:ByteArray)(hb:n+s.size<=140737488355328):
  ∃v' w',(Builtin.append_ #[96,9] 96 #[v,.string s]).run bj w=.ok v' w'/\w'.ownsRowF 0 5 1 v' (n+s.size) (xs++Lib.strCells s)/\w.grownBy w' v.ownBlock/\U8 w w' v v':=by
 obtain⟨i,hi,hz,hs,hy⟩:=aeu
 have rA:n+s.size<=maxLen:=by unfold maxLen;omega
 rcases mT.2 with⟨rfl,rfl⟩|⟨g,cap,cur,fz,rfl,EL,hg,np,hnc,y1,nx,aer⟩
 .obtain⟨v',w',h1,h2,h3,_⟩:=Lib.run_append_own_stringF (P:=bj) w w.heap.size 96 9 96 5 i dE cL hi hz hs hy (.slice bh 0 0) 0 xs ⟨mT.1,.inl ⟨rfl,rfl⟩⟩ s rA hb al;refine⟨v',w',h1,⟨h2.1,?_⟩,h3,λg hg=>.inl (h2.lt g hg).1,λg hg=>by cases hg⟩
  rcases h2.2 with h|⟨g,cap,cur,fz,e1,e2,r⟩
  .exact .inl h
  .exact .inr ⟨g,cap,cur,fz,e1,cx _,r⟩
 .obtain⟨v',w',h1,h2,h3,_⟩:=Lib.run_append_own_stringF (P:=bj) w 0 96 9 96 5 i dE cL hi hz hs hy _ n xs mT s rA hb (cx _);refine⟨v',w',h1,h2,h3,?_⟩;by_cases GC:n+s.size<=cap
  .have hr:=Lib.run_append_room_stringF (P:=bj) w 96 9 96 5 i dE cL hi hs g n cap cur fz hg (by simpa using np) s GC ab;rw[h1]at hr;cases hr;refine⟨λg' l9=>.inr (by simpa[Value.ownBlock]using l9),λg' l9=>?_⟩
   rcases h2.2 with⟨e,_⟩|⟨g2,afC,afE,fz2,e1,_,e3,_⟩
   .cases e
   .cases e1;simp only[Value.ownBlock,Option.some.injEq]at l9;subst l9;exact⟨_,_,e3⟩
  .have holds:∀j u,xs[j]?=aY u->w.cell? ((⟨g,0,bh⟩:Addr).add j)=aY u:=mT.cells (g:=g) rfl;have hr:=Lib.run_append_grow_string (P:=bj) w 96 9 96 5 i (.int .u8 0) dE cL hi hz ⟨g,0,bh⟩ n cap xs (by rw[hs];exact mT.1) holds s ab ab (by rw[hy];exact growslice_fits ab ab);rw[h1]at hr;cases hr;refine⟨λg' l9=>?_,λg' l9=>?_⟩
   .simp only[Value.ownBlock,Option.some.injEq]at l9;exact .inl ab
   .simp only[Value.ownBlock,Option.some.injEq]at l9;subst l9;exact⟨_,_,(Lib.alloc_old w.drew _ g (bP.1 hg).1).trans hg⟩
def zjq{ops:Array Oper}{rest:List Oper}{o:Oper}{a:Act}{w:bG}{Q:Exit->Act->bG->Prop}(hgd:o.guard=bh)(sl x:bE)
  (ho:o.op=.call { callee:=.builtin .append,args:=#[sl,x],argTypes:=#[96,9] }) (hty:o.type=96)
  (v:bw) (n:Nat) (xs:List bw) (hs:a.eval sl=v) (mT:w.ownsRowF 0 5 1 v n xs) (s:ByteArray) (hx:a.eval x=.string s) (hb:n+s.size<=140737488355328)
  (h:∀v' w',w'.ownsRowF 0 5 1 v' (n+s.size) (xs++Lib.strCells s)->w.grownBy w' v.ownBlock->U8 w w' v v'->wpList bj ops Q rest (a.put o.dst v') w'):wpList bj ops Q (o::rest) a w:=by
 refine wpList_plain hgd λK hK=>?_
 obtain⟨v',w',hr,h2,h3,h4⟩:=zjp w v n xs mT s hb;unfold Oper.wp bU;simp only[ho,hty,resolve,invoke,builtin,Sem.run_bind,Sem.run_pure,Result.andThen_ok,List.map_toArray,ig,dm,hs,hx,hr];exact hK _ _ (h v' w' h2 h3 h4)
def Vf(b:Nat)(w w':bG):Prop:=∃p v T p' v',w.heap[b]?=aY (.cells #[p,v] T (0,0))/\w'.heap[b]?=aY (.cells #[p',v'] T (0,0))/\w'.os=w.os/\w'.tape=w.tape/\w'.output=w.output/\w.heap.size<=w'.heap.size /\
 (∀k,k<w.heap.size->k≠b->v.ownBlock≠aY k->w'.heap[k]?=w.heap[k]?)/\(∀g,v'.ownBlock=aY g->w.heap.size<=g∨v.ownBlock=aY g)/\∀g,v.ownBlock=aY g->g≠b->∃cur u fr,w'.heap[g]?=aY (.cells cur u fr)
def check{T:bu}(hT:Ea T)(b:Nat)(bs:List bw)(w:bG)(h:Lib.IsBuilderF T 5 0 b bs w):
  Calls bj 123 #[.pointer (aY ⟨b,0,bh⟩)] w λe w'=>e=.returned (.tuple #[])/\Lib.BuilderAtF T 5 0 b (.pointer (aY ⟨b,0,bh⟩)) bs w'/\∃p v,w.heap[b]?=aY (.cells #[p,v] T (0,0))/\w'.heap[b]?=aY (.cells #[.pointer (aY ⟨b,0,bh⟩),v] T (0,0))/\w'.os=w.os/\w'.tape=w.tape/\w'.output=w.output/\w'.heap.size=w.heap.size/\∀k,k≠b->w'.heap[k]?=w.heap[k]?:=by
 rcases h with h|h
 .refine(zfd hT b w h.cell0 h.shape h.frozen0).mono ?_;rintro e w' ⟨rfl,rfl⟩;have h2:=h.used (.pointer (aY ⟨b,0,bh⟩));obtain⟨_,v,hb,_⟩:=h;exact⟨rfl,h2,_,v,hb,by simp[World.setCell,dp,hb],rfl,rfl,rfl,by simp[World.setCell],λk hk=>Below.heap_setCell _ _ _ _ (λe=>hk (by simp[e]))⟩
 .refine(zjo b w h.cell0).mono ?_;rintro e w' ⟨rfl,rfl⟩;have h2:=h;obtain⟨_,v,hb,_⟩:=h;exact⟨rfl,h2,_,v,hb,hb,rfl,rfl,rfl,rfl,λ_ _=>rfl⟩
set_option maxHeartbeats 2000000 in
set_option maxRecDepth 100000 in
theorem zvy{T:bu}(hT:Ea T)(b:Nat)(bs:List bw)(s:ByteArray)(w:bG)(h:Lib.IsBuilderF T 5 0 b bs w)(hlen:bs.length+s.size<=140737488355328):
  (Calls bj 35 #[.pointer (aY ⟨b,0,bh⟩),.string s] w λe w'=>e=.returned (.tuple #[.int .i64 s.size,.nilIface])/\Lib.IsBuilderF T 5 0 b (bs++Lib.strCells s) w'/\Vf b w w') /\
  ∀u,CallsDIn Fence.wide 0 bj 35 #[.pointer (aY ⟨b,0,bh⟩),.string s] u w λe u' w'=>u'=u/\(e=.returned (.tuple #[.int .i64 s.size,.nilIface])/\Lib.IsBuilderF T 5 0 b (bs++Lib.strCells s) w'/\Vf b w w'):=by
 refine⟨calls_of_wp Tryz.func35 rfl ?_,λu=>callsDIn_of_wp Tryz.func35 rfl trivial (wpIn_wide.2 ?_)⟩
 all_goals
  simp only[Tryz.ntmps35,cW,lX,dD,Nat.reduceAdd,Nat.reduceSub,Array.replicate_succ,Array.replicate_zero,List.push_toArray,List.append_toArray,cq,cK]
  go_wp2_with (go_at_call 123;refine(check hT b bs _ h).mono ?_)
  rintro e w1 ⟨rfl,h1,p0,v0,k1,k2,k3,k4,k5,k6,k7⟩;obtain⟨hB,v,mB,mT,lE⟩:=h1
  have c0:w1.cell? ⟨b,0,bh⟩=aY (.pointer (aY ⟨b,0,bh⟩)):=by rw[Lib.cell_of_heap mB];rfl
  have c1:w1.cell? ⟨b,1,bh⟩=aY v:=by rw[Lib.cell_of_heap mB];rfl
  go_wp2_with (at_builtin;refine zjq rfl _ _ rfl rfl _ _ _ rfl mT s rfl ?c4 ?_)
  case c4=>omega
  intro v' w2 X6 CP X8
  have iB:b<w1.heap.size:=by
   rcases Nat.lt_or_ge b w1.heap.size with h'|h'
   .exact h'
   .simp[Array.getElem?_eq_none h']at mB
  have nY:w2.heap[b]?=aY (.cells #[.pointer (aY ⟨b,0,bh⟩),v] T (0,0)):=by rw[CP.block b iB (λe=>lE e.symm)];exact mB
  have d0:w2.cell? ⟨b,0,bh⟩=aY (.pointer (aY ⟨b,0,bh⟩)):=by rw[Lib.cell_of_heap nY];rfl
  have d1:w2.cell? ⟨b,1,bh⟩=aY v:=by rw[Lib.cell_of_heap nY];rfl
  have f1:w2.frozen? ⟨b,1,bh⟩=bf:=Lib.frozen_of_heap nY 1
  obtain⟨ao,n',cap,rfl⟩:∃ao n' cap,v'=.slice ao n' cap:=by
   rcases X6.2 with⟨hv,_⟩|⟨g,cap,cur,fz,hv,_⟩
   .exact⟨_,_,_,hv⟩
   .exact⟨_,_,_,hv⟩
  go_wp2
  go_ret2
  rw[mB]at k2;cases k2;refine⟨rfl,.inr (Lib.BuilderAtF.put hB nY (bs':=bs++Lib.strCells s) (by simpa[Lib.strCells_length]using X6) hT.ne),p0,v0,T,.pointer (aY ⟨b,0,bh⟩),.slice ao n' cap,k1,by simp[World.setCell,dp,nY],CP.os.trans k3,CP.tape.trans k4,CP.output.trans k5,by simpa[World.setCell]using dN (gR k6.symm) CP.size,λk hk pH hkv=>?_,λg hg=>?_,λg hg EN=>?_⟩
  .rw[Below.heap_setCell _ _ _ _ (λe=>pH (by simp[e])),CP.block k ab (λe=>hkv e.symm),k7 k pH]
  .have:=X8.1 g hg
   rwa [k6]at this
  .obtain⟨cur,fr,e⟩:=X8.2 g hg;exact⟨cur,5,fr,by rw[Below.heap_setCell _ _ _ _ (λe=>EN (by simp[e]))];exact e⟩
set_option maxHeartbeats 1000000 in
set_option maxRecDepth 100000 in
theorem zvz{T:bu}(b:Nat)(bs:List bw)(w:bG)(h:Lib.IsBuilderF T 5 0 b bs w):
  Calls bj 36 #[.pointer (aY ⟨b,0,bh⟩)] w λe w'=>e=.returned (.int .i64 bs.length)/\w'=w:=by
 obtain⟨p,hB,v,mB,mT,lE⟩:∃p,Lib.BuilderAtF T 5 0 b p bs w:=by
  rcases h with h|h
  .exact⟨_,h⟩
  .exact⟨_,h⟩
 obtain⟨ao,cap,rfl⟩:∃ao cap,v=.slice ao bs.length cap:=by
  rcases mT.2 with⟨hv,h0⟩|⟨g,cap,cur,fz,hv,_⟩
  .exact⟨bh,0,by rw[hv,h0]⟩
  .exact⟨_,_,hv⟩
 have c1:w.cell? ⟨b,1,bh⟩=aY (.slice ao bs.length cap):=by rw[Lib.cell_of_heap mB];rfl
 go_enter Tryz.func36,Tryz.ntmps36
 go_wp2
 go_ret
 exact⟨rfl,rfl⟩
def FY:Tryz.prog.follows .mixedOrders=bg:=by kernel_rfl
def zAa:Tryz.prog.cellsOf 5=1:=by kernel_rfl
def zv0(W:bG)(q:Option Addr):(Builtin.unsafeString_ #[217,3] 9 #[.pointer q,.int .i64 0]).run bj W=.ok (.string .empty) W:=Lib.run_unsafeString_none W _ _ _ q
def QR{b:Nat}{w w':bG}{p v:bw}{T:bu}(h1:w.heap[b]?=aY (.cells #[p,v] T (0,0)))(h2:w'.heap[b]?=aY (.cells #[p,v] T (0,0)))(ho:w'.os=w.os)(ht:w'.tape=w.tape)(hu:w'.output=w.output)(hs:w.heap.size<=w'.heap.size)
  (hf:∀k,k<w.heap.size->k≠b->v.ownBlock≠aY k->w'.heap[k]?=w.heap[k]?) (hg:∀g,v.ownBlock=aY g->g≠b->∃cur u fr,w'.heap[g]?=aY (.cells cur u fr)):Vf b w w':=⟨p,v,T,p,v,h1,h2,ho,ht,hu,hs,hf,λg hg=>.inr hg,hg⟩
set_option maxHeartbeats 2000000 in
set_option maxRecDepth 100000 in
theorem zfe{T:bu}(b:Nat)(l:aj)(w:bG)(h:Lib.IsBuilderF T 5 0 b (Lib.byteCells l) w)(h0:l≠[]):
  Calls bj 37 #[.pointer (aY ⟨b,0,bh⟩)] w λe w'=>e=.returned (.string ⟨l.toArray⟩)/\Lib.IsBuilderF T 5 0 b (Lib.byteCells l) w'/\Vf b w w':=by
 obtain⟨p,hp,hAt⟩:∃p,(p=.pointer bh∨p=.pointer (aY ⟨b,0,bh⟩))/\Lib.BuilderAtF T 5 0 b p (Lib.byteCells l) w:=by
  rcases h with h|h
  .exact⟨_,.inl rfl,h⟩
  .exact⟨_,.inr rfl,h⟩
 obtain⟨hB,v,mB,mT,lE⟩:=hAt
 have y2:l.length≠0:=by simpa using h0
 rw[Lib.byteCells_length]at mT
 obtain⟨g,cap,cur,fz,rfl,EL,hg,np,hnc,y1,nx,aer⟩:∃g cap cur fz,v=.slice (aY ⟨g,0,bh⟩) l.length cap/\0<=g/\w.heap[g]?=aY (.cells cur 5 fz)/\fz.2<=l.length*1/\l.length<=cap/\cap<=maxLen/\cur.size=cap*1/\cur.toList.take (l.length*1)=Lib.byteCells l:=by
  rcases mT.2 with⟨_,hz⟩|⟨g,cap,cur,fz,hv,r⟩
  .exact aQ hz y2
  .exact⟨g,cap,cur,fz,hv,r⟩
 have c1:w.drew.cell? ⟨b,1,bh⟩=aY (.slice (aY ⟨g,0,bh⟩) l.length cap):=by have:w.drew.heap[b]?=aY (.cells #[p,.slice (aY ⟨g,0,bh⟩) l.length cap] T (0,0)):=mB;rw[Lib.cell_of_heap this];rfl
 have Ig:(Builtin.unsafeSliceData_ #[96] 217 #[.slice (aY ⟨g,0,bh⟩) l.length cap]).run bj w.drew=.ok (.pointer (aY ⟨g,0,bh⟩)) w.drew:=Lib.run_unsafeSliceData_row _ _ _ _ _ _ ab
 have hUS:(Builtin.unsafeString_ #[217,3] 9 #[.pointer (aY ⟨g,0,bh⟩),.int .i64 l.length]).run bj w.drew=.ok (.string ⟨l.toArray⟩) (w.drew.freeze ⟨g,0,bh⟩ l.length):=by refine Lib.run_unsafeString_row w.drew 217 3 9 5 ff zAa g cur.size (by have l9:w.drew.heap[g]?=aY (.cells cur 5 fz):=hg;simp[World.shape?,l9]) l h0 ab (by unfold maxLen at y1;omega) ?_;intro j x hx;exact mT.cells (g:=g) rfl j (.int .u8 x.toNat) (by simp[Lib.byteCells,hx])
 have aeh:Lib.IsBuilderF T 5 0 b (Lib.byteCells l) (w.drew.freeze ⟨g,0,bh⟩ l.length):=by
  have hA:Lib.BuilderAtF T 5 0 b p (Lib.byteCells l) w.drew:=⟨hB,_,mB,by rw[Lib.byteCells_length];exact mT,lE⟩
  have hF:=hA.froze (g:=g) (cap:=cap) (by rw[Lib.byteCells_length];exact c1);rw[Lib.byteCells_length]at hF
  rcases hp with rfl|rfl
  .exact .inl hF
  .exact .inr hF
 have EL:b≠g:=λe=>lE (by simp[Value.ownBlock,e])
 have Xf:∀k,k≠g->(w.drew.freeze ⟨g,0,bh⟩ l.length).heap[k]?=w.heap[k]?:=λk hk=>by
  unfold World.freeze;split
  .rfl
  .simp only[dp];rw[aN (λe=>hk e.symm)];rfl
 have aes:Vf b w (w.drew.freeze ⟨g,0,bh⟩ l.length):=QR mB ((Xf b EL).trans mB) (by unfold World.freeze;split<;>rfl) (by unfold World.freeze;split<;>rfl) (by unfold World.freeze;split<;>rfl) (by unfold World.freeze;split;exact er _;exact gR Array.size_modify.symm) (λk _ _ hk=>Xf k λe=>hk (by simp[Value.ownBlock,e])) λg' l9 _=>by
  simp only[Value.ownBlock,Option.some.injEq]at l9;subst l9;have l9:w.drew.heap[g]?=aY (.cells cur 5 fz):=hg;unfold World.freeze;split
  .exact⟨_,_,_,l9⟩
  .simp only[dp,if_true,l9,cP];exact⟨_,_,_,rfl⟩
 have mixed:=FY
 go_enter Tryz.func37,Tryz.ntmps37
 go_wp2
 go_region_o
 all_goals (go_wp2;go_ret;exact⟨rfl,aeh,aes⟩)
set_option maxHeartbeats 2000000 in
set_option maxRecDepth 100000 in
theorem zff{T:bu}(b:Nat)(w:bG)(h:Lib.IsBuilderF T 5 0 b [] w):
  Calls bj 37 #[.pointer (aY ⟨b,0,bh⟩)] w λe w'=>e=.returned (.string ⟨#[]⟩)/\Lib.IsBuilderF T 5 0 b [] w'/\Vf b w w':=by
 have hUS:=zv0
 obtain⟨p,hp,hA⟩:∃p,(p=.pointer bh∨p=.pointer (aY ⟨b,0,bh⟩))/\Lib.BuilderAtF T 5 0 b p [] w:=by
  rcases h with h|h
  .exact⟨_,.inl rfl,h⟩
  .exact⟨_,.inr rfl,h⟩
 have iB:=hA.lt;have H_:=hA;obtain⟨hB,v,mB,mT,lE⟩:=hA
 have fin:∀w',Lib.BuilderAtF T 5 0 b p [] w'->Lib.IsBuilderF T 5 0 b [] w':=λw' hk=>by
  rcases hp with rfl|rfl
  .exact .inl hk
  .exact .inr hk
 rcases mT.2 with⟨rfl,_⟩|⟨g,cap,cur,fz,rfl,EL,hg,_,_,_,_,_⟩
 .have c1:w.drew.cell? ⟨b,1,bh⟩=aY (.slice bh 0 0):=by have:w.drew.heap[b]?=aY (.cells #[p,.slice bh 0 0] T (0,0)):=mB;rw[Lib.cell_of_heap this];rfl
  have Ig:(Builtin.unsafeSliceData_ #[96] 217 #[.slice bh 0 0]).run bj w.drew=.ok (.pointer bh) w.drew:=rfl;have hf:Lib.IsBuilderF T 5 0 b [] w.drew:=fin _ H_
  have ht:Vf b w w.drew:=QR mB mB rfl rfl rfl al (λ_ _ _ _=>rfl) λg' l9 _=>(by cases l9)
  have mixed:=FY
  go_enter Tryz.func37,Tryz.ntmps37
  go_wp2
  go_region_o
  all_goals (go_wp2;go_ret;exact⟨rfl,hf,ht⟩)
 .by_cases nJ:cap=0
  .subst nJ
   have c1:w.drew.cell? ⟨b,1,bh⟩=aY (.slice (aY ⟨g,0,bh⟩) 0 0):=by have:w.drew.heap[b]?=aY (.cells #[p,.slice (aY ⟨g,0,bh⟩) 0 0] T (0,0)):=mB;rw[Lib.cell_of_heap this];rfl
   have Ig:(Builtin.unsafeSliceData_ #[96] 217 #[.slice (aY ⟨g,0,bh⟩) 0 0]).run bj w.drew=.ok (.pointer (aY ⟨w.drew.heap.size,0,bh⟩)) (w.drew.alloc (.view ⟨g,0,bh⟩ 5)):=
    Lib.run_unsafeSliceData_zero w.drew _ _ 5 ff ⟨g,0,bh⟩ 0 (5,cur.size) (by have l9:w.drew.heap[g]?=aY (.cells cur 5 fz):=hg;simp[World.shape?,l9])
   have c2:(w.drew.alloc (.view ⟨g,0,bh⟩ 5)).cell? ⟨b,1,bh⟩=aY (.slice (aY ⟨g,0,bh⟩) 0 0):=by have:(w.drew.alloc (.view ⟨g,0,bh⟩ 5)).heap[b]?=_:=(Lib.alloc_old w.drew _ b iB).trans mB;rw[Lib.cell_of_heap this];rfl
   have c3:(w.alloc (.view ⟨g,0,bh⟩ 5)).drew.cell? ⟨b,1,bh⟩=aY (.slice (aY ⟨g,0,bh⟩) 0 0):=c2;have c0:w.cell? ⟨b,1,bh⟩=aY (.slice (aY ⟨g,0,bh⟩) 0 0):=c1;have hf:Lib.IsBuilderF T 5 0 b [] (w.drew.alloc (.view ⟨g,0,bh⟩ 5)):=fin _ (H_.drew.alloc _)
   have ht:Vf b w (w.drew.alloc (.view ⟨g,0,bh⟩ 5)):=QR mB ((Lib.alloc_old w.drew _ b iB).trans mB) rfl rfl rfl (Nat.le_of_lt (by rw[show(w.drew.alloc (.view ⟨g,0,bh⟩ 5)).heap.size=w.drew.heap.size+1 from by simp];exact fE _)) (λk hk _ _=>Lib.alloc_old w.drew _ k hk) λg' l9 _=>by simp only[Value.ownBlock,Option.some.injEq]at l9;subst l9;exact⟨_,_,_,(Lib.alloc_old w.drew _ g (bP.1 hg).1).trans hg⟩
   have mixed:=FY
   go_enter Tryz.func37,Tryz.ntmps37
   go_wp2
   go_region_o
   all_goals (go_wp2;go_ret;exact⟨rfl,hf,ht⟩)
  .have c1:w.drew.cell? ⟨b,1,bh⟩=aY (.slice (aY ⟨g,0,bh⟩) 0 cap):=by have:w.drew.heap[b]?=aY (.cells #[p,.slice (aY ⟨g,0,bh⟩) 0 cap] T (0,0)):=mB;rw[Lib.cell_of_heap this];rfl
   have Ig:(Builtin.unsafeSliceData_ #[96] 217 #[.slice (aY ⟨g,0,bh⟩) 0 cap]).run bj w.drew=.ok (.pointer (aY ⟨g,0,bh⟩)) w.drew:=Lib.run_unsafeSliceData_row _ _ _ _ _ _ nJ;clear nJ;have hf:Lib.IsBuilderF T 5 0 b [] w.drew:=fin _ H_
   have ht:Vf b w w.drew:=QR mB mB rfl rfl rfl al (λ_ _ _ _=>rfl) λg' l9 _=>(by
    simp only[Value.ownBlock,Option.some.injEq]at l9;subst l9
    exact⟨_,_,_,hg⟩)
   have mixed:=FY
   go_enter Tryz.func37,Tryz.ntmps37
   go_wp2
   go_region_o
   all_goals (go_wp2;go_ret;exact⟨rfl,hf,ht⟩)
def zjr{T:bu}(b:Nat)(l:aj)(w:bG)(h:Lib.IsBuilderF T 5 0 b (Lib.byteCells l) w):
  Calls bj 37 #[.pointer (aY ⟨b,0,bh⟩)] w λe w'=>e=.returned (.string ⟨l.toArray⟩)/\Lib.IsBuilderF T 5 0 b (Lib.byteCells l) w'/\Vf b w w':=by
 cases l with
 |nil=>exact zff b w h
 |cons x r=>exact zfe b (x::r) w h ae
end Go.Proofs.YtkmjhipiiifekaaGreatDoor
namespace Go.lA
open Go Go.RowKit
abbrev ye:=Nat->bw
def ra(ρ:ye)(d:Nat)(v:bw):ye:=λt=>bif bk t d then v else ρ t
abbrev Yb:=Exit->ye->List ca->bG->Prop
def ev(ρ:ye):bE->bw
 |.tmp t=>ρ t
 |.const v=>v
 |.global g=>.pointer (aY ⟨g,0,bh⟩)
 |.func f=>.func (.func f) #[] #[]
structure nG(N:Nat)(ds:List ca)(a:Act)(ρ:ye):Prop where
 size:a.tmps.size=N
 defs:a.defers=ds
 get:∀t,a.tmps.getD t undef=ρ t
def nG.eval{N:Nat}{ds:List ca}{a:Act}{ρ:ye}(h:nG N ds a ρ):a.eval=ev ρ:=by
 funext x
 cases x with
 |tmp t=>exact h.get t
 |const v=>rfl
 |global g=>rfl
 |func f=>rfl
def nG.put{N:Nat}{ds:List ca}{a:Act}{ρ:ye}(h:nG N ds a ρ){d:Nat}(hd:d<N)(v:bw):nG N ds (a.put (aY d) v) (ra ρ d v):=by
 refine⟨by simp[Act.put,h.size],h.defs,λt=>?_⟩;simp only[Act.put,ra];by_cases IP:t=d
 .subst IP;simp[cB,cl,h.size,hd]
 .have hb:bk t d=bf:=by
   cases hx:bk t d with
   |false=>rfl
   |true=>exact aQ (eb hx) IP
  rw[hb,cf,<- h.get t];simp[cB,Array.getElem?_setIfInBounds_ne (Ne.symm IP)]
def nG.Es{N:Nat}{ds:List ca}{a:Act}{ρ:ye}(h:nG N ds a ρ)(v:bw):nG N ds (a.put bh v) ρ:=h
def Fw(r:Option Nat):Fence:={ fn:=λ_=>True,depth:=bh,alive:=bf,round:=r }
def Kh{n:Nat}{P:bl}{f:FuncId}{args:Array bw}{w:bG}{R:Ending->bG->Prop}(r:Option Nat)(h:Calls P f args w R):CallsIn (Fw r) n P f args w R:=(callsIn_wide (n:=n)).2 h
def lift(N:Nat)(Q:Yb):Exit->Act->bG->Prop:=λe a w=>∃ρ ds,nG N ds a ρ/\Q e ρ ds w
def zmb{N:Nat}{Q Q':Yb}(h:∀e ρ ds w,Q e ρ ds w->Q' e ρ ds w){e:Exit}{a:Act}{w:bG}:lift N Q e a w->lift N Q' e a w:=λ⟨ρ,ds,hf,hq⟩=>⟨ρ,ds,hf,h _ _ _ _ hq⟩
def Wp(P:bl)(r:Option Nat)(N:Nat)(c:Code)(Q:Yb)(ρ:ye)(ds:List ca)(w:bG):Prop:=∀a n,nG N ds a ρ->c.wpIn (Fw r) n P (lift N Q) a w
def andThen(K:ye->List ca->bG->Prop)(Q:Yb):Yb
 |.normal,ρ,ds,w=>K ρ ds w
 |e,ρ,ds,w=>Q e ρ ds w
def Mw(id:Nat)(Q:Yb):Yb
 |.exit i,ρ,ds,w=>if i=id then Q .normal ρ ds w else Q (.exit i) ρ ds w
 |e,ρ,ds,w=>Q e ρ ds w
section
variable{P:bl}{r:Option Nat}{N:Nat}{Q:Yb}{ρ:ye}{ds:List ca}{w:bG}
def FZ{c:Code}{Q':Yb}(h:Wp P r N c Q ρ ds w)(hq:∀e ρ ds w,Q e ρ ds w->Q' e ρ ds w):Wp P r N c Q' ρ ds w:=λa n hf=>wpIn_mono (h a n hf) λ_ _ _=>zmb hq
def zAb(h:Q .normal ρ ds w):Wp P r N .skip Q ρ ds w:=λ_ _ hf=>wpIn_skip ⟨_,_,hf,h⟩
def zAc{id:Nat}(h:Q (.exit id) ρ ds w):Wp P r N (.exit id) Q ρ ds w:=λ_ _ hf=>wpIn_exit ⟨_,_,hf,h⟩
def aeV(h:Q .ret ρ ds w):Wp P r N .ret Q ρ ds w:=λ_ _ hf=>wpIn_ret ⟨_,_,hf,h⟩
def aeW{x y:Code}(h:Wp P r N x (andThen (λρ ds w=>Wp P r N y Q ρ ds w) Q) ρ ds w):Wp P r N (.seq x y) Q ρ ds w:=
 λa n hf=>wpIn_seq (wpIn_mono (h a n hf) λe a' w' hq=>by
  obtain⟨ρ',mE,m_,l_⟩:=hq
  cases e with
  |normal=>exact l_ a' n m_
  |exit id=>exact⟨ρ',mE,m_,l_⟩
  |goto l=>exact⟨ρ',mE,m_,l_⟩
  |ret=>exact⟨ρ',mE,m_,l_⟩
  |panic ch=>exact⟨ρ',mE,m_,l_⟩
  |outgrown=>exact⟨ρ',mE,m_,l_⟩)
def zAd{c:bE}{x y:Code}(t:Bool)(hc:ev ρ c=.bool t)(h1:t=bg->Wp P r N x Q ρ ds w)(h2:t=bf->Wp P r N y Q ρ ds w):Wp P r N (.cond c x y) Q ρ ds w:=λa n hf=>wpIn_cond_split (by rw[hf.eval];exact hc) (λht=>h1 ht a n hf) (λht=>h2 ht a n hf)
def zv2{id:Nat}{c:Code}(h:Wp P r N c (Mw id Q) ρ ds w):Wp P r N (.block id c) Q ρ ds w:=
 λa n hf=>wpIn_block (wpIn_mono (h a n hf) λe a' w' hq=>by
  obtain⟨ρ',mE,m_,l_⟩:=hq
  cases e with
  |exit i =>
   simp only[Mw]at l_;simp only[Exit.inBlock];split
   .rename_i he;rw[aO he]at l_;exact⟨ρ',mE,m_,l_⟩
   .rename_i he;rw[aN he]at l_;exact⟨ρ',mE,m_,l_⟩
  |normal=>exact⟨ρ',mE,m_,l_⟩
  |goto l=>exact⟨ρ',mE,m_,l_⟩
  |ret=>exact⟨ρ',mE,m_,l_⟩
  |panic ch=>exact⟨ρ',mE,m_,l_⟩
  |outgrown=>exact⟨ρ',mE,m_,l_⟩)
def least(p:Nat->Prop):∀n,p n->∃m,p m/\∀k,k<m->¬p k:=by
 intro n
 induction n using Nat.strongRecOn with
 |_ n ih =>
  intro h;by_cases hk:∃k,k<n/\p k
  .obtain⟨k,ID,sN⟩:=hk;exact ih k ID sN
  .exact⟨n,h,λk ID sN=>hk ⟨k,ID,sN⟩⟩
def gv(all:List Oper)(ρ:ye)(j:Nat):Option Bool:=
 match (all[j]?).bind (·.dst)with
 |some d=>match ρ d with|.bool b=>aY b|_=>bh
 |none=>bh
def wanted(all:List Oper)(ρ:ye)(o:Oper):Bool:=
 match o.guard with
 |none=>bg
 |some (j,want)=>gv all ρ j==aY want
def nG.yielded{a:Act}(hf:nG N ds a ρ)(all:List Oper)(j:Nat):Go.yielded all.toArray a.tmps j=gv all ρ j:=by
 unfold Go.yielded gv;simp only[eD]
 cases h:(all[j]?).bind (·.dst)with
 |none=>rfl
 |some d =>
  simp only[aH];have hg:=hf.get d;rw[cB]at hg
  cases hx:a.tmps[d]? with
  |none=>rw[hx]at hg;rw[<- hg];rfl
  |some v=>rw[hx]at hg;rw[<- hg];cases v<;>rfl
def nG.wanted{a:Act}(hf:nG N ds a ρ)(all:List Oper)(o:Oper):Region.wanted o (Go.yielded all.toArray a.tmps)=wanted all ρ o:=by
 unfold Region.wanted lA.wanted
 cases o.guard with
 |none=>rfl
 |some p=>simp only[hf.yielded all]
def pE(P:bl)(r:Option Nat)(N:Nat)(all:List Oper)(Q:Yb)(l:List Oper)(ρ:ye)(ds:List ca)(w:bG):Prop:=∀a n,nG N ds a ρ->wpListIn (Fw r) n P all.toArray (lift N Q) l a w
def zr2{id:Nat}{l:List Oper}(h:pE P r N l Q l ρ ds w):Wp P r N (.region id l.toArray bf) Q ρ ds w:=λa n hf=>wpIn_region_lit (h a n hf)
def j6:Op->Bool|.defer _=>bf|_=>bg
def Ji{o:Oper}(h:j6 o.op=bg)(ρ:bE->bw)(ro:Option Nat):o.semAt ro ρ=bU ρ o:=Oper.semAt_eq ro ρ o (λc hc=>by rw[hc]at h;cases h)
section
variable{all rest:List Oper}{o:Oper}
def zv3(h:Q .normal ρ ds w):pE P r N all Q [] ρ ds w:=λ_ _ hf=>⟨_,_,hf,h⟩
def zr3(d:Nat)(hd:o.dst=aY d)(hN:ck (d+1) N=bg)(hw:wanted all ρ o=bf)(h:pE P r N all Q rest (ra ρ d undef) ds w):pE P r N all Q (o::rest) ρ ds w:=by intro a n hf;have o_:=(hf.wanted all o).trans hw;simp only[wpListIn,o_,cu,if_false];exact⟨λ_ _=>trivial,h _ n (by rw[hd];exact hf.put (lR hN) _)⟩
def zmc(hd:o.dst=bh)(hw:wanted all ρ o=bf)(h:pE P r N all Q rest ρ ds w):pE P r N all Q (o::rest) ρ ds w:=by intro a n hf;have o_:=(hf.wanted all o).trans hw;simp only[wpListIn,o_,cu,if_false];exact⟨λ_ _=>trivial,h _ n (by rw[hd];exact hf.Es _)⟩
def TE(d:Nat)(v:bw){w':bG}(hd:o.dst=aY d)(hN:ck (d+1) N=bg)(hw:wanted all ρ o=bg)(hn:j6 o.op=bg)
  (hr:(bU (ev ρ) o).run P w=.ok (.value v) w') (h:pE P r N all Q rest (ra ρ d v) ds w'):pE P r N all Q (o::rest) ρ ds w:=by intro a n hf;have o_:=(hf.wanted all o).trans hw;simp only[wpListIn,o_,if_true];refine⟨λ_ _=>trivial,?_⟩;rw[Ji hn,hf.eval,hr,Oper.uponIn_value,hd];exact h _ n (hf.put (lR hN) _)
def zme(d:Nat){w':bG}{f:FuncId}{args:Array bw}{R:Ending->bG->Prop}(hd:o.dst=aY d)(hN:ck (d+1) N=bg)(hw:wanted all ρ o=bg)(hn:j6 o.op=bg)
  (hr:(bU (ev ρ) o).run P w=.ok (.enter f args) w') (hc:Calls P f args w' R)
  (h:∀e sq,R e sq->∃v,e=.returned v/\pE P r N all Q rest (ra ρ d v) ds sq):pE P r N all Q (o::rest) ρ ds w:=by intro a n hf;have o_:=(hf.wanted all o).trans hw;simp only[wpListIn,o_,if_true];refine⟨λ_ _=>trivial,?_⟩;rw[Ji hn,hf.eval,hr,Oper.uponIn_enter];refine⟨λhx=>by simp[Fw]at hx,(Kh r hc).mono λe sq hR=>?_⟩;obtain⟨v,rfl,hk⟩:=h e sq hR;rw[hd];exact hk _ n (hf.put (lR hN) _)
end
end
def Yx(ops:Array Oper)(listed:Array Bool):Prop:=∀j o,listed.getD j bf=bg->ops[j]?=aY o->∀e∈o.after,Region.binds .any e=bg->listed.getD e.on bf=bg
def Yx.set{ops:Array Oper}{listed:Array Bool}{i:Nat}(h:Yx ops listed)(hr:i∈Region.ready .any ops listed):Yx ops (listed.setIfInBounds i bg):=by
 intro j o hj ho e he hb;refine getD_set_true ?_;by_cases OF:i=j
 .subst OF;obtain⟨_,o',zz,pU⟩:=mem_ready.1 hr;rw[ho]at zz;cases zz;exact pU e he hb
 .rw[getD_set_ne bf OF]at hj;exact h j o hj ho e he hb
section
variable{P:bl}{r:Option Nat}{n:Nat}{ops:Array Oper}{jl:Nat}{S T:bG->Prop}{Q:Exit->Act->bG->Prop}
end
section
variable{P:bl}{r:Option Nat}{N:Nat}{Q:Yb}{ρ:ye}{ds:List ca}{w:bG}{all:List Oper}{jl:Nat}{S:bG->Prop}{K:ye->List ca->bG->Prop}
end
section
inductive Own where
 |gT (b:Nat) (cs:List bw) (t:bu)
 |row (e k:Nat) (v:bw) (xs:List (List bw))
 |obj (b:Nat) (o:Obj)
 |afM (W:bG)
variable{W0 w w':bG}{L:List Own}{x x' y:Own}
variable{a b c d e f g i:Own}
end
def DK:TypeDesc->Bool|.struct _=>bf|.array _ _=>bf|_=>bg
def MZ(P:bl)(t:bu):Prop:=∃d i,P.underlying t=aY d/\DK d=bg/\P.info? t=aY i/\i.size=1
def MX(P:bl)(t:bu)(k:Nat):Prop:=∃d i,P.underlying t=aY d/\DK d=bf/\P.info? t=aY i/\i.size=k
section
variable{P:bl}{ρ:ye}{w:bG}{dst:Option Tmp}{ty:bu}{pos:String}{aft:Array Edge}{gd:Option (Nat×Bool)}
def vT{t:bu}(h:MZ P t):(isAgg t).run P w=.ok bf w:=by obtain⟨d,_,hd,hs,_⟩:=h;unfold isAgg;cases d<;>simp[run_underlying hd,DK]at hs ⊢
def uO{t k:bu}(h:MX P t k):(isAgg t).run P w=.ok bg w:=by obtain⟨d,i,hd,hs,_⟩:=h;unfold isAgg;cases d<;>simp[run_underlying hd,DK]at hs ⊢
def uP{t:bu}{x:bE}{p:Addr}{v:bw}(hs:MZ P t)(ha:ev ρ x=.pointer (aY p))(hc:w.cell? p=aY v):
  (bU (ev ρ) ⟨dst,.load t x,ty,pos,aft,gd⟩).run P w=.ok (.value v) w:=by simp[bU,Instr.loadAt,ha,Instr.sureAddr,loadVar,vT hs,load,Sem.run,hc]
def qq{t:bu}{x:bE}{p:Addr}{k:Nat}(cs:List bw)(hs:MX P t k)(ha:ev ρ x=.pointer (aY p))(hl:cs.length=k)
  (hc:∀j u,cs[j]?=aY u->w.cell? (p.add j)=aY u):
  (bU (ev ρ) ⟨dst,.load t x,ty,pos,aft,gd⟩).run P w=.ok (.value (.agg cs.toArray)) w:=by obtain⟨d,i,hd,_,hi,hk⟩:=id hs;subst hl;simp[bU,Instr.loadAt,ha,Instr.sureAddr,loadVar,uO hs,sizeOf,typeInfo,hi,hk,run_loadCells_list w p cs hc]
end
abbrev str(l:aj):bw:=.string ⟨l.toArray⟩
abbrev i64(n:Int):bw:=.int .i64 n
section
variable{P:bl}{ρ:ye}{w:bG}{dst:Option Tmp}{ty:bu}{pos:String}{aft:Array Edge}{gd:Option (Nat×Bool)}
def L1(P:bl)(s f off:Nat):Prop:=∃fs nH i,P.underlying s=aY (.struct fs)/\fs[f]?=aY nH/\nH.offset=off/\P.info? nH.type=aY i/\i.size≠0
def Jj{s f off:Nat}{x:bE}{p:Addr}(hf:L1 P s f off)(ha:ev ρ x=.pointer (aY p)):
  (bU (ev ρ) ⟨dst,.fieldAddr s x f,ty,pos,aft,gd⟩).run P w=.ok (.value (.pointer (aY (p.add off)))) w:=by obtain⟨fs,nH,i,h1,h2,h3,h4,h5⟩:=hf;subst h3;simp[bU,Instr.fieldAt,run_underlying h1,h2,ha,Instr.sureAddr,fieldPlace,sizeOf,typeInfo,h4,h5]
def zv4(b o n:Nat):(⟨b,o,bh⟩:Addr).add n=⟨b,o+n,bh⟩:=Addr.add_lit b o n
def Ki{s f off:Nat}{x:bE}{b o o':Nat}(hf:L1 P s f off)(ho:o+off=o')(ha:ev ρ x=.pointer (aY ⟨b,o,bh⟩)):
  (bU (ev ρ) ⟨dst,.fieldAddr s x f,ty,pos,aft,gd⟩).run P w=.ok (.value (.pointer (aY ⟨b,o',bh⟩))) w:=by subst ho;rw[<- zv4];exact Jj hf ha
def zfg{t:bu}{x:bE}{s:aj}(ht:P.underlying t=aY .string)(ha:ev ρ x=str s):
  (bU (ev ρ) ⟨dst,.call ⟨.builtin .len,#[x],#[t]⟩,ty,pos,aft,gd⟩).run P w=.ok (.value (i64 s.length)) w:=by
 have hs:(⟨s.toArray⟩:ByteArray).size=s.length:=by show s.toArray.size=_;simp
 simp[bU,resolve,invoke,builtin,ha,Builtin.len_,run_underlying ht,goInt,hs]
def Yc{t e:bu}{x:bE}{A:Option Addr}{n c:Nat}(ht:P.underlying t=aY (.slice e))(ha:ev ρ x=.slice A n c):
  (bU (ev ρ) ⟨dst,.call ⟨.builtin .len,#[x],#[t]⟩,ty,pos,aft,gd⟩).run P w=.ok (.value (i64 n)) w:=by simp[bU,resolve,invoke,builtin,ha,Builtin.len_,run_underlying ht,goInt]
def ZC{t t':bu}{x y:bE}{a b:Bool}(ht:P.underlying t=aY .bool)(ha:ev ρ x=.bool a)(hb:ev ρ y=.bool b):
  (bU (ev ρ) ⟨dst,.binOp .eql t x y t',ty,pos,aft,gd⟩).run P w=.ok (.value (.bool (a==b))) w:=by simp[bU,ha,hb,run_eql_bool _ _ _ _ ht,eqGuard]
def ZD{t t':bu}{x y:bE}{a b:Bool}(ht:P.underlying t=aY .bool)(ha:ev ρ x=.bool a)(hb:ev ρ y=.bool b):
  (bU (ev ρ) ⟨dst,.binOp .neq t x y t',ty,pos,aft,gd⟩).run P w=.ok (.value (.bool (!(a==b)))) w:=by simp[bU,ha,hb,run_neq_bool _ _ _ _ ht,eqGuard]
end
def zmg{a:Int}(h1:-9223372036854775808<=a)(h2:a<=9223372036854775807):IntKind.i64.wrap a=a:=by rw[IntKind.wrap_i64];omega
section
variable{P:bl}{r:Option Nat}{N:Nat}{Q:Yb}{ρ:ye}{ds:List ca}{w W0:bG}{L:List Own}
variable{all rest:List Oper}{ty:bu}{pos:String}{aft:Array Edge}{gd:Option (Nat×Bool)}
def zb (P : bl) (f : FuncId) : Prop := ∃ fn, P.funcs[f]? = aY fn /\ (fn.name == "runtime.NumGoroutine") = bf /\ fn.body.isNone = bf
def zr4{d:Option Tmp}{f:FuncId}{l:List bE}{ts:Array bu}(vs:List bw)(hf:zb P f)(ha:l.map (ev ρ)=vs):
  (bU (ev ρ) ⟨d,.call ⟨.value (.func f),l.toArray,ts⟩,ty,pos,aft,gd⟩).run P w=.ok (.enter f vs.toArray) w:=by
 obtain⟨fn,h1,h2,h3⟩:=hf;subst ha
 have sH : ¬ fn.name = "runtime.NumGoroutine" := by simpa using h2
 have sI:¬fn.body=bh:=by intro e;rw[e]at h3;cases h3
 simp[bU,resolve,ev,Deferred.ofValue,invoke,callFunc,program,Sem.run,h1,sH,sI]
def ZE(l:List bw):ye:=λt=>l.getD t undef
section
variable{fn:Func}{afj:bw->bG->Prop}
end
end
end Go.lA
namespace Go.EV
open Go Go.RowKit Go.lA
structure MY where
 rep:(Nat->Option (Nat×Nat))->bw->Prop
 mono:∀mk mk' x,(∀L loc,mk L=aY loc->mk' L=aY loc)->rep mk x->rep mk' x
 one:∀mk x,rep mk x->x.oneCell'=bg/\x.cells.toList=[x]
def Nx(sz n:Nat):MY where
 rep:=λmk x=>∃loc,mk n=aY loc/\n<=loc.2/\loc.2<=maxLen/\((n≠0/\x=.slice (aY ⟨loc.1,0*sz,bh⟩) n (loc.2-0))∨(n=0/\loc.2=0/\x=.slice bh 0 0))
 mono:=λmk mk' x hm ⟨loc,h1,h2⟩=>⟨loc,hm n loc h1,h2⟩
 one:=λmk x h=>by obtain⟨loc,_,_,_,⟨_,rfl⟩|⟨_,_,rfl⟩⟩:=h<;>exact⟨rfl,rfl⟩
structure abI where
 rep:(Addr->Option bw)->bw->Prop
 mono:∀Z Z' x,(∀a x,Z a=aY x->Z' a=aY x)->rep Z x->rep Z' x
 one:∀Z x,rep Z x->x.oneCell'=bg/\x.cells.toList=[x]
inductive V where
 |undef
 |no
 |int (k:IntKind) (n:Int)
 |bool (b:Bool)
 |str (l:aj)
 |lF
 |ptr (k L off:Nat)
 |vp (cs:List V) (off:Nat)
 |iO
 |sl (sz k L o n:Nat)
 |vs (sz:Nat) (els:List (List V))
 |fn (f:Nat) (first ml:List V)
 |lZ
 |agg (cs:List V)
 |ij (xs:List V)
 |lP
 |mp (k:Nat)
 |mn
 |lN (t:Nat) (v:V)
 |gv (k:Nat) (R:MY)
 |pv (R:abI)
 deriving Inhabited
abbrev M:=Nat->Nat->Option (Nat×Nat)
abbrev ZM:=Addr->Option bw
mutual
def dQ(m:Option M)(Z:ZM):V->bw->Prop
 |.undef,_=>True
 |.no,x=>x=Go.undef
 |.int k n,x=>x=.int k n
 |.bool b,x=>x=.bool b
 |.str l,x=>x=.string ⟨l.toArray⟩
 |.lF,x=>x=.pointer bh
 |.ptr k L off,x=>∃f loc,m=aY f/\f k L=aY loc/\x=.pointer (aY ⟨loc.1,off,bh⟩)
 |.vp cs off,x=>∃a:Addr,x=.pointer (aY (a.add off))/\qJ Z a 0 cs
 |.iO,x=>x=.slice bh 0 0
 |.sl sz k L o n,x=>∃f loc,m=aY f/\f k L=aY loc/\o+n<=loc.2/\loc.2<=maxLen/\(x=.slice (aY ⟨loc.1,o*sz,bh⟩) n (loc.2-o)∨(loc.2=0/\∃A,x=.slice A 0 0)∨(0<o/\n=0/\∃A c,x=.slice A 0 c/\c<=maxLen))
 |.vs sz els,x=>∃A c,x=.slice A els.length c/\els.length<=c/\c<=maxLen/\(els=[]∨∃a,A=aY a/\yT Z a sz 0 els)
 |.fn f first ml,x=>∃l1 l2:List bw,x=.func (.func f) l1.toArray l2.toArray/\zu m Z first l1/\zu m Z ml l2
 |.lZ,x=>x=.nilFunc
 |.agg cs,x=>∃l:List bw,x=.agg l.toArray/\zu m Z cs l
 |.ij xs,x=>∃l:List bw,x=.tuple l.toArray/\zu m Z xs l
 |.lP,x=>x=.map bh
 |.mp k,x=>∃f loc,m=aY f/\f k 0=aY loc/\x=.map (aY loc.1)
 |.mn,x=>x=.nilIface
 |.lN t v,x=>∃y,x=.iface t y/\dQ m Z v y
 |.gv k R,x=>∃f,m=aY f/\R.rep (f k) x
 |.pv R,x=>R.rep Z x
def zu(m:Option M)(Z:ZM):List V->List bw->Prop
 |[],l=>l=[]
 |v::vs,l=>∃x xs,l=x::xs/\dQ m Z v x/\zu m Z vs xs
/-- The cells at a, from number j on, read asZ these. -/
def qJ(Z:ZM)(a:Addr):Nat->List V->Prop
 |_,[]=>True
 |j,v::vs=>(∃x,Z (a.add j)=aY x/\dQ bh Z v x)/\qJ Z a (j+1) vs
def yT(Z:ZM)(a:Addr)(sz:Nat):Nat->List (List V)->Prop
 |_,[]=>True
 |i,cs::r=>(cs.length=sz/\qJ Z (a.add (i*sz)) 0 cs)/\yT Z a sz (i+1) r
end
mutual
/-- The names that a value holds. -/
def V.refs:V->List Nat
 |.ptr k _ _=>[k]
 |.sl _ k _ _ _=>[k]
 |.mp k=>[k]
 |.fn _ first ml=>y8 first++y8 ml
 |.agg cs=>y8 cs
 |.ij xs=>y8 xs
 |.lN _ v=>v.refs
 |.gv k _=>[k]
 |_=>[]
def y8:List V->List Nat
 |[]=>[]
 |v::vs=>v.refs++y8 vs
end
mutual
def V.gz(f:Nat->Nat):V->V
 |.ptr k L off=>.ptr (f k) L off
 |.sl sz k L o n=>.sl sz (f k) L o n
 |.mp k=>.mp (f k)
 |.fn g first ml=>.fn g (ZF f first) (ZF f ml)
 |.agg cs=>.agg (ZF f cs)
 |.ij xs=>.ij (ZF f xs)
 |.lN t v=>.lN t (v.gz f)
 |.gv k R=>.gv (f k) R
 |v=>v
def ZF(f:Nat->Nat):List V->List V
 |[]=>[]
 |v::vs=>v.gz f::ZF f vs
end
section
variable{m m':Option M}{Z Z':ZM}
mutual
def dQ.ny(hZ:∀a x,Z a=aY x->Z' a=aY x):
  ∀(v:V)(m m':Option M)(_:∀f,m=aY f->∃f',m'=aY f'/\∀k L loc,f k L=aY loc->f' k L=aY loc)(x:bw),dQ m Z v x->dQ m' Z' v x
 |.undef,m,m',hm,x,h=>trivial
 |.no,m,m',hm,x,h=>h
 |.int k n,m,m',hm,x,h=>h
 |.bool b,m,m',hm,x,h=>h
 |.str l,m,m',hm,x,h=>h
 |.lF,m,m',hm,x,h=>h
 |.ptr k L off,m,m',hm,x,h=>by
  obtain⟨f,loc,h1,h2,h3⟩:=h;obtain⟨f',h4,h5⟩:=hm f h1;exact⟨f',loc,h4,h5 _ _ _ h2,h3⟩
 |.vp cs off,m,m',hm,x,h=>by
  obtain⟨a,h1,h2⟩:=h;exact⟨a,h1,qJ.ny hZ a cs 0 h2⟩
 |.iO,m,m',hm,x,h=>h
 |.sl sz k L o n,m,m',hm,x,h=>by
  obtain⟨f,loc,h1,h2,h3⟩:=h;obtain⟨f',h4,h5⟩:=hm f h1;exact⟨f',loc,h4,h5 _ _ _ h2,h3⟩
 |.vs sz els,m,m',hm,x,h=>by
  obtain⟨A,c,h1,h2,h3,h4⟩:=h;refine⟨A,c,h1,h2,h3,?_⟩
  rcases h4 with h4|⟨a,h4,h5⟩
  .exact .inl h4
  .exact .inr ⟨a,h4,yT.ny hZ a sz els 0 h5⟩
 |.fn f first ml,m,m',hm,x,h=>by
  obtain⟨l1,l2,h1,h2,h3⟩:=h;exact⟨l1,l2,h1,zu.ny hZ first m m' hm l1 h2,zu.ny hZ ml m m' hm l2 h3⟩
 |.lZ,m,m',hm,x,h=>h
 |.agg cs,m,m',hm,x,h=>by
  obtain⟨l,h1,h2⟩:=h;exact⟨l,h1,zu.ny hZ cs m m' hm l h2⟩
 |.ij xs,m,m',hm,x,h=>by
  obtain⟨l,h1,h2⟩:=h;exact⟨l,h1,zu.ny hZ xs m m' hm l h2⟩
 |.lP,m,m',hm,x,h=>h
 |.mp k,m,m',hm,x,h=>by
  obtain⟨f,loc,h1,h2,h3⟩:=h;obtain⟨f',h4,h5⟩:=hm f h1;exact⟨f',loc,h4,h5 _ _ _ h2,h3⟩
 |.mn,m,m',hm,x,h=>h
 |.lN t v,m,m',hm,x,h=>by
  obtain⟨y,h1,h2⟩:=h;exact⟨y,h1,dQ.ny hZ v m m' hm y h2⟩
 |.gv k R,m,m',hm,x,h=>by
  obtain⟨f,h1,h2⟩:=h;obtain⟨f',h4,h5⟩:=hm f h1;exact⟨f',h4,R.mono _ _ _ (h5 k) h2⟩
 |.pv R,m,m',hm,x,h=>R.mono _ _ _ hZ h
def zu.ny(hZ:∀a x,Z a=aY x->Z' a=aY x):
  ∀(vs:List V)(m m':Option M)(_:∀f,m=aY f->∃f',m'=aY f'/\∀k L loc,f k L=aY loc->f' k L=aY loc)(l:List bw),zu m Z vs l->zu m' Z' vs l
 |[],m,m',hm,l,h=>h
 |v::vs,m,m',hm,l,h=>by obtain⟨x,xs,h1,h2,h3⟩:=h;exact⟨x,xs,h1,dQ.ny hZ v m m' hm x h2,zu.ny hZ vs m m' hm xs h3⟩
def qJ.ny(hZ:∀a x,Z a=aY x->Z' a=aY x)(a:Addr):∀(vs:List V)(j:Nat),qJ Z a j vs->qJ Z' a j vs
 |[],_,_=>trivial
 |v::vs,j,h=>by obtain⟨⟨x,h1,h2⟩,h3⟩:=h;exact⟨⟨x,hZ _ _ h1,dQ.ny hZ v bh bh (λf hf=>by cases hf) x h2⟩,qJ.ny hZ a vs (j+1) h3⟩
def yT.ny(hZ:∀a x,Z a=aY x->Z' a=aY x)(a:Addr)(sz:Nat):∀(els:List (List V))(i:Nat),yT Z a sz i els->yT Z' a sz i els
 |[],_,_=>trivial
 |cs::r,i,h=>by obtain⟨⟨h1,h2⟩,h3⟩:=h;exact⟨⟨h1,qJ.ny hZ _ cs 0 h2⟩,yT.ny hZ a sz r (i+1) h3⟩
end
def dQ.up{v:V}{x:bw}(hZ:∀a x,Z a=aY x->Z' a=aY x)(hm:∀f,m=aY f->∃f',m'=aY f'/\∀k L loc,f k L=aY loc->f' k L=aY loc)(h:dQ m Z v x):dQ m' Z' v x:=dQ.ny hZ v m m' hm x h
def zu.up{v:List V}{x:List bw}(hZ:∀a x,Z a=aY x->Z' a=aY x)(hm:∀f,m=aY f->∃f',m'=aY f'/\∀k L loc,f k L=aY loc->f' k L=aY loc)(h:zu m Z v x):zu m' Z' v x:=zu.ny hZ v m m' hm x h
mutual
/-- The names are moved. -/
def dQ.gz{f f':M}(σ:Nat->Nat):∀(v:V)(x:bw),(∀k∈v.refs,∀L loc,f k L=aY loc->f' (σ k) L=aY loc)->dQ (aY f) Z v x->dQ (aY f') Z (v.gz σ) x
 |.undef,x,_,h=>trivial
 |.no,x,_,h=>h
 |.int k n,x,_,h=>h
 |.bool b,x,_,h=>h
 |.str l,x,_,h=>h
 |.lF,x,_,h=>h
 |.ptr k L off,x,hm,h=>by
  obtain⟨g,loc,h1,h2,h3⟩:=h;cases h1;exact⟨f',loc,rfl,hm k (by simp[V.refs]) _ _ h2,h3⟩
 |.vp cs off,x,_,h=>h
 |.iO,x,_,h=>h
 |.sl sz k L o n,x,hm,h=>by
  obtain⟨g,loc,h1,h2,h3⟩:=h;cases h1;exact⟨f',loc,rfl,hm k (by simp[V.refs]) _ _ h2,h3⟩
 |.vs sz els,x,_,h=>h
 |.fn g first ml,x,hm,h=>by
  obtain⟨l1,l2,h1,h2,h3⟩:=h;exact⟨l1,l2,h1,zu.gz σ first l1 (λk hk=>hm k (by simp[V.refs,hk])) h2,zu.gz σ ml l2 (λk hk=>hm k (by simp[V.refs,hk])) h3⟩
 |.lZ,x,_,h=>h
 |.agg cs,x,hm,h=>by
  obtain⟨l,h1,h2⟩:=h;exact⟨l,h1,zu.gz σ cs l (λk hk=>hm k (by simpa[V.refs]using hk)) h2⟩
 |.ij xs,x,hm,h=>by
  obtain⟨l,h1,h2⟩:=h;exact⟨l,h1,zu.gz σ xs l (λk hk=>hm k (by simpa[V.refs]using hk)) h2⟩
 |.lP,x,_,h=>h
 |.mp k,x,hm,h=>by
  obtain⟨g,loc,h1,h2,h3⟩:=h;cases h1;exact⟨f',loc,rfl,hm k (by simp[V.refs]) _ _ h2,h3⟩
 |.mn,x,_,h=>h
 |.lN t v,x,hm,h=>by
  obtain⟨y,h1,h2⟩:=h;exact⟨y,h1,dQ.gz σ v y (λk hk=>hm k (by simpa[V.refs]using hk)) h2⟩
 |.gv k R,x,hm,h=>by
  obtain⟨g,h1,h2⟩:=h;cases h1;exact⟨f',rfl,R.mono _ _ _ (hm k (by simp[V.refs])) h2⟩
 |.pv R,x,hm,h=>h
def zu.gz{f f':M}(σ:Nat->Nat):∀(vs:List V)(l:List bw),(∀k∈y8 vs,∀L loc,f k L=aY loc->f' (σ k) L=aY loc)->zu (aY f) Z vs l->zu (aY f') Z (ZF σ vs) l
 |[],l,_,h=>h
 |v::vs,l,hm,h=>by obtain⟨x,xs,h1,h2,h3⟩:=h;exact⟨x,xs,h1,dQ.gz σ v x (λk hk=>hm k (by simp[y8,hk])) h2,zu.gz σ vs xs (λk hk=>hm k (by simp[y8,hk])) h3⟩
end
mutual
def V.NP:∀v:V,v.gz id=v
 |.undef|.no|.int ..|.bool ..|.str ..|.lF|.ptr ..|.vp ..|.iO|.sl ..|.vs ..|.lZ|.lP|.mp ..|.mn|.gv ..|.pv ..=>rfl
 |.fn g first ml=>by simp only[V.gz,Kj first,Kj ml]
 |.agg cs=>by simp only[V.gz,Kj cs]
 |.ij xs=>by simp only[V.gz,Kj xs]
 |.lN t v=>by simp only[V.gz,V.NP v]
def Kj:∀vs:List V,ZF id vs=vs
 |[]=>rfl
 |v::vs=>by simp only[ZF,V.NP v,Kj vs]
end
def dQ.swap{f f':M}{v:V}{x:bw}(hm:∀k∈v.refs,∀L loc,f k L=aY loc->f' k L=aY loc)(h:dQ (aY f) Z v x):dQ (aY f') Z v x:=by
 have:=dQ.gz (f:=f) (f':=f') id v x hm h
 rwa [V.NP]at this
def zu.swap{f f':M}{vs:List V}{l:List bw}(hm:∀k∈y8 vs,∀L loc,f k L=aY loc->f' k L=aY loc)(h:zu (aY f) Z vs l):zu (aY f') Z vs l:=by
 have:=zu.gz (f:=f) (f':=f') id vs l hm h
 rwa [Kj]at this
def dQ.tV{v:V}{x:bw}(h:dQ bh Z v x):dQ m Z v x:=dQ.up (λ_ _ h=>h) (λf hf=>by cases hf) h
def zu.tV{vs:List V}{l:List bw}(h:zu bh Z vs l):zu m Z vs l:=zu.up (λ_ _ h=>h) (λf hf=>by cases hf) h
def zu.length:∀{vs:List V}{l:List bw},zu m Z vs l->l.length=vs.length
 |[],l,h=>by cases h;rfl
 |v::vs,l,h=>by obtain⟨x,xs,rfl,_,h3⟩:=h;simp[zu.length h3]
def zu.get:∀{vs:List V}{l:List bw},zu m Z vs l->∀{i:Nat}{v:V},vs[i]?=aY v->∃x,l[i]?=aY x/\dQ m Z v x
 |[],l,_,i,v,hv=>by simp at hv
 |u::vs,l,h,i,v,hv=>by
  obtain⟨x,xs,rfl,h2,h3⟩:=h
  cases i with
  |zero=>simp at hv;subst hv;exact⟨x,rfl,h2⟩
  |succ i=>exact zu.get h3 (i:=i) (by simpa using hv)
def zu.nu:∀{vs:List V}{l:List bw},l.length=vs.length->(∀(i:Nat)(v:V)(x:bw),vs[i]?=aY v->l[i]?=aY x->dQ m Z v x)->zu m Z vs l
 |[],l,hl,_=>bW (by simpa using hl)
 |v::vs,[],hl,_=>by simp at hl
 |v::vs,x::xs,hl,h=>⟨x,xs,rfl,h 0 v x rfl rfl,zu.nu (by simpa using hl) (λi u y hu hy=>h (i+1) u y (by simpa using hu) (by simpa using hy))⟩
def zu.append:∀{vs us:List V}{l k:List bw},zu m Z vs l->zu m Z us k->zu m Z (vs++us) (l++k)
 |[],us,l,k,h,h'=>by cases h;exact h'
 |v::vs,us,l,k,h,h'=>by obtain⟨x,xs,rfl,h2,h3⟩:=h;exact⟨x,xs++k,rfl,h2,zu.append h3 h'⟩
def zu.take{vs:List V}{l:List bw}(n:Nat)(h:zu m Z vs l):zu m Z (vs.take n) (l.take n):=by
 refine zu.nu (by simp[h.length]) λi v x hv hx=>?_
 rw[cb]at hv hx;split at hv
 .rename_i iB;rw[aO iB]at hx;obtain⟨y,hy,hr⟩:=h.get hv;rw[hx]at hy;cases hy;exact hr
 .cases hv
def zu.drop{vs:List V}{l:List bw}(n:Nat)(h:zu m Z vs l):zu m Z (vs.drop n) (l.drop n):=by
 refine zu.nu (by simp[h.length]) λi v x hv hx=>?_
 rw[cX]at hv hx;obtain⟨y,hy,hr⟩:=h.get hv;rw[hx]at hy;cases hy;exact hr
def qJ.get{a:Addr}:∀{vs:List V}{j:Nat},qJ Z a j vs->∀{i:Nat}{v:V},vs[i]?=aY v->∃x,Z (a.add (j+i))=aY x/\dQ bh Z v x
 |[],j,_,i,v,hv=>by simp at hv
 |u::vs,j,h,i,v,hv=>by
  obtain⟨⟨x,h1,h2⟩,h3⟩:=h
  cases i with
  |zero=>simp at hv;subst hv;exact⟨x,h1,h2⟩
  |succ i =>obtain⟨y,h4,h5⟩:=qJ.get h3 (i:=i) (v:=v) (by simpa using hv);exact⟨y,by rw[<- h4];congr 2;omega,h5⟩
def qJ.nu{a:Addr}:∀{vs:List V}{j:Nat},(∀(i:Nat)(v:V),vs[i]?=aY v->∃x,Z (a.add (j+i))=aY x/\dQ bh Z v x)->qJ Z a j vs
 |[],j,_=>trivial
 |u::vs,j,h=>⟨h 0 u rfl,qJ.nu λi v hv=>by
   obtain⟨x,h1,h2⟩:=h (i+1) v (by simpa using hv)
   exact⟨x,by rw[<- h1];congr 2;omega,h2⟩⟩
def yT.get{a:Addr}{sz:Nat}:∀{els:List (List V)}{j:Nat},yT Z a sz j els->∀{i:Nat}{cs:List V},els[i]?=aY cs->cs.length=sz/\qJ Z (a.add ((j+i)*sz)) 0 cs
 |[],j,_,i,v,hv=>by simp at hv
 |u::vs,j,h,i,v,hv=>by
  obtain⟨⟨h1,h2⟩,h3⟩:=h
  cases i with
  |zero=>simp at hv;subst hv;exact⟨h1,h2⟩
  |succ i =>
   have:=yT.get h3 (i:=i) (cs:=v) (by simpa using hv);rw[show j+1+i=j+(i+1) by omega]at this;exact this
def yT.nu{a:Addr}{sz:Nat}:∀{els:List (List V)}{j:Nat},(∀(i:Nat)(cs:List V),els[i]?=aY cs->cs.length=sz/\qJ Z (a.add ((j+i)*sz)) 0 cs)->yT Z a sz j els
 |[],j,_=>trivial
 |u::vs,j,h=>⟨h 0 u rfl,yT.nu λi v hv=>by
   have:=h (i+1) v (by simpa using hv);rw[show j+(i+1)=j+1+i by omega]at this
   exact this⟩
end
mutual
/-- What holds no name needs no map. -/
def dQ.flat{f:M}{Z:ZM}:∀(v:V)(x:bw),v.refs=[]->dQ (aY f) Z v x->dQ bh Z v x
 |.undef,x,_,h=>trivial
 |.no,x,_,h=>h
 |.int k n,x,_,h=>h
 |.bool b,x,_,h=>h
 |.str l,x,_,h=>h
 |.lF,x,_,h=>h
 |.ptr k L off,x,hr,h=>by cases hr
 |.vp cs off,x,_,h=>h
 |.iO,x,_,h=>h
 |.sl sz k L o n,x,hr,h=>by cases hr
 |.vs sz els,x,_,h=>h
 |.fn g first ml,x,hr,h=>by
  obtain⟨l1,l2,h1,h2,h3⟩:=h;obtain⟨IJ,sO⟩:=dL.1 hr;exact⟨l1,l2,h1,zu.flat first l1 IJ h2,zu.flat ml l2 sO h3⟩
 |.lZ,x,_,h=>h
 |.agg cs,x,hr,h=>by
  obtain⟨l,h1,h2⟩:=h;exact⟨l,h1,zu.flat cs l hr h2⟩
 |.ij xs,x,hr,h=>by
  obtain⟨l,h1,h2⟩:=h;exact⟨l,h1,zu.flat xs l hr h2⟩
 |.lP,x,_,h=>h
 |.mp k,x,hr,h=>by cases hr
 |.mn,x,_,h=>h
 |.lN t v,x,hr,h=>by
  obtain⟨y,h1,h2⟩:=h;exact⟨y,h1,dQ.flat v y hr h2⟩
 |.gv k R,x,hr,h=>by cases hr
 |.pv R,x,hr,h=>h
def zu.flat{f:M}{Z:ZM}:∀(vs:List V)(l:List bw),y8 vs=[]->zu (aY f) Z vs l->zu bh Z vs l
 |[],l,_,h=>h
 |v::vs,l,hr,h=>by obtain⟨x,xs,h1,h2,h3⟩:=h;obtain⟨IJ,sO⟩:=dL.1 hr;exact⟨x,xs,h1,dQ.flat v x IJ h2,zu.flat vs xs sO h3⟩
end
def V.one:V->Bool
 |.undef|.no|.agg _|.ij _=>bf
 |_=>bg
def dQ.one{m:Option M}{Z:ZM}{v:V}{x:bw}(h:dQ m Z v x)(h1:v.one=bg):x.oneCell'=bg:=by
 cases v<;>simp only[V.one,cu]at h1<;>simp only[dQ]at h
 case int=>subst h;rfl
 case bool=>subst h;rfl
 case str=>subst h;rfl
 case lF=>subst h;rfl
 case ptr=>obtain⟨_,_,_,_,rfl⟩:=h;rfl
 case vp=>obtain⟨_,rfl,_⟩:=h;rfl
 case iO=>subst h;rfl
 case sl=>obtain⟨_,_,_,_,_,_,rfl|⟨_,_,rfl⟩|⟨_,_,_,_,rfl,_⟩⟩:=h<;>rfl
 case vs=>obtain⟨_,_,rfl,_⟩:=h;rfl
 case fn=>obtain⟨_,_,rfl,_⟩:=h;rfl
 case lZ=>subst h;rfl
 case lP=>subst h;rfl
 case mp=>obtain⟨_,_,_,_,rfl⟩:=h;rfl
 case mn=>subst h;rfl
 case lN=>obtain⟨_,rfl,_⟩:=h;rfl
 case gv k R=>obtain⟨_,_,h⟩:=h;first|exact(R.one _ _ h).1|exact(R.one _ _ h).2
 case pv R=>first|exact(R.one _ _ h).1|exact(R.one _ _ h).2
def V.cells:V->List V
 |.agg cs=>cs
 |v=>[v]
def V.plain:V->Bool
 |.undef|.no=>bf
 |_=>bg
def dQ.cells{m:Option M}{Z:ZM}{v:V}{x:bw}(h:dQ m Z v x)(hp:v.plain=bg):zu m Z v.cells x.cells.toList:=by
 cases v<;>simp only[V.plain,cu]at hp<;>simp only[V.cells]
 case agg=>obtain⟨l,rfl,h2⟩:=h;simpa[Value.cells]using h2
 case ij=>obtain⟨l,rfl,h2⟩:=id h;exact⟨_,[],rfl,h,rfl⟩
 all_goals
  refine⟨x,[],?_,h,rfl⟩;simp only[dQ]at h
 case int=>subst h;rfl
 case bool=>subst h;rfl
 case str=>subst h;rfl
 case lF=>subst h;rfl
 case ptr=>obtain⟨_,_,_,_,rfl⟩:=h;rfl
 case vp=>obtain⟨_,rfl,_⟩:=h;rfl
 case iO=>subst h;rfl
 case sl=>obtain⟨_,_,_,_,_,_,rfl|⟨_,_,rfl⟩|⟨_,_,_,_,rfl,_⟩⟩:=h<;>rfl
 case vs=>obtain⟨_,_,rfl,_⟩:=h;rfl
 case fn=>obtain⟨_,_,rfl,_⟩:=h;rfl
 case lZ=>subst h;rfl
 case lP=>subst h;rfl
 case mp=>obtain⟨_,_,_,_,rfl⟩:=h;rfl
 case mn=>subst h;rfl
 case lN=>obtain⟨_,rfl,_⟩:=h;rfl
 case gv k R=>obtain⟨_,_,h⟩:=h;first|exact(R.one _ _ h).1|exact(R.one _ _ h).2
 case pv R=>first|exact(R.one _ _ h).1|exact(R.one _ _ h).2
end Go.EV
namespace Go.lA
open Go Go.RowKit
section
variable{P:bl}{r:Option Nat}{N:Nat}{Q:Yb}{ρ:ye}{ds:List ca}{w W0:bG}{L:List Own}
variable{all rest:List Oper}{jl:Nat}{S:bG->Prop}{K:ye->List ca->bG->Prop}
variable{dst:Option Tmp}{ty:bu}{pos:String}{aft:Array Edge}{gd:Option (Nat×Bool)}
section
variable{α:Type}{enc:α->List bw}{k:Nat}{v:bw}{l:List α}
end
def TF (P : bl) (f : FuncId) : Bool := match P.funcs[f]? with | some fn => !(fn.name == "runtime.NumGoroutine") && !fn.body.isNone | none => bf
def zd{f:FuncId}(h:TF P f=bg):zb P f:=by
 unfold TF at h;split at h
 .rename_i fn hf;simp only[bn,bL]at h;exact⟨fn,hf,h.1,h.2⟩
 .cases h
end
section
variable{P:bl}{r:Option Nat}{N:Nat}{Q:Yb}{ρ:ye}{ds:List ca}{w W0:bG}{L:List Own}
variable{all rest:List Oper}{ty:bu}{pos:String}{aft:Array Edge}{gd:Option (Nat×Bool)}
end
def Yd(W:bG)(l:Nat)(o:Obj):W.grownBy (W.putObj l o) (aY l):=⟨rfl,rfl,rfl,ae,λ_ _ hk=>World.putObj_heap_other (λe=>hk (by rw[e]))⟩
def mark(D:Nat):ca:={ target:=.collected D,args:=#[] }
section
variable{P:bl}{N:Nat}{Q:Yb}{ρ:ye}{ds:List ca}{w:bG}
end
def Gb:List ca->bG->bG->Prop
 |[],w,w'=>w'=w
 |d::ds,w,w'=>∃D,d=mark D/\w.heap[D]?=aY (.deferred (aY []))/\Gb ds (w.putObj D (.deferred bh)) w'
section
variable{P:bl}{N:Nat}{Q:Yb}{ρ:ye}{ds:List ca}{w W0:bG}{L:List Own}
def kQ{fn:Func}{tmps:Array bw}{R:Ending->bG->Prop}{v:bw}:∀(ds:List ca)(w w':bG),Gb ds w w'->(results fn tmps).run P w'=.ok v w'->R (.returned v) w'->LeavesInM Fence.wide 0 P fn tmps R ds .returning w
 |[],w,w',ht,hr,hR=>by
  subst ht;exact⟨v,hr,hR⟩
 |d::ds,w,w',⟨D,hd,hh,ht⟩,hr,hR=>by subst hd;exact⟨ae,.inl ⟨D,_,rfl,run_takeDeferred hh,kQ ds _ w' ht hr hR⟩⟩
variable{r:Option Nat}{all rest:List Oper}{ty:bu}{pos:String}{aft:Array Edge}{gd:Option (Nat×Bool)}
end
end Go.lA
namespace Go.EV
open Go Go.RowKit Go.lA
def Dw:Go.Obj->Bool|.loop _|.deferred _=>bg|_=>bf
structure Fu where
 holds:(Nat->Option (Nat×Nat))->ZM->bG->Prop
 mO:(Nat->Option (Nat×Nat))->Nat->Prop
 some_:∀mk b,mO mk b->∃j c,mk j=aY (b,c)/\c≠0
 own:∀mk Z w b,holds mk Z w->mO mk b->∃ob,w.heap[b]?=aY ob/\Dw ob=bf
 keep:∀mk Z Z' w w',holds mk Z w->(∀a x,Z a=aY x->Z' a=aY x)->(∀b,mO mk b->w'.heap[b]?=w.heap[b]?/\∀a x,Z' a=aY x->a.block=b->Z a=aY x)->holds mk Z' w'
inductive Obj where
 |box (t:bu) (cs:List V)
 |row (t:bu) (sz fz:Nat) (els:List (List V))
 |map (l:List (V×V))
 |my (g:Nat) (ob:Go.Obj) (cs:List V)
 |nest (t e sz:Nat) (pd:Option Nat) (ls:List (List (List V)))
 |gen (G:Fu)
 deriving Inhabited
def code(i n:Nat):Nat:=2 ^ i*(2*n+1)
def Obj.iZ:Obj->Nat|.row _ _ _ els=>els.length|_=>0
abbrev aw:=List (Nat×Obj)
def keys(H:aw):List Nat:=H.map (·.1)
def qK(m:M)(p:Nat×Obj):Option Nat:=(m p.1 p.2.iZ).bind λloc=>if loc.2=0 then bh else aY loc.1
def M4(mk:Nat->Option (Nat×Nat))(ls:List (List (List V)))(b:Nat):Prop:=∃j c,mk j=aY (b,c)/\c≠0/\(j=0∨∃i l,ls[i]?=aY l/\j=code i l.length)
def gT(m:M)(p:Nat×Obj)(b:Nat):Prop:=match p.2 with
 |.nest _ _ _ _ ls=>M4 (m p.1) ls b
 |.gen G=>G.mO (m p.1) b
 |_=>qK m p=aY b
def P8{m m':M}{p:Nat×Obj}(h:m' p.1=m p.1):gT m' p=gT m p:=by
 obtain⟨k,o⟩:=p;simp only at h
 funext b
 cases o<;>simp only[gT,qK,h]
def zr6{m:M}{p:Nat×Obj}{b:Nat}(h:gT m p b):∃j c,m p.1 j=aY (b,c)/\c≠0:=by
 obtain⟨k,o⟩:=p
 have one:qK m (k,o)=aY b->∃j c,m k j=aY (b,c)/\c≠0:=λh=>by
  unfold qK at h;obtain⟨loc,e1,e2⟩:=cQ.1 h;split at e2
  .cases e2
  .rename_i hc;cases e2;exact⟨_,loc.2,e1,hc⟩
 cases o with
 |nest t e sz pd ls=>obtain⟨j,c,e1,e2,_⟩:=h;exact⟨j,c,e1,e2⟩
 |gen G=>exact G.some_ _ _ h
 |box t cs=>exact one h
 |row t sz fz els=>exact one h
 |map l=>exact one h
 |my g ob cs=>exact one h
def aw.get:aw->Nat->Option Obj
 |[],_=>bh
 |(k,o)::r,j=>bif bk j k then aY o else aw.get r j
def pM(Z:ZM):List (V×V)->List MapEntry->Prop
 |[],l=>l=[]
 |(k,v)::r,l=>∃e es,l=e::es/\dQ bh Z k e.key/\dQ bh Z v e.val/\pM Z r es
def zAf(mk:Nat->Option (Nat×Nat))(Z:ZM)(w:bG)(e sz i:Nat)(l:List (List V))(h:Option bw):Prop:=
 (l=[]/\h=aY (.slice bh 0 0)/\mk (code i 0)=bh)∨∃(b cap:Nat)(cur:Array bw)(fr:Nat×Nat),h=aY (.slice (aY ⟨b,0,bh⟩) l.length cap)/\mk (code i l.length)=aY (b,cap)/\0<l.length/\w.heap[b]?=aY (.cells cur e fr)/\fr.2=0/\l.length<=cap/\cap<=maxLen /\
  cur.size=cap*sz/\zu bh Z l.flatten (cur.toList.take (l.length*sz))/\(∀x∈l,x.length=sz)/\∀a x,Z a=aY x->a.block≠b
def kS(mk:Nat->Option (Nat×Nat))(Z:ZM)(w:bG)(t e sz:Nat)(pd:Option Nat)(ls:List (List (List V))):Prop:=
 (ls=[]/\pd=aY 0/\∀b c,mk 0=aY (b,c)->c≠0->∃cur u fr,w.heap[b]?=aY (.cells cur u fr))∨0<sz/\((ls=[]/\(∃b,mk 0=aY (b,0))/\∀L loc,mk L=aY loc->L=0)∨∃(b cap:Nat)(cur:Array bw)(fr:Nat×Nat),mk 0=aY (b,cap)/\0<cap/\w.heap[b]?=aY (.cells cur t fr)/\fr.2=0/\cur.size=cap/\ls.length=cap/\cap<=maxLen/\(∀a x,Z a=aY x->a.block≠b) /\
  (∀i l,ls[i]?=aY l->∃h,zAf mk Z w e sz i l (aY h)/\(pd≠aY i->cur[i]?=aY h)) /\
  (∀j1 j2 c1 c2 g,mk j1=aY (g,c1)->mk j2=aY (g,c2)->(j1=0∨∃i l,ls[i]?=aY l/\j1=code i l.length)->(j2=0∨∃i l,ls[i]?=aY l/\j2=code i l.length)->c1≠0->c2≠0->j1=j2) /\
  ∀L loc,mk L=aY loc->L=0∨∃i n l,ls[i]?=aY l/\n<=l.length/\L=code i n)
def Holds(m:M)(Z:ZM)(w:bG)(k:Nat):Obj->Prop
 |.box t cs=>∃(b:Nat)(cur:Array bw),m k 0=aY (b,1)/\w.heap[b]?=aY (.cells cur t (0,0))/\zu (aY m) Z cs cur.toList/\(∀a x,Z a=aY x->a.block≠b)/\(∀L loc,m k L=aY loc->L<=0)
 |.row t sz fz els=>(0<sz/\els=[]/\fz=0/\(∃b,m k 0=aY (b,0))/\(∀L loc,m k L=aY loc->L<=0))∨∃(b cap:Nat)(cur:Array bw)(fr:Nat×Nat),m k els.length=aY (b,cap)/\0<cap/\w.heap[b]?=aY (.cells cur t fr)/\els.length<=cap/\cap<=maxLen/\cur.size=cap*sz/\0<sz /\
   zu bh Z els.flatten (cur.toList.take (els.length*sz))/\(∀e∈els,e.length=sz)/\fr.2<=fz*sz/\fz<=els.length/\(∀a x,Z a=aY x->a.block=b->a.off<fz*sz)/\(∀L loc,m k L=aY loc->L<=els.length)/\(∀(off:Nat)(x:bw),off<fz*sz->cur[off]?=aY x->Z ⟨b,off,bh⟩=aY x)
 |.map l=>∃(b:Nat)(es:Array MapEntry)(clock:Nat),m k 0=aY (b,1)/\w.heap[b]?=aY (.map es clock)/\pM Z l es.toList/\(es.toList.Pairwise λx y=>x.born<y.born)/\(∀e∈es.toList,e.born<clock)/\(∀a x,Z a=aY x->a.block≠b)/\(∃L0,∀L loc,m k L=aY loc->L<=L0)
 |.my g ob cs=>m k 0=aY (g,1)/\(w.heap[g]?=aY ob/\∃cur u fr,ob=.cells cur u fr/\zu bh Z cs cur.toList)/\∀L loc,m k L=aY loc->L<=0
 |.nest t e sz pd ls=>kS (m k) Z w t e sz pd ls
 |.gen G=>G.holds (m k) Z w
def kS.own{mk:Nat->Option (Nat×Nat)}{Z:ZM}{w:bG}{t e sz:Nat}{pd:Option Nat}{ls:List (List (List V))}(h:kS mk Z w t e sz pd ls){b:Nat}(hb:M4 mk ls b):∃cur u fr,w.heap[b]?=aY (.cells cur u fr):=by
 obtain⟨rfl,_,hd⟩|⟨_,⟨rfl,⟨b0,h1⟩,_⟩|⟨b0,cap,cur,fr,h1,h2,h3,_,_,_,_,_,h9,_⟩⟩:=h
 .obtain⟨j,c,e1,e2,rfl|⟨i,l,e3,rfl⟩⟩:=hb
  .exact hd b c e1 e2
  .simp at e3
 .obtain⟨j,c,e1,e2,rfl|⟨i,l,e3,rfl⟩⟩:=hb
  .rw[h1]at e1;cases e1;exact aQ rfl e2
  .simp at e3
 .obtain⟨j,c,e1,e2,rfl|⟨i,l,e3,rfl⟩⟩:=hb
  .rw[h1]at e1;cases e1;exact⟨_,_,_,h3⟩
  .obtain⟨hd,hI,_⟩:=h9 i l e3
   rcases hI with⟨rfl,_,e4⟩|⟨b',pT,cur',GS,_,g2,_,g4,_⟩
   .rw[dD,e4]at e1;cases e1
   .rw[g2]at e1;cases e1;exact⟨_,_,_,g4⟩
def kS.keep{mk:Nat->Option (Nat×Nat)}{Z Z':ZM}{w w':bG}{t e sz:Nat}{pd:Option Nat}{ls:List (List (List V))}(h:kS mk Z w t e sz pd ls)(hZ:∀a x,Z a=aY x->Z' a=aY x)
  (hw:∀b,M4 mk ls b->w'.heap[b]?=w.heap[b]?/\∀a x,Z' a=aY x->a.block=b->Z a=aY x):kS mk Z' w' t e sz pd ls:=by
 obtain⟨rfl,rfl,hd⟩|⟨h0,hh|⟨b0,cap,cur,fr,h1,h2,h3,h4,h5,h6,h7,h8,h9,sG,sg⟩⟩:=h
 .refine .inl ⟨rfl,rfl,λb c e1 e2=>?_⟩;obtain⟨cur,u,fr,h3⟩:=hd b c e1 e2;exact⟨cur,u,fr,(hw b ⟨0,c,e1,e2,.inl rfl⟩).1.trans h3⟩
 .exact .inr ⟨h0,.inl hh⟩
 .obtain⟨hw0,EY⟩:=hw b0 ⟨0,cap,h1,ab,.inl rfl⟩;refine .inr ⟨h0,.inr ⟨b0,cap,cur,fr,h1,h2,hw0.trans h3,h4,h5,h6,h7,λa x ha e=>h8 a x (EY a x ha e) e,λi l hl=>?_,sG,sg⟩⟩;obtain⟨hd,hI,hc⟩:=h9 i l hl;refine⟨hd,?_,hc⟩
  rcases hI with hh|⟨b',pT,cur',GS,g1,g2,g3,g4,g5,g6,g7,g8,g9,g10,g11⟩
  .exact .inl hh
  .obtain⟨hw1,IV⟩:=hw b' ⟨_,pT,g2,ab,.inr ⟨i,l,hl,rfl⟩⟩;exact .inr ⟨b',pT,cur',GS,g1,g2,g3,hw1.trans g4,g5,g6,g7,g8,g9.up hZ (λf e=>by cases e),g10,λa x ha e=>g11 a x (IV a x ha e) e⟩
structure kp(m:M)(Z:ZM)(H:aw)(w:bG):Prop where
 frozen:∀a x,Z a=aY x->w.cell? a=aY x
 holds:∀p∈H,Holds m Z w p.1 p.2
 nodup:(keys H).Nodup
 nT:∀p∈H,∀q∈H,∀b,gT m p b->gT m q b->p.1=q.1
structure Step(m:M)(Z:ZM)(F:aw)(w:bG)(m':M)(Z':ZM)(F':aw)(w':bG):Prop where
 iV:kp m' Z' F' w'
 nn:∀k L loc,m k L=aY loc->m' k L=aY loc
 ng:∀a x,Z a=aY x->Z' a=aY x
 os:w'.os=w.os
 tape:w'.tape=w.tape
 output:w'.output=w.output
 size:w.heap.size<=w'.heap.size
 frame:∀b,b<w.heap.size->(∀p∈F,¬gT m p b)->w'.heap[b]?=w.heap[b]?
 keep:∀k∈keys F,k∈keys F'
 pV:∀k,k ∉ keys F'->m' k=m k
 mO:∀p∈F',∀b,gT m' p b->w.heap.size<=b∨∃q∈F,gT m q b
 pC:∀a x,Z' a=aY x->Z a=aY x∨w.heap.size<=a.block∨∃q∈F,gT m q a.block
def Holds.gT{m:M}{Z:ZM}{w:bG}{k:Nat}{o:Obj}(h:Holds m Z w k o):∀b,EV.gT m (k,o) b->b<w.heap.size:=by
 intro b' ll
 cases o with
 |box t cs =>
  obtain⟨b,cur,h1,h2,_⟩:=h;simp[EV.gT,EV.qK,Obj.iZ,h1]at ll;subst ll;exact(bP.1 h2).1
 |row t sz fz els =>
  rcases h with⟨_,rfl,_,⟨b,h1⟩,_⟩|⟨b,cap,cur,fr,h1,h0,h2,_⟩
  .simp[EV.gT,EV.qK,Obj.iZ,h1]at ll
  .have:cap≠0:=ab;simp[EV.gT,EV.qK,Obj.iZ,h1,this]at ll;subst ll;exact(bP.1 h2).1
 |map l =>
  obtain⟨b,es,clock,h1,h2,_⟩:=h;simp[EV.gT,EV.qK,Obj.iZ,h1]at ll;subst ll;exact(bP.1 h2).1
 |my g ob cs =>
  obtain⟨h1,⟨h2,_⟩,_⟩:=h;simp[EV.gT,EV.qK,Obj.iZ,h1]at ll;subst ll;exact(bP.1 h2).1
 |nest t e sz pd ls =>
  obtain⟨cur,u,fr,h2⟩:=kS.own h ll;exact(bP.1 h2).1
 |gen G =>obtain⟨ob,h2,_⟩:=G.own _ _ _ _ h ll;exact(bP.1 h2).1
def Holds.X9{m:M}{Z:ZM}{w:bG}{k:Nat}{o:Obj}(h:Holds m Z w k o):∀b,EV.gT m (k,o) b->∃ob,w.heap[b]?=aY ob/\Dw ob=bf:=by
 intro b' ll
 cases o with
 |box t cs =>
  obtain⟨b,cur,h1,h2,_⟩:=h;simp[EV.gT,EV.qK,Obj.iZ,h1]at ll;subst ll;exact⟨_,h2,rfl⟩
 |row t sz fz els =>
  rcases h with⟨_,rfl,_,⟨b,h1⟩,_⟩|⟨b,cap,cur,fr,h1,h0,h2,_⟩
  .simp[EV.gT,EV.qK,Obj.iZ,h1]at ll
  .have:cap≠0:=ab;simp[EV.gT,EV.qK,Obj.iZ,h1,this]at ll;subst ll;exact⟨_,h2,rfl⟩
 |map l =>
  obtain⟨b,es,clock,h1,h2,_⟩:=h;simp[EV.gT,EV.qK,Obj.iZ,h1]at ll;subst ll;exact⟨_,h2,rfl⟩
 |my g ob cs =>
  obtain⟨h1,⟨h2,cur,u,fr,rfl,_⟩,_⟩:=h;simp[EV.gT,EV.qK,Obj.iZ,h1]at ll;subst ll;exact⟨_,h2,rfl⟩
 |nest t e sz pd ls =>
  obtain⟨cur,u,fr,h2⟩:=kS.own h ll;exact⟨_,h2,rfl⟩
 |gen G=>exact G.own _ _ _ _ h ll
def pM.up{Z Z':ZM}(hZ:∀a x,Z a=aY x->Z' a=aY x):∀{l:List (V×V)}{es:List MapEntry},pM Z l es->pM Z' l es
 |[],_,h=>h
 |(k,v)::r,_,h=>by obtain⟨e,es,h1,h2,h3,h4⟩:=h;exact⟨e,es,h1,h2.up hZ (λf hf=>by cases hf),h3.up hZ (λf hf=>by cases hf),pM.up hZ h4⟩
def Holds.keep{m m':M}{Z Z':ZM}{w w':bG}{k:Nat}{o:Obj}(h:Holds m Z w k o)(hm:∀k L loc,m k L=aY loc->m' k L=aY loc)(hk:m' k=m k)
  (hZ:∀a x,Z a=aY x->Z' a=aY x) (hw:∀b,EV.gT m (k,o) b->w'.heap[b]?=w.heap[b]?/\∀a x,Z' a=aY x->a.block=b->Z a=aY x):Holds m' Z' w' k o:=by
 have hf:∀f,aY m=aY f->∃f',aY m'=aY f'/\∀k L loc,f k L=aY loc->f' k L=aY loc:=λf e=>by cases e;exact⟨m',rfl,hm⟩
 cases o with
 |box t cs =>
  obtain⟨b',cur,h1,h2,h3,h4,h5⟩:=h;obtain⟨hw,hz⟩:=hw b' (by simp[EV.gT,EV.qK,Obj.iZ,h1]);exact⟨b',cur,by rw[hk];exact h1,hw.trans h2,h3.up hZ hf,λa x ha e=>h4 a x (hz a x ha e) e,by rw[hk];exact h5⟩
 |row t sz fz els =>
  rcases h with⟨h0,h1,h2,⟨b,h3⟩,h4⟩|⟨b',cap,cur,fr,h1,h0,h2,h3,h4,h5,h6,h7,h8,h9,sG,sg,rz,nX⟩
  .exact .inl ⟨h0,h1,h2,⟨b,by rw[hk];exact h3⟩,by rw[hk];exact h4⟩
  .have:cap≠0:=ab;obtain⟨hw,hz⟩:=hw b' (by simp[EV.gT,EV.qK,Obj.iZ,h1,this]);exact .inr ⟨b',cap,cur,fr,by rw[hk];exact h1,h0,hw.trans h2,h3,h4,h5,h6,h7.up hZ (λf e=>by cases e),h8,h9,sG,λa x ha e=>sg a x (hz a x ha e) e,by rw[hk];exact rz,λoff x ho hx=>hZ _ _ (nX off x ho hx)⟩
 |map l =>
  obtain⟨b',es,clock,h1,h2,h3,h4,h5,h6,h7⟩:=h;obtain⟨hw,hz⟩:=hw b' (by simp[EV.gT,EV.qK,Obj.iZ,h1]);exact⟨b',es,clock,by rw[hk];exact h1,hw.trans h2,h3.up hZ,h4,h5,λa x ha e=>h6 a x (hz a x ha e) e,by rw[hk];exact h7⟩
 |my g ob cs =>
  obtain⟨h1,⟨h2,cur,u,fr,h5,h3⟩,h4⟩:=h;exact⟨by rw[hk];exact h1,⟨(hw g (by simp[EV.gT,EV.qK,Obj.iZ,h1])).1.trans h2,cur,u,fr,h5,h3.up hZ (λf e=>by cases e)⟩,by rw[hk];exact h4⟩
 |nest t e sz pd ls =>
  show kS (m' k) Z' w' t e sz pd ls
  rw[hk];exact kS.keep h hZ hw
 |gen G =>
  show G.holds (m' k) Z' w'
  rw[hk];exact G.keep _ _ _ _ _ h hZ hw
section
variable{m m' m2:M}{Z Z' Z2:ZM}{F F' F2 G H:aw}{w w' w2:bG}
def ax{p:Nat×Obj}(h:p∈H):p.1∈keys H:=cv h
def zr:keys (F++G)=keys F++keys G:=by simp[keys]
def kp.left(h:kp m Z (F++G) w):kp m Z F w:=
  ⟨h.frozen,λp hp=>h.holds p (bJ _ hp),by have:=h.nodup;rw[zr]at this;exact(cz.1 this).1,
   λp hp q hq b=>h.nT p (bJ _ hp) q (bJ _ hq) b⟩
def kp.perm(h:kp m Z F w)(hp:F.Perm F'):kp m Z F' w:=⟨h.frozen,λp hq=>h.holds p (hp.mem_iff.2 hq),(hp.map _).nodup_iff.1 h.nodup,λp hq q hr=>h.nT p (hp.mem_iff.2 hq) q (hp.mem_iff.2 hr)⟩
def Hs(h:(keys (F++G)).Nodup){p q:Nat×Obj}(hp:p∈F)(hq:q∈G):p.1≠q.1:=by rw[zr]at h;exact(cz.1 h).2.2 _ (ax hp) _ (ax hq)
def Step.By(hs:kp m Z (F++G) w)(h:Step m Z F w m' Z' F' w')(tt:∀p∈F',∀q∈G,p.1≠q.1):Step m Z (F++G) w m' Z' (F'++G) w':=by
 have XZ:∀q∈G,∀b,gT m q b->b<w.heap.size/\∀p∈F,¬gT m p b:=λq hq b hb=>by exact⟨(hs.holds q (bO _ hq)).gT b hb,λp hp Cd=>Hs hs.nodup hp hq (hs.nT p (bJ _ hp) q (bO _ hq) b Cd hb)⟩
 have OH:∀q∈G,m' q.1=m q.1:=λq hq=>h.pV _ λhk=>by obtain⟨p,hp,e⟩:=bF.1 hk;exact tt p hp q hq e
 have EK:∀q∈G,gT m' q=gT m q:=λq hq=>P8 (OH q hq)
 have aeZ:∀q∈G,Holds m' Z' w' q.1 q.2:=λq hq=>by
  refine(hs.holds q (bO _ hq)).keep h.nn (OH q hq) h.ng λb h1=>?_
  have h3:=XZ q hq b h1;refine⟨h.frame b h3.1 h3.2,λa x ha e=>?_⟩
  rcases h.pC a x ha with h'|h'|⟨p,hp,Cd⟩
  .exact h'
  .omega
  .rw[e]at Cd;exact aQ Cd (h3.2 p hp)
 refine⟨⟨h.iV.frozen,λp hp=>?_,?_,λp hp q hq b h1 h2=>?_⟩,h.nn,h.ng,h.os,h.tape,h.output,h.size,λb hb hn=>h.frame b hb λp hp=>hn p (bJ _ hp),λk hk=>?_,λk hk=>?_,λp hp b hb=>?_,λa x ha=>?_⟩
 .rcases bI.1 hp with hp|hp
  .exact h.iV.holds p hp
  .exact aeZ p hp
 .rw[zr];refine cz.2 ⟨h.iV.nodup,?_,λa ha b hb=>?_⟩
  .have:=hs.nodup;rw[zr]at this;exact(cz.1 this).2.1
  .obtain⟨p,hp,rfl⟩:=bF.1 ha;obtain⟨q,hq,rfl⟩:=bF.1 hb;exact tt p hp q hq
 .have key:∀p∈F',∀q∈G,gT m' p b->gT m' q b->False:=λp hp q hq Cd OT=>by
   rw[EK q hq]at OT;have h3:=XZ q hq b OT
   rcases h.mO p hp b Cd with h'|⟨r,hr,hrb⟩
   .omega
   .exact h3.2 r hr hrb
  rcases bI.1 hp with hp|hp<;>rcases bI.1 hq with hq|hq
  .exact h.iV.nT p hp q hq b h1 h2
  .exact(key p hp q hq h1 h2).elim
  .exact(key q hq p hp h2 h1).elim
  .rw[EK p hp]at h1;rw[EK q hq]at h2;exact hs.nT p (bO _ hp) q (bO _ hq) b h1 h2
 .rw[zr,bI]at hk ⊢;exact hk.imp (h.keep k) id
 .rw[zr,bI,not_or]at hk;exact h.pV k hk.1
 .rcases bI.1 hp with hp|hp
  .exact(h.mO p hp b hb).imp id λ⟨q,hq,e⟩=>⟨q,bJ _ hq,e⟩
  .exact .inr ⟨p,bO _ hp,by rw[<- EK p hp];exact hb⟩
 .exact(h.pC a x ha).imp id (Or.imp id λ⟨q,hq,e⟩=>⟨q,bJ _ hq,e⟩)
def Step.trans(h:Step m Z F w m' Z' F' w')(k:Step m' Z' F' w' m2 Z2 F2 w2):Step m Z F w m2 Z2 F2 w2:=by
 refine⟨k.iV,λ_ _ _ e=>k.nn _ _ _ (h.nn _ _ _ e),λ_ _ e=>k.ng _ _ (h.ng _ _ e),k.os.trans h.os,k.tape.trans h.tape,k.output.trans h.output,dN h.size k.size,λb hb hn=>?_,
  λa ha=>k.keep a (h.keep a ha),λa ha=>(k.pV a ha).trans (h.pV a λh'=>ha (k.keep a h')),λp hp b hb=>?_,λa x ha=>?_⟩
 .rw[k.frame b (by have:=h.size;omega) λp hp e=>?_,h.frame b hb hn]
  rcases h.mO p hp b e with h'|⟨q,hq,e'⟩
  .omega
  .exact hn q hq e'
 .rcases k.mO p hp b hb with h'|⟨q,hq,e'⟩
  .exact .inl (by have:=h.size;omega)
  .exact h.mO q hq b e'
 .rcases k.pC a x ha with h'|h'|⟨q,hq,e'⟩
  .exact h.pC a x h'
  .exact .inr (.inl (by have:=h.size;omega))
  .exact .inr (h.mO q hq _ e')
def Step.refl(h:kp m Z F w):Step m Z F w m Z F w:=⟨h,λ_ _ _ e=>e,λ_ _ e=>e,rfl,rfl,rfl,al,λ_ _ _=>rfl,λ_ h=>h,λ_ _=>rfl,λp hp b hb=>.inr ⟨p,hp,hb⟩,λ_ _ h=>.inl h⟩
def Step.aeB(h:Step m Z F w m' Z' F' w')(hp:F.Perm F2):Step m Z F2 w m' Z' F' w':=
  ⟨h.iV,h.nn,h.ng,h.os,h.tape,h.output,h.size,λb hb hn=>h.frame b hb λp hq=>hn p (hp.mem_iff.1 hq),λk hk=>h.keep k ((hp.map _).mem_iff.2 hk),h.pV,
   λp hq b hb=>(h.mO p hq b hb).imp id λ⟨q,hr,e⟩=>⟨q,hp.mem_iff.1 hr,e⟩,λa x ha=>(h.pC a x ha).imp id (Or.imp id λ⟨q,hr,e⟩=>⟨q,hp.mem_iff.1 hr,e⟩)⟩
def Step.GF(h:Step m Z F w m' Z' F' w')(hp:F'.Perm F2):Step m Z F w m' Z' F2 w':=
  ⟨h.iV.perm hp,h.nn,h.ng,h.os,h.tape,h.output,h.size,h.frame,λk hk=>(hp.map _).mem_iff.1 (h.keep k hk),λk hk=>h.pV k λh'=>hk ((hp.map _).mem_iff.1 h'),
   λp hq=>h.mO p (hp.mem_iff.2 hq),h.pC⟩
def Step.same(h:kp m Z F w)(hh:w'.heap=w.heap)(h1:w'.os=w.os)(h2:w'.tape=w.tape)(h3:w'.output=w.output):Step m Z F w m Z F w':=by
 refine⟨⟨λa x ha=>?_,λp hp=>?_,h.nodup,h.nT⟩,λ_ _ _ e=>e,λ_ _ e=>e,h1,h2,h3,by rw[hh];exact er _,λ_ _ _=>by rw[hh],λ_ h=>h,λ_ _=>rfl,λp hp b hb=>.inr ⟨p,hp,hb⟩,λ_ _ h=>.inl h⟩
 .have:=h.frozen a x ha;simpa only[World.cell?,hh]using this
 .exact(h.holds p hp).keep (λ_ _ _ e=>e) rfl (λ_ _ e=>e) λb _=>⟨by rw[hh],λ_ _ e _=>e⟩
end
abbrev Env:=List (Nat×V)
def Env.get:Env->Nat->V
 |[],_=>.undef
 |(d,v)::r,t=>bif bk t d then v else Env.get r t
def oN(m:M)(Z:ZM)(ρ:Env)(ρr:ye):Prop:=∀t,dQ (aY m) Z (ρ.get t) (ρr t)
structure Ctx(K0:List Nat) where
 base:List ca
 W0:bG
 m0:M
 Z0:ZM
 F0:aw
 hk:keys F0=K0
 Gx:∀k,k ∉ K0->∀L,m0 k L=bh
structure oO{K0:List Nat}(c:Ctx K0)(m:M)(Z:ZM)(H:aw)(w:bG):Prop where
 step:Step c.m0 c.Z0 c.F0 c.W0 m Z H w
 p6:∀k,k ∉ keys H->∀L,m k L=bh
def Qh{K0:List Nat}(c:Ctx K0)(ρ:Env)(H:aw)(ρr:ye)(w:bG):Prop:=∃m Z,oO c m Z H w/\oN m Z ρ ρr
def Step.lp{m m':M}{Z Z':ZM}{F F':aw}{w w':bG}(hs:kp m Z F w)(h:Step m Z F w m' Z' F' w'){b:Nat}{ob:Go.Obj}(hb:w.heap[b]?=aY ob)(hl:Dw ob=bg):w'.heap[b]?=aY ob:=by rw[h.frame b (bP.1 hb).1 λp hp e=>?_,hb];obtain⟨ob',h1,h2⟩:=(hs.holds p hp).X9 b e;rw[hb]at h1;cases h1;rw[hl]at h2;cases h2
def xP{K0:List Nat}(c:Ctx K0)(ds:List ca)(w:bG):Prop:=∃Ds:List (Nat⊕ca),ds=Ds.map (Sum.elim lA.mark id)/\Ds.filterMap gM=c.base/\(Ds.filterMap fG).Nodup/\(∀D∈Ds.filterMap fG,w.heap[D]?=aY (.deferred (aY []))/\c.W0.heap.size<=D)/\∀d∈c.base,∀D,d.target≠.collected D
def xP.nil{K0:List Nat}{c:Ctx K0}{w:bG}(hb:c.base=[]):xP c [] w:=⟨[],rfl,hb.symm,dj,λ_ h=>(by cases h),λd hd=>(by rw[hb]at hd;cases hd)⟩
def xP.marks{K0:List Nat}{c:Ctx K0}{ds:List ca}{w:bG}(h:xP c ds w)(hb:c.base=[]):∃Ds:List Nat,ds=Ds.map lA.mark/\Ds.Nodup/\∀D∈Ds,w.heap[D]?=aY (.deferred (aY []))/\c.W0.heap.size<=D:=by
 obtain⟨l,h1,h2,h3,h4,_⟩:=h;rw[hb]at h2;refine⟨l.filterMap fG,?_,h3,h4⟩;subst h1;clear h3 h4 hb
 induction l with
 |nil=>rfl
 |cons x l ih =>
  cases x with
  |inl D=>simp only[fS,gM,fG,ig,Sum.elim_inl]at h2 ⊢;rw[ih h2]
  |inr d=>simp[fS]at h2
def xP.step{K0:List Nat}{c:Ctx K0}{ds:List ca}{m m':M}{Z Z':ZM}{F F':aw}{w w':bG}(h:xP c ds w)(hs:kp m Z F w)(st:Step m Z F w m' Z' F' w'):xP c ds w':=by obtain⟨Ds,h1,hb,h2,h3,h4⟩:=h;exact⟨Ds,h1,hb,h2,λD hD=>⟨st.lp hs (h3 D hD).1 rfl,(h3 D hD).2⟩,h4⟩
def xP.same{K0:List Nat}{c:Ctx K0}{ds:List ca}{w w':bG}(h:xP c ds w)(hh:w'.heap=w.heap):xP c ds w':=by obtain⟨Ds,h1,hb,h2,h3,h4⟩:=h;exact⟨Ds,h1,hb,h2,λD hD=>by rw[hh];exact h3 D hD,h4⟩
def oO.lps{K0:List Nat}{c:Ctx K0}{m:M}{Z:ZM}{H:aw}{w w':bG}{row:Option Nat}(S:oO c m Z H w)(hg:w.grownBy w' row)(hr:∀b,row=aY b->c.W0.heap.size<=b/\∃o,w.heap[b]?=aY o/\Dw o=bg):oO c m Z H w':=by
 have hs:=S.step
 have nf:∀p∈H,∀b,gT m p b->w'.heap[b]?=w.heap[b]?:=λp hp b hb=>by
  obtain⟨ob,h1,h2⟩:=(hs.iV.holds p hp).X9 b hb
  refine hg.block b (bP.1 h1).1 λe=>?_
  obtain⟨_,o,h3,h4⟩:=hr b e.symm;rw[h1]at h3;cases h3;rw[h4]at h2;cases h2
 have hz:∀a x,Z a=aY x->w'.cell? a=w.cell? a:=λa x ha=>by
  have h1:=hs.iV.frozen a x ha;have h2:=World.block_lt_of_cell? w a h1
  have:w'.heap[a.block]?=w.heap[a.block]?:=by
   refine hg.block _ h2 λe=>?_
   obtain⟨_,o,h3,h4⟩:=hr _ e.symm;simp only[World.cell?,h3]at h1;cases o<;>simp[Dw]at h4<;>cases h1
  simp only[World.cell?,this]
 refine⟨⟨⟨λa x ha=>(hz a x ha).trans (hs.iV.frozen a x ha),λp hp=>(hs.iV.holds p hp).keep (λ_ _ _ e=>e) rfl (λ_ _ e=>e) λb hb=>⟨nf p hp b hb,λ_ _ e _=>e⟩,hs.iV.nodup,hs.iV.nT⟩,hs.nn,hs.ng,hg.os.trans hs.os,hg.tape.trans hs.tape,hg.output.trans hs.output,dN hs.size hg.size,λb hb hn=>?_,hs.keep,hs.pV,hs.mO,hs.pC⟩,S.p6⟩;rw[hg.block b (fa hb hs.size) λe=>by have:=(hr b e.symm).1;omega];exact hs.frame b hb hn
abbrev xE:=Exit->Env->aw->List ca->Prop
def Gc{K0:List Nat}(c:Ctx K0)(Q:xE)(ds:List ca):Yb:=λe ρr lI w=>∃ρ H,Qh c ρ H ρr w/\xP c lI w/\Q e ρ H ds
def l4{K0:List Nat}(c:Ctx K0)(P:bl)(r:Option Nat)(N:Nat)(code:Code)(Q:xE)(ρ:Env)(H:aw)(ds:List ca):Prop:=∀ρr w lI,Qh c ρ H ρr w->xP c lI w->Wp P r N code (Gc c Q ds) ρr lI w
def DY(K:Env->aw->List ca->Prop)(Q:xE):xE
 |.normal,ρ,H,ds=>K ρ H ds
 |e,ρ,H,ds=>Q e ρ H ds
def CM(id:Nat)(Q:xE):xE
 |.exit i,ρ,H,ds=>if i=id then Q .normal ρ H ds else Q (.exit i) ρ H ds
 |e,ρ,H,ds=>Q e ρ H ds
def oN.put{m:M}{Z:ZM}{ρ:Env}{ρr:ye}{v:V}{x:bw}(h:oN m Z ρ ρr)(d:Nat)(hv:dQ (aY m) Z v x):oN m Z ((d,v)::ρ) (ra ρr d x):=by
 intro t
 show dQ (aY m) Z (bif bk t d then v else ρ.get t) (bif bk t d then x else ρr t)
 cases bk t d with
 |true=>exact hv
 |false=>exact h t
def oN.up{m m':M}{Z Z':ZM}{ρ:Env}{ρr:ye}(h:oN m Z ρ ρr)(hZ:∀a x,Z a=aY x->Z' a=aY x)(hm:∀k L loc,m k L=aY loc->m' k L=aY loc):oN m' Z' ρ ρr:=λt=>(h t).up hZ λf e=>by cases e;exact⟨m',rfl,hm⟩
section
variable{K0:List Nat}{c:Ctx K0}{P:bl}{r:Option Nat}{N:Nat}{Q:xE}{ρ:Env}{H:aw}{ds:List ca}
def zAg(h:Q .normal ρ H ds):l4 c P r N .skip Q ρ H ds:=λ_ _ _ S hM=>zAb ⟨ρ,H,S,hM,h⟩
def zAh{id:Nat}(h:Q (.exit id) ρ H ds):l4 c P r N (.exit id) Q ρ H ds:=λ_ _ _ S hM=>zAc ⟨ρ,H,S,hM,h⟩
def aeT(h:Q .ret ρ H ds):l4 c P r N .ret Q ρ H ds:=λ_ _ _ S hM=>aeV ⟨ρ,H,S,hM,h⟩
def aeU{x y:Code}(h:l4 c P r N x (DY (λρ H ds=>l4 c P r N y Q ρ H ds) Q) ρ H ds):l4 c P r N (.seq x y) Q ρ H ds:=
 λρr w lI S hM=>aeW (FZ (h ρr w lI S hM) λe tQ mE w' ⟨ρ',H',S',mr,hQ⟩=>by
  cases e with
  |normal=>exact hQ tQ w' mE S' mr
  |exit id=>exact⟨ρ',H',S',mr,hQ⟩
  |goto l=>exact⟨ρ',H',S',mr,hQ⟩
  |ret=>exact⟨ρ',H',S',mr,hQ⟩
  |panic ch=>exact⟨ρ',H',S',mr,hQ⟩
  |outgrown=>exact⟨ρ',H',S',mr,hQ⟩)
def zv5{id:Nat}{x:Code}(h:l4 c P r N x (CM id Q) ρ H ds):l4 c P r N (.block id x) Q ρ H ds:=
 λρr w lI S hM=>zv2 (FZ (h ρr w lI S hM) λe tQ mE w' ⟨ρ',H',S',mr,hQ⟩=>by
  cases e with
  |exit i =>
   simp only[CM]at hQ;simp only[Mw];split
   .rename_i he;rw[aO he]at hQ;exact⟨ρ',H',S',mr,hQ⟩
   .rename_i he;rw[aN he]at hQ;exact⟨ρ',H',S',mr,hQ⟩
  |normal=>exact⟨ρ',H',S',mr,hQ⟩
  |goto l=>exact⟨ρ',H',S',mr,hQ⟩
  |ret=>exact⟨ρ',H',S',mr,hQ⟩
  |panic ch=>exact⟨ρ',H',S',mr,hQ⟩
  |outgrown=>exact⟨ρ',H',S',mr,hQ⟩)
def zmj{K:Env->aw->List ca->Prop}(h:K ρ H ds):DY K Q .normal ρ H ds:=h
def zmk{K:Env->aw->List ca->Prop}(h:Q .ret ρ H ds):DY K Q .ret ρ H ds:=h
def zjt{id:Nat}{K:Env->aw->List ca->Prop}(h:Q (.exit id) ρ H ds):DY K Q (.exit id) ρ H ds:=h
def zr8{id:Nat}(h:Q .normal ρ H ds):CM id Q .normal ρ H ds:=h
def zr9{id:Nat}(h:Q .ret ρ H ds):CM id Q .ret ρ H ds:=h
def zml{id:Nat}(h:Q .normal ρ H ds):CM id Q (.exit id) ρ H ds:=by
 show(if id=id then Q .normal ρ H ds else Q (.exit id) ρ H ds)
 rw[aO rfl];exact h
def Vg{id i:Nat}(lE:bk i id=bf)(h:Q (.exit i) ρ H ds):CM id Q (.exit i) ρ H ds:=by
 show(if i=id then Q .normal ρ H ds else Q (.exit i) ρ H ds)
 rw[aN (λe=>by subst e;rw[cl]at lE;cases lE)];exact h
end
def pN:bw->V
 |.int k n=>.int k n
 |.bool b=>.bool b
 |.string s=>.str s.data.toList
 |.pointer bh=>.lF
 |.slice bh 0 0=>.iO
 |.nilFunc=>.lZ
 |.map bh=>.lP
 |.nilIface=>.mn
 |.func (.func f) a b=>if a.size=0/\b.size=0 then .fn f [] []else .undef
 |_=>.undef
def Cf:bw->V
 |.agg cs=>.agg (cs.toList.map pN)
 |v=>pN v
def fQ(ρ:Env):bE->V
 |.tmp t=>ρ.get t
 |.const v=>Cf v
 |.global _=>.undef
 |.func f=>.fn f [] []
def Su{m:Option M}{Z:ZM}(v:bw):dQ m Z (pN v) v:=by
 unfold pN;split
 .rfl
 .rfl
 .show _=_;simp
 .rfl
 .rfl
 .rfl
 .rfl
 .rfl
 .split
  .rename_i h;exact⟨[],[],by rw[eF h.1,eF h.2],rfl,rfl⟩
  .trivial
 .trivial
def uc{m:Option M}{Z:ZM}:∀l:List bw,zu m Z (l.map pN) l
 |[]=>rfl
 |v::l=>⟨v,l,rfl,Su v,uc l⟩
def TG{m:Option M}{Z:ZM}(v:bw):dQ m Z (Cf v) v:=by
 unfold Cf;split
 .exact⟨_,ae,uc _⟩
 .exact Su _
def oN.ev{m:M}{Z:ZM}{ρ:Env}{ρr:ye}(h:oN m Z ρ ρr)(x:bE):dQ (aY m) Z (fQ ρ x) (ev ρr x):=by
 cases x with
 |tmp t=>exact h t
 |const v=>exact TG v
 |global g=>trivial
 |func f=>exact⟨[],[],rfl,rfl,rfl⟩
section
variable{K0:List Nat}{c:Ctx K0}{P:bl}{r:Option Nat}{N:Nat}{Q:xE}{ρ:Env}{H:aw}{ds:List ca}
def L2{x:bE}{a b:Code}(t:Bool)(hc:fQ ρ x=.bool t)(h1:t=bg->l4 c P r N a Q ρ H ds)(h2:t=bf->l4 c P r N b Q ρ H ds):l4 c P r N (.cond x a b) Q ρ H ds:=
 λρr w lI S hM=>zAd t (by obtain⟨m,Z,_,hR⟩:=S;have:=hR.ev x;rw[hc]at this;exact this) (λe=>h1 e ρr w lI S hM) (λe=>h2 e ρr w lI S hM)
def zAi{G:Type}{x:Code}(env:G->Env)(hp:G->aw)(Inv:G->Prop)(nv:G->Nat)(g0:G)(hi:Inv g0)
  (Er:∀g,Inv g->l4 c P r N x (DY (λρ' H' mE=>mE=ds/\∃g',ρ'=env g'/\H'=hp g'/\Inv g'/\nv g'<nv g) Q) (env g) (hp g) ds):l4 c P r N (.loop x) Q (env g0) (hp g0) ds:=by
 intro ρr w lI S hM a n hf
 let I:Act->bG->Nat->Prop:=λa w m=>∃g ρ' ry,nG N ry a ρ'/\Qh c (env g) (hp g) ρ' w/\xP c ry w/\Inv g/\nv g=m
 have hex:∀a w,(∃m,I a w m)->∃m,I a w m/\∀k,k<m->¬I a w k:=λa w ⟨m,hm⟩=>least _ m hm
 refine wpIn_loop (λa w=>∃m,I a w m) (λa w=>(Classical.epsilon λm=>I a w m/\∀k,k<m->¬I a w k)) ⟨_,g0,ρr,lI,hf,S,hM,hi,rfl⟩ ?_;intro a w hI;obtain⟨⟨g,ρ',ry,m_,hS,hM2,hinv,hm⟩,afJ⟩:=Classical.epsilon_spec (hex a w hI)
 refine wpIn_mono (Er g hinv ρ' w ry hS hM2 a n m_) λe a' w' hq=>?_
 obtain⟨pq,ry,sK,CS,Hv,S2,B7,hq⟩:=hq
 cases e with
 |normal =>
  obtain⟨_,g',rfl,rfl,aeg,iB⟩:=hq
  have Ic:I a' w' (nv g'):=⟨g',pq,ry,sK,S2,B7,aeg,rfl⟩
  refine⟨⟨_,Ic⟩,?_⟩;obtain⟨_,aek⟩:=Classical.epsilon_spec (hex a' w' ⟨_,Ic⟩);refine Nat.lt_of_le_of_lt ?_ (hm▸iB)
  exact Nat.le_of_not_lt λhl=>aek _ hl Ic
 |exit id=>exact⟨pq,ry,sK,CS,Hv,S2,B7,hq⟩
 |goto l=>exact⟨pq,ry,sK,CS,Hv,S2,B7,hq⟩
 |ret=>exact⟨pq,ry,sK,CS,Hv,S2,B7,hq⟩
 |panic ch=>exact⟨pq,ry,sK,CS,Hv,S2,B7,hq⟩
 |outgrown=>exact⟨pq,ry,sK,CS,Hv,S2,B7,hq⟩
end
def ua(ks:List Nat)(H:aw):Option aw:=
 match ks with
 |[]=>aY []
 |k::r=>match H.get k,ua r H with
  |some o,aY l=>aY ((k,o)::l)
  |_,_=>bh
def Obj.refs:Obj->List Nat
 |.box _ cs=>y8 cs
 |_=>[]
def nodupB:List Nat->Bool
 |[]=>bg
 |k::r=>!(r.contains k)&&nodupB r
def yn:∀{l:List Nat},nodupB l=bg->l.Nodup
 |[],_=>dj
 |k::r,h=>by simp only[nodupB,bn,bL,bX,aW]at h;exact cr.2 ⟨h.1,yn h.2⟩
def aw.get_mem:∀{H:aw}{k:Nat}{o:Obj},H.get k=aY o->(k,o)∈H
 |[],_,_,h=>by cases h
 |(k',o')::r,k,o,h=>by
  simp only[aw.get]at h
  cases hb:bk k k' with
  |true =>
   rw[hb]at h;have:=eb hb;subst this;simp only[ct,Option.some.injEq]at h;subst h;exact ak
  |false =>rw[hb]at h;exact iT _ (aw.get_mem h)
def yK:∀{ks:List Nat}{H H':aw},ua ks H=aY H'->keys H'=ks/\∀p∈H',p∈H
 |[],_,_,h=>by cases h;exact⟨rfl,λ_ h=>by cases h⟩
 |k::r,H,H',h=>by
  simp only[ua]at h;split at h
  .rename_i o l h1 h2;cases h;obtain⟨h3,h4⟩:=yK h2;refine⟨by simp[keys]at h3 ⊢;exact h3,λp hp=>?_⟩
   rcases bo.1 hp with rfl|hp
   .exact aw.get_mem h1
   .exact h4 p hp
  .cases h
def oO.cut{K0:List Nat}{c:Ctx K0}{m:M}{Z:ZM}{H H':aw}{w:bG}(ks:List Nat)(hH:ua ks H=aY H')(nL:nodupB ks=bg)(hK:K0.all ks.contains=bg)(hO:(H'.all λp=>p.2.refs.all ks.contains)=bg)(S:oO c m Z H w):
  ∃m',oO c m' Z H' w/\∀v x,v.refs.all ks.contains=bg->dQ (aY m) Z v x->dQ (aY m') Z v x:=by
 obtain⟨lM,nU⟩:=yK hH
 let m':M:=λk L=>if k∈ks then m k L else bh
 have hin:∀k∈ks,m' k=m k:=λk hk=>by funext L;simp[m',hk]
 have hb:∀p∈H',gT m' p=gT m p:=λp lu=>P8 (hin p.1 (lM▸ax lu))
 have hs:=S.step;refine⟨m',⟨⟨⟨hs.iV.frozen,λp lu=>?_,by rw[lM];exact yn nL,λp lu q hq b h1 h2=>hs.iV.nT p (nU p lu) q (nU q hq) b (hb p lu▸h1) (hb q hq▸h2)⟩,?_,hs.ng,hs.os,hs.tape,hs.output,hs.size,hs.frame,?_,?_,?_,hs.pC⟩,?_⟩,?_⟩
 .have hh:=hs.iV.holds p (nU p lu);have lg:p.1∈ks:=lM▸ax lu;obtain⟨k,o⟩:=p
  cases o with
  |box t cs =>
   obtain⟨b,cur,h1,h2,h3,h4,h5⟩:=hh;refine⟨b,cur,by rw[hin k lg];exact h1,h2,h3.swap λj hj L loc e=>?_,h4,by rw[hin k lg];exact h5⟩;have:=(bm.1 hO) _ lu;have:=(bm.1 this) j hj;rw[hin j (by simpa using this)];exact e
  |row t sz fz els =>
   rcases hh with⟨h1,h2,h3,⟨b,h4⟩,h5⟩|⟨b,cap,cur,fr,h1,h2⟩
   .exact .inl ⟨h1,h2,h3,⟨b,by rw[hin k lg];exact h4⟩,by rw[hin k lg];exact h5⟩
   .exact .inr ⟨b,cap,cur,fr,by rw[hin k lg];exact h1,by rw[hin k lg];exact h2⟩
  |map l =>
   obtain⟨b,es,clock,h1,h2⟩:=hh;exact⟨b,es,clock,by rw[hin k lg];exact h1,by rw[hin k lg];exact h2⟩
  |my g t cs=>exact⟨by rw[hin k lg];exact hh.1,hh.2.1,by rw[hin k lg];exact hh.2.2⟩
  |nest t e sz pd ls =>
   show kS (m' k) _ _ t e sz pd ls
   rw[hin k lg];exact hh
  |gen G =>
   show G.holds (m' k) _ _
   rw[hin k lg];exact hh
 .intro k L loc e;by_cases hk:k∈K0
  .have:=(bm.1 hK) k hk;rw[hin k (by simpa using this)];exact hs.nn k L loc e
  .rw[c.Gx k hk]at e;cases e
 .intro k hk;rw[lM];have:=(bm.1 hK) k (c.hk▸hk);simpa using this
 .intro k hk;rw[lM]at hk
  funext L
  rw[c.Gx k (λh=>hk (by have:=(bm.1 hK) k h;simpa using this))];simp[m',hk]
 .intro p lu b hbb;exact hs.mO p (nU p lu) b (hb p lu▸hbb)
 .intro k hk L;rw[lM]at hk;simp[m',hk]
 .intro v x hr h
  exact h.swap λj hj L loc e=>by have:=(bm.1 hr) j hj;rw[hin j (by simpa using this)];exact e
def Bp(P:bl)(o:Oper)(ρr:ye)(w:bG)(R:bw->bG->Prop):Prop:=
 j6 o.op=bg/\((∃x w',(bU (ev ρr) o).run P w=.ok (.value x) w'/\R x w')∨(∃w',(bU (ev ρr) o).run P w=.ok .skip w'/\R Go.undef w') ∨
  ∃f args w1,(bU (ev ρr) o).run P w=.ok (.enter f args) w1/\Calls P f args w1 λen w'=>∃x,en=.returned x/\R x w')
def Bp.mono{P:bl}{o:Oper}{ρr:ye}{w:bG}{R R':bw->bG->Prop}(h:Bp P o ρr w R)(hm:∀x w',R x w'->R' x w'):Bp P o ρr w R':=by
 refine⟨h.1,?_⟩
 rcases h.2 with⟨x,w',h1,h2⟩|⟨w',h1,h2⟩|⟨f,args,w1,h1,h2⟩
 .exact .inl ⟨x,w',h1,hm _ _ h2⟩
 .exact .inr (.inl ⟨w',h1,hm _ _ h2⟩)
 .exact .inr (.inr ⟨f,args,w1,h1,Calls.mono h2 λ_ _ ⟨x,e,hr⟩=>⟨x,e,hm _ _ hr⟩⟩)
def Loc(P:bl)(o:Oper)(ρ:Env)(F:aw)(v:V)(F':aw):Prop:=
 ∀ρr m Z w,(∀x∈o.op.operands,dQ (aY m) Z (fQ ρ x) (ev ρr x))->kp m Z F w->(∀k∈keys F',k ∉ keys F->∀L,m k L=bh) ->
  Bp P o ρr w λx w'=>∃m' Z',Step m Z F w m' Z' F' w'/\dQ (aY m') Z' v x
def yv(all:List Oper)(ρ:Env)(o:Oper):Option Bool:=
 match o.guard with
 |none=>aY bg
 |some (j,want)=>match (all[j]?).bind (·.dst)with
  |some d=>match ρ.get d with
   |.bool b=>aY (b==want)
   |.no=>aY bf
   |_=>bh
  |none=>bh
def vf{all:List Oper}{ρ:Env}{ρr:ye}{m:M}{Z:ZM}{o:Oper}{t:Bool}(hR:oN m Z ρ ρr)(h:yv all ρ o=aY t):wanted all ρr o=t:=by
 unfold yv at h;unfold wanted
 cases hg:o.guard with
 |none=>rw[hg]at h;simpa using h
 |some p =>
  obtain⟨j,want⟩:=p;rw[hg]at h;simp only[gv]at h ⊢
  cases hd:(all[j]?).bind (·.dst)with
  |none=>rw[hd]at h;cases h
  |some d =>
   rw[hd]at h;simp only at h ⊢;have hr:=hR d;split at h
   .rename_i b hb;rw[hb]at hr;simp only[dQ]at hr;rw[hr];simp only[Option.some.injEq]at h;subst h;cases b<;>cases want<;>rfl
   .rename_i hb;rw[hb]at hr;simp only[dQ]at hr;rw[hr];simp only[Option.some.injEq]at h;subst h;rfl
   .cases h
def QS{K0:List Nat}(c:Ctx K0)(P:bl)(r:Option Nat)(N:Nat)(all:List Oper)(Q:xE)(l:List Oper)(ρ:Env)(H:aw)(ds:List ca):Prop:=∀ρr w lI,Qh c ρ H ρr w->xP c lI w->pE P r N all (Gc c Q ds) l ρr lI w
def kr(ks:List Nat)(H:aw):aw:=H.filter λp=>!ks.contains p.1
def xQ{α β:Type}(f:α->β):∀{l:List α},(l.map f).Nodup->l.Nodup
 |[],_=>dj
 |a::l,h=>by rw[ig,cr]at h;exact cr.2 ⟨λha=>h.1 (cv ha),xQ f h.2⟩
def ku:∀{ks:List Nat}{H F:aw},(keys H).Nodup->ks.Nodup->ua ks H=aY F->H.Perm (F++kr ks H):=by
 intro ks H F hH lM hF
 have h1:∀p,p∈H↔p∈F++kr ks H:=by
  obtain⟨h2,h3⟩:=yK hF;intro p;rw[bI];constructor
  .intro hp;by_cases hk:p.1∈ks
   .left;rw[<- h2]at hk;obtain⟨q,hq,e⟩:=bF.1 hk;have hqH:=h3 q hq
    have:q=p:=by
     have s_:∀(l:aw),(keys l).Nodup->∀p∈l,∀q∈l,q.1=p.1->q=p:=by
      intro l hl
      induction l with
      |nil=>intro p hp;cases hp
      |cons a l ih =>
       simp only[keys,ig,cr]at hl;intro p hp q hq e
       rcases bo.1 hp with h1|h1<;>rcases bo.1 hq with h2|h2
       .rw[h1,h2]
       .exact(hl.1 (bF.2 ⟨q,h2,by rw[e,h1]⟩)).elim
       .exact(hl.1 (bF.2 ⟨p,h1,by rw[<- e,h2]⟩)).elim
       .exact ih hl.2 p h1 q h2 e
     exact s_ H hH p hp q hqH e
    exact this▸hq
   .right;simp only[kr,du,bL,bX,aW];exact⟨hp,hk⟩
  .rintro(hp|hp)
   .exact h3 p hp
   .exact(du.1 hp).1
 have hn:H.Nodup:=xQ _ hH
 have qa:(F++kr ks H).Nodup:=by obtain⟨h2,h3⟩:=yK hF;refine cz.2 ⟨xQ _ (by show(keys F).Nodup;rw[h2];exact lM),hn.filter _,λa ha b hb e=>?_⟩;subst e;have:=(du.1 hb).2;simp only[bL,bX,aW]at this;exact this (h2▸ax ha)
 exact(fb hn qa).2 h1
def Jk(F':aw)(ks:List Nat)(H:aw):Bool:=F'.all λp=>ks.contains p.1||!((keys H).contains p.1)
section
variable{K0:List Nat}{c:Ctx K0}{P:bl}{r:Option Nat}{N:Nat}{Q:xE}{ρ:Env}{H:aw}{ds:List ca}{all rest:List Oper}{o:Oper}
def oO.GG{m m':M}{Z Z':ZM}{F F':aw}{w w':bG}{ks:List Nat}(S:oO c m Z H w)(lM:nodupB ks=bg)(hF:ua ks H=aY F)(ln:Jk F' ks H=bg)
  (h:kp m Z F w->(∀k∈keys F',k ∉ keys F->∀L,m k L=bh)->Step m Z F w m' Z' F' w'):oO c m' Z' (F'++kr ks H) w':=by
 have hp:=ku S.step.iV.nodup (yn lM) hF;obtain⟨h2,h3⟩:=yK hF;have hs:kp m Z (F++kr ks H) w:=S.step.iV.perm hp
 have mf:∀k∈keys F',k ∉ keys F->k ∉ keys H:=by
  intro k hk na;obtain⟨p,lu,rfl⟩:=bF.1 hk;have:=(bm.1 ln) p lu;simp only[cM,bX,aU,bL,aW]at this
  rcases this with this|this
  .exact aQ (h2▸this) na
  .exact this
 have iy:=h hs.left (λk hk na=>S.p6 k (mf k hk na))
 have tt:∀p∈F',∀q∈kr ks H,p.1≠q.1:=by
  intro p lu q hq e;have OS:=du.1 hq;by_cases C8:p.1∈keys F
  .have:=OS.2;simp only[bL,bX,aW]at this;exact this (by rw[<- e,<- h2];exact C8)
  .exact mf p.1 (ax lu) C8 (by rw[e];exact ax OS.1)
 have ln:=Step.By hs iy tt;refine⟨(S.step.GF hp).trans ln,λk hk L=>?_⟩;rw[ln.pV k hk];exact S.p6 k (λmi=>hk (ln.keep k ((hp.map _).mem_iff.1 mi))) L
def zAj(h:Q .normal ρ H ds):QS c P r N all Q [] ρ H ds:=λ_ _ _ S hM=>zv3 ⟨ρ,H,S,hM,h⟩
def zv7(d:Nat)(hd:o.dst=aY d)(hN:ck (d+1) N=bg)(hw:yv all ρ o=aY bf)(h:QS c P r N all Q rest ((d,.no)::ρ) H ds):QS c P r N all Q (o::rest) ρ H ds:=by rintro ρr w lI ⟨m,Z,S,hR⟩ hM;exact zr3 d hd hN (vf hR hw) (h _ _ _ ⟨m,Z,S,hR.put d rfl⟩ hM)
def zsa(hd:o.dst=bh)(hw:yv all ρ o=aY bf)(h:QS c P r N all Q rest ρ H ds):QS c P r N all Q (o::rest) ρ H ds:=by rintro ρr w lI ⟨m,Z,S,hR⟩ hM;exact zmc hd (vf hR hw) (h _ _ _ ⟨m,Z,S,hR⟩ hM)
def zAk{F F':aw}{v:V}(d:Nat)(ks:List Nat)(hd:o.dst=aY d)(hN:ck (d+1) N=bg)(hw:yv all ρ o=aY bg)(lM:nodupB ks=bg)(hF:ua ks H=aY F)(hl:Loc P o ρ F v F')(ln:Jk F' ks H=bg)
  (h:QS c P r N all Q rest ((d,v)::ρ) (F'++kr ks H) ds):QS c P r N all Q (o::rest) ρ H ds:=by
 rintro ρr w lI ⟨m,Z,S,hR⟩ hM a n hf;have hp:=ku S.step.iV.nodup (yn lM) hF;have hs:kp m Z (F++kr ks H) w:=S.step.iV.perm hp;obtain⟨h2,h3⟩:=yK hF
 obtain⟨hn,hex⟩:=hl ρr m Z w (λx _=>hR.ev x) hs.left (λk hk na=>S.p6 k (by
  obtain⟨p,lu,rfl⟩:=bF.1 hk;have:=(bm.1 ln) p lu;simp only[cM,bX,aU,bL,aW]at this
  rcases this with this|this
  .exact aQ (h2▸this) na
  .exact this))
 have go:∀x w',(∃m' Z',Step m Z F w m' Z' F' w'/\dQ (aY m') Z' v x)->pE P r N all (Gc c Q ds) rest (ra ρr d x) lI w':=λx w' ⟨m',Z',iy,hr⟩ =>h _ _ _ ⟨m',Z',S.GG lM hF ln (λ_ _=>iy),(hR.up iy.ng iy.nn).put d hr⟩ (hM.step hs.left iy)
 rcases hex with⟨x,w',mg,hx⟩|⟨w',mg,hx⟩|⟨f,args,w1,mg,hx⟩
 .exact TE d x hd hN (vf hR hw) hn mg (go x w' hx) a n hf
 .have o_:=(hf.wanted all _).trans (vf hR hw);simp only[wpListIn,o_,if_true];refine⟨λ_ _=>trivial,?_⟩;rw[Ji hn,hf.eval,mg,Oper.uponIn_skip,hd];exact go _ w' hx _ n (hf.put (lR hN) _)
 .exact zme d hd hN (vf hR hw) hn mg hx (λe sq ⟨x,he,hr⟩=>⟨x,he,go x sq hr⟩) a n hf
def zv8{F F':aw}{v:V}(ks:List Nat)(hd:o.dst=bh)(hw:yv all ρ o=aY bg)(lM:nodupB ks=bg)(hF:ua ks H=aY F)(hl:Loc P o ρ F v F')(ln:Jk F' ks H=bg)
  (h:QS c P r N all Q rest ρ (F'++kr ks H) ds):QS c P r N all Q (o::rest) ρ H ds:=by
 rintro ρr w lI ⟨m,Z,S,hR⟩ hM a n hf;have hp:=ku S.step.iV.nodup (yn lM) hF;have hs:kp m Z (F++kr ks H) w:=S.step.iV.perm hp;obtain⟨h2,h3⟩:=yK hF
 obtain⟨hn,hex⟩:=hl ρr m Z w (λx _=>hR.ev x) hs.left (λk hk na=>S.p6 k (by
  obtain⟨p,lu,rfl⟩:=bF.1 hk;have:=(bm.1 ln) p lu;simp only[cM,bX,aU,bL,aW]at this
  rcases this with this|this
  .exact aQ (h2▸this) na
  .exact this))
 have go:∀x w',(∃m' Z',Step m Z F w m' Z' F' w'/\dQ (aY m') Z' v x)->pE P r N all (Gc c Q ds) rest ρr lI w':=λx w' ⟨m',Z',iy,hr⟩ =>h _ _ _ ⟨m',Z',S.GG lM hF ln (λ_ _=>iy),hR.up iy.ng iy.nn⟩ (hM.step hs.left iy)
 have o_:=(hf.wanted all _).trans (vf hR hw);simp only[wpListIn,o_,if_true];refine⟨λ_ _=>trivial,?_⟩;rw[Ji hn,hf.eval]
 rcases hex with⟨x,w',mg,hx⟩|⟨w',mg,hx⟩|⟨f,args,w1,mg,hx⟩
 .rw[mg,Oper.uponIn_value,hd];exact go x w' hx _ n (hf.Es _)
 .rw[mg,Oper.uponIn_skip,hd];exact go _ w' hx _ n (hf.Es _)
 .rw[mg,Oper.uponIn_enter];refine⟨λhx=>by simp[Fw]at hx,(Kh r hx).mono λe sq ⟨x,he,hr⟩=>?_⟩;subst he;rw[hd];exact go x sq hr _ n (hf.Es _)
def zsb{id:Nat}{l:List Oper}(h:QS c P r N l Q l ρ H ds):l4 c P r N (.region id l.toArray bf) Q ρ H ds:=λρr w lI S hM=>zr2 (h ρr w lI S hM)
end
end Go.EV
namespace Go.lA
open Go Go.RowKit
def sub(k:Nat)(v:bw)(lo hi:Nat):bw:=
 match v with
 |.slice A _ c=>.slice (if c=lo then A else A.map (·.add (lo*k))) (hi-lo) (c-lo)
 |v=>v
section
variable{P:bl}{ρ:ye}{w W:bG}{dst:Option Tmp}{ty:bu}{pos:String}{aft:Array Edge}{gd:Option (Nat×Bool)}{α:Type}{enc:α->List bw}{k:Nat}{v:bw}{l:List α}
end
inductive Tag where
 |int (k:IntKind)
 |bool
 |str
 deriving DecidableEq
def Bi:TypeDesc->Option Tag|.int k=>aY (.int k)|.bool=>aY .bool|.string=>aY .str|_=>bh
def Cn:Tag->bw->Bool|.int k,.int k' _=>decide (k=k')|.bool,.bool _=>bg|.str,.string _=>bg|_,_=>bf
def B1:bw->bw->Bool|.int _ a,.int _ b=>decide (a=b)|.bool a,.bool b=>a==b|.string a,.string b=>decide (a.data.toList=b.data.toList)|_,_=>bf
def sV:List bw->List bw->Bool|[],[]=>bg|a::l,b::m=>B1 a b&&sV l m|_,_=>bf
def Ht:List Tag->List bw->Bool|[],[]=>bg|k::ks,v::vs=>Cn k v&&Ht ks vs|_,_=>bf
def Vh(P:bl):List Field->Nat->List Tag->Bool
 |[],_,[]=>bg
 | f :: fs, i, k :: ks => !(f.name == "_") && (bk f.offset i && ((match P.underlying f.type with | some d => decide (Bi d = aY k) | none => bf) && Vh P fs (i + 1) ks))
 |_,_,_=>bf
def Gf(P:bl)(t:bu)(ks:List Tag):Prop:=P.underlying t=aY (.struct (P.fieldsOf t))/\P.stoodInHeld t=bf/\P.eqGuardType P.depth t=bf/\Vh P (P.fieldsOf t).toList 0 ks=bg
def ZG(P:bl)(t:bu)(ks:List Tag):Bool:=(match P.underlying t with|some (.struct _)=>bg|_=>bf)&&((!P.stoodInHeld t)&&((!P.eqGuardType P.depth t)&&Vh P (P.fieldsOf t).toList 0 ks))
def zv9{P:bl}{t:bu}{ks:List Tag}(h:ZG P t ks=bg):Gf P t ks:=by
 simp only[ZG,bn,bL]at h;obtain⟨h1,h2,h3,h4⟩:=h;refine⟨?_,h2,h3,h4⟩;split at h1
 .rename_i fs hf;simp[Program.fieldsOf,hf]
 .cases h1
section
variable{P:bl}{ρ:ye}{w:bG}{dst:Option Tmp}{ty:bu}{pos:String}{aft:Array Edge}{gd:Option (Nat×Bool)}
def Vi{d:Nat}{t:Nat}{k:Tag}{a b:bw}{desc:TypeDesc}(hu:P.underlying t=aY desc)(ht:Bi desc=aY k)(ha:Cn k a=bg)(hb:Cn k b=bg):(Op.equalIn (d+1) t a b).run P w=.ok (B1 a b) w:=by
 cases desc<;>simp only[Bi,Option.some.injEq,reduceCtorEq]at ht<;>subst ht<;>(cases a<;>simp only[Cn,cu]at ha<;>cases b<;>simp only[Cn,cu]at hb)
 .rw[run_equalIn_bool' w d t _ _ hu];rfl
 .have ha:=aX ha;have hb:=aX hb;subst ha;subst hb;rw[run_equalIn_int w d t _ _ _ _ hu];rfl
 .rw[run_equalIn_string w d t _ _ hu];simp only[B1,ByteArray.toList_eq];congr 1;rw[ek];simp
def Sv{t:Nat}{k:Tag}{desc:TypeDesc}(hu:P.underlying t=aY desc)(ht:Bi desc=aY k):(isAgg t).run P w=.ok bf w:=by unfold isAgg;cases desc<;>simp only[Bi,reduceCtorEq]at ht<;>simp[run_underlying hu]
def KW{d:Nat}{xs ys:List bw}:∀(fs:List Field)(i:Nat)(ks:List Tag),Vh P fs i ks=bg->Ht ks (xs.drop i)=bg->Ht ks (ys.drop i)=bg ->
  (Op.eqFields (d+1) xs.toArray ys.toArray fs).run P w=.ok (sV (xs.drop i) (ys.drop i)) w:=by
 intro fs
 induction fs with
 |nil =>
  intro i ks h hx hy
  cases ks with
  |cons k ks=>cases h
  |nil =>
   cases pJ:xs.drop i with
   |cons a l=>rw[pJ]at hx;cases hx
   |nil =>
    cases pt:ys.drop i with
    |cons a l=>rw[pt]at hy;cases hy
    |nil=>simp[Op.eqFields,sV]
 |cons f fs ih =>
  intro i ks h hx hy
  cases ks with
  |nil=>cases h
  |cons k ks =>
   simp only[Vh,bn]at h;obtain⟨h1,h2,h3,h4⟩:=h;have h2:=eb h2
   have h1 : f.name ≠ "_" := by simpa using h1
   cases pJ:xs.drop i with
   |nil=>rw[pJ]at hx;cases hx
   |cons a l =>
    cases pt:ys.drop i with
    |nil=>rw[pt]at hy;cases hy
    |cons b m =>
     rw[pJ]at hx;rw[pt]at hy;simp only[Ht,bn]at hx hy
     have ex:xs.drop (i+1)=l:=by rw[<- dW,pJ];rfl
     have ey:ys.drop (i+1)=m:=by rw[<- dW,pt];rfl
     have gx:xs[i]?=aY a:=by have:=aP (·[0]?) pJ;simpa using this
     have gy:ys[i]?=aY b:=by have:=aP (·[0]?) pt;simpa using this
     cases hu:P.underlying f.type with
     |none=>rw[hu]at h3;cases h3
     |some desc =>
      rw[hu]at h3
      have h3:Bi desc=aY k:=by simpa using h3
      have ih:=ih (i+1) ks h4 (by rw[ex];exact hx.2) (by rw[ey];exact hy.2);rw[ex,ey]at ih
      have px:(part f.type xs.toArray f.offset).run P w=.ok a w:=by simp[part,Sv hu h3,h2,gx]
      have py:(part f.type ys.toArray f.offset).run P w=.ok b w:=by simp[part,Sv hu h3,h2,gy]
      rw[Op.eqFields,aO h1];simp only[Sem.run_bind,px,py,Result.andThen_ok,Vi hu h3 hx.1 hy.1,sV];cases B1 a b
      .simp
      .simp[ih]
def zwa{t t':bu}{ks:List Tag}{a b:List bw}{x y:bE}(res:Bool)(hF:Gf P t ks)(ha:ev ρ x=.agg a.toArray)(hb:ev ρ y=.agg b.toArray)(IC:Ht ks a=bg)(pH:Ht ks b=bg)(hr:sV a b=res):
  (bU (ev ρ) ⟨dst,.binOp .eql t x y t',ty,pos,aft,gd⟩).run P w=.ok (.value (.bool res)) w:=by obtain⟨h1,h2,h3,h4⟩:=hF;have h:=KW (P:=P) (w:=w) (d:=9998) (xs:=a) (ys:=b) _ 0 ks h4 (by simpa using IC) (by simpa using pH);simp only[dJ]at h;simp[bU,ha,hb,run_eqGuard_agg w _ t x y _ _ h3,run_eql_struct,run_equalIn_agg w 9999 t _ _ h1 h2,h,hr]
def zwb{t t':bu}{ks:List Tag}{a b:List bw}{x y:bE}(res:Bool)(hF:Gf P t ks)(ha:ev ρ x=.agg a.toArray)(hb:ev ρ y=.agg b.toArray)(IC:Ht ks a=bg)(pH:Ht ks b=bg)(hr:sV a b=res):
  (bU (ev ρ) ⟨dst,.binOp .neq t x y t',ty,pos,aft,gd⟩).run P w=.ok (.value (.bool (!res))) w:=by obtain⟨h1,h2,h3,h4⟩:=hF;have h:=KW (P:=P) (w:=w) (d:=9998) (xs:=a) (ys:=b) _ 0 ks h4 (by simpa using IC) (by simpa using pH);simp only[dJ]at h;simp[bU,ha,hb,run_eqGuard_agg w _ t x y _ _ h3,run_neq_struct,run_equalIn_agg w 9999 t _ _ h1 h2,h,hr]
def zjw{t:bu}{parts:List (Nat×bE)}(ps:List (Nat×bw))(cs:List bw)(hp:parts.map (λp=>(p.1,ev ρ p.2))=ps)(h:P.built t ps=aY cs.toArray):
  (bU (ev ρ) ⟨dst,.build t parts.toArray,ty,pos,aft,gd⟩).run P w=.ok (.value (.agg cs.toArray)) w:=by
 have e:(parts.toArray.map λx=>(x.1,ev ρ x.2))=ps.toArray:=by rw[<- hp];simp
 simp only[bU,e];simp[run_build w t ps.toArray cs.toArray (by simpa using h)]
end
section
variable{P:bl}{r:Option Nat}{N:Nat}{Q:Yb}{ρ:ye}{ds:List ca}{w W0:bG}{L:List Own}
variable{all rest:List Oper}{ty:bu}{pos:String}{aft:Array Edge}{gd:Option (Nat×Bool)}
end
end Go.lA
namespace Go.EV
open Go Go.RowKit Go.lA
def acy(P:bl)(t:bu):Option Tag:=match P.underlying t with|some d=>Bi d|none=>bh
def Sw(P:bl)(t:bu):Option (List Tag):=
 match (P.fieldsOf t).toList.mapM (λf=>acy P f.type)with
 |some ks=>if ZG P t ks then aY ks else bh
 |none=>bh
def Vj:Tag->V->Bool|.int k,.int k' _=>decide (k=k')|.bool,.bool _=>bg|.str,.str _=>bg|_,_=>bf
def qL:List Tag->List V->Bool|[],[]=>bg|k::ks,v::vs=>Vj k v&&qL ks vs|_,_=>bf
def Fv:V->V->Bool|.int _ a,.int _ b=>decide (a=b)|.bool a,.bool b=>a==b|.str a,.str b=>decide (a=b)|_,_=>bf
def DZ:List V->List V->Bool|[],[]=>bg|[a],[b]=>Fv a b|a::l,b::m=>Fv a b&&DZ l m|_,_=>bf
def Pv(op:BinOp)(k:IntKind)(a b:Int):Option V:=
 match op with
 |.and=>aY (.int k (k.wrap (dP k.bits a &&& dP k.bits b).toNat))
 | .or=>aY (.int k (k.wrap (dP k.bits a ||| dP k.bits b).toNat))
 |.xor=>aY (.int k (k.wrap (dP k.bits a ^^^ dP k.bits b).toNat))
 |.andNot=>aY (.int k (k.wrap (dP k.bits a &&& ~~~dP k.bits b).toNat))
 |_=>bh
def Dx(op:BinOp)(k:IntKind)(a b:Int):Option V:=
 match op with
 |.lss=>aY (.bool (decide (a<b)))
 |.leq=>aY (.bool (decide (a<=b)))
 |.gtr=>aY (.bool (decide (a>b)))
 |.geq=>aY (.bool (decide (a>=b)))
 |.eql=>aY (.bool (decide (a=b)))
 |.neq=>aY (.bool (!decide (a=b)))
 |.add=>aY (.int k (k.wrap (a+b)))
 |.sub=>aY (.int k (k.wrap (a-b)))
 |.mul=>aY (.int k (k.wrap (a*b)))
 |.quo=>if b=0 then bh else aY (.int k (k.wrap (a.tdiv b)))
 |.rem=>if b=0 then bh else aY (.int k (a.tmod b))
 |op=>Pv op k a b
def L3(op:BinOp)(k:IntKind)(a b:Int):Option V:=
 if b<0 then bh else
 match op with
 |.shl=>aY (.int k (k.wrap (a*2 ^ (min b.toNat k.bits))))
 |.shr=>aY (.int k (a.fdiv (2 ^ (min b.toNat k.bits))))
 |_=>bh
def NC(op:BinOp)(a b:aj):Option V:=
 match op with
 |.eql=>aY (.bool (decide (a=b)))
 |.neq=>aY (.bool (!decide (a=b)))
 |.lss=>aY (.bool (Op.bytesLess a b))
 | .leq=>aY (.bool (Op.bytesLess a b||decide (a=b)))
 | .gtr=>aY (.bool (!(Op.bytesLess a b||decide (a=b))))
 |.geq=>aY (.bool (!Op.bytesLess a b))
 |_=>bh
def Dz:V->Option Bool
 |.lF|.iO|.lZ|.lP=>aY bg
 |.ptr ..|.vp ..|.fn ..|.mp _=>aY bf
 |.sl _ _ (_+1) _ (_+1)=>aY bf
 |.vs _ (_::_)=>aY bf
 |_=>bh
def CN(P:bl)(t:bu):V->Bool
 |.lF=>match P.underlying t with|some (.pointer _)=>bg|_=>bf
 |.iO=>match P.underlying t with|some (.slice _)=>bg|_=>bf
 |.lZ=>match P.underlying t with|some (.func ..)=>bg|_=>bf
 |.lP=>match P.underlying t with|some (.map ..)=>bg|_=>bf
 |_=>bf
def UG:V->V->Bool
 |.lF,.lF|.ptr ..,.lF|.vp ..,.lF=>bg
 |.iO,.iO|.sl ..,.iO|.vs ..,.iO=>bg
 |.lZ,.lZ|.fn ..,.lZ=>bg
 |.lP,.lP|.mp _,.lP=>bg
 |_,_=>bf
def Co(P:bl)(t:bu)(x y:V):Option Bool:=if CN P t y&&UG x y then Dz x else bh
def Pw(P:bl)(t:bu):Bool:=match P.underlying t with|some .bool=>bg|_=>bf
def Fx(P:bl)(t:bu)(x y:V):Option Bool:=
 match x,y with
 |.bool a,.bool b=>if Pw P t then aY (a==b)else bh
 |.agg a,.agg b=>match Sw P t with
  |some ks=>if qL ks a&&qL ks b then aY (DZ a b)else bh
  |none=>bh
 |_,_=>bh
def DL(P:bl)(op:BinOp)(t:bu)(x y:V):Option V:=
 match x,y with
 |.int k a,.int k' b=>match op with
  |.shl|.shr=>L3 op k a b
  |_=>if k=k' then Dx op k a b else bh
 |.str a,.str b=>NC op a b
 |x,y=>match op with
  |.eql=>(Fx P t x y).map .bool
  |.neq=>(Fx P t x y).map λb=>.bool (!b)
  |_=>bh
section
variable{P:bl}{ρr:ye}{w:bG}{dst:Option Tmp}{ty:bu}{pos:String}{aft:Array Edge}{gd:Option (Nat×Bool)}{m:Option M}{Z:ZM}
def ZH{op:BinOp}{t t':bu}{x y:bE}{k:IntKind}{a b:Int}{v:V}(hx:ev ρr x=.int k a)(hy:ev ρr y=.int k b)(hs:op≠.shl/\op≠.shr)(h:Dx op k a b=aY v):
  ∃u,(bU (ev ρr) ⟨dst,.binOp op t x y t',ty,pos,aft,gd⟩).run P w=.ok (.value u) w/\dQ m Z v u:=by
 cases op<;>simp only[Dx,Pv,Option.some.injEq,reduceCtorEq]at h
 case quo =>
  split at h
  .cases h
  .rename_i hb;simp only[Option.some.injEq]at h;subst h;exact⟨_,by simp[bU,hx,hy,eqGuard,binOp,Op.intDiv,hb],rfl⟩
 case rem =>
  split at h
  .cases h
  .rename_i hb;simp only[Option.some.injEq]at h;subst h;exact⟨_,by simp[bU,hx,hy,eqGuard,binOp,Op.intDiv,hb],rfl⟩
 all_goals
  subst h;exact⟨_,by simp[bU,hx,hy,eqGuard,binOp,Op.intCmp,Op.intArith,Op.intBits];first|rfl|done,rfl⟩
def Yy{op:BinOp}{t t':bu}{x y:bE}{k k':IntKind}{a b:Int}{v:V}(hx:ev ρr x=.int k a)(hy:ev ρr y=.int k' b)(hs:op=.shl∨op=.shr)(h:L3 op k a b=aY v):
  ∃u,(bU (ev ρr) ⟨dst,.binOp op t x y t',ty,pos,aft,gd⟩).run P w=.ok (.value u) w/\dQ m Z v u:=by
 unfold L3 at h;split at h
 .cases h
 .rename_i hb
  rcases hs with rfl|rfl<;>simp only[Option.some.injEq]at h<;>subst h<;>exact⟨_,by simp[bU,hx,hy,eqGuard,binOp,Op.shift,hb],rfl⟩
def zse{op:BinOp}{t t':bu}{x y:bE}{a b:aj}{v:V}(hx:ev ρr x=.string ⟨a.toArray⟩)(hy:ev ρr y=.string ⟨b.toArray⟩)(h:NC op a b=aY v):
  ∃u,(bU (ev ρr) ⟨dst,.binOp op t x y t',ty,pos,aft,gd⟩).run P w=.ok (.value u) w/\dQ m Z v u:=by
 have e:(a==b)=decide (a=b):=by rw[ek];simp
 cases op<;>simp only[NC,Option.some.injEq,reduceCtorEq]at h<;>subst h <;>
  exact⟨_,by simp[bU,hx,hy,eqGuard,binOp,Op.stringOp,ByteArray.toList_eq,e];first|rfl|done,rfl⟩
def zwc{k:Tag}{v:V}{x:bw}(h:dQ m Z v x)(hk:Vj k v=bg):Cn k x=bg:=by
 cases k<;>cases v<;>simp only[Vj,cu]at hk<;>simp only[dQ]at h<;>subst h
 .exact hk
 .rfl
 .rfl
def Jl:∀{ks:List Tag}{vs:List V}{l:List bw},zu m Z vs l->qL ks vs=bg->Ht ks l=bg
 |[],[],l,h,_=>by cases h;rfl
 |[],_::_,_,_,hk=>by cases hk
 |_::_,[],_,_,hk=>by cases hk
 |k::ks,v::vs,l,h,hk=>by obtain⟨x,xs,rfl,h2,h3⟩:=h;simp only[qL,bn]at hk;simp only[Ht,bn];exact⟨zwc h2 hk.1,Jl h3 hk.2⟩
def zAp{m':Option M}{k:Tag}{u v:V}{x y:bw}(h:dQ m Z u x)(h':dQ m' Z v y)(hk:Vj k u=bg)(mi:Vj k v=bg):B1 x y=Fv u v:=by
 cases k<;>cases u<;>simp only[Vj,cu]at hk<;>cases v<;>simp only[Vj,cu]at mi<;>simp only[dQ]at h h'<;>subst h<;>subst h'<;>first|rfl|simp[B1,Fv]
def TH:∀{ks:List Tag}{us vs:List V}{l k:List bw},zu m Z us l->zu m Z vs k->qL ks us=bg->qL ks vs=bg->sV l k=DZ us vs
 |[],[],[],l,k,h,h',_,_=>by cases h;cases h';rfl
 |[],_::_,_,_,_,_,_,hk,_=>by cases hk
 |[],[],_::_,_,_,_,_,_,hk=>by cases hk
 |_::_,[],_,_,_,_,_,hk,_=>by cases hk
 |_::_,_::_,[],_,_,_,_,_,hk=>by cases hk
 |k::ks,u::us,v::vs,l,l',h,h',hk,mi=>by
  obtain⟨x,xs,rfl,h2,h3⟩:=h;obtain⟨y,ys,rfl,h4,h5⟩:=h';simp only[qL,bn]at hk mi;have e1:=zAp h2 h4 hk.1 mi.1;have e2:=TH h3 h5 hk.2 mi.2
  cases us with
  |nil =>
   cases vs with
   |nil=>cases h3;cases h5;simp[sV,DZ,e1]
   |cons v' vs=>cases ks<;>simp only[qL,cu,and_false]at hk mi
  |cons u' us =>
   cases vs with
   |nil=>cases ks<;>simp only[qL,cu,and_false]at hk mi
   |cons v' vs=>simp only[sV,DZ,e1];rw[e2]
def Sx{t t':bu}{x y:bE}{u v:V}{b:Bool}(hx:dQ m Z u (ev ρr x))(hy:dQ m Z v (ev ρr y))(h:Fx P t u v=aY b):
  (bU (ev ρr) ⟨dst,.binOp .eql t x y t',ty,pos,aft,gd⟩).run P w=.ok (.value (.bool b)) w/\(bU (ev ρr) ⟨dst,.binOp .neq t x y t',ty,pos,aft,gd⟩).run P w=.ok (.value (.bool (!b))) w:=by
 unfold Fx at h;split at h
 .rename_i a a';split at h
  .rename_i hb;simp only[Option.some.injEq]at h;subst h;unfold Pw at hb;split at hb
   .rename_i ht;exact⟨ZC ht hx hy,ZD ht hx hy⟩
   .cases hb
  .cases h
 .rename_i l l';split at h
  .rename_i ks lM;split at h
   .rename_i hk;simp only[bn]at hk;simp only[Option.some.injEq]at h;subst h;obtain⟨c1,e1,r1⟩:=hx;obtain⟨c2,e2,r2⟩:=hy
    have hF:Gf P t ks:=by
     unfold Sw at lM;split at lM
     .split at lM
      .rename_i hc;simp only[Option.some.injEq]at lM;subst lM;exact zv9 hc
      .cases lM
     .cases lM
    have he:=TH r1 r2 hk.1 hk.2;exact⟨zwa _ hF e1 e2 (Jl r1 hk.1) (Jl r2 hk.2) he,zwb _ hF e1 e2 (Jl r1 hk.1) (Jl r2 hk.2) he⟩
   .cases h
  .cases h
 .cases h
def Kk{op:BinOp}{t t':bu}{x y:bE}{u v r:V}(hx:dQ m Z u (ev ρr x))(hy:dQ m Z v (ev ρr y))(h:DL P op t u v=aY r):
  ∃z,(bU (ev ρr) ⟨dst,.binOp op t x y t',ty,pos,aft,gd⟩).run P w=.ok (.value z) w/\dQ m Z r z:=by
 unfold DL at h;split at h
 .rename_i k a k' b;split at h
  .exact Yy hx hy (.inl rfl) h
  .exact Yy hx hy (.inr rfl) h
  .rename_i h1 h2;split at h
   .rename_i hk;subst hk;exact ZH hx hy ⟨h1,h2⟩ h
   .cases h
 .exact zse hx hy h
 .split at h
  .obtain⟨b,hb,rfl⟩:=bQ.1 h;exact⟨_,(Sx hx hy hb).1,rfl⟩
  .obtain⟨b,hb,rfl⟩:=bQ.1 h;exact⟨_,(Sx hx hy hb).2,rfl⟩
  .cases h
end
def Bj(t:Bool)(a b:V):V:=
 match a,b with
 |.bool x,.bool y=>.bool (bif t then x else y)
 |.int k x,.int k' y=>if k=k' then .int k (bif t then x else y)else bif t then .int k x else .int k' y
 |.str x,.str y=>.str (bif t then x else y)
 |a,b=>bif t then a else b
def zsf{m:Option M}{Z:ZM}{t:Bool}{a b:V}{x y:bw}(ha:dQ m Z a x)(hb:dQ m Z b y):dQ m Z (Bj t a b) (bif t then x else y):=by
 unfold Bj;split
 .cases t<;>assumption
 .split
  .rename_i hk;subst hk;cases t<;>assumption
  .cases t<;>assumption
 .cases t<;>assumption
 .cases t<;>assumption
def QT(P:bl)(s f:Nat):Option Nat:=
 match P.underlying s with
 |some (.struct fs)=>match fs[f]? with
  |some nH=>match P.info? nH.type with
   |some i=>if i.size=0 then bh else aY nH.offset
   |none=>bh
  |none=>bh
 |_=>bh
def zfj{P:bl}{s f o:Nat}(h:QT P s f=aY o):L1 P s f o:=by
 unfold QT at h;split at h
 .rename_i fs hs;split at h
  .rename_i nH hf;split at h
   .rename_i i hi;split at h
    .cases h
    .rename_i hz;simp only[Option.some.injEq]at h;exact⟨fs,nH,i,hs,hf,h,hi,hz⟩
   .cases h
  .cases h
 .cases h
def qs(P:bl)(t:Nat):Option (Option Nat):=
 match P.underlying t,P.info? t with
 |some d,aY i=>if DK d then(if i.size=1 then aY bh else bh)else aY (aY i.size)
 |_,_=>bh
def kv{P:bl}{t:Nat}(h:qs P t=aY bh):MZ P t:=by
 unfold qs at h;split at h
 .rename_i d i hd hi;split at h
  .rename_i hn;split at h
   .rename_i h1;exact⟨d,i,hd,hn,hi,h1⟩
   .cases h
  .cases h
 .cases h
def jc{P:bl}{t k:Nat}(h:qs P t=aY (aY k)):MX P t k:=by
 unfold qs at h;split at h
 .rename_i d i hd hi;split at h
  .split at h<;>cases h
  .rename_i hn;simp only[Option.some.injEq]at h;exact⟨d,i,hd,by simpa using hn,hi,h⟩
 .cases h
def mQ(P:bl)(t:Nat)(cs:List V)(off:Nat):Option V:=
 match qs P t with
 |some bh=>match cs[off]? with|some v=>if v.one then aY v else bh|none=>bh
 |some (aY k)=>if ck (off+k) cs.length then aY (.agg ((cs.drop off).take k))else bh
 |none=>bh
def DM(P:bl)(s f:Nat)(cs:List V):Option V:=
 match P.underlying s with
 |some (.struct fs)=>match fs[f]? with
  |some nH=>mQ P nH.type cs nH.offset
  |none=>bh
 |_=>bh
def Px(P:bl)(src dst:Nat)(x:V):Option V:=
 match P.underlying src,P.underlying dst,x with
 |some _,aY (.int k),.int _ n=>aY (.int k (k.wrap n))
 |some _,aY .string,.str l=>aY (.str l)
 |_,_,_=>bh
def qt(P:bl)(t:Nat):Bool:=match P.underlying t with|some (.slice _)=>bg|_=>bf
def CO(P:bl)(t:Nat)(x:V):Option V:=
 match x with
 |.str l=>match P.underlying t with|some .string=>aY (.int .i64 l.length)|_=>bh
 |.sl _ _ _ _ n=>if qt P t then aY (.int .i64 n)else bh
 |.vs _ els=>if qt P t then aY (.int .i64 els.length)else bh
 |.iO=>if qt P t then aY (.int .i64 0)else bh
 |_=>bh
def Vk(places:List (Nat×Nat))(cells:List V):List (Nat×V)->Option (List V)
 |[]=>aY cells
 |(i,v)::rest=>match places[i]? with
  |none=>bh
  |some (off,size)=>if v.plain&&(bk v.cells.length size&&ck (off+size) cells.length)then Vk places (cells.take off++v.cells++cells.drop (off+size)) rest else bh
def F3(P:bl)(t:Nat)(parts:List (Nat×V)):Option (List V):=
 match P.info? t,P.underlying t with
 |some it,aY (.struct fields) =>
  match it.zero,fields.toList.mapM (λf=>(P.info? f.type).map λi=>(f.offset,i.size))with
  |some z,aY places=>Vk places (z.cells.toList.map pN) parts
  |_,_=>bh
 |some it,aY (.array n e) =>
  match it.zero,P.info? e with
  |some z,aY ie=>Vk ((dc n).map λi=>(i*ie.size,ie.size)) (z.cells.toList.map pN) parts
  |_,_=>bh
 |_,_=>bh
def GN(P:bl)(b:Builtin)(vs:List V)(ts:List bu):Option V:=
 match b with
 |.len=>match vs,ts with|[v],[t]=>CO P t v|_,_=>bh
 |.min=>match vs with|[.int k a,.int k' b]=>if k=k' then aY (.int k (min a b))else bh|_=>bh
 |.max=>match vs with
  |[.int k a,.int k' b]=>if k=k' then aY (.int k (max a b))else bh
  |[.int k a,.int k' b,.int O2 c]=>if k=k' then if k=O2 then aY (.int k (max (max a b) c))else bh else bh
  |_=>bh
 |_=>bh
def uQ(P:bl)(ρ:Env):Op->Option V
 |.move x|.assign x=>aY (fQ ρ x)
 |.pick c a b=>match fQ ρ c with|.bool t=>aY (Bj t (fQ ρ a) (fQ ρ b))|_=>bh
 |.binOp op t x y _=>match op with
  |.eql=>match Co P t (fQ ρ x) (fQ ρ y)with
   |some b=>aY (.bool b)
   |none=>match Co P t (fQ ρ y) (fQ ρ x)with
    |some b=>aY (.bool b)
    |none=>DL P .eql t (fQ ρ x) (fQ ρ y)
  |.neq=>match Co P t (fQ ρ x) (fQ ρ y)with
   |some b=>aY (.bool (!b))
   |none=>match Co P t (fQ ρ y) (fQ ρ x)with
    |some b=>aY (.bool (!b))
    |none=>DL P .neq t (fQ ρ x) (fQ ρ y)
  |op=>DL P op t (fQ ρ x) (fQ ρ y)
 |.unOp .not _ x=>match fQ ρ x with|.bool b=>aY (.bool (!b))|_=>bh
 |.unOp .neg _ x=>match fQ ρ x with|.int k n=>aY (.int k (k.wrap (0-n)))|_=>bh
 |.extract x i=>match fQ ρ x with|.ij vs=>vs[i]?|_=>bh
 |.makeFunc (.func f) first cap=>aY (.fn f (first.toList.map (fQ ρ)) (cap.toList.map (fQ ρ)))
 |.convert src dst x=>Px P src dst (fQ ρ x)
 |.fieldAddr s x f=>match QT P s f with
  |some o=>match fQ ρ x with
   |.ptr k L off=>aY (.ptr k L (off+o))
   |.vp cs off=>aY (.vp cs (off+o))
   |_=>bh
  |none=>bh
 |.field s x f=>match fQ ρ x with|.agg cs=>DM P s f cs|_=>bh
 |.load t a=>match fQ ρ a with|.vp cs off=>mQ P t cs off|_=>bh
 |.nilCheck x=>match fQ ρ x with
  |.ptr k L off=>aY (.ptr k L off)
  |.vp cs off=>aY (.vp cs off)
  |.fn f first ml=>aY (.fn f first ml)
  |_=>bh
 |.call ⟨.builtin b,args,ts⟩=>GN P b (args.toList.map (fQ ρ)) ts.toList
 |.build t parts=>(F3 P t (parts.toList.map λp=>(p.1,fQ ρ p.2))).map .agg
 |_=>bh
def jO:bw->Bool|.pointer _|.slice ..|.map _|.func ..|.nilFunc=>bg|_=>bf
section
variable{P:bl}{ρr:ye}{w:bG}{dst:Option Tmp}{ty:bu}{pos:String}{aft:Array Edge}{gd:Option (Nat×Bool)}{m:Option M}{Z:ZM}
def LF{t t':bu}{x y:bE}{X Y:bw}{b:Bool}(hx:ev ρr x=X)(hy:ev ρr y=Y)(h1:jO X=bg)(h2:jO Y=bg)(h:(Op.equalIn (9999+1) t X Y).run P w=.ok b w):
  (bU (ev ρr) ⟨dst,.binOp .eql t x y t',ty,pos,aft,gd⟩).run P w=.ok (.value (.bool b)) w/\(bU (ev ρr) ⟨dst,.binOp .neq t x y t',ty,pos,aft,gd⟩).run P w=.ok (.value (.bool (!b))) w:=by
 have h':(Op.equal t X Y).run P w=.ok b w:=h
 cases X<;>simp only[jO,cu]at h1<;>cases Y<;>simp only[jO,cu]at h2 <;>
  exact⟨by simp only[bU,hx,hy,eqGuard,binOp];simp[h'],by simp only[bU,hx,hy,eqGuard,binOp];simp[h']⟩
def zmr(d:Nat){t:bu}{u v:V}{X Y:bw}{b:Bool}(hx:dQ m Z u X)(hy:dQ m Z v Y)(hf:UG u v=bg)(hn:CN P t v=bg)(h:Dz u=aY b):
  jO X=bg/\jO Y=bg/\(Op.equalIn (d+1) t X Y).run P w=.ok b w/\(Op.equalIn (d+1) t Y X).run P w=.ok b w:=by
 have fin:∀{b':Bool},aY b'=aY b->b'=b:=λe=>by injection e
 cases v with
 |lF =>
  simp only[CN]at hn;split at hn
  .rename_i ht;simp only[dQ]at hy;subst hy
   cases u<;>first
    |(cases hf;done)
    |(simp only[dQ]at hx;cases fin h;subst hx;simp[jO,Op.equalIn,run_underlying ht];done)
    |(simp only[dQ]at hx;cases fin h;obtain⟨_,_,_,_,rfl⟩:=hx;simp[jO,Op.equalIn,run_underlying ht];done)
    |(simp only[dQ]at hx;cases fin h;obtain⟨_,rfl,_⟩:=hx;simp[jO,Op.equalIn,run_underlying ht];done)
  .cases hn
 |iO =>
  simp only[CN]at hn;split at hn
  .rename_i ht;simp only[dQ]at hy;subst hy
   cases u<;>first
    |(cases hf;done)
    |(simp only[dQ]at hx;cases fin h;subst hx;simp[jO,Op.equalIn,run_underlying ht];done)
    |skip
   .rename_i sz k L o n;obtain⟨g,loc,_,_,h3,_,h5⟩:=hx
    cases L with
    |zero=>simp[Dz]at h
    |succ L =>
     cases n with
     |zero=>simp[Dz]at h
     |succ n =>
      cases fin h
      rcases h5 with rfl|⟨h5,_⟩|⟨_,h5,_⟩
      .simp[jO,Op.equalIn,run_underlying ht]
      .omega
      .omega
   rename_i sz els;obtain⟨A,c,rfl,_,_,h4⟩:=hx
   cases els with
   |nil=>simp[Dz]at h
   |cons e els =>
    cases fin h
    rcases h4 with h4|⟨a,rfl,_⟩
    .cases h4
    .simp[jO,Op.equalIn,run_underlying ht]
  .cases hn
 |lZ =>
  simp only[CN]at hn;split at hn
  .rename_i ht;simp only[dQ]at hy;subst hy
   cases u<;>first
    |(cases hf;done)
    |(simp only[dQ]at hx;cases fin h;subst hx;simp[jO,Op.equalIn,run_underlying ht];done)
    |(simp only[dQ]at hx;cases fin h;obtain⟨_,_,rfl,_⟩:=hx;simp[jO,Op.equalIn,run_underlying ht];done)
  .cases hn
 |lP =>
  simp only[CN]at hn;split at hn
  .rename_i ht;simp only[dQ]at hy;subst hy
   cases u<;>first
    |(cases hf;done)
    |(simp only[dQ]at hx;cases fin h;subst hx;simp[jO,Op.equalIn,run_underlying ht];done)
    |(simp only[dQ]at hx;cases fin h;obtain⟨_,_,_,_,rfl⟩:=hx;simp[jO,Op.equalIn,run_underlying ht];done)
  .cases hn
 |_=>cases hn
def Jm{t t':bu}{x y:bE}{u v:V}{b:Bool}(hx:dQ m Z u (ev ρr x))(hy:dQ m Z v (ev ρr y))(h:Co P t u v=aY b):
  ((bU (ev ρr) ⟨dst,.binOp .eql t x y t',ty,pos,aft,gd⟩).run P w=.ok (.value (.bool b)) w/\(bU (ev ρr) ⟨dst,.binOp .neq t x y t',ty,pos,aft,gd⟩).run P w=.ok (.value (.bool (!b))) w) /\
  ((bU (ev ρr) ⟨dst,.binOp .eql t y x t',ty,pos,aft,gd⟩).run P w=.ok (.value (.bool b)) w/\(bU (ev ρr) ⟨dst,.binOp .neq t y x t',ty,pos,aft,gd⟩).run P w=.ok (.value (.bool (!b))) w):=by
 unfold Co at h;split at h
 .rename_i hh;simp only[bn]at hh;obtain⟨h1,h2,h3,h4⟩:=zmr (P:=P) (w:=w) 9999 hx hy hh.2 hh.1 h;exact⟨LF rfl rfl h1 h2 h3,LF rfl rfl h2 h1 h4⟩
 .cases h
def zu.tmps{ρ:Env}{f:bE->V}{g:bE->bw}:∀(l:List bE),(∀x∈l,dQ m Z (f x) (g x))->zu m Z (l.map f) (l.map g)
 |[],_=>rfl
 |x::l,h=>⟨_,_,rfl,h x ak,zu.tmps (ρ:=ρ) l λy hy=>h y (iT _ hy)⟩
def Vl{off:Nat}{cs us:List V}{l k:List bw}(h:zu m Z cs l)(h':zu m Z us k):zu m Z (cs.take off++us++cs.drop (off+us.length)) (l.take off++k++l.drop (off+k.length)):=by rw[h'.length];exact((h.take off).append h').append (h.drop _)
def Jn{α:Type}(v:α):∀(l:List α)(n:Nat),n<l.length->(l.set n v).take (n+1)=l.take n++[v]
 |[],n,h=>by simp at h
 |a::l,0,_=>ae
 |a::l,n+1,h=>by have:=Jn v l n (by simpa using h);simp[this]
def Jo{α:Type}(v:α):∀(l:List α)(n k:Nat),n<k->(l.set n v).drop k=l.drop k
 |[],n,k,_=>ae
 |a::l,0,k+1,_=>ae
 |a::l,n+1,k+1,h=>by have:=Jo v l n k ab;simp[this]
def Vm{α:Type}:∀(vs:List α)(j off:Nat)(a:Array α),off+j+vs.length<=a.size ->
  ((vs.zipIdx j).foldl (λcs (p:α×Nat)=>cs.setIfInBounds (off+p.2) p.1) a).toList=a.toList.take (off+j)++vs++a.toList.drop (off+j+vs.length)
 |[],j,off,a,_=>ae
 |v::vs,j,off,a,h=>by
  simp only[lX]at h;rw[List.zipIdx_cons,List.foldl_cons,Vm vs (j+1) off _ (by simp;omega)];have hl:a.toList.length=a.size:=ae;simp only[Array.toList_setIfInBounds,lX];rw[<- fA off j 1,Jn v a.toList (off+j) ab,Jo v a.toList (off+j) _ ab];rw[sF,sF,sF]
  congr 1
  simp only[cK,cq]
  congr 3;omega
def QU{places:List (Nat×Nat)}{place:Nat->Option (Nat×Nat)}(EW:∀i p,places[i]?=aY p->place i=aY p):∀{parts:List (Nat×V)}{ps:List (Nat×bw)}{cells r:List V}{a:Array bw},zu m Z cells a.toList ->
  (ps.map (·.1)=parts.map (·.1))->zu m Z (parts.map (·.2)) (ps.map (·.2))->Vk places cells parts=aY r->∃a':Array bw,Instr.fill place a ps=aY a'/\zu m Z r a'.toList
 |[],ps,cells,r,a,hc,h1,h2,h=>by
  simp only[Vk,Option.some.injEq]at h;subst h;simp at h1;subst h1;exact⟨a,rfl,hc⟩
 |(i,v)::parts,[],cells,r,a,hc,h1,h2,h=>by simp at h1
 |(i,v)::parts,(i',x)::ps,cells,r,a,hc,h1,h2,h=>by
  simp only[ig,List.cons.injEq]at h1;obtain⟨rfl,h1⟩:=h1;obtain⟨y,ys,h3,h4,h5⟩:=h2;simp only[ig,List.cons.injEq]at h3;obtain⟨rfl,rfl⟩:=h3;simp only[Vk]at h;split at h
  .cases h
  .rename_i off size hp;split at h
   .rename_i hk;simp only[bn]at hk;obtain⟨hpv,o4,nZ⟩:=hk;have o4:=eb o4;have nZ:=lR nZ;have Oz:=h4.cells hpv
    have hlen:x.cells.size=size:=by have:=Oz.length;simp at this;omega
    have hal:a.size=cells.length:=by have:=hc.length;simpa using this
    have X4:=Vm x.cells.toList 0 off a (by simp;omega);simp only[ea]at X4
    have hz:(x.cells.zipIdx.foldl (λcs (p:bw×Nat)=>cs.setIfInBounds (off+p.2) p.1) a)=(x.cells.toList.zipIdx 0).foldl (λcs (p:bw×Nat)=>cs.setIfInBounds (off+p.2) p.1) a:=by rw[<- Array.foldl_toList];simp
    have hpr:=Vl (off:=off) hc Oz;have e:off+size=off+v.cells.length:=ab;rw[e]at h;obtain⟨a',h6,h7⟩:=QU EW (a:=x.cells.zipIdx.foldl (λcs (p:bw×Nat)=>cs.setIfInBounds (off+p.2) p.1) a) (by rw[hz,X4];simpa using hpr) h1 h5 h;refine⟨a',?_,h7⟩;simp only[Instr.fill,EW _ _ hp];rw[aN (by simp[hlen];omega)];exact h6
   .cases h
end
section
variable{P:bl}{ρ:Env}{ρr:ye}{w:bG}{dst:Option Tmp}{ty:bu}{pos:String}{aft:Array Edge}{gd:Option (Nat×Bool)}{m:Option M}{Z:ZM}
def Jp(a:Addr)(i j:Nat):(a.add i).add j=a.add (i+j):=Go.Deep.add_add a i j
def zsg{t off:Nat}{cs:List V}{v:V}{x:bE}{a:Addr}{mm:Option M}(hW:∀a x,Z a=aY x->w.cell? a=aY x)(hx:ev ρr x=.pointer (aY (a.add off)))(hr:qJ Z a 0 cs)(h:mQ P t cs off=aY v):
  ∃u,(bU (ev ρr) ⟨dst,.load t x,ty,pos,aft,gd⟩).run P w=.ok (.value u) w/\dQ mm Z v u:=by
 unfold mQ at h;split at h
 .rename_i hs;split at h
  .rename_i v' hv;split at h
   .cases h;obtain⟨u,h1,h2⟩:=hr.get hv;rw[cj]at h1;exact⟨u,uP (kv hs) hx (hW _ _ h1),h2.tV⟩
   .cases h
  .cases h
 .rename_i k hs;split at h
  .rename_i hk;have hk:=lR hk;cases h
   have hex:∀j,j<k->∃u v,cs[off+j]?=aY v/\w.cell? (a.add (off+j))=aY u/\dQ bh Z v u:=λj hj=>by have hc:cs[off+j]?=aY (cs[off+j]' ab):=bx ab;obtain⟨u,h1,h2⟩:=hr.get hc;rw[cj]at h1;exact⟨u,_,hc,hW _ _ h1,h2⟩
   let us:List bw:=(dc k).map λj=>((w.cell? (a.add (off+j))).getD Go.undef)
   have OX:us.length=k:=by simp[us]
   have nD:∀j,j<k->us[j]?=w.cell? (a.add (off+j)):=λj hj=>by obtain⟨u,v,_,h2,_⟩:=hex j hj;simp[us,hj,h2]
   refine⟨.agg us.toArray,qq us (jc hs) hx OX λj u hj=>?_,us,rfl,?_⟩
   .have tw:j<k:=by have:=(bq.1 hj).1;omega
    rw[Jp,<- nD j tw];exact hj
   .refine zu.nu (by simp[OX];omega) λj v u hv hu=>?_
    have tw:j<k:=by have:=(bq.1 hu).1;omega
    rw[cb,aO tw,cX]at hv;obtain⟨u',v',h1,h2,h3⟩:=hex j tw;rw[hv]at h1;cases h1;rw[nD j tw,h2]at hu;cases hu;exact h3.tV
  .cases h
 .cases h
def zjy{t off:Nat}{cs:List V}{v:V}{l:List bw}(hr:zu m Z cs l)(h:mQ P t cs off=aY v):∃u,(part t l.toArray off).run P w=.ok u w/\dQ m Z v u:=by
 unfold mQ at h;split at h
 .rename_i hs;split at h
  .rename_i v' hv;split at h
   .cases h;obtain⟨u,h1,h2⟩:=hr.get hv;exact⟨u,by simp[part,vT (kv hs),h1],h2⟩
   .cases h
  .cases h
 .rename_i k hs;split at h
  .rename_i hk;have hk:=lR hk;cases h;obtain⟨d,i,hd,hn,hi,Iw⟩:=id (jc hs);refine⟨.agg ((l.drop off).take k).toArray,?_,_,rfl,(hr.drop off).take k⟩
   have e:l.toArray.extract off (off+k)=((l.drop off).take k).toArray:=by apply gb;simp[fj]
   simp[part,uO (jc hs),sizeOf,typeInfo,hi,Iw,e]
  .cases h
 .cases h
def zfl{t:bu}{x:bE}{v r:V}(hx:dQ m Z v (ev ρr x))(h:CO P t v=aY r):
  ∃u,(bU (ev ρr) ⟨dst,.call ⟨.builtin .len,#[x],#[t]⟩,ty,pos,aft,gd⟩).run P w=.ok (.value u) w/\dQ m Z r u:=by
 have Db:∀{A n c},ev ρr x=.slice A n c->qt P t=bg->(bU (ev ρr) ⟨dst,.call ⟨.builtin .len,#[x],#[t]⟩,ty,pos,aft,gd⟩).run P w=.ok (.value (i64 n)) w:=λhv hs=>by
  unfold qt at hs;split at hs
  .rename_i e ht;exact Yc ht hv
  .cases hs
 unfold CO at h;split at h
 .split at h
  .rename_i ht;cases h;exact⟨_,zfg ht hx,rfl⟩
  .cases h
 .split at h
  .rename_i hs;cases h;obtain⟨_,_,_,_,h3,_,hv|⟨h0,A,hv⟩|⟨_,h0,A,c',hv,_⟩⟩:=hx
   .exact⟨_,Db hv hs,rfl⟩
   .have h6:=(Nat.add_eq_zero_iff.1 (Nat.le_zero.1 (h0▸h3))).2;subst h6;exact⟨_,Db hv hs,rfl⟩
   .subst h0;exact⟨_,Db hv hs,rfl⟩
  .cases h
 .split at h
  .rename_i hs;cases h;obtain⟨_,_,hv,_⟩:=hx;exact⟨_,Db hv hs,rfl⟩
  .cases h
 .split at h
  .rename_i hs;cases h;exact⟨_,Db hx hs,rfl⟩
  .cases h
 .cases h
def zwd{α β:Type}{f:α->β}{l:List α}{b:β}(h:l.map f=[b]):∃x,l=[x]/\f x=b:=by
 match l,h with
 |[x],h=>exact⟨x,rfl,by simpa using h⟩
def TI{α β:Type}{f:α->β}{l:List α}{b c:β}(h:l.map f=[b,c]):∃x y,l=[x,y]/\f x=b/\f y=c:=by
 match l,h with
 |[x,y],h=>exact⟨x,y,rfl,by simpa using h⟩
def zmt{α β:Type}{f:α->β}{l:List α}{b c d:β}(h:l.map f=[b,c,d]):∃x y z,l=[x,y,z]/\f x=b/\f y=c/\f z=d:=by
 match l,h with
 |[x,y,z],h=>exact⟨x,y,z,rfl,by simpa using h⟩
def zjz{op:Op}{v:V}(h:uQ P ρ op=aY v)(gY:∀x∈op.operands,dQ m Z (fQ ρ x) (ev ρr x))(hW:∀a x,Z a=aY x->w.cell? a=aY x):
  j6 op=bg/\∃u,(bU (ev ρr) ⟨dst,op,ty,pos,aft,gd⟩).run P w=.ok (.value u) w/\dQ m Z v u:=by
 unfold uQ at h;split at h
 .cases h;exact⟨rfl,_,by simp[bU],gY _ (by simp[Op.operands])⟩
 .cases h;exact⟨rfl,_,by simp[bU],gY _ (by simp[Op.operands])⟩
 .rename_i c a b;split at h
  .rename_i t hc;cases h;have h1:=gY c (by simp[Op.operands]);rw[hc]at h1;simp only[dQ]at h1;refine⟨rfl,_,?_,zsf (t:=t) (gY a (by simp[Op.operands])) (gY b (by simp[Op.operands]))⟩;simp only[bU,h1,asBool];cases t<;>simp
  .cases h
 .rename_i op t x y t';have hx:=gY x (by simp[Op.operands]);have hy:=gY y (by simp[Op.operands]);split at h
  .split at h
   .rename_i b hb;cases h;exact⟨rfl,_,(Jm hx hy hb).1.1,rfl⟩
   .split at h
    .rename_i b hb;cases h;exact⟨rfl,_,(Jm hy hx hb).2.1,rfl⟩
    .exact⟨rfl,Kk hx hy h⟩
  .split at h
   .rename_i b hb;cases h;exact⟨rfl,_,(Jm hx hy hb).1.2,rfl⟩
   .split at h
    .rename_i b hb;cases h;exact⟨rfl,_,(Jm hy hx hb).2.2,rfl⟩
    .exact⟨rfl,Kk hx hy h⟩
  .exact⟨rfl,Kk hx hy h⟩
 .rename_i t x;have hx:=gY x (by simp[Op.operands]);split at h
  .rename_i b hb;cases h;rw[hb]at hx;simp only[dQ]at hx;exact⟨rfl,_,by simp[bU,hx,Op.unary],rfl⟩
  .cases h
 .rename_i t x;have hx:=gY x (by simp[Op.operands]);split at h
  .rename_i k n hb;cases h;rw[hb]at hx;simp only[dQ]at hx;exact⟨rfl,_,by simp[bU,hx,Op.unary,Op.intArith],rfl⟩
  .cases h
 .rename_i x i;have hx:=gY x (by simp[Op.operands]);split at h
  .rename_i vs hv;rw[hv]at hx;obtain⟨l,e,hl⟩:=hx;obtain⟨u,h1,h2⟩:=hl.get h;exact⟨rfl,u,by simp[bU,e,Instr.extract,h1],h2⟩
  .cases h
 .rename_i f first cap
  cases h
  have e:∀l:Array bE,l.map (ev ρr)=(l.toList.map (ev ρr)).toArray:=λl=>gb ae
  refine⟨rfl,.func (.func f) (first.toList.map (ev ρr)).toArray (cap.toList.map (ev ρr)).toArray,by simp only[bU,Instr.makeFunc,e];rfl,_,_,rfl,?_,?_⟩
  .exact zu.tmps (ρ:=ρ) _ λx hx=>gY x (by simp[Op.operands];exact .inl (by simpa using hx))
  .exact zu.tmps (ρ:=ρ) _ λx hx=>gY x (by simp[Op.operands];exact .inr (by simpa using hx))
 .rename_i src afF x;have hx:=gY x (by simp[Op.operands]);unfold Px at h;split at h
  .rename_i d k k' n h1 h2 h3;cases h;rw[h3]at hx;simp only[dQ]at hx;refine⟨rfl,_,?_,rfl⟩;simp[bU,convert,run_underlying h1,run_underlying h2,hx,Conv.intToInt]
  .rename_i d l h1 h2 h3;cases h;rw[h3]at hx;simp only[dQ]at hx;refine⟨rfl,_,?_,rfl⟩;simp[bU,convert,run_underlying h1,run_underlying h2,hx]
  .cases h
 .rename_i s x f;have hx:=gY x (by simp[Op.operands]);split at h
  .rename_i o ho;have hF:=zfj ho;split at h
   .rename_i k L off hv;cases h;rw[hv]at hx;obtain⟨g,loc,h1,h2,h3⟩:=hx;exact⟨rfl,_,Ki hF rfl h3,g,loc,h1,h2,rfl⟩
   .rename_i cs off hv;cases h;rw[hv]at hx;obtain⟨a,h1,h2⟩:=hx;exact⟨rfl,_,Jj hF h1,a,by rw[Jp],h2⟩
   .cases h
  .cases h
 .rename_i s x f;have hx:=gY x (by simp[Op.operands]);split at h
  .rename_i cs hv;rw[hv]at hx;obtain⟨l,e,hl⟩:=hx;unfold DM at h;split at h
   .rename_i fs hs;split at h
    .rename_i nH hf;obtain⟨u,h1,h2⟩:=zjy (w:=w) hl h;exact⟨rfl,u,by simp[bU,Instr.field,run_underlying hs,hf,e,asAgg,h1],h2⟩
    .cases h
   .cases h
  .cases h
 .rename_i t x;have hx:=gY x (by simp[Op.operands]);split at h
  .rename_i cs off hv;rw[hv]at hx;obtain⟨a,h1,h2⟩:=hx;exact⟨rfl,zsg hW h1 h2 h⟩
  .cases h
 .rename_i x;have hx:=gY x (by simp[Op.operands]);split at h
  .rename_i hv;cases h;rw[hv]at hx;obtain⟨g,loc,h1,h2,h3⟩:=id hx;exact⟨rfl,_,by simp[bU,h3];rfl,by rw[h3]at hx;exact hx⟩
  .rename_i hv;cases h;rw[hv]at hx;obtain⟨a,h3,h4⟩:=id hx;exact⟨rfl,_,by simp[bU,h3];rfl,by rw[h3]at hx;exact hx⟩
  .rename_i hv;cases h;rw[hv]at hx;obtain⟨a,b,h3,h4⟩:=id hx;exact⟨rfl,_,by simp[bU,h3];rfl,by rw[h3]at hx;exact hx⟩
  .cases h
 .rename_i b args ts;obtain⟨args⟩:=args;obtain⟨ts⟩:=ts;refine⟨rfl,?_⟩
  have mC:∀x∈args,dQ m Z (fQ ρ x) (ev ρr x):=λx hx=>gY x (by simp[Op.operands,Call.operands,hx])
  unfold GN at h;simp only at h;split at h
  .split at h
   .rename_i v t hv;obtain⟨x,rfl,rfl⟩:=zwd hv;exact zfl (mC x ae) h
   .cases h
  .split at h
   .rename_i k a k' b hv;obtain⟨x,y,rfl,pr⟩:=TI hv
    .skip
     have hx:=mC x ae;have hy:=mC y ae;rw[pr.1]at hx;rw[pr.2]at hy;split at h
     .rename_i hk;subst hk;cases h;have h':(if b<a then b else a)=min a b:=ab;exact⟨_,by simp[bU,resolve,invoke,builtin,(show ev ρr x=_ from hx),(show ev ρr y=_ from hy),Builtin.min_,Builtin.min2,h'],rfl⟩
     .cases h
   .cases h
  .split at h
   .rename_i k a k' b hv;obtain⟨x,y,rfl,pr⟩:=TI hv
    .skip
     have hx:=mC x ae;have hy:=mC y ae;rw[pr.1]at hx;rw[pr.2]at hy;split at h
     .rename_i hk;subst hk;cases h;have h':(if b>a then b else a)=max a b:=ab;exact⟨_,by simp[bU,resolve,invoke,builtin,(show ev ρr x=_ from hx),(show ev ρr y=_ from hy),Builtin.max_,Builtin.max2,h'],rfl⟩
     .cases h
   .rename_i k a k' b O2 c hv;obtain⟨x,y,z,rfl,pr⟩:=zmt hv
    .skip
     have hx:=mC x ae;have hy:=mC y ae;have hz:=mC z ae;rw[pr.1]at hx;rw[pr.2.1]at hy;rw[pr.2.2]at hz;split at h
     .rename_i hk;subst hk;split at h
      .rename_i hk;subst hk;cases h;have h1:(if b>a then b else a)=max a b:=ab;have h2:(if c>max a b then c else max a b)=max (max a b) c:=ab;exact⟨_,by simp[bU,resolve,invoke,builtin,(show ev ρr x=_ from hx),(show ev ρr y=_ from hy),(show ev ρr z=_ from hz),Builtin.max_,Builtin.max2,h1,h2],rfl⟩
      .cases h
     .cases h
   .cases h
  .cases h
 .rename_i t parts;obtain⟨cs,hb,rfl⟩:=bQ.1 h
  have ε:zu m Z ((parts.toList.map λp=>(p.1,fQ ρ p.2)).map (·.2)) ((parts.toList.map λp=>(p.1,ev ρr p.2)).map (·.2)):=by
   rw[cF,cF]
   refine zu.nu ae λi v x hv hx=>?_
   rw[cw]at hv hx;obtain⟨p,hp,rfl⟩:=bQ.1 hv;rw[hp]at hx;simp only[cP,Option.some.injEq,Function.comp]at hx;subst hx;exact gY p.2 (by have:=bK hp;simp only[Op.operands,gC];exact cv this)
  have Xg:(parts.toList.map λp=>(p.1,ev ρr p.2)).map (·.1)=(parts.toList.map λp=>(p.1,fQ ρ p.2)).map (·.1):=ae
  have key:∃a:Array bw,P.built t (parts.toList.map λp=>(p.1,ev ρr p.2))=aY a/\zu m Z cs a.toList:=by
   unfold F3 at hb;unfold Program.built;split at hb
   .rename_i it fields h1 h2;simp only[h1,h2];split at hb
    .rename_i z places h3 h4;simp only[h3,h4];exact QU (places:=places) (by intro i p hp;simpa using hp) (uc _) Xg ε hb
    .cases hb
   .rename_i it n e h1 h2;simp only[h1,h2];split at hb
    .rename_i z ie h3 h4;simp only[h3,h4];refine QU (places:=(dc n).map λi=>(i*ie.size,ie.size)) ?_ (uc _) Xg ε hb;intro i p hp;rw[cw]at hp;obtain⟨j,hj,rfl⟩:=bQ.1 hp
     have iB:i<n:=by have:=(bq.1 hj).1;simpa using this
     rw[dv iB]at hj;cases hj;rfl
    .cases hb
   .cases hb
  obtain⟨a,ha,hr⟩:=key;refine⟨rfl,.agg a,?_,a.toList,ae,hr⟩;have:=zjw (P:=P) (ρ:=ρr) (w:=w) (dst:=dst) (ty:=ty) (pos:=pos) (aft:=aft) (gd:=gd) (t:=t) (parts:=parts.toList) _ a.toList rfl (by simpa using ha);simpa using this
 .cases h
end
section
variable{m m':M}{Z Z':ZM}{w w':bG}{k:Nat}{o o':Obj}{b:Nat}
def Jq(ob:Go.Obj){j:Nat}(h:j<w.heap.size):(w.alloc ob).heap[j]?=w.heap[j]?:=Below.heap_alloc w ob j h
def xo(hf:∀a x,Z a=aY x->w.cell? a=aY x){a:Addr}{x:bw}(ha:Z a=aY x):a.block<w.heap.size:=World.block_lt_of_cell? w a (hf a x ha)
def kT{a:Addr}(h:w'.heap[a.block]?=w.heap[a.block]?):w'.cell? a=w.cell? a:=by simp only[World.cell?,h]
def Step.new(ob:Go.Obj)(loc:Nat)(hf:∀a x,Z a=aY x->w.cell? a=aY x)(hm:∀L,m k L=bh)
  (hh:∀m',m' k o.iZ=aY (w.heap.size,loc)->(∀L l,m' k L=aY l->L=o.iZ)->(∀k L l,m k L=aY l->m' k L=aY l)->Holds m' Z (w.alloc ob) k o):
  ∃m',Step m Z [] w m' Z [(k,o)] (w.alloc ob)/\m' k o.iZ=aY (w.heap.size,loc):=by
 let m':M:=λk' L=>if k'=k then(if L=o.iZ then aY (w.heap.size,loc)else bh)else m k' L
 have h1:m' k o.iZ=aY (w.heap.size,loc):=by simp[m']
 have h2:∀k L l,m k L=aY l->m' k L=aY l:=λk' L l e=>by
  by_cases hk:k'=k
  .subst hk;rw[hm]at e;cases e
  .simp[m',hk,e]
 have h3:∀L l,m' k L=aY l->L=o.iZ:=λL l e=>by
  simp only[m',if_true]at e;split at e
  .assumption
  .cases e
 refine⟨m',⟨⟨λa x ha=>?_,λp hp=>?_,by simp[keys],λp hp q hq _ _ _=>?_⟩,h2,λ_ _ e=>e,rfl,rfl,rfl,by rw[World.size_alloc];omega,λb hb _=>Jq ob hb,λk hk=>(by cases hk),λk' hk=>?_,λp hp b hb=>?_,λa x ha=>.inl ha⟩,h1⟩
 .rw[kT (Jq ob (xo hf ha))];exact hf a x ha
 .simp only[gX]at hp;subst hp;exact hh m' h1 h3 h2
 .simp only[gX]at hp hq;subst hp;subst hq;rfl
 .funext L
  have:k'≠k:=by simpa[keys]using hk
  simp[m',this]
 .simp only[gX]at hp;subst hp;obtain⟨j,c,e1,_⟩:=zr6 hb;have e2:=h3 _ _ e1;subst e2;rw[h1]at e1;cases e1;exact .inl al
def Obj.single:Obj->Bool|.nest ..|.gen _=>bf|_=>bg
def LG{m:M}{k:Nat}{o o':Obj}(hv:o'.iZ=o.iZ)(h1:o.single=bg)(h2:o'.single=bg)(b:Nat)(h:gT m (k,o') b):gT m (k,o) b:=by
 cases o<;>cases o'<;>simp only[Obj.single,cu]at h1 h2<;>(simp only[gT,qK,hv]at h ⊢;exact h)
def Step.write(hs:kp m Z [(k,o)] w)(hb:gT m (k,o) b)(hv:∀b2,gT m (k,o') b2->gT m (k,o) b2)(h1:w'.os=w.os)(h2:w'.tape=w.tape)(h3:w'.output=w.output)(h4:w'.heap.size=w.heap.size)
  (hw:∀j,j≠b->w'.heap[j]?=w.heap[j]?) (hz:∀a x,Z a=aY x->a.block=b->w'.cell? a=aY x) (hh:Holds m Z w' k o'):Step m Z [(k,o)] w m Z [(k,o')] w':=by
 refine⟨⟨λa x ha=>?_,λp hp=>?_,by simp[keys],λp hp q hq _ _ _=>?_⟩,λ_ _ _ e=>e,λ_ _ e=>e,h1,h2,h3,ab,λj hj hn=>hw j λe=>?_,λk hk=>?_,λ_ _=>rfl,λp hp b2 nY=>?_,λa x ha=>.inl ha⟩
 .by_cases e:a.block=b
  .exact hz a x ha e
  .rw[kT (hw _ e)];exact hs.frozen a x ha
 .simp only[gX]at hp;subst hp;exact hh
 .simp only[gX]at hp hq;subst hp;subst hq;rfl
 .subst e;exact hn _ (gX.2 rfl) hb
 .simpa[keys]using hk
 .simp only[gX]at hp;subst hp;exact .inr ⟨_,gX.2 rfl,hv _ nY⟩
end
def uR(P:bl)(t n:Nat):Bool:=match P.info? t with|some i=>bk i.size n|none=>bf
def zeroV(P:bl)(t:Nat):Option (List V):=
 match P.info? t with
 |some i=>match i.zero with|some z=>aY (z.cells.toList.map pN)|none=>bh
 |none=>bh
def oM(P:bl)(t:Nat):Option (Nat×Nat):=
 match P.underlying t with
 |some (.slice e)=>match P.info? e with
  |some i=>if ck 1 i.size&&i.zero.isSome then aY (e,i.size)else bh
  |none=>bh
 |_=>bh
def Cj(n sz:Nat)(parts:List (Nat×V)):Option (List (List V)):=
 if(parts.map (·.1))=dc n then
  if parts.all (λp=>p.2.plain&&(bk p.2.cells.length sz&&(p.2.cells.all V.one&&p.2.refs.isEmpty)))then aY (parts.map (·.2.cells))else bh
 else bh
section
variable{P:bl}{ρ:Env}{w:bG}{dst:Option Tmp}{ty:bu}{pos:String}{aft:Array Edge}{gd:Option (Nat×Bool)}
def zsh{op:Op}{v:V}(h:uQ P ρ op=aY v):Loc P ⟨dst,op,ty,pos,aft,gd⟩ ρ [] v []:=by intro ρr m Z w gY hs _;obtain⟨hn,u,h1,h2⟩:=zjz (P:=P) (w:=w) (dst:=dst) (ty:=ty) (pos:=pos) (aft:=aft) (gd:=gd) h gY hs.frozen;exact⟨hn,.inl ⟨u,w,h1,m,Z,Step.refl hs,h2⟩⟩
def zsi{t k off:Nat}{a:bE}{bt:Nat}{cs:List V}{v:V}(ha:fQ ρ a=.ptr k 0 off)(h:mQ P t cs off=aY v):Loc P ⟨dst,.load t a,ty,pos,aft,gd⟩ ρ [(k,.box bt cs)] v [(k,.box bt cs)]:=by
 intro ρr m Z w gY hs _;have hx:=gY a (by simp[Op.operands]);rw[ha]at hx;obtain⟨f,loc,h1,h2,h3⟩:=hx;cases h1;obtain⟨b,cur,g1,g2,g3,g4,g5⟩:=hs.holds _ (gX.2 rfl);rw[g1]at h2;cases h2
 have pD:∀j u,cur.toList[j]?=aY u->w.cell? ⟨b,j,bh⟩=aY u:=λj u hu=>by rw[cell_of_row w b j cur bt (0,0) g2];simpa using hu
 refine⟨rfl,.inl ?_⟩;unfold mQ at h;split at h
 .rename_i mW;split at h
  .rename_i v' hv;split at h
   .cases h;obtain⟨u,h4,h5⟩:=g3.get hv;exact⟨u,w,uP (kv mW) h3 (pD _ _ h4),m,Z,Step.refl hs,h5⟩
   .cases h
  .cases h
 .rename_i n mW;split at h
  .rename_i hk;have hk:=lR hk;cases h;have hl:=g3.length;refine⟨.agg ((cur.toList.drop off).take n).toArray,w,qq _ (jc mW) h3 (by simp at hl ⊢;omega) λj u hj=>?_,m,Z,Step.refl hs,_,rfl,(g3.drop off).take n⟩;rw[Addr.add_lit]
   have Iz:j<n:=by have:=(bq.1 hj).1;simp at this;omega
   rw[cb,aO Iz,cX]at hj;exact pD _ _ hj
  .cases h
 .cases h
def zmu{t k off bt:Nat}{a x:bE}{cs:List V}(ha:fQ ρ a=.ptr k 0 off)(hp:(fQ ρ x).plain=bg)(h1:(fQ ρ x).cells.all V.one=bg)(iz:uR P t (fQ ρ x).cells.length=bg)(Ee:off+(fQ ρ x).cells.length<=cs.length):
  Loc P ⟨dst,.store t a x,ty,pos,aft,gd⟩ ρ [(k,.box bt cs)] .no [(k,.box bt (cs.take off++(fQ ρ x).cells++cs.drop (off+(fQ ρ x).cells.length)))]:=by
 intro ρr m Z w gY hs _;have hx:=gY a (by simp[Op.operands]);rw[ha]at hx;obtain⟨f,loc,e1,h2,h3⟩:=hx;cases e1;obtain⟨b,cur,g1,g2,g3,g4,g5⟩:=hs.holds _ (gX.2 rfl);rw[g1]at h2;cases h2;have hv:=(gY x (by simp[Op.operands])).cells hp;have y_:=hv.length;have hl:=g3.length
 have En:∀u∈(ev ρr x).cells.toList,u.oneCell'=bg:=λu hu=>by
  obtain⟨i,hi,he⟩:=dn hu
  have hg:(ev ρr x).cells.toList[i]?=aY u:=by rw[<- he];exact bx hi
  have hvi:(fQ ρ x).cells[i]?=aY ((fQ ρ x).cells[i]' ab):=bx ab;obtain⟨u',h4,h5⟩:=hv.get hvi;rw[hg]at h4;cases h4;exact h5.one ((bm.1 h1) _ (dq _))
 unfold uR at iz;split at iz
 .rename_i i hi;have Iw:=eb iz;have iy:=run_storeCells_at P b off bt (ev ρr x).cells.toList 0 cur w g2 (by simp at hl y_ ⊢;omega) En;simp only[ea]at iy;have e:(ev ρr x).cells=(ev ρr x).cells.toList.toArray:=ae;refine⟨rfl,.inr (.inl ⟨w.setRow b (cur.toList.take off++(ev ρr x).cells.toList++cur.toList.drop (off+(ev ρr x).cells.toList.length)).toArray,?_,m,Z,?_,rfl⟩)⟩
  .have Np:(ev ρr x).cells.size=i.size:=by simp at y_;omega
   simp[bU,Instr.storeAt,h3,Instr.sureAddr,storeVar,sizeOf,typeInfo,hi,Np,iy]
  .refine Step.write (b:=b) hs (by simp[gT,qK,Obj.iZ,g1]) (LG rfl rfl rfl) rfl rfl rfl ae (λj hj=>setRow_other w b j _ hj) (λa x ha e=>aQ e (g4 a x ha)) ?_;exact⟨b,_,g1,setRow_heap w b _ _ bt _ g2,by simpa using Vl (off:=off) g3 hv,g4,g5⟩
 .cases iz
def zmv{t d:Nat}{cs:List V}(h:zeroV P t=aY cs):Loc P ⟨dst,.alloc t,ty,pos,aft,gd⟩ ρ [] (.ptr d 0 0) [(d,.box t cs)]:=by
 intro ρr m Z w gY hs ln;unfold zeroV at h;split at h
 .rename_i i hi;split at h
  .rename_i z hz;cases h
   obtain⟨m',h1,h2⟩:=Step.new (m:=m) (Z:=Z) (w:=w) (k:=d) (o:=.box t (z.cells.toList.map pN)) (.cells z.cells t) 1 hs.frozen (λL=>ln d (by simp[keys]) (by simp[keys]) L) λm' g1 g2 g3 =>
    ⟨w.heap.size,z.cells,g1,World.alloc_heap_new w _,uc _,λa x ha e=>by have:=xo hs.frozen ha;omega,λL l e=>by have:=g2 L l e;simp only[Obj.iZ]at this;omega⟩
   refine⟨rfl,.inl ⟨.pointer (aY ⟨w.heap.size,0,bh⟩),w.alloc (.cells z.cells t),?_,m',Z,h1,m',_,rfl,h2,rfl⟩⟩;simp[bU,Instr.alloc,zeroValue,typeInfo,hi,hz,newVar,newRow,newObj];rfl
  .cases h
 .cases h
def zwe{t d:Nat}{x:bE}(hp:(fQ ρ x).plain=bg):Loc P ⟨dst,.box t x,ty,pos,aft,gd⟩ ρ [] (.ptr d 0 0) [(d,.box t (fQ ρ x).cells)]:=by
 intro ρr m Z w gY hs ln;have hv:=(gY x (by simp[Op.operands])).cells hp
 obtain⟨m',h1,h2⟩:=Step.new (m:=m) (Z:=Z) (w:=w) (k:=d) (o:=.box t (fQ ρ x).cells) (.cells (ev ρr x).cells t) 1 hs.frozen (λL=>ln d (by simp[keys]) (by simp[keys]) L) λm' g1 g2 g3 =>
  ⟨w.heap.size,(ev ρr x).cells,g1,World.alloc_heap_new w _,hv.up (λ_ _ e=>e) (λf e=>by cases e;exact⟨m',rfl,g3⟩),λa x ha e=>by have:=xo hs.frozen ha;omega,λL l e=>by have:=g2 L l e;simp only[Obj.iZ]at this;omega⟩
 refine⟨rfl,.inl ⟨.pointer (aY ⟨w.heap.size,0,bh⟩),w.alloc (.cells (ev ρr x).cells t),?_,m',Z,h1,m',_,rfl,h2,rfl⟩⟩;simp[bU,Instr.box,newVar,newRow,newObj];rfl
def zfn{t d:Nat}:Loc P ⟨dst,.makeMap t bh,ty,pos,aft,gd⟩ ρ [] (.mp d) [(d,.map [])]:=by
 intro ρr m Z w gY hs ln
 obtain⟨m',h1,h2⟩:=Step.new (m:=m) (Z:=Z) (w:=w) (k:=d) (o:=.map []) (.map #[] 0) 1 hs.frozen (λL=>ln d (by simp[keys]) (by simp[keys]) L) λm' g1 g2 g3 =>
  ⟨w.heap.size,#[],0,g1,World.alloc_heap_new w _,rfl,ae,ae,λa x ha e=>by (have:=xo hs.frozen ha;omega),0,λL l e=>by have:=g2 L l e;simp only[Obj.iZ]at this;omega⟩
 refine⟨rfl,.inl ⟨.map (aY w.heap.size),w.alloc (.map #[] 0),?_,m',Z,h1,m',_,rfl,h2,rfl⟩⟩;simp[bU,Instr.makeMap,newObj];rfl
def P9{n sz:Nat}:∀(parts:List (Nat×V))(j:Nat)(cells:List V),parts.map (·.1)=gE j parts.length->j+parts.length=n->cells.length=n*sz->(∀p∈parts,p.2.plain=bg/\p.2.cells.length=sz) ->
  Vk ((dc n).map λi=>(i*sz,sz)) cells parts=aY (cells.take (j*sz)++(parts.map (·.2.cells)).flatten)
 |[],j,cells,_,hn,hc,_=>by
  simp only[Vk,dm,List.flatten_nil,cy,Option.some.injEq];rw[dk];simp at hn;subst hn;omega
 |(i,v)::parts,j,cells,h1,hn,hc,hp=>by
  simp only[ig,lX,fD,List.cons.injEq]at h1 hn;obtain⟨rfl,h1⟩:=h1;obtain⟨hv,EX⟩:=hp (i,v) ak;have hin:i<n:=ab
  have EW:((dc n).map λi=>(i*sz,sz))[i]?=aY (i*sz,sz):=by rw[cw,dv hin];rfl
  have hle:i*sz+sz<=n*sz:=by
   have:(i+1)*sz<=n*sz:=cA sz hin
   rwa [cU]at this
  simp only[Vk,EW,hv,EX,cl,Bool.true_and]
  have hb:ck (i*sz+sz) cells.length=bg:=by rw[hc];exact Nat.ble_eq_true_of_le hle
  rw[aO hb];rw[P9 parts (i+1) _ h1 ab (by simp only[pa,cD,cS,EX,hc];omega) (λp lu=>hp p (iT _ lu))]
  congr 1
  have e:(i+1)*sz=(cells.take (i*sz)++v.cells).length:=by simp[EX,cU];omega
  rw[e,List.take_left' rfl];simp
def Ye{t d e n sz:Nat}{parts:List (Nat×bE)}{els:List (List V)}(hT:oM P t=aY (e,sz))(iz:ck (n*sz) 16777216=bg)(h:Cj n sz (parts.map λp=>(p.1,fQ ρ p.2))=aY els):
  Loc P ⟨dst,.buildSlice t n parts.toArray,ty,pos,aft,gd⟩ ρ [] (.sl sz d n 0 n) [(d,.row e sz 0 els)]:=by
 intro ρr m Z w gY hs ln;have iz:=lR iz;unfold oM at hT;split at hT
 .rename_i e' hu;split at hT
  .rename_i i hi;split at hT
   .rename_i hc;simp only[Option.some.injEq,Prod.mk.injEq]at hT;obtain⟨rfl,rfl⟩:=hT;simp only[bn]at hc;have h0:=lR hc.1;obtain⟨z,hz⟩:=Option.isSome_iff_exists.1 hc.2;unfold Cj at h;split at h
    .rename_i Nl;split at h
     .rename_i pU;cases h
      have hlen:parts.length=n:=by have:=aP ba Nl;simpa using this
      have El:∀p∈parts.map (λp=>(p.1,fQ ρ p.2)),p.2.plain=bg/\p.2.cells.length=i.size/\p.2.cells.all V.one=bg/\p.2.refs=[]:=λp hp=>by have:=(bm.1 pU) p hp;simp only[bn,eG]at this;exact⟨this.1,eb this.2.1,this.2.2.1,this.2.2.2⟩
      have Y_:((fO (n*i.size)).map λj=>z.cells[j % z.cells.size]!).toList.length=n*i.size:=ae;have X3:=P9 (n:=n) (sz:=i.size) (parts.map λp=>(p.1,fQ ρ p.2)) 0 (((fO (n*i.size)).map λj=>z.cells[j % z.cells.size]!).toList.map λ_=>V.undef) (by rw[Nl];simp[List.range_eq_range',hlen]) (by simp[hlen]) ae (λp hp=>⟨(El p hp).1,(El p hp).2.1⟩);simp only[dw,List.take_zero,cq]at X3
      have hun:∀l:List bw,zu (aY m) Z (l.map λ_=>V.undef) l:=λl=>by
       induction l with
       |nil=>rfl
       |cons x l ih=>exact⟨x,l,rfl,trivial,ih⟩
      obtain⟨a',Iq,sK⟩:=QU (m:=aY m) (Z:=Z) (places:=(dc n).map λj=>(j*i.size,i.size)) (place:=λj=>aY (j*i.size,i.size)) (by
       intro j p hp;rw[cw]at hp;obtain⟨j',tv,rfl⟩:=bQ.1 hp
       have iB:j<n:=by have:=(bq.1 tv).1;simpa using this
       rw[dv iB]at tv
       cases tv;rfl) (ps:=parts.map λp=>(p.1,ev ρr p.2)) (hun _) ae (by
        rw[cF,cF]
        refine zu.nu ae λi v x hv hx=>?_
        rw[cw]at hv hx;obtain⟨p,hp,rfl⟩:=bQ.1 hv;rw[hp]at hx;simp only[cP,Option.some.injEq,Function.comp]at hx;subst hx
        exact gY p.2 (by have:=bK hp;simp only[Op.operands,gC];exact cv this)) X3
      have oT:(((parts.map λp=>(p.1,fQ ρ p.2)).map (·.2.cells)):List (List V)).length=n:=by simp[hlen]
      have aed:∀l:List (Nat×V),(∀p∈l,p.2.refs=[])->y8 (l.map (·.2.cells)).flatten=[]:=λl=>by
       induction l with
       |nil=>intro _;rfl
       |cons p l ih =>
        intro hp
        have abN:∀a b:List V,y8 (a++b)=y8 a++y8 b:=λa b=>by
         induction a with
         |nil=>rfl
         |cons x a ih=>simp[y8,ih]
        rw[ig,cI,abN,ih (λq hq=>hp q (iT _ hq)),cy];have h1:=hp p ak;cases hv:p.2<;>rw[hv]at h1<;>simp only[V.cells,y8,cy]<;>exact h1
      have hla:∀l:List (Nat×V),(∀p∈l,p.2.cells.length=i.size)->(l.map (·.2.cells)).flatten.length=l.length*i.size:=λl=>by
       induction l with
       |nil=>intro _;simp
       |cons p l ih =>intro hp;rw[ig,cI,pa,ih (λq hq=>hp q (iT _ hq)),hp p ak,lX,cU];omega
      have Xc:a'.size=n*i.size:=by have h1:=sK.length;rw[hla _ (λp hp=>(El p hp).2.1)]at h1;simpa[hlen]using h1
      have hf3:=zu.flat _ _ (aed _ λp hp=>(El p hp).2.2.2) sK
      have ON:n<=maxLen:=by have:n<=n*i.size:=Nat.le_mul_of_pos_right n h0;simp only[maxLen];omega
      obtain⟨m',h1,h2⟩:=Step.new (m:=m) (Z:=Z) (w:=w) (k:=d) (o:=.row e' i.size 0 ((parts.map λp=>(p.1,fQ ρ p.2)).map (·.2.cells))) (.cells a' e') n hs.frozen (λL=>ln d (by simp[keys]) (by simp[keys]) L) λm' g1 g2 g3=>by
       by_cases nK:n=0
       .have he:((parts.map λp=>(p.1,fQ ρ p.2)).map (·.2.cells))=[]:=bW (by rw[oT,nK])
        have tA:(Obj.row e' i.size 0 ((parts.map λp=>(p.1,fQ ρ p.2)).map (·.2.cells))).iZ=0:=by simp only[Obj.iZ];rw[oT,nK]
        rw[tA]at g1;subst nK;exact .inl ⟨h0,he,rfl,⟨_,g1⟩,λL l e=>by have:=g2 L l e;rw[tA]at this;omega⟩
       refine .inr ⟨w.heap.size,n,a',(0,0),g1,ab,World.alloc_heap_new w _,by rw[oT];exact er _,ON,Xc,h0,?_,?_,ae,ae,λa x ha e=>by have:=xo hs.frozen ha;omega,λL l e=>by have:=g2 L l e;simp only[Obj.iZ]at this;omega,λoff x ho=>ab⟩
       .rw[oT,dk (by simp[Xc])];exact hf3
       .intro x hx;obtain⟨p,hp,rfl⟩:=bF.1 hx;exact(El p hp).2.1
      have rU:(Obj.row e' i.size 0 ((parts.map λp=>(p.1,fQ ρ p.2)).map (·.2.cells))).iZ=n:=oT;rw[rU]at h2;refine⟨rfl,.inl ⟨.slice (aY ⟨w.heap.size,0,bh⟩) n n,w.alloc (.cells a' e'),?_,m',Z,h1,m',_,rfl,h2,ae,ON,.inl ae⟩⟩
      have e2:(parts.toArray.map λx=>(x.1,ev ρr x.2)).toList=parts.map λp=>(p.1,ev ρr p.2):=ae
      have hgt:¬n*i.size>2 ^ 24:=ab;simp only[bU,Instr.buildSlice,Sem.run_bind,run_underlying hu,Result.andThen_ok,sizeOf,typeInfo];simp only[program,Sem.run,hi,Sem.run_bind,Sem.run_pure,Result.andThen_ok,aN hgt,e2];by_cases nK:n*i.size=0
      .have hA:∀f:Nat->bw,(fO (n*i.size)).map f=#[]:=λf=>by have e0:fO 0=(#[]:Array Nat):=rfl;rw[nK,e0];simp
       rw[hA]at Iq;simp only[aO nK,Sem.run_pure,Result.andThen_ok,hA,Iq];simp[newRow,newObj];rfl
      .simp only[aN nK,Sem.run_bind,zeroValue,typeInfo,program,Sem.run,hi,hz,Sem.run_pure,Result.andThen_ok,Iq];simp[newRow,newObj];rfl
     .cases h
    .cases h
   .cases hT
  .cases hT
 .cases hT
end
def aw.set:aw->Nat->Obj->aw
 |[],_,_=>[]
 |(k',o')::r,k,o=>bif bk k k' then(k',o)::r else(k',o')::aw.set r k o
def jP(k:Nat):aw->Bool
 |[]=>bf
 |(k',_)::r=>bif bk k k' then bg else jP k r
def yp{k:Nat}:∀{H:aw},jP k H=bg↔k∈keys H
 |[]=>by simp[jP,keys]
 |(k',o)::r=>by
  simp only[jP,keys,ig,bo]
  cases hb:bk k k' with
  |true=>simp[eb hb]
  |false =>
   have:k≠k':=λe=>by subst e;rw[cl]at hb;cases hb
   simp only[cf,this,false_or];exact yp
def zwf{H:aw}{k:Nat}{o:Obj}(h:H.get k=aY o):ua [k] H=aY [(k,o)]:=by simp[ua,h]
def oP(d:Option Nat)(v:V)(ρ:Env):Env:=match d with|some d=>(d,v)::ρ|none=>ρ
section
variable{K0:List Nat}{c:Ctx K0}{P:bl}{r:Option Nat}{N:Nat}{Q:xE}{ρ:Env}{H H':aw}{ds:List ca}{all rest:List Oper}{o:Oper}
def Qh.perm{ρr:ye}{w:bG}(hp:H.Perm H')(S:Qh c ρ H ρr w):Qh c ρ H' ρr w:=by obtain⟨m,Z,S,hR⟩:=S;exact⟨m,Z,⟨S.step.GF hp,λk hk=>S.p6 k λh=>hk ((hp.map _).mem_iff.1 h)⟩,hR⟩
def zwg(hp:H.Perm H')(h:QS c P r N all Q rest ρ H' ds):QS c P r N all Q rest ρ H ds:=λρr w lI S hM=>h ρr w lI (S.perm hp) hM
def zsj(h:(keys H).Nodup->QS c P r N all Q rest ρ H ds):QS c P r N all Q rest ρ H ds:=λρr w lI S hM=>by obtain⟨m,Z,S',hR⟩:=id S;exact h S'.step.iV.nodup ρr w lI S hM
def zAr{F F':aw}{v:V}(ks:List Nat)(hd:(match o.dst with|some d=>ck (d+1) N|none=>bg)=bg)(hw:yv all ρ o=aY bg)(lM:nodupB ks=bg)(hF:ua ks H=aY F)(hl:Loc P o ρ F v F')(ln:Jk F' ks H=bg)
  (h:QS c P r N all Q rest (oP o.dst v ρ) (F'++kr ks H) ds):QS c P r N all Q (o::rest) ρ H ds:=by
 cases l5:o.dst with
 |none=>rw[l5]at h;exact zv8 ks l5 hw lM hF hl ln h
 |some d=>rw[l5]at h hd;exact zAk d ks l5 hd hw lM hF hl ln h
def zsk:kr [] H=H:=by simp[kr]
end
def mN(P:bl)(f:FuncId)(args:List V)(F:aw)(r:V)(F':aw):Prop:=
 ∀w m Z vals,kp m Z F w->zu (aY m) Z args vals->(∀k,k ∉ keys F->∀L,m k L=bh) ->
  Calls P f vals.toArray w λen w'=>∃x m' Z',en=.returned x/\Step m Z F w m' Z' F' w'/\dQ (aY m') Z' r x
def Ck(args:List V):Env:=args.zipIdx.map λp=>(p.2,p.1)
def P_{m:Option M}{Z:ZM}:∀(args:List V)(vals:List bw)(j t:Nat),zu m Z args vals->dQ m Z (Env.get ((args.zipIdx j).map λp=>(p.2,p.1)) t) (if j<=t then vals.getD (t-j) Go.undef else Go.undef)
 |[],vals,j,t,h=>by
  cases h
  show True
  trivial
 |v::args,vals,j,t,h=>by
  obtain⟨x,xs,rfl,h1,h2⟩:=h
  show dQ m Z (bif bk t j then v else(Env.get ((args.zipIdx (j+1)).map λp=>(p.2,p.1)) t)) _
  cases hb:bk t j with
  |true =>
   have:=eb hb;subst this;simpa using h1
  |false =>
   have lE:t≠j:=λe=>by subst e;rw[cl]at hb;cases hb
   have ih:=P_ args xs (j+1) t h2;rw[cf];by_cases hj:j<=t
   .rw[aO hj];rw[aO ab]at ih;have e:t-j=(t-(j+1))+1:=ab;rw[e];simpa using ih
   .rw[aN hj];rw[aN ab]at ih;exact ih
def DA(P:bl)(ρ:Env)(H:aw):ResultVar->Option V
 |.tmp t=>aY (ρ.get t)
 |.cell a ty=>match ρ.get a with
  |.ptr k 0 off=>match H.get k with
   |some (.box _ cs)=>mQ P ty cs off
   |_=>bh
  |_=>bh
def su(P:bl)(ρ:Env)(H:aw):List ResultVar->Option (List V)
 |[]=>aY []
 |x::l=>match DA P ρ H x,su P ρ H l with|some v,aY vs=>aY (v::vs)|_,_=>bh
def CD(fn:Func)(ρ:Env)(H:aw)(P:bl):Option V:=
 match su P ρ H fn.results.toList with
 |some [v]=>aY v
 |some vs=>aY (.ij vs)
 |none=>bh
def Fy(r:V)(F':aw)(K0:List Nat):Bool:=
 let ks:=keys F'
 nodupB ks&&(K0.all ks.contains&&(r.refs.all ks.contains&&F'.all λp=>p.2.refs.all ks.contains))
def FA(P:bl)(fn:Func)(K0:List Nat)(r:V)(F':aw):xE
 |.normal,ρ,H,ds|.ret,ρ,H,ds=>ds=[]/\CD fn ρ H P=aY r/\ua (keys F') H=aY F'/\Fy r F' K0=bg
 |_,_,_,_=>False
section
variable{P:bl}{f:FuncId}{args:List V}{F F':aw}{r:V}{N:Nat}
def Yz(tmps:Array bw):ResultVar->Sem bw
 |.tmp t=>pure (tmps.getD t Go.undef)
 |.cell a t=>do loadVar t (<- asAddr (tmps.getD a Go.undef))
def zj2{m:M}{Z:ZM}{H:aw}{w:bG}{ρ:Env}{ρr:ye}{v:V}(hs:kp m Z H w)(hR:oN m Z ρ ρr){tmps:Array bw}(ht:∀t,tmps.getD t Go.undef=ρr t):∀{x:ResultVar},DA P ρ H x=aY v ->
  ∃u,(Yz tmps x).run P w=.ok u w/\dQ (aY m) Z v u
 |.tmp t,h=>by
  cases h;exact⟨ρr t,by simp only[Yz,ht];rfl,hR t⟩
 |.cell a ty,h=>by
  simp only[DA]at h;split at h
  .rename_i k off ha;split at h
   .rename_i bt cs hk;obtain⟨b,cur,g1,g2,g3,g4,g5⟩:=hs.holds _ (aw.get_mem hk);have hr:=hR a;rw[ha]at hr;obtain⟨f',loc,e1,e2,e3⟩:=hr;cases e1;rw[g1]at e2;cases e2
    have pD:∀j u,cur.toList[j]?=aY u->w.cell? ⟨b,j,bh⟩=aY u:=λj u hu=>by rw[cell_of_row w b j cur bt (0,0) g2];simpa using hu
    unfold mQ at h;split at h
    .rename_i mW;split at h
     .rename_i u hu;split at h
      .cases h;obtain⟨y,h6,h7⟩:=g3.get hu;have hc:=pD off y h6;refine⟨y,?_,h7⟩;simp[Yz,ht,e3,asAddr,loadVar,vT (kv mW),load,Sem.run,hc]
      .cases h
     .cases h
    .rename_i n mW;split at h
     .rename_i nZ;have nZ:=lR nZ;cases h;have hl:=g3.length
      have hll:((cur.toList.drop off).take n).length=n:=by simp at hl ⊢;omega
      refine⟨.agg ((cur.toList.drop off).take n).toArray,?_,_,rfl,(g3.drop off).take n⟩;obtain⟨d',i',l5,_,Iu,mi⟩:=id (jc mW)
      have nx:∀j u,((cur.toList.drop off).take n)[j]?=aY u->w.cell? ((⟨b,off,bh⟩:Addr).add j)=aY u:=λj u hj=>by
       rw[Addr.add_lit]
       have Iz:j<n:=by have:=(bq.1 hj).1;simp at this;omega
       rw[cb,aO Iz,cX]at hj;exact pD _ _ hj
      have OJ:=run_loadCells_list (P:=P) w (⟨b,off,bh⟩:Addr) _ nx;rw[hll]at OJ;simp only[Yz,ht,e3,asAddr,loadVar,Sem.run_bind,Sem.run_pure,Result.andThen_ok,uO (jc mW),if_true];simp[sizeOf,typeInfo,Iu,mi,OJ,Sem.run]
     .cases h
    .cases h
   .cases h
  .cases h
def YA{m:M}{Z:ZM}{H:aw}{w:bG}{ρ:Env}{ρr:ye}(hs:kp m Z H w)(hR:oN m Z ρ ρr){tmps:Array bw}(ht:∀t,tmps.getD t Go.undef=ρr t):∀{l:List ResultVar}{vs:List V},su P ρ H l=aY vs ->
  ∃us,(l.mapM (Yz tmps)).run P w=.ok us w/\zu (aY m) Z vs us
 |[],vs,h=>by
  cases h;exact⟨[],ae,rfl⟩
 |x::l,vs,h=>by
  simp only[su]at h;split at h
  .rename_i v vs' h1 h2;cases h;obtain⟨u,h3,h4⟩:=zj2 hs hR ht h1;obtain⟨us,h5,h6⟩:=YA hs hR ht h2;exact⟨u::us,by simp[List.mapM_cons,h3,h5],u,us,rfl,h4,h6⟩
  .cases h
def zj3{m:M}{Z:ZM}{H:aw}{w:bG}{ρ:Env}{ρr:ye}{fn:Func}{r:V}(hs:kp m Z H w)(hR:oN m Z ρ ρr)(h:CD fn ρ H P=aY r){tmps:Array bw}(ht:∀t,tmps.getD t Go.undef=ρr t):
  ∃x,(results fn tmps).run P w=.ok x w/\dQ (aY m) Z r x:=by
 have key:∀vs,su P ρ H fn.results.toList=aY vs->∃us:List bw,(results fn tmps).run P w=.ok (if h:us.toArray.size=1 then us.toArray[0]else .tuple us.toArray) w/\zu (aY m) Z vs us:=by
  intro vs hv;obtain⟨us,h1,h2⟩:=YA hs hR ht hv;refine⟨us,?_,h2⟩
  have e:results fn tmps=(do let vs <- fn.results.mapM (Yz tmps);pure (if h:vs.size=1 then vs[0]else .tuple vs)):=by
   unfold results
   congr 1
  rw[e,Array.mapM_eq_mapM_toList];simp[h1]
 unfold CD at h;split at h
 .rename_i v hv;cases h;obtain⟨us,h1,h2⟩:=key _ hv;obtain⟨u,us',rfl,h3,h4⟩:=h2;cases h4;exact⟨u,by simpa using h1,h3⟩
 .rename_i vs lE hv;cases h;obtain⟨us,h1,h2⟩:=key _ hv
  have hl:us.toArray.size≠1:=λe=>by
   have:=h2.length;simp only[cW]at e;rw[e]at this
   match vs,this with
   |[v],_=>exact lE v rfl
   |[],h=>simp at h
   |_::_::_,h=>simp at h
  rw[dif_neg hl]at h1;exact⟨_,h1,us,rfl,h2⟩
 .cases h
def Sy{K0:List Nat}{c:Ctx K0}{m:M}{Z:ZM}{H:aw}:∀(Ds:List Nat)(w:bG),Ds.Nodup->(∀D∈Ds,w.heap[D]?=aY (.deferred (aY []))/\c.W0.heap.size<=D)->oO c m Z H w->∃w',lA.Gb (Ds.map lA.mark) w w'/\oO c m Z H w'
 |[],w,_,_,S=>⟨w,rfl,S⟩
 |D::Ds,w,hn,hD,S=>by
  obtain⟨h1,h2⟩:=cr.1 hn;obtain⟨h3,h4⟩:=hD D ak
  have S':oO c m Z H (w.putObj D (.deferred bh)):=S.lps (row:=aY D) (lA.Yd w D _) λb e=>by
   cases e;exact⟨h4,_,h3,rfl⟩
  obtain⟨w',h5,h6⟩:=Sy Ds _ h2 (λD' Ia=>by
   obtain⟨h7,h8⟩:=hD D' (iT _ Ia)
   exact⟨(World.putObj_heap_other (λe=>h1 (by first|(rw[<- e];exact Ia)|(rw[e];exact Ia)))).trans h7,h8⟩) S'
  exact⟨w',⟨D,rfl,h3,h5⟩,h6⟩
def zmw{fn:Func}{code:Code}(hf:P.funcs[f]?=aY fn)(hb:fn.body=aY code)(hN:fn.ntmps=N)(ha:ck args.length N=bg)
  (h:∀c:Ctx (keys F),l4 c P bh N code (FA P fn (keys F) r F') (Ck args) F []):mN P f args F r F':=by
 intro w m Z vals hs hv Nc;have EX:=hv.length
 have S:Qh (⟨[],w,m,Z,F,rfl,Nc⟩:Ctx (keys F)) (Ck args) F (ZE vals) w:=⟨m,Z,⟨Step.refl hs,Nc⟩,λt=>by
  have:=P_ args vals 0 t hv
  simpa[Ck,ZE]using this⟩
 have h':=h ⟨[],w,m,Z,F,rfl,Nc⟩ _ _ _ S (xP.nil rfl);have ha:=lR ha;refine(callsIn_wide (n:=0)).1 (callsIn_of_wp_marks hf hb trivial ?_)
 refine wpIn_mono (h' _ 0 ⟨?_,rfl,λt=>?_⟩) λe a w' hq=>?_
 .simp;omega
 .simp only[ZE,cB,cJ];rw[Array.getElem?_append];split
  .simp
  .rename_i iB;simp only[cW]at iB;rw[List.getElem?_eq_none ab];simp only[cW];rw[ei];split<;>rfl
 .obtain⟨tQ,mE,m_,ρ',H',S',ES,hq⟩:=hq;obtain⟨Ds,B_,hn,hD⟩:=ES.marks rfl
  have key:FA P fn (keys F) r F' .ret ρ' H' []->∃w2 v,lA.Gb a.defers w' w2/\(results fn a.tmps).run P w2=.ok v w2/\∃x m' Z',Ending.returned v=.returned x/\Step m Z F w m' Z' F' w2/\dQ (aY m') Z' r x:=by rintro⟨_,Ej,pj,s9⟩;simp only[Fy,bn]at s9;obtain⟨h1,h2,h3,h4⟩:=s9;obtain⟨m',Z',S2,hR⟩:=S';obtain⟨w2,ht,S4⟩:=Sy Ds w' hn hD S2;obtain⟨m2,S3,hc⟩:=S4.cut (keys F') pj h1 h2 h4;obtain⟨x,IT,Dc⟩:=zj3 S4.step.iV hR Ej (tmps:=a.tmps) m_.get;exact⟨w2,x,by rw[m_.defs,B_];exact ht,IT,x,m2,Z',rfl,S3.step,hc _ _ h3 Dc⟩
  cases e with
  |normal =>
   obtain⟨w2,v,ht,hr,hR⟩:=key hq;exact lA.kQ _ _ _ ht hr hR
  |ret =>
   obtain⟨w2,v,ht,hr,hR⟩:=key hq;exact lA.kQ _ _ _ ht hr hR
  |panic c=>exact hq.elim
  |exit id=>exact hq.elim
  |goto l=>exact hq.elim
  |outgrown=>exact hq.elim
end
def Obj.gz(σ:Nat->Nat):Obj->Obj
 |.box t cs=>.box t (ZF σ cs)
 |o=>o
def HQ(σ:Nat->Nat)(F:aw):aw:=F.map λp=>(σ p.1,p.2.gz σ)
def j_:List (Nat×Nat)->Nat->Nat
 |[],k=>k
 |(a,b)::r,k=>bif bk k a then b else j_ r k
def Kl(args:List V)(F:aw):Bool:=(y8 args).all (keys F).contains&&F.all λp=>p.2.refs.all (keys F).contains
def wh{σ:Nat->Nat}{F:aw}:keys (HQ σ F)=(keys F).map σ:=by simp[keys,HQ]
def ZI{σ:Nat->Nat}{m mc:M}{p:Nat×Obj}(h:mc p.1=m (σ p.1)):gT mc p=gT m (σ p.1,p.2.gz σ):=by
 obtain⟨k,o⟩:=p;simp only at h
 funext b
 cases o<;>simp only[gT,qK,Obj.gz,Obj.iZ,h]
mutual
def dQ.rl{f f':M}{Z:ZM}(σ:Nat->Nat):∀(v:V)(x:bw),(∀k∈v.refs,∀L loc,f (σ k) L=aY loc->f' k L=aY loc)->dQ (aY f) Z (v.gz σ) x->dQ (aY f') Z v x
 |.undef,x,_,h=>trivial
 |.no,x,_,h=>h
 |.int k n,x,_,h=>h
 |.bool b,x,_,h=>h
 |.str l,x,_,h=>h
 |.lF,x,_,h=>h
 |.ptr k L off,x,hm,h=>by
  obtain⟨g,loc,h1,h2,h3⟩:=h;cases h1;exact⟨f',loc,rfl,hm k (by simp[V.refs]) _ _ h2,h3⟩
 |.vp cs off,x,_,h=>h
 |.iO,x,_,h=>h
 |.sl sz k L o n,x,hm,h=>by
  obtain⟨g,loc,h1,h2,h3⟩:=h;cases h1;exact⟨f',loc,rfl,hm k (by simp[V.refs]) _ _ h2,h3⟩
 |.vs sz els,x,_,h=>h
 |.fn g first ml,x,hm,h=>by
  obtain⟨l1,l2,h1,h2,h3⟩:=h;exact⟨l1,l2,h1,zu.rl σ first l1 (λk hk=>hm k (by simp[V.refs,hk])) h2,zu.rl σ ml l2 (λk hk=>hm k (by simp[V.refs,hk])) h3⟩
 |.lZ,x,_,h=>h
 |.agg cs,x,hm,h=>by
  obtain⟨l,h1,h2⟩:=h;exact⟨l,h1,zu.rl σ cs l (λk hk=>hm k (by simpa[V.refs]using hk)) h2⟩
 |.ij xs,x,hm,h=>by
  obtain⟨l,h1,h2⟩:=h;exact⟨l,h1,zu.rl σ xs l (λk hk=>hm k (by simpa[V.refs]using hk)) h2⟩
 |.lP,x,_,h=>h
 |.mp k,x,hm,h=>by
  obtain⟨g,loc,h1,h2,h3⟩:=h;cases h1;exact⟨f',loc,rfl,hm k (by simp[V.refs]) _ _ h2,h3⟩
 |.mn,x,_,h=>h
 |.lN t v,x,hm,h=>by
  obtain⟨y,h1,h2⟩:=h;exact⟨y,h1,dQ.rl σ v y (λk hk=>hm k (by simpa[V.refs]using hk)) h2⟩
 |.gv k R,x,hm,h=>by
  obtain⟨g,h1,h2⟩:=h;cases h1;exact⟨f',rfl,R.mono _ _ _ (hm k (by simp[V.refs])) h2⟩
 |.pv R,x,hm,h=>h
def zu.rl{f f':M}{Z:ZM}(σ:Nat->Nat):∀(vs:List V)(l:List bw),(∀k∈y8 vs,∀L loc,f (σ k) L=aY loc->f' k L=aY loc)->zu (aY f) Z (ZF σ vs) l->zu (aY f') Z vs l
 |[],l,_,h=>h
 |v::vs,l,hm,h=>by obtain⟨x,xs,h1,h2,h3⟩:=h;exact⟨x,xs,h1,dQ.rl σ v x (λk hk=>hm k (by simp[y8,hk])) h2,zu.rl σ vs xs (λk hk=>hm k (by simp[y8,hk])) h3⟩
end
section
variable{P:bl}{f:FuncId}{args:List V}{F F':aw}{r:V}{σ:Nat->Nat}
def UH{l:List Nat}(h:(l.map σ).Nodup):∀{a b:Nat},a∈l->b∈l->σ a=σ b->a=b:=by
 induction l with
 |nil=>intro a b ha;cases ha
 |cons x l ih =>
  rw[ig,cr]at h;intro a b ha hb e
  rcases bo.1 ha with h1|h1<;>rcases bo.1 hb with h2|h2
  .rw[h1,h2]
  .subst h1;exact(h.1 (e▸cv h2)).elim
  .subst h2;exact(h.1 (e▸cv h1)).elim
  .exact ih h.2 h1 h2 e
def mN.at(h:mN P f args F r F')(rV:nodupB ((keys F').map σ)=bg)(mR:Kl args F=bg)(nU:((keys F).all (keys F').contains)=bg):
  ∀w m Z vals,kp m Z (HQ σ F) w->zu (aY m) Z (ZF σ args) vals->(∀k∈keys (HQ σ F'),k ∉ keys (HQ σ F)->∀L,m k L=bh) ->
   Calls P f vals.toArray w λen w'=>∃x m' Z',en=.returned x/\Step m Z (HQ σ F) w m' Z' (HQ σ F') w'/\dQ (aY m') Z' (r.gz σ) x:=by
 intro w m Z vals hs hv mf;simp only[Kl,bn]at mR
 have GD:∀k∈keys F,k∈keys F':=λk hk=>by have:=(bm.1 nU) k hk;simpa using this
 have s_:∀{a b:Nat},a∈keys F'->b∈keys F'->σ a=σ b->a=b:=UH (yn rV)
 let mc:M:=λk L=>if k∈keys F then m (σ k) L else bh
 have rC:∀k∈keys F,mc k=m (σ k):=λk hk=>by funext L;simp[mc,hk]
 have Eg:∀k,k ∉ keys F->∀L,mc k L=bh:=λk hk L=>by simp[mc,hk]
 have nf:∀p∈F,gT mc p=gT m (σ p.1,p.2.gz σ):=λp hp=>ZI (rC p.1 (ax hp))
 have lg:∀p∈F,(σ p.1,p.2.gz σ)∈HQ σ F:=λp hp=>bF.2 ⟨p,hp,rfl⟩
 have IL:kp mc Z F w:=by
  refine⟨hs.frozen,λp hp=>?_,?_,λp hp q hq b h1 h2=>?_⟩
  .have hh:=hs.holds _ (lg p hp);have hk:=rC p.1 (ax hp);obtain⟨k,o⟩:=p
   cases o with
   |box t cs =>
    obtain⟨b,cur,h1,h2,h3,h4,h5⟩:=hh;refine⟨b,cur,by rw[hk];exact h1,h2,zu.rl σ cs _ (λj hj L loc e=>?_) h3,h4,by rw[hk];exact h5⟩;have:=(bm.1 mR.2) _ hp;have:=(bm.1 this) j hj;rw[rC j (by simpa using this)];exact e
   |row t sz fz els =>
    rcases hh with⟨h1,h2,h3,⟨b,h4⟩,h5⟩|⟨b,cap,cur,fr,h1,h2⟩
    .exact .inl ⟨h1,h2,h3,⟨b,by rw[hk];exact h4⟩,by rw[hk];exact h5⟩
    .exact .inr ⟨b,cap,cur,fr,by rw[hk];exact h1,by rw[hk];exact h2⟩
   |map l =>
    obtain⟨b,es,clock,h1,h2⟩:=hh;exact⟨b,es,clock,by rw[hk];exact h1,by rw[hk];exact h2⟩
   |my g t cs=>exact⟨by rw[hk];exact hh.1,hh.2.1,by rw[hk];exact hh.2.2⟩
   |nest t e sz pd ls =>
    show kS (mc k) _ _ t e sz pd ls
    rw[hk];exact hh
   |gen G =>
    show G.holds (mc k) _ _
    rw[hk];exact hh
  .have:=hs.nodup;rw[wh]at this;exact xQ _ this
  .rw[nf p hp]at h1;rw[nf q hq]at h2;exact s_ (GD _ (ax hp)) (GD _ (ax hq)) (hs.nT _ (lg p hp) _ (lg q hq) b h1 h2)
 refine Calls.mono (h w mc Z vals IL (zu.rl σ args vals (λj hj L loc e=>?_) hv) Eg) ?_
 .have:=(bm.1 mR.1) j hj;rw[rC j (by simpa using this)];exact e
 rintro en w' ⟨x,Dg,Z',he,iy,hr⟩
 let m':M:=λk2 L=>match (keys F').find? (λi=>decide (σ i=k2))with
  |some i=>Dg i L
  |none=>m k2 L
 have Gz:∀i∈keys F',m' (σ i)=Dg i:=λi hi=>by
  funext L
  cases hf:(keys F').find? (λj=>decide (σ j=σ i))with
  |none =>
   have:=gf.1 hf i hi;simp at this
  |some j =>
   have h1:=List.find?_some hf;have h2:=List.mem_of_find?_eq_some hf;simp only[aU]at h1;have:=s_ h2 hi h1;subst this;simp only[m',hf]
 have Xi:∀k,k ∉ keys (HQ σ F')->m' k=m k:=λk hk=>by
  funext L
  have:(keys F').find? (λj=>decide (σ j=k))=bh:=gf.2 λj hj=>by simp only[aU];rintro rfl;exact hk (by rw[wh];exact cv hj)
  simp only[m',this]
 have tS:∀i∈keys F',∀L loc,Dg i L=aY loc->m' (σ i) L=aY loc:=λi hi L loc e=>by rw[Gz i hi];exact e
 have X2:∀k L loc,Dg k L=aY loc->m' (σ k) L=aY loc:=λk L loc e=>by
  by_cases hk:k∈keys F'
  .exact tS k hk L loc e
  .rw[iy.pV k hk]at e;rw[Eg k (λh'=>hk (GD k h'))]at e;cases e
 have NG:∀p∈F',gT m' (σ p.1,p.2.gz σ)=gT Dg p:=λp hp=>(ZI (Gz p.1 (ax hp)).symm).symm
 have NH:∀p∈F,∀b,gT mc p b->∃q∈HQ σ F,gT m q b:=λp hp b hb=>⟨_,lg p hp,by rw[<- nf p hp];exact hb⟩
 refine⟨x,m',Z',he,⟨⟨iy.iV.frozen,?_,?_,?_⟩,?_,iy.ng,iy.os,iy.tape,iy.output,iy.size,?_,?_,Xi,?_,?_⟩,dQ.gz σ r x (λk _ L loc e=>X2 k L loc e) hr⟩
 .intro q hq;obtain⟨p,hp,rfl⟩:=bF.1 hq;have hh:=iy.iV.holds p hp;have hk:=Gz p.1 (ax hp);obtain⟨k,o⟩:=p
  cases o with
  |box t cs =>
   obtain⟨b,cur,h1,h2,h3,h4,h5⟩:=hh;exact⟨b,cur,by rw[hk];exact h1,h2,zu.gz σ cs _ (λj _ L loc e=>X2 j L loc e) h3,h4,by rw[hk];exact h5⟩
  |row t sz fz els =>
   rcases hh with⟨h1,h2,h3,⟨b,h4⟩,h5⟩|⟨b,cap,cur,fr,h1,h2⟩
   .exact .inl ⟨h1,h2,h3,⟨b,by rw[hk];exact h4⟩,by rw[hk];exact h5⟩
   .exact .inr ⟨b,cap,cur,fr,by rw[hk];exact h1,by rw[hk];exact h2⟩
  |map l =>
   obtain⟨b,es,clock,h1,h2⟩:=hh;exact⟨b,es,clock,by rw[hk];exact h1,by rw[hk];exact h2⟩
  |my g t cs=>exact⟨by rw[hk];exact hh.1,hh.2.1,by rw[hk];exact hh.2.2⟩
  |nest t e sz pd ls =>
   show kS (m' (σ k)) _ _ t e sz pd ls
   rw[hk];exact hh
  |gen G =>
   show G.holds (m' (σ k)) _ _
   rw[hk];exact hh
 .rw[wh];exact yn rV
 .intro p hp q hq b h1 h2;obtain⟨p',lu,rfl⟩:=bF.1 hp;obtain⟨q',l_,rfl⟩:=bF.1 hq;rw[NG p' lu]at h1;rw[NG q' l_]at h2;exact aP σ (iy.iV.nT p' lu q' l_ b h1 h2)
 .intro k L loc e;by_cases hk:k∈keys (HQ σ F')
  .rw[wh]at hk;obtain⟨i,hi,rfl⟩:=bF.1 hk;rw[Gz i hi];by_cases OD:i∈keys F
   .exact iy.nn i L loc (by rw[rC i OD];exact e)
   .rw[mf (σ i) (by rw[wh];exact cv hi) (λh'=>by
     rw[wh]at h';obtain⟨j,hj,e'⟩:=bF.1 h';have:=s_ (GD j hj) hi e';subst this
     exact OD hj)]at e
    cases e
  .rw[Xi k hk];exact e
 .intro b hb hn
  exact iy.frame b hb λp hp e=>by obtain⟨q,hq,e'⟩:=NH p hp b e;exact hn q hq e'
 .intro k hk;rw[wh]at hk ⊢;obtain⟨i,hi,rfl⟩:=bF.1 hk;exact cv (iy.keep i hi)
 .intro q hq b hb;obtain⟨p,hp,rfl⟩:=bF.1 hq;rw[NG p hp]at hb
  exact(iy.mO p hp b hb).imp id λ⟨p',lu,e⟩=>NH p' lu b e
 .intro a x ha;exact(iy.pC a x ha).imp id (Or.imp id λ⟨p',lu,e⟩=>NH p' lu _ e)
end
mutual
inductive au(F:aw):V->V->Prop
 |acz {v v':V} (h:∀(m:Option M)(Z:ZM)(x:bw),dQ m Z v x->dQ m Z v' x):au F v v'
 |same (v:V):au F v v
 |iO (sz:Nat):au F .iO (.vs sz [])
 |row {k sz t fz L:Nat} {els:List (List V)} (h:F.get k=aY (.row t sz fz els)) (hL:L=els.length):au F (.sl sz k L 0 L) (.vs sz els)
 |sub {k sz t fz L o n:Nat} {els:List (List V)} (h:F.get k=aY (.row t sz fz els)) (hL:L=els.length) (hn:o+n<=L):au F (.sl sz k L o n) (.vs sz ((els.drop o).take n))
 |agg {cs ly:List V} (h:vB F cs ly):au F (.agg cs) (.agg ly)
 |rj {k sz t fz L:Nat} {els:List (List V)} (h:F.get k=aY (.row t sz fz els)) (hL:L=els.length):au F (.gv k (Nx sz L)) (.vs sz els)
inductive vB(F:aw):List V->List V->Prop
 |nil:vB F [] []
 |cons {v v':V} {l l':List V} (h:au F v v') (h':vB F l l'):vB F (v::l) (v'::l')
end
def iw:aw->aw
 |[]=>[]
 |(k,.row t sz _ els)::r=>(k,.row t sz els.length els)::iw r
 |p::r=>p::iw r
open Classical in
noncomputable def nB(m:M)(Z:ZM)(F:aw)(w:bG):ZM:=λa =>
 if a.spot=bh/\∃k t sz fz els b cap,(k,Obj.row t sz fz els)∈F/\m k els.length=aY (b,cap)/\0<cap/\a.block=b/\a.off<els.length*sz then w.cell? a else Z a
def jC:∀{F:aw}{p:Nat×Obj},p∈iw F->(∃k t sz fz els,(k,Obj.row t sz fz els)∈F/\p=(k,.row t sz els.length els))∨(p∈F/\∀t sz fz els,p.2≠.row t sz fz els)
 |[],p,h=>by cases h
 |(k,.row t sz fz els)::r,p,h=>by
  simp only[iw]at h
  rcases bo.1 h with rfl|h
  .exact .inl ⟨k,t,sz,fz,els,ak,rfl⟩
  .rcases jC h with⟨k,t,sz,fz,els,h1,h2⟩|⟨h1,h2⟩
   .exact .inl ⟨k,t,sz,fz,els,iT _ h1,h2⟩
   .exact .inr ⟨iT _ h1,h2⟩
 |(k,.box t cs)::r,p,h=>by
  simp only[iw]at h
  rcases bo.1 h with rfl|h
  .exact .inr ⟨ak,λ_ _ _ _ e=>by cases e⟩
  .rcases jC h with⟨k,t,sz,fz,els,h1,h2⟩|⟨h1,h2⟩
   .exact .inl ⟨k,t,sz,fz,els,iT _ h1,h2⟩
   .exact .inr ⟨iT _ h1,h2⟩
 |(k,.map l)::r,p,h=>by
  simp only[iw]at h
  rcases bo.1 h with rfl|h
  .exact .inr ⟨ak,λ_ _ _ _ e=>by cases e⟩
  .rcases jC h with⟨k,t,sz,fz,els,h1,h2⟩|⟨h1,h2⟩
   .exact .inl ⟨k,t,sz,fz,els,iT _ h1,h2⟩
   .exact .inr ⟨iT _ h1,h2⟩
 |(k,.my g t cs)::r,p,h=>by
  simp only[iw]at h
  rcases bo.1 h with rfl|h
  .exact .inr ⟨ak,λ_ _ _ _ e=>by cases e⟩
  .rcases jC h with⟨k,t,sz,fz,els,h1,h2⟩|⟨h1,h2⟩
   .exact .inl ⟨k,t,sz,fz,els,iT _ h1,h2⟩
   .exact .inr ⟨iT _ h1,h2⟩
 |(k,.nest g t Po Pj Pe)::r,p,h=>by
  simp only[iw]at h
  rcases bo.1 h with rfl|h
  .exact .inr ⟨ak,λ_ _ _ _ e=>by cases e⟩
  .rcases jC h with⟨k,t,sz,fz,els,h1,h2⟩|⟨h1,h2⟩
   .exact .inl ⟨k,t,sz,fz,els,iT _ h1,h2⟩
   .exact .inr ⟨iT _ h1,h2⟩
 |(k,.gen g)::r,p,h=>by
  simp only[iw]at h
  rcases bo.1 h with rfl|h
  .exact .inr ⟨ak,λ_ _ _ _ e=>by cases e⟩
  .rcases jC h with⟨k,t,sz,fz,els,h1,h2⟩|⟨h1,h2⟩
   .exact .inl ⟨k,t,sz,fz,els,iT _ h1,h2⟩
   .exact .inr ⟨iT _ h1,h2⟩
def xH:∀{F:aw},keys (iw F)=keys F
 |[]=>rfl
 |(k,.row t sz fz els)::r=>by simp only[iw,keys,ig];congr 1;exact xH
 |(k,.box t cs)::r=>by simp only[iw,keys,ig];congr 1;exact xH
 |(k,.map l)::r=>by simp only[iw,keys,ig];congr 1;exact xH
 |(k,.my g t cs)::r=>by simp only[iw,keys,ig];congr 1;exact xH
 |(k,.nest g t Po Pj Pe)::r=>by simp only[iw,keys,ig];congr 1;exact xH
 |(k,.gen g)::r=>by simp only[iw,keys,ig];congr 1;exact xH
section
variable{m:M}{Z:ZM}{F:aw}{w:bG}
def LH(hf:∀a x,Z a=aY x->w.cell? a=aY x):∀a x,Z a=aY x->nB m Z F w a=aY x:=λa x h=>by
 unfold nB;split
 .exact hf a x h
 .exact h
def zmx(hf:∀a x,Z a=aY x->w.cell? a=aY x):∀a x,nB m Z F w a=aY x->w.cell? a=aY x:=λa x h=>by
 unfold nB at h;split at h
 .exact h
 .exact hf a x h
def Sz:∀{l:aw},(keys l).Nodup->∀p∈l,∀q∈l,q.1=p.1->q=p:=by
 intro l hl
 induction l with
 |nil=>intro p hp;cases hp
 |cons a l ih =>
  simp only[keys,ig,cr]at hl;intro p hp q hq e
  rcases bo.1 hp with h1|h1<;>rcases bo.1 hq with h2|h2
  .rw[h1,h2]
  .exact(hl.1 (bF.2 ⟨q,h2,by rw[e,h1]⟩)).elim
  .exact(hl.1 (bF.2 ⟨p,h1,by rw[<- e,h2]⟩)).elim
  .exact ih hl.2 p h1 q h2 e
def Step.freeze(hs:kp m Z F w):Step m Z F w m (nB m Z F w) (iw F) w:=by
 have rU:∀p∈iw F,∃q∈F,p.1=q.1/\gT m p=gT m q:=λp hp=>by
  rcases jC hp with⟨k,t,sz,fz,els,h1,h2⟩|⟨h1,_⟩
  .subst h2;exact⟨_,h1,rfl,rfl⟩
  .exact⟨p,h1,rfl,rfl⟩
 have IW:∀a x,nB m Z F w a=aY x->Z a=aY x∨∃k t sz fz els b cap,(k,Obj.row t sz fz els)∈F/\m k els.length=aY (b,cap)/\0<cap/\a.block=b/\a.off<els.length*sz:=λa x h=>by
  unfold nB at h;split at h
  .rename_i hc;exact .inr hc.2
  .exact .inl h
 refine⟨⟨zmx hs.frozen,λp hp=>?_,by rw[xH];exact hs.nodup,λp hp q hq b h1 h2=>?_⟩,λ_ _ _ e=>e,LH hs.frozen,rfl,rfl,rfl,al,λ_ _ _=>rfl,λk hk=>by rw[xH];exact hk,λ_ _=>rfl,λp hp b hb=>?_,λa x ha=>?_⟩
 .rcases jC hp with⟨k,t,sz,fz,els,h1,h2⟩|⟨h1,h2⟩
  .subst h2
   rcases hs.holds _ h1 with⟨g1,rfl,g3,g4,g5⟩|⟨b,cap,cur,fr,g1,g0,g2,g3,g4,g5,g6,g7,g8,g9,g10,g11,g12,g13⟩
   .exact .inl ⟨g1,rfl,rfl,g4,g5⟩
   have nJ:cap≠0:=ab;refine .inr ⟨b,cap,cur,fr,g1,g0,g2,g3,g4,g5,g6,g7.up (LH hs.frozen) (λf e=>by cases e),g8,dN g9 (cA _ g10),al,λa x ha e=>?_,g12,λoff x ho hx=>?_⟩
   .rcases IW a x ha with h'|⟨k',t',lz,nw,tR,b',pT,sf,sH,B4,sI,G6⟩
    .exact fa (g11 a x h' e) (cA _ g10)
    .have C4:pT≠0:=ab;have hk:k'=k:=hs.nT _ sf _ h1 b (by simp[gT,qK,Obj.iZ,sH,C4,<- sI,e]) (by simp[gT,qK,Obj.iZ,g1,nJ]);subst hk;have hq:=Sz hs.nodup _ h1 _ sf rfl;simp only[Prod.mk.injEq,Obj.row.injEq,true_and]at hq;obtain⟨_,rfl,_,rfl⟩:=hq;exact G6
   .unfold nB;rw[aO ⟨rfl,k,t,sz,fz,els,b,cap,h1,g1,g0,rfl,ho⟩,cell_of_row w b off cur t fr g2];exact hx
  .have hh:=hs.holds p h1
   refine hh.keep (λ_ _ _ e=>e) rfl (LH hs.frozen) λb hb=>⟨rfl,λa x ha e=>?_⟩
   rcases IW a x ha with h'|⟨k',t',lz,nw,tR,b',pT,sf,sH,B4,sI,G6⟩
   .exact h'
   .have C4:pT≠0:=ab;have hk:k'=p.1:=hs.nT _ sf _ h1 b (by simp[gT,qK,Obj.iZ,sH,C4,<- sI,e]) hb;have:=Sz hs.nodup p h1 _ sf hk;exact aQ (by rw[<- this]) (h2 t' lz nw tR)
 .obtain⟨p',lu,e1,e2⟩:=rU p hp;obtain⟨q',l_,e3,e4⟩:=rU q hq;rw[e1,e3];exact hs.nT p' lu q' l_ b (e2▸h1) (e4▸h2)
 .obtain⟨q,hq,_,e⟩:=rU p hp;exact .inr ⟨q,hq,e▸hb⟩
 .rcases IW a x ha with h'|⟨k',t',lz,nw,tR,b',pT,sf,sH,B4,sI,G6⟩
  .exact .inl h'
  .have C4:pT≠0:=ab;exact .inr (.inr ⟨_,sf,by simp[gT,qK,Obj.iZ,sH,sI,C4]⟩)
end
def qu{sz:Nat}:∀{els:List (List V)},(∀e∈els,e.length=sz)->∀{i j:Nat}{cs:List V}{v:V},els[i]?=aY cs->cs[j]?=aY v->els.flatten[i*sz+j]?=aY v
 |[],_,i,j,cs,v,h,_=>by simp at h
 |e::r,hk,0,j,cs,v,h,hj=>by
  simp only[dG,Option.some.injEq]at h;subst h;rw[cI,dw,cj,cR (bq.1 hj).1];exact hj
 |e::r,hk,i+1,j,cs,v,h,hj=>by have he:=hk e ak;rw[cI,List.getElem?_append_right (by rw[he,cU];omega)];rw[show(i+1)*sz+j-e.length=i*sz+j by rw[he,cU];omega];exact qu (λx hx=>hk x (iT _ hx)) (by simpa using h) hj
def qv{sz:Nat}:∀{els:List (List V)},(∀e∈els,e.length=sz)->els.flatten.length=els.length*sz
 |[],_=>ae
 |e::r,hk=>by rw[cI,pa,qv (λx hx=>hk x (iT _ hx)),hk e ak,lX,cU];omega
section
variable{m:M}{Z:ZM}{F:aw}{w:bG}
def LI{k t sz:Nat}{els:List (List V)}(h:Holds m Z w k (.row t sz els.length els)):∃b cap,m k els.length=aY (b,cap)/\els.length<=cap/\(cap=0∨yT Z ⟨b,0,bh⟩ sz 0 els):=by
 rcases h with⟨g1,rfl,g3,⟨b,g4⟩,g5⟩|⟨b,cap,cur,fr,g1,g0,g2,g3,g4,g5,g6,g7,g8,g9,g10,g11,g12,g13⟩
 .exact⟨b,0,g4,al,.inl rfl⟩
 refine⟨b,cap,g1,g3,.inr (yT.nu λi cs hi=>⟨g8 cs (bK hi),qJ.nu λj v hj=>?_⟩)⟩;have Iy:i<els.length:=(bq.1 hi).1
 have Cb:j<sz:=by have:=(bq.1 hj).1;rw[g8 cs (bK hi)]at this;exact this
 have iB:i*sz+j<els.length*sz:=by have:(i+1)*sz<=els.length*sz:=cA sz Iy;rw[cU]at this;omega
 obtain⟨x,h1,h2⟩:=g7.get (qu g8 hi hj);rw[cb,aO iB]at h1;refine⟨x,?_,h2⟩;rw[cj,cj,Jp,Addr.add_lit,cj];exact g13 _ x iB (by simpa using h1)
def zsl{m:Option M}{Z:ZM}{k sz n:Nat}{x:bw}(h:dQ m Z (.gv k (Nx sz n)) x):dQ m Z (.sl sz k n 0 n) x:=by
 obtain⟨f,hf,loc,h1,h2,h3,h4⟩:=h;refine⟨f,loc,hf,h1,ab,h3,?_⟩
 rcases h4 with⟨_,h4⟩|⟨h5,h6,h4⟩
 .exact .inl h4
 .exact .inr (.inl ⟨h6,bh,h4⟩)
mutual
def au.rep(hs:∀k t sz fz els,F.get k=aY (.row t sz fz els)->Holds m Z w k (.row t sz els.length els)):∀{v v':V},au F v v'->∀{x:bw},dQ (aY m) Z v x->dQ (aY m) Z v' x
 |_,_,.acz hw,x,h=>hw _ _ _ h
 |_,_,.same v,x,h=>h
 |_,_,.iO sz,x,h=>⟨bh,0,h,al,cx _,.inl rfl⟩
 |_,_,.row (k:=k) (sz:=sz) (t:=t) (fz:=fz) (L:=L) (els:=els) hg hL,x,h=>by
  subst hL;obtain⟨b,cap,h1,h2,h4⟩:=LI (hs _ _ _ _ _ hg);obtain⟨f,loc,e1,e2,e3,e4,e5⟩:=h;cases e1;rw[h1]at e2;cases e2
  rcases e5 with e5|⟨e5,A,e6⟩|⟨e5,_⟩
  .refine⟨_,_,e5,by simpa using h2,by simpa using e4,?_⟩
   rcases h4 with h4|h4
   .exact .inl (bW ab)
   .exact .inr ⟨⟨b,0,bh⟩,ae,h4⟩
  .have:els=[]:=bW (by simp only at e5;omega);subst this;exact⟨A,0,e6,al,by simp[maxLen],.inl rfl⟩
  .omega
 |_,_,.rj (k:=k) (sz:=sz) (t:=t) (fz:=fz) (L:=L) (els:=els) hg hL,x,h=>by
  subst hL;have h:=zsl h;obtain⟨b,cap,h1,h2,h4⟩:=LI (hs _ _ _ _ _ hg);obtain⟨f,loc,e1,e2,e3,e4,e5⟩:=h;cases e1;rw[h1]at e2;cases e2
  rcases e5 with e5|⟨e5,A,e6⟩|⟨e5,_⟩
  .refine⟨_,_,e5,by simpa using h2,by simpa using e4,?_⟩
   rcases h4 with h4|h4
   .exact .inl (bW ab)
   .exact .inr ⟨⟨b,0,bh⟩,ae,h4⟩
  .have:els=[]:=bW (by simp only at e5;omega);subst this;exact⟨A,0,e6,al,by simp[maxLen],.inl rfl⟩
  .omega
 |_,_,.sub (k:=k) (sz:=sz) (t:=t) (fz:=fz) (L:=L) (o:=o) (n:=n) (els:=els) hg hL hn,x,h=>by
  subst hL;obtain⟨b,cap,h1,h2,h4⟩:=LI (hs _ _ _ _ _ hg);obtain⟨f,loc,e1,e2,e3,e4,e5⟩:=h;cases e1;rw[h1]at e2;cases e2
  have hl:((els.drop o).take n).length=n:=by simp;omega
  simp only at e3 e4 e5
  rcases e5 with e5|⟨e5,A,e6⟩|⟨_,e5,A,c',e6,e7⟩
  .refine⟨aY ⟨b,o*sz,bh⟩,cap-o,by rw[hl];exact e5,by rw[hl];omega,ab,?_⟩
   rcases h4 with h4|h4
   .exact .inl (bW (by rw[hl];omega))
   refine .inr ⟨_,rfl,yT.nu λi cs hi=>?_⟩;rw[cb]at hi;split at hi
   .rw[cX]at hi;have:=h4.get hi;refine⟨this.1,?_⟩;have h5:=this.2;rw[Addr.add_lit]at h5 ⊢;rw[show o*sz+(0+i)*sz=0+(0+(o+i))*sz by rw[cj,cj,cj,dK]];exact h5
   .cases hi
  .have h0:(els.drop o).take n=[]:=bW (by rw[hl];omega);rw[h0];exact⟨A,0,e6,al,by simp[maxLen],.inl rfl⟩
  .have h0:(els.drop o).take n=[]:=bW (by rw[hl];omega);rw[h0];exact⟨A,c',e6,cx _,e7,.inl rfl⟩
 |_,_,.agg hl,x,h=>by obtain⟨l,h1,h2⟩:=h;exact⟨l,h1,vB.rep hs hl h2⟩
def vB.rep(hs:∀k t sz fz els,F.get k=aY (.row t sz fz els)->Holds m Z w k (.row t sz els.length els)):∀{l l':List V},vB F l l'->∀{xs:List bw},zu (aY m) Z l xs->zu (aY m) Z l' xs
 |_,_,.nil,xs,h=>h
 |_,_,.cons h1 h2,xs,h=>by obtain⟨x,xs',rfl,h3,h4⟩:=h;exact⟨x,xs',rfl,au.rep hs h1 h3,vB.rep hs h2 h4⟩
end
end
mutual
/-- No slice among it that is only read. -/
def V.bare:V->Bool
 |.vs ..|.vp ..|.pv ..=>bf
 |.agg cs=>Jr cs
 |.ij xs=>Jr xs
 |.fn _ a b=>Jr a&&Jr b
 |.lN _ v=>v.bare
 |_=>bg
def Jr:List V->Bool
 |[]=>bg
 |v::l=>v.bare&&Jr l
end
mutual
def dQ.bare{m:Option M}{Z Z':ZM}:∀(v:V)(x:bw),v.bare=bg->dQ m Z v x->dQ m Z' v x
 |.undef,x,_,h=>trivial
 |.no,x,_,h=>h
 |.int k n,x,_,h=>h
 |.bool b,x,_,h=>h
 |.str l,x,_,h=>h
 |.lF,x,_,h=>h
 |.ptr k L off,x,_,h=>h
 |.vp cs off,x,hb,h=>by cases hb
 |.iO,x,_,h=>h
 |.sl sz k L o n,x,_,h=>h
 |.vs sz els,x,hb,h=>by cases hb
 |.fn g first ml,x,hb,h=>by
  obtain⟨l1,l2,h1,h2,h3⟩:=h;simp only[V.bare,bn]at hb;exact⟨l1,l2,h1,zu.bare first l1 hb.1 h2,zu.bare ml l2 hb.2 h3⟩
 |.lZ,x,_,h=>h
 |.agg cs,x,hb,h=>by
  obtain⟨l,h1,h2⟩:=h;exact⟨l,h1,zu.bare cs l hb h2⟩
 |.ij xs,x,hb,h=>by
  obtain⟨l,h1,h2⟩:=h;exact⟨l,h1,zu.bare xs l hb h2⟩
 |.lP,x,_,h=>h
 |.mp k,x,_,h=>h
 |.mn,x,_,h=>h
 |.lN t v,x,hb,h=>by
  obtain⟨y,h1,h2⟩:=h;exact⟨y,h1,dQ.bare v y hb h2⟩
 |.gv k R,x,_,h=>h
 |.pv R,x,hb,h=>by cases hb
def zu.bare{m:Option M}{Z Z':ZM}:∀(vs:List V)(l:List bw),Jr vs=bg->zu m Z vs l->zu m Z' vs l
 |[],l,_,h=>h
 |v::vs,l,hb,h=>by obtain⟨x,xs,h1,h2,h3⟩:=h;simp only[Jr,bn]at hb;exact⟨x,xs,h1,dQ.bare v x hb.1 h2,zu.bare vs xs hb.2 h3⟩
end
def get_of_mem{F:aw}(hn:(keys F).Nodup):∀{k:Nat}{o:Obj},(k,o)∈F->F.get k=aY o:=by
 induction F with
 |nil=>intro k o h;cases h
 |cons p F ih =>
  obtain⟨k',o'⟩:=p;simp only[keys,ig,cr]at hn;intro k o h;simp only[aw.get]
  rcases bo.1 h with h|h
  .cases h;rw[cl];rfl
  .have lE:k≠k':=λe=>hn.1 (e▸cv h)
   have:bk k k'=bf:=by
    cases hb:bk k k' with
    |true=>exact aQ (eb hb) lE
    |false=>rfl
   rw[this,cf];exact ih hn.2 h
section
variable{P:bl}{ρ:Env}{w:bG}{dst:Option Tmp}{ty:bu}{pos:String}{aft:Array Edge}{gd:Option (Nat×Bool)}{f:FuncId}{l:List bE}{ts:Array bu}{args:List V}{F F' R:aw}{r:V}
def zmy{ρr:ye}{w:bG}{Rr:bw->bG->Prop}(hf:zb P f)(h:Calls P f (l.map (ev ρr)).toArray w λen w'=>∃x,en=.returned x/\Rr x w'):Bp P ⟨dst,.call ⟨.value (.func f),l.toArray,ts⟩,ty,pos,aft,gd⟩ ρr w Rr:=⟨rfl,.inr (.inr ⟨f,_,w,zr4 _ hf rfl,h⟩)⟩
end
inductive Src(sz:Nat)(R:aw):V->List (List V)->Prop
 |vs (ys:List (List V)):Src sz R (.vs sz ys) ys
 |iO:Src sz R .iO []
 |sl {k L t fz:Nat} {ys:List (List V)} (h:R.get k=aY (.row t sz fz ys)) (hL:L=ys.length):Src sz R (.sl sz k L 0 L) ys
def zmz{Z:ZM}{w:bG}{a:Addr}{sz:Nat}{ys:List (List V)}(h0:0<sz)(hf:∀a x,Z a=aY x->w.cell? a=aY x)(h:yT Z a sz 0 ys):
  ∃news:List bw,zu bh Z ys.flatten news/\∀j u,news[j]?=aY u->w.cell? (a.add j)=aY u:=by
 have hlen:∀e∈ys,e.length=sz:=λe he=>by obtain⟨i,hi,rfl⟩:=dn he;exact(h.get (bx hi)).1
 have Ir:=qv hlen
 have key:∀j,j<ys.flatten.length->∃x,w.cell? (a.add j)=aY x/\∀v,ys.flatten[j]?=aY v->dQ bh Z v x:=λj hj=>by
  rw[Ir]at hj;have hdiv:j / sz<ys.length:=(Nat.div_lt_iff_lt_mul h0).2 hj;have afK:j % sz<sz:=Nat.mod_lt _ h0
  have tw:j / sz*sz+j % sz=j:=by rw[Nat.mul_comm];exact Nat.div_add_mod j sz
  have C5:ys[j / sz]?=aY (ys[j / sz]'hdiv):=bx hdiv;have OB:=hlen _ (dq hdiv);obtain⟨_,Ij⟩:=h.get C5;have hv:(ys[j / sz]'hdiv)[j % sz]?=aY ((ys[j / sz]'hdiv)[j % sz]' ab):=bx ab;obtain⟨x,h1,h2⟩:=Ij.get hv;rw[cj,cj,Jp,tw]at h1;refine⟨x,hf _ _ h1,λv IS=>?_⟩;have:=qu hlen C5 hv;rw[tw,IS]at this;cases this;exact h2
 let news:List bw:=(dc ys.flatten.length).map λj=>(w.cell? (a.add j)).getD Go.undef
 have nD:∀j,j<ys.flatten.length->news[j]?=w.cell? (a.add j):=λj hj=>by obtain⟨x,h1,_⟩:=key j hj;simp only[news,cw,dv hj,cP,h1,dz]
 refine⟨news,zu.nu (by simp[news]) λj v x hv hx=>?_,λj u hj=>?_⟩
 .have hj:=(bq.1 hv).1;obtain⟨y,h1,h2⟩:=key j hj;rw[nD j hj,h1]at hx;cases hx;exact h2 v hv
 .have Cb:j<ys.flatten.length:=by have:=(bq.1 hj).1;simpa[news]using this
  rw[<- nD j Cb];exact hj
def Src.read{m:M}{Z:ZM}{w:bG}{R:aw}{sz:Nat}{y:V}{ys:List (List V)}{x:bw}(h:Src sz R y ys)(h0:0<sz)(hs:kp m Z R w)(hx:dQ (aY m) Z y x):
  ∃A c,x=.slice A ys.length c/\ys.length<=maxLen/\(A=bh->ys=[])/\∀a,A=aY a->∃news:List bw,zu bh Z ys.flatten news/\∀j u,news[j]?=aY u->w.cell? (a.add j)=aY u:=by
 cases h with
 |vs =>
  obtain⟨A,c,h1,h2,h3,h4⟩:=hx;refine⟨A,c,h1,ab,λhA=>?_,λa hA=>?_⟩
  .rcases h4 with h4|⟨a,h4,_⟩
   .exact h4
   .rw[hA]at h4;cases h4
  .rcases h4 with h4|⟨a',h4,h5⟩
   .subst h4;exact⟨[],rfl,λj u h=>by simp at h⟩
   .rw[hA]at h4;cases h4;exact zmz h0 hs.frozen h5
 |iO=>exact⟨bh,0,hx,by simp[maxLen],λ_=>rfl,λa h=>by cases h⟩
 |sl hg hL =>
  subst hL;obtain⟨f,loc,e1,e2,e3,e4,e5⟩:=hx;cases e1
  replace e5:=e5.imp_right λh=>h.resolve_right λh=>fx 0 h.1
  rcases hs.holds _ (aw.get_mem hg)with⟨_,h1,_,⟨b,h3⟩,_⟩|⟨b,cap,cur,fr,g1,g0,g2,g3,g4,g5,g6,g7,g8,g9,g10,g11,g12,g13⟩
  .subst h1
   rcases e5 with e5|⟨_,A,e5⟩
   .exact⟨_,_,e5,by simp[maxLen],λ_=>rfl,λa _=>⟨[],rfl,λj u h=>by simp at h⟩⟩
   .exact⟨_,_,e5,by simp[maxLen],λ_=>rfl,λa _=>⟨[],rfl,λj u h=>by simp at h⟩⟩
  .rw[g1]at e2;cases e2
   rcases e5 with e5|⟨e5,_⟩
   .refine⟨_,_,e5,ab,λh=>(by cases h),λa h=>?_⟩;cases h;refine⟨_,g7,λj u hj=>?_⟩;rw[Addr.add_lit,dw,cj,cell_of_row w b j cur _ fr g2];rw[cb]at hj;split at hj
    .simpa using hj
    .cases hj
   .simp only at e5;omega
def Js(P:bl)(t:Nat):Option (Nat×Nat×Nat):=
 match P.underlying t with
 |some (.slice e)=>match P.info? e with
  |some i=>match i.zero with
   |some z=>if ck 1 i.size&&bk z.cells.size i.size then aY (e,i.size,i.bytes)else bh
   |none=>bh
  |none=>bh
 |_=>bh
def Vn{P:bl}{t e sz bytes:Nat}(h:Js P t=aY (e,sz,bytes)):∃i z,P.underlying t=aY (.slice e)/\P.info? e=aY i/\i.zero=aY z/\i.size=sz/\i.bytes=bytes/\z.cells.size=sz/\0<sz:=by
 unfold Js at h;split at h
 .rename_i e' hu;split at h
  .rename_i i hi;split at h
   .rename_i z hz;split at h
    .rename_i hc;simp only[bn]at hc;simp only[Option.some.injEq,Prod.mk.injEq]at h;obtain⟨rfl,rfl,rfl⟩:=h;exact⟨i,z,hu,hi,hz,rfl,rfl,eb hc.2,lR hc.1⟩
    .cases h
   .cases h
  .cases h
 .cases h
section
variable{P:bl}{m:M}{Z:ZM}{w:bG}
def Ty{vs:List V}{l:List bw}{mm:Option M}(h:zu mm Z vs l)(h1:vs.all V.one=bg):∀u∈l,u.oneCell'=bg:=λu hu=>by obtain⟨i,hi,he⟩:=dn hu;have hl:=h.length;have hv:vs[i]?=aY (vs[i]' ab):=bx ab;obtain⟨u',h4,h5⟩:=h.get hv;rw[bx hi,he]at h4;cases h4;exact h5.one ((bm.1 h1) _ (dq _))
def Step.grown{k t sz fz:Nat}{els all:List (List V)}{cur:Array bw}{cap:Nat}{o:Obj}{w1:bG}(hs:kp m Z [(k,o)] w)(rU:o.iZ=els.length)(mf:∀L loc,m k L=aY loc->L<=els.length)(iB:els.length<all.length)
  (hh:w1.heap=w.heap) (h1:w1.os=w.os) (h2:w1.tape=w.tape) (h3:w1.output=w.output)
  (h0:0<sz) (Bv:all.length<=cap) (y1:cap<=maxLen) (nx:cur.size=cap*sz) (hr:zu bh Z all.flatten (cur.toList.take (all.length*sz))) (hk:∀e∈all,e.length=sz) (np:fz<=els.length):
  ∃m' Z',Step m Z [(k,o)] w m' Z' [(k,.row t sz fz all)] (w1.alloc (.cells cur t))/\m' k all.length=aY (w.heap.size,cap):=by
 let m':M:=λk' L=>if k'=k/\L=all.length then aY (w.heap.size,cap)else m k' L
 have rB:m' k all.length=aY (w.heap.size,cap):=by simp[m']
 have sM:∀k' L loc,m k' L=aY loc->m' k' L=aY loc:=λk' L loc e=>by
  by_cases hc:k'=k/\L=all.length
  .obtain⟨rfl,rfl⟩:=hc;have:=mf _ _ e;omega
  .simp only[m',aN hc];exact e
 let Z':ZM:=λa=>if a.block=w.heap.size/\a.spot=bh/\a.off<fz*sz then cur[a.off]? else Z a
 have iz:w1.heap.size=w.heap.size:=by rw[hh]
 have Na:∀a x,Z a=aY x->a.block<w.heap.size:=λa x ha=>xo hs.frozen ha
 have Ov:∀a x,Z a=aY x->Z' a=aY x:=λa x ha=>by have:=Na a x ha;simp only[Z',aN (show ¬(a.block=w.heap.size/\a.spot=bh/\a.off<fz*sz) by omega)];exact ha
 have tU:(w1.alloc (.cells cur t)).heap[w.heap.size]?=aY (.cells cur t (0,0)):=by rw[<- iz];exact World.alloc_heap_new w1 _
 have pD:∀off,(w1.alloc (.cells cur t)).cell? ⟨w.heap.size,off,bh⟩=cur[off]?:=λoff=>cell_of_row _ _ off cur t (0,0) tU
 have hold:∀j,j<w.heap.size->(w1.alloc (.cells cur t)).heap[j]?=w.heap[j]?:=λj hj=>by rw[<- hh];exact Below.heap_alloc w1 _ j ab
 have nJ:cap≠0:=ab;refine⟨m',Z',⟨⟨λa x ha=>?_,λp hp=>?_,by simp[keys],λp hp q hq _ _ _=>?_⟩,sM,Ov,h1,h2,h3,by simp[iz],λj hj _=>hold j hj,λj hj=>by simpa[keys]using hj,λj hj=>?_,λp hp b hb=>?_,λa x ha=>?_⟩,rB⟩
 .simp only[Z']at ha;split at ha
  .rename_i hc;obtain⟨b,off,sp⟩:=a;obtain⟨rfl,rfl,_⟩:=hc;rw[pD];exact ha
  .rw[kT (hold _ (Na a x ha))];exact hs.frozen a x ha
 .simp only[gX]at hp;subst hp;refine .inr ⟨w.heap.size,cap,cur,(0,0),rB,ab,tU,Bv,y1,nx,h0,hr.up Ov (λf e=>by cases e),hk,ae,ab,λa x ha e=>?_,λL loc e=>?_,λoff x ho hx=>?_⟩
  .simp only[Z']at ha;split at ha
   .rename_i hc;exact hc.2.2
   .have:=Na a x ha;omega
  .simp only[m']at e;split at e
   .rename_i hc;omega
   .have:=mf _ _ e;omega
  .simp only[Z'];rw[aO (by simp[ho])];exact hx
 .simp only[gX]at hp hq;subst hp;subst hq;rfl
 .funext L
  have:j≠k:=by simpa[keys]using hj
  simp[m',this]
 .simp only[gX]at hp;subst hp;simp only[gT,qK,qK,Obj.iZ,rB,aH,aN nJ,Option.some.injEq]at hb;exact .inl ab
 .simp only[Z']at ha;split at ha
  .rename_i hc;exact .inr (.inl ab)
  .exact .inl ha
def Step.ae5{k t sz fz:Nat}{els all:List (List V)}{b cap:Nat}{cur cur':Array bw}{fr:Nat×Nat}(hs:kp m Z [(k,.row t sz fz els)] w)(g1:m k els.length=aY (b,cap))(g0:0<cap)(g2:w.heap[b]?=aY (.cells cur t fr))
  (hle:els.length<=all.length) (Bv:all.length<=cap) (nx:cur'.size=cap*sz) (Ep:∀off,off<els.length*sz->cur'[off]?=cur[off]?) (hr:zu bh Z all.flatten (cur'.toList.take (all.length*sz))) (hk:∀e∈all,e.length=sz)
  {w':bG} (hw:w'=w.setRow b cur'):∃m',Step m Z [(k,.row t sz fz els)] w m' Z [(k,.row t sz fz all)] w'/\m' k all.length=aY (b,cap):=by
 subst hw
 rcases hs.holds _ (gX.2 rfl)with⟨_,h1,_,⟨b',h3⟩,_⟩|⟨b',pT,afD,GS,GV,afy,GW,g3,g4,g5,g6,g7,g8,g9,g10,g11,g12,g13⟩
 .subst h1;have:=g1.symm.trans h3;simp only[Option.some.injEq,Prod.mk.injEq]at this;omega
 rw[g1]at GV;simp only[Option.some.injEq,Prod.mk.injEq]at GV;obtain⟨rfl,rfl⟩:=GV;rw[g2]at GW;simp only[Option.some.injEq,Obj.cells.injEq]at GW;obtain⟨rfl,_,rfl⟩:=GW
 let m':M:=λk' L=>if k'=k/\L=all.length then aY (b,cap)else m k' L
 have rB:m' k all.length=aY (b,cap):=by simp[m']
 have sM:∀k' L loc,m k' L=aY loc->m' k' L=aY loc:=λk' L loc e=>by
  by_cases hc:k'=k/\L=all.length
  .obtain⟨rfl,rfl⟩:=hc;have h:=g12 _ _ e;have:all.length=els.length:=ab;rw[this,g1]at e;rw[rB];exact e
  .simp only[m',aN hc];exact e
 have nJ:cap≠0:=ab;have tU:=setRow_heap w b cur cur' t fr g2;have afH:b<w.heap.size:=(bP.1 g2).1;have afP:fz*sz<=els.length*sz:=cA _ g10
 have pD:∀off,(w.setRow b cur').cell? ⟨b,off,bh⟩=cur'[off]?:=λoff=>cell_of_row _ _ off cur' t fr tU
 refine⟨m',⟨⟨λa x ha=>?_,λp hp=>?_,by simp[keys],λp hp q hq _ _ _=>?_⟩,sM,λ_ _ e=>e,rfl,rfl,rfl,ae,λj hj hn=>setRow_other w b j _ λe=>?_,λj hj=>by simpa[keys]using hj,λj hj=>?_,λp hp b' hb=>?_,λa x ha=>.inl ha⟩,rB⟩
 .by_cases e:a.block=b
  .have iB:=g11 a x ha e;have hc:=hs.frozen a x ha;obtain⟨bb,off,sp⟩:=a;simp only at e iB;subst e
   have IM:sp=bh:=by
    simp only[World.cell?,g2]at hc
    cases sp with
    |none=>rfl
    |some _=>simp at hc
   subst IM;rw[cell_of_row w bb off cur t fr g2]at hc;rw[pD,Ep off ab];exact hc
  .rw[kT (setRow_other w b _ _ e)];exact hs.frozen a x ha
 .simp only[gX]at hp;subst hp;refine .inr ⟨b,cap,cur',fr,rB,g0,tU,Bv,g4,nx,g6,hr,hk,by have:=cA sz hle;omega,ab,g11,λL loc e=>?_,λoff x ho hx=>?_⟩
  .simp only[m']at e;split at e
   .rename_i hc;omega
   .have:=g12 _ _ e;omega
  .rw[Ep off ab]at hx;exact g13 off x ho hx
 .simp only[gX]at hp hq;subst hp;subst hq;rfl
 .subst e;exact hn _ (gX.2 rfl) (by simp[gT,qK,Obj.iZ,g1,nJ])
 .funext L
  have:j≠k:=by simpa[keys]using hj
  simp[m',this]
 .simp only[gX]at hp;subst hp;simp only[gT,qK,qK,Obj.iZ,rB,aH,aN nJ,Option.some.injEq]at hb;exact .inr ⟨_,gX.2 rfl,by simp[gT,qK,Obj.iZ,g1,nJ,hb]⟩
end
section
variable{P:bl}{ρ:Env}{dst:Option Tmp}{ty:bu}{pos:String}{aft:Array Edge}{gd:Option (Nat×Bool)}
def oX{α:Type}(a b:List (List α)):(a++b).flatten=a.flatten++b.flatten:=List.flatten_append
def zj4{t e sz bytes:Nat}{x y:bE}{k fz L:Nat}{els ys:List (List V)}{R:aw}(hT:Js P t=aY (e,sz,bytes))(hx:fQ ρ x=.sl sz k L 0 L)(hL:L=els.length)(hy:Src sz R (fQ ρ y) ys)
  (h1:∀c∈ys,c.all V.one=bg) (hlen:(els.length+ys.length)*bytes<=140737488355328) (rA:els.length+ys.length<=9223372036854775807) (Cc:jP k R=bf) (tx:∀c∈ys,c.length=sz):
  Loc P ⟨dst,.call ⟨.builtin .append,#[x,y],#[t,t]⟩,ty,pos,aft,gd⟩ ρ ((k,.row e sz fz els)::R) (.sl sz k (els++ys).length 0 (els++ys).length) ((k,.row e sz fz (els++ys))::R):=by
 intro ρr m Z w gY hs mf;obtain⟨i,z,hu,hi,hz,ab7,Iv,EZ,h0⟩:=Vn hT;subst ab7;subst Iv;subst hL;have hX:=gY x (by simp[Op.operands,Call.operands]);have hY:=gY y (by simp[Op.operands,Call.operands]);rw[hx]at hX;have sP:kp m Z [(k,.row e i.size fz els)] w:=kp.left (F:=[(k,.row e i.size fz els)]) (G:=R) hs;have IK:kp m Z R w:=kp.left (F:=R) (G:=[(k,.row e i.size fz els)]) (hs.perm (List.perm_append_comm (l₁:=[(k,Obj.row e i.size fz els)]) (l₂:=R)));obtain⟨A,c,B9,hym,hA,aem⟩:=hy.read h0 IK hY
 have tt:∀p∈[(k,Obj.row e i.size fz (els++ys))],∀q∈R,p.1≠q.1:=λp hp q hq e'=>by simp only[gX]at hp;subst hp;have e':k=q.1:=e';rw[yp.2 (by rw[e'];exact ax hq)]at Cc;cases Cc
 have ln:∀{m' Z' w'},Step m Z [(k,.row e i.size fz els)] w m' Z' [(k,.row e i.size fz (els++ys))] w'->Step m Z ((k,.row e i.size fz els)::R) w m' Z' ((k,.row e i.size fz (els++ys))::R) w':=λh=>Step.By (F:=[(k,.row e i.size fz els)]) (G:=R) (F':=[(k,.row e i.size fz (els++ys))]) hs h tt
 have fin:∀{v w'},(Builtin.append_ #[t,t] ty #[ev ρr x,ev ρr y]).run P w=.ok v w'->(bU (ev ρr) ⟨dst,.call ⟨.builtin .append,#[x,y],#[t,t]⟩,ty,pos,aft,gd⟩).run P w=.ok (.value v) w':=λh=>by simp[bU,resolve,invoke,builtin,h]
 have CQ:(els++ys).length=els.length+ys.length:=ae;obtain⟨f,loc,e1,e2,e3,e4,e5⟩:=hX;cases e1
 replace e5:=e5.imp_right λh=>h.resolve_right λh=>fx 0 h.1
 by_cases pt:ys=[]
 .-- nothing is appended
  subst pt
  have ad':∃A' c',ev ρr x=.slice A' els.length c'/\els.length<=c':=by
   rcases e5 with e5|⟨e5,A',e6⟩
   .exact⟨_,_,e5,ab⟩
   .exact⟨A',0,by rw[e6];congr 1;omega,ab⟩
  obtain⟨A',c',hXv,ni⟩:=ad'
  have mg:(Builtin.append_ #[t,t] ty #[ev ρr x,ev ρr y]).run P w=.ok (ev ρr x) w:=by
   rw[hXv,B9]
   have hf:(Builtin.firstCells i.size 0 (.slice A 0 c)).run P w=.ok #[] w:=by
    cases A with
    |none=>simp[Builtin.firstCells]
    |some a=>simp[Builtin.firstCells,loadCells,loadCellsFrom]
   cases A' with
   |none=>simp[Builtin.append_,run_underlying hu,sizeOf,typeInfo,hi,Builtin.lenOf,ni,hf]
   |some a'=>simp[Builtin.append_,run_underlying hu,sizeOf,typeInfo,hi,Builtin.lenOf,ni,hf,storeCells]
  simp only[cy];refine⟨rfl,.inl ⟨_,w,fin mg,m,Z,Step.refl hs,m,loc,rfl,e2,e3,e4,e5.imp_right .inl⟩⟩
 have nK:0<ys.length:=fR.2 pt
 obtain⟨a,rfl⟩:∃a,A=aY a:=by
  cases A with
  |none=>exact aQ (hA rfl) pt
  |some a=>exact⟨a,rfl⟩
 obtain⟨news,pI,qa⟩:=aem a rfl
 have nM:news.length=ys.length*i.size:=by rw[pI.length,qv tx]
 have En:∀u∈news,u.oneCell'=bg:=Ty pI (bm.2 λv hv=>by
  obtain⟨c,hc,hvc⟩:=List.mem_flatten.1 hv
  exact(bm.1 (h1 c hc)) v hvc)
 have Nj:els.length+ys.length<=maxLen:=by simp only[maxLen];omega
 rcases sP.holds _ (gX.2 rfl)with⟨_,g1,g2,⟨b,g3⟩,g4⟩|⟨b,cap,cur,fr,g1,g0,g2,g3,g4,g5,g6,g7,g8,g9,g10,g11,g12,g13⟩
 .-- an empty row without room
  subst g1;subst g2;have g3:m k 0=aY (b,0):=g3;rw[show m k ([]:List (List V)).length=m k 0 from rfl,g3]at e2;cases e2;have p9:=grownCap_ge w ys.length 0 e;have sj:=grownCap_le_maxLen w ys.length 0 e (by simpa using Nj)
  obtain⟨m',Z',iy,n9⟩:=Step.grown (m:=m) (Z:=Z) (w:=w) (k:=k) (t:=e) (sz:=i.size) (fz:=0) (els:=[]) (all:=[]++ys) (cur:=news.toArray++Builtin.zeroCells z.cells (grownCap w ys.length 0 e-ys.length)) (cap:=grownCap w ys.length 0 e) (w1:=w.drew) sP rfl (by simpa using g4) (by simpa using nK) rfl rfl rfl rfl h0 (by simpa using p9) sj
   (by simp only[fo,cW,size_zeroCells,EZ,nM,<- dK];congr 1;omega)
   (by
    have:(news.toArray++Builtin.zeroCells z.cells (grownCap w ys.length 0 e-ys.length)).toList.take (([]++ys:List (List V)).length*i.size)=news:=by simp only[fT,cq,<- nM];exact dH
    rw[this];simpa using pI) (by simpa using tx) (cx _)
  have hr:=run_append_nil (P:=P) w t ty e i z hu hi hz a ys.length c news nM qa nK ab (by have:=hlen;simp only[dD,cj]at this;omega)
  rcases e5 with e5|⟨_,A',e5⟩
  .simp only[dD,dw]at e5;have sO:=run_append_grow (P:=P) w t ty e i z hu hi hz ⟨b,0,bh⟩ 0 0 [] ae (λj v h=>by simp at h) a ys.length c news nM qa ab ab (growslice_fits ab (by simpa using hlen));simp only[cj,cq,eW]at sO;refine⟨rfl,.inl ⟨_,_,fin (by rw[e5,B9];exact sO),m',Z',ln iy,m',_,rfl,n9,by simpa using p9,sj,.inl ae⟩⟩
  .cases A' with
   |none=>exact⟨rfl,.inl ⟨_,_,fin (by rw[e5,B9];exact hr),m',Z',ln iy,m',_,rfl,n9,by simpa using p9,sj,.inl ae⟩⟩
   |some a' =>
    have sO:=run_append_grow (P:=P) w t ty e i z hu hi hz a' 0 0 [] ae (λj v h=>by simp at h) a ys.length c news nM qa ab ab (growslice_fits ab (by simpa using hlen));simp only[cj,cq,eW]at sO;exact⟨rfl,.inl ⟨_,_,fin (by rw[e5,B9];exact sO),m',Z',ln iy,m',_,rfl,n9,by simpa using p9,sj,.inl ae⟩⟩
 .have g1:m k els.length=aY (b,cap):=g1;rw[g1]at e2;cases e2
  have e5:ev ρr x=.slice (aY ⟨b,0,bh⟩) els.length cap:=by
   rcases e5 with e5|⟨e5,_⟩
   .simpa using e5
   .simp only at e5;omega
  have Ir:=qv g8
  have mR:cur.toList.length=cap*i.size:=by simpa using g5
  by_cases GC:els.length+ys.length<=cap
  .have Ee:els.length*i.size+news.length<=cur.size:=by rw[nM,g5,<- dK];exact cA _ GC
   have hr:=run_append_roomF (P:=P) w t ty e i hu hi b els.length cap cur fr g2 (dN g9 (cA _ g10)) a ys.length c news nM qa En GC Ee
   have iB:els.length*i.size<=cur.toList.length:=by rw[mR];exact cA _ g3
   obtain⟨m',iy,n9⟩:=Step.ae5 (all:=els++ys) (cur':=(cur.toList.take (els.length*i.size)++news++cur.toList.drop (els.length*i.size+news.length)).toArray) sP g1 g0 g2 ae ab
    (by simp only[cW,pa,cD,cS];(have:cur.size=cur.toList.length:=ae);omega)
    (λoff ho=>by
     simp only[eD,sF]
     rw[cR (by simp only[cD];omega),cb,aO ho];simp)
    (by
     have e6:((els++ys).length*i.size)=(cur.toList.take (els.length*i.size)++news).length:=by
      have h7:(cur.toList.take (els.length*i.size)).length=els.length*i.size:=by rw[cD];omega
      rw[CQ,pa (a:=cur.toList.take (els.length*i.size)),h7,nM,dK]
     rw[e6,oX];simp only[];rw[dH]
     exact g7.append pI)
    (λc hc=>by
     rcases bI.1 hc with hc|hc
     .exact g8 c hc
     .exact tx c hc) rfl
   exact⟨rfl,.inl ⟨_,_,fin (by rw[e5,B9];exact hr),m',Z,ln iy,m',_,rfl,n9,by simp only[CQ];omega,g4,.inl (by simp[CQ])⟩⟩
  .have p9:=grownCap_ge w (els.length+ys.length) cap e;have sj:=grownCap_le_maxLen w (els.length+ys.length) cap e Nj
   have n_:(cur.toList.take (els.length*i.size)).length=els.length*i.size:=by rw[cD,mR];exact eN (cA _ g3)
   have hr:=run_append_grow (P:=P) w t ty e i z hu hi hz ⟨b,0,bh⟩ els.length cap (cur.toList.take (els.length*i.size)) n_ (λj v h=>by
    rw[Addr.add_lit,cj,cell_of_row w b j cur e fr g2];rw[cb]at h;split at h
    .simpa using h
    .cases h) a ys.length c news nM qa ab ab (growslice_fits ab hlen)
   obtain⟨m',Z',iy,n9⟩:=Step.grown (m:=m) (Z:=Z) (w:=w) (k:=k) (t:=e) (sz:=i.size) (fz:=fz) (els:=els) (all:=els++ys) (cur:=(cur.toList.take (els.length*i.size)).toArray++news.toArray++Builtin.zeroCells z.cells (grownCap w (els.length+ys.length) cap e-(els.length+ys.length))) (cap:=grownCap w (els.length+ys.length) cap e) (w1:=w.drew) sP rfl g12 ab rfl rfl rfl rfl h0 ab sj
    (by simp only[fo,cW,size_zeroCells,EZ,nM,n_,<- dK];congr 1;omega)
    (by
     have e6:((els++ys).length*i.size)=(cur.toList.take (els.length*i.size)++news).length:=by rw[CQ,pa (a:=cur.toList.take (els.length*i.size)),n_,nM,dK]
     rw[e6,oX];simp only[fT];rw[dH]
     exact g7.append pI)
    (λc hc=>by
     rcases bI.1 hc with hc|hc
     .exact g8 c hc
     .exact tx c hc) g10
   exact⟨rfl,.inl ⟨_,_,fin (by rw[e5,B9];exact hr),m',Z',ln iy,m',_,rfl,n9,by simp only[CQ];omega,sj,.inl (by simp[CQ])⟩⟩
def tL(P:bl)(t:Nat):Bool:=match P.underlying t with|some .string=>bg|_=>bf
def Tz{t:Nat}(h:tL P t=bg):P.underlying t=aY .string:=by
 unfold tL at h;split at h
 .assumption
 .cases h
def zbm{t:bu}{x ix:bE}{k:IntKind}{i:Int}{l:aj}(ht:tL P t=bg)(hx:fQ ρ x=.str l)(hi:fQ ρ ix=.int k i)(h0:0<=i)(h1:i<l.length):
  Loc P ⟨dst,.index t x ix,ty,pos,aft,gd⟩ ρ [] (.int .u8 ((l.getD i.toNat 0).toNat)) []:=by
 intro ρr m Z w gY hs _;have hX:=gY x (by simp[Op.operands]);have hI:=gY ix (by simp[Op.operands]);rw[hx]at hX;rw[hi]at hI;have hX:ev ρr x=.string ⟨l.toArray⟩:=hX;have hI:ev ρr ix=.int k i:=hI;have iB:i.toNat<l.length:=ab
 have hg:(⟨l.toArray⟩:ByteArray)[i.toNat]?=aY (l.getD i.toNat 0):=by
  have iz:(⟨l.toArray⟩:ByteArray).size=l.length:=by show l.toArray.size=_;simp
  rw[getElem?_pos _ _ (by rw[iz];exact iB)]
  congr 1
  show l.toArray[i.toNat]=_
  simp[cJ,bx iB]
 refine⟨rfl,.inl ⟨_,w,?_,m,Z,Step.refl hs,rfl⟩⟩;simp[bU,Instr.index,asIntOf,hX,hI,run_underlying (Tz ht),h0,hg]
def zfq{t e sz:Nat}{x ix:bE}{k:IntKind}{i:Int}{els:List (List V)}{cs:List V}(ht:oM P t=aY (e,sz))(hx:fQ ρ x=.vs sz els)(hi:fQ ρ ix=.int k i)(h0:0<=i)(hc:els[i.toNat]?=aY cs):
  Loc P ⟨dst,.indexAddr t x ix,ty,pos,aft,gd⟩ ρ [] (.vp cs 0) []:=by
 intro ρr m Z w gY hs _;have hX:=gY x (by simp[Op.operands]);have hI:=gY ix (by simp[Op.operands]);rw[hx]at hX;rw[hi]at hI;have hI:ev ρr ix=.int k i:=hI;obtain⟨A,c,h1,h2,h3,h4⟩:=hX;have iB:=(bq.1 hc).1
 rcases h4 with h4|⟨a,rfl,h5⟩
 .subst h4;simp at iB
 have h6:=(h5.get hc).2;rw[cj]at h6;unfold oM at ht;split at ht
 .rename_i e' hu;split at ht
  .rename_i ii sL;split at ht
   .simp only[Option.some.injEq,Prod.mk.injEq]at ht;obtain⟨rfl,iz⟩:=ht;refine⟨rfl,.inl ⟨.pointer (aY (a.add (i.toNat*sz))),w,?_,m,Z,Step.refl hs,a.add (i.toNat*sz),by rw[Addr.add_zero'],h6⟩⟩;have h7:¬((els.length:Int)<=i):=ab;simp[bU,Instr.indexAt,run_underlying hu,asIntOf,h1,hI,sizeOf,typeInfo,sL,iz,h0,h7]
   .cases ht
  .cases ht
 .cases ht
def zbn{t e sz kk L o n:Nat}{x ix:bE}{k:IntKind}{i:Int}(ht:oM P t=aY (e,sz))(hx:fQ ρ x=.sl sz kk L o n)(hi:fQ ρ ix=.int k i)(h0:0<=i)(h1:i<n):
  Loc P ⟨dst,.indexAddr t x ix,ty,pos,aft,gd⟩ ρ [] (.ptr kk L (o*sz+i.toNat*sz)) []:=by
 intro ρr m Z w gY hs _;have hX:=gY x (by simp[Op.operands]);have hI:=gY ix (by simp[Op.operands]);rw[hx]at hX;rw[hi]at hI;have hI:ev ρr ix=.int k i:=hI;obtain⟨f,loc,e1,e2,e3,e4,e5⟩:=hX;cases e1
 have e5:ev ρr x=.slice (aY ⟨loc.1,o*sz,bh⟩) n (loc.2-o):=by
  rcases e5 with e5|⟨e5,_⟩|⟨_,e5,_⟩
  .exact e5
  .omega
  .omega
 unfold oM at ht;split at ht
 .rename_i e' hu;split at ht
  .rename_i ii sL;split at ht
   .simp only[Option.some.injEq,Prod.mk.injEq]at ht;obtain⟨rfl,iz⟩:=ht;refine⟨rfl,.inl ⟨.pointer (aY ⟨loc.1,o*sz+i.toNat*sz,bh⟩),w,?_,m,Z,Step.refl hs,m,loc,rfl,e2,rfl⟩⟩;have h7:¬((n:Int)<=i):=ab;simp[bU,Instr.indexAt,run_underlying hu,asIntOf,e5,hI,sizeOf,typeInfo,sL,iz,h0,h7,Addr.add_lit]
   .cases ht
  .cases ht
 .cases ht
def zm2{m:M}{Z:ZM}{w:bG}{k t sz fz:Nat}{els:List (List V)}{i:Nat}{cs:List V}(h:Holds m Z w k (.row t sz fz els))(hc:els[i]?=aY cs):
  ∃b cap cur fr,m k els.length=aY (b,cap)/\w.heap[b]?=aY (.cells cur t fr)/\∀j v,cs[j]?=aY v->∃x,cur[i*sz+j]?=aY x/\dQ bh Z v x:=by
 have iB:=(bq.1 hc).1
 rcases h with⟨_,rfl,_⟩|⟨b,cap,cur,fr,g1,g0,g2,g3,g4,g5,g6,g7,g8,g9,g10,g11,g12,g13⟩
 .simp at iB
 refine⟨b,cap,cur,fr,g1,g2,λj v hj=>?_⟩;obtain⟨x,h1,h2⟩:=g7.get (qu g8 hc hj);rw[cb]at h1;split at h1
 .exact⟨x,by simpa using h1,h2⟩
 .cases h1
def zfr{t et sz fz k L off:Nat}{a:bE}{els:List (List V)}{cs:List V}{v:V}(i j:Nat)(ha:fQ ρ a=.ptr k L off)(hL:L=els.length)(Eh:off=i*sz+j)(hc:els[i]?=aY cs)(hv:mQ P t cs j=aY v):
  Loc P ⟨dst,.load t a,ty,pos,aft,gd⟩ ρ [(k,.row et sz fz els)] v [(k,.row et sz fz els)]:=by
 intro ρr m Z w gY hs _;have hX:=gY a (by simp[Op.operands]);rw[ha]at hX;subst hL;subst Eh;obtain⟨f,loc,e1,e2,e3⟩:=hX;cases e1;obtain⟨b,cap,cur,fr,g1,g2,g3⟩:=zm2 (hs.holds _ (gX.2 rfl)) hc;have g1:m k els.length=aY (b,cap):=g1;rw[g1]at e2;cases e2
 have pD:∀q,w.cell? ⟨b,q,bh⟩=cur[q]?:=λq=>cell_of_row w b q cur et fr g2
 refine⟨rfl,.inl ?_⟩;unfold mQ at hv;split at hv
 .rename_i mW;split at hv
  .rename_i v' IS;split at hv
   .cases hv;obtain⟨u,h4,h5⟩:=g3 _ _ IS;exact⟨u,w,uP (kv mW) e3 (by rw[pD];exact h4),m,Z,Step.refl hs,h5.tV⟩
   .cases hv
  .cases hv
 .rename_i n mW;split at hv
  .rename_i hk;have hk:=lR hk;cases hv
   let us:List bw:=(dc n).map λq=>(cur[i*sz+(j+q)]?).getD Go.undef
   have hex:∀q,q<n->∃u v,cs[j+q]?=aY v/\cur[i*sz+(j+q)]?=aY u/\dQ bh Z v u:=λq hq=>by have Oy:cs[j+q]?=aY (cs[j+q]' ab):=bx ab;obtain⟨u,h1,h2⟩:=g3 _ _ Oy;exact⟨u,_,Oy,h1,h2⟩
   have nD:∀q,q<n->us[q]?=cur[i*sz+(j+q)]?:=λq hq=>by obtain⟨u,v,_,h2,_⟩:=hex q hq;simp only[us,cw,dv hq,cP,h2,dz]
   refine⟨.agg us.toArray,w,qq us (jc mW) e3 (by simp[us]) λq u hq=>?_,m,Z,Step.refl hs,us,rfl,?_⟩
   .have C9:q<n:=by have:=(bq.1 hq).1;simpa[us]using this
    rw[Addr.add_lit,pD,fA,<- nD q C9];exact hq
   .refine zu.nu (by simp[us];omega) λq v u hv hu=>?_
    have C9:q<n:=by have:=(bq.1 hu).1;simpa[us]using this
    rw[cb,aO C9,cX]at hv;obtain⟨u',v',h1,h2,h3⟩:=hex q C9;rw[hv]at h1;cases h1;rw[nD q C9,h2]at hu;cases hu;exact h3.tV
  .cases hv
 .cases hv
def KX{α:Type}{k off:Nat}{us:List α}:∀(xs:List (List α)),(∀x∈xs,x.length=k)->∀(i:Nat)(x:List α),xs[i]?=aY x->off+us.length<=k ->
  (xs.set i (x.take off++us++x.drop (off+us.length))).flatten=xs.flatten.take (i*k+off)++us++xs.flatten.drop (i*k+off+us.length)
 |[],_,i,x,h,_=>by simp at h
 |y::xs,hk,0,x,h,hf=>by
  have hy:=hk y ak;simp only[dG,Option.some.injEq]at h;subst h;rw[List.set_cons_zero,cI,cI,dw,cj,List.take_append_of_le_length ab,List.drop_append_of_le_length ab];simp[sF]
 |y::xs,hk,i+1,x,h,hf=>by have hy:=hk y ak;have ih:=KX (us:=us) (off:=off) xs (λz hz=>hk z (iT _ hz)) i x (by simpa using h) hf;rw[List.set_cons_succ,cI,cI,ih,show(i+1)*k+off=y.length+(i*k+off) by rw[hy,cU];omega,eT,fA,List.drop_append];rw[List.drop_of_length_le (by omega:y.length<=y.length+(i*k+off)+us.length),show y.length+(i*k+off)+us.length-y.length=i*k+(off+us.length) by omega];simp[sF]
def zj5{α:Type}(c us:List α)(p n:Nat)(h:p+us.length<=n)(hn:n<=c.length):(c.take p++us++c.drop (p+us.length)).take n=(c.take n).take p++us++(c.take n).drop (p+us.length):=by
 have hA:(c.take p++us).length=p+us.length:=by simp only[pa,cD];omega
 have e:n=(c.take p++us).length+(n-(p+us.length)):=ab
 have e1:(c.take n).take p=c.take p:=by rw[gJ,eN ab]
 rw[e1,gG]
 conv=>lhs;rw[e]
 rw[eT]
def zbo{t et sz fz k L off:Nat}{a x:bE}{els:List (List V)}{cs:List V}(i j:Nat)(ha:fQ ρ a=.ptr k L off)(hL:L=els.length)(Eh:off=i*sz+j)(hc:els[i]?=aY cs)(np:fz<=i)
  (hp:(fQ ρ x).plain=bg) (h1:(fQ ρ x).cells.all V.one=bg) (tz:(fQ ρ x).refs=[]) (iz:uR P t (fQ ρ x).cells.length=bg) (Ee:j+(fQ ρ x).cells.length<=sz):
  Loc P ⟨dst,.store t a x,ty,pos,aft,gd⟩ ρ [(k,.row et sz fz els)] .no [(k,.row et sz fz (els.set i (cs.take j++(fQ ρ x).cells++cs.drop (j+(fQ ρ x).cells.length))))]:=by
 intro ρr m Z w gY hs _;have hX:=gY a (by simp[Op.operands]);rw[ha]at hX;subst hL;subst Eh;obtain⟨f,loc,e1,e2,e3⟩:=hX;cases e1;have iB:=(bq.1 hc).1
 rcases hs.holds _ (gX.2 rfl)with⟨_,g1,_⟩|⟨b,cap,cur,fr,g1,g0,g2,g3,g4,g5,g6,g7,g8,g9,g10,g11,g12,g13⟩
 .subst g1;simp at iB
 have g1:m k els.length=aY (b,cap):=g1;rw[g1]at e2;cases e2;have tA:=(gY x (by simp[Op.operands])).cells hp
 have hv:zu bh Z (fQ ρ x).cells (ev ρr x).cells.toList:=by refine zu.flat _ _ ?_ tA;cases hxv:fQ ρ x<;>rw[hxv]at tz<;>simp only[V.cells,y8,cy]<;>exact tz
 have y_:=hv.length;have En:=Ty hv h1;have nx:=g8 cs (bK hc)
 have hle:i*sz+sz<=els.length*sz:=by
  have:(i+1)*sz<=els.length*sz:=cA sz iB
  rwa [cU]at this
 have afI:els.length*sz<=cap*sz:=cA sz g3;have Ir:fz*sz<=i*sz:=cA sz np
 have mR:cur.toList.length=cap*sz:=by simpa using g5
 unfold uR at iz;split at iz
 .rename_i ii hi;have Iw:=eb iz;have iy:=run_storeCells_atF P b (i*sz+j) et fr (ev ρr x).cells.toList 0 cur w g2 ab ab En;simp only[ea]at iy
  have Np:(ev ρr x).cells.size=ii.size:=by simp at y_;omega
  have tU:=setRow_heap w b cur (cur.toList.take (i*sz+j)++(ev ρr x).cells.toList++cur.toList.drop (i*sz+j+(ev ρr x).cells.toList.length)).toArray et fr g2;have hlen:(els.set i (cs.take j++(fQ ρ x).cells++cs.drop (j+(fQ ρ x).cells.length))).length=els.length:=ae;have nJ:cap≠0:=ab;refine⟨rfl,.inr (.inl ⟨w.setRow b (cur.toList.take (i*sz+j)++(ev ρr x).cells.toList++cur.toList.drop (i*sz+j+(ev ρr x).cells.toList.length)).toArray,?_,m,Z,?_,rfl⟩)⟩
  .simp[bU,Instr.storeAt,e3,Instr.sureAddr,storeVar,sizeOf,typeInfo,hi,Np,iy]
  .have Ep:∀off,off<i*sz+j->(cur.toList.take (i*sz+j)++(ev ρr x).cells.toList++cur.toList.drop (i*sz+j+(ev ρr x).cells.toList.length)).toArray[off]?=cur[off]?:=λoff ho=>by simp only[eD,sF];rw[cR (by simp only[cD];omega),cb,aO ho];simp
   refine Step.write (b:=b) hs (by simp[gT,qK,Obj.iZ,g1,nJ]) (LG (by simp[Obj.iZ]) rfl rfl) rfl rfl rfl ae (λq hq=>setRow_other w b q _ hq) (λaa y Ow e=>?_) ?_
   .have hl:=g11 aa y Ow e;have ni:=hs.frozen aa y Ow;obtain⟨bb,off,sp⟩:=aa;simp only at e hl;subst e
    have IM:sp=bh:=by
     simp only[World.cell?,g2]at ni
     cases sp with
     |none=>rfl
     |some _=>simp at ni
    subst IM;rw[cell_of_row w bb off cur et fr g2]at ni;rw[cell_of_row _ bb off _ et fr tU,Ep off ab];exact ni
   .refine .inr ⟨b,cap,_,fr,by rw[hlen];exact g1,g0,tU,by rw[hlen];exact g3,g4,?_,g6,?_,?_,g9,by rw[hlen];exact g10,g11,by rw[hlen];exact g12,λoff y ho hy=>?_⟩
    .simp only[cW,pa,cD,cS];have:cur.size=cur.toList.length:=ae;omega
    .rw[hlen,KX els g8 i cs hc ab];simp only[];rw[zj5 _ _ _ _ ab ab];have:=Vl (off:=i*sz+j) g7 hv;exact this
    .intro c Im
     rcases List.mem_or_eq_of_mem_set Im with Im|rfl
     .exact g8 c Im
     .simp only[pa,cD,cS];omega
    .rw[Ep off ab]at hy;exact g13 off y ho hy
 .cases iz
end
def pB(ρ:Env):Option bE->Int->Int->Prop
 |none,d,i=>i=d
 |some x,_,i=>∃k,fQ ρ x=.int k i
section
variable{P:bl}{ρ:Env}{dst:Option Tmp}{ty:bu}{pos:String}{aft:Array Edge}{gd:Option (Nat×Bool)}
def TA{ρr:ye}{m:Option M}{Z:ZM}{o:Option bE}{d i:Int}(h:pB ρ o d i)(hr:∀x∈o,dQ m Z (fQ ρ x) (ev ρr x)):(o=bh/\i=d)∨∃x k,o=aY x/\ev ρr x=.int k i:=by
 cases o with
 |none=>exact .inl ⟨rfl,h⟩
 |some x =>
  obtain⟨k,hk⟩:=h;have:=hr x rfl;rw[hk]at this;exact .inr ⟨x,k,rfl,this⟩
def Km{w:bG}{ρr:ye}{m:Option M}{Z:ZM}{lo hi:Option bE}{l h:Int}{isS:Bool}{len cap:Nat}(hl:pB ρ lo 0 l)(hh:pB ρ hi len h)(C_:∀x∈lo,dQ m Z (fQ ρ x) (ev ρr x))(hrh:∀x∈hi,dQ m Z (fQ ρ x) (ev ρr x))
  (h0:0<=l) (h1:l<=h) (h2:h<=len) (hc:len<=cap):(Instr.sliceBounds isS len cap (lo.map (ev ρr)) (hi.map (ev ρr)) bh).run P w=.ok (l.toNat,h.toNat,cap) w:=by
 have h3:h<=(cap:Int):=ab;have h4:0<=h:=ab;have h5:((h.toNat:Nat):Int)=h:=Int.toNat_of_nonneg h4
 rcases TA hl C_ with⟨rfl,rfl⟩|⟨x,k,rfl,hx⟩<;>rcases TA hh hrh with⟨rfl,rfl⟩|⟨y,k',rfl,hy⟩
 .simp[Instr.sliceBounds]
 .simp[Instr.sliceBounds,Instr.sliceBound,asIntOf,hy,h4,h3]
 .simp[Instr.sliceBounds,Instr.sliceBound,asIntOf,hx,h0,h1]
 .simp[Instr.sliceBounds,Instr.sliceBound,asIntOf,hx,hy,h4,h3,h0,h5,h1]
def zbp{t:bu}{x:bE}{lo hi:Option bE}{l h:Int}{s:aj}(ht:tL P t=bg)(hx:fQ ρ x=.str s)(hl:pB ρ lo 0 l)(hh:pB ρ hi s.length h)(h0:0<=l)(h1:l<=h)(h2:h<=s.length):
  Loc P ⟨dst,.slice t x lo hi bh,ty,pos,aft,gd⟩ ρ [] (.str ((s.take h.toNat).drop l.toNat)) []:=by
 intro ρr m Z w gY hs _;have hX:=gY x (by simp[Op.operands]);rw[hx]at hX;have hX:ev ρr x=.string ⟨s.toArray⟩:=hX
 have iz:(⟨s.toArray⟩:ByteArray).size=s.length:=by show s.toArray.size=_;simp
 have hb:=Km (P:=P) (w:=w) (isS:=bf) (cap:=s.length) hl hh (λy hy=>gY y (by simp[Op.operands];right;left;simpa using hy)) (λy hy=>gY y (by simp[Op.operands];right;right;simpa using hy)) h0 h1 h2 al;refine⟨rfl,.inl ⟨.string ((⟨s.toArray⟩:ByteArray).extract l.toNat h.toNat),w,?_,m,Z,Step.refl hs,?_⟩⟩
 .simp[bU,Instr.sliceAt,Instr.slice,run_underlying (Tz ht),hX,iz,hb]
 .show _=_
  congr 1
  apply ByteArray.ext;rw[ByteArray.data_extract];apply gb;simp[fj,gG]
def zfs{t e sz:Nat}{x:bE}{lo hi:Option bE}{l h:Int}{els:List (List V)}(ht:oM P t=aY (e,sz))(hx:fQ ρ x=.vs sz els)(hl:pB ρ lo 0 l)(hh:pB ρ hi els.length h)(h0:0<=l)(h1:l<=h)(h2:h<=els.length):
  Loc P ⟨dst,.slice t x lo hi bh,ty,pos,aft,gd⟩ ρ [] (.vs sz ((els.take h.toNat).drop l.toNat)) []:=by
 intro ρr m Z w gY hs _;have hX:=gY x (by simp[Op.operands]);rw[hx]at hX;obtain⟨A,c,g1,g2,g3,g4⟩:=hX;have hb:=Km (P:=P) (w:=w) (isS:=bg) (cap:=c) hl hh (λy hy=>gY y (by simp[Op.operands];right;left;simpa using hy)) (λy hy=>gY y (by simp[Op.operands];right;right;simpa using hy)) h0 h1 h2 g2;unfold oM at ht;split at ht
 .rename_i e' hu;split at ht
  .rename_i ii sL;split at ht
   .simp only[Option.some.injEq,Prod.mk.injEq]at ht;obtain⟨rfl,iz⟩:=ht
    have hlen:((els.take h.toNat).drop l.toNat).length=h.toNat-l.toNat:=by simp;omega
    refine⟨rfl,.inl ⟨.slice (if c=l.toNat then A else A.map (·.add (l.toNat*sz))) (h.toNat-l.toNat) (c-l.toNat),w,?_,m,Z,Step.refl hs,(if c=l.toNat then A else A.map (·.add (l.toNat*sz))),c-l.toNat,by rw[hlen],by rw[hlen];omega,ab,?_⟩⟩
    .simp[bU,Instr.sliceAt,Instr.slice,run_underlying hu,g1,hb,sizeOf,typeInfo,sL,iz]
    .by_cases he:(els.take h.toNat).drop l.toNat=[]
     .exact .inl he
     .have Nl:0<h.toNat-l.toNat:=by rw[<- hlen];exact fR.2 he
      rcases g4 with g4|⟨a,rfl,g5⟩
      .subst g4;simp at h2;omega
      .refine .inr ⟨a.add (l.toNat*sz),by rw[aN ab];rfl,yT.nu λi cs hi=>?_⟩;rw[cX,cb]at hi;split at hi
       .have:=g5.get hi;refine⟨this.1,?_⟩;have h6:=this.2;rw[Jp,cj,<- dK]
        rwa [cj]at h6
       .cases hi
   .cases ht
  .cases ht
 .cases ht
def zbq{t e sz k L o n:Nat}{x:bE}{lo hi:Option bE}{l h:Int}(ht:oM P t=aY (e,sz))(hx:fQ ρ x=.sl sz k L o n)(hl:pB ρ lo 0 l)(hh:pB ρ hi n h)(h0:0<=l)(h1:l<=h)(h2:h<=n):
  Loc P ⟨dst,.slice t x lo hi bh,ty,pos,aft,gd⟩ ρ [] (.sl sz k L (o+l.toNat) (h.toNat-l.toNat)) []:=by
 intro ρr m Z w gY hs _;have hX:=gY x (by simp[Op.operands]);rw[hx]at hX;obtain⟨f,loc,e1,e2,e3,e4,e5⟩:=hX;cases e1
 have abQ:∀c,n<=c->(Instr.sliceBounds bg n c (lo.map (ev ρr)) (hi.map (ev ρr)) bh).run P w=.ok (l.toNat,h.toNat,c) w:=λc hc =>Km (P:=P) (w:=w) (isS:=bg) (cap:=c) hl hh (λy hy=>gY y (by simp[Op.operands];right;left;simpa using hy)) (λy hy=>gY y (by simp[Op.operands];right;right;simpa using hy)) h0 h1 h2 hc
 unfold oM at ht;split at ht
 .rename_i e' hu;split at ht
  .rename_i ii sL;split at ht
   .simp only[Option.some.injEq,Prod.mk.injEq]at ht;obtain⟨rfl,iz⟩:=ht
    have run:∀A c,ev ρr x=.slice A n c->n<=c->(bU (ev ρr) ⟨dst,.slice t x lo hi bh,ty,pos,aft,gd⟩).run P w=.ok (.value (.slice (if c=l.toNat then A else A.map (·.add (l.toNat*sz))) (h.toNat-l.toNat) (c-l.toNat))) w:=λA c hv hc=>by simp[bU,Instr.sliceAt,Instr.slice,run_underlying hu,hv,abQ c hc,sizeOf,typeInfo,sL,iz]
    rcases e5 with e5|⟨e5,A,e6⟩|⟨e5,e6,A,c,e7,e8⟩
    .refine⟨rfl,.inl ⟨_,w,run _ _ e5 ab,m,Z,Step.refl hs,m,loc,rfl,e2,ab,e4,?_⟩⟩;by_cases hc:loc.2-o=l.toNat
     .by_cases y2:l.toNat=0
      .rw[aO hc];by_cases ho:0<o
       .exact .inr (.inr ⟨ab,ab,_,_,by rw[show h.toNat-l.toNat=0 by omega],ab⟩)
       .refine .inl ?_;rw[show o=0 by omega];simp[y2]
      .rw[aO hc];exact .inr (.inr ⟨ab,ab,_,_,by rw[show h.toNat-l.toNat=0 by omega],ab⟩)
     .rw[aN hc];refine .inl ?_;simp only[cP,Addr.add_lit,dK];rw[Nat.sub_sub]
    .have hn:n=0:=ab;subst hn;have y2:l.toNat=0:=ab;have It:h.toNat=0:=ab;refine⟨rfl,.inl ⟨_,w,run _ _ e6 al,m,Z,Step.refl hs,m,loc,rfl,e2,ab,e4,.inr (.inl ⟨e5,_,by rw[y2,It]⟩)⟩⟩
    .subst e6;have y2:l.toNat=0:=ab;have It:h.toNat=0:=ab;refine⟨rfl,.inl ⟨_,w,run _ _ e7 (cx _),m,Z,Step.refl hs,m,loc,rfl,e2,ab,e4,.inr (.inr ⟨ab,ab,_,_,by rw[It,y2],ab⟩)⟩⟩
   .cases ht
  .cases ht
 .cases ht
def zj6{t t':bu}{x y:bE}{a b:aj}(hx:fQ ρ x=.str a)(hy:fQ ρ y=.str b)(h:a.length+b.length<=9223372036854775807):
  Loc P ⟨dst,.binOp .add t x y t',ty,pos,aft,gd⟩ ρ [] (.str (a++b)) []:=by
 intro ρr m Z w gY hs _;have hX:=gY x (by simp[Op.operands]);have hY:=gY y (by simp[Op.operands]);rw[hx]at hX;rw[hy]at hY;have hX:ev ρr x=.string ⟨a.toArray⟩:=hX;have hY:ev ρr y=.string ⟨b.toArray⟩:=hY
 have ha:(⟨a.toArray⟩:ByteArray).size=a.length:=by show a.toArray.size=_;simp
 have hb:(⟨b.toArray⟩:ByteArray).size=b.length:=by show b.toArray.size=_;simp
 have hm:¬(((a.length+b.length:Nat):Int)>IntKind.i64.max):=by have:IntKind.i64.max=9223372036854775807:=ad;omega
 refine⟨rfl,.inl ⟨.string ((⟨a.toArray⟩:ByteArray)++⟨b.toArray⟩),w,?_,m,Z,Step.refl hs,?_⟩⟩
 .simp only[bU,hX,hY,eqGuard,binOp,Op.stringOp,ha,hb,aN hm];simp
 .show _=_
  congr 1
def zwh{op:BinOp}{t t':bu}{x y:bE}{k:IntKind}{a b:Int}(mC:op=.quo∨op=.rem)(hx:fQ ρ x=.int k a)(hy:fQ ρ y=.int k b)(hb:b≠0):
  Loc P ⟨dst,.binOp op t x y t',ty,pos,aft,gd⟩ ρ [] (.int k (match op with|.quo=>k.wrap (a.tdiv b)|_=>a.tmod b)) []:=by
 intro ρr m Z w gY hs _;have hX:=gY x (by simp[Op.operands]);have hY:=gY y (by simp[Op.operands]);rw[hx]at hX;rw[hy]at hY
 rcases mC with rfl|rfl
 .obtain⟨u,h1,h2⟩:=ZH (P:=P) (w:=w) (dst:=dst) (ty:=ty) (pos:=pos) (aft:=aft) (gd:=gd) (t:=t) (t':=t') (op:=.quo) (m:=aY m) (Z:=Z) (v:=.int k (k.wrap (a.tdiv b))) hX hY ae (by simp[Dx,hb]);exact⟨rfl,.inl ⟨u,w,h1,m,Z,Step.refl hs,h2⟩⟩
 .obtain⟨u,h1,h2⟩:=ZH (P:=P) (w:=w) (dst:=dst) (ty:=ty) (pos:=pos) (aft:=aft) (gd:=gd) (t:=t) (t':=t') (op:=.rem) (m:=aY m) (Z:=Z) (v:=.int k (a.tmod b)) hX hY ae (by simp[Dx,hb]);exact⟨rfl,.inl ⟨u,w,h1,m,Z,Step.refl hs,h2⟩⟩
end
section
variable{K0:List Nat}{c:Ctx K0}{P:bl}{r:Option Nat}{N:Nat}{Q:xE}{ρ:Env}{H H':aw}{ds:List ca}{all l rest:List Oper}{x:Code}
def Qh.step{F F':aw}{ks:List Nat}{ρr:ye}{w:bG}{ρ':Env}(lM:nodupB ks=bg)(hF:ua ks H=aY F)(ln:Jk F' ks H=bg)
  (h:∀m Z,kp m Z F w->(∀k∈keys F',k ∉ keys F->∀L,m k L=bh)->oN m Z ρ ρr->∃m' Z',Step m Z F w m' Z' F' w/\oN m' Z' ρ' ρr) (S:Qh c ρ H ρr w):Qh c ρ' (F'++kr ks H) ρr w:=by
 obtain⟨m,Z,S,hR⟩:=S;have hp:=ku S.step.iV.nodup (yn lM) hF;obtain⟨h2,h3⟩:=yK hF;have hs:kp m Z (F++kr ks H) w:=S.step.iV.perm hp
 obtain⟨m',Z',iy,B8⟩:=h m Z hs.left (λk hk na=>S.p6 k (by
  obtain⟨p,lu,rfl⟩:=bF.1 hk;have:=(bm.1 ln) p lu;simp only[cM,bX,aU,bL,aW]at this
  rcases this with this|this
  .exact aQ (h2▸this) na
  .exact this)) hR
 exact⟨m',Z',S.GG lM hF ln (λ_ _=>iy),B8⟩
def Yf{F:aw}{ks:List Nat}(h:∀p∈F,p.1∈ks):Jk F ks H=bg:=bm.2 λp hp=>by simp[h p hp]
def Qh.freeze{F:aw}(ks:List Nat){ρr:ye}{w:bG}(lM:nodupB ks=bg)(hF:ua ks H=aY F)(S:Qh c ρ H ρr w):Qh c ρ (iw F++kr ks H) ρr w:=Qh.step lM hF (Yf λp hp=>by rw[<- (yK hF).1,<- xH];exact ax hp) (λm Z hs _ hR=>⟨m,_,Step.freeze hs,hR.up (Step.freeze hs).ng λ_ _ _ e=>e⟩) S
def Qh.NO(t d e sz:Nat){ρr:ye}{w:bG}(iz:ck 1 sz=bg)(ht:ρ.get t=.iO)(hd:jP d H=bf)(S:Qh c ρ H ρr w):Qh c ((t,.sl sz d 0 0 0)::ρ) ((d,.row e sz 0 [])::H) ρr w:=by
 have l5:d ∉ keys H:=λh=>by rw[yp.2 h]at hd;cases hd
 have:=Qh.step (c:=c) (ρ:=ρ) (H:=H) (F:=[]) (F':=[(d,.row e sz 0 [])]) (ks:=[]) (ρ':=(t,.sl sz d 0 0 0)::ρ) (ρr:=ρr) (w:=w) rfl rfl (by simp[Jk,l5]) (λm Z hs mf hR=>by
  have Em:∀L,m d L=bh:=λL=>mf d (by simp[keys]) (by simp[keys]) L
  let m':M:=λk' L=>if k'=d/\L=0 then aY (0,0)else m k' L
  have h1:m' d 0=aY (0,0):=by simp[m']
  have h2:∀k L loc,m k L=aY loc->m' k L=aY loc:=λk L loc e=>by
   by_cases hc:k=d/\L=0
   .obtain⟨rfl,rfl⟩:=hc;rw[Em]at e;cases e
   .simp only[m',aN hc];exact e
  refine⟨m',Z,⟨⟨hs.frozen,λp hp=>?_,by simp[keys],λp hp q hq _ _ _=>?_⟩,h2,λ_ _ e=>e,rfl,rfl,rfl,al,λ_ _ _=>rfl,λk hk=>(by cases hk),λk hk=>?_,λp hp b hb=>?_,λ_ _ e=>.inl e⟩,?_⟩
  .simp only[gX]at hp;subst hp;refine .inl ⟨lR iz,rfl,rfl,⟨0,h1⟩,λL loc e=>?_⟩;simp only[m']at e;split at e
   .rename_i hc;omega
   .rw[Em]at e;cases e
  .simp only[gX]at hp hq;subst hp;subst hq;rfl
  .funext L
   have:k≠d:=by simpa[keys]using hk
   simp[m',this]
  .simp only[gX]at hp;subst hp;simp[gT,qK,Obj.iZ,h1]at hb
  .intro u;have hu:=(hR u).up (Z':=Z) (m':=aY m') (λ_ _ e=>e) (λf e=>by cases e;exact⟨m',rfl,h2⟩)
   show dQ (aY m') Z (bif bk u t then V.sl sz d 0 0 0 else ρ.get u) (ρr u)
   cases hb:bk u t with
   |false=>exact hu
   |true =>
    have:=eb hb;subst this;rw[ht]at hu
    exact⟨m',_,rfl,h1,al,cx _,.inr (.inl ⟨rfl,bh,hu⟩)⟩) S
 rw[zsk]at this;exact this
end
def mV(e:Nat->V):bE->V
 |.tmp t=>e t
 |.const v=>Cf v
 |.global _=>.undef
 |.func f=>.fn f [] []
def TB(ρ:Env)(x:bE):mV ρ.get x=fQ ρ x:=by cases x<;>rfl
def sv(P:bl)(o:Oper)(g:bE->V)(F:aw)(v:V)(F':aw):Prop:=
 ∀ρr m Z w,(∀x∈o.op.operands,dQ (aY m) Z (g x) (ev ρr x))->kp m Z F w->(∀k∈keys F',k ∉ keys F->∀L,m k L=bh) ->
  Bp P o ρr w λx w'=>∃m' Z',Step m Z F w m' Z' F' w'/\dQ (aY m') Z' v x
def sv.congr{P:bl}{o:Oper}{g g':bE->V}{F F':aw}{v:V}(h:sv P o g F v F')(hg:∀x∈o.op.operands,g' x=g x):sv P o g' F v F':=λρr m Z w gY=>h ρr m Z w λx hx=>by rw[<- hg x hx];exact gY x hx
def uS(all:List Oper)(e:Nat->V)(o:Oper):Option Bool:=
 match o.guard with
 |none=>aY bg
 |some (j,want)=>match (all[j]?).bind (·.dst)with
  |some d=>match e d with
   |.bool b=>aY (b==want)
   |.no=>aY bf
   |_=>bh
  |none=>bh
def oQ(d:Option Nat)(v:V)(e:Nat->V):Nat->V:=match d with|some d=>λt=>bif bk t d then v else e t|none=>e
def SB(d:Option Nat)(v:V)(ρ:Env):(oP d v ρ).get=oQ d v ρ.get:=by
 cases d with
 |none=>rfl
 |some d=>rfl
structure FP where
 i:Nat
 fk:List Nat
 rk:List Nat
 ld:Option (Nat×Nat×Nat)
 kc:List (Nat×Nat×Nat)
abbrev FP.m(i:Nat)(fk rk:List Nat):FP:=⟨i,fk,rk,bh,[]⟩
abbrev HF:=Nat->Option Obj
def W9(F':aw)(η:HF):HF:=λk=>if k∈keys F' then F'.get k else η k
def Bq(P:bl)(o:Oper)(e:Nat->V)(η mP:HF)(v:V)(fp:FP):Prop:=
 (∀k t off,fp.ld=aY (k,t,off)->fp.fk=[]/\fp.rk=[k]/\(∃bt cs,η k=aY (.box bt cs)/\mQ P t cs off=aY v)/\∀bt cs,mQ P t cs off=aY v->sv P o (mV e) [(k,.box bt cs)] v [(k,.box bt cs)]) /\
 (∀k t off,(k,t,off)∈fp.kc->k∈fp.fk/\∃bt cs ly,η k=aY (.box bt cs)/\mP k=aY (.box bt ly)/\mQ P t cs off=mQ P t ly off)
def zAt{P:bl}{o:Oper}{e:Nat->V}{η mP:HF}{v:V}{i:Nat}{fk rk:List Nat}:Bq P o e η mP v (.m i fk rk):=⟨λ_ _ _ h=>(by cases h),λ_ _ _ h=>(by cases h)⟩
def ud(P:bl)(N:Nat)(all:List Oper)(fp:FP)(e:Nat->V)(η:HF)(e1:Nat->V)(mP:HF):Prop:=
  ∃o v,all[fp.i]?=aY o/\j6 o.op=bg/\(∀d,o.dst=aY d->d+1<=N)/\e1=oQ o.dst v e /\
    ((uS all e o=aY bf/\v=.no/\mP=η/\fp.fk=[]/\fp.rk=[]) ∨
     (uS all e o=aY bg/\∃F R F',sv P o (mV e) (F++R) v (F'++R)/\(keys (F'++R)).Nodup/\(keys F).Nodup/\(∀k∈keys F,k∈keys F')/\keys F'=fp.fk/\keys R=fp.rk /\
       (∀p∈F++R,η p.1=aY p.2)/\(∀k∈keys F',k ∉ keys F->η k=bh)/\mP=W9 F' η/\Bq P o e η mP v fp))
def Py(all:List Oper)(o:Oper)(d:Nat):Bool:=
 o.op.operands.toList.any (λ| .tmp t=>bk t d | _=>bf)||(match o.guard with | some (j,_)=>(match (all[j]?).bind (·.dst)with | some d'=>bk d' d | none=>bg) | none=>bf)
def YB(all:List Oper)(o o':Oper):Bool:=
 (match o.dst with|some d=>!Py all o' d|none=>bg)&&(match o.dst,o'.dst with|some d,aY d'=>!Nat.beq d d'|_,_=>bg)
def tM(k:Nat):List Nat->Bool|[]=>bf|j::r=>bif bk k j then bg else tM k r
def Cm:List Nat->List Nat->Bool|[],_=>bg|k::r,l=>!tM k l&&Cm r l
def Pz(a b:FP):Bool:=Cm a.fk b.fk&&(Cm a.fk b.rk&&Cm a.rk b.fk)
def PA(a b:Nat×Nat×Nat):Bool:=bk a.1 b.1&&(bk a.2.1 b.2.1&&bk a.2.2 b.2.2)
def I7(a b:FP):Bool:=match a.ld with
 |some x=>a.fk.isEmpty&&(b.kc.any (PA x))
 |none=>bf
def YC(all:List Oper)(a b:FP):Bool:=
 match all[a.i]?,all[b.i]? with
 | some o,aY o'=>YB all o o'&&(YB all o' o&&(Pz a b||I7 a b))
 |_,_=>bf
def zAx{a b:FP}(h:I7 a b=bg):a.fk=[]/\∃k t off,a.ld=aY (k,t,off)/\(k,t,off)∈b.kc:=by
 unfold I7 at h;split at h
 .rename_i x hx;simp only[bn,eG,List.any_eq_true,PA]at h;obtain⟨h1,y,h2,h3,h4,h5⟩:=h;refine⟨h1,y.1,y.2.1,y.2.2,?_,h2⟩;rw[hx,<- eb h3,<- eb h4,<- eb h5]
 .cases h
def SD{k:Nat}:∀{l:List Nat},tM k l=bg↔k∈l
 |[]=>by simp[tM]
 |j::r=>by
  simp only[tM,bo]
  cases hb:bk k j with
  |true=>simp[eb hb]
  |false =>
   have:k≠j:=λe=>by subst e;rw[cl]at hb;cases hb
   simp only[cf,this,false_or];exact SD
def ZJ:∀{l k:List Nat},Cm l k=bg->∀x∈l,x ∉ k
 |[],_,_,x,h=>by cases h
 |j::r,k,h,x,hx=>by
  simp only[Cm,bn,bL]at h
  rcases bo.1 hx with rfl|hx
  .intro hk;rw[SD.2 hk]at h;cases h.1
  .exact ZJ h.2 x hx
def TD{all:List Oper}{o o':Oper}{v:V}{e:Nat->V}(h:YB all o o'=bg):(∀x∈o'.op.operands,mV (oQ o.dst v e) x=mV e x)/\uS all (oQ o.dst v e) o'=uS all e o':=by
 simp only[YB,bn]at h
 cases hd:o.dst with
 |none=>exact⟨λ_ _=>rfl,rfl⟩
 |some d =>
  rw[hd]at h;simp only[bL,Py,Bool.or_eq_false_iff]at h;refine⟨λx hx=>?_,?_⟩
  .cases x with
   |tmp t =>
    have:=(List.any_eq_false.1 h.1.1) (.tmp t) (by simpa using hx);simp only[Bool.not_eq_true]at this;simp only[mV,oQ,this,cf]
   |_=>rfl
  .unfold uS
   cases hg:o'.guard with
   |none=>rfl
   |some p =>
    obtain⟨j,want⟩:=p;have h2:=h.1.2;rw[hg]at h2;simp only at h2 ⊢
    cases hj:(all[j]?).bind (·.dst)with
    |none=>rfl
    |some d' =>rw[hj]at h2;simp only at h2 ⊢;simp only[oQ,h2,cf]
def put_comm{o o':Oper}{all:List Oper}{v v':V}{e:Nat->V}(h:YB all o o'=bg):oQ o.dst v (oQ o'.dst v' e)=oQ o'.dst v' (oQ o.dst v e):=by
 simp only[YB,bn]at h
 cases hd:o.dst with
 |none=>rfl
 |some d =>
  cases l5:o'.dst with
  |none=>rfl
  |some d' =>
   rw[hd,l5]at h;simp only[bL]at h
   funext t
   simp only[oQ]
   cases h1:bk t d with
   |false=>rfl
   |true =>
    cases h2:bk t d' with
    |false=>rfl
    |true =>
     have:=eb h1;have:=eb h2
     subst_vars
     rw[cl]at h;cases h.2
def yU{F:aw}{η:HF}{k:Nat}(h:k ∉ keys F):W9 F η k=η k:=by simp[W9,h]
def zm6{F G:aw}{η:HF}(h:∀k∈keys F,k ∉ keys G):W9 F (W9 G η)=W9 G (W9 F η):=by
 funext k
 by_cases h1:k∈keys F
 .have h2:=h k h1;rw[yU h2];simp[W9,h1]
 .rw[yU h1];by_cases h2:k∈keys G
  .simp[W9,h2]
  .rw[yU h2,yU h2,yU h1]
def ud.swap{P:bl}{N:Nat}{all:List Oper}{a b:FP}{e e1 e2:Nat->V}{η mP η2:HF}(h:ud P N all a e η e1 mP)(k:ud P N all b e1 mP e2 η2)(hi:YC all a b=bg):
  ∃Ez Gu,ud P N all b e η Ez Gu/\ud P N all a Ez Gu e2 η2:=by
 obtain⟨o,v,ho,hn,hd,rfl,h⟩:=h;obtain⟨o',v',zz,EU,l5,rfl,k⟩:=k;simp only[YC,ho,zz,bn,cM,Pz]at hi;obtain⟨hs,OU,hi⟩:=hi;obtain⟨Oc,ew1⟩:=TD (v:=v) (e:=e) hs;obtain⟨Od,Oe⟩:=TD (v:=v') (e:=e) OU;rw[ew1]at k
 have hA:∀{sD:HF},(uS all e o'=aY bf/\v'=.no/\sD=η/\b.fk=[]/\b.rk=[])∨(uS all e o'=aY bg/\∃F R F',sv P o' (mV e) (F++R) v' (F'++R)/\(keys (F'++R)).Nodup/\(keys F).Nodup/\(∀k∈keys F,k∈keys F')/\keys F'=b.fk/\keys R=b.rk /\
   (∀p∈F++R,η p.1=aY p.2)/\(∀k∈keys F',k ∉ keys F->η k=bh)/\sD=W9 F' η/\Bq P o' e η sD v' b)->ud P N all b e η (oQ o'.dst v' e) sD:=λh=>⟨o',v',zz,EU,l5,rfl,h⟩
 have hB:∀{Bz sD:HF},(uS all e o=aY bf/\v=.no/\sD=Bz/\a.fk=[]/\a.rk=[])∨(uS all e o=aY bg/\∃F R F',sv P o (mV e) (F++R) v (F'++R)/\(keys (F'++R)).Nodup/\(keys F).Nodup/\(∀k∈keys F,k∈keys F')/\keys F'=a.fk/\keys R=a.rk /\
   (∀p∈F++R,Bz p.1=aY p.2)/\(∀k∈keys F',k ∉ keys F->Bz k=bh)/\sD=W9 F' Bz/\Bq P o e Bz sD v a)->ud P N all a (oQ o'.dst v' e) Bz (oQ o'.dst v' (oQ o.dst v e)) sD:=λh=>by
  refine⟨o,v,ho,hn,hd,put_comm (v:=v') (v':=v) OU,?_⟩
  rcases h with⟨h1,h2⟩|⟨h1,F,R,F',h2,h3,h4,h5,h6,h7,h8,h9,sG,f1,f2⟩
  .exact .inl ⟨Oe.trans h1,h2⟩
  .refine .inr ⟨Oe.trans h1,F,R,F',h2.congr (λx hx=>Od x hx),h3,h4,h5,h6,h7,h8,h9,sG,λk t off hk=>?_,f2⟩;obtain⟨g1,g2,g3,g4⟩:=f1 k t off hk;exact⟨g1,g2,g3,λbt cs hc=>(g4 bt cs hc).congr λx hx=>Od x hx⟩
 rcases k with⟨k1,k2,rfl,k4,k5⟩|⟨k1,F2,R2,oV,l2,n2,I8,s2,B0,CX,g2,f2,rfl,q2,Bd⟩
 .exact⟨_,η,hA (.inl ⟨k1,k2,rfl,k4,k5⟩),hB h⟩
 .have I6:sv P o' (mV e) (F2++R2) v' (oV++R2):=l2.congr (λx hx=>(Oc x hx).symm)
  have q3:∀k t off,b.ld=aY (k,t,off)->b.fk=[]/\b.rk=[k]/\(∃bt cs,mP k=aY (.box bt cs)/\mQ P t cs off=aY v')/\∀bt cs,mQ P t cs off=aY v'->sv P o' (mV e) [(k,.box bt cs)] v' [(k,.box bt cs)]:=λk t off hk=>by obtain⟨g1,g2,g3,g4⟩:=q2 k t off hk;exact⟨g1,g2,g3,λbt cs hc=>(g4 bt cs hc).congr λx hx=>(Oc x hx).symm⟩
  rcases h with⟨h1,h2,rfl,h4,h5⟩|⟨h1,F1,R1,sE,l1,n1,nf1,s1,CW,GQ,g1,f1,rfl,q1,Pk⟩
  .exact⟨_,_,hA (.inr ⟨k1,F2,R2,oV,I6,n2,I8,s2,B0,CX,g2,f2,rfl,q3,Bd⟩),hB (.inl ⟨h1,h2,rfl,h4,h5⟩)⟩
  .rcases hi with⟨o4,nZ,IA⟩|hi
   .have o4:=ZJ o4;have nZ:=ZJ nZ;have IA:=ZJ IA
    have Eo:∀k∈keys oV++keys R2,k ∉ keys sE:=λk hk Nd=>by
     rw[CW]at Nd
     rcases bI.1 hk with hk|hk
     .rw[B0]at hk;exact o4 k Nd hk
     .rw[CX]at hk;exact nZ k Nd hk
    have GB:∀k∈keys sE++keys R1,k ∉ keys oV:=λk hk Nf=>by
     rw[B0]at Nf
     rcases bI.1 hk with hk|hk
     .rw[CW]at hk;exact o4 k hk Nf
     .rw[GQ]at hk;exact IA k hk Nf
    have aej:∀p∈F2++R2,p.1∈keys oV++keys R2:=λp hp=>by
     rcases bI.1 hp with hp|hp
     .exact bJ _ (s2 _ (ax hp))
     .exact bO _ (ax hp)
    have aei:∀p∈F1++R1,p.1∈keys sE++keys R1:=λp hp=>by
     rcases bI.1 hp with hp|hp
     .exact bJ _ (s1 _ (ax hp))
     .exact bO _ (ax hp)
    have y1:W9 oV (W9 sE η)=W9 sE (W9 oV η):=zm6 λk hk mi=>Eo k (bJ _ hk) mi
    refine⟨_,W9 oV η,hA (.inr ⟨k1,F2,R2,oV,I6,n2,I8,s2,B0,CX,λp hp=>?_,λk hk na=>?_,rfl,λk t off hk=>?_,λk t off hk=>?_⟩),hB (.inr ⟨h1,F1,R1,sE,l1,n1,nf1,s1,CW,GQ,λp hp=>?_,λk hk na=>?_,y1,λk t off hk=>?_,λk t off hk=>?_⟩)⟩
    .rw[<- g2 p hp,yU (Eo _ (aej p hp))]
    .rw[<- f2 k hk na,yU (Eo k (bJ _ hk))]
    .obtain⟨w1,w2,w3,w4⟩:=q3 k t off hk;rw[yU (Eo k (bO _ (by rw[CX,w2];exact gX.2 rfl)))]at w3;exact⟨w1,w2,w3,w4⟩
    .obtain⟨w1,bt,cs,ly,w2,w3,w4⟩:=Bd k t off hk;have C7:=Eo k (bJ _ (by rw[B0];exact w1));rw[yU C7]at w2;rw[y1,yU C7]at w3;exact⟨w1,bt,cs,ly,w2,w3,w4⟩
    .rw[<- g1 p hp,yU (GB _ (aei p hp))]
    .rw[<- f1 k hk na,yU (GB k (bJ _ hk))]
    .obtain⟨w1,w2,w3,w4⟩:=q1 k t off hk;rw[<- yU (F:=oV) (η:=η) (GB k (bO _ (by rw[GQ,w2];exact gX.2 rfl)))]at w3;exact⟨w1,w2,w3,w4⟩
    .obtain⟨w1,bt,cs,ly,w2,w3,w4⟩:=Pk k t off hk;have C7:=GB k (bJ _ (by rw[CW];exact w1));rw[<- yU (F:=oV) (η:=η) C7]at w2;rw[<- yU (F:=oV) (η:=W9 sE η) C7]at w3;exact⟨w1,bt,cs,ly,w2,w3,w4⟩
   .obtain⟨i1,k,t,off,i2,i3⟩:=zAx hi
    have e1:sE=[]:=by
     have:keys sE=[]:=by rw[CW,i1]
     exact List.map_eq_nil_iff.1 this
    subst e1
    have ψ:W9 [] η=η:=funext λk=>yU (by simp[keys])
    obtain⟨w1,w2,⟨bt,cs,w3,w4⟩,w5⟩:=q1 k t off i2;rw[ψ]at g2 f2 Bd q3 ⊢;obtain⟨afv,bt',cs1,cs2,u2,u3,aar⟩:=Bd k t off i3;rw[w3]at u2;cases u2;have ha:mQ P t cs2 off=aY v:=aar.symm.trans w4
    have ta:∀k t off,(k,t,off) ∉ a.kc:=λk t off hk=>by have:=(Pk k t off hk).1;rw[i1]at this;cases this
    refine⟨_,W9 oV η,hA (.inr ⟨k1,F2,R2,oV,I6,n2,I8,s2,B0,CX,g2,f2,rfl,q3,Bd⟩),hB (.inr ⟨h1,[],[(k,.box bt cs2)],[],w5 _ _ ha,?_,dj,λk hk=>hk,i1.symm,w2.symm,λp hp=>?_,λk hk=>(by cases hk),(funext λk=>yU (by simp[keys])).symm,λk' t' pW hk=>?_,λk t off hk=>aQ hk (ta k t off)⟩)⟩
    .simp[keys]
    .cases gX.1 hp;exact u3
    .rw[i2]at hk;cases hk;exact⟨w1,w2,⟨bt,cs2,u3,ha⟩,w5⟩
inductive ZK(P:bl)(N:Nat)(all:List Oper):List FP->(Nat->V)->HF->(Nat->V)->HF->Prop
 |nil {e:Nat->V} {η:HF}:ZK P N all [] e η e η
 |cons {a:FP} {l:List FP} {e e1 e2:Nat->V} {η mP η2:HF} (h:ud P N all a e η e1 mP) (k:ZK P N all l e1 mP e2 η2):ZK P N all (a::l) e η e2 η2
def ZK.front{P:bl}{N:Nat}{all:List Oper}{b:FP}{l2:List FP}:∀{l1:List FP}{e e2:Nat->V}{η η2:HF},ZK P N all (l1++b::l2) e η e2 η2->(∀a∈l1,YC all a b=bg) ->
  ∃e1 mP,ud P N all b e η e1 mP/\ZK P N all (l1++l2) e1 mP e2 η2
 |[],e,e2,η,η2,h,_=>by
  cases h with
  |cons h k=>exact⟨_,_,h,k⟩
 |a::l1,e,e2,η,η2,h,hi=>by
  cases h with
  |cons h k =>
   obtain⟨e1,mP,h1,h2⟩:=ZK.front (l1:=l1) k λc hc=>hi c (iT _ hc)
   obtain⟨Ez,Gu,h3,h4⟩:=h.swap h1 (hi a ak);exact⟨Ez,Gu,h3,.cons h4 h2⟩
def Hu(l:List Edge)(acc:List Nat):Nat->Nat:=λs=>match l with
 |[]=>s
 | e::r=>Hu r acc (if Region.binds .any e then s ||| 2 ^ e.on ||| acc.getD e.on 0 else s)
def HR:List Oper->List Nat->List Nat
 |[],acc=>acc
 |o::r,acc=>HR r (acc++[Hu o.after.toList acc 0])
def DB(ms:List Nat)(j i:Nat):Bool:=(ms.getD j 0).testBit i
def YD{acc:List Nat}{i:Nat}:∀{l:List Edge}{s:Nat},(Hu l acc s).testBit i=bg->s.testBit i=bg∨∃e∈l,Region.binds .any e=bg/\(e.on=i∨(acc.getD e.on 0).testBit i=bg)
 |[],s,h=>.inl h
 |e::r,s,h=>by
  simp only[Hu]at h
  rcases YD h with h|⟨e',B',h1,h2⟩
  .split at h
   .rename_i hb;simp only[Nat.testBit_or,cM]at h
    rcases h with(h|h)|h
    .exact .inl h
    .refine .inr ⟨e,ak,hb,.inl ?_⟩;rw[Nat.testBit_two_pow]at h;simpa using h
    .exact .inr ⟨e,ak,hb,.inr h⟩
   .exact .inl h
  .exact .inr ⟨e',iT _ B',h1,h2⟩
def YE:∀(l:List Oper)(acc:List Nat),(HR l acc).take acc.length=acc/\∀(k:Nat)(o:Oper),l[k]?=aY o->(HR l acc).getD (acc.length+k) 0=Hu o.after.toList ((HR l acc).take (acc.length+k)) 0
 |[],acc=>⟨by simp[HR],λk o h=>by simp at h⟩
 |o::r,acc=>by
  obtain⟨h1,h2⟩:=YE r (acc++[Hu o.after.toList acc 0]);simp only[HR];have hl:(acc++[Hu o.after.toList acc 0]).length=acc.length+1:=ae;rw[hl]at h1 h2
  have OV:(HR r (acc++[Hu o.after.toList acc 0])).take acc.length=acc:=by have:=aP (List.take acc.length) h1;rw[gJ,eN ab]at this;rw[this];simp
  refine⟨OV,λk o' hk=>?_⟩
  cases k with
  |zero =>
   simp only[dG,Option.some.injEq]at hk;subst hk;rw[ea,OV,cJ]
   have:(HR r (acc++[Hu o.after.toList acc 0]))[acc.length]?=aY (Hu o.after.toList acc 0):=by have h3:=aP (λl=>l[acc.length]?) h1;simp only[cb]at h3;rw[aO ab]at h3;rw[h3];simp
   rw[this];rfl
  |succ k =>
   have:=h2 k o' (by simpa using hk);rw[show acc.length+1+k=acc.length+(k+1) by omega]at this;exact this
def YF(all:List Oper):Bool:=(dc all.length).all λj=>match all[j]? with
 | some o=>o.after.toList.all λe=>!Region.binds .any e||ck (e.on+1) j
 |none=>bg
def SE{all:List Oper}(h:YF all=bg){j:Nat}{o:Oper}(ho:all[j]?=aY o){e:Edge}(he:e∈o.after)(hb:Region.binds .any e=bg):e.on<j:=by have hj:j<all.length:=(bq.1 ho).1;have h1:=(bm.1 h) j (List.mem_range.2 hj);rw[ho]at h1;have h2:=(bm.1 h1) e (by simpa using he);simp only[hb,Bool.not_true,Bool.false_or]at h2;exact lR h2
def zj8{all:List Oper}(hE:YF all=bg){listed:Array Bool}(hc:Yx all.toArray listed):∀(j:Nat)(o:Oper),all[j]?=aY o->(∀e∈o.after,Region.binds .any e=bg->listed.getD e.on bf=bg)->∀i,DB (HR all []) j i=bg->listed.getD i bf=bg:=by
 intro j
 induction j using Nat.strongRecOn with
 |_ j ih =>
  intro o ho Ei i hi;have hs:=(YE all []).2 j o ho;simp only[dD,cj]at hs;unfold DB at hi;rw[hs]at hi
  rcases YD hi with h|⟨e,he,hb,h⟩
  .simp at h
  .have B':e∈o.after:=by simpa using he
   have iB:=SE hE ho B' hb;have hl:=Ei e B' hb
   rcases h with rfl|h
   .exact hl
   .have hj:j<all.length:=(bq.1 ho).1;have OO:all[e.on]?=aY (all[e.on]' ab):=bx ab;refine ih e.on iB _ OO (λe2 he2 nY=>hc e.on _ hl (by simpa using OO) e2 he2 nY) i ?_;unfold DB;rw[cJ,cb,aO iB,<- cJ]at h;exact h
def jD(all:List Oper)(ms:List Nat):List FP->Bool
 |[]=>bg
 | a::r=>r.all (λb=>DB ms b.i a.i||YC all a b)&&jD all ms r
def KY{all:List Oper}{ms:List Nat}{b:FP}{l2:List FP}:∀{l1:List FP},jD all ms (l1++b::l2)=bg->(∀a∈l1,DB ms b.i a.i=bg∨YC all a b=bg)/\jD all ms (l1++l2)=bg
 |[],h=>by
  simp only[cq,jD,bn]at h;exact⟨λ_ h=>(by cases h),h.2⟩
 |a::l1,h=>by
  simp only[cK,jD,bn]at h;obtain⟨h1,h2⟩:=KY h.2;have h3:=bm.1 h.1;refine⟨λx hx=>?_,?_⟩
  .rcases bo.1 hx with rfl|hx
   .have:=h3 b ae;simpa using this
   .exact h1 x hx
  .simp only[cK,jD,bn];refine⟨bm.2 λx hx=>h3 x ?_,h2⟩
   rcases bI.1 hx with hx|hx
   .exact bJ _ hx
   .exact bO _ (iT _ hx)
def P':∀{l:List Nat},l.Nodup->nodupB l=bg
 |[],_=>rfl
 |k::r,h=>by rw[cr]at h;simp only[nodupB,bn,bL,bX,aW];exact⟨h.1,P' h.2⟩
def ZL{H:aw}:∀{F:aw},(∀p∈F,H.get p.1=aY p.2)->ua (keys F) H=aY F
 |[],_=>rfl
 |(k,o)::r,h=>by
  have h1:=h (k,o) ak
  have h2:=ZL (F:=r) λp hp=>h p (iT _ hp)
  show(match H.get k,ua (keys r) H with|some o,aY l=>aY ((k,o)::l)|_,_=>bh)=_
  rw[h1,h2]
def get_none:∀{H:aw}{k:Nat},k ∉ keys H↔H.get k=bh
 |[],k=>by simp[keys,aw.get]
 |(k',o)::r,k=>by
  simp only[keys,ig,bo,not_or,aw.get]
  cases hb:bk k k' with
  |true=>simp[eb hb]
  |false =>
   have:k≠k':=λe=>by subst e;rw[cl]at hb;cases hb
   simp only[cf,ne_eq,this,not_false_eq_true,true_and];exact get_none
def get_append{A B:aw}{k:Nat}:(A++B).get k=if k∈keys A then A.get k else B.get k:=by
 induction A with
 |nil=>simp[keys]
 |cons p A ih =>
  obtain⟨k',o⟩:=p;simp only[cK,aw.get,keys,ig,bo]
  cases hb:bk k k' with
  |true=>simp[eb hb]
  |false =>
   have:k≠k':=λe=>by subst e;rw[cl]at hb;cases hb
   simp only[cf,this,false_or];exact ih
def HS{ks:List Nat}{H:aw}{k:Nat}(h:k ∉ ks):(kr ks H).get k=H.get k:=by
 induction H with
 |nil=>rfl
 |cons p H ih =>
  obtain⟨k',o⟩:=p;simp only[kr,List.filter_cons];split
  .simp only[aw.get];rw[show aw.get (List.filter (λp=>!ks.contains p.1) H) k=aw.get H k from ih]
  .rename_i hc
   have mi:k'∈ks:=by simpa using hc
   have lE:k≠k':=λe=>h (e▸mi)
   have hb:bk k k'=bf:=by
    cases hb:bk k k' with
    |true=>exact aQ (eb hb) lE
    |false=>rfl
   simp only[aw.get,hb,cf];exact ih
def HU{A B:aw}(hA:(keys A).Nodup)(hB:(keys B).Nodup)(h:∀k,A.get k=B.get k):A.Perm B:=by
 refine(fb (xQ _ hA) (xQ _ hB)).2 λp=>?_
 obtain⟨k,o⟩:=p;constructor
 .intro hp;have:=get_of_mem hA hp;rw[h]at this;exact aw.get_mem this
 .intro hp;have:=get_of_mem hB hp;rw[<- h]at this;exact aw.get_mem this
section
variable{K0:List Nat}{c:Ctx K0}{P:bl}{r:Option Nat}{N:Nat}{all:List Oper}{ds:List ca}
def DC(c:Ctx K0)(N:Nat)(ds:List ca)(e:Nat->V)(η:HF)(a:Act)(w:bG):Prop:=
 xP c ds w/\∃ρr ρ H,nG N ds a ρr/\ρ.get=e/\H.get=η/\Qh c ρ H ρr w
def zm7{fp:FP}{e e1:Nat->V}{η mP:HF}{a:Act}{w:bG}{n:Nat}{Q:Exit->Act->bG->Prop}{KK:Act->bG->Prop}(hs:ud P N all fp e η e1 mP)(S:DC c N ds e η a w)(h:∀a' w',DC c N ds e1 mP a' w'->KK a' w'):wpOpIn (Fw r) n P all.toArray Q fp.i KK a w:=by
 obtain⟨o,v,ho,hn,hd,rfl,aea⟩:=hs;obtain⟨hM,ρr,ρ,H,hf,rfl,rfl,SA⟩:=S;obtain⟨m,Z,SC,hR⟩:=id SA
 have Xl:∀{x:bw}{H1:aw}{m':M}{Z':ZM}{w':bG},xP c ds w'->oO c m' Z' H1 w'->oN m' Z' ρ ρr->dQ (aY m') Z' v x->DC c N ds (oQ o.dst v ρ.get) H1.get (a.put o.dst x) w':=by
  intro x H1 m' Z' w' mr S' B8 hx
  cases ab0:o.dst with
  |none=>exact⟨mr,ρr,ρ,H1,hf.Es _,rfl,rfl,m',Z',S',B8⟩
  |some d=>exact⟨mr,ra ρr d x,(d,v)::ρ,H1,hf.put (Nat.lt_of_succ_le (hd d ab0)) x,rfl,rfl,m',Z',S',B8.put d hx⟩
 have zz:all.toArray[fp.i]?=aY o:=by simpa using ho
 unfold wpOpIn;simp only[zz]
 rcases aea with⟨hw,rfl,rfl,_,_⟩|⟨hw,F,R,F',hl,nL,hnF,nU,_,_,nD,mf,rfl,_⟩
 .have o_:=(hf.wanted all o).trans (vf hR hw);simp only[o_,cu,if_false];exact⟨λ_ _=>trivial,h _ _ (Xl hM SC hR rfl)⟩
 .have o_:=(hf.wanted all o).trans (vf hR hw);simp only[o_,if_true];refine⟨λ_ _=>trivial,?_⟩;rw[Ji hn,hf.eval];have hHn:=SC.step.iV.nodup
  have Ou:(keys (F++R)).Nodup:=by rw[zr]at nL ⊢;obtain⟨_,h2,h3⟩:=cz.1 nL;exact cz.2 ⟨hnF,h2,λa ha b hb=>h3 a (nU a ha) b hb⟩
  have pj:ua (keys (F++R)) H=aY (F++R):=ZL nD
  have Y':Jk (F'++R) (keys (F++R)) H=bg:=bm.2 λp hp=>by
   simp only[cM,bX,aU,bL,aW];rw[zr,bI]
   rcases bI.1 hp with hp|hp
   .by_cases C8:p.1∈keys F
    .exact .inl (.inl C8)
    .exact .inr (get_none.2 (mf p.1 (ax hp) C8))
   .exact .inl (.inr (ax hp))
  have aen:=ku hHn Ou pj;have Xn:kp m Z ((F++R)++kr (keys (F++R)) H) w:=SC.step.iV.perm aen
  obtain⟨EU,hex⟩:=hl ρr m Z w (λx _=>by rw[TB];exact hR.ev x) Xn.left (λk hk na=>SC.p6 k (by
   obtain⟨p,lu,rfl⟩:=bF.1 hk;have:=(bm.1 Y') p lu;simp only[cM,bX,aU,bL,aW]at this
   rcases this with this|this
   .exact aQ this na
   .exact this))
  have aee:((F'++R)++kr (keys (F++R)) H).get=W9 F' H.get:=by
   funext k
   rw[get_append];by_cases h1:k∈keys (F'++R)
   .rw[aO h1,get_append];by_cases h2:k∈keys F'
    .simp[W9,h2]
    .rw[aN h2,yU h2]
     have h3:k∈keys R:=by rw[zr,bI]at h1;exact h1.resolve_left h2
     obtain⟨p,hp,rfl⟩:=bF.1 h3;rw[nD p (bO _ hp)]
     have hnR:(keys R).Nodup:=by rw[zr]at nL;exact(cz.1 nL).2.1
     exact get_of_mem hnR hp
   .rw[aN h1];rw[zr,bI,not_or]at h1;rw[yU h1.1];exact HS (by rw[zr,bI];exact λh'=>h'.elim (λh'=>h1.1 (nU k h')) h1.2)
  have go:∀x w',(∃m' Z',Step m Z (F++R) w m' Z' (F'++R) w'/\dQ (aY m') Z' v x)->KK (a.put o.dst x) w':=λx w' ⟨m',Z',iy,hr⟩=>by refine h _ _ ?_;rw[<- aee];exact Xl (hM.step Xn.left iy) (SC.GG (P' Ou) pj Y' λ_ _=>iy) (hR.up iy.ng iy.nn) hr
  rcases hex with⟨x,w',mg,hx⟩|⟨w',mg,hx⟩|⟨f,args,w1,mg,hx⟩
  .rw[mg,Oper.uponIn_value];exact go x w' hx
  .rw[mg,Oper.uponIn_skip];exact go _ w' hx
  .rw[mg,Oper.uponIn_enter];refine⟨λhx=>by simp[Fw]at hx,(Kh r hx).mono λen sq ⟨x,he,hr⟩=>?_⟩;subst he;exact go x sq hr
def zm8{L:List FP}{i:Nat}(h:i∈L.map (·.i)):∃l1 b l2,L=l1++b::l2/\b.i=i:=by obtain⟨b,hb,rfl⟩:=bF.1 h;obtain⟨l1,l2,rfl⟩:=List.append_of_mem hb;exact⟨l1,b,l2,rfl,rfl⟩
def zwj(hE:YF all=bg){Q:Exit->Act->bG->Prop}{n:Nat}{e2:Nat->V}{η2:HF}(hQ:∀a w,DC c N ds e2 η2 a w->Q .normal a w):∀(fuel:Nat)(L:List FP)(listed:Array Bool)(e:Nat->V)(η:HF)(a:Act)(w:bG),
  ZK P N all L e η e2 η2->jD all (HR all []) L=bg->(L.map (·.i)).Pairwise (· < ·)->(∀i,i<all.length->(listed.getD i bf=bf↔i∈L.map (·.i)))->(∀i∈L.map (·.i),i<all.length)->Yx all.toArray listed->listed.size=all.length->L.length<=fuel ->
  DC c N ds e η a w->wpAnyIn (Fw r) n P .any all.toArray Q fuel listed a w:=by
 intro fuel
 have aeY:∀(L:List FP)(listed:Array Bool),(L.map (·.i)).Pairwise (· < ·)->(∀i,i<all.length->(listed.getD i bf=bf↔i∈L.map (·.i)))->(∀i∈L.map (·.i),i<all.length)->listed.size=all.length->Region.ready .any all.toArray listed=[]->L=[]:=by
  intro L listed hp hl iB iz hr
  cases L with
  |nil=>rfl
  |cons b L =>
   exfalso;have hb:=iB b.i ae
   have lg:b.i∈Region.ready .any all.toArray listed:=by
    refine mem_ready.2 ⟨?_,all[b.i]'hb,by simpa using bx hb,λe' B' acQ=>?_⟩
    .have:=(hl b.i hb).2 ae;have Ng:b.i<listed.size:=ab;simp only[cB,ef Ng,dz]at this ⊢;exact this
    .have Nh:=SE hE (bx hb) B' acQ
     cases hq:listed.getD e'.on bf with
     |true=>rfl
     |false =>
      have:=(hl e'.on ab).1 hq;rw[ig]at this hp
      rcases bo.1 this with h'|h'
      .rw[h']at Nh;exact aQ Nh (fx _)
      .have h2:=(fY.1 hp).1 _ h';exact aQ (Nat.lt_trans Nh h2) (fx _)
   rw[hr]at lg;cases lg
 induction fuel with
 |zero =>
  intro L listed e η a w EM _ hp hl iB hc iz hlen S;have:L=[]:=bW ab;subst this;cases EM;refine⟨?_,hQ a w S⟩
  refine List.eq_nil_iff_forall_not_mem.2 λj hj=>?_
  obtain⟨h1,o,ho,_⟩:=mem_ready.1 hj
  have tv:j<all.length:=by have:=(bP.1 ho).1;simpa using this
  have Ng:j<listed.size:=ab
  have:listed.getD j bf=bf:=by simp only[cB,ef Ng,dz]at h1 ⊢;exact h1
  have:=(hl j tv).1 this;cases this
 |succ fuel ih =>
  intro L listed e η a w EM Io hp hl iB hc iz hlen S;refine⟨λhr=>?_,λj hj=>?_⟩
  .have:=aeY L listed hp hl iB iz hr;subst this;cases EM;exact hQ a w S
  .obtain⟨h1,o,ho,Ei⟩:=mem_ready.1 hj
   have tv:j<all.length:=by have:=(bP.1 ho).1;simpa using this
   have ER:j<listed.size:=ab
   have hjf:listed.getD j bf=bf:=by simp only[cB,ef ER,dz]at h1 ⊢;exact h1
   obtain⟨l1,b,l2,rfl,rfl⟩:=zm8 ((hl j tv).1 hjf);obtain⟨ln,abZ⟩:=KY Io;have OQ:((l1++b::l2).map (·.i)).Pairwise (· < ·):=hp;rw[cO,ig,eJ]at OQ;obtain⟨IH,hp2,OP⟩:=OQ;have Xk:=fY.1 hp2
   have ab5:∀x∈l1,YC all x b=bg:=λx hx=>by
    rcases ln x hx with h'|h'
    .exfalso;have OY:=zj8 hE hc b.i o (by simpa using ho) Ei x.i h';have hxn:x.i<all.length:=iB x.i (by simp;exact .inl ⟨x,hx,rfl⟩);have:=(hl x.i hxn).2 (by simp;exact .inl ⟨x,hx,rfl⟩);rw[OY]at this;cases this
    .exact h'
   obtain⟨e1,mP,mC,abY⟩:=EM.front ab5
   refine zm7 mC S λa' w' S'=>ih (l1++l2) _ e1 mP a' w' abY abZ ?_ ?_ ?_ (hc.set hj) (by simpa using iz) (by simp at hlen ⊢;omega) S'
   .rw[cO,eJ];exact⟨IH,Xk.2,λx hx y hy=>OP x hx y (iT _ hy)⟩
   .intro i hi;have lE:i=b.i∨i≠b.i:=Decidable.em _
    rcases lE with rfl|lE
    .have Nk:b.i ∉ (l1++l2).map (·.i):=by
      rw[cO,bI];rintro(h'|h')
      .have:=OP _ h' b.i ak;omega
      .have:=Xk.1 _ h';omega
     have h9:(listed.setIfInBounds b.i bg).getD b.i bf=bg:=by simp[ER]
     rw[h9];exact⟨λh'=>(by cases h'),λh'=>aQ h' Nk⟩
    .rw[getD_set_ne bf (Ne.symm lE),hl i hi];simp only[cO,ig,bI,bo,lE,false_or]
   .intro i hi;refine iB i ?_;rw[cO,bI]at hi;simp only[cO,ig,bI,bo]
    rcases hi with hi|hi
    .exact .inl hi
    .exact .inr (.inr hi)
def zbs(l:List Oper):Yx l.toArray (Array.replicate l.length bf):=by intro j o hj _;exfalso;simp only[cB,ei]at hj;split at hj<;>cases hj
def Vo(P:bl)(N:Nat)(all:List Oper)(done:List FP)(l:List Oper)(ρ:Env)(H:aw)(K:Env->aw->Prop):Prop:=
 ∃tm ρ' H',(keys H).Nodup->(tm.map (·.i)=gE (all.length-l.length) l.length/\ZK P N all tm ρ.get H.get ρ'.get H'.get/\(keys H').Nodup/\jD all (HR all []) (done.reverse++tm)=bg/\K ρ' H')
variable{ρ:Env}{H:aw}{Q:xE}
def zA0{id:Nat}(hm:P.follows .mixedOrders=bg)(hE:YF all=bg)(h:Vo P N all [] all ρ H λρ' H'=>Q .normal ρ' H' ds):l4 c P r N (.region id all.toArray bg) Q ρ H ds:=by
 intro ρr w lI S hM a n hf;obtain⟨tm,ρ',H',h⟩:=h;obtain⟨m,Z,SC,hR⟩:=S;obtain⟨h1,h2,h3,h4,h5⟩:=h SC.step.iV.nodup
 have aeb:Qh c ρ H ρr w.drew:=⟨m,Z,⟨SC.step.trans (Step.same SC.step.iV rfl rfl rfl rfl),SC.p6⟩,hR⟩
 rw[Nat.sub_self]at h1;refine wpIn_region_any hm ?_
 have ζ:∀i,i∈tm.map (·.i)↔i<all.length:=λi=>by rw[h1,List.mem_range'];simp
 refine zwj (c:=c) (ds:=lI) (r:=r) hE (e2:=ρ'.get) (η2:=H'.get) (λa' w' S'=>?_) all.toArray.size tm _ ρ.get H.get a _ h2 (by simpa using h4) ?_ ?_ ?_ ?_ ae ?_ ⟨hM.same rfl,ρr,ρ,H,hf,rfl,rfl,aeb⟩
 .obtain⟨mr,tQ,pq,H2,m_,e1,e2,m',Z',Eu,B8⟩:=S';refine⟨tQ,lI,m_,ρ',H',?_,mr,h5⟩
  have hp:H2.Perm H':=HU Eu.step.iV.nodup h3 λk=>by rw[e2]
  have:Qh c ρ' H2 tQ w':=⟨m',Z',Eu,λt=>by rw[<- e1];exact B8 t⟩
  exact this.perm hp
 .rw[h1];exact List.pairwise_lt_range'
 .intro i hi;rw[ζ];simp only[cW,cB,ei];rw[aO hi];simp[hi]
 .exact λi hi=>(ζ i).1 hi
 .have:=zbs all;simpa using this
 .have:=aP ba h1;simp at this;simp[this]
end
section
variable{P:bl}{N:Nat}{all rest:List Oper}{done:List FP}{ρ:Env}{H:aw}{K:Env->aw->Prop}{o:Oper}
def acM(hc:jD all (HR all []) done.reverse=bg)(h:K ρ H):Vo P N all done [] ρ H K:=⟨[],ρ,H,λhn=>⟨rfl,.nil,hn,by simpa using hc,h⟩⟩
def UI{fp:FP}{mh:Env}{H1:aw}(hi:fp.i=all.length-(rest.length+1))(hlen:rest.length+1<=all.length)(hs:(keys H).Nodup->(keys H1).Nodup/\ud P N all fp ρ.get H.get mh.get H1.get)(h:Vo P N all (fp::done) rest mh H1 K):Vo P N all done (o::rest) ρ H K:=by
 obtain⟨tm,ρ',H',h⟩:=h;refine⟨fp::tm,ρ',H',λhn=>?_⟩;obtain⟨pI,hs⟩:=hs hn;obtain⟨h1,h2,h3,h4,h5⟩:=h pI;refine⟨?_,.cons hs h2,h3,by simpa using h4,h5⟩;rw[ig,h1,lX,fD,hi]
 congr 2
 omega
def zA1(i:Nat)(hi:(all.length-(rest.length+1))=i)(hlen:ck (rest.length+1) all.length=bg)(ho:all[i]?=aY o)(hn:j6 o.op=bg)(hd:(match o.dst with|some d=>ck (d+1) N|none=>bg)=bg)(hw:yv all ρ o=aY bf)
  (h:Vo P N all (.m i [] []::done) rest (oP o.dst .no ρ) H K):Vo P N all done (o::rest) ρ H K:=by refine UI hi.symm (lR hlen) (λnL=>⟨nL,o,.no,ho,hn,λd l5=>?_,SB _ _ _,.inl ⟨hw,rfl,rfl,rfl,rfl⟩⟩) h;rw[l5]at hd;exact lR hd
end
def Vp:Op->Bool|.defer _=>bf|_=>bg
section
variable{P:bl}{N:Nat}{all rest:List Oper}{ρ:Env}{H H':aw}{K:Env->aw->Prop}
def Hw{op:Op}(h:Vp op=bg):j6 op=bg:=by cases op<;>first|rfl|cases h
end
section
variable{K0:List Nat}{c:Ctx K0}{P:bl}{r:Option Nat}{N:Nat}{Q:xE}{ρ:Env}{H H':aw}{ds:List ca}{all rest l:List Oper}{o:Oper}{x:Code}{K:Env->aw->Prop}{done afO:List FP}
def Dv(N:Nat)(o:Oper):Bool:=match o.dst with|some d=>ck (d+1) N|none=>bg
def zwk{id:Nat}(h:QS c P r N l Q l ρ H ds):l4 c P r N (.region id l.toArray bf) Q ρ H ds:=zsb h
def Cut(K0:List Nat)(ρ':Env)(H':aw)(mh:Env)(H1:aw):Prop:=∀(c:Ctx K0) ρr w,Qh c ρ' H' ρr w->Qh c mh H1 ρr w
def Cut.trans{K0:List Nat}{mh pq N2:Env}{H1 H2 H3:aw}(h:Cut K0 mh H1 pq H2)(k:Cut K0 pq H2 N2 H3):Cut K0 mh H1 N2 H3:=λc ρr w S=>k c ρr w (h c ρr w S)
def Cut.refl{K0:List Nat}{mh:Env}{H1:aw}:Cut K0 mh H1 mh H1:=λ_ _ _ S=>S
def YG{F mh:aw}(ks:List Nat)(lM:nodupB ks=bg)(hF:ua ks H=aY F)(aaN:iw F++kr ks H=mh):Cut K0 ρ H ρ mh:=λc ρr w S=>by subst aaN;exact S.freeze ks lM hF
def zj9(t d e sz:Nat)(iz:ck 1 sz=bg)(ht:ρ.get t=.iO)(hd:jP d H=bf):Cut K0 ρ H ((t,.sl sz d 0 0 0)::ρ) ((d,.row e sz 0 [])::H):=λc ρr w S=>S.NO t d e sz iz ht hd
def zA3(t:Nat){v v':V}(h1:ρ.get t=v)(h2:v=v'):Cut K0 ρ H ((t,v')::ρ) H:=λc ρr w S=>by
 subst h2;obtain⟨m,Z,S,hr⟩:=S;refine⟨m,Z,S,λu=>?_⟩
 show dQ (aY m) Z (bif bk u t then v else ρ.get u) (ρr u)
 cases hb:bk u t with
 |false=>exact hr u
 |true =>
  have:=eb hb;subst this;rw[<- h1];exact hr u
def XY(mh:Env)(H1:aw)(h:Cut K0 ρ H mh H1)(k:l4 c P r N x Q mh H1 ds):l4 c P r N x Q ρ H ds:=λρr w lI S hM=>k ρr w lI (h c ρr w S) hM
def acb(mh:Env)(H1:aw)(h:Cut K0 ρ H mh H1)(k:QS c P r N all Q l mh H1 ds):QS c P r N all Q l ρ H ds:=λρr w lI S hM=>k ρr w lI (h c ρr w S) hM
def DX{G:Type}(K0:List Nat)(ds:List ca)(env:G->Env)(hp:G->aw)(Inv:G->Prop)(nv:G->Nat)(g:G)(Q:xE):xE
 |.normal,ρ',H',mE=>mE=ds/\∃g',Inv g'/\nv g'<nv g/\Cut K0 ρ' H' (env g') (hp g')
 |e,ρ',H',mE=>Q e ρ' H' mE
def zsm{G:Type}(env:G->Env)(hp:G->aw)(Inv:G->Prop)(nv:G->Nat)(g0:G)(hi:Inv g0)(h0:Cut K0 ρ H (env g0) (hp g0))
  (Er:∀g,Inv g->l4 c P r N x (DX K0 ds env hp Inv nv g Q) (env g) (hp g) ds):l4 c P r N (.loop x) Q ρ H ds:=by
 refine XY _ _ h0 ?_
 refine zAi env hp Inv nv g0 hi λg hg=>?_
 intro ρr w lI SA hM
 refine FZ (Er g hg ρr w lI SA hM) λe tQ mE w' ⟨ρ',H',S',mr,hQ⟩=>?_
 cases e with
 |normal =>
  obtain⟨_,g',Iu,iB,hc⟩:=hQ;exact⟨_,_,hc c _ _ S',mr,rfl,g',rfl,rfl,Iu,iB⟩
 |exit id=>exact⟨ρ',H',S',mr,hQ⟩
 |goto l=>exact⟨ρ',H',S',mr,hQ⟩
 |ret=>exact⟨ρ',H',S',mr,hQ⟩
 |panic ch=>exact⟨ρ',H',S',mr,hQ⟩
 |outgrown=>exact⟨ρ',H',S',mr,hQ⟩
def zsn{G:Type}{env:G->Env}{hp:G->aw}{Inv:G->Prop}{nv:G->Nat}{g:G}(g':G)(hi:Inv g')(ω:nv g'<nv g)(h:Cut K0 ρ H (env g') (hp g')):DX K0 ds env hp Inv nv g Q .normal ρ H ds:=⟨rfl,g',hi,ω,h⟩
def zso{G:Type}{env:G->Env}{hp:G->aw}{Inv:G->Prop}{nv:G->Nat}{g:G}(h:Q .ret ρ H ds):DX K0 ds env hp Inv nv g Q .ret ρ H ds:=h
def zna{G:Type}{env:G->Env}{hp:G->aw}{Inv:G->Prop}{nv:G->Nat}{g:G}{id:Nat}(h:Q (.exit id) ρ H ds):DX K0 ds env hp Inv nv g Q (.exit id) ρ H ds:=h
def Gg{S Z:Type}(K0:List Nat)(ds:List ca)(env:S->Env)(hp:S->aw)(L:Nat->S->Option Z)(z:Z)(n:Nat)(q:S)(Q:xE):xE:=DX K0 ds (λg:Nat×S=>env g.2) (λg=>hp g.2) (λg=>L g.1 g.2=aY z) (λg=>g.1) (n+1,q) Q
def Uw{S Z:Type}(env:S->Env)(hp:S->aw)(L:Nat->S->Option Z){z:Z}(G1:∀q,L 0 q=bh)(n:Nat)(s0:S)(hs:L n s0=aY z)(h0:Cut K0 ρ H (env s0) (hp s0))
  (Er:∀K q,L (K+1) q=aY z->l4 c P r N x (Gg K0 ds env hp L z K q Q) (env q) (hp q) ds):l4 c P r N (.loop x) Q ρ H ds:=
 zsm (λg:Nat×S=>env g.2) (λg=>hp g.2) (λg=>L g.1 g.2=aY z) (λg=>g.1) (n,s0) hs h0 λg hg=>by
  obtain⟨K,q⟩:=g
  cases K with
  |zero=>rw[G1]at hg;cases hg
  |succ K=>exact Er K q hg
def SF{S Z:Type}{env:S->Env}{hp:S->aw}{L:Nat->S->Option Z}{z:Z}{Kn:Nat}{q:S}(q':S)(hs:L Kn q'=aY z)(h:Cut K0 ρ H (env q') (hp q')):
  Gg K0 ds env hp L z Kn q Q .normal ρ H ds:=zsn (Kn,q') hs (fE _) h
def zsq{S Z:Type}{env:S->Env}{hp:S->aw}{L:Nat->S->Option Z}{z:Z}{Kn:Nat}{q:S}(h:Q .ret ρ H ds):Gg K0 ds env hp L z Kn q Q .ret ρ H ds:=zso h
def Q_{S Z:Type}{env:S->Env}{hp:S->aw}{L:Nat->S->Option Z}{z:Z}{Kn:Nat}{q:S}{id:Nat}(h:Q (.exit id) ρ H ds):Gg K0 ds env hp L z Kn q Q (.exit id) ρ H ds:=zna h
end
section
variable{P:bl}{ρ:Env}{dst:Option Tmp}{ty:bu}{pos:String}{aft:Array Edge}{gd:Option (Nat×Bool)}
def Vq{t e sz bytes n:Nat}{x y:bE}{k fz L:Nat}{els ys all:List (List V)}{R:aw}(hT:Js P t=aY (e,sz,bytes))(hx:fQ ρ x=.sl sz k L 0 L)(hL:els.length=L)(hy:Src sz R (fQ ρ y) ys)
  (h1:∀c∈ys,c.all V.one=bg) (tx:∀c∈ys,c.length=sz) (Cc:jP k R=bf) (pU:els++ys=all) (hn:all.length=n) (hlen:n*bytes<=140737488355328) (rA:n<=9223372036854775807):
  Loc P ⟨dst,.call ⟨.builtin .append,#[x,y],#[t,t]⟩,ty,pos,aft,gd⟩ ρ ((k,.row e sz fz els)::R) (.sl sz k n 0 n) ((k,.row e sz fz all)::R):=by subst pU;subst hn;have hl:(els++ys).length=els.length+ys.length:=ae;exact zj4 hT hx hL.symm hy h1 (by rw[<- hl];exact hlen) (by rw[<- hl];exact rA) Cc tx
def ZN{t e sz kk L n:Nat}{x ix:bE}{k:IntKind}{i:Int}(ht:oM P t=aY (e,sz))(hx:fQ ρ x=.sl sz kk L 0 n)(hi:fQ ρ ix=.int k i)(h0:0<=i)(h1:i<n):
  Loc P ⟨dst,.indexAddr t x ix,ty,pos,aft,gd⟩ ρ [] (.ptr kk L (i.toNat*sz+0)) []:=by
 have:=zbn (P:=P) (ρ:=ρ) (dst:=dst) (ty:=ty) (pos:=pos) (aft:=aft) (gd:=gd) ht hx hi h0 h1
 rwa [dw,cj]at this
def zbu{t e sz:Nat}{x:bE}{lo hi:Option bE}{l h:Int}{els all:List (List V)}(ht:oM P t=aY (e,sz))(hx:fQ ρ x=.vs sz els)(hl:pB ρ lo 0 l)(hh:pB ρ hi els.length h)(h0:0<=l)(h1:l<=h)(h2:h<=els.length)(pU:(els.take h.toNat).drop l.toNat=all):
  Loc P ⟨dst,.slice t x lo hi bh,ty,pos,aft,gd⟩ ρ [] (.vs sz all) []:=by subst pU;exact zfs ht hx hl hh h0 h1 h2
def zwl{α:Type}[Inhabited α](enc:α->List V){l:List α}{i:Nat}(h:i<l.length):(l.map enc)[i]?=aY (enc (l.getD i default)):=by rw[cw,bx h,cJ,bx h];rfl
end
section
variable{P:bl}{ρ:Env}{dst:Option Tmp}{ty:bu}{pos:String}{aft:Array Edge}{gd:Option (Nat×Bool)}{f:FuncId}{l:List bE}{ts:Array bu}{args vs:List V}{F F' R:aw}{r:V}
end
def idx{α:Type}[Inhabited α](l:List α)(i:Int):Option α:=if 0<=i/\i<l.length then aY (l.getD i.toNat default)else bh
def cut{α:Type}(l:List α)(lo hi:Int):Option (List α):=if 0<=lo/\lo<=hi/\hi<=l.length then aY ((l.take hi.toNat).drop lo.toNat)else bh
def fN(p:Prop)[Decidable p]:Option Unit:=if p then aY ()else bh
def ZO{α:Type}[Inhabited α]{l:List α}{i:Int}{x:α}(h:idx l i=aY x):0<=i/\i<l.length/\x=l.getD i.toNat default:=by
 unfold idx at h;split at h
 .rename_i hc;cases h;exact⟨hc.1,hc.2,rfl⟩
 .cases h
def SG{α:Type}{l:List α}{lo hi:Int}{x:List α}(h:cut l lo hi=aY x):0<=lo/\lo<=hi/\hi<=l.length/\x=(l.take hi.toNat).drop lo.toNat:=by
 unfold cut at h;split at h
 .rename_i hc;cases h;exact⟨hc.1,hc.2.1,hc.2.2,rfl⟩
 .cases h
def yL{p:Prop}[Decidable p]{u:Unit}(h:fN p=aY u):p:=by
 unfold fN at h;split at h
 .assumption
 .cases h
def bind_some{α β:Type}{o:Option α}{f:α->Option β}{r:β}(h:o.bind f=aY r):∃a,o=aY a/\f a=aY r:=cQ.1 h
abbrev b_(n:Int):Int:=IntKind.i64.wrap n
def encI(n:Int):List V:=[.int .i64 n]
def encS(s:aj):List V:=[.str s]
end Go.EV
