/- texts that the proof reaches, part 1 -/
import Derived.Test.YtmjfiffpolkdeaaGreatDoorProg
import Derived.Shelf.RegionOpenPlain
import Derived.Lib.Strings
import Derived.Lib.Slices
import Derived.Lib.Walk
import Derived.Lib.Builder
import Derived.Lib.AppendStr
import Derived.Lib.UnsafeStr
import Derived.WalkKit
import Derived.Laws.Externs
import Derived.Laws.IdiomCopy
import Derived.Laws.BitsLemmas
import Derived.Lib.FrozenHead2
import Derived.DefersIn
import Derived.ControlIn
import Derived.TacticsIn
import Derived.OrdersIn
import Derived.OrdersHeld
import Derived.Below
import Derived.Laws.AppendOwn
import Derived.Laws.Entries
import Derived.Laws.Slices
import Derived.Laws.Strings
import Derived.Laws.Cells
import Derived.Laws.Rows
import Derived.Laws.NewBlocks
import Derived.Laws.OwnMore
import Derived.Laws.Small
import Derived.Laws.StructEq
import Derived.KernelRfl
import Derived.Maps.AppendAt
import Derived.Deep.Slices
import Derived.RangeFuncLeaves
import Derived.RangeFuncRecord
import Derived.RangeFuncSeq
import Derived.Laws.Tables
import Derived.Lib.SliceRun
import Derived.Laws.CopyRow
set_option linter.all false
open Array renaming getElem?_eq_some_iff->ck,getD_eq_getD_getElem?->cz,getElem?_modify->dm,getElem?_replicate->dF,getElem?_eq_getElem->dU,getElem?_eq_none->aa4,eq_empty_of_size_eq_zero->aaY,ext'->gT,replicate_succ->abG,replicate_zero->abE,range->iq,toList_append->abn,empty_append->abt,size_append->aby
open BitVec renaming ofInt->cM
open Bool renaming false->bd,true->bg,not_eq_true'->bW,false_eq_true->cr,or_eq_true->dc,eq_iff_iff->eN
open Go renaming Program->bm,Value->bu,TypeId->bA,Operand->bB,World->bE,execOp->ca,Deferred->cg
open Go.Proofs.Tryz renaming prog->bo,underlying67->dh,underlying9->dp,underlying66->fA,underlying246->abg,underlying142->abf
open List renaming length->bf,all_eq_true->bj,mem_cons->bq,mem_append->bw,getElem?_eq_some_iff->bx,mem_map->bz,getElem?_eq_getElem->bF,mem_of_getElem?->bG,mem_append_left->bI,mem_append_right->bK,append_nil->bM,length_nil->bN,cons_append->bO,length_drop->bU,length_take->bX,getD_eq_getElem?_getD->bY,nil_append->cl,mem_map_of_mem->cm,contains_eq_mem->cy,getElem?_map->cC,eq_nil_of_length_eq_zero->cD,getElem?_take->cE,map_append->cG,size_toArray->cH,take_of_length_le->cI,nodup_cons->cJ,flatten_cons->cK,nodup_append->cO,map->cP,range->cQ,map_map->cW,map_nil->cX,length_pos_iff->db,getElem?_drop->dw,drop_drop->dz,nodup_nil->dG,take_left->dO,getElem?_range->dQ,getElem_of_mem->dS,mem_filter->dT,getElem?_append_left->dV,getElem_mem->dX,drop_zero->ef,drop_take->eg,pairwise_append->eB,isEmpty_iff->eF,getElem?_cons_zero->eI,append_eq_nil_iff->eM,pairwise_cons->eL,take_length_add_append->aaU,take_take->eU,find?_eq_none->fo,getElem?_toArray->fI,perm_ext_iff_of_nodup->abi,extract_eq_drop_take->aa5,range'_succ->aa8,append_toArray->abo,filterMap_cons->abm,push_toArray->abT,map_toArray->abV,mem_toArray->abW,range'->abX
open Nat renaming beq->bk,zero_le->bP,mul_le_mul_right->cj,ble->cw,zero_add->cA,beq_refl->cF,le_trans->cR,le_refl->du,succ_mul->dx,add_mul->dC,add_zero->dM,min_eq_left->ei,lt_of_lt_of_le->eu,add_assoc->eD,zero_mul->eK,le_of_eq->fa,lt_irrefl->gI,lt_or_ge->abD
open Option renaming some->bc,none->bh,map_eq_some_iff->cx,map_some->cZ,getD_some->dJ
open Sum renaming getLeft?->gg,getRight?->aa7
namespace Go
def aO := @if_neg
def aP := @if_pos
def aQ := @congrArg
def aU := @absurd
def aW := @decide_eq_true_eq
def aX := @decide_eq_false_iff_not
def aY := @of_decide_eq_true
end Go
namespace Go
theorem ab {p : Prop} (h : p := by omega) : p := h
theorem ae {p : Prop} (h : p := by decide) : p := h
theorem af {p : Prop} (h : p := by simp) : p := h
theorem ah {p : Prop} (h : p := by decide +kernel) : p := h
theorem ai {p : Prop} (h : p := by rfl) : p := h
theorem akY.{u} {α : Sort u} {a b : α} (h : a = b := by kernel_rfl) : a = b := h
abbrev ak := List UInt8
theorem al.{u} {α : Type u} {a : α} {l : List α} : a ∈ a :: l := List.mem_cons_self
theorem aq {n : Nat} : n ≤ n := du n
end Go
namespace Go
def aC.{u,v}{α:Type u}{β:Type v}(a:α)(f:α->Option β):(bc a).bind f=f a:=rfl
def df{p:Prop}[i:Decidable p](h:¬p):decide p=bd:=decide_eq_false h
def dt{p:Prop}[i:Decidable p](h:p):decide p=bg:=decide_eq_true h
def la.{u}{α:Type u}{a b:List α}:(a++b).length=a.length+b.length:=List.length_append
def lc.{u}{α:Type u}{a:α}{b:List α}:(a::b).length=b.length+1:=List.length_cons
def aH.{u}{α:Sort u}(a b:α):(bif bg then a else b)=a:=rfl
def cf.{u}{α:Sort u}(a b:α):(bif bd then a else b)=b:=rfl
def bS.{u}{α:Type u}{a b:α}:a∈[b]↔a=b:=List.mem_singleton
def gq.{u}{α:Type u}(y:α){a:α}{l:List α}(h:a∈l):a∈y::l:=List.mem_cons_of_mem y h
def lb{n m:Nat}(h:cw n m=bg):n<=m:=Nat.le_of_ble_eq_true h
def eb{n m:Nat}(h:bk n m=bg):n=m:=Nat.eq_of_beq_eq_true h
def bn(a b:Bool):((a&&b)=bg)=(a=bg/\b=bg):=Bool.and_eq_true a b
def gf.{u,v}{α:Type u}{β:Type v}{f:α->β}{a:α}{l:List α}:cP f (a::l)=f a::cP f l:=List.map_cons
def gO.{u}{α:Type u}(a b c:List α):a++b++c=a++(b++c):=List.append_assoc a b c
end Go
namespace Go.Proofs.YtmjfiffpolkdeaaGreatDoor
open Go Go.RowKit
structure w_(T:bA):Prop where
 lies:liesAt bo Tryz.prog.depth T (2 / Tryz.prog.cellsOf T) 0 69 1=bg
 ne:T≠5
def NL:w_ 69:=⟨by kernel_rfl,ae⟩
def T6:w_ 134:=⟨by kernel_rfl,ae⟩
def zLt:(Tryz.prog.info? 69).map (·.size)=bc 2:=by kernel_rfl
set_option maxHeartbeats 1000000 in
set_option maxRecDepth 100000 in
theorem zws(b:Nat)(w:bE)(h0:w.cell? ⟨b,0,bh⟩=bc (.pointer (bc ⟨b,0,bh⟩))):
  Calls bo 70 #[.pointer (bc ⟨b,0,bh⟩)] w λe w'=>e=.returned (.tuple #[])/\w'=w:=by
 obtain⟨j,hj,_⟩:=cx.1 zLt
 go_enter Tryz.func70,Tryz.ntmps70
 go_wp2
 rw[Lib.run_neq_ptr_same w _ fA hj]
 go_wp2
 go_end0
 exact⟨rfl,rfl⟩
set_option maxHeartbeats 1000000 in
set_option maxRecDepth 100000 in
theorem za4{T:bA}(hT:w_ T)(b:Nat)(w:bE)(h0:w.cell? ⟨b,0,bh⟩=bc (.pointer bh))(nf:w.shape? b=bc (T,2))(nt:w.frozen? ⟨b,0,bh⟩=bd):
  Calls bo 70 #[.pointer (bc ⟨b,0,bh⟩)] w λe w'=>e=.returned (.tuple #[])/\w'=w.setCell ⟨b,0,bh⟩ (.pointer (bc ⟨b,0,bh⟩)):=by
 obtain⟨j,hj,D_⟩:=cx.1 zLt
 go_enter Tryz.func70,Tryz.ntmps70
 go_wp2
 rw[Lib.run_to_unsafe w ⟨b,0,bh⟩ fA abg hj (by rw[D_];decide) nf (Nat.zero_lt_succ 1)];simp only[Result.andThen];rw[Oper.upon_value]
 go_wp2
 rw[run_callFunc_extern Tryz.func162 (by kernel_rfl) (by kernel_rfl) (by kernel_rfl) (e:=Extern.AbiNoEscape.same) (by kernel_rfl)];rw[Lib.run_noEscape];simp only[Result.andThen];rw[Oper.upon_value]
 go_wp2
 rw[Lib.run_from_unsafe w ⟨b,0,bh⟩ abg fA hj nf hT.lies];simp only[Result.andThen];rw[Oper.upon_value]
 go_wp2
 go_end0
 exact⟨rfl,rfl⟩
def infoByte:(Tryz.prog.info? 5).map (λi=>(i.zero,i.size,i.bytes))=bc (bc (.int .u8 0),1,1):=by kernel_rfl
def zTy:∃i,Tryz.prog.info? 5=bc i/\i.zero=bc (.int .u8 0)/\i.size=1/\i.bytes=1:=by obtain⟨i,h1,h2⟩:=cx.1 infoByte;simp only[Prod.mk.injEq]at h2;exact⟨i,h1,h2.1,h2.2.1,h2.2.2⟩
def Oc(w w':bE)(v v':bu):Prop:=(∀g,v'.ownBlock=bc g->w.heap.size<=g∨v.ownBlock=bc g)/\∀g,v.ownBlock=bc g->∃cur fr,w'.heap[g]?=bc (.cells cur 5 fr)
def zwt(w:bE)(v:bu)(n:Nat)(xs:List bu)(ma:w.ownsRowF 0 5 1 v n xs)(s:ByteArray)(hb:n+s.size<=140737488355328):
  ∃v' w',(Builtin.append_ #[67,9] 67 #[v,.string s]).run bo w=.ok v' w'/\w'.ownsRowF 0 5 1 v' (n+s.size) (xs++Lib.strCells s)/\w.grownBy w' v.ownBlock/\Oc w w' v v':=by
 obtain⟨i,hi,hz,hs,hy⟩:=zTy
 have sC:n+s.size<=maxLen:=by unfold maxLen;omega
 rcases ma.2 with⟨rfl,rfl⟩|⟨g,cap,cur,fz,rfl,Io,hg,nt,rR,CJ,l7,adP⟩
 .obtain⟨v',w',h1,h2,h3,_⟩:=Lib.run_append_own_stringF (P:=bo) w w.heap.size 67 9 67 5 i dh dp hi hz hs hy (.slice bh 0 0) 0 xs ⟨ma.1,.inl ⟨rfl,rfl⟩⟩ s sC hb aq;refine⟨v',w',h1,⟨h2.1,?_⟩,h3,λg hg=>.inl (h2.lt g hg).1,λg hg=>by cases hg⟩
  rcases h2.2 with h|⟨g,cap,cur,fz,e1,e2,r⟩
  .exact .inl h
  .exact .inr ⟨g,cap,cur,fz,e1,bP _,r⟩
 .obtain⟨v',w',h1,h2,h3,_⟩:=Lib.run_append_own_stringF (P:=bo) w 0 67 9 67 5 i dh dp hi hz hs hy _ n xs ma s sC hb (bP _);refine⟨v',w',h1,h2,h3,?_⟩;by_cases G3:n+s.size<=cap
  .have hr:=Lib.run_append_room_stringF (P:=bo) w 67 9 67 5 i dh dp hi hs g n cap cur fz hg (by simpa using nt) s G3 ab;rw[h1]at hr;cases hr;refine⟨λg' lG=>.inr (by simpa[Value.ownBlock]using lG),λg' lG=>?_⟩
   rcases h2.2 with⟨e,_⟩|⟨g2,ahB,ahC,fz2,e1,_,e3,_⟩
   .cases e
   .cases e1;simp only[Value.ownBlock,Option.some.injEq]at lG;subst lG;exact⟨_,_,e3⟩
  .have holds:∀j u,xs[j]?=bc u->w.cell? ((⟨g,0,bh⟩:Addr).add j)=bc u:=ma.cells (g:=g) rfl;have hr:=Lib.run_append_grow_string (P:=bo) w 67 9 67 5 i (.int .u8 0) dh dp hi hz ⟨g,0,bh⟩ n cap xs (by rw[hs];exact ma.1) holds s ab ab (by rw[hy];exact growslice_fits ab ab);rw[h1]at hr;cases hr;refine⟨λg' lG=>?_,λg' lG=>?_⟩
   .simp only[Value.ownBlock,Option.some.injEq]at lG;exact .inl ab
   .simp only[Value.ownBlock,Option.some.injEq]at lG;subst lG;exact⟨_,_,(Lib.alloc_old w.drew _ g (ck.1 hg).1).trans hg⟩
def zp9(w:bE)(v:bu)(n:Nat)(xs:List bu)(ma:w.ownsRowF 0 5 1 v n xs)(a:Addr)(c:Int)(hc:w.cell? a=bc (.int .u8 c))(ha:a.spot=bh)(hb:n+1<=140737488355328):
  ∃v' w',(Builtin.append_ #[67,67] 67 #[v,.slice (bc a) 1 1]).run bo w=.ok v' w'/\w'.ownsRowF 0 5 1 v' (n+1) (xs++[.int .u8 c])/\w.grownBy w' v.ownBlock/\Oc w w' v v':=by
 obtain⟨i,hi,hz,hs,hy⟩:=zTy
 have sC:n+1<=maxLen:=by unfold maxLen;omega
 have G2:∀j u,[Value.int .u8 c][j]?=bc u->w.cell? (a.add j)=bc u:=by
  intro j u hj
  match j,hj with
  |0,hj=>simp at hj;subst hj;rw[show a.add 0=a from by cases a;simp at ha;subst ha;rfl];exact hc
 have rq:∀u∈[Value.int .u8 c],u.oneCell'=bg:=by intro u hu;simp at hu;subst hu;rfl
 rcases ma.2 with⟨rfl,rfl⟩|⟨g,cap,cur,fz,rfl,Io,hg,nt,rR,CJ,l7,adP⟩
 .obtain⟨v',w',h1,h2,h3,_⟩:=run_append_ownF (P:=bo) w w.heap.size 67 67 5 i (.int .u8 0) 1 1 dh hi hz hs hy rfl ae (.slice bh 0 0) 0 xs ⟨ma.1,.inl ⟨rfl,rfl⟩⟩ a 1 1 _ rfl G2 rq sC ab aq;refine⟨v',w',h1,⟨h2.1,?_⟩,h3,λg hg=>.inl (h2.lt g hg).1,λg hg=>by cases hg⟩
  rcases h2.2 with h|⟨g,cap,cur,fz,e1,e2,r⟩
  .exact .inl h
  .exact .inr ⟨g,cap,cur,fz,e1,bP _,r⟩
 .obtain⟨v',w',h1,h2,h3,_⟩:=run_append_ownF (P:=bo) w 0 67 67 5 i (.int .u8 0) 1 1 dh hi hz hs hy rfl ae _ n xs ma a 1 1 _ rfl G2 rq sC ab (bP _);refine⟨v',w',h1,h2,h3,?_⟩;by_cases G3:n+1<=cap
  .have hr:=run_append_roomF (P:=bo) w 67 67 5 i dh hi g n cap cur fz hg (by rw[hs];exact nt) a 1 1 _ (by rw[hs];rfl) G2 rq G3 (by rw[hs,l7];simp;omega);rw[h1]at hr;cases hr;refine⟨λg' lG=>.inr (by simpa[Value.ownBlock]using lG),λg' lG=>?_⟩
   rcases h2.2 with⟨e,_⟩|⟨g2,ahB,ahC,fz2,e1,_,e3,_⟩
   .cases e
   .cases e1;simp only[Value.ownBlock,Option.some.injEq]at lG;subst lG;exact⟨_,_,e3⟩
  .have holds:∀j u,xs[j]?=bc u->w.cell? ((⟨g,0,bh⟩:Addr).add j)=bc u:=ma.cells (g:=g) rfl;have hr:=run_append_grow (P:=bo) w 67 67 5 i (.int .u8 0) dh hi hz ⟨g,0,bh⟩ n cap xs (by rw[hs];exact ma.1) holds a 1 1 _ (by rw[hs];rfl) G2 ab ab (by rw[hy];exact growslice_fits ab ab);rw[h1]at hr;cases hr;refine⟨λg' lG=>?_,λg' lG=>?_⟩
   .simp only[Value.ownBlock,Option.some.injEq]at lG;exact .inl ab
   .simp only[Value.ownBlock,Option.some.injEq]at lG;subst lG;exact⟨_,_,(Lib.alloc_old w.drew _ g (ck.1 hg).1).trans hg⟩
def zwu{ops:Array Oper}{rest:List Oper}{o:Oper}{a:Act}{w:bE}{Q:Exit->Act->bE->Prop}(RW:o.guard=bh)(sl x:bB)
  (ho:o.op=.call { callee:=.builtin .append,args:=#[sl,x],argTypes:=#[67,9] }) (Sj:o.type=67)
  (v:bu) (n:Nat) (xs:List bu) (hs:a.eval sl=v) (ma:w.ownsRowF 0 5 1 v n xs) (s:ByteArray) (hx:a.eval x=.string s) (hb:n+s.size<=140737488355328)
  (h:∀v' w',w'.ownsRowF 0 5 1 v' (n+s.size) (xs++Lib.strCells s)->w.grownBy w' v.ownBlock->Oc w w' v v'->wpList bo ops Q rest (a.put o.dst v') w'):wpList bo ops Q (o::rest) a w:=by
 refine wpList_plain RW λK hK=>?_
 obtain⟨v',w',hr,h2,h3,h4⟩:=zwt w v n xs ma s hb;unfold Oper.wp ca;simp only[ho,Sj,resolve,invoke,builtin,Sem.run_bind,Sem.run_pure,Result.andThen_ok,abV,gf,cX,hs,hx,hr];exact hK _ _ (h v' w' h2 h3 h4)
def zqa{ops:Array Oper}{rest:List Oper}{o:Oper}{a:Act}{w:bE}{Q:Exit->Act->bE->Prop}(RW:o.guard=bh)(sl x:bB)
  (ho:o.op=.call { callee:=.builtin .append,args:=#[sl,x],argTypes:=#[67,67] }) (Sj:o.type=67)
  (v:bu) (n:Nat) (xs:List bu) (hs:a.eval sl=v) (ma:w.ownsRowF 0 5 1 v n xs) (ad:Addr) (c:Int) (hx:a.eval x=.slice (bc ad) 1 1) (hc:w.cell? ad=bc (.int .u8 c)) (ha:ad.spot=bh) (hb:n+1<=140737488355328)
  (h:∀v' w',w'.ownsRowF 0 5 1 v' (n+1) (xs++[.int .u8 c])->w.grownBy w' v.ownBlock->Oc w w' v v'->wpList bo ops Q rest (a.put o.dst v') w'):wpList bo ops Q (o::rest) a w:=by
 refine wpList_plain RW λK hK=>?_
 obtain⟨v',w',hr,h2,h3,h4⟩:=zp9 w v n xs ma ad c hc ha hb;unfold Oper.wp ca;simp only[ho,Sj,resolve,invoke,builtin,Sem.run_bind,Sem.run_pure,Result.andThen_ok,abV,gf,cX,hs,hx,hr];exact hK _ _ (h v' w' h2 h3 h4)
def Hk(b:Nat)(w w':bE):Prop:=∃p v T p' v',w.heap[b]?=bc (.cells #[p,v] T (0,0))/\w'.heap[b]?=bc (.cells #[p',v'] T (0,0))/\w'.os=w.os/\w'.tape=w.tape/\w'.output=w.output/\w.heap.size<=w'.heap.size /\
 (∀k,k<w.heap.size->k≠b->v.ownBlock≠bc k->w'.heap[k]?=w.heap[k]?)/\(∀g,v'.ownBlock=bc g->w.heap.size<=g∨v.ownBlock=bc g)/\∀g,v.ownBlock=bc g->g≠b->∃cur u fr,w'.heap[g]?=bc (.cells cur u fr)
def check{T:bA}(hT:w_ T)(b:Nat)(bs:List bu)(w:bE)(h:Lib.IsBuilderF T 5 0 b bs w):
  Calls bo 70 #[.pointer (bc ⟨b,0,bh⟩)] w λe w'=>e=.returned (.tuple #[])/\Lib.BuilderAtF T 5 0 b (.pointer (bc ⟨b,0,bh⟩)) bs w'/\∃p v,w.heap[b]?=bc (.cells #[p,v] T (0,0))/\w'.heap[b]?=bc (.cells #[.pointer (bc ⟨b,0,bh⟩),v] T (0,0))/\w'.os=w.os/\w'.tape=w.tape/\w'.output=w.output/\w'.heap.size=w.heap.size/\∀k,k≠b->w'.heap[k]?=w.heap[k]?:=by
 rcases h with h|h
 .refine(za4 hT b w h.cell0 h.shape h.frozen0).mono ?_;rintro e w' ⟨rfl,rfl⟩;have h2:=h.used (.pointer (bc ⟨b,0,bh⟩));obtain⟨_,v,hb,_⟩:=h;exact⟨rfl,h2,_,v,hb,by simp[World.setCell,dm,hb],rfl,rfl,rfl,by simp[World.setCell],λk hk=>Below.heap_setCell _ _ _ _ (λe=>hk (by simp[e]))⟩
 .refine(zws b w h.cell0).mono ?_;rintro e w' ⟨rfl,rfl⟩;have h2:=h;obtain⟨_,v,hb,_⟩:=h;exact⟨rfl,h2,_,v,hb,hb,rfl,rfl,rfl,rfl,λ_ _=>rfl⟩
set_option maxHeartbeats 2000000 in
set_option maxRecDepth 100000 in
theorem zzs{T:bA}(hT:w_ T)(b:Nat)(bs:List bu)(s:ByteArray)(w:bE)(h:Lib.IsBuilderF T 5 0 b bs w)(hlen:bs.length+s.size<=140737488355328):
  (Calls bo 26 #[.pointer (bc ⟨b,0,bh⟩),.string s] w λe w'=>e=.returned (.tuple #[.int .i64 s.size,.nilIface])/\Lib.IsBuilderF T 5 0 b (bs++Lib.strCells s) w'/\Hk b w w') /\
  ∀u,CallsDIn Fence.wide 0 bo 26 #[.pointer (bc ⟨b,0,bh⟩),.string s] u w λe u' w'=>u'=u/\(e=.returned (.tuple #[.int .i64 s.size,.nilIface])/\Lib.IsBuilderF T 5 0 b (bs++Lib.strCells s) w'/\Hk b w w'):=by
 refine⟨calls_of_wp Tryz.func26 rfl ?_,λu=>callsDIn_of_wp Tryz.func26 rfl trivial (wpIn_wide.2 ?_)⟩
 all_goals
  simp only[Tryz.ntmps26,cH,lc,bN,Nat.reduceAdd,Nat.reduceSub,abG,abE,abT,abo,cl,bO]
  go_wp2_with (go_at_call 70;refine(check hT b bs _ h).mono ?_)
  rintro e w1 ⟨rfl,h1,p0,v0,k1,k2,k3,k4,k5,k6,k7⟩;obtain⟨hB,v,iI,ma,g_⟩:=h1
  have c0:w1.cell? ⟨b,0,bh⟩=bc (.pointer (bc ⟨b,0,bh⟩)):=by rw[Lib.cell_of_heap iI];rfl
  have c1:w1.cell? ⟨b,1,bh⟩=bc v:=by rw[Lib.cell_of_heap iI];rfl
  go_wp2_with (at_builtin;refine zwu rfl _ _ rfl rfl _ _ _ rfl ma s rfl ?c4 ?_)
  case c4=>omega
  intro v' w2 MF tn MI
  have fZ:b<w1.heap.size:=by
   rcases abD b w1.heap.size with h'|h'
   .exact h'
   .simp[aa4 h']at iI
  have lj:w2.heap[b]?=bc (.cells #[.pointer (bc ⟨b,0,bh⟩),v] T (0,0)):=by rw[tn.block b fZ (λe=>g_ e.symm)];exact iI
  have d0:w2.cell? ⟨b,0,bh⟩=bc (.pointer (bc ⟨b,0,bh⟩)):=by rw[Lib.cell_of_heap lj];rfl
  have d1:w2.cell? ⟨b,1,bh⟩=bc v:=by rw[Lib.cell_of_heap lj];rfl
  have f1:w2.frozen? ⟨b,1,bh⟩=bd:=Lib.frozen_of_heap lj 1
  obtain⟨ao,n',cap,rfl⟩:∃ao n' cap,v'=.slice ao n' cap:=by
   rcases MF.2 with⟨hv,_⟩|⟨g,cap,cur,fz,hv,_⟩
   .exact⟨_,_,_,hv⟩
   .exact⟨_,_,_,hv⟩
  go_wp2
  go_ret2
  rw[iI]at k2;cases k2;refine⟨rfl,.inr (Lib.BuilderAtF.put hB lj (bs':=bs++Lib.strCells s) (by simpa[Lib.strCells_length]using MF) hT.ne),p0,v0,T,.pointer (bc ⟨b,0,bh⟩),.slice ao n' cap,k1,by simp[World.setCell,dm,lj],tn.os.trans k3,tn.tape.trans k4,tn.output.trans k5,by simpa[World.setCell]using cR (fa k6.symm) tn.size,λk hk mE R9=>?_,λg hg=>?_,λg hg FE=>?_⟩
  .rw[Below.heap_setCell _ _ _ _ (λe=>mE (by simp[e])),tn.block k ab (λe=>R9 e.symm),k7 k mE]
  .have:=MI.1 g hg
   rwa [k6]at this
  .obtain⟨cur,fr,e⟩:=MI.2 g hg;exact⟨cur,5,fr,by rw[Below.heap_setCell _ _ _ _ (λe=>FE (by simp[e]))];exact e⟩
set_option maxHeartbeats 2000000 in
set_option maxRecDepth 100000 in
theorem zG8{T:bA}(hT:w_ T)(b:Nat)(bs:List bu)(c:Int)(w:bE)(h:Lib.IsBuilderF T 5 0 b bs w)(hlen:bs.length+1<=140737488355328):
  (Calls bo 153 #[.pointer (bc ⟨b,0,bh⟩),.int .u8 c] w λe w'=>e=.returned .nilIface/\Lib.IsBuilderF T 5 0 b (bs++[.int .u8 c]) w'/\Hk b w w') /\
  ∀u,CallsDIn Fence.wide 0 bo 153 #[.pointer (bc ⟨b,0,bh⟩),.int .u8 c] u w λe u' w'=>u'=u/\(e=.returned .nilIface/\Lib.IsBuilderF T 5 0 b (bs++[.int .u8 c]) w'/\Hk b w w'):=by
 refine⟨calls_of_wp Tryz.func153 rfl ?_,λu=>callsDIn_of_wp Tryz.func153 rfl trivial (wpIn_wide.2 ?_)⟩
 all_goals
  simp only[Tryz.ntmps153,cH,lc,bN,Nat.reduceAdd,Nat.reduceSub,abG,abE,abT,abo,cl,bO]
  go_wp2_with (go_at_call 70;refine(check hT b bs _ h).mono ?_)
  rintro e w1 ⟨rfl,h1,p0,v0,k1,k2,k3,k4,k5,k6,k7⟩;obtain⟨hB,v,iI,ma,g_⟩:=h1
  have c0:w1.cell? ⟨b,0,bh⟩=bc (.pointer (bc ⟨b,0,bh⟩)):=by rw[Lib.cell_of_heap iI];rfl
  have c1:w1.cell? ⟨b,1,bh⟩=bc v:=by rw[Lib.cell_of_heap iI];rfl
  go_wp2_with (at_builtin;refine zqa rfl _ _ rfl rfl _ _ _ rfl (ma.alloc _) ⟨w.heap.size,0,bh⟩ c rfl ?c3 rfl ?c4 ?_)
  case c3 =>rw[<- k6,Lib.cell_of_heap (heap_alloc_new w1 _)];rfl
  case c4=>omega
  intro v' w2 MF tn MI;have gp:(w1.alloc (.cells #[.int .u8 c] 5)).heap.size=w1.heap.size+1:=af
  have fZ:b<w1.heap.size:=by
   rcases abD b w1.heap.size with h'|h'
   .exact h'
   .simp[aa4 h']at iI
  have lj:w2.heap[b]?=bc (.cells #[.pointer (bc ⟨b,0,bh⟩),v] T (0,0)):=by rw[tn.block b (by rw[gp];omega) (λe=>g_ e.symm)];exact(Lib.alloc_old w1 _ b fZ).trans iI
  have d0:w2.cell? ⟨b,0,bh⟩=bc (.pointer (bc ⟨b,0,bh⟩)):=by rw[Lib.cell_of_heap lj];rfl
  have d1:w2.cell? ⟨b,1,bh⟩=bc v:=by rw[Lib.cell_of_heap lj];rfl
  have f1:w2.frozen? ⟨b,1,bh⟩=bd:=Lib.frozen_of_heap lj 1
  obtain⟨ao,n',cap,rfl⟩:∃ao n' cap,v'=.slice ao n' cap:=by
   rcases MF.2 with⟨hv,_⟩|⟨g,cap,cur,fz,hv,_⟩
   .exact⟨_,_,_,hv⟩
   .exact⟨_,_,_,hv⟩
  go_wp2
  go_ret
  rw[iI]at k2;cases k2;refine⟨rfl,.inr (Lib.BuilderAtF.put hB lj (bs':=bs++[.int .u8 c]) (by simpa using MF) hT.ne),p0,v0,T,.pointer (bc ⟨b,0,bh⟩),.slice ao n' cap,k1,by simp[World.setCell,dm,lj],tn.os.trans k3,tn.tape.trans k4,tn.output.trans k5,by have h9:=tn.size;rw[gp]at h9;simp only[World.setCell,Array.size_modify];omega,λk hk mE R9=>?_,λg hg=>?_,λg hg FE=>?_⟩
  .rw[Below.heap_setCell _ _ _ _ (λe=>mE (by simp[e])),tn.block k (by rw[gp];omega) (λe=>R9 e.symm),Lib.alloc_old w1 _ k ab,k7 k mE]
  .rcases MI.1 g hg with h9|h9
   .rw[gp]at h9;exact .inl ab
   .exact .inr h9
  .obtain⟨cur,fr,e⟩:=MI.2 g hg;exact⟨cur,5,fr,by rw[Below.heap_setCell _ _ _ _ (λe=>FE (by simp[e]))];exact e⟩
set_option maxHeartbeats 1000000 in
set_option maxRecDepth 100000 in
theorem zN8{T:bA}(b:Nat)(bs:List bu)(w:bE)(h:Lib.IsBuilderF T 5 0 b bs w):
  Calls bo 27 #[.pointer (bc ⟨b,0,bh⟩)] w λe w'=>e=.returned (.int .i64 bs.length)/\w'=w:=by
 obtain⟨p,hB,v,iI,ma,g_⟩:∃p,Lib.BuilderAtF T 5 0 b p bs w:=by
  rcases h with h|h
  .exact⟨_,h⟩
  .exact⟨_,h⟩
 obtain⟨ao,cap,rfl⟩:∃ao cap,v=.slice ao bs.length cap:=by
  rcases ma.2 with⟨hv,h0⟩|⟨g,cap,cur,fz,hv,_⟩
  .exact⟨bh,0,by rw[hv,h0]⟩
  .exact⟨_,_,hv⟩
 have c1:w.cell? ⟨b,1,bh⟩=bc (.slice ao bs.length cap):=by rw[Lib.cell_of_heap iI];rfl
 go_enter Tryz.func27,Tryz.ntmps27
 go_wp2
 go_ret
 exact⟨rfl,rfl⟩
def YN:Tryz.prog.follows .mixedOrders=bg:=by kernel_rfl
def zTz:Tryz.prog.cellsOf 5=1:=by kernel_rfl
def zN9(W:bE)(q:Option Addr):(Builtin.unsafeString_ #[142,3] 9 #[.pointer q,.int .i64 0]).run bo W=.ok (.string .empty) W:=Lib.run_unsafeString_none W _ _ _ q
def ZL{b:Nat}{w w':bE}{p v:bu}{T:bA}(h1:w.heap[b]?=bc (.cells #[p,v] T (0,0)))(h2:w'.heap[b]?=bc (.cells #[p,v] T (0,0)))(ho:w'.os=w.os)(ht:w'.tape=w.tape)(hu:w'.output=w.output)(hs:w.heap.size<=w'.heap.size)
  (hf:∀k,k<w.heap.size->k≠b->v.ownBlock≠bc k->w'.heap[k]?=w.heap[k]?) (hg:∀g,v.ownBlock=bc g->g≠b->∃cur u fr,w'.heap[g]?=bc (.cells cur u fr)):Hk b w w':=⟨p,v,T,p,v,h1,h2,ho,ht,hu,hs,hf,λg hg=>.inr hg,hg⟩
set_option maxHeartbeats 2000000 in
set_option maxRecDepth 100000 in
theorem zqb{T:bA}(b:Nat)(l:ak)(w:bE)(h:Lib.IsBuilderF T 5 0 b (Lib.byteCells l) w)(h0:l≠[]):
  Calls bo 28 #[.pointer (bc ⟨b,0,bh⟩)] w λe w'=>e=.returned (.string ⟨l.toArray⟩)/\Lib.IsBuilderF T 5 0 b (Lib.byteCells l) w'/\Hk b w w':=by
 obtain⟨p,hp,hAt⟩:∃p,(p=.pointer bh∨p=.pointer (bc ⟨b,0,bh⟩))/\Lib.BuilderAtF T 5 0 b p (Lib.byteCells l) w:=by
  rcases h with h|h
  .exact⟨_,.inl rfl,h⟩
  .exact⟨_,.inr rfl,h⟩
 obtain⟨hB,v,iI,ma,g_⟩:=hAt
 have sF:l.length≠0:=by simpa using h0
 rw[Lib.byteCells_length]at ma
 obtain⟨g,cap,cur,fz,rfl,Io,hg,nt,rR,CJ,l7,adP⟩:∃g cap cur fz,v=.slice (bc ⟨g,0,bh⟩) l.length cap/\0<=g/\w.heap[g]?=bc (.cells cur 5 fz)/\fz.2<=l.length*1/\l.length<=cap/\cap<=maxLen/\cur.size=cap*1/\cur.toList.take (l.length*1)=Lib.byteCells l:=by
  rcases ma.2 with⟨_,hz⟩|⟨g,cap,cur,fz,hv,r⟩
  .exact aU hz sF
  .exact⟨g,cap,cur,fz,hv,r⟩
 have c1:w.drew.cell? ⟨b,1,bh⟩=bc (.slice (bc ⟨g,0,bh⟩) l.length cap):=by have:w.drew.heap[b]?=bc (.cells #[p,.slice (bc ⟨g,0,bh⟩) l.length cap] T (0,0)):=iI;rw[Lib.cell_of_heap this];rfl
 have RF:(Builtin.unsafeSliceData_ #[67] 142 #[.slice (bc ⟨g,0,bh⟩) l.length cap]).run bo w.drew=.ok (.pointer (bc ⟨g,0,bh⟩)) w.drew:=Lib.run_unsafeSliceData_row _ _ _ _ _ _ ab
 have hUS:(Builtin.unsafeString_ #[142,3] 9 #[.pointer (bc ⟨g,0,bh⟩),.int .i64 l.length]).run bo w.drew=.ok (.string ⟨l.toArray⟩) (w.drew.freeze ⟨g,0,bh⟩ l.length):=by refine Lib.run_unsafeString_row w.drew 142 3 9 5 abf zTz g cur.size (by have lG:w.drew.heap[g]?=bc (.cells cur 5 fz):=hg;simp[World.shape?,lG]) l h0 ab (by unfold maxLen at CJ;omega) ?_;intro j x hx;exact ma.cells (g:=g) rfl j (.int .u8 x.toNat) (by simp[Lib.byteCells,hx])
 have aj6:Lib.IsBuilderF T 5 0 b (Lib.byteCells l) (w.drew.freeze ⟨g,0,bh⟩ l.length):=by
  have hA:Lib.BuilderAtF T 5 0 b p (Lib.byteCells l) w.drew:=⟨hB,_,iI,by rw[Lib.byteCells_length];exact ma,g_⟩
  have hF:=hA.froze (g:=g) (cap:=cap) (by rw[Lib.byteCells_length];exact c1);rw[Lib.byteCells_length]at hF
  rcases hp with rfl|rfl
  .exact .inl hF
  .exact .inr hF
 have Io:b≠g:=λe=>g_ (by simp[Value.ownBlock,e])
 have ado:∀k,k≠g->(w.drew.freeze ⟨g,0,bh⟩ l.length).heap[k]?=w.heap[k]?:=λk hk=>by
  unfold World.freeze;split
  .rfl
  .simp only[dm];rw[aO (λe=>hk e.symm)];rfl
 have akd:Hk b w (w.drew.freeze ⟨g,0,bh⟩ l.length):=ZL iI ((ado b Io).trans iI) (by unfold World.freeze;split<;>rfl) (by unfold World.freeze;split<;>rfl) (by unfold World.freeze;split<;>rfl) (by unfold World.freeze;split;exact du _;exact fa Array.size_modify.symm) (λk _ _ hk=>ado k λe=>hk (by simp[Value.ownBlock,e])) λg' lG _=>by
  simp only[Value.ownBlock,Option.some.injEq]at lG;subst lG;have lG:w.drew.heap[g]?=bc (.cells cur 5 fz):=hg;unfold World.freeze;split
  .exact⟨_,_,_,lG⟩
  .simp only[dm,if_true,lG,cZ];exact⟨_,_,_,rfl⟩
 have mixed:=YN
 go_enter Tryz.func28,Tryz.ntmps28
 go_wp2
 go_region_o
 all_goals (go_wp2;go_ret;exact⟨rfl,aj6,akd⟩)
set_option maxHeartbeats 2000000 in
set_option maxRecDepth 100000 in
theorem zqc{T:bA}(b:Nat)(w:bE)(h:Lib.IsBuilderF T 5 0 b [] w):
  Calls bo 28 #[.pointer (bc ⟨b,0,bh⟩)] w λe w'=>e=.returned (.string ⟨#[]⟩)/\Lib.IsBuilderF T 5 0 b [] w'/\Hk b w w':=by
 have hUS:=zN9
 obtain⟨p,hp,hA⟩:∃p,(p=.pointer bh∨p=.pointer (bc ⟨b,0,bh⟩))/\Lib.BuilderAtF T 5 0 b p [] w:=by
  rcases h with h|h
  .exact⟨_,.inl rfl,h⟩
  .exact⟨_,.inr rfl,h⟩
 have fZ:=hA.lt;have RB:=hA;obtain⟨hB,v,iI,ma,g_⟩:=hA
 have fin:∀w',Lib.BuilderAtF T 5 0 b p [] w'->Lib.IsBuilderF T 5 0 b [] w':=λw' hk=>by
  rcases hp with rfl|rfl
  .exact .inl hk
  .exact .inr hk
 rcases ma.2 with⟨rfl,_⟩|⟨g,cap,cur,fz,rfl,Io,hg,_,_,_,_,_⟩
 .have c1:w.drew.cell? ⟨b,1,bh⟩=bc (.slice bh 0 0):=by have:w.drew.heap[b]?=bc (.cells #[p,.slice bh 0 0] T (0,0)):=iI;rw[Lib.cell_of_heap this];rfl
  have RF:(Builtin.unsafeSliceData_ #[67] 142 #[.slice bh 0 0]).run bo w.drew=.ok (.pointer bh) w.drew:=rfl;have hf:Lib.IsBuilderF T 5 0 b [] w.drew:=fin _ RB
  have ht:Hk b w w.drew:=ZL iI iI rfl rfl rfl aq (λ_ _ _ _=>rfl) λg' lG _=>(by cases lG)
  have mixed:=YN
  go_enter Tryz.func28,Tryz.ntmps28
  go_wp2
  go_region_o
  all_goals (go_wp2;go_ret;exact⟨rfl,hf,ht⟩)
 .by_cases nr:cap=0
  .subst nr
   have c1:w.drew.cell? ⟨b,1,bh⟩=bc (.slice (bc ⟨g,0,bh⟩) 0 0):=by have:w.drew.heap[b]?=bc (.cells #[p,.slice (bc ⟨g,0,bh⟩) 0 0] T (0,0)):=iI;rw[Lib.cell_of_heap this];rfl
   have RF:(Builtin.unsafeSliceData_ #[67] 142 #[.slice (bc ⟨g,0,bh⟩) 0 0]).run bo w.drew=.ok (.pointer (bc ⟨w.drew.heap.size,0,bh⟩)) (w.drew.alloc (.view ⟨g,0,bh⟩ 5)):=
    Lib.run_unsafeSliceData_zero w.drew _ _ 5 abf ⟨g,0,bh⟩ 0 (5,cur.size) (by have lG:w.drew.heap[g]?=bc (.cells cur 5 fz):=hg;simp[World.shape?,lG])
   have c2:(w.drew.alloc (.view ⟨g,0,bh⟩ 5)).cell? ⟨b,1,bh⟩=bc (.slice (bc ⟨g,0,bh⟩) 0 0):=by have:(w.drew.alloc (.view ⟨g,0,bh⟩ 5)).heap[b]?=_:=(Lib.alloc_old w.drew _ b fZ).trans iI;rw[Lib.cell_of_heap this];rfl
   have c3:(w.alloc (.view ⟨g,0,bh⟩ 5)).drew.cell? ⟨b,1,bh⟩=bc (.slice (bc ⟨g,0,bh⟩) 0 0):=c2;have c0:w.cell? ⟨b,1,bh⟩=bc (.slice (bc ⟨g,0,bh⟩) 0 0):=c1;have hf:Lib.IsBuilderF T 5 0 b [] (w.drew.alloc (.view ⟨g,0,bh⟩ 5)):=fin _ (RB.drew.alloc _)
   have ht:Hk b w (w.drew.alloc (.view ⟨g,0,bh⟩ 5)):=ZL iI ((Lib.alloc_old w.drew _ b fZ).trans iI) rfl rfl rfl (Nat.le_of_lt (by rw[show(w.drew.alloc (.view ⟨g,0,bh⟩ 5)).heap.size=w.drew.heap.size+1 from by simp];exact Nat.lt_succ_self _)) (λk hk _ _=>Lib.alloc_old w.drew _ k hk) λg' lG _=>by simp only[Value.ownBlock,Option.some.injEq]at lG;subst lG;exact⟨_,_,_,(Lib.alloc_old w.drew _ g (ck.1 hg).1).trans hg⟩
   have mixed:=YN
   go_enter Tryz.func28,Tryz.ntmps28
   go_wp2
   go_region_o
   all_goals (go_wp2;go_ret;exact⟨rfl,hf,ht⟩)
  .have c1:w.drew.cell? ⟨b,1,bh⟩=bc (.slice (bc ⟨g,0,bh⟩) 0 cap):=by have:w.drew.heap[b]?=bc (.cells #[p,.slice (bc ⟨g,0,bh⟩) 0 cap] T (0,0)):=iI;rw[Lib.cell_of_heap this];rfl
   have RF:(Builtin.unsafeSliceData_ #[67] 142 #[.slice (bc ⟨g,0,bh⟩) 0 cap]).run bo w.drew=.ok (.pointer (bc ⟨g,0,bh⟩)) w.drew:=Lib.run_unsafeSliceData_row _ _ _ _ _ _ nr;clear nr;have hf:Lib.IsBuilderF T 5 0 b [] w.drew:=fin _ RB
   have ht:Hk b w w.drew:=ZL iI iI rfl rfl rfl aq (λ_ _ _ _=>rfl) λg' lG _=>(by
    simp only[Value.ownBlock,Option.some.injEq]at lG;subst lG
    exact⟨_,_,_,hg⟩)
   have mixed:=YN
   go_enter Tryz.func28,Tryz.ntmps28
   go_wp2
   go_region_o
   all_goals (go_wp2;go_ret;exact⟨rfl,hf,ht⟩)
def zwv{T:bA}(b:Nat)(l:ak)(w:bE)(h:Lib.IsBuilderF T 5 0 b (Lib.byteCells l) w):
  Calls bo 28 #[.pointer (bc ⟨b,0,bh⟩)] w λe w'=>e=.returned (.string ⟨l.toArray⟩)/\Lib.IsBuilderF T 5 0 b (Lib.byteCells l) w'/\Hk b w w':=by
 cases l with
 |nil=>exact zqc b w h
 |cons x r=>exact zqb b (x::r) w h af
end Go.Proofs.YtmjfiffpolkdeaaGreatDoor
namespace Go.iE
open Go Go.RowKit
abbrev yC:=Nat->bu
def sM(ρ:yC)(d:Nat)(v:bu):yC:=λt=>bif bk t d then v else ρ t
abbrev ZN:=Exit->yC->List cg->bE->Prop
def ev(ρ:yC):bB->bu
 |.tmp t=>ρ t
 |.const v=>v
 |.global g=>.pointer (bc ⟨g,0,bh⟩)
 |.func f=>.func (.func f) #[] #[]
structure pX(N:Nat)(ds:List cg)(a:Act)(ρ:yC):Prop where
 size:a.tmps.size=N
 defs:a.defers=ds
 get:∀t,a.tmps.getD t undef=ρ t
def pX.eval{N:Nat}{ds:List cg}{a:Act}{ρ:yC}(h:pX N ds a ρ):a.eval=ev ρ:=by
 funext x
 cases x with
 |tmp t=>exact h.get t
 |const v=>rfl
 |global g=>rfl
 |func f=>rfl
def pX.put{N:Nat}{ds:List cg}{a:Act}{ρ:yC}(h:pX N ds a ρ){d:Nat}(hd:d<N)(v:bu):pX N ds (a.put (bc d) v) (sM ρ d v):=by
 refine⟨by simp[Act.put,h.size],h.defs,λt=>?_⟩;simp only[Act.put,sM];by_cases Si:t=d
 .subst Si;simp[cz,cF,h.size,hd]
 .have hb:bk t d=bd:=by
   cases hx:bk t d with
   |false=>rfl
   |true=>exact aU (eb hx) Si
  rw[hb,cf,<- h.get t];simp[cz,Array.getElem?_setIfInBounds_ne (Ne.symm Si)]
def pX.MN{N:Nat}{ds:List cg}{a:Act}{ρ:yC}(h:pX N ds a ρ)(v:bu):pX N ds (a.put bh v) ρ:=h
def Fw(r:Option Nat):Fence:={ fn:=λ_=>True,depth:=bh,alive:=bd,round:=r }
def AR{n:Nat}{P:bm}{f:FuncId}{args:Array bu}{w:bE}{R:Ending->bE->Prop}(r:Option Nat)(h:Calls P f args w R):CallsIn (Fw r) n P f args w R:=(callsIn_wide (n:=n)).2 h
def lift(N:Nat)(Q:ZN):Exit->Act->bE->Prop:=λe a w=>∃ρ ds,pX N ds a ρ/\Q e ρ ds w
def zzt{N:Nat}{Q Q':ZN}(h:∀e ρ ds w,Q e ρ ds w->Q' e ρ ds w){e:Exit}{a:Act}{w:bE}:lift N Q e a w->lift N Q' e a w:=λ⟨ρ,ds,hf,hq⟩=>⟨ρ,ds,hf,h _ _ _ _ hq⟩
def Wp(P:bm)(r:Option Nat)(N:Nat)(c:Code)(Q:ZN)(ρ:yC)(ds:List cg)(w:bE):Prop:=∀a n,pX N ds a ρ->c.wpIn (Fw r) n P (lift N Q) a w
def andThen(K:yC->List cg->bE->Prop)(Q:ZN):ZN
 |.normal,ρ,ds,w=>K ρ ds w
 |e,ρ,ds,w=>Q e ρ ds w
def T'(id:Nat)(Q:ZN):ZN
 |.exit i,ρ,ds,w=>if i=id then Q .normal ρ ds w else Q (.exit i) ρ ds w
 |e,ρ,ds,w=>Q e ρ ds w
section
variable{P:bm}{r:Option Nat}{N:Nat}{Q:ZN}{ρ:yC}{ds:List cg}{w:bE}
def LU{c:Code}{Q':ZN}(h:Wp P r N c Q ρ ds w)(hq:∀e ρ ds w,Q e ρ ds w->Q' e ρ ds w):Wp P r N c Q' ρ ds w:=λa n hf=>wpIn_mono (h a n hf) λ_ _ _=>zzt hq
def zLu(h:Q .normal ρ ds w):Wp P r N .skip Q ρ ds w:=λ_ _ hf=>wpIn_skip ⟨_,_,hf,h⟩
def zqd{K:yC->List cg->bE->Prop}(h:K ρ ds w):Wp P r N .skip (andThen K Q) ρ ds w:=zLu h
def zT0{id:Nat}(h:Q (.exit id) ρ ds w):Wp P r N (.exit id) Q ρ ds w:=λ_ _ hf=>wpIn_exit ⟨_,_,hf,h⟩
def akw(h:Q .ret ρ ds w):Wp P r N .ret Q ρ ds w:=λ_ _ hf=>wpIn_ret ⟨_,_,hf,h⟩
def Gw{x y:Code}(h:Wp P r N x (andThen (λρ ds w=>Wp P r N y Q ρ ds w) Q) ρ ds w):Wp P r N (.seq x y) Q ρ ds w:=
 λa n hf=>wpIn_seq (wpIn_mono (h a n hf) λe a' w' hq=>by
  obtain⟨ρ',lX,mb,mf⟩:=hq
  cases e with
  |normal=>exact mf a' n mb
  |exit id=>exact⟨ρ',lX,mb,mf⟩
  |goto l=>exact⟨ρ',lX,mb,mf⟩
  |ret=>exact⟨ρ',lX,mb,mf⟩
  |panic ch=>exact⟨ρ',lX,mb,mf⟩
  |outgrown=>exact⟨ρ',lX,mb,mf⟩)
def zLv{c:bB}{x y:Code}(t:Bool)(hc:ev ρ c=.bool t)(h1:t=bg->Wp P r N x Q ρ ds w)(h2:t=bd->Wp P r N y Q ρ ds w):Wp P r N (.cond c x y) Q ρ ds w:=λa n hf=>wpIn_cond_split (by rw[hf.eval];exact hc) (λht=>h1 ht a n hf) (λht=>h2 ht a n hf)
def zOb{id:Nat}{c:Code}(h:Wp P r N c (T' id Q) ρ ds w):Wp P r N (.block id c) Q ρ ds w:=
 λa n hf=>wpIn_block (wpIn_mono (h a n hf) λe a' w' hq=>by
  obtain⟨ρ',lX,mb,mf⟩:=hq
  cases e with
  |exit i =>
   simp only[T']at mf;simp only[Exit.inBlock];split
   .rename_i he;rw[aP he]at mf;exact⟨ρ',lX,mb,mf⟩
   .rename_i he;rw[aO he]at mf;exact⟨ρ',lX,mb,mf⟩
  |normal=>exact⟨ρ',lX,mb,mf⟩
  |goto l=>exact⟨ρ',lX,mb,mf⟩
  |ret=>exact⟨ρ',lX,mb,mf⟩
  |panic ch=>exact⟨ρ',lX,mb,mf⟩
  |outgrown=>exact⟨ρ',lX,mb,mf⟩)
def least(p:Nat->Prop):∀n,p n->∃m,p m/\∀k,k<m->¬p k:=by
 intro n
 induction n using Nat.strongRecOn with
 |_ n ih =>
  intro h;by_cases hk:∃k,k<n/\p k
  .obtain⟨k,R8,tX⟩:=hk;exact ih k R8 tX
  .exact⟨n,h,λk R8 tX=>hk ⟨k,R8,tX⟩⟩
def gv(all:List Oper)(ρ:yC)(j:Nat):Option Bool:=
 match (all[j]?).bind (·.dst)with
 |some d=>match ρ d with|.bool b=>bc b|_=>bh
 |none=>bh
def wanted(all:List Oper)(ρ:yC)(o:Oper):Bool:=
 match o.guard with
 |none=>bg
 |some (j,want)=>gv all ρ j==bc want
def pX.yielded{a:Act}(hf:pX N ds a ρ)(all:List Oper)(j:Nat):Go.yielded all.toArray a.tmps j=gv all ρ j:=by
 unfold Go.yielded gv;simp only[fI]
 cases h:(all[j]?).bind (·.dst)with
 |none=>rfl
 |some d =>
  simp only[aC];have hg:=hf.get d;rw[cz]at hg
  cases hx:a.tmps[d]? with
  |none=>rw[hx]at hg;rw[<- hg];rfl
  |some v=>rw[hx]at hg;rw[<- hg];cases v<;>rfl
def pX.wanted{a:Act}(hf:pX N ds a ρ)(all:List Oper)(o:Oper):Region.wanted o (Go.yielded all.toArray a.tmps)=wanted all ρ o:=by
 unfold Region.wanted iE.wanted
 cases o.guard with
 |none=>rfl
 |some p=>simp only[hf.yielded all]
def sU(P:bm)(r:Option Nat)(N:Nat)(all:List Oper)(Q:ZN)(l:List Oper)(ρ:yC)(ds:List cg)(w:bE):Prop:=∀a n,pX N ds a ρ->wpListIn (Fw r) n P all.toArray (lift N Q) l a w
def ztb{id:Nat}{l:List Oper}(h:sU P r N l Q l ρ ds w):Wp P r N (.region id l.toArray bd) Q ρ ds w:=λa n hf=>wpIn_region_lit (h a n hf)
def jV:Op->Bool|.defer _=>bd|_=>bg
def oZ{o:Oper}(h:jV o.op=bg)(ρ:bB->bu)(ro:Option Nat):o.semAt ro ρ=ca ρ o:=Oper.semAt_eq ro ρ o (λc hc=>by rw[hc]at h;cases h)
section
variable{all rest:List Oper}{o:Oper}
def zOc(h:Q .normal ρ ds w):sU P r N all Q [] ρ ds w:=λ_ _ hf=>⟨_,_,hf,h⟩
def zG9(d:Nat)(hd:o.dst=bc d)(hN:cw (d+1) N=bg)(hw:wanted all ρ o=bd)(h:sU P r N all Q rest (sM ρ d undef) ds w):sU P r N all Q (o::rest) ρ ds w:=by intro a n hf;have ng:=(hf.wanted all o).trans hw;simp only[wpListIn,ng,cr,if_false];exact⟨λ_ _=>trivial,h _ n (by rw[hd];exact hf.put (lb hN) _)⟩
def zzu(hd:o.dst=bh)(hw:wanted all ρ o=bd)(h:sU P r N all Q rest ρ ds w):sU P r N all Q (o::rest) ρ ds w:=by intro a n hf;have ng:=(hf.wanted all o).trans hw;simp only[wpListIn,ng,cr,if_false];exact⟨λ_ _=>trivial,h _ n (by rw[hd];exact hf.MN _)⟩
def zzv(d:Nat)(v:bu){w':bE}(hd:o.dst=bc d)(hN:cw (d+1) N=bg)(hw:wanted all ρ o=bg)(hn:jV o.op=bg)
  (hr:(ca (ev ρ) o).run P w=.ok (.value v) w') (h:sU P r N all Q rest (sM ρ d v) ds w'):sU P r N all Q (o::rest) ρ ds w:=by intro a n hf;have ng:=(hf.wanted all o).trans hw;simp only[wpListIn,ng,if_true];refine⟨λ_ _=>trivial,?_⟩;rw[oZ hn,hf.eval,hr,Oper.uponIn_value,hd];exact h _ n (hf.put (lb hN) _)
def zzw(d:Nat){w':bE}{f:FuncId}{args:Array bu}{R:Ending->bE->Prop}(hd:o.dst=bc d)(hN:cw (d+1) N=bg)(hw:wanted all ρ o=bg)(hn:jV o.op=bg)
  (hr:(ca (ev ρ) o).run P w=.ok (.enter f args) w') (hc:Calls P f args w' R)
  (h:∀e rF,R e rF->∃v,e=.returned v/\sU P r N all Q rest (sM ρ d v) ds rF):sU P r N all Q (o::rest) ρ ds w:=by intro a n hf;have ng:=(hf.wanted all o).trans hw;simp only[wpListIn,ng,if_true];refine⟨λ_ _=>trivial,?_⟩;rw[oZ hn,hf.eval,hr,Oper.uponIn_enter];refine⟨λhx=>by simp[Fw]at hx,(AR r hc).mono λe rF hR=>?_⟩;obtain⟨v,rfl,hk⟩:=h e rF hR;rw[hd];exact hk _ n (hf.put (lb hN) _)
end
end
def EG(ops:Array Oper)(listed:Array Bool):Prop:=∀j o,listed.getD j bd=bg->ops[j]?=bc o->∀e∈o.after,Region.binds .any e=bg->listed.getD e.on bd=bg
def EG.set{ops:Array Oper}{listed:Array Bool}{i:Nat}(h:EG ops listed)(hr:i∈Region.ready .any ops listed):EG ops (listed.setIfInBounds i bg):=by
 intro j o hj ho e he hb;refine getD_set_true ?_;by_cases hji:i=j
 .subst hji;obtain⟨_,o',rS,nX⟩:=mem_ready.1 hr;rw[ho]at rS;cases rS;exact nX e he hb
 .rw[getD_set_ne bd hji]at hj;exact h j o hj ho e he hb
section
variable{P:bm}{r:Option Nat}{n:Nat}{ops:Array Oper}{jl:Nat}{S T:bE->Prop}{Q:Exit->Act->bE->Prop}
end
section
variable{P:bm}{r:Option Nat}{N:Nat}{Q:ZN}{ρ:yC}{ds:List cg}{w:bE}{all:List Oper}{jl:Nat}{S:bE->Prop}{K:yC->List cg->bE->Prop}
end
section
inductive Own where
 |fD (b:Nat) (cs:List bu) (t:bA)
 |row (e k:Nat) (v:bu) (xs:List (List bu))
 |obj (b:Nat) (o:Obj)
 |alB (W:bE)
variable{W0 w w':bE}{L:List Own}{x x' y:Own}
variable{a b c d e f g i:Own}
end
def LV:TypeDesc->Bool|.struct _=>bd|.array _ _=>bd|_=>bg
def Yq(P:bm)(t:bA):Prop:=∃d i,P.underlying t=bc d/\LV d=bg/\P.info? t=bc i/\i.size=1
def Yk(P:bm)(t:bA)(k:Nat):Prop:=∃d i,P.underlying t=bc d/\LV d=bd/\P.info? t=bc i/\i.size=k
section
variable{P:bm}{ρ:yC}{w:bE}{dst:Option Tmp}{ty:bA}{pos:String}{aft:Array Edge}{gd:Option (Nat×Bool)}
def qm{t:bA}(h:Yq P t):(isAgg t).run P w=.ok bd w:=by obtain⟨d,_,hd,hs,_⟩:=h;unfold isAgg;cases d<;>simp[run_underlying hd,LV]at hs ⊢
def Hl{t k:bA}(h:Yk P t k):(isAgg t).run P w=.ok bg w:=by obtain⟨d,i,hd,hs,_⟩:=h;unfold isAgg;cases d<;>simp[run_underlying hd,LV]at hs ⊢
def Hm{t:bA}{x:bB}{p:Addr}{v:bu}(hs:Yq P t)(ha:ev ρ x=.pointer (bc p))(hc:w.cell? p=bc v):
  (ca (ev ρ) ⟨dst,.load t x,ty,pos,aft,gd⟩).run P w=.ok (.value v) w:=by simp[ca,Instr.loadAt,ha,Instr.sureAddr,loadVar,qm hs,load,Sem.run,hc]
def o5{t:bA}{x:bB}{p:Addr}{k:Nat}(cs:List bu)(hs:Yk P t k)(ha:ev ρ x=.pointer (bc p))(hl:cs.length=k)
  (hc:∀j u,cs[j]?=bc u->w.cell? (p.add j)=bc u):
  (ca (ev ρ) ⟨dst,.load t x,ty,pos,aft,gd⟩).run P w=.ok (.value (.agg cs.toArray)) w:=by obtain⟨d,i,hd,_,hi,hk⟩:=id hs;subst hl;simp[ca,Instr.loadAt,ha,Instr.sureAddr,loadVar,Hl hs,sizeOf,typeInfo,hi,hk,run_loadCells_list w p cs hc]
end
abbrev str(l:ak):bu:=.string ⟨l.toArray⟩
abbrev i64(n:Int):bu:=.int .i64 n
section
variable{P:bm}{ρ:yC}{w:bE}{dst:Option Tmp}{ty:bA}{pos:String}{aft:Array Edge}{gd:Option (Nat×Bool)}
def X'(P:bm)(s f off:Nat):Prop:=∃fs pZ i,P.underlying s=bc (.struct fs)/\fs[f]?=bc pZ/\pZ.offset=off/\P.info? pZ.type=bc i/\i.size≠0
def aaq{s f off:Nat}{x:bB}{p:Addr}(hf:X' P s f off)(ha:ev ρ x=.pointer (bc p)):
  (ca (ev ρ) ⟨dst,.fieldAddr s x f,ty,pos,aft,gd⟩).run P w=.ok (.value (.pointer (bc (p.add off)))) w:=by obtain⟨fs,pZ,i,h1,h2,h3,h4,h5⟩:=hf;subst h3;simp[ca,Instr.fieldAt,run_underlying h1,h2,ha,Instr.sureAddr,fieldPlace,sizeOf,typeInfo,h4,h5]
def zOd(b o n:Nat):(⟨b,o,bh⟩:Addr).add n=⟨b,o+n,bh⟩:=Addr.add_lit b o n
def aeL{s f off:Nat}{x:bB}{b o o':Nat}(hf:X' P s f off)(ho:o+off=o')(ha:ev ρ x=.pointer (bc ⟨b,o,bh⟩)):
  (ca (ev ρ) ⟨dst,.fieldAddr s x f,ty,pos,aft,gd⟩).run P w=.ok (.value (.pointer (bc ⟨b,o',bh⟩))) w:=by subst ho;rw[<- zOd];exact aaq hf ha
def zqe{t:bA}{x:bB}{s:ak}(ht:P.underlying t=bc .string)(ha:ev ρ x=str s):
  (ca (ev ρ) ⟨dst,.call ⟨.builtin .len,#[x],#[t]⟩,ty,pos,aft,gd⟩).run P w=.ok (.value (i64 s.length)) w:=by
 have hs:(⟨s.toArray⟩:ByteArray).size=s.length:=by show s.toArray.size=_;simp
 simp[ca,resolve,invoke,builtin,ha,Builtin.len_,run_underlying ht,goInt,hs]
def zer{t e:bA}{x:bB}{A:Option Addr}{n c:Nat}(ht:P.underlying t=bc (.slice e))(ha:ev ρ x=.slice A n c):
  (ca (ev ρ) ⟨dst,.call ⟨.builtin .len,#[x],#[t]⟩,ty,pos,aft,gd⟩).run P w=.ok (.value (i64 n)) w:=by simp[ca,resolve,invoke,builtin,ha,Builtin.len_,run_underlying ht,goInt]
def zh1{t t':bA}{x y:bB}{a b:Bool}(ht:P.underlying t=bc .bool)(ha:ev ρ x=.bool a)(hb:ev ρ y=.bool b):
  (ca (ev ρ) ⟨dst,.binOp .eql t x y t',ty,pos,aft,gd⟩).run P w=.ok (.value (.bool (a==b))) w:=by simp[ca,ha,hb,run_eql_bool _ _ _ _ ht,eqGuard]
def zh2{t t':bA}{x y:bB}{a b:Bool}(ht:P.underlying t=bc .bool)(ha:ev ρ x=.bool a)(hb:ev ρ y=.bool b):
  (ca (ev ρ) ⟨dst,.binOp .neq t x y t',ty,pos,aft,gd⟩).run P w=.ok (.value (.bool (!(a==b)))) w:=by simp[ca,ha,hb,run_neq_bool _ _ _ _ ht,eqGuard]
end
def zzy{a:Int}(h1:-9223372036854775808<=a)(h2:a<=9223372036854775807):IntKind.i64.wrap a=a:=by rw[IntKind.wrap_i64];omega
section
variable{P:bm}{r:Option Nat}{N:Nat}{Q:ZN}{ρ:yC}{ds:List cg}{w W0:bE}{L:List Own}
variable{all rest:List Oper}{ty:bA}{pos:String}{aft:Array Edge}{gd:Option (Nat×Bool)}
def ze (P : bm) (f : FuncId) : Prop := ∃ fn, P.funcs[f]? = bc fn /\ (fn.name == "runtime.NumGoroutine") = bd /\ fn.body.isNone = bd
def ztc{d:Option Tmp}{f:FuncId}{l:List bB}{ts:Array bA}(vs:List bu)(hf:ze P f)(ha:l.map (ev ρ)=vs):
  (ca (ev ρ) ⟨d,.call ⟨.value (.func f),l.toArray,ts⟩,ty,pos,aft,gd⟩).run P w=.ok (.enter f vs.toArray) w:=by
 obtain⟨fn,h1,h2,h3⟩:=hf;subst ha
 have sA : ¬ fn.name = "runtime.NumGoroutine" := by simpa using h2
 have BP:¬fn.body=bh:=by intro e;rw[e]at h3;cases h3
 simp[ca,resolve,ev,Deferred.ofValue,invoke,callFunc,program,Sem.run,h1,sA,BP]
def jw(l:List bu):yC:=λt=>l.getD t undef
section
variable{fn:Func}{akT:bu->bE->Prop}
end
end
end Go.iE
namespace Go.EV
open Go Go.RowKit Go.iE
structure Yn where
 rep:(Nat->Option (Nat×Nat))->bu->Prop
 mono:∀mk mk' x,(∀L loc,mk L=bc loc->mk' L=bc loc)->rep mk x->rep mk' x
 one:∀mk x,rep mk x->x.oneCell'=bg/\x.cells.toList=[x]
def C'(sz n:Nat):Yn where
 rep:=λmk x=>∃loc,mk n=bc loc/\n<=loc.2/\loc.2<=maxLen/\((n≠0/\x=.slice (bc ⟨loc.1,0*sz,bh⟩) n (loc.2-0))∨(n=0/\loc.2=0/\x=.slice bh 0 0))
 mono:=λmk mk' x hm ⟨loc,h1,h2⟩=>⟨loc,hm n loc h1,h2⟩
 one:=λmk x h=>by obtain⟨loc,_,_,_,⟨_,rfl⟩|⟨_,_,rfl⟩⟩:=h<;>exact⟨rfl,rfl⟩
structure ahr where
 rep:(Addr->Option bu)->bu->Prop
 mono:∀Z Z' x,(∀a x,Z a=bc x->Z' a=bc x)->rep Z x->rep Z' x
 one:∀Z x,rep Z x->x.oneCell'=bg/\x.cells.toList=[x]
inductive V where
 |undef
 |no
 |int (k:IntKind) (n:Int)
 |bool (b:Bool)
 |str (l:ak)
 |kq
 |ptr (k L off:Nat)
 |vp (cs:List V) (off:Nat)
 |gR
 |sl (sz k L o n:Nat)
 |vs (sz:Nat) (els:List (List V))
 |fn (f:Nat) (first caps:List V)
 |lZ
 |agg (cs:List V)
 |gu (xs:List V)
 |k_
 |mp (k:Nat)
 |lJ
 |iG (t:Nat) (v:V)
 |gv (k:Nat) (R:Yn)
 |pv (R:ahr)
 deriving Inhabited
abbrev M:=Nat->Nat->Option (Nat×Nat)
abbrev ZM:=Addr->Option bu
mutual
def aV(m:Option M)(Z:ZM):V->bu->Prop
 |.undef,_=>True
 |.no,x=>x=Go.undef
 |.int k n,x=>x=.int k n
 |.bool b,x=>x=.bool b
 |.str l,x=>x=.string ⟨l.toArray⟩
 |.kq,x=>x=.pointer bh
 |.ptr k L off,x=>∃f loc,m=bc f/\f k L=bc loc/\x=.pointer (bc ⟨loc.1,off,bh⟩)
 |.vp cs off,x=>∃a:Addr,x=.pointer (bc (a.add off))/\Ay Z a 0 cs
 |.gR,x=>x=.slice bh 0 0
 |.sl sz k L o n,x=>∃f loc,m=bc f/\f k L=bc loc/\o+n<=loc.2/\loc.2<=maxLen/\(x=.slice (bc ⟨loc.1,o*sz,bh⟩) n (loc.2-o)∨(loc.2=0/\∃A,x=.slice A 0 0)∨(0<o/\n=0/\∃A c,x=.slice A 0 c/\c<=maxLen))
 |.vs sz els,x=>∃A c,x=.slice A els.length c/\els.length<=c/\c<=maxLen/\(els=[]∨∃a,A=bc a/\wm Z a sz 0 els)
 |.fn f first caps,x=>∃l1 l2:List bu,x=.func (.func f) l1.toArray l2.toArray/\zG m Z first l1/\zG m Z caps l2
 |.lZ,x=>x=.nilFunc
 |.agg cs,x=>∃l:List bu,x=.agg l.toArray/\zG m Z cs l
 |.gu xs,x=>∃l:List bu,x=.tuple l.toArray/\zG m Z xs l
 |.k_,x=>x=.map bh
 |.mp k,x=>∃f loc,m=bc f/\f k 0=bc loc/\x=.map (bc loc.1)
 |.lJ,x=>x=.nilIface
 |.iG t v,x=>∃y,x=.iface t y/\aV m Z v y
 |.gv k R,x=>∃f,m=bc f/\R.rep (f k) x
 |.pv R,x=>R.rep Z x
def zG(m:Option M)(Z:ZM):List V->List bu->Prop
 |[],l=>l=[]
 |v::vs,l=>∃x xs,l=x::xs/\aV m Z v x/\zG m Z vs xs
/-- The cells at a, from number j on, read asZ these. -/
def Ay(Z:ZM)(a:Addr):Nat->List V->Prop
 |_,[]=>True
 |j,v::vs=>(∃x,Z (a.add j)=bc x/\aV bh Z v x)/\Ay Z a (j+1) vs
def wm(Z:ZM)(a:Addr)(sz:Nat):Nat->List (List V)->Prop
 |_,[]=>True
 |i,cs::r=>(cs.length=sz/\Ay Z (a.add (i*sz)) 0 cs)/\wm Z a sz (i+1) r
end
mutual
/-- The names that a value holds. -/
def V.refs:V->List Nat
 |.ptr k _ _=>[k]
 |.sl _ k _ _ _=>[k]
 |.mp k=>[k]
 |.fn _ first caps=>wi first++wi caps
 |.agg cs=>wi cs
 |.gu xs=>wi xs
 |.iG _ v=>v.refs
 |.gv k _=>[k]
 |_=>[]
def wi:List V->List Nat
 |[]=>[]
 |v::vs=>v.refs++wi vs
end
mutual
def V.dW(f:Nat->Nat):V->V
 |.ptr k L off=>.ptr (f k) L off
 |.sl sz k L o n=>.sl sz (f k) L o n
 |.mp k=>.mp (f k)
 |.fn g first caps=>.fn g (nS f first) (nS f caps)
 |.agg cs=>.agg (nS f cs)
 |.gu xs=>.gu (nS f xs)
 |.iG t v=>.iG t (v.dW f)
 |.gv k R=>.gv (f k) R
 |v=>v
def nS(f:Nat->Nat):List V->List V
 |[]=>[]
 |v::vs=>v.dW f::nS f vs
end
section
variable{m m':Option M}{Z Z':ZM}
mutual
def aV.pL(hZ:∀a x,Z a=bc x->Z' a=bc x):
  ∀(v:V)(m m':Option M)(_:∀f,m=bc f->∃f',m'=bc f'/\∀k L loc,f k L=bc loc->f' k L=bc loc)(x:bu),aV m Z v x->aV m' Z' v x
 |.undef,m,m',hm,x,h=>trivial
 |.no,m,m',hm,x,h=>h
 |.int k n,m,m',hm,x,h=>h
 |.bool b,m,m',hm,x,h=>h
 |.str l,m,m',hm,x,h=>h
 |.kq,m,m',hm,x,h=>h
 |.ptr k L off,m,m',hm,x,h=>by
  obtain⟨f,loc,h1,h2,h3⟩:=h;obtain⟨f',h4,h5⟩:=hm f h1;exact⟨f',loc,h4,h5 _ _ _ h2,h3⟩
 |.vp cs off,m,m',hm,x,h=>by
  obtain⟨a,h1,h2⟩:=h;exact⟨a,h1,Ay.pL hZ a cs 0 h2⟩
 |.gR,m,m',hm,x,h=>h
 |.sl sz k L o n,m,m',hm,x,h=>by
  obtain⟨f,loc,h1,h2,h3⟩:=h;obtain⟨f',h4,h5⟩:=hm f h1;exact⟨f',loc,h4,h5 _ _ _ h2,h3⟩
 |.vs sz els,m,m',hm,x,h=>by
  obtain⟨A,c,h1,h2,h3,h4⟩:=h;refine⟨A,c,h1,h2,h3,?_⟩
  rcases h4 with h4|⟨a,h4,h5⟩
  .exact .inl h4
  .exact .inr ⟨a,h4,wm.pL hZ a sz els 0 h5⟩
 |.fn f first caps,m,m',hm,x,h=>by
  obtain⟨l1,l2,h1,h2,h3⟩:=h;exact⟨l1,l2,h1,zG.pL hZ first m m' hm l1 h2,zG.pL hZ caps m m' hm l2 h3⟩
 |.lZ,m,m',hm,x,h=>h
 |.agg cs,m,m',hm,x,h=>by
  obtain⟨l,h1,h2⟩:=h;exact⟨l,h1,zG.pL hZ cs m m' hm l h2⟩
 |.gu xs,m,m',hm,x,h=>by
  obtain⟨l,h1,h2⟩:=h;exact⟨l,h1,zG.pL hZ xs m m' hm l h2⟩
 |.k_,m,m',hm,x,h=>h
 |.mp k,m,m',hm,x,h=>by
  obtain⟨f,loc,h1,h2,h3⟩:=h;obtain⟨f',h4,h5⟩:=hm f h1;exact⟨f',loc,h4,h5 _ _ _ h2,h3⟩
 |.lJ,m,m',hm,x,h=>h
 |.iG t v,m,m',hm,x,h=>by
  obtain⟨y,h1,h2⟩:=h;exact⟨y,h1,aV.pL hZ v m m' hm y h2⟩
 |.gv k R,m,m',hm,x,h=>by
  obtain⟨f,h1,h2⟩:=h;obtain⟨f',h4,h5⟩:=hm f h1;exact⟨f',h4,R.mono _ _ _ (h5 k) h2⟩
 |.pv R,m,m',hm,x,h=>R.mono _ _ _ hZ h
def zG.pL(hZ:∀a x,Z a=bc x->Z' a=bc x):
  ∀(vs:List V)(m m':Option M)(_:∀f,m=bc f->∃f',m'=bc f'/\∀k L loc,f k L=bc loc->f' k L=bc loc)(l:List bu),zG m Z vs l->zG m' Z' vs l
 |[],m,m',hm,l,h=>h
 |v::vs,m,m',hm,l,h=>by obtain⟨x,xs,h1,h2,h3⟩:=h;exact⟨x,xs,h1,aV.pL hZ v m m' hm x h2,zG.pL hZ vs m m' hm xs h3⟩
def Ay.pL(hZ:∀a x,Z a=bc x->Z' a=bc x)(a:Addr):∀(vs:List V)(j:Nat),Ay Z a j vs->Ay Z' a j vs
 |[],_,_=>trivial
 |v::vs,j,h=>by obtain⟨⟨x,h1,h2⟩,h3⟩:=h;exact⟨⟨x,hZ _ _ h1,aV.pL hZ v bh bh (λf hf=>by cases hf) x h2⟩,Ay.pL hZ a vs (j+1) h3⟩
def wm.pL(hZ:∀a x,Z a=bc x->Z' a=bc x)(a:Addr)(sz:Nat):∀(els:List (List V))(i:Nat),wm Z a sz i els->wm Z' a sz i els
 |[],_,_=>trivial
 |cs::r,i,h=>by obtain⟨⟨h1,h2⟩,h3⟩:=h;exact⟨⟨h1,Ay.pL hZ _ cs 0 h2⟩,wm.pL hZ a sz r (i+1) h3⟩
end
def aV.up{v:V}{x:bu}(hZ:∀a x,Z a=bc x->Z' a=bc x)(hm:∀f,m=bc f->∃f',m'=bc f'/\∀k L loc,f k L=bc loc->f' k L=bc loc)(h:aV m Z v x):aV m' Z' v x:=aV.pL hZ v m m' hm x h
def zG.up{v:List V}{x:List bu}(hZ:∀a x,Z a=bc x->Z' a=bc x)(hm:∀f,m=bc f->∃f',m'=bc f'/\∀k L loc,f k L=bc loc->f' k L=bc loc)(h:zG m Z v x):zG m' Z' v x:=zG.pL hZ v m m' hm x h
mutual
/-- The names are moved. -/
def aV.dW{f f':M}(σ:Nat->Nat):∀(v:V)(x:bu),(∀k∈v.refs,∀L loc,f k L=bc loc->f' (σ k) L=bc loc)->aV (bc f) Z v x->aV (bc f') Z (v.dW σ) x
 |.undef,x,_,h=>trivial
 |.no,x,_,h=>h
 |.int k n,x,_,h=>h
 |.bool b,x,_,h=>h
 |.str l,x,_,h=>h
 |.kq,x,_,h=>h
 |.ptr k L off,x,hm,h=>by
  obtain⟨g,loc,h1,h2,h3⟩:=h;cases h1;exact⟨f',loc,rfl,hm k (by simp[V.refs]) _ _ h2,h3⟩
 |.vp cs off,x,_,h=>h
 |.gR,x,_,h=>h
 |.sl sz k L o n,x,hm,h=>by
  obtain⟨g,loc,h1,h2,h3⟩:=h;cases h1;exact⟨f',loc,rfl,hm k (by simp[V.refs]) _ _ h2,h3⟩
 |.vs sz els,x,_,h=>h
 |.fn g first caps,x,hm,h=>by
  obtain⟨l1,l2,h1,h2,h3⟩:=h;exact⟨l1,l2,h1,zG.dW σ first l1 (λk hk=>hm k (by simp[V.refs,hk])) h2,zG.dW σ caps l2 (λk hk=>hm k (by simp[V.refs,hk])) h3⟩
 |.lZ,x,_,h=>h
 |.agg cs,x,hm,h=>by
  obtain⟨l,h1,h2⟩:=h;exact⟨l,h1,zG.dW σ cs l (λk hk=>hm k (by simpa[V.refs]using hk)) h2⟩
 |.gu xs,x,hm,h=>by
  obtain⟨l,h1,h2⟩:=h;exact⟨l,h1,zG.dW σ xs l (λk hk=>hm k (by simpa[V.refs]using hk)) h2⟩
 |.k_,x,_,h=>h
 |.mp k,x,hm,h=>by
  obtain⟨g,loc,h1,h2,h3⟩:=h;cases h1;exact⟨f',loc,rfl,hm k (by simp[V.refs]) _ _ h2,h3⟩
 |.lJ,x,_,h=>h
 |.iG t v,x,hm,h=>by
  obtain⟨y,h1,h2⟩:=h;exact⟨y,h1,aV.dW σ v y (λk hk=>hm k (by simpa[V.refs]using hk)) h2⟩
 |.gv k R,x,hm,h=>by
  obtain⟨g,h1,h2⟩:=h;cases h1;exact⟨f',rfl,R.mono _ _ _ (hm k (by simp[V.refs])) h2⟩
 |.pv R,x,hm,h=>h
def zG.dW{f f':M}(σ:Nat->Nat):∀(vs:List V)(l:List bu),(∀k∈wi vs,∀L loc,f k L=bc loc->f' (σ k) L=bc loc)->zG (bc f) Z vs l->zG (bc f') Z (nS σ vs) l
 |[],l,_,h=>h
 |v::vs,l,hm,h=>by obtain⟨x,xs,h1,h2,h3⟩:=h;exact⟨x,xs,h1,aV.dW σ v x (λk hk=>hm k (by simp[wi,hk])) h2,zG.dW σ vs xs (λk hk=>hm k (by simp[wi,hk])) h3⟩
end
mutual
def V.ξ:∀v:V,v.dW id=v
 |.undef|.no|.int ..|.bool ..|.str ..|.kq|.ptr ..|.vp ..|.gR|.sl ..|.vs ..|.lZ|.k_|.mp ..|.lJ|.gv ..|.pv ..=>rfl
 |.fn g first caps=>by simp only[V.dW,Ww first,Ww caps]
 |.agg cs=>by simp only[V.dW,Ww cs]
 |.gu xs=>by simp only[V.dW,Ww xs]
 |.iG t v=>by simp only[V.dW,V.ξ v]
def Ww:∀vs:List V,nS id vs=vs
 |[]=>rfl
 |v::vs=>by simp only[nS,V.ξ v,Ww vs]
end
def aV.swap{f f':M}{v:V}{x:bu}(hm:∀k∈v.refs,∀L loc,f k L=bc loc->f' k L=bc loc)(h:aV (bc f) Z v x):aV (bc f') Z v x:=by
 have:=aV.dW (f:=f) (f':=f') id v x hm h
 rwa [V.ξ]at this
def zG.swap{f f':M}{vs:List V}{l:List bu}(hm:∀k∈wi vs,∀L loc,f k L=bc loc->f' k L=bc loc)(h:zG (bc f) Z vs l):zG (bc f') Z vs l:=by
 have:=zG.dW (f:=f) (f':=f') id vs l hm h
 rwa [Ww]at this
def aV.DI{v:V}{x:bu}(h:aV bh Z v x):aV m Z v x:=aV.up (λ_ _ h=>h) (λf hf=>by cases hf) h
def zG.DI{vs:List V}{l:List bu}(h:zG bh Z vs l):zG m Z vs l:=zG.up (λ_ _ h=>h) (λf hf=>by cases hf) h
def zG.length:∀{vs:List V}{l:List bu},zG m Z vs l->l.length=vs.length
 |[],l,h=>by cases h;rfl
 |v::vs,l,h=>by obtain⟨x,xs,rfl,_,h3⟩:=h;simp[zG.length h3]
def zG.get:∀{vs:List V}{l:List bu},zG m Z vs l->∀{i:Nat}{v:V},vs[i]?=bc v->∃x,l[i]?=bc x/\aV m Z v x
 |[],l,_,i,v,hv=>by simp at hv
 |u::vs,l,h,i,v,hv=>by
  obtain⟨x,xs,rfl,h2,h3⟩:=h
  cases i with
  |zero=>simp at hv;subst hv;exact⟨x,rfl,h2⟩
  |succ i=>exact zG.get h3 (i:=i) (by simpa using hv)
def zG.n7:∀{vs:List V}{l:List bu},l.length=vs.length->(∀(i:Nat)(v:V)(x:bu),vs[i]?=bc v->l[i]?=bc x->aV m Z v x)->zG m Z vs l
 |[],l,hl,_=>cD (by simpa using hl)
 |v::vs,[],hl,_=>by simp at hl
 |v::vs,x::xs,hl,h=>⟨x,xs,rfl,h 0 v x rfl rfl,zG.n7 (by simpa using hl) (λi u y hu hy=>h (i+1) u y (by simpa using hu) (by simpa using hy))⟩
def zG.append:∀{vs us:List V}{l k:List bu},zG m Z vs l->zG m Z us k->zG m Z (vs++us) (l++k)
 |[],us,l,k,h,h'=>by cases h;exact h'
 |v::vs,us,l,k,h,h'=>by obtain⟨x,xs,rfl,h2,h3⟩:=h;exact⟨x,xs++k,rfl,h2,zG.append h3 h'⟩
def zG.take{vs:List V}{l:List bu}(n:Nat)(h:zG m Z vs l):zG m Z (vs.take n) (l.take n):=by
 refine zG.n7 (by simp[h.length]) λi v x hv hx=>?_
 rw[cE]at hv hx;split at hv
 .rename_i fZ;rw[aP fZ]at hx;obtain⟨y,hy,hr⟩:=h.get hv;rw[hx]at hy;cases hy;exact hr
 .cases hv
def zG.drop{vs:List V}{l:List bu}(n:Nat)(h:zG m Z vs l):zG m Z (vs.drop n) (l.drop n):=by
 refine zG.n7 (by simp[h.length]) λi v x hv hx=>?_
 rw[dw]at hv hx;obtain⟨y,hy,hr⟩:=h.get hv;rw[hx]at hy;cases hy;exact hr
def Ay.get{a:Addr}:∀{vs:List V}{j:Nat},Ay Z a j vs->∀{i:Nat}{v:V},vs[i]?=bc v->∃x,Z (a.add (j+i))=bc x/\aV bh Z v x
 |[],j,_,i,v,hv=>by simp at hv
 |u::vs,j,h,i,v,hv=>by
  obtain⟨⟨x,h1,h2⟩,h3⟩:=h
  cases i with
  |zero=>simp at hv;subst hv;exact⟨x,h1,h2⟩
  |succ i =>obtain⟨y,h4,h5⟩:=Ay.get h3 (i:=i) (v:=v) (by simpa using hv);exact⟨y,by rw[<- h4];congr 2;omega,h5⟩
def Ay.n7{a:Addr}:∀{vs:List V}{j:Nat},(∀(i:Nat)(v:V),vs[i]?=bc v->∃x,Z (a.add (j+i))=bc x/\aV bh Z v x)->Ay Z a j vs
 |[],j,_=>trivial
 |u::vs,j,h=>⟨h 0 u rfl,Ay.n7 λi v hv=>by
   obtain⟨x,h1,h2⟩:=h (i+1) v (by simpa using hv)
   exact⟨x,by rw[<- h1];congr 2;omega,h2⟩⟩
def wm.get{a:Addr}{sz:Nat}:∀{els:List (List V)}{j:Nat},wm Z a sz j els->∀{i:Nat}{cs:List V},els[i]?=bc cs->cs.length=sz/\Ay Z (a.add ((j+i)*sz)) 0 cs
 |[],j,_,i,v,hv=>by simp at hv
 |u::vs,j,h,i,v,hv=>by
  obtain⟨⟨h1,h2⟩,h3⟩:=h
  cases i with
  |zero=>simp at hv;subst hv;exact⟨h1,h2⟩
  |succ i =>
   have:=wm.get h3 (i:=i) (cs:=v) (by simpa using hv);rw[show j+1+i=j+(i+1) by omega]at this;exact this
def wm.n7{a:Addr}{sz:Nat}:∀{els:List (List V)}{j:Nat},(∀(i:Nat)(cs:List V),els[i]?=bc cs->cs.length=sz/\Ay Z (a.add ((j+i)*sz)) 0 cs)->wm Z a sz j els
 |[],j,_=>trivial
 |u::vs,j,h=>⟨h 0 u rfl,wm.n7 λi v hv=>by
   have:=h (i+1) v (by simpa using hv);rw[show j+(i+1)=j+1+i by omega]at this
   exact this⟩
end
mutual
/-- What holds no name needs no map. -/
def aV.flat{f:M}{Z:ZM}:∀(v:V)(x:bu),v.refs=[]->aV (bc f) Z v x->aV bh Z v x
 |.undef,x,_,h=>trivial
 |.no,x,_,h=>h
 |.int k n,x,_,h=>h
 |.bool b,x,_,h=>h
 |.str l,x,_,h=>h
 |.kq,x,_,h=>h
 |.ptr k L off,x,hr,h=>by cases hr
 |.vp cs off,x,_,h=>h
 |.gR,x,_,h=>h
 |.sl sz k L o n,x,hr,h=>by cases hr
 |.vs sz els,x,_,h=>h
 |.fn g first caps,x,hr,h=>by
  obtain⟨l1,l2,h1,h2,h3⟩:=h;obtain⟨M8,B3⟩:=eM.1 hr;exact⟨l1,l2,h1,zG.flat first l1 M8 h2,zG.flat caps l2 B3 h3⟩
 |.lZ,x,_,h=>h
 |.agg cs,x,hr,h=>by
  obtain⟨l,h1,h2⟩:=h;exact⟨l,h1,zG.flat cs l hr h2⟩
 |.gu xs,x,hr,h=>by
  obtain⟨l,h1,h2⟩:=h;exact⟨l,h1,zG.flat xs l hr h2⟩
 |.k_,x,_,h=>h
 |.mp k,x,hr,h=>by cases hr
 |.lJ,x,_,h=>h
 |.iG t v,x,hr,h=>by
  obtain⟨y,h1,h2⟩:=h;exact⟨y,h1,aV.flat v y hr h2⟩
 |.gv k R,x,hr,h=>by cases hr
 |.pv R,x,hr,h=>h
def zG.flat{f:M}{Z:ZM}:∀(vs:List V)(l:List bu),wi vs=[]->zG (bc f) Z vs l->zG bh Z vs l
 |[],l,_,h=>h
 |v::vs,l,hr,h=>by obtain⟨x,xs,h1,h2,h3⟩:=h;obtain⟨M8,B3⟩:=eM.1 hr;exact⟨x,xs,h1,aV.flat v x M8 h2,zG.flat vs xs B3 h3⟩
end
def V.one:V->Bool
 |.undef|.no|.agg _|.gu _=>bd
 |_=>bg
def aV.one{m:Option M}{Z:ZM}{v:V}{x:bu}(h:aV m Z v x)(h1:v.one=bg):x.oneCell'=bg:=by
 cases v<;>simp only[V.one,cr]at h1<;>simp only[aV]at h
 case int=>subst h;rfl
 case bool=>subst h;rfl
 case str=>subst h;rfl
 case kq=>subst h;rfl
 case ptr=>obtain⟨_,_,_,_,rfl⟩:=h;rfl
 case vp=>obtain⟨_,rfl,_⟩:=h;rfl
 case gR=>subst h;rfl
 case sl=>obtain⟨_,_,_,_,_,_,rfl|⟨_,_,rfl⟩|⟨_,_,_,_,rfl,_⟩⟩:=h<;>rfl
 case vs=>obtain⟨_,_,rfl,_⟩:=h;rfl
 case fn=>obtain⟨_,_,rfl,_⟩:=h;rfl
 case lZ=>subst h;rfl
 case k_=>subst h;rfl
 case mp=>obtain⟨_,_,_,_,rfl⟩:=h;rfl
 case lJ=>subst h;rfl
 case iG=>obtain⟨_,rfl,_⟩:=h;rfl
 case gv k R=>obtain⟨_,_,h⟩:=h;first|exact(R.one _ _ h).1|exact(R.one _ _ h).2
 case pv R=>first|exact(R.one _ _ h).1|exact(R.one _ _ h).2
def V.cells:V->List V
 |.agg cs=>cs
 |v=>[v]
def V.plain:V->Bool
 |.undef|.no=>bd
 |_=>bg
def aV.cells{m:Option M}{Z:ZM}{v:V}{x:bu}(h:aV m Z v x)(hp:v.plain=bg):zG m Z v.cells x.cells.toList:=by
 cases v<;>simp only[V.plain,cr]at hp<;>simp only[V.cells]
 case agg=>obtain⟨l,rfl,h2⟩:=h;simpa[Value.cells]using h2
 case gu=>obtain⟨l,rfl,h2⟩:=id h;exact⟨_,[],rfl,h,rfl⟩
 all_goals
  refine⟨x,[],?_,h,rfl⟩;simp only[aV]at h
 case int=>subst h;rfl
 case bool=>subst h;rfl
 case str=>subst h;rfl
 case kq=>subst h;rfl
 case ptr=>obtain⟨_,_,_,_,rfl⟩:=h;rfl
 case vp=>obtain⟨_,rfl,_⟩:=h;rfl
 case gR=>subst h;rfl
 case sl=>obtain⟨_,_,_,_,_,_,rfl|⟨_,_,rfl⟩|⟨_,_,_,_,rfl,_⟩⟩:=h<;>rfl
 case vs=>obtain⟨_,_,rfl,_⟩:=h;rfl
 case fn=>obtain⟨_,_,rfl,_⟩:=h;rfl
 case lZ=>subst h;rfl
 case k_=>subst h;rfl
 case mp=>obtain⟨_,_,_,_,rfl⟩:=h;rfl
 case lJ=>subst h;rfl
 case iG=>obtain⟨_,rfl,_⟩:=h;rfl
 case gv k R=>obtain⟨_,_,h⟩:=h;first|exact(R.one _ _ h).1|exact(R.one _ _ h).2
 case pv R=>first|exact(R.one _ _ h).1|exact(R.one _ _ h).2
end Go.EV
namespace Go.iE
open Go Go.RowKit
section
variable{P:bm}{r:Option Nat}{N:Nat}{Q:ZN}{ρ:yC}{ds:List cg}{w W0:bE}{L:List Own}
variable{all rest:List Oper}{jl:Nat}{S:bE->Prop}{K:yC->List cg->bE->Prop}
variable{dst:Option Tmp}{ty:bA}{pos:String}{aft:Array Edge}{gd:Option (Nat×Bool)}
section
variable{α:Type}{enc:α->List bu}{k:Nat}{v:bu}{l:List α}
end
def zzz (P : bm) (f : FuncId) : Bool := match P.funcs[f]? with | some fn => !(fn.name == "runtime.NumGoroutine") && !fn.body.isNone | none => bd
def zg{f:FuncId}(h:zzz P f=bg):ze P f:=by
 unfold zzz at h;split at h
 .rename_i fn hf;simp only[bn,bW]at h;exact⟨fn,hf,h.1,h.2⟩
 .cases h
end
section
variable{P:bm}{r:Option Nat}{N:Nat}{Q:ZN}{ρ:yC}{ds:List cg}{w W0:bE}{L:List Own}
variable{all rest:List Oper}{ty:bA}{pos:String}{aft:Array Edge}{gd:Option (Nat×Bool)}
end
def aaa(W:bE)(l:Nat)(o:Obj):W.grownBy (W.putObj l o) (bc l):=⟨rfl,rfl,rfl,af,λ_ _ hk=>World.putObj_heap_other (λe=>hk (by rw[e]))⟩
def mark(D:Nat):cg:={ target:=.collected D,args:=#[] }
section
variable{P:bm}{N:Nat}{Q:ZN}{ρ:yC}{ds:List cg}{w:bE}
end
def Mh:List cg->bE->bE->Prop
 |[],w,w'=>w'=w
 |d::ds,w,w'=>∃D,d=mark D/\w.heap[D]?=bc (.deferred (bc []))/\Mh ds (w.putObj D (.deferred bh)) w'
section
variable{P:bm}{N:Nat}{Q:ZN}{ρ:yC}{ds:List cg}{w W0:bE}{L:List Own}
def od{fn:Func}{tmps:Array bu}{R:Ending->bE->Prop}{v:bu}:∀(ds:List cg)(w w':bE),Mh ds w w'->(results fn tmps).run P w'=.ok v w'->R (.returned v) w'->LeavesInM Fence.wide 0 P fn tmps R ds .returning w
 |[],w,w',ht,hr,hR=>by
  subst ht;exact⟨v,hr,hR⟩
 |d::ds,w,w',⟨D,hd,hh,ht⟩,hr,hR=>by subst hd;exact⟨af,.inl ⟨D,_,rfl,run_takeDeferred hh,od ds _ w' ht hr hR⟩⟩
variable{r:Option Nat}{all rest:List Oper}{ty:bA}{pos:String}{aft:Array Edge}{gd:Option (Nat×Bool)}
end
end Go.iE
namespace Go.EV
open Go Go.RowKit Go.iE
def J8:Go.Obj->Bool|.loop _|.deferred _=>bg|_=>bd
structure Od where
 holds:(Nat->Option (Nat×Nat))->ZM->bE->Prop
 mn:(Nat->Option (Nat×Nat))->Nat->Prop
 some_:∀mk b,mn mk b->∃j c,mk j=bc (b,c)/\c≠0
 own:∀mk Z w b,holds mk Z w->mn mk b->∃ob,w.heap[b]?=bc ob/\J8 ob=bd
 keep:∀mk Z Z' w w',holds mk Z w->(∀a x,Z a=bc x->Z' a=bc x)->(∀b,mn mk b->w'.heap[b]?=w.heap[b]?/\∀a x,Z' a=bc x->a.block=b->Z a=bc x)->holds mk Z' w'
inductive Obj where
 |box (t:bA) (cs:List V)
 |row (t:bA) (sz fz:Nat) (els:List (List V))
 |map (l:List (V×V))
 |kg (g:Nat) (ob:Go.Obj) (cs:List V)
 |nest (t e sz:Nat) (pd:Option Nat) (ls:List (List (List V)))
 |gen (G:Od)
 deriving Inhabited
def code(i n:Nat):Nat:=2 ^ i*(2*n+1)
def Obj.hO:Obj->Nat|.row _ _ _ els=>els.length|_=>0
abbrev ax:=List (Nat×Obj)
def keys(H:ax):List Nat:=H.map (·.1)
def qZ(m:M)(p:Nat×Obj):Option Nat:=(m p.1 p.2.hO).bind λloc=>if loc.2=0 then bh else bc loc.1
def Yw(mk:Nat->Option (Nat×Nat))(ls:List (List (List V)))(b:Nat):Prop:=∃j c,mk j=bc (b,c)/\c≠0/\(j=0∨∃i l,ls[i]?=bc l/\j=code i l.length)
def fD(m:M)(p:Nat×Obj)(b:Nat):Prop:=match p.2 with
 |.nest _ _ _ _ ls=>Yw (m p.1) ls b
 |.gen G=>G.mn (m p.1) b
 |_=>qZ m p=bc b
def zlh{m m':M}{p:Nat×Obj}(h:m' p.1=m p.1):fD m' p=fD m p:=by
 obtain⟨k,o⟩:=p;simp only at h
 funext b
 cases o<;>simp only[fD,qZ,h]
def zHa{m:M}{p:Nat×Obj}{b:Nat}(h:fD m p b):∃j c,m p.1 j=bc (b,c)/\c≠0:=by
 obtain⟨k,o⟩:=p
 have one:qZ m (k,o)=bc b->∃j c,m k j=bc (b,c)/\c≠0:=λh=>by
  unfold qZ at h;obtain⟨loc,e1,e2⟩:=Option.bind_eq_some_iff.1 h;split at e2
  .cases e2
  .rename_i hc;cases e2;exact⟨_,loc.2,e1,hc⟩
 cases o with
 |nest t e sz pd ls=>obtain⟨j,c,e1,e2,_⟩:=h;exact⟨j,c,e1,e2⟩
 |gen G=>exact G.some_ _ _ h
 |box t cs=>exact one h
 |row t sz fz els=>exact one h
 |map l=>exact one h
 |kg g ob cs=>exact one h
def ax.get:ax->Nat->Option Obj
 |[],_=>bh
 |(k,o)::r,j=>bif bk j k then bc o else ax.get r j
def ta(Z:ZM):List (V×V)->List MapEntry->Prop
 |[],l=>l=[]
 |(k,v)::r,l=>∃e es,l=e::es/\aV bh Z k e.key/\aV bh Z v e.val/\ta Z r es
def zT2(mk:Nat->Option (Nat×Nat))(Z:ZM)(w:bE)(e sz i:Nat)(l:List (List V))(h:Option bu):Prop:=
 (l=[]/\h=bc (.slice bh 0 0)/\mk (code i 0)=bh)∨∃(b cap:Nat)(cur:Array bu)(fr:Nat×Nat),h=bc (.slice (bc ⟨b,0,bh⟩) l.length cap)/\mk (code i l.length)=bc (b,cap)/\0<l.length/\w.heap[b]?=bc (.cells cur e fr)/\fr.2=0/\l.length<=cap/\cap<=maxLen /\
  cur.size=cap*sz/\zG bh Z l.flatten (cur.toList.take (l.length*sz))/\(∀x∈l,x.length=sz)/\∀a x,Z a=bc x->a.block≠b
def q9(mk:Nat->Option (Nat×Nat))(Z:ZM)(w:bE)(t e sz:Nat)(pd:Option Nat)(ls:List (List (List V))):Prop:=
 (ls=[]/\pd=bc 0/\∀b c,mk 0=bc (b,c)->c≠0->∃cur u fr,w.heap[b]?=bc (.cells cur u fr))∨0<sz/\((ls=[]/\(∃b,mk 0=bc (b,0))/\∀L loc,mk L=bc loc->L=0)∨∃(b cap:Nat)(cur:Array bu)(fr:Nat×Nat),mk 0=bc (b,cap)/\0<cap/\w.heap[b]?=bc (.cells cur t fr)/\fr.2=0/\cur.size=cap/\ls.length=cap/\cap<=maxLen/\(∀a x,Z a=bc x->a.block≠b) /\
  (∀i l,ls[i]?=bc l->∃h,zT2 mk Z w e sz i l (bc h)/\(pd≠bc i->cur[i]?=bc h)) /\
  (∀j1 j2 c1 c2 g,mk j1=bc (g,c1)->mk j2=bc (g,c2)->(j1=0∨∃i l,ls[i]?=bc l/\j1=code i l.length)->(j2=0∨∃i l,ls[i]?=bc l/\j2=code i l.length)->c1≠0->c2≠0->j1=j2) /\
  ∀L loc,mk L=bc loc->L=0∨∃i n l,ls[i]?=bc l/\n<=l.length/\L=code i n)
def Holds(m:M)(Z:ZM)(w:bE)(k:Nat):Obj->Prop
 |.box t cs=>∃(b:Nat)(cur:Array bu),m k 0=bc (b,1)/\w.heap[b]?=bc (.cells cur t (0,0))/\zG (bc m) Z cs cur.toList/\(∀a x,Z a=bc x->a.block≠b)/\(∀L loc,m k L=bc loc->L<=0)
 |.row t sz fz els=>(0<sz/\els=[]/\fz=0/\(∃b,m k 0=bc (b,0))/\(∀L loc,m k L=bc loc->L<=0))∨∃(b cap:Nat)(cur:Array bu)(fr:Nat×Nat),m k els.length=bc (b,cap)/\0<cap/\w.heap[b]?=bc (.cells cur t fr)/\els.length<=cap/\cap<=maxLen/\cur.size=cap*sz/\0<sz /\
   zG bh Z els.flatten (cur.toList.take (els.length*sz))/\(∀e∈els,e.length=sz)/\fr.2<=fz*sz/\fz<=els.length/\(∀a x,Z a=bc x->a.block=b->a.off<fz*sz)/\(∀L loc,m k L=bc loc->L<=els.length)/\(∀(off:Nat)(x:bu),off<fz*sz->cur[off]?=bc x->Z ⟨b,off,bh⟩=bc x)
 |.map l=>∃(b:Nat)(es:Array MapEntry)(clock:Nat),m k 0=bc (b,1)/\w.heap[b]?=bc (.map es clock)/\ta Z l es.toList/\(es.toList.Pairwise λx y=>x.born<y.born)/\(∀e∈es.toList,e.born<clock)/\(∀a x,Z a=bc x->a.block≠b)/\(∃L0,∀L loc,m k L=bc loc->L<=L0)
 |.kg g ob cs=>m k 0=bc (g,1)/\(w.heap[g]?=bc ob/\∃cur u fr,ob=.cells cur u fr/\zG bh Z cs cur.toList)/\∀L loc,m k L=bc loc->L<=0
 |.nest t e sz pd ls=>q9 (m k) Z w t e sz pd ls
 |.gen G=>G.holds (m k) Z w
def q9.own{mk:Nat->Option (Nat×Nat)}{Z:ZM}{w:bE}{t e sz:Nat}{pd:Option Nat}{ls:List (List (List V))}(h:q9 mk Z w t e sz pd ls){b:Nat}(hb:Yw mk ls b):∃cur u fr,w.heap[b]?=bc (.cells cur u fr):=by
 obtain⟨rfl,_,hd⟩|⟨_,⟨rfl,⟨b0,h1⟩,_⟩|⟨b0,cap,cur,fr,h1,h2,h3,_,_,_,_,_,h9,_⟩⟩:=h
 .obtain⟨j,c,e1,e2,rfl|⟨i,l,e3,rfl⟩⟩:=hb
  .exact hd b c e1 e2
  .simp at e3
 .obtain⟨j,c,e1,e2,rfl|⟨i,l,e3,rfl⟩⟩:=hb
  .rw[h1]at e1;cases e1;exact aU rfl e2
  .simp at e3
 .obtain⟨j,c,e1,e2,rfl|⟨i,l,e3,rfl⟩⟩:=hb
  .rw[h1]at e1;cases e1;exact⟨_,_,_,h3⟩
  .obtain⟨hd,hI,_⟩:=h9 i l e3
   rcases hI with⟨rfl,_,e4⟩|⟨b',BI,cur',Re,_,g2,_,g4,_⟩
   .rw[bN,e4]at e1;cases e1
   .rw[g2]at e1;cases e1;exact⟨_,_,_,g4⟩
def q9.keep{mk:Nat->Option (Nat×Nat)}{Z Z':ZM}{w w':bE}{t e sz:Nat}{pd:Option Nat}{ls:List (List (List V))}(h:q9 mk Z w t e sz pd ls)(hZ:∀a x,Z a=bc x->Z' a=bc x)
  (hw:∀b,Yw mk ls b->w'.heap[b]?=w.heap[b]?/\∀a x,Z' a=bc x->a.block=b->Z a=bc x):q9 mk Z' w' t e sz pd ls:=by
 obtain⟨rfl,rfl,hd⟩|⟨h0,hh|⟨b0,cap,cur,fr,h1,h2,h3,h4,h5,h6,h7,h8,h9,p9,p_⟩⟩:=h
 .refine .inl ⟨rfl,rfl,λb c e1 e2=>?_⟩;obtain⟨cur,u,fr,h3⟩:=hd b c e1 e2;exact⟨cur,u,fr,(hw b ⟨0,c,e1,e2,.inl rfl⟩).1.trans h3⟩
 .exact .inr ⟨h0,.inl hh⟩
 .obtain⟨hw0,Na⟩:=hw b0 ⟨0,cap,h1,ab,.inl rfl⟩;refine .inr ⟨h0,.inr ⟨b0,cap,cur,fr,h1,h2,hw0.trans h3,h4,h5,h6,h7,λa x ha e=>h8 a x (Na a x ha e) e,λi l hl=>?_,p9,p_⟩⟩;obtain⟨hd,hI,hc⟩:=h9 i l hl;refine⟨hd,?_,hc⟩
  rcases hI with hh|⟨b',BI,cur',Re,g1,g2,g3,g4,g5,g6,g7,g8,g9,g10,g11⟩
  .exact .inl hh
  .obtain⟨Ee,Sq⟩:=hw b' ⟨_,BI,g2,ab,.inr ⟨i,l,hl,rfl⟩⟩;exact .inr ⟨b',BI,cur',Re,g1,g2,g3,Ee.trans g4,g5,g6,g7,g8,g9.up hZ (λf e=>by cases e),g10,λa x ha e=>g11 a x (Sq a x ha e) e⟩
structure wo(m:M)(Z:ZM)(H:ax)(w:bE):Prop where
 frozen:∀a x,Z a=bc x->w.cell? a=bc x
 holds:∀p∈H,Holds m Z w p.1 p.2
 nodup:(keys H).Nodup
 nW:∀p∈H,∀q∈H,∀b,fD m p b->fD m q b->p.1=q.1
structure Step(m:M)(Z:ZM)(F:ax)(w:bE)(m':M)(Z':ZM)(F':ax)(w':bE):Prop where
 gy:wo m' Z' F' w'
 mM:∀k L loc,m k L=bc loc->m' k L=bc loc
 lR:∀a x,Z a=bc x->Z' a=bc x
 os:w'.os=w.os
 tape:w'.tape=w.tape
 output:w'.output=w.output
 size:w.heap.size<=w'.heap.size
 frame:∀b,b<w.heap.size->(∀p∈F,¬fD m p b)->w'.heap[b]?=w.heap[b]?
 keep:∀k∈keys F,k∈keys F'
 pT:∀k,k ∉ keys F'->m' k=m k
 mn:∀p∈F',∀b,fD m' p b->w.heap.size<=b∨∃q∈F,fD m q b
 mB:∀a x,Z' a=bc x->Z a=bc x∨w.heap.size<=a.block∨∃q∈F,fD m q a.block
def Holds.fD{m:M}{Z:ZM}{w:bE}{k:Nat}{o:Obj}(h:Holds m Z w k o):∀b,EV.fD m (k,o) b->b<w.heap.size:=by
 intro b' kd
 cases o with
 |box t cs =>
  obtain⟨b,cur,h1,h2,_⟩:=h;simp[EV.fD,EV.qZ,Obj.hO,h1]at kd;subst kd;exact(ck.1 h2).1
 |row t sz fz els =>
  rcases h with⟨_,rfl,_,⟨b,h1⟩,_⟩|⟨b,cap,cur,fr,h1,h0,h2,_⟩
  .simp[EV.fD,EV.qZ,Obj.hO,h1]at kd
  .have:cap≠0:=ab;simp[EV.fD,EV.qZ,Obj.hO,h1,this]at kd;subst kd;exact(ck.1 h2).1
 |map l =>
  obtain⟨b,es,clock,h1,h2,_⟩:=h;simp[EV.fD,EV.qZ,Obj.hO,h1]at kd;subst kd;exact(ck.1 h2).1
 |kg g ob cs =>
  obtain⟨h1,⟨h2,_⟩,_⟩:=h;simp[EV.fD,EV.qZ,Obj.hO,h1]at kd;subst kd;exact(ck.1 h2).1
 |nest t e sz pd ls =>
  obtain⟨cur,u,fr,h2⟩:=q9.own h kd;exact(ck.1 h2).1
 |gen G =>obtain⟨ob,h2,_⟩:=G.own _ _ _ _ h kd;exact(ck.1 h2).1
def Holds.adR{m:M}{Z:ZM}{w:bE}{k:Nat}{o:Obj}(h:Holds m Z w k o):∀b,EV.fD m (k,o) b->∃ob,w.heap[b]?=bc ob/\J8 ob=bd:=by
 intro b' kd
 cases o with
 |box t cs =>
  obtain⟨b,cur,h1,h2,_⟩:=h;simp[EV.fD,EV.qZ,Obj.hO,h1]at kd;subst kd;exact⟨_,h2,rfl⟩
 |row t sz fz els =>
  rcases h with⟨_,rfl,_,⟨b,h1⟩,_⟩|⟨b,cap,cur,fr,h1,h0,h2,_⟩
  .simp[EV.fD,EV.qZ,Obj.hO,h1]at kd
  .have:cap≠0:=ab;simp[EV.fD,EV.qZ,Obj.hO,h1,this]at kd;subst kd;exact⟨_,h2,rfl⟩
 |map l =>
  obtain⟨b,es,clock,h1,h2,_⟩:=h;simp[EV.fD,EV.qZ,Obj.hO,h1]at kd;subst kd;exact⟨_,h2,rfl⟩
 |kg g ob cs =>
  obtain⟨h1,⟨h2,cur,u,fr,rfl,_⟩,_⟩:=h;simp[EV.fD,EV.qZ,Obj.hO,h1]at kd;subst kd;exact⟨_,h2,rfl⟩
 |nest t e sz pd ls =>
  obtain⟨cur,u,fr,h2⟩:=q9.own h kd;exact⟨_,h2,rfl⟩
 |gen G=>exact G.own _ _ _ _ h kd
def ta.up{Z Z':ZM}(hZ:∀a x,Z a=bc x->Z' a=bc x):∀{l:List (V×V)}{es:List MapEntry},ta Z l es->ta Z' l es
 |[],_,h=>h
 |(k,v)::r,_,h=>by obtain⟨e,es,h1,h2,h3,h4⟩:=h;exact⟨e,es,h1,h2.up hZ (λf hf=>by cases hf),h3.up hZ (λf hf=>by cases hf),ta.up hZ h4⟩
def Holds.keep{m m':M}{Z Z':ZM}{w w':bE}{k:Nat}{o:Obj}(h:Holds m Z w k o)(hm:∀k L loc,m k L=bc loc->m' k L=bc loc)(hk:m' k=m k)
  (hZ:∀a x,Z a=bc x->Z' a=bc x) (hw:∀b,EV.fD m (k,o) b->w'.heap[b]?=w.heap[b]?/\∀a x,Z' a=bc x->a.block=b->Z a=bc x):Holds m' Z' w' k o:=by
 have hf:∀f,bc m=bc f->∃f',bc m'=bc f'/\∀k L loc,f k L=bc loc->f' k L=bc loc:=λf e=>by cases e;exact⟨m',rfl,hm⟩
 cases o with
 |box t cs =>
  obtain⟨b',cur,h1,h2,h3,h4,h5⟩:=h;obtain⟨hw,hz⟩:=hw b' (by simp[EV.fD,EV.qZ,Obj.hO,h1]);exact⟨b',cur,by rw[hk];exact h1,hw.trans h2,h3.up hZ hf,λa x ha e=>h4 a x (hz a x ha e) e,by rw[hk];exact h5⟩
 |row t sz fz els =>
  rcases h with⟨h0,h1,h2,⟨b,h3⟩,h4⟩|⟨b',cap,cur,fr,h1,h0,h2,h3,h4,h5,h6,h7,h8,h9,p9,p_,Rn,CF⟩
  .exact .inl ⟨h0,h1,h2,⟨b,by rw[hk];exact h3⟩,by rw[hk];exact h4⟩
  .have:cap≠0:=ab;obtain⟨hw,hz⟩:=hw b' (by simp[EV.fD,EV.qZ,Obj.hO,h1,this]);exact .inr ⟨b',cap,cur,fr,by rw[hk];exact h1,h0,hw.trans h2,h3,h4,h5,h6,h7.up hZ (λf e=>by cases e),h8,h9,p9,λa x ha e=>p_ a x (hz a x ha e) e,by rw[hk];exact Rn,λoff x ho hx=>hZ _ _ (CF off x ho hx)⟩
 |map l =>
  obtain⟨b',es,clock,h1,h2,h3,h4,h5,h6,h7⟩:=h;obtain⟨hw,hz⟩:=hw b' (by simp[EV.fD,EV.qZ,Obj.hO,h1]);exact⟨b',es,clock,by rw[hk];exact h1,hw.trans h2,h3.up hZ,h4,h5,λa x ha e=>h6 a x (hz a x ha e) e,by rw[hk];exact h7⟩
 |kg g ob cs =>
  obtain⟨h1,⟨h2,cur,u,fr,h5,h3⟩,h4⟩:=h;exact⟨by rw[hk];exact h1,⟨(hw g (by simp[EV.fD,EV.qZ,Obj.hO,h1])).1.trans h2,cur,u,fr,h5,h3.up hZ (λf e=>by cases e)⟩,by rw[hk];exact h4⟩
 |nest t e sz pd ls =>
  show q9 (m' k) Z' w' t e sz pd ls
  rw[hk];exact q9.keep h hZ hw
 |gen G =>
  show G.holds (m' k) Z' w'
  rw[hk];exact G.keep _ _ _ _ _ h hZ hw
section
variable{m m' m2:M}{Z Z' Z2:ZM}{F F' F2 G H:ax}{w w' w2:bE}
def ay{p:Nat×Obj}(h:p∈H):p.1∈keys H:=cm h
def zC:keys (F++G)=keys F++keys G:=by simp[keys]
def wo.left(h:wo m Z (F++G) w):wo m Z F w:=
  ⟨h.frozen,λp hp=>h.holds p (bI _ hp),by have:=h.nodup;rw[zC]at this;exact(cO.1 this).1,
   λp hp q hq b=>h.nW p (bI _ hp) q (bI _ hq) b⟩
def wo.perm(h:wo m Z F w)(hp:F.Perm F'):wo m Z F' w:=⟨h.frozen,λp hq=>h.holds p (hp.mem_iff.2 hq),(hp.map _).nodup_iff.1 h.nodup,λp hq q hr=>h.nW p (hp.mem_iff.2 hq) q (hp.mem_iff.2 hr)⟩
def aab(h:(keys (F++G)).Nodup){p q:Nat×Obj}(hp:p∈F)(hq:q∈G):p.1≠q.1:=by rw[zC]at h;exact(cO.1 h).2.2 _ (ay hp) _ (ay hq)
def Step.sv(hs:wo m Z (F++G) w)(h:Step m Z F w m' Z' F' w')(CI:∀p∈F',∀q∈G,p.1≠q.1):Step m Z (F++G) w m' Z' (F'++G) w':=by
 have adH:∀q∈G,∀b,fD m q b->b<w.heap.size/\∀p∈F,¬fD m p b:=λq hq b hb=>by exact⟨(hs.holds q (bK _ hq)).fD b hb,λp hp CQ=>aab hs.nodup hp hq (hs.nW p (bI _ hp) q (bK _ hq) b CQ hb)⟩
 have hkG:∀q∈G,m' q.1=m q.1:=λq hq=>h.pT _ λhk=>by obtain⟨p,hp,e⟩:=bz.1 hk;exact CI p hp q hq e
 have M3:∀q∈G,fD m' q=fD m q:=λq hq=>zlh (hkG q hq)
 have akA:∀q∈G,Holds m' Z' w' q.1 q.2:=λq hq=>by
  refine(hs.holds q (bK _ hq)).keep h.mM (hkG q hq) h.lR λb h1=>?_
  have h3:=adH q hq b h1;refine⟨h.frame b h3.1 h3.2,λa x ha e=>?_⟩
  rcases h.mB a x ha with h'|h'|⟨p,hp,CQ⟩
  .exact h'
  .omega
  .rw[e]at CQ;exact aU CQ (h3.2 p hp)
 refine⟨⟨h.gy.frozen,λp hp=>?_,?_,λp hp q hq b h1 h2=>?_⟩,h.mM,h.lR,h.os,h.tape,h.output,h.size,λb hb hn=>h.frame b hb λp hp=>hn p (bI _ hp),λk hk=>?_,λk hk=>?_,λp hp b hb=>?_,λa x ha=>?_⟩
 .rcases bw.1 hp with hp|hp
  .exact h.gy.holds p hp
  .exact akA p hp
 .rw[zC];refine cO.2 ⟨h.gy.nodup,?_,λa ha b hb=>?_⟩
  .have:=hs.nodup;rw[zC]at this;exact(cO.1 this).2.1
  .obtain⟨p,hp,rfl⟩:=bz.1 ha;obtain⟨q,hq,rfl⟩:=bz.1 hb;exact CI p hp q hq
 .have key:∀p∈F',∀q∈G,fD m' p b->fD m' q b->False:=λp hp q hq CQ hqb=>by
   rw[M3 q hq]at hqb;have h3:=adH q hq b hqb
   rcases h.mn p hp b CQ with h'|⟨r,hr,hrb⟩
   .omega
   .exact h3.2 r hr hrb
  rcases bw.1 hp with hp|hp<;>rcases bw.1 hq with hq|hq
  .exact h.gy.nW p hp q hq b h1 h2
  .exact(key p hp q hq h1 h2).elim
  .exact(key q hq p hp h2 h1).elim
  .rw[M3 p hp]at h1;rw[M3 q hq]at h2;exact hs.nW p (bK _ hp) q (bK _ hq) b h1 h2
 .rw[zC,bw]at hk ⊢;exact hk.imp (h.keep k) id
 .rw[zC,bw,not_or]at hk;exact h.pT k hk.1
 .rcases bw.1 hp with hp|hp
  .exact(h.mn p hp b hb).imp id λ⟨q,hq,e⟩=>⟨q,bI _ hq,e⟩
  .exact .inr ⟨p,bK _ hp,by rw[<- M3 p hp];exact hb⟩
 .exact(h.mB a x ha).imp id (Or.imp id λ⟨q,hq,e⟩=>⟨q,bI _ hq,e⟩)
def Step.trans(h:Step m Z F w m' Z' F' w')(k:Step m' Z' F' w' m2 Z2 F2 w2):Step m Z F w m2 Z2 F2 w2:=by
 refine⟨k.gy,λ_ _ _ e=>k.mM _ _ _ (h.mM _ _ _ e),λ_ _ e=>k.lR _ _ (h.lR _ _ e),k.os.trans h.os,k.tape.trans h.tape,k.output.trans h.output,cR h.size k.size,λb hb hn=>?_,
  λa ha=>k.keep a (h.keep a ha),λa ha=>(k.pT a ha).trans (h.pT a λh'=>ha (k.keep a h')),λp hp b hb=>?_,λa x ha=>?_⟩
 .rw[k.frame b (by have:=h.size;omega) λp hp e=>?_,h.frame b hb hn]
  rcases h.mn p hp b e with h'|⟨q,hq,e'⟩
  .omega
  .exact hn q hq e'
 .rcases k.mn p hp b hb with h'|⟨q,hq,e'⟩
  .exact .inl (by have:=h.size;omega)
  .exact h.mn q hq b e'
 .rcases k.mB a x ha with h'|h'|⟨q,hq,e'⟩
  .exact h.mB a x h'
  .exact .inr (.inl (by have:=h.size;omega))
  .exact .inr (h.mn q hq _ e')
def Step.refl(h:wo m Z F w):Step m Z F w m Z F w:=⟨h,λ_ _ _ e=>e,λ_ _ e=>e,rfl,rfl,rfl,aq,λ_ _ _=>rfl,λ_ h=>h,λ_ _=>rfl,λp hp b hb=>.inr ⟨p,hp,hb⟩,λ_ _ h=>.inl h⟩
def Step.adS(h:Step m Z F w m' Z' F' w')(hp:F.Perm F2):Step m Z F2 w m' Z' F' w':=
  ⟨h.gy,h.mM,h.lR,h.os,h.tape,h.output,h.size,λb hb hn=>h.frame b hb λp hq=>hn p (hp.mem_iff.1 hq),λk hk=>h.keep k ((hp.map _).mem_iff.2 hk),h.pT,
   λp hq b hb=>(h.mn p hq b hb).imp id λ⟨q,hr,e⟩=>⟨q,hp.mem_iff.1 hr,e⟩,λa x ha=>(h.mB a x ha).imp id (Or.imp id λ⟨q,hr,e⟩=>⟨q,hp.mem_iff.1 hr,e⟩)⟩
def Step.MJ(h:Step m Z F w m' Z' F' w')(hp:F'.Perm F2):Step m Z F w m' Z' F2 w':=
  ⟨h.gy.perm hp,h.mM,h.lR,h.os,h.tape,h.output,h.size,h.frame,λk hk=>(hp.map _).mem_iff.1 (h.keep k hk),λk hk=>h.pT k λh'=>hk ((hp.map _).mem_iff.1 h'),
   λp hq=>h.mn p (hp.mem_iff.2 hq),h.mB⟩
def Step.same(h:wo m Z F w)(hh:w'.heap=w.heap)(h1:w'.os=w.os)(h2:w'.tape=w.tape)(h3:w'.output=w.output):Step m Z F w m Z F w':=by
 refine⟨⟨λa x ha=>?_,λp hp=>?_,h.nodup,h.nW⟩,λ_ _ _ e=>e,λ_ _ e=>e,h1,h2,h3,by rw[hh];exact du _,λ_ _ _=>by rw[hh],λ_ h=>h,λ_ _=>rfl,λp hp b hb=>.inr ⟨p,hp,hb⟩,λ_ _ h=>.inl h⟩
 .have:=h.frozen a x ha;simpa only[World.cell?,hh]using this
 .exact(h.holds p hp).keep (λ_ _ _ e=>e) rfl (λ_ _ e=>e) λb _=>⟨by rw[hh],λ_ _ e _=>e⟩
end
abbrev Env:=List (Nat×V)
def Env.get:Env->Nat->V
 |[],_=>.undef
 |(d,v)::r,t=>bif bk t d then v else Env.get r t
def pO(m:M)(Z:ZM)(ρ:Env)(ρr:yC):Prop:=∀t,aV (bc m) Z (ρ.get t) (ρr t)
structure Ctx(K0:List Nat) where
 base:List cg
 W0:bE
 m0:M
 aaI:ZM
 F0:ax
 hk:keys F0=K0
 PM:∀k,k ∉ K0->∀L,m0 k L=bh
structure QI{K0:List Nat}(c:Ctx K0)(m:M)(Z:ZM)(H:ax)(w:bE):Prop where
 step:Step c.m0 c.aaI c.F0 c.W0 m Z H w
 rn:∀k,k ∉ keys H->∀L,m k L=bh
def Kv{K0:List Nat}(c:Ctx K0)(ρ:Env)(H:ax)(ρr:yC)(w:bE):Prop:=∃m Z,QI c m Z H w/\pO m Z ρ ρr
def Step.lp{m m':M}{Z Z':ZM}{F F':ax}{w w':bE}(hs:wo m Z F w)(h:Step m Z F w m' Z' F' w'){b:Nat}{ob:Go.Obj}(hb:w.heap[b]?=bc ob)(hl:J8 ob=bg):w'.heap[b]?=bc ob:=by rw[h.frame b (ck.1 hb).1 λp hp e=>?_,hb];obtain⟨ob',h1,h2⟩:=(hs.holds p hp).adR b e;rw[hb]at h1;cases h1;rw[hl]at h2;cases h2
def xg{K0:List Nat}(c:Ctx K0)(ds:List cg)(w:bE):Prop:=∃Ds:List (Nat⊕cg),ds=Ds.map (Sum.elim iE.mark id)/\Ds.filterMap aa7=c.base/\(Ds.filterMap gg).Nodup/\(∀D∈Ds.filterMap gg,w.heap[D]?=bc (.deferred (bc []))/\c.W0.heap.size<=D)/\∀d∈c.base,∀D,d.target≠.collected D
def xg.nil{K0:List Nat}{c:Ctx K0}{w:bE}(hb:c.base=[]):xg c [] w:=⟨[],rfl,hb.symm,dG,λ_ h=>(by cases h),λd hd=>(by rw[hb]at hd;cases hd)⟩
def xg.marks{K0:List Nat}{c:Ctx K0}{ds:List cg}{w:bE}(h:xg c ds w)(hb:c.base=[]):∃Ds:List Nat,ds=Ds.map iE.mark/\Ds.Nodup/\∀D∈Ds,w.heap[D]?=bc (.deferred (bc []))/\c.W0.heap.size<=D:=by
 obtain⟨l,h1,h2,h3,h4,_⟩:=h;rw[hb]at h2;refine⟨l.filterMap gg,?_,h3,h4⟩;subst h1;clear h3 h4 hb
 induction l with
 |nil=>rfl
 |cons x l ih =>
  cases x with
  |inl D=>simp only[abm,aa7,gg,gf,Sum.elim_inl]at h2 ⊢;rw[ih h2]
  |inr d=>simp[abm]at h2
def xg.step{K0:List Nat}{c:Ctx K0}{ds:List cg}{m m':M}{Z Z':ZM}{F F':ax}{w w':bE}(h:xg c ds w)(hs:wo m Z F w)(st:Step m Z F w m' Z' F' w'):xg c ds w':=by obtain⟨Ds,h1,hb,h2,h3,h4⟩:=h;exact⟨Ds,h1,hb,h2,λD hD=>⟨st.lp hs (h3 D hD).1 rfl,(h3 D hD).2⟩,h4⟩
def xg.same{K0:List Nat}{c:Ctx K0}{ds:List cg}{w w':bE}(h:xg c ds w)(hh:w'.heap=w.heap):xg c ds w':=by obtain⟨Ds,h1,hb,h2,h3,h4⟩:=h;exact⟨Ds,h1,hb,h2,λD hD=>by rw[hh];exact h3 D hD,h4⟩
def QI.lps{K0:List Nat}{c:Ctx K0}{m:M}{Z:ZM}{H:ax}{w w':bE}{row:Option Nat}(S:QI c m Z H w)(hg:w.grownBy w' row)(hr:∀b,row=bc b->c.W0.heap.size<=b/\∃o,w.heap[b]?=bc o/\J8 o=bg):QI c m Z H w':=by
 have hs:=S.step
 have nL:∀p∈H,∀b,fD m p b->w'.heap[b]?=w.heap[b]?:=λp hp b hb=>by
  obtain⟨ob,h1,h2⟩:=(hs.gy.holds p hp).adR b hb
  refine hg.block b (ck.1 h1).1 λe=>?_
  obtain⟨_,o,h3,h4⟩:=hr b e.symm;rw[h1]at h3;cases h3;rw[h4]at h2;cases h2
 have hz:∀a x,Z a=bc x->w'.cell? a=w.cell? a:=λa x ha=>by
  have h1:=hs.gy.frozen a x ha;have h2:=World.block_lt_of_cell? w a h1
  have:w'.heap[a.block]?=w.heap[a.block]?:=by
   refine hg.block _ h2 λe=>?_
   obtain⟨_,o,h3,h4⟩:=hr _ e.symm;simp only[World.cell?,h3]at h1;cases o<;>simp[J8]at h4<;>cases h1
  simp only[World.cell?,this]
 refine⟨⟨⟨λa x ha=>(hz a x ha).trans (hs.gy.frozen a x ha),λp hp=>(hs.gy.holds p hp).keep (λ_ _ _ e=>e) rfl (λ_ _ e=>e) λb hb=>⟨nL p hp b hb,λ_ _ e _=>e⟩,hs.gy.nodup,hs.gy.nW⟩,hs.mM,hs.lR,hg.os.trans hs.os,hg.tape.trans hs.tape,hg.output.trans hs.output,cR hs.size hg.size,λb hb hn=>?_,hs.keep,hs.pT,hs.mn,hs.mB⟩,S.rn⟩;rw[hg.block b (eu hb hs.size) λe=>by have:=(hr b e.symm).1;omega];exact hs.frame b hb hn
abbrev xH:=Exit->Env->ax->List cg->Prop
def Dq{K0:List Nat}(c:Ctx K0)(Q:xH)(ds:List cg):ZN:=λe ρr iX w=>∃ρ H,Kv c ρ H ρr w/\xg c iX w/\Q e ρ H ds
def lK{K0:List Nat}(c:Ctx K0)(P:bm)(r:Option Nat)(N:Nat)(code:Code)(Q:xH)(ρ:Env)(H:ax)(ds:List cg):Prop:=∀ρr w iX,Kv c ρ H ρr w->xg c iX w->Wp P r N code (Dq c Q ds) ρr iX w
def Mi(K:Env->ax->List cg->Prop)(Q:xH):xH
 |.normal,ρ,H,ds=>K ρ H ds
 |e,ρ,H,ds=>Q e ρ H ds
def FX(id:Nat)(Q:xH):xH
 |.exit i,ρ,H,ds=>if i=id then Q .normal ρ H ds else Q (.exit i) ρ H ds
 |e,ρ,H,ds=>Q e ρ H ds
def pO.put{m:M}{Z:ZM}{ρ:Env}{ρr:yC}{v:V}{x:bu}(h:pO m Z ρ ρr)(d:Nat)(hv:aV (bc m) Z v x):pO m Z ((d,v)::ρ) (sM ρr d x):=by
 intro t
 show aV (bc m) Z (bif bk t d then v else ρ.get t) (bif bk t d then x else ρr t)
 cases bk t d with
 |true=>exact hv
 |false=>exact h t
def pO.up{m m':M}{Z Z':ZM}{ρ:Env}{ρr:yC}(h:pO m Z ρ ρr)(hZ:∀a x,Z a=bc x->Z' a=bc x)(hm:∀k L loc,m k L=bc loc->m' k L=bc loc):pO m' Z' ρ ρr:=λt=>(h t).up hZ λf e=>by cases e;exact⟨m',rfl,hm⟩
section
variable{K0:List Nat}{c:Ctx K0}{P:bm}{r:Option Nat}{N:Nat}{Q:xH}{ρ:Env}{H:ax}{ds:List cg}
def zT3(h:Q .normal ρ H ds):lK c P r N .skip Q ρ H ds:=λ_ _ _ S hM=>zLu ⟨ρ,H,S,hM,h⟩
def zT4{id:Nat}(h:Q (.exit id) ρ H ds):lK c P r N (.exit id) Q ρ H ds:=λ_ _ _ S hM=>zT0 ⟨ρ,H,S,hM,h⟩
def aku(h:Q .ret ρ H ds):lK c P r N .ret Q ρ H ds:=λ_ _ _ S hM=>akw ⟨ρ,H,S,hM,h⟩
def akv{x y:Code}(h:lK c P r N x (Mi (λρ H ds=>lK c P r N y Q ρ H ds) Q) ρ H ds):lK c P r N (.seq x y) Q ρ H ds:=
 λρr w iX S hM=>Gw (LU (h ρr w iX S hM) λe y2 lX w' ⟨ρ',H',S',lT,hQ⟩=>by
  cases e with
  |normal=>exact hQ y2 w' lX S' lT
  |exit id=>exact⟨ρ',H',S',lT,hQ⟩
  |goto l=>exact⟨ρ',H',S',lT,hQ⟩
  |ret=>exact⟨ρ',H',S',lT,hQ⟩
  |panic ch=>exact⟨ρ',H',S',lT,hQ⟩
  |outgrown=>exact⟨ρ',H',S',lT,hQ⟩)
def zOe{id:Nat}{x:Code}(h:lK c P r N x (FX id Q) ρ H ds):lK c P r N (.block id x) Q ρ H ds:=
 λρr w iX S hM=>zOb (LU (h ρr w iX S hM) λe y2 lX w' ⟨ρ',H',S',lT,hQ⟩=>by
  cases e with
  |exit i =>
   simp only[FX]at hQ;simp only[T'];split
   .rename_i he;rw[aP he]at hQ;exact⟨ρ',H',S',lT,hQ⟩
   .rename_i he;rw[aO he]at hQ;exact⟨ρ',H',S',lT,hQ⟩
  |normal=>exact⟨ρ',H',S',lT,hQ⟩
  |goto l=>exact⟨ρ',H',S',lT,hQ⟩
  |ret=>exact⟨ρ',H',S',lT,hQ⟩
  |panic ch=>exact⟨ρ',H',S',lT,hQ⟩
  |outgrown=>exact⟨ρ',H',S',lT,hQ⟩)
def zz2{K:Env->ax->List cg->Prop}(h:K ρ H ds):Mi K Q .normal ρ H ds:=h
def zz3{K:Env->ax->List cg->Prop}(h:Q .ret ρ H ds):Mi K Q .ret ρ H ds:=h
def zwy{id:Nat}{K:Env->ax->List cg->Prop}(h:Q (.exit id) ρ H ds):Mi K Q (.exit id) ρ H ds:=h
def zHb{id:Nat}(h:Q .normal ρ H ds):FX id Q .normal ρ H ds:=h
def zHc{id:Nat}(h:Q .ret ρ H ds):FX id Q .ret ρ H ds:=h
def zz4{id:Nat}(h:Q .normal ρ H ds):FX id Q (.exit id) ρ H ds:=by
 show(if id=id then Q .normal ρ H ds else Q (.exit id) ρ H ds)
 rw[aP rfl];exact h
def za6{id i:Nat}(g_:bk i id=bd)(h:Q (.exit i) ρ H ds):FX id Q (.exit i) ρ H ds:=by
 show(if i=id then Q .normal ρ H ds else Q (.exit i) ρ H ds)
 rw[aO (λe=>by subst e;rw[cF]at g_;cases g_)];exact h
end
def sd:bu->V
 |.int k n=>.int k n
 |.bool b=>.bool b
 |.string s=>.str s.data.toList
 |.pointer bh=>.kq
 |.slice bh 0 0=>.gR
 |.nilFunc=>.lZ
 |.map bh=>.k_
 |.nilIface=>.lJ
 |.func (.func f) a b=>if a.size=0/\b.size=0 then .fn f [] []else .undef
 |_=>.undef
def Eh:bu->V
 |.agg cs=>.agg (cs.toList.map sd)
 |v=>sd v
def a_(ρ:Env):bB->V
 |.tmp t=>ρ.get t
 |.const v=>Eh v
 |.global _=>.undef
 |.func f=>.fn f [] []
def ztd{m:Option M}{Z:ZM}(v:bu):aV m Z (sd v) v:=by
 unfold sd;split
 .rfl
 .rfl
 .show _=_;simp
 .rfl
 .rfl
 .rfl
 .rfl
 .rfl
 .split
  .rename_i h;exact⟨[],[],by rw[aaY h.1,aaY h.2],rfl,rfl⟩
  .trivial
 .trivial
def AS{m:Option M}{Z:ZM}:∀l:List bu,zG m Z (l.map sd) l
 |[]=>rfl
 |v::l=>⟨v,l,rfl,ztd v,AS l⟩
def zz5{m:Option M}{Z:ZM}(v:bu):aV m Z (Eh v) v:=by
 unfold Eh;split
 .exact⟨_,af,AS _⟩
 .exact ztd _
def pO.ev{m:M}{Z:ZM}{ρ:Env}{ρr:yC}(h:pO m Z ρ ρr)(x:bB):aV (bc m) Z (a_ ρ x) (ev ρr x):=by
 cases x with
 |tmp t=>exact h t
 |const v=>exact zz5 v
 |global g=>trivial
 |func f=>exact⟨[],[],rfl,rfl,rfl⟩
section
variable{K0:List Nat}{c:Ctx K0}{P:bm}{r:Option Nat}{N:Nat}{Q:xH}{ρ:Env}{H:ax}{ds:List cg}
def X_{x:bB}{a b:Code}(t:Bool)(hc:a_ ρ x=.bool t)(h1:t=bg->lK c P r N a Q ρ H ds)(h2:t=bd->lK c P r N b Q ρ H ds):lK c P r N (.cond x a b) Q ρ H ds:=
 λρr w iX S hM=>zLv t (by obtain⟨m,Z,_,hR⟩:=S;have:=hR.ev x;rw[hc]at this;exact this) (λe=>h1 e ρr w iX S hM) (λe=>h2 e ρr w iX S hM)
def zT5{G:Type}{x:Code}(env:G->Env)(hp:G->ax)(Inv:G->Prop)(pI:G->Nat)(g0:G)(hi:Inv g0)
  (MK:∀g,Inv g->lK c P r N x (Mi (λρ' H' lX=>lX=ds/\∃g',ρ'=env g'/\H'=hp g'/\Inv g'/\pI g'<pI g) Q) (env g) (hp g) ds):lK c P r N (.loop x) Q (env g0) (hp g0) ds:=by
 intro ρr w iX S hM a n hf
 let I:Act->bE->Nat->Prop:=λa w m=>∃g ρ' tu,pX N tu a ρ'/\Kv c (env g) (hp g) ρ' w/\xg c tu w/\Inv g/\pI g=m
 have hex:∀a w,(∃m,I a w m)->∃m,I a w m/\∀k,k<m->¬I a w k:=λa w ⟨m,hm⟩=>least _ m hm
 refine wpIn_loop (λa w=>∃m,I a w m) (λa w=>(Classical.epsilon λm=>I a w m/\∀k,k<m->¬I a w k)) ⟨_,g0,ρr,iX,hf,S,hM,hi,rfl⟩ ?_;intro a w hI;obtain⟨⟨g,ρ',tu,mb,hS,RD,hinv,hm⟩,BK⟩:=Classical.epsilon_spec (hex a w hI)
 refine wpIn_mono (MK g hinv ρ' w tu hS RD a n mb) λe a' w' hq=>?_
 obtain⟨ρ2,tu,tw,G7,Hv,S2,BS,hq⟩:=hq
 cases e with
 |normal =>
  obtain⟨_,g',rfl,rfl,aj5,fZ⟩:=hq
  have RC:I a' w' (pI g'):=⟨g',ρ2,tu,tw,S2,BS,aj5,rfl⟩
  refine⟨⟨_,RC⟩,?_⟩;obtain⟨_,aj_⟩:=Classical.epsilon_spec (hex a' w' ⟨_,RC⟩);refine Nat.lt_of_le_of_lt ?_ (hm▸fZ)
  exact Nat.le_of_not_lt λhl=>aj_ _ hl RC
 |exit id=>exact⟨ρ2,tu,tw,G7,Hv,S2,BS,hq⟩
 |goto l=>exact⟨ρ2,tu,tw,G7,Hv,S2,BS,hq⟩
 |ret=>exact⟨ρ2,tu,tw,G7,Hv,S2,BS,hq⟩
 |panic ch=>exact⟨ρ2,tu,tw,G7,Hv,S2,BS,hq⟩
 |outgrown=>exact⟨ρ2,tu,tw,G7,Hv,S2,BS,hq⟩
end
def ua(ks:List Nat)(H:ax):Option ax:=
 match ks with
 |[]=>bc []
 |k::r=>match H.get k,ua r H with
  |some o,bc l=>bc ((k,o)::l)
  |_,_=>bh
def Obj.refs:Obj->List Nat
 |.box _ cs=>wi cs
 |_=>[]
def nodupB:List Nat->Bool
 |[]=>bg
 |k::r=>!(r.contains k)&&nodupB r
def yj:∀{l:List Nat},nodupB l=bg->l.Nodup
 |[],_=>dG
 |k::r,h=>by simp only[nodupB,bn,bW,cy,aX]at h;exact cJ.2 ⟨h.1,yj h.2⟩
def ax.get_mem:∀{H:ax}{k:Nat}{o:Obj},H.get k=bc o->(k,o)∈H
 |[],_,_,h=>by cases h
 |(k',o')::r,k,o,h=>by
  simp only[ax.get]at h
  cases hb:bk k k' with
  |true =>
   rw[hb]at h;have:=eb hb;subst this;simp only[aH,Option.some.injEq]at h;subst h;exact al
  |false =>rw[hb]at h;exact gq _ (ax.get_mem h)
def xd:∀{ks:List Nat}{H H':ax},ua ks H=bc H'->keys H'=ks/\∀p∈H',p∈H
 |[],_,_,h=>by cases h;exact⟨rfl,λ_ h=>by cases h⟩
 |k::r,H,H',h=>by
  simp only[ua]at h;split at h
  .rename_i o l h1 h2;cases h;obtain⟨h3,h4⟩:=xd h2;refine⟨by simp[keys]at h3 ⊢;exact h3,λp hp=>?_⟩
   rcases bq.1 hp with rfl|hp
   .exact ax.get_mem h1
   .exact h4 p hp
  .cases h
def QI.cut{K0:List Nat}{c:Ctx K0}{m:M}{Z:ZM}{H H':ax}{w:bE}(ks:List Nat)(hH:ua ks H=bc H')(mF:nodupB ks=bg)(hK:K0.all ks.contains=bg)(afw:(H'.all λp=>p.2.refs.all ks.contains)=bg)(S:QI c m Z H w):
  ∃m',QI c m' Z H' w/\∀v x,v.refs.all ks.contains=bg->aV (bc m) Z v x->aV (bc m') Z v x:=by
 obtain⟨lH,nZ⟩:=xd hH
 let m':M:=λk L=>if k∈ks then m k L else bh
 have hin:∀k∈ks,m' k=m k:=λk hk=>by funext L;simp[m',hk]
 have hb:∀p∈H',fD m' p=fD m p:=λp iT=>zlh (hin p.1 (lH▸ay iT))
 have hs:=S.step;refine⟨m',⟨⟨⟨hs.gy.frozen,λp iT=>?_,by rw[lH];exact yj mF,λp iT q hq b h1 h2=>hs.gy.nW p (nZ p iT) q (nZ q hq) b (hb p iT▸h1) (hb q hq▸h2)⟩,?_,hs.lR,hs.os,hs.tape,hs.output,hs.size,hs.frame,?_,?_,?_,hs.mB⟩,?_⟩,?_⟩
 .have hh:=hs.gy.holds p (nZ p iT);have gV:p.1∈ks:=lH▸ay iT;obtain⟨k,o⟩:=p
  cases o with
  |box t cs =>
   obtain⟨b,cur,h1,h2,h3,h4,h5⟩:=hh;refine⟨b,cur,by rw[hin k gV];exact h1,h2,h3.swap λj hj L loc e=>?_,h4,by rw[hin k gV];exact h5⟩;have:=(bj.1 afw) _ iT;have:=(bj.1 this) j hj;rw[hin j (by simpa using this)];exact e
  |row t sz fz els =>
   rcases hh with⟨h1,h2,h3,⟨b,h4⟩,h5⟩|⟨b,cap,cur,fr,h1,h2⟩
   .exact .inl ⟨h1,h2,h3,⟨b,by rw[hin k gV];exact h4⟩,by rw[hin k gV];exact h5⟩
   .exact .inr ⟨b,cap,cur,fr,by rw[hin k gV];exact h1,by rw[hin k gV];exact h2⟩
  |map l =>
   obtain⟨b,es,clock,h1,h2⟩:=hh;exact⟨b,es,clock,by rw[hin k gV];exact h1,by rw[hin k gV];exact h2⟩
  |kg g t cs=>exact⟨by rw[hin k gV];exact hh.1,hh.2.1,by rw[hin k gV];exact hh.2.2⟩
  |nest t e sz pd ls =>
   show q9 (m' k) _ _ t e sz pd ls
   rw[hin k gV];exact hh
  |gen G =>
   show G.holds (m' k) _ _
   rw[hin k gV];exact hh
 .intro k L loc e;by_cases hk:k∈K0
  .have:=(bj.1 hK) k hk;rw[hin k (by simpa using this)];exact hs.mM k L loc e
  .rw[c.PM k hk]at e;cases e
 .intro k hk;rw[lH];have:=(bj.1 hK) k (c.hk▸hk);simpa using this
 .intro k hk;rw[lH]at hk
  funext L
  rw[c.PM k (λh=>hk (by have:=(bj.1 hK) k h;simpa using this))];simp[m',hk]
 .intro p iT b RH;exact hs.mn p (nZ p iT) b (hb p iT▸RH)
 .intro k hk L;rw[lH]at hk;simp[m',hk]
 .intro v x hr h
  exact h.swap λj hj L loc e=>by have:=(bj.1 hr) j hj;rw[hin j (by simpa using this)];exact e
def Ep(P:bm)(o:Oper)(ρr:yC)(w:bE)(R:bu->bE->Prop):Prop:=
 jV o.op=bg/\((∃x w',(ca (ev ρr) o).run P w=.ok (.value x) w'/\R x w')∨(∃w',(ca (ev ρr) o).run P w=.ok .skip w'/\R Go.undef w') ∨
  ∃f args w1,(ca (ev ρr) o).run P w=.ok (.enter f args) w1/\Calls P f args w1 λen w'=>∃x,en=.returned x/\R x w')
def Ep.mono{P:bm}{o:Oper}{ρr:yC}{w:bE}{R R':bu->bE->Prop}(h:Ep P o ρr w R)(hm:∀x w',R x w'->R' x w'):Ep P o ρr w R':=by
 refine⟨h.1,?_⟩
 rcases h.2 with⟨x,w',h1,h2⟩|⟨w',h1,h2⟩|⟨f,args,w1,h1,h2⟩
 .exact .inl ⟨x,w',h1,hm _ _ h2⟩
 .exact .inr (.inl ⟨w',h1,hm _ _ h2⟩)
 .exact .inr (.inr ⟨f,args,w1,h1,Calls.mono h2 λ_ _ ⟨x,e,hr⟩=>⟨x,e,hm _ _ hr⟩⟩)
def Loc(P:bm)(o:Oper)(ρ:Env)(F:ax)(v:V)(F':ax):Prop:=
 ∀ρr m Z w,(∀x∈o.op.operands,aV (bc m) Z (a_ ρ x) (ev ρr x))->wo m Z F w->(∀k∈keys F',k ∉ keys F->∀L,m k L=bh) ->
  Ep P o ρr w λx w'=>∃m' Z',Step m Z F w m' Z' F' w'/\aV (bc m') Z' v x
def yR(all:List Oper)(ρ:Env)(o:Oper):Option Bool:=
 match o.guard with
 |none=>bc bg
 |some (j,want)=>match (all[j]?).bind (·.dst)with
  |some d=>match ρ.get d with
   |.bool b=>bc (b==want)
   |.no=>bc bd
   |_=>bh
  |none=>bh
def vn{all:List Oper}{ρ:Env}{ρr:yC}{m:M}{Z:ZM}{o:Oper}{t:Bool}(hR:pO m Z ρ ρr)(h:yR all ρ o=bc t):wanted all ρr o=t:=by
 unfold yR at h;unfold wanted
 cases hg:o.guard with
 |none=>rw[hg]at h;simpa using h
 |some p =>
  obtain⟨j,want⟩:=p;rw[hg]at h;simp only[gv]at h ⊢
  cases hd:(all[j]?).bind (·.dst)with
  |none=>rw[hd]at h;cases h
  |some d =>
   rw[hd]at h;simp only at h ⊢;have hr:=hR d;split at h
   .rename_i b hb;rw[hb]at hr;simp only[aV]at hr;rw[hr];simp only[Option.some.injEq]at h;subst h;cases b<;>cases want<;>rfl
   .rename_i hb;rw[hb]at hr;simp only[aV]at hr;rw[hr];simp only[Option.some.injEq]at h;subst h;rfl
   .cases h
def Zn{K0:List Nat}(c:Ctx K0)(P:bm)(r:Option Nat)(N:Nat)(all:List Oper)(Q:xH)(l:List Oper)(ρ:Env)(H:ax)(ds:List cg):Prop:=∀ρr w iX,Kv c ρ H ρr w->xg c iX w->sU P r N all (Dq c Q ds) l ρr iX w
def qw(ks:List Nat)(H:ax):ax:=H.filter λp=>!ks.contains p.1
def wj{α β:Type}(f:α->β):∀{l:List α},(l.map f).Nodup->l.Nodup
 |[],_=>dG
 |a::l,h=>by rw[gf,cJ]at h;exact cJ.2 ⟨λha=>h.1 (cm ha),wj f h.2⟩
def vF:∀{ks:List Nat}{H F:ax},(keys H).Nodup->ks.Nodup->ua ks H=bc F->H.Perm (F++qw ks H):=by
 intro ks H F hH lH hF
 have h1:∀p,p∈H↔p∈F++qw ks H:=by
  obtain⟨h2,h3⟩:=xd hF;intro p;rw[bw];constructor
  .intro hp;by_cases hk:p.1∈ks
   .left;rw[<- h2]at hk;obtain⟨q,hq,e⟩:=bz.1 hk;have hqH:=h3 q hq
    have:q=p:=by
     have y3:∀(l:ax),(keys l).Nodup->∀p∈l,∀q∈l,q.1=p.1->q=p:=by
      intro l hl
      induction l with
      |nil=>intro p hp;cases hp
      |cons a l ih =>
       simp only[keys,gf,cJ]at hl;intro p hp q hq e
       rcases bq.1 hp with h1|h1<;>rcases bq.1 hq with h2|h2
       .rw[h1,h2]
       .exact(hl.1 (bz.2 ⟨q,h2,by rw[e,h1]⟩)).elim
       .exact(hl.1 (bz.2 ⟨p,h1,by rw[<- e,h2]⟩)).elim
       .exact ih hl.2 p h1 q h2 e
     exact y3 H hH p hp q hqH e
    exact this▸hq
   .right;simp only[qw,dT,bW,cy,aX];exact⟨hp,hk⟩
  .rintro(hp|hp)
   .exact h3 p hp
   .exact(dT.1 hp).1
 have hn:H.Nodup:=wj _ hH
 have sH:(F++qw ks H).Nodup:=by obtain⟨h2,h3⟩:=xd hF;refine cO.2 ⟨wj _ (by show(keys F).Nodup;rw[h2];exact lH),hn.filter _,λa ha b hb e=>?_⟩;subst e;have:=(dT.1 hb).2;simp only[bW,cy,aX]at this;exact this (h2▸ay ha)
 exact(abi hn sH).2 h1
def JE(F':ax)(ks:List Nat)(H:ax):Bool:=F'.all λp=>ks.contains p.1||!((keys H).contains p.1)
section
variable{K0:List Nat}{c:Ctx K0}{P:bm}{r:Option Nat}{N:Nat}{Q:xH}{ρ:Env}{H:ax}{ds:List cg}{all rest:List Oper}{o:Oper}
def QI.P7{m m':M}{Z Z':ZM}{F F':ax}{w w':bE}{ks:List Nat}(S:QI c m Z H w)(lH:nodupB ks=bg)(hF:ua ks H=bc F)(iO:JE F' ks H=bg)
  (h:wo m Z F w->(∀k∈keys F',k ∉ keys F->∀L,m k L=bh)->Step m Z F w m' Z' F' w'):QI c m' Z' (F'++qw ks H) w':=by
 have hp:=vF S.step.gy.nodup (yj lH) hF;obtain⟨h2,h3⟩:=xd hF;have hs:wo m Z (F++qw ks H) w:=S.step.gy.perm hp
 have lh:∀k∈keys F',k ∉ keys F->k ∉ keys H:=by
  intro k hk nO;obtain⟨p,iT,rfl⟩:=bz.1 hk;have:=(bj.1 iO) p iT;simp only[dc,cy,aW,bW,aX]at this
  rcases this with this|this
  .exact aU (h2▸this) nO
  .exact this
 have fS:=h hs.left (λk hk nO=>S.rn k (lh k hk nO))
 have CI:∀p∈F',∀q∈qw ks H,p.1≠q.1:=by
  intro p iT q hq e;have hq1:=dT.1 hq;by_cases Iy:p.1∈keys F
  .have:=hq1.2;simp only[bW,cy,aX]at this;exact this (by rw[<- e,<- h2];exact Iy)
  .exact lh p.1 (ay iT) Iy (by rw[e];exact ay hq1.1)
 have iO:=Step.sv hs fS CI;refine⟨(S.step.MJ hp).trans iO,λk hk L=>?_⟩;rw[iO.pT k hk];exact S.rn k (λme=>hk (iO.keep k ((hp.map _).mem_iff.1 me))) L
def zT6(h:Q .normal ρ H ds):Zn c P r N all Q [] ρ H ds:=λ_ _ _ S hM=>zOc ⟨ρ,H,S,hM,h⟩
def zOg(d:Nat)(hd:o.dst=bc d)(hN:cw (d+1) N=bg)(hw:yR all ρ o=bc bd)(h:Zn c P r N all Q rest ((d,.no)::ρ) H ds):Zn c P r N all Q (o::rest) ρ H ds:=by rintro ρr w iX ⟨m,Z,S,hR⟩ hM;exact zG9 d hd hN (vn hR hw) (h _ _ _ ⟨m,Z,S,hR.put d rfl⟩ hM)
def zHd(hd:o.dst=bh)(hw:yR all ρ o=bc bd)(h:Zn c P r N all Q rest ρ H ds):Zn c P r N all Q (o::rest) ρ H ds:=by rintro ρr w iX ⟨m,Z,S,hR⟩ hM;exact zzu hd (vn hR hw) (h _ _ _ ⟨m,Z,S,hR⟩ hM)
def zT7{F F':ax}{v:V}(d:Nat)(ks:List Nat)(hd:o.dst=bc d)(hN:cw (d+1) N=bg)(hw:yR all ρ o=bc bg)(lH:nodupB ks=bg)(hF:ua ks H=bc F)(hl:Loc P o ρ F v F')(iO:JE F' ks H=bg)
  (h:Zn c P r N all Q rest ((d,v)::ρ) (F'++qw ks H) ds):Zn c P r N all Q (o::rest) ρ H ds:=by
 rintro ρr w iX ⟨m,Z,S,hR⟩ hM a n hf;have hp:=vF S.step.gy.nodup (yj lH) hF;have hs:wo m Z (F++qw ks H) w:=S.step.gy.perm hp;obtain⟨h2,h3⟩:=xd hF
 obtain⟨hn,hex⟩:=hl ρr m Z w (λx _=>hR.ev x) hs.left (λk hk nO=>S.rn k (by
  obtain⟨p,iT,rfl⟩:=bz.1 hk;have:=(bj.1 iO) p iT;simp only[dc,cy,aW,bW,aX]at this
  rcases this with this|this
  .exact aU (h2▸this) nO
  .exact this))
 have go:∀x w',(∃m' Z',Step m Z F w m' Z' F' w'/\aV (bc m') Z' v x)->sU P r N all (Dq c Q ds) rest (sM ρr d x) iX w':=λx w' ⟨m',Z',fS,hr⟩ =>h _ _ _ ⟨m',Z',S.P7 lH hF iO (λ_ _=>fS),(hR.up fS.lR fS.mM).put d hr⟩ (hM.step hs.left fS)
 rcases hex with⟨x,w',iV,hx⟩|⟨w',iV,hx⟩|⟨f,args,w1,iV,hx⟩
 .exact zzv d x hd hN (vn hR hw) hn iV (go x w' hx) a n hf
 .have ng:=(hf.wanted all _).trans (vn hR hw);simp only[wpListIn,ng,if_true];refine⟨λ_ _=>trivial,?_⟩;rw[oZ hn,hf.eval,iV,Oper.uponIn_skip,hd];exact go _ w' hx _ n (hf.put (lb hN) _)
 .exact zzw d hd hN (vn hR hw) hn iV hx (λe rF ⟨x,he,hr⟩=>⟨x,he,go x rF hr⟩) a n hf
def zOh{F F':ax}{v:V}(ks:List Nat)(hd:o.dst=bh)(hw:yR all ρ o=bc bg)(lH:nodupB ks=bg)(hF:ua ks H=bc F)(hl:Loc P o ρ F v F')(iO:JE F' ks H=bg)
  (h:Zn c P r N all Q rest ρ (F'++qw ks H) ds):Zn c P r N all Q (o::rest) ρ H ds:=by
 rintro ρr w iX ⟨m,Z,S,hR⟩ hM a n hf;have hp:=vF S.step.gy.nodup (yj lH) hF;have hs:wo m Z (F++qw ks H) w:=S.step.gy.perm hp;obtain⟨h2,h3⟩:=xd hF
 obtain⟨hn,hex⟩:=hl ρr m Z w (λx _=>hR.ev x) hs.left (λk hk nO=>S.rn k (by
  obtain⟨p,iT,rfl⟩:=bz.1 hk;have:=(bj.1 iO) p iT;simp only[dc,cy,aW,bW,aX]at this
  rcases this with this|this
  .exact aU (h2▸this) nO
  .exact this))
 have go:∀x w',(∃m' Z',Step m Z F w m' Z' F' w'/\aV (bc m') Z' v x)->sU P r N all (Dq c Q ds) rest ρr iX w':=λx w' ⟨m',Z',fS,hr⟩ =>h _ _ _ ⟨m',Z',S.P7 lH hF iO (λ_ _=>fS),hR.up fS.lR fS.mM⟩ (hM.step hs.left fS)
 have ng:=(hf.wanted all _).trans (vn hR hw);simp only[wpListIn,ng,if_true];refine⟨λ_ _=>trivial,?_⟩;rw[oZ hn,hf.eval]
 rcases hex with⟨x,w',iV,hx⟩|⟨w',iV,hx⟩|⟨f,args,w1,iV,hx⟩
 .rw[iV,Oper.uponIn_value,hd];exact go x w' hx _ n (hf.MN _)
 .rw[iV,Oper.uponIn_skip,hd];exact go _ w' hx _ n (hf.MN _)
 .rw[iV,Oper.uponIn_enter];refine⟨λhx=>by simp[Fw]at hx,(AR r hx).mono λe rF ⟨x,he,hr⟩=>?_⟩;subst he;rw[hd];exact go x rF hr _ n (hf.MN _)
def zHe{id:Nat}{l:List Oper}(h:Zn c P r N l Q l ρ H ds):lK c P r N (.region id l.toArray bd) Q ρ H ds:=λρr w iX S hM=>ztb (h ρr w iX S hM)
end
end Go.EV
namespace Go.iE
open Go Go.RowKit
def sub(k:Nat)(v:bu)(lo hi:Nat):bu:=
 match v with
 |.slice A _ c=>.slice (if c=lo then A else A.map (·.add (lo*k))) (hi-lo) (c-lo)
 |v=>v
section
variable{P:bm}{ρ:yC}{w W:bE}{dst:Option Tmp}{ty:bA}{pos:String}{aft:Array Edge}{gd:Option (Nat×Bool)}{α:Type}{enc:α->List bu}{k:Nat}{v:bu}{l:List α}
end
inductive Tag where
 |int (k:IntKind)
 |bool
 |str
 deriving DecidableEq
def EO:TypeDesc->Option Tag|.int k=>bc (.int k)|.bool=>bc .bool|.string=>bc .str|_=>bh
def Gx:Tag->bu->Bool|.int k,.int k' _=>decide (k=k')|.bool,.bool _=>bg|.str,.string _=>bg|_,_=>bd
def Fq:bu->bu->Bool|.int _ a,.int _ b=>decide (a=b)|.bool a,.bool b=>a==b|.string a,.string b=>decide (a.data.toList=b.data.toList)|_,_=>bd
def Cc:List bu->List bu->Bool|[],[]=>bg|a::l,b::m=>Fq a b&&Cc l m|_,_=>bd
def Qo:List Tag->List bu->Bool|[],[]=>bg|k::ks,v::vs=>Gx k v&&Qo ks vs|_,_=>bd
def Ls(P:bm):List Field->Nat->List Tag->Bool
 |[],_,[]=>bg
 | f :: fs, i, k :: ks => !(f.name == "_") && (bk f.offset i && ((match P.underlying f.type with | some d => decide (EO d = bc k) | none => bd) && Ls P fs (i + 1) ks))
 |_,_,_=>bd
def NQ(P:bm)(t:bA)(ks:List Tag):Prop:=P.underlying t=bc (.struct (P.fieldsOf t))/\P.stoodInHeld t=bd/\P.eqGuardType P.depth t=bd/\Ls P (P.fieldsOf t).toList 0 ks=bg
def Vn(P:bm)(t:bA)(ks:List Tag):Bool:=(match P.underlying t with|some (.struct _)=>bg|_=>bd)&&((!P.stoodInHeld t)&&((!P.eqGuardType P.depth t)&&Ls P (P.fieldsOf t).toList 0 ks))
def zOi{P:bm}{t:bA}{ks:List Tag}(h:Vn P t ks=bg):NQ P t ks:=by
 simp only[Vn,bn,bW]at h;obtain⟨h1,h2,h3,h4⟩:=h;refine⟨?_,h2,h3,h4⟩;split at h1
 .rename_i fs hf;simp[Program.fieldsOf,hf]
 .cases h1
section
variable{P:bm}{ρ:yC}{w:bE}{dst:Option Tmp}{ty:bA}{pos:String}{aft:Array Edge}{gd:Option (Nat×Bool)}
def za8{d:Nat}{t:Nat}{k:Tag}{a b:bu}{desc:TypeDesc}(hu:P.underlying t=bc desc)(ht:EO desc=bc k)(ha:Gx k a=bg)(hb:Gx k b=bg):(Op.equalIn (d+1) t a b).run P w=.ok (Fq a b) w:=by
 cases desc<;>simp only[EO,Option.some.injEq,reduceCtorEq]at ht<;>subst ht<;>(cases a<;>simp only[Gx,cr]at ha<;>cases b<;>simp only[Gx,cr]at hb)
 .rw[run_equalIn_bool' w d t _ _ hu];rfl
 .have ha:=aY ha;have hb:=aY hb;subst ha;subst hb;rw[run_equalIn_int w d t _ _ _ _ hu];rfl
 .rw[run_equalIn_string w d t _ _ hu];simp only[Fq,ByteArray.toList_eq];congr 1;rw[eN];simp
def zte{t:Nat}{k:Tag}{desc:TypeDesc}(hu:P.underlying t=bc desc)(ht:EO desc=bc k):(isAgg t).run P w=.ok bd w:=by unfold isAgg;cases desc<;>simp only[EO,reduceCtorEq]at ht<;>simp[run_underlying hu]
def aaC{d:Nat}{xs ys:List bu}:∀(fs:List Field)(i:Nat)(ks:List Tag),Ls P fs i ks=bg->Qo ks (xs.drop i)=bg->Qo ks (ys.drop i)=bg ->
  (Op.eqFields (d+1) xs.toArray ys.toArray fs).run P w=.ok (Cc (xs.drop i) (ys.drop i)) w:=by
 intro fs
 induction fs with
 |nil =>
  intro i ks h hx hy
  cases ks with
  |cons k ks=>cases h
  |nil =>
   cases B7:xs.drop i with
   |cons a l=>rw[B7]at hx;cases hx
   |nil =>
    cases A_:ys.drop i with
    |cons a l=>rw[A_]at hy;cases hy
    |nil=>simp[Op.eqFields,Cc]
 |cons f fs ih =>
  intro i ks h hx hy
  cases ks with
  |nil=>cases h
  |cons k ks =>
   simp only[Ls,bn]at h;obtain⟨h1,h2,h3,h4⟩:=h;have h2:=eb h2
   have h1 : f.name ≠ "_" := by simpa using h1
   cases B7:xs.drop i with
   |nil=>rw[B7]at hx;cases hx
   |cons a l =>
    cases A_:ys.drop i with
    |nil=>rw[A_]at hy;cases hy
    |cons b m =>
     rw[B7]at hx;rw[A_]at hy;simp only[Qo,bn]at hx hy
     have ex:xs.drop (i+1)=l:=by rw[<- dz,B7];rfl
     have ey:ys.drop (i+1)=m:=by rw[<- dz,A_];rfl
     have afu:xs[i]?=bc a:=by have:=aQ (·[0]?) B7;simpa using this
     have afv:ys[i]?=bc b:=by have:=aQ (·[0]?) A_;simpa using this
     cases hu:P.underlying f.type with
     |none=>rw[hu]at h3;cases h3
     |some desc =>
      rw[hu]at h3
      have h3:EO desc=bc k:=by simpa using h3
      have ih:=ih (i+1) ks h4 (by rw[ex];exact hx.2) (by rw[ey];exact hy.2);rw[ex,ey]at ih
      have px:(part f.type xs.toArray f.offset).run P w=.ok a w:=by simp[part,zte hu h3,h2,afu]
      have py:(part f.type ys.toArray f.offset).run P w=.ok b w:=by simp[part,zte hu h3,h2,afv]
      rw[Op.eqFields,aP h1];simp only[Sem.run_bind,px,py,Result.andThen_ok,za8 hu h3 hx.1 hy.1,Cc];cases Fq a b
      .simp
      .simp[ih]
def zOj{t t':bA}{ks:List Tag}{a b:List bu}{x y:bB}(res:Bool)(hF:NQ P t ks)(ha:ev ρ x=.agg a.toArray)(hb:ev ρ y=.agg b.toArray)(Iv:Qo ks a=bg)(mE:Qo ks b=bg)(hr:Cc a b=res):
  (ca (ev ρ) ⟨dst,.binOp .eql t x y t',ty,pos,aft,gd⟩).run P w=.ok (.value (.bool res)) w:=by obtain⟨h1,h2,h3,h4⟩:=hF;have h:=aaC (P:=P) (w:=w) (d:=9998) (xs:=a) (ys:=b) _ 0 ks h4 (by simpa using Iv) (by simpa using mE);simp only[ef]at h;simp[ca,ha,hb,run_eqGuard_agg w _ t x y _ _ h3,run_eql_struct,run_equalIn_agg w 9999 t _ _ h1 h2,h,hr]
def zOk{t t':bA}{ks:List Tag}{a b:List bu}{x y:bB}(res:Bool)(hF:NQ P t ks)(ha:ev ρ x=.agg a.toArray)(hb:ev ρ y=.agg b.toArray)(Iv:Qo ks a=bg)(mE:Qo ks b=bg)(hr:Cc a b=res):
  (ca (ev ρ) ⟨dst,.binOp .neq t x y t',ty,pos,aft,gd⟩).run P w=.ok (.value (.bool (!res))) w:=by obtain⟨h1,h2,h3,h4⟩:=hF;have h:=aaC (P:=P) (w:=w) (d:=9998) (xs:=a) (ys:=b) _ 0 ks h4 (by simpa using Iv) (by simpa using mE);simp only[ef]at h;simp[ca,ha,hb,run_eqGuard_agg w _ t x y _ _ h3,run_neq_struct,run_equalIn_agg w 9999 t _ _ h1 h2,h,hr]
def zw0{t:bA}{parts:List (Nat×bB)}(ps:List (Nat×bu))(cs:List bu)(hp:parts.map (λp=>(p.1,ev ρ p.2))=ps)(h:P.built t ps=bc cs.toArray):
  (ca (ev ρ) ⟨dst,.build t parts.toArray,ty,pos,aft,gd⟩).run P w=.ok (.value (.agg cs.toArray)) w:=by
 have e:(parts.toArray.map λx=>(x.1,ev ρ x.2))=ps.toArray:=by rw[<- hp];simp
 simp only[ca,e];simp[run_build w t ps.toArray cs.toArray (by simpa using h)]
end
section
variable{P:bm}{r:Option Nat}{N:Nat}{Q:ZN}{ρ:yC}{ds:List cg}{w W0:bE}{L:List Own}
variable{all rest:List Oper}{ty:bA}{pos:String}{aft:Array Edge}{gd:Option (Nat×Bool)}
end
end Go.iE
namespace Go.EV
open Go Go.RowKit Go.iE
def aiA(P:bm)(t:bA):Option Tag:=match P.underlying t with|some d=>EO d|none=>bh
def ztf(P:bm)(t:bA):Option (List Tag):=
 match (P.fieldsOf t).toList.mapM (λf=>aiA P f.type)with
 |some ks=>if Vn P t ks then bc ks else bh
 |none=>bh
def EH:Tag->V->Bool|.int k,.int k' _=>decide (k=k')|.bool,.bool _=>bg|.str,.str _=>bg|_,_=>bd
def Az:List Tag->List V->Bool|[],[]=>bg|k::ks,v::vs=>EH k v&&Az ks vs|_,_=>bd
def Oe:V->V->Bool|.int _ a,.int _ b=>decide (a=b)|.bool a,.bool b=>a==b|.str a,.str b=>decide (a=b)|_,_=>bd
def Mj:List V->List V->Bool|[],[]=>bg|[a],[b]=>Oe a b|a::l,b::m=>Oe a b&&Mj l m|_,_=>bd
def zT8(op:BinOp)(k:IntKind)(a b:Int):Option V:=
 match op with
 |.and=>bc (.int k (k.wrap (cM k.bits a &&& cM k.bits b).toNat))
 | .or=>bc (.int k (k.wrap (cM k.bits a ||| cM k.bits b).toNat))
 |.xor=>bc (.int k (k.wrap (cM k.bits a ^^^ cM k.bits b).toNat))
 |.andNot=>bc (.int k (k.wrap (cM k.bits a &&& ~~~cM k.bits b).toNat))
 |_=>bh
def J9(op:BinOp)(k:IntKind)(a b:Int):Option V:=
 match op with
 |.lss=>bc (.bool (decide (a<b)))
 |.leq=>bc (.bool (decide (a<=b)))
 |.gtr=>bc (.bool (decide (a>b)))
 |.geq=>bc (.bool (decide (a>=b)))
 |.eql=>bc (.bool (decide (a=b)))
 |.neq=>bc (.bool (!decide (a=b)))
 |.add=>bc (.int k (k.wrap (a+b)))
 |.sub=>bc (.int k (k.wrap (a-b)))
 |.mul=>bc (.int k (k.wrap (a*b)))
 |.quo=>if b=0 then bh else bc (.int k (k.wrap (a.tdiv b)))
 |.rem=>if b=0 then bh else bc (.int k (a.tmod b))
 |op=>zT8 op k a b
def Gi(op:BinOp)(k:IntKind)(a b:Int):Option V:=
 if b<0 then bh else
 match op with
 |.shl=>bc (.int k (k.wrap (a*2 ^ (min b.toNat k.bits))))
 |.shr=>bc (.int k (a.fdiv (2 ^ (min b.toNat k.bits))))
 |_=>bh
def ZB(op:BinOp)(a b:ak):Option V:=
 match op with
 |.eql=>bc (.bool (decide (a=b)))
 |.neq=>bc (.bool (!decide (a=b)))
 |.lss=>bc (.bool (Op.bytesLess a b))
 | .leq=>bc (.bool (Op.bytesLess a b||decide (a=b)))
 | .gtr=>bc (.bool (!(Op.bytesLess a b||decide (a=b))))
 |.geq=>bc (.bool (!Op.bytesLess a b))
 |_=>bh
def Cd:V->Option Bool
 |.kq|.gR|.lZ|.k_=>bc bg
 |.ptr ..|.vp ..|.fn ..|.mp _=>bc bd
 |.sl _ _ (_+1) _ (_+1)=>bc bd
 |.vs _ (_::_)=>bc bd
 |_=>bh
def w8(P:bm)(t:bA):V->Bool
 |.kq=>match P.underlying t with|some (.pointer _)=>bg|_=>bd
 |.gR=>match P.underlying t with|some (.slice _)=>bg|_=>bd
 |.lZ=>match P.underlying t with|some (.func ..)=>bg|_=>bd
 |.k_=>match P.underlying t with|some (.map ..)=>bg|_=>bd
 |_=>bd
def Gj:V->V->Bool
 |.kq,.kq|.ptr ..,.kq|.vp ..,.kq=>bg
 |.gR,.gR|.sl ..,.gR|.vs ..,.gR=>bg
 |.lZ,.lZ|.fn ..,.lZ=>bg
 |.k_,.k_|.mp _,.k_=>bg
 |_,_=>bd
def Zo(P:bm)(t:bA)(x y:V):Option Bool:=if w8 P t y&&Gj x y then Cd x else bh
def zUa(P:bm)(t:bA):Bool:=match P.underlying t with|some .bool=>bg|_=>bd
def Of(P:bm)(t:bA)(x y:V):Option Bool:=
 match x,y with
 |.bool a,.bool b=>if zUa P t then bc (a==b)else bh
 |.agg a,.agg b=>match ztf P t with
  |some ks=>if Az ks a&&Az ks b then bc (Mj a b)else bh
  |none=>bh
 |_,_=>bh
def LW(P:bm)(op:BinOp)(t:bA)(x y:V):Option V:=
 match x,y with
 |.int k a,.int k' b=>match op with
  |.shl|.shr=>Gi op k a b
  |_=>if k=k' then J9 op k a b else bh
 |.str a,.str b=>ZB op a b
 |x,y=>match op with
  |.eql=>(Of P t x y).map .bool
  |.neq=>(Of P t x y).map λb=>.bool (!b)
  |_=>bh
section
variable{P:bm}{ρr:yC}{w:bE}{dst:Option Tmp}{ty:bA}{pos:String}{aft:Array Edge}{gd:Option (Nat×Bool)}{m:Option M}{Z:ZM}
def Vp{op:BinOp}{t t':bA}{x y:bB}{k:IntKind}{a b:Int}{v:V}(hx:ev ρr x=.int k a)(hy:ev ρr y=.int k b)(hs:op≠.shl/\op≠.shr)(h:J9 op k a b=bc v):
  ∃u,(ca (ev ρr) ⟨dst,.binOp op t x y t',ty,pos,aft,gd⟩).run P w=.ok (.value u) w/\aV m Z v u:=by
 cases op<;>simp only[J9,zT8,Option.some.injEq,reduceCtorEq]at h
 case quo =>
  split at h
  .cases h
  .rename_i hb;simp only[Option.some.injEq]at h;subst h;exact⟨_,by simp[ca,hx,hy,eqGuard,binOp,Op.intDiv,hb],rfl⟩
 case rem =>
  split at h
  .cases h
  .rename_i hb;simp only[Option.some.injEq]at h;subst h;exact⟨_,by simp[ca,hx,hy,eqGuard,binOp,Op.intDiv,hb],rfl⟩
 all_goals
  subst h;exact⟨_,by simp[ca,hx,hy,eqGuard,binOp,Op.intCmp,Op.intArith,Op.intBits];first|rfl|done,rfl⟩
def Wx{op:BinOp}{t t':bA}{x y:bB}{k k':IntKind}{a b:Int}{v:V}(hx:ev ρr x=.int k a)(hy:ev ρr y=.int k' b)(hs:op=.shl∨op=.shr)(h:Gi op k a b=bc v):
  ∃u,(ca (ev ρr) ⟨dst,.binOp op t x y t',ty,pos,aft,gd⟩).run P w=.ok (.value u) w/\aV m Z v u:=by
 unfold Gi at h;split at h
 .cases h
 .rename_i hb
  rcases hs with rfl|rfl<;>simp only[Option.some.injEq]at h<;>subst h<;>exact⟨_,by simp[ca,hx,hy,eqGuard,binOp,Op.shift,hb],rfl⟩
def zHi{op:BinOp}{t t':bA}{x y:bB}{a b:ak}{v:V}(hx:ev ρr x=.string ⟨a.toArray⟩)(hy:ev ρr y=.string ⟨b.toArray⟩)(h:ZB op a b=bc v):
  ∃u,(ca (ev ρr) ⟨dst,.binOp op t x y t',ty,pos,aft,gd⟩).run P w=.ok (.value u) w/\aV m Z v u:=by
 have e:(a==b)=decide (a=b):=by rw[eN];simp
 cases op<;>simp only[ZB,Option.some.injEq,reduceCtorEq]at h<;>subst h <;>
  exact⟨_,by simp[ca,hx,hy,eqGuard,binOp,Op.stringOp,ByteArray.toList_eq,e];first|rfl|done,rfl⟩
def zOl{k:Tag}{v:V}{x:bu}(h:aV m Z v x)(hk:EH k v=bg):Gx k x=bg:=by
 cases k<;>cases v<;>simp only[EH,cr]at hk<;>simp only[aV]at h<;>subst h
 .exact hk
 .rfl
 .rfl
def Vo:∀{ks:List Tag}{vs:List V}{l:List bu},zG m Z vs l->Az ks vs=bg->Qo ks l=bg
 |[],[],l,h,_=>by cases h;rfl
 |[],_::_,_,_,hk=>by cases hk
 |_::_,[],_,_,hk=>by cases hk
 |k::ks,v::vs,l,h,hk=>by obtain⟨x,xs,rfl,h2,h3⟩:=h;simp only[Az,bn]at hk;simp only[Qo,bn];exact⟨zOl h2 hk.1,Vo h3 hk.2⟩
def zUb{m':Option M}{k:Tag}{u v:V}{x y:bu}(h:aV m Z u x)(h':aV m' Z v y)(hk:EH k u=bg)(me:EH k v=bg):Fq x y=Oe u v:=by
 cases k<;>cases u<;>simp only[EH,cr]at hk<;>cases v<;>simp only[EH,cr]at me<;>simp only[aV]at h h'<;>subst h<;>subst h'<;>first|rfl|simp[Fq,Oe]
def zz9:∀{ks:List Tag}{us vs:List V}{l k:List bu},zG m Z us l->zG m Z vs k->Az ks us=bg->Az ks vs=bg->Cc l k=Mj us vs
 |[],[],[],l,k,h,h',_,_=>by cases h;cases h';rfl
 |[],_::_,_,_,_,_,_,hk,_=>by cases hk
 |[],[],_::_,_,_,_,_,_,hk=>by cases hk
 |_::_,[],_,_,_,_,_,hk,_=>by cases hk
 |_::_,_::_,[],_,_,_,_,_,hk=>by cases hk
 |k::ks,u::us,v::vs,l,l',h,h',hk,me=>by
  obtain⟨x,xs,rfl,h2,h3⟩:=h;obtain⟨y,ys,rfl,h4,h5⟩:=h';simp only[Az,bn]at hk me;have e1:=zUb h2 h4 hk.1 me.1;have e2:=zz9 h3 h5 hk.2 me.2
  cases us with
  |nil =>
   cases vs with
   |nil=>cases h3;cases h5;simp[Cc,Mj,e1]
   |cons v' vs=>cases ks<;>simp only[Az,cr,and_false]at hk me
  |cons u' us =>
   cases vs with
   |nil=>cases ks<;>simp only[Az,cr,and_false]at hk me
   |cons v' vs=>simp only[Cc,Mj,e1];rw[e2]
def ztg{t t':bA}{x y:bB}{u v:V}{b:Bool}(hx:aV m Z u (ev ρr x))(hy:aV m Z v (ev ρr y))(h:Of P t u v=bc b):
  (ca (ev ρr) ⟨dst,.binOp .eql t x y t',ty,pos,aft,gd⟩).run P w=.ok (.value (.bool b)) w/\(ca (ev ρr) ⟨dst,.binOp .neq t x y t',ty,pos,aft,gd⟩).run P w=.ok (.value (.bool (!b))) w:=by
 unfold Of at h;split at h
 .rename_i a a';split at h
  .rename_i hb;simp only[Option.some.injEq]at h;subst h;unfold zUa at hb;split at hb
   .rename_i ht;exact⟨zh1 ht hx hy,zh2 ht hx hy⟩
   .cases hb
  .cases h
 .rename_i l l';split at h
  .rename_i ks lH;split at h
   .rename_i hk;simp only[bn]at hk;simp only[Option.some.injEq]at h;subst h;obtain⟨c1,e1,r1⟩:=hx;obtain⟨c2,e2,r2⟩:=hy
    have hF:NQ P t ks:=by
     unfold ztf at lH;split at lH
     .split at lH
      .rename_i hc;simp only[Option.some.injEq]at lH;subst lH;exact zOi hc
      .cases lH
     .cases lH
    have he:=zz9 r1 r2 hk.1 hk.2;exact⟨zOj _ hF e1 e2 (Vo r1 hk.1) (Vo r2 hk.2) he,zOk _ hF e1 e2 (Vo r1 hk.1) (Vo r2 hk.2) he⟩
   .cases h
  .cases h
 .cases h
def Wy{op:BinOp}{t t':bA}{x y:bB}{u v r:V}(hx:aV m Z u (ev ρr x))(hy:aV m Z v (ev ρr y))(h:LW P op t u v=bc r):
  ∃z,(ca (ev ρr) ⟨dst,.binOp op t x y t',ty,pos,aft,gd⟩).run P w=.ok (.value z) w/\aV m Z r z:=by
 unfold LW at h;split at h
 .rename_i k a k' b;split at h
  .exact Wx hx hy (.inl rfl) h
  .exact Wx hx hy (.inr rfl) h
  .rename_i h1 h2;split at h
   .rename_i hk;subst hk;exact Vp hx hy ⟨h1,h2⟩ h
   .cases h
 .exact zHi hx hy h
 .split at h
  .obtain⟨b,hb,rfl⟩:=cx.1 h;exact⟨_,(ztg hx hy hb).1,rfl⟩
  .obtain⟨b,hb,rfl⟩:=cx.1 h;exact⟨_,(ztg hx hy hb).2,rfl⟩
  .cases h
end
def EP(t:Bool)(a b:V):V:=
 match a,b with
 |.bool x,.bool y=>.bool (bif t then x else y)
 |.int k x,.int k' y=>if k=k' then .int k (bif t then x else y)else bif t then .int k x else .int k' y
 |.str x,.str y=>.str (bif t then x else y)
 |a,b=>bif t then a else b
def zHj{m:Option M}{Z:ZM}{t:Bool}{a b:V}{x y:bu}(ha:aV m Z a x)(hb:aV m Z b y):aV m Z (EP t a b) (bif t then x else y):=by
 unfold EP;split
 .cases t<;>assumption
 .split
  .rename_i hk;subst hk;cases t<;>assumption
  .cases t<;>assumption
 .cases t<;>assumption
 .cases t<;>assumption
def ZO(P:bm)(s f:Nat):Option Nat:=
 match P.underlying s with
 |some (.struct fs)=>match fs[f]? with
  |some pZ=>match P.info? pZ.type with
   |some i=>if i.size=0 then bh else bc pZ.offset
   |none=>bh
  |none=>bh
 |_=>bh
def zqi{P:bm}{s f o:Nat}(h:ZO P s f=bc o):X' P s f o:=by
 unfold ZO at h;split at h
 .rename_i fs hs;split at h
  .rename_i pZ hf;split at h
   .rename_i i hi;split at h
    .cases h
    .rename_i hz;simp only[Option.some.injEq]at h;exact⟨fs,pZ,i,hs,hf,h,hi,hz⟩
   .cases h
  .cases h
 .cases h
def oe(P:bm)(t:Nat):Option (Option Nat):=
 match P.underlying t,P.info? t with
 |some d,bc i=>if LV d then(if i.size=1 then bc bh else bh)else bc (bc i.size)
 |_,_=>bh
def uO{P:bm}{t:Nat}(h:oe P t=bc bh):Yq P t:=by
 unfold oe at h;split at h
 .rename_i d i hd hi;split at h
  .rename_i hn;split at h
   .rename_i h1;exact⟨d,i,hd,hn,hi,h1⟩
   .cases h
  .cases h
 .cases h
def qx{P:bm}{t k:Nat}(h:oe P t=bc (bc k)):Yk P t k:=by
 unfold oe at h;split at h
 .rename_i d i hd hi;split at h
  .split at h<;>cases h
  .rename_i hn;simp only[Option.some.injEq]at h;exact⟨d,i,hd,by simpa using hn,hi,h⟩
 .cases h
def mO(P:bm)(t:Nat)(cs:List V)(off:Nat):Option V:=
 match oe P t with
 |some bh=>match cs[off]? with|some v=>if v.one then bc v else bh|none=>bh
 |some (bc k)=>if cw (off+k) cs.length then bc (.agg ((cs.drop off).take k))else bh
 |none=>bh
def LY(P:bm)(s f:Nat)(cs:List V):Option V:=
 match P.underlying s with
 |some (.struct fs)=>match fs[f]? with
  |some pZ=>mO P pZ.type cs pZ.offset
  |none=>bh
 |_=>bh
def zUc(P:bm)(src dst:Nat)(x:V):Option V:=
 match P.underlying src,P.underlying dst,x with
 |some _,bc (.int k),.int _ n=>bc (.int k (k.wrap n))
 |some _,bc .string,.str l=>bc (.str l)
 |_,_,_=>bh
def o6(P:bm)(t:Nat):Bool:=match P.underlying t with|some (.slice _)=>bg|_=>bd
def FY(P:bm)(t:Nat)(x:V):Option V:=
 match x with
 |.str l=>match P.underlying t with|some .string=>bc (.int .i64 l.length)|_=>bh
 |.sl _ _ _ _ n=>if o6 P t then bc (.int .i64 n)else bh
 |.vs _ els=>if o6 P t then bc (.int .i64 els.length)else bh
 |.gR=>if o6 P t then bc (.int .i64 0)else bh
 |_=>bh
def uq(places:List (Nat×Nat))(cells:List V):List (Nat×V)->Option (List V)
 |[]=>bc cells
 |(i,v)::rest=>match places[i]? with
  |none=>bh
  |some (off,size)=>if v.plain&&(bk v.cells.length size&&cw (off+size) cells.length)then uq places (cells.take off++v.cells++cells.drop (off+size)) rest else bh
def Pq(P:bm)(t:Nat)(parts:List (Nat×V)):Option (List V):=
 match P.info? t,P.underlying t with
 |some it,bc (.struct fields) =>
  match it.zero,fields.toList.mapM (λf=>(P.info? f.type).map λi=>(f.offset,i.size))with
  |some z,bc places=>uq places (z.cells.toList.map sd) parts
  |_,_=>bh
 |some it,bc (.array n e) =>
  match it.zero,P.info? e with
  |some z,bc ie=>uq ((cQ n).map λi=>(i*ie.size,ie.size)) (z.cells.toList.map sd) parts
  |_,_=>bh
 |_,_=>bh
def Q9(P:bm)(b:Builtin)(vs:List V)(ts:List bA):Option V:=
 match b with
 |.len=>match vs,ts with|[v],[t]=>FY P t v|_,_=>bh
 |.min=>match vs with|[.int k a,.int k' b]=>if k=k' then bc (.int k (min a b))else bh|_=>bh
 |.max=>match vs with
  |[.int k a,.int k' b]=>if k=k' then bc (.int k (max a b))else bh
  |[.int k a,.int k' b,.int acH c]=>if k=k' then if k=acH then bc (.int k (max (max a b) c))else bh else bh
  |_=>bh
 |_=>bh
def Hn(P:bm)(ρ:Env):Op->Option V
 |.move x|.assign x=>bc (a_ ρ x)
 |.pick c a b=>match a_ ρ c with|.bool t=>bc (EP t (a_ ρ a) (a_ ρ b))|_=>bh
 |.binOp op t x y _=>match op with
  |.eql=>match Zo P t (a_ ρ x) (a_ ρ y)with
   |some b=>bc (.bool b)
   |none=>match Zo P t (a_ ρ y) (a_ ρ x)with
    |some b=>bc (.bool b)
    |none=>LW P .eql t (a_ ρ x) (a_ ρ y)
  |.neq=>match Zo P t (a_ ρ x) (a_ ρ y)with
   |some b=>bc (.bool (!b))
   |none=>match Zo P t (a_ ρ y) (a_ ρ x)with
    |some b=>bc (.bool (!b))
    |none=>LW P .neq t (a_ ρ x) (a_ ρ y)
  |op=>LW P op t (a_ ρ x) (a_ ρ y)
 |.unOp .not _ x=>match a_ ρ x with|.bool b=>bc (.bool (!b))|_=>bh
 |.unOp .neg _ x=>match a_ ρ x with|.int k n=>bc (.int k (k.wrap (0-n)))|_=>bh
 |.extract x i=>match a_ ρ x with|.gu vs=>vs[i]?|_=>bh
 |.makeFunc (.func f) first cap=>bc (.fn f (first.toList.map (a_ ρ)) (cap.toList.map (a_ ρ)))
 |.convert src dst x=>zUc P src dst (a_ ρ x)
 |.fieldAddr s x f=>match ZO P s f with
  |some o=>match a_ ρ x with
   |.ptr k L off=>bc (.ptr k L (off+o))
   |.vp cs off=>bc (.vp cs (off+o))
   |_=>bh
  |none=>bh
 |.field s x f=>match a_ ρ x with|.agg cs=>LY P s f cs|_=>bh
 |.load t a=>match a_ ρ a with|.vp cs off=>mO P t cs off|_=>bh
 |.nilCheck x=>match a_ ρ x with
  |.ptr k L off=>bc (.ptr k L off)
  |.vp cs off=>bc (.vp cs off)
  |.fn f first caps=>bc (.fn f first caps)
  |_=>bh
 |.call ⟨.builtin b,args,ts⟩=>Q9 P b (args.toList.map (a_ ρ)) ts.toList
 |.build t parts=>(Pq P t (parts.toList.map λp=>(p.1,a_ ρ p.2))).map .agg
 |_=>bh
def ub:bu->Bool|.pointer _|.slice ..|.map _|.func ..|.nilFunc=>bg|_=>bd
section
variable{P:bm}{ρr:yC}{w:bE}{dst:Option Tmp}{ty:bA}{pos:String}{aft:Array Edge}{gd:Option (Nat×Bool)}{m:Option M}{Z:ZM}
def Xx{t t':bA}{x y:bB}{X Y:bu}{b:Bool}(hx:ev ρr x=X)(hy:ev ρr y=Y)(h1:ub X=bg)(h2:ub Y=bg)(h:(Op.equalIn (9999+1) t X Y).run P w=.ok b w):
  (ca (ev ρr) ⟨dst,.binOp .eql t x y t',ty,pos,aft,gd⟩).run P w=.ok (.value (.bool b)) w/\(ca (ev ρr) ⟨dst,.binOp .neq t x y t',ty,pos,aft,gd⟩).run P w=.ok (.value (.bool (!b))) w:=by
 have h':(Op.equal t X Y).run P w=.ok b w:=h
 cases X<;>simp only[ub,cr]at h1<;>cases Y<;>simp only[ub,cr]at h2 <;>
  exact⟨by simp only[ca,hx,hy,eqGuard,binOp];simp[h'],by simp only[ca,hx,hy,eqGuard,binOp];simp[h']⟩
def zAa(d:Nat){t:bA}{u v:V}{X Y:bu}{b:Bool}(hx:aV m Z u X)(hy:aV m Z v Y)(hf:Gj u v=bg)(hn:w8 P t v=bg)(h:Cd u=bc b):
  ub X=bg/\ub Y=bg/\(Op.equalIn (d+1) t X Y).run P w=.ok b w/\(Op.equalIn (d+1) t Y X).run P w=.ok b w:=by
 have fin:∀{b':Bool},bc b'=bc b->b'=b:=λe=>by injection e
 cases v with
 |kq =>
  simp only[w8]at hn;split at hn
  .rename_i ht;simp only[aV]at hy;subst hy
   cases u<;>first
    |(cases hf;done)
    |(simp only[aV]at hx;cases fin h;subst hx;simp[ub,Op.equalIn,run_underlying ht];done)
    |(simp only[aV]at hx;cases fin h;obtain⟨_,_,_,_,rfl⟩:=hx;simp[ub,Op.equalIn,run_underlying ht];done)
    |(simp only[aV]at hx;cases fin h;obtain⟨_,rfl,_⟩:=hx;simp[ub,Op.equalIn,run_underlying ht];done)
  .cases hn
 |gR =>
  simp only[w8]at hn;split at hn
  .rename_i ht;simp only[aV]at hy;subst hy
   cases u<;>first
    |(cases hf;done)
    |(simp only[aV]at hx;cases fin h;subst hx;simp[ub,Op.equalIn,run_underlying ht];done)
    |skip
   .rename_i sz k L o n;obtain⟨g,loc,_,_,h3,_,h5⟩:=hx
    cases L with
    |zero=>simp[Cd]at h
    |succ L =>
     cases n with
     |zero=>simp[Cd]at h
     |succ n =>
      cases fin h
      rcases h5 with rfl|⟨h5,_⟩|⟨_,h5,_⟩
      .simp[ub,Op.equalIn,run_underlying ht]
      .omega
      .omega
   rename_i sz els;obtain⟨A,c,rfl,_,_,h4⟩:=hx
   cases els with
   |nil=>simp[Cd]at h
   |cons e els =>
    cases fin h
    rcases h4 with h4|⟨a,rfl,_⟩
    .cases h4
    .simp[ub,Op.equalIn,run_underlying ht]
  .cases hn
 |lZ =>
  simp only[w8]at hn;split at hn
  .rename_i ht;simp only[aV]at hy;subst hy
   cases u<;>first
    |(cases hf;done)
    |(simp only[aV]at hx;cases fin h;subst hx;simp[ub,Op.equalIn,run_underlying ht];done)
    |(simp only[aV]at hx;cases fin h;obtain⟨_,_,rfl,_⟩:=hx;simp[ub,Op.equalIn,run_underlying ht];done)
  .cases hn
 |k_ =>
  simp only[w8]at hn;split at hn
  .rename_i ht;simp only[aV]at hy;subst hy
   cases u<;>first
    |(cases hf;done)
    |(simp only[aV]at hx;cases fin h;subst hx;simp[ub,Op.equalIn,run_underlying ht];done)
    |(simp only[aV]at hx;cases fin h;obtain⟨_,_,_,_,rfl⟩:=hx;simp[ub,Op.equalIn,run_underlying ht];done)
  .cases hn
 |_=>cases hn
def AT{t t':bA}{x y:bB}{u v:V}{b:Bool}(hx:aV m Z u (ev ρr x))(hy:aV m Z v (ev ρr y))(h:Zo P t u v=bc b):
  ((ca (ev ρr) ⟨dst,.binOp .eql t x y t',ty,pos,aft,gd⟩).run P w=.ok (.value (.bool b)) w/\(ca (ev ρr) ⟨dst,.binOp .neq t x y t',ty,pos,aft,gd⟩).run P w=.ok (.value (.bool (!b))) w) /\
  ((ca (ev ρr) ⟨dst,.binOp .eql t y x t',ty,pos,aft,gd⟩).run P w=.ok (.value (.bool b)) w/\(ca (ev ρr) ⟨dst,.binOp .neq t y x t',ty,pos,aft,gd⟩).run P w=.ok (.value (.bool (!b))) w):=by
 unfold Zo at h;split at h
 .rename_i hh;simp only[bn]at hh;obtain⟨h1,h2,h3,h4⟩:=zAa (P:=P) (w:=w) 9999 hx hy hh.2 hh.1 h;exact⟨Xx rfl rfl h1 h2 h3,Xx rfl rfl h2 h1 h4⟩
 .cases h
def zG.tmps{ρ:Env}{f:bB->V}{g:bB->bu}:∀(l:List bB),(∀x∈l,aV m Z (f x) (g x))->zG m Z (l.map f) (l.map g)
 |[],_=>rfl
 |x::l,h=>⟨_,_,rfl,h x al,zG.tmps (ρ:=ρ) l λy hy=>h y (gq _ hy)⟩
def UB{off:Nat}{cs us:List V}{l k:List bu}(h:zG m Z cs l)(h':zG m Z us k):zG m Z (cs.take off++us++cs.drop (off+us.length)) (l.take off++k++l.drop (off+k.length)):=by rw[h'.length];exact((h.take off).append h').append (h.drop _)
def aar{α:Type}(v:α):∀(l:List α)(n:Nat),n<l.length->(l.set n v).take (n+1)=l.take n++[v]
 |[],n,h=>by simp at h
 |a::l,0,_=>af
 |a::l,n+1,h=>by have:=aar v l n (by simpa using h);simp[this]
def aas{α:Type}(v:α):∀(l:List α)(n k:Nat),n<k->(l.set n v).drop k=l.drop k
 |[],n,k,_=>af
 |a::l,0,k+1,_=>af
 |a::l,n+1,k+1,h=>by have:=aas v l n k ab;simp[this]
def zbc{α:Type}:∀(vs:List α)(j off:Nat)(a:Array α),off+j+vs.length<=a.size ->
  ((vs.zipIdx j).foldl (λcs (p:α×Nat)=>cs.setIfInBounds (off+p.2) p.1) a).toList=a.toList.take (off+j)++vs++a.toList.drop (off+j+vs.length)
 |[],j,off,a,_=>af
 |v::vs,j,off,a,h=>by
  simp only[lc]at h;rw[List.zipIdx_cons,List.foldl_cons,zbc vs (j+1) off _ (by simp;omega)];have hl:a.toList.length=a.size:=af;simp only[Array.toList_setIfInBounds,lc];rw[<- eD off j 1,aar v a.toList (off+j) ab,aas v a.toList (off+j) _ ab];rw[gO,gO,gO]
  congr 1
  simp only[bO,cl]
  congr 3;omega
def ZP{places:List (Nat×Nat)}{place:Nat->Option (Nat×Nat)}(B2:∀i p,places[i]?=bc p->place i=bc p):∀{parts:List (Nat×V)}{ps:List (Nat×bu)}{cells r:List V}{a:Array bu},zG m Z cells a.toList ->
  (ps.map (·.1)=parts.map (·.1))->zG m Z (parts.map (·.2)) (ps.map (·.2))->uq places cells parts=bc r->∃a':Array bu,Instr.fill place a ps=bc a'/\zG m Z r a'.toList
 |[],ps,cells,r,a,hc,h1,h2,h=>by
  simp only[uq,Option.some.injEq]at h;subst h;simp at h1;subst h1;exact⟨a,rfl,hc⟩
 |(i,v)::parts,[],cells,r,a,hc,h1,h2,h=>by simp at h1
 |(i,v)::parts,(i',x)::ps,cells,r,a,hc,h1,h2,h=>by
  simp only[gf,List.cons.injEq]at h1;obtain⟨rfl,h1⟩:=h1;obtain⟨y,ys,h3,h4,h5⟩:=h2;simp only[gf,List.cons.injEq]at h3;obtain⟨rfl,rfl⟩:=h3;simp only[uq]at h;split at h
  .cases h
  .rename_i off size hp;split at h
   .rename_i hk;simp only[bn]at hk;obtain⟨M7,mv,l8⟩:=hk;have mv:=eb mv;have l8:=lb l8;have M5:=h4.cells M7
    have hlen:x.cells.size=size:=by have:=M5.length;simp at this;omega
    have hal:a.size=cells.length:=by have:=hc.length;simpa using this
    have adM:=zbc x.cells.toList 0 off a (by simp;omega);simp only[dM]at adM
    have hz:(x.cells.zipIdx.foldl (λcs (p:bu×Nat)=>cs.setIfInBounds (off+p.2) p.1) a)=(x.cells.toList.zipIdx 0).foldl (λcs (p:bu×Nat)=>cs.setIfInBounds (off+p.2) p.1) a:=by rw[<- Array.foldl_toList];simp
    have hpr:=UB (off:=off) hc M5;have e:off+size=off+v.cells.length:=ab;rw[e]at h;obtain⟨a',h6,h7⟩:=ZP B2 (a:=x.cells.zipIdx.foldl (λcs (p:bu×Nat)=>cs.setIfInBounds (off+p.2) p.1) a) (by rw[hz,adM];simpa using hpr) h1 h5 h;refine⟨a',?_,h7⟩;simp only[Instr.fill,B2 _ _ hp];rw[aO (by simp[hlen];omega)];exact h6
   .cases h
end
section
variable{P:bm}{ρ:Env}{ρr:yC}{w:bE}{dst:Option Tmp}{ty:bA}{pos:String}{aft:Array Edge}{gd:Option (Nat×Bool)}{m:Option M}{Z:ZM}
def Vr(a:Addr)(i j:Nat):(a.add i).add j=a.add (i+j):=Go.Deep.add_add a i j
def zHk{t off:Nat}{cs:List V}{v:V}{x:bB}{a:Addr}{mm:Option M}(hW:∀a x,Z a=bc x->w.cell? a=bc x)(hx:ev ρr x=.pointer (bc (a.add off)))(hr:Ay Z a 0 cs)(h:mO P t cs off=bc v):
  ∃u,(ca (ev ρr) ⟨dst,.load t x,ty,pos,aft,gd⟩).run P w=.ok (.value u) w/\aV mm Z v u:=by
 unfold mO at h;split at h
 .rename_i hs;split at h
  .rename_i v' hv;split at h
   .cases h;obtain⟨u,h1,h2⟩:=hr.get hv;rw[cA]at h1;exact⟨u,Hm (uO hs) hx (hW _ _ h1),h2.DI⟩
   .cases h
  .cases h
 .rename_i k hs;split at h
  .rename_i hk;have hk:=lb hk;cases h
   have hex:∀j,j<k->∃u v,cs[off+j]?=bc v/\w.cell? (a.add (off+j))=bc u/\aV bh Z v u:=λj hj=>by have hc:cs[off+j]?=bc (cs[off+j]' ab):=bF ab;obtain⟨u,h1,h2⟩:=hr.get hc;rw[cA]at h1;exact⟨u,_,hc,hW _ _ h1,h2⟩
   let us:List bu:=(cQ k).map λj=>((w.cell? (a.add (off+j))).getD Go.undef)
   have hus:us.length=k:=by simp[us]
   have pg:∀j,j<k->us[j]?=w.cell? (a.add (off+j)):=λj hj=>by obtain⟨u,v,_,h2,_⟩:=hex j hj;simp[us,hj,h2]
   refine⟨.agg us.toArray,o5 us (qx hs) hx hus λj u hj=>?_,us,rfl,?_⟩
   .have CN:j<k:=by have:=(bx.1 hj).1;omega
    rw[Vr,<- pg j CN];exact hj
   .refine zG.n7 (by simp[hus];omega) λj v u hv hu=>?_
    have CN:j<k:=by have:=(bx.1 hu).1;omega
    rw[cE,aP CN,dw]at hv;obtain⟨u',v',h1,h2,h3⟩:=hex j CN;rw[hv]at h1;cases h1;rw[pg j CN,h2]at hu;cases hu;exact h3.DI
  .cases h
 .cases h
def zw1{t off:Nat}{cs:List V}{v:V}{l:List bu}(hr:zG m Z cs l)(h:mO P t cs off=bc v):∃u,(part t l.toArray off).run P w=.ok u w/\aV m Z v u:=by
 unfold mO at h;split at h
 .rename_i hs;split at h
  .rename_i v' hv;split at h
   .cases h;obtain⟨u,h1,h2⟩:=hr.get hv;exact⟨u,by simp[part,qm (uO hs),h1],h2⟩
   .cases h
  .cases h
 .rename_i k hs;split at h
  .rename_i hk;have hk:=lb hk;cases h;obtain⟨d,i,hd,hn,hi,RZ⟩:=id (qx hs);refine⟨.agg ((l.drop off).take k).toArray,?_,_,rfl,(hr.drop off).take k⟩
   have e:l.toArray.extract off (off+k)=((l.drop off).take k).toArray:=by apply gT;simp[aa5]
   simp[part,Hl (qx hs),sizeOf,typeInfo,hi,RZ,e]
  .cases h
 .cases h
def zqk{t:bA}{x:bB}{v r:V}(hx:aV m Z v (ev ρr x))(h:FY P t v=bc r):
  ∃u,(ca (ev ρr) ⟨dst,.call ⟨.builtin .len,#[x],#[t]⟩,ty,pos,aft,gd⟩).run P w=.ok (.value u) w/\aV m Z r u:=by
 have IG:∀{A n c},ev ρr x=.slice A n c->o6 P t=bg->(ca (ev ρr) ⟨dst,.call ⟨.builtin .len,#[x],#[t]⟩,ty,pos,aft,gd⟩).run P w=.ok (.value (i64 n)) w:=λhv hs=>by
  unfold o6 at hs;split at hs
  .rename_i e ht;exact zer ht hv
  .cases hs
 unfold FY at h;split at h
 .split at h
  .rename_i ht;cases h;exact⟨_,zqe ht hx,rfl⟩
  .cases h
 .split at h
  .rename_i hs;cases h;obtain⟨_,_,_,_,h3,_,hv|⟨h0,A,hv⟩|⟨_,h0,A,c',hv,_⟩⟩:=hx
   .exact⟨_,IG hv hs,rfl⟩
   .have h6:=(Nat.add_eq_zero_iff.1 (Nat.le_zero.1 (h0▸h3))).2;subst h6;exact⟨_,IG hv hs,rfl⟩
   .subst h0;exact⟨_,IG hv hs,rfl⟩
  .cases h
 .split at h
  .rename_i hs;cases h;obtain⟨_,_,hv,_⟩:=hx;exact⟨_,IG hv hs,rfl⟩
  .cases h
 .split at h
  .rename_i hs;cases h;exact⟨_,IG hx hs,rfl⟩
  .cases h
 .cases h
def zOm{α β:Type}{f:α->β}{l:List α}{b:β}(h:l.map f=[b]):∃x,l=[x]/\f x=b:=by
 match l,h with
 |[x],h=>exact⟨x,rfl,by simpa using h⟩
def zAb{α β:Type}{f:α->β}{l:List α}{b c:β}(h:l.map f=[b,c]):∃x y,l=[x,y]/\f x=b/\f y=c:=by
 match l,h with
 |[x,y],h=>exact⟨x,y,rfl,by simpa using h⟩
def zAc{α β:Type}{f:α->β}{l:List α}{b c d:β}(h:l.map f=[b,c,d]):∃x y z,l=[x,y,z]/\f x=b/\f y=c/\f z=d:=by
 match l,h with
 |[x,y,z],h=>exact⟨x,y,z,rfl,by simpa using h⟩
def zw2{op:Op}{v:V}(h:Hn P ρ op=bc v)(bT:∀x∈op.operands,aV m Z (a_ ρ x) (ev ρr x))(hW:∀a x,Z a=bc x->w.cell? a=bc x):
  jV op=bg/\∃u,(ca (ev ρr) ⟨dst,op,ty,pos,aft,gd⟩).run P w=.ok (.value u) w/\aV m Z v u:=by
 unfold Hn at h;split at h
 .cases h;exact⟨rfl,_,by simp[ca],bT _ (by simp[Op.operands])⟩
 .cases h;exact⟨rfl,_,by simp[ca],bT _ (by simp[Op.operands])⟩
 .rename_i c a b;split at h
  .rename_i t hc;cases h;have h1:=bT c (by simp[Op.operands]);rw[hc]at h1;simp only[aV]at h1;refine⟨rfl,_,?_,zHj (t:=t) (bT a (by simp[Op.operands])) (bT b (by simp[Op.operands]))⟩;simp only[ca,h1,asBool];cases t<;>simp
  .cases h
 .rename_i op t x y t';have hx:=bT x (by simp[Op.operands]);have hy:=bT y (by simp[Op.operands]);split at h
  .split at h
   .rename_i b hb;cases h;exact⟨rfl,_,(AT hx hy hb).1.1,rfl⟩
   .split at h
    .rename_i b hb;cases h;exact⟨rfl,_,(AT hy hx hb).2.1,rfl⟩
    .exact⟨rfl,Wy hx hy h⟩
  .split at h
   .rename_i b hb;cases h;exact⟨rfl,_,(AT hx hy hb).1.2,rfl⟩
   .split at h
    .rename_i b hb;cases h;exact⟨rfl,_,(AT hy hx hb).2.2,rfl⟩
    .exact⟨rfl,Wy hx hy h⟩
  .exact⟨rfl,Wy hx hy h⟩
 .rename_i t x;have hx:=bT x (by simp[Op.operands]);split at h
  .rename_i b hb;cases h;rw[hb]at hx;simp only[aV]at hx;exact⟨rfl,_,by simp[ca,hx,Op.unary],rfl⟩
  .cases h
 .rename_i t x;have hx:=bT x (by simp[Op.operands]);split at h
  .rename_i k n hb;cases h;rw[hb]at hx;simp only[aV]at hx;exact⟨rfl,_,by simp[ca,hx,Op.unary,Op.intArith],rfl⟩
  .cases h
 .rename_i x i;have hx:=bT x (by simp[Op.operands]);split at h
  .rename_i vs hv;rw[hv]at hx;obtain⟨l,e,hl⟩:=hx;obtain⟨u,h1,h2⟩:=hl.get h;exact⟨rfl,u,by simp[ca,e,Instr.extract,h1],h2⟩
  .cases h
 .rename_i f first cap
  cases h
  have e:∀l:Array bB,l.map (ev ρr)=(l.toList.map (ev ρr)).toArray:=λl=>gT af
  refine⟨rfl,.func (.func f) (first.toList.map (ev ρr)).toArray (cap.toList.map (ev ρr)).toArray,by simp only[ca,Instr.makeFunc,e];rfl,_,_,rfl,?_,?_⟩
  .exact zG.tmps (ρ:=ρ) _ λx hx=>bT x (by simp[Op.operands];exact .inl (by simpa using hx))
  .exact zG.tmps (ρ:=ρ) _ λx hx=>bT x (by simp[Op.operands];exact .inr (by simpa using hx))
 .rename_i src alu x;have hx:=bT x (by simp[Op.operands]);unfold zUc at h;split at h
  .rename_i d k k' n h1 h2 h3;cases h;rw[h3]at hx;simp only[aV]at hx;refine⟨rfl,_,?_,rfl⟩;simp[ca,convert,run_underlying h1,run_underlying h2,hx,Conv.intToInt]
  .rename_i d l h1 h2 h3;cases h;rw[h3]at hx;simp only[aV]at hx;refine⟨rfl,_,?_,rfl⟩;simp[ca,convert,run_underlying h1,run_underlying h2,hx]
  .cases h
 .rename_i s x f;have hx:=bT x (by simp[Op.operands]);split at h
  .rename_i o ho;have hF:=zqi ho;split at h
   .rename_i k L off hv;cases h;rw[hv]at hx;obtain⟨g,loc,h1,h2,h3⟩:=hx;exact⟨rfl,_,aeL hF rfl h3,g,loc,h1,h2,rfl⟩
   .rename_i cs off hv;cases h;rw[hv]at hx;obtain⟨a,h1,h2⟩:=hx;exact⟨rfl,_,aaq hF h1,a,by rw[Vr],h2⟩
   .cases h
  .cases h
 .rename_i s x f;have hx:=bT x (by simp[Op.operands]);split at h
  .rename_i cs hv;rw[hv]at hx;obtain⟨l,e,hl⟩:=hx;unfold LY at h;split at h
   .rename_i fs hs;split at h
    .rename_i pZ hf;obtain⟨u,h1,h2⟩:=zw1 (w:=w) hl h;exact⟨rfl,u,by simp[ca,Instr.field,run_underlying hs,hf,e,asAgg,h1],h2⟩
    .cases h
   .cases h
  .cases h
 .rename_i t x;have hx:=bT x (by simp[Op.operands]);split at h
  .rename_i cs off hv;rw[hv]at hx;obtain⟨a,h1,h2⟩:=hx;exact⟨rfl,zHk hW h1 h2 h⟩
  .cases h
 .rename_i x;have hx:=bT x (by simp[Op.operands]);split at h
  .rename_i hv;cases h;rw[hv]at hx;obtain⟨g,loc,h1,h2,h3⟩:=id hx;exact⟨rfl,_,by simp[ca,h3];rfl,by rw[h3]at hx;exact hx⟩
  .rename_i hv;cases h;rw[hv]at hx;obtain⟨a,h3,h4⟩:=id hx;exact⟨rfl,_,by simp[ca,h3];rfl,by rw[h3]at hx;exact hx⟩
  .rename_i hv;cases h;rw[hv]at hx;obtain⟨a,b,h3,h4⟩:=id hx;exact⟨rfl,_,by simp[ca,h3];rfl,by rw[h3]at hx;exact hx⟩
  .cases h
 .rename_i b args ts;obtain⟨args⟩:=args;obtain⟨ts⟩:=ts;refine⟨rfl,?_⟩
  have iS:∀x∈args,aV m Z (a_ ρ x) (ev ρr x):=λx hx=>bT x (by simp[Op.operands,Call.operands,hx])
  unfold Q9 at h;simp only at h;split at h
  .split at h
   .rename_i v t hv;obtain⟨x,rfl,rfl⟩:=zOm hv;exact zqk (iS x af) h
   .cases h
  .split at h
   .rename_i k a k' b hv;obtain⟨x,y,rfl,sI⟩:=zAb hv
    .skip
     have hx:=iS x af;have hy:=iS y af;rw[sI.1]at hx;rw[sI.2]at hy;split at h
     .rename_i hk;subst hk;cases h;have h':(if b<a then b else a)=min a b:=ab;exact⟨_,by simp[ca,resolve,invoke,builtin,(show ev ρr x=_ from hx),(show ev ρr y=_ from hy),Builtin.min_,Builtin.min2,h'],rfl⟩
     .cases h
   .cases h
  .split at h
   .rename_i k a k' b hv;obtain⟨x,y,rfl,sI⟩:=zAb hv
    .skip
     have hx:=iS x af;have hy:=iS y af;rw[sI.1]at hx;rw[sI.2]at hy;split at h
     .rename_i hk;subst hk;cases h;have h':(if b>a then b else a)=max a b:=ab;exact⟨_,by simp[ca,resolve,invoke,builtin,(show ev ρr x=_ from hx),(show ev ρr y=_ from hy),Builtin.max_,Builtin.max2,h'],rfl⟩
     .cases h
   .rename_i k a k' b acH c hv;obtain⟨x,y,z,rfl,sI⟩:=zAc hv
    .skip
     have hx:=iS x af;have hy:=iS y af;have hz:=iS z af;rw[sI.1]at hx;rw[sI.2.1]at hy;rw[sI.2.2]at hz;split at h
     .rename_i hk;subst hk;split at h
      .rename_i hk;subst hk;cases h;have h1:(if b>a then b else a)=max a b:=ab;have h2:(if c>max a b then c else max a b)=max (max a b) c:=ab;exact⟨_,by simp[ca,resolve,invoke,builtin,(show ev ρr x=_ from hx),(show ev ρr y=_ from hy),(show ev ρr z=_ from hz),Builtin.max_,Builtin.max2,h1,h2],rfl⟩
      .cases h
     .cases h
   .cases h
  .cases h
 .rename_i t parts;obtain⟨cs,hb,rfl⟩:=cx.1 h
  have adY:zG m Z ((parts.toList.map λp=>(p.1,a_ ρ p.2)).map (·.2)) ((parts.toList.map λp=>(p.1,ev ρr p.2)).map (·.2)):=by
   rw[cW,cW]
   refine zG.n7 af λi v x hv hx=>?_
   rw[cC]at hv hx;obtain⟨p,hp,rfl⟩:=cx.1 hv;rw[hp]at hx;simp only[cZ,Option.some.injEq,Function.comp]at hx;subst hx;exact bT p.2 (by have:=bG hp;simp only[Op.operands,abW];exact cm this)
  have adp:(parts.toList.map λp=>(p.1,ev ρr p.2)).map (·.1)=(parts.toList.map λp=>(p.1,a_ ρ p.2)).map (·.1):=af
  have key:∃a:Array bu,P.built t (parts.toList.map λp=>(p.1,ev ρr p.2))=bc a/\zG m Z cs a.toList:=by
   unfold Pq at hb;unfold Program.built;split at hb
   .rename_i it fields h1 h2;simp only[h1,h2];split at hb
    .rename_i z places h3 h4;simp only[h3,h4];exact ZP (places:=places) (by intro i p hp;simpa using hp) (AS _) adp adY hb
    .cases hb
   .rename_i it n e h1 h2;simp only[h1,h2];split at hb
    .rename_i z ie h3 h4;simp only[h3,h4];refine ZP (places:=(cQ n).map λi=>(i*ie.size,ie.size)) ?_ (AS _) adp adY hb;intro i p hp;rw[cC]at hp;obtain⟨j,hj,rfl⟩:=cx.1 hp
     have fZ:i<n:=by have:=(bx.1 hj).1;simpa using this
     rw[dQ fZ]at hj;cases hj;rfl
    .cases hb
   .cases hb
  obtain⟨a,ha,hr⟩:=key;refine⟨rfl,.agg a,?_,a.toList,af,hr⟩;have:=zw0 (P:=P) (ρ:=ρr) (w:=w) (dst:=dst) (ty:=ty) (pos:=pos) (aft:=aft) (gd:=gd) (t:=t) (parts:=parts.toList) _ a.toList rfl (by simpa using ha);simpa using this
 .cases h
end
section
variable{m m':M}{Z Z':ZM}{w w':bE}{k:Nat}{o o':Obj}{b:Nat}
def aat(ob:Go.Obj){j:Nat}(h:j<w.heap.size):(w.alloc ob).heap[j]?=w.heap[j]?:=Below.heap_alloc w ob j h
def vq(hf:∀a x,Z a=bc x->w.cell? a=bc x){a:Addr}{x:bu}(ha:Z a=bc x):a.block<w.heap.size:=World.block_lt_of_cell? w a (hf a x ha)
def AU{a:Addr}(h:w'.heap[a.block]?=w.heap[a.block]?):w'.cell? a=w.cell? a:=by simp only[World.cell?,h]
def Step.new(ob:Go.Obj)(loc:Nat)(hf:∀a x,Z a=bc x->w.cell? a=bc x)(hm:∀L,m k L=bh)
  (hh:∀m',m' k o.hO=bc (w.heap.size,loc)->(∀L l,m' k L=bc l->L=o.hO)->(∀k L l,m k L=bc l->m' k L=bc l)->Holds m' Z (w.alloc ob) k o):
  ∃m',Step m Z [] w m' Z [(k,o)] (w.alloc ob)/\m' k o.hO=bc (w.heap.size,loc):=by
 let m':M:=λk' L=>if k'=k then(if L=o.hO then bc (w.heap.size,loc)else bh)else m k' L
 have h1:m' k o.hO=bc (w.heap.size,loc):=by simp[m']
 have h2:∀k L l,m k L=bc l->m' k L=bc l:=λk' L l e=>by
  by_cases hk:k'=k
  .subst hk;rw[hm]at e;cases e
  .simp[m',hk,e]
 have h3:∀L l,m' k L=bc l->L=o.hO:=λL l e=>by
  simp only[m',if_true]at e;split at e
  .assumption
  .cases e
 refine⟨m',⟨⟨λa x ha=>?_,λp hp=>?_,by simp[keys],λp hp q hq _ _ _=>?_⟩,h2,λ_ _ e=>e,rfl,rfl,rfl,by rw[World.size_alloc];omega,λb hb _=>aat ob hb,λk hk=>(by cases hk),λk' hk=>?_,λp hp b hb=>?_,λa x ha=>.inl ha⟩,h1⟩
 .rw[AU (aat ob (vq hf ha))];exact hf a x ha
 .simp only[bS]at hp;subst hp;exact hh m' h1 h3 h2
 .simp only[bS]at hp hq;subst hp;subst hq;rfl
 .funext L
  have:k'≠k:=by simpa[keys]using hk
  simp[m',this]
 .simp only[bS]at hp;subst hp;obtain⟨j,c,e1,_⟩:=zHa hb;have e2:=h3 _ _ e1;subst e2;rw[h1]at e1;cases e1;exact .inl aq
def Obj.single:Obj->Bool|.nest ..|.gen _=>bd|_=>bg
def QJ{m:M}{k:Nat}{o o':Obj}(hv:o'.hO=o.hO)(h1:o.single=bg)(h2:o'.single=bg)(b:Nat)(h:fD m (k,o') b):fD m (k,o) b:=by
 cases o<;>cases o'<;>simp only[Obj.single,cr]at h1 h2<;>(simp only[fD,qZ,hv]at h ⊢;exact h)
def Step.write(hs:wo m Z [(k,o)] w)(hb:fD m (k,o) b)(hv:∀b2,fD m (k,o') b2->fD m (k,o) b2)(h1:w'.os=w.os)(h2:w'.tape=w.tape)(h3:w'.output=w.output)(h4:w'.heap.size=w.heap.size)
  (hw:∀j,j≠b->w'.heap[j]?=w.heap[j]?) (hz:∀a x,Z a=bc x->a.block=b->w'.cell? a=bc x) (hh:Holds m Z w' k o'):Step m Z [(k,o)] w m Z [(k,o')] w':=by
 refine⟨⟨λa x ha=>?_,λp hp=>?_,by simp[keys],λp hp q hq _ _ _=>?_⟩,λ_ _ _ e=>e,λ_ _ e=>e,h1,h2,h3,ab,λj hj hn=>hw j λe=>?_,λk hk=>?_,λ_ _=>rfl,λp hp b2 lj=>?_,λa x ha=>.inl ha⟩
 .by_cases e:a.block=b
  .exact hz a x ha e
  .rw[AU (hw _ e)];exact hs.frozen a x ha
 .simp only[bS]at hp;subst hp;exact hh
 .simp only[bS]at hp hq;subst hp;subst hq;rfl
 .subst e;exact hn _ (bS.2 rfl) hb
 .simpa[keys]using hk
 .simp only[bS]at hp;subst hp;exact .inr ⟨_,bS.2 rfl,hv _ lj⟩
end
def Ho(P:bm)(t n:Nat):Bool:=match P.info? t with|some i=>bk i.size n|none=>bd
def zeroV(P:bm)(t:Nat):Option (List V):=
 match P.info? t with
 |some i=>match i.zero with|some z=>bc (z.cells.toList.map sd)|none=>bh
 |none=>bh
def JB(P:bm)(t:Nat):Option (Nat×Nat):=
 match P.underlying t with
 |some (.slice e)=>match P.info? e with
  |some i=>if cw 1 i.size&&i.zero.isSome then bc (e,i.size)else bh
  |none=>bh
 |_=>bh
def Gv(n sz:Nat)(parts:List (Nat×V)):Option (List (List V)):=
 if(parts.map (·.1))=cQ n then
  if parts.all (λp=>p.2.plain&&(bk p.2.cells.length sz&&(p.2.cells.all V.one&&p.2.refs.isEmpty)))then bc (parts.map (·.2.cells))else bh
 else bh
section
variable{P:bm}{ρ:Env}{w:bE}{dst:Option Tmp}{ty:bA}{pos:String}{aft:Array Edge}{gd:Option (Nat×Bool)}
def zHl{op:Op}{v:V}(h:Hn P ρ op=bc v):Loc P ⟨dst,op,ty,pos,aft,gd⟩ ρ [] v []:=by intro ρr m Z w bT hs _;obtain⟨hn,u,h1,h2⟩:=zw2 (P:=P) (w:=w) (dst:=dst) (ty:=ty) (pos:=pos) (aft:=aft) (gd:=gd) h bT hs.frozen;exact⟨hn,.inl ⟨u,w,h1,m,Z,Step.refl hs,h2⟩⟩
def zti{t k off:Nat}{a:bB}{bt:Nat}{cs:List V}{v:V}(ha:a_ ρ a=.ptr k 0 off)(h:mO P t cs off=bc v):Loc P ⟨dst,.load t a,ty,pos,aft,gd⟩ ρ [(k,.box bt cs)] v [(k,.box bt cs)]:=by
 intro ρr m Z w bT hs _;have hx:=bT a (by simp[Op.operands]);rw[ha]at hx;obtain⟨f,loc,h1,h2,h3⟩:=hx;cases h1;obtain⟨b,cur,g1,g2,g3,g4,g5⟩:=hs.holds _ (bS.2 rfl);rw[g1]at h2;cases h2
 have sS:∀j u,cur.toList[j]?=bc u->w.cell? ⟨b,j,bh⟩=bc u:=λj u hu=>by rw[cell_of_row w b j cur bt (0,0) g2];simpa using hu
 refine⟨rfl,.inl ?_⟩;unfold mO at h;split at h
 .rename_i nf;split at h
  .rename_i v' hv;split at h
   .cases h;obtain⟨u,h4,h5⟩:=g3.get hv;exact⟨u,w,Hm (uO nf) h3 (sS _ _ h4),m,Z,Step.refl hs,h5⟩
   .cases h
  .cases h
 .rename_i n nf;split at h
  .rename_i hk;have hk:=lb hk;cases h;have hl:=g3.length;refine⟨.agg ((cur.toList.drop off).take n).toArray,w,o5 _ (qx nf) h3 (by simp at hl ⊢;omega) λj u hj=>?_,m,Z,Step.refl hs,_,rfl,(g3.drop off).take n⟩;rw[Addr.add_lit]
   have R6:j<n:=by have:=(bx.1 hj).1;simp at this;omega
   rw[cE,aP R6,dw]at hj;exact sS _ _ hj
  .cases h
 .cases h
def zAd{t k off bt:Nat}{a x:bB}{cs:List V}(ha:a_ ρ a=.ptr k 0 off)(hp:(a_ ρ x).plain=bg)(h1:(a_ ρ x).cells.all V.one=bg)(gp:Ho P t (a_ ρ x).cells.length=bg)(Mq:off+(a_ ρ x).cells.length<=cs.length):
  Loc P ⟨dst,.store t a x,ty,pos,aft,gd⟩ ρ [(k,.box bt cs)] .no [(k,.box bt (cs.take off++(a_ ρ x).cells++cs.drop (off+(a_ ρ x).cells.length)))]:=by
 intro ρr m Z w bT hs _;have hx:=bT a (by simp[Op.operands]);rw[ha]at hx;obtain⟨f,loc,e1,h2,h3⟩:=hx;cases e1;obtain⟨b,cur,g1,g2,g3,g4,g5⟩:=hs.holds _ (bS.2 rfl);rw[g1]at h2;cases h2;have hv:=(bT x (by simp[Op.operands])).cells hp;have rQ:=hv.length;have hl:=g3.length
 have tq:∀u∈(ev ρr x).cells.toList,u.oneCell'=bg:=λu hu=>by
  obtain⟨i,hi,he⟩:=dS hu
  have hg:(ev ρr x).cells.toList[i]?=bc u:=by rw[<- he];exact bF hi
  have hvi:(a_ ρ x).cells[i]?=bc ((a_ ρ x).cells[i]' ab):=bF ab;obtain⟨u',h4,h5⟩:=hv.get hvi;rw[hg]at h4;cases h4;exact h5.one ((bj.1 h1) _ (dX _))
 unfold Ho at gp;split at gp
 .rename_i i hi;have RZ:=eb gp;have fS:=run_storeCells_at P b off bt (ev ρr x).cells.toList 0 cur w g2 (by simp at hl rQ ⊢;omega) tq;simp only[dM]at fS;have e:(ev ρr x).cells=(ev ρr x).cells.toList.toArray:=af;refine⟨rfl,.inr (.inl ⟨w.setRow b (cur.toList.take off++(ev ρr x).cells.toList++cur.toList.drop (off+(ev ρr x).cells.toList.length)).toArray,?_,m,Z,?_,rfl⟩)⟩
  .have Y_:(ev ρr x).cells.size=i.size:=by simp at rQ;omega
   simp[ca,Instr.storeAt,h3,Instr.sureAddr,storeVar,sizeOf,typeInfo,hi,Y_,fS]
  .refine Step.write (b:=b) hs (by simp[fD,qZ,Obj.hO,g1]) (QJ rfl rfl rfl) rfl rfl rfl af (λj hj=>setRow_other w b j _ hj) (λa x ha e=>aU e (g4 a x ha)) ?_;exact⟨b,_,g1,setRow_heap w b _ _ bt _ g2,by simpa using UB (off:=off) g3 hv,g4,g5⟩
 .cases gp
def zAe{t d:Nat}{cs:List V}(h:zeroV P t=bc cs):Loc P ⟨dst,.alloc t,ty,pos,aft,gd⟩ ρ [] (.ptr d 0 0) [(d,.box t cs)]:=by
 intro ρr m Z w bT hs iO;unfold zeroV at h;split at h
 .rename_i i hi;split at h
  .rename_i z hz;cases h
   obtain⟨m',h1,h2⟩:=Step.new (m:=m) (Z:=Z) (w:=w) (k:=d) (o:=.box t (z.cells.toList.map sd)) (.cells z.cells t) 1 hs.frozen (λL=>iO d (by simp[keys]) (by simp[keys]) L) λm' g1 g2 g3 =>
    ⟨w.heap.size,z.cells,g1,World.alloc_heap_new w _,AS _,λa x ha e=>by have:=vq hs.frozen ha;omega,λL l e=>by have:=g2 L l e;simp only[Obj.hO]at this;omega⟩
   refine⟨rfl,.inl ⟨.pointer (bc ⟨w.heap.size,0,bh⟩),w.alloc (.cells z.cells t),?_,m',Z,h1,m',_,rfl,h2,rfl⟩⟩;simp[ca,Instr.alloc,zeroValue,typeInfo,hi,hz,newVar,newRow,newObj];rfl
  .cases h
 .cases h
def zOn{t d:Nat}{x:bB}(hp:(a_ ρ x).plain=bg):Loc P ⟨dst,.box t x,ty,pos,aft,gd⟩ ρ [] (.ptr d 0 0) [(d,.box t (a_ ρ x).cells)]:=by
 intro ρr m Z w bT hs iO;have hv:=(bT x (by simp[Op.operands])).cells hp
 obtain⟨m',h1,h2⟩:=Step.new (m:=m) (Z:=Z) (w:=w) (k:=d) (o:=.box t (a_ ρ x).cells) (.cells (ev ρr x).cells t) 1 hs.frozen (λL=>iO d (by simp[keys]) (by simp[keys]) L) λm' g1 g2 g3 =>
  ⟨w.heap.size,(ev ρr x).cells,g1,World.alloc_heap_new w _,hv.up (λ_ _ e=>e) (λf e=>by cases e;exact⟨m',rfl,g3⟩),λa x ha e=>by have:=vq hs.frozen ha;omega,λL l e=>by have:=g2 L l e;simp only[Obj.hO]at this;omega⟩
 refine⟨rfl,.inl ⟨.pointer (bc ⟨w.heap.size,0,bh⟩),w.alloc (.cells (ev ρr x).cells t),?_,m',Z,h1,m',_,rfl,h2,rfl⟩⟩;simp[ca,Instr.box,newVar,newRow,newObj];rfl
def zbd{t d:Nat}:Loc P ⟨dst,.makeMap t bh,ty,pos,aft,gd⟩ ρ [] (.mp d) [(d,.map [])]:=by
 intro ρr m Z w bT hs iO
 obtain⟨m',h1,h2⟩:=Step.new (m:=m) (Z:=Z) (w:=w) (k:=d) (o:=.map []) (.map #[] 0) 1 hs.frozen (λL=>iO d (by simp[keys]) (by simp[keys]) L) λm' g1 g2 g3 =>
  ⟨w.heap.size,#[],0,g1,World.alloc_heap_new w _,rfl,af,af,λa x ha e=>by (have:=vq hs.frozen ha;omega),0,λL l e=>by have:=g2 L l e;simp only[Obj.hO]at this;omega⟩
 refine⟨rfl,.inl ⟨.map (bc w.heap.size),w.alloc (.map #[] 0),?_,m',Z,h1,m',_,rfl,h2,rfl⟩⟩;simp[ca,Instr.makeMap,newObj];rfl
def zll{n sz:Nat}:∀(parts:List (Nat×V))(j:Nat)(cells:List V),parts.map (·.1)=abX j parts.length->j+parts.length=n->cells.length=n*sz->(∀p∈parts,p.2.plain=bg/\p.2.cells.length=sz) ->
  uq ((cQ n).map λi=>(i*sz,sz)) cells parts=bc (cells.take (j*sz)++(parts.map (·.2.cells)).flatten)
 |[],j,cells,_,hn,hc,_=>by
  simp only[uq,cX,List.flatten_nil,bM,Option.some.injEq];rw[cI];simp at hn;subst hn;omega
 |(i,v)::parts,j,cells,h1,hn,hc,hp=>by
  simp only[gf,lc,aa8,List.cons.injEq]at h1 hn;obtain⟨rfl,h1⟩:=h1;obtain⟨hv,Ec⟩:=hp (i,v) al;have hin:i<n:=ab
  have B2:((cQ n).map λi=>(i*sz,sz))[i]?=bc (i*sz,sz):=by rw[cC,dQ hin];rfl
  have hle:i*sz+sz<=n*sz:=by
   have:(i+1)*sz<=n*sz:=cj sz hin
   rwa [dx]at this
  simp only[uq,B2,hv,Ec,cF,Bool.true_and]
  have hb:cw (i*sz+sz) cells.length=bg:=by rw[hc];exact Nat.ble_eq_true_of_le hle
  rw[aP hb];rw[zll parts (i+1) _ h1 ab (by simp only[la,bX,bU,Ec,hc];omega) (λp iT=>hp p (gq _ iT))]
  congr 1
  have e:(i+1)*sz=(cells.take (i*sz)++v.cells).length:=by simp[Ec,dx];omega
  rw[e,List.take_left' rfl];simp
def zet{t d e n sz:Nat}{parts:List (Nat×bB)}{els:List (List V)}(hT:JB P t=bc (e,sz))(gp:cw (n*sz) 16777216=bg)(h:Gv n sz (parts.map λp=>(p.1,a_ ρ p.2))=bc els):
  Loc P ⟨dst,.buildSlice t n parts.toArray,ty,pos,aft,gd⟩ ρ [] (.sl sz d n 0 n) [(d,.row e sz 0 els)]:=by
 intro ρr m Z w bT hs iO;have gp:=lb gp;unfold JB at hT;split at hT
 .rename_i e' hu;split at hT
  .rename_i i hi;split at hT
   .rename_i hc;simp only[Option.some.injEq,Prod.mk.injEq]at hT;obtain⟨rfl,rfl⟩:=hT;simp only[bn]at hc;have h0:=lb hc.1;obtain⟨z,hz⟩:=Option.isSome_iff_exists.1 hc.2;unfold Gv at h;split at h
    .rename_i Y9;split at h
     .rename_i nX;cases h
      have hlen:parts.length=n:=by have:=aQ bf Y9;simpa using this
      have MD:∀p∈parts.map (λp=>(p.1,a_ ρ p.2)),p.2.plain=bg/\p.2.cells.length=i.size/\p.2.cells.all V.one=bg/\p.2.refs=[]:=λp hp=>by have:=(bj.1 nX) p hp;simp only[bn,eF]at this;exact⟨this.1,eb this.2.1,this.2.2.1,this.2.2.2⟩
      have adV:((iq (n*i.size)).map λj=>z.cells[j % z.cells.size]!).toList.length=n*i.size:=af;have adL:=zll (n:=n) (sz:=i.size) (parts.map λp=>(p.1,a_ ρ p.2)) 0 (((iq (n*i.size)).map λj=>z.cells[j % z.cells.size]!).toList.map λ_=>V.undef) (by rw[Y9];simp[List.range_eq_range',hlen]) (by simp[hlen]) af (λp hp=>⟨(MD p hp).1,(MD p hp).2.1⟩);simp only[eK,List.take_zero,cl]at adL
      have hun:∀l:List bu,zG (bc m) Z (l.map λ_=>V.undef) l:=λl=>by
       induction l with
       |nil=>rfl
       |cons x l ih=>exact⟨x,l,rfl,trivial,ih⟩
      obtain⟨a',RU,tw⟩:=ZP (m:=bc m) (Z:=Z) (places:=(cQ n).map λj=>(j*i.size,i.size)) (place:=λj=>bc (j*i.size,i.size)) (by
       intro j p hp;rw[cC]at hp;obtain⟨j',BY,rfl⟩:=cx.1 hp
       have fZ:j<n:=by have:=(bx.1 BY).1;simpa using this
       rw[dQ fZ]at BY
       cases BY;rfl) (ps:=parts.map λp=>(p.1,ev ρr p.2)) (hun _) af (by
        rw[cW,cW]
        refine zG.n7 af λi v x hv hx=>?_
        rw[cC]at hv hx;obtain⟨p,hp,rfl⟩:=cx.1 hv;rw[hp]at hx;simp only[cZ,Option.some.injEq,Function.comp]at hx;subst hx
        exact bT p.2 (by have:=bG hp;simp only[Op.operands,abW];exact cm this)) adL
      have nY:(((parts.map λp=>(p.1,a_ ρ p.2)).map (·.2.cells)):List (List V)).length=n:=by simp[hlen]
      have aj3:∀l:List (Nat×V),(∀p∈l,p.2.refs=[])->wi (l.map (·.2.cells)).flatten=[]:=λl=>by
       induction l with
       |nil=>intro _;rfl
       |cons p l ih =>
        intro hp
        have ahI:∀a b:List V,wi (a++b)=wi a++wi b:=λa b=>by
         induction a with
         |nil=>rfl
         |cons x a ih=>simp[wi,ih]
        rw[gf,cK,ahI,ih (λq hq=>hp q (gq _ hq)),bM];have h1:=hp p al;cases hv:p.2<;>rw[hv]at h1<;>simp only[V.cells,wi,bM]<;>exact h1
      have hla:∀l:List (Nat×V),(∀p∈l,p.2.cells.length=i.size)->(l.map (·.2.cells)).flatten.length=l.length*i.size:=λl=>by
       induction l with
       |nil=>intro _;simp
       |cons p l ih =>intro hp;rw[gf,cK,la,ih (λq hq=>hp q (gq _ hq)),hp p al,lc,dx];omega
      have adj:a'.size=n*i.size:=by have h1:=tw.length;rw[hla _ (λp hp=>(MD p hp).2.1)]at h1;simpa[hlen]using h1
      have hf3:=zG.flat _ _ (aj3 _ λp hp=>(MD p hp).2.2.2) tw
      have hnm:n<=maxLen:=by have:n<=n*i.size:=Nat.le_mul_of_pos_right n h0;simp only[maxLen];omega
      obtain⟨m',h1,h2⟩:=Step.new (m:=m) (Z:=Z) (w:=w) (k:=d) (o:=.row e' i.size 0 ((parts.map λp=>(p.1,a_ ρ p.2)).map (·.2.cells))) (.cells a' e') n hs.frozen (λL=>iO d (by simp[keys]) (by simp[keys]) L) λm' g1 g2 g3=>by
       by_cases nv:n=0
       .have he:((parts.map λp=>(p.1,a_ ρ p.2)).map (·.2.cells))=[]:=cD (by rw[nY,nv])
        have B5:(Obj.row e' i.size 0 ((parts.map λp=>(p.1,a_ ρ p.2)).map (·.2.cells))).hO=0:=by simp only[Obj.hO];rw[nY,nv]
        rw[B5]at g1;subst nv;exact .inl ⟨h0,he,rfl,⟨_,g1⟩,λL l e=>by have:=g2 L l e;rw[B5]at this;omega⟩
       refine .inr ⟨w.heap.size,n,a',(0,0),g1,ab,World.alloc_heap_new w _,by rw[nY];exact du _,hnm,adj,h0,?_,?_,af,af,λa x ha e=>by have:=vq hs.frozen ha;omega,λL l e=>by have:=g2 L l e;simp only[Obj.hO]at this;omega,λoff x ho=>ab⟩
       .rw[nY,cI (by simp[adj])];exact hf3
       .intro x hx;obtain⟨p,hp,rfl⟩:=bz.1 hx;exact(MD p hp).2.1
      have y4:(Obj.row e' i.size 0 ((parts.map λp=>(p.1,a_ ρ p.2)).map (·.2.cells))).hO=n:=nY;rw[y4]at h2;refine⟨rfl,.inl ⟨.slice (bc ⟨w.heap.size,0,bh⟩) n n,w.alloc (.cells a' e'),?_,m',Z,h1,m',_,rfl,h2,af,hnm,.inl af⟩⟩
      have e2:(parts.toArray.map λx=>(x.1,ev ρr x.2)).toList=parts.map λp=>(p.1,ev ρr p.2):=af
      have hgt:¬n*i.size>2 ^ 24:=ab;simp only[ca,Instr.buildSlice,Sem.run_bind,run_underlying hu,Result.andThen_ok,sizeOf,typeInfo];simp only[program,Sem.run,hi,Sem.run_bind,Sem.run_pure,Result.andThen_ok,aO hgt,e2];by_cases nv:n*i.size=0
      .have hA:∀f:Nat->bu,(iq (n*i.size)).map f=#[]:=λf=>by have e0:iq 0=(#[]:Array Nat):=rfl;rw[nv,e0];simp
       rw[hA]at RU;simp only[aP nv,Sem.run_pure,Result.andThen_ok,hA,RU];simp[newRow,newObj];rfl
      .simp only[aO nv,Sem.run_bind,zeroValue,typeInfo,program,Sem.run,hi,hz,Sem.run_pure,Result.andThen_ok,RU];simp[newRow,newObj];rfl
     .cases h
    .cases h
   .cases hT
  .cases hT
 .cases hT
end
def ax.set:ax->Nat->Obj->ax
 |[],_,_=>[]
 |(k',o')::r,k,o=>bif bk k k' then(k',o)::r else(k',o')::ax.set r k o
def jW(k:Nat):ax->Bool
 |[]=>bd
 |(k',_)::r=>bif bk k k' then bg else jW k r
def yK{k:Nat}:∀{H:ax},jW k H=bg↔k∈keys H
 |[]=>by simp[jW,keys]
 |(k',o)::r=>by
  simp only[jW,keys,gf,bq]
  cases hb:bk k k' with
  |true=>simp[eb hb]
  |false =>
   have:k≠k':=λe=>by subst e;rw[cF]at hb;cases hb
   simp only[cf,this,false_or];exact yK
def zOo{H:ax}{k:Nat}{o:Obj}(h:H.get k=bc o):ua [k] H=bc [(k,o)]:=by simp[ua,h]
def pP(d:Option Nat)(v:V)(ρ:Env):Env:=match d with|some d=>(d,v)::ρ|none=>ρ
section
variable{K0:List Nat}{c:Ctx K0}{P:bm}{r:Option Nat}{N:Nat}{Q:xH}{ρ:Env}{H H':ax}{ds:List cg}{all rest:List Oper}{o:Oper}
def Kv.perm{ρr:yC}{w:bE}(hp:H.Perm H')(S:Kv c ρ H ρr w):Kv c ρ H' ρr w:=by obtain⟨m,Z,S,hR⟩:=S;exact⟨m,Z,⟨S.step.MJ hp,λk hk=>S.rn k λh=>hk ((hp.map _).mem_iff.1 h)⟩,hR⟩
def zOp(hp:H.Perm H')(h:Zn c P r N all Q rest ρ H' ds):Zn c P r N all Q rest ρ H ds:=λρr w iX S hM=>h ρr w iX (S.perm hp) hM
def zHm(h:(keys H).Nodup->Zn c P r N all Q rest ρ H ds):Zn c P r N all Q rest ρ H ds:=λρr w iX S hM=>by obtain⟨m,Z,S',hR⟩:=id S;exact h S'.step.gy.nodup ρr w iX S hM
def zUd{F F':ax}{v:V}(ks:List Nat)(hd:(match o.dst with|some d=>cw (d+1) N|none=>bg)=bg)(hw:yR all ρ o=bc bg)(lH:nodupB ks=bg)(hF:ua ks H=bc F)(hl:Loc P o ρ F v F')(iO:JE F' ks H=bg)
  (h:Zn c P r N all Q rest (pP o.dst v ρ) (F'++qw ks H) ds):Zn c P r N all Q (o::rest) ρ H ds:=by
 cases lf:o.dst with
 |none=>rw[lf]at h;exact zOh ks lf hw lH hF hl iO h
 |some d=>rw[lf]at h hd;exact zT7 d ks lf hd hw lH hF hl iO h
def zHn:qw [] H=H:=by simp[qw]
end
def mx(P:bm)(f:FuncId)(args:List V)(F:ax)(r:V)(F':ax):Prop:=
 ∀w m Z vals,wo m Z F w->zG (bc m) Z args vals->(∀k,k ∉ keys F->∀L,m k L=bh) ->
  Calls P f vals.toArray w λen w'=>∃x m' Z',en=.returned x/\Step m Z F w m' Z' F' w'/\aV (bc m') Z' r x
def ur(args:List V):Env:=args.zipIdx.map λp=>(p.2,p.1)
def Vt{m:Option M}{Z:ZM}:∀(args:List V)(vals:List bu)(j t:Nat),zG m Z args vals->aV m Z (Env.get ((args.zipIdx j).map λp=>(p.2,p.1)) t) (if j<=t then vals.getD (t-j) Go.undef else Go.undef)
 |[],vals,j,t,h=>by
  cases h
  show True
  trivial
 |v::args,vals,j,t,h=>by
  obtain⟨x,xs,rfl,h1,h2⟩:=h
  show aV m Z (bif bk t j then v else(Env.get ((args.zipIdx (j+1)).map λp=>(p.2,p.1)) t)) _
  cases hb:bk t j with
  |true =>
   have:=eb hb;subst this;simpa using h1
  |false =>
   have g_:t≠j:=λe=>by subst e;rw[cF]at hb;cases hb
   have ih:=Vt args xs (j+1) t h2;rw[cf];by_cases hj:j<=t
   .rw[aP hj];rw[aP ab]at ih;have e:t-j=(t-(j+1))+1:=ab;rw[e];simpa using ih
   .rw[aO hj];rw[aO ab]at ih;exact ih
def K_(P:bm)(ρ:Env)(H:ax):ResultVar->Option V
 |.tmp t=>bc (ρ.get t)
 |.cell a ty=>match ρ.get a with
  |.ptr k 0 off=>match H.get k with
   |some (.box _ cs)=>mO P ty cs off
   |_=>bh
  |_=>bh
def Bo(P:bm)(ρ:Env)(H:ax):List ResultVar->Option (List V)
 |[]=>bc []
 |x::l=>match K_ P ρ H x,Bo P ρ H l with|some v,bc vs=>bc (v::vs)|_,_=>bh
def FZ(fn:Func)(ρ:Env)(H:ax)(P:bm):Option V:=
 match Bo P ρ H fn.results.toList with
 |some [v]=>bc v
 |some vs=>bc (.gu vs)
 |none=>bh
def F3(r:V)(F':ax)(K0:List Nat):Bool:=
 let ks:=keys F'
 nodupB ks&&(K0.all ks.contains&&(r.refs.all ks.contains&&F'.all λp=>p.2.refs.all ks.contains))
def K'(P:bm)(fn:Func)(K0:List Nat)(r:V)(F':ax):xH
 |.normal,ρ,H,ds|.ret,ρ,H,ds=>ds=[]/\FZ fn ρ H P=bc r/\ua (keys F') H=bc F'/\F3 r F' K0=bg
 |_,_,_,_=>False
section
variable{P:bm}{f:FuncId}{args:List V}{F F':ax}{r:V}{N:Nat}
def Gk(tmps:Array bu):ResultVar->Sem bu
 |.tmp t=>pure (tmps.getD t Go.undef)
 |.cell a t=>do loadVar t (<- asAddr (tmps.getD a Go.undef))
def zw4{m:M}{Z:ZM}{H:ax}{w:bE}{ρ:Env}{ρr:yC}{v:V}(hs:wo m Z H w)(hR:pO m Z ρ ρr){tmps:Array bu}(ht:∀t,tmps.getD t Go.undef=ρr t):∀{x:ResultVar},K_ P ρ H x=bc v ->
  ∃u,(Gk tmps x).run P w=.ok u w/\aV (bc m) Z v u
 |.tmp t,h=>by
  cases h;exact⟨ρr t,by simp only[Gk,ht];rfl,hR t⟩
 |.cell a ty,h=>by
  simp only[K_]at h;split at h
  .rename_i k off ha;split at h
   .rename_i bt cs hk;obtain⟨b,cur,g1,g2,g3,g4,g5⟩:=hs.holds _ (ax.get_mem hk);have hr:=hR a;rw[ha]at hr;obtain⟨f',loc,e1,e2,e3⟩:=hr;cases e1;rw[g1]at e2;cases e2
    have sS:∀j u,cur.toList[j]?=bc u->w.cell? ⟨b,j,bh⟩=bc u:=λj u hu=>by rw[cell_of_row w b j cur bt (0,0) g2];simpa using hu
    unfold mO at h;split at h
    .rename_i nf;split at h
     .rename_i u hu;split at h
      .cases h;obtain⟨y,h6,h7⟩:=g3.get hu;have hc:=sS off y h6;refine⟨y,?_,h7⟩;simp[Gk,ht,e3,asAddr,loadVar,qm (uO nf),load,Sem.run,hc]
      .cases h
     .cases h
    .rename_i n nf;split at h
     .rename_i l8;have l8:=lb l8;cases h;have hl:=g3.length
      have hll:((cur.toList.drop off).take n).length=n:=by simp at hl ⊢;omega
      refine⟨.agg ((cur.toList.drop off).take n).toArray,?_,_,rfl,(g3.drop off).take n⟩;obtain⟨d',i',lf,_,RY,me⟩:=id (qx nf)
      have l7:∀j u,((cur.toList.drop off).take n)[j]?=bc u->w.cell? ((⟨b,off,bh⟩:Addr).add j)=bc u:=λj u hj=>by
       rw[Addr.add_lit]
       have R6:j<n:=by have:=(bx.1 hj).1;simp at this;omega
       rw[cE,aP R6,dw]at hj;exact sS _ _ hj
      have FF:=run_loadCells_list (P:=P) w (⟨b,off,bh⟩:Addr) _ l7;rw[hll]at FF;simp only[Gk,ht,e3,asAddr,loadVar,Sem.run_bind,Sem.run_pure,Result.andThen_ok,Hl (qx nf),if_true];simp[sizeOf,typeInfo,RY,me,FF,Sem.run]
     .cases h
    .cases h
   .cases h
  .cases h
def zfn{m:M}{Z:ZM}{H:ax}{w:bE}{ρ:Env}{ρr:yC}(hs:wo m Z H w)(hR:pO m Z ρ ρr){tmps:Array bu}(ht:∀t,tmps.getD t Go.undef=ρr t):∀{l:List ResultVar}{vs:List V},Bo P ρ H l=bc vs ->
  ∃us,(l.mapM (Gk tmps)).run P w=.ok us w/\zG (bc m) Z vs us
 |[],vs,h=>by
  cases h;exact⟨[],af,rfl⟩
 |x::l,vs,h=>by
  simp only[Bo]at h;split at h
  .rename_i v vs' h1 h2;cases h;obtain⟨u,h3,h4⟩:=zw4 hs hR ht h1;obtain⟨us,h5,h6⟩:=zfn hs hR ht h2;exact⟨u::us,by simp[List.mapM_cons,h3,h5],u,us,rfl,h4,h6⟩
  .cases h
def zfo{m:M}{Z:ZM}{H:ax}{w:bE}{ρ:Env}{ρr:yC}{fn:Func}{r:V}(hs:wo m Z H w)(hR:pO m Z ρ ρr)(h:FZ fn ρ H P=bc r){tmps:Array bu}(ht:∀t,tmps.getD t Go.undef=ρr t):
  ∃x,(results fn tmps).run P w=.ok x w/\aV (bc m) Z r x:=by
 have key:∀vs,Bo P ρ H fn.results.toList=bc vs->∃us:List bu,(results fn tmps).run P w=.ok (if h:us.toArray.size=1 then us.toArray[0]else .tuple us.toArray) w/\zG (bc m) Z vs us:=by
  intro vs hv;obtain⟨us,h1,h2⟩:=zfn hs hR ht hv;refine⟨us,?_,h2⟩
  have e:results fn tmps=(do let vs <- fn.results.mapM (Gk tmps);pure (if h:vs.size=1 then vs[0]else .tuple vs)):=by
   unfold results
   congr 1
  rw[e,Array.mapM_eq_mapM_toList];simp[h1]
 unfold FZ at h;split at h
 .rename_i v hv;cases h;obtain⟨us,h1,h2⟩:=key _ hv;obtain⟨u,us',rfl,h3,h4⟩:=h2;cases h4;exact⟨u,by simpa using h1,h3⟩
 .rename_i vs g_ hv;cases h;obtain⟨us,h1,h2⟩:=key _ hv
  have hl:us.toArray.size≠1:=λe=>by
   have:=h2.length;simp only[cH]at e;rw[e]at this
   match vs,this with
   |[v],_=>exact g_ v rfl
   |[],h=>simp at h
   |_::_::_,h=>simp at h
  rw[dif_neg hl]at h1;exact⟨_,h1,us,rfl,h2⟩
 .cases h
def Vq{K0:List Nat}{c:Ctx K0}{m:M}{Z:ZM}{H:ax}:∀(Ds:List Nat)(w:bE),Ds.Nodup->(∀D∈Ds,w.heap[D]?=bc (.deferred (bc []))/\c.W0.heap.size<=D)->QI c m Z H w->∃w',iE.Mh (Ds.map iE.mark) w w'/\QI c m Z H w'
 |[],w,_,_,S=>⟨w,rfl,S⟩
 |D::Ds,w,hn,hD,S=>by
  obtain⟨h1,h2⟩:=cJ.1 hn;obtain⟨h3,h4⟩:=hD D al
  have S':QI c m Z H (w.putObj D (.deferred bh)):=S.lps (row:=bc D) (iE.aaa w D _) λb e=>by
   cases e;exact⟨h4,_,h3,rfl⟩
  obtain⟨w',h5,h6⟩:=Vq Ds _ h2 (λD' sD=>by
   obtain⟨h7,h8⟩:=hD D' (gq _ sD)
   exact⟨(World.putObj_heap_other (λe=>h1 (by first|(rw[<- e];exact sD)|(rw[e];exact sD)))).trans h7,h8⟩) S'
  exact⟨w',⟨D,rfl,h3,h5⟩,h6⟩
def zAf{fn:Func}{code:Code}(hf:P.funcs[f]?=bc fn)(hb:fn.body=bc code)(hN:fn.ntmps=N)(ha:cw args.length N=bg)
  (h:∀c:Ctx (keys F),lK c P bh N code (K' P fn (keys F) r F') (ur args) F []):mx P f args F r F':=by
 intro w m Z vals hs hv sQ;have Ec:=hv.length
 have S:Kv (⟨[],w,m,Z,F,rfl,sQ⟩:Ctx (keys F)) (ur args) F (jw vals) w:=⟨m,Z,⟨Step.refl hs,sQ⟩,λt=>by
  have:=Vt args vals 0 t hv
  simpa[ur,jw]using this⟩
 have h':=h ⟨[],w,m,Z,F,rfl,sQ⟩ _ _ _ S (xg.nil rfl);have ha:=lb ha;refine(callsIn_wide (n:=0)).1 (callsIn_of_wp_marks hf hb trivial ?_)
 refine wpIn_mono (h' _ 0 ⟨?_,rfl,λt=>?_⟩) λe a w' hq=>?_
 .simp;omega
 .simp only[jw,cz,bY];rw[Array.getElem?_append];split
  .simp
  .rename_i fZ;simp only[cH]at fZ;rw[List.getElem?_eq_none ab];simp only[cH];rw[dF];split<;>rfl
 .obtain⟨y2,lX,mb,ρ',H',S',FG,hq⟩:=hq;obtain⟨Ds,ru,hn,hD⟩:=FG.marks rfl
  have key:K' P fn (keys F) r F' .ret ρ' H' []->∃w2 v,iE.Mh a.defers w' w2/\(results fn a.tmps).run P w2=.ok v w2/\∃x m' Z',Ending.returned v=.returned x/\Step m Z F w m' Z' F' w2/\aV (bc m') Z' r x:=by rintro⟨_,E7,na,pS⟩;simp only[F3,bn]at pS;obtain⟨h1,h2,h3,h4⟩:=pS;obtain⟨m',Z',S2,hR⟩:=S';obtain⟨w2,ht,S4⟩:=Vq Ds w' hn hD S2;obtain⟨m2,S3,hc⟩:=S4.cut (keys F') na h1 h2 h4;obtain⟨x,Ef,n_⟩:=zfo S4.step.gy hR E7 (tmps:=a.tmps) mb.get;exact⟨w2,x,by rw[mb.defs,ru];exact ht,Ef,x,m2,Z',rfl,S3.step,hc _ _ h3 n_⟩
  cases e with
  |normal =>
   obtain⟨w2,v,ht,hr,hR⟩:=key hq;exact iE.od _ _ _ ht hr hR
  |ret =>
   obtain⟨w2,v,ht,hr,hR⟩:=key hq;exact iE.od _ _ _ ht hr hR
  |panic c=>exact hq.elim
  |exit id=>exact hq.elim
  |goto l=>exact hq.elim
  |outgrown=>exact hq.elim
end
def Obj.dW(σ:Nat->Nat):Obj->Obj
 |.box t cs=>.box t (nS σ cs)
 |o=>o
def JF(σ:Nat->Nat)(F:ax):ax:=F.map λp=>(σ p.1,p.2.dW σ)
def iy:List (Nat×Nat)->Nat->Nat
 |[],k=>k
 |(a,b)::r,k=>bif bk k a then b else iy r k
def AA(args:List V)(F:ax):Bool:=(wi args).all (keys F).contains&&F.all λp=>p.2.refs.all (keys F).contains
def ve{σ:Nat->Nat}{F:ax}:keys (JF σ F)=(keys F).map σ:=by simp[keys,JF]
def Lx{σ:Nat->Nat}{m mc:M}{p:Nat×Obj}(h:mc p.1=m (σ p.1)):fD mc p=fD m (σ p.1,p.2.dW σ):=by
 obtain⟨k,o⟩:=p;simp only at h
 funext b
 cases o<;>simp only[fD,qZ,Obj.dW,Obj.hO,h]
mutual
def aV.sT{f f':M}{Z:ZM}(σ:Nat->Nat):∀(v:V)(x:bu),(∀k∈v.refs,∀L loc,f (σ k) L=bc loc->f' k L=bc loc)->aV (bc f) Z (v.dW σ) x->aV (bc f') Z v x
 |.undef,x,_,h=>trivial
 |.no,x,_,h=>h
 |.int k n,x,_,h=>h
 |.bool b,x,_,h=>h
 |.str l,x,_,h=>h
 |.kq,x,_,h=>h
 |.ptr k L off,x,hm,h=>by
  obtain⟨g,loc,h1,h2,h3⟩:=h;cases h1;exact⟨f',loc,rfl,hm k (by simp[V.refs]) _ _ h2,h3⟩
 |.vp cs off,x,_,h=>h
 |.gR,x,_,h=>h
 |.sl sz k L o n,x,hm,h=>by
  obtain⟨g,loc,h1,h2,h3⟩:=h;cases h1;exact⟨f',loc,rfl,hm k (by simp[V.refs]) _ _ h2,h3⟩
 |.vs sz els,x,_,h=>h
 |.fn g first caps,x,hm,h=>by
  obtain⟨l1,l2,h1,h2,h3⟩:=h;exact⟨l1,l2,h1,zG.sT σ first l1 (λk hk=>hm k (by simp[V.refs,hk])) h2,zG.sT σ caps l2 (λk hk=>hm k (by simp[V.refs,hk])) h3⟩
 |.lZ,x,_,h=>h
 |.agg cs,x,hm,h=>by
  obtain⟨l,h1,h2⟩:=h;exact⟨l,h1,zG.sT σ cs l (λk hk=>hm k (by simpa[V.refs]using hk)) h2⟩
 |.gu xs,x,hm,h=>by
  obtain⟨l,h1,h2⟩:=h;exact⟨l,h1,zG.sT σ xs l (λk hk=>hm k (by simpa[V.refs]using hk)) h2⟩
 |.k_,x,_,h=>h
 |.mp k,x,hm,h=>by
  obtain⟨g,loc,h1,h2,h3⟩:=h;cases h1;exact⟨f',loc,rfl,hm k (by simp[V.refs]) _ _ h2,h3⟩
 |.lJ,x,_,h=>h
 |.iG t v,x,hm,h=>by
  obtain⟨y,h1,h2⟩:=h;exact⟨y,h1,aV.sT σ v y (λk hk=>hm k (by simpa[V.refs]using hk)) h2⟩
 |.gv k R,x,hm,h=>by
  obtain⟨g,h1,h2⟩:=h;cases h1;exact⟨f',rfl,R.mono _ _ _ (hm k (by simp[V.refs])) h2⟩
 |.pv R,x,hm,h=>h
def zG.sT{f f':M}{Z:ZM}(σ:Nat->Nat):∀(vs:List V)(l:List bu),(∀k∈wi vs,∀L loc,f (σ k) L=bc loc->f' k L=bc loc)->zG (bc f) Z (nS σ vs) l->zG (bc f') Z vs l
 |[],l,_,h=>h
 |v::vs,l,hm,h=>by obtain⟨x,xs,h1,h2,h3⟩:=h;exact⟨x,xs,h1,aV.sT σ v x (λk hk=>hm k (by simp[wi,hk])) h2,zG.sT σ vs xs (λk hk=>hm k (by simp[wi,hk])) h3⟩
end
section
variable{P:bm}{f:FuncId}{args:List V}{F F':ax}{r:V}{σ:Nat->Nat}
def S8{l:List Nat}(h:(l.map σ).Nodup):∀{a b:Nat},a∈l->b∈l->σ a=σ b->a=b:=by
 induction l with
 |nil=>intro a b ha;cases ha
 |cons x l ih =>
  rw[gf,cJ]at h;intro a b ha hb e
  rcases bq.1 ha with h1|h1<;>rcases bq.1 hb with h2|h2
  .rw[h1,h2]
  .subst h1;exact(h.1 (e▸cm h2)).elim
  .subst h2;exact(h.1 (e▸cm h1)).elim
  .exact ih h.2 h1 h2 e
def mx.at(h:mx P f args F r F')(sw:nodupB ((keys F').map σ)=bg)(lk:AA args F=bg)(nZ:((keys F).all (keys F').contains)=bg):
  ∀w m Z vals,wo m Z (JF σ F) w->zG (bc m) Z (nS σ args) vals->(∀k∈keys (JF σ F'),k ∉ keys (JF σ F)->∀L,m k L=bh) ->
   Calls P f vals.toArray w λen w'=>∃x m' Z',en=.returned x/\Step m Z (JF σ F) w m' Z' (JF σ F') w'/\aV (bc m') Z' (r.dW σ) x:=by
 intro w m Z vals hs hv lh;simp only[AA,bn]at lk
 have P6:∀k∈keys F,k∈keys F':=λk hk=>by have:=(bj.1 nZ) k hk;simpa using this
 have y3:∀{a b:Nat},a∈keys F'->b∈keys F'->σ a=σ b->a=b:=S8 (yj sw)
 let mc:M:=λk L=>if k∈keys F then m (σ k) L else bh
 have rz:∀k∈keys F,mc k=m (σ k):=λk hk=>by funext L;simp[mc,hk]
 have E5:∀k,k ∉ keys F->∀L,mc k L=bh:=λk hk L=>by simp[mc,hk]
 have nL:∀p∈F,fD mc p=fD m (σ p.1,p.2.dW σ):=λp hp=>Lx (rz p.1 (ay hp))
 have gV:∀p∈F,(σ p.1,p.2.dW σ)∈JF σ F:=λp hp=>bz.2 ⟨p,hp,rfl⟩
 have IE:wo mc Z F w:=by
  refine⟨hs.frozen,λp hp=>?_,?_,λp hp q hq b h1 h2=>?_⟩
  .have hh:=hs.holds _ (gV p hp);have hk:=rz p.1 (ay hp);obtain⟨k,o⟩:=p
   cases o with
   |box t cs =>
    obtain⟨b,cur,h1,h2,h3,h4,h5⟩:=hh;refine⟨b,cur,by rw[hk];exact h1,h2,zG.sT σ cs _ (λj hj L loc e=>?_) h3,h4,by rw[hk];exact h5⟩;have:=(bj.1 lk.2) _ hp;have:=(bj.1 this) j hj;rw[rz j (by simpa using this)];exact e
   |row t sz fz els =>
    rcases hh with⟨h1,h2,h3,⟨b,h4⟩,h5⟩|⟨b,cap,cur,fr,h1,h2⟩
    .exact .inl ⟨h1,h2,h3,⟨b,by rw[hk];exact h4⟩,by rw[hk];exact h5⟩
    .exact .inr ⟨b,cap,cur,fr,by rw[hk];exact h1,by rw[hk];exact h2⟩
   |map l =>
    obtain⟨b,es,clock,h1,h2⟩:=hh;exact⟨b,es,clock,by rw[hk];exact h1,by rw[hk];exact h2⟩
   |kg g t cs=>exact⟨by rw[hk];exact hh.1,hh.2.1,by rw[hk];exact hh.2.2⟩
   |nest t e sz pd ls =>
    show q9 (mc k) _ _ t e sz pd ls
    rw[hk];exact hh
   |gen G =>
    show G.holds (mc k) _ _
    rw[hk];exact hh
  .have:=hs.nodup;rw[ve]at this;exact wj _ this
  .rw[nL p hp]at h1;rw[nL q hq]at h2;exact y3 (P6 _ (ay hp)) (P6 _ (ay hq)) (hs.nW _ (gV p hp) _ (gV q hq) b h1 h2)
 refine Calls.mono (h w mc Z vals IE (zG.sT σ args vals (λj hj L loc e=>?_) hv) E5) ?_
 .have:=(bj.1 lk.1) j hj;rw[rz j (by simpa using this)];exact e
 rintro en w' ⟨x,IL,Z',he,fS,hr⟩
 let m':M:=λk2 L=>match (keys F').find? (λi=>decide (σ i=k2))with
  |some i=>IL i L
  |none=>m k2 L
 have PU:∀i∈keys F',m' (σ i)=IL i:=λi hi=>by
  funext L
  cases hf:(keys F').find? (λj=>decide (σ j=σ i))with
  |none =>
   have:=fo.1 hf i hi;simp at this
  |some j =>
   have h1:=List.find?_some hf;have h2:=List.mem_of_find?_eq_some hf;simp only[aW]at h1;have:=y3 h2 hi h1;subst this;simp only[m',hf]
 have adq:∀k,k ∉ keys (JF σ F')->m' k=m k:=λk hk=>by
  funext L
  have:(keys F').find? (λj=>decide (σ j=k))=bh:=fo.2 λj hj=>by simp only[aW];rintro rfl;exact hk (by rw[ve];exact cm hj)
  simp only[m',this]
 have DF:∀i∈keys F',∀L loc,IL i L=bc loc->m' (σ i) L=bc loc:=λi hi L loc e=>by rw[PU i hi];exact e
 have adK:∀k L loc,IL k L=bc loc->m' (σ k) L=bc loc:=λk L loc e=>by
  by_cases hk:k∈keys F'
  .exact DF k hk L loc e
  .rw[fS.pT k hk]at e;rw[E5 k (λh'=>hk (P6 k h'))]at e;cases e
 have ZK:∀p∈F',fD m' (σ p.1,p.2.dW σ)=fD IL p:=λp hp=>(Lx (PU p.1 (ay hp)).symm).symm
 have Z0:∀p∈F,∀b,fD mc p b->∃q∈JF σ F,fD m q b:=λp hp b hb=>⟨_,gV p hp,by rw[<- nL p hp];exact hb⟩
 refine⟨x,m',Z',he,⟨⟨fS.gy.frozen,?_,?_,?_⟩,?_,fS.lR,fS.os,fS.tape,fS.output,fS.size,?_,?_,adq,?_,?_⟩,aV.dW σ r x (λk _ L loc e=>adK k L loc e) hr⟩
 .intro q hq;obtain⟨p,hp,rfl⟩:=bz.1 hq;have hh:=fS.gy.holds p hp;have hk:=PU p.1 (ay hp);obtain⟨k,o⟩:=p
  cases o with
  |box t cs =>
   obtain⟨b,cur,h1,h2,h3,h4,h5⟩:=hh;exact⟨b,cur,by rw[hk];exact h1,h2,zG.dW σ cs _ (λj _ L loc e=>adK j L loc e) h3,h4,by rw[hk];exact h5⟩
  |row t sz fz els =>
   rcases hh with⟨h1,h2,h3,⟨b,h4⟩,h5⟩|⟨b,cap,cur,fr,h1,h2⟩
   .exact .inl ⟨h1,h2,h3,⟨b,by rw[hk];exact h4⟩,by rw[hk];exact h5⟩
   .exact .inr ⟨b,cap,cur,fr,by rw[hk];exact h1,by rw[hk];exact h2⟩
  |map l =>
   obtain⟨b,es,clock,h1,h2⟩:=hh;exact⟨b,es,clock,by rw[hk];exact h1,by rw[hk];exact h2⟩
  |kg g t cs=>exact⟨by rw[hk];exact hh.1,hh.2.1,by rw[hk];exact hh.2.2⟩
  |nest t e sz pd ls =>
   show q9 (m' (σ k)) _ _ t e sz pd ls
   rw[hk];exact hh
  |gen G =>
   show G.holds (m' (σ k)) _ _
   rw[hk];exact hh
 .rw[ve];exact yj sw
 .intro p hp q hq b h1 h2;obtain⟨p',iT,rfl⟩:=bz.1 hp;obtain⟨q',mf,rfl⟩:=bz.1 hq;rw[ZK p' iT]at h1;rw[ZK q' mf]at h2;exact aQ σ (fS.gy.nW p' iT q' mf b h1 h2)
 .intro k L loc e;by_cases hk:k∈keys (JF σ F')
  .rw[ve]at hk;obtain⟨i,hi,rfl⟩:=bz.1 hk;rw[PU i hi];by_cases hiF:i∈keys F
   .exact fS.mM i L loc (by rw[rz i hiF];exact e)
   .rw[lh (σ i) (by rw[ve];exact cm hi) (λh'=>by
     rw[ve]at h';obtain⟨j,hj,e'⟩:=bz.1 h';have:=y3 (P6 j hj) hi e';subst this
     exact hiF hj)]at e
    cases e
  .rw[adq k hk];exact e
 .intro b hb hn
  exact fS.frame b hb λp hp e=>by obtain⟨q,hq,e'⟩:=Z0 p hp b e;exact hn q hq e'
 .intro k hk;rw[ve]at hk ⊢;obtain⟨i,hi,rfl⟩:=bz.1 hk;exact cm (fS.keep i hi)
 .intro q hq b hb;obtain⟨p,hp,rfl⟩:=bz.1 hq;rw[ZK p hp]at hb
  exact(fS.mn p hp b hb).imp id λ⟨p',iT,e⟩=>Z0 p' iT b e
 .intro a x ha;exact(fS.mB a x ha).imp id (Or.imp id λ⟨p',iT,e⟩=>Z0 p' iT _ e)
end
mutual
inductive av(F:ax):V->V->Prop
 |aiE {v v':V} (h:∀(m:Option M)(Z:ZM)(x:bu),aV m Z v x->aV m Z v' x):av F v v'
 |same (v:V):av F v v
 |gR (sz:Nat):av F .gR (.vs sz [])
 |row {k sz t fz L:Nat} {els:List (List V)} (h:F.get k=bc (.row t sz fz els)) (hL:L=els.length):av F (.sl sz k L 0 L) (.vs sz els)
 |sub {k sz t fz L o n:Nat} {els:List (List V)} (h:F.get k=bc (.row t sz fz els)) (hL:L=els.length) (hn:o+n<=L):av F (.sl sz k L o n) (.vs sz ((els.drop o).take n))
 |agg {cs iK:List V} (h:jT F cs iK):av F (.agg cs) (.agg iK)
 |pU {k sz t fz L:Nat} {els:List (List V)} (h:F.get k=bc (.row t sz fz els)) (hL:L=els.length):av F (.gv k (C' sz L)) (.vs sz els)
inductive jT(F:ax):List V->List V->Prop
 |nil:jT F [] []
 |cons {v v':V} {l l':List V} (h:av F v v') (h':jT F l l'):jT F (v::l) (v'::l')
end
def gD:ax->ax
 |[]=>[]
 |(k,.row t sz _ els)::r=>(k,.row t sz els.length els)::gD r
 |p::r=>p::gD r
open Classical in
noncomputable def rb(m:M)(Z:ZM)(F:ax)(w:bE):ZM:=λa =>
 if a.spot=bh/\∃k t sz fz els b cap,(k,Obj.row t sz fz els)∈F/\m k els.length=bc (b,cap)/\0<cap/\a.block=b/\a.off<els.length*sz then w.cell? a else Z a
def kI:∀{F:ax}{p:Nat×Obj},p∈gD F->(∃k t sz fz els,(k,Obj.row t sz fz els)∈F/\p=(k,.row t sz els.length els))∨(p∈F/\∀t sz fz els,p.2≠.row t sz fz els)
 |[],p,h=>by cases h
 |(k,.row t sz fz els)::r,p,h=>by
  simp only[gD]at h
  rcases bq.1 h with rfl|h
  .exact .inl ⟨k,t,sz,fz,els,al,rfl⟩
  .rcases kI h with⟨k,t,sz,fz,els,h1,h2⟩|⟨h1,h2⟩
   .exact .inl ⟨k,t,sz,fz,els,gq _ h1,h2⟩
   .exact .inr ⟨gq _ h1,h2⟩
 |(k,.box t cs)::r,p,h=>by
  simp only[gD]at h
  rcases bq.1 h with rfl|h
  .exact .inr ⟨al,λ_ _ _ _ e=>by cases e⟩
  .rcases kI h with⟨k,t,sz,fz,els,h1,h2⟩|⟨h1,h2⟩
   .exact .inl ⟨k,t,sz,fz,els,gq _ h1,h2⟩
   .exact .inr ⟨gq _ h1,h2⟩
 |(k,.map l)::r,p,h=>by
  simp only[gD]at h
  rcases bq.1 h with rfl|h
  .exact .inr ⟨al,λ_ _ _ _ e=>by cases e⟩
  .rcases kI h with⟨k,t,sz,fz,els,h1,h2⟩|⟨h1,h2⟩
   .exact .inl ⟨k,t,sz,fz,els,gq _ h1,h2⟩
   .exact .inr ⟨gq _ h1,h2⟩
 |(k,.kg g t cs)::r,p,h=>by
  simp only[gD]at h
  rcases bq.1 h with rfl|h
  .exact .inr ⟨al,λ_ _ _ _ e=>by cases e⟩
  .rcases kI h with⟨k,t,sz,fz,els,h1,h2⟩|⟨h1,h2⟩
   .exact .inl ⟨k,t,sz,fz,els,gq _ h1,h2⟩
   .exact .inr ⟨gq _ h1,h2⟩
 |(k,.nest g t sz0 pd0 ls0)::r,p,h=>by
  simp only[gD]at h
  rcases bq.1 h with rfl|h
  .exact .inr ⟨al,λ_ _ _ _ e=>by cases e⟩
  .rcases kI h with⟨k,t,sz,fz,els,h1,h2⟩|⟨h1,h2⟩
   .exact .inl ⟨k,t,sz,fz,els,gq _ h1,h2⟩
   .exact .inr ⟨gq _ h1,h2⟩
 |(k,.gen g)::r,p,h=>by
  simp only[gD]at h
  rcases bq.1 h with rfl|h
  .exact .inr ⟨al,λ_ _ _ _ e=>by cases e⟩
  .rcases kI h with⟨k,t,sz,fz,els,h1,h2⟩|⟨h1,h2⟩
   .exact .inl ⟨k,t,sz,fz,els,gq _ h1,h2⟩
   .exact .inr ⟨gq _ h1,h2⟩
def wu:∀{F:ax},keys (gD F)=keys F
 |[]=>rfl
 |(k,.row t sz fz els)::r=>by simp only[gD,keys,gf];congr 1;exact wu
 |(k,.box t cs)::r=>by simp only[gD,keys,gf];congr 1;exact wu
 |(k,.map l)::r=>by simp only[gD,keys,gf];congr 1;exact wu
 |(k,.kg g t cs)::r=>by simp only[gD,keys,gf];congr 1;exact wu
 |(k,.nest g t sz0 pd0 ls0)::r=>by simp only[gD,keys,gf];congr 1;exact wu
 |(k,.gen g)::r=>by simp only[gD,keys,gf];congr 1;exact wu
section
variable{m:M}{Z:ZM}{F:ax}{w:bE}
def Xy(hf:∀a x,Z a=bc x->w.cell? a=bc x):∀a x,Z a=bc x->rb m Z F w a=bc x:=λa x h=>by
 unfold rb;split
 .exact hf a x h
 .exact h
def zAh(hf:∀a x,Z a=bc x->w.cell? a=bc x):∀a x,rb m Z F w a=bc x->w.cell? a=bc x:=λa x h=>by
 unfold rb at h;split at h
 .exact h
 .exact hf a x h
def ztj:∀{l:ax},(keys l).Nodup->∀p∈l,∀q∈l,q.1=p.1->q=p:=by
 intro l hl
 induction l with
 |nil=>intro p hp;cases hp
 |cons a l ih =>
  simp only[keys,gf,cJ]at hl;intro p hp q hq e
  rcases bq.1 hp with h1|h1<;>rcases bq.1 hq with h2|h2
  .rw[h1,h2]
  .exact(hl.1 (bz.2 ⟨q,h2,by rw[e,h1]⟩)).elim
  .exact(hl.1 (bz.2 ⟨p,h1,by rw[<- e,h2]⟩)).elim
  .exact ih hl.2 p h1 q h2 e
def Step.freeze(hs:wo m Z F w):Step m Z F w m (rb m Z F w) (gD F) w:=by
 have y4:∀p∈gD F,∃q∈F,p.1=q.1/\fD m p=fD m q:=λp hp=>by
  rcases kI hp with⟨k,t,sz,fz,els,h1,h2⟩|⟨h1,_⟩
  .subst h2;exact⟨_,h1,rfl,rfl⟩
  .exact⟨p,h1,rfl,rfl⟩
 have Sr:∀a x,rb m Z F w a=bc x->Z a=bc x∨∃k t sz fz els b cap,(k,Obj.row t sz fz els)∈F/\m k els.length=bc (b,cap)/\0<cap/\a.block=b/\a.off<els.length*sz:=λa x h=>by
  unfold rb at h;split at h
  .rename_i hc;exact .inr hc.2
  .exact .inl h
 refine⟨⟨zAh hs.frozen,λp hp=>?_,by rw[wu];exact hs.nodup,λp hp q hq b h1 h2=>?_⟩,λ_ _ _ e=>e,Xy hs.frozen,rfl,rfl,rfl,aq,λ_ _ _=>rfl,λk hk=>by rw[wu];exact hk,λ_ _=>rfl,λp hp b hb=>?_,λa x ha=>?_⟩
 .rcases kI hp with⟨k,t,sz,fz,els,h1,h2⟩|⟨h1,h2⟩
  .subst h2
   rcases hs.holds _ h1 with⟨g1,rfl,g3,g4,g5⟩|⟨b,cap,cur,fr,g1,g0,g2,g3,g4,g5,g6,g7,g8,g9,g10,g11,g12,g13⟩
   .exact .inl ⟨g1,rfl,rfl,g4,g5⟩
   have nr:cap≠0:=ab;refine .inr ⟨b,cap,cur,fr,g1,g0,g2,g3,g4,g5,g6,g7.up (Xy hs.frozen) (λf e=>by cases e),g8,cR g9 (cj _ g10),aq,λa x ha e=>?_,g12,λoff x ho hx=>?_⟩
   .rcases Sr a x ha with h'|⟨k',t',iF,pq,BJ,b',BI,rq,sA,acp,BP,Rq⟩
    .exact eu (g11 a x h' e) (cj _ g10)
    .have Ip:BI≠0:=ab;have hk:k'=k:=hs.nW _ rq _ h1 b (by simp[fD,qZ,Obj.hO,sA,Ip,<- BP,e]) (by simp[fD,qZ,Obj.hO,g1,nr]);subst hk;have hq:=ztj hs.nodup _ h1 _ rq rfl;simp only[Prod.mk.injEq,Obj.row.injEq,true_and]at hq;obtain⟨_,rfl,_,rfl⟩:=hq;exact Rq
   .unfold rb;rw[aP ⟨rfl,k,t,sz,fz,els,b,cap,h1,g1,g0,rfl,ho⟩,cell_of_row w b off cur t fr g2];exact hx
  .have hh:=hs.holds p h1
   refine hh.keep (λ_ _ _ e=>e) rfl (Xy hs.frozen) λb hb=>⟨rfl,λa x ha e=>?_⟩
   rcases Sr a x ha with h'|⟨k',t',iF,pq,BJ,b',BI,rq,sA,acp,BP,Rq⟩
   .exact h'
   .have Ip:BI≠0:=ab;have hk:k'=p.1:=hs.nW _ rq _ h1 b (by simp[fD,qZ,Obj.hO,sA,Ip,<- BP,e]) hb;have:=ztj hs.nodup p h1 _ rq hk;exact aU (by rw[<- this]) (h2 t' iF pq BJ)
 .obtain⟨p',iT,e1,e2⟩:=y4 p hp;obtain⟨q',mf,e3,e4⟩:=y4 q hq;rw[e1,e3];exact hs.nW p' iT q' mf b (e2▸h1) (e4▸h2)
 .obtain⟨q,hq,_,e⟩:=y4 p hp;exact .inr ⟨q,hq,e▸hb⟩
 .rcases Sr a x ha with h'|⟨k',t',iF,pq,BJ,b',BI,rq,sA,acp,BP,Rq⟩
  .exact .inl h'
  .have Ip:BI≠0:=ab;exact .inr (.inr ⟨_,rq,by simp[fD,qZ,Obj.hO,sA,BP,Ip]⟩)
end
def o7{sz:Nat}:∀{els:List (List V)},(∀e∈els,e.length=sz)->∀{i j:Nat}{cs:List V}{v:V},els[i]?=bc cs->cs[j]?=bc v->els.flatten[i*sz+j]?=bc v
 |[],_,i,j,cs,v,h,_=>by simp at h
 |e::r,hk,0,j,cs,v,h,hj=>by
  simp only[eI,Option.some.injEq]at h;subst h;rw[cK,eK,cA,dV (bx.1 hj).1];exact hj
 |e::r,hk,i+1,j,cs,v,h,hj=>by have he:=hk e al;rw[cK,List.getElem?_append_right (by rw[he,dx];omega)];rw[show(i+1)*sz+j-e.length=i*sz+j by rw[he,dx];omega];exact o7 (λx hx=>hk x (gq _ hx)) (by simpa using h) hj
def wk{sz:Nat}:∀{els:List (List V)},(∀e∈els,e.length=sz)->els.flatten.length=els.length*sz
 |[],_=>af
 |e::r,hk=>by rw[cK,la,wk (λx hx=>hk x (gq _ hx)),hk e al,lc,dx];omega
section
variable{m:M}{Z:ZM}{F:ax}{w:bE}
def Xz{k t sz:Nat}{els:List (List V)}(h:Holds m Z w k (.row t sz els.length els)):∃b cap,m k els.length=bc (b,cap)/\els.length<=cap/\(cap=0∨wm Z ⟨b,0,bh⟩ sz 0 els):=by
 rcases h with⟨g1,rfl,g3,⟨b,g4⟩,g5⟩|⟨b,cap,cur,fr,g1,g0,g2,g3,g4,g5,g6,g7,g8,g9,g10,g11,g12,g13⟩
 .exact⟨b,0,g4,aq,.inl rfl⟩
 refine⟨b,cap,g1,g3,.inr (wm.n7 λi cs hi=>⟨g8 cs (bG hi),Ay.n7 λj v hj=>?_⟩)⟩;have R3:i<els.length:=(bx.1 hi).1
 have CO:j<sz:=by have:=(bx.1 hj).1;rw[g8 cs (bG hi)]at this;exact this
 have fZ:i*sz+j<els.length*sz:=by have:(i+1)*sz<=els.length*sz:=cj sz R3;rw[dx]at this;omega
 obtain⟨x,h1,h2⟩:=g7.get (o7 g8 hi hj);rw[cE,aP fZ]at h1;refine⟨x,?_,h2⟩;rw[cA,cA,Vr,Addr.add_lit,cA];exact g13 _ x fZ (by simpa using h1)
def Vs{m:Option M}{Z:ZM}{k sz n:Nat}{x:bu}(h:aV m Z (.gv k (C' sz n)) x):aV m Z (.sl sz k n 0 n) x:=by
 obtain⟨f,hf,loc,h1,h2,h3,h4⟩:=h;refine⟨f,loc,hf,h1,ab,h3,?_⟩
 rcases h4 with⟨_,h4⟩|⟨h5,h6,h4⟩
 .exact .inl h4
 .exact .inr (.inl ⟨h6,bh,h4⟩)
def zw5{m:Option M}{Z:ZM}{k sz n:Nat}{x:bu}(hn:n≠0)(h:aV m Z (.sl sz k n 0 n) x):aV m Z (.gv k (C' sz n)) x:=by
 obtain⟨f,loc,hf,h1,h2,h3,h4⟩:=h;refine⟨f,hf,loc,h1,ab,h3,.inl ⟨hn,?_⟩⟩
 rcases h4 with h4|⟨h4,_⟩|⟨h4,_⟩
 .exact h4
 .omega
 .omega
mutual
def av.rep(hs:∀k t sz fz els,F.get k=bc (.row t sz fz els)->Holds m Z w k (.row t sz els.length els)):∀{v v':V},av F v v'->∀{x:bu},aV (bc m) Z v x->aV (bc m) Z v' x
 |_,_,.aiE hw,x,h=>hw _ _ _ h
 |_,_,.same v,x,h=>h
 |_,_,.gR sz,x,h=>⟨bh,0,h,aq,bP _,.inl rfl⟩
 |_,_,.row (k:=k) (sz:=sz) (t:=t) (fz:=fz) (L:=L) (els:=els) hg hL,x,h=>by
  subst hL;obtain⟨b,cap,h1,h2,h4⟩:=Xz (hs _ _ _ _ _ hg);obtain⟨f,loc,e1,e2,e3,e4,e5⟩:=h;cases e1;rw[h1]at e2;cases e2
  rcases e5 with e5|⟨e5,A,e6⟩|⟨e5,_⟩
  .refine⟨_,_,e5,by simpa using h2,by simpa using e4,?_⟩
   rcases h4 with h4|h4
   .exact .inl (cD ab)
   .exact .inr ⟨⟨b,0,bh⟩,af,h4⟩
  .have:els=[]:=cD (by simp only at e5;omega);subst this;exact⟨A,0,e6,aq,by simp[maxLen],.inl rfl⟩
  .omega
 |_,_,.pU (k:=k) (sz:=sz) (t:=t) (fz:=fz) (L:=L) (els:=els) hg hL,x,h=>by
  subst hL;have h:=Vs h;obtain⟨b,cap,h1,h2,h4⟩:=Xz (hs _ _ _ _ _ hg);obtain⟨f,loc,e1,e2,e3,e4,e5⟩:=h;cases e1;rw[h1]at e2;cases e2
  rcases e5 with e5|⟨e5,A,e6⟩|⟨e5,_⟩
  .refine⟨_,_,e5,by simpa using h2,by simpa using e4,?_⟩
   rcases h4 with h4|h4
   .exact .inl (cD ab)
   .exact .inr ⟨⟨b,0,bh⟩,af,h4⟩
  .have:els=[]:=cD (by simp only at e5;omega);subst this;exact⟨A,0,e6,aq,by simp[maxLen],.inl rfl⟩
  .omega
 |_,_,.sub (k:=k) (sz:=sz) (t:=t) (fz:=fz) (L:=L) (o:=o) (n:=n) (els:=els) hg hL hn,x,h=>by
  subst hL;obtain⟨b,cap,h1,h2,h4⟩:=Xz (hs _ _ _ _ _ hg);obtain⟨f,loc,e1,e2,e3,e4,e5⟩:=h;cases e1;rw[h1]at e2;cases e2
  have hl:((els.drop o).take n).length=n:=by simp;omega
  simp only at e3 e4 e5
  rcases e5 with e5|⟨e5,A,e6⟩|⟨_,e5,A,c',e6,e7⟩
  .refine⟨bc ⟨b,o*sz,bh⟩,cap-o,by rw[hl];exact e5,by rw[hl];omega,ab,?_⟩
   rcases h4 with h4|h4
   .exact .inl (cD (by rw[hl];omega))
   refine .inr ⟨_,rfl,wm.n7 λi cs hi=>?_⟩;rw[cE]at hi;split at hi
   .rw[dw]at hi;have:=h4.get hi;refine⟨this.1,?_⟩;have h5:=this.2;rw[Addr.add_lit]at h5 ⊢;rw[show o*sz+(0+i)*sz=0+(0+(o+i))*sz by rw[cA,cA,cA,dC]];exact h5
   .cases hi
  .have h0:(els.drop o).take n=[]:=cD (by rw[hl];omega);rw[h0];exact⟨A,0,e6,aq,by simp[maxLen],.inl rfl⟩
  .have h0:(els.drop o).take n=[]:=cD (by rw[hl];omega);rw[h0];exact⟨A,c',e6,bP _,e7,.inl rfl⟩
 |_,_,.agg hl,x,h=>by obtain⟨l,h1,h2⟩:=h;exact⟨l,h1,jT.rep hs hl h2⟩
def jT.rep(hs:∀k t sz fz els,F.get k=bc (.row t sz fz els)->Holds m Z w k (.row t sz els.length els)):∀{l l':List V},jT F l l'->∀{xs:List bu},zG (bc m) Z l xs->zG (bc m) Z l' xs
 |_,_,.nil,xs,h=>h
 |_,_,.cons h1 h2,xs,h=>by obtain⟨x,xs',rfl,h3,h4⟩:=h;exact⟨x,xs',rfl,av.rep hs h1 h3,jT.rep hs h2 h4⟩
end
end
mutual
/-- No slice among it that is only read. -/
def V.bare:V->Bool
 |.vs ..|.vp ..|.pv ..=>bd
 |.agg cs=>Vu cs
 |.gu xs=>Vu xs
 |.fn _ a b=>Vu a&&Vu b
 |.iG _ v=>v.bare
 |_=>bg
def Vu:List V->Bool
 |[]=>bg
 |v::l=>v.bare&&Vu l
end
mutual
def aV.bare{m:Option M}{Z Z':ZM}:∀(v:V)(x:bu),v.bare=bg->aV m Z v x->aV m Z' v x
 |.undef,x,_,h=>trivial
 |.no,x,_,h=>h
 |.int k n,x,_,h=>h
 |.bool b,x,_,h=>h
 |.str l,x,_,h=>h
 |.kq,x,_,h=>h
 |.ptr k L off,x,_,h=>h
 |.vp cs off,x,hb,h=>by cases hb
 |.gR,x,_,h=>h
 |.sl sz k L o n,x,_,h=>h
 |.vs sz els,x,hb,h=>by cases hb
 |.fn g first caps,x,hb,h=>by
  obtain⟨l1,l2,h1,h2,h3⟩:=h;simp only[V.bare,bn]at hb;exact⟨l1,l2,h1,zG.bare first l1 hb.1 h2,zG.bare caps l2 hb.2 h3⟩
 |.lZ,x,_,h=>h
 |.agg cs,x,hb,h=>by
  obtain⟨l,h1,h2⟩:=h;exact⟨l,h1,zG.bare cs l hb h2⟩
 |.gu xs,x,hb,h=>by
  obtain⟨l,h1,h2⟩:=h;exact⟨l,h1,zG.bare xs l hb h2⟩
 |.k_,x,_,h=>h
 |.mp k,x,_,h=>h
 |.lJ,x,_,h=>h
 |.iG t v,x,hb,h=>by
  obtain⟨y,h1,h2⟩:=h;exact⟨y,h1,aV.bare v y hb h2⟩
 |.gv k R,x,_,h=>h
 |.pv R,x,hb,h=>by cases hb
def zG.bare{m:Option M}{Z Z':ZM}:∀(vs:List V)(l:List bu),Vu vs=bg->zG m Z vs l->zG m Z' vs l
 |[],l,_,h=>h
 |v::vs,l,hb,h=>by obtain⟨x,xs,h1,h2,h3⟩:=h;simp only[Vu,bn]at hb;exact⟨x,xs,h1,aV.bare v x hb.1 h2,zG.bare vs xs hb.2 h3⟩
end
def get_of_mem{F:ax}(hn:(keys F).Nodup):∀{k:Nat}{o:Obj},(k,o)∈F->F.get k=bc o:=by
 induction F with
 |nil=>intro k o h;cases h
 |cons p F ih =>
  obtain⟨k',o'⟩:=p;simp only[keys,gf,cJ]at hn;intro k o h;simp only[ax.get]
  rcases bq.1 h with h|h
  .cases h;rw[cF];rfl
  .have g_:k≠k':=λe=>hn.1 (e▸cm h)
   have:bk k k'=bd:=by
    cases hb:bk k k' with
    |true=>exact aU (eb hb) g_
    |false=>rfl
   rw[this,cf];exact ih hn.2 h
section
variable{P:bm}{ρ:Env}{w:bE}{dst:Option Tmp}{ty:bA}{pos:String}{aft:Array Edge}{gd:Option (Nat×Bool)}{f:FuncId}{l:List bB}{ts:Array bA}{args:List V}{F F' R:ax}{r:V}
def zAi{ρr:yC}{w:bE}{Rr:bu->bE->Prop}(hf:ze P f)(h:Calls P f (l.map (ev ρr)).toArray w λen w'=>∃x,en=.returned x/\Rr x w'):Ep P ⟨dst,.call ⟨.value (.func f),l.toArray,ts⟩,ty,pos,aft,gd⟩ ρr w Rr:=⟨rfl,.inr (.inr ⟨f,_,w,ztc _ hf rfl,h⟩)⟩
end
inductive Src(sz:Nat)(R:ax):V->List (List V)->Prop
 |vs (ys:List (List V)):Src sz R (.vs sz ys) ys
 |gR:Src sz R .gR []
 |sl {k L t fz:Nat} {ys:List (List V)} (h:R.get k=bc (.row t sz fz ys)) (hL:L=ys.length):Src sz R (.sl sz k L 0 L) ys
def zAj{Z:ZM}{w:bE}{a:Addr}{sz:Nat}{ys:List (List V)}(h0:0<sz)(hf:∀a x,Z a=bc x->w.cell? a=bc x)(h:wm Z a sz 0 ys):
  ∃news:List bu,zG bh Z ys.flatten news/\∀j u,news[j]?=bc u->w.cell? (a.add j)=bc u:=by
 have hlen:∀e∈ys,e.length=sz:=λe he=>by obtain⟨i,hi,rfl⟩:=dS he;exact(h.get (bF hi)).1
 have rP:=wk hlen
 have key:∀j,j<ys.flatten.length->∃x,w.cell? (a.add j)=bc x/\∀v,ys.flatten[j]?=bc v->aV bh Z v x:=λj hj=>by
  rw[rP]at hj;have hdiv:j / sz<ys.length:=(Nat.div_lt_iff_lt_mul h0).2 hj;have alA:j % sz<sz:=Nat.mod_lt _ h0
  have CN:j / sz*sz+j % sz=j:=by rw[Nat.mul_comm];exact Nat.div_add_mod j sz
  have It:ys[j / sz]?=bc (ys[j / sz]'hdiv):=bF hdiv;have hel:=hlen _ (dX hdiv);obtain⟨_,FC⟩:=h.get It;have hv:(ys[j / sz]'hdiv)[j % sz]?=bc ((ys[j / sz]'hdiv)[j % sz]' ab):=bF ab;obtain⟨x,h1,h2⟩:=FC.get hv;rw[cA,cA,Vr,CN]at h1;refine⟨x,hf _ _ h1,λv Sl=>?_⟩;have:=o7 hlen It hv;rw[CN,Sl]at this;cases this;exact h2
 let news:List bu:=(cQ ys.flatten.length).map λj=>(w.cell? (a.add j)).getD Go.undef
 have pg:∀j,j<ys.flatten.length->news[j]?=w.cell? (a.add j):=λj hj=>by obtain⟨x,h1,_⟩:=key j hj;simp only[news,cC,dQ hj,cZ,h1,dJ]
 refine⟨news,zG.n7 (by simp[news]) λj v x hv hx=>?_,λj u hj=>?_⟩
 .have hj:=(bx.1 hv).1;obtain⟨y,h1,h2⟩:=key j hj;rw[pg j hj,h1]at hx;cases hx;exact h2 v hv
 .have CO:j<ys.flatten.length:=by have:=(bx.1 hj).1;simpa[news]using this
  rw[<- pg j CO];exact hj
def Src.read{m:M}{Z:ZM}{w:bE}{R:ax}{sz:Nat}{y:V}{ys:List (List V)}{x:bu}(h:Src sz R y ys)(h0:0<sz)(hs:wo m Z R w)(hx:aV (bc m) Z y x):
  ∃A c,x=.slice A ys.length c/\ys.length<=maxLen/\(A=bh->ys=[])/\∀a,A=bc a->∃news:List bu,zG bh Z ys.flatten news/\∀j u,news[j]?=bc u->w.cell? (a.add j)=bc u:=by
 cases h with
 |vs =>
  obtain⟨A,c,h1,h2,h3,h4⟩:=hx;refine⟨A,c,h1,ab,λhA=>?_,λa hA=>?_⟩
  .rcases h4 with h4|⟨a,h4,_⟩
   .exact h4
   .rw[hA]at h4;cases h4
  .rcases h4 with h4|⟨a',h4,h5⟩
   .subst h4;exact⟨[],rfl,λj u h=>by simp at h⟩
   .rw[hA]at h4;cases h4;exact zAj h0 hs.frozen h5
 |gR=>exact⟨bh,0,hx,by simp[maxLen],λ_=>rfl,λa h=>by cases h⟩
 |sl hg hL =>
  subst hL;obtain⟨f,loc,e1,e2,e3,e4,e5⟩:=hx;cases e1
  replace e5:=e5.imp_right λh=>h.resolve_right λh=>gI 0 h.1
  rcases hs.holds _ (ax.get_mem hg)with⟨_,h1,_,⟨b,h3⟩,_⟩|⟨b,cap,cur,fr,g1,g0,g2,g3,g4,g5,g6,g7,g8,g9,g10,g11,g12,g13⟩
  .subst h1
   rcases e5 with e5|⟨_,A,e5⟩
   .exact⟨_,_,e5,by simp[maxLen],λ_=>rfl,λa _=>⟨[],rfl,λj u h=>by simp at h⟩⟩
   .exact⟨_,_,e5,by simp[maxLen],λ_=>rfl,λa _=>⟨[],rfl,λj u h=>by simp at h⟩⟩
  .rw[g1]at e2;cases e2
   rcases e5 with e5|⟨e5,_⟩
   .refine⟨_,_,e5,ab,λh=>(by cases h),λa h=>?_⟩;cases h;refine⟨_,g7,λj u hj=>?_⟩;rw[Addr.add_lit,eK,cA,cell_of_row w b j cur _ fr g2];rw[cE]at hj;split at hj
    .simpa using hj
    .cases hj
   .simp only at e5;omega
def qy(P:bm)(t:Nat):Option (Nat×Nat×Nat):=
 match P.underlying t with
 |some (.slice e)=>match P.info? e with
  |some i=>match i.zero with
   |some z=>if cw 1 i.size&&bk z.cells.size i.size then bc (e,i.size,i.bytes)else bh
   |none=>bh
  |none=>bh
 |_=>bh
def qz{P:bm}{t e sz bytes:Nat}(h:qy P t=bc (e,sz,bytes)):∃i z,P.underlying t=bc (.slice e)/\P.info? e=bc i/\i.zero=bc z/\i.size=sz/\i.bytes=bytes/\z.cells.size=sz/\0<sz:=by
 unfold qy at h;split at h
 .rename_i e' hu;split at h
  .rename_i i hi;split at h
   .rename_i z hz;split at h
    .rename_i hc;simp only[bn]at hc;simp only[Option.some.injEq,Prod.mk.injEq]at h;obtain⟨rfl,rfl,rfl⟩:=h;exact⟨i,z,hu,hi,hz,rfl,rfl,eb hc.2,lb hc.1⟩
    .cases h
   .cases h
  .cases h
 .cases h
section
variable{P:bm}{m:M}{Z:ZM}{w:bE}
def Wz{vs:List V}{l:List bu}{mm:Option M}(h:zG mm Z vs l)(h1:vs.all V.one=bg):∀u∈l,u.oneCell'=bg:=λu hu=>by obtain⟨i,hi,he⟩:=dS hu;have hl:=h.length;have hv:vs[i]?=bc (vs[i]' ab):=bF ab;obtain⟨u',h4,h5⟩:=h.get hv;rw[bF hi,he]at h4;cases h4;exact h5.one ((bj.1 h1) _ (dX _))
def Step.grown{k t sz fz:Nat}{els all:List (List V)}{cur:Array bu}{cap:Nat}{o:Obj}{w1:bE}(hs:wo m Z [(k,o)] w)(y4:o.hO=els.length)(lh:∀L loc,m k L=bc loc->L<=els.length)(fZ:els.length<all.length)
  (hh:w1.heap=w.heap) (h1:w1.os=w.os) (h2:w1.tape=w.tape) (h3:w1.output=w.output)
  (h0:0<sz) (Mo:all.length<=cap) (CJ:cap<=maxLen) (l7:cur.size=cap*sz) (hr:zG bh Z all.flatten (cur.toList.take (all.length*sz))) (hk:∀e∈all,e.length=sz) (nt:fz<=els.length):
  ∃m' Z',Step m Z [(k,o)] w m' Z' [(k,.row t sz fz all)] (w1.alloc (.cells cur t))/\m' k all.length=bc (w.heap.size,cap):=by
 let m':M:=λk' L=>if k'=k/\L=all.length then bc (w.heap.size,cap)else m k' L
 have tU:m' k all.length=bc (w.heap.size,cap):=by simp[m']
 have sX:∀k' L loc,m k' L=bc loc->m' k' L=bc loc:=λk' L loc e=>by
  by_cases hc:k'=k/\L=all.length
  .obtain⟨rfl,rfl⟩:=hc;have:=lh _ _ e;omega
  .simp only[m',aO hc];exact e
 let Z':ZM:=λa=>if a.block=w.heap.size/\a.spot=bh/\a.off<fz*sz then cur[a.off]? else Z a
 have gp:w1.heap.size=w.heap.size:=by rw[hh]
 have YU:∀a x,Z a=bc x->a.block<w.heap.size:=λa x ha=>vq hs.frozen ha
 have hZ1:∀a x,Z a=bc x->Z' a=bc x:=λa x ha=>by have:=YU a x ha;simp only[Z',aO (show ¬(a.block=w.heap.size/\a.spot=bh/\a.off<fz*sz) by omega)];exact ha
 have DH:(w1.alloc (.cells cur t)).heap[w.heap.size]?=bc (.cells cur t (0,0)):=by rw[<- gp];exact World.alloc_heap_new w1 _
 have sS:∀off,(w1.alloc (.cells cur t)).cell? ⟨w.heap.size,off,bh⟩=cur[off]?:=λoff=>cell_of_row _ _ off cur t (0,0) DH
 have hold:∀j,j<w.heap.size->(w1.alloc (.cells cur t)).heap[j]?=w.heap[j]?:=λj hj=>by rw[<- hh];exact Below.heap_alloc w1 _ j ab
 have nr:cap≠0:=ab;refine⟨m',Z',⟨⟨λa x ha=>?_,λp hp=>?_,by simp[keys],λp hp q hq _ _ _=>?_⟩,sX,hZ1,h1,h2,h3,by simp[gp],λj hj _=>hold j hj,λj hj=>by simpa[keys]using hj,λj hj=>?_,λp hp b hb=>?_,λa x ha=>?_⟩,tU⟩
 .simp only[Z']at ha;split at ha
  .rename_i hc;obtain⟨b,off,sp⟩:=a;obtain⟨rfl,rfl,_⟩:=hc;rw[sS];exact ha
  .rw[AU (hold _ (YU a x ha))];exact hs.frozen a x ha
 .simp only[bS]at hp;subst hp;refine .inr ⟨w.heap.size,cap,cur,(0,0),tU,ab,DH,Mo,CJ,l7,h0,hr.up hZ1 (λf e=>by cases e),hk,af,ab,λa x ha e=>?_,λL loc e=>?_,λoff x ho hx=>?_⟩
  .simp only[Z']at ha;split at ha
   .rename_i hc;exact hc.2.2
   .have:=YU a x ha;omega
  .simp only[m']at e;split at e
   .rename_i hc;omega
   .have:=lh _ _ e;omega
  .simp only[Z'];rw[aP (by simp[ho])];exact hx
 .simp only[bS]at hp hq;subst hp;subst hq;rfl
 .funext L
  have:j≠k:=by simpa[keys]using hj
  simp[m',this]
 .simp only[bS]at hp;subst hp;simp only[fD,qZ,qZ,Obj.hO,tU,aC,aO nr,Option.some.injEq]at hb;exact .inl ab
 .simp only[Z']at ha;split at ha
  .rename_i hc;exact .inr (.inl ab)
  .exact .inl ha
def Step.akG{k t sz fz:Nat}{els all:List (List V)}{b cap:Nat}{cur cur':Array bu}{fr:Nat×Nat}(hs:wo m Z [(k,.row t sz fz els)] w)(g1:m k els.length=bc (b,cap))(g0:0<cap)(g2:w.heap[b]?=bc (.cells cur t fr))
  (hle:els.length<=all.length) (Mo:all.length<=cap) (l7:cur'.size=cap*sz) (MG:∀off,off<els.length*sz->cur'[off]?=cur[off]?) (hr:zG bh Z all.flatten (cur'.toList.take (all.length*sz))) (hk:∀e∈all,e.length=sz)
  {w':bE} (hw:w'=w.setRow b cur'):∃m',Step m Z [(k,.row t sz fz els)] w m' Z [(k,.row t sz fz all)] w'/\m' k all.length=bc (b,cap):=by
 subst hw
 rcases hs.holds _ (bS.2 rfl)with⟨_,h1,_,⟨b',h3⟩,_⟩|⟨b',BI,als,Re,Rh,alb,Ri,g3,g4,g5,g6,g7,g8,g9,g10,g11,g12,g13⟩
 .subst h1;have:=g1.symm.trans h3;simp only[Option.some.injEq,Prod.mk.injEq]at this;omega
 rw[g1]at Rh;simp only[Option.some.injEq,Prod.mk.injEq]at Rh;obtain⟨rfl,rfl⟩:=Rh;rw[g2]at Ri;simp only[Option.some.injEq,Obj.cells.injEq]at Ri;obtain⟨rfl,_,rfl⟩:=Ri
 let m':M:=λk' L=>if k'=k/\L=all.length then bc (b,cap)else m k' L
 have tU:m' k all.length=bc (b,cap):=by simp[m']
 have sX:∀k' L loc,m k' L=bc loc->m' k' L=bc loc:=λk' L loc e=>by
  by_cases hc:k'=k/\L=all.length
  .obtain⟨rfl,rfl⟩:=hc;have h:=g12 _ _ e;have:all.length=els.length:=ab;rw[this,g1]at e;rw[tU];exact e
  .simp only[m',aO hc];exact e
 have nr:cap≠0:=ab;have DH:=setRow_heap w b cur cur' t fr g2;have alx:b<w.heap.size:=(ck.1 g2).1;have alE:fz*sz<=els.length*sz:=cj _ g10
 have sS:∀off,(w.setRow b cur').cell? ⟨b,off,bh⟩=cur'[off]?:=λoff=>cell_of_row _ _ off cur' t fr DH
 refine⟨m',⟨⟨λa x ha=>?_,λp hp=>?_,by simp[keys],λp hp q hq _ _ _=>?_⟩,sX,λ_ _ e=>e,rfl,rfl,rfl,af,λj hj hn=>setRow_other w b j _ λe=>?_,λj hj=>by simpa[keys]using hj,λj hj=>?_,λp hp b' hb=>?_,λa x ha=>.inl ha⟩,tU⟩
 .by_cases e:a.block=b
  .have fZ:=g11 a x ha e;have hc:=hs.frozen a x ha;obtain⟨bb,off,sp⟩:=a;simp only at e fZ;subst e
   have CT:sp=bh:=by
    simp only[World.cell?,g2]at hc
    cases sp with
    |none=>rfl
    |some _=>simp at hc
   subst CT;rw[cell_of_row w bb off cur t fr g2]at hc;rw[sS,MG off ab];exact hc
  .rw[AU (setRow_other w b _ _ e)];exact hs.frozen a x ha
 .simp only[bS]at hp;subst hp;refine .inr ⟨b,cap,cur',fr,tU,g0,DH,Mo,g4,l7,g6,hr,hk,by have:=cj sz hle;omega,ab,g11,λL loc e=>?_,λoff x ho hx=>?_⟩
  .simp only[m']at e;split at e
   .rename_i hc;omega
   .have:=g12 _ _ e;omega
  .rw[MG off ab]at hx;exact g13 off x ho hx
 .simp only[bS]at hp hq;subst hp;subst hq;rfl
 .subst e;exact hn _ (bS.2 rfl) (by simp[fD,qZ,Obj.hO,g1,nr])
 .funext L
  have:j≠k:=by simpa[keys]using hj
  simp[m',this]
 .simp only[bS]at hp;subst hp;simp only[fD,qZ,qZ,Obj.hO,tU,aC,aO nr,Option.some.injEq]at hb;exact .inr ⟨_,bS.2 rfl,by simp[fD,qZ,Obj.hO,g1,nr,hb]⟩
end
section
variable{P:bm}{ρ:Env}{dst:Option Tmp}{ty:bA}{pos:String}{aft:Array Edge}{gd:Option (Nat×Bool)}
def JG{α:Type}(a b:List (List α)):(a++b).flatten=a.flatten++b.flatten:=List.flatten_append
def zw6{t e sz bytes:Nat}{x y:bB}{k fz L:Nat}{els ys:List (List V)}{R:ax}(hT:qy P t=bc (e,sz,bytes))(hx:a_ ρ x=.sl sz k L 0 L)(hL:L=els.length)(hy:Src sz R (a_ ρ y) ys)
  (h1:∀c∈ys,c.all V.one=bg) (hlen:(els.length+ys.length)*bytes<=140737488355328) (sC:els.length+ys.length<=9223372036854775807) (BZ:jW k R=bd) (nd:∀c∈ys,c.length=sz):
  Loc P ⟨dst,.call ⟨.builtin .append,#[x,y],#[t,t]⟩,ty,pos,aft,gd⟩ ρ ((k,.row e sz fz els)::R) (.sl sz k (els++ys).length 0 (els++ys).length) ((k,.row e sz fz (els++ys))::R):=by
 intro ρr m Z w bT hs lh;obtain⟨i,z,hu,hi,hz,tM,BW,Ba,h0⟩:=qz hT;subst tM;subst BW;subst hL;have hX:=bT x (by simp[Op.operands,Call.operands]);have hY:=bT y (by simp[Op.operands,Call.operands]);rw[hx]at hX;have iQ:wo m Z [(k,.row e i.size fz els)] w:=wo.left (F:=[(k,.row e i.size fz els)]) (G:=R) hs;have ID:wo m Z R w:=wo.left (F:=R) (G:=[(k,.row e i.size fz els)]) (hs.perm (List.perm_append_comm (l₁:=[(k,Obj.row e i.size fz els)]) (l₂:=R)));obtain⟨A,c,FB,hym,hA,G2⟩:=hy.read h0 ID hY
 have CI:∀p∈[(k,Obj.row e i.size fz (els++ys))],∀q∈R,p.1≠q.1:=λp hp q hq e'=>by simp only[bS]at hp;subst hp;have e':k=q.1:=e';rw[yK.2 (by rw[e'];exact ay hq)]at BZ;cases BZ
 have iO:∀{m' Z' w'},Step m Z [(k,.row e i.size fz els)] w m' Z' [(k,.row e i.size fz (els++ys))] w'->Step m Z ((k,.row e i.size fz els)::R) w m' Z' ((k,.row e i.size fz (els++ys))::R) w':=λh=>Step.sv (F:=[(k,.row e i.size fz els)]) (G:=R) (F':=[(k,.row e i.size fz (els++ys))]) hs h CI
 have fin:∀{v w'},(Builtin.append_ #[t,t] ty #[ev ρr x,ev ρr y]).run P w=.ok v w'->(ca (ev ρr) ⟨dst,.call ⟨.builtin .append,#[x,y],#[t,t]⟩,ty,pos,aft,gd⟩).run P w=.ok (.value v) w':=λh=>by simp[ca,resolve,invoke,builtin,h]
 have G1:(els++ys).length=els.length+ys.length:=af;obtain⟨f,loc,e1,e2,e3,e4,e5⟩:=hX;cases e1
 replace e5:=e5.imp_right λh=>h.resolve_right λh=>gI 0 h.1
 by_cases A_:ys=[]
 .-- nothing is appended
  subst A_
  have ajZ:∃A' c',ev ρr x=.slice A' els.length c'/\els.length<=c':=by
   rcases e5 with e5|⟨e5,A',e6⟩
   .exact⟨_,_,e5,ab⟩
   .exact⟨A',0,by rw[e6];congr 1;omega,ab⟩
  obtain⟨A',c',D5,mQ⟩:=ajZ
  have iV:(Builtin.append_ #[t,t] ty #[ev ρr x,ev ρr y]).run P w=.ok (ev ρr x) w:=by
   rw[D5,FB]
   have hf:(Builtin.firstCells i.size 0 (.slice A 0 c)).run P w=.ok #[] w:=by
    cases A with
    |none=>simp[Builtin.firstCells]
    |some a=>simp[Builtin.firstCells,loadCells,loadCellsFrom]
   cases A' with
   |none=>simp[Builtin.append_,run_underlying hu,sizeOf,typeInfo,hi,Builtin.lenOf,mQ,hf]
   |some a'=>simp[Builtin.append_,run_underlying hu,sizeOf,typeInfo,hi,Builtin.lenOf,mQ,hf,storeCells]
  simp only[bM];refine⟨rfl,.inl ⟨_,w,fin iV,m,Z,Step.refl hs,m,loc,rfl,e2,e3,e4,e5.imp_right .inl⟩⟩
 have nv:0<ys.length:=db.2 A_
 obtain⟨a,rfl⟩:∃a,A=bc a:=by
  cases A with
  |none=>exact aU (hA rfl) A_
  |some a=>exact⟨a,rfl⟩
 obtain⟨news,mW,sH⟩:=G2 a rfl
 have mH:news.length=ys.length*i.size:=by rw[mW.length,wk nd]
 have tq:∀u∈news,u.oneCell'=bg:=Wz mW (bj.2 λv hv=>by
  obtain⟨c,hc,B6⟩:=List.mem_flatten.1 hv
  exact(bj.1 (h1 c hc)) v B6)
 have PV:els.length+ys.length<=maxLen:=by simp only[maxLen];omega
 rcases iQ.holds _ (bS.2 rfl)with⟨_,g1,g2,⟨b,g3⟩,g4⟩|⟨b,cap,cur,fr,g1,g0,g2,g3,g4,g5,g6,g7,g8,g9,g10,g11,g12,g13⟩
 .-- an empty row without room
  subst g1;subst g2;have g3:m k 0=bc (b,0):=g3;rw[show m k ([]:List (List V)).length=m k 0 from rfl,g3]at e2;cases e2;have tT:=grownCap_ge w ys.length 0 e;have D8:=grownCap_le_maxLen w ys.length 0 e (by simpa using PV)
  obtain⟨m',Z',fS,ry⟩:=Step.grown (m:=m) (Z:=Z) (w:=w) (k:=k) (t:=e) (sz:=i.size) (fz:=0) (els:=[]) (all:=[]++ys) (cur:=news.toArray++Builtin.zeroCells z.cells (grownCap w ys.length 0 e-ys.length)) (cap:=grownCap w ys.length 0 e) (w1:=w.drew) iQ rfl (by simpa using g4) (by simpa using nv) rfl rfl rfl rfl h0 (by simpa using tT) D8
   (by simp only[aby,cH,size_zeroCells,Ba,mH,<- dC];congr 1;omega)
   (by
    have:(news.toArray++Builtin.zeroCells z.cells (grownCap w ys.length 0 e-ys.length)).toList.take (([]++ys:List (List V)).length*i.size)=news:=by simp only[abn,cl,<- mH];exact dO
    rw[this];simpa using mW) (by simpa using nd) (bP _)
  have hr:=run_append_nil (P:=P) w t ty e i z hu hi hz a ys.length c news mH sH nv ab (by have:=hlen;simp only[bN,cA]at this;omega)
  rcases e5 with e5|⟨_,A',e5⟩
  .simp only[bN,eK]at e5;have B3:=run_append_grow (P:=P) w t ty e i z hu hi hz ⟨b,0,bh⟩ 0 0 [] af (λj v h=>by simp at h) a ys.length c news mH sH ab ab (growslice_fits ab (by simpa using hlen));simp only[cA,cl,abt]at B3;refine⟨rfl,.inl ⟨_,_,fin (by rw[e5,FB];exact B3),m',Z',iO fS,m',_,rfl,ry,by simpa using tT,D8,.inl af⟩⟩
  .cases A' with
   |none=>exact⟨rfl,.inl ⟨_,_,fin (by rw[e5,FB];exact hr),m',Z',iO fS,m',_,rfl,ry,by simpa using tT,D8,.inl af⟩⟩
   |some a' =>
    have B3:=run_append_grow (P:=P) w t ty e i z hu hi hz a' 0 0 [] af (λj v h=>by simp at h) a ys.length c news mH sH ab ab (growslice_fits ab (by simpa using hlen));simp only[cA,cl,abt]at B3;exact⟨rfl,.inl ⟨_,_,fin (by rw[e5,FB];exact B3),m',Z',iO fS,m',_,rfl,ry,by simpa using tT,D8,.inl af⟩⟩
 .have g1:m k els.length=bc (b,cap):=g1;rw[g1]at e2;cases e2
  have e5:ev ρr x=.slice (bc ⟨b,0,bh⟩) els.length cap:=by
   rcases e5 with e5|⟨e5,_⟩
   .simpa using e5
   .simp only at e5;omega
  have rP:=wk g8
  have lk:cur.toList.length=cap*i.size:=by simpa using g5
  by_cases G3:els.length+ys.length<=cap
  .have Mq:els.length*i.size+news.length<=cur.size:=by rw[mH,g5,<- dC];exact cj _ G3
   have hr:=run_append_roomF (P:=P) w t ty e i hu hi b els.length cap cur fr g2 (cR g9 (cj _ g10)) a ys.length c news mH sH tq G3 Mq
   have fZ:els.length*i.size<=cur.toList.length:=by rw[lk];exact cj _ g3
   obtain⟨m',fS,ry⟩:=Step.akG (all:=els++ys) (cur':=(cur.toList.take (els.length*i.size)++news++cur.toList.drop (els.length*i.size+news.length)).toArray) iQ g1 g0 g2 af ab
    (by simp only[cH,la,bX,bU];(have:cur.size=cur.toList.length:=af);omega)
    (λoff ho=>by
     simp only[fI,gO]
     rw[dV (by simp only[bX];omega),cE,aP ho];simp)
    (by
     have e6:((els++ys).length*i.size)=(cur.toList.take (els.length*i.size)++news).length:=by
      have h7:(cur.toList.take (els.length*i.size)).length=els.length*i.size:=by rw[bX];omega
      rw[G1,la (a:=cur.toList.take (els.length*i.size)),h7,mH,dC]
     rw[e6,JG];simp only[];rw[dO]
     exact g7.append mW)
    (λc hc=>by
     rcases bw.1 hc with hc|hc
     .exact g8 c hc
     .exact nd c hc) rfl
   exact⟨rfl,.inl ⟨_,_,fin (by rw[e5,FB];exact hr),m',Z,iO fS,m',_,rfl,ry,by simp only[G1];omega,g4,.inl (by simp[G1])⟩⟩
  .have tT:=grownCap_ge w (els.length+ys.length) cap e;have D8:=grownCap_le_maxLen w (els.length+ys.length) cap e PV
   have rC:(cur.toList.take (els.length*i.size)).length=els.length*i.size:=by rw[bX,lk];exact ei (cj _ g3)
   have hr:=run_append_grow (P:=P) w t ty e i z hu hi hz ⟨b,0,bh⟩ els.length cap (cur.toList.take (els.length*i.size)) rC (λj v h=>by
    rw[Addr.add_lit,cA,cell_of_row w b j cur e fr g2];rw[cE]at h;split at h
    .simpa using h
    .cases h) a ys.length c news mH sH ab ab (growslice_fits ab hlen)
   obtain⟨m',Z',fS,ry⟩:=Step.grown (m:=m) (Z:=Z) (w:=w) (k:=k) (t:=e) (sz:=i.size) (fz:=fz) (els:=els) (all:=els++ys) (cur:=(cur.toList.take (els.length*i.size)).toArray++news.toArray++Builtin.zeroCells z.cells (grownCap w (els.length+ys.length) cap e-(els.length+ys.length))) (cap:=grownCap w (els.length+ys.length) cap e) (w1:=w.drew) iQ rfl g12 ab rfl rfl rfl rfl h0 ab D8
    (by simp only[aby,cH,size_zeroCells,Ba,mH,rC,<- dC];congr 1;omega)
    (by
     have e6:((els++ys).length*i.size)=(cur.toList.take (els.length*i.size)++news).length:=by rw[G1,la (a:=cur.toList.take (els.length*i.size)),rC,mH,dC]
     rw[e6,JG];simp only[abn];rw[dO]
     exact g7.append mW)
    (λc hc=>by
     rcases bw.1 hc with hc|hc
     .exact g8 c hc
     .exact nd c hc) g10
   exact⟨rfl,.inl ⟨_,_,fin (by rw[e5,FB];exact hr),m',Z',iO fS,m',_,rfl,ry,by simp only[G1];omega,D8,.inl (by simp[G1])⟩⟩
def Da(P:bm)(t:Nat):Bool:=match P.underlying t with|some .string=>bg|_=>bd
def zAk{t:Nat}(h:Da P t=bg):P.underlying t=bc .string:=by
 unfold Da at h;split at h
 .assumption
 .cases h
def zln{t:bA}{x ix:bB}{k:IntKind}{i:Int}{l:ak}(ht:Da P t=bg)(hx:a_ ρ x=.str l)(hi:a_ ρ ix=.int k i)(h0:0<=i)(h1:i<l.length):
  Loc P ⟨dst,.index t x ix,ty,pos,aft,gd⟩ ρ [] (.int .u8 ((l.getD i.toNat 0).toNat)) []:=by
 intro ρr m Z w bT hs _;have hX:=bT x (by simp[Op.operands]);have hI:=bT ix (by simp[Op.operands]);rw[hx]at hX;rw[hi]at hI;have hX:ev ρr x=.string ⟨l.toArray⟩:=hX;have hI:ev ρr ix=.int k i:=hI;have fZ:i.toNat<l.length:=ab
 have hg:(⟨l.toArray⟩:ByteArray)[i.toNat]?=bc (l.getD i.toNat 0):=by
  have gp:(⟨l.toArray⟩:ByteArray).size=l.length:=by show l.toArray.size=_;simp
  rw[getElem?_pos _ _ (by rw[gp];exact fZ)]
  congr 1
  show l.toArray[i.toNat]=_
  simp[bY,bF fZ]
 refine⟨rfl,.inl ⟨_,w,?_,m,Z,Step.refl hs,rfl⟩⟩;simp[ca,Instr.index,asIntOf,hX,hI,run_underlying (zAk ht),h0,hg]
def zqn{t e sz:Nat}{x ix:bB}{k:IntKind}{i:Int}{els:List (List V)}{cs:List V}(ht:JB P t=bc (e,sz))(hx:a_ ρ x=.vs sz els)(hi:a_ ρ ix=.int k i)(h0:0<=i)(hc:els[i.toNat]?=bc cs):
  Loc P ⟨dst,.indexAddr t x ix,ty,pos,aft,gd⟩ ρ [] (.vp cs 0) []:=by
 intro ρr m Z w bT hs _;have hX:=bT x (by simp[Op.operands]);have hI:=bT ix (by simp[Op.operands]);rw[hx]at hX;rw[hi]at hI;have hI:ev ρr ix=.int k i:=hI;obtain⟨A,c,h1,h2,h3,h4⟩:=hX;have fZ:=(bx.1 hc).1
 rcases h4 with h4|⟨a,rfl,h5⟩
 .subst h4;simp at fZ
 have h6:=(h5.get hc).2;rw[cA]at h6;unfold JB at ht;split at ht
 .rename_i e' hu;split at ht
  .rename_i ii BX;split at ht
   .simp only[Option.some.injEq,Prod.mk.injEq]at ht;obtain⟨rfl,gp⟩:=ht;refine⟨rfl,.inl ⟨.pointer (bc (a.add (i.toNat*sz))),w,?_,m,Z,Step.refl hs,a.add (i.toNat*sz),by rw[Addr.add_zero'],h6⟩⟩;have h7:¬((els.length:Int)<=i):=ab;simp[ca,Instr.indexAt,run_underlying hu,asIntOf,h1,hI,sizeOf,typeInfo,BX,gp,h0,h7]
   .cases ht
  .cases ht
 .cases ht
def zlo{t e sz kk L o n:Nat}{x ix:bB}{k:IntKind}{i:Int}(ht:JB P t=bc (e,sz))(hx:a_ ρ x=.sl sz kk L o n)(hi:a_ ρ ix=.int k i)(h0:0<=i)(h1:i<n):
  Loc P ⟨dst,.indexAddr t x ix,ty,pos,aft,gd⟩ ρ [] (.ptr kk L (o*sz+i.toNat*sz)) []:=by
 intro ρr m Z w bT hs _;have hX:=bT x (by simp[Op.operands]);have hI:=bT ix (by simp[Op.operands]);rw[hx]at hX;rw[hi]at hI;have hI:ev ρr ix=.int k i:=hI;obtain⟨f,loc,e1,e2,e3,e4,e5⟩:=hX;cases e1
 have e5:ev ρr x=.slice (bc ⟨loc.1,o*sz,bh⟩) n (loc.2-o):=by
  rcases e5 with e5|⟨e5,_⟩|⟨_,e5,_⟩
  .exact e5
  .omega
  .omega
 unfold JB at ht;split at ht
 .rename_i e' hu;split at ht
  .rename_i ii BX;split at ht
   .simp only[Option.some.injEq,Prod.mk.injEq]at ht;obtain⟨rfl,gp⟩:=ht;refine⟨rfl,.inl ⟨.pointer (bc ⟨loc.1,o*sz+i.toNat*sz,bh⟩),w,?_,m,Z,Step.refl hs,m,loc,rfl,e2,rfl⟩⟩;have h7:¬((n:Int)<=i):=ab;simp[ca,Instr.indexAt,run_underlying hu,asIntOf,e5,hI,sizeOf,typeInfo,BX,gp,h0,h7,Addr.add_lit]
   .cases ht
  .cases ht
 .cases ht
def zAl{m:M}{Z:ZM}{w:bE}{k t sz fz:Nat}{els:List (List V)}{i:Nat}{cs:List V}(h:Holds m Z w k (.row t sz fz els))(hc:els[i]?=bc cs):
  ∃b cap cur fr,m k els.length=bc (b,cap)/\w.heap[b]?=bc (.cells cur t fr)/\∀j v,cs[j]?=bc v->∃x,cur[i*sz+j]?=bc x/\aV bh Z v x:=by
 have fZ:=(bx.1 hc).1
 rcases h with⟨_,rfl,_⟩|⟨b,cap,cur,fr,g1,g0,g2,g3,g4,g5,g6,g7,g8,g9,g10,g11,g12,g13⟩
 .simp at fZ
 refine⟨b,cap,cur,fr,g1,g2,λj v hj=>?_⟩;obtain⟨x,h1,h2⟩:=g7.get (o7 g8 hc hj);rw[cE]at h1;split at h1
 .exact⟨x,by simpa using h1,h2⟩
 .cases h1
def zqo{t et sz fz k L off:Nat}{a:bB}{els:List (List V)}{cs:List V}{v:V}(i j:Nat)(ha:a_ ρ a=.ptr k L off)(hL:L=els.length)(Mw:off=i*sz+j)(hc:els[i]?=bc cs)(hv:mO P t cs j=bc v):
  Loc P ⟨dst,.load t a,ty,pos,aft,gd⟩ ρ [(k,.row et sz fz els)] v [(k,.row et sz fz els)]:=by
 intro ρr m Z w bT hs _;have hX:=bT a (by simp[Op.operands]);rw[ha]at hX;subst hL;subst Mw;obtain⟨f,loc,e1,e2,e3⟩:=hX;cases e1;obtain⟨b,cap,cur,fr,g1,g2,g3⟩:=zAl (hs.holds _ (bS.2 rfl)) hc;have g1:m k els.length=bc (b,cap):=g1;rw[g1]at e2;cases e2
 have sS:∀q,w.cell? ⟨b,q,bh⟩=cur[q]?:=λq=>cell_of_row w b q cur et fr g2
 refine⟨rfl,.inl ?_⟩;unfold mO at hv;split at hv
 .rename_i nf;split at hv
  .rename_i v' Sl;split at hv
   .cases hv;obtain⟨u,h4,h5⟩:=g3 _ _ Sl;exact⟨u,w,Hm (uO nf) e3 (by rw[sS];exact h4),m,Z,Step.refl hs,h5.DI⟩
   .cases hv
  .cases hv
 .rename_i n nf;split at hv
  .rename_i hk;have hk:=lb hk;cases hv
   let us:List bu:=(cQ n).map λq=>(cur[i*sz+(j+q)]?).getD Go.undef
   have hex:∀q,q<n->∃u v,cs[j+q]?=bc v/\cur[i*sz+(j+q)]?=bc u/\aV bh Z v u:=λq hq=>by have hcq:cs[j+q]?=bc (cs[j+q]' ab):=bF ab;obtain⟨u,h1,h2⟩:=g3 _ _ hcq;exact⟨u,_,hcq,h1,h2⟩
   have pg:∀q,q<n->us[q]?=cur[i*sz+(j+q)]?:=λq hq=>by obtain⟨u,v,_,h2,_⟩:=hex q hq;simp only[us,cC,dQ hq,cZ,h2,dJ]
   refine⟨.agg us.toArray,w,o5 us (qx nf) e3 (by simp[us]) λq u hq=>?_,m,Z,Step.refl hs,us,rfl,?_⟩
   .have Iz:q<n:=by have:=(bx.1 hq).1;simpa[us]using this
    rw[Addr.add_lit,sS,eD,<- pg q Iz];exact hq
   .refine zG.n7 (by simp[us];omega) λq v u hv hu=>?_
    have Iz:q<n:=by have:=(bx.1 hu).1;simpa[us]using this
    rw[cE,aP Iz,dw]at hv;obtain⟨u',v',h1,h2,h3⟩:=hex q Iz;rw[hv]at h1;cases h1;rw[pg q Iz,h2]at hu;cases hu;exact h3.DI
  .cases hv
 .cases hv
def aaD{α:Type}{k off:Nat}{us:List α}:∀(xs:List (List α)),(∀x∈xs,x.length=k)->∀(i:Nat)(x:List α),xs[i]?=bc x->off+us.length<=k ->
  (xs.set i (x.take off++us++x.drop (off+us.length))).flatten=xs.flatten.take (i*k+off)++us++xs.flatten.drop (i*k+off+us.length)
 |[],_,i,x,h,_=>by simp at h
 |y::xs,hk,0,x,h,hf=>by
  have hy:=hk y al;simp only[eI,Option.some.injEq]at h;subst h;rw[List.set_cons_zero,cK,cK,eK,cA,List.take_append_of_le_length ab,List.drop_append_of_le_length ab];simp[gO]
 |y::xs,hk,i+1,x,h,hf=>by have hy:=hk y al;have ih:=aaD (us:=us) (off:=off) xs (λz hz=>hk z (gq _ hz)) i x (by simpa using h) hf;rw[List.set_cons_succ,cK,cK,ih,show(i+1)*k+off=y.length+(i*k+off) by rw[hy,dx];omega,aaU,eD,List.drop_append];rw[List.drop_of_length_le (by omega:y.length<=y.length+(i*k+off)+us.length),show y.length+(i*k+off)+us.length-y.length=i*k+(off+us.length) by omega];simp[gO]
def zw7{α:Type}(c us:List α)(p n:Nat)(h:p+us.length<=n)(hn:n<=c.length):(c.take p++us++c.drop (p+us.length)).take n=(c.take n).take p++us++(c.take n).drop (p+us.length):=by
 have hA:(c.take p++us).length=p+us.length:=by simp only[la,bX];omega
 have e:n=(c.take p++us).length+(n-(p+us.length)):=ab
 have e1:(c.take n).take p=c.take p:=by rw[eU,ei ab]
 rw[e1,eg]
 conv=>lhs;rw[e]
 rw[aaU]
def zlp{t et sz fz k L off:Nat}{a x:bB}{els:List (List V)}{cs:List V}(i j:Nat)(ha:a_ ρ a=.ptr k L off)(hL:L=els.length)(Mw:off=i*sz+j)(hc:els[i]?=bc cs)(nt:fz<=i)
  (hp:(a_ ρ x).plain=bg) (h1:(a_ ρ x).cells.all V.one=bg) (CR:(a_ ρ x).refs=[]) (gp:Ho P t (a_ ρ x).cells.length=bg) (Mq:j+(a_ ρ x).cells.length<=sz):
  Loc P ⟨dst,.store t a x,ty,pos,aft,gd⟩ ρ [(k,.row et sz fz els)] .no [(k,.row et sz fz (els.set i (cs.take j++(a_ ρ x).cells++cs.drop (j+(a_ ρ x).cells.length))))]:=by
 intro ρr m Z w bT hs _;have hX:=bT a (by simp[Op.operands]);rw[ha]at hX;subst hL;subst Mw;obtain⟨f,loc,e1,e2,e3⟩:=hX;cases e1;have fZ:=(bx.1 hc).1
 rcases hs.holds _ (bS.2 rfl)with⟨_,g1,_⟩|⟨b,cap,cur,fr,g1,g0,g2,g3,g4,g5,g6,g7,g8,g9,g10,g11,g12,g13⟩
 .subst g1;simp at fZ
 have g1:m k els.length=bc (b,cap):=g1;rw[g1]at e2;cases e2;have B5:=(bT x (by simp[Op.operands])).cells hp
 have hv:zG bh Z (a_ ρ x).cells (ev ρr x).cells.toList:=by refine zG.flat _ _ ?_ B5;cases M':a_ ρ x<;>rw[M']at CR<;>simp only[V.cells,wi,bM]<;>exact CR
 have rQ:=hv.length;have tq:=Wz hv h1;have l7:=g8 cs (bG hc)
 have hle:i*sz+sz<=els.length*sz:=by
  have:(i+1)*sz<=els.length*sz:=cj sz fZ
  rwa [dx]at this
 have alz:els.length*sz<=cap*sz:=cj sz g3;have rP:fz*sz<=i*sz:=cj sz nt
 have lk:cur.toList.length=cap*sz:=by simpa using g5
 unfold Ho at gp;split at gp
 .rename_i ii hi;have RZ:=eb gp;have fS:=run_storeCells_atF P b (i*sz+j) et fr (ev ρr x).cells.toList 0 cur w g2 ab ab tq;simp only[dM]at fS
  have Y_:(ev ρr x).cells.size=ii.size:=by simp at rQ;omega
  have DH:=setRow_heap w b cur (cur.toList.take (i*sz+j)++(ev ρr x).cells.toList++cur.toList.drop (i*sz+j+(ev ρr x).cells.toList.length)).toArray et fr g2;have hlen:(els.set i (cs.take j++(a_ ρ x).cells++cs.drop (j+(a_ ρ x).cells.length))).length=els.length:=af;have nr:cap≠0:=ab;refine⟨rfl,.inr (.inl ⟨w.setRow b (cur.toList.take (i*sz+j)++(ev ρr x).cells.toList++cur.toList.drop (i*sz+j+(ev ρr x).cells.toList.length)).toArray,?_,m,Z,?_,rfl⟩)⟩
  .simp[ca,Instr.storeAt,e3,Instr.sureAddr,storeVar,sizeOf,typeInfo,hi,Y_,fS]
  .have MG:∀off,off<i*sz+j->(cur.toList.take (i*sz+j)++(ev ρr x).cells.toList++cur.toList.drop (i*sz+j+(ev ρr x).cells.toList.length)).toArray[off]?=cur[off]?:=λoff ho=>by simp only[fI,gO];rw[dV (by simp only[bX];omega),cE,aP ho];simp
   refine Step.write (b:=b) hs (by simp[fD,qZ,Obj.hO,g1,nr]) (QJ (by simp[Obj.hO]) rfl rfl) rfl rfl rfl af (λq hq=>setRow_other w b q _ hq) (λaa y ha' e=>?_) ?_
   .have hl:=g11 aa y ha' e;have mQ:=hs.frozen aa y ha';obtain⟨bb,off,sp⟩:=aa;simp only at e hl;subst e
    have CT:sp=bh:=by
     simp only[World.cell?,g2]at mQ
     cases sp with
     |none=>rfl
     |some _=>simp at mQ
    subst CT;rw[cell_of_row w bb off cur et fr g2]at mQ;rw[cell_of_row _ bb off _ et fr DH,MG off ab];exact mQ
   .refine .inr ⟨b,cap,_,fr,by rw[hlen];exact g1,g0,DH,by rw[hlen];exact g3,g4,?_,g6,?_,?_,g9,by rw[hlen];exact g10,g11,by rw[hlen];exact g12,λoff y ho hy=>?_⟩
    .simp only[cH,la,bX,bU];have:cur.size=cur.toList.length:=af;omega
    .rw[hlen,aaD els g8 i cs hc ab];simp only[];rw[zw7 _ _ _ _ ab ab];have:=UB (off:=i*sz+j) g7 hv;exact this
    .intro c RL
     rcases List.mem_or_eq_of_mem_set RL with RL|rfl
     .exact g8 c RL
     .simp only[la,bX,bU];omega
    .rw[MG off ab]at hy;exact g13 off y ho hy
 .cases gp
end
def sO(ρ:Env):Option bB->Int->Int->Prop
 |none,d,i=>i=d
 |some x,_,i=>∃k,a_ ρ x=.int k i
section
variable{P:bm}{ρ:Env}{dst:Option Tmp}{ty:bA}{pos:String}{aft:Array Edge}{gd:Option (Nat×Bool)}
def zAm{ρr:yC}{m:Option M}{Z:ZM}{o:Option bB}{d i:Int}(h:sO ρ o d i)(hr:∀x∈o,aV m Z (a_ ρ x) (ev ρr x)):(o=bh/\i=d)∨∃x k,o=bc x/\ev ρr x=.int k i:=by
 cases o with
 |none=>exact .inl ⟨rfl,h⟩
 |some x =>
  obtain⟨k,hk⟩:=h;have:=hr x rfl;rw[hk]at this;exact .inr ⟨x,k,rfl,this⟩
def WA{w:bE}{ρr:yC}{m:Option M}{Z:ZM}{lo hi:Option bB}{l h:Int}{isS:Bool}{len cap:Nat}(hl:sO ρ lo 0 l)(hh:sO ρ hi len h)(IA:∀x∈lo,aV m Z (a_ ρ x) (ev ρr x))(hrh:∀x∈hi,aV m Z (a_ ρ x) (ev ρr x))
  (h0:0<=l) (h1:l<=h) (h2:h<=len) (hc:len<=cap):(Instr.sliceBounds isS len cap (lo.map (ev ρr)) (hi.map (ev ρr)) bh).run P w=.ok (l.toNat,h.toNat,cap) w:=by
 have h3:h<=(cap:Int):=ab;have h4:0<=h:=ab;have h5:((h.toNat:Nat):Int)=h:=Int.toNat_of_nonneg h4
 rcases zAm hl IA with⟨rfl,rfl⟩|⟨x,k,rfl,hx⟩<;>rcases zAm hh hrh with⟨rfl,rfl⟩|⟨y,k',rfl,hy⟩
 .simp[Instr.sliceBounds]
 .simp[Instr.sliceBounds,Instr.sliceBound,asIntOf,hy,h4,h3]
 .simp[Instr.sliceBounds,Instr.sliceBound,asIntOf,hx,h0,h1]
 .simp[Instr.sliceBounds,Instr.sliceBound,asIntOf,hx,hy,h4,h3,h0,h5,h1]
def zlq{t:bA}{x:bB}{lo hi:Option bB}{l h:Int}{s:ak}(ht:Da P t=bg)(hx:a_ ρ x=.str s)(hl:sO ρ lo 0 l)(hh:sO ρ hi s.length h)(h0:0<=l)(h1:l<=h)(h2:h<=s.length):
  Loc P ⟨dst,.slice t x lo hi bh,ty,pos,aft,gd⟩ ρ [] (.str ((s.take h.toNat).drop l.toNat)) []:=by
 intro ρr m Z w bT hs _;have hX:=bT x (by simp[Op.operands]);rw[hx]at hX;have hX:ev ρr x=.string ⟨s.toArray⟩:=hX
 have gp:(⟨s.toArray⟩:ByteArray).size=s.length:=by show s.toArray.size=_;simp
 have hb:=WA (P:=P) (w:=w) (isS:=bd) (cap:=s.length) hl hh (λy hy=>bT y (by simp[Op.operands];right;left;simpa using hy)) (λy hy=>bT y (by simp[Op.operands];right;right;simpa using hy)) h0 h1 h2 aq;refine⟨rfl,.inl ⟨.string ((⟨s.toArray⟩:ByteArray).extract l.toNat h.toNat),w,?_,m,Z,Step.refl hs,?_⟩⟩
 .simp[ca,Instr.sliceAt,Instr.slice,run_underlying (zAk ht),hX,gp,hb]
 .show _=_
  congr 1
  apply ByteArray.ext;rw[ByteArray.data_extract];apply gT;simp[aa5,eg]
def zqp{t e sz:Nat}{x:bB}{lo hi:Option bB}{l h:Int}{els:List (List V)}(ht:JB P t=bc (e,sz))(hx:a_ ρ x=.vs sz els)(hl:sO ρ lo 0 l)(hh:sO ρ hi els.length h)(h0:0<=l)(h1:l<=h)(h2:h<=els.length):
  Loc P ⟨dst,.slice t x lo hi bh,ty,pos,aft,gd⟩ ρ [] (.vs sz ((els.take h.toNat).drop l.toNat)) []:=by
 intro ρr m Z w bT hs _;have hX:=bT x (by simp[Op.operands]);rw[hx]at hX;obtain⟨A,c,g1,g2,g3,g4⟩:=hX;have hb:=WA (P:=P) (w:=w) (isS:=bg) (cap:=c) hl hh (λy hy=>bT y (by simp[Op.operands];right;left;simpa using hy)) (λy hy=>bT y (by simp[Op.operands];right;right;simpa using hy)) h0 h1 h2 g2;unfold JB at ht;split at ht
 .rename_i e' hu;split at ht
  .rename_i ii BX;split at ht
   .simp only[Option.some.injEq,Prod.mk.injEq]at ht;obtain⟨rfl,gp⟩:=ht
    have hlen:((els.take h.toNat).drop l.toNat).length=h.toNat-l.toNat:=by simp;omega
    refine⟨rfl,.inl ⟨.slice (if c=l.toNat then A else A.map (·.add (l.toNat*sz))) (h.toNat-l.toNat) (c-l.toNat),w,?_,m,Z,Step.refl hs,(if c=l.toNat then A else A.map (·.add (l.toNat*sz))),c-l.toNat,by rw[hlen],by rw[hlen];omega,ab,?_⟩⟩
    .simp[ca,Instr.sliceAt,Instr.slice,run_underlying hu,g1,hb,sizeOf,typeInfo,BX,gp]
    .by_cases he:(els.take h.toNat).drop l.toNat=[]
     .exact .inl he
     .have Y9:0<h.toNat-l.toNat:=by rw[<- hlen];exact db.2 he
      rcases g4 with g4|⟨a,rfl,g5⟩
      .subst g4;simp at h2;omega
      .refine .inr ⟨a.add (l.toNat*sz),by rw[aO ab];rfl,wm.n7 λi cs hi=>?_⟩;rw[dw,cE]at hi;split at hi
       .have:=g5.get hi;refine⟨this.1,?_⟩;have h6:=this.2;rw[Vr,cA,<- dC]
        rwa [cA]at h6
       .cases hi
   .cases ht
  .cases ht
 .cases ht
def zlr{t e sz k L o n:Nat}{x:bB}{lo hi:Option bB}{l h:Int}(ht:JB P t=bc (e,sz))(hx:a_ ρ x=.sl sz k L o n)(hl:sO ρ lo 0 l)(hh:sO ρ hi n h)(h0:0<=l)(h1:l<=h)(h2:h<=n):
  Loc P ⟨dst,.slice t x lo hi bh,ty,pos,aft,gd⟩ ρ [] (.sl sz k L (o+l.toNat) (h.toNat-l.toNat)) []:=by
 intro ρr m Z w bT hs _;have hX:=bT x (by simp[Op.operands]);rw[hx]at hX;obtain⟨f,loc,e1,e2,e3,e4,e5⟩:=hX;cases e1
 have ahK:∀c,n<=c->(Instr.sliceBounds bg n c (lo.map (ev ρr)) (hi.map (ev ρr)) bh).run P w=.ok (l.toNat,h.toNat,c) w:=λc hc =>WA (P:=P) (w:=w) (isS:=bg) (cap:=c) hl hh (λy hy=>bT y (by simp[Op.operands];right;left;simpa using hy)) (λy hy=>bT y (by simp[Op.operands];right;right;simpa using hy)) h0 h1 h2 hc
 unfold JB at ht;split at ht
 .rename_i e' hu;split at ht
  .rename_i ii BX;split at ht
   .simp only[Option.some.injEq,Prod.mk.injEq]at ht;obtain⟨rfl,gp⟩:=ht
    have run:∀A c,ev ρr x=.slice A n c->n<=c->(ca (ev ρr) ⟨dst,.slice t x lo hi bh,ty,pos,aft,gd⟩).run P w=.ok (.value (.slice (if c=l.toNat then A else A.map (·.add (l.toNat*sz))) (h.toNat-l.toNat) (c-l.toNat))) w:=λA c hv hc=>by simp[ca,Instr.sliceAt,Instr.slice,run_underlying hu,hv,ahK c hc,sizeOf,typeInfo,BX,gp]
    rcases e5 with e5|⟨e5,A,e6⟩|⟨e5,e6,A,c,e7,e8⟩
    .refine⟨rfl,.inl ⟨_,w,run _ _ e5 ab,m,Z,Step.refl hs,m,loc,rfl,e2,ab,e4,?_⟩⟩;by_cases hc:loc.2-o=l.toNat
     .by_cases sF:l.toNat=0
      .rw[aP hc];by_cases ho:0<o
       .exact .inr (.inr ⟨ab,ab,_,_,by rw[show h.toNat-l.toNat=0 by omega],ab⟩)
       .refine .inl ?_;rw[show o=0 by omega];simp[sF]
      .rw[aP hc];exact .inr (.inr ⟨ab,ab,_,_,by rw[show h.toNat-l.toNat=0 by omega],ab⟩)
     .rw[aO hc];refine .inl ?_;simp only[cZ,Addr.add_lit,dC];rw[Nat.sub_sub]
    .have hn:n=0:=ab;subst hn;have sF:l.toNat=0:=ab;have RX:h.toNat=0:=ab;refine⟨rfl,.inl ⟨_,w,run _ _ e6 aq,m,Z,Step.refl hs,m,loc,rfl,e2,ab,e4,.inr (.inl ⟨e5,_,by rw[sF,RX]⟩)⟩⟩
    .subst e6;have sF:l.toNat=0:=ab;have RX:h.toNat=0:=ab;refine⟨rfl,.inl ⟨_,w,run _ _ e7 (bP _),m,Z,Step.refl hs,m,loc,rfl,e2,ab,e4,.inr (.inr ⟨ab,ab,_,_,by rw[RX,sF],ab⟩)⟩⟩
   .cases ht
  .cases ht
 .cases ht
def zw8{t t':bA}{x y:bB}{a b:ak}(hx:a_ ρ x=.str a)(hy:a_ ρ y=.str b)(h:a.length+b.length<=9223372036854775807):
  Loc P ⟨dst,.binOp .add t x y t',ty,pos,aft,gd⟩ ρ [] (.str (a++b)) []:=by
 intro ρr m Z w bT hs _;have hX:=bT x (by simp[Op.operands]);have hY:=bT y (by simp[Op.operands]);rw[hx]at hX;rw[hy]at hY;have hX:ev ρr x=.string ⟨a.toArray⟩:=hX;have hY:ev ρr y=.string ⟨b.toArray⟩:=hY
 have ha:(⟨a.toArray⟩:ByteArray).size=a.length:=by show a.toArray.size=_;simp
 have hb:(⟨b.toArray⟩:ByteArray).size=b.length:=by show b.toArray.size=_;simp
 have hm:¬(((a.length+b.length:Nat):Int)>IntKind.i64.max):=by have:IntKind.i64.max=9223372036854775807:=ae;omega
 refine⟨rfl,.inl ⟨.string ((⟨a.toArray⟩:ByteArray)++⟨b.toArray⟩),w,?_,m,Z,Step.refl hs,?_⟩⟩
 .simp only[ca,hX,hY,eqGuard,binOp,Op.stringOp,ha,hb,aO hm];simp
 .show _=_
  congr 1
def zOq{op:BinOp}{t t':bA}{x y:bB}{k:IntKind}{a b:Int}(iS:op=.quo∨op=.rem)(hx:a_ ρ x=.int k a)(hy:a_ ρ y=.int k b)(hb:b≠0):
  Loc P ⟨dst,.binOp op t x y t',ty,pos,aft,gd⟩ ρ [] (.int k (match op with|.quo=>k.wrap (a.tdiv b)|_=>a.tmod b)) []:=by
 intro ρr m Z w bT hs _;have hX:=bT x (by simp[Op.operands]);have hY:=bT y (by simp[Op.operands]);rw[hx]at hX;rw[hy]at hY
 rcases iS with rfl|rfl
 .obtain⟨u,h1,h2⟩:=Vp (P:=P) (w:=w) (dst:=dst) (ty:=ty) (pos:=pos) (aft:=aft) (gd:=gd) (t:=t) (t':=t') (op:=.quo) (m:=bc m) (Z:=Z) (v:=.int k (k.wrap (a.tdiv b))) hX hY af (by simp[J9,hb]);exact⟨rfl,.inl ⟨u,w,h1,m,Z,Step.refl hs,h2⟩⟩
 .obtain⟨u,h1,h2⟩:=Vp (P:=P) (w:=w) (dst:=dst) (ty:=ty) (pos:=pos) (aft:=aft) (gd:=gd) (t:=t) (t':=t') (op:=.rem) (m:=bc m) (Z:=Z) (v:=.int k (a.tmod b)) hX hY af (by simp[J9,hb]);exact⟨rfl,.inl ⟨u,w,h1,m,Z,Step.refl hs,h2⟩⟩
end
section
variable{K0:List Nat}{c:Ctx K0}{P:bm}{r:Option Nat}{N:Nat}{Q:xH}{ρ:Env}{H H':ax}{ds:List cg}{all l rest:List Oper}{x:Code}
def Kv.step{F F':ax}{ks:List Nat}{ρr:yC}{w:bE}{ρ':Env}(lH:nodupB ks=bg)(hF:ua ks H=bc F)(iO:JE F' ks H=bg)
  (h:∀m Z,wo m Z F w->(∀k∈keys F',k ∉ keys F->∀L,m k L=bh)->pO m Z ρ ρr->∃m' Z',Step m Z F w m' Z' F' w/\pO m' Z' ρ' ρr) (S:Kv c ρ H ρr w):Kv c ρ' (F'++qw ks H) ρr w:=by
 obtain⟨m,Z,S,hR⟩:=S;have hp:=vF S.step.gy.nodup (yj lH) hF;obtain⟨h2,h3⟩:=xd hF;have hs:wo m Z (F++qw ks H) w:=S.step.gy.perm hp
 obtain⟨m',Z',fS,FA⟩:=h m Z hs.left (λk hk nO=>S.rn k (by
  obtain⟨p,iT,rfl⟩:=bz.1 hk;have:=(bj.1 iO) p iT;simp only[dc,cy,aW,bW,aX]at this
  rcases this with this|this
  .exact aU (h2▸this) nO
  .exact this)) hR
 exact⟨m',Z',S.P7 lH hF iO (λ_ _=>fS),FA⟩
def zeu{F:ax}{ks:List Nat}(h:∀p∈F,p.1∈ks):JE F ks H=bg:=bj.2 λp hp=>by simp[h p hp]
def Kv.freeze{F:ax}(ks:List Nat){ρr:yC}{w:bE}(lH:nodupB ks=bg)(hF:ua ks H=bc F)(S:Kv c ρ H ρr w):Kv c ρ (gD F++qw ks H) ρr w:=Kv.step lH hF (zeu λp hp=>by rw[<- (xd hF).1,<- wu];exact ay hp) (λm Z hs _ hR=>⟨m,_,Step.freeze hs,hR.up (Step.freeze hs).lR λ_ _ _ e=>e⟩) S
def Kv.ν(t d e sz:Nat){ρr:yC}{w:bE}(gp:cw 1 sz=bg)(ht:ρ.get t=.gR)(hd:jW d H=bd)(S:Kv c ρ H ρr w):Kv c ((t,.sl sz d 0 0 0)::ρ) ((d,.row e sz 0 [])::H) ρr w:=by
 have lf:d ∉ keys H:=λh=>by rw[yK.2 h]at hd;cases hd
 have:=Kv.step (c:=c) (ρ:=ρ) (H:=H) (F:=[]) (F':=[(d,.row e sz 0 [])]) (ks:=[]) (ρ':=(t,.sl sz d 0 0 0)::ρ) (ρr:=ρr) (w:=w) rfl rfl (by simp[JE,lf]) (λm Z hs lh hR=>by
  have y5:∀L,m d L=bh:=λL=>lh d (by simp[keys]) (by simp[keys]) L
  let m':M:=λk' L=>if k'=d/\L=0 then bc (0,0)else m k' L
  have h1:m' d 0=bc (0,0):=by simp[m']
  have h2:∀k L loc,m k L=bc loc->m' k L=bc loc:=λk L loc e=>by
   by_cases hc:k=d/\L=0
   .obtain⟨rfl,rfl⟩:=hc;rw[y5]at e;cases e
   .simp only[m',aO hc];exact e
  refine⟨m',Z,⟨⟨hs.frozen,λp hp=>?_,by simp[keys],λp hp q hq _ _ _=>?_⟩,h2,λ_ _ e=>e,rfl,rfl,rfl,aq,λ_ _ _=>rfl,λk hk=>(by cases hk),λk hk=>?_,λp hp b hb=>?_,λ_ _ e=>.inl e⟩,?_⟩
  .simp only[bS]at hp;subst hp;refine .inl ⟨lb gp,rfl,rfl,⟨0,h1⟩,λL loc e=>?_⟩;simp only[m']at e;split at e
   .rename_i hc;omega
   .rw[y5]at e;cases e
  .simp only[bS]at hp hq;subst hp;subst hq;rfl
  .funext L
   have:k≠d:=by simpa[keys]using hk
   simp[m',this]
  .simp only[bS]at hp;subst hp;simp[fD,qZ,Obj.hO,h1]at hb
  .intro u;have hu:=(hR u).up (Z':=Z) (m':=bc m') (λ_ _ e=>e) (λf e=>by cases e;exact⟨m',rfl,h2⟩)
   show aV (bc m') Z (bif bk u t then V.sl sz d 0 0 0 else ρ.get u) (ρr u)
   cases hb:bk u t with
   |false=>exact hu
   |true =>
    have:=eb hb;subst this;rw[ht]at hu
    exact⟨m',_,rfl,h1,aq,bP _,.inr (.inl ⟨rfl,bh,hu⟩)⟩) S
 rw[zHn]at this;exact this
end
def mP(e:Nat->V):bB->V
 |.tmp t=>e t
 |.const v=>Eh v
 |.global _=>.undef
 |.func f=>.fn f [] []
def Ly(ρ:Env)(x:bB):mP ρ.get x=a_ ρ x:=by cases x<;>rfl
def ug(P:bm)(o:Oper)(g:bB->V)(F:ax)(v:V)(F':ax):Prop:=
 ∀ρr m Z w,(∀x∈o.op.operands,aV (bc m) Z (g x) (ev ρr x))->wo m Z F w->(∀k∈keys F',k ∉ keys F->∀L,m k L=bh) ->
  Ep P o ρr w λx w'=>∃m' Z',Step m Z F w m' Z' F' w'/\aV (bc m') Z' v x
def ug.congr{P:bm}{o:Oper}{g g':bB->V}{F F':ax}{v:V}(h:ug P o g F v F')(hg:∀x∈o.op.operands,g' x=g x):ug P o g' F v F':=λρr m Z w bT=>h ρr m Z w λx hx=>by rw[<- hg x hx];exact bT x hx
def AB(all:List Oper)(e:Nat->V)(o:Oper):Option Bool:=
 match o.guard with
 |none=>bc bg
 |some (j,want)=>match (all[j]?).bind (·.dst)with
  |some d=>match e d with
   |.bool b=>bc (b==want)
   |.no=>bc bd
   |_=>bh
  |none=>bh
def rI(d:Option Nat)(v:V)(e:Nat->V):Nat->V:=match d with|some d=>λt=>bif bk t d then v else e t|none=>e
def Vz(d:Option Nat)(v:V)(ρ:Env):(pP d v ρ).get=rI d v ρ.get:=by
 cases d with
 |none=>rfl
 |some d=>rfl
structure FP where
 i:Nat
 fk:List Nat
 rk:List Nat
 ld:Option (Nat×Nat×Nat)
 kc:List (Nat×Nat×Nat)
abbrev FP.m(i:Nat)(fk rk:List Nat):FP:=⟨i,fk,rk,bh,[]⟩
abbrev HF:=Nat->Option Obj
def nH(F':ax)(η:HF):HF:=λk=>if k∈keys F' then F'.get k else η k
def Ce(P:bm)(o:Oper)(e:Nat->V)(η ky:HF)(v:V)(fp:FP):Prop:=
 (∀k t off,fp.ld=bc (k,t,off)->fp.fk=[]/\fp.rk=[k]/\(∃bt cs,η k=bc (.box bt cs)/\mO P t cs off=bc v)/\∀bt cs,mO P t cs off=bc v->ug P o (mP e) [(k,.box bt cs)] v [(k,.box bt cs)]) /\
 (∀k t off,(k,t,off)∈fp.kc->k∈fp.fk/\∃bt cs iK,η k=bc (.box bt cs)/\ky k=bc (.box bt iK)/\mO P t cs off=mO P t iK off)
def zLy{P:bm}{o:Oper}{e:Nat->V}{η ky:HF}{v:V}{i:Nat}{fk rk:List Nat}:Ce P o e η ky v (.m i fk rk):=⟨λ_ _ _ h=>(by cases h),λ_ _ _ h=>(by cases h)⟩
def jJ(P:bm)(N:Nat)(all:List Oper)(fp:FP)(e:Nat->V)(η:HF)(e1:Nat->V)(ky:HF):Prop:=
  ∃o v,all[fp.i]?=bc o/\jV o.op=bg/\(∀d,o.dst=bc d->d+1<=N)/\e1=rI o.dst v e /\
    ((AB all e o=bc bd/\v=.no/\ky=η/\fp.fk=[]/\fp.rk=[]) ∨
     (AB all e o=bc bg/\∃F R F',ug P o (mP e) (F++R) v (F'++R)/\(keys (F'++R)).Nodup/\(keys F).Nodup/\(∀k∈keys F,k∈keys F')/\keys F'=fp.fk/\keys R=fp.rk /\
       (∀p∈F++R,η p.1=bc p.2)/\(∀k∈keys F',k ∉ keys F->η k=bh)/\ky=nH F' η/\Ce P o e η ky v fp))
def zUg(all:List Oper)(o:Oper)(d:Nat):Bool:=
 o.op.operands.toList.any (λ| .tmp t=>bk t d | _=>bd)||(match o.guard with | some (j,_)=>(match (all[j]?).bind (·.dst)with | some d'=>bk d' d | none=>bg) | none=>bd)
def YQ(all:List Oper)(o o':Oper):Bool:=
 (match o.dst with|some d=>!zUg all o' d|none=>bg)&&(match o.dst,o'.dst with|some d,bc d'=>!Nat.beq d d'|_,_=>bg)
def tE(k:Nat):List Nat->Bool|[]=>bd|j::r=>bif bk k j then bg else tE k r
def Dr:List Nat->List Nat->Bool|[],_=>bg|k::r,l=>!tE k l&&Dr r l
def Ua(a b:FP):Bool:=Dr a.fk b.fk&&(Dr a.fk b.rk&&Dr a.rk b.fk)
def zUh(a b:Nat×Nat×Nat):Bool:=bk a.1 b.1&&(bk a.2.1 b.2.1&&bk a.2.2 b.2.2)
def SF(a b:FP):Bool:=match a.ld with
 |some x=>a.fk.isEmpty&&(b.kc.any (zUh x))
 |none=>bd
def Qp(all:List Oper)(a b:FP):Bool:=
 match all[a.i]?,all[b.i]? with
 | some o,bc o'=>YQ all o o'&&(YQ all o' o&&(Ua a b||SF a b))
 |_,_=>bd
def Jf(all:List Oper)(a b:FP):Bool:=
 match all[a.i]?,all[b.i]? with
 |some o,bc o'=>YQ all o o'&&(YQ all o' o&&(Dr a.fk b.fk&&Dr a.fk b.rk))
 |_,_=>bd
def zLz{a b:FP}(h:SF a b=bg):a.fk=[]/\∃k t off,a.ld=bc (k,t,off)/\(k,t,off)∈b.kc:=by
 unfold SF at h;split at h
 .rename_i x hx;simp only[bn,eF,List.any_eq_true,zUh]at h;obtain⟨h1,y,h2,h3,h4,h5⟩:=h;refine⟨h1,y.1,y.2.1,y.2.2,?_,h2⟩;rw[hx,<- eb h3,<- eb h4,<- eb h5]
 .cases h
def Vv{k:Nat}:∀{l:List Nat},tE k l=bg↔k∈l
 |[]=>by simp[tE]
 |j::r=>by
  simp only[tE,bq]
  cases hb:bk k j with
  |true=>simp[eb hb]
  |false =>
   have:k≠j:=λe=>by subst e;rw[cF]at hb;cases hb
   simp only[cf,this,false_or];exact Vv
def Hp:∀{l k:List Nat},Dr l k=bg->∀x∈l,x ∉ k
 |[],_,_,x,h=>by cases h
 |j::r,k,h,x,hx=>by
  simp only[Dr,bn,bW]at h
  rcases bq.1 hx with rfl|hx
  .intro hk;rw[Vv.2 hk]at h;cases h.1
  .exact Hp h.2 x hx
def OP{all:List Oper}{o o':Oper}{v:V}{e:Nat->V}(h:YQ all o o'=bg):(∀x∈o'.op.operands,mP (rI o.dst v e) x=mP e x)/\AB all (rI o.dst v e) o'=AB all e o':=by
 simp only[YQ,bn]at h
 cases hd:o.dst with
 |none=>exact⟨λ_ _=>rfl,rfl⟩
 |some d =>
  rw[hd]at h;simp only[bW,zUg,Bool.or_eq_false_iff]at h;refine⟨λx hx=>?_,?_⟩
  .cases x with
   |tmp t =>
    have:=(List.any_eq_false.1 h.1.1) (.tmp t) (by simpa using hx);simp only[Bool.not_eq_true]at this;simp only[mP,rI,this,cf]
   |_=>rfl
  .unfold AB
   cases hg:o'.guard with
   |none=>rfl
   |some p =>
    obtain⟨j,want⟩:=p;have h2:=h.1.2;rw[hg]at h2;simp only at h2 ⊢
    cases hj:(all[j]?).bind (·.dst)with
    |none=>rfl
    |some d' =>rw[hj]at h2;simp only at h2 ⊢;simp only[rI,h2,cf]
def put_comm{o o':Oper}{all:List Oper}{v v':V}{e:Nat->V}(h:YQ all o o'=bg):rI o.dst v (rI o'.dst v' e)=rI o'.dst v' (rI o.dst v e):=by
 simp only[YQ,bn]at h
 cases hd:o.dst with
 |none=>rfl
 |some d =>
  cases lf:o'.dst with
  |none=>rfl
  |some d' =>
   rw[hd,lf]at h;simp only[bW]at h
   funext t
   simp only[rI]
   cases h1:bk t d with
   |false=>rfl
   |true =>
    cases h2:bk t d' with
    |false=>rfl
    |true =>
     have:=eb h1;have:=eb h2
     subst_vars
     rw[cF]at h;cases h.2
def xz{F:ax}{η:HF}{k:Nat}(h:k ∉ keys F):nH F η k=η k:=by simp[nH,h]
def zAo{F G:ax}{η:HF}(h:∀k∈keys F,k ∉ keys G):nH F (nH G η)=nH G (nH F η):=by
 funext k
 by_cases h1:k∈keys F
 .have h2:=h k h1;rw[xz h2];simp[nH,h1]
 .rw[xz h1];by_cases h2:k∈keys G
  .simp[nH,h2]
  .rw[xz h2,xz h2,xz h1]
def jJ.swap{P:bm}{N:Nat}{all:List Oper}{a b:FP}{e e1 e2:Nat->V}{η ky η2:HF}(h:jJ P N all a e η e1 ky)(k:jJ P N all b e1 ky e2 η2)(hi:Qp all a b=bg):
  ∃Fo GW,jJ P N all b e η Fo GW/\jJ P N all a Fo GW e2 η2:=by
 obtain⟨o,v,ho,hn,hd,rfl,h⟩:=h;obtain⟨o',v',rS,tz,lf,rfl,k⟩:=k;simp only[Qp,ho,rS,bn,dc,Ua]at hi;obtain⟨hs,CS,hi⟩:=hi;obtain⟨Ft,Ic⟩:=OP (v:=v) (e:=e) hs;obtain⟨ev2,ew2⟩:=OP (v:=v') (e:=e) CS;rw[Ic]at k
 have hA:∀{BM:HF},(AB all e o'=bc bd/\v'=.no/\BM=η/\b.fk=[]/\b.rk=[])∨(AB all e o'=bc bg/\∃F R F',ug P o' (mP e) (F++R) v' (F'++R)/\(keys (F'++R)).Nodup/\(keys F).Nodup/\(∀k∈keys F,k∈keys F')/\keys F'=b.fk/\keys R=b.rk /\
   (∀p∈F++R,η p.1=bc p.2)/\(∀k∈keys F',k ∉ keys F->η k=bh)/\BM=nH F' η/\Ce P o' e η BM v' b)->jJ P N all b e η (rI o'.dst v' e) BM:=λh=>⟨o',v',rS,tz,lf,rfl,h⟩
 have hB:∀{Fe BM:HF},(AB all e o=bc bd/\v=.no/\BM=Fe/\a.fk=[]/\a.rk=[])∨(AB all e o=bc bg/\∃F R F',ug P o (mP e) (F++R) v (F'++R)/\(keys (F'++R)).Nodup/\(keys F).Nodup/\(∀k∈keys F,k∈keys F')/\keys F'=a.fk/\keys R=a.rk /\
   (∀p∈F++R,Fe p.1=bc p.2)/\(∀k∈keys F',k ∉ keys F->Fe k=bh)/\BM=nH F' Fe/\Ce P o e Fe BM v a)->jJ P N all a (rI o'.dst v' e) Fe (rI o'.dst v' (rI o.dst v e)) BM:=λh=>by
  refine⟨o,v,ho,hn,hd,put_comm (v:=v') (v':=v) CS,?_⟩
  rcases h with⟨h1,h2⟩|⟨h1,F,R,F',h2,h3,h4,h5,h6,h7,h8,h9,p9,f1,f2⟩
  .exact .inl ⟨ew2.trans h1,h2⟩
  .refine .inr ⟨ew2.trans h1,F,R,F',h2.congr (λx hx=>ev2 x hx),h3,h4,h5,h6,h7,h8,h9,p9,λk t off hk=>?_,f2⟩;obtain⟨g1,g2,g3,g4⟩:=f1 k t off hk;exact⟨g1,g2,g3,λbt cs hc=>(g4 bt cs hc).congr λx hx=>ev2 x hx⟩
 rcases k with⟨k1,k2,rfl,k4,k5⟩|⟨k1,F2,R2,rN,l2,n2,SI,s2,Fp,Ia,g2,f2,rfl,q2,Ei⟩
 .exact⟨_,η,hA (.inl ⟨k1,k2,rfl,k4,k5⟩),hB h⟩
 .have SE:ug P o' (mP e) (F2++R2) v' (rN++R2):=l2.congr (λx hx=>(Ft x hx).symm)
  have q3:∀k t off,b.ld=bc (k,t,off)->b.fk=[]/\b.rk=[k]/\(∃bt cs,ky k=bc (.box bt cs)/\mO P t cs off=bc v')/\∀bt cs,mO P t cs off=bc v'->ug P o' (mP e) [(k,.box bt cs)] v' [(k,.box bt cs)]:=λk t off hk=>by obtain⟨g1,g2,g3,g4⟩:=q2 k t off hk;exact⟨g1,g2,g3,λbt cs hc=>(g4 bt cs hc).congr λx hx=>(Ft x hx).symm⟩
  rcases h with⟨h1,h2,rfl,h4,h5⟩|⟨h1,F1,R1,tt,l1,n1,nf1,s1,H_,Rc,g1,f1,rfl,q1,ac3⟩
  .exact⟨_,_,hA (.inr ⟨k1,F2,R2,rN,SE,n2,SI,s2,Fp,Ia,g2,f2,rfl,q3,Ei⟩),hB (.inl ⟨h1,h2,rfl,h4,h5⟩)⟩
  .rcases hi with⟨mv,l8,sE⟩|hi
   .have mv:=Hp mv;have l8:=Hp l8;have sE:=Hp sE
    have ME:∀k∈keys rN++keys R2,k ∉ keys tt:=λk hk Y5=>by
     rw[H_]at Y5
     rcases bw.1 hk with hk|hk
     .rw[Fp]at hk;exact mv k Y5 hk
     .rw[Ia]at hk;exact l8 k Y5 hk
    have P5:∀k∈keys tt++keys R1,k ∉ keys rN:=λk hk Y6=>by
     rw[Fp]at Y6
     rcases bw.1 hk with hk|hk
     .rw[H_]at hk;exact mv k hk Y6
     .rw[Rc]at hk;exact sE k hk Y6
    have aj8:∀p∈F2++R2,p.1∈keys rN++keys R2:=λp hp=>by
     rcases bw.1 hp with hp|hp
     .exact bI _ (s2 _ (ay hp))
     .exact bK _ (ay hp)
    have aj7:∀p∈F1++R1,p.1∈keys tt++keys R1:=λp hp=>by
     rcases bw.1 hp with hp|hp
     .exact bI _ (s1 _ (ay hp))
     .exact bK _ (ay hp)
    have CJ:nH rN (nH tt η)=nH tt (nH rN η):=zAo λk hk me=>ME k (bI _ hk) me
    refine⟨_,nH rN η,hA (.inr ⟨k1,F2,R2,rN,SE,n2,SI,s2,Fp,Ia,λp hp=>?_,λk hk nO=>?_,rfl,λk t off hk=>?_,λk t off hk=>?_⟩),hB (.inr ⟨h1,F1,R1,tt,l1,n1,nf1,s1,H_,Rc,λp hp=>?_,λk hk nO=>?_,CJ,λk t off hk=>?_,λk t off hk=>?_⟩)⟩
    .rw[<- g2 p hp,xz (ME _ (aj8 p hp))]
    .rw[<- f2 k hk nO,xz (ME k (bI _ hk))]
    .obtain⟨w1,w2,w3,w4⟩:=q3 k t off hk;rw[xz (ME k (bK _ (by rw[Ia,w2];exact bS.2 rfl)))]at w3;exact⟨w1,w2,w3,w4⟩
    .obtain⟨w1,bt,cs,iK,w2,w3,w4⟩:=Ei k t off hk;have CP:=ME k (bI _ (by rw[Fp];exact w1));rw[xz CP]at w2;rw[CJ,xz CP]at w3;exact⟨w1,bt,cs,iK,w2,w3,w4⟩
    .rw[<- g1 p hp,xz (P5 _ (aj7 p hp))]
    .rw[<- f1 k hk nO,xz (P5 k (bI _ hk))]
    .obtain⟨w1,w2,w3,w4⟩:=q1 k t off hk;rw[<- xz (F:=rN) (η:=η) (P5 k (bK _ (by rw[Rc,w2];exact bS.2 rfl)))]at w3;exact⟨w1,w2,w3,w4⟩
    .obtain⟨w1,bt,cs,iK,w2,w3,w4⟩:=ac3 k t off hk;have CP:=P5 k (bI _ (by rw[H_];exact w1));rw[<- xz (F:=rN) (η:=η) CP]at w2;rw[<- xz (F:=rN) (η:=nH tt η) CP]at w3;exact⟨w1,bt,cs,iK,w2,w3,w4⟩
   .obtain⟨i1,k,t,off,i2,i3⟩:=zLz hi
    have e1:tt=[]:=by
     have:keys tt=[]:=by rw[H_,i1]
     exact List.map_eq_nil_iff.1 this
    subst e1
    have afy:nH [] η=η:=funext λk=>xz (by simp[keys])
    obtain⟨w1,w2,⟨bt,cs,w3,w4⟩,w5⟩:=q1 k t off i2;rw[afy]at g2 f2 Ei q3 ⊢;obtain⟨ab4,G8,DV,cs2,u2,u3,afM⟩:=Ei k t off i3;rw[w3]at u2;cases u2;have ha:mO P t cs2 off=bc v:=afM.symm.trans w4
    have Cy:∀k t off,(k,t,off) ∉ a.kc:=λk t off hk=>by have:=(ac3 k t off hk).1;rw[i1]at this;cases this
    refine⟨_,nH rN η,hA (.inr ⟨k1,F2,R2,rN,SE,n2,SI,s2,Fp,Ia,g2,f2,rfl,q3,Ei⟩),hB (.inr ⟨h1,[],[(k,.box bt cs2)],[],w5 _ _ ha,?_,dG,λk hk=>hk,i1.symm,w2.symm,λp hp=>?_,λk hk=>(by cases hk),(funext λk=>xz (by simp[keys])).symm,λk' t' sR hk=>?_,λk t off hk=>aU hk (Cy k t off)⟩)⟩
    .simp[keys]
    .cases bS.1 hp;exact u3
    .rw[i2]at hk;cases hk;exact⟨w1,w2,⟨bt,cs2,u3,ha⟩,w5⟩
inductive Cn(P:bm)(N:Nat)(all:List Oper):List FP->(Nat->V)->HF->(Nat->V)->HF->Prop
 |nil {e:Nat->V} {η:HF}:Cn P N all [] e η e η
 |cons {a:FP} {l:List FP} {e e1 e2:Nat->V} {η ky η2:HF} (h:jJ P N all a e η e1 ky) (k:Cn P N all l e1 ky e2 η2):Cn P N all (a::l) e η e2 η2
def Cn.front{P:bm}{N:Nat}{all:List Oper}{b:FP}{l2:List FP}:∀{l1:List FP}{e e2:Nat->V}{η η2:HF},Cn P N all (l1++b::l2) e η e2 η2->(∀a∈l1,Qp all a b=bg) ->
  ∃e1 ky,jJ P N all b e η e1 ky/\Cn P N all (l1++l2) e1 ky e2 η2
 |[],e,e2,η,η2,h,_=>by
  cases h with
  |cons h k=>exact⟨_,_,h,k⟩
 |a::l1,e,e2,η,η2,h,hi=>by
  cases h with
  |cons h k =>
   obtain⟨e1,ky,h1,h2⟩:=Cn.front (l1:=l1) k λc hc=>hi c (gq _ hc)
   obtain⟨Fo,GW,h3,h4⟩:=h.swap h1 (hi a al);exact⟨Fo,GW,h3,.cons h4 h2⟩
def Qq(l:List Edge)(acc:List Nat):Nat->Nat:=λs=>match l with
 |[]=>s
 | e::r=>Qq r acc (if Region.binds .any e then s ||| 2 ^ e.on ||| acc.getD e.on 0 else s)
def jk:List Oper->List Nat->List Nat
 |[],acc=>acc
 |o::r,acc=>jk r (acc++[Qq o.after.toList acc 0])
def pD(ms:List Nat)(j i:Nat):Bool:=(ms.getD j 0).testBit i
def zfp{acc:List Nat}{i:Nat}:∀{l:List Edge}{s:Nat},(Qq l acc s).testBit i=bg->s.testBit i=bg∨∃e∈l,Region.binds .any e=bg/\(e.on=i∨(acc.getD e.on 0).testBit i=bg)
 |[],s,h=>.inl h
 |e::r,s,h=>by
  simp only[Qq]at h
  rcases zfp h with h|⟨e',CK,h1,h2⟩
  .split at h
   .rename_i hb;simp only[Nat.testBit_or,dc]at h
    rcases h with(h|h)|h
    .exact .inl h
    .refine .inr ⟨e,al,hb,.inl ?_⟩;rw[Nat.testBit_two_pow]at h;simpa using h
    .exact .inr ⟨e,al,hb,.inr h⟩
   .exact .inl h
  .exact .inr ⟨e',gq _ CK,h1,h2⟩
def zfq:∀(l:List Oper)(acc:List Nat),(jk l acc).take acc.length=acc/\∀(k:Nat)(o:Oper),l[k]?=bc o->(jk l acc).getD (acc.length+k) 0=Qq o.after.toList ((jk l acc).take (acc.length+k)) 0
 |[],acc=>⟨by simp[jk],λk o h=>by simp at h⟩
 |o::r,acc=>by
  obtain⟨h1,h2⟩:=zfq r (acc++[Qq o.after.toList acc 0]);simp only[jk];have hl:(acc++[Qq o.after.toList acc 0]).length=acc.length+1:=af;rw[hl]at h1 h2
  have hta:(jk r (acc++[Qq o.after.toList acc 0])).take acc.length=acc:=by have:=aQ (List.take acc.length) h1;rw[eU,ei ab]at this;rw[this];simp
  refine⟨hta,λk o' hk=>?_⟩
  cases k with
  |zero =>
   simp only[eI,Option.some.injEq]at hk;subst hk;rw[dM,hta,bY]
   have:(jk r (acc++[Qq o.after.toList acc 0]))[acc.length]?=bc (Qq o.after.toList acc 0):=by have h3:=aQ (λl=>l[acc.length]?) h1;simp only[cE]at h3;rw[aP ab]at h3;rw[h3];simp
   rw[this];rfl
  |succ k =>
   have:=h2 k o' (by simpa using hk);rw[show acc.length+1+k=acc.length+(k+1) by omega]at this;exact this
def Vw(all:List Oper):Bool:=(cQ all.length).all λj=>match all[j]? with
 | some o=>o.after.toList.all λe=>!Region.binds .any e||cw (e.on+1) j
 |none=>bg
def V5{all:List Oper}(h:Vw all=bg){j:Nat}{o:Oper}(ho:all[j]?=bc o){e:Edge}(he:e∈o.after)(hb:Region.binds .any e=bg):e.on<j:=by have hj:j<all.length:=(bx.1 ho).1;have h1:=(bj.1 h) j (List.mem_range.2 hj);rw[ho]at h1;have h2:=(bj.1 h1) e (by simpa using he);simp only[hb,Bool.not_true,Bool.false_or]at h2;exact lb h2
def zfr{all:List Oper}(hE:Vw all=bg){listed:Array Bool}(hc:EG all.toArray listed):∀(j:Nat)(o:Oper),all[j]?=bc o->(∀e∈o.after,Region.binds .any e=bg->listed.getD e.on bd=bg)->∀i,pD (jk all []) j i=bg->listed.getD i bd=bg:=by
 intro j
 induction j using Nat.strongRecOn with
 |_ j ih =>
  intro o ho su i hi;have hs:=(zfq all []).2 j o ho;simp only[bN,cA]at hs;unfold pD at hi;rw[hs]at hi
  rcases zfp hi with h|⟨e,he,hb,h⟩
  .simp at h
  .have CK:e∈o.after:=by simpa using he
   have fZ:=V5 hE ho CK hb;have hl:=su e CK hb
   rcases h with rfl|h
   .exact hl
   .have hj:j<all.length:=(bx.1 ho).1;have ho2:all[e.on]?=bc (all[e.on]' ab):=bF ab;refine ih e.on fZ _ ho2 (λe2 he2 lj=>hc e.on _ hl (by simpa using ho2) e2 he2 lj) i ?_;unfold pD;rw[bY,cE,aP fZ,<- bY]at h;exact h
def jf(all:List Oper)(ms:List Nat):List FP->Bool
 |[]=>bg
 | a::r=>r.all (λb=>pD ms b.i a.i||Qp all a b)&&jf all ms r
def JH{all:List Oper}{ms:List Nat}{b:FP}{l2:List FP}:∀{l1:List FP},jf all ms (l1++b::l2)=bg->(∀a∈l1,pD ms b.i a.i=bg∨Qp all a b=bg)/\jf all ms (l1++l2)=bg
 |[],h=>by
  simp only[cl,jf,bn]at h;exact⟨λ_ h=>(by cases h),h.2⟩
 |a::l1,h=>by
  simp only[bO,jf,bn]at h;obtain⟨h1,h2⟩:=JH h.2;have h3:=bj.1 h.1;refine⟨λx hx=>?_,?_⟩
  .rcases bq.1 hx with rfl|hx
   .have:=h3 b af;simpa using this
   .exact h1 x hx
  .simp only[bO,jf,bn];refine⟨bj.2 λx hx=>h3 x ?_,h2⟩
   rcases bw.1 hx with hx|hx
   .exact bI _ hx
   .exact bK _ (gq _ hx)
def zlt:∀{l:List Nat},l.Nodup->nodupB l=bg
 |[],_=>rfl
 |k::r,h=>by rw[cJ]at h;simp only[nodupB,bn,bW,cy,aX];exact⟨h.1,zlt h.2⟩
def WB{H:ax}:∀{F:ax},(∀p∈F,H.get p.1=bc p.2)->ua (keys F) H=bc F
 |[],_=>rfl
 |(k,o)::r,h=>by
  have h1:=h (k,o) al
  have h2:=WB (F:=r) λp hp=>h p (gq _ hp)
  show(match H.get k,ua (keys r) H with|some o,bc l=>bc ((k,o)::l)|_,_=>bh)=_
  rw[h1,h2]
def get_none:∀{H:ax}{k:Nat},k ∉ keys H↔H.get k=bh
 |[],k=>by simp[keys,ax.get]
 |(k',o)::r,k=>by
  simp only[keys,gf,bq,not_or,ax.get]
  cases hb:bk k k' with
  |true=>simp[eb hb]
  |false =>
   have:k≠k':=λe=>by subst e;rw[cF]at hb;cases hb
   simp only[cf,ne_eq,this,not_false_eq_true,true_and];exact get_none
def get_append{A B:ax}{k:Nat}:(A++B).get k=if k∈keys A then A.get k else B.get k:=by
 induction A with
 |nil=>simp[keys]
 |cons p A ih =>
  obtain⟨k',o⟩:=p;simp only[bO,ax.get,keys,gf,bq]
  cases hb:bk k k' with
  |true=>simp[eb hb]
  |false =>
   have:k≠k':=λe=>by subst e;rw[cF]at hb;cases hb
   simp only[cf,this,false_or];exact ih
def QK{ks:List Nat}{H:ax}{k:Nat}(h:k ∉ ks):(qw ks H).get k=H.get k:=by
 induction H with
 |nil=>rfl
 |cons p H ih =>
  obtain⟨k',o⟩:=p;simp only[qw,List.filter_cons];split
  .simp only[ax.get];rw[show ax.get (List.filter (λp=>!ks.contains p.1) H) k=ax.get H k from ih]
  .rename_i hc
   have me:k'∈ks:=by simpa using hc
   have g_:k≠k':=λe=>h (e▸me)
   have hb:bk k k'=bd:=by
    cases hb:bk k k' with
    |true=>exact aU (eb hb) g_
    |false=>rfl
   simp only[ax.get,hb,cf];exact ih
def QL{A B:ax}(hA:(keys A).Nodup)(hB:(keys B).Nodup)(h:∀k,A.get k=B.get k):A.Perm B:=by
 refine(abi (wj _ hA) (wj _ hB)).2 λp=>?_
 obtain⟨k,o⟩:=p;constructor
 .intro hp;have:=get_of_mem hA hp;rw[h]at this;exact ax.get_mem this
 .intro hp;have:=get_of_mem hB hp;rw[<- h]at this;exact ax.get_mem this
section
variable{K0:List Nat}{c:Ctx K0}{P:bm}{r:Option Nat}{N:Nat}{all:List Oper}{ds:List cg}
def Er(c:Ctx K0)(N:Nat)(ds:List cg)(e:Nat->V)(η:HF)(a:Act)(w:bE):Prop:=
 xg c ds w/\∃ρr ρ H,pX N ds a ρr/\ρ.get=e/\H.get=η/\Kv c ρ H ρr w
def zlu{fp:FP}{e e1:Nat->V}{η ky:HF}{a:Act}{w:bE}{n:Nat}{Q:Exit->Act->bE->Prop}{KK:Act->bE->Prop}(hs:jJ P N all fp e η e1 ky)(S:Er c N ds e η a w)(h:∀a' w',Er c N ds e1 ky a' w'->KK a' w'):wpOpIn (Fw r) n P all.toArray Q fp.i KK a w:=by
 obtain⟨o,v,ho,hn,hd,rfl,aj1⟩:=hs;obtain⟨hM,ρr,ρ,H,hf,rfl,rfl,SA⟩:=S;obtain⟨m,Z,SC,hR⟩:=id SA
 have adr:∀{x:bu}{H1:ax}{m':M}{Z':ZM}{w':bE},xg c ds w'->QI c m' Z' H1 w'->pO m' Z' ρ ρr->aV (bc m') Z' v x->Er c N ds (rI o.dst v ρ.get) H1.get (a.put o.dst x) w':=by
  intro x H1 m' Z' w' lT S' FA hx
  cases ahT:o.dst with
  |none=>exact⟨lT,ρr,ρ,H1,hf.MN _,rfl,rfl,m',Z',S',FA⟩
  |some d=>exact⟨lT,sM ρr d x,(d,v)::ρ,H1,hf.put (Nat.lt_of_succ_le (hd d ahT)) x,rfl,rfl,m',Z',S',FA.put d hx⟩
 have rS:all.toArray[fp.i]?=bc o:=by simpa using ho
 unfold wpOpIn;simp only[rS]
 rcases aj1 with⟨hw,rfl,rfl,_,_⟩|⟨hw,F,R,F',hl,mF,hnF,nZ,_,_,pg,lh,rfl,_⟩
 .have ng:=(hf.wanted all o).trans (vn hR hw);simp only[ng,cr,if_false];exact⟨λ_ _=>trivial,h _ _ (adr hM SC hR rfl)⟩
 .have ng:=(hf.wanted all o).trans (vn hR hw);simp only[ng,if_true];refine⟨λ_ _=>trivial,?_⟩;rw[oZ hn,hf.eval];have hHn:=SC.step.gy.nodup
  have hFR:(keys (F++R)).Nodup:=by rw[zC]at mF ⊢;obtain⟨_,h2,h3⟩:=cO.1 mF;exact cO.2 ⟨hnF,h2,λa ha b hb=>h3 a (nZ a ha) b hb⟩
  have na:ua (keys (F++R)) H=bc (F++R):=WB pg
  have adW:JE (F'++R) (keys (F++R)) H=bg:=bj.2 λp hp=>by
   simp only[dc,cy,aW,bW,aX];rw[zC,bw]
   rcases bw.1 hp with hp|hp
   .by_cases Iy:p.1∈keys F
    .exact .inl (.inl Iy)
    .exact .inr (get_none.2 (lh p.1 (ay hp) Iy))
   .exact .inl (.inr (ay hp))
  have aka:=vF hHn hFR na;have adt:wo m Z ((F++R)++qw (keys (F++R)) H) w:=SC.step.gy.perm aka
  obtain⟨tz,hex⟩:=hl ρr m Z w (λx _=>by rw[Ly];exact hR.ev x) adt.left (λk hk nO=>SC.rn k (by
   obtain⟨p,iT,rfl⟩:=bz.1 hk;have:=(bj.1 adW) p iT;simp only[dc,cy,aW,bW,aX]at this
   rcases this with this|this
   .exact aU this nO
   .exact this))
  have aj4:((F'++R)++qw (keys (F++R)) H).get=nH F' H.get:=by
   funext k
   rw[get_append];by_cases h1:k∈keys (F'++R)
   .rw[aP h1,get_append];by_cases h2:k∈keys F'
    .simp[nH,h2]
    .rw[aO h2,xz h2]
     have h3:k∈keys R:=by rw[zC,bw]at h1;exact h1.resolve_left h2
     obtain⟨p,hp,rfl⟩:=bz.1 h3;rw[pg p (bK _ hp)]
     have hnR:(keys R).Nodup:=by rw[zC]at mF;exact(cO.1 mF).2.1
     exact get_of_mem hnR hp
   .rw[aO h1];rw[zC,bw,not_or]at h1;rw[xz h1.1];exact QK (by rw[zC,bw];exact λh'=>h'.elim (λh'=>h1.1 (nZ k h')) h1.2)
  have go:∀x w',(∃m' Z',Step m Z (F++R) w m' Z' (F'++R) w'/\aV (bc m') Z' v x)->KK (a.put o.dst x) w':=λx w' ⟨m',Z',fS,hr⟩=>by refine h _ _ ?_;rw[<- aj4];exact adr (hM.step adt.left fS) (SC.P7 (zlt hFR) na adW λ_ _=>fS) (hR.up fS.lR fS.mM) hr
  rcases hex with⟨x,w',iV,hx⟩|⟨w',iV,hx⟩|⟨f,args,w1,iV,hx⟩
  .rw[iV,Oper.uponIn_value];exact go x w' hx
  .rw[iV,Oper.uponIn_skip];exact go _ w' hx
  .rw[iV,Oper.uponIn_enter];refine⟨λhx=>by simp[Fw]at hx,(AR r hx).mono λen rF ⟨x,he,hr⟩=>?_⟩;subst he;exact go x rF hr
def zlv{L:List FP}{i:Nat}(h:i∈L.map (·.i)):∃l1 b l2,L=l1++b::l2/\b.i=i:=by obtain⟨b,hb,rfl⟩:=bz.1 h;obtain⟨l1,l2,rfl⟩:=List.append_of_mem hb;exact⟨l1,b,l2,rfl,rfl⟩
def zOt(hE:Vw all=bg){Q:Exit->Act->bE->Prop}{n:Nat}{e2:Nat->V}{η2:HF}(hQ:∀a w,Er c N ds e2 η2 a w->Q .normal a w):∀(fuel:Nat)(L:List FP)(listed:Array Bool)(e:Nat->V)(η:HF)(a:Act)(w:bE),
  Cn P N all L e η e2 η2->jf all (jk all []) L=bg->(L.map (·.i)).Pairwise (· < ·)->(∀i,i<all.length->(listed.getD i bd=bd↔i∈L.map (·.i)))->(∀i∈L.map (·.i),i<all.length)->EG all.toArray listed->listed.size=all.length->L.length<=fuel ->
  Er c N ds e η a w->wpAnyIn (Fw r) n P .any all.toArray Q fuel listed a w:=by
 intro fuel
 have akz:∀(L:List FP)(listed:Array Bool),(L.map (·.i)).Pairwise (· < ·)->(∀i,i<all.length->(listed.getD i bd=bd↔i∈L.map (·.i)))->(∀i∈L.map (·.i),i<all.length)->listed.size=all.length->Region.ready .any all.toArray listed=[]->L=[]:=by
  intro L listed hp hl fZ gp hr
  cases L with
  |nil=>rfl
  |cons b L =>
   exfalso;have hb:=fZ b.i af
   have gV:b.i∈Region.ready .any all.toArray listed:=by
    refine mem_ready.2 ⟨?_,all[b.i]'hb,by simpa using bF hb,λe' CK ZJ=>?_⟩
    .have:=(hl b.i hb).2 af;have Mt:b.i<listed.size:=ab;simp only[cz,dU Mt,dJ]at this ⊢;exact this
    .have Mu:=V5 hE (bF hb) CK ZJ
     cases hq:listed.getD e'.on bd with
     |true=>rfl
     |false =>
      have:=(hl e'.on ab).1 hq;rw[gf]at this hp
      rcases bq.1 this with h'|h'
      .rw[h']at Mu;exact aU Mu (gI _)
      .have h2:=(eL.1 hp).1 _ h';exact aU (Nat.lt_trans Mu h2) (gI _)
   rw[hr]at gV;cases gV
 induction fuel with
 |zero =>
  intro L listed e η a w mu _ hp hl fZ hc gp hlen S;have:L=[]:=cD ab;subst this;cases mu;refine⟨?_,hQ a w S⟩
  refine List.eq_nil_iff_forall_not_mem.2 λj hj=>?_
  obtain⟨h1,o,ho,_⟩:=mem_ready.1 hj
  have BY:j<all.length:=by have:=(ck.1 ho).1;simpa using this
  have Mt:j<listed.size:=ab
  have:listed.getD j bd=bd:=by simp only[cz,dU Mt,dJ]at h1 ⊢;exact h1
  have:=(hl j BY).1 this;cases this
 |succ fuel ih =>
  intro L listed e η a w mu RN hp hl fZ hc gp hlen S;refine⟨λhr=>?_,λj hj=>?_⟩
  .have:=akz L listed hp hl fZ gp hr;subst this;cases mu;exact hQ a w S
  .obtain⟨h1,o,ho,su⟩:=mem_ready.1 hj
   have BY:j<all.length:=by have:=(ck.1 ho).1;simpa using this
   have D_:j<listed.size:=ab
   have R5:listed.getD j bd=bd:=by simp only[cz,dU D_,dJ]at h1 ⊢;exact h1
   obtain⟨l1,b,l2,rfl,rfl⟩:=zlv ((hl j BY).1 R5);obtain⟨iO,Y3⟩:=JH RN;have z':((l1++b::l2).map (·.i)).Pairwise (· < ·):=hp;rw[cG,gf,eB]at z';obtain⟨Iw,Se,Ix⟩:=z';have My:=eL.1 Se
   have G0:∀x∈l1,Qp all x b=bg:=λx hx=>by
    rcases iO x hx with h'|h'
    .exfalso;have FK:=zfr hE hc b.i o (by simpa using ho) su x.i h';have So:x.i<all.length:=fZ x.i (by simp;exact .inl ⟨x,hx,rfl⟩);have:=(hl x.i So).2 (by simp;exact .inl ⟨x,hx,rfl⟩);rw[FK]at this;cases this
    .exact h'
   obtain⟨e1,ky,iS,YY⟩:=mu.front G0
   refine zlu iS S λa' w' S'=>ih (l1++l2) _ e1 ky a' w' YY Y3 ?_ ?_ ?_ (hc.set hj) (by simpa using gp) (by simp at hlen ⊢;omega) S'
   .rw[cG,eB];exact⟨Iw,My.2,λx hx y hy=>Ix x hx y (gq _ hy)⟩
   .intro i hi;have g_:i=b.i∨i≠b.i:=Decidable.em _
    rcases g_ with rfl|g_
    .have Mv:b.i ∉ (l1++l2).map (·.i):=by
      rw[cG,bw];rintro(h'|h')
      .have:=Ix _ h' b.i al;omega
      .have:=My.1 _ h';omega
     have h9:(listed.setIfInBounds b.i bg).getD b.i bd=bg:=by simp[D_]
     rw[h9];exact⟨λh'=>(by cases h'),λh'=>aU h' Mv⟩
    .rw[getD_set_ne bd (Ne.symm g_),hl i hi];simp only[cG,gf,bw,bq,g_,false_or]
   .intro i hi;refine fZ i ?_;rw[cG,bw]at hi;simp only[cG,gf,bw,bq]
    rcases hi with hi|hi
    .exact .inl hi
    .exact .inr (.inr hi)
def aaE(l:List Oper):EG l.toArray (Array.replicate l.length bd):=by intro j o hj _;exfalso;simp only[cz,dF]at hj;split at hj<;>cases hj
def uu(P:bm)(N:Nat)(all:List Oper)(done:List FP)(l:List Oper)(ρ:Env)(H:ax)(K:Env->ax->Prop):Prop:=
 ∃fps ρ' H',(keys H).Nodup->(fps.map (·.i)=abX (all.length-l.length) l.length/\Cn P N all fps ρ.get H.get ρ'.get H'.get/\(keys H').Nodup/\jf all (jk all []) (done.reverse++fps)=bg/\K ρ' H')
variable{ρ:Env}{H:ax}{Q:xH}
def zUi{id:Nat}(hm:P.follows .mixedOrders=bg)(hE:Vw all=bg)(h:uu P N all [] all ρ H λρ' H'=>Q .normal ρ' H' ds):lK c P r N (.region id all.toArray bg) Q ρ H ds:=by
 intro ρr w iX S hM a n hf;obtain⟨fps,ρ',H',h⟩:=h;obtain⟨m,Z,SC,hR⟩:=S;obtain⟨h1,h2,h3,h4,h5⟩:=h SC.step.gy.nodup
 have Z3:Kv c ρ H ρr w.drew:=⟨m,Z,⟨SC.step.trans (Step.same SC.step.gy rfl rfl rfl rfl),SC.rn⟩,hR⟩
 rw[Nat.sub_self]at h1;refine wpIn_region_any hm ?_
 have adZ:∀i,i∈fps.map (·.i)↔i<all.length:=λi=>by rw[h1,List.mem_range'];simp
 refine zOt (c:=c) (ds:=iX) (r:=r) hE (e2:=ρ'.get) (η2:=H'.get) (λa' w' S'=>?_) all.toArray.size fps _ ρ.get H.get a _ h2 (by simpa using h4) ?_ ?_ ?_ ?_ af ?_ ⟨hM.same rfl,ρr,ρ,H,hf,rfl,rfl,Z3⟩
 .obtain⟨lT,y2,ρ2,H2,mb,e1,e2,m',Z',MR,FA⟩:=S';refine⟨y2,iX,mb,ρ',H',?_,lT,h5⟩
  have hp:H2.Perm H':=QL MR.step.gy.nodup h3 λk=>by rw[e2]
  have:Kv c ρ' H2 y2 w':=⟨m',Z',MR,λt=>by rw[<- e1];exact FA t⟩
  exact this.perm hp
 .rw[h1];exact List.pairwise_lt_range'
 .intro i hi;rw[adZ];simp only[cH,cz,dF];rw[aP hi];simp[hi]
 .exact λi hi=>(adZ i).1 hi
 .have:=aaE all;simpa using this
 .have:=aQ bf h1;simp at this;simp[this]
end
section
variable{P:bm}{N:Nat}{all rest:List Oper}{done:List FP}{ρ:Env}{H:ax}{K:Env->ax->Prop}{o:Oper}
def ai1(hc:jf all (jk all []) done.reverse=bg)(h:K ρ H):uu P N all done [] ρ H K:=⟨[],ρ,H,λhn=>⟨rfl,.nil,hn,by simpa using hc,h⟩⟩
def zL0{fp:FP}{lS:Env}{H1:ax}(hi:fp.i=all.length-(rest.length+1))(hlen:rest.length+1<=all.length)(hs:(keys H).Nodup->(keys H1).Nodup/\jJ P N all fp ρ.get H.get lS.get H1.get)(h:uu P N all (fp::done) rest lS H1 K):uu P N all done (o::rest) ρ H K:=by
 obtain⟨fps,ρ',H',h⟩:=h;refine⟨fp::fps,ρ',H',λhn=>?_⟩;obtain⟨mW,hs⟩:=hs hn;obtain⟨h1,h2,h3,h4,h5⟩:=h mW;refine⟨?_,.cons hs h2,h3,by simpa using h4,h5⟩;rw[gf,h1,lc,aa8,hi]
 congr 2
 omega
def zUj(i:Nat)(hi:(all.length-(rest.length+1))=i)(hlen:cw (rest.length+1) all.length=bg)(ho:all[i]?=bc o)(hn:jV o.op=bg)(hd:(match o.dst with|some d=>cw (d+1) N|none=>bg)=bg)(hw:yR all ρ o=bc bd)
  (h:uu P N all (.m i [] []::done) rest (pP o.dst .no ρ) H K):uu P N all done (o::rest) ρ H K:=by refine zL0 hi.symm (lb hlen) (λmF=>⟨mF,o,.no,ho,hn,λd lf=>?_,Vz _ _ _,.inl ⟨hw,rfl,rfl,rfl,rfl⟩⟩) h;rw[lf]at hd;exact lb hd
end
def QM:Op->Bool|.defer _=>bd|_=>bg
section
variable{P:bm}{N:Nat}{all rest:List Oper}{ρ:Env}{H H':ax}{K:Env->ax->Prop}
def AD{op:Op}(h:QM op=bg):jV op=bg:=by cases op<;>first|rfl|cases h
end
end Go.EV
